/- FnExactManifestName answers true for every input and leaves its arguments as they were. No condition. -/
import Derived.Test.YteejljpfpnlpaaaG2
import Derived.Test.YteejljpfpnlpaaaLift
import Derived.Test.YteejljpfpnlpaaaRows
set_option linter.all false
namespace Go.Proofs.Yteejljpfpnlpaaa
open Go.Vs Go.Proofs
open Go.ChangeShapes Go.WideShapes Go.ChangeAt Go.RowKit
theorem Name.opens : Opens Try.prog 44 (fun p : Name => Name.c false p) (fun p : Name => Name.fits p ∧ True) :=
  Opens.struct kids (of_decide_eq_true (by kernel_rfl)) Try.underlying44 rfl
    (OpensF.cons ((Opens.slice (sz := 1) Try.underlying42 (by kernel_rfl) (by decide) (fun _ => rfl) (Opens.string Try.underlying9))) OpensF.nil)
    (fun x => ⟨x.1⟩) (fun _ => rfl) (fun a h => ⟨h.1, trivial⟩)
set_option maxRecDepth 100000 in
theorem lifted_ManifestName (os : Os) (started : os.Started) (H : Type) (enc : TypeId × Value → H) :
    ReturnsInHanded {} Try.checked os 7 .any (Rows.fnExactManifestNameSpec.pre6 enc Try.prog Try.f7 Rows.fnExactManifestNameRow.domain false) (Rows.fnExactManifestNameSpec.post enc Try.prog Try.f7 false true false false) := by
  refine returnsInHanded_of_change (C := Try.checked) own started (by kernel_rfl) Try.func7
    (ChangeSpec.witness6 (enc := enc) (C := Try.checked) false ⟨#[], #[.agg #[.slice none 0 0]], []⟩ 8 (by kernel_rfl) (by kernel_rfl) (by kernel_rfl) (by kernel_rfl)) ?_
  intro W base args ds gs before hval hW _ _
  exact law_calls (fn := Try.f7) (s := Rows.fnExactManifestNameSpec) (ts := [44]) (tb := 4) kids full rfl (by intro t ht; simp at ht; rcases ht with rfl <;> exact of_decide_eq_true (by kernel_rfl)) rfl Try.underlying4 rfl
    (by intro H ds h; match ds, h with | [d0], _ => exact ⟨rfl, rfl, rfl⟩)
    (OpensA.agg (P := Try.prog) Try.underlying44 (Name.opens) OpensA.nil)
    (outs := fun p => [A (Name.c false p.1)]) (fun p hp => exManifestName p.1 hp.1.1) enc W base args ds gs before hval hW
theorem fnExactManifestName_holds : Rows.FnExactManifestNameSaid :=
  OpenClaim.holds_of_wide 7 Try.f7 rfl rfl rfl rfl rfl rfl rfl ⟨rfl, rfl, rfl, rfl, rfl⟩ rfl rfl rfl rfl rfl (by kernel_rfl) Try.func7 (by kernel_rfl)
    (of_decide_eq_true (by kernel_rfl)) (by unfold Func.isWrapper; first | (rw [if_pos (by decide +kernel)]; kernel_rfl) | (rw [if_neg (by decide +kernel)]; exact ⟨rfl, rfl⟩))
    (fun os started H enc _ => lifted_ManifestName os started H enc)
#print axioms fnExactManifestName_holds
end Go.Proofs.Yteejljpfpnlpaaa

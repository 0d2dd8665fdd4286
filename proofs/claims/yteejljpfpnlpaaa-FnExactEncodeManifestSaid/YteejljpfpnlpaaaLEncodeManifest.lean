/- FnExactEncodeManifest answers true for every input and leaves its arguments as they were. No condition. -/
import Derived.Test.YteejljpfpnlpaaaG4
import Derived.Test.YteejljpfpnlpaaaLift
import Derived.Test.YteejljpfpnlpaaaRows
set_option linter.all false
namespace Go.Proofs.Yteejljpfpnlpaaa
open Go.Vs Go.Proofs
open Go.ChangeShapes Go.WideShapes Go.ChangeAt Go.RowKit
theorem Mani.opens : Opens Try.prog 24 (fun p : Mani => Mani.c false p) (fun p : Mani => Mani.fits p ∧ Mani.rng p) :=
  Opens.struct kids (of_decide_eq_true (by kernel_rfl)) Try.underlying24 rfl
    (OpensF.cons (Opens.int Try.underlying3) (OpensF.cons (Opens.int Try.underlying3) (OpensF.cons ((Opens.slice (sz := 1) Try.underlying22 (by kernel_rfl) (by decide) (fun _ => rfl) (Opens.int Try.underlying3))) OpensF.nil)))
    (fun x => ⟨x.1, x.2.1, x.2.2.1⟩) (fun _ => rfl) (fun a h => ⟨h.2.2.1.1, ⟨h.1, h.2.1⟩⟩)
set_option maxRecDepth 100000 in
theorem lifted_EncodeManifest (os : Os) (started : os.Started) (H : Type) (enc : TypeId × Value → H) :
    ReturnsInHanded {} Try.checked os 8 .any (Rows.fnExactEncodeManifestSpec.pre6 enc Try.prog Try.f8 Rows.fnExactEncodeManifestRow.domain false) (Rows.fnExactEncodeManifestSpec.post enc Try.prog Try.f8 false true false false) := by
  refine returnsInHanded_of_change (C := Try.checked) own started (by kernel_rfl) Try.func8
    (ChangeSpec.witness6 (enc := enc) (C := Try.checked) false ⟨#[], #[.agg #[.int .i64 0, .int .i64 0, .slice none 0 0]], []⟩ 8 (by kernel_rfl) (by kernel_rfl) (by kernel_rfl) (by kernel_rfl)) ?_
  intro W base args ds gs before hval hW _ _
  exact law_calls (fn := Try.f8) (s := Rows.fnExactEncodeManifestSpec) (ts := [24]) (tb := 4) kids full rfl (by intro t ht; simp at ht; rcases ht with rfl <;> exact of_decide_eq_true (by kernel_rfl)) rfl Try.underlying4 rfl
    (by intro H ds h; match ds, h with | [d0], _ => exact ⟨rfl, rfl, rfl⟩)
    (OpensA.agg (P := Try.prog) Try.underlying24 (Mani.opens) OpensA.nil)
    (outs := fun p => [A (Mani.c false p.1)]) (fun p hp => exEncodeManifest p.1 hp.1.1 hp.1.2) enc W base args ds gs before hval hW
theorem fnExactEncodeManifest_holds : Rows.FnExactEncodeManifestSaid :=
  OpenClaim.holds_of_wide 8 Try.f8 rfl rfl rfl rfl rfl rfl rfl ⟨rfl, rfl, rfl, rfl, rfl⟩ rfl rfl rfl rfl rfl (by kernel_rfl) Try.func8 (by kernel_rfl)
    (of_decide_eq_true (by kernel_rfl)) (by unfold Func.isWrapper; first | (rw [if_pos (by decide +kernel)]; kernel_rfl) | (rw [if_neg (by decide +kernel)]; exact ⟨rfl, rfl⟩))
    (fun os started H enc _ => lifted_EncodeManifest os started H enc)
#print axioms fnExactEncodeManifest_holds
end Go.Proofs.Yteejljpfpnlpaaa

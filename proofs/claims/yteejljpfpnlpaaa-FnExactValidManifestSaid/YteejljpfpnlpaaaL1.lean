/- FnExactValidManifest answers true for every input and leaves its argument as it was. No condition. -/
import Derived.Test.YteejljpfpnlpaaaFb
import Derived.Test.YteejljpfpnlpaaaRows
set_option linter.all false
namespace Go.Proofs.Yteejljpfpnlpaaa
open Go.Vs Go.Proofs
open Go.ChangeShapes Go.WideShapes Go.ChangeAt Go.RowKit
theorem own : ownKnob Try.prog.godebug = none := by kernel_rfl
theorem kids : Kids Try.prog (· < Try.prog.types.size) := kids_rows (by kernel_rfl) (by kernel_rfl)
theorem full : ∀ t e, t < Try.prog.types.size → Try.prog.underlying t = some (.slice e) → 0 < Try.prog.cellsOf e := slices_full_of Try.prog (by kernel_rfl)
theorem Mani.opens : Opens Try.prog 24 (fun p : Mani => p.c false) Mani.fits :=
  Opens.struct kids (of_decide_eq_true (by kernel_rfl)) Try.underlying24 rfl
    (OpensF.cons (Opens.int Try.underlying3) (OpensF.cons (Opens.int Try.underlying3) (OpensF.cons (Opens.slice (sz := 1) Try.underlying22 (by kernel_rfl) (by decide) (fun _ => rfl) (Opens.int Try.underlying3)) OpensF.nil)))
    (fun x => ⟨x.1, x.2.1, x.2.2.1⟩) (fun _ => rfl) (fun a h => h.2.2.1.1)
set_option maxRecDepth 100000 in
theorem lifted_ValidManifest (os : Os) (started : os.Started) (H : Type) (enc : TypeId × Value → H) :
    ReturnsInHanded {} Try.checked os 3 .any (Rows.fnExactValidManifestSpec.pre6 enc Try.prog Try.f3 Rows.fnExactValidManifestRow.domain false) (Rows.fnExactValidManifestSpec.post enc Try.prog Try.f3 false true false false) := by
  refine returnsInHanded_of_change (C := Try.checked) own started (by kernel_rfl) Try.func3
    (ChangeSpec.witness6 (enc := enc) (C := Try.checked) false ⟨#[], #[.agg #[.int .i64 0, .int .i64 0, .slice none 0 0]], []⟩ 8 (by kernel_rfl) (by kernel_rfl) (by kernel_rfl) (by kernel_rfl)) ?_
  intro W base args ds gs before hval hW _ _
  exact law_calls (fn := Try.f3) (s := Rows.fnExactValidManifestSpec) (ts := [24]) (tb := 4) kids full rfl (by intro t ht; simp at ht; subst ht; exact of_decide_eq_true (by kernel_rfl)) rfl Try.underlying4 rfl
    (by intro H ds h; match ds, h with | [d], _ => exact ⟨rfl, rfl, rfl⟩)
    (OpensA.agg (P := Try.prog) Try.underlying24 Mani.opens OpensA.nil)
    (outs := fun p => [A (p.1.c false)]) (fun p hp => exValidManifest p.1 hp.1) enc W base args ds gs before hval hW
theorem fnExactValidManifest_holds : Rows.FnExactValidManifestSaid :=
  OpenClaim.holds_of_wide 3 Try.f3 rfl rfl rfl rfl rfl rfl rfl ⟨rfl, rfl, rfl, rfl, rfl⟩ rfl rfl rfl rfl rfl (by kernel_rfl) Try.func3 (by kernel_rfl)
    (of_decide_eq_true (by kernel_rfl)) (by unfold Func.isWrapper; first | (rw [if_pos (by decide +kernel)]; kernel_rfl) | (rw [if_neg (by decide +kernel)]; exact ⟨rfl, rfl⟩))
    (fun os started H enc _ => lifted_ValidManifest os started H enc)
#print axioms fnExactValidManifest_holds
end Go.Proofs.Yteejljpfpnlpaaa

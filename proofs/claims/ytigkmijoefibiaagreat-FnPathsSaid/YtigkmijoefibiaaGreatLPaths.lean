/- FnPaths answers true for every input and leaves its arguments as they were. No condition. -/
import Derived.Test.YtigkmijoefibiaaGreatJi
import Derived.Test.YtigkmijoefibiaaGreatLift
import Derived.Test.YtigkmijoefibiaaGreatRows
set_option linter.all false
namespace Go.Proofs.YtigkmijoefibiaaGreat
open Go.Vs Go.Proofs
open Go.ChangeShapes Go.WideShapes Go.ChangeAt Go.RowKit

set_option maxRecDepth 100000 in
theorem lifted_Paths (os : Os) (started : os.Started) (H : Type) (enc : TypeId × Value → H) :
    ReturnsInHanded {} Tryz.checked os 4 .any (Rows.fnPathsSpec.pre6 enc Tryz.prog Tryz.f4 Rows.fnPathsRow.domain false) (Rows.fnPathsSpec.post enc Tryz.prog Tryz.f4 false true false false) := by
  refine returnsInHanded_of_change (C := Tryz.checked) own started (by kernel_rfl) Tryz.func4
    (ChangeSpec.witness6 (enc := enc) (C := Tryz.checked) false ⟨#[], #[.slice none 0 0], []⟩ 8 (by kernel_rfl) (by kernel_rfl) (by kernel_rfl) (by kernel_rfl)) ?_
  intro W base args ds gs before hval hW _ _
  exact law_calls (fn := Tryz.f4) (s := Rows.fnPathsSpec) (ts := [51]) (tb := 4) kids full rfl (by intro t ht; simp at ht; rcases ht with rfl <;> exact of_decide_eq_true (by kernel_rfl)) rfl Tryz.underlying4 rfl
    (by intro H ds h; match ds, h with | [d0], _ => exact ⟨rfl, rfl, rfl⟩)
    (OpensA.one (P := Tryz.prog) (by kernel_rfl) ((Opens.slice (sz := 1) Tryz.underlying51 (by kernel_rfl) (by decide) (fun _ => rfl) (Opens.byte Tryz.underlying5))) OpensA.nil)
    (outs := fun p => [O (cYs false p.1)]) (fun p _ => exPaths p.1) enc W base args ds gs before hval hW
theorem fnPaths_holds : Rows.FnPathsSaid :=
  OpenClaim.holds_of_wide 4 Tryz.f4 rfl rfl rfl rfl rfl rfl rfl ⟨rfl, rfl, rfl, rfl, rfl⟩ rfl rfl rfl rfl rfl (by kernel_rfl) Tryz.func4 (by kernel_rfl)
    (of_decide_eq_true (by kernel_rfl)) (by unfold Func.isWrapper; first | (rw [if_pos (by decide +kernel)]; kernel_rfl) | (rw [if_neg (by decide +kernel)]; exact ⟨rfl, rfl⟩))
    (fun os started H enc _ => lifted_Paths os started H enc)
#print axioms fnPaths_holds
end Go.Proofs.YtigkmijoefibiaaGreat

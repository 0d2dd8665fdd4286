/- FnExactDecodeAdvertisement answers true for every input and leaves its arguments as they were. No condition. -/
import Derived.Test.YtoekfmkbkffciaaGs
import Derived.Test.YtoekfmkbkffciaaLift
import Derived.Test.YtoekfmkbkffciaaRows
set_option linter.all false
namespace Go.Proofs.Ytoekfmkbkffciaa
open Go.Vs Go.Proofs
open Go.ChangeShapes Go.WideShapes Go.ChangeAt Go.RowKit

set_option maxRecDepth 100000 in
theorem lifted_DecodeAdvertisement (os : Os) (started : os.Started) (H : Type) (enc : TypeId × Value → H) :
    ReturnsInHanded {} Try.checked os 3 .any (Rows.fnExactDecodeAdvertisementSpec.pre6 enc Try.prog Try.f3 Rows.fnExactDecodeAdvertisementRow.domain false) (Rows.fnExactDecodeAdvertisementSpec.post enc Try.prog Try.f3 false true false false) := by
  refine returnsInHanded_of_change (C := Try.checked) own started (by kernel_rfl) Try.func3
    (ChangeSpec.witness6 (enc := enc) (C := Try.checked) false ⟨#[], #[.slice none 0 0], []⟩ 8 (by kernel_rfl) (by kernel_rfl) (by kernel_rfl) (by kernel_rfl)) ?_
  intro W base args ds gs before hval hW _ _
  exact law_calls (fn := Try.f3) (s := Rows.fnExactDecodeAdvertisementSpec) (ts := [22]) (tb := 4) kids full rfl (by intro t ht; simp at ht; rcases ht with rfl <;> exact of_decide_eq_true (by kernel_rfl)) rfl Try.underlying4 rfl
    (by intro H ds h; match ds, h with | [d0], _ => exact ⟨rfl, rfl, rfl⟩)
    (OpensA.one (P := Try.prog) (by kernel_rfl) ((Opens.slice (sz := 1) Try.underlying22 (by kernel_rfl) (by decide) (fun _ => rfl) (Opens.byte Try.underlying5))) OpensA.nil)
    (outs := fun p => [O (cYs false p.1)]) (fun p hp => exDecodeAdvertisement p.1 hp.1.1) enc W base args ds gs before hval hW
theorem fnExactDecodeAdvertisement_holds : Rows.FnExactDecodeAdvertisementSaid :=
  OpenClaim.holds_of_wide 3 Try.f3 rfl rfl rfl rfl rfl rfl rfl ⟨rfl, rfl, rfl, rfl, rfl⟩ rfl rfl rfl rfl rfl (by kernel_rfl) Try.func3 (by kernel_rfl)
    (of_decide_eq_true (by kernel_rfl)) (by unfold Func.isWrapper; first | (rw [if_pos (by decide +kernel)]; kernel_rfl) | (rw [if_neg (by decide +kernel)]; exact ⟨rfl, rfl⟩))
    (fun os started H enc _ => lifted_DecodeAdvertisement os started H enc)
#print axioms fnExactDecodeAdvertisement_holds
end Go.Proofs.Ytoekfmkbkffciaa

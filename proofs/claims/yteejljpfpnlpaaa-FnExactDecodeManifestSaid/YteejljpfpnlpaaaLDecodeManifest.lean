/- FnExactDecodeManifest answers true for every input and leaves its arguments as they were. No condition. -/
import Derived.Test.YteejljpfpnlpaaaG4
import Derived.Test.YteejljpfpnlpaaaLift
import Derived.Test.YteejljpfpnlpaaaRows
set_option linter.all false
namespace Go.Proofs.Yteejljpfpnlpaaa
open Go.Vs Go.Proofs
open Go.ChangeShapes Go.WideShapes Go.ChangeAt Go.RowKit

set_option maxRecDepth 100000 in
theorem lifted_DecodeManifest (os : Os) (started : os.Started) (H : Type) (enc : TypeId × Value → H) :
    ReturnsInHanded {} Try.checked os 9 .any (Rows.fnExactDecodeManifestSpec.pre6 enc Try.prog Try.f9 Rows.fnExactDecodeManifestRow.domain false) (Rows.fnExactDecodeManifestSpec.post enc Try.prog Try.f9 false true false false) := by
  refine returnsInHanded_of_change (C := Try.checked) own started (by kernel_rfl) Try.func9
    (ChangeSpec.witness6 (enc := enc) (C := Try.checked) false ⟨#[], #[.slice none 0 0], []⟩ 8 (by kernel_rfl) (by kernel_rfl) (by kernel_rfl) (by kernel_rfl)) ?_
  intro W base args ds gs before hval hW _ _
  exact law_calls (fn := Try.f9) (s := Rows.fnExactDecodeManifestSpec) (ts := [31]) (tb := 4) kids full rfl (by intro t ht; simp at ht; rcases ht with rfl <;> exact of_decide_eq_true (by kernel_rfl)) rfl Try.underlying4 rfl
    (by intro H ds h; match ds, h with | [d0], _ => exact ⟨rfl, rfl, rfl⟩)
    (OpensA.one (P := Try.prog) (by kernel_rfl) ((Opens.slice (sz := 1) Try.underlying31 (by kernel_rfl) (by decide) (fun _ => rfl) (Opens.byte Try.underlying5))) OpensA.nil)
    (outs := fun p => [O (cYs false p.1)]) (fun p hp => exDecodeManifest p.1 hp.1.1) enc W base args ds gs before hval hW
theorem fnExactDecodeManifest_holds : Rows.FnExactDecodeManifestSaid :=
  OpenClaim.holds_of_wide 9 Try.f9 rfl rfl rfl rfl rfl rfl rfl ⟨rfl, rfl, rfl, rfl, rfl⟩ rfl rfl rfl rfl rfl (by kernel_rfl) Try.func9 (by kernel_rfl)
    (of_decide_eq_true (by kernel_rfl)) (by unfold Func.isWrapper; first | (rw [if_pos (by decide +kernel)]; kernel_rfl) | (rw [if_neg (by decide +kernel)]; exact ⟨rfl, rfl⟩))
    (fun os started H enc _ => lifted_DecodeManifest os started H enc)
#print axioms fnExactDecodeManifest_holds
end Go.Proofs.Yteejljpfpnlpaaa

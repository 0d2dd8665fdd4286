/- FnExactSealContent answers true for every input and leaves its arguments as they were. No condition. -/
import Derived.Test.YtnclkamgdcaboaaG8
import Derived.Test.YtnclkamgdcaboaaLift
import Derived.Test.YtnclkamgdcaboaaRows
set_option linter.all false
namespace Go.Proofs.Ytnclkamgdcaboaa
open Go.Vs Go.Proofs
open Go.ChangeShapes Go.WideShapes Go.ChangeAt Go.RowKit
theorem Name.opens : Opens Try.prog 48 (fun p : Name => Name.c false p) (fun p : Name => Name.fits p ∧ True) :=
  Opens.struct kids (of_decide_eq_true (by kernel_rfl)) Try.underlying48 rfl
    (OpensF.cons ((Opens.slice (sz := 1) Try.underlying46 (by kernel_rfl) (by decide) (fun _ => rfl) (Opens.string Try.underlying9))) OpensF.nil)
    (fun x => ⟨x.1⟩) (fun _ => rfl) (fun a h => ⟨h.1, trivial⟩)
set_option maxRecDepth 100000 in
theorem lifted_SealContent (os : Os) (started : os.Started) (H : Type) (enc : TypeId × Value → H) :
    ReturnsInHanded {} Try.checked os 11 .any (Rows.fnExactSealContentSpec.pre6 enc Try.prog Try.f11 Rows.fnExactSealContentRow.domain false) (Rows.fnExactSealContentSpec.post enc Try.prog Try.f11 false true false false) := by
  refine returnsInHanded_of_change (C := Try.checked) own started (by kernel_rfl) Try.func11
    (ChangeSpec.witness6 (enc := enc) (C := Try.checked) false ⟨#[], #[.int .i64 0, .agg #[.slice none 0 0], .slice none 0 0], []⟩ 8 (by kernel_rfl) (by kernel_rfl) (by kernel_rfl) (by kernel_rfl)) ?_
  intro W base args ds gs before hval hW _ _
  exact law_calls (fn := Try.f11) (s := Rows.fnExactSealContentSpec) (ts := [3, 48, 40]) (tb := 4) kids full rfl (by intro t ht; simp at ht; rcases ht with rfl | rfl | rfl <;> exact of_decide_eq_true (by kernel_rfl)) rfl Try.underlying4 rfl
    (by intro H ds h; match ds, h with | [d0, d1, d2], _ => exact ⟨rfl, rfl, rfl⟩)
    (OpensA.one (P := Try.prog) (by kernel_rfl) (Opens.int Try.underlying3) (OpensA.agg (P := Try.prog) Try.underlying48 (Name.opens) (OpensA.one (P := Try.prog) (by kernel_rfl) ((Opens.slice (sz := 1) Try.underlying40 (by kernel_rfl) (by decide) (fun _ => rfl) (Opens.byte Try.underlying5))) OpensA.nil)))
    (outs := fun p => [I p.1, A (Name.c false p.2.1), O (cYs false p.2.2.1)]) (fun p hp => exSealContent p.1 hp.1 p.2.1 hp.2.1.1 p.2.2.1 hp.2.2.1.1) enc W base args ds gs before hval hW
theorem fnExactSealContent_holds : Rows.FnExactSealContentSaid :=
  OpenClaim.holds_of_wide 11 Try.f11 rfl rfl rfl rfl rfl rfl rfl ⟨rfl, rfl, rfl, rfl, rfl⟩ rfl rfl rfl rfl rfl (by kernel_rfl) Try.func11 (by kernel_rfl)
    (of_decide_eq_true (by kernel_rfl)) (by unfold Func.isWrapper; first | (rw [if_pos (by decide +kernel)]; kernel_rfl) | (rw [if_neg (by decide +kernel)]; exact ⟨rfl, rfl⟩))
    (fun os started H enc _ => lifted_SealContent os started H enc)
#print axioms fnExactSealContent_holds
end Go.Proofs.Ytnclkamgdcaboaa

/- FnExactOpenContent answers true for every input and leaves its arguments as they were. No condition. -/
import Derived.Test.YtnclkamgdcaboaaG9
import Derived.Test.YtnclkamgdcaboaaLift
import Derived.Test.YtnclkamgdcaboaaRows
set_option linter.all false
namespace Go.Proofs.Ytnclkamgdcaboaa
open Go.Vs Go.Proofs
open Go.ChangeShapes Go.WideShapes Go.ChangeAt Go.RowKit
theorem Name.opens : Opens Try.prog 48 (fun p : Name => Name.c false p) (fun p : Name => Name.fits p ∧ True) :=
  Opens.struct kids (of_decide_eq_true (by kernel_rfl)) Try.underlying48 rfl
    (OpensF.cons ((Opens.slice (sz := 1) Try.underlying46 (by kernel_rfl) (by decide) (fun _ => rfl) (Opens.string Try.underlying9))) OpensF.nil)
    (fun x => ⟨x.1⟩) (fun _ => rfl) (fun a h => ⟨h.1, trivial⟩)
theorem Gran.opens : Opens Try.prog 72 (fun p : Gran => Gran.c false p) (fun p : Gran => Gran.fits p ∧ Gran.rng p) :=
  Opens.struct kids (of_decide_eq_true (by kernel_rfl)) Try.underlying72 rfl
    (OpensF.cons (Name.opens) (OpensF.cons (Opens.int Try.underlying3) OpensF.nil))
    (fun x => ⟨x.1, x.2.1⟩) (fun _ => rfl) (fun a h => ⟨h.1.1, h.2.1⟩)
set_option maxRecDepth 100000 in
theorem lifted_OpenContent (os : Os) (started : os.Started) (H : Type) (enc : TypeId × Value → H) :
    ReturnsInHanded {} Try.checked os 14 .any (Rows.fnExactOpenContentSpec.pre6 enc Try.prog Try.f14 Rows.fnExactOpenContentRow.domain false) (Rows.fnExactOpenContentSpec.post enc Try.prog Try.f14 false true false false) := by
  refine returnsInHanded_of_change (C := Try.checked) own started (by kernel_rfl) Try.func14
    (ChangeSpec.witness6 (enc := enc) (C := Try.checked) false ⟨#[], #[.slice none 0 0, .agg #[.slice none 0 0], .slice none 0 0], []⟩ 8 (by kernel_rfl) (by kernel_rfl) (by kernel_rfl) (by kernel_rfl)) ?_
  intro W base args ds gs before hval hW _ _
  exact law_calls (fn := Try.f14) (s := Rows.fnExactOpenContentSpec) (ts := [55, 48, 40]) (tb := 4) kids full rfl (by intro t ht; simp at ht; rcases ht with rfl | rfl | rfl <;> exact of_decide_eq_true (by kernel_rfl)) rfl Try.underlying4 rfl
    (by intro H ds h; match ds, h with | [d0, d1, d2], _ => exact ⟨rfl, rfl, rfl⟩)
    (OpensA.one (P := Try.prog) (by kernel_rfl) ((Opens.slice (sz := 2) Try.underlying55 (by kernel_rfl) (by decide) (fun _ => rfl) Gran.opens)) (OpensA.agg (P := Try.prog) Try.underlying48 (Name.opens) (OpensA.one (P := Try.prog) (by kernel_rfl) ((Opens.slice (sz := 1) Try.underlying40 (by kernel_rfl) (by decide) (fun _ => rfl) (Opens.byte Try.underlying5))) OpensA.nil)))
    (outs := fun p => [O (sl false 2 (p.1.map (Gran.c false))), A (Name.c false p.2.1), O (cYs false p.2.2.1)]) (fun p hp => exOpenContent p.1 ⟨hp.1.1, fun y hy => (hp.1.2 y hy).1⟩ (fun y hy => (hp.1.2 y hy).2) p.2.1 hp.2.1.1 p.2.2.1 hp.2.2.1.1) enc W base args ds gs before hval hW
theorem fnExactOpenContent_holds : Rows.FnExactOpenContentSaid :=
  OpenClaim.holds_of_wide 14 Try.f14 rfl rfl rfl rfl rfl rfl rfl ⟨rfl, rfl, rfl, rfl, rfl⟩ rfl rfl rfl rfl rfl (by kernel_rfl) Try.func14 (by kernel_rfl)
    (of_decide_eq_true (by kernel_rfl)) (by unfold Func.isWrapper; first | (rw [if_pos (by decide +kernel)]; kernel_rfl) | (rw [if_neg (by decide +kernel)]; exact ⟨rfl, rfl⟩))
    (fun os started H enc _ => lifted_OpenContent os started H enc)
#print axioms fnExactOpenContent_holds
end Go.Proofs.Ytnclkamgdcaboaa

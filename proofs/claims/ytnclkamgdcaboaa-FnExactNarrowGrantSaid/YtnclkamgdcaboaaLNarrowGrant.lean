/- FnExactNarrowGrant answers true for every input and leaves its arguments as they were. No condition. -/
import Derived.Test.YtnclkamgdcaboaaG9
import Derived.Test.YtnclkamgdcaboaaLift
import Derived.Test.YtnclkamgdcaboaaRows
set_option linter.all false
namespace Go.Proofs.Ytnclkamgdcaboaa
open Go.Vs Go.Proofs
open Go.ChangeShapes Go.WideShapes Go.ChangeAt Go.RowKit
theorem Name.opens : Opens Try.prog 48 (fun p : Name => Name.c false p) (fun p : Name => Name.fits p ∧ True) :=
  Opens.struct kids (of_decide_eq_true (by kernel_rfl)) Try.underlying48 rfl
    (OpensF.cons ((Opens.slice (sz := 1) Try.underlying46 (by kernel_rfl) (by decide) (fun _ => rfl) (Opens.string Try.underlying9))) OpensF.nil)
    (fun x => ⟨x.1⟩) (fun _ => rfl) (fun a h => ⟨h.1, trivial⟩)
theorem Gran.opens : Opens Try.prog 72 (fun p : Gran => Gran.c false p) (fun p : Gran => Gran.fits p ∧ Gran.rng p) :=
  Opens.struct kids (of_decide_eq_true (by kernel_rfl)) Try.underlying72 rfl
    (OpensF.cons (Name.opens) (OpensF.cons (Opens.int Try.underlying3) OpensF.nil))
    (fun x => ⟨x.1, x.2.1⟩) (fun _ => rfl) (fun a h => ⟨h.1.1, h.2.1⟩)
set_option maxRecDepth 100000 in
theorem lifted_NarrowGrant (os : Os) (started : os.Started) (H : Type) (enc : TypeId × Value → H) :
    ReturnsInHanded {} Try.checked os 13 .any (Rows.fnExactNarrowGrantSpec.pre6 enc Try.prog Try.f13 Rows.fnExactNarrowGrantRow.domain false) (Rows.fnExactNarrowGrantSpec.post enc Try.prog Try.f13 false true false false) := by
  refine returnsInHanded_of_change (C := Try.checked) own started (by kernel_rfl) Try.func13
    (ChangeSpec.witness6 (enc := enc) (C := Try.checked) false ⟨#[], #[.agg #[.slice none 0 0, .int .i64 0], .string ByteArray.empty], []⟩ 8 (by kernel_rfl) (by kernel_rfl) (by kernel_rfl) (by kernel_rfl)) ?_
  intro W base args ds gs before hval hW _ _
  exact law_calls (fn := Try.f13) (s := Rows.fnExactNarrowGrantSpec) (ts := [72, 9]) (tb := 4) kids full rfl (by intro t ht; simp at ht; rcases ht with rfl | rfl <;> exact of_decide_eq_true (by kernel_rfl)) rfl Try.underlying4 rfl
    (by intro H ds h; match ds, h with | [d0, d1], _ => exact ⟨rfl, rfl, rfl⟩)
    (OpensA.agg (P := Try.prog) Try.underlying72 (Gran.opens) (OpensA.one (P := Try.prog) (by kernel_rfl) (Opens.string Try.underlying9) OpensA.nil))
    (outs := fun p => [A (Gran.c false p.1), S p.2.1]) (fun p hp => exNarrowGrant p.1 hp.1.1 hp.1.2 p.2.1 hp.2.1) enc W base args ds gs before hval hW
theorem fnExactNarrowGrant_holds : Rows.FnExactNarrowGrantSaid :=
  OpenClaim.holds_of_wide 13 Try.f13 rfl rfl rfl rfl rfl rfl rfl ⟨rfl, rfl, rfl, rfl, rfl⟩ rfl rfl rfl rfl rfl (by kernel_rfl) Try.func13 (by kernel_rfl)
    (of_decide_eq_true (by kernel_rfl)) (by unfold Func.isWrapper; first | (rw [if_pos (by decide +kernel)]; kernel_rfl) | (rw [if_neg (by decide +kernel)]; exact ⟨rfl, rfl⟩))
    (fun os started H enc _ => lifted_NarrowGrant os started H enc)
#print axioms fnExactNarrowGrant_holds
end Go.Proofs.Ytnclkamgdcaboaa

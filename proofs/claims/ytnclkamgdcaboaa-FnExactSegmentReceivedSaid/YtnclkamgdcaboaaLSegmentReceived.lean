/- FnExactSegmentReceived answers true for every input and leaves its arguments as they were. No condition. -/
import Derived.Test.YtnclkamgdcaboaaG7
import Derived.Test.YtnclkamgdcaboaaLift
import Derived.Test.YtnclkamgdcaboaaRows
set_option linter.all false
namespace Go.Proofs.Ytnclkamgdcaboaa
open Go.Vs Go.Proofs
open Go.ChangeShapes Go.WideShapes Go.ChangeAt Go.RowKit
theorem Segm.opens : Opens Try.prog 119 (fun p : Segm => Segm.c false p) (fun p : Segm => Segm.fits p ∧ True) :=
  Opens.struct kids (of_decide_eq_true (by kernel_rfl)) Try.underlying119 rfl
    (OpensF.cons ((Opens.slice (sz := 1) Try.underlying40 (by kernel_rfl) (by decide) (fun _ => rfl) (Opens.byte Try.underlying5))) OpensF.nil)
    (fun x => ⟨x.1⟩) (fun _ => rfl) (fun a h => ⟨h.1.1, trivial⟩)
theorem Mani.opens : Opens Try.prog 24 (fun p : Mani => Mani.c false p) (fun p : Mani => Mani.fits p ∧ Mani.rng p) :=
  Opens.struct kids (of_decide_eq_true (by kernel_rfl)) Try.underlying24 rfl
    (OpensF.cons (Opens.int Try.underlying3) (OpensF.cons (Opens.int Try.underlying3) (OpensF.cons ((Opens.slice (sz := 1) Try.underlying22 (by kernel_rfl) (by decide) (fun _ => rfl) (Opens.int Try.underlying3))) OpensF.nil)))
    (fun x => ⟨x.1, x.2.1, x.2.2.1⟩) (fun _ => rfl) (fun a h => ⟨h.2.2.1.1, ⟨h.1, h.2.1⟩⟩)
theorem Fetc.opens : Opens Try.prog 27 (fun p : Fetc => Fetc.c false p) (fun p : Fetc => Fetc.fits p ∧ Fetc.rng p) :=
  Opens.struct kids (of_decide_eq_true (by kernel_rfl)) Try.underlying27 rfl
    (OpensF.cons (Mani.opens) (OpensF.cons (Opens.int Try.underlying3) (OpensF.cons ((Opens.slice (sz := 1) Try.underlying25 (by kernel_rfl) (by decide) (fun _ => rfl) Segm.opens)) (OpensF.cons (Opens.int Try.underlying3) (OpensF.cons (Opens.int Try.underlying3) (OpensF.cons (Opens.int Try.underlying3) (OpensF.cons (Opens.int Try.underlying3) OpensF.nil)))))))
    (fun x => ⟨x.1, x.2.1, x.2.2.1, x.2.2.2.1, x.2.2.2.2.1, x.2.2.2.2.2.1, x.2.2.2.2.2.2.1⟩) (fun _ => rfl) (fun a h => ⟨⟨h.1.1, ⟨h.2.2.1.1, fun y hy => (h.2.2.1.2 y hy).1⟩⟩, ⟨h.1.2, h.2.1, h.2.2.2.1, h.2.2.2.2.1, h.2.2.2.2.2.1, h.2.2.2.2.2.2.1⟩⟩)
set_option maxRecDepth 100000 in
theorem lifted_SegmentReceived (os : Os) (started : os.Started) (H : Type) (enc : TypeId × Value → H) :
    ReturnsInHanded {} Try.checked os 7 .any (Rows.fnExactSegmentReceivedSpec.pre6 enc Try.prog Try.f7 Rows.fnExactSegmentReceivedRow.domain false) (Rows.fnExactSegmentReceivedSpec.post enc Try.prog Try.f7 false true false false) := by
  refine returnsInHanded_of_change (C := Try.checked) own started (by kernel_rfl) Try.func7
    (ChangeSpec.witness6 (enc := enc) (C := Try.checked) false ⟨#[], #[.agg #[.int .i64 0, .int .i64 0, .slice none 0 0, .int .i64 0, .slice none 0 0, .int .i64 0, .int .i64 0, .int .i64 0, .int .i64 0], .int .i64 0, .slice none 0 0], []⟩ 8 (by kernel_rfl) (by kernel_rfl) (by kernel_rfl) (by kernel_rfl)) ?_
  intro W base args ds gs before hval hW _ _
  exact law_calls (fn := Try.f7) (s := Rows.fnExactSegmentReceivedSpec) (ts := [27, 3, 40]) (tb := 4) kids full rfl (by intro t ht; simp at ht; rcases ht with rfl | rfl | rfl <;> exact of_decide_eq_true (by kernel_rfl)) rfl Try.underlying4 rfl
    (by intro H ds h; match ds, h with | [d0, d1, d2], _ => exact ⟨rfl, rfl, rfl⟩)
    (OpensA.agg (P := Try.prog) Try.underlying27 (Fetc.opens) (OpensA.one (P := Try.prog) (by kernel_rfl) (Opens.int Try.underlying3) (OpensA.one (P := Try.prog) (by kernel_rfl) ((Opens.slice (sz := 1) Try.underlying40 (by kernel_rfl) (by decide) (fun _ => rfl) (Opens.byte Try.underlying5))) OpensA.nil)))
    (outs := fun p => [A (Fetc.c false p.1), I p.2.1, O (cYs false p.2.2.1)]) (fun p hp => exSegmentReceived p.1 hp.1.1 hp.1.2 p.2.1 hp.2.1 p.2.2.1 hp.2.2.1.1) enc W base args ds gs before hval hW
theorem fnExactSegmentReceived_holds : Rows.FnExactSegmentReceivedSaid :=
  OpenClaim.holds_of_wide 7 Try.f7 rfl rfl rfl rfl rfl rfl rfl ⟨rfl, rfl, rfl, rfl, rfl⟩ rfl rfl rfl rfl rfl (by kernel_rfl) Try.func7 (by kernel_rfl)
    (of_decide_eq_true (by kernel_rfl)) (by unfold Func.isWrapper; first | (rw [if_pos (by decide +kernel)]; kernel_rfl) | (rw [if_neg (by decide +kernel)]; exact ⟨rfl, rfl⟩))
    (fun os started H enc _ => lifted_SegmentReceived os started H enc)
#print axioms fnExactSegmentReceived_holds
end Go.Proofs.Ytnclkamgdcaboaa

/- Contracts of functions of the program: no statement of the seat is proved here. Each under the conditions that stand in it. -/
import Derived.Test.YtoekfmkbkffciaaGreatDoorFu
set_option linter.all false
namespace Go.Proofs.YtoekfmkbkffciaaGreatDoor
open Go.Vs Go.Proofs
theorem wrapT2 {w : Int} (h : -9223372036854775808 ≤ w ∧ w ≤ 9223372036854775807) : IntKind.wrap .i64 (w.tdiv 2) = w.tdiv 2 := by
  have h1 := Int.tmod_add_mul_tdiv w 2
  have h2 := tmod_b (n := w) (m := 2) (by omega)
  exact wrapI (by omega) (by omega)
theorem maT (w : Int) : ma 1 (w.tdiv 2) = ma 1 (w / 2) := by
  have h1 := Int.tmod_add_mul_tdiv w 2
  have h2 := tmod_b (n := w) (m := 2) (by omega)
  rcases Int.le_total 0 w with h0 | h0
  · rw [Int.tdiv_eq_ediv_of_nonneg h0]
  · unfold ma; split <;> split <;> omega
theorem shrH (w : Int) : Int.fdiv w (2 ^ (min (1 : Int).toNat (IntKind.bits .i64))) = w / 2 := by
  show Int.fdiv w 2 = w / 2
  exact Int.fdiv_eq_ediv_of_nonneg _ (by decide)
theorem is15 : FI 15 Tryz.f15 := ⟨⟨Tryz.f15, Tryz.func15, rfl, rfl, rfl, rfl⟩, rfl⟩
set_option maxRecDepth 20000 in
set_option maxHeartbeats 16000000 in
theorem i_SegmentLost (f : Fetc) (i : Int) (hr : Fetc.rng f) (hz : Fetc.size f ≤ 1048576) : FO 15 [A (Fetc.c false f), I i] [A (Fetc.c false f), I i] (A (Fetc.c true (lostF f i))) := by
  refine fok envOk mixed is15 ⟨rfl, rfl, ?_⟩
  obtain ⟨-, hr1, hr2, hr3, hr4, hr5⟩ := hr
  cases hh : inSt f.outst i with
  | false =>
    have f1 : (!inSt f.outst i) = true := by simp [hh]
    rw [show lostF f i = f by simp [lostF, hh]]
    (repeat' ((conv => whnf); first | refine stp ?_ | refine Cl.mk (i_copyFetcher f hz) ?_ | refine Cl.mk (i_inSet f.outst i hr2.2) ?_ | refine Cl.pre (by simp only [shcLL_ints, shcLL_byts, shcLL_strs, Fetc.shcs, Mani.shcs, Name.shcs, Segm.shcs]; rfl) ?_))
    exact Vs.Fin.mk (WkR.refl _) (.refl _)
  | true =>
    have hi := inSt_nn hh
    have f1 : (!inSt f.outst i) = false := by simp [hh]
    (repeat' ((conv => whnf); first | refine stp ?_ | refine Cl.mk (i_copyFetcher f hz) ?_ | refine Cl.mk (i_inSet f.outst i hr2.2) ?_ | refine Nm.mk (bitL_eq _) ?_ | refine Nm.mk (bClr_eq _ _) ?_ | refine Nm.mk (rfl : _ = IntKind.wrap .i64 (f.losses + 1)) ?_ | refine Cl.pre (by simp only [shcLL_ints, shcLL_byts, shcLL_strs, Fetc.shcs, Mani.shcs, Name.shcs, Segm.shcs]; rfl) ?_))
    refine Br.dec (fun h => ?_) (fun h => ?_)
    · rw [show lostF f i = { f with outst := bClr f.outst (bitL i), losses := 0, thresh := ma 1 (f.window / 2), window := ma 1 (f.window / 2) } by unfold lostF; rw [if_pos hh, if_pos h]]
      (repeat' ((conv => whnf); first | refine stp ?_ | refine Nm.mk (shrH _) ?_ | refine Cl.pre (by simp only [shcLL_ints, shcLL_byts, shcLL_strs, Fetc.shcs, Mani.shcs, Name.shcs, Segm.shcs]; rfl) ?_))
      exact Vs.Fin.mk (WkR.refl _) (.refl _)
    · rw [show lostF f i = { f with outst := bClr f.outst (bitL i), losses := IntKind.wrap .i64 (f.losses + 1) } by unfold lostF; rw [if_pos hh, if_neg h]]
      (repeat' ((conv => whnf); first | refine stp ?_ ))
      exact Vs.Fin.mk (WkR.refl _) (.refl _)
end Go.Proofs.YtoekfmkbkffciaaGreatDoor

/- Contracts of functions of the program: no statement of the seat is proved here. Each under the conditions that stand in it. -/
import Derived.Test.YtoekfmkbkffciaaGreatDoorM15
set_option linter.all false
namespace Go.Proofs.YtoekfmkbkffciaaGreatDoor
open Go.Vs Go.Proofs
set_option maxRecDepth 20000
theorem is16 : FI 16 Tryz.f16 := ⟨⟨Tryz.f16, Tryz.func16, rfl, rfl, rfl, rfl⟩, rfl⟩
set_option maxRecDepth 20000 in
set_option maxHeartbeats 16000000 in
theorem i_SegmentReceived (f : Fetc) (i : Int) (b : List UInt8) (hr : Fetc.rng f) (hz : Fetc.size f ≤ 1048576) (hb : b.length ≤ 1048576) : FO 16 [A (Fetc.c false f), I i, Ys false b] [A (Fetc.c false f), I i, Ys false b] (A (Fetc.c true (rcvF f i b))) := by
  refine fok envOk mixed is16 ⟨rfl, rfl, ?_⟩
  have hdl := Fetc.size_dig hz
  have hsl := Fetc.size_segs hz
  obtain ⟨-, hr1, hr2, hr3, hr4, hr5⟩ := hr
  (repeat' ((conv => whnf); first | refine stp ?_ | refine Cl.mk (i_copyFetcher f hz) ?_ | refine Cl.pre (by simp only [shcLL_ints, shcLL_byts, shcLL_strs, Fetc.shcs, Mani.shcs, Name.shcs, Segm.shcs]; rfl) ?_))
  refine Br.mk (fun a4 => ?_) (fun a4 => ?_)
  · rw [rcv_no (.inr (.inr (.inl (by simpa using a4))))]
    (repeat' ((conv => whnf); first | refine stp ?_ ))
    exact Vs.Fin.mk (WkR.refl _) (.refl _)
  (repeat' ((conv => whnf); first | refine stp ?_ ))
  refine Br.mk (fun a5 => ?_) (fun a5 => ?_)
  · rw [rcv_no (.inr (.inr (.inr (.inl (by simpa using a5)))))]
    (repeat' ((conv => whnf); first | refine stp ?_ ))
    exact Vs.Fin.mk (WkR.refl _) (.refl _)
  (repeat' ((conv => whnf); first | refine stp ?_ | refine Cl.mk (i_inSet f.received i hr1.2) ?_ | refine Cl.pre (by simp only [shcLL_ints, shcLL_byts, shcLL_strs, Fetc.shcs, Mani.shcs, Name.shcs, Segm.shcs]; rfl) ?_))
  refine Br.mk (fun a2 => ?_) (fun a2 => ?_)
  · rw [rcv_no (.inl a2)]
    (repeat' ((conv => whnf); first | refine stp ?_ ))
    exact Vs.Fin.mk (WkR.refl _) (.refl _)
  (repeat' ((conv => whnf); first | refine stp ?_ | refine Cl.mk (i_VerifySegment f.mani i b hdl hb) ?_ | refine Cl.pre (by simp only [shcLL_ints, shcLL_byts, shcLL_strs, Fetc.shcs, Mani.shcs, Name.shcs, Segm.shcs]; rfl) ?_))
  refine Br.mk (fun a3 => ?_) (fun a3 => ?_)
  · rw [rcv_no (.inr (.inl (by simpa using a3)))]
    (repeat' ((conv => whnf); first | refine stp ?_ ))
    exact Vs.Fin.mk (WkR.refl _) (.refl _)
  (repeat' ((conv => whnf); first | refine stp ?_ ))
  refine Br.mk (fun a1 => ?_) (fun a1 => ?_)
  · rw [rcv_no (.inr (.inr (.inr (.inr (by simpa using a1)))))]
    (repeat' ((conv => whnf); first | refine stp ?_ ))
    exact Vs.Fin.mk (WkR.refl _) (.refl _)
  have g2 : vSeg f.mani i b = true := by simpa using a3
  have gi := vSeg_i g2
  have a1' : ¬ i ≥ f.segs.length := by simpa using a1
  obtain ⟨j, rfl⟩ : ∃ j : Nat, i = j := ⟨i.toNat, by omega⟩
  rw [rcv_yes a2 g2 (by simpa using a4) (by simpa using a5) a1']
  (repeat' ((conv => whnf); first | refine stp ?_ | refine El.mk (getJ (by omega)) ?_ | refine Nm.mk (bitL_eq _) ?_ | refine Nm.mk (bOr_eq _ _) ?_ | refine Nm.mk (bClr_eq _ _) ?_ | refine Cl.mk (Clone_byte b hb) ?_ | refine Cl.pre (by simp only [shcLL_ints, shcLL_byts, shcLL_strs, Fetc.shcs, Mani.shcs, Name.shcs, Segm.shcs]; rfl) ?_))
  (conv => whnf)
  refine Br.mk (fun b1 => ?_) (fun b1 => ?_)
  · (repeat' ((conv => whnf); first | refine stp ?_ | refine Nm.mk (rfl : _ = IntKind.wrap .i64 (f.window + 1)) ?_ | refine Cl.pre (by simp only [shcLL_ints, shcLL_byts, shcLL_strs, Fetc.shcs, Mani.shcs, Name.shcs, Segm.shcs]; rfl) ?_))
    have hw : IntKind.wrap .i64 (f.window + 1) = f.window + 1 := wrapI (by omega) (by have hb1 := b1; simp at hb1; omega)
    refine Vs.Fin.mk ?_ (.refl _)
    rw [hw]
    rw [show (decide (f.window < f.thresh) || decide (bClr f.outst (bitL j) = 0)) = true by simp_all, mi_comm 8]
    exact WkR.of (.keep (.keep (.keep (.keep (.sl (.inl rfl) (by simp) (by intro el he; obtain ⟨y, _, rfl⟩ := List.mem_map.1 he; rfl) (wkSet _ _ _ _ (.refl _)) (.refl _))))))
  (repeat' ((conv => whnf); first | refine stp ?_ ))
  refine Br.mk (fun b2 => ?_) (fun b2 => ?_)
  · (repeat' ((conv => whnf); first | refine stp ?_ | refine Nm.mk (rfl : _ = IntKind.wrap .i64 (f.window + 1)) ?_ | refine Cl.pre (by simp only [shcLL_ints, shcLL_byts, shcLL_strs, Fetc.shcs, Mani.shcs, Name.shcs, Segm.shcs]; rfl) ?_))
    refine Vs.Fin.mk ?_ (.refl _)
    rw [show (decide (f.window < f.thresh) || decide (bClr f.outst (bitL j) = 0)) = true by simp_all, mi_comm 8]
    exact WkR.of (.keep (.keep (.keep (.keep (.sl (.inl rfl) (by simp) (by intro el he; obtain ⟨y, _, rfl⟩ := List.mem_map.1 he; rfl) (wkSet _ _ _ _ (.refl _)) (.refl _))))))
  · (repeat' ((conv => whnf); first | refine stp ?_ ))
    refine Vs.Fin.mk ?_ (.refl _)
    rw [show (decide (f.window < f.thresh) || decide (bClr f.outst (bitL j) = 0)) = false by simp_all]
    exact WkR.of (.keep (.keep (.keep (.keep (.sl (.inl rfl) (by simp) (by intro el he; obtain ⟨y, _, rfl⟩ := List.mem_map.1 he; rfl) (wkSet _ _ _ _ (.refl _)) (.refl _))))))
end Go.Proofs.YtoekfmkbkffciaaGreatDoor

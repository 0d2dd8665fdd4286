/- Contracts of functions of the program: no statement of the seat is proved here. Each under the conditions that stand in it. -/
import Derived.Test.YtoekfmkbkffciaaGreatDoorFt
set_option linter.all false
namespace Go.Proofs.YtoekfmkbkffciaaGreatDoor
open Go.Vs Go.Proofs
def hasI (l : List Int) (x : Int) : Bool := l.any fun y => decide (y = x)
theorem is69 : FI 69 Tryz.f69 := ⟨⟨Tryz.f69, Tryz.func69, rfl, rfl, rfl, rfl⟩, rfl⟩
set_option maxRecDepth 20000 in
set_option maxHeartbeats 16000000 in
theorem Index_int (l : List Int) (x : Int) (hl : l.length ≤ 1099511627776) : FO 69 [Is false l, I x] [Is false l, I x] (I (findI (fun y => decide (y = x)) l 0)) := by
  refine fok envOk mixed is69 ⟨rfl, rfl, ?_⟩
  refine Nm.mk lenC ?_
  refine Lp.mk [.sl 0, .sl 1, .sl 7, .sl 8] (fun m σ => ∃ d r, l = d ++ r ∧ m = r.length ∧ (d.any fun y => decide (y = x)) = false ∧ σ = [Sa 0 (Is false l), Sa 1 (I x), Sa 7 (I l.length), Sa 8 (I d.length)]) (l.length) _ (WkS.weak _ _) ⟨[], l, rfl, rfl, rfl, (by first | rfl | (simp only [zlen, zsum, Nat.zero_mul, Int.add_zero, Int.sub_zero, List.nil_append, markG]; rfl))⟩ ?_
  rintro m τ ⟨d, r, rfl, rfl, hd, rfl⟩
  cases r with
  | nil =>
    refine Br.neg (by simp) ?_
    (repeat' ((conv => whnf); first | refine stp ?_ | refine Br.mk (fun _ => ?_) (fun _ => ?_) ))
    refine Vs.Fin.mk (WkR.eq ?_) (.refl _)
    rw [findI_none (by simpa using hd)]
  | cons y r =>
    simp at hl
    refine Br.pos (by simp; omega) ?_
    refine Rq.mk ⟨by omega, by simp; omega⟩ ?_
    refine El.mk (getA rfl) ?_
    (conv => whnf)
    refine Br.mk (fun h => ?_) (fun h => ?_)
    · (repeat' ((conv => whnf); first | refine stp ?_ | refine Br.mk (fun _ => ?_) (fun _ => ?_) ))
      refine Vs.Fin.mk (WkR.eq ?_) (.refl _)
      rw [findI_at hd (by simp_all)]; simp
    · have hne : ¬ y = x := by rintro rfl; simp at h
      refine Nm.mk (wrapI (by omega) (by omega)) ?_
      refine Nx.intro r.length (by simp) _ (WkS.weak _ _) ⟨d ++ [y], r, by simp, rfl, by simp_all, ?_⟩
      rw [len1]; rfl
theorem is39 : FI 39 Tryz.f39 := ⟨⟨Tryz.f39, Tryz.func39, rfl, rfl, rfl, rfl⟩, rfl⟩
set_option maxRecDepth 20000 in
set_option maxHeartbeats 16000000 in
theorem Contains_int (l : List Int) (x : Int) (hl : l.length ≤ 1099511627776) : FO 39 [Is false l, I x] [Is false l, I x] (B (hasI l x)) := by
  refine fok envOk mixed is39 ⟨rfl, rfl, ?_⟩
  (repeat' ((conv => whnf); first | refine stp ?_ | refine Br.mk (fun _ => ?_) (fun _ => ?_) | refine Cl.mk (Index_int l x hl) ?_ | refine Cl.pre (by simp only [shcLL_ints, shcLL_byts, shcLL_strs, Fetc.shcs, Mani.shcs, Name.shcs, Segm.shcs]; rfl) ?_))
  refine Vs.Fin.mk (WkR.eq ?_) (.refl _)
  rw [findI_ge l 0 (by omega)]; rfl
theorem nxt_nn {f : Fetc} {i : Int} (h : hasI (nxt f) i = true) : 0 ≤ i ∧ i < 8 ∧ i < f.mani.dig.length ∧ inSt f.received i = false ∧ inSt f.outst i = false := by
  simp only [hasI, List.any_eq_true, decide_eq_true_eq] at h
  obtain ⟨y, hy, rfl⟩ := h
  simp only [nxt, nxtT, List.mem_map] at hy
  obtain ⟨k, hk, rfl⟩ := hy
  have := List.mem_of_mem_take hk
  simp only [fSegs, List.mem_filter, List.mem_range] at this
  simp at this
  exact ⟨by omega, by omega, by omega, this.2.1, this.2.2⟩
theorem nxt_len (f : Fetc) : (nxt f).length ≤ 8 := by
  have := nxtT_len f (min 8 f.mani.dig.length)
  unfold nxt; omega
def mrkF (f : Fetc) (i : Int) : Fetc := if hasI (nxt f) i && decide (f.outst ≥ 0) then { f with outst := bOr f.outst (bitL i) } else f
def lostF (f : Fetc) (i : Int) : Fetc :=
  if inSt f.outst i then
    (if IntKind.wrap .i64 (f.losses + 1) ≥ 3 then { f with outst := bClr f.outst (bitL i), losses := 0, thresh := ma 1 (f.window / 2), window := ma 1 (f.window / 2) }
     else { f with outst := bClr f.outst (bitL i), losses := IntKind.wrap .i64 (f.losses + 1) })
  else f
def rcvF (f : Fetc) (i : Int) (b : List UInt8) : Fetc :=
  if inSt f.received i || !vSeg f.mani i b || decide (f.received < 0) || decide (f.outst < 0) || decide (i ≥ f.segs.length) then f
  else
    { f with segs := f.segs.set i.toNat ⟨b⟩, received := bOr f.received (bitL i), outst := bClr f.outst (bitL i), losses := 0,
             window := if decide (f.window < f.thresh) || decide (bClr f.outst (bitL i) = 0) then mi 8 (IntKind.wrap .i64 (f.window + 1)) else f.window }
theorem is13 : FI 13 Tryz.f13 := ⟨⟨Tryz.f13, Tryz.func13, rfl, rfl, rfl, rfl⟩, rfl⟩
set_option maxRecDepth 20000 in
set_option maxHeartbeats 16000000 in
theorem i_MarkRequested (f : Fetc) (i : Int) (hr : Fetc.rng f) (hz : Fetc.size f ≤ 1048576) : FO 13 [A (Fetc.c false f), I i] [A (Fetc.c false f), I i] (A (Fetc.c true (mrkF f i))) := by
  refine fok envOk mixed is13 ⟨rfl, rfl, ?_⟩
  have hdl := Fetc.size_dig hz
  have hnl := nxt_len f
  have hnn := @nxt_nn f i
  cases hh : hasI (nxt f) i with
  | false =>
    rw [show mrkF f i = f by simp [mrkF, hh]]
    (repeat' ((conv => whnf); first | refine stp ?_ | refine Br.mk (fun _ => ?_) (fun _ => ?_) | refine Cl.mk (i_copyFetcher f hz) ?_ | refine Cl.mk (i_NextSegments f hr hdl) ?_ | refine Cl.mk (Contains_int (nxt f) i (by omega)) ?_ | refine Cl.pre (by simp only [shcLL_ints, shcLL_byts, shcLL_strs, Fetc.shcs, Mani.shcs, Name.shcs, Segm.shcs]; rfl) ?_))
    exact Vs.Fin.mk (WkR.refl _) (.refl _)
  | true =>
    obtain ⟨h0, -⟩ := hnn hh
    (repeat' ((conv => whnf); first | refine stp ?_ | refine Br.mk (fun _ => ?_) (fun _ => ?_) | refine Cl.mk (i_copyFetcher f hz) ?_ | refine Cl.mk (i_NextSegments f hr hdl) ?_ | refine Cl.mk (Contains_int (nxt f) i (by omega)) ?_ | refine Nm.mk (bitL_eq _) ?_ | refine Nm.mk (bOr_eq _ _) ?_ | refine Cl.pre (by simp only [shcLL_ints, shcLL_byts, shcLL_strs, Fetc.shcs, Mani.shcs, Name.shcs, Segm.shcs]; rfl) ?_))
    · rw [show mrkF f i = { f with outst := bOr f.outst (bitL i) } by simp_all [mrkF]]
      exact Vs.Fin.mk (WkR.refl _) (.refl _)
    · rw [show mrkF f i = f by simp_all [mrkF]; intros; omega]
      exact Vs.Fin.mk (WkR.refl _) (.refl _)
theorem inSt_nn {s i : Int} (h : inSt s i = true) : 0 ≤ i ∧ i ≤ 30 ∧ 0 ≤ s := by
  simp [inSt, inR_t] at h; omega
theorem vSeg_i {p : Mani} {i : Int} {b : List UInt8} (h : vSeg p i b = true) : 0 ≤ i ∧ i < 8 ∧ i < p.dig.length := by
  have hv : vMani p = true := by simp [vSeg] at h; simp_all
  have h8 := vMani_len hv
  simp [vSeg, inR_t] at h
  omega
end Go.Proofs.YtoekfmkbkffciaaGreatDoor

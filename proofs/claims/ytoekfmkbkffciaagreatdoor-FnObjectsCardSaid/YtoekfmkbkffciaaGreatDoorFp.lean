/- Contracts of functions of the program: no statement of the seat is proved here. Each under the conditions that stand in it. -/
import Derived.Test.YtoekfmkbkffciaaGreatDoorM1
import Derived.Test.YtoekfmkbkffciaaGreatDoorFe
set_option linter.all false
namespace Go.Proofs.YtoekfmkbkffciaaGreatDoor
open Go.Vs Go.Proofs
/-- How many of 0 .. j-1 are members. -/
def cntS (s : Int) (j : Nat) : Nat := ((List.range j).filter fun (i : Nat) => inSt s (i : Int)).length
theorem cntS_zero (s : Int) : ((cntS s 0 : Nat) : Int) = 0 := rfl
theorem cntS_succ (s : Int) (j : Nat) : cntS s (j + 1) = cntS s j + if inSt s (j : Int) = true then 1 else 0 := by
  unfold cntS
  rw [List.range_succ, List.filter_append, List.length_append]
  split <;> simp_all
theorem cntS_le (s : Int) (j : Nat) : cntS s j ≤ j := by
  have := List.length_filter_le (fun (i : Nat) => inSt s (i : Int)) (List.range j)
  simp at this
  exact this
def fSegs (r o : Int) (j : Nat) : List Nat := (List.range j).filter fun (i : Nat) => !inSt r (i : Int) && !inSt o (i : Int)
def roomF (f : Fetc) : Int := ma 0 f.window - cntS f.outst 8
def nxtT (f : Fetc) (j : Nat) : List Int := ((fSegs f.received f.outst j).take (roomF f).toNat).map fun (i : Nat) => (i : Int)
def nxt (f : Fetc) : List Int := nxtT f (min 8 f.mani.dig.length)
theorem fSegs_succ (r o : Int) (j : Nat) : fSegs r o (j + 1) = fSegs r o j ++ if (!inSt r (j : Int) && !inSt o (j : Int)) = true then [j] else [] := by
  unfold fSegs
  rw [List.range_succ, List.filter_append]
  congr 1
  simp only [List.filter_cons, List.filter_nil]
theorem fSegs_le (r o : Int) (j : Nat) : (fSegs r o j).length ≤ j := by
  have := List.length_filter_le (fun (i : Nat) => !inSt r (i : Int) && !inSt o (i : Int)) (List.range j)
  simp at this
  exact this
theorem nxtT_zero (f : Fetc) : nxtT f 0 = [] := by simp [nxtT, fSegs]
theorem nxtT_len (f : Fetc) (j : Nat) : (nxtT f j).length ≤ j := by
  have := fSegs_le f.received f.outst j
  simp [nxtT]; omega
theorem nxtT_yes {f : Fetc} {j : Nat} (h : (!inSt f.received (j : Int) && !inSt f.outst (j : Int)) = true) (hr : ((nxtT f j).length : Int) < roomF f) : nxtT f (j + 1) = nxtT f j ++ [(j : Int)] := by
  unfold nxtT at *
  rw [fSegs_succ, if_pos h, List.take_append]
  simp only [List.length_map, List.length_take] at hr
  have : ¬ (roomF f).toNat ≤ (fSegs f.received f.outst j).length := by omega
  obtain ⟨k, hk⟩ : ∃ k, (roomF f).toNat - (fSegs f.received f.outst j).length = k + 1 := ⟨(roomF f).toNat - (fSegs f.received f.outst j).length - 1, by omega⟩
  rw [hk]
  simp
theorem nxtT_no {f : Fetc} {j : Nat} (h : (!inSt f.received (j : Int) && !inSt f.outst (j : Int)) = true → ¬ ((nxtT f j).length : Int) < roomF f) : nxtT f (j + 1) = nxtT f j := by
  unfold nxtT at *
  rw [fSegs_succ]
  split
  · rename_i h1
    have h2 := h h1
    simp only [List.length_map, List.length_take] at h2
    rw [List.take_append]
    have : (roomF f).toNat - (fSegs f.received f.outst j).length = 0 := by omega
    rw [this]
    simp
  · simp
theorem nxtT_full {f : Fetc} {j : Nat} (h : ¬ ((nxtT f j).length : Int) < roomF f) : ∀ k, nxtT f (j + k) = nxtT f j
  | 0 => rfl
  | k + 1 => by
    have ih := nxtT_full h k
    have := nxtT_no (f := f) (j := j + k) (fun _ => by rw [ih]; exact h)
    rw [← ih, ← this]; rfl
theorem nxt_end {f : Fetc} {j : Nat} (h8 : j ≤ 8) (hl : j ≤ f.mani.dig.length) (h : f.mani.dig.length ≤ j ∨ 8 ≤ j ∨ roomF f ≤ (nxtT f j).length) : nxt f = nxtT f j := by
  unfold nxt
  rcases h with h | h | h
  · rw [show min 8 f.mani.dig.length = j by omega]
  · rw [show min 8 f.mani.dig.length = j by omega]
  · rw [show min 8 f.mani.dig.length = j + (min 8 f.mani.dig.length - j) by omega]
    exact nxtT_full (by omega) _
theorem is12 : FI 12 Tryz.f12 := ⟨⟨Tryz.f12, Tryz.func12, rfl, rfl, rfl, rfl⟩, rfl⟩
set_option maxRecDepth 20000 in
set_option maxHeartbeats 16000000 in
theorem i_NextSegments (f : Fetc) (hr : Fetc.rng f) (hl : f.mani.dig.length ≤ 1048576) : FO 12 [A (Fetc.c false f)] [A (Fetc.c false f)] (Is true (nxt f)) := by
  refine fok envOk mixed is12 ⟨rfl, rfl, ?_⟩
  obtain ⟨-, hr1, hr2, hr3, -, -⟩ := hr
  have hm : 0 ≤ ma 0 f.window ∧ ma 0 f.window ≤ 9223372036854775807 := by unfold ma; split <;> omega
  (repeat' ((conv => whnf); first | refine stp ?_ ))
  refine Lp.mk [.bx 1, .sl 1, .sl 3, .sl 10] (fun m σ => ∃ j, j + m = 8 ∧ σ = [Bx 1 ((Fetc.c false f)), Pt 1, Sa 3 (I (ma 0 f.window - cntS f.outst j)), Sa 10 (I j)]) (8) _ (WkS.weak _ _) ⟨0, rfl, (by first | rfl | (simp only [zlen, zsum, Nat.zero_mul, Int.add_zero, Int.sub_zero, List.nil_append, markG, cntS_zero]; rfl))⟩ ?_
  rintro m τ ⟨j, hj, rfl⟩
  have hc := cntS_le f.outst j
  have hs1 := cntS_succ f.outst j
  refine Br.dec (fun h => ?_) (fun h => ?_)
  · refine Cl.mk (i_inSet _ _ hr2.2) ?_
    (conv => whnf)
    refine Br.mk (fun h => ?_) (fun h => ?_)
    · (repeat' ((conv => whnf); first | refine stp ?_ | refine Br.mk (fun _ => ?_) (fun _ => ?_) ))
      refine Nx.intro (m - 1) (by omega) _ (WkS.weak _ _) ⟨j + 1, by omega, ?_⟩
      (repeat' (first | exact rfl | refine consE ?_ ?_ | refine entE ?_ | refine vI ?_ | refine vS ?_ | refine vT ?_ | refine vB ?_))
      rw [hs1, if_pos h]; omega
    · (repeat' ((conv => whnf); first | refine stp ?_ | refine Br.mk (fun _ => ?_) (fun _ => ?_) ))
      refine Nx.intro (m - 1) (by omega) _ (WkS.weak _ _) ⟨j + 1, by omega, ?_⟩
      (repeat' (first | exact rfl | refine consE ?_ ?_ | refine entE ?_ | refine vI ?_ | refine vS ?_ | refine vT ?_ | refine vB ?_))
      rw [hs1, if_neg (by simp [h])]; rfl
  obtain rfl : j = 8 := by omega
  (repeat' ((conv => whnf); first | refine stp ?_ ))
  have hmi : mi 8 f.mani.dig.length = ((min 8 f.mani.dig.length : Nat) : Int) := by unfold mi; split <;> omega
  refine Lp.mk [.bx 1, .sl 1, .sl 3, .sl 5, .sl 25, .sl 26] (fun m σ => ∃ j, j + m = min 8 f.mani.dig.length ∧ σ = [Bx 1 ((Fetc.c false f)), Pt 1, Sa 3 (I (roomF f)), Sa 5 (O (.sl true .non 1 (ints (nxtT f j)))), Sa 25 (I (mi 8 f.mani.dig.length)), Sa 26 (I j)]) (min 8 f.mani.dig.length) _ (WkS.weak _ _) ⟨0, by simp, (by first | rfl | (simp only [zlen, zsum, Nat.zero_mul, Int.add_zero, Int.sub_zero, List.nil_append, markG, nxtT_zero]; rfl))⟩ ?_
  rintro m τ ⟨j, hj, rfl⟩
  have hn := nxtT_len f j
  rw [hmi]
  refine Br.dec (fun h => ?_) (fun h => ?_)
  · (repeat' ((conv => whnf); first | refine stp ?_ | refine Br.mk (fun _ => ?_) (fun _ => ?_) | refine Cl.mk (i_inSet _ _ hr1.2) ?_ | refine Cl.mk (i_inSet _ _ hr2.2) ?_ | refine Cl.pre (by simp only [shcLL_ints, shcLL_byts, shcLL_strs, Fetc.shcs, Mani.shcs, Name.shcs, Segm.shcs]; rfl) ?_))
    all_goals first
      | (refine Nx.intro (m - 1) (by omega) _ (WkS.weak _ _) ⟨j + 1, by omega, ?_⟩; (repeat' (first | exact rfl | refine consE ?_ ?_ | refine entE ?_ | refine vI ?_ | refine vS ?_ | refine vT ?_ | refine vB ?_)); rw [nxtT_yes (by simp_all) (by simp at *; omega)]; simp; done)
      | (refine Nx.intro (m - 1) (by omega) _ (WkS.weak _ _) ⟨j + 1, by omega, ?_⟩; (repeat' (first | exact rfl | refine consE ?_ ?_ | refine entE ?_ | refine vI ?_ | refine vS ?_ | refine vT ?_ | refine vB ?_)); rw [nxtT_no (by simp_all)]; done)
  · (repeat' ((conv => whnf); first | refine stp ?_ | refine Br.mk (fun _ => ?_) (fun _ => ?_) ))
    refine Vs.Fin.mk (WkR.of (.sl1 ?_ .nil)) (.refl _)
    rw [show nxt f = nxtT f j by unfold nxt; congr 1; omega]
def reass (l : List Segm) : List UInt8 := l.flatMap (·.content)
theorem reass_len (l : List Segm) : (reass l).length = sumN (fun s : Segm => s.content.length) l := by
  induction l with
  | nil => rfl
  | cons x l ih => simp [reass, sumN] at *; exact ih
theorem reass_le {f : Fetc} (h : Fetc.size f ≤ 1048576) : (reass f.segs).length ≤ 1048576 := by
  rw [reass_len]
  simp only [Fetc.size] at h
  have : sumN Segm.size f.segs = sumN (fun s : Segm => s.content.length) f.segs := rfl
  omega
theorem reass_pre (d r : List Segm) : (reass d).length ≤ (reass (d ++ r)).length := by simp [reass]
theorem is19 : FI 19 Tryz.f19 := ⟨⟨Tryz.f19, Tryz.func19, rfl, rfl, rfl, rfl⟩, rfl⟩
set_option maxRecDepth 20000 in
set_option maxHeartbeats 16000000 in
theorem i_Reassemble (f : Fetc) (hz : Fetc.size f ≤ 1048576) : FO 19 [A (Fetc.c false f)] [A (Fetc.c false f)] (Ys true (reass f.segs)) := by
  refine fok envOk mixed is19 ⟨rfl, rfl, ?_⟩
  have hl : f.segs.length ≤ 1048576 := by simp only [Fetc.size] at hz; omega
  have ht := reass_le hz
  (repeat' ((conv => whnf); first | refine stp ?_ ))
  refine Lp.mk [.sl 3, .sl 8, .sl 9, .sl 10] (fun m σ => ∃ d r, f.segs = d ++ r ∧ m = r.length ∧ σ = [Sa 3 (O (.sl true .non 1 (byts (reass d)))), Sa 8 (O (sl false 1 (f.segs.map (Segm.c false)))), Sa 9 (I f.segs.length), Sa 10 (I d.length)]) (f.segs.length) _ (WkS.weak _ _) ⟨[], f.segs, rfl, rfl, (by first | rfl | (simp only [zlen, zsum, Nat.zero_mul, Int.add_zero, Int.sub_zero, List.nil_append, markG]; rfl))⟩ ?_
  rintro m τ ⟨d, r, hd, rfl, rfl⟩
  have hy : f.segs.length = d.length + r.length := by rw [hd]; simp
  cases r with
  | nil =>
    refine Br.neg (by simp at *; omega) ?_
    (repeat' ((conv => whnf); first | refine stp ?_ | refine Br.mk (fun _ => ?_) (fun _ => ?_) ))
    refine Vs.Fin.mk (WkR.of (.sl1 ?_ .nil)) (.refl _)
    rw [hd]; simp
  | cons x r =>
    simp at hy
    have h2 := reass_pre (d ++ [x]) r
    rw [show d ++ [x] ++ r = f.segs by rw [hd]; simp] at h2
    have h3 : (reass (d ++ [x])).length = (reass d).length + x.content.length := by simp [reass]
    refine Br.pos (by simp; omega) ?_
    refine Rq.mk ⟨by omega, by simp; omega⟩ ?_
    refine El.mk (getH hd rfl) ?_
    refine Rq.mk (by simp; omega) ?_
    refine Nm.mk (wrapI (by omega) (by omega)) ?_
    refine Nx.intro r.length (by simp) _ (WkS.weak _ _) ⟨d ++ [x], r, by simp [hd], rfl, ?_⟩
    (repeat' (first | exact rfl | refine consE ?_ ?_ | refine entE ?_ | refine vI ?_ | refine vS ?_ | refine vT ?_ | refine vB ?_))
    · simp [reass]
    · simp
theorem is36 : FI 36 Tryz.f36 := ⟨⟨Tryz.f36, Tryz.func36, rfl, rfl, rfl, rfl⟩, rfl⟩
set_option maxRecDepth 20000 in
set_option maxHeartbeats 16000000 in
theorem i_copyManifest (p : Mani) (hl : p.dig.length ≤ 1048576) : FO 36 [A (Mani.c false p)] [A (Mani.c false p)] (A (Mani.c true p)) := by
  refine fok envOk mixed is36 ⟨rfl, rfl, ?_⟩
  (repeat' ((conv => whnf); first | refine stp ?_ | refine Br.mk (fun _ => ?_) (fun _ => ?_) | refine Cl.mk (Clone_int p.dig hl) ?_ | refine Cl.pre (by simp only [shcLL_ints, shcLL_byts, shcLL_strs, Fetc.shcs, Mani.shcs, Name.shcs, Segm.shcs]; rfl) ?_))
  exact ⟨WkR.refl _, .refl _⟩
def newF (p : Mani) : Fetc := if vMani p then ⟨p, 0, List.replicate p.dig.length ⟨[]⟩, 0, 1, 8, 0⟩ else ⟨⟨0, 0, []⟩, 0, [], 0, 0, 0, 0⟩
theorem wkSegs (n : Nat) : WkL (List.replicate n [AV.sl true .isnil 0 []]).flatten ((List.replicate n (⟨[]⟩ : Segm)).map (Segm.c true)).flatten := by
  induction n with
  | zero => exact .nil
  | succ n ih => simp only [List.replicate_succ, List.map_cons, List.flatten_cons]; exact .nils ih
theorem newF_size {p : Mani} (h : Mani.size p ≤ 1048576) : Fetc.size (newF p) ≤ 2097152 := by
  unfold newF
  split
  · simp only [Fetc.size, Mani.size, List.length_replicate] at *
    have : sumN Segm.size (List.replicate p.dig.length ⟨[]⟩) = 0 := by
      generalize p.dig.length = n
      induction n with
      | zero => rfl
      | succ n ih => simp [List.replicate_succ, sumN, ih, Segm.size]
    omega
  · simp [Fetc.size, Mani.size, sumN]
theorem is10 : FI 10 Tryz.f10 := ⟨⟨Tryz.f10, Tryz.func10, rfl, rfl, rfl, rfl⟩, rfl⟩
set_option maxRecDepth 20000 in
set_option maxHeartbeats 16000000 in
theorem i_NewFetcher (p : Mani) (hl : p.dig.length ≤ 1048576) : FO 10 [A (Mani.c false p)] [A (Mani.c false p)] (A (Fetc.c true (newF p))) := by
  refine fok envOk mixed is10 ⟨rfl, rfl, ?_⟩
  (repeat' ((conv => whnf); first | refine stp ?_ | refine Br.mk (fun _ => ?_) (fun _ => ?_) | refine Cl.mk (i_ValidManifest p hl) ?_ | refine Cl.mk (i_copyManifest p hl) ?_ | refine Cl.pre (by simp only [shcLL_ints, shcLL_byts, shcLL_strs, Fetc.shcs, Mani.shcs, Name.shcs, Segm.shcs]; rfl) ?_))
  · refine Vs.Fin.mk ?_ (.refl _)
    rw [show newF p = ⟨⟨0, 0, []⟩, 0, [], 0, 0, 0, 0⟩ by simp_all [newF]]
    exact WkR.of (.keep (.keep (.nils (.keep (.nils (.refl _))))))
  have hv : newF p = ⟨p, 0, List.replicate p.dig.length ⟨[]⟩, 0, 1, 8, 0⟩ := by simp_all [newF]
  refine Vs.Fin.mk ?_ (.refl _)
  rw [hv]
  exact WkR.of (.keep (.keep (.keep (.keep (.sl (.inr rfl) (by simp) (by simp) (by simpa using wkSegs _) (.refl _))))))
end Go.Proofs.YtoekfmkbkffciaaGreatDoor

/- Contracts of functions of the program: no statement of the seat is proved here. Each under the conditions that stand in it. -/
import Derived.Test.YtgcnbfplihjelaaKpx
set_option linter.all false
namespace Go.Proofs.Ytgcnbfplihjelaa
open Go.Vs Go.Proofs
theorem is45Kb2 : FI 45 Try.f45 := ⟨⟨Try.f45, Try.func45, rfl, rfl, rfl, rfl⟩, rfl⟩
set_option maxRecDepth 20000 in
set_option maxHeartbeats 16000000 in
theorem l24Draw0 (cs c1 : List AV) (C : Nat → List AV × Fetc) (X : Nat → Int × Int × List AV) (p : Mani) (b : List UInt8) (n : Nat) (hn : n < 14) (hb : b.length ≤ 20) (hp : 0 < p.dig.length ∧ p.dig.length ≤ 8) (k1 : FO 85 [O (.own cs)] [O (.own c1)] (MY p b)) (k2 : FO 59 [O (.own c1), I 14] [O (.own (C 0).1), I 14] (I n)) (h0 : (C 0).2 = newF p) (hk : ∀ j, Fetc.rng (C j).2 ∧ Fetc.size (C j).2 ≤ 500 ∧ (0 ≤ (X j).2.1 ∧ (X j).2.1 < 3) ∧ (C (j + 1)).2 = stpF b p (C j).2 (X j).1 (X j).2.1 ∧ FO 59 [O (.own (C j).1), I p.dig.length] [O (.own (X j).2.2), I p.dig.length] (I (X j).1) ∧ FO 59 [O (.own (X j).2.2), I 3] [O (.own (C (j + 1)).1), I 3] (I (X j).2.1)) : FO 45 [O (.own cs)] [O (.own (C n).1)] (FY (C n).2 b) := by
  refine fok envOk mixed is45Kb2 ⟨rfl, rfl, ?_⟩
  have f2 : decide ((p.dig.length : Int) > 0) = true := by simp; omega
  have hN := s_NewFetcher p (by omega)
  rw [← h0] at hN
  (repeat' ((conv => whnf); first | refine Br.tt ?_ | refine Br.ff ?_ | refine Br.pos (by assumption) ?_ | refine Br.neg (by assumption) ?_ | refine Br.bself ?_ | refine Br.dself ?_ | refine Br.iself ?_ | refine Nm.mk lenC ?_ | refine Nm.mk (wrapI (by (first | omega | (simp [inR_t, inR_f] at *; omega))) (by (first | omega | (simp [inR_t, inR_f] at *; omega)))) ?_ | refine Nm.mk (wrapQ (by (first | omega | (simp [inR_t, inR_f] at *; omega))) (by (first | omega | (simp [inR_t, inR_f] at *; omega))) (by (first | omega | (simp [inR_t, inR_f] at *; omega)))) ?_ | refine Nm.mk (tmodN (by (first | omega | (simp [inR_t, inR_f] at *; omega)))) ?_ | refine Nm.mk (szS _) ?_ | refine Nm.mk (mi_eq _ _) ?_ | refine Nm.mk (ma_eq _ _) ?_ | refine Rq.mk (by first | (simp [dOwnL, dOwn] <;> fail) | (first | omega | (simp [inR_t, inR_f] at *; omega))) ?_ | refine And.intro (orderFast (by kernel_rfl)) ?_ | refine And.intro (by kernel_rfl) ?_ | refine Cl.mk (k1) ?_ | refine Cl.mk (hN) ?_ | refine Cl.mk (k2) ?_ | refine Cl.pre (by simp only [shcLL_ints, shcLL_byts, shcLL_strs, Fetc.shcs, Gran.shcs, Mani.shcs, Name.shcs, Read.shcs, Segm.shcs]; rfl) ?_))
  refine Lp.mk [.sl 0, .ex 0, .bx 2, .sl 2, .bx 4, .sl 4, .sl 5, .bx 6, .sl 6, .sl 7] (fun m σ => ∃ j d, j + m = n ∧ d = (n : Int) - (j : Int) ∧ σ = [Rf 0 0, Ex 0 (O (.own (C j).1)), Bx 2 ([cI 0, cI 0, .sl true .isnil 0 [], cI 0, .sl true .isnil 0 [], cI 0, cI 0, cI 0, cI 0]), Pt 2, Bx 4 (Mani.c true p), Pt 4, Sa 5 (Ys true b), Bx 6 (Fetc.c true (C j).2), Pt 6, Sa 7 (I d)]) (n) _ (WkS.weak _ _) ⟨0, n, by simp, by simp, (by first | rfl | (simp only [zlen, zsum, Nat.zero_mul, Int.add_zero, Int.sub_zero, List.nil_append, markG]; rfl))⟩ ?_
  rintro m τ ⟨j, d, hj, hd, rfl⟩
  obtain ⟨hr, hz, hx, hs, q1, q2⟩ := hk j
  by_cases h : j < n
  · have f1 : decide (d > 0) = true := by simp; omega
    generalize X j = x at hx hs q1 q2
    obtain ⟨k, r, c3⟩ := x
    simp only [] at hx hs q1 q2
    generalize hC' : C (j + 1) = s' at hs q2
    obtain ⟨c4, f'⟩ := s'
    simp only [] at hs q2
    generalize C j = s at hs hr hz q1 ⊢
    obtain ⟨c5, f⟩ := s
    simp only [] at hs hr hz q1
    have hne : r = 0 ∨ r = 1 ∨ r = 2 := by omega
    rcases hne with rfl | rfl | rfl
    · have hNx := s_NextSegments f hr (Fetc.size_dig (show Fetc.size f ≤ 1048576 by omega))
      cases hnx : nxt f with
      | nil =>
        rw [hnx] at hNx
        obtain rfl : f' = f := by rw [hs]; simp [stpF, hnx]
        (repeat' ((conv => whnf); first | refine Br.tt ?_ | refine Br.ff ?_ | refine Br.pos (by assumption) ?_ | refine Br.neg (by assumption) ?_ | refine Br.bself ?_ | refine Br.dself ?_ | refine Br.iself ?_ | refine Nm.mk lenC ?_ | refine Nm.mk (wrapI (by (first | omega | (simp [inR_t, inR_f] at *; omega))) (by (first | omega | (simp [inR_t, inR_f] at *; omega)))) ?_ | refine Nm.mk (wrapQ (by (first | omega | (simp [inR_t, inR_f] at *; omega))) (by (first | omega | (simp [inR_t, inR_f] at *; omega))) (by (first | omega | (simp [inR_t, inR_f] at *; omega)))) ?_ | refine Nm.mk (tmodN (by (first | omega | (simp [inR_t, inR_f] at *; omega)))) ?_ | refine Nm.mk (szS _) ?_ | refine Nm.mk (mi_eq _ _) ?_ | refine Nm.mk (ma_eq _ _) ?_ | refine Rq.mk (by first | (simp [dOwnL, dOwn] <;> fail) | (first | omega | (simp [inR_t, inR_f] at *; omega))) ?_ | refine And.intro (orderFast (by kernel_rfl)) ?_ | refine And.intro (by kernel_rfl) ?_ | refine Cl.mk (q1) ?_ | refine Cl.mk (q2) ?_ | refine Cl.mk (hNx) ?_ | refine Rq.mk (by simp [dOwnL, dOwn, dOwnLL]) ?_ | refine Cl.pre (by simp only [shcLL_ints, shcLL_byts, shcLL_strs, Fetc.shcs, Gran.shcs, Mani.shcs, Name.shcs, Read.shcs, Segm.shcs]; rfl) ?_))
        refine Nx.intro (m - 1) (by omega) _ (WkS.weak _ _) ⟨j + 1, d - 1, by omega, by omega, ?_⟩
        rw [hC']
        (repeat' (first | exact rfl | refine consE ?_ ?_ | refine entE ?_ | refine vI ?_ | refine vS ?_ | refine vT ?_ | refine vB ?_))
      | cons i l =>
        rw [hnx] at hNx
        have e' : mrkF f i = f' := by rw [hs]; simp [stpF, hnx]
        have hM := s_MarkRequested f i hr (by omega)
        rw [e'] at hM
        have f4 : decide (((i :: l).length : Int) > 0) = true := by simp <;> omega
        clear hs e'
        (repeat' ((conv => whnf); first | refine Br.tt ?_ | refine Br.ff ?_ | refine Br.pos (by assumption) ?_ | refine Br.neg (by assumption) ?_ | refine Br.bself ?_ | refine Br.dself ?_ | refine Br.iself ?_ | refine Nm.mk lenC ?_ | refine Nm.mk (wrapI (by (first | omega | (simp [inR_t, inR_f] at *; omega))) (by (first | omega | (simp [inR_t, inR_f] at *; omega)))) ?_ | refine Nm.mk (wrapQ (by (first | omega | (simp [inR_t, inR_f] at *; omega))) (by (first | omega | (simp [inR_t, inR_f] at *; omega))) (by (first | omega | (simp [inR_t, inR_f] at *; omega)))) ?_ | refine Nm.mk (tmodN (by (first | omega | (simp [inR_t, inR_f] at *; omega)))) ?_ | refine Nm.mk (szS _) ?_ | refine Nm.mk (mi_eq _ _) ?_ | refine Nm.mk (ma_eq _ _) ?_ | refine Rq.mk (by first | (simp [dOwnL, dOwn] <;> fail) | (first | omega | (simp [inR_t, inR_f] at *; omega))) ?_ | refine And.intro (orderFast (by kernel_rfl)) ?_ | refine And.intro (by kernel_rfl) ?_ | refine Cl.mk (q1) ?_ | refine Cl.mk (q2) ?_ | refine Cl.mk (hNx) ?_ | refine Rq.mk (by simp [dOwnL, dOwn, dOwnLL]) ?_ | refine El.mk (m := [cI i]) rfl ?_ | refine Cl.mk (hM) ?_ | refine Cl.pre (by simp only [shcLL_ints, shcLL_byts, shcLL_strs, Fetc.shcs, Gran.shcs, Mani.shcs, Name.shcs, Read.shcs, Segm.shcs]; rfl) ?_))
        refine Nx.intro (m - 1) (by omega) _ (WkS.weak _ _) ⟨j + 1, d - 1, by omega, by omega, ?_⟩
        rw [hC']
        (repeat' (first | exact rfl | refine consE ?_ ?_ | refine entE ?_ | refine vI ?_ | refine vS ?_ | refine vT ?_ | refine vB ?_))
    · have hA := s_SegmentAt b p k (by omega) (by omega)
      have e' : rcvF f k (segAt b p k) = f' := by rw [hs]; simp [stpF]
      have hle := segAt_len2 (b := b) (p := p) (i := k) (by omega)
      have hM := s_SegmentReceived f k (segAt b p k) hr (by omega) (by omega)
      rw [e'] at hM
      clear hs e'
      generalize segAt b p k = sg at hA hle hM
      (repeat' ((conv => whnf); first | refine Br.tt ?_ | refine Br.ff ?_ | refine Br.pos (by assumption) ?_ | refine Br.neg (by assumption) ?_ | refine Br.bself ?_ | refine Br.dself ?_ | refine Br.iself ?_ | refine Nm.mk lenC ?_ | refine Nm.mk (wrapI (by (first | omega | (simp [inR_t, inR_f] at *; omega))) (by (first | omega | (simp [inR_t, inR_f] at *; omega)))) ?_ | refine Nm.mk (wrapQ (by (first | omega | (simp [inR_t, inR_f] at *; omega))) (by (first | omega | (simp [inR_t, inR_f] at *; omega))) (by (first | omega | (simp [inR_t, inR_f] at *; omega)))) ?_ | refine Nm.mk (tmodN (by (first | omega | (simp [inR_t, inR_f] at *; omega)))) ?_ | refine Nm.mk (szS _) ?_ | refine Nm.mk (mi_eq _ _) ?_ | refine Nm.mk (ma_eq _ _) ?_ | refine Rq.mk (by first | (simp [dOwnL, dOwn] <;> fail) | (first | omega | (simp [inR_t, inR_f] at *; omega))) ?_ | refine And.intro (orderFast (by kernel_rfl)) ?_ | refine And.intro (by kernel_rfl) ?_ | refine Cl.mk (q1) ?_ | refine Cl.mk (q2) ?_ | refine Cl.mk (hA) ?_ | refine Cl.mk (hM) ?_ | refine Cl.pre (by simp only [shcLL_ints, shcLL_byts, shcLL_strs, Fetc.shcs, Gran.shcs, Mani.shcs, Name.shcs, Read.shcs, Segm.shcs]; rfl) ?_))
      refine Nx.intro (m - 1) (by omega) _ (WkS.weak _ _) ⟨j + 1, d - 1, by omega, by omega, ?_⟩
      rw [hC']
      (repeat' (first | exact rfl | refine consE ?_ ?_ | refine entE ?_ | refine vI ?_ | refine vS ?_ | refine vT ?_ | refine vB ?_))
    · have e' : lostF f k = f' := by rw [hs]; simp [stpF]
      have hM := s_SegmentLost f k hr (by omega)
      rw [e'] at hM
      clear hs e'
      (repeat' ((conv => whnf); first | refine Br.tt ?_ | refine Br.ff ?_ | refine Br.pos (by assumption) ?_ | refine Br.neg (by assumption) ?_ | refine Br.bself ?_ | refine Br.dself ?_ | refine Br.iself ?_ | refine Nm.mk lenC ?_ | refine Nm.mk (wrapI (by (first | omega | (simp [inR_t, inR_f] at *; omega))) (by (first | omega | (simp [inR_t, inR_f] at *; omega)))) ?_ | refine Nm.mk (wrapQ (by (first | omega | (simp [inR_t, inR_f] at *; omega))) (by (first | omega | (simp [inR_t, inR_f] at *; omega))) (by (first | omega | (simp [inR_t, inR_f] at *; omega)))) ?_ | refine Nm.mk (tmodN (by (first | omega | (simp [inR_t, inR_f] at *; omega)))) ?_ | refine Nm.mk (szS _) ?_ | refine Nm.mk (mi_eq _ _) ?_ | refine Nm.mk (ma_eq _ _) ?_ | refine Rq.mk (by first | (simp [dOwnL, dOwn] <;> fail) | (first | omega | (simp [inR_t, inR_f] at *; omega))) ?_ | refine And.intro (orderFast (by kernel_rfl)) ?_ | refine And.intro (by kernel_rfl) ?_ | refine Cl.mk (q1) ?_ | refine Cl.mk (q2) ?_ | refine Cl.mk (hM) ?_ | refine Cl.pre (by simp only [shcLL_ints, shcLL_byts, shcLL_strs, Fetc.shcs, Gran.shcs, Mani.shcs, Name.shcs, Read.shcs, Segm.shcs]; rfl) ?_))
      refine Nx.intro (m - 1) (by omega) _ (WkS.weak _ _) ⟨j + 1, d - 1, by omega, by omega, ?_⟩
      rw [hC']
      (repeat' (first | exact rfl | refine consE ?_ ?_ | refine entE ?_ | refine vI ?_ | refine vS ?_ | refine vT ?_ | refine vB ?_))
  · obtain rfl : j = n := by omega
    have f1 : decide (d > 0) = false := by simp; omega
    (repeat' ((conv => whnf); first | refine Br.tt ?_ | refine Br.ff ?_ | refine Br.pos (by assumption) ?_ | refine Br.neg (by assumption) ?_ | refine Br.bself ?_ | refine Br.dself ?_ | refine Br.iself ?_ | refine Nm.mk lenC ?_ | refine Nm.mk (wrapI (by (first | omega | (simp [inR_t, inR_f] at *; omega))) (by (first | omega | (simp [inR_t, inR_f] at *; omega)))) ?_ | refine Nm.mk (wrapQ (by (first | omega | (simp [inR_t, inR_f] at *; omega))) (by (first | omega | (simp [inR_t, inR_f] at *; omega))) (by (first | omega | (simp [inR_t, inR_f] at *; omega)))) ?_ | refine Nm.mk (tmodN (by (first | omega | (simp [inR_t, inR_f] at *; omega)))) ?_ | refine Nm.mk (szS _) ?_ | refine Nm.mk (mi_eq _ _) ?_ | refine Nm.mk (ma_eq _ _) ?_ | refine Rq.mk (by first | (simp [dOwnL, dOwn] <;> fail) | (first | omega | (simp [inR_t, inR_f] at *; omega))) ?_ | refine And.intro (orderFast (by kernel_rfl)) ?_ | refine And.intro (by kernel_rfl) ?_ ))
    exact Vs.Fin.mk (WkR.refl _) (.refl _)
end Go.Proofs.Ytgcnbfplihjelaa

/- Contracts of functions of the program: no statement of the seat is proved here. Each under the conditions that stand in it. -/
import Derived.Test.YtgcnbfplihjelaaKc
import Derived.Test.YtgcnbfplihjelaaKd
set_option linter.all false
namespace Go.Proofs.Ytgcnbfplihjelaa
open Go.Vs Go.Proofs
theorem reass_good {p : Mani} {G : Nat → List UInt8} {f : Fetc} {r o : Nat} (g : Good p G f r o) (h : ∀ k, k < p.dig.length → r.testBit k = true) : reass f.segs = (List.range p.dig.length).flatMap G := by
  have key : ∀ (l : List Segm) (k : Nat), (∀ i s, l[i]? = some s → s.content = G (k + i)) → reass l = ((List.range l.length).map fun i => G (k + i)).flatten := by
    intro l
    induction l with
    | nil => intro k _; rfl
    | cons x l ih =>
      intro k hk
      have h0 := hk 0 x rfl
      have h1 := ih (k + 1) (fun i s hi => by
        rw [hk (i + 1) s (by simpa using hi)]
        congr 1; omega)
      have h2 : reass (x :: l) = x.content ++ reass l := by simp [reass]
      rw [h2, h1, h0, List.length_cons, List.range_succ_eq_map]
      simp only [List.map_cons, List.flatten_cons, List.map_map, Nat.add_zero]
      congr 2
      apply List.map_congr_left
      intro i _
      show G (k + 1 + i) = G (k + (i + 1))
      congr 1; omega
  rw [key f.segs 0 (fun i s hi => by
    have hi2 : i < p.dig.length := by rw [← g.sl]; exact (List.getElem?_eq_some_iff.1 hi).1
    rw [g.sg i s hi, h i hi2]; simp), g.sl]
  simp [List.flatMap]
theorem sumN_rep : ∀ n : Nat, sumN Segm.size (List.replicate n ⟨[]⟩) = 0
  | 0 => rfl
  | n + 1 => by simp [List.replicate_succ, sumN, sumN_rep n, Segm.size]
theorem rcv_twice {p : Mani} {G : Nat → List UInt8} {f : Fetc} {r o : Nat} (g : Good p G f r o) {i : Nat} (hi : i < p.dig.length) (h : r.testBit i = true) (b : List UInt8) : rcvF f i b = f := by
  have h8 := vMani_len g.hv
  refine rcv_no (.inl ?_)
  rw [g.hr, inSt_n (pow256 h8 g.r1) (by omega), h]
set_option maxHeartbeats 32000000
theorem is4 : FI 4 Try.f4 := ⟨⟨Try.f4, Try.func4, rfl, rfl, rfl, rfl⟩, rfl⟩
set_option maxRecDepth 20000 in
set_option maxHeartbeats 16000000 in
theorem ex0Fetches (l : List UInt8) (hl : l.length ≤ 1048576) (p : Mani) (G : Nat → List UInt8) (b : List UInt8) (f : Fetc) (r o : Nat) (hb : b.length ≤ 20) (g : Good p G f r o) (hG : ∀ t, t < p.dig.length → segAt b p t = G t ∧ vSeg p t (G t) = true ∧ 0 < (G t).length) (hGl : ∀ t, (G t).length ≤ 24) (hfl : (List.range p.dig.length).flatMap G = b) (k1 : FO 7 [Ys false l] [Ys false l] (FYs f b))    (a : Fetc) (ai : Int) (ha : Fetc.rng a) (haz : Fetc.size a ≤ 600) (k2 : FO 16 [Ys false l] [Ys false l] (FI1 a ai)) (h : Fetc) (hi : Int) (hd : List UInt8) (hh : Fetc.rng h) (hhz : Fetc.size h ≤ 600) (hdl : hd.length ≤ 30) (k3 : FO 17 [Ys false l] [Ys false l] (FIY h hi hd))    (k4 : FO 18 [Ys false l] [Ys false l] (FI1 a ai)) (e : Fetc) (he : Fetc.rng e) (hez : Fetc.size e ≤ 1000) (k5 : FO 19 [Ys false l] [Ys false l] (A (Fetc.c true e))) (n : Mani) (hn : n.dig.length ≤ 21) (k6 : FO 20 [Ys false l] [Ys false l] (A (Mani.c true n))) : FO 4 [Ys false l] [Ys false l] (B true) := by
  refine fok envOk mixed is4 ⟨rfl, rfl, ?_⟩
  have h8 := vMani_len g.hv
  have hG2 : ∀ t, t < p.dig.length → vSeg p t (G t) = true ∧ 0 < (G t).length := fun t ht => (hG t ht).2
  have hv := g.valid hG2
  have hz := g.size hGl
  have hVf := i_ValidFetcher f g.rng (by omega)
  rw [hv] at hVf
  have hNf := i_NextSegments f g.rng (Fetc.size_dig (show Fetc.size f ≤ 1048576 by omega))
  have hroom := nxt_room g.w1.1
  have hnl := nxt_len f
  generalize nxt f = nf at hNf hroom hnl
  have f1 : decide ((nf.length : Int) > f.window) = false := by simp; omega
  have hMi := i_MarkRequested a ai ha (by omega)
  have hMs := s_MarkRequested a ai ha (by omega)
  have hMz := mrkF_size (f := a) (i := ai) (by omega)
  generalize mrkF a ai = am at hMi hMs hMz
  have hLi := i_SegmentLost a ai ha (by omega)
  have hLs := s_SegmentLost a ai ha (by omega)
  have hLz := lostF_size (f := a) (i := ai) (by omega)
  generalize lostF a ai = al at hLi hLs hLz
  have hRi := i_SegmentReceived h hi hd hh (by omega) (by omega)
  have hRs := s_SegmentReceived h hi hd hh (by omega) (by omega)
  have hRz := rcvF_size2 h hi hd
  generalize rcvF h hi hd = hr at hRi hRs hRz
  have hCi := i_IsComplete e he (by omega)
  have hCs := s_IsComplete e he (by omega)
  generalize (vFet e && decide (e.received = allM e.mani)) = ce at hCi hCs
  have hEi := i_Reassemble e (by omega)
  have hEs := s_Reassemble e (by omega)
  have hEz := reass_le (f := e) (by omega)
  generalize reass e.segs = er at hEi hEs hEz
  have hWi := i_NewFetcher n (by omega)
  have hWs := s_NewFetcher n (by omega)
  have hWz : Fetc.size (newF n) ≤ 1000 := by
    unfold newF
    split
    · rename_i hvn
      have := vMani_len hvn
      simp only [Fetc.size, Mani.size, List.length_replicate, sumN_rep]; omega
    · simp [Fetc.size, Mani.size, sumN]
  generalize newF n = nw at hWi hWs hWz
  have hXi := i_NextSegments a ha (Fetc.size_dig (show Fetc.size a ≤ 1048576 by omega))
  have hXs := s_NextSegments a ha (Fetc.size_dig (show Fetc.size a ≤ 1048576 by omega))
  have hXl := nxt_len a
  generalize nxt a = na at hXi hXs hXl
  have hYi := i_ValidFetcher a ha (by omega)
  have hYs := s_ValidFetcher a ha (by omega)
  generalize vFet a = va at hYi hYs
  (repeat' ((conv => whnf); first | refine Br.tt ?_ | refine Br.ff ?_ | refine Br.pos (by assumption) ?_ | refine Br.neg (by assumption) ?_ | refine Br.bself ?_ | refine Br.dself ?_ | refine Br.iself ?_ | refine Nm.mk lenC ?_ | refine Nm.mk (wrapI (by (first | omega | (simp [inR_t, inR_f] at *; omega))) (by (first | omega | (simp [inR_t, inR_f] at *; omega)))) ?_ | refine Nm.mk (wrapQ (by (first | omega | (simp [inR_t, inR_f] at *; omega))) (by (first | omega | (simp [inR_t, inR_f] at *; omega))) (by (first | omega | (simp [inR_t, inR_f] at *; omega)))) ?_ | refine Nm.mk (tmodN (by (first | omega | (simp [inR_t, inR_f] at *; omega)))) ?_ | refine Nm.mk (szS _) ?_ | refine Nm.mk (mi_eq _ _) ?_ | refine Nm.mk (ma_eq _ _) ?_ | refine Rq.mk (by first | (simp [dOwnL, dOwn] <;> fail) | (first | omega | (simp [inR_t, inR_f] at *; omega))) ?_ | refine And.intro (orderFast (by kernel_rfl)) ?_ | refine And.intro (by kernel_rfl) ?_ | refine Cl.mk (big_no l hl) ?_ | refine Cl.mk (k1) ?_ | refine Cl.mk (k2) ?_ | refine Cl.mk (k3) ?_ | refine Cl.mk (k4) ?_ | refine Cl.mk (k5) ?_ | refine Cl.mk (k6) ?_ | refine Cl.mk (hMi) ?_ | refine Cl.mk (hMs) ?_ | refine Cl.mk (same_Fetch am (by omega)) ?_ | refine Cl.mk (hRi) ?_ | refine Cl.mk (hRs) ?_ | refine Cl.mk (same_Fetch hr (by omega)) ?_ | refine Cl.mk (hLi) ?_ | refine Cl.mk (hLs) ?_ | refine Cl.mk (same_Fetch al (by omega)) ?_ | refine Cl.mk (hCi) ?_ | refine Cl.mk (hCs) ?_ | refine Cl.mk (hEi) ?_ | refine Cl.mk (hEs) ?_ | refine Cl.mk (same_Bytes er (by omega)) ?_ | refine Cl.mk (hWi) ?_ | refine Cl.mk (hWs) ?_ | refine Cl.mk (same_Fetch nw (by omega)) ?_ | refine Cl.mk (hXi) ?_ | refine Cl.mk (hXs) ?_ | refine Cl.mk (same_Ints na (by omega)) ?_ | refine Cl.mk (hYi) ?_ | refine Cl.mk (hYs) ?_ | refine Cl.mk (hVf) ?_ | refine Cl.mk (hNf) ?_ | refine Cl.pre (by simp only [shcLL_ints, shcLL_byts, shcLL_strs, Fetc.shcs, Gran.shcs, Mani.shcs, Name.shcs, Read.shcs, Segm.shcs]; rfl) ?_))
  refine Lp.mk [.bx 3, .sl 3, .sl 4, .bx 15, .sl 15, .sl 16] (fun m σ => ∃ i x r' o', i + m = p.dig.length ∧ Good p G x r' o' ∧ (∀ k, k < i → r'.testBit k = true) ∧ σ = [Bx 3 (Fetc.c false f), Pt 3, Sa 4 (Ys false b), Bx 15 (Fetc.c false x), Pt 15, Sa 16 (I i)]) (p.dig.length) _ (WkS.weak _ _) ⟨0, f, r, o, by simp, g, by intro k hk; omega, (by first | rfl | (simp only [zlen, zsum, Nat.zero_mul, Int.add_zero, Int.sub_zero, List.nil_append, markG]; rfl))⟩ ?_
  rintro m τ ⟨i, x, r', o', him, gx, hset, rfl⟩
  have hzx := gx.size hGl
  by_cases hlt : i < p.dig.length
  · have f2 : decide ((i : Int) < (f.mani.dig.length : Int)) = true := by rw [g.hm]; simp; omega
    have hA := sh_Y (i_SegmentAt b p i (by omega) (by omega))
    rw [(hG i hlt).1] at hA
    rw [← g.hm] at hA
    have hgl := hGl i
    have hR := sh_Fetc (i_SegmentReceived x i (G i) gx.rng (by omega) (by omega))
    have g2 := gx.rcv hG2 i hlt
    generalize rcvF x i (G i) = y at hR g2
    have hzy := g2.size hGl
    have hbit : (r' ||| 2 ^ i).testBit i = true := by rw [or_bit]; simp
    have hR2 := i_SegmentReceived y i (G i) g2.rng (by omega) (by omega)
    rw [rcv_twice g2 hlt hbit] at hR2
    have hVy := i_ValidFetcher y g2.rng (by omega)
    rw [g2.valid hG2] at hVy
    (repeat' ((conv => whnf); first | refine Br.tt ?_ | refine Br.ff ?_ | refine Br.pos (by assumption) ?_ | refine Br.neg (by assumption) ?_ | refine Br.bself ?_ | refine Br.dself ?_ | refine Br.iself ?_ | refine Nm.mk lenC ?_ | refine Nm.mk (wrapI (by (first | omega | (simp [inR_t, inR_f] at *; omega))) (by (first | omega | (simp [inR_t, inR_f] at *; omega)))) ?_ | refine Nm.mk (wrapQ (by (first | omega | (simp [inR_t, inR_f] at *; omega))) (by (first | omega | (simp [inR_t, inR_f] at *; omega))) (by (first | omega | (simp [inR_t, inR_f] at *; omega)))) ?_ | refine Nm.mk (tmodN (by (first | omega | (simp [inR_t, inR_f] at *; omega)))) ?_ | refine Nm.mk (szS _) ?_ | refine Nm.mk (mi_eq _ _) ?_ | refine Nm.mk (ma_eq _ _) ?_ | refine Rq.mk (by first | (simp [dOwnL, dOwn] <;> fail) | (first | omega | (simp [inR_t, inR_f] at *; omega))) ?_ | refine And.intro (orderFast (by kernel_rfl)) ?_ | refine And.intro (by kernel_rfl) ?_ | refine Cl.mk (hA) ?_ | refine Cl.mk (hR) ?_ | refine Cl.mk (hVy) ?_ | refine Cl.mk (hR2) ?_ | refine Cl.mk (same_Fetch y (by omega)) ?_ | refine Cl.pre (by simp only [shcLL_ints, shcLL_byts, shcLL_strs, Fetc.shcs, Gran.shcs, Mani.shcs, Name.shcs, Read.shcs, Segm.shcs]; rfl) ?_))
    refine Nx.intro (m - 1) (by omega) _ (WkS.weak _ _) ⟨i + 1, y, _, _, by omega, g2, (fun k hk => by
      rw [or_bit]
      by_cases hki : i = k
      · simp [hki]
      · rw [hset k (by omega)]; rfl), ?_⟩
    (repeat' (first | exact rfl | refine consE ?_ ?_ | refine entE ?_ | refine vI ?_ | refine vS ?_ | refine vT ?_ | refine vB ?_))
  · obtain rfl : i = p.dig.length := by omega
    have f2 : decide ((p.dig.length : Int) < (f.mani.dig.length : Int)) = false := by rw [g.hm]; simp
    have hCx := i_IsComplete x gx.rng (by omega)
    rw [gx.complete hG2 hset] at hCx
    have hEx := i_Reassemble x (by omega)
    rw [reass_good gx hset, hfl] at hEx
    have hNx := i_NextSegments x gx.rng (Fetc.size_dig (show Fetc.size x ≤ 1048576 by omega))
    rw [gx.nxt_full hset] at hNx
    (repeat' ((conv => whnf); first | refine Br.tt ?_ | refine Br.ff ?_ | refine Br.pos (by assumption) ?_ | refine Br.neg (by assumption) ?_ | refine Br.bself ?_ | refine Br.dself ?_ | refine Br.iself ?_ | refine Nm.mk lenC ?_ | refine Nm.mk (wrapI (by (first | omega | (simp [inR_t, inR_f] at *; omega))) (by (first | omega | (simp [inR_t, inR_f] at *; omega)))) ?_ | refine Nm.mk (wrapQ (by (first | omega | (simp [inR_t, inR_f] at *; omega))) (by (first | omega | (simp [inR_t, inR_f] at *; omega))) (by (first | omega | (simp [inR_t, inR_f] at *; omega)))) ?_ | refine Nm.mk (tmodN (by (first | omega | (simp [inR_t, inR_f] at *; omega)))) ?_ | refine Nm.mk (szS _) ?_ | refine Nm.mk (mi_eq _ _) ?_ | refine Nm.mk (ma_eq _ _) ?_ | refine Rq.mk (by first | (simp [dOwnL, dOwn] <;> fail) | (first | omega | (simp [inR_t, inR_f] at *; omega))) ?_ | refine And.intro (orderFast (by kernel_rfl)) ?_ | refine And.intro (by kernel_rfl) ?_ | refine Cl.mk (hCx) ?_ | refine Cl.mk (hEx) ?_ | refine Cl.mk (same_Bytes b (by omega)) ?_ | refine Cl.mk (hNx) ?_ | refine Rq.mk (by simp [dOwnL, dOwn, dOwnLL]) ?_ | refine Cl.pre (by simp only [shcLL_ints, shcLL_byts, shcLL_strs, Fetc.shcs, Gran.shcs, Mani.shcs, Name.shcs, Read.shcs, Segm.shcs]; rfl) ?_))
    exact Vs.Fin.mk (WkR.refl _) (.refl _)
set_option maxRecDepth 20000 in
set_option maxHeartbeats 16000000 in
theorem ex1Fetches (l : List UInt8) (hl : ¬ l.length ≤ 1048576) : FO 4 [Ys false l] [Ys false l] (B true) := by
  refine fok envOk mixed is4 ⟨rfl, rfl, ?_⟩
  (repeat' ((conv => whnf); first | refine Br.tt ?_ | refine Br.ff ?_ | refine Br.pos (by assumption) ?_ | refine Br.neg (by assumption) ?_ | refine Br.bself ?_ | refine Br.dself ?_ | refine Br.iself ?_ | refine Nm.mk lenC ?_ | refine Nm.mk (wrapI (by (first | omega | (simp [inR_t, inR_f] at *; omega))) (by (first | omega | (simp [inR_t, inR_f] at *; omega)))) ?_ | refine Nm.mk (wrapQ (by (first | omega | (simp [inR_t, inR_f] at *; omega))) (by (first | omega | (simp [inR_t, inR_f] at *; omega))) (by (first | omega | (simp [inR_t, inR_f] at *; omega)))) ?_ | refine Nm.mk (tmodN (by (first | omega | (simp [inR_t, inR_f] at *; omega)))) ?_ | refine Nm.mk (szS _) ?_ | refine Nm.mk (mi_eq _ _) ?_ | refine Nm.mk (ma_eq _ _) ?_ | refine Rq.mk (by first | (simp [dOwnL, dOwn] <;> fail) | (first | omega | (simp [inR_t, inR_f] at *; omega))) ?_ | refine And.intro (orderFast (by kernel_rfl)) ?_ | refine And.intro (by kernel_rfl) ?_ | refine Cl.mk (big_yes l hl) ?_ | refine Cl.pre (by simp only [shcLL_ints, shcLL_byts, shcLL_strs, Fetc.shcs, Gran.shcs, Mani.shcs, Name.shcs, Read.shcs, Segm.shcs]; rfl) ?_))
  exact Vs.Fin.mk (WkR.refl _) (.refl _)
theorem exFetches (l : List UInt8) : FO 4 [Ys false l] [Ys false l] (B true) := by
  by_cases hl : l.length ≤ 1048576
  · obtain ⟨p, G, b, f, r, o, hb, g, hG, hGl, hfl, k1⟩ := DFetch_ok l hl
    obtain ⟨a, ai, ha, haz, k2, k4⟩ := DMark_ok l hl
    obtain ⟨h, hi, hd, hh, hhz, hdl, k3⟩ := DRecv_ok l hl
    obtain ⟨e, he, hez, k5⟩ := DComp_ok l hl
    obtain ⟨n, hn, k6⟩ := DNewF_ok l hl
    exact ex0Fetches l hl p G b f r o hb g hG hGl hfl k1 a ai ha haz k2 h hi hd hh hhz hdl k3 k4 e he hez k5 n hn k6
  · exact ex1Fetches l hl
end Go.Proofs.Ytgcnbfplihjelaa

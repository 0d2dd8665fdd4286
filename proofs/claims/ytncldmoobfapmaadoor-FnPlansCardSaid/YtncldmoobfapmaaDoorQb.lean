/- Contracts of functions of the program: no statement of the seat is proved here. Each under the conditions that stand in it. -/
import Derived.Test.YtncldmoobfapmaaDoorQp
set_option linter.all false
namespace Go.Proofs.YtncldmoobfapmaaDoor
open Go.Vs Go.Proofs
theorem flat_cut (b : List UInt8) (s : Nat) : ∀ k, (List.range k).flatMap (cut b s) = b.take (k * s)
  | 0 => by simp
  | k + 1 => by
    rw [List.range_succ, List.flatMap_append, flat_cut b s k]
    simp only [List.flatMap_cons, List.flatMap_nil, List.append_nil, cut]
    rw [Nat.add_mul, Nat.one_mul, List.take_add]
theorem plan_facts (b : List UInt8) (size : Int) (hb : b.length < 24) (hs : 3 ≤ size ∧ size ≤ 8) : ∃ (p : Mani) (G : Nat → List UInt8), mkMani b size = p ∧ vMani p = true ∧ p.dig.length ≤ 8 ∧ (∀ t, t < p.dig.length → segAt b p t = G t ∧ vSeg p t (G t) = true ∧ 0 < (G t).length) ∧ (∀ t, (G t).length ≤ 24) ∧ (List.range p.dig.length).flatMap G = b := by
  obtain ⟨s, rfl⟩ : ∃ s : Nat, size = s := ⟨size.toNat, by omega⟩
  obtain ⟨n, hn⟩ : ∃ n : Nat, cdiv b.length s = n := ⟨(cdiv b.length s).toNat, by have := cdiv_nn b.length s; omega⟩
  have hiff := fun i => cdiv_iff (a := b.length) (s := s) (by omega) (by omega) (by omega) i
  rw [hn] at hiff
  have e : mkMani b s = ⟨s, b.length, digs b s n⟩ := by
    unfold mkMani
    rw [if_pos (by simp [inR_t]; omega), hn]
    simp
  have hv : vMani ⟨s, b.length, digs b s n⟩ = true := by
    simp only [vMani, Bool.and_eq_true, decide_eq_true_eq, inR_t, digs_len, hn, List.all_eq_true]
    refine ⟨⟨⟨by omega, by omega⟩, trivial⟩, ?_⟩
    intro d hd
    obtain ⟨i, _, rfl⟩ := List.mem_map.1 hd
    have := digest_b (b2i (cut b s i))
    simp only [okDig, inR_t]; omega
  have h8 := vMani_len hv
  refine ⟨_, cut b s, e, hv, h8, ?_, ?_, ?_⟩
  · intro t ht
    rw [digs_len] at ht
    have hlt := (hiff t).1 (by omega)
    have hin : inR (t : Int) 0 (((digs b s n).length : Int) - 1) = true := by rw [digs_len, inR_t]; omega
    refine ⟨?_, ?_, ?_⟩
    · rw [segAt_yes hv rfl hin]; simp
    · simp only [vSeg, hv, hin, Bool.true_and, Bool.and_eq_true, decide_eq_true_eq]
      refine ⟨?_, ?_⟩
      · simp only [cut, List.length_take, List.length_drop, mi]
        rw [show ((t : Int) * s) = ((t * s : Nat) : Int) by rw [Int.natCast_mul]]
        split <;> omega
      · have : t < (digs b s n).length := by rw [digs_len]; exact ht
        simp [digs, ht]
    · simp only [cut, List.length_take, List.length_drop]; omega
  · intro t
    simp only [cut, List.length_take, List.length_drop]; omega
  · rw [flat_cut, digs_len, List.take_of_length_le]
    have h1 := fun h => (hiff n).2 h
    by_cases h : n * s < b.length
    · have := h1 h; omega
    · omega
theorem flat_len {G : Nat → List UInt8} (h : ∀ t, (G t).length ≤ 24) : ∀ k, ((List.range k).flatMap G).length ≤ 24 * k
  | 0 => by simp
  | k + 1 => by
    have h1 := flat_len h k
    have h2 := h k
    rw [List.range_succ, List.flatMap_append, List.length_append]
    simp only [List.flatMap_cons, List.flatMap_nil, List.append_nil]
    omega
theorem flat_succ (G : Nat → List UInt8) (k : Nat) : (List.range (k + 1)).flatMap G = (List.range k).flatMap G ++ G k := by
  rw [List.range_succ, List.flatMap_append]; simp
set_option maxHeartbeats 32000000
theorem is3 : FI 3 Tryd.f3 := ⟨⟨Tryd.f3, Tryd.func3, rfl, rfl, rfl, rfl⟩, rfl⟩
set_option maxRecDepth 20000 in
set_option maxHeartbeats 16000000 in
theorem ex0Plans (l : List UInt8) (hl : l.length ≤ 1048576) (b : List UInt8) (size : Int) (hb : b.length < 24) (hs : 3 ≤ size ∧ size ≤ 8) (k1 : FO 5 [Ys false l] [Ys false l] (YI b size)) (q : Mani) (hq : q.dig.length ≤ 21) (k2 : FO 7 [Ys false l] [Ys false l] (A (Mani.c true q))) (c : List UInt8) (hc : c.length ≤ 1048576) (k3 : FO 8 [Ys false l] [Ys false l] (Ys false c)) (x : Mani) (ok : Bool) (hx : x.dig.length ≤ 1048576) (hok : ok = true → (if vMani x then encs (x.seg :: x.len :: x.dig) else []) = c) (d1 : FO 9 [Ys false c] [Ys false c] (TMs x ok)) (d2 : FO 10 [Ys false c] [Ys false c] (TMs x ok)) (s : List UInt8) (m : Mani) (i : Int) (hs2 : s.length ≤ 20) (hm : m.dig.length ≤ 21) (k4 : FO 11 [Ys false l] [Ys false l] (YMI s m i)) (r : Mani) (k : Int) (d : List UInt8) (hr : r.dig.length ≤ 21) (hd : d.length ≤ 1048576) (k5 : FO 12 [Ys false l] [Ys false l] (MIY r k d)) (e : List UInt8) (f : Int) (he : e.length ≤ 20) (k6 : FO 13 [Ys false l] [Ys false l] (YI e f)) (u : Name) (j : Int) (hu : strsSize u.parts ≤ 50) (hj : -1 ≤ j ∧ j ≤ 8) (k7 : FO 14 [Ys false l] [Ys false l] (NI u j)) : FO 3 [Ys false l] [Ys false l] (B true) := by
  refine fok envOk mixed is3 ⟨rfl, rfl, ?_⟩
  obtain ⟨p, G, hp, hv, hp8, hseg, hGl, hflat⟩ := plan_facts b size hb hs
  have hM := i_MakeManifest b size (by omega)
  rw [hp] at hM
  clear hp
  have hEi := i_EncodeManifest q (by omega)
  have hEs := s_EncodeManifest q (by omega)
  have hEl := encM_len q
  generalize (if vMani q then encs (q.seg :: q.len :: q.dig) else []) = eq at hEi hEs hEl
  have hAi := i_SegmentAt s m i (by omega) (by omega)
  have hAs := s_SegmentAt s m i (by omega) (by omega)
  have hAl : (segAt s m i).length ≤ 20 := by
    unfold segAt
    split
    · simp only [cut, List.length_take, List.length_drop]; omega
    · simp
  generalize segAt s m i = sg at hAi hAs hAl
  have hVi := i_VerifySegment r k d (by omega) hd
  have hVs := s_VerifySegment r k d (by omega) hd
  generalize vSeg r k d = vb at hVi hVs
  have hMi := i_MakeManifest e f (by omega)
  have hMs := s_MakeManifest e f (by omega)
  have hMl := (mkMani_b (v := f) he).1
  generalize mkMani e f = em at hMi hMs hMl
  have hNi := i_SegmentName u j (by omega)
  have hNs := s_SegmentName u j (by omega) (by omega)
  have hNl := segN_size (n := u) (i := j) (by omega)
  generalize segN u j = sn at hNi hNs hNl
  generalize segO u j = so at hNi hNs
  have hNl2 := strs_len hNl
  have hQi := i_ValidManifest q (by omega)
  have hQs := s_ValidManifest q (by omega)
  generalize vMani q = vq at hQi hQs
  have hPv := i_ValidManifest p (by omega)
  rw [hv] at hPv
  have hPe := i_EncodeManifest p (by omega)
  have hPl := encM_len p
  have hPd := dec_encM hv
  rw [if_pos hv] at hPe hPl
  generalize encs (p.seg :: p.len :: p.dig) = ep at hPe hPl hPd
  have hDp := i_DecodeManifest ep hPl
  rw [hPd] at hDp
  have hXe := i_EncodeManifest x hx
  (repeat' ((conv => whnf); first | refine Br.tt ?_ | refine Br.ff ?_ | refine Br.pos (by assumption) ?_ | refine Br.neg (by assumption) ?_ | refine Br.bself ?_ | refine Br.dself ?_ | refine Br.iself ?_ | refine Nm.mk lenC ?_ | refine Nm.mk (wrapI (by (first | omega | (simp [inR_t, inR_f] at *; omega))) (by (first | omega | (simp [inR_t, inR_f] at *; omega)))) ?_ | refine Nm.mk (wrapQ (by (first | omega | (simp [inR_t, inR_f] at *; omega))) (by (first | omega | (simp [inR_t, inR_f] at *; omega))) (by (first | omega | (simp [inR_t, inR_f] at *; omega)))) ?_ | refine Nm.mk (tmodN (by (first | omega | (simp [inR_t, inR_f] at *; omega)))) ?_ | refine Nm.mk (szS _) ?_ | refine Nm.mk (mi_eq _ _) ?_ | refine Nm.mk (ma_eq _ _) ?_ | refine Rq.mk (by first | (simp [dOwnL, dOwn] <;> fail) | (first | omega | (simp [inR_t, inR_f] at *; omega))) ?_ | refine And.intro (orderFast (by kernel_rfl)) ?_ | refine And.intro (by kernel_rfl) ?_ | refine Cl.mk (big_no l hl) ?_ | refine Cl.mk (k1) ?_ | refine Cl.mk (hM) ?_ | refine Cl.mk (k2) ?_ | refine Cl.mk (k3) ?_ | refine Cl.mk (d1) ?_ | refine Cl.mk (d2) ?_ | refine Cl.mk (k4) ?_ | refine Cl.mk (k5) ?_ | refine Cl.mk (k6) ?_ | refine Cl.mk (k7) ?_ | refine Cl.mk (hNi) ?_ | refine Cl.mk (hNs) ?_ | refine Cl.mk (hEi) ?_ | refine Cl.mk (hEs) ?_ | refine Cl.mk (same_Bytes eq (by omega)) ?_ | refine Cl.mk (same_Plan x (by omega)) ?_ | refine Cl.mk (hAi) ?_ | refine Cl.mk (hAs) ?_ | refine Cl.mk (same_Bytes sg (by omega)) ?_ | refine Cl.mk (hVi) ?_ | refine Cl.mk (hVs) ?_ | refine Cl.mk (hMi) ?_ | refine Cl.mk (hMs) ?_ | refine Cl.mk (same_Plan em (by omega)) ?_ | refine Cl.mk (same_Name sn (by omega)) ?_ | refine Cl.mk (hQi) ?_ | refine Cl.mk (hQs) ?_ | refine Cl.pre (by simp only [shcLL_ints, shcLL_byts, shcLL_strs, Fetc.shcs, Gran.shcs, Mani.shcs, Name.shcs, Read.shcs, Segm.shcs]; rfl) ?_))
  refine Lp.mk [.sl 3, .bx 5, .sl 5, .sl 7, .bx 8, .sl 8, .sl 9, .sl 26, .sl 27] (fun m σ => ∃ t, t + m = p.dig.length ∧ σ = [Sa 3 (Ys true b), Bx 5 (Mani.c true p), Pt 5, Sa 7 (Ys false c), Bx 8 (Mani.c true x), Pt 8, Sa 9 (B ok), Sa 26 (O (.sl true .non 1 (byts ((List.range t).flatMap G)))), Sa 27 (I t)]) (p.dig.length) _ (WkS.weak _ _) ⟨0, by simp, (by first | rfl | (simp only [zlen, zsum, Nat.zero_mul, Int.add_zero, Int.sub_zero, List.nil_append, markG]; rfl))⟩ ?_
  rintro mm τ ⟨t, ht, rfl⟩
  have hfl := flat_len hGl t
  have hgt := hGl t
  refine Nm.mk lenC ?_
  by_cases h : t < p.dig.length
  · obtain ⟨g1, g2, g3⟩ := hseg t h
    have hA := i_SegmentAt b p t (by omega) (by omega)
    rw [g1] at hA
    have hV := i_VerifySegment p t (G t) (by omega) (by omega)
    rw [g2] at hV
    have f1 : decide ((t : Int) < (p.dig.length : Int)) = true := by simp; omega
    have f2 : (((G t).length : Int) == 0) = false := by simp; intro h0; rw [h0] at g3; simp at g3
    (repeat' ((conv => whnf); first | refine Br.tt ?_ | refine Br.ff ?_ | refine Br.pos (by assumption) ?_ | refine Br.neg (by assumption) ?_ | refine Br.bself ?_ | refine Br.dself ?_ | refine Br.iself ?_ | refine Nm.mk lenC ?_ | refine Nm.mk (wrapI (by (first | omega | (simp [inR_t, inR_f] at *; omega))) (by (first | omega | (simp [inR_t, inR_f] at *; omega)))) ?_ | refine Nm.mk (wrapQ (by (first | omega | (simp [inR_t, inR_f] at *; omega))) (by (first | omega | (simp [inR_t, inR_f] at *; omega))) (by (first | omega | (simp [inR_t, inR_f] at *; omega)))) ?_ | refine Nm.mk (tmodN (by (first | omega | (simp [inR_t, inR_f] at *; omega)))) ?_ | refine Nm.mk (szS _) ?_ | refine Nm.mk (mi_eq _ _) ?_ | refine Nm.mk (ma_eq _ _) ?_ | refine Rq.mk (by first | (simp [dOwnL, dOwn] <;> fail) | (first | omega | (simp [inR_t, inR_f] at *; omega))) ?_ | refine And.intro (orderFast (by kernel_rfl)) ?_ | refine And.intro (by kernel_rfl) ?_ | refine Cl.mk (hA) ?_ | refine Cl.mk (hV) ?_ | refine Rq.mk (by simp only [List.length_append, List.length_map]; omega) ?_ | refine Cl.pre (by simp only [shcLL_ints, shcLL_byts, shcLL_strs, Fetc.shcs, Gran.shcs, Mani.shcs, Name.shcs, Read.shcs, Segm.shcs]; rfl) ?_))
    refine Nx.intro (mm - 1) (by omega) _ (WkS.weak _ _) ⟨t + 1, by omega, ?_⟩
    (repeat' (first | exact rfl | refine consE ?_ ?_ | refine entE ?_ | refine vI ?_ | refine vS ?_ | refine vT ?_ | refine vB ?_))
    rw [flat_succ]; simp
  · obtain rfl : t = p.dig.length := by omega
    have f1 : decide ((p.dig.length : Int) < (p.dig.length : Int)) = false := by simp
    rw [hflat]
    cases ok with
    | true =>
      have hok := hok rfl
      rw [hok] at hXe
      (repeat' ((conv => whnf); first | refine Br.tt ?_ | refine Br.ff ?_ | refine Br.pos (by assumption) ?_ | refine Br.neg (by assumption) ?_ | refine Br.bself ?_ | refine Br.dself ?_ | refine Br.iself ?_ | refine Nm.mk lenC ?_ | refine Nm.mk (wrapI (by (first | omega | (simp [inR_t, inR_f] at *; omega))) (by (first | omega | (simp [inR_t, inR_f] at *; omega)))) ?_ | refine Nm.mk (wrapQ (by (first | omega | (simp [inR_t, inR_f] at *; omega))) (by (first | omega | (simp [inR_t, inR_f] at *; omega))) (by (first | omega | (simp [inR_t, inR_f] at *; omega)))) ?_ | refine Nm.mk (tmodN (by (first | omega | (simp [inR_t, inR_f] at *; omega)))) ?_ | refine Nm.mk (szS _) ?_ | refine Nm.mk (mi_eq _ _) ?_ | refine Nm.mk (ma_eq _ _) ?_ | refine Rq.mk (by first | (simp [dOwnL, dOwn] <;> fail) | (first | omega | (simp [inR_t, inR_f] at *; omega))) ?_ | refine And.intro (orderFast (by kernel_rfl)) ?_ | refine And.intro (by kernel_rfl) ?_ | refine Cl.mk (hPe) ?_ | refine Cl.mk (hDp) ?_ | refine Cl.mk (same_Bytes b (by omega)) ?_ | refine Cl.mk (hPv) ?_ | refine Cl.mk (same_Plan p (by omega)) ?_ | refine Cl.mk (hXe) ?_ | refine Cl.mk (same_Bytes c (by omega)) ?_ | refine Cl.pre (by simp only [shcLL_ints, shcLL_byts, shcLL_strs, Fetc.shcs, Gran.shcs, Mani.shcs, Name.shcs, Read.shcs, Segm.shcs]; rfl) ?_))
      exact Vs.Fin.mk (WkR.refl _) (.refl _)
    | false =>
      (repeat' ((conv => whnf); first | refine Br.tt ?_ | refine Br.ff ?_ | refine Br.pos (by assumption) ?_ | refine Br.neg (by assumption) ?_ | refine Br.bself ?_ | refine Br.dself ?_ | refine Br.iself ?_ | refine Nm.mk lenC ?_ | refine Nm.mk (wrapI (by (first | omega | (simp [inR_t, inR_f] at *; omega))) (by (first | omega | (simp [inR_t, inR_f] at *; omega)))) ?_ | refine Nm.mk (wrapQ (by (first | omega | (simp [inR_t, inR_f] at *; omega))) (by (first | omega | (simp [inR_t, inR_f] at *; omega))) (by (first | omega | (simp [inR_t, inR_f] at *; omega)))) ?_ | refine Nm.mk (tmodN (by (first | omega | (simp [inR_t, inR_f] at *; omega)))) ?_ | refine Nm.mk (szS _) ?_ | refine Nm.mk (mi_eq _ _) ?_ | refine Nm.mk (ma_eq _ _) ?_ | refine Rq.mk (by first | (simp [dOwnL, dOwn] <;> fail) | (first | omega | (simp [inR_t, inR_f] at *; omega))) ?_ | refine And.intro (orderFast (by kernel_rfl)) ?_ | refine And.intro (by kernel_rfl) ?_ | refine Cl.mk (hPe) ?_ | refine Cl.mk (hDp) ?_ | refine Cl.mk (same_Bytes b (by omega)) ?_ | refine Cl.mk (hPv) ?_ | refine Cl.mk (same_Plan p (by omega)) ?_ | refine Cl.pre (by simp only [shcLL_ints, shcLL_byts, shcLL_strs, Fetc.shcs, Gran.shcs, Mani.shcs, Name.shcs, Read.shcs, Segm.shcs]; rfl) ?_))
      exact Vs.Fin.mk (WkR.refl _) (.refl _)
set_option maxRecDepth 20000 in
set_option maxHeartbeats 16000000 in
theorem ex1Plans (l : List UInt8) (hl : ¬ l.length ≤ 1048576) : FO 3 [Ys false l] [Ys false l] (B true) := by
  refine fok envOk mixed is3 ⟨rfl, rfl, ?_⟩
  (repeat' ((conv => whnf); first | refine Br.tt ?_ | refine Br.ff ?_ | refine Br.pos (by assumption) ?_ | refine Br.neg (by assumption) ?_ | refine Br.bself ?_ | refine Br.dself ?_ | refine Br.iself ?_ | refine Nm.mk lenC ?_ | refine Nm.mk (wrapI (by (first | omega | (simp [inR_t, inR_f] at *; omega))) (by (first | omega | (simp [inR_t, inR_f] at *; omega)))) ?_ | refine Nm.mk (wrapQ (by (first | omega | (simp [inR_t, inR_f] at *; omega))) (by (first | omega | (simp [inR_t, inR_f] at *; omega))) (by (first | omega | (simp [inR_t, inR_f] at *; omega)))) ?_ | refine Nm.mk (tmodN (by (first | omega | (simp [inR_t, inR_f] at *; omega)))) ?_ | refine Nm.mk (szS _) ?_ | refine Nm.mk (mi_eq _ _) ?_ | refine Nm.mk (ma_eq _ _) ?_ | refine Rq.mk (by first | (simp [dOwnL, dOwn] <;> fail) | (first | omega | (simp [inR_t, inR_f] at *; omega))) ?_ | refine And.intro (orderFast (by kernel_rfl)) ?_ | refine And.intro (by kernel_rfl) ?_ | refine Cl.mk (big_yes l hl) ?_ | refine Cl.pre (by simp only [shcLL_ints, shcLL_byts, shcLL_strs, Fetc.shcs, Gran.shcs, Mani.shcs, Name.shcs, Read.shcs, Segm.shcs]; rfl) ?_))
  exact Vs.Fin.mk (WkR.refl _) (.refl _)
theorem exPlans (l : List UInt8) : FO 3 [Ys false l] [Ys false l] (B true) := by
  by_cases hl : l.length ≤ 1048576
  · obtain ⟨b, size, hb, hs, k1⟩ := DSegm_ok l hl
    obtain ⟨q, hq, k2⟩ := DEncM_ok l hl
    obtain ⟨c, hc, k3⟩ := DDecM_ok l hl
    obtain ⟨s, m, i, hs2, hm, k4⟩ := DSegA_ok l hl
    obtain ⟨r, k, d, hr, hd, k5⟩ := DVerS_ok l hl
    obtain ⟨e, f, he, k6⟩ := DMakM_ok l hl
    obtain ⟨u, j, hu, hj, k7⟩ := DSegN_ok l hl
    have hx : (dM c).dig.length ≤ 1048576 := by have := dM_size c; simpa [Mani.size] using this
    have hok : (decM c).isSome = true → (if vMani (dM c) then encs ((dM c).seg :: (dM c).len :: (dM c).dig) else []) = c := by
      intro h
      obtain ⟨p, hp⟩ := Option.isSome_iff_exists.1 h
      have h2 := enc_decM hp
      have e : dM c = p := by unfold dM; rw [hp]; rfl
      rw [e, if_pos h2.1, h2.2]
    exact ex0Plans l hl b size hb hs k1 q hq k2 c hc k3 (dM c) _ hx hok (i_DM c hc) (s_DM c hc) s m i hs2 hm k4 r k d hr hd k5 e f he k6 u j hu hj k7
  · exact ex1Plans l hl
end Go.Proofs.YtncldmoobfapmaaDoor

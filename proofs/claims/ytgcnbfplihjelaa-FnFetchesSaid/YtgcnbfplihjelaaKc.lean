/- Contracts of functions of the program: no statement of the seat is proved here. Each under the conditions that stand in it. -/
import Derived.Test.YtgcnbfplihjelaaKb3
import Derived.Test.YtgcnbfplihjelaaFx
import Derived.Test.YtgcnbfplihjelaaFw
import Derived.Test.YtgcnbfplihjelaaFs
set_option linter.all false
namespace Go.Proofs.Ytgcnbfplihjelaa
open Go.Vs Go.Proofs
/-! A fetcher that has lost everything, and goes on -/
theorem sh_Y {f : Nat} {args outs : List Arg} {x : List UInt8} (h : FO f args outs (Ys true x)) : FO f args outs (Ys false x) := by
  have := sh_res h
  rwa [show shcL [cYs true x] = [cYs false x] by simp [shcL, Vs.shc, shcLL_byts]] at this
def mis (r : Nat) : Nat → Nat
  | 0 => 0
  | n + 1 => mis r n + if r.testBit n then 0 else 1
theorem mis_le (r : Nat) : ∀ n, mis r n ≤ n
  | 0 => Nat.le_refl _
  | n + 1 => by have := mis_le r n; unfold mis; split <;> omega
theorem mis_zero {r : Nat} : ∀ {n}, mis r n = 0 → ∀ k, k < n → r.testBit k = true
  | 0, _, k, hk => by omega
  | n + 1, h, k, hk => by
    unfold mis at h
    split at h
    · rename_i h1
      by_cases hkn : k = n
      · subst hkn; exact h1
      · exact mis_zero (n := n) (by omega) k (by omega)
    · omega
theorem mis_full {r : Nat} : ∀ {n}, (∀ k, k < n → r.testBit k = true) → mis r n = 0
  | 0, _ => rfl
  | n + 1, h => by
    unfold mis
    rw [mis_full (fun k hk => h k (by omega)), if_pos (h n (by omega))]
theorem mis_out {r i : Nat} : ∀ {n}, n ≤ i → mis (r ||| 2 ^ i) n = mis r n
  | 0, _ => rfl
  | n + 1, h => by
    unfold mis
    rw [mis_out (by omega), or_bit]
    have : decide (i = n) = false := by simp; omega
    rw [this, Bool.or_false]
theorem mis_set {r i : Nat} (hb : r.testBit i = false) : ∀ {n}, i < n → mis (r ||| 2 ^ i) n + 1 = mis r n
  | 0, h => by omega
  | n + 1, h => by
    unfold mis
    rw [or_bit]
    by_cases hin : i = n
    · subst hin
      rw [mis_out (Nat.le_refl _), hb]
      simp
    · have := mis_set hb (n := n) (by omega)
      have e : decide (i = n) = false := by simp; omega
      rw [e, Bool.or_false]
      split <;> omega
theorem full_eq {r n : Nat} (hr : r < 2 ^ n) (h : ∀ k, k < n → r.testBit k = true) : r = 2 ^ n - 1 := by
  apply Nat.eq_of_testBit_eq
  intro k
  rw [Nat.testBit_two_pow_sub_one]
  by_cases hk : k < n
  · rw [h k hk]; simp [hk]
  · have : r < 2 ^ k := Nat.lt_of_lt_of_le hr (Nat.pow_le_pow_right (n := 2) (by omega) (by omega))
    rw [Nat.testBit_lt_two_pow this]; simp [hk]
theorem zero_eq {o : Nat} (h : ∀ k, o.testBit k = false) : o = 0 := Nat.eq_of_testBit_eq fun k => by rw [h k, Nat.zero_testBit]
theorem bOr_nn {a b : Nat} (ha : a < 256) (hb : b < 256) : bOr (a : Int) (b : Int) = ((a ||| b : Nat) : Int) := by
  have h3 : ∀ n : Nat, n < 256 → (BitVec.ofInt 64 (n : Int)).toNat = n := fun n hn => by rw [BitVec.toNat_ofInt]; omega
  have h4 : (BitVec.ofInt 64 (a : Int) ||| BitVec.ofInt 64 (b : Int)).toNat = a ||| b := by rw [BitVec.toNat_or, h3 a ha, h3 b hb]
  have h5 : a ||| b < 2 ^ 8 := Nat.or_lt_two_pow (by omega) (by omega)
  show IntKind.wrap .i64 ((BitVec.ofInt 64 (a : Int) ||| BitVec.ofInt 64 (b : Int)).toNat : Int) = _
  rw [h4]
  exact wrapI (by omega) (by omega)
theorem Good.complete {p : Mani} {G : Nat → List UInt8} {f : Fetc} {r o : Nat} (g : Good p G f r o) (hG : ∀ t, t < p.dig.length → vSeg p t (G t) = true ∧ 0 < (G t).length) (h : ∀ k, k < p.dig.length → r.testBit k = true) : (vFet f && decide (f.received = allM f.mani)) = true := by
  have e := full_eq g.r1 h
  rw [g.valid hG, g.hr, g.hm]
  have h1 : 0 < 2 ^ p.dig.length := Nat.pow_pos (by omega)
  have e3 : ((r : Nat) : Int) = ((2 ^ p.dig.length : Nat) : Int) - 1 := by
    obtain ⟨z, hz⟩ : ∃ z, 2 ^ p.dig.length = z := ⟨_, rfl⟩
    rw [hz] at e h1 ⊢; omega
  rw [Bool.true_and]
  exact decide_eq_true e3
theorem room_le {f : Fetc} (h : 1 ≤ f.window) : roomF f ≤ f.window := by unfold roomF ma; split <;> omega
theorem nxt_room {f : Fetc} (h : 1 ≤ f.window) : ((nxt f).length : Int) ≤ f.window := by
  have h1 := room_le h
  unfold nxt nxtT
  simp only [List.length_map, List.length_take]
  omega
theorem Good.nxt_nil {p : Mani} {G : Nat → List UInt8} {f : Fetc} {r o : Nat} (g : Good p G f r o) (ho : o = 0) (h : nxt f = []) : ∀ k, k < p.dig.length → r.testBit k = true := by
  subst ho
  have h8 := vMani_len g.hv
  have hr := pow256 h8 g.r1
  intro k hk
  have hroom : 1 ≤ roomF f := by
    have h1 := g.w1
    have h2 : cntS f.outst 8 = 0 := by rw [g.ho]; decide
    unfold roomF ma
    rw [h2]
    split <;> omega
  cases hb : r.testBit k with
  | true => rfl
  | false =>
    exfalso
    have hmem : k ∈ fSegs f.received f.outst (min 8 f.mani.dig.length) := by
      unfold fSegs
      rw [List.mem_filter]
      refine ⟨List.mem_range.2 (by rw [g.hm]; omega), ?_⟩
      rw [g.hr, g.ho, inSt_n hr (by omega), hb, inSt_n (by decide) (by omega), Nat.zero_testBit]
      rfl
    have hz : (fSegs f.received f.outst (min 8 f.mani.dig.length)).take (roomF f).toNat = [] := by
      simpa [nxt, nxtT] using h
    rw [List.take_eq_nil_iff] at hz
    rcases hz with hz | hz
    · omega
    · rw [hz] at hmem; cases hmem
theorem Good.nxt_full {p : Mani} {G : Nat → List UInt8} {f : Fetc} {r o : Nat} (g : Good p G f r o) (h : ∀ k, k < p.dig.length → r.testBit k = true) : nxt f = [] := by
  have h8 := vMani_len g.hv
  have hr := pow256 h8 g.r1
  unfold nxt nxtT
  have : fSegs f.received f.outst (min 8 f.mani.dig.length) = [] := by
    unfold fSegs
    rw [List.filter_eq_nil_iff]
    intro k hk
    have hk := List.mem_range.1 hk
    rw [g.hm] at hk
    rw [g.hr, inSt_n hr (by omega), h k (by omega)]
    simp
  rw [this, List.take_nil]; rfl
theorem outst0 {o i : Nat} (hi : i ≤ 8) (ho : o < 256) : (o &&& (255 ^^^ 2 ^ i)) = o &&& (255 ^^^ 2 ^ i) := rfl
theorem clr_below {o o' i : Nat} (hi : i < 8) (e : o' = o &&& (255 ^^^ 2 ^ i)) (h : ∀ k, k < i → o.testBit k = false) : ∀ k, k < i + 1 → o'.testBit k = false := by
  intro k hk
  rw [e, clr_bit hi (by omega)]
  by_cases hik : i = k
  · simp [hik]
  · rw [h k (by omega)]; rfl
theorem all_clear {o : Nat} (ho : o < 256) (h : ∀ k, k < 8 → o.testBit k = false) : o = 0 := by
  apply zero_eq
  intro k
  by_cases hk : k < 8
  · exact h k hk
  · have : o < 2 ^ k := Nat.lt_of_lt_of_le (show o < 2 ^ 8 by omega) (Nat.pow_le_pow_right (n := 2) (by omega) (by omega))
    exact Nat.testBit_lt_two_pow this
theorem sub_or {r r' : Nat} (h : ∀ k, r.testBit k = true → r'.testBit k = true) : r ||| r' = r' := by
  apply Nat.eq_of_testBit_eq
  intro k
  rw [Nat.testBit_or]
  cases hb : r.testBit k with
  | false => rfl
  | true => rw [h k hb]; rfl
theorem own_clr {i : Nat} (hi : i < 8) : (0 ||| 2 ^ i) &&& (255 ^^^ 2 ^ i) = 0 := by
  have : ∀ j : Fin 8, (0 ||| 2 ^ j.val) &&& (255 ^^^ 2 ^ j.val) = 0 := by decide
  exact this ⟨i, hi⟩
theorem Good.next {p : Mani} {G : Nat → List UInt8} {f : Fetc} {r : Nat} (g : Good p G f r 0) (hG : ∀ t, t < p.dig.length → vSeg p t (G t) = true ∧ 0 < (G t).length) {i : Int} {l : List Int} (h : nxt f = i :: l) : ∃ k : Nat, i = (k : Int) ∧ k < p.dig.length ∧ r.testBit k = false ∧ Good p G (mrkF f i) r (0 ||| 2 ^ k) ∧ Good p G (rcvF (mrkF f i) i (G k)) (r ||| 2 ^ k) 0 := by
  have h8 := vMani_len g.hv
  have hh := nxt_head h
  obtain ⟨h1, -⟩ := nxt_nn hh
  obtain ⟨k, rfl⟩ : ∃ k : Nat, i = k := ⟨i.toNat, by omega⟩
  obtain ⟨g1, hk, hb, -⟩ := g.mrk k hh
  have g2 := g1.rcv hG k hk
  rw [hb] at g2
  simp only [Bool.false_eq_true, if_false] at g2
  rw [own_clr (by omega)] at g2
  exact ⟨k, rfl, hk, hb, g1, g2⟩
set_option maxHeartbeats 32000000
theorem is3 : FI 3 Try.f3 := ⟨⟨Try.f3, Try.func3, rfl, rfl, rfl, rfl⟩, rfl⟩
set_option maxRecDepth 20000 in
set_option maxHeartbeats 16000000 in
theorem ex0Lossy (l : List UInt8) (hl : l.length ≤ 1048576) (p : Mani) (G : Nat → List UInt8) (b : List UInt8) (f : Fetc) (r o : Nat) (hb : b.length ≤ 20) (g : Good p G f r o) (hG : ∀ t, t < p.dig.length → segAt b p t = G t ∧ vSeg p t (G t) = true ∧ 0 < (G t).length) (hGl : ∀ t, (G t).length ≤ 24) (k1 : FO 7 [Ys false l] [Ys false l] (FYs f b)) : FO 3 [Ys false l] [Ys false l] (B true) := by
  refine fok envOk mixed is3 ⟨rfl, rfl, ?_⟩
  have h8 := vMani_len g.hv
  have hG2 : ∀ t, t < p.dig.length → vSeg p t (G t) = true ∧ 0 < (G t).length := fun t ht => (hG t ht).2
  have hv := g.valid hG2
  have hz := g.size hGl
  have hVi := i_ValidFetcher f g.rng (by omega)
  have hVs := s_ValidFetcher f g.rng (by omega)
  rw [hv] at hVi hVs
  (repeat' ((conv => whnf); first | refine Br.tt ?_ | refine Br.ff ?_ | refine Br.pos (by assumption) ?_ | refine Br.neg (by assumption) ?_ | refine Br.bself ?_ | refine Br.dself ?_ | refine Br.iself ?_ | refine Nm.mk lenC ?_ | refine Nm.mk (wrapI (by (first | omega | (simp [inR_t, inR_f] at *; omega))) (by (first | omega | (simp [inR_t, inR_f] at *; omega)))) ?_ | refine Nm.mk (wrapQ (by (first | omega | (simp [inR_t, inR_f] at *; omega))) (by (first | omega | (simp [inR_t, inR_f] at *; omega))) (by (first | omega | (simp [inR_t, inR_f] at *; omega)))) ?_ | refine Nm.mk (tmodN (by (first | omega | (simp [inR_t, inR_f] at *; omega)))) ?_ | refine Nm.mk (szS _) ?_ | refine Nm.mk (mi_eq _ _) ?_ | refine Nm.mk (ma_eq _ _) ?_ | refine Rq.mk (by first | (simp [dOwnL, dOwn] <;> fail) | (first | omega | (simp [inR_t, inR_f] at *; omega))) ?_ | refine And.intro (orderFast (by kernel_rfl)) ?_ | refine And.intro (by kernel_rfl) ?_ | refine Cl.mk (big_no l hl) ?_ | refine Cl.mk (k1) ?_ | refine Cl.mk (hVi) ?_ | refine Cl.mk (hVs) ?_ | refine Cl.pre (by simp only [shcLL_ints, shcLL_byts, shcLL_strs, Fetc.shcs, Gran.shcs, Mani.shcs, Name.shcs, Read.shcs, Segm.shcs]; rfl) ?_))
  refine Lp.mk [.bx 3, .sl 3, .sl 4, .bx 5, .sl 5, .sl 6] (fun m σ => ∃ i x o', i + m = 8 ∧ Good p G x r o' ∧ (∀ k, k < i → o'.testBit k = false) ∧ σ = [Bx 3 (Fetc.c false f), Pt 3, Sa 4 (Ys false b), Bx 5 (Fetc.c false x), Pt 5, Sa 6 (I i)]) (8) _ (WkS.weak _ _) ⟨0, f, o, rfl, g, by intro k hk; omega, (by first | rfl | (simp only [zlen, zsum, Nat.zero_mul, Int.add_zero, Int.sub_zero, List.nil_append, markG]; rfl))⟩ ?_
  rintro m τ ⟨i, x, o', him, gx, hcl, rfl⟩
  have hzx := gx.size hGl
  by_cases h : i < 8
  · have f1 : decide ((i : Int) < 8) = true := by simp; omega
    have hL := sh_Fetc (i_SegmentLost x i gx.rng (by omega))
    have gL := gx.lost i h
    generalize lostF x i = x' at hL gL
    have hzl := gL.size hGl
    have hV := i_ValidFetcher x' gL.rng (by omega)
    rw [gL.valid hG2] at hV
    (repeat' ((conv => whnf); first | refine Br.tt ?_ | refine Br.ff ?_ | refine Br.pos (by assumption) ?_ | refine Br.neg (by assumption) ?_ | refine Br.bself ?_ | refine Br.dself ?_ | refine Br.iself ?_ | refine Nm.mk lenC ?_ | refine Nm.mk (wrapI (by (first | omega | (simp [inR_t, inR_f] at *; omega))) (by (first | omega | (simp [inR_t, inR_f] at *; omega)))) ?_ | refine Nm.mk (wrapQ (by (first | omega | (simp [inR_t, inR_f] at *; omega))) (by (first | omega | (simp [inR_t, inR_f] at *; omega))) (by (first | omega | (simp [inR_t, inR_f] at *; omega)))) ?_ | refine Nm.mk (tmodN (by (first | omega | (simp [inR_t, inR_f] at *; omega)))) ?_ | refine Nm.mk (szS _) ?_ | refine Nm.mk (mi_eq _ _) ?_ | refine Nm.mk (ma_eq _ _) ?_ | refine Rq.mk (by first | (simp [dOwnL, dOwn] <;> fail) | (first | omega | (simp [inR_t, inR_f] at *; omega))) ?_ | refine And.intro (orderFast (by kernel_rfl)) ?_ | refine And.intro (by kernel_rfl) ?_ | refine Cl.mk (hL) ?_ | refine Cl.mk (hV) ?_ | refine Cl.pre (by simp only [shcLL_ints, shcLL_byts, shcLL_strs, Fetc.shcs, Gran.shcs, Mani.shcs, Name.shcs, Read.shcs, Segm.shcs]; rfl) ?_))
    refine Nx.intro (m - 1) (by omega) _ (WkS.weak _ _) ⟨i + 1, x', _, by omega, gL, clr_below h rfl hcl, ?_⟩
    (repeat' (first | exact rfl | refine consE ?_ ?_ | refine entE ?_ | refine vI ?_ | refine vS ?_ | refine vT ?_ | refine vB ?_))
  · obtain rfl : i = 8 := by omega
    have f1 : decide (((8 : Nat) : Int) < 8) = false := by decide
    have ho256 := pow256 h8 gx.o1
    obtain rfl : o' = 0 := all_clear ho256 hcl
    have f2 : (x.outst != 0) = false := by rw [gx.ho]; rfl
    have hC := i_IsComplete x gx.rng (by omega)
    have hN := i_NextSegments x gx.rng (Fetc.size_dig (show Fetc.size x ≤ 1048576 by omega))
    have hdec : (vFet x && decide (x.received = allM x.mani)) = true ∨ ((vFet x && decide (x.received = allM x.mani)) = false ∧ ((((nxt x).length : Nat) : Int) == 0) = false) := by
      cases hc : (vFet x && decide (x.received = allM x.mani)) with
      | true => exact .inl rfl
      | false =>
        refine .inr ⟨rfl, ?_⟩
        simp only [beq_eq_false_iff_ne, ne_eq]
        intro h0
        have hn0 : nxt x = [] := List.eq_nil_of_length_eq_zero (by omega)
        rw [gx.complete hG2 (gx.nxt_nil rfl hn0)] at hc
        cases hc
    clear hv hVi hVs k1 hcl
    generalize (vFet x && decide (x.received = allM x.mani)) = cv at hC hdec
    have hloop : ∀ {X : Prop}, X → X := fun h => h
    rcases hdec with rfl | ⟨rfl, f3⟩
    all_goals
      (repeat' ((conv => whnf); first | refine Br.tt ?_ | refine Br.ff ?_ | refine Br.pos (by assumption) ?_ | refine Br.neg (by assumption) ?_ | refine Br.bself ?_ | refine Br.dself ?_ | refine Br.iself ?_ | refine Nm.mk lenC ?_ | refine Nm.mk (wrapI (by (first | omega | (simp [inR_t, inR_f] at *; omega))) (by (first | omega | (simp [inR_t, inR_f] at *; omega)))) ?_ | refine Nm.mk (wrapQ (by (first | omega | (simp [inR_t, inR_f] at *; omega))) (by (first | omega | (simp [inR_t, inR_f] at *; omega))) (by (first | omega | (simp [inR_t, inR_f] at *; omega)))) ?_ | refine Nm.mk (tmodN (by (first | omega | (simp [inR_t, inR_f] at *; omega)))) ?_ | refine Nm.mk (szS _) ?_ | refine Nm.mk (mi_eq _ _) ?_ | refine Nm.mk (ma_eq _ _) ?_ | refine Rq.mk (by first | (simp [dOwnL, dOwn] <;> fail) | (first | omega | (simp [inR_t, inR_f] at *; omega))) ?_ | refine And.intro (orderFast (by kernel_rfl)) ?_ | refine And.intro (by kernel_rfl) ?_ | refine Cl.mk (hC) ?_ | refine Cl.mk (hN) ?_ | refine Cl.pre (by simp only [shcLL_ints, shcLL_byts, shcLL_strs, Fetc.shcs, Gran.shcs, Mani.shcs, Name.shcs, Read.shcs, Segm.shcs]; rfl) ?_))
      refine Lp.mk [.bx 3, .sl 3, .sl 4, .bx 5, .sl 5, .sl 7] (fun m σ => ∃ i y r', i + m = 24 ∧ Good p G y r' 0 ∧ mis r' p.dig.length ≤ 8 - i ∧ (∀ k, r.testBit k = true → r'.testBit k = true) ∧ σ = [Bx 3 (Fetc.c false f), Pt 3, Sa 4 (Ys false b), Bx 5 (Fetc.c false y), Pt 5, Sa 7 (I i)]) (24) _ (WkS.weak _ _) ⟨0, x, r, rfl, gx, (by have := mis_le r p.dig.length; omega), fun _ h => h, (by first | rfl | (simp only [zlen, zsum, Nat.zero_mul, Int.add_zero, Int.sub_zero, List.nil_append, markG]; rfl))⟩ ?_
      rintro m τ ⟨i, y, r', him, gy, hms, hsub, rfl⟩
      have hzy := gy.size hGl
      by_cases h : i < 24
      · have f4 : decide ((i : Int) < 24) = true := by simp; omega
        have hNy := i_NextSegments y gy.rng (Fetc.size_dig (show Fetc.size y ≤ 1048576 by omega))
        cases hny : nxt y with
        | nil =>
          rw [hny] at hNy
          have hm0 := mis_full (gy.nxt_nil rfl hny)
          (repeat' ((conv => whnf); first | refine Br.tt ?_ | refine Br.ff ?_ | refine Br.pos (by assumption) ?_ | refine Br.neg (by assumption) ?_ | refine Br.bself ?_ | refine Br.dself ?_ | refine Br.iself ?_ | refine Nm.mk lenC ?_ | refine Nm.mk (wrapI (by (first | omega | (simp [inR_t, inR_f] at *; omega))) (by (first | omega | (simp [inR_t, inR_f] at *; omega)))) ?_ | refine Nm.mk (wrapQ (by (first | omega | (simp [inR_t, inR_f] at *; omega))) (by (first | omega | (simp [inR_t, inR_f] at *; omega))) (by (first | omega | (simp [inR_t, inR_f] at *; omega)))) ?_ | refine Nm.mk (tmodN (by (first | omega | (simp [inR_t, inR_f] at *; omega)))) ?_ | refine Nm.mk (szS _) ?_ | refine Nm.mk (mi_eq _ _) ?_ | refine Nm.mk (ma_eq _ _) ?_ | refine Rq.mk (by first | (simp [dOwnL, dOwn] <;> fail) | (first | omega | (simp [inR_t, inR_f] at *; omega))) ?_ | refine And.intro (orderFast (by kernel_rfl)) ?_ | refine And.intro (by kernel_rfl) ?_ | refine Cl.mk (hNy) ?_ | refine Rq.mk (by simp [dOwnL, dOwn, dOwnLL]) ?_ | refine Cl.pre (by simp only [shcLL_ints, shcLL_byts, shcLL_strs, Fetc.shcs, Gran.shcs, Mani.shcs, Name.shcs, Read.shcs, Segm.shcs]; rfl) ?_))
          refine Nx.intro (m - 1) (by omega) _ (WkS.weak _ _) ⟨i + 1, y, r', by omega, gy, by omega, hsub, ?_⟩
          (repeat' (first | exact rfl | refine consE ?_ ?_ | refine entE ?_ | refine vI ?_ | refine vS ?_ | refine vT ?_ | refine vB ?_))
        | cons q ql =>
          rw [hny] at hNy
          obtain ⟨k, rfl, hk, hbk, g1, g2⟩ := gy.next hG2 hny
          have hms2 := mis_set hbk hk
          have hM := sh_Fetc (i_MarkRequested y k gy.rng (by omega))
          generalize mrkF y k = y1 at hM g1 g2
          have hz1 := g1.size hGl
          have hgl := hGl k
          have hR := sh_Fetc (i_SegmentReceived y1 k (G k) g1.rng (by omega) (by omega))
          generalize rcvF y1 k (G k) = y2 at hR g2
          have hA := sh_Y (i_SegmentAt b p k (by omega) (by omega))
          rw [(hG k hk).1] at hA
          rw [← g.hm] at hA
          have f5 : decide ((((k : Int) :: ql).length : Int) > 0) = true := by simp <;> omega
          (repeat' ((conv => whnf); first | refine Br.tt ?_ | refine Br.ff ?_ | refine Br.pos (by assumption) ?_ | refine Br.neg (by assumption) ?_ | refine Br.bself ?_ | refine Br.dself ?_ | refine Br.iself ?_ | refine Nm.mk lenC ?_ | refine Nm.mk (wrapI (by (first | omega | (simp [inR_t, inR_f] at *; omega))) (by (first | omega | (simp [inR_t, inR_f] at *; omega)))) ?_ | refine Nm.mk (wrapQ (by (first | omega | (simp [inR_t, inR_f] at *; omega))) (by (first | omega | (simp [inR_t, inR_f] at *; omega))) (by (first | omega | (simp [inR_t, inR_f] at *; omega)))) ?_ | refine Nm.mk (tmodN (by (first | omega | (simp [inR_t, inR_f] at *; omega)))) ?_ | refine Nm.mk (szS _) ?_ | refine Nm.mk (mi_eq _ _) ?_ | refine Nm.mk (ma_eq _ _) ?_ | refine Rq.mk (by first | (simp [dOwnL, dOwn] <;> fail) | (first | omega | (simp [inR_t, inR_f] at *; omega))) ?_ | refine And.intro (orderFast (by kernel_rfl)) ?_ | refine And.intro (by kernel_rfl) ?_ | refine Cl.mk (hNy) ?_ | refine Rq.mk (by simp [dOwnL, dOwn, dOwnLL]) ?_ | refine El.mk (m := [cI k]) rfl ?_ | refine Cl.mk (hM) ?_ | refine Cl.mk (hA) ?_ | refine Cl.mk (hR) ?_ | refine Cl.pre (by simp only [shcLL_ints, shcLL_byts, shcLL_strs, Fetc.shcs, Gran.shcs, Mani.shcs, Name.shcs, Read.shcs, Segm.shcs]; rfl) ?_))
          refine Nx.intro (m - 1) (by omega) _ (WkS.weak _ _) ⟨i + 1, y2, _, by omega, g2, by omega, (fun t ht => by rw [or_bit, hsub t ht]; rfl), ?_⟩
          (repeat' (first | exact rfl | refine consE ?_ ?_ | refine entE ?_ | refine vI ?_ | refine vS ?_ | refine vT ?_ | refine vB ?_))
      · obtain rfl : i = 24 := by omega
        have f4 : decide (((24 : Nat) : Int) < 24) = false := by decide
        have hCy := i_IsComplete y gy.rng (by omega)
        rw [gy.complete hG2 (mis_zero (by omega))] at hCy
        have hor : bOr f.received y.received = y.received := by
          rw [g.hr, gy.hr, bOr_nn (pow256 h8 g.r1) (pow256 h8 gy.r1), sub_or hsub]
        (repeat' ((conv => whnf); first | refine Br.tt ?_ | refine Br.ff ?_ | refine Br.pos (by assumption) ?_ | refine Br.neg (by assumption) ?_ | refine Br.bself ?_ | refine Br.dself ?_ | refine Br.iself ?_ | refine Nm.mk lenC ?_ | refine Nm.mk (wrapI (by (first | omega | (simp [inR_t, inR_f] at *; omega))) (by (first | omega | (simp [inR_t, inR_f] at *; omega)))) ?_ | refine Nm.mk (wrapQ (by (first | omega | (simp [inR_t, inR_f] at *; omega))) (by (first | omega | (simp [inR_t, inR_f] at *; omega))) (by (first | omega | (simp [inR_t, inR_f] at *; omega)))) ?_ | refine Nm.mk (tmodN (by (first | omega | (simp [inR_t, inR_f] at *; omega)))) ?_ | refine Nm.mk (szS _) ?_ | refine Nm.mk (mi_eq _ _) ?_ | refine Nm.mk (ma_eq _ _) ?_ | refine Rq.mk (by first | (simp [dOwnL, dOwn] <;> fail) | (first | omega | (simp [inR_t, inR_f] at *; omega))) ?_ | refine And.intro (orderFast (by kernel_rfl)) ?_ | refine And.intro (by kernel_rfl) ?_ | refine Cl.mk (hCy) ?_ | refine Nm.mk ((bOr_eq _ _).trans hor) ?_ | refine Cl.pre (by simp only [shcLL_ints, shcLL_byts, shcLL_strs, Fetc.shcs, Gran.shcs, Mani.shcs, Name.shcs, Read.shcs, Segm.shcs]; rfl) ?_))
        refine Vs.Fin.mk (WkR.eq ?_) (.refl _)
        simp
set_option maxRecDepth 20000 in
set_option maxHeartbeats 16000000 in
theorem ex1Lossy (l : List UInt8) (hl : ¬ l.length ≤ 1048576) : FO 3 [Ys false l] [Ys false l] (B true) := by
  refine fok envOk mixed is3 ⟨rfl, rfl, ?_⟩
  (repeat' ((conv => whnf); first | refine Br.tt ?_ | refine Br.ff ?_ | refine Br.pos (by assumption) ?_ | refine Br.neg (by assumption) ?_ | refine Br.bself ?_ | refine Br.dself ?_ | refine Br.iself ?_ | refine Nm.mk lenC ?_ | refine Nm.mk (wrapI (by (first | omega | (simp [inR_t, inR_f] at *; omega))) (by (first | omega | (simp [inR_t, inR_f] at *; omega)))) ?_ | refine Nm.mk (wrapQ (by (first | omega | (simp [inR_t, inR_f] at *; omega))) (by (first | omega | (simp [inR_t, inR_f] at *; omega))) (by (first | omega | (simp [inR_t, inR_f] at *; omega)))) ?_ | refine Nm.mk (tmodN (by (first | omega | (simp [inR_t, inR_f] at *; omega)))) ?_ | refine Nm.mk (szS _) ?_ | refine Nm.mk (mi_eq _ _) ?_ | refine Nm.mk (ma_eq _ _) ?_ | refine Rq.mk (by first | (simp [dOwnL, dOwn] <;> fail) | (first | omega | (simp [inR_t, inR_f] at *; omega))) ?_ | refine And.intro (orderFast (by kernel_rfl)) ?_ | refine And.intro (by kernel_rfl) ?_ | refine Cl.mk (big_yes l hl) ?_ | refine Cl.pre (by simp only [shcLL_ints, shcLL_byts, shcLL_strs, Fetc.shcs, Gran.shcs, Mani.shcs, Name.shcs, Read.shcs, Segm.shcs]; rfl) ?_))
  exact Vs.Fin.mk (WkR.refl _) (.refl _)
theorem exLossy (l : List UInt8) : FO 3 [Ys false l] [Ys false l] (B true) := by
  by_cases hl : l.length ≤ 1048576
  · obtain ⟨p, G, b, f, r, o, hb, g, hG, hGl, hfl, k1⟩ := DFetch_ok l hl
    exact ex0Lossy l hl p G b f r o hb g hG hGl k1
  · exact ex1Lossy l hl
end Go.Proofs.Ytgcnbfplihjelaa

/- Contracts of functions of the program: no statement of the seat is proved here. Each under the conditions that stand in it. -/
import Derived.Test.YtcjolkhjjblnaaaUc
set_option linter.all false
namespace Go.Proofs.Ytcjolkhjjblnaaa
open Go.Vs Go.Proofs
/-! What is sealed is opened -/
theorem rdV_vint : ∀ (j x k n : Nat) (rest : List UInt8), x < 128 ^ (j + 1) → k + j < 6 → (0 < k → 0 < x) → n + x * 2 ^ (7 * k) ≤ 1000000000000 → rdV (vint x ++ rest) k n = some (n + x * 2 ^ (7 * k), k + (vint x).length)
  | j, x, k, n, rest, hx, hk, h0, hb => by
    by_cases h : x < 128
    · rw [vint_lt h]
      have e : (UInt8.ofNat x).toNat = x := by rw [UInt8.toNat_ofNat']; omega
      simp only [List.cons_append, List.nil_append, rdV, e]
      rw [if_pos (by omega), if_pos h, Nat.mod_eq_of_lt h, if_neg (by omega)]
      rfl
    · cases j with
      | zero => omega
      | succ j =>
        rw [vint_ge h]
        have e : (UInt8.ofNat (x % 128 + 128)).toNat = x % 128 + 128 := by rw [UInt8.toNat_ofNat']; omega
        simp only [List.cons_append, rdV, e]
        rw [if_pos (by omega), if_neg (by omega)]
        have e2 : (x % 128 + 128) % 128 = x % 128 := by omega
        have e3 : 2 ^ (7 * (k + 1)) = 128 * 2 ^ (7 * k) := by rw [show 7 * (k + 1) = 7 * k + 7 by omega, Nat.pow_add]; omega
        have e4 : x % 128 * 2 ^ (7 * k) + x / 128 * (128 * 2 ^ (7 * k)) = x * 2 ^ (7 * k) := by
          rw [← Nat.mul_assoc, ← Nat.add_mul]
          congr 1
          omega
        rw [e2, rdV_vint j (x / 128) (k + 1) (n + x % 128 * 2 ^ (7 * k)) rest (by rw [Nat.div_lt_iff_lt_mul (by omega)]; rw [Nat.pow_succ] at hx; exact hx) (by omega) (by omega) (by rw [e3]; omega), e3]
        congr 2
        · omega
        · simp; omega
theorem decB_encB (k : Int) (i : Nat) (x : UInt8) : decB k i (encB k i x) = x := by
  have hx := x.toNat_lt
  unfold decB encB
  apply UInt8.toNat_inj.1
  rw [UInt8.toNat_ofNat', UInt8.toNat_ofNat']
  omega
theorem dec_enc (k : Int) (b : List UInt8) : decL k (encL k b) = b := by
  unfold decL encL
  apply List.ext_getElem
  · simp
  · intro i h1 h2
    simp [decB_encB]
theorem hasPre_parts {n m : Name} (h : hasPre n m = true) : n.parts = m.parts ++ n.parts.drop m.parts.length := by
  simp only [hasPre, Bool.and_eq_true, decide_eq_true_eq] at h
  conv => lhs; rw [← List.take_append_drop m.parts.length n.parts, h.2]
theorem gsec_all (k : Int) (n : Name) : ∀ (l : List Name), l.any (fun m => hasPre n m) = true → gsec (l.map (mkGran k)) n = nsec k n.parts
  | [], h => by simp at h
  | m :: l, h => by
    unfold gsec
    cases hm : hasPre n m with
    | true =>
      rw [List.map_cons, List.find?_cons_of_pos (show covs n (mkGran k m) = true from hm)]
      have h9 := hasPre_parts hm
      show nsec (nsec k m.parts) (n.parts.drop m.parts.length) = nsec k n.parts
      conv => rhs; rw [h9]
      simp only [nsec, List.foldl_append]
    | false =>
      rw [List.map_cons, List.find?_cons_of_neg (show ¬ covs n (mkGran k m) = true by show ¬ hasPre n m = true; rw [hm]; simp)]
      have := gsec_all k n l (by simpa [hm] using h)
      unfold gsec at this
      exact this
theorem any_covs (k : Int) (n : Name) (l : List Name) : (l.map (mkGran k)).any (covs n) = l.any (fun m => hasPre n m) := by
  rw [List.any_map]; rfl
theorem open_seal (k : Int) (n : Name) (b : List UInt8) (l : List Name) : openC (l.map (mkGran k)) n (sealC k n b) = if l.any (fun m => hasPre n m) = true then some b else none := by
  have hm := mac_b (nsec k n.parts) (b2i b)
  obtain ⟨x, hx⟩ : ∃ x : Nat, mac (nsec k n.parts) (b2i b) = x := ⟨(mac (nsec k n.parts) (b2i b)).toNat, by omega⟩
  have he : evi (mac (nsec k n.parts) (b2i b)) = vint x := by
    unfold evi
    rw [if_pos (inR_t.2 (by omega)), hx, Int.toNat_natCast]
  have hr : rdV (sealC k n b) 0 0 = some (x, (vint x).length) := by
    unfold sealC
    rw [he, rdV_vint 4 x 0 0 _ (by omega) (by omega) (by omega) (by omega)]
    simp
  have hd : (sealC k n b).drop (vint x).length = encL (nsec k n.parts) b := by
    unfold sealC
    rw [he, List.drop_left]
  unfold openC
  rw [hr]
  simp only [any_covs, hd]
  cases h : l.any (fun m => hasPre n m) with
  | false => rfl
  | true =>
    rw [gsec_all k n l h, dec_enc, if_pos hx.symm]
theorem hasPre_snoc (n : Name) (s : ByteArray) : hasPre ⟨n.parts ++ [s]⟩ n = true := by simp [hasPre]
theorem is34 : FI 34 Try.f34 := ⟨⟨Try.f34, Try.func34, rfl, rfl, rfl, rfl⟩, rfl⟩
set_option maxRecDepth 20000 in
set_option maxHeartbeats 16000000 in
theorem same_Bytes (l : List UInt8) (hl : l.length ≤ 1099511627776) : FO 34 [Ys false l, Ys false l] [Ys false l, Ys false l] (B true) := by
  refine fok envOk mixed is34 ⟨rfl, rfl, ?_⟩
  (repeat' ((conv => whnf); first | refine Br.tt ?_ | refine Br.ff ?_ | refine Br.pos (by assumption) ?_ | refine Br.neg (by assumption) ?_ | refine Br.bself ?_ | refine Br.dself ?_ | refine Br.iself ?_ | refine Nm.mk lenC ?_ | refine Nm.mk (wrapI (by (first | omega | (simp [inR_t, inR_f] at *; omega))) (by (first | omega | (simp [inR_t, inR_f] at *; omega)))) ?_ | refine Nm.mk (wrapQ (by (first | omega | (simp [inR_t, inR_f] at *; omega))) (by (first | omega | (simp [inR_t, inR_f] at *; omega))) (by (first | omega | (simp [inR_t, inR_f] at *; omega)))) ?_ | refine Nm.mk (tmodN (by (first | omega | (simp [inR_t, inR_f] at *; omega)))) ?_ | refine Nm.mk (szS _) ?_ | refine Nm.mk (mi_eq _ _) ?_ | refine Nm.mk (ma_eq _ _) ?_ | refine Rq.mk (by first | (simp [dOwnL, dOwn] <;> fail) | (first | omega | (simp [inR_t, inR_f] at *; omega))) ?_ | refine And.intro (orderFast (by kernel_rfl)) ?_ | refine And.intro (by kernel_rfl) ?_ ))
  refine Lp.mk [.sl 0, .sl 1, .sl 5] (fun m σ => ∃ d r, l = d ++ r ∧ m = r.length ∧ σ = [Sa 0 (Ys false l), Sa 1 (Ys false l), Sa 5 (I d.length)]) (l.length) _ (WkS.weak _ _) ⟨[], l, rfl, rfl, (by first | rfl | (simp only [zlen, zsum, Nat.zero_mul, Int.add_zero, Int.sub_zero, List.nil_append, markG]; rfl))⟩ ?_
  rintro m τ ⟨d, r, hl2, rfl, rfl⟩
  have hy : l.length = d.length + r.length := by rw [hl2]; simp
  refine Nm.mk lenC ?_
  cases r with
  | nil =>
    refine Br.neg (by simp at * <;> omega) ?_
    (repeat' ((conv => whnf); first | refine Br.tt ?_ | refine Br.ff ?_ | refine Br.pos (by assumption) ?_ | refine Br.neg (by assumption) ?_ | refine Br.bself ?_ | refine Br.dself ?_ | refine Br.iself ?_ | refine Nm.mk lenC ?_ | refine Nm.mk (wrapI (by (first | omega | (simp [inR_t, inR_f] at *; omega))) (by (first | omega | (simp [inR_t, inR_f] at *; omega)))) ?_ | refine Nm.mk (wrapQ (by (first | omega | (simp [inR_t, inR_f] at *; omega))) (by (first | omega | (simp [inR_t, inR_f] at *; omega))) (by (first | omega | (simp [inR_t, inR_f] at *; omega)))) ?_ | refine Nm.mk (tmodN (by (first | omega | (simp [inR_t, inR_f] at *; omega)))) ?_ | refine Nm.mk (szS _) ?_ | refine Nm.mk (mi_eq _ _) ?_ | refine Nm.mk (ma_eq _ _) ?_ | refine Rq.mk (by first | (simp [dOwnL, dOwn] <;> fail) | (first | omega | (simp [inR_t, inR_f] at *; omega))) ?_ | refine And.intro (orderFast (by kernel_rfl)) ?_ | refine And.intro (by kernel_rfl) ?_ ))
    exact Vs.Fin.mk (WkR.refl _) (.refl _)
  | cons x r =>
    simp at hy
    refine Br.pos (by simp <;> omega) ?_
    (repeat' ((conv => whnf); first | refine Br.tt ?_ | refine Br.ff ?_ | refine Br.pos (by assumption) ?_ | refine Br.neg (by assumption) ?_ | refine Br.bself ?_ | refine Br.dself ?_ | refine Br.iself ?_ | refine Nm.mk lenC ?_ | refine Nm.mk (wrapI (by (first | omega | (simp [inR_t, inR_f] at *; omega))) (by (first | omega | (simp [inR_t, inR_f] at *; omega)))) ?_ | refine Nm.mk (wrapQ (by (first | omega | (simp [inR_t, inR_f] at *; omega))) (by (first | omega | (simp [inR_t, inR_f] at *; omega))) (by (first | omega | (simp [inR_t, inR_f] at *; omega)))) ?_ | refine Nm.mk (tmodN (by (first | omega | (simp [inR_t, inR_f] at *; omega)))) ?_ | refine Nm.mk (szS _) ?_ | refine Nm.mk (mi_eq _ _) ?_ | refine Nm.mk (ma_eq _ _) ?_ | refine Rq.mk (by first | (simp [dOwnL, dOwn] <;> fail) | (first | omega | (simp [inR_t, inR_f] at *; omega))) ?_ | refine And.intro (orderFast (by kernel_rfl)) ?_ | refine And.intro (by kernel_rfl) ?_ | refine El.mk (getH hl2 rfl) ?_ | refine Cl.pre (by simp only [shcLL_ints, shcLL_byts, shcLL_strs, Fetc.shcs, Gran.shcs, Mani.shcs, Name.shcs, Read.shcs, Segm.shcs]; rfl) ?_))
    refine Nx.intro r.length (by simp) _ (WkS.weak _ _) ⟨d ++ [x], r, by simp [hl2], rfl, ?_⟩
    rw [len1]; rfl
abbrev NNY (l : List Name) (n : Name) (b : List UInt8) : Arg := (.tup [(false, 1), (true, 1), (false, 1)], [sl true 1 (l.map (Name.c true)), cSs true n.parts, cYs true b])
abbrev GNY (l : List Gran) (n : Name) (b : List UInt8) : Arg := (.tup [(false, 1), (true, 1), (false, 1)], [sl true 2 (l.map (Gran.c true)), cSs true n.parts, cYs false b])
abbrev INY (k : Int) (n : Name) (b : List UInt8) : Arg := (.tup [(false, 1), (true, 1), (false, 1)], [cI k, cSs true n.parts, cYs true b])
abbrev GSt (g : Gran) (s : ByteArray) : Arg := (.tup [(true, 2), (false, 1)], [cSs true g.name.parts, cI g.secret, cS s])
def nT (N : Nat → Name) (j : Nat) : List Name := (List.range j).map N
theorem nT_succ (N : Nat → Name) (j : Nat) : nT N (j + 1) = nT N j ++ [N j] := by simp [nT, List.range_succ]
theorem nT_len (N : Nat → Name) (j : Nat) : (nT N j).length = j := by simp [nT]
theorem is41 : FI 41 Try.f41 := ⟨⟨Try.f41, Try.func41, rfl, rfl, rfl, rfl⟩, rfl⟩
set_option maxRecDepth 20000 in
set_option maxHeartbeats 16000000 in
theorem DShut0 (l : List UInt8) (c0 : List AV) (C : Nat → List AV) (c2 c3 c4 : List AV) (N : Nat → Name) (k : Nat) (n : Name) (y : Int) (b : List UInt8) (hk : k ≤ 3) (hN : ∀ j, strsSize (N j).parts ≤ 27) (k0 : FO 62 [Ys false l] [Ys false l] (O (.own c0))) (k1 : FO 77 [O (.own c0), I 4] [O (.own (C 0)), I 4] (I k)) (k2 : ∀ j, FO 89 [O (.own (C j))] [O (.own (C (j + 1)))] (A (Name.c true (N j)))) (k3 : FO 89 [O (.own (C k))] [O (.own c2)] (A (Name.c true n))) (k4 : FO 77 [O (.own c2), I 6] [O (.own c3), I 6] (I y)) (k5 : FO 90 [O (.own c3), I y] [O (.own c4), I y] (Ys true b)) : FO 41 [Ys false l] [Ys false l] (NNY (nT N k) n b) := by
  refine fok envOk mixed is41 ⟨rfl, rfl, ?_⟩
  (repeat' ((conv => whnf); first | refine Br.tt ?_ | refine Br.ff ?_ | refine Br.pos (by assumption) ?_ | refine Br.neg (by assumption) ?_ | refine Br.bself ?_ | refine Br.dself ?_ | refine Br.iself ?_ | refine Nm.mk lenC ?_ | refine Nm.mk (wrapI (by (first | omega | (simp [inR_t, inR_f] at *; omega))) (by (first | omega | (simp [inR_t, inR_f] at *; omega)))) ?_ | refine Nm.mk (wrapQ (by (first | omega | (simp [inR_t, inR_f] at *; omega))) (by (first | omega | (simp [inR_t, inR_f] at *; omega))) (by (first | omega | (simp [inR_t, inR_f] at *; omega)))) ?_ | refine Nm.mk (tmodN (by (first | omega | (simp [inR_t, inR_f] at *; omega)))) ?_ | refine Nm.mk (szS _) ?_ | refine Nm.mk (mi_eq _ _) ?_ | refine Nm.mk (ma_eq _ _) ?_ | refine Rq.mk (by first | (simp [dOwnL, dOwn] <;> fail) | (first | omega | (simp [inR_t, inR_f] at *; omega))) ?_ | refine And.intro (orderFast (by kernel_rfl)) ?_ | refine And.intro (by kernel_rfl) ?_ | refine Cl.mk (k0) ?_ | refine Cl.mk (k1) ?_ | refine Cl.pre (by simp only [shcLL_ints, shcLL_byts, shcLL_strs, Fetc.shcs, Gran.shcs, Mani.shcs, Name.shcs, Read.shcs, Segm.shcs]; rfl) ?_))
  refine Lp.mk [.bx 3, .sl 3, .sl 5, .ow 5, .sl 6, .sl 7] (fun m σ => ∃ j, j + m = k ∧ σ = [Bx 3 ([.sl true .isnil 0 []]), Pt 3, Rw 5, Ow 5 (O (.own (C j))), Sa 6 (O (.sl true .non 1 ((nT N j).map (Name.c true)))), Sa 7 (I m)]) (k) _ (WkS.weak _ _) ⟨0, by simp, (by first | rfl | (simp only [zlen, zsum, Nat.zero_mul, Int.add_zero, Int.sub_zero, List.nil_append, markG]; rfl))⟩ ?_
  rintro m τ ⟨j, hj, rfl⟩
  have hgl := nT_len N j
  have hz := hN j
  refine Br.dec (fun h => ?_) (fun h => ?_)
  · (repeat' ((conv => whnf); first | refine Br.tt ?_ | refine Br.ff ?_ | refine Br.pos (by assumption) ?_ | refine Br.neg (by assumption) ?_ | refine Br.bself ?_ | refine Br.dself ?_ | refine Br.iself ?_ | refine Nm.mk lenC ?_ | refine Nm.mk (wrapI (by (first | omega | (simp [inR_t, inR_f] at *; omega))) (by (first | omega | (simp [inR_t, inR_f] at *; omega)))) ?_ | refine Nm.mk (wrapQ (by (first | omega | (simp [inR_t, inR_f] at *; omega))) (by (first | omega | (simp [inR_t, inR_f] at *; omega))) (by (first | omega | (simp [inR_t, inR_f] at *; omega)))) ?_ | refine Nm.mk (tmodN (by (first | omega | (simp [inR_t, inR_f] at *; omega)))) ?_ | refine Nm.mk (szS _) ?_ | refine Nm.mk (mi_eq _ _) ?_ | refine Nm.mk (ma_eq _ _) ?_ | refine Rq.mk (by first | (simp [dOwnL, dOwn] <;> fail) | (first | omega | (simp [inR_t, inR_f] at *; omega))) ?_ | refine And.intro (orderFast (by kernel_rfl)) ?_ | refine And.intro (by kernel_rfl) ?_ | refine Cl.mk (k2 j) ?_ | refine Cl.pre (by simp only [shcLL_ints, shcLL_byts, shcLL_strs, Fetc.shcs, Gran.shcs, Mani.shcs, Name.shcs, Read.shcs, Segm.shcs]; rfl) ?_))
    refine Nx.intro (m - 1) (by omega) _ (WkS.weak _ _) ⟨j + 1, by omega, ?_⟩
    (repeat' (first | exact rfl | refine consE ?_ ?_ | refine entE ?_ | refine vI ?_ | refine vS ?_ | refine vT ?_ | refine vB ?_))
    · rw [nT_succ]; simp
    · omega
  · obtain rfl : j = k := by omega
    (repeat' ((conv => whnf); first | refine Br.tt ?_ | refine Br.ff ?_ | refine Br.pos (by assumption) ?_ | refine Br.neg (by assumption) ?_ | refine Br.bself ?_ | refine Br.dself ?_ | refine Br.iself ?_ | refine Nm.mk lenC ?_ | refine Nm.mk (wrapI (by (first | omega | (simp [inR_t, inR_f] at *; omega))) (by (first | omega | (simp [inR_t, inR_f] at *; omega)))) ?_ | refine Nm.mk (wrapQ (by (first | omega | (simp [inR_t, inR_f] at *; omega))) (by (first | omega | (simp [inR_t, inR_f] at *; omega))) (by (first | omega | (simp [inR_t, inR_f] at *; omega)))) ?_ | refine Nm.mk (tmodN (by (first | omega | (simp [inR_t, inR_f] at *; omega)))) ?_ | refine Nm.mk (szS _) ?_ | refine Nm.mk (mi_eq _ _) ?_ | refine Nm.mk (ma_eq _ _) ?_ | refine Rq.mk (by first | (simp [dOwnL, dOwn] <;> fail) | (first | omega | (simp [inR_t, inR_f] at *; omega))) ?_ | refine And.intro (orderFast (by kernel_rfl)) ?_ | refine And.intro (by kernel_rfl) ?_ | refine Cl.mk (k3) ?_ | refine Cl.mk (k4) ?_ | refine Cl.mk (k5) ?_ | refine Cl.pre (by simp only [shcLL_ints, shcLL_byts, shcLL_strs, Fetc.shcs, Gran.shcs, Mani.shcs, Name.shcs, Read.shcs, Segm.shcs]; rfl) ?_))
    exact Vs.Fin.mk (WkR.of (.top (.refl _))) (.refl _)
theorem DShut_ok (l : List UInt8) (hl : l.length ≤ 1048576) : ∃ (L : List Name) (n : Name) (b : List UInt8), L.length ≤ 3 ∧ (∀ m ∈ L, strsSize m.parts ≤ 27) ∧ strsSize n.parts ≤ 27 ∧ b.length ≤ 6 ∧ FO 41 [Ys false l] [Ys false l] (NNY L n b) := by
  obtain ⟨c0, i0, k0⟩ := new_ok l hl
  obtain ⟨c1, x, i1, hx, -, k1⟩ := below_ok i0 4
  have hx := hx (by omega)
  obtain ⟨k, rfl⟩ : ∃ k : Nat, x = k := ⟨x.toNat, by omega⟩
  obtain ⟨C, N, rfl, h⟩ := draws (P := IsC) (R := fun s x s' => strsSize x.parts ≤ 27 ∧ FO 89 [O (.own s)] [O (.own s')] (A (Name.c true x))) (fun s hs => by
    obtain ⟨c, n, a, b, d⟩ := name_ok hs
    exact ⟨c, n, a, b, d⟩) c1 i1
  obtain ⟨c2, n, i2, hn, k3⟩ := name_ok (h k).1
  obtain ⟨c3, y, i3, hy, -, k4⟩ := below_ok i2 6
  have hy := hy (by omega)
  obtain ⟨c4, b, i4, hb, k5⟩ := bytes_ok i3 y (by omega)
  refine ⟨nT N k, n, b, by rw [nT_len]; omega, ?_, hn, by omega, DShut0 l c0 C c2 c3 c4 N k n y b (by omega) (fun j => (h j).2.1) k0 k1 (fun j => (h j).2.2) k3 k4 k5⟩
  intro m hm
  simp only [nT, List.mem_map] at hm
  obtain ⟨q, -, rfl⟩ := hm
  exact (h q).2.1
def strQ : ByteArray := ⟨#[113]⟩
theorem is42 : FI 42 Try.f42 := ⟨⟨Try.f42, Try.func42, rfl, rfl, rfl, rfl⟩, rfl⟩
set_option maxRecDepth 20000 in
set_option maxHeartbeats 16000000 in
theorem DOpen0 (l : List UInt8) (c0 c1 c2 c3 c4 c5 c6 c7 : List AV) (L : List Gran) (n : Name) (b : Bool) (i y : Int) (g : Gran) (d e : List UInt8) (hL : L.length ≤ 3) (hg : strsSize g.name.parts ≤ 27) (hn : strsSize n.parts ≤ 27) (hd : d.length ≤ 6) (k0 : FO 62 [Ys false l] [Ys false l] (O (.own c0))) (k1 : FO 91 [O (.own c0), I 900] [O (.own c1), I 900] (Gs true L)) (k2 : FO 89 [O (.own c1)] [O (.own c2)] (A (Name.c true n))) (hb : b = true → 0 < L.length ∧ 0 ≤ i ∧ i < L.length ∧ L[i.toNat]? = some g) (hc : b = false → c4 = c3) (k3 : 0 < L.length → FO 92 [O (.own c2), I 2] [O (.own c3), I 2] (B b)) (hc3 : L.length = 0 → b = false ∧ c3 = c2) (k4 : b = true → FO 77 [O (.own c3), I L.length] [O (.own c4), I L.length] (I i)) (k5 : FO 77 [O (.own c4), I 6] [O (.own c5), I 6] (I y)) (k6 : FO 90 [O (.own c5), I y] [O (.own c6), I y] (Ys true d)) (k7 : FO 78 [O (.own c6), Ys false (sealC 900 (if b then apName g.name strQ else n) d)] [O (.own c7), Ys false (sealC 900 (if b then apName g.name strQ else n) d)] (Ys false e)) : FO 42 [Ys false l] [Ys false l] (GNY L (if b then apName g.name strQ else n) e) := by
  refine fok envOk mixed is42 ⟨rfl, rfl, ?_⟩
  have hq : strQ.size = 1 := rfl
  have hap := @apName_size g.name strQ
  rw [hq] at hap
  cases b with
  | false =>
    have hc := hc rfl
    subst hc
    simp only [Bool.false_eq_true, if_false] at k7 ⊢
    by_cases h0 : L.length = 0
    · obtain ⟨-, rfl⟩ := hc3 h0
      have f1 : decide ((L.length : Int) > 0) = false := decide_eq_false (by omega)
      (repeat' ((conv => whnf); first | refine Br.tt ?_ | refine Br.ff ?_ | refine Br.pos (by assumption) ?_ | refine Br.neg (by assumption) ?_ | refine Br.bself ?_ | refine Br.dself ?_ | refine Br.iself ?_ | refine Nm.mk lenC ?_ | refine Nm.mk (wrapI (by (first | omega | (simp [inR_t, inR_f] at *; omega))) (by (first | omega | (simp [inR_t, inR_f] at *; omega)))) ?_ | refine Nm.mk (wrapQ (by (first | omega | (simp [inR_t, inR_f] at *; omega))) (by (first | omega | (simp [inR_t, inR_f] at *; omega))) (by (first | omega | (simp [inR_t, inR_f] at *; omega)))) ?_ | refine Nm.mk (tmodN (by (first | omega | (simp [inR_t, inR_f] at *; omega)))) ?_ | refine Nm.mk (szS _) ?_ | refine Nm.mk (mi_eq _ _) ?_ | refine Nm.mk (ma_eq _ _) ?_ | refine Rq.mk (by first | (simp [dOwnL, dOwn] <;> fail) | (first | omega | (simp [inR_t, inR_f] at *; omega))) ?_ | refine And.intro (orderFast (by kernel_rfl)) ?_ | refine And.intro (by kernel_rfl) ?_ | refine Cl.mk (k0) ?_ | refine Cl.mk (k1) ?_ | refine Cl.mk (k2) ?_ | refine Cl.mk (k5) ?_ | refine Cl.mk (k6) ?_ | refine Cl.mk (s_SealContent 900 n d (by omega) (by omega)) ?_ | refine Cl.mk (k7) ?_ | refine Cl.pre (by simp only [shcLL_ints, shcLL_byts, shcLL_strs, Fetc.shcs, Gran.shcs, Mani.shcs, Name.shcs, Read.shcs, Segm.shcs]; rfl) ?_))
      exact Vs.Fin.mk (WkR.refl _) (.refl _)
    · have k3 := k3 (by omega)
      have f1 : decide ((L.length : Int) > 0) = true := decide_eq_true (by omega)
      (repeat' ((conv => whnf); first | refine Br.tt ?_ | refine Br.ff ?_ | refine Br.pos (by assumption) ?_ | refine Br.neg (by assumption) ?_ | refine Br.bself ?_ | refine Br.dself ?_ | refine Br.iself ?_ | refine Nm.mk lenC ?_ | refine Nm.mk (wrapI (by (first | omega | (simp [inR_t, inR_f] at *; omega))) (by (first | omega | (simp [inR_t, inR_f] at *; omega)))) ?_ | refine Nm.mk (wrapQ (by (first | omega | (simp [inR_t, inR_f] at *; omega))) (by (first | omega | (simp [inR_t, inR_f] at *; omega))) (by (first | omega | (simp [inR_t, inR_f] at *; omega)))) ?_ | refine Nm.mk (tmodN (by (first | omega | (simp [inR_t, inR_f] at *; omega)))) ?_ | refine Nm.mk (szS _) ?_ | refine Nm.mk (mi_eq _ _) ?_ | refine Nm.mk (ma_eq _ _) ?_ | refine Rq.mk (by first | (simp [dOwnL, dOwn] <;> fail) | (first | omega | (simp [inR_t, inR_f] at *; omega))) ?_ | refine And.intro (orderFast (by kernel_rfl)) ?_ | refine And.intro (by kernel_rfl) ?_ | refine Cl.mk (k0) ?_ | refine Cl.mk (k1) ?_ | refine Cl.mk (k2) ?_ | refine Cl.mk (k3) ?_ | refine Cl.mk (k5) ?_ | refine Cl.mk (k6) ?_ | refine Cl.mk (s_SealContent 900 n d (by omega) (by omega)) ?_ | refine Cl.mk (k7) ?_ | refine Cl.pre (by simp only [shcLL_ints, shcLL_byts, shcLL_strs, Fetc.shcs, Gran.shcs, Mani.shcs, Name.shcs, Read.shcs, Segm.shcs]; rfl) ?_))
      exact Vs.Fin.mk (WkR.refl _) (.refl _)
  | true =>
    obtain ⟨h1, h2, h3, h4⟩ := hb rfl
    have k3 := k3 h1
    have k4 := k4 rfl
    simp only [if_true] at k7 ⊢
    have f1 : decide ((L.length : Int) > 0) = true := decide_eq_true (by omega)
    (repeat' ((conv => whnf); first | refine Br.tt ?_ | refine Br.ff ?_ | refine Br.pos (by assumption) ?_ | refine Br.neg (by assumption) ?_ | refine Br.bself ?_ | refine Br.dself ?_ | refine Br.iself ?_ | refine Nm.mk lenC ?_ | refine Nm.mk (wrapI (by (first | omega | (simp [inR_t, inR_f] at *; omega))) (by (first | omega | (simp [inR_t, inR_f] at *; omega)))) ?_ | refine Nm.mk (wrapQ (by (first | omega | (simp [inR_t, inR_f] at *; omega))) (by (first | omega | (simp [inR_t, inR_f] at *; omega))) (by (first | omega | (simp [inR_t, inR_f] at *; omega)))) ?_ | refine Nm.mk (tmodN (by (first | omega | (simp [inR_t, inR_f] at *; omega)))) ?_ | refine Nm.mk (szS _) ?_ | refine Nm.mk (mi_eq _ _) ?_ | refine Nm.mk (ma_eq _ _) ?_ | refine Rq.mk (by first | (simp [dOwnL, dOwn] <;> fail) | (first | omega | (simp [inR_t, inR_f] at *; omega))) ?_ | refine And.intro (orderFast (by kernel_rfl)) ?_ | refine And.intro (by kernel_rfl) ?_ | refine Cl.mk (k0) ?_ | refine Cl.mk (k1) ?_ | refine Cl.mk (k2) ?_ | refine Cl.mk (k3) ?_ | refine Cl.mk (k4) ?_ | refine El.mk (getV h4) ?_ | refine Cl.mk (s_AppendPart g.name strQ (by omega) (by omega)) ?_ | refine Cl.mk (k5) ?_ | refine Cl.mk (k6) ?_ | refine Cl.mk (s_SealContent 900 (apName g.name strQ) d (by omega) (by omega)) ?_ | refine Cl.mk (k7) ?_ | refine Cl.pre (by simp only [shcLL_ints, shcLL_byts, shcLL_strs, Fetc.shcs, Gran.shcs, Mani.shcs, Name.shcs, Read.shcs, Segm.shcs]; rfl) ?_))
    exact Vs.Fin.mk (WkR.refl _) (.refl _)
theorem DOpen_ok (l : List UInt8) (hl : l.length ≤ 1048576) : ∃ (L : List Gran) (n : Name) (b : List UInt8), L.length + sumN Gran.size L ≤ 100 ∧ strsSize n.parts ≤ 30 ∧ b.length ≤ 20 ∧ FO 42 [Ys false l] [Ys false l] (GNY L n b) := by
  obtain ⟨c0, i0, k0⟩ := new_ok l hl
  obtain ⟨c1, L, i1, hL, hLs, hLm, k1⟩ := grants_ok i0
  obtain ⟨c2, n, i2, hn, k2⟩ := name_ok i1
  have hq : strQ.size = 1 := rfl
  by_cases h0 : L.length = 0
  · obtain ⟨c5, y, i5, hy, -, k5⟩ := below_ok i2 6
    have hy := hy (by omega)
    obtain ⟨c6, d, i6, hd, k6⟩ := bytes_ok i5 y (by omega)
    have hsl := sealC_len 900 n d
    obtain ⟨c7, e, i7, he, k7⟩ := bent_ok i6 (sealC 900 n d) (by omega)
    exact ⟨L, n, e, hLs, by omega, by omega, DOpen0 l c0 c1 c2 c2 c2 c5 c6 c7 L n false 0 y ⟨⟨[]⟩, 0⟩ d e hL (by decide) hn (by omega) k0 k1 k2 (by simp) (fun _ => rfl) (fun h => by omega) (fun _ => ⟨rfl, rfl⟩) (by simp) k5 k6 k7⟩
  · obtain ⟨c3, b, i3, k3⟩ := once_ok i2 2
    cases b with
    | false =>
      obtain ⟨c5, y, i5, hy, -, k5⟩ := below_ok i3 6
      have hy := hy (by omega)
      obtain ⟨c6, d, i6, hd, k6⟩ := bytes_ok i5 y (by omega)
      have hsl := sealC_len 900 n d
      obtain ⟨c7, e, i7, he, k7⟩ := bent_ok i6 (sealC 900 n d) (by omega)
      exact ⟨L, n, e, hLs, by omega, by omega, DOpen0 l c0 c1 c2 c3 c3 c5 c6 c7 L n false 0 y ⟨⟨[]⟩, 0⟩ d e hL (by decide) hn (by omega) k0 k1 k2 (by simp) (fun _ => rfl) (fun _ => k3) (fun h => absurd h h0) (by simp) k5 k6 k7⟩
    | true =>
      obtain ⟨c4, i, i4, hi, -, k4⟩ := below_ok i3 L.length
      have hi := hi (by omega)
      have hlt : i.toNat < L.length := by omega
      have hg := hLm _ (List.getElem_mem hlt)
      obtain ⟨c5, y, i5, hy, -, k5⟩ := below_ok i4 6
      have hy := hy (by omega)
      obtain ⟨c6, d, i6, hd, k6⟩ := bytes_ok i5 y (by omega)
      have hap := @apName_size L[i.toNat].name strQ
      have hsl := sealC_len 900 (apName L[i.toNat].name strQ) d
      obtain ⟨c7, e, i7, he, k7⟩ := bent_ok i6 (sealC 900 (apName L[i.toNat].name strQ) d) (by omega)
      exact ⟨L, _, e, hLs, by simp only [if_true]; omega, by omega, DOpen0 l c0 c1 c2 c3 c4 c5 c6 c7 L n true i y L[i.toNat] d e hL hg hn (by omega) k0 k1 k2 (fun _ => ⟨by omega, hi.1, hi.2, List.getElem?_eq_getElem hlt⟩) (by simp) (fun _ => k3) (fun h => absurd h h0) (fun _ => k4) k5 k6 (by simpa using k7)⟩
end Go.Proofs.Ytcjolkhjjblnaaa

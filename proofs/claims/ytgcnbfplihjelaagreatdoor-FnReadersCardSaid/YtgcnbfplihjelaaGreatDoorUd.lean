/- Contracts of functions of the program: no statement of the seat is proved here. Each under the conditions that stand in it. -/
import Derived.Test.YtgcnbfplihjelaaGreatDoorUc
set_option linter.all false
namespace Go.Proofs.YtgcnbfplihjelaaGreatDoor
open Go.Vs Go.Proofs
/-! What is sealed is opened -/
theorem rdV_vint : ∀ (j x k n : Nat) (rest : List UInt8), x < 128 ^ (j + 1) → k + j < 6 → (0 < k → 0 < x) → n + x * 2 ^ (7 * k) ≤ 1000000000000 → rdV (vint x ++ rest) k n = some (n + x * 2 ^ (7 * k), k + (vint x).length)
  | j, x, k, n, rest, hx, hk, h0, hb => by
    by_cases h : x < 128
    · rw [vint_lt h]
      have e : (UInt8.ofNat x).toNat = x := by rw [UInt8.toNat_ofNat']; omega
      simp only [List.cons_append, List.nil_append, rdV, e]
      rw [if_pos (by omega), if_pos h, Nat.mod_eq_of_lt h, if_neg (by omega)]
      rfl
    · cases j with
      | zero => omega
      | succ j =>
        rw [vint_ge h]
        have e : (UInt8.ofNat (x % 128 + 128)).toNat = x % 128 + 128 := by rw [UInt8.toNat_ofNat']; omega
        simp only [List.cons_append, rdV, e]
        rw [if_pos (by omega), if_neg (by omega)]
        have e2 : (x % 128 + 128) % 128 = x % 128 := by omega
        have e3 : 2 ^ (7 * (k + 1)) = 128 * 2 ^ (7 * k) := by rw [show 7 * (k + 1) = 7 * k + 7 by omega, Nat.pow_add]; omega
        have e4 : x % 128 * 2 ^ (7 * k) + x / 128 * (128 * 2 ^ (7 * k)) = x * 2 ^ (7 * k) := by
          rw [← Nat.mul_assoc, ← Nat.add_mul]
          congr 1
          omega
        rw [e2, rdV_vint j (x / 128) (k + 1) (n + x % 128 * 2 ^ (7 * k)) rest (by rw [Nat.div_lt_iff_lt_mul (by omega)]; rw [Nat.pow_succ] at hx; exact hx) (by omega) (by omega) (by rw [e3]; omega), e3]
        congr 2
        · omega
        · simp; omega
theorem decB_encB (k : Int) (i : Nat) (x : UInt8) : decB k i (encB k i x) = x := by
  have hx := x.toNat_lt
  unfold decB encB
  apply UInt8.toNat_inj.1
  rw [UInt8.toNat_ofNat', UInt8.toNat_ofNat']
  omega
theorem dec_enc (k : Int) (b : List UInt8) : decL k (encL k b) = b := by
  unfold decL encL
  apply List.ext_getElem
  · simp
  · intro i h1 h2
    simp [decB_encB]
theorem hasPre_parts {n m : Name} (h : hasPre n m = true) : n.parts = m.parts ++ n.parts.drop m.parts.length := by
  simp only [hasPre, Bool.and_eq_true, decide_eq_true_eq] at h
  conv => lhs; rw [← List.take_append_drop m.parts.length n.parts, h.2]
theorem gsec_all (k : Int) (n : Name) : ∀ (l : List Name), l.any (fun m => hasPre n m) = true → gsec (l.map (mkGran k)) n = nsec k n.parts
  | [], h => by simp at h
  | m :: l, h => by
    unfold gsec
    cases hm : hasPre n m with
    | true =>
      rw [List.map_cons, List.find?_cons_of_pos (show covs n (mkGran k m) = true from hm)]
      have h9 := hasPre_parts hm
      show nsec (nsec k m.parts) (n.parts.drop m.parts.length) = nsec k n.parts
      conv => rhs; rw [h9]
      simp only [nsec, List.foldl_append]
    | false =>
      rw [List.map_cons, List.find?_cons_of_neg (show ¬ covs n (mkGran k m) = true by show ¬ hasPre n m = true; rw [hm]; simp)]
      have := gsec_all k n l (by simpa [hm] using h)
      unfold gsec at this
      exact this
theorem any_covs (k : Int) (n : Name) (l : List Name) : (l.map (mkGran k)).any (covs n) = l.any (fun m => hasPre n m) := by
  rw [List.any_map]; rfl
theorem open_seal (k : Int) (n : Name) (b : List UInt8) (l : List Name) : openC (l.map (mkGran k)) n (sealC k n b) = if l.any (fun m => hasPre n m) = true then some b else none := by
  have hm := mac_b (nsec k n.parts) (b2i b)
  obtain ⟨x, hx⟩ : ∃ x : Nat, mac (nsec k n.parts) (b2i b) = x := ⟨(mac (nsec k n.parts) (b2i b)).toNat, by omega⟩
  have he : evi (mac (nsec k n.parts) (b2i b)) = vint x := by
    unfold evi
    rw [if_pos (inR_t.2 (by omega)), hx, Int.toNat_natCast]
  have hr : rdV (sealC k n b) 0 0 = some (x, (vint x).length) := by
    unfold sealC
    rw [he, rdV_vint 4 x 0 0 _ (by omega) (by omega) (by omega) (by omega)]
    simp
  have hd : (sealC k n b).drop (vint x).length = encL (nsec k n.parts) b := by
    unfold sealC
    rw [he, List.drop_left]
  unfold openC
  rw [hr]
  simp only [any_covs, hd]
  cases h : l.any (fun m => hasPre n m) with
  | false => rfl
  | true =>
    rw [gsec_all k n l h, dec_enc, if_pos hx.symm]
theorem hasPre_snoc (n : Name) (s : ByteArray) : hasPre ⟨n.parts ++ [s]⟩ n = true := by simp [hasPre]
theorem is46 : FI 46 Tryz.f46 := ⟨⟨Tryz.f46, Tryz.func46, rfl, rfl, rfl, rfl⟩, rfl⟩
set_option maxRecDepth 20000 in
set_option maxHeartbeats 16000000 in
theorem same_Bytes (l : List UInt8) (hl : l.length ≤ 1099511627776) : FO 46 [Ys false l, Ys false l] [Ys false l, Ys false l] (B true) := by
  refine fok envOk mixed is46 ⟨rfl, rfl, ?_⟩
  (repeat' ((conv => whnf); first | refine Br.tt ?_ | refine Br.ff ?_ | refine Br.pos (by assumption) ?_ | refine Br.neg (by assumption) ?_ | refine Br.bself ?_ | refine Br.dself ?_ | refine Br.iself ?_ | refine Nm.mk lenC ?_ | refine Nm.mk (wrapI (by (first | omega | (simp [inR_t, inR_f] at *; omega))) (by (first | omega | (simp [inR_t, inR_f] at *; omega)))) ?_ | refine Nm.mk (wrapQ (by (first | omega | (simp [inR_t, inR_f] at *; omega))) (by (first | omega | (simp [inR_t, inR_f] at *; omega))) (by (first | omega | (simp [inR_t, inR_f] at *; omega)))) ?_ | refine Nm.mk (tmodN (by (first | omega | (simp [inR_t, inR_f] at *; omega)))) ?_ | refine Nm.mk (szS _) ?_ | refine Nm.mk (mi_eq _ _) ?_ | refine Nm.mk (ma_eq _ _) ?_ | refine Rq.mk (by first | (simp [dOwnL, dOwn] <;> fail) | (first | omega | (simp [inR_t, inR_f] at *; omega))) ?_ | refine And.intro (orderFast (by kernel_rfl)) ?_ | refine And.intro (by kernel_rfl) ?_ ))
  refine Lp.mk [.sl 0, .sl 1, .sl 5] (fun m σ => ∃ d r, l = d ++ r ∧ m = r.length ∧ σ = [Sa 0 (Ys false l), Sa 1 (Ys false l), Sa 5 (I d.length)]) (l.length) _ (WkS.weak _ _) ⟨[], l, rfl, rfl, (by first | rfl | (simp only [zlen, zsum, Nat.zero_mul, Int.add_zero, Int.sub_zero, List.nil_append, markG]; rfl))⟩ ?_
  rintro m τ ⟨d, r, hl2, rfl, rfl⟩
  have hy : l.length = d.length + r.length := by rw [hl2]; simp
  refine Nm.mk lenC ?_
  cases r with
  | nil =>
    refine Br.neg (by simp at * <;> omega) ?_
    (repeat' ((conv => whnf); first | refine Br.tt ?_ | refine Br.ff ?_ | refine Br.pos (by assumption) ?_ | refine Br.neg (by assumption) ?_ | refine Br.bself ?_ | refine Br.dself ?_ | refine Br.iself ?_ | refine Nm.mk lenC ?_ | refine Nm.mk (wrapI (by (first | omega | (simp [inR_t, inR_f] at *; omega))) (by (first | omega | (simp [inR_t, inR_f] at *; omega)))) ?_ | refine Nm.mk (wrapQ (by (first | omega | (simp [inR_t, inR_f] at *; omega))) (by (first | omega | (simp [inR_t, inR_f] at *; omega))) (by (first | omega | (simp [inR_t, inR_f] at *; omega)))) ?_ | refine Nm.mk (tmodN (by (first | omega | (simp [inR_t, inR_f] at *; omega)))) ?_ | refine Nm.mk (szS _) ?_ | refine Nm.mk (mi_eq _ _) ?_ | refine Nm.mk (ma_eq _ _) ?_ | refine Rq.mk (by first | (simp [dOwnL, dOwn] <;> fail) | (first | omega | (simp [inR_t, inR_f] at *; omega))) ?_ | refine And.intro (orderFast (by kernel_rfl)) ?_ | refine And.intro (by kernel_rfl) ?_ ))
    exact Vs.Fin.mk (WkR.refl _) (.refl _)
  | cons x r =>
    simp at hy
    refine Br.pos (by simp <;> omega) ?_
    (repeat' ((conv => whnf); first | refine Br.tt ?_ | refine Br.ff ?_ | refine Br.pos (by assumption) ?_ | refine Br.neg (by assumption) ?_ | refine Br.bself ?_ | refine Br.dself ?_ | refine Br.iself ?_ | refine Nm.mk lenC ?_ | refine Nm.mk (wrapI (by (first | omega | (simp [inR_t, inR_f] at *; omega))) (by (first | omega | (simp [inR_t, inR_f] at *; omega)))) ?_ | refine Nm.mk (wrapQ (by (first | omega | (simp [inR_t, inR_f] at *; omega))) (by (first | omega | (simp [inR_t, inR_f] at *; omega))) (by (first | omega | (simp [inR_t, inR_f] at *; omega)))) ?_ | refine Nm.mk (tmodN (by (first | omega | (simp [inR_t, inR_f] at *; omega)))) ?_ | refine Nm.mk (szS _) ?_ | refine Nm.mk (mi_eq _ _) ?_ | refine Nm.mk (ma_eq _ _) ?_ | refine Rq.mk (by first | (simp [dOwnL, dOwn] <;> fail) | (first | omega | (simp [inR_t, inR_f] at *; omega))) ?_ | refine And.intro (orderFast (by kernel_rfl)) ?_ | refine And.intro (by kernel_rfl) ?_ | refine El.mk (getH hl2 rfl) ?_ | refine Cl.pre (by simp only [shcLL_ints, shcLL_byts, shcLL_strs, Fetc.shcs, Gran.shcs, Mani.shcs, Name.shcs, Read.shcs, Segm.shcs]; rfl) ?_))
    refine Nx.intro r.length (by simp) _ (WkS.weak _ _) ⟨d ++ [x], r, by simp [hl2], rfl, ?_⟩
    rw [len1]; rfl
abbrev NNY (l : List Name) (n : Name) (b : List UInt8) : Arg := (.tup [(false, 1), (true, 1), (false, 1)], [sl true 1 (l.map (Name.c true)), cSs true n.parts, cYs true b])
abbrev GNY (l : List Gran) (n : Name) (b : List UInt8) : Arg := (.tup [(false, 1), (true, 1), (false, 1)], [sl true 2 (l.map (Gran.c true)), cSs true n.parts, cYs false b])
abbrev INY (k : Int) (n : Name) (b : List UInt8) : Arg := (.tup [(false, 1), (true, 1), (false, 1)], [cI k, cSs true n.parts, cYs true b])
abbrev GSt (g : Gran) (s : ByteArray) : Arg := (.tup [(true, 2), (false, 1)], [cSs true g.name.parts, cI g.secret, cS s])
def nT (N : Nat → Name) (j : Nat) : List Name := (List.range j).map N
theorem nT_succ (N : Nat → Name) (j : Nat) : nT N (j + 1) = nT N j ++ [N j] := by simp [nT, List.range_succ]
theorem nT_len (N : Nat → Name) (j : Nat) : (nT N j).length = j := by simp [nT]
def strQ : ByteArray := ⟨#[113]⟩
end Go.Proofs.YtgcnbfplihjelaaGreatDoor

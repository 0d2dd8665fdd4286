/- Contracts of functions of the program: no statement of the seat is proved here. Each under the conditions that stand in it. -/
import Derived.Test.YtigkmijoefibiaaGreatTd
import Derived.Test.YtigkmijoefibiaaGreatM4
import Derived.Test.YtigkmijoefibiaaGreatFr
set_option linter.all false
namespace Go.Proofs.YtigkmijoefibiaaGreat
open Go.Vs Go.Proofs
/-! What the laws over draws share -/
theorem Brsself {x : List UInt8} {X Y : Prop} (h : Y) : Br (!(x == x)) X Y := by
  rw [beq_self_eq_true]; exact Br.ff h
abbrev IN (k : Int) (n : Name) : Arg := (.tup [(false, 1), (true, 1)], [cI k, cSs true n.parts])
theorem is23 : FI 23 Tryz.f23 := ⟨⟨Tryz.f23, Tryz.func23, rfl, rfl, rfl, rfl⟩, rfl⟩
set_option maxRecDepth 20000 in
set_option maxHeartbeats 16000000 in
theorem big_no (l : List UInt8) (h : l.length ≤ 1048576) : FO 23 [Ys false l] [Ys false l] (B false) := by
  refine fok envOk mixed is23 ⟨rfl, rfl, ?_⟩
  have f1 : decide ((l.length : Int) > 1048576) = false := by simp; omega
  (repeat' ((conv => whnf); first | refine stp ?_ ))
  rw [f1]
  exact Vs.Fin.mk (WkR.refl _) (.refl _)
set_option maxRecDepth 20000 in
set_option maxHeartbeats 16000000 in
theorem big_yes (l : List UInt8) (h : ¬ l.length ≤ 1048576) : FO 23 [Ys false l] [Ys false l] (B true) := by
  refine fok envOk mixed is23 ⟨rfl, rfl, ?_⟩
  have f1 : decide ((l.length : Int) > 1048576) = true := by simp; omega
  (repeat' ((conv => whnf); first | refine stp ?_ ))
  rw [f1]
  exact Vs.Fin.mk (WkR.refl _) (.refl _)
theorem is179 : FI 179 Tryz.f179 := ⟨⟨Tryz.f179, Tryz.func179, rfl, rfl, rfl, rfl⟩, rfl⟩
set_option maxRecDepth 20000 in
set_option maxHeartbeats 16000000 in
theorem same_Texts (l : List ByteArray) (hl : l.length ≤ 1099511627776) : FO 179 [Ss false l, Ss false l] [Ss false l, Ss false l] (B true) := by
  refine fok envOk mixed is179 ⟨rfl, rfl, ?_⟩
  (repeat' ((conv => whnf); first | refine stp ?_ ))
  refine Lp.mk [.sl 0, .sl 1, .sl 5] (fun m σ => ∃ d r, l = d ++ r ∧ m = r.length ∧ σ = [Sa 0 (Ss false l), Sa 1 (Ss false l), Sa 5 (I d.length)]) (l.length) _ (WkS.weak _ _) ⟨[], l, rfl, rfl, (by first | rfl | (simp only [zlen, zsum, Nat.zero_mul, Int.add_zero, Int.sub_zero, List.nil_append, markG]; rfl))⟩ ?_
  rintro m τ ⟨d, r, hl2, rfl, rfl⟩
  have hy : l.length = d.length + r.length := by rw [hl2]; simp
  refine Nm.mk lenC ?_
  cases r with
  | nil =>
    refine Br.neg (by simp at * <;> omega) ?_
    (repeat' ((conv => whnf); first | refine stp ?_ ))
    exact Vs.Fin.mk (WkR.refl _) (.refl _)
  | cons x r =>
    simp at hy
    refine Br.pos (by simp <;> omega) ?_
    (repeat' ((conv => whnf); first | refine stp ?_ | refine El.mk (getH hl2 rfl) ?_ | refine Brsself ?_ | refine Cl.pre (by simp only [shcLL_ints, shcLL_byts, shcLL_strs, Fetc.shcs, Gran.shcs, Mani.shcs, Name.shcs, Read.shcs, Segm.shcs]; rfl) ?_))
    refine Nx.intro r.length (by simp) _ (WkS.weak _ _) ⟨d ++ [x], r, by simp [hl2], rfl, ?_⟩
    rw [len1]; rfl
theorem is99 : FI 99 Tryz.f99 := ⟨⟨Tryz.f99, Tryz.func99, rfl, rfl, rfl, rfl⟩, rfl⟩
set_option maxRecDepth 20000 in
set_option maxHeartbeats 16000000 in
theorem same_Name (n : Name) (hl : n.parts.length ≤ 1099511627776) : FO 99 [A (Name.c false n), A (Name.c false n)] [A (Name.c false n), A (Name.c false n)] (B true) := by
  refine fok envOk mixed is99 ⟨rfl, rfl, ?_⟩
  (repeat' ((conv => whnf); first | refine stp ?_ | refine Cl.mk (same_Texts n.parts hl) ?_ | refine Cl.pre (by simp only [shcLL_ints, shcLL_byts, shcLL_strs, Fetc.shcs, Gran.shcs, Mani.shcs, Name.shcs, Read.shcs, Segm.shcs]; rfl) ?_))
  exact Vs.Fin.mk (WkR.refl _) (.refl _)
theorem strs_take {l : List ByteArray} {k : Nat} : strsSize (l.take k) ≤ strsSize l := by
  have h : strsSize (l.take k ++ l.drop k) = strsSize l := by rw [List.take_append_drop]
  unfold strsSize at *
  rw [sumN_append] at h
  simp at *
  omega
theorem gsec_pre (k : Int) (n : Name) (j : Nat) : gsec [mkGran k ⟨n.parts.take j⟩] n = nsec k n.parts := by
  have h : covs n (mkGran k ⟨n.parts.take j⟩) = true := by
    simp [covs, hasPre, mkGran, List.length_take, Nat.min_le_right]
  unfold gsec
  rw [List.find?_cons_of_pos h]
  simp only [mkGran, nsec, ← List.foldl_append]
  congr 1
  simp only [List.length_take]
  rcases Nat.le_total j n.parts.length with h2 | h2
  · rw [Nat.min_eq_left h2, List.take_append_drop]
  · rw [Nat.min_eq_right h2, List.take_of_length_le h2]; simp
def openC (l : List Gran) (n : Name) (b : List UInt8) : Option (List UInt8) := match rdV b 0 0 with
  | none => none
  | some (x, c) => if l.any (covs n) = true then (if (x : Int) = mac (gsec l n) (b2i (decL (gsec l n) (b.drop c))) then some (decL (gsec l n) (b.drop c)) else none) else none
abbrev YB (b : List UInt8) (ok : Bool) : Arg := (.tup [(false, 1), (false, 1)], [cYs true b, cB ok])
theorem yb_non (ok : Bool) : WkR (.tup [(false, 1), (false, 1)], [AV.sl true .non 1 [], cB ok]) (YB [] ok) := WkR.of (.top (.refl _))
theorem yb_nil (ok : Bool) : WkR (.tup [(false, 1), (false, 1)], [AV.sl true .isnil 0 [], cB ok]) (YB [] ok) := WkR.of (.nils (.refl _))
def openB (l : List Gran) (n : Name) (b : List UInt8) : List UInt8 := (openC l n b).getD []
def openO (l : List Gran) (n : Name) (b : List UInt8) : Bool := (openC l n b).isSome
theorem openB_len (l : List Gran) (n : Name) (b : List UInt8) : (openB l n b).length ≤ b.length := by
  unfold openB openC
  split
  · simp
  · split
    · split <;> simp
    · simp
abbrev GB (g : Gran) (b : Bool) : Arg := (.tup [(true, 2), (false, 1)], [cSs true g.name.parts, cI g.secret, cB b])
def narG (g : Gran) (s : ByteArray) : Gran := if vName ⟨g.name.parts ++ [s]⟩ then ⟨⟨g.name.parts ++ [s]⟩, dsec g.secret s⟩ else g
theorem narG_size {g : Gran} {s : ByteArray} (h : strsSize g.name.parts ≤ 1048576) (hs : s.size ≤ 1048576) : Gran.size (narG g s) ≤ 2097153 := by
  have := strs_snoc g.name.parts s
  unfold narG
  split
  · simp only [Gran.size, Name.size]; omega
  · simp only [Gran.size, Name.size]; omega
theorem mkGran_size {k : Int} {n : Name} (h : strsSize n.parts ≤ 1048576) : Gran.size (mkGran k n) ≤ 1048576 := h
theorem sealC_len (k : Int) (n : Name) (b : List UInt8) : (sealC k n b).length ≤ b.length + 6 := by
  have := evi_len (mac (nsec k n.parts) (b2i b))
  simp [sealC]; omega
theorem shcY {n : NF} {b : List UInt8} : WkR (O (.sl true n 1 (byts b))) (Ys false b) := ⟨rfl, .inr (by simp only [shcL, Vs.shc, shcLL_byts]; exact .top .nil)⟩
theorem setY {b : List UInt8} {i : Nat} {v : UInt8} : (byts b).set i (spliceAV [cY (b[i]?.getD 0)] 0 [cY v]) = byts (b.set i v) := by
  simp [byts, List.map_set, spliceAV]
theorem getY {b : List UInt8} {i : Int} (h : 0 ≤ i ∧ i < b.length) : (byts b)[i.toNat]? = some [cY (b[i.toNat]?.getD 0)] := by
  have h2 : i.toNat < b.length := by omega
  simp [byts, h2]
theorem is123 : FI 123 Tryz.f123 := ⟨⟨Tryz.f123, Tryz.func123, rfl, rfl, rfl, rfl⟩, rfl⟩
set_option maxRecDepth 20000 in
set_option maxHeartbeats 16000000 in
theorem l1Bent_a (cs c1 c2 c3 : List AV) (b : List UInt8) (i v : Int) (hb : b.length ≤ 1048576) (hi : 0 ≤ i ∧ i < b.length) (hv : 0 ≤ v ∧ v ≤ 255) (k1 : FO 90 [O (.own cs), I 6] [O (.own c1), I 6] (I 0)) (k2 : FO 90 [O (.own c1), I b.length] [O (.own c2), I b.length] (I i)) (k3 : FO 90 [O (.own c2), I 256] [O (.own c3), I 256] (I v)) : FO 123 [O (.own cs), Ys false b] [O (.own c3), Ys false b] (Ys false (b.set i.toNat (UInt8.ofNat v.toNat))) := by
  refine fok envOk mixed is123 ⟨rfl, rfl, ?_⟩
  have f1 : decide ((b.length : Int) > 0) = true := by simp; omega
  (repeat' ((conv => whnf); first | refine stp ?_ | refine Cl.mk (k1) ?_ | refine Cl.mk (k2) ?_ | refine Cl.mk (k3) ?_ | refine Nm.mk (wrap8d hv) ?_ | refine El.mk (getY hi) ?_ | refine Cl.pre (by simp only [shcLL_ints, shcLL_byts, shcLL_strs, Fetc.shcs, Gran.shcs, Mani.shcs, Name.shcs, Read.shcs, Segm.shcs]; rfl) ?_))
  refine Vs.Fin.mk ⟨rfl, .inr ?_⟩ (.refl _)
  simp only [shcL, Vs.shc]
  rw [List.nil_append, setY, shcLL_byts]
  exact .top .nil
set_option maxRecDepth 20000 in
set_option maxHeartbeats 16000000 in
theorem l1Bent_a0 (cs c1 : List AV) (k1 : FO 90 [O (.own cs), I 6] [O (.own c1), I 6] (I 0)) : FO 123 [O (.own cs), Ys false []] [O (.own c1), Ys false []] (Ys false []) := by
  refine fok envOk mixed is123 ⟨rfl, rfl, ?_⟩
  (repeat' ((conv => whnf); first | refine stp ?_ | refine Cl.mk (k1) ?_ | refine Cl.pre (by simp only [shcLL_ints, shcLL_byts, shcLL_strs, Fetc.shcs, Gran.shcs, Mani.shcs, Name.shcs, Read.shcs, Segm.shcs]; rfl) ?_))
  exact Vs.Fin.mk shcY (.refl _)
set_option maxRecDepth 20000 in
set_option maxHeartbeats 16000000 in
theorem l1Bent_b (cs c1 c2 : List AV) (b : List UInt8) (i : Int) (hb : b.length ≤ 1048576) (hi : 0 ≤ i ∧ i < b.length + 1) (k1 : FO 90 [O (.own cs), I 6] [O (.own c1), I 6] (I 1)) (k2 : FO 90 [O (.own c1), I (b.length + 1)] [O (.own c2), I (b.length + 1)] (I i)) : FO 123 [O (.own cs), Ys false b] [O (.own c2), Ys false b] (Ys false (b.take i.toNat)) := by
  refine fok envOk mixed is123 ⟨rfl, rfl, ?_⟩
  (repeat' ((conv => whnf); first | refine stp ?_ | refine Cl.mk (k1) ?_ | refine Cl.mk (k2) ?_ | refine Cl.pre (by simp only [shcLL_ints, shcLL_byts, shcLL_strs, Fetc.shcs, Gran.shcs, Mani.shcs, Name.shcs, Read.shcs, Segm.shcs]; rfl) ?_))
  refine Vs.Fin.mk (WkR.of (.sl1 ?_ .nil)) (.refl _)
  simp [List.map_take]
set_option maxRecDepth 20000 in
set_option maxHeartbeats 16000000 in
theorem l1Bent_c (cs c1 c2 : List AV) (b : List UInt8) (v : Int) (hb : b.length ≤ 1048576) (hv : 0 ≤ v ∧ v ≤ 255) (k1 : FO 90 [O (.own cs), I 6] [O (.own c1), I 6] (I 2)) (k2 : FO 132 [O (.own c1), Is false [0, 1, 128, 255]] [O (.own c2), Is false [0, 1, 128, 255]] (I v)) : FO 123 [O (.own cs), Ys false b] [O (.own c2), Ys false b] (Ys false (b ++ [UInt8.ofNat v.toNat])) := by
  refine fok envOk mixed is123 ⟨rfl, rfl, ?_⟩
  (repeat' ((conv => whnf); first | refine stp ?_ | refine Cl.mk (k1) ?_ | refine Cl.eq k2 (by simp only [shcLL, shcL, Vs.shc]; rfl) ?_ | refine Nm.mk (wrap8d hv) ?_ | refine Cl.pre (by simp only [shcLL_ints, shcLL_byts, shcLL_strs, Fetc.shcs, Gran.shcs, Mani.shcs, Name.shcs, Read.shcs, Segm.shcs]; rfl) ?_))
  refine Vs.Fin.mk ⟨rfl, .inr ?_⟩ (.refl _)
  simp only [shcL, Vs.shc, shcLL_append, shcLL_byts]
  exact .sl1 (by simp [shcLL, shcL, Vs.shc]) .nil
set_option maxRecDepth 20000 in
set_option maxHeartbeats 16000000 in
theorem l1Bent_d (cs c1 : List AV) (b : List UInt8) (x : Int) (hb : b.length ≤ 1048576) (hx : 3 ≤ x) (k1 : FO 90 [O (.own cs), I 6] [O (.own c1), I 6] (I x)) : FO 123 [O (.own cs), Ys false b] [O (.own c1), Ys false b] (Ys false b) := by
  refine fok envOk mixed is123 ⟨rfl, rfl, ?_⟩
  have f1 : (x == 0) = false := by simp; omega
  have f2 : (x == 1) = false := by simp; omega
  have f3 : (x == 2) = false := by simp; omega
  (repeat' ((conv => whnf); first | refine stp ?_ | refine Cl.mk (k1) ?_ | refine Cl.pre (by simp only [shcLL_ints, shcLL_byts, shcLL_strs, Fetc.shcs, Gran.shcs, Mani.shcs, Name.shcs, Read.shcs, Segm.shcs]; rfl) ?_))
  exact Vs.Fin.mk shcY (.refl _)
theorem bent_ok {cs : List AV} (hc : IsC cs) (b : List UInt8) (hb : b.length ≤ 1048576) : ∃ cs' b', IsC cs' ∧ b'.length ≤ b.length + 1 ∧ FO 123 [O (.own cs), Ys false b] [O (.own cs'), Ys false b] (Ys false b') := by
  obtain ⟨c1, x, i1, hx, -, k1⟩ := below_ok hc 6
  have hx := hx (by omega)
  by_cases h0 : x = 0
  · subst h0
    by_cases hl : b.length = 0
    · obtain rfl : b = [] := List.eq_nil_of_length_eq_zero hl
      exact ⟨c1, [], i1, by simp, l1Bent_a0 cs c1 k1⟩
    · obtain ⟨c2, i, i2, hi, -, k2⟩ := below_ok i1 b.length
      obtain ⟨c3, v, i3, hv, -, k3⟩ := below_ok i2 256
      exact ⟨c3, _, i3, by simp, l1Bent_a cs c1 c2 c3 b i v hb (hi (by omega)) (by have := hv (by omega); omega) k1 k2 k3⟩
  by_cases h1 : x = 1
  · subst h1
    obtain ⟨c2, i, i2, hi, -, k2⟩ := below_ok i1 (b.length + 1)
    exact ⟨c2, _, i2, by simp; omega, l1Bent_b cs c1 c2 b i hb (hi (by omega)) k1 k2⟩
  by_cases h2 : x = 2
  · subst h2
    obtain ⟨c2, v, i2, hv, k2⟩ := int_ok i1 [0, 1, 128, 255] (by decide) (by decide)
    exact ⟨c2, _, i2, by simp, l1Bent_c cs c1 c2 b v hb (by simp at hv; omega) k1 k2⟩
  · exact ⟨c1, b, i1, by omega, l1Bent_d cs c1 b x hb (by omega) k1⟩
/-! Grants, drawn -/
def gT (N : Nat → Name) (j : Nat) : List Gran := (List.range j).map fun k => mkGran 900 (N k)
theorem gT_succ (N : Nat → Name) (j : Nat) : gT N (j + 1) = gT N j ++ [mkGran 900 (N j)] := by simp [gT, List.range_succ]
theorem gT_len (N : Nat → Name) (j : Nat) : (gT N j).length = j := by simp [gT]
theorem gT_size {N : Nat → Name} (h : ∀ j, strsSize (N j).parts ≤ 27) : ∀ j, sumN Gran.size (gT N j) ≤ 27 * j
  | 0 => by simp [gT, sumN]
  | j + 1 => by
    have h1 := gT_size h j
    have h2 : Gran.size (mkGran 900 (N j)) ≤ 27 := h j
    rw [gT_succ, sumN_snoc]; omega
abbrev Gs (o : Bool) (l : List Gran) : Arg := O (sl o 2 (l.map (Gran.c o)))
/-! What is sealed is opened -/
theorem rdV_vint : ∀ (j x k n : Nat) (rest : List UInt8), x < 128 ^ (j + 1) → k + j < 6 → (0 < k → 0 < x) → n + x * 2 ^ (7 * k) ≤ 1000000000000 → rdV (vint x ++ rest) k n = some (n + x * 2 ^ (7 * k), k + (vint x).length)
  | j, x, k, n, rest, hx, hk, h0, hb => by
    by_cases h : x < 128
    · rw [vint_lt h]
      have e : (UInt8.ofNat x).toNat = x := by rw [UInt8.toNat_ofNat']; omega
      simp only [List.cons_append, List.nil_append, rdV, e]
      rw [if_pos (by omega), if_pos h, Nat.mod_eq_of_lt h, if_neg (by omega)]
      rfl
    · cases j with
      | zero => omega
      | succ j =>
        rw [vint_ge h]
        have e : (UInt8.ofNat (x % 128 + 128)).toNat = x % 128 + 128 := by rw [UInt8.toNat_ofNat']; omega
        simp only [List.cons_append, rdV, e]
        rw [if_pos (by omega), if_neg (by omega)]
        have e2 : (x % 128 + 128) % 128 = x % 128 := by omega
        have e3 : 2 ^ (7 * (k + 1)) = 128 * 2 ^ (7 * k) := by rw [show 7 * (k + 1) = 7 * k + 7 by omega, Nat.pow_add]; omega
        have e4 : x % 128 * 2 ^ (7 * k) + x / 128 * (128 * 2 ^ (7 * k)) = x * 2 ^ (7 * k) := by
          rw [← Nat.mul_assoc, ← Nat.add_mul]
          congr 1
          omega
        rw [e2, rdV_vint j (x / 128) (k + 1) (n + x % 128 * 2 ^ (7 * k)) rest (by rw [Nat.div_lt_iff_lt_mul (by omega)]; rw [Nat.pow_succ] at hx; exact hx) (by omega) (by omega) (by rw [e3]; omega), e3]
        congr 2
        · omega
        · simp; omega
theorem decB_encB (k : Int) (i : Nat) (x : UInt8) : decB k i (encB k i x) = x := by
  have hx := x.toNat_lt
  unfold decB encB
  apply UInt8.toNat_inj.1
  rw [UInt8.toNat_ofNat', UInt8.toNat_ofNat']
  omega
theorem dec_enc (k : Int) (b : List UInt8) : decL k (encL k b) = b := by
  unfold decL encL
  apply List.ext_getElem
  · simp
  · intro i h1 h2
    simp [decB_encB]
theorem hasPre_parts {n m : Name} (h : hasPre n m = true) : n.parts = m.parts ++ n.parts.drop m.parts.length := by
  simp only [hasPre, Bool.and_eq_true, decide_eq_true_eq] at h
  conv => lhs; rw [← List.take_append_drop m.parts.length n.parts, h.2]
theorem gsec_all (k : Int) (n : Name) : ∀ (l : List Name), l.any (fun m => hasPre n m) = true → gsec (l.map (mkGran k)) n = nsec k n.parts
  | [], h => by simp at h
  | m :: l, h => by
    unfold gsec
    cases hm : hasPre n m with
    | true =>
      rw [List.map_cons, List.find?_cons_of_pos (show covs n (mkGran k m) = true from hm)]
      have h9 := hasPre_parts hm
      show nsec (nsec k m.parts) (n.parts.drop m.parts.length) = nsec k n.parts
      conv => rhs; rw [h9]
      simp only [nsec, List.foldl_append]
    | false =>
      rw [List.map_cons, List.find?_cons_of_neg (show ¬ covs n (mkGran k m) = true by show ¬ hasPre n m = true; rw [hm]; simp)]
      have := gsec_all k n l (by simpa [hm] using h)
      unfold gsec at this
      exact this
theorem any_covs (k : Int) (n : Name) (l : List Name) : (l.map (mkGran k)).any (covs n) = l.any (fun m => hasPre n m) := by
  rw [List.any_map]; rfl
theorem open_seal (k : Int) (n : Name) (b : List UInt8) (l : List Name) : openC (l.map (mkGran k)) n (sealC k n b) = if l.any (fun m => hasPre n m) = true then some b else none := by
  have hm := mac_b (nsec k n.parts) (b2i b)
  obtain ⟨x, hx⟩ : ∃ x : Nat, mac (nsec k n.parts) (b2i b) = x := ⟨(mac (nsec k n.parts) (b2i b)).toNat, by omega⟩
  have he : evi (mac (nsec k n.parts) (b2i b)) = vint x := by
    unfold evi
    rw [if_pos (inR_t.2 (by omega)), hx, Int.toNat_natCast]
  have hr : rdV (sealC k n b) 0 0 = some (x, (vint x).length) := by
    unfold sealC
    rw [he, rdV_vint 4 x 0 0 _ (by omega) (by omega) (by omega) (by omega)]
    simp
  have hd : (sealC k n b).drop (vint x).length = encL (nsec k n.parts) b := by
    unfold sealC
    rw [he, List.drop_left]
  unfold openC
  rw [hr]
  simp only [any_covs, hd]
  cases h : l.any (fun m => hasPre n m) with
  | false => rfl
  | true =>
    rw [gsec_all k n l h, dec_enc, if_pos hx.symm]
theorem hasPre_snoc (n : Name) (s : ByteArray) : hasPre ⟨n.parts ++ [s]⟩ n = true := by simp [hasPre]
theorem is58 : FI 58 Tryz.f58 := ⟨⟨Tryz.f58, Tryz.func58, rfl, rfl, rfl, rfl⟩, rfl⟩
set_option maxRecDepth 20000 in
set_option maxHeartbeats 16000000 in
theorem same_Bytes (l : List UInt8) (hl : l.length ≤ 1099511627776) : FO 58 [Ys false l, Ys false l] [Ys false l, Ys false l] (B true) := by
  refine fok envOk mixed is58 ⟨rfl, rfl, ?_⟩
  (repeat' ((conv => whnf); first | refine stp ?_ ))
  refine Lp.mk [.sl 0, .sl 1, .sl 5] (fun m σ => ∃ d r, l = d ++ r ∧ m = r.length ∧ σ = [Sa 0 (Ys false l), Sa 1 (Ys false l), Sa 5 (I d.length)]) (l.length) _ (WkS.weak _ _) ⟨[], l, rfl, rfl, (by first | rfl | (simp only [zlen, zsum, Nat.zero_mul, Int.add_zero, Int.sub_zero, List.nil_append, markG]; rfl))⟩ ?_
  rintro m τ ⟨d, r, hl2, rfl, rfl⟩
  have hy : l.length = d.length + r.length := by rw [hl2]; simp
  refine Nm.mk lenC ?_
  cases r with
  | nil =>
    refine Br.neg (by simp at * <;> omega) ?_
    (repeat' ((conv => whnf); first | refine stp ?_ ))
    exact Vs.Fin.mk (WkR.refl _) (.refl _)
  | cons x r =>
    simp at hy
    refine Br.pos (by simp <;> omega) ?_
    (repeat' ((conv => whnf); first | refine stp ?_ | refine El.mk (getH hl2 rfl) ?_ | refine Cl.pre (by simp only [shcLL_ints, shcLL_byts, shcLL_strs, Fetc.shcs, Gran.shcs, Mani.shcs, Name.shcs, Read.shcs, Segm.shcs]; rfl) ?_))
    refine Nx.intro r.length (by simp) _ (WkS.weak _ _) ⟨d ++ [x], r, by simp [hl2], rfl, ?_⟩
    rw [len1]; rfl
abbrev NNY (l : List Name) (n : Name) (b : List UInt8) : Arg := (.tup [(false, 1), (true, 1), (false, 1)], [sl true 1 (l.map (Name.c true)), cSs true n.parts, cYs true b])
abbrev GNY (l : List Gran) (n : Name) (b : List UInt8) : Arg := (.tup [(false, 1), (true, 1), (false, 1)], [sl true 2 (l.map (Gran.c true)), cSs true n.parts, cYs false b])
abbrev INY (k : Int) (n : Name) (b : List UInt8) : Arg := (.tup [(false, 1), (true, 1), (false, 1)], [cI k, cSs true n.parts, cYs true b])
abbrev GSt (g : Gran) (s : ByteArray) : Arg := (.tup [(true, 2), (false, 1)], [cSs true g.name.parts, cI g.secret, cS s])
def nT (N : Nat → Name) (j : Nat) : List Name := (List.range j).map N
theorem nT_succ (N : Nat → Name) (j : Nat) : nT N (j + 1) = nT N j ++ [N j] := by simp [nT, List.range_succ]
theorem nT_len (N : Nat → Name) (j : Nat) : (nT N j).length = j := by simp [nT]
def strQ : ByteArray := ⟨#[113]⟩
/-! Plans, drawn -/
abbrev MY (p : Mani) (b : List UInt8) : Arg := (.tup [(true, 3), (false, 1)], [cI p.seg, cI p.len, cIs true p.dig, cYs true b])
abbrev YI (b : List UInt8) (i : Int) : Arg := (.tup [(false, 1), (false, 1)], [cYs true b, cI i])
abbrev YMI (b : List UInt8) (p : Mani) (i : Int) : Arg := (.tup [(false, 1), (true, 3), (false, 1)], [cYs true b, cI p.seg, cI p.len, cIs true p.dig, cI i])
abbrev MIY (p : Mani) (i : Int) (b : List UInt8) : Arg := (.tup [(true, 3), (false, 1), (false, 1)], [cI p.seg, cI p.len, cIs true p.dig, cI i, cYs false b])
abbrev NI (n : Name) (i : Int) : Arg := (.tup [(true, 1), (false, 1)], [cSs true n.parts, cI i])
theorem mkMani_b {b : List UInt8} {v : Int} (hb : b.length ≤ 20) : (mkMani b v).dig.length ≤ 20 ∧ 0 ≤ (mkMani b v).len ∧ (mkMani b v).len ≤ 20 := by
  unfold mkMani
  split
  · rename_i h
    simp [inR_t] at h
    simp only [digs_len]
    have h2 : cdiv b.length v ≤ 8 := by
      unfold cdiv
      split
      · have : ((b.length : Int) + v - 1) / v < 9 := Int.ediv_lt_of_lt_mul (by omega) (by omega)
        omega
      · omega
    omega
  · simp
theorem setI {l : List Int} {v : Int} {k : Nat} : (ints l).set k (spliceAV [cI (l[k]?.getD 0)] 0 [cI v]) = ints (l.set k v) := by
  simp [ints, List.map_set, spliceAV]
theorem getI {l : List Int} {k : Nat} (h : k < l.length) : (ints l)[k]? = some [cI (l[k]?.getD 0)] := by
  simp [ints, h]
theorem is37 : FI 37 Tryz.f37 := ⟨⟨Tryz.f37, Tryz.func37, rfl, rfl, rfl, rfl⟩, rfl⟩
set_option maxRecDepth 20000 in
set_option maxHeartbeats 16000000 in
theorem same_Ints (l : List Int) (hl : l.length ≤ 1099511627776) : FO 37 [Is false l, Is false l] [Is false l, Is false l] (B true) := by
  refine fok envOk mixed is37 ⟨rfl, rfl, ?_⟩
  (repeat' ((conv => whnf); first | refine stp ?_ ))
  refine Lp.mk [.sl 0, .sl 1, .sl 5] (fun m σ => ∃ d r, l = d ++ r ∧ m = r.length ∧ σ = [Sa 0 (Is false l), Sa 1 (Is false l), Sa 5 (I d.length)]) (l.length) _ (WkS.weak _ _) ⟨[], l, rfl, rfl, (by first | rfl | (simp only [zlen, zsum, Nat.zero_mul, Int.add_zero, Int.sub_zero, List.nil_append, markG]; rfl))⟩ ?_
  rintro m τ ⟨d, r, hl2, rfl, rfl⟩
  have hy : l.length = d.length + r.length := by rw [hl2]; simp
  refine Nm.mk lenC ?_
  cases r with
  | nil =>
    refine Br.neg (by simp at * <;> omega) ?_
    (repeat' ((conv => whnf); first | refine stp ?_ ))
    exact Vs.Fin.mk (WkR.refl _) (.refl _)
  | cons x r =>
    simp at hy
    refine Br.pos (by simp <;> omega) ?_
    (repeat' ((conv => whnf); first | refine stp ?_ | refine El.mk (getH hl2 rfl) ?_ | refine Cl.pre (by simp only [shcLL_ints, shcLL_byts, shcLL_strs, Fetc.shcs, Gran.shcs, Mani.shcs, Name.shcs, Read.shcs, Segm.shcs]; rfl) ?_))
    refine Nx.intro r.length (by simp) _ (WkS.weak _ _) ⟨d ++ [x], r, by simp [hl2], rfl, ?_⟩
    rw [len1]; rfl
theorem Breqt {x : Int} {X Y : Prop} (h : X) : Br (x == x) X Y := by
  rw [beq_self_eq_true]; exact Br.tt h
end Go.Proofs.YtigkmijoefibiaaGreat

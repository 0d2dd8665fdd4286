/- Contracts of functions of the program: no statement of the seat is proved here. Each under the conditions that stand in it. -/
import Derived.Test.YtoekfmkbkffciaaGreatDoorM16
import Derived.Test.YtoekfmkbkffciaaGreatDoorM5
import Derived.Test.YtoekfmkbkffciaaGreatDoorFr
set_option linter.all false
namespace Go.Proofs.YtoekfmkbkffciaaGreatDoor
open Go.Vs Go.Proofs
/-! What the laws over draws share -/
theorem Brsself {x : List UInt8} {X Y : Prop} (h : Y) : Br (!(x == x)) X Y := by
  rw [beq_self_eq_true]; exact Br.ff h
abbrev IN (k : Int) (n : Name) : Arg := (.tup [(false, 1), (true, 1)], [cI k, cSs true n.parts])
theorem is4 : FI 4 Tryz.f4 := ⟨⟨Tryz.f4, Tryz.func4, rfl, rfl, rfl, rfl⟩, rfl⟩
set_option maxRecDepth 20000 in
set_option maxHeartbeats 16000000 in
theorem big_no (l : List UInt8) (h : l.length ≤ 1048576) : FO 4 [Ys false l] [Ys false l] (B false) := by
  refine fok envOk mixed is4 ⟨rfl, rfl, ?_⟩
  have f1 : decide ((l.length : Int) > 1048576) = false := by simp; omega
  (repeat' ((conv => whnf); first | refine stp ?_ ))
  rw [f1]
  exact Vs.Fin.mk (WkR.refl _) (.refl _)
set_option maxRecDepth 20000 in
set_option maxHeartbeats 16000000 in
theorem big_yes (l : List UInt8) (h : ¬ l.length ≤ 1048576) : FO 4 [Ys false l] [Ys false l] (B true) := by
  refine fok envOk mixed is4 ⟨rfl, rfl, ?_⟩
  have f1 : decide ((l.length : Int) > 1048576) = true := by simp; omega
  (repeat' ((conv => whnf); first | refine stp ?_ ))
  rw [f1]
  exact Vs.Fin.mk (WkR.refl _) (.refl _)
theorem strs_take {l : List ByteArray} {k : Nat} : strsSize (l.take k) ≤ strsSize l := by
  have h : strsSize (l.take k ++ l.drop k) = strsSize l := by rw [List.take_append_drop]
  unfold strsSize at *
  rw [sumN_append] at h
  simp at *
  omega
theorem gsec_pre (k : Int) (n : Name) (j : Nat) : gsec [mkGran k ⟨n.parts.take j⟩] n = nsec k n.parts := by
  have h : covs n (mkGran k ⟨n.parts.take j⟩) = true := by
    simp [covs, hasPre, mkGran, List.length_take, Nat.min_le_right]
  unfold gsec
  rw [List.find?_cons_of_pos h]
  simp only [mkGran, nsec, ← List.foldl_append]
  congr 1
  simp only [List.length_take]
  rcases Nat.le_total j n.parts.length with h2 | h2
  · rw [Nat.min_eq_left h2, List.take_append_drop]
  · rw [Nat.min_eq_right h2, List.take_of_length_le h2]; simp
def openC (l : List Gran) (n : Name) (b : List UInt8) : Option (List UInt8) := match rdV b 0 0 with
  | none => none
  | some (x, c) => if l.any (covs n) = true then (if (x : Int) = mac (gsec l n) (b2i (decL (gsec l n) (b.drop c))) then some (decL (gsec l n) (b.drop c)) else none) else none
abbrev YB (b : List UInt8) (ok : Bool) : Arg := (.tup [(false, 1), (false, 1)], [cYs true b, cB ok])
theorem yb_non (ok : Bool) : WkR (.tup [(false, 1), (false, 1)], [AV.sl true .non 1 [], cB ok]) (YB [] ok) := WkR.of (.top (.refl _))
theorem yb_nil (ok : Bool) : WkR (.tup [(false, 1), (false, 1)], [AV.sl true .isnil 0 [], cB ok]) (YB [] ok) := WkR.of (.nils (.refl _))
def openB (l : List Gran) (n : Name) (b : List UInt8) : List UInt8 := (openC l n b).getD []
def openO (l : List Gran) (n : Name) (b : List UInt8) : Bool := (openC l n b).isSome
theorem openB_len (l : List Gran) (n : Name) (b : List UInt8) : (openB l n b).length ≤ b.length := by
  unfold openB openC
  split
  · simp
  · split
    · split <;> simp
    · simp
abbrev GB (g : Gran) (b : Bool) : Arg := (.tup [(true, 2), (false, 1)], [cSs true g.name.parts, cI g.secret, cB b])
def narG (g : Gran) (s : ByteArray) : Gran := if vName ⟨g.name.parts ++ [s]⟩ then ⟨⟨g.name.parts ++ [s]⟩, dsec g.secret s⟩ else g
theorem narG_size {g : Gran} {s : ByteArray} (h : strsSize g.name.parts ≤ 1048576) (hs : s.size ≤ 1048576) : Gran.size (narG g s) ≤ 2097153 := by
  have := strs_snoc g.name.parts s
  unfold narG
  split
  · simp only [Gran.size, Name.size]; omega
  · simp only [Gran.size, Name.size]; omega
theorem mkGran_size {k : Int} {n : Name} (h : strsSize n.parts ≤ 1048576) : Gran.size (mkGran k n) ≤ 1048576 := h
theorem sealC_len (k : Int) (n : Name) (b : List UInt8) : (sealC k n b).length ≤ b.length + 6 := by
  have := evi_len (mac (nsec k n.parts) (b2i b))
  simp [sealC]; omega
theorem shcY {n : NF} {b : List UInt8} : WkR (O (.sl true n 1 (byts b))) (Ys false b) := ⟨rfl, .inr (by simp only [shcL, Vs.shc, shcLL_byts]; exact .top .nil)⟩
theorem setY {b : List UInt8} {i : Nat} {v : UInt8} : (byts b).set i (spliceAV [cY (b[i]?.getD 0)] 0 [cY v]) = byts (b.set i v) := by
  simp [byts, List.map_set, spliceAV]
theorem getY {b : List UInt8} {i : Int} (h : 0 ≤ i ∧ i < b.length) : (byts b)[i.toNat]? = some [cY (b[i.toNat]?.getD 0)] := by
  have h2 : i.toNat < b.length := by omega
  simp [byts, h2]
/-! Grants, drawn -/
def gT (N : Nat → Name) (j : Nat) : List Gran := (List.range j).map fun k => mkGran 900 (N k)
theorem gT_succ (N : Nat → Name) (j : Nat) : gT N (j + 1) = gT N j ++ [mkGran 900 (N j)] := by simp [gT, List.range_succ]
theorem gT_len (N : Nat → Name) (j : Nat) : (gT N j).length = j := by simp [gT]
theorem gT_size {N : Nat → Name} (h : ∀ j, strsSize (N j).parts ≤ 27) : ∀ j, sumN Gran.size (gT N j) ≤ 27 * j
  | 0 => by simp [gT, sumN]
  | j + 1 => by
    have h1 := gT_size h j
    have h2 : Gran.size (mkGran 900 (N j)) ≤ 27 := h j
    rw [gT_succ, sumN_snoc]; omega
abbrev Gs (o : Bool) (l : List Gran) : Arg := O (sl o 2 (l.map (Gran.c o)))
/-! What is sealed is opened -/
theorem rdV_vint : ∀ (j x k n : Nat) (rest : List UInt8), x < 128 ^ (j + 1) → k + j < 6 → (0 < k → 0 < x) → n + x * 2 ^ (7 * k) ≤ 1000000000000 → rdV (vint x ++ rest) k n = some (n + x * 2 ^ (7 * k), k + (vint x).length)
  | j, x, k, n, rest, hx, hk, h0, hb => by
    by_cases h : x < 128
    · rw [vint_lt h]
      have e : (UInt8.ofNat x).toNat = x := by rw [UInt8.toNat_ofNat']; omega
      simp only [List.cons_append, List.nil_append, rdV, e]
      rw [if_pos (by omega), if_pos h, Nat.mod_eq_of_lt h, if_neg (by omega)]
      rfl
    · cases j with
      | zero => omega
      | succ j =>
        rw [vint_ge h]
        have e : (UInt8.ofNat (x % 128 + 128)).toNat = x % 128 + 128 := by rw [UInt8.toNat_ofNat']; omega
        simp only [List.cons_append, rdV, e]
        rw [if_pos (by omega), if_neg (by omega)]
        have e2 : (x % 128 + 128) % 128 = x % 128 := by omega
        have e3 : 2 ^ (7 * (k + 1)) = 128 * 2 ^ (7 * k) := by rw [show 7 * (k + 1) = 7 * k + 7 by omega, Nat.pow_add]; omega
        have e4 : x % 128 * 2 ^ (7 * k) + x / 128 * (128 * 2 ^ (7 * k)) = x * 2 ^ (7 * k) := by
          rw [← Nat.mul_assoc, ← Nat.add_mul]
          congr 1
          omega
        rw [e2, rdV_vint j (x / 128) (k + 1) (n + x % 128 * 2 ^ (7 * k)) rest (by rw [Nat.div_lt_iff_lt_mul (by omega)]; rw [Nat.pow_succ] at hx; exact hx) (by omega) (by omega) (by rw [e3]; omega), e3]
        congr 2
        · omega
        · simp; omega
theorem decB_encB (k : Int) (i : Nat) (x : UInt8) : decB k i (encB k i x) = x := by
  have hx := x.toNat_lt
  unfold decB encB
  apply UInt8.toNat_inj.1
  rw [UInt8.toNat_ofNat', UInt8.toNat_ofNat']
  omega
theorem dec_enc (k : Int) (b : List UInt8) : decL k (encL k b) = b := by
  unfold decL encL
  apply List.ext_getElem
  · simp
  · intro i h1 h2
    simp [decB_encB]
theorem hasPre_parts {n m : Name} (h : hasPre n m = true) : n.parts = m.parts ++ n.parts.drop m.parts.length := by
  simp only [hasPre, Bool.and_eq_true, decide_eq_true_eq] at h
  conv => lhs; rw [← List.take_append_drop m.parts.length n.parts, h.2]
theorem gsec_all (k : Int) (n : Name) : ∀ (l : List Name), l.any (fun m => hasPre n m) = true → gsec (l.map (mkGran k)) n = nsec k n.parts
  | [], h => by simp at h
  | m :: l, h => by
    unfold gsec
    cases hm : hasPre n m with
    | true =>
      rw [List.map_cons, List.find?_cons_of_pos (show covs n (mkGran k m) = true from hm)]
      have h9 := hasPre_parts hm
      show nsec (nsec k m.parts) (n.parts.drop m.parts.length) = nsec k n.parts
      conv => rhs; rw [h9]
      simp only [nsec, List.foldl_append]
    | false =>
      rw [List.map_cons, List.find?_cons_of_neg (show ¬ covs n (mkGran k m) = true by show ¬ hasPre n m = true; rw [hm]; simp)]
      have := gsec_all k n l (by simpa [hm] using h)
      unfold gsec at this
      exact this
theorem any_covs (k : Int) (n : Name) (l : List Name) : (l.map (mkGran k)).any (covs n) = l.any (fun m => hasPre n m) := by
  rw [List.any_map]; rfl
theorem open_seal (k : Int) (n : Name) (b : List UInt8) (l : List Name) : openC (l.map (mkGran k)) n (sealC k n b) = if l.any (fun m => hasPre n m) = true then some b else none := by
  have hm := mac_b (nsec k n.parts) (b2i b)
  obtain ⟨x, hx⟩ : ∃ x : Nat, mac (nsec k n.parts) (b2i b) = x := ⟨(mac (nsec k n.parts) (b2i b)).toNat, by omega⟩
  have he : evi (mac (nsec k n.parts) (b2i b)) = vint x := by
    unfold evi
    rw [if_pos (inR_t.2 (by omega)), hx, Int.toNat_natCast]
  have hr : rdV (sealC k n b) 0 0 = some (x, (vint x).length) := by
    unfold sealC
    rw [he, rdV_vint 4 x 0 0 _ (by omega) (by omega) (by omega) (by omega)]
    simp
  have hd : (sealC k n b).drop (vint x).length = encL (nsec k n.parts) b := by
    unfold sealC
    rw [he, List.drop_left]
  unfold openC
  rw [hr]
  simp only [any_covs, hd]
  cases h : l.any (fun m => hasPre n m) with
  | false => rfl
  | true =>
    rw [gsec_all k n l h, dec_enc, if_pos hx.symm]
theorem hasPre_snoc (n : Name) (s : ByteArray) : hasPre ⟨n.parts ++ [s]⟩ n = true := by simp [hasPre]
theorem is18 : FI 18 Tryz.f18 := ⟨⟨Tryz.f18, Tryz.func18, rfl, rfl, rfl, rfl⟩, rfl⟩
set_option maxRecDepth 20000 in
set_option maxHeartbeats 16000000 in
theorem same_Bytes (l : List UInt8) (hl : l.length ≤ 1099511627776) : FO 18 [Ys false l, Ys false l] [Ys false l, Ys false l] (B true) := by
  refine fok envOk mixed is18 ⟨rfl, rfl, ?_⟩
  (repeat' ((conv => whnf); first | refine stp ?_ ))
  refine Lp.mk [.sl 0, .sl 1, .sl 5] (fun m σ => ∃ d r, l = d ++ r ∧ m = r.length ∧ σ = [Sa 0 (Ys false l), Sa 1 (Ys false l), Sa 5 (I d.length)]) (l.length) _ (WkS.weak _ _) ⟨[], l, rfl, rfl, (by first | rfl | (simp only [zlen, zsum, Nat.zero_mul, Int.add_zero, Int.sub_zero, List.nil_append, markG]; rfl))⟩ ?_
  rintro m τ ⟨d, r, hl2, rfl, rfl⟩
  have hy : l.length = d.length + r.length := by rw [hl2]; simp
  refine Nm.mk lenC ?_
  cases r with
  | nil =>
    refine Br.neg (by simp at * <;> omega) ?_
    (repeat' ((conv => whnf); first | refine stp ?_ ))
    exact Vs.Fin.mk (WkR.refl _) (.refl _)
  | cons x r =>
    simp at hy
    refine Br.pos (by simp <;> omega) ?_
    (repeat' ((conv => whnf); first | refine stp ?_ | refine El.mk (getH hl2 rfl) ?_ | refine Cl.pre (by simp only [shcLL_ints, shcLL_byts, shcLL_strs, Fetc.shcs, Gran.shcs, Mani.shcs, Name.shcs, Read.shcs, Segm.shcs]; rfl) ?_))
    refine Nx.intro r.length (by simp) _ (WkS.weak _ _) ⟨d ++ [x], r, by simp [hl2], rfl, ?_⟩
    rw [len1]; rfl
abbrev NNY (l : List Name) (n : Name) (b : List UInt8) : Arg := (.tup [(false, 1), (true, 1), (false, 1)], [sl true 1 (l.map (Name.c true)), cSs true n.parts, cYs true b])
abbrev GNY (l : List Gran) (n : Name) (b : List UInt8) : Arg := (.tup [(false, 1), (true, 1), (false, 1)], [sl true 2 (l.map (Gran.c true)), cSs true n.parts, cYs false b])
abbrev INY (k : Int) (n : Name) (b : List UInt8) : Arg := (.tup [(false, 1), (true, 1), (false, 1)], [cI k, cSs true n.parts, cYs true b])
abbrev GSt (g : Gran) (s : ByteArray) : Arg := (.tup [(true, 2), (false, 1)], [cSs true g.name.parts, cI g.secret, cS s])
def nT (N : Nat → Name) (j : Nat) : List Name := (List.range j).map N
theorem nT_succ (N : Nat → Name) (j : Nat) : nT N (j + 1) = nT N j ++ [N j] := by simp [nT, List.range_succ]
theorem nT_len (N : Nat → Name) (j : Nat) : (nT N j).length = j := by simp [nT]
def strQ : ByteArray := ⟨#[113]⟩
/-! Plans, drawn -/
abbrev MY (p : Mani) (b : List UInt8) : Arg := (.tup [(true, 3), (false, 1)], [cI p.seg, cI p.len, cIs true p.dig, cYs true b])
abbrev YI (b : List UInt8) (i : Int) : Arg := (.tup [(false, 1), (false, 1)], [cYs true b, cI i])
abbrev YMI (b : List UInt8) (p : Mani) (i : Int) : Arg := (.tup [(false, 1), (true, 3), (false, 1)], [cYs true b, cI p.seg, cI p.len, cIs true p.dig, cI i])
abbrev MIY (p : Mani) (i : Int) (b : List UInt8) : Arg := (.tup [(true, 3), (false, 1), (false, 1)], [cI p.seg, cI p.len, cIs true p.dig, cI i, cYs false b])
abbrev NI (n : Name) (i : Int) : Arg := (.tup [(true, 1), (false, 1)], [cSs true n.parts, cI i])
theorem mkMani_b {b : List UInt8} {v : Int} (hb : b.length ≤ 20) : (mkMani b v).dig.length ≤ 20 ∧ 0 ≤ (mkMani b v).len ∧ (mkMani b v).len ≤ 20 := by
  unfold mkMani
  split
  · rename_i h
    simp [inR_t] at h
    simp only [digs_len]
    have h2 : cdiv b.length v ≤ 8 := by
      unfold cdiv
      split
      · have : ((b.length : Int) + v - 1) / v < 9 := Int.ediv_lt_of_lt_mul (by omega) (by omega)
        omega
      · omega
    omega
  · simp
theorem setI {l : List Int} {v : Int} {k : Nat} : (ints l).set k (spliceAV [cI (l[k]?.getD 0)] 0 [cI v]) = ints (l.set k v) := by
  simp [ints, List.map_set, spliceAV]
theorem getI {l : List Int} {k : Nat} (h : k < l.length) : (ints l)[k]? = some [cI (l[k]?.getD 0)] := by
  simp [ints, h]
theorem is5 : FI 5 Tryz.f5 := ⟨⟨Tryz.f5, Tryz.func5, rfl, rfl, rfl, rfl⟩, rfl⟩
set_option maxRecDepth 20000 in
set_option maxHeartbeats 16000000 in
theorem DSegm0 (l : List UInt8) (c0 c1 c2 c3 : List AV) (x y : Int) (b : List UInt8) (hy : 0 ≤ y ∧ y < 6) (k0 : FO 20 [Ys false l] [Ys false l] (O (.own c0))) (k1 : FO 22 [O (.own c0), I 24] [O (.own c1), I 24] (I x)) (k2 : FO 21 [O (.own c1), I x] [O (.own c2), I x] (Ys true b)) (k3 : FO 22 [O (.own c2), I 6] [O (.own c3), I 6] (I y)) : FO 5 [Ys false l] [Ys false l] (YI b (3 + y)) := by
  refine fok envOk mixed is5 ⟨rfl, rfl, ?_⟩
  (repeat' ((conv => whnf); first | refine stp ?_ | refine Cl.mk (k0) ?_ | refine Cl.mk (k1) ?_ | refine Cl.mk (k2) ?_ | refine Cl.mk (k3) ?_ | refine Cl.pre (by simp only [shcLL_ints, shcLL_byts, shcLL_strs, Fetc.shcs, Gran.shcs, Mani.shcs, Name.shcs, Read.shcs, Segm.shcs]; rfl) ?_))
  exact Vs.Fin.mk (WkR.refl _) (.refl _)
theorem DSegm_ok (l : List UInt8) (hl : l.length ≤ 1048576) : ∃ (b : List UInt8) (y : Int), b.length < 24 ∧ (3 ≤ y ∧ y ≤ 8) ∧ FO 5 [Ys false l] [Ys false l] (YI b y) := by
  obtain ⟨c0, i0, k0⟩ := new_ok l hl
  obtain ⟨c1, x, i1, hx, -, k1⟩ := below_ok i0 24
  have hx := hx (by omega)
  obtain ⟨c2, b, i2, hb, k2⟩ := bytes_ok i1 x (by omega)
  obtain ⟨c3, y, i3, hy, -, k3⟩ := below_ok i2 6
  have hy := hy (by omega)
  exact ⟨b, 3 + y, by omega, by omega, DSegm0 l c0 c1 c2 c3 x y b hy k0 k1 k2 k3⟩
theorem Breqt {x : Int} {X Y : Prop} (h : X) : Br (x == x) X Y := by
  rw [beq_self_eq_true]; exact Br.tt h
/-! Plans are read back -/
theorem evi_v {d : Int} (h : 0 ≤ d ∧ d ≤ 1000000000000) : evi d = vint d.toNat := by
  unfold evi; rw [if_pos (inR_t.2 h)]
theorem decA_enc : ∀ (ds : List Int) (pre suf : List UInt8) (o : List Int), (∀ d ∈ ds, 0 ≤ d ∧ d ≤ 1000000000000) → decA (pre ++ (encs ds ++ suf)) ds.length pre.length o = some (o ++ ds, pre.length + (encs ds).length)
  | [], pre, suf, o, h => by simp [decA, encs]
  | d :: ds, pre, suf, o, h => by
    have hd := h d (by simp)
    obtain ⟨x, rfl⟩ : ∃ x : Nat, d = x := ⟨d.toNat, by omega⟩
    have he : encs ((x : Int) :: ds) = vint x ++ encs ds := by
      show evi x ++ encs ds = _
      rw [evi_v hd, Int.toNat_natCast]
    have hr : rdV ((pre ++ (encs ((x : Int) :: ds) ++ suf)).drop pre.length) 0 0 = some (x, (vint x).length) := by
      rw [List.drop_left, he, List.append_assoc, rdV_vint 5 x 0 0 _ (by omega) (by omega) (by omega) (by omega)]
      simp
    rw [List.length_cons, decA, hr]
    have ih := decA_enc ds (pre ++ vint x) suf (o ++ [(x : Int)]) (fun y hy => h y (by simp [hy]))
    simp only [List.length_append, List.append_assoc] at ih
    simp only [he, List.append_assoc]
    rw [ih]
    simp [Nat.add_assoc]
theorem okDig_b {d : Int} (h : okDig d = true) : 0 ≤ d ∧ d ≤ 1000000000000 := by
  simp [okDig, inR_t] at h; omega
theorem vMani_dig {p : Mani} (h : vMani p = true) : ∀ d ∈ p.dig, 0 ≤ d ∧ d ≤ 1000000000000 := by
  intro d hd
  simp only [vMani, Bool.and_eq_true, List.all_eq_true] at h
  exact okDig_b (h.2 d hd)
theorem dec_encM {p : Mani} (h : vMani p = true) : decM (encs (p.seg :: p.len :: p.dig)) = some p := by
  have hb := vMani_b h
  have h8 := vMani_len h
  have hd := vMani_dig h
  have e1 : encs (p.seg :: p.len :: p.dig) = [] ++ (encs [p.seg, p.len] ++ encs p.dig) := by simp [encs]
  have h1 := decA_enc [p.seg, p.len] [] (encs p.dig) [] (by intro d hd; simp at hd; omega)
  have e2 : encs (p.seg :: p.len :: p.dig) = encs [p.seg, p.len] ++ (encs p.dig ++ []) := by simp [encs]
  have h2 := decA_enc p.dig (encs [p.seg, p.len]) [] [] hd
  rw [← e1] at h1
  rw [← e2] at h2
  have i1 : decI (encs (p.seg :: p.len :: p.dig)) 0 2 = some ([p.seg, p.len], (encs [p.seg, p.len]).length) := by
    unfold decI; rw [if_pos (by decide)]
    simpa using h1
  have i2 : decI (encs (p.seg :: p.len :: p.dig)) (encs [p.seg, p.len]).length (cdiv p.len p.seg) = some (p.dig, (encs (p.seg :: p.len :: p.dig)).length) := by
    unfold decI; rw [if_pos (inR_t.2 (by omega)), ← hb.2.2.2.2, Int.toNat_natCast, h2, e2]
    simp
  unfold decM
  rw [i1]
  simp only [i2]
  rw [if_pos ⟨trivial, h⟩]
theorem rdV_canon : ∀ (l : List UInt8) (k n x c : Nat), rdV l k n = some (x, c) → k < c ∧ ∃ y, l.take (c - k) = vint y ∧ x = n + y * 2 ^ (7 * k) ∧ (0 < k → 0 < y)
  | [], k, n, x, c, h => by simp [rdV] at h
  | z :: r, k, n, x, c, h => by
    have hz := z.toNat_lt
    rw [rdV] at h
    split at h
    · split at h
      · rename_i hz2
        split at h
        · cases h
        · rename_i h3
          simp only [Option.some.injEq, Prod.mk.injEq] at h
          obtain ⟨rfl, rfl⟩ := h
          refine ⟨by omega, z.toNat, ?_, ?_, ?_⟩
          · rw [vint_lt hz2, Nat.add_sub_cancel_left]; simp
          · rw [Nat.mod_eq_of_lt hz2]
          · intro hk; omega
      · rename_i hz2
        obtain ⟨h4, y, h5, h6, h7⟩ := rdV_canon r (k + 1) _ x c h
        have h7 := h7 (by omega)
        have e3 : 2 ^ (7 * (k + 1)) = 128 * 2 ^ (7 * k) := by rw [show 7 * (k + 1) = 7 * k + 7 by omega, Nat.pow_add]; omega
        refine ⟨by omega, z.toNat % 128 + 128 * y, ?_, ?_, ?_⟩
        · rw [vint_ge (n := z.toNat % 128 + 128 * y) (by omega), show c - k = (c - (k + 1)) + 1 by omega, List.take_succ_cons, h5]
          rw [show (z.toNat % 128 + 128 * y) % 128 + 128 = z.toNat by omega, show (z.toNat % 128 + 128 * y) / 128 = y by omega, UInt8.ofNat_toNat]
        · rw [h6, e3, Nat.add_mul, Nat.add_assoc]
          congr 2
          rw [← Nat.mul_assoc, Nat.mul_comm y 128]
        · intro _; omega
    · cases h
theorem decA_canon {b : List UInt8} : ∀ (n q : Nat) (o l : List Int) (e : Nat), decA b n q o = some (l, e) → ∃ ds, l = o ++ ds ∧ q ≤ e ∧ (b.drop q).take (e - q) = encs ds
  | 0, q, o, l, e, h => by
    simp only [decA, Option.some.injEq, Prod.mk.injEq] at h
    obtain ⟨rfl, rfl⟩ := h
    exact ⟨[], by simp, Nat.le_refl _, by simp [encs]⟩
  | n + 1, q, o, l, e, h => by
    rw [decA] at h
    split at h
    · cases h
    · rename_i x c hx
      obtain ⟨ds, h1, h2, h3⟩ := decA_canon n (q + c) _ l e h
      obtain ⟨_, y, h5, h6, _⟩ := rdV_canon _ _ _ _ _ hx
      have hle := (rdV_le _ _ _ _ _ hx).1
      obtain rfl : x = y := by simpa using h6
      refine ⟨(x : Int) :: ds, by simp [h1], by omega, ?_⟩
      show _ = evi x ++ encs ds
      rw [evi_v (by omega), Int.toNat_natCast, ← h3, show e - q = c + (e - (q + c)) by omega, List.take_add, List.drop_drop, ← h5, Nat.sub_zero]
theorem enc_decM {c : List UInt8} {p : Mani} (h : decM c = some p) : vMani p = true ∧ encs (p.seg :: p.len :: p.dig) = c := by
  unfold decM at h
  split at h
  · rename_i x y e h1
    split at h
    · rename_i ds e2 h2
      split at h
      · rename_i h3
        cases h
        refine ⟨h3.2, ?_⟩
        have a1 : decA c 2 0 [] = some ([x, y], e) := by
          unfold decI at h1; rw [if_pos (by decide)] at h1; exact h1
        have a2 : ∃ n, decA c n e [] = some (ds, e2) := by
          unfold decI at h2
          split at h2
          · exact ⟨_, h2⟩
          · cases h2
        obtain ⟨n, a2⟩ := a2
        obtain ⟨d1, b1, _, b2⟩ := decA_canon _ _ _ _ _ a1
        obtain ⟨d2, b3, b4, b5⟩ := decA_canon _ _ _ _ _ a2
        simp only [List.nil_append] at b1 b3
        subst b1 b3
        rw [h3.1] at b5
        have : encs (x :: y :: ds) = encs [x, y] ++ encs ds := by simp [encs]
        rw [this, ← b2, ← b5, List.drop_zero, Nat.sub_zero, List.take_of_length_le (l := c.drop e) (by simp), List.take_append_drop]
      · cases h
    · cases h
  · cases h
end Go.Proofs.YtoekfmkbkffciaaGreatDoor

/- Contracts of functions of the program: no statement of the seat is proved here. Each under the conditions that stand in it. -/
import Derived.Test.YtigkmijoefibiaaGreatFn
import Derived.Test.YtigkmijoefibiaaGreatFl
import Derived.Test.YtigkmijoefibiaaGreatFd
set_option linter.all false
namespace Go.Proofs.YtigkmijoefibiaaGreat
open Go.Vs Go.Proofs
/-! Bits -/
theorem ofInt64 {a : Nat} (h : a < 9223372036854775808) : (BitVec.ofInt 64 (a : Int)).toNat = a := by
  rw [BitVec.toNat_ofInt]
  omega
theorem and64 {a b : Nat} (ha : a < 9223372036854775808) (hb : b < 9223372036854775808) :
    IntKind.wrap .i64 ((BitVec.ofInt (IntKind.bits .i64) (a : Int) &&& BitVec.ofInt (IntKind.bits .i64) (b : Int)).toNat : Int) = ((a &&& b : Nat) : Int) := by
  have e : (BitVec.ofInt (IntKind.bits .i64) (a : Int) &&& BitVec.ofInt (IntKind.bits .i64) (b : Int)).toNat = a &&& b := by
    show (BitVec.ofInt 64 (a : Int) &&& BitVec.ofInt 64 (b : Int)).toNat = a &&& b
    rw [BitVec.toNat_and, ofInt64 ha, ofInt64 hb]
  rw [e]
  have := Nat.and_le_left (n := a) (m := b)
  exact wrapI (by omega) (by omega)
theorem or64 {a b : Nat} (ha : a < 9223372036854775808) (hb : b < 9223372036854775808) :
    IntKind.wrap .i64 ((BitVec.ofInt (IntKind.bits .i64) (a : Int) ||| BitVec.ofInt (IntKind.bits .i64) (b : Int)).toNat : Int) = ((a ||| b : Nat) : Int) := by
  have e : (BitVec.ofInt (IntKind.bits .i64) (a : Int) ||| BitVec.ofInt (IntKind.bits .i64) (b : Int)).toNat = a ||| b := by
    show (BitVec.ofInt 64 (a : Int) ||| BitVec.ofInt 64 (b : Int)).toNat = a ||| b
    rw [BitVec.toNat_or, ofInt64 ha, ofInt64 hb]
  rw [e]
  have : a ||| b < 2 ^ 63 := Nat.or_lt_two_pow (by omega) (by omega)
  exact wrapI (by omega) (by omega)
theorem shr64 {a b : Nat} (hb : b ≤ 64) : Int.fdiv (a : Int) (2 ^ (min (b : Int).toNat (IntKind.bits .i64))) = ((a / 2 ^ b : Nat) : Int) := by
  have e : min (b : Int).toNat (IntKind.bits .i64) = b := by
    show min (b : Int).toNat 64 = b
    omega
  rw [e, Int.fdiv_eq_ediv_of_nonneg _ (by exact Int.le_of_lt (Int.pow_pos (by decide)))]
  norm_cast
theorem and1 (a : Nat) : a &&& 1 = a % 2 := Nat.and_one_is_mod a
theorem and64_1 {a : Nat} (ha : a < 9223372036854775808) : IntKind.wrap .i64 ((BitVec.ofInt (IntKind.bits .i64) (a : Int) &&& BitVec.ofInt (IntKind.bits .i64) 1).toNat : Int) = ((a % 2 : Nat) : Int) := by
  have := and64 (a := a) (b := 1) ha (by decide)
  rw [and1] at this
  exact this
theorem shr_le {a j : Nat} (ha : a ≤ 9223372036854775807) : a / 2 ^ j < 9223372036854775808 := by
  have := Nat.div_le_self a (2 ^ j)
  omega
/-- Is i among the members of the set s? -/
def inSt (s i : Int) : Bool := inR i 0 30 && decide (0 ≤ s) && decide (s.toNat / 2 ^ i.toNat % 2 = 1)
theorem inSt_of {a j : Nat} (h : j ≤ 30) : inSt a j = decide (a / 2 ^ j % 2 = 1) := by
  have : inR (j : Int) 0 30 = true := by rw [inR_t]; omega
  simp [inSt, this]
def okDig (x : Int) : Bool := inR x 0 2147483646
def vMani (p : Mani) : Bool := inR p.seg 1 60 && inR p.len 0 (p.seg * 8) && decide ((p.dig.length : Int) = cdiv p.len p.seg) && p.dig.all okDig
/-! Digests -/
theorem tmodm {n m : Int} (h : 0 < m) : (n.tmod m + m) % m = n % m := by
  rw [Int.add_emod_right]
  rcases Int.le_total 0 n with h0 | h0
  · rw [Int.tmod_eq_emod_of_nonneg h0, Int.emod_emod_of_dvd _ (Int.dvd_refl m)]
  · have := Int.tmod_add_mul_tdiv n m
    have h2 : n.tmod m = n - m * n.tdiv m := by omega
    rw [h2, Int.sub_mul_emod_self_left]
def modm (n m : Int) : Int := if inR m 1 1000000000000 then n % m else 0
theorem tmod_b {n m : Int} (h : 0 < m) : -m < n.tmod m ∧ n.tmod m < m := by
  refine ⟨?_, Int.tmod_lt_of_pos n h⟩
  rcases Int.le_total 0 n with h0 | h0
  · have := Int.tmod_nonneg m h0
    omega
  · have h1 := Int.tmod_lt_of_pos (-n) h
    rw [Int.neg_tmod] at h1
    omega
theorem modm_b {n : Int} : 0 ≤ modm n 2147483647 ∧ modm n 2147483647 < 2147483647 := by
  have : modm n 2147483647 = n % 2147483647 := by simp [modm, inR]
  rw [this]; omega
def dgStep (d x : Int) : Int := (d * 1000003 + modm x 2147483647 + 13) % 2147483647
def digest (l : List Int) : Int := l.foldl dgStep 11
theorem digest_b (l : List Int) : 0 ≤ digest l ∧ digest l < 2147483647 := by
  have key : ∀ (l : List Int) (d : Int), 0 ≤ d ∧ d < 2147483647 → 0 ≤ l.foldl dgStep d ∧ l.foldl dgStep d < 2147483647 := by
    intro l
    induction l with
    | nil => intro d h; exact h
    | cons x l ih => intro d h; exact ih _ (by unfold dgStep; omega)
  exact key l 11 (by omega)
theorem digest_snoc (l : List Int) (x : Int) : digest (l ++ [x]) = dgStep (digest l) x := by simp [digest]
def b2i (b : List UInt8) : List Int := (b.length : Int) :: b.map fun x => (x.toNat : Int)
theorem is232 : FI 232 Tryz.f232 := ⟨⟨Tryz.f232, Tryz.func232, rfl, rfl, rfl, rfl⟩, rfl⟩
set_option maxRecDepth 20000 in
set_option maxHeartbeats 16000000 in
theorem s_Min (a b : Int) : FO 232 [I a, I b] [I a, I b] (I (mi a b)) := by
  refine fok envOk mixed is232 ⟨rfl, rfl, ?_⟩
  (repeat' ((conv => whnf); first | refine stp ?_ | refine Br.mk (fun _ => ?_) (fun _ => ?_) ))
  all_goals (try (refine Vs.Fin.mk (WkR.eq ?_) (.refl _); first | rfl | (simp_all [mi]; done) | (simp_all [mi]; omega) | grind | grind [mi]))
theorem is231 : FI 231 Tryz.f231 := ⟨⟨Tryz.f231, Tryz.func231, rfl, rfl, rfl, rfl⟩, rfl⟩
set_option maxRecDepth 20000 in
set_option maxHeartbeats 16000000 in
theorem s_Max (a b : Int) : FO 231 [I a, I b] [I a, I b] (I (ma a b)) := by
  refine fok envOk mixed is231 ⟨rfl, rfl, ?_⟩
  (repeat' ((conv => whnf); first | refine stp ?_ | refine Br.mk (fun _ => ?_) (fun _ => ?_) ))
  all_goals (try (refine Vs.Fin.mk (WkR.eq ?_) (.refl _); first | rfl | (simp_all [ma]; done) | (simp_all [ma]; omega) | grind | grind [ma]))
def cut (b : List UInt8) (s i : Nat) : List UInt8 := (b.drop (i * s)).take s
theorem cut_q (b : List UInt8) (s q : Nat) (h : q ≤ b.length) : ((byts b).take (mi b.length ((q : Int) + s)).toNat).drop (q : Int).toNat = byts ((b.drop q).take s) := by
  rw [Int.toNat_natCast, List.drop_take, ← List.map_drop, ← List.map_take]
  congr 1
  unfold mi
  split
  · rename_i h2
    congr 1
    omega
  · rename_i h2
    have h3 : b.length ≤ q + s := by omega
    rw [List.take_of_length_le (by simp), List.take_of_length_le (by simp; omega)]
/-- The digests of the first n segments. -/
def digs (b : List UInt8) (s n : Nat) : List Int := (List.range n).map fun i => digest (b2i (cut b s i))
@[simp] theorem digs_len (b : List UInt8) (s n : Nat) : (digs b s n).length = n := by simp [digs]
theorem digs_snoc (b : List UInt8) (s n : Nat) : digs b s (n + 1) = digs b s n ++ [digest (b2i (cut b s n))] := by simp [digs, List.range_succ]
theorem cdiv_iff {a s : Nat} (hs : 1 ≤ s) (h1 : s ≤ 60) (ha : a ≤ 1048576) (i : Nat) : ((i : Int) < cdiv a s) ↔ i * s < a := by
  have e : cdiv a s = ((a + s - 1) / s : Nat) := by
    have : inR (a : Int) 0 1000000000000 = true := by rw [inR_t]; omega
    have h2 : inR (s : Int) 1 1000000000000 = true := by rw [inR_t]; omega
    simp only [cdiv, this, h2, Bool.and_self, if_true]
    have : (a : Int) + s - 1 = ((a + s - 1 : Nat) : Int) := by omega
    rw [this, ← Int.natCast_ediv]
  rw [e]
  have : i < (a + s - 1) / s ↔ i * s < a := by
    rw [Nat.lt_div_iff_mul_lt (by omega)]
    omega
  omega
theorem cdiv_nn (a s : Int) : 0 ≤ cdiv a s := by
  unfold cdiv
  split
  · rename_i h
    simp [inR_t] at h
    exact Int.ediv_nonneg (by omega) (by omega)
  · omega
def mkMani (b : List UInt8) (size : Int) : Mani := if inR size 1 60 && decide ((b.length : Int) ≤ size * 8) then ⟨size, b.length, digs b size.toNat (cdiv b.length size).toNat⟩ else ⟨0, 0, []⟩
theorem mkMani_no {b : List UInt8} {size : Int} (h : inR size 1 60 = true → ¬ (b.length : Int) ≤ size * 8) : mkMani b size = ⟨0, 0, []⟩ := by
  unfold mkMani
  rw [if_neg]
  simp only [Bool.and_eq_true, decide_eq_true_eq]
  exact fun h2 => h h2.1 h2.2
def vSeg (p : Mani) (i : Int) (b : List UInt8) : Bool := vMani p && inR i 0 (p.dig.length - 1) && decide ((b.length : Int) = mi p.seg (p.len - i * p.seg)) && decide (p.dig.getD i.toNat 0 = digest (b2i b))
theorem vMani_b {p : Mani} (h : vMani p = true) : 1 ≤ p.seg ∧ p.seg ≤ 60 ∧ 0 ≤ p.len ∧ p.len ≤ p.seg * 8 ∧ (p.dig.length : Int) = cdiv p.len p.seg := by
  simp [vMani, inR_t] at h
  omega
theorem seg_b {i s : Int} {n : Nat} (hn : n ≤ 1048576) (h : inR i 0 (n - 1) = true) (hs : 1 ≤ s ∧ s ≤ 60) : 0 ≤ i * s ∧ i * s ≤ 62914560 := by
  simp [inR_t] at h
  refine ⟨Int.mul_nonneg (by omega) (by omega), ?_⟩
  have : i * s ≤ 1048576 * 60 := Int.mul_le_mul (by omega) (by omega) (by omega) (by omega)
  omega
def segAt (b : List UInt8) (p : Mani) (i : Int) : List UInt8 := if vMani p && decide ((b.length : Int) = p.len) && inR i 0 (p.dig.length - 1) then cut b p.seg.toNat i.toNat else []
theorem segAt_no {b : List UInt8} {p : Mani} {i : Int} (h : ¬ (vMani p = true ∧ (b.length : Int) = p.len ∧ inR i 0 (p.dig.length - 1) = true)) : segAt b p i = [] := by
  unfold segAt
  rw [if_neg]
  simp only [Bool.and_eq_true, decide_eq_true_eq]
  exact fun h2 => h ⟨h2.1.1, h2.1.2, h2.2⟩
theorem segAt_yes {b : List UInt8} {p : Mani} {i : Int} (h : vMani p = true) (h1 : (b.length : Int) = p.len) (h2 : inR i 0 (p.dig.length - 1) = true) : segAt b p i = cut b p.seg.toNat i.toNat := by
  simp [segAt, h, h1, h2]
theorem seg_in {b : List UInt8} {p : Mani} {s j : Nat} (hb : b.length ≤ 1048576) (h : vMani p = true) (h1 : (b.length : Int) = p.len) (h2 : inR j 0 (p.dig.length - 1) = true) (hs : p.seg = s) : j * s < b.length := by
  have hm := vMani_b h
  rw [hs, ← h1] at hm
  simp [inR_t] at h2
  exact (cdiv_iff (a := b.length) (s := s) (by omega) (by omega) hb j).1 (by omega)
theorem mkMani_size {b : List UInt8} {z : Int} (hb : b.length ≤ 1048576) : Mani.size (mkMani b z) ≤ 1048576 := by
  unfold mkMani
  split
  · rename_i h
    simp [inR_t] at h
    simp only [Mani.size, digs_len]
    have : cdiv b.length z ≤ b.length := by
      unfold cdiv
      split
      · rename_i h2
        have : ((b.length : Int) + z - 1) / z ≤ b.length := by
          rcases (by omega : (b.length : Int) = 0 ∨ (1 : Int) ≤ b.length) with h4 | h4
          · rw [h4, Int.ediv_eq_zero_of_lt (by omega) (by omega)]
            omega
          refine Int.ediv_le_of_le_mul (by omega) ?_
          have h3 : (b.length : Int) * 1 ≤ b.length * z := Int.mul_le_mul_of_nonneg_left (by omega) (by omega)
          have h5 : (1 : Int) * (z - 1) ≤ b.length * (z - 1) := Int.mul_le_mul_of_nonneg_right h4 (by omega)
          have h6 : (b.length : Int) * (z - 1) = b.length * z - b.length := by rw [Int.mul_sub, Int.mul_one]
          omega
        omega
      · omega
    omega
  · simp [Mani.size]
theorem segAt_size {b : List UInt8} {p : Mani} {i : Int} (hb : b.length ≤ 1048576) : (segAt b p i).length ≤ 1048576 := by
  unfold segAt
  split
  · simp [cut]; omega
  · simp
structure Fetc where
  mani : Mani
  received : Int
  segs : List Segm
  outst : Int
  window : Int
  thresh : Int
  losses : Int
  deriving DecidableEq
abbrev Fetc.c (o : Bool) (p : Fetc) : List AV := [cI p.mani.seg, cI p.mani.len, cIs o p.mani.dig, cI p.received, sl o 1 (p.segs.map (Segm.c o)), cI p.outst, cI p.window, cI p.thresh, cI p.losses]
@[simp] theorem Fetc.shc (p : Fetc) : shcL (Fetc.c true p) = Fetc.c false p := by simp [Fetc.c, shcL, Vs.shc, shcLL_ints, shcLL_byts, shcLL_strs, Segm.shcs]
@[simp] theorem Fetc.shcs (l : List Fetc) : shcLL (l.map (Fetc.c true)) = l.map (Fetc.c false) := shcLL_map Fetc.shc l
@[simp] theorem Fetc.down (p : Fetc) : dOwnL (Fetc.c true p) := by simp [Fetc.c, dOwnL, dOwn]
@[simp] theorem Fetc.downs (l : List Fetc) : dOwnLL (l.map (Fetc.c true)) := dOwnLL_of Fetc.down l
theorem Fetc.eq_iff {p q : Fetc} : p = q ↔ p.mani = q.mani ∧ p.received = q.received ∧ p.segs = q.segs ∧ p.outst = q.outst ∧ p.window = q.window ∧ p.thresh = q.thresh ∧ p.losses = q.losses := by cases p; cases q; simp
def Fetc.size (p : Fetc) : Nat := Mani.size p.mani + (p.segs.length + sumN Segm.size p.segs)
def Fetc.fits (p : Fetc) : Prop := Mani.fits p.mani ∧ (p.segs.length ≤ 9223372036854775807 ∧ ∀ y ∈ p.segs, Segm.fits y)
def Fetc.rng (p : Fetc) : Prop := Mani.rng p.mani ∧ (-9223372036854775808 ≤ p.received ∧ p.received ≤ 9223372036854775807) ∧ (-9223372036854775808 ≤ p.outst ∧ p.outst ≤ 9223372036854775807) ∧ (-9223372036854775808 ≤ p.window ∧ p.window ≤ 9223372036854775807) ∧ (-9223372036854775808 ≤ p.thresh ∧ p.thresh ≤ 9223372036854775807) ∧ (-9223372036854775808 ≤ p.losses ∧ p.losses ≤ 9223372036854775807)
def Fetc.mkd (p : Fetc) (k : Int) : Fetc := ⟨⟨k, k + 1, markG mkI one1 p.mani.dig (k + 1 + 1)⟩, k + 1 + 1 + (p.mani.dig.length : Nat), markG Segm.mkd Segm.cnt p.segs (k + 1 + 1 + (p.mani.dig.length : Nat) + 1), k + 1 + 1 + (p.mani.dig.length : Nat) + 1 + (sumN Segm.cnt p.segs : Nat), k + 1 + 1 + (p.mani.dig.length : Nat) + 1 + (sumN Segm.cnt p.segs : Nat) + 1, k + 1 + 1 + (p.mani.dig.length : Nat) + 1 + (sumN Segm.cnt p.segs : Nat) + 1 + 1, k + 1 + 1 + (p.mani.dig.length : Nat) + 1 + (sumN Segm.cnt p.segs : Nat) + 1 + 1 + 1⟩
def Fetc.cnt (p : Fetc) : Nat := 1 + 1 + p.mani.dig.length + 1 + sumN Segm.cnt p.segs + 1 + 1 + 1 + 1
def Fetc.mkv (p : Fetc) (k : Int) : Fetc := ⟨⟨p.mani.seg, p.mani.len, markG mkI one1 p.mani.dig (k)⟩, p.received, markG Segm.mkd Segm.cnt p.segs (k + (p.mani.dig.length : Nat)), p.outst, p.window, p.thresh, p.losses⟩
def Fetc.cntv (p : Fetc) : Nat := p.mani.dig.length + sumN Segm.cnt p.segs
theorem Fetc.cnt_le (p : Fetc) : Fetc.cnt p ≤ 11 * (Fetc.size p + 1) := by
  have := Segm.cnts_le p.segs; simp only [Fetc.cnt, Fetc.size, strsSize, Mani.size]; omega
theorem Fetc.cntv_le (p : Fetc) : Fetc.cntv p ≤ 11 * (Fetc.size p + 1) := by
  have := Segm.cnts_le p.segs; simp only [Fetc.cntv, Fetc.size, strsSize, Mani.size]; omega
theorem Fetc.cnts_le (l : List Fetc) : sumN Fetc.cnt l ≤ 11 * (l.length + sumN Fetc.size l) := by
  induction l with
  | nil => simp [sumN]
  | cons x l ih => have := Fetc.cnt_le x; simp only [sumN, List.length_cons]; omega
/-- How many of 0 .. j-1 are members. -/
def cntS (s : Int) (j : Nat) : Nat := ((List.range j).filter fun (i : Nat) => inSt s (i : Int)).length
theorem cntS_zero (s : Int) : ((cntS s 0 : Nat) : Int) = 0 := rfl
theorem cntS_succ (s : Int) (j : Nat) : cntS s (j + 1) = cntS s j + if inSt s (j : Int) = true then 1 else 0 := by
  unfold cntS
  rw [List.range_succ, List.filter_append, List.length_append]
  split <;> simp_all
theorem cntS_le (s : Int) (j : Nat) : cntS s j ≤ j := by
  have := List.length_filter_le (fun (i : Nat) => inSt s (i : Int)) (List.range j)
  simp at this
  exact this
def fSegs (r o : Int) (j : Nat) : List Nat := (List.range j).filter fun (i : Nat) => !inSt r (i : Int) && !inSt o (i : Int)
def roomF (f : Fetc) : Int := ma 0 f.window - cntS f.outst 8
def nxtT (f : Fetc) (j : Nat) : List Int := ((fSegs f.received f.outst j).take (roomF f).toNat).map fun (i : Nat) => (i : Int)
def nxt (f : Fetc) : List Int := nxtT f (min 8 f.mani.dig.length)
theorem fSegs_succ (r o : Int) (j : Nat) : fSegs r o (j + 1) = fSegs r o j ++ if (!inSt r (j : Int) && !inSt o (j : Int)) = true then [j] else [] := by
  unfold fSegs
  rw [List.range_succ, List.filter_append]
  congr 1
  simp only [List.filter_cons, List.filter_nil]
theorem fSegs_le (r o : Int) (j : Nat) : (fSegs r o j).length ≤ j := by
  have := List.length_filter_le (fun (i : Nat) => !inSt r (i : Int) && !inSt o (i : Int)) (List.range j)
  simp at this
  exact this
theorem nxtT_zero (f : Fetc) : nxtT f 0 = [] := by simp [nxtT, fSegs]
theorem nxtT_len (f : Fetc) (j : Nat) : (nxtT f j).length ≤ j := by
  have := fSegs_le f.received f.outst j
  simp [nxtT]; omega
theorem nxtT_yes {f : Fetc} {j : Nat} (h : (!inSt f.received (j : Int) && !inSt f.outst (j : Int)) = true) (hr : ((nxtT f j).length : Int) < roomF f) : nxtT f (j + 1) = nxtT f j ++ [(j : Int)] := by
  unfold nxtT at *
  rw [fSegs_succ, if_pos h, List.take_append]
  simp only [List.length_map, List.length_take] at hr
  have : ¬ (roomF f).toNat ≤ (fSegs f.received f.outst j).length := by omega
  obtain ⟨k, hk⟩ : ∃ k, (roomF f).toNat - (fSegs f.received f.outst j).length = k + 1 := ⟨(roomF f).toNat - (fSegs f.received f.outst j).length - 1, by omega⟩
  rw [hk]
  simp
theorem nxtT_no {f : Fetc} {j : Nat} (h : (!inSt f.received (j : Int) && !inSt f.outst (j : Int)) = true → ¬ ((nxtT f j).length : Int) < roomF f) : nxtT f (j + 1) = nxtT f j := by
  unfold nxtT at *
  rw [fSegs_succ]
  split
  · rename_i h1
    have h2 := h h1
    simp only [List.length_map, List.length_take] at h2
    rw [List.take_append]
    have : (roomF f).toNat - (fSegs f.received f.outst j).length = 0 := by omega
    rw [this]
    simp
  · simp
theorem nxtT_full {f : Fetc} {j : Nat} (h : ¬ ((nxtT f j).length : Int) < roomF f) : ∀ k, nxtT f (j + k) = nxtT f j
  | 0 => rfl
  | k + 1 => by
    have ih := nxtT_full h k
    have := nxtT_no (f := f) (j := j + k) (fun _ => by rw [ih]; exact h)
    rw [← ih, ← this]; rfl
theorem nxt_end {f : Fetc} {j : Nat} (h8 : j ≤ 8) (hl : j ≤ f.mani.dig.length) (h : f.mani.dig.length ≤ j ∨ 8 ≤ j ∨ roomF f ≤ (nxtT f j).length) : nxt f = nxtT f j := by
  unfold nxt
  rcases h with h | h | h
  · rw [show min 8 f.mani.dig.length = j by omega]
  · rw [show min 8 f.mani.dig.length = j by omega]
  · rw [show min 8 f.mani.dig.length = j + (min 8 f.mani.dig.length - j) by omega]
    exact nxtT_full (by omega) _
def reass (l : List Segm) : List UInt8 := l.flatMap (·.content)
theorem reass_len (l : List Segm) : (reass l).length = sumN (fun s : Segm => s.content.length) l := by
  induction l with
  | nil => rfl
  | cons x l ih => simp [reass, sumN] at *; exact ih
theorem reass_le {f : Fetc} (h : Fetc.size f ≤ 1048576) : (reass f.segs).length ≤ 1048576 := by
  rw [reass_len]
  simp only [Fetc.size] at h
  have : sumN Segm.size f.segs = sumN (fun s : Segm => s.content.length) f.segs := rfl
  omega
theorem reass_pre (d r : List Segm) : (reass d).length ≤ (reass (d ++ r)).length := by simp [reass]
def newF (p : Mani) : Fetc := if vMani p then ⟨p, 0, List.replicate p.dig.length ⟨[]⟩, 0, 1, 8, 0⟩ else ⟨⟨0, 0, []⟩, 0, [], 0, 0, 0, 0⟩
theorem wkSegs (n : Nat) : WkL (List.replicate n [AV.sl true .isnil 0 []]).flatten ((List.replicate n (⟨[]⟩ : Segm)).map (Segm.c true)).flatten := by
  induction n with
  | zero => exact .nil
  | succ n ih => simp only [List.replicate_succ, List.map_cons, List.flatten_cons]; exact .nils ih
theorem newF_size {p : Mani} (h : Mani.size p ≤ 1048576) : Fetc.size (newF p) ≤ 2097152 := by
  unfold newF
  split
  · simp only [Fetc.size, Mani.size, List.length_replicate] at *
    have : sumN Segm.size (List.replicate p.dig.length ⟨[]⟩) = 0 := by
      generalize p.dig.length = n
      induction n with
      | zero => rfl
      | succ n ih => simp [List.replicate_succ, sumN, ih, Segm.size]
    omega
  · simp [Fetc.size, Mani.size, sumN]
end Go.Proofs.YtigkmijoefibiaaGreat

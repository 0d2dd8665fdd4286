/- Contracts of functions of the program: no statement of the seat is proved here. Each under the conditions that stand in it. -/
import Derived.Test.YtoekfmkbkffciaaFl
set_option linter.all false
namespace Go.Proofs.Ytoekfmkbkffciaa
open Go.Vs Go.Proofs
def okDig (x : Int) : Bool := inR x 0 2147483646
def vMani (p : Mani) : Bool := inR p.seg 1 60 && inR p.len 0 (p.seg * 8) && decide ((p.dig.length : Int) = cdiv p.len p.seg) && p.dig.all okDig
/-! Digests -/
theorem tmodm {n m : Int} (h : 0 < m) : (n.tmod m + m) % m = n % m := by
  rw [Int.add_emod_right]
  rcases Int.le_total 0 n with h0 | h0
  · rw [Int.tmod_eq_emod_of_nonneg h0, Int.emod_emod_of_dvd _ (Int.dvd_refl m)]
  · have := Int.tmod_add_mul_tdiv n m
    have h2 : n.tmod m = n - m * n.tdiv m := by omega
    rw [h2, Int.sub_mul_emod_self_left]
def modm (n m : Int) : Int := if inR m 1 1000000000000 then n % m else 0
theorem tmod_b {n m : Int} (h : 0 < m) : -m < n.tmod m ∧ n.tmod m < m := by
  refine ⟨?_, Int.tmod_lt_of_pos n h⟩
  rcases Int.le_total 0 n with h0 | h0
  · have := Int.tmod_nonneg m h0
    omega
  · have h1 := Int.tmod_lt_of_pos (-n) h
    rw [Int.neg_tmod] at h1
    omega
theorem modm_b {n : Int} : 0 ≤ modm n 2147483647 ∧ modm n 2147483647 < 2147483647 := by
  have : modm n 2147483647 = n % 2147483647 := by simp [modm, inR]
  rw [this]; omega
def dgStep (d x : Int) : Int := (d * 1000003 + modm x 2147483647 + 13) % 2147483647
def digest (l : List Int) : Int := l.foldl dgStep 11
theorem digest_b (l : List Int) : 0 ≤ digest l ∧ digest l < 2147483647 := by
  have key : ∀ (l : List Int) (d : Int), 0 ≤ d ∧ d < 2147483647 → 0 ≤ l.foldl dgStep d ∧ l.foldl dgStep d < 2147483647 := by
    intro l
    induction l with
    | nil => intro d h; exact h
    | cons x l ih => intro d h; exact ih _ (by unfold dgStep; omega)
  exact key l 11 (by omega)
theorem digest_snoc (l : List Int) (x : Int) : digest (l ++ [x]) = dgStep (digest l) x := by simp [digest]
def b2i (b : List UInt8) : List Int := (b.length : Int) :: b.map fun x => (x.toNat : Int)
def cut (b : List UInt8) (s i : Nat) : List UInt8 := (b.drop (i * s)).take s
theorem cut_q (b : List UInt8) (s q : Nat) (h : q ≤ b.length) : ((byts b).take (mi b.length ((q : Int) + s)).toNat).drop (q : Int).toNat = byts ((b.drop q).take s) := by
  rw [Int.toNat_natCast, List.drop_take, ← List.map_drop, ← List.map_take]
  congr 1
  unfold mi
  split
  · rename_i h2
    congr 1
    omega
  · rename_i h2
    have h3 : b.length ≤ q + s := by omega
    rw [List.take_of_length_le (by simp), List.take_of_length_le (by simp; omega)]
/-- The digests of the first n segments. -/
def digs (b : List UInt8) (s n : Nat) : List Int := (List.range n).map fun i => digest (b2i (cut b s i))
@[simp] theorem digs_len (b : List UInt8) (s n : Nat) : (digs b s n).length = n := by simp [digs]
theorem digs_snoc (b : List UInt8) (s n : Nat) : digs b s (n + 1) = digs b s n ++ [digest (b2i (cut b s n))] := by simp [digs, List.range_succ]
theorem cdiv_iff {a s : Nat} (hs : 1 ≤ s) (h1 : s ≤ 60) (ha : a ≤ 1048576) (i : Nat) : ((i : Int) < cdiv a s) ↔ i * s < a := by
  have e : cdiv a s = ((a + s - 1) / s : Nat) := by
    have : inR (a : Int) 0 1000000000000 = true := by rw [inR_t]; omega
    have h2 : inR (s : Int) 1 1000000000000 = true := by rw [inR_t]; omega
    simp only [cdiv, this, h2, Bool.and_self, if_true]
    have : (a : Int) + s - 1 = ((a + s - 1 : Nat) : Int) := by omega
    rw [this, ← Int.natCast_ediv]
  rw [e]
  have : i < (a + s - 1) / s ↔ i * s < a := by
    rw [Nat.lt_div_iff_mul_lt (by omega)]
    omega
  omega
theorem cdiv_nn (a s : Int) : 0 ≤ cdiv a s := by
  unfold cdiv
  split
  · rename_i h
    simp [inR_t] at h
    exact Int.ediv_nonneg (by omega) (by omega)
  · omega
def mkMani (b : List UInt8) (size : Int) : Mani := if inR size 1 60 && decide ((b.length : Int) ≤ size * 8) then ⟨size, b.length, digs b size.toNat (cdiv b.length size).toNat⟩ else ⟨0, 0, []⟩
theorem mkMani_no {b : List UInt8} {size : Int} (h : inR size 1 60 = true → ¬ (b.length : Int) ≤ size * 8) : mkMani b size = ⟨0, 0, []⟩ := by
  unfold mkMani
  rw [if_neg]
  simp only [Bool.and_eq_true, decide_eq_true_eq]
  exact fun h2 => h h2.1 h2.2
def vSeg (p : Mani) (i : Int) (b : List UInt8) : Bool := vMani p && inR i 0 (p.dig.length - 1) && decide ((b.length : Int) = mi p.seg (p.len - i * p.seg)) && decide (p.dig.getD i.toNat 0 = digest (b2i b))
theorem vMani_b {p : Mani} (h : vMani p = true) : 1 ≤ p.seg ∧ p.seg ≤ 60 ∧ 0 ≤ p.len ∧ p.len ≤ p.seg * 8 ∧ (p.dig.length : Int) = cdiv p.len p.seg := by
  simp [vMani, inR_t] at h
  omega
theorem seg_b {i s : Int} {n : Nat} (hn : n ≤ 1048576) (h : inR i 0 (n - 1) = true) (hs : 1 ≤ s ∧ s ≤ 60) : 0 ≤ i * s ∧ i * s ≤ 62914560 := by
  simp [inR_t] at h
  refine ⟨Int.mul_nonneg (by omega) (by omega), ?_⟩
  have : i * s ≤ 1048576 * 60 := Int.mul_le_mul (by omega) (by omega) (by omega) (by omega)
  omega
def segAt (b : List UInt8) (p : Mani) (i : Int) : List UInt8 := if vMani p && decide ((b.length : Int) = p.len) && inR i 0 (p.dig.length - 1) then cut b p.seg.toNat i.toNat else []
theorem segAt_no {b : List UInt8} {p : Mani} {i : Int} (h : ¬ (vMani p = true ∧ (b.length : Int) = p.len ∧ inR i 0 (p.dig.length - 1) = true)) : segAt b p i = [] := by
  unfold segAt
  rw [if_neg]
  simp only [Bool.and_eq_true, decide_eq_true_eq]
  exact fun h2 => h ⟨h2.1.1, h2.1.2, h2.2⟩
theorem segAt_yes {b : List UInt8} {p : Mani} {i : Int} (h : vMani p = true) (h1 : (b.length : Int) = p.len) (h2 : inR i 0 (p.dig.length - 1) = true) : segAt b p i = cut b p.seg.toNat i.toNat := by
  simp [segAt, h, h1, h2]
theorem seg_in {b : List UInt8} {p : Mani} {s j : Nat} (hb : b.length ≤ 1048576) (h : vMani p = true) (h1 : (b.length : Int) = p.len) (h2 : inR j 0 (p.dig.length - 1) = true) (hs : p.seg = s) : j * s < b.length := by
  have hm := vMani_b h
  rw [hs, ← h1] at hm
  simp [inR_t] at h2
  exact (cdiv_iff (a := b.length) (s := s) (by omega) (by omega) hb j).1 (by omega)
theorem mkMani_size {b : List UInt8} {z : Int} (hb : b.length ≤ 1048576) : Mani.size (mkMani b z) ≤ 1048576 := by
  unfold mkMani
  split
  · rename_i h
    simp [inR_t] at h
    simp only [Mani.size, digs_len]
    have : cdiv b.length z ≤ b.length := by
      unfold cdiv
      split
      · rename_i h2
        have : ((b.length : Int) + z - 1) / z ≤ b.length := by
          rcases (by omega : (b.length : Int) = 0 ∨ (1 : Int) ≤ b.length) with h4 | h4
          · rw [h4, Int.ediv_eq_zero_of_lt (by omega) (by omega)]
            omega
          refine Int.ediv_le_of_le_mul (by omega) ?_
          have h3 : (b.length : Int) * 1 ≤ b.length * z := Int.mul_le_mul_of_nonneg_left (by omega) (by omega)
          have h5 : (1 : Int) * (z - 1) ≤ b.length * (z - 1) := Int.mul_le_mul_of_nonneg_right h4 (by omega)
          have h6 : (b.length : Int) * (z - 1) = b.length * z - b.length := by rw [Int.mul_sub, Int.mul_one]
          omega
        omega
      · omega
    omega
  · simp [Mani.size]
theorem segAt_size {b : List UInt8} {p : Mani} {i : Int} (hb : b.length ≤ 1048576) : (segAt b p i).length ≤ 1048576 := by
  unfold segAt
  split
  · simp [cut]; omega
  · simp
end Go.Proofs.Ytoekfmkbkffciaa

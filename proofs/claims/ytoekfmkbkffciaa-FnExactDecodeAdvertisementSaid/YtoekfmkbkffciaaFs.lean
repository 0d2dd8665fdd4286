/- Contracts of functions of the program: no statement of the seat is proved here. Each under the conditions that stand in it. -/
import Derived.Test.YtoekfmkbkffciaaFr
set_option linter.all false
namespace Go.Proofs.Ytoekfmkbkffciaa
open Go.Vs Go.Proofs
/-! Fetches that hold together -/
def allM (p : Mani) : Int := ((2 ^ p.dig.length : Nat) : Int) - 1
theorem allM_b {p : Mani} (h : p.dig.length ≤ 8) : 0 ≤ allM p ∧ allM p ≤ 255 := by
  have h1 : 2 ^ p.dig.length ≤ 2 ^ 8 := Nat.pow_le_pow_right (by omega) h
  have h2 : 0 < 2 ^ p.dig.length := Nat.pow_pos (by omega)
  unfold allM
  omega
theorem shl1 {j : Nat} (hj : j ≤ 8) : IntKind.wrap .i64 (1 * 2 ^ (min (j : Int).toNat (IntKind.bits .i64))) = ((2 ^ j : Nat) : Int) := by
  have h1 : 2 ^ j ≤ 2 ^ 8 := Nat.pow_le_pow_right (by omega) hj
  have := shl64 (a := 1) (j := j) (by omega) (by omega)
  simpa using this
theorem and64I {x y : Int} (hx : 0 ≤ x ∧ x ≤ 255) (hy : 0 ≤ y ∧ y ≤ 255) : IntKind.wrap .i64 ((BitVec.ofInt (IntKind.bits .i64) x &&& BitVec.ofInt (IntKind.bits .i64) y).toNat : Int) = ((x.toNat &&& y.toNat : Nat) : Int) := by
  have := and64 (a := x.toNat) (b := y.toNat) (by omega) (by omega)
  rw [Int.toNat_of_nonneg hx.1, Int.toNat_of_nonneg hy.1] at this
  exact this
theorem shl1W {j : Nat} (hj : j ≤ 8) : IntKind.wrap .i64 (((2 ^ j : Nat) : Int) - 1) = ((2 ^ j : Nat) : Int) - 1 := by
  have h1 : 2 ^ j ≤ 2 ^ 8 := Nat.pow_le_pow_right (by omega) hj
  have h2 : 0 < 2 ^ j := Nat.pow_pos (by omega)
  generalize 2 ^ j = z at *
  exact wrapI (by omega) (by omega)
theorem vSeg_nil {p : Mani} (h : vMani p = true) (k : Int) : vSeg p k [] = false := by
  cases hs : vSeg p k [] with
  | false => rfl
  | true =>
    exfalso
    simp only [vSeg, Bool.and_eq_true, decide_eq_true_eq, inR_t] at hs
    obtain ⟨⟨⟨-, h1, h2⟩, h3⟩, -⟩ := hs
    obtain ⟨a1, a2, a3, a4, a5⟩ := vMani_b h
    have e : cdiv p.len p.seg = (p.len + p.seg - 1) / p.seg := by
      unfold cdiv; rw [if_pos (by simp [inR_t]; omega)]
    have b1 := Int.ediv_mul_le (p.len + p.seg - 1) (b := p.seg) (by omega)
    rw [← e, ← a5] at b1
    have b2 : 0 ≤ ((p.dig.length : Int) - 1 - k) * p.seg := Int.mul_nonneg (by omega) (by omega)
    rw [Int.sub_mul, Int.sub_mul, Int.one_mul] at b2
    unfold mi at h3
    simp at h3
    split at h3 <;> omega
def ok1 (p : Mani) (r k : Int) (c : List UInt8) : Bool := if inSt r k then vSeg p k c else c.isEmpty
def okSs (p : Mani) (r : Int) : Nat → List Segm → Bool
  | _, [] => true
  | k, s :: l => ok1 p r (k : Int) s.content && okSs p r (k + 1) l
theorem okSs_no {p : Mani} {r : Int} {k : Nat} {s : Segm} {l : List Segm} (h : ok1 p r (k : Int) s.content = false) : okSs p r k (s :: l) = false := by simp [okSs, h]
theorem okSs_go {p : Mani} {r : Int} {k : Nat} {s : Segm} {l : List Segm} (h : ok1 p r (k : Int) s.content = true) : okSs p r k (s :: l) = okSs p r (k + 1) l := by simp [okSs, h]
theorem ok1_spec {p : Mani} (h : vMani p = true) {r k : Int} {c : List UInt8} : ok1 p r k c = !(!(inSt r k == decide ((c.length : Int) > 0)) || (inSt r k && !vSeg p k c)) := by
  cases c with
  | nil => cases hi : inSt r k <;> simp [ok1, hi, vSeg_nil h]
  | cons a c =>
    have h2 : decide ((((a :: c).length : Nat) : Int) > 0) = true := by simp
    rw [h2]
    cases hi : inSt r k <;> simp [ok1, hi]
def vFet (f : Fetc) : Bool := vMani f.mani && inR f.received 0 (allM f.mani) && inR f.outst 0 (allM f.mani) && decide (f.received.toNat &&& f.outst.toNat = 0) && decide (f.segs.length = f.mani.dig.length) && okSs f.mani f.received 0 f.segs && inR f.window 1 8 && inR f.thresh 1 8 && inR f.losses 0 2
end Go.Proofs.Ytoekfmkbkffciaa

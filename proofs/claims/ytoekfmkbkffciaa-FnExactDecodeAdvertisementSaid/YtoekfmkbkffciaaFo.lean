/- Contracts of functions of the program: no statement of the seat is proved here. Each under the conditions that stand in it. -/
import Derived.Test.YtoekfmkbkffciaaFn
set_option linter.all false
namespace Go.Proofs.Ytoekfmkbkffciaa
open Go.Vs Go.Proofs
/-! Bits -/
theorem ofInt64 {a : Nat} (h : a < 9223372036854775808) : (BitVec.ofInt 64 (a : Int)).toNat = a := by
  rw [BitVec.toNat_ofInt]
  omega
theorem and64 {a b : Nat} (ha : a < 9223372036854775808) (hb : b < 9223372036854775808) :
    IntKind.wrap .i64 ((BitVec.ofInt (IntKind.bits .i64) (a : Int) &&& BitVec.ofInt (IntKind.bits .i64) (b : Int)).toNat : Int) = ((a &&& b : Nat) : Int) := by
  have e : (BitVec.ofInt (IntKind.bits .i64) (a : Int) &&& BitVec.ofInt (IntKind.bits .i64) (b : Int)).toNat = a &&& b := by
    show (BitVec.ofInt 64 (a : Int) &&& BitVec.ofInt 64 (b : Int)).toNat = a &&& b
    rw [BitVec.toNat_and, ofInt64 ha, ofInt64 hb]
  rw [e]
  have := Nat.and_le_left (n := a) (m := b)
  exact wrapI (by omega) (by omega)
theorem or64 {a b : Nat} (ha : a < 9223372036854775808) (hb : b < 9223372036854775808) :
    IntKind.wrap .i64 ((BitVec.ofInt (IntKind.bits .i64) (a : Int) ||| BitVec.ofInt (IntKind.bits .i64) (b : Int)).toNat : Int) = ((a ||| b : Nat) : Int) := by
  have e : (BitVec.ofInt (IntKind.bits .i64) (a : Int) ||| BitVec.ofInt (IntKind.bits .i64) (b : Int)).toNat = a ||| b := by
    show (BitVec.ofInt 64 (a : Int) ||| BitVec.ofInt 64 (b : Int)).toNat = a ||| b
    rw [BitVec.toNat_or, ofInt64 ha, ofInt64 hb]
  rw [e]
  have : a ||| b < 2 ^ 63 := Nat.or_lt_two_pow (by omega) (by omega)
  exact wrapI (by omega) (by omega)
theorem shr64 {a b : Nat} (hb : b ≤ 64) : Int.fdiv (a : Int) (2 ^ (min (b : Int).toNat (IntKind.bits .i64))) = ((a / 2 ^ b : Nat) : Int) := by
  have e : min (b : Int).toNat (IntKind.bits .i64) = b := by
    show min (b : Int).toNat 64 = b
    omega
  rw [e, Int.fdiv_eq_ediv_of_nonneg _ (by exact Int.le_of_lt (Int.pow_pos (by decide)))]
  norm_cast
theorem and1 (a : Nat) : a &&& 1 = a % 2 := Nat.and_one_is_mod a
theorem and64_1 {a : Nat} (ha : a < 9223372036854775808) : IntKind.wrap .i64 ((BitVec.ofInt (IntKind.bits .i64) (a : Int) &&& BitVec.ofInt (IntKind.bits .i64) 1).toNat : Int) = ((a % 2 : Nat) : Int) := by
  have := and64 (a := a) (b := 1) ha (by decide)
  rw [and1] at this
  exact this
theorem shr_le {a j : Nat} (ha : a ≤ 9223372036854775807) : a / 2 ^ j < 9223372036854775808 := by
  have := Nat.div_le_self a (2 ^ j)
  omega
/-- Is i among the members of the set s? -/
def inSt (s i : Int) : Bool := inR i 0 30 && decide (0 ≤ s) && decide (s.toNat / 2 ^ i.toNat % 2 = 1)
theorem inSt_of {a j : Nat} (h : j ≤ 30) : inSt a j = decide (a / 2 ^ j % 2 = 1) := by
  have : inR (j : Int) 0 30 = true := by rw [inR_t]; omega
  simp [inSt, this]
end Go.Proofs.Ytoekfmkbkffciaa

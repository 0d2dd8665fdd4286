/- Contracts of functions of the program: no statement of the seat is proved here. Each under the conditions that stand in it. -/
import Derived.Test.YtoekfmkbkffciaaFn
set_option linter.all false
namespace Go.Proofs.Ytoekfmkbkffciaa
open Go.Vs Go.Proofs
/-! Integers, as text -/
def dgB (d : Nat) : ByteArray := ⟨#[UInt8.ofNat (48 + d)]⟩
def fmtF : Nat → Nat → ByteArray → ByteArray
  | 0, _, acc => acc
  | k + 1, x, acc => if x = 0 then acc else fmtF k (x / 10) (dgB (x % 10) ++ acc)
def minusB : ByteArray := ⟨#[45]⟩
def zeroB : ByteArray := ⟨#[48]⟩
def fmtI (n : Int) : ByteArray := if n = 0 then zeroB else if n < 0 then minusB ++ fmtF 20 n.natAbs ByteArray.empty else fmtF 20 n.natAbs ByteArray.empty
theorem fmtF_size : ∀ (k x : Nat) (acc : ByteArray), (fmtF k x acc).size ≤ k + acc.size
  | 0, x, acc => by simp [fmtF]
  | k + 1, x, acc => by
    unfold fmtF
    split
    · omega
    · have := fmtF_size k (x / 10) (dgB (x % 10) ++ acc)
      have h2 : (dgB (x % 10) ++ acc).size = 1 + acc.size := by rw [ByteArray.size_append]; rfl
      omega
theorem fmtI_size (n : Int) : (fmtI n).size ≤ 21 := by
  have h := fmtF_size 20 n.natAbs ByteArray.empty
  have e : ByteArray.empty.size = 0 := rfl
  unfold fmtI
  split
  · decide
  · split
    · rw [ByteArray.size_append]
      have : minusB.size = 1 := rfl
      omega
    · omega
theorem wrap8n {d : Nat} (h : d < 10) : IntKind.wrap .u8 (48 + (d : Int)) = ((UInt8.ofNat (48 + d)).toNat : Int) := by
  have h1 : IntKind.wrap .u8 (48 + (d : Int)) = (48 + (d : Int)) % 256 := by unfold IntKind.wrap; simp [IntKind.signed, IntKind.bits]
  rw [h1, UInt8.toNat_ofNat']
  omega
theorem dg_eq (d : Nat) : (⟨(bytesOf (shcLL [[AV.v (Value.int .u8 ((UInt8.ofNat (48 + d)).toNat : Int))]])).toArray⟩ : ByteArray) = dgB d := by
  have h : UInt8.ofNat (((UInt8.ofNat (48 + d)).toNat : Int)).toNat = UInt8.ofNat (48 + d) := by rw [Int.toNat_natCast, UInt8.ofNat_toNat]
  show (⟨([UInt8.ofNat (((UInt8.ofNat (48 + d)).toNat : Int)).toNat]).toArray⟩ : ByteArray) = dgB d
  rw [h]; rfl
theorem el1 (n : Int) : ∀ el ∈ shcLL [[AV.v (Value.int .u8 n)]], ∃ k, el = [AV.v (Value.int .u8 k)] := by
  intro el h
  simp only [shcLL, shcL, Vs.shc, List.mem_singleton] at h
  exact ⟨n, h⟩
theorem str_room {a b : ByteArray} (ha : a.size ≤ 100) (hb : b.size ≤ 100) : ((a.size + b.size : Nat) : Int) ≤ IntKind.i64.max := by
  have : IntKind.i64.max = 9223372036854775807 := rfl
  omega
end Go.Proofs.Ytoekfmkbkffciaa

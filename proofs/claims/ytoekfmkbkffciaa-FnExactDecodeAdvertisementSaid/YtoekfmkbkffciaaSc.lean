/- Contracts of functions of the program: no statement of the seat is proved here. Each under the conditions that stand in it. -/
import Derived.Test.YtoekfmkbkffciaaSa
import Derived.Test.YtoekfmkbkffciaaSb
import Derived.Test.YtoekfmkbkffciaaFk
set_option linter.all false
namespace Go.Proofs.Ytoekfmkbkffciaa
open Go.Vs Go.Proofs
/-! Grants, what is sealed -/
def nsec (k : Int) (l : List ByteArray) : Int := l.foldl dsec k
theorem nsec_snoc (k : Int) (d : List ByteArray) (x : ByteArray) : nsec k (d ++ [x]) = dsec (nsec k d) x := by simp [nsec]
def mkGran (k : Int) (n : Name) : Gran := ⟨n, nsec k n.parts⟩
theorem wrap8z (z : Int) : IntKind.wrap .u8 z = ((UInt8.ofNat (z % 256).toNat).toNat : Int) := by
  have h : IntKind.wrap .u8 z = z % 256 := by
    unfold IntKind.wrap
    simp [IntKind.signed, IntKind.bits]
  rw [h, UInt8.toNat_ofNat']
  omega
theorem wrap8s {z : Int} (h : 0 ≤ z ∧ z < 256) : IntKind.wrap .u8 z = z := by
  unfold IntKind.wrap
  simp [IntKind.signed, IntKind.bits]
  omega
def kst (k : Int) (i : Nat) : Int := mac k [(i : Int)] % 256
theorem kst_b (k : Int) (i : Nat) : 0 ≤ kst k i ∧ kst k i < 256 := by unfold kst; omega
def encB (k : Int) (i : Nat) (x : UInt8) : UInt8 := UInt8.ofNat (((x.toNat : Int) + kst k i) % 256).toNat
def decB (k : Int) (i : Nat) (x : UInt8) : UInt8 := UInt8.ofNat (((x.toNat : Int) - kst k i) % 256).toNat
def encL (k : Int) (l : List UInt8) : List UInt8 := l.mapIdx (encB k)
def decL (k : Int) (l : List UInt8) : List UInt8 := l.mapIdx (decB k)
theorem encL_snoc (k : Int) (d : List UInt8) (x : UInt8) : encL k (d ++ [x]) = encL k d ++ [encB k d.length x] := by simp [encL, List.mapIdx_append]
theorem decL_snoc (k : Int) (d : List UInt8) (x : UInt8) : decL k (d ++ [x]) = decL k d ++ [decB k d.length x] := by simp [decL, List.mapIdx_append]
@[simp] theorem encL_len (k : Int) (d : List UInt8) : (encL k d).length = d.length := by simp [encL]
@[simp] theorem decL_len (k : Int) (d : List UInt8) : (decL k d).length = d.length := by simp [decL]
end Go.Proofs.Ytoekfmkbkffciaa

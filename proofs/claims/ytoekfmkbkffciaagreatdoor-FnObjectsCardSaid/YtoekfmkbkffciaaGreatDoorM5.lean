/- Contracts of functions of the program: no statement of the seat is proved here. Each under the conditions that stand in it. -/
import Derived.Test.YtoekfmkbkffciaaGreatDoorFl
import Derived.Test.YtoekfmkbkffciaaGreatDoorFf
import Derived.Test.YtoekfmkbkffciaaGreatDoorM3
import Derived.Test.YtoekfmkbkffciaaGreatDoorM16
set_option linter.all false
namespace Go.Proofs.YtoekfmkbkffciaaGreatDoor
open Go.Vs Go.Proofs
/-! Grants, what is sealed -/
def nsec (k : Int) (l : List ByteArray) : Int := l.foldl dsec k
theorem nsec_snoc (k : Int) (d : List ByteArray) (x : ByteArray) : nsec k (d ++ [x]) = dsec (nsec k d) x := by simp [nsec]
def mkGran (k : Int) (n : Name) : Gran := ⟨n, nsec k n.parts⟩
theorem wrap8z (z : Int) : IntKind.wrap .u8 z = ((UInt8.ofNat (z % 256).toNat).toNat : Int) := by
  have h : IntKind.wrap .u8 z = z % 256 := by
    unfold IntKind.wrap
    simp [IntKind.signed, IntKind.bits]
  rw [h, UInt8.toNat_ofNat']
  omega
theorem wrap8s {z : Int} (h : 0 ≤ z ∧ z < 256) : IntKind.wrap .u8 z = z := by
  unfold IntKind.wrap
  simp [IntKind.signed, IntKind.bits]
  omega
def kst (k : Int) (i : Nat) : Int := mac k [(i : Int)] % 256
theorem kst_b (k : Int) (i : Nat) : 0 ≤ kst k i ∧ kst k i < 256 := by unfold kst; omega
def encB (k : Int) (i : Nat) (x : UInt8) : UInt8 := UInt8.ofNat (((x.toNat : Int) + kst k i) % 256).toNat
def decB (k : Int) (i : Nat) (x : UInt8) : UInt8 := UInt8.ofNat (((x.toNat : Int) - kst k i) % 256).toNat
def encL (k : Int) (l : List UInt8) : List UInt8 := l.mapIdx (encB k)
def decL (k : Int) (l : List UInt8) : List UInt8 := l.mapIdx (decB k)
theorem encL_snoc (k : Int) (d : List UInt8) (x : UInt8) : encL k (d ++ [x]) = encL k d ++ [encB k d.length x] := by simp [encL, List.mapIdx_append]
theorem decL_snoc (k : Int) (d : List UInt8) (x : UInt8) : decL k (d ++ [x]) = decL k d ++ [decB k d.length x] := by simp [decL, List.mapIdx_append]
@[simp] theorem encL_len (k : Int) (d : List UInt8) : (encL k d).length = d.length := by simp [encL]
@[simp] theorem decL_len (k : Int) (d : List UInt8) : (decL k d).length = d.length := by simp [decL]
theorem dec_sub (x m : Int) : (x - m % 256) % 256 = (x - m) % 256 := by omega
def sealC (k : Int) (n : Name) (b : List UInt8) : List UInt8 := evi (mac (nsec k n.parts) (b2i b)) ++ encL (nsec k n.parts) b
/-! Which grant -/
def covs (n : Name) (g : Gran) : Bool := hasPre n g.name
theorem gr_len {l : List Gran} {g : Gran} {z : Nat} (hz : l.length + sumN Gran.size l ≤ z) (h : g ∈ l) : g.name.parts.length ≤ z := by
  have := sumN_mem Gran.size h
  have h2 : Gran.size g = strsSize g.name.parts := rfl
  unfold strsSize at h2
  omega
def gsec (l : List Gran) (n : Name) : Int := match l.find? (covs n) with
  | none => 0
  | some g => nsec g.secret (n.parts.drop g.name.parts.length)
theorem find_splitN {α : Type} {p : α → Bool} : ∀ (l : List α), (l.any p = false ∧ l.find? p = none) ∨ ∃ d x r, l = d ++ x :: r ∧ d.any p = false ∧ p x = true ∧ l.find? p = some x
  | [] => .inl ⟨rfl, rfl⟩
  | x :: l => by
    cases h : p x with
    | true => exact .inr ⟨[], x, l, rfl, rfl, h, by simp [h]⟩
    | false =>
      rcases find_splitN (p := p) l with ⟨h1, h2⟩ | ⟨d, y, r, rfl, h2, h3, h4⟩
      · exact .inl ⟨by simp [h, h1], by simp [h, h2]⟩
      · exact .inr ⟨x :: d, y, r, rfl, by simp [h, h2], h3, by simp [h, h4]⟩
theorem covs_le {n : Name} {g : Gran} (h : covs n g = true) : g.name.parts.length ≤ n.parts.length := by
  simp [covs, hasPre] at h; exact h.1
theorem strs_drop {l : List ByteArray} {k : Nat} : strsSize (l.drop k) ≤ strsSize l := by
  have h : strsSize (l.take k ++ l.drop k) = strsSize l := by rw [List.take_append_drop]
  unfold strsSize at *
  rw [sumN_append] at h
  simp at *
  omega
end Go.Proofs.YtoekfmkbkffciaaGreatDoor

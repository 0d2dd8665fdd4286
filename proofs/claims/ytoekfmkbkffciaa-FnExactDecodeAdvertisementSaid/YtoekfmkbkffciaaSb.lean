/- Contracts of functions of the program: no statement of the seat is proved here. Each under the conditions that stand in it. -/
import Derived.Test.YtoekfmkbkffciaaFn
import Derived.Test.YtoekfmkbkffciaaFm
set_option linter.all false
namespace Go.Proofs.Ytoekfmkbkffciaa
open Go.Vs Go.Proofs
/-! Names: the order, prefixes -/
def cmpS (a b : ByteArray) : Int := if Op.bytesLess a.toList b.toList = true then -1 else if (!(Op.bytesLess a.toList b.toList || a.toList == b.toList)) = true then 1 else 0
theorem bytesLess_self (l : List UInt8) : Op.bytesLess l l = false := by
  induction l with
  | nil => rfl
  | cons a l ih => simp [Op.bytesLess, ih]
theorem cmpS_zero {a b : ByteArray} : cmpS a b = 0 ↔ a = b := by
  constructor
  · intro h
    unfold cmpS at h
    split at h
    · simp at h
    · split at h
      · simp at h
      · rename_i h1 h2
        refine eqS ?_
        simp at h1 h2
        simp [h2 h1]
  · rintro rfl
    simp [cmpS, bytesLess_self]
def cmpL : List ByteArray → List ByteArray → Int
  | [], [] => 0
  | [], _ :: _ => -1
  | _ :: _, [] => 1
  | x :: a, y :: b => if cmpS x y = 0 then cmpL a b else cmpS x y
theorem cmpL_zero : ∀ {a b : List ByteArray}, cmpL a b = 0 ↔ a = b
  | [], [] => by simp [cmpL]
  | [], _ :: _ => by simp [cmpL]
  | _ :: _, [] => by simp [cmpL]
  | x :: a, y :: b => by
    rw [cmpL]
    split
    · rename_i h
      rw [cmpL_zero, cmpS_zero.1 h]
      simp
    · rename_i h
      constructor
      · intro h2; exact absurd h2 h
      · intro h2
        simp at h2
        exact absurd (cmpS_zero.2 h2.1) h
def hasPre (a p : Name) : Bool := decide (p.parts.length ≤ a.parts.length) && decide (a.parts.take p.parts.length = p.parts)
def trunc (n : Name) (k : Int) : Name := ⟨n.parts.take (ma 0 (mi k n.parts.length)).toNat⟩
theorem trunc_le {n : Name} {k : Nat} (h : k ≤ n.parts.length) : trunc n k = ⟨n.parts.take k⟩ := by
  unfold trunc ma mi
  congr 2
  split <;> split <;> omega
end Go.Proofs.Ytoekfmkbkffciaa

/- Contracts of functions of the program: no statement of the seat is proved here. Each under the conditions that stand in it. -/
import Derived.Test.YtoekfmkbkffciaaGreatDoorFd
set_option linter.all false
namespace Go.Proofs.YtoekfmkbkffciaaGreatDoor
open Go.Vs Go.Proofs
structure Data where
  name : Name
  content : List UInt8
  keyName : Name
  fresh : Int
  sig : Int
  deriving DecidableEq
abbrev Data.c (o : Bool) (p : Data) : List AV := [cSs o p.name.parts, cYs o p.content, cSs o p.keyName.parts, cI p.fresh, cI p.sig]
@[simp] theorem Data.shc (p : Data) : shcL (Data.c true p) = Data.c false p := by simp [Data.c, shcL, Vs.shc, shcLL_ints, shcLL_byts, shcLL_strs]
@[simp] theorem Data.shcs (l : List Data) : shcLL (l.map (Data.c true)) = l.map (Data.c false) := shcLL_map Data.shc l
@[simp] theorem Data.down (p : Data) : dOwnL (Data.c true p) := by simp [Data.c, dOwnL, dOwn]
@[simp] theorem Data.downs (l : List Data) : dOwnLL (l.map (Data.c true)) := dOwnLL_of Data.down l
theorem Data.eq_iff {p q : Data} : p = q ↔ p.name = q.name ∧ p.content = q.content ∧ p.keyName = q.keyName ∧ p.fresh = q.fresh ∧ p.sig = q.sig := by cases p; cases q; simp
def Data.size (p : Data) : Nat := Name.size p.name + p.content.length + Name.size p.keyName
def Data.fits (p : Data) : Prop := Name.fits p.name ∧ p.content.length ≤ 9223372036854775807 ∧ Name.fits p.keyName
def Data.rng (p : Data) : Prop := (-9223372036854775808 ≤ p.fresh ∧ p.fresh ≤ 9223372036854775807) ∧ (-9223372036854775808 ≤ p.sig ∧ p.sig ≤ 9223372036854775807)
def Data.mkd (p : Data) (k : Int) : Data := ⟨⟨markG mkS one1 p.name.parts (k)⟩, markG mkY one1 p.content (k + (p.name.parts.length : Nat)), ⟨markG mkS one1 p.keyName.parts (k + (p.name.parts.length : Nat) + (p.content.length : Nat))⟩, k + (p.name.parts.length : Nat) + (p.content.length : Nat) + (p.keyName.parts.length : Nat), k + (p.name.parts.length : Nat) + (p.content.length : Nat) + (p.keyName.parts.length : Nat) + 1⟩
def Data.cnt (p : Data) : Nat := p.name.parts.length + p.content.length + p.keyName.parts.length + 1 + 1
def Data.mkv (p : Data) (k : Int) : Data := ⟨⟨markG mkS one1 p.name.parts (k)⟩, markG mkY one1 p.content (k + (p.name.parts.length : Nat)), ⟨markG mkS one1 p.keyName.parts (k + (p.name.parts.length : Nat) + (p.content.length : Nat))⟩, p.fresh, p.sig⟩
def Data.cntv (p : Data) : Nat := p.name.parts.length + p.content.length + p.keyName.parts.length
theorem Data.cnt_le (p : Data) : Data.cnt p ≤ 6 * (Data.size p + 1) := by
  simp only [Data.cnt, Data.size, strsSize, Name.size]; omega
theorem Data.cntv_le (p : Data) : Data.cntv p ≤ 6 * (Data.size p + 1) := by
  simp only [Data.cntv, Data.size, strsSize, Name.size]; omega
theorem Data.cnts_le (l : List Data) : sumN Data.cnt l ≤ 6 * (l.length + sumN Data.size l) := by
  induction l with
  | nil => simp [sumN]
  | cons x l ih => have := Data.cnt_le x; simp only [sumN, List.length_cons]; omega
end Go.Proofs.YtoekfmkbkffciaaGreatDoor

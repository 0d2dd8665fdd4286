/- Contracts of functions of the program: no statement of the seat is proved here. Each under the conditions that stand in it. -/
import Derived.Test.YtoekfmkbkffciaaGreatDoorFd
set_option linter.all false
namespace Go.Proofs.YtoekfmkbkffciaaGreatDoor
open Go.Vs Go.Proofs
structure Gran where
  name : Name
  secret : Int
  deriving DecidableEq
abbrev Gran.c (o : Bool) (p : Gran) : List AV := [cSs o p.name.parts, cI p.secret]
@[simp] theorem Gran.shc (p : Gran) : shcL (Gran.c true p) = Gran.c false p := by simp [Gran.c, shcL, Vs.shc, shcLL_ints, shcLL_byts, shcLL_strs]
@[simp] theorem Gran.shcs (l : List Gran) : shcLL (l.map (Gran.c true)) = l.map (Gran.c false) := shcLL_map Gran.shc l
@[simp] theorem Gran.down (p : Gran) : dOwnL (Gran.c true p) := by simp [Gran.c, dOwnL, dOwn]
@[simp] theorem Gran.downs (l : List Gran) : dOwnLL (l.map (Gran.c true)) := dOwnLL_of Gran.down l
theorem Gran.eq_iff {p q : Gran} : p = q ↔ p.name = q.name ∧ p.secret = q.secret := by cases p; cases q; simp
def Gran.size (p : Gran) : Nat := Name.size p.name
def Gran.fits (p : Gran) : Prop := Name.fits p.name
def Gran.rng (p : Gran) : Prop := (-9223372036854775808 ≤ p.secret ∧ p.secret ≤ 9223372036854775807)
def Gran.mkd (p : Gran) (k : Int) : Gran := ⟨⟨markG mkS one1 p.name.parts (k)⟩, k + (p.name.parts.length : Nat)⟩
def Gran.cnt (p : Gran) : Nat := p.name.parts.length + 1
def Gran.mkv (p : Gran) (k : Int) : Gran := ⟨⟨markG mkS one1 p.name.parts (k)⟩, p.secret⟩
def Gran.cntv (p : Gran) : Nat := p.name.parts.length
theorem Gran.cnt_le (p : Gran) : Gran.cnt p ≤ 5 * (Gran.size p + 1) := by
  simp only [Gran.cnt, Gran.size, strsSize, Name.size]; omega
theorem Gran.cntv_le (p : Gran) : Gran.cntv p ≤ 5 * (Gran.size p + 1) := by
  simp only [Gran.cntv, Gran.size, strsSize, Name.size]; omega
theorem Gran.cnts_le (l : List Gran) : sumN Gran.cnt l ≤ 5 * (l.length + sumN Gran.size l) := by
  induction l with
  | nil => simp [sumN]
  | cons x l ih => have := Gran.cnt_le x; simp only [sumN, List.length_cons]; omega
structure Read where
  node : Int
  name : Name
  epoch : Int
  deriving DecidableEq
abbrev Read.c (o : Bool) (p : Read) : List AV := [cI p.node, cSs o p.name.parts, cI p.epoch]
@[simp] theorem Read.shc (p : Read) : shcL (Read.c true p) = Read.c false p := by simp [Read.c, shcL, Vs.shc, shcLL_ints, shcLL_byts, shcLL_strs]
@[simp] theorem Read.shcs (l : List Read) : shcLL (l.map (Read.c true)) = l.map (Read.c false) := shcLL_map Read.shc l
@[simp] theorem Read.down (p : Read) : dOwnL (Read.c true p) := by simp [Read.c, dOwnL, dOwn]
@[simp] theorem Read.downs (l : List Read) : dOwnLL (l.map (Read.c true)) := dOwnLL_of Read.down l
theorem Read.eq_iff {p q : Read} : p = q ↔ p.node = q.node ∧ p.name = q.name ∧ p.epoch = q.epoch := by cases p; cases q; simp
def Read.size (p : Read) : Nat := Name.size p.name
def Read.fits (p : Read) : Prop := Name.fits p.name
def Read.rng (p : Read) : Prop := (-9223372036854775808 ≤ p.node ∧ p.node ≤ 9223372036854775807) ∧ (-9223372036854775808 ≤ p.epoch ∧ p.epoch ≤ 9223372036854775807)
def Read.mkd (p : Read) (k : Int) : Read := ⟨k, ⟨markG mkS one1 p.name.parts (k + 1)⟩, k + 1 + (p.name.parts.length : Nat)⟩
def Read.cnt (p : Read) : Nat := 1 + p.name.parts.length + 1
def Read.mkv (p : Read) (k : Int) : Read := ⟨p.node, ⟨markG mkS one1 p.name.parts (k)⟩, p.epoch⟩
def Read.cntv (p : Read) : Nat := p.name.parts.length
theorem Read.cnt_le (p : Read) : Read.cnt p ≤ 6 * (Read.size p + 1) := by
  simp only [Read.cnt, Read.size, strsSize, Name.size]; omega
theorem Read.cntv_le (p : Read) : Read.cntv p ≤ 6 * (Read.size p + 1) := by
  simp only [Read.cntv, Read.size, strsSize, Name.size]; omega
theorem Read.cnts_le (l : List Read) : sumN Read.cnt l ≤ 6 * (l.length + sumN Read.size l) := by
  induction l with
  | nil => simp [sumN]
  | cons x l ih => have := Read.cnt_le x; simp only [sumN, List.length_cons]; omega
end Go.Proofs.YtoekfmkbkffciaaGreatDoor

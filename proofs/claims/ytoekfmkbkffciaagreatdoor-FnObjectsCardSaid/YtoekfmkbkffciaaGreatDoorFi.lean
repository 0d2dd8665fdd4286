/- Contracts of functions of the program: no statement of the seat is proved here. Each under the conditions that stand in it. -/
import Derived.Test.YtoekfmkbkffciaaGreatDoorFd
set_option linter.all false
namespace Go.Proofs.YtoekfmkbkffciaaGreatDoor
open Go.Vs Go.Proofs
structure TEnt where
  name : Name
  value : Int
  deriving DecidableEq
abbrev TEnt.c (o : Bool) (p : TEnt) : List AV := [cSs o p.name.parts, cI p.value]
@[simp] theorem TEnt.shc (p : TEnt) : shcL (TEnt.c true p) = TEnt.c false p := by simp [TEnt.c, shcL, Vs.shc, shcLL_ints, shcLL_byts, shcLL_strs]
@[simp] theorem TEnt.shcs (l : List TEnt) : shcLL (l.map (TEnt.c true)) = l.map (TEnt.c false) := shcLL_map TEnt.shc l
@[simp] theorem TEnt.down (p : TEnt) : dOwnL (TEnt.c true p) := by simp [TEnt.c, dOwnL, dOwn]
@[simp] theorem TEnt.downs (l : List TEnt) : dOwnLL (l.map (TEnt.c true)) := dOwnLL_of TEnt.down l
theorem TEnt.eq_iff {p q : TEnt} : p = q ↔ p.name = q.name ∧ p.value = q.value := by cases p; cases q; simp
def TEnt.size (p : TEnt) : Nat := Name.size p.name
def TEnt.fits (p : TEnt) : Prop := Name.fits p.name
def TEnt.rng (p : TEnt) : Prop := (-9223372036854775808 ≤ p.value ∧ p.value ≤ 9223372036854775807)
def TEnt.mkd (p : TEnt) (k : Int) : TEnt := ⟨⟨markG mkS one1 p.name.parts (k)⟩, k + (p.name.parts.length : Nat)⟩
def TEnt.cnt (p : TEnt) : Nat := p.name.parts.length + 1
def TEnt.mkv (p : TEnt) (k : Int) : TEnt := ⟨⟨markG mkS one1 p.name.parts (k)⟩, p.value⟩
def TEnt.cntv (p : TEnt) : Nat := p.name.parts.length
theorem TEnt.cnt_le (p : TEnt) : TEnt.cnt p ≤ 5 * (TEnt.size p + 1) := by
  simp only [TEnt.cnt, TEnt.size, strsSize, Name.size]; omega
theorem TEnt.cntv_le (p : TEnt) : TEnt.cntv p ≤ 5 * (TEnt.size p + 1) := by
  simp only [TEnt.cntv, TEnt.size, strsSize, Name.size]; omega
theorem TEnt.cnts_le (l : List TEnt) : sumN TEnt.cnt l ≤ 5 * (l.length + sumN TEnt.size l) := by
  induction l with
  | nil => simp [sumN]
  | cons x l ih => have := TEnt.cnt_le x; simp only [sumN, List.length_cons]; omega
structure Rout where
  pref : Name
  face : Int
  cost : Int
  deriving DecidableEq
abbrev Rout.c (o : Bool) (p : Rout) : List AV := [cSs o p.pref.parts, cI p.face, cI p.cost]
@[simp] theorem Rout.shc (p : Rout) : shcL (Rout.c true p) = Rout.c false p := by simp [Rout.c, shcL, Vs.shc, shcLL_ints, shcLL_byts, shcLL_strs]
@[simp] theorem Rout.shcs (l : List Rout) : shcLL (l.map (Rout.c true)) = l.map (Rout.c false) := shcLL_map Rout.shc l
@[simp] theorem Rout.down (p : Rout) : dOwnL (Rout.c true p) := by simp [Rout.c, dOwnL, dOwn]
@[simp] theorem Rout.downs (l : List Rout) : dOwnLL (l.map (Rout.c true)) := dOwnLL_of Rout.down l
theorem Rout.eq_iff {p q : Rout} : p = q ↔ p.pref = q.pref ∧ p.face = q.face ∧ p.cost = q.cost := by cases p; cases q; simp
def Rout.size (p : Rout) : Nat := Name.size p.pref
def Rout.fits (p : Rout) : Prop := Name.fits p.pref
def Rout.rng (p : Rout) : Prop := (-9223372036854775808 ≤ p.face ∧ p.face ≤ 9223372036854775807) ∧ (-9223372036854775808 ≤ p.cost ∧ p.cost ≤ 9223372036854775807)
def Rout.mkd (p : Rout) (k : Int) : Rout := ⟨⟨markG mkS one1 p.pref.parts (k)⟩, k + (p.pref.parts.length : Nat), k + (p.pref.parts.length : Nat) + 1⟩
def Rout.cnt (p : Rout) : Nat := p.pref.parts.length + 1 + 1
def Rout.mkv (p : Rout) (k : Int) : Rout := ⟨⟨markG mkS one1 p.pref.parts (k)⟩, p.face, p.cost⟩
def Rout.cntv (p : Rout) : Nat := p.pref.parts.length
theorem Rout.cnt_le (p : Rout) : Rout.cnt p ≤ 6 * (Rout.size p + 1) := by
  simp only [Rout.cnt, Rout.size, strsSize, Name.size]; omega
theorem Rout.cntv_le (p : Rout) : Rout.cntv p ≤ 6 * (Rout.size p + 1) := by
  simp only [Rout.cntv, Rout.size, strsSize, Name.size]; omega
theorem Rout.cnts_le (l : List Rout) : sumN Rout.cnt l ≤ 6 * (l.length + sumN Rout.size l) := by
  induction l with
  | nil => simp [sumN]
  | cons x l ih => have := Rout.cnt_le x; simp only [sumN, List.length_cons]; omega
structure Keyy where
  name : Name
  secret : Int
  deriving DecidableEq
abbrev Keyy.c (o : Bool) (p : Keyy) : List AV := [cSs o p.name.parts, cI p.secret]
@[simp] theorem Keyy.shc (p : Keyy) : shcL (Keyy.c true p) = Keyy.c false p := by simp [Keyy.c, shcL, Vs.shc, shcLL_ints, shcLL_byts, shcLL_strs]
@[simp] theorem Keyy.shcs (l : List Keyy) : shcLL (l.map (Keyy.c true)) = l.map (Keyy.c false) := shcLL_map Keyy.shc l
@[simp] theorem Keyy.down (p : Keyy) : dOwnL (Keyy.c true p) := by simp [Keyy.c, dOwnL, dOwn]
@[simp] theorem Keyy.downs (l : List Keyy) : dOwnLL (l.map (Keyy.c true)) := dOwnLL_of Keyy.down l
theorem Keyy.eq_iff {p q : Keyy} : p = q ↔ p.name = q.name ∧ p.secret = q.secret := by cases p; cases q; simp
def Keyy.size (p : Keyy) : Nat := Name.size p.name
def Keyy.fits (p : Keyy) : Prop := Name.fits p.name
def Keyy.rng (p : Keyy) : Prop := (-9223372036854775808 ≤ p.secret ∧ p.secret ≤ 9223372036854775807)
def Keyy.mkd (p : Keyy) (k : Int) : Keyy := ⟨⟨markG mkS one1 p.name.parts (k)⟩, k + (p.name.parts.length : Nat)⟩
def Keyy.cnt (p : Keyy) : Nat := p.name.parts.length + 1
def Keyy.mkv (p : Keyy) (k : Int) : Keyy := ⟨⟨markG mkS one1 p.name.parts (k)⟩, p.secret⟩
def Keyy.cntv (p : Keyy) : Nat := p.name.parts.length
theorem Keyy.cnt_le (p : Keyy) : Keyy.cnt p ≤ 5 * (Keyy.size p + 1) := by
  simp only [Keyy.cnt, Keyy.size, strsSize, Name.size]; omega
theorem Keyy.cntv_le (p : Keyy) : Keyy.cntv p ≤ 5 * (Keyy.size p + 1) := by
  simp only [Keyy.cntv, Keyy.size, strsSize, Name.size]; omega
theorem Keyy.cnts_le (l : List Keyy) : sumN Keyy.cnt l ≤ 5 * (l.length + sumN Keyy.size l) := by
  induction l with
  | nil => simp [sumN]
  | cons x l ih => have := Keyy.cnt_le x; simp only [sumN, List.length_cons]; omega
end Go.Proofs.YtoekfmkbkffciaaGreatDoor

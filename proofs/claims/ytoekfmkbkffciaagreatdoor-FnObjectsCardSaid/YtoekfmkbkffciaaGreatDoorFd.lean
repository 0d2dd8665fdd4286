/- Contracts of functions of the program: no statement of the seat is proved here. Each under the conditions that stand in it. -/
import Derived.Test.YtoekfmkbkffciaaGreatDoorFc
set_option linter.all false
namespace Go.Proofs.YtoekfmkbkffciaaGreatDoor
open Go.Vs Go.Proofs
theorem szA_neg {n : Nat} {x : Int} (h : szA n x < 0) (hx : 0 ≤ x) : x < n := by
  unfold szA at h
  split at h <;> omega
theorem szA_nn {n : Nat} {x : Int} (h : ¬ szA n x < 0) (hx : 0 ≤ x) : (n : Int) ≤ x := by
  unfold szA at h
  split at h <;> omega
structure Name where
  parts : List ByteArray
  deriving DecidableEq
abbrev Name.c (o : Bool) (p : Name) : List AV := [cSs o p.parts]
@[simp] theorem Name.shc (p : Name) : shcL (Name.c true p) = Name.c false p := by simp [Name.c, shcL, Vs.shc, shcLL_ints, shcLL_byts, shcLL_strs]
@[simp] theorem Name.shcs (l : List Name) : shcLL (l.map (Name.c true)) = l.map (Name.c false) := shcLL_map Name.shc l
@[simp] theorem Name.down (p : Name) : dOwnL (Name.c true p) := by simp [Name.c, dOwnL, dOwn]
@[simp] theorem Name.downs (l : List Name) : dOwnLL (l.map (Name.c true)) := dOwnLL_of Name.down l
theorem Name.eq_iff {p q : Name} : p = q ↔ p.parts = q.parts := by cases p; cases q; simp
def Name.size (p : Name) : Nat := strsSize p.parts
def Name.fits (p : Name) : Prop := strsFit p.parts
def Name.mkd (p : Name) (k : Int) : Name := ⟨markG mkS one1 p.parts (k)⟩
def Name.cnt (p : Name) : Nat := p.parts.length
def Name.mkv (p : Name) (k : Int) : Name := ⟨markG mkS one1 p.parts (k)⟩
def Name.cntv (p : Name) : Nat := p.parts.length
theorem Name.cnt_le (p : Name) : Name.cnt p ≤ 5 * (Name.size p + 1) := by
  simp only [Name.cnt, Name.size, strsSize]; omega
theorem Name.cntv_le (p : Name) : Name.cntv p ≤ 5 * (Name.size p + 1) := by
  simp only [Name.cntv, Name.size, strsSize]; omega
theorem Name.cnts_le (l : List Name) : sumN Name.cnt l ≤ 5 * (l.length + sumN Name.size l) := by
  induction l with
  | nil => simp [sumN]
  | cons x l ih => have := Name.cnt_le x; simp only [sumN, List.length_cons]; omega
structure Mani where
  seg : Int
  len : Int
  dig : List Int
  deriving DecidableEq
abbrev Mani.c (o : Bool) (p : Mani) : List AV := [cI p.seg, cI p.len, cIs o p.dig]
@[simp] theorem Mani.shc (p : Mani) : shcL (Mani.c true p) = Mani.c false p := by simp [Mani.c, shcL, Vs.shc, shcLL_ints, shcLL_byts, shcLL_strs]
@[simp] theorem Mani.shcs (l : List Mani) : shcLL (l.map (Mani.c true)) = l.map (Mani.c false) := shcLL_map Mani.shc l
@[simp] theorem Mani.down (p : Mani) : dOwnL (Mani.c true p) := by simp [Mani.c, dOwnL, dOwn]
@[simp] theorem Mani.downs (l : List Mani) : dOwnLL (l.map (Mani.c true)) := dOwnLL_of Mani.down l
theorem Mani.eq_iff {p q : Mani} : p = q ↔ p.seg = q.seg ∧ p.len = q.len ∧ p.dig = q.dig := by cases p; cases q; simp
def Mani.size (p : Mani) : Nat := p.dig.length
def Mani.fits (p : Mani) : Prop := p.dig.length ≤ 9223372036854775807
def Mani.rng (p : Mani) : Prop := (-9223372036854775808 ≤ p.seg ∧ p.seg ≤ 9223372036854775807) ∧ (-9223372036854775808 ≤ p.len ∧ p.len ≤ 9223372036854775807)
def Mani.mkd (p : Mani) (k : Int) : Mani := ⟨k, k + 1, markG mkI one1 p.dig (k + 1 + 1)⟩
def Mani.cnt (p : Mani) : Nat := 1 + 1 + p.dig.length
def Mani.mkv (p : Mani) (k : Int) : Mani := ⟨p.seg, p.len, markG mkI one1 p.dig (k)⟩
def Mani.cntv (p : Mani) : Nat := p.dig.length
theorem Mani.cnt_le (p : Mani) : Mani.cnt p ≤ 6 * (Mani.size p + 1) := by
  simp only [Mani.cnt, Mani.size, strsSize]; omega
theorem Mani.cntv_le (p : Mani) : Mani.cntv p ≤ 6 * (Mani.size p + 1) := by
  simp only [Mani.cntv, Mani.size, strsSize]; omega
theorem Mani.cnts_le (l : List Mani) : sumN Mani.cnt l ≤ 6 * (l.length + sumN Mani.size l) := by
  induction l with
  | nil => simp [sumN]
  | cons x l ih => have := Mani.cnt_le x; simp only [sumN, List.length_cons]; omega
structure Segm where
  content : List UInt8
  deriving DecidableEq
abbrev Segm.c (o : Bool) (p : Segm) : List AV := [cYs o p.content]
@[simp] theorem Segm.shc (p : Segm) : shcL (Segm.c true p) = Segm.c false p := by simp [Segm.c, shcL, Vs.shc, shcLL_ints, shcLL_byts, shcLL_strs]
@[simp] theorem Segm.shcs (l : List Segm) : shcLL (l.map (Segm.c true)) = l.map (Segm.c false) := shcLL_map Segm.shc l
@[simp] theorem Segm.down (p : Segm) : dOwnL (Segm.c true p) := by simp [Segm.c, dOwnL, dOwn]
@[simp] theorem Segm.downs (l : List Segm) : dOwnLL (l.map (Segm.c true)) := dOwnLL_of Segm.down l
theorem Segm.eq_iff {p q : Segm} : p = q ↔ p.content = q.content := by cases p; cases q; simp
def Segm.size (p : Segm) : Nat := p.content.length
def Segm.fits (p : Segm) : Prop := p.content.length ≤ 9223372036854775807
def Segm.mkd (p : Segm) (k : Int) : Segm := ⟨markG mkY one1 p.content (k)⟩
def Segm.cnt (p : Segm) : Nat := p.content.length
def Segm.mkv (p : Segm) (k : Int) : Segm := ⟨markG mkY one1 p.content (k)⟩
def Segm.cntv (p : Segm) : Nat := p.content.length
theorem Segm.cnt_le (p : Segm) : Segm.cnt p ≤ 5 * (Segm.size p + 1) := by
  simp only [Segm.cnt, Segm.size, strsSize]; omega
theorem Segm.cntv_le (p : Segm) : Segm.cntv p ≤ 5 * (Segm.size p + 1) := by
  simp only [Segm.cntv, Segm.size, strsSize]; omega
theorem Segm.cnts_le (l : List Segm) : sumN Segm.cnt l ≤ 5 * (l.length + sumN Segm.size l) := by
  induction l with
  | nil => simp [sumN]
  | cons x l ih => have := Segm.cnt_le x; simp only [sumN, List.length_cons]; omega
end Go.Proofs.YtoekfmkbkffciaaGreatDoor

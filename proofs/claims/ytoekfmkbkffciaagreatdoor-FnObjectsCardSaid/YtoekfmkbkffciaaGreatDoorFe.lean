/- Contracts of functions of the program: no statement of the seat is proved here. Each under the conditions that stand in it. -/
import Derived.Test.YtoekfmkbkffciaaGreatDoorFd
set_option linter.all false
namespace Go.Proofs.YtoekfmkbkffciaaGreatDoor
open Go.Vs Go.Proofs
structure Fetc where
  mani : Mani
  received : Int
  segs : List Segm
  outst : Int
  window : Int
  thresh : Int
  losses : Int
  deriving DecidableEq
abbrev Fetc.c (o : Bool) (p : Fetc) : List AV := [cI p.mani.seg, cI p.mani.len, cIs o p.mani.dig, cI p.received, sl o 1 (p.segs.map (Segm.c o)), cI p.outst, cI p.window, cI p.thresh, cI p.losses]
@[simp] theorem Fetc.shc (p : Fetc) : shcL (Fetc.c true p) = Fetc.c false p := by simp [Fetc.c, shcL, Vs.shc, shcLL_ints, shcLL_byts, shcLL_strs, Segm.shcs]
@[simp] theorem Fetc.shcs (l : List Fetc) : shcLL (l.map (Fetc.c true)) = l.map (Fetc.c false) := shcLL_map Fetc.shc l
@[simp] theorem Fetc.down (p : Fetc) : dOwnL (Fetc.c true p) := by simp [Fetc.c, dOwnL, dOwn]
@[simp] theorem Fetc.downs (l : List Fetc) : dOwnLL (l.map (Fetc.c true)) := dOwnLL_of Fetc.down l
theorem Fetc.eq_iff {p q : Fetc} : p = q ↔ p.mani = q.mani ∧ p.received = q.received ∧ p.segs = q.segs ∧ p.outst = q.outst ∧ p.window = q.window ∧ p.thresh = q.thresh ∧ p.losses = q.losses := by cases p; cases q; simp
def Fetc.size (p : Fetc) : Nat := Mani.size p.mani + (p.segs.length + sumN Segm.size p.segs)
def Fetc.fits (p : Fetc) : Prop := Mani.fits p.mani ∧ (p.segs.length ≤ 9223372036854775807 ∧ ∀ y ∈ p.segs, Segm.fits y)
def Fetc.rng (p : Fetc) : Prop := Mani.rng p.mani ∧ (-9223372036854775808 ≤ p.received ∧ p.received ≤ 9223372036854775807) ∧ (-9223372036854775808 ≤ p.outst ∧ p.outst ≤ 9223372036854775807) ∧ (-9223372036854775808 ≤ p.window ∧ p.window ≤ 9223372036854775807) ∧ (-9223372036854775808 ≤ p.thresh ∧ p.thresh ≤ 9223372036854775807) ∧ (-9223372036854775808 ≤ p.losses ∧ p.losses ≤ 9223372036854775807)
def Fetc.mkd (p : Fetc) (k : Int) : Fetc := ⟨⟨k, k + 1, markG mkI one1 p.mani.dig (k + 1 + 1)⟩, k + 1 + 1 + (p.mani.dig.length : Nat), markG Segm.mkd Segm.cnt p.segs (k + 1 + 1 + (p.mani.dig.length : Nat) + 1), k + 1 + 1 + (p.mani.dig.length : Nat) + 1 + (sumN Segm.cnt p.segs : Nat), k + 1 + 1 + (p.mani.dig.length : Nat) + 1 + (sumN Segm.cnt p.segs : Nat) + 1, k + 1 + 1 + (p.mani.dig.length : Nat) + 1 + (sumN Segm.cnt p.segs : Nat) + 1 + 1, k + 1 + 1 + (p.mani.dig.length : Nat) + 1 + (sumN Segm.cnt p.segs : Nat) + 1 + 1 + 1⟩
def Fetc.cnt (p : Fetc) : Nat := 1 + 1 + p.mani.dig.length + 1 + sumN Segm.cnt p.segs + 1 + 1 + 1 + 1
def Fetc.mkv (p : Fetc) (k : Int) : Fetc := ⟨⟨p.mani.seg, p.mani.len, markG mkI one1 p.mani.dig (k)⟩, p.received, markG Segm.mkd Segm.cnt p.segs (k + (p.mani.dig.length : Nat)), p.outst, p.window, p.thresh, p.losses⟩
def Fetc.cntv (p : Fetc) : Nat := p.mani.dig.length + sumN Segm.cnt p.segs
theorem Fetc.cnt_le (p : Fetc) : Fetc.cnt p ≤ 11 * (Fetc.size p + 1) := by
  have := Segm.cnts_le p.segs; simp only [Fetc.cnt, Fetc.size, strsSize, Mani.size]; omega
theorem Fetc.cntv_le (p : Fetc) : Fetc.cntv p ≤ 11 * (Fetc.size p + 1) := by
  have := Segm.cnts_le p.segs; simp only [Fetc.cntv, Fetc.size, strsSize, Mani.size]; omega
theorem Fetc.cnts_le (l : List Fetc) : sumN Fetc.cnt l ≤ 11 * (l.length + sumN Fetc.size l) := by
  induction l with
  | nil => simp [sumN]
  | cons x l ih => have := Fetc.cnt_le x; simp only [sumN, List.length_cons]; omega
end Go.Proofs.YtoekfmkbkffciaaGreatDoor

/- Contracts of functions of the program: no statement of the seat is proved here. Each under the conditions that stand in it. -/
import Derived.Test.YtlibidbpgnpdjaaFd
set_option linter.all false
namespace Go.Proofs.Ytlibidbpgnpdjaa
open Go.Vs Go.Proofs
structure Link where
  a : Int
  b : Int
  deriving DecidableEq
abbrev Link.c (o : Bool) (p : Link) : List AV := [cI p.a, cI p.b]
@[simp] theorem Link.shc (p : Link) : shcL (Link.c true p) = Link.c false p := by simp [Link.c, shcL, Vs.shc, shcLL_ints, shcLL_byts, shcLL_strs]
@[simp] theorem Link.shcs (l : List Link) : shcLL (l.map (Link.c true)) = l.map (Link.c false) := shcLL_map Link.shc l
@[simp] theorem Link.down (p : Link) : dOwnL (Link.c true p) := by simp [Link.c, dOwnL, dOwn]
@[simp] theorem Link.downs (l : List Link) : dOwnLL (l.map (Link.c true)) := dOwnLL_of Link.down l
theorem Link.eq_iff {p q : Link} : p = q ↔ p.a = q.a ∧ p.b = q.b := by cases p; cases q; simp
def Link.rng (p : Link) : Prop := (-9223372036854775808 ≤ p.a ∧ p.a ≤ 9223372036854775807) ∧ (-9223372036854775808 ≤ p.b ∧ p.b ≤ 9223372036854775807)
def Link.mkd (p : Link) (k : Int) : Link := ⟨k, k + 1⟩
def Link.cnt (p : Link) : Nat := 1 + 1
theorem Link.cnts_le (l : List Link) : sumN Link.cnt l ≤ 3 * l.length := by
  induction l with
  | nil => simp [sumN]
  | cons x l ih => simp only [sumN, List.length_cons, Link.cnt]; omega
structure Topo where
  nodes : Int
  links : List Link
  deriving DecidableEq
abbrev Topo.c (o : Bool) (p : Topo) : List AV := [cI p.nodes, sl o 2 (p.links.map (Link.c o))]
@[simp] theorem Topo.shc (p : Topo) : shcL (Topo.c true p) = Topo.c false p := by simp [Topo.c, shcL, Vs.shc, shcLL_ints, shcLL_byts, shcLL_strs, Link.shcs]
@[simp] theorem Topo.shcs (l : List Topo) : shcLL (l.map (Topo.c true)) = l.map (Topo.c false) := shcLL_map Topo.shc l
@[simp] theorem Topo.down (p : Topo) : dOwnL (Topo.c true p) := by simp [Topo.c, dOwnL, dOwn]
@[simp] theorem Topo.downs (l : List Topo) : dOwnLL (l.map (Topo.c true)) := dOwnLL_of Topo.down l
theorem Topo.eq_iff {p q : Topo} : p = q ↔ p.nodes = q.nodes ∧ p.links = q.links := by cases p; cases q; simp
def Topo.size (p : Topo) : Nat := p.links.length
def Topo.fits (p : Topo) : Prop := p.links.length ≤ 9223372036854775807
def Topo.rng (p : Topo) : Prop := (-9223372036854775808 ≤ p.nodes ∧ p.nodes ≤ 9223372036854775807) ∧ (∀ y ∈ p.links, Link.rng y)
def Topo.mkd (p : Topo) (k : Int) : Topo := ⟨k, markG Link.mkd Link.cnt p.links (k + 1)⟩
def Topo.cnt (p : Topo) : Nat := 1 + sumN Link.cnt p.links
def Topo.mkv (p : Topo) (k : Int) : Topo := ⟨p.nodes, markG Link.mkd Link.cnt p.links (k)⟩
def Topo.cntv (p : Topo) : Nat := sumN Link.cnt p.links
theorem Topo.cnt_le (p : Topo) : Topo.cnt p ≤ 5 * (Topo.size p + 1) := by
  have := Link.cnts_le p.links; simp only [Topo.cnt, Topo.size, strsSize]; omega
theorem Topo.cntv_le (p : Topo) : Topo.cntv p ≤ 5 * (Topo.size p + 1) := by
  have := Link.cnts_le p.links; simp only [Topo.cntv, Topo.size, strsSize]; omega
theorem Topo.cnts_le (l : List Topo) : sumN Topo.cnt l ≤ 5 * (l.length + sumN Topo.size l) := by
  induction l with
  | nil => simp [sumN]
  | cons x l ih => have := Topo.cnt_le x; simp only [sumN, List.length_cons]; omega
end Go.Proofs.Ytlibidbpgnpdjaa

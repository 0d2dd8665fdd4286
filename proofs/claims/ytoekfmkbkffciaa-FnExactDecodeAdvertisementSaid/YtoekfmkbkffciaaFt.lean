/- Contracts of functions of the program: no statement of the seat is proved here. Each under the conditions that stand in it. -/
import Derived.Test.YtoekfmkbkffciaaFs
set_option linter.all false
namespace Go.Proofs.Ytoekfmkbkffciaa
open Go.Vs Go.Proofs
/-! Fetches, changed -/
/-- A slot that views a box's cell. -/
abbrev Rb (t b c : Nat) : Rs × RV := (.sl t, ((0, 0), some (.one, [.ref (.bx b) c (0, 0) []])))
theorem getAB {α β : Type} {a : α → List AV} {b : β → List AV} {d : List α} {r : List β} {x : β} {i : Int} (hi : i = (d.length : Nat)) : (d.map a ++ (x :: r).map b)[i.toNat]? = some (b x) := by
  subst hi; simp
theorem setAB {α β : Type} {a : α → List AV} {b : β → List AV} {d : List α} {r : List β} {x : β} {z : List AV} : (d.map a ++ (x :: r).map b).set d.length z = d.map a ++ z :: r.map b := by
  simp [List.set_append]
def bitL (i : Int) : Int := IntKind.wrap .i64 (1 * 2 ^ (min i.toNat (IntKind.bits .i64)))
def bOr (a b : Int) : Int := IntKind.wrap .i64 ((BitVec.ofInt (IntKind.bits .i64) a ||| BitVec.ofInt (IntKind.bits .i64) b).toNat : Int)
def bClr (a b : Int) : Int := IntKind.wrap .i64 ((BitVec.ofInt (IntKind.bits .i64) a &&& ~~~BitVec.ofInt (IntKind.bits .i64) b).toNat : Int)
theorem bitL_eq (i : Int) : IntKind.wrap .i64 (1 * 2 ^ (min i.toNat (IntKind.bits .i64))) = bitL i := rfl
theorem bOr_eq (a b : Int) : IntKind.wrap .i64 ((BitVec.ofInt (IntKind.bits .i64) a ||| BitVec.ofInt (IntKind.bits .i64) b).toNat : Int) = bOr a b := rfl
theorem bClr_eq (a b : Int) : IntKind.wrap .i64 ((BitVec.ofInt (IntKind.bits .i64) a &&& ~~~BitVec.ofInt (IntKind.bits .i64) b).toNat : Int) = bClr a b := rfl
theorem Fetc.size_dig {f : Fetc} {n : Nat} (h : Fetc.size f ≤ n) : f.mani.dig.length ≤ n := by simp only [Fetc.size, Mani.size] at h; omega
theorem Fetc.size_segs {f : Fetc} {n : Nat} (h : Fetc.size f ≤ n) : f.segs.length ≤ n := by simp only [Fetc.size, Mani.size] at h; omega
theorem Fetc.size_seg {f : Fetc} {n : Nat} {x : Segm} (h : Fetc.size f ≤ n) (hx : x ∈ f.segs) : x.content.length ≤ n := by
  have h1 : x.content.length ≤ sumN Segm.size f.segs := sumN_mem Segm.size hx
  simp only [Fetc.size, Mani.size] at h; omega
abbrev Segm.cN (s : Segm) : List AV := [.sl true .non 1 (byts s.content)]
theorem wkN (l : List Segm) : WkL (l.map Segm.cN).flatten (l.map (Segm.c true)).flatten := by
  induction l with
  | nil => exact .nil
  | cons x l ih => simp only [List.map_cons, List.flatten_cons]; exact .top ih
end Go.Proofs.Ytoekfmkbkffciaa

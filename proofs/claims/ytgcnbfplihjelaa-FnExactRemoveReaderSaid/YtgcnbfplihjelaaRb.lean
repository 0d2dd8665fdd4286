/- Contracts of functions of the program: no statement of the seat is proved here. Each under the conditions that stand in it. -/
import Derived.Test.YtgcnbfplihjelaaRa
set_option linter.all false
namespace Go.Proofs.Ytgcnbfplihjelaa
open Go.Vs Go.Proofs
def sameR (who : Int) (n : Name) (o : Read) : Bool := (o.node == who) && decide (o.name = n)
def okR (r : Read) : Bool := inR r.node 0 5 && vName r.name && inR r.epoch 0 1000
def vRdG : List Read → List Read → Bool
  | _, [] => true
  | d, r :: l => (okR r && !d.any (sameR r.node r.name)) && vRdG (d ++ [r]) l
def vRds (l : List Read) : Bool := vRdG [] l && decide (l.length ≤ 8)
theorem vRds_no {l d r : List Read} {x : Read} (h : vRdG [] l = vRdG d (x :: r)) (hx : (okR x && !d.any (sameR x.node x.name)) = false) : vRds l = false := by
  simp only [vRds, h, vRdG, hx, Bool.false_and]
theorem takeD {α : Type} {c : α → List AV} {d r : List α} : (((d ++ r).map c).take ((d.length : Nat) : Int).toNat).drop (0 : Int).toNat = d.map c := by simp
end Go.Proofs.Ytgcnbfplihjelaa

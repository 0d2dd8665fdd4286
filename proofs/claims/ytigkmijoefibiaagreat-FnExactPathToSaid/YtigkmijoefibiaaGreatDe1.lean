/- Contracts of functions of the program: no statement of the seat is proved here. Each under the conditions that stand in it. -/
import Derived.Test.YtigkmijoefibiaaGreatDd
import Derived.Test.YtigkmijoefibiaaGreatSb
set_option linter.all false
namespace Go.Proofs.YtigkmijoefibiaaGreat
open Go.Vs Go.Proofs
def eccT (o : List Int) : Nat → Int
  | 0 => -1
  | j + 1 => ma (eccT o j) (gI o j)
def eccL (l : List Adve) (a : Int) : Int := eccT (distL l a) 6
end Go.Proofs.YtigkmijoefibiaaGreat

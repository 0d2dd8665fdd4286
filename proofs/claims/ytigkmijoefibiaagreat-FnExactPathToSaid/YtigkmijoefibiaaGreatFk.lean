/- Contracts of functions of the program: no statement of the seat is proved here. Each under the conditions that stand in it. -/
import Derived.Test.YtigkmijoefibiaaGreatFl
import Derived.Test.YtigkmijoefibiaaGreatFf
set_option linter.all false
namespace Go.Proofs.YtigkmijoefibiaaGreat
open Go.Vs Go.Proofs
end Go.Proofs.YtigkmijoefibiaaGreat

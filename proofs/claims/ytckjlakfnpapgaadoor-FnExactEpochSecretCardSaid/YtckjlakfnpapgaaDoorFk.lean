/- Contracts of functions of the program: no statement of the seat is proved here. Each under the conditions that stand in it. -/
import Derived.Test.YtckjlakfnpapgaaDoorFl
import Derived.Test.YtckjlakfnpapgaaDoorFf
set_option linter.all false
namespace Go.Proofs.YtckjlakfnpapgaaDoor
open Go.Vs Go.Proofs
end Go.Proofs.YtckjlakfnpapgaaDoor

/- Contracts of functions of the program: no statement of the seat is proved here. Each under the conditions that stand in it. -/
import Derived.Test.YtckjlakfnpapgaaGreatDoorFl
import Derived.Test.YtckjlakfnpapgaaGreatDoorFf
set_option linter.all false
namespace Go.Proofs.YtckjlakfnpapgaaGreatDoor
open Go.Vs Go.Proofs
end Go.Proofs.YtckjlakfnpapgaaGreatDoor

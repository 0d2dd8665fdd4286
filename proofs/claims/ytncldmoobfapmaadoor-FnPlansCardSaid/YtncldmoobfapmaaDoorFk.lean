/- Contracts of functions of the program: no statement of the seat is proved here. Each under the conditions that stand in it. -/
import Derived.Test.YtncldmoobfapmaaDoorFl
import Derived.Test.YtncldmoobfapmaaDoorFf
set_option linter.all false
namespace Go.Proofs.YtncldmoobfapmaaDoor
open Go.Vs Go.Proofs
end Go.Proofs.YtncldmoobfapmaaDoor

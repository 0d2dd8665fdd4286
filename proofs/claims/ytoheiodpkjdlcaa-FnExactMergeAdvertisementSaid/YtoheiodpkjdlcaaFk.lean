/- Contracts of functions of the program: no statement of the seat is proved here. Each under the conditions that stand in it. -/
import Derived.Test.YtoheiodpkjdlcaaFl
import Derived.Test.YtoheiodpkjdlcaaFf
set_option linter.all false
namespace Go.Proofs.Ytoheiodpkjdlcaa
open Go.Vs Go.Proofs
end Go.Proofs.Ytoheiodpkjdlcaa

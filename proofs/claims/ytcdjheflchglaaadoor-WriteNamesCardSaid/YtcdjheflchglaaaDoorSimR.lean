import Derived.Test.YtcdjheflchglaaaDoorSimPQ
import Derived.Deep.Slices
import Derived.DataReads
import Derived.Lib.LaidTab
set_option linter.unusedVariables false
namespace Go.Proofs.Sim
open Go Go.RowKit Go.ChangeShapes

end Go.Proofs.Sim

/- The package-level tables that a claim may read. -/
import Derived.Test.YtkdjpnfpmpchnaaDoorSimV
import Derived.Lib.ItoaNum
namespace Go.Proofs.Sim
def gtabs : List (Nat × List IV) := []
/-- The powers of ten. -/
def gvals : List (Nat × List Value) := [(3, Lib.pow10Tab.map fun z => .int .u64 z)]
end Go.Proofs.Sim

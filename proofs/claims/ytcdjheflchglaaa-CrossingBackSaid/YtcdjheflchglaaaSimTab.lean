import Derived.Test.YtcdjheflchglaaaSimV
/- The package-level tables that a claim may read: none. -/
namespace Go.Proofs.Sim
def gtabs : List (Nat × List IV) := []
def gvals : List (Nat × List Value) := []
end Go.Proofs.Sim

import Derived.Test.YtcdjheflchglaaaSimV
namespace Go.Proofs.Sim
def gtabs : List (Nat × List IV) := []
def gvals : List (Nat × List Value) := []
end Go.Proofs.Sim

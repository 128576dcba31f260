import Derived.Test.YtcdjheflchglaaaGreatDoorSimV
import Derived.Lib.ItoaNum
namespace Go.Proofs.Sim
def A7q:List (Nat × List IV):=[]
def A7r:List (Nat × List Value):=[(1,Lib.pow10Tab.map fun z=> .int .u64 z)]
end Go.Proofs.Sim

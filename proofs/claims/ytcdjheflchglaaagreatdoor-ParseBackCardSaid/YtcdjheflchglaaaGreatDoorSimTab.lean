import Derived.Test.YtcdjheflchglaaaGreatDoorSimV
import Derived.Lib.ItoaNum
namespace Go.Proofs.Sim
def A98:List (Nat × List IV):=[]
def A9t:List (Nat × List Value):=[(1,Lib.pow10Tab.map fun z=> .int .u64 z)]
end Go.Proofs.Sim

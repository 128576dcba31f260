import Derived.Test.YtcdjheflchglaaaDoorSimV
import Derived.Lib.ItoaNum
namespace Go.Proofs.Sim
def Ayb:List (Nat × List IV):=[]
def Ayc:List (Nat × List Value):=[(1,Lib.pow10Tab.map fun z=> .int .u64 z)]
end Go.Proofs.Sim

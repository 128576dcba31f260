import Derived.Test.YtaggabcajidnnaaGreatDoorSimV
import Derived.Lib.ItoaNum
namespace Go.Proofs.Sim
def Bi9:List (Nat × List IV):=[]
def Bja:List (Nat × List Value):=[(1,Lib.pow10Tab.map fun z=> .int .u64 z)]
end Go.Proofs.Sim

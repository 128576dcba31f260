import Derived.Test.YtaggabcajidnnaaGreatDoorSimV
import Derived.Lib.ItoaNum
namespace Go.Proofs.Sim
def Btz:List (Nat × List IV):=[]
def Bt0:List (Nat × List Value):=[(1,Lib.pow10Tab.map fun z=> .int .u64 z)]
end Go.Proofs.Sim

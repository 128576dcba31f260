import Derived.Test.YtaggabcajidnnaaGreatDoorSimV
import Derived.Lib.ItoaNum
namespace Go.Proofs.Sim
def Bpy:List (Nat × List IV):=[]
def Bpz:List (Nat × List Value):=[(1,Lib.pow10Tab.map fun z=> .int .u64 z)]
end Go.Proofs.Sim

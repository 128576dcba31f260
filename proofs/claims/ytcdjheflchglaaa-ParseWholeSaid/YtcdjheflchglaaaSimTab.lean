import Derived.Test.YtcdjheflchglaaaSimV
namespace Go.Proofs.Sim
def A97:List (Nat × List IV):=[]
def A9p:List (Nat × List Value):=[]
end Go.Proofs.Sim

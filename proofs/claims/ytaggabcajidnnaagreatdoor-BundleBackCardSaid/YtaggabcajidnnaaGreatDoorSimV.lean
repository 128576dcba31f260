import Derived.Calls
import Derived.KernelRfl
namespace Go.Proofs.Sim
open Go
inductive SK where |nil |tight |any
 deriving DecidableEq,Inhabited
inductive IV where
 |bool (b:Bool) |int (k:IntKind) (n:Int) |str (s:List UInt8)
 |sl (k:SK) (sz:Nat) (rows:List (List IV))
 |agg (cells:List IV) |raw (v:Value) |ifc (isNil:Bool)
instance:Inhabited IV:=⟨.bool false⟩
def glk:List (Nat × List IV)→Nat→Option (List IV)
 | [],_=>none
 |(m,l)::r,n=>match Nat.beq m n with |true=>some l |false=>glk r n
def A7o:List (Nat × List Value)→Nat→Option (List Value)
 | [],_=>none
 |(m,l)::r,n=>match Nat.beq m n with |true=>some l |false=>A7o r n
end Go.Proofs.Sim

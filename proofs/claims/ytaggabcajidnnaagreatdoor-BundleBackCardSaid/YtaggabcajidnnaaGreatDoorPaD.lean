import Derived.Test.YtaggabcajidnnaaGreatDoorPaB
set_option maxRecDepth 100000
namespace Go.Proofs.Sim.Se
open Go Go.Proofs Go.Proofs.Sim Go.Proofs.Sim.Va Go.RowKit Go.Proofs.Sim.Pa
section
variable (s:List UInt8) (hs:s.length≤1000000000)
include hs
end
section
variable (s:List UInt8) (hs:s.length≤1000000000)
include hs
end
end Go.Proofs.Sim.Se
set_option maxRecDepth 100000
namespace Go.Proofs.Sim.Se
open Go Go.Proofs Go.Proofs.Sim Go.Proofs.Sim.Va Go.RowKit Go.Proofs.Sim.Pa
theorem Bhu(s:List UInt8)(a:Int)(h:¬Dl s a<s.length):Ak s a=⟨0,0,0,[],Dl s a,Dl s a⟩:=by
 unfold Ak;rw [List.drop_eq_nil_of_le (by omega)]
theorem Bhw(s:List UInt8)(a:Int)(h:Dl s a<s.length):Ak s a=J2 s[Dl s a] (s.drop (Dl s a+1)) (Dl s a):=by
 unfold Ak;rw [I9 s _ h]
section
variable (s:List UInt8) (hs:s.length≤1000000000)
include hs
end
end Go.Proofs.Sim.Se

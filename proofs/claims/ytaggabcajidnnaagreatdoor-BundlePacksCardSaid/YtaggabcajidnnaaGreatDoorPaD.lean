import Derived.Test.YtaggabcajidnnaaGreatDoorPaB
set_option maxRecDepth 100000
namespace Go.Proofs.Sim.Se
open Go Go.Proofs Go.Proofs.Sim Go.Proofs.Sim.Va Go.RowKit Go.Proofs.Sim.Pa
section
variable (s:List UInt8) (hs:s.length≤1000000000)
include hs
end
section
variable (s:List UInt8) (hs:s.length≤1000000000)
include hs
end
end Go.Proofs.Sim.Se
set_option maxRecDepth 100000
namespace Go.Proofs.Sim.Se
open Go Go.Proofs Go.Proofs.Sim Go.Proofs.Sim.Va Go.RowKit Go.Proofs.Sim.Pa
theorem Bop(s:List UInt8)(a:Int)(h:¬Ei s a<s.length):Ao s a=⟨0,0,0,[],Ei s a,Ei s a⟩:=by
 unfold Ao;rw [List.drop_eq_nil_of_le (by omega)]
theorem Bor(s:List UInt8)(a:Int)(h:Ei s a<s.length):Ao s a=Kw s[Ei s a] (s.drop (Ei s a+1)) (Ei s a):=by
 unfold Ao;rw [J2 s _ h]
section
variable (s:List UInt8) (hs:s.length≤1000000000)
include hs
end
end Go.Proofs.Sim.Se

import Derived.Test.YtcdjheflchglaaaGreatDoorDgL
namespace Go.Proofs.Sim.Se
open Go
theorem Ajn(u m:Nat)(h:u<10 ^ (m+1)):Lib.nDigits u≤m+1:=by
 induction m generalizing u with
 |zero=>rw [Lib.nDigits_small (by simpa using h)];omega
 |succ m ih=>
  by_cases h10:u<10
  ·rw [Lib.nDigits_small h10];omega
  ·rw [Lib.nDigits_big h10]
   have:=ih (u / 10) (by rw [Nat.pow_succ]at h;omega)
   omega
theorem Azn(u:Nat)(h:u≤9223372036854775808):(Lib.decDigits u).length≤19:=by
 rw [Lib.decDigits_length];exact Ajn u 18 (by omega)
theorem Aji(n:Int)(h0: -9223372036854775808≤n)(h1:n≤9223372036854775807):(Lib.itoa n).length≤20:=by
 unfold Lib.itoa
 split
 ·have:=Azn n.natAbs (by omega);simp;omega
 ·have:=Azn n.toNat (by omega);omega
theorem A44(u:Nat)(hu:u≤2147483647):Asa (Lib.decDigits u)=((u:Int),0)∧Gc (Lib.decDigits u)=((u:Int),0):=by
 have hd:=Ane u
 have hv:=Awy u
 have h0:=Ari u
 have hl:(Lib.decDigits u).length≤10:=by rw [Lib.decDigits_length];exact Ajn u 9 (by omega)
 have hfix:=Ao4 _ h0 hd
 rw [hv,if_pos hu]at hfix
 have hlead:((Lib.decDigits u).getD 0 0).toNat=48→Lib.decDigits u=[48]:=by
  intro h
  rcases Nat.eq_zero_or_pos u with hz |hz
  ·subst hz;rw [Lib.decDigits_one (by omega)];rfl
  ·exfalso
   cases hx:Lib.decDigits u with
   |nil=>exact h0 hx
   |cons c r=>rw [hx]at h;exact Awu u hz c r hx h
 generalize Lib.decDigits u=s at*
 cases s with
 |nil=>exact absurd rfl h0
 |cons c r=>
  have hc:=(Qh c).1 (hd c (by simp))
  have e1:Ze (c::r)=c::r:=by simp [Ze];omega
  have e2:Oh (c::r)=c::r:=by simp [Oh];omega
  have e3:isM (c::r)=false:=by simp [isM];omega
  have e4:Gc (c::r)=((u:Int),0):=by rw [Gc,e2,e3,hfix];rfl
  refine⟨?_,e4⟩
  have e5:Awi (c::r)=false:=by
   have:=(Ai6 _).2 hd
   simp only [Awi,e1]
   simp [this]
   simp at hl;omega
  rw [Asa,if_neg (by rw [e5];decide),e1,if_neg (fun h=>h.2 (hlead h.1)),Ayx,e1,if_neg (fun h=>by omega),e4]
theorem A43(u:Nat)(h1:1≤u)(hu:u≤2147483647):Asa (45::Lib.decDigits u)=(-(u:Int),0)∧Gc (45::Lib.decDigits u)=(-(u:Int),0):=by
 have hd:=Ane u
 have hv:=Awy u
 have h0:=Ari u
 have hl:(Lib.decDigits u).length≤10:=by rw [Lib.decDigits_length];exact Ajn u 9 (by omega)
 have hfix:=Ao4 _ h0 hd
 rw [hv,if_pos hu]at hfix
 have hlead:((Lib.decDigits u).getD 0 0).toNat≠48:=by
  intro h
  cases hx:Lib.decDigits u with
  |nil=>exact h0 hx
  |cons c r=>rw [hx]at h;exact Awu u (by omega) c r hx h
 generalize Lib.decDigits u=s at*
 have e1:Ze (45::s)=s:=rfl
 have e2:Oh (45::s)=s:=rfl
 have e3:isM (45::s)=true:=rfl
 have e4:Gc (45::s)=(-(u:Int),0):=by rw [Gc,e2,e3,hfix];rfl
 refine⟨?_,e4⟩
 have e5:Awi (45::s)=false:=by
  have:=(Ai6 _).2 hd
  simp only [Awi,e1]
  simp [this,h0]
  omega
 rw [Asa,if_neg (by rw [e5];decide),e1,if_neg (fun h=>hlead h.1),Ayx,e1,if_neg (fun h=>by omega),e4]
theorem back(x:Int)(h0: -2147483647≤x)(h1:x≤2147483647):Asa (Lib.itoa x)=(x,0)∧Gc (Lib.itoa x)=(x,0):=by
 by_cases hx:x<0
 ·obtain⟨u,rfl⟩:∃u:Nat,x= -(u:Int):=⟨x.natAbs,by omega⟩
  rw [Lib.itoa_neg u (by omega)]
  exact A43 u (by omega) (by omega)
 ·obtain⟨u,rfl⟩:∃u:Nat,x=(u:Int):=⟨x.toNat,by omega⟩
  rw [Lib.itoa_nonneg u]
  exact A44 u (by omega)
end Go.Proofs.Sim.Se

import Derived.Test.YtaggabcajidnnaaGreatDoorDgL
namespace Go.Proofs.Sim.Se
open Go
theorem Apo(u m:Nat)(h:u<10 ^ (m+1)):Lib.nDigits u≤m+1:=by
 induction m generalizing u with
 |zero=>rw [Lib.nDigits_small (by simpa using h)];omega
 |succ m ih=>
  by_cases h10:u<10
  ·rw [Lib.nDigits_small h10];omega
  ·rw [Lib.nDigits_big h10]
   have:=ih (u / 10) (by rw [Nat.pow_succ]at h;omega)
   omega
theorem A98(u:Nat)(h:u≤9223372036854775808):(Lib.decDigits u).length≤19:=by
 rw [Lib.decDigits_length];exact Apo u 18 (by omega)
theorem Wv(n:Int)(h0: -9223372036854775808≤n)(h1:n≤9223372036854775807):(Lib.itoa n).length≤20:=by
 unfold Lib.itoa
 split
 ·have:=A98 n.natAbs (by omega);simp;omega
 ·have:=A98 n.toNat (by omega);omega
theorem Bgj(u:Nat)(hu:u≤2147483647):A0w (Lib.decDigits u)=((u:Int),0)∧Gb (Lib.decDigits u)=((u:Int),0):=by
 have hd:=Auc u
 have hv:=A67 u
 have h0:=Azy u
 have hl:(Lib.decDigits u).length≤10:=by rw [Lib.decDigits_length];exact Apo u 9 (by omega)
 have hfix:=Av7 _ h0 hd
 rw [hv,if_pos hu]at hfix
 have hlead:((Lib.decDigits u).getD 0 0).toNat=48→Lib.decDigits u=[48]:=by
  intro h
  rcases Nat.eq_zero_or_pos u with hz |hz
  ·subst hz;rw [Lib.decDigits_one (by omega)];rfl
  ·exfalso
   cases hx:Lib.decDigits u with
   |nil=>exact h0 hx
   |cons c r=>rw [hx]at h;exact A63 u hz c r hx h
 generalize Lib.decDigits u=s at*
 cases s with
 |nil=>exact absurd rfl h0
 |cons c r=>
  have hc:=(Si c).1 (hd c (by simp))
  have e1:Acu (c::r)=c::r:=by simp [Acu];omega
  have e2:Qa (c::r)=c::r:=by simp [Qa];omega
  have e3:isM (c::r)=false:=by simp [isM];omega
  have e4:Gb (c::r)=((u:Int),0):=by rw [Gb,e2,e3,hfix];rfl
  refine⟨?_,e4⟩
  have e5:A6p (c::r)=false:=by
   have:=(Ao8 _).2 hd
   simp only [A6p,e1]
   simp [this]
   simp at hl;omega
  rw [A0w,if_neg (by rw [e5];decide),e1,if_neg (fun h=>h.2 (hlead h.1)),A9c,e1,if_neg (fun h=>by omega),e4]
theorem Bgi(u:Nat)(h1:1≤u)(hu:u≤2147483647):A0w (45::Lib.decDigits u)=(-(u:Int),0)∧Gb (45::Lib.decDigits u)=(-(u:Int),0):=by
 have hd:=Auc u
 have hv:=A67 u
 have h0:=Azy u
 have hl:(Lib.decDigits u).length≤10:=by rw [Lib.decDigits_length];exact Apo u 9 (by omega)
 have hfix:=Av7 _ h0 hd
 rw [hv,if_pos hu]at hfix
 have hlead:((Lib.decDigits u).getD 0 0).toNat≠48:=by
  intro h
  cases hx:Lib.decDigits u with
  |nil=>exact h0 hx
  |cons c r=>rw [hx]at h;exact A63 u (by omega) c r hx h
 generalize Lib.decDigits u=s at*
 have e1:Acu (45::s)=s:=rfl
 have e2:Qa (45::s)=s:=rfl
 have e3:isM (45::s)=true:=rfl
 have e4:Gb (45::s)=(-(u:Int),0):=by rw [Gb,e2,e3,hfix];rfl
 refine⟨?_,e4⟩
 have e5:A6p (45::s)=false:=by
  have:=(Ao8 _).2 hd
  simp only [A6p,e1]
  simp [this,h0]
  omega
 rw [A0w,if_neg (by rw [e5];decide),e1,if_neg (fun h=>hlead h.1),A9c,e1,if_neg (fun h=>by omega),e4]
theorem back(x:Int)(h0: -2147483647≤x)(h1:x≤2147483647):A0w (Lib.itoa x)=(x,0)∧Gb (Lib.itoa x)=(x,0):=by
 by_cases hx:x<0
 ·obtain⟨u,rfl⟩:∃u:Nat,x= -(u:Int):=⟨x.natAbs,by omega⟩
  rw [Lib.itoa_neg u (by omega)]
  exact Bgi u (by omega) (by omega)
 ·obtain⟨u,rfl⟩:∃u:Nat,x=(u:Int):=⟨x.toNat,by omega⟩
  rw [Lib.itoa_nonneg u]
  exact Bgj u (by omega)
end Go.Proofs.Sim.Se

import Derived.Test.YtaggabcajidnnaaGreatDoorDgL
namespace Go.Proofs.Sim.Se
open Go
theorem As5(u m:Nat)(h:u<10 ^ (m+1)):Lib.nDigits u≤m+1:=by
 induction m generalizing u with
 |zero=>rw [Lib.nDigits_small (by simpa using h)];omega
 |succ m ih=>
  by_cases h10:u<10
  ·rw [Lib.nDigits_small h10];omega
  ·rw [Lib.nDigits_big h10]
   have:=ih (u / 10) (by rw [Nat.pow_succ]at h;omega)
   omega
theorem A72(u:Nat)(h:u≤9223372036854775808):(Lib.decDigits u).length≤19:=by
 rw [Lib.decDigits_length];exact As5 u 18 (by omega)
theorem Pp(n:Int)(h0: -9223372036854775808≤n)(h1:n≤9223372036854775807):(Lib.itoa n).length≤20:=by
 unfold Lib.itoa
 split
 ·have:=A72 n.natAbs (by omega);simp;omega
 ·have:=A72 n.toNat (by omega);omega
theorem Bnb(u:Nat)(hu:u≤2147483647):A56 (Lib.decDigits u)=((u:Int),0)∧Hd (Lib.decDigits u)=((u:Int),0):=by
 have hd:=Ax0 u
 have hv:=Bc0 u
 have h0:=A5e u
 have hl:(Lib.decDigits u).length≤10:=by rw [Lib.decDigits_length];exact As5 u 9 (by omega)
 have hfix:=A0e _ h0 hd
 rw [hv,if_pos hu]at hfix
 have hlead:((Lib.decDigits u).getD 0 0).toNat=48→Lib.decDigits u=[48]:=by
  intro h
  rcases Nat.eq_zero_or_pos u with hz |hz
  ·subst hz;rw [Lib.decDigits_one (by omega)];rfl
  ·exfalso
   cases hx:Lib.decDigits u with
   |nil=>exact h0 hx
   |cons c r=>rw [hx]at h;exact Bcw u hz c r hx h
 generalize Lib.decDigits u=s at*
 cases s with
 |nil=>exact absurd rfl h0
 |cons c r=>
  have hc:=(Uj c).1 (hd c (by simp))
  have e1:Adw (c::r)=c::r:=by simp [Adw];omega
  have e2:Ra (c::r)=c::r:=by simp [Ra];omega
  have e3:isM (c::r)=false:=by simp [isM];omega
  have e4:Hd (c::r)=((u:Int),0):=by rw [Hd,e2,e3,hfix];rfl
  refine⟨?_,e4⟩
  have e5:Bci (c::r)=false:=by
   have:=(Asi _).2 hd
   simp only [Bci,e1]
   simp [this]
   simp at hl;omega
  rw [A56,if_neg (by rw [e5];decide),e1,if_neg (fun h=>h.2 (hlead h.1)),Bfl,e1,if_neg (fun h=>by omega),e4]
theorem Bna(u:Nat)(h1:1≤u)(hu:u≤2147483647):A56 (45::Lib.decDigits u)=(-(u:Int),0)∧Hd (45::Lib.decDigits u)=(-(u:Int),0):=by
 have hd:=Ax0 u
 have hv:=Bc0 u
 have h0:=A5e u
 have hl:(Lib.decDigits u).length≤10:=by rw [Lib.decDigits_length];exact As5 u 9 (by omega)
 have hfix:=A0e _ h0 hd
 rw [hv,if_pos hu]at hfix
 have hlead:((Lib.decDigits u).getD 0 0).toNat≠48:=by
  intro h
  cases hx:Lib.decDigits u with
  |nil=>exact h0 hx
  |cons c r=>rw [hx]at h;exact Bcw u (by omega) c r hx h
 generalize Lib.decDigits u=s at*
 have e1:Adw (45::s)=s:=rfl
 have e2:Ra (45::s)=s:=rfl
 have e3:isM (45::s)=true:=rfl
 have e4:Hd (45::s)=(-(u:Int),0):=by rw [Hd,e2,e3,hfix];rfl
 refine⟨?_,e4⟩
 have e5:Bci (45::s)=false:=by
  have:=(Asi _).2 hd
  simp only [Bci,e1]
  simp [this,h0]
  omega
 rw [A56,if_neg (by rw [e5];decide),e1,if_neg (fun h=>hlead h.1),Bfl,e1,if_neg (fun h=>by omega),e4]
theorem back(x:Int)(h0: -2147483647≤x)(h1:x≤2147483647):A56 (Lib.itoa x)=(x,0)∧Hd (Lib.itoa x)=(x,0):=by
 by_cases hx:x<0
 ·obtain⟨u,rfl⟩:∃u:Nat,x= -(u:Int):=⟨x.natAbs,by omega⟩
  rw [Lib.itoa_neg u (by omega)]
  exact Bna u (by omega) (by omega)
 ·obtain⟨u,rfl⟩:∃u:Nat,x=(u:Int):=⟨x.toNat,by omega⟩
  rw [Lib.itoa_nonneg u]
  exact Bnb u (by omega)
end Go.Proofs.Sim.Se

import Derived.Test.YtaggabcajidnnaaGreatDoorVsA
namespace Go.Proofs.Sim.Se
open Go Go.Proofs Go.Proofs.Sim Go.Proofs.Sim.Va Go.Proofs.Sim.St
theorem Al3 {l:List Pr} (h:C8 l):Ce l=l:=(Ai5 ordK h (Fib.refl l)).symm
def Bfa(f:Nat):Prop:=∀(P A B S:List Pr) (a m b:Nat),A.length+B.length≤f→a=P.length→m=a+A.length→b=m+B.length→0<A.length→0<B.length→C8 A→C8 B→Sm (P++A++B++S)→
    Call E0.P Dl [.own (.arg 0), .imm (.int .i64 a), .imm (.int .i64 m), .imm (.int .i64 b), .fn Ak []] [(.arg 0, .arr 1 true 7 (Bf (P++A++B++S)))] (Is (.tup []) [(.arg 0, .arr 1 true 7 (Bf (P++Ce (A++B)++S)))])
theorem and_true {p q:Prop} [Decidable p] [Decidable q] (h:(bif decide p then decide q else false)=true):p∧q:=by
 by_cases hp:p<;>simp [hp]at h ⊢
 exact h
theorem and_false {p q:Prop} [Decidable p] [Decidable q] (h:(bif decide p then decide q else false)=false):¬p∨¬q:=by
 by_cases hp:p<;>simp [hp]at h ⊢
 exact h
theorem Btd(f:Nat)(ih:Bfa f)(P A1 A2 B1 B2 S:List Pr)(a m b mid n s:Nat)(Q:Ex→St→Prop)(ha:a=P.length)(hs:s=a+A1.length)(hm:m=s+A2.length)(hmid:mid=s+B1.length)(hb:b=m+B1.length+B2.length)(hn:n=mid+m)
 (hf1:A1.length+B1.length≤f)(hf2:A2.length+B2.length≤f)(sA:C8 (A1++A2))(sB:C8 (B1++B2))(h1:∀x∈A2,∀y∈B1,bl y.1 x.1=true)(h2:∀x∈A1,∀y∈B2,bl y.1 x.1=false)(hS:Sm (P++A1++A2++B1++B2++S))
 (hq:Q .normal ⟨[],[(.arg 0, .arr 1 true 7 (Bf (P++Ce (A1++A2++(B1++B2))++S)))]⟩):
 Fz a m b mid n s (Bf (P++A1++A2++B1++B2++S)) Q:=by
 have hS':P.length+A1.length+A2.length+B1.length+B2.length+S.length≤4611686018427387904:=by simp [Sm]at hS;omega
 obtain⟨sA1,sA2,_⟩:=J5.1 sA
 obtain⟨sB1,sB2,_⟩:=J5.1 sB
 have hfin:P++Ce (A1++A2++(B1++B2))++S=P++Ce (A1++B1)++Ce (A2++B2)++S:=by
  have e:Ce (A1++B1)++Ce (A2++B2)=Ce (A1++A2++(B1++B2)):=Bqh ordK sA sB h1 h2
  rw [←e];simp
 rw [hfin]at hq
 have w:IntKind.i64.wrap ((n:Int) - (s:Int))=((mid+A2.length:Nat):Int):=by rw [Av _ (by omega) (by omega)];omega
 have last:∀Q:Ex→St→Prop,Q .normal ⟨[],[(.arg 0, .arr 1 true 7 (Bf (P++Ce (A1++B1)++Ce (A2++B2)++S)))]⟩→F4 b mid ((mid+A2.length:Nat):Int) (Bf (P++Ce (A1++B1)++A2++B2++S)) Q:=by
  intro Q hq
  refine Yz _ _ _ _ _ (Let.intro ⟨fun h=> ?_,fun h=> ?_⟩)
  ·obtain⟨c1,c2⟩:=and_true h
   refine Call.use (ih (P++Ce (A1++B1)) A2 B2 S mid (mid+A2.length) b hf2 (by simp [Gy ordK];omega) rfl (by omega) (by omega) (by omega) sA2 sB2 (by simp [Sm,Gy ordK];omega)) ⟨⟨rfl,rfl⟩, ?_⟩
   rw [Jr]
   exact hq
  ·have hc:=and_false h
   have:Ce (A2++B2)=A2++B2:=by
    rcases hc with hc |hc
    ·have:A2=[]:=List.eq_nil_of_length_eq_zero (by omega)
     subst this;simpa using Al3 sB2
    ·have:B2=[]:=List.eq_nil_of_length_eq_zero (by omega)
     subst this;simpa using Al3 sA2
   rw [this]at hq
   simpa using hq
 have middle:∀Q:Ex→St→Prop,Q .normal ⟨[],[(.arg 0, .arr 1 true 7 (Bf (P++Ce (A1++B1)++Ce (A2++B2)++S)))]⟩→F3 a b mid s ((mid+A2.length:Nat):Int) (Bf (P++A1++B1++A2++B2++S)) Q:=by
  intro Q hq
  refine Yy _ _ _ _ _ _ _ (Let.intro ⟨fun h=> ?_,fun h=> ?_⟩)
  ·obtain⟨c1,c2⟩:=and_true h
   have:=ih P A1 B1 (A2++B2++S) a s mid hf1 ha (by omega) (by omega) (by omega) (by omega) sA1 sB1 (by simp [Sm];omega)
   rw [show P++A1++B1++A2++B2++S=P++A1++B1++(A2++B2++S)by simp]
   refine Call.use this ⟨⟨rfl,rfl⟩, ?_⟩
   rw [Jr,show P++Ce (A1++B1)++(A2++B2++S)=P++Ce (A1++B1)++A2++B2++S by simp]
   exact last _ (Cm _ _ hq)
  ·have hc:=and_false h
   have:Ce (A1++B1)=A1++B1:=by
    rcases hc with hc |hc
    ·have:A1=[]:=List.eq_nil_of_length_eq_zero (by omega)
     subst this;simpa using Al3 sB1
    ·have:B1=[]:=List.eq_nil_of_length_eq_zero (by omega)
     subst this;simpa using Al3 sA1
   have l:=last (Bg Q) (Cm _ _ hq)
   rw [this]at l
   simpa using l
 refine Yx _ _ _ _ _ _ _ _ ?_
 rw [w]
 refine Let.intro ⟨fun h=> ?_,fun h=> ?_⟩
 ·obtain⟨c1,c2⟩:=and_true h
  have:=Bzs (P++A1) A2 B1 (B2++S) s m (mid+A2.length) (by omega) (by omega) (by simp;omega) (by omega) (by omega) (by simp [Sm];omega)
  rw [show P++A1++A2++B1++B2++S=P++A1++A2++B1++(B2++S)by simp]
  refine Call.use this ⟨⟨rfl,rfl⟩, ?_⟩
  rw [Jr,show P++A1++B1++A2++(B2++S)=P++A1++B1++A2++B2++S by simp]
  exact middle _ (Cm _ _ hq)
 ·have hc:=and_false h
  have e:P++A1++A2++B1++B2++S=P++A1++B1++A2++B2++S:=by
   rcases hc with hc |hc
   ·have:A2=[]:=List.eq_nil_of_length_eq_zero (by omega)
    subst this;simp
   ·have:B1=[]:=List.eq_nil_of_length_eq_zero (by omega)
    subst this;simp
  rw [e]
  exact middle _ (Cm _ _ hq)
theorem Bx7(P A T:List Pr)(i:Nat)(hi:i<A.length):Bo (P++(A++T)) (P.length+i)=Bo A i:=by
 rw [Ay8,if_neg (by omega),show P.length+i - P.length=i by omega,Ay8,if_pos hi]
theorem Bx8(P A B T:List Pr)(i:Nat)(hi:i<B.length):Bo (P++(A++(B++T))) (P.length+A.length+i)=Bo B i:=by
 rw [Ay8,if_neg (by omega),Ay8,if_neg (by omega),Ay8,if_pos (by omega)]
 congr 1;omega
theorem take_at {l:List Pr} {n:Nat} {x:Pr} (h:x∈l.take n):∃i,i<n∧i<l.length∧Bo l i=x:=by
 obtain⟨i,hi,hx⟩:=Bhw h
 rw [List.length_take]at hi
 refine⟨i,by omega,by omega, ?_⟩
 rw [←hx]
 simp [Bo,List.getD_eq_getElem?_getD,show i<n by omega]
theorem drop_at {l:List Pr} {n:Nat} {x:Pr} (h:x∈l.drop n):∃i,n≤i∧i<l.length∧Bo l i=x:=by
 obtain⟨i,hi,hx⟩:=Bhw h
 rw [List.length_drop]at hi
 refine⟨n+i,by omega,by omega, ?_⟩
 rw [←hx]
 simp [Bo,List.getD_eq_getElem?_getD,List.getElem?_drop]
theorem Bws(f:Nat)(ih:Bfa f)(P A B S:List Pr)(a m b mid:Nat)(Q:Ex→St→Prop)(ha:a=P.length)(hm:m=a+A.length)(hb:b=m+B.length)(hA:0<A.length)(hB:0<B.length)
 (hf:A.length+B.length≤f+1)(hm1:2*mid≤a+b)(hm2:a+b≤2*mid+1)(sA:C8 A)(sB:C8 B)(hS:Sm (P++A++B++S))(hR:Q .normal ⟨[],[(.arg 0, .arr 1 true 7 (Bf (P++Ce (A++B)++S)))]⟩)
 (t:Nat)(t1:a≤t)(t2:t≤m)(t3:t≤mid)(t4:mid+m - t≤b)
 (c1:∀i,i<A.length→a+i<t→∀j,j<B.length→mid+m - t≤m+j→bl (Bo B j).1 (Bo A i).1=false)
 (c2:∀i,i<A.length→t≤a+i→∀j,j<B.length→m+j<mid+m - t→bl (Bo B j).1 (Bo A i).1=true):
 Fz a m b mid ((mid+m:Nat):Int) t (Bf (P++A++B++S)) Q:=by
 have hS':P.length+A.length+B.length+S.length≤4611686018427387904:=by simp [Sm]at hS;omega
 have eA:A.take (t - a)++A.drop (t - a)=A:=List.take_append_drop _ _
 have eB:B.take (mid - t)++B.drop (mid - t)=B:=List.take_append_drop _ _
 have l1:(A.take (t - a)).length=t - a:=by rw [List.length_take];omega
 have l2:(A.drop (t - a)).length=m - t:=by rw [List.length_drop];omega
 have l3:(B.take (mid - t)).length=mid - t:=by rw [List.length_take];omega
 have l4:(B.drop (mid - t)).length=b - m - (mid - t):=by rw [List.length_drop];omega
 have h1:∀x∈A.drop (t - a),∀y∈B.take (mid - t),bl y.1 x.1=true:=by
  intro x hx y hy
  obtain⟨i,hi,hiA,rfl⟩:=drop_at hx
  obtain⟨j,hj,hjB,rfl⟩:=take_at hy
  exact c2 i hiA (by omega) j hjB (by omega)
 have h2:∀x∈A.take (t - a),∀y∈B.drop (mid - t),bl y.1 x.1=false:=by
  intro x hx y hy
  obtain⟨i,hi,hiA,rfl⟩:=take_at hx
  obtain⟨j,hj,hjB,rfl⟩:=drop_at hy
  exact c1 i hiA (by omega) j hjB (by omega)
 generalize A.take (t - a)=A1 at*
 generalize A.drop (t - a)=A2 at*
 generalize B.take (mid - t)=B1 at*
 generalize B.drop (mid - t)=B2 at*
 subst eA
 subst eB
 have e:P++(A1++A2)++(B1++B2)++S=P++A1++A2++B1++B2++S:=by simp
 rw [e]at hS ⊢
 exact Btd f ih P A1 A2 B1 B2 S a m b mid (mid+m) t _ ha (by omega) (by omega) (by omega) (by omega) rfl (by omega) (by omega) sA sB h1 h2 hS hR
theorem Bwt(f:Nat)(ih:Bfa f)(P A B S:List Pr)(a m b mid:Nat)(Q:Ex→St→Prop)(ha:a=P.length)(hm:m=a+A.length)(hb:b=m+B.length)(hA:0<A.length)(hB:0<B.length)(_hA1:A.length≠1)(_hB1:B.length≠1)
 (hf:A.length+B.length≤f+1)(hm1:2*mid≤a+b)(hm2:a+b≤2*mid+1)(sA:C8 A)(sB:C8 B)(hS:Sm (P++A++B++S))(s0 r0:Nat)(hR:Q .normal ⟨[],[(.arg 0, .arr 1 true 7 (Bf (P++Ce (A++B)++S)))]⟩)
 (k1:s0≤r0)(k2:a≤s0)(k3:r0≤m)(k4:r0≤mid)(k5:mid+m - s0≤b)(k6:s0=a∨mid+m - s0=b)(k7:r0=m∨r0=mid):
 Cz a m b mid ((mid+m:Nat):Int) s0 r0 ((mid+m - 1:Nat):Int) (Bf (P++A++B++S)) (Jf Q):=by
 have hS':P.length+A.length+B.length+S.length≤4611686018427387904:=by simp [Sm]at hS;omega
 have hL:P++A++B++S=P++(A++(B++S)):=by simp
 have hlen:(P++A++B++S).length=P.length+A.length+B.length+S.length:=by simp;omega
 have atA':∀i,i<A.length→Bo (P++A++B++S) (a+i)=Bo A i:=fun i hi=>by
  rw [hL,ha];exact Bx7 P A (B++S) i hi
 have atB':∀i,i<B.length→Bo (P++A++B++S) (m+i)=Bo B i:=fun i hi=>by
  rw [hL,show m+i=P.length+A.length+i by omega];exact Bx8 P A B S i hi
 refine Bzl a m b mid (mid+m) (mid+m - 1) _ _ hS (r0 - s0) s0 r0 (by omega) k1 (by omega) (by omega) (fun c hc1 hc2=>⟨by omega,by omega⟩) fun t h1 h2 h3 h4=> ?_
 refine Aap _ _ _ _ _ _ _ _ ?_
 have cc:t≤m∧t≤mid∧mid+m - t≤b∧a≤t:=by omega
 refine Bws f ih P A B S a m b mid _ ha hm hb hA hB hf hm1 hm2 sA sB hS (Cm _ _ hR) t cc.2.2.2 cc.1 cc.2.1 cc.2.2.1 (fun i hi hit j hj hjt=> ?_) (fun i hi hit j hj hjt=> ?_)
 ·by_cases hst:s0<t
  ·have h3:=h3 hst
   have x1:mid+m - 1 - (t - 1)=m+(mid - t):=by omega
   have x2:t - 1=a+(t - 1 - a):=by omega
   rw [x1]at h3
   rw [x2,atA' _ (by omega),atB' _ (by omega)]at h3
   exact ordK.le_tr (sorted_at sA i (t - 1 - a) (by omega) (by omega)) (ordK.le_tr h3 (sorted_at sB (mid - t) j (by omega) hj))
  ·omega
 ·by_cases htr:t<r0
  ·have h4:=h4 htr
   have x1:mid+m - 1 - t=m+(mid - 1 - t):=by omega
   obtain⟨q,hq⟩:∃q,t=a+q:=⟨t - a,by omega⟩
   rw [x1,atB' _ (by omega)]at h4
   rw [hq,atA' q (by omega)]at h4
   rw [←hq]at h4
   exact Bmz (sorted_at sB j (mid - 1 - t) (by omega) (by omega)) (Bt7 h4 (sorted_at sA q i (by omega) hi))
  ·omega
theorem Btw:∀f,Bfa f:=by
 intro f
 induction f with
 |zero=>intro P A B S a m b hf ha hm hb hA hB;omega
 |succ f ih=>
  intro P A B S a m b hf ha hm hb hA hB sA sB hS
  have hS':P.length+A.length+B.length+S.length≤4611686018427387904:=by simp [Sm]at hS;omega
  have hL:P++A++B++S=P++(A++(B++S)):=by simp
  have atA:=fun i hi=>Bx7 P A (B++S) i hi
  have atB:=fun i hi=>Bx8 P A B S i hi
  have hlen:(P++A++B++S).length=P.length+A.length+B.length+S.length:=by simp;omega
  have w1:IntKind.i64.wrap ((m:Int) - (a:Int))=((A.length:Nat):Int):=by rw [Av _ (by omega) (by omega)];omega
  have w2:IntKind.i64.wrap ((b:Int) - (m:Int))=((B.length:Nat):Int):=by rw [Av _ (by omega) (by omega)];omega
  refine Ach _ _ _ _ _ ?_
  rw [w1]
  refine⟨fun h=> ?_,fun hA1=> ?_⟩
  ·
   have hA1:A.length=1:=by have:=of_decide_eq_true h;omega
   obtain⟨x,rfl⟩:∃x,A=[x]:=by
    match A,hA1 with
    | [x],_=>exact⟨x,rfl⟩
   have hx:Bo (P++[x]++B++S) a=x:=by
    have:=atA 0 (by simp)
    rw [←hL,Nat.add_zero, ←ha]at this
    rw [this];rfl
   simp only [List.length_singleton]at hm hlen
   have atB':∀i,i<B.length→Bo (P++[x]++B++S) (m+i)=Bo B i:=fun i hi=>by
    have:=atB i hi
    rw [←hL]at this
    rw [show m+i=P.length+ [x].length+i by simp;omega,this]
   refine B0b a _ _ hS (by omega) (b - m) m b (by omega) (by omega) (by omega) fun t h1 h2 h3 h4=> ?_
   rw [hx]at h3 h4
   refine Aam _ _ _ _ _ ?_
   refine Aae _ _ _ _ ?_
   have e1:P++[x]++B++S=P++x::(B.take (t - m)++(B.drop (t - m)++S)):=by
    have:B.take (t - m)++(B.drop (t - m)++S)=B++S:=by rw [←List.append_assoc,List.take_append_drop]
    rw [this];simp
   rw [e1]
   have hbl:(B.take (t - m)).length=t - m:=by rw [List.length_take];omega
   refine Btm (B.drop (t - m)++S) x t _ (B.take (t - m)) P a ha (by rw [hbl];omega) (by rw [←e1];exact hS) ?_
   refine Aaq _ _ (Yr _ _ (Nt _ _ (Aal _ _ _ ⟨rfl, ?_⟩)))
   have:=Bkq ordK (key:=pk) (b1:=B.take (t - m)) (b2:=B.drop (t - m)) (x:=x) (by rw [List.take_append_drop];exact sB) (fun y hy=> ?_) (fun y hy=> ?_)
   ·rw [List.take_append_drop]at this
    show [(Nm.arg 0,Entry.arr 1 true 7 (Bf _))]=[(Nm.arg 0,Entry.arr 1 true 7 (Bf (P++srt bl pk (x::B)++S)))]
    rw [←this];simp
   ·obtain⟨i,hi,hiB,rfl⟩:=take_at hy
    have h3:=h3 (by omega)
    rw [show t - 1=m+(t - 1 - m)by omega,atB' _ (by omega)]at h3
    exact Bmz (sorted_at sB i (t - 1 - m) (by omega) (by omega)) h3
   ·obtain⟨i,hi,hiB,rfl⟩:=drop_at hy
    have h4:=h4 (by omega)
    rw [show t=m+(t - m)by omega,atB' _ (by omega)]at h4
    exact ordK.le_tr h4 (sorted_at sB (t - m) i hi hiB)
  ·have hA1:A.length≠1:=by have:=of_decide_eq_false hA1;omega
   have atA':∀i,i<A.length→Bo (P++A++B++S) (a+i)=Bo A i:=fun i hi=>by
    have:=atA i hi
    rw [←hL]at this
    rw [ha,this]
   have atB':∀i,i<B.length→Bo (P++A++B++S) (m+i)=Bo B i:=fun i hi=>by
    have:=atB i hi
    rw [←hL]at this
    rw [show m+i=P.length+A.length+i by omega,this]
   refine Yt _ _ _ _ _ ?_
   rw [w2]
   refine⟨fun h=> ?_,fun hB1=> ?_⟩
   ·
    have hB1:B.length=1:=by have:=of_decide_eq_true h;omega
    obtain⟨y,rfl⟩:∃y,B=[y]:=by
     match B,hB1 with
     | [y],_=>exact⟨y,rfl⟩
    have hy:Bo (P++A++[y]++S) m=y:=by
     have:=atB' 0 (by simp)
     rw [Nat.add_zero]at this
     rw [this];rfl
    refine Bzk m _ _ hS (by omega) (m - a) a m (by omega) (by omega) (by omega) fun t h1 h2 h3 h4=> ?_
    rw [hy]at h3 h4
    refine Aao _ _ _ _ ?_
    refine Yu _ _ _ _ ?_
    have e1:P++A++[y]++S=(P++A.take (t - a))++A.drop (t - a)++y::S:=by
     have:P++A.take (t - a)++A.drop (t - a)=P++A:=by rw [List.append_assoc,List.take_append_drop]
     rw [this];simp
    have hdl:(A.drop (t - a)).length=m - t:=by rw [List.length_drop];omega
    have htl:(A.take (t - a)).length=t - a:=by rw [List.length_take];omega
    have e2:((m:Nat):Int)=((t+(m - t):Nat):Int):=by omega
    rw [e1,e2]
    refine Btn (P++A.take (t - a)) y t _ (by simp [htl];omega) (m - t) (A.drop (t - a)) S hdl (by rw [←e1];exact hS) ?_
    refine Aar _ _ (Yv _ _ (Nt _ _ (Aan _ _ (Aaj _ _ _ ⟨rfl, ?_⟩))))
    have:=Avg ordK (key:=pk) (a1:=A.take (t - a)) (a2:=A.drop (t - a)) (y:=y) (by rw [List.take_append_drop];exact sA) (fun x hx=> ?_) (fun x hx=> ?_)
    ·rw [List.take_append_drop]at this
     show [(Nm.arg 0,Entry.arr 1 true 7 (Bf _))]=[(Nm.arg 0,Entry.arr 1 true 7 (Bf (P++srt bl pk (A++[y])++S)))]
     rw [←this];simp
    ·obtain⟨i,hi,hiA,rfl⟩:=take_at hx
     have h3:=h3 (by omega)
     rw [show t - 1=a+(t - 1 - a)by omega,atA' _ (by omega)]at h3
     exact ordK.le_tr (sorted_at sA i (t - 1 - a) (by omega) (by omega)) h3
    ·obtain⟨i,hi,hiA,rfl⟩:=drop_at hx
     have h4:=h4 (by omega)
     rw [show t=a+(t - a)by omega,atA' _ (by omega)]at h4
     exact Bt7 h4 (sorted_at sA (t - a) i hi hiA)
   ·have hB1:B.length≠1:=by have:=of_decide_eq_false hB1;omega
    refine Yw _ _ _ _ _ ⟨by decide, ?_⟩
    rw [half a b (by omega)]
    generalize hmid:(a+b) / 2=mid
    have hm1:2*mid≤a+b:=by omega
    have hm2:a+b≤2*mid+1:=by omega
    clear hmid
    have w3:IntKind.i64.wrap ((mid:Int)+(m:Int))=((mid+m:Nat):Int):=by rw [Av _ (by omega) (by omega)];simp
    rw [w3]
    have w5:IntKind.i64.wrap (((mid+m:Nat):Int) - 1)=((mid+m - 1:Nat):Int):=by rw [Av _ (by omega) (by omega)];omega
    have srch:=fun s0 r0=>Bwt f ih P A B S a m b mid (Bg (Bg (Ef (Bf (P++A++B++S)) (Is (.tup []) [(.arg 0, .arr 1 true 7 (Bf (P++Ce (A++B)++S)))])))) ha hm hb hA hB hA1 hB1 hf hm1 hm2 sA sB hS s0 r0 (Cm _ _ (Cm _ _ (Aak _ _ _ ⟨rfl,rfl⟩)))
    refine⟨fun h=> ?_,fun h=> ?_⟩
    ·have hlt:mid<m:=by have:=of_decide_eq_true h;omega
     have w4:IntKind.i64.wrap (((mid+m:Nat):Int) - (b:Int))=((mid+m - b:Nat):Int):=by rw [Av _ (by omega) (by omega)];omega
     rw [w4]
     refine Ms _ _ _ _ _ _ _ _ _ ?_
     rw [w5]
     exact srch (mid+m - b) mid (by omega) (by omega) (by omega) (by omega) (by omega) (.inr (by omega)) (.inr rfl)
    ·have hge:m≤mid:=by have:=of_decide_eq_false h;omega
     refine Ms _ _ _ _ _ _ _ _ _ ?_
     rw [w5]
     exact srch a m (by omega) (by omega) (by omega) (by omega) (by omega) (.inl rfl) (.inl rfl)
end Go.Proofs.Sim.Se
namespace Go.Proofs.Sim.Se
open Go Go.Proofs Go.Proofs.Sim Go.Proofs.Sim.Va Go.Proofs.Sim.St
inductive Chk (k:Nat):List Pr→Prop where
 |last (l:List Pr):l.length≤k→C8 l→Chk k l
 |step (c r:List Pr):c.length=k→C8 c→Chk k r→Chk k (c++r)
theorem Chk.sorted {k:Nat} {l:List Pr} (h:Chk k l)(hl:l.length≤k):C8 l:=by
 cases h with
 |last _ h1 h2=>exact h2
 |step c r h1 h2 h3=>
  have:r=[]:=List.eq_nil_of_length_eq_zero (by simp at hl;omega)
  subst this;simpa using h2
theorem Chk.two {k:Nat} {l:List Pr} (h:Chk k l)(hl:k<l.length):∃c r,l=c++r∧c.length=k∧C8 c∧Chk k r:=by
 cases h with
 |last _ h1 h2=>omega
 |step c r h1 h2 h3=>exact⟨c,r,rfl,h1,h2,h3⟩
theorem Buk(n:Nat)(rows:List (List IV))(R:AV→Heap→Prop):∀(f:Nat) (P X:List Pr),X.length≤f→n=P.length+X.length→n≤4611686018427387904→
 (∀Y,Chk 20 Y→Blr Y X→Dh n 20 (Bf (P++Y)) (G7 (E5 rows R)))→
 G9 n 20 (P.length:Int) ((P.length+20:Nat):Int) (Bf (P++X)) (Kq rows R):=by
 intro f
 induction f using Nat.strongRecOn with
 |_ f ih=>
 intro P X hf hn hm hq
 refine Ac1 _ _ _ _ _ _ ⟨fun h=> ?_,fun h=> ?_⟩
 ·have hle:P.length+20≤n:=by have:=of_decide_eq_true h;omega
  obtain⟨c,X,rfl,hc⟩:∃c r,X=c++r∧c.length=20:=⟨X.take 20,X.drop 20,(List.take_append_drop 20 X).symm,by simp;omega⟩
  simp only [List.length_append]at hf hn
  have:=Btu P c X P.length (P.length+20) rfl (by omega) (by simp [Sm];omega)
  rw [show P++(c++X)=P++c++X by simp]
  refine Call.use this ⟨⟨rfl,rfl⟩, ?_⟩
  rw [Jr]
  have w:IntKind.i64.wrap (((P.length+20:Nat):Int)+20)=((P.length+20+20:Nat):Int):=by rw [Av _ (by omega) (by omega)];simp
  rw [w]
  have hl:(P++Ce c).length=P.length+20:=by simp [Gy ordK,hc]
  have:=ih X.length (by omega) (P++Ce c) X (Nat.le_refl _) (by omega) hm (fun Y h1 h2=>by
   rw [show P++Ce c++Y=P++(Ce c++Y)by simp]
   exact hq _ (.step _ _ (by rw [Gy ordK,hc]) (J6 ordK c) h1) (Fib.app (Nb ordK c) h2))
  rw [hl]at this
  exact this
 ·have hgt:n<P.length+20:=by have:=of_decide_eq_false h;omega
  refine Acu _ _ _ _ _ _ ?_
  refine Acg _ _ _ _ _ ?_
  have:=Btu P X [] P.length n rfl hn (by simp [Sm];omega)
  simp only [List.append_nil]at this
  refine Call.use this ⟨⟨rfl,rfl⟩, ?_⟩
  rw [Jr]
  exact hq _ (.last _ (by rw [Gy ordK];omega) (J6 ordK X)) (Nb ordK X)
theorem Bxh(n k:Nat)(hk:0<k)(hkn:k<n)(hm:n≤2305843009213693952)(Q:Ex→St→Prop):∀(f:Nat) (P X:List Pr),X.length≤f→n=P.length+X.length→Chk k X→
 (∀Y,Chk (2*k) Y→Blr Y X→Dh n ((2*k:Nat):Int) (Bf (P++Y)) Q)→
 Gx n k (P.length:Int) ((P.length+2*k:Nat):Int) (Bf (P++X)) (Kr Q):=by
 intro f
 have wk:IntKind.i64.wrap ((2:Int)*(k:Int))=((2*k:Nat):Int):=by rw [Av _ (by omega) (by omega)];simp
 have wk2:IntKind.i64.wrap ((k:Int)*(2:Int))=((2*k:Nat):Int):=by rw [Av _ (by omega) (by omega)];omega
 induction f using Nat.strongRecOn with
 |_ f ih=>
 intro P X hf hn hX hq
 have wp:IntKind.i64.wrap ((P.length:Int)+(k:Int))=((P.length+k:Nat):Int):=by rw [Av _ (by omega) (by omega)];simp
 refine Aa6 _ _ _ _ _ _ ⟨fun h=> ?_,fun h=> ?_⟩
 ·have hle:P.length+2*k≤n:=by have:=of_decide_eq_true h;omega
  obtain⟨c,X,rfl,hc,sc,hX⟩:=hX.two (by omega)
  simp only [List.length_append]at hf hn
  obtain⟨d,X,rfl,hd,sd,hX⟩:∃d r,X=d++r∧d.length=k∧C8 d∧Chk k r:=by
   by_cases he:k<X.length
   ·exact hX.two he
   ·exact⟨X,[],by simp,by omega,hX.sorted (by omega), .last _ (Nat.zero_le _) List.Pairwise.nil⟩
  simp only [List.length_append]at hf hn
  have:=Btw (c.length+d.length) P c d X P.length (P.length+k) (P.length+2*k) (Nat.le_refl _) rfl (by omega) (by omega) (by omega) (by omega) sc sd (by simp [Sm];omega)
  rw [wp,show P++(c++(d++X))=P++c++d++X by simp]
  refine Call.use this ⟨⟨rfl,rfl⟩, ?_⟩
  rw [Jr,wk]
  have w:IntKind.i64.wrap (((P.length+2*k:Nat):Int)+((2*k:Nat):Int))=((P.length+2*k+2*k:Nat):Int):=by rw [Av _ (by omega) (by omega)];omega
  rw [w]
  have hl:(P++Ce (c++d)).length=P.length+2*k:=by simp [Gy ordK];omega
  have:=ih X.length (by omega) (P++Ce (c++d)) X (Nat.le_refl _) (by omega) hX (fun Y h1 h2=>by
   rw [show P++Ce (c++d)++Y=P++(Ce (c++d)++Y)by simp]
   refine hq _ (.step _ _ (by rw [Gy ordK];simp;omega) (J6 ordK _) h1) ?_
   rw [show c++(d++X)=c++d++X by simp]
   exact Fib.app (Nb ordK _) h2)
  rw [hl]at this
  exact this
 ·have hgt:n<P.length+2*k:=by have:=of_decide_eq_false h;omega
  refine Acx _ _ _ _ _ ?_
  refine Aax _ _ _ _ _ ?_
  rw [wp]
  have fin:∀Y,Chk (2*k) Y→Blr Y X→Gw n k (Bf (P++Y)) (G8 (E8 Q)):=by
   intro Y h1 h2
   refine Aay _ _ _ _ ?_
   rw [wk2]
   exact Acy _ _ _ _ (Acw _ _ _ _ (hq Y h1 h2))
  refine⟨fun h=> ?_,fun h=> ?_⟩
  ·have hlt:P.length+k<n:=by have:=of_decide_eq_true h;omega
   obtain⟨c,d,rfl,hc,sc,hd⟩:=hX.two (by omega)
   simp only [List.length_append]at hf hn
   have sd:C8 d:=hd.sorted (by omega)
   have:=Btw (c.length+d.length) P c d [] P.length (P.length+k) n (Nat.le_refl _) rfl (by omega) (by omega) (by omega) (by omega) sc sd (by simp [Sm];omega)
   simp only [List.append_nil]at this
   rw [show P++(c++d)=P++c++d by simp]
   refine Call.use this ⟨⟨rfl,rfl⟩, ?_⟩
   rw [Jr]
   exact fin _ (.last _ (by rw [Gy ordK];simp;omega) (J6 ordK _)) (Nb ordK _)
  ·have hge:n≤P.length+k:=by have:=of_decide_eq_false h;omega
   exact fin X (.last _ (by omega) (hX.sorted (by omega))) (Fib.refl X)
theorem Bzh(n:Nat)(hm:n≤2305843009213693952)(Q:Ex→St→Prop):∀(f k:Nat) (X Y:List Pr),n - k≤f→0<k→n=Y.length→Chk k Y→Blr Y X→
 Q (.exit 2) ⟨[],[(.arg 0, .arr 1 true 7 (Bf (Ce X)))]⟩→Dh n k (Bf Y) Q:=by
 intro f
 induction f with
 |zero=>
  intro k X Y hf hk hn hY hF hq
  refine Od _ _ _ _ ⟨fun h=> ?_,fun _=> ?_⟩
  ·have:=of_decide_eq_true h;omega
  ·rw [Ai5 ordK (hY.sorted (by omega)) hF];exact hq
 |succ f ih=>
  intro k X Y hf hk hn hY hF hq
  refine Od _ _ _ _ ⟨fun h=> ?_,fun h=> ?_⟩
  ·have hlt:k<n:=by have:=of_decide_eq_true h;omega
   have wk:IntKind.i64.wrap ((2:Int)*(k:Int))=((2*k:Nat):Int):=by rw [Av _ (by omega) (by omega)];simp
   rw [wk]
   have:=Bxh n k hk hlt hm Q Y.length [] Y (Nat.le_refl _) (by simpa using hn) hY (fun Z h1 h2=>by
    have hl:n=Z.length:=by rw [h2.length];exact hn
    simpa using ih (2*k) X Z (by omega) (by omega) hl h1 (h2.trans hF) hq)
   simpa using this
  ·have:¬(k:Int)<n:=of_decide_eq_false h
   rw [Ai5 ordK (hY.sorted (by omega)) hF];exact hq
theorem Bq8(X:List Pr)(hm:X.length≤2305843009213693952):Call E0.P Lf [.own (.arg 0), .imm (.int .i64 (X.length:Int)), .fn Ak []] [(.arg 0, .arr 1 true 7 (Bf X))] (Is (.tup []) [(.arg 0, .arr 1 true 7 (Bf (Ce X)))]):=by
 refine Adz _ _ _ ?_
 have:=Buk X.length (Bf X) (Is (.tup []) [(.arg 0, .arr 1 true 7 (Bf (Ce X)))]) X.length [] X (Nat.le_refl _) (by simp) (by omega) (fun Y h1 h2=>by
  have:=Bzh X.length hm (G7 (E5 (Bf X) (Is (.tup []) [(.arg 0, .arr 1 true 7 (Bf (Ce X)))]))) (X.length - 20) 20 X Y (Nat.le_refl _) (by decide) (by rw [h2.length]) h1 h2
   (Acv _ _ (Acs _ _ _ ⟨rfl,rfl⟩))
  simpa using this)
 simpa using this
theorem Bx1(X:List Pr)(hm:X.length≤2305843009213693952):Call E0.P Ku [.own (.arg 0), .fn Ak []] [(.arg 0, .arr 1 true 7 (Bf X))] (Is (.tup []) [(.arg 0, .arr 1 true 7 (Bf (Ce X)))]):=by
 refine Adp _ _ ?_
 rw [Ay]
 refine Call.use (Bq8 X hm) ⟨⟨rfl,rfl⟩, ?_⟩
 rw [Jr]
 exact⟨rfl,rfl⟩
theorem Buz(X:List Pr)(hm:X.length≤1000000000000):Call E0.P Vb [.imm (.sl .any 7 (Bf X))] [] (Is (.own (.loc 0)) [(.loc 0, .arr 0 true 7 (Bf X))]):=by
 refine Aqp _ _ ⟨fun h=>⟨fun _=> ?_,fun h=>(by cases h)⟩,⟨fun h=>(by cases h),fun _=>⟨?_, ?_⟩⟩⟩
 ·have:X=[]:=by simpa [Bf] using h
  subst this
  exact⟨rfl,rfl⟩
 ·rw [Ay]
  constructor<;>omega
 ·exact⟨rfl,by simp⟩
end Go.Proofs.Sim.Se
namespace Go.Proofs.Sim.Se
open Go Go.Proofs Go.Proofs.Sim Go.Proofs.Sim.Va Go.Proofs.Sim.St
def Blq(X:List Pr)(r:AV)(h:Heap):Prop:=∃Z,r= .win (.arg 0) 7 0 (compact X).length∧h=[(.arg 0, .arr 1 true 7 (Bf (compact X)++Z))]
theorem Bar(X:List Pr)(rows:List (List IV))(k0 n:Nat)(hn:n≤2305843009213693952):∀(R D G:List Pr) (z:Pr) (k2:Nat),D.length+G.length+1=k0+k2→n=k0+k2+R.length→0<k2→compact X=D++keepD z R→
 Hu (D.length:Int) k0 (n - k0) k2 (Bf (D++G++z::R)) (Mh (Fs rows (Blq X)))
 | [],D,G,z,k2,h1,h2,h3,hc=>by
   simp only [List.length_nil,Nat.add_zero]at h2
   refine P8 _ _ _ _ _ _ ⟨fun h=> ?_,fun _=> ?_⟩
   ·have:=of_decide_eq_true h;omega
   ·refine Aec _ _ _ ?_
    refine Adm _ _ _ ?_
    simp only [Int.toNat_natCast]
    have hl:(Bf (D++G++[z])).length=n:=by rw [Ay];simp;omega
    rw [Aoc _ _ _ _ (by rw [hl];omega),hl]
    refine⟨⟨by omega,by omega⟩,⟨⟨by omega,by omega⟩, ?_⟩⟩
    refine Aeb _ _ _ _ (Ad9 _ _ _ _ _ ⟨List.replicate (n - D.length) [.str [], .int .i64 0, .int .i64 0, .int .i64 0, .str [], .sl .nil 6 [], .sl .nil 7 []], ?_, ?_⟩)
    ·rw [hc];simp [keepD]
    ·have e:(Bf (D++G++[z])).take D.length=Bf D:=by simp [Bf]
     have e2:(Bf (D++G++[z])).drop (D.length+(n - D.length))=[]:=List.drop_eq_nil_of_le (by rw [hl];omega)
     rw [hc]
     simp only [keepD,List.append_nil,Kj,e,e2]
 |y::R,D,G,z,k2,h1,h2,h3,hc=>by
  simp only [List.length_cons]at h2
  have w1:IntKind.i64.wrap ((k2:Int) - 1)=((k2 - 1:Nat):Int):=by rw [Av _ (by omega) (by omega)];omega
  have w2:IntKind.i64.wrap ((k2:Int)+1)=((k2+1:Nat):Int):=by rw [Av _ (by omega) (by omega)];simp
  have w3:IntKind.i64.wrap ((D.length:Int)+1)=((D.length+1:Nat):Int):=by rw [Av _ (by omega) (by omega)];simp
  have e1:D++G++z::y::R=(D++G++[z])++y::R:=by simp
  generalize hL:D++G++z::y::R=L at*
  have hlen:L.length=n:=by rw [←hL];simp;omega
  have g1:Bo L (k0+k2)=y:=by rw [e1];exact Ja _ _ _ _ (by simp;omega)
  have g2:Bo L (k0+(k2 - 1))=z:=by rw [←hL];exact Ja _ _ _ _ (by simp;omega)
  have r1:=J3 L (k0+k2) (by omega)
  have r2:=J3 L (k0+(k2 - 1)) (by omega)
  rw [g1]at r1
  rw [g2]at r2
  refine P8 _ _ _ _ _ _ ⟨fun _=> ?_,fun h=> ?_⟩
  ·rw [w1]
   simp only [Int.toNat_natCast,Al7]
   rw [r1,r2,Dx,Dx,Zz]
   refine⟨⟨by omega,by omega⟩,⟨⟨by rw [Ay];omega,C9 _ _ _⟩,⟨⟨by omega,by omega⟩,⟨⟨by rw [Ay];omega,C9 _ _ _⟩, ?_⟩⟩⟩⟩
   refine Call.use (Bts y z) ⟨⟨rfl,rfl⟩, ?_⟩
   show Br (!(y.1 == z.1)) _ _
   refine⟨fun hb=> ?_,fun hb=> ?_⟩
   ·have hne:¬y.1=z.1:=by simpa using hb
    refine⟨⟨by omega,by omega⟩,⟨⟨by rw [Ay];omega,C9 _ _ _⟩,⟨⟨by omega,by rw [Ay];omega⟩,⟨by rw [Ay];omega, ?_⟩⟩⟩⟩
    refine Px _ _ _ _ _ _ ?_
    rw [w2,w3]
    refine Q0 _ _ _ _ _ _ ?_
    obtain⟨q,G',hG⟩:∃q G',G++[z]=q::G':=by
     cases G with
     |nil=>exact⟨z,[],rfl⟩
     |cons a G=>exact⟨a,G++[z],rfl⟩
    have hGl:G'.length=G.length:=by have:=congrArg List.length hG;simpa using this.symm
    have e2:L=D++q::(G'++y::R):=by
     rw [e1,List.append_assoc D,hG];simp
    have s:L.set D.length y=(D++[y])++G'++y::R:=by
     rw [e2,set_mid _ _ _ _ _ rfl];simp
    rw [s]
    have hl2:(D++[y]).length=D.length+1:=by simp
    have:=Bar X rows k0 n hn R (D++[y]) G' y (k2+1) (by simp;omega) (by omega) (by omega) (by rw [hc,keepD,if_neg hne];simp)
    rw [hl2]at this
    exact this
   ·have heq:y.1=z.1:=by simpa using hb
    refine Px _ _ _ _ _ _ ?_
    rw [w2]
    refine Q0 _ _ _ _ _ _ ?_
    have e3:L=D++(G++[z])++y::R:=by rw [e1];simp
    rw [e3]
    exact Bar X rows k0 n hn R D (G++[z]) y (k2+1) (by simp;omega) (by omega) (by omega) (by rw [hc,keepD,if_pos heq])
  ·have:=of_decide_eq_false h
   omega
theorem Bkx(X:List Pr)(rows:List (List IV))(n:Nat)(hn:n≤2305843009213693952):∀(R P:List Pr) (x:Pr),n=P.length+1+R.length→X=P++x::R→compact X=P++x::keepD x R→
 H9 ((P.length+1:Nat):Int) (Bf (P++x::R)) (Fs rows (Blq X))
 | [],P,x,h,hX,hc=>by
   refine Q7 _ _ _ ⟨fun h=> ?_,fun _=> ?_⟩
   ·have:=of_decide_eq_true h
    rw [Ay]at this
    simp at this
   ·refine Ad8 _ _ _ (Ado _ _ (Ad7 _ _ _ ⟨[], ?_, ?_⟩))
    ·rw [hc];simp [keepD]
    ·rw [hc];simp [keepD]
 |y::R,P,x,h,hX,hc=>by
  simp only [List.length_cons]at h
  have w1:IntKind.i64.wrap (((P.length+1:Nat):Int) - 1)=((P.length:Nat):Int):=by rw [Av _ (by omega) (by omega)];omega
  have w2:IntKind.i64.wrap (((P.length+1:Nat):Int)+1)=((P.length+1+1:Nat):Int):=by rw [Av _ (by omega) (by omega)];simp
  have e1:P++x::y::R=(P++[x])++y::R:=by simp
  rw [←hX]
  have hlen:X.length=n:=by rw [hX];simp;omega
  have g1:Bo X (P.length+1)=y:=by rw [hX,e1];exact Ja _ _ _ _ (by simp)
  have g2:Bo X P.length=x:=by rw [hX];exact Ja _ _ _ _ rfl
  have r1:=J3 X (P.length+1) (by omega)
  have r2:=J3 X P.length (by omega)
  rw [g1]at r1
  rw [g2]at r2
  refine Q7 _ _ _ ⟨fun _=> ?_,fun h=> ?_⟩
  ·rw [w1]
   simp only [Int.toNat_natCast]
   rw [r1,r2,Dx,Dx]
   refine⟨⟨by omega,by rw [Ay];omega⟩,⟨⟨by rw [Ay];omega,C9 _ _ _⟩,⟨⟨by omega,by rw [Ay];omega⟩,⟨⟨by rw [Ay];omega,C9 _ _ _⟩, ?_⟩⟩⟩⟩
   refine Call.use (Bts y x) ⟨⟨rfl,rfl⟩, ?_⟩
   show Br (y.1 == x.1) _ _
   refine⟨fun hb=> ?_,fun hb=> ?_⟩
   ·have heq:y.1=x.1:=by simpa using hb
    refine⟨⟨by omega,by rw [Ay];omega⟩, ?_⟩
    have hl:(Bf X).length=n:=by rw [Ay,hlen]
    rw [hl]
    have:=Bar X rows (P.length+1) n hn R (P++[x]) [] y 1 (by simp) (by omega) (by decide) (by rw [hc,keepD,if_pos heq];simp)
    rw [show(P++[x])++[]++y::R=X by rw [hX];simp,show(P++[x]).length=P.length+1 by simp]at this
    exact this
   ·have hne:¬y.1=x.1:=by simpa using hb
    refine Adn _ _ _ ?_
    rw [w2]
    refine Aea _ _ _ ?_
    have:=Bkx X rows n hn R (P++[x]) y (by simp;omega) (by rw [hX];simp) (by rw [hc,keepD,if_neg hne];simp)
    rw [show(P++[x])++y::R=X by rw [hX];simp,show(P++[x]).length=P.length+1 by simp]at this
    exact this
  ·have:=of_decide_eq_false h
   rw [Ay]at this
   omega
theorem Bn9(X:List Pr)(hn:X.length≤2305843009213693952):Call E0.P Np [.own (.arg 0), .fn Ca []] [(.arg 0, .arr 1 true 7 (Bf X))] (Blq X):=by
 refine Agk _ _ ⟨fun h=> ?_,fun h=> ?_⟩
 ·have:=of_decide_eq_true h
  rw [Ay]at this
  match X,this with
  | [],_=>exact⟨[],rfl,rfl⟩
  | [x],_=>exact⟨[],rfl,rfl⟩
  |x::y::r,this=>simp at this<;>omega
 ·have:=of_decide_eq_false h
  rw [Ay]at this
  cases X with
  |nil=>simp at this
  |cons x R=>exact Bkx (x::R) _ (R.length+1) (by simpa using hn) R [] x (by simp;omega) rfl rfl
end Go.Proofs.Sim.Se
namespace Go.Proofs.Sim.Se
open Go Go.Proofs Go.Proofs.Sim Go.Proofs.Sim.Va Go.Proofs.Sim.St
def hN(k:Int):Bool:=decide (k=1∨k=2∨k=7)
def hG(k:Int):Bool:=decide (k=7)
def hS(k:Int):Bool:=decide (k=3∨k=4∨k=8)
def hL(k:Int):Bool:=decide (k=5)
def hD(k:Int):Bool:=decide (k=6∨k=8)
def hOK(k:Int):Bool:=decide (0≤k∧k≤8)
theorem Btt(k:Int):Call E0.P Afh [.imm (.int .i64 k)] [] (Is (.tup [.imm (.agg [.bool (hN k), .bool (hG k), .bool (hS k), .bool (hL k), .bool (hD k)]), .imm (.bool (hOK k))]) []):=by
 have leaf:∀(a b c d e f:Bool),(a=hN k∧b=hG k∧c=hS k∧d=hL k∧e=hD k∧f=hOK k)→Is (.tup [.imm (.agg [.bool (hN k), .bool (hG k), .bool (hS k), .bool (hL k), .bool (hD k)]), .imm (.bool (hOK k))]) [] (.tup [.imm (.agg [.bool a, .bool b, .bool c, .bool d, .bool e]), .imm (.bool f)]) []:=by
  rintro a b c d e f ⟨rfl,rfl,rfl,rfl,rfl,rfl⟩
  exact⟨rfl,rfl⟩
 have val:∀j:Int,k=j→∀a b c d e f,(hN j,hG j,hS j,hL j,hD j,hOK j)=(a,b,c,d,e,f)→a=hN k∧b=hG k∧c=hS k∧d=hL k∧e=hD k∧f=hOK k:=by
  rintro j rfl a b c d e f h
  simp only [Prod.mk.injEq]at h
  exact⟨h.1.symm,h.2.1.symm,h.2.2.1.symm,h.2.2.2.1.symm,h.2.2.2.2.1.symm,h.2.2.2.2.2.symm⟩
 refine A92 _ _ ⟨fun h=> ?_,fun h0=> ?_⟩
 ·exact leaf _ _ _ _ _ _ (val 0 (of_decide_eq_true h) _ _ _ _ _ _ (by decide))
 have h0:¬k=0:=of_decide_eq_false h0
 have c5:∀b:Bool,(b=true→k=1∨k=2)→(b=false→¬k=1∧¬k=2)→Abo k b false false false false false (Qo (Is (.tup [.imm (.agg [.bool (hN k), .bool (hG k), .bool (hS k), .bool (hL k), .bool (hD k)]), .imm (.bool (hOK k))]) [])):=by
  intro b hb1 hb2
  refine A3a _ _ _ _ _ _ _ _ ⟨fun h=> ?_,fun h=> ?_⟩
  ·refine K8 _ _ _ _ _ _ _ (leaf _ _ _ _ _ _ ?_)
   rcases hb1 h with e |e
   ·exact val 1 e _ _ _ _ _ _ (by decide)
   ·exact val 2 e _ _ _ _ _ _ (by decide)
  ·obtain⟨h1,h2⟩:=hb2 h
   have c8:∀b:Bool,(b=true→k=3∨k=4)→(b=false→¬k=3∧¬k=4)→Abp k b false false false false false (Vr (Qo (Is (.tup [.imm (.agg [.bool (hN k), .bool (hG k), .bool (hS k), .bool (hL k), .bool (hD k)]), .imm (.bool (hOK k))]) []))):=by
    intro b hb1 hb2
    refine A3b _ _ _ _ _ _ _ _ ⟨fun h=> ?_,fun h=> ?_⟩
    ·refine O7 _ _ _ _ _ _ _ (K8 _ _ _ _ _ _ _ (leaf _ _ _ _ _ _ ?_))
     rcases hb1 h with e |e
     ·exact val 3 e _ _ _ _ _ _ (by decide)
     ·exact val 4 e _ _ _ _ _ _ (by decide)
    obtain⟨h3,h4⟩:=hb2 h
    refine⟨fun h=>O7 _ _ _ _ _ _ _ (K8 _ _ _ _ _ _ _ (leaf _ _ _ _ _ _ (val 5 (of_decide_eq_true h) _ _ _ _ _ _ (by decide)))),fun h5=> ?_⟩
    refine⟨fun h=>O7 _ _ _ _ _ _ _ (K8 _ _ _ _ _ _ _ (leaf _ _ _ _ _ _ (val 6 (of_decide_eq_true h) _ _ _ _ _ _ (by decide)))),fun h6=> ?_⟩
    refine⟨fun h=>O7 _ _ _ _ _ _ _ (K8 _ _ _ _ _ _ _ (leaf _ _ _ _ _ _ (val 7 (of_decide_eq_true h) _ _ _ _ _ _ (by decide)))),fun h7=> ?_⟩
    refine⟨fun h=>O7 _ _ _ _ _ _ _ (K8 _ _ _ _ _ _ _ (leaf _ _ _ _ _ _ (val 8 (of_decide_eq_true h) _ _ _ _ _ _ (by decide)))),fun h8=> ?_⟩
    have h5:¬k=5:=of_decide_eq_false h5
    have h6:¬k=6:=of_decide_eq_false h6
    have h7:¬k=7:=of_decide_eq_false h7
    have h8:¬k=8:=of_decide_eq_false h8
    refine A4t _ _ _ _ _ _ (A4s _ _ _ _ _ _ (A1c _ _ _ _ _ _ (A4r _ _ _ _ _ _ _ (leaf _ _ _ _ _ _ ?_))))
    simp only [hN,hG,hS,hL,hD,hOK]
    have:¬(0≤k∧k≤8):=by omega
    simp [h1,h2,h3,h4,h5,h6,h7,h8,this]
   refine⟨fun h=> ?_,fun h=> ?_⟩
   ·have e:=of_decide_eq_true h
    exact c8 _ (fun _=> .inl e) (fun h'=>absurd e (of_decide_eq_false h'))
   ·have e:¬k=3:=of_decide_eq_false h
    exact c8 _ (fun h'=> .inr (of_decide_eq_true h')) (fun h'=>⟨e,of_decide_eq_false h'⟩)
 refine⟨fun h=> ?_,fun h=> ?_⟩
 ·have e:=of_decide_eq_true h
  exact c5 _ (fun _=> .inl e) (fun h'=>absurd e (of_decide_eq_false h'))
 ·have e:¬k=1:=of_decide_eq_false h
  exact c5 _ (fun h'=> .inr (of_decide_eq_true h')) (fun h'=>⟨e,of_decide_eq_false h'⟩)
abbrev Il(l:List V):List (List IV):=l.map V.row
abbrev Nf(l:List V)(n:Nat):V:=l.getD n default
theorem Fy(l:List V):(Il l).length=l.length:=List.length_map ..
theorem Z4(l:List V)(n:Nat)(h:n<l.length):(Il l).getD n []=(Nf l n).row:=by
 simp [List.getD_eq_getElem?_getD,h]
theorem Et(v:V): [.int .i64 (gI v.row 0), .int .i64 (gI v.row 1), .int .i64 (gI v.row 2), .str (gS v.row 3), .sl .any 6 (gR v.row 4), .sl .any 7 (gR v.row 5)]=v.row:=by
 rw [Cn];rfl
theorem Z5(v:V)(e f:Nat):Be [.int .i64, .int .i64, .int .i64, .str, .sl 6 e, .sl 7 f] v.row=true:=by
 rw [Cn];rfl
theorem Mm(p:Pr): [.int .i64 (gI (Bc p) 1), .int .i64 (gI (Bc p) 2), .int .i64 (gI (Bc p) 3), .str (gS (Bc p) 4), .sl .any 6 (gR (Bc p) 5), .sl .any 7 (gR (Bc p) 6)]=p.2.row:=by
 rw [Em,Cn];rfl
theorem Afz(v:V):Ac (.imm (.agg v.row))=v.row:=rfl
theorem vk(v:V):gI v.row 0=v.k:=by rw [Cn];rfl
theorem Bwl(ps:List Pr)(Z:List (List IV))(n:Nat)(h:n<ps.length):List.take 7 (List.drop 0 ((Bf ps++Z).getD n []))=Bc (Bo ps n):=by
 have:(Bf ps++Z).getD n []=(Bf ps).getD n []:=by
  simp only [List.getD_eq_getElem?_getD]
  rw [List.getElem?_append_left (by rw [Ay];exact h)]
 rw [this,J3 ps n h]
inductive Fit:V→Prop where
 |mk (v:V):v.l.length≤1000000000000→v.d.length≤1000000000000→(∀x∈v.l,Fit x)→(∀p∈v.d,Fit p.2)→Fit v
abbrev M8(v:V):Prop:=Call E0.P Gq [.imm (.agg v.row)] [] (Is (.imm (.agg v.plain.row)) [])
theorem Bde(p:Pr)(v:V): [.str (gS (Bc p) 0), .int .i64 (gI v.row 0), .int .i64 (gI v.row 1), .int .i64 (gI v.row 2), .str (gS v.row 3), .sl .any 6 (gR v.row 4), .sl .any 7 (gR v.row 5)]=Bc (p.1,v):=by
 rw [Em,Em,Cn];rfl
theorem Bau(U:List Pr)(Z:List (List IV))(Q:AV→Heap→Prop)(hU:U.length≤1000000000000)(ih:∀p∈U,M8 p.2)(hq:Q (.imm (.sl .any 7 (Bf ((K3 U).filter Qc)))) []):∀(R D:List Pr) (i:Nat),U=D++R→i=D.length→
 Jm 0 U.length (U.length:Int) i (Bf ((K3 D).filter Qc)) (Bf U++Z) (Un Q)
 | [],D,i,hD,hi=>by
   simp only [List.append_nil]at hD
   subst hD
   refine Aaa _ _ _ _ _ _ _ ⟨fun h=> ?_,fun _=> ?_⟩
   ·have:=of_decide_eq_true h;omega
   ·exact Apd _ _ (Ams _ _ (Apc _ _ hq))
 |p::R,D,i,hD,hi=>by
  have hlt:i<U.length:=by rw [hD];simp;omega
  have hp:Bo U i=p:=by rw [hD];exact Ja _ _ _ _ hi
  have hr:=Bwl U Z i hlt
  rw [hp]at hr
  have w:IntKind.i64.wrap ((i:Int)+1)=((i+1:Nat):Int):=by rw [Av _ (by omega) (by omega)];simp
  have hfl:((K3 D).filter Qc).length≤D.length:=by
   refine Nat.le_trans (List.length_filter_le _ _) (by simp [K3])
  refine Aaa _ _ _ _ _ _ _ ⟨fun _=> ?_,fun h=> ?_⟩
  ·simp only [Int.toNat_natCast,Al7,Nat.zero_add]
   rw [hr,Mm,w]
   refine⟨⟨by omega,by omega⟩,⟨⟨by rw [List.length_append,Ay];omega,C9 _ _ _⟩, ?_⟩⟩
   refine Call.use (ih p (by rw [hD];simp)) ⟨⟨rfl, ?_⟩, ?_⟩
   ·rw [Afz,Et]
   ·rw [Afz,Bde,vk]
    have e1:K3 (D++[p])=K3 D++[(p.1,p.2.plain)]:=by simp [K3]
    refine⟨fun hk=>⟨?_, ?_⟩,fun hk=> ?_⟩
    ·rw [Ay]
     constructor<;>omega
    ·have hk:Qc (p.1,p.2.plain)=true:=hk
     have e2:Bf ((K3 D).filter Qc)++[Bc (p.1,p.2.plain)]=Bf ((K3 (D++[p])).filter Qc):=by
      rw [e1,List.filter_append]
      simp [hk,Bf]
     rw [e2]
     exact Bau U Z Q hU ih hq R (D++[p]) (i+1) (by rw [hD];simp) (by simp;omega)
    ·have hk:Qc (p.1,p.2.plain)=false:=hk
     have e2:Bf ((K3 D).filter Qc)=Bf ((K3 (D++[p])).filter Qc):=by
      rw [e1,List.filter_append]
      simp [hk,Bf]
     rw [e2]
     exact Bau U Z Q hU ih hq R (D++[p]) (i+1) (by rw [hD];simp) (by simp;omega)
  ·have:=of_decide_eq_false h;omega
theorem Bu2(d:List Pr)(hd:d.length≤1000000000000)(ih:∀p∈d,M8 p.2):Call E0.P Wl [.imm (.sl .any 7 (Bf d))] [] (Is (.imm (.sl .any 7 (Bf (plD d)))) []):=by
 refine Asb _ _ ?_
 refine Call.use (Buz d hd) ⟨⟨rfl,rfl⟩, ?_⟩
 rw [Jr]
 refine Call.use (Bx1 d (by omega)) ⟨⟨rfl,rfl⟩, ?_⟩
 rw [Jr]
 have hl:(Ce d).length=d.length:=Gy ordK d
 refine(Bn9 (Ce d) (by omega)).mono ?_
 rintro r h ⟨Z,rfl,rfl⟩
 refine⟨⟨rfl,rfl⟩, ?_⟩
 rw [Jr]
 have hul:(uniq d).length≤d.length:=by
  have:=(Abc (Ce d)).length_le
  rw [hl]at this
  exact this
 exact Bau (uniq d) Z _ (by omega) (fun p hp=>ih p (A6c hp)) (by rw [←By2];exact⟨rfl,rfl⟩) (uniq d) [] 0 (by simp) rfl
end Go.Proofs.Sim.Se
namespace Go.Proofs.Sim.Se
open Go Go.Proofs Go.Proofs.Sim Go.Proofs.Sim.Va Go.Proofs.Sim.St
abbrev Afy(a b c:Int)(s:List UInt8)(l d:List (List IV)):AV:= .imm (.agg [.int .i64 a, .int .i64 b, .int .i64 c, .str s, .sl .any 6 l, .sl .any 7 d])
structure GK (Q:AV→Heap→Prop) (K:Ex→St→Prop):Prop where
 one:∀(a b c:Int) (s:List UInt8) (l d:List (List IV)),Q (Afy a b c s l d) []→K .ret ⟨[(2,(.ptr (Nm.loc (2:Nat)) 0))],[((Nm.loc (2:Nat)),(.blk Aa [(.imm (.int .i64 a)),(.imm (.int .i64 b)),(.imm (.int .i64 c)),(.imm (.str s)),(.own ((Nm.loc (5:Nat)).cell (4:Nat))),(.imm (.sl .any 7 d))])),(((Nm.loc (5:Nat)).cell (4:Nat)),(.arr (Aa+2) true 6 l))]⟩
 two:∀(a b c:Int) (s:List UInt8) (l d:List (List IV)),Q (Afy a b c s l d) []→K .ret ⟨[(2,(.ptr (Nm.loc (2:Nat)) 0))],[((Nm.loc (2:Nat)),(.blk Aa [(.imm (.int .i64 a)),(.imm (.int .i64 b)),(.imm (.int .i64 c)),(.imm (.str s)),(.own ((Nm.loc (5:Nat)).cell (4:Nat))),(.own ((Nm.loc (5:Nat)).cell (5:Nat)))])),(((Nm.loc (5:Nat)).cell (4:Nat)),(.arr (Aa+2) true 6 l)),(((Nm.loc (5:Nat)).cell (5:Nat)),(.arr (Ae+2) true 7 d))]⟩
theorem Bw6(Q:AV→Heap→Prop):GK Q (Q3 Q):=⟨fun a b c s l d h=>Ayj Q a b c s d l h,fun a b c s l d h=>Ayk Q a b c s l d h⟩
theorem A95 {Q:AV→Heap→Prop} {K:Ex→St→Prop} (h:GK Q K):GK Q (Fj K):=
 ⟨fun a b c s l d hq=>Ayl K a b c s d l (h.one _ _ _ _ _ _ hq),fun a b c s l d hq=>Aym K a b c s l d (h.two _ _ _ _ _ _ hq)⟩
theorem Bxr(v:V)(hd:v.d.length≤1000000000000)(ih:∀p∈v.d,M8 p.2)(x0 x1 x2 y0 y1 y2:Int)(xs ys:List UInt8)(l4:List (List IV))(b0 b1 b2 b3 b4:Bool)(z0 z1 z2:Int)(zs:List UInt8)(l:List (List IV))(p4 p5:List (List IV))
 (Q:AV→Heap→Prop)(K:Ex→St→Prop)(hK:GK Q K)(hq:Q (Afy z0 z1 z2 zs l (Bf (if b4 then plD v.d else []))) []):
 Ui x0 x1 x2 xs l4 (Bf v.d) y0 y1 y2 ys b0 b1 b2 b3 b4 z0 z1 z2 zs p4 p5 l [] K:=by
 refine Awp _ _ _ _ _ _ _ _ _ _ _ _ _ _ _ _ _ _ _ _ _ _ _ _ ⟨fun h=> ?_,fun h=> ?_⟩
 ·subst h
  refine Call.use (Bu2 v.d hd ih) ⟨⟨rfl,rfl⟩, ?_⟩
  exact hK.one _ _ _ _ _ _ hq
 ·subst h
  exact hK.two _ _ _ _ _ _ hq
theorem Bxq(v:V)(hl:v.l.length≤1000000000000)(ihl:∀x∈v.l,M8 x)(hd:v.d.length≤1000000000000)(ih:∀p∈v.d,M8 p.2)(x0 x1 x2 y0 y1 y2:Int)(xs ys:List UInt8)(l4:List (List IV))(b0 b1 b2 b3 b4:Bool)(z0 z1 z2:Int)(zs:List UInt8)(p4 p5:List (List IV))
 (Q:AV→Heap→Prop)(K:Ex→St→Prop)(hK:GK Q K)(hq:Q (Afy z0 z1 z2 zs (Il (v.l.map V.plain)) (Bf (if b4 then plD v.d else []))) []):∀(R D:List V) (i:Nat),v.l=D++R→i=D.length→
 Us (Il v.l) (v.l.length:Int) i x0 x1 x2 xs l4 (Bf v.d) y0 y1 y2 ys b0 b1 b2 b3 b4 z0 z1 z2 zs p4 p5 (Il (D.map V.plain)) [] (Aed K)
 | [],D,i,hD,hi=>by
   simp only [List.append_nil]at hD
   refine Aga _ _ _ _ _ _ _ _ _ _ _ _ _ _ _ _ _ _ _ _ _ _ _ _ _ _ _ ⟨fun h=> ?_,fun _=> ?_⟩
   ·have:=of_decide_eq_true h;rw [hD]at this;omega
   ·refine Ayn _ _ _ _ _ _ _ _ _ _ _ _ _ _ _ _ _ _ _ _ _ _ _ _ ?_
    rw [←hD]
    exact Bxr v hd ih _ _ _ _ _ _ _ _ _ _ _ _ _ _ _ _ _ _ _ _ _ Q _ (A95 hK) hq
 |x::R,D,i,hD,hi=>by
  have hlt:i<v.l.length:=by rw [hD];simp;omega
  have hx:Nf v.l i=x:=by rw [hD,hi];simp [Nf,List.getD_eq_getElem?_getD]
  have hr:=Z4 v.l i hlt
  rw [hx]at hr
  have w:IntKind.i64.wrap ((i:Int)+1)=((i+1:Nat):Int):=by rw [Av _ (by omega) (by omega)];simp
  refine Aga _ _ _ _ _ _ _ _ _ _ _ _ _ _ _ _ _ _ _ _ _ _ _ _ _ _ _ ⟨fun _=> ?_,fun h=> ?_⟩
  ·simp only [Int.toNat_natCast]
   rw [hr,Et,w]
   refine⟨⟨⟨by omega,by rw [Fy];omega⟩,Z5 _ _ _⟩, ?_⟩
   refine Call.use (ihl x (by rw [hD];simp)) ⟨⟨rfl, ?_⟩, ?_⟩
   ·rw [Afz,Et]
   ·rw [Afz,Et]
    refine⟨by rw [Fy,List.length_map];constructor<;>omega, ?_⟩
    have e:Il (D.map V.plain)++[x.plain.row]=Il ((D++[x]).map V.plain):=by simp [Il]
    rw [e]
    exact Bxq v hl ihl hd ih _ _ _ _ _ _ _ _ _ _ _ _ _ _ _ _ _ _ _ _ Q K hK hq R (D++[x]) (i+1) (by rw [hD];simp) (by simp;omega)
  ·have:=of_decide_eq_false h;omega
theorem Bxp(v:V)(hf:v.l.length≤1000000000000)(ihl:∀x∈v.l,M8 x)(hd:v.d.length≤1000000000000)(ih:∀p∈v.d,M8 p.2)(x0 x1 x2 y0 y1 y2:Int)(xs ys:List UInt8)(b0 b1 b2 b3 b4:Bool)(z0 z1 z2:Int)(zs:List UInt8)(p4 p5:List (List IV))
 (Q:AV→Heap→Prop)(K:Ex→St→Prop)(hK:GK Q K)(hq:Q (Afy z0 z1 z2 zs (Il (if b3 then v.l.map V.plain else [])) (Bf (if b4 then plD v.d else []))) []):
 Uh x0 x1 x2 xs (Il v.l) (Bf v.d) y0 y1 y2 ys b0 b1 b2 b3 b4 z0 z1 z2 zs p4 p5 [] [] K:=by
 refine Awo _ _ _ _ _ _ _ _ _ _ _ _ _ _ _ _ _ _ _ _ _ _ _ _ ⟨fun h=> ?_,fun h=> ?_⟩
 ·subst h
  rw [Fy]
  exact Bxq v hf ihl hd ih _ _ _ _ _ _ _ _ _ _ _ _ _ _ _ _ _ _ _ _ Q K hK hq v.l [] 0 rfl rfl
 ·subst h
  exact Bxr v hd ih _ _ _ _ _ _ _ _ _ _ _ _ _ _ _ _ _ _ _ _ _ Q _ (A95 hK) hq
theorem P_9(v:V)(hf:v.l.length≤1000000000000)(ihl:∀x∈v.l,M8 x)(hd:v.d.length≤1000000000000)(ih:∀p∈v.d,M8 p.2)(x0 x1 x2 y0 y1 y2:Int)(xs ys:List UInt8)(b0 b1 b2 b3 b4:Bool)(z0 z1 z2:Int)(p4 p5:List (List IV))
 (Q:AV→Heap→Prop)(K:Ex→St→Prop)(hK:GK Q K)(hq:Q (Afy z0 z1 z2 (if b2 then xs else []) (Il (if b3 then v.l.map V.plain else [])) (Bf (if b4 then plD v.d else []))) []):
 Wp x0 x1 x2 xs (Il v.l) (Bf v.d) y0 y1 y2 ys b0 b1 b2 b3 b4 z0 z1 z2 [] p4 p5 [] [] K:=by
 refine Ax0 _ _ _ _ _ _ _ _ _ _ _ _ _ _ _ _ _ _ _ _ _ _ _ _ ⟨fun h=> ?_,fun h=> ?_⟩
 ·subst h
  exact Bxp v hf ihl hd ih _ _ _ _ _ _ _ _ _ _ _ _ _ _ _ _ _ _ _ Q _ (A95 hK) hq
 ·subst h
  exact Bxp v hf ihl hd ih _ _ _ _ _ _ _ _ _ _ _ _ _ _ _ _ _ _ _ Q _ (A95 hK) hq
theorem P_7(v:V)(hf:v.l.length≤1000000000000)(ihl:∀x∈v.l,M8 x)(hd:v.d.length≤1000000000000)(ih:∀p∈v.d,M8 p.2)(x0 x1 x2 y0 y1 y2:Int)(xs ys:List UInt8)(b0 b1 b2 b3 b4:Bool)(z0 z1:Int)(p4 p5:List (List IV))
 (Q:AV→Heap→Prop)(K:Ex→St→Prop)(hK:GK Q K)(hq:Q (Afy z0 z1 (if b1 then x2 else 0) (if b2 then xs else []) (Il (if b3 then v.l.map V.plain else [])) (Bf (if b4 then plD v.d else []))) []):
 Wo x0 x1 x2 xs (Il v.l) (Bf v.d) y0 y1 y2 ys b0 b1 b2 b3 b4 z0 z1 0 [] p4 p5 [] [] K:=by
 refine Axz _ _ _ _ _ _ _ _ _ _ _ _ _ _ _ _ _ _ _ _ _ _ _ _ ⟨fun h=> ?_,fun h=> ?_⟩
 ·subst h
  exact P_9 v hf ihl hd ih _ _ _ _ _ _ _ _ _ _ _ _ _ _ _ _ _ _ Q _ (A95 hK) hq
 ·subst h
  exact P_9 v hf ihl hd ih _ _ _ _ _ _ _ _ _ _ _ _ _ _ _ _ _ _ Q _ (A95 hK) hq
theorem Bdd(v:V):v.plain.row=if hOK v.k then [.int .i64 v.k, .int .i64 (if hN v.k then v.n else 0), .int .i64 (if hG v.k then v.g else 0), .str (if hS v.k then v.s else []), .sl .any 6 (Il (if hL v.k then v.l.map V.plain else [])), .sl .any 7 (Bf (if hD v.k then plD v.d else []))]else zero.row:=by
 rw [Ao2]
 unfold mkP
 by_cases h1:v.k=1∨v.k=2
 ·rw [if_pos h1,Cn]
  rcases h1 with h |h<;>rw [h]<;>rfl
 rw [if_neg h1]
 by_cases h3:v.k=3∨v.k=4
 ·rw [if_pos h3,Cn]
  rcases h3 with h |h<;>rw [h]<;>rfl
 rw [if_neg h3]
 by_cases h5:v.k=5
 ·rw [if_pos h5,Cn,h5];rfl
 rw [if_neg h5]
 by_cases h6:v.k=6
 ·rw [if_pos h6,Cn,h6];rfl
 rw [if_neg h6]
 by_cases h7:v.k=7
 ·rw [if_pos h7,Cn,h7];rfl
 rw [if_neg h7]
 by_cases h8:v.k=8
 ·rw [if_pos h8,Cn,h8];rfl
 rw [if_neg h8]
 by_cases h0:v.k=0
 ·rw [h0,Cn];rfl
 ·have:hOK v.k=false:=by simp [hOK];omega
  rw [this];rfl
theorem Bav(v:V)(hf:Fit v):M8 v:=by
 induction hf with
 |mk v h1 h2 _ _ ih1 ih2=>
  show Call E0.P Gq [.imm (.agg v.row)] [] _
  rw [Cn]
  refine A3m _ _ _ _ _ _ _ ?_
  refine Call.use (Btt v.k) ⟨⟨rfl,rfl⟩, ?_⟩
  have hp:=Bdd v
  refine⟨fun h=> ?_,fun h=>⟨fun hb=> ?_,fun hb=> ?_⟩⟩
  ·have h:(!hOK v.k)=true:=h
   have h:hOK v.k=false:=by simpa using h
   rw [h]at hp
   refine⟨?_,rfl⟩
   rw [hp,Cn];rfl
  ·have h:(!hOK v.k)=false:=h
   have h:hOK v.k=true:=by simpa using h
   rw [h,if_pos rfl]at hp
   have hb:hN v.k=true:=hb
   refine P_7 v h1 ih1 h2 ih2 _ _ _ _ _ _ _ _ _ _ _ _ _ _ _ _ _ _ _ (Bw6 _) ?_
   rw [hb,if_pos rfl]at hp
   exact⟨by rw [hp];rfl,rfl⟩
  ·have h:(!hOK v.k)=false:=h
   have h:hOK v.k=true:=by simpa using h
   rw [h,if_pos rfl]at hp
   have hb:hN v.k=false:=hb
   refine P_7 v h1 ih1 h2 ih2 _ _ _ _ _ _ _ _ _ _ _ _ _ _ _ _ _ _ _ (Bw6 _) ?_
   rw [hb]at hp
   exact⟨by rw [hp];rfl,rfl⟩
end Go.Proofs.Sim.Se

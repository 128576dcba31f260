import Derived.Test.YtaggabcajidnnaaGreatDoorVsA
namespace Go.Proofs.Sim.Se
open Go Go.Proofs Go.Proofs.Sim Go.Proofs.Sim.Va Go.Proofs.Sim.St
theorem Aig {l:List Pr} (h:Dt l):Cb l=l:=(Af7 ordK h (Fib.refl l)).symm
def A5q(f:Nat):Prop:=∀(P A B S:List Pr) (a m b:Nat),A.length+B.length≤f→a=P.length→m=a+A.length→b=m+B.length→0<A.length→0<B.length→Dt A→Dt B→Sm (P++A++B++S)→
    Call E0.P Dh [.own (.arg 0), .imm (.int .i64 a), .imm (.int .i64 m), .imm (.int .i64 b), .fn Af []] [(.arg 0, .arr 1 true 7 (Bh (P++A++B++S)))] (Is (.tup []) [(.arg 0, .arr 1 true 7 (Bh (P++Cb (A++B)++S)))])
theorem and_true {p q:Prop} [Decidable p] [Decidable q] (h:(bif decide p then decide q else false)=true):p∧q:=by
 by_cases hp:p<;>simp [hp]at h ⊢
 exact h
theorem and_false {p q:Prop} [Decidable p] [Decidable q] (h:(bif decide p then decide q else false)=false):¬p∨¬q:=by
 by_cases hp:p<;>simp [hp]at h ⊢
 exact h
theorem Bio(f:Nat)(ih:A5q f)(P A1 A2 B1 B2 S:List Pr)(a m b mid n s:Nat)(Q:Ex→St→Prop)(ha:a=P.length)(hs:s=a+A1.length)(hm:m=s+A2.length)(hmid:mid=s+B1.length)(hb:b=m+B1.length+B2.length)(hn:n=mid+m)
 (hf1:A1.length+B1.length≤f)(hf2:A2.length+B2.length≤f)(sA:Dt (A1++A2))(sB:Dt (B1++B2))(h1:∀x∈A2,∀y∈B1,bl y.1 x.1=true)(h2:∀x∈A1,∀y∈B2,bl y.1 x.1=false)(hS:Sm (P++A1++A2++B1++B2++S))
 (hq:Q .normal ⟨[],[(.arg 0, .arr 1 true 7 (Bh (P++Cb (A1++A2++(B1++B2))++S)))]⟩):
 Fv a m b mid n s (Bh (P++A1++A2++B1++B2++S)) Q:=by
 have hS':P.length+A1.length+A2.length+B1.length+B2.length+S.length≤4611686018427387904:=by simp [Sm]at hS;omega
 obtain⟨sA1,sA2,_⟩:=Jw.1 sA
 obtain⟨sB1,sB2,_⟩:=Jw.1 sB
 have hfin:P++Cb (A1++A2++(B1++B2))++S=P++Cb (A1++B1)++Cb (A2++B2)++S:=by
  have e:Cb (A1++B1)++Cb (A2++B2)=Cb (A1++A2++(B1++B2)):=Bfo ordK sA sB h1 h2
  rw [←e];simp
 rw [hfin]at hq
 have w:IntKind.i64.wrap ((n:Int) - (s:Int))=((mid+A2.length:Nat):Int):=by rw [Az _ (by omega) (by omega)];omega
 have last:∀Q:Ex→St→Prop,Q .normal ⟨[],[(.arg 0, .arr 1 true 7 (Bh (P++Cb (A1++B1)++Cb (A2++B2)++S)))]⟩→Fx b mid ((mid+A2.length:Nat):Int) (Bh (P++Cb (A1++B1)++A2++B2++S)) Q:=by
  intro Q hq
  refine Xh _ _ _ _ _ (Let.intro ⟨fun h=> ?_,fun h=> ?_⟩)
  ·obtain⟨c1,c2⟩:=and_true h
   refine Call.use (ih (P++Cb (A1++B1)) A2 B2 S mid (mid+A2.length) b hf2 (by simp [Gu ordK];omega) rfl (by omega) (by omega) (by omega) sA2 sB2 (by simp [Sm,Gu ordK];omega)) ⟨⟨rfl,rfl⟩, ?_⟩
   rw [Jm]
   exact hq
  ·have hc:=and_false h
   have:Cb (A2++B2)=A2++B2:=by
    rcases hc with hc |hc
    ·have:A2=[]:=List.eq_nil_of_length_eq_zero (by omega)
     subst this;simpa using Aig sB2
    ·have:B2=[]:=List.eq_nil_of_length_eq_zero (by omega)
     subst this;simpa using Aig sA2
   rw [this]at hq
   simpa using hq
 have middle:∀Q:Ex→St→Prop,Q .normal ⟨[],[(.arg 0, .arr 1 true 7 (Bh (P++Cb (A1++B1)++Cb (A2++B2)++S)))]⟩→Fw a b mid s ((mid+A2.length:Nat):Int) (Bh (P++A1++B1++A2++B2++S)) Q:=by
  intro Q hq
  refine Xg _ _ _ _ _ _ _ (Let.intro ⟨fun h=> ?_,fun h=> ?_⟩)
  ·obtain⟨c1,c2⟩:=and_true h
   have:=ih P A1 B1 (A2++B2++S) a s mid hf1 ha (by omega) (by omega) (by omega) (by omega) sA1 sB1 (by simp [Sm];omega)
   rw [show P++A1++B1++A2++B2++S=P++A1++B1++(A2++B2++S)by simp]
   refine Call.use this ⟨⟨rfl,rfl⟩, ?_⟩
   rw [Jm,show P++Cb (A1++B1)++(A2++B2++S)=P++Cb (A1++B1)++A2++B2++S by simp]
   exact last _ (Cj _ _ hq)
  ·have hc:=and_false h
   have:Cb (A1++B1)=A1++B1:=by
    rcases hc with hc |hc
    ·have:A1=[]:=List.eq_nil_of_length_eq_zero (by omega)
     subst this;simpa using Aig sB1
    ·have:B1=[]:=List.eq_nil_of_length_eq_zero (by omega)
     subst this;simpa using Aig sA1
   have l:=last (Ba Q) (Cj _ _ hq)
   rw [this]at l
   simpa using l
 refine Xf _ _ _ _ _ _ _ _ ?_
 rw [w]
 refine Let.intro ⟨fun h=> ?_,fun h=> ?_⟩
 ·obtain⟨c1,c2⟩:=and_true h
  have:=Bou (P++A1) A2 B1 (B2++S) s m (mid+A2.length) (by omega) (by omega) (by simp;omega) (by omega) (by omega) (by simp [Sm];omega)
  rw [show P++A1++A2++B1++B2++S=P++A1++A2++B1++(B2++S)by simp]
  refine Call.use this ⟨⟨rfl,rfl⟩, ?_⟩
  rw [Jm,show P++A1++B1++A2++(B2++S)=P++A1++B1++A2++B2++S by simp]
  exact middle _ (Cj _ _ hq)
 ·have hc:=and_false h
  have e:P++A1++A2++B1++B2++S=P++A1++B1++A2++B2++S:=by
   rcases hc with hc |hc
   ·have:A2=[]:=List.eq_nil_of_length_eq_zero (by omega)
    subst this;simp
   ·have:B1=[]:=List.eq_nil_of_length_eq_zero (by omega)
    subst this;simp
  rw [e]
  exact middle _ (Cj _ _ hq)
theorem Bm0(P A T:List Pr)(i:Nat)(hi:i<A.length):Bp (P++(A++T)) (P.length+i)=Bp A i:=by
 rw [As8,if_neg (by omega),show P.length+i - P.length=i by omega,As8,if_pos hi]
theorem Bm1(P A B T:List Pr)(i:Nat)(hi:i<B.length):Bp (P++(A++(B++T))) (P.length+A.length+i)=Bp B i:=by
 rw [As8,if_neg (by omega),As8,if_neg (by omega),As8,if_pos (by omega)]
 congr 1;omega
theorem take_at {l:List Pr} {n:Nat} {x:Pr} (h:x∈l.take n):∃i,i<n∧i<l.length∧Bp l i=x:=by
 obtain⟨i,hi,hx⟩:=A77 h
 rw [List.length_take]at hi
 refine⟨i,by omega,by omega, ?_⟩
 rw [←hx]
 simp [Bp,List.getD_eq_getElem?_getD,show i<n by omega]
theorem drop_at {l:List Pr} {n:Nat} {x:Pr} (h:x∈l.drop n):∃i,n≤i∧i<l.length∧Bp l i=x:=by
 obtain⟨i,hi,hx⟩:=A77 h
 rw [List.length_drop]at hi
 refine⟨n+i,by omega,by omega, ?_⟩
 rw [←hx]
 simp [Bp,List.getD_eq_getElem?_getD,List.getElem?_drop]
theorem Blt(f:Nat)(ih:A5q f)(P A B S:List Pr)(a m b mid:Nat)(Q:Ex→St→Prop)(ha:a=P.length)(hm:m=a+A.length)(hb:b=m+B.length)(hA:0<A.length)(hB:0<B.length)
 (hf:A.length+B.length≤f+1)(hm1:2*mid≤a+b)(hm2:a+b≤2*mid+1)(sA:Dt A)(sB:Dt B)(hS:Sm (P++A++B++S))(hR:Q .normal ⟨[],[(.arg 0, .arr 1 true 7 (Bh (P++Cb (A++B)++S)))]⟩)
 (t:Nat)(t1:a≤t)(t2:t≤m)(t3:t≤mid)(t4:mid+m - t≤b)
 (c1:∀i,i<A.length→a+i<t→∀j,j<B.length→mid+m - t≤m+j→bl (Bp B j).1 (Bp A i).1=false)
 (c2:∀i,i<A.length→t≤a+i→∀j,j<B.length→m+j<mid+m - t→bl (Bp B j).1 (Bp A i).1=true):
 Fv a m b mid ((mid+m:Nat):Int) t (Bh (P++A++B++S)) Q:=by
 have hS':P.length+A.length+B.length+S.length≤4611686018427387904:=by simp [Sm]at hS;omega
 have eA:A.take (t - a)++A.drop (t - a)=A:=List.take_append_drop _ _
 have eB:B.take (mid - t)++B.drop (mid - t)=B:=List.take_append_drop _ _
 have l1:(A.take (t - a)).length=t - a:=by rw [List.length_take];omega
 have l2:(A.drop (t - a)).length=m - t:=by rw [List.length_drop];omega
 have l3:(B.take (mid - t)).length=mid - t:=by rw [List.length_take];omega
 have l4:(B.drop (mid - t)).length=b - m - (mid - t):=by rw [List.length_drop];omega
 have h1:∀x∈A.drop (t - a),∀y∈B.take (mid - t),bl y.1 x.1=true:=by
  intro x hx y hy
  obtain⟨i,hi,hiA,rfl⟩:=drop_at hx
  obtain⟨j,hj,hjB,rfl⟩:=take_at hy
  exact c2 i hiA (by omega) j hjB (by omega)
 have h2:∀x∈A.take (t - a),∀y∈B.drop (mid - t),bl y.1 x.1=false:=by
  intro x hx y hy
  obtain⟨i,hi,hiA,rfl⟩:=take_at hx
  obtain⟨j,hj,hjB,rfl⟩:=drop_at hy
  exact c1 i hiA (by omega) j hjB (by omega)
 generalize A.take (t - a)=A1 at*
 generalize A.drop (t - a)=A2 at*
 generalize B.take (mid - t)=B1 at*
 generalize B.drop (mid - t)=B2 at*
 subst eA
 subst eB
 have e:P++(A1++A2)++(B1++B2)++S=P++A1++A2++B1++B2++S:=by simp
 rw [e]at hS ⊢
 exact Bio f ih P A1 A2 B1 B2 S a m b mid (mid+m) t _ ha (by omega) (by omega) (by omega) (by omega) rfl (by omega) (by omega) sA sB h1 h2 hS hR
theorem Blu(f:Nat)(ih:A5q f)(P A B S:List Pr)(a m b mid:Nat)(Q:Ex→St→Prop)(ha:a=P.length)(hm:m=a+A.length)(hb:b=m+B.length)(hA:0<A.length)(hB:0<B.length)(_hA1:A.length≠1)(_hB1:B.length≠1)
 (hf:A.length+B.length≤f+1)(hm1:2*mid≤a+b)(hm2:a+b≤2*mid+1)(sA:Dt A)(sB:Dt B)(hS:Sm (P++A++B++S))(s0 r0:Nat)(hR:Q .normal ⟨[],[(.arg 0, .arr 1 true 7 (Bh (P++Cb (A++B)++S)))]⟩)
 (k1:s0≤r0)(k2:a≤s0)(k3:r0≤m)(k4:r0≤mid)(k5:mid+m - s0≤b)(k6:s0=a∨mid+m - s0=b)(k7:r0=m∨r0=mid):
 Cy a m b mid ((mid+m:Nat):Int) s0 r0 ((mid+m - 1:Nat):Int) (Bh (P++A++B++S)) (Jd Q):=by
 have hS':P.length+A.length+B.length+S.length≤4611686018427387904:=by simp [Sm]at hS;omega
 have hL:P++A++B++S=P++(A++(B++S)):=by simp
 have hlen:(P++A++B++S).length=P.length+A.length+B.length+S.length:=by simp;omega
 have atA':∀i,i<A.length→Bp (P++A++B++S) (a+i)=Bp A i:=fun i hi=>by
  rw [hL,ha];exact Bm0 P A (B++S) i hi
 have atB':∀i,i<B.length→Bp (P++A++B++S) (m+i)=Bp B i:=fun i hi=>by
  rw [hL,show m+i=P.length+A.length+i by omega];exact Bm1 P A B S i hi
 refine Boo a m b mid (mid+m) (mid+m - 1) _ _ hS (r0 - s0) s0 r0 (by omega) k1 (by omega) (by omega) (fun c hc1 hc2=>⟨by omega,by omega⟩) fun t h1 h2 h3 h4=> ?_
 refine Yx _ _ _ _ _ _ _ _ ?_
 have cc:t≤m∧t≤mid∧mid+m - t≤b∧a≤t:=by omega
 refine Blt f ih P A B S a m b mid _ ha hm hb hA hB hf hm1 hm2 sA sB hS (Cj _ _ hR) t cc.2.2.2 cc.1 cc.2.1 cc.2.2.1 (fun i hi hit j hj hjt=> ?_) (fun i hi hit j hj hjt=> ?_)
 ·by_cases hst:s0<t
  ·have h3:=h3 hst
   have x1:mid+m - 1 - (t - 1)=m+(mid - t):=by omega
   have x2:t - 1=a+(t - 1 - a):=by omega
   rw [x1]at h3
   rw [x2,atA' _ (by omega),atB' _ (by omega)]at h3
   exact ordK.le_tr (sorted_at sA i (t - 1 - a) (by omega) (by omega)) (ordK.le_tr h3 (sorted_at sB (mid - t) j (by omega) hj))
  ·omega
 ·by_cases htr:t<r0
  ·have h4:=h4 htr
   have x1:mid+m - 1 - t=m+(mid - 1 - t):=by omega
   obtain⟨q,hq⟩:∃q,t=a+q:=⟨t - a,by omega⟩
   rw [x1,atB' _ (by omega)]at h4
   rw [hq,atA' q (by omega)]at h4
   rw [←hq]at h4
   exact Bb0 (sorted_at sB j (mid - 1 - t) (by omega) (by omega)) (Bjf h4 (sorted_at sA q i (by omega) hi))
  ·omega
theorem Bi5:∀f,A5q f:=by
 intro f
 induction f with
 |zero=>intro P A B S a m b hf ha hm hb hA hB;omega
 |succ f ih=>
  intro P A B S a m b hf ha hm hb hA hB sA sB hS
  have hS':P.length+A.length+B.length+S.length≤4611686018427387904:=by simp [Sm]at hS;omega
  have hL:P++A++B++S=P++(A++(B++S)):=by simp
  have atA:=fun i hi=>Bm0 P A (B++S) i hi
  have atB:=fun i hi=>Bm1 P A B S i hi
  have hlen:(P++A++B++S).length=P.length+A.length+B.length+S.length:=by simp;omega
  have w1:IntKind.i64.wrap ((m:Int) - (a:Int))=((A.length:Nat):Int):=by rw [Az _ (by omega) (by omega)];omega
  have w2:IntKind.i64.wrap ((b:Int) - (m:Int))=((B.length:Nat):Int):=by rw [Az _ (by omega) (by omega)];omega
  refine Aam _ _ _ _ _ ?_
  rw [w1]
  refine⟨fun h=> ?_,fun hA1=> ?_⟩
  ·
   have hA1:A.length=1:=by have:=of_decide_eq_true h;omega
   obtain⟨x,rfl⟩:∃x,A=[x]:=by
    match A,hA1 with
    | [x],_=>exact⟨x,rfl⟩
   have hx:Bp (P++[x]++B++S) a=x:=by
    have:=atA 0 (by simp)
    rw [←hL,Nat.add_zero, ←ha]at this
    rw [this];rfl
   simp only [List.length_singleton]at hm hlen
   have atB':∀i,i<B.length→Bp (P++[x]++B++S) (m+i)=Bp B i:=fun i hi=>by
    have:=atB i hi
    rw [←hL]at this
    rw [show m+i=P.length+ [x].length+i by simp;omega,this]
   refine Bph a _ _ hS (by omega) (b - m) m b (by omega) (by omega) (by omega) fun t h1 h2 h3 h4=> ?_
   rw [hx]at h3 h4
   refine Yu _ _ _ _ _ ?_
   refine Yl _ _ _ _ ?_
   have e1:P++[x]++B++S=P++x::(B.take (t - m)++(B.drop (t - m)++S)):=by
    have:B.take (t - m)++(B.drop (t - m)++S)=B++S:=by rw [←List.append_assoc,List.take_append_drop]
    rw [this];simp
   rw [e1]
   have hbl:(B.take (t - m)).length=t - m:=by rw [List.length_take];omega
   refine Bix (B.drop (t - m)++S) x t _ (B.take (t - m)) P a ha (by rw [hbl];omega) (by rw [←e1];exact hS) ?_
   refine Yy _ _ (Xa _ _ (Mx _ _ (Yt _ _ _ ⟨rfl, ?_⟩)))
   have:=A9s ordK (key:=pk) (b1:=B.take (t - m)) (b2:=B.drop (t - m)) (x:=x) (by rw [List.take_append_drop];exact sB) (fun y hy=> ?_) (fun y hy=> ?_)
   ·rw [List.take_append_drop]at this
    show [(Nm.arg 0,Entry.arr 1 true 7 (Bh _))]=[(Nm.arg 0,Entry.arr 1 true 7 (Bh (P++srt bl pk (x::B)++S)))]
    rw [←this];simp
   ·obtain⟨i,hi,hiB,rfl⟩:=take_at hy
    have h3:=h3 (by omega)
    rw [show t - 1=m+(t - 1 - m)by omega,atB' _ (by omega)]at h3
    exact Bb0 (sorted_at sB i (t - 1 - m) (by omega) (by omega)) h3
   ·obtain⟨i,hi,hiB,rfl⟩:=drop_at hy
    have h4:=h4 (by omega)
    rw [show t=m+(t - m)by omega,atB' _ (by omega)]at h4
    exact ordK.le_tr h4 (sorted_at sB (t - m) i hi hiB)
  ·have hA1:A.length≠1:=by have:=of_decide_eq_false hA1;omega
   have atA':∀i,i<A.length→Bp (P++A++B++S) (a+i)=Bp A i:=fun i hi=>by
    have:=atA i hi
    rw [←hL]at this
    rw [ha,this]
   have atB':∀i,i<B.length→Bp (P++A++B++S) (m+i)=Bp B i:=fun i hi=>by
    have:=atB i hi
    rw [←hL]at this
    rw [show m+i=P.length+A.length+i by omega,this]
   refine Xb _ _ _ _ _ ?_
   rw [w2]
   refine⟨fun h=> ?_,fun hB1=> ?_⟩
   ·
    have hB1:B.length=1:=by have:=of_decide_eq_true h;omega
    obtain⟨y,rfl⟩:∃y,B=[y]:=by
     match B,hB1 with
     | [y],_=>exact⟨y,rfl⟩
    have hy:Bp (P++A++[y]++S) m=y:=by
     have:=atB' 0 (by simp)
     rw [Nat.add_zero]at this
     rw [this];rfl
    refine Bon m _ _ hS (by omega) (m - a) a m (by omega) (by omega) (by omega) fun t h1 h2 h3 h4=> ?_
    rw [hy]at h3 h4
    refine Yw _ _ _ _ ?_
    refine Xc _ _ _ _ ?_
    have e1:P++A++[y]++S=(P++A.take (t - a))++A.drop (t - a)++y::S:=by
     have:P++A.take (t - a)++A.drop (t - a)=P++A:=by rw [List.append_assoc,List.take_append_drop]
     rw [this];simp
    have hdl:(A.drop (t - a)).length=m - t:=by rw [List.length_drop];omega
    have htl:(A.take (t - a)).length=t - a:=by rw [List.length_take];omega
    have e2:((m:Nat):Int)=((t+(m - t):Nat):Int):=by omega
    rw [e1,e2]
    refine Biy (P++A.take (t - a)) y t _ (by simp [htl];omega) (m - t) (A.drop (t - a)) S hdl (by rw [←e1];exact hS) ?_
    refine Yz _ _ (Xd _ _ (Mx _ _ (Yv _ _ (Yq _ _ _ ⟨rfl, ?_⟩))))
    have:=Ap1 ordK (key:=pk) (a1:=A.take (t - a)) (a2:=A.drop (t - a)) (y:=y) (by rw [List.take_append_drop];exact sA) (fun x hx=> ?_) (fun x hx=> ?_)
    ·rw [List.take_append_drop]at this
     show [(Nm.arg 0,Entry.arr 1 true 7 (Bh _))]=[(Nm.arg 0,Entry.arr 1 true 7 (Bh (P++srt bl pk (A++[y])++S)))]
     rw [←this];simp
    ·obtain⟨i,hi,hiA,rfl⟩:=take_at hx
     have h3:=h3 (by omega)
     rw [show t - 1=a+(t - 1 - a)by omega,atA' _ (by omega)]at h3
     exact ordK.le_tr (sorted_at sA i (t - 1 - a) (by omega) (by omega)) h3
    ·obtain⟨i,hi,hiA,rfl⟩:=drop_at hx
     have h4:=h4 (by omega)
     rw [show t=a+(t - a)by omega,atA' _ (by omega)]at h4
     exact Bjf h4 (sorted_at sA (t - a) i hi hiA)
   ·have hB1:B.length≠1:=by have:=of_decide_eq_false hB1;omega
    refine Xe _ _ _ _ _ ⟨by decide, ?_⟩
    rw [half a b (by omega)]
    generalize hmid:(a+b) / 2=mid
    have hm1:2*mid≤a+b:=by omega
    have hm2:a+b≤2*mid+1:=by omega
    clear hmid
    have w3:IntKind.i64.wrap ((mid:Int)+(m:Int))=((mid+m:Nat):Int):=by rw [Az _ (by omega) (by omega)];simp
    rw [w3]
    have w5:IntKind.i64.wrap (((mid+m:Nat):Int) - 1)=((mid+m - 1:Nat):Int):=by rw [Az _ (by omega) (by omega)];omega
    have srch:=fun s0 r0=>Blu f ih P A B S a m b mid (Ba (Ba (Ec (Bh (P++A++B++S)) (Is (.tup []) [(.arg 0, .arr 1 true 7 (Bh (P++Cb (A++B)++S)))])))) ha hm hb hA hB hA1 hB1 hf hm1 hm2 sA sB hS s0 r0 (Cj _ _ (Cj _ _ (Yr _ _ _ ⟨rfl,rfl⟩)))
    refine⟨fun h=> ?_,fun h=> ?_⟩
    ·have hlt:mid<m:=by have:=of_decide_eq_true h;omega
     have w4:IntKind.i64.wrap (((mid+m:Nat):Int) - (b:Int))=((mid+m - b:Nat):Int):=by rw [Az _ (by omega) (by omega)];omega
     rw [w4]
     refine L8 _ _ _ _ _ _ _ _ _ ?_
     rw [w5]
     exact srch (mid+m - b) mid (by omega) (by omega) (by omega) (by omega) (by omega) (.inr (by omega)) (.inr rfl)
    ·have hge:m≤mid:=by have:=of_decide_eq_false h;omega
     refine L8 _ _ _ _ _ _ _ _ _ ?_
     rw [w5]
     exact srch a m (by omega) (by omega) (by omega) (by omega) (by omega) (.inl rfl) (.inl rfl)
end Go.Proofs.Sim.Se
namespace Go.Proofs.Sim.Se
open Go Go.Proofs Go.Proofs.Sim Go.Proofs.Sim.Va Go.Proofs.Sim.St
inductive Chk (k:Nat):List Pr→Prop where
 |last (l:List Pr):l.length≤k→Dt l→Chk k l
 |step (c r:List Pr):c.length=k→Dt c→Chk k r→Chk k (c++r)
theorem Chk.sorted {k:Nat} {l:List Pr} (h:Chk k l)(hl:l.length≤k):Dt l:=by
 cases h with
 |last _ h1 h2=>exact h2
 |step c r h1 h2 h3=>
  have:r=[]:=List.eq_nil_of_length_eq_zero (by simp at hl;omega)
  subst this;simpa using h2
theorem Chk.two {k:Nat} {l:List Pr} (h:Chk k l)(hl:k<l.length):∃c r,l=c++r∧c.length=k∧Dt c∧Chk k r:=by
 cases h with
 |last _ h1 h2=>omega
 |step c r h1 h2 h3=>exact⟨c,r,rfl,h1,h2,h3⟩
theorem Bjp(n:Nat)(rows:List (List IV))(R:AV→Heap→Prop):∀(f:Nat) (P X:List Pr),X.length≤f→n=P.length+X.length→n≤4611686018427387904→
 (∀Y,Chk 20 Y→Ba0 Y X→Db n 20 (Bh (P++Y)) (Gx (Ey rows R)))→
 Gz n 20 (P.length:Int) ((P.length+20:Nat):Int) (Bh (P++X)) (Kj rows R):=by
 intro f
 induction f using Nat.strongRecOn with
 |_ f ih=>
 intro P X hf hn hm hq
 refine Aa4 _ _ _ _ _ _ ⟨fun h=> ?_,fun h=> ?_⟩
 ·have hle:P.length+20≤n:=by have:=of_decide_eq_true h;omega
  obtain⟨c,X,rfl,hc⟩:∃c r,X=c++r∧c.length=20:=⟨X.take 20,X.drop 20,(List.take_append_drop 20 X).symm,by simp;omega⟩
  simp only [List.length_append]at hf hn
  have:=Bi3 P c X P.length (P.length+20) rfl (by omega) (by simp [Sm];omega)
  rw [show P++(c++X)=P++c++X by simp]
  refine Call.use this ⟨⟨rfl,rfl⟩, ?_⟩
  rw [Jm]
  have w:IntKind.i64.wrap (((P.length+20:Nat):Int)+20)=((P.length+20+20:Nat):Int):=by rw [Az _ (by omega) (by omega)];simp
  rw [w]
  have hl:(P++Cb c).length=P.length+20:=by simp [Gu ordK,hc]
  have:=ih X.length (by omega) (P++Cb c) X (Nat.le_refl _) (by omega) hm (fun Y h1 h2=>by
   rw [show P++Cb c++Y=P++(Cb c++Y)by simp]
   exact hq _ (.step _ _ (by rw [Gu ordK,hc]) (Jy ordK c) h1) (Fib.app (Mm ordK c) h2))
  rw [hl]at this
  exact this
 ·have hgt:n<P.length+20:=by have:=of_decide_eq_false h;omega
  refine Aax _ _ _ _ _ _ ?_
  refine Aal _ _ _ _ _ ?_
  have:=Bi3 P X [] P.length n rfl hn (by simp [Sm];omega)
  simp only [List.append_nil]at this
  refine Call.use this ⟨⟨rfl,rfl⟩, ?_⟩
  rw [Jm]
  exact hq _ (.last _ (by rw [Gu ordK];omega) (Jy ordK X)) (Mm ordK X)
theorem Bmb(n k:Nat)(hk:0<k)(hkn:k<n)(hm:n≤2305843009213693952)(Q:Ex→St→Prop):∀(f:Nat) (P X:List Pr),X.length≤f→n=P.length+X.length→Chk k X→
 (∀Y,Chk (2*k) Y→Ba0 Y X→Db n ((2*k:Nat):Int) (Bh (P++Y)) Q)→
 Gt n k (P.length:Int) ((P.length+2*k:Nat):Int) (Bh (P++X)) (Kk Q):=by
 intro f
 have wk:IntKind.i64.wrap ((2:Int)*(k:Int))=((2*k:Nat):Int):=by rw [Az _ (by omega) (by omega)];simp
 have wk2:IntKind.i64.wrap ((k:Int)*(2:Int))=((2*k:Nat):Int):=by rw [Az _ (by omega) (by omega)];omega
 induction f using Nat.strongRecOn with
 |_ f ih=>
 intro P X hf hn hX hq
 have wp:IntKind.i64.wrap ((P.length:Int)+(k:Int))=((P.length+k:Nat):Int):=by rw [Az _ (by omega) (by omega)];simp
 refine Zj _ _ _ _ _ _ ⟨fun h=> ?_,fun h=> ?_⟩
 ·have hle:P.length+2*k≤n:=by have:=of_decide_eq_true h;omega
  obtain⟨c,X,rfl,hc,sc,hX⟩:=hX.two (by omega)
  simp only [List.length_append]at hf hn
  obtain⟨d,X,rfl,hd,sd,hX⟩:∃d r,X=d++r∧d.length=k∧Dt d∧Chk k r:=by
   by_cases he:k<X.length
   ·exact hX.two he
   ·exact⟨X,[],by simp,by omega,hX.sorted (by omega), .last _ (Nat.zero_le _) List.Pairwise.nil⟩
  simp only [List.length_append]at hf hn
  have:=Bi5 (c.length+d.length) P c d X P.length (P.length+k) (P.length+2*k) (Nat.le_refl _) rfl (by omega) (by omega) (by omega) (by omega) sc sd (by simp [Sm];omega)
  rw [wp,show P++(c++(d++X))=P++c++d++X by simp]
  refine Call.use this ⟨⟨rfl,rfl⟩, ?_⟩
  rw [Jm,wk]
  have w:IntKind.i64.wrap (((P.length+2*k:Nat):Int)+((2*k:Nat):Int))=((P.length+2*k+2*k:Nat):Int):=by rw [Az _ (by omega) (by omega)];omega
  rw [w]
  have hl:(P++Cb (c++d)).length=P.length+2*k:=by simp [Gu ordK];omega
  have:=ih X.length (by omega) (P++Cb (c++d)) X (Nat.le_refl _) (by omega) hX (fun Y h1 h2=>by
   rw [show P++Cb (c++d)++Y=P++(Cb (c++d)++Y)by simp]
   refine hq _ (.step _ _ (by rw [Gu ordK];simp;omega) (Jy ordK _) h1) ?_
   rw [show c++(d++X)=c++d++X by simp]
   exact Fib.app (Mm ordK _) h2)
  rw [hl]at this
  exact this
 ·have hgt:n<P.length+2*k:=by have:=of_decide_eq_false h;omega
  refine Aa0 _ _ _ _ _ ?_
  refine Zb _ _ _ _ _ ?_
  rw [wp]
  have fin:∀Y,Chk (2*k) Y→Ba0 Y X→Gs n k (Bh (P++Y)) (Gy (Ez Q)):=by
   intro Y h1 h2
   refine Zc _ _ _ _ ?_
   rw [wk2]
   exact Aa1 _ _ _ _ (Aaz _ _ _ _ (hq Y h1 h2))
  refine⟨fun h=> ?_,fun h=> ?_⟩
  ·have hlt:P.length+k<n:=by have:=of_decide_eq_true h;omega
   obtain⟨c,d,rfl,hc,sc,hd⟩:=hX.two (by omega)
   simp only [List.length_append]at hf hn
   have sd:Dt d:=hd.sorted (by omega)
   have:=Bi5 (c.length+d.length) P c d [] P.length (P.length+k) n (Nat.le_refl _) rfl (by omega) (by omega) (by omega) (by omega) sc sd (by simp [Sm];omega)
   simp only [List.append_nil]at this
   rw [show P++(c++d)=P++c++d by simp]
   refine Call.use this ⟨⟨rfl,rfl⟩, ?_⟩
   rw [Jm]
   exact fin _ (.last _ (by rw [Gu ordK];simp;omega) (Jy ordK _)) (Mm ordK _)
  ·have hge:n≤P.length+k:=by have:=of_decide_eq_false h;omega
   exact fin X (.last _ (by omega) (hX.sorted (by omega))) (Fib.refl X)
theorem Bok(n:Nat)(hm:n≤2305843009213693952)(Q:Ex→St→Prop):∀(f k:Nat) (X Y:List Pr),n - k≤f→0<k→n=Y.length→Chk k Y→Ba0 Y X→
 Q (.exit 2) ⟨[],[(.arg 0, .arr 1 true 7 (Bh (Cb X)))]⟩→Db n k (Bh Y) Q:=by
 intro f
 induction f with
 |zero=>
  intro k X Y hf hk hn hY hF hq
  refine Nc _ _ _ _ ⟨fun h=> ?_,fun _=> ?_⟩
  ·have:=of_decide_eq_true h;omega
  ·rw [Af7 ordK (hY.sorted (by omega)) hF];exact hq
 |succ f ih=>
  intro k X Y hf hk hn hY hF hq
  refine Nc _ _ _ _ ⟨fun h=> ?_,fun h=> ?_⟩
  ·have hlt:k<n:=by have:=of_decide_eq_true h;omega
   have wk:IntKind.i64.wrap ((2:Int)*(k:Int))=((2*k:Nat):Int):=by rw [Az _ (by omega) (by omega)];simp
   rw [wk]
   have:=Bmb n k hk hlt hm Q Y.length [] Y (Nat.le_refl _) (by simpa using hn) hY (fun Z h1 h2=>by
    have hl:n=Z.length:=by rw [h2.length];exact hn
    simpa using ih (2*k) X Z (by omega) (by omega) hl h1 (h2.trans hF) hq)
   simpa using this
  ·have:¬(k:Int)<n:=of_decide_eq_false h
   rw [Af7 ordK (hY.sorted (by omega)) hF];exact hq
theorem Bgc(X:List Pr)(hm:X.length≤2305843009213693952):Call E0.P K9 [.own (.arg 0), .imm (.int .i64 (X.length:Int)), .fn Af []] [(.arg 0, .arr 1 true 7 (Bh X))] (Is (.tup []) [(.arg 0, .arr 1 true 7 (Bh (Cb X)))]):=by
 refine Ab0 _ _ _ ?_
 have:=Bjp X.length (Bh X) (Is (.tup []) [(.arg 0, .arr 1 true 7 (Bh (Cb X)))]) X.length [] X (Nat.le_refl _) (by simp) (by omega) (fun Y h1 h2=>by
  have:=Bok X.length hm (Gx (Ey (Bh X) (Is (.tup []) [(.arg 0, .arr 1 true 7 (Bh (Cb X)))]))) (X.length - 20) 20 X Y (Nat.le_refl _) (by decide) (by rw [h2.length]) h1 h2
   (Aay _ _ (Aaw _ _ _ ⟨rfl,rfl⟩))
  simpa using this)
 simpa using this
theorem Bmt(X:List Pr)(hm:X.length≤2305843009213693952):Call E0.P Kl [.own (.arg 0), .fn Af []] [(.arg 0, .arr 1 true 7 (Bh X))] (Is (.tup []) [(.arg 0, .arr 1 true 7 (Bh (Cb X)))]):=by
 refine Abt _ _ ?_
 rw [A7]
 refine Call.use (Bgc X hm) ⟨⟨rfl,rfl⟩, ?_⟩
 rw [Jm]
 exact⟨rfl,rfl⟩
theorem Bjw(X:List Pr)(hm:X.length≤1000000000000):Call E0.P T9 [.imm (.sl .any 7 (Bh X))] [] (Is (.own (.loc 0)) [(.loc 0, .arr 0 true 7 (Bh X))]):=by
 refine Alv _ _ ⟨fun h=>⟨fun _=> ?_,fun h=>(by cases h)⟩,⟨fun h=>(by cases h),fun _=>⟨?_, ?_⟩⟩⟩
 ·have:X=[]:=by simpa [Bh] using h
  subst this
  exact⟨rfl,rfl⟩
 ·rw [A7]
  constructor<;>omega
 ·exact⟨rfl,by simp⟩
end Go.Proofs.Sim.Se
namespace Go.Proofs.Sim.Se
open Go Go.Proofs Go.Proofs.Sim Go.Proofs.Sim.Va Go.Proofs.Sim.St
def Baz(X:List Pr)(r:AV)(h:Heap):Prop:=∃Z,r= .win (.arg 0) 7 0 (compact X).length∧h=[(.arg 0, .arr 1 true 7 (Bh (compact X)++Z))]
theorem A1o(X:List Pr)(rows:List (List IV))(k0 n:Nat)(hn:n≤2305843009213693952):∀(R D G:List Pr) (z:Pr) (k2:Nat),D.length+G.length+1=k0+k2→n=k0+k2+R.length→0<k2→compact X=D++keepD z R→
 Hr (D.length:Int) k0 (n - k0) k2 (Bh (D++G++z::R)) (Ls (Fp rows (Baz X)))
 | [],D,G,z,k2,h1,h2,h3,hc=>by
   simp only [List.length_nil,Nat.add_zero]at h2
   refine O6 _ _ _ _ _ _ ⟨fun h=> ?_,fun _=> ?_⟩
   ·have:=of_decide_eq_true h;omega
   ·refine Ab8 _ _ _ ?_
    refine Abq _ _ _ ?_
    simp only [Int.toNat_natCast]
    have hl:(Bh (D++G++[z])).length=n:=by rw [A7];simp;omega
    rw [Aj5 _ _ _ _ (by rw [hl];omega),hl]
    refine⟨⟨by omega,by omega⟩,⟨⟨by omega,by omega⟩, ?_⟩⟩
    refine Ab7 _ _ _ _ (Ab5 _ _ _ _ _ ⟨List.replicate (n - D.length) [.str [], .int .i64 0, .int .i64 0, .int .i64 0, .str [], .sl .nil 6 [], .sl .nil 7 []], ?_, ?_⟩)
    ·rw [hc];simp [keepD]
    ·have e:(Bh (D++G++[z])).take D.length=Bh D:=by simp [Bh]
     have e2:(Bh (D++G++[z])).drop (D.length+(n - D.length))=[]:=List.drop_eq_nil_of_le (by rw [hl];omega)
     rw [hc]
     simp only [keepD,List.append_nil,Ka,e,e2]
 |y::R,D,G,z,k2,h1,h2,h3,hc=>by
  simp only [List.length_cons]at h2
  have w1:IntKind.i64.wrap ((k2:Int) - 1)=((k2 - 1:Nat):Int):=by rw [Az _ (by omega) (by omega)];omega
  have w2:IntKind.i64.wrap ((k2:Int)+1)=((k2+1:Nat):Int):=by rw [Az _ (by omega) (by omega)];simp
  have w3:IntKind.i64.wrap ((D.length:Int)+1)=((D.length+1:Nat):Int):=by rw [Az _ (by omega) (by omega)];simp
  have e1:D++G++z::y::R=(D++G++[z])++y::R:=by simp
  generalize hL:D++G++z::y::R=L at*
  have hlen:L.length=n:=by rw [←hL];simp;omega
  have g1:Bp L (k0+k2)=y:=by rw [e1];exact Nn _ _ _ _ (by simp;omega)
  have g2:Bp L (k0+(k2 - 1))=z:=by rw [←hL];exact Nn _ _ _ _ (by simp;omega)
  have r1:=Ju L (k0+k2) (by omega)
  have r2:=Ju L (k0+(k2 - 1)) (by omega)
  rw [g1]at r1
  rw [g2]at r2
  refine O6 _ _ _ _ _ _ ⟨fun _=> ?_,fun h=> ?_⟩
  ·rw [w1]
   simp only [Int.toNat_natCast,Aim]
   rw [r1,r2,Ei,Ei,X6]
   refine⟨⟨by omega,by omega⟩,⟨⟨by rw [A7];omega,Dz _ _ _⟩,⟨⟨by omega,by omega⟩,⟨⟨by rw [A7];omega,Dz _ _ _⟩, ?_⟩⟩⟩⟩
   refine Call.use (Bi1 y z) ⟨⟨rfl,rfl⟩, ?_⟩
   show Br (!(y.1 == z.1)) _ _
   refine⟨fun hb=> ?_,fun hb=> ?_⟩
   ·have hne:¬y.1=z.1:=by simpa using hb
    refine⟨⟨by omega,by omega⟩,⟨⟨by rw [A7];omega,Dz _ _ _⟩,⟨⟨by omega,by rw [A7];omega⟩,⟨by rw [A7];omega, ?_⟩⟩⟩⟩
    refine Oz _ _ _ _ _ _ ?_
    rw [w2,w3]
    refine Pt _ _ _ _ _ _ ?_
    obtain⟨q,G',hG⟩:∃q G',G++[z]=q::G':=by
     cases G with
     |nil=>exact⟨z,[],rfl⟩
     |cons a G=>exact⟨a,G++[z],rfl⟩
    have hGl:G'.length=G.length:=by have:=congrArg List.length hG;simpa using this.symm
    have e2:L=D++q::(G'++y::R):=by
     rw [e1,List.append_assoc D,hG];simp
    have s:L.set D.length y=(D++[y])++G'++y::R:=by
     rw [e2,set_mid _ _ _ _ _ rfl];simp
    rw [s]
    have hl2:(D++[y]).length=D.length+1:=by simp
    have:=A1o X rows k0 n hn R (D++[y]) G' y (k2+1) (by simp;omega) (by omega) (by omega) (by rw [hc,keepD,if_neg hne];simp)
    rw [hl2]at this
    exact this
   ·have heq:y.1=z.1:=by simpa using hb
    refine Oz _ _ _ _ _ _ ?_
    rw [w2]
    refine Pt _ _ _ _ _ _ ?_
    have e3:L=D++(G++[z])++y::R:=by rw [e1];simp
    rw [e3]
    exact A1o X rows k0 n hn R D (G++[z]) y (k2+1) (by simp;omega) (by omega) (by omega) (by rw [hc,keepD,if_pos heq])
  ·have:=of_decide_eq_false h
   omega
theorem A91(X:List Pr)(rows:List (List IV))(n:Nat)(hn:n≤2305843009213693952):∀(R P:List Pr) (x:Pr),n=P.length+1+R.length→X=P++x::R→compact X=P++x::keepD x R→
 H9 ((P.length+1:Nat):Int) (Bh (P++x::R)) (Fp rows (Baz X))
 | [],P,x,h,hX,hc=>by
   refine Pz _ _ _ ⟨fun h=> ?_,fun _=> ?_⟩
   ·have:=of_decide_eq_true h
    rw [A7]at this
    simp at this
   ·refine Ab4 _ _ _ (Abs _ _ (Ab3 _ _ _ ⟨[], ?_, ?_⟩))
    ·rw [hc];simp [keepD]
    ·rw [hc];simp [keepD]
 |y::R,P,x,h,hX,hc=>by
  simp only [List.length_cons]at h
  have w1:IntKind.i64.wrap (((P.length+1:Nat):Int) - 1)=((P.length:Nat):Int):=by rw [Az _ (by omega) (by omega)];omega
  have w2:IntKind.i64.wrap (((P.length+1:Nat):Int)+1)=((P.length+1+1:Nat):Int):=by rw [Az _ (by omega) (by omega)];simp
  have e1:P++x::y::R=(P++[x])++y::R:=by simp
  rw [←hX]
  have hlen:X.length=n:=by rw [hX];simp;omega
  have g1:Bp X (P.length+1)=y:=by rw [hX,e1];exact Nn _ _ _ _ (by simp)
  have g2:Bp X P.length=x:=by rw [hX];exact Nn _ _ _ _ rfl
  have r1:=Ju X (P.length+1) (by omega)
  have r2:=Ju X P.length (by omega)
  rw [g1]at r1
  rw [g2]at r2
  refine Pz _ _ _ ⟨fun _=> ?_,fun h=> ?_⟩
  ·rw [w1]
   simp only [Int.toNat_natCast]
   rw [r1,r2,Ei,Ei]
   refine⟨⟨by omega,by rw [A7];omega⟩,⟨⟨by rw [A7];omega,Dz _ _ _⟩,⟨⟨by omega,by rw [A7];omega⟩,⟨⟨by rw [A7];omega,Dz _ _ _⟩, ?_⟩⟩⟩⟩
   refine Call.use (Bi1 y x) ⟨⟨rfl,rfl⟩, ?_⟩
   show Br (y.1 == x.1) _ _
   refine⟨fun hb=> ?_,fun hb=> ?_⟩
   ·have heq:y.1=x.1:=by simpa using hb
    refine⟨⟨by omega,by rw [A7];omega⟩, ?_⟩
    have hl:(Bh X).length=n:=by rw [A7,hlen]
    rw [hl]
    have:=A1o X rows (P.length+1) n hn R (P++[x]) [] y 1 (by simp) (by omega) (by decide) (by rw [hc,keepD,if_pos heq];simp)
    rw [show(P++[x])++[]++y::R=X by rw [hX];simp,show(P++[x]).length=P.length+1 by simp]at this
    exact this
   ·have hne:¬y.1=x.1:=by simpa using hb
    refine Abr _ _ _ ?_
    rw [w2]
    refine Ab6 _ _ _ ?_
    have:=A91 X rows n hn R (P++[x]) y (by simp;omega) (by rw [hX];simp) (by rw [hc,keepD,if_neg hne];simp)
    rw [show(P++[x])++y::R=X by rw [hX];simp,show(P++[x]).length=P.length+1 by simp]at this
    exact this
  ·have:=of_decide_eq_false h
   rw [A7]at this
   omega
theorem Bc7(X:List Pr)(hn:X.length≤2305843009213693952):Call E0.P Mt [.own (.arg 0), .fn Bz []] [(.arg 0, .arr 1 true 7 (Bh X))] (Baz X):=by
 refine Ad2 _ _ ⟨fun h=> ?_,fun h=> ?_⟩
 ·have:=of_decide_eq_true h
  rw [A7]at this
  match X,this with
  | [],_=>exact⟨[],rfl,rfl⟩
  | [x],_=>exact⟨[],rfl,rfl⟩
  |x::y::r,this=>simp at this<;>omega
 ·have:=of_decide_eq_false h
  rw [A7]at this
  cases X with
  |nil=>simp at this
  |cons x R=>exact A91 (x::R) _ (R.length+1) (by simpa using hn) R [] x (by simp;omega) rfl rfl
end Go.Proofs.Sim.Se
namespace Go.Proofs.Sim.Se
open Go Go.Proofs Go.Proofs.Sim Go.Proofs.Sim.Va Go.Proofs.Sim.St
def hN(k:Int):Bool:=decide (k=1∨k=2∨k=7)
def hG(k:Int):Bool:=decide (k=7)
def hS(k:Int):Bool:=decide (k=3∨k=4∨k=8)
def hL(k:Int):Bool:=decide (k=5)
def hD(k:Int):Bool:=decide (k=6∨k=8)
def hOK(k:Int):Bool:=decide (0≤k∧k≤8)
theorem Bi2(k:Int):Call E0.P Ac7 [.imm (.int .i64 k)] [] (Is (.tup [.imm (.agg [.bool (hN k), .bool (hG k), .bool (hS k), .bool (hL k), .bool (hD k)]), .imm (.bool (hOK k))]) []):=by
 have leaf:∀(a b c d e f:Bool),(a=hN k∧b=hG k∧c=hS k∧d=hL k∧e=hD k∧f=hOK k)→Is (.tup [.imm (.agg [.bool (hN k), .bool (hG k), .bool (hS k), .bool (hL k), .bool (hD k)]), .imm (.bool (hOK k))]) [] (.tup [.imm (.agg [.bool a, .bool b, .bool c, .bool d, .bool e]), .imm (.bool f)]) []:=by
  rintro a b c d e f ⟨rfl,rfl,rfl,rfl,rfl,rfl⟩
  exact⟨rfl,rfl⟩
 have val:∀j:Int,k=j→∀a b c d e f,(hN j,hG j,hS j,hL j,hD j,hOK j)=(a,b,c,d,e,f)→a=hN k∧b=hG k∧c=hS k∧d=hL k∧e=hD k∧f=hOK k:=by
  rintro j rfl a b c d e f h
  simp only [Prod.mk.injEq]at h
  exact⟨h.1.symm,h.2.1.symm,h.2.2.1.symm,h.2.2.2.1.symm,h.2.2.2.2.1.symm,h.2.2.2.2.2.symm⟩
 refine A1c _ _ ⟨fun h=> ?_,fun h0=> ?_⟩
 ·exact leaf _ _ _ _ _ _ (val 0 (of_decide_eq_true h) _ _ _ _ _ _ (by decide))
 have h0:¬k=0:=of_decide_eq_false h0
 have c5:∀b:Bool,(b=true→k=1∨k=2)→(b=false→¬k=1∧¬k=2)→Zv k b false false false false false (Pf (Is (.tup [.imm (.agg [.bool (hN k), .bool (hG k), .bool (hS k), .bool (hL k), .bool (hD k)]), .imm (.bool (hOK k))]) [])):=by
  intro b hb1 hb2
  refine Awi _ _ _ _ _ _ _ _ ⟨fun h=> ?_,fun h=> ?_⟩
  ·refine Kw _ _ _ _ _ _ _ (leaf _ _ _ _ _ _ ?_)
   rcases hb1 h with e |e
   ·exact val 1 e _ _ _ _ _ _ (by decide)
   ·exact val 2 e _ _ _ _ _ _ (by decide)
  ·obtain⟨h1,h2⟩:=hb2 h
   have c8:∀b:Bool,(b=true→k=3∨k=4)→(b=false→¬k=3∧¬k=4)→Zw k b false false false false false (Um (Pf (Is (.tup [.imm (.agg [.bool (hN k), .bool (hG k), .bool (hS k), .bool (hL k), .bool (hD k)]), .imm (.bool (hOK k))]) []))):=by
    intro b hb1 hb2
    refine Awj _ _ _ _ _ _ _ _ ⟨fun h=> ?_,fun h=> ?_⟩
    ·refine N7 _ _ _ _ _ _ _ (Kw _ _ _ _ _ _ _ (leaf _ _ _ _ _ _ ?_))
     rcases hb1 h with e |e
     ·exact val 3 e _ _ _ _ _ _ (by decide)
     ·exact val 4 e _ _ _ _ _ _ (by decide)
    obtain⟨h3,h4⟩:=hb2 h
    refine⟨fun h=>N7 _ _ _ _ _ _ _ (Kw _ _ _ _ _ _ _ (leaf _ _ _ _ _ _ (val 5 (of_decide_eq_true h) _ _ _ _ _ _ (by decide)))),fun h5=> ?_⟩
    refine⟨fun h=>N7 _ _ _ _ _ _ _ (Kw _ _ _ _ _ _ _ (leaf _ _ _ _ _ _ (val 6 (of_decide_eq_true h) _ _ _ _ _ _ (by decide)))),fun h6=> ?_⟩
    refine⟨fun h=>N7 _ _ _ _ _ _ _ (Kw _ _ _ _ _ _ _ (leaf _ _ _ _ _ _ (val 7 (of_decide_eq_true h) _ _ _ _ _ _ (by decide)))),fun h7=> ?_⟩
    refine⟨fun h=>N7 _ _ _ _ _ _ _ (Kw _ _ _ _ _ _ _ (leaf _ _ _ _ _ _ (val 8 (of_decide_eq_true h) _ _ _ _ _ _ (by decide)))),fun h8=> ?_⟩
    have h5:¬k=5:=of_decide_eq_false h5
    have h6:¬k=6:=of_decide_eq_false h6
    have h7:¬k=7:=of_decide_eq_false h7
    have h8:¬k=8:=of_decide_eq_false h8
    refine Axc _ _ _ _ _ _ (Axb _ _ _ _ _ _ (Au9 _ _ _ _ _ _ (Axa _ _ _ _ _ _ _ (leaf _ _ _ _ _ _ ?_))))
    simp only [hN,hG,hS,hL,hD,hOK]
    have:¬(0≤k∧k≤8):=by omega
    simp [h1,h2,h3,h4,h5,h6,h7,h8,this]
   refine⟨fun h=> ?_,fun h=> ?_⟩
   ·have e:=of_decide_eq_true h
    exact c8 _ (fun _=> .inl e) (fun h'=>absurd e (of_decide_eq_false h'))
   ·have e:¬k=3:=of_decide_eq_false h
    exact c8 _ (fun h'=> .inr (of_decide_eq_true h')) (fun h'=>⟨e,of_decide_eq_false h'⟩)
 refine⟨fun h=> ?_,fun h=> ?_⟩
 ·have e:=of_decide_eq_true h
  exact c5 _ (fun _=> .inl e) (fun h'=>absurd e (of_decide_eq_false h'))
 ·have e:¬k=1:=of_decide_eq_false h
  exact c5 _ (fun h'=> .inr (of_decide_eq_true h')) (fun h'=>⟨e,of_decide_eq_false h'⟩)
abbrev Mo(l:List V):List (List IV):=l.map V.row
abbrev Nh(l:List V)(n:Nat):V:=l.getD n default
theorem Ig(l:List V):(Mo l).length=l.length:=List.length_map ..
theorem Abo(l:List V)(n:Nat)(h:n<l.length):(Mo l).getD n []=(Nh l n).row:=by
 simp [List.getD_eq_getElem?_getD,h]
theorem Gm(v:V): [.int .i64 (gI v.row 0), .int .i64 (gI v.row 1), .int .i64 (gI v.row 2), .str (gS v.row 3), .sl .any 6 (gR v.row 4), .sl .any 7 (gR v.row 5)]=v.row:=by
 rw [Co];rfl
theorem Abp(v:V)(e f:Nat):Bg [.int .i64, .int .i64, .int .i64, .str, .sl 6 e, .sl 7 f] v.row=true:=by
 rw [Co];rfl
theorem Qh(p:Pr): [.int .i64 (gI (Bf p) 1), .int .i64 (gI (Bf p) 2), .int .i64 (gI (Bf p) 3), .str (gS (Bf p) 4), .sl .any 6 (gR (Bf p) 5), .sl .any 7 (gR (Bf p) 6)]=p.2.row:=by
 rw [I8,Co];rfl
theorem Amo(v:V):Ad (.imm (.agg v.row))=v.row:=rfl
theorem vk(v:V):gI v.row 0=v.k:=by rw [Co];rfl
theorem Blk(ps:List Pr)(Z:List (List IV))(n:Nat)(h:n<ps.length):List.take 7 (List.drop 0 ((Bh ps++Z).getD n []))=Bf (Bp ps n):=by
 have:(Bh ps++Z).getD n []=(Bh ps).getD n []:=by
  simp only [List.getD_eq_getElem?_getD]
  rw [List.getElem?_append_left (by rw [A7];exact h)]
 rw [this,Ju ps n h]
inductive Fit:V→Prop where
 |mk (v:V):v.l.length≤1000000000000→v.d.length≤1000000000000→(∀x∈v.l,Fit x)→(∀p∈v.d,Fit p.2)→Fit v
abbrev K3(v:V):Prop:=Call E0.P El [.imm (.agg v.row)] [] (Is (.imm (.agg v.plain.row)) [])
theorem Be8(p:Pr)(v:V): [.str (gS (Bf p) 0), .int .i64 (gI v.row 0), .int .i64 (gI v.row 1), .int .i64 (gI v.row 2), .str (gS v.row 3), .sl .any 6 (gR v.row 4), .sl .any 7 (gR v.row 5)]=Bf (p.1,v):=by
 rw [I8,I8,Co];rfl
theorem A1r(U:List Pr)(Z:List (List IV))(Q:AV→Heap→Prop)(hU:U.length≤1000000000000)(ih:∀p∈U,K3 p.2)(hq:Q (.imm (.sl .any 7 (Bh ((Lv U).filter Ut)))) []):∀(R D:List Pr) (i:Nat),U=D++R→i=D.length→
 Ji 0 U.length (U.length:Int) i (Bh ((Lv D).filter Ut)) (Bh U++Z) (Sy Q)
 | [],D,i,hD,hi=>by
   simp only [List.append_nil]at hD
   subst hD
   refine Yd _ _ _ _ _ _ _ ⟨fun h=> ?_,fun _=> ?_⟩
   ·have:=of_decide_eq_true h;omega
   ·exact Aku _ _ (Ai6 _ _ (Akt _ _ hq))
 |p::R,D,i,hD,hi=>by
  have hlt:i<U.length:=by rw [hD];simp;omega
  have hp:Bp U i=p:=by rw [hD];exact Nn _ _ _ _ hi
  have hr:=Blk U Z i hlt
  rw [hp]at hr
  have w:IntKind.i64.wrap ((i:Int)+1)=((i+1:Nat):Int):=by rw [Az _ (by omega) (by omega)];simp
  have hfl:((Lv D).filter Ut).length≤D.length:=by
   refine Nat.le_trans (List.length_filter_le _ _) (by simp [Lv])
  refine Yd _ _ _ _ _ _ _ ⟨fun _=> ?_,fun h=> ?_⟩
  ·simp only [Int.toNat_natCast,Aim,Nat.zero_add]
   rw [hr,Qh,w]
   refine⟨⟨by omega,by omega⟩,⟨⟨by rw [List.length_append,A7];omega,Dz _ _ _⟩, ?_⟩⟩
   refine Call.use (ih p (by rw [hD];simp)) ⟨⟨rfl, ?_⟩, ?_⟩
   ·rw [Amo,Gm]
   ·rw [Amo,Be8,vk]
    have e1:Lv (D++[p])=Lv D++[(p.1,p.2.plain)]:=by simp [Lv]
    refine⟨fun hk=>⟨?_, ?_⟩,fun hk=> ?_⟩
    ·rw [A7]
     constructor<;>omega
    ·have hk:Ut (p.1,p.2.plain)=true:=hk
     have e2:Bh ((Lv D).filter Ut)++[Bf (p.1,p.2.plain)]=Bh ((Lv (D++[p])).filter Ut):=by
      rw [e1,List.filter_append]
      simp [hk,Bh]
     rw [e2]
     exact A1r U Z Q hU ih hq R (D++[p]) (i+1) (by rw [hD];simp) (by simp;omega)
    ·have hk:Ut (p.1,p.2.plain)=false:=hk
     have e2:Bh ((Lv D).filter Ut)=Bh ((Lv (D++[p])).filter Ut):=by
      rw [e1,List.filter_append]
      simp [hk,Bh]
     rw [e2]
     exact A1r U Z Q hU ih hq R (D++[p]) (i+1) (by rw [hD];simp) (by simp;omega)
  ·have:=of_decide_eq_false h;omega
theorem Bjy(d:List Pr)(hd:d.length≤1000000000000)(ih:∀p∈d,K3 p.2):Call E0.P U6 [.imm (.sl .any 7 (Bh d))] [] (Is (.imm (.sl .any 7 (Bh (Sa d)))) []):=by
 refine Am0 _ _ ?_
 refine Call.use (Bjw d hd) ⟨⟨rfl,rfl⟩, ?_⟩
 rw [Jm]
 refine Call.use (Bmt d (by omega)) ⟨⟨rfl,rfl⟩, ?_⟩
 rw [Jm]
 have hl:(Cb d).length=d.length:=Gu ordK d
 refine(Bc7 (Cb d) (by omega)).mono ?_
 rintro r h ⟨Z,rfl,rfl⟩
 refine⟨⟨rfl,rfl⟩, ?_⟩
 rw [Jm]
 have hul:(uniq d).length≤d.length:=by
  have:=(Zq (Cb d)).length_le
  rw [hl]at this
  exact this
 exact A1r (uniq d) Z _ (by omega) (fun p hp=>ih p (Ap8 hp)) (by rw [←Bn2];exact⟨rfl,rfl⟩) (uniq d) [] 0 (by simp) rfl
end Go.Proofs.Sim.Se
namespace Go.Proofs.Sim.Se
open Go Go.Proofs Go.Proofs.Sim Go.Proofs.Sim.Va Go.Proofs.Sim.St
abbrev Aqa(a b c:Int)(s:List UInt8)(l d:List (List IV)):AV:= .imm (.agg [.int .i64 a, .int .i64 b, .int .i64 c, .str s, .sl .any 6 l, .sl .any 7 d])
structure GK (Q:AV→Heap→Prop) (K:Ex→St→Prop):Prop where
 one:∀(a b c:Int) (s:List UInt8) (l d:List (List IV)),Q (Aqa a b c s l d) []→K .ret ⟨[(2,(.ptr (Nm.loc (2:Nat)) 0))],[((Nm.loc (2:Nat)),(.blk Aa [(.imm (.int .i64 a)),(.imm (.int .i64 b)),(.imm (.int .i64 c)),(.imm (.str s)),(.own ((Nm.loc (5:Nat)).cell (4:Nat))),(.imm (.sl .any 7 d))])),(((Nm.loc (5:Nat)).cell (4:Nat)),(.arr (Aa+2) true 6 l))]⟩
 two:∀(a b c:Int) (s:List UInt8) (l d:List (List IV)),Q (Aqa a b c s l d) []→K .ret ⟨[(2,(.ptr (Nm.loc (2:Nat)) 0))],[((Nm.loc (2:Nat)),(.blk Aa [(.imm (.int .i64 a)),(.imm (.int .i64 b)),(.imm (.int .i64 c)),(.imm (.str s)),(.own ((Nm.loc (5:Nat)).cell (4:Nat))),(.own ((Nm.loc (5:Nat)).cell (5:Nat)))])),(((Nm.loc (5:Nat)).cell (4:Nat)),(.arr (Aa+2) true 6 l)),(((Nm.loc (5:Nat)).cell (5:Nat)),(.arr (Ah+2) true 7 d))]⟩
theorem Bl3(Q:AV→Heap→Prop):GK Q (Pv Q):=⟨fun a b c s l d h=>Ash Q a b c s d l h,fun a b c s l d h=>Asi Q a b c s l d h⟩
theorem A1f {Q:AV→Heap→Prop} {K:Ex→St→Prop} (h:GK Q K):GK Q (Fg K):=
 ⟨fun a b c s l d hq=>Asj K a b c s d l (h.one _ _ _ _ _ _ hq),fun a b c s l d hq=>Asl K a b c s l d (h.two _ _ _ _ _ _ hq)⟩
theorem Bmk(v:V)(hd:v.d.length≤1000000000000)(ih:∀p∈v.d,K3 p.2)(x0 x1 x2 y0 y1 y2:Int)(xs ys:List UInt8)(l4:List (List IV))(b0 b1 b2 b3 b4:Bool)(z0 z1 z2:Int)(zs:List UInt8)(l:List (List IV))(p4 p5:List (List IV))
 (Q:AV→Heap→Prop)(K:Ex→St→Prop)(hK:GK Q K)(hq:Q (Aqa z0 z1 z2 zs l (Bh (if b4 then Sa v.d else []))) []):
 Sq x0 x1 x2 xs l4 (Bh v.d) y0 y1 y2 ys b0 b1 b2 b3 b4 z0 z1 z2 zs p4 p5 l [] K:=by
 refine Aqr _ _ _ _ _ _ _ _ _ _ _ _ _ _ _ _ _ _ _ _ _ _ _ _ ⟨fun h=> ?_,fun h=> ?_⟩
 ·subst h
  refine Call.use (Bjy v.d hd ih) ⟨⟨rfl,rfl⟩, ?_⟩
  exact hK.one _ _ _ _ _ _ hq
 ·subst h
  exact hK.two _ _ _ _ _ _ hq
theorem Bmj(v:V)(hl:v.l.length≤1000000000000)(ihl:∀x∈v.l,K3 x)(hd:v.d.length≤1000000000000)(ih:∀p∈v.d,K3 p.2)(x0 x1 x2 y0 y1 y2:Int)(xs ys:List UInt8)(l4:List (List IV))(b0 b1 b2 b3 b4:Bool)(z0 z1 z2:Int)(zs:List UInt8)(p4 p5:List (List IV))
 (Q:AV→Heap→Prop)(K:Ex→St→Prop)(hK:GK Q K)(hq:Q (Aqa z0 z1 z2 zs (Mo (v.l.map V.plain)) (Bh (if b4 then Sa v.d else []))) []):∀(R D:List V) (i:Nat),v.l=D++R→i=D.length→
 Tc (Mo v.l) (v.l.length:Int) i x0 x1 x2 xs l4 (Bh v.d) y0 y1 y2 ys b0 b1 b2 b3 b4 z0 z1 z2 zs p4 p5 (Mo (D.map V.plain)) [] (Ab9 K)
 | [],D,i,hD,hi=>by
   simp only [List.append_nil]at hD
   refine Adu _ _ _ _ _ _ _ _ _ _ _ _ _ _ _ _ _ _ _ _ _ _ _ _ _ _ _ ⟨fun h=> ?_,fun _=> ?_⟩
   ·have:=of_decide_eq_true h;rw [hD]at this;omega
   ·refine Asm _ _ _ _ _ _ _ _ _ _ _ _ _ _ _ _ _ _ _ _ _ _ _ _ ?_
    rw [←hD]
    exact Bmk v hd ih _ _ _ _ _ _ _ _ _ _ _ _ _ _ _ _ _ _ _ _ _ Q _ (A1f hK) hq
 |x::R,D,i,hD,hi=>by
  have hlt:i<v.l.length:=by rw [hD];simp;omega
  have hx:Nh v.l i=x:=by rw [hD,hi];simp [Nh,List.getD_eq_getElem?_getD]
  have hr:=Abo v.l i hlt
  rw [hx]at hr
  have w:IntKind.i64.wrap ((i:Int)+1)=((i+1:Nat):Int):=by rw [Az _ (by omega) (by omega)];simp
  refine Adu _ _ _ _ _ _ _ _ _ _ _ _ _ _ _ _ _ _ _ _ _ _ _ _ _ _ _ ⟨fun _=> ?_,fun h=> ?_⟩
  ·simp only [Int.toNat_natCast]
   rw [hr,Gm,w]
   refine⟨⟨⟨by omega,by rw [Ig];omega⟩,Abp _ _ _⟩, ?_⟩
   refine Call.use (ihl x (by rw [hD];simp)) ⟨⟨rfl, ?_⟩, ?_⟩
   ·rw [Amo,Gm]
   ·rw [Amo,Gm]
    refine⟨by rw [Ig,List.length_map];constructor<;>omega, ?_⟩
    have e:Mo (D.map V.plain)++[x.plain.row]=Mo ((D++[x]).map V.plain):=by simp [Mo]
    rw [e]
    exact Bmj v hl ihl hd ih _ _ _ _ _ _ _ _ _ _ _ _ _ _ _ _ _ _ _ _ Q K hK hq R (D++[x]) (i+1) (by rw [hD];simp) (by simp;omega)
  ·have:=of_decide_eq_false h;omega
theorem Bmi(v:V)(hf:v.l.length≤1000000000000)(ihl:∀x∈v.l,K3 x)(hd:v.d.length≤1000000000000)(ih:∀p∈v.d,K3 p.2)(x0 x1 x2 y0 y1 y2:Int)(xs ys:List UInt8)(b0 b1 b2 b3 b4:Bool)(z0 z1 z2:Int)(zs:List UInt8)(p4 p5:List (List IV))
 (Q:AV→Heap→Prop)(K:Ex→St→Prop)(hK:GK Q K)(hq:Q (Aqa z0 z1 z2 zs (Mo (if b3 then v.l.map V.plain else [])) (Bh (if b4 then Sa v.d else []))) []):
 Sn x0 x1 x2 xs (Mo v.l) (Bh v.d) y0 y1 y2 ys b0 b1 b2 b3 b4 z0 z1 z2 zs p4 p5 [] [] K:=by
 refine Aqq _ _ _ _ _ _ _ _ _ _ _ _ _ _ _ _ _ _ _ _ _ _ _ _ ⟨fun h=> ?_,fun h=> ?_⟩
 ·subst h
  rw [Ig]
  exact Bmj v hf ihl hd ih _ _ _ _ _ _ _ _ _ _ _ _ _ _ _ _ _ _ _ _ Q K hK hq v.l [] 0 rfl rfl
 ·subst h
  exact Bmk v hd ih _ _ _ _ _ _ _ _ _ _ _ _ _ _ _ _ _ _ _ _ _ Q _ (A1f hK) hq
theorem P_9(v:V)(hf:v.l.length≤1000000000000)(ihl:∀x∈v.l,K3 x)(hd:v.d.length≤1000000000000)(ih:∀p∈v.d,K3 p.2)(x0 x1 x2 y0 y1 y2:Int)(xs ys:List UInt8)(b0 b1 b2 b3 b4:Bool)(z0 z1 z2:Int)(p4 p5:List (List IV))
 (Q:AV→Heap→Prop)(K:Ex→St→Prop)(hK:GK Q K)(hq:Q (Aqa z0 z1 z2 (if b2 then xs else []) (Mo (if b3 then v.l.map V.plain else [])) (Bh (if b4 then Sa v.d else []))) []):
 U9 x0 x1 x2 xs (Mo v.l) (Bh v.d) y0 y1 y2 ys b0 b1 b2 b3 b4 z0 z1 z2 [] p4 p5 [] [] K:=by
 refine Ary _ _ _ _ _ _ _ _ _ _ _ _ _ _ _ _ _ _ _ _ _ _ _ _ ⟨fun h=> ?_,fun h=> ?_⟩
 ·subst h
  exact Bmi v hf ihl hd ih _ _ _ _ _ _ _ _ _ _ _ _ _ _ _ _ _ _ _ Q _ (A1f hK) hq
 ·subst h
  exact Bmi v hf ihl hd ih _ _ _ _ _ _ _ _ _ _ _ _ _ _ _ _ _ _ _ Q _ (A1f hK) hq
theorem P_7(v:V)(hf:v.l.length≤1000000000000)(ihl:∀x∈v.l,K3 x)(hd:v.d.length≤1000000000000)(ih:∀p∈v.d,K3 p.2)(x0 x1 x2 y0 y1 y2:Int)(xs ys:List UInt8)(b0 b1 b2 b3 b4:Bool)(z0 z1:Int)(p4 p5:List (List IV))
 (Q:AV→Heap→Prop)(K:Ex→St→Prop)(hK:GK Q K)(hq:Q (Aqa z0 z1 (if b1 then x2 else 0) (if b2 then xs else []) (Mo (if b3 then v.l.map V.plain else [])) (Bh (if b4 then Sa v.d else []))) []):
 U8 x0 x1 x2 xs (Mo v.l) (Bh v.d) y0 y1 y2 ys b0 b1 b2 b3 b4 z0 z1 0 [] p4 p5 [] [] K:=by
 refine Arx _ _ _ _ _ _ _ _ _ _ _ _ _ _ _ _ _ _ _ _ _ _ _ _ ⟨fun h=> ?_,fun h=> ?_⟩
 ·subst h
  exact P_9 v hf ihl hd ih _ _ _ _ _ _ _ _ _ _ _ _ _ _ _ _ _ _ Q _ (A1f hK) hq
 ·subst h
  exact P_9 v hf ihl hd ih _ _ _ _ _ _ _ _ _ _ _ _ _ _ _ _ _ _ Q _ (A1f hK) hq
theorem Be7(v:V):v.plain.row=if hOK v.k then [.int .i64 v.k, .int .i64 (if hN v.k then v.n else 0), .int .i64 (if hG v.k then v.g else 0), .str (if hS v.k then v.s else []), .sl .any 6 (Mo (if hL v.k then v.l.map V.plain else [])), .sl .any 7 (Bh (if hD v.k then Sa v.d else []))]else zero.row:=by
 rw [Eh]
 unfold Us
 by_cases h1:v.k=1∨v.k=2
 ·rw [if_pos h1,Co]
  rcases h1 with h |h<;>rw [h]<;>rfl
 rw [if_neg h1]
 by_cases h3:v.k=3∨v.k=4
 ·rw [if_pos h3,Co]
  rcases h3 with h |h<;>rw [h]<;>rfl
 rw [if_neg h3]
 by_cases h5:v.k=5
 ·rw [if_pos h5,Co,h5];rfl
 rw [if_neg h5]
 by_cases h6:v.k=6
 ·rw [if_pos h6,Co,h6];rfl
 rw [if_neg h6]
 by_cases h7:v.k=7
 ·rw [if_pos h7,Co,h7];rfl
 rw [if_neg h7]
 by_cases h8:v.k=8
 ·rw [if_pos h8,Co,h8];rfl
 rw [if_neg h8]
 by_cases h0:v.k=0
 ·rw [h0,Co];rfl
 ·have:hOK v.k=false:=by simp [hOK];omega
  rw [this];rfl
theorem At9(v:V)(hf:Fit v):K3 v:=by
 induction hf with
 |mk v h1 h2 _ _ ih1 ih2=>
  show Call E0.P El [.imm (.agg v.row)] [] _
  rw [Co]
  refine Awt _ _ _ _ _ _ _ ?_
  refine Call.use (Bi2 v.k) ⟨⟨rfl,rfl⟩, ?_⟩
  have hp:=Be7 v
  refine⟨fun h=> ?_,fun h=>⟨fun hb=> ?_,fun hb=> ?_⟩⟩
  ·have h:(!hOK v.k)=true:=h
   have h:hOK v.k=false:=by simpa using h
   rw [h]at hp
   refine⟨?_,rfl⟩
   rw [hp,Co];rfl
  ·have h:(!hOK v.k)=false:=h
   have h:hOK v.k=true:=by simpa using h
   rw [h,if_pos rfl]at hp
   have hb:hN v.k=true:=hb
   refine P_7 v h1 ih1 h2 ih2 _ _ _ _ _ _ _ _ _ _ _ _ _ _ _ _ _ _ _ (Bl3 _) ?_
   rw [hb,if_pos rfl]at hp
   exact⟨by rw [hp];rfl,rfl⟩
  ·have h:(!hOK v.k)=false:=h
   have h:hOK v.k=true:=by simpa using h
   rw [h,if_pos rfl]at hp
   have hb:hN v.k=false:=hb
   refine P_7 v h1 ih1 h2 ih2 _ _ _ _ _ _ _ _ _ _ _ _ _ _ _ _ _ _ _ (Bl3 _) ?_
   rw [hb]at hp
   exact⟨by rw [hp];rfl,rfl⟩
end Go.Proofs.Sim.Se

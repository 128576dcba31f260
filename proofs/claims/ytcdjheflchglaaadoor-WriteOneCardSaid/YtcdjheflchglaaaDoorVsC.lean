import Derived.Test.YtcdjheflchglaaaDoorVsB
namespace Go.Proofs.Sim.Se
open Go Go.Proofs Go.Proofs.Sim Go.Proofs.Sim.Va Go.Proofs.Sim.St
end Go.Proofs.Sim.Se
namespace Go.Proofs.Sim.Se
open Go Go.Proofs Go.Proofs.Sim Go.Proofs.Sim.Va Go.Proofs.Sim.St
theorem V9(ps:List Pr)(n:Nat)(h:n<ps.length):(Bc ps).getD n []=Bw (Bl ps n):=by simp [List.getD_eq_getElem?_getD,h]
end Go.Proofs.Sim.Se
namespace Go.Proofs.Sim.Se
open Go Go.Proofs Go.Proofs.Sim Go.Proofs.Sim.Va Go.Proofs.Sim.St
end Go.Proofs.Sim.Se
namespace Go.Proofs.Sim.Se
open Go Go.Proofs Go.Proofs.Sim Go.Proofs.Sim.Va Go.Proofs.Sim.St
theorem V.ext {a b:V} (h1:a.k=b.k)(h2:a.n=b.n)(h3:a.g=b.g)(h4:a.s=b.s)(h5:a.l=b.l)(h6:a.d=b.d):a=b:=by
 cases a;cases b
 simp only [V.k,V.n,V.g,V.s,V.l,V.d]at h1 h2 h3 h4 h5 h6
 subst h1 h2 h3 h4 h5 h6;rfl
theorem Aue {α:Type} (l:List α)(i:Nat)(h:i<l.length):l.drop i=l[i]::l.drop (i+1):=by
 rw [List.drop_eq_getElem_cons h]
end Go.Proofs.Sim.Se
namespace Go.Proofs.Sim.Se
open Go Go.Proofs Go.Proofs.Sim Go.Proofs.Sim.Va Go.Proofs.Sim.St
abbrev I64(n:Int):Prop:= -9223372036854775808≤n∧n≤9223372036854775807
inductive Wf:V→Prop where
 |mk (v:V):I64 v.k→I64 v.n→I64 v.g→v.s.length≤9223372036854775807→v.l.length≤9223372036854775807→v.d.length≤9223372036854775807→(∀x∈v.l,Wf x)→(∀p∈v.d,p.1.length≤9223372036854775807)→(∀p∈v.d,Wf p.2)→Wf v
def Ch:V→Nat
 | .mk k n g s l d=>1+(l.attach.map fun⟨v,_h⟩=>Ch v).sum+(d.attach.map fun⟨p,_h⟩=>Ch p.2).sum
 termination_by v=>SizeOf.sizeOf v
 decreasing_by
  ·exact Adl _h
  ·exact Adk _h
theorem Mk(v:V):Ch v=1+(v.l.map Ch).sum+(v.d.map fun p=>Ch p.2).sum:=by
 obtain⟨k,n,g,s,l,d⟩:=v
 rw [Ch]
 simp only [V.l,V.d]
 congr 1
 ·congr 2
  simp
 ·congr 1
  apply List.ext_getElem<;>simp
theorem Abq(v:V):1≤Ch v:=by rw [Mk];omega
theorem Aca {α:Type} (f:α→Nat)(l:List α)(h:∀x∈l,1≤f x):l.length≤(l.map f).sum:=by
 induction l with
 |nil=>simp
 |cons x l ih=>
  have:=ih fun y hy=>h y (by simp [hy])
  have:=h x (by simp)
  simp;omega
theorem Acb {α:Type} (f:α→Nat)(l:List α)(x:α)(h:x∈l):f x≤(l.map f).sum:=by
 induction l with
 |nil=>simp at h
 |cons y l ih=>
  simp only [List.map_cons,List.sum_cons]
  rcases List.mem_cons.1 h with rfl |h
  ·omega
  ·have:=ih h;omega
theorem Agr(n:Nat)(hn:n≤1000000000000):∀(m:Nat) (v:V),SizeOf.sizeOf v≤m→Ch v≤n→Fit v:=by
 intro m
 induction m with
 |zero=>intro v h;exact absurd h (by cases v;simp)
 |succ m ih=>
  intro v hm hv
  have he:=Mk v
  have h1:=Aca Ch v.l fun x _=>Abq x
  have h2:=Aca (fun p:Pr=>Ch p.2) v.d fun x _=>Abq x.2
  refine .mk v (by omega) (by omega) (fun x hx=> ?_) (fun p hp=> ?_)
  ·have:=Acb Ch v.l x hx
   obtain⟨k,n',g,s,l,d⟩:=v
   have:=Adl (k:=k) (n:=n') (g:=g) (s:=s) (d:=d) (show x∈l from hx)
   exact ih x (by omega) (by omega)
  ·have:=Acb (fun p:Pr=>Ch p.2) v.d p hp
   obtain⟨k,n',g,s,l,d⟩:=v
   have:=Adk (k:=k) (n:=n') (g:=g) (s:=s) (l:=l) (show p∈d from hp)
   exact ih p.2 (by omega) (by omega)
theorem bAT {p q:Prop} {i:Decidable p} {j:Decidable q} (h:(bif @decide p i then @decide q j else false)=true):p∧q:=by
 by_cases hp:p<;>by_cases hq:q<;>simp_all
theorem bAF {p q:Prop} {i:Decidable p} {j:Decidable q} (h:(bif @decide p i then @decide q j else false)=false):¬(p∧q):=by
 by_cases hp:p<;>by_cases hq:q<;>simp_all
abbrev Ajt(v:V):Prop:=∀m:Nat,1≤m→m≤4611686018427387905→Call E0.P Re [.imm (.agg v.row), .imm (.int .i64 m)] [] (Is (.imm (.int .i64 (min (Ch v) m:Nat))) [])
theorem Aqp {α:Type} (f:α→Nat)(l:List α)(i:Nat)(h:i<l.length):((l.drop i).map f).sum=f l[i]+((l.drop (i+1)).map f).sum:=by
 rw [Aue l i h,List.map_cons,List.sum_cons]
theorem Ayv(v:V)(hl:v.l.length≤9223372036854775807)(ih:∀x∈v.l,Ajt x)(m:Nat)(hm:m≤4611686018427387905)(x0 x1 x2:Int)(xs:List UInt8)(x5:List (List IV))(K:Ex→St→Prop)(N:Nat)
 (hE:K (.exit 0) ⟨[(1,(.imm (.int .i64 m))),(2,(.ptr (Nm.loc (2:Nat)) 0)),(5,(.imm (.int .i64 (min N m:Nat))))],[((Nm.loc (2:Nat)),(.blk Ac [(.imm (.int .i64 x0)),(.imm (.int .i64 x1)),(.imm (.int .i64 x2)),(.imm (.str xs)),(.imm (.sl .any 6 (Jg v.l))),(.imm (.sl .any 7 x5))]))]⟩):
 ∀(f n i:Nat),f+i=v.l.length→1≤n→n≤m→min (n+((v.l.drop i).map Ch).sum) m=min N m→O9 m n i x0 x1 x2 xs (Jg v.l) x5 K:=by
 intro f
 induction f with
 |zero=>
  intro n i hf h1 h2 hN
  refine Aao _ _ _ _ _ _ _ _ _ _ (Let.intro ⟨fun h=> ?_,fun _=> ?_⟩)
  ·have h:=bAT h
   have:=h.1
   rw [Ey]at this;omega
  ·rw [List.drop_of_length_le (by omega)]at hN
   simp only [List.map_nil,List.sum_nil,Nat.add_zero]at hN
   have e:n=min N m:=by omega
   rw [e];exact hE
 |succ f ihf=>
  intro n i hf h1 h2 hN
  have hlt:i<v.l.length:=by omega
  have hv:J3 v.l i=v.l[i]:=by simp [J3,List.getD_eq_getElem?_getD,hlt]
  refine Aao _ _ _ _ _ _ _ _ _ _ (Let.intro ⟨fun h=> ?_,fun h=> ?_⟩)
  ·have h:=bAT h
   have hnm:n<m:=by have:=h.2;omega
   rw [show(Jg v.l).getD (Int.toNat (i:Int)) []=(J3 v.l i).row from Ta _ _ hlt,Du,Ey]
   refine⟨⟨⟨by omega,by omega⟩,Tc _ _ _⟩, ?_⟩
   have w1:IntKind.i64.wrap ((m:Int) - n)=((m - n:Nat):Int):=by rw [A7 _ (by omega) (by omega)];omega
   have w2:IntKind.i64.wrap ((i:Int)+1)=((i+1:Nat):Int):=by rw [A7 _ (by omega) (by omega)];simp
   rw [w1,w2]
   have hx:J3 v.l i∈v.l:=by rw [hv];exact List.getElem_mem hlt
   refine Call.use (ih _ hx (m - n) (by omega) (by omega)) ⟨⟨rfl,rfl⟩, ?_⟩
   rw [Aqp _ _ _ hlt, ←hv]at hN
   generalize Ch (J3 v.l i)=c at*
   show O9 _ (IntKind.i64.wrap ((n:Int)+((min c (m - n):Nat):Int))) _ _ _ _ _ _ _ _
   have w3:IntKind.i64.wrap ((n:Int)+((min c (m - n):Nat):Int))=((n+min c (m - n):Nat):Int):=by rw [A7 _ (by omega) (by omega)];simp
   rw [w3]
   exact ihf _ (i+1) (by omega) (by omega) (by omega) (by omega)
  ·have hnm:¬n<m:=by
    intro c
    have h:=bAF h
    rw [Ey]at h
    exact h ⟨by omega,by omega⟩
   have e:n=min N m:=by omega
   rw [e];exact hE
theorem Ayw(v:V)(hl:v.d.length≤9223372036854775807)(ih:∀x∈v.d,Ajt x.2)(m:Nat)(hm:m≤4611686018427387905)(x0 x1 x2:Int)(xs:List UInt8)(x4:List (List IV))(K:Ex→St→Prop)(N:Nat)
 (hE:K (.exit 2) ⟨[(5,(.imm (.int .i64 (min N m:Nat))))],[]⟩):
 ∀(f n i:Nat),f+i=v.d.length→1≤n→n≤m→min (n+((v.d.drop i).map fun p=>Ch p.2).sum) m=min N m→Ob m n i x0 x1 x2 xs x4 (Bc v.d) K:=by
 intro f
 induction f with
 |zero=>
  intro n i hf h1 h2 hN
  refine Zj _ _ _ _ _ _ _ _ _ _ (Let.intro ⟨fun h=> ?_,fun _=> ?_⟩)
  ·have h:=bAT h
   have:=h.1
   rw [Ap]at this;omega
  ·rw [List.drop_of_length_le (by omega)]at hN
   simp only [List.map_nil,List.sum_nil,Nat.add_zero]at hN
   have e:n=min N m:=by omega
   rw [e];exact hE
 |succ f ihf=>
  intro n i hf h1 h2 hN
  have hlt:i<v.d.length:=by omega
  have hv:Bl v.d i=v.d[i]:=by simp [Bl,List.getD_eq_getElem?_getD,hlt]
  refine Zj _ _ _ _ _ _ _ _ _ _ (Let.intro ⟨fun h=> ?_,fun h=> ?_⟩)
  ·have h:=bAT h
   have hnm:n<m:=by have:=h.2;omega
   rw [show(Bc v.d).getD (Int.toNat (i:Int)) []=Bw (Bl v.d i) from V9 _ _ hlt,Sz,Ap]
   refine⟨⟨⟨by omega,by omega⟩,Dt _ _ _⟩, ?_⟩
   have w1:IntKind.i64.wrap ((m:Int) - n)=((m - n:Nat):Int):=by rw [A7 _ (by omega) (by omega)];omega
   have w2:IntKind.i64.wrap ((i:Int)+1)=((i+1:Nat):Int):=by rw [A7 _ (by omega) (by omega)];simp
   rw [w1,w2]
   have hx:Bl v.d i∈v.d:=by rw [hv];exact List.getElem_mem hlt
   refine Call.use (ih _ hx (m - n) (by omega) (by omega)) ⟨⟨rfl,rfl⟩, ?_⟩
   rw [Aqp _ _ _ hlt, ←hv]at hN
   generalize Ch (Bl v.d i).2=c at*
   show Ob _ (IntKind.i64.wrap ((n:Int)+((min c (m - n):Nat):Int))) _ _ _ _ _ _ _ _
   have w3:IntKind.i64.wrap ((n:Int)+((min c (m - n):Nat):Int))=((n+min c (m - n):Nat):Int):=by rw [A7 _ (by omega) (by omega)];simp
   rw [w3]
   exact ihf _ (i+1) (by omega) (by omega) (by omega) (by omega)
  ·have hnm:¬n<m:=by
    intro c
    have h:=bAF h
    rw [Ap]at h
    exact h ⟨by omega,by omega⟩
   have e:n=min N m:=by omega
   rw [e];exact hE
theorem A0v(v:V)(hv:Wf v):Ajt v:=by
 induction hv with
 |mk v _ _ _ _ h1 h2 _ _ _ ih1 ih2=>
  intro m hm hm2
  have he:=Mk v
  have ih2:∀p∈v.d,Ajt p.2:=fun p hp=>(ih2 p hp)
  generalize hQ:Is (.imm (.int .i64 ((min (Ch v) m:Nat):Int))) []=Q
  have hq:Q (.imm (.int .i64 ((min (Ch v) m:Nat):Int))) []:=by rw [←hQ];exact⟨rfl,rfl⟩
  rw [Cj]
  refine Ank _ _ _ _ _ _ _ _ ?_
  refine Ayv v h1 ih1 m hm2 _ _ _ _ _ _ (1+(v.l.map Ch).sum) (Ajp _ _ _ _ _ _ _ _ _ (Aje _ _ _ _ _ _ _ _ _ ?_)) v.l.length 1 0 rfl (by omega) hm (by simp)
  refine Ayw v h2 ih2 m hm2 _ _ _ _ _ _ (Ch v) (Ajr _ _ (Ahw _ _ (Ajq _ _ (Ajo _ _ hq)))) v.d.length _ 0 rfl (by omega) (by omega) ?_
  rw [he]
  simp only [List.drop_zero]
  omega
end Go.Proofs.Sim.Se
namespace Go.Proofs.Sim.Se
open Go Go.Proofs Go.Proofs.Sim Go.Proofs.Sim.Va Go.Proofs.Sim.St
def Gd(p:Prop)(r:AV)(h:Heap):Prop:=∃c:Bool,r= .imm (.bool c)∧h=[]∧(c=true→p)
theorem Xd {P:Program} {f:Nat} {args:List AV} {p:Prop} {Q:AV→Heap→Prop} (hc:Call P f args [] (Gd p))(h:∀c:Bool,(c=true→p)→Q (.imm (.bool c)) []):Call P f args [] Q:=
 hc.mono fun r g ⟨c,e1,e2,e3⟩=>by subst e1 e2;exact h c e3
inductive Xv:Int→V→Prop where
 |mk (m:Int) (v:V):0≤m→(∀x∈v.l,Xv (m - 1) x)→(∀p∈v.d,Xv (m - 1) p.2)→Xv m v
inductive Mh:Int→V→Prop where
 |mk (m:Int) (v:V):v.s.length≤m→(∀x∈v.l,Mh m x)→(∀p∈v.d,p.1.length≤m)→(∀p∈v.d,Mh m p.2)→Mh m v
abbrev Anx(v:V):Prop:=∀m:Int, -1≤m→m≤1000000→Call E0.P Us [.imm (.agg v.row), .imm (.int .i64 m)] [] (Gd (Xv m v))
abbrev Agh(v:V):Prop:=∀m:Int,Call E0.P Mm [.imm (.agg v.row), .imm (.int .i64 m)] [] (Gd (Mh m v))
theorem Zn {α:Type} {P:α→Prop} (l:List α)(i:Nat)(h:i<l.length)(ha:∀x∈l.take i,P x)(hx:P l[i]):∀x∈l.take (i+1),P x:=by
 intro x h'
 rw [List.take_add_one]at h'
 rcases List.mem_append.1 h' with h' |h'
 ·exact ha x h'
 ·simp [h]at h';rw [h'];exact hx
theorem A0j(v:V)(hl:v.l.length≤9223372036854775807)(ih:∀x∈v.l,Anx x)(m:Int)(hm0:0≤m)(hm:m≤1000000)(x0 x1 x2:Int)(xs:List UInt8)(x5:List (List IV))(K:Ex→St→Prop)
 (hF:K .ret ⟨[(4, .imm (.bool false))],[]⟩)
 (hE:(∀x∈v.l,Xv (m - 1) x)→K (.exit 0) ⟨[(1,(.imm (.int .i64 m))),(2,(.ptr (Nm.loc (2:Nat)) 0))],[((Nm.loc (2:Nat)),(.blk Ac [(.imm (.int .i64 x0)),(.imm (.int .i64 x1)),(.imm (.int .i64 x2)),(.imm (.str xs)),(.imm (.sl .any 6 (Jg v.l))),(.imm (.sl .any 7 x5))]))]⟩):
 ∀(f i:Nat),f+i=v.l.length→(∀x∈v.l.take i,Xv (m - 1) x)→Wi m i x0 x1 x2 xs (Jg v.l) x5 K:=by
 intro f
 induction f with
 |zero=>
  intro i hf ha
  refine Abn _ _ _ _ _ _ _ _ _ ⟨fun h=> ?_,fun _=>hE ?_⟩
  ·have:=of_decide_eq_true h
   rw [Ey]at this;omega
  ·rw [List.take_of_length_le (by omega)]at ha;exact ha
 |succ f ihf=>
  intro i hf ha
  have hlt:i<v.l.length:=by omega
  have hv:J3 v.l i=v.l[i]:=by simp [J3,List.getD_eq_getElem?_getD,hlt]
  refine Abn _ _ _ _ _ _ _ _ _ ⟨fun h=> ?_,fun h=> ?_⟩
  ·rw [show(Jg v.l).getD (Int.toNat (i:Int)) []=(J3 v.l i).row from Ta _ _ hlt,Du,Ey]
   refine⟨⟨⟨by omega,by omega⟩,Tc _ _ _⟩, ?_⟩
   have w1:IntKind.i64.wrap (m - 1)=m - 1:=A7 _ (by omega) (by omega)
   have w2:IntKind.i64.wrap ((i:Int)+1)=((i+1:Nat):Int):=by rw [A7 _ (by omega) (by omega)];simp
   rw [w1,w2]
   refine Xd (ih _ (by rw [hv];exact List.getElem_mem hlt) (m - 1) (by omega) (by omega)) fun c hc=>⟨⟨rfl,rfl⟩,⟨fun _=>hF,fun h=> ?_⟩⟩
   have h:(!c)=false:=h
   exact ihf (i+1) (by omega) (Zn _ _ hlt ha (by rw [←hv];exact hc (by simpa using h)))
  ·have:=of_decide_eq_false h
   rw [Ey]at this;omega
theorem A0k(v:V)(hl:v.d.length≤9223372036854775807)(ih:∀x∈v.d,Anx x.2)(m:Int)(hm0:0≤m)(hm:m≤1000000)(x0 x1 x2:Int)(xs:List UInt8)(x4:List (List IV))(K:Ex→St→Prop)
 (hF:K .ret ⟨[(4, .imm (.bool false))],[]⟩)(hE:(∀x∈v.d,Xv (m - 1) x.2)→K (.exit 2) ⟨[],[]⟩):
 ∀(f i:Nat),f+i=v.d.length→(∀x∈v.d.take i,Xv (m - 1) x.2)→Uh m i x0 x1 x2 xs x4 (Bc v.d) K:=by
 intro f
 induction f with
 |zero=>
  intro i hf ha
  refine Aan _ _ _ _ _ _ _ _ _ ⟨fun h=> ?_,fun _=>hE ?_⟩
  ·have:=of_decide_eq_true h
   rw [Ap]at this;omega
  ·rw [List.take_of_length_le (by omega)]at ha;exact ha
 |succ f ihf=>
  intro i hf ha
  have hlt:i<v.d.length:=by omega
  have hv:Bl v.d i=v.d[i]:=by simp [Bl,List.getD_eq_getElem?_getD,hlt]
  refine Aan _ _ _ _ _ _ _ _ _ ⟨fun h=> ?_,fun h=> ?_⟩
  ·rw [show(Bc v.d).getD (Int.toNat (i:Int)) []=Bw (Bl v.d i) from V9 _ _ hlt,Sz,Ap]
   refine⟨⟨⟨by omega,by omega⟩,Dt _ _ _⟩, ?_⟩
   have w1:IntKind.i64.wrap (m - 1)=m - 1:=A7 _ (by omega) (by omega)
   have w2:IntKind.i64.wrap ((i:Int)+1)=((i+1:Nat):Int):=by rw [A7 _ (by omega) (by omega)];simp
   rw [w1,w2]
   refine Xd (ih _ (by rw [hv];exact List.getElem_mem hlt) (m - 1) (by omega) (by omega)) fun c hc=>⟨⟨rfl,rfl⟩,⟨fun _=>hF,fun h=> ?_⟩⟩
   have h:(!c)=false:=h
   exact ihf (i+1) (by omega) (Zn (P:=fun x:Pr=>Xv (m - 1) x.2) _ _ hlt ha (by rw [←hv];exact hc (by simpa using h)))
  ·have:=of_decide_eq_false h
   rw [Ap]at this;omega
theorem A17(v:V)(hv:Wf v):Anx v:=by
 induction hv with
 |mk v _ _ _ _ h1 h2 _ _ _ ih1 ih2=>
  intro m hm0 hm
  have ih2:∀p∈v.d,Anx p.2:=fun p hp=>(ih2 p hp)
  generalize hQ:Gd (Xv m v)=Q
  have hF:Q (.imm (.bool false)) []:=by rw [←hQ];exact⟨false,rfl,rfl,fun h=>by cases h⟩
  have hT:Xv m v→Q (.imm (.bool true)) []:=fun h=>by rw [←hQ];exact⟨true,rfl,rfl,fun _=>h⟩
  rw [Cj]
  refine Aof _ _ _ _ _ _ _ _ ⟨fun _=>hF,fun h=> ?_⟩
  have hm0:0≤m:=by have:=of_decide_eq_false h;omega
  refine A0j v h1 ih1 m hm0 hm _ _ _ _ _ _ (Ak7 _ _ hF) (fun a1=>Ak8 _ _ _ _ _ _ _ _ (Ajc _ _ _ _ _ _ _ _ ?_)) v.l.length 0 rfl (by simp)
  exact A0k v h2 ih2 m hm0 hm _ _ _ _ _ _ (Ala _ _ (Abl _ _ hF)) (fun a2=>Alb _ (Ajd _ (Ak9 _ _ (Abl _ _ (hT (.mk m v hm0 a1 a2)))))) v.d.length 0 rfl (by simp)
theorem Av5(v:V)(hl:v.l.length≤9223372036854775807)(ih:∀x∈v.l,Agh x)(m:Int)(x0 x1 x2:Int)(xs:List UInt8)(x5:List (List IV))(K:Ex→St→Prop)
 (hF:K .ret ⟨[(4, .imm (.bool false))],[]⟩)
 (hE:(∀x∈v.l,Mh m x)→K (.exit 0) ⟨[(1,(.imm (.int .i64 m))),(2,(.ptr (Nm.loc (2:Nat)) 0))],[((Nm.loc (2:Nat)),(.blk Ac [(.imm (.int .i64 x0)),(.imm (.int .i64 x1)),(.imm (.int .i64 x2)),(.imm (.str xs)),(.imm (.sl .any 6 (Jg v.l))),(.imm (.sl .any 7 x5))]))]⟩):
 ∀(f i:Nat),f+i=v.l.length→(∀x∈v.l.take i,Mh m x)→Rj m i x0 x1 x2 xs (Jg v.l) x5 K:=by
 intro f
 induction f with
 |zero=>
  intro i hf ha
  refine Zi _ _ _ _ _ _ _ _ _ ⟨fun h=> ?_,fun _=>hE ?_⟩
  ·have:=of_decide_eq_true h
   rw [Ey]at this;omega
  ·rw [List.take_of_length_le (by omega)]at ha;exact ha
 |succ f ihf=>
  intro i hf ha
  have hlt:i<v.l.length:=by omega
  have hv:J3 v.l i=v.l[i]:=by simp [J3,List.getD_eq_getElem?_getD,hlt]
  refine Zi _ _ _ _ _ _ _ _ _ ⟨fun h=> ?_,fun h=> ?_⟩
  ·rw [show(Jg v.l).getD (Int.toNat (i:Int)) []=(J3 v.l i).row from Ta _ _ hlt,Du,Ey]
   refine⟨⟨⟨by omega,by omega⟩,Tc _ _ _⟩, ?_⟩
   have w2:IntKind.i64.wrap ((i:Int)+1)=((i+1:Nat):Int):=by rw [A7 _ (by omega) (by omega)];simp
   rw [w2]
   refine Xd (ih _ (by rw [hv];exact List.getElem_mem hlt) m) fun c hc=>⟨⟨rfl,rfl⟩,⟨fun _=>hF,fun h=> ?_⟩⟩
   have h:(!c)=false:=h
   exact ihf (i+1) (by omega) (Zn _ _ hlt ha (by rw [←hv];exact hc (by simpa using h)))
  ·have:=of_decide_eq_false h
   rw [Ey]at this;omega
theorem Av6(v:V)(hl:v.d.length≤9223372036854775807)(ih:∀x∈v.d,Agh x.2)(m:Int)(x0 x1 x2:Int)(xs:List UInt8)(x4:List (List IV))(K:Ex→St→Prop)
 (hF:K .ret ⟨[(4, .imm (.bool false))],[]⟩)(hE:(∀x∈v.d,((x.1.length:Nat):Int)≤m∧Mh m x.2)→K (.exit 2) ⟨[],[]⟩):
 ∀(f i:Nat),f+i=v.d.length→(∀x∈v.d.take i,((x.1.length:Nat):Int)≤m∧Mh m x.2)→P8 m i x0 x1 x2 xs x4 (Bc v.d) K:=by
 intro f
 induction f with
 |zero=>
  intro i hf ha
  refine Ya _ _ _ _ _ _ _ _ _ ⟨fun h=> ?_,fun _=>hE ?_⟩
  ·have:=of_decide_eq_true h
   rw [Ap]at this;omega
  ·rw [List.take_of_length_le (by omega)]at ha;exact ha
 |succ f ihf=>
  intro i hf ha
  have hlt:i<v.d.length:=by omega
  have hv:Bl v.d i=v.d[i]:=by simp [Bl,List.getD_eq_getElem?_getD,hlt]
  refine Ya _ _ _ _ _ _ _ _ _ ⟨fun h=> ?_,fun h=> ?_⟩
  ·have g0:∀x:Pr,gS (Bw x) 0=x.1:=fun x=>by rw [Iq];rfl
   rw [show(Bc v.d).getD (Int.toNat (i:Int)) []=Bw (Bl v.d i) from V9 _ _ hlt,Sz,g0,Ap]
   have rng:((0:Int)≤(i:Int)∧(i:Int)<(v.d.length:Int))∧Cb [.str, .int .i64, .int .i64, .int .i64, .str, .sl 6 Ac, .sl 7 Ak] (Bw (Bl v.d i))=true:=⟨⟨by omega,by omega⟩,Dt _ _ _⟩
   refine⟨rng,⟨fun _=>rng,⟨fun hk=> ?_,fun _=>⟨rfl,Let.intro ⟨fun _=>hF,fun h=>absurd h (by decide)⟩⟩⟩⟩⟩
   have w2:IntKind.i64.wrap ((i:Int)+1)=((i+1:Nat):Int):=by rw [A7 _ (by omega) (by omega)];simp
   refine Xd (ih _ (by rw [hv];exact List.getElem_mem hlt) m) fun c hc=>⟨⟨rfl,rfl⟩,Let.intro ⟨fun _=>hF,fun h=> ?_⟩⟩
   have h:(!c)=false:=h
   have hk:((Bl v.d i).1.length:Int)≤m:=by
    have:decide (m<((Bl v.d i).1.length:Int))=false:=by simpa using hk
    have:=of_decide_eq_false this
    omega
   refine Ag4 _ _ _ _ _ _ _ _ _ ?_
   rw [w2]
   refine Aie _ _ _ _ _ _ _ _ _ (ihf (i+1) (by omega) (Zn (P:=fun x:Pr=>((x.1.length:Nat):Int)≤m∧Mh m x.2) _ _ hlt ha ?_))
   rw [←hv]
   exact⟨hk,hc (by simpa using h)⟩
  ·have:=of_decide_eq_false h
   rw [Ap]at this;omega
theorem Ay2(v:V)(hv:Wf v):Agh v:=by
 induction hv with
 |mk v _ _ _ _ h1 h2 _ _ _ ih1 ih2=>
  intro m
  have ih2:∀p∈v.d,Agh p.2:=fun p hp=>(ih2 p hp)
  generalize hQ:Gd (Mh m v)=Q
  have hF:Q (.imm (.bool false)) []:=by rw [←hQ];exact⟨false,rfl,rfl,fun h=>by cases h⟩
  have hT:Mh m v→Q (.imm (.bool true)) []:=fun h=>by rw [←hQ];exact⟨true,rfl,rfl,fun _=>h⟩
  rw [Cj]
  refine Ak2 _ _ _ _ _ _ _ _ ⟨fun _=>hF,fun h=> ?_⟩
  have hs:v.s.length≤m:=by have:=of_decide_eq_false h;omega
  refine Av5 v h1 ih1 m _ _ _ _ _ _ (Ah9 _ _ hF) (fun a1=>Aia _ _ _ _ _ _ _ _ (Ag3 _ _ _ _ _ _ _ _ ?_)) v.l.length 0 rfl (by simp)
  exact Av6 v h2 ih2 m _ _ _ _ _ _ (Aic _ _ (Zf _ _ hF)) (fun a2=>Aid _ (Ag5 _ (Aib _ _ (Zf _ _ (hT (.mk m v hs a1 (fun p hp=>(a2 p hp).1) (fun p hp=>(a2 p hp).2))))))) v.d.length 0 rfl (by simp)
structure Av4 (n:Nat) (v:V):Prop where
 c:Ch v≤n
 l:Xv 200 v
 s:Mh 3000 v
theorem Ax4(v:V)(hv:Wf v)(n:Nat)(hn:n≤1000000):Call E0.P Yg [.imm (.agg v.row), .imm (.int .i64 n)] [] (Gd (Av4 n v)):=by
 have a1:=A0v v hv (n+1) (by omega) (by omega)
 have a2:=A17 v hv 200 (by omega) (by omega)
 have a3:=Ay2 v hv 3000
 generalize hQ:Gd (Av4 n v)=Q
 have hF:Q (.imm (.bool false)) []:=by rw [←hQ];exact⟨false,rfl,rfl,fun h=>by cases h⟩
 have hT:∀c:Bool,(c=true→Av4 n v)→Q (.imm (.bool c)) []:=fun c h=>by rw [←hQ];exact⟨c,rfl,rfl,h⟩
 rw [Cj]at a1 a2 a3 ⊢
 have w:IntKind.i64.wrap ((n:Int)+1)=((n+1:Nat):Int):=by rw [A7 _ (by omega) (by omega)];simp
 refine Aoe _ _ _ _ _ _ _ _ ?_
 rw [w]
 refine Call.use a1 ⟨⟨rfl,rfl⟩,⟨fun h=> ?_,fun _=> ?_⟩⟩
 ·have hc:Ch v≤n:=by
   have h:(decide (((min (Ch v) (n+1):Nat):Int)≤(n:Int)) == true)=true:=h
   have:((min (Ch v) (n+1):Nat):Int)≤(n:Int):=by simpa using h
   omega
  refine Xd a2 fun c2 h2=>⟨⟨rfl,rfl⟩,Let.intro ⟨fun e2=> ?_,fun _=>⟨rfl,Let.intro hF⟩⟩⟩
  have e2:c2=true:=by have e2:(c2 == true)=true:=e2;simpa using e2
  exact Xd a3 fun c3 h3=>⟨⟨rfl,rfl⟩,Let.intro (hT c3 fun e3=>⟨hc,h2 e2,h3 e3⟩)⟩
 ·exact⟨rfl,Let.intro ⟨fun h=>absurd h (by decide),fun _=>⟨rfl,Let.intro hF⟩⟩⟩
end Go.Proofs.Sim.Se

import Derived.Test.YtcdjheflchglaaaGreatDoorVsB
namespace Go.Proofs.Sim.Se
open Go Go.Proofs Go.Proofs.Sim Go.Proofs.Sim.Va Go.Proofs.Sim.St
theorem Beq(k n g:Int)(s:List UInt8)(l:List V)(d:List Pr):(R4 k n g s l d).d=[]∨(R4 k n g s l d).d=(uniq d).filter Uh:=by
 unfold R4
 split
 ·exact .inl rfl
 split
 ·exact .inl rfl
 split
 ·exact .inl rfl
 split
 ·exact .inr rfl
 split
 ·exact .inl rfl
 split
 ·exact .inr rfl
 ·exact .inl rfl
theorem A1z(v:V):v.plain.d=[]∨v.plain.d=Ta v.d:=by
 rw [Fj];exact Beq _ _ _ _ _ _
theorem A9f(l:List Pr):(uniq l).length≤l.length:=by
 have:=(We (Ch l)).length_le
 rw [show(Ch l).length=l.length from Gs ordK l]at this
 exact this
theorem A3m(v:V):v.plain.d.length≤v.d.length:=by
 rcases A1z v with h |h<;>rw [h]
 ·simp
 ·refine Nat.le_trans (List.length_filter_le _ _) (Nat.le_trans (A9f _) (by simp [Mr]))
end Go.Proofs.Sim.Se
namespace Go.Proofs.Sim.Se
open Go Go.Proofs Go.Proofs.Sim Go.Proofs.Sim.Va Go.Proofs.Sim.St
theorem Aat(ps:List Pr)(n:Nat)(h:n<ps.length):(Bv ps).getD n []=Cu (Ce ps n):=by simp [List.getD_eq_getElem?_getD,h]
end Go.Proofs.Sim.Se
namespace Go.Proofs.Sim.Se
open Go Go.Proofs Go.Proofs.Sim Go.Proofs.Sim.Va Go.Proofs.Sim.St
end Go.Proofs.Sim.Se
namespace Go.Proofs.Sim.Se
open Go Go.Proofs Go.Proofs.Sim Go.Proofs.Sim.Va Go.Proofs.Sim.St
theorem V.ext {a b:V} (h1:a.k=b.k)(h2:a.n=b.n)(h3:a.g=b.g)(h4:a.s=b.s)(h5:a.l=b.l)(h6:a.d=b.d):a=b:=by
 cases a;cases b
 simp only [V.k,V.n,V.g,V.s,V.l,V.d]at h1 h2 h3 h4 h5 h6
 subst h1 h2 h3 h4 h5 h6;rfl
def EqR(a b:V)(r:AV)(h:Heap):Prop:=∃c:Bool,r= .imm (.bool c)∧h=[]∧(c=true↔a=b)
abbrev EqAt(a b:V):Prop:=Call E0.P He [.imm (.agg a.row), .imm (.agg b.row)] [] (EqR a b)
theorem A4u {α:Type} (l:List α)(i:Nat)(h:i<l.length):l.drop i=l[i]::l.drop (i+1):=by
 rw [List.drop_eq_getElem_cons h]
theorem A90(a b:V)(hl:a.d.length≤1000000000000)(hab:a.d.length=b.d.length)(ih:∀p∈a.d,∀q∈b.d,EqAt p.2 q.2)(x0 x1 x2 y0 y1 y2:Int)(xs ys:List UInt8)(x4 y4:List (List IV))(K:Ex→St→Prop)
 (hF:a.d≠b.d→K .ret ⟨[(4, .imm (.bool false))],[]⟩)(hT:a.d=b.d→K (.exit 2) ⟨[],[]⟩):∀(n i:Nat),n+i=a.d.length→a.d.take i=b.d.take i→
 Un i x0 x1 x2 xs x4 (Bv a.d) y0 y1 y2 ys y4 (Bv b.d) K
 |0,i,hn,ht=>by
  refine Ad7 _ _ _ _ _ _ _ _ _ _ _ _ _ _ ⟨fun h=> ?_,fun _=>hT ?_⟩
  ·have:=of_decide_eq_true h
   rw [Bc]at this;omega
  ·rw [List.take_of_length_le (by omega),List.take_of_length_le (by omega)]at ht
   exact ht
 |n+1,i,hn,ht=>by
  have hia:i<a.d.length:=by omega
  have hib:i<b.d.length:=by omega
  have w:IntKind.i64.wrap ((i:Int)+1)=((i+1:Nat):Int):=by rw [Bb _ (by omega) (by omega)];simp
  refine Ad7 _ _ _ _ _ _ _ _ _ _ _ _ _ _ ⟨fun _=> ?_,fun h=> ?_⟩
  ·rw [show(Bv a.d).getD (Int.toNat (i:Int)) []=Cu (Ce a.d i) from Aat _ _ hia,show(Bv b.d).getD (Int.toNat (i:Int)) []=Cu (Ce b.d i) from Aat _ _ hib,Qn,Qn,Bc,Bc]
   have g0:∀x:Pr,gS (Cu x) 0=x.1:=fun x=>by rw [Mf];rfl
   rw [g0,g0]
   have ea:Ce a.d i=a.d[i]:=by simp [Ce,List.getD_eq_getElem?_getD,hia]
   have eb:Ce b.d i=b.d[i]:=by simp [Ce,List.getD_eq_getElem?_getD,hib]
   have ma:Ce a.d i∈a.d:=by rw [ea];exact List.getElem_mem hia
   have mb:Ce b.d i∈b.d:=by rw [eb];exact List.getElem_mem hib
   have r1:((0:Int)≤(i:Int)∧(i:Int)<(a.d.length:Int))∧Ck [.str, .int .i64, .int .i64, .int .i64, .str, .sl 6 Ac, .sl 7 Ap] (Cu (Ce a.d i))=true:=⟨⟨by omega,by omega⟩,Eo _ _ _⟩
   have r2:((0:Int)≤(i:Int)∧(i:Int)<(b.d.length:Int))∧Ck [.str, .int .i64, .int .i64, .int .i64, .str, .sl 6 Ac, .sl 7 Ap] (Cu (Ce b.d i))=true:=⟨⟨by omega,by omega⟩,Eo _ _ _⟩
   have ne:Ce a.d i≠Ce b.d i→a.d≠b.d:=fun h e=>h (by rw [e])
   have go:Ce a.d i=Ce b.d i→U5 i x0 x1 x2 xs x4 (Bv a.d) y0 y1 y2 ys y4 (Bv b.d) (Xh K):=by
    intro e
    refine Aph _ _ _ _ _ _ _ _ _ _ _ _ _ _ ?_
    rw [w]
    refine Asd _ _ _ _ _ _ _ _ _ _ _ _ _ _ (A90 a b hl hab ih _ _ _ _ _ _ _ _ _ _ K hF hT n (i+1) (by omega) ?_)
    rw [List.take_add_one,List.take_add_one,ht]
    congr 1
    rw [ea,eb]at e
    simp [hia,hib,e]
   refine⟨r1,⟨r2,⟨fun _=>r1,⟨fun _=>r2,⟨fun hk=> ?_,fun hk=> ?_⟩⟩⟩⟩⟩
   ·refine(ih _ ma _ mb).mono ?_
    rintro r h ⟨c,rfl,rfl,hc⟩
    refine⟨⟨rfl,rfl⟩,Let.intro ⟨fun hcf=> ?_,fun hct=> ?_⟩⟩
    ·have hcf:(!c)=true:=hcf
     refine hF (ne fun e=> ?_)
     have:c=true:=hc.2 (by rw [e])
     rw [this]at hcf;cases hcf
    ·have hct:(!c)=false:=hct
     refine go (Prod.ext ?_ ?_)
     ·simpa using hk
     ·exact hc.1 (by simpa using hct)
   ·refine⟨rfl,Let.intro ⟨fun _=>hF (ne fun e=> ?_),fun h=>absurd h (by decide)⟩⟩
    rw [e]at hk;simp at hk
  ·have:=of_decide_eq_false h
   rw [Bc]at this;omega
theorem Bab(a b:V)(hl:a.l.length≤1000000000000)(hab:a.l.length=b.l.length)(ih:∀p∈a.l,∀q∈b.l,EqAt p q)(x0 x1 x2 y0 y1 y2:Int)(xs ys:List UInt8)(x5 y5:List (List IV))(K:Ex→St→Prop)
 (hF:a.l≠b.l→K .ret ⟨[(4, .imm (.bool false))],[]⟩)(hT:a.l=b.l→K (.exit 0) ⟨[(2,(.ptr (Nm.loc (2:Nat)) 0)),(3,(.ptr (Nm.loc (3:Nat)) 0))],[((Nm.loc (2:Nat)),(.blk Ac [(.imm (.int .i64 x0)),(.imm (.int .i64 x1)),(.imm (.int .i64 x2)),(.imm (.str xs)),(.imm (.sl .any 6 (Kv a.l))),(.imm (.sl .any 7 x5))])),((Nm.loc (3:Nat)),(.blk Ac [(.imm (.int .i64 y0)),(.imm (.int .i64 y1)),(.imm (.int .i64 y2)),(.imm (.str ys)),(.imm (.sl .any 6 (Kv b.l))),(.imm (.sl .any 7 y5))]))]⟩):∀(n i:Nat),n+i=a.l.length→a.l.take i=b.l.take i→
 Xj i x0 x1 x2 xs (Kv a.l) x5 y0 y1 y2 ys (Kv b.l) y5 K
 |0,i,hn,ht=>by
  refine Agt _ _ _ _ _ _ _ _ _ _ _ _ _ _ ⟨fun h=> ?_,fun _=>hT ?_⟩
  ·have:=of_decide_eq_true h
   rw [H7]at this;omega
  ·rw [List.take_of_length_le (by omega),List.take_of_length_le (by omega)]at ht
   exact ht
 |n+1,i,hn,ht=>by
  have hia:i<a.l.length:=by omega
  have hib:i<b.l.length:=by omega
  have w:IntKind.i64.wrap ((i:Int)+1)=((i+1:Nat):Int):=by rw [Bb _ (by omega) (by omega)];simp
  refine Agt _ _ _ _ _ _ _ _ _ _ _ _ _ _ ⟨fun _=> ?_,fun h=> ?_⟩
  ·rw [show(Kv a.l).getD (Int.toNat (i:Int)) []=(L9 a.l i).row from Yi _ _ hia,show(Kv b.l).getD (Int.toNat (i:Int)) []=(L9 b.l i).row from Yi _ _ hib,Jo,Jo,H7,H7]
   have ea:L9 a.l i=a.l[i]:=by simp [L9,List.getD_eq_getElem?_getD,hia]
   have eb:L9 b.l i=b.l[i]:=by simp [L9,List.getD_eq_getElem?_getD,hib]
   have ma:L9 a.l i∈a.l:=by rw [ea];exact List.getElem_mem hia
   have mb:L9 b.l i∈b.l:=by rw [eb];exact List.getElem_mem hib
   have ne:L9 a.l i≠L9 b.l i→a.l≠b.l:=fun h e=>h (by rw [e])
   refine⟨⟨⟨by omega,by omega⟩,Yl _ _ _⟩,⟨⟨⟨by omega,by omega⟩,Yl _ _ _⟩, ?_⟩⟩
   refine(ih _ ma _ mb).mono ?_
   rintro r h ⟨c,rfl,rfl,hc⟩
   refine⟨⟨rfl,rfl⟩,⟨fun hcf=> ?_,fun hct=> ?_⟩⟩
   ·have hcf:(!c)=true:=hcf
    refine hF (ne fun e=> ?_)
    have:c=true:=hc.2 e
    rw [this]at hcf;cases hcf
   ·have hct:(!c)=false:=hct
    have e:=hc.1 (by simpa using hct)
    rw [w]
    refine Bab a b hl hab ih _ _ _ _ _ _ _ _ _ _ K hF hT n (i+1) (by omega) ?_
    rw [List.take_add_one,List.take_add_one,ht]
    congr 1
    rw [ea,eb]at e
    simp [hia,hib,e]
  ·have:=of_decide_eq_false h
   rw [H7]at this;omega
theorem A13(a:V)(ha:Fit a):∀b:V,EqAt a b:=by
 induction ha with
 |mk a h1 h2 _ _ ih1 ih2=>
  intro b
  show Call E0.P He [.imm (.agg a.row), .imm (.agg b.row)] [] _
  generalize hQ:EqR a b=Q
  have hT:a=b→Q (.imm (.bool true)) []:=fun h=>by rw [←hQ];exact⟨true,rfl,rfl,by simp [h]⟩
  have hF:a≠b→Q (.imm (.bool false)) []:=fun h=>by rw [←hQ];exact⟨false,rfl,rfl,by simp [h]⟩
  rw [Ep,Ep b]
  refine Av5 _ _ _ _ _ _ _ _ _ _ _ _ _ (Let.intro (Let.intro (Let.intro (Let.intro (Let.intro ⟨fun h=> ?_,fun h=> ?_⟩)))))
  ·refine hF fun e=> ?_
   subst e
   simp at h
  ·simp only [Bool.cond_true_left,Bool.or_eq_false_iff,Bool.not_eq_false',decide_eq_true_eq,List.length_map]at h
   obtain⟨⟨⟨⟨⟨e1,e2⟩,e3⟩,e4⟩,e5⟩,e6⟩:=h
   have e4:a.s=b.s:=by simpa using e4
   have e5:a.l.length=b.l.length:=by omega
   have e6:a.d.length=b.d.length:=by omega
   refine Bab a b h1 e5 (fun p hp q _=>ih1 p hp q) _ _ _ _ _ _ _ _ _ _ _ (fun h=> ?_) (fun hl=> ?_) a.l.length 0 (by omega) rfl
   ·exact Arj _ _ (hF fun e=>h (by rw [e]))
   ·refine Ar5 _ _ _ _ _ _ _ _ _ _ _ _ _ (Apj _ _ _ _ _ _ _ _ _ _ _ _ _ ?_)
    refine A90 a b h2 e6 (fun p hp q _=>ih2 p hp q.2) _ _ _ _ _ _ _ _ _ _ _ (fun h=> ?_) (fun hd=> ?_) a.d.length 0 (by omega) rfl
    ·exact Arh _ _ (Afj _ _ (hF fun e=>h (by rw [e])))
    ·exact Ar2 _ (Ap0 _ (Aq2 _ _ (Afj _ _ (hT (V.ext e1 e2 e3 e4 hl hd)))))
end Go.Proofs.Sim.Se
namespace Go.Proofs.Sim.Se
open Go Go.Proofs Go.Proofs.Sim Go.Proofs.Sim.Va Go.Proofs.Sim.St
abbrev I64(n:Int):Prop:= -9223372036854775808≤n∧n≤9223372036854775807
inductive Wf:V→Prop where
 |mk (v:V):I64 v.k→I64 v.n→I64 v.g→v.s.length≤9223372036854775807→v.l.length≤9223372036854775807→v.d.length≤9223372036854775807→(∀x∈v.l,Wf x)→(∀p∈v.d,p.1.length≤9223372036854775807)→(∀p∈v.d,Wf p.2)→Wf v
def C9:V→Nat
 | .mk k n g s l d=>1+(l.attach.map fun⟨v,_h⟩=>C9 v).sum+(d.attach.map fun⟨p,_h⟩=>C9 p.2).sum
 termination_by v=>SizeOf.sizeOf v
 decreasing_by
  ·exact Ang _h
  ·exact Amv _h
theorem R3(v:V):C9 v=1+(v.l.map C9).sum+(v.d.map fun p=>C9 p.2).sum:=by
 obtain⟨k,n,g,s,l,d⟩:=v
 rw [C9]
 simp only [V.l,V.d]
 congr 1
 ·congr 2
  simp
 ·congr 1
  apply List.ext_getElem<;>simp
theorem Ajt(v:V):1≤C9 v:=by rw [R3];omega
theorem Ai4 {α:Type} (f:α→Nat)(l:List α)(h:∀x∈l,1≤f x):l.length≤(l.map f).sum:=by
 induction l with
 |nil=>simp
 |cons x l ih=>
  have:=ih fun y hy=>h y (by simp [hy])
  have:=h x (by simp)
  simp;omega
theorem Ait {α:Type} (f:α→Nat)(l:List α)(x:α)(h:x∈l):f x≤(l.map f).sum:=by
 induction l with
 |nil=>simp at h
 |cons y l ih=>
  simp only [List.map_cons,List.sum_cons]
  rcases List.mem_cons.1 h with rfl |h
  ·omega
  ·have:=ih h;omega
theorem Aja(n:Nat)(hn:n≤1000000000000):∀(m:Nat) (v:V),SizeOf.sizeOf v≤m→C9 v≤n→Fit v:=by
 intro m
 induction m with
 |zero=>intro v h;exact absurd h (by cases v;simp)
 |succ m ih=>
  intro v hm hv
  have he:=R3 v
  have h1:=Ai4 C9 v.l fun x _=>Ajt x
  have h2:=Ai4 (fun p:Pr=>C9 p.2) v.d fun x _=>Ajt x.2
  refine .mk v (by omega) (by omega) (fun x hx=> ?_) (fun p hp=> ?_)
  ·have:=Ait C9 v.l x hx
   obtain⟨k,n',g,s,l,d⟩:=v
   have:=Ang (k:=k) (n:=n') (g:=g) (s:=s) (d:=d) (show x∈l from hx)
   exact ih x (by omega) (by omega)
  ·have:=Ait (fun p:Pr=>C9 p.2) v.d p hp
   obtain⟨k,n',g,s,l,d⟩:=v
   have:=Amv (k:=k) (n:=n') (g:=g) (s:=s) (l:=l) (show p∈d from hp)
   exact ih p.2 (by omega) (by omega)
theorem bAT {p q:Prop} {i:Decidable p} {j:Decidable q} (h:(bif @decide p i then @decide q j else false)=true):p∧q:=by
 by_cases hp:p<;>by_cases hq:q<;>simp_all
theorem bAF {p q:Prop} {i:Decidable p} {j:Decidable q} (h:(bif @decide p i then @decide q j else false)=false):¬(p∧q):=by
 by_cases hp:p<;>by_cases hq:q<;>simp_all
abbrev Atb(v:V):Prop:=∀m:Nat,1≤m→m≤4611686018427387905→Call E0.P Ws [.imm (.agg v.row), .imm (.int .i64 m)] [] (Is (.imm (.int .i64 (min (C9 v) m:Nat))) [])
theorem A0s {α:Type} (f:α→Nat)(l:List α)(i:Nat)(h:i<l.length):((l.drop i).map f).sum=f l[i]+((l.drop (i+1)).map f).sum:=by
 rw [A4u l i h,List.map_cons,List.sum_cons]
theorem Bbx(v:V)(hl:v.l.length≤9223372036854775807)(ih:∀x∈v.l,Atb x)(m:Nat)(hm:m≤4611686018427387905)(x0 x1 x2:Int)(xs:List UInt8)(x5:List (List IV))(K:Ex→St→Prop)(N:Nat)
 (hE:K (.exit 0) ⟨[(1,(.imm (.int .i64 m))),(2,(.ptr (Nm.loc (2:Nat)) 0)),(5,(.imm (.int .i64 (min N m:Nat))))],[((Nm.loc (2:Nat)),(.blk Ac [(.imm (.int .i64 x0)),(.imm (.int .i64 x1)),(.imm (.int .i64 x2)),(.imm (.str xs)),(.imm (.sl .any 6 (Kv v.l))),(.imm (.sl .any 7 x5))]))]⟩):
 ∀(f n i:Nat),f+i=v.l.length→1≤n→n≤m→min (n+((v.l.drop i).map C9).sum) m=min N m→Tx m n i x0 x1 x2 xs (Kv v.l) x5 K:=by
 intro f
 induction f with
 |zero=>
  intro n i hf h1 h2 hN
  refine Ahq _ _ _ _ _ _ _ _ _ _ (Let.intro ⟨fun h=> ?_,fun _=> ?_⟩)
  ·have h:=bAT h
   have:=h.1
   rw [H7]at this;omega
  ·rw [List.drop_of_length_le (by omega)]at hN
   simp only [List.map_nil,List.sum_nil,Nat.add_zero]at hN
   have e:n=min N m:=by omega
   rw [e];exact hE
 |succ f ihf=>
  intro n i hf h1 h2 hN
  have hlt:i<v.l.length:=by omega
  have hv:L9 v.l i=v.l[i]:=by simp [L9,List.getD_eq_getElem?_getD,hlt]
  refine Ahq _ _ _ _ _ _ _ _ _ _ (Let.intro ⟨fun h=> ?_,fun h=> ?_⟩)
  ·have h:=bAT h
   have hnm:n<m:=by have:=h.2;omega
   rw [show(Kv v.l).getD (Int.toNat (i:Int)) []=(L9 v.l i).row from Yi _ _ hlt,Jo,H7]
   refine⟨⟨⟨by omega,by omega⟩,Yl _ _ _⟩, ?_⟩
   have w1:IntKind.i64.wrap ((m:Int) - n)=((m - n:Nat):Int):=by rw [Bb _ (by omega) (by omega)];omega
   have w2:IntKind.i64.wrap ((i:Int)+1)=((i+1:Nat):Int):=by rw [Bb _ (by omega) (by omega)];simp
   rw [w1,w2]
   have hx:L9 v.l i∈v.l:=by rw [hv];exact List.getElem_mem hlt
   refine Call.use (ih _ hx (m - n) (by omega) (by omega)) ⟨⟨rfl,rfl⟩, ?_⟩
   rw [A0s _ _ _ hlt, ←hv]at hN
   generalize C9 (L9 v.l i)=c at*
   show Tx _ (IntKind.i64.wrap ((n:Int)+((min c (m - n):Nat):Int))) _ _ _ _ _ _ _ _
   have w3:IntKind.i64.wrap ((n:Int)+((min c (m - n):Nat):Int))=((n+min c (m - n):Nat):Int):=by rw [Bb _ (by omega) (by omega)];simp
   rw [w3]
   exact ihf _ (i+1) (by omega) (by omega) (by omega) (by omega)
  ·have hnm:¬n<m:=by
    intro c
    have h:=bAF h
    rw [H7]at h
    exact h ⟨by omega,by omega⟩
   have e:n=min N m:=by omega
   rw [e];exact hE
theorem Ba1(v:V)(hl:v.d.length≤9223372036854775807)(ih:∀x∈v.d,Atb x.2)(m:Nat)(hm:m≤4611686018427387905)(x0 x1 x2:Int)(xs:List UInt8)(x4:List (List IV))(K:Ex→St→Prop)(N:Nat)
 (hE:K (.exit 2) ⟨[(5,(.imm (.int .i64 (min N m:Nat))))],[]⟩):
 ∀(f n i:Nat),f+i=v.d.length→1≤n→n≤m→min (n+((v.d.drop i).map fun p=>C9 p.2).sum) m=min N m→R8 m n i x0 x1 x2 xs x4 (Bv v.d) K:=by
 intro f
 induction f with
 |zero=>
  intro n i hf h1 h2 hN
  refine Af6 _ _ _ _ _ _ _ _ _ _ (Let.intro ⟨fun h=> ?_,fun _=> ?_⟩)
  ·have h:=bAT h
   have:=h.1
   rw [Bc]at this;omega
  ·rw [List.drop_of_length_le (by omega)]at hN
   simp only [List.map_nil,List.sum_nil,Nat.add_zero]at hN
   have e:n=min N m:=by omega
   rw [e];exact hE
 |succ f ihf=>
  intro n i hf h1 h2 hN
  have hlt:i<v.d.length:=by omega
  have hv:Ce v.d i=v.d[i]:=by simp [Ce,List.getD_eq_getElem?_getD,hlt]
  refine Af6 _ _ _ _ _ _ _ _ _ _ (Let.intro ⟨fun h=> ?_,fun h=> ?_⟩)
  ·have h:=bAT h
   have hnm:n<m:=by have:=h.2;omega
   rw [show(Bv v.d).getD (Int.toNat (i:Int)) []=Cu (Ce v.d i) from Aat _ _ hlt,Qn,Bc]
   refine⟨⟨⟨by omega,by omega⟩,Eo _ _ _⟩, ?_⟩
   have w1:IntKind.i64.wrap ((m:Int) - n)=((m - n:Nat):Int):=by rw [Bb _ (by omega) (by omega)];omega
   have w2:IntKind.i64.wrap ((i:Int)+1)=((i+1:Nat):Int):=by rw [Bb _ (by omega) (by omega)];simp
   rw [w1,w2]
   have hx:Ce v.d i∈v.d:=by rw [hv];exact List.getElem_mem hlt
   refine Call.use (ih _ hx (m - n) (by omega) (by omega)) ⟨⟨rfl,rfl⟩, ?_⟩
   rw [A0s _ _ _ hlt, ←hv]at hN
   generalize C9 (Ce v.d i).2=c at*
   show R8 _ (IntKind.i64.wrap ((n:Int)+((min c (m - n):Nat):Int))) _ _ _ _ _ _ _ _
   have w3:IntKind.i64.wrap ((n:Int)+((min c (m - n):Nat):Int))=((n+min c (m - n):Nat):Int):=by rw [Bb _ (by omega) (by omega)];simp
   rw [w3]
   exact ihf _ (i+1) (by omega) (by omega) (by omega) (by omega)
  ·have hnm:¬n<m:=by
    intro c
    have h:=bAF h
    rw [Bc]at h
    exact h ⟨by omega,by omega⟩
   have e:n=min N m:=by omega
   rw [e];exact hE
theorem Bel(v:V)(hv:Wf v):Atb v:=by
 induction hv with
 |mk v _ _ _ _ h1 h2 _ _ _ ih1 ih2=>
  intro m hm hm2
  have he:=R3 v
  have ih2:∀p∈v.d,Atb p.2:=fun p hp=>(ih2 p hp)
  generalize hQ:Is (.imm (.int .i64 ((min (C9 v) m:Nat):Int))) []=Q
  have hq:Q (.imm (.int .i64 ((min (C9 v) m:Nat):Int))) []:=by rw [←hQ];exact⟨rfl,rfl⟩
  rw [Ep]
  refine Axu _ _ _ _ _ _ _ _ ?_
  refine Bbx v h1 ih1 m hm2 _ _ _ _ _ _ (1+(v.l.map C9).sum) (Ass _ _ _ _ _ _ _ _ _ (Atc _ _ _ _ _ _ _ _ _ ?_)) v.l.length 1 0 rfl (by omega) hm (by simp)
  refine Ba1 v h2 ih2 m hm2 _ _ _ _ _ _ (C9 v) (At6 _ _ (Arp _ _ (Atg _ _ (As4 _ _ hq)))) v.d.length _ 0 rfl (by omega) (by omega) ?_
  rw [he]
  simp only [List.drop_zero]
  omega
end Go.Proofs.Sim.Se
namespace Go.Proofs.Sim.Se
open Go Go.Proofs Go.Proofs.Sim Go.Proofs.Sim.Va Go.Proofs.Sim.St
def Gd(p:Prop)(r:AV)(h:Heap):Prop:=∃c:Bool,r= .imm (.bool c)∧h=[]∧(c=true→p)
theorem Agz {P:Program} {f:Nat} {args:List AV} {p:Prop} {Q:AV→Heap→Prop} (hc:Call P f args [] (Gd p))(h:∀c:Bool,(c=true→p)→Q (.imm (.bool c)) []):Call P f args [] Q:=
 hc.mono fun r g ⟨c,e1,e2,e3⟩=>by subst e1 e2;exact h c e3
inductive Ac5:Int→V→Prop where
 |mk (m:Int) (v:V):0≤m→(∀x∈v.l,Ac5 (m - 1) x)→(∀p∈v.d,Ac5 (m - 1) p.2)→Ac5 m v
inductive Qd:Int→V→Prop where
 |mk (m:Int) (v:V):v.s.length≤m→(∀x∈v.l,Qd m x)→(∀p∈v.d,p.1.length≤m)→(∀p∈v.d,Qd m p.2)→Qd m v
abbrev Axy(v:V):Prop:=∀m:Int, -1≤m→m≤1000000→Call E0.P Aae [.imm (.agg v.row), .imm (.int .i64 m)] [] (Gd (Ac5 m v))
abbrev Ao9(v:V):Prop:=∀m:Int,Call E0.P Qg [.imm (.agg v.row), .imm (.int .i64 m)] [] (Gd (Qd m v))
theorem Af4 {α:Type} {P:α→Prop} (l:List α)(i:Nat)(h:i<l.length)(ha:∀x∈l.take i,P x)(hx:P l[i]):∀x∈l.take (i+1),P x:=by
 intro x h'
 rw [List.take_add_one]at h'
 rcases List.mem_append.1 h' with h' |h'
 ·exact ha x h'
 ·simp [h]at h';rw [h'];exact hx
theorem Bct(v:V)(hl:v.l.length≤9223372036854775807)(ih:∀x∈v.l,Axy x)(m:Int)(hm0:0≤m)(hm:m≤1000000)(x0 x1 x2:Int)(xs:List UInt8)(x5:List (List IV))(K:Ex→St→Prop)
 (hF:K .ret ⟨[(4, .imm (.bool false))],[]⟩)
 (hE:(∀x∈v.l,Ac5 (m - 1) x)→K (.exit 0) ⟨[(1,(.imm (.int .i64 m))),(2,(.ptr (Nm.loc (2:Nat)) 0))],[((Nm.loc (2:Nat)),(.blk Ac [(.imm (.int .i64 x0)),(.imm (.int .i64 x1)),(.imm (.int .i64 x2)),(.imm (.str xs)),(.imm (.sl .any 6 (Kv v.l))),(.imm (.sl .any 7 x5))]))]⟩):
 ∀(f i:Nat),f+i=v.l.length→(∀x∈v.l.take i,Ac5 (m - 1) x)→Abv m i x0 x1 x2 xs (Kv v.l) x5 K:=by
 intro f
 induction f with
 |zero=>
  intro i hf ha
  refine Aiu _ _ _ _ _ _ _ _ _ ⟨fun h=> ?_,fun _=>hE ?_⟩
  ·have:=of_decide_eq_true h
   rw [H7]at this;omega
  ·rw [List.take_of_length_le (by omega)]at ha;exact ha
 |succ f ihf=>
  intro i hf ha
  have hlt:i<v.l.length:=by omega
  have hv:L9 v.l i=v.l[i]:=by simp [L9,List.getD_eq_getElem?_getD,hlt]
  refine Aiu _ _ _ _ _ _ _ _ _ ⟨fun h=> ?_,fun h=> ?_⟩
  ·rw [show(Kv v.l).getD (Int.toNat (i:Int)) []=(L9 v.l i).row from Yi _ _ hlt,Jo,H7]
   refine⟨⟨⟨by omega,by omega⟩,Yl _ _ _⟩, ?_⟩
   have w1:IntKind.i64.wrap (m - 1)=m - 1:=Bb _ (by omega) (by omega)
   have w2:IntKind.i64.wrap ((i:Int)+1)=((i+1:Nat):Int):=by rw [Bb _ (by omega) (by omega)];simp
   rw [w1,w2]
   refine Agz (ih _ (by rw [hv];exact List.getElem_mem hlt) (m - 1) (by omega) (by omega)) fun c hc=>⟨⟨rfl,rfl⟩,⟨fun _=>hF,fun h=> ?_⟩⟩
   have h:(!c)=false:=h
   exact ihf (i+1) (by omega) (Af4 _ _ hlt ha (by rw [←hv];exact hc (by simpa using h)))
  ·have:=of_decide_eq_false h
   rw [H7]at this;omega
theorem Bc0(v:V)(hl:v.d.length≤9223372036854775807)(ih:∀x∈v.d,Axy x.2)(m:Int)(hm0:0≤m)(hm:m≤1000000)(x0 x1 x2:Int)(xs:List UInt8)(x4:List (List IV))(K:Ex→St→Prop)
 (hF:K .ret ⟨[(4, .imm (.bool false))],[]⟩)(hE:(∀x∈v.d,Ac5 (m - 1) x.2)→K (.exit 2) ⟨[],[]⟩):
 ∀(f i:Nat),f+i=v.d.length→(∀x∈v.d.take i,Ac5 (m - 1) x.2)→Zn m i x0 x1 x2 xs x4 (Bv v.d) K:=by
 intro f
 induction f with
 |zero=>
  intro i hf ha
  refine Ahr _ _ _ _ _ _ _ _ _ ⟨fun h=> ?_,fun _=>hE ?_⟩
  ·have:=of_decide_eq_true h
   rw [Bc]at this;omega
  ·rw [List.take_of_length_le (by omega)]at ha;exact ha
 |succ f ihf=>
  intro i hf ha
  have hlt:i<v.d.length:=by omega
  have hv:Ce v.d i=v.d[i]:=by simp [Ce,List.getD_eq_getElem?_getD,hlt]
  refine Ahr _ _ _ _ _ _ _ _ _ ⟨fun h=> ?_,fun h=> ?_⟩
  ·rw [show(Bv v.d).getD (Int.toNat (i:Int)) []=Cu (Ce v.d i) from Aat _ _ hlt,Qn,Bc]
   refine⟨⟨⟨by omega,by omega⟩,Eo _ _ _⟩, ?_⟩
   have w1:IntKind.i64.wrap (m - 1)=m - 1:=Bb _ (by omega) (by omega)
   have w2:IntKind.i64.wrap ((i:Int)+1)=((i+1:Nat):Int):=by rw [Bb _ (by omega) (by omega)];simp
   rw [w1,w2]
   refine Agz (ih _ (by rw [hv];exact List.getElem_mem hlt) (m - 1) (by omega) (by omega)) fun c hc=>⟨⟨rfl,rfl⟩,⟨fun _=>hF,fun h=> ?_⟩⟩
   have h:(!c)=false:=h
   exact ihf (i+1) (by omega) (Af4 (P:=fun x:Pr=>Ac5 (m - 1) x.2) _ _ hlt ha (by rw [←hv];exact hc (by simpa using h)))
  ·have:=of_decide_eq_false h
   rw [Bc]at this;omega
theorem Be6(v:V)(hv:Wf v):Axy v:=by
 induction hv with
 |mk v _ _ _ _ h1 h2 _ _ _ ih1 ih2=>
  intro m hm0 hm
  have ih2:∀p∈v.d,Axy p.2:=fun p hp=>(ih2 p hp)
  generalize hQ:Gd (Ac5 m v)=Q
  have hF:Q (.imm (.bool false)) []:=by rw [←hQ];exact⟨false,rfl,rfl,fun h=>by cases h⟩
  have hT:Ac5 m v→Q (.imm (.bool true)) []:=fun h=>by rw [←hQ];exact⟨true,rfl,rfl,fun _=>h⟩
  rw [Ep]
  refine A0x _ _ _ _ _ _ _ _ ⟨fun _=>hF,fun h=> ?_⟩
  have hm0:0≤m:=by have:=of_decide_eq_false h;omega
  refine Bct v h1 ih1 m hm0 hm _ _ _ _ _ _ (Av7 _ _ hF) (fun a1=>Av8 _ _ _ _ _ _ _ _ (Asr _ _ _ _ _ _ _ _ ?_)) v.l.length 0 rfl (by simp)
  exact Bc0 v h2 ih2 m hm0 hm _ _ _ _ _ _ (Auz _ _ (Ajs _ _ hF)) (fun a2=>Avq _ (At9 _ (Av9 _ _ (Ajs _ _ (hT (.mk m v hm0 a1 a2)))))) v.d.length 0 rfl (by simp)
theorem A7e(v:V)(hl:v.l.length≤9223372036854775807)(ih:∀x∈v.l,Ao9 x)(m:Int)(x0 x1 x2:Int)(xs:List UInt8)(x5:List (List IV))(K:Ex→St→Prop)
 (hF:K .ret ⟨[(4, .imm (.bool false))],[]⟩)
 (hE:(∀x∈v.l,Qd m x)→K (.exit 0) ⟨[(1,(.imm (.int .i64 m))),(2,(.ptr (Nm.loc (2:Nat)) 0))],[((Nm.loc (2:Nat)),(.blk Ac [(.imm (.int .i64 x0)),(.imm (.int .i64 x1)),(.imm (.int .i64 x2)),(.imm (.str xs)),(.imm (.sl .any 6 (Kv v.l))),(.imm (.sl .any 7 x5))]))]⟩):
 ∀(f i:Nat),f+i=v.l.length→(∀x∈v.l.take i,Qd m x)→W9 m i x0 x1 x2 xs (Kv v.l) x5 K:=by
 intro f
 induction f with
 |zero=>
  intro i hf ha
  refine Afs _ _ _ _ _ _ _ _ _ ⟨fun h=> ?_,fun _=>hE ?_⟩
  ·have:=of_decide_eq_true h
   rw [H7]at this;omega
  ·rw [List.take_of_length_le (by omega)]at ha;exact ha
 |succ f ihf=>
  intro i hf ha
  have hlt:i<v.l.length:=by omega
  have hv:L9 v.l i=v.l[i]:=by simp [L9,List.getD_eq_getElem?_getD,hlt]
  refine Afs _ _ _ _ _ _ _ _ _ ⟨fun h=> ?_,fun h=> ?_⟩
  ·rw [show(Kv v.l).getD (Int.toNat (i:Int)) []=(L9 v.l i).row from Yi _ _ hlt,Jo,H7]
   refine⟨⟨⟨by omega,by omega⟩,Yl _ _ _⟩, ?_⟩
   have w2:IntKind.i64.wrap ((i:Int)+1)=((i+1:Nat):Int):=by rw [Bb _ (by omega) (by omega)];simp
   rw [w2]
   refine Agz (ih _ (by rw [hv];exact List.getElem_mem hlt) m) fun c hc=>⟨⟨rfl,rfl⟩,⟨fun _=>hF,fun h=> ?_⟩⟩
   have h:(!c)=false:=h
   exact ihf (i+1) (by omega) (Af4 _ _ hlt ha (by rw [←hv];exact hc (by simpa using h)))
  ·have:=of_decide_eq_false h
   rw [H7]at this;omega
theorem A66(v:V)(hl:v.d.length≤9223372036854775807)(ih:∀x∈v.d,Ao9 x.2)(m:Int)(x0 x1 x2:Int)(xs:List UInt8)(x4:List (List IV))(K:Ex→St→Prop)
 (hF:K .ret ⟨[(4, .imm (.bool false))],[]⟩)(hE:(∀x∈v.d,((x.1.length:Nat):Int)≤m∧Qd m x.2)→K (.exit 2) ⟨[],[]⟩):
 ∀(f i:Nat),f+i=v.d.length→(∀x∈v.d.take i,((x.1.length:Nat):Int)≤m∧Qd m x.2)→U9 m i x0 x1 x2 xs x4 (Bv v.d) K:=by
 intro f
 induction f with
 |zero=>
  intro i hf ha
  refine Ad4 _ _ _ _ _ _ _ _ _ ⟨fun h=> ?_,fun _=>hE ?_⟩
  ·have:=of_decide_eq_true h
   rw [Bc]at this;omega
  ·rw [List.take_of_length_le (by omega)]at ha;exact ha
 |succ f ihf=>
  intro i hf ha
  have hlt:i<v.d.length:=by omega
  have hv:Ce v.d i=v.d[i]:=by simp [Ce,List.getD_eq_getElem?_getD,hlt]
  refine Ad4 _ _ _ _ _ _ _ _ _ ⟨fun h=> ?_,fun h=> ?_⟩
  ·have g0:∀x:Pr,gS (Cu x) 0=x.1:=fun x=>by rw [Mf];rfl
   rw [show(Bv v.d).getD (Int.toNat (i:Int)) []=Cu (Ce v.d i) from Aat _ _ hlt,Qn,g0,Bc]
   have rng:((0:Int)≤(i:Int)∧(i:Int)<(v.d.length:Int))∧Ck [.str, .int .i64, .int .i64, .int .i64, .str, .sl 6 Ac, .sl 7 Ap] (Cu (Ce v.d i))=true:=⟨⟨by omega,by omega⟩,Eo _ _ _⟩
   refine⟨rng,⟨fun _=>rng,⟨fun hk=> ?_,fun _=>⟨rfl,Let.intro ⟨fun _=>hF,fun h=>absurd h (by decide)⟩⟩⟩⟩⟩
   have w2:IntKind.i64.wrap ((i:Int)+1)=((i+1:Nat):Int):=by rw [Bb _ (by omega) (by omega)];simp
   refine Agz (ih _ (by rw [hv];exact List.getElem_mem hlt) m) fun c hc=>⟨⟨rfl,rfl⟩,Let.intro ⟨fun _=>hF,fun h=> ?_⟩⟩
   have h:(!c)=false:=h
   have hk:((Ce v.d i).1.length:Int)≤m:=by
    have:decide (m<((Ce v.d i).1.length:Int))=false:=by simpa using hk
    have:=of_decide_eq_false this
    omega
   refine Ap1 _ _ _ _ _ _ _ _ _ ?_
   rw [w2]
   refine Ar7 _ _ _ _ _ _ _ _ _ (ihf (i+1) (by omega) (Af4 (P:=fun x:Pr=>((x.1.length:Nat):Int)≤m∧Qd m x.2) _ _ hlt ha ?_))
   rw [←hv]
   exact⟨hk,hc (by simpa using h)⟩
  ·have:=of_decide_eq_false h
   rw [Bc]at this;omega
theorem Bbc(v:V)(hv:Wf v):Ao9 v:=by
 induction hv with
 |mk v _ _ _ _ h1 h2 _ _ _ ih1 ih2=>
  intro m
  have ih2:∀p∈v.d,Ao9 p.2:=fun p hp=>(ih2 p hp)
  generalize hQ:Gd (Qd m v)=Q
  have hF:Q (.imm (.bool false)) []:=by rw [←hQ];exact⟨false,rfl,rfl,fun h=>by cases h⟩
  have hT:Qd m v→Q (.imm (.bool true)) []:=fun h=>by rw [←hQ];exact⟨true,rfl,rfl,fun _=>h⟩
  rw [Ep]
  refine Ave _ _ _ _ _ _ _ _ ⟨fun _=>hF,fun h=> ?_⟩
  have hs:v.s.length≤m:=by have:=of_decide_eq_false h;omega
  refine A7e v h1 ih1 m _ _ _ _ _ _ (Ark _ _ hF) (fun a1=>Arm _ _ _ _ _ _ _ _ (Aqe _ _ _ _ _ _ _ _ ?_)) v.l.length 0 rfl (by simp)
  exact A66 v h2 ih2 m _ _ _ _ _ _ (Ar8 _ _ (Aft _ _ hF)) (fun a2=>Art _ (Ap6 _ (Aq6 _ _ (Aft _ _ (hT (.mk m v hs a1 (fun p hp=>(a2 p hp).1) (fun p hp=>(a2 p hp).2))))))) v.d.length 0 rfl (by simp)
structure A7t (n:Nat) (v:V):Prop where
 c:C9 v≤n
 l:Ac5 200 v
 s:Qd 3000 v
theorem Be1(v:V)(hv:Wf v)(n:Nat)(hn:n≤1000000):Call E0.P Ala [.imm (.agg v.row), .imm (.int .i64 n)] [] (Gd (A7t n v)):=by
 have a1:=Bel v hv (n+1) (by omega) (by omega)
 have a2:=Be6 v hv 200 (by omega) (by omega)
 have a3:=Bbc v hv 3000
 generalize hQ:Gd (A7t n v)=Q
 have hF:Q (.imm (.bool false)) []:=by rw [←hQ];exact⟨false,rfl,rfl,fun h=>by cases h⟩
 have hT:∀c:Bool,(c=true→A7t n v)→Q (.imm (.bool c)) []:=fun c h=>by rw [←hQ];exact⟨c,rfl,rfl,h⟩
 rw [Ep]at a1 a2 a3 ⊢
 have w:IntKind.i64.wrap ((n:Int)+1)=((n+1:Nat):Int):=by rw [Bb _ (by omega) (by omega)];simp
 refine Azq _ _ _ _ _ _ _ _ ?_
 rw [w]
 refine Call.use a1 ⟨⟨rfl,rfl⟩,⟨fun h=> ?_,fun _=> ?_⟩⟩
 ·have hc:C9 v≤n:=by
   have h:(decide (((min (C9 v) (n+1):Nat):Int)≤(n:Int)) == true)=true:=h
   have:((min (C9 v) (n+1):Nat):Int)≤(n:Int):=by simpa using h
   omega
  refine Agz a2 fun c2 h2=>⟨⟨rfl,rfl⟩,Let.intro ⟨fun e2=> ?_,fun _=>⟨rfl,Let.intro hF⟩⟩⟩
  have e2:c2=true:=by have e2:(c2 == true)=true:=e2;simpa using e2
  exact Agz a3 fun c3 h3=>⟨⟨rfl,rfl⟩,Let.intro (hT c3 fun e3=>⟨hc,h2 e2,h3 e3⟩)⟩
 ·exact⟨rfl,Let.intro ⟨fun h=>absurd h (by decide),fun _=>⟨rfl,Let.intro hF⟩⟩⟩
end Go.Proofs.Sim.Se

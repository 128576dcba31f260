import Derived.Test.YtcdjheflchglaaaGreatDoorVsB
namespace Go.Proofs.Sim.Se
open Go Go.Proofs Go.Proofs.Sim Go.Proofs.Sim.Va Go.Proofs.Sim.St
theorem Bcs(k n g:Int)(s:List UInt8)(l:List V)(d:List Pr):(Rv k n g s l d).d=[]∨(Rv k n g s l d).d=(uniq d).filter Ud:=by
 unfold Rv
 split
 ·exact .inl rfl
 split
 ·exact .inl rfl
 split
 ·exact .inl rfl
 split
 ·exact .inr rfl
 split
 ·exact .inl rfl
 split
 ·exact .inr rfl
 ·exact .inl rfl
theorem Az4(v:V):v.plain.d=[]∨v.plain.d=S9 v.d:=by
 rw [Fg];exact Bcs _ _ _ _ _ _
theorem A67(l:List Pr):(uniq l).length≤l.length:=by
 have:=(Wj (Cg l)).length_le
 rw [show(Cg l).length=l.length from Gq ordK l]at this
 exact this
theorem A1l(v:V):v.plain.d.length≤v.d.length:=by
 rcases Az4 v with h |h<;>rw [h]
 ·simp
 ·refine Nat.le_trans (List.length_filter_le _ _) (Nat.le_trans (A67 _) (by simp [M6]))
end Go.Proofs.Sim.Se
namespace Go.Proofs.Sim.Se
open Go Go.Proofs Go.Proofs.Sim Go.Proofs.Sim.Va Go.Proofs.Sim.St
theorem Anz(ps:List Pr)(n:Nat)(h:n<ps.length):(Bz ps).getD n []=C9 (Cn ps n):=by simp [List.getD_eq_getElem?_getD,h]
end Go.Proofs.Sim.Se
namespace Go.Proofs.Sim.Se
open Go Go.Proofs Go.Proofs.Sim Go.Proofs.Sim.Va Go.Proofs.Sim.St
end Go.Proofs.Sim.Se
namespace Go.Proofs.Sim.Se
open Go Go.Proofs Go.Proofs.Sim Go.Proofs.Sim.Va Go.Proofs.Sim.St
theorem V.ext {a b:V} (h1:a.k=b.k)(h2:a.n=b.n)(h3:a.g=b.g)(h4:a.s=b.s)(h5:a.l=b.l)(h6:a.d=b.d):a=b:=by
 cases a;cases b
 simp only [V.k,V.n,V.g,V.s,V.l,V.d]at h1 h2 h3 h4 h5 h6
 subst h1 h2 h3 h4 h5 h6;rfl
def EqR(a b:V)(r:AV)(h:Heap):Prop:=∃c:Bool,r= .imm (.bool c)∧h=[]∧(c=true↔a=b)
abbrev EqAt(a b:V):Prop:=Call E0.P Dc [.imm (.agg a.row), .imm (.agg b.row)] [] (EqR a b)
theorem A7e(a b:V)(hl:a.d.length≤1000000000000)(hab:a.d.length=b.d.length)(ih:∀p∈a.d,∀q∈b.d,EqAt p.2 q.2)(x0 x1 x2 y0 y1 y2:Int)(xs ys:List UInt8)(x4 y4:List (List IV))(K:Ex→St→Prop)
 (hF:a.d≠b.d→K .ret ⟨[(4, .imm (.bool false))],[]⟩)(hT:a.d=b.d→K (.exit 2) ⟨[],[]⟩):∀(n i:Nat),n+i=a.d.length→a.d.take i=b.d.take i→
 Ux i x0 x1 x2 xs x4 (Bz a.d) y0 y1 y2 ys y4 (Bz b.d) K
 |0,i,hn,ht=>by
  refine Adk _ _ _ _ _ _ _ _ _ _ _ _ _ _ ⟨fun h=> ?_,fun _=>hT ?_⟩
  ·have:=of_decide_eq_true h
   rw [Bc]at this;omega
  ·rw [List.take_of_length_le (by omega),List.take_of_length_le (by omega)]at ht
   exact ht
 |n+1,i,hn,ht=>by
  have hia:i<a.d.length:=by omega
  have hib:i<b.d.length:=by omega
  have w:IntKind.i64.wrap ((i:Int)+1)=((i+1:Nat):Int):=by rw [Be _ (by omega) (by omega)];simp
  refine Adk _ _ _ _ _ _ _ _ _ _ _ _ _ _ ⟨fun _=> ?_,fun h=> ?_⟩
  ·rw [show(Bz a.d).getD (Int.toNat (i:Int)) []=C9 (Cn a.d i) from Anz _ _ hia,show(Bz b.d).getD (Int.toNat (i:Int)) []=C9 (Cn b.d i) from Anz _ _ hib,Aca,Aca,Bc,Bc]
   have g0:∀x:Pr,gS (C9 x) 0=x.1:=fun x=>by rw [Nw];rfl
   rw [g0,g0]
   have ea:Cn a.d i=a.d[i]:=by simp [Cn,List.getD_eq_getElem?_getD,hia]
   have eb:Cn b.d i=b.d[i]:=by simp [Cn,List.getD_eq_getElem?_getD,hib]
   have ma:Cn a.d i∈a.d:=by rw [ea];exact List.getElem_mem hia
   have mb:Cn b.d i∈b.d:=by rw [eb];exact List.getElem_mem hib
   have r1:((0:Int)≤(i:Int)∧(i:Int)<(a.d.length:Int))∧Cu [.str, .int .i64, .int .i64, .int .i64, .str, .sl 6 Ae, .sl 7 Aq] (C9 (Cn a.d i))=true:=⟨⟨by omega,by omega⟩,Fv _ _ _⟩
   have r2:((0:Int)≤(i:Int)∧(i:Int)<(b.d.length:Int))∧Cu [.str, .int .i64, .int .i64, .int .i64, .str, .sl 6 Ae, .sl 7 Aq] (C9 (Cn b.d i))=true:=⟨⟨by omega,by omega⟩,Fv _ _ _⟩
   have ne:Cn a.d i≠Cn b.d i→a.d≠b.d:=fun h e=>h (by rw [e])
   have go:Cn a.d i=Cn b.d i→Ug i x0 x1 x2 xs x4 (Bz a.d) y0 y1 y2 ys y4 (Bz b.d) (Wt K):=by
    intro e
    refine An5 _ _ _ _ _ _ _ _ _ _ _ _ _ _ ?_
    rw [w]
    refine Apu _ _ _ _ _ _ _ _ _ _ _ _ _ _ (A7e a b hl hab ih _ _ _ _ _ _ _ _ _ _ K hF hT n (i+1) (by omega) ?_)
    rw [List.take_add_one,List.take_add_one,ht]
    congr 1
    rw [ea,eb]at e
    simp [hia,hib,e]
   refine⟨r1,⟨r2,⟨fun _=>r1,⟨fun _=>r2,⟨fun hk=> ?_,fun hk=> ?_⟩⟩⟩⟩⟩
   ·refine(ih _ ma _ mb).mono ?_
    rintro r h ⟨c,rfl,rfl,hc⟩
    refine⟨⟨rfl,rfl⟩,Let.intro ⟨fun hcf=> ?_,fun hct=> ?_⟩⟩
    ·have hcf:(!c)=true:=hcf
     refine hF (ne fun e=> ?_)
     have:c=true:=hc.2 (by rw [e])
     rw [this]at hcf;cases hcf
    ·have hct:(!c)=false:=hct
     refine go (Prod.ext ?_ ?_)
     ·simpa using hk
     ·exact hc.1 (by simpa using hct)
   ·refine⟨rfl,Let.intro ⟨fun _=>hF (ne fun e=> ?_),fun h=>absurd h (by decide)⟩⟩
    rw [e]at hk;simp at hk
  ·have:=of_decide_eq_false h
   rw [Bc]at this;omega
theorem A7f(a b:V)(hl:a.l.length≤1000000000000)(hab:a.l.length=b.l.length)(ih:∀p∈a.l,∀q∈b.l,EqAt p q)(x0 x1 x2 y0 y1 y2:Int)(xs ys:List UInt8)(x5 y5:List (List IV))(K:Ex→St→Prop)
 (hF:a.l≠b.l→K .ret ⟨[(4, .imm (.bool false))],[]⟩)(hT:a.l=b.l→K (.exit 0) ⟨[(2,(.ptr (Nm.loc (2:Nat)) 0)),(3,(.ptr (Nm.loc (3:Nat)) 0))],[((Nm.loc (2:Nat)),(.blk Ae [(.imm (.int .i64 x0)),(.imm (.int .i64 x1)),(.imm (.int .i64 x2)),(.imm (.str xs)),(.imm (.sl .any 6 (Rx a.l))),(.imm (.sl .any 7 x5))])),((Nm.loc (3:Nat)),(.blk Ae [(.imm (.int .i64 y0)),(.imm (.int .i64 y1)),(.imm (.int .i64 y2)),(.imm (.str ys)),(.imm (.sl .any 6 (Rx b.l))),(.imm (.sl .any 7 y5))]))]⟩):∀(n i:Nat),n+i=a.l.length→a.l.take i=b.l.take i→
 Wu i x0 x1 x2 xs (Rx a.l) x5 y0 y1 y2 ys (Rx b.l) y5 K
 |0,i,hn,ht=>by
  refine Afm _ _ _ _ _ _ _ _ _ _ _ _ _ _ ⟨fun h=> ?_,fun _=>hT ?_⟩
  ·have:=of_decide_eq_true h
   rw [U9]at this;omega
  ·rw [List.take_of_length_le (by omega),List.take_of_length_le (by omega)]at ht
   exact ht
 |n+1,i,hn,ht=>by
  have hia:i<a.l.length:=by omega
  have hib:i<b.l.length:=by omega
  have w:IntKind.i64.wrap ((i:Int)+1)=((i+1:Nat):Int):=by rw [Be _ (by omega) (by omega)];simp
  refine Afm _ _ _ _ _ _ _ _ _ _ _ _ _ _ ⟨fun _=> ?_,fun h=> ?_⟩
  ·rw [show(Rx a.l).getD (Int.toNat (i:Int)) []=(Wp a.l i).row from Air _ _ hia,show(Rx b.l).getD (Int.toNat (i:Int)) []=(Wp b.l i).row from Air _ _ hib,Ow,Ow,U9,U9]
   have ea:Wp a.l i=a.l[i]:=by simp [Wp,List.getD_eq_getElem?_getD,hia]
   have eb:Wp b.l i=b.l[i]:=by simp [Wp,List.getD_eq_getElem?_getD,hib]
   have ma:Wp a.l i∈a.l:=by rw [ea];exact List.getElem_mem hia
   have mb:Wp b.l i∈b.l:=by rw [eb];exact List.getElem_mem hib
   have ne:Wp a.l i≠Wp b.l i→a.l≠b.l:=fun h e=>h (by rw [e])
   refine⟨⟨⟨by omega,by omega⟩,Ais _ _ _⟩,⟨⟨⟨by omega,by omega⟩,Ais _ _ _⟩, ?_⟩⟩
   refine(ih _ ma _ mb).mono ?_
   rintro r h ⟨c,rfl,rfl,hc⟩
   refine⟨⟨rfl,rfl⟩,⟨fun hcf=> ?_,fun hct=> ?_⟩⟩
   ·have hcf:(!c)=true:=hcf
    refine hF (ne fun e=> ?_)
    have:c=true:=hc.2 e
    rw [this]at hcf;cases hcf
   ·have hct:(!c)=false:=hct
    have e:=hc.1 (by simpa using hct)
    rw [w]
    refine A7f a b hl hab ih _ _ _ _ _ _ _ _ _ _ K hF hT n (i+1) (by omega) ?_
    rw [List.take_add_one,List.take_add_one,ht]
    congr 1
    rw [ea,eb]at e
    simp [hia,hib,e]
  ·have:=of_decide_eq_false h
   rw [U9]at this;omega
theorem Azl(a:V)(ha:Fit a):∀b:V,EqAt a b:=by
 induction ha with
 |mk a h1 h2 _ _ ih1 ih2=>
  intro b
  show Call E0.P Dc [.imm (.agg a.row), .imm (.agg b.row)] [] _
  generalize hQ:EqR a b=Q
  have hT:a=b→Q (.imm (.bool true)) []:=fun h=>by rw [←hQ];exact⟨true,rfl,rfl,by simp [h]⟩
  have hF:a≠b→Q (.imm (.bool false)) []:=fun h=>by rw [←hQ];exact⟨false,rfl,rfl,by simp [h]⟩
  rw [Ha,Ha b]
  refine Asp _ _ _ _ _ _ _ _ _ _ _ _ _ (Let.intro (Let.intro (Let.intro (Let.intro (Let.intro ⟨fun h=> ?_,fun h=> ?_⟩)))))
  ·refine hF fun e=> ?_
   subst e
   simp at h
  ·simp only [Bool.cond_true_left,Bool.or_eq_false_iff,Bool.not_eq_false',decide_eq_true_eq,List.length_map]at h
   obtain⟨⟨⟨⟨⟨e1,e2⟩,e3⟩,e4⟩,e5⟩,e6⟩:=h
   have e4:a.s=b.s:=by simpa using e4
   have e5:a.l.length=b.l.length:=by omega
   have e6:a.d.length=b.d.length:=by omega
   refine A7f a b h1 e5 (fun p hp q _=>ih1 p hp q) _ _ _ _ _ _ _ _ _ _ _ (fun h=> ?_) (fun hl=> ?_) a.l.length 0 (by omega) rfl
   ·exact App _ _ (hF fun e=>h (by rw [e]))
   ·refine Apq _ _ _ _ _ _ _ _ _ _ _ _ _ (An4 _ _ _ _ _ _ _ _ _ _ _ _ _ ?_)
    refine A7e a b h2 e6 (fun p hp q _=>ih2 p hp q.2) _ _ _ _ _ _ _ _ _ _ _ (fun h=> ?_) (fun hd=> ?_) a.d.length 0 (by omega) rfl
    ·exact Aps _ _ (Aff _ _ (hF fun e=>h (by rw [e])))
    ·exact Apt _ (An6 _ (Apr _ _ (Aff _ _ (hT (V.ext e1 e2 e3 e4 hl hd)))))
end Go.Proofs.Sim.Se
namespace Go.Proofs.Sim.Se
open Go Go.Proofs Go.Proofs.Sim Go.Proofs.Sim.Va Go.Proofs.Sim.St
abbrev I64(n:Int):Prop:= -9223372036854775808≤n∧n≤9223372036854775807
def D5:V→Nat
 | .mk k n g s l d=>1+(l.attach.map fun⟨v,_h⟩=>D5 v).sum+(d.attach.map fun⟨p,_h⟩=>D5 p.2).sum
 termination_by v=>SizeOf.sizeOf v
 decreasing_by
  ·exact Am4 _h
  ·exact Am3 _h
theorem Tx(v:V):D5 v=1+(v.l.map D5).sum+(v.d.map fun p=>D5 p.2).sum:=by
 obtain⟨k,n,g,s,l,d⟩:=v
 rw [D5]
 simp only [V.l,V.d]
 congr 1
 ·congr 2
  simp
 ·congr 1
  apply List.ext_getElem<;>simp
theorem Ah1(v:V):1≤D5 v:=by rw [Tx];omega
theorem Ain {α:Type} (f:α→Nat)(l:List α)(h:∀x∈l,1≤f x):l.length≤(l.map f).sum:=by
 induction l with
 |nil=>simp
 |cons x l ih=>
  have:=ih fun y hy=>h y (by simp [hy])
  have:=h x (by simp)
  simp;omega
theorem Aio {α:Type} (f:α→Nat)(l:List α)(x:α)(h:x∈l):f x≤(l.map f).sum:=by
 induction l with
 |nil=>simp at h
 |cons y l ih=>
  simp only [List.map_cons,List.sum_cons]
  rcases List.mem_cons.1 h with rfl |h
  ·omega
  ·have:=ih h;omega
theorem Anm(n:Nat)(hn:n≤1000000000000):∀(m:Nat) (v:V),SizeOf.sizeOf v≤m→D5 v≤n→Fit v:=by
 intro m
 induction m with
 |zero=>intro v h;exact absurd h (by cases v;simp)
 |succ m ih=>
  intro v hm hv
  have he:=Tx v
  have h1:=Ain D5 v.l fun x _=>Ah1 x
  have h2:=Ain (fun p:Pr=>D5 p.2) v.d fun x _=>Ah1 x.2
  refine .mk v (by omega) (by omega) (fun x hx=> ?_) (fun p hp=> ?_)
  ·have:=Aio D5 v.l x hx
   obtain⟨k,n',g,s,l,d⟩:=v
   have:=Am4 (k:=k) (n:=n') (g:=g) (s:=s) (d:=d) (show x∈l from hx)
   exact ih x (by omega) (by omega)
  ·have:=Aio (fun p:Pr=>D5 p.2) v.d p hp
   obtain⟨k,n',g,s,l,d⟩:=v
   have:=Am3 (k:=k) (n:=n') (g:=g) (s:=s) (l:=l) (show p∈d from hp)
   exact ih p.2 (by omega) (by omega)
end Go.Proofs.Sim.Se
namespace Go.Proofs.Sim.Se
open Go Go.Proofs Go.Proofs.Sim Go.Proofs.Sim.Va Go.Proofs.Sim.St
inductive Po:Int→V→Prop where
 |mk (m:Int) (v:V):v.s.length≤m→(∀x∈v.l,Po m x)→(∀p∈v.d,p.1.length≤m)→(∀p∈v.d,Po m p.2)→Po m v
theorem A41 {α:Type} {P:α→Prop} (l:List α)(i:Nat)(h:i<l.length)(ha:∀x∈l.take i,P x)(hx:P l[i]):∀x∈l.take (i+1),P x:=by
 intro x h'
 rw [List.take_add_one]at h'
 rcases List.mem_append.1 h' with h' |h'
 ·exact ha x h'
 ·simp [h]at h';rw [h'];exact hx
end Go.Proofs.Sim.Se

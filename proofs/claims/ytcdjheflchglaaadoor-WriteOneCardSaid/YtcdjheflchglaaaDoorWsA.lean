import Derived.Test.YtcdjheflchglaaaDoorWrB
import Derived.Test.YtcdjheflchglaaaDoorBkA
set_option maxRecDepth 100000
namespace Go.Proofs.Sim.Se
open Go Go.Proofs Go.Proofs.Sim Go.Proofs.Sim.Va Go.Proofs.Sim.St Go.RowKit
theorem V.extW {a b:V} (h1:a.k=b.k)(h2:a.n=b.n)(h3:a.g=b.g)(h4:a.s=b.s)(h5:a.l=b.l)(h6:a.d=b.d):a=b:=by
 cases a;cases b
 simp only [V.k,V.n,V.g,V.s,V.l,V.d]at h1 h2 h3 h4 h5 h6
 subst h1 h2 h3 h4 h5 h6;rfl
def TlR(p:Prop)(r:AV)(h:Heap):Prop:=∃c:Bool,r= .imm (.bool c)∧h=[]∧(c=true↔p)
abbrev Ak0(a b:V):Prop:=Call E0.P Fy [.imm (.agg a.row), .imm (.agg b.row)] [] (TlR (a=b))
theorem Ax0(a b:List V)(hl:a.length≤1000000000000)(hab:a.length=b.length)(ih:∀p∈a,∀q∈b,Ak0 p q)(K:Ex→St→Prop)
 (hF:a≠b→K .ret ⟨[(6, .imm (.bool false))],[]⟩)(hT:a=b→K (.exit 0) ⟨[],[]⟩):∀(n i:Nat),n+i=a.length→a.take i=b.take i→
 En (Jg b) (Jg a) a.length i K
 |0,i,hn,ht=>by
  refine I6 _ _ _ _ _ ⟨fun h=> ?_,fun _=>hT ?_⟩
  ·have:=of_decide_eq_true h
   omega
  ·rw [List.take_of_length_le (by omega),List.take_of_length_le (by omega)]at ht
   exact ht
 |n+1,i,hn,ht=>by
  have hia:i<a.length:=by omega
  have hib:i<b.length:=by omega
  have w:IntKind.i64.wrap ((i:Int)+1)=((i+1:Nat):Int):=by rw [A7 _ (by omega) (by omega)];simp
  refine I6 _ _ _ _ _ ⟨fun _=> ?_,fun h=> ?_⟩
  ·rw [show(Jg a).getD (Int.toNat (i:Int)) []=(J3 a i).row from Ta _ _ hia,show(Jg b).getD (Int.toNat (i:Int)) []=(J3 b i).row from Ta _ _ hib,Du,Du,Ey,Ey]
   have ea:J3 a i=a[i]:=by simp [J3,List.getD_eq_getElem?_getD,hia]
   have eb:J3 b i=b[i]:=by simp [J3,List.getD_eq_getElem?_getD,hib]
   have ma:J3 a i∈a:=by rw [ea];exact List.getElem_mem hia
   have mb:J3 b i∈b:=by rw [eb];exact List.getElem_mem hib
   have ne:J3 a i≠J3 b i→a≠b:=fun h e=>h (by rw [e])
   refine⟨⟨⟨by omega,by omega⟩,Tc _ _ _⟩,⟨⟨⟨by omega,by omega⟩,Tc _ _ _⟩, ?_⟩⟩
   refine(ih _ ma _ mb).mono ?_
   rintro r h ⟨c,rfl,rfl,hc⟩
   refine⟨⟨rfl,rfl⟩,⟨fun hcf=> ?_,fun hct=> ?_⟩⟩
   ·have hcf:(!c)=true:=hcf
    refine hF (ne fun e=> ?_)
    have:c=true:=hc.2 e
    rw [this]at hcf;cases hcf
   ·have hct:(!c)=false:=hct
    have e:=hc.1 (by simpa using hct)
    rw [w]
    refine Ax0 a b hl hab ih K hF hT n (i+1) (by omega) ?_
    rw [List.take_add_one,List.take_add_one,ht]
    congr 1
    rw [ea,eb]at e
    simp [hia,hib,e]
  ·have:=of_decide_eq_false h
   omega
theorem A14(a b:List V)(hl:a.length≤1000000000000)(ih:∀p∈a,∀q∈b,Ak0 p q):Call E0.P Gr [.imm (.sl .any 6 (Jg a)), .imm (.sl .any 6 (Jg b)), .fn Fy []] [] (TlR (a=b)):=by
 refine Q4 _ _ _ ⟨fun h=> ?_,fun h=> ?_⟩
 ·refine⟨false,rfl,rfl,⟨fun h=>(by cases h),fun e=> ?_⟩⟩
  rw [Ey,Ey,e]at h;simp at h
 ·rw [Ey,Ey]at h
  rw [Ey]
  have hab:a.length=b.length:=by simp at h;omega
  refine Ax0 a b hl hab ih _ (fun hn=> ?_) (fun he=> ?_) a.length 0 (by omega) rfl
  ·exact P5 _ _ ⟨false,rfl,rfl,⟨fun h=>(by cases h),fun e=>absurd e hn⟩⟩
  ·exact P6 _ (O7 _ (Pz _ _ ⟨true,rfl,rfl,⟨fun _=>he,fun _=>rfl⟩⟩))
abbrev ApAt(a b:Pr):Prop:=Call E0.P Gi [.imm (.agg (Bw a)), .imm (.agg (Bw b))] [] (TlR (a=b))
theorem A15(p q:Pr)(h:Ak0 p.2 q.2):ApAt p q:=by
 rw [ApAt,Iq,Iq]
 rw [Ak0,Cj,Cj]at h
 refine Aet _ _ _ _ _ _ _ _ _ _ _ _ _ _ _ ⟨fun hk=> ?_,fun hk=>⟨rfl,Let.intro ⟨false,rfl,rfl,⟨fun h=>(by cases h),fun e=> ?_⟩⟩⟩⟩
 ·have hk:p.1=q.1:=by simpa using hk
  refine h.mono ?_
  rintro r g ⟨c,rfl,rfl,hc⟩
  exact⟨⟨rfl,rfl⟩,Let.intro ⟨c,rfl,rfl,⟨fun e=>Prod.ext hk (hc.1 e),fun e=>hc.2 (by rw [e])⟩⟩⟩
 ·rw [e]at hk;simp at hk
theorem Aqb(p:Pr): [.str (gS (Bw p) 0), .int .i64 (gI (Bw p) 1), .int .i64 (gI (Bw p) 2), .int .i64 (gI (Bw p) 3), .str (gS (Bw p) 4), .sl .any 6 (gR (Bw p) 5), .sl .any 7 (gR (Bw p) 6)]=Bw p:=by
 rw [Iq];rfl
theorem Axz(a b:List Pr)(hl:a.length≤1000000000000)(hab:a.length=b.length)(ih:∀p∈a,∀q∈b,ApAt p q)(K:Ex→St→Prop)
 (hF:a≠b→K .ret ⟨[(6, .imm (.bool false))],[]⟩)(hT:a=b→K (.exit 0) ⟨[],[]⟩):∀(n i:Nat),n+i=a.length→a.take i=b.take i→
 E8 (Bc b) (Bc a) a.length i K
 |0,i,hn,ht=>by
  refine Ju _ _ _ _ _ ⟨fun h=> ?_,fun _=>hT ?_⟩
  ·have:=of_decide_eq_true h
   omega
  ·rw [List.take_of_length_le (by omega),List.take_of_length_le (by omega)]at ht
   exact ht
 |n+1,i,hn,ht=>by
  have hia:i<a.length:=by omega
  have hib:i<b.length:=by omega
  have w:IntKind.i64.wrap ((i:Int)+1)=((i+1:Nat):Int):=by rw [A7 _ (by omega) (by omega)];simp
  refine Ju _ _ _ _ _ ⟨fun _=> ?_,fun h=> ?_⟩
  ·rw [show(Bc a).getD (Int.toNat (i:Int)) []=Bw (Bl a i) from V9 _ _ hia,show(Bc b).getD (Int.toNat (i:Int)) []=Bw (Bl b i) from V9 _ _ hib,Aqb,Aqb,Ap,Ap]
   have ea:Bl a i=a[i]:=by simp [Bl,List.getD_eq_getElem?_getD,hia]
   have eb:Bl b i=b[i]:=by simp [Bl,List.getD_eq_getElem?_getD,hib]
   have ma:Bl a i∈a:=by rw [ea];exact List.getElem_mem hia
   have mb:Bl b i∈b:=by rw [eb];exact List.getElem_mem hib
   have ne:Bl a i≠Bl b i→a≠b:=fun h e=>h (by rw [e])
   refine⟨⟨⟨by omega,by omega⟩,Dt _ _ _⟩,⟨⟨⟨by omega,by omega⟩,Dt _ _ _⟩, ?_⟩⟩
   refine(ih _ ma _ mb).mono ?_
   rintro r h ⟨c,rfl,rfl,hc⟩
   refine⟨⟨rfl,rfl⟩,⟨fun hcf=> ?_,fun hct=> ?_⟩⟩
   ·have hcf:(!c)=true:=hcf
    refine hF (ne fun e=> ?_)
    have:c=true:=hc.2 e
    rw [this]at hcf;cases hcf
   ·have hct:(!c)=false:=hct
    have e:=hc.1 (by simpa using hct)
    rw [w]
    refine Axz a b hl hab ih K hF hT n (i+1) (by omega) ?_
    rw [List.take_add_one,List.take_add_one,ht]
    congr 1
    rw [ea,eb]at e
    simp [hia,hib,e]
  ·have:=of_decide_eq_false h
   omega
theorem A13(a b:List Pr)(hl:a.length≤1000000000000)(ih:∀p∈a,∀q∈b,ApAt p q):Call E0.P H7 [.imm (.sl .any 7 (Bc a)), .imm (.sl .any 7 (Bc b)), .fn Gi []] [] (TlR (a=b)):=by
 refine Tg _ _ _ ⟨fun h=> ?_,fun h=> ?_⟩
 ·refine⟨false,rfl,rfl,⟨fun h=>(by cases h),fun e=> ?_⟩⟩
  rw [Ap,Ap,e]at h;simp at h
 ·rw [Ap,Ap]at h
  rw [Ap]
  have hab:a.length=b.length:=by simp at h;omega
  refine Axz a b hl hab ih _ (fun hn=> ?_) (fun he=> ?_) a.length 0 (by omega) rfl
  ·exact Q7 _ _ ⟨false,rfl,rfl,⟨fun h=>(by cases h),fun e=>absurd e hn⟩⟩
  ·exact Q8 _ (Ql _ (Q6 _ _ ⟨true,rfl,rfl,⟨fun _=>he,fun _=>rfl⟩⟩))
theorem Ayy(a:V)(ha:Fit a):∀b:V,Ak0 a b:=by
 induction ha with
 |mk a h1 h2 _ _ ih1 ih2=>
  intro b
  rw [Ak0,Cj,Cj b]
  refine Ah5 _ _ _ _ _ _ _ _ _ _ _ _ _ (Let.intro (Let.intro (Let.intro ⟨fun h=> ?_,fun h=> ?_⟩)))
  ·refine⟨false,rfl,rfl,⟨fun h=>(by cases h),fun e=> ?_⟩⟩
   subst e
   simp at h
  ·have e1:a.k=b.k:=by by_cases e:a.k=b.k;exact e;simp [e]at h
   have e2:a.n=b.n:=by by_cases e:a.n=b.n;exact e;simp [e]at h
   have e3:a.g=b.g:=by by_cases e:a.g=b.g;exact e;simp [e]at h
   have e4:a.s=b.s:=by by_cases e:a.s=b.s;exact e;simp [e]at h
   refine(A14 a.l b.l h1 fun p hp q _=>ih1 p hp q).mono ?_
   rintro r g ⟨c,rfl,rfl,hc⟩
   refine⟨⟨rfl,rfl⟩,⟨fun hct=> ?_,fun hcf=>⟨rfl,Let.intro ⟨false,rfl,rfl,⟨fun h=>(by cases h),fun e=> ?_⟩⟩⟩⟩⟩
   ·have hct:(c == true)=true:=hct
    have e5:=hc.1 (by simpa using hct)
    refine(A13 a.d b.d h2 fun p hp q _=>A15 p q (ih2 p hp q.2)).mono ?_
    rintro r g ⟨c,rfl,rfl,hc⟩
    exact⟨⟨rfl,rfl⟩,Let.intro ⟨c,rfl,rfl,⟨fun e=>V.extW e1 e2 e3 e4 e5 (hc.1 e),fun e=>hc.2 (by rw [e])⟩⟩⟩
   ·have hcf:(c == true)=false:=hcf
    have:c=true:=hc.2 (by rw [e])
    rw [this]at hcf;cases hcf
theorem A0t(a b:V)(ha:Fit a)(hb:Fit b)(hp:Fit a.plain):Call E0.P Xx [.imm (.agg a.row), .imm (.agg b.row)] [] (TlR (a.plain=b.plain)):=by
 have h1:=Agg a ha
 have h2:=Agg b hb
 have h3:=Ayy a.plain hp b.plain
 rw [Hg,Cj]at h1 h2
 rw [Cj,Cj b]
 refine Ajh _ _ _ _ _ _ _ _ _ _ _ _ _ (Call.use h1 ⟨⟨rfl, ?_⟩,Call.use h2 ⟨⟨rfl, ?_⟩, ?_⟩⟩)
 ·rw [X8,Du]
 ·rw [X8,Du]
 ·rw [X8,X8,Du,Du]
  refine h3.mono ?_
  rintro r g ⟨c,rfl,rfl,hc⟩
  exact⟨⟨rfl,rfl⟩,⟨c,rfl,rfl,hc⟩⟩
theorem Ari(s:List UInt8)(hs:s.length≤1000000000000)(h:s.all Df=true)(K:Ex→St→Prop)(hK:K (.exit 0) ⟨[],[]⟩):∀(n i:Nat),n+i=s.length→Ug s i K
 |0,i,hn=>by
  refine Aam _ _ _ ⟨fun h=> ?_,fun _=>hK⟩
  have:=of_decide_eq_true h
  omega
 |n+1,i,hn=>by
  have hi:i<s.length:=by omega
  have w:IntKind.i64.wrap ((i:Int)+1)=((i+1:Nat):Int):=by rw [A7 _ (by omega) (by omega)];simp
  have hc:Df (s.getD i 0)=true:=by
   rw [List.all_eq_true]at h
   have e:s.getD i 0=s[i]:=by simp [List.getD_eq_getElem?_getD,hi]
   rw [e];exact h _ (List.getElem_mem hi)
  have hc:=of_decide_eq_true hc
  refine Aam _ _ _ ⟨fun _=>⟨⟨by omega,by omega⟩,fun _=>⟨by omega,by omega⟩,Let.intro ⟨fun h=> ?_,fun _=> ?_⟩⟩,fun h=> ?_⟩
  ·rw [Int.toNat_natCast]at h
   rw [decide_eq_false (by omega)]at h
   have:=of_decide_eq_true h
   omega
  ·rw [w];exact Ari s hs h K hK n (i+1) (by omega)
  ·have:=of_decide_eq_false h
   omega
theorem Ark(s:List UInt8)(hs:s.length≤1000000000000)(h:s.all Df=true):Call E0.P Jy [.imm (.str s)] [] (Is (.imm (.bool true)) []):=
 Anj _ _ (Ari s hs h _ (Ajn _ (Ajb _ (Ajm _ _ ⟨rfl,rfl⟩))) s.length 0 (by omega))
theorem Sq {a b:List UInt8} (h1:a.all Df=true)(h2:b.all Df=true):(a++b).all Df=true:=by rw [List.all_append,h1,h2];rfl
theorem At1(f:UInt8→List UInt8)(h:∀c,(f c).all Df=true)(s:List UInt8):(s.flatMap f).all Df=true:=by
 induction s with
 |nil=>rfl
 |cons c s ih=>rw [List.flatMap_cons];exact Sq (h c) ih
theorem Ao2:∀n,n<16→Df (Vp n)=true:=by decide
theorem Am2(c:UInt8):(K4 c).all Df=true:=by
 have h1:=Ao2 (c.toNat / 16) (by have:=c.toNat_lt;omega)
 have h2:=Ao2 (c.toNat % 16) (by omega)
 simp [K4,h1,h2]
theorem As7(c:UInt8):(Ia c).all Df=true:=by
 unfold Ia
 split
 ·rename_i h
  have h:=of_decide_eq_true h
  simp only [List.all_cons,List.all_nil,Bool.and_true]
  exact decide_eq_true ⟨h.1,h.2.1⟩
 ·rw [List.all_cons,Am2];decide
theorem Ake(s:List UInt8):(Cg s).all Df=true:=by
 rw [Cg,List.all_cons,At1 Ia As7];decide
theorem Atq(s:List UInt8):(Ny s).all Df=true:=by
 unfold Ny
 split
 ·rename_i h
  have:∀t:List UInt8,t.all Df=true→(t.flatMap Jj).all Df=true:=by
   intro t
   induction t with
   |nil=>intro _;rfl
   |cons c t ih=>
    intro ht
    rw [List.all_cons,Bool.and_eq_true]at ht
    rw [List.flatMap_cons]
    refine Sq ?_ (ih ht.2)
    unfold Jj
    split
    ·simp only [List.all_cons,List.all_nil,Bool.and_true,ht.1];decide
    ·simp [ht.1]
  rw [List.cons_append,List.all_cons,List.all_append,this s h];decide
 ·rw [List.all_cons,Af0,List.all_append,At1 K4 Am2];decide
theorem Af1(x:Int):(Lib.itoa x).all Df=true:=by
 rw [List.all_eq_true]
 intro c hc
 have hd:∀d,Aau d=true→Df d=true:=fun d h=>by
  rw [Xf]at h
  exact decide_eq_true ⟨by omega,by omega⟩
 unfold Lib.itoa at hc
 split at hc
 ·rcases List.mem_cons.1 hc with rfl |hc
  ·decide
  ·exact hd c (Yw _ c hc)
 ·exact hd c (Yw _ c hc)
theorem Aav(l:List (List UInt8))(h:∀x∈l,x.all Df=true):(Bf l).all Df=true:=by
 cases l with
 |nil=>rfl
 |cons x r=>
  rw [Bf,Lib.join_cons]
  refine Sq (h x List.mem_cons_self) ?_
  rw [Lib.joinTail,List.all_flatten,List.all_eq_true]
  intro y hy
  obtain⟨z,hz,rfl⟩:=List.mem_map.1 hy
  rw [List.all_append,h z (List.mem_cons_of_mem _ hz)];decide
theorem A0f:∀(N:Nat) (v:V),SizeOf.sizeOf v<N→v.wr.all Df=true:=by
 intro N
 induction N with
 |zero=>intro v h;cases h
 |succ N ih=>
  intro v hN
  obtain⟨k,n,g,s,l,d⟩:=v
  have hl:∀x∈l.map V.wr,x.all Df=true:=fun x hx=>by
   obtain⟨y,hy,rfl⟩:=List.mem_map.1 hx
   exact ih y (by have:=Adl (k:=k) (n:=n) (g:=g) (s:=s) (d:=d) hy;omega)
  have hd:∀x∈(d.map fun p=>(p.1,p.2.wr)).map fun p=>Bf [Cg p.1,p.2],x.all Df=true:=fun x hx=>by
   rw [List.map_map]at hx
   obtain⟨p,hp,rfl⟩:=List.mem_map.1 hx
   refine Aav _ fun y hy=> ?_
   simp only [List.mem_cons,List.not_mem_nil,or_false]at hy
   rcases hy with rfl |rfl
   ·exact Ake _
   ·exact ih p.2 (by have:=Adk (k:=k) (n:=n) (g:=g) (s:=s) (l:=l) hp;omega)
  rw [Jh]
  show(mkW k n g s (l.map V.wr) (d.map fun p=>(p.1,p.2.wr))).all Df=true
  unfold mkW
  split
  ·split<;>decide
  split
  ·exact Af1 n
  split
  ·exact Ake s
  split
  ·exact Atq s
  split
  ·exact Sq (Sq (by decide) (Aav _ hl)) (by decide)
  split
  ·exact Sq (Sq (by decide) (Aav _ hd)) (by decide)
  split
  ·refine Sq (Aav _ fun y hy=> ?_) (by decide)
   simp only [List.mem_cons,List.not_mem_nil,or_false]at hy
   rcases hy with rfl |rfl
   ·exact Af1 n
   ·exact Af1 g
  ·decide
end Go.Proofs.Sim.Se
set_option maxRecDepth 100000
namespace Go.Proofs.Sim.Se
open Go Go.Proofs Go.Proofs.Sim Go.Proofs.Sim.Va Go.Proofs.Sim.St Go.Proofs.Sim.Pa Go.RowKit
theorem Aqd(v:V)(hv:Jw 0 v):L9 v.wr (v.wr.length+1) 0 0=(v,v.wr.length,0):=by
 have hd:v.wr.drop v.wr.length=[]:=List.drop_length
 have hn:=Ava (s:=v.wr) (a:=v.wr.length) hd (Nat.le_refl _)
 have h0:v.wr.drop 0=v.wr++[]:=by simp
 have:=Avh hv v.wr (v.wr.length+1) 0 [] (by omega) h0 Axr (fun _=>by rw [Nat.zero_add,Yj,hn];simp)
 rw [Nat.zero_add]at this
 exact this
theorem A1y {a b:V} (ha:Jw 0 a)(hb:Jw 0 b)(h:a.wr=b.wr):a=b:=by
 have h1:=Aqd a ha
 have h2:=Aqd b hb
 rw [h,h2]at h1
 exact(Prod.mk.inj h1).1.symm
theorem Avy(v:V):(Ib v).2=v.chk false 0:=by
 unfold Ib
 split
 ·rfl
 ·rename_i h;exact(Classical.not_not.1 h).symm
theorem Ar4(v:V):(Ib v).1.all Df=true:=by
 unfold Ib
 split
 ·rfl
 ·exact A0f _ _ (Nat.lt_succ_self _)
theorem Avz {v:V} (hs:Scal v)(hc:Ch v≤1000):(Ib v).1.length≤20000000:=by
 unfold Ib
 split
 ·simp
 ·obtain⟨p1,p2⟩:=Adc hs
  have:=(Av3 p1).1
  show v.plain.wr.length≤_
  omega
theorem Amh {v:V} (h:v.chk false 0≠0):(Ib v).1=[]:=by rw [Ib,if_pos h]
theorem bt {b:Bool} (hb:b=true) {A B:Prop} (h:A):Br b A B:=⟨fun _=>h,fun h'=>absurd (hb.symm.trans h') (by decide)⟩
theorem bf {b:Bool} (hb:b=false) {A B:Prop} (h:B):Br b A B:=⟨fun h'=>absurd (hb.symm.trans h') (by decide),fun _=>h⟩
theorem last(Q:AV→Heap→Prop)(hq:Q (.imm (.bool true)) [])(K:Ex→St→Prop)(hK:∀b,Q (.imm (.bool b)) []→K .ret ⟨[(4, .imm (.bool b))],[]⟩):Call E0.P Ik [] [] fun r g=>Af (g=[]∧r= .imm (.bool (rB r))) (Let (rB r) fun x=>K .ret ⟨[(4, .imm (.bool x))],[]⟩):=
 Call.use Afj ⟨⟨rfl,rfl⟩,Let.intro (hK true hq)⟩
theorem S_WriteOne(v w:V)(hv:Wf v)(hw:Wf w):Call E0.P Aar [.imm (.agg v.row), .imm (.agg w.row)] [] Tr:=by
 have hF:=Ax4 v hv 500 (by omega)
 have hG:=Ax4 w hw 500 (by omega)
 have hT:=Pb v
 have hU:=Pb w
 have hC:=Ale v
 have hD:=Ale w
 have hP:=Agg v
 have hS:=A0t v w
 simp only [Hg]at hP
 rw [Cj]at hF hT hC hP hS
 rw [Cj w]at hG hU hD hS
 rw [Cj,Cj w]
 refine Ag8 _ _ _ _ _ _ _ _ _ _ _ _ _ (Xd hF fun c hc=>⟨⟨rfl,rfl⟩, ?_⟩)
 have out:∀b:Bool,Tr (.imm (.bool b)) []→Tr (.imm (.bool b)) []:=fun _ h=>h
 cases c with
 |false=>exact bf rfl ⟨rfl,Let.intro (Om _ _ _ _ _ _ _ _ _ _ _ _ _ _ (bt rfl (Call.use Afj ⟨⟨rfl,rfl⟩,Ve _ _ ⟨rfl,rfl⟩⟩)))⟩
 |true=>
 refine bt rfl (Xd hG fun c hc'=>⟨⟨rfl,rfl⟩,Let.intro ?_⟩)
 cases c with
 |false=>exact Om _ _ _ _ _ _ _ _ _ _ _ _ _ _ (bt rfl (Call.use Afj ⟨⟨rfl,rfl⟩,Ve _ _ ⟨rfl,rfl⟩⟩))
 |true=>
 have f1:=hc rfl
 have f2:=hc' rfl
 have s1:=Ar0 hv f1.s
 have s2:=Ar0 hw f2.s
 have c1:Ch v≤1000:=by have:=f1.c;omega
 have c2:Ch w≤1000:=by have:=f2.c;omega
 have t1:=Agr 1000 (by omega) _ v (Nat.le_refl _) c1
 have t2:=Agr 1000 (by omega) _ w (Nat.le_refl _) c2
 obtain⟨p1,p2⟩:=Adc s1
 have t3:=Agr 1000 (by omega) _ v.plain (Nat.le_refl _) (by omega)
 have l1:=Avz s1 c1
 have l2:=Avz s2 c2
 refine Om _ _ _ _ _ _ _ _ _ _ _ _ _ _ (bf rfl (Ad9 _ _ _ _ _ _ _ _ _ _ _ _ _ (Ady _ _ _ _ _ _ _ _ _ _ _ _ _ ?_)))
 refine Call.use (hT s1 c1) ⟨⟨rfl,rfl⟩,Call.use (hU s2 c2) ⟨⟨rfl,rfl⟩,Call.use (hC t1 false) ⟨⟨rfl,rfl⟩, ?_⟩⟩⟩
 have e1:rI (rT (Aps (Ib v)) 1)=v.chk false 0:=Avy v
 have e2:rI (rT (Aps (Ib w)) 1)=w.chk false 0:=Avy w
 have g1:rI (.imm (.int .i64 (v.chk false 0)))=v.chk false 0:=rfl
 have g2:rI (.imm (.int .i64 (w.chk false 0)))=w.chk false 0:=rfl
 rw [tx0,tx0,e1,e2,g1]
 refine bt (by simp) (Call.use (hD t2 false) ⟨⟨rfl,rfl⟩,Let.intro ?_⟩)
 rw [g2]
 refine bt (by simp) (Call.use (Ark _ (by omega) (Ar4 v)) ⟨⟨rfl,rfl⟩,Let.intro ?_⟩)
 refine bt (by decide) (Call.use (Ark _ (by omega) (Ar4 w)) ⟨⟨rfl,rfl⟩,Let.intro ?_⟩)
 refine bf (by decide) (Adz _ _ _ _ _ _ _ _ _ _ _ _ _ _ _ _ _ (Let.intro ?_))
 have kk:∀b:Bool,Tr (.imm (.bool b)) []→Dv (Nf Tr) .ret ⟨[(4, .imm (.bool b))],[]⟩:=fun b h=>Aea _ _ (Ad8 _ _ h)
 by_cases h1:v.chk false 0=0
 ·by_cases h2:w.chk false 0=0
  ·rw [h1,h2]
   have ok1:=(Al9 v 0).1 h1
   have ok2:=(Al9 w 0).1 h2
   have op1:=Am9 ok1
   have op2:=Am9 ok2
   have x1:Ib v=(v.plain.wr,0):=by rw [Ib,if_neg (fun h=>h h1)]
   have x2:Ib w=(w.plain.wr,0):=by rw [Ib,if_neg (fun h=>h h2)]
   have x3:Ib v.plain=(v.plain.wr,0):=by rw [Ib,if_neg (fun h=>h ((Al9 v.plain 0).2 op1)),Aq8]
   rw [x1,x2]
   refine bf rfl (Call.use (hP t1) ⟨⟨rfl, ?_⟩, ?_⟩)
   ·rw [X8,Du]
   rw [X8,Du]
   have hW:=Pb v.plain p1 (by omega)
   rw [x3]at hW
   refine Call.use hW ⟨⟨rfl,rfl⟩, ?_⟩
   refine(hS t1 t2 t3).mono ?_
   rintro r g ⟨c,rfl,rfl,hc⟩
   have e3:((v.plain.wr == w.plain.wr) == c)=true:=by
    have:(v.plain.wr == w.plain.wr)=c:=by
     rw [Bool.eq_iff_iff,hc]
     exact⟨fun h=>A1y op1 op2 (by simpa using h),fun h=>by rw [h];simp⟩
    rw [this];simp
   have g3:rB (.imm (.bool c))=c:=rfl
   refine⟨⟨rfl,rfl⟩,Let.intro (Let.intro ?_)⟩
   rw [g3,tx0,tx1,e3]
   exact bt (by simp) (last Tr ⟨rfl,rfl⟩ _ kk)
  ·refine bt (by simp [h2]) (Let.intro (bt (by simp [h1]) (Let.intro (Let.intro (bt ?_ (last Tr ⟨rfl,rfl⟩ _ kk))))))
   rw [Amh h2];simp
 ·refine bt (by simp [h1]) (Let.intro (bt ?_ (Let.intro (Let.intro (bt ?_ (last Tr ⟨rfl,rfl⟩ _ kk))))))
  ·rw [Amh h1];simp
  ·by_cases h2:w.chk false 0=0
   ·simp [h2]
   ·rw [Amh h2];simp
end Go.Proofs.Sim.Se

import Derived.Test.YtaggabcajidnnaaGreatDoorBuA
set_option maxRecDepth 100000
namespace Go.Proofs.Sim.Se
open Go Go.Proofs Go.Proofs.Sim Go.Proofs.Sim.Va Go.Proofs.Sim.St Go.Proofs.Sim.Pa Go.RowKit
theorem bt {b:Bool} (hb:b=true) {A B:Prop} (h:A):Br b A B:=⟨fun _=>h,fun h'=>absurd (hb.symm.trans h') (by decide)⟩
theorem bf {b:Bool} (hb:b=false) {A B:Prop} (h:B):Br b A B:=⟨fun h'=>absurd (hb.symm.trans h') (by decide),fun _=>h⟩
theorem Bn4(l:List Ob)(hl:l.length≤1000000)(hf:∀o∈l,Fit o.v)(Q:AV→Heap→Prop)(hQ:Q (.imm (.bool true)) []):∀(m i:Nat),m+i=l.length→Aeo (Vz l) (Vz l) i (Anp Q)
 |0,i,hm=>by
  refine Ap6 _ _ _ _ ⟨fun h=> ?_,fun _=> ?_⟩
  ·have:=of_decide_eq_true h
   rw [Adk]at this;omega
  ·exact A72 _ (A29 _ (A71 _ _ hQ))
 |m+1,i,hm=>by
  have hi:i<l.length:=by omega
  have at0:(Vz l).getD (Int.toNat (i:Int)) []=Jg (Vy l i):=Bcj l i hi
  have eq:=Buv (Vy l i).v (hf _ (Blj hi)) (Vy l i).v
  refine Ap6 _ _ _ _ ⟨fun _=> ?_,fun h=> ?_⟩
  ·rw [at0,Bp2,Adk]
   have r0:((0:Int)≤(i:Int)∧(i:Int)<(l.length:Int))∧Be [.int .i64, .int .i64, .int .i64, .int .i64, .int .i64, .str, .sl 6 Aa, .sl 7 Ae] (Jg (Vy l i))=true:=⟨⟨by omega,by omega⟩,Bck _ _ _⟩
   refine⟨r0,r0,fun _=>r0,fun _=>r0,Let.intro ⟨fun _=>r0,fun _=>r0,bt (by simp) ?_⟩⟩
   refine Call.mono eq fun r g hx=> ?_
   obtain⟨c,g1,g2,g3⟩:=hx
   have hc:c=true:=g3.2 rfl
   subst hc;subst g1;subst g2
   refine⟨⟨rfl,rfl⟩,Let.intro (bf rfl (A28 _ _ _ _ ?_))⟩
   rw [A0w i (by omega)]
   exact A73 _ _ _ _ (Bn4 l hl hf Q hQ m (i+1) (by omega))
  ·have:=of_decide_eq_false h
   rw [Adk]at this;omega
theorem Bog(l:List Ob)(hl:l.length≤1000000)(hf:∀o∈l,Fit o.v):Call E0.P Abg [.imm (.sl .any 8 (Vz l)), .imm (.sl .any 8 (Vz l))] [] (Is (.imm (.bool true)) []):=by
 refine Bd4 _ _ _ (bf (by simp) ?_)
 exact Bn4 l hl hf _ ⟨rfl,rfl⟩ l.length 0 (by omega)
def exO:List Ob:=[⟨3,0, .mk 1 1 0 [] [] []⟩,⟨5,0, .mk 2 7 0 [] [] []⟩]
def exS:List UInt8:=[51,32,48,32,53,32,53,10,116,114,117,101,10,55,10]
theorem Bla:Ab7 [3,0,5,5]=[51,32,48,32,53,32,53,10]:=by kernel_rfl
theorem Bvt:Avf exO=(Me 2 [3,0,5,5] [116,114,117,101,10,55,10],0):=by kernel_rfl
theorem Bo5:Nc (Me 2 [3,0,5,5] [116,114,117,101,10,55,10])=(exO,0):=by kernel_rfl
theorem Byj:Gg (Me 2 [3,0,5,5] [116,114,117,101,10,55,10]) Ii=some (.mk 2 8 0 [] [] []):=by kernel_rfl
theorem Bhq(k n g:Int)(s:List UInt8):Fit (.mk k n g s [] []):=Ag0 1 (by decide) _ _ (Nat.le_refl _) (by rw [Rb];exact Nat.le_refl _)
theorem Bti:Fit zero:=Bhq _ _ _ _
theorem Bp3(n:Nat)(ns:List Int)(body:List UInt8):Fit (Me n ns body):=by
 refine Ag0 10 (by decide) _ _ (Nat.le_refl _) ?_
 rw [Rb]
 show 1+0+(Ck (.mk 2 _ 0 [] [] [])+(Ck (.mk 2 _ 0 [] [] [])+(Ck (.mk 3 0 0 _ [] [])+0)))≤10
 rw [Ir,Ir,Ir]
 omega
theorem Bzu:∀o∈exO,Scal o.v∧Ck o.v≤1000∧Z8 o.n:=by
 have z:∀k n:Int,Z8 n→Scal (.mk k n 0 [] [] []):=fun k n h=> .mk _ h (show Z8 0 from ⟨by decide,by decide⟩) (by simp [V.s]) (fun _ h=>nomatch h) (fun _ h=>nomatch h) (fun _ h=>nomatch h)
 intro o ho
 simp only [exO,List.mem_cons,List.not_mem_nil,or_false]at ho
 rcases ho with rfl |rfl
 ·exact⟨z _ _ ⟨by decide,by decide⟩,by rw [Ir];omega,⟨by decide,by decide⟩⟩
 ·exact⟨z _ _ ⟨by decide,by decide⟩,by rw [Ir];omega,⟨by decide,by decide⟩⟩
theorem A5d:Vz exO=[[.int .i64 3, .int .i64 0, .int .i64 1, .int .i64 1, .int .i64 0, .str [], .sl .any 6 [], .sl .any 7 []],[.int .i64 5, .int .i64 0, .int .i64 2, .int .i64 7, .int .i64 0, .str [], .sl .any 6 [], .sl .any 7 []]]:=by
 simp only [Vz,exO,List.map_cons,List.map_nil,Ama];rfl
abbrev AG(x:V):AV:= .imm (.agg [.int .i64 (gI x.row 0), .int .i64 (gI x.row 1), .int .i64 (gI x.row 2), .str (gS x.row 3), .sl .any 6 (gR x.row 4), .sl .any 7 (gR x.row 5)])
theorem ag(x:V):AG x= .imm (.agg x.row):=by unfold AG;rw [Oc]
theorem Bcv(x:V × Int):Biu (whA x)=whA x:=by
 show AV.tup [.imm (.agg [.int .i64 (gI x.1.row 0), .int .i64 (gI x.1.row 1), .int .i64 (gI x.1.row 2), .str (gS x.1.row 3), .sl .any 6 (gR x.1.row 4), .sl .any 7 (gR x.1.row 5)]), .imm (.int .i64 x.2)]=_
 rw [Oc]
theorem Bcz:Call E0.P Zn [] [] (Is (.imm (.bool true)) []):=by
 have h1:=Bn7 exO Bzu
 rw [Bvt,A5d]at h1
 have fB:=Bp3 2 [3,0,5,5] [116,114,117,101,10,55,10]
 have h2:=A4z (Me 2 [3,0,5,5] [116,114,117,101,10,55,10]) fB (by show(Ab7 [3,0,5,5]++_).length≤_;rw [Bla];decide)
 rw [Bo5]at h2
 have h3:=Bn7 [] (fun _ h=>nomatch h)
 have h4:=A4z zero Bti (by decide)
 have h5:=Blz (Me 2 [3,0,5,5] [116,114,117,101,10,55,10]) fB Ii
 have h6:=Bog exO (by decide) (fun o ho=>by
  simp only [exO,List.mem_cons,List.not_mem_nil,or_false]at ho
  rcases ho with rfl |rfl<;>exact Bhq _ _ _ _)
 have e3:Avf []=(zero,8):=by rw [Avf,if_pos (.inl (by decide))]
 have e4:Nc zero=([],10):=by rw [Nc,if_pos (.inl (by decide))]
 rw [e3]at h3
 rw [e4,Avr]at h4
 have g1:=Byj
 refine A3g _ (Call.use h1 ⟨⟨rfl,(Bcv _).symm⟩, ?_⟩)
 show Call E0.P Ld [AG (Me 2 [3,0,5,5] [116,114,117,101,10,55,10])] [] _
 rw [ag]
 refine Call.use h2 ⟨⟨rfl,rfl⟩,Call.use h3 ⟨⟨rfl,(Bcv _).symm⟩,Call.use h4 ⟨⟨rfl,rfl⟩, ?_⟩⟩⟩
 show Call E0.P Tt [AG (Me 2 [3,0,5,5] [116,114,117,101,10,55,10]),_] [] _
 rw [ag]
 refine Call.use h5 ⟨⟨rfl,(Aha _ _).symm⟩,Let.intro ?_⟩
 have es:gS (Ac (rT (whA (Me 2 [3,0,5,5] [116,114,117,101,10,55,10],0)) 0)) 3=exS:=by
  show gS (Me 2 [3,0,5,5] [116,114,117,101,10,55,10]).row 3=exS
  rw [vs3]
  show Ab7 [3,0,5,5]++_=exS
  rw [Bla];rfl
 rw [es]
 rw [A5d]at h6
 refine bt (by rfl) (Call.use (show Call E0.P Abg [_, .imm (.sl .any 8 (Vz exO))] [] _ by rw [A5d];exact h6) ⟨⟨rfl,rfl⟩, ?_⟩)
 refine Let.intro (Let.intro (Let.intro (Let.intro (Let.intro (Let.intro (Let.intro (Let.intro ⟨?_,rfl⟩)))))))
 have b1:rB (rT (Yi (Me 2 [3,0,5,5] [116,114,117,101,10,55,10]) Ii) 1)=true:=by
  show(Gg (Me 2 [3,0,5,5] [116,114,117,101,10,55,10]) Ii).isSome=true
  rw [g1];rfl
 have b2:gI (Ac (rT (Yi (Me 2 [3,0,5,5] [116,114,117,101,10,55,10]) Ii) 0)) 1=8:=by
  rw [Al9,g1,vn];rfl
 show AV.imm (.bool (bif (bif (bif (bif (bif (bif (bif true then decide ((0:Int)=0)else false)then decide ((8:Int)=8)else false)then decide ((10:Int)=10)else false)then rB (rT (Yi (Me 2 [3,0,5,5] [116,114,117,101,10,55,10]) Ii) 1)else false)then decide (gI (Ac (rT (Yi (Me 2 [3,0,5,5] [116,114,117,101,10,55,10]) Ii) 0)) 1=8)else false)then true else false)then true else false))=_
 rw [b1,b2];rfl
end Go.Proofs.Sim.Se
set_option maxRecDepth 100000
namespace Go.Proofs.Sim.Se
open Go Go.Proofs Go.Proofs.Sim Go.Proofs.Sim.Va Go.Proofs.Sim.St Go.Proofs.Sim.Pa Go.RowKit
theorem Blu(s:List UInt8)(hs:s.length≤1000000000)(want:Nat)(hw:want≤100000)(Q:AV→Heap→Prop):∀(m a:Nat) (acc:List Int),want+1≤m+acc.length→acc.length≤want→
 Q (.tup [.imm (.sl .any 1 (ints (nmL s want m a acc).1)), .imm (.int .i64 (nmL s want m a acc).2)]) []→Xc s want a (ints acc) (Ww Q):=by
 intro m
 induction m with
 |zero=>intro a acc h1 h2;omega
 |succ m ih=>
  intro a acc hm ha hQ
  rw [nmL]at hQ
  refine Ay3 _ _ _ _ _ (Call.use (Zf s hs a) ⟨⟨rfl,rfl⟩,Ki (p:=(Aj s (a:Int)).e=0) Bb (fun h1=> ?_) fun h1=>Let.intro ?_⟩)
  ·rw [if_pos h1]at hQ
   exact Aij _ _ _ hQ
  ·rw [if_neg (fun h=>h h1)]at hQ
   rw [Vg]
   refine Cg (p:=(acc.length:Int)=(want:Int)∧(Aj s (a:Int)).k=0) (Bm9 _ _) (fun h2=> ?_) fun h2=>Let.intro (Cg (p:=(acc.length:Int)=(want:Int)∨¬(Aj s (a:Int)).k=1) (Bua _ _) (fun h3=> ?_) fun h3=> ?_)
   ·rw [if_neg (fun h=>by omega),if_neg (fun h=>h.elim (fun h=>by omega) fun h=>h h2.2)]at hQ
    exact Ayi _ _ _ hQ
   ·have hk:acc.length<want→(Aj s (a:Int)).k≠1:=fun h=>h3.elim (fun h'=>by omega) id
    have hz:¬acc.length<want→(Aj s (a:Int)).k≠0:=fun h h'=>h2 ⟨by omega,h'⟩
    rw [if_neg (fun h=>hk h.1 h.2),if_pos (Classical.byCases (fun h:acc.length<want=> .inl h) fun h=> .inr (hz h))]at hQ
    exact Aij _ _ _ hQ
   ·rw [not_or,Classical.not_not]at h3
    rw [if_pos ⟨by omega,h3.2⟩]at hQ
    refine⟨⟨by omega,by omega⟩, ?_⟩
    have:=ih (Aj s (a:Int)).b (acc++[(Aj s (a:Int)).n]) (by simp;omega) (by simp;omega) hQ
    rw [show ints (acc++[(Aj s (a:Int)).n])=ints acc++[[.int .i64 (Aj s (a:Int)).n]]by simp]at this
    exact this
theorem Bl5(s:List UInt8)(hs:s.length≤1000000000)(want:Nat)(hw:want≤100000):Call E0.P Ag5 [.imm (.str s), .imm (.int .i64 want)] [] (Is (.tup [.imm (.sl .any 1 (ints (nmL s want (want+1) 0 []).1)), .imm (.int .i64 (nmL s want (want+1) 0 []).2)]) []):=
 A3k _ _ _ (Blu s hs want hw _ (want+1) 0 [] (by simp) (by simp) ⟨rfl,rfl⟩)
theorem Bcx(l:List Int)(N:Nat)(hN:l.length=2*N)(hl:N≤100000)(body:List UInt8)(hb:body.length≤1000000000)(x0 x2:Int)(xs:List UInt8)(x4 x5:List (List IV))(Q:AV→Heap→Prop):∀(m i:Nat) (last:Option (Int × Int)) (acc:List Ob),m+i=N→acc.length≤i→
 (last=none∧i=0∨0<i∧last=some (l.getD (2*i - 2) 0,l.getD (2*i - 1) 0)∧0≤l.getD (2*i - 1) 0)→Q (obA (apL body last (l.drop (2*i)) acc)) []→Xb (ints l) body i x0 N x2 xs x4 x5 (Vz acc) (Sv Q)
 |0,i,last,acc,hm,hac,hlast,hQ=>by
  refine Aip _ _ _ _ _ _ _ _ _ _ _ ⟨fun h=> ?_,fun _=> ?_⟩
  ·have:=of_decide_eq_true h;omega
  ·rw [List.drop_of_length_le (by omega)]at hQ
   have e:apL body last [] acc=(acc,0):=by cases last<;>rfl
   rw [e]at hQ
   exact A1u _ _ (Axy _ _ (A1t _ _ _ hQ))
 |m+1,i,last,acc,hm,hac,hlast,hQ=>by
  have hi:2*i+1<l.length:=by omega
  rw [drop2 hi,apL]at hQ
  have w0:IntKind.i64.wrap ((2:Int)*(i:Int))=((2*i:Nat):Int):=by rw [Av _ (by omega) (by omega)];omega
  have w1:IntKind.i64.wrap (((2*i:Nat):Int)+1)=((2*i+1:Nat):Int):=A0w (2*i) (by omega)
  have w3:IntKind.i64.wrap (((2*i:Nat):Int)+3)=((2*i+3:Nat):Int):=by rw [Av _ (by omega) (by omega)];omega
  have wi:IntKind.i64.wrap ((i:Int)+1)=((i+1:Nat):Int):=A0w i (by omega)
  have m2:0<i→IntKind.i64.wrap (((2*i:Nat):Int) - 2)=((2*i - 2:Nat):Int):=fun h=>by rw [Av _ (by omega) (by omega)];omega
  have m1:0<i→IntKind.i64.wrap (((2*i:Nat):Int) - 1)=((2*i - 1:Nat):Int):=fun h=>by rw [Av _ (by omega) (by omega)];omega
  have a0:(ints l).getD (Int.toNat ((2*i:Nat):Int)) []=[.int .i64 (l.getD (2*i) 0)]:=ints_at l (2*i) (by omega)
  have a1:(ints l).getD (Int.toNat ((2*i+1:Nat):Int)) []=[.int .i64 (l.getD (2*i+1) 0)]:=ints_at l (2*i+1) hi
  have b2:0<i→(ints l).getD (Int.toNat ((2*i - 2:Nat):Int)) []=[.int .i64 (l.getD (2*i - 2) 0)]:=fun h=>ints_at l (2*i - 2) (by omega)
  have b1:0<i→(ints l).getD (Int.toNat ((2*i - 1:Nat):Int)) []=[.int .i64 (l.getD (2*i - 1) 0)]:=fun h=>ints_at l (2*i - 1) (by omega)
  have g:∀x:Int,gI [IV.int .i64 x] 0=x:=fun _=>rfl
  have nxt:2*(i+1) - 2=2*i∧2*(i+1) - 1=2*i+1:=⟨by omega,by omega⟩
  have ih:=Bcx l N hN hl body hb x0 x2 xs x4 x5 Q m (i+1)
  rw [nxt.1,nxt.2]at ih
  generalize hn:l.getD (2*i) 0=n at hQ a0 ih
  generalize hf:l.getD (2*i+1) 0=f at hQ a1 ih
  refine Aip _ _ _ _ _ _ _ _ _ _ _ ⟨fun _=> ?_,fun h=> ?_⟩
  ·rw [w0,w1,w3,wi,a0,a1,Vg,g,g]
   refine⟨⟨⟨by omega,by omega⟩,rfl⟩,⟨⟨by omega,by omega⟩,rfl⟩,fun h=> ?_,Let.intro (Cg (p:=Aot (last.map (·.1)) n=true) ?_ (fun h1=> ?_) fun h1=>Let.intro (Cg (orB _ _) (fun h2=> ?_) fun h2=>Let.intro ?_))⟩
   ·have h:=of_decide_eq_true h
    rw [m2 (by omega),b2 (by omega)]
    exact⟨⟨by omega,by omega⟩,rfl⟩
   ·rcases hlast with ⟨rfl,rfl⟩ |⟨h0,rfl,_⟩
    ·simp [Aot]
    ·rw [m2 h0,b2 h0,decide_eq_true (show(0:Int)<(i:Int)by omega),g]
     simp [Aot]
   ·rw [if_pos h1]at hQ
    exact Ns _ _ _ hQ
   ·rw [if_neg h1,if_pos h2]at hQ
    exact Ns _ _ _ hQ
   ·rw [if_neg h1,if_neg h2]at hQ
    by_cases hz:i=0∧f≠0
    ·have hp:Afv last n f=true:=by
      rcases hlast with ⟨rfl,_⟩ |⟨h0,_⟩
      ·simp [Afv,hz.2]
      ·omega
     rw [if_pos (.inl hp)]at hQ
     exact bf (by simp [hz.1,hz.2]) ⟨rfl,Let.intro (Let.intro (bt rfl (Ns _ _ _ hQ)))⟩
    ·refine bt (by
      by_cases h0:i=0
      ·have:f=0:=Classical.byContradiction fun e=>hz ⟨h0,e⟩
       simp [h0,this]
      ·simp [h0]) ⟨fun h=> ?_,Let.intro (Let.intro (Let.intro (Cg (p:=Afv last n f=true∨(body.length:Int)<f) ?_ (fun h3=> ?_) fun h3=> ?_)))⟩
     ·have h:=of_decide_eq_true h
      rw [m1 (by omega),b1 (by omega)]
      exact⟨⟨by omega,by omega⟩,rfl⟩
     ·rcases hlast with ⟨rfl,rfl⟩ |⟨h0,rfl,_⟩
      ·have:f=0:=Classical.byContradiction fun e=>hz ⟨rfl,e⟩
       simp [Afv,this]
      ·rw [m1 h0,b1 h0,decide_eq_true (show(0:Int)<(i:Int)by omega),g]
       generalize l.getD (2*i - 1) 0=y
       by_cases z:f≤y<;>simp [Afv,z]
     ·rw [if_pos h3]at hQ
      exact Ns _ _ _ hQ
     ·rw [if_neg h3]at hQ
      rw [not_or]at h3
      have hf0:0≤f:=by
       rcases hlast with ⟨rfl,_⟩ |⟨_,rfl,h0⟩
       ·have:=h3.1;simp [Afv]at this;omega
       ·have:=h3.1
        generalize l.getD (2*i - 1) 0=y at this h0
        simp [Afv]at this;omega
      have go:∀t:Nat,t=toL body f (l.drop (2*i+2))→f≤(t:Int)→t≤body.length→Mr (ints l) body i n f t x0 N x2 xs x4 x5 (Vz acc) (K7 (Sv Q)):=by
       intro t ht h4 h5
       rw [←ht]at hQ
       refine Axw _ _ _ _ _ _ _ _ _ _ _ _ _ _ ⟨⟨hf0,h4,by omega⟩,Let.intro ?_⟩
       rw [Int.toNat_natCast]
       refine Call.use (Bq6 _ (by simp;omega)) ⟨⟨rfl,(Bcv _).symm⟩,Ki (p:=(Ql ((body.take t).drop f.toNat)).2=0) Bb (fun h6=> ?_) fun h6=> ?_⟩
       ·rw [if_pos h6]at hQ
        exact A1w _ _ _ (Ns _ _ _ hQ)
       ·rw [if_neg (fun h=>h h6)]at hQ
        refine⟨by rw [Adk];omega,A1x _ _ _ _ _ _ _ _ _ _ _ (Axx _ _ _ _ _ _ _ _ _ _ _ ?_)⟩
        rw [wi]
        refine A1v _ _ _ _ _ _ _ _ _ _ _ ?_
        have:=ih (some (n,f)) (acc++[⟨n,0,(Ql ((body.take t).drop f.toNat)).1⟩]) (by omega) (by simp;omega) (.inr ⟨by omega,rfl,hf0⟩) hQ
        rw [show Vz (acc++[⟨n,0,(Ql ((body.take t).drop f.toNat)).1⟩])=Vz acc++[Jg ⟨n,0,(Ql ((body.take t).drop f.toNat)).1⟩]by simp]at this
        rw [Jg, ←Oc]at this
        exact this
      by_cases h7:i+1<N
      ·have a3:(ints l).getD (Int.toNat ((2*i+3:Nat):Int)) []=[.int .i64 (l.getD (2*i+3) 0)]:=ints_at l (2*i+3) (by omega)
       have d:toL body f (l.drop (2*i+2))=if f≤l.getD (2*i+3) 0∧l.getD (2*i+3) 0<(body.length:Int)then(l.getD (2*i+3) 0).toNat else body.length:=by
        rw [drop2 (by omega)];rfl
       rw [a3,g,decide_eq_true (show((i+1:Nat):Int)<(N:Int)by omega)]
       generalize l.getD (2*i+3) 0=f2 at d ⊢
       have rq:((0:Int)≤((2*i+3:Nat):Int)∧((2*i+3:Nat):Int)<(l.length:Int))∧Be [.int .i64] [IV.int .i64 f2]=true:=⟨⟨by omega,by omega⟩,rfl⟩
       refine⟨fun _=>rq,Let.intro ⟨fun _=>rq,Let.intro (Cg (p:=f≤f2∧f2<(body.length:Int)) (Bm9 _ _) (fun h8=>⟨rq, ?_⟩) fun h8=> ?_)⟩⟩
       ·rw [if_pos h8]at d
        have:=go f2.toNat d.symm (by omega) (by omega)
        rw [Int.toNat_of_nonneg (by omega)]at this
        exact this
       ·rw [if_neg h8]at d
        exact go body.length d.symm (by omega) (Nat.le_refl _)
      ·rw [decide_eq_false (show ¬((i+1:Nat):Int)<(N:Int)by omega)]
       refine⟨fun h=>(by cases h),Let.intro ⟨fun h=>(by cases h),Let.intro (bf rfl (go body.length ?_ (by omega) (Nat.le_refl _)))⟩⟩
       rw [List.drop_of_length_le (by omega)]
       rfl
  ·have:=of_decide_eq_false h;omega
theorem Boe(v:V)(hf:Fit v)(hs:v.s.length≤100000000):Call E0.P Akc [.imm (.agg v.row)] [] (Is (obA (Nc v)) []):=by
 have hG:=Bf2 v hf Pv
 have hN:=Bf2 v hf kN
 have hF:=Bf2 v hf Ii
 rw [Cn]at hG hN hF ⊢
 refine A6v _ _ _ _ _ _ _ (Call.use hG ⟨⟨rfl,(Aha v Pv).symm⟩, ?_⟩)
 rw [Al9,vk,vs3]
 refine Let.intro (Let.intro (Cg (p:=v.k≠8∨((Gg v Pv).getD zero).k≠3∨((Gg v Pv).getD zero).s≠Aos) ?_ (fun h=> ?_) fun h=> ?_))
 ·have e: [(79:UInt8),98,106,83,116,109]=Aos:=rfl
  rw [e]
  by_cases h1:v.k=8<;>by_cases h2:((Gg v Pv).getD zero).k=3<;>by_cases h3:((Gg v Pv).getD zero).s=Aos<;>simp [h1,h2,h3]
 ·rw [Nc,if_pos h];exact⟨rfl,rfl⟩
 ·rw [Nc,if_neg h]
  refine Call.use hN ⟨⟨rfl,(Aha v kN).symm⟩,Call.use hF ⟨⟨rfl,(Aha v Ii).symm⟩, ?_⟩⟩
  rw [Al9,Al9]
  generalize (Gg v kN).getD zero=N
  generalize (Gg v Ii).getD zero=F
  rw [vk,vn,vk,vn]
  refine Let.intro (Let.intro (Let.intro (Let.intro (Let.intro (Cg (p:=¬Rk N 1 100∨¬Rk F 0 v.s.length) ?_ (fun h=> ?_) fun h=> ?_)))))
  ·unfold Rk
   by_cases h1:N.k=2<;>by_cases h2:N.n<1<;>by_cases h3:100<N.n<;>by_cases h4:F.k=2<;>by_cases h5:F.n<0<;>by_cases h6:(v.s.length:Int)<F.n<;>simp [h1,h2,h3,h4,h5,h6]<;>omega
  ·rw [if_pos h];exact⟨rfl,rfl⟩
  ·rw [if_neg h]
   rw [not_or,Classical.not_not,Classical.not_not]at h
   obtain⟨⟨n1,n2,n3⟩,⟨f1,f2,f3⟩⟩:=h
   refine⟨⟨f2,f3⟩,Let.intro ?_⟩
   have ew:IntKind.i64.wrap (2*N.n)=((2*N.n.toNat:Nat):Int):=by rw [Av _ (by omega) (by omega)];omega
   rw [ew]
   have hl:=Bhz (v.s.take F.n.toNat) (2*N.n.toNat) (2*N.n.toNat+1) 0 [] (by simp)
   have hc:=Bl5 (v.s.take F.n.toNat) (by simp;omega) (2*N.n.toNat) (by omega)
   unfold Bnx
   generalize nmL (v.s.take F.n.toNat) (2*N.n.toNat) (2*N.n.toNat+1) 0 []=x at hl hc ⊢
   refine Call.use hc ⟨⟨rfl,rfl⟩,Ki (p:=x.2=0) Bb (fun h1=> ?_) fun h1=>⟨⟨f2,f3⟩,Let.intro ?_⟩⟩
   ·rw [Bbk,if_pos h1];exact⟨rfl,rfl⟩
   ·rw [Bbk,if_neg (fun h=>h h1)]
    have hb:(v.s.drop F.n.toNat).length≤1000000000:=by simp;omega
    have:=Bcx x.1 N.n.toNat (hl h1) (by omega) _ hb (gI N.row 0) (gI N.row 2) (gS N.row 3) (gR N.row 4) (gR N.row 5) (Is (obA (apL (v.s.drop F.n.toNat) none x.1 [])) []) N.n.toNat 0 none [] (by omega) (by simp) (.inl ⟨rfl,rfl⟩) ⟨rfl,rfl⟩
    rw [Int.toNat_of_nonneg (by omega)]at this
    rw [vk]at this
    exact this
theorem Bve(body:List UInt8)(hb:body.length≤1000000000):∀(N:Nat) (l:List Int) (last:Option (Int × Int)) (acc:List Ob),l.length<N→(∀o∈acc,Fit o.v)→(∀o∈(apL body last l acc).1,Fit o.v)∧(apL body last l acc).1.length≤acc.length+l.length:=by
 intro N
 induction N with
 |zero=>intro l _ _ h;cases h
 |succ N ih=>
  intro l last acc hN ha
  match l with
  | []=>cases last<;>exact⟨ha,by simp [apL]⟩
  | [x]=>cases last<;>exact⟨ha,by simp [apL]⟩
  |n::f::r=>
   have nl:∀e:Int,(∀o∈(([]:List Ob),e).1,Fit o.v)∧(([]:List Ob),e).1.length≤acc.length+(n::f::r).length:=fun e=>⟨fun _ h=>(nomatch h),by simp⟩
   rw [apL]
   split
   ·exact nl _
   split
   ·exact nl _
   split
   ·exact nl _
   split
   ·exact nl _
   ·have h:=ih r (some (n,f)) (acc++[⟨n,0,(Ql ((body.take (toL body f r)).drop f.toNat)).1⟩]) (by simp at hN;omega) (fun o ho=>by
     rcases List.mem_append.1 ho with ho |ho
     ·exact ha o ho
     ·rw [List.mem_singleton]at ho
      subst ho
      exact Bw1 _ (by simp;omega))
    refine⟨h.1, ?_⟩
    have:=h.2
    simp at this ⊢; omega
theorem Bny(v:V)(hs:v.s.length≤100000000):(∀o∈(Nc v).1,Fit o.v)∧(Nc v).1.length≤1000000:=by
 have nl:∀e:Int,(∀o∈(([]:List Ob),e).1,Fit o.v)∧(([]:List Ob),e).1.length≤1000000:=fun e=>⟨fun _ h=>(nomatch h),by simp⟩
 unfold Nc
 split
 ·exact nl _
 split
 ·exact nl _
 ·rename_i h
  rw [not_or,Classical.not_not,Classical.not_not]at h
  obtain⟨⟨n1,n2,n3⟩,_⟩:=h
  unfold Bnx Bbk
  split
  ·exact nl _
  ·rename_i h1
   have hl:=Bhz _ _ _ _ _ (by simp) (Classical.not_not.1 h1)
   have hb:(v.s.drop ((Gg v Ii).getD zero).n.toNat).length≤1000000000:=by simp;omega
   generalize (nmL (v.s.take ((Gg v Ii).getD zero).n.toNat) (2*((Gg v kN).getD zero).n.toNat) (2*((Gg v kN).getD zero).n.toNat+1) 0 []).1=x at hl ⊢
   have:=Bve _ hb _ x none [] (Nat.lt_succ_self _) (fun _ h=>(nomatch h))
   refine⟨this.1, ?_⟩
   have:=this.2
   rw [hl]at this
   simp at this;omega
theorem S_BundleUnpacks(v:V)(hw:Wf v):Call E0.P Ae9 [.imm (.agg v.row)] [] (Is (.imm (.bool true)) []):=by
 have hF:=Bzm v hw 300 (by omega)
 have hU:=A4z v
 have hR:=Boe v
 rw [Cn]at hF hU hR ⊢
 refine Aql _ _ _ _ _ _ _ (Aoo hF fun c hc=>⟨⟨rfl,rfl⟩, ?_⟩)
 cases c with
 |false=>exact bt rfl (Call.use Bcz ⟨⟨rfl,rfl⟩,⟨rfl,rfl⟩⟩)
 |true=>
  have f:=hc rfl
  have hc:=f.c
  have fit:=Ag0 1000 (by omega) _ v (Nat.le_refl _) (by omega)
  have hs:v.s.length≤100000000:=by
   have:=f.s
   cases this with
   |mk _ b1 _ _ _=>omega
  have uf:=Bny v hs
  refine bf rfl (Call.use (hU fit hs) ⟨⟨rfl,rfl⟩,Call.use (hR fit hs) ⟨⟨rfl,rfl⟩, ?_⟩⟩)
  refine Call.use (Bog _ uf.2 uf.1) ⟨⟨rfl,rfl⟩,Let.intro (bt ?_ (Call.use Bcz ⟨⟨rfl,rfl⟩,Let.intro ⟨rfl,rfl⟩⟩))⟩
  show((bif true then decide ((Nc v).2=(Nc v).2)else false) == true)=true
  simp
end Go.Proofs.Sim.Se

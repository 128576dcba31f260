import Derived.Test.YtaggabcajidnnaaGreatDoorBuA
set_option maxRecDepth 100000
namespace Go.Proofs.Sim.Se
open Go Go.Proofs Go.Proofs.Sim Go.Proofs.Sim.Va Go.Proofs.Sim.St Go.Proofs.Sim.Pa Go.RowKit
theorem bt {b:Bool} (hb:b=true) {A B:Prop} (h:A):Br b A B:=⟨fun _=>h,fun h'=>absurd (hb.symm.trans h') (by decide)⟩
theorem bf {b:Bool} (hb:b=false) {A B:Prop} (h:B):Br b A B:=⟨fun h'=>absurd (hb.symm.trans h') (by decide),fun _=>h⟩
def Bmk(l:List Ob):Prop:=l.length≤150∧∀o∈l,Bb0 100 o.v
theorem Bjo(l:List Ob)(hl:l.length≤150)(hw:∀o∈l,Wf o.v)(Q:AV→Heap→Prop)(hQ:∀c:Bool,(c=true→Bmk l)→Q (.imm (.bool c)) []):∀(m i:Nat),m+i=l.length→(∀o∈l.take i,Bb0 100 o.v)→Agk (obs l) i (Agh Q)
 |0,i,hm,hp=>by
  refine Aqs _ _ _ ⟨fun h=> ?_,fun _=> ?_⟩
  ·have:=of_decide_eq_true h
   rw [K3]at this;omega
  ·rw [List.take_of_length_le (by omega)]at hp
   exact A65 _ (A3s _ (A63 _ _ (hQ true fun _=>⟨hl,hp⟩)))
 |m+1,i,hm,hp=>by
  have hi:i<l.length:=by omega
  have at0:(obs l).getD (Int.toNat (i:Int)) []=Im (Od l i):=Akz l i hi
  refine Aqs _ _ _ ⟨fun _=> ?_,fun h=> ?_⟩
  ·rw [at0,Axl,K3]
   refine⟨⟨⟨by omega,by omega⟩,Ak0 _ _ _⟩,Ahm (Bvi _ (hw _ (Ayf hi)) 100 (by omega)) fun c hc=>⟨⟨rfl,rfl⟩, ?_⟩⟩
   cases c with
   |false=>exact bt rfl (A64 _ _ (hQ false fun h=>(by cases h)))
   |true=>
    rw [Ayo i (by omega)]
    refine bf rfl (Bjo l hl hw Q hQ m (i+1) (by omega) fun o ho=> ?_)
    rw [List.take_add_one]at ho
    rcases List.mem_append.1 ho with ho |ho
    ·exact hp o ho
    ·have e:o=Od l i:=by
      simp [Od,List.getD_eq_getElem?_getD,hi]at ho ⊢; exact ho
     rw [e];exact hc rfl
  ·have:=of_decide_eq_false h
   rw [K3]at this;omega
theorem Bth(l:List Ob)(hw:∀o∈l,Wf o.v):Call E0.P Asr [.imm (.sl .any 8 (obs l))] [] (Gd (Bmk l)):=by
 refine Bbs _ _ ?_
 rw [K3]
 refine Ce (fun h=>⟨false,rfl,rfl,fun h=>(by cases h)⟩) fun h=> ?_
 exact Bjo l (by omega) hw _ (fun c hc=>⟨c,rfl,rfl,hc⟩) l.length 0 (by omega) (fun o h=>by simp at h)
theorem Bjr(l:List Ob)(hl:l.length≤1000000)(hf:∀o∈l,Fit o.v)(Q:AV→Heap→Prop)(hQ:Q (.imm (.bool true)) []):∀(m i:Nat),m+i=l.length→Adr (obs l) (obs l) i (Al7 Q)
 |0,i,hm=>by
  refine An8 _ _ _ _ ⟨fun h=> ?_,fun _=> ?_⟩
  ·have:=of_decide_eq_true h
   rw [K3]at this;omega
  ·exact A4y _ (A0x _ (A4x _ _ hQ))
 |m+1,i,hm=>by
  have hi:i<l.length:=by omega
  have at0:(obs l).getD (Int.toNat (i:Int)) []=Im (Od l i):=Akz l i hi
  have eq:=Bgl (Od l i).v (hf _ (Ayf hi)) (Od l i).v
  refine An8 _ _ _ _ ⟨fun _=> ?_,fun h=> ?_⟩
  ·rw [at0,Axl,K3]
   have r0:((0:Int)≤(i:Int)∧(i:Int)<(l.length:Int))∧Bt [.int .i64, .int .i64, .int .i64, .int .i64, .int .i64, .str, .sl 6 Aa, .sl 7 Ag] (Im (Od l i))=true:=⟨⟨by omega,by omega⟩,Ak0 _ _ _⟩
   refine⟨r0,r0,fun _=>r0,fun _=>r0,Let.intro ⟨fun _=>r0,fun _=>r0,bt (by simp) ?_⟩⟩
   refine Call.mono eq fun r g hx=> ?_
   obtain⟨c,g1,g2,g3⟩:=hx
   have hc:c=true:=g3.2 rfl
   subst hc;subst g1;subst g2
   refine⟨⟨rfl,rfl⟩,Let.intro (bf rfl (A0w _ _ _ _ ?_))⟩
   rw [Ayo i (by omega)]
   exact A4z _ _ _ _ (Bjr l hl hf Q hQ m (i+1) (by omega))
  ·have:=of_decide_eq_false h
   rw [K3]at this;omega
theorem Btk(l:List Ob)(hl:l.length≤1000000)(hf:∀o∈l,Fit o.v):Call E0.P Agt [.imm (.sl .any 8 (obs l)), .imm (.sl .any 8 (obs l))] [] (Is (.imm (.bool true)) []):=by
 refine Baq _ _ _ (bf (by simp) ?_)
 exact Bjr l hl hf _ ⟨rfl,rfl⟩ l.length 0 (by omega)
def exO:List Ob:=[⟨3,0, .mk 1 1 0 [] [] []⟩,⟨5,0, .mk 2 7 0 [] [] []⟩]
def exS:List UInt8:=[51,32,48,32,53,32,53,10,116,114,117,101,10,55,10]
theorem A9v(k n:Int)(s:List UInt8)(hc:(V.mk k n 0 [] [] []).chk false 0=0)(hp:(V.mk k n 0 [] [] []).plain= .mk k n 0 [] [] [])(hw:(V.mk k n 0 [] [] []).wr=s):Kv (.mk k n 0 [] [] [])=(s,0):=by
 rw [Kv,if_neg (fun h=>h hc),hp,hw]
theorem Aki(n:Nat)(h:n<10):Lib.itoa (n:Int)=[UInt8.ofNat (48+n)]:=by
 rw [Lib.itoa,if_neg (by omega)]
 rw [Int.toNat_natCast,Lib.decDigits,dif_pos h]
theorem Bvt:Kv (.mk 1 1 0 [] [] [])=([116,114,117,101],0):=
 A9v 1 1 _ (A8t (.bool 0 1 (.inr rfl))) (by rw [Ec];rfl) (by rw [Ayn];rfl)
theorem Bvu:Kv (.mk 2 7 0 [] [] [])=([55],0):=
 A9v 2 7 _ (A8t (.int 0 7 (by decide) (by decide))) (by rw [Ec];rfl) (by rw [A6i];exact Aki 7 (by decide))
theorem Bvv:Hf ⟨3,0, .mk 1 1 0 [] [] []⟩=([116,114,117,101,10],0):=by
 unfold Hf;rw [Bvt];rfl
theorem Bvw:Hf ⟨5,0, .mk 2 7 0 [] [] []⟩=([55,10],0):=by
 unfold Hf;rw [Bvu];rfl
theorem Bnx:Kn none [] [] exO=([3,0,5,5],[116,114,117,101,10,55,10],0):=by
 unfold exO
 rw [Kn,if_neg (by decide),Bvv,if_neg (by decide),Kn,if_neg (by decide),Bvw,if_neg (by decide),Kn]
 rfl
theorem A76:Jd [3,0,5,5]=[51,32,48,32,53,32,53,10]:=by
 have i3:Lib.itoa 3=[51]:=Aki 3 (by decide)
 have i0:Lib.itoa 0=[48]:=Aki 0 (by decide)
 have i5:Lib.itoa 5=[53]:=Aki 5 (by decide)
 rw [Jd,List.map_cons,List.map_cons,List.map_cons,List.map_cons,List.map_nil,i3,i0,i5];rfl
theorem A77:P8 exO=(F8 2 [3,0,5,5] [116,114,117,101,10,55,10],0):=by
 rw [A3d exO (by decide),Bnx,Vk,if_neg (by decide)];rfl
theorem Bkw:Aco (F8 2 [3,0,5,5] [116,114,117,101,10,55,10])=(exO,0):=by
 have h:=unpack_pack exO (by rw [A77])
 rw [A77]at h
 rw [h]
 have p1:(V.mk 1 1 0 [] [] []).plain= .mk 1 1 0 [] [] []:=by rw [Ec];rfl
 have p2:(V.mk 2 7 0 [] [] []).plain= .mk 2 7 0 [] [] []:=by rw [Ec];rfl
 unfold exO
 rw [List.map_cons,List.map_cons,List.map_nil,p1,p2]
theorem Bdv(k n g:Int)(s:List UInt8):Fit (.mk k n g s [] []):=Aq3 1 (by decide) _ _ (Nat.le_refl _) (by rw [Q7];exact Nat.le_refl _)
theorem A3q:Fit zero:=Bdv _ _ _ _
theorem A91(n:Nat)(ns:List Int)(body:List UInt8):Fit (F8 n ns body):=by
 refine Aq3 10 (by decide) _ _ (Nat.le_refl _) ?_
 rw [Q7]
 show 1+0+(Cv (.mk 2 _ 0 [] [] [])+(Cv (.mk 2 _ 0 [] [] [])+(Cv (.mk 3 0 0 _ [] [])+0)))≤10
 rw [Mc,Mc,Mc]
 omega
theorem Bvs:∀o∈exO,Scal o.v∧Cv o.v≤1000∧Ow o.n:=by
 have z:∀k n:Int,Ow n→Scal (.mk k n 0 [] [] []):=fun k n h=> .mk _ h (show Ow 0 from ⟨by decide,by decide⟩) (by simp [V.s]) (fun _ h=>nomatch h) (fun _ h=>nomatch h) (fun _ h=>nomatch h)
 intro o ho
 simp only [exO,List.mem_cons,List.not_mem_nil,or_false]at ho
 rcases ho with rfl |rfl
 ·exact⟨z _ _ ⟨by decide,by decide⟩,by rw [Mc];omega,⟨by decide,by decide⟩⟩
 ·exact⟨z _ _ ⟨by decide,by decide⟩,by rw [Mc];omega,⟨by decide,by decide⟩⟩
theorem A2v:obs exO=[[.int .i64 3, .int .i64 0, .int .i64 1, .int .i64 1, .int .i64 0, .str [], .sl .any 6 [], .sl .any 7 []],[.int .i64 5, .int .i64 0, .int .i64 2, .int .i64 7, .int .i64 0, .str [], .sl .any 6 [], .sl .any 7 []]]:=by
 simp only [obs,exO,List.map_cons,List.map_nil,Af8];rfl
abbrev AG(x:V):AV:= .imm (.agg [.int .i64 (gI x.row 0), .int .i64 (gI x.row 1), .int .i64 (gI x.row 2), .str (gS x.row 3), .sl .any 6 (gR x.row 4), .sl .any 7 (gR x.row 5)])
theorem ag(x:V):AG x= .imm (.agg x.row):=by unfold AG;rw [Abc]
theorem Aym(x:V × Int):Bez (whA x)=whA x:=by
 show AV.tup [.imm (.agg [.int .i64 (gI x.1.row 0), .int .i64 (gI x.1.row 1), .int .i64 (gI x.1.row 2), .str (gS x.1.row 3), .sl .any 6 (gR x.1.row 4), .sl .any 7 (gR x.1.row 5)]), .imm (.int .i64 x.2)]=_
 rw [Abc]
theorem A9g:Call E0.P Y7 [] [] (Is (.imm (.bool true)) []):=by
 have h1:=Bb7 exO Bvs
 rw [A77,A2v]at h1
 have fB:=A91 2 [3,0,5,5] [116,114,117,101,10,55,10]
 have h2:=Bb8 (F8 2 [3,0,5,5] [116,114,117,101,10,55,10]) fB (by show(Jd [3,0,5,5]++_).length≤_;rw [A76];decide)
 rw [Bkw]at h2
 have h3:=Bb7 [] (fun _ h=>nomatch h)
 have h4:=Bb8 zero A3q (by decide)
 have h5:=Bhn (F8 2 [3,0,5,5] [116,114,117,101,10,55,10]) fB M0
 have h6:=Btk exO (by decide) (fun o ho=>by
  simp only [exO,List.mem_cons,List.not_mem_nil,or_false]at ho
  rcases ho with rfl |rfl<;>exact Bdv _ _ _ _)
 have e3:P8 []=(zero,8):=by rw [P8,if_pos (.inl (by decide))]
 have e4:Aco zero=([],10):=by rw [Aco,if_pos (.inl (by decide))]
 rw [e3]at h3
 rw [e4,A3r]at h4
 obtain⟨g1,_,_⟩:=Beq 2 [3,0,5,5] [116,114,117,101,10,55,10]
 refine A04 _ (Call.use h1 ⟨⟨rfl,(Aym _).symm⟩, ?_⟩)
 show Call E0.P Pn [AG (F8 2 [3,0,5,5] [116,114,117,101,10,55,10])] [] _
 rw [ag]
 refine Call.use h2 ⟨⟨rfl,rfl⟩,Call.use h3 ⟨⟨rfl,(Aym _).symm⟩,Call.use h4 ⟨⟨rfl,rfl⟩, ?_⟩⟩⟩
 show Call E0.P Tp [AG (F8 2 [3,0,5,5] [116,114,117,101,10,55,10]),_] [] _
 rw [ag]
 refine Call.use h5 ⟨⟨rfl,(A2x _ _).symm⟩,Let.intro ?_⟩
 have es:gS (Ae (rT (whA (F8 2 [3,0,5,5] [116,114,117,101,10,55,10],0)) 0)) 3=exS:=by
  show gS (F8 2 [3,0,5,5] [116,114,117,101,10,55,10]).row 3=exS
  rw [vs3]
  show Jd [3,0,5,5]++_=exS
  rw [A76];rfl
 rw [es]
 rw [A2v]at h6
 refine bt (by rfl) (Call.use (show Call E0.P Agt [_, .imm (.sl .any 8 (obs exO))] [] _ by rw [A2v];exact h6) ⟨⟨rfl,rfl⟩, ?_⟩)
 refine Let.intro (Let.intro (Let.intro (Let.intro (Let.intro (Let.intro (Let.intro (Let.intro ⟨?_,rfl⟩)))))))
 have b1:rB (rT (Z8 (F8 2 [3,0,5,5] [116,114,117,101,10,55,10]) M0) 1)=true:=by
  show(Jo (F8 2 [3,0,5,5] [116,114,117,101,10,55,10]) M0).isSome=true
  rw [g1];rfl
 have b2:gI (Ae (rT (Z8 (F8 2 [3,0,5,5] [116,114,117,101,10,55,10]) M0) 0)) 1=8:=by
  rw [A79,g1,vn,A76];rfl
 show AV.imm (.bool (bif (bif (bif (bif (bif (bif (bif true then decide ((0:Int)=0)else false)then decide ((8:Int)=8)else false)then decide ((10:Int)=10)else false)then rB (rT (Z8 (F8 2 [3,0,5,5] [116,114,117,101,10,55,10]) M0) 1)else false)then decide (gI (Ae (rT (Z8 (F8 2 [3,0,5,5] [116,114,117,101,10,55,10]) M0) 0)) 1=8)else false)then true else false)then true else false))=_
 rw [b1,b2];rfl
end Go.Proofs.Sim.Se
set_option maxRecDepth 100000
namespace Go.Proofs.Sim.Se
open Go Go.Proofs Go.Proofs.Sim Go.Proofs.Sim.Va Go.Proofs.Sim.St Go.Proofs.Sim.Pa Go.RowKit
theorem A9t(l:List (List UInt8))(x:List UInt8):Bn (l++[x])=if l=[]then x else Bn l++[32]++x:=by
 cases l with
 |nil=>rw [if_pos rfl];exact Lib.join_one _ _
 |cons a r=>
  rw [if_neg (by simp),List.cons_append,Rh,Rh,List.map_append,List.flatten_append]
  simp
theorem Bgj(l:List Ob)(hl:l.length≤100)(sc:∀o∈l,Scal o.v∧Cv o.v≤1000∧Ow o.n)(Q:AV→Heap→Prop):∀(m i:Nat) (last:Option Int) (t6:Int) (ns:List Int) (body:List UInt8),m+i=l.length→ns.length=2*i→body.length≤4097*i→(∀n∈ns,Ow n)→(last=none∧i=0∨0<i∧last=some t6)→
 Q (whA (Vk l.length (Kn last ns body (l.drop i)))) []→Adq (obs l) (Bn (ns.map Lib.itoa)) body t6 i 0 0 0 [] [] [] (Sr Q)
 |0,i,last,t6,ns,body,hm,hn,hbl,hb,hlast,hQ=>by
  have hsum:=Aok ns hb
  have hj:=N7 (ns.map Lib.itoa)
  refine An7 _ _ _ _ _ _ _ _ _ _ _ _ ⟨fun h=> ?_,fun _=> ?_⟩
  ·have:=of_decide_eq_true h
   rw [K3]at this;omega
  ·rw [List.drop_of_length_le (by omega),Kn]at hQ
   have e:Vk l.length (ns,body,0)=(F8 l.length ns body,0):=by rw [Vk,if_neg (by simp)]
   rw [e]at hQ
   refine A4u _ _ _ _ _ _ _ _ _ _ (A0v _ _ _ _ _ _ _ _ _ _ ?_)
   rw [show Bn (ns.map Lib.itoa)++[10]=Jd ns from rfl,K3]
   have hh:(Jd ns).length=(Bn (ns.map Lib.itoa)).length+1:=by simp [Jd]
   refine⟨by omega,by omega,A4s _ _ _ _ _ _ _ _ ?_⟩
   have e:whA (F8 l.length ns body,0)= .tup [.imm (.agg [.int .i64 8, .int .i64 0, .int .i64 0, .str (Jd ns++body), .sl .any 6 [], .sl .any 7 [Bl (M0, .mk 2 ((Jd ns).length:Int) 0 [] [] []),Bl (kN, .mk 2 (l.length:Int) 0 [] [] []),Bl (Xd, .mk 3 0 0 Apd [] [])]]), .imm (.int .i64 0)]:=by
    rw [whA,Ber]
   rw [e,F7,F7,A95]at hQ
   exact hQ
 |m+1,i,last,t6,ns,body,hm,hn,hbl,hb,hlast,hQ=>by
  have hi:i<l.length:=by omega
  rw [drop1 hi,Kn]at hQ
  have at0:(obs l).getD (Int.toNat (i:Int)) []=Im (Od l i):=Akz l i hi
  have ho:=sc _ (Ayf hi)
  have hT:=Bhq (Od l i).v ho.1 ho.2.1
  have hlen:=Bhd (o:=Od l i)
  have hsum:=Aok ns hb
  have hj:=N7 (ns.map Lib.itoa)
  generalize Od l i=o at at0 ho hT hQ hlen
  have er:∀e:Int,Q (whA (Vk l.length ([],[],e))) []→e≠0→Sr Q .ret ⟨[(2,(.ptr (Nm.loc (2:Nat)) 0)),(3,(.imm (.int .i64 e)))],[((Nm.loc (2:Nat)),(.blk Aa [(.imm (.int .i64 0)),(.imm (.int .i64 0)),(.imm (.int .i64 0)),(.imm (.str [])),(.own ((Nm.loc (2:Nat)).cell (4:Nat))),(.own ((Nm.loc (2:Nat)).cell (5:Nat)))])),(((Nm.loc (2:Nat)).cell (4:Nat)),(.arr (Aa+2) true 6 [])),(((Nm.loc (2:Nat)).cell (5:Nat)),(.arr (Ag+2) true 7 []))]⟩:=by
   intro e h he
   have e1:Vk l.length ([],[],e)=(zero,e):=by rw [Vk,if_pos he]
   rw [e1, ←Ahw]at h
   exact A4t _ _ _ _ _ _ _ _ h
  refine An7 _ _ _ _ _ _ _ _ _ _ _ _ ⟨fun _=> ?_,fun h=> ?_⟩
  ·rw [at0,Axl,Bep,Bup,K3]
   refine⟨⟨⟨by omega,by omega⟩,Ak0 _ _ _⟩,Let.intro (Dt (p:=Ab8 last o.n=true) ?_ (fun h1=> ?_) fun h1=> ?_)⟩
   ·rcases hlast with ⟨rfl,rfl⟩ |⟨h0,rfl⟩
    ·simp [Ab8]
    ·rw [decide_eq_true (show(0:Int)<(i:Int)by omega)]
     simp [Ab8]
   ·rw [if_pos h1]at hQ
    exact er 15 hQ (by decide)
   ·rw [if_neg h1]at hQ
    refine Let.intro (Dt (orB _ _) (fun h2=> ?_) fun h2=>Xr (p:=o.g=0) Ca (fun h3=> ?_) fun h3=>Call.use hT ⟨⟨rfl,rfl⟩, ?_⟩)
    ·have e:Hf o=([],3):=by rw [Hf,if_pos h2]
     rw [e,if_pos (by decide)]at hQ
     exact er 3 hQ (by decide)
    ·have e:Hf o=([],2):=by rw [Hf,if_neg h2,if_pos h3]
     rw [e,if_pos (by decide)]at hQ
     exact er 2 hQ (by decide)
    ·rw [tx0,tx1]
     refine Xr (p:=(Kv o.v).2=0) Ca (fun h4=> ?_) fun h4=>Ce (fun h5=> ?_) fun h5=> ?_
     ·have e:Hf o=([],(Kv o.v).2):=by rw [Hf,if_neg h2,if_neg (fun h=>h h3),if_pos h4]
      rw [e,if_pos h4]at hQ
      exact er _ hQ h4
     ·have e:Hf o=([],7):=by rw [Hf,if_neg h2,if_neg (fun h=>h h3),if_neg (fun h=>h h4),if_pos (by omega)]
      rw [e,if_pos (by decide)]at hQ
      exact er 7 hQ (by decide)
     ·have e:Hf o=((Kv o.v).1++[10],0):=by rw [Hf,if_neg h2,if_neg (fun h=>h h3),if_neg (fun h=>h h4),if_neg (by omega)]
      rw [e,if_neg (by simp)]at hQ
      rw [e]at hlen
      simp only [List.length_append,List.length_cons,List.length_nil]at hlen
      have i1:=Pp o.n ho.2.2.1 ho.2.2.2
      have hbI:Ow (body.length:Int):=⟨by omega,by omega⟩
      have i2:=Pp (body.length:Int) hbI.1 hbI.2
      have go:∀t:List UInt8,t++Lib.itoa o.n++[32]++Lib.itoa (body.length:Int)=Bn ((ns++[o.n,(body.length:Int)]).map Lib.itoa)→t.length≤21*ns.length+1→∀(x1 x2 x3 x4:Int) (x5:List UInt8) (x6 x7:List (List IV)),
       Aar (obs l) t body o.n i (Kv o.v).1 0 0 0 [] o.n x1 x2 x3 x4 x5 x6 x7 [] [] (Ac7 (Sr Q)):=by
       intro t ht htl x1 x2 x3 x4 x5 x6 x7
       refine A0t _ _ _ _ _ _ _ _ _ _ _ _ _ _ _ _ _ _ _ _ _ (Call.use (Ahg o.n ho.2.2.1 ho.2.2.2) ⟨⟨rfl,rfl⟩, ?_⟩)
       rw [show rS (.imm (.str (Lib.itoa o.n)))=Lib.itoa o.n from rfl]
       refine⟨by omega,by simp;omega,Call.use (Ahg (body.length:Int) hbI.1 hbI.2) ⟨⟨rfl,rfl⟩, ?_⟩⟩
       rw [show rS (.imm (.str (Lib.itoa (body.length:Int))))=Lib.itoa (body.length:Int) from rfl,ht]
       refine⟨by simp;omega,by omega,by simp;omega,A4w _ _ _ _ _ _ _ _ _ _ _ _ (A0u _ _ _ _ _ _ _ _ _ _ _ _ ?_)⟩
       rw [Ayo i (by omega)]
       refine A4v _ _ _ _ _ _ _ _ _ _ _ _ ?_
       rw [List.append_assoc]
       exact Bgj l hl sc Q m (i+1) (some o.n) o.n (ns++[o.n,(body.length:Int)]) (body++((Kv o.v).1++[10])) (by omega) (by simp;omega) (by simp;omega)
        (fun n hn'=>by
         rcases List.mem_append.1 hn' with h |h
         ·exact hb n h
         ·simp only [List.mem_cons,List.not_mem_nil,or_false]at h
          rcases h with rfl |rfl
          ·exact ho.2.2
          ·exact hbI)
        (.inr ⟨by omega,rfl⟩) hQ
      have ej:Bn ((ns++[o.n,(body.length:Int)]).map Lib.itoa)=(if ns=[]then []else Bn (ns.map Lib.itoa)++[32])++Lib.itoa o.n++[32]++Lib.itoa (body.length:Int):=by
       have e2:(ns++[o.n,(body.length:Int)]).map Lib.itoa=(ns.map Lib.itoa++[Lib.itoa o.n])++[Lib.itoa (body.length:Int)]:=by simp
       rw [e2,A9t,if_neg (by simp),A9t]
       by_cases h:ns=[]
       ·subst h;simp
       ·rw [if_neg (by simpa using h),if_neg h]
      refine Ce (fun h6=>⟨by omega, ?_⟩) fun h6=> ?_
      ·refine go _ ?_ (by simp;omega) _ _ _ _ _ _ _
       rw [ej,if_neg (by intro h;rw [h]at hn;simp at hn;omega)]
      ·have hi0:i=0:=by omega
       have hns:ns=[]:=List.length_eq_zero_iff.1 (by omega)
       refine go _ ?_ (by omega) _ _ _ _ _ _ _
       rw [ej,if_pos hns,hns];rfl
  ·have:=of_decide_eq_false h
   rw [K3]at this;omega
theorem Bqs(l:List Ob)(sc:∀o∈l,Scal o.v∧Cv o.v≤1000∧Ow o.n):Call E0.P Apc [.imm (.sl .any 8 (obs l))] [] (Is (whA (P8 l)) []):=by
 refine Bap _ _ ?_
 rw [K3]
 refine Let.intro (Dt (p:=l.length<1∨100<l.length) ?_ (fun h=> ?_) fun h=> ?_)
 ·rw [orB];omega
 ·rw [P8,if_pos h, ←Ahw];exact⟨rfl,rfl⟩
 ·have at0:(obs l).getD 0 []=Im (Od l 0):=Akz l 0 (by omega)
  rw [A3d l h,at0]
  exact⟨⟨⟨by omega,by omega⟩,Ak0 _ _ _⟩,Bgj l (by omega) sc _ l.length 0 none _ [] [] (by omega) (by simp) (by simp) (fun _ h=>(nomatch h)) (.inl ⟨rfl,rfl⟩) ⟨rfl,rfl⟩⟩
theorem Blr(l:List Ob):Fit (P8 l).1:=by
 unfold P8
 split
 ·exact A3q
 ·split
  ·exact A3q
  ·exact A91 _ _ _
theorem Bt7 {l:List Ob} (hw:∀o∈l,Wf o.v∧Ow o.n)(h:Bmk l):∀o∈l,Scal o.v∧Cv o.v≤1000∧Ow o.n:=fun o ho=>by
 have f:=h.2 o ho
 have:=f.c
 exact⟨Bsb (hw o ho).1 f.s,by omega,(hw o ho).2⟩
theorem S_BundlePacks(l:List Ob)(hw:∀o∈l,Wf o.v∧Ow o.n):Call E0.P Ahl [.imm (.sl .any 8 (obs l))] [] (Is (.imm (.bool true)) []):=by
 refine Arz _ _ (Ahm (Bth l fun o ho=>(hw o ho).1) fun c hc=>⟨⟨rfl,rfl⟩, ?_⟩)
 cases c with
 |false=>exact bt rfl (Call.use A9g ⟨⟨rfl,rfl⟩,⟨rfl,rfl⟩⟩)
 |true=>
  have sc:=Bt7 hw (hc rfl)
  have hf:=Blr l
  refine bf rfl (Call.use (Bb7 l sc) ⟨⟨rfl,(Aym _).symm⟩,Call.use (Bqs l sc) ⟨⟨rfl,(Aym _).symm⟩, ?_⟩⟩)
  show Call E0.P Mw [AG (P8 l).1,AG (P8 l).1] [] _
  rw [ag]
  refine Call.mono (Bgl _ hf _) fun r g hx=> ?_
  obtain⟨c,g1,g2,g3⟩:=hx
  have hc:c=true:=g3.2 rfl
  subst hc;subst g1;subst g2
  refine⟨⟨rfl,rfl⟩,Let.intro (bt ?_ (Call.use A9g ⟨⟨rfl,rfl⟩,Let.intro ⟨rfl,rfl⟩⟩))⟩
  show((bif true then decide ((P8 l).2=(P8 l).2)else false) == true)=true
  simp
end Go.Proofs.Sim.Se

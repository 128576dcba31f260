import Derived.Test.YtaggabcajidnnaaGreatDoorBuA
set_option maxRecDepth 100000
namespace Go.Proofs.Sim.Se
open Go Go.Proofs Go.Proofs.Sim Go.Proofs.Sim.Va Go.Proofs.Sim.St Go.Proofs.Sim.Pa Go.RowKit
theorem bt {b:Bool} (hb:b=true) {A B:Prop} (h:A):Br b A B:=⟨fun _=>h,fun h'=>absurd (hb.symm.trans h') (by decide)⟩
theorem bf {b:Bool} (hb:b=false) {A B:Prop} (h:B):Br b A B:=⟨fun h'=>absurd (hb.symm.trans h') (by decide),fun _=>h⟩
def Bf0(l:List Ob):Prop:=l.length≤150∧∀o∈l,A57 100 o.v
theorem Bc0(l:List Ob)(hl:l.length≤150)(hw:∀o∈l,Wf o.v)(Q:AV→Heap→Prop)(hQ:∀c:Bool,(c=true→Bf0 l)→Q (.imm (.bool c)) []):∀(m i:Nat),m+i=l.length→(∀o∈l.take i,A57 100 o.v)→Ae2 (obs l) i (Ae1 Q)
 |0,i,hm,hp=>by
  refine Anc _ _ _ ⟨fun h=> ?_,fun _=> ?_⟩
  ·have:=of_decide_eq_true h
   rw [I7]at this;omega
  ·rw [List.take_of_length_le (by omega)]at hp
   exact A1i _ (Ayu _ (A1g _ _ (hQ true fun _=>⟨hl,hp⟩)))
 |m+1,i,hm,hp=>by
  have hi:i<l.length:=by omega
  have at0:(obs l).getD (Int.toNat (i:Int)) []=Gr (Kr l i):=Aiq l i hi
  refine Anc _ _ _ ⟨fun _=> ?_,fun h=> ?_⟩
  ·rw [at0,Alj,I7]
   refine⟨⟨⟨by omega,by omega⟩,Air _ _ _⟩,Afz (Bop _ (hw _ (Auq hi)) 100 (by omega)) fun c hc=>⟨⟨rfl,rfl⟩, ?_⟩⟩
   cases c with
   |false=>exact bt rfl (A1h _ _ (hQ false fun h=>(by cases h)))
   |true=>
    rw [Au0 i (by omega)]
    refine bf rfl (Bc0 l hl hw Q hQ m (i+1) (by omega) fun o ho=> ?_)
    rw [List.take_add_one]at ho
    rcases List.mem_append.1 ho with ho |ho
    ·exact hp o ho
    ·have e:o=Kr l i:=by
      simp [Kr,List.getD_eq_getElem?_getD,hi]at ho ⊢; exact ho
     rw [e];exact hc rfl
  ·have:=of_decide_eq_false h
   rw [I7]at this;omega
theorem Bmo(l:List Ob)(hw:∀o∈l,Wf o.v):Call E0.P Apf [.imm (.sl .any 8 (obs l))] [] (Gd (Bf0 l)):=by
 refine A54 _ _ ?_
 rw [I7]
 refine Cc (fun h=>⟨false,rfl,rfl,fun h=>(by cases h)⟩) fun h=> ?_
 exact Bc0 l (by omega) hw _ (fun c hc=>⟨c,rfl,rfl,hc⟩) l.length 0 (by omega) (fun o h=>by simp at h)
theorem Bc3(l:List Ob)(hl:l.length≤1000000)(hf:∀o∈l,Fit o.v)(Q:AV→Heap→Prop)(hQ:Q (.imm (.bool true)) []):∀(m i:Nat),m+i=l.length→Aci (obs l) (obs l) i (Ajo Q)
 |0,i,hm=>by
  refine Ala _ _ _ _ ⟨fun h=> ?_,fun _=> ?_⟩
  ·have:=of_decide_eq_true h
   rw [I7]at this;omega
  ·exact Aze _ (Awh _ (Azd _ _ hQ))
 |m+1,i,hm=>by
  have hi:i<l.length:=by omega
  have at0:(obs l).getD (Int.toNat (i:Int)) []=Gr (Kr l i):=Aiq l i hi
  have eq:=A95 (Kr l i).v (hf _ (Auq hi)) (Kr l i).v
  refine Ala _ _ _ _ ⟨fun _=> ?_,fun h=> ?_⟩
  ·rw [at0,Alj,I7]
   have r0:((0:Int)≤(i:Int)∧(i:Int)<(l.length:Int))∧Bg [.int .i64, .int .i64, .int .i64, .int .i64, .int .i64, .str, .sl 6 Aa, .sl 7 Ah] (Gr (Kr l i))=true:=⟨⟨by omega,by omega⟩,Air _ _ _⟩
   refine⟨r0,r0,fun _=>r0,fun _=>r0,Let.intro ⟨fun _=>r0,fun _=>r0,bt (by simp) ?_⟩⟩
   refine Call.mono eq fun r g hx=> ?_
   obtain⟨c,g1,g2,g3⟩:=hx
   have hc:c=true:=g3.2 rfl
   subst hc;subst g1;subst g2
   refine⟨⟨rfl,rfl⟩,Let.intro (bf rfl (Awg _ _ _ _ ?_))⟩
   rw [Au0 i (by omega)]
   exact Azf _ _ _ _ (Bc3 l hl hf Q hQ m (i+1) (by omega))
  ·have:=of_decide_eq_false h
   rw [I7]at this;omega
theorem Bmr(l:List Ob)(hl:l.length≤1000000)(hf:∀o∈l,Fit o.v):Call E0.P Ae8 [.imm (.sl .any 8 (obs l)), .imm (.sl .any 8 (obs l))] [] (Is (.imm (.bool true)) []):=by
 refine A4r _ _ _ (bf (by simp) ?_)
 exact Bc3 l hl hf _ ⟨rfl,rfl⟩ l.length 0 (by omega)
def exO:List Ob:=[⟨3,0, .mk 1 1 0 [] [] []⟩,⟨5,0, .mk 2 7 0 [] [] []⟩]
def exS:List UInt8:=[51,32,48,32,53,32,53,10,116,114,117,101,10,55,10]
theorem Bae:Hu [3,0,5,5]=[51,32,48,32,53,32,53,10]:=by kernel_rfl
theorem Bkp:Il exO=(Dr 2 [3,0,5,5] [116,114,117,101,10,55,10],0):=by kernel_rfl
theorem Bd5:Abn (Dr 2 [3,0,5,5] [116,114,117,101,10,55,10])=(exO,0):=by kernel_rfl
theorem Bnd:Ij (Dr 2 [3,0,5,5] [116,114,117,101,10,55,10]) Kq=some (.mk 2 8 0 [] [] []):=by kernel_rfl
theorem A70(k n g:Int)(s:List UInt8):Fit (.mk k n g s [] []):=Ant 1 (by decide) _ _ (Nat.le_refl _) (by rw [P7];exact Nat.le_refl _)
theorem Ays:Fit zero:=A70 _ _ _ _
theorem A4b(n:Nat)(ns:List Int)(body:List UInt8):Fit (Dr n ns body):=by
 refine Ant 10 (by decide) _ _ (Nat.le_refl _) ?_
 rw [P7]
 show 1+0+(Ch (.mk 2 _ 0 [] [] [])+(Ch (.mk 2 _ 0 [] [] [])+(Ch (.mk 3 0 0 _ [] [])+0)))≤10
 rw [K6,K6,K6]
 omega
theorem Bov:∀o∈exO,Scal o.v∧Ch o.v≤1000∧Qy o.n:=by
 have z:∀k n:Int,Qy n→Scal (.mk k n 0 [] [] []):=fun k n h=> .mk _ h (show Qy 0 from ⟨by decide,by decide⟩) (by simp [V.s]) (fun _ h=>nomatch h) (fun _ h=>nomatch h) (fun _ h=>nomatch h)
 intro o ho
 simp only [exO,List.mem_cons,List.not_mem_nil,or_false]at ho
 rcases ho with rfl |rfl
 ·exact⟨z _ _ ⟨by decide,by decide⟩,by rw [K6];omega,⟨by decide,by decide⟩⟩
 ·exact⟨z _ _ ⟨by decide,by decide⟩,by rw [K6];omega,⟨by decide,by decide⟩⟩
theorem Axt:obs exO=[[.int .i64 3, .int .i64 0, .int .i64 1, .int .i64 1, .int .i64 0, .str [], .sl .any 6 [], .sl .any 7 []],[.int .i64 5, .int .i64 0, .int .i64 2, .int .i64 7, .int .i64 0, .str [], .sl .any 6 [], .sl .any 7 []]]:=by
 simp only [obs,exO,List.map_cons,List.map_nil,Aet];rfl
abbrev AG(x:V):AV:= .imm (.agg [.int .i64 (gI x.row 0), .int .i64 (gI x.row 1), .int .i64 (gI x.row 2), .str (gS x.row 3), .sl .any 6 (gR x.row 4), .sl .any 7 (gR x.row 5)])
theorem ag(x:V):AG x= .imm (.agg x.row):=by unfold AG;rw [Aah]
theorem A3i(x:V × Int):A8s (whA x)=whA x:=by
 show AV.tup [.imm (.agg [.int .i64 (gI x.1.row 0), .int .i64 (gI x.1.row 1), .int .i64 (gI x.1.row 2), .str (gS x.1.row 3), .sl .any 6 (gR x.1.row 4), .sl .any 7 (gR x.1.row 5)]), .imm (.int .i64 x.2)]=_
 rw [Aah]
theorem As3:Call E0.P Rv [] [] (Is (.imm (.bool true)) []):=by
 have h1:=A6e exO Bov
 rw [Bkp,Axt]at h1
 have fB:=A4b 2 [3,0,5,5] [116,114,117,101,10,55,10]
 have h2:=Axg (Dr 2 [3,0,5,5] [116,114,117,101,10,55,10]) fB (by show(Hu [3,0,5,5]++_).length≤_;rw [Bae];decide)
 rw [Bd5]at h2
 have h3:=A6e [] (fun _ h=>nomatch h)
 have h4:=Axg zero Ays (by decide)
 have h5:=Ba5 (Dr 2 [3,0,5,5] [116,114,117,101,10,55,10]) fB Kq
 have h6:=Bmr exO (by decide) (fun o ho=>by
  simp only [exO,List.mem_cons,List.not_mem_nil,or_false]at ho
  rcases ho with rfl |rfl<;>exact A70 _ _ _ _)
 have e3:Il []=(zero,8):=by rw [Il,if_pos (.inl (by decide))]
 have e4:Abn zero=([],10):=by rw [Abn,if_pos (.inl (by decide))]
 rw [e3]at h3
 rw [e4,Ayt]at h4
 have g1:=Bnd
 refine Awo _ (Call.use h1 ⟨⟨rfl,(A3i _).symm⟩, ?_⟩)
 show Call E0.P Ip [AG (Dr 2 [3,0,5,5] [116,114,117,101,10,55,10])] [] _
 rw [ag]
 refine Call.use h2 ⟨⟨rfl,rfl⟩,Call.use h3 ⟨⟨rfl,(A3i _).symm⟩,Call.use h4 ⟨⟨rfl,rfl⟩, ?_⟩⟩⟩
 show Call E0.P R5 [AG (Dr 2 [3,0,5,5] [116,114,117,101,10,55,10]),_] [] _
 rw [ag]
 refine Call.use h5 ⟨⟨rfl,(Axv _ _).symm⟩,Let.intro ?_⟩
 have es:gS (Ad (rT (whA (Dr 2 [3,0,5,5] [116,114,117,101,10,55,10],0)) 0)) 3=exS:=by
  show gS (Dr 2 [3,0,5,5] [116,114,117,101,10,55,10]).row 3=exS
  rw [vs3]
  show Hu [3,0,5,5]++_=exS
  rw [Bae];rfl
 rw [es]
 rw [Axt]at h6
 refine bt (by rfl) (Call.use (show Call E0.P Ae8 [_, .imm (.sl .any 8 (obs exO))] [] _ by rw [Axt];exact h6) ⟨⟨rfl,rfl⟩, ?_⟩)
 refine Let.intro (Let.intro (Let.intro (Let.intro (Let.intro (Let.intro (Let.intro (Let.intro ⟨?_,rfl⟩)))))))
 have b1:rB (rT (Y7 (Dr 2 [3,0,5,5] [116,114,117,101,10,55,10]) Kq) 1)=true:=by
  show(Ij (Dr 2 [3,0,5,5] [116,114,117,101,10,55,10]) Kq).isSome=true
  rw [g1];rfl
 have b2:gI (Ad (rT (Y7 (Dr 2 [3,0,5,5] [116,114,117,101,10,55,10]) Kq) 0)) 1=8:=by
  rw [A2g,g1,vn];rfl
 show AV.imm (.bool (bif (bif (bif (bif (bif (bif (bif true then decide ((0:Int)=0)else false)then decide ((8:Int)=8)else false)then decide ((10:Int)=10)else false)then rB (rT (Y7 (Dr 2 [3,0,5,5] [116,114,117,101,10,55,10]) Kq) 1)else false)then decide (gI (Ad (rT (Y7 (Dr 2 [3,0,5,5] [116,114,117,101,10,55,10]) Kq) 0)) 1=8)else false)then true else false)then true else false))=_
 rw [b1,b2];rfl
end Go.Proofs.Sim.Se
set_option maxRecDepth 100000
namespace Go.Proofs.Sim.Se
open Go Go.Proofs Go.Proofs.Sim Go.Proofs.Sim.Va Go.Proofs.Sim.St Go.Proofs.Sim.Pa Go.RowKit
def Ah2(o:Ob):Ob:=⟨o.n,0,o.v.plain⟩
theorem Bj7(l:List Ob)(i:Nat)(h:i<l.length):Kr (l.map Ah2) i=Ah2 (Kr l i):=by
 simp [Kr,List.getD_eq_getElem?_getD,h]
theorem Bdw {a b:V} (ha:Fit a)(e:a=b) {Q:AV→Heap→Prop} (h:Q (.imm (.bool true)) []):Call E0.P Hf [.imm (.agg a.row), .imm (.agg b.row)] [] Q:=by
 refine(A95 a ha b).mono fun r g hx=> ?_
 obtain⟨c,g1,g2,g3⟩:=hx
 have hc:c=true:=g3.2 e
 subst hc;subst g1;subst g2
 exact h
theorem A90(l:List Ob)(hl:l.length≤1000)(hf:∀o∈l,Fit o.v)(Q:AV→Heap→Prop)(hQ:Q (.imm (.bool true)) []):∀(m i:Nat),m+i=l.length→Ou (obs l) (obs (l.map Ah2)) i (We (Pq Q))
 |0,i,hm=>by
  refine Zi _ _ _ _ ⟨fun h=> ?_,fun _=> ?_⟩
  ·have:=of_decide_eq_true h
   rw [I7]at this;omega
  ·exact Am4 _ (Alr _ (Call.use As3 ⟨⟨rfl,rfl⟩,Am3 _ _ (Am2 _ _ hQ)⟩))
 |m+1,i,hm=>by
  have hi:i<l.length:=by omega
  have a0:(obs l).getD (Int.toNat (i:Int)) []=Gr (Kr l i):=Aiq l i hi
  have a1:(obs (l.map Ah2)).getD (Int.toNat (i:Int)) []=Gr (Ah2 (Kr l i)):=by
   rw [show(Int.toNat (i:Int))=i from rfl,Aiq _ i (by simpa using hi),Bj7 l i hi]
  have fo:=hf _ (Auq hi)
  have hP:=At9 (Kr l i).v fo
  rw [K3]at hP
  refine Zi _ _ _ _ ⟨fun _=> ?_,fun h=> ?_⟩
  ·rw [a0,a1,Alj,Alj,A0q,A0q,Bny,I7,I7,List.length_map]
   have r0:((0:Int)≤(i:Int)∧(i:Int)<(l.length:Int))∧Bg [.int .i64, .int .i64, .int .i64, .int .i64, .int .i64, .str, .sl 6 Aa, .sl 7 Ah] (Gr (Kr l i))=true:=⟨⟨by omega,by omega⟩,Air _ _ _⟩
   have r1:((0:Int)≤(i:Int)∧(i:Int)<(l.length:Int))∧Bg [.int .i64, .int .i64, .int .i64, .int .i64, .int .i64, .str, .sl 6 Aa, .sl 7 Ah] (Gr (Ah2 (Kr l i)))=true:=⟨⟨by omega,by omega⟩,Air _ _ _⟩
   refine⟨r1,r0,bf (by simp [Ah2]) ⟨r1,Let.intro (bf (by simp [Ah2]) ⟨r1,r0,Call.use hP ⟨⟨rfl, ?_⟩, ?_⟩⟩)⟩⟩
   ·rw [Amo,Gm]
   ·rw [Amo,Gm]
    refine Bdw (a:=(Ah2 (Kr l i)).v) (Bd7 fo) rfl ⟨⟨rfl,rfl⟩,Let.intro (bf rfl (Alq _ _ _ _ ?_))⟩
    rw [Au0 i (by omega)]
    exact Am5 _ _ _ _ (A90 l hl hf Q hQ m (i+1) (by omega))
  ·have:=of_decide_eq_false h
   rw [I7]at this;omega
theorem Bce(l:List Ob)(h:(Il l).2≠0):(Il l).1=zero:=by
 unfold Il at h ⊢
 split
 ·rfl
 ·rename_i h1
  rw [if_neg h1]at h
  split
  ·rfl
  ·rename_i h2
   rw [if_neg h2]at h
   exact absurd rfl h
theorem Be3(l:List Ob):Fit (Il l).1:=by
 unfold Il
 split
 ·exact Ays
 ·split
  ·exact Ays
  ·exact A4b _ _ _
theorem Bnh {l:List Ob} (hw:∀o∈l,Wf o.v∧Qy o.n)(h:Bf0 l):∀o∈l,Scal o.v∧Ch o.v≤1000∧Qy o.n:=fun o ho=>by
 have f:=h.2 o ho
 have:=f.c
 exact⟨Bln (hw o ho).1 f.s,by omega,(hw o ho).2⟩
theorem S_BundleBack(l:List Ob)(hw:∀o∈l,Wf o.v∧Qy o.n):Call E0.P Ahm [.imm (.sl .any 8 (obs l))] [] (Is (.imm (.bool true)) []):=by
 refine Aqz _ _ (Afz (Bmo l fun o ho=>(hw o ho).1) fun c hc=>⟨⟨rfl,rfl⟩, ?_⟩)
 cases c with
 |false=>exact bt rfl (Call.use As3 ⟨⟨rfl,rfl⟩,⟨rfl,rfl⟩⟩)
 |true=>
  have few:=hc rfl
  have sc:=Bnh hw few
  have hf:=Be3 l
  refine bf rfl (Call.use (A6e l sc) ⟨⟨rfl,(A3i _).symm⟩,Yg (p:=(Il l).2=0) Bt (fun h=> ?_) fun h=> ?_⟩)
  ·have ez:AG zero= .imm (.agg [.int .i64 0, .int .i64 0, .int .i64 0, .str [], .sl .any 6 [], .sl .any 7 []]):=by rw [ag,Ayt]
   show Call E0.P Hf [AG (Il l).1, .imm (.agg [.int .i64 0, .int .i64 0, .int .i64 0, .str [], .sl .any 6 [], .sl .any 7 []])] [] _
   rw [←ez,ag,ag]
   exact Bdw hf (Bce l h) ⟨⟨rfl,rfl⟩,bt rfl (Call.use As3 ⟨⟨rfl,rfl⟩,Let.intro ⟨rfl,rfl⟩⟩)⟩
  ·have ck:=Bh2 l h
   have hU:=Axg (Il l).1 hf (by omega)
   rw [unpack_pack l h]at hU
   have hC:=A94 (Il l).1 hf true
   rw [ck.1]at hC
   show Call E0.P Ip [AG (Il l).1] [] _
   rw [ag]
   refine Call.use hU ⟨⟨rfl,rfl⟩,Let.intro (bt ?_ ?_)⟩
   ·show((bif !decide ((0:Int)=0)then true else !decide (((obs (l.map fun o=>(⟨o.n,0,o.v.plain⟩:Ob))).length:Int)=((obs l).length:Int))) == false)=true
    rw [I7,I7,List.length_map];simp
   ·show Call E0.P R4 [AG (Il l).1,_] [] _
    rw [ag]
    refine Call.use hC ⟨⟨rfl,rfl⟩,Let.intro (bf rfl (Alp _ _ _ ?_))⟩
    exact A90 l (by have:=few.1;omega) (fun o ho=>Ant 1000 (by omega) _ o.v (Nat.le_refl _) (sc o ho).2.1) _ ⟨rfl,rfl⟩ l.length 0 (by omega)
end Go.Proofs.Sim.Se

import Derived.Test.YtaggabcajidnnaaGreatDoorVsB
namespace Go.Proofs.Sim.Se
open Go Go.Proofs Go.Proofs.Sim Go.Proofs.Sim.Va Go.Proofs.Sim.St
theorem Byv {α:Type} {v:α} {k:α→Prop} (h:k v):Let v k:=⟨fun _x hx=>hx ▸ h⟩
theorem cmp_eq(a b:Ky):decide (Aau a b=0)=decide (a=b):=by
 unfold Aau
 cases h:Op.bytesLess a b with
 |true=>
  have:a≠b:=fun e=>by rw [e,A8k]at h;cases h
  simp [this]
 |false=>by_cases e:a=b<;>simp [e]
def Found(D:List Pr)(k:Ky)(r:AV)(h:Heap):Prop:=∃(t:Nat) (b:Bool),r= .tup [.imm (.int .i64 t), .imm (.bool b)]∧h=[]∧t≤D.length∧(b=true→t<D.length∧(Bo D t).1=k)∧(b=false→Dz pk k D=[])
theorem B0a(D:List Pr)(k:Ky)(n:Int)(K:Ex→St→Prop)(hL:Sm D):∀(f s r:Nat),r - s≤f→s≤r→r≤D.length→
 (∀t,s≤t→t≤r→(s<t→bl (Bo D (t - 1)).1 k=true)→(t<r→bl (Bo D t).1 k=false)→K (.exit 0) ⟨[(0, .imm (.sl .any 7 (Bf D))),(1, .imm (.str k)),(2, .fn Dt []),(8, .imm (.int .i64 n)),(9, .imm (.int .i64 t))],[]⟩)→
 Cs (Bf D) k n s r K:=by
 intro f
 induction f with
 |zero=>
  intro s r hf hsr hr hq
  refine I5 _ _ _ _ _ _ ⟨fun h=> ?_,fun _=> ?_⟩
  ·have:=of_decide_eq_true h;omega
  ·exact hq s (Nat.le_refl _) hsr (fun h=>by omega) (fun h=>by omega)
 |succ f ih=>
  intro s r hf hsr hr hq
  have hL':D.length≤4611686018427387904:=hL
  refine I5 _ _ _ _ _ _ ⟨fun h=> ?_,fun h=> ?_⟩
  ·have hlt:s<r:=by have:=of_decide_eq_true h;omega
   rw [half s r (by omega)]
   have hc1:(s+r) / 2<r:=by omega
   have hc2:s≤(s+r) / 2:=by omega
   generalize (s+r) / 2=c at hc1 hc2
   have w:IntKind.i64.wrap ((c:Int)+1)=((c+1:Nat):Int):=by rw [Av _ (by omega) (by omega)];simp
   rw [w]
   simp only [Int.toNat_natCast]
   have e:(Bf D).getD c []=Bc (Bo D c):=by simp [List.getD_eq_getElem?_getD,show c<D.length by omega]
   rw [e,Dx]
   refine⟨by decide,⟨⟨⟨by omega,by rw [Ay];omega⟩,C9 _ _ _⟩, ?_⟩⟩
   refine Call.use (Bk0 _ _) ⟨⟨rfl,rfl⟩, ?_⟩
   show Br (decide (Aau (Bo D c).1 k<0)) _ _
   rw [As1]
   refine⟨fun hb=> ?_,fun hb=> ?_⟩
   ·refine ih (c+1) r (by omega) (by omega) hr fun t h1 h2 h3 h4=>hq t (by omega) h2 (fun _=> ?_) h4
    by_cases e:t=c+1
    ·subst e;exact hb
    ·exact h3 (by omega)
   ·refine ih s c (by omega) (by omega) (by omega) fun t h1 h2 h3 h4=>hq t h1 (by omega) h3 (fun _=> ?_)
    by_cases e:t=c
    ·subst e;exact hb
    ·exact h4 (by omega)
  ·have:=of_decide_eq_false h
   exact hq s (Nat.le_refl _) hsr (fun h=>by omega) (fun h=>by omega)
theorem B0c(D:List Pr)(k:Ky)(hD:C8 D)(hL:Sm D):Call E0.P Gu [.imm (.sl .any 7 (Bf D)), .imm (.str k), .fn Dt []] [] (Found D k):=by
 refine Uk _ _ _ ?_
 have hL':D.length≤4611686018427387904:=hL
 have hl:=Ay D
 rw [hl]
 refine B0a D k _ _ hL D.length 0 D.length (by omega) (by omega) (by omega) fun t _ h2 h3 h4=> ?_
 have none:(t<D.length→(Bo D t).1≠k)→Dz pk k D=[]:=by
  intro hne
  refine U3 fun p hp hpk=> ?_
  have hpk:p.1=k:=hpk
  obtain⟨i,hi,rfl⟩:=Bhw hp
  by_cases hit:i<t
  ·have a1:=h3 (by omega)
   have a2:=sorted_at hD i (t - 1) (by omega) (by omega)
   have:=Bmz a2 a1
   rw [hpk]at this
   exact absurd (this.symm.trans (A8k k)) (by decide)
  ·have htl:t<D.length:=by omega
   have a1:=h4 htl
   have a2:=sorted_at hD t i (by omega) hi
   rw [hpk]at a2
   exact hne htl (ordK.tot _ _ a1 a2)
 refine Sw _ _ _ _ _ (Si _ _ _ _ _ ?_)
 simp only [Int.toNat_natCast]
 have e:∀(_:t<D.length),(Bf D).getD t []=Bc (Bo D t):=fun h=>by simp [List.getD_eq_getElem?_getD,h]
 refine⟨fun h=> ?_,⟨fun h=> ?_,fun h=> ?_⟩⟩
 ·have h:t<D.length:=by have:=of_decide_eq_true h;omega
  rw [e h]
  exact⟨⟨by omega,by rw [hl];omega⟩,C9 _ _ _⟩
 ·have h:t<D.length:=by
   have:decide ((t:Int)<(D.length:Int))=true:=by simpa using h
   have:=of_decide_eq_true this;omega
  rw [e h,Dx]
  refine Call.use (Bk0 _ _) ⟨⟨rfl,rfl⟩, ?_⟩
  show Let (decide (Aau (Bo D t).1 k=0)) _
  rw [cmp_eq]
  exact Byv (Iz (Found D k) _ _ ⟨t,_,rfl,rfl,h2,fun hb=>⟨h,of_decide_eq_true hb⟩,fun hb=>none fun _=>of_decide_eq_false hb⟩)
 ·have h:¬t<D.length:=by
   have:decide ((t:Int)<(D.length:Int))=false:=by simpa using h
   have:=of_decide_eq_false this;omega
  refine⟨by decide, ?_⟩
  exact Byv (Iz (Found D k) _ _ ⟨t,false,rfl,rfl,h2,fun hb=>absurd hb (by decide),fun _=>none fun c=>absurd c h⟩)
theorem Bu3(D:List Pr)(k:Ky)(hD:C8 D)(hL:Sm D):Call E0.P Ag7 [.imm (.sl .any 7 (Bf D)), .imm (.str k)] [] (Found D k):=by
 refine A3o _ _ _ ?_
 refine(B0c D k hD hL).mono ?_
 rintro r h ⟨t,b,rfl,rfl,h2⟩
 exact⟨⟨rfl,rfl⟩,⟨t,b,rfl,rfl,h2⟩⟩
theorem Bni(d:List Pr):C8 (plD d):=(A2o (K3 d)).sublist (List.filter_sublist)
theorem Bzz(k n g:Int)(s:List UInt8)(l:List V)(d:List Pr):(mkP k n g s l d).d=[]∨(mkP k n g s l d).d=(uniq d).filter Qc:=by
 unfold mkP
 split
 ·exact .inl rfl
 split
 ·exact .inl rfl
 split
 ·exact .inl rfl
 split
 ·exact .inr rfl
 split
 ·exact .inl rfl
 split
 ·exact .inr rfl
 ·exact .inl rfl
theorem A0s(v:V):v.plain.d=[]∨v.plain.d=plD v.d:=by
 rw [Ao2];exact Bzz _ _ _ _ _ _
theorem Bis(v:V):C8 v.plain.d:=by
 rcases A0s v with h |h<;>rw [h]
 ·exact List.Pairwise.nil
 ·exact Bni _
theorem Bmp(k:Ky)(q:Pr→Bool)(l:List Pr):Dz pk k (l.filter q)=(Dz pk k l).filter q:=by
 simp only [Dz,List.filter_filter]
 congr 1
 funext x
 rw [Bool.and_comm]
theorem Bwh(d:List Pr)(k:Ky):Dz pk k (plD d)=((Dz pk k (K3 d)).take 1).filter Qc:=by
 rw [plD,Bmp,Bjb]
theorem Bp4(v:V)(k:Ky):(Dz pk k v.plain.d).length≤1:=by
 rcases A0s v with h |h<;>rw [h]
 ·simp [Dz]
 ·rw [Bwh]
  exact Nat.le_trans (List.length_filter_le _ _) (by simp;omega)
theorem Bjc(l:List Pr):(uniq l).length≤l.length:=by
 have:=(Abc (Ce l)).length_le
 rw [show(Ce l).length=l.length from Gy ordK l]at this
 exact this
theorem Avh(v:V):v.plain.d.length≤v.d.length:=by
 rcases A0s v with h |h<;>rw [h]
 ·simp
 ·refine Nat.le_trans (List.length_filter_le _ _) (Nat.le_trans (Bjc _) (by simp [K3]))
def Gg(v:V)(k:Ky):Option V:=(Dz pk k v.plain.d).head?.map fun p=>p.2
def Yi(v:V)(k:Ky):AV:= .tup [.imm (.agg ((Gg v k).getD zero).row), .imm (.bool (Gg v k).isSome)]
theorem Avr:zero.row=[.int .i64 0, .int .i64 0, .int .i64 0, .str [], .sl .any 6 [], .sl .any 7 []]:=by
 rw [Cn];rfl
theorem Byn(D:List Pr)(t:Nat)(k:Ky)(h:t<D.length)(hk:(Bo D t).1=k)(h1:(Dz pk k D).length≤1):Dz pk k D=[Bo D t]:=by
 have hm:Bo D t∈Dz pk k D:=by
  have:Bo D t∈D:=by
   have e:Bo D t=D[t]:=by simp [Bo,List.getD_eq_getElem?_getD,h]
   rw [e];exact List.getElem_mem h
  exact List.mem_filter.2 ⟨this,by simpa using hk⟩
 cases hf:Dz pk k D with
 |nil=>rw [hf]at hm;simp at hm
 |cons a r=>
  rw [hf]at hm h1
  cases r with
  |nil=>rw [List.mem_singleton]at hm;rw [hm]
  |cons b r=>simp at h1
theorem Blz(v:V)(hf:Fit v)(k:Ky):Call E0.P Tt [.imm (.agg v.row), .imm (.str k)] [] (Is (Yi v k) []):=by
 have hP:=Bav v hf
 have hn:v.d.length≤1000000000000:=by cases hf;assumption
 have hdl:=Avh v
 have hP:Call E0.P Gq [.imm (.agg v.row)] [] _:=hP
 rw [Cn]at hP ⊢
 refine A91 _ _ _ _ _ _ _ _ ?_
 refine Call.use hP ⟨⟨rfl, ?_⟩, ?_⟩
 ·rw [Afz,Et]
 rw [Afz]
 have e5:gR v.plain.row 5=Bf v.plain.d:=by rw [Cn];rfl
 rw [e5]
 refine(Bu3 v.plain.d k (Bis v) (by show _≤_;omega)).mono ?_
 rintro r h ⟨t,b,rfl,rfl,ht,h1,h0⟩
 refine⟨⟨rfl,rfl⟩, ?_⟩
 show Br (!b) _ (Ag (((0:Int)≤(t:Int)∧(t:Int)<_)∧_) _)
 refine⟨fun hb=> ?_,fun hb=> ?_⟩
 ·have hb:b=false:=by simpa using hb
  have h0:=h0 hb
  refine⟨?_,rfl⟩
  simp only [Yi,Gg,h0,List.head?_nil,Option.map_none,Option.getD_none,Avr]
  rfl
 ·have hb:b=true:=by simpa using hb
  obtain⟨htl,hk⟩:=h1 hb
  have e:(Bf v.plain.d).getD t []=Bc (Bo v.plain.d t):=by simp [List.getD_eq_getElem?_getD,htl]
  show Ag (((0:Int)≤(t:Int)∧(t:Int)<_)∧Be _ ((Bf v.plain.d).getD (Int.toNat (t:Int)) [])=true) _
  have hfb:=Byn _ t k htl hk (Bp4 v k)
  refine⟨⟨⟨by omega,by rw [Ay];omega⟩,by rw [Int.toNat_natCast,e];exact C9 _ _ _⟩, ?_⟩
  refine⟨?_,rfl⟩
  have e2:(Bf v.plain.d).getD (rI (rT (AV.tup [AV.imm (.int .i64 (t:Int)),AV.imm (.bool b)]) 0)).toNat []=Bc (Bo v.plain.d t):=e
  rw [e2,Mm]
  simp only [Yi,Gg,hfb,List.head?_cons,Option.map_some,Option.getD_some]
  rfl
end Go.Proofs.Sim.Se
namespace Go.Proofs.Sim.Se
open Go Go.Proofs Go.Proofs.Sim Go.Proofs.Sim.Va Go.Proofs.Sim.St
theorem Tz(ps:List Pr)(n:Nat)(h:n<ps.length):(Bf ps).getD n []=Bc (Bo ps n):=by simp [List.getD_eq_getElem?_getD,h]
theorem Bhj(p:Pr)(X R:List Pr)(h:∀q∈X,bl p.1 q.1=false):Lh p (X++R)=X++Lh p R:=by
 induction X with
 |nil=>rfl
 |cons x X ih=>
  rw [List.cons_append,Lh,h x (by simp),ih fun q hq=>h q (by simp [hq])]
  rfl
theorem Bsc(p:Pr)(d:List Pr):(Lh p d).length=d.length+1:=by
 induction d with
 |nil=>rfl
 |cons x r ih=>
  rw [Lh];split<;>simp [ih]
theorem Bto(d:List Pr)(p:Pr)(hd:d.length≤1000000000000)(K:Ex→St→Prop)(hR:d.any (fun q=>q.1 == p.1)=true→K .ret ⟨[(4, .imm (.sl .any 7 (Bf d)))],[]⟩)
 (hE:∀(b:Bool) (out:List Pr),(d.any (fun q=>q.1 == p.1)=false)→(if b then Lh p d=out else(out=d∧Lh p d=d++[p]))→K (.exit 0) ⟨[(3,(.ptr (Nm.loc (3:Nat)) 0)),(5,(.own (Nm.loc (8:Nat)))),(6,(.imm (.bool b)))],[((Nm.loc (3:Nat)),(.blk Ae [(.imm (.str (p.1))),(.imm (.int .i64 (p.2.k))),(.imm (.int .i64 (p.2.n))),(.imm (.int .i64 (p.2.g))),(.imm (.str p.2.s)),(.imm (.sl .any 6 (p.2.l.map V.row))),(.imm (.sl .any 7 (p.2.d.map Bc)))])),((Nm.loc (8:Nat)),(.arr 0 true 7 (Bf out)))]⟩):
 ∀(R X:List Pr) (i:Nat) (b:Bool) (out:List Pr),d=X++R→i=X.length→(X.any (fun q=>q.1 == p.1)=false)→(if b then Lh p d=out++R else(out=X∧∀q∈X,bl p.1 q.1=false))→
 Ahu (Bf d) b i p.1 p.2.k p.2.n p.2.g p.2.s (p.2.l.map V.row) (p.2.d.map Bc) (Bf out) K
 | [],X,i,b,out,hX,hi,ha,hb=>by
   simp only [List.append_nil]at hX hb
   subst hX
   refine Asr _ _ _ _ _ _ _ _ _ _ _ _ ⟨fun h=> ?_,fun _=>hE b out ha ?_⟩
   ·have:=of_decide_eq_true h
    rw [Ay]at this;omega
   ·cases b with
    |true=>exact hb
    |false=>
     obtain⟨h1,h2⟩:=hb
     refine⟨h1, ?_⟩
     have:=Bhj p d [] h2
     simpa [Lh] using this
 |x::R,X,i,b,out,hX,hi,ha,hb=>by
  have hlt:i<d.length:=by rw [hX];simp;omega
  have hx:Bo d i=x:=by rw [hX];exact Ja _ _ _ _ hi
  have hr:=Tz d i hlt
  rw [hx]at hr
  have hxd:d=(X++[x])++R:=by rw [hX];simp
  have g0:gS (Bc x) 0=x.1:=by rw [Em];rfl
  have w:IntKind.i64.wrap ((i:Int)+1)=((i+1:Nat):Int):=by rw [Av _ (by omega) (by omega)];simp
  have hol:out.length≤i+1:=by
   cases b with
   |true=>
    have:=congrArg List.length (show Lh p d=out++(x::R) from hb)
    rw [Bsc,hX]at this
    simp at this;omega
   |false=>rw [hb.1];omega
  refine Asr _ _ _ _ _ _ _ _ _ _ _ _ ⟨fun _=> ?_,fun h=> ?_⟩
  ·simp only [Int.toNat_natCast]
   rw [hr,Ay,g0]
   have rng:((0:Int)≤(i:Int)∧(i:Int)<(d.length:Int))∧Be [.str, .int .i64, .int .i64, .int .i64, .str, .sl 6 Aa, .sl 7 Ae] (Bc x)=true:=⟨⟨by omega,by omega⟩,C9 _ _ _⟩
   refine⟨rng,⟨fun he=>hR ?_,fun he=>⟨fun _=>rng,Let.intro ?_⟩⟩⟩
   ·rw [hX,List.any_append,List.any_cons,he];simp
   have ha':(X++[x]).any (fun q=>q.1 == p.1)=false:=by
    rw [List.any_append,ha,List.any_cons,he];rfl
   have go:∀(b':Bool) (o:List Pr),o.length≤i+1→(if b' then Lh p d=(o++[x])++R else(o++[x]=X++[x]∧∀q∈X++[x],bl p.1 q.1=false))→
    Adv (Bf d) b' i p.1 p.2.k p.2.n p.2.g p.2.s (p.2.l.map V.row) (p.2.d.map Bc) (Bf o) (Ahq K):=by
    intro b' o hol' hb'
    refine A6m _ _ _ _ _ _ _ _ _ _ _ _ ?_
    simp only [Int.toNat_natCast]
    rw [hr,Dx,Ay,Ay]
    refine⟨rng,⟨by constructor<;>omega, ?_⟩⟩
    refine Baq _ _ _ _ _ _ _ _ _ _ _ _ (A6n _ _ _ _ _ _ _ _ _ _ _ _ ?_)
    rw [w]
    refine Bap _ _ _ _ _ _ _ _ _ _ _ _ ?_
    have e:Bf o++[Bc x]=Bf (o++[x]):=by simp [Bf]
    rw [e]
    exact Bto d p hd K hR hE R (X++[x]) (i+1) b' (o++[x]) hxd (by simp;omega) ha' hb'
   refine⟨fun hl=> ?_,fun hl=> ?_⟩
   ·have hb0:b=false:=by cases b<;>simp_all
    subst hb0
    have hl:bl p.1 x.1=true:=hl
    have e:Bf out++[[.str p.1, .int .i64 p.2.k, .int .i64 p.2.n, .int .i64 p.2.g, .str p.2.s, .sl .any 6 (p.2.l.map V.row), .sl .any 7 (p.2.d.map Bc)]]=Bf (out++[p]):=by
     rw [←Em];simp [Bf]
    rw [e,Ay]
    refine⟨by constructor<;>omega,go true (out++[p]) (by rw [hb.1];simp;omega) ?_⟩
    show Lh p d=_
    rw [hX,Bhj p X _ hb.2,hb.1,Lh,hl]
    simp
   ·refine go b out hol ?_
    cases b with
    |true=>
     have hb:Lh p d=out++(x::R):=hb
     show Lh p d=_
     rw [hb];simp
    |false=>
     have hl:bl p.1 x.1=false:=hl
     refine⟨by rw [hb.1],fun q hq=> ?_⟩
     rcases List.mem_append.1 hq with hq |hq
     ·exact hb.2 q hq
     ·rw [List.mem_singleton]at hq;rw [hq];exact hl
  ·have:=of_decide_eq_false h
   rw [Ay]at this;omega
theorem Bzr(d:List Pr)(p:Pr)(hd:d.length≤1000000000000):Call E0.P Auu [.imm (.sl .any 7 (Bf d)), .imm (.agg (Bc p))] [] (Is (.imm (.sl .any 7 (Bf (put d p)))) []):=by
 rw [Em]
 refine Bfu _ _ _ _ _ _ _ _ _ ?_
 refine Bto d p hd _ (fun h=> ?_) (fun b out ha hb=> ?_) d [] 0 false [] rfl rfl rfl ⟨rfl,by simp⟩
 ·refine Ban _ _ ?_
  rw [Va.put,h];exact⟨rfl,rfl⟩
 ·refine Bao _ _ _ _ _ _ _ _ _ _ (A6o _ _ _ _ _ _ _ _ _ _ ⟨fun hn=> ?_,fun hn=> ?_⟩)
  ·have hb0:b=false:=by cases b<;>simp_all
   subst hb0
   obtain⟨h1,h2⟩:=hb
   subst h1
   have e:Bf out++[[.str p.1, .int .i64 p.2.k, .int .i64 p.2.n, .int .i64 p.2.g, .str p.2.s, .sl .any 6 (p.2.l.map V.row), .sl .any 7 (p.2.d.map Bc)]]=Bf (Lh p out):=by
    rw [←Em,h2];simp [Bf]
   rw [e,Ay]
   refine⟨by constructor<;>omega,Ash _ _ ?_⟩
   rw [Va.put,ha];exact⟨rfl,rfl⟩
  ·have hb0:b=true:=by cases b<;>simp_all
   subst hb0
   have hb:Lh p d=out:=hb
   refine Ash _ _ ?_
   rw [Va.put,ha, ←hb];exact⟨rfl,rfl⟩
abbrev Agw(v:V):Prop:=Call E0.P Jt [.imm (.agg v.row)] [] (Is (.imm (.agg v.plain.row)) [])
theorem A2f(l:List Pr):(l.foldl put []).length≤l.length:=by rw [Bit];exact Bjc l
theorem Btp(d:List Pr)(hd:d.length≤1000000000000)(ih:∀p∈d,Agw p.2)(K:Ex→St→Prop)(hE:K (.exit 0) ⟨[(3,(.imm (.sl .any 7 (Bf ((K3 d).foldl put [])))))],[]⟩):
 ∀(R X:List Pr) (i:Nat),d=X++R→i=X.length→Aby (Bf d) i (Bf ((K3 X).foldl put [])) K
 | [],X,i,hX,hi=>by
   simp only [List.append_nil]at hX
   subst hX
   refine An2 _ _ _ _ ⟨fun h=> ?_,fun _=>hE⟩
   have:=of_decide_eq_true h
   rw [Ay]at this;omega
 |x::R,X,i,hX,hi=>by
  have hlt:i<d.length:=by rw [hX];simp;omega
  have hx:Bo d i=x:=by rw [hX];exact Ja _ _ _ _ hi
  have hr:=Tz d i hlt
  rw [hx]at hr
  have w:IntKind.i64.wrap ((i:Int)+1)=((i+1:Nat):Int):=by rw [Av _ (by omega) (by omega)];simp
  refine An2 _ _ _ _ ⟨fun _=> ?_,fun h=> ?_⟩
  ·simp only [Int.toNat_natCast]
   rw [hr,Ay,Mm,w]
   have rng:((0:Int)≤(i:Int)∧(i:Int)<(d.length:Int))∧Be [.str, .int .i64, .int .i64, .int .i64, .str, .sl 6 Aa, .sl 7 Ae] (Bc x)=true:=⟨⟨by omega,by omega⟩,C9 _ _ _⟩
   refine⟨rng,⟨rng, ?_⟩⟩
   refine Call.use (ih x (by rw [hX];simp)) ⟨⟨rfl, ?_⟩, ?_⟩
   ·rw [Afz,Et]
   rw [Afz,Bde]
   have hl:=A2f (K3 X)
   have hl2:(K3 X).length=X.length:=by simp [K3]
   refine Call.use (Bzr _ _ (by omega)) ⟨⟨rfl,rfl⟩, ?_⟩
   have e:put ((K3 X).foldl put []) (x.1,x.2.plain)=(K3 (X++[x])).foldl put []:=by simp [K3,List.foldl_append]
   rw [e]
   exact Btp d hd ih K hE R (X++[x]) (i+1) (by rw [hX];simp) (by simp;omega)
  ·have:=of_decide_eq_false h
   rw [Ay]at this;omega
theorem Blw(d:List Pr)(hd:d.length≤1000000000000)(K:Ex→St→Prop)(hE:K (.exit 2) ⟨[(5,(.own (Nm.loc (28:Nat))))],[((Nm.loc (28:Nat)),(.arr 0 true 7 (Bf (d.filter Qc))))]⟩):
 ∀(R X:List Pr) (i:Nat),d=X++R→i=X.length→Zd i (Bf d) (Bf (X.filter Qc)) K
 | [],X,i,hX,hi=>by
   simp only [List.append_nil]at hX
   subst hX
   refine Ak0 _ _ _ _ ⟨fun h=> ?_,fun _=>hE⟩
   have:=of_decide_eq_true h
   rw [Ay]at this;omega
 |x::R,X,i,hX,hi=>by
  have hlt:i<d.length:=by rw [hX];simp;omega
  have hx:Bo d i=x:=by rw [hX];exact Ja _ _ _ _ hi
  have hr:=Tz d i hlt
  rw [hx]at hr
  have g1:gI (Bc x) 1=x.2.k:=by rw [Em];rfl
  have w:IntKind.i64.wrap ((i:Int)+1)=((i+1:Nat):Int):=by rw [Av _ (by omega) (by omega)];simp
  have hfl:(X.filter Qc).length≤X.length:=List.length_filter_le _ _
  refine Ak0 _ _ _ _ ⟨fun _=> ?_,fun h=> ?_⟩
  ·rw [show(Bf d).getD (Int.toNat (i:Int)) []=Bc x from hr,Ay,Ay,Dx,g1]
   have rng:((0:Int)≤(i:Int)∧(i:Int)<(d.length:Int))∧Be [.str, .int .i64, .int .i64, .int .i64, .str, .sl 6 Aa, .sl 7 Ae] (Bc x)=true:=⟨⟨by omega,by omega⟩,C9 _ _ _⟩
   refine⟨rng,⟨fun hk=>⟨rng,⟨by constructor<;>omega, ?_⟩⟩,fun hk=> ?_⟩⟩
   ·have hk:Qc x=true:=hk
    have e:Bf (X.filter Qc)++[Bc x]=Bf ((X++[x]).filter Qc):=by rw [List.filter_append];simp [hk,Bf]
    refine Ako _ _ _ _ ?_
    rw [w,e]
    exact Ank _ _ _ _ (Blw d hd K hE R (X++[x]) (i+1) (by rw [hX];simp) (by simp;omega))
   ·have hk:Qc x=false:=hk
    have e:Bf (X.filter Qc)=Bf ((X++[x]).filter Qc):=by rw [List.filter_append];simp [hk,Bf]
    refine Ako _ _ _ _ ?_
    rw [w,e]
    exact Ank _ _ _ _ (Blw d hd K hE R (X++[x]) (i+1) (by rw [hX];simp) (by simp;omega))
  ·have:=of_decide_eq_false h
   rw [Ay]at this;omega
theorem Bf6(d:List Pr)(hd:d.length≤1000000000000)(ih:∀p∈d,Agw p.2):Call E0.P Afe [.imm (.sl .any 7 (Bf d))] [] (Is (.imm (.sl .any 7 (Bf (plD d)))) []):=by
 refine A9x _ _ ?_
 have hl:=A2f (K3 d)
 have hl2:(K3 d).length=d.length:=by simp [K3]
 refine Btp d hd ih _ (A4i _ _ (A23 _ _ ?_)) d [] 0 rfl rfl
 refine Blw _ (by omega) _ (A4k _ _ (A07 _ _ (A4j _ _ (A4h _ _ ?_)))) _ [] 0 rfl rfl
 rw [Bit];exact⟨rfl,rfl⟩
end Go.Proofs.Sim.Se
namespace Go.Proofs.Sim.Se
open Go Go.Proofs Go.Proofs.Sim Go.Proofs.Sim.Va Go.Proofs.Sim.St
structure GN (Q:AV→Heap→Prop) (K:Ex→St→Prop):Prop where
 norm:∀(a b c y0 y1 y2:Int) (s ys:List UInt8) (l d p q:List (List IV)),Q (Afy a b c s l d) []→K .normal ⟨[(2,(.ptr (Nm.loc (2:Nat)) 0)),(3,(.ptr (Nm.loc (3:Nat)) 0))],[((Nm.loc (2:Nat)),(.blk Aa [(.imm (.int .i64 y0)),(.imm (.int .i64 y1)),(.imm (.int .i64 y2)),(.imm (.str ys)),(.own ((Nm.loc (2:Nat)).cell (4:Nat))),(.own ((Nm.loc (2:Nat)).cell (5:Nat)))])),((Nm.loc (3:Nat)),(.blk Aa [(.imm (.int .i64 a)),(.imm (.int .i64 b)),(.imm (.int .i64 c)),(.imm (.str s)),(.imm (.sl .any 6 l)),(.imm (.sl .any 7 d))])),(((Nm.loc (2:Nat)).cell (4:Nat)),(.arr (Aa+2) true 6 p)),(((Nm.loc (2:Nat)).cell (5:Nat)),(.arr (Ae+2) true 7 q))]⟩
 ret:∀(a b c:Int) (s:List UInt8) (l d:List (List IV)),Q (Afy a b c s l d) []→K .ret ⟨[(2,(.ptr (Nm.loc (2:Nat)) 0))],[((Nm.loc (2:Nat)),(.blk Aa [(.imm (.int .i64 a)),(.imm (.int .i64 b)),(.imm (.int .i64 c)),(.imm (.str s)),(.own ((Nm.loc (2:Nat)).cell (4:Nat))),(.own ((Nm.loc (2:Nat)).cell (5:Nat)))])),(((Nm.loc (2:Nat)).cell (4:Nat)),(.arr (Aa+2) true 6 l)),(((Nm.loc (2:Nat)).cell (5:Nat)),(.arr (Ae+2) true 7 d))]⟩
theorem Bz9(Q:AV→Heap→Prop):GN Q (Nj Q):=⟨fun a b c y0 y1 y2 s ys l d p q h=>A4c Q y0 y1 y2 ys a b c s l d p q (A06 _ _ _ _ _ _ _ _ _ _ _ _ _ (A4b Q _ _ _ _ _ _ h)),fun a b c s l d h=>A4d Q a b c s l d h⟩
theorem Bw7 {Q:AV→Heap→Prop} {K:Ex→St→Prop} (h:GN Q K):GN Q (Kb K):=⟨fun _a _b _c _y0 _y1 _y2 _s _ys _l _d _p _q hq=>A4e K _ _ _ _ _ _ _ _ _ _ _ _ (h.norm _ _ _ _ _ _ _ _ _ _ _ _ hq),fun _a _b _c _s _l _d hq=>A4f K _ _ _ _ _ _ (h.ret _ _ _ _ _ _ hq)⟩
theorem Bxs(l:List V)(hl:l.length≤1000000000000)(ih:∀x∈l,Agw x)(x0 x1 x2 y0 y1 y2 z0 z1 z2:Int)(xs ys zs:List UInt8)(x5 z4 z5 p q:List (List IV))
 (Q:AV→Heap→Prop)(K:Ex→St→Prop)(hK:GN Q K)(hq:Q (Afy z0 z1 z2 zs (Il (l.map V.plain)) z5) []):∀(R X:List V) (i:Nat),l=X++R→i=X.length→
 Zc i x0 x1 x2 xs (Il l) x5 y0 y1 y2 ys (Il (X.map V.plain)) z0 z1 z2 zs z4 z5 p q (Ajr K)
 | [],X,i,hX,hi=>by
   simp only [List.append_nil]at hX
   subst hX
   refine Akz _ _ _ _ _ _ _ _ _ _ _ _ _ _ _ _ _ _ _ _ _ ⟨fun h=> ?_,fun _=> ?_⟩
   ·have:=of_decide_eq_true h
    rw [Fy]at this;omega
   ·exact A4g _ _ _ _ _ _ _ _ _ _ _ _ _ _ (A05 _ _ _ _ _ _ _ _ _ _ _ _ _ _ ((Bw7 hK).norm _ _ _ _ _ _ _ _ _ _ _ _ hq))
 |x::R,X,i,hX,hi=>by
  have hlt:i<l.length:=by rw [hX];simp;omega
  have hx:Nf l i=x:=by rw [hX,hi];simp [Nf,List.getD_eq_getElem?_getD]
  have hr:=Z4 l i hlt
  rw [hx]at hr
  have w:IntKind.i64.wrap ((i:Int)+1)=((i+1:Nat):Int):=by rw [Av _ (by omega) (by omega)];simp
  refine Akz _ _ _ _ _ _ _ _ _ _ _ _ _ _ _ _ _ _ _ _ _ ⟨fun _=> ?_,fun h=> ?_⟩
  ·rw [show(Il l).getD (Int.toNat (i:Int)) []=x.row from hr,Et,w]
   refine⟨⟨⟨by omega,by rw [Fy];omega⟩,Z5 _ _ _⟩, ?_⟩
   refine Call.use (ih x (by rw [hX];simp)) ⟨⟨rfl, ?_⟩, ?_⟩
   ·rw [Afz,Et]
   ·rw [Afz,Et]
    refine⟨by rw [Fy,List.length_map];constructor<;>omega, ?_⟩
    have e:Il (X.map V.plain)++[x.plain.row]=Il ((X++[x]).map V.plain):=by simp [Il]
    rw [e]
    exact Bxs l hl ih _ _ _ _ _ _ _ _ _ _ _ _ _ _ _ _ _ Q K hK hq R (X++[x]) (i+1) (by rw [hX];simp) (by simp;omega)
  ·have:=of_decide_eq_false h
   rw [Fy]at this;omega
theorem R_4(v:V)(h1:v.l.length≤1000000000000)(h2:v.d.length≤1000000000000)(ih1:∀x∈v.l,Agw x)(ih2:∀p∈v.d,Agw p.2)(b:Bool)(hb1:b=true→v.k=1∨v.k=2)(hb2:b=false→¬v.k=1∧¬v.k=2):
 Abl v.k b v.k v.n v.g v.s (Il v.l) (Bf v.d) 0 0 0 [] v.k 0 0 [] [] [] [] [] (Nj (Is (.imm (.agg v.plain.row)) [])):=by
 have hp:=Bdd v
 generalize hQ:Is (.imm (.agg v.plain.row)) []=Q
 have hG:=Bz9 Q
 have fin:∀(a b c:Int) (s:List UInt8) (l d:List (List IV)),v.plain.row=[.int .i64 a, .int .i64 b, .int .i64 c, .str s, .sl .any 6 l, .sl .any 7 d]→Q (Afy a b c s l d) []:=by
  intro a b c s l d h
  rw [←hQ]
  exact⟨by rw [h],rfl⟩
 refine A21 _ _ _ _ _ _ _ _ _ _ _ _ _ _ _ _ _ _ _ _ _ ⟨fun h=>hG.norm _ _ _ _ _ _ _ _ _ _ _ _ (fin _ _ _ _ _ _ ?_),fun h=> ?_⟩
 ·rw [hp]
  rcases hb1 h with e |e<;>rw [e]<;>rfl
 obtain⟨k1,k2⟩:=hb2 h
 have hG2:=Bw7 hG
 have six:∀(c:Bool),(c=true→v.k=3∨v.k=4)→(c=false→¬v.k=3∧¬v.k=4)→
  Abm v.k c v.k v.n v.g v.s (Il v.l) (Bf v.d) 0 0 0 [] v.k 0 0 [] [] [] [] [] (Kb (Nj Q)):=by
  intro c hc1 hc2
  refine A22 _ _ _ _ _ _ _ _ _ _ _ _ _ _ _ _ _ _ _ _ _ ⟨fun h=>hG2.norm _ _ _ _ _ _ _ _ _ _ _ _ (fin _ _ _ _ _ _ ?_),fun h=> ?_⟩
  ·rw [hp]
   rcases hc1 h with e |e<;>rw [e]<;>rfl
  obtain⟨k3,k4⟩:=hc2 h
  refine⟨fun h=> ?_,fun h=> ?_⟩
  ·have k5:v.k=5:=of_decide_eq_true h
   refine Bxs v.l h1 ih1 _ _ _ _ _ _ _ _ _ _ _ _ _ _ _ _ _ Q _ hG2 (fin _ _ _ _ _ _ ?_) v.l [] 0 rfl rfl
   rw [hp,k5];rfl
  have k5:¬v.k=5:=of_decide_eq_false h
  refine⟨fun h=> ?_,fun h=> ?_⟩
  ·have k6:v.k=6:=of_decide_eq_true h
   refine Call.use (Bf6 v.d h2 ih2) ⟨⟨rfl,rfl⟩,hG2.norm _ _ _ _ _ _ _ _ _ _ _ _ (fin _ _ _ _ _ _ ?_)⟩
   rw [hp,k6];rfl
  have k6:¬v.k=6:=of_decide_eq_false h
  refine⟨fun h=> ?_,fun h=> ?_⟩
  ·have k7:v.k=7:=of_decide_eq_true h
   refine hG2.norm _ _ _ _ _ _ _ _ _ _ _ _ (fin _ _ _ _ _ _ ?_)
   rw [hp,k7];rfl
  have k7:¬v.k=7:=of_decide_eq_false h
  refine⟨fun h=> ?_,fun h=> ?_⟩
  ·have k8:v.k=8:=of_decide_eq_true h
   refine Call.use (Bf6 v.d h2 ih2) ⟨⟨rfl,rfl⟩,hG2.norm _ _ _ _ _ _ _ _ _ _ _ _ (fin _ _ _ _ _ _ ?_)⟩
   rw [hp,k8];rfl
  have k8:¬v.k=8:=of_decide_eq_false h
  refine hG2.ret _ _ _ _ _ _ (fin _ _ _ _ _ _ ?_)
  have hz:=Avr
  have hpl:v.plain=zero∨v.k=0:=by
   by_cases k0:v.k=0
   ·exact .inr k0
   ·left
    rw [Ao2];unfold mkP
    simp [k1,k2,k3,k4,k5,k6,k7,k8]
  rcases hpl with e |e
  ·rw [e,hz]
  ·rw [hp,e];rfl
 refine⟨fun h=> ?_,fun h=> ?_⟩
 ·have e:=of_decide_eq_true h
  exact six _ (fun _=> .inl e) (fun h'=>absurd e (of_decide_eq_false h'))
 ·have e:¬v.k=3:=of_decide_eq_false h
  exact six _ (fun h'=> .inr (of_decide_eq_true h')) (fun h'=>⟨e,of_decide_eq_false h'⟩)
theorem Bf3(v:V)(hf:Fit v):Agw v:=by
 induction hf with
 |mk v h1 h2 _ _ ih1 ih2=>
  show Call E0.P Jt [.imm (.agg v.row)] [] _
  have key:=R_4 v h1 h2 ih1 ih2
  generalize Is (.imm (.agg v.plain.row)) []=Q at key ⊢
  rw [Cn]
  refine A9w _ _ _ _ _ _ _ ⟨fun h=> ?_,fun h=> ?_⟩
  ·have e:v.k=1:=of_decide_eq_true h
   exact key _ (fun _=> .inl e) (fun h'=>absurd e (of_decide_eq_false h'))
  ·have e:¬v.k=1:=of_decide_eq_false h
   exact key _ (fun h'=> .inr (of_decide_eq_true h')) (fun h'=>⟨e,of_decide_eq_false h'⟩)
theorem Bo6(k:Ky)(X R:List Pr)(x:Pr)(hX:∀q∈X,¬q.1=k)(hx:x.1=k):(Dz pk k (X++x::R)).head?=some x:=by
 rw [Adi,U3 (fun q hq=>hX q hq),Nl,if_pos hx];rfl
theorem Bn3(D:List Pr)(k:Ky)(hd:D.length≤1000000000000)(z0 z1 z2:Int)(zs:List UInt8)(z4:List (List IV))(Q:AV→Heap→Prop)
 (hq:Q (.tup [.imm (.agg ((((Dz pk k D).head?.map fun p=>p.2)).getD zero).row), .imm (.bool (((Dz pk k D).head?.map fun p=>p.2)).isSome)]) []):∀(R X:List Pr) (i:Nat),D=X++R→i=X.length→(∀q∈X,¬q.1=k)→
 Ahs k i 0 0 0 [] z0 z1 z2 zs z4 (Bf D) [] [] (Ahp Q)
 | [],X,i,hX,hi,hn=>by
   simp only [List.append_nil]at hX
   subst hX
   refine Asp _ _ _ _ _ _ _ _ _ _ _ _ _ _ _ ⟨fun h=> ?_,fun _=> ?_⟩
   ·have:=of_decide_eq_true h
    rw [Ay]at this;omega
   ·refine Bah _ _ _ _ _ _ _ (A6j _ _ _ _ _ _ _ (Baf _ _ _ _ _ _ _ _ ?_))
    rw [U3 (fun q hq=>hn q hq)]at hq
    simp only [List.head?_nil,Option.map_none,Option.getD_none,Avr]at hq
    exact hq
 |x::R,X,i,hX,hi,hn=>by
  have hlt:i<D.length:=by rw [hX];simp;omega
  have hx:Bo D i=x:=by rw [hX];exact Ja _ _ _ _ hi
  have hr:=Tz D i hlt
  rw [hx]at hr
  have g0:gS (Bc x) 0=x.1:=by rw [Em];rfl
  have w:IntKind.i64.wrap ((i:Int)+1)=((i+1:Nat):Int):=by rw [Av _ (by omega) (by omega)];simp
  refine Asp _ _ _ _ _ _ _ _ _ _ _ _ _ _ _ ⟨fun _=> ?_,fun h=> ?_⟩
  ·rw [show(Bf D).getD (Int.toNat (i:Int)) []=Bc x from hr,Ay,g0]
   have rng:((0:Int)≤(i:Int)∧(i:Int)<(D.length:Int))∧Be [.str, .int .i64, .int .i64, .int .i64, .str, .sl 6 Aa, .sl 7 Ae] (Bc x)=true:=⟨⟨by omega,by omega⟩,C9 _ _ _⟩
   refine⟨rng,⟨fun he=>⟨rng, ?_⟩,fun he=> ?_⟩⟩
   ·have he:x.1=k:=by simpa using he
    refine Bag _ _ _ _ _ _ _ _ ?_
    rw [hX,Bo6 k X R x hn he]at hq
    simp only [Option.map_some,Option.getD_some]at hq
    rw [Mm]
    exact hq
   ·have he:¬x.1=k:=by simpa using he
    rw [w]
    refine Bn3 D k hd _ _ _ _ _ Q hq R (X++[x]) (i+1) (by rw [hX];simp) (by simp;omega) ?_
    intro q hq
    rcases List.mem_append.1 hq with hq |hq
    ·exact hn q hq
    ·rw [List.mem_singleton]at hq;rw [hq];exact he
  ·have:=of_decide_eq_false h
   rw [Ay]at this;omega
theorem Bf2(v:V)(hf:Fit v)(k:Ky):Call E0.P Afc [.imm (.agg v.row), .imm (.str k)] [] (Is (Yi v k) []):=by
 have hP:=Bf3 v hf
 have hn:v.d.length≤1000000000000:=by cases hf;assumption
 have hdl:=Avh v
 have hP:Call E0.P Jt [.imm (.agg v.row)] [] _:=hP
 rw [Cn]at hP ⊢
 refine Bfs _ _ _ _ _ _ _ _ ?_
 refine Call.use hP ⟨⟨rfl, ?_⟩, ?_⟩
 ·rw [Afz,Et]
 rw [Afz]
 have e5:gR v.plain.row 5=Bf v.plain.d:=by rw [Cn];rfl
 rw [e5]
 exact Bn3 v.plain.d k (by omega) _ _ _ _ _ _ ⟨rfl,rfl⟩ v.plain.d [] 0 rfl rfl (by simp)
end Go.Proofs.Sim.Se
namespace Go.Proofs.Sim.Se
open Go Go.Proofs Go.Proofs.Sim Go.Proofs.Sim.Va Go.Proofs.Sim.St
theorem V.ext {a b:V} (h1:a.k=b.k)(h2:a.n=b.n)(h3:a.g=b.g)(h4:a.s=b.s)(h5:a.l=b.l)(h6:a.d=b.d):a=b:=by
 cases a;cases b
 simp only [V.k,V.n,V.g,V.s,V.l,V.d]at h1 h2 h3 h4 h5 h6
 subst h1 h2 h3 h4 h5 h6;rfl
def EqR(a b:V)(r:AV)(h:Heap):Prop:=∃c:Bool,r= .imm (.bool c)∧h=[]∧(c=true↔a=b)
abbrev EqAt(a b:V):Prop:=Call E0.P Ti [.imm (.agg a.row), .imm (.agg b.row)] [] (EqR a b)
theorem Bot {α:Type} (l:List α)(i:Nat)(h:i<l.length):l.drop i=l[i]::l.drop (i+1):=by
 rw [List.drop_eq_getElem_cons h]
theorem Btk(a b:V)(hl:a.d.length≤1000000000000)(hab:a.d.length=b.d.length)(ih:∀p∈a.d,∀q∈b.d,EqAt p.2 q.2)(x0 x1 x2 y0 y1 y2:Int)(xs ys:List UInt8)(x4 y4:List (List IV))(K:Ex→St→Prop)
 (hF:a.d≠b.d→K .ret ⟨[(4, .imm (.bool false))],[]⟩)(hT:a.d=b.d→K (.exit 2) ⟨[],[]⟩):∀(n i:Nat),n+i=a.d.length→a.d.take i=b.d.take i→
 Zb i x0 x1 x2 xs x4 (Bf a.d) y0 y1 y2 ys y4 (Bf b.d) K
 |0,i,hn,ht=>by
  refine Aky _ _ _ _ _ _ _ _ _ _ _ _ _ _ ⟨fun h=> ?_,fun _=>hT ?_⟩
  ·have:=of_decide_eq_true h
   rw [Ay]at this;omega
  ·rw [List.take_of_length_le (by omega),List.take_of_length_le (by omega)]at ht
   exact ht
 |n+1,i,hn,ht=>by
  have hia:i<a.d.length:=by omega
  have hib:i<b.d.length:=by omega
  have w:IntKind.i64.wrap ((i:Int)+1)=((i+1:Nat):Int):=by rw [Av _ (by omega) (by omega)];simp
  refine Aky _ _ _ _ _ _ _ _ _ _ _ _ _ _ ⟨fun _=> ?_,fun h=> ?_⟩
  ·rw [show(Bf a.d).getD (Int.toNat (i:Int)) []=Bc (Bo a.d i) from Tz _ _ hia,show(Bf b.d).getD (Int.toNat (i:Int)) []=Bc (Bo b.d i) from Tz _ _ hib,Mm,Mm,Ay,Ay]
   have g0:∀x:Pr,gS (Bc x) 0=x.1:=fun x=>by rw [Em];rfl
   rw [g0,g0]
   have ea:Bo a.d i=a.d[i]:=by simp [Bo,List.getD_eq_getElem?_getD,hia]
   have eb:Bo b.d i=b.d[i]:=by simp [Bo,List.getD_eq_getElem?_getD,hib]
   have ma:Bo a.d i∈a.d:=by rw [ea];exact List.getElem_mem hia
   have mb:Bo b.d i∈b.d:=by rw [eb];exact List.getElem_mem hib
   have r1:((0:Int)≤(i:Int)∧(i:Int)<(a.d.length:Int))∧Be [.str, .int .i64, .int .i64, .int .i64, .str, .sl 6 Aa, .sl 7 Ae] (Bc (Bo a.d i))=true:=⟨⟨by omega,by omega⟩,C9 _ _ _⟩
   have r2:((0:Int)≤(i:Int)∧(i:Int)<(b.d.length:Int))∧Be [.str, .int .i64, .int .i64, .int .i64, .str, .sl 6 Aa, .sl 7 Ae] (Bc (Bo b.d i))=true:=⟨⟨by omega,by omega⟩,C9 _ _ _⟩
   have ne:Bo a.d i≠Bo b.d i→a.d≠b.d:=fun h e=>h (by rw [e])
   have go:Bo a.d i=Bo b.d i→Yq i x0 x1 x2 xs x4 (Bf a.d) y0 y1 y2 ys y4 (Bf b.d) (Abs K):=by
    intro e
    refine A03 _ _ _ _ _ _ _ _ _ _ _ _ _ _ ?_
    rw [w]
    refine A4a _ _ _ _ _ _ _ _ _ _ _ _ _ _ (Btk a b hl hab ih _ _ _ _ _ _ _ _ _ _ K hF hT n (i+1) (by omega) ?_)
    rw [List.take_add_one,List.take_add_one,ht]
    congr 1
    rw [ea,eb]at e
    simp [hia,hib,e]
   refine⟨r1,⟨r2,⟨fun _=>r1,⟨fun _=>r2,⟨fun hk=> ?_,fun hk=> ?_⟩⟩⟩⟩⟩
   ·refine(ih _ ma _ mb).mono ?_
    rintro r h ⟨c,rfl,rfl,hc⟩
    refine⟨⟨rfl,rfl⟩,Let.intro ⟨fun hcf=> ?_,fun hct=> ?_⟩⟩
    ·have hcf:(!c)=true:=hcf
     refine hF (ne fun e=> ?_)
     have:c=true:=hc.2 (by rw [e])
     rw [this]at hcf;cases hcf
    ·have hct:(!c)=false:=hct
     refine go (Prod.ext ?_ ?_)
     ·simpa using hk
     ·exact hc.1 (by simpa using hct)
   ·refine⟨rfl,Let.intro ⟨fun _=>hF (ne fun e=> ?_),fun h=>absurd h (by decide)⟩⟩
    rw [e]at hk;simp at hk
  ·have:=of_decide_eq_false h
   rw [Ay]at this;omega
theorem Btl(a b:V)(hl:a.l.length≤1000000000000)(hab:a.l.length=b.l.length)(ih:∀p∈a.l,∀q∈b.l,EqAt p q)(x0 x1 x2 y0 y1 y2:Int)(xs ys:List UInt8)(x5 y5:List (List IV))(K:Ex→St→Prop)
 (hF:a.l≠b.l→K .ret ⟨[(4, .imm (.bool false))],[]⟩)(hT:a.l=b.l→K (.exit 0) ⟨[(2,(.ptr (Nm.loc (2:Nat)) 0)),(3,(.ptr (Nm.loc (3:Nat)) 0))],[((Nm.loc (2:Nat)),(.blk Aa [(.imm (.int .i64 x0)),(.imm (.int .i64 x1)),(.imm (.int .i64 x2)),(.imm (.str xs)),(.imm (.sl .any 6 (Il a.l))),(.imm (.sl .any 7 x5))])),((Nm.loc (3:Nat)),(.blk Aa [(.imm (.int .i64 y0)),(.imm (.int .i64 y1)),(.imm (.int .i64 y2)),(.imm (.str ys)),(.imm (.sl .any 6 (Il b.l))),(.imm (.sl .any 7 y5))]))]⟩):∀(n i:Nat),n+i=a.l.length→a.l.take i=b.l.take i→
 Abx i x0 x1 x2 xs (Il a.l) x5 y0 y1 y2 ys (Il b.l) y5 K
 |0,i,hn,ht=>by
  refine An1 _ _ _ _ _ _ _ _ _ _ _ _ _ _ ⟨fun h=> ?_,fun _=>hT ?_⟩
  ·have:=of_decide_eq_true h
   rw [Fy]at this;omega
  ·rw [List.take_of_length_le (by omega),List.take_of_length_le (by omega)]at ht
   exact ht
 |n+1,i,hn,ht=>by
  have hia:i<a.l.length:=by omega
  have hib:i<b.l.length:=by omega
  have w:IntKind.i64.wrap ((i:Int)+1)=((i+1:Nat):Int):=by rw [Av _ (by omega) (by omega)];simp
  refine An1 _ _ _ _ _ _ _ _ _ _ _ _ _ _ ⟨fun _=> ?_,fun h=> ?_⟩
  ·rw [show(Il a.l).getD (Int.toNat (i:Int)) []=(Nf a.l i).row from Z4 _ _ hia,show(Il b.l).getD (Int.toNat (i:Int)) []=(Nf b.l i).row from Z4 _ _ hib,Et,Et,Fy,Fy]
   have ea:Nf a.l i=a.l[i]:=by simp [Nf,List.getD_eq_getElem?_getD,hia]
   have eb:Nf b.l i=b.l[i]:=by simp [Nf,List.getD_eq_getElem?_getD,hib]
   have ma:Nf a.l i∈a.l:=by rw [ea];exact List.getElem_mem hia
   have mb:Nf b.l i∈b.l:=by rw [eb];exact List.getElem_mem hib
   have ne:Nf a.l i≠Nf b.l i→a.l≠b.l:=fun h e=>h (by rw [e])
   refine⟨⟨⟨by omega,by omega⟩,Z5 _ _ _⟩,⟨⟨⟨by omega,by omega⟩,Z5 _ _ _⟩, ?_⟩⟩
   refine(ih _ ma _ mb).mono ?_
   rintro r h ⟨c,rfl,rfl,hc⟩
   refine⟨⟨rfl,rfl⟩,⟨fun hcf=> ?_,fun hct=> ?_⟩⟩
   ·have hcf:(!c)=true:=hcf
    refine hF (ne fun e=> ?_)
    have:c=true:=hc.2 e
    rw [this]at hcf;cases hcf
   ·have hct:(!c)=false:=hct
    have e:=hc.1 (by simpa using hct)
    rw [w]
    refine Btl a b hl hab ih _ _ _ _ _ _ _ _ _ _ K hF hT n (i+1) (by omega) ?_
    rw [List.take_add_one,List.take_add_one,ht]
    congr 1
    rw [ea,eb]at e
    simp [hia,hib,e]
  ·have:=of_decide_eq_false h
   rw [Fy]at this;omega
theorem Buv(a:V)(ha:Fit a):∀b:V,EqAt a b:=by
 induction ha with
 |mk a h1 h2 _ _ ih1 ih2=>
  intro b
  show Call E0.P Ti [.imm (.agg a.row), .imm (.agg b.row)] [] _
  generalize hQ:EqR a b=Q
  have hT:a=b→Q (.imm (.bool true)) []:=fun h=>by rw [←hQ];exact⟨true,rfl,rfl,by simp [h]⟩
  have hF:a≠b→Q (.imm (.bool false)) []:=fun h=>by rw [←hQ];exact⟨false,rfl,rfl,by simp [h]⟩
  rw [Cn,Cn b]
  refine A9v _ _ _ _ _ _ _ _ _ _ _ _ _ (Let.intro (Let.intro (Let.intro (Let.intro (Let.intro ⟨fun h=> ?_,fun h=> ?_⟩)))))
  ·refine hF fun e=> ?_
   subst e
   simp at h
  ·simp only [Bool.cond_true_left,Bool.or_eq_false_iff,Bool.not_eq_false',decide_eq_true_eq,List.length_map]at h
   obtain⟨⟨⟨⟨⟨e1,e2⟩,e3⟩,e4⟩,e5⟩,e6⟩:=h
   have e4:a.s=b.s:=by simpa using e4
   have e5:a.l.length=b.l.length:=by omega
   have e6:a.d.length=b.d.length:=by omega
   refine Btl a b h1 e5 (fun p hp q _=>ih1 p hp q) _ _ _ _ _ _ _ _ _ _ _ (fun h=> ?_) (fun hl=> ?_) a.l.length 0 (by omega) rfl
   ·exact A35 _ _ (hF fun e=>h (by rw [e]))
   ·refine A36 _ _ _ _ _ _ _ _ _ _ _ _ _ (A02 _ _ _ _ _ _ _ _ _ _ _ _ _ ?_)
    refine Btk a b h2 e6 (fun p hp q _=>ih2 p hp q.2) _ _ _ _ _ _ _ _ _ _ _ (fun h=> ?_) (fun hd=> ?_) a.d.length 0 (by omega) rfl
    ·exact A38 _ _ (Anj _ _ (hF fun e=>h (by rw [e])))
    ·exact A39 _ (A04 _ (A37 _ _ (Anj _ _ (hT (V.ext e1 e2 e3 e4 hl hd)))))
end Go.Proofs.Sim.Se
namespace Go.Proofs.Sim.Se
open Go Go.Proofs Go.Proofs.Sim Go.Proofs.Sim.Va Go.Proofs.Sim.St
abbrev Z8(n:Int):Prop:= -9223372036854775808≤n∧n≤9223372036854775807
inductive Wf:V→Prop where
 |mk (v:V):Z8 v.k→Z8 v.n→Z8 v.g→v.s.length≤9223372036854775807→v.l.length≤9223372036854775807→v.d.length≤9223372036854775807→(∀x∈v.l,Wf x)→(∀p∈v.d,p.1.length≤9223372036854775807)→(∀p∈v.d,Wf p.2)→Wf v
def Ck:V→Nat
 | .mk k n g s l d=>1+(l.attach.map fun⟨v,_h⟩=>Ck v).sum+(d.attach.map fun⟨p,_h⟩=>Ck p.2).sum
 termination_by v=>SizeOf.sizeOf v
 decreasing_by
  ·exact Bcs _h
  ·exact Bcr _h
theorem Rb(v:V):Ck v=1+(v.l.map Ck).sum+(v.d.map fun p=>Ck p.2).sum:=by
 obtain⟨k,n,g,s,l,d⟩:=v
 rw [Ck]
 simp only [V.l,V.d]
 congr 1
 ·congr 2
  simp
 ·congr 1
  apply List.ext_getElem<;>simp
theorem As2(v:V):1≤Ck v:=by rw [Rb];omega
theorem Atv {α:Type} (f:α→Nat)(l:List α)(h:∀x∈l,1≤f x):l.length≤(l.map f).sum:=by
 induction l with
 |nil=>simp
 |cons x l ih=>
  have:=ih fun y hy=>h y (by simp [hy])
  have:=h x (by simp)
  simp;omega
theorem Atw {α:Type} (f:α→Nat)(l:List α)(x:α)(h:x∈l):f x≤(l.map f).sum:=by
 induction l with
 |nil=>simp at h
 |cons y l ih=>
  simp only [List.map_cons,List.sum_cons]
  rcases List.mem_cons.1 h with rfl |h
  ·omega
  ·have:=ih h;omega
theorem Ag0(n:Nat)(hn:n≤1000000000000):∀(m:Nat) (v:V),SizeOf.sizeOf v≤m→Ck v≤n→Fit v:=by
 intro m
 induction m with
 |zero=>intro v h;exact absurd h (by cases v;simp)
 |succ m ih=>
  intro v hm hv
  have he:=Rb v
  have h1:=Atv Ck v.l fun x _=>As2 x
  have h2:=Atv (fun p:Pr=>Ck p.2) v.d fun x _=>As2 x.2
  refine .mk v (by omega) (by omega) (fun x hx=> ?_) (fun p hp=> ?_)
  ·have:=Atw Ck v.l x hx
   obtain⟨k,n',g,s,l,d⟩:=v
   have:=Bcs (k:=k) (n:=n') (g:=g) (s:=s) (d:=d) (show x∈l from hx)
   exact ih x (by omega) (by omega)
  ·have:=Atw (fun p:Pr=>Ck p.2) v.d p hp
   obtain⟨k,n',g,s,l,d⟩:=v
   have:=Bcr (k:=k) (n:=n') (g:=g) (s:=s) (l:=l) (show p∈d from hp)
   exact ih p.2 (by omega) (by omega)
theorem bAT {p q:Prop} {i:Decidable p} {j:Decidable q} (h:(bif @decide p i then @decide q j else false)=true):p∧q:=by
 by_cases hp:p<;>by_cases hq:q<;>simp_all
theorem bAF {p q:Prop} {i:Decidable p} {j:Decidable q} (h:(bif @decide p i then @decide q j else false)=false):¬(p∧q):=by
 by_cases hp:p<;>by_cases hq:q<;>simp_all
abbrev A8b(v:V):Prop:=∀m:Nat,1≤m→m≤4611686018427387905→Call E0.P Abe [.imm (.agg v.row), .imm (.int .i64 m)] [] (Is (.imm (.int .i64 (min (Ck v) m:Nat))) [])
theorem Bi5 {α:Type} (f:α→Nat)(l:List α)(i:Nat)(h:i<l.length):((l.drop i).map f).sum=f l[i]+((l.drop (i+1)).map f).sum:=by
 rw [Bot l i h,List.map_cons,List.sum_cons]
theorem Buq(v:V)(hl:v.l.length≤9223372036854775807)(ih:∀x∈v.l,A8b x)(m:Nat)(hm:m≤4611686018427387905)(x0 x1 x2:Int)(xs:List UInt8)(x5:List (List IV))(K:Ex→St→Prop)(N:Nat)
 (hE:K (.exit 0) ⟨[(1,(.imm (.int .i64 m))),(2,(.ptr (Nm.loc (2:Nat)) 0)),(5,(.imm (.int .i64 (min N m:Nat))))],[((Nm.loc (2:Nat)),(.blk Aa [(.imm (.int .i64 x0)),(.imm (.int .i64 x1)),(.imm (.int .i64 x2)),(.imm (.str xs)),(.imm (.sl .any 6 (Il v.l))),(.imm (.sl .any 7 x5))]))]⟩):
 ∀(f n i:Nat),f+i=v.l.length→1≤n→n≤m→min (n+((v.l.drop i).map Ck).sum) m=min N m→X7 m n i x0 x1 x2 xs (Il v.l) x5 K:=by
 intro f
 induction f with
 |zero=>
  intro n i hf h1 h2 hN
  refine Ap5 _ _ _ _ _ _ _ _ _ _ (Let.intro ⟨fun h=> ?_,fun _=> ?_⟩)
  ·have h:=bAT h
   have:=h.1
   rw [Fy]at this;omega
  ·rw [List.drop_of_length_le (by omega)]at hN
   simp only [List.map_nil,List.sum_nil,Nat.add_zero]at hN
   have e:n=min N m:=by omega
   rw [e];exact hE
 |succ f ihf=>
  intro n i hf h1 h2 hN
  have hlt:i<v.l.length:=by omega
  have hv:Nf v.l i=v.l[i]:=by simp [Nf,List.getD_eq_getElem?_getD,hlt]
  refine Ap5 _ _ _ _ _ _ _ _ _ _ (Let.intro ⟨fun h=> ?_,fun h=> ?_⟩)
  ·have h:=bAT h
   have hnm:n<m:=by have:=h.2;omega
   rw [show(Il v.l).getD (Int.toNat (i:Int)) []=(Nf v.l i).row from Z4 _ _ hlt,Et,Fy]
   refine⟨⟨⟨by omega,by omega⟩,Z5 _ _ _⟩, ?_⟩
   have w1:IntKind.i64.wrap ((m:Int) - n)=((m - n:Nat):Int):=by rw [Av _ (by omega) (by omega)];omega
   have w2:IntKind.i64.wrap ((i:Int)+1)=((i+1:Nat):Int):=by rw [Av _ (by omega) (by omega)];simp
   rw [w1,w2]
   have hx:Nf v.l i∈v.l:=by rw [hv];exact List.getElem_mem hlt
   refine Call.use (ih _ hx (m - n) (by omega) (by omega)) ⟨⟨rfl,rfl⟩, ?_⟩
   rw [Bi5 _ _ _ hlt, ←hv]at hN
   generalize Ck (Nf v.l i)=c at*
   show X7 _ (IntKind.i64.wrap ((n:Int)+((min c (m - n):Nat):Int))) _ _ _ _ _ _ _ _
   have w3:IntKind.i64.wrap ((n:Int)+((min c (m - n):Nat):Int))=((n+min c (m - n):Nat):Int):=by rw [Av _ (by omega) (by omega)];simp
   rw [w3]
   exact ihf _ (i+1) (by omega) (by omega) (by omega) (by omega)
  ·have hnm:¬n<m:=by
    intro c
    have h:=bAF h
    rw [Fy]at h
    exact h ⟨by omega,by omega⟩
   have e:n=min N m:=by omega
   rw [e];exact hE
theorem Bur(v:V)(hl:v.d.length≤9223372036854775807)(ih:∀x∈v.d,A8b x.2)(m:Nat)(hm:m≤4611686018427387905)(x0 x1 x2:Int)(xs:List UInt8)(x4:List (List IV))(K:Ex→St→Prop)(N:Nat)
 (hE:K (.exit 2) ⟨[(5,(.imm (.int .i64 (min N m:Nat))))],[]⟩):
 ∀(f n i:Nat),f+i=v.d.length→1≤n→n≤m→min (n+((v.d.drop i).map fun p=>Ck p.2).sum) m=min N m→Vs m n i x0 x1 x2 xs x4 (Bf v.d) K:=by
 intro f
 induction f with
 |zero=>
  intro n i hf h1 h2 hN
  refine An4 _ _ _ _ _ _ _ _ _ _ (Let.intro ⟨fun h=> ?_,fun _=> ?_⟩)
  ·have h:=bAT h
   have:=h.1
   rw [Ay]at this;omega
  ·rw [List.drop_of_length_le (by omega)]at hN
   simp only [List.map_nil,List.sum_nil,Nat.add_zero]at hN
   have e:n=min N m:=by omega
   rw [e];exact hE
 |succ f ihf=>
  intro n i hf h1 h2 hN
  have hlt:i<v.d.length:=by omega
  have hv:Bo v.d i=v.d[i]:=by simp [Bo,List.getD_eq_getElem?_getD,hlt]
  refine An4 _ _ _ _ _ _ _ _ _ _ (Let.intro ⟨fun h=> ?_,fun h=> ?_⟩)
  ·have h:=bAT h
   have hnm:n<m:=by have:=h.2;omega
   rw [show(Bf v.d).getD (Int.toNat (i:Int)) []=Bc (Bo v.d i) from Tz _ _ hlt,Mm,Ay]
   refine⟨⟨⟨by omega,by omega⟩,C9 _ _ _⟩, ?_⟩
   have w1:IntKind.i64.wrap ((m:Int) - n)=((m - n:Nat):Int):=by rw [Av _ (by omega) (by omega)];omega
   have w2:IntKind.i64.wrap ((i:Int)+1)=((i+1:Nat):Int):=by rw [Av _ (by omega) (by omega)];simp
   rw [w1,w2]
   have hx:Bo v.d i∈v.d:=by rw [hv];exact List.getElem_mem hlt
   refine Call.use (ih _ hx (m - n) (by omega) (by omega)) ⟨⟨rfl,rfl⟩, ?_⟩
   rw [Bi5 _ _ _ hlt, ←hv]at hN
   generalize Ck (Bo v.d i).2=c at*
   show Vs _ (IntKind.i64.wrap ((n:Int)+((min c (m - n):Nat):Int))) _ _ _ _ _ _ _ _
   have w3:IntKind.i64.wrap ((n:Int)+((min c (m - n):Nat):Int))=((n+min c (m - n):Nat):Int):=by rw [Av _ (by omega) (by omega)];simp
   rw [w3]
   exact ihf _ (i+1) (by omega) (by omega) (by omega) (by omega)
  ·have hnm:¬n<m:=by
    intro c
    have h:=bAF h
    rw [Ay]at h
    exact h ⟨by omega,by omega⟩
   have e:n=min N m:=by omega
   rw [e];exact hE
theorem Bx0(v:V)(hv:Wf v):A8b v:=by
 induction hv with
 |mk v _ _ _ _ h1 h2 _ _ _ ih1 ih2=>
  intro m hm hm2
  have he:=Rb v
  have ih2:∀p∈v.d,A8b p.2:=fun p hp=>(ih2 p hp)
  generalize hQ:Is (.imm (.int .i64 ((min (Ck v) m:Nat):Int))) []=Q
  have hq:Q (.imm (.int .i64 ((min (Ck v) m:Nat):Int))) []:=by rw [←hQ];exact⟨rfl,rfl⟩
  rw [Cn]
  refine Bdz _ _ _ _ _ _ _ _ ?_
  refine Buq v h1 ih1 m hm2 _ _ _ _ _ _ (1+(v.l.map Ck).sum) (A7p _ _ _ _ _ _ _ _ _ (A6p _ _ _ _ _ _ _ _ _ ?_)) v.l.length 1 0 rfl (by omega) hm (by simp)
  refine Bur v h2 ih2 m hm2 _ _ _ _ _ _ (Ck v) (A7r _ _ (A24 _ _ (A7q _ _ (A7o _ _ hq)))) v.d.length _ 0 rfl (by omega) (by omega) ?_
  rw [he]
  simp only [List.drop_zero]
  omega
end Go.Proofs.Sim.Se
namespace Go.Proofs.Sim.Se
open Go Go.Proofs Go.Proofs.Sim Go.Proofs.Sim.Va Go.Proofs.Sim.St
def Gd(p:Prop)(r:AV)(h:Heap):Prop:=∃c:Bool,r= .imm (.bool c)∧h=[]∧(c=true→p)
theorem Aoo {P:Program} {f:Nat} {args:List AV} {p:Prop} {Q:AV→Heap→Prop} (hc:Call P f args [] (Gd p))(h:∀c:Bool,(c=true→p)→Q (.imm (.bool c)) []):Call P f args [] Q:=
 hc.mono fun r g ⟨c,e1,e2,e3⟩=>by subst e1 e2;exact h c e3
inductive Aj7:Int→V→Prop where
 |mk (m:Int) (v:V):0≤m→(∀x∈v.l,Aj7 (m - 1) x)→(∀p∈v.d,Aj7 (m - 1) p.2)→Aj7 m v
inductive Vv:Int→V→Prop where
 |mk (m:Int) (v:V):v.s.length≤m→(∀x∈v.l,Vv m x)→(∀p∈v.d,p.1.length≤m)→(∀p∈v.d,Vv m p.2)→Vv m v
abbrev Be9(v:V):Prop:=∀m:Int, -1≤m→m≤1000000→Call E0.P Afd [.imm (.agg v.row), .imm (.int .i64 m)] [] (Gd (Aj7 m v))
abbrev A0a(v:V):Prop:=∀m:Int,Call E0.P Tj [.imm (.agg v.row), .imm (.int .i64 m)] [] (Gd (Vv m v))
theorem Aob {α:Type} {P:α→Prop} (l:List α)(i:Nat)(h:i<l.length)(ha:∀x∈l.take i,P x)(hx:P l[i]):∀x∈l.take (i+1),P x:=by
 intro x h'
 rw [List.take_add_one]at h'
 rcases List.mem_append.1 h' with h' |h'
 ·exact ha x h'
 ·simp [h]at h';rw [h'];exact hx
theorem Bxc(v:V)(hl:v.l.length≤9223372036854775807)(ih:∀x∈v.l,Be9 x)(m:Int)(hm0:0≤m)(hm:m≤1000000)(x0 x1 x2:Int)(xs:List UInt8)(x5:List (List IV))(K:Ex→St→Prop)
 (hF:K .ret ⟨[(4, .imm (.bool false))],[]⟩)
 (hE:(∀x∈v.l,Aj7 (m - 1) x)→K (.exit 0) ⟨[(1,(.imm (.int .i64 m))),(2,(.ptr (Nm.loc (2:Nat)) 0))],[((Nm.loc (2:Nat)),(.blk Aa [(.imm (.int .i64 x0)),(.imm (.int .i64 x1)),(.imm (.int .i64 x2)),(.imm (.str xs)),(.imm (.sl .any 6 (Il v.l))),(.imm (.sl .any 7 x5))]))]⟩):
 ∀(f i:Nat),f+i=v.l.length→(∀x∈v.l.take i,Aj7 (m - 1) x)→Aht m i x0 x1 x2 xs (Il v.l) x5 K:=by
 intro f
 induction f with
 |zero=>
  intro i hf ha
  refine Asq _ _ _ _ _ _ _ _ _ ⟨fun h=> ?_,fun _=>hE ?_⟩
  ·have:=of_decide_eq_true h
   rw [Fy]at this;omega
  ·rw [List.take_of_length_le (by omega)]at ha;exact ha
 |succ f ihf=>
  intro i hf ha
  have hlt:i<v.l.length:=by omega
  have hv:Nf v.l i=v.l[i]:=by simp [Nf,List.getD_eq_getElem?_getD,hlt]
  refine Asq _ _ _ _ _ _ _ _ _ ⟨fun h=> ?_,fun h=> ?_⟩
  ·rw [show(Il v.l).getD (Int.toNat (i:Int)) []=(Nf v.l i).row from Z4 _ _ hlt,Et,Fy]
   refine⟨⟨⟨by omega,by omega⟩,Z5 _ _ _⟩, ?_⟩
   have w1:IntKind.i64.wrap (m - 1)=m - 1:=Av _ (by omega) (by omega)
   have w2:IntKind.i64.wrap ((i:Int)+1)=((i+1:Nat):Int):=by rw [Av _ (by omega) (by omega)];simp
   rw [w1,w2]
   refine Aoo (ih _ (by rw [hv];exact List.getElem_mem hlt) (m - 1) (by omega) (by omega)) fun c hc=>⟨⟨rfl,rfl⟩,⟨fun _=>hF,fun h=> ?_⟩⟩
   have h:(!c)=false:=h
   exact ihf (i+1) (by omega) (Aob _ _ hlt ha (by rw [←hv];exact hc (by simpa using h)))
  ·have:=of_decide_eq_false h
   rw [Fy]at this;omega
theorem Bxd(v:V)(hl:v.d.length≤9223372036854775807)(ih:∀x∈v.d,Be9 x.2)(m:Int)(hm0:0≤m)(hm:m≤1000000)(x0 x1 x2:Int)(xs:List UInt8)(x4:List (List IV))(K:Ex→St→Prop)
 (hF:K .ret ⟨[(4, .imm (.bool false))],[]⟩)(hE:(∀x∈v.d,Aj7 (m - 1) x.2)→K (.exit 2) ⟨[],[]⟩):
 ∀(f i:Nat),f+i=v.d.length→(∀x∈v.d.take i,Aj7 (m - 1) x.2)→Aen m i x0 x1 x2 xs x4 (Bf v.d) K:=by
 intro f
 induction f with
 |zero=>
  intro i hf ha
  refine Ap4 _ _ _ _ _ _ _ _ _ ⟨fun h=> ?_,fun _=>hE ?_⟩
  ·have:=of_decide_eq_true h
   rw [Ay]at this;omega
  ·rw [List.take_of_length_le (by omega)]at ha;exact ha
 |succ f ihf=>
  intro i hf ha
  have hlt:i<v.d.length:=by omega
  have hv:Bo v.d i=v.d[i]:=by simp [Bo,List.getD_eq_getElem?_getD,hlt]
  refine Ap4 _ _ _ _ _ _ _ _ _ ⟨fun h=> ?_,fun h=> ?_⟩
  ·rw [show(Bf v.d).getD (Int.toNat (i:Int)) []=Bc (Bo v.d i) from Tz _ _ hlt,Mm,Ay]
   refine⟨⟨⟨by omega,by omega⟩,C9 _ _ _⟩, ?_⟩
   have w1:IntKind.i64.wrap (m - 1)=m - 1:=Av _ (by omega) (by omega)
   have w2:IntKind.i64.wrap ((i:Int)+1)=((i+1:Nat):Int):=by rw [Av _ (by omega) (by omega)];simp
   rw [w1,w2]
   refine Aoo (ih _ (by rw [hv];exact List.getElem_mem hlt) (m - 1) (by omega) (by omega)) fun c hc=>⟨⟨rfl,rfl⟩,⟨fun _=>hF,fun h=> ?_⟩⟩
   have h:(!c)=false:=h
   exact ihf (i+1) (by omega) (Aob (P:=fun x:Pr=>Aj7 (m - 1) x.2) _ _ hlt ha (by rw [←hv];exact hc (by simpa using h)))
  ·have:=of_decide_eq_false h
   rw [Ay]at this;omega
theorem Bzp(v:V)(hv:Wf v):Be9 v:=by
 induction hv with
 |mk v _ _ _ _ h1 h2 _ _ _ ih1 ih2=>
  intro m hm0 hm
  have ih2:∀p∈v.d,Be9 p.2:=fun p hp=>(ih2 p hp)
  generalize hQ:Gd (Aj7 m v)=Q
  have hF:Q (.imm (.bool false)) []:=by rw [←hQ];exact⟨false,rfl,rfl,fun h=>by cases h⟩
  have hT:Aj7 m v→Q (.imm (.bool true)) []:=fun h=>by rw [←hQ];exact⟨true,rfl,rfl,fun _=>h⟩
  rw [Cn]
  refine Bft _ _ _ _ _ _ _ _ ⟨fun _=>hF,fun h=> ?_⟩
  have hm0:0≤m:=by have:=of_decide_eq_false h;omega
  refine Bxc v h1 ih1 m hm0 hm _ _ _ _ _ _ (Bai _ _ hF) (fun a1=>Baj _ _ _ _ _ _ _ _ (A6k _ _ _ _ _ _ _ _ ?_)) v.l.length 0 rfl (by simp)
  exact Bxd v h2 ih2 m hm0 hm _ _ _ _ _ _ (Bal _ _ (Asg _ _ hF)) (fun a2=>Bam _ (A6l _ (Bak _ _ (Asg _ _ (hT (.mk m v hm0 a1 a2)))))) v.d.length 0 rfl (by simp)
theorem Bqv(v:V)(hl:v.l.length≤9223372036854775807)(ih:∀x∈v.l,A0a x)(m:Int)(x0 x1 x2:Int)(xs:List UInt8)(x5:List (List IV))(K:Ex→St→Prop)
 (hF:K .ret ⟨[(4, .imm (.bool false))],[]⟩)
 (hE:(∀x∈v.l,Vv m x)→K (.exit 0) ⟨[(1,(.imm (.int .i64 m))),(2,(.ptr (Nm.loc (2:Nat)) 0))],[((Nm.loc (2:Nat)),(.blk Aa [(.imm (.int .i64 x0)),(.imm (.int .i64 x1)),(.imm (.int .i64 x2)),(.imm (.str xs)),(.imm (.sl .any 6 (Il v.l))),(.imm (.sl .any 7 x5))]))]⟩):
 ∀(f i:Nat),f+i=v.l.length→(∀x∈v.l.take i,Vv m x)→Abz m i x0 x1 x2 xs (Il v.l) x5 K:=by
 intro f
 induction f with
 |zero=>
  intro i hf ha
  refine An3 _ _ _ _ _ _ _ _ _ ⟨fun h=> ?_,fun _=>hE ?_⟩
  ·have:=of_decide_eq_true h
   rw [Fy]at this;omega
  ·rw [List.take_of_length_le (by omega)]at ha;exact ha
 |succ f ihf=>
  intro i hf ha
  have hlt:i<v.l.length:=by omega
  have hv:Nf v.l i=v.l[i]:=by simp [Nf,List.getD_eq_getElem?_getD,hlt]
  refine An3 _ _ _ _ _ _ _ _ _ ⟨fun h=> ?_,fun h=> ?_⟩
  ·rw [show(Il v.l).getD (Int.toNat (i:Int)) []=(Nf v.l i).row from Z4 _ _ hlt,Et,Fy]
   refine⟨⟨⟨by omega,by omega⟩,Z5 _ _ _⟩, ?_⟩
   have w2:IntKind.i64.wrap ((i:Int)+1)=((i+1:Nat):Int):=by rw [Av _ (by omega) (by omega)];simp
   rw [w2]
   refine Aoo (ih _ (by rw [hv];exact List.getElem_mem hlt) m) fun c hc=>⟨⟨rfl,rfl⟩,⟨fun _=>hF,fun h=> ?_⟩⟩
   have h:(!c)=false:=h
   exact ihf (i+1) (by omega) (Aob _ _ hlt ha (by rw [←hv];exact hc (by simpa using h)))
  ·have:=of_decide_eq_false h
   rw [Fy]at this;omega
theorem Bqw(v:V)(hl:v.d.length≤9223372036854775807)(ih:∀x∈v.d,A0a x.2)(m:Int)(x0 x1 x2:Int)(xs:List UInt8)(x4:List (List IV))(K:Ex→St→Prop)
 (hF:K .ret ⟨[(4, .imm (.bool false))],[]⟩)(hE:(∀x∈v.d,((x.1.length:Nat):Int)≤m∧Vv m x.2)→K (.exit 2) ⟨[],[]⟩):
 ∀(f i:Nat),f+i=v.d.length→(∀x∈v.d.take i,((x.1.length:Nat):Int)≤m∧Vv m x.2)→Ze m i x0 x1 x2 xs x4 (Bf v.d) K:=by
 intro f
 induction f with
 |zero=>
  intro i hf ha
  refine Ak1 _ _ _ _ _ _ _ _ _ ⟨fun h=> ?_,fun _=>hE ?_⟩
  ·have:=of_decide_eq_true h
   rw [Ay]at this;omega
  ·rw [List.take_of_length_le (by omega)]at ha;exact ha
 |succ f ihf=>
  intro i hf ha
  have hlt:i<v.d.length:=by omega
  have hv:Bo v.d i=v.d[i]:=by simp [Bo,List.getD_eq_getElem?_getD,hlt]
  refine Ak1 _ _ _ _ _ _ _ _ _ ⟨fun h=> ?_,fun h=> ?_⟩
  ·have g0:∀x:Pr,gS (Bc x) 0=x.1:=fun x=>by rw [Em];rfl
   rw [show(Bf v.d).getD (Int.toNat (i:Int)) []=Bc (Bo v.d i) from Tz _ _ hlt,Mm,g0,Ay]
   have rng:((0:Int)≤(i:Int)∧(i:Int)<(v.d.length:Int))∧Be [.str, .int .i64, .int .i64, .int .i64, .str, .sl 6 Aa, .sl 7 Ae] (Bc (Bo v.d i))=true:=⟨⟨by omega,by omega⟩,C9 _ _ _⟩
   refine⟨rng,⟨fun _=>rng,⟨fun hk=> ?_,fun _=>⟨rfl,Let.intro ⟨fun _=>hF,fun h=>absurd h (by decide)⟩⟩⟩⟩⟩
   have w2:IntKind.i64.wrap ((i:Int)+1)=((i+1:Nat):Int):=by rw [Av _ (by omega) (by omega)];simp
   refine Aoo (ih _ (by rw [hv];exact List.getElem_mem hlt) m) fun c hc=>⟨⟨rfl,rfl⟩,Let.intro ⟨fun _=>hF,fun h=> ?_⟩⟩
   have h:(!c)=false:=h
   have hk:((Bo v.d i).1.length:Int)≤m:=by
    have:decide (m<((Bo v.d i).1.length:Int))=false:=by simpa using hk
    have:=of_decide_eq_false this
    omega
   refine A09 _ _ _ _ _ _ _ _ _ ?_
   rw [w2]
   refine A4q _ _ _ _ _ _ _ _ _ (ihf (i+1) (by omega) (Aob (P:=fun x:Pr=>((x.1.length:Nat):Int)≤m∧Vv m x.2) _ _ hlt ha ?_))
   rw [←hv]
   exact⟨hk,hc (by simpa using h)⟩
  ·have:=of_decide_eq_false h
   rw [Ay]at this;omega
theorem Bva(v:V)(hv:Wf v):A0a v:=by
 induction hv with
 |mk v _ _ _ _ h1 h2 _ _ _ ih1 ih2=>
  intro m
  have ih2:∀p∈v.d,A0a p.2:=fun p hp=>(ih2 p hp)
  generalize hQ:Gd (Vv m v)=Q
  have hF:Q (.imm (.bool false)) []:=by rw [←hQ];exact⟨false,rfl,rfl,fun h=>by cases h⟩
  have hT:Vv m v→Q (.imm (.bool true)) []:=fun h=>by rw [←hQ];exact⟨true,rfl,rfl,fun _=>h⟩
  rw [Cn]
  refine A9y _ _ _ _ _ _ _ _ ⟨fun _=>hF,fun h=> ?_⟩
  have hs:v.s.length≤m:=by have:=of_decide_eq_false h;omega
  refine Bqv v h1 ih1 m _ _ _ _ _ _ (A4l _ _ hF) (fun a1=>A4m _ _ _ _ _ _ _ _ (A08 _ _ _ _ _ _ _ _ ?_)) v.l.length 0 rfl (by simp)
  exact Bqw v h2 ih2 m _ _ _ _ _ _ (A4o _ _ (Anl _ _ hF)) (fun a2=>A4p _ (A1a _ (A4n _ _ (Anl _ _ (hT (.mk m v hs a1 (fun p hp=>(a2 p hp).1) (fun p hp=>(a2 p hp).2))))))) v.d.length 0 rfl (by simp)
structure Bqs (n:Nat) (v:V):Prop where
 c:Ck v≤n
 l:Aj7 200 v
 s:Vv 3000 v
theorem Bzm(v:V)(hv:Wf v)(n:Nat)(hn:n≤1000000):Call E0.P Aut [.imm (.agg v.row), .imm (.int .i64 n)] [] (Gd (Bqs n v)):=by
 have a1:=Bx0 v hv (n+1) (by omega) (by omega)
 have a2:=Bzp v hv 200 (by omega) (by omega)
 have a3:=Bva v hv 3000
 generalize hQ:Gd (Bqs n v)=Q
 have hF:Q (.imm (.bool false)) []:=by rw [←hQ];exact⟨false,rfl,rfl,fun h=>by cases h⟩
 have hT:∀c:Bool,(c=true→Bqs n v)→Q (.imm (.bool c)) []:=fun c h=>by rw [←hQ];exact⟨c,rfl,rfl,h⟩
 rw [Cn]at a1 a2 a3 ⊢
 have w:IntKind.i64.wrap ((n:Int)+1)=((n+1:Nat):Int):=by rw [Av _ (by omega) (by omega)];simp
 refine Bfr _ _ _ _ _ _ _ _ ?_
 rw [w]
 refine Call.use a1 ⟨⟨rfl,rfl⟩,⟨fun h=> ?_,fun _=> ?_⟩⟩
 ·have hc:Ck v≤n:=by
   have h:(decide (((min (Ck v) (n+1):Nat):Int)≤(n:Int)) == true)=true:=h
   have:((min (Ck v) (n+1):Nat):Int)≤(n:Int):=by simpa using h
   omega
  refine Aoo a2 fun c2 h2=>⟨⟨rfl,rfl⟩,Let.intro ⟨fun e2=> ?_,fun _=>⟨rfl,Let.intro hF⟩⟩⟩
  have e2:c2=true:=by have e2:(c2 == true)=true:=e2;simpa using e2
  exact Aoo a3 fun c3 h3=>⟨⟨rfl,rfl⟩,Let.intro (hT c3 fun e3=>⟨hc,h2 e2,h3 e3⟩)⟩
 ·exact⟨rfl,Let.intro ⟨fun h=>absurd h (by decide),fun _=>⟨rfl,Let.intro hF⟩⟩⟩
end Go.Proofs.Sim.Se

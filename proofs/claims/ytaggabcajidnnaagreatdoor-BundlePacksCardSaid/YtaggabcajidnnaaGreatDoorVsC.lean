import Derived.Test.YtaggabcajidnnaaGreatDoorVsB
namespace Go.Proofs.Sim.Se
open Go Go.Proofs Go.Proofs.Sim Go.Proofs.Sim.Va Go.Proofs.Sim.St
theorem Bue {α:Type} {v:α} {k:α→Prop} (h:k v):Let v k:=⟨fun _x hx=>hx ▸ h⟩
theorem cmp_eq(a b:Ky):decide (Z6 a b=0)=decide (a=b):=by
 unfold Z6
 cases h:Op.bytesLess a b with
 |true=>
  have:a≠b:=fun e=>by rw [e,A49]at h;cases h
  simp [this]
 |false=>by_cases e:a=b<;>simp [e]
def Found(D:List Pr)(k:Ky)(r:AV)(h:Heap):Prop:=∃(t:Nat) (b:Bool),r= .tup [.imm (.int .i64 t), .imm (.bool b)]∧h=[]∧t≤D.length∧(b=true→t<D.length∧(Bq D t).1=k)∧(b=false→Fe pk k D=[])
theorem Bwh(D:List Pr)(k:Ky)(n:Int)(K:Ex→St→Prop)(hL:Sm D):∀(f s r:Nat),r - s≤f→s≤r→r≤D.length→
 (∀t,s≤t→t≤r→(s<t→bl (Bq D (t - 1)).1 k=true)→(t<r→bl (Bq D t).1 k=false)→K (.exit 0) ⟨[(0, .imm (.sl .any 7 (Bj D))),(1, .imm (.str k)),(2, .fn Eo []),(8, .imm (.int .i64 n)),(9, .imm (.int .i64 t))],[]⟩)→
 Dr (Bj D) k n s r K:=by
 intro f
 induction f with
 |zero=>
  intro s r hf hsr hr hq
  refine Jv _ _ _ _ _ _ ⟨fun h=> ?_,fun _=> ?_⟩
  ·have:=of_decide_eq_true h;omega
  ·exact hq s (Nat.le_refl _) hsr (fun h=>by omega) (fun h=>by omega)
 |succ f ih=>
  intro s r hf hsr hr hq
  have hL':D.length≤4611686018427387904:=hL
  refine Jv _ _ _ _ _ _ ⟨fun h=> ?_,fun h=> ?_⟩
  ·have hlt:s<r:=by have:=of_decide_eq_true h;omega
   rw [half s r (by omega)]
   have hc1:(s+r) / 2<r:=by omega
   have hc2:s≤(s+r) / 2:=by omega
   generalize (s+r) / 2=c at hc1 hc2
   have w:IntKind.i64.wrap ((c:Int)+1)=((c+1:Nat):Int):=by rw [Bc _ (by omega) (by omega)];simp
   rw [w]
   simp only [Int.toNat_natCast]
   have e:(Bj D).getD c []=Bl (Bq D c):=by simp [List.getD_eq_getElem?_getD,show c<D.length by omega]
   rw [e,Eu]
   refine⟨by decide,⟨⟨⟨by omega,by rw [A9];omega⟩,Dp _ _ _⟩, ?_⟩⟩
   refine Call.use (Bgm _ _) ⟨⟨rfl,rfl⟩, ?_⟩
   show Br (decide (Z6 (Bq D c).1 k<0)) _ _
   rw [Aqx]
   refine⟨fun hb=> ?_,fun hb=> ?_⟩
   ·refine ih (c+1) r (by omega) (by omega) hr fun t h1 h2 h3 h4=>hq t (by omega) h2 (fun _=> ?_) h4
    by_cases e:t=c+1
    ·subst e;exact hb
    ·exact h3 (by omega)
   ·refine ih s c (by omega) (by omega) (by omega) fun t h1 h2 h3 h4=>hq t h1 (by omega) h3 (fun _=> ?_)
    by_cases e:t=c
    ·subst e;exact hb
    ·exact h4 (by omega)
  ·have:=of_decide_eq_false h
   exact hq s (Nat.le_refl _) hsr (fun h=>by omega) (fun h=>by omega)
theorem Bwj(D:List Pr)(k:Ky)(hD:D6 D)(hL:Sm D):Call E0.P Hw [.imm (.sl .any 7 (Bj D)), .imm (.str k), .fn Eo []] [] (Found D k):=by
 refine Ur _ _ _ ?_
 have hL':D.length≤4611686018427387904:=hL
 have hl:=A9 D
 rw [hl]
 refine Bwh D k _ _ hL D.length 0 D.length (by omega) (by omega) (by omega) fun t _ h2 h3 h4=> ?_
 have none:(t<D.length→(Bq D t).1≠k)→Fe pk k D=[]:=by
  intro hne
  refine Ab4 fun p hp hpk=> ?_
  have hpk:p.1=k:=hpk
  obtain⟨i,hi,rfl⟩:=Bd2 hp
  by_cases hit:i<t
  ·have a1:=h3 (by omega)
   have a2:=sorted_at hD i (t - 1) (by omega) (by omega)
   have:=Bii a2 a1
   rw [hpk]at this
   exact absurd (this.symm.trans (A49 k)) (by decide)
  ·have htl:t<D.length:=by omega
   have a1:=h4 htl
   have a2:=sorted_at hD t i (by omega) hi
   rw [hpk]at a2
   exact hne htl (ordK.tot _ _ a1 a2)
 refine Su _ _ _ _ _ (Sk _ _ _ _ _ ?_)
 simp only [Int.toNat_natCast]
 have e:∀(_:t<D.length),(Bj D).getD t []=Bl (Bq D t):=fun h=>by simp [List.getD_eq_getElem?_getD,h]
 refine⟨fun h=> ?_,⟨fun h=> ?_,fun h=> ?_⟩⟩
 ·have h:t<D.length:=by have:=of_decide_eq_true h;omega
  rw [e h]
  exact⟨⟨by omega,by rw [hl];omega⟩,Dp _ _ _⟩
 ·have h:t<D.length:=by
   have:decide ((t:Int)<(D.length:Int))=true:=by simpa using h
   have:=of_decide_eq_true this;omega
  rw [e h,Eu]
  refine Call.use (Bgm _ _) ⟨⟨rfl,rfl⟩, ?_⟩
  show Let (decide (Z6 (Bq D t).1 k=0)) _
  rw [cmp_eq]
  exact Bue (Js (Found D k) _ _ ⟨t,_,rfl,rfl,h2,fun hb=>⟨h,of_decide_eq_true hb⟩,fun hb=>none fun _=>of_decide_eq_false hb⟩)
 ·have h:¬t<D.length:=by
   have:decide ((t:Int)<(D.length:Int))=false:=by simpa using h
   have:=of_decide_eq_false this;omega
  refine⟨by decide, ?_⟩
  exact Bue (Js (Found D k) _ _ ⟨t,false,rfl,rfl,h2,fun hb=>absurd hb (by decide),fun _=>none fun c=>absurd c h⟩)
theorem Bqq(D:List Pr)(k:Ky)(hD:D6 D)(hL:Sm D):Call E0.P Aft [.imm (.sl .any 7 (Bj D)), .imm (.str k)] [] (Found D k):=by
 refine A1b _ _ _ ?_
 refine(Bwj D k hD hL).mono ?_
 rintro r h ⟨t,b,rfl,rfl,h2⟩
 exact⟨⟨rfl,rfl⟩,⟨t,b,rfl,rfl,h2⟩⟩
theorem Bi3(d:List Pr):D6 (R3 d):=(Apq (Iu d)).sublist (List.filter_sublist)
theorem Bv4(k n g:Int)(s:List UInt8)(l:List V)(d:List Pr):(X7 k n g s l d).d=[]∨(X7 k n g s l d).d=(uniq d).filter Nl:=by
 unfold X7
 split
 ·exact .inl rfl
 split
 ·exact .inl rfl
 split
 ·exact .inl rfl
 split
 ·exact .inr rfl
 split
 ·exact .inl rfl
 split
 ·exact .inr rfl
 ·exact .inl rfl
theorem A8y(v:V):v.plain.d=[]∨v.plain.d=R3 v.d:=by
 rw [Ec];exact Bv4 _ _ _ _ _ _
theorem Beu(v:V):D6 v.plain.d:=by
 rcases A8y v with h |h<;>rw [h]
 ·exact List.Pairwise.nil
 ·exact Bi3 _
theorem Bh7(k:Ky)(q:Pr→Bool)(l:List Pr):Fe pk k (l.filter q)=(Fe pk k l).filter q:=by
 simp only [Fe,List.filter_filter]
 congr 1
 funext x
 rw [Bool.and_comm]
theorem Br2(d:List Pr)(k:Ky):Fe pk k (R3 d)=((Fe pk k (Iu d)).take 1).filter Nl:=by
 rw [R3,Bh7,A3n]
theorem Blu(v:V)(k:Ky):(Fe pk k v.plain.d).length≤1:=by
 rcases A8y v with h |h<;>rw [h]
 ·simp [Fe]
 ·rw [Br2]
  exact Nat.le_trans (List.length_filter_le _ _) (by simp;omega)
theorem Bfj(l:List Pr):(uniq l).length≤l.length:=by
 have:=(Aal (Cq l)).length_le
 rw [show(Cq l).length=l.length from H6 ordK l]at this
 exact this
theorem Bi4(v:V):v.plain.d.length≤v.d.length:=by
 rcases A8y v with h |h<;>rw [h]
 ·simp
 ·refine Nat.le_trans (List.length_filter_le _ _) (Nat.le_trans (Bfj _) (by simp [Iu]))
def Jo(v:V)(k:Ky):Option V:=(Fe pk k v.plain.d).head?.map fun p=>p.2
def Z8(v:V)(k:Ky):AV:= .tup [.imm (.agg ((Jo v k).getD zero).row), .imm (.bool (Jo v k).isSome)]
theorem A3r:zero.row=[.int .i64 0, .int .i64 0, .int .i64 0, .str [], .sl .any 6 [], .sl .any 7 []]:=by
 rw [Db];rfl
theorem Bt8(D:List Pr)(t:Nat)(k:Ky)(h:t<D.length)(hk:(Bq D t).1=k)(h1:(Fe pk k D).length≤1):Fe pk k D=[Bq D t]:=by
 have hm:Bq D t∈Fe pk k D:=by
  have:Bq D t∈D:=by
   have e:Bq D t=D[t]:=by simp [Bq,List.getD_eq_getElem?_getD,h]
   rw [e];exact List.getElem_mem h
  exact List.mem_filter.2 ⟨this,by simpa using hk⟩
 cases hf:Fe pk k D with
 |nil=>rw [hf]at hm;simp at hm
 |cons a r=>
  rw [hf]at hm h1
  cases r with
  |nil=>rw [List.mem_singleton]at hm;rw [hm]
  |cons b r=>simp at h1
theorem Bhn(v:V)(hf:Fit v)(k:Ky):Call E0.P Tp [.imm (.agg v.row), .imm (.str k)] [] (Is (Z8 v k) []):=by
 have hP:=A7p v hf
 have hn:v.d.length≤1000000000000:=by cases hf;assumption
 have hdl:=Bi4 v
 have hP:Call E0.P Ho [.imm (.agg v.row)] [] _:=hP
 rw [Db]at hP ⊢
 refine A6x _ _ _ _ _ _ _ _ ?_
 refine Call.use hP ⟨⟨rfl, ?_⟩, ?_⟩
 ·rw [Aep,Ep]
 rw [Aep]
 have e5:gR v.plain.row 5=Bj v.plain.d:=by rw [Db];rfl
 rw [e5]
 refine(Bqq v.plain.d k (Beu v) (by show _≤_;omega)).mono ?_
 rintro r h ⟨t,b,rfl,rfl,ht,h1,h0⟩
 refine⟨⟨rfl,rfl⟩, ?_⟩
 show Br (!b) _ (Ah (((0:Int)≤(t:Int)∧(t:Int)<_)∧_) _)
 refine⟨fun hb=> ?_,fun hb=> ?_⟩
 ·have hb:b=false:=by simpa using hb
  have h0:=h0 hb
  refine⟨?_,rfl⟩
  simp only [Z8,Jo,h0,List.head?_nil,Option.map_none,Option.getD_none,A3r]
  rfl
 ·have hb:b=true:=by simpa using hb
  obtain⟨htl,hk⟩:=h1 hb
  have e:(Bj v.plain.d).getD t []=Bl (Bq v.plain.d t):=by simp [List.getD_eq_getElem?_getD,htl]
  show Ah (((0:Int)≤(t:Int)∧(t:Int)<_)∧Bt _ ((Bj v.plain.d).getD (Int.toNat (t:Int)) [])=true) _
  have hfb:=Bt8 _ t k htl hk (Blu v k)
  refine⟨⟨⟨by omega,by rw [A9];omega⟩,by rw [Int.toNat_natCast,e];exact Dp _ _ _⟩, ?_⟩
  refine⟨?_,rfl⟩
  have e2:(Bj v.plain.d).getD (rI (rT (AV.tup [AV.imm (.int .i64 (t:Int)),AV.imm (.bool b)]) 0)).toNat []=Bl (Bq v.plain.d t):=e
  rw [e2,Le]
  simp only [Z8,Jo,hfb,List.head?_cons,Option.map_some,Option.getD_some]
  rfl
end Go.Proofs.Sim.Se
namespace Go.Proofs.Sim.Se
open Go Go.Proofs Go.Proofs.Sim Go.Proofs.Sim.Va Go.Proofs.Sim.St
theorem Nn(ps:List Pr)(n:Nat)(h:n<ps.length):(Bj ps).getD n []=Bl (Bq ps n):=by simp [List.getD_eq_getElem?_getD,h]
theorem Bdm(p:Pr)(X R:List Pr)(h:∀q∈X,bl p.1 q.1=false):Mh p (X++R)=X++Mh p R:=by
 induction X with
 |nil=>rfl
 |cons x X ih=>
  rw [List.cons_append,Mh,h x (by simp),ih fun q hq=>h q (by simp [hq])]
  rfl
theorem Boc(p:Pr)(d:List Pr):(Mh p d).length=d.length+1:=by
 induction d with
 |nil=>rfl
 |cons x r ih=>
  rw [Mh];split<;>simp [ih]
theorem Bpl(d:List Pr)(p:Pr)(hd:d.length≤1000000000000)(K:Ex→St→Prop)(hR:d.any (fun q=>q.1 == p.1)=true→K .ret ⟨[(4, .imm (.sl .any 7 (Bj d)))],[]⟩)
 (hE:∀(b:Bool) (out:List Pr),(d.any (fun q=>q.1 == p.1)=false)→(if b then Mh p d=out else(out=d∧Mh p d=d++[p]))→K (.exit 0) ⟨[(3,(.ptr (Nm.loc (3:Nat)) 0)),(5,(.own (Nm.loc (8:Nat)))),(6,(.imm (.bool b)))],[((Nm.loc (3:Nat)),(.blk Ag [(.imm (.str (p.1))),(.imm (.int .i64 (p.2.k))),(.imm (.int .i64 (p.2.n))),(.imm (.int .i64 (p.2.g))),(.imm (.str p.2.s)),(.imm (.sl .any 6 (p.2.l.map V.row))),(.imm (.sl .any 7 (p.2.d.map Bl)))])),((Nm.loc (8:Nat)),(.arr 0 true 7 (Bj out)))]⟩):
 ∀(R X:List Pr) (i:Nat) (b:Bool) (out:List Pr),d=X++R→i=X.length→(X.any (fun q=>q.1 == p.1)=false)→(if b then Mh p d=out++R else(out=X∧∀q∈X,bl p.1 q.1=false))→
 Agn (Bj d) b i p.1 p.2.k p.2.n p.2.g p.2.s (p.2.l.map V.row) (p.2.d.map Bl) (Bj out) K
 | [],X,i,b,out,hX,hi,ha,hb=>by
   simp only [List.append_nil]at hX hb
   subst hX
   refine Aqv _ _ _ _ _ _ _ _ _ _ _ _ ⟨fun h=> ?_,fun _=>hE b out ha ?_⟩
   ·have:=of_decide_eq_true h
    rw [A9]at this;omega
   ·cases b with
    |true=>exact hb
    |false=>
     obtain⟨h1,h2⟩:=hb
     refine⟨h1, ?_⟩
     have:=Bdm p d [] h2
     simpa [Mh] using this
 |x::R,X,i,b,out,hX,hi,ha,hb=>by
  have hlt:i<d.length:=by rw [hX];simp;omega
  have hx:Bq d i=x:=by rw [hX];exact K4 _ _ _ _ hi
  have hr:=Nn d i hlt
  rw [hx]at hr
  have hxd:d=(X++[x])++R:=by rw [hX];simp
  have g0:gS (Bl x) 0=x.1:=by rw [F7];rfl
  have w:IntKind.i64.wrap ((i:Int)+1)=((i+1:Nat):Int):=by rw [Bc _ (by omega) (by omega)];simp
  have hol:out.length≤i+1:=by
   cases b with
   |true=>
    have:=congrArg List.length (show Mh p d=out++(x::R) from hb)
    rw [Boc,hX]at this
    simp at this;omega
   |false=>rw [hb.1];omega
  refine Aqv _ _ _ _ _ _ _ _ _ _ _ _ ⟨fun _=> ?_,fun h=> ?_⟩
  ·simp only [Int.toNat_natCast]
   rw [hr,A9,g0]
   have rng:((0:Int)≤(i:Int)∧(i:Int)<(d.length:Int))∧Bt [.str, .int .i64, .int .i64, .int .i64, .str, .sl 6 Aa, .sl 7 Ag] (Bl x)=true:=⟨⟨by omega,by omega⟩,Dp _ _ _⟩
   refine⟨rng,⟨fun he=>hR ?_,fun he=>⟨fun _=>rng,Let.intro ?_⟩⟩⟩
   ·rw [hX,List.any_append,List.any_cons,he];simp
   have ha':(X++[x]).any (fun q=>q.1 == p.1)=false:=by
    rw [List.any_append,ha,List.any_cons,he];rfl
   have go:∀(b':Bool) (o:List Pr),o.length≤i+1→(if b' then Mh p d=(o++[x])++R else(o++[x]=X++[x]∧∀q∈X++[x],bl p.1 q.1=false))→
    Acy (Bj d) b' i p.1 p.2.k p.2.n p.2.g p.2.s (p.2.l.map V.row) (p.2.d.map Bl) (Bj o) (Agj K):=by
    intro b' o hol' hb'
    refine A3y _ _ _ _ _ _ _ _ _ _ _ _ ?_
    simp only [Int.toNat_natCast]
    rw [hr,Eu,A9,A9]
    refine⟨rng,⟨by constructor<;>omega, ?_⟩⟩
    refine A7k _ _ _ _ _ _ _ _ _ _ _ _ (A3z _ _ _ _ _ _ _ _ _ _ _ _ ?_)
    rw [w]
    refine A7j _ _ _ _ _ _ _ _ _ _ _ _ ?_
    have e:Bj o++[Bl x]=Bj (o++[x]):=by simp [Bj]
    rw [e]
    exact Bpl d p hd K hR hE R (X++[x]) (i+1) b' (o++[x]) hxd (by simp;omega) ha' hb'
   refine⟨fun hl=> ?_,fun hl=> ?_⟩
   ·have hb0:b=false:=by cases b<;>simp_all
    subst hb0
    have hl:bl p.1 x.1=true:=hl
    have e:Bj out++[[.str p.1, .int .i64 p.2.k, .int .i64 p.2.n, .int .i64 p.2.g, .str p.2.s, .sl .any 6 (p.2.l.map V.row), .sl .any 7 (p.2.d.map Bl)]]=Bj (out++[p]):=by
     rw [←F7];simp [Bj]
    rw [e,A9]
    refine⟨by constructor<;>omega,go true (out++[p]) (by rw [hb.1];simp;omega) ?_⟩
    show Mh p d=_
    rw [hX,Bdm p X _ hb.2,hb.1,Mh,hl]
    simp
   ·refine go b out hol ?_
    cases b with
    |true=>
     have hb:Mh p d=out++(x::R):=hb
     show Mh p d=_
     rw [hb];simp
    |false=>
     have hl:bl p.1 x.1=false:=hl
     refine⟨by rw [hb.1],fun q hq=> ?_⟩
     rcases List.mem_append.1 hq with hq |hq
     ·exact hb.2 q hq
     ·rw [List.mem_singleton]at hq;rw [hq];exact hl
  ·have:=of_decide_eq_false h
   rw [A9]at this;omega
theorem Bvp(d:List Pr)(p:Pr)(hd:d.length≤1000000000000):Call E0.P Asx [.imm (.sl .any 7 (Bj d)), .imm (.agg (Bl p))] [] (Is (.imm (.sl .any 7 (Bj (put d p)))) []):=by
 rw [F7]
 refine Bbz _ _ _ _ _ _ _ _ _ ?_
 refine Bpl d p hd _ (fun h=> ?_) (fun b out ha hb=> ?_) d [] 0 false [] rfl rfl rfl ⟨rfl,by simp⟩
 ·refine A7h _ _ ?_
  rw [Va.put,h];exact⟨rfl,rfl⟩
 ·refine A7i _ _ _ _ _ _ _ _ _ _ (A30 _ _ _ _ _ _ _ _ _ _ ⟨fun hn=> ?_,fun hn=> ?_⟩)
  ·have hb0:b=false:=by cases b<;>simp_all
   subst hb0
   obtain⟨h1,h2⟩:=hb
   subst h1
   have e:Bj out++[[.str p.1, .int .i64 p.2.k, .int .i64 p.2.n, .int .i64 p.2.g, .str p.2.s, .sl .any 6 (p.2.l.map V.row), .sl .any 7 (p.2.d.map Bl)]]=Bj (Mh p out):=by
    rw [←F7,h2];simp [Bj]
   rw [e,A9]
   refine⟨by constructor<;>omega,Aqn _ _ ?_⟩
   rw [Va.put,ha];exact⟨rfl,rfl⟩
  ·have hb0:b=true:=by cases b<;>simp_all
   subst hb0
   have hb:Mh p d=out:=hb
   refine Aqn _ _ ?_
   rw [Va.put,ha, ←hb];exact⟨rfl,rfl⟩
abbrev Xq(v:V):Prop:=Call E0.P Tf [.imm (.agg v.row)] [] (Is (.imm (.agg v.plain.row)) [])
theorem A0f(l:List Pr):(l.foldl put []).length≤l.length:=by rw [Bex];exact Bfj l
theorem Bpm(d:List Pr)(hd:d.length≤1000000000000)(ih:∀p∈d,Xq p.2)(K:Ex→St→Prop)(hE:K (.exit 0) ⟨[(3,(.imm (.sl .any 7 (Bj ((Iu d).foldl put [])))))],[]⟩):
 ∀(R X:List Pr) (i:Nat),d=X++R→i=X.length→Aaz (Bj d) i (Bj ((Iu X).foldl put [])) K
 | [],X,i,hX,hi=>by
   simp only [List.append_nil]at hX
   subst hX
   refine Amh _ _ _ _ ⟨fun h=> ?_,fun _=>hE⟩
   have:=of_decide_eq_true h
   rw [A9]at this;omega
 |x::R,X,i,hX,hi=>by
  have hlt:i<d.length:=by rw [hX];simp;omega
  have hx:Bq d i=x:=by rw [hX];exact K4 _ _ _ _ hi
  have hr:=Nn d i hlt
  rw [hx]at hr
  have w:IntKind.i64.wrap ((i:Int)+1)=((i+1:Nat):Int):=by rw [Bc _ (by omega) (by omega)];simp
  refine Amh _ _ _ _ ⟨fun _=> ?_,fun h=> ?_⟩
  ·simp only [Int.toNat_natCast]
   rw [hr,A9,Le,w]
   have rng:((0:Int)≤(i:Int)∧(i:Int)<(d.length:Int))∧Bt [.str, .int .i64, .int .i64, .int .i64, .str, .sl 6 Aa, .sl 7 Ag] (Bl x)=true:=⟨⟨by omega,by omega⟩,Dp _ _ _⟩
   refine⟨rng,⟨rng, ?_⟩⟩
   refine Call.use (ih x (by rw [hX];simp)) ⟨⟨rfl, ?_⟩, ?_⟩
   ·rw [Aep,Ep]
   rw [Aep,A94]
   have hl:=A0f (Iu X)
   have hl2:(Iu X).length=X.length:=by simp [Iu]
   refine Call.use (Bvp _ _ (by omega)) ⟨⟨rfl,rfl⟩, ?_⟩
   have e:put ((Iu X).foldl put []) (x.1,x.2.plain)=(Iu (X++[x])).foldl put []:=by simp [Iu,List.foldl_append]
   rw [e]
   exact Bpm d hd ih K hE R (X++[x]) (i+1) (by rw [hX];simp) (by simp;omega)
  ·have:=of_decide_eq_false h
   rw [A9]at this;omega
theorem Bhj(d:List Pr)(hd:d.length≤1000000000000)(K:Ex→St→Prop)(hE:K (.exit 2) ⟨[(5,(.own (Nm.loc (28:Nat))))],[((Nm.loc (28:Nat)),(.arr 0 true 7 (Bj (d.filter Nl))))]⟩):
 ∀(R X:List Pr) (i:Nat),d=X++R→i=X.length→Yz i (Bj d) (Bj (X.filter Nl)) K
 | [],X,i,hX,hi=>by
   simp only [List.append_nil]at hX
   subst hX
   refine Ajr _ _ _ _ ⟨fun h=> ?_,fun _=>hE⟩
   have:=of_decide_eq_true h
   rw [A9]at this;omega
 |x::R,X,i,hX,hi=>by
  have hlt:i<d.length:=by rw [hX];simp;omega
  have hx:Bq d i=x:=by rw [hX];exact K4 _ _ _ _ hi
  have hr:=Nn d i hlt
  rw [hx]at hr
  have g1:gI (Bl x) 1=x.2.k:=by rw [F7];rfl
  have w:IntKind.i64.wrap ((i:Int)+1)=((i+1:Nat):Int):=by rw [Bc _ (by omega) (by omega)];simp
  have hfl:(X.filter Nl).length≤X.length:=List.length_filter_le _ _
  refine Ajr _ _ _ _ ⟨fun _=> ?_,fun h=> ?_⟩
  ·rw [show(Bj d).getD (Int.toNat (i:Int)) []=Bl x from hr,A9,A9,Eu,g1]
   have rng:((0:Int)≤(i:Int)∧(i:Int)<(d.length:Int))∧Bt [.str, .int .i64, .int .i64, .int .i64, .str, .sl 6 Aa, .sl 7 Ag] (Bl x)=true:=⟨⟨by omega,by omega⟩,Dp _ _ _⟩
   refine⟨rng,⟨fun hk=>⟨rng,⟨by constructor<;>omega, ?_⟩⟩,fun hk=> ?_⟩⟩
   ·have hk:Nl x=true:=hk
    have e:Bj (X.filter Nl)++[Bl x]=Bj ((X++[x]).filter Nl):=by rw [List.filter_append];simp [hk,Bj]
    refine Ajf _ _ _ _ ?_
    rw [w,e]
    exact Alw _ _ _ _ (Bhj d hd K hE R (X++[x]) (i+1) (by rw [hX];simp) (by simp;omega))
   ·have hk:Nl x=false:=hk
    have e:Bj (X.filter Nl)=Bj ((X++[x]).filter Nl):=by rw [List.filter_append];simp [hk,Bj]
    refine Ajf _ _ _ _ ?_
    rw [w,e]
    exact Alw _ _ _ _ (Bhj d hd K hE R (X++[x]) (i+1) (by rw [hX];simp) (by simp;omega))
  ·have:=of_decide_eq_false h
   rw [A9]at this;omega
theorem Bcb(d:List Pr)(hd:d.length≤1000000000000)(ih:∀p∈d,Xq p.2):Call E0.P Ad9 [.imm (.sl .any 7 (Bj d))] [] (Is (.imm (.sl .any 7 (Bj (R3 d)))) []):=by
 refine A6t _ _ ?_
 have hl:=A0f (Iu d)
 have hl2:(Iu d).length=d.length:=by simp [Iu]
 refine Bpm d hd ih _ (A1w _ _ (A0p _ _ ?_)) d [] 0 rfl rfl
 refine Bhj _ (by omega) _ (A1y _ _ (Ayy _ _ (A1x _ _ (A1v _ _ ?_)))) _ [] 0 rfl rfl
 rw [Bex];exact⟨rfl,rfl⟩
end Go.Proofs.Sim.Se
namespace Go.Proofs.Sim.Se
open Go Go.Proofs Go.Proofs.Sim Go.Proofs.Sim.Va Go.Proofs.Sim.St
structure GN (Q:AV→Heap→Prop) (K:Ex→St→Prop):Prop where
 norm:∀(a b c y0 y1 y2:Int) (s ys:List UInt8) (l d p q:List (List IV)),Q (Aeo a b c s l d) []→K .normal ⟨[(2,(.ptr (Nm.loc (2:Nat)) 0)),(3,(.ptr (Nm.loc (3:Nat)) 0))],[((Nm.loc (2:Nat)),(.blk Aa [(.imm (.int .i64 y0)),(.imm (.int .i64 y1)),(.imm (.int .i64 y2)),(.imm (.str ys)),(.own ((Nm.loc (2:Nat)).cell (4:Nat))),(.own ((Nm.loc (2:Nat)).cell (5:Nat)))])),((Nm.loc (3:Nat)),(.blk Aa [(.imm (.int .i64 a)),(.imm (.int .i64 b)),(.imm (.int .i64 c)),(.imm (.str s)),(.imm (.sl .any 6 l)),(.imm (.sl .any 7 d))])),(((Nm.loc (2:Nat)).cell (4:Nat)),(.arr (Aa+2) true 6 p)),(((Nm.loc (2:Nat)).cell (5:Nat)),(.arr (Ag+2) true 7 q))]⟩
 ret:∀(a b c:Int) (s:List UInt8) (l d:List (List IV)),Q (Aeo a b c s l d) []→K .ret ⟨[(2,(.ptr (Nm.loc (2:Nat)) 0))],[((Nm.loc (2:Nat)),(.blk Aa [(.imm (.int .i64 a)),(.imm (.int .i64 b)),(.imm (.int .i64 c)),(.imm (.str s)),(.own ((Nm.loc (2:Nat)).cell (4:Nat))),(.own ((Nm.loc (2:Nat)).cell (5:Nat)))])),(((Nm.loc (2:Nat)).cell (4:Nat)),(.arr (Aa+2) true 6 l)),(((Nm.loc (2:Nat)).cell (5:Nat)),(.arr (Ag+2) true 7 d))]⟩
theorem Bwg(Q:AV→Heap→Prop):GN Q (Ns Q):=⟨fun a b c y0 y1 y2 s ys l d p q h=>A1l Q y0 y1 y2 ys a b c s l d p q (Ayv _ _ _ _ _ _ _ _ _ _ _ _ _ (A1k Q _ _ _ _ _ _ h)),fun a b c s l d h=>A1m Q a b c s l d h⟩
theorem Bsr {Q:AV→Heap→Prop} {K:Ex→St→Prop} (h:GN Q K):GN Q (K8 K):=⟨fun _a _b _c _y0 _y1 _y2 _s _ys _l _d _p _q hq=>A1n K _ _ _ _ _ _ _ _ _ _ _ _ (h.norm _ _ _ _ _ _ _ _ _ _ _ _ hq),fun _a _b _c _s _l _d hq=>A1o K _ _ _ _ _ _ (h.ret _ _ _ _ _ _ hq)⟩
theorem Btc(l:List V)(hl:l.length≤1000000000000)(ih:∀x∈l,Xq x)(x0 x1 x2 y0 y1 y2 z0 z1 z2:Int)(xs ys zs:List UInt8)(x5 z4 z5 p q:List (List IV))
 (Q:AV→Heap→Prop)(K:Ex→St→Prop)(hK:GN Q K)(hq:Q (Aeo z0 z1 z2 zs (H7 (l.map V.plain)) z5) []):∀(R X:List V) (i:Nat),l=X++R→i=X.length→
 Yx i x0 x1 x2 xs (H7 l) x5 y0 y1 y2 ys (H7 (X.map V.plain)) z0 z1 z2 zs z4 z5 p q (Ah7 K)
 | [],X,i,hX,hi=>by
   simp only [List.append_nil]at hX
   subst hX
   refine Ajp _ _ _ _ _ _ _ _ _ _ _ _ _ _ _ _ _ _ _ _ _ ⟨fun h=> ?_,fun _=> ?_⟩
   ·have:=of_decide_eq_true h
    rw [Er]at this;omega
   ·exact A1p _ _ _ _ _ _ _ _ _ _ _ _ _ _ (Ayu _ _ _ _ _ _ _ _ _ _ _ _ _ _ ((Bsr hK).norm _ _ _ _ _ _ _ _ _ _ _ _ hq))
 |x::R,X,i,hX,hi=>by
  have hlt:i<l.length:=by rw [hX];simp;omega
  have hx:J8 l i=x:=by rw [hX,hi];simp [J8,List.getD_eq_getElem?_getD]
  have hr:=Ue l i hlt
  rw [hx]at hr
  have w:IntKind.i64.wrap ((i:Int)+1)=((i+1:Nat):Int):=by rw [Bc _ (by omega) (by omega)];simp
  refine Ajp _ _ _ _ _ _ _ _ _ _ _ _ _ _ _ _ _ _ _ _ _ ⟨fun _=> ?_,fun h=> ?_⟩
  ·rw [show(H7 l).getD (Int.toNat (i:Int)) []=x.row from hr,Ep,w]
   refine⟨⟨⟨by omega,by rw [Er];omega⟩,Uf _ _ _⟩, ?_⟩
   refine Call.use (ih x (by rw [hX];simp)) ⟨⟨rfl, ?_⟩, ?_⟩
   ·rw [Aep,Ep]
   ·rw [Aep,Ep]
    refine⟨by rw [Er,List.length_map];constructor<;>omega, ?_⟩
    have e:H7 (X.map V.plain)++[x.plain.row]=H7 ((X++[x]).map V.plain):=by simp [H7]
    rw [e]
    exact Btc l hl ih _ _ _ _ _ _ _ _ _ _ _ _ _ _ _ _ _ Q K hK hq R (X++[x]) (i+1) (by rw [hX];simp) (by simp;omega)
  ·have:=of_decide_eq_false h
   rw [Er]at this;omega
theorem R_4(v:V)(h1:v.l.length≤1000000000000)(h2:v.d.length≤1000000000000)(ih1:∀x∈v.l,Xq x)(ih2:∀p∈v.d,Xq p.2)(b:Bool)(hb1:b=true→v.k=1∨v.k=2)(hb2:b=false→¬v.k=1∧¬v.k=2):
 Aap v.k b v.k v.n v.g v.s (H7 v.l) (Bj v.d) 0 0 0 [] v.k 0 0 [] [] [] [] [] (Ns (Is (.imm (.agg v.plain.row)) [])):=by
 have hp:=A93 v
 generalize hQ:Is (.imm (.agg v.plain.row)) []=Q
 have hG:=Bwg Q
 have fin:∀(a b c:Int) (s:List UInt8) (l d:List (List IV)),v.plain.row=[.int .i64 a, .int .i64 b, .int .i64 c, .str s, .sl .any 6 l, .sl .any 7 d]→Q (Aeo a b c s l d) []:=by
  intro a b c s l d h
  rw [←hQ]
  exact⟨by rw [h],rfl⟩
 refine A0n _ _ _ _ _ _ _ _ _ _ _ _ _ _ _ _ _ _ _ _ _ ⟨fun h=>hG.norm _ _ _ _ _ _ _ _ _ _ _ _ (fin _ _ _ _ _ _ ?_),fun h=> ?_⟩
 ·rw [hp]
  rcases hb1 h with e |e<;>rw [e]<;>rfl
 obtain⟨k1,k2⟩:=hb2 h
 have hG2:=Bsr hG
 have six:∀(c:Bool),(c=true→v.k=3∨v.k=4)→(c=false→¬v.k=3∧¬v.k=4)→
  Aaq v.k c v.k v.n v.g v.s (H7 v.l) (Bj v.d) 0 0 0 [] v.k 0 0 [] [] [] [] [] (K8 (Ns Q)):=by
  intro c hc1 hc2
  refine A0o _ _ _ _ _ _ _ _ _ _ _ _ _ _ _ _ _ _ _ _ _ ⟨fun h=>hG2.norm _ _ _ _ _ _ _ _ _ _ _ _ (fin _ _ _ _ _ _ ?_),fun h=> ?_⟩
  ·rw [hp]
   rcases hc1 h with e |e<;>rw [e]<;>rfl
  obtain⟨k3,k4⟩:=hc2 h
  refine⟨fun h=> ?_,fun h=> ?_⟩
  ·have k5:v.k=5:=of_decide_eq_true h
   refine Btc v.l h1 ih1 _ _ _ _ _ _ _ _ _ _ _ _ _ _ _ _ _ Q _ hG2 (fin _ _ _ _ _ _ ?_) v.l [] 0 rfl rfl
   rw [hp,k5];rfl
  have k5:¬v.k=5:=of_decide_eq_false h
  refine⟨fun h=> ?_,fun h=> ?_⟩
  ·have k6:v.k=6:=of_decide_eq_true h
   refine Call.use (Bcb v.d h2 ih2) ⟨⟨rfl,rfl⟩,hG2.norm _ _ _ _ _ _ _ _ _ _ _ _ (fin _ _ _ _ _ _ ?_)⟩
   rw [hp,k6];rfl
  have k6:¬v.k=6:=of_decide_eq_false h
  refine⟨fun h=> ?_,fun h=> ?_⟩
  ·have k7:v.k=7:=of_decide_eq_true h
   refine hG2.norm _ _ _ _ _ _ _ _ _ _ _ _ (fin _ _ _ _ _ _ ?_)
   rw [hp,k7];rfl
  have k7:¬v.k=7:=of_decide_eq_false h
  refine⟨fun h=> ?_,fun h=> ?_⟩
  ·have k8:v.k=8:=of_decide_eq_true h
   refine Call.use (Bcb v.d h2 ih2) ⟨⟨rfl,rfl⟩,hG2.norm _ _ _ _ _ _ _ _ _ _ _ _ (fin _ _ _ _ _ _ ?_)⟩
   rw [hp,k8];rfl
  have k8:¬v.k=8:=of_decide_eq_false h
  refine hG2.ret _ _ _ _ _ _ (fin _ _ _ _ _ _ ?_)
  have hz:=A3r
  have hpl:v.plain=zero∨v.k=0:=by
   by_cases k0:v.k=0
   ·exact .inr k0
   ·left
    rw [Ec];unfold X7
    simp [k1,k2,k3,k4,k5,k6,k7,k8]
  rcases hpl with e |e
  ·rw [e,hz]
  ·rw [hp,e];rfl
 refine⟨fun h=> ?_,fun h=> ?_⟩
 ·have e:=of_decide_eq_true h
  exact six _ (fun _=> .inl e) (fun h'=>absurd e (of_decide_eq_false h'))
 ·have e:¬v.k=3:=of_decide_eq_false h
  exact six _ (fun h'=> .inr (of_decide_eq_true h')) (fun h'=>⟨e,of_decide_eq_false h'⟩)
theorem Bmu(v:V)(hf:Fit v):Xq v:=by
 induction hf with
 |mk v h1 h2 _ _ ih1 ih2=>
  show Call E0.P Tf [.imm (.agg v.row)] [] _
  have key:=R_4 v h1 h2 ih1 ih2
  generalize Is (.imm (.agg v.plain.row)) []=Q at key ⊢
  rw [Db]
  refine A6q _ _ _ _ _ _ _ ⟨fun h=> ?_,fun h=> ?_⟩
  ·have e:v.k=1:=of_decide_eq_true h
   exact key _ (fun _=> .inl e) (fun h'=>absurd e (of_decide_eq_false h'))
  ·have e:¬v.k=1:=of_decide_eq_false h
   exact key _ (fun h'=> .inr (of_decide_eq_true h')) (fun h'=>⟨e,of_decide_eq_false h'⟩)
end Go.Proofs.Sim.Se
namespace Go.Proofs.Sim.Se
open Go Go.Proofs Go.Proofs.Sim Go.Proofs.Sim.Va Go.Proofs.Sim.St
theorem V.ext {a b:V} (h1:a.k=b.k)(h2:a.n=b.n)(h3:a.g=b.g)(h4:a.s=b.s)(h5:a.l=b.l)(h6:a.d=b.d):a=b:=by
 cases a;cases b
 simp only [V.k,V.n,V.g,V.s,V.l,V.d]at h1 h2 h3 h4 h5 h6
 subst h1 h2 h3 h4 h5 h6;rfl
def EqR(a b:V)(r:AV)(h:Heap):Prop:=∃c:Bool,r= .imm (.bool c)∧h=[]∧(c=true↔a=b)
abbrev EqAt(a b:V):Prop:=Call E0.P Mw [.imm (.agg a.row), .imm (.agg b.row)] [] (EqR a b)
theorem Bkj {α:Type} (l:List α)(i:Nat)(h:i<l.length):l.drop i=l[i]::l.drop (i+1):=by
 rw [List.drop_eq_getElem_cons h]
theorem Bph(a b:V)(hl:a.d.length≤1000000000000)(hab:a.d.length=b.d.length)(ih:∀p∈a.d,∀q∈b.d,EqAt p.2 q.2)(x0 x1 x2 y0 y1 y2:Int)(xs ys:List UInt8)(x4 y4:List (List IV))(K:Ex→St→Prop)
 (hF:a.d≠b.d→K .ret ⟨[(4, .imm (.bool false))],[]⟩)(hT:a.d=b.d→K (.exit 2) ⟨[],[]⟩):∀(n i:Nat),n+i=a.d.length→a.d.take i=b.d.take i→
 Yw i x0 x1 x2 xs x4 (Bj a.d) y0 y1 y2 ys y4 (Bj b.d) K
 |0,i,hn,ht=>by
  refine Ajo _ _ _ _ _ _ _ _ _ _ _ _ _ _ ⟨fun h=> ?_,fun _=>hT ?_⟩
  ·have:=of_decide_eq_true h
   rw [A9]at this;omega
  ·rw [List.take_of_length_le (by omega),List.take_of_length_le (by omega)]at ht
   exact ht
 |n+1,i,hn,ht=>by
  have hia:i<a.d.length:=by omega
  have hib:i<b.d.length:=by omega
  have w:IntKind.i64.wrap ((i:Int)+1)=((i+1:Nat):Int):=by rw [Bc _ (by omega) (by omega)];simp
  refine Ajo _ _ _ _ _ _ _ _ _ _ _ _ _ _ ⟨fun _=> ?_,fun h=> ?_⟩
  ·rw [show(Bj a.d).getD (Int.toNat (i:Int)) []=Bl (Bq a.d i) from Nn _ _ hia,show(Bj b.d).getD (Int.toNat (i:Int)) []=Bl (Bq b.d i) from Nn _ _ hib,Le,Le,A9,A9]
   have g0:∀x:Pr,gS (Bl x) 0=x.1:=fun x=>by rw [F7];rfl
   rw [g0,g0]
   have ea:Bq a.d i=a.d[i]:=by simp [Bq,List.getD_eq_getElem?_getD,hia]
   have eb:Bq b.d i=b.d[i]:=by simp [Bq,List.getD_eq_getElem?_getD,hib]
   have ma:Bq a.d i∈a.d:=by rw [ea];exact List.getElem_mem hia
   have mb:Bq b.d i∈b.d:=by rw [eb];exact List.getElem_mem hib
   have r1:((0:Int)≤(i:Int)∧(i:Int)<(a.d.length:Int))∧Bt [.str, .int .i64, .int .i64, .int .i64, .str, .sl 6 Aa, .sl 7 Ag] (Bl (Bq a.d i))=true:=⟨⟨by omega,by omega⟩,Dp _ _ _⟩
   have r2:((0:Int)≤(i:Int)∧(i:Int)<(b.d.length:Int))∧Bt [.str, .int .i64, .int .i64, .int .i64, .str, .sl 6 Aa, .sl 7 Ag] (Bl (Bq b.d i))=true:=⟨⟨by omega,by omega⟩,Dp _ _ _⟩
   have ne:Bq a.d i≠Bq b.d i→a.d≠b.d:=fun h e=>h (by rw [e])
   have go:Bq a.d i=Bq b.d i→Yb i x0 x1 x2 xs x4 (Bj a.d) y0 y1 y2 ys y4 (Bj b.d) (Aau K):=by
    intro e
    refine Ays _ _ _ _ _ _ _ _ _ _ _ _ _ _ ?_
    rw [w]
    refine A1j _ _ _ _ _ _ _ _ _ _ _ _ _ _ (Bph a b hl hab ih _ _ _ _ _ _ _ _ _ _ K hF hT n (i+1) (by omega) ?_)
    rw [List.take_add_one,List.take_add_one,ht]
    congr 1
    rw [ea,eb]at e
    simp [hia,hib,e]
   refine⟨r1,⟨r2,⟨fun _=>r1,⟨fun _=>r2,⟨fun hk=> ?_,fun hk=> ?_⟩⟩⟩⟩⟩
   ·refine(ih _ ma _ mb).mono ?_
    rintro r h ⟨c,rfl,rfl,hc⟩
    refine⟨⟨rfl,rfl⟩,Let.intro ⟨fun hcf=> ?_,fun hct=> ?_⟩⟩
    ·have hcf:(!c)=true:=hcf
     refine hF (ne fun e=> ?_)
     have:c=true:=hc.2 (by rw [e])
     rw [this]at hcf;cases hcf
    ·have hct:(!c)=false:=hct
     refine go (Prod.ext ?_ ?_)
     ·simpa using hk
     ·exact hc.1 (by simpa using hct)
   ·refine⟨rfl,Let.intro ⟨fun _=>hF (ne fun e=> ?_),fun h=>absurd h (by decide)⟩⟩
    rw [e]at hk;simp at hk
  ·have:=of_decide_eq_false h
   rw [A9]at this;omega
theorem Bpi(a b:V)(hl:a.l.length≤1000000000000)(hab:a.l.length=b.l.length)(ih:∀p∈a.l,∀q∈b.l,EqAt p q)(x0 x1 x2 y0 y1 y2:Int)(xs ys:List UInt8)(x5 y5:List (List IV))(K:Ex→St→Prop)
 (hF:a.l≠b.l→K .ret ⟨[(4, .imm (.bool false))],[]⟩)(hT:a.l=b.l→K (.exit 0) ⟨[(2,(.ptr (Nm.loc (2:Nat)) 0)),(3,(.ptr (Nm.loc (3:Nat)) 0))],[((Nm.loc (2:Nat)),(.blk Aa [(.imm (.int .i64 x0)),(.imm (.int .i64 x1)),(.imm (.int .i64 x2)),(.imm (.str xs)),(.imm (.sl .any 6 (H7 a.l))),(.imm (.sl .any 7 x5))])),((Nm.loc (3:Nat)),(.blk Aa [(.imm (.int .i64 y0)),(.imm (.int .i64 y1)),(.imm (.int .i64 y2)),(.imm (.str ys)),(.imm (.sl .any 6 (H7 b.l))),(.imm (.sl .any 7 y5))]))]⟩):∀(n i:Nat),n+i=a.l.length→a.l.take i=b.l.take i→
 Aax i x0 x1 x2 xs (H7 a.l) x5 y0 y1 y2 ys (H7 b.l) y5 K
 |0,i,hn,ht=>by
  refine Amf _ _ _ _ _ _ _ _ _ _ _ _ _ _ ⟨fun h=> ?_,fun _=>hT ?_⟩
  ·have:=of_decide_eq_true h
   rw [Er]at this;omega
  ·rw [List.take_of_length_le (by omega),List.take_of_length_le (by omega)]at ht
   exact ht
 |n+1,i,hn,ht=>by
  have hia:i<a.l.length:=by omega
  have hib:i<b.l.length:=by omega
  have w:IntKind.i64.wrap ((i:Int)+1)=((i+1:Nat):Int):=by rw [Bc _ (by omega) (by omega)];simp
  refine Amf _ _ _ _ _ _ _ _ _ _ _ _ _ _ ⟨fun _=> ?_,fun h=> ?_⟩
  ·rw [show(H7 a.l).getD (Int.toNat (i:Int)) []=(J8 a.l i).row from Ue _ _ hia,show(H7 b.l).getD (Int.toNat (i:Int)) []=(J8 b.l i).row from Ue _ _ hib,Ep,Ep,Er,Er]
   have ea:J8 a.l i=a.l[i]:=by simp [J8,List.getD_eq_getElem?_getD,hia]
   have eb:J8 b.l i=b.l[i]:=by simp [J8,List.getD_eq_getElem?_getD,hib]
   have ma:J8 a.l i∈a.l:=by rw [ea];exact List.getElem_mem hia
   have mb:J8 b.l i∈b.l:=by rw [eb];exact List.getElem_mem hib
   have ne:J8 a.l i≠J8 b.l i→a.l≠b.l:=fun h e=>h (by rw [e])
   refine⟨⟨⟨by omega,by omega⟩,Uf _ _ _⟩,⟨⟨⟨by omega,by omega⟩,Uf _ _ _⟩, ?_⟩⟩
   refine(ih _ ma _ mb).mono ?_
   rintro r h ⟨c,rfl,rfl,hc⟩
   refine⟨⟨rfl,rfl⟩,⟨fun hcf=> ?_,fun hct=> ?_⟩⟩
   ·have hcf:(!c)=true:=hcf
    refine hF (ne fun e=> ?_)
    have:c=true:=hc.2 e
    rw [this]at hcf;cases hcf
   ·have hct:(!c)=false:=hct
    have e:=hc.1 (by simpa using hct)
    rw [w]
    refine Bpi a b hl hab ih _ _ _ _ _ _ _ _ _ _ K hF hT n (i+1) (by omega) ?_
    rw [List.take_add_one,List.take_add_one,ht]
    congr 1
    rw [ea,eb]at e
    simp [hia,hib,e]
  ·have:=of_decide_eq_false h
   rw [Er]at this;omega
theorem Bgl(a:V)(ha:Fit a):∀b:V,EqAt a b:=by
 induction ha with
 |mk a h1 h2 _ _ ih1 ih2=>
  intro b
  show Call E0.P Mw [.imm (.agg a.row), .imm (.agg b.row)] [] _
  generalize hQ:EqR a b=Q
  have hT:a=b→Q (.imm (.bool true)) []:=fun h=>by rw [←hQ];exact⟨true,rfl,rfl,by simp [h]⟩
  have hF:a≠b→Q (.imm (.bool false)) []:=fun h=>by rw [←hQ];exact⟨false,rfl,rfl,by simp [h]⟩
  rw [Db,Db b]
  refine A6p _ _ _ _ _ _ _ _ _ _ _ _ _ (Let.intro (Let.intro (Let.intro (Let.intro (Let.intro ⟨fun h=> ?_,fun h=> ?_⟩)))))
  ·refine hF fun e=> ?_
   subst e
   simp at h
  ·simp only [Bool.cond_true_left,Bool.or_eq_false_iff,Bool.not_eq_false',decide_eq_true_eq,List.length_map]at h
   obtain⟨⟨⟨⟨⟨e1,e2⟩,e3⟩,e4⟩,e5⟩,e6⟩:=h
   have e4:a.s=b.s:=by simpa using e4
   have e5:a.l.length=b.l.length:=by omega
   have e6:a.d.length=b.d.length:=by omega
   refine Bpi a b h1 e5 (fun p hp q _=>ih1 p hp q) _ _ _ _ _ _ _ _ _ _ _ (fun h=> ?_) (fun hl=> ?_) a.l.length 0 (by omega) rfl
   ·exact A1e _ _ (hF fun e=>h (by rw [e]))
   ·refine A1f _ _ _ _ _ _ _ _ _ _ _ _ _ (Ayr _ _ _ _ _ _ _ _ _ _ _ _ _ ?_)
    refine Bph a b h2 e6 (fun p hp q _=>ih2 p hp q.2) _ _ _ _ _ _ _ _ _ _ _ (fun h=> ?_) (fun hd=> ?_) a.d.length 0 (by omega) rfl
    ·exact A1h _ _ (Alu _ _ (hF fun e=>h (by rw [e])))
    ·exact A1i _ (Ayt _ (A1g _ _ (Alu _ _ (hT (V.ext e1 e2 e3 e4 hl hd)))))
end Go.Proofs.Sim.Se
namespace Go.Proofs.Sim.Se
open Go Go.Proofs Go.Proofs.Sim Go.Proofs.Sim.Va Go.Proofs.Sim.St
abbrev Ow(n:Int):Prop:= -9223372036854775808≤n∧n≤9223372036854775807
inductive Wf:V→Prop where
 |mk (v:V):Ow v.k→Ow v.n→Ow v.g→v.s.length≤9223372036854775807→v.l.length≤9223372036854775807→v.d.length≤9223372036854775807→(∀x∈v.l,Wf x)→(∀p∈v.d,p.1.length≤9223372036854775807)→(∀p∈v.d,Wf p.2)→Wf v
def Cv:V→Nat
 | .mk k n g s l d=>1+(l.attach.map fun⟨v,_h⟩=>Cv v).sum+(d.attach.map fun⟨p,_h⟩=>Cv p.2).sum
 termination_by v=>SizeOf.sizeOf v
 decreasing_by
  ·exact Axq _h
  ·exact Axp _h
theorem Q7(v:V):Cv v=1+(v.l.map Cv).sum+(v.d.map fun p=>Cv p.2).sum:=by
 obtain⟨k,n,g,s,l,d⟩:=v
 rw [Cv]
 simp only [V.l,V.d]
 congr 1
 ·congr 2
  simp
 ·congr 1
  apply List.ext_getElem<;>simp
theorem Aqy(v:V):1≤Cv v:=by rw [Q7];omega
theorem Aro {α:Type} (f:α→Nat)(l:List α)(h:∀x∈l,1≤f x):l.length≤(l.map f).sum:=by
 induction l with
 |nil=>simp
 |cons x l ih=>
  have:=ih fun y hy=>h y (by simp [hy])
  have:=h x (by simp)
  simp;omega
theorem Arp {α:Type} (f:α→Nat)(l:List α)(x:α)(h:x∈l):f x≤(l.map f).sum:=by
 induction l with
 |nil=>simp at h
 |cons y l ih=>
  simp only [List.map_cons,List.sum_cons]
  rcases List.mem_cons.1 h with rfl |h
  ·omega
  ·have:=ih h;omega
theorem Aq3(n:Nat)(hn:n≤1000000000000):∀(m:Nat) (v:V),SizeOf.sizeOf v≤m→Cv v≤n→Fit v:=by
 intro m
 induction m with
 |zero=>intro v h;exact absurd h (by cases v;simp)
 |succ m ih=>
  intro v hm hv
  have he:=Q7 v
  have h1:=Aro Cv v.l fun x _=>Aqy x
  have h2:=Aro (fun p:Pr=>Cv p.2) v.d fun x _=>Aqy x.2
  refine .mk v (by omega) (by omega) (fun x hx=> ?_) (fun p hp=> ?_)
  ·have:=Arp Cv v.l x hx
   obtain⟨k,n',g,s,l,d⟩:=v
   have:=Axq (k:=k) (n:=n') (g:=g) (s:=s) (d:=d) (show x∈l from hx)
   exact ih x (by omega) (by omega)
  ·have:=Arp (fun p:Pr=>Cv p.2) v.d p hp
   obtain⟨k,n',g,s,l,d⟩:=v
   have:=Axp (k:=k) (n:=n') (g:=g) (s:=s) (l:=l) (show p∈d from hp)
   exact ih p.2 (by omega) (by omega)
theorem bAT {p q:Prop} {i:Decidable p} {j:Decidable q} (h:(bif @decide p i then @decide q j else false)=true):p∧q:=by
 by_cases hp:p<;>by_cases hq:q<;>simp_all
theorem bAF {p q:Prop} {i:Decidable p} {j:Decidable q} (h:(bif @decide p i then @decide q j else false)=false):¬(p∧q):=by
 by_cases hp:p<;>by_cases hq:q<;>simp_all
abbrev A44(v:V):Prop:=∀m:Nat,1≤m→m≤4611686018427387905→Call E0.P Aam [.imm (.agg v.row), .imm (.int .i64 m)] [] (Is (.imm (.int .i64 (min (Cv v) m:Nat))) [])
theorem Bff {α:Type} (f:α→Nat)(l:List α)(i:Nat)(h:i<l.length):((l.drop i).map f).sum=f l[i]+((l.drop (i+1)).map f).sum:=by
 rw [Bkj l i h,List.map_cons,List.sum_cons]
theorem Bqf(v:V)(hl:v.l.length≤9223372036854775807)(ih:∀x∈v.l,A44 x)(m:Nat)(hm:m≤4611686018427387905)(x0 x1 x2:Int)(xs:List UInt8)(x5:List (List IV))(K:Ex→St→Prop)(N:Nat)
 (hE:K (.exit 0) ⟨[(1,(.imm (.int .i64 m))),(2,(.ptr (Nm.loc (2:Nat)) 0)),(5,(.imm (.int .i64 (min N m:Nat))))],[((Nm.loc (2:Nat)),(.blk Aa [(.imm (.int .i64 x0)),(.imm (.int .i64 x1)),(.imm (.int .i64 x2)),(.imm (.str xs)),(.imm (.sl .any 6 (H7 v.l))),(.imm (.sl .any 7 x5))]))]⟩):
 ∀(f n i:Nat),f+i=v.l.length→1≤n→n≤m→min (n+((v.l.drop i).map Cv).sum) m=min N m→Xo m n i x0 x1 x2 xs (H7 v.l) x5 K:=by
 intro f
 induction f with
 |zero=>
  intro n i hf h1 h2 hN
  refine An4 _ _ _ _ _ _ _ _ _ _ (Let.intro ⟨fun h=> ?_,fun _=> ?_⟩)
  ·have h:=bAT h
   have:=h.1
   rw [Er]at this;omega
  ·rw [List.drop_of_length_le (by omega)]at hN
   simp only [List.map_nil,List.sum_nil,Nat.add_zero]at hN
   have e:n=min N m:=by omega
   rw [e];exact hE
 |succ f ihf=>
  intro n i hf h1 h2 hN
  have hlt:i<v.l.length:=by omega
  have hv:J8 v.l i=v.l[i]:=by simp [J8,List.getD_eq_getElem?_getD,hlt]
  refine An4 _ _ _ _ _ _ _ _ _ _ (Let.intro ⟨fun h=> ?_,fun h=> ?_⟩)
  ·have h:=bAT h
   have hnm:n<m:=by have:=h.2;omega
   rw [show(H7 v.l).getD (Int.toNat (i:Int)) []=(J8 v.l i).row from Ue _ _ hlt,Ep,Er]
   refine⟨⟨⟨by omega,by omega⟩,Uf _ _ _⟩, ?_⟩
   have w1:IntKind.i64.wrap ((m:Int) - n)=((m - n:Nat):Int):=by rw [Bc _ (by omega) (by omega)];omega
   have w2:IntKind.i64.wrap ((i:Int)+1)=((i+1:Nat):Int):=by rw [Bc _ (by omega) (by omega)];simp
   rw [w1,w2]
   have hx:J8 v.l i∈v.l:=by rw [hv];exact List.getElem_mem hlt
   refine Call.use (ih _ hx (m - n) (by omega) (by omega)) ⟨⟨rfl,rfl⟩, ?_⟩
   rw [Bff _ _ _ hlt, ←hv]at hN
   generalize Cv (J8 v.l i)=c at*
   show Xo _ (IntKind.i64.wrap ((n:Int)+((min c (m - n):Nat):Int))) _ _ _ _ _ _ _ _
   have w3:IntKind.i64.wrap ((n:Int)+((min c (m - n):Nat):Int))=((n+min c (m - n):Nat):Int):=by rw [Bc _ (by omega) (by omega)];simp
   rw [w3]
   exact ihf _ (i+1) (by omega) (by omega) (by omega) (by omega)
  ·have hnm:¬n<m:=by
    intro c
    have h:=bAF h
    rw [Er]at h
    exact h ⟨by omega,by omega⟩
   have e:n=min N m:=by omega
   rw [e];exact hE
theorem Bqg(v:V)(hl:v.d.length≤9223372036854775807)(ih:∀x∈v.d,A44 x.2)(m:Nat)(hm:m≤4611686018427387905)(x0 x1 x2:Int)(xs:List UInt8)(x4:List (List IV))(K:Ex→St→Prop)(N:Nat)
 (hE:K (.exit 2) ⟨[(5,(.imm (.int .i64 (min N m:Nat))))],[]⟩):
 ∀(f n i:Nat),f+i=v.d.length→1≤n→n≤m→min (n+((v.d.drop i).map fun p=>Cv p.2).sum) m=min N m→Vu m n i x0 x1 x2 xs x4 (Bj v.d) K:=by
 intro f
 induction f with
 |zero=>
  intro n i hf h1 h2 hN
  refine Amj _ _ _ _ _ _ _ _ _ _ (Let.intro ⟨fun h=> ?_,fun _=> ?_⟩)
  ·have h:=bAT h
   have:=h.1
   rw [A9]at this;omega
  ·rw [List.drop_of_length_le (by omega)]at hN
   simp only [List.map_nil,List.sum_nil,Nat.add_zero]at hN
   have e:n=min N m:=by omega
   rw [e];exact hE
 |succ f ihf=>
  intro n i hf h1 h2 hN
  have hlt:i<v.d.length:=by omega
  have hv:Bq v.d i=v.d[i]:=by simp [Bq,List.getD_eq_getElem?_getD,hlt]
  refine Amj _ _ _ _ _ _ _ _ _ _ (Let.intro ⟨fun h=> ?_,fun h=> ?_⟩)
  ·have h:=bAT h
   have hnm:n<m:=by have:=h.2;omega
   rw [show(Bj v.d).getD (Int.toNat (i:Int)) []=Bl (Bq v.d i) from Nn _ _ hlt,Le,A9]
   refine⟨⟨⟨by omega,by omega⟩,Dp _ _ _⟩, ?_⟩
   have w1:IntKind.i64.wrap ((m:Int) - n)=((m - n:Nat):Int):=by rw [Bc _ (by omega) (by omega)];omega
   have w2:IntKind.i64.wrap ((i:Int)+1)=((i+1:Nat):Int):=by rw [Bc _ (by omega) (by omega)];simp
   rw [w1,w2]
   have hx:Bq v.d i∈v.d:=by rw [hv];exact List.getElem_mem hlt
   refine Call.use (ih _ hx (m - n) (by omega) (by omega)) ⟨⟨rfl,rfl⟩, ?_⟩
   rw [Bff _ _ _ hlt, ←hv]at hN
   generalize Cv (Bq v.d i).2=c at*
   show Vu _ (IntKind.i64.wrap ((n:Int)+((min c (m - n):Nat):Int))) _ _ _ _ _ _ _ _
   have w3:IntKind.i64.wrap ((n:Int)+((min c (m - n):Nat):Int))=((n+min c (m - n):Nat):Int):=by rw [Bc _ (by omega) (by omega)];simp
   rw [w3]
   exact ihf _ (i+1) (by omega) (by omega) (by omega) (by omega)
  ·have hnm:¬n<m:=by
    intro c
    have h:=bAF h
    rw [A9]at h
    exact h ⟨by omega,by omega⟩
   have e:n=min N m:=by omega
   rw [e];exact hE
theorem Btl(v:V)(hv:Wf v):A44 v:=by
 induction hv with
 |mk v _ _ _ _ h1 h2 _ _ _ ih1 ih2=>
  intro m hm hm2
  have he:=Q7 v
  have ih2:∀p∈v.d,A44 p.2:=fun p hp=>(ih2 p hp)
  generalize hQ:Is (.imm (.int .i64 ((min (Cv v) m:Nat):Int))) []=Q
  have hq:Q (.imm (.int .i64 ((min (Cv v) m:Nat):Int))) []:=by rw [←hQ];exact⟨rfl,rfl⟩
  rw [Db]
  refine Bal _ _ _ _ _ _ _ _ ?_
  refine Bqf v h1 ih1 m hm2 _ _ _ _ _ _ (1+(v.l.map Cv).sum) (A4i _ _ _ _ _ _ _ _ _ (A31 _ _ _ _ _ _ _ _ _ ?_)) v.l.length 1 0 rfl (by omega) hm (by simp)
  refine Bqg v h2 ih2 m hm2 _ _ _ _ _ _ (Cv v) (A4k _ _ (A0q _ _ (A4j _ _ (A4h _ _ hq)))) v.d.length _ 0 rfl (by omega) (by omega) ?_
  rw [he]
  simp only [List.drop_zero]
  omega
end Go.Proofs.Sim.Se
namespace Go.Proofs.Sim.Se
open Go Go.Proofs Go.Proofs.Sim Go.Proofs.Sim.Va Go.Proofs.Sim.St
def Gd(p:Prop)(r:AV)(h:Heap):Prop:=∃c:Bool,r= .imm (.bool c)∧h=[]∧(c=true→p)
theorem Ahm {P:Program} {f:Nat} {args:List AV} {p:Prop} {Q:AV→Heap→Prop} (hc:Call P f args [] (Gd p))(h:∀c:Bool,(c=true→p)→Q (.imm (.bool c)) []):Call P f args [] Q:=
 hc.mono fun r g ⟨c,e1,e2,e3⟩=>by subst e1 e2;exact h c e3
inductive Aiu:Int→V→Prop where
 |mk (m:Int) (v:V):0≤m→(∀x∈v.l,Aiu (m - 1) x)→(∀p∈v.d,Aiu (m - 1) p.2)→Aiu m v
inductive Ta:Int→V→Prop where
 |mk (m:Int) (v:V):v.s.length≤m→(∀x∈v.l,Ta m x)→(∀p∈v.d,p.1.length≤m)→(∀p∈v.d,Ta m p.2)→Ta m v
abbrev Bbf(v:V):Prop:=∀m:Int, -1≤m→m≤1000000→Call E0.P Ad8 [.imm (.agg v.row), .imm (.int .i64 m)] [] (Gd (Aiu m v))
abbrev Axx(v:V):Prop:=∀m:Int,Call E0.P Tg [.imm (.agg v.row), .imm (.int .i64 m)] [] (Gd (Ta m v))
theorem Ab1 {α:Type} {P:α→Prop} (l:List α)(i:Nat)(h:i<l.length)(ha:∀x∈l.take i,P x)(hx:P l[i]):∀x∈l.take (i+1),P x:=by
 intro x h'
 rw [List.take_add_one]at h'
 rcases List.mem_append.1 h' with h' |h'
 ·exact ha x h'
 ·simp [h]at h';rw [h'];exact hx
theorem Bsw(v:V)(hl:v.l.length≤9223372036854775807)(ih:∀x∈v.l,Bbf x)(m:Int)(hm0:0≤m)(hm:m≤1000000)(x0 x1 x2:Int)(xs:List UInt8)(x5:List (List IV))(K:Ex→St→Prop)
 (hF:K .ret ⟨[(4, .imm (.bool false))],[]⟩)
 (hE:(∀x∈v.l,Aiu (m - 1) x)→K (.exit 0) ⟨[(1,(.imm (.int .i64 m))),(2,(.ptr (Nm.loc (2:Nat)) 0))],[((Nm.loc (2:Nat)),(.blk Aa [(.imm (.int .i64 x0)),(.imm (.int .i64 x1)),(.imm (.int .i64 x2)),(.imm (.str xs)),(.imm (.sl .any 6 (H7 v.l))),(.imm (.sl .any 7 x5))]))]⟩):
 ∀(f i:Nat),f+i=v.l.length→(∀x∈v.l.take i,Aiu (m - 1) x)→Agm m i x0 x1 x2 xs (H7 v.l) x5 K:=by
 intro f
 induction f with
 |zero=>
  intro i hf ha
  refine Aqu _ _ _ _ _ _ _ _ _ ⟨fun h=> ?_,fun _=>hE ?_⟩
  ·have:=of_decide_eq_true h
   rw [Er]at this;omega
  ·rw [List.take_of_length_le (by omega)]at ha;exact ha
 |succ f ihf=>
  intro i hf ha
  have hlt:i<v.l.length:=by omega
  have hv:J8 v.l i=v.l[i]:=by simp [J8,List.getD_eq_getElem?_getD,hlt]
  refine Aqu _ _ _ _ _ _ _ _ _ ⟨fun h=> ?_,fun h=> ?_⟩
  ·rw [show(H7 v.l).getD (Int.toNat (i:Int)) []=(J8 v.l i).row from Ue _ _ hlt,Ep,Er]
   refine⟨⟨⟨by omega,by omega⟩,Uf _ _ _⟩, ?_⟩
   have w1:IntKind.i64.wrap (m - 1)=m - 1:=Bc _ (by omega) (by omega)
   have w2:IntKind.i64.wrap ((i:Int)+1)=((i+1:Nat):Int):=by rw [Bc _ (by omega) (by omega)];simp
   rw [w1,w2]
   refine Ahm (ih _ (by rw [hv];exact List.getElem_mem hlt) (m - 1) (by omega) (by omega)) fun c hc=>⟨⟨rfl,rfl⟩,⟨fun _=>hF,fun h=> ?_⟩⟩
   have h:(!c)=false:=h
   exact ihf (i+1) (by omega) (Ab1 _ _ hlt ha (by rw [←hv];exact hc (by simpa using h)))
  ·have:=of_decide_eq_false h
   rw [Er]at this;omega
theorem Bsx(v:V)(hl:v.d.length≤9223372036854775807)(ih:∀x∈v.d,Bbf x.2)(m:Int)(hm0:0≤m)(hm:m≤1000000)(x0 x1 x2:Int)(xs:List UInt8)(x4:List (List IV))(K:Ex→St→Prop)
 (hF:K .ret ⟨[(4, .imm (.bool false))],[]⟩)(hE:(∀x∈v.d,Aiu (m - 1) x.2)→K (.exit 2) ⟨[],[]⟩):
 ∀(f i:Nat),f+i=v.d.length→(∀x∈v.d.take i,Aiu (m - 1) x.2)→Ado m i x0 x1 x2 xs x4 (Bj v.d) K:=by
 intro f
 induction f with
 |zero=>
  intro i hf ha
  refine An3 _ _ _ _ _ _ _ _ _ ⟨fun h=> ?_,fun _=>hE ?_⟩
  ·have:=of_decide_eq_true h
   rw [A9]at this;omega
  ·rw [List.take_of_length_le (by omega)]at ha;exact ha
 |succ f ihf=>
  intro i hf ha
  have hlt:i<v.d.length:=by omega
  have hv:Bq v.d i=v.d[i]:=by simp [Bq,List.getD_eq_getElem?_getD,hlt]
  refine An3 _ _ _ _ _ _ _ _ _ ⟨fun h=> ?_,fun h=> ?_⟩
  ·rw [show(Bj v.d).getD (Int.toNat (i:Int)) []=Bl (Bq v.d i) from Nn _ _ hlt,Le,A9]
   refine⟨⟨⟨by omega,by omega⟩,Dp _ _ _⟩, ?_⟩
   have w1:IntKind.i64.wrap (m - 1)=m - 1:=Bc _ (by omega) (by omega)
   have w2:IntKind.i64.wrap ((i:Int)+1)=((i+1:Nat):Int):=by rw [Bc _ (by omega) (by omega)];simp
   rw [w1,w2]
   refine Ahm (ih _ (by rw [hv];exact List.getElem_mem hlt) (m - 1) (by omega) (by omega)) fun c hc=>⟨⟨rfl,rfl⟩,⟨fun _=>hF,fun h=> ?_⟩⟩
   have h:(!c)=false:=h
   exact ihf (i+1) (by omega) (Ab1 (P:=fun x:Pr=>Aiu (m - 1) x.2) _ _ hlt ha (by rw [←hv];exact hc (by simpa using h)))
  ·have:=of_decide_eq_false h
   rw [A9]at this;omega
theorem Bvl(v:V)(hv:Wf v):Bbf v:=by
 induction hv with
 |mk v _ _ _ _ h1 h2 _ _ _ ih1 ih2=>
  intro m hm0 hm
  have ih2:∀p∈v.d,Bbf p.2:=fun p hp=>(ih2 p hp)
  generalize hQ:Gd (Aiu m v)=Q
  have hF:Q (.imm (.bool false)) []:=by rw [←hQ];exact⟨false,rfl,rfl,fun h=>by cases h⟩
  have hT:Aiu m v→Q (.imm (.bool true)) []:=fun h=>by rw [←hQ];exact⟨true,rfl,rfl,fun _=>h⟩
  rw [Db]
  refine Bbw _ _ _ _ _ _ _ _ ⟨fun _=>hF,fun h=> ?_⟩
  have hm0:0≤m:=by have:=of_decide_eq_false h;omega
  refine Bsw v h1 ih1 m hm0 hm _ _ _ _ _ _ (A69 _ _ hF) (fun a1=>A7a _ _ _ _ _ _ _ _ (A3v _ _ _ _ _ _ _ _ ?_)) v.l.length 0 rfl (by simp)
  exact Bsx v h2 ih2 m hm0 hm _ _ _ _ _ _ (A7c _ _ (Aqm _ _ hF)) (fun a2=>A7d _ (A3w _ (A7b _ _ (Aqm _ _ (hT (.mk m v hm0 a1 a2)))))) v.d.length 0 rfl (by simp)
theorem Bmq(v:V)(hl:v.l.length≤9223372036854775807)(ih:∀x∈v.l,Axx x)(m:Int)(x0 x1 x2:Int)(xs:List UInt8)(x5:List (List IV))(K:Ex→St→Prop)
 (hF:K .ret ⟨[(4, .imm (.bool false))],[]⟩)
 (hE:(∀x∈v.l,Ta m x)→K (.exit 0) ⟨[(1,(.imm (.int .i64 m))),(2,(.ptr (Nm.loc (2:Nat)) 0))],[((Nm.loc (2:Nat)),(.blk Aa [(.imm (.int .i64 x0)),(.imm (.int .i64 x1)),(.imm (.int .i64 x2)),(.imm (.str xs)),(.imm (.sl .any 6 (H7 v.l))),(.imm (.sl .any 7 x5))]))]⟩):
 ∀(f i:Nat),f+i=v.l.length→(∀x∈v.l.take i,Ta m x)→Aa0 m i x0 x1 x2 xs (H7 v.l) x5 K:=by
 intro f
 induction f with
 |zero=>
  intro i hf ha
  refine Ami _ _ _ _ _ _ _ _ _ ⟨fun h=> ?_,fun _=>hE ?_⟩
  ·have:=of_decide_eq_true h
   rw [Er]at this;omega
  ·rw [List.take_of_length_le (by omega)]at ha;exact ha
 |succ f ihf=>
  intro i hf ha
  have hlt:i<v.l.length:=by omega
  have hv:J8 v.l i=v.l[i]:=by simp [J8,List.getD_eq_getElem?_getD,hlt]
  refine Ami _ _ _ _ _ _ _ _ _ ⟨fun h=> ?_,fun h=> ?_⟩
  ·rw [show(H7 v.l).getD (Int.toNat (i:Int)) []=(J8 v.l i).row from Ue _ _ hlt,Ep,Er]
   refine⟨⟨⟨by omega,by omega⟩,Uf _ _ _⟩, ?_⟩
   have w2:IntKind.i64.wrap ((i:Int)+1)=((i+1:Nat):Int):=by rw [Bc _ (by omega) (by omega)];simp
   rw [w2]
   refine Ahm (ih _ (by rw [hv];exact List.getElem_mem hlt) m) fun c hc=>⟨⟨rfl,rfl⟩,⟨fun _=>hF,fun h=> ?_⟩⟩
   have h:(!c)=false:=h
   exact ihf (i+1) (by omega) (Ab1 _ _ hlt ha (by rw [←hv];exact hc (by simpa using h)))
  ·have:=of_decide_eq_false h
   rw [Er]at this;omega
theorem Bmr(v:V)(hl:v.d.length≤9223372036854775807)(ih:∀x∈v.d,Axx x.2)(m:Int)(x0 x1 x2:Int)(xs:List UInt8)(x4:List (List IV))(K:Ex→St→Prop)
 (hF:K .ret ⟨[(4, .imm (.bool false))],[]⟩)(hE:(∀x∈v.d,((x.1.length:Nat):Int)≤m∧Ta m x.2)→K (.exit 2) ⟨[],[]⟩):
 ∀(f i:Nat),f+i=v.d.length→(∀x∈v.d.take i,((x.1.length:Nat):Int)≤m∧Ta m x.2)→Y0 m i x0 x1 x2 xs x4 (Bj v.d) K:=by
 intro f
 induction f with
 |zero=>
  intro i hf ha
  refine Ajs _ _ _ _ _ _ _ _ _ ⟨fun h=> ?_,fun _=>hE ?_⟩
  ·have:=of_decide_eq_true h
   rw [A9]at this;omega
  ·rw [List.take_of_length_le (by omega)]at ha;exact ha
 |succ f ihf=>
  intro i hf ha
  have hlt:i<v.d.length:=by omega
  have hv:Bq v.d i=v.d[i]:=by simp [Bq,List.getD_eq_getElem?_getD,hlt]
  refine Ajs _ _ _ _ _ _ _ _ _ ⟨fun h=> ?_,fun h=> ?_⟩
  ·have g0:∀x:Pr,gS (Bl x) 0=x.1:=fun x=>by rw [F7];rfl
   rw [show(Bj v.d).getD (Int.toNat (i:Int)) []=Bl (Bq v.d i) from Nn _ _ hlt,Le,g0,A9]
   have rng:((0:Int)≤(i:Int)∧(i:Int)<(v.d.length:Int))∧Bt [.str, .int .i64, .int .i64, .int .i64, .str, .sl 6 Aa, .sl 7 Ag] (Bl (Bq v.d i))=true:=⟨⟨by omega,by omega⟩,Dp _ _ _⟩
   refine⟨rng,⟨fun _=>rng,⟨fun hk=> ?_,fun _=>⟨rfl,Let.intro ⟨fun _=>hF,fun h=>absurd h (by decide)⟩⟩⟩⟩⟩
   have w2:IntKind.i64.wrap ((i:Int)+1)=((i+1:Nat):Int):=by rw [Bc _ (by omega) (by omega)];simp
   refine Ahm (ih _ (by rw [hv];exact List.getElem_mem hlt) m) fun c hc=>⟨⟨rfl,rfl⟩,Let.intro ⟨fun _=>hF,fun h=> ?_⟩⟩
   have h:(!c)=false:=h
   have hk:((Bq v.d i).1.length:Int)≤m:=by
    have:decide (m<((Bq v.d i).1.length:Int))=false:=by simpa using hk
    have:=of_decide_eq_false this
    omega
   refine Ay0 _ _ _ _ _ _ _ _ _ ?_
   rw [w2]
   refine A14 _ _ _ _ _ _ _ _ _ (ihf (i+1) (by omega) (Ab1 (P:=fun x:Pr=>((x.1.length:Nat):Int)≤m∧Ta m x.2) _ _ hlt ha ?_))
   rw [←hv]
   exact⟨hk,hc (by simpa using h)⟩
  ·have:=of_decide_eq_false h
   rw [A9]at this;omega
theorem Bqt(v:V)(hv:Wf v):Axx v:=by
 induction hv with
 |mk v _ _ _ _ h1 h2 _ _ _ ih1 ih2=>
  intro m
  have ih2:∀p∈v.d,Axx p.2:=fun p hp=>(ih2 p hp)
  generalize hQ:Gd (Ta m v)=Q
  have hF:Q (.imm (.bool false)) []:=by rw [←hQ];exact⟨false,rfl,rfl,fun h=>by cases h⟩
  have hT:Ta m v→Q (.imm (.bool true)) []:=fun h=>by rw [←hQ];exact⟨true,rfl,rfl,fun _=>h⟩
  rw [Db]
  refine A6u _ _ _ _ _ _ _ _ ⟨fun _=>hF,fun h=> ?_⟩
  have hs:v.s.length≤m:=by have:=of_decide_eq_false h;omega
  refine Bmq v h1 ih1 m _ _ _ _ _ _ (A1z _ _ hF) (fun a1=>A10 _ _ _ _ _ _ _ _ (Ayz _ _ _ _ _ _ _ _ ?_)) v.l.length 0 rfl (by simp)
  exact Bmr v h2 ih2 m _ _ _ _ _ _ (A12 _ _ (Alx _ _ hF)) (fun a2=>A13 _ (Ay1 _ (A11 _ _ (Alx _ _ (hT (.mk m v hs a1 (fun p hp=>(a2 p hp).1) (fun p hp=>(a2 p hp).2))))))) v.d.length 0 rfl (by simp)
structure Bb0 (n:Nat) (v:V):Prop where
 c:Cv v≤n
 l:Aiu 200 v
 s:Ta 3000 v
theorem Bvi(v:V)(hv:Wf v)(n:Nat)(hn:n≤1000000):Call E0.P Ass [.imm (.agg v.row), .imm (.int .i64 n)] [] (Gd (Bb0 n v)):=by
 have a1:=Btl v hv (n+1) (by omega) (by omega)
 have a2:=Bvl v hv 200 (by omega) (by omega)
 have a3:=Bqt v hv 3000
 generalize hQ:Gd (Bb0 n v)=Q
 have hF:Q (.imm (.bool false)) []:=by rw [←hQ];exact⟨false,rfl,rfl,fun h=>by cases h⟩
 have hT:∀c:Bool,(c=true→Bb0 n v)→Q (.imm (.bool c)) []:=fun c h=>by rw [←hQ];exact⟨c,rfl,rfl,h⟩
 rw [Db]at a1 a2 a3 ⊢
 have w:IntKind.i64.wrap ((n:Int)+1)=((n+1:Nat):Int):=by rw [Bc _ (by omega) (by omega)];simp
 refine Bbu _ _ _ _ _ _ _ _ ?_
 rw [w]
 refine Call.use a1 ⟨⟨rfl,rfl⟩,⟨fun h=> ?_,fun _=> ?_⟩⟩
 ·have hc:Cv v≤n:=by
   have h:(decide (((min (Cv v) (n+1):Nat):Int)≤(n:Int)) == true)=true:=h
   have:((min (Cv v) (n+1):Nat):Int)≤(n:Int):=by simpa using h
   omega
  refine Ahm a2 fun c2 h2=>⟨⟨rfl,rfl⟩,Let.intro ⟨fun e2=> ?_,fun _=>⟨rfl,Let.intro hF⟩⟩⟩
  have e2:c2=true:=by have e2:(c2 == true)=true:=e2;simpa using e2
  exact Ahm a3 fun c3 h3=>⟨⟨rfl,rfl⟩,Let.intro (hT c3 fun e3=>⟨hc,h2 e2,h3 e3⟩)⟩
 ·exact⟨rfl,Let.intro ⟨fun h=>absurd h (by decide),fun _=>⟨rfl,Let.intro hF⟩⟩⟩
end Go.Proofs.Sim.Se

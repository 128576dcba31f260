import Derived.Test.YtcdjheflchglaaaVsB
namespace Go.Proofs.Sim.Se
open Go Go.Proofs Go.Proofs.Sim Go.Proofs.Sim.Va Go.Proofs.Sim.St
theorem Ber(k n g:Int)(s:List UInt8)(l:List V)(d:List Pr):(mkP k n g s l d).d=[]∨(mkP k n g s l d).d=(uniq d).filter Tp:=by
 unfold mkP
 split
 ·exact .inl rfl
 split
 ·exact .inl rfl
 split
 ·exact .inl rfl
 split
 ·exact .inr rfl
 split
 ·exact .inl rfl
 split
 ·exact .inr rfl
 ·exact .inl rfl
theorem A3f(v:V):v.plain.d=[]∨v.plain.d=plD v.d:=by
 rw [Ako];exact Ber _ _ _ _ _ _
theorem Azg(l:List Pr):(uniq l).length≤l.length:=by
 have:=(Abf (Ck l)).length_le
 rw [show(Ck l).length=l.length from Gm ordK l]at this
 exact this
theorem A43(v:V):v.plain.d.length≤v.d.length:=by
 rcases A3f v with h |h<;>rw [h]
 ·simp
 ·refine Nat.le_trans (List.length_filter_le _ _) (Nat.le_trans (Azg _) (by simp [O9]))
theorem A7q:zero.row=[.int .i64 0, .int .i64 0, .int .i64 0, .str [], .sl .any 6 [], .sl .any 7 []]:=by
 rw [Hz];rfl
end Go.Proofs.Sim.Se
namespace Go.Proofs.Sim.Se
open Go Go.Proofs Go.Proofs.Sim Go.Proofs.Sim.Va Go.Proofs.Sim.St
theorem Ajb(ps:List Pr)(n:Nat)(h:n<ps.length):(Bp ps).getD n []=Cm (Cu ps n):=by simp [List.getD_eq_getElem?_getD,h]
theorem Azw(p:Pr)(X R:List Pr)(h:∀q∈X,bl p.1 q.1=false):Kb p (X++R)=X++Kb p R:=by
 induction X with
 |nil=>rfl
 |cons x X ih=>
  rw [List.cons_append,Kb,h x (by simp),ih fun q hq=>h q (by simp [hq])]
  rfl
theorem A86(p:Pr)(d:List Pr):(Kb p d).length=d.length+1:=by
 induction d with
 |nil=>rfl
 |cons x r ih=>
  rw [Kb];split<;>simp [ih]
theorem A95(d:List Pr)(p:Pr)(hd:d.length≤1000000000000)(K:Ex→St→Prop)(hR:d.any (fun q=>q.1 == p.1)=true→K .ret ⟨[(4, .imm (.sl .any 7 (Bp d)))],[]⟩)
 (hE:∀(b:Bool) (out:List Pr),(d.any (fun q=>q.1 == p.1)=false)→(if b then Kb p d=out else(out=d∧Kb p d=d++[p]))→K (.exit 0) ⟨[(3,(.ptr (Nm.loc (3:Nat)) 0)),(5,(.own (Nm.loc (8:Nat)))),(6,(.imm (.bool b)))],[((Nm.loc (3:Nat)),(.blk Ag [(.imm (.str (p.1))),(.imm (.int .i64 (p.2.k))),(.imm (.int .i64 (p.2.n))),(.imm (.int .i64 (p.2.g))),(.imm (.str p.2.s)),(.imm (.sl .any 6 (p.2.l.map V.row))),(.imm (.sl .any 7 (p.2.d.map Cm)))])),((Nm.loc (8:Nat)),(.arr 0 true 7 (Bp out)))]⟩):
 ∀(R X:List Pr) (i:Nat) (b:Bool) (out:List Pr),d=X++R→i=X.length→(X.any (fun q=>q.1 == p.1)=false)→(if b then Kb p d=out++R else(out=X∧∀q∈X,bl p.1 q.1=false))→
 Aa8 (Bp d) b i p.1 p.2.k p.2.n p.2.g p.2.s (p.2.l.map V.row) (p.2.d.map Cm) (Bp out) K
 | [],X,i,b,out,hX,hi,ha,hb=>by
   simp only [List.append_nil]at hX hb
   subst hX
   refine Ai9 _ _ _ _ _ _ _ _ _ _ _ _ ⟨fun h=> ?_,fun _=>hE b out ha ?_⟩
   ·have:=of_decide_eq_true h
    rw [Bc]at this;omega
   ·cases b with
    |true=>exact hb
    |false=>
     obtain⟨h1,h2⟩:=hb
     refine⟨h1, ?_⟩
     have:=Azw p d [] h2
     simpa [Kb] using this
 |x::R,X,i,b,out,hX,hi,ha,hb=>by
  have hlt:i<d.length:=by rw [hX];simp;omega
  have hx:Cu d i=x:=by rw [hX];exact Jg _ _ _ _ hi
  have hr:=Ajb d i hlt
  rw [hx]at hr
  have hxd:d=(X++[x])++R:=by rw [hX];simp
  have g0:gS (Cm x) 0=x.1:=by rw [Hu];rfl
  have w:IntKind.i64.wrap ((i:Int)+1)=((i+1:Nat):Int):=by rw [Be _ (by omega) (by omega)];simp
  have hol:out.length≤i+1:=by
   cases b with
   |true=>
    have:=congrArg List.length (show Kb p d=out++(x::R) from hb)
    rw [A86,hX]at this
    simp at this;omega
   |false=>rw [hb.1];omega
  refine Ai9 _ _ _ _ _ _ _ _ _ _ _ _ ⟨fun _=> ?_,fun h=> ?_⟩
  ·simp only [Int.toNat_natCast]
   rw [hr,Bc,g0]
   have rng:((0:Int)≤(i:Int)∧(i:Int)<(d.length:Int))∧Ch [.str, .int .i64, .int .i64, .int .i64, .str, .sl 6 Aa, .sl 7 Ag] (Cm x)=true:=⟨⟨by omega,by omega⟩,Fq _ _ _⟩
   refine⟨rng,⟨fun he=>hR ?_,fun he=>⟨fun _=>rng,Let.intro ?_⟩⟩⟩
   ·rw [hX,List.any_append,List.any_cons,he];simp
   have ha':(X++[x]).any (fun q=>q.1 == p.1)=false:=by
    rw [List.any_append,ha,List.any_cons,he];rfl
   have go:∀(b':Bool) (o:List Pr),o.length≤i+1→(if b' then Kb p d=(o++[x])++R else(o++[x]=X++[x]∧∀q∈X++[x],bl p.1 q.1=false))→
    Zl (Bp d) b' i p.1 p.2.k p.2.n p.2.g p.2.s (p.2.l.map V.row) (p.2.d.map Cm) (Bp o) (Aba K):=by
    intro b' o hol' hb'
    refine At6 _ _ _ _ _ _ _ _ _ _ _ _ ?_
    simp only [Int.toNat_natCast]
    rw [hr,Ep,Bc,Bc]
    refine⟨rng,⟨by constructor<;>omega, ?_⟩⟩
    refine Av1 _ _ _ _ _ _ _ _ _ _ _ _ (Atk _ _ _ _ _ _ _ _ _ _ _ _ ?_)
    rw [w]
    refine Ava _ _ _ _ _ _ _ _ _ _ _ _ ?_
    have e:Bp o++[Cm x]=Bp (o++[x]):=by simp [Bp]
    rw [e]
    exact A95 d p hd K hR hE R (X++[x]) (i+1) b' (o++[x]) hxd (by simp;omega) ha' hb'
   refine⟨fun hl=> ?_,fun hl=> ?_⟩
   ·have hb0:b=false:=by cases b<;>simp_all
    subst hb0
    have hl:bl p.1 x.1=true:=hl
    have e:Bp out++[[.str p.1, .int .i64 p.2.k, .int .i64 p.2.n, .int .i64 p.2.g, .str p.2.s, .sl .any 6 (p.2.l.map V.row), .sl .any 7 (p.2.d.map Cm)]]=Bp (out++[p]):=by
     rw [←Hu];simp [Bp]
    rw [e,Bc]
    refine⟨by constructor<;>omega,go true (out++[p]) (by rw [hb.1];simp;omega) ?_⟩
    show Kb p d=_
    rw [hX,Azw p X _ hb.2,hb.1,Kb,hl]
    simp
   ·refine go b out hol ?_
    cases b with
    |true=>
     have hb:Kb p d=out++(x::R):=hb
     show Kb p d=_
     rw [hb];simp
    |false=>
     have hl:bl p.1 x.1=false:=hl
     refine⟨by rw [hb.1],fun q hq=> ?_⟩
     rcases List.mem_append.1 hq with hq |hq
     ·exact hb.2 q hq
     ·rw [List.mem_singleton]at hq;rw [hq];exact hl
  ·have:=of_decide_eq_false h
   rw [Bc]at this;omega
theorem Bek(d:List Pr)(p:Pr)(hd:d.length≤1000000000000):Call E0.P Alg [.imm (.sl .any 7 (Bp d)), .imm (.agg (Cm p))] [] (Is (.imm (.sl .any 7 (Bp (put d p)))) []):=by
 rw [Hu]
 refine Ay4 _ _ _ _ _ _ _ _ _ ?_
 refine A95 d p hd _ (fun h=> ?_) (fun b out ha hb=> ?_) d [] 0 false [] rfl rfl rfl ⟨rfl,by simp⟩
 ·refine Avp _ _ ?_
  rw [Va.put,h];exact⟨rfl,rfl⟩
 ·refine Avx _ _ _ _ _ _ _ _ _ _ (Atd _ _ _ _ _ _ _ _ _ _ ⟨fun hn=> ?_,fun hn=> ?_⟩)
  ·have hb0:b=false:=by cases b<;>simp_all
   subst hb0
   obtain⟨h1,h2⟩:=hb
   subst h1
   have e:Bp out++[[.str p.1, .int .i64 p.2.k, .int .i64 p.2.n, .int .i64 p.2.g, .str p.2.s, .sl .any 6 (p.2.l.map V.row), .sl .any 7 (p.2.d.map Cm)]]=Bp (Kb p out):=by
    rw [←Hu,h2];simp [Bp]
   rw [e,Bc]
   refine⟨by constructor<;>omega,Ajc _ _ ?_⟩
   rw [Va.put,ha];exact⟨rfl,rfl⟩
  ·have hb0:b=true:=by cases b<;>simp_all
   subst hb0
   have hb:Kb p d=out:=hb
   refine Ajc _ _ ?_
   rw [Va.put,ha, ←hb];exact⟨rfl,rfl⟩
abbrev Aai(v:V):Prop:=Call E0.P M9 [.imm (.agg v.row)] [] (Is (.imm (.agg v.plain.row)) [])
theorem Ap8(l:List Pr):(l.foldl put []).length≤l.length:=by rw [A0b];exact Azg l
theorem A9z(d:List Pr)(hd:d.length≤1000000000000)(ih:∀p∈d,Aai p.2)(K:Ex→St→Prop)(hE:K (.exit 0) ⟨[(3,(.imm (.sl .any 7 (Bp ((O9 d).foldl put [])))))],[]⟩):
 ∀(R X:List Pr) (i:Nat),d=X++R→i=X.length→Ww (Bp d) i (Bp ((O9 X).foldl put [])) K
 | [],X,i,hX,hi=>by
   simp only [List.append_nil]at hX
   subst hX
   refine Af7 _ _ _ _ ⟨fun h=> ?_,fun _=>hE⟩
   have:=of_decide_eq_true h
   rw [Bc]at this;omega
 |x::R,X,i,hX,hi=>by
  have hlt:i<d.length:=by rw [hX];simp;omega
  have hx:Cu d i=x:=by rw [hX];exact Jg _ _ _ _ hi
  have hr:=Ajb d i hlt
  rw [hx]at hr
  have w:IntKind.i64.wrap ((i:Int)+1)=((i+1:Nat):Int):=by rw [Be _ (by omega) (by omega)];simp
  refine Af7 _ _ _ _ ⟨fun _=> ?_,fun h=> ?_⟩
  ·simp only [Int.toNat_natCast]
   rw [hr,Bc,Ahi,w]
   have rng:((0:Int)≤(i:Int)∧(i:Int)<(d.length:Int))∧Ch [.str, .int .i64, .int .i64, .int .i64, .str, .sl 6 Aa, .sl 7 Ag] (Cm x)=true:=⟨⟨by omega,by omega⟩,Fq _ _ _⟩
   refine⟨rng,⟨rng, ?_⟩⟩
   refine Call.use (ih x (by rw [hX];simp)) ⟨⟨rfl, ?_⟩, ?_⟩
   ·rw [An1,Ma]
   rw [An1,Axn]
   have hl:=Ap8 (O9 X)
   have hl2:(O9 X).length=X.length:=by simp [O9]
   refine Call.use (Bek _ _ (by omega)) ⟨⟨rfl,rfl⟩, ?_⟩
   have e:put ((O9 X).foldl put []) (x.1,x.2.plain)=(O9 (X++[x])).foldl put []:=by simp [O9,List.foldl_append]
   rw [e]
   exact A9z d hd ih K hE R (X++[x]) (i+1) (by rw [hX];simp) (by simp;omega)
  ·have:=of_decide_eq_false h
   rw [Bc]at this;omega
theorem A3u(d:List Pr)(hd:d.length≤1000000000000)(K:Ex→St→Prop)(hE:K (.exit 2) ⟨[(5,(.own (Nm.loc (28:Nat))))],[((Nm.loc (28:Nat)),(.arr 0 true 7 (Bp (d.filter Tp))))]⟩):
 ∀(R X:List Pr) (i:Nat),d=X++R→i=X.length→Ux i (Bp d) (Bp (X.filter Tp)) K
 | [],X,i,hX,hi=>by
   simp only [List.append_nil]at hX
   subst hX
   refine Adk _ _ _ _ ⟨fun h=> ?_,fun _=>hE⟩
   have:=of_decide_eq_true h
   rw [Bc]at this;omega
 |x::R,X,i,hX,hi=>by
  have hlt:i<d.length:=by rw [hX];simp;omega
  have hx:Cu d i=x:=by rw [hX];exact Jg _ _ _ _ hi
  have hr:=Ajb d i hlt
  rw [hx]at hr
  have g1:gI (Cm x) 1=x.2.k:=by rw [Hu];rfl
  have w:IntKind.i64.wrap ((i:Int)+1)=((i+1:Nat):Int):=by rw [Be _ (by omega) (by omega)];simp
  have hfl:(X.filter Tp).length≤X.length:=List.length_filter_le _ _
  refine Adk _ _ _ _ ⟨fun _=> ?_,fun h=> ?_⟩
  ·rw [show(Bp d).getD (Int.toNat (i:Int)) []=Cm x from hr,Bc,Bc,Ep,g1]
   have rng:((0:Int)≤(i:Int)∧(i:Int)<(d.length:Int))∧Ch [.str, .int .i64, .int .i64, .int .i64, .str, .sl 6 Aa, .sl 7 Ag] (Cm x)=true:=⟨⟨by omega,by omega⟩,Fq _ _ _⟩
   refine⟨rng,⟨fun hk=>⟨rng,⟨by constructor<;>omega, ?_⟩⟩,fun hk=> ?_⟩⟩
   ·have hk:Tp x=true:=hk
    have e:Bp (X.filter Tp)++[Cm x]=Bp ((X++[x]).filter Tp):=by rw [List.filter_append];simp [hk,Bp]
    refine Adl _ _ _ _ ?_
    rw [w,e]
    exact Afa _ _ _ _ (A3u d hd K hE R (X++[x]) (i+1) (by rw [hX];simp) (by simp;omega))
   ·have hk:Tp x=false:=hk
    have e:Bp (X.filter Tp)=Bp ((X++[x]).filter Tp):=by rw [List.filter_append];simp [hk,Bp]
    refine Adl _ _ _ _ ?_
    rw [w,e]
    exact Afa _ _ _ _ (A3u d hd K hE R (X++[x]) (i+1) (by rw [hX];simp) (by simp;omega))
  ·have:=of_decide_eq_false h
   rw [Bc]at this;omega
theorem A1a(d:List Pr)(hd:d.length≤1000000000000)(ih:∀p∈d,Aai p.2):Call E0.P Zi [.imm (.sl .any 7 (Bp d))] [] (Is (.imm (.sl .any 7 (Bp (plD d)))) []):=by
 refine Avd _ _ ?_
 have hl:=Ap8 (O9 d)
 have hl2:(O9 d).length=d.length:=by simp [O9]
 refine A9z d hd ih _ (Asq _ _ (Aqx _ _ ?_)) d [] 0 rfl rfl
 refine A3u _ (by omega) _ (Asr _ _ (Apz _ _ (Arz _ _ (Aqh _ _ ?_)))) _ [] 0 rfl rfl
 rw [A0b];exact⟨rfl,rfl⟩
end Go.Proofs.Sim.Se
namespace Go.Proofs.Sim.Se
open Go Go.Proofs Go.Proofs.Sim Go.Proofs.Sim.Va Go.Proofs.Sim.St
structure GN (Q:AV→Heap→Prop) (K:Ex→St→Prop):Prop where
 norm:∀(a b c y0 y1 y2:Int) (s ys:List UInt8) (l d p q:List (List IV)),Q (Yo a b c s l d) []→K .normal ⟨[(2,(.ptr (Nm.loc (2:Nat)) 0)),(3,(.ptr (Nm.loc (3:Nat)) 0))],[((Nm.loc (2:Nat)),(.blk Aa [(.imm (.int .i64 y0)),(.imm (.int .i64 y1)),(.imm (.int .i64 y2)),(.imm (.str ys)),(.own ((Nm.loc (2:Nat)).cell (4:Nat))),(.own ((Nm.loc (2:Nat)).cell (5:Nat)))])),((Nm.loc (3:Nat)),(.blk Aa [(.imm (.int .i64 a)),(.imm (.int .i64 b)),(.imm (.int .i64 c)),(.imm (.str s)),(.imm (.sl .any 6 l)),(.imm (.sl .any 7 d))])),(((Nm.loc (2:Nat)).cell (4:Nat)),(.arr (Aa+2) true 6 p)),(((Nm.loc (2:Nat)).cell (5:Nat)),(.arr (Ag+2) true 7 q))]⟩
 ret:∀(a b c:Int) (s:List UInt8) (l d:List (List IV)),Q (Yo a b c s l d) []→K .ret ⟨[(2,(.ptr (Nm.loc (2:Nat)) 0))],[((Nm.loc (2:Nat)),(.blk Aa [(.imm (.int .i64 a)),(.imm (.int .i64 b)),(.imm (.int .i64 c)),(.imm (.str s)),(.own ((Nm.loc (2:Nat)).cell (4:Nat))),(.own ((Nm.loc (2:Nat)).cell (5:Nat)))])),(((Nm.loc (2:Nat)).cell (4:Nat)),(.arr (Aa+2) true 6 l)),(((Nm.loc (2:Nat)).cell (5:Nat)),(.arr (Ag+2) true 7 d))]⟩
theorem Bfg(Q:AV→Heap→Prop):GN Q (Lg Q):=⟨fun a b c y0 y1 y2 s ys l d p q h=>Aq4 Q y0 y1 y2 ys a b c s l d p q (Apo _ _ _ _ _ _ _ _ _ _ _ _ _ (Arh Q _ _ _ _ _ _ h)),fun a b c s l d h=>Aqo Q a b c s l d h⟩
theorem Bdy {Q:AV→Heap→Prop} {K:Ex→St→Prop} (h:GN Q K):GN Q (Ji K):=⟨fun _a _b _c _y0 _y1 _y2 _s _ys _l _d _p _q hq=>Aqd K _ _ _ _ _ _ _ _ _ _ _ _ (h.norm _ _ _ _ _ _ _ _ _ _ _ _ hq),fun _a _b _c _s _l _d hq=>Ar9 K _ _ _ _ _ _ (h.ret _ _ _ _ _ _ hq)⟩
theorem Bdp(l:List V)(hl:l.length≤1000000000000)(ih:∀x∈l,Aai x)(x0 x1 x2 y0 y1 y2 z0 z1 z2:Int)(xs ys zs:List UInt8)(x5 z4 z5 p q:List (List IV))
 (Q:AV→Heap→Prop)(K:Ex→St→Prop)(hK:GN Q K)(hq:Q (Yo z0 z1 z2 zs (Nl (l.map V.plain)) z5) []):∀(R X:List V) (i:Nat),l=X++R→i=X.length→
 Um i x0 x1 x2 xs (Nl l) x5 y0 y1 y2 ys (Nl (X.map V.plain)) z0 z1 z2 zs z4 z5 p q (Acy K)
 | [],X,i,hX,hi=>by
   simp only [List.append_nil]at hX
   subst hX
   refine Adt _ _ _ _ _ _ _ _ _ _ _ _ _ _ _ _ _ _ _ _ _ ⟨fun h=> ?_,fun _=> ?_⟩
   ·have:=of_decide_eq_true h
    rw [Pz]at this;omega
   ·exact Arw _ _ _ _ _ _ _ _ _ _ _ _ _ _ (Ao8 _ _ _ _ _ _ _ _ _ _ _ _ _ _ ((Bdy hK).norm _ _ _ _ _ _ _ _ _ _ _ _ hq))
 |x::R,X,i,hX,hi=>by
  have hlt:i<l.length:=by rw [hX];simp;omega
  have hx:vAt l i=x:=by rw [hX,hi];simp [vAt,List.getD_eq_getElem?_getD]
  have hr:=Aou l i hlt
  rw [hx]at hr
  have w:IntKind.i64.wrap ((i:Int)+1)=((i+1:Nat):Int):=by rw [Be _ (by omega) (by omega)];simp
  refine Adt _ _ _ _ _ _ _ _ _ _ _ _ _ _ _ _ _ _ _ _ _ ⟨fun _=> ?_,fun h=> ?_⟩
  ·rw [show(Nl l).getD (Int.toNat (i:Int)) []=x.row from hr,Ma,w]
   refine⟨⟨⟨by omega,by rw [Pz];omega⟩,Aoy _ _ _⟩, ?_⟩
   refine Call.use (ih x (by rw [hX];simp)) ⟨⟨rfl, ?_⟩, ?_⟩
   ·rw [An1,Ma]
   ·rw [An1,Ma]
    refine⟨by rw [Pz,List.length_map];constructor<;>omega, ?_⟩
    have e:Nl (X.map V.plain)++[x.plain.row]=Nl ((X++[x]).map V.plain):=by simp [Nl]
    rw [e]
    exact Bdp l hl ih _ _ _ _ _ _ _ _ _ _ _ _ _ _ _ _ _ Q K hK hq R (X++[x]) (i+1) (by rw [hX];simp) (by simp;omega)
  ·have:=of_decide_eq_false h
   rw [Pz]at this;omega
theorem R_4(v:V)(h1:v.l.length≤1000000000000)(h2:v.d.length≤1000000000000)(ih1:∀x∈v.l,Aai x)(ih2:∀p∈v.d,Aai p.2)(b:Bool)(hb1:b=true→v.k=1∨v.k=2)(hb2:b=false→¬v.k=1∧¬v.k=2):
 Wq v.k b v.k v.n v.g v.s (Nl v.l) (Bp v.d) 0 0 0 [] v.k 0 0 [] [] [] [] [] (Lg (Is (.imm (.agg v.plain.row)) [])):=by
 have hp:=Axq v
 generalize hQ:Is (.imm (.agg v.plain.row)) []=Q
 have hG:=Bfg Q
 have fin:∀(a b c:Int) (s:List UInt8) (l d:List (List IV)),v.plain.row=[.int .i64 a, .int .i64 b, .int .i64 c, .str s, .sl .any 6 l, .sl .any 7 d]→Q (Yo a b c s l d) []:=by
  intro a b c s l d h
  rw [←hQ]
  exact⟨by rw [h],rfl⟩
 refine Ar0 _ _ _ _ _ _ _ _ _ _ _ _ _ _ _ _ _ _ _ _ _ ⟨fun h=>hG.norm _ _ _ _ _ _ _ _ _ _ _ _ (fin _ _ _ _ _ _ ?_),fun h=> ?_⟩
 ·rw [hp]
  rcases hb1 h with e |e<;>rw [e]<;>rfl
 obtain⟨k1,k2⟩:=hb2 h
 have hG2:=Bdy hG
 have six:∀(c:Bool),(c=true→v.k=3∨v.k=4)→(c=false→¬v.k=3∧¬v.k=4)→
  Xd v.k c v.k v.n v.g v.s (Nl v.l) (Bp v.d) 0 0 0 [] v.k 0 0 [] [] [] [] [] (Ji (Lg Q)):=by
  intro c hc1 hc2
  refine Ar6 _ _ _ _ _ _ _ _ _ _ _ _ _ _ _ _ _ _ _ _ _ ⟨fun h=>hG2.norm _ _ _ _ _ _ _ _ _ _ _ _ (fin _ _ _ _ _ _ ?_),fun h=> ?_⟩
  ·rw [hp]
   rcases hc1 h with e |e<;>rw [e]<;>rfl
  obtain⟨k3,k4⟩:=hc2 h
  refine⟨fun h=> ?_,fun h=> ?_⟩
  ·have k5:v.k=5:=of_decide_eq_true h
   refine Bdp v.l h1 ih1 _ _ _ _ _ _ _ _ _ _ _ _ _ _ _ _ _ Q _ hG2 (fin _ _ _ _ _ _ ?_) v.l [] 0 rfl rfl
   rw [hp,k5];rfl
  have k5:¬v.k=5:=of_decide_eq_false h
  refine⟨fun h=> ?_,fun h=> ?_⟩
  ·have k6:v.k=6:=of_decide_eq_true h
   refine Call.use (A1a v.d h2 ih2) ⟨⟨rfl,rfl⟩,hG2.norm _ _ _ _ _ _ _ _ _ _ _ _ (fin _ _ _ _ _ _ ?_)⟩
   rw [hp,k6];rfl
  have k6:¬v.k=6:=of_decide_eq_false h
  refine⟨fun h=> ?_,fun h=> ?_⟩
  ·have k7:v.k=7:=of_decide_eq_true h
   refine hG2.norm _ _ _ _ _ _ _ _ _ _ _ _ (fin _ _ _ _ _ _ ?_)
   rw [hp,k7];rfl
  have k7:¬v.k=7:=of_decide_eq_false h
  refine⟨fun h=> ?_,fun h=> ?_⟩
  ·have k8:v.k=8:=of_decide_eq_true h
   refine Call.use (A1a v.d h2 ih2) ⟨⟨rfl,rfl⟩,hG2.norm _ _ _ _ _ _ _ _ _ _ _ _ (fin _ _ _ _ _ _ ?_)⟩
   rw [hp,k8];rfl
  have k8:¬v.k=8:=of_decide_eq_false h
  refine hG2.ret _ _ _ _ _ _ (fin _ _ _ _ _ _ ?_)
  have hz:=A7q
  have hpl:v.plain=zero∨v.k=0:=by
   by_cases k0:v.k=0
   ·exact .inr k0
   ·left
    rw [Ako];unfold mkP
    simp [k1,k2,k3,k4,k5,k6,k7,k8]
  rcases hpl with e |e
  ·rw [e,hz]
  ·rw [hp,e];rfl
 refine⟨fun h=> ?_,fun h=> ?_⟩
 ·have e:=of_decide_eq_true h
  exact six _ (fun _=> .inl e) (fun h'=>absurd e (of_decide_eq_false h'))
 ·have e:¬v.k=3:=of_decide_eq_false h
  exact six _ (fun h'=> .inr (of_decide_eq_true h')) (fun h'=>⟨e,of_decide_eq_false h'⟩)
theorem A8p(v:V)(hf:Fit v):Aai v:=by
 induction hf with
 |mk v h1 h2 _ _ ih1 ih2=>
  show Call E0.P M9 [.imm (.agg v.row)] [] _
  have key:=R_4 v h1 h2 ih1 ih2
  generalize Is (.imm (.agg v.plain.row)) []=Q at key ⊢
  rw [Hz]
  refine Ave _ _ _ _ _ _ _ ⟨fun h=> ?_,fun h=> ?_⟩
  ·have e:v.k=1:=of_decide_eq_true h
   exact key _ (fun _=> .inl e) (fun h'=>absurd e (of_decide_eq_false h'))
  ·have e:¬v.k=1:=of_decide_eq_false h
   exact key _ (fun h'=> .inr (of_decide_eq_true h')) (fun h'=>⟨e,of_decide_eq_false h'⟩)
end Go.Proofs.Sim.Se
namespace Go.Proofs.Sim.Se
open Go Go.Proofs Go.Proofs.Sim Go.Proofs.Sim.Va Go.Proofs.Sim.St
theorem V.ext {a b:V} (h1:a.k=b.k)(h2:a.n=b.n)(h3:a.g=b.g)(h4:a.s=b.s)(h5:a.l=b.l)(h6:a.d=b.d):a=b:=by
 cases a;cases b
 simp only [V.k,V.n,V.g,V.s,V.l,V.d]at h1 h2 h3 h4 h5 h6
 subst h1 h2 h3 h4 h5 h6;rfl
def EqR(a b:V)(r:AV)(h:Heap):Prop:=∃c:Bool,r= .imm (.bool c)∧h=[]∧(c=true↔a=b)
abbrev EqAt(a b:V):Prop:=Call E0.P Iz [.imm (.agg a.row), .imm (.agg b.row)] [] (EqR a b)
theorem A9x(a b:V)(hl:a.d.length≤1000000000000)(hab:a.d.length=b.d.length)(ih:∀p∈a.d,∀q∈b.d,EqAt p.2 q.2)(x0 x1 x2 y0 y1 y2:Int)(xs ys:List UInt8)(x4 y4:List (List IV))(K:Ex→St→Prop)
 (hF:a.d≠b.d→K .ret ⟨[(4, .imm (.bool false))],[]⟩)(hT:a.d=b.d→K (.exit 2) ⟨[],[]⟩):∀(n i:Nat),n+i=a.d.length→a.d.take i=b.d.take i→
 Tz i x0 x1 x2 xs x4 (Bp a.d) y0 y1 y2 ys y4 (Bp b.d) K
 |0,i,hn,ht=>by
  refine Adu _ _ _ _ _ _ _ _ _ _ _ _ _ _ ⟨fun h=> ?_,fun _=>hT ?_⟩
  ·have:=of_decide_eq_true h
   rw [Bc]at this;omega
  ·rw [List.take_of_length_le (by omega),List.take_of_length_le (by omega)]at ht
   exact ht
 |n+1,i,hn,ht=>by
  have hia:i<a.d.length:=by omega
  have hib:i<b.d.length:=by omega
  have w:IntKind.i64.wrap ((i:Int)+1)=((i+1:Nat):Int):=by rw [Be _ (by omega) (by omega)];simp
  refine Adu _ _ _ _ _ _ _ _ _ _ _ _ _ _ ⟨fun _=> ?_,fun h=> ?_⟩
  ·rw [show(Bp a.d).getD (Int.toNat (i:Int)) []=Cm (Cu a.d i) from Ajb _ _ hia,show(Bp b.d).getD (Int.toNat (i:Int)) []=Cm (Cu b.d i) from Ajb _ _ hib,Ahi,Ahi,Bc,Bc]
   have g0:∀x:Pr,gS (Cm x) 0=x.1:=fun x=>by rw [Hu];rfl
   rw [g0,g0]
   have ea:Cu a.d i=a.d[i]:=by simp [Cu,List.getD_eq_getElem?_getD,hia]
   have eb:Cu b.d i=b.d[i]:=by simp [Cu,List.getD_eq_getElem?_getD,hib]
   have ma:Cu a.d i∈a.d:=by rw [ea];exact List.getElem_mem hia
   have mb:Cu b.d i∈b.d:=by rw [eb];exact List.getElem_mem hib
   have r1:((0:Int)≤(i:Int)∧(i:Int)<(a.d.length:Int))∧Ch [.str, .int .i64, .int .i64, .int .i64, .str, .sl 6 Aa, .sl 7 Ag] (Cm (Cu a.d i))=true:=⟨⟨by omega,by omega⟩,Fq _ _ _⟩
   have r2:((0:Int)≤(i:Int)∧(i:Int)<(b.d.length:Int))∧Ch [.str, .int .i64, .int .i64, .int .i64, .str, .sl 6 Aa, .sl 7 Ag] (Cm (Cu b.d i))=true:=⟨⟨by omega,by omega⟩,Fq _ _ _⟩
   have ne:Cu a.d i≠Cu b.d i→a.d≠b.d:=fun h e=>h (by rw [e])
   have go:Cu a.d i=Cu b.d i→Uw i x0 x1 x2 xs x4 (Bp a.d) y0 y1 y2 ys y4 (Bp b.d) (Wn K):=by
    intro e
    refine Apk _ _ _ _ _ _ _ _ _ _ _ _ _ _ ?_
    rw [w]
    refine Asa _ _ _ _ _ _ _ _ _ _ _ _ _ _ (A9x a b hl hab ih _ _ _ _ _ _ _ _ _ _ K hF hT n (i+1) (by omega) ?_)
    rw [List.take_add_one,List.take_add_one,ht]
    congr 1
    rw [ea,eb]at e
    simp [hia,hib,e]
   refine⟨r1,⟨r2,⟨fun _=>r1,⟨fun _=>r2,⟨fun hk=> ?_,fun hk=> ?_⟩⟩⟩⟩⟩
   ·refine(ih _ ma _ mb).mono ?_
    rintro r h ⟨c,rfl,rfl,hc⟩
    refine⟨⟨rfl,rfl⟩,Let.intro ⟨fun hcf=> ?_,fun hct=> ?_⟩⟩
    ·have hcf:(!c)=true:=hcf
     refine hF (ne fun e=> ?_)
     have:c=true:=hc.2 (by rw [e])
     rw [this]at hcf;cases hcf
    ·have hct:(!c)=false:=hct
     refine go (Prod.ext ?_ ?_)
     ·simpa using hk
     ·exact hc.1 (by simpa using hct)
   ·refine⟨rfl,Let.intro ⟨fun _=>hF (ne fun e=> ?_),fun h=>absurd h (by decide)⟩⟩
    rw [e]at hk;simp at hk
  ·have:=of_decide_eq_false h
   rw [Bc]at this;omega
theorem A9q(a b:V)(hl:a.l.length≤1000000000000)(hab:a.l.length=b.l.length)(ih:∀p∈a.l,∀q∈b.l,EqAt p q)(x0 x1 x2 y0 y1 y2:Int)(xs ys:List UInt8)(x5 y5:List (List IV))(K:Ex→St→Prop)
 (hF:a.l≠b.l→K .ret ⟨[(4, .imm (.bool false))],[]⟩)(hT:a.l=b.l→K (.exit 0) ⟨[(2,(.ptr (Nm.loc (2:Nat)) 0)),(3,(.ptr (Nm.loc (3:Nat)) 0))],[((Nm.loc (2:Nat)),(.blk Aa [(.imm (.int .i64 x0)),(.imm (.int .i64 x1)),(.imm (.int .i64 x2)),(.imm (.str xs)),(.imm (.sl .any 6 (Nl a.l))),(.imm (.sl .any 7 x5))])),((Nm.loc (3:Nat)),(.blk Aa [(.imm (.int .i64 y0)),(.imm (.int .i64 y1)),(.imm (.int .i64 y2)),(.imm (.str ys)),(.imm (.sl .any 6 (Nl b.l))),(.imm (.sl .any 7 y5))]))]⟩):∀(n i:Nat),n+i=a.l.length→a.l.take i=b.l.take i→
 Xc i x0 x1 x2 xs (Nl a.l) x5 y0 y1 y2 ys (Nl b.l) y5 K
 |0,i,hn,ht=>by
  refine Aex _ _ _ _ _ _ _ _ _ _ _ _ _ _ ⟨fun h=> ?_,fun _=>hT ?_⟩
  ·have:=of_decide_eq_true h
   rw [Pz]at this;omega
  ·rw [List.take_of_length_le (by omega),List.take_of_length_le (by omega)]at ht
   exact ht
 |n+1,i,hn,ht=>by
  have hia:i<a.l.length:=by omega
  have hib:i<b.l.length:=by omega
  have w:IntKind.i64.wrap ((i:Int)+1)=((i+1:Nat):Int):=by rw [Be _ (by omega) (by omega)];simp
  refine Aex _ _ _ _ _ _ _ _ _ _ _ _ _ _ ⟨fun _=> ?_,fun h=> ?_⟩
  ·rw [show(Nl a.l).getD (Int.toNat (i:Int)) []=(vAt a.l i).row from Aou _ _ hia,show(Nl b.l).getD (Int.toNat (i:Int)) []=(vAt b.l i).row from Aou _ _ hib,Ma,Ma,Pz,Pz]
   have ea:vAt a.l i=a.l[i]:=by simp [vAt,List.getD_eq_getElem?_getD,hia]
   have eb:vAt b.l i=b.l[i]:=by simp [vAt,List.getD_eq_getElem?_getD,hib]
   have ma:vAt a.l i∈a.l:=by rw [ea];exact List.getElem_mem hia
   have mb:vAt b.l i∈b.l:=by rw [eb];exact List.getElem_mem hib
   have ne:vAt a.l i≠vAt b.l i→a.l≠b.l:=fun h e=>h (by rw [e])
   refine⟨⟨⟨by omega,by omega⟩,Aoy _ _ _⟩,⟨⟨⟨by omega,by omega⟩,Aoy _ _ _⟩, ?_⟩⟩
   refine(ih _ ma _ mb).mono ?_
   rintro r h ⟨c,rfl,rfl,hc⟩
   refine⟨⟨rfl,rfl⟩,⟨fun hcf=> ?_,fun hct=> ?_⟩⟩
   ·have hcf:(!c)=true:=hcf
    refine hF (ne fun e=> ?_)
    have:c=true:=hc.2 e
    rw [this]at hcf;cases hcf
   ·have hct:(!c)=false:=hct
    have e:=hc.1 (by simpa using hct)
    rw [w]
    refine A9q a b hl hab ih _ _ _ _ _ _ _ _ _ _ K hF hT n (i+1) (by omega) ?_
    rw [List.take_add_one,List.take_add_one,ht]
    congr 1
    rw [ea,eb]at e
    simp [hia,hib,e]
  ·have:=of_decide_eq_false h
   rw [Pz]at this;omega
theorem A27(a:V)(ha:Fit a):∀b:V,EqAt a b:=by
 induction ha with
 |mk a h1 h2 _ _ ih1 ih2=>
  intro b
  show Call E0.P Iz [.imm (.agg a.row), .imm (.agg b.row)] [] _
  generalize hQ:EqR a b=Q
  have hT:a=b→Q (.imm (.bool true)) []:=fun h=>by rw [←hQ];exact⟨true,rfl,rfl,by simp [h]⟩
  have hF:a≠b→Q (.imm (.bool false)) []:=fun h=>by rw [←hQ];exact⟨false,rfl,rfl,by simp [h]⟩
  rw [Hz,Hz b]
  refine Av9 _ _ _ _ _ _ _ _ _ _ _ _ _ (Let.intro (Let.intro (Let.intro (Let.intro (Let.intro ⟨fun h=> ?_,fun h=> ?_⟩)))))
  ·refine hF fun e=> ?_
   subst e
   simp at h
  ·simp only [Bool.cond_true_left,Bool.or_eq_false_iff,Bool.not_eq_false',decide_eq_true_eq,List.length_map]at h
   obtain⟨⟨⟨⟨⟨e1,e2⟩,e3⟩,e4⟩,e5⟩,e6⟩:=h
   have e4:a.s=b.s:=by simpa using e4
   have e5:a.l.length=b.l.length:=by omega
   have e6:a.d.length=b.d.length:=by omega
   refine A9q a b h1 e5 (fun p hp q _=>ih1 p hp q) _ _ _ _ _ _ _ _ _ _ _ (fun h=> ?_) (fun hl=> ?_) a.l.length 0 (by omega) rfl
   ·exact Ark _ _ (hF fun e=>h (by rw [e]))
   ·refine Asp _ _ _ _ _ _ _ _ _ _ _ _ _ (App _ _ _ _ _ _ _ _ _ _ _ _ _ ?_)
    refine A9x a b h2 e6 (fun p hp q _=>ih2 p hp q.2) _ _ _ _ _ _ _ _ _ _ _ (fun h=> ?_) (fun hd=> ?_) a.d.length 0 (by omega) rfl
    ·exact Asg _ _ (Ae8 _ _ (hF fun e=>h (by rw [e])))
    ·exact Arx _ (Apu _ (Aqf _ _ (Ae8 _ _ (hT (V.ext e1 e2 e3 e4 hl hd)))))
end Go.Proofs.Sim.Se
namespace Go.Proofs.Sim.Se
open Go Go.Proofs Go.Proofs.Sim Go.Proofs.Sim.Va Go.Proofs.Sim.St
def Lv:V→Nat
 | .mk k n g s l d=>1+(l.attach.map fun⟨v,_h⟩=>Lv v).sum+(d.attach.map fun⟨p,_h⟩=>Lv p.2).sum
 termination_by v=>SizeOf.sizeOf v
 decreasing_by
  ·exact A0i _h
  ·exact A1o _h
theorem Aoh(v:V):Lv v=1+(v.l.map Lv).sum+(v.d.map fun p=>Lv p.2).sum:=by
 obtain⟨k,n,g,s,l,d⟩:=v
 rw [Lv]
 simp only [V.l,V.d]
 congr 1
 ·congr 2
  simp
 ·congr 1
  apply List.ext_getElem<;>simp
theorem A3h(v:V):1≤Lv v:=by rw [Aoh];omega
theorem A3b {α:Type} (f:α→Nat)(l:List α)(h:∀x∈l,1≤f x):l.length≤(l.map f).sum:=by
 induction l with
 |nil=>simp
 |cons x l ih=>
  have:=ih fun y hy=>h y (by simp [hy])
  have:=h x (by simp)
  simp;omega
theorem A21 {α:Type} (f:α→Nat)(l:List α)(x:α)(h:x∈l):f x≤(l.map f).sum:=by
 induction l with
 |nil=>simp at h
 |cons y l ih=>
  simp only [List.map_cons,List.sum_cons]
  rcases List.mem_cons.1 h with rfl |h
  ·omega
  ·have:=ih h;omega
theorem Awt(n:Nat)(hn:n≤1000000000000):∀(m:Nat) (v:V),SizeOf.sizeOf v≤m→Lv v≤n→Fit v:=by
 intro m
 induction m with
 |zero=>intro v h;exact absurd h (by cases v;simp)
 |succ m ih=>
  intro v hm hv
  have he:=Aoh v
  have h1:=A3b Lv v.l fun x _=>A3h x
  have h2:=A3b (fun p:Pr=>Lv p.2) v.d fun x _=>A3h x.2
  refine .mk v (by omega) (by omega) (fun x hx=> ?_) (fun p hp=> ?_)
  ·have:=A21 Lv v.l x hx
   obtain⟨k,n',g,s,l,d⟩:=v
   have:=A0i (k:=k) (n:=n') (g:=g) (s:=s) (d:=d) (show x∈l from hx)
   exact ih x (by omega) (by omega)
  ·have:=A21 (fun p:Pr=>Lv p.2) v.d p hp
   obtain⟨k,n',g,s,l,d⟩:=v
   have:=A1o (k:=k) (n:=n') (g:=g) (s:=s) (l:=l) (show p∈d from hp)
   exact ih p.2 (by omega) (by omega)
end Go.Proofs.Sim.Se

import Derived.Test.YtaggabcajidnnaaGreatDoorVsB
namespace Go.Proofs.Sim.Se
open Go Go.Proofs Go.Proofs.Sim Go.Proofs.Sim.Va Go.Proofs.Sim.St
theorem Bnp {α:Type} {v:α} {k:α→Prop} (h:k v):Let v k:=⟨fun _x hx=>hx ▸ h⟩
theorem cmp_eq(a b:Ky):decide (Y4 a b=0)=decide (a=b):=by
 unfold Y4
 cases h:Op.bytesLess a b with
 |true=>
  have:a≠b:=fun e=>by rw [e,Azt]at h;cases h
  simp [this]
 |false=>by_cases e:a=b<;>simp [e]
def Found(D:List Pr)(k:Ky)(r:AV)(h:Heap):Prop:=∃(t:Nat) (b:Bool),r= .tup [.imm (.int .i64 t), .imm (.bool b)]∧h=[]∧t≤D.length∧(b=true→t<D.length∧(Bp D t).1=k)∧(b=false→F7 pk k D=[])
theorem Bpg(D:List Pr)(k:Ky)(n:Int)(K:Ex→St→Prop)(hL:Sm D):∀(f s r:Nat),r - s≤f→s≤r→r≤D.length→
 (∀t,s≤t→t≤r→(s<t→bl (Bp D (t - 1)).1 k=true)→(t<r→bl (Bp D t).1 k=false)→K (.exit 0) ⟨[(0, .imm (.sl .any 7 (Bh D))),(1, .imm (.str k)),(2, .fn Dp []),(8, .imm (.int .i64 n)),(9, .imm (.int .i64 t))],[]⟩)→
 Cs (Bh D) k n s r K:=by
 intro f
 induction f with
 |zero=>
  intro s r hf hsr hr hq
  refine I1 _ _ _ _ _ _ ⟨fun h=> ?_,fun _=> ?_⟩
  ·have:=of_decide_eq_true h;omega
  ·exact hq s (Nat.le_refl _) hsr (fun h=>by omega) (fun h=>by omega)
 |succ f ih=>
  intro s r hf hsr hr hq
  have hL':D.length≤4611686018427387904:=hL
  refine I1 _ _ _ _ _ _ ⟨fun h=> ?_,fun h=> ?_⟩
  ·have hlt:s<r:=by have:=of_decide_eq_true h;omega
   rw [half s r (by omega)]
   have hc1:(s+r) / 2<r:=by omega
   have hc2:s≤(s+r) / 2:=by omega
   generalize (s+r) / 2=c at hc1 hc2
   have w:IntKind.i64.wrap ((c:Int)+1)=((c+1:Nat):Int):=by rw [Az _ (by omega) (by omega)];simp
   rw [w]
   simp only [Int.toNat_natCast]
   have e:(Bh D).getD c []=Bf (Bp D c):=by simp [List.getD_eq_getElem?_getD,show c<D.length by omega]
   rw [e,Ei]
   refine⟨by decide,⟨⟨⟨by omega,by rw [A7];omega⟩,Dz _ _ _⟩, ?_⟩⟩
   refine Call.use (A96 _ _) ⟨⟨rfl,rfl⟩, ?_⟩
   show Br (decide (Y4 (Bp D c).1 k<0)) _ _
   rw [Anm]
   refine⟨fun hb=> ?_,fun hb=> ?_⟩
   ·refine ih (c+1) r (by omega) (by omega) hr fun t h1 h2 h3 h4=>hq t (by omega) h2 (fun _=> ?_) h4
    by_cases e:t=c+1
    ·subst e;exact hb
    ·exact h3 (by omega)
   ·refine ih s c (by omega) (by omega) (by omega) fun t h1 h2 h3 h4=>hq t h1 (by omega) h3 (fun _=> ?_)
    by_cases e:t=c
    ·subst e;exact hb
    ·exact h4 (by omega)
  ·have:=of_decide_eq_false h
   exact hq s (Nat.le_refl _) hsr (fun h=>by omega) (fun h=>by omega)
theorem Bpi(D:List Pr)(k:Ky)(hD:Dt D)(hL:Sm D):Call E0.P Gp [.imm (.sl .any 7 (Bh D)), .imm (.str k), .fn Dp []] [] (Found D k):=by
 refine Su _ _ _ ?_
 have hL':D.length≤4611686018427387904:=hL
 have hl:=A7 D
 rw [hl]
 refine Bpg D k _ _ hL D.length 0 D.length (by omega) (by omega) (by omega) fun t _ h2 h3 h4=> ?_
 have none:(t<D.length→(Bp D t).1≠k)→F7 pk k D=[]:=by
  intro hne
  refine Aj8 fun p hp hpk=> ?_
  have hpk:p.1=k:=hpk
  obtain⟨i,hi,rfl⟩:=A77 hp
  by_cases hit:i<t
  ·have a1:=h3 (by omega)
   have a2:=sorted_at hD i (t - 1) (by omega) (by omega)
   have:=Bb0 a2 a1
   rw [hpk]at this
   exact absurd (this.symm.trans (Azt k)) (by decide)
  ·have htl:t<D.length:=by omega
   have a1:=h4 htl
   have a2:=sorted_at hD t i (by omega) hi
   rw [hpk]at a2
   exact hne htl (ordK.tot _ _ a1 a2)
 refine Ri _ _ _ _ _ (Rc _ _ _ _ _ ?_)
 simp only [Int.toNat_natCast]
 have e:∀(_:t<D.length),(Bh D).getD t []=Bf (Bp D t):=fun h=>by simp [List.getD_eq_getElem?_getD,h]
 refine⟨fun h=> ?_,⟨fun h=> ?_,fun h=> ?_⟩⟩
 ·have h:t<D.length:=by have:=of_decide_eq_true h;omega
  rw [e h]
  exact⟨⟨by omega,by rw [hl];omega⟩,Dz _ _ _⟩
 ·have h:t<D.length:=by
   have:decide ((t:Int)<(D.length:Int))=true:=by simpa using h
   have:=of_decide_eq_true this;omega
  rw [e h,Ei]
  refine Call.use (A96 _ _) ⟨⟨rfl,rfl⟩, ?_⟩
  show Let (decide (Y4 (Bp D t).1 k=0)) _
  rw [cmp_eq]
  exact Bnp (Iw (Found D k) _ _ ⟨t,_,rfl,rfl,h2,fun hb=>⟨h,of_decide_eq_true hb⟩,fun hb=>none fun _=>of_decide_eq_false hb⟩)
 ·have h:¬t<D.length:=by
   have:decide ((t:Int)<(D.length:Int))=false:=by simpa using h
   have:=of_decide_eq_false this;omega
  refine⟨by decide, ?_⟩
  exact Bnp (Iw (Found D k) _ _ ⟨t,false,rfl,rfl,h2,fun hb=>absurd hb (by decide),fun _=>none fun c=>absurd c h⟩)
theorem Bjz(D:List Pr)(k:Ky)(hD:Dt D)(hL:Sm D):Call E0.P Ael [.imm (.sl .any 7 (Bh D)), .imm (.str k)] [] (Found D k):=by
 refine Awv _ _ _ ?_
 refine(Bpi D k hD hL).mono ?_
 rintro r h ⟨t,b,rfl,rfl,h2⟩
 exact⟨⟨rfl,rfl⟩,⟨t,b,rfl,rfl,h2⟩⟩
theorem Bcg(d:List Pr):Dt (Sa d):=(Amn (Lv d)).sublist (List.filter_sublist)
theorem Bo2(k n g:Int)(s:List UInt8)(l:List V)(d:List Pr):(Us k n g s l d).d=[]∨(Us k n g s l d).d=(uniq d).filter Ut:=by
 unfold Us
 split
 ·exact .inl rfl
 split
 ·exact .inl rfl
 split
 ·exact .inl rfl
 split
 ·exact .inr rfl
 split
 ·exact .inl rfl
 split
 ·exact .inr rfl
 ·exact .inl rfl
theorem Auv(v:V):v.plain.d=[]∨v.plain.d=Sa v.d:=by
 rw [Eh];exact Bo2 _ _ _ _ _ _
theorem A8q(v:V):Dt v.plain.d:=by
 rcases Auv v with h |h<;>rw [h]
 ·exact List.Pairwise.nil
 ·exact Bcg _
theorem Bbp(k:Ky)(q:Pr→Bool)(l:List Pr):F7 pk k (l.filter q)=(F7 pk k l).filter q:=by
 simp only [F7,List.filter_filter]
 congr 1
 funext x
 rw [Bool.and_comm]
theorem Blf(d:List Pr)(k:Ky):F7 pk k (Sa d)=((F7 pk k (Lv d)).take 1).filter Ut:=by
 rw [Sa,Bbp,Ayq]
theorem Be6(v:V)(k:Ky):(F7 pk k v.plain.d).length≤1:=by
 rcases Auv v with h |h<;>rw [h]
 ·simp [F7]
 ·rw [Blf]
  exact Nat.le_trans (List.length_filter_le _ _) (by simp;omega)
theorem Bir(l:List Pr):(uniq l).length≤l.length:=by
 have:=(Zq (Cb l)).length_le
 rw [show(Cb l).length=l.length from Gu ordK l]at this
 exact this
theorem A0t(v:V):v.plain.d.length≤v.d.length:=by
 rcases Auv v with h |h<;>rw [h]
 ·simp
 ·refine Nat.le_trans (List.length_filter_le _ _) (Nat.le_trans (Bir _) (by simp [Lv]))
def Ij(v:V)(k:Ky):Option V:=(F7 pk k v.plain.d).head?.map fun p=>p.2
def Y7(v:V)(k:Ky):AV:= .tup [.imm (.agg ((Ij v k).getD zero).row), .imm (.bool (Ij v k).isSome)]
theorem Ayt:zero.row=[.int .i64 0, .int .i64 0, .int .i64 0, .str [], .sl .any 6 [], .sl .any 7 []]:=by
 rw [Co];rfl
theorem Bni(D:List Pr)(t:Nat)(k:Ky)(h:t<D.length)(hk:(Bp D t).1=k)(h1:(F7 pk k D).length≤1):F7 pk k D=[Bp D t]:=by
 have hm:Bp D t∈F7 pk k D:=by
  have:Bp D t∈D:=by
   have e:Bp D t=D[t]:=by simp [Bp,List.getD_eq_getElem?_getD,h]
   rw [e];exact List.getElem_mem h
  exact List.mem_filter.2 ⟨this,by simpa using hk⟩
 cases hf:F7 pk k D with
 |nil=>rw [hf]at hm;simp at hm
 |cons a r=>
  rw [hf]at hm h1
  cases r with
  |nil=>rw [List.mem_singleton]at hm;rw [hm]
  |cons b r=>simp at h1
theorem Ba5(v:V)(hf:Fit v)(k:Ky):Call E0.P R5 [.imm (.agg v.row), .imm (.str k)] [] (Is (Y7 v k) []):=by
 have hP:=At9 v hf
 have hn:v.d.length≤1000000000000:=by cases hf;assumption
 have hdl:=A0t v
 have hP:Call E0.P El [.imm (.agg v.row)] [] _:=hP
 rw [Co]at hP ⊢
 refine A1b _ _ _ _ _ _ _ _ ?_
 refine Call.use hP ⟨⟨rfl, ?_⟩, ?_⟩
 ·rw [Amo,Gm]
 rw [Amo]
 have e5:gR v.plain.row 5=Bh v.plain.d:=by rw [Co];rfl
 rw [e5]
 refine(Bjz v.plain.d k (A8q v) (by show _≤_;omega)).mono ?_
 rintro r h ⟨t,b,rfl,rfl,ht,h1,h0⟩
 refine⟨⟨rfl,rfl⟩, ?_⟩
 show Br (!b) _ (Ag (((0:Int)≤(t:Int)∧(t:Int)<_)∧_) _)
 refine⟨fun hb=> ?_,fun hb=> ?_⟩
 ·have hb:b=false:=by simpa using hb
  have h0:=h0 hb
  refine⟨?_,rfl⟩
  simp only [Y7,Ij,h0,List.head?_nil,Option.map_none,Option.getD_none,Ayt]
  rfl
 ·have hb:b=true:=by simpa using hb
  obtain⟨htl,hk⟩:=h1 hb
  have e:(Bh v.plain.d).getD t []=Bf (Bp v.plain.d t):=by simp [List.getD_eq_getElem?_getD,htl]
  show Ag (((0:Int)≤(t:Int)∧(t:Int)<_)∧Bg _ ((Bh v.plain.d).getD (Int.toNat (t:Int)) [])=true) _
  have hfb:=Bni _ t k htl hk (Be6 v k)
  refine⟨⟨⟨by omega,by rw [A7];omega⟩,by rw [Int.toNat_natCast,e];exact Dz _ _ _⟩, ?_⟩
  refine⟨?_,rfl⟩
  have e2:(Bh v.plain.d).getD (rI (rT (AV.tup [AV.imm (.int .i64 (t:Int)),AV.imm (.bool b)]) 0)).toNat []=Bf (Bp v.plain.d t):=e
  rw [e2,Qh]
  simp only [Y7,Ij,hfb,List.head?_cons,Option.map_some,Option.getD_some]
  rfl
end Go.Proofs.Sim.Se
namespace Go.Proofs.Sim.Se
open Go Go.Proofs Go.Proofs.Sim Go.Proofs.Sim.Va Go.Proofs.Sim.St
theorem Aew(ps:List Pr)(n:Nat)(h:n<ps.length):(Bh ps).getD n []=Bf (Bp ps n):=by simp [List.getD_eq_getElem?_getD,h]
end Go.Proofs.Sim.Se
namespace Go.Proofs.Sim.Se
open Go Go.Proofs Go.Proofs.Sim Go.Proofs.Sim.Va Go.Proofs.Sim.St
end Go.Proofs.Sim.Se
namespace Go.Proofs.Sim.Se
open Go Go.Proofs Go.Proofs.Sim Go.Proofs.Sim.Va Go.Proofs.Sim.St
theorem V.ext {a b:V} (h1:a.k=b.k)(h2:a.n=b.n)(h3:a.g=b.g)(h4:a.s=b.s)(h5:a.l=b.l)(h6:a.d=b.d):a=b:=by
 cases a;cases b
 simp only [V.k,V.n,V.g,V.s,V.l,V.d]at h1 h2 h3 h4 h5 h6
 subst h1 h2 h3 h4 h5 h6;rfl
def EqR(a b:V)(r:AV)(h:Heap):Prop:=∃c:Bool,r= .imm (.bool c)∧h=[]∧(c=true↔a=b)
abbrev EqAt(a b:V):Prop:=Call E0.P Hf [.imm (.agg a.row), .imm (.agg b.row)] [] (EqR a b)
theorem Bdr {α:Type} (l:List α)(i:Nat)(h:i<l.length):l.drop i=l[i]::l.drop (i+1):=by
 rw [List.drop_eq_getElem_cons h]
theorem Biv(a b:V)(hl:a.d.length≤1000000000000)(hab:a.d.length=b.d.length)(ih:∀p∈a.d,∀q∈b.d,EqAt p.2 q.2)(x0 x1 x2 y0 y1 y2:Int)(xs ys:List UInt8)(x4 y4:List (List IV))(K:Ex→St→Prop)
 (hF:a.d≠b.d→K .ret ⟨[(4, .imm (.bool false))],[]⟩)(hT:a.d=b.d→K (.exit 2) ⟨[],[]⟩):∀(n i:Nat),n+i=a.d.length→a.d.take i=b.d.take i→
 Xp i x0 x1 x2 xs x4 (Bh a.d) y0 y1 y2 ys y4 (Bh b.d) K
 |0,i,hn,ht=>by
  refine Ahg _ _ _ _ _ _ _ _ _ _ _ _ _ _ ⟨fun h=> ?_,fun _=>hT ?_⟩
  ·have:=of_decide_eq_true h
   rw [A7]at this;omega
  ·rw [List.take_of_length_le (by omega),List.take_of_length_le (by omega)]at ht
   exact ht
 |n+1,i,hn,ht=>by
  have hia:i<a.d.length:=by omega
  have hib:i<b.d.length:=by omega
  have w:IntKind.i64.wrap ((i:Int)+1)=((i+1:Nat):Int):=by rw [Az _ (by omega) (by omega)];simp
  refine Ahg _ _ _ _ _ _ _ _ _ _ _ _ _ _ ⟨fun _=> ?_,fun h=> ?_⟩
  ·rw [show(Bh a.d).getD (Int.toNat (i:Int)) []=Bf (Bp a.d i) from Aew _ _ hia,show(Bh b.d).getD (Int.toNat (i:Int)) []=Bf (Bp b.d i) from Aew _ _ hib,Qh,Qh,A7,A7]
   have g0:∀x:Pr,gS (Bf x) 0=x.1:=fun x=>by rw [I8];rfl
   rw [g0,g0]
   have ea:Bp a.d i=a.d[i]:=by simp [Bp,List.getD_eq_getElem?_getD,hia]
   have eb:Bp b.d i=b.d[i]:=by simp [Bp,List.getD_eq_getElem?_getD,hib]
   have ma:Bp a.d i∈a.d:=by rw [ea];exact List.getElem_mem hia
   have mb:Bp b.d i∈b.d:=by rw [eb];exact List.getElem_mem hib
   have r1:((0:Int)≤(i:Int)∧(i:Int)<(a.d.length:Int))∧Bg [.str, .int .i64, .int .i64, .int .i64, .str, .sl 6 Aa, .sl 7 Ah] (Bf (Bp a.d i))=true:=⟨⟨by omega,by omega⟩,Dz _ _ _⟩
   have r2:((0:Int)≤(i:Int)∧(i:Int)<(b.d.length:Int))∧Bg [.str, .int .i64, .int .i64, .int .i64, .str, .sl 6 Aa, .sl 7 Ah] (Bf (Bp b.d i))=true:=⟨⟨by omega,by omega⟩,Dz _ _ _⟩
   have ne:Bp a.d i≠Bp b.d i→a.d≠b.d:=fun h e=>h (by rw [e])
   have go:Bp a.d i=Bp b.d i→W9 i x0 x1 x2 xs x4 (Bh a.d) y0 y1 y2 ys y4 (Bh b.d) (Zx K):=by
    intro e
    refine Au3 _ _ _ _ _ _ _ _ _ _ _ _ _ _ ?_
    rw [w]
    refine Aw3 _ _ _ _ _ _ _ _ _ _ _ _ _ _ (Biv a b hl hab ih _ _ _ _ _ _ _ _ _ _ K hF hT n (i+1) (by omega) ?_)
    rw [List.take_add_one,List.take_add_one,ht]
    congr 1
    rw [ea,eb]at e
    simp [hia,hib,e]
   refine⟨r1,⟨r2,⟨fun _=>r1,⟨fun _=>r2,⟨fun hk=> ?_,fun hk=> ?_⟩⟩⟩⟩⟩
   ·refine(ih _ ma _ mb).mono ?_
    rintro r h ⟨c,rfl,rfl,hc⟩
    refine⟨⟨rfl,rfl⟩,Let.intro ⟨fun hcf=> ?_,fun hct=> ?_⟩⟩
    ·have hcf:(!c)=true:=hcf
     refine hF (ne fun e=> ?_)
     have:c=true:=hc.2 (by rw [e])
     rw [this]at hcf;cases hcf
    ·have hct:(!c)=false:=hct
     refine go (Prod.ext ?_ ?_)
     ·simpa using hk
     ·exact hc.1 (by simpa using hct)
   ·refine⟨rfl,Let.intro ⟨fun _=>hF (ne fun e=> ?_),fun h=>absurd h (by decide)⟩⟩
    rw [e]at hk;simp at hk
  ·have:=of_decide_eq_false h
   rw [A7]at this;omega
theorem Biw(a b:V)(hl:a.l.length≤1000000000000)(hab:a.l.length=b.l.length)(ih:∀p∈a.l,∀q∈b.l,EqAt p q)(x0 x1 x2 y0 y1 y2:Int)(xs ys:List UInt8)(x5 y5:List (List IV))(K:Ex→St→Prop)
 (hF:a.l≠b.l→K .ret ⟨[(4, .imm (.bool false))],[]⟩)(hT:a.l=b.l→K (.exit 0) ⟨[(2,(.ptr (Nm.loc (2:Nat)) 0)),(3,(.ptr (Nm.loc (3:Nat)) 0))],[((Nm.loc (2:Nat)),(.blk Aa [(.imm (.int .i64 x0)),(.imm (.int .i64 x1)),(.imm (.int .i64 x2)),(.imm (.str xs)),(.imm (.sl .any 6 (Mo a.l))),(.imm (.sl .any 7 x5))])),((Nm.loc (3:Nat)),(.blk Aa [(.imm (.int .i64 y0)),(.imm (.int .i64 y1)),(.imm (.int .i64 y2)),(.imm (.str ys)),(.imm (.sl .any 6 (Mo b.l))),(.imm (.sl .any 7 y5))]))]⟩):∀(n i:Nat),n+i=a.l.length→a.l.take i=b.l.take i→
 Zy i x0 x1 x2 xs (Mo a.l) x5 y0 y1 y2 ys (Mo b.l) y5 K
 |0,i,hn,ht=>by
  refine Ajw _ _ _ _ _ _ _ _ _ _ _ _ _ _ ⟨fun h=> ?_,fun _=>hT ?_⟩
  ·have:=of_decide_eq_true h
   rw [Ig]at this;omega
  ·rw [List.take_of_length_le (by omega),List.take_of_length_le (by omega)]at ht
   exact ht
 |n+1,i,hn,ht=>by
  have hia:i<a.l.length:=by omega
  have hib:i<b.l.length:=by omega
  have w:IntKind.i64.wrap ((i:Int)+1)=((i+1:Nat):Int):=by rw [Az _ (by omega) (by omega)];simp
  refine Ajw _ _ _ _ _ _ _ _ _ _ _ _ _ _ ⟨fun _=> ?_,fun h=> ?_⟩
  ·rw [show(Mo a.l).getD (Int.toNat (i:Int)) []=(Nh a.l i).row from Abo _ _ hia,show(Mo b.l).getD (Int.toNat (i:Int)) []=(Nh b.l i).row from Abo _ _ hib,Gm,Gm,Ig,Ig]
   have ea:Nh a.l i=a.l[i]:=by simp [Nh,List.getD_eq_getElem?_getD,hia]
   have eb:Nh b.l i=b.l[i]:=by simp [Nh,List.getD_eq_getElem?_getD,hib]
   have ma:Nh a.l i∈a.l:=by rw [ea];exact List.getElem_mem hia
   have mb:Nh b.l i∈b.l:=by rw [eb];exact List.getElem_mem hib
   have ne:Nh a.l i≠Nh b.l i→a.l≠b.l:=fun h e=>h (by rw [e])
   refine⟨⟨⟨by omega,by omega⟩,Abp _ _ _⟩,⟨⟨⟨by omega,by omega⟩,Abp _ _ _⟩, ?_⟩⟩
   refine(ih _ ma _ mb).mono ?_
   rintro r h ⟨c,rfl,rfl,hc⟩
   refine⟨⟨rfl,rfl⟩,⟨fun hcf=> ?_,fun hct=> ?_⟩⟩
   ·have hcf:(!c)=true:=hcf
    refine hF (ne fun e=> ?_)
    have:c=true:=hc.2 e
    rw [this]at hcf;cases hcf
   ·have hct:(!c)=false:=hct
    have e:=hc.1 (by simpa using hct)
    rw [w]
    refine Biw a b hl hab ih _ _ _ _ _ _ _ _ _ _ K hF hT n (i+1) (by omega) ?_
    rw [List.take_add_one,List.take_add_one,ht]
    congr 1
    rw [ea,eb]at e
    simp [hia,hib,e]
  ·have:=of_decide_eq_false h
   rw [Ig]at this;omega
theorem A95(a:V)(ha:Fit a):∀b:V,EqAt a b:=by
 induction ha with
 |mk a h1 h2 _ _ ih1 ih2=>
  intro b
  show Call E0.P Hf [.imm (.agg a.row), .imm (.agg b.row)] [] _
  generalize hQ:EqR a b=Q
  have hT:a=b→Q (.imm (.bool true)) []:=fun h=>by rw [←hQ];exact⟨true,rfl,rfl,by simp [h]⟩
  have hF:a≠b→Q (.imm (.bool false)) []:=fun h=>by rw [←hQ];exact⟨false,rfl,rfl,by simp [h]⟩
  rw [Co,Co b]
  refine A09 _ _ _ _ _ _ _ _ _ _ _ _ _ (Let.intro (Let.intro (Let.intro (Let.intro (Let.intro ⟨fun h=> ?_,fun h=> ?_⟩)))))
  ·refine hF fun e=> ?_
   subst e
   simp at h
  ·simp only [Bool.cond_true_left,Bool.or_eq_false_iff,Bool.not_eq_false',decide_eq_true_eq,List.length_map]at h
   obtain⟨⟨⟨⟨⟨e1,e2⟩,e3⟩,e4⟩,e5⟩,e6⟩:=h
   have e4:a.s=b.s:=by simpa using e4
   have e5:a.l.length=b.l.length:=by omega
   have e6:a.d.length=b.d.length:=by omega
   refine Biw a b h1 e5 (fun p hp q _=>ih1 p hp q) _ _ _ _ _ _ _ _ _ _ _ (fun h=> ?_) (fun hl=> ?_) a.l.length 0 (by omega) rfl
   ·exact Awy _ _ (hF fun e=>h (by rw [e]))
   ·refine Awz _ _ _ _ _ _ _ _ _ _ _ _ _ (Au2 _ _ _ _ _ _ _ _ _ _ _ _ _ ?_)
    refine Biv a b h2 e6 (fun p hp q _=>ih2 p hp q.2) _ _ _ _ _ _ _ _ _ _ _ (fun h=> ?_) (fun hd=> ?_) a.d.length 0 (by omega) rfl
    ·exact Aw1 _ _ (Ajj _ _ (hF fun e=>h (by rw [e])))
    ·exact Aw2 _ (Au4 _ (Aw0 _ _ (Ajj _ _ (hT (V.ext e1 e2 e3 e4 hl hd)))))
end Go.Proofs.Sim.Se
namespace Go.Proofs.Sim.Se
open Go Go.Proofs Go.Proofs.Sim Go.Proofs.Sim.Va Go.Proofs.Sim.St
abbrev Qy(n:Int):Prop:= -9223372036854775808≤n∧n≤9223372036854775807
inductive Wf:V→Prop where
 |mk (v:V):Qy v.k→Qy v.n→Qy v.g→v.s.length≤9223372036854775807→v.l.length≤9223372036854775807→v.d.length≤9223372036854775807→(∀x∈v.l,Wf x)→(∀p∈v.d,p.1.length≤9223372036854775807)→(∀p∈v.d,Wf p.2)→Wf v
def Ch:V→Nat
 | .mk k n g s l d=>1+(l.attach.map fun⟨v,_h⟩=>Ch v).sum+(d.attach.map fun⟨p,_h⟩=>Ch p.2).sum
 termination_by v=>SizeOf.sizeOf v
 decreasing_by
  ·exact At2 _h
  ·exact At1 _h
theorem P7(v:V):Ch v=1+(v.l.map Ch).sum+(v.d.map fun p=>Ch p.2).sum:=by
 obtain⟨k,n,g,s,l,d⟩:=v
 rw [Ch]
 simp only [V.l,V.d]
 congr 1
 ·congr 2
  simp
 ·congr 1
  apply List.ext_getElem<;>simp
theorem Ann(v:V):1≤Ch v:=by rw [P7];omega
theorem Aoh {α:Type} (f:α→Nat)(l:List α)(h:∀x∈l,1≤f x):l.length≤(l.map f).sum:=by
 induction l with
 |nil=>simp
 |cons x l ih=>
  have:=ih fun y hy=>h y (by simp [hy])
  have:=h x (by simp)
  simp;omega
theorem Aoi {α:Type} (f:α→Nat)(l:List α)(x:α)(h:x∈l):f x≤(l.map f).sum:=by
 induction l with
 |nil=>simp at h
 |cons y l ih=>
  simp only [List.map_cons,List.sum_cons]
  rcases List.mem_cons.1 h with rfl |h
  ·omega
  ·have:=ih h;omega
theorem Ant(n:Nat)(hn:n≤1000000000000):∀(m:Nat) (v:V),SizeOf.sizeOf v≤m→Ch v≤n→Fit v:=by
 intro m
 induction m with
 |zero=>intro v h;exact absurd h (by cases v;simp)
 |succ m ih=>
  intro v hm hv
  have he:=P7 v
  have h1:=Aoh Ch v.l fun x _=>Ann x
  have h2:=Aoh (fun p:Pr=>Ch p.2) v.d fun x _=>Ann x.2
  refine .mk v (by omega) (by omega) (fun x hx=> ?_) (fun p hp=> ?_)
  ·have:=Aoi Ch v.l x hx
   obtain⟨k,n',g,s,l,d⟩:=v
   have:=At2 (k:=k) (n:=n') (g:=g) (s:=s) (d:=d) (show x∈l from hx)
   exact ih x (by omega) (by omega)
  ·have:=Aoi (fun p:Pr=>Ch p.2) v.d p hp
   obtain⟨k,n',g,s,l,d⟩:=v
   have:=At1 (k:=k) (n:=n') (g:=g) (s:=s) (l:=l) (show p∈d from hp)
   exact ih p.2 (by omega) (by omega)
theorem bAT {p q:Prop} {i:Decidable p} {j:Decidable q} (h:(bif @decide p i then @decide q j else false)=true):p∧q:=by
 by_cases hp:p<;>by_cases hq:q<;>simp_all
theorem bAF {p q:Prop} {i:Decidable p} {j:Decidable q} (h:(bif @decide p i then @decide q j else false)=false):¬(p∧q):=by
 by_cases hp:p<;>by_cases hq:q<;>simp_all
abbrev Azj(v:V):Prop:=∀m:Nat,1≤m→m≤4611686018427387905→Call E0.P Zt [.imm (.agg v.row), .imm (.int .i64 m)] [] (Is (.imm (.int .i64 (min (Ch v) m:Nat))) [])
theorem A87 {α:Type} (f:α→Nat)(l:List α)(i:Nat)(h:i<l.length):((l.drop i).map f).sum=f l[i]+((l.drop (i+1)).map f).sum:=by
 rw [Bdr l i h,List.map_cons,List.sum_cons]
theorem Bjq(v:V)(hl:v.l.length≤9223372036854775807)(ih:∀x∈v.l,Azj x)(m:Nat)(hm:m≤4611686018427387905)(x0 x1 x2:Int)(xs:List UInt8)(x5:List (List IV))(K:Ex→St→Prop)(N:Nat)
 (hE:K (.exit 0) ⟨[(1,(.imm (.int .i64 m))),(2,(.ptr (Nm.loc (2:Nat)) 0)),(5,(.imm (.int .i64 (min N m:Nat))))],[((Nm.loc (2:Nat)),(.blk Aa [(.imm (.int .i64 x0)),(.imm (.int .i64 x1)),(.imm (.int .i64 x2)),(.imm (.str xs)),(.imm (.sl .any 6 (Mo v.l))),(.imm (.sl .any 7 x5))]))]⟩):
 ∀(f n i:Nat),f+i=v.l.length→1≤n→n≤m→min (n+((v.l.drop i).map Ch).sum) m=min N m→Wi m n i x0 x1 x2 xs (Mo v.l) x5 K:=by
 intro f
 induction f with
 |zero=>
  intro n i hf h1 h2 hN
  refine Ak9 _ _ _ _ _ _ _ _ _ _ (Let.intro ⟨fun h=> ?_,fun _=> ?_⟩)
  ·have h:=bAT h
   have:=h.1
   rw [Ig]at this;omega
  ·rw [List.drop_of_length_le (by omega)]at hN
   simp only [List.map_nil,List.sum_nil,Nat.add_zero]at hN
   have e:n=min N m:=by omega
   rw [e];exact hE
 |succ f ihf=>
  intro n i hf h1 h2 hN
  have hlt:i<v.l.length:=by omega
  have hv:Nh v.l i=v.l[i]:=by simp [Nh,List.getD_eq_getElem?_getD,hlt]
  refine Ak9 _ _ _ _ _ _ _ _ _ _ (Let.intro ⟨fun h=> ?_,fun h=> ?_⟩)
  ·have h:=bAT h
   have hnm:n<m:=by have:=h.2;omega
   rw [show(Mo v.l).getD (Int.toNat (i:Int)) []=(Nh v.l i).row from Abo _ _ hlt,Gm,Ig]
   refine⟨⟨⟨by omega,by omega⟩,Abp _ _ _⟩, ?_⟩
   have w1:IntKind.i64.wrap ((m:Int) - n)=((m - n:Nat):Int):=by rw [Az _ (by omega) (by omega)];omega
   have w2:IntKind.i64.wrap ((i:Int)+1)=((i+1:Nat):Int):=by rw [Az _ (by omega) (by omega)];simp
   rw [w1,w2]
   have hx:Nh v.l i∈v.l:=by rw [hv];exact List.getElem_mem hlt
   refine Call.use (ih _ hx (m - n) (by omega) (by omega)) ⟨⟨rfl,rfl⟩, ?_⟩
   rw [A87 _ _ _ hlt, ←hv]at hN
   generalize Ch (Nh v.l i)=c at*
   show Wi _ (IntKind.i64.wrap ((n:Int)+((min c (m - n):Nat):Int))) _ _ _ _ _ _ _ _
   have w3:IntKind.i64.wrap ((n:Int)+((min c (m - n):Nat):Int))=((n+min c (m - n):Nat):Int):=by rw [Az _ (by omega) (by omega)];simp
   rw [w3]
   exact ihf _ (i+1) (by omega) (by omega) (by omega) (by omega)
  ·have hnm:¬n<m:=by
    intro c
    have h:=bAF h
    rw [Ig]at h
    exact h ⟨by omega,by omega⟩
   have e:n=min N m:=by omega
   rw [e];exact hE
theorem Bjr(v:V)(hl:v.d.length≤9223372036854775807)(ih:∀x∈v.d,Azj x.2)(m:Nat)(hm:m≤4611686018427387905)(x0 x1 x2:Int)(xs:List UInt8)(x4:List (List IV))(K:Ex→St→Prop)(N:Nat)
 (hE:K (.exit 2) ⟨[(5,(.imm (.int .i64 (min N m:Nat))))],[]⟩):
 ∀(f n i:Nat),f+i=v.d.length→1≤n→n≤m→min (n+((v.d.drop i).map fun p=>Ch p.2).sum) m=min N m→Un m n i x0 x1 x2 xs x4 (Bh v.d) K:=by
 intro f
 induction f with
 |zero=>
  intro n i hf h1 h2 hN
  refine Ajy _ _ _ _ _ _ _ _ _ _ (Let.intro ⟨fun h=> ?_,fun _=> ?_⟩)
  ·have h:=bAT h
   have:=h.1
   rw [A7]at this;omega
  ·rw [List.drop_of_length_le (by omega)]at hN
   simp only [List.map_nil,List.sum_nil,Nat.add_zero]at hN
   have e:n=min N m:=by omega
   rw [e];exact hE
 |succ f ihf=>
  intro n i hf h1 h2 hN
  have hlt:i<v.d.length:=by omega
  have hv:Bp v.d i=v.d[i]:=by simp [Bp,List.getD_eq_getElem?_getD,hlt]
  refine Ajy _ _ _ _ _ _ _ _ _ _ (Let.intro ⟨fun h=> ?_,fun h=> ?_⟩)
  ·have h:=bAT h
   have hnm:n<m:=by have:=h.2;omega
   rw [show(Bh v.d).getD (Int.toNat (i:Int)) []=Bf (Bp v.d i) from Aew _ _ hlt,Qh,A7]
   refine⟨⟨⟨by omega,by omega⟩,Dz _ _ _⟩, ?_⟩
   have w1:IntKind.i64.wrap ((m:Int) - n)=((m - n:Nat):Int):=by rw [Az _ (by omega) (by omega)];omega
   have w2:IntKind.i64.wrap ((i:Int)+1)=((i+1:Nat):Int):=by rw [Az _ (by omega) (by omega)];simp
   rw [w1,w2]
   have hx:Bp v.d i∈v.d:=by rw [hv];exact List.getElem_mem hlt
   refine Call.use (ih _ hx (m - n) (by omega) (by omega)) ⟨⟨rfl,rfl⟩, ?_⟩
   rw [A87 _ _ _ hlt, ←hv]at hN
   generalize Ch (Bp v.d i).2=c at*
   show Un _ (IntKind.i64.wrap ((n:Int)+((min c (m - n):Nat):Int))) _ _ _ _ _ _ _ _
   have w3:IntKind.i64.wrap ((n:Int)+((min c (m - n):Nat):Int))=((n+min c (m - n):Nat):Int):=by rw [Az _ (by omega) (by omega)];simp
   rw [w3]
   exact ihf _ (i+1) (by omega) (by omega) (by omega) (by omega)
  ·have hnm:¬n<m:=by
    intro c
    have h:=bAF h
    rw [A7]at h
    exact h ⟨by omega,by omega⟩
   have e:n=min N m:=by omega
   rw [e];exact hE
theorem Bms(v:V)(hv:Wf v):Azj v:=by
 induction hv with
 |mk v _ _ _ _ h1 h2 _ _ _ ih1 ih2=>
  intro m hm hm2
  have he:=P7 v
  have ih2:∀p∈v.d,Azj p.2:=fun p hp=>(ih2 p hp)
  generalize hQ:Is (.imm (.int .i64 ((min (Ch v) m:Nat):Int))) []=Q
  have hq:Q (.imm (.int .i64 ((min (Ch v) m:Nat):Int))) []:=by rw [←hQ];exact⟨rfl,rfl⟩
  rw [Co]
  refine A4q _ _ _ _ _ _ _ _ ?_
  refine Bjq v h1 ih1 m hm2 _ _ _ _ _ _ (1+(v.l.map Ch).sum) (Aza _ _ _ _ _ _ _ _ _ (Ayx _ _ _ _ _ _ _ _ _ ?_)) v.l.length 1 0 rfl (by omega) hm (by simp)
  refine Bjr v h2 ih2 m hm2 _ _ _ _ _ _ (Ch v) (Azc _ _ (Awf _ _ (Azb _ _ (Ay9 _ _ hq)))) v.d.length _ 0 rfl (by omega) (by omega) ?_
  rw [he]
  simp only [List.drop_zero]
  omega
end Go.Proofs.Sim.Se
namespace Go.Proofs.Sim.Se
open Go Go.Proofs Go.Proofs.Sim Go.Proofs.Sim.Va Go.Proofs.Sim.St
def Gd(p:Prop)(r:AV)(h:Heap):Prop:=∃c:Bool,r= .imm (.bool c)∧h=[]∧(c=true→p)
theorem Afz {P:Program} {f:Nat} {args:List AV} {p:Prop} {Q:AV→Heap→Prop} (hc:Call P f args [] (Gd p))(h:∀c:Bool,(c=true→p)→Q (.imm (.bool c)) []):Call P f args [] Q:=
 hc.mono fun r g ⟨c,e1,e2,e3⟩=>by subst e1 e2;exact h c e3
inductive Agv:Int→V→Prop where
 |mk (m:Int) (v:V):0≤m→(∀x∈v.l,Agv (m - 1) x)→(∀p∈v.d,Agv (m - 1) p.2)→Agv m v
inductive Rn:Int→V→Prop where
 |mk (m:Int) (v:V):v.s.length≤m→(∀x∈v.l,Rn m x)→(∀p∈v.d,p.1.length≤m)→(∀p∈v.d,Rn m p.2)→Rn m v
abbrev A5p(v:V):Prop:=∀m:Int, -1≤m→m≤1000000→Call E0.P Ac4 [.imm (.agg v.row), .imm (.int .i64 m)] [] (Gd (Agv m v))
abbrev Aua(v:V):Prop:=∀m:Int,Call E0.P Rw [.imm (.agg v.row), .imm (.int .i64 m)] [] (Gd (Rn m v))
theorem Aj3 {α:Type} {P:α→Prop} (l:List α)(i:Nat)(h:i<l.length)(ha:∀x∈l.take i,P x)(hx:P l[i]):∀x∈l.take (i+1),P x:=by
 intro x h'
 rw [List.take_add_one]at h'
 rcases List.mem_append.1 h' with h' |h'
 ·exact ha x h'
 ·simp [h]at h';rw [h'];exact hx
theorem Bl8(v:V)(hl:v.l.length≤9223372036854775807)(ih:∀x∈v.l,A5p x)(m:Int)(hm0:0≤m)(hm:m≤1000000)(x0 x1 x2:Int)(xs:List UInt8)(x5:List (List IV))(K:Ex→St→Prop)
 (hF:K .ret ⟨[(4, .imm (.bool false))],[]⟩)
 (hE:(∀x∈v.l,Agv (m - 1) x)→K (.exit 0) ⟨[(1,(.imm (.int .i64 m))),(2,(.ptr (Nm.loc (2:Nat)) 0))],[((Nm.loc (2:Nat)),(.blk Aa [(.imm (.int .i64 x0)),(.imm (.int .i64 x1)),(.imm (.int .i64 x2)),(.imm (.str xs)),(.imm (.sl .any 6 (Mo v.l))),(.imm (.sl .any 7 x5))]))]⟩):
 ∀(f i:Nat),f+i=v.l.length→(∀x∈v.l.take i,Agv (m - 1) x)→Ae3 m i x0 x1 x2 xs (Mo v.l) x5 K:=by
 intro f
 induction f with
 |zero=>
  intro i hf ha
  refine Ane _ _ _ _ _ _ _ _ _ ⟨fun h=> ?_,fun _=>hE ?_⟩
  ·have:=of_decide_eq_true h
   rw [Ig]at this;omega
  ·rw [List.take_of_length_le (by omega)]at ha;exact ha
 |succ f ihf=>
  intro i hf ha
  have hlt:i<v.l.length:=by omega
  have hv:Nh v.l i=v.l[i]:=by simp [Nh,List.getD_eq_getElem?_getD,hlt]
  refine Ane _ _ _ _ _ _ _ _ _ ⟨fun h=> ?_,fun h=> ?_⟩
  ·rw [show(Mo v.l).getD (Int.toNat (i:Int)) []=(Nh v.l i).row from Abo _ _ hlt,Gm,Ig]
   refine⟨⟨⟨by omega,by omega⟩,Abp _ _ _⟩, ?_⟩
   have w1:IntKind.i64.wrap (m - 1)=m - 1:=Az _ (by omega) (by omega)
   have w2:IntKind.i64.wrap ((i:Int)+1)=((i+1:Nat):Int):=by rw [Az _ (by omega) (by omega)];simp
   rw [w1,w2]
   refine Afz (ih _ (by rw [hv];exact List.getElem_mem hlt) (m - 1) (by omega) (by omega)) fun c hc=>⟨⟨rfl,rfl⟩,⟨fun _=>hF,fun h=> ?_⟩⟩
   have h:(!c)=false:=h
   exact ihf (i+1) (by omega) (Aj3 _ _ hlt ha (by rw [←hv];exact hc (by simpa using h)))
  ·have:=of_decide_eq_false h
   rw [Ig]at this;omega
theorem Bl9(v:V)(hl:v.d.length≤9223372036854775807)(ih:∀x∈v.d,A5p x.2)(m:Int)(hm0:0≤m)(hm:m≤1000000)(x0 x1 x2:Int)(xs:List UInt8)(x4:List (List IV))(K:Ex→St→Prop)
 (hF:K .ret ⟨[(4, .imm (.bool false))],[]⟩)(hE:(∀x∈v.d,Agv (m - 1) x.2)→K (.exit 2) ⟨[],[]⟩):
 ∀(f i:Nat),f+i=v.d.length→(∀x∈v.d.take i,Agv (m - 1) x.2)→Ach m i x0 x1 x2 xs x4 (Bh v.d) K:=by
 intro f
 induction f with
 |zero=>
  intro i hf ha
  refine Ak8 _ _ _ _ _ _ _ _ _ ⟨fun h=> ?_,fun _=>hE ?_⟩
  ·have:=of_decide_eq_true h
   rw [A7]at this;omega
  ·rw [List.take_of_length_le (by omega)]at ha;exact ha
 |succ f ihf=>
  intro i hf ha
  have hlt:i<v.d.length:=by omega
  have hv:Bp v.d i=v.d[i]:=by simp [Bp,List.getD_eq_getElem?_getD,hlt]
  refine Ak8 _ _ _ _ _ _ _ _ _ ⟨fun h=> ?_,fun h=> ?_⟩
  ·rw [show(Bh v.d).getD (Int.toNat (i:Int)) []=Bf (Bp v.d i) from Aew _ _ hlt,Qh,A7]
   refine⟨⟨⟨by omega,by omega⟩,Dz _ _ _⟩, ?_⟩
   have w1:IntKind.i64.wrap (m - 1)=m - 1:=Az _ (by omega) (by omega)
   have w2:IntKind.i64.wrap ((i:Int)+1)=((i+1:Nat):Int):=by rw [Az _ (by omega) (by omega)];simp
   rw [w1,w2]
   refine Afz (ih _ (by rw [hv];exact List.getElem_mem hlt) (m - 1) (by omega) (by omega)) fun c hc=>⟨⟨rfl,rfl⟩,⟨fun _=>hF,fun h=> ?_⟩⟩
   have h:(!c)=false:=h
   exact ihf (i+1) (by omega) (Aj3 (P:=fun x:Pr=>Agv (m - 1) x.2) _ _ hlt ha (by rw [←hv];exact hc (by simpa using h)))
  ·have:=of_decide_eq_false h
   rw [A7]at this;omega
theorem Bos(v:V)(hv:Wf v):A5p v:=by
 induction hv with
 |mk v _ _ _ _ h1 h2 _ _ _ ih1 ih2=>
  intro m hm0 hm
  have ih2:∀p∈v.d,A5p p.2:=fun p hp=>(ih2 p hp)
  generalize hQ:Gd (Agv m v)=Q
  have hF:Q (.imm (.bool false)) []:=by rw [←hQ];exact⟨false,rfl,rfl,fun h=>by cases h⟩
  have hT:Agv m v→Q (.imm (.bool true)) []:=fun h=>by rw [←hQ];exact⟨true,rfl,rfl,fun _=>h⟩
  rw [Co]
  refine A56 _ _ _ _ _ _ _ _ ⟨fun _=>hF,fun h=> ?_⟩
  have hm0:0≤m:=by have:=of_decide_eq_false h;omega
  refine Bl8 v h1 ih1 m hm0 hm _ _ _ _ _ _ (A1j _ _ hF) (fun a1=>A1k _ _ _ _ _ _ _ _ (Ayv _ _ _ _ _ _ _ _ ?_)) v.l.length 0 rfl (by simp)
  exact Bl9 v h2 ih2 m hm0 hm _ _ _ _ _ _ (A1m _ _ (Am7 _ _ hF)) (fun a2=>A1n _ (Ayw _ (A1l _ _ (Am7 _ _ (hT (.mk m v hm0 a1 a2)))))) v.d.length 0 rfl (by simp)
theorem Bf1(v:V)(hl:v.l.length≤9223372036854775807)(ih:∀x∈v.l,Aua x)(m:Int)(x0 x1 x2:Int)(xs:List UInt8)(x5:List (List IV))(K:Ex→St→Prop)
 (hF:K .ret ⟨[(4, .imm (.bool false))],[]⟩)
 (hE:(∀x∈v.l,Rn m x)→K (.exit 0) ⟨[(1,(.imm (.int .i64 m))),(2,(.ptr (Nm.loc (2:Nat)) 0))],[((Nm.loc (2:Nat)),(.blk Aa [(.imm (.int .i64 x0)),(.imm (.int .i64 x1)),(.imm (.int .i64 x2)),(.imm (.str xs)),(.imm (.sl .any 6 (Mo v.l))),(.imm (.sl .any 7 x5))]))]⟩):
 ∀(f i:Nat),f+i=v.l.length→(∀x∈v.l.take i,Rn m x)→Zz m i x0 x1 x2 xs (Mo v.l) x5 K:=by
 intro f
 induction f with
 |zero=>
  intro i hf ha
  refine Ajx _ _ _ _ _ _ _ _ _ ⟨fun h=> ?_,fun _=>hE ?_⟩
  ·have:=of_decide_eq_true h
   rw [Ig]at this;omega
  ·rw [List.take_of_length_le (by omega)]at ha;exact ha
 |succ f ihf=>
  intro i hf ha
  have hlt:i<v.l.length:=by omega
  have hv:Nh v.l i=v.l[i]:=by simp [Nh,List.getD_eq_getElem?_getD,hlt]
  refine Ajx _ _ _ _ _ _ _ _ _ ⟨fun h=> ?_,fun h=> ?_⟩
  ·rw [show(Mo v.l).getD (Int.toNat (i:Int)) []=(Nh v.l i).row from Abo _ _ hlt,Gm,Ig]
   refine⟨⟨⟨by omega,by omega⟩,Abp _ _ _⟩, ?_⟩
   have w2:IntKind.i64.wrap ((i:Int)+1)=((i+1:Nat):Int):=by rw [Az _ (by omega) (by omega)];simp
   rw [w2]
   refine Afz (ih _ (by rw [hv];exact List.getElem_mem hlt) m) fun c hc=>⟨⟨rfl,rfl⟩,⟨fun _=>hF,fun h=> ?_⟩⟩
   have h:(!c)=false:=h
   exact ihf (i+1) (by omega) (Aj3 _ _ hlt ha (by rw [←hv];exact hc (by simpa using h)))
  ·have:=of_decide_eq_false h
   rw [Ig]at this;omega
theorem Bf2(v:V)(hl:v.d.length≤9223372036854775807)(ih:∀x∈v.d,Aua x.2)(m:Int)(x0 x1 x2:Int)(xs:List UInt8)(x4:List (List IV))(K:Ex→St→Prop)
 (hF:K .ret ⟨[(4, .imm (.bool false))],[]⟩)(hE:(∀x∈v.d,((x.1.length:Nat):Int)≤m∧Rn m x.2)→K (.exit 2) ⟨[],[]⟩):
 ∀(f i:Nat),f+i=v.d.length→(∀x∈v.d.take i,((x.1.length:Nat):Int)≤m∧Rn m x.2)→Xq m i x0 x1 x2 xs x4 (Bh v.d) K:=by
 intro f
 induction f with
 |zero=>
  intro i hf ha
  refine Ahh _ _ _ _ _ _ _ _ _ ⟨fun h=> ?_,fun _=>hE ?_⟩
  ·have:=of_decide_eq_true h
   rw [A7]at this;omega
  ·rw [List.take_of_length_le (by omega)]at ha;exact ha
 |succ f ihf=>
  intro i hf ha
  have hlt:i<v.d.length:=by omega
  have hv:Bp v.d i=v.d[i]:=by simp [Bp,List.getD_eq_getElem?_getD,hlt]
  refine Ahh _ _ _ _ _ _ _ _ _ ⟨fun h=> ?_,fun h=> ?_⟩
  ·have g0:∀x:Pr,gS (Bf x) 0=x.1:=fun x=>by rw [I8];rfl
   rw [show(Bh v.d).getD (Int.toNat (i:Int)) []=Bf (Bp v.d i) from Aew _ _ hlt,Qh,g0,A7]
   have rng:((0:Int)≤(i:Int)∧(i:Int)<(v.d.length:Int))∧Bg [.str, .int .i64, .int .i64, .int .i64, .str, .sl 6 Aa, .sl 7 Ah] (Bf (Bp v.d i))=true:=⟨⟨by omega,by omega⟩,Dz _ _ _⟩
   refine⟨rng,⟨fun _=>rng,⟨fun hk=> ?_,fun _=>⟨rfl,Let.intro ⟨fun _=>hF,fun h=>absurd h (by decide)⟩⟩⟩⟩⟩
   have w2:IntKind.i64.wrap ((i:Int)+1)=((i+1:Nat):Int):=by rw [Az _ (by omega) (by omega)];simp
   refine Afz (ih _ (by rw [hv];exact List.getElem_mem hlt) m) fun c hc=>⟨⟨rfl,rfl⟩,Let.intro ⟨fun _=>hF,fun h=> ?_⟩⟩
   have h:(!c)=false:=h
   have hk:((Bp v.d i).1.length:Int)≤m:=by
    have:decide (m<((Bp v.d i).1.length:Int))=false:=by simpa using hk
    have:=of_decide_eq_false this
    omega
   refine Au6 _ _ _ _ _ _ _ _ _ ?_
   rw [w2]
   refine Aw9 _ _ _ _ _ _ _ _ _ (ihf (i+1) (by omega) (Aj3 (P:=fun x:Pr=>((x.1.length:Nat):Int)≤m∧Rn m x.2) _ _ hlt ha ?_))
   rw [←hv]
   exact⟨hk,hc (by simpa using h)⟩
  ·have:=of_decide_eq_false h
   rw [A7]at this;omega
theorem Bj1(v:V)(hv:Wf v):Aua v:=by
 induction hv with
 |mk v _ _ _ _ h1 h2 _ _ _ ih1 ih2=>
  intro m
  have ih2:∀p∈v.d,Aua p.2:=fun p hp=>(ih2 p hp)
  generalize hQ:Gd (Rn m v)=Q
  have hF:Q (.imm (.bool false)) []:=by rw [←hQ];exact⟨false,rfl,rfl,fun h=>by cases h⟩
  have hT:Rn m v→Q (.imm (.bool true)) []:=fun h=>by rw [←hQ];exact⟨true,rfl,rfl,fun _=>h⟩
  rw [Co]
  refine A1a _ _ _ _ _ _ _ _ ⟨fun _=>hF,fun h=> ?_⟩
  have hs:v.s.length≤m:=by have:=of_decide_eq_false h;omega
  refine Bf1 v h1 ih1 m _ _ _ _ _ _ (Aw4 _ _ hF) (fun a1=>Aw5 _ _ _ _ _ _ _ _ (Au5 _ _ _ _ _ _ _ _ ?_)) v.l.length 0 rfl (by simp)
  exact Bf2 v h2 ih2 m _ _ _ _ _ _ (Aw7 _ _ (Ajk _ _ hF)) (fun a2=>Aw8 _ (Au7 _ (Aw6 _ _ (Ajk _ _ (hT (.mk m v hs a1 (fun p hp=>(a2 p hp).1) (fun p hp=>(a2 p hp).2))))))) v.d.length 0 rfl (by simp)
structure A57 (n:Nat) (v:V):Prop where
 c:Ch v≤n
 l:Agv 200 v
 s:Rn 3000 v
theorem Bop(v:V)(hv:Wf v)(n:Nat)(hn:n≤1000000):Call E0.P Apg [.imm (.agg v.row), .imm (.int .i64 n)] [] (Gd (A57 n v)):=by
 have a1:=Bms v hv (n+1) (by omega) (by omega)
 have a2:=Bos v hv 200 (by omega) (by omega)
 have a3:=Bj1 v hv 3000
 generalize hQ:Gd (A57 n v)=Q
 have hF:Q (.imm (.bool false)) []:=by rw [←hQ];exact⟨false,rfl,rfl,fun h=>by cases h⟩
 have hT:∀c:Bool,(c=true→A57 n v)→Q (.imm (.bool c)) []:=fun c h=>by rw [←hQ];exact⟨c,rfl,rfl,h⟩
 rw [Co]at a1 a2 a3 ⊢
 have w:IntKind.i64.wrap ((n:Int)+1)=((n+1:Nat):Int):=by rw [Az _ (by omega) (by omega)];simp
 refine A55 _ _ _ _ _ _ _ _ ?_
 rw [w]
 refine Call.use a1 ⟨⟨rfl,rfl⟩,⟨fun h=> ?_,fun _=> ?_⟩⟩
 ·have hc:Ch v≤n:=by
   have h:(decide (((min (Ch v) (n+1):Nat):Int)≤(n:Int)) == true)=true:=h
   have:((min (Ch v) (n+1):Nat):Int)≤(n:Int):=by simpa using h
   omega
  refine Afz a2 fun c2 h2=>⟨⟨rfl,rfl⟩,Let.intro ⟨fun e2=> ?_,fun _=>⟨rfl,Let.intro hF⟩⟩⟩
  have e2:c2=true:=by have e2:(c2 == true)=true:=e2;simpa using e2
  exact Afz a3 fun c3 h3=>⟨⟨rfl,rfl⟩,Let.intro (hT c3 fun e3=>⟨hc,h2 e2,h3 e3⟩)⟩
 ·exact⟨rfl,Let.intro ⟨fun h=>absurd h (by decide),fun _=>⟨rfl,Let.intro hF⟩⟩⟩
end Go.Proofs.Sim.Se

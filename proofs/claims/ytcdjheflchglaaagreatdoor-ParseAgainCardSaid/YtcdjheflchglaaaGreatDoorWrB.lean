import Derived.Test.YtcdjheflchglaaaGreatDoorWrA
namespace Go.Proofs.Sim.Se
open Go Go.Proofs Go.Proofs.Sim Go.Proofs.Sim.Va Go.Proofs.Sim.St Go.RowKit
def O7(l:List (List UInt8)):Nat:=(l.map fun t=>t.length+1).sum
theorem Art(x:List UInt8)(r:List (List UInt8)):Ch (x::r)=x++(r.map fun t=>32::t).flatten:=by
 rw [Ch,Lib.join_cons];rfl
theorem Ajj(l:List (List UInt8)):(Ch l).length≤O7 l:=by
 cases l with
 |nil=>simp [Ch,Lib.join_nil]
 |cons x r=>
  rw [Art,O7,List.length_append,List.map_cons,List.sum_cons]
  have:((r.map fun t=>(32:UInt8)::t).flatten).length=(r.map fun t=>t.length+1).sum:=by
   induction r with
   |nil=>rfl
   |cons y r ih=>rw [List.map_cons,List.flatten_cons,List.length_append,ih,List.map_cons,List.sum_cons];simp
  omega
theorem A63(l:List (List UInt8))(x:List UInt8)(h:x∈l):x.length+1≤O7 l:=Aio (fun t:List UInt8=>t.length+1) l x h
theorem A62(l:List (List UInt8)):l.length≤O7 l:=Ain (fun t:List UInt8=>t.length+1) l fun _ _=>by omega
inductive SmW:V→Prop where
 |mk (v:V):I64 v.n→I64 v.g→v.s.length≤3000→v.l.length≤1000000→v.d.length≤1000000→O7 (v.l.map V.wr)≤10000000000→O7 (v.d.map fun p=>Ch [Df p.1,p.2.wr])≤10000000000→(∀p∈v.d,p.1.length≤3000)→
  (∀x∈v.l,SmW x)→(∀p∈v.d,SmW p.2)→SmW v
inductive Scal:V→Prop where
 |mk (v:V):I64 v.n→I64 v.g→v.s.length≤3000→(∀x∈v.l,Scal x)→(∀p∈v.d,p.1.length≤3000)→(∀p∈v.d,Scal p.2)→Scal v
theorem Axy(s:List UInt8):(Df s).length≤3*s.length+1:=by
 have:=Arq Lx 3 Amv s
 rw [Df,List.length_cons];omega
theorem A4i(s:List UInt8):(Xe s).length≤2*s.length+2:=by
 have h1:=Arq Mv 2 Ap4 s
 have h2:=Azy s
 unfold Xe
 split
 ·rw [List.cons_append,List.length_cons,List.length_append];simp only [List.length_cons,List.length_nil];omega
 ·rw [List.length_cons];omega
theorem Ash {α:Type} (f g:α→Nat)(l:List α)(h:∀x∈l,f x≤g x):(l.map f).sum≤(l.map g).sum:=by
 induction l with
 |nil=>simp
 |cons x l ih=>
  have:=ih fun y hy=>h y (by simp [hy])
  have:=h x (by simp)
  simp;omega
theorem A0a {α:Type} (c:Nat)(f:α→Nat)(l:List α):(l.map fun x=>c*f x).sum=c*(l.map f).sum:=by
 induction l with
 |nil=>simp
 |cons x l ih=>simp only [List.map_cons,List.sum_cons,ih,Nat.mul_add]
theorem Amq(a b:List UInt8):(Ch [a,b]).length=a.length+b.length+1:=by rw [Art];simp;omega
theorem A4p {v:V} (h:Scal v):v.wr.length+9100≤20000*D5 v∧O7 (v.l.map V.wr)≤20000*D5 v∧O7 (v.d.map fun p=>Ch [Df p.1,p.2.wr])≤20000*D5 v:=by
 induction h with
 |mk v a2 a3 a4 a7 a8 a9 ih1 ih2=>
  have hl:O7 (v.l.map V.wr)≤20000*(v.l.map D5).sum:=by
   rw [O7,List.map_map, ←A0a]
   exact Ash _ _ _ fun x hx=>by have:=(ih1 x hx).1;simp only [Function.comp_apply];omega
  have hd:O7 (v.d.map fun p=>Ch [Df p.1,p.2.wr])≤20000*(v.d.map fun p=>D5 p.2).sum:=by
   rw [O7,List.map_map, ←A0a]
   exact Ash _ _ _ fun p hp=>by
    have:=(ih2 p hp).1
    have h1:=Axy p.1
    have h2:=a8 p hp
    simp only [Function.comp_apply,Amq]
    omega
  have hc:=Tx v
  refine⟨?_,by omega,by omega⟩
  rw [Tf]
  have j1:=Ajj (v.l.map V.wr)
  have j2:=Ajj (v.d.map fun p=>Ch [Df p.1,p.2.wr])
  have n1:=Axy v.s
  have n2:=A4i v.s
  have i1:=Aji v.n a2.1 a2.2
  have i2:=Aji v.g a3.1 a3.2
  have e:(v.d.map fun p=>(p.1,p.2.wr)).map (fun p=>Ch [Df p.1,p.2])=v.d.map fun p=>Ch [Df p.1,p.2.wr]:=by rw [List.map_map];rfl
  unfold mkW
  split
  ·split<;>simp [Asi,Am5]<;>omega
  split
  ·omega
  split
  ·omega
  split
  ·omega
  split
  ·simp only [List.length_append,List.length_cons,List.length_nil];omega
  split
  ·rw [e];simp only [List.length_append,List.length_cons,List.length_nil];omega
  split
  ·simp only [List.length_append,List.length_cons,List.length_nil,Amq];omega
  ·simp [An1];omega
theorem A6x {v:V} (h:Scal v):D5 v≤100000→SmW v:=by
 induction h with
 |mk v a2 a3 a4 a7 a8 a9 ih1 ih2=>
  intro hc
  have h0:=A4p (Scal.mk v a2 a3 a4 a7 a8 a9)
  have he:=Tx v
  have l1:=Ain D5 v.l fun x _=>Ah1 x
  have l2:=Ain (fun p:Pr=>D5 p.2) v.d fun p _=>Ah1 p.2
  refine .mk v a2 a3 a4 (by omega) (by omega) (by omega) (by omega) a8 (fun x hx=>ih1 x hx ?_) fun p hp=>ih2 p hp ?_
  ·have:=Aio D5 v.l x hx;omega
  ·have:=Aio (fun p:Pr=>D5 p.2) v.d p hp;omega
theorem A9t(f:Pr→Nat)(x:Pr)(l:List Pr):((ins bl pk x l).map f).sum=f x+(l.map f).sum:=by
 induction l with
 |nil=>simp [ins]
 |cons y r ih=>
  rw [ins]
  split
  ·rw [List.map_cons,List.sum_cons,ih,List.map_cons,List.sum_cons];omega
  ·simp
theorem A9v(f:Pr→Nat)(l:List Pr):((Cg l).map f).sum=(l.map f).sum:=by
 induction l with
 |nil=>simp [Cg,srt]
 |cons x l ih=>rw [show Cg (x::l)=ins bl pk x (Cg l) from rfl,A9t,ih];simp
theorem A9w(f:Pr→Nat) {a b:List Pr} (h:a.Sublist b):(a.map f).sum≤(b.map f).sum:=by
 induction h with
 |slnil=>simp
 |cons x h ih=>simp;omega
 |cons_cons x h ih=>simp;omega
theorem A9u(f:Pr→Nat)(d:List Pr):(((uniq d).filter Ud).map f).sum≤(d.map f).sum:=by
 rw [←A9v f d]
 exact A9w f ((List.filter_sublist).trans (Wj _))
theorem Ar8 {v:V} (h:Scal v):Scal v.plain∧D5 v.plain≤D5 v:=by
 have z:I64 0:=⟨by decide,by decide⟩
 have n0:∀(P:V→Prop),∀x∈([]:List V),P x:=fun P x hx=>by cases hx
 have n1:∀(P:Pr→Prop),∀x∈([]:List Pr),P x:=fun P x hx=>by cases hx
 have leaf:∀(k n g:Int) (s:List UInt8),I64 n→I64 g→s.length≤3000→Scal (.mk k n g s [] [])∧D5 (.mk k n g s [] [])=1:=by
  intro k n g s h1 h2 h3
  refine⟨.mk _ h1 h2 h3 (n0 _) (n1 _) (n1 _), ?_⟩
  rw [Tx];simp [V.l,V.d]
 induction h with
 |mk v a2 a3 a4 a7 a8 a9 ih1 ih2=>
  have hp:=Ah1 v
  have he:=Tx v
  rw [Fg]
  have hdm:∀p∈(uniq (M6 v.d)).filter Ud,∃q∈v.d,p=(q.1,q.2.plain):=by
   intro p hp
   have:=Aj6 (List.mem_filter.1 hp).1
   rw [M6,List.mem_map]at this
   obtain⟨q,h1,h2⟩:=this
   exact⟨q,h1,h2.symm⟩
  have hsd:(((uniq (M6 v.d)).filter Ud).map fun p:Pr=>D5 p.2).sum≤(v.d.map fun p:Pr=>D5 p.2).sum:=by
   refine Nat.le_trans (A9u _ _) ?_
   rw [M6,List.map_map]
   exact Ash _ _ _ fun p hp=>(ih2 p hp).2
  have dd:∀(k:Int) (s:List UInt8),s.length≤3000→Scal (.mk k 0 0 s [] ((uniq (M6 v.d)).filter Ud))∧D5 (.mk k 0 0 s [] ((uniq (M6 v.d)).filter Ud))≤D5 v:=by
   intro k s hs
   refine⟨.mk _ z z hs (n0 _) (fun p hp=> ?_) (fun p hp=> ?_), ?_⟩
   ·obtain⟨q,h1,rfl⟩:=hdm p hp
    exact a8 q h1
   ·obtain⟨q,h1,rfl⟩:=hdm p hp
    exact(ih2 q h1).1
   ·rw [Tx]
    show 1+(([]:List V).map D5).sum+_≤_
    simp only [List.map_nil,List.sum_nil]
    show 1+0+(((uniq (M6 v.d)).filter Ud).map fun p:Pr=>D5 p.2).sum≤_
    omega
  unfold Rv
  split
  ·have:=leaf v.k v.n 0 [] a2 z (by simp);exact⟨this.1,by omega⟩
  split
  ·have:=leaf v.k 0 0 v.s z z a4;exact⟨this.1,by omega⟩
  split
  ·refine⟨.mk _ z z (by simp [V.s]) (fun x hx=> ?_) (n1 _) (n1 _), ?_⟩
   ·obtain⟨y,h1,rfl⟩:=List.mem_map.1 hx
    exact(ih1 y h1).1
   ·rw [Tx]
    show 1+((v.l.map V.plain).map D5).sum+0≤_
    have:((v.l.map V.plain).map D5).sum≤(v.l.map D5).sum:=by
     rw [List.map_map];exact Ash _ _ _ fun x hx=>(ih1 x hx).2
    omega
  split
  ·exact dd _ _ (by simp)
  split
  ·have:=leaf v.k v.n v.g [] a2 a3 (by simp);exact⟨this.1,by omega⟩
  split
  ·exact dd _ _ a4
  ·have:=leaf 0 0 0 [] z z (by simp);exact⟨this.1,by show D5 zero≤_;rw [show D5 zero=1 from this.2];exact hp⟩
end Go.Proofs.Sim.Se
set_option maxRecDepth 100000
namespace Go.Proofs.Sim.Se
open Go Go.Proofs Go.Proofs.Sim Go.Proofs.Sim.Va Go.RowKit
abbrev Z5(l:List (List UInt8)):List (List IV):=l.map fun s=>[.str s]
theorem Aes(l:List (List UInt8)):(Z5 l).length=l.length:=List.length_map ..
theorem Bao(xs:List (List UInt8))(hN:O7 xs≤100000000000):Call E0.P Agy [.imm (.sl .any 1 (Z5 xs)), .imm (.str [32])] [] (Is (.imm (.str (Ch xs))) []):=by
 have h1:=Ajj xs
 have h2:=A62 xs
 refine Q3 Tryz.func53 (by kernel_rfl) (by kernel_rfl) [.sl .any 1 (Z5 xs), .str [32]] _ fun g w vs hv hs=> ?_
 obtain⟨v,u,rfl,hr,hu⟩:=A1n hv
 obtain rfl:=Aj1 hu
 cases hr with |sl a cap _ _ _ b o ws q1 q2 q3 q4 q5 q6 q7 q8 q9=>
 by_cases hx:xs=[]
 ·subst hx
  refine(Tryz.strings_Join_none a cap ⟨([32]:List UInt8).toArray⟩ w).mono ?_
  rintro e w' ⟨rfl,rfl⟩
  exact⟨_, .imm (.str []),rfl,Below.refl _ _, .imm _ _ (.str _ _ rfl),rfl,rfl⟩
 ·have hne:Z5 xs≠[]:=by
   intro h;apply hx
   have:=congrArg List.length h
   rw [Aes]at this
   exact List.eq_nil_of_length_eq_zero (by simpa using this)
  have ha:=q5 hne
  subst ha
  rw [Aes]at q1 ⊢
  have cell:∀j,(hj:j<xs.length)→w.cell? ⟨b,o+j,none⟩=some (.string ⟨(xs[j]).toArray⟩):=by
   intro j hj
   have c1:=q7 j 0 (by rw [Aes];exact hj) (by omega)
   have c2:=q8 j 0 (by rw [Aes];exact hj) (by omega)
   have c3:=hs.imm _ _ _ c1
   have e:((Z5 xs).getD j []).getD 0 default= .str xs[j]:=by simp [List.getD_eq_getElem?_getD,hj]
   rw [e]at c2
   have e2:ws j 0= .string ⟨(xs[j]).toArray⟩:=by
    generalize ws j 0=z at c2
    cases c2 with |str s _ h=>
    have:s=⟨(xs[j]).toArray⟩:=by cases s;simp at h;simp [←h]
    rw [this]
   rw [show o+j=o+j*1+0 by omega,c3,e2]
  have hlt:b<w.heap.size:=by
   obtain⟨n,hn⟩:=List.exists_mem_of_ne_nil xs hx
   have h0:0<xs.length:=List.length_pos_of_mem hn
   have:=cell 0 h0
   rcases Nat.lt_or_ge b w.heap.size with h |h
   ·exact h
   ·simp [World.cell?,Array.getElem?_eq_none h]at this
  have em:(xs.map fun s=>(⟨s.toArray⟩:ByteArray)).map (fun x:ByteArray=>x.data.toList)=xs:=by
   rw [List.map_map,show((fun x:ByteArray=>x.data.toList) ∘ fun s:List UInt8=>(⟨s.toArray⟩:ByteArray))=id from by funext s;simp,List.map_id]
  have hj:=Tryz.strings_Join b o cap (xs.map fun s=>(⟨s.toArray⟩:ByteArray)) ⟨([32]:List UInt8).toArray⟩ w (fun j x hx=>by
   rw [List.getElem?_map]at hx
   by_cases hj:j<xs.length
   ·rw [List.getElem?_eq_getElem hj]at hx
    injection hx with hx
    rw [cell j hj, ←hx]
   ·rw [List.getElem?_eq_none (by omega)]at hx;cases hx) hlt (by rw [List.length_map];omega) (by rw [List.length_map];exact q1) (by
   rw [em]
   show(Ch xs).length≤_
   omega)
  rw [List.length_map,em]at hj
  refine hj.mono ?_
  rintro e w' ⟨rfl,hb⟩
  exact⟨_, .imm (.str (Ch xs)),rfl,hb, .imm _ _ (.str _ _ (by simp [Ch])),rfl,rfl⟩
theorem Ai0(xs:List (List UInt8))(hN:O7 xs≤100000000000):Call E0.P Sy [.imm (.sl .any 1 (Z5 xs))] [] (Is (.imm (.str (Ch xs))) []):=
 Aoh _ _ (Call.use (Bao xs hN) ⟨⟨rfl,rfl⟩,⟨rfl,rfl⟩⟩)
def Pp(k:Int)(xs:List (List UInt8)):List UInt8:=if k=5 then [91]++Ch xs++[93]else if k=6 then [60,60]++Ch xs++[62,62]else if k=7 then Ch xs++[32,82]else An1
theorem A4r(k:Int)(xs:List (List UInt8))(hN:O7 xs≤100000000000):Call E0.P Zq [.imm (.int .i64 k), .imm (.sl .any 1 (Z5 xs))] [] (Is (.imm (.str (Pp k xs))) []):=by
 have hl:=Ajj xs
 have w1:IntKind.i64.wrap ((0:Int)+1)=1:=by decide
 have w2:IntKind.i64.wrap ((1:Int)+1)=2:=by decide
 have w3:IntKind.i64.wrap ((2:Int)+1)=3:=by decide
 have last:Qw k (Z5 xs) 5 [91] [93] 6 [60,60] [62,62] 7 [] [32,82] 3 (Qr (Is (.imm (.str An1)) [])):=by
  refine Nb _ _ _ _ _ _ _ _ _ _ _ _ _ ⟨fun h=>absurd h (by decide),fun _=> ?_⟩
  exact Ak2 _ (Aiv _ (Ak1 _ _ ⟨rfl,rfl⟩))
 refine Aog _ _ _ (Nb _ _ _ _ _ _ _ _ _ _ _ _ _ ⟨fun _=>⟨⟨by decide,rfl⟩, ?_⟩,fun h=>absurd h (by decide)⟩)
 show Br (decide ((5:Int)=k)) _ _
 refine Cm (fun e=> ?_) fun n5=> ?_
 ·subst e
  refine Call.use (Ai0 xs hN) ⟨⟨rfl,rfl⟩,⟨?_,⟨?_,R7 _ _ ⟨rfl,rfl⟩⟩⟩⟩
  ·show(((1+(Ch xs).length:Nat)):Int)≤_
   omega
  ·show(((([91]++Ch xs:List UInt8).length+1:Nat)):Int)≤_
   rw [List.length_append];simp only [List.length_cons,List.length_nil];omega
 rw [w1]
 refine Nb _ _ _ _ _ _ _ _ _ _ _ _ _ ⟨fun _=>⟨⟨by decide,rfl⟩, ?_⟩,fun h=>absurd h (by decide)⟩
 show Br (decide ((6:Int)=k)) _ _
 refine Cm (fun e=> ?_) fun n6=> ?_
 ·subst e
  refine Call.use (Ai0 xs hN) ⟨⟨rfl,rfl⟩,⟨?_,⟨?_,R7 _ _ ⟨rfl,rfl⟩⟩⟩⟩
  ·show(((2+(Ch xs).length:Nat)):Int)≤_
   omega
  ·show(((([60,60]++Ch xs:List UInt8).length+2:Nat)):Int)≤_
   rw [List.length_append];simp only [List.length_cons,List.length_nil];omega
 rw [w2]
 refine Nb _ _ _ _ _ _ _ _ _ _ _ _ _ ⟨fun _=>⟨⟨by decide,rfl⟩, ?_⟩,fun h=>absurd h (by decide)⟩
 show Br (decide ((7:Int)=k)) _ _
 refine Cm (fun e=> ?_) fun n7=> ?_
 ·subst e
  refine Call.use (Ai0 xs hN) ⟨⟨rfl,rfl⟩,⟨?_,⟨?_,R7 _ _ ⟨rfl,rfl⟩⟩⟩⟩
  ·show(((0+(Ch xs).length:Nat)):Int)≤_
   omega
  ·show(((([]++Ch xs:List UInt8).length+2:Nat)):Int)≤_
   rw [List.nil_append];omega
 rw [w3,Pp,if_neg (Ne.symm n5),if_neg (Ne.symm n6),if_neg (Ne.symm n7)]
 exact last
abbrev Afr(v:V):Prop:=Call E0.P P6 [.imm (.agg v.row)] [] (Is (.imm (.str v.wr)) [])
theorem Ba1 {l:List V} {i:Nat} (h:i<l.length):Wp l i=l[i]:=by simp [Wp,List.getD_eq_getElem?_getD,h]
theorem A9l {l:List Pr} {i:Nat} (h:i<l.length):Cn l i=l[i]:=by simp [Cn,List.getD_eq_getElem?_getD,h]
theorem Au3 {α β:Type} (f:α→β)(l:List α)(i:Nat)(h:i<l.length):(l.take (i+1)).map f=(l.take i).map f++[f l[i]]:=by
 have:l[i]?.toList=[l[i]]:=by simp [h]
 rw [List.take_add_one,this,List.map_append];rfl
abbrev A2h(a b c:Int)(s:List UInt8)(p q:List (List IV)):Heap:=[(Nm.loc 1, .blk Ae [.imm (.int .i64 a), .imm (.int .i64 b), .imm (.int .i64 c), .imm (.str s), .imm (.sl .any 6 p), .imm (.sl .any 7 q)])]
theorem Bah(v:V)(hl:v.l.length≤1000000)(ih:∀x∈v.l,Afr x)(a b c:Int)(s:List UInt8)(p q:List (List IV))(K:Ex→St→Prop)
 (hE:K (.exit 1) ⟨[(1, .ptr (Nm.loc 1) 0),(3, .own (Nm.loc 3))],A2h a b c s p q++[(Nm.loc 3, .arr (Ov+2) true 1 (Z5 (v.l.map V.wr)))]⟩):
 ∀(m i:Nat),m+i=v.l.length→Qy (Rx v.l) v.l.length i a b c s p q (Z5 ((v.l.take i).map V.wr)) K:=by
 intro m
 induction m with
 |zero=>
  intro i hi
  refine Aag _ _ _ _ _ _ _ _ _ _ _ (Cm (fun h=>by omega) fun _=> ?_)
  rw [List.take_of_length_le (by omega)]
  exact hE
 |succ m ihm=>
  intro i hi
  have hlt:i<v.l.length:=by omega
  refine Aag _ _ _ _ _ _ _ _ _ _ _ (Cm (fun _=> ?_) fun h=>by omega)
  rw [show(Rx v.l).getD (Int.toNat (i:Int)) []=(Wp v.l i).row from Air _ _ hlt,Ow,U9,Md i (by omega),Ba1 hlt]
  refine⟨⟨⟨by omega,by omega⟩,Ais _ _ _⟩,Call.use (ih _ (List.getElem_mem hlt)) ⟨⟨rfl,rfl⟩,⟨?_, ?_⟩⟩⟩
  ·rw [Aes,List.length_map,List.length_take];constructor<;>omega
  ·have:=ihm (i+1) (by omega)
   rw [Au3 V.wr _ _ hlt,show Z5 ((v.l.take i).map V.wr++[v.l[i].wr])=Z5 ((v.l.take i).map V.wr)++[[.str v.l[i].wr]]by simp [Z5]]at this
   exact this
theorem Bag(v:V)(hl:v.d.length≤1000000)(hk:∀x∈v.d,x.1.length≤3000)(hz:∀x∈v.d,O7 [Df x.1,x.2.wr]≤100000000000)(ih:∀x∈v.d,Afr x.2)(a b c:Int)(s:List UInt8)(p q:List (List IV))(K:Ex→St→Prop)
 (hE:K (.exit 3) ⟨[(1, .ptr (Nm.loc 1) 0),(3, .own (Nm.loc 3))],A2h a b c s p q++[(Nm.loc 3, .arr (Ov+2) true 1 (Z5 (v.d.map fun x=>Ch [Df x.1,x.2.wr])))]⟩):
 ∀(m i:Nat),m+i=v.d.length→Qz (Bz v.d) v.d.length i a b c s p q (Z5 ((v.d.take i).map fun x=>Ch [Df x.1,x.2.wr])) K:=by
 intro m
 induction m with
 |zero=>
  intro i hi
  refine Aah _ _ _ _ _ _ _ _ _ _ _ (Cm (fun h=>by omega) fun _=> ?_)
  rw [List.take_of_length_le (by omega)]
  exact hE
 |succ m ihm=>
  intro i hi
  have hlt:i<v.d.length:=by omega
  have hm:=List.getElem_mem hlt
  have hk:=hk _ hm
  refine Aah _ _ _ _ _ _ _ _ _ _ _ (Cm (fun _=> ?_) fun h=>by omega)
  rw [show(Bz v.d).getD (Int.toNat (i:Int)) []=C9 (Cn v.d i) from Anz _ _ hlt,Aca,Bbs,Bc,Md i (by omega),A9l hlt]
  refine⟨⟨⟨by omega,by omega⟩,Fv _ _ _⟩,Call.use (Al7 _ (by omega)) ⟨⟨rfl,rfl⟩,Call.use (ih _ hm) ⟨⟨rfl,rfl⟩,Call.use (Ai0 [Df v.d[i].1,v.d[i].2.wr] (hz _ hm)) ⟨⟨rfl,rfl⟩,⟨?_, ?_⟩⟩⟩⟩⟩
  ·rw [Aes,List.length_map,List.length_take];constructor<;>omega
  ·have:=ihm (i+1) (by omega)
   rw [Au3 (fun x:Pr=>Ch [Df x.1,x.2.wr]) _ _ hlt,show Z5 ((v.d.take i).map (fun x:Pr=>Ch [Df x.1,x.2.wr])++[Ch [Df v.d[i].1,v.d[i].2.wr]])=Z5 ((v.d.take i).map fun x:Pr=>Ch [Df x.1,x.2.wr])++[[.str (Ch [Df v.d[i].1,v.d[i].2.wr])]]by simp [Z5]]at this
   exact this
theorem A4o(v:V)(h1:v.k≠1)(h2:v.k≠2)(h3:v.k≠3)(h4:v.k≠4):v.wr=if v.k=5 then Pp v.k (v.l.map V.wr)else if v.k=6 then Pp v.k (v.d.map fun x=>Ch [Df x.1,x.2.wr])else if v.k=7 then Pp v.k [Lib.itoa v.n,Lib.itoa v.g]else Pp v.k []:=by
 rw [Tf,mkW,if_neg h1,if_neg h2,if_neg h3,if_neg h4]
 by_cases h5:v.k=5
 ·rw [if_pos h5,if_pos h5,Pp,if_pos h5]
 rw [if_neg h5,if_neg h5]
 by_cases h6:v.k=6
 ·rw [if_pos h6,if_pos h6,Pp,if_neg h5,if_pos h6,List.map_map];rfl
 rw [if_neg h6,if_neg h6]
 by_cases h7:v.k=7
 ·rw [if_pos h7,if_pos h7,Pp,if_neg h5,if_neg h6,if_pos h7]
 rw [if_neg h7,if_neg h7,Pp,if_neg h5,if_neg h6,if_neg h7]
theorem A8f(n:Int):Call E0.P Ac0 [.imm (.int .i64 n)] [] (Is (.imm (.str (if n=1 then Asi else Am5))) []):=
 Aq5 _ _ (Cm (fun h=>by rw [if_pos h];exact⟨rfl,rfl⟩) fun h=>by rw [if_neg h];exact⟨rfl,rfl⟩)
theorem A4x(v:V)(h:SmW v):Afr v:=by
 induction h with
 |mk v b1 b2 b3 b4 b5 b6 b7 b8 b9 b10 ih1 ih2=>
  have hz:∀x∈v.d,O7 [Df x.1,x.2.wr]≤100000000000:=by
   intro x hx
   have:=A63 _ _ (List.mem_map.2 ⟨x,hx,rfl⟩:Ch [Df x.1,x.2.wr]∈v.d.map fun p=>Ch [Df p.1,p.2.wr])
   rw [Amq]at this
   simp [O7];omega
  have i1:=Aji v.n b1.1 b1.2
  have i2:=Aji v.g b2.1 b2.2
  have cut:∀(xs:List (List UInt8)) (Q:AV→Heap→Prop),O7 xs≤100000000000→Q (.imm (.str (Pp v.k xs))) []→Jy (Z5 xs) v.k v.n v.g v.s (v.l.map V.row) (v.d.map C9) (Ec Q):=by
   intro xs Q hx hq
   exact Akr _ _ _ _ _ _ _ _ (Call.use (A4r v.k xs hx) ⟨⟨rfl,rfl⟩,Al1 _ _ hq⟩)
  rw [Afr,Ha]
  refine Apo _ _ _ _ _ _ _ (Cm (fun h=> ?_) fun h1=>Cm (fun h=> ?_) fun h2=>Cm (fun h=> ?_) fun h3=>Cm (fun h=> ?_) fun h4=> ?_)
  ·refine Call.use (A8f _) ⟨⟨rfl,rfl⟩, ?_⟩
   rw [Tf,mkW,if_pos h];exact⟨rfl,rfl⟩
  ·refine Call.use (Afn _ b1.1 b1.2) ⟨⟨rfl,rfl⟩, ?_⟩
   rw [Tf,mkW,if_neg h1,if_pos h];exact⟨rfl,rfl⟩
  ·refine Call.use (Al7 _ (by omega)) ⟨⟨rfl,rfl⟩, ?_⟩
   rw [Tf,mkW,if_neg h1,if_neg h2,if_pos h];exact⟨rfl,rfl⟩
  ·refine Call.use (Ava _ (by omega)) ⟨⟨rfl,rfl⟩, ?_⟩
   rw [Tf,mkW,if_neg h1,if_neg h2,if_neg h3,if_pos h];exact⟨rfl,rfl⟩
  ·rw [A4o v h1 h2 h3 h4]
   refine Cm (fun h=> ?_) fun h5=>Cm (fun h=> ?_) fun h6=>Cm (fun h=> ?_) fun h7=> ?_
   ·rw [if_pos h,List.length_map]
    exact Bah v b4 ih1 _ _ _ _ _ _ _ (Al2 _ _ _ _ _ _ _ _ (cut _ _ (by omega) ⟨rfl,rfl⟩)) v.l.length 0 rfl
   ·rw [if_neg h5,if_pos h,List.length_map]
    exact Bag v b5 b8 hz ih2 _ _ _ _ _ _ _ (Al3 _ _ _ _ _ _ _ _ (cut _ _ (by omega) ⟨rfl,rfl⟩)) v.d.length 0 rfl
   ·rw [if_neg h5,if_neg h6,if_pos h]
    refine Call.use (Afn _ b1.1 b1.2) ⟨⟨rfl,rfl⟩,Call.use (Afn _ b2.1 b2.2) ⟨⟨rfl,rfl⟩, ?_⟩⟩
    exact cut [Lib.itoa v.n,Lib.itoa v.g] _ (by simp [O7];omega) ⟨rfl,rfl⟩
   ·rw [if_neg h5,if_neg h6,if_neg h7]
    exact cut [] _ (by simp [O7]) ⟨rfl,rfl⟩
end Go.Proofs.Sim.Se
set_option maxRecDepth 100000
namespace Go.Proofs.Sim.Se
open Go Go.Proofs Go.Proofs.Sim Go.Proofs.Sim.Va Go.Proofs.Sim.St Go.RowKit
abbrev Tr:AV→Heap→Prop:=Is (.imm (.bool true)) []
def Bdc(t:List UInt8 × Int):AV:= .tup [.imm (.str t.1), .imm (.int .i64 t.2)]
theorem Awf(v:V)(hs:Scal v)(hc:D5 v≤1000):Call E0.P Acz [.imm (.agg v.row)] [] (Is (Bdc (Av3 v)) []):=by
 have hf:=Anm 1000 (by omega) _ v (Nat.le_refl _) hc
 obtain⟨p1,p2⟩:=Ar8 hs
 have h1:=Azk v hf false
 have h2:Jf v:=Asz v hf
 have h3:Afr v.plain:=A4x _ (A6x p1 (by omega))
 rw [Jf]at h2
 rw [Ha]at h1 h2 ⊢
 refine Aq3 _ _ _ _ _ _ _ (Call.use h1 ⟨⟨rfl,rfl⟩, ?_⟩)
 rw [G9,Av3]
 refine⟨fun h=> ?_,fun h=> ?_⟩
 ·rw [if_pos (ndT h)];exact⟨rfl,rfl⟩
 ·rw [if_neg (by simpa using ndF h)]
  refine Call.use h2 ?_
  rw [Ayv,Ow]
  exact⟨⟨rfl,rfl⟩,Call.use h3 ⟨⟨rfl,rfl⟩,⟨rfl,rfl⟩⟩⟩
end Go.Proofs.Sim.Se

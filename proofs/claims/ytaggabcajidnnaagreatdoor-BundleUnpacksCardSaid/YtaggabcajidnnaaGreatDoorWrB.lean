import Derived.Test.YtaggabcajidnnaaGreatDoorWrA
set_option maxRecDepth 100000
namespace Go.Proofs.Sim.Se
open Go Go.Proofs Go.Proofs.Sim Go.Proofs.Sim.Va Go.RowKit
end Go.Proofs.Sim.Se
namespace Go.Proofs.Sim.Se
open Go Go.Proofs Go.Proofs.Sim Go.Proofs.Sim.Va Go.Proofs.Sim.St Go.RowKit
def H6(l:List (List UInt8)):Nat:=(l.map fun t=>t.length+1).sum
theorem Als(x:List UInt8)(r:List (List UInt8)):Co (x::r)=x++(r.map fun t=>32::t).flatten:=by
 rw [Co,Lib.join_cons];rfl
theorem Ahd(l:List (List UInt8)):(Co l).length≤H6 l:=by
 cases l with
 |nil=>simp [Co,Lib.join_nil]
 |cons x r=>
  rw [Als,H6,List.length_append,List.map_cons,List.sum_cons]
  have:((r.map fun t=>(32:UInt8)::t).flatten).length=(r.map fun t=>t.length+1).sum:=by
   induction r with
   |nil=>rfl
   |cons y r ih=>rw [List.map_cons,List.flatten_cons,List.length_append,ih,List.map_cons,List.sum_cons];simp
  omega
theorem Bta(a b:List (List UInt8)):H6 (a++b)=H6 a+H6 b:=by simp [H6]
theorem Bqg(l:List (List UInt8))(i:Nat):H6 (l.take i)≤H6 l:=by
 have:H6 l=H6 (l.take i)+H6 (l.drop i):=by rw [←Bta,List.take_append_drop]
 omega
theorem Btc(l:List (List UInt8))(x:List UInt8)(h:x∈l):x.length+1≤H6 l:=Atw (fun t:List UInt8=>t.length+1) l x h
theorem Btb(l:List (List UInt8)):l.length≤H6 l:=Atv (fun t:List UInt8=>t.length+1) l fun _ _=>by omega
theorem Bpj(l:List (List UInt8))(i:Nat)(h:i<l.length):Co (l.take (i+1))=(if 0<i then Co (l.take i)++[32]else Co (l.take i))++l[i]:=by
 cases l with
 |nil=>simp at h
 |cons x r=>
  cases i with
  |zero=>
   rw [if_neg (by decide)]
   simp [Co,Lib.join_nil,Lib.join_one]
  |succ i=>
   have hi:i<r.length:=by simpa using h
   have:r[i]?.toList=[r[i]]:=by simp [hi]
   have e:r.take (i+1)=r.take i++[r[i]]:=by rw [List.take_add_one,this]
   rw [if_pos (by omega),List.take_succ_cons,List.take_succ_cons,Als,Als,e,List.map_append,List.flatten_append]
   simp
inductive SmW:V→Prop where
 |mk (v:V):Z8 v.n→Z8 v.g→v.s.length≤3000→v.l.length≤1000000→v.d.length≤1000000→H6 (v.l.map V.wr)≤10000000000→H6 (v.d.map fun p=>Co [Jb p.1,p.2.wr])≤10000000000→(∀p∈v.d,p.1.length≤3000)→
  (∀x∈v.l,SmW x)→(∀p∈v.d,SmW p.2)→SmW v
inductive Scal:V→Prop where
 |mk (v:V):Z8 v.n→Z8 v.g→v.s.length≤3000→(∀x∈v.l,Scal x)→(∀p∈v.d,p.1.length≤3000)→(∀p∈v.d,Scal p.2)→Scal v
theorem Bhy(s:List UInt8):(Jb s).length≤3*s.length+1:=by
 have:=A8v Afn 3 Azx s
 rw [Jb,List.length_cons];omega
theorem Bqj(s:List UInt8):(Avp s).length≤2*s.length+2:=by
 have h1:=A8v Aj9 2 A5a s
 have h2:=Ble s
 unfold Avp
 split
 ·rw [List.cons_append,List.length_cons,List.length_append];simp only [List.length_cons,List.length_nil];omega
 ·rw [List.length_cons];omega
theorem A9l {α:Type} (f g:α→Nat)(l:List α)(h:∀x∈l,f x≤g x):(l.map f).sum≤(l.map g).sum:=by
 induction l with
 |nil=>simp
 |cons x l ih=>
  have:=ih fun y hy=>h y (by simp [hy])
  have:=h x (by simp)
  simp;omega
theorem Blo {α:Type} (c:Nat)(f:α→Nat)(l:List α):(l.map fun x=>c*f x).sum=c*(l.map f).sum:=by
 induction l with
 |nil=>simp
 |cons x l ih=>simp only [List.map_cons,List.sum_cons,ih,Nat.mul_add]
theorem Azp(a b:List UInt8):(Co [a,b]).length=a.length+b.length+1:=by rw [Als];simp;omega
theorem Bzf {v:V} (h:Scal v):v.wr.length+9100≤20000*Ck v∧H6 (v.l.map V.wr)≤20000*Ck v∧H6 (v.d.map fun p=>Co [Jb p.1,p.2.wr])≤20000*Ck v:=by
 induction h with
 |mk v a2 a3 a4 a7 a8 a9 ih1 ih2=>
  have hl:H6 (v.l.map V.wr)≤20000*(v.l.map Ck).sum:=by
   rw [H6,List.map_map, ←Blo]
   exact A9l _ _ _ fun x hx=>by have:=(ih1 x hx).1;simp only [Function.comp_apply];omega
  have hd:H6 (v.d.map fun p=>Co [Jb p.1,p.2.wr])≤20000*(v.d.map fun p=>Ck p.2).sum:=by
   rw [H6,List.map_map, ←Blo]
   exact A9l _ _ _ fun p hp=>by
    have:=(ih2 p hp).1
    have h1:=Bhy p.1
    have h2:=a8 p hp
    simp only [Function.comp_apply,Azp]
    omega
  have hc:=Rb v
  refine⟨?_,by omega,by omega⟩
  rw [A0v]
  have j1:=Ahd (v.l.map V.wr)
  have j2:=Ahd (v.d.map fun p=>Co [Jb p.1,p.2.wr])
  have n1:=Bhy v.s
  have n2:=Bqj v.s
  have i1:=Ahc v.n a2.1 a2.2
  have i2:=Ahc v.g a3.1 a3.2
  have e:(v.d.map fun p=>(p.1,p.2.wr)).map (fun p=>Co [Jb p.1,p.2])=v.d.map fun p=>Co [Jb p.1,p.2.wr]:=by rw [List.map_map];rfl
  unfold mkW
  split
  ·split<;>simp [Bnw,Bi7]<;>omega
  split
  ·omega
  split
  ·omega
  split
  ·omega
  split
  ·simp only [List.length_append,List.length_cons,List.length_nil];omega
  split
  ·rw [e];simp only [List.length_append,List.length_cons,List.length_nil];omega
  split
  ·simp only [List.length_append,List.length_cons,List.length_nil,Azp];omega
  ·simp [Bfo];omega
theorem Bs5 {v:V} (h:Scal v):Ck v≤100000→SmW v:=by
 induction h with
 |mk v a2 a3 a4 a7 a8 a9 ih1 ih2=>
  intro hc
  have h0:=Bzf (Scal.mk v a2 a3 a4 a7 a8 a9)
  have he:=Rb v
  have l1:=Atv Ck v.l fun x _=>As2 x
  have l2:=Atv (fun p:Pr=>Ck p.2) v.d fun p _=>As2 p.2
  refine .mk v a2 a3 a4 (by omega) (by omega) (by omega) (by omega) a8 (fun x hx=>ih1 x hx ?_) fun p hp=>ih2 p hp ?_
  ·have:=Atw Ck v.l x hx;omega
  ·have:=Atw (fun p:Pr=>Ck p.2) v.d p hp;omega
theorem Bwo(f:Pr→Nat)(x:Pr)(l:List Pr):((ins bl pk x l).map f).sum=f x+(l.map f).sum:=by
 induction l with
 |nil=>simp [ins]
 |cons y r ih=>
  rw [ins]
  split
  ·rw [List.map_cons,List.sum_cons,ih,List.map_cons,List.sum_cons];omega
  ·simp
theorem Bwq(f:Pr→Nat)(l:List Pr):((Ce l).map f).sum=(l.map f).sum:=by
 induction l with
 |nil=>simp [Ce,srt]
 |cons x l ih=>rw [show Ce (x::l)=ins bl pk x (Ce l) from rfl,Bwo,ih];simp
theorem Bwr(f:Pr→Nat) {a b:List Pr} (h:a.Sublist b):(a.map f).sum≤(b.map f).sum:=by
 induction h with
 |slnil=>simp
 |cons x h ih=>simp;omega
 |cons_cons x h ih=>simp;omega
theorem Bwp(f:Pr→Nat)(d:List Pr):(((uniq d).filter Qc).map f).sum≤(d.map f).sum:=by
 rw [←Bwq f d]
 exact Bwr f ((List.filter_sublist).trans (Abc _))
theorem Bnj {v:V} (h:Scal v):Scal v.plain∧Ck v.plain≤Ck v:=by
 have z:Z8 0:=⟨by decide,by decide⟩
 have n0:∀(P:V→Prop),∀x∈([]:List V),P x:=fun P x hx=>by cases hx
 have n1:∀(P:Pr→Prop),∀x∈([]:List Pr),P x:=fun P x hx=>by cases hx
 have leaf:∀(k n g:Int) (s:List UInt8),Z8 n→Z8 g→s.length≤3000→Scal (.mk k n g s [] [])∧Ck (.mk k n g s [] [])=1:=by
  intro k n g s h1 h2 h3
  refine⟨.mk _ h1 h2 h3 (n0 _) (n1 _) (n1 _), ?_⟩
  rw [Rb];simp [V.l,V.d]
 induction h with
 |mk v a2 a3 a4 a7 a8 a9 ih1 ih2=>
  have hp:=As2 v
  have he:=Rb v
  rw [Ao2]
  have hdm:∀p∈(uniq (K3 v.d)).filter Qc,∃q∈v.d,p=(q.1,q.2.plain):=by
   intro p hp
   have:=A6c (List.mem_filter.1 hp).1
   rw [K3,List.mem_map]at this
   obtain⟨q,h1,h2⟩:=this
   exact⟨q,h1,h2.symm⟩
  have hsd:(((uniq (K3 v.d)).filter Qc).map fun p:Pr=>Ck p.2).sum≤(v.d.map fun p:Pr=>Ck p.2).sum:=by
   refine Nat.le_trans (Bwp _ _) ?_
   rw [K3,List.map_map]
   exact A9l _ _ _ fun p hp=>(ih2 p hp).2
  have dd:∀(k:Int) (s:List UInt8),s.length≤3000→Scal (.mk k 0 0 s [] ((uniq (K3 v.d)).filter Qc))∧Ck (.mk k 0 0 s [] ((uniq (K3 v.d)).filter Qc))≤Ck v:=by
   intro k s hs
   refine⟨.mk _ z z hs (n0 _) (fun p hp=> ?_) (fun p hp=> ?_), ?_⟩
   ·obtain⟨q,h1,rfl⟩:=hdm p hp
    exact a8 q h1
   ·obtain⟨q,h1,rfl⟩:=hdm p hp
    exact(ih2 q h1).1
   ·rw [Rb]
    show 1+(([]:List V).map Ck).sum+_≤_
    simp only [List.map_nil,List.sum_nil]
    show 1+0+(((uniq (K3 v.d)).filter Qc).map fun p:Pr=>Ck p.2).sum≤_
    omega
  unfold mkP
  split
  ·have:=leaf v.k v.n 0 [] a2 z (by simp);exact⟨this.1,by omega⟩
  split
  ·have:=leaf v.k 0 0 v.s z z a4;exact⟨this.1,by omega⟩
  split
  ·refine⟨.mk _ z z (by simp [V.s]) (fun x hx=> ?_) (n1 _) (n1 _), ?_⟩
   ·obtain⟨y,h1,rfl⟩:=List.mem_map.1 hx
    exact(ih1 y h1).1
   ·rw [Rb]
    show 1+((v.l.map V.plain).map Ck).sum+0≤_
    have:((v.l.map V.plain).map Ck).sum≤(v.l.map Ck).sum:=by
     rw [List.map_map];exact A9l _ _ _ fun x hx=>(ih1 x hx).2
    omega
  split
  ·exact dd _ _ (by simp)
  split
  ·have:=leaf v.k v.n v.g [] a2 a3 (by simp);exact⟨this.1,by omega⟩
  split
  ·exact dd _ _ a4
  ·have:=leaf 0 0 0 [] z z (by simp);exact⟨this.1,by show Ck zero≤_;rw [show Ck zero=1 from this.2];exact hp⟩
end Go.Proofs.Sim.Se
set_option maxRecDepth 100000
namespace Go.Proofs.Sim.Se
open Go Go.Proofs Go.Proofs.Sim Go.Proofs.Sim.Va Go.RowKit
abbrev txs(l:List (List UInt8)):List (List IV):=l.map fun s=>[.str s]
theorem Amd(l:List (List UInt8)):(txs l).length=l.length:=List.length_map ..
theorem Bxt(xs:List (List UInt8))(hN:H6 xs≤100000000000):Call E0.P Aqc [.imm (.sl .any 1 (txs xs)), .imm (.str [32])] [] (Is (.imm (.str (Co xs))) []):=by
 have h1:=Ahd xs
 have h2:=Btb xs
 refine Uz Tryz.func117 (by kernel_rfl) (by kernel_rfl) [.sl .any 1 (txs xs), .str [32]] _ fun g w vs hv hs=> ?_
 obtain⟨v,u,rfl,hr,hu⟩:=Bnk hv
 obtain rfl:=Avj hu
 cases hr with |sl a cap _ _ _ b o ws q1 q2 q3 q4 q5 q6 q7 q8 q9=>
 by_cases hx:xs=[]
 ·subst hx
  refine(Tryz.strings_Join_none a cap ⟨([32]:List UInt8).toArray⟩ w).mono ?_
  rintro e w' ⟨rfl,rfl⟩
  exact⟨_, .imm (.str []),rfl,Below.refl _ _, .imm _ _ (.str _ _ rfl),rfl,rfl⟩
 ·have hne:txs xs≠[]:=by
   intro h;apply hx
   have:=congrArg List.length h
   rw [Amd]at this
   exact List.eq_nil_of_length_eq_zero (by simpa using this)
  have ha:=q5 hne
  subst ha
  rw [Amd]at q1 ⊢
  have cell:∀j,(hj:j<xs.length)→w.cell? ⟨b,o+j,none⟩=some (.string ⟨(xs[j]).toArray⟩):=by
   intro j hj
   have c1:=q7 j 0 (by rw [Amd];exact hj) (by omega)
   have c2:=q8 j 0 (by rw [Amd];exact hj) (by omega)
   have c3:=hs.imm _ _ _ c1
   have e:((txs xs).getD j []).getD 0 default= .str xs[j]:=by simp [List.getD_eq_getElem?_getD,hj]
   rw [e]at c2
   have e2:ws j 0= .string ⟨(xs[j]).toArray⟩:=by
    generalize ws j 0=z at c2
    cases c2 with |str s _ h=>
    have:s=⟨(xs[j]).toArray⟩:=by cases s;simp at h;simp [←h]
    rw [this]
   rw [show o+j=o+j*1+0 by omega,c3,e2]
  have hlt:b<w.heap.size:=by
   obtain⟨n,hn⟩:=List.exists_mem_of_ne_nil xs hx
   have h0:0<xs.length:=List.length_pos_of_mem hn
   have:=cell 0 h0
   rcases Nat.lt_or_ge b w.heap.size with h |h
   ·exact h
   ·simp [World.cell?,Array.getElem?_eq_none h]at this
  have em:(xs.map fun s=>(⟨s.toArray⟩:ByteArray)).map (fun x:ByteArray=>x.data.toList)=xs:=by
   rw [List.map_map,show((fun x:ByteArray=>x.data.toList) ∘ fun s:List UInt8=>(⟨s.toArray⟩:ByteArray))=id from by funext s;simp,List.map_id]
  have hj:=Tryz.strings_Join b o cap (xs.map fun s=>(⟨s.toArray⟩:ByteArray)) ⟨([32]:List UInt8).toArray⟩ w (fun j x hx=>by
   rw [List.getElem?_map]at hx
   by_cases hj:j<xs.length
   ·rw [List.getElem?_eq_getElem hj]at hx
    injection hx with hx
    rw [cell j hj, ←hx]
   ·rw [List.getElem?_eq_none (by omega)]at hx;cases hx) hlt (by rw [List.length_map];omega) (by rw [List.length_map];exact q1) (by
   rw [em]
   show(Co xs).length≤_
   omega)
  rw [List.length_map,em]at hj
  refine hj.mono ?_
  rintro e w' ⟨rfl,hb⟩
  exact⟨_, .imm (.str (Co xs)),rfl,hb, .imm _ _ (.str _ _ (by simp [Co])),rfl,rfl⟩
theorem Auf(xs:List (List UInt8))(hN:H6 xs≤100000000000):Call E0.P Xk [.imm (.sl .any 1 (txs xs))] [] (Is (.imm (.str (Co xs))) []):=
 A1m _ _ (Call.use (Bxt xs hN) ⟨⟨rfl,rfl⟩,⟨rfl,rfl⟩⟩)
def Te(k:Int)(xs:List (List UInt8)):List UInt8:=if k=5 then [91]++Co xs++[93]else if k=6 then [60,60]++Co xs++[62,62]else if k=7 then Co xs++[32,82]else Bfo
theorem Bqy(k:Int)(xs:List (List UInt8))(hN:H6 xs≤100000000000):Call E0.P Afi [.imm (.int .i64 k), .imm (.sl .any 1 (txs xs))] [] (Is (.imm (.str (Te k xs))) []):=by
 have hl:=Ahd xs
 have w1:IntKind.i64.wrap ((0:Int)+1)=1:=by decide
 have w2:IntKind.i64.wrap ((1:Int)+1)=2:=by decide
 have w3:IntKind.i64.wrap ((2:Int)+1)=3:=by decide
 have last:Uu k (txs xs) 5 [91] [93] 6 [60,60] [62,62] 7 [] [32,82] 3 (Uo (Is (.imm (.str Bfo)) [])):=by
  refine Pp _ _ _ _ _ _ _ _ _ _ _ _ _ ⟨fun h=>absurd h (by decide),fun _=> ?_⟩
  exact Axb _ (At5 _ (Axa _ _ ⟨rfl,rfl⟩))
 refine A1l _ _ _ (Pp _ _ _ _ _ _ _ _ _ _ _ _ _ ⟨fun _=>⟨⟨by decide,rfl⟩, ?_⟩,fun h=>absurd h (by decide)⟩)
 show Br (decide ((5:Int)=k)) _ _
 refine Bh (fun e=> ?_) fun n5=> ?_
 ·subst e
  refine Call.use (Auf xs hN) ⟨⟨rfl,rfl⟩,⟨?_,⟨?_,Wi _ _ ⟨rfl,rfl⟩⟩⟩⟩
  ·show(((1+(Co xs).length:Nat)):Int)≤_
   omega
  ·show(((([91]++Co xs:List UInt8).length+1:Nat)):Int)≤_
   rw [List.length_append];simp only [List.length_cons,List.length_nil];omega
 rw [w1]
 refine Pp _ _ _ _ _ _ _ _ _ _ _ _ _ ⟨fun _=>⟨⟨by decide,rfl⟩, ?_⟩,fun h=>absurd h (by decide)⟩
 show Br (decide ((6:Int)=k)) _ _
 refine Bh (fun e=> ?_) fun n6=> ?_
 ·subst e
  refine Call.use (Auf xs hN) ⟨⟨rfl,rfl⟩,⟨?_,⟨?_,Wi _ _ ⟨rfl,rfl⟩⟩⟩⟩
  ·show(((2+(Co xs).length:Nat)):Int)≤_
   omega
  ·show(((([60,60]++Co xs:List UInt8).length+2:Nat)):Int)≤_
   rw [List.length_append];simp only [List.length_cons,List.length_nil];omega
 rw [w2]
 refine Pp _ _ _ _ _ _ _ _ _ _ _ _ _ ⟨fun _=>⟨⟨by decide,rfl⟩, ?_⟩,fun h=>absurd h (by decide)⟩
 show Br (decide ((7:Int)=k)) _ _
 refine Bh (fun e=> ?_) fun n7=> ?_
 ·subst e
  refine Call.use (Auf xs hN) ⟨⟨rfl,rfl⟩,⟨?_,⟨?_,Wi _ _ ⟨rfl,rfl⟩⟩⟩⟩
  ·show(((0+(Co xs).length:Nat)):Int)≤_
   omega
  ·show(((([]++Co xs:List UInt8).length+2:Nat)):Int)≤_
   rw [List.nil_append];omega
 rw [w3,Te,if_neg (Ne.symm n5),if_neg (Ne.symm n6),if_neg (Ne.symm n7)]
 exact last
abbrev An8(v:V):Prop:=Call E0.P Tv [.imm (.agg v.row)] [] (Is (.imm (.str v.wr)) [])
theorem Bx9 {l:List V} {i:Nat} (h:i<l.length):Nf l i=l[i]:=by simp [Nf,List.getD_eq_getElem?_getD,h]
theorem Bwf {l:List Pr} {i:Nat} (h:i<l.length):Bo l i=l[i]:=by simp [Bo,List.getD_eq_getElem?_getD,h]
theorem Bdl {α β:Type} (f:α→β)(l:List α)(i:Nat)(h:i<l.length):(l.take (i+1)).map f=(l.take i).map f++[f l[i]]:=by
 have:l[i]?.toList=[l[i]]:=by simp [h]
 rw [List.take_add_one,this,List.map_append];rfl
abbrev Boo(a b c:Int)(s:List UInt8)(p q:List (List IV)):Heap:=[(Nm.loc 1, .blk Aa [.imm (.int .i64 a), .imm (.int .i64 b), .imm (.int .i64 c), .imm (.str s), .imm (.sl .any 6 p), .imm (.sl .any 7 q)])]
theorem Bxl(v:V)(hl:v.l.length≤1000000)(ih:∀x∈v.l,An8 x)(a b c:Int)(s:List UInt8)(p q:List (List IV))(K:Ex→St→Prop)
 (hE:K (.exit 1) ⟨[(1, .ptr (Nm.loc 1) 0),(3, .own (Nm.loc 3))],Boo a b c s p q++[(Nm.loc 3, .arr (Rn+2) true 1 (txs (v.l.map V.wr)))]⟩):
 ∀(m i:Nat),m+i=v.l.length→Uv (Il v.l) v.l.length i a b c s p q (txs ((v.l.take i).map V.wr)) K:=by
 intro m
 induction m with
 |zero=>
  intro i hi
  refine Agc _ _ _ _ _ _ _ _ _ _ _ (Bh (fun h=>by omega) fun _=> ?_)
  rw [List.take_of_length_le (by omega)]
  exact hE
 |succ m ihm=>
  intro i hi
  have hlt:i<v.l.length:=by omega
  refine Agc _ _ _ _ _ _ _ _ _ _ _ (Bh (fun _=> ?_) fun h=>by omega)
  rw [show(Il v.l).getD (Int.toNat (i:Int)) []=(Nf v.l i).row from Z4 _ _ hlt,Et,Fy,Gj i (by omega),Bx9 hlt]
  refine⟨⟨⟨by omega,by omega⟩,Z5 _ _ _⟩,Call.use (ih _ (List.getElem_mem hlt)) ⟨⟨rfl,rfl⟩,⟨?_, ?_⟩⟩⟩
  ·rw [Amd,List.length_map,List.length_take];constructor<;>omega
  ·have:=ihm (i+1) (by omega)
   rw [Bdl V.wr _ _ hlt,show txs ((v.l.take i).map V.wr++[v.l[i].wr])=txs ((v.l.take i).map V.wr)++[[.str v.l[i].wr]]by simp [txs]]at this
   exact this
theorem Bxk(v:V)(hl:v.d.length≤1000000)(hk:∀x∈v.d,x.1.length≤3000)(hz:∀x∈v.d,H6 [Jb x.1,x.2.wr]≤100000000000)(ih:∀x∈v.d,An8 x.2)(a b c:Int)(s:List UInt8)(p q:List (List IV))(K:Ex→St→Prop)
 (hE:K (.exit 3) ⟨[(1, .ptr (Nm.loc 1) 0),(3, .own (Nm.loc 3))],Boo a b c s p q++[(Nm.loc 3, .arr (Rn+2) true 1 (txs (v.d.map fun x=>Co [Jb x.1,x.2.wr])))]⟩):
 ∀(m i:Nat),m+i=v.d.length→Uw (Bf v.d) v.d.length i a b c s p q (txs ((v.d.take i).map fun x=>Co [Jb x.1,x.2.wr])) K:=by
 intro m
 induction m with
 |zero=>
  intro i hi
  refine Agd _ _ _ _ _ _ _ _ _ _ _ (Bh (fun h=>by omega) fun _=> ?_)
  rw [List.take_of_length_le (by omega)]
  exact hE
 |succ m ihm=>
  intro i hi
  have hlt:i<v.d.length:=by omega
  have hm:=List.getElem_mem hlt
  have hk:=hk _ hm
  refine Agd _ _ _ _ _ _ _ _ _ _ _ (Bh (fun _=> ?_) fun h=>by omega)
  rw [show(Bf v.d).getD (Int.toNat (i:Int)) []=Bc (Bo v.d i) from Tz _ _ hlt,Mm,By1,Ay,Gj i (by omega),Bwf hlt]
  refine⟨⟨⟨by omega,by omega⟩,C9 _ _ _⟩,Call.use (Ay6 _ (by omega)) ⟨⟨rfl,rfl⟩,Call.use (ih _ hm) ⟨⟨rfl,rfl⟩,Call.use (Auf [Jb v.d[i].1,v.d[i].2.wr] (hz _ hm)) ⟨⟨rfl,rfl⟩,⟨?_, ?_⟩⟩⟩⟩⟩
  ·rw [Amd,List.length_map,List.length_take];constructor<;>omega
  ·have:=ihm (i+1) (by omega)
   rw [Bdl (fun x:Pr=>Co [Jb x.1,x.2.wr]) _ _ hlt,show txs ((v.d.take i).map (fun x:Pr=>Co [Jb x.1,x.2.wr])++[Co [Jb v.d[i].1,v.d[i].2.wr]])=txs ((v.d.take i).map fun x:Pr=>Co [Jb x.1,x.2.wr])++[[.str (Co [Jb v.d[i].1,v.d[i].2.wr])]]by simp [txs]]at this
   exact this
theorem Bqr(v:V)(h1:v.k≠1)(h2:v.k≠2)(h3:v.k≠3)(h4:v.k≠4):v.wr=if v.k=5 then Te v.k (v.l.map V.wr)else if v.k=6 then Te v.k (v.d.map fun x=>Co [Jb x.1,x.2.wr])else if v.k=7 then Te v.k [Lib.itoa v.n,Lib.itoa v.g]else Te v.k []:=by
 rw [A0v,mkW,if_neg h1,if_neg h2,if_neg h3,if_neg h4]
 by_cases h5:v.k=5
 ·rw [if_pos h5,if_pos h5,Te,if_pos h5]
 rw [if_neg h5,if_neg h5]
 by_cases h6:v.k=6
 ·rw [if_pos h6,if_pos h6,Te,if_neg h5,if_pos h6,List.map_map];rfl
 rw [if_neg h6,if_neg h6]
 by_cases h7:v.k=7
 ·rw [if_pos h7,if_pos h7,Te,if_neg h5,if_neg h6,if_pos h7]
 rw [if_neg h7,if_neg h7,Te,if_neg h5,if_neg h6,if_neg h7]
theorem Bvd(n:Int):Call E0.P Akf [.imm (.int .i64 n)] [] (Is (.imm (.str (if n=1 then Bnw else Bi7))) []):=
 A61 _ _ (Bh (fun h=>by rw [if_pos h];exact⟨rfl,rfl⟩) fun h=>by rw [if_neg h];exact⟨rfl,rfl⟩)
theorem Bq9(v:V)(h:SmW v):An8 v:=by
 induction h with
 |mk v b1 b2 b3 b4 b5 b6 b7 b8 b9 b10 ih1 ih2=>
  have hz:∀x∈v.d,H6 [Jb x.1,x.2.wr]≤100000000000:=by
   intro x hx
   have:=Btc _ _ (List.mem_map.2 ⟨x,hx,rfl⟩:Co [Jb x.1,x.2.wr]∈v.d.map fun p=>Co [Jb p.1,p.2.wr])
   rw [Azp]at this
   simp [H6];omega
  have i1:=Ahc v.n b1.1 b1.2
  have i2:=Ahc v.g b2.1 b2.2
  have cut:∀(xs:List (List UInt8)) (Q:AV→Heap→Prop),H6 xs≤100000000000→Q (.imm (.str (Te v.k xs))) []→K5 (txs xs) v.k v.n v.g v.s (v.l.map V.row) (v.d.map Bc) (D8 Q):=by
   intro xs Q hx hq
   exact Awv _ _ _ _ _ _ _ _ (Call.use (Bqy v.k xs hx) ⟨⟨rfl,rfl⟩,Ayz _ _ hq⟩)
  rw [An8,Cn]
  refine A3q _ _ _ _ _ _ _ (Bh (fun h=> ?_) fun h1=>Bh (fun h=> ?_) fun h2=>Bh (fun h=> ?_) fun h3=>Bh (fun h=> ?_) fun h4=> ?_)
  ·refine Call.use (Bvd _) ⟨⟨rfl,rfl⟩, ?_⟩
   rw [A0v,mkW,if_pos h];exact⟨rfl,rfl⟩
  ·refine Call.use (Aep _ b1.1 b1.2) ⟨⟨rfl,rfl⟩, ?_⟩
   rw [A0v,mkW,if_neg h1,if_pos h];exact⟨rfl,rfl⟩
  ·refine Call.use (Ay6 _ (by omega)) ⟨⟨rfl,rfl⟩, ?_⟩
   rw [A0v,mkW,if_neg h1,if_neg h2,if_pos h];exact⟨rfl,rfl⟩
  ·refine Call.use (Bea _ (by omega)) ⟨⟨rfl,rfl⟩, ?_⟩
   rw [A0v,mkW,if_neg h1,if_neg h2,if_neg h3,if_pos h];exact⟨rfl,rfl⟩
  ·rw [Bqr v h1 h2 h3 h4]
   refine Bh (fun h=> ?_) fun h5=>Bh (fun h=> ?_) fun h6=>Bh (fun h=> ?_) fun h7=> ?_
   ·rw [if_pos h,List.length_map]
    exact Bxl v b4 ih1 _ _ _ _ _ _ _ (Ay0 _ _ _ _ _ _ _ _ (cut _ _ (by omega) ⟨rfl,rfl⟩)) v.l.length 0 rfl
   ·rw [if_neg h5,if_pos h,List.length_map]
    exact Bxk v b5 b8 hz ih2 _ _ _ _ _ _ _ (Ay1 _ _ _ _ _ _ _ _ (cut _ _ (by omega) ⟨rfl,rfl⟩)) v.d.length 0 rfl
   ·rw [if_neg h5,if_neg h6,if_pos h]
    refine Call.use (Aep _ b1.1 b1.2) ⟨⟨rfl,rfl⟩,Call.use (Aep _ b2.1 b2.2) ⟨⟨rfl,rfl⟩, ?_⟩⟩
    exact cut [Lib.itoa v.n,Lib.itoa v.g] _ (by simp [H6];omega) ⟨rfl,rfl⟩
   ·rw [if_neg h5,if_neg h6,if_neg h7]
    exact cut [] _ (by simp [H6]) ⟨rfl,rfl⟩
end Go.Proofs.Sim.Se
set_option maxRecDepth 100000
namespace Go.Proofs.Sim.Se
open Go Go.Proofs Go.Proofs.Sim Go.Proofs.Sim.Va Go.Proofs.Sim.St Go.RowKit
def Bmx(t:List UInt8 × Int):AV:= .tup [.imm (.str t.1), .imm (.int .i64 t.2)]
theorem tx0(t:List UInt8 × Int):rS (rT (Bmx t) 0)=t.1:=rfl
theorem tx1(t:List UInt8 × Int):rI (rT (Bmx t) 1)=t.2:=rfl
theorem Bga(v:V)(hs:Scal v)(hc:Ck v≤1000):Call E0.P Ake [.imm (.agg v.row)] [] (Is (Bmx (Avo v)) []):=by
 have hf:=Ag0 1000 (by omega) _ v (Nat.le_refl _) hc
 obtain⟨p1,p2⟩:=Bnj hs
 have h1:=Buu v hf false
 have h2:M8 v:=Bav v hf
 have h3:An8 v.plain:=Bq9 _ (Bs5 p1 (by omega))
 rw [M8]at h2
 rw [Cn]at h1 h2 ⊢
 refine A6z _ _ _ _ _ _ _ (Call.use h1 ⟨⟨rfl,rfl⟩, ?_⟩)
 rw [Cx,Avo]
 refine⟨fun h=> ?_,fun h=> ?_⟩
 ·rw [if_pos (ndT h)];exact⟨rfl,rfl⟩
 ·rw [if_neg (by simpa using ndF h)]
  refine Call.use h2 ⟨⟨rfl, ?_⟩, ?_⟩
  ·rw [Afz,Et]
  rw [Afz,Et]
  exact Call.use h3 ⟨⟨rfl,rfl⟩,⟨rfl,rfl⟩⟩
end Go.Proofs.Sim.Se

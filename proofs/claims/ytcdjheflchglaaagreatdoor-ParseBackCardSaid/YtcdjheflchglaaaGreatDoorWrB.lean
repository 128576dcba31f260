import Derived.Test.YtcdjheflchglaaaGreatDoorWrA
namespace Go.Proofs.Sim.Se
open Go Go.Proofs Go.Proofs.Sim Go.Proofs.Sim.Va Go.Proofs.Sim.St Go.RowKit
def O9(l:List (List UInt8)):Nat:=(l.map fun t=>t.length+1).sum
theorem At2(x:List UInt8)(r:List (List UInt8)):Ci (x::r)=x++(r.map fun t=>32::t).flatten:=by
 rw [Ci,Lib.join_cons];rfl
theorem Akg(l:List (List UInt8)):(Ci l).length≤O9 l:=by
 cases l with
 |nil=>simp [Ci,Lib.join_nil]
 |cons x r=>
  rw [At2,O9,List.length_append,List.map_cons,List.sum_cons]
  have:((r.map fun t=>(32:UInt8)::t).flatten).length=(r.map fun t=>t.length+1).sum:=by
   induction r with
   |nil=>rfl
   |cons y r ih=>rw [List.map_cons,List.flatten_cons,List.length_append,ih,List.map_cons,List.sum_cons];simp
  omega
theorem A9d(l:List (List UInt8))(x:List UInt8)(h:x∈l):x.length+1≤O9 l:=Ait (fun t:List UInt8=>t.length+1) l x h
theorem A7n(l:List (List UInt8)):l.length≤O9 l:=Ai4 (fun t:List UInt8=>t.length+1) l fun _ _=>by omega
inductive SmW:V→Prop where
 |mk (v:V):I64 v.n→I64 v.g→v.s.length≤3000→v.l.length≤1000000→v.d.length≤1000000→O9 (v.l.map V.wr)≤10000000000→O9 (v.d.map fun p=>Ci [Df p.1,p.2.wr])≤10000000000→(∀p∈v.d,p.1.length≤3000)→
  (∀x∈v.l,SmW x)→(∀p∈v.d,SmW p.2)→SmW v
inductive Scal:V→Prop where
 |mk (v:V):I64 v.n→I64 v.g→v.s.length≤3000→(∀x∈v.l,Scal x)→(∀p∈v.d,p.1.length≤3000)→(∀p∈v.d,Scal p.2)→Scal v
theorem Bb4 {v:V} (hw:Wf v):Qd 3000 v→Scal v:=by
 induction hw with
 |mk v a1 a2 a3 a4 a5 a6 a7 a8 a9 ih1 ih2=>
  intro hs
  cases hs with
  |mk _ b1 b2 b3 b4=>exact .mk v a2 a3 (by omega) (fun x hx=>ih1 x hx (b2 x hx)) (fun p hp=>by have:=b3 p hp;omega) (fun p hp=>ih2 p hp (b4 p hp))
theorem Ayw(s:List UInt8):(Df s).length≤3*s.length+1:=by
 have:=Atn Ls 3 Am3 s
 rw [Df,List.length_cons];omega
theorem A6u(s:List UInt8):(Wx s).length≤2*s.length+2:=by
 have h1:=Atn M5 2 Asf s
 have h2:=A1v s
 unfold Wx
 split
 ·rw [List.cons_append,List.length_cons,List.length_append];simp only [List.length_cons,List.length_nil];omega
 ·rw [List.length_cons];omega
theorem Atq {α:Type} (f g:α→Nat)(l:List α)(h:∀x∈l,f x≤g x):(l.map f).sum≤(l.map g).sum:=by
 induction l with
 |nil=>simp
 |cons x l ih=>
  have:=ih fun y hy=>h y (by simp [hy])
  have:=h x (by simp)
  simp;omega
theorem A11 {α:Type} (c:Nat)(f:α→Nat)(l:List α):(l.map fun x=>c*f x).sum=c*(l.map f).sum:=by
 induction l with
 |nil=>simp
 |cons x l ih=>simp only [List.map_cons,List.sum_cons,ih,Nat.mul_add]
theorem Ana(a b:List UInt8):(Ci [a,b]).length=a.length+b.length+1:=by rw [At2];simp;omega
theorem A43 {v:V} (h:Scal v):v.wr.length+9100≤20000*C9 v∧O9 (v.l.map V.wr)≤20000*C9 v∧O9 (v.d.map fun p=>Ci [Df p.1,p.2.wr])≤20000*C9 v:=by
 induction h with
 |mk v a2 a3 a4 a7 a8 a9 ih1 ih2=>
  have hl:O9 (v.l.map V.wr)≤20000*(v.l.map C9).sum:=by
   rw [O9,List.map_map, ←A11]
   exact Atq _ _ _ fun x hx=>by have:=(ih1 x hx).1;simp only [Function.comp_apply];omega
  have hd:O9 (v.d.map fun p=>Ci [Df p.1,p.2.wr])≤20000*(v.d.map fun p=>C9 p.2).sum:=by
   rw [O9,List.map_map, ←A11]
   exact Atq _ _ _ fun p hp=>by
    have:=(ih2 p hp).1
    have h1:=Ayw p.1
    have h2:=a8 p hp
    simp only [Function.comp_apply,Ana]
    omega
  have hc:=R3 v
  refine⟨?_,by omega,by omega⟩
  rw [Ti]
  have j1:=Akg (v.l.map V.wr)
  have j2:=Akg (v.d.map fun p=>Ci [Df p.1,p.2.wr])
  have n1:=Ayw v.s
  have n2:=A6u v.s
  have i1:=Aky v.n a2.1 a2.2
  have i2:=Aky v.g a3.1 a3.2
  have e:(v.d.map fun p=>(p.1,p.2.wr)).map (fun p=>Ci [Df p.1,p.2])=v.d.map fun p=>Ci [Df p.1,p.2.wr]:=by rw [List.map_map];rfl
  unfold mkW
  split
  ·split<;>simp [As6,Amz]<;>omega
  split
  ·omega
  split
  ·omega
  split
  ·omega
  split
  ·simp only [List.length_append,List.length_cons,List.length_nil];omega
  split
  ·rw [e];simp only [List.length_append,List.length_cons,List.length_nil];omega
  split
  ·simp only [List.length_append,List.length_cons,List.length_nil,Ana];omega
  ·simp [Ao6];omega
theorem A8t {v:V} (h:Scal v):C9 v≤100000→SmW v:=by
 induction h with
 |mk v a2 a3 a4 a7 a8 a9 ih1 ih2=>
  intro hc
  have h0:=A43 (Scal.mk v a2 a3 a4 a7 a8 a9)
  have he:=R3 v
  have l1:=Ai4 C9 v.l fun x _=>Ajt x
  have l2:=Ai4 (fun p:Pr=>C9 p.2) v.d fun p _=>Ajt p.2
  refine .mk v a2 a3 a4 (by omega) (by omega) (by omega) (by omega) a8 (fun x hx=>ih1 x hx ?_) fun p hp=>ih2 p hp ?_
  ·have:=Ait C9 v.l x hx;omega
  ·have:=Ait (fun p:Pr=>C9 p.2) v.d p hp;omega
theorem Bbg(f:Pr→Nat)(x:Pr)(l:List Pr):((ins bl pk x l).map f).sum=f x+(l.map f).sum:=by
 induction l with
 |nil=>simp [ins]
 |cons y r ih=>
  rw [ins]
  split
  ·rw [List.map_cons,List.sum_cons,ih,List.map_cons,List.sum_cons];omega
  ·simp
theorem Bar(f:Pr→Nat)(l:List Pr):((Ch l).map f).sum=(l.map f).sum:=by
 induction l with
 |nil=>simp [Ch,srt]
 |cons x l ih=>rw [show Ch (x::l)=ins bl pk x (Ch l) from rfl,Bbg,ih];simp
theorem Bau(f:Pr→Nat) {a b:List Pr} (h:a.Sublist b):(a.map f).sum≤(b.map f).sum:=by
 induction h with
 |slnil=>simp
 |cons x h ih=>simp;omega
 |cons_cons x h ih=>simp;omega
theorem Ban(f:Pr→Nat)(d:List Pr):(((uniq d).filter Uh).map f).sum≤(d.map f).sum:=by
 rw [←Bar f d]
 exact Bau f ((List.filter_sublist).trans (We _))
theorem Auf {v:V} (h:Scal v):Scal v.plain∧C9 v.plain≤C9 v:=by
 have z:I64 0:=⟨by decide,by decide⟩
 have n0:∀(P:V→Prop),∀x∈([]:List V),P x:=fun P x hx=>by cases hx
 have n1:∀(P:Pr→Prop),∀x∈([]:List Pr),P x:=fun P x hx=>by cases hx
 have leaf:∀(k n g:Int) (s:List UInt8),I64 n→I64 g→s.length≤3000→Scal (.mk k n g s [] [])∧C9 (.mk k n g s [] [])=1:=by
  intro k n g s h1 h2 h3
  refine⟨.mk _ h1 h2 h3 (n0 _) (n1 _) (n1 _), ?_⟩
  rw [R3];simp [V.l,V.d]
 induction h with
 |mk v a2 a3 a4 a7 a8 a9 ih1 ih2=>
  have hp:=Ajt v
  have he:=R3 v
  rw [Fj]
  have hdm:∀p∈(uniq (Mr v.d)).filter Uh,∃q∈v.d,p=(q.1,q.2.plain):=by
   intro p hp
   have:=Akn (List.mem_filter.1 hp).1
   rw [Mr,List.mem_map]at this
   obtain⟨q,h1,h2⟩:=this
   exact⟨q,h1,h2.symm⟩
  have hsd:(((uniq (Mr v.d)).filter Uh).map fun p:Pr=>C9 p.2).sum≤(v.d.map fun p:Pr=>C9 p.2).sum:=by
   refine Nat.le_trans (Ban _ _) ?_
   rw [Mr,List.map_map]
   exact Atq _ _ _ fun p hp=>(ih2 p hp).2
  have dd:∀(k:Int) (s:List UInt8),s.length≤3000→Scal (.mk k 0 0 s [] ((uniq (Mr v.d)).filter Uh))∧C9 (.mk k 0 0 s [] ((uniq (Mr v.d)).filter Uh))≤C9 v:=by
   intro k s hs
   refine⟨.mk _ z z hs (n0 _) (fun p hp=> ?_) (fun p hp=> ?_), ?_⟩
   ·obtain⟨q,h1,rfl⟩:=hdm p hp
    exact a8 q h1
   ·obtain⟨q,h1,rfl⟩:=hdm p hp
    exact(ih2 q h1).1
   ·rw [R3]
    show 1+(([]:List V).map C9).sum+_≤_
    simp only [List.map_nil,List.sum_nil]
    show 1+0+(((uniq (Mr v.d)).filter Uh).map fun p:Pr=>C9 p.2).sum≤_
    omega
  unfold R4
  split
  ·have:=leaf v.k v.n 0 [] a2 z (by simp);exact⟨this.1,by omega⟩
  split
  ·have:=leaf v.k 0 0 v.s z z a4;exact⟨this.1,by omega⟩
  split
  ·refine⟨.mk _ z z (by simp [V.s]) (fun x hx=> ?_) (n1 _) (n1 _), ?_⟩
   ·obtain⟨y,h1,rfl⟩:=List.mem_map.1 hx
    exact(ih1 y h1).1
   ·rw [R3]
    show 1+((v.l.map V.plain).map C9).sum+0≤_
    have:((v.l.map V.plain).map C9).sum≤(v.l.map C9).sum:=by
     rw [List.map_map];exact Atq _ _ _ fun x hx=>(ih1 x hx).2
    omega
  split
  ·exact dd _ _ (by simp)
  split
  ·have:=leaf v.k v.n v.g [] a2 a3 (by simp);exact⟨this.1,by omega⟩
  split
  ·exact dd _ _ a4
  ·have:=leaf 0 0 0 [] z z (by simp);exact⟨this.1,by show C9 zero≤_;rw [show C9 zero=1 from this.2];exact hp⟩
end Go.Proofs.Sim.Se
set_option maxRecDepth 100000
namespace Go.Proofs.Sim.Se
open Go Go.Proofs Go.Proofs.Sim Go.Proofs.Sim.Va Go.RowKit
abbrev Zm(l:List (List UInt8)):List (List IV):=l.map fun s=>[.str s]
theorem Afd(l:List (List UInt8)):(Zm l).length=l.length:=List.length_map ..
theorem Bdw(xs:List (List UInt8))(hN:O9 xs≤100000000000):Call E0.P Ahn [.imm (.sl .any 1 (Zm xs)), .imm (.str [32])] [] (Is (.imm (.str (Ci xs))) []):=by
 have h1:=Akg xs
 have h2:=A7n xs
 refine Ri Tryz.func53 (by kernel_rfl) (by kernel_rfl) [.sl .any 1 (Zm xs), .str [32]] _ fun g w vs hv hs=> ?_
 obtain⟨v,u,rfl,hr,hu⟩:=A2r hv
 obtain rfl:=Ale hu
 cases hr with |sl a cap _ _ _ b o ws q1 q2 q3 q4 q5 q6 q7 q8 q9=>
 by_cases hx:xs=[]
 ·subst hx
  refine(Tryz.strings_Join_none a cap ⟨([32]:List UInt8).toArray⟩ w).mono ?_
  rintro e w' ⟨rfl,rfl⟩
  exact⟨_, .imm (.str []),rfl,Below.refl _ _, .imm _ _ (.str _ _ rfl),rfl,rfl⟩
 ·have hne:Zm xs≠[]:=by
   intro h;apply hx
   have:=congrArg List.length h
   rw [Afd]at this
   exact List.eq_nil_of_length_eq_zero (by simpa using this)
  have ha:=q5 hne
  subst ha
  rw [Afd]at q1 ⊢
  have cell:∀j,(hj:j<xs.length)→w.cell? ⟨b,o+j,none⟩=some (.string ⟨(xs[j]).toArray⟩):=by
   intro j hj
   have c1:=q7 j 0 (by rw [Afd];exact hj) (by omega)
   have c2:=q8 j 0 (by rw [Afd];exact hj) (by omega)
   have c3:=hs.imm _ _ _ c1
   have e:((Zm xs).getD j []).getD 0 default= .str xs[j]:=by simp [List.getD_eq_getElem?_getD,hj]
   rw [e]at c2
   have e2:ws j 0= .string ⟨(xs[j]).toArray⟩:=by
    generalize ws j 0=z at c2
    cases c2 with |str s _ h=>
    have:s=⟨(xs[j]).toArray⟩:=by cases s;simp at h;simp [←h]
    rw [this]
   rw [show o+j=o+j*1+0 by omega,c3,e2]
  have hlt:b<w.heap.size:=by
   obtain⟨n,hn⟩:=List.exists_mem_of_ne_nil xs hx
   have h0:0<xs.length:=List.length_pos_of_mem hn
   have:=cell 0 h0
   rcases Nat.lt_or_ge b w.heap.size with h |h
   ·exact h
   ·simp [World.cell?,Array.getElem?_eq_none h]at this
  have em:(xs.map fun s=>(⟨s.toArray⟩:ByteArray)).map (fun x:ByteArray=>x.data.toList)=xs:=by
   rw [List.map_map,show((fun x:ByteArray=>x.data.toList) ∘ fun s:List UInt8=>(⟨s.toArray⟩:ByteArray))=id from by funext s;simp,List.map_id]
  have hj:=Tryz.strings_Join b o cap (xs.map fun s=>(⟨s.toArray⟩:ByteArray)) ⟨([32]:List UInt8).toArray⟩ w (fun j x hx=>by
   rw [List.getElem?_map]at hx
   by_cases hj:j<xs.length
   ·rw [List.getElem?_eq_getElem hj]at hx
    injection hx with hx
    rw [cell j hj, ←hx]
   ·rw [List.getElem?_eq_none (by omega)]at hx;cases hx) hlt (by rw [List.length_map];omega) (by rw [List.length_map];exact q1) (by
   rw [em]
   show(Ci xs).length≤_
   omega)
  rw [List.length_map,em]at hj
  refine hj.mono ?_
  rintro e w' ⟨rfl,hb⟩
  exact⟨_, .imm (.str (Ci xs)),rfl,hb, .imm _ _ (.str _ _ (by simp [Ci])),rfl,rfl⟩
theorem Alf(xs:List (List UInt8))(hN:O9 xs≤100000000000):Call E0.P S9 [.imm (.sl .any 1 (Zm xs))] [] (Is (.imm (.str (Ci xs))) []):=
 App _ _ (Call.use (Bdw xs hN) ⟨⟨rfl,rfl⟩,⟨rfl,rfl⟩⟩)
def Pw(k:Int)(xs:List (List UInt8)):List UInt8:=if k=5 then [91]++Ci xs++[93]else if k=6 then [60,60]++Ci xs++[62,62]else if k=7 then Ci xs++[32,82]else Ao6
theorem A8j(k:Int)(xs:List (List UInt8))(hN:O9 xs≤100000000000):Call E0.P Aab [.imm (.int .i64 k), .imm (.sl .any 1 (Zm xs))] [] (Is (.imm (.str (Pw k xs))) []):=by
 have hl:=Akg xs
 have w1:IntKind.i64.wrap ((0:Int)+1)=1:=by decide
 have w2:IntKind.i64.wrap ((1:Int)+1)=2:=by decide
 have w3:IntKind.i64.wrap ((2:Int)+1)=3:=by decide
 have last:Qy k (Zm xs) 5 [91] [93] 6 [60,60] [62,62] 7 [] [32,82] 3 (Rl (Is (.imm (.str Ao6)) [])):=by
  refine Nf _ _ _ _ _ _ _ _ _ _ _ _ _ ⟨fun h=>absurd h (by decide),fun _=> ?_⟩
  exact Amb _ (Ajy _ (Alu _ _ ⟨rfl,rfl⟩))
 refine Ap2 _ _ _ (Nf _ _ _ _ _ _ _ _ _ _ _ _ _ ⟨fun _=>⟨⟨by decide,rfl⟩, ?_⟩,fun h=>absurd h (by decide)⟩)
 show Br (decide ((5:Int)=k)) _ _
 refine Co (fun e=> ?_) fun n5=> ?_
 ·subst e
  refine Call.use (Alf xs hN) ⟨⟨rfl,rfl⟩,⟨?_,⟨?_,Sr _ _ ⟨rfl,rfl⟩⟩⟩⟩
  ·show(((1+(Ci xs).length:Nat)):Int)≤_
   omega
  ·show(((([91]++Ci xs:List UInt8).length+1:Nat)):Int)≤_
   rw [List.length_append];simp only [List.length_cons,List.length_nil];omega
 rw [w1]
 refine Nf _ _ _ _ _ _ _ _ _ _ _ _ _ ⟨fun _=>⟨⟨by decide,rfl⟩, ?_⟩,fun h=>absurd h (by decide)⟩
 show Br (decide ((6:Int)=k)) _ _
 refine Co (fun e=> ?_) fun n6=> ?_
 ·subst e
  refine Call.use (Alf xs hN) ⟨⟨rfl,rfl⟩,⟨?_,⟨?_,Sr _ _ ⟨rfl,rfl⟩⟩⟩⟩
  ·show(((2+(Ci xs).length:Nat)):Int)≤_
   omega
  ·show(((([60,60]++Ci xs:List UInt8).length+2:Nat)):Int)≤_
   rw [List.length_append];simp only [List.length_cons,List.length_nil];omega
 rw [w2]
 refine Nf _ _ _ _ _ _ _ _ _ _ _ _ _ ⟨fun _=>⟨⟨by decide,rfl⟩, ?_⟩,fun h=>absurd h (by decide)⟩
 show Br (decide ((7:Int)=k)) _ _
 refine Co (fun e=> ?_) fun n7=> ?_
 ·subst e
  refine Call.use (Alf xs hN) ⟨⟨rfl,rfl⟩,⟨?_,⟨?_,Sr _ _ ⟨rfl,rfl⟩⟩⟩⟩
  ·show(((0+(Ci xs).length:Nat)):Int)≤_
   omega
  ·show(((([]++Ci xs:List UInt8).length+2:Nat)):Int)≤_
   rw [List.nil_append];omega
 rw [w3,Pw,if_neg (Ne.symm n5),if_neg (Ne.symm n6),if_neg (Ne.symm n7)]
 exact last
abbrev Agy(v:V):Prop:=Call E0.P Pk [.imm (.agg v.row)] [] (Is (.imm (.str v.wr)) [])
theorem Bcr {l:List V} {i:Nat} (h:i<l.length):L9 l i=l[i]:=by simp [L9,List.getD_eq_getElem?_getD,h]
theorem Ba3 {l:List Pr} {i:Nat} (h:i<l.length):Ce l i=l[i]:=by simp [Ce,List.getD_eq_getElem?_getD,h]
theorem Axa {α β:Type} (f:α→β)(l:List α)(i:Nat)(h:i<l.length):(l.take (i+1)).map f=(l.take i).map f++[f l[i]]:=by
 have:l[i]?.toList=[l[i]]:=by simp [h]
 rw [List.take_add_one,this,List.map_append];rfl
abbrev A46(a b c:Int)(s:List UInt8)(p q:List (List IV)):Heap:=[(Nm.loc 1, .blk Ac [.imm (.int .i64 a), .imm (.int .i64 b), .imm (.int .i64 c), .imm (.str s), .imm (.sl .any 6 p), .imm (.sl .any 7 q)])]
theorem Bdc(v:V)(hl:v.l.length≤1000000)(ih:∀x∈v.l,Agy x)(a b c:Int)(s:List UInt8)(p q:List (List IV))(K:Ex→St→Prop)
 (hE:K (.exit 1) ⟨[(1, .ptr (Nm.loc 1) 0),(3, .own (Nm.loc 3))],A46 a b c s p q++[(Nm.loc 3, .arr (Oz+2) true 1 (Zm (v.l.map V.wr)))]⟩):
 ∀(m i:Nat),m+i=v.l.length→Rm (Kv v.l) v.l.length i a b c s p q (Zm ((v.l.take i).map V.wr)) K:=by
 intro m
 induction m with
 |zero=>
  intro i hi
  refine Aal _ _ _ _ _ _ _ _ _ _ _ (Co (fun h=>by omega) fun _=> ?_)
  rw [List.take_of_length_le (by omega)]
  exact hE
 |succ m ihm=>
  intro i hi
  have hlt:i<v.l.length:=by omega
  refine Aal _ _ _ _ _ _ _ _ _ _ _ (Co (fun _=> ?_) fun h=>by omega)
  rw [show(Kv v.l).getD (Int.toNat (i:Int)) []=(L9 v.l i).row from Yi _ _ hlt,Jo,H7,Ma i (by omega),Bcr hlt]
  refine⟨⟨⟨by omega,by omega⟩,Yl _ _ _⟩,Call.use (ih _ (List.getElem_mem hlt)) ⟨⟨rfl,rfl⟩,⟨?_, ?_⟩⟩⟩
  ·rw [Afd,List.length_map,List.length_take];constructor<;>omega
  ·have:=ihm (i+1) (by omega)
   rw [Axa V.wr _ _ hlt,show Zm ((v.l.take i).map V.wr++[v.l[i].wr])=Zm ((v.l.take i).map V.wr)++[[.str v.l[i].wr]]by simp [Zm]]at this
   exact this
theorem Bcv(v:V)(hl:v.d.length≤1000000)(hk:∀x∈v.d,x.1.length≤3000)(hz:∀x∈v.d,O9 [Df x.1,x.2.wr]≤100000000000)(ih:∀x∈v.d,Agy x.2)(a b c:Int)(s:List UInt8)(p q:List (List IV))(K:Ex→St→Prop)
 (hE:K (.exit 3) ⟨[(1, .ptr (Nm.loc 1) 0),(3, .own (Nm.loc 3))],A46 a b c s p q++[(Nm.loc 3, .arr (Oz+2) true 1 (Zm (v.d.map fun x=>Ci [Df x.1,x.2.wr])))]⟩):
 ∀(m i:Nat),m+i=v.d.length→Re (Bv v.d) v.d.length i a b c s p q (Zm ((v.d.take i).map fun x=>Ci [Df x.1,x.2.wr])) K:=by
 intro m
 induction m with
 |zero=>
  intro i hi
  refine Aaj _ _ _ _ _ _ _ _ _ _ _ (Co (fun h=>by omega) fun _=> ?_)
  rw [List.take_of_length_le (by omega)]
  exact hE
 |succ m ihm=>
  intro i hi
  have hlt:i<v.d.length:=by omega
  have hm:=List.getElem_mem hlt
  have hk:=hk _ hm
  refine Aaj _ _ _ _ _ _ _ _ _ _ _ (Co (fun _=> ?_) fun h=>by omega)
  rw [show(Bv v.d).getD (Int.toNat (i:Int)) []=Cu (Ce v.d i) from Aat _ _ hlt,Qn,Bd2,Bc,Ma i (by omega),Ba3 hlt]
  refine⟨⟨⟨by omega,by omega⟩,Eo _ _ _⟩,Call.use (Ann _ (by omega)) ⟨⟨rfl,rfl⟩,Call.use (ih _ hm) ⟨⟨rfl,rfl⟩,Call.use (Alf [Df v.d[i].1,v.d[i].2.wr] (hz _ hm)) ⟨⟨rfl,rfl⟩,⟨?_, ?_⟩⟩⟩⟩⟩
  ·rw [Afd,List.length_map,List.length_take];constructor<;>omega
  ·have:=ihm (i+1) (by omega)
   rw [Axa (fun x:Pr=>Ci [Df x.1,x.2.wr]) _ _ hlt,show Zm ((v.d.take i).map (fun x:Pr=>Ci [Df x.1,x.2.wr])++[Ci [Df v.d[i].1,v.d[i].2.wr]])=Zm ((v.d.take i).map fun x:Pr=>Ci [Df x.1,x.2.wr])++[[.str (Ci [Df v.d[i].1,v.d[i].2.wr])]]by simp [Zm]]at this
   exact this
theorem A4h(v:V)(h1:v.k≠1)(h2:v.k≠2)(h3:v.k≠3)(h4:v.k≠4):v.wr=if v.k=5 then Pw v.k (v.l.map V.wr)else if v.k=6 then Pw v.k (v.d.map fun x=>Ci [Df x.1,x.2.wr])else if v.k=7 then Pw v.k [Lib.itoa v.n,Lib.itoa v.g]else Pw v.k []:=by
 rw [Ti,mkW,if_neg h1,if_neg h2,if_neg h3,if_neg h4]
 by_cases h5:v.k=5
 ·rw [if_pos h5,if_pos h5,Pw,if_pos h5]
 rw [if_neg h5,if_neg h5]
 by_cases h6:v.k=6
 ·rw [if_pos h6,if_pos h6,Pw,if_neg h5,if_pos h6,List.map_map];rfl
 rw [if_neg h6,if_neg h6]
 by_cases h7:v.k=7
 ·rw [if_pos h7,if_pos h7,Pw,if_neg h5,if_neg h6,if_pos h7]
 rw [if_neg h7,if_neg h7,Pw,if_neg h5,if_neg h6,if_neg h7]
theorem Bav(n:Int):Call E0.P Acv [.imm (.int .i64 n)] [] (Is (.imm (.str (if n=1 then As6 else Amz))) []):=
 As7 _ _ (Co (fun h=>by rw [if_pos h];exact⟨rfl,rfl⟩) fun h=>by rw [if_neg h];exact⟨rfl,rfl⟩)
theorem A8q(v:V)(h:SmW v):Agy v:=by
 induction h with
 |mk v b1 b2 b3 b4 b5 b6 b7 b8 b9 b10 ih1 ih2=>
  have hz:∀x∈v.d,O9 [Df x.1,x.2.wr]≤100000000000:=by
   intro x hx
   have:=A9d _ _ (List.mem_map.2 ⟨x,hx,rfl⟩:Ci [Df x.1,x.2.wr]∈v.d.map fun p=>Ci [Df p.1,p.2.wr])
   rw [Ana]at this
   simp [O9];omega
  have i1:=Aky v.n b1.1 b1.2
  have i2:=Aky v.g b2.1 b2.2
  have cut:∀(xs:List (List UInt8)) (Q:AV→Heap→Prop),O9 xs≤100000000000→Q (.imm (.str (Pw v.k xs))) []→Kg (Zm xs) v.k v.n v.g v.s (v.l.map V.row) (v.d.map Cu) (Ed Q):=by
   intro xs Q hx hq
   exact Amc _ _ _ _ _ _ _ _ (Call.use (A8j v.k xs hx) ⟨⟨rfl,rfl⟩,Anj _ _ hq⟩)
  rw [Agy,Ep]
  refine Aq5 _ _ _ _ _ _ _ (Co (fun h=> ?_) fun h1=>Co (fun h=> ?_) fun h2=>Co (fun h=> ?_) fun h3=>Co (fun h=> ?_) fun h4=> ?_)
  ·refine Call.use (Bav _) ⟨⟨rfl,rfl⟩, ?_⟩
   rw [Ti,mkW,if_pos h];exact⟨rfl,rfl⟩
  ·refine Call.use (Af3 _ b1.1 b1.2) ⟨⟨rfl,rfl⟩, ?_⟩
   rw [Ti,mkW,if_neg h1,if_pos h];exact⟨rfl,rfl⟩
  ·refine Call.use (Ann _ (by omega)) ⟨⟨rfl,rfl⟩, ?_⟩
   rw [Ti,mkW,if_neg h1,if_neg h2,if_pos h];exact⟨rfl,rfl⟩
  ·refine Call.use (Axs _ (by omega)) ⟨⟨rfl,rfl⟩, ?_⟩
   rw [Ti,mkW,if_neg h1,if_neg h2,if_neg h3,if_pos h];exact⟨rfl,rfl⟩
  ·rw [A4h v h1 h2 h3 h4]
   refine Co (fun h=> ?_) fun h5=>Co (fun h=> ?_) fun h6=>Co (fun h=> ?_) fun h7=> ?_
   ·rw [if_pos h,List.length_map]
    exact Bdc v b4 ih1 _ _ _ _ _ _ _ (Ams _ _ _ _ _ _ _ _ (cut _ _ (by omega) ⟨rfl,rfl⟩)) v.l.length 0 rfl
   ·rw [if_neg h5,if_pos h,List.length_map]
    exact Bcv v b5 b8 hz ih2 _ _ _ _ _ _ _ (An1 _ _ _ _ _ _ _ _ (cut _ _ (by omega) ⟨rfl,rfl⟩)) v.d.length 0 rfl
   ·rw [if_neg h5,if_neg h6,if_pos h]
    refine Call.use (Af3 _ b1.1 b1.2) ⟨⟨rfl,rfl⟩,Call.use (Af3 _ b2.1 b2.2) ⟨⟨rfl,rfl⟩, ?_⟩⟩
    exact cut [Lib.itoa v.n,Lib.itoa v.g] _ (by simp [O9];omega) ⟨rfl,rfl⟩
   ·rw [if_neg h5,if_neg h6,if_neg h7]
    exact cut [] _ (by simp [O9]) ⟨rfl,rfl⟩
end Go.Proofs.Sim.Se
set_option maxRecDepth 100000
namespace Go.Proofs.Sim.Se
open Go Go.Proofs Go.Proofs.Sim Go.Proofs.Sim.Va Go.Proofs.Sim.St Go.RowKit
abbrev Tr:AV→Heap→Prop:=Is (.imm (.bool true)) []
def A9h(t:List UInt8 × Int):AV:= .tup [.imm (.str t.1), .imm (.int .i64 t.2)]
theorem tx0(t:List UInt8 × Int):rS (rT (A9h t) 0)=t.1:=rfl
theorem tx1(t:List UInt8 × Int):rI (rT (A9h t) 1)=t.2:=rfl
theorem A0p(v:V)(hs:Scal v)(hc:C9 v≤1000):Call E0.P Adr [.imm (.agg v.row)] [] (Is (A9h (Apd v)) []):=by
 have hf:=Aja 1000 (by omega) _ v (Nat.le_refl _) hc
 obtain⟨p1,p2⟩:=Auf hs
 have h1:=Bbe v hf false
 have h2:Kc v:=Au2 v hf
 have h3:Agy v.plain:=A8q _ (A8t p1 (by omega))
 rw [Kc]at h2
 rw [Ep]at h1 h2 ⊢
 refine Ate _ _ _ _ _ _ _ (Call.use h1 ⟨⟨rfl,rfl⟩, ?_⟩)
 rw [Hd,Apd]
 refine⟨fun h=> ?_,fun h=> ?_⟩
 ·rw [if_pos (ndT h)];exact⟨rfl,rfl⟩
 ·rw [if_neg (by simpa using ndF h)]
  refine Call.use h2 ?_
  rw [Aze,Jo]
  exact⟨⟨rfl,rfl⟩,Call.use h3 ⟨⟨rfl,rfl⟩,⟨rfl,rfl⟩⟩⟩
end Go.Proofs.Sim.Se

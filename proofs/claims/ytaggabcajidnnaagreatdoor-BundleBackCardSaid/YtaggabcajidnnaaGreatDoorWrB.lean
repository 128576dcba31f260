import Derived.Test.YtaggabcajidnnaaGreatDoorWrA
set_option maxRecDepth 100000
namespace Go.Proofs.Sim.Se
open Go Go.Proofs Go.Proofs.Sim Go.Proofs.Sim.Va Go.RowKit
end Go.Proofs.Sim.Se
namespace Go.Proofs.Sim.Se
open Go Go.Proofs Go.Proofs.Sim Go.Proofs.Sim.Va Go.Proofs.Sim.St Go.RowKit
def H6(l:List (List UInt8)):Nat:=(l.map fun t=>t.length+1).sum
theorem Ah7(x:List UInt8)(r:List (List UInt8)):Bi (x::r)=x++(r.map fun t=>32::t).flatten:=by
 rw [Bi,Lib.join_cons];rfl
theorem Aep(l:List (List UInt8)):(Bi l).length≤H6 l:=by
 cases l with
 |nil=>simp [Bi,Lib.join_nil]
 |cons x r=>
  rw [Ah7,H6,List.length_append,List.map_cons,List.sum_cons]
  have:((r.map fun t=>(32:UInt8)::t).flatten).length=(r.map fun t=>t.length+1).sum:=by
   induction r with
   |nil=>rfl
   |cons y r ih=>rw [List.map_cons,List.flatten_cons,List.length_append,ih,List.map_cons,List.sum_cons];simp
  omega
theorem Bik(a b:List (List UInt8)):H6 (a++b)=H6 a+H6 b:=by simp [H6]
theorem Bfn(l:List (List UInt8))(i:Nat):H6 (l.take i)≤H6 l:=by
 have:H6 l=H6 (l.take i)+H6 (l.drop i):=by rw [←Bik,List.take_append_drop]
 omega
theorem Bim(l:List (List UInt8))(x:List UInt8)(h:x∈l):x.length+1≤H6 l:=Aoi (fun t:List UInt8=>t.length+1) l x h
theorem Bil(l:List (List UInt8)):l.length≤H6 l:=Aoh (fun t:List UInt8=>t.length+1) l fun _ _=>by omega
theorem Bei(l:List (List UInt8))(i:Nat)(h:i<l.length):Bi (l.take (i+1))=(if 0<i then Bi (l.take i)++[32]else Bi (l.take i))++l[i]:=by
 cases l with
 |nil=>simp at h
 |cons x r=>
  cases i with
  |zero=>
   rw [if_neg (by decide)]
   simp [Bi,Lib.join_nil,Lib.join_one]
  |succ i=>
   have hi:i<r.length:=by simpa using h
   have:r[i]?.toList=[r[i]]:=by simp [hi]
   have e:r.take (i+1)=r.take i++[r[i]]:=by rw [List.take_add_one,this]
   rw [if_pos (by omega),List.take_succ_cons,List.take_succ_cons,Ah7,Ah7,e,List.map_append,List.flatten_append]
   simp
inductive SmW:V→Prop where
 |mk (v:V):Qy v.n→Qy v.g→v.s.length≤3000→v.l.length≤1000000→v.d.length≤1000000→H6 (v.l.map V.wr)≤10000000000→H6 (v.d.map fun p=>Bi [Cr p.1,p.2.wr])≤10000000000→(∀p∈v.d,p.1.length≤3000)→
  (∀x∈v.l,SmW x)→(∀p∈v.d,SmW p.2)→SmW v
inductive Scal:V→Prop where
 |mk (v:V):Qy v.n→Qy v.g→v.s.length≤3000→(∀x∈v.l,Scal x)→(∀p∈v.d,p.1.length≤3000)→(∀p∈v.d,Scal p.2)→Scal v
theorem Bln {v:V} (hw:Wf v):Rn 3000 v→Scal v:=by
 induction hw with
 |mk v a1 a2 a3 a4 a5 a6 a7 a8 a9 ih1 ih2=>
  intro hs
  cases hs with
  |mk _ b1 b2 b3 b4=>exact .mk v a2 a3 (by omega) (fun x hx=>ih1 x hx (b2 x hx)) (fun p hp=>by have:=b3 p hp;omega) (fun p hp=>ih2 p hp (b4 p hp))
theorem A79(s:List UInt8):(Cr s).length≤3*s.length+1:=by
 have:=Az6 M9 3 Atv s
 rw [Cr,List.length_cons];omega
theorem Bfs(s:List UInt8):(Aag s).length≤2*s.length+2:=by
 have h1:=Az6 Oc 2 Axq s
 have h2:=Baj s
 unfold Aag
 split
 ·rw [List.cons_append,List.length_cons,List.length_append];simp only [List.length_cons,List.length_nil];omega
 ·rw [List.length_cons];omega
theorem A01 {α:Type} (f g:α→Nat)(l:List α)(h:∀x∈l,f x≤g x):(l.map f).sum≤(l.map g).sum:=by
 induction l with
 |nil=>simp
 |cons x l ih=>
  have:=ih fun y hy=>h y (by simp [hy])
  have:=h x (by simp)
  simp;omega
theorem Baw {α:Type} (c:Nat)(f:α→Nat)(l:List α):(l.map fun x=>c*f x).sum=c*(l.map f).sum:=by
 induction l with
 |nil=>simp
 |cons x l ih=>simp only [List.map_cons,List.sum_cons,ih,Nat.mul_add]
theorem Atp(a b:List UInt8):(Bi [a,b]).length=a.length+b.length+1:=by rw [Ah7];simp;omega
theorem Boh {v:V} (h:Scal v):v.wr.length+9100≤20000*Ch v∧H6 (v.l.map V.wr)≤20000*Ch v∧H6 (v.d.map fun p=>Bi [Cr p.1,p.2.wr])≤20000*Ch v:=by
 induction h with
 |mk v a2 a3 a4 a7 a8 a9 ih1 ih2=>
  have hl:H6 (v.l.map V.wr)≤20000*(v.l.map Ch).sum:=by
   rw [H6,List.map_map, ←Baw]
   exact A01 _ _ _ fun x hx=>by have:=(ih1 x hx).1;simp only [Function.comp_apply];omega
  have hd:H6 (v.d.map fun p=>Bi [Cr p.1,p.2.wr])≤20000*(v.d.map fun p=>Ch p.2).sum:=by
   rw [H6,List.map_map, ←Baw]
   exact A01 _ _ _ fun p hp=>by
    have:=(ih2 p hp).1
    have h1:=A79 p.1
    have h2:=a8 p hp
    simp only [Function.comp_apply,Atp]
    omega
  have hc:=P7 v
  refine⟨?_,by omega,by omega⟩
  rw [V3]
  have j1:=Aep (v.l.map V.wr)
  have j2:=Aep (v.d.map fun p=>Bi [Cr p.1,p.2.wr])
  have n1:=A79 v.s
  have n2:=Bfs v.s
  have i1:=Wv v.n a2.1 a2.2
  have i2:=Wv v.g a3.1 a3.2
  have e:(v.d.map fun p=>(p.1,p.2.wr)).map (fun p=>Bi [Cr p.1,p.2])=v.d.map fun p=>Bi [Cr p.1,p.2.wr]:=by rw [List.map_map];rfl
  unfold mkW
  split
  ·split<;>simp [A02,At3]<;>omega
  split
  ·omega
  split
  ·omega
  split
  ·omega
  split
  ·simp only [List.length_append,List.length_cons,List.length_nil];omega
  split
  ·rw [e];simp only [List.length_append,List.length_cons,List.length_nil];omega
  split
  ·simp only [List.length_append,List.length_cons,List.length_nil,Atp];omega
  ·simp [Auy];omega
theorem Bie {v:V} (h:Scal v):Ch v≤100000→SmW v:=by
 induction h with
 |mk v a2 a3 a4 a7 a8 a9 ih1 ih2=>
  intro hc
  have h0:=Boh (Scal.mk v a2 a3 a4 a7 a8 a9)
  have he:=P7 v
  have l1:=Aoh Ch v.l fun x _=>Ann x
  have l2:=Aoh (fun p:Pr=>Ch p.2) v.d fun p _=>Ann p.2
  refine .mk v a2 a3 a4 (by omega) (by omega) (by omega) (by omega) a8 (fun x hx=>ih1 x hx ?_) fun p hp=>ih2 p hp ?_
  ·have:=Aoi Ch v.l x hx;omega
  ·have:=Aoi (fun p:Pr=>Ch p.2) v.d p hp;omega
theorem Blp(f:Pr→Nat)(x:Pr)(l:List Pr):((ins bl pk x l).map f).sum=f x+(l.map f).sum:=by
 induction l with
 |nil=>simp [ins]
 |cons y r ih=>
  rw [ins]
  split
  ·rw [List.map_cons,List.sum_cons,ih,List.map_cons,List.sum_cons];omega
  ·simp
theorem Blr(f:Pr→Nat)(l:List Pr):((Cb l).map f).sum=(l.map f).sum:=by
 induction l with
 |nil=>simp [Cb,srt]
 |cons x l ih=>rw [show Cb (x::l)=ins bl pk x (Cb l) from rfl,Blp,ih];simp
theorem Bls(f:Pr→Nat) {a b:List Pr} (h:a.Sublist b):(a.map f).sum≤(b.map f).sum:=by
 induction h with
 |slnil=>simp
 |cons x h ih=>simp;omega
 |cons_cons x h ih=>simp;omega
theorem Blq(f:Pr→Nat)(d:List Pr):(((uniq d).filter Ut).map f).sum≤(d.map f).sum:=by
 rw [←Blr f d]
 exact Bls f ((List.filter_sublist).trans (Zq _))
theorem Bch {v:V} (h:Scal v):Scal v.plain∧Ch v.plain≤Ch v:=by
 have z:Qy 0:=⟨by decide,by decide⟩
 have n0:∀(P:V→Prop),∀x∈([]:List V),P x:=fun P x hx=>by cases hx
 have n1:∀(P:Pr→Prop),∀x∈([]:List Pr),P x:=fun P x hx=>by cases hx
 have leaf:∀(k n g:Int) (s:List UInt8),Qy n→Qy g→s.length≤3000→Scal (.mk k n g s [] [])∧Ch (.mk k n g s [] [])=1:=by
  intro k n g s h1 h2 h3
  refine⟨.mk _ h1 h2 h3 (n0 _) (n1 _) (n1 _), ?_⟩
  rw [P7];simp [V.l,V.d]
 induction h with
 |mk v a2 a3 a4 a7 a8 a9 ih1 ih2=>
  have hp:=Ann v
  have he:=P7 v
  rw [Eh]
  have hdm:∀p∈(uniq (Lv v.d)).filter Ut,∃q∈v.d,p=(q.1,q.2.plain):=by
   intro p hp
   have:=Ap8 (List.mem_filter.1 hp).1
   rw [Lv,List.mem_map]at this
   obtain⟨q,h1,h2⟩:=this
   exact⟨q,h1,h2.symm⟩
  have hsd:(((uniq (Lv v.d)).filter Ut).map fun p:Pr=>Ch p.2).sum≤(v.d.map fun p:Pr=>Ch p.2).sum:=by
   refine Nat.le_trans (Blq _ _) ?_
   rw [Lv,List.map_map]
   exact A01 _ _ _ fun p hp=>(ih2 p hp).2
  have dd:∀(k:Int) (s:List UInt8),s.length≤3000→Scal (.mk k 0 0 s [] ((uniq (Lv v.d)).filter Ut))∧Ch (.mk k 0 0 s [] ((uniq (Lv v.d)).filter Ut))≤Ch v:=by
   intro k s hs
   refine⟨.mk _ z z hs (n0 _) (fun p hp=> ?_) (fun p hp=> ?_), ?_⟩
   ·obtain⟨q,h1,rfl⟩:=hdm p hp
    exact a8 q h1
   ·obtain⟨q,h1,rfl⟩:=hdm p hp
    exact(ih2 q h1).1
   ·rw [P7]
    show 1+(([]:List V).map Ch).sum+_≤_
    simp only [List.map_nil,List.sum_nil]
    show 1+0+(((uniq (Lv v.d)).filter Ut).map fun p:Pr=>Ch p.2).sum≤_
    omega
  unfold Us
  split
  ·have:=leaf v.k v.n 0 [] a2 z (by simp);exact⟨this.1,by omega⟩
  split
  ·have:=leaf v.k 0 0 v.s z z a4;exact⟨this.1,by omega⟩
  split
  ·refine⟨.mk _ z z (by simp [V.s]) (fun x hx=> ?_) (n1 _) (n1 _), ?_⟩
   ·obtain⟨y,h1,rfl⟩:=List.mem_map.1 hx
    exact(ih1 y h1).1
   ·rw [P7]
    show 1+((v.l.map V.plain).map Ch).sum+0≤_
    have:((v.l.map V.plain).map Ch).sum≤(v.l.map Ch).sum:=by
     rw [List.map_map];exact A01 _ _ _ fun x hx=>(ih1 x hx).2
    omega
  split
  ·exact dd _ _ (by simp)
  split
  ·have:=leaf v.k v.n v.g [] a2 a3 (by simp);exact⟨this.1,by omega⟩
  split
  ·exact dd _ _ a4
  ·have:=leaf 0 0 0 [] z z (by simp);exact⟨this.1,by show Ch zero≤_;rw [show Ch zero=1 from this.2];exact hp⟩
end Go.Proofs.Sim.Se
set_option maxRecDepth 100000
namespace Go.Proofs.Sim.Se
open Go Go.Proofs Go.Proofs.Sim Go.Proofs.Sim.Va Go.RowKit
abbrev txs(l:List (List UInt8)):List (List IV):=l.map fun s=>[.str s]
theorem Aiw(l:List (List UInt8)):(txs l).length=l.length:=List.length_map ..
theorem Bml(xs:List (List UInt8))(hN:H6 xs≤100000000000):Call E0.P Alf [.imm (.sl .any 1 (txs xs)), .imm (.str [32])] [] (Is (.imm (.str (Bi xs))) []):=by
 have h1:=Aep xs
 have h2:=Bil xs
 refine Tn Tryz.func117 (by kernel_rfl) (by kernel_rfl) [.sl .any 1 (txs xs), .str [32]] _ fun g w vs hv hs=> ?_
 obtain⟨v,u,rfl,hr,hu⟩:=Bci hv
 obtain rfl:=Ap3 hu
 cases hr with |sl a cap _ _ _ b o ws q1 q2 q3 q4 q5 q6 q7 q8 q9=>
 by_cases hx:xs=[]
 ·subst hx
  refine(Tryz.strings_Join_none a cap ⟨([32]:List UInt8).toArray⟩ w).mono ?_
  rintro e w' ⟨rfl,rfl⟩
  exact⟨_, .imm (.str []),rfl,Below.refl _ _, .imm _ _ (.str _ _ rfl),rfl,rfl⟩
 ·have hne:txs xs≠[]:=by
   intro h;apply hx
   have:=congrArg List.length h
   rw [Aiw]at this
   exact List.eq_nil_of_length_eq_zero (by simpa using this)
  have ha:=q5 hne
  subst ha
  rw [Aiw]at q1 ⊢
  have cell:∀j,(hj:j<xs.length)→w.cell? ⟨b,o+j,none⟩=some (.string ⟨(xs[j]).toArray⟩):=by
   intro j hj
   have c1:=q7 j 0 (by rw [Aiw];exact hj) (by omega)
   have c2:=q8 j 0 (by rw [Aiw];exact hj) (by omega)
   have c3:=hs.imm _ _ _ c1
   have e:((txs xs).getD j []).getD 0 default= .str xs[j]:=by simp [List.getD_eq_getElem?_getD,hj]
   rw [e]at c2
   have e2:ws j 0= .string ⟨(xs[j]).toArray⟩:=by
    generalize ws j 0=z at c2
    cases c2 with |str s _ h=>
    have:s=⟨(xs[j]).toArray⟩:=by cases s;simp at h;simp [←h]
    rw [this]
   rw [show o+j=o+j*1+0 by omega,c3,e2]
  have hlt:b<w.heap.size:=by
   obtain⟨n,hn⟩:=List.exists_mem_of_ne_nil xs hx
   have h0:0<xs.length:=List.length_pos_of_mem hn
   have:=cell 0 h0
   rcases Nat.lt_or_ge b w.heap.size with h |h
   ·exact h
   ·simp [World.cell?,Array.getElem?_eq_none h]at this
  have em:(xs.map fun s=>(⟨s.toArray⟩:ByteArray)).map (fun x:ByteArray=>x.data.toList)=xs:=by
   rw [List.map_map,show((fun x:ByteArray=>x.data.toList) ∘ fun s:List UInt8=>(⟨s.toArray⟩:ByteArray))=id from by funext s;simp,List.map_id]
  have hj:=Tryz.strings_Join b o cap (xs.map fun s=>(⟨s.toArray⟩:ByteArray)) ⟨([32]:List UInt8).toArray⟩ w (fun j x hx=>by
   rw [List.getElem?_map]at hx
   by_cases hj:j<xs.length
   ·rw [List.getElem?_eq_getElem hj]at hx
    injection hx with hx
    rw [cell j hj, ←hx]
   ·rw [List.getElem?_eq_none (by omega)]at hx;cases hx) hlt (by rw [List.length_map];omega) (by rw [List.length_map];exact q1) (by
   rw [em]
   show(Bi xs).length≤_
   omega)
  rw [List.length_map,em]at hj
  refine hj.mono ?_
  rintro e w' ⟨rfl,hb⟩
  exact⟨_, .imm (.str (Bi xs)),rfl,hb, .imm _ _ (.str _ _ (by simp [Bi])),rfl,rfl⟩
theorem Ao1(xs:List (List UInt8))(hN:H6 xs≤100000000000):Call E0.P Vt [.imm (.sl .any 1 (txs xs))] [] (Is (.imm (.str (Bi xs))) []):=
 Avj _ _ (Call.use (Bml xs hN) ⟨⟨rfl,rfl⟩,⟨rfl,rfl⟩⟩)
def Rp(k:Int)(xs:List (List UInt8)):List UInt8:=if k=5 then [91]++Bi xs++[93]else if k=6 then [60,60]++Bi xs++[62,62]else if k=7 then Bi xs++[32,82]else Auy
theorem Bf5(k:Int)(xs:List (List UInt8))(hN:H6 xs≤100000000000):Call E0.P Ac8 [.imm (.int .i64 k), .imm (.sl .any 1 (txs xs))] [] (Is (.imm (.str (Rp k xs))) []):=by
 have hl:=Aep xs
 have w1:IntKind.i64.wrap ((0:Int)+1)=1:=by decide
 have w2:IntKind.i64.wrap ((1:Int)+1)=2:=by decide
 have w3:IntKind.i64.wrap ((2:Int)+1)=3:=by decide
 have last:Te k (txs xs) 5 [91] [93] 6 [60,60] [62,62] 7 [] [32,82] 3 (Sz (Is (.imm (.str Auy)) [])):=by
  refine Ov _ _ _ _ _ _ _ _ _ _ _ _ _ ⟨fun h=>absurd h (by decide),fun _=> ?_⟩
  exact Arf _ (Aos _ (Ard _ _ ⟨rfl,rfl⟩))
 refine Avi _ _ _ (Ov _ _ _ _ _ _ _ _ _ _ _ _ _ ⟨fun _=>⟨⟨by decide,rfl⟩, ?_⟩,fun h=>absurd h (by decide)⟩)
 show Br (decide ((5:Int)=k)) _ _
 refine Cc (fun e=> ?_) fun n5=> ?_
 ·subst e
  refine Call.use (Ao1 xs hN) ⟨⟨rfl,rfl⟩,⟨?_,⟨?_,U4 _ _ ⟨rfl,rfl⟩⟩⟩⟩
  ·show(((1+(Bi xs).length:Nat)):Int)≤_
   omega
  ·show(((([91]++Bi xs:List UInt8).length+1:Nat)):Int)≤_
   rw [List.length_append];simp only [List.length_cons,List.length_nil];omega
 rw [w1]
 refine Ov _ _ _ _ _ _ _ _ _ _ _ _ _ ⟨fun _=>⟨⟨by decide,rfl⟩, ?_⟩,fun h=>absurd h (by decide)⟩
 show Br (decide ((6:Int)=k)) _ _
 refine Cc (fun e=> ?_) fun n6=> ?_
 ·subst e
  refine Call.use (Ao1 xs hN) ⟨⟨rfl,rfl⟩,⟨?_,⟨?_,U4 _ _ ⟨rfl,rfl⟩⟩⟩⟩
  ·show(((2+(Bi xs).length:Nat)):Int)≤_
   omega
  ·show(((([60,60]++Bi xs:List UInt8).length+2:Nat)):Int)≤_
   rw [List.length_append];simp only [List.length_cons,List.length_nil];omega
 rw [w2]
 refine Ov _ _ _ _ _ _ _ _ _ _ _ _ _ ⟨fun _=>⟨⟨by decide,rfl⟩, ?_⟩,fun h=>absurd h (by decide)⟩
 show Br (decide ((7:Int)=k)) _ _
 refine Cc (fun e=> ?_) fun n7=> ?_
 ·subst e
  refine Call.use (Ao1 xs hN) ⟨⟨rfl,rfl⟩,⟨?_,⟨?_,U4 _ _ ⟨rfl,rfl⟩⟩⟩⟩
  ·show(((0+(Bi xs).length:Nat)):Int)≤_
   omega
  ·show(((([]++Bi xs:List UInt8).length+2:Nat)):Int)≤_
   rw [List.nil_append];omega
 rw [w3,Rp,if_neg (Ne.symm n5),if_neg (Ne.symm n6),if_neg (Ne.symm n7)]
 exact last
abbrev Aj1(v:V):Prop:=Call E0.P R7 [.imm (.agg v.row)] [] (Is (.imm (.str v.wr)) [])
theorem Bm2 {l:List V} {i:Nat} (h:i<l.length):Nh l i=l[i]:=by simp [Nh,List.getD_eq_getElem?_getD,h]
theorem Bld {l:List Pr} {i:Nat} (h:i<l.length):Bp l i=l[i]:=by simp [Bp,List.getD_eq_getElem?_getD,h]
theorem A4k {α β:Type} (f:α→β)(l:List α)(i:Nat)(h:i<l.length):(l.take (i+1)).map f=(l.take i).map f++[f l[i]]:=by
 have:l[i]?.toList=[l[i]]:=by simp [h]
 rw [List.take_add_one,this,List.map_append];rfl
abbrev Bdi(a b c:Int)(s:List UInt8)(p q:List (List IV)):Heap:=[(Nm.loc 1, .blk Aa [.imm (.int .i64 a), .imm (.int .i64 b), .imm (.int .i64 c), .imm (.str s), .imm (.sl .any 6 p), .imm (.sl .any 7 q)])]
theorem Bme(v:V)(hl:v.l.length≤1000000)(ih:∀x∈v.l,Aj1 x)(a b c:Int)(s:List UInt8)(p q:List (List IV))(K:Ex→St→Prop)
 (hE:K (.exit 1) ⟨[(1, .ptr (Nm.loc 1) 0),(3, .own (Nm.loc 3))],Bdi a b c s p q++[(Nm.loc 3, .arr (Qj+2) true 1 (txs (v.l.map V.wr)))]⟩):
 ∀(m i:Nat),m+i=v.l.length→Tf (Mo v.l) v.l.length i a b c s p q (txs ((v.l.take i).map V.wr)) K:=by
 intro m
 induction m with
 |zero=>
  intro i hi
  refine Adw _ _ _ _ _ _ _ _ _ _ _ (Cc (fun h=>by omega) fun _=> ?_)
  rw [List.take_of_length_le (by omega)]
  exact hE
 |succ m ihm=>
  intro i hi
  have hlt:i<v.l.length:=by omega
  refine Adw _ _ _ _ _ _ _ _ _ _ _ (Cc (fun _=> ?_) fun h=>by omega)
  rw [show(Mo v.l).getD (Int.toNat (i:Int)) []=(Nh v.l i).row from Abo _ _ hlt,Gm,Ig,Ni i (by omega),Bm2 hlt]
  refine⟨⟨⟨by omega,by omega⟩,Abp _ _ _⟩,Call.use (ih _ (List.getElem_mem hlt)) ⟨⟨rfl,rfl⟩,⟨?_, ?_⟩⟩⟩
  ·rw [Aiw,List.length_map,List.length_take];constructor<;>omega
  ·have:=ihm (i+1) (by omega)
   rw [A4k V.wr _ _ hlt,show txs ((v.l.take i).map V.wr++[v.l[i].wr])=txs ((v.l.take i).map V.wr)++[[.str v.l[i].wr]]by simp [txs]]at this
   exact this
theorem Bmd(v:V)(hl:v.d.length≤1000000)(hk:∀x∈v.d,x.1.length≤3000)(hz:∀x∈v.d,H6 [Cr x.1,x.2.wr]≤100000000000)(ih:∀x∈v.d,Aj1 x.2)(a b c:Int)(s:List UInt8)(p q:List (List IV))(K:Ex→St→Prop)
 (hE:K (.exit 3) ⟨[(1, .ptr (Nm.loc 1) 0),(3, .own (Nm.loc 3))],Bdi a b c s p q++[(Nm.loc 3, .arr (Qj+2) true 1 (txs (v.d.map fun x=>Bi [Cr x.1,x.2.wr])))]⟩):
 ∀(m i:Nat),m+i=v.d.length→Tg (Bh v.d) v.d.length i a b c s p q (txs ((v.d.take i).map fun x=>Bi [Cr x.1,x.2.wr])) K:=by
 intro m
 induction m with
 |zero=>
  intro i hi
  refine Adx _ _ _ _ _ _ _ _ _ _ _ (Cc (fun h=>by omega) fun _=> ?_)
  rw [List.take_of_length_le (by omega)]
  exact hE
 |succ m ihm=>
  intro i hi
  have hlt:i<v.d.length:=by omega
  have hm:=List.getElem_mem hlt
  have hk:=hk _ hm
  refine Adx _ _ _ _ _ _ _ _ _ _ _ (Cc (fun _=> ?_) fun h=>by omega)
  rw [show(Bh v.d).getD (Int.toNat (i:Int)) []=Bf (Bp v.d i) from Aew _ _ hlt,Qh,Bn1,A7,Ni i (by omega),Bld hlt]
  refine⟨⟨⟨by omega,by omega⟩,Dz _ _ _⟩,Call.use (As6 _ (by omega)) ⟨⟨rfl,rfl⟩,Call.use (ih _ hm) ⟨⟨rfl,rfl⟩,Call.use (Ao1 [Cr v.d[i].1,v.d[i].2.wr] (hz _ hm)) ⟨⟨rfl,rfl⟩,⟨?_, ?_⟩⟩⟩⟩⟩
  ·rw [Aiw,List.length_map,List.length_take];constructor<;>omega
  ·have:=ihm (i+1) (by omega)
   rw [A4k (fun x:Pr=>Bi [Cr x.1,x.2.wr]) _ _ hlt,show txs ((v.d.take i).map (fun x:Pr=>Bi [Cr x.1,x.2.wr])++[Bi [Cr v.d[i].1,v.d[i].2.wr]])=txs ((v.d.take i).map fun x:Pr=>Bi [Cr x.1,x.2.wr])++[[.str (Bi [Cr v.d[i].1,v.d[i].2.wr])]]by simp [txs]]at this
   exact this
theorem Bfz(v:V)(h1:v.k≠1)(h2:v.k≠2)(h3:v.k≠3)(h4:v.k≠4):v.wr=if v.k=5 then Rp v.k (v.l.map V.wr)else if v.k=6 then Rp v.k (v.d.map fun x=>Bi [Cr x.1,x.2.wr])else if v.k=7 then Rp v.k [Lib.itoa v.n,Lib.itoa v.g]else Rp v.k []:=by
 rw [V3,mkW,if_neg h1,if_neg h2,if_neg h3,if_neg h4]
 by_cases h5:v.k=5
 ·rw [if_pos h5,if_pos h5,Rp,if_pos h5]
 rw [if_neg h5,if_neg h5]
 by_cases h6:v.k=6
 ·rw [if_pos h6,if_pos h6,Rp,if_neg h5,if_pos h6,List.map_map];rfl
 rw [if_neg h6,if_neg h6]
 by_cases h7:v.k=7
 ·rw [if_pos h7,if_pos h7,Rp,if_neg h5,if_neg h6,if_pos h7]
 rw [if_neg h7,if_neg h7,Rp,if_neg h5,if_neg h6,if_neg h7]
theorem Bj4(n:Int):Call E0.P Ag1 [.imm (.int .i64 n)] [] (Is (.imm (.str (if n=1 then A02 else At3))) []):=
 Ay8 _ _ (Cc (fun h=>by rw [if_pos h];exact⟨rfl,rfl⟩) fun h=>by rw [if_neg h];exact⟨rfl,rfl⟩)
theorem Bgd(v:V)(h:SmW v):Aj1 v:=by
 induction h with
 |mk v b1 b2 b3 b4 b5 b6 b7 b8 b9 b10 ih1 ih2=>
  have hz:∀x∈v.d,H6 [Cr x.1,x.2.wr]≤100000000000:=by
   intro x hx
   have:=Bim _ _ (List.mem_map.2 ⟨x,hx,rfl⟩:Bi [Cr x.1,x.2.wr]∈v.d.map fun p=>Bi [Cr p.1,p.2.wr])
   rw [Atp]at this
   simp [H6];omega
  have i1:=Wv v.n b1.1 b1.2
  have i2:=Wv v.g b2.1 b2.2
  have cut:∀(xs:List (List UInt8)) (Q:AV→Heap→Prop),H6 xs≤100000000000→Q (.imm (.str (Rp v.k xs))) []→Ku (txs xs) v.k v.n v.g v.s (v.l.map V.row) (v.d.map Bf) (D6 Q):=by
   intro xs Q hx hq
   exact Aqx _ _ _ _ _ _ _ _ (Call.use (Bf5 v.k xs hx) ⟨⟨rfl,rfl⟩,Asz _ _ hq⟩)
  rw [Aj1,Co]
  refine Awx _ _ _ _ _ _ _ (Cc (fun h=> ?_) fun h1=>Cc (fun h=> ?_) fun h2=>Cc (fun h=> ?_) fun h3=>Cc (fun h=> ?_) fun h4=> ?_)
  ·refine Call.use (Bj4 _) ⟨⟨rfl,rfl⟩, ?_⟩
   rw [V3,mkW,if_pos h];exact⟨rfl,rfl⟩
  ·refine Call.use (Acj _ b1.1 b1.2) ⟨⟨rfl,rfl⟩, ?_⟩
   rw [V3,mkW,if_neg h1,if_pos h];exact⟨rfl,rfl⟩
  ·refine Call.use (As6 _ (by omega)) ⟨⟨rfl,rfl⟩, ?_⟩
   rw [V3,mkW,if_neg h1,if_neg h2,if_pos h];exact⟨rfl,rfl⟩
  ·refine Call.use (A4u _ (by omega)) ⟨⟨rfl,rfl⟩, ?_⟩
   rw [V3,mkW,if_neg h1,if_neg h2,if_neg h3,if_pos h];exact⟨rfl,rfl⟩
  ·rw [Bfz v h1 h2 h3 h4]
   refine Cc (fun h=> ?_) fun h5=>Cc (fun h=> ?_) fun h6=>Cc (fun h=> ?_) fun h7=> ?_
   ·rw [if_pos h,List.length_map]
    exact Bme v b4 ih1 _ _ _ _ _ _ _ (As0 _ _ _ _ _ _ _ _ (cut _ _ (by omega) ⟨rfl,rfl⟩)) v.l.length 0 rfl
   ·rw [if_neg h5,if_pos h,List.length_map]
    exact Bmd v b5 b8 hz ih2 _ _ _ _ _ _ _ (As1 _ _ _ _ _ _ _ _ (cut _ _ (by omega) ⟨rfl,rfl⟩)) v.d.length 0 rfl
   ·rw [if_neg h5,if_neg h6,if_pos h]
    refine Call.use (Acj _ b1.1 b1.2) ⟨⟨rfl,rfl⟩,Call.use (Acj _ b2.1 b2.2) ⟨⟨rfl,rfl⟩, ?_⟩⟩
    exact cut [Lib.itoa v.n,Lib.itoa v.g] _ (by simp [H6];omega) ⟨rfl,rfl⟩
   ·rw [if_neg h5,if_neg h6,if_neg h7]
    exact cut [] _ (by simp [H6]) ⟨rfl,rfl⟩
end Go.Proofs.Sim.Se
set_option maxRecDepth 100000
namespace Go.Proofs.Sim.Se
open Go Go.Proofs Go.Proofs.Sim Go.Proofs.Sim.Va Go.Proofs.Sim.St Go.RowKit
def Bby(t:List UInt8 × Int):AV:= .tup [.imm (.str t.1), .imm (.int .i64 t.2)]
theorem tx0(t:List UInt8 × Int):rS (rT (Bby t) 0)=t.1:=rfl
theorem tx1(t:List UInt8 × Int):rI (rT (Bby t) 1)=t.2:=rfl
theorem A6j(v:V)(hs:Scal v)(hc:Ch v≤1000):Call E0.P Ag0 [.imm (.agg v.row)] [] (Is (Bby (Aaf v)) []):=by
 have hf:=Ant 1000 (by omega) _ v (Nat.le_refl _) hc
 obtain⟨p1,p2⟩:=Bch hs
 have h1:=A94 v hf false
 have h2:K3 v:=At9 v hf
 have h3:Aj1 v.plain:=Bgd _ (Bie p1 (by omega))
 rw [K3]at h2
 rw [Co]at h1 h2 ⊢
 refine Ay6 _ _ _ _ _ _ _ (Call.use h1 ⟨⟨rfl,rfl⟩, ?_⟩)
 rw [Hm,Aaf]
 refine⟨fun h=> ?_,fun h=> ?_⟩
 ·rw [if_pos (ndT h)];exact⟨rfl,rfl⟩
 ·rw [if_neg (by simpa using ndF h)]
  refine Call.use h2 ⟨⟨rfl, ?_⟩, ?_⟩
  ·rw [Amo,Gm]
  rw [Amo,Gm]
  exact Call.use h3 ⟨⟨rfl,rfl⟩,⟨rfl,rfl⟩⟩
end Go.Proofs.Sim.Se

import Derived.Test.YtcdjheflchglaaaDoorWrA
namespace Go.Proofs.Sim.Se
open Go Go.Proofs Go.Proofs.Sim Go.Proofs.Sim.Va Go.Proofs.Sim.St Go.RowKit
def Lu(l:List (List UInt8)):Nat:=(l.map fun t=>t.length+1).sum
theorem Akc(x:List UInt8)(r:List (List UInt8)):Bf (x::r)=x++(r.map fun t=>32::t).flatten:=by
 rw [Bf,Lib.join_cons];rfl
theorem Acz(l:List (List UInt8)):(Bf l).length≤Lu l:=by
 cases l with
 |nil=>simp [Bf,Lib.join_nil]
 |cons x r=>
  rw [Akc,Lu,List.length_append,List.map_cons,List.sum_cons]
  have:((r.map fun t=>(32:UInt8)::t).flatten).length=(r.map fun t=>t.length+1).sum:=by
   induction r with
   |nil=>rfl
   |cons y r ih=>rw [List.map_cons,List.flatten_cons,List.length_append,ih,List.map_cons,List.sum_cons];simp
  omega
theorem Axu(l:List (List UInt8))(x:List UInt8)(h:x∈l):x.length+1≤Lu l:=Acb (fun t:List UInt8=>t.length+1) l x h
theorem Axt(l:List (List UInt8)):l.length≤Lu l:=Aca (fun t:List UInt8=>t.length+1) l fun _ _=>by omega
inductive SmW:V→Prop where
 |mk (v:V):I64 v.n→I64 v.g→v.s.length≤3000→v.l.length≤1000000→v.d.length≤1000000→Lu (v.l.map V.wr)≤10000000000→Lu (v.d.map fun p=>Bf [Cg p.1,p.2.wr])≤10000000000→(∀p∈v.d,p.1.length≤3000)→
  (∀x∈v.l,SmW x)→(∀p∈v.d,SmW p.2)→SmW v
inductive Scal:V→Prop where
 |mk (v:V):I64 v.n→I64 v.g→v.s.length≤3000→(∀x∈v.l,Scal x)→(∀p∈v.d,p.1.length≤3000)→(∀p∈v.d,Scal p.2)→Scal v
theorem Ar0 {v:V} (hw:Wf v):Mh 3000 v→Scal v:=by
 induction hw with
 |mk v a1 a2 a3 a4 a5 a6 a7 a8 a9 ih1 ih2=>
  intro hs
  cases hs with
  |mk _ b1 b2 b3 b4=>exact .mk v a2 a3 (by omega) (fun x hx=>ih1 x hx (b2 x hx)) (fun p hp=>by have:=b3 p hp;omega) (fun p hp=>ih2 p hp (b4 p hp))
theorem Ap1(s:List UInt8):(Cg s).length≤3*s.length+1:=by
 have:=Aj9 Ia 3 Af6 s
 rw [Cg,List.length_cons];omega
theorem Avu(s:List UInt8):(Ny s).length≤2*s.length+2:=by
 have h1:=Aj9 Jj 2 Air s
 have h2:=Aru s
 unfold Ny
 split
 ·rw [List.cons_append,List.length_cons,List.length_append];simp only [List.length_cons,List.length_nil];omega
 ·rw [List.length_cons];omega
theorem Akv {α:Type} (f g:α→Nat)(l:List α)(h:∀x∈l,f x≤g x):(l.map f).sum≤(l.map g).sum:=by
 induction l with
 |nil=>simp
 |cons x l ih=>
  have:=ih fun y hy=>h y (by simp [hy])
  have:=h x (by simp)
  simp;omega
theorem Ar1 {α:Type} (c:Nat)(f:α→Nat)(l:List α):(l.map fun x=>c*f x).sum=c*(l.map f).sum:=by
 induction l with
 |nil=>simp
 |cons x l ih=>simp only [List.map_cons,List.sum_cons,ih,Nat.mul_add]
theorem Af2(a b:List UInt8):(Bf [a,b]).length=a.length+b.length+1:=by rw [Akc];simp;omega
theorem Av3 {v:V} (h:Scal v):v.wr.length+9100≤20000*Ch v∧Lu (v.l.map V.wr)≤20000*Ch v∧Lu (v.d.map fun p=>Bf [Cg p.1,p.2.wr])≤20000*Ch v:=by
 induction h with
 |mk v a2 a3 a4 a7 a8 a9 ih1 ih2=>
  have hl:Lu (v.l.map V.wr)≤20000*(v.l.map Ch).sum:=by
   rw [Lu,List.map_map, ←Ar1]
   exact Akv _ _ _ fun x hx=>by have:=(ih1 x hx).1;simp only [Function.comp_apply];omega
  have hd:Lu (v.d.map fun p=>Bf [Cg p.1,p.2.wr])≤20000*(v.d.map fun p=>Ch p.2).sum:=by
   rw [Lu,List.map_map, ←Ar1]
   exact Akv _ _ _ fun p hp=>by
    have:=(ih2 p hp).1
    have h1:=Ap1 p.1
    have h2:=a8 p hp
    simp only [Function.comp_apply,Af2]
    omega
  have hc:=Mk v
  refine⟨?_,by omega,by omega⟩
  rw [Jh]
  have j1:=Acz (v.l.map V.wr)
  have j2:=Acz (v.d.map fun p=>Bf [Cg p.1,p.2.wr])
  have n1:=Ap1 v.s
  have n2:=Avu v.s
  have i1:=Acy v.n a2.1 a2.2
  have i2:=Acy v.g a3.1 a3.2
  have e:(v.d.map fun p=>(p.1,p.2.wr)).map (fun p=>Bf [Cg p.1,p.2])=v.d.map fun p=>Bf [Cg p.1,p.2.wr]:=by rw [List.map_map];rfl
  unfold mkW
  split
  ·split<;>simp [Akw,Aga]<;>omega
  split
  ·omega
  split
  ·omega
  split
  ·omega
  split
  ·simp only [List.length_append,List.length_cons,List.length_nil];omega
  split
  ·rw [e];simp only [List.length_append,List.length_cons,List.length_nil];omega
  split
  ·simp only [List.length_append,List.length_cons,List.length_nil,Af2];omega
  ·simp [Ag1];omega
theorem Axo {v:V} (h:Scal v):Ch v≤100000→SmW v:=by
 induction h with
 |mk v a2 a3 a4 a7 a8 a9 ih1 ih2=>
  intro hc
  have h0:=Av3 (Scal.mk v a2 a3 a4 a7 a8 a9)
  have he:=Mk v
  have l1:=Aca Ch v.l fun x _=>Abq x
  have l2:=Aca (fun p:Pr=>Ch p.2) v.d fun p _=>Abq p.2
  refine .mk v a2 a3 a4 (by omega) (by omega) (by omega) (by omega) a8 (fun x hx=>ih1 x hx ?_) fun p hp=>ih2 p hp ?_
  ·have:=Acb Ch v.l x hx;omega
  ·have:=Acb (fun p:Pr=>Ch p.2) v.d p hp;omega
theorem Az6(f:Pr→Nat)(x:Pr)(l:List Pr):((ins bl pk x l).map f).sum=f x+(l.map f).sum:=by
 induction l with
 |nil=>simp [ins]
 |cons y r ih=>
  rw [ins]
  split
  ·rw [List.map_cons,List.sum_cons,ih,List.map_cons,List.sum_cons];omega
  ·simp
theorem Az8(f:Pr→Nat)(l:List Pr):((Bo l).map f).sum=(l.map f).sum:=by
 induction l with
 |nil=>simp [Bo,Z6]
 |cons x l ih=>rw [show Bo (x::l)=ins bl pk x (Bo l) from rfl,Az6,ih];simp
theorem Az9(f:Pr→Nat) {a b:List Pr} (h:a.Sublist b):(a.map f).sum≤(b.map f).sum:=by
 induction h with
 |slnil=>simp
 |cons x h ih=>simp;omega
 |cons_cons x h ih=>simp;omega
theorem Az7(f:Pr→Nat)(d:List Pr):(((uniq d).filter Qk).map f).sum≤(d.map f).sum:=by
 rw [←Az8 f d]
 exact Az9 f ((List.filter_sublist).trans (Wm _))
theorem Adc {v:V} (h:Scal v):Scal v.plain∧Ch v.plain≤Ch v:=by
 have z:I64 0:=⟨by decide,by decide⟩
 have n0:∀(P:V→Prop),∀x∈([]:List V),P x:=fun P x hx=>by cases hx
 have n1:∀(P:Pr→Prop),∀x∈([]:List Pr),P x:=fun P x hx=>by cases hx
 have leaf:∀(k n g:Int) (s:List UInt8),I64 n→I64 g→s.length≤3000→Scal (.mk k n g s [] [])∧Ch (.mk k n g s [] [])=1:=by
  intro k n g s h1 h2 h3
  refine⟨.mk _ h1 h2 h3 (n0 _) (n1 _) (n1 _), ?_⟩
  rw [Mk];simp [V.l,V.d]
 induction h with
 |mk v a2 a3 a4 a7 a8 a9 ih1 ih2=>
  have hp:=Abq v
  have he:=Mk v
  rw [Dx]
  have hdm:∀p∈(uniq (J2 v.d)).filter Qk,∃q∈v.d,p=(q.1,q.2.plain):=by
   intro p hp
   have:=Ai9 (List.mem_filter.1 hp).1
   rw [J2,List.mem_map]at this
   obtain⟨q,h1,h2⟩:=this
   exact⟨q,h1,h2.symm⟩
  have hsd:(((uniq (J2 v.d)).filter Qk).map fun p:Pr=>Ch p.2).sum≤(v.d.map fun p:Pr=>Ch p.2).sum:=by
   refine Nat.le_trans (Az7 _ _) ?_
   rw [J2,List.map_map]
   exact Akv _ _ _ fun p hp=>(ih2 p hp).2
  have dd:∀(k:Int) (s:List UInt8),s.length≤3000→Scal (.mk k 0 0 s [] ((uniq (J2 v.d)).filter Qk))∧Ch (.mk k 0 0 s [] ((uniq (J2 v.d)).filter Qk))≤Ch v:=by
   intro k s hs
   refine⟨.mk _ z z hs (n0 _) (fun p hp=> ?_) (fun p hp=> ?_), ?_⟩
   ·obtain⟨q,h1,rfl⟩:=hdm p hp
    exact a8 q h1
   ·obtain⟨q,h1,rfl⟩:=hdm p hp
    exact(ih2 q h1).1
   ·rw [Mk]
    show 1+(([]:List V).map Ch).sum+_≤_
    simp only [List.map_nil,List.sum_nil]
    show 1+0+(((uniq (J2 v.d)).filter Qk).map fun p:Pr=>Ch p.2).sum≤_
    omega
  unfold Qj
  split
  ·have:=leaf v.k v.n 0 [] a2 z (by simp);exact⟨this.1,by omega⟩
  split
  ·have:=leaf v.k 0 0 v.s z z a4;exact⟨this.1,by omega⟩
  split
  ·refine⟨.mk _ z z (by simp [V.s]) (fun x hx=> ?_) (n1 _) (n1 _), ?_⟩
   ·obtain⟨y,h1,rfl⟩:=List.mem_map.1 hx
    exact(ih1 y h1).1
   ·rw [Mk]
    show 1+((v.l.map V.plain).map Ch).sum+0≤_
    have:((v.l.map V.plain).map Ch).sum≤(v.l.map Ch).sum:=by
     rw [List.map_map];exact Akv _ _ _ fun x hx=>(ih1 x hx).2
    omega
  split
  ·exact dd _ _ (by simp)
  split
  ·have:=leaf v.k v.n v.g [] a2 a3 (by simp);exact⟨this.1,by omega⟩
  split
  ·exact dd _ _ a4
  ·have:=leaf 0 0 0 [] z z (by simp);exact⟨this.1,by show Ch zero≤_;rw [show Ch zero=1 from this.2];exact hp⟩
end Go.Proofs.Sim.Se
set_option maxRecDepth 100000
namespace Go.Proofs.Sim.Se
open Go Go.Proofs Go.Proofs.Sim Go.Proofs.Sim.Va Go.RowKit
theorem Aqc(s:List UInt8):rS (.imm (.str s))=s:=rfl
abbrev U7(l:List (List UInt8)):List (List IV):=l.map fun s=>[.str s]
theorem Y5(l:List (List UInt8)):(U7 l).length=l.length:=List.length_map ..
theorem A0s(xs:List (List UInt8))(hN:Lu xs≤100000000000):Call E0.P Aat [.imm (.sl .any 1 (U7 xs)), .imm (.str [32])] [] (Is (.imm (.str (Bf xs))) []):=by
 have h1:=Acz xs
 have h2:=Axt xs
 refine Sd Tryd.func111 (by kernel_rfl) (by kernel_rfl) [.sl .any 1 (U7 xs), .str [32]] _ fun g w vs hv hs=> ?_
 obtain⟨v,u,rfl,hr,hu⟩:=Ayn hv
 obtain rfl:=Aqg hu
 cases hr with |sl a cap _ _ _ b o ws q1 q2 q3 q4 q5 q6 q7 q8 q9=>
 by_cases hx:xs=[]
 ·subst hx
  refine(Tryd.strings_Join_none a cap ⟨([32]:List UInt8).toArray⟩ w).mono ?_
  rintro e w' ⟨rfl,rfl⟩
  exact⟨_, .imm (.str []),rfl,Below.refl _ _, .imm _ _ (.str _ _ rfl),rfl,rfl⟩
 ·have hne:U7 xs≠[]:=by
   intro h;apply hx
   have:=congrArg List.length h
   rw [Y5]at this
   exact List.eq_nil_of_length_eq_zero (by simpa using this)
  have ha:=q5 hne
  subst ha
  rw [Y5]at q1 ⊢
  have cell:∀j,(hj:j<xs.length)→w.cell? ⟨b,o+j,none⟩=some (.string ⟨(xs[j]).toArray⟩):=by
   intro j hj
   have c1:=q7 j 0 (by rw [Y5];exact hj) (by omega)
   have c2:=q8 j 0 (by rw [Y5];exact hj) (by omega)
   have c3:=hs.imm _ _ _ c1
   have e:((U7 xs).getD j []).getD 0 default= .str xs[j]:=by simp [List.getD_eq_getElem?_getD,hj]
   rw [e]at c2
   have e2:ws j 0= .string ⟨(xs[j]).toArray⟩:=by
    generalize ws j 0=z at c2
    cases c2 with |str s _ h=>
    have:s=⟨(xs[j]).toArray⟩:=by cases s;simp at h;simp [←h]
    rw [this]
   rw [show o+j=o+j*1+0 by omega,c3,e2]
  have hlt:b<w.heap.size:=by
   obtain⟨n,hn⟩:=List.exists_mem_of_ne_nil xs hx
   have h0:0<xs.length:=List.length_pos_of_mem hn
   have:=cell 0 h0
   rcases Nat.lt_or_ge b w.heap.size with h |h
   ·exact h
   ·simp [World.cell?,Array.getElem?_eq_none h]at this
  have em:(xs.map fun s=>(⟨s.toArray⟩:ByteArray)).map (fun x:ByteArray=>x.data.toList)=xs:=by
   rw [List.map_map,show((fun x:ByteArray=>x.data.toList) ∘ fun s:List UInt8=>(⟨s.toArray⟩:ByteArray))=id from by funext s;simp,List.map_id]
  have hj:=Tryd.strings_Join b o cap (xs.map fun s=>(⟨s.toArray⟩:ByteArray)) ⟨([32]:List UInt8).toArray⟩ w (fun j x hx=>by
   rw [List.getElem?_map]at hx
   by_cases hj:j<xs.length
   ·rw [List.getElem?_eq_getElem hj]at hx
    injection hx with hx
    rw [cell j hj, ←hx]
   ·rw [List.getElem?_eq_none (by omega)]at hx;cases hx) hlt (by rw [List.length_map];omega) (by rw [List.length_map];exact q1) (by
   rw [em]
   show(Bf xs).length≤_
   omega)
  rw [List.length_map,em]at hj
  refine hj.mono ?_
  rintro e w' ⟨rfl,hb⟩
  exact⟨_, .imm (.str (Bf xs)),rfl,hb, .imm _ _ (.str _ _ (by simp [Bf])),rfl,rfl⟩
theorem Acf(xs:List (List UInt8))(hN:Lu xs≤100000000000):Call E0.P O4 [.imm (.sl .any 1 (U7 xs))] [] (Is (.imm (.str (Bf xs))) []):=
 Ahb _ _ (Call.use (A0s xs hN) ⟨⟨rfl,rfl⟩,⟨rfl,rfl⟩⟩)
def Mi(k:Int)(xs:List (List UInt8)):List UInt8:=if k=5 then [91]++Bf xs++[93]else if k=6 then [60,60]++Bf xs++[62,62]else if k=7 then Bf xs++[32,82]else Ag1
theorem Av8(k:Int)(xs:List (List UInt8))(hN:Lu xs≤100000000000):Call E0.P Uw [.imm (.int .i64 k), .imm (.sl .any 1 (U7 xs))] [] (Is (.imm (.str (Mi k xs))) []):=by
 have hl:=Acz xs
 have w1:IntKind.i64.wrap ((0:Int)+1)=1:=by decide
 have w2:IntKind.i64.wrap ((1:Int)+1)=2:=by decide
 have w3:IntKind.i64.wrap ((2:Int)+1)=3:=by decide
 have last:Nn k (U7 xs) 5 [91] [93] 6 [60,60] [62,62] 7 [] [32,82] 3 (Nj (Is (.imm (.str Ag1)) [])):=by
  refine Kn _ _ _ _ _ _ _ _ _ _ _ _ _ ⟨fun h=>absurd h (by decide),fun _=> ?_⟩
  exact Aec _ (Acd _ (Aeb _ _ ⟨rfl,rfl⟩))
 refine Aha _ _ _ (Kn _ _ _ _ _ _ _ _ _ _ _ _ _ ⟨fun _=>⟨⟨by decide,rfl⟩, ?_⟩,fun h=>absurd h (by decide)⟩)
 show Br (decide ((5:Int)=k)) _ _
 refine F3 (fun e=> ?_) fun n5=> ?_
 ·subst e
  refine Call.use (Acf xs hN) ⟨⟨rfl,rfl⟩,⟨?_,⟨?_,Oo _ _ ⟨rfl,rfl⟩⟩⟩⟩
  ·show(((1+(Bf xs).length:Nat)):Int)≤_
   omega
  ·show(((([91]++Bf xs:List UInt8).length+1:Nat)):Int)≤_
   rw [List.length_append];simp only [List.length_cons,List.length_nil];omega
 rw [w1]
 refine Kn _ _ _ _ _ _ _ _ _ _ _ _ _ ⟨fun _=>⟨⟨by decide,rfl⟩, ?_⟩,fun h=>absurd h (by decide)⟩
 show Br (decide ((6:Int)=k)) _ _
 refine F3 (fun e=> ?_) fun n6=> ?_
 ·subst e
  refine Call.use (Acf xs hN) ⟨⟨rfl,rfl⟩,⟨?_,⟨?_,Oo _ _ ⟨rfl,rfl⟩⟩⟩⟩
  ·show(((2+(Bf xs).length:Nat)):Int)≤_
   omega
  ·show(((([60,60]++Bf xs:List UInt8).length+2:Nat)):Int)≤_
   rw [List.length_append];simp only [List.length_cons,List.length_nil];omega
 rw [w2]
 refine Kn _ _ _ _ _ _ _ _ _ _ _ _ _ ⟨fun _=>⟨⟨by decide,rfl⟩, ?_⟩,fun h=>absurd h (by decide)⟩
 show Br (decide ((7:Int)=k)) _ _
 refine F3 (fun e=> ?_) fun n7=> ?_
 ·subst e
  refine Call.use (Acf xs hN) ⟨⟨rfl,rfl⟩,⟨?_,⟨?_,Oo _ _ ⟨rfl,rfl⟩⟩⟩⟩
  ·show(((0+(Bf xs).length:Nat)):Int)≤_
   omega
  ·show(((([]++Bf xs:List UInt8).length+2:Nat)):Int)≤_
   rw [List.nil_append];omega
 rw [w3,Mi,if_neg (Ne.symm n5),if_neg (Ne.symm n6),if_neg (Ne.symm n7)]
 exact last
abbrev Zm(v:V):Prop:=Call E0.P Ms [.imm (.agg v.row)] [] (Is (.imm (.str v.wr)) [])
theorem A03 {l:List V} {i:Nat} (h:i<l.length):J3 l i=l[i]:=by simp [J3,List.getD_eq_getElem?_getD,h]
theorem Azz {l:List Pr} {i:Nat} (h:i<l.length):Bl l i=l[i]:=by simp [Bl,List.getD_eq_getElem?_getD,h]
theorem Ang {α β:Type} (f:α→β)(l:List α)(i:Nat)(h:i<l.length):(l.take (i+1)).map f=(l.take i).map f++[f l[i]]:=by
 have:l[i]?.toList=[l[i]]:=by simp [h]
 rw [List.take_add_one,this,List.map_append];rfl
abbrev At7(a b c:Int)(s:List UInt8)(p q:List (List IV)):Heap:=[(Nm.loc 1, .blk Ac [.imm (.int .i64 a), .imm (.int .i64 b), .imm (.int .i64 c), .imm (.str s), .imm (.sl .any 6 p), .imm (.sl .any 7 q)])]
theorem A0n(v:V)(hl:v.l.length≤1000000)(ih:∀x∈v.l,Zm x)(a b c:Int)(s:List UInt8)(p q:List (List IV))(K:Ex→St→Prop)
 (hE:K (.exit 1) ⟨[(1, .ptr (Nm.loc 1) 0),(3, .own (Nm.loc 3))],At7 a b c s p q++[(Nm.loc 3, .arr (M8+2) true 1 (U7 (v.l.map V.wr)))]⟩):
 ∀(m i:Nat),m+i=v.l.length→Np (Jg v.l) v.l.length i a b c s p q (U7 ((v.l.take i).map V.wr)) K:=by
 intro m
 induction m with
 |zero=>
  intro i hi
  refine Vh _ _ _ _ _ _ _ _ _ _ _ (F3 (fun h=>by omega) fun _=> ?_)
  rw [List.take_of_length_le (by omega)]
  exact hE
 |succ m ihm=>
  intro i hi
  have hlt:i<v.l.length:=by omega
  refine Vh _ _ _ _ _ _ _ _ _ _ _ (F3 (fun _=> ?_) fun h=>by omega)
  rw [show(Jg v.l).getD (Int.toNat (i:Int)) []=(J3 v.l i).row from Ta _ _ hlt,Du,Ey,wr1 i (by omega),A03 hlt]
  refine⟨⟨⟨by omega,by omega⟩,Tc _ _ _⟩,Call.use (ih _ (List.getElem_mem hlt)) ⟨⟨rfl,rfl⟩,⟨?_, ?_⟩⟩⟩
  ·rw [Y5,List.length_map,List.length_take];constructor<;>omega
  ·have:=ihm (i+1) (by omega)
   rw [Ang V.wr _ _ hlt,show U7 ((v.l.take i).map V.wr++[v.l[i].wr])=U7 ((v.l.take i).map V.wr)++[[.str v.l[i].wr]]by simp [U7]]at this
   exact this
theorem A0m(v:V)(hl:v.d.length≤1000000)(hk:∀x∈v.d,x.1.length≤3000)(hz:∀x∈v.d,Lu [Cg x.1,x.2.wr]≤100000000000)(ih:∀x∈v.d,Zm x.2)(a b c:Int)(s:List UInt8)(p q:List (List IV))(K:Ex→St→Prop)
 (hE:K (.exit 3) ⟨[(1, .ptr (Nm.loc 1) 0),(3, .own (Nm.loc 3))],At7 a b c s p q++[(Nm.loc 3, .arr (M8+2) true 1 (U7 (v.d.map fun x=>Bf [Cg x.1,x.2.wr])))]⟩):
 ∀(m i:Nat),m+i=v.d.length→Nq (Bc v.d) v.d.length i a b c s p q (U7 ((v.d.take i).map fun x=>Bf [Cg x.1,x.2.wr])) K:=by
 intro m
 induction m with
 |zero=>
  intro i hi
  refine Vi _ _ _ _ _ _ _ _ _ _ _ (F3 (fun h=>by omega) fun _=> ?_)
  rw [List.take_of_length_le (by omega)]
  exact hE
 |succ m ihm=>
  intro i hi
  have hlt:i<v.d.length:=by omega
  have hm:=List.getElem_mem hlt
  have hk:=hk _ hm
  refine Vi _ _ _ _ _ _ _ _ _ _ _ (F3 (fun _=> ?_) fun h=>by omega)
  rw [show(Bc v.d).getD (Int.toNat (i:Int)) []=Bw (Bl v.d i) from V9 _ _ hlt,Sz,A1o,Ap,wr1 i (by omega),Azz hlt]
  refine⟨⟨⟨by omega,by omega⟩,Dt _ _ _⟩,Call.use (Zl _ (by omega)) ⟨⟨rfl,rfl⟩,Call.use (ih _ hm) ⟨⟨rfl,rfl⟩,Call.use (Acf [Cg v.d[i].1,v.d[i].2.wr] (hz _ hm)) ⟨⟨rfl,rfl⟩,⟨?_, ?_⟩⟩⟩⟩⟩
  ·rw [Y5,List.length_map,List.length_take];constructor<;>omega
  ·have:=ihm (i+1) (by omega)
   rw [Ang (fun x:Pr=>Bf [Cg x.1,x.2.wr]) _ _ hlt,show U7 ((v.d.take i).map (fun x:Pr=>Bf [Cg x.1,x.2.wr])++[Bf [Cg v.d[i].1,v.d[i].2.wr]])=U7 ((v.d.take i).map fun x:Pr=>Bf [Cg x.1,x.2.wr])++[[.str (Bf [Cg v.d[i].1,v.d[i].2.wr])]]by simp [U7]]at this
   exact this
theorem Av2(v:V)(h1:v.k≠1)(h2:v.k≠2)(h3:v.k≠3)(h4:v.k≠4):v.wr=if v.k=5 then Mi v.k (v.l.map V.wr)else if v.k=6 then Mi v.k (v.d.map fun x=>Bf [Cg x.1,x.2.wr])else if v.k=7 then Mi v.k [Lib.itoa v.n,Lib.itoa v.g]else Mi v.k []:=by
 rw [Jh,mkW,if_neg h1,if_neg h2,if_neg h3,if_neg h4]
 by_cases h5:v.k=5
 ·rw [if_pos h5,if_pos h5,Mi,if_pos h5]
 rw [if_neg h5,if_neg h5]
 by_cases h6:v.k=6
 ·rw [if_pos h6,if_pos h6,Mi,if_neg h5,if_pos h6,List.map_map];rfl
 rw [if_neg h6,if_neg h6]
 by_cases h7:v.k=7
 ·rw [if_pos h7,if_pos h7,Mi,if_neg h5,if_neg h6,if_pos h7]
 rw [if_neg h7,if_neg h7,Mi,if_neg h5,if_neg h6,if_neg h7]
theorem A0x(n:Int):Call E0.P Xy [.imm (.int .i64 n)] [] (Is (.imm (.str (if n=1 then Akw else Aga))) []):=
 Ajl _ _ (F3 (fun h=>by rw [if_pos h];exact⟨rfl,rfl⟩) fun h=>by rw [if_neg h];exact⟨rfl,rfl⟩)
theorem Awb(v:V)(h:SmW v):Zm v:=by
 induction h with
 |mk v b1 b2 b3 b4 b5 b6 b7 b8 b9 b10 ih1 ih2=>
  have hz:∀x∈v.d,Lu [Cg x.1,x.2.wr]≤100000000000:=by
   intro x hx
   have:=Axu _ _ (List.mem_map.2 ⟨x,hx,rfl⟩:Bf [Cg x.1,x.2.wr]∈v.d.map fun p=>Bf [Cg p.1,p.2.wr])
   rw [Af2]at this
   simp [Lu];omega
  have i1:=Acy v.n b1.1 b1.2
  have i2:=Acy v.g b2.1 b2.2
  have cut:∀(xs:List (List UInt8)) (Q:AV→Heap→Prop),Lu xs≤100000000000→Q (.imm (.str (Mi v.k xs))) []→Ie (U7 xs) v.k v.n v.g v.s (v.l.map V.row) (v.d.map Bw) (Dc Q):=by
   intro xs Q hx hq
   exact Ad7 _ _ _ _ _ _ _ _ (Call.use (Av8 v.k xs hx) ⟨⟨rfl,rfl⟩,Afg _ _ hq⟩)
  rw [Zm,Cj]
  refine Ah8 _ _ _ _ _ _ _ (F3 (fun h=> ?_) fun h1=>F3 (fun h=> ?_) fun h2=>F3 (fun h=> ?_) fun h3=>F3 (fun h=> ?_) fun h4=> ?_)
  ·refine Call.use (A0x _) ⟨⟨rfl,rfl⟩, ?_⟩
   rw [Jh,mkW,if_pos h];exact⟨rfl,rfl⟩
  ·refine Call.use (Zk _ b1.1 b1.2) ⟨⟨rfl,rfl⟩, ?_⟩
   rw [Jh,mkW,if_neg h1,if_pos h];exact⟨rfl,rfl⟩
  ·refine Call.use (Zl _ (by omega)) ⟨⟨rfl,rfl⟩, ?_⟩
   rw [Jh,mkW,if_neg h1,if_neg h2,if_pos h];exact⟨rfl,rfl⟩
  ·refine Call.use (Adq _ (by omega)) ⟨⟨rfl,rfl⟩, ?_⟩
   rw [Jh,mkW,if_neg h1,if_neg h2,if_neg h3,if_pos h];exact⟨rfl,rfl⟩
  ·rw [Av2 v h1 h2 h3 h4]
   refine F3 (fun h=> ?_) fun h5=>F3 (fun h=> ?_) fun h6=>F3 (fun h=> ?_) fun h7=> ?_
   ·rw [if_pos h,List.length_map]
    exact A0n v b4 ih1 _ _ _ _ _ _ _ (Afh _ _ _ _ _ _ _ _ (cut _ _ (by omega) ⟨rfl,rfl⟩)) v.l.length 0 rfl
   ·rw [if_neg h5,if_pos h,List.length_map]
    exact A0m v b5 b8 hz ih2 _ _ _ _ _ _ _ (Afi _ _ _ _ _ _ _ _ (cut _ _ (by omega) ⟨rfl,rfl⟩)) v.d.length 0 rfl
   ·rw [if_neg h5,if_neg h6,if_pos h]
    refine Call.use (Zk _ b1.1 b1.2) ⟨⟨rfl,rfl⟩,Call.use (Zk _ b2.1 b2.2) ⟨⟨rfl,rfl⟩, ?_⟩⟩
    exact cut [Lib.itoa v.n,Lib.itoa v.g] _ (by simp [Lu];omega) ⟨rfl,rfl⟩
   ·rw [if_neg h5,if_neg h6,if_neg h7]
    exact cut [] _ (by simp [Lu]) ⟨rfl,rfl⟩
end Go.Proofs.Sim.Se
set_option maxRecDepth 100000
namespace Go.Proofs.Sim.Se
open Go Go.Proofs Go.Proofs.Sim Go.Proofs.Sim.Va Go.Proofs.Sim.St Go.RowKit
abbrev Tr:AV→Heap→Prop:=Is (.imm (.bool true)) []
def Aps(t:List UInt8 × Int):AV:= .tup [.imm (.str t.1), .imm (.int .i64 t.2)]
theorem tx0(t:List UInt8 × Int):rS (rT (Aps t) 0)=t.1:=rfl
theorem tx1(t:List UInt8 × Int):rI (rT (Aps t) 1)=t.2:=rfl
theorem Pb(v:V)(hs:Scal v)(hc:Ch v≤1000):Call E0.P Jl [.imm (.agg v.row)] [] (Is (Aps (Ib v)) []):=by
 have hf:=Agr 1000 (by omega) _ v (Nat.le_refl _) hc
 obtain⟨p1,p2⟩:=Adc hs
 have h1:=Ale v hf false
 have h2:Hg v:=Agg v hf
 have h3:Zm v.plain:=Awb _ (Axo p1 (by omega))
 rw [Hg]at h2
 rw [Cj]at h1 h2 ⊢
 refine Ajj _ _ _ _ _ _ _ (Call.use h1 ⟨⟨rfl,rfl⟩, ?_⟩)
 rw [Ab6,Ib]
 refine⟨fun h=> ?_,fun h=> ?_⟩
 ·rw [if_pos (ndT h)];exact⟨rfl,rfl⟩
 ·rw [if_neg (by simpa using ndF h)]
  refine Call.use h2 ⟨⟨rfl, ?_⟩, ?_⟩
  ·rw [X8,Du]
  rw [X8,Du]
  exact Call.use h3 ⟨⟨rfl,rfl⟩,⟨rfl,rfl⟩⟩
def exN:V:= .mk 2 1 0 [] [] []
def exK:V:= .mk 7 2 0 [] [] []
def exL:V:= .mk 5 0 0 [] [exN,exK] []
def exT:V:= .mk 4 0 0 [97,40,98] [] []
def exD:V:= .mk 6 0 0 [] [] [([66],exL),([65,35],exT)]
theorem Acj(k n g:Int)(s:List UInt8)(st:Bool)(w:Int):(V.mk k n g s [] []).chk st w=Ow (.mk k n g s [] []) st w:=by
 rw [Afq]
 simp only [V.l,V.d,List.map_nil,Ou,Vw]
 split
 ·rfl
 ·rename_i h
  simp at h
  simp [h]
theorem A1d:exD.chk false 0=0:=by
 have h1:exN.chk false 2=0:=by rw [exN,Acj];decide+kernel
 have h2:exK.chk false 2=0:=by rw [exK,Acj];decide+kernel
 have h3:exT.chk false 1=0:=by rw [exT,Acj];decide+kernel
 have h4:exL.chk false 1=0:=by
  rw [Afq]
  have o:Ow exL false 1=0:=by decide+kernel
  have l:exL.l=[exN,exK]:=rfl
  have d:exL.d=[]:=rfl
  rw [o,l,d]
  simp [Ou,Vw,h1,h2]
 rw [Afq]
 have o:Ow exD false 0=0:=by decide+kernel
 have l:exD.l=[]:=rfl
 have d:exD.d=[([66],exL),([65,35],exT)]:=rfl
 rw [o,l,d]
 have b1:¬F9 [66]:=by decide
 have b2:¬F9 [65,35]:=by decide
 simp [Ou,Vw,h3,h4,b1,b2]
theorem Ade(k n g:Int)(s:List UInt8):(V.mk k n g s [] []).plain=Qj k n g s [] []:=by rw [Dx];rfl
theorem Aw1:exD.plain= .mk 6 0 0 [] [] [([65,35],exT),([66],exL)]:=by
 have h1:exN.plain=exN:=by rw [exN,Ade];rfl
 have h2:exK.plain=exK:=by rw [exK,Ade];rfl
 have h3:exT.plain=exT:=by rw [exT,Ade];rfl
 have h4:exL.plain=exL:=by
  rw [Dx]
  have l:exL.l=[exN,exK]:=rfl
  have d:exL.d=[]:=rfl
  rw [l,d,List.map_cons,List.map_cons,List.map_nil,h1,h2];rfl
 rw [Dx]
 have l:exD.l=[]:=rfl
 have d:exD.d=[([66],exL),([65,35],exT)]:=rfl
 have e:J2 exD.d=[([66],exL),([65,35],exT)]:=by rw [d,J2];simp [h3,h4]
 rw [e,l]
 show Qj 6 0 0 [] _ _=_
 rw [Qj,if_neg (by decide),if_neg (by decide),if_neg (by decide),if_pos rfl]
 have u:uniq [([66],exL),([65,35],exT)]=[([65,35],exT),([66],exL)]:=by kernel_rfl
 rw [u];rfl
theorem A2c:exD.plain.wr=[60,60,47,65,35,50,51,32,40,97,92,40,98,41,32,47,66,32,91,49,32,50,32,48,32,82,93,62,62]:=by
 have i0:Lib.itoa 0=[48]:=by
  rw [show(0:Int)=((0:Nat):Int) from rfl,Lib.itoa_nonneg,Lib.decDigits_one (by omega)];rfl
 have i1:Lib.itoa 1=[49]:=by
  rw [show(1:Int)=((1:Nat):Int) from rfl,Lib.itoa_nonneg,Lib.decDigits_one (by omega)];rfl
 have i2:Lib.itoa 2=[50]:=by
  rw [show(2:Int)=((2:Nat):Int) from rfl,Lib.itoa_nonneg,Lib.decDigits_one (by omega)];rfl
 have h1:exN.wr=[49]:=by rw [Jh];show Lib.itoa 1=_;exact i1
 have h2:exK.wr=[50,32,48,32,82]:=by
  rw [Jh]
  show Bf [Lib.itoa 2,Lib.itoa 0]++[32,82]=_
  rw [i0,i2];rfl
 have h3:exT.wr=[40,97,92,40,98,41]:=by rw [Jh];show Ny [97,40,98]=_;decide+kernel
 have h4:exL.wr=[91,49,32,50,32,48,32,82,93]:=by
  rw [Jh]
  show [91]++Bf ([exN,exK].map V.wr)++[93]=_
  rw [List.map_cons,List.map_cons,List.map_nil,h1,h2];rfl
 rw [Aw1,Jh]
 show [60,60]++Bf (([([65,35],exT),([66],exL)].map fun p:Pr=>(p.1,p.2.wr)).map fun p=>Bf [Cg p.1,p.2])++[62,62]=_
 simp only [List.map_cons,List.map_nil,h3,h4]
 decide+kernel
theorem Arr:Scal exD∧Ch exD≤1000:=by
 have z:∀n:Int,n=0∨n=1∨n=2→I64 n:=fun n h=>⟨by omega,by omega⟩
 have leaf:∀(k n g:Int) (s:List UInt8),I64 n→I64 g→s.length≤3000→Scal (.mk k n g s [] []):=by
  intro k n g s h1 h2 h3
  exact .mk _ h1 h2 h3 (fun x hx=>by cases hx) (fun x hx=>by cases hx) (fun x hx=>by cases hx)
 have h1:Scal exN:=leaf _ _ _ _ (z _ (by omega)) (z _ (by omega)) (by decide)
 have h2:Scal exK:=leaf _ _ _ _ (z _ (by omega)) (z _ (by omega)) (by decide)
 have h3:Scal exT:=leaf _ _ _ _ (z _ (by omega)) (z _ (by omega)) (by decide)
 have h4:Scal exL:=by
  refine .mk _ (z _ (.inl rfl)) (z _ (.inl rfl)) (by decide) (fun x hx=> ?_) (fun x hx=>by cases hx) (fun x hx=>by cases hx)
  have hx:x∈ [exN,exK]:=hx
  simp only [List.mem_cons,List.not_mem_nil,or_false]at hx
  rcases hx with rfl |rfl
  ·exact h1
  ·exact h2
 refine⟨.mk _ (z _ (.inl rfl)) (z _ (.inl rfl)) (by decide) (fun x hx=>by cases hx) (fun x hx=> ?_) (fun x hx=> ?_), ?_⟩
 ·have hx:x∈ [(([66]:Ky),exL),([65,35],exT)]:=hx
  simp only [List.mem_cons,List.not_mem_nil,or_false]at hx
  rcases hx with rfl |rfl<;>decide
 ·have hx:x∈ [(([66]:Ky),exL),([65,35],exT)]:=hx
  simp only [List.mem_cons,List.not_mem_nil,or_false]at hx
  rcases hx with rfl |rfl
  ·exact h4
  ·exact h3
 ·have c:∀(k n g:Int) (s:List UInt8),Ch (.mk k n g s [] [])=1:=fun k n g s=>by rw [Mk];simp [V.l,V.d]
  have c4:Ch exL=3:=by
   rw [Mk]
   show 1+([exN,exK].map Ch).sum+0=3
   rw [List.map_cons,List.map_cons,exN,exK,c,c];rfl
  rw [Mk]
  show 1+0+([([66],exL),([65,35],exT)].map fun p:Pr=>Ch p.2).sum≤1000
  simp only [List.map_cons,List.map_nil,c4]
  rw [exT,c];decide
theorem Aqo:Scal (.mk 8 0 0 [] [] [])∧Ch (.mk 8 0 0 [] [] [])≤1000:=by
 refine⟨.mk _ ⟨by decide,by decide⟩ ⟨by decide,by decide⟩ (by decide) (fun x hx=>by cases hx) (fun x hx=>by cases hx) (fun x hx=>by cases hx), ?_⟩
 rw [Mk];simp [V.l,V.d]
theorem Azl:Ib exD=([60,60,47,65,35,50,51,32,40,97,92,40,98,41,32,47,66,32,91,49,32,50,32,48,32,82,93,62,62],0):=by
 rw [Ib,A1d,A2c];rfl
theorem Axs:Ib (.mk 8 0 0 [] [] [])=([],10):=by
 have:(V.mk 8 0 0 [] [] []).chk false 0=10:=by rw [Acj];decide+kernel
 rw [Ib,this];rfl
theorem A06 {A B:Prop} {b:Bool} (hb:b=true)(h:A):Br b A B:=⟨fun _=>h,fun h'=>absurd (hb.symm.trans h') (by decide)⟩
theorem Afj:Call E0.P Ik [] [] Tr:=by
 have h1:=Pb exD Arr.1 Arr.2
 have h2:=Pb (.mk 8 0 0 [] [] []) Aqo.1 Aqo.2
 have r1:exD.row=[.int .i64 6, .int .i64 0, .int .i64 0, .str [], .sl .any 6 [], .sl .any 7 [[.str [66], .int .i64 5, .int .i64 0, .int .i64 0, .str [], .sl .any 6 [[.int .i64 2, .int .i64 1, .int .i64 0, .str [], .sl .any 6 [], .sl .any 7 []],[.int .i64 7, .int .i64 2, .int .i64 0, .str [], .sl .any 6 [], .sl .any 7 []]], .sl .any 7 []],[.str [65,35], .int .i64 4, .int .i64 0, .int .i64 0, .str [97,40,98], .sl .any 6 [], .sl .any 7 []]]]:=by
  rw [Cj]
  simp [exD,exL,exT,exN,exK,V.k,V.n,V.g,V.s,V.l,V.d,Bw,Cj]
 have r2:(V.mk 8 0 0 [] [] []).row=[.int .i64 8, .int .i64 0, .int .i64 0, .str [], .sl .any 6 [], .sl .any 7 []]:=by
  rw [Cj];rfl
 rw [r1,Azl]at h1
 rw [r2,Axs]at h2
 refine Ah1 _ (Call.use h1 ⟨⟨rfl,rfl⟩,Call.use h2 ⟨⟨rfl,rfl⟩, ?_⟩⟩)
 rw [tx0,tx1,tx1]
 refine Let.intro (Let.intro (A06 (by decide) ?_))
 refine Call.use (Adq [10] (by decide)) ⟨⟨rfl,rfl⟩, ?_⟩
 rw [Aqc]
 refine Let.intro (A06 (by decide+kernel) ?_)
 refine Call.use (Zl [97,32,98] (by decide)) ⟨⟨rfl,rfl⟩, ?_⟩
 rw [Aqc]
 have:(Cg [97,32,98] == [47,97,35,50,48,98])=true:=by decide+kernel
 rw [this]
 exact Let.intro ⟨rfl,rfl⟩
end Go.Proofs.Sim.Se

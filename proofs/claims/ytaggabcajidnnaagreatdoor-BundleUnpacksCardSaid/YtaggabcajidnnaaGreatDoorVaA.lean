import Derived.Test.YtaggabcajidnnaaGreatDoorStL
import Derived.Test.YtaggabcajidnnaaGreatDoorSimV
import GoSem.Op.String
namespace Go.Proofs.Sim.Va
open Go Go.Proofs.Sim Go.Proofs.Sim.St
theorem A8k(a:List UInt8):Op.bytesLess a a=false:=by
 induction a with
 |nil=>rfl
 |cons x a ih=>simp [Op.bytesLess,ih]
theorem Btx:∀(a b c:List UInt8),Op.bytesLess a b=true→Op.bytesLess b c=true→Op.bytesLess a c=true
 | [],b,c,h1,h2=>by
   cases c with
   |nil=>cases b<;>simp [Op.bytesLess]at h2
   |cons z c=>rfl
 |x::a,[],c,h1,_=>by simp [Op.bytesLess]at h1
 |x::a,y::b,[],_,h2=>by simp [Op.bytesLess]at h2
 |x::a,y::b,z::c,h1,h2=>by
  simp only [Op.bytesLess,Bool.or_eq_true,decide_eq_true_eq,Bool.and_eq_true,beq_iff_eq]at h1 h2 ⊢
  rcases h1 with h1 |⟨rfl,h1⟩
  ·rcases h2 with h2 |⟨rfl,h2⟩
   ·exact .inl (UInt8.lt_trans h1 h2)
   ·exact .inl h1
  ·rcases h2 with h2 |⟨rfl,h2⟩
   ·exact .inl h2
   ·exact .inr ⟨rfl,Btx a b c h1 h2⟩
theorem Bon:∀(a b:List UInt8),Op.bytesLess a b=false→Op.bytesLess b a=false→a=b
 | [],[],_,_=>rfl
 | [],y::b,h,_=>by simp [Op.bytesLess]at h
 |x::a,[],_,h=>by simp [Op.bytesLess]at h
 |x::a,y::b,h1,h2=>by
  simp only [Op.bytesLess,Bool.or_eq_false_iff,decide_eq_false_iff_not,Bool.and_eq_false_iff]at h1 h2
  have hxy:x=y:=by
   have a1:=h1.1;have a2:=h2.1
   rw [UInt8.not_lt]at a1 a2
   exact UInt8.le_antisymm a2 a1
  subst hxy
  have e1:=h1.2.resolve_left (by simp)
  have e2:=h2.2.resolve_left (by simp)
  rw [Bon a b e1 e2]
theorem ordK:Ord (List UInt8) Op.bytesLess:=⟨A8k,Btx,Bon⟩
inductive V where
 |mk (k n g:Int) (s:List UInt8) (l:List V) (d:List (List UInt8 × V))
abbrev Ky:=List UInt8
abbrev Pr:=Ky × V
instance:Inhabited V:=⟨.mk 0 0 0 [] [] []⟩
def V.k:V→Int | .mk k _ _ _ _ _=>k
def V.n:V→Int | .mk _ n _ _ _ _=>n
def V.g:V→Int | .mk _ _ g _ _ _=>g
def V.s:V→List UInt8 | .mk _ _ _ s _ _=>s
def V.l:V→List V | .mk _ _ _ _ l _=>l
def V.d:V→List Pr | .mk _ _ _ _ _ d=>d
theorem Bcs {k n g:Int} {s:List UInt8} {l:List V} {d:List Pr} {v:V} (h:v∈l):SizeOf.sizeOf v<SizeOf.sizeOf (V.mk k n g s l d):=by
 have:=List.sizeOf_lt_of_mem h
 simp;omega
theorem Bcr {k n g:Int} {s:List UInt8} {l:List V} {d:List Pr} {p:Pr} (h:p∈d):SizeOf.sizeOf p.2<SizeOf.sizeOf (V.mk k n g s l d):=by
 have:=List.sizeOf_lt_of_mem h
 obtain⟨a,b⟩:=p
 simp at this ⊢; omega
def V.row:V→List IV
 | .mk k n g s l d=>[.int .i64 k, .int .i64 n, .int .i64 g, .str s, .sl .any 6 (l.attach.map fun⟨v,_h⟩=>V.row v), .sl .any 7 (d.attach.map fun⟨p,_h⟩=> .str p.1::V.row p.2)]
 termination_by v=>SizeOf.sizeOf v
 decreasing_by
  ·exact Bcs _h
  ·exact Bcr _h
def Bc(p:Pr):List IV:= .str p.1::p.2.row
theorem Cn(v:V):v.row=[.int .i64 v.k, .int .i64 v.n, .int .i64 v.g, .str v.s, .sl .any 6 (v.l.map V.row), .sl .any 7 (v.d.map Bc)]:=by
 obtain⟨k,n,g,s,l,d⟩:=v
 rw [V.row]
 simp [V.k,V.n,V.g,V.s,V.l,V.d]
 apply List.ext_getElem<;>simp [Bc]
theorem Em(p:Pr):Bc p=[.str p.1, .int .i64 p.2.k, .int .i64 p.2.n, .int .i64 p.2.g, .str p.2.s, .sl .any 6 (p.2.l.map V.row), .sl .any 7 (p.2.d.map Bc)]:=by
 rw [Bc,Cn]
end Go.Proofs.Sim.Va
namespace Go.Proofs.Sim.Va
open Go Go.Proofs.Sim Go.Proofs.Sim.St
abbrev bl:Ky→Ky→Bool:=Op.bytesLess
abbrev pk:Pr→Ky:=fun p=>p.1
abbrev Ce(l:List Pr):List Pr:=srt bl pk l
abbrev C8(l:List Pr):Prop:=Sorted bl pk l
abbrev Blr(l m:List Pr):Prop:=Fib pk l m
def keepD(p:Pr):List Pr→List Pr
 | []=>[]
 |y::r=>if y.1=p.1 then keepD y r else y::keepD y r
def compact:List Pr→List Pr
 | []=>[]
 |x::r=>x::keepD x r
theorem Bpm(r:List Pr):∀x:Pr,(keepD x r).Sublist r:=by
 induction r with
 |nil=>intro x;exact List.Sublist.refl _
 |cons y r ih=>
  intro x
  rw [keepD]
  split
  ·exact(ih y).cons y
  ·exact(ih y).cons_cons y
theorem Abc(l:List Pr):(compact l).Sublist l:=by
 cases l with
 |nil=>exact List.Sublist.refl _
 |cons x r=>exact(Bpm r x).cons_cons x
theorem Bbd {l:List Pr} (h:C8 l):C8 (compact l):=h.sublist (Abc l)
theorem Nl(k:Ky)(x:Pr)(l:List Pr):Dz pk k (x::l)=if x.1=k then x::Dz pk k l else Dz pk k l:=by
 unfold Dz
 rw [List.filter_cons]
 by_cases h:x.1=k<;>simp [h]
theorem Bpk(k:Ky)(r:List Pr):∀x:Pr,C8 (x::r)→Dz pk k (keepD x r)=if x.1=k then []else(Dz pk k r).take 1:=by
 induction r with
 |nil=>intro x h;simp [keepD,Dz]
 |cons y r ih=>
  intro x h
  have h1:=List.pairwise_cons.1 h
  have ihy:=ih y h1.2
  rw [keepD]
  by_cases e:y.1=x.1
  ·rw [if_pos e,ihy,e,Nl]
   by_cases hk:x.1=k
   ·simp [hk]
   ·rw [if_neg hk,if_neg hk,e,if_neg hk]
  ·rw [if_neg e,Nl,ihy,Nl]
   by_cases hk:x.1=k
   ·have hyk:¬y.1=k:=fun c=>e (c.trans hk.symm)
    rw [if_neg hyk,if_neg hyk,if_pos hk]
    have:Dz pk k r=[]:=U3 fun z hz c=>by
     have h2:=(List.pairwise_cons.1 h1.2).1 z hz
     have h3:=h1.1 y (by simp)
     have c:z.1=x.1:=by rw [hk];exact c
     have h2:bl z.1 y.1=false:=h2
     have h3:bl y.1 x.1=false:=h3
     rw [c]at h2
     exact e (ordK.tot _ _ h3 h2)
    rw [this];rfl
   ·by_cases hyk:y.1=k
    ·simp [hyk,hk]
    ·simp [hyk,hk]
theorem Bjy {l:List Pr} (h:C8 l)(k:Ky):Dz pk k (compact l)=(Dz pk k l).take 1:=by
 cases l with
 |nil=>rfl
 |cons x r=>
  rw [compact,Nl,Bpk k r x h,Nl]
  by_cases hk:x.1=k<;>simp [hk]
def uniq(l:List Pr):List Pr:=compact (Ce l)
theorem A2o(l:List Pr):C8 (uniq l):=Bbd (J6 ordK l)
theorem Bjb(l:List Pr)(k:Ky):Dz pk k (uniq l)=(Dz pk k l).take 1:=by
 rw [uniq,Bjy (J6 ordK l),Nb ordK l k]
theorem A6c {l:List Pr} {p:Pr} (h:p∈uniq l):p∈l:=((Nb ordK l).mem p).1 ((Abc _).subset h)
theorem Bwy {l m:List Pr} (h1:C8 m)(h2:∀k,Dz pk k m=(Dz pk k l).take 1):m=uniq l:=
 Awg ordK h1 (A2o l) fun k=>by rw [h2,Bjb]
def Lh(p:Pr):List Pr→List Pr
 | []=>[p]
 |q::r=>if bl p.1 q.1 then p::q::r else q::Lh p r
def put(d:List Pr)(p:Pr):List Pr:=if d.any (fun q=>q.1 == p.1)then d else Lh p d
theorem Bsd(p:Pr)(d:List Pr):∀q,q∈Lh p d↔q=p∨q∈d:=by
 induction d with
 |nil=>intro q;simp [Lh]
 |cons x r ih=>
  intro q
  rw [Lh]
  split
  ·simp
  ·simp [ih];constructor
   ·rintro(h |h |h);exact .inr (.inl h);exact .inl h;exact .inr (.inr h)
   ·rintro(h |h |h);exact .inr (.inl h);exact .inl h;exact .inr (.inr h)
theorem Bj2(p:Pr)(d:List Pr)(h:C8 d):C8 (Lh p d):=by
 induction d with
 |nil=>exact List.pairwise_singleton _ _
 |cons x r ih=>
  have h1:=List.pairwise_cons.1 h
  rw [Lh]
  split
  ·rename_i hb
   refine List.pairwise_cons.2 ⟨fun z hz=> ?_,h⟩
   rcases List.mem_cons.1 hz with rfl |hz
   ·exact ordK.asym hb
   ·have h2:bl z.1 x.1=false:=h1.1 z hz
    exact ordK.le_tr (ordK.asym hb) h2
  ·rename_i hb
   refine List.pairwise_cons.2 ⟨fun z hz=> ?_,ih h1.2⟩
   rcases (Bsd p r z).1 hz with rfl |hz
   ·simpa using hb
   ·exact h1.1 z hz
theorem Bsb(p:Pr)(d:List Pr)(k:Ky)(hd:∀q∈d,q.1≠p.1):Dz pk k (Lh p d)=if p.1=k then [p]else Dz pk k d:=by
 induction d with
 |nil=>simp [Lh,Nl];rfl
 |cons x r ih=>
  have ih:=ih fun q hq=>hd q (by simp [hq])
  have hx:=hd x (by simp)
  rw [Lh]
  split
  ·rw [Nl,Nl]
   by_cases hk:p.1=k
   ·have:¬x.1=k:=fun c=>hx (c.trans hk.symm)
    rw [if_pos hk,if_neg this,if_pos hk]
    have:Dz pk k r=[]:=U3 fun q hq c=>hd q (by simp [hq]) ((show q.1=k from c).trans hk.symm)
    rw [this]
   ·rw [if_neg hk,if_neg hk]
  ·rw [Nl,ih,Nl]
   by_cases hk:p.1=k
   ·have:¬x.1=k:=fun c=>hx (c.trans hk.symm)
    rw [if_neg this,if_pos hk,if_pos hk]
   ·rw [if_neg hk,if_neg hk]
theorem Bwj(l:List Pr):∀d m:List Pr,C8 d→(∀k,Dz pk k d=(Dz pk k m).take 1)→l.foldl put d=uniq (m++l):=by
 induction l with
 |nil=>intro d m h1 h2;simpa using Bwy h1 h2
 |cons p l ih=>
  intro d m h1 h2
  rw [List.foldl_cons,show m++p::l=(m++[p])++l by simp]
  refine ih _ _ ?_ fun k=> ?_
  ·unfold put;split
   ·exact h1
   ·exact Bj2 p d h1
  ·unfold put
   rw [Adi,show Dz pk k [p]=if p.1=k then [p]else []by rw [Nl];rfl]
   split
   ·rename_i ha
    obtain⟨q,hq,hqk⟩:=List.any_eq_true.1 ha
    have hqk:q.1=p.1:=by simpa using hqk
    rw [h2]
    by_cases hk:p.1=k
    ·have:q∈Dz pk k d:=by simp [Dz,hq,hqk,hk]
     rw [h2]at this
     cases hf:Dz pk k m with
     |nil=>rw [hf]at this;simp at this
     |cons a b=>simp [hk]
    ·simp [hk]
   ·rename_i ha
    have hd:∀q∈d,q.1≠p.1:=fun q hq c=>ha (List.any_eq_true.2 ⟨q,hq,by simpa using c⟩)
    rw [Bsb p d k hd,h2]
    by_cases hk:p.1=k
    ·rw [if_pos hk,if_pos hk]
     have:(Dz pk k m).take 1=[]:=by
      rw [←h2];exact U3 fun q hq c=>hd q hq ((show q.1=k from c).trans hk.symm)
     cases hf:Dz pk k m with
     |nil=>rfl
     |cons a b=>rw [hf]at this;simp at this
    ·rw [if_neg hk,if_neg hk];simp
theorem Bit(l:List Pr):l.foldl put []=uniq l:=by
 have:=Bwj l [] [] List.Pairwise.nil (fun k=>rfl)
 simpa using this
theorem Bpl(f:V→V)(r:List Pr):∀x:Pr,keepD (x.1,f x.2) (r.map fun p=>(p.1,f p.2))=(keepD x r).map fun p=>(p.1,f p.2):=by
 induction r with
 |nil=>intro x;rfl
 |cons y r ih=>
  intro x
  simp only [List.map_cons,keepD]
  split
  ·exact ih y
  ·rw [List.map_cons,ih y]
theorem Bjz(f:V→V)(l:List Pr):compact (l.map fun p=>(p.1,f p.2))=(compact l).map fun p=>(p.1,f p.2):=by
 cases l with
 |nil=>rfl
 |cons x r=>simp only [List.map_cons,compact,Bpl]
theorem Bvz(f:V→V)(x:Pr)(l:List Pr):ins bl pk (x.1,f x.2) (l.map fun p=>(p.1,f p.2))=(ins bl pk x l).map fun p=>(p.1,f p.2):=by
 induction l with
 |nil=>rfl
 |cons y l ih=>
  simp only [List.map_cons,ins]
  split
  ·rw [List.map_cons,ih]
  ·rfl
theorem Bs9(f:V→V)(l:List Pr):Ce (l.map fun p=>(p.1,f p.2))=(Ce l).map fun p=>(p.1,f p.2):=by
 induction l with
 |nil=>rfl
 |cons x l ih=>
  show ins bl pk (x.1,f x.2) (Ce (l.map fun p=>(p.1,f p.2)))=_
  rw [ih,Bvz]
  rfl
theorem Btf(f:V→V)(l:List Pr):uniq (l.map fun p=>(p.1,f p.2))=(uniq l).map fun p=>(p.1,f p.2):=by
 rw [uniq,Bs9,Bjz]
 rfl
def Qc(p:Pr):Bool:= !(decide (p.2.k=0))
def zero:V:= .mk 0 0 0 [] [] []
def mkP(k n g:Int)(s:List UInt8)(l:List V)(d:List Pr):V:=
 if k=1∨k=2 then .mk k n 0 [] [] []else if k=3∨k=4 then .mk k 0 0 s [] []else if k=5 then .mk k 0 0 [] l []else if k=6 then .mk k 0 0 [] [] ((uniq d).filter Qc)
 else if k=7 then .mk k n g [] [] []else if k=8 then .mk k 0 0 s [] ((uniq d).filter Qc)else zero
def V.plain:V→V
 | .mk k n g s l d=>mkP k n g s (l.attach.map fun⟨v,_h⟩=>V.plain v) (d.attach.map fun⟨p,_h⟩=>(p.1,V.plain p.2))
 termination_by v=>SizeOf.sizeOf v
 decreasing_by
  ·exact Bcs _h
  ·exact Bcr _h
def K3(d:List Pr):List Pr:=d.map fun p=>(p.1,p.2.plain)
theorem Ao2(v:V):v.plain=mkP v.k v.n v.g v.s (v.l.map V.plain) (K3 v.d):=by
 obtain⟨k,n,g,s,l,d⟩:=v
 rw [V.plain]
 simp only [V.k,V.n,V.g,V.s,V.l,V.d,K3]
 congr 1
 ·simp
 ·apply List.ext_getElem<;>simp
def plD(d:List Pr):List Pr:=(uniq (K3 d)).filter Qc
theorem By2(d:List Pr):plD d=(K3 (uniq d)).filter Qc:=by
 rw [plD,K3,Btf]
 rfl
end Go.Proofs.Sim.Va

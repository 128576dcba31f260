import Derived.Test.YtaggabcajidnnaaGreatDoorStL
import Derived.Test.YtaggabcajidnnaaGreatDoorSimV
import GoSem.Op.String
namespace Go.Proofs.Sim.Va
open Go Go.Proofs.Sim Go.Proofs.Sim.St
theorem A49(a:List UInt8):Op.bytesLess a a=false:=by
 induction a with
 |nil=>rfl
 |cons x a ih=>simp [Op.bytesLess,ih]
theorem Bpw:∀(a b c:List UInt8),Op.bytesLess a b=true→Op.bytesLess b c=true→Op.bytesLess a c=true
 | [],b,c,h1,h2=>by
   cases c with
   |nil=>cases b<;>simp [Op.bytesLess]at h2
   |cons z c=>rfl
 |x::a,[],c,h1,_=>by simp [Op.bytesLess]at h1
 |x::a,y::b,[],_,h2=>by simp [Op.bytesLess]at h2
 |x::a,y::b,z::c,h1,h2=>by
  simp only [Op.bytesLess,Bool.or_eq_true,decide_eq_true_eq,Bool.and_eq_true,beq_iff_eq]at h1 h2 ⊢
  rcases h1 with h1 |⟨rfl,h1⟩
  ·rcases h2 with h2 |⟨rfl,h2⟩
   ·exact .inl (UInt8.lt_trans h1 h2)
   ·exact .inl h1
  ·rcases h2 with h2 |⟨rfl,h2⟩
   ·exact .inl h2
   ·exact .inr ⟨rfl,Bpw a b c h1 h2⟩
theorem Bj9:∀(a b:List UInt8),Op.bytesLess a b=false→Op.bytesLess b a=false→a=b
 | [],[],_,_=>rfl
 | [],y::b,h,_=>by simp [Op.bytesLess]at h
 |x::a,[],_,h=>by simp [Op.bytesLess]at h
 |x::a,y::b,h1,h2=>by
  simp only [Op.bytesLess,Bool.or_eq_false_iff,decide_eq_false_iff_not,Bool.and_eq_false_iff]at h1 h2
  have hxy:x=y:=by
   have a1:=h1.1;have a2:=h2.1
   rw [UInt8.not_lt]at a1 a2
   exact UInt8.le_antisymm a2 a1
  subst hxy
  have e1:=h1.2.resolve_left (by simp)
  have e2:=h2.2.resolve_left (by simp)
  rw [Bj9 a b e1 e2]
theorem ordK:Ord (List UInt8) Op.bytesLess:=⟨A49,Bpw,Bj9⟩
inductive V where
 |mk (k n g:Int) (s:List UInt8) (l:List V) (d:List (List UInt8 × V))
abbrev Ky:=List UInt8
abbrev Pr:=Ky × V
instance:Inhabited V:=⟨.mk 0 0 0 [] [] []⟩
def V.k:V→Int | .mk k _ _ _ _ _=>k
def V.n:V→Int | .mk _ n _ _ _ _=>n
def V.g:V→Int | .mk _ _ g _ _ _=>g
def V.s:V→List UInt8 | .mk _ _ _ s _ _=>s
def V.l:V→List V | .mk _ _ _ _ l _=>l
def V.d:V→List Pr | .mk _ _ _ _ _ d=>d
theorem Axq {k n g:Int} {s:List UInt8} {l:List V} {d:List Pr} {v:V} (h:v∈l):SizeOf.sizeOf v<SizeOf.sizeOf (V.mk k n g s l d):=by
 have:=List.sizeOf_lt_of_mem h
 simp;omega
theorem Axp {k n g:Int} {s:List UInt8} {l:List V} {d:List Pr} {p:Pr} (h:p∈d):SizeOf.sizeOf p.2<SizeOf.sizeOf (V.mk k n g s l d):=by
 have:=List.sizeOf_lt_of_mem h
 obtain⟨a,b⟩:=p
 simp at this ⊢; omega
def V.row:V→List IV
 | .mk k n g s l d=>[.int .i64 k, .int .i64 n, .int .i64 g, .str s, .sl .any 6 (l.attach.map fun⟨v,_h⟩=>V.row v), .sl .any 7 (d.attach.map fun⟨p,_h⟩=> .str p.1::V.row p.2)]
 termination_by v=>SizeOf.sizeOf v
 decreasing_by
  ·exact Axq _h
  ·exact Axp _h
def Bl(p:Pr):List IV:= .str p.1::p.2.row
theorem Db(v:V):v.row=[.int .i64 v.k, .int .i64 v.n, .int .i64 v.g, .str v.s, .sl .any 6 (v.l.map V.row), .sl .any 7 (v.d.map Bl)]:=by
 obtain⟨k,n,g,s,l,d⟩:=v
 rw [V.row]
 simp [V.k,V.n,V.g,V.s,V.l,V.d]
 apply List.ext_getElem<;>simp [Bl]
theorem F7(p:Pr):Bl p=[.str p.1, .int .i64 p.2.k, .int .i64 p.2.n, .int .i64 p.2.g, .str p.2.s, .sl .any 6 (p.2.l.map V.row), .sl .any 7 (p.2.d.map Bl)]:=by
 rw [Bl,Db]
end Go.Proofs.Sim.Va
namespace Go.Proofs.Sim.Va
open Go Go.Proofs.Sim Go.Proofs.Sim.St
abbrev bl:Ky→Ky→Bool:=Op.bytesLess
abbrev pk:Pr→Ky:=fun p=>p.1
abbrev Cq(l:List Pr):List Pr:=srt bl pk l
abbrev D6(l:List Pr):Prop:=Sorted bl pk l
abbrev Bhg(l m:List Pr):Prop:=Fib pk l m
def keepD(p:Pr):List Pr→List Pr
 | []=>[]
 |y::r=>if y.1=p.1 then keepD y r else y::keepD y r
def compact:List Pr→List Pr
 | []=>[]
 |x::r=>x::keepD x r
theorem Blb(r:List Pr):∀x:Pr,(keepD x r).Sublist r:=by
 induction r with
 |nil=>intro x;exact List.Sublist.refl _
 |cons y r ih=>
  intro x
  rw [keepD]
  split
  ·exact(ih y).cons y
  ·exact(ih y).cons_cons y
theorem Aal(l:List Pr):(compact l).Sublist l:=by
 cases l with
 |nil=>exact List.Sublist.refl _
 |cons x r=>exact(Blb r x).cons_cons x
theorem A7z {l:List Pr} (h:D6 l):D6 (compact l):=h.sublist (Aal l)
theorem Nw(k:Ky)(x:Pr)(l:List Pr):Fe pk k (x::l)=if x.1=k then x::Fe pk k l else Fe pk k l:=by
 unfold Fe
 rw [List.filter_cons]
 by_cases h:x.1=k<;>simp [h]
theorem Bk9(k:Ky)(r:List Pr):∀x:Pr,D6 (x::r)→Fe pk k (keepD x r)=if x.1=k then []else(Fe pk k r).take 1:=by
 induction r with
 |nil=>intro x h;simp [keepD,Fe]
 |cons y r ih=>
  intro x h
  have h1:=List.pairwise_cons.1 h
  have ihy:=ih y h1.2
  rw [keepD]
  by_cases e:y.1=x.1
  ·rw [if_pos e,ihy,e,Nw]
   by_cases hk:x.1=k
   ·simp [hk]
   ·rw [if_neg hk,if_neg hk,e,if_neg hk]
  ·rw [if_neg e,Nw,ihy,Nw]
   by_cases hk:x.1=k
   ·have hyk:¬y.1=k:=fun c=>e (c.trans hk.symm)
    rw [if_neg hyk,if_neg hyk,if_pos hk]
    have:Fe pk k r=[]:=Ab4 fun z hz c=>by
     have h2:=(List.pairwise_cons.1 h1.2).1 z hz
     have h3:=h1.1 y (by simp)
     have c:z.1=x.1:=by rw [hk];exact c
     have h2:bl z.1 y.1=false:=h2
     have h3:bl y.1 x.1=false:=h3
     rw [c]at h2
     exact e (ordK.tot _ _ h3 h2)
    rw [this];rfl
   ·by_cases hyk:y.1=k
    ·simp [hyk,hk]
    ·simp [hyk,hk]
theorem Bfu {l:List Pr} (h:D6 l)(k:Ky):Fe pk k (compact l)=(Fe pk k l).take 1:=by
 cases l with
 |nil=>rfl
 |cons x r=>
  rw [compact,Nw,Bk9 k r x h,Nw]
  by_cases hk:x.1=k<;>simp [hk]
def uniq(l:List Pr):List Pr:=compact (Cq l)
theorem Apq(l:List Pr):D6 (uniq l):=A7z (Kt ordK l)
theorem A3n(l:List Pr)(k:Ky):Fe pk k (uniq l)=(Fe pk k l).take 1:=by
 rw [uniq,Bfu (Kt ordK l),Nq ordK l k]
theorem A3o {l:List Pr} {p:Pr} (h:p∈uniq l):p∈l:=((Nq ordK l).mem p).1 ((Aal _).subset h)
theorem Bhe {l m:List Pr} (h1:D6 m)(h2:∀k,Fe pk k m=(Fe pk k l).take 1):m=uniq l:=
 At8 ordK h1 (Apq l) fun k=>by rw [h2,A3n]
def Mh(p:Pr):List Pr→List Pr
 | []=>[p]
 |q::r=>if bl p.1 q.1 then p::q::r else q::Mh p r
def put(d:List Pr)(p:Pr):List Pr:=if d.any (fun q=>q.1 == p.1)then d else Mh p d
theorem Bod(p:Pr)(d:List Pr):∀q,q∈Mh p d↔q=p∨q∈d:=by
 induction d with
 |nil=>intro q;simp [Mh]
 |cons x r ih=>
  intro q
  rw [Mh]
  split
  ·simp
  ·simp [ih];constructor
   ·rintro(h |h |h);exact .inr (.inl h);exact .inl h;exact .inr (.inr h)
   ·rintro(h |h |h);exact .inr (.inl h);exact .inl h;exact .inr (.inr h)
theorem Bfz(p:Pr)(d:List Pr)(h:D6 d):D6 (Mh p d):=by
 induction d with
 |nil=>exact List.pairwise_singleton _ _
 |cons x r ih=>
  have h1:=List.pairwise_cons.1 h
  rw [Mh]
  split
  ·rename_i hb
   refine List.pairwise_cons.2 ⟨fun z hz=> ?_,h⟩
   rcases List.mem_cons.1 hz with rfl |hz
   ·exact ordK.asym hb
   ·have h2:bl z.1 x.1=false:=h1.1 z hz
    exact ordK.le_tr (ordK.asym hb) h2
  ·rename_i hb
   refine List.pairwise_cons.2 ⟨fun z hz=> ?_,ih h1.2⟩
   rcases (Bod p r z).1 hz with rfl |hz
   ·simpa using hb
   ·exact h1.1 z hz
theorem Bob(p:Pr)(d:List Pr)(k:Ky)(hd:∀q∈d,q.1≠p.1):Fe pk k (Mh p d)=if p.1=k then [p]else Fe pk k d:=by
 induction d with
 |nil=>simp [Mh,Nw];rfl
 |cons x r ih=>
  have ih:=ih fun q hq=>hd q (by simp [hq])
  have hx:=hd x (by simp)
  rw [Mh]
  split
  ·rw [Nw,Nw]
   by_cases hk:p.1=k
   ·have:¬x.1=k:=fun c=>hx (c.trans hk.symm)
    rw [if_pos hk,if_neg this,if_pos hk]
    have:Fe pk k r=[]:=Ab4 fun q hq c=>hd q (by simp [hq]) ((show q.1=k from c).trans hk.symm)
    rw [this]
   ·rw [if_neg hk,if_neg hk]
  ·rw [Nw,ih,Nw]
   by_cases hk:p.1=k
   ·have:¬x.1=k:=fun c=>hx (c.trans hk.symm)
    rw [if_neg this,if_pos hk,if_pos hk]
   ·rw [if_neg hk,if_neg hk]
theorem Br6(l:List Pr):∀d m:List Pr,D6 d→(∀k,Fe pk k d=(Fe pk k m).take 1)→l.foldl put d=uniq (m++l):=by
 induction l with
 |nil=>intro d m h1 h2;simpa using Bhe h1 h2
 |cons p l ih=>
  intro d m h1 h2
  rw [List.foldl_cons,show m++p::l=(m++[p])++l by simp]
  refine ih _ _ ?_ fun k=> ?_
  ·unfold put;split
   ·exact h1
   ·exact Bfz p d h1
  ·unfold put
   rw [Afn,show Fe pk k [p]=if p.1=k then [p]else []by rw [Nw];rfl]
   split
   ·rename_i ha
    obtain⟨q,hq,hqk⟩:=List.any_eq_true.1 ha
    have hqk:q.1=p.1:=by simpa using hqk
    rw [h2]
    by_cases hk:p.1=k
    ·have:q∈Fe pk k d:=by simp [Fe,hq,hqk,hk]
     rw [h2]at this
     cases hf:Fe pk k m with
     |nil=>rw [hf]at this;simp at this
     |cons a b=>simp [hk]
    ·simp [hk]
   ·rename_i ha
    have hd:∀q∈d,q.1≠p.1:=fun q hq c=>ha (List.any_eq_true.2 ⟨q,hq,by simpa using c⟩)
    rw [Bob p d k hd,h2]
    by_cases hk:p.1=k
    ·rw [if_pos hk,if_pos hk]
     have:(Fe pk k m).take 1=[]:=by
      rw [←h2];exact Ab4 fun q hq c=>hd q hq ((show q.1=k from c).trans hk.symm)
     cases hf:Fe pk k m with
     |nil=>rfl
     |cons a b=>rw [hf]at this;simp at this
    ·rw [if_neg hk,if_neg hk];simp
theorem Bex(l:List Pr):l.foldl put []=uniq l:=by
 have:=Br6 l [] [] List.Pairwise.nil (fun k=>rfl)
 simpa using this
theorem Bla(f:V→V)(r:List Pr):∀x:Pr,keepD (x.1,f x.2) (r.map fun p=>(p.1,f p.2))=(keepD x r).map fun p=>(p.1,f p.2):=by
 induction r with
 |nil=>intro x;rfl
 |cons y r ih=>
  intro x
  simp only [List.map_cons,keepD]
  split
  ·exact ih y
  ·rw [List.map_cons,ih y]
theorem Bfv(f:V→V)(l:List Pr):compact (l.map fun p=>(p.1,f p.2))=(compact l).map fun p=>(p.1,f p.2):=by
 cases l with
 |nil=>rfl
 |cons x r=>simp only [List.map_cons,compact,Bla]
theorem Brj(f:V→V)(x:Pr)(l:List Pr):ins bl pk (x.1,f x.2) (l.map fun p=>(p.1,f p.2))=(ins bl pk x l).map fun p=>(p.1,f p.2):=by
 induction l with
 |nil=>rfl
 |cons y l ih=>
  simp only [List.map_cons,ins]
  split
  ·rw [List.map_cons,ih]
  ·rfl
theorem Bo8(f:V→V)(l:List Pr):Cq (l.map fun p=>(p.1,f p.2))=(Cq l).map fun p=>(p.1,f p.2):=by
 induction l with
 |nil=>rfl
 |cons x l ih=>
  show ins bl pk (x.1,f x.2) (Cq (l.map fun p=>(p.1,f p.2)))=_
  rw [ih,Brj]
  rfl
theorem Bpe(f:V→V)(l:List Pr):uniq (l.map fun p=>(p.1,f p.2))=(uniq l).map fun p=>(p.1,f p.2):=by
 rw [uniq,Bo8,Bfv]
 rfl
def Nl(p:Pr):Bool:= !(decide (p.2.k=0))
def zero:V:= .mk 0 0 0 [] [] []
def X7(k n g:Int)(s:List UInt8)(l:List V)(d:List Pr):V:=
 if k=1∨k=2 then .mk k n 0 [] [] []else if k=3∨k=4 then .mk k 0 0 s [] []else if k=5 then .mk k 0 0 [] l []else if k=6 then .mk k 0 0 [] [] ((uniq d).filter Nl)
 else if k=7 then .mk k n g [] [] []else if k=8 then .mk k 0 0 s [] ((uniq d).filter Nl)else zero
def V.plain:V→V
 | .mk k n g s l d=>X7 k n g s (l.attach.map fun⟨v,_h⟩=>V.plain v) (d.attach.map fun⟨p,_h⟩=>(p.1,V.plain p.2))
 termination_by v=>SizeOf.sizeOf v
 decreasing_by
  ·exact Axq _h
  ·exact Axp _h
def Iu(d:List Pr):List Pr:=d.map fun p=>(p.1,p.2.plain)
theorem Ec(v:V):v.plain=X7 v.k v.n v.g v.s (v.l.map V.plain) (Iu v.d):=by
 obtain⟨k,n,g,s,l,d⟩:=v
 rw [V.plain]
 simp only [V.k,V.n,V.g,V.s,V.l,V.d,Iu]
 congr 1
 ·simp
 ·apply List.ext_getElem<;>simp
def R3(d:List Pr):List Pr:=(uniq (Iu d)).filter Nl
theorem Bus(d:List Pr):R3 d=(Iu (uniq d)).filter Nl:=by
 rw [R3,Iu,Bpe]
 rfl
end Go.Proofs.Sim.Va

import Derived.Test.YtcdjheflchglaaaDoorStL
import Derived.Test.YtcdjheflchglaaaDoorSimV
import GoSem.Op.String
namespace Go.Proofs.Sim.Va
open Go Go.Proofs.Sim Go.Proofs.Sim.St
theorem At5(a:List UInt8):Op.bytesLess a a=false:=by
 induction a with
 |nil=>rfl
 |cons x a ih=>simp [Op.bytesLess,ih]
theorem Aya:∀(a b c:List UInt8),Op.bytesLess a b=true→Op.bytesLess b c=true→Op.bytesLess a c=true
 | [],b,c,h1,h2=>by
   cases c with
   |nil=>cases b<;>simp [Op.bytesLess]at h2
   |cons z c=>rfl
 |x::a,[],c,h1,_=>by simp [Op.bytesLess]at h1
 |x::a,y::b,[],_,h2=>by simp [Op.bytesLess]at h2
 |x::a,y::b,z::c,h1,h2=>by
  simp only [Op.bytesLess,Bool.or_eq_true,decide_eq_true_eq,Bool.and_eq_true,beq_iff_eq]at h1 h2 ⊢
  rcases h1 with h1 |⟨rfl,h1⟩
  ·rcases h2 with h2 |⟨rfl,h2⟩
   ·exact .inl (UInt8.lt_trans h1 h2)
   ·exact .inl h1
  ·rcases h2 with h2 |⟨rfl,h2⟩
   ·exact .inl h2
   ·exact .inr ⟨rfl,Aya a b c h1 h2⟩
theorem At6:∀(a b:List UInt8),Op.bytesLess a b=false→Op.bytesLess b a=false→a=b
 | [],[],_,_=>rfl
 | [],y::b,h,_=>by simp [Op.bytesLess]at h
 |x::a,[],_,h=>by simp [Op.bytesLess]at h
 |x::a,y::b,h1,h2=>by
  simp only [Op.bytesLess,Bool.or_eq_false_iff,decide_eq_false_iff_not,Bool.and_eq_false_iff]at h1 h2
  have hxy:x=y:=by
   have a1:=h1.1;have a2:=h2.1
   rw [UInt8.not_lt]at a1 a2
   exact UInt8.le_antisymm a2 a1
  subst hxy
  have e1:=h1.2.resolve_left (by simp)
  have e2:=h2.2.resolve_left (by simp)
  rw [At6 a b e1 e2]
theorem ordK:Ord (List UInt8) Op.bytesLess:=⟨At5,Aya,At6⟩
inductive V where
 |mk (k n g:Int) (s:List UInt8) (l:List V) (d:List (List UInt8 × V))
abbrev Ky:=List UInt8
abbrev Pr:=Ky × V
instance:Inhabited V:=⟨.mk 0 0 0 [] [] []⟩
def V.k:V→Int | .mk k _ _ _ _ _=>k
def V.n:V→Int | .mk _ n _ _ _ _=>n
def V.g:V→Int | .mk _ _ g _ _ _=>g
def V.s:V→List UInt8 | .mk _ _ _ s _ _=>s
def V.l:V→List V | .mk _ _ _ _ l _=>l
def V.d:V→List Pr | .mk _ _ _ _ _ d=>d
theorem Adl {k n g:Int} {s:List UInt8} {l:List V} {d:List Pr} {v:V} (h:v∈l):SizeOf.sizeOf v<SizeOf.sizeOf (V.mk k n g s l d):=by
 have:=List.sizeOf_lt_of_mem h
 simp;omega
theorem Adk {k n g:Int} {s:List UInt8} {l:List V} {d:List Pr} {p:Pr} (h:p∈d):SizeOf.sizeOf p.2<SizeOf.sizeOf (V.mk k n g s l d):=by
 have:=List.sizeOf_lt_of_mem h
 obtain⟨a,b⟩:=p
 simp at this ⊢; omega
def V.row:V→List IV
 | .mk k n g s l d=>[.int .i64 k, .int .i64 n, .int .i64 g, .str s, .sl .any 6 (l.attach.map fun⟨v,_h⟩=>V.row v), .sl .any 7 (d.attach.map fun⟨p,_h⟩=> .str p.1::V.row p.2)]
 termination_by v=>SizeOf.sizeOf v
 decreasing_by
  ·exact Adl _h
  ·exact Adk _h
def Bw(p:Pr):List IV:= .str p.1::p.2.row
theorem Cj(v:V):v.row=[.int .i64 v.k, .int .i64 v.n, .int .i64 v.g, .str v.s, .sl .any 6 (v.l.map V.row), .sl .any 7 (v.d.map Bw)]:=by
 obtain⟨k,n,g,s,l,d⟩:=v
 rw [V.row]
 simp [V.k,V.n,V.g,V.s,V.l,V.d]
 apply List.ext_getElem<;>simp [Bw]
theorem Iq(p:Pr):Bw p=[.str p.1, .int .i64 p.2.k, .int .i64 p.2.n, .int .i64 p.2.g, .str p.2.s, .sl .any 6 (p.2.l.map V.row), .sl .any 7 (p.2.d.map Bw)]:=by
 rw [Bw,Cj]
end Go.Proofs.Sim.Va
namespace Go.Proofs.Sim.Va
open Go Go.Proofs.Sim Go.Proofs.Sim.St
abbrev bl:Ky→Ky→Bool:=Op.bytesLess
abbrev pk:Pr→Ky:=fun p=>p.1
abbrev Bo(l:List Pr):List Pr:=Z6 bl pk l
abbrev Dy(l:List Pr):Prop:=Sorted bl pk l
abbrev Ar6(l m:List Pr):Prop:=Fib pk l m
def keepD(p:Pr):List Pr→List Pr
 | []=>[]
 |y::r=>if y.1=p.1 then keepD y r else y::keepD y r
def compact:List Pr→List Pr
 | []=>[]
 |x::r=>x::keepD x r
theorem Au1(r:List Pr):∀x:Pr,(keepD x r).Sublist r:=by
 induction r with
 |nil=>intro x;exact List.Sublist.refl _
 |cons y r ih=>
  intro x
  rw [keepD]
  split
  ·exact(ih y).cons y
  ·exact(ih y).cons_cons y
theorem Wm(l:List Pr):(compact l).Sublist l:=by
 cases l with
 |nil=>exact List.Sublist.refl _
 |cons x r=>exact(Au1 r x).cons_cons x
theorem Aln {l:List Pr} (h:Dy l):Dy (compact l):=h.sublist (Wm l)
theorem Vs(k:Ky)(x:Pr)(l:List Pr):Ht pk k (x::l)=if x.1=k then x::Ht pk k l else Ht pk k l:=by
 unfold Ht
 rw [List.filter_cons]
 by_cases h:x.1=k<;>simp [h]
theorem Auz(k:Ky)(r:List Pr):∀x:Pr,Dy (x::r)→Ht pk k (keepD x r)=if x.1=k then []else(Ht pk k r).take 1:=by
 induction r with
 |nil=>intro x h;simp [keepD,Ht]
 |cons y r ih=>
  intro x h
  have h1:=List.pairwise_cons.1 h
  have ihy:=ih y h1.2
  rw [keepD]
  by_cases e:y.1=x.1
  ·rw [if_pos e,ihy,e,Vs]
   by_cases hk:x.1=k
   ·simp [hk]
   ·rw [if_neg hk,if_neg hk,e,if_neg hk]
  ·rw [if_neg e,Vs,ihy,Vs]
   by_cases hk:x.1=k
   ·have hyk:¬y.1=k:=fun c=>e (c.trans hk.symm)
    rw [if_neg hyk,if_neg hyk,if_pos hk]
    have:Ht pk k r=[]:=Acr fun z hz c=>by
     have h2:=(List.pairwise_cons.1 h1.2).1 z hz
     have h3:=h1.1 y (by simp)
     have c:z.1=x.1:=by rw [hk];exact c
     have h2:bl z.1 y.1=false:=h2
     have h3:bl y.1 x.1=false:=h3
     rw [c]at h2
     exact e (ordK.tot _ _ h3 h2)
    rw [this];rfl
   ·by_cases hyk:y.1=k
    ·simp [hyk,hk]
    ·simp [hyk,hk]
theorem Aqz {l:List Pr} (h:Dy l)(k:Ky):Ht pk k (compact l)=(Ht pk k l).take 1:=by
 cases l with
 |nil=>rfl
 |cons x r=>
  rw [compact,Vs,Auz k r x h,Vs]
  by_cases hk:x.1=k<;>simp [hk]
def uniq(l:List Pr):List Pr:=compact (Bo l)
theorem Ahv(l:List Pr):Dy (uniq l):=Aln (He ordK l)
theorem Aqr(l:List Pr)(k:Ky):Ht pk k (uniq l)=(Ht pk k l).take 1:=by
 rw [uniq,Aqz (He ordK l),Jf ordK l k]
theorem Ai9 {l:List Pr} {p:Pr} (h:p∈uniq l):p∈l:=((Jf ordK l).mem p).1 ((Wm _).subset h)
theorem A0c {l m:List Pr} (h1:Dy m)(h2:∀k,Ht pk k m=(Ht pk k l).take 1):m=uniq l:=
 Adu ordK h1 (Ahv l) fun k=>by rw [h2,Aqr]
theorem Au0(f:V→V)(r:List Pr):∀x:Pr,keepD (x.1,f x.2) (r.map fun p=>(p.1,f p.2))=(keepD x r).map fun p=>(p.1,f p.2):=by
 induction r with
 |nil=>intro x;rfl
 |cons y r ih=>
  intro x
  simp only [List.map_cons,keepD]
  split
  ·exact ih y
  ·rw [List.map_cons,ih y]
theorem Aq0(f:V→V)(l:List Pr):compact (l.map fun p=>(p.1,f p.2))=(compact l).map fun p=>(p.1,f p.2):=by
 cases l with
 |nil=>rfl
 |cons x r=>simp only [List.map_cons,compact,Au0]
theorem Azq(f:V→V)(x:Pr)(l:List Pr):ins bl pk (x.1,f x.2) (l.map fun p=>(p.1,f p.2))=(ins bl pk x l).map fun p=>(p.1,f p.2):=by
 induction l with
 |nil=>rfl
 |cons y l ih=>
  simp only [List.map_cons,ins]
  split
  ·rw [List.map_cons,ih]
  ·rfl
theorem Axq(f:V→V)(l:List Pr):Bo (l.map fun p=>(p.1,f p.2))=(Bo l).map fun p=>(p.1,f p.2):=by
 induction l with
 |nil=>rfl
 |cons x l ih=>
  show ins bl pk (x.1,f x.2) (Bo (l.map fun p=>(p.1,f p.2)))=_
  rw [ih,Azq]
  rfl
theorem Axx(f:V→V)(l:List Pr):uniq (l.map fun p=>(p.1,f p.2))=(uniq l).map fun p=>(p.1,f p.2):=by
 rw [uniq,Axq,Aq0]
 rfl
def Qk(p:Pr):Bool:= !(decide (p.2.k=0))
def zero:V:= .mk 0 0 0 [] [] []
def Qj(k n g:Int)(s:List UInt8)(l:List V)(d:List Pr):V:=
 if k=1∨k=2 then .mk k n 0 [] [] []else if k=3∨k=4 then .mk k 0 0 s [] []else if k=5 then .mk k 0 0 [] l []else if k=6 then .mk k 0 0 [] [] ((uniq d).filter Qk)
 else if k=7 then .mk k n g [] [] []else if k=8 then .mk k 0 0 s [] ((uniq d).filter Qk)else zero
def V.plain:V→V
 | .mk k n g s l d=>Qj k n g s (l.attach.map fun⟨v,_h⟩=>V.plain v) (d.attach.map fun⟨p,_h⟩=>(p.1,V.plain p.2))
 termination_by v=>SizeOf.sizeOf v
 decreasing_by
  ·exact Adl _h
  ·exact Adk _h
def J2(d:List Pr):List Pr:=d.map fun p=>(p.1,p.2.plain)
theorem Dx(v:V):v.plain=Qj v.k v.n v.g v.s (v.l.map V.plain) (J2 v.d):=by
 obtain⟨k,n,g,s,l,d⟩:=v
 rw [V.plain]
 simp only [V.k,V.n,V.g,V.s,V.l,V.d,J2]
 congr 1
 ·simp
 ·apply List.ext_getElem<;>simp
def Pm(d:List Pr):List Pr:=(uniq (J2 d)).filter Qk
theorem A1p(d:List Pr):Pm d=(J2 (uniq d)).filter Qk:=by
 rw [Pm,J2,Axx]
 rfl
end Go.Proofs.Sim.Va

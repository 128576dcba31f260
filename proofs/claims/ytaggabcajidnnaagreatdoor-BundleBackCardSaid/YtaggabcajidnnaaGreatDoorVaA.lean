import Derived.Test.YtaggabcajidnnaaGreatDoorStL
import Derived.Test.YtaggabcajidnnaaGreatDoorSimV
import GoSem.Op.String
namespace Go.Proofs.Sim.Va
open Go Go.Proofs.Sim Go.Proofs.Sim.St
theorem Azt(a:List UInt8):Op.bytesLess a a=false:=by
 induction a with
 |nil=>rfl
 |cons x a ih=>simp [Op.bytesLess,ih]
theorem Bi6:∀(a b c:List UInt8),Op.bytesLess a b=true→Op.bytesLess b c=true→Op.bytesLess a c=true
 | [],b,c,h1,h2=>by
   cases c with
   |nil=>cases b<;>simp [Op.bytesLess]at h2
   |cons z c=>rfl
 |x::a,[],c,h1,_=>by simp [Op.bytesLess]at h1
 |x::a,y::b,[],_,h2=>by simp [Op.bytesLess]at h2
 |x::a,y::b,z::c,h1,h2=>by
  simp only [Op.bytesLess,Bool.or_eq_true,decide_eq_true_eq,Bool.and_eq_true,beq_iff_eq]at h1 h2 ⊢
  rcases h1 with h1 |⟨rfl,h1⟩
  ·rcases h2 with h2 |⟨rfl,h2⟩
   ·exact .inl (UInt8.lt_trans h1 h2)
   ·exact .inl h1
  ·rcases h2 with h2 |⟨rfl,h2⟩
   ·exact .inl h2
   ·exact .inr ⟨rfl,Bi6 a b c h1 h2⟩
theorem Bdh:∀(a b:List UInt8),Op.bytesLess a b=false→Op.bytesLess b a=false→a=b
 | [],[],_,_=>rfl
 | [],y::b,h,_=>by simp [Op.bytesLess]at h
 |x::a,[],_,h=>by simp [Op.bytesLess]at h
 |x::a,y::b,h1,h2=>by
  simp only [Op.bytesLess,Bool.or_eq_false_iff,decide_eq_false_iff_not,Bool.and_eq_false_iff]at h1 h2
  have hxy:x=y:=by
   have a1:=h1.1;have a2:=h2.1
   rw [UInt8.not_lt]at a1 a2
   exact UInt8.le_antisymm a2 a1
  subst hxy
  have e1:=h1.2.resolve_left (by simp)
  have e2:=h2.2.resolve_left (by simp)
  rw [Bdh a b e1 e2]
theorem ordK:Ord (List UInt8) Op.bytesLess:=⟨Azt,Bi6,Bdh⟩
inductive V where
 |mk (k n g:Int) (s:List UInt8) (l:List V) (d:List (List UInt8 × V))
abbrev Ky:=List UInt8
abbrev Pr:=Ky × V
instance:Inhabited V:=⟨.mk 0 0 0 [] [] []⟩
def V.k:V→Int | .mk k _ _ _ _ _=>k
def V.n:V→Int | .mk _ n _ _ _ _=>n
def V.g:V→Int | .mk _ _ g _ _ _=>g
def V.s:V→List UInt8 | .mk _ _ _ s _ _=>s
def V.l:V→List V | .mk _ _ _ _ l _=>l
def V.d:V→List Pr | .mk _ _ _ _ _ d=>d
theorem At2 {k n g:Int} {s:List UInt8} {l:List V} {d:List Pr} {v:V} (h:v∈l):SizeOf.sizeOf v<SizeOf.sizeOf (V.mk k n g s l d):=by
 have:=List.sizeOf_lt_of_mem h
 simp;omega
theorem At1 {k n g:Int} {s:List UInt8} {l:List V} {d:List Pr} {p:Pr} (h:p∈d):SizeOf.sizeOf p.2<SizeOf.sizeOf (V.mk k n g s l d):=by
 have:=List.sizeOf_lt_of_mem h
 obtain⟨a,b⟩:=p
 simp at this ⊢; omega
def V.row:V→List IV
 | .mk k n g s l d=>[.int .i64 k, .int .i64 n, .int .i64 g, .str s, .sl .any 6 (l.attach.map fun⟨v,_h⟩=>V.row v), .sl .any 7 (d.attach.map fun⟨p,_h⟩=> .str p.1::V.row p.2)]
 termination_by v=>SizeOf.sizeOf v
 decreasing_by
  ·exact At2 _h
  ·exact At1 _h
def Bf(p:Pr):List IV:= .str p.1::p.2.row
theorem Co(v:V):v.row=[.int .i64 v.k, .int .i64 v.n, .int .i64 v.g, .str v.s, .sl .any 6 (v.l.map V.row), .sl .any 7 (v.d.map Bf)]:=by
 obtain⟨k,n,g,s,l,d⟩:=v
 rw [V.row]
 simp [V.k,V.n,V.g,V.s,V.l,V.d]
 apply List.ext_getElem<;>simp [Bf]
theorem I8(p:Pr):Bf p=[.str p.1, .int .i64 p.2.k, .int .i64 p.2.n, .int .i64 p.2.g, .str p.2.s, .sl .any 6 (p.2.l.map V.row), .sl .any 7 (p.2.d.map Bf)]:=by
 rw [Bf,Co]
end Go.Proofs.Sim.Va
namespace Go.Proofs.Sim.Va
open Go Go.Proofs.Sim Go.Proofs.Sim.St
abbrev bl:Ky→Ky→Bool:=Op.bytesLess
abbrev pk:Pr→Ky:=fun p=>p.1
abbrev Cb(l:List Pr):List Pr:=srt bl pk l
abbrev Dt(l:List Pr):Prop:=Sorted bl pk l
abbrev Ba0(l m:List Pr):Prop:=Fib pk l m
def keepD(p:Pr):List Pr→List Pr
 | []=>[]
 |y::r=>if y.1=p.1 then keepD y r else y::keepD y r
def compact:List Pr→List Pr
 | []=>[]
 |x::r=>x::keepD x r
theorem Bem(r:List Pr):∀x:Pr,(keepD x r).Sublist r:=by
 induction r with
 |nil=>intro x;exact List.Sublist.refl _
 |cons y r ih=>
  intro x
  rw [keepD]
  split
  ·exact(ih y).cons y
  ·exact(ih y).cons_cons y
theorem Zq(l:List Pr):(compact l).Sublist l:=by
 cases l with
 |nil=>exact List.Sublist.refl _
 |cons x r=>exact(Bem r x).cons_cons x
theorem A18 {l:List Pr} (h:Dt l):Dt (compact l):=h.sublist (Zq l)
theorem Aeg(k:Ky)(x:Pr)(l:List Pr):F7 pk k (x::l)=if x.1=k then x::F7 pk k l else F7 pk k l:=by
 unfold F7
 rw [List.filter_cons]
 by_cases h:x.1=k<;>simp [h]
theorem Bek(k:Ky)(r:List Pr):∀x:Pr,Dt (x::r)→F7 pk k (keepD x r)=if x.1=k then []else(F7 pk k r).take 1:=by
 induction r with
 |nil=>intro x h;simp [keepD,F7]
 |cons y r ih=>
  intro x h
  have h1:=List.pairwise_cons.1 h
  have ihy:=ih y h1.2
  rw [keepD]
  by_cases e:y.1=x.1
  ·rw [if_pos e,ihy,e,Aeg]
   by_cases hk:x.1=k
   ·simp [hk]
   ·rw [if_neg hk,if_neg hk,e,if_neg hk]
  ·rw [if_neg e,Aeg,ihy,Aeg]
   by_cases hk:x.1=k
   ·have hyk:¬y.1=k:=fun c=>e (c.trans hk.symm)
    rw [if_neg hyk,if_neg hyk,if_pos hk]
    have:F7 pk k r=[]:=Aj8 fun z hz c=>by
     have h2:=(List.pairwise_cons.1 h1.2).1 z hz
     have h3:=h1.1 y (by simp)
     have c:z.1=x.1:=by rw [hk];exact c
     have h2:bl z.1 y.1=false:=h2
     have h3:bl y.1 x.1=false:=h3
     rw [c]at h2
     exact e (ordK.tot _ _ h3 h2)
    rw [this];rfl
   ·by_cases hyk:y.1=k
    ·simp [hyk,hk]
    ·simp [hyk,hk]
theorem A9j {l:List Pr} (h:Dt l)(k:Ky):F7 pk k (compact l)=(F7 pk k l).take 1:=by
 cases l with
 |nil=>rfl
 |cons x r=>
  rw [compact,Aeg,Bek k r x h,Aeg]
  by_cases hk:x.1=k<;>simp [hk]
def uniq(l:List Pr):List Pr:=compact (Cb l)
theorem Amn(l:List Pr):Dt (uniq l):=A18 (Jy ordK l)
theorem Ayq(l:List Pr)(k:Ky):F7 pk k (uniq l)=(F7 pk k l).take 1:=by
 rw [uniq,A9j (Jy ordK l),Mm ordK l k]
theorem Ap8 {l:List Pr} {p:Pr} (h:p∈uniq l):p∈l:=((Mm ordK l).mem p).1 ((Zq _).subset h)
theorem Bly {l m:List Pr} (h1:Dt m)(h2:∀k,F7 pk k m=(F7 pk k l).take 1):m=uniq l:=
 Aqi ordK h1 (Amn l) fun k=>by rw [h2,Ayq]
def Bnn(p:Pr):List Pr→List Pr
 | []=>[p]
 |q::r=>if bl p.1 q.1 then p::q::r else q::Bnn p r
def put(d:List Pr)(p:Pr):List Pr:=if d.any (fun q=>q.1 == p.1)then d else Bnn p d
theorem Bel(f:V→V)(r:List Pr):∀x:Pr,keepD (x.1,f x.2) (r.map fun p=>(p.1,f p.2))=(keepD x r).map fun p=>(p.1,f p.2):=by
 induction r with
 |nil=>intro x;rfl
 |cons y r ih=>
  intro x
  simp only [List.map_cons,keepD]
  split
  ·exact ih y
  ·rw [List.map_cons,ih y]
theorem A9k(f:V→V)(l:List Pr):compact (l.map fun p=>(p.1,f p.2))=(compact l).map fun p=>(p.1,f p.2):=by
 cases l with
 |nil=>rfl
 |cons x r=>simp only [List.map_cons,compact,Bel]
theorem Bkv(f:V→V)(x:Pr)(l:List Pr):ins bl pk (x.1,f x.2) (l.map fun p=>(p.1,f p.2))=(ins bl pk x l).map fun p=>(p.1,f p.2):=by
 induction l with
 |nil=>rfl
 |cons y l ih=>
  simp only [List.map_cons,ins]
  split
  ·rw [List.map_cons,ih]
  ·rfl
theorem Bij(f:V→V)(l:List Pr):Cb (l.map fun p=>(p.1,f p.2))=(Cb l).map fun p=>(p.1,f p.2):=by
 induction l with
 |nil=>rfl
 |cons x l ih=>
  show ins bl pk (x.1,f x.2) (Cb (l.map fun p=>(p.1,f p.2)))=_
  rw [ih,Bkv]
  rfl
theorem Bis(f:V→V)(l:List Pr):uniq (l.map fun p=>(p.1,f p.2))=(uniq l).map fun p=>(p.1,f p.2):=by
 rw [uniq,Bij,A9k]
 rfl
def Ut(p:Pr):Bool:= !(decide (p.2.k=0))
def zero:V:= .mk 0 0 0 [] [] []
def Us(k n g:Int)(s:List UInt8)(l:List V)(d:List Pr):V:=
 if k=1∨k=2 then .mk k n 0 [] [] []else if k=3∨k=4 then .mk k 0 0 s [] []else if k=5 then .mk k 0 0 [] l []else if k=6 then .mk k 0 0 [] [] ((uniq d).filter Ut)
 else if k=7 then .mk k n g [] [] []else if k=8 then .mk k 0 0 s [] ((uniq d).filter Ut)else zero
def V.plain:V→V
 | .mk k n g s l d=>Us k n g s (l.attach.map fun⟨v,_h⟩=>V.plain v) (d.attach.map fun⟨p,_h⟩=>(p.1,V.plain p.2))
 termination_by v=>SizeOf.sizeOf v
 decreasing_by
  ·exact At2 _h
  ·exact At1 _h
def Lv(d:List Pr):List Pr:=d.map fun p=>(p.1,p.2.plain)
theorem Eh(v:V):v.plain=Us v.k v.n v.g v.s (v.l.map V.plain) (Lv v.d):=by
 obtain⟨k,n,g,s,l,d⟩:=v
 rw [V.plain]
 simp only [V.k,V.n,V.g,V.s,V.l,V.d,Lv]
 congr 1
 ·simp
 ·apply List.ext_getElem<;>simp
def Sa(d:List Pr):List Pr:=(uniq (Lv d)).filter Ut
theorem Bn2(d:List Pr):Sa d=(Lv (uniq d)).filter Ut:=by
 rw [Sa,Lv,Bis]
 rfl
end Go.Proofs.Sim.Va

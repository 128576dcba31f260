import Derived.Test.YtcdjheflchglaaaGreatDoorStL
import Derived.Test.YtcdjheflchglaaaGreatDoorSimV
import GoSem.Op.String
namespace Go.Proofs.Sim.Va
open Go Go.Proofs.Sim Go.Proofs.Sim.St
theorem A2f(a:List UInt8):Op.bytesLess a a=false:=by
 induction a with
 |nil=>rfl
 |cons x a ih=>simp [Op.bytesLess,ih]
theorem A7o:∀(a b c:List UInt8),Op.bytesLess a b=true→Op.bytesLess b c=true→Op.bytesLess a c=true
 | [],b,c,h1,h2=>by
   cases c with
   |nil=>cases b<;>simp [Op.bytesLess]at h2
   |cons z c=>rfl
 |x::a,[],c,h1,_=>by simp [Op.bytesLess]at h1
 |x::a,y::b,[],_,h2=>by simp [Op.bytesLess]at h2
 |x::a,y::b,z::c,h1,h2=>by
  simp only [Op.bytesLess,Bool.or_eq_true,decide_eq_true_eq,Bool.and_eq_true,beq_iff_eq]at h1 h2 ⊢
  rcases h1 with h1 |⟨rfl,h1⟩
  ·rcases h2 with h2 |⟨rfl,h2⟩
   ·exact .inl (UInt8.lt_trans h1 h2)
   ·exact .inl h1
  ·rcases h2 with h2 |⟨rfl,h2⟩
   ·exact .inl h2
   ·exact .inr ⟨rfl,A7o a b c h1 h2⟩
theorem A2g:∀(a b:List UInt8),Op.bytesLess a b=false→Op.bytesLess b a=false→a=b
 | [],[],_,_=>rfl
 | [],y::b,h,_=>by simp [Op.bytesLess]at h
 |x::a,[],_,h=>by simp [Op.bytesLess]at h
 |x::a,y::b,h1,h2=>by
  simp only [Op.bytesLess,Bool.or_eq_false_iff,decide_eq_false_iff_not,Bool.and_eq_false_iff]at h1 h2
  have hxy:x=y:=by
   have a1:=h1.1;have a2:=h2.1
   rw [UInt8.not_lt]at a1 a2
   exact UInt8.le_antisymm a2 a1
  subst hxy
  have e1:=h1.2.resolve_left (by simp)
  have e2:=h2.2.resolve_left (by simp)
  rw [A2g a b e1 e2]
theorem ordK:Ord (List UInt8) Op.bytesLess:=⟨A2f,A7o,A2g⟩
inductive V where
 |mk (k n g:Int) (s:List UInt8) (l:List V) (d:List (List UInt8 × V))
abbrev Ky:=List UInt8
abbrev Pr:=Ky × V
instance:Inhabited V:=⟨.mk 0 0 0 [] [] []⟩
def V.k:V→Int | .mk k _ _ _ _ _=>k
def V.n:V→Int | .mk _ n _ _ _ _=>n
def V.g:V→Int | .mk _ _ g _ _ _=>g
def V.s:V→List UInt8 | .mk _ _ _ s _ _=>s
def V.l:V→List V | .mk _ _ _ _ l _=>l
def V.d:V→List Pr | .mk _ _ _ _ _ d=>d
theorem Am4 {k n g:Int} {s:List UInt8} {l:List V} {d:List Pr} {v:V} (h:v∈l):SizeOf.sizeOf v<SizeOf.sizeOf (V.mk k n g s l d):=by
 have:=List.sizeOf_lt_of_mem h
 simp;omega
theorem Am3 {k n g:Int} {s:List UInt8} {l:List V} {d:List Pr} {p:Pr} (h:p∈d):SizeOf.sizeOf p.2<SizeOf.sizeOf (V.mk k n g s l d):=by
 have:=List.sizeOf_lt_of_mem h
 obtain⟨a,b⟩:=p
 simp at this ⊢; omega
def V.row:V→List IV
 | .mk k n g s l d=>[.int .i64 k, .int .i64 n, .int .i64 g, .str s, .sl .any 6 (l.attach.map fun⟨v,_h⟩=>V.row v), .sl .any 7 (d.attach.map fun⟨p,_h⟩=> .str p.1::V.row p.2)]
 termination_by v=>SizeOf.sizeOf v
 decreasing_by
  ·exact Am4 _h
  ·exact Am3 _h
def C9(p:Pr):List IV:= .str p.1::p.2.row
theorem Ha(v:V):v.row=[.int .i64 v.k, .int .i64 v.n, .int .i64 v.g, .str v.s, .sl .any 6 (v.l.map V.row), .sl .any 7 (v.d.map C9)]:=by
 obtain⟨k,n,g,s,l,d⟩:=v
 rw [V.row]
 simp [V.k,V.n,V.g,V.s,V.l,V.d]
 apply List.ext_getElem<;>simp [C9]
theorem Nw(p:Pr):C9 p=[.str p.1, .int .i64 p.2.k, .int .i64 p.2.n, .int .i64 p.2.g, .str p.2.s, .sl .any 6 (p.2.l.map V.row), .sl .any 7 (p.2.d.map C9)]:=by
 rw [C9,Ha]
end Go.Proofs.Sim.Va
namespace Go.Proofs.Sim.Va
open Go Go.Proofs.Sim Go.Proofs.Sim.St
abbrev bl:Ky→Ky→Bool:=Op.bytesLess
abbrev pk:Pr→Ky:=fun p=>p.1
abbrev Cg(l:List Pr):List Pr:=srt bl pk l
abbrev Ev(l:List Pr):Prop:=Sorted bl pk l
abbrev A0f(l m:List Pr):Prop:=Fib pk l m
def keepD(p:Pr):List Pr→List Pr
 | []=>[]
 |y::r=>if y.1=p.1 then keepD y r else y::keepD y r
def compact:List Pr→List Pr
 | []=>[]
 |x::r=>x::keepD x r
theorem A3g(r:List Pr):∀x:Pr,(keepD x r).Sublist r:=by
 induction r with
 |nil=>intro x;exact List.Sublist.refl _
 |cons y r ih=>
  intro x
  rw [keepD]
  split
  ·exact(ih y).cons y
  ·exact(ih y).cons_cons y
theorem Wj(l:List Pr):(compact l).Sublist l:=by
 cases l with
 |nil=>exact List.Sublist.refl _
 |cons x r=>exact(A3g r x).cons_cons x
theorem As9 {l:List Pr} (h:Ev l):Ev (compact l):=h.sublist (Wj l)
theorem Aay(k:Ky)(x:Pr)(l:List Pr):Jl pk k (x::l)=if x.1=k then x::Jl pk k l else Jl pk k l:=by
 unfold Jl
 rw [List.filter_cons]
 by_cases h:x.1=k<;>simp [h]
theorem A3e(k:Ky)(r:List Pr):∀x:Pr,Ev (x::r)→Jl pk k (keepD x r)=if x.1=k then []else(Jl pk k r).take 1:=by
 induction r with
 |nil=>intro x h;simp [keepD,Jl]
 |cons y r ih=>
  intro x h
  have h1:=List.pairwise_cons.1 h
  have ihy:=ih y h1.2
  rw [keepD]
  by_cases e:y.1=x.1
  ·rw [if_pos e,ihy,e,Aay]
   by_cases hk:x.1=k
   ·simp [hk]
   ·rw [if_neg hk,if_neg hk,e,if_neg hk]
  ·rw [if_neg e,Aay,ihy,Aay]
   by_cases hk:x.1=k
   ·have hyk:¬y.1=k:=fun c=>e (c.trans hk.symm)
    rw [if_neg hyk,if_neg hyk,if_pos hk]
    have:Jl pk k r=[]:=Ajc fun z hz c=>by
     have h2:=(List.pairwise_cons.1 h1.2).1 z hz
     have h3:=h1.1 y (by simp)
     have c:z.1=x.1:=by rw [hk];exact c
     have h2:bl z.1 y.1=false:=h2
     have h3:bl y.1 x.1=false:=h3
     rw [c]at h2
     exact e (ordK.tot _ _ h3 h2)
    rw [this];rfl
   ·by_cases hyk:y.1=k
    ·simp [hyk,hk]
    ·simp [hyk,hk]
theorem Ay4 {l:List Pr} (h:Ev l)(k:Ky):Jl pk k (compact l)=(Jl pk k l).take 1:=by
 cases l with
 |nil=>rfl
 |cons x r=>
  rw [compact,Aay,A3e k r x h,Aay]
  by_cases hk:x.1=k<;>simp [hk]
def uniq(l:List Pr):List Pr:=compact (Cg l)
theorem Apc(l:List Pr):Ev (uniq l):=As9 (Jd ordK l)
theorem Ayt(l:List Pr)(k:Ky):Jl pk k (uniq l)=(Jl pk k l).take 1:=by
 rw [uniq,Ay4 (Jd ordK l),Ld ordK l k]
theorem Aj6 {l:List Pr} {p:Pr} (h:p∈uniq l):p∈l:=((Ld ordK l).mem p).1 ((Wj _).subset h)
theorem A92 {l m:List Pr} (h1:Ev m)(h2:∀k,Jl pk k m=(Jl pk k l).take 1):m=uniq l:=
 Akd ordK h1 (Apc l) fun k=>by rw [h2,Ayt]
theorem A3f(f:V→V)(r:List Pr):∀x:Pr,keepD (x.1,f x.2) (r.map fun p=>(p.1,f p.2))=(keepD x r).map fun p=>(p.1,f p.2):=by
 induction r with
 |nil=>intro x;rfl
 |cons y r ih=>
  intro x
  simp only [List.map_cons,keepD]
  split
  ·exact ih y
  ·rw [List.map_cons,ih y]
theorem Ay5(f:V→V)(l:List Pr):compact (l.map fun p=>(p.1,f p.2))=(compact l).map fun p=>(p.1,f p.2):=by
 cases l with
 |nil=>rfl
 |cons x r=>simp only [List.map_cons,compact,A3f]
theorem A84(f:V→V)(x:Pr)(l:List Pr):ins bl pk (x.1,f x.2) (l.map fun p=>(p.1,f p.2))=(ins bl pk x l).map fun p=>(p.1,f p.2):=by
 induction l with
 |nil=>rfl
 |cons y l ih=>
  simp only [List.map_cons,ins]
  split
  ·rw [List.map_cons,ih]
  ·rfl
theorem A61(f:V→V)(l:List Pr):Cg (l.map fun p=>(p.1,f p.2))=(Cg l).map fun p=>(p.1,f p.2):=by
 induction l with
 |nil=>rfl
 |cons x l ih=>
  show ins bl pk (x.1,f x.2) (Cg (l.map fun p=>(p.1,f p.2)))=_
  rw [ih,A84]
  rfl
theorem A68(f:V→V)(l:List Pr):uniq (l.map fun p=>(p.1,f p.2))=(uniq l).map fun p=>(p.1,f p.2):=by
 rw [uniq,A61,Ay5]
 rfl
def Ud(p:Pr):Bool:= !(decide (p.2.k=0))
def zero:V:= .mk 0 0 0 [] [] []
def Rv(k n g:Int)(s:List UInt8)(l:List V)(d:List Pr):V:=
 if k=1∨k=2 then .mk k n 0 [] [] []else if k=3∨k=4 then .mk k 0 0 s [] []else if k=5 then .mk k 0 0 [] l []else if k=6 then .mk k 0 0 [] [] ((uniq d).filter Ud)
 else if k=7 then .mk k n g [] [] []else if k=8 then .mk k 0 0 s [] ((uniq d).filter Ud)else zero
def V.plain:V→V
 | .mk k n g s l d=>Rv k n g s (l.attach.map fun⟨v,_h⟩=>V.plain v) (d.attach.map fun⟨p,_h⟩=>(p.1,V.plain p.2))
 termination_by v=>SizeOf.sizeOf v
 decreasing_by
  ·exact Am4 _h
  ·exact Am3 _h
def M6(d:List Pr):List Pr:=d.map fun p=>(p.1,p.2.plain)
theorem Fg(v:V):v.plain=Rv v.k v.n v.g v.s (v.l.map V.plain) (M6 v.d):=by
 obtain⟨k,n,g,s,l,d⟩:=v
 rw [V.plain]
 simp only [V.k,V.n,V.g,V.s,V.l,V.d,M6]
 congr 1
 ·simp
 ·apply List.ext_getElem<;>simp
def S9(d:List Pr):List Pr:=(uniq (M6 d)).filter Ud
theorem Bbt(d:List Pr):S9 d=(M6 (uniq d)).filter Ud:=by
 rw [S9,M6,A68]
 rfl
end Go.Proofs.Sim.Va

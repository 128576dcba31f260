namespace Go.Proofs.Sim.St
universe u v
structure Ord (κ:Type) (lt:κ→κ→Bool):Prop where
 irr:∀a,lt a a=false
 tr:∀a b c,lt a b=true→lt b c=true→lt a c=true
 tot:∀a b,lt a b=false→lt b a=false→a=b
variable {α κ:Type} {lt:κ→κ→Bool} {key:α→κ}
theorem Ord.asym(O:Ord κ lt) {a b:κ} (h:lt a b=true):lt b a=false:=by
 cases hb:lt b a with
 |false=>rfl
 |true=>have:=O.tr _ _ _ h hb;rw [O.irr]at this;cases this
theorem Ord.le_tr(O:Ord κ lt) {a b c:κ} (h1:lt b a=false)(h2:lt c b=false):lt c a=false:=by
 cases hc:lt c a with
 |false=>rfl
 |true=>
  cases hab:lt a b with
  |true=>have:=O.tr _ _ _ hc hab;rw [h2]at this;cases this
  |false=>have:=O.tot _ _ hab h1;subst this;rw [h2]at hc;cases hc
def Sorted(lt:κ→κ→Bool)(key:α→κ)(l:List α):Prop:=l.Pairwise fun x y=>lt (key y) (key x)=false
theorem Jw {a b:List α} :Sorted lt key (a++b)↔Sorted lt key a∧Sorted lt key b∧∀x∈a,∀y∈b,lt (key y) (key x)=false:=List.pairwise_append
def ins(lt:κ→κ→Bool)(key:α→κ)(x:α):List α→List α
 | []=>[x]
 |y::r=>if lt (key y) (key x)then y::ins lt key x r else x::y::r
def srt(lt:κ→κ→Bool)(key:α→κ):List α→List α
 | []=>[]
 |x::l=>ins lt key x (srt lt key l)
theorem Bkw(x:α)(l:List α):∀z,z∈ins lt key x l↔z=x∨z∈l:=by
 induction l with
 |nil=>intro z;simp [ins]
 |cons y r ih=>
  intro z
  rw [ins]
  split
  ·simp [ih];constructor
   ·rintro(h |h |h);exact .inr (.inl h);exact .inl h;exact .inr (.inr h)
   ·rintro(h |h |h);exact .inr (.inl h);exact .inl h;exact .inr (.inr h)
  ·simp
theorem Bbw(O:Ord κ lt)(x:α)(l:List α)(h:Sorted lt key l):Sorted lt key (ins lt key x l):=by
 induction l with
 |nil=>exact List.pairwise_singleton _ _
 |cons y r ih=>
  have h':=List.pairwise_cons.1 h
  rw [ins]
  split
  ·rename_i hy
   refine List.pairwise_cons.2 ⟨fun z hz=> ?_,ih h'.2⟩
   rcases (Bkw x r z).1 hz with e |e
   ·subst e;exact O.asym hy
   ·exact h'.1 z e
  ·rename_i hy
   have hy:lt (key y) (key x)=false:=by simpa using hy
   refine List.pairwise_cons.2 ⟨fun z hz=> ?_,h⟩
   rcases List.mem_cons.1 hz with e |e
   ·subst e;exact hy
   ·exact O.le_tr hy (h'.1 z e)
theorem Jy(O:Ord κ lt)(l:List α):Sorted lt key (srt lt key l):=by
 induction l with
 |nil=>exact List.Pairwise.nil
 |cons x l ih=>exact Bbw O x _ ih
variable [DecidableEq κ]
def F7(key:α→κ)(k:κ)(l:List α):List α:=l.filter fun x=>decide (key x=k)
def Fib(key:α→κ)(l m:List α):Prop:=∀k,F7 key k l=F7 key k m
theorem Aip(key:α→κ)(k:κ)(a b:List α):F7 key k (a++b)=F7 key k a++F7 key k b:=List.filter_append ..
theorem Fib.refl(l:List α):Fib key l l:=fun _=>rfl
theorem Fib.symm {l m:List α} (h:Fib key l m):Fib key m l:=fun k=>(h k).symm
theorem Fib.trans {l m n:List α} (h:Fib key l m)(g:Fib key m n):Fib key l n:=fun k=>(h k).trans (g k)
theorem Fib.app {a b c d:List α} (h:Fib key a b)(g:Fib key c d):Fib key (a++c) (b++d):=fun k=>by rw [Aip,Aip,h k,g k]
theorem Fib.mem {l m:List α} (h:Fib key l m)(x:α):x∈l↔x∈m:=by
 have e:∀l:List α,x∈l↔x∈F7 key (key x) l:=by
  intro l;simp [F7]
 rw [e l,e m,h]
theorem Aj8 {l:List α} {k:κ} (h:∀x∈l,key x≠k):F7 key k l=[]:=by
 unfold F7
 rw [List.filter_eq_nil_iff]
 intro x hx
 simpa using h x hx
theorem Fib.swap {a b:List α} (h:∀x∈a,∀y∈b,key x≠key y):Fib key (a++b) (b++a):=by
 intro k
 rw [Aip,Aip]
 by_cases hb:∃y∈b,key y=k
 ·obtain⟨y,hy,rfl⟩:=hb
  rw [Aj8 fun x hx=>h x hx y hy];simp
 ·rw [Aj8 (l:=b) fun y hy e=>hb ⟨y,hy,e⟩];simp
theorem Fib.length {l:List α} :∀ {m:List α},Fib key l m→l.length=m.length:=by
 induction l with
 |nil=>
  intro m h
  cases m with
  |nil=>rfl
  |cons y m=>have:=(h.mem y).2 (by simp);cases this
 |cons x l ih=>
  intro m h
  have hx:x∈m:=(h.mem x).1 (by simp)
  have hf:=h (key x)
  have hs:∃m1 m2 z,m=m1++z::m2∧key z=key x∧∀w∈m1,key w≠key x:=by
   clear h hf ih
   induction m with
   |nil=>cases hx
   |cons y m ihm=>
    by_cases hy:key y=key x
    ·exact⟨[],m,y,rfl,hy,fun w hw=>by cases hw⟩
    ·have hx':x∈m:=by
      rcases List.mem_cons.1 hx with e |e
      ·subst e;exact absurd rfl hy
      ·exact e
     obtain⟨m1,m2,z,rfl,h1,h2⟩:=ihm hx'
     exact⟨y::m1,m2,z,rfl,h1,fun w hw=>by rcases List.mem_cons.1 hw with e |e;subst e;exact hy;exact h2 w e⟩
  obtain⟨m1,m2,z,rfl,hz,hm1⟩:=hs
  have:Fib key l (m1++m2):=by
   intro k
   have hk:=h k
   have e1:F7 key k (x::l)=(if key x=k then [x]else [])++F7 key k l:=by
    unfold F7;rw [List.filter_cons];by_cases c:key x=k<;>simp [c]
   have e2:F7 key k (m1++z::m2)=F7 key k m1++((if key z=k then [z]else [])++F7 key k m2):=by
    rw [Aip];congr 1
    unfold F7;rw [List.filter_cons];by_cases c:key z=k<;>simp [c]
   rw [e1,e2,hz]at hk
   rw [Aip]
   by_cases c:key x=k
   ·subst c
    rw [Aj8 hm1]at hk ⊢
    simp at hk ⊢
    exact hk.2
   ·simpa [c] using hk
  have:=ih this
  simp at this ⊢; omega
theorem Aqi(O:Ord κ lt):∀ {l m:List α},Sorted lt key l→Sorted lt key m→Fib key l m→l=m:=by
 intro l
 induction l with
 |nil=>
  intro m _ _ h
  cases m with
  |nil=>rfl
  |cons y m=>have:=(h.mem y).2 (by simp);cases this
 |cons x l ih=>
  intro m hl hm h
  cases m with
  |nil=>have:=(h.mem x).1 (by simp);cases this
  |cons y m=>
   have hl':=List.pairwise_cons.1 hl
   have hm':=List.pairwise_cons.1 hm
   have hxy:lt (key x) (key y)=false:=by
    have:=(h.mem x).1 (by simp)
    rcases List.mem_cons.1 this with e |e
    ·rw [e];exact O.irr _
    ·exact hm'.1 x e
   have hyx:lt (key y) (key x)=false:=by
    have:=(h.mem y).2 (by simp)
    rcases List.mem_cons.1 this with e |e
    ·rw [e];exact O.irr _
    ·exact hl'.1 y e
   have hk:=O.tot _ _ hxy hyx
   have h0:=h (key x)
   have e1:F7 key (key x) (x::l)=x::F7 key (key x) l:=by simp [F7]
   have e2:F7 key (key x) (y::m)=y::F7 key (key x) m:=by simp [F7,hk]
   rw [e1,e2]at h0
   injection h0 with h1 h2
   subst h1
   congr 1
   refine ih hl'.2 hm'.2 fun k=> ?_
   have hk':=h k
   by_cases c:key x=k
   ·subst c;exact h2
   ·simpa [F7,c] using hk'
theorem Bku(O:Ord κ lt)(x:α)(l:List α):Fib key (ins lt key x l) (x::l):=by
 induction l with
 |nil=>exact Fib.refl _
 |cons y r ih=>
  rw [ins]
  split
  ·rename_i hy
   have hne:key y≠key x:=fun e=>by rw [e,O.irr]at hy;cases hy
   have h1:Fib key ([y]++ins lt key x r) ([y]++([x]++r)):=Fib.app (Fib.refl [y]) ih
   have h2:Fib key ([y]++[x]) ([x]++[y]):=Fib.swap (by simpa using hne)
   have h3:Fib key ([y]++[x]++r) ([x]++[y]++r):=Fib.app h2 (Fib.refl r)
   rw [←List.append_assoc]at h1
   exact h1.trans h3
  ·exact Fib.refl _
theorem Mm(O:Ord κ lt)(l:List α):Fib key (srt lt key l) l:=by
 induction l with
 |nil=>exact Fib.refl _
 |cons x l ih=>exact(Bku O x _).trans (Fib.app (Fib.refl [x]) ih)
theorem Af7(O:Ord κ lt) {l m:List α} (h1:Sorted lt key m)(h2:Fib key m l):m=srt lt key l:=
 Aqi O h1 (Jy O l) (h2.trans (Mm O l).symm)
theorem Gu(O:Ord κ lt)(l:List α):(srt lt key l).length=l.length:=(Mm O l).length
theorem Ap1(O:Ord κ lt) {a1 a2:List α} {y:α} (hs:Sorted lt key (a1++a2))(h1:∀x∈a1,lt (key y) (key x)=false)(h2:∀x∈a2,lt (key y) (key x)=true):
 a1++y::a2=srt lt key (a1++a2++[y]):=by
 obtain⟨s1,s2,s3⟩:=Jw.1 hs
 refine Af7 O ?_ ?_
 ·refine Jw.2 ⟨s1,List.pairwise_cons.2 ⟨fun z hz=>O.asym (h2 z hz),s2⟩,fun x hx z hz=> ?_⟩
  rcases List.mem_cons.1 hz with e |e
  ·subst e;exact h1 x hx
  ·exact s3 x hx z e
 ·rw [List.append_assoc]
  refine Fib.app (Fib.refl a1) ?_
  refine Fib.swap (a:=[y]) (b:=a2) fun x hx z hz=> ?_
  have hx:x=y:=by simpa using hx
  subst hx
  intro e
  have:=h2 z hz
  rw [e,O.irr]at this;cases this
theorem A9s(O:Ord κ lt) {b1 b2:List α} {x:α} (hs:Sorted lt key (b1++b2))(h1:∀y∈b1,lt (key y) (key x)=true)(h2:∀y∈b2,lt (key y) (key x)=false):
 b1++x::b2=srt lt key (x::(b1++b2)):=by
 obtain⟨s1,s2,s3⟩:=Jw.1 hs
 refine Af7 O ?_ ?_
 ·refine Jw.2 ⟨s1,List.pairwise_cons.2 ⟨fun z hz=>h2 z hz,s2⟩,fun y hy z hz=> ?_⟩
  rcases List.mem_cons.1 hz with e |e
  ·subst e;exact O.asym (h1 y hy)
  ·exact s3 y hy z e
 ·have:Fib key (b1++[x]) ([x]++b1):=Fib.swap (b:=[x]) fun y hy z hz=>by
   have hz:z=x:=by simpa using hz
   subst hz
   intro e
   have:=h1 y hy
   rw [e,O.irr]at this;cases this
  have:=Fib.app this (Fib.refl b2)
  simpa using this
theorem Bfo(O:Ord κ lt) {a1 a2 b1 b2:List α} (ha:Sorted lt key (a1++a2))(hb:Sorted lt key (b1++b2))(h1:∀x∈a2,∀y∈b1,lt (key y) (key x)=true)(h2:∀x∈a1,∀y∈b2,lt (key y) (key x)=false):
 srt lt key (a1++b1)++srt lt key (a2++b2)=srt lt key (a1++a2++(b1++b2)):=by
 obtain⟨s1,s2,s3⟩:=Jw.1 ha
 obtain⟨t1,t2,t3⟩:=Jw.1 hb
 refine Af7 O ?_ ?_
 ·refine Jw.2 ⟨Jy O _,Jy O _,fun x hx y hy=> ?_⟩
  have hx:=((Mm O (a1++b1)).mem x).1 hx
  have hy:=((Mm O (a2++b2)).mem y).1 hy
  rcases List.mem_append.1 hx with hx |hx<;>rcases List.mem_append.1 hy with hy |hy
  ·exact s3 x hx y hy
  ·exact h2 x hx y hy
  ·exact O.asym (h1 y hy x hx)
  ·exact t3 x hx y hy
 ·refine(Fib.app (Mm O _) (Mm O _)).trans ?_
  have sw:Fib key (b1++a2) (a2++b1):=Fib.swap fun y hy x hx e=>by
   have:=h1 x hx y hy
   rw [e,O.irr]at this;cases this
  have:=Fib.app (Fib.refl a1) (Fib.app sw (Fib.refl b2))
  simpa [List.append_assoc] using this
end Go.Proofs.Sim.St

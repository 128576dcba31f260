import Derived.Test.YtaggabcajidnnaaGreatDoorSimE
namespace Go.Proofs.Sim
open Go
theorem Nm.beq_iff(a b:Nm):Nm.beq a b=true↔a=b:=by
 induction a generalizing b with
 |loc t=>cases b<;>simp [Nm.beq]
 |cell n j ih=>cases b<;>simp [Nm.beq,ih,and_comm]
 |arg i=>cases b<;>simp [Nm.beq]
 |up n ih=>cases b<;>simp [Nm.beq,ih]
 |sub t n ih=>cases b<;>simp [Nm.beq,ih]
theorem Nm.beq_self(a:Nm):Nm.beq a a=true:=(Nm.beq_iff a a).2 rfl
theorem Nm.beq_ne {a b:Nm} (h:a≠b):Nm.beq a b=false:=by
 cases e:Nm.beq a b with
 |false=>rfl
 |true=>exact absurd ((Nm.beq_iff a b).1 e) h
theorem Ce(m:Nm)(e:Entry)(h:Heap)(n:Nm):hget ((m,e)::h) n=if m=n then some e else hget h n:=by
 simp only [hget]
 split
 ·rename_i hb;rw [(Nm.beq_iff _ _).1 hb,if_pos rfl]
 ·rename_i hb;rw [if_neg];intro e;rw [e,Nm.beq_self]at hb;cases hb
theorem Jf(a b:Heap)(n:Nm):hget (a++b) n=match hget a n with |some e=>some e |none=>hget b n:=by
 induction a with
 |nil=>rfl
 |cons x a ih=>obtain⟨m,e⟩:=x;simp only [List.cons_append,Ce];split<;>simp_all
theorem Sg(h:Heap)(m n:Nm)(e:Entry):hget (hset h m e) n=if m=n then some e else hget h n:=by
 induction h with
 |nil=>simp only [hset,Ce]
 |cons x h ih=>
  obtain⟨k,e'⟩:=x
  simp only [hset]
  split
  ·rename_i hb
   have:=(Nm.beq_iff _ _).1 hb
   subst this
   simp only [Ce]
   split<;>rfl
  ·rename_i hb
   have hne:k≠m:=by intro e;rw [e,Nm.beq_self]at hb;cases hb
   simp only [Ce,ih]
   by_cases h1:k=n
   ·subst h1;rw [if_pos rfl,if_neg (Ne.symm hne)];simp
   ·rw [if_neg h1,if_neg h1]
theorem Jp(p:Nm→Bool)(h:Heap)(n:Nm):hget (Cq p h) n=if p n then none else(hget h n).map (M3 p):=by
 induction h with
 |nil=>simp [Cq,hget]
 |cons x h ih=>
  obtain⟨m,e⟩:=x
  simp only [Cq]
  split
  ·rename_i hp
   rw [ih,Ce]
   by_cases hm:m=n
   ·subst hm;simp [hp]
   ·rw [if_neg hm]
  ·rename_i hp
   simp only [Ce]
   by_cases hm:m=n
   ·subst hm;simp [hp]
   ·rw [if_neg hm,if_neg hm,ih]
theorem Fu(m:Nat)(v:AV)(tm:List (Nat × AV))(n:Nat):lk ((m,v)::tm) n=if m=n then v else lk tm n:=by
 simp only [lk]
 split
 ·rename_i h;rw [if_pos (by simpa using h)]
 ·rename_i h;rw [if_neg (by intro e;subst e;simp at h)]
theorem Aes(p:Nm→Bool)(tm:List (Nat × AV))(n:Nat):lk (Jv p tm) n=Uu p (lk tm n):=by
 induction tm with
 |nil=>simp [Jv,lk,Uu,AV.has]
 |cons x tm ih=>obtain⟨m,v⟩:=x;simp only [Jv,Fu];split<;>simp_all
theorem Gf(p:Nm→Bool)(l:List AV):(Ct p l).length=l.length:=by
 induction l with |nil=>rfl |cons a l ih=>simp [Ct,ih]
theorem Afd(p:Nm→Bool)(l:List AV)(i:Nat):(Ct p l).getD i .undef=Uu p (l.getD i .undef):=by
 induction l generalizing i with
 |nil=>simp [Ct,Uu,AV.has]
 |cons a l ih=>cases i with |zero=>rfl |succ i=>simpa [Ct] using ih i
structure Agree (p:Nm→Bool) (g g':G):Prop where
 imm:∀b o v,g.imm b o=some v→g'.imm b o=some v
 base:∀n,p n=false→∀l,g.base n=some l→g'.base n=some l
 old:g'.old=g.old
theorem Atm {p:Nm→Bool} {l:List AV} (h:AV.hasL p l=false)(i:Nat):AV.has p (l.getD i .undef)=false:=by
 induction l generalizing i with
 |nil=>simp [AV.has]
 |cons a l ih=>
  simp only [AV.hasL,Bool.or_eq_false_iff]at h
  cases i with |zero=>exact h.1 |succ i=>simpa using ih h.2 i
theorem RepA.agree {p:Nm→Bool} {g g':G} (ha:Agree p g g') {v:Value} {x:AV} (h:RepA g v x)(hp:AV.has p x=false):RepA g' v x:=by
 induction h with
 |imm v x h=>exact .imm _ _ (h.mono ha.imm)
 |ptr n b c l off hb=>exact .ptr _ _ _ _ _ (ha.base _ (by simpa [AV.has] using hp) _ hb)
 |elt n b c l sz i j hb=>exact .elt _ _ _ _ _ _ _ (ha.base _ (by simpa [AV.has] using hp) _ hb)
 |own n a c len hb=>exact .own _ _ _ _ (ha.base _ (by simpa [AV.has] using hp) _ hb)
 |pin b o cells vs h1 h2=>exact .pin _ _ _ vs (fun j hj=>ha.imm _ _ _ (h1 j hj)) (fun j hj=>(h2 j hj).mono ha.imm)
 |fn f vs caps hl _ ih=>exact .fn _ _ _ hl fun i hi=>ih i hi (Atm (by simpa [AV.has] using hp) i)
 |agg cs l hl _ ih=>exact .agg _ _ hl fun i hi=>ih i hi (Atm (by simpa [AV.has] using hp) i)
 |tup cs l hl _ ih=>exact .tup _ _ hl fun i hi=>ih i hi (Atm (by simpa [AV.has] using hp) i)
 |when v t b want a _ hu ih=>exact .when _ _ _ _ _ (fun e=>ih e (by simpa [AV.has] using hp)) hu
 |undef v=>exact .undef _
 |data n a c len hb=>exact .data _ _ _ _ (ha.base _ (by simpa [AV.has] using hp) _ hb)
 |win n a c l sz off len k p hb h1 h2 h3 h4=>exact .win _ _ _ _ _ _ _ _ _ (ha.base _ (by simpa [AV.has] using hp) _ hb) h1 h2 h3 h4
 |mp n b c l hb=>exact .mp _ _ _ _ (ha.base _ (by simpa [AV.has] using hp) _ hb)
 |self n v hb=>exact .self _ _ (hb.imp id fun⟨b,c,l,h1,h2⟩=>⟨b,c,l,ha.base _ (by simpa [AV.has] using hp) _ h1,h2⟩)
 |meth f n b c l off hb=>exact .meth _ _ _ _ _ _ (ha.base _ (by simpa [AV.has] using hp) _ hb)
theorem RepA.scrub {p:Nm→Bool} {g g':G} (ha:Agree p g g') {v:Value} {x:AV} (h:RepA g v x):RepA g' v (Uu p x):=by
 unfold Uu
 split
 ·exact .undef _
 ·rename_i hp;exact h.agree ha hp
theorem Agree.refl(p:Nm→Bool)(g:G):Agree p g g:=⟨fun _ _ _ h=>h,fun _ _ _ h=>h,rfl⟩
theorem EntOK.agree {p:Nm→Bool} {g g':G} {w w':World} {n:Nm} {e:Entry} (ha:Agree p g g')(hn:p n=false)(h:EntOK g w n e)
 (hb:∀b c l,g.base n=some ⟨some b,c,l⟩→w'.heap[b]? =w.heap[b]? ∧∀o,g'.imm b o=g.imm b o):EntOK g' w' n (M3 p e):=by
 cases h with
 |blk T cells b c l cs fz h1 h2 h3 h4 h5 h6=>
  obtain⟨e1,e2⟩:=hb b c l h1
  exact .blk _ _ b c l cs fz (ha.base _ hn _ h1) (by rw [e1];exact h2) h3 (by rw [Gf];exact h4)
   (fun i hi=>by rw [Gf]at hi;rw [Afd];exact(h5 i hi).scrub ha) (fun o=>by rw [e2];exact h6 o)
 |nil ty wr sz h1=>exact .nil _ _ _ (ha.base _ hn _ h1)
 |arr ty wr sz rows b cap cs T fz h1 h2 h3 h4 h5 h6 h7 h8 h10 h11=>
  obtain⟨e1,e2⟩:=hb b cap rows.length h1
  exact .arr _ _ _ _ b cap cs T fz (ha.base _ hn _ h1) (by rw [e1];exact h2) h3 h4 h5 (fun i j hi hj=>(h6 i j hi hj).mono ha.imm) h7 (fun o ho=>by rw [e2];exact h8 o ho) h10 h11
 |sit s pos b c l t h1 h2 h3=>
  obtain⟨e1,e2⟩:=hb b c l h1
  exact .sit _ _ b c l t (ha.base _ hn _ h1) (by rw [e1];exact h2) h3
 |map m b c l es ck h1 h2 h3=>
  obtain⟨e1,e2⟩:=hb b c l h1
  exact .map _ b c l es ck (ha.base _ hn _ h1) (by rw [e1];exact h2) h3
theorem EntOK.lt {g:G} {w:World} {n:Nm} {e:Entry} (h:EntOK g w n e)(b c l:Nat)(hb:g.base n=some ⟨some b,c,l⟩):b<w.heap.size:=by
 have key:∀o,w.heap[b]? =some o→b<w.heap.size:=fun o h=>(Array.getElem?_eq_some_iff.1 h).1
 cases h with
 |blk T cells b' c' l' cs fz h1 h2=>rw [hb]at h1;injection h1 with h1;injection h1 with h1;injection h1 with h1;subst h1;exact key _ h2
 |nil ty wr sz h1=>rw [hb]at h1;injection h1 with h1;injection h1 with h1;cases h1
 |arr ty wr sz rows b' cap cs T fz h1 h2=>rw [hb]at h1;injection h1 with h1;injection h1 with h1;injection h1 with h1;subst h1;exact key _ h2
 |sit s pos b' c' l' t h1 h2=>rw [hb]at h1;injection h1 with h1;injection h1 with h1;injection h1 with h1;subst h1;exact key _ h2
 |map m b' c' l' es ck h1 h2=>rw [hb]at h1;injection h1 with h1;injection h1 with h1;injection h1 with h1;subst h1;exact key _ h2
theorem A8y {p:Nm→Bool} {g g':G} {h:Heap} {w w':World} (hs:Sat g h w)(ha:Agree p g g')
 (hb:∀n e,hget h n=some e→p n=false→∀b c l,g.base n=some ⟨some b,c,l⟩→w'.heap[b]? =w.heap[b]? ∧∀o,g'.imm b o=g.imm b o)
 (himm:∀b o v,g'.imm b o=some v→w'.cell? ⟨b,o,none⟩=some v)(hold:∀b o,g.old b=some o→w'.heap[b]? =some o):Sat g' (Cq p h) w':=by
 have get:∀n e,hget (Cq p h) n=some e→p n=false∧∃e0,hget h n=some e0∧e=M3 p e0:=by
  intro n e he
  rw [Jp]at he
  split at he
  ·cases he
  ·rename_i hp
   cases hx:hget h n with
   |none=>rw [hx]at he;cases he
   |some e0=>rw [hx]at he;simp at he;exact⟨by simpa using hp,e0,rfl,he.symm⟩
 have old:∀n e0,hget h n=some e0→p n=false→∀b c l,g'.base n=some ⟨some b,c,l⟩→g.base n=some ⟨some b,c,l⟩:=by
  intro n e0 he hp b c l hb'
  have hx:∃L,g.base n=some L:=by
   have:=hs.ent n e0 he
   cases this<;>exact⟨_,by assumption⟩
  obtain⟨L,hL⟩:=hx
  have:=ha.base n hp L hL
  rw [hb']at this
  rw [hL,this]
 refine⟨himm,fun n e he=> ?_,fun n m e e' b c l c' l' he he' hb1 hb2=> ?_,fun b o ho=>hold b o (by rw [←ha.old];exact ho),fun n e b c l he hb1=> ?_⟩
 rotate_right 1
 ·obtain⟨hp,e0,he0,rfl⟩:=get n e he
  rw [ha.old]
  exact hs.dis n e0 b c l he0 (old n e0 he0 hp _ _ _ hb1)
 ·obtain⟨hp,e0,he0,rfl⟩:=get n e he
  exact(hs.ent n e0 he0).agree ha hp (fun b c l hbb=>hb n e0 he0 hp b c l hbb)
 ·obtain⟨hp,e0,he0,rfl⟩:=get n e he
  obtain⟨hp',e0',he0',rfl⟩:=get m e' he'
  exact hs.inj n m e0 e0' b c l c' l' he0 he0' (old n e0 he0 hp _ _ _ hb1) (old m e0' he0' hp' _ _ _ hb2)
theorem Ap6 {g:G} {h:Heap} {w:World} (hs:Sat g h w)(n:Nm)(e:Entry)(he:EntOK g w n e)
 (hinj:∀m e' b c l c' l',m≠n→hget h m=some e'→g.base n=some ⟨some b,c,l⟩→g.base m≠some ⟨some b,c',l'⟩)(hdis:∀b c l,g.base n=some ⟨some b,c,l⟩→g.old b=none):Sat g ((n,e)::h) w:=by
 refine⟨hs.imm,fun m e' hm=> ?_,fun m k e1 e2 b c l c' l' h1 h2 b1 b2=> ?_,hs.old,fun m e' b c l hm hb=> ?_⟩
 rotate_right 1
 ·rw [Ce]at hm
  split at hm
  ·rename_i e0;subst e0;exact hdis b c l hb
  ·exact hs.dis m e' b c l hm hb
 ·rw [Ce]at hm
  split at hm
  ·rename_i e0;subst e0;injection hm with hm;subst hm;exact he
  ·exact hs.ent m e' hm
 ·rw [Ce]at h1 h2
  split at h1<;>split at h2
  ·rename_i a b;rw [←a, ←b]
  ·rename_i a b';subst a;exact absurd b2 (hinj k e2 b c l c' l' (Ne.symm b') h2 b1)
  ·rename_i a b';subst b';exact absurd b1 (hinj m e1 b c' l' c l (Ne.symm a) h1 b2)
  ·exact hs.inj m k e1 e2 b c l c' l' h1 h2 b1 b2
theorem NotArr.map {h h':Heap} {n:Nm} {f:Entry→Entry} (hf:∀e ty w sz rows,f e= .arr ty w sz rows→∃w' sz' rows',e= .arr ty w' sz' rows')(e:hget h' n=(hget h n).map f)(hn:NotArr h n):NotArr h' n:=by
 intro ty w sz rows h1
 rw [e]at h1
 cases hx:hget h n with
 |none=>rw [hx]at h1;cases h1
 |some e0=>
  rw [hx]at h1
  injection h1 with h1
  obtain⟨_,_,_,rfl⟩:=hf _ _ _ _ _ h1
  exact hn _ _ _ _ hx
theorem A00(p:Nm→Bool)(e:Entry)(ty:Nat)(w:Bool)(sz:Nat)(rows:List (List IV))(h:M3 p e= .arr ty w sz rows):∃w' sz' rows',e= .arr ty w' sz' rows':=by
 cases e with
 |arr=>injection h with h1;subst h1;exact⟨_,_,_,rfl⟩
 |_=>cases h
theorem NotArr.scrub {h:Heap} {n:Nm} (p:Nm→Bool)(hn:NotArr h n):NotArr (Cq p h) n:=by
 intro ty w sz rows h1
 rw [Jp]at h1
 split at h1
 ·cases h1
 ·exact NotArr.map (h':=[(n,M3 p ((hget h n).getD (.blk 0 [])))]) (f:=M3 p) (A00 p) (by
   cases hx:hget h n with
   |none=>rw [hx]at h1;cases h1
   |some e=>simp [Ce]) hn ty w sz rows (by
   cases hx:hget h n with
   |none=>rw [hx]at h1;cases h1
   |some e=>rw [hx]at h1;simpa [Ce] using h1)
theorem NotArr.cons {h:Heap} {n m:Nm} {e:Entry} (hn:NotArr h n)(he:m≠n∨∀ty w sz rows,e= .arr ty w sz rows→ty=1):NotArr ((m,e)::h) n:=by
 intro ty w sz rows h1
 rw [Ce]at h1
 split at h1
 ·rename_i e1
  rcases he with h2 |h2
  ·exact absurd e1 h2
  ·injection h1 with h1;exact h2 _ _ _ _ h1
 ·exact hn _ _ _ _ h1
theorem NotArr.append {a b:Heap} {n:Nm} (ha:hget a n=none)(hb:NotArr b n):NotArr (a++b) n:=by
 intro ty w sz rows h1
 rw [Jf,ha]at h1
 exact hb _ _ _ _ h1
theorem NotArr.hset {h:Heap} {n m:Nm} {e:Entry} (hn:NotArr h n)(he:∀ty w sz rows,e= .arr ty w sz rows→ty=1):NotArr (hset h m e) n:=by
 intro ty w sz rows h1
 rw [Sg]at h1
 split at h1
 ·injection h1 with h1;exact he _ _ _ _ h1
 ·exact hn _ _ _ _ h1
theorem Evo.refl(g:G)(h:Heap)(w:World):Evo g h w g h w:=
 ⟨rfl,rfl,rfl,Nat.le_refl _,fun _ _ _ h=>h,fun _ _ _=>⟨rfl,fun _=>rfl⟩,fun n e _b c l h1 h2=> .inr ⟨n,e,c,l,h1,h2⟩,fun _n _ h=>⟨rfl,h⟩,rfl⟩
theorem Evo.trans {g g1 g2:G} {h h1 h2:Heap} {w w1 w2:World} (a:Evo g h w g1 h1 w1)(b:Evo g1 h1 w1 g2 h2 w2):Evo g h w g2 h2 w2:=by
 refine⟨b.os.trans a.os,b.tape.trans a.tape,b.output.trans a.output,Nat.le_trans a.size b.size,fun x o v hx=>b.imm _ _ _ (a.imm _ _ _ hx),fun x hx hno=> ?_,fun n e x c l hn hb=> ?_,fun n hx hn=>⟨((b.base n hx (a.base n hx hn).2).1).trans (a.base n hx hn).1,(b.base n hx (a.base n hx hn).2).2⟩,b.old.trans a.old⟩
 ·obtain⟨e1,e2⟩:=a.frame x hx hno
  have hno':∀n e c l,hget h1 n=some e→g1.base n≠some ⟨some x,c,l⟩:=by
   intro n e c l hn hb
   rcases a.own n e x c l hn hb with hge |⟨m,e',c',l',hm,hb'⟩
   ·omega
   ·exact hno m e' c' l' hm hb'
  obtain⟨e3,e4⟩:=b.frame x (Nat.lt_of_lt_of_le hx a.size) hno'
  exact⟨e3.trans e1,fun o=>(e4 o).trans (e2 o)⟩
 ·rcases b.own n e x c l hn hb with hge |⟨m,e',c',l',hm,hb'⟩
  ·exact .inl (Nat.le_trans a.size hge)
  ·exact a.own m e' x c' l' hm hb'
end Go.Proofs.Sim

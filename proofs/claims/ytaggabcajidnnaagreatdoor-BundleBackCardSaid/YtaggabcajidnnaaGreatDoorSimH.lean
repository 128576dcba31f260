import Derived.Test.YtaggabcajidnnaaGreatDoorSimG
namespace Go.Proofs.Sim
open Go
def Atj:Entry→Entry
 | .arr ty _ sz rows=> .arr ty false sz rows
 |e=>e
theorem Ud(ns:List Nm)(h:Heap)(n:Nm):hget (Du ns h) n=if Gv n ns then(hget h n).map Atj else hget h n:=by
 induction h with
 |nil=>simp [Du,hget]
 |cons x h ih=>
  obtain⟨m,e⟩:=x
  by_cases hm:Gv m ns=true
  ·cases e with
   |arr ty w sz rows=>
    simp only [Du,hm,Ce]
    by_cases hmn:m=n
    ·subst hmn;simp [hm,Atj]
    ·rw [if_neg hmn,if_neg hmn,ih]
   |blk ty cells=>
    simp only [Du,hm,Ce]
    by_cases hmn:m=n
    ·subst hmn;simp [hm,Atj]
    ·rw [if_neg hmn,if_neg hmn,ih]
   |sit s p=>
    simp only [Du,hm,Ce]
    by_cases hmn:m=n
    ·subst hmn;simp [hm,Atj]
    ·rw [if_neg hmn,if_neg hmn,ih]
   |map l=>
    simp only [Du,hm,Ce]
    by_cases hmn:m=n
    ·subst hmn;simp [hm,Atj]
    ·rw [if_neg hmn,if_neg hmn,ih]
  ·have hm:Gv m ns=false:=by simpa using hm
   simp only [Du,hm,Ce]
   by_cases hmn:m=n
   ·subst hmn;simp [hm]
   ·rw [if_neg hmn,if_neg hmn,ih]
def Ba1(g:G)(h:Heap)(ns:List Nm)(b o:Nat):Prop:=∃n ty wr sz rows c,Gv n ns=true∧hget h n=some (.arr ty wr sz rows)∧g.base n=some ⟨some b,c,rows.length⟩∧o<rows.length*sz
open Classical in
noncomputable def Jo(g:G)(h:Heap)(w:World)(ns:List Nm):G:=
 ⟨fun b o=>match g.imm b o with |some v=>some v |none=>if Ba1 g h ns b o then w.cell? ⟨b,o,none⟩else none,g.base,g.old,g.tab.mono (fun b o v hi=>by simp [hi])⟩
theorem Atk {g:G} {h:Heap} {w:World} {ns:List Nm} {b o:Nat} (h1:g.imm b o=none)(h2:¬Ba1 g h ns b o):(Jo g h w ns).imm b o=none:=by
 simp [Jo,h1,h2]
theorem Afy {g:G} {h:Heap} {w:World} {ns:List Nm} (b o:Nat)(v:Value)(hi:g.imm b o=some v):(Jo g h w ns).imm b o=some v:=by simp [Jo,hi]
theorem Sd(p:Nm→Bool)(g:G)(h:Heap)(w:World)(ns:List Nm):Agree p g (Jo g h w ns):=⟨Afy,fun _ _ _ h=>h,rfl⟩
theorem A33(x:AV):AV.has (fun _=>false) x=false:=by
 have:∀(n:Nat),(∀x:AV,SizeOf.sizeOf x<n→AV.has (fun _=>false) x=false)∧(∀l:List AV,SizeOf.sizeOf l<n→AV.hasL (fun _=>false) l=false):=by
  intro n
  induction n with
  |zero=>exact⟨fun _ h=>by omega,fun _ h=>by omega⟩
  |succ n ih=>
   refine⟨fun x hx=> ?_,fun l hl=> ?_⟩
   ·cases x<;>simp only [AV.has]<;>first |rfl |(exact ih.2 _ (by simp at hx;omega)) |(exact ih.1 _ (by simp at hx;omega))
   ·cases l with
    |nil=>rfl
    |cons a r=>simp only [AV.hasL];rw [ih.1 a (by simp at hl;omega),ih.2 r (by simp at hl;omega)];rfl
 exact(this (SizeOf.sizeOf x+1)).1 x (by omega)
theorem RepA.mono {g g':G} (h:Agree (fun _=>false) g g') {v:Value} {x:AV} (r:RepA g v x):RepA g' v x:=r.agree h (A33 x)
theorem A2f {g:G} {h:Heap} {w:World} (hs:Sat g h w)(ns:List Nm):Sat (Jo g h w ns) (Du ns h) w:=by
 have hA:=Sd (fun _=>false) g h w ns
 have hno:∀n e b c l,hget h n=some e→g.base n=some ⟨some b,c,l⟩→(∀ty wr sz rows,e≠ .arr ty wr sz rows)∨Gv n ns=false→∀o,¬Ba1 g h ns b o:=by
  rintro n e b c l he hb hor o ⟨m,ty,wr,sz,rows,c',hm,hgm,hbm,ho⟩
  have:=hs.inj n m e _ b c l c' _ he hgm hb hbm
  subst this
  rw [he]at hgm
  injection hgm with hgm
  rcases hor with hor |hor
  ·exact hor _ _ _ _ hgm
  ·rw [hor]at hm;cases hm
 have get:∀n e,hget (Du ns h) n=some e→∃e0,hget h n=some e0∧((Gv n ns=false∧e=e0)∨(Gv n ns=true∧e=Atj e0)):=by
  intro n e he
  rw [Ud]at he
  split at he
  ·rename_i hm
   cases hx:hget h n with
   |none=>rw [hx]at he;cases he
   |some e0=>rw [hx]at he;simp at he;exact⟨e0,rfl, .inr ⟨hm,he.symm⟩⟩
  ·rename_i hm;exact⟨e,he, .inl ⟨by simpa using hm,rfl⟩⟩
 refine⟨fun b o v hi=> ?_,fun n e he=> ?_,fun n m e1 e2 b c l c' l' h1 h2 b1 b2=> ?_,hs.old,fun n e b c l h1 b1=>(get n e h1).elim fun e0 q=>hs.dis n e0 b c l q.1 b1⟩
 ·simp only [Jo]at hi
  split at hi
  ·rename_i v' hv;injection hi with hi;subst hi;exact hs.imm _ _ _ hv
  ·split at hi
   ·exact hi
   ·cases hi
 ·obtain⟨e0,h0,hor⟩:=get n e he
  have hent:=hs.ent n e0 h0
  cases hent with
  |blk T cells b c l cs fz q1 q2 q3 q4 q5 q6=>
   have e1:e= .blk T cells:=by rcases hor with ⟨_,rfl⟩ |⟨_,rfl⟩<;>rfl
   subst e1
   exact .blk _ _ b c l cs fz q1 q2 q3 q4 (fun i hi=>(q5 i hi).mono hA) (fun o=>Atk (q6 o) (hno n _ b c l h0 q1 (.inl (by intros;simp)) o))
  |sit s pos b c l t q1 q2 q3=>
   have e1:e= .sit s pos:=by rcases hor with ⟨_,rfl⟩ |⟨_,rfl⟩<;>rfl
   subst e1
   exact .sit _ _ b c l t q1 q2 q3
  |map m b c l es ck q1 q2 q3=>
   have e1:e= .map m:=by rcases hor with ⟨_,rfl⟩ |⟨_,rfl⟩<;>rfl
   subst e1
   exact .map _ b c l es ck q1 q2 q3
  |nil ty wr sz q1=>
   rcases hor with ⟨_,rfl⟩ |⟨_,rfl⟩<;>exact .nil _ _ _ q1
  |arr ty wr sz rows b cap cs T fz q1 q2 q3 q4 q5 q6 q7 q8 q10 q11=>
   rcases hor with ⟨hm,rfl⟩ |⟨hm,rfl⟩
   ·have hf:=hno n _ b cap rows.length h0 q1 (.inr hm)
    refine .arr _ _ _ _ b cap cs T fz q1 q2 q3 q4 q5 (fun i j hi hj=>(q6 i j hi hj).mono Afy) q7 (fun o ho=>Atk (q8 o ho) (hf o)) q10 q11
   ·refine .arr _ _ _ _ b cap cs T fz q1 q2 q3 q4 q5 (fun i j hi hj=>(q6 i j hi hj).mono Afy) (fun o ho hor=>q7 o ho (.inr (by simpa using hor))) (fun o ho=> ?_) q10 q11
    ·have ho:rows.length*sz≤o:=by simpa using ho
     refine Atk (q8 o (.inr ho)) ?_
     rintro⟨m,ty',wr',sz',rows',c',hm',hgm,hbm,ho'⟩
     have:=hs.inj n m _ _ b cap rows.length c' _ h0 hgm q1 hbm
     subst this
     rw [h0]at hgm
     injection hgm with hgm
     injection hgm with _ _ hz hr
     subst hz;subst hr
     omega
 ·obtain⟨_,q1,_⟩:=get n e1 h1
  obtain⟨_,q2,_⟩:=get m e2 h2
  exact hs.inj n m _ _ b c l c' l' q1 q2 b1 b2
theorem Bai {g:G} {h:Heap} {w:World} (_hs:Sat g h w)(ns:List Nm):Evo g h w (Jo g h w ns) (Du ns h) w:=by
 refine⟨rfl,rfl,rfl,Nat.le_refl _,Afy,fun b hb hno=>⟨rfl,fun o=> ?_⟩,fun n e b c l hn hb=> .inr ?_,fun n _ hn=>⟨rfl,fun ty wr sz rows h1=> ?_⟩,rfl⟩
 rotate_left 2
 ·rw [Ud]at h1
  split at h1
  ·cases hx:hget h n with
   |none=>rw [hx]at h1;cases h1
   |some e=>
    rw [hx]at h1
    cases e with
    |arr=>simp only [Option.map_some,Atj]at h1;injection h1 with h1;injection h1 with h1 _ _ _;subst h1;exact hn _ _ _ _ hx
    |_=>simp [Atj]at h1
  ·exact hn _ _ _ _ h1
 ·simp only [Jo]
  split
  ·rename_i v hv;exact hv.symm ▸ rfl
  ·rename_i hv
   rw [if_neg,hv]
   rintro⟨m,ty,wr,sz,rows,c',hm,hgm,hbm,ho⟩
   exact hno m _ c' _ hgm hbm
 ·rw [Ud]at hn
  cases hx:hget h n with
  |none=>rw [hx]at hn;split at hn<;>cases hn
  |some e0=>exact⟨n,e0,c,l,hx,hb⟩
theorem Zp {h:Heap} {l:List AV} {vs:List IV} (e:Wo h l=some vs):vs.length=l.length∧∀i,i<l.length→P6 h (l.getD i .undef)=some (vs.getD i default):=by
 induction l generalizing vs with
 |nil=>simp [Wo]at e;subst e;exact⟨rfl,fun i hi=>by simp at hi⟩
 |cons a r ih=>
  simp only [Wo]at e
  split at e
  ·rename_i v hv
   split at e
   ·rename_i vs' hvs
    injection e with e
    subst e
    obtain⟨h1,h2⟩:=ih hvs
    refine⟨by simp [h1],fun i hi=> ?_⟩
    cases i with |zero=>simpa using hv |succ i=>simpa using h2 i (by simpa using hi)
   ·cases e
  ·cases e
theorem Lb(n:Nm)(l:List Nm):Gv n l=true↔n∈l:=by
 induction l with
 |nil=>simp [Gv]
 |cons m r ih=>simp only [Gv,Bool.or_eq_true,ih,Nm.beq_iff,List.mem_cons];exact⟨fun h=>h.imp Eq.symm id,fun h=>h.imp Eq.symm id⟩
theorem Zu(l:List AV)(i:Nat)(hi:i<l.length):∀n,n∈AV.names (l.getD i .undef)→n∈AV.namesL l:=by
 induction l generalizing i with
 |nil=>simp at hi
 |cons a r ih=>
  intro n hn
  simp only [AV.namesL,List.mem_append]
  cases i with |zero=>exact .inl hn |succ i=>exact .inr (ih i (by simpa using hi) n (by simpa using hn))
theorem Mr {g:G} {h:Heap} {w:World} (hs:Sat g h w)(ns:List Nm) {v:Value} {a:AV} (r:RepA g v a):∀x,P6 h a=some x→(∀n,n∈AV.names a→n∈ns)→RepI (Jo g h w ns).imm v x:=by
 induction r with
 |imm v y hy=>intro x e _;simp [P6]at e;subst e;exact(hy.mono Afy).any
 |own n a c len hb=>
  intro x e hn
  simp only [P6]at e
  split at e
  ·rename_i ty wr sz rows hg
   injection e with e
   subst e
   have hm:Gv n ns=true:=(Lb _ _).2 (hn n (by simp [AV.names]))
   have hent:=(A2f hs ns).ent n (.arr ty false sz rows) (by rw [Ud,if_pos hm,hg];rfl)
   cases hent with
   |nil _ _ _ q1=>
    have:g.base n=some ⟨none,0,0⟩:=q1
    rw [hb]at this;injection this with this;injection this with e1 e2 e3
    subst e1;subst e2;subst e3
    exact .nilsl _ _ _
   |arr _ _ _ _ b cap cs T fz q1 q2 q3 q4 q5 q6 q7 q8 q10 q11=>
    have:g.base n=some ⟨some b,cap,rows.length⟩:=q1
    rw [hb]at this;injection this with this;injection this with e1 e2 e3
    subst e1;subst e2;subst e3
    refine .sl _ _ _ _ _ b 0 (fun i j=>cs.getD (i*sz+j) undef) q4 (by simp) (by simp) (by simp) (fun _=>rfl) q5 (fun i j hi hj=> ?_) q6 (fun i j hi hj=>q10 _ (by
     have:(i+1)*sz≤rows.length*sz:=Nat.mul_le_mul_right _ (by omega)
     rw [Nat.add_mul]at this
     omega))
    have:(i+1)*sz≤rows.length*sz:=Nat.mul_le_mul_right _ (by omega)
    rw [Nat.add_mul]at this
    rw [show 0+i*sz+j=i*sz+j by omega]
    have hlt:i*sz+j<cs.size:=by
     rw [q3]
     exact Nat.lt_of_lt_of_le (by omega:i*sz+j<rows.length*sz) (Nat.mul_le_mul_right _ q4)
    have hcell:=cell_of_block q2 hlt
    simp only [Jo]
    split
    ·rename_i v hv
     have:=hs.imm _ _ _ hv
     rw [hcell]at this
     exact this.symm
    ·rw [if_pos ⟨n,ty,wr,sz,rows,_,hm,hg,q1,by omega⟩]
     exact hcell
  ·cases e
 |agg cs l hl hc ih=>
  intro x e hn
  simp only [P6]at e
  split at e
  ·rename_i vs hvs
   injection e with e
   subst e
   obtain⟨h1,h2⟩:=Zp hvs
   refine .agg _ _ (by rw [hl,h1]) fun i hi=> ?_
   rw [h1]at hi
   exact ih i hi _ (h2 i hi) (fun n hn'=>hn n (by simp only [AV.names];exact Zu l i hi n hn'))
  ·cases e
 |_=>intro x e _;simp [P6]at e
structure Aot (w w':World):Prop where
 os:w'.os=w.os
 tape:w'.tape=w.tape
 output:w'.output=w.output
 size:w.heap.size≤w'.heap.size
 old:∀b,b<w.heap.size→w'.heap[b]? =w.heap[b]?
theorem Kb {nt:Nat} {g:G} {st:St} {a:Act} {w w':World} (hr:Ca nt g st a w)(hw:Aot w w')(d:Nat)(hd:d<nt)(n:Nm)(L:Loc)(hL:∀b,L.blk=some b→w.heap.size≤b)(val:Value)(V:AV)(e:Entry)
 (hv:RepA (g.upd (Nm.beq n) fun _=>L) val V)(he:EntOK (g.upd (Nm.beq n) fun _=>L) w' n e)(hne:n.ext=true→¬NotArr st.hp n):
 ∃g',Evo g st.hp w g' (Fe st d n V e).hp w'∧Ca nt g' (Fe st d n V e) (a.put (some d) val) w':=by
 let p:=Nm.beq n
 let g':=g.upd p fun _=>L
 have hA:Agree p g g':=Abf g p _
 have hs1:Sat g' (Cq p st.hp) w':=A8w hr.sat p _ hw.old
 have hbn:g'.base n=some L:=by simp [g',G.upd,p,Nm.beq_self]
 have hold:∀m e1,m≠n→hget (Cq p st.hp) m=some e1→∃e0,hget st.hp m=some e0∧∀l,g'.base m=some l→g.base m=some l:=by
  intro m e1 hne hm
  rw [Jp]at hm
  split at hm
  ·cases hm
  ·rename_i hp
   cases hx:hget st.hp m with
   |none=>rw [hx]at hm;cases hm
   |some e0=>exact⟨e0,rfl,fun l hl=>by simpa [g',G.upd,show p m=false by simpa using hp] using hl⟩
 have hs2:Sat g' ((n,e)::Cq p st.hp) w':=by
  refine Ap6 hs1 n e he (fun m e1 b c l c' l' hne hm h1 h2=> ?_) (fun b c l h1=>by
   rw [hbn]at h1
   injection h1 with h1
   have hge:=hL b (by rw [h1])
   show g.old b=none
   cases ho:g.old b with
   |none=>rfl
   |some o=>have:=(Array.getElem?_eq_some_iff.1 (hr.sat.old _ _ ho)).1;omega)
  rw [hbn]at h1
  injection h1 with h1
  have hge:=hL b (by rw [h1])
  obtain⟨e0,h0,hb⟩:=hold m e1 hne hm
  have:=(hr.sat.ent m e0 h0).lt _ _ _ (hb _ h2)
  omega
 refine⟨g',A7j (g:=g) (g':=g') rfl hw.os hw.tape hw.output hw.size (fun _ _ _ h=>h) (fun b hb=>⟨hw.old b hb,fun _=>rfl⟩) (fun m e1 b c l hm hb=> ?_) (fun m hx hm=> ?_), ?_⟩
 rotate_left 1
 ·have hmn:n≠m:=fun e=>by subst e;exact hne hx hm
  exact⟨by simp [g',G.upd,p,Nm.beq_ne hmn],NotArr.cons (hm.scrub p) (.inl hmn)⟩
 rotate_right 1
 ·simp only [Fe]at hm
  rw [Ce]at hm
  split at hm
  ·rename_i e2;subst e2
   rw [hbn]at hb;injection hb with hb
   exact .inl (hL b (by rw [hb]))
  ·rename_i hne
   obtain⟨e0,h0,hb'⟩:=hold m e1 (Ne.symm hne) hm
   exact .inr ⟨m,e0,c,l,h0,hb' _ hb⟩
 ·refine⟨by simp [Act.put,hr.size],hr.defers,fun t=> ?_,hs2⟩
  rw [Aen (by rw [hr.size];exact hd)]
  show RepA g' _ (lk ((d,V)::Jv p st.tm) t)
  rw [Fu,Aes]
  by_cases h:t=d
  ·subst h;simpa using hv
  ·rw [if_neg h,if_neg (Ne.symm h)];exact(hr.tm t).scrub hA
theorem Qd(w:World)(o:Obj):Aot w (w.alloc o):=⟨rfl,rfl,rfl,by show w.heap.size≤(w.heap.push _).size;simp,fun b hb=>heap_alloc_old w o b hb⟩
theorem Atl {w w':World} (h:Aot w.drew w'):Aot w w':=⟨h.os,h.tape,h.output,h.size,h.old⟩
theorem Aio {g:G} {h:Heap} {w w':World} (hs:Sat g h w)(n:Nm)(ty sz cap:Nat)(rows:List (List IV))(cs:Array Value)(T:Nat)(fz:Nat × Nat)(wr:Bool)(hh:w'.heap[w.heap.size]? =some (.cells cs T fz))(hcs:cs.size=cap*sz)
 (hrc:rows.length≤cap)(hrl:∀r,r∈rows→r.length=sz)(hcells:∀i j,i<rows.length→j<sz→RepI g.imm (cs.getD (i*sz+j) undef) ((rows.getD i []).getD j default))(hfz:∀o,o<cs.size→¬(fz.1≤o∧o<fz.2))(hone:∀o,o<rows.length*sz→(cs.getD o undef).oneCell'=true)(h0:∀e,ty=e+2→T=e∧0<cap∧fz.1=0):
 EntOK (g.upd (Nm.beq n) fun _=>⟨some w.heap.size,cap,rows.length⟩) w' n (.arr ty wr sz rows):=by
 have hno:∀o,g.imm w.heap.size o=none:=by
  intro o
  cases hi:g.imm w.heap.size o with
  |none=>rfl
  |some v=>exact absurd (Az8 hs hi) (by omega)
 exact .arr _ _ _ _ w.heap.size cap cs T fz (by simp [G.upd,Nm.beq_self]) hh hcs hrc hrl hcells (fun o ho _=>hfz o ho) (fun o _=>hno o) hone h0
structure Src (P:Program) (g:G) (w:World) (sz:Nat) (x:Value) (xs:List (List IV)) (news:List Value):Prop where
 len:news.length=xs.length*sz
 rowlen:∀r,r∈xs→r.length=sz
 lenOf:(Builtin.lenOf x).run P w= .ok xs.length w
 cells:∀w',(∀b o v,w.cell? ⟨b,o,none⟩=some v→w'.cell? ⟨b,o,none⟩=some v)→(Builtin.firstCells sz xs.length x).run P w'= .ok news.toArray w'
 rep:∀i j,i<xs.length→j<sz→RepI g.imm (news.getD (i*sz+j) undef) ((xs.getD i []).getD j default)
 one:∀v,v∈news→v.oneCell'=true
theorem Ape {n sz k:Nat} (h:k<n*sz):k / sz<n∧k % sz<sz∧k / sz*sz+k % sz=k:=by
 have hsz:0<sz:=by
  rcases Nat.eq_zero_or_pos sz with h0 |h0
  ·subst h0;simp at h
  ·exact h0
 refine⟨Nat.div_lt_of_lt_mul (by rw [Nat.mul_comm];exact h),Nat.mod_lt _ hsz, ?_⟩
 have:=Nat.div_add_mod k sz
 rw [Nat.mul_comm]at this
 exact this
theorem Bhl(P:Program)(w:World)(a:Option Addr)(n c:Nat):(Builtin.lenOf (.slice a n c)).run P w= .ok n w:=by simp [Builtin.lenOf]
theorem Aym(P:Program)(g:G)(w:World)(sz:Nat)(a:Option Addr)(cap:Nat)(rows:List (List IV))(b o:Nat)(cell:Nat→Nat→Value)(ha:rows≠[]→a=some ⟨b,o,none⟩)(hl:∀r,r∈rows→r.length=sz)
 (hc:∀i j,i<rows.length→j<sz→w.cell? ⟨b,o+i*sz+j,none⟩=some (cell i j))(hr:∀i j,i<rows.length→j<sz→RepI g.imm (cell i j) ((rows.getD i []).getD j default))
 (h1:∀i j,i<rows.length→j<sz→(cell i j).oneCell'=true):∃news,Src P g w sz (.slice a rows.length cap) rows news:=by
 have hget:∀i,i<rows.length*sz→(((List.range (rows.length*sz)).map fun k=>cell (k / sz) (k % sz)).getD i undef)=cell (i / sz) (i % sz):=by
  intro i hi;simp [List.getD_eq_getElem?_getD,hi]
 refine⟨(List.range (rows.length*sz)).map fun k=>cell (k / sz) (k % sz),by simp,hl,Bhl P w _ _ _,fun w' hw'=> ?_,fun i j hi hj=> ?_,fun v hv=> ?_⟩
 ·by_cases hne:rows=[]
  ·subst hne
   cases a with
   |none=>simp [Builtin.firstCells]
   |some ad=>simp [Builtin.firstCells,loadCells,loadCellsFrom]
  ·rw [ha hne]
   show(loadCells ⟨b,o,none⟩ (rows.length*sz)).run P w'=_
   rw [run_loadCells w' ⟨b,o,none⟩ (rows.length*sz) (fun k=>cell (k / sz) (k % sz))]
   intro k hk
   obtain⟨h1',h2',h3'⟩:=Ape hk
   rw [M6]
   have:=hw' _ _ _ (hc (k / sz) (k % sz) h1' h2')
   rw [show o+k=o+k / sz*sz+k % sz by omega]
   exact this
 ·have hlt:i*sz+j<rows.length*sz:=by
   have:(i+1)*sz≤rows.length*sz:=Nat.mul_le_mul_right _ (by omega)
   rw [Nat.add_mul]at this;omega
  rw [hget _ hlt]
  have hsz:0<sz:=by omega
  have e1:(i*sz+j) / sz=i:=by rw [Nat.mul_comm,Nat.mul_add_div hsz,Nat.div_eq_of_lt hj];simp
  have e2:(i*sz+j) % sz=j:=by rw [Nat.mul_comm,Nat.mul_add_mod,Nat.mod_eq_of_lt hj]
  rw [e1,e2]
  exact hr i j hi hj
 ·simp only [List.mem_map,List.mem_range]at hv
  obtain⟨k,hk,rfl⟩:=hv
  obtain⟨q1,q2,_⟩:=Ape hk
  exact h1 _ _ q1 q2
theorem Bcr(P:Program)(g:G)(w:World)(s:ByteArray)(l:List UInt8)(hl:s.data.toList=l):∃news,Src P g w 1 (.string s) (Ay l) news:=by
 have hsz:s.size=l.length:=by rw [Oo,hl]
 refine⟨l.map fun b=> .int .u8 b.toNat,by simp [Ay],fun r hr=> ?_, ?_,fun w' _=> ?_,fun i j hi hj=> ?_,fun v hv=> ?_⟩
 ·simp [Ay]at hr;obtain⟨b,_,rfl⟩:=hr;rfl
 ·simp [Builtin.lenOf,Ay,hsz]
 ·have:(s.extract 0 (Ay l).length)=s:=by
   apply ByteArray.ext
   apply Array.ext'
   rw [Lib.extract_data,hl]
   simp [Ay]
  simp only [Builtin.firstCells,this]
  subst hl
  obtain⟨⟨l'⟩⟩:=s
  simp
 ·have hj0:j=0:=by omega
  subst hj0
  have hi':i<l.length:=by simpa [Ay] using hi
  simp only [Nat.mul_one,Nat.add_zero]
  simp [Ay,List.getD_eq_getElem?_getD,hi']
  exact .int _ _
 ·simp at hv;obtain⟨b,_,rfl⟩:=hv;rfl
theorem src_ok(P:Program)(g:G)(hp:Heap)(w:World)(hs:Sat g hp w)(ti:TI)(sz:Nat)(x:Value)(X:AV)(hx:RepA g x X)(xs:List (List IV))(he:rowsOf ti hp sz X=some xs):∃news,Src P g w sz x xs news:=by
 unfold rowsOf at he
 split at he
 ·split at he
  ·rename_i hsz
   have hsz:=by simpa using hsz
   subst hsz
   injection he with he
   subst he
   have hr:=D5 hx
   cases hr with |sl a cap _ _ _ b o vs hc1 hc2 hc3 hc4 hc5 hc6 hc7 hc8 hc9=>
   exact Aym P g w _ a cap _ b o vs hc5 hc6 (fun i j hi hj=>hs.imm _ _ _ (hc7 i j hi hj)) hc8 hc9
  ·cases he
 ·split at he
  ·rename_i ty wr sz' rows hg
   split at he
   ·rename_i hsz
    have hsz:=by simpa using hsz
    subst hsz
    injection he with he
    subst he
    cases hx with |own _ a c len hb=>
    have hent:=hs.ent _ _ hg
    cases hent with
    |nil _ _ _ q1=>
     rw [hb]at q1;injection q1 with q1;injection q1 with e1 e2 e3
     subst e1;subst e2;subst e3
     exact Aym P g w _ none 0 [] 0 0 (fun _ _=>undef) (fun h=>absurd rfl h) (fun _ h=>by cases h) (fun _ _ h=>by simp at h) (fun _ _ h=>by simp at h) (fun _ _ h=>by simp at h)
    |arr _ _ _ _ b cap cs T fz q1 q2 q3 q4 q5 q6 q7 q8 q10 q11=>
     rw [hb]at q1;injection q1 with q1;injection q1 with e1 e2 e3
     subst e1;subst e2;subst e3
     have hlt:∀i j,i<rows.length→j<sz→i*sz+j<rows.length*sz:=by
      intro i j hi hj
      have:(i+1)*sz≤rows.length*sz:=Nat.mul_le_mul_right _ (by omega)
      rw [Nat.add_mul]at this;omega
     refine Aym P g w sz (some ⟨b,0,none⟩) c rows b 0 (fun i j=>cs.getD (i*sz+j) undef) (fun _=>rfl) q5 (fun i j hi hj=> ?_) q6 (fun i j hi hj=>q10 _ (hlt i j hi hj))
     rw [show 0+i*sz+j=i*sz+j by omega]
     have:=hlt i j hi hj
     exact cell_of_block q2 (by rw [q3];exact Nat.lt_of_lt_of_le this (Nat.mul_le_mul_right _ q4))
   ·cases he
  ·cases he
 ·split at he
  ·rename_i hsz
   have hsz:sz=1:=by simpa using hsz
   subst hsz
   injection he with he
   subst he
   obtain⟨s,rfl,hs'⟩:=Pm hx
   exact Bcr P g w s _ hs'
  ·cases he
 ·cases he
structure A07 (P:Program) (t tx elem sz eb:Nat):Prop where
 und:P.underlying t=some (.slice elem)
 info:∃(i:TypeInfo) (z:Value),P.info? elem=some i∧i.size=sz∧i.bytes=eb∧i.zero=some z∧z.cells.size=sz
 x:∃d,P.underlying tx=some d∧∀k,d≠ .int k
theorem Ae5(P:Program) {t tx elem sz eb:Nat} (hT:A07 P t tx elem sz eb)(ty:Nat)(w:World)(base:Option Addr)(len cap m:Nat)(x:Value)(news:List Value)(hlen:(Builtin.lenOf x).run P w= .ok m w)
 (hf:(Builtin.firstCells sz m x).run P w= .ok news.toArray w)(hroom:len+m≤cap)(w':World)(hst:∀ad,base=some ad→(storeCells (ad.add (len*sz)) news).run P w= .ok () w')(hno:base=none→w'=w):
 (Builtin.append_ #[t,tx] ty #[.slice base len cap,x]).run P w= .ok (.slice base (len+m) cap) w':=by
 obtain⟨i,z,hi,hsz,hby,hz,hzs⟩:=hT.info
 obtain⟨d,hd,hdi⟩:=hT.x
 have hzero:(match d with | .int _=>true |_=>false)=false:=by cases d<;>first |rfl |exact absurd rfl (hdi _)
 subst hsz
 cases base with
 |none=>
  have:=hno rfl
  subst this
  simp [Builtin.append_,run_underlying hT.und,run_underlying hd,Go.sizeOf,typeInfo,hi,hlen,hroom,hf]
 |some ad=>
  simp [Builtin.append_,run_underlying hT.und,run_underlying hd,Go.sizeOf,typeInfo,hi,hlen,hroom,hf,hst ad rfl]
theorem Al4(P:Program) {t tx elem sz eb:Nat} (hT:A07 P t tx elem sz eb)(ty:Nat)(w:World)(base:Option Addr)(len cap m:Nat)(x:Value)(olds news:List Value)(hlen:(Builtin.lenOf x).run P w= .ok m w)
 (hfo:∀w',(∀b o v,w.cell? ⟨b,o,none⟩=some v→w'.cell? ⟨b,o,none⟩=some v)→(Builtin.firstCells sz len (.slice base len cap)).run P w'= .ok olds.toArray w')(hf:∀w',(∀b o v,w.cell? ⟨b,o,none⟩=some v→w'.cell? ⟨b,o,none⟩=some v)→(Builtin.firstCells sz m x).run P w'= .ok news.toArray w')
 (hroom:¬len+m≤cap)(hb:(len+m)*eb≤Gq)(hn:len+m≤Gq):
 ∃(nc:Nat) (rest:Array Value),len+m≤nc∧rest.size=(nc - (len+m))*sz∧(Builtin.append_ #[t,tx] ty #[.slice base len cap,x]).run P w= .ok (.slice (some ⟨w.heap.size,0,none⟩) (len+m) nc) (w.drew.alloc (.cells ((olds++news).toArray++rest) elem)):=by
 obtain⟨i,z,hi,hsz,hby,hz,hzs⟩:=hT.info
 obtain⟨d,hd,hdi⟩:=hT.x
 have hzero:(match d with | .int _=>true |_=>false)=false:=by cases d<;>first |rfl |exact absurd rfl (hdi _)
 subst hsz;subst hby
 have hcap:cap<len+m:=by omega
 have hfit:Builtin.nextslicecap (len+m) cap*i.bytes≤281474976710656:=growslice_fits hcap (by simpa [Gq] using hb)
 have hd1:=hfo w.drew (fun b o v h=>h)
 have hd2:=hf w.drew (fun b o v h=>h)
 refine⟨grownCap w (len+m) cap elem,Builtin.zeroCells z.cells (grownCap w (len+m) cap elem - (len+m)),grownCap_ge _ _ _ _,by rw [size_zeroCells,hzs], ?_⟩
 have h1:¬(9223372036854775807:Int)<((len+m:Nat):Int):=by simp only [Gq]at hn;omega
 have h1':¬(9223372036854775807:Int)<((len:Int)+(m:Int)):=by simp only [Gq]at hn;omega
 have h2:¬(281474976710656<Builtin.nextslicecap (len+m) cap*i.bytes):=by omega
 simp [Builtin.append_,run_underlying hT.und,run_underlying hd,Go.sizeOf,typeInfo,hi,hlen,hroom,h1',h2,hd1,hd2,IntKind.max,IntKind.signed,IntKind.bits,Question.forced,grownCap,zeroValue,hz,newRow]
 congr 2
 apply Array.ext'
 simp [List.append_assoc]
theorem A8v(rows xs:List (List IV))(i:Nat):(rows++xs).getD i []=if i<rows.length then rows.getD i []else xs.getD (i - rows.length) []:=by
 simp only [List.getD_eq_getElem?_getD,List.getElem?_append]
 split<;>rfl
theorem Bdf(P:Program) {t tx elem sz eb:Nat} (hT:A07 P t tx elem sz eb)(ty:Nat) {nt:Nat} {g:G} {st:St} {a:Act} {w:World} (hr:Ca nt g st a w)(d:Nat)(hd:d<nt)(s x:Value)(n:Nm)(ety:Nat)(wr:Bool)(rows xs:List (List IV))(news:List Value)
 (hpin:ety≠1)(hs:RepA g s (.own n))(hg:hget st.hp n=some (.arr ety wr sz rows))(hx:Src P g w sz x xs news)(hb:(rows.length+xs.length)*eb≤Gq)(hn:rows.length+xs.length≤Gq):
 ∃val w' g',(Builtin.append_ #[t,tx] ty #[s,x]).run P w= .ok val w'∧Evo g st.hp w g' (Fe st d n (.own n) (.arr (match Nat.beq ety (elem+2)with |true=>elem+2 |false=>0) wr sz (rows++xs))).hp w'∧
  Ca nt g' (Fe st d n (.own n) (.arr (match Nat.beq ety (elem+2)with |true=>elem+2 |false=>0) wr sz (rows++xs))) (a.put (some d) val) w':=by
 have hxr:∀r,r∈xs→r.length=sz:=hx.rowlen
 cases hs with |own _ ba c len hbase=>
 have hent:=hr.sat.ent _ _ hg
 have old:∃olds:List Value,olds.length=rows.length*sz∧len=rows.length∧rows.length≤c∧(∀r,r∈rows→r.length=sz)∧(∀w',(∀b o v,w.cell? ⟨b,o,none⟩=some v→w'.cell? ⟨b,o,none⟩=some v)→(Builtin.firstCells sz len (.slice (ba.map fun b=>(⟨b,0,none⟩:Addr)) len c)).run P w'= .ok olds.toArray w')∧
  (∀i j,i<rows.length→j<sz→RepI g.imm (olds.getD (i*sz+j) undef) ((rows.getD i []).getD j default))∧(∀v,v∈olds→v.oneCell'=true):=by
  cases hent with
  |nil _ _ _ q1=>
   rw [hbase]at q1;injection q1 with q1;injection q1 with e1 e2 e3
   subst e1;subst e2;subst e3
   exact⟨[],(by simp),rfl,Nat.le_refl _,(fun _ h=>by cases h),(fun w' _=>by simp [Builtin.firstCells]),(fun i j hi=>by simp at hi),(fun v h=>by cases h)⟩
  |arr _ _ _ _ b cap cs T fz q1 q2 q3 q4 q5 q6 q7 q8 q10 q11=>
   rw [hbase]at q1;injection q1 with q1;injection q1 with e1 e2 e3
   subst e1;subst e2;subst e3
   have hle:rows.length*sz≤cs.size:=by rw [q3];exact Nat.mul_le_mul_right _ q4
   have hget:∀i,i<rows.length*sz→(((List.range (rows.length*sz)).map fun k=>cs.getD k undef).getD i undef)=cs.getD i undef:=by
    intro i hi;simp [List.getD_eq_getElem?_getD,hi]
   refine⟨(List.range (rows.length*sz)).map fun k=>cs.getD k undef,by simp,rfl,q4,q5,fun w' hw'=> ?_,fun i j hi hj=> ?_,fun v hv=> ?_⟩
   ·show(loadCells ⟨b,0,none⟩ (rows.length*sz)).run P w'=_
    rw [run_loadCells w' ⟨b,0,none⟩ (rows.length*sz) (fun k=>cs.getD k undef)]
    intro k hk
    rw [M6,Nat.zero_add]
    exact hw' _ _ _ (cell_of_block q2 (by omega))
   ·have hlt:i*sz+j<rows.length*sz:=by
     have:(i+1)*sz≤rows.length*sz:=Nat.mul_le_mul_right _ (by omega)
     rw [Nat.add_mul]at this;omega
    rw [hget _ hlt]
    exact q6 i j hi hj
   ·simp only [List.mem_map,List.mem_range]at hv
    obtain⟨k,hk,rfl⟩:=hv
    exact q10 k hk
 obtain⟨olds,ho1,hlen,hlc,hrl,ho2,ho3,ho4⟩:=old
 subst hlen
 have hrl':∀r,r∈rows++xs→r.length=sz:=by
  intro r hr'
  rcases List.mem_append.1 hr' with h |h
  ·exact hrl r h
  ·exact hxr r h
 have hjoin:∀(cells:Nat→Value),(∀k,k<rows.length*sz→cells k=olds.getD k undef)→(∀k,k<xs.length*sz→cells (rows.length*sz+k)=news.getD k undef)→
  (∀i j,i<(rows++xs).length→j<sz→RepI g.imm (cells (i*sz+j)) (((rows++xs).getD i []).getD j default))∧(∀o,o<(rows++xs).length*sz→(cells o).oneCell'=true):=by
  intro cells h1 h2
  refine⟨fun i j hi hj=> ?_,fun o ho=> ?_⟩
  ·rw [A8v]
   simp only [List.length_append]at hi
   split
   ·rename_i hlt
    have:(i+1)*sz≤rows.length*sz:=Nat.mul_le_mul_right _ (by omega)
    rw [Nat.add_mul]at this
    rw [h1 _ (by omega)]
    exact ho3 i j hlt hj
   ·rename_i hge
    obtain⟨q,rfl⟩:∃q,i=rows.length+q:=⟨i - rows.length,by omega⟩
    have:(q+1)*sz≤xs.length*sz:=Nat.mul_le_mul_right _ (by omega)
    rw [Nat.add_mul]at this
    rw [show(rows.length+q)*sz+j=rows.length*sz+(q*sz+j)by rw [Nat.add_mul];omega,h2 _ (by omega),show rows.length+q - rows.length=q by omega]
    exact hx.rep q j (by omega) hj
  ·simp only [List.length_append,Nat.add_mul]at ho
   by_cases hlt:o<rows.length*sz
   ·rw [h1 o hlt]
    have:olds.getD o undef∈olds:=by rw [List.getD_eq_getElem?_getD,List.getElem?_eq_getElem (by omega)];simp
    exact ho4 _ this
   ·obtain⟨q,rfl⟩:∃q,o=rows.length*sz+q:=⟨o - rows.length*sz,by omega⟩
    rw [h2 q (by omega)]
    have:news.getD q undef∈news:=by rw [List.getD_eq_getElem?_getD,List.getElem?_eq_getElem (by rw [hx.len];omega)];simp
    exact hx.one _ this
 have hbn:∀(L:Loc),(g.upd (Nm.beq n) fun _=>L).base n=some L:=fun L=>by simp [G.upd,Nm.beq_self]
 by_cases hroom:rows.length+xs.length≤c
 ·
  cases ba with
  |none=>
   cases hent with
   |arr _ _ _ _ b cap cs T fz q1=>rw [hbase]at q1;injection q1 with q1;injection q1 with e1;cases e1
   |nil _ _ _ q1=>
    rw [hbase]at q1;injection q1 with q1;injection q1 with e1 e2 e3
    subst e2
    have hxs:xs=[]:=by
     cases xs with
     |nil=>rfl
     |cons r l=>simp at hroom
    subst hxs
    have hrun:=Ae5 P hT ty w none 0 0 0 x news hx.lenOf (hx.cells w fun _ _ _ h=>h) (by omega) w (fun _ h=>by cases h) (fun _=>rfl)
    obtain⟨g',h1,h2⟩:=Kb hr ⟨rfl,rfl,rfl,Nat.le_refl _,fun _ _=>rfl⟩ d hd n ⟨none,0,0⟩ (fun b h=>by cases h) (.slice none 0 0) (.own n) (.arr (match Nat.beq ety (elem+2)with |true=>elem+2 |false=>0) wr sz []) (.own n none 0 0 (hbn _)) (.nil _ _ _ (hbn _)) (fun _ h=>hpin (h _ _ _ _ hg))
    exact⟨_,w,g',hrun,h1,h2⟩
  |some b0=>
   cases hent with
   |nil _ _ _ q1=>rw [hbase]at q1;injection q1 with q1;injection q1 with e1;cases e1
   |arr _ _ _ _ b cap cs T fz q1 q2 q3 q4 q5 q6 q7 q8 q10 q11=>
    rw [hbase]at q1;injection q1 with q1;injection q1 with e1 e2 e3
    injection e1 with e1
    subst e1;subst e2
    have hfit:rows.length*sz+news.length≤cs.size:=by
     rw [hx.len,q3, ←Nat.add_mul];exact Nat.mul_le_mul_right _ hroom
    have hst:=Np P b0 (rows.length*sz) T fz news 0 cs w q2 (by simpa using hfit) (fun k hk=>q7 _ (by omega) (.inr (by omega))) hx.one
    simp only [Nat.add_zero]at hst
    have hrun:=Ae5 P hT ty w (some ⟨b0,0,none⟩) rows.length c xs.length x news hx.lenOf (hx.cells w fun _ _ _ h=>h) hroom (w.setRow b0 (Pe (rows.length*sz) news cs)) (fun ad h=>by injection h with h;subst h;rw [M6,Nat.zero_add];exact hst) (fun h=>by cases h)
    obtain⟨hl1,hl2⟩:=Af2 news (rows.length*sz) cs hfit
    let p:=Nm.beq n
    let L:Loc:=⟨some b0,c,(rows++xs).length⟩
    let g':=g.upd p fun _=>L
    have hA:Agree p g g':=Abf g p _
    obtain⟨hj1,hj2⟩:=hjoin (fun k=>(Pe (rows.length*sz) news cs).getD k undef) (fun k hk=>by
     simp only [hl2]
     rw [if_neg (by omega)]
     have h0:=ho2 w (fun _ _ _ h=>h)
     have h0':(loadCells ⟨b0,0,none⟩ (rows.length*sz)).run P w= .ok olds.toArray w:=h0
     rw [run_loadCells w ⟨b0,0,none⟩ (rows.length*sz) (fun k=>cs.getD k undef) (fun k hk=>by rw [M6,Nat.zero_add];exact cell_of_block q2 (by omega))]at h0'
     injection h0' with h0'
     have:olds=(List.range (rows.length*sz)).map (fun k=>cs.getD k undef):=by simpa using h0'.symm
     rw [this]
     simp [List.getD_eq_getElem?_getD,hk]) (fun k hk=>by
     simp only [hl2]
     rw [if_pos (by rw [hx.len];omega),show rows.length*sz+k - rows.length*sz=k by omega])
    have hdis:∀m e,m≠n→hget st.hp m=some e→∀b' c' l',g.base m=some ⟨some b',c',l'⟩→b'≠b0:=by
     intro m e hne hm b' c' l' hbm e2
     subst e2
     exact hne (hr.sat.inj m n e _ b' c' l' _ _ hm hg hbm hbase)
    have himm':∀o v,g.imm b0 o=some v→o<rows.length*sz:=by
     intro o v hv
     rcases Nat.lt_or_ge o (rows.length*sz)with h |h
     ·exact h
     ·rw [q8 o (.inr h)]at hv;cases hv
    have hs1:Sat g' (Cq p st.hp) (w.setRow b0 (Pe (rows.length*sz) news cs)):=by
     refine A8y hr.sat hA (fun m e hm hpm b' c' l' hbm=> ?_) (fun b' o v hi=> ?_) (fun b' o hi=>by
      have hne:b'≠b0:=by intro e;subst e;have:=hr.sat.dis n _ b' c _ hg hbase;rw [this]at hi;cases hi
      rw [setRow_other w b0 b' _ hne]
      exact hr.sat.old _ _ hi)
     ·have hne:m≠n:=by
       intro e;subst e
       have:p m=true:=Nm.beq_self m
       rw [this]at hpm;cases hpm
      exact⟨setRow_other w b0 b' _ (hdis m e hne hm b' c' l' hbm),fun _=>rfl⟩
     ·have hi':g.imm b' o=some v:=hi
      by_cases he:b'=b0
      ·subst he
       have ho:=himm' o v hi'
       have hc:=hr.sat.imm _ _ _ hi'
       rw [cell_of_block (setRow_heap w b' cs _ _ _ q2) (by rw [hl1];omega),hl2,if_neg (by omega)]
       rw [cell_of_block q2 (by omega)]at hc
       exact hc
      ·rw [cell_setRow_other w b0 _ ⟨b',o,none⟩ he]
       exact hr.sat.imm _ _ _ hi'
    have hent':EntOK g' (w.setRow b0 (Pe (rows.length*sz) news cs)) n (.arr (match Nat.beq ety (elem+2)with |true=>elem+2 |false=>0) wr sz (rows++xs)):=
     .arr _ _ _ _ b0 c _ T fz (hbn L) (setRow_heap w b0 cs _ _ _ q2) (by rw [hl1,q3]) (by simpa using hroom) hrl' hj1
      (fun o ho hor=>q7 o (by rw [hl1]at ho;exact ho) (hor.imp id fun h=>Nat.le_trans (Nat.mul_le_mul_right _ (by simp)) h))
      (fun o hor=>q8 o (hor.imp id fun h=>Nat.le_trans (Nat.mul_le_mul_right _ (by simp)) h)) hj2 (fun e he=>by
       split at he
       ·rename_i hq
        exact q11 e (by rw [←he];simpa using hq)
       ·omega)
    have hs2:Sat g' ((n, .arr (match Nat.beq ety (elem+2)with |true=>elem+2 |false=>0) wr sz (rows++xs))::Cq p st.hp) (w.setRow b0 (Pe (rows.length*sz) news cs)):=by
     refine Ap6 hs1 n _ hent' (fun m e1 b' c1 l1 c2 l2 hne hm h1 h2=> ?_) (fun b' c1 l1 h1=>by rw [hbn L]at h1;injection h1 with h1;injection h1 with h1;injection h1 with h1;subst h1;exact hr.sat.dis n _ b0 c _ hg hbase)
     rw [hbn L]at h1
     injection h1 with h1;injection h1 with h1;injection h1 with h1
     subst h1
     rw [Jp]at hm
     split at hm
     ·cases hm
     ·rename_i hp
      have hp:p m=false:=by simpa using hp
      cases hq:hget st.hp m with
      |none=>rw [hq]at hm;cases hm
      |some e0=>exact hdis m e0 hne hq b0 c2 l2 (by simpa [g',G.upd,hp] using h2) rfl
    refine⟨_,_,g',hrun,Bad (g:=g) (g':=g') rfl b0 _ n _ hg c rows.length hbase (fun _ _ _ h=>h) (fun _ _ _=>rfl) (fun m e1 b' c1 l1 hm hbm=> ?_) (fun m hx hm=> ?_),⟨by simp [Act.put,hr.size],hr.defers,fun t=> ?_,hs2⟩⟩
    ·simp only [Fe]at hm
     rw [Ce]at hm
     split at hm
     ·rename_i e2;subst e2
      rw [hbn L]at hbm;injection hbm with hbm;injection hbm with h1;injection h1 with h1
      subst h1
      exact⟨n,_,_,_,hg,hbase⟩
     ·rename_i hne
      rw [Jp]at hm
      split at hm
      ·cases hm
      ·rename_i hp
       have hp:p m=false:=by simpa using hp
       cases hq:hget st.hp m with
       |none=>rw [hq]at hm;cases hm
       |some e0=>exact⟨m,e0,c1,l1,hq,by simpa [g',G.upd,hp] using hbm⟩
    ·have hmn:n≠m:=fun e=>by subst e;exact hpin (hm _ _ _ _ hg)
     exact⟨by simp [g',G.upd,p,Nm.beq_ne hmn],NotArr.cons (hm.scrub p) (.inl hmn)⟩
    ·rw [Aen (by rw [hr.size];exact hd)]
     show RepA g' _ (lk ((d, .own n)::Jv p st.tm) t)
     rw [Fu,Aes]
     by_cases h:t=d
     ·subst h
      have:=RepA.own (g:=g') n (some b0) c (rows++xs).length (hbn L)
      simpa using this
     ·rw [if_neg h,if_neg (Ne.symm h)];exact(hr.tm t).scrub hA
 ·
  obtain⟨nc,rest,hnc,hrest,hrun⟩:=Al4 P hT ty w (ba.map fun b=>⟨b,0,none⟩) rows.length c xs.length x olds news hx.lenOf ho2 (fun w' hw'=>hx.cells w' hw') hroom hb hn
  have hgrew:Aot w (w.drew.alloc (.cells ((olds++news).toArray++rest) elem)):=Atl (Qd w.drew _)
  obtain⟨hj1,hj2⟩:=hjoin (fun k=>((olds++news).toArray++rest).getD k undef) (fun k hk=>by
   have hk':k<olds.length:=by omega
   have e1:((olds++news).toArray++rest)[k]? =olds[k]? :=by
    rw [Array.getElem?_append_left (by simp;omega)]
    simp [List.getElem?_append_left hk']
   simp only [Array.getD_eq_getD_getElem?,List.getD_eq_getElem?_getD,e1]) (fun k hk=>by
   have h1:k<news.length:=by rw [hx.len];omega
   have e1:((olds++news).toArray++rest)[rows.length*sz+k]? =news[k]? :=by
    rw [←ho1,Array.getElem?_append_left (by simp;omega)]
    simp [List.getElem?_append_right]
   simp only [Array.getD_eq_getD_getElem?,List.getD_eq_getElem?_getD,e1])
  have hent':=Aio (h:=st.hp) (w:=w) (w':=w.drew.alloc (.cells ((olds++news).toArray++rest) elem)) hr.sat n (match Nat.beq ety (elem+2)with |true=>elem+2 |false=>0) sz nc (rows++xs) ((olds++news).toArray++rest) elem (0,0) wr (heap_alloc_new w.drew _)
   (by simp [ho1,hx.len,hrest];rw [←Nat.add_mul, ←Nat.add_mul];congr 1;omega) (by simpa using hnc) hrl' hj1 (fun o _ h=>by simp at h) hj2 (fun e he=>by
    split at he
    ·exact⟨by omega,by omega,rfl⟩
    ·omega)
  obtain⟨g',h1,h2⟩:=Kb hr hgrew d hd n ⟨some w.heap.size,nc,(rows++xs).length⟩ (fun b h=>by injection h with h;omega) (.slice (some ⟨w.heap.size,0,none⟩) (rows++xs).length nc) (.own n) (.arr (match Nat.beq ety (elem+2)with |true=>elem+2 |false=>0) wr sz (rows++xs))
   (RepA.own (g:=g.upd (Nm.beq n) fun _=>⟨some w.heap.size,nc,(rows++xs).length⟩) n (some w.heap.size) nc _ (hbn _)) hent' (fun _ h=>hpin (h _ _ _ _ hg))
  exact⟨_,_,g',by rw [hrun];simp,h1,h2⟩
end Go.Proofs.Sim

import Derived.Test.YtaggabcajidnnaaGreatDoorSimM
import Derived.Scope
namespace Go.Proofs.Sim
open Go
theorem Ap5 {g:G} {h:Heap} {w:World} (hs:Sat g h w)(ns:List Nm):Sat g (Ja h ns) w∧Evo g h w g (Ja h ns) w:=by
 refine⟨⟨hs.imm,fun n e he=>hs.ent n e (Qe _ _ _ _ he).1,fun n m e e' b c l c' l' h1 h2=>hs.inj n m e e' b c l c' l' (Qe _ _ _ _ h1).1 (Qe _ _ _ _ h2).1,hs.old,fun n e b c l h1 b1=>hs.dis n e b c l (Qe _ _ _ _ h1).1 b1⟩,
  ⟨rfl,rfl,rfl,Nat.le_refl _,fun _ _ _ h=>h,fun _ _ _=>⟨rfl,fun _=>rfl⟩,fun n e b c l h1 h2=> .inr ⟨n,e,c,l,(Qe _ _ _ _ h1).1,h2⟩,fun n _ hn=>⟨rfl,fun ty wr sz rows he=>hn _ _ _ _ (Qe _ _ _ _ he).1⟩,rfl⟩⟩
theorem Bbe {nt:Nat} {g:G} {st:St} {a:Act} {w:World} (hr:Ca nt g st a w)(t:Nat):∃g',Ca nt g' (Anl t st) a w∧Evo g st.hp w g' (Anl t st).hp w:=by
 have same:∃g',Ca nt g' st a w∧Evo g st.hp w g' st.hp w:=⟨g,hr,Evo.refl _ _ _⟩
 unfold Anl
 split
 ·rename_i n hl
  split
  ·rename_i ty wr sz rows hg
   obtain⟨hr1,he1⟩:=Sb hr [n]
   have hv:=hr.tm t
   rw [hl]at hv
   have hrep:=Mr hr.sat [n] hv (.sl .any sz rows) (by simp [P6,hg]) (fun m hm=>by simpa [AV.names] using hm)
   refine⟨_,⟨hr1.size,hr1.defers,fun u=> ?_,hr1.sat⟩,he1⟩
   show RepA _ _ (lk ((t,_)::st.tm) u)
   rw [Fu]
   split
   ·rename_i e;subst e;exact .imm _ _ hrep
   ·exact hr1.tm u
  ·exact same
 ·rename_i n o hl
  split
  ·rename_i ty cells hg
   obtain⟨hr1,he1⟩:=Sb hr (Cv st.hp cells)
   have hg1:hget (Du (Cv st.hp cells) st.hp) n=some (.blk ty cells):=by
    rw [Ud,hg]
    split<;>rfl
   have hent:=hr.sat.ent _ _ hg
   have hent1:=hr1.sat.ent _ _ hg1
   cases hent1 with |blk _ _ b c l cs fz q1 q2 q3 q4 q5 q6=>
   cases hent with |blk _ _ b' c' l' cs' fz' p1 p2 p3 p4 p5 p6=>
   have e1:(Jo g st.hp w (Cv st.hp cells)).base n=g.base n:=rfl
   rw [e1,p1]at q1
   injection q1 with q1;injection q1 with q1 _ _;injection q1 with q1
   subst q1
   rw [p2]at q2
   injection q2 with q2;injection q2 with q2 _ _
   subst q2
   obtain⟨h1,h2⟩:=U2 (w':=w) hr1 n _ (.blk ty (Hd st.hp cells)) hg1 b' c' l' p1 rfl rfl rfl rfl (fun _ _=>rfl) (fun o v hi=>hr1.sat.imm _ _ _ hi)
    (.blk _ _ b' c' l' cs' fz' p1 p2 p3 (by rw [Eu];exact p4) (fun i hi=>by
      rw [Eu]at hi
      obtain⟨z1,z2⟩:=Rq st.hp cells i hi
      rw [z1]
      split
      ·rename_i v hc
       exact .imm _ _ (Mr hr.sat _ (p5 i hi) _ hc (z2 v hc))
      ·exact(p5 i hi).mono (Sd _ _ _ _ _)) q6) (by simp)
   exact⟨_,⟨hr1.size,hr1.defers,hr1.tm,h2⟩,he1.trans h1⟩
  ·exact same
 ·exact same
theorem Bbf {nt:Nat} {a:Act} {w:World} (l:List Nat):∀ {g:G} {st:St},Ca nt g st a w→∃g',Ca nt g' (K5 l st) a w∧Evo g st.hp w g' (K5 l st).hp w:=by
 induction l with
 |nil=>intro g st hr;exact⟨g,hr,Evo.refl _ _ _⟩
 |cons t r ih=>
  intro g st hr
  simp only [K5]
  split
  ·obtain⟨g1,h1,h2⟩:=Bbe hr (t - Aub)
   obtain⟨g2,h3,h4⟩:=ih h1
   exact⟨g2,h3,h2.trans h4⟩
  ·exact ih hr
theorem Bec(h:Heap)(n:Nm):hget (Aie h) n=(hget h n).map (Aln n):=by
 induction h with
 |nil=>rfl
 |cons x h ih=>
  obtain⟨m,e⟩:=x
  simp only [Aie,Ce,ih]
  by_cases hm:m=n
  ·subst hm;simp
  ·simp [hm]
theorem Awd(n:Nm)(e:Entry):Aln n e=e∨(∃ty m,e= .blk ty [.imm (.raw (.pointer none)), .own m]∧Aln n e= .blk ty [.self n, .own m])∨(∃ty m,e= .blk ty [.ptr n 0, .own m]∧Aln n e= .blk ty [.self n, .own m]):=by
 unfold Aln
 split
 ·exact .inr (.inl ⟨_,_,rfl,rfl⟩)
 ·split
  ·rename_i h
   have h:=(Nm.beq_iff _ _).1 h
   subst h
   exact .inr (.inr ⟨_,_,rfl,rfl⟩)
  ·exact .inl rfl
 ·exact .inl rfl
theorem Bg2 {g:G} {w:World} {n:Nm} {e:Entry} (h:EntOK g w n e):EntOK g w n (Aln n e):=by
 have key:∀(ty:Nat) (x:AV) (m:Nm),e= .blk ty [x, .own m]→(∀v,RepA g v x→RepA g v (.self n))→EntOK g w n (.blk ty [.self n, .own m]):=by
  intro ty x m he hx
  subst he
  cases h with
  |blk T cells b c l cs fz q1 q2 q3 q4 q5 q6=>
   exact .blk _ _ b c l cs fz q1 q2 q3 q4 (fun i hi=>by
    match i,hi with
    |0,_=>exact hx _ (q5 0 (by simp))
    |1,_=>exact q5 1 (by simp)) q6
 rcases Awd n e with h1 |⟨ty,m,h1,h2⟩ |⟨ty,m,h1,h2⟩
 ·rw [h1];exact h
 ·rw [h2]
  refine key ty _ m h1 fun v hv=> .self _ _ (.inl ?_)
  have:=D5 hv
  cases this;rfl
 ·rw [h2]
  refine key ty _ m h1 fun v hv=> ?_
  cases hv with |ptr _ b c l _ hb=>exact .self _ _ (.inr ⟨b,c,l,hb,rfl⟩)
theorem Ae0 {h:Heap} {n:Nm} {e:Entry} (hn:hget (Aie h) n=some e):∃e0,hget h n=some e0∧e=Aln n e0:=by
 rw [Bec]at hn
 cases hx:hget h n with
 |none=>rw [hx]at hn;cases hn
 |some e0=>rw [hx]at hn;injection hn with hn;exact⟨e0,rfl,hn.symm⟩
theorem Bib {nt:Nat} {g:G} {st:St} {a:Act} {w:World} (hr:Ca nt g st a w):Ca nt g ⟨st.tm,Aie st.hp⟩ a w∧Evo g st.hp w g (Aie st.hp) w:=by
 refine⟨⟨hr.size,hr.defers,hr.tm,⟨hr.sat.imm,fun n e hn=> ?_,fun n m e e' b c l c' l' h1 h2 b1 b2=> ?_,hr.sat.old,fun n e b c l hn hb=> ?_⟩⟩,⟨rfl,rfl,rfl,Nat.le_refl _,fun _ _ _ h=>h,fun b _ _=>⟨rfl,fun _=>rfl⟩,fun n e b c l hn hb=> .inr ?_,fun n _ hn=>⟨rfl,fun ty wr sz rows h1=> ?_⟩,rfl⟩⟩
 ·obtain⟨e0,h0,rfl⟩:=Ae0 hn
  exact Bg2 (hr.sat.ent n _ h0)
 ·obtain⟨e0,h0,_⟩:=Ae0 h1
  obtain⟨e1,h3,_⟩:=Ae0 h2
  exact hr.sat.inj n m _ _ b c l c' l' h0 h3 b1 b2
 ·obtain⟨e0,h0,_⟩:=Ae0 hn
  exact hr.sat.dis n _ b c l h0 hb
 ·obtain⟨e0,h0,_⟩:=Ae0 hn
  exact⟨n,e0,c,l,h0,hb⟩
 ·obtain⟨e0,h0,h2⟩:=Ae0 h1
  rcases Awd n e0 with h3 |⟨_,_,_,h3⟩ |⟨_,_,_,h3⟩
  ·rw [h3]at h2;subst h2;exact hn _ _ _ _ h0
  ·rw [h3]at h2;cases h2
  ·rw [h3]at h2;cases h2
theorem A71(tm:List (Nat × AV))(live:List Nat)(u:Nat):lk (Ah8 tm live) u=lk tm u∨lk (Ah8 tm live) u= .undef:=by
 induction live with
 |nil=>exact .inr rfl
 |cons t r ih=>
  simp only [Ah8]
  split
  ·rw [Fu]
   split
   ·rename_i e;subst e;exact .inl rfl
   ·exact ih
  ·rw [Fu]
   split
   ·rename_i e;subst e;exact .inl rfl
   ·exact ih
theorem Xz {nt:Nat} {g:G} {st:St} {a:Act} {w:World} (hr:Ca nt g st a w)(live:List Nat):∃g',Ca nt g' (mask live st) a w∧Evo g st.hp w g' (mask live st).hp w:=by
 obtain⟨g',hr0,he0⟩:=Bbf live hr
 obtain⟨hr',he1⟩:=Bib hr0
 have he':=he0.trans he1
 obtain⟨h1,h2⟩:=Ap5 hr'.sat (reach (Aie (K5 live st).hp) 400 (A3h (Ah8 (K5 live st).tm live)++Bcq (Apd (Aie (K5 live st).hp))) [])
 refine⟨g',⟨hr'.size,hr'.defers,fun t=> ?_,h1⟩,he'.trans h2⟩
 show RepA g' _ (lk (Ah8 (K5 live st).tm live) t)
 rcases A71 (K5 live st).tm live t with e |e<;>rw [e]
 ·exact hr'.tm t
 ·exact .undef _
theorem A9i(l:List Nat):∀ {st:St},(∀u,NoW (lk st.tm u))→∀u,NoW (lk (K5 l st).tm u):=by
 induction l with
 |nil=>intro st h;exact h
 |cons t r ih=>
  intro st h
  simp only [K5]
  split
  ·refine ih fun u=> ?_
   unfold Anl
   split
   ·split
    ·show NoW (lk ((_,_)::st.tm) u)
     rw [Fu]
     split
     ·intro t b w x e;cases e
     ·exact h u
    ·exact h u
   ·split
    ·exact h u
    ·exact h u
   ·exact h u
  ·exact ih h
theorem Apn {st:St} (h:∀u,NoW (lk st.tm u))(live:List Nat):∀u,NoW (lk (mask live st).tm u):=by
 intro u
 show NoW (lk (Ah8 (K5 live st).tm live) u)
 rcases A71 (K5 live st).tm live u with e |e<;>rw [e]
 ·exact A9i live h u
 ·exact Qu
theorem Post.trans {nt:Nat} {g g1:G} {h h1:Heap} {w w1:World} {Q:Ex→St→Prop} {e:Exit} {a':Act} {w':World} (he:Evo g h w g1 h1 w1)(hp:Post nt g1 h1 w1 Q e a' w'):Post nt g h w Q e a' w':=by
 obtain⟨x,st',g',h1,h2,h3⟩:=hp
 exact⟨x,st',g',h1,he.trans h2,h3⟩
theorem Post.same {nt:Nat} {g g':G} {h:Heap} {w w':World} {Q:Ex→St→Prop} {e:Exit} {x:Ex} (hx:Bg4 e=some x) {st':St} {a':Act} (he:Evo g h w g' st'.hp w')(hr:Ca nt g' st' a' w')(hn:∀u,NoW (lk st'.tm u))(hq:Q x st'):Post nt g h w Q e a' w':=⟨x,st',g',hx,he,hr,hn,hq⟩
theorem Post.map {nt:Nat} {g:G} {h:Heap} {w:World} {Q Q':Ex→St→Prop} {e:Exit} {a':Act} {w':World} (hp:Post nt g h w Q e a' w')(hq:∀x st,Q x st→Q' x st):Post nt g h w Q' e a' w':=by
 obtain⟨x,st',g',h1,h2,h3,h4,h5⟩:=hp
 exact⟨x,st',g',h1,h2,h3,h4,hq _ _ h5⟩
theorem Ux {x:Ex} (h:Bg4 .normal=some x):x= .normal:=by injection h with h;exact h.symm
theorem Rs(E:Env)(hT:Dc E.P E.T)(hm:E.P.follows .mixedOrders=true)(H:Jh)(hS:∀f bt,E.self f=some bt→Uq E.P f bt)(hH:∀f ac nt rs,E.inl f=some (ac,nt,rs)→∀args h Q,H ac nt rs args h Q→Call E.P f args h Q):
 ∀(ac:AC) (st:St) (Q:Ex→St→Prop),(∀u,NoW (lk st.tm u))→eval E H ac st Q→WP E.P E.nt ac.code st Q
 | .skip,st,Q,hn,h=>⟨fun g a w hr=>wp_skip (.same rfl (Evo.refl _ _ _) hr hn h)⟩
 | .region id ops draw,st,Q,hn,h=>by
   cases draw with
   |false=>exact Bfb E hT H hS hH id ops st hn Q h
   |true=>
    simp only [eval]at h
    split at h
    ·split at h
     ·rename_i hB
      exact A3d E hT hm id ops hB st hn Q h
     ·exact Aqh E hT hm H hS hH id ops st hn Q h
    ·rename_i n _
     split at h
     ·rename_i hB
      exact A3e E hT hm H hS hH id ops n hB st hn Q h
     ·exact Aqh E hT hm H hS hH id ops st hn Q h
 | .seq x y,st,Q,hn,h=>⟨fun g a w hr=>by
   refine wp_seq (wp_mono ((Rs E hT hm H hS hH x st _ hn h).ok g a w hr) ?_)
   rintro e a' w' ⟨ex,st',g',hx,he,hr',hn',hq⟩
   cases e with
   |normal=>
    have:=Ux hx
    subst this
    exact wp_mono ((Rs E hT hm H hS hH y st' Q hn' hq).ok g' a' w' hr') fun e a w hp=>hp.trans he
   |exit i=>injection hx with hx;subst hx;exact⟨_,st',g',rfl,he,hr',hn',hq⟩
   |goto l=>injection hx with hx;subst hx;exact⟨_,st',g',rfl,he,hr',hn',hq⟩
   |ret=>injection hx with hx;subst hx;exact⟨_,st',g',rfl,he,hr',hn',hq⟩
   |panic c=>cases hx
   |outgrown=>cases hx⟩
 | .cond c x y,st,Q,hn,h=>⟨fun g a w hr=>by
   simp only [eval]at h
   split at h
   ·rename_i b hb
    have hc:=Tq (T:=E.T) hr.tm 0 c
    rw [hb]at hc
    obtain⟨h1,h2⟩:=h
    exact wp_cond_split (Om hc) (fun e=>(Rs E hT hm H hS hH x st Q hn (h1 e)).ok g a w hr) (fun e=>(Rs E hT hm H hS hH y st Q hn (h2 e)).ok g a w hr)
   ·exact h.elim⟩
 | .block id x,st,Q,hn,h=>⟨fun g a w hr=>by
   refine wp_block (wp_mono ((Rs E hT hm H hS hH x st _ hn h).ok g a w hr) ?_)
   rintro e a' w' ⟨ex,st',g',hx,he,hr',hn',hq⟩
   cases e with
   |normal=>
    have:=Ux hx
    subst this
    exact⟨_,st',g',rfl,he,hr',hn',hq⟩
   |exit i=>
    injection hx with hx;subst hx
    simp only at hq
    simp only [Exit.inBlock]
    split at hq
    ·rename_i hi
     have:i=id:=by simpa using hi
     rw [if_pos this]
     exact⟨_,st',g',rfl,he,hr',hn',hq⟩
    ·rename_i hi
     have:i≠id:=by intro e;subst e;simp at hi
     rw [if_neg this]
     exact⟨_,st',g',rfl,he,hr',hn',hq⟩
   |goto l=>injection hx with hx;subst hx;exact⟨_,st',g',rfl,he,hr',hn',hq⟩
   |ret=>injection hx with hx;subst hx;exact⟨_,st',g',rfl,he,hr',hn',hq⟩
   |panic c=>cases hx
   |outgrown=>cases hx⟩
 | .loop n live x,st,Q,hn,h=>⟨fun g a w hr b k cs=>by
   obtain⟨g',hr',he⟩:=Xz hr live
   obtain⟨e,a',w',hp,ha⟩:=h.ok.ok g' a w hr' b k cs
   exact⟨e,a',w',hp.trans he, .of_steps (.one step_loop) ha⟩⟩
 | .exit id live,st,Q,hn,h=>⟨fun g a w hr=>by
   simp only [eval,Od]at h
   obtain⟨g',hr',he⟩:=Xz hr live
   exact wp_exit (.same rfl he hr' (Apn hn live) h)⟩
 | .ret live,st,Q,hn,h=>⟨fun g a w hr=>by
   simp only [eval,Od]at h
   obtain⟨g',hr',he⟩:=Xz hr live
   exact wp_ret (.same rfl he hr' (Apn hn live) h)⟩
 | .cut n live out x,st,Q,hn,h=>⟨fun g a w hr=>by
   obtain⟨g',hr',he⟩:=Xz hr live
   exact wp_mono (h.ok.ok g' a w hr') fun e a w hp=>hp.trans he⟩
 | .label l,st,Q,hn,h=>⟨fun g a w hr=>wp_label (.same rfl (Evo.refl _ _ _) hr hn h)⟩
 | .scope n live x,st,Q,hn,h=>⟨fun g a w hr b k cs=>by
   simp only [eval]at h
   obtain⟨e,a₁,w₁,⟨ex,st',g',hx,he,hr',hn',hq⟩,harr⟩:=(Rs E hT hm H hS hH x st _ hn h).ok g a w hr b (.inScope x.code::k) cs
   cases e with
   |normal=>
    have:=Ux hx
    subst this
    exact⟨.normal,a₁,w₁,⟨_,st',g',rfl,he,hr',hn',hq⟩, .head step_scope (Steps.trans harr (.one step_inScope))⟩
   |exit i=>
    injection hx with hx;subst hx
    exact⟨.exit i,a₁,w₁,⟨_,st',g',rfl,he,hr',hn',hq⟩,fun k' hk=> .head step_scope (harr k' (by simp [exitTo,hk]))⟩
   |goto l=>
    injection hx with hx;subst hx
    obtain⟨rest,hf,hs⟩:=hq.ok
    have hg:gotoIn l (.inScope x.code::k)=some (.code rest:: .inScope x.code::k):=by simp [gotoIn,hf]
    obtain⟨g2,hr2,he2⟩:=Xz hr' live
    obtain⟨e₂,a₂,w₂,hp₂,harr₂⟩:=hs.ok g2 a₁ w₁ hr2 b k cs
    exact⟨e₂,a₂,w₂,hp₂.trans (he.trans he2), .of_steps (.head step_scope (harr _ hg)) harr₂⟩
   |ret=>injection hx with hx;subst hx;exact⟨.ret,a₁,w₁,⟨_,st',g',rfl,he,hr',hn',hq⟩, .of_steps (.one step_scope) (e:= .ret) harr⟩
   |panic c=>cases hx
   |outgrown=>cases hx⟩
 | .goto l live,st,Q,hn,h=>⟨fun g a w hr=>by
   simp only [eval,Od]at h
   obtain⟨g',hr',he⟩:=Xz hr live
   exact wp_goto (.same rfl he hr' (Apn hn live) h)⟩
 | .bad c,st,Q,hn,h=>h.elim
theorem Atw {tm:List (Nat × AV)} (h:Amc tm=true):∀u,NoW (lk tm u):=by
 induction tm with
 |nil=>intro u;exact Qu
 |cons x tm ih=>
  obtain⟨m,v⟩:=x
  simp only [Amc,Bool.and_eq_true]at h
  intro u
  rw [Fu]
  split
  ·refine NoW.of ?_
   cases hv:isW v with
   |false=>rfl
   |true=>rw [hv]at h;cases h.1
  ·exact ih h.2 u
structure Be (P:Program) (f:Nat) (c:Code) (nt:Nat) (rs:List ResultVar):Prop where
 ok:∃fn,P.funcs[f]? =some fn∧fn.body=some c∧fn.ntmps=nt∧fn.results=rs.toArray∧(fn.name == "runtime.NumGoroutine")=false
structure Ahs (E:Env):Prop where
 T:Dc E.P E.T
 m:E.P.follows .mixedOrders=true
 self:∀f bt,E.self f=some bt→Uq E.P f bt
 inl:∀f ac nt rs,E.inl f=some (ac,nt,rs)→Be E.P f ac.code nt rs
theorem A8b(args:List AV)(j:Nat)(h:A2l args=true):Amc (inlD.numL args j)=true:=by
 induction args generalizing j with
 |nil=>rfl
 |cons a r ih=>
  simp only [A2l,Bool.and_eq_true]at h
  simp only [inlD.numL,Amc,Bool.and_eq_true]
  exact⟨h.1,ih (j+1) h.2⟩
theorem Bnq(args:List AV)(j u:Nat):lk (inlD.numL args j) u=if j≤u then args.getD (u - j) .undef else .undef:=by
 induction args generalizing j with
 |nil=>simp [inlD.numL,lk]
 |cons a r ih=>
  simp only [inlD.numL,Fu]
  by_cases h:j=u
  ·subst h;simp
  ·rw [if_neg h,ih]
   by_cases h1:j+1≤u
   ·rw [if_pos h1,if_pos (by omega)]
    obtain⟨q,rfl⟩:∃q,u=j+1+q:=⟨u - (j+1),by omega⟩
    rw [show j+1+q - (j+1)=q by omega,show j+1+q - j=q+1 by omega]
    simp
   ·rw [if_neg h1,if_neg (by omega)]
def Aof(tmps:Array Value):ResultVar→Sem Value
 | .tmp t=>pure (tmps.getD t undef)
 | .cell a t=>do loadVar t (←asAddr (tmps.getD a undef))
theorem Bfc(P:Program)(T:TT)(hT:Dc P T) {nt:Nat} {g:G} {st:St} {a:Act} {w:World} (hr:Ca nt g st a w)(r:ResultVar)(x:AV)(h:A0x T st r=some x)(hc:∀c,Aoe T st r=some c→c):∃v,(Aof a.tmps r).run P w= .ok v w∧RepA g v x:=by
 cases r with
 |tmp t=>simp only [A0x]at h;injection h with h;subst h;exact⟨_,rfl,hr.tm t⟩
 |cell ad t=>
  have key:∀v:AV,(∃val,(∀w',Up w w'→(Instr.loadAt t (a.tmps.getD ad undef)).run P w'= .ok val w')∧RepA g val v)→∃val,(Aof a.tmps (.cell ad t)).run P w= .ok val w∧RepA g val v:=by
   rintro v ⟨val,h1,h2⟩
   have h1:=h1 w (Up.refl w)
   refine⟨val, ?_,h2⟩
   rw [←h1]
   unfold Instr.loadAt Instr.sureAddr at h1 ⊢
   unfold Aof asAddr
   simp only
   generalize a.tmps.getD ad undef=z at*
   split at h1
   ·rfl
   ·cases h1
  have this:=A72 P T hT w g st.hp hr.sat t _ _ (hr.tm ad)
  simp only [A0x]at h
  simp only [Aoe]at hc
  split at h
  ·rename_i v hv
   injection h with h;subst h
   rw [hv]at this
   exact key _ this
  ·rename_i c v hv
   injection h with h;subst h
   rw [hv]at this hc
   exact key _ (this (hc c rfl))
  ·cases h
theorem Aid {T:TT} {st:St} {K:Prop} :∀(rs:List ResultVar),Abm T st rs K→K∧∀r,r∈rs→∀c,Aoe T st r=some c→c
 | [],h=>⟨h,fun r hr=>by cases hr⟩
 |r::rs,h=>by
  simp only [Abm]at h
  split at h
  ·rename_i c hc
   obtain⟨h1,h2⟩:=h
   obtain⟨h3,h4⟩:=Aid rs h2
   refine⟨h3,fun r' hr' c' hc'=> ?_⟩
   rcases List.mem_cons.1 hr' with rfl |hr'
   ·rw [hc]at hc';injection hc' with hc';subst hc';exact h1
   ·exact h4 r' hr' c' hc'
  ·rename_i hc
   obtain⟨h3,h4⟩:=Aid rs h
   refine⟨h3,fun r' hr' c' hc'=> ?_⟩
   rcases List.mem_cons.1 hr' with rfl |hr'
   ·rw [hc]at hc';cases hc'
   ·exact h4 r' hr' c' hc'
theorem A0y(P:Program)(T:TT)(hT:Dc P T) {nt:Nat} {g:G} {st:St} {a:Act} {w:World} (hr:Ca nt g st a w):∀(rs:List ResultVar) (l:List AV),X7 T st rs=some l→(∀r,r∈rs→∀c,Aoe T st r=some c→c)→∃vs:List Value,(rs.mapM (Aof a.tmps)).run P w= .ok vs w∧vs.length=l.length∧∀i,i<l.length→RepA g (vs.getD i undef) (l.getD i .undef)
 | [],l,h,_=>by
   simp only [X7]at h
   injection h with h;subst h
   exact⟨[],by simp,rfl,fun i hi=>by simp at hi⟩
 |r::rs,l,h,hc=>by
  simp only [X7]at h
  split at h
  ·rename_i x l' h1 h2
   injection h with h;subst h
   obtain⟨v,e1,e2⟩:=Bfc P T hT hr r x h1 (hc r (by simp))
   obtain⟨vs,e3,e4,e5⟩:=A0y P T hT hr rs l' h2 (fun r hr=>hc r (by simp [hr]))
   refine⟨v::vs, ?_,by simp [e4],fun i hi=> ?_⟩
   ·rw [List.mapM_cons]
    simp only [Sem.run_bind,e1,Result.andThen_ok,e3,Sem.run_pure]
   ·cases i with
    |zero=>exact e2
    |succ i=>simpa using e5 i (by simpa using hi)
  ·cases h
def Bfd(vs:List Value):Value:=match vs with | [v]=>v |vs=> .tuple vs.toArray
theorem Awc(P:Program)(T:TT)(hT:Dc P T)(rs:List ResultVar) {nt:Nat} {g:G} {st:St} {a:Act} {w:World} (hr:Ca nt g st a w)(l:List AV)(h:X7 T st rs=some l)(hc:∀r,r∈rs→∀c,Aoe T st r=some c→c):
 ∃v,(∀fn:Func,fn.results=rs.toArray→(results fn a.tmps).run P w= .ok v w)∧RepA g v (Adi l):=by
 obtain⟨vs,h1,h2,h3⟩:=A0y P T hT hr rs l h hc
 refine⟨Bfd vs,fun fn hf=> ?_, ?_⟩
 ·unfold results
  rw [Sem.run_bind,hf]
  have:(Array.mapM (Aof a.tmps) rs.toArray).run P w= .ok vs.toArray w:=by
   rw [List.mapM_toArray,map_eq_pure_bind,Sem.run_bind,h1]
   simp
  show Result.andThen (Sem.run P (Array.mapM (Aof a.tmps) rs.toArray) w) _=_
  rw [this]
  match vs with
  | []=>rfl
  | [v]=>rfl
  |v::u::r=>simp [Bfd]
 ·match vs,l,h2,h3 with
  | [v],[x],_,h3=>exact h3 0 (by simp)
  | [],[],_,h3=>exact .tup _ _ rfl (fun i hi=>by simp at hi)
  |v::u::r,x::y::l,h2,h3=>
   refine .tup _ _ (by simpa using h2) fun i hi=> ?_
   have:=h3 i hi
   simpa [Bha] using this
theorem Azv(P:Program)(f:Nat)(c:Code)(nt:Nat)(rs:List ResultVar)(hf:Be P f c nt rs)(args:List AV)(h:Heap)(Q:AV→Heap→Prop)(hl:args.length≤nt)(K:Ex→St→Prop)
 (hw:WP P nt c ⟨inlD.numL args 0,h⟩ K)
 (hK:∀g a w st,Ca nt g st a w→(K .normal st∨K .ret st)→∃g' r h' v,(∀fn,fn.results=rs.toArray→(results fn a.tmps).run P w= .ok v w)∧Evo g st.hp w g' h' w∧Sat g' h' w∧RepA g' v r∧Q r h')
 (hno:∀st,(∀i,¬K (.exit i) st)∧∀i,¬K (.goto i) st):Call P f args h Q:=by
 obtain⟨fn,h1,h2,h3,h4,h5⟩:=hf.ok
 refine⟨fun g w vs hvs hs=> ?_⟩
 unfold Comes1
 have hcall:(callFunc f vs).run P w= .ok (.enter f vs) w:=by
  unfold callFunc
  have h5:¬fn.name= "runtime.NumGoroutine" :=by simpa using h5
  simp [h1,h2,h5]
 rw [hcall]
 show Calls P f vs w _
 refine calls_of_wp h1 h2 ?_
 have hvl:vs.size=args.length:=hvs.1
 have hrel:Ca nt g ⟨inlD.numL args 0,h⟩ { tmps:=vs++Array.replicate (fn.ntmps - vs.size) undef,defers:=[] } w:=by
  refine⟨by simp [h3];omega,rfl,fun t=> ?_,hs⟩
  rw [Bnq]
  simp only [Nat.zero_le,if_true,Nat.sub_zero]
  by_cases ht:t<args.length
  ·have:=hvs.2 t ht
   have e1:(vs++Array.replicate (fn.ntmps - vs.size) undef).getD t undef=vs.getD t undef:=by
    simp only [Array.getD_eq_getD_getElem?]
    rw [Array.getElem?_append_left (by omega)]
   rw [e1];exact this
  ·have:args.getD t .undef= .undef:=by simp [List.getD_eq_getElem?_getD,List.getElem?_eq_none (show args.length≤t by omega)]
   rw [this];exact .undef _
 refine wp_mono (hw.ok g _ w hrel) ?_
 rintro e a' w' ⟨x,st',g',hx,he,hr',_,hk⟩
 have fin:(K .normal st'∨K .ret st')→a'.defers=[]∧∃v,(results fn a'.tmps).run P w'= .ok v w'∧∃v',Ending.returned v= .returned v'∧∃g' r h',Evo g h w g' h' w'∧Sat g' h' w'∧RepA g' v' r∧Q r h':=by
  intro hkk
  obtain⟨g2,r,h',v,e1,e2,e3,e4,e5⟩:=hK g' a' w' st' hr' hkk
  exact⟨hr'.defers,_,e1 fn h4,_,rfl,g2,r,h',he.trans e2,e3,e4,e5⟩
 cases e with
 |normal=>have:=Ux hx;subst this;exact fin (.inl hk)
 |ret=>injection hx with hx;subst hx;exact fin (.inr hk)
 |exit i=>injection hx with hx;subst hx;exact absurd hk ((hno st').1 i)
 |goto l=>injection hx with hx;subst hx;exact absurd hk ((hno st').2 l)
 |panic c=>cases hx
 |outgrown=>cases hx
theorem Bl0(E:Env)(hE:Ahs E)(nt:Nat):Ahs { E with nt:=nt } :=⟨hE.T,hE.m,hE.self,hE.inl⟩
theorem Aul(E:Env)(hE:Ahs E)(k:Nat):∀nt0,∀f ac nt rs,E.inl f=some (ac,nt,rs)→∀args h Q,inlD { E with nt:=nt0 } k ac nt rs args h Q→Call E.P f args h Q:=by
 induction k with
 |zero=>intro nt0 f ac nt rs hi args h Q hq;exact hq.elim
 |succ k ih=>
  intro nt0 f ac nt rs hi args h Q hq
  simp only [inlD]at hq
  split at hq
  ·exact hq.elim
  ·rename_i hw
   simp only [Bool.and_eq_true]at hw
   have hl:args.length≤nt:=by simpa using hw.2
   have:=Rs { E with nt:=nt } hE.T hE.m (inlD { E with nt:=nt0 } k) hE.self (fun f ac nt rs h'=>ih nt0 f ac nt rs h') ac ⟨inlD.numL args 0,h⟩ _ (Atw (A8b args 0 hw.1)) hq
   refine Azv E.P f ac.code nt rs (hE.inl f ac nt rs hi) args h Q hl _ this (fun g a w st hr hk=> ?_) (fun st=>⟨fun i h=>h,fun i h=>h⟩)
   have hk0:Abm E.T st rs (match X7 E.T st rs with |some l=>Q (Adi l) st.hp |none=>False):=hk.elim id id
   obtain⟨hk',hreq⟩:=Aid rs hk0
   split at hk'
   ·rename_i l hl
    obtain⟨v,h1,h2⟩:=Awc E.P E.T hE.T rs hr l hl hreq
    exact⟨g,_,st.hp,v,h1,Evo.refl _ _ _,hr.sat,h2,hk'⟩
   ·exact hk'.elim
theorem Bdk {g:G} {h:Heap} {w:World} (hs:Sat g h w) {v:Value} {a r:AV} (hv:RepA g v a)(hc:A61 h a=some r):RepA (Jo g h w (AV.names a)) v r:=by
 unfold A61 at hc
 split at hc
 ·rename_i l'
  split at hc
  ·rename_i vs hvs
   injection hc with hc
   subst hc
   obtain⟨c1,c2⟩:=Zp hvs
   cases hv with |tup cs _ q1 q2=>
   refine .tup _ _ (by rw [Cw];exact q1.trans c1.symm) fun i hi=> ?_
   rw [Cw]at hi
   rw [Lu _ _ hi]
   exact .imm _ _ (Mr hs _ (q2 i (by omega)) _ (c2 i (by omega)) (fun n hn=>Zu l' i (by omega) n hn))
  ·cases hc
 ·split at hc
  ·rename_i v' hcl
   injection hc with hc
   subst hc
   exact .imm _ _ (Mr hs _ hv _ hcl (fun n hn=>hn))
  ·cases hc
theorem Blz {g:G} {h:Heap} {w:World} (hs:Sat g h w) {v:Value} {a r:AV} (hv:RepA g v a)(hc:Bcz h a=some r):RepA g v r:=by
 unfold Bcz at hc
 split at hc
 ·split at hc
  ·injection hc with hc;subst hc;exact hv
  ·cases hc
 ·split at hc
  ·rename_i ty wr sz rows he hg
   injection hc with hc;subst hc
   cases hv with |own _ a c len hb=>
   have:=(hs.ent _ _ hg).len_rows hb
   have hlc:=(hs.ent _ _ hg).len_cap hb
   subst this
   exact RepA.win (g:=g) _ a c rows.length sz 0 rows.length c (a.map fun b=>⟨b,0,none⟩) hb (by omega) hlc (by omega) (fun _=>by simp)
  ·cases hc
 ·cases hc
theorem A7w {g:G} {h h0:Heap} {w:World} (hs:Sat g h w)(ns:List Nm) {n:Nm} {e:Heap} (hk:A50 h h0 n=some e)(hns:Gv n ns=false):
 ∃g',Evo g h w g' (Cq (Nm.beq (.loc 0)) (Ja (Du ns h) (Ha 0 h0))++e) w∧Sat g' (Cq (Nm.beq (.loc 0)) (Ja (Du ns h) (Ha 0 h0))++e) w∧g'.imm=(Jo g h w ns).imm∧∀v,RepA g v (.own n)→RepA g' v (.own (.loc 0)):=by
 unfold A50 at hk
 split at hk
 ·rename_i aty sz rows hg hm
  injection hk with hk
  subst hk
  simp only [Bool.or_eq_false_iff]at hm
  obtain⟨hm0,hmn⟩:=hm
  have hs1:=A2f hs ns
  have he1:=Bai hs ns
  obtain⟨hs2,he2⟩:=Ap5 hs1 (Ha 0 h0)
  have hent:=hs1.ent n (.arr aty true sz rows) (by rw [Ud,if_neg (by rw [hns];simp)];exact hg)
  have hL:∃L,g.base n=some L:=by
   have:=hs.ent n _ hg
   cases this<;>exact⟨_,by assumption⟩
  obtain⟨L,hL⟩:=hL
  let g1:=Jo g h w ns
  let g':G:=g1.upd (Nm.beq (.loc 0)) fun _=>L
  have hA:Agree (Nm.beq (.loc 0)) g1 g':=Abf g1 _ _
  have hb0:g'.base (.loc 0)=some L:=by simp [g',G.upd,Nm.beq_self]
  have hne:∀m,m∈Ha 0 h0→m≠ .loc 0∧m≠n:=fun m hmm=>⟨fun e=>(by subst e;rw [(Lb _ _).2 hmm]at hm0;cases hm0),fun e=>(by subst e;rw [(Lb _ _).2 hmm]at hmn;cases hmn)⟩
  have get:∀m e,hget (Cq (Nm.beq (.loc 0)) (Ja (Du ns h) (Ha 0 h0))++[(.loc 0, .arr 0 true sz rows)]) m=some e→(m≠ .loc 0∧m≠n∧∃e0,hget (Du ns h) m=some e0∧e=M3 (Nm.beq (.loc 0)) e0)∨(m= .loc 0∧e= .arr 0 true sz rows):=by
   intro m e hm
   rw [Jf]at hm
   split at hm
   ·rename_i e1 h1
    injection hm with hm
    subst hm
    rw [Jp]at h1
    split at h1
    ·cases h1
    ·cases hx:hget (Ja (Du ns h) (Ha 0 h0)) m with
     |none=>rw [hx]at h1;cases h1
     |some e0=>
      rw [hx]at h1;simp at h1
      obtain⟨q1,q2⟩:=Qe _ _ _ _ hx
      exact .inl ⟨(hne m q2).1,(hne m q2).2,e0,q1,h1.symm⟩
   ·rw [Ce]at hm
    split at hm
    ·rename_i e1;injection hm with hm;exact .inr ⟨e1.symm,hm.symm⟩
    ·cases hm
  have hbm:∀m,m≠ .loc 0→g'.base m=g.base m:=fun m hm=>by
   have:Nm.beq (.loc 0) m=false:=Nm.beq_ne (Ne.symm hm)
   simp [g',G.upd,this]
   rfl
  have hent0:EntOK g' w (.loc 0) (.arr 0 true sz rows):=by
   cases hent with
   |nil _ _ _ q1=>
    have q1:g.base n=some ⟨none,0,0⟩:=q1
    rw [hL]at q1;injection q1 with q1;subst q1
    exact .nil _ _ _ hb0
   |arr _ _ _ _ b cap cs T fz q1 q2 q3 q4 q5 q6 q7 q8 q10 q11=>
    have q1:g.base n=some ⟨some b,cap,rows.length⟩:=q1
    rw [hL]at q1;injection q1 with q1;subst q1
    exact .arr _ _ _ _ b cap cs T fz hb0 q2 q3 q4 q5 q6 q7 q8 q10 (fun e he=>by omega)
  refine⟨g',⟨rfl,rfl,rfl,Nat.le_refl _,he1.imm,fun b hb hno=>he1.frame b hb hno,fun m e b c l hm hb=> ?_,fun m hx hn'=> ?_,rfl⟩,⟨fun b o v hi=>hs1.imm b o v hi,fun m e hm=> ?_,fun m k e1 e2 b c l c' l' h1 h2 b1 b2=> ?_,fun b o hi=>hs1.old b o hi,fun m e b c l hm hb=> ?_⟩,rfl,fun v hv=> ?_⟩
  ·rcases get m e hm with ⟨m1,m2,m0,m3,rfl⟩ |⟨rfl,rfl⟩
   ·rw [hbm m m1]at hb
    exact he1.own m _ b c l m3 hb
   ·rw [hb0]at hb;injection hb with hb;subst hb
    exact .inr ⟨n,_,_,_,hg,hL⟩
  ·have hm0':m≠ .loc 0:=fun e=>by subst e;cases hx
   refine⟨hbm m hm0',fun ty wr sz' rows' h1=> ?_⟩
   rcases get m _ h1 with ⟨m1,m2,m0,m3,m4⟩ |⟨rfl,_⟩
   ·cases m0 with
    |arr=>injection m4 with e1 e2 e3 e4;subst e1;exact(he1.base m hx hn').2 _ _ _ _ m3
    |_=>cases m4
   ·cases hx
  ·rcases get m e hm with ⟨m1,m2,m0,m3,rfl⟩ |⟨rfl,rfl⟩
   ·have hpm:Nm.beq (.loc 0) m=false:=Nm.beq_ne (Ne.symm m1)
    have:=(hs1.ent m _ m3).agree (p:=fun k=>Nm.beq (.loc 0) k) (w':=w) hA hpm (fun b c l hb=>⟨rfl,fun _=>rfl⟩)
    exact this
   ·exact hent0
  ·rcases get m e1 h1 with ⟨m1,m2,m0,m3,rfl⟩ |⟨rfl,rfl⟩<;>rcases get k e2 h2 with ⟨k1,k2,k0,k3,rfl⟩ |⟨rfl,rfl⟩
   ·rw [hbm m m1]at b1;rw [hbm k k1]at b2
    exact hs1.inj m k _ _ b c l c' l' m3 k3 b1 b2
   ·rw [hbm m m1]at b1;rw [hb0]at b2;injection b2 with b2;subst b2
    exact absurd (hs1.inj m n _ (.arr aty true sz rows) b c l _ _ m3 (by rw [Ud,if_neg (by rw [hns];simp)];exact hg) b1 hL) m2
   ·rw [hbm k k1]at b2;rw [hb0]at b1;injection b1 with b1;subst b1
    exact absurd (hs1.inj k n _ (.arr aty true sz rows) b c' l' _ _ k3 (by rw [Ud,if_neg (by rw [hns];simp)];exact hg) b2 hL) k2
   ·rfl
  ·rcases get m e hm with ⟨m1,m2,m0,m3,rfl⟩ |⟨rfl,rfl⟩
   ·rw [hbm m m1]at hb
    exact hs1.dis m _ b c l m3 hb
   ·rw [hb0]at hb;injection hb with hb;subst hb
    exact hs.dis n _ b _ _ hg hL
  ·cases hv with |own _ a c len hb=>
   rw [hL]at hb;injection hb with hb;subst hb
   exact .own _ _ _ _ hb0
 ·cases hk
theorem Bhj {g:G} {h h0:Heap} {w:World} (hs:Sat g h w) {v:Value} {a r:AV} {e:Heap} (hv:RepA g v a)(hc:keepR h h0 a=some (r,e)):
 ∃g',Evo g h w g' (Cq (Nm.beq (.loc 0)) (Ja (Du (Atq a) h) (Ha 0 h0))++e) w∧Sat g' (Cq (Nm.beq (.loc 0)) (Ja (Du (Atq a) h) (Ha 0 h0))++e) w∧RepA g' v r:=by
 unfold keepR at hc
 split at hc
 ·rename_i m
  split at hc
  ·rename_i e' hk
   injection hc with hc
   injection hc with hc1 hc2
   subst hc1;subst hc2
   obtain⟨g',h1,h2,_,h3⟩:=A7w hs [] hk rfl
   exact⟨g',h1,h2,h3 v hv⟩
  ·cases hc
 ·split at hc
  ·rename_i m l'
   split at hc
   ·rename_i e' vs hk hmem hvs
    injection hc with hc
    injection hc with hc1 hc2
    subst hc1;subst hc2
    obtain⟨g',h1,h2,h4,h3⟩:=A7w hs (AV.namesL l') hk hmem
    refine⟨g',h1,h2, ?_⟩
    obtain⟨c1,c2⟩:=Zp hvs
    cases hv with |tup cs _ q1 q2=>
    refine .tup _ _ (by simp only [List.length_cons,Cw];rw [q1,c1];rfl) fun i hi=> ?_
    cases i with
    |zero=>exact h3 _ (q2 0 (by simp))
    |succ i=>
     simp only [List.length_cons,Cw]at hi
     have hi':i<vs.length:=by omega
     simp only [List.getD_cons_succ]
     rw [Lu _ _ hi']
     have:=q2 (i+1) (by simp;omega)
     simp only [List.getD_cons_succ]at this
     exact .imm _ _ (by rw [h4];exact Mr hs _ this _ (c2 i (by omega)) (fun n hn=>Zu l' i (by omega) n hn))
   ·cases hc
  ·cases hc
 ·cases hc
theorem Bg9(E:Env)(hE:Ahs E)(k m f:Nat)(ac:AC)(rs:List ResultVar)(hf:Be E.P f ac.code E.nt rs)(args:List AV)(h:Heap)(Q:AV→Heap→Prop)(hl:Nat.ble args.length E.nt=true)(hw:A2l args=true)(he:Bi7 E k m ac rs args h Q):Call E.P f args h Q:=by
 have:=Rs E hE.T hE.m (inlD E k) hE.self (Aul E hE k E.nt) ac ⟨inlD.numL args 0,h⟩ _ (Atw (A8b args 0 hw)) he
 refine Azv E.P f ac.code E.nt rs hf args h Q (by simpa using hl) _ this (fun g a w st hr hk=> ?_) (fun st=>⟨fun i h=>h,fun i h=>h⟩)
 have hk0:finish m E.T rs h Q st:=hk.elim id id
 unfold finish at hk0
 obtain⟨hk',hreq⟩:=Aid rs hk0
 split at hk'
 ·exact hk'.elim
 ·rename_i l hl
  obtain⟨v0,e1,hv⟩:=Awc E.P E.T hE.T rs hr l hl hreq
  split at hk'
  ·rename_i r e hc
   have hc':keepR st.hp h (Adi l)=some (r,e):=by
    split at hc
    ·exact hc
    ·exact hc
    ·cases hc
   obtain⟨g',h1,h2,h3⟩:=Bhj hr.sat hv hc'
   exact⟨g',r,_,v0,e1,h1,h2,h3,hk'⟩
  ·split at hk'
   ·rename_i r hc
    have hc':Bcz st.hp (Adi l)=some r:=by
     split at hc
     ·exact hc
     ·cases hc
    obtain⟨hs2,he2⟩:=Ap5 hr.sat (Ha 0 h)
    exact⟨g,r,_,v0,e1,he2,hs2,Blz hr.sat hv hc',hk'⟩
   ·split at hk'
    ·rename_i r hc
     obtain⟨hr1,he1⟩:=Sb hr (AV.names (Adi l))
     obtain⟨hs2,he2⟩:=Ap5 hr1.sat (Ha 0 h)
     exact⟨_,r,Ja (Du (AV.names (Adi l)) st.hp) (Ha 0 h),v0,e1,he1.trans he2,hs2,Bdk hr.sat hv hc,hk'⟩
    ·exact hk'.elim
theorem Beq {P:Program} {nt:Nat} {c:Code} {st:St} {K:Ex→St→Prop} (live:List Nat)(h:WP P nt c st (fun x st'=>match x with | .normal=>LIn P nt c (mask live st') K |x=>K x st')):LIn P nt c st K:=by
 refine⟨fun g a w hr b k cs=> ?_⟩
 obtain⟨e,a₁,w₁,⟨x,st',g',hx,he,hr',hn',hq⟩,harr⟩:=h.ok g a w hr b (.inLoop c::k) cs
 cases e with
 |normal=>
  have:=Ux hx
  subst this
  obtain⟨g2,hr2,he2⟩:=Xz hr' live
  obtain⟨e₂,a₂,w₂,hp₂,harr₂⟩:=hq.ok g2 a₁ w₁ hr2 b k cs
  exact⟨e₂,a₂,w₂,hp₂.trans (he.trans he2), .of_steps (Steps.trans harr (.one step_inLoop)) harr₂⟩
 |exit id=>injection hx with hx;subst hx;exact⟨_,a₁,w₁,⟨_,st',g',rfl,he,hr',hn',hq⟩, .pass (x:= .inLoop c) rfl (fun _ _=> .inl (by simp)) harr⟩
 |goto l=>injection hx with hx;subst hx;exact⟨_,a₁,w₁,⟨_,st',g',rfl,he,hr',hn',hq⟩, .pass (x:= .inLoop c) rfl (fun _ _=> .inl (by simp)) harr⟩
 |ret=>injection hx with hx;subst hx;exact⟨_,a₁,w₁,⟨_,st',g',rfl,he,hr',hn',hq⟩, .pass (x:= .inLoop c) rfl (fun _ _=> .inl (by simp)) harr⟩
 |panic ch=>cases hx
 |outgrown=>cases hx
theorem Bep(E:Env)(hE:Ahs E)(k n:Nat)(ac:AC)(live:List Nat)(st:St)(K:Ex→St→Prop)(hw:Amc st.tm=true)(h:eval E (inlD E k) ac st (Bje n E.P E.nt ac.code live K)):Bc n E.P E.nt ac.code st K:=by
 have:=Rs E hE.T hE.m (inlD E k) hE.self (Aul E hE k E.nt) ac st _ (Atw hw) h
 refine⟨Beq live ⟨fun g a w hr=>wp_mono (this.ok g a w hr) fun e a' w' hp=>hp.map fun x st' hk=> ?_⟩⟩
 cases x with
 |normal=>exact hk.ok
 |exit i=>exact hk
 |goto l=>exact hk
 |ret=>exact hk
theorem A7y(l:Nat)(ac:AC)(h:ac.labless=true):findLabel ac.code l=none:=by
 induction ac with
 |seq a b iha ihb=>
  simp only [AC.labless,Bool.and_eq_true]at h
  simp only [AC.code,findLabel,iha h.1,ihb h.2]
 |label l'=>cases h
 |bad c=>cases h
 |cut n live out b ih=>exact ih h
 |_=>rfl
theorem Azp(l:Nat)(ac r:AC)(h:ac.after l=some r):findLabel ac.code l=some r.code:=by
 induction ac generalizing r with
 |seq a b iha ihb=>
  simp only [AC.after]at h
  simp only [AC.code,findLabel]
  split at h
  ·rename_i r' h1
   injection h with h;subst h
   rw [iha r' h1];rfl
  ·split at h
   ·rename_i h1
    rw [A7y l a h1]
    exact ihb r h
   ·cases h
 |label l'=>
  simp only [AC.after]at h
  split at h
  ·rename_i hb;injection h with h;subst h
   have:l'=l:=by simpa using hb
   simp [AC.code,findLabel,this]
  ·cases h
 |cut n live out b ih=>
  simp only [AC.after]at h
  split at h
  ·rename_i r' h1;injection h with h;subst h;exact ih r' h1
  ·cases h
 |_=>cases h
theorem Bcm {P:Program} {nt:Nat} {c rest:Code} {l:Nat} {st:St} {K:Ex→St→Prop} (live:List Nat)(_hf:findLabel c l=some rest)(h:WP P nt rest st (fun x st'=>match x with | .goto l'=>∃rest',findLabel c l'=some rest'∧SIn P nt c rest' (mask live st') K |x=>K x st')):SIn P nt c rest st K:=by
 refine⟨fun g a w hr b k cs=> ?_⟩
 obtain⟨e,a₁,w₁,⟨x,st',g',hx,he,hr',hn',hq⟩,harr⟩:=h.ok g a w hr b (.inScope c::k) cs
 cases e with
 |normal=>
  have:=Ux hx
  subst this
  exact⟨.normal,a₁,w₁,⟨_,st',g',rfl,he,hr',hn',hq⟩,Steps.trans harr (.one step_inScope)⟩
 |exit i=>
  injection hx with hx;subst hx
  exact⟨.exit i,a₁,w₁,⟨_,st',g',rfl,he,hr',hn',hq⟩,fun k' hk=>harr k' (by simp [exitTo,hk])⟩
 |goto l'=>
  injection hx with hx;subst hx
  obtain⟨rest',hf',hs⟩:=hq
  have hg:gotoIn l' (.inScope c::k)=some (.code rest':: .inScope c::k):=by simp [gotoIn,hf']
  obtain⟨g2,hr2,he2⟩:=Xz hr' live
  obtain⟨e₂,a₂,w₂,hp₂,harr₂⟩:=hs.ok g2 a₁ w₁ hr2 b k cs
  exact⟨e₂,a₂,w₂,hp₂.trans (he.trans he2), .of_steps (harr _ hg) harr₂⟩
 |ret=>injection hx with hx;subst hx;exact⟨.ret,a₁,w₁,⟨_,st',g',rfl,he,hr',hn',hq⟩,harr⟩
 |panic c=>cases hx
 |outgrown=>cases hx
theorem Bcl(E:Env)(hE:Ahs E)(k n l:Nat)(ac r:AC)(live:List Nat)(st:St)(K:Ex→St→Prop)(hr:ac.after l=some r)(hw:Amc st.tm=true)(h:eval E (inlD E k) r st (Bn6 n E.P E.nt ac.code live K)):I4 n E.P E.nt l ac.code st K:=by
 have:=Rs E hE.T hE.m (inlD E k) hE.self (Aul E hE k E.nt) r st _ (Atw hw) h
 refine⟨_,Azp l ac r hr,Bcm live (Azp l ac r hr) ⟨fun g a w hr=>wp_mono (this.ok g a w hr) fun e a' w' hp=>hp.map fun x st' hk=> ?_⟩⟩
 cases x with
 |normal=>exact hk
 |exit i=>exact hk
 |goto l=>exact hk.ok
 |ret=>exact hk
theorem Bgv(E:Env)(hE:Ahs E)(k n:Nat)(ac:AC)(out:List Nat)(st:St)(K:Ex→St→Prop)(hw:Amc st.tm=true)(h:eval E (inlD E k) ac st (Bm8 out K)):Aq n E.P E.nt ac.code st K:=by
 have:=Rs E hE.T hE.m (inlD E k) hE.self (Aul E hE k E.nt) ac st _ (Atw hw) h
 refine⟨⟨fun g a w hr=>wp_mono (this.ok g a w hr) fun e a' w' hp=> ?_⟩⟩
 obtain⟨x,st',g',hx,he,hr',hn',hk⟩:=hp
 cases x with
 |normal=>
  obtain⟨g2,hr2,he2⟩:=Xz hr' out
  exact⟨_,_,g2,hx,he.trans he2,hr2,Apn hn' out,hk⟩
 |exit i=>exact⟨_,_,g',hx,he,hr',hn',hk⟩
 |goto l=>exact⟨_,_,g',hx,he,hr',hn',hk⟩
 |ret=>exact⟨_,_,g',hx,he,hr',hn',hk⟩
end Go.Proofs.Sim

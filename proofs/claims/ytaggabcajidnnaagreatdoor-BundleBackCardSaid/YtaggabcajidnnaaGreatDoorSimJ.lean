import Derived.Test.YtaggabcajidnnaaGreatDoorSimI
namespace Go.Proofs.Sim
open Go
theorem Tq {g:G} {T:TT} {tm:List (Nat × AV)} {a:Act} (h:∀t,RepA g (a.tmps.getD t undef) (lk tm t))(ty:Nat)(x:Operand):RepA g (a.eval x) (strip none (ev T tm ty x)):=by
 have:=Aui (T:=T) h ty x
 generalize ev T tm ty x=y at*
 cases y<;>first |exact this |exact .undef _
theorem A69 {g:G} {T:TT} {tm:List (Nat × AV)} {a:Act} (h:∀t,RepA g (a.tmps.getD t undef) (lk tm t))(xs:List Operand)(ts:List Nat):
 ∀i,i<(evs T tm xs ts).length→RepA g ((xs.map a.eval).getD i undef) ((stripL none (evs T tm xs ts)).getD i .undef):=by
 induction xs generalizing ts with
 |nil=>intro i hi;simp [evs]at hi
 |cons x xs ih=>
  cases ts with
  |nil=>intro i hi;simp [evs]at hi
  |cons t ts=>
   intro i hi
   cases i with
   |zero=>simpa [evs,stripL] using Tq h t x
   |succ i=>simpa [evs,stripL] using ih ts i (by simpa [evs] using hi)
theorem A68 {g:G} {T:TT} {tm:List (Nat × AV)} {a:Act} (h:∀t,RepA g (a.tmps.getD t undef) (lk tm t))(ty:Nat)(l:List (Nat × Operand)):
 ∀i,i<l.length→((l.map fun(i,x)=>(i,a.eval x)).getD i (0,undef)).1=((Oq none (K7 T tm ty l)).getD i (0, .undef)).1∧RepA g ((l.map fun(i,x)=>(i,a.eval x)).getD i (0,undef)).2 ((Oq none (K7 T tm ty l)).getD i (0, .undef)).2:=by
 induction l with
 |nil=>intro i hi;simp at hi
 |cons p l ih=>
  obtain⟨k,x⟩:=p
  intro i hi
  cases i with
  |zero=>exact⟨rfl,by simpa [K7,Oq] using Tq h ty x⟩
  |succ i=>simpa [K7,Oq] using ih i (by simpa using hi)
def Did(P:Program)(nt:Nat)(g:G)(st:St)(a:Act)(w:World)(s:Sem Value)(d:Option Nat)(st':St):Prop:=
 ∃val w' g',s.run P w= .ok val w'∧Evo g st.hp w g' st'.hp w'∧Ca nt g' st' (a.put d val) w'
theorem Did.step {P:Program} {nt:Nat} {g:G} {st st':St} {a:Act} {w:World} {o:Oper} {K:St→Prop} {s:Sem Value} (h:Did P nt g st a w s o.dst st')(he:execOp a.eval o=do pure (.value (←s)))(ht:TmS st.tm st'.tm o.dst)(hk:K st'):Step P nt g st a w o K:=by
 obtain⟨val,w',g',hrun,h1,h2⟩:=h
 exact Bcs (val:=val) (by rw [he];simp [hrun]) h1 h2 ht hk
theorem Bgh(P:Program)(T:TT)(hT:Dc P T) {nt:Nat} {g:G} {st:St} {a:Act} {w:World} (hr:Ca nt g st a w)(d:Nat)(hd:d<nt)(t:Nat)(ht:(tl T t).td≠ .missing)(hnt:∀ts,(tl T t).td≠ .tuple ts):
 Did P nt g st a w (Instr.alloc t true (.tuple #[])) (some d) (newVar st d t (tl T t).sh (Dv (tl T t).zero)):=by
 obtain⟨v,hz,hz1,hz2,hz3,hz4⟩:=Aqb (hT.ok t ht) hnt w
 obtain⟨g',h1,h2⟩:=A37 hr d hd (tl T t).sh (Dv (tl T t).zero) v.cells t (by rw [Cw,hz1]) (fun i hi=>by
  rw [Cw]at hi
  rw [Lu _ _ hi]
  exact .imm _ _ (hz3 _ i hi))
 exact⟨_,_,g',by unfold Instr.alloc;simp [hz,Go.newVar,newRow],h1,h2⟩
theorem Bm4(P:Program)(T:TT)(_hT:Dc P T) {nt:Nat} {g:G} {st:St} {a:Act} {w:World} (hr:Ca nt g st a w)(d:Nat)(hd:d<nt)(t:Nat)(v:Value)(V:AV)(hv:RepA g v V)(hV:Oe V=true):
 Did P nt g st a w (Instr.box t v) (some d) (newVar st d t (tl T t).sh (flat V)):=by
 obtain⟨h1,h2⟩:=Xw hv hV
 obtain⟨g',h3,h4⟩:=A37 hr d hd (tl T t).sh (flat V) v.cells t h1 h2
 exact⟨_,_,g',by unfold Instr.box;simp [Go.newVar,newRow],h3,h4⟩
theorem Bew(P:Program) {nt:Nat} {g:G} {st:St} {a:Act} {w:World} (hr:Ca nt g st a w)(d:Nat)(hd:d<nt)(v:Value)(sz ety:Nat)(hv:RepA g v (.imm (.sl .nil sz []))):
 Did P nt g st a w (pure v) (some d) (Fe st d (.loc d) (.own (.loc d)) (.arr ety true sz [])):=by
 have h0:=D5 hv
 cases h0 with |sl a' cap _ _ _ b o ws q1 q2 q3 q4=>
 have ha:=q4 rfl
 subst ha
 have hc:=q2 rfl
 subst hc
 have hb:(g.upd (Nm.beq (.loc d)) fun _=>⟨none,0,0⟩).base (.loc d)=some ⟨none,0,0⟩:=by simp [G.upd,Nm.beq_self]
 obtain⟨g',h1,h2⟩:=Kb hr ⟨rfl,rfl,rfl,Nat.le_refl _,fun _ _=>rfl⟩ d hd (.loc d) ⟨none,0,0⟩ (fun b h=>by cases h) (.slice none 0 0) (.own (.loc d)) (.arr ety true sz []) (.own (.loc d) none 0 0 hb) (.nil _ _ _ hb) (fun h=>by cases h)
 exact⟨_,w,g',rfl,h1,h2⟩
theorem A6o(P:Program) {t tx elem sz eb:Nat} (hT:A07 P t tx elem sz eb)(ty:Nat) {nt:Nat} {g:G} {st:St} {a:Act} {w:World} (hr:Ca nt g st a w)(d:Nat)(hd:d<nt)(s x:Value)(sz':Nat)(xs:List (List IV))(news:List Value)
 (hs:RepA g s (.imm (.sl .nil sz' [])))(hx:Src P g w sz x xs news)(hb:xs.length*eb≤Gq)(hn:xs.length≤Gq):
 Did P nt g st a w (Builtin.append_ #[t,tx] ty #[s,x]) (some d) (Fe st d (.loc d) (.own (.loc d)) (.arr (elem+2) true sz xs)):=by
 have h0:=D5 hs
 cases h0 with |sl a' cap _ _ _ b o ws q1 q2 q3 q4=>
 have ha:=q4 rfl
 subst ha
 have hc:=q2 rfl
 subst hc
 simp only [List.length_nil]
 by_cases hroom:xs.length=0
 ·have hxs:xs=[]:=List.eq_nil_of_length_eq_zero hroom
  subst hxs
  have hrun:=Ae5 P hT ty w none 0 0 0 x news hx.lenOf (hx.cells w fun _ _ _ h=>h) (by omega) w (fun _ h=>by cases h) (fun _=>rfl)
  have hb:(g.upd (Nm.beq (.loc d)) fun _=>⟨none,0,0⟩).base (.loc d)=some ⟨none,0,0⟩:=by simp [G.upd,Nm.beq_self]
  obtain⟨g',h1,h2⟩:=Kb hr ⟨rfl,rfl,rfl,Nat.le_refl _,fun _ _=>rfl⟩ d hd (.loc d) ⟨none,0,0⟩ (fun b h=>by cases h) (.slice none 0 0) (.own (.loc d)) (.arr (elem+2) true sz []) (.own (.loc d) none 0 0 hb) (.nil _ _ _ hb) (fun h=>by cases h)
  exact⟨_,w,g',hrun,h1,h2⟩
 ·obtain⟨nc,rest,hnc,hrest,hrun⟩:=Al4 P hT ty w none 0 0 xs.length x [] news hx.lenOf (fun w' _=>by simp [Builtin.firstCells]) (fun w' hw'=>hx.cells w' hw') (by omega) (by simpa using hb) (by omega)
  have hgrew:Aot w (w.drew.alloc (.cells (([]++news).toArray++rest) elem)):=Atl (Qd w.drew _)
  have hcell:∀k,k<xs.length*sz→(([]++news).toArray++rest).getD k undef=news.getD k undef:=by
   intro k hk
   have h1:k<news.length:=by rw [hx.len];omega
   have e1:(([]++news).toArray++rest)[k]? =news[k]? :=by
    rw [Array.getElem?_append_left (by simp;omega)]
    simp
   simp only [Array.getD_eq_getD_getElem?,List.getD_eq_getElem?_getD,e1]
  have hent':=Aio (h:=st.hp) (w:=w) (w':=w.drew.alloc (.cells (([]++news).toArray++rest) elem)) hr.sat (.loc d) (elem+2) sz nc xs (([]++news).toArray++rest) elem (0,0) true (heap_alloc_new w.drew _)
   (by simp [hx.len,hrest];rw [←Nat.add_mul];congr 1;omega) (by omega) hx.rowlen (fun i j hi hj=>by
    have hlt:i*sz+j<xs.length*sz:=by
     have:(i+1)*sz≤xs.length*sz:=Nat.mul_le_mul_right _ (by omega)
     rw [Nat.add_mul]at this;omega
    rw [hcell _ hlt]
    exact hx.rep i j hi hj) (fun o _ h=>by simp at h) (fun o ho=>by
    rw [hcell _ ho]
    have h1:o<news.length:=by rw [hx.len];omega
    simp only [List.getD_eq_getElem?_getD,List.getElem?_eq_getElem h1,Option.getD_some]
    exact hx.one _ (List.getElem_mem h1)) (fun e he=>⟨by omega,by omega,rfl⟩)
  obtain⟨g',h1,h2⟩:=Kb hr hgrew d hd (.loc d) ⟨some w.heap.size,nc,xs.length⟩ (fun b h=>by injection h with h;omega) (.slice (some ⟨w.heap.size,0,none⟩) xs.length nc) (.own (.loc d)) (.arr (elem+2) true sz xs)
   (RepA.own (g:=g.upd (Nm.beq (.loc d)) fun _=>⟨some w.heap.size,nc,xs.length⟩) (.loc d) (some w.heap.size) nc _ (by simp [G.upd,Nm.beq_self])) hent' (fun h=>by cases h)
  exact⟨_,_,g',by rw [hrun];simp,h1,h2⟩
theorem A13(P:Program) {t tx elem sz eb:Nat} (hT:A07 P t tx elem sz eb)(ty:Nat) {nt:Nat} {g:G} {st:St} {a:Act} {w:World} (hr:Ca nt g st a w)(d:Nat)(hd:d<nt)(s x:Value)(sz':Nat)(xs:List (List IV))(news:List Value)
 (hs:RepA g s (.imm (.sl .tight sz' [])))(hx:Src P g w sz x xs news)(hb:xs.length*eb≤Gq)(hn:xs.length≤Gq):
 Did P nt g st a w (Builtin.append_ #[t,tx] ty #[s,x]) (some d) (Fe st d (.loc d) (.win (.loc d) sz 0 xs.length) (.arr 1 true sz xs)):=by
 have h0:=D5 hs
 cases h0 with |sl a' cap _ _ _ b o ws q1 q2 q3 q4=>
 have hc:cap=0:=q3 rfl
 subst hc
 simp only [List.length_nil]
 by_cases hroom:xs.length=0
 ·have hxs:xs=[]:=List.eq_nil_of_length_eq_zero hroom
  subst hxs
  have hrun:=Ae5 P hT ty w a' 0 0 0 x news hx.lenOf (hx.cells w fun _ _ _ h=>h) (by omega) w (fun ad _=>by
   have:news=[]:=List.eq_nil_of_length_eq_zero (by have:=hx.len;simpa using this)
   subst this
   rfl) (fun _=>rfl)
  have hb:(g.upd (Nm.beq (.loc d)) fun _=>⟨none,0,0⟩).base (.loc d)=some ⟨none,0,0⟩:=by simp [G.upd,Nm.beq_self]
  obtain⟨g',h1,h2⟩:=Kb hr ⟨rfl,rfl,rfl,Nat.le_refl _,fun _ _=>rfl⟩ d hd (.loc d) ⟨none,0,0⟩ (fun b h=>by cases h) (.slice a' 0 0) (.win (.loc d) sz 0 0) (.arr 1 true sz []) (.win (.loc d) none 0 0 sz 0 0 0 a' hb (Nat.le_refl _) (Nat.le_refl _) (Nat.le_refl _) (fun h=>by omega)) (.nil _ _ _ hb) (fun h=>by cases h)
  exact⟨_,w,g',hrun,h1,h2⟩
 ·obtain⟨nc,rest,hnc,hrest,hrun⟩:=Al4 P hT ty w a' 0 0 xs.length x [] news hx.lenOf (fun w' _=>by cases a'<;>simp [Builtin.firstCells,loadCells,loadCellsFrom]) (fun w' hw'=>hx.cells w' hw') (by omega) (by simpa using hb) (by omega)
  have hgrew:Aot w (w.drew.alloc (.cells (([]++news).toArray++rest) elem)):=Atl (Qd w.drew _)
  have hcell:∀k,k<xs.length*sz→(([]++news).toArray++rest).getD k undef=news.getD k undef:=by
   intro k hk
   have h1:k<news.length:=by rw [hx.len];omega
   have e1:(([]++news).toArray++rest)[k]? =news[k]? :=by
    rw [Array.getElem?_append_left (by simp;omega)]
    simp
   simp only [Array.getD_eq_getD_getElem?,List.getD_eq_getElem?_getD,e1]
  have hent':=Aio (h:=st.hp) (w:=w) (w':=w.drew.alloc (.cells (([]++news).toArray++rest) elem)) hr.sat (.loc d) 1 sz nc xs (([]++news).toArray++rest) elem (0,0) true (heap_alloc_new w.drew _)
   (by simp [hx.len,hrest];rw [←Nat.add_mul];congr 1;omega) (by omega) hx.rowlen (fun i j hi hj=>by
    have hlt:i*sz+j<xs.length*sz:=by
     have:(i+1)*sz≤xs.length*sz:=Nat.mul_le_mul_right _ (by omega)
     rw [Nat.add_mul]at this;omega
    rw [hcell _ hlt]
    exact hx.rep i j hi hj) (fun o _ h=>by simp at h) (fun o ho=>by
    rw [hcell _ ho]
    have h1:o<news.length:=by rw [hx.len];omega
    simp only [List.getD_eq_getElem?_getD,List.getElem?_eq_getElem h1,Option.getD_some]
    exact hx.one _ (List.getElem_mem h1)) (fun e he=>by omega)
  obtain⟨g',h1,h2⟩:=Kb hr hgrew d hd (.loc d) ⟨some w.heap.size,nc,xs.length⟩ (fun b h=>by injection h with h;omega) (.slice (some ⟨w.heap.size,0,none⟩) xs.length nc) (.win (.loc d) sz 0 xs.length) (.arr 1 true sz xs)
   (RepA.win (g:=g.upd (Nm.beq (.loc d)) fun _=>⟨some w.heap.size,nc,xs.length⟩) (.loc d) (some w.heap.size) nc xs.length sz 0 xs.length nc _ (by simp [G.upd,Nm.beq_self]) (by omega) (by omega) (by omega) (fun _=>by simp)) hent' (fun h=>by cases h)
  exact⟨_,_,g',by rw [hrun];simp,h1,h2⟩
theorem A9w(row vs:List IV)(j sz:Nat)(hr:row.length=sz)(hj:j+vs.length≤sz):(setRow row j vs sz).length=sz∧∀k,(setRow row j vs sz).getD k default=if j≤k∧k<j+vs.length then vs.getD (k - j) default else row.getD k default:=by
 have gen:(row.take j++vs++row.drop (j+vs.length)).length=sz∧∀k,(row.take j++vs++row.drop (j+vs.length)).getD k default=if j≤k∧k<j+vs.length then vs.getD (k - j) default else row.getD k default:=by
  refine⟨by simp;omega,fun k=> ?_⟩
  simp only [List.getD_eq_getElem?_getD]
  by_cases h1:k<j
  ·rw [if_neg (by omega),List.append_assoc,List.getElem?_append_left (by simp;omega),List.getElem?_take,if_pos h1]
  ·by_cases h2:k<j+vs.length
   ·rw [if_pos (by omega),List.append_assoc,List.getElem?_append_right (by simp;omega),List.getElem?_append_left (by simp;omega)]
    simp;congr 2;omega
   ·rw [if_neg (by omega),List.getElem?_append_right (by simp;omega)]
    simp
    congr 2;omega
 unfold setRow
 split
 ·rename_i h
  have:vs.length=sz:=by simpa using h
  refine⟨this,fun k=> ?_⟩
  by_cases hk:k<vs.length
  ·rw [if_pos (by omega)];simp
  ·rw [if_neg (by omega)]
   simp [List.getD_eq_getElem?_getD,List.getElem?_eq_none (show vs.length≤k by omega),List.getElem?_eq_none (show row.length≤k by omega)]
 ·exact gen
theorem Bhg {i i' j j' sz:Nat} (hj:j<sz)(hj':j'<sz)(h:i*sz+j=i'*sz+j'):i=i'∧j=j':=by
 have h1:(i*sz+j) / sz=i:=by rw [Nat.mul_comm,Nat.mul_add_div (by omega),Nat.div_eq_of_lt hj];omega
 have h2:(i'*sz+j') / sz=i':=by rw [Nat.mul_comm,Nat.mul_add_div (by omega),Nat.div_eq_of_lt hj'];omega
 rw [h,h2]at h1
 subst h1
 omega
theorem Bfl(P:Program)(T:TT)(hT:Dc P T) {nt:Nat} {g:G} {st:St} {a:Act} {w:World} (hr:Ca nt g st a w)(t:Nat)(ht:(tl T t).td≠ .missing)(x v:Value)(n:Nm)(sz i j:Nat)(V:AV)(hx:RepA g x (.elt n sz i j))(hv:RepA g v V)
 (hfo:Oe V=true)(hlen:(flat V).length=(tl T t).size)(ty:Nat)(rows:List (List IV))(hg:hget st.hp n=some (.arr ty true sz rows))(hone:Akh (flat V)=true)(vs:List IV)(hvs:toI (flat V)=some vs)(hfit:j+vs.length≤sz)(hi:i<rows.length):
 ∃w',(Instr.storeAt t x v).run P w= .ok () w'∧Evo g st.hp w g (hset st.hp n (.arr ty true sz (rows.set i (setRow (rows.getD i []) j vs sz)))) w'∧Sat g (hset st.hp n (.arr ty true sz (rows.set i (setRow (rows.getD i []) j vs sz)))) w':=by
 have hti:=hT.ok t ht
 obtain⟨hcs,hcr⟩:=Xw hv hfo
 have hfl:=Ayp hvs
 have hvl:(flat V).length=vs.length:=by rw [hfl,Cw]
 cases hx with |elt _ b c l _ _ _ hb=>
 have hent:=hr.sat.ent _ _ hg
 cases hent with
 |nil _ _ _ q1=>rw [hb]at q1;injection q1 with q1;injection q1 with e1;cases e1
 |arr _ _ _ _ b' cap cs TT' fz q1 q2 q3 q4 q5 q6 q7 q8 q10 q11=>
 rw [hb]at q1
 injection q1 with q1
 injection q1 with e1 e2 e3
 injection e1 with e1
 subst e1;subst e2;subst e3
 have hrow:(rows.getD i []).length=sz:=by
  rw [List.getD_eq_getElem?_getD,List.getElem?_eq_getElem hi]
  exact q5 _ (List.getElem_mem hi)
 obtain⟨s1,s2⟩:=A9w (rows.getD i []) vs j sz hrow hfit
 have hin:i*sz+j+vs.length≤rows.length*sz:=by
  have:(i+1)*sz≤rows.length*sz:=Nat.mul_le_mul_right _ (by omega)
  rw [Nat.add_mul]at this;omega
 have hcap:rows.length*sz≤cs.size:=by rw [q3];exact Nat.mul_le_mul_right _ q4
 have hvsz:v.cells.size=vs.length:=by omega
 obtain⟨hl1,hl2⟩:=Af2 v.cells.toList (i*sz+j) cs (by simp;omega)
 have hrun:(Instr.storeAt t (.pointer (some ⟨b,i*sz+j,none⟩)) v).run P w= .ok () (w.setRow b (Pe (i*sz+j) v.cells.toList cs)):=by
  unfold Instr.storeAt Instr.sureAddr storeVar
  simp only [Sem.run_bind,Sem.run_pure,Result.andThen_ok,Aif hti]
  have:¬(v.cells.size≠(tl T t).size):=by simp;omega
  simp only [this,if_false]
  have hst:=Np P b (i*sz+j) TT' fz v.cells.toList 0 cs w q2 (by simp;omega) (fun k hk=>q7 _ (by simp at hk;omega) (.inl rfl)) (fun u hu=>by
   obtain⟨k,hk,rfl⟩:=List.getElem_of_mem hu
   have hk':k<(flat V).length:=by simp at hk;omega
   have h1:=one_cell (hcr k hk') (Af5 hone k hk')
   have:v.cells.getD k undef=v.cells.toList[k]:=by
    have:k<v.cells.size:=by simpa using hk
    simp [Array.getD_eq_getD_getElem?,this]
   rw [←this];exact h1)
  simpa using hst
 refine⟨_,hrun, ?_⟩
 have hgetrow:∀i',i'<rows.length→(rows.set i (setRow (rows.getD i []) j vs sz)).getD i' []=if i'=i then setRow (rows.getD i []) j vs sz else rows.getD i' []:=by
  intro i' hi'
  simp only [List.getD_eq_getElem?_getD,List.getElem?_set]
  by_cases h:i=i'
  ·subst h;simp [hi']
  ·rw [if_neg h,if_neg (Ne.symm h)]
 have hval:∀k,k<vs.length→RepI g.imm (v.cells.getD k undef) (vs.getD k default):=by
  intro k hk
  have:=hcr k (by omega)
  rw [hfl,Lu _ _ hk]at this
  exact D5 this
 refine U2 (w':=w.setRow b (Pe (i*sz+j) v.cells.toList cs)) hr n _ _ hg b c _ hb rfl rfl rfl (by simp [World.setRow]) (fun k hk=>setRow_other w b k _ hk) (fun o u hi=>by rw [q8 o (.inl rfl)]at hi;cases hi)
  (.arr _ _ _ _ b c _ TT' fz (by rw [hb];simp) (setRow_heap w b cs _ _ _ q2) (by rw [hl1,q3]) (by simpa using q4) (fun r hr'=> ?_) (fun i' j' hi' hj'=> ?_) (fun o ho hor=>q7 o (by rw [hl1]at ho;exact ho) (.inl rfl)) (fun o _=>q8 o (.inl rfl)) (fun o ho=> ?_) q11) (fun _ _ _ _ _=>⟨_,_,_,by rename_i hh;injection hh with hh;subst hh;rfl⟩)
 ·obtain⟨k,hk,rfl⟩:=List.getElem_of_mem hr'
  have hk':k<rows.length:=by simpa using hk
  have:=hgetrow k hk'
  rw [List.getD_eq_getElem?_getD,List.getElem?_eq_getElem hk,Option.getD_some]at this
  rw [this]
  split
  ·exact s1
  ·rw [List.getD_eq_getElem?_getD,List.getElem?_eq_getElem hk'];exact q5 _ (List.getElem_mem hk')
 ·have hi'':i'<rows.length:=by simpa using hi'
  rw [hgetrow i' hi'',hl2]
  simp only [Array.length_toList,hvsz]
  by_cases hii:i'=i
  ·subst hii
   rw [if_pos rfl,s2]
   by_cases hjj:j≤j'∧j'<j+vs.length
   ·rw [if_pos (by omega),if_pos hjj,show i'*sz+j' - (i'*sz+j)=j' - j by omega]
    have:=hval (j' - j) (by omega)
    simpa [List.getD_eq_getElem?_getD,Array.getD_eq_getD_getElem?] using this
   ·rw [if_neg (by omega),if_neg hjj]
    exact q6 i' j' hi'' hj'
  ·rw [if_neg hii,if_neg]
   ·exact q6 i' j' hi'' hj'
   ·rintro⟨h1,h2⟩
    have:i'*sz+j'=i*sz+(i'*sz+j' - i*sz):=by omega
    obtain⟨e1,_⟩:=Bhg hj' (show i'*sz+j' - i*sz<sz by omega) this
    exact hii e1
 ·have ho':o<rows.length*sz:=by simpa using ho
  rw [hl2]
  simp only [Array.length_toList,hvsz]
  split
  ·rename_i h
   have hk:o - (i*sz+j)<(flat V).length:=by omega
   have h1:=one_cell (hcr _ hk) (Af5 hone _ hk)
   have e1:v.cells.toList.getD (o - (i*sz+j)) undef=v.cells.getD (o - (i*sz+j)) undef:=by
    simp [List.getD_eq_getElem?_getD,Array.getD_eq_getD_getElem?]
   rw [e1];exact h1
  ·exact q10 o ho'
theorem Aj5(z:List IV)(off len:Nat)(rows:List (List IV))(h:off+len≤rows.length):(Ka z off len rows).length=rows.length:=by
 simp [Ka];omega
theorem A16(z:List IV)(off len:Nat)(rows:List (List IV))(h:off+len≤rows.length)(i:Nat)(hi:i<rows.length):(Ka z off len rows).getD i []=if off≤i∧i<off+len then z else rows.getD i []:=by
 simp only [Ka,List.getD_eq_getElem?_getD]
 by_cases h1:i<off
 ·rw [if_neg (by omega),List.append_assoc,List.getElem?_append_left (by simp;omega),List.getElem?_take,if_pos h1]
 ·by_cases h2:i<off+len
  ·rw [if_pos (by omega),List.append_assoc,List.getElem?_append_right (by simp;omega),List.getElem?_append_left (by simp;omega)]
   simp
   rw [List.getElem?_replicate,if_pos (by omega)]
   rfl
  ·rw [if_neg (by omega),List.getElem?_append_right (by simp;omega)]
   simp
   congr 2;omega
theorem A17(z:List IV)(off:Nat)(rows:List (List IV)):Ka z off 0 rows=rows:=by simp [Ka]
theorem A3r(z:Array Value)(n o:Nat)(hz:0<z.size)(ho:o<n*z.size):(Builtin.zeroCells z n).toList.getD o undef=z.getD (o % z.size) undef:=by
 have h1:o % z.size<z.size:=Nat.mod_lt _ hz
 simp [Builtin.zeroCells,List.getD_eq_getElem?_getD,Array.getD_eq_getD_getElem?,ho,h1]
theorem Bed(h:Heap)(n:Nm)(e:Entry)(hg:hget h n=some e):hset h n e=h:=by
 induction h with
 |nil=>cases hg
 |cons x h ih=>
  obtain⟨m,e'⟩:=x
  simp only [hget]at hg
  simp only [hset]
  split at hg
  ·injection hg with hg;subst hg;rfl
  ·rw [ih hg]
theorem Bgr(P:Program)(T:TT)(hT:Dc P T) {nt:Nat} {g:G} {st:St} {a:Act} {w:World} (hr:Ca nt g st a w)(t ty elem esz eb:Nat)(esh:List CS)(htd:(tl T t).td= .slice elem esz eb esh)(hke:(tl T elem).td≠ .missing)
 (hnt:∀ts,(tl T elem).td≠ .tuple ts)(x:Value)(n:Nm)(off len:Nat)(hx:RepA g x (.win n esz off len))(aty:Nat)(rows:List (List IV))(hg:hget st.hp n=some (.arr aty true esz rows)):
 ∃w',(Builtin.clear_ #[t] ty #[x]).run P w= .ok (.tuple #[]) w'∧Evo g st.hp w g (hset st.hp n (.arr aty true esz (Ka (tl T elem).zero off len rows))) w'∧Sat g (hset st.hp n (.arr aty true esz (Ka (tl T elem).zero off len rows))) w':=by
 have hu:=(hT.ok t (by rw [htd];simp)).td
 rw [htd]at hu
 obtain⟨hu,i,hi',hisz,_⟩:=hu
 cases hx with |win _ al c l _ _ _ k p hb hle hk1 hk2 hp=>
 have hent:=hr.sat.ent _ _ hg
 have hlr:=hent.len_rows hb
 have hlc:=hent.len_cap hb
 by_cases hlen0:len=0
 ·subst hlen0
  refine⟨w, ?_, ?_⟩
  ·cases p<;>simp [Builtin.clear_,run_underlying hu]
  ·rw [A17,Bed _ _ _ hg]
   exact⟨Evo.refl _ _ _,hr.sat⟩
 have hp:=hp (by omega)
 subst hp
 cases hent with
 |nil _ _ _ q1=>rw [hb]at q1;injection q1 with q1;injection q1 with e1 e2 e3;omega
 |arr _ _ _ _ b' cap cs TT' fz q1 q2 q3 q4 q5 q6 q7 q8 q10 q11=>
 rw [hb]at q1
 injection q1 with q1
 injection q1 with e1 e2 e3
 subst e1;subst e2;subst e3
 obtain⟨z,hz,hz1,hz2,hz3,hz4⟩:=Aqb (hT.ok elem hke) hnt w
 have hzz:z.cells.size=esz:=by
  obtain⟨j,hj,hj1,_⟩:=(hT.ok elem hke).info
  rw [hi']at hj
  injection hj with hj
  subst hj
  omega
 generalize hzc:(Builtin.zeroCells z.cells len).toList=zs
 have hzl:zs.length=len*esz:=by rw [←hzc,Array.length_toList,size_zeroCells,hzz]
 have hzg:∀o,o<len*esz→zs.getD o undef=z.cells.getD (o % esz) undef:=by
  intro o ho
  have h0:0<esz:=by
   rcases Nat.eq_zero_or_pos esz with h |h
   ·rw [h]at ho;omega
   ·exact h
  rw [←hzc,A3r _ _ _ (by omega) (by rw [hzz];exact ho),hzz]
 have hfit:off*esz+len*esz≤rows.length*esz:=by rw [←Nat.add_mul];exact Nat.mul_le_mul_right _ hle
 have hcap:rows.length*esz≤cs.size:=by rw [q3];exact Nat.mul_le_mul_right _ q4
 obtain⟨hl1,hl2⟩:=Af2 zs (off*esz) cs (by omega)
 have hone:∀o,o<len*esz→(zs.getD o undef).oneCell'=true:=by
  intro o ho
  rw [hzg o ho]
  have h0:0<esz:=by
   rcases Nat.eq_zero_or_pos esz with h |h
   ·rw [h]at ho;omega
   ·exact h
  exact hz4 _ (by rw [←hz1,hzz];exact Nat.mod_lt _ h0)
 have hst:=Np P b' (off*esz) TT' fz zs 0 cs w q2 (by omega) (fun k hk=>q7 _ (by omega) (.inl rfl)) (fun u hu=>by
  obtain⟨k,hk,rfl⟩:=List.getElem_of_mem hu
  have:=hone k (by omega)
  rwa [List.getD_eq_getElem?_getD,List.getElem?_eq_getElem hk,Option.getD_some]at this)
 refine⟨w.setRow b' (Pe (off*esz) zs cs), ?_, ?_⟩
 ·obtain⟨m,rfl⟩:∃m,len=m+1:=⟨len - 1,by omega⟩
  simp only [Nat.add_zero]at hst
  simp [Builtin.clear_,run_underlying hu,hz,hzc,hst]
 have hget:=A16 (tl T elem).zero off len rows hle
 have hclen:=Aj5 (tl T elem).zero off len rows hle
 refine U2 (w':=w.setRow b' (Pe (off*esz) zs cs)) hr n _ _ hg b' c _ hb rfl rfl rfl (by simp [World.setRow]) (fun k hk=>setRow_other w b' k _ hk) (fun o u hi=>by rw [q8 o (.inl rfl)]at hi;cases hi)
  (.arr _ _ _ _ b' c _ TT' fz (by rw [hb,hclen]) (setRow_heap w b' cs _ _ _ q2) (by rw [hl1,q3]) (by rw [hclen];exact q4) (fun r hr'=> ?_) (fun i' j' hi' hj'=> ?_) (fun o ho hor=>q7 o (by rw [hl1]at ho;exact ho) (.inl rfl)) (fun o _=>q8 o (.inl rfl)) (fun o ho=> ?_) q11) (fun _ _ _ _ _=>⟨_,_,_,by rename_i hh;injection hh with hh;subst hh;rfl⟩)
 ·obtain⟨k,hk,rfl⟩:=List.getElem_of_mem hr'
  have hk':k<rows.length:=by rw [←hclen];exact hk
  have:=hget k hk'
  rw [List.getD_eq_getElem?_getD,List.getElem?_eq_getElem hk,Option.getD_some]at this
  rw [this]
  split
  ·rw [←hz1,hzz]
  ·rw [List.getD_eq_getElem?_getD,List.getElem?_eq_getElem hk'];exact q5 _ (List.getElem_mem hk')
 ·have hi'':i'<rows.length:=by rw [←hclen];exact hi'
  rw [hget i' hi'',hl2,hzl]
  by_cases hin:off≤i'∧i'<off+len
  ·rw [if_pos hin]
   obtain⟨q,rfl⟩:∃q,i'=off+q:=⟨i' - off,by omega⟩
   have hq:q*esz+j'<len*esz:=by
    have:(q+1)*esz≤len*esz:=Nat.mul_le_mul_right _ (by omega)
    rw [Nat.add_mul]at this;omega
   rw [Nat.add_mul,if_pos (by omega),show off*esz+q*esz+j' - off*esz=q*esz+j' by omega,hzg _ hq]
   have hmod:(q*esz+j') % esz=j':=by rw [Nat.mul_comm,Nat.mul_add_mod,Nat.mod_eq_of_lt hj']
   rw [hmod]
   exact hz3 g.imm j' (by omega)
  ·rw [if_neg hin,if_neg]
   ·exact q6 i' j' hi'' hj'
   ·rintro⟨h1,h2⟩
    rw [←Nat.add_mul]at h2
    apply hin
    constructor
    ·rcases Nat.lt_or_ge i' off with h |h
     ·have:(i'+1)*esz≤off*esz:=Nat.mul_le_mul_right _ h
      rw [Nat.add_mul]at this
      omega
     ·exact h
    ·rcases Nat.lt_or_ge i' (off+len)with h |h
     ·exact h
     ·have:(off+len)*esz≤i'*esz:=Nat.mul_le_mul_right _ h
      omega
 ·have ho':o<rows.length*esz:=by rw [hclen]at ho;exact ho
  rw [hl2,hzl]
  split
  ·exact hone _ (by omega)
  ·exact q10 o ho'
theorem Ao6(sz:Nat):∀(n:Nat) (l:List IV),n*sz≤l.length→(chunk sz n l).length=n∧(∀r,r∈chunk sz n l→r.length=sz)∧∀i j,i<n→j<sz→((chunk sz n l).getD i []).getD j default=l.getD (i*sz+j) default
 |0,l,_=>⟨rfl,fun r h=>(by cases h),fun i j h=>by omega⟩
 |n+1,l,h=>by
  rw [Nat.add_mul]at h
  obtain⟨h1,h2,h3⟩:=Ao6 sz n (l.drop sz) (by simp;omega)
  refine⟨by simp [chunk,h1],fun r hr=> ?_,fun i j hi hj=> ?_⟩
  ·rcases List.mem_cons.1 hr with rfl |hr
   ·simp;omega
   ·exact h2 r hr
  ·cases i with
   |zero=>
    simp only [chunk,List.getD_cons_zero]
    rw [getD_take _ _ _ _ hj]
    simp
   |succ i=>
    simp only [chunk,List.getD_cons_succ]
    rw [h3 i j (by omega) hj,getD_drop]
    congr 1
    rw [Nat.add_mul];omega
theorem A9g(P:Program)(T:TT)(hT:Dc P T) {nt:Nat} {g:G} {st:St} {a:Act} {w:World} (hr:Ca nt g st a w)(d:Nat)(hd:d<nt)(t:Nat)(ht:(tl T t).td≠ .missing)(hnt:∀ts,(tl T t).td≠ .tuple ts)(k esz:Nat)(hz:(tl T t).zero.length=k*esz):
 Did P nt g st a w (Instr.alloc t true (.tuple #[])) (some d) (Fe st d (.loc d) (.ptr (.loc d) 0) (.arr 1 true esz (chunk esz k (tl T t).zero))):=by
 obtain⟨v,hz0,hz1,hz2,hz3,hz4⟩:=Aqb (hT.ok t ht) hnt w
 obtain⟨c1,c2,c3⟩:=Ao6 esz k (tl T t).zero (by omega)
 have hgrew:Aot w (w.alloc (.cells v.cells t)):=Qd w _
 have hent:=Aio (h:=st.hp) (w:=w) (w':=w.alloc (.cells v.cells t)) hr.sat (.loc d) 1 esz k (chunk esz k (tl T t).zero) v.cells t (0,0) true (heap_alloc_new w _) (by rw [hz1,hz]) (by omega) c2
  (fun i j hi hj=>by
   rw [c1]at hi
   have hlt:i*esz+j<k*esz:=by
    have:(i+1)*esz≤k*esz:=Nat.mul_le_mul_right _ (by omega)
    rw [Nat.add_mul]at this;omega
   rw [c3 i j hi hj]
   exact hz3 _ _ (by omega)) (fun o _ h=>by simp at h) (fun o ho=>by rw [c1]at ho;exact hz4 o (by omega)) (fun e he=>by omega)
 obtain⟨g',h1,h2⟩:=Kb hr hgrew d hd (.loc d) ⟨some w.heap.size,k,(chunk esz k (tl T t).zero).length⟩ (fun b h=>by injection h with h;omega) (.pointer (some ⟨w.heap.size,0,none⟩)) (.ptr (.loc d) 0) (.arr 1 true esz (chunk esz k (tl T t).zero))
  (RepA.ptr (g:=g.upd (Nm.beq (.loc d)) fun _=>⟨some w.heap.size,k,(chunk esz k (tl T t).zero).length⟩) (.loc d) w.heap.size k (chunk esz k (tl T t).zero).length 0 (by simp [G.upd,Nm.beq_self])) hent (fun h=>by cases h)
 exact⟨_,_,g',by unfold Instr.alloc;simp [hz0,Go.newVar,newRow],h1,h2⟩
theorem A9y(P:Program)(T:TT)(hT:Dc P T) {nt:Nat} {g:G} {st:St} {a:Act} {w:World} (hr:Ca nt g st a w)(t:Nat)(ht:(tl T t).td≠ .missing)(x v:Value)(n:Nm)(k sz:Nat)(V:AV)(hx:RepA g x (.ptr n 0))(hv:RepA g v V)
 (hfo:Oe V=true)(hlen:(flat V).length=(tl T t).size)(ty:Nat)(rows:List (List IV))(hg:hget st.hp n=some (.arr ty true sz rows))(hone:Akh (flat V)=true)(vs:List IV)(hvs:toI (flat V)=some vs)(hvl:vs.length=k*sz)(hk:rows.length=k):
 ∃w',(Instr.storeAt t x v).run P w= .ok () w'∧Evo g st.hp w g (hset st.hp n (.arr ty true sz (chunk sz k vs))) w'∧Sat g (hset st.hp n (.arr ty true sz (chunk sz k vs))) w':=by
 have hti:=hT.ok t ht
 obtain⟨hcs,hcr⟩:=Xw hv hfo
 have hfl:=Ayp hvs
 have hvl2:(flat V).length=vs.length:=by rw [hfl,Cw]
 cases hx with |ptr _ b c l _ hb=>
 have hent:=hr.sat.ent _ _ hg
 cases hent with
 |nil _ _ _ q1=>rw [hb]at q1;injection q1 with q1;injection q1 with e1;cases e1
 |arr _ _ _ _ b' cap cs TT' fz q1 q2 q3 q4 q5 q6 q7 q8 q10 q11=>
 rw [hb]at q1
 injection q1 with q1
 injection q1 with e1 e2 e3
 injection e1 with e1
 subst e1;subst e2;subst e3
 obtain⟨c1,c2,c3⟩:=Ao6 sz k vs (by omega)
 have hcap:k*sz≤cs.size:=by rw [q3, ←hk];exact Nat.mul_le_mul_right _ q4
 have hvsz:v.cells.size=k*sz:=by omega
 obtain⟨hl1,hl2⟩:=Af2 v.cells.toList 0 cs (by simp;omega)
 have hone':∀o,o<k*sz→(v.cells.getD o undef).oneCell'=true:=fun o ho=>one_cell (hcr o (by omega)) (Af5 hone o (by omega))
 have hval:∀o,o<k*sz→RepI g.imm (v.cells.getD o undef) (vs.getD o default):=by
  intro o ho
  have:=hcr o (by omega)
  rw [hfl,Lu _ _ (by omega)]at this
  exact D5 this
 have hrun:(Instr.storeAt t (.pointer (some ⟨b,0,none⟩)) v).run P w= .ok () (w.setRow b (Pe 0 v.cells.toList cs)):=by
  unfold Instr.storeAt Instr.sureAddr storeVar
  simp only [Sem.run_bind,Sem.run_pure,Result.andThen_ok,Aif hti]
  have:¬(v.cells.size≠(tl T t).size):=by simp;omega
  simp only [this,if_false]
  have hst:=Np P b 0 TT' fz v.cells.toList 0 cs w q2 (by simp;omega) (fun i hi=>q7 _ (by simp at hi;omega) (.inl rfl)) (fun u hu=>by
   obtain⟨i,hi,rfl⟩:=List.getElem_of_mem hu
   have h1:=hone' i (by simp at hi;omega)
   have:v.cells.getD i undef=v.cells.toList[i]:=by
    have:i<v.cells.size:=by simpa using hi
    simp [Array.getD_eq_getD_getElem?,this]
   rw [←this];exact h1)
  simpa using hst
 have hlay:∀o,(Pe 0 v.cells.toList cs).getD o undef=if o<k*sz then v.cells.getD o undef else cs.getD o undef:=by
  intro o
  rw [hl2]
  simp only [Nat.zero_le,true_and,Nat.zero_add,Array.length_toList,hvsz,Nat.sub_zero]
  split
  ·simp [List.getD_eq_getElem?_getD,Array.getD_eq_getD_getElem?]
  ·rfl
 refine⟨_,hrun, ?_⟩
 refine U2 (w':=w.setRow b (Pe 0 v.cells.toList cs)) hr n _ _ hg b c _ hb rfl rfl rfl (by simp [World.setRow]) (fun k hk=>setRow_other w b k _ hk) (fun o u hi=>by rw [q8 o (.inl rfl)]at hi;cases hi)
  (.arr _ _ _ _ b c _ TT' fz (by rw [hb,c1,hk]) (setRow_heap w b cs _ _ _ q2) (by rw [hl1,q3]) (by rw [c1, ←hk];exact q4) c2 (fun i j hi hj=> ?_) (fun o ho hor=>q7 o (by rw [hl1]at ho;exact ho) (.inl rfl)) (fun o _=>q8 o (.inl rfl)) (fun o ho=> ?_) q11) (fun _ _ _ _ _=>⟨_,_,_,by rename_i hh;injection hh with hh;subst hh;rfl⟩)
 ·rw [c1]at hi
  have hlt:i*sz+j<k*sz:=by
   have:(i+1)*sz≤k*sz:=Nat.mul_le_mul_right _ (by omega)
   rw [Nat.add_mul]at this;omega
  rw [hlay,if_pos hlt,c3 i j hi hj]
  exact hval _ hlt
 ·rw [c1]at ho
  rw [hlay,if_pos ho]
  exact hone' o ho
end Go.Proofs.Sim

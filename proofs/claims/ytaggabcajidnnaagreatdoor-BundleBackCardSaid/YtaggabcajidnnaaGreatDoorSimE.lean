import Derived.Test.YtaggabcajidnnaaGreatDoorSimU
namespace Go.Proofs.Sim
open Go
def OutN(P:Program)(w:World)(g:G)(s:Sem Next):PR→Prop
 | .bad=>True
 | .ok v=>∃val,(∀w',Up w w'→s.run P w'= .ok (.value val) w')∧RepA g val v
 | .req c v=>c→∃val,(∀w',Up w w'→s.run P w'= .ok (.value val) w')∧RepA g val v
theorem OutN.of {P:Program} {w:World} {g:G} {s:Sem Value} {pr:PR} (h:Out P w g s pr)(s':Sem Next)(hs:s'=(do pure (.value (←s)))):OutN P w g s' pr:=by
 subst hs
 cases pr with
 |bad=>trivial
 |ok v=>obtain⟨val,h1,h2⟩:=h;exact⟨val,fun w' hu=>by simp [h1 w' hu],h2⟩
 |req c v=>intro hc;obtain⟨val,h1,h2⟩:=h hc;exact⟨val,fun w' hu=>by simp [h1 w' hu],h2⟩
theorem OutN.val {P:Program} {w:World} {g:G} {v:AV} {val:Value} (h:RepA g val v)(s':Sem Next)(hs:s'=pure (.value val)):OutN P w g s' (.ok v):=by
 subst hs
 exact⟨val,fun w' _=>by simp,h⟩
theorem Ble(P:Program)(w:World)(g:G)(tm:List (Nat × AV))(a:Act)(o:Oper)(c x y:Operand)(ho:o.op= .pick c x y)(cv X Y:AV)(hc:RepA g (a.eval c) cv)(hcv:∀t,c= .tmp t→cv=Afe (lk tm t))
 (hx:RepA g (a.eval x) X)(hy:RepA g (a.eval y) Y)(hwx:∀t b want z,X= .when t b want z→lk tm t= .imm (.bool b))(hwy:∀t b want z,Y= .when t b want z→lk tm t= .imm (.bool b)):
 OutN P w g (execOp a.eval o) (A7g c cv X Y):=by
 unfold A7g
 split
 ·rename_i cb
  have ec:=Om hc
  split
  ·rename_i t
   have hl:=hcv t rfl
   have run:∀w',Up w w'→(execOp a.eval o).run P w'= .ok (.value (if cb then a.eval x else a.eval y)) w':=by
    intro w' _
    unfold execOp
    simp only [ho]
    rw [ec]
    simp [asBool]
   have hgk:∀w,cb=w→GOK tm (some (t,w)):=by
    intro w hw
    unfold Afe at hl
    split at hl
    ·rename_i b hb
     injection hl with hl;injection hl with hl
     subst hl
     subst hw
     exact .inl hb
    ·exact .inr ⟨cb,hl.symm,hw⟩
   have hX:cb=true→RepA g (a.eval x) (strip (some (t,true)) X):=fun h=>Ayn (tm:=tm) hwx (hgk true h) hx
   have hY:cb=false→RepA g (a.eval y) (strip (some (t,false)) Y):=fun h=>Ayn (tm:=tm) hwy (hgk false h) hy
   split
   ·rename_i p q h1 h2
    refine⟨_,run, ?_⟩
    rw [h1]at hX;rw [h2]at hY
    cases cb
    ·rw [Om (hY rfl)];exact Qi _ _
    ·rw [Om (hX rfl)];exact Qi _ _
   ·rename_i p h1 h2
    intro h
    refine⟨_,run, ?_⟩
    rw [h1]at hX
    rw [h,if_pos rfl]
    exact hX h
   ·intro h
    refine⟨_,run, ?_⟩
    have:=hY h
    rw [h]
    simp_all
   ·trivial
  ·trivial
 ·trivial
theorem A7p(m:Nat→Nat→Option Value)(g:G)(hg:g.imm=m)(l:List IV)(cs:Array Value)(hl:cs.size=l.length)(h:∀j,j<l.length→RepI m (cs.getD j undef) (l.getD j default)):
 cs.size=(Dv l).length∧∀i,i<(Dv l).length→RepA g (cs.getD i undef) ((Dv l).getD i .undef):=by
 refine⟨by rw [Cw,hl],fun i hi=> ?_⟩
 rw [Cw]at hi
 rw [Lu _ _ hi]
 exact .imm _ _ (by rw [hg];exact h i hi)
theorem A4p {P:Program} {t:Nat} {ti:TI} (h:Aa5 P t ti)(hnt:∀ts,ti.td≠ .tuple ts):∃v:Value,(∀w,(zeroValue t).run P w= .ok v w)∧v.cells.size=ti.zero.length∧v.cells.size=ti.size∧(∀m j,j<ti.zero.length→RepI m (v.cells.getD j undef) (ti.zero.getD j default))∧∀j,j<ti.zero.length→(v.cells.getD j undef).oneCell'=true:=by
 obtain⟨i,hi,h1,h2,hz⟩:=h.info
 obtain⟨v,h3,h4,h5,h6,h7⟩:=hz hnt
 exact⟨v,fun w=>by simp [zeroValue,typeInfo,hi,h3],h4,h6,fun m j hj=>h5 j hj m,h7⟩
theorem Aqb {P:Program} {t:Nat} {ti:TI} (h:Aa5 P t ti)(hnt:∀ts,ti.td≠ .tuple ts)(w:World):∃v:Value,(zeroValue t).run P w= .ok v w∧v.cells.size=ti.zero.length∧v.cells.size=ti.size∧(∀m j,j<ti.zero.length→RepI m (v.cells.getD j undef) (ti.zero.getD j default))∧∀j,j<ti.zero.length→(v.cells.getD j undef).oneCell'=true:=by
 obtain⟨i,hi,h1,h2,hz⟩:=h.info
 obtain⟨v,h3,h4,h5,h6,h7⟩:=hz hnt
 exact⟨v,by simp [zeroValue,typeInfo,hi,h3],h4,h6,fun m j hj=>h5 j hj m,h7⟩
theorem Bht {α β:Type} (P:Program)(w:World)(f:α→Sem β)(k:α→β)(l:List α)(h:∀x,x∈l→(f x).run P w= .ok (k x) w):(l.mapM f).run P w= .ok (l.map k) w:=by
 induction l with
 |nil=>simp
 |cons a l ih=>
  rw [List.mapM_cons]
  simp only [Sem.run_bind,h a (by simp),Result.andThen_ok,ih (fun x hx=>h x (by simp [hx])),Sem.run_pure,List.map_cons]
theorem Bes {α β:Type} (P:Program)(w:World)(f:α→Sem β)(k:α→β)(xs:Array α)(h:∀x,x∈xs.toList→(f x).run P w= .ok (k x) w):(xs.mapM f).run P w= .ok (xs.map k) w:=by
 obtain⟨l⟩:=xs
 rw [List.mapM_toArray,map_eq_pure_bind,Sem.run_bind,Bht P w f k l h]
 simp
theorem I5(T:TT)(tm:List (Nat × AV))(ty:Nat)(l:List (Nat × Operand)):(K7 T tm ty l).length=l.length:=by
 induction l with |nil=>rfl |cons a l ih=>obtain⟨i,x⟩:=a;simp [K7,ih]
theorem Ke(gd:Option (Nat × Bool))(l:List (Nat × AV)):(Oq gd l).length=l.length:=by
 induction l with |nil=>rfl |cons a l ih=>obtain⟨i,x⟩:=a;simp [Oq,ih]
theorem Bh5 {g:G} {T:TT} {tm:List (Nat × AV)} {a:Act} {gd:Option (Nat × Bool)} (h:∀t,RepA g (a.tmps.getD t undef) (lk tm t))(hw:Ao2 tm)(hg:GOK tm gd)(ty:Nat)(l:List (Nat × Operand)):
 ∀i,i<l.length→((l.map fun(i,x)=>(i,a.eval x)).getD i (0,undef)).1=((Oq gd (K7 T tm ty l)).getD i (0, .undef)).1∧
  RepA g ((l.map fun(i,x)=>(i,a.eval x)).getD i (0,undef)).2 ((Oq gd (K7 T tm ty l)).getD i (0, .undef)).2:=by
 induction l with
 |nil=>intro i hi;simp at hi
 |cons p l ih=>
  obtain⟨j,x⟩:=p
  intro i hi
  cases i with
  |zero=>simp only [List.map_cons,K7,Oq,List.getD_cons_zero];exact⟨trivial,Bg1 h hw hg ty x⟩
  |succ i=>simp only [List.map_cons,K7,Oq,List.getD_cons_succ];exact ih i (by simpa using hi)
theorem A6s(P:Program)(T:TT)(hT:Dc P T)(w:World)(g:G)(t:Nat)(parts:List (Nat × Value))(Parts:List (Nat × AV))(hl:parts.length=Parts.length)
 (hp:∀i,i<Parts.length→(parts.getD i (0,undef)).1=(Parts.getD i (0, .undef)).1∧RepA g (parts.getD i (0,undef)).2 (Parts.getD i (0, .undef)).2):
 Out P w g (Instr.build t parts.toArray) (Aud (tl T t) Parts):=by
 unfold Aud
 split
 ·rename_i fs htd
  have hti:=hT.ok t (by rw [htd];simp)
  have hu:=hti.td
  rw [htd]at hu
  obtain⟨fields,hu,hfl,hf⟩:=hu
  obtain⟨z,hz,hz1,hz2,hz3,_⟩:=A4p hti (by rw [htd];simp)
  split
  ·rename_i cells hcells
   obtain⟨hc1,hc2⟩:=A7p g.imm g rfl (tl T t).zero z.cells hz1 (hz3 g.imm)
   have hpl:∀w,(fields.mapM fun f=>(do pure (f.offset, ←Go.sizeOf f.type):Sem (Nat × Nat))).run P w= .ok fs.toArray w:=by
    intro w
    rw [Bes P w _ (fun f=>(f.offset,((P.info? f.type).map (·.size)).getD 0)) fields]
    ·congr 1
     apply Array.ext_getElem?
     intro i
     rcases Nat.lt_or_ge i fs.length with h |h
     ·obtain⟨f,inf,h1,h2,h3,h4⟩:=hf i (fs[i]).1 (fs[i]).2 (by simp [h])
      simp [h1,h2,h3,h4,h]
     ·simp [h,Array.getElem?_eq_none (show fields.size≤i by omega)]
    ·intro f hfm
     obtain⟨i,hi,rfl⟩:=List.getElem_of_mem hfm
     have hi':i<fs.length:=by simpa [hfl] using hi
     obtain⟨f,inf,h1,h2,h3,h4⟩:=hf i (fs[i]).1 (fs[i]).2 (by simp [hi'])
     have hfe:fields.toList[i]=f:=by
      have:fields[i]? =some fields.toList[i]:=by simp
      rw [this]at h1;injection h1
     rw [hfe]
     simp [Dm h3,h3]
   obtain⟨cs,he,hsz,hrep⟩:=Baf g (fun i=>fs[i]?) parts Parts z.cells (Dv (tl T t).zero) cells hl hp hc1 hc2 hcells
   refine⟨.agg cs,fun w _=> ?_,Ake hsz hrep⟩
   unfold Instr.build
   simp only [Sem.run_bind,hz,Result.andThen_ok,run_underlying hu,hpl]
   have:(fun i=>(fs.toArray)[i]?)=(fun i:Nat=>fs[i]?):=by funext i;simp
   simp only [this,he]
   simp
  ·trivial
 ·rename_i n elem esz htd
  have hti:=hT.ok t (by rw [htd];simp)
  have hu:=hti.td
  rw [htd]at hu
  obtain⟨hu,inf,hi,hisz⟩:=hu
  obtain⟨z,hz,hz1,hz2,hz3,_⟩:=A4p hti (by rw [htd];simp)
  split
  ·rename_i cells hcells
   obtain⟨hc1,hc2⟩:=A7p g.imm g rfl (tl T t).zero z.cells hz1 (hz3 g.imm)
   obtain⟨cs,he,hsz,hrep⟩:=Baf g (fun i=>some (i*esz,esz)) parts Parts z.cells (Dv (tl T t).zero) cells hl hp hc1 hc2 hcells
   refine⟨.agg cs,fun w _=> ?_,Ake hsz hrep⟩
   unfold Instr.build
   simp only [Sem.run_bind,hz,Result.andThen_ok,run_underlying hu,Dm hi,hisz,he]
   simp
  ·trivial
 ·trivial
theorem Qb(T:TT)(tm:List (Nat × AV))(xs:List Operand)(ts:List Nat):(evs T tm xs ts).length=min xs.length ts.length:=by
 induction xs generalizing ts with
 |nil=>simp [evs]
 |cons x xs ih=>cases ts with |nil=>simp [evs] |cons t ts=>simp [evs,ih]
theorem Pn(gd:Option (Nat × Bool))(l:List AV):(stripL gd l).length=l.length:=by
 induction l with |nil=>rfl |cons a l ih=>simp [stripL,ih]
theorem Bko {g:G} {T:TT} {tm:List (Nat × AV)} {a:Act} (h:∀t,RepA g (a.tmps.getD t undef) (lk tm t))(xs:List Operand)(ts:List Nat):
 ∀i,i<(evs T tm xs ts).length→RepA g ((xs.map a.eval).getD i undef) ((evs T tm xs ts).getD i .undef):=by
 induction xs generalizing ts with
 |nil=>intro i hi;simp [evs]at hi
 |cons x xs ih=>
  intro i hi
  cases ts with
  |nil=>simp [evs]at hi
  |cons t ts=>
   cases i with
   |zero=>simp only [List.map_cons,evs,List.getD_cons_zero];exact Aui h t x
   |succ i=>simp only [List.map_cons,evs,List.getD_cons_succ];exact ih ts i (by simpa [evs] using hi)
theorem Oi {g:G} {T:TT} {tm:List (Nat × AV)} {a:Act} {gd:Option (Nat × Bool)} (h:∀t,RepA g (a.tmps.getD t undef) (lk tm t))(hw:Ao2 tm)(hg:GOK tm gd)(x:Option Operand):
 (∀X,Ik gd (Lj T tm x)=some X→∃v,x.map a.eval=some v∧RepA g v X)∧(Ik gd (Lj T tm x)=none→x.map a.eval=none):=by
 cases x with
 |none=>exact⟨fun X h=>by simp [Lj,Ik]at h,fun _=>rfl⟩
 |some x=>
  refine⟨fun X he=> ?_,fun he=>by simp [Lj,Ik]at he⟩
  simp only [Lj,Ik,Option.some.injEq]at he
  subst he
  exact⟨_,rfl,Bg1 h hw hg 0 x⟩
theorem Bac {T:TT} {tm:List (Nat × AV)} (hw:Ao2 tm)(ty:Nat)(x:Operand):∀t b want z,ev T tm ty x= .when t b want z→lk tm t= .imm (.bool b):=by
 intro t b want y hy
 cases x with
 |tmp u=>exact hw u t b want y (Ap9 hy)
 |const v=>
  exfalso
  have:∀ti,cst ti v≠ .when t b want y:=by
   intro ti;unfold cst;split<;>(try split)<;>simp
  exact this _ hy
 |global i=>simp [ev]at hy
 |func f=>simp [ev]at hy
theorem Bey(T:TT)(tm:List (Nat × AV))(gd:Option (Nat × Bool))(hi mx:Option Operand)(h:noRoom hi mx=true):∃k k',Ik gd (Lj T tm hi)=some (.imm (.int k 0))∧Ik gd (Lj T tm mx)=some (.imm (.int k' 0)):=by
 unfold noRoom at h
 split at h
 ·exact⟨_,_,rfl,rfl⟩
 ·cases h
theorem pure_ok(P:Program)(T:TT)(hT:Dc P T)(w:World)(g:G)(st:St)(a:Act)(gd:Option (Nat × Bool))(o:Oper)(pr:PR)
 (h:∀t,RepA g (a.tmps.getD t undef) (lk st.tm t))(hw:Ao2 st.tm)(hg:GOK st.tm gd)(hs:Sat g st.hp w)(q:Bool)(he:Acy T q gd st o=some pr):OutN P w g (execOp a.eval o) pr:=by
 obtain⟨tm,hp⟩:=st
 unfold Acy at he
 have E:=fun ty x=>Bg1 (T:=T) h hw hg ty x
 obtain⟨dst,op,type,pos,after,guard⟩:=o
 simp only at he
 split at he
 ·injection he with he;subst he
  exact OutN.val (E _ _) _ (by simp [execOp, *])
 ·split at he
  ·simp at he
  ·injection he with he;subst he
   exact OutN.val (E _ _) _ (by simp [execOp])
 ·injection he with he;subst he
  refine Ble P w g tm a _ _ _ _ rfl _ _ _ (Aui h 0 _) (fun t e=>by subst e;rfl) (Aui h _ _) (Aui h _ _) (Bac hw _ _) (Bac hw _ _)
 ·split at he
  ·cases he
  injection he with he;subst he
  exact OutN.of (Bdg P w g _ _ _ _ _ _ _ _ _ (E _ _) (E _ _) (hT.ok _)) _ rfl
 ·injection he with he;subst he
  exact OutN.of (Bjm P w g _ _ _ (E _ _)) _ rfl
 ·injection he with he;subst he
  exact OutN.of (A72 P T hT w g hp hs _ _ _ (E _ _)) _ rfl
 ·injection he with he;subst he
  exact OutN.of (A7r P w g hp hs _ _ (hT.ok _) _ _ _ _ (E _ _) (E _ _)) _ rfl
 ·injection he with he;subst he
  exact OutN.of (Ati P w g _ _ (hT.ok _) _ _ (E _ _) _) _ rfl
 ·injection he with he;subst he
  exact OutN.of (Bef P T hT w g _ _ _ _ _ (E _ _) (E _ _)) _ rfl
 ·injection he with he;subst he
  exact OutN.of (Beo P w g hp hs _ _ (hT.ok _) _ _ _ _ (E _ _) (E _ _)) _ rfl
 ·split at he
  ·cases he
  injection he with he;subst he
  exact OutN.of (A84 P w g hp hs _ _ _ (hT.ok _) _ _ (E _ _) _ _ _ _ _ _ (Oi h hw hg _).1 (Oi h hw hg _).2 (Oi h hw hg _).1 (Oi h hw hg _).2 (Oi h hw hg _).1 (Oi h hw hg _).2 (Bey T tm gd _ _)) _ rfl
 ·split at he
  ·simp at he
  ·injection he with he;subst he
   exact OutN.of (Bbg P T hT w g hp hs _ _ _ _ (E _ _)) _ rfl
 ·injection he with he;subst he
  exact OutN.of (Bbo P w g _ _ _ (E _ _)) _ rfl
 ·injection he with he;subst he
  exact OutN.of (Bg6 P T hT w g _ _ _ (E _ _) _) _ rfl
 ·injection he with he;subst he
  rename_i t parts
  refine OutN.of (A6s P T hT w g t (parts.toList.map fun(i,x)=>(i,a.eval x)) _ (by rw [Ke,I5];simp) (fun i hi=>Bh5 h hw hg 0 parts.toList i (by rw [Ke,I5]at hi;exact hi))) _ ?_
  have:(parts.map fun(i,x)=>(i,a.eval x))=(parts.toList.map fun(i,x)=>(i,a.eval x)).toArray:=by
   obtain⟨l⟩:=parts;simp
  simp only [execOp,this]
 ·rename_i x
  injection he with he;subst he
  have hx:=E 0 x
  cases hpr:Alh (strip gd (ev T tm 0 x))with
  |bad=>trivial
  |req c v=>exact absurd hpr (Awa _ _ _)
  |ok v=>
   obtain⟨rfl,hv⟩:=Bex g _ _ _ hx hpr
   refine⟨a.eval x, ?_,hx⟩
   rcases hv with ⟨ad,hv⟩ |⟨f,vs,hv⟩<;>(unfold execOp;simp only;rw [hv];simp)
 ·split at he
  ·rename_i f first caps _ hfirst
   injection he with he;subst he
   have hf0:first= #[]:=by obtain⟨l⟩:=first;simp at hfirst;subst hfirst;rfl
   subst hf0
   refine OutN.of (s:=Instr.makeFunc (.func f) #[] (caps.map a.eval)) ?_ _ (by simp [execOp])
   refine⟨_,fun _ _=>rfl, .fn _ _ _ (by simp [Qb]) fun i hi=> ?_⟩
   have:=Bko (T:=T) h caps.toList (caps.toList.map fun _=>0) i hi
   simpa [Array.getD_eq_getD_getElem?,List.getD_eq_getElem?_getD] using this
  ·rename_i f first caps _ x hfirst
   have hf0:first= #[x]:=by obtain⟨l⟩:=first;simp at hfirst;subst hfirst;rfl
   subst hf0
   split at he
   ·rename_i n off hcaps hx
    injection he with he;subst he
    have hc0:caps= #[]:=by obtain⟨l⟩:=caps;simp at hcaps;subst hcaps;rfl
    subst hc0
    refine OutN.of (s:=Instr.makeFunc (.func f) #[a.eval x] #[]) ?_ _ (by simp [execOp])
    have h1:=E 0 x
    rw [hx]at h1
    generalize a.eval x=v at h1
    cases h1 with |ptr _ b c l _ hb=>
    exact⟨_,fun _ _=>rfl, .meth _ _ _ _ _ _ hb⟩
   ·injection he with he;subst he;trivial
  ·simp at he
 ·rename_i args ts
  injection he with he;subst he
  split
  ·rename_i x t h1 h2
   have hts:ts= #[t]:=by obtain⟨l⟩:=ts;simp at h2;subst h2;rfl
   have has:args= #[x]:=by obtain⟨l⟩:=args;simp at h1;subst h1;rfl
   subst hts;subst has
   exact OutN.of (Bno P w g hp hs t _ _ (hT.ok _) _ _ (E t x)) _ (by simp [execOp,resolve,invoke,builtin];rfl)
  ·trivial
 ·rename_i args ts
  injection he with he;subst he
  split
  ·rename_i x t h1 h2
   have has:args= #[x]:=by obtain⟨l⟩:=args;simp at h1;subst h1;rfl
   subst has
   exact OutN.of (Bkh P w g hp hs ts type _ _ (E t x)) _ (by simp [execOp,resolve,invoke,builtin])
  ·trivial
 ·rename_i args ts
  injection he with he;subst he
  split
  ·rename_i x y t r h1 h2
   have has:args= #[x,y]:=by obtain⟨l⟩:=args;simp at h1;subst h1;rfl
   subst has
   exact OutN.of (Bo5 P w g ts type [a.eval x,a.eval y] _ rfl (fun i hi=>by
    match i,hi with
    |0,_=>exact E t x
    |1,_=>exact E t y)) _ (by simp [execOp,resolve,invoke,builtin])
  ·trivial
 ·rename_i args ts
  injection he with he;subst he
  split
  ·rename_i x y t r h1 h2
   have has:args= #[x,y]:=by obtain⟨l⟩:=args;simp at h1;subst h1;rfl
   subst has
   exact OutN.of (Bo4 P w g ts type [a.eval x,a.eval y] _ rfl (fun i hi=>by
    match i,hi with
    |0,_=>exact E t x
    |1,_=>exact E t y)) _ (by simp [execOp,resolve,invoke,builtin])
  ·trivial
 ·simp at he
end Go.Proofs.Sim

import Derived.Test.YtaggabcajidnnaaGreatDoorSimC
import Derived.Tactics
import Derived.Laws.Strings
import Derived.Laws.Cells
import Derived.Laws.Entries
import Derived.Laws.Append
import Derived.Lib.Strings
import Derived.Laws.Slices
import Derived.Laws.BytesString
namespace Go.Proofs.Sim
open Go
def Bmw(P:Program)(t:Nat):TD→Prop
 | .bool=>P.underlying t=some .bool
 | .int k=>P.underlying t=some (.int k)
 | .str=>P.underlying t=some .string
 | .slice e esz eb _=>P.underlying t=some (.slice e)∧∃i:TypeInfo,P.info? e=some i∧i.size=esz∧i.bytes=eb
 | .struct fs=>∃fields:Array Field,P.underlying t=some (.struct fields)∧fields.size=fs.length∧∀(j off sz:Nat),fs[j]? =some (off,sz)→∃(f:Field) (i:TypeInfo),fields[j]? =some f∧f.offset=off∧P.info? f.type=some i∧i.size=sz
 | .array n e esz=>P.underlying t=some (.array n e)∧∃i:TypeInfo,P.info? e=some i∧i.size=esz
 | .iface=>∃ms,P.underlying t=some (.interface ms)
 | .pointer e=>P.underlying t=some (.pointer e)
 | .map=>∃k e,P.underlying t=some (.map k e)∧P.underlying k=some .string∧∃i:TypeInfo,P.info? e=some i∧i.zero=some (.int .i64 0)
 |_=>True
def Bl2(P:Program)(t:Nat)(sh:List CS):Prop:=P.eqGuardType P.depth t=false∧
 ∀(w:World) (m:Nat→Nat→Option Value) (xs ys:Array Value) (l k:List IV) (b:Bool),xs.size=l.length→ys.size=k.length→(∀i,i<l.length→RepI m (xs.getD i undef) (l.getD i default))→(∀i,i<k.length→RepI m (ys.getD i undef) (k.getD i default))→
  Fa sh l k=some b→(Op.equal t (.agg xs) (.agg ys)).run P w= .ok b w
structure Aa5 (P:Program) (t:Nat) (ti:TI):Prop where
 info:∃(i:TypeInfo),P.info? t=some i∧i.size=ti.size∧i.bytes=ti.bytes∧((∀ts,ti.td≠ .tuple ts)→∃v:Value,i.zero=some v∧v.cells.size=ti.zero.length∧(∀j,j<ti.zero.length→∀m,RepI m (v.cells.getD j undef) (ti.zero.getD j default))∧v.cells.size=ti.size∧∀j,j<ti.zero.length→(v.cells.getD j undef).oneCell'=true)
 td:Bmw P t ti.td
 eq:ti.eq=true→Bl2 P t ti.sh
 agg:∃d,P.underlying t=some d∧(match d with | .struct _=>true | .array _ _=>true |_=>false)=ti.agg
 fts:ti.fts≠[]→∃fields:Array Field,P.underlying t=some (.struct fields)∧fields.toList.map (·.type)=ti.fts
def TOK(P:Program)(T:TT):Prop:=∀t,(tl T t).td≠ .missing→Aa5 P t (tl T t)
theorem RepI.mono {m m':Nat→Nat→Option Value} (h:∀b o v,m b o=some v→m' b o=some v) {v:Value} {x:IV} (r:RepI m v x):RepI m' v x:=by
 induction r with
 |bool b=>exact .bool b
 |int k n=>exact .int k n
 |str s l e=>exact .str s l e
 |sl a cap k sz rows b o vs h1 h2 h3 h4 h5 h6 h7 _ h9 ih=>exact .sl a cap k sz rows b o vs h1 h2 h3 h4 h5 h6 (fun i j hi hj=>h _ _ _ (h7 i j hi hj)) ih h9
 |agg cs l e _ ih=>exact .agg cs l e ih
 |raw v=>exact .raw v
 |nilIface=>exact .nilIface
 |iface t v=>exact .iface t v
theorem TabOK.mono {m m':Nat→Nat→Option Value} {o:Nat→Option Obj} (h:∀b o v,m b o=some v→m' b o=some v)(ht:TabOK m o):TabOK m' o:=
 ⟨fun gl cells hg j hj=>by
  obtain⟨v,h1,h2⟩:=ht.cell gl cells hg j hj
  exact⟨v,h _ _ _ h1,h2.mono h⟩,ht.vals⟩
theorem RepI.one {m:Nat→Nat→Option Value} {v:Value} {x:IV} (r:RepI m v x)(hx:∀l,x≠ .agg l)(hr:∀u,x≠ .raw u):v.cells= #[v]:=by
 cases r<;>first |rfl |exact absurd rfl (hx _) |exact absurd rfl (hr _)
theorem Bkf(m:Nat→Nat→Option Value)(c:CS)(v:Value):RepI m v (Bgu c v):=by
 unfold Bgu
 split
 ·exact .bool _
 ·exact .int _ _
 ·exact .str _ _ rfl
 ·rename_i sz _
  exact .sl none 0 .nil sz [] 0 0 (fun _ _=>undef) (Nat.le_refl _) (fun _=>rfl) (fun h=>by cases h) (fun _=>rfl) (fun h=>absurd rfl h) (fun _ h=>by cases h) (fun _ _ h=>by simp at h) (fun _ _ h=>by simp at h) (fun _ _ h=>by simp at h)
 ·exact .nilIface
 ·exact .raw _
theorem Av5(cs:List CS)(vs:List Value)(h:cs.length=vs.length):(Axp cs vs).length=vs.length:=by
 induction cs generalizing vs with
 |nil=>cases vs with |nil=>rfl |cons=>simp at h
 |cons c cs ih=>cases vs with |nil=>simp at h |cons v vs=>simp [Axp];exact ih vs (by simpa using h)
theorem Bkg(m:Nat→Nat→Option Value)(cs:List CS)(vs:List Value)(h:cs.length=vs.length):∀i,i<vs.length→RepI m (vs.getD i undef) ((Axp cs vs).getD i default):=by
 induction cs generalizing vs with
 |nil=>intro i hi;cases vs with |nil=>simp at hi |cons=>simp at h
 |cons c cs ih=>
  intro i hi
  cases vs with
  |nil=>simp at h
  |cons v vs=>
   cases i with
   |zero=>simpa [Axp] using Bkf m c v
   |succ i=>simpa [Axp] using ih vs (by simpa using h) i (by simpa using hi)
theorem RepI.nilsl(m:Nat→Nat→Option Value)(k:SK)(sz:Nat):RepI m (.slice none 0 0) (.sl k sz []):=
 .sl none 0 k sz [] 0 0 (fun _ _=>undef) (Nat.le_refl _) (fun _=>rfl) (fun _=>rfl) (fun _=>rfl) (fun h=>absurd rfl h) (fun _ h=>by cases h) (fun _ _ h=>by simp at h) (fun _ _ h=>by simp at h) (fun _ _ h=>by simp at h)
theorem Bm7(g:G)(ti:TI)(v:Value):RepA g v (cst ti v):=by
 unfold cst
 split
 ·rename_i cs
  split
  ·rename_i h
   have h':ti.sh.length=cs.toList.length:=by simpa using h
   refine .imm _ _ (.agg _ _ (by rw [Av5 _ _ h'];simp) fun i hi=> ?_)
   rw [Av5 _ _ h']at hi
   have:=Bkg g.imm ti.sh cs.toList h' i hi
   simpa [List.getD_eq_getElem?_getD,Array.getD_eq_getD_getElem?] using this
  ·exact .undef _
 ·exact .undef _
 ·exact .fn _ _ _ rfl (fun i hi=>by simp at hi)
 ·exact .imm _ _ (.bool _)
 ·exact .imm _ _ (.int _ _)
 ·exact .imm _ _ (.str _ _ rfl)
 ·exact .imm _ _ .nilIface
 ·split
  ·exact .imm _ _ (.nilsl _ _ _)
  ·exact .imm _ _ (.raw _)
 ·exact .imm _ _ (.raw _)
theorem A9b {g:G} {v:Value} {a:AV} (h:RepA g v a):RepA g v (Afe a):=by
 unfold Afe
 split
 ·cases h with |imm _ _ h=>
  generalize hu:IV.raw _=u at h
  cases h<;>simp at hu
  subst hu
  exact .imm _ _ (.bool _)
 ·exact h
theorem Aui {g:G} {T:TT} {tm:List (Nat × AV)} {a:Act} (h:∀t,RepA g (a.tmps.getD t undef) (lk tm t))(ty:Nat)(x:Operand):RepA g (a.eval x) (ev T tm ty x):=by
 cases x with
 |tmp t=>exact A9b (h t)
 |const v=>exact Bm7 g _ v
 |global i=>exact .undef _
 |func f=>exact .fn _ _ _ rfl (fun i hi=>by simp at hi)
def Ao2(tm:List (Nat × AV)):Prop:=∀u t b want x,lk tm u= .when t b want x→lk tm t= .imm (.bool b)
def GOK(tm:List (Nat × AV)):Option (Nat × Bool)→Prop
 |none=>True
 |some (t,want)=>lk tm t= .imm (.raw (.bool want))∨∃b,lk tm t= .imm (.bool b)∧b=want
theorem Ayn {y:AV} {g:G} {tm:List (Nat × AV)} {gd:Option (Nat × Bool)} (hw:∀t b want x,y= .when t b want x→lk tm t= .imm (.bool b))(hg:GOK tm gd) {v:Value} (h:RepA g v y):RepA g v (strip gd y):=by
 unfold strip
 split
 ·rename_i t b want x
  have hb:=hw t b want x rfl
  split
  ·rename_i t' want'
   have hy:b=want→RepA g v x:=by cases h;assumption
   have ht:∀tt ww,Nat.beq t tt=true→GOK tm (some (tt,ww))→b=ww:=by
    intro tt ww e hg
    have e':t=tt:=by simpa using e
    subst e'
    rcases hg with hg |⟨b',hg,rfl⟩
    ·rw [hg]at hb;injection hb with hb;cases hb
    ·rw [hg]at hb;injection hb with hb;injection hb with hb;exact hb.symm
   split
   ·rename_i e e1 e2
    exact hy (ht t' _ (by assumption) hg)
   ·rename_i e e1 e2
    exact hy (ht t' _ (by assumption) hg)
   ·exact .undef _
  ·exact .undef _
 ·exact h
theorem Ap9 {a:AV} {t:Nat} {b want:Bool} {y:AV} (h:Afe a= .when t b want y):a= .when t b want y:=by
 unfold Afe at h
 split at h
 ·cases h
 ·exact h
theorem Bg1 {g:G} {T:TT} {tm:List (Nat × AV)} {a:Act} {gd:Option (Nat × Bool)} (h:∀t,RepA g (a.tmps.getD t undef) (lk tm t))(hw:Ao2 tm)(hg:GOK tm gd)(ty:Nat)(x:Operand):RepA g (a.eval x) (strip gd (ev T tm ty x)):=by
 refine Ayn (tm:=tm) ?_ hg (Aui h ty x)
 intro t b want y hy
 cases x with
 |tmp u=>exact hw u t b want y (Ap9 hy)
 |const v=>
  exfalso
  have:∀ti,cst ti v≠ .when t b want y:=by
   intro ti;unfold cst;split<;>(try split)<;>simp
  exact this _ hy
 |global i=>simp [ev]at hy
 |func f=>simp [ev]at hy
def Out(P:Program)(w:World)(g:G)(s:Sem Value):PR→Prop
 | .bad=>True
 | .ok v=>∃val,(∀w',Up w w'→s.run P w'= .ok val w')∧RepA g val v
 | .req c v=>c→∃val,(∀w',Up w w'→s.run P w'= .ok val w')∧RepA g val v
theorem Aba {m:Nat→Nat→Option Value} {v:Value} {k:IntKind} {n:Int} (h:RepI m v (.int k n)):v= .int k n:=by
 cases h;rfl
theorem D5 {g:G} {v:Value} {x:IV} (h:RepA g v (.imm x)):RepI g.imm v x:=by
 cases h with |imm _ _ h=>exact h
theorem Ew {g:G} {v:Value} {k:IntKind} {n:Int} (h:RepA g v (.imm (.int k n))):v= .int k n:=by
 cases h with |imm _ _ h=>cases h;rfl
theorem Om {g:G} {v:Value} {b:Bool} (h:RepA g v (.imm (.bool b))):v= .bool b:=by
 cases h with |imm _ _ h=>cases h;rfl
theorem Pm {g:G} {v:Value} {l:List UInt8} (h:RepA g v (.imm (.str l))):∃s:ByteArray,v= .string s∧s.data.toList=l:=by
 cases h with |imm _ _ h=>cases h with |str s l e=>exact⟨s,rfl,e⟩
theorem Q9(g:G)(k:IntKind)(n:Int):RepA g (.int k n) (.imm (.int k n)):= .imm _ _ (.int _ _)
theorem Qi(g:G)(b:Bool):RepA g (.bool b) (.imm (.bool b)):= .imm _ _ (.bool _)
theorem Oo(s:ByteArray):s.size=s.data.toList.length:=by rw [Array.length_toList];rfl
theorem Akj(g:G)(s:ByteArray)(l:List UInt8)(h:s.data.toList=l):RepA g (.string s) (.imm (.str l)):= .imm _ _ (.str _ _ h)
theorem Bnb(op:BinOp)(xt:Nat)(ox oy:Operand)(s t:ByteArray):eqGuard op xt ox oy (.string s) (.string t)=pure ():=by
 cases op<;>rfl
theorem Atf {P:Program} {xt:Nat} (hu:P.underlying xt=some .bool)(d:Nat)(a b:Bool)(w:World):(Op.equalIn (d+1) xt (.bool a) (.bool b)).run P w= .ok (a == b) w:=by
 simp [Op.equalIn,run_underlying hu]
theorem Az1 {P:Program} {xt:Nat} (hu:P.underlying xt=some .bool)(a b:Bool)(w:World):(Op.equal xt (.bool a) (.bool b)).run P w= .ok (a == b) w:=Atf hu 9999 a b w
theorem A99(op:BinOp)(xt:Nat)(ox oy:Operand)(s t:Bool):eqGuard op xt ox oy (.bool s) (.bool t)=pure ():=by
 cases op<;>rfl
theorem Bdt(P:Program)(w:World)(op:BinOp)(xt:Nat)(ox oy:Operand)(x y:Value)(hc:(isConst ox || isConst oy)=true)(hx:x= .nilIface∨∃t v,x= .iface t v)(hy:y= .nilIface∨∃t v,y= .iface t v):(eqGuard op xt ox oy x y).run P w= .ok () w:=by
 rcases hx with rfl |⟨t,v,rfl⟩<;>rcases hy with rfl |⟨t',v',rfl⟩
 ·unfold eqGuard
  cases ox<;>cases oy<;>simp [isConst]at hc<;>(cases op<;>simp)
 all_goals (unfold eqGuard;cases op<;>simp)
theorem Bat {g:G} {v:Value} {b:Bool} (h:RepA g v (.imm (.ifc b))):(b=true∧v= .nilIface)∨(b=false∧∃t u,v= .iface t u):=by
 cases h with |imm _ _ h=>
 cases h with
 |nilIface=>exact .inl ⟨rfl,rfl⟩
 |iface t u=>exact .inr ⟨rfl,t,u,rfl⟩
theorem A30 {P:Program} {xt:Nat} {ms:Array (String × TypeId)} (hu:P.underlying xt=some (.interface ms)) {x y:Value} {a b:Bool} (hx:(a=true∧x= .nilIface)∨(a=false∧∃t u,x= .iface t u))(hy:(b=true∧y= .nilIface)∨(b=false∧∃t u,y= .iface t u))(hab:a=true∨b=true)(w:World):
 (Op.equal xt x y).run P w= .ok (a && b) w:=by
 have key:∀d,(Op.equalIn (d+1) xt x y).run P w= .ok (a && b) w:=by
  intro d
  rcases hx with ⟨rfl,rfl⟩ |⟨rfl,t,u,rfl⟩<;>rcases hy with ⟨rfl,rfl⟩ |⟨rfl,t',u',rfl⟩
  ·simp [Op.equalIn,run_underlying hu]
  ·simp [Op.equalIn,run_underlying hu]
  ·simp [Op.equalIn,run_underlying hu]
  ·simp at hab
 exact key 9999
theorem Bds {P:Program} {t:Nat} (h:P.eqGuardType P.depth t=false)(op:BinOp)(ox oy:Operand)(xs ys:Array Value)(w:World):(eqGuard op t ox oy (.agg xs) (.agg ys)).run P w= .ok () w:=by
 cases op<;>simp [eqGuard,run_program,h]
theorem Bdg(P:Program)(w:World)(g:G)(ti:TI)(op:BinOp)(xt:Nat)(ox oy:Operand)(x y:Value)(X Y:AV)(hx:RepA g x X)(hy:RepA g y Y)(ht:ti.td≠ .missing→Aa5 P xt ti):
 Out P w g (do eqGuard op xt ox oy x y;binOp op xt x y) (A5y (isConst ox || isConst oy) ti op X Y):=by
 unfold A5y
 split
 ·rename_i k a k' b
  have ex:=Ew hx
  have ey:=Ew hy
  subst ex;subst ey
  split
  ·intro hb
   refine⟨_,fun w _=> ?_,Q9 _ _ _⟩
   simp [eqGuard,binOp,Op.shift,show ¬b<0 by omega]
  ·intro hb
   refine⟨_,fun w _=> ?_,Q9 _ _ _⟩
   simp [eqGuard,binOp,Op.shift,show ¬b<0 by omega]
  ·split
   ·trivial
   ·rename_i hk
    have hk:k=k':=by simpa using hk
    subst hk
    split
    all_goals first
     |trivial
     |exact⟨_,fun w _=>by simp [eqGuard,binOp,Op.intArith,Op.intBits,Op.intCmp],Q9 _ _ _⟩
     |exact⟨_,fun w _=>by simp [eqGuard,binOp,Op.intCmp]<;>rfl,Qi _ _⟩
     |(intro hb;exact⟨_,fun w _=>by simp [eqGuard,binOp,Op.intDiv,hb],Q9 _ _ _⟩)
     |skip
 ·rename_i a b
  obtain⟨s,rfl,hs⟩:=Pm hx
  obtain⟨t,rfl,ht'⟩:=Pm hy
  subst hs;subst ht'
  split
  ·intro hb
   refine⟨.string (s++t),fun w _=> ?_,Akj _ _ _ (by simp)⟩
   have:¬(9223372036854775807:Int)<(s.size:Int)+t.size:=by rw [Oo,Oo];push_cast at hb;omega
   simp [eqGuard,binOp,Op.stringOp,IntKind.max,IntKind.signed,IntKind.bits,this]
  all_goals first
   |trivial
   |(refine⟨_,fun w _=> ?_,Qi _ _⟩
     rw [Bnb,show(do (pure ():Sem Unit);binOp _ xt (.string s) (.string t))=binOp _ xt (.string s) (.string t) from rfl]
     simp only [binOp,Op.stringOp,ByteArray.toList_eq]
     rfl)
 ·rename_i a b
  have ex:=Om hx
  have ey:=Om hy
  subst ex;subst ey
  split
  ·rename_i htd
   have hu:P.underlying xt=some .bool:=by have:=(ht (by rw [htd];simp)).td;rw [htd]at this;exact this
   split
   ·refine⟨_,fun w _=> ?_,Qi _ _⟩
    rw [A99]
    show Sem.run P (do pure (Value.bool (←Op.equal xt (.bool a) (.bool b)))) w=_
    simp only [Sem.run_bind,Az1 hu,Result.andThen_ok]
    rfl
   ·refine⟨_,fun w _=> ?_,Qi _ _⟩
    rw [A99]
    show Sem.run P (do pure (Value.bool (!(←Op.equal xt (.bool a) (.bool b))))) w=_
    simp only [Sem.run_bind,Az1 hu,Result.andThen_ok]
    rfl
   ·trivial
  ·trivial
 ·rename_i a b
  have ex:=Bat hx
  have ey:=Bat hy
  have e3:∀x y:Value,((a=true∧x= .nilIface)∨(a=false∧∃t u,x= .iface t u))→((b=true∧y= .nilIface)∨(b=false∧∃t u,y= .iface t u))→binOp .eql xt x y=(do pure (.bool (←Op.equal xt x y)))∧binOp .neq xt x y=(do pure (.bool (!(←Op.equal xt x y)))):=by
   intro x y hx hy
   rcases hx with ⟨_,rfl⟩ |⟨_,t,u,rfl⟩<;>rcases hy with ⟨_,rfl⟩ |⟨_,t',u',rfl⟩<;>exact⟨rfl,rfl⟩
  split
  ·rename_i hkc htd
   intro hab
   obtain⟨ms,hu⟩:∃ms,P.underlying xt=some (.interface ms):=by have:=(ht (by rw [htd];simp)).td;rw [htd]at this;exact this
   refine⟨_,fun w _=> ?_,Qi _ _⟩
   rw [(e3 x y ex ey).1]
   simp only [Sem.run_bind,Bdt P w _ xt ox oy x y hkc (ex.imp (·.2) (·.2)) (ey.imp (·.2) (·.2)),Result.andThen_ok,A30 hu ex ey hab]
   rfl
  ·rename_i hkc htd
   intro hab
   obtain⟨ms,hu⟩:∃ms,P.underlying xt=some (.interface ms):=by have:=(ht (by rw [htd];simp)).td;rw [htd]at this;exact this
   refine⟨_,fun w _=> ?_,Qi _ _⟩
   rw [(e3 x y ex ey).2]
   simp only [Sem.run_bind,Bdt P w _ xt ox oy x y hkc (ex.imp (·.2) (·.2)) (ey.imp (·.2) (·.2)),Result.andThen_ok,A30 hu ex ey hab]
   rfl
  ·trivial
 ·rename_i l m
  cases hx with |imm _ _ hx=>
  cases hy with |imm _ _ hy=>
  cases hx with |agg xs _ hxl hxr=>
  cases hy with |agg ys _ hyl hyr=>
  split
  ·rename_i fs b htd heq hb
   obtain⟨hg,he⟩:=(ht (by rw [htd];simp)).eq heq
   refine⟨_,fun w _=> ?_,Qi _ _⟩
   show Sem.run P (do eqGuard _ xt ox oy (.agg xs) (.agg ys);pure (Value.bool (←Op.equal xt (.agg xs) (.agg ys)))) w=_
   simp only [Sem.run_bind,Bds hg,Result.andThen_ok,he w g.imm xs ys l m b hxl hyl hxr hyr hb]
   rfl
  ·rename_i fs b htd heq hb
   obtain⟨hg,he⟩:=(ht (by rw [htd];simp)).eq heq
   refine⟨_,fun w _=> ?_,Qi _ _⟩
   show Sem.run P (do eqGuard _ xt ox oy (.agg xs) (.agg ys);pure (Value.bool (!(←Op.equal xt (.agg xs) (.agg ys))))) w=_
   simp only [Sem.run_bind,Bds hg,Result.andThen_ok,he w g.imm xs ys l m b hxl hyl hxr hyr hb]
   rfl
  ·trivial
 ·trivial
theorem Bjm(P:Program)(w:World)(g:G)(op:UnOp)(x:Value)(X:AV)(hx:RepA g x X):Out P w g (Op.unary op x) (Bbm op X):=by
 unfold Bbm
 split
 ·have ex:=Ew hx
  subst ex
  exact⟨_,fun w _=>by simp [Op.unary,Op.intArith],Q9 _ _ _⟩
 ·have ex:=Om hx
  subst ex
  exact⟨_,fun w _=>by simp [Op.unary],Qi _ _⟩
 ·trivial
theorem M6(b o j:Nat):(⟨b,o,none⟩:Addr).add j=⟨b,o+j,none⟩:=by
 unfold Addr.add
 split
 ·rename_i h;subst h;rfl
 ·rfl
theorem Beh {P:Program} {t:Nat} {ti:TI} (h:Aa5 P t ti)(w:World):(isAgg t).run P w= .ok ti.agg w:=by
 obtain⟨d,hd,e⟩:=h.agg
 unfold isAgg
 simp only [Sem.run_bind,run_underlying hd,Result.andThen_ok]
 rw [←e]
 cases d<;>rfl
theorem Aif {P:Program} {t:Nat} {ti:TI} (h:Aa5 P t ti)(w:World):(Go.sizeOf t).run P w= .ok ti.size w:=by
 obtain⟨i,hi,hs,_⟩:=h.info
 unfold Go.sizeOf typeInfo
 simp [hi,hs]
theorem Dm {P:Program} {t:Nat} {i:TypeInfo} (h:P.info? t=some i)(w:World):(Go.sizeOf t).run P w= .ok i.size w:=by
 unfold Go.sizeOf typeInfo
 simp [h]
theorem Xy {P:Program} {t:Nat} {ti:TI} (h:Aa5 P t ti)(w:World)(b o:Nat)(vs:Nat→Value)(hc:∀j,j<ti.size→w.cell? ⟨b,o+j,none⟩=some (vs j))(hs:ti.agg=false→0<ti.size):
 (Instr.loadAt t (.pointer (some ⟨b,o,none⟩))).run P w= .ok (if ti.agg then .agg ((List.range ti.size).map vs).toArray else vs 0) w:=by
 unfold Instr.loadAt Instr.sureAddr loadVar
 simp only [Sem.run_bind,Sem.run_pure,Result.andThen_ok,Beh h]
 cases ha:ti.agg
 ·simp only [Bool.false_eq_true,if_false]
  have:=hc 0 (hs ha)
  simp only [Nat.add_zero]at this
  simp [load,Sem.run,this]
 ·simp only [if_true,Sem.run_bind,Aif h,Result.andThen_ok]
  rw [run_loadCells w ⟨b,o,none⟩ ti.size vs (fun j hj=>by rw [M6];exact hc j hj)]
  rfl
theorem R8(vs:Nat→Value)(n i:Nat)(h:i<n):(((List.range n).map vs).toArray).getD i undef=vs i:=by
 simp [Array.getD_eq_getD_getElem?,h]
theorem getD_take {α:Type} (l:List α)(n i:Nat)(d:α)(h:i<n):(l.take n).getD i d=l.getD i d:=by
 simp [List.getD_eq_getElem?_getD,h]
theorem getD_drop {α:Type} (l:List α)(n i:Nat)(d:α):(l.drop n).getD i d=l.getD (n+i) d:=by
 simp [List.getD_eq_getElem?_getD,List.getElem?_drop]
structure Dc (P:Program) (T:TT):Prop where
 ok:TOK P T
 one:∀t,(tl T t).td≠ .missing→(tl T t).agg=false→(tl T t).size=1
theorem Ayp {l:List AV} {ivs:List IV} (h:toI l=some ivs):l=Dv ivs:=by
 induction l generalizing ivs with
 |nil=>simp [toI]at h;subst h;rfl
 |cons a r ih=>
  cases a<;>simp only [toI]at h<;>try (simp at h;done)
  split at h
  ·rename_i l' hl
   injection h with h
   subst h
   rw [ih hl]
   rfl
  ·simp at h
theorem Cw(l:List IV):(Dv l).length=l.length:=by induction l with |nil=>rfl |cons a r ih=>simp [Dv,ih]
theorem Lu(l:List IV)(i:Nat)(h:i<l.length):(Dv l).getD i .undef= .imm (l.getD i default):=by
 induction l generalizing i with
 |nil=>simp at h
 |cons a r ih=>cases i with
  |zero=>rfl
  |succ i=>simpa [Dv] using ih i (by simpa using h)
theorem Ake {g:G} {cs:Array Value} {l:List AV} (hl:cs.size=l.length)(h:∀i,i<l.length→RepA g (cs.getD i undef) (l.getD i .undef)):RepA g (.agg cs) (Aia l):=by
 unfold Aia
 split
 ·rename_i ivs hi
  have e:=Ayp hi
  subst e
  refine .imm _ _ (.agg _ _ (by rw [hl,Cw]) fun i hi=> ?_)
  have:=h i (by rw [Cw];exact hi)
  rw [Lu _ _ hi]at this
  exact D5 this
 ·exact .agg _ _ hl h
theorem cell_of_block {w:World} {b o:Nat} {cs:Array Value} {T:Nat} {fz:Nat × Nat} (h:w.heap[b]? =some (.cells cs T fz))(ho:o<cs.size):w.cell? ⟨b,o,none⟩=some (cs.getD o undef):=by
 simp [World.cell?,h,ho]
theorem RepI.anyC {m:Nat→Nat→Option Value} {v:Value} {x:IV} (h:RepI m v x):RepI m v (anyC x):=by
 cases h with
 |sl a cap k sz rows b o vs h1 h2 h3 h4 h5 h6 h7 h8 h9=>exact .sl a cap .any sz rows b o vs h1 h2 (fun h=>by cases h) (fun h=>by cases h) h5 h6 h7 h8 h9
 |bool b=>exact .bool b
 |int k n=>exact .int k n
 |str s l e=>exact .str s l e
 |agg cs l hl h=>exact .agg cs l hl h
 |raw v=>exact .raw v
 |nilIface=>exact .nilIface
 |iface t v=>exact .iface t v
theorem Je(l:List IV):(Ao4 l).length=l.length:=by
 induction l with
 |nil=>rfl
 |cons v r ih=>simp [Ao4,ih]
theorem Abj(l:List IV)(i:Nat):(Ao4 l).getD i default=Sim.anyC (l.getD i default):=by
 induction l generalizing i with
 |nil=>rfl
 |cons v r ih=>cases i with |zero=>rfl |succ i=>simpa [Ao4] using ih i
theorem RepI.any {m:Nat→Nat→Option Value} {v:Value} {x:IV} (h:RepI m v x):RepI m v (Bmx x):=by
 cases x with
 |agg l=>cases h with |agg cs _ hl h=>exact .agg _ _ (by rw [Je,hl]) fun i hi=>by rw [Je]at hi;rw [Abj];exact(h i hi).anyC
 |sl k sz rows=>exact h.anyC
 |_=>exact h
theorem Bn8 {c:CS} {r:List IV} {j:Nat} (h:shC c (r.getD j default)=true):mkC c r j=anyC (r.getD j default):=by
 cases c<;>simp only [mkC]
 ·generalize e:r.getD j default=x at h;cases x<;>simp [shC]at h;unfold gB;rw [e];rfl
 ·generalize e:r.getD j default=x at h;cases x<;>simp [shC]at h;subst h;unfold gI;rw [e];rfl
 ·generalize e:r.getD j default=x at h;cases x<;>simp [shC]at h;unfold gS;rw [e];rfl
 ·generalize e:r.getD j default=x at h;cases x<;>simp [shC]at h;subst h;unfold gR;rw [e];rfl
 ·generalize e:r.getD j default=x at h;cases x<;>simp [shC]at h;unfold gV;rw [e];rfl
 ·generalize e:r.getD j default=x at h;cases x<;>simp [shC]at h;unfold gN;rw [e];rfl
theorem Bcj(cs:List CS)(r0 r:List IV)(j:Nat)(hd:∀i,(r.getD i default)=r0.getD (j+i) default)(h:Bg cs r=true):U1 cs r0 j=Ao4 r:=by
 induction cs generalizing r j with
 |nil=>cases r with |nil=>rfl |cons a r=>simp [Bg]at h
 |cons c cs ih=>
  cases r with
  |nil=>simp [Bg]at h
  |cons a r=>
   simp only [Bg,Bool.and_eq_true]at h
   have h0:r0.getD j default=a:=by have:=hd 0;simpa using this.symm
   simp only [U1,Ao4]
   rw [Bn8 (by rw [h0];exact h.1),h0,ih r (j+1) (fun i=>by have:=hd (i+1);simpa [Nat.add_assoc,Nat.add_comm 1 i] using this) h.2]
theorem Wz {cs:List CS} {r:List IV} (h:Bg cs r=true):U1 cs r 0=Ao4 r:=Bcj cs r r 0 (fun i=>by simp) h
theorem A7l(sz:Nat)(rows:List (List IV))(h:∀r,r∈rows→r.length=sz):rows.flatten.length=rows.length*sz∧∀i j,i<rows.length→j<sz→rows.flatten.getD (i*sz+j) default=(rows.getD i []).getD j default:=by
 induction rows with
 |nil=>exact⟨by simp,fun i j hi=>by simp at hi⟩
 |cons r rows ih=>
  obtain⟨h1,h2⟩:=ih fun r hr=>h r (by simp [hr])
  have hr:=h r (by simp)
  refine⟨by simp only [List.flatten_cons,List.length_append,h1,hr,List.length_cons,Nat.add_mul];omega,fun i j hi hj=> ?_⟩
  simp only [List.flatten_cons,List.getD_eq_getElem?_getD]
  cases i with
  |zero=>
   rw [List.getElem?_append_left (by omega)]
   simp
  |succ i=>
   rw [List.getElem?_append_right (by rw [hr,Nat.add_mul];omega)]
   have:=h2 i j (by simpa using hi) hj
   simp only [List.getD_eq_getElem?_getD]at this
   rw [show(i+1)*sz+j - r.length=i*sz+j by rw [hr,Nat.add_mul];omega,this]
   simp
theorem Bg8 {sz n o:Nat} (ho:o<n*sz):∃i j,i<n∧j<sz∧o=i*sz+j:=by
 have hpos:0<sz:=by
  rcases Nat.eq_zero_or_pos sz with h |h
  ·rw [h]at ho;simp at ho
  ·exact h
 refine⟨o / sz,o % sz,Nat.div_lt_of_lt_mul (by rw [Nat.mul_comm];exact ho),Nat.mod_lt _ hpos, ?_⟩
 rw [Nat.mul_comm];exact(Nat.div_add_mod o sz).symm
theorem Bhq(P:Program)(T:TT)(hT:Dc P T)(w:World)(g:G)(hp:Heap)(hs:Sat g hp w)(t:Nat)(x:Value)(n:Nm)(o:Nat)(hx:RepA g x (.ptr n o))(T':Nat)(cells:List AV)(hg:hget hp n=some (.blk T' cells))(v:AV)(hv:Afx (tl T t) hp (.ptr n o)= .ok v):
 ∃val b c l,g.base n=some ⟨some b,c,l⟩∧b<w.heap.size∧(∀w',w'.heap[b]? =w.heap[b]? →(Instr.loadAt t x).run P w'= .ok val w')∧RepA g val v:=by
 unfold Afx at hv
 split at hv
 ·cases hv
 rename_i hmiss
 have hti:=hT.ok t (by intro e;exact hmiss e)
 have hone:=hT.one t (by intro e;exact hmiss e)
 simp only [hg]at hv
 cases hx with |ptr _ b c l off hb=>
 have he:=hs.ent _ _ hg
 cases he with |blk _ _ b' c' l' cs fz hb' hh hfz hsz hcells himm=>
 rw [hb]at hb'
 injection hb' with hb'
 injection hb' with hb' _ _
 injection hb' with hb'
 subst hb'
 have hlt:b<w.heap.size:=(Array.getElem?_eq_some_iff.1 hh).1
 split at hv
 ·rename_i ha
  split at hv
  ·rename_i hle
   injection hv with hv
   subst hv
   have hle:o+(tl T t).size≤cells.length:=by simpa using hle
   refine⟨_,b,c,l,hb,hlt,fun w' hw'=>Xy hti w' b o (fun j=>cs.getD (o+j) undef) (fun j hj=>cell_of_block (hw'.trans hh) (by omega)) (by simp [ha]), ?_⟩
   rw [ha]
   refine Ake (by simp;omega) fun i hi=> ?_
   have hi':i<(tl T t).size:=by simp at hi;omega
   rw [R8 _ _ _ hi',getD_take _ _ _ _ hi',getD_drop]
   exact hcells _ (by omega)
  ·cases hv
 ·rename_i ha
  have h1':=hone ha
  split at hv
  ·rename_i c0 r hd
   injection hv with hv
   subst hv
   have hlen:o<cells.length:=by
    have:=congrArg List.length hd
    simp at this;omega
   refine⟨_,b,c,l,hb,hlt,fun w' hw'=>Xy hti w' b o (fun j=>cs.getD (o+j) undef) (fun j hj=>cell_of_block (hw'.trans hh) (by omega)) (by omega), ?_⟩
   rw [ha]
   have hc:c0=cells.getD o .undef:=by
    have:=congrArg (fun l=>List.getD l 0 AV.undef) hd
    simp only [getD_drop]at this
    simpa using this.symm
   rw [hc]
   simpa using hcells o hlen
  ·cases hv
theorem A72(P:Program)(T:TT)(hT:Dc P T)(w:World)(g:G)(hp:Heap)(hs:Sat g hp w)(t:Nat)(x:Value)(X:AV)(hx:RepA g x X):Out P w g (Instr.loadAt t x) (Afx (tl T t) hp X):=by
 unfold Afx
 split
 ·trivial
 rename_i hmiss
 have hti:=hT.ok t (by intro e;exact hmiss e)
 have hone:=hT.one t (by intro e;exact hmiss e)
 split
 ·rename_i cells
  cases hx with |pin b o _ vs h1 h2=>
  split
  ·rename_i ha
   split
   ·rename_i hle
    have hle:(tl T t).size≤cells.length:=by simpa using hle
    refine⟨_,fun w hup=>Xy hti w b o vs (fun j hj=>hup.cell (hs.imm _ _ _ (h1 j (by omega)))) (by simp [ha]), ?_⟩
    rw [ha]
    refine .imm _ _ (.agg _ _ (by simp;omega) fun i hi=> ?_)
    have hi':i<(tl T t).size:=by simp at hi;omega
    rw [R8 _ _ _ hi',getD_take _ _ _ _ hi']
    exact h2 i (by omega)
   ·trivial
  ·rename_i ha
   split
   ·rename_i c r
    have h1':=hone ha
    refine⟨_,fun w hup=>Xy hti w b o vs (fun j hj=>hup.cell (hs.imm _ _ _ (h1 j (by simp;omega)))) (by omega), ?_⟩
    rw [ha]
    have:=h2 0 (by simp)
    exact .imm _ _ (by simpa using this)
   ·trivial
 ·rename_i n o
  split
  ·rename_i T' cells hg
   cases hx with |ptr _ b c l off hb=>
   have he:=hs.ent _ _ hg
   cases he with |blk _ _ b' c' l' cs fz hb' hh hfz hsz hcells himm=>
   rw [hb]at hb'
   injection hb' with hb'
   injection hb' with hb' _ _
   injection hb' with hb'
   subst hb'
   split
   ·rename_i ha
    split
    ·rename_i hle
     have hle:o+(tl T t).size≤cells.length:=by simpa using hle
     refine⟨_,fun w hup=>Xy hti w b o (fun j=>cs.getD (o+j) undef) (fun j hj=>hup.cell (cell_of_block hh (by omega))) (by simp [ha]), ?_⟩
     rw [ha]
     refine Ake (by simp;omega) fun i hi=> ?_
     have hi':i<(tl T t).size:=by simp at hi;omega
     rw [R8 _ _ _ hi',getD_take _ _ _ _ hi',getD_drop]
     exact hcells _ (by omega)
    ·trivial
   ·rename_i ha
    have h1':=hone ha
    split
    ·rename_i c r hd
     have hlen:o<cells.length:=by
      have:=congrArg List.length hd
      simp at this;omega
     refine⟨_,fun w hup=>Xy hti w b o (fun j=>cs.getD (o+j) undef) (fun j hj=>hup.cell (cell_of_block hh (by omega))) (by omega), ?_⟩
     rw [ha]
     have hc:c=cells.getD o .undef:=by
      have:=congrArg (fun l=>List.getD l 0 AV.undef) hd
      simp only [getD_drop]at this
      simpa using this.symm
     rw [hc]
     simpa using hcells o hlen
    ·trivial
  ·rename_i ty wr sz rows hg
   split
   ·rename_i k e esz htd
    split
    ·rename_i hc
     simp only [Bool.and_eq_true]at hc
     obtain⟨hsz,ha,hti2⟩:=hc
     have hsz:sz=esz:=by simpa using hsz
     subst hsz
     have hti2:(tl T t).size=k*sz:=by simpa using hti2
     rintro⟨hk,hsh⟩
     cases hx with |ptr _ b c l _ hb=>
     have he:=hs.ent _ _ hg
     cases he with
     |nil _ _ _ hb'=>rw [hb]at hb';injection hb' with hb';injection hb' with e;cases e
     |arr _ _ _ _ b' cap cs T' fz hb' hh hcs hrc hrl hcells=>
      rw [hb]at hb'
      injection hb' with hb'
      injection hb' with hb' _ _
      injection hb' with hb'
      subst hb'
      obtain⟨f1,f2⟩:=A7l sz rows hrl
      have hcap:rows.length*sz≤cs.size:=by rw [hcs];exact Nat.mul_le_mul_right _ hrc
      refine⟨_,fun w hup=>Xy hti w b 0 (fun j=>cs.getD j undef) (fun j hj=>by rw [Nat.zero_add];exact hup.cell (cell_of_block hh (by rw [hti2, ←hk]at hj;omega))) (by simp [ha]), ?_⟩
      rw [ha,Wz hsh]
      refine .imm _ _ (.agg _ _ (by rw [Je,f1,hk];simp [hti2]) fun o ho=> ?_)
      rw [Je,f1,hk]at ho
      have ho':o<(tl T t).size:=by rw [hti2];exact ho
      show RepI g.imm (Array.getD _ o undef) _
      rw [R8 _ _ _ ho',Abj]
      obtain⟨i,j,hi,hj,rfl⟩:=Bg8 ho
      rw [f2 i j (by omega) hj]
      exact(hcells i j (by omega) hj).anyC
    ·trivial
   ·trivial
  ·trivial
 ·rename_i n sz i j
  split
  ·rename_i ty wr sz' rows hg
   split
   ·rename_i hsz
    have hsz:sz=sz':=by simpa using hsz
    subst hsz
    split
    ·rename_i hle
     have hle:j+(tl T t).size≤sz:=by simpa using hle
     cases hx with |elt _ b c l _ _ _ hb=>
     have he:=hs.ent _ _ hg
     cases he with
     |nil _ _ _ hb'=>rw [hb]at hb';simp at hb'
     |arr _ _ _ _ b' cap cs _ fz hb' hh hcs hrc hrl hcells hfz himm hone'=>
      rw [hb]at hb'
      injection hb' with hb'
      injection hb' with hb' _ _
      injection hb' with hb'
      subst hb'
      have main:i<rows.length→Bg (tl T t).sh (((rows.getD i []).drop j).take (tl T t).size)=true→
       ∀k,k<(tl T t).size→w.cell? ⟨b,i*sz+j+k,none⟩=some (cs.getD (i*sz+(j+k)) undef)∧
        RepI g.imm (cs.getD (i*sz+(j+k)) undef) ((((rows.getD i []).drop j).take (tl T t).size).getD k default):=by
       intro hi hsh k hk
       have hlt:i*sz+(j+k)<cs.size:=by
        rw [hcs]
        have:(i+1)*sz≤cap*sz:=Nat.mul_le_mul_right _ (by omega)
        rw [Nat.add_mul]at this
        omega
       refine⟨by rw [Nat.add_assoc];exact cell_of_block hh hlt, ?_⟩
       rw [getD_take _ _ _ _ hk,getD_drop]
       exact hcells i (j+k) hi (by omega)
      split
      ·rename_i ha
       rintro⟨hi,hsh⟩
       refine⟨_,fun w hup=>Xy hti w b (i*sz+j) (fun k=>cs.getD (i*sz+(j+k)) undef) (fun k hk=>hup.cell (main hi hsh k hk).1) (by simp [ha]), ?_⟩
       rw [ha,Wz hsh]
       have hrow:(rows.getD i []).length=sz:=by
        have hm:rows.getD i []∈rows:=by rw [List.getD_eq_getElem?_getD,List.getElem?_eq_getElem hi];simp
        exact hrl _ hm
       have hlen:(((rows.getD i []).drop j).take (tl T t).size).length=(tl T t).size:=by rw [List.length_take,List.length_drop,hrow];omega
       refine .imm _ _ (.agg _ _ (by rw [Je,hlen];simp) fun k hk=> ?_)
       rw [Je,hlen]at hk
       have hq:=R8 (fun k=>cs.getD (i*sz+(j+k)) undef) _ _ hk
       show RepI g.imm (Array.getD _ k undef) _
       rw [hq,Abj]
       exact(main hi hsh k hk).2.anyC
      ·rename_i ha
       have h1':=hone ha
       split
       ·rename_i c hc
        rintro⟨hi,hsh⟩
        refine⟨_,fun w hup=>Xy hti w b (i*sz+j) (fun k=>cs.getD (i*sz+(j+k)) undef) (fun k hk=>hup.cell (main hi hsh k hk).1) (by omega), ?_⟩
        rw [ha]
        have h0:=(main hi hsh 0 (by omega)).2
        have hm:=Wz hsh
        rw [hc]at hm
        simp only [U1]at hm
        have hm':=congrArg (fun l=>List.getD l 0 default) hm
        simp only [List.getD_cons_zero]at hm'
        rw [hm',Abj]
        exact .imm _ _ h0.anyC
       ·trivial
    ·trivial
   ·trivial
  ·trivial
 ·trivial
theorem Bno(P:Program)(w:World)(g:G)(hp:Heap)(hs:Sat g hp w)(t ty:Nat)(ti:TI)(hti:ti.td≠ .missing→Aa5 P t ti)(x:Value)(X:AV)(hx:RepA g x X):
 Out P w g (Builtin.len_ #[t] ty #[x]) (Bbk ti hp X):=by
 unfold Bbk
 split
 ·rename_i k sz rows
  split
  ·rename_i e esz eb esh htd
   have hu:=(hti (by rw [htd];simp)).td
   rw [htd]at hu
   obtain⟨hu,_⟩:=hu
   have:=D5 hx
   cases this with |sl a cap _ _ _ b o vs=>
   exact⟨_,fun w _=>by simp [Builtin.len_,run_underlying hu];rfl,Q9 _ _ _⟩
  ·trivial
 ·rename_i l
  split
  ·rename_i htd
   have hu:=(hti (by rw [htd];simp)).td
   rw [htd]at hu
   obtain⟨s,rfl,hs'⟩:=Pm hx
   refine⟨_,fun w _=>run_len_string w t ty s hu, ?_⟩
   rw [Oo,hs']
   exact Q9 _ _ _
  ·trivial
 ·rename_i n
  split
  ·rename_i e esz eb esh htd
   have hu:=(hti (by rw [htd];simp)).td
   rw [htd]at hu
   obtain⟨hu,_⟩:=hu
   split
   ·rename_i ty' wr sz rows hg
    cases hx with |own _ a c len hb=>
    have he:=hs.ent _ _ hg
    have hl:len=rows.length:=by
     cases he with
     |nil _ _ _ hb'=>rw [hb]at hb';injection hb' with hb';injection hb'
     |arr _ _ _ _ b' cap cs _ fz hb'=>rw [hb]at hb';injection hb' with hb';injection hb'
    subst hl
    exact⟨_,fun w _=>by simp [Builtin.len_,run_underlying hu];rfl,Q9 _ _ _⟩
   ·trivial
  ·trivial
 ·rename_i nm sz off len
  split
  ·rename_i e esz eb esh htd
   have hu:=(hti (by rw [htd];simp)).td
   rw [htd]at hu
   obtain⟨hu,_⟩:=hu
   cases hx with |win _ a cap lr _ _ _ k p hbn hle hk1 hk2 hp=>
   exact⟨_,fun w _=>by simp [Builtin.len_,run_underlying hu];rfl,Q9 _ _ _⟩
  ·trivial
 ·trivial
theorem Bkh(P:Program)(w:World)(g:G)(hp:Heap)(hs:Sat g hp w)(ts:Array Nat)(ty:Nat)(x:Value)(X:AV)(hx:RepA g x X):Out P w g (Builtin.unsafeSliceData_ ts ty #[x]) (A7f hp X):=by
 unfold A7f
 split
 ·rename_i n
  split
  ·rename_i e0 wr sz rows hg
   cases hx with |own _ a c len hb=>
   have he:=hs.ent _ _ hg
   cases he with
   |nil _ _ _ hb'=>
    rw [hb]at hb';injection hb' with hb';injection hb' with h1 h2 h3
    subst h1;subst h2;subst h3
    exact⟨.pointer none,fun _ _=>rfl, .data _ _ _ _ hb⟩
   |arr _ _ _ _ b cap cs fz T hb' _ _ _ _ _ _ _ _ h0=>
    rw [hb]at hb';injection hb' with hb';injection hb' with h1 h2 h3
    subst h1;subst h2;subst h3
    have:=(h0 e0 rfl).2.1
    refine⟨.pointer (some ⟨b,0,none⟩),fun w _=> ?_, .data _ _ _ _ hb⟩
    show Sem.run P (ite (c≠0) (pure (Value.pointer (some ⟨b,0,none⟩))) _) w=_
    rw [if_pos (by omega)]
    rfl
  ·trivial
 ·trivial
theorem Aim(a b:Nat):addN a b=a+b:=by cases a<;>simp [addN]
theorem EntOK.len_rows {g:G} {w:World} {n:Nm} {ty:Nat} {wr:Bool} {sz:Nat} {rows:List (List IV)} (h:EntOK g w n (.arr ty wr sz rows)) {a:Option Nat} {c l:Nat} (hb:g.base n=some ⟨a,c,l⟩):l=rows.length:=by
 cases h with
 |nil _ _ _ hb'=>rw [hb]at hb';injection hb' with hb';injection hb'
 |arr _ _ _ _ b' cap cs _ fz hb'=>rw [hb]at hb';injection hb' with hb';injection hb'
theorem EntOK.len_cap {g:G} {w:World} {n:Nm} {ty:Nat} {wr:Bool} {sz:Nat} {rows:List (List IV)} (h:EntOK g w n (.arr ty wr sz rows)) {a:Option Nat} {c l:Nat} (hb:g.base n=some ⟨a,c,l⟩):l≤c:=by
 cases h with
 |nil _ _ _ hb'=>rw [hb]at hb';injection hb' with hb';injection hb' with _ h1 h2;omega
 |arr _ _ _ _ b' cap cs _ fz hb' _ _ hle=>rw [hb]at hb';injection hb' with hb';injection hb' with _ h1 h2;omega
theorem A7r(P:Program)(w:World)(g:G)(hp:Heap)(hs:Sat g hp w)(t:Nat)(ti:TI)(hti:ti.td≠ .missing→Aa5 P t ti)(x y:Value)(X Y:AV)(hx:RepA g x X)(hy:RepA g y Y):
 Out P w g (Instr.indexAt t x y) (Al8 ti hp X Y):=by
 unfold Al8
 split
 ·rename_i k sz rows k' n
  have ey:=Ew hy
  subst ey
  split
  ·rename_i e esz eb esh htd
   have hu:=(hti (by rw [htd];simp)).td
   rw [htd]at hu
   obtain⟨hu,i,hi,hisz,_⟩:=hu
   split
   ·rename_i hsz
    have hsz:sz=esz:=by simpa using hsz
    rintro⟨⟨h0,h1⟩,hsh⟩
    have hr:=D5 hx
    cases hr with |sl a cap _ _ _ b o vs hc1 hc2 hc3 hc4 hc5 hc6 hc7 hc8 hc9=>
    have hne:rows≠[]:=by intro e;subst e;simp at h1;omega
    have ha:=hc5 hne
    subst ha
    have hn:n.toNat<rows.length:=by omega
    have hm:rows.getD n.toNat []∈rows:=by rw [List.getD_eq_getElem?_getD,List.getElem?_eq_getElem hn];simp
    have hlen:=hc6 _ hm
    refine⟨.pointer (some ⟨b,o+n.toNat*sz,none⟩),fun w _=> ?_, ?_⟩
    ·unfold Instr.indexAt
     have:(0≤n∧n<(rows.length:Int)):=⟨h0,h1⟩
     simp [asIntOf,run_underlying hu,this,Dm hi,hisz, ←hsz,M6]
    ·rw [Wz hsh]
     refine .pin _ _ _ (fun j=>vs n.toNat j) (fun j hj=> ?_) (fun j hj=> ?_)
     ·rw [Je]at hj
      exact hc7 n.toNat j hn (by omega)
     ·rw [Je]at hj
      rw [Abj]
      exact(hc8 n.toNat j hn (by omega)).anyC
   ·trivial
  ·trivial
 ·rename_i nm k' n
  have ey:=Ew hy
  subst ey
  split
  ·rename_i e esz eb esh ty' wr sz rows htd hg
   have hu:=(hti (by rw [htd];simp)).td
   rw [htd]at hu
   obtain⟨hu,i,hi,hisz,_⟩:=hu
   rintro⟨h0,h1⟩
   cases hx with |own _ a c len hb=>
   have he:=hs.ent _ _ hg
   cases he with
   |nil _ _ _ hb'=>simp at h1;omega
   |arr _ _ _ _ b' cap cs _ fz hb'=>
    rw [hb]at hb'
    injection hb' with hb'
    injection hb' with ha hcap hl
    subst ha;subst hl
    refine⟨.pointer (some ⟨b',n.toNat*esz+0,none⟩),fun w _=> ?_, .elt _ _ _ _ _ _ _ hb⟩
    unfold Instr.indexAt
    have:(0≤n∧n<(rows.length:Int)):=⟨h0,h1⟩
    simp [asIntOf,run_underlying hu,this,Dm hi,hisz,M6]
  ·trivial
 ·rename_i nm k' n
  have ey:=Ew hy
  subst ey
  split
  ·rename_i k e esz ty' wr sz' rows htd hg
   have hu:=(hti (by rw [htd];simp)).td
   rw [htd]at hu
   obtain⟨hu,i,hi,hisz⟩:=hu
   split
   ·rintro⟨h0,h1⟩
    cases hx with |ptr _ b c l _ hb=>
    refine⟨.pointer (some ⟨b,n.toNat*esz+0,none⟩),fun w _=> ?_, .elt _ _ _ _ _ _ _ hb⟩
    unfold Instr.indexAt
    have:(0≤n∧n<(k:Int)):=⟨h0,h1⟩
    simp [asIntOf,run_underlying hu,Instr.sureAddr,this,Dm hi,hisz,M6]
   ·trivial
  ·trivial
 ·rename_i nm sz off len k' n
  have ey:=Ew hy
  subst ey
  split
  ·rename_i e esz eb esh ty' wr sz' rows htd hg
   have hu:=(hti (by rw [htd];simp)).td
   rw [htd]at hu
   obtain⟨hu,i,hi,hisz,_⟩:=hu
   split
   ·rename_i hsz
    have hsz:sz=esz:=by simpa using hsz
    subst hsz
    rintro⟨h0,h1⟩
    cases hx with |win _ a c lr _ _ _ k p hb hle hk1 hk2 hpp=>
    have he:=hs.ent _ _ hg
    cases he with
    |nil _ _ _ hb'=>rw [hb]at hb';injection hb' with hb';injection hb' with _ _ h3;omega
    |arr _ _ _ _ b' cap cs _ fz hb' _ _ hlc=>
     rw [hb]at hb'
     injection hb' with hb'
     injection hb' with ha hcap hl
     subst ha;subst hl;subst hcap
     have hp1:=hpp (by omega)
     subst hp1
     refine⟨.pointer (some ⟨b',addN off n.toNat*sz+0,none⟩),fun w _=> ?_, .elt _ _ _ _ _ _ _ hb⟩
     unfold Instr.indexAt
     have:(0≤n∧n<(len:Int)):=⟨h0,h1⟩
     simp [asIntOf,run_underlying hu,this,Dm hi,hisz,M6,Aim,Nat.add_mul]
   ·trivial
  ·trivial
 ·trivial
theorem Ati(P:Program)(w:World)(g:G)(t:Nat)(ti:TI)(hti:ti.td≠ .missing→Aa5 P t ti)(x:Value)(X:AV)(hx:RepA g x X)(j:Nat):
 Out P w g (Instr.fieldAt t x j) (Ae7 ti X j):=by
 unfold Ae7
 split
 ·rename_i fs htd
  have hu:=(hti (by rw [htd];simp)).td
  rw [htd]at hu
  obtain⟨fields,hu,_,hf⟩:=hu
  split
  ·rename_i off sz hfj
   obtain⟨f,i,hfld,hoff,hi,hisz⟩:=hf j off sz hfj
   split
   ·rename_i hpos
    have hpos:0<sz:=by simpa using hpos
    have run:∀w b o,(Instr.fieldAt t (.pointer (some ⟨b,o,none⟩)) j).run P w= .ok (.pointer (some ⟨b,o+off,none⟩)) w:=by
     intro w b o
     unfold Instr.fieldAt
     have hne:¬i.size=0:=by omega
     simp [run_underlying hu,hfld,Instr.sureAddr,fieldPlace,Dm hi,hne,hoff,M6]
    split
    ·rename_i cells
     cases hx with |pin b o _ vs h1 h2=>
     refine⟨_,fun w _=>run w b o, .pin _ _ _ (fun k=>vs (off+k)) (fun k hk=> ?_) (fun k hk=> ?_)⟩
     ·rw [Nat.add_assoc];exact h1 _ (by simp at hk;omega)
     ·rw [getD_drop];exact h2 _ (by simp at hk;omega)
    ·rename_i n o
     cases hx with |ptr _ b c l _ hb=>exact⟨_,fun w _=>run w b o, .ptr _ _ _ _ _ hb⟩
    ·rename_i n s i' k
     cases hx with |elt _ b c l _ _ _ hb=>exact⟨_,fun w _=>run w b (i'*s+k),by rw [Nat.add_assoc];exact .elt _ _ _ _ _ _ _ hb⟩
    ·trivial
   ·trivial
  ·trivial
 ·trivial
theorem A7s(P:Program)(w:World)(g:G)(t:Nat)(ti:TI)(hti:ti.td≠ .missing→Aa5 P t ti)(x y:Value)(X Y:AV)(hx:RepA g x X)(hy:RepA g y Y):
 Out P w g (Instr.index t x y) (Auf ti X Y):=by
 unfold Auf
 split
 ·rename_i l k n
  have ey:=Ew hy
  subst ey
  obtain⟨s,rfl,hs'⟩:=Pm hx
  split
  ·rename_i htd
   have hu:=(hti (by rw [htd];simp)).td
   rw [htd]at hu
   rintro⟨h0,h1⟩
   have hn:n.toNat<s.size:=by rw [Oo,hs'];omega
   refine⟨.int .u8 ((s[n.toNat]'hn).toNat),fun w _=> ?_, ?_⟩
   ·unfold Instr.index
    have hg:s[n.toNat]? =some (s[n.toNat]'hn):=by simp [hn]
    have hu':P.underlying t=some TypeDesc.string:=hu
    simp [asIntOf,run_underlying hu',h0,hg]
   ·have:s[n.toNat]'hn=l.getD n.toNat 0:=by
     subst hs'
     have hn':n.toNat<s.data.toList.length:=by rw [←Oo];exact hn
     rw [List.getD_eq_getElem?_getD,List.getElem?_eq_getElem hn']
     rfl
    rw [this]
    exact Q9 _ _ _
  ·trivial
 ·trivial
theorem Abk(P:Program)(_w:World)(g:G)(b:Bool)(n m:Nat)(lo hi:Option Value)(LO HI:Option AV)(hlo:∀X,LO=some X→∃x,lo=some x∧RepA g x X)(hlo':LO=none→lo=none)
 (hhi:∀X,HI=some X→∃x,hi=some x∧RepA g x X)(hhi':HI=none→hi=none)(hnm:n≤m)(c:Prop)(l h:Nat)(e:Aa6 n LO HI=some (c,l,h))(hc:c):
 (∀w,(Instr.sliceBounds b n m lo hi none).run P w= .ok (l,h,m) w)∧l≤h∧h≤n∧(LO=none→l=0)∧(HI=none→h=n):=by
 unfold Aa6 at e
 split at e
 ·rename_i k l'
  obtain⟨x,rfl,hx⟩:=hlo _ rfl
  rw [hhi' rfl,Ew hx]
  simp only [Option.some.injEq,Prod.mk.injEq]at e
  obtain⟨rfl,rfl,rfl⟩:=e
  refine⟨fun w=> ?_,by omega,by omega,by simp,by simp⟩
  simp [Instr.sliceBounds,run_sliceBound,hc.1,hc.2]
 ·rename_i k l'
  obtain⟨x,rfl,hx⟩:=hhi _ rfl
  rw [hlo' rfl,Ew hx]
  simp only [Option.some.injEq,Prod.mk.injEq]at e
  obtain⟨rfl,rfl,rfl⟩:=e
  refine⟨fun w=> ?_,by omega,by omega,by simp,by simp⟩
  have:l'≤(m:Int):=by omega
  simp [Instr.sliceBounds,run_sliceBound,hc.1,this]
 ·rename_i k l' k' h'
  obtain⟨x,rfl,hx⟩:=hlo _ rfl
  obtain⟨y,rfl,hy⟩:=hhi _ rfl
  rw [Ew hx,Ew hy]
  simp only [Option.some.injEq,Prod.mk.injEq]at e
  obtain⟨rfl,rfl,rfl⟩:=e
  refine⟨fun w=> ?_,by omega,by omega,by simp,by simp⟩
  have h1:h'≤(m:Int):=by omega
  have h2:0≤h':=by omega
  have h3:l'≤(h'.toNat:Int):=by omega
  have h4:=run_sliceBound (P:=P) w k l' h'.toNat BoundsCode.sliceB hc.1 h3
  simp [Instr.sliceBounds,run_sliceBound,h1,h2,h4]
 ·rw [hlo' rfl,hhi' rfl]
  simp only [Option.some.injEq,Prod.mk.injEq]at e
  obtain⟨rfl,rfl,rfl⟩:=e
  exact⟨by simp [Instr.sliceBounds],by omega,by omega,fun _=>rfl,fun _=>rfl⟩
 ·simp at e
theorem A2a {α:Type} (LO HI:Option AV)(l h:Nat)(xs:List α)(h0:LO=none→l=0)(h1:HI=none→h=xs.length):A19 LO HI l h xs=(xs.take h).drop l:=by
 unfold A19
 split
 ·rw [h0 rfl,h1 rfl];simp
 ·rw [h1 rfl];simp
 ·rw [h0 rfl];simp
 ·rfl
theorem Azu(P:Program)(w:World)(g:G)(n m:Nat)(lo hi mx:Option Value)(LO HI MX:Option AV)(hlo:∀X,LO=some X→∃x,lo=some x∧RepA g x X)(hlo':LO=none→lo=none)
 (hhi:∀X,HI=some X→∃x,hi=some x∧RepA g x X)(hhi':HI=none→hi=none)(hmx:∀X,MX=some X→∃x,mx=some x∧RepA g x X)(hmx':MX=none→mx=none)(hnm:n≤m)(c:Prop)(l h:Nat)(e:Afw n LO HI MX=some (c,l,h))(hc:c):
 ∃M,(∀w,(Instr.sliceBounds true n m lo hi mx).run P w= .ok (l,h,M) w)∧l≤h∧h≤n∧(LO=none→l=0)∧(HI=none→h=n)∧h≤M∧M≤m∧∀k q,MX=some (.imm (.int k q))→M=q.toNat:=by
 unfold Afw at e
 split at e
 ·rw [hmx' rfl]
  obtain⟨h1,h2,h3,h4,h5⟩:=Abk P w g true n m lo hi LO HI hlo hlo' hhi hhi' hnm c l h e hc
  exact⟨m,h1,h2,h3,h4,h5,by omega,Nat.le_refl _,fun k q e=>by cases e⟩
 ·rename_i k0 M
  obtain⟨z,rfl,hz⟩:=hmx _ rfl
  rw [Ew hz]
  split at e
  ·rename_i k l' k' h'
   obtain⟨x,rfl,hx⟩:=hlo _ rfl
   obtain⟨y,rfl,hy⟩:=hhi _ rfl
   rw [Ew hx,Ew hy]
   simp only [Option.some.injEq,Prod.mk.injEq]at e
   obtain⟨rfl,rfl,rfl⟩:=e
   obtain⟨q1,q2,q3,q4⟩:=hc
   refine⟨M.toNat,fun w=> ?_,by omega,by omega,by simp,by simp,by omega,by omega,fun k q e=>by injection e with e;injection e with e;injection e with _ e;rw [e]⟩
   have h4:=run_sliceBound (P:=P) w k0 M m BoundsCode.slice3Acap (by omega) (by omega)
   have h5:=run_sliceBound (P:=P) w k' h' M.toNat BoundsCode.slice3B (by omega) (by omega)
   have h6:=run_sliceBound (P:=P) w k l' h'.toNat BoundsCode.slice3C (by omega) (by omega)
   simp [Instr.sliceBounds,h4,h5,h6]
  ·rename_i k' h'
   obtain⟨y,rfl,hy⟩:=hhi _ rfl
   rw [hlo' rfl,Ew hy]
   simp only [Option.some.injEq,Prod.mk.injEq]at e
   obtain⟨rfl,rfl,rfl⟩:=e
   obtain⟨q1,q2,q3⟩:=hc
   refine⟨M.toNat,fun w=> ?_,by omega,by omega,by simp,by simp,by omega,by omega,fun k q e=>by injection e with e;injection e with e;injection e with _ e;rw [e]⟩
   have h4:=run_sliceBound (P:=P) w k0 M m BoundsCode.slice3Acap (by omega) (by omega)
   have h5:=run_sliceBound (P:=P) w k' h' M.toNat BoundsCode.slice3B (by omega) (by omega)
   simp [Instr.sliceBounds,h4,h5]
  ·simp at e
 ·simp at e
theorem A85(P:Program)(w:World)(g:G)(hp:Heap)(tg:Bool)(t:Nat)(ti:TI)(hti:ti.td≠ .missing→Aa5 P t ti)(x:Value)(s:List UInt8)(hx:RepA g x (.imm (.str s)))(lo hi mx:Option Value)(LO HI MX:Option AV)
 (hlo:∀X,LO=some X→∃x,lo=some x∧RepA g x X)(hlo':LO=none→lo=none)(hhi:∀X,HI=some X→∃x,hi=some x∧RepA g x X)(hhi':HI=none→hi=none)(hmx:MX=none→mx=none):
 Out P w g (Instr.sliceAt t x lo hi mx) (Abl ti hp tg (.imm (.str s)) LO HI MX):=by
 unfold Abl
 simp only
 obtain⟨bs,rfl,hbs⟩:=Pm hx
 split
 ·trivial
 rw [hmx rfl]
 split
 ·rename_i c l h htd hb
  have hu:=(hti (by rw [htd];simp)).td
  rw [htd]at hu
  have hu':P.underlying t=some TypeDesc.string:=hu
  intro hc
  have hn:bs.size=s.length:=by rw [Oo,hbs]
  obtain⟨hr,hlh,hhn,hl0,hh0⟩:=Abk P w g false s.length s.length lo hi LO HI hlo hlo' hhi hhi' (Nat.le_refl _) c l h hb hc
  rw [←hn]at hr
  refine⟨.string (bs.extract l h),fun w _=> ?_,Akj _ _ _ ?_⟩
  ·unfold Instr.sliceAt Instr.slice
   simp [run_underlying hu',hr]
  ·rw [Lib.extract_data,hbs,A2a _ _ _ _ _ hl0 hh0,List.drop_take]
 ·trivial
theorem A84(P:Program)(w:World)(g:G)(hp:Heap)(hs:Sat g hp w)(tg:Bool)(t:Nat)(ti:TI)(hti:ti.td≠ .missing→Aa5 P t ti)(x:Value)(X:AV)(hx:RepA g x X)(lo hi mx:Option Value)(LO HI MX:Option AV)
 (hlo:∀X,LO=some X→∃x,lo=some x∧RepA g x X)(hlo':LO=none→lo=none)(hhi:∀X,HI=some X→∃x,hi=some x∧RepA g x X)(hhi':HI=none→hi=none)(hmx1:∀X,MX=some X→∃x,mx=some x∧RepA g x X)(hmx:MX=none→mx=none)(htg:tg=true→∃k k',HI=some (.imm (.int k 0))∧MX=some (.imm (.int k' 0))):
 Out P w g (Instr.sliceAt t x lo hi mx) (Abl ti hp tg X LO HI MX):=by
 unfold Abl
 split
 ·rename_i s
  obtain⟨bs,rfl,hbs⟩:=Pm hx
  split
  ·trivial
  rw [hmx rfl]
  split
  ·rename_i c l h htd hb
   have hu:=(hti (by rw [htd];simp)).td
   rw [htd]at hu
   have hu':P.underlying t=some TypeDesc.string:=hu
   intro hc
   have hn:bs.size=s.length:=by rw [Oo,hbs]
   obtain⟨hr,hlh,hhn,hl0,hh0⟩:=Abk P w g false s.length s.length lo hi LO HI hlo hlo' hhi hhi' (Nat.le_refl _) c l h hb hc
   rw [←hn]at hr
   refine⟨.string (bs.extract l h),fun w _=> ?_,Akj _ _ _ ?_⟩
   ·unfold Instr.sliceAt Instr.slice
    simp [run_underlying hu',hr]
   ·rw [Lib.extract_data,hbs,A2a _ _ _ _ _ hl0 hh0,List.drop_take]
  ·trivial
 ·rename_i k sz rows
  split
  ·rename_i e esz eb esh c l h htd hb
   have hu:=(hti (by rw [htd];simp)).td
   rw [htd]at hu
   obtain⟨hu,i,hi',hisz,_⟩:=hu
   split
   ·rename_i hsz
    have hsz:sz=esz:=by simpa using hsz
    split
    rotate_left
    ·obtain⟨k1,k2,rfl,rfl⟩:=htg rfl
     intro hc
     have hr:=D5 hx
     cases hr with |sl a cap _ _ _ b o vs hc1 hc2 hc3 hc4 hc5 hc6 hc7 hc8 hc9=>
     obtain⟨M,hrun,hlh,hhn,hl0,hh0,hhM,hMc,hMq⟩:=Azu P w g rows.length cap lo hi mx LO _ _ hlo hlo' hhi hhi' hmx1 hmx hc1 c l h hb hc
     have hM0:M=0:=by simpa using hMq k2 0 rfl
     subst hM0
     have hh:h=0:=by omega
     subst hh
     have hl:l=0:=by omega
     subst hl
     refine⟨.slice a 0 0,fun w _=> ?_, .imm _ _ ?_⟩
     ·unfold Instr.sliceAt Instr.slice
      simp [run_underlying hu,hrun,Dm hi']
     ·exact .sl a 0 .tight sz [] b o vs (Nat.le_refl _) (fun _=>rfl) (fun _=>rfl) (fun h=>by cases h) (fun h=>absurd rfl h) (fun _ h=>by cases h) (fun _ _ h=>by simp at h) (fun _ _ h=>by simp at h) (fun _ _ h=>by simp at h)
    intro hc
    have hr:=D5 hx
    cases hr with |sl a cap _ _ _ b o vs hc1 hc2 hc3 hc4 hc5 hc6 hc7 hc8 hc9=>
    obtain⟨M,hrun,hlh,hhn,hl0,hh0,hhM,hMc,_⟩:=Azu P w g rows.length cap lo hi mx LO HI MX hlo hlo' hhi hhi' hmx1 hmx hc1 c l h hb hc
    rw [A2a _ _ _ _ _ hl0 hh0]
    have hlen:((rows.take h).drop l).length=h - l:=by simp;omega
    refine⟨.slice (if M=l then a else a.map (·.add (l*sz))) (h - l) (M - l),fun w _=> ?_, .imm _ _ ?_⟩
    ·unfold Instr.sliceAt Instr.slice
     simp [run_underlying hu,hrun,Dm hi',hisz, ←hsz]
    ·rw [←hlen]
     have hrow:∀i,i<h - l→((rows.take h).drop l).getD i []=rows.getD (l+i) []:=by
      intro i hi
      rw [getD_drop,getD_take _ _ _ _ (by omega)]
     refine .sl _ _ _ _ _ b (o+l*sz) (fun i j=>vs (l+i) j) (by rw [hlen];omega) ?_ (by simp) (by simp) ?_ ?_ ?_ ?_ ?_
     ·intro hn
      split at hn
      ·have:=hc2 hn;omega
      ·cases a with
       |none=>have:=hc2 rfl;omega
       |some a=>simp at hn
     ·intro hne
      have hlt:l<h:=by
       rcases Nat.lt_or_ge l h with h' |h'
       ·exact h'
       ·exfalso;apply hne;rw [List.drop_eq_nil_of_le (by simp;omega)]
      have ha:=hc5 (by intro e;subst e;simp at hhn;omega)
      subst ha
      rw [if_neg (by omega)]
      simp [M6]
     ·intro r hr
      exact hc6 r (List.mem_of_mem_take (List.mem_of_mem_drop hr))
     ·intro i j hi hj
      rw [hlen]at hi
      have:=hc7 (l+i) j (by omega) hj
      rw [Nat.add_mul]at this
      rw [←this]
      congr 1
      omega
     ·intro i j hi hj
      rw [hlen]at hi
      rw [hrow i hi]
      exact hc8 (l+i) j (by omega) hj
     ·intro i j hi hj
      rw [hlen]at hi
      exact hc9 (l+i) j (by omega) hj
   ·trivial
  ·trivial
 ·rename_i n sz off len
  split
  ·rename_i e esz eb esh ty' wr sz' rows htd hg
   have hu:=(hti (by rw [htd];simp)).td
   rw [htd]at hu
   obtain⟨hu,i,hi',hisz,_⟩:=hu
   split
   ·rename_i c l h hb hsz
    have hsz:sz=esz:=by simpa using hsz
    intro hc
    cases hx with |win _ a cap lr _ _ _ k p hbn hle hk1 hk2 hp=>
    have hcap:lr≤cap:=(hs.ent _ _ hg).len_cap hbn
    rw [hmx rfl]
    obtain⟨hrun,hlh,hhn,hl0,hh0⟩:=Abk P w g true len k lo hi LO HI hlo hlo' hhi hhi' (by omega) c l h hb hc
    refine⟨.slice (if k=l then p else p.map (·.add (l*sz))) (h - l) (k - l),fun w _=> ?_, ?_⟩
    ·unfold Instr.sliceAt Instr.slice
     simp [run_underlying hu,hrun,Dm hi',hisz, ←hsz]
    ·refine .win n a cap lr sz (addN off l) (h - l) (k - l) _ hbn (by rw [Aim];omega) (by omega) (by rw [Aim];omega) fun hlt=> ?_
     rw [Aim]
     rw [if_neg (by omega),hp (by omega)]
     cases a with
     |none=>rfl
     |some b=>simp [M6,Nat.add_mul]
   ·trivial
  ·trivial
 ·rename_i n
  split
  ·rename_i k e esz ty' wr sz rows htd hg
   have hu:=(hti (by rw [htd];simp)).td
   rw [htd]at hu
   obtain⟨hu,i,hi',hisz⟩:=hu
   split
   ·rename_i c l h hb hsz
    have hsz:sz=esz:=by simpa using hsz
    rintro⟨hc,hk⟩
    cases hx with |ptr _ b cap lr _ hbn=>
    have hcap:lr≤cap:=(hs.ent _ _ hg).len_cap hbn
    have hlr:lr=rows.length:=(hs.ent _ _ hg).len_rows hbn
    rw [hmx rfl]
    obtain⟨hrun,hlh,hhn,hl0,hh0⟩:=Abk P w g false k k lo hi LO HI hlo hlo' hhi hhi' (Nat.le_refl _) c l h hb hc
    refine⟨.slice (some (if k=l then⟨b,0,none⟩else(⟨b,0,none⟩:Addr).add (l*sz))) (h - l) (k - l),fun w _=> ?_, ?_⟩
    ·unfold Instr.sliceAt
     simp [run_underlying hu,Instr.sureAddr,hrun,Dm hi',hisz, ←hsz]
    ·refine .win n (some b) cap lr sz l (h - l) (k - l) _ hbn (by omega) (by omega) (by omega) fun hlt=> ?_
     rw [if_neg (by omega)]
     simp [M6]
   ·trivial
  ·trivial
 ·rename_i n
  split
  ·rename_i e esz eb esh ty' wr sz rows htd hg
   have hu:=(hti (by rw [htd];simp)).td
   rw [htd]at hu
   obtain⟨hu,i,hi',hisz,_⟩:=hu
   split
   ·rename_i c l h hb hsz
    have hsz:sz=esz:=by simpa using hsz
    intro hc
    cases hx with |own _ a cap lr hbn=>
    have hcap:lr≤cap:=(hs.ent _ _ hg).len_cap hbn
    have hlr:lr=rows.length:=(hs.ent _ _ hg).len_rows hbn
    subst hlr
    rw [hmx rfl]
    obtain⟨hrun,hlh,hhn,hl0,hh0⟩:=Abk P w g true rows.length cap lo hi LO HI hlo hlo' hhi hhi' (by omega) c l h hb hc
    refine⟨.slice (if cap=l then(a.map fun b=>⟨b,0,none⟩)else(a.map fun b=>(⟨b,0,none⟩:Addr)).map (·.add (l*sz))) (h - l) (cap - l),fun w _=> ?_, ?_⟩
    ·unfold Instr.sliceAt Instr.slice
     cases a<;>simp [run_underlying hu,hrun,Dm hi',hisz, ←hsz]
    ·refine .win n a cap rows.length sz l (h - l) (cap - l) _ hbn (by omega) (by omega) (by omega) fun hlt=> ?_
     rw [if_neg (by omega)]
     cases a with
     |none=>rfl
     |some b=>simp [M6]
   ·trivial
  ·trivial
 ·trivial
theorem Bbr(ns:List Int)(s:ByteArray):(ns.foldl (fun r n=>r.push (UInt8.ofNat n.toNat)) s).data.toList=s.data.toList++ns.map fun n=>UInt8.ofNat n.toNat:=by
 induction ns generalizing s with
 |nil=>simp
 |cons n ns ih=>simp only [List.foldl_cons,List.map_cons];rw [ih];simp [ByteArray.push]
theorem Bjl {r:List IV} (h:Bg [.int .u8] r=true):r=[.int .u8 (gI r 0)]:=by
 match r,h with
 | [a],h=>
   simp only [Bg,Bool.and_true]at h
   cases a<;>simp [shC]at h
   subst h;rfl
 | [],h=>simp [Bg]at h
 |a::b::r,h=>simp [Bg]at h
theorem Atb(P:Program)(w:World)(a:Option Addr)(len cap:Nat)(rows:List (List IV))(m:Nat→Nat→Option Value)(cell:Nat→Value)(hl:len=rows.length)(h0:len=0∨∃ad,a=some ad∧∀j,j<len→w.cell? (ad.add j)=some (cell j))
 (hrep:∀j,j<len→RepI m (cell j) ((rows.getD j []).getD 0 default))(hsh:∀r,r∈rows→Bg [.int .u8] r=true):
 ∃s:ByteArray,(∀w',Up w w'→(Conv.bytesToString (.slice a len cap)).run P w'= .ok (.string s) w')∧s.data.toList=rows.map fun r=>UInt8.ofNat (gI r 0).toNat:=by
 cases a with
 |none=>
  rcases h0 with h0 |⟨ad,h,_⟩
  ·have:rows=[]:=List.eq_nil_of_length_eq_zero (by omega)
   subst this
   exact⟨.empty,by simp [Conv.bytesToString],by simp⟩
  ·cases h
 |some ad=>
  have hc:∀j,j<len→cell j= .int .u8 (gI (rows.getD j []) 0):=by
   intro j hj
   have hm:rows.getD j []∈rows:=by rw [List.getD_eq_getElem?_getD,List.getElem?_eq_getElem (by omega)];simp
   have hr:=Bjl (hsh _ hm)
   have:=hrep j hj
   rw [hr]at this
   simp only [List.getD_cons_zero]at this
   exact Aba this
  have hl':∀w',Up w w'→(loadCells ad len).run P w'= .ok (((rows.map fun r=>gI r 0).map (Value.int .u8)).toArray) w':=by
   intro w' hup
   rw [run_loadCells w' ad len cell]
   ·congr 2
    apply List.ext_getElem
    ·simp [hl]
    ·intro i h1 h2
     simp at h1 h2
     simp [hc i h1,List.getD_eq_getElem?_getD,h2]
   ·intro j hj
    rcases h0 with h0 |⟨ad',h,h'⟩
    ·omega
    ·injection h with h;subst h;exact hup.cell (h' j hj)
  refine⟨_,fun w' hup=>run_bytesToString w' ad len cap _ (hl' w' hup), ?_⟩
  rw [Bbr]
  simp
theorem Bbg(P:Program)(T:TT)(hT:Dc P T)(w:World)(g:G)(hp:Heap)(hs:Sat g hp w)(s d:Nat)(x:Value)(X:AV)(hx:RepA g x X):
 Out P w g (convert s d x) (Atg T s d hp X):=by
 unfold Atg
 split
 ·trivial
 rename_i std hstd
 have hsI:=hT.ok s (by intro e;exact hstd e)
 obtain⟨ds,hds,_⟩:=hsI.agg
 split
 ·rename_i k k' n hd
  have hu:=(hT.ok d (by rw [hd];simp)).td
  rw [hd]at hu
  have hu':P.underlying d=some (TypeDesc.int k):=hu
  rw [Ew hx]
  exact⟨_,fun w _=>by simp [convert,run_underlying hds,run_underlying hu',Conv.intToInt],Q9 _ _ _⟩
 ·rename_i l hd
  have hu:=(hT.ok d (by rw [hd];simp)).td
  rw [hd]at hu
  have hu':P.underlying d=some TypeDesc.string:=hu
  obtain⟨bs,rfl,hbs⟩:=Pm hx
  exact⟨_,fun w _=>by simp [convert,run_underlying hds,run_underlying hu'],Akj _ _ _ hbs⟩
 ·rename_i k sz rows hd
  have hu:=(hT.ok d (by rw [hd];simp)).td
  rw [hd]at hu
  have hu':P.underlying d=some TypeDesc.string:=hu
  split
  ·rename_i e esz eb esh hse hsz
   have hsz:sz=1:=by simpa using hsz
   subst hsz
   have h2:=hsI.td
   rw [hse]at h2
   obtain⟨hsl,_⟩:=h2
   split
   ·rename_i he
    have hue:=(hT.ok e (by rw [he];simp)).td
    rw [he]at hue
    have hue':P.underlying e=some (TypeDesc.int .u8):=hue
    intro hsh
    have hr:=D5 hx
    cases hr with |sl a cap _ _ _ b o vs hc1 hc2 hc3 hc4 hc5 hc6 hc7 hc8 hc9=>
    obtain⟨bs,hrun,hbs⟩:=Atb P w a rows.length cap rows g.imm (fun j=>vs j 0) rfl (by
     by_cases h:rows=[]
     ·subst h;exact .inl rfl
     ·refine .inr ⟨_,hc5 h,fun j hj=> ?_⟩
      rw [M6]
      have:=hs.imm _ _ _ (hc7 j 0 hj (by omega))
      simpa using this) (fun j hj=>hc8 j 0 hj (by omega)) hsh
    refine⟨.string bs,fun w hup=> ?_,Akj _ _ _ hbs⟩
    rw [←hrun w hup]
    simp [convert,run_underlying hsl,run_underlying hu',run_underlying hue']
   ·trivial
  ·trivial
 ·rename_i n hd
  have hu:=(hT.ok d (by rw [hd];simp)).td
  rw [hd]at hu
  have hu':P.underlying d=some TypeDesc.string:=hu
  split
  ·rename_i e esz eb esh ty wr sz rows hse hg
   have h2:=hsI.td
   rw [hse]at h2
   obtain⟨hsl,_⟩:=h2
   split
   ·rename_i he hsz
    have hsz:sz=1:=by simpa using hsz
    subst hsz
    have hue:=(hT.ok e (by rw [he];simp)).td
    rw [he]at hue
    have hue':P.underlying e=some (TypeDesc.int .u8):=hue
    intro hsh
    cases hx with |own _ a c len hb=>
    have hent:=hs.ent _ _ hg
    have key:∃bs:ByteArray,(∀w',Up w w'→(Conv.bytesToString (.slice (a.map fun b=>⟨b,0,none⟩) len c)).run P w'= .ok (.string bs) w')∧bs.data.toList=rows.map fun r=>UInt8.ofNat (gI r 0).toNat:=by
     cases hent with
     |nil _ _ _ hb'=>
      rw [hb]at hb';injection hb' with hb';injection hb' with h1 h2 h3
      subst h1;subst h3
      exact⟨.empty,by simp [Conv.bytesToString],by simp⟩
     |arr _ _ _ _ b' cap cs _ fz hb' hh hcs hrc hrl hcells=>
      rw [hb]at hb';injection hb' with hb';injection hb' with h1 h2 h3
      subst h1;subst h3
      exact Atb P w _ rows.length c rows g.imm (fun j=>cs.getD (j*1+0) undef) rfl (.inr ⟨_,rfl,fun j hj=>by
       rw [M6];simp only [Nat.zero_add,Nat.mul_one,Nat.add_zero];exact cell_of_block hh (by rw [hcs];omega)⟩) (fun j hj=>hcells j 0 hj (by omega)) hsh
    obtain⟨bs,hrun,hbs⟩:=key
    refine⟨.string bs,fun w hup=> ?_,Akj _ _ _ hbs⟩
    rw [←hrun w hup]
    cases a<;>simp [convert,run_underlying hsl,run_underlying hu',run_underlying hue']
   ·trivial
  ·trivial
 ·rename_i n off len hd
  have hu:=(hT.ok d (by rw [hd];simp)).td
  rw [hd]at hu
  have hu':P.underlying d=some TypeDesc.string:=hu
  split
  ·rename_i e esz eb esh ty wr sz rows hse hg
   have h2:=hsI.td
   rw [hse]at h2
   obtain⟨hsl,_⟩:=h2
   split
   ·rename_i he hsz
    have hsz:sz=1:=by simpa using hsz
    subst hsz
    have hue:=(hT.ok e (by rw [he];simp)).td
    rw [he]at hue
    have hue':P.underlying e=some (TypeDesc.int .u8):=hue
    intro hsh
    cases hx with |win _ a c l _ _ _ k p hb hle hk1 hk2 hp=>
    have hent:=hs.ent _ _ hg
    have hlr:=hent.len_rows hb
    have hll:((rows.drop off).take len).length=len:=by simp;omega
    have hget:∀j,j<len→((rows.drop off).take len).getD j []=rows.getD (off+j) []:=fun j hj=>by rw [getD_take _ _ _ _ hj,getD_drop]
    have key:∃cell:Nat→Value,(len=0∨∃ad,p=some ad∧∀j,j<len→w.cell? (ad.add j)=some (cell j))∧∀j,j<len→RepI g.imm (cell j) ((((rows.drop off).take len).getD j []).getD 0 default):=by
     by_cases h0:len=0
     ·exact⟨fun _=>undef, .inl h0,fun j hj=>by omega⟩
     ·cases hent with
      |nil _ _ _ q1=>rw [hb]at q1;injection q1 with q1;injection q1 with _ _ e3;omega
      |arr _ _ _ _ b' cap cs _ fz q1 q2 q3 q4 q5 q6=>
       rw [hb]at q1
       injection q1 with q1
       injection q1 with e1 e2 e3
       subst e1;subst e2
       have hp:=hp (by omega)
       subst hp
       refine⟨fun j=>cs.getD (off+j) undef, .inr ⟨_,rfl,fun j hj=> ?_⟩,fun j hj=> ?_⟩
       ·rw [M6]
        simp only [Nat.mul_one]
        exact cell_of_block q2 (by rw [q3];omega)
       ·rw [hget j hj]
        have:=q6 (off+j) 0 (by omega) (by omega)
        simpa using this
    obtain⟨cell,hc1,hc2⟩:=key
    obtain⟨bs,hrun,hbs⟩:=Atb P w p len k ((rows.drop off).take len) g.imm cell hll.symm hc1 hc2 hsh
    refine⟨.string bs,fun w hup=> ?_,Akj _ _ _ hbs⟩
    rw [←hrun w hup]
    cases p<;>simp [convert,run_underlying hsl,run_underlying hu',run_underlying hue']
   ·trivial
  ·trivial
 ·trivial
theorem Bg6(P:Program)(T:TT)(hT:Dc P T)(w:World)(g:G)(t:Nat)(x:Value)(X:AV)(hx:RepA g x X)(j:Nat):Out P w g (Instr.field t x j) (A2d T t X j):=by
 unfold A2d
 split
 ·rename_i fs ft htd hft
  have hti:=hT.ok t (by rw [htd];simp)
  have hu:=hti.td
  rw [htd]at hu
  obtain⟨fields,hu,_,hf⟩:=hu
  obtain⟨fields',hu',hfts⟩:=hti.fts (by intro e;rw [e]at hft;simp at hft)
  rw [hu]at hu'
  injection hu' with hu'
  injection hu' with hu'
  subst hu'
  split
  ·rename_i off sz hfj
   obtain⟨f,i,hfld,hoff,hi,hisz⟩:=hf j off sz hfj
   have hfty:f.type=ft:=by
    rw [←hfts]at hft
    simp [hfld]at hft
    exact hft
   unfold Bd2
   split
   ·trivial
   rename_i hmiss
   have hfi:=hT.ok ft (fun e=>hmiss e)
   obtain⟨i',hi',hs',_⟩:=hfi.info
   obtain⟨d,hd,hda⟩:=hfi.agg
   have hisagg:∀w,(isAgg f.type).run P w= .ok (tl T ft).agg w:=by
    intro w
    rw [hfty, ←hda]
    cases d<;>simp [isAgg,run_underlying hd]
   have hrun:∀(cs:Array Value) (w:World),(Instr.field t (.agg cs) j).run P w=(part f.type cs f.offset).run P w:=by
    intro cs w
    simp [Instr.field,run_underlying hu,hfld,asAgg]
   have main:∀(cs:Array Value) (l:List AV),cs.size=l.length→(∀k,k<l.length→RepA g (cs.getD k undef) (l.getD k .undef))→∀pr,(match (tl T ft).agg with
    |true=>(match Nat.ble (off+(tl T ft).size) l.length with |true=>pr=PR.ok (Aia ((l.drop off).take (tl T ft).size)) |false=>False)
    |false=>(match l.drop off with |c::_=>pr=PR.ok c | []=>False))→Out P w g (Instr.field t (.agg cs) j) pr:=by
    intro cs l hl hc pr hpr
    split at hpr
    ·rename_i ha
     split at hpr
     ·rename_i hle
      have hle:off+(tl T ft).size≤l.length:=by simpa using hle
      subst hpr
      refine⟨.agg (cs.extract off (off+(tl T ft).size)),fun w _=> ?_,Ake (by simp;omega) fun k hk=> ?_⟩
      ·rw [hrun]
       unfold part
       rw [hfty]at hisagg ⊢
       simp [hisagg,ha,Dm hi',hs',hoff]
      ·have hk':k<(tl T ft).size:=by simp at hk;omega
       have:=hc (off+k) (by omega)
       have e1:(cs.extract off (off+(tl T ft).size)).getD k undef=cs.getD (off+k) undef:=by
        have h1:k<(cs.extract off (off+(tl T ft).size)).size:=by simp;omega
        have h2:off+k<cs.size:=by omega
        simp [Array.getD_eq_getD_getElem?,Array.getElem?_extract,h2]
        rw [if_pos (by omega)]
        simp
       rw [e1,getD_take _ _ _ _ hk',getD_drop]
       exact this
     ·exact hpr.elim
    ·rename_i ha
     split at hpr
     ·rename_i c r hd'
      subst hpr
      have hlt:off<l.length:=by
       rcases Nat.lt_or_ge off l.length with h |h
       ·exact h
       ·rw [List.drop_eq_nil_of_le h]at hd';cases hd'
      have hlt':off<cs.size:=by omega
      have hcv:l.getD off .undef=c:=by
       have:=congrArg (fun l=>List.getD l 0 .undef) hd'
       simpa [getD_drop] using this
      refine⟨cs.getD off undef,fun w _=> ?_,by rw [←hcv];exact hc off hlt⟩
      rw [hrun]
      unfold part
      simp [hisagg,ha,hoff,hlt']
     ·exact hpr.elim
   split
   ·rename_i cells
    have hr:=D5 hx
    cases hr with |agg cs _ hl hc=>
    have hl':cs.size=(Dv cells).length:=by rw [Cw,hl]
    have hc':∀k,k<(Dv cells).length→RepA g (cs.getD k undef) ((Dv cells).getD k .undef):=fun k hk=>by
     rw [Cw]at hk
     rw [Lu _ _ hk]
     exact .imm _ _ (hc k hk)
    have hdr:∀n (l:List IV),(Dv l).drop n=Dv (l.drop n):=by
     intro n
     induction n with
     |zero=>intro l;rfl
     |succ n ih=>intro l;cases l with |nil=>rfl |cons a l=>exact ih l
    have htk:∀n (l:List IV),(Dv l).take n=Dv (l.take n):=by
     intro n
     induction n with
     |zero=>intro l;cases l<;>rfl
     |succ n ih=>intro l;cases l with |nil=>rfl |cons a l=>simp [Dv,ih]
    have hmk:∀l:List IV,Aia (Dv l)= .imm (.agg l):=by
     intro l
     have:toI (Dv l)=some l:=by
      induction l with
      |nil=>rfl
      |cons a l ih=>simp [Dv,toI,ih]
     simp [Aia,this]
    split
    ·rename_i ha
     split
     ·rename_i hle
      refine main cs (Dv cells) hl' hc' _ ?_
      rw [ha]
      simp only [Cw,hle]
      rw [hdr,htk,hmk]
     ·trivial
    ·rename_i ha
     split
     ·rename_i c r hd'
      refine main cs (Dv cells) hl' hc' _ ?_
      rw [ha]
      simp only [hdr,hd',Dv]
     ·trivial
   ·rename_i cells
    cases hx with |agg cs _ hl hc=>
    split
    ·rename_i ha
     split
     ·rename_i hle
      refine main cs cells hl hc _ ?_
      rw [ha]
      simp only [hle]
     ·trivial
    ·rename_i ha
     split
     ·rename_i c r hd'
      refine main cs cells hl hc _ ?_
      rw [ha]
      simp only [hd']
     ·trivial
   ·trivial
  ·trivial
 ·trivial
theorem Bbo(P:Program)(w:World)(g:G)(i:Nat)(x:Value)(X:AV)(hx:RepA g x X):
 Out P w g (Instr.extract x i) (Bbn X i):=by
 unfold Bbn
 split
 ·rename_i vs
  cases hx with |tup cs _ hsz h=>
  split
  ·rename_i v hv
   have hi:i<vs.length:=by
    rcases Nat.lt_or_ge i vs.length with h |h
    ·exact h
    ·rw [List.getElem?_eq_none h]at hv;cases hv
   have:=h i hi
   rw [List.getD_eq_getElem?_getD,hv]at this
   have hi':i<cs.size:=by omega
   refine⟨cs.getD i undef, ?_,by simpa using this⟩
   simp [Instr.extract,hi']
  ·trivial
 ·trivial
theorem Bfv {xs:List Value} (h:xs.length=2):∃x y,xs=[x,y]:=by
 match xs,h with
 | [x,y],_=>exact⟨x,y,rfl⟩
theorem Bo5(P:Program)(w:World)(g:G)(ts:Array Nat)(ty:Nat)(xs:List Value)(Xs:List AV)(hl:xs.length=Xs.length)(h:∀i,i<Xs.length→RepA g (xs.getD i undef) (Xs.getD i .undef)):
 Out P w g (Builtin.max_ ts ty xs.toArray) (A2e true Xs):=by
 unfold A2e
 split
 ·rename_i k a k' b
  obtain⟨x,y,rfl⟩:=Bfv hl
  have h0:=Ew (h 0 (by simp))
  have h1:=Ew (h 1 (by simp))
  simp only [List.getD_cons_zero,List.getD_cons_succ]at h0 h1
  subst h0;subst h1
  exact⟨_,fun w _=>by simp [Builtin.max_,Builtin.max2],Q9 _ _ _⟩
 ·trivial
theorem Bo4(P:Program)(w:World)(g:G)(ts:Array Nat)(ty:Nat)(xs:List Value)(Xs:List AV)(hl:xs.length=Xs.length)(h:∀i,i<Xs.length→RepA g (xs.getD i undef) (Xs.getD i .undef)):
 Out P w g (Builtin.min_ ts ty xs.toArray) (A2e false Xs):=by
 unfold A2e
 split
 ·rename_i k a k' b
  obtain⟨x,y,rfl⟩:=Bfv hl
  have h0:=Ew (h 0 (by simp))
  have h1:=Ew (h 1 (by simp))
  simp only [List.getD_cons_zero,List.getD_cons_succ]at h0 h1
  subst h0;subst h1
  exact⟨_,fun w _=>by simp [Builtin.min_,Builtin.min2],Q9 _ _ _⟩
 ·trivial
theorem Bex(g:G)(v:Value)(X Y:AV)(hx:RepA g v X)(hv:Alh X= .ok Y):Y=X∧((∃a,v= .pointer (some a))∨∃f vs,v= .func (.func f) #[] vs):=by
 cases hx<;>simp [Alh]at hv<;>subst hv
 ·exact⟨rfl, .inl ⟨_,rfl⟩⟩
 ·exact⟨rfl, .inl ⟨_,rfl⟩⟩
 ·exact⟨rfl, .inl ⟨_,rfl⟩⟩
 ·exact⟨rfl, .inr ⟨_,_,rfl⟩⟩
theorem Awa(X:AV)(c:Prop)(v:AV):Alh X≠ .req c v:=by
 cases X<;>simp [Alh]
theorem Xw {g:G} {v:Value} {X:AV} (hx:RepA g v X)(hX:Oe X=true):v.cells.size=(flat X).length∧∀i,i<(flat X).length→RepA g (v.cells.getD i undef) ((flat X).getD i .undef):=by
 have one:∀(v:Value),v.cells= #[v]→flat X=[X]→v.cells.size=(flat X).length∧(RepA g v X→∀i,i<(flat X).length→RepA g (v.cells.getD i undef) ((flat X).getD i .undef)):=by
  intro v h1 h2
  rw [h1,h2]
  refine⟨rfl,fun h i hi=> ?_⟩
  have:i=0:=by simp at hi;omega
  subst this
  exact h
 cases hx with
 |imm _ x h=>
  cases x with
  |agg l=>
   cases h with |agg cs _ hsz hc=>
   refine⟨by simp [flat,Value.cells,Cw,hsz],fun i hi=> ?_⟩
   simp only [flat,Cw]at hi ⊢
   rw [Lu _ _ hi]
   exact .imm _ _ (hc i hi)
  |raw u=>
   cases h
   have h1:v.cells= #[v]:=by cases v<;>simp [Oe]at hX<;>rfl
   exact⟨(one _ h1 rfl).1,(one _ h1 rfl).2 (.imm _ _ (.raw _))⟩
  |bool b=>have h1:v.cells= #[v]:=by cases h;rfl
           exact⟨(one _ h1 rfl).1,(one _ h1 rfl).2 (.imm _ _ h)⟩
  |int k n=>have h1:v.cells= #[v]:=by cases h;rfl
            exact⟨(one _ h1 rfl).1,(one _ h1 rfl).2 (.imm _ _ h)⟩
  |str l=>have h1:v.cells= #[v]:=by cases h;rfl
          exact⟨(one _ h1 rfl).1,(one _ h1 rfl).2 (.imm _ _ h)⟩
  |sl k sz rows=>have h1:v.cells= #[v]:=by cases h;rfl
                 exact⟨(one _ h1 rfl).1,(one _ h1 rfl).2 (.imm _ _ h)⟩
  |ifc b=>have h1:v.cells= #[v]:=by cases h<;>rfl
          exact⟨(one _ h1 rfl).1,(one _ h1 rfl).2 (.imm _ _ h)⟩
 |ptr n b c l off hb=>exact⟨(one _ rfl rfl).1,(one _ rfl rfl).2 (.ptr _ _ _ _ _ hb)⟩
 |elt n b c l sz i j hb=>exact⟨(one _ rfl rfl).1,(one _ rfl rfl).2 (.elt _ _ _ _ _ _ _ hb)⟩
 |own n a c len hb=>exact⟨(one _ rfl rfl).1,(one _ rfl rfl).2 (.own _ _ _ _ hb)⟩
 |pin b o cells vs h1 h2=>exact⟨(one _ rfl rfl).1,(one _ rfl rfl).2 (.pin _ _ _ vs h1 h2)⟩
 |fn f vs caps h1 h2=>exact⟨(one _ rfl rfl).1,(one _ rfl rfl).2 (.fn _ _ _ h1 h2)⟩
 |agg cs l hsz hc=>exact⟨hsz,hc⟩
 |tup cs l hsz hc=>simp [Oe]at hX
 |when _ t b want a h=>simp [Oe]at hX
 |undef=>simp [Oe]at hX
 |data n a c len hb=>exact⟨(one _ rfl rfl).1,(one _ rfl rfl).2 (.data _ _ _ _ hb)⟩
 |win n a c l sz off len k p hb h1 h2 h3 h4=>exact⟨(one _ rfl rfl).1,(one _ rfl rfl).2 (.win _ _ _ _ _ _ _ _ _ hb h1 h2 h3 h4)⟩
 |mp n b c l hb=>exact⟨(one _ rfl rfl).1,(one _ rfl rfl).2 (.mp _ _ _ _ hb)⟩
 |self n _ hb=>
  have h1:v.cells= #[v]:=by rcases hb with rfl |⟨_,_,_,_,rfl⟩<;>rfl
  exact⟨(one _ h1 rfl).1,(one _ h1 rfl).2 (.self _ _ hb)⟩
 |meth f n b c l off hb=>exact⟨(one _ rfl rfl).1,(one _ rfl rfl).2 (.meth _ _ _ _ _ _ hb)⟩
theorem Aad(cs:List AV)(n:Nat)(vs:List AV)(h:n+vs.length≤cs.length):(splice cs n vs).length=cs.length:=by
 have over:∀(cs vs:List AV),vs.length≤cs.length→(splice.over cs vs).length=cs.length:=by
  intro cs vs
  induction vs generalizing cs with
  |nil=>intro _;cases cs<;>rfl
  |cons v vs ih=>intro h;cases cs with |nil=>simp at h |cons c cs=>simp [splice.over];exact ih cs (by simpa using h)
 induction n generalizing cs with
 |zero=>cases cs<;>exact over _ _ (by simpa using h)
 |succ n ih=>cases cs with |nil=>rfl |cons c cs=>simp [splice];exact ih cs (by simp at h;omega)
theorem Awe(cs:List AV)(n:Nat)(vs:List AV)(h:n+vs.length≤cs.length)(i:Nat)(d:AV):(splice cs n vs).getD i d=if n≤i∧i<n+vs.length then vs.getD (i - n) d else cs.getD i d:=by
 have over:∀(cs vs:List AV) (i:Nat),vs.length≤cs.length→(splice.over cs vs).getD i d=if i<vs.length then vs.getD i d else cs.getD i d:=by
  intro cs vs
  induction vs generalizing cs with
  |nil=>intro i _;cases cs<;>simp [splice.over]
  |cons v vs ih=>
   intro i h
   cases cs with
   |nil=>simp at h
   |cons c cs=>
    cases i with
    |zero=>simp [splice.over]
    |succ i=>simp only [splice.over,List.getD_cons_succ,List.length_cons,Nat.add_lt_add_iff_right];exact ih cs i (by simpa using h)
 induction n generalizing cs i with
 |zero=>
  have:=over cs vs i (by simpa using h)
  cases cs<;>simp only [splice,Nat.zero_le,true_and,Nat.zero_add,Nat.sub_zero]<;>exact this
 |succ n ih=>
  cases cs with
  |nil=>simp at h
  |cons c cs=>
   cases i with
   |zero=>simp [splice]
   |succ i=>
    simp only [splice,List.getD_cons_succ]
    rw [ih cs (by simp at h;omega)]
    have:(n+1≤i+1∧i+1<n+1+vs.length)↔(n≤i∧i<n+vs.length):=by omega
    simp only [this,Nat.add_sub_add_right]
def lay(off:Nat)(vs cells:Array Value):Array Value:=vs.zipIdx.foldl (fun cs (c,j)=>cs.setIfInBounds (off+j) c) cells
theorem A7z(off:Nat)(vs cells:Array Value):(lay off vs cells).size=cells.size∧∀i,off+vs.size≤cells.size→(lay off vs cells).getD i undef=if off≤i∧i<off+vs.size then vs.getD (i - off) undef else cells.getD i undef:=by
 have key:∀(l:List Value) (k:Nat) (cells:Array Value),((l.zipIdx k).foldl (fun cs (c,j)=>cs.setIfInBounds (off+j) c) cells).size=cells.size∧
  ∀i,off+k+l.length≤cells.size→((l.zipIdx k).foldl (fun cs (c,j)=>cs.setIfInBounds (off+j) c) cells).getD i undef=if off+k≤i∧i<off+k+l.length then l.getD (i - (off+k)) undef else cells.getD i undef:=by
  intro l
  induction l with
  |nil=>intro k cells;refine⟨by simp,fun i _=> ?_⟩;rw [if_neg (by simp only [List.length_nil];omega)];simp
  |cons v l ih=>
   intro k cells
   simp only [List.zipIdx_cons,List.foldl_cons]
   obtain⟨h1,h2⟩:=ih (k+1) (cells.setIfInBounds (off+k) v)
   refine⟨by rw [h1];simp,fun i hi=> ?_⟩
   simp only [List.length_cons]at hi ⊢
   rw [h2 i (by simp;omega)]
   by_cases hi0:i=off+k
   ·subst hi0
    rw [if_neg (by omega),if_pos (by omega)]
    have hlt:off+k<cells.size:=by omega
    simp [Array.getD_eq_getD_getElem?,hlt]
   ·by_cases hin:off+k≤i∧i<off+k+(l.length+1)
    ·rw [if_pos (by omega),if_pos hin]
     obtain⟨q,rfl⟩:∃q,i=off+k+1+q:=⟨i - (off+k+1),by omega⟩
     rw [show off+k+1+q - (off+(k+1))=q by omega,show off+k+1+q - (off+k)=q+1 by omega]
     simp
    ·rw [if_neg (by omega),if_neg hin]
     simp [Array.getD_eq_getD_getElem?,Ne.symm hi0]
 have:=key vs.toList 0 cells
 unfold lay
 rw [show vs.zipIdx.foldl (fun cs (c,j)=>cs.setIfInBounds (off+j) c) cells=(vs.toList.zipIdx 0).foldl (fun cs (c,j)=>cs.setIfInBounds (off+j) c) cells by
  rw [←Array.foldl_toList];simp]
 simpa using this
theorem Baf(g:G)(place:Nat→Option (Nat × Nat))(parts:List (Nat × Value))(Parts:List (Nat × AV))(cells:Array Value)(Cells Cells':List AV)
 (hl:parts.length=Parts.length)(hp:∀i,i<Parts.length→(parts.getD i (0,undef)).1=(Parts.getD i (0, .undef)).1∧RepA g (parts.getD i (0,undef)).2 (Parts.getD i (0, .undef)).2)
 (hc:cells.size=Cells.length)(hr:∀i,i<Cells.length→RepA g (cells.getD i undef) (Cells.getD i .undef))(h:Auj place Cells Parts=some Cells'):
 ∃cs,Instr.fill place cells parts=some cs∧cs.size=Cells'.length∧∀i,i<Cells'.length→RepA g (cs.getD i undef) (Cells'.getD i .undef):=by
 induction Parts generalizing parts cells Cells with
 |nil=>
  have:parts=[]:=List.eq_nil_of_length_eq_zero (by simpa using hl)
  subst this
  simp [Auj]at h
  subst h
  exact⟨cells,rfl,hc,hr⟩
 |cons P Ps ih=>
  obtain⟨i,V⟩:=P
  cases parts with
  |nil=>simp at hl
  |cons p ps=>
   obtain⟨i',v⟩:=p
   have h0:=hp 0 (by simp)
   simp only [List.getD_cons_zero]at h0
   obtain⟨rfl,hv⟩:=h0
   simp only [Auj]at h
   split at h
   ·simp at h
   ·rename_i off sz hpl
    split at h
    ·rename_i hok
     simp only [Bool.and_eq_true,Nat.ble_eq]at hok
     obtain⟨hfo,hlen,hle⟩:=hok
     have hlen:(flat V).length=sz:=by simpa using hlen
     obtain⟨hcs,hcr⟩:=Xw hv hfo
     obtain⟨hs1,hs2⟩:=A7z off v.cells cells
     have hfit:off+(flat V).length≤Cells.length:=by omega
     obtain⟨cs,he,hsz,hrep⟩:=ih ps (lay off v.cells cells) (splice Cells off (flat V)) (by simpa using hl)
      (fun k hk=>by have:=hp (k+1) (by simpa using hk);simpa using this) (by rw [hs1,Aad _ _ _ hfit,hc])
      (fun k hk=>by
       rw [Aad _ _ _ hfit]at hk
       rw [hs2 k (by omega),Awe _ _ _ hfit,hcs]
       split
       ·exact hcr _ (by omega)
       ·exact hr k hk) h
     refine⟨cs, ?_,hsz,hrep⟩
     simp only [Instr.fill,hpl]
     rw [if_neg (by simp;omega)]
     exact he
    ·simp at h
end Go.Proofs.Sim

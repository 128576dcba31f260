import Derived.Test.YtaggabcajidnnaaGreatDoorSimO
import Derived.Below
import Derived.ProofKit
import Derived.OpenShut
import Derived.Carry
import Derived.ChangeSame
namespace Go.Proofs.Sim
open Go Go.RowKit
theorem Axo {P:Program} {f:Nat} {fn:Func} (h1:P.funcs[f]? =some fn)(h2:Aux fn.body=true)(h3:(fn.name == "runtime.NumGoroutine")=false) {vs:Array Value} {w:World} {R:Value→World→Prop} (h:Calls P f vs w fun e w'=>∃v,e= .returned v∧R v w'):Comes1 P f vs w R:=by
 unfold Comes1
 have hcall:(callFunc f vs).run P w= .ok (.enter f vs) w:=by
  unfold callFunc
  have h3:¬fn.name= "runtime.NumGoroutine" :=by simpa using h3
  cases hb:fn.body with
  |none=>rw [hb]at h2;cases h2
  |some c=>simp [h1,hb,h3]
 rw [hcall]
 exact h
theorem Bff {g:G} {w w':World} (hs:Sat g [] w)(hb:Below w.heap.size w w'):Sat g [] w':=by
 refine⟨fun b o v hi=> ?_,fun n e h=>(by cases h),fun n m e e' b c l c' l' h=>(by cases h),fun b o ho=> ?_,fun n e b c l h=>(by cases h)⟩
 ·have hlt:=Az8 hs hi
  have:=hs.imm b o v hi
  simpa [World.cell?,hb.block b hlt] using this
 ·have:=hs.old b o ho
  rw [hb.block b (Array.getElem?_eq_some_iff.1 this).1]
  exact this
theorem Bd4 {g:G} {w w':World} (hb:Below w.heap.size w w'):Evo g [] w g [] w':=
 ⟨hb.os,hb.tape,hb.output,hb.size,fun _ _ _ h=>h,fun b hlt _=>⟨hb.block b hlt,fun _=>rfl⟩,fun n e b c l h=>(by cases h),fun n _ h=>⟨rfl,h⟩,rfl⟩
theorem Tn {P:Program} {f:Nat} {fn:Func} (h1:P.funcs[f]? =some fn)(h2:Aux fn.body=true)(h3:(fn.name == "runtime.NumGoroutine")=false)(args:List IV)(Q:AV→Heap→Prop)
 (h:∀g w vs,Y0 g vs (Dv args)→Sat g [] w→Calls P f vs w fun e w'=>∃v r,e= .returned v∧Below w.heap.size w w'∧RepA g v r∧Q r []):Call P f (Dv args) [] Q:=by
 refine⟨fun g w vs hv hs=>Axo h1 h2 h3 ((h g w vs hv hs).mono ?_)⟩
 rintro e w' ⟨v,r,rfl,hb,hr,hq⟩
 exact⟨v,rfl,g,r,[],Bd4 hb,Bff hs hb,hr,hq⟩
theorem Call.mono {P:Program} {f:Nat} {args:List AV} {h:Heap} {Q Q':AV→Heap→Prop} (hc:Call P f args h Q)(hq:∀r h',Q r h'→Q' r h'):Call P f args h Q':=
 ⟨fun g w vs hv hs=>(hc.ok g w vs hv hs).mono fun _v _w' ⟨g',r,h',e1,e2,e3,e4⟩=>⟨g',r,h',e1,e2,e3,hq _ _ e4⟩⟩
def Is(v:AV)(h:Heap):AV→Heap→Prop:=fun r h'=>r=v∧h'=h
theorem Call.use {P:Program} {f:Nat} {args:List AV} {h h':Heap} {v:AV} {Q:AV→Heap→Prop} (hc:Call P f args h (Is v h'))(hq:Q v h'):Call P f args h Q:=
 hc.mono fun r h2 ⟨e1,e2⟩=>by rw [e1,e2];exact hq
theorem Bpb {g:G} {vs:Array Value} {x:IV} (h:Y0 g vs (Dv [x])):∃v,vs= #[v]∧RepI g.imm v x:=by
 obtain⟨l⟩:=vs
 match l,h.1 with
 | [v],_=>exact⟨v,rfl,D5 (by have:=h.2 0 (by simp [Dv]);simpa [Dv] using this)⟩
theorem Bci {g:G} {vs:Array Value} {x y:IV} (h:Y0 g vs (Dv [x,y])):∃v u,vs= #[v,u]∧RepI g.imm v x∧RepI g.imm u y:=by
 obtain⟨l⟩:=vs
 match l,h.1 with
 | [v,u],_=>exact⟨v,u,rfl,D5 (by have:=h.2 0 (by simp [Dv]);simpa [Dv] using this),D5 (by have:=h.2 1 (by simp [Dv]);simpa [Dv] using this)⟩
theorem Ap3 {m:Nat→Nat→Option Value} {v:Value} {l:List UInt8} (h:RepI m v (.str l)):v= .string ⟨l.toArray⟩:=by
 cases h with |str s _ e=>subst e;rfl
theorem Bnm {P:Program} (L:List (Nat × AC × Nat × List ResultVar))(h:∀x,x∈L→Be P x.1 x.2.1.code x.2.2.1 x.2.2.2):∀f ac nt rs,Bbs L f=some (ac,nt,rs)→Be P f ac.code nt rs:=by
 induction L with
 |nil=>intro f ac nt rs e;cases e
 |cons x L ih=>
  obtain⟨m,y⟩:=x
  intro f ac nt rs e
  simp only [Bbs]at e
  split at e
  ·rename_i hm
   have:m=f:=by simpa using hm
   subst this
   injection e with e
   subst e
   exact h (m,ac,nt,rs) (by simp)
  ·exact ih (fun x hx=>h x (by simp [hx])) f ac nt rs e
theorem Hm(k:IntKind)(n:Int):rI (.imm (.int k n))=n:=rfl
theorem Pj(b:Bool):rB (.imm (.bool b))=b:=rfl
theorem Az(n:Int)(h1: -9223372036854775808≤n)(h2:n≤9223372036854775807):IntKind.i64.wrap n=n:=by
 simp [IntKind.wrap,IntKind.signed,IntKind.bits]
 omega
theorem Br.ite {b:Bool} {x y:Prop} (ht:b=true→x)(hf:b=false→y):Br b x y:=⟨ht,hf⟩
theorem Let.intro {α:Type} {v:α} {k:α→Prop} (h:k v):Let v k:=⟨fun _ e=>e ▸ h⟩
end Go.Proofs.Sim
namespace Go.Proofs.Sim
open Go Go.RowKit Go.ChangeShapes
def g0(W:World)(tab:TabOK (fun b o=>W.cell? ⟨b,o,none⟩) (fun b=>W.heap[b]?)):G:=⟨fun b o=>W.cell? ⟨b,o,none⟩,fun _=>none,fun b=>W.heap[b]?, tab⟩
theorem Bpr(W:World)(tab:TabOK (fun b o=>W.cell? ⟨b,o,none⟩) (fun b=>W.heap[b]?)):Sat (g0 W tab) [] W:=
 ⟨fun b o v h=>h,fun n e h=>(by cases h),fun n m e e' b c l c' l' h=>(by cases h),fun b o ho=>ho,fun n e b c l h=>(by cases h)⟩
theorem A14 {P:Program} {f:Nat} {fn:Func} (h1:P.funcs[f]? =some fn)(h2:Aux fn.body=true)(h3:(fn.name == "runtime.NumGoroutine")=false) {vs:Array Value} {w:World} {R:Value→World→Prop} (h:Comes1 P f vs w R):
 Calls P f vs w fun e w'=>∃v,e= .returned v∧R v w':=by
 unfold Comes1 at h
 have hcall:(callFunc f vs).run P w= .ok (.enter f vs) w:=by
  unfold callFunc
  have h3:¬fn.name= "runtime.NumGoroutine" :=by simpa using h3
  cases hb:fn.body with
  |none=>rw [hb]at h2;cases h2
  |some c=>simp [h1,hb,h3]
 rw [hcall]at h
 exact h
theorem A6r {g g':G} {w w':World} {h':Heap} (e:Evo g [] w g' h' w'):Below w.heap.size w w':=
 ⟨e.os,e.tape,e.output,e.size,fun b hb=>(e.frame b hb (fun n e' c l h=>by cases h)).1⟩
theorem Aqj {H:Type} {enc:TypeId × Value→H} {P:Program} (hl:laidOutB P=true) {W W':World} {sp':Nat→Bool} (hb:Below W.heap.size W W'):
 ∀(ts:List TypeId) {vs:List Value} {ds:List (DataW H)} {ps:List MemPlace},(∀t∈ts,P.readableRec t=true∧t<P.types.size)→DataW.TrodAll enc P W 0 (fun _=>true) true ts vs ds ps→
  (∀p∈ps,p.block<W.heap.size)→(∀p∈ps,sp' p.block=true)→DataW.TrodAll enc P W' 0 sp' true ts vs ds ps
 | [],vs,ds,ps,_,h,_,_=>by
   obtain⟨rfl,rfl,rfl⟩:=trodAll_nil h
   exact rfl
 |t::ts,vs,ds,ps,ht,h,hlt,hsp=>by
  obtain⟨v,vs',d,ds',p,q,rfl,rfl,rfl,h1,h2⟩:=trodAll_cons h
  obtain⟨r1,r2⟩:=ht t (by simp)
  refine trodAll_cons_mk (WideElems.Trod_stays hl r1 r2 h1 (fun x hx=>hb.same (hlt x (by simp [hx]))) (fun x hx=>hsp x (by simp [hx]))) ?_
  exact Aqj hl hb ts (fun t ht'=>ht t (by simp [ht'])) h2 (fun x hx=>hlt x (by simp [hx])) (fun x hx=>hsp x (by simp [hx]))
theorem Boj {H:Type} {enc:TypeId × Value→H} {P:Program} {f:Nat} {fn:Func} {tb:TypeId} {s:ChangeSpec} {apart fresh handsOn again:Bool} {W:World} {args:Array Value} {ds gs:List (DataW H)} {before:List MemPlace}
 (h1:P.funcs[f]? =some fn)(h2:Aux fn.body=true)(h3:(fn.name == "runtime.NumGoroutine")=false)(hl:laidOutB P=true)(hts:(fn.params.toList.all fun t=>P.readableRec t && decide (t<P.types.size))=true)
 (hr:fn.resultTypes= #[tb])(hb:P.underlying tb=some .bool)(hsv:s.vars=[])(hsr:(s.fn H (ds++gs)).results=[.lit (.bool true)])(hsa:(s.fn H (ds++gs)).args=ds)(hsvs:(s.fn H (ds++gs)).vars=[])
 (hW:DataW.Whole enc P fn.params.toList s.vars apart W args.toList ds gs before)
 (tab:TabOK (fun b o=>W.cell? ⟨b,o,none⟩) (fun b=>W.heap[b]?))(xs:List IV)(hx:Y0 (g0 W tab) args (Dv xs))(hc:Call P f (Dv xs) [] (Is (.imm (.bool true)) [])):
 Calls P f args W fun e W'=>∃v,e= .returned v∧s.post enc P fn apart fresh handsOn again W args v W':=by
 refine(A14 h1 h2 h3 (hc.ok (g0 W tab) W args hx (Bpr W tab))).mono ?_
 rintro e W' ⟨v,rfl,g',r,h',he,hs,hv,rfl,rfl⟩
 refine⟨v,rfl, ?_⟩
 have hbel:=A6r he
 obtain rfl:v= .bool true:=by
  have:=D5 hv
  cases this
  rfl
 have hW':=hW
 obtain⟨p,q,hA,hV,rfl,hfz,hnd⟩:=hW
 rw [hsv]at hV
 obtain⟨rfl,rfl⟩:gs=[]∧q=[]:=by
  cases gs with
  |nil=>exact⟨rfl,hV⟩
  |cons a b=>exact absurd hV (by simp [DataW.TrodVars])
 have hlt:∀x∈p++[],x.block<W.heap.size:=fun x hx=>by simpa using hW'.lt x hx
 have hts':∀t∈fn.params.toList,P.readableRec t=true∧t<P.types.size:=fun t ht=>by
  have:=List.all_eq_true.1 hts t ht
  simpa using this
 have hargs:∀sp:Nat→Bool,(∀x∈p++[],sp x.block=true)→DataW.TrodAll enc P W' 0 sp true fn.params.toList args.toList (s.fn H (ds++[])).args p:=by
  intro sp hsp
  rw [hsa]
  exact Aqj hl hbel _ hts' hA (fun x hx=>hlt x (by simp [hx])) (fun x hx=>hsp x (by simp [hx]))
 have hvars:∀sp:Nat→Bool,DataW.TrodVars enc P W' sp s.vars (s.fn H (ds++[])).vars []:=by
  intro sp
  rw [hsvs,hsv]
  rfl
 have hres:∀(b:Nat) (sp:Nat→Bool) (hd:Bool),DataW.TrodAll enc P W' b sp hd fn.resultTypes.toList ((Value.bool true).resultList fn.resultTypes.size) (s.fn H (ds++[])).results []:=by
  intro b sp hd
  rw [hsr,hr]
  exact trodAll_cons_mk (shut_bool hb _) trodAll_mk0
 refine⟨ds,[],p++[],[],p,[],hW',hres _ _ _,hargs _ (fun x hx=>by simpa using hlt x hx),hvars _,World.keptBut_mono (fun x hx=>⟨hx, .inr (by simpa using hx)⟩) (hbel.frame _),fun _=> ?_⟩
 refine⟨ok_one hr rfl (okWide_bool_mk hb true),_,_,([]++p)++[],⟨[]++p,[],trodAll_append (hargs _ (fun _ _=>rfl)) (hres _ _ _),hvars _,rfl, ?_, ?_⟩, ?_⟩
 ·intro b off hp
  rw [hbel.frozen (p:=⟨b,off,none⟩) (show b<W.heap.size from hlt (.cell b off) (by simpa using hp))]
  exact hfz b off (by simpa using hp)
 ·intro ha
  simpa using hnd ha
 ·intro x hx _
  simpa using hx
end Go.Proofs.Sim

import Derived.StillTail
namespace Go.Proofs.Sim
open Go
def Up(w w':World):Prop:=∀b,b<w.heap.size→w'.heap[b]? =w.heap[b]?
theorem Up.refl(w:World):Up w w:=fun _ _=>rfl
theorem Up.size {w w':World} (h:Up w w'):w.heap.size≤w'.heap.size:=by
 rcases Nat.lt_or_ge w'.heap.size w.heap.size with h1 |h1
 ·have:=h w'.heap.size h1
  rw [Array.getElem?_eq_none (Nat.le_refl _),Array.getElem?_eq_getElem h1]at this
  cases this
 ·exact h1
theorem Up.trans {a b c:World} (h:Up a b)(g:Up b c):Up a c:=fun k hk=>(g k (Nat.lt_of_lt_of_le hk h.size)).trans (h k hk)
theorem Up.cell {w w':World} (h:Up w w') {p:Addr} {v:Value} (hc:w.cell? p=some v):w'.cell? p=some v:=by
 have hlt:p.block<w.heap.size:=by
  rcases Nat.lt_or_ge p.block w.heap.size with h |h
  ·exact h
  ·simp [World.cell?,Array.getElem?_eq_none h]at hc
 unfold World.cell? at*
 rw [h p.block hlt]
 exact hc
section
variable {P:Program} {ops:Array Oper} {md:Region.Mode} {cl:Nat→Nat}
def R9(cl:Nat→Nat)(t:Nat):Bool:=match cl t with |0=>false |1=>false |2=>false |_=>true
def noI(cl:Nat→Nat):Nat→Nat→Bool
 |0,_=>true
 |n+1,i=> !(R9 cl i) && noI cl n (i+1)
def A5r(md:Region.Mode)(ops:Array Oper)(cl:Nat→Nat):Nat→Nat→Bool
 |0,_=>false
 |f+1,i=>(List.range ops.size).any fun j=>decide (i<j) && (Region.waitsFor md ops j i && (noI cl (j - (i+1)) (i+1) && (R9 cl j || A5r md ops cl f j)))
def Auk(md:Region.Mode)(ops:Array Oper)(cl:Nat→Nat)(i:Nat):Bool:=noI cl (ops.size - (i+1)) (i+1) || A5r md ops cl ops.size i
def Atc(md:Region.Mode)(ops:Array Oper)(cl:Nat→Nat):Bool:=(List.range ops.size).all fun t=> !(R9 cl t) || Auk md ops cl t
def Bbz(cl:Nat→Nat)(n k:Nat)(listed:Array Bool):Bool:=(List.range n).all fun t=> !(R9 cl t) || (listed.getD t false || decide (k<t))
def A78(md:Region.Mode)(ops:Array Oper)(cl:Nat→Nat):List Nat→Array Bool→Bool
 | [],listed=>(Region.ready md ops listed).isEmpty
 |k::r,listed=>(match cl k with
  |0=>(Region.ready md ops listed).contains k && Region.free md ops listed k
  |1=>(Region.ready md ops listed).contains k && (Region.free md ops listed k && (Auk md ops cl k && Bbz cl ops.size k listed))
  |_=>decide (Region.ready md ops listed=[k])) && A78 md ops cl r (listed.setIfInBounds k true)
structure MixInv (md:Region.Mode) (ops:Array Oper) (listed:Array Bool):Prop where
 size:listed.size=ops.size
 closed:∀j oj,ops[j]? =some oj→listed.getD j false=true→∀e∈oj.after,Region.binds md e=true→listed.getD e.on false=true
theorem MixInv.set {i:Nat} {listed:Array Bool} (inv:MixInv md ops listed)(hi:i∈Region.ready md ops listed):MixInv md ops (listed.setIfInBounds i true):=by
 obtain⟨_,oi,hoi,hall⟩:=mem_ready.1 hi
 refine⟨by simp [inv.size],fun j oj hj hl e he hb=> ?_⟩
 by_cases hij:i=j
 ·subst hij
  have:oj=oi:=Option.some.inj (hj.symm.trans hoi)
  subst this
  exact getD_set_true (hall e he hb)
 ·rw [getD_set_ne false hij]at hl
  exact getD_set_true (inv.closed j oj hj hl e he hb)
theorem Ax2:∀(n i:Nat),noI cl n i=true→∀t,i≤t→t<i+n→R9 cl t=false
 |0,i,_,t,h1,h2=>by omega
 |n+1,i,h,t,h1,h2=>by
  simp only [noI,Bool.and_eq_true,Bool.not_eq_true']at h
  by_cases e:t=i
  ·subst e;exact h.1
  ·exact Ax2 n (i+1) h.2 t (by omega) (by omega)
theorem held(hc:Atc md ops cl=true) {listed:Array Bool} (inv:MixInv md ops listed):∀(d i:Nat),ops.size - i=d→Auk md ops cl i=true→listed.getD i true=false→∀t,i<t→R9 cl t=true→t∉Region.ready md ops listed:=by
 intro d
 induction d using Nat.strongRecOn with
 |_ d ih=>
 intro i hd hh hun t hit hti hr
 obtain⟨_,ot,hot,hall⟩:=mem_ready.1 hr
 have htlt:t<ops.size:=(Array.getElem?_eq_some_iff.1 hot).1
 have key:∀(f i:Nat),ops.size - i≤d→A5r md ops cl f i=true→listed.getD i true=false→i<t→False:=by
  intro f
  induction f with
  |zero=>intro i _ h _ _;cases h
  |succ f ihf=>
   intro i hdi h hun hit
   simp only [A5r,List.any_eq_true,List.mem_range,Bool.and_eq_true,decide_eq_true_eq,Bool.or_eq_true]at h
   obtain⟨j,hj,hij,hw,hno,hjj⟩:=h
   obtain⟨oj,hoj,e,he,hb,hon⟩:=Region.waitsFor_spec hw
   have htj:j≤t:=by
    rcases Nat.lt_or_ge t j with h |h
    ·have:=Ax2 _ _ hno t (by omega) (by omega)
     rw [this]at hti;cases hti
    ·exact h
   have hjun:listed.getD j true=false:=by
    cases hl:listed.getD j false with
    |true=>
     have h2:=inv.closed j oj hoj hl e he hb
     rw [hon,getD_both hun]at h2
     cases h2
    |false=>exact getD_in (by rw [inv.size];exact hj) hl
   by_cases hjt:j=t
   ·subst hjt
    have:oj=ot:=Option.some.inj (hoj.symm.trans hot)
    subst this
    have h2:=hall e he hb
    rw [hon,getD_both hun]at h2
    cases h2
   ·rcases hjj with hjI |hjc
    ·have hh:=List.all_eq_true.1 hc j (List.mem_range.2 hj)
     rw [hjI]at hh
     simp only [Bool.not_true,Bool.false_or]at hh
     exact ih (ops.size - j) (by omega) j rfl hh hjun t (by omega) hti hr
    ·exact ihf j (by omega) hjc hjun (by omega)
 unfold Auk at hh
 simp only [Bool.or_eq_true]at hh
 rcases hh with hh |hh
 ·have:=Ax2 _ _ hh t (by omega) (by omega)
  rw [this]at hti;cases hti
 ·exact key _ i (by omega) hh hun hit
def Ans(P:Program)(ops:Array Oper)(C:World→Prop)(o:Oper)(v:Value)(a:Act):Prop:=
 (Region.wanted o (yielded ops a.tmps)=true∧∀w',C w'→(execOp a.eval o).run P w'= .ok (.value v) w')∨(Region.wanted o (yielded ops a.tmps)=false∧v=undef)
theorem Ans.mono {C D:World→Prop} {o:Oper} {v:Value} {a:Act} (h:Ans P ops C o v a)(g:∀w,D w→C w):Ans P ops D o v a:=h.imp (fun h=>⟨h.1,fun w' hw=>h.2 w' (g w' hw)⟩) id
theorem Ans.same {C:World→Prop} {o:Oper} {v:Value} {a a':Act} (h:Ans P ops C o v a)(he:execOp a'.eval o=execOp a.eval o)(hw:Region.wanted o (yielded ops a'.tmps)=Region.wanted o (yielded ops a.tmps)):Ans P ops C o v a':=by
 unfold Ans at*
 rw [he,hw]
 exact h
theorem Ans.wpOp {i:Nat} {o:Oper} {v:Value} {a:Act} {w:World} {Q:Exit→Act→World→Prop} (hi:ops[i]? =some o) {C:World→Prop} (hy:Ans P ops C o v a)(hC:C w) {K:Act→World→Prop} (h:K (a.put o.dst v) w):wpOp P ops Q i K a w:=by
 unfold Go.wpOp
 rcases hy with hy |⟨hy,rfl⟩
 ·simp only [hi,hy.1,if_true,Oper.wp,hy.2 w hC,Oper.upon]
  exact .inl h
 ·simp only [hi,hy]
  exact h
theorem A06 {j:Nat} {oi oj:Oper} {v:Value} {Q:Exit→Act→World→Prop} (hj:ops[j]? =some oj)(hap:oi.apart ops oj=true)(hsj:∀cs b,oj.op≠ .select cs b)(hQ:∀c a w,¬Q (.panic c) a w)
 {K:Act→World→Prop} {Y:Act→Prop} {a:Act} {w:World} (keep:∀u,Y (a.put oj.dst u))(keepD:∀d u,Y (({ a with defers:=d::a.defers } :Act).put oj.dst u))(h:wpOp P ops Q j K (a.put oi.dst v) w):
 wpOp P ops Q j (fun a' w'=>Y a'∧K (a'.put oi.dst v) w') a w:=by
 obtain⟨h1,h2,h3⟩:=Oper.apart_spec hap
 unfold wpOp at*
 simp only [hj]at*
 rw [wanted_put oj a oi.dst v h1]at h
 split
 ·rename_i hw
  simp only [hw,if_true]at h
  rcases h with h |⟨hasks,hlets⟩
  case inr=>exact .inr ⟨by unfold Oper.asks at *; rw [execOp_put oj hsj a oi.dst v h1]at hasks;exact hasks,hlets⟩
  refine .inl ?_
  unfold Oper.wp at*
  rw [execOp_put oj hsj a oi.dst v h1]at h
  generalize (execOp a.eval oj).run P w=r at*
  cases r with
  |ok n w'=>
   cases n<;>simp only [Oper.upon]at h ⊢
   case value u=>exact⟨keep u,by rw [←Act.put_comm a v u h2];exact h⟩
   case skip=>exact⟨keep _,by rw [←Act.put_comm a v undef h2];exact h⟩
   case defer d=>
    refine⟨keepD d _, ?_⟩
    rw [←Act.put_comm _ v undef h2, ←Act.put_defers]
    exact h
   case enter f args=>
    refine Calls.mono h fun e w'' he=> ?_
    cases e with
    |returned u=>exact⟨keep u,by rw [←Act.put_comm a v u h2];exact he⟩
    |panicked c=>exact absurd he (hQ _ _ _)
    |outgrown=>exact he
   case row row args=>exact Rows.mono h fun u w'' he=>⟨keep u,by rw [←Act.put_comm a v u h2];exact he⟩
  |halt x w'=>
   cases x<;>simp only [Oper.upon]at h ⊢
   case panic u=>exact absurd h (hQ _ _ _)
 ·rename_i hw
  simp only [hw]at h
  exact⟨keep _,by rw [←Act.put_comm a v undef h2];exact h⟩
def J3(P:Program)(md:Region.Mode)(ops:Array Oper)(cl:Nat→Nat)(R:World→World→Prop)(Q:Exit→Act→World→Prop):Nat→Array Bool→Act→World→Prop
 |0,listed,a,w=>Region.ready md ops listed=[]∧Q .normal a w
 |fuel+1,listed,a,w=>
  (Region.ready md ops listed=[]→Q .normal a w)∧
  ∀i∈Region.ready md ops listed,match cl i with
   |0=>∃o v,ops[i]? =some o∧Ans P ops (fun w'=>w'=w) o v a∧J3 P md ops cl R Q fuel (listed.setIfInBounds i true) (a.put o.dst v) w
   |1=>∃o v,ops[i]? =some o∧Ans P ops (fun w'=>w'=w) o v a∧J3 P md ops cl R Q fuel (listed.setIfInBounds i true) (a.put o.dst v) w
   |2=>wpOp P ops Q i (fun a' w'=>R w w'∧J3 P md ops cl R Q fuel (listed.setIfInBounds i true) a' w') a w
   |_=>wpOp P ops Q i (J3 P md ops cl R Q fuel (listed.setIfInBounds i true)) a w
theorem Sc {R:World→World→Prop} {Q:Exit→Act→World→Prop} :∀(fuel:Nat) (listed:Array Bool) (a:Act) (w:World),J3 P md ops cl R Q fuel listed a w→wpAny P md ops Q fuel listed a w
 |0,_,_,_,h=>h
 |fuel+1,listed,a,w,h=>by
  refine⟨h.1,fun i hi=> ?_⟩
  have h2:=h.2 i hi
  split at h2
  ·obtain⟨o,v,ho,hy,hk⟩:=h2
   exact hy.wpOp ho rfl (Sc fuel _ _ _ hk)
  ·obtain⟨o,v,ho,hy,hk⟩:=h2
   exact hy.wpOp ho rfl (Sc fuel _ _ _ hk)
  ·exact wpOp_mono (fun a' w' h'=>Sc fuel _ _ _ h'.2) h2
  ·exact wpOp_mono (fun a' w' h'=>Sc fuel _ _ _ h') h2
def Rb(P:Program)(ops:Array Oper)(cl:Nat→Nat)(R:World→World→Prop)(Q:Exit→Act→World→Prop):List Nat→Act→World→Prop
 | [],a,w=>Q .normal a w
 |k::r,a,w=>match cl k with
  |0=>∃o v,ops[k]? =some o∧Ans P ops (fun _=>True) o v a∧Rb P ops cl R Q r (a.put o.dst v) w
  |1=>∃o v,ops[k]? =some o∧Ans P ops (R w) o v a∧Rb P ops cl R Q r (a.put o.dst v) w
  |2=>wpOp P ops Q k (fun a' w'=>R w w'∧Rb P ops cl R Q r a' w') a w
  |_=>wpOp P ops Q k (Rb P ops cl R Q r) a w
theorem Alg {R:World→World→Prop} (Rr:∀w,R w w)(Rt:∀a b c,R a b→R b c→R a c) {Q:Exit→Act→World→Prop} {i:Nat} {oi:Oper} {v:Value} (late:Bool)(hi:ops[i]? =some oi)(hcl:cl i=0∨cl i=1)(hsel:∀(j:Nat) (o:Oper) cs b,ops[j]? =some o→o.op≠ .select cs b)(hQ:∀c a w,¬Q (.panic c) a w)
 (hno:late=false→∀(listed:Array Bool),MixInv md ops listed→listed.getD i true=false→(∀t,R9 cl t=true→listed.getD t false=true∨i<t∨ops.size≤t)→∀t,R9 cl t=true→t∉Region.ready md ops listed):
 ∀(fuel:Nat) (listed:Array Bool) (a:Act) (w:World),MixInv md ops listed→(late=false→∀t,R9 cl t=true→listed.getD t false=true∨i<t∨ops.size≤t)→
  (∀j oj,ops[j]? =some oj→j≠i→listed.getD j true=false→(∀e∈oj.after,Region.binds md e=true→e.on≠i)→oi.apart ops oj=true)→
  i∈Region.ready md ops listed→Ans P ops (fun w'=>late=true∨R w w') oi v a→
  J3 P md ops cl R Q fuel (listed.setIfInBounds i true) (a.put oi.dst v) w→J3 P md ops cl R Q (fuel+1) listed a w:=by
 intro fuel
 have fin:∀(fuel:Nat) (listed:Array Bool) (a:Act) (w:World),Ans P ops (fun w'=>late=true∨R w w') oi v a→J3 P md ops cl R Q fuel (listed.setIfInBounds i true) (a.put oi.dst v) w→
  match cl i with
  |0=>∃o v,ops[i]? =some o∧Ans P ops (fun w'=>w'=w) o v a∧J3 P md ops cl R Q fuel (listed.setIfInBounds i true) (a.put o.dst v) w
  |1=>∃o v,ops[i]? =some o∧Ans P ops (fun w'=>w'=w) o v a∧J3 P md ops cl R Q fuel (listed.setIfInBounds i true) (a.put o.dst v) w
  |2=>wpOp P ops Q i (fun a' w'=>R w w'∧J3 P md ops cl R Q fuel (listed.setIfInBounds i true) a' w') a w
  |_=>wpOp P ops Q i (J3 P md ops cl R Q fuel (listed.setIfInBounds i true)) a w:=by
  intro fuel listed a w hy H
  have h1:Ans P ops (fun w'=>w'=w) oi v a:=hy.mono fun w' e=> .inr (by subst e;exact Rr _)
  rcases hcl with e |e<;>rw [e]<;>exact⟨oi,v,hi,h1,H⟩
 induction fuel with
 |zero=>
  intro listed a w inv _ _ hr hy H
  refine⟨fun h=>(by rw [h]at hr;cases hr),fun j hj=> ?_⟩
  by_cases hji:j=i
  ·subst hji;exact fin 0 listed a w hy H
  ·have:=ready_mono hj hji
   rw [H.1]at this
   cases this
 |succ fuel ih=>
  intro listed a w inv hlt hfree hr hy H
  refine⟨fun h=>(by rw [h]at hr;cases hr),fun j hj=> ?_⟩
  by_cases hji:j=i
  ·subst hji;exact fin _ listed a w hy H
  ·have h1:=H.2 j (ready_mono hj hji)
   obtain⟨hjun,oj,hoj,hall⟩:=mem_ready.1 hj
   have hun:=(mem_ready.1 hr).1
   have hnot:∀e∈oj.after,Region.binds md e=true→e.on≠i:=fun e he hb heq=>by
    have h1:=hall e he hb
    rw [heq,getD_both hun]at h1
    cases h1
   have hap:=hfree j oj hoj hji hjun hnot
   obtain⟨p1,p2,p3⟩:=Oper.apart_spec hap
   have hfree':∀k ok,ops[k]? =some ok→k≠i→(listed.setIfInBounds j true).getD k true=false→
    (∀e∈ok.after,Region.binds md e=true→e.on≠i)→oi.apart ops ok=true:=fun k ok hk hki hun hno=>by
    refine hfree k ok hk hki ?_ hno
    by_cases hjk:j=k
    ·subst hjk;exact hjun
    ·rw [getD_set_ne true hjk]at hun;exact hun
   have hlt':late=false→∀t,R9 cl t=true→(listed.setIfInBounds j true).getD t false=true∨i<t∨ops.size≤t:=fun hl t ht=>(hlt hl t ht).imp getD_set_true id
   have keepC:∀(C:World→Prop) (a:Act),Ans P ops C oi v a→∀u,Ans P ops C oi v (a.put oj.dst u):=fun C a hy u=>hy.same (execOp_put oi (fun cs b=>hsel i oi cs b hi) a oj.dst u p3) (wanted_put oi a oj.dst u p3)
   have keepD:∀(C:World→Prop) (d:Deferred) (u:Value),Ans P ops C oi v a→Ans P ops C oi v (({ a with defers:=d::a.defers } :Act).put oj.dst u):=fun C d u hy=>keepC C ({ a with defers:=d::a.defers } :Act) (hy.same rfl rfl) u
   have next:∀a' w',(late=true∨R w w')→Ans P ops (fun w''=>late=true∨R w w'') oi v a'→J3 P md ops cl R Q fuel ((listed.setIfInBounds i true).setIfInBounds j true) (a'.put oi.dst v) w'→J3 P md ops cl R Q (fuel+1) (listed.setIfInBounds j true) a' w':=by
    intro a' w' hup hy' H'
    refine ih (listed.setIfInBounds j true) a' w' (inv.set hj) hlt' hfree' (ready_mono hr (Ne.symm hji)) (hy'.mono fun w'' hw=> ?_) (by rw [Array.setIfInBounds_comm _ _ hji];exact H')
    rcases hup with h |h
    ·exact .inl h
    ·exact hw.imp id fun g=>Rt _ _ _ h g
   have still:(∃o u,ops[j]? =some o∧Ans P ops (fun w'=>w'=w) o u (a.put oi.dst v)∧J3 P md ops cl R Q fuel ((listed.setIfInBounds i true).setIfInBounds j true) ((a.put oi.dst v).put o.dst u) w)→
    ∃o u,ops[j]? =some o∧Ans P ops (fun w'=>w'=w) o u a∧J3 P md ops cl R Q (fuel+1) (listed.setIfInBounds j true) (a.put o.dst u) w:=by
    rintro⟨o,u,ho,hu,hk⟩
    have:o=oj:=Option.some.inj (ho.symm.trans hoj)
    subst this
    refine⟨o,u,ho,hu.same (execOp_put o (fun cs b=>hsel j o cs b hoj) a oi.dst v p1).symm (wanted_put o a oi.dst v p1).symm,next _ w (.inr (Rr w)) (keepC _ a hy u) ?_⟩
    rw [←Act.put_comm a v u p2]
    exact hk
   split at h1
   ·exact still h1
   ·exact still h1
   ·rename_i hc
    have h2:=A06 (Y:=fun a'=>Ans P ops (fun w''=>late=true∨R w w'') oi v a') hoj hap (fun cs b=>hsel j oj cs b hoj) hQ (fun u=>keepC _ a hy u) (fun d u=>keepD _ d u hy) h1
    exact wpOp_mono (fun a' w' h3=>⟨h3.2.1,next a' w' (.inr h3.2.1) h3.1 h3.2.2⟩) h2
   ·rename_i h01 h02 h03
    have hjI:R9 cl j=true:=by
     unfold R9
     split
     ·rename_i e;exact absurd e h01
     ·rename_i e;exact absurd e h02
     ·rename_i e;exact absurd e h03
     ·rfl
    have hl:late=true:=by
     cases hl:late with
     |true=>rfl
     |false=>exact absurd hj (hno hl listed inv hun (hlt hl) j hjI)
    have h2:=A06 (Y:=fun a'=>Ans P ops (fun w''=>late=true∨R w w'') oi v a') hoj hap (fun cs b=>hsel j oj cs b hoj) hQ (fun u=>keepC _ a hy u) (fun d u=>keepD _ d u hy) h1
    have h3:=wpOp_mono (fun a' w' h3=>next a' w' (.inl hl) h3.1 h3.2) h2
    generalize hx:cl j=x at h01 h02 h03 ⊢
    match x,h01,h02,h03 with
    |0,h,_,_=>exact absurd rfl h
    |1,_,h,_=>exact absurd rfl h
    |2,_,_,h=>exact absurd rfl h
    |n+3,_,_,_=>exact h3
theorem Anv {R:World→World→Prop} (Rr:∀w,R w w)(Rt:∀a b c,R a b→R b c→R a c) {Q:Exit→Act→World→Prop} (hsel:Region.noSelect ops=true)(hc:Atc md ops cl=true)(hQ:∀c a w,¬Q (.panic c) a w):
 ∀(ord:List Nat) (listed:Array Bool) (a:Act) (w:World),MixInv md ops listed→A78 md ops cl ord listed=true→Rb P ops cl R Q ord a w→J3 P md ops cl R Q ord.length listed a w
 | [],listed,a,w,_,hB,h=>⟨by simpa [A78] using hB,h⟩
 |k::r,listed,a,w,inv,hB,h=>by
  simp only [A78,Bool.and_eq_true]at hB
  obtain⟨hB1,hB2⟩:=hB
  simp only [Rb]at h
  have single:Region.ready md ops listed=[k]→∀X:Nat→Prop,X k→(∀i∈Region.ready md ops listed,X i):=by
   intro hr X hx i hi
   rw [hr]at hi
   have:i=k:=by simpa using hi
   subst this
   exact hx
  split at hB1
  ·rename_i hk
   simp only [Bool.and_eq_true]at hB1
   rw [hk]at h
   obtain⟨o,v,ho,hy,hn⟩:=h
   have hr:k∈Region.ready md ops listed:=by simpa using hB1.1
   exact Alg Rr Rt true ho (.inl hk) (Region.noSelect_spec hsel) hQ (fun h=>by cases h) r.length listed a w inv (fun h=>by cases h) (Region.free_spec ho hB1.2) hr (hy.mono fun w' _=>trivial) (Anv Rr Rt hsel hc hQ r _ _ w (inv.set hr) hB2 hn)
  ·rename_i hk
   simp only [Bool.and_eq_true]at hB1
   rw [hk]at h
   obtain⟨o,v,ho,hy,hn⟩:=h
   have hr:k∈Region.ready md ops listed:=by simpa using hB1.1
   obtain⟨_,hf,hh,hlt⟩:=hB1
   refine Alg Rr Rt false ho (.inr hk) (Region.noSelect_spec hsel) hQ (fun _ listed' inv' hun hlt' t ht hr'=> ?_) r.length listed a w inv (fun _ t ht=> ?_) (Region.free_spec ho hf) hr (hy.mono fun w' hw=>hw.resolve_left (by simp)) (Anv Rr Rt hsel hc hQ r _ _ w (inv.set hr) hB2 hn)
   ·rcases hlt' t ht with h |h |h
    ·obtain⟨h0,_⟩:=mem_ready.1 hr'
     rw [getD_both h0]at h
     cases h
    ·exact held hc inv' _ k rfl hh hun t h ht hr'
    ·obtain⟨_,ot,hot,_⟩:=mem_ready.1 hr'
     have:=(Array.getElem?_eq_some_iff.1 hot).1
     omega
   ·rcases Nat.lt_or_ge t ops.size with h |h
    ·have:=List.all_eq_true.1 hlt t (List.mem_range.2 h)
     rw [ht]at this
     simp only [Bool.not_true,Bool.false_or,Bool.or_eq_true,decide_eq_true_eq]at this
     exact this.imp id .inl
    ·exact .inr (.inr h)
  ·rename_i h01 h02
   have hr:Region.ready md ops listed=[k]:=by simpa using hB1
   have hrk:k∈Region.ready md ops listed:=by rw [hr];simp
   refine⟨fun h=>(by rw [hr]at h;cases h),single hr _ ?_⟩
   generalize hx:cl k=x at h01 h02 h ⊢
   match x,h01,h02,h with
   |0,h,_,_=>exact absurd rfl h
   |1,_,h,_=>exact absurd rfl h
   |2,_,_,h=>exact wpOp_mono (fun a' w' h'=>⟨h'.1,Anv Rr Rt hsel hc hQ r _ a' w' (inv.set hrk) hB2 h'.2⟩) h
   |n+3,_,_,h=>exact wpOp_mono (fun a' w' h'=>Anv Rr Rt hsel hc hQ r _ a' w' (inv.set hrk) hB2 h') h
def A28(ops:Array Oper)(cl:Nat→Nat)(ord:List Nat):Bool:=
 Region.noSelect ops && (decide (ord.length=ops.size) && (Atc .any ops cl && A78 .any ops cl ord (Array.replicate ops.size false)))
theorem Aqk {R:World→World→Prop} (Rr:∀w,R w w)(Rt:∀a b c,R a b→R b c→R a c) {id:Nat} {Q:Exit→Act→World→Prop} {a:Act} {w:World} (cl:Nat→Nat)(ord:List Nat)(hm:P.follows .mixedOrders=true)(hB:A28 ops cl ord=true)(hQ:∀c a w,¬Q (.panic c) a w)
 (h:Rb P ops cl R Q ord a { w with drawn:=w.drawn+1 }):(Code.region id ops true).wp P Q a w:=by
 simp only [A28,Bool.and_eq_true,decide_eq_true_eq]at hB
 obtain⟨hsel,hlen,hc,hmix⟩:=hB
 refine wp_region_any hm ?_
 have inv0:MixInv .any ops (Array.replicate ops.size false):=⟨by simp,fun j oj _ hl=>(by rw [getD_replicate_false]at hl;cases hl)⟩
 have:=Sc _ _ _ _ (Anv Rr Rt hsel hc hQ ord _ a _ inv0 hmix h)
 rwa [hlen]at this
theorem A5o {R:World→World→Prop} (_Rr:∀w,R w w) {id:Nat} {Q:Exit→Act→World→Prop} {a:Act} {w:World} (cl:Nat→Nat)(hm:P.follows .mixedOrders=true)(_hQ:∀c a w,¬Q (.panic c) a w)
 (h:J3 P .any ops cl R Q ops.size (Array.replicate ops.size false) a { w with drawn:=w.drawn+1 }):(Code.region id ops true).wp P Q a w:=wp_region_any hm (Sc _ _ _ _ h)
end
end Go.Proofs.Sim

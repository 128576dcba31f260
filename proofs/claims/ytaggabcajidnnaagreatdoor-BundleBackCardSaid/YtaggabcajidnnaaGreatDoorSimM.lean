import Derived.Test.YtaggabcajidnnaaGreatDoorSimL
namespace Go.Proofs.Sim
open Go
theorem Acz(n:Nm)(k:Nm→Prop):fNm n k=k n:=by
 induction n generalizing k with
 |loc t=>rfl
 |cell n j ih=>exact ih _
 |arg i=>rfl
 |up n ih=>exact ih _
 |sub t n ih=>exact ih _
theorem Bnf(x:IV)(k:IV→Prop):fIV x k=k x:=by cases x<;>rfl
mutual
theorem Aj7:∀(a:AV) (k:AV→Prop),Yh a k=k a
 | .imm x,k=>by simp only [Yh,Bnf]
 | .ptr n o,k=>by simp only [Yh,Acz]
 | .elt n sz i j,k=>by simp only [Yh,Acz]
 | .own n,k=>by simp only [Yh,Acz]
 | .pin c,k=>by simp only [Yh]
 | .fn f caps,k=>by simp only [Yh,Anr caps]
 | .agg l,k=>by simp only [Yh,Anr l]
 | .tup l,k=>by simp only [Yh,Anr l]
 | .when t b want a,k=>by simp only [Yh,Aj7 a]
 | .undef,k=>by simp only [Yh]
 | .data n,k=>by simp only [Yh,Acz]
 | .win n sz off len,k=>by simp only [Yh,Acz]
 | .mp n,k=>by simp only [Yh,Acz]
 | .self n,k=>by simp only [Yh,Acz]
 | .meth f n o,k=>by simp only [Yh,Acz]
theorem Anr:∀(l:List AV) (k:List AV→Prop),Ath l k=k l
 | [],k=>by simp only [Ath]
 |a::r,k=>by simp only [Ath,Aj7 a,Anr r]
end
theorem Bng(l:List (Nat × AV))(k:List (Nat × AV)→Prop):fTm l k=k l:=by
 induction l generalizing k with
 |nil=>rfl
 |cons x l ih=>obtain⟨t,a⟩:=x;simp only [fTm,Aj7,ih]
theorem Bkq(e:Entry)(k:Entry→Prop):Bg5 e k=k e:=by
 cases e with
 |blk ty cells=>simp only [Bg5,Anr]
 |arr ty w sz rows=>rfl
 |sit s p=>rfl
 |map l=>rfl
theorem Bne(l:Heap)(k:Heap→Prop):fHp l k=k l:=by
 induction l generalizing k with
 |nil=>rfl
 |cons x l ih=>obtain⟨t,a⟩:=x;simp only [fHp,Acz,Bkq,ih]
theorem Xx(o:Op)(v:AV)(k:AV→Prop):Aer o v k=k v:=by
 unfold Aer
 split
 ·exact propext ⟨fun h=>h.h _ rfl,fun h=>⟨fun x e=>e ▸ h⟩⟩
 ·exact propext ⟨fun h=>h.h _ rfl,fun h=>⟨fun x e=>e ▸ h⟩⟩
 ·exact Aj7 _ _
theorem Od(st:St)(k:St→Prop):Zr st k=k st:=by
 obtain⟨tm,hp⟩:=st
 simp only [Zr,Bng,Bne]
def WI(rest:List Oper)(tm:List (Nat × AV)):Prop:=∀u t b w x,lk tm u= .when t b w x→lk tm t= .imm (.bool b)∧Acs t rest=0∧NoW x
theorem WI.winv {rest:List Oper} {tm:List (Nat × AV)} (h:WI rest tm):Ao2 tm:=fun u t b w x e=>(h u t b w x e).1
theorem Ae6 {t:Nat} {o:Oper} {r:List Oper} (h:Acs t (o::r)=0):o.dst≠some t∧Acs t r=0:=by
 simp only [Acs]at h
 refine⟨fun e=> ?_,by omega⟩
 rw [e]at h
 simp at h
theorem WI.step {o:Oper} {r:List Oper} {tm tm':List (Nat × AV)} (h:WI (o::r) tm)(ht:TmS tm tm' o.dst):WI r tm':=by
 intro u t b w x e
 have key:lk tm u= .when t b w x:=by
  rcases ht u with ⟨_,h1⟩ |h1 |⟨h1,_⟩
  ·exact absurd e (h1 t b w x)
  ·rw [←h1];exact e
  ·rw [h1]at e;cases e
 obtain⟨h1,h2,h3⟩:=h u t b w x key
 obtain⟨h4,h5⟩:=Ae6 h2
 refine⟨?_,h5,h3⟩
 rcases ht t with ⟨h6,_⟩ |h6 |⟨_,h6⟩
 ·exact absurd h6 h4
 ·rw [h6];exact h1
 ·exact absurd h1 (h6 _)
theorem WI.weak {o:Oper} {r:List Oper} {tm:List (Nat × AV)} (h:WI (o::r) tm):WI r tm:=fun u t b w x e=>⟨(h u t b w x e).1,(Ae6 (h u t b w x e).2.1).2,(h u t b w x e).2.2⟩
theorem WI.putW {o:Oper} {r:List Oper} {tm:List (Nat × AV)} {hp:Heap} (h:WI (o::r) tm)(t:Nat)(b w:Bool)(v:AV)(ht:lk tm t= .imm (.bool b))(hc:Acs t (o::r)=0):WI r (St.put ⟨tm,hp⟩ o.dst (.when t b w (noW v))).tm:=by
 obtain⟨h4,h5⟩:=Ae6 hc
 intro u t' b' w' x e
 cases hd:o.dst with
 |none=>rw [hd]at e;exact h.weak u t' b' w' x e
 |some d=>
  rw [hd]at e
  simp only [St.put,Fu]at e ⊢
  by_cases hu:d=u
  ·rw [if_pos hu]at e
   injection e with e1 e2 e3 e4
   subst e1;subst e2;subst e3;subst e4
   have:d≠t:=fun e=>h4 (by rw [hd,e])
   rw [if_neg this]
   exact⟨ht,h5,Jq _⟩
  ·rw [if_neg hu]at e
   obtain⟨h1,h2,h3⟩:=h u t' b' w' x e
   obtain⟨h6,h7⟩:=Ae6 h2
   have:d≠t':=fun e=>h6 (by rw [hd,e])
   rw [if_neg this]
   exact⟨h1,h7,h3⟩
theorem Ap4(t:Nat)(b:Bool)(t':Nat)(b' w:Bool)(a:AV):Auw t b (.when t' b' w a)=if t=t' then(if b=w then a else Alo)else .when t' b' w a:=by
 simp only [Auw]
 by_cases h:t=t'
 ·subst h
  simp
  cases b<;>cases w<;>rfl
 ·have:Nat.beq t t'=false:=by
   cases hb:Nat.beq t t' with
   |false=>rfl
   |true=>exact absurd (Nat.eq_of_beq_eq_true hb) h
  rw [if_neg h,this]
theorem Bkz(t:Nat)(b:Bool)(tm:List (Nat × AV))(u:Nat):lk (A3f t b tm) u=Auw t b (lk tm u):=by
 induction tm with
 |nil=>simp [A3f,lk,Auw]
 |cons x tm ih=>
  obtain⟨m,v⟩:=x
  simp only [A3f,Fu]
  by_cases hm:m=u
  ·rw [if_pos hm,if_pos hm]
  ·rw [if_neg hm,if_neg hm];exact ih
theorem A2i(t:Nat)(b:Bool)(st:St)(u:Nat):lk (Ah9 t b st).tm u=if t=u then .imm (.raw (.bool b))else Auw t b (lk st.tm u):=by
 show lk ((t, .imm (.raw (.bool b)))::A3f t b st.tm) u=_
 rw [Fu,Bkz]
theorem Akk(g:G):RepA g undef Alo:= .imm _ _ (.raw _)
theorem Aup:NoW Alo:=fun _ _ _ _ h=>by cases h
theorem NoW.of {a:AV} (h:isW a=false):NoW a:=by
 intro t b w x e
 subst e
 cases h
theorem WI.know {r:List Oper} {st:St} (h:WI r st.tm)(t:Nat)(b:Bool):WI r (Ah9 t b st).tm:=by
 intro u t' b' w x e
 rw [A2i]at e ⊢
 split at e
 ·cases e
 ·have hx:lk st.tm u= .when t' b' w x∧t≠t':=by
   cases hy:lk st.tm u with
   |when t2 b2 w2 a2=>
    rw [hy,Ap4]at e
    split at e
    ·split at e
     ·exact absurd e ((h u _ _ _ _ hy).2.2 _ _ _ _)
     ·cases e
    ·rename_i hne
     injection e with e1 e2 e3 e4
     subst e1;subst e2;subst e3;subst e4
     exact⟨rfl,hne⟩
   |_=>rw [hy]at e;cases e
  obtain⟨h1,h2,h3⟩:=h u t' b' w x hx.1
  rw [if_neg hx.2,h1]
  exact⟨rfl,h2,h3⟩
theorem Ap2 {nt:Nat} {g:G} {st:St} {a:Act} {w:World} {r:List Oper} (hr:Ca nt g st a w)(_h:WI r st.tm)(t:Nat)(b:Bool)(hv:RepA g (a.tmps.getD t undef) (.imm (.bool b)))
 (hk:∀u t' b' w' x,lk st.tm u= .when t' b' w' x→t'=t→b'=b):Ca nt g (Ah9 t b st) a w:=by
 refine⟨hr.size,hr.defers,fun u=> ?_,hr.sat⟩
 rw [A2i]
 split
 ·rename_i e;subst e;rw [Om hv];exact .imm _ _ (.raw _)
 ·have hu:=hr.tm u
  cases hy:lk st.tm u with
  |when t2 b2 w2 a2=>
   rw [Ap4]
   rw [hy]at hu
   split
   ·rename_i e
    subst e
    have:=hk u t b2 w2 a2 hy rfl
    subst this
    generalize a.tmps.getD u undef=z at hu
    cases hu with |when _ _ _ _ _ h1 h2=>
    split
    ·rename_i e;exact h1 e
    ·rename_i e;rw [h2 e];exact Akk g
   ·exact hu
  |_=>rw [hy]at hu;exact hu
theorem Ail {ops:Array Oper} {a:Act} {j t:Nat} {b:Bool} {oj:Oper} (hj:ops[j]? =some oj)(hd:oj.dst=some t)(hv:a.tmps.getD t undef= .bool b):yielded ops a.tmps j=some b:=by
 have:a.tmps[t]? =some (.bool b):=by
  rw [Array.getD_eq_getD_getElem?]at hv
  cases h:a.tmps[t]? with
  |none=>rw [h]at hv;simp [undef]at hv
  |some v=>rw [h]at hv;simp at hv;rw [hv]
 simp [yielded,hj,hd,this]
theorem At7 {ops:Array Oper} {a:Act} {j t:Nat} {oj:Oper} (hj:ops[j]? =some oj)(hd:oj.dst=some t)(hv:a.tmps.getD t undef= .tuple #[]):yielded ops a.tmps j=none:=by
 have:∀b,a.tmps[t]? ≠some (.bool b):=by
  intro b h
  rw [Array.getD_eq_getD_getElem?,h]at hv
  simp at hv
 unfold yielded
 rw [hj,Option.bind_some,hd,Option.bind_some]
 cases h:a.tmps[t]? with
 |none=>rfl
 |some v=>
  cases v with
  |bool b=>exact absurd h (this b)
  |_=>rfl
def Biz(E:Env)(H:Option Jh)(ops:Array Oper)(o:Oper)(r:List Oper)(g:G)(st:St)(a:Act)(w:World)(K:St→Prop):Prop:=
 (∃st',K st'∧WI r st'.tm∧(o.guard=none→TmS st.tm st'.tm o.dst)∧st'.hp=st.hp∧(if Region.wanted o (yielded ops a.tmps)then ∃val,(execOp a.eval o).run E.P w= .ok (.value val) w∧Ca E.nt g st' (a.put o.dst val) w else Ca E.nt g st' (a.put o.dst undef) w))∨
 (Region.wanted o (yielded ops a.tmps)=true∧∃st1,Ca E.nt g st1 a w∧st1.hp=st.hp∧WI (o::r) st1.tm∧(o.guard=none→st1=st)∧Ah4 E H st1 o K)
theorem here {P:Program} {w:World} {g:G} {s:Sem Next} {v:AV} (h:∃val,(∀w',Up w w'→s.run P w'= .ok (.value val) w')∧RepA g val v):∃val,s.run P w= .ok (.value val) w∧RepA g val v:=by
 obtain⟨val,h1,h2⟩:=h
 exact⟨val,h1 w (Up.refl w),h2⟩
theorem A32(E:Env)(hT:Dc E.P E.T)(H:Option Jh)(ops:Array Oper)(o:Oper)(r:List Oper) {g:G} {st:St} {a:Act} {w:World} (hr:Ca E.nt g st a w)(hw:WI (o::r) st.tm)(hd:P8 E.nt o.dst=true)(t:Nat)(want b:Bool)
 (hl:lk st.tm t= .imm (.bool b))(hc:Acs t (o::r)=0)(hwant:Region.wanted o (yielded ops a.tmps)=(b == want))(hg:o.guard≠none)(K:St→Prop)(h:Aue E H o t want b st K):Biz E H ops o r g st a w K:=by
 have hbv:=hr.tm t
 rw [hl]at hbv
 have hkb:∀u t' b' w' x,lk st.tm u= .when t' b' w' x→t'=t→b'=b:=fun u t' b' w' x e e'=>by
  subst e'
  have:=(hw u _ _ _ _ e).1
  rw [hl]at this;injection this with this;injection this with this;exact this.symm
 have hskip:b≠want→∀v,Ca E.nt g (st.put o.dst (.when t b want v)) (a.put o.dst undef) w:=fun hne v=>
  C8 hr.size hr.defers hr.tm hr.sat o.dst hd undef _ (.when _ _ _ _ _ (fun e=>absurd e hne) (fun _=>rfl))
 have hrun:∀v,b=want→(∃val,(execOp a.eval o).run E.P w= .ok (.value val) w∧RepA g val v)→∃val,(execOp a.eval o).run E.P w= .ok (.value val) w∧Ca E.nt g (st.put o.dst (.when t b want (noW v))) (a.put o.dst val) w:=fun v he ⟨val,h1,h2⟩=>
  ⟨val,h1,C8 hr.size hr.defers hr.tm hr.sat o.dst hd val _ (.when _ _ _ _ _ (fun _=>Af3 h2) (fun e=>absurd he e))⟩
 have hhp:∀v,(st.put o.dst v).hp=st.hp:=fun v=>by cases o.dst<;>rfl
 have pr:∀p,Acy E.T (noH H) (some (t,want)) st o=some p→b=want→OutN E.P w g (execOp a.eval o) p:=fun p hp he=>pure_ok E.P E.T hT w g st a (some (t,want)) o p hr.tm hw.winv (Or.inr ⟨b,hl,he⟩) hr.sat _ hp
 unfold Aue at h
 simp only [Xx,Od]at h
 split at h
 ·rename_i v hp
  refine .inl ⟨_,h,hw.putW t b want v hl hc,fun e=>absurd e hg,hhp _, ?_⟩
  rw [hwant]
  by_cases he:b=want
  ·rw [if_pos (by simpa using he)];exact hrun v he (here (pr _ hp he))
  ·rw [if_neg (by simpa using he)];exact hskip he _
 ·rename_i c v hp
  obtain⟨hc',h⟩:=h
  refine .inl ⟨_,h,hw.putW t b want v hl hc,fun e=>absurd e hg,hhp _, ?_⟩
  rw [hwant]
  by_cases he:b=want
  ·rw [if_pos (by simpa using he)];exact hrun v he (here (pr _ hp he (hc' he)))
  ·rw [if_neg (by simpa using he)];exact hskip he _
 ·exact h.elim
 ·obtain⟨h1,h2⟩:=h
  by_cases he:b=want
  ·refine .inr ⟨by rw [hwant];simpa using he,Ah9 t want st,Ap2 hr hw t want (by rw [←he];exact hbv) (fun u t' b' w' x e e'=>(hkb u t' b' w' x e e').trans he),rfl,hw.know t want,fun e=>absurd e hg,h1 (by simpa using he)⟩
  ·have hb:(!want)=b:=by cases b<;>cases want<;>simp_all
   refine .inl ⟨_,h2 (by simpa using he),(hw.know t (!want)).step (TmS.put0 _ _ _ _ Aup),fun e=>absurd e hg,by cases o.dst<;>rfl, ?_⟩
   rw [hwant,if_neg (by simpa using he)]
   have hr':=Ap2 hr hw t (!want) (by rw [hb];exact hbv) (fun u t' b' w' x e e'=>by rw [hb];exact hkb u t' b' w' x e e')
   exact C8 hr'.size hr'.defers hr'.tm hr'.sat o.dst hd undef _ (Akk g)
theorem A8n(E:Env)(hT:Dc E.P E.T)(H:Option Jh)(ops:Array Oper)(o:Oper)(r:List Oper) {g:G} {st:St} {a:Act} {w:World} (hr:Ca E.nt g st a w)(hw:WI (o::r) st.tm)(hgd:Fb ops.toList (o::r)=true)
 (K:St→Prop)(h:Bbl E H ops.toList o st K):Biz E H ops o r g st a w K:=by
 unfold Bbl at h
 simp only [Xx,Od]at h
 split at h
 ·exact h.elim
 rename_i hd
 have hhp:∀v,(st.put o.dst v).hp=st.hp:=fun v=>by cases o.dst<;>rfl
 split at h
 ·
  rename_i hg
  have hwant:Region.wanted o (yielded ops a.tmps)=true:=by simp [Region.wanted,hg]
  have pr:∀p,Acy E.T (noH H) none st o=some p→OutN E.P w g (execOp a.eval o) p:=fun p hp=>pure_ok E.P E.T hT w g st a none o p hr.tm hw.winv trivial hr.sat _ hp
  split at h
  ·rename_i v hp
   obtain⟨val,h1,h2⟩:=pr _ hp
   refine .inl ⟨_,h,hw.step (TmS.put0 _ _ _ _ (Jq _)),fun _=>TmS.put0 _ _ _ _ (Jq _),hhp _, ?_⟩
   rw [if_pos hwant]
   exact⟨val,h1 w (Up.refl w),C8 hr.size hr.defers hr.tm hr.sat o.dst hd val _ (Af3 h2)⟩
  ·rename_i c v hp
   obtain⟨hc,h⟩:=h
   obtain⟨val,h1,h2⟩:=pr _ hp hc
   refine .inl ⟨_,h,hw.step (TmS.put0 _ _ _ _ (Jq _)),fun _=>TmS.put0 _ _ _ _ (Jq _),hhp _, ?_⟩
   rw [if_pos hwant]
   exact⟨val,h1 w (Up.refl w),C8 hr.size hr.defers hr.tm hr.sat o.dst hd val _ (Af3 h2)⟩
  ·exact h.elim
  ·exact .inr ⟨hwant,st,hr,rfl,hw,fun _=>rfl,h⟩
 ·rename_i j want hg
  simp only [Fb,hg,Bool.and_eq_true]at hgd
  obtain⟨hgd,_⟩:=hgd
  split at h
  ·rename_i oj hj
   rw [hj]at hgd
   have hj':ops[j]? =some oj:=by simpa using hj
   split at h
   ·rename_i t ht
    simp only [ht]at hgd
    have hc:Acs t (o::r)=0:=by simpa using hgd
    have hbv:=hr.tm t
    split at h
    ·rename_i b hl
     rw [hl]at hbv
     refine A32 E hT H ops o r hr hw hd t want b hl hc ?_ (by rw [hg];simp) K h
     simp [Region.wanted,hg,Ail hj' ht (Om hbv)]
    ·rename_i v hl
     rw [hl]at hbv
     have hx:=D5 hbv
     generalize hz:a.tmps.getD t undef=z at hx
     cases hx
     split at h
     ·rename_i hs
      have hv:v= .tuple #[]:=by
       unfold Bh8 at hs
       split at hs
       ·rfl
       ·cases hs
       ·cases hs
      refine .inl ⟨_,h,hw.step (TmS.put0 _ _ _ _ Aup),fun e=>absurd e (by rw [hg];simp),hhp _, ?_⟩
      have hwant:Region.wanted o (yielded ops a.tmps)=false:=by simp [Region.wanted,hg,At7 hj' ht (hz.trans hv)]
      rw [hwant]
      exact C8 hr.size hr.defers hr.tm hr.sat o.dst hd undef _ (Akk g)
     ·rename_i b hs
      have hv:v= .bool b:=by
       unfold Bh8 at hs
       split at hs
       ·cases hs
       ·injection hs with hs;injection hs with hs;subst hs;rfl
       ·cases hs
      subst hv
      have hwant:Region.wanted o (yielded ops a.tmps)=(b == want):=by simp [Region.wanted,hg,Ail hj' ht hz]
      split at h
      ·rename_i hxor
       have hne:(b == want)=false:=by cases b<;>cases want<;>simp_all
       refine .inl ⟨_,h,hw.step (TmS.put0 _ _ _ _ Aup),fun e=>absurd e (by rw [hg];simp),hhp _, ?_⟩
       rw [hwant,hne]
       exact C8 hr.size hr.defers hr.tm hr.sat o.dst hd undef _ (Akk g)
      ·rename_i hxor
       have heq:b=want:=by cases b<;>cases want<;>simp_all
       subst heq
       have hwant':Region.wanted o (yielded ops a.tmps)=true:=by rw [hwant];simp
       have pr:∀p,Acy E.T (noH H) (some (t,b)) st o=some p→OutN E.P w g (execOp a.eval o) p:=fun p hp=>pure_ok E.P E.T hT w g st a (some (t,b)) o p hr.tm hw.winv (Or.inl hl) hr.sat _ hp
       unfold Bab at h
       simp only [Xx,Od]at h
       split at h
       ·rename_i v hp
        obtain⟨val,h1,h2⟩:=pr _ hp
        refine .inl ⟨_,h,hw.step (TmS.put0 _ _ _ _ (Jq _)),fun _=>TmS.put0 _ _ _ _ (Jq _),hhp _, ?_⟩
        rw [if_pos hwant']
        exact⟨val,h1 w (Up.refl w),C8 hr.size hr.defers hr.tm hr.sat o.dst hd val _ (Af3 h2)⟩
       ·rename_i c v hp
        obtain⟨hc',h⟩:=h
        obtain⟨val,h1,h2⟩:=pr _ hp hc'
        refine .inl ⟨_,h,hw.step (TmS.put0 _ _ _ _ (Jq _)),fun _=>TmS.put0 _ _ _ _ (Jq _),hhp _, ?_⟩
        rw [if_pos hwant']
        exact⟨val,h1 w (Up.refl w),C8 hr.size hr.defers hr.tm hr.sat o.dst hd val _ (Af3 h2)⟩
       ·exact h.elim
       ·exact .inr ⟨hwant',st,hr,rfl,hw,fun _=>rfl,h⟩
     ·exact h.elim
    ·rename_i t' b' w' b hl
     obtain⟨h1,h2⟩:=h
     obtain⟨hl',hc',hn'⟩:=hw t _ _ _ _ hl
     have hb':=hr.tm t'
     rw [hl']at hb'
     have hkb:∀u t2 b2 w2 x,lk st.tm u= .when t2 b2 w2 x→t2=t'→b2=b':=fun u t2 b2 w2 x e e'=>by
      subst e'
      have:=(hw u _ _ _ _ e).1
      rw [hl']at this;injection this with this;injection this with this;exact this.symm
     have hne:t'≠t:=fun e=>by subst e;rw [hl']at hl;cases hl
     by_cases he:b'=w'
     ·have hr':=Ap2 hr hw t' w' (by rw [←he];exact hb') (fun u t2 b2 w2 x e e'=>(hkb u t2 b2 w2 x e e').trans he)
      have hlk:lk (Ah9 t' w' st).tm t= .imm (.bool b):=by
       rw [A2i,if_neg hne,hl,Ap4,if_pos rfl,if_pos rfl]
      have hbv':=hr'.tm t
      rw [hlk]at hbv'
      have:=A32 E hT H ops o r hr' (hw.know t' w') hd t want b hlk hc (by simp [Region.wanted,hg,Ail hj' ht (Om hbv')]) (by rw [hg];simp) K (h1 (by simpa using he))
      rcases this with ⟨st',q1,q2,q3,q4,q5⟩ |⟨q0,st1,q1,q2,q3,q4,q5⟩
      ·exact .inl ⟨st',q1,q2,fun e=>absurd e (by rw [hg];simp),q4,q5⟩
      ·exact .inr ⟨q0,st1,q1,q2,q3,fun e=>absurd e (by rw [hg];simp),q5⟩
     ·have hbn:(!w')=b':=by cases b'<;>cases w'<;>simp_all
      rw [hl]at hbv
      have hz:a.tmps.getD t undef=undef:=by
       generalize a.tmps.getD t undef=z at hbv
       cases hbv with |when _ _ _ _ _ _ hu=>exact hu he
      have hwant:Region.wanted o (yielded ops a.tmps)=false:=by simp [Region.wanted,hg,At7 hj' ht hz]
      refine .inl ⟨_,h2 (by simpa using he),(hw.know t' (!w')).step (TmS.put0 _ _ _ _ Aup),fun e=>absurd e (by rw [hg];simp),by cases o.dst<;>rfl, ?_⟩
      rw [hwant]
      have hr':=Ap2 hr hw t' (!w') (by rw [hbn];exact hb') (fun u t2 b2 w2 x e e'=>by rw [hbn];exact hkb u t2 b2 w2 x e e')
      exact C8 hr'.size hr'.defers hr'.tm hr'.sat o.dst hd undef _ (Akk g)
    ·exact h.elim
   ·exact h.elim
  ·exact h.elim
theorem Mw {o:Oper} {tm tm':List (Nat × AV)} (h:∀u,NoW (lk tm u))(ht:TmS tm tm' o.dst):∀u,NoW (lk tm' u):=by
 intro u
 rcases ht u with ⟨_,h1⟩ |h1 |⟨h1,_⟩
 ·exact h1
 ·rw [h1];exact h u
 ·rw [h1];exact Qu
theorem Nf {o:Oper} {r:List Oper} (h:Wu (o::r)=false):o.guard=none∧Wu r=false:=by
 simp only [Wu,Bool.or_eq_false_iff]at h
 refine⟨?_,h.2⟩
 cases hg:o.guard with
 |none=>rfl
 |some p=>rw [hg]at h;cases h.1
theorem Aki(E:Env)(hT:Dc E.P E.T)(H:Jh)(hS:∀f bt,E.self f=some bt→Uq E.P f bt)(hH:∀f ac nt rs,E.inl f=some (ac,nt,rs)→∀args h Q,H ac nt rs args h Q→Call E.P f args h Q)(ops:Array Oper)(Q:Exit→Act→World→Prop)(plain:Bool):
 ∀(rest:List Oper) (g:G) (st:St) (a:Act) (w:World) (K:St→Prop),Ca E.nt g st a w→WI rest st.tm→(plain=true→Wu rest=false∧∀u,NoW (lk st.tm u))→Fb ops.toList rest=true→Acx E (some H) ops.toList rest st K→
  (∀g' st' a' w',Evo g st.hp w g' st'.hp w'→Ca E.nt g' st' a' w'→WI [] st'.tm→(plain=true→∀u,NoW (lk st'.tm u))→K st'→Q .normal a' w')→wpList E.P ops Q rest a w
 | [],g,st,a,w,K,hr,hw,hp,hgd,h,hq=>wpList_nil (hq g st a w (Evo.refl _ _ _) hr hw (fun e=>(hp e).2) h)
 |o::r,g,st,a,w,K,hr,hw,hp,hgd,h,hq=>by
  refine wpList_step fun K' hK'=> ?_
  have hgd':Fb ops.toList r=true:=by simp only [Fb,Bool.and_eq_true]at hgd;exact hgd.2
  rcases A8n E hT (some H) ops o r hr hw hgd _ h with ⟨st',hk,hw',htm,hhp,hx⟩ |⟨hwant,st1,hr1,hhp,hw1,hsame,hi⟩
  ·have hp':plain=true→Wu r=false∧∀u,NoW (lk st'.tm u):=fun e=>⟨(Nf (hp e).1).2,Mw (hp e).2 (htm (Nf (hp e).1).1)⟩
   split
   ·rename_i hwant
    rw [if_pos hwant]at hx
    obtain⟨val,hrun,hr'⟩:=hx
    unfold Oper.wp
    rw [hrun,Oper.upon_value]
    exact hK' _ _ (Aki E hT H hS hH ops Q plain r g st' _ w K hr' hw' hp' hgd' hk (fun g' st2 a' w' he=>hq g' st2 a' w' (hhp ▸ he)))
   ·rename_i hwant
    rw [if_neg hwant]at hx
    exact hK' _ _ (Aki E hT H hS hH ops Q plain r g st' _ w K hx hw' hp' hgd' hk (fun g' st2 a' w' he=>hq g' st2 a' w' (hhp ▸ he)))
  ·rw [if_pos hwant]
   have hd:P8 E.nt o.dst=true:=by
    simp only [Acx]at h
    unfold Bbl at h
    split at h
    ·exact h.elim
    ·assumption
   refine A7q E hT H hS hH hr1 o hd _ hi K' Q fun g' st' a' w' he hr' ht hk=>hK' _ _ ?_
   have hp':plain=true→Wu r=false∧∀u,NoW (lk st'.tm u):=fun e=>⟨(Nf (hp e).1).2,Mw (hp e).2 (by rw [hsame (Nf (hp e).1).1]at ht;exact ht)⟩
   exact Aki E hT H hS hH ops Q plain r g' st' a' w' K hr' (hw1.step ht) hp' hgd' hk (fun g2 st2 a2 w2 he2=>hq g2 st2 a2 w2 ((hhp ▸ he).trans he2))
theorem Aut(E:Env)(hT:Dc E.P E.T)(ops:Array Oper)(w:World)(g:G)(Q:Act→Prop)(plain:Bool):
 ∀(rest:List Oper) (st:St) (a:Act) (K:St→Prop),Ca E.nt g st a w→WI rest st.tm→(plain=true→Wu rest=false∧∀u,NoW (lk st.tm u))→Fb ops.toList rest=true→Acx E none ops.toList rest st K→
  (∀st' a',st'.hp=st.hp→Ca E.nt g st' a' w→WI [] st'.tm→(plain=true→∀u,NoW (lk st'.tm u))→K st'→Q a')→wpQuiet E.P ops (fun w'=>w'=w) Q rest a
 | [],st,a,K,hr,hw,hp,hgd,h,hq=>wpQuiet_nil (hq st a rfl hr hw (fun e=>(hp e).2) h)
 |o::r,st,a,K,hr,hw,hp,hgd,h,hq=>by
  have hgd':Fb ops.toList r=true:=by simp only [Fb,Bool.and_eq_true]at hgd;exact hgd.2
  rcases A8n E hT none ops o r hr hw hgd _ h with ⟨st',hk,hw',htm,hhp,hx⟩ |⟨hwant,st1,hr1,hhp,hw1,hsame,hi⟩
  ·have hp':plain=true→Wu r=false∧∀u,NoW (lk st'.tm u):=fun e=>⟨(Nf (hp e).1).2,Mw (hp e).2 (htm (Nf (hp e).1).1)⟩
   unfold wpQuiet
   split
   ·rename_i hwant
    rw [if_pos hwant]at hx
    obtain⟨val,hrun,hr'⟩:=hx
    refine⟨val,fun w' hw'=> ?_,Aut E hT ops w g Q plain r st' _ K hr' hw' hp' hgd' hk (fun st2 a' he=>hq st2 a' (he.trans hhp))⟩
    subst hw'
    unfold Oper.quietAt
    rw [hrun]
    exact⟨rfl,rfl⟩
   ·rename_i hwant
    rw [if_neg hwant]at hx
    exact Aut E hT ops w g Q plain r st' _ K hx hw' hp' hgd' hk (fun st2 a' he=>hq st2 a' (he.trans hhp))
  ·exact hi.elim
theorem Auu(E:Env)(hT:Dc E.P E.T)(ops:Array Oper)(w:World)(g:G)(Q:Act→Prop)(plain:Bool)(post:List Oper):
 ∀(rest:List Oper) (st:St) (a:Act) (K:St→Prop),Ca E.nt g st a w→WI (rest++post) st.tm→(plain=true→Wu (rest++post)=false∧∀u,NoW (lk st.tm u))→Fb ops.toList (rest++post)=true→Acx E none ops.toList rest st K→
  (∀st' a',st'.hp=st.hp→Ca E.nt g st' a' w→WI post st'.tm→(plain=true→∀u,NoW (lk st'.tm u))→K st'→Q a')→wpStill E.P ops w Q rest a
 | [],st,a,K,hr,hw,hp,hgd,h,hq=>wpStill_nil (hq st a rfl hr hw (fun e=>(hp e).2) h)
 |o::r,st,a,K,hr,hw,hp,hgd,h,hq=>by
  have hgd':Fb ops.toList (r++post)=true:=by simp only [List.cons_append,Fb,Bool.and_eq_true]at hgd;exact hgd.2
  rcases A8n E hT none ops o (r++post) hr hw hgd _ h with ⟨st',hk,hw',htm,hhp,hx⟩ |⟨hwant,st1,hr1,hhp,hw1,hsame,hi⟩
  ·have hp':plain=true→Wu (r++post)=false∧∀u,NoW (lk st'.tm u):=fun e=>⟨(Nf (hp e).1).2,Mw (hp e).2 (htm (Nf (hp e).1).1)⟩
   unfold wpStill
   split
   ·rename_i hwant
    rw [if_pos hwant]at hx
    obtain⟨val,hrun,hr'⟩:=hx
    unfold Oper.still
    rw [hrun,Oper.stillUpon_value]
    exact(Auu E hT ops w g Q plain post r st' _ K hr' hw' hp' hgd' hk (fun st2 a' he=>hq st2 a' (he.trans hhp)))
   ·rename_i hwant
    rw [if_neg hwant]at hx
    exact Auu E hT ops w g Q plain post r st' _ K hx hw' hp' hgd' hk (fun st2 a' he=>hq st2 a' (he.trans hhp))
  ·exact hi.elim
theorem Afa {all rest:List Oper} (h:Wu rest=false):Fb all rest=true:=by
 induction rest with
 |nil=>rfl
 |cons o r ih=>
  obtain⟨h1,h2⟩:=Nf h
  simp [Fb,h1,ih h2]
theorem Apm(tm:List (Nat × AV))(u:Nat):lk (Z6 tm) u=Afe (noW (lk tm u)):=by
 induction tm with
 |nil=>rfl
 |cons x tm ih=>
  obtain⟨m,v⟩:=x
  simp only [Z6,Fu]
  split
  ·rfl
  ·exact ih
theorem Ax8(a:AV)(h:NoW a):NoW (Afe a):=fun t b w x e=>h t b w x (Ap9 e)
theorem Atz {nt:Nat} {g:G} {st:St} {a:Act} {w:World} (hr:Ca nt g st a w):Ca nt g ⟨Z6 st.tm,st.hp⟩ a w:=
 ⟨hr.size,hr.defers,fun t=>by rw [Apm];exact A9b (Af3 (hr.tm t)),hr.sat⟩
theorem WI.of_now {rest:List Oper} {tm:List (Nat × AV)} (h:∀u,NoW (lk tm u)):WI rest tm:=fun u t b w x e=>absurd e (h u t b w x)
theorem Ayj {nt:Nat} {g:G} {st:St} {a:Act} {w:World} (hr:Ca nt g st a w):Ca nt g st a { w with drawn:=w.drawn+1 } ∧Evo g st.hp w g st.hp { w with drawn:=w.drawn+1 } :=by
 refine⟨⟨hr.size,hr.defers,hr.tm,⟨hr.sat.imm,fun n e he=> ?_,hr.sat.inj,hr.sat.old,hr.sat.dis⟩⟩,⟨rfl,rfl,rfl,Nat.le_refl _,fun _ _ _ h=>h,fun _ _ _=>⟨rfl,fun _=>rfl⟩,fun n e b c l h1 h2=> .inr ⟨n,e,c,l,h1,h2⟩,fun n _ h=>⟨rfl,h⟩,rfl⟩⟩
 have:=(hr.sat.ent n e he).agree (p:=fun _=>false) (w':= { w with drawn:=w.drawn+1 }) (Agree.refl _ g) rfl (fun _ _ _ _=>⟨rfl,fun _=>rfl⟩)
 have e1:M3 (fun _=>false) e=e:=by cases e<;>simp [M3,Amm]
 rwa [e1]at this
theorem Bfb(E:Env)(hT:Dc E.P E.T)(H:Jh)(hS:∀f bt,E.self f=some bt→Uq E.P f bt)(hH:∀f ac nt rs,E.inl f=some (ac,nt,rs)→∀args h Q,H ac nt rs args h Q→Call E.P f args h Q)(id:Nat)(ops:Array Oper)(st:St)(hn:∀u,NoW (lk st.tm u))(Q:Ex→St→Prop)
 (h:Aee E (some H) ops.toList st (Q .normal)):WP E.P E.nt (.region id ops false) st Q:=by
 refine⟨fun g a w hr=>wp_region_list ?_⟩
 unfold Aee at h
 simp only [Od]at h
 split at h
 ·rename_i hg
  exact Aki E hT H hS hH ops _ true ops.toList g st a w _ hr (WI.of_now hn) (fun _=>⟨hg,hn⟩) (Afa hg) h (fun g' st' a' w' he hr' _ hn' hk=>⟨.normal,st',g',rfl,he,hr',hn' rfl,hk⟩)
 ·split at h
  ·rename_i hg
   exact Aki E hT H hS hH ops _ false ops.toList g st a w _ hr (WI.of_now hn) (fun e=>by cases e) hg h (fun g' st' a' w' he hr' _ _ hk=>⟨.normal,⟨Z6 st'.tm,st'.hp⟩,g',rfl,he,Atz hr',fun u=>by show NoW (lk (Z6 st'.tm) u);rw [Apm];exact Ax8 _ (Jq _),hk⟩)
  ·exact h.elim
theorem A3d(E:Env)(hT:Dc E.P E.T)(hm:E.P.follows .mixedOrders=true)(id:Nat)(ops:Array Oper)(hB:Region.lexB .any ops=true)(st:St)(hn:∀u,NoW (lk st.tm u))(Q:Ex→St→Prop)
 (h:Aee E none ops.toList st (Q .normal)):WP E.P E.nt (.region id ops true) st Q:=by
 refine⟨fun g a w hr=> ?_⟩
 obtain⟨hr1,he1⟩:=Ayj hr
 refine wp_region_quiet (C:=fun w'=>w'= { w with drawn:=w.drawn+1 }) hm hB rfl ?_
 unfold Aee at h
 simp only [Od]at h
 split at h
 ·rename_i hg
  exact Aut E hT ops _ g _ true ops.toList st a _ hr1 (WI.of_now hn) (fun _=>⟨hg,hn⟩) (Afa hg) h (fun st' a' he hr' _ hn' hk w' hw'=>by
   subst hw'
   exact⟨.normal,st',g,rfl,he ▸ he1,hr',hn' rfl,hk⟩)
 ·split at h
  ·rename_i hg
   exact Aut E hT ops _ g _ false ops.toList st a _ hr1 (WI.of_now hn) (fun e=>by cases e) hg h (fun st' a' he hr' _ _ hk w' hw'=>by
    subst hw'
    exact⟨.normal,⟨Z6 st'.tm,st'.hp⟩,g,rfl,he ▸ he1,Atz hr',fun u=>by show NoW (lk (Z6 st'.tm) u);rw [Apm];exact Ax8 _ (Jq _),hk⟩)
  ·exact h.elim
theorem A3e(E:Env)(hT:Dc E.P E.T)(hm:E.P.follows .mixedOrders=true)(H:Jh)(hS:∀f bt,E.self f=some bt→Uq E.P f bt)(hH:∀f ac nt rs,E.inl f=some (ac,nt,rs)→∀args h Q,H ac nt rs args h Q→Call E.P f args h Q)(id:Nat)(ops:Array Oper)(n:Nat)(hB:Region.lexTailB .any ops n=true)(st:St)(hn:∀u,NoW (lk st.tm u))(Q:Ex→St→Prop)
 (h:A7i E H ops.toList n st (Q .normal)):WP E.P E.nt (.region id ops true) st Q:=by
 refine⟨fun g a w hr=> ?_⟩
 obtain⟨hr1,he1⟩:=Ayj hr
 obtain⟨l⟩:=ops
 refine wp_region_still_tail n hm hB ?_
 unfold A7i at h
 simp only [Od]at h
 have hl:l.take n++l.drop n=l:=List.take_append_drop n l
 split at h
 ·rename_i hg
  refine Auu E hT l.toArray _ g _ true (l.drop n) (l.take n) st a _ hr1 (WI.of_now hn) (fun _=>⟨by rw [hl];exact hg,hn⟩) (by rw [hl];exact Afa hg) h (fun st' a' he hr' hw' hn' hk=> ?_)
  have hgd:Wu (l.drop n)=false:=by
   have:∀(k:Nat) (l:List Oper),Wu l=false→Wu (l.drop k)=false:=by
    intro k
    induction k with
    |zero=>intro l h;exact h
    |succ k ih=>intro l h;cases l with
     |nil=>rfl
     |cons o r=>exact ih r (Nf h).2
   exact this n l hg
  exact Aki E hT H hS hH l.toArray _ true (l.drop n) g st' a' _ _ hr' hw' (fun _=>⟨hgd,hn' rfl⟩) (Afa hgd) hk (fun g' st2 a2 w2 he2 hr2 _ hn2 hk2=>⟨.normal,st2,g',rfl,he1.trans (he ▸ he2),hr2,hn2 rfl,hk2⟩)
 ·split at h
  ·rename_i hg
   refine Auu E hT l.toArray _ g _ false (l.drop n) (l.take n) st a _ hr1 (WI.of_now hn) (fun e=>by cases e) (by rw [hl];exact hg) h (fun st' a' he hr' hw' hn' hk=> ?_)
   have hgd:Fb l (l.drop n)=true:=by
    have:∀(k:Nat) (all l:List Oper),Fb all l=true→Fb all (l.drop k)=true:=by
     intro k
     induction k with
     |zero=>intro all l h;exact h
     |succ k ih=>intro all l h;cases l with
      |nil=>rfl
      |cons o r=>exact ih all r (by simp only [Fb,Bool.and_eq_true]at h;exact h.2)
    exact this n l l hg
   exact Aki E hT H hS hH l.toArray _ false (l.drop n) g st' a' _ _ hr' hw' (fun e=>by cases e) hgd hk (fun g' st2 a2 w2 he2 hr2 _ _ hk2=>⟨.normal,⟨Z6 st2.tm,st2.hp⟩,g',rfl,he1.trans (he ▸ he2),Atz hr2,fun u=>by show NoW (lk (Z6 st2.tm) u);rw [Apm];exact Ax8 _ (Jq _),hk2⟩)
  ·exact h.elim
theorem Aey {m:Nat→Nat→Option Value} {v u:Value} {V:IV} (hd:A64 V=true)(h1:RepI m v V)(h2:RepI m u V):v=u:=by
 cases V with
 |int k n=>cases h1;cases h2;rfl
 |bool b=>cases h1;cases h2;rfl
 |str l=>
  cases h1 with |str s _ hs=>
  cases h2 with |str t _ ht=>
  have:s=t:=by
   obtain⟨⟨s⟩⟩:=s
   obtain⟨⟨t⟩⟩:=t
   simp at hs ht
   subst hs;subst ht;rfl
  rw [this]
 |sl k sz rows=>
  cases k with
  |nil=>
   cases rows with
   |nil=>
    cases h1 with |sl a cap _ _ _ b o vs q1 q2 q3 q4=>
    cases h2 with |sl a' cap' _ _ _ b' o' vs' p1 p2 p3 p4=>
    have e1:=q4 rfl
    have e2:=p4 rfl
    subst e1;subst e2
    rw [q2 rfl,p2 rfl]
   |cons=>cases hd
  |_=>cases hd
 |_=>cases hd
theorem Bdn {l:List IV} (h:A65 l=true)(i:Nat)(hi:i<l.length):A64 (l.getD i default)=true:=by
 induction l generalizing i with
 |nil=>simp at hi
 |cons a l ih=>
  simp only [A65,Bool.and_eq_true]at h
  cases i with
  |zero=>exact h.1
  |succ i=>simpa using ih h.2 i (by simpa using hi)
theorem Bbh {l:List AV} (h:Az0 l=true):∀i,i<l.length→Bgx (l.getD i .undef)=true:=by
 induction l with
 |nil=>intro i hi;simp at hi
 |cons v r ih=>
  simp only [Az0,Bool.and_eq_true]at h
  intro i hi
  cases i with
  |zero=>exact h.1
  |succ i=>simpa using ih h.2 i (by simpa using hi)
theorem A8u {g:G} {v u:Value} {V:AV} (hd:Bgx V=true)(h1:RepA g v V)(h2:RepA g u V):v=u:=by
 cases V with
 |imm x=>exact Aey hd (D5 h1) (D5 h2)
 |ptr n o=>
  cases h1 with |ptr _ b c l _ hb=>
  cases h2 with |ptr _ b' c' l' _ hb'=>
  rw [hb]at hb';injection hb' with hb';injection hb' with e;injection e with e;subst e;rfl
 |own n=>
  cases h1 with |own _ a c l hb=>
  cases h2 with |own _ a' c' l' hb'=>
  rw [hb]at hb';injection hb' with hb';injection hb' with e1 e2 e3;subst e1;subst e2;subst e3;rfl
 |_=>cases hd
theorem Bas {g:G} {v u:Value} {V:AV} (hd:A66 V=true)(h1:RepA g v V)(h2:RepA g u V):v=u:=by
 cases V with
 |imm x=>
  have h1:=D5 h1
  have h2:=D5 h2
  cases x with
  |agg l=>
   have hd:A65 l=true:=hd
   cases h1 with |agg cs _ hl hc=>
   cases h2 with |agg cs' _ hl' hc'=>
   have:cs=cs':=by
    apply Array.ext
    ·rw [hl,hl']
    ·intro i h1 h2
     have e:=Aey (Bdn hd i (by omega)) (hc i (by omega)) (hc' i (by omega))
     simpa [Array.getD_eq_getD_getElem?,h1,h2] using e
   rw [this]
  |int k n=>exact Aey (V:= .int k n) hd h1 h2
  |bool b=>exact Aey (V:= .bool b) hd h1 h2
  |str l=>exact Aey (V:= .str l) hd h1 h2
  |sl k sz rows=>exact Aey (V:= .sl k sz rows) hd h1 h2
  |raw v=>cases hd
  |ifc b=>cases hd
 |ptr n o=>
  cases h1 with |ptr _ b c l _ hb=>
  cases h2 with |ptr _ b' c' l' _ hb'=>
  rw [hb]at hb';injection hb' with hb';injection hb' with e;injection e with e;subst e;rfl
 |elt n s i j=>
  cases h1 with |elt _ b c l _ _ _ hb=>
  cases h2 with |elt _ b' c' l' _ _ _ hb'=>
  rw [hb]at hb';injection hb' with hb';injection hb' with e;injection e with e;subst e;rfl
 |own n=>exact A8u (V:= .own n) rfl h1 h2
 |agg l=>
  have hd:Az0 l=true:=hd
  cases h1 with |agg cs _ hl hc=>
  cases h2 with |agg cs' _ hl' hc'=>
  have:cs=cs':=by
   apply Array.ext
   ·rw [hl,hl']
   ·intro i h1 h2
    have e:=A8u (Bbh hd i (by omega)) (hc i (by omega)) (hc' i (by omega))
    simpa [Array.getD_eq_getD_getElem?,h1,h2] using e
  rw [this]
 |_=>cases hd
theorem Ais {P:Program} {g:G} {s:Sem Value} {pr:PR} (hd:match pr with | .bad=>False | .ok v=>A66 v=true | .req _ v=>A66 v=true)(h:∀w,Out P w g s pr)(hc:match pr with | .req c _=>c |_=>True):
 ∃val,(∀w,s.run P w= .ok val w)∧RepA g val (match pr with | .ok v=>v | .req _ v=>v | .bad=> .undef):=by
 have w0:World:=default
 cases pr with
 |bad=>exact hd.elim
 |ok v=>
  obtain⟨val,h1,h2⟩:=h w0
  refine⟨val,fun w=> ?_,h2⟩
  obtain⟨val',h1',h2'⟩:=h w
  rw [Bas hd h2 h2']
  exact h1' w (Up.refl w)
 |req c v=>
  obtain⟨val,h1,h2⟩:=h w0 hc
  refine⟨val,fun w=> ?_,h2⟩
  obtain⟨val',h1',h2'⟩:=h w hc
  rw [Bas hd h2 h2']
  exact h1' w (Up.refl w)
theorem Axy(P:Program)(T:TT)(hT:Dc P T) {g:G} {st:St} {a:Act} (h:∀t,RepA g (a.tmps.getD t undef) (lk st.tm t))(hn:∀u,NoW (lk st.tm u))(o:Oper):
 Aun T st o≠ .bad→∃s:Sem Value,execOp a.eval o=(do pure (.value (←s)))∧∀w,Out P w g s (Aun T st o):=by
 have E:=fun ty x=>Tq (T:=T) h ty x
 have hw:Ao2 st.tm:=fun u t b want x e=>absurd e (hn u t b want x)
 unfold Aun
 intro hne
 simp only at hne ⊢
 split at hne
 ·rename_i op xt x y yt hop
  split at hne
  ·exact absurd rfl hne
  ·rename_i hnil
   exact⟨(do eqGuard op xt x y (a.eval x) (a.eval y);binOp op xt (a.eval x) (a.eval y)),by unfold execOp;simp only [hop],fun w=>Bdg P w g (tl T xt) op xt x y (a.eval x) (a.eval y) _ _ (E xt x) (E yt y) (hT.ok xt)⟩
 ·rename_i op xt x hop
  exact⟨_,by unfold execOp;simp only [hop],fun w=>Bjm P w g op (a.eval x) _ (E xt x)⟩
 ·rename_i t x j hop
  exact⟨Instr.fieldAt t (a.eval x) j,by unfold execOp;simp only [hop],fun w=>Ati P w g t _ (hT.ok t) (a.eval x) _ (E t x) j⟩
 ·rename_i t x i hop
  exact⟨Instr.index t (a.eval x) (a.eval i),by unfold execOp;simp only [hop],fun w=>A7s P w g t _ (hT.ok t) (a.eval x) (a.eval i) _ _ (E t x) (E t i)⟩
 ·rename_i t x lo hi mx hop
  split at hne
  ·rename_i s hs
   have hx:=E t x
   rw [hs]at hx
   refine⟨Instr.sliceAt t (a.eval x) (lo.map a.eval) (hi.map a.eval) (mx.map a.eval),by unfold execOp;simp only [hop],fun w=> ?_⟩
   exact A85 P w g [] false t _ (hT.ok t) (a.eval x) s hx _ _ _ _ _ _ (Oi (gd:=none) h hw trivial lo).1 (Oi (gd:=none) h hw trivial lo).2 (Oi (gd:=none) h hw trivial hi).1 (Oi (gd:=none) h hw trivial hi).2 (Oi (gd:=none) h hw trivial mx).2
  ·exact absurd rfl hne
 ·rename_i t parts hop
  have:(parts.map fun(i,x)=>(i,a.eval x))=(parts.toList.map fun(i,x)=>(i,a.eval x)).toArray:=by
   obtain⟨l⟩:=parts;simp
  exact⟨Instr.build t (parts.toList.map fun(i,x)=>(i,a.eval x)).toArray,by unfold execOp;simp only [hop,this],fun w=>A6s P T hT w g t (parts.toList.map fun(i,x)=>(i,a.eval x)) _ (by rw [Ke,I5];simp) (fun i hi=>A68 h 0 parts.toList i (by rw [Ke,I5]at hi;exact hi))⟩
 ·rename_i x hop
  have hx:=E 0 x
  cases hpr:Alh (strip none (ev T st.tm 0 x))with
  |bad=>rw [hpr]at hne;exact absurd rfl hne
  |req c v=>exact absurd hpr (Awa _ _ _)
  |ok v=>
   obtain⟨rfl,hv⟩:=Bex g _ _ _ hx hpr
   refine⟨pure (a.eval x), ?_,fun w=>⟨a.eval x,fun w' _=>rfl,hx⟩⟩
   rcases hv with ⟨ad,hv⟩ |⟨f,vs,hv⟩<;>(unfold execOp;simp only [hop];rw [hv];simp)
 ·exact absurd rfl hne
theorem Ap7 {nt:Nat} {g:G} {st:St} {a:Act} {w:World} (hr:Ca nt g st a w)(hn:∀u,NoW (lk st.tm u))(d:Option Nat)(hd:P8 nt d=true)(val:Value)(v:AV)(hv:RepA g val v):
 Ca nt g (st.put d (noW v)) (a.put d val) w∧(∀u,NoW (lk (st.put d (noW v)).tm u))∧(st.put d (noW v)).hp=st.hp:=by
 refine⟨C8 hr.size hr.defers hr.tm hr.sat d hd val _ (Af3 hv),fun u=> ?_,by cases d<;>rfl⟩
 cases d with
 |none=>exact hn u
 |some d=>
  show NoW (lk ((d,noW v)::st.tm) u)
  rw [Fu]
  split
  ·exact Jq v
  ·exact hn u
theorem A2j(E:Env)(hT:Dc E.P E.T) {g:G} {st:St} {a:Act} {w:World} (hr:Ca E.nt g st a w)(o:Oper)(K:St→Prop)(h:Anp E st o K)(next:Act→World→Prop)(Q:Exit→Act→World→Prop)
 (hq:∀g' st' a' w',Up w w'→((∃f args ts,o.op= .call ⟨.value f,args,ts⟩)→g'.base=g.base)→Evo g st.hp w g' st'.hp w'→Ca E.nt g' st' a' w'→TmS st.tm st'.tm o.dst→K st'→next a' w'):o.guard=none∧o.wp E.P a w next Q:=by
 unfold Anp at h
 simp only at h
 split at h
 ·rename_i hg hd
  refine⟨hg, ?_⟩
  have E0:=fun ty x=>Tq (T:=E.T) hr.tm ty x
  have lt:∀d,o.dst=some d→d<E.nt:=fun d e=>by rw [e]at hd;simpa [P8,Nat.blt_eq] using hd
  split at h
  ·rename_i t len parts d hop hdst
   unfold Acw at h
   split at h
   ·rename_i elem esz eb esh htd
    split at h
    ·rename_i rows hc he
     simp only [Bool.and_eq_true]at hc
     obtain⟨hc0,hc1,hc2⟩:=hc
     obtain⟨val,w',g',q1,q2,q3,q4⟩:=Aqf E.P E.T hT hr d (lt d hdst) t len elem esz eb esh htd (Mv hc0) (Aeq hc0) (by
      have h1:=(hT.ok t (by rw [htd];simp)).td
      rw [htd]at h1
      obtain⟨_,i,hi,hsz,_⟩:=h1
      obtain⟨i',hi',hs',_⟩:=(hT.ok elem (Mv hc0)).info
      rw [hi]at hi';injection hi' with hi';subst hi';omega) (parts.toList.map fun(i,x)=>(i,a.eval x)) _ (by rw [Ke,I5];simp) (fun i hi=>A68 hr.tm 0 parts.toList i (by rw [Ke,I5]at hi;exact hi)) (by simpa using hc1) hc2 rows he
     have hex:execOp a.eval o=(do pure (.value (←Instr.buildSlice t len (parts.toList.map fun(i,x)=>(i,a.eval x)).toArray))):=by
      unfold execOp
      have:(parts.map fun(i,x)=>(i,a.eval x))=(parts.toList.map fun(i,x)=>(i,a.eval x)).toArray:=by
       obtain⟨l⟩:=parts;simp
      simp only [hop,this]
     unfold Oper.wp
     rw [hex]
     simp only [Sem.run_bind,q1,Result.andThen_ok,Sem.run_pure]
     rw [Oper.upon_value]
     refine hq g' _ _ w' q2 (fun⟨_,_,_,e⟩=>by rw [hop]at e;cases e) q3 (by rw [hdst];exact q4) (hdst ▸ TmS.cons _ _ _ _ (An3 _)) h
    ·exact h.elim
   ·exact h.elim
  ·rename_i _ _ fo args ts hop
   split at h
   ·rename_i f caps hf hl
    split at h
    ·rename_i ivs _ _ _ he
     have hl:args.toList.length=ts.toList.length:=by simpa using hl
     have hfv:=E0 0 fo
     rw [hf]at hfv
     generalize hfo:a.eval fo=fv at hfv
     cases hfv with |fn _ vs _ hvl hvs=>
     have hreps:Y0 g (args.map a.eval++vs) (stripL none (evs E.T st.tm args.toList ts.toList)++caps):=by
      refine⟨?_,fun i hi=> ?_⟩
      ·simp [Pn,Qb,hvl]
       simp at hl
       omega
      ·have hlen:(stripL none (evs E.T st.tm args.toList ts.toList)).length=args.size:=by
        simp [Pn,Qb];simp at hl;omega
       have e1:(args.map a.eval++vs).getD i undef=if i<args.size then(args.toList.map a.eval).getD i undef else vs.getD (i - args.size) undef:=by
        simp only [Array.getD_eq_getD_getElem?,List.getD_eq_getElem?_getD,Array.getElem?_append,Array.size_map]
        split<;>simp
       have e2:(stripL none (evs E.T st.tm args.toList ts.toList)++caps).getD i .undef=if i<args.size then(stripL none (evs E.T st.tm args.toList ts.toList)).getD i .undef else caps.getD (i - args.size) .undef:=by
        simp only [List.getD_eq_getElem?_getD]
        split
        ·rw [List.getElem?_append_left (by omega)]
        ·rw [List.getElem?_append_right (by omega),hlen]
       rw [e1,e2]
       split
       ·exact A69 hr.tm _ _ i (by rw [Qb];simp at hl ⊢; omega)
       ·refine hvs _ ?_
        rw [List.length_append,hlen]at hi
        omega
     have hc:=Awb E.P E.T f o.type hr o.dst hd _ _ hreps ivs he K h
     have hex:execOp a.eval o=callFunc f (args.map a.eval++vs):=by
      unfold execOp
      simp only [hop]
      unfold resolve
      simp only [hfo]
      simp [Deferred.ofValue,invoke]
     unfold Oper.wp
     rw [hex]
     unfold Comes1 at hc
     split at hc
     ·rename_i f' vs' w' heq
      rw [heq,Oper.upon_enter]
      refine hc.mono ?_
      rintro e w'' ⟨v,rfl,hup,g',st',h0,h1,h2,h3,h4⟩
      exact hq g' st' _ w'' hup (fun _=>h0) h1 h2 h3 h4
     ·rename_i v w' heq
      rw [heq,Oper.upon_value]
      obtain⟨hup,g',st',h0,h1,h2,h3,h4⟩:=hc
      exact hq g' st' _ w' hup (fun _=>h0) h1 h2 h3 h4
     ·exact hc.elim
    ·exact h.elim
   ·exact h.elim
  ·exact h.elim
 ·exact h.elim
theorem A0p(E:Env)(hT:Dc E.P E.T)(H:Jh)(hS:∀f bt,E.self f=some bt→Uq E.P f bt)(hH:∀f ac nt rs,E.inl f=some (ac,nt,rs)→∀args h Q,H ac nt rs args h Q→Call E.P f args h Q)(ops:Array Oper)(cl:Nat→Nat)(Q:Exit→Act→World→Prop):
 ∀(ord:List Nat) (g:G) (st:St) (a:Act) (w:World) (K:St→Prop),Ca E.nt g st a w→(∀u,NoW (lk st.tm u))→Ah5 E H ops.toList cl ord st K→
  (∀g' st' a' w',Evo g st.hp w g' st'.hp w'→Ca E.nt g' st' a' w'→(∀u,NoW (lk st'.tm u))→K st'→Q .normal a' w')→Rb E.P ops cl Up Q ord a w
 | [],g,st,a,w,K,hr,hn,h,hq=>hq g st a w (Evo.refl _ _ _) hr hn h
 |k::r,g,st,a,w,K,hr,hn,h,hq=>by
  have hw:Ao2 st.tm:=fun u t b want x e=>absurd e (hn u t b want x)
  simp only [Ah5]at h
  split at h
  ·exact h.elim
  rename_i o ho
  have ho':ops[k]? =some o:=by simpa using ho
  have wanted:∀a:Act,o.guard=none→Region.wanted o (yielded ops a.tmps)=true:=fun a hg=>by simp [Region.wanted,hg]
  simp only [Rb]
  have rest:∀(d:Option Nat) (hd:P8 E.nt d=true) (val:Value) (v:AV),RepA g val v→Ah5 E H ops.toList cl r (st.put d (noW v)) K→Rb E.P ops cl Up Q r (a.put d val) w:=by
   intro d hd val v hv hk
   obtain⟨r1,r2,r3⟩:=Ap7 hr hn d hd val v hv
   exact A0p E hT H hS hH ops cl Q r g _ _ w K r1 r2 hk (fun g' st' a' w' he=>hq g' st' a' w' (by rw [r3]at he;exact he))
  split at h
  ·rename_i hcl
   rw [hcl]
   unfold Ano at h
   simp only [Xx,Aj7]at h
   split at h
   ·rename_i hg hd
    split at h
    ·rename_i x hop
     exact⟨o,a.eval x,ho', .inl ⟨wanted a hg,fun w' _=>by unfold execOp;simp [hop]⟩,rest _ hd _ _ (Tq hr.tm _ _) h⟩
    ·rename_i x hop
     exact⟨o,a.eval x,ho', .inl ⟨wanted a hg,fun w' _=>by unfold execOp;simp [hop]⟩,rest _ hd _ _ (Tq hr.tm _ _) h⟩
    ·have key:=Axy E.P E.T hT hr.tm hn o
     split at h
     ·rename_i v hl
      split at h
      ·rename_i hdv
       obtain⟨s,h1,h2⟩:=key (by rw [hl];simp)
       rw [hl]at h2
       obtain⟨val,h3,h4⟩:=Ais (pr:= .ok v) hdv h2 trivial
       exact⟨o,val,ho', .inl ⟨wanted a hg,fun w' _=>by rw [h1];simp [h3 w']⟩,rest _ hd _ _ h4 h⟩
      ·exact h.elim
     ·rename_i c v hl
      split at h
      ·rename_i hdv
       obtain⟨hc,h⟩:=h
       obtain⟨s,h1,h2⟩:=key (by rw [hl];simp)
       rw [hl]at h2
       obtain⟨val,h3,h4⟩:=Ais (pr:= .req c v) hdv h2 hc
       exact⟨o,val,ho', .inl ⟨wanted a hg,fun w' _=>by rw [h1];simp [h3 w']⟩,rest _ hd _ _ h4 h⟩
      ·exact h.elim
     ·exact h.elim
   ·exact h.elim
  ·rename_i hcl
   rw [hcl]
   unfold Aug at h
   simp only [Xx]at h
   split at h
   ·rename_i hg hd
    split at h
    ·rename_i v hp
     obtain⟨val,h1,h2⟩:=pure_ok E.P E.T hT w g st a none o _ hr.tm hw trivial hr.sat _ hp
     exact⟨o,val,ho', .inl ⟨wanted a hg,h1⟩,rest _ hd _ _ h2 h⟩
    ·rename_i c v hp
     obtain⟨hc,h⟩:=h
     obtain⟨val,h1,h2⟩:=pure_ok E.P E.T hT w g st a none o _ hr.tm hw trivial hr.sat _ hp hc
     exact⟨o,val,ho', .inl ⟨wanted a hg,h1⟩,rest _ hd _ _ h2 h⟩
    ·exact h.elim
   ·exact h.elim
  ·rename_i hcl
   rw [hcl]
   have:=A2j E hT hr o _ h (fun a' w'=>Up w w'∧Rb E.P ops cl Up Q r a' w') Q (fun g' st' a' w' hup _ he hr' ht hk=>⟨hup,A0p E hT H hS hH ops cl Q r g' st' a' w' K hr' (Mw hn ht) (by simpa only [Od] using hk) (fun g2 st2 a2 w2 he2=>hq g2 st2 a2 w2 (he.trans he2))⟩)
   unfold wpOp
   simp only [ho',wanted a this.1,if_true]
   exact .inl this.2
  ·rename_i h01 h02 h03
   split at h
   ·rename_i hg hd
    have:wpOp E.P ops Q k (Rb E.P ops cl Up Q r) a w:=by
     unfold wpOp
     simp only [ho',wanted a hg,if_true]
     refine .inl (A7q E hT H hS hH hr o hd _ h _ Q fun g' st' a' w' he hr' ht hk=> ?_)
     exact A0p E hT H hS hH ops cl Q r g' st' a' w' K hr' (Mw hn ht) (by simpa only [Od] using hk) (fun g2 st2 a2 w2 he2=>hq g2 st2 a2 w2 (he.trans he2))
    generalize hx:cl k=x at h01 h02 h03 ⊢
    match x,h01,h02,h03 with
    |0,h,_,_=>exact absurd rfl h
    |1,_,h,_=>exact absurd rfl h
    |2,_,_,h=>exact absurd rfl h
    |n+3,_,_,_=>exact this
   ·exact h.elim
def UpX(X:Nat→Prop)(w w':World):Prop:=w.heap.size≤w'.heap.size∧∀b,b<w.heap.size→¬X b→w'.heap[b]? =w.heap[b]?
theorem A9f {hp:Heap} {ns:List Nm} (h:Azq hp ns=true):∀n,n∈ns→(∃ty cells,hget hp n=some (.blk ty cells))∧∀k j,n≠ .cell k j:=by
 induction ns with
 |nil=>intro n hn;cases hn
 |cons m r ih=>
  simp only [Azq,Bool.and_eq_true]at h
  intro n hn
  rcases List.mem_cons.1 hn with rfl |hn
  ·have h1:=h.1
   split at h1
   ·rename_i ty cells hg
    refine⟨⟨ty,cells,hg⟩,fun k j e=> ?_⟩
    subst e
    cases h1
   ·cases h1
  ·exact ih h.2 n hn
theorem Az5(E:Env)(hT:Dc E.P E.T)(ops:Array Oper)(cl:Nat→Nat)(ns:List Nm)(X:Nat→Prop)(Q:Exit→Act→World→Prop):
 ∀(ord:List Nat) (g:G) (st:St) (a:Act) (w:World) (K:St→Prop),(∀b,X b↔∃n∈ns,(∀k j,n≠ .cell k j)∧∃c l,g.base n=some ⟨some b,c,l⟩)→Ca E.nt g st a w→(∀u,NoW (lk st.tm u))→Apa E ns ops.toList cl ord st K→
  (∀g' st' a' w',Evo g st.hp w g' st'.hp w'→Ca E.nt g' st' a' w'→(∀u,NoW (lk st'.tm u))→K st'→Q .normal a' w')→Rb E.P ops cl (UpX X) Q ord a w
 | [],g,st,a,w,K,hX,hr,hn,h,hq=>hq g st a w (Evo.refl _ _ _) hr hn h
 |k::r,g,st,a,w,K,hX,hr,hn,h,hq=>by
  simp only [Apa]at h
  split at h
  ·exact h.elim
  rename_i o ho
  have ho':ops[k]? =some o:=by simpa using ho
  have wanted:∀a:Act,o.guard=none→Region.wanted o (yielded ops a.tmps)=true:=fun a hg=>by simp [Region.wanted,hg]
  simp only [Rb]
  have rest:∀(d:Option Nat) (hd:P8 E.nt d=true) (val:Value) (v:AV),RepA g val v→Apa E ns ops.toList cl r (st.put d (noW v)) K→Rb E.P ops cl (UpX X) Q r (a.put d val) w:=by
   intro d hd val v hv hk
   obtain⟨r1,r2,r3⟩:=Ap7 hr hn d hd val v hv
   exact Az5 E hT ops cl ns X Q r g _ _ w K hX r1 r2 hk (fun g' st' a' w' he=>hq g' st' a' w' (by rw [r3]at he;exact he))
  split at h
  ·rename_i hcl
   rw [hcl]
   unfold Ano at h
   simp only [Xx,Aj7]at h
   split at h
   ·rename_i hg hd
    split at h
    ·rename_i x hop
     exact⟨o,a.eval x,ho', .inl ⟨wanted a hg,fun w' _=>by unfold execOp;simp [hop]⟩,rest _ hd _ _ (Tq hr.tm _ _) h⟩
    ·rename_i x hop
     exact⟨o,a.eval x,ho', .inl ⟨wanted a hg,fun w' _=>by unfold execOp;simp [hop]⟩,rest _ hd _ _ (Tq hr.tm _ _) h⟩
    ·have key:=Axy E.P E.T hT hr.tm hn o
     split at h
     ·rename_i v hl
      split at h
      ·rename_i hdv
       obtain⟨s,h1,h2⟩:=key (by rw [hl];simp)
       rw [hl]at h2
       obtain⟨val,h3,h4⟩:=Ais (pr:= .ok v) hdv h2 trivial
       exact⟨o,val,ho', .inl ⟨wanted a hg,fun w' _=>by rw [h1];simp [h3 w']⟩,rest _ hd _ _ h4 h⟩
      ·exact h.elim
     ·rename_i c v hl
      split at h
      ·rename_i hdv
       obtain⟨hc,h⟩:=h
       obtain⟨s,h1,h2⟩:=key (by rw [hl];simp)
       rw [hl]at h2
       obtain⟨val,h3,h4⟩:=Ais (pr:= .req c v) hdv h2 hc
       exact⟨o,val,ho', .inl ⟨wanted a hg,fun w' _=>by rw [h1];simp [h3 w']⟩,rest _ hd _ _ h4 h⟩
      ·exact h.elim
     ·exact h.elim
   ·exact h.elim
  ·rename_i hcl
   rw [hcl]
   unfold Bd0 at h
   simp only [Xx]at h
   split at h
   ·rename_i t ad hg hd hop
    split at h
    ·rename_i n off hn'
     split at h
     ·rename_i T' cells v hmem hall hgn hl
      have hx:=Tq (T:=E.T) hr.tm t ad
      rw [hn']at hx
      obtain⟨val,b,c,l,hb,hlt,h1,h2⟩:=Bhq E.P E.T hT w g st.hp hr.sat t (a.eval ad) n off hx T' cells hgn v hl
      have hXb:¬X b:=by
       intro hxb
       obtain⟨m,hm,hmc,c',l',hbm⟩:=(hX b).1 hxb
       obtain⟨⟨ty,cs,hgm⟩,_⟩:=A9f hall m hm
       have:=hr.sat.inj n m _ _ b _ _ _ _ hgn hgm hb hbm
       subst this
       rw [(Lb _ _).2 hm]at hmem
       cases hmem
      refine⟨o,val,ho', .inl ⟨wanted a hg,fun w' hw'=> ?_⟩,rest _ hd _ _ h2 h⟩
      have:=h1 w' (hw'.2 b hlt hXb)
      unfold execOp
      simp only [hop]
      simp [this]
     ·exact h.elim
    ·exact h.elim
   ·exact h.elim
  ·rename_i hcl
   rw [hcl]
   unfold Bdz at h
   split at h
   ·rename_i fo args ts hop
    have:=A2j E hT hr o _ h (fun a' w'=>UpX X w w'∧Rb E.P ops cl (UpX X) Q r a' w') Q (fun g' st' a' w' hup hb he hr' ht hk=>⟨⟨hup.size,fun b hb' _=>hup b hb'⟩,Az5 E hT ops cl ns X Q r g' st' a' w' K (fun b=>by rw [hb ⟨_,_,_,hop⟩];exact hX b) hr' (Mw hn ht) (by simpa only [Od] using hk) (fun g2 st2 a2 w2 he2=>hq g2 st2 a2 w2 (he.trans he2))⟩)
    unfold wpOp
    simp only [ho',wanted a this.1,if_true]
    exact .inl this.2
   unfold Bd1 at h
   split at h
   ·rename_i t ad x hg hd hop
    split at h
    ·rename_i n off hn' hk
     simp only [Bool.and_eq_true]at hk
     obtain⟨hk0,hk1,hk2⟩:=hk
     split at h
     ·rename_i hmem
      simp only [Bool.and_eq_true,Bool.not_eq_true']at hmem
      have hnc:∀k j,n≠ .cell k j:=fun k j e=>by subst e;have:=hmem.2;cases this
      unfold Auh at h
      simp only at h
      split at h
      ·rename_i bty cells hgn
       split at h
       ·rename_i hf
        simp only [Bool.and_eq_true]at hf
        have hx:=Tq (T:=E.T) hr.tm 0 ad
        rw [hn']at hx
        obtain⟨g',w',h1,⟨f1,f2,f3⟩,h2,h3,h4⟩:=A4h E.P E.T hT hr t (Mv hk0) (a.eval ad) (a.eval x) n off _ hx (Tq hr.tm t x) hk1 (by simpa using hk2) bty cells hgn (by simpa using hf.1) hf.2 (tl E.T t).sh
        have hex:(execOp a.eval o).run E.P w= .ok .skip w':=by
         unfold execOp
         simp only [hop]
         simp [h1]
        have hmn:=(Lb _ _).1 hmem.1
        unfold wpOp
        simp only [ho',wanted a hg,if_true]
        refine .inl ?_
        unfold Oper.wp
        rw [hex,Oper.upon_skip]
        refine⟨⟨f2,fun b hb hXb=>f1 b fun c l hbn=>hXb ((hX b).2 ⟨n,hmn,hnc,c,l,hbn⟩)⟩, ?_⟩
        simp only [Od]at h
        refine Az5 E hT ops cl ns X Q r g' _ _ w' K (fun b=> ?_) (C8 hr.size hr.defers h3 h4 o.dst hd undef .undef (.undef _)) (Mw (o:=o) hn (TmS.put _ _ _ _ _ Qu)) h (fun g2 st2 a2 w2 he2=>hq g2 st2 a2 w2 (h2.trans (by
         rw [show(St.put _ o.dst AV.undef).hp=_ from by cases o.dst<;>rfl]at he2
         exact he2)))
        rw [hX b]
        constructor
        ·rintro⟨m,hm,hmc,c,l,hbm⟩
         exact⟨m,hm,hmc,c,l,by rw [f3 m hmc];exact hbm⟩
        ·rintro⟨m,hm,hmc,c,l,hbm⟩
         exact⟨m,hm,hmc,c,l,by rw [←f3 m hmc];exact hbm⟩
       ·exact h.elim
      ·exact h.elim
     ·exact h.elim
    ·exact h.elim
   ·exact h.elim
  ·exact h.elim
theorem Anq(ρ:Operand→Value)(o:Oper):execOp ρ (unG o)=execOp ρ o:=rfl
theorem Af0 {ops:Array Oper} {nt:Nat} {g:G} {st:St} {a:Act} {w:World} (hr:Ca nt g st a w) {o:Oper} {b:Bool} (h:Anu ops.toList st o=some b):Region.wanted o (yielded ops a.tmps)=b:=by
 unfold Anu at h
 split at h
 ·rename_i hg
  injection h with h
  subst h
  simp [Region.wanted,hg]
 ·rename_i j want hg
  split at h
  ·rename_i oj hj
   have hj':ops[j]? =some oj:=by simpa using hj
   split at h
   ·rename_i t ht
    split at h
    ·rename_i c hc
     injection h with h
     have hv:=hr.tm t
     rw [hc]at hv
     rw [Region.wanted,hg]
     simp only [Ail hj' ht (Om hv)]
     subst h
     cases c<;>cases want<;>rfl
    ·cases h
   ·cases h
  ·cases h
theorem Bkr {nt:Nat} (ops:List Oper)(k:Nat) {g:G} {st:St} {a:Act} {w:World} (hr:Ca nt g st a w)(hn:∀u,NoW (lk st.tm u))(K:St→Prop)(h:Ah6 ops k st K):∃st',Ca nt g st' a w∧(∀u,NoW (lk st'.tm u))∧st'.hp=st.hp∧K st':=by
 unfold Ah6 at h
 split at h
 ·exact⟨st,hr,hn,rfl,h⟩
 ·split at h
  ·rename_i o ho
   split at h
   ·rename_i d hd
    split at h
    ·rename_i b hb
     have hv:=hr.tm d
     rw [hb]at hv
     have key:∀c,b=c→Ca nt g (st.put (some d) (.imm (.bool c))) a w∧∀u,NoW (lk (st.put (some d) (.imm (.bool c))).tm u):=by
      intro c hc
      subst hc
      refine⟨⟨hr.size,hr.defers,fun u=> ?_,hr.sat⟩,fun u=> ?_⟩
      ·show RepA g _ (lk ((d,AV.imm (.bool b))::st.tm) u)
       rw [Fu]
       split
       ·rename_i e;subst e;exact hv
       ·exact hr.tm u
      ·show NoW (lk ((d,AV.imm (.bool b))::st.tm) u)
       rw [Fu]
       split
       ·intro t b w x h;cases h
       ·exact hn u
     cases b with
     |true=>obtain⟨k1,k2⟩:=key true rfl;exact⟨_,k1,k2,rfl,h.1 rfl⟩
     |false=>obtain⟨k1,k2⟩:=key false rfl;exact⟨_,k1,k2,rfl,h.2 rfl⟩
    ·exact h.elim
   ·exact h.elim
  ·exact h.elim
theorem A0s {ops:Array Oper} {cl:Nat→Nat} {listed:Array Bool} {k:Nat} :∀ {l:List Nat},A51 ops cl listed l=some k→k∈l∧Region.free .any ops listed k=true∧(cl k=0∨(cl k=1∧Auk .any ops cl k=true∧Bbz cl ops.size k listed=true))
 | [],h=>by cases h
 |j::r,h=>by
  unfold A51 at h
  split at h
  ·rename_i hc
   injection h with h
   subst h
   split at hc
   ·rename_i h0
    exact⟨by simp,hc, .inl h0⟩
   ·rename_i h1
    simp only [Bool.and_eq_true]at hc
    exact⟨by simp,hc.1, .inr ⟨h1,hc.2⟩⟩
   ·cases hc
  ·obtain⟨h1,h2⟩:=A0s h
   exact⟨by simp [h1],h2⟩
theorem A3u {F:Nat→Prop} :∀ {l:List Nat},Bgg l F→∀k∈l,F k
 | [],_,k,hk=>by cases hk
 | [j],h,k,hk=>by
   have:k=j:=by simpa using hk
   subst this
   exact h
 |j::i::r,h,k,hk=>by
  rcases List.mem_cons.1 hk with rfl |hk
  ·exact h.1
  ·exact A3u (l:=i::r) h.2 k hk
theorem A4a(E:Env)(hT:Dc E.P E.T)(H:Jh)(ops:Array Oper)(cl:Nat→Nat)(k:Nat)(hcl:cl k=0∨cl k=1) {g:G} {st:St} {a:Act} {w:World} (hr:Ca E.nt g st a w)(hn:∀u,NoW (lk st.tm u))(K:St→Prop)(h:A7d E H ops.toList cl k st K):
 ∃o v V,ops[k]? =some o∧Ans E.P ops (fun w'=>cl k=0∨Up w w') o v a∧Ca E.nt g (st.put o.dst V) (a.put o.dst v) w∧(∀u,NoW (lk (st.put o.dst V).tm u))∧(st.put o.dst V).hp=st.hp∧K (st.put o.dst V):=by
 have hw:Ao2 st.tm:=fun u t b want x e=>absurd e (hn u t b want x)
 unfold A7d at h
 split at h
 ·exact h.elim
 rename_i o ho
 have ho':ops[k]? =some o:=by simpa using ho
 split at h
 ·exact h.elim
 rename_i hd
 split at h
 ·exact h.elim
 ·rename_i hg
  refine⟨o,undef, .undef,ho', .inr ⟨Af0 hr hg,rfl⟩,C8 hr.size hr.defers hr.tm hr.sat o.dst hd _ _ (.undef _),Mw (o:=o) hn (TmS.put0 _ _ _ _ Qu),by cases o.dst<;>rfl,h⟩
 ·rename_i hg
  have want:=Af0 hr hg
  have mk:∀(val:Value) (v:AV),RepA g val v→(∀w',(cl k=0∨Up w w')→(execOp a.eval o).run E.P w'= .ok (.value val) w')→K (st.put o.dst (noW v))→∃o v V,ops[k]? =some o∧Ans E.P ops (fun w'=>cl k=0∨Up w w') o v a∧Ca E.nt g (st.put o.dst V) (a.put o.dst v) w∧(∀u,NoW (lk (st.put o.dst V).tm u))∧(st.put o.dst V).hp=st.hp∧K (st.put o.dst V):=by
   intro val v hv hx hk
   obtain⟨r1,r2,r3⟩:=Ap7 hr hn o.dst hd val v hv
   exact⟨o,val,noW v,ho', .inl ⟨want,hx⟩,r1,r2,r3,hk⟩
  split at h
  ·rename_i hc0
   unfold Ano at h
   simp only [Xx,Aj7]at h
   split at h
   ·split at h
    ·rename_i x hop
     exact mk _ _ (Tq hr.tm _ _) (fun w' _=>by rw [←Anq];unfold execOp;simp [hop]) h
    ·rename_i x hop
     exact mk _ _ (Tq hr.tm _ _) (fun w' _=>by rw [←Anq];unfold execOp;simp [hop]) h
    ·have key:=Axy E.P E.T hT hr.tm hn (unG o)
     split at h
     ·rename_i v hl
      split at h
      ·rename_i hdv
       obtain⟨s,h1,h2⟩:=key (by rw [hl];simp)
       rw [hl]at h2
       obtain⟨val,h3,h4⟩:=Ais (pr:= .ok v) hdv h2 trivial
       exact mk val v h4 (fun w' _=>by rw [←Anq,h1];simp [h3 w']) h
      ·exact h.elim
     ·rename_i c v hl
      split at h
      ·rename_i hdv
       obtain⟨hc,h⟩:=h
       obtain⟨s,h1,h2⟩:=key (by rw [hl];simp)
       rw [hl]at h2
       obtain⟨val,h3,h4⟩:=Ais (pr:= .req c v) hdv h2 hc
       exact mk val v h4 (fun w' _=>by rw [←Anq,h1];simp [h3 w']) h
      ·exact h.elim
     ·exact h.elim
   ·exact h.elim
  ·rename_i hc1
   have up:∀w',(cl k=0∨Up w w')→Up w w':=fun w' h=>h.resolve_left (by rw [hc1];simp)
   unfold Aug at h
   simp only [Xx]at h
   split at h
   ·split at h
    ·rename_i v hp
     obtain⟨val,h1,h2⟩:=pure_ok E.P E.T hT w g st a none (unG o) _ hr.tm hw trivial hr.sat _ hp
     exact mk val v h2 (fun w' hu=>by rw [←Anq];exact h1 w' (up w' hu)) h
    ·rename_i c v hp
     obtain⟨hc,h⟩:=h
     obtain⟨val,h1,h2⟩:=pure_ok E.P E.T hT w g st a none (unG o) _ hr.tm hw trivial hr.sat _ hp hc
     exact mk val v h2 (fun w' hu=>by rw [←Anq];exact h1 w' (up w' hu)) h
    ·exact h.elim
   ·exact h.elim
  ·rename_i h2
   rcases hcl with e |e<;>rw [e]at h2<;>cases h2
  ·rename_i h0 h1 h2
   rcases hcl with e |e
   ·exact absurd e h0
   ·exact absurd e h1
theorem Bde(E:Env)(hT:Dc E.P E.T)(H:Jh)(hS:∀f bt,E.self f=some bt→Uq E.P f bt)(hH:∀f ac nt rs,E.inl f=some (ac,nt,rs)→∀args h Q,H ac nt rs args h Q→Call E.P f args h Q)(ops:Array Oper)(cl:Nat→Nat)(Q:Exit→Act→World→Prop)
 (hsel:Region.noSelect ops=true)(hc:Atc .any ops cl=true)(hQ:∀c a w,¬Q (.panic c) a w):
 ∀(f:Nat) (listed:Array Bool) (g:G) (st:St) (a:Act) (w:World) (K:St→Prop),MixInv .any ops listed→Ca E.nt g st a w→(∀u,NoW (lk st.tm u))→Acv E H ops cl f listed st K→
  (∀g' st' a' w',Evo g st.hp w g' st'.hp w'→Ca E.nt g' st' a' w'→(∀u,NoW (lk st'.tm u))→K st'→Q .normal a' w')→J3 E.P .any ops cl Up Q f listed a w
 |0,listed,g,st,a,w,K,inv,hr,hn,h,hq=>by
  simp only [Acv]at h
  split at h
  ·rename_i hrd
   exact⟨hrd,hq g st a w (Evo.refl _ _ _) hr hn h⟩
  ·exact h.elim
 |f+1,listed,g,st,a,w,K,inv,hr,hn,h,hq=>by
  simp only [Acv]at h
  split at h
  ·rename_i hrd
   exact⟨fun _=>hq g st a w (Evo.refl _ _ _) hr hn h,fun i hi=>(by rw [hrd]at hi;cases hi)⟩
  rename_i k0 r hrd
  have go:∀k,k∈Region.ready .any ops listed→∀(g':G) (st':St) (a':Act) (w':World),Evo g st.hp w g' st'.hp w'→Ca E.nt g' st' a' w'→(∀u,NoW (lk st'.tm u))→
   (Ah6 ops.toList k st' fun st=>Acv E H ops cl f (listed.setIfInBounds k true) st K)→J3 E.P .any ops cl Up Q f (listed.setIfInBounds k true) a' w':=by
   intro k hk g' st' a' w' he hr' hn' h'
   obtain⟨st2,s1,s2,s3,s4⟩:=Bkr _ _ hr' hn' _ h'
   exact Bde E hT H hS hH ops cl Q hsel hc hQ f _ g' st2 a' w' K (inv.set hk) s1 s2 s4 (fun g2 st3 a2 w2 he2=>hq g2 st3 a2 w2 (he.trans (s3 ▸ he2)))
  split at h
  ·rename_i k hp
   obtain⟨hk,hfree,hcl⟩:=A0s hp
   rw [←hrd]at hk
   obtain⟨o,v,V,ho,hy,r1,r2,r3,hk2⟩:=A4a E hT H ops cl k (hcl.imp id (·.1)) hr hn _ h
   have hnext:=go k hk g _ _ w (r3 ▸ Evo.refl _ _ _) r1 r2 hk2
   rcases hcl with hcl |⟨hcl,hh,hlt⟩
   ·exact Alg Up.refl (fun _ _ _ h g=>h.trans g) true ho (.inl hcl) (Region.noSelect_spec hsel) hQ (fun h=>by cases h) f listed a w inv (fun h=>by cases h) (Region.free_spec ho hfree) hk (hy.mono fun w' _=> .inl hcl) hnext
   ·refine Alg Up.refl (fun _ _ _ h g=>h.trans g) false ho (.inr hcl) (Region.noSelect_spec hsel) hQ (fun _ listed' inv' hun hlt' t ht hr'=> ?_) f listed a w inv (fun _ t ht=> ?_) (Region.free_spec ho hfree) hk (hy.mono fun w' hw=> .inr (hw.resolve_left (by simp))) hnext
    ·rcases hlt' t ht with h |h |h
     ·obtain⟨h0,_⟩:=mem_ready.1 hr'
      rw [getD_both h0]at h
      cases h
     ·exact held hc inv' _ k rfl hh hun t h ht hr'
     ·obtain⟨_,ot,hot,_⟩:=mem_ready.1 hr'
      have:=(Array.getElem?_eq_some_iff.1 hot).1
      omega
    ·rcases Nat.lt_or_ge t ops.size with h |h
     ·have:=List.all_eq_true.1 hlt t (List.mem_range.2 h)
      rw [ht]at this
      simp only [Bool.not_true,Bool.false_or,Bool.or_eq_true,decide_eq_true_eq]at this
      exact this.imp id .inl
     ·exact .inr (.inr h)
  ·refine⟨fun h=>(by rw [hrd]at h;cases h),fun k hk=> ?_⟩
   have h:=A3u h k (hrd ▸ hk)
   have still:(cl k=0∨cl k=1)→∃o v,ops[k]? =some o∧Ans E.P ops (fun w'=>w'=w) o v a∧J3 E.P .any ops cl Up Q f (listed.setIfInBounds k true) (a.put o.dst v) w:=by
    intro hcl
    obtain⟨o,v,V,ho,hy,r1,r2,r3,hk2⟩:=A4a E hT H ops cl k hcl hr hn _ h
    exact⟨o,v,ho,hy.mono fun w' e=> .inr (e ▸ Up.refl _),go k hk g _ _ w (r3 ▸ Evo.refl _ _ _) r1 r2 hk2⟩
   have more:(cl k≠0∧cl k≠1)→∃o,ops[k]? =some o∧P8 E.nt o.dst=true∧(Anu ops.toList st o=some false∧(Ah6 ops.toList k (st.put o.dst .undef) fun st=>Acv E H ops cl f (listed.setIfInBounds k true) st K)∨
    Anu ops.toList st o=some true∧((cl k=2∧Anp E st (unG o) fun st=>Zr st fun st=>Ah6 ops.toList k st fun st=>Acv E H ops cl f (listed.setIfInBounds k true) st K)∨
     (cl k≠2∧Ah4 E (some H) st (unG o) fun st=>Zr st fun st=>Ah6 ops.toList k st fun st=>Acv E H ops cl f (listed.setIfInBounds k true) st K))):=by
    rintro⟨c0,c1⟩
    unfold A7d at h
    split at h
    ·exact h.elim
    rename_i o ho
    split at h
    ·exact h.elim
    rename_i hd
    refine⟨o,by simpa using ho,hd, ?_⟩
    split at h
    ·exact h.elim
    ·rename_i hg
     exact .inl ⟨hg,h⟩
    ·rename_i hg
     refine .inr ⟨hg, ?_⟩
     split at h
     ·rename_i e;exact absurd e c0
     ·rename_i e;exact absurd e c1
     ·rename_i e;exact .inl ⟨e,h⟩
     ·rename_i e2;exact .inr ⟨e2,h⟩
   have skip:∀o,ops[k]? =some o→P8 E.nt o.dst=true→Anu ops.toList st o=some false→(Ah6 ops.toList k (st.put o.dst .undef) fun st=>Acv E H ops cl f (listed.setIfInBounds k true) st K)→
    ∀(R:World→Prop),R w→wpOp E.P ops Q k (fun a' w'=>R w'∧J3 E.P .any ops cl Up Q f (listed.setIfInBounds k true) a' w') a w:=by
    intro o ho hd hg h R hR
    unfold wpOp
    simp only [ho,Af0 hr hg]
    have r3:(st.put o.dst AV.undef).hp=st.hp:=by cases o.dst<;>rfl
    exact⟨hR,go k hk g (st.put o.dst .undef) _ w (by rw [r3];exact Evo.refl _ _ _) (C8 hr.size hr.defers hr.tm hr.sat o.dst hd _ _ (.undef _)) (Mw (o:=o) hn (TmS.put0 _ _ _ _ Qu)) h⟩
   split
   ·rename_i hcl
    exact still (.inl hcl)
   ·rename_i hcl
    exact still (.inr hcl)
   ·rename_i hcl
    obtain⟨o,ho,hd,⟨hg,h⟩ |⟨hg,⟨_,h⟩ |⟨e,_⟩⟩⟩:=more (by rw [hcl];simp)
    ·exact skip o ho hd hg h (Up w) (Up.refl _)
    ·have:=A2j E hT hr (unG o) _ h (fun a' w'=>Up w w'∧J3 E.P .any ops cl Up Q f (listed.setIfInBounds k true) a' w') Q (fun g' st' a' w' hup _ he hr' ht hk2=>⟨hup,go k hk g' st' a' w' he hr' (Mw (o:=unG o) hn ht) (by simpa only [Od] using hk2)⟩)
     unfold wpOp
     simp only [ho,Af0 hr hg,if_true]
     exact .inl this.2
    ·exact absurd hcl e
   ·rename_i h0 h1 h2
    obtain⟨o,ho,hd,⟨hg,h⟩ |⟨hg,⟨e,_⟩ |⟨_,h⟩⟩⟩:=more ⟨h0,h1⟩
    ·exact wpOp_mono (fun a' w' h=>h.2) (skip o ho hd hg h (fun _=>True) trivial)
    ·exact absurd e h2
    ·unfold wpOp
     simp only [ho,Af0 hr hg,if_true]
     refine .inl (A7q E hT H hS hH hr (unG o) hd _ h _ Q fun g' st' a' w' he hr' ht hk2=> ?_)
     exact go k hk g' st' a' w' he hr' (Mw (o:=unG o) hn ht) (by simpa only [Od] using hk2)
theorem Aqh(E:Env)(hT:Dc E.P E.T)(hm:E.P.follows .mixedOrders=true)(H:Jh)(hS:∀f bt,E.self f=some bt→Uq E.P f bt)(hH:∀f ac nt rs,E.inl f=some (ac,nt,rs)→∀args h Q,H ac nt rs args h Q→Call E.P f args h Q)(id:Nat)(ops:Array Oper)(st:St)(hn:∀u,NoW (lk st.tm u))(Q:Ex→St→Prop)
 (h:A5z E H ops st (Q .normal)):WP E.P E.nt (.region id ops true) st Q:=by
 refine⟨fun g a w hr=> ?_⟩
 obtain⟨hr1,he1⟩:=Ayj hr
 have fin:∀cl ord,A28 ops cl ord=true→Ah5 E H ops.toList cl ord st (Q .normal)→(Code.region id ops true).wp E.P (Post E.nt g st.hp w Q) a w:=fun cl ord hB ho=>
  Aqk Up.refl (fun _ _ _ h g=>h.trans g) cl ord hm hB (fun c a w h=>by obtain⟨x,st',g',h1,_⟩:=h;cases h1)
   (A0p E hT H hS hH ops cl _ ord g st a _ _ hr1 hn ho (fun g' st' a' w' he hr' hn' hk=>⟨.normal,st',g',rfl,he1.trans he,hr',hn',hk⟩))
 have key:∀l:List (Bool × Bool),Az3 E H ops st (Q .normal) l→(Code.region id ops true).wp E.P (Post E.nt g st.hp w Q) a w:=by
  intro l
  induction l with
  |nil=>intro h;exact h.elim
  |cons v r ih=>
   intro h
   simp only [Az3]at h
   split at h
   ·rename_i hB
    exact fin _ _ hB h
   ·exact ih h
 unfold A5z at h
 split at h
 ·exact key _ h
 ·split at h
  ·rename_i hB
   let ns:=Axu st ops.toList ops.toList
   let X:Nat→Prop:=fun b=>∃n∈ns,(∀k j,n≠ .cell k j)∧∃c l,g.base n=some ⟨some b,c,l⟩
   exact Aqk (R:=UpX X) (fun w=>⟨Nat.le_refl _,fun _ _ _=>rfl⟩) (fun a b c h1 h2=>⟨Nat.le_trans h1.1 h2.1,fun k hk hx=>(h2.2 k (Nat.lt_of_lt_of_le hk h1.1) hx).trans (h1.2 k hk hx)⟩) _ _ hm hB (fun c a w h=>by obtain⟨x,st',g',h1,_⟩:=h;cases h1)
    (Az5 E hT ops _ ns X _ _ g st a _ _ (fun b=>Iff.rfl) hr1 hn h (fun g' st' a' w' he hr' hn' hk=>⟨.normal,st',g',rfl,he1.trans he,hr',hn',hk⟩))
  ·split at h
   ·rename_i hb
    simp only [Bool.and_eq_true]at hb
    exact A5o Up.refl (A5t E ops) hm (fun c a w h=>by obtain⟨x,st',g',h1,_⟩:=h;cases h1)
     (Bde E hT H hS hH ops (A5t E ops) _ hb.1 hb.2 (fun c a w h=>by obtain⟨x,st',g',h1,_⟩:=h;cases h1) ops.size _ g st a _ _ ⟨by simp,fun j oj _ hl=>(by rw [getD_replicate_false]at hl;cases hl)⟩ hr1 hn h
      (fun g' st' a' w' he hr' hn' hk=>⟨.normal,st',g',rfl,he1.trans he,hr',hn',hk⟩))
   ·exact h.elim
end Go.Proofs.Sim

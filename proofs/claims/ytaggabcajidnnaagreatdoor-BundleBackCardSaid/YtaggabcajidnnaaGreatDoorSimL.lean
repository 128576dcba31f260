import Derived.Test.YtaggabcajidnnaaGreatDoorSimK
import Derived.Lib.UnsafeStr
namespace Go.Proofs.Sim
open Go
theorem Mv {T:TT} {t:Nat} (h:Ww T t=true):(tl T t).td≠ .missing:=by
 intro e
 unfold Ww at h
 rw [e]at h
 cases h
theorem Aeq {T:TT} {t:Nat} (h:Ww T t=true):∀ts,(tl T t).td≠ .tuple ts:=by
 intro ts e
 unfold Ww at h
 rw [e]at h
 cases h
theorem Bpk(P:Program)(T:TT)(hT:Dc P T) {t tx elem esz eb:Nat} {esh:List CS} (ht:(tl T t).td= .slice elem esz eb esh)(he:Ww T elem=true) {hp:Heap} {x:AV} {sz:Nat} {xs:List (List IV)} (hx:rowsOf (tl T tx) hp sz x=some xs):A07 P t tx elem esz eb:=by
 have h1:=(hT.ok t (by rw [ht];simp)).td
 rw [ht]at h1
 obtain⟨hu,i,hi,hs,hb⟩:=h1
 obtain⟨i',hi',q1,q2,hz⟩:=(hT.ok elem (Mv he)).info
 obtain⟨z,q3,q4,q5,q6,q7⟩:=hz (Aeq he)
 rw [hi]at hi'
 injection hi' with hi'
 subst hi'
 refine⟨hu,⟨i,z,hi,hs,hb,q3,by omega⟩, ?_⟩
 unfold rowsOf at hx
 split at hx
 ·rename_i hd
  have h2:=(hT.ok tx (by rw [hd];simp)).td
  rw [hd]at h2
  exact⟨_,h2.1,by simp⟩
 ·rename_i hd
  have h2:=(hT.ok tx (by rw [hd];simp)).td
  rw [hd]at h2
  exact⟨_,h2.1,by simp⟩
 ·rename_i hd
  have h2:=(hT.ok tx (by rw [hd];simp)).td
  rw [hd]at h2
  exact⟨_,h2,by simp⟩
 ·cases hx
theorem Bha(l:List Value)(i:Nat):l.toArray.getD i undef=l.getD i undef:=by simp [Array.getD_eq_getD_getElem?,List.getD_eq_getElem?_getD]
theorem An3(n:Nm):NoW (.own n):=fun _ _ _ _ h=>by cases h
theorem Bnw(n:Nm)(s o l:Nat):NoW (.win n s o l):=fun _ _ _ _ h=>by cases h
theorem Bo8(n:Nm):NoW (.mp n):=fun _ _ _ _ h=>by cases h
theorem A0f(n:Nm)(o:Nat):NoW (.ptr n o):=fun _ _ _ _ h=>by cases h
theorem A8f(l:List AV):NoW (.tup l):=fun _ _ _ _ h=>by cases h
theorem Qu:NoW .undef:=fun _ _ _ _ h=>by cases h
theorem Bb6(P:Program)(xt e:Nat)(hu:P.underlying xt=some (.slice e))(ox oy:Operand)(a:Option Addr)(len cap:Nat)(w:World)(neg:Bool):
 (do eqGuard (if neg then .neq else .eql) xt ox oy (.slice a len cap) (.slice none 0 0);binOp (if neg then .neq else .eql) xt (.slice a len cap) (.slice none 0 0):Sem Value).run P w= .ok (.bool (if a=none then !neg else neg)) w:=by
 have key:∀d,(Op.equalIn (d+1) xt (.slice a len cap) (.slice none 0 0)).run P w= .ok a.isNone w:=by
  intro d
  cases a<;>simp [Op.equalIn,run_underlying hu]
 have key2:(Op.equal xt (.slice a len cap) (.slice none 0 0)).run P w= .ok a.isNone w:=key 9999
 cases neg<;>cases a<;>simp [eqGuard,binOp,key2]
theorem A38(P:Program) {nt:Nat} {g:G} {st:St} {a:Act} {w:World} (hr:Ca nt g st a w)(d:Nat)(hd:d<nt)(xt e:Nat)(hu:P.underlying xt=some (.slice e))(ox oy:Operand)(neg:Bool)(x:Value)(X:AV)(hx:RepA g x X)(K:St→Prop)(hk:Apb neg st d X K):
 ∃b,Did P nt g st a w (do eqGuard (if neg then .neq else .eql) xt ox oy x (.slice none 0 0);binOp (if neg then .neq else .eql) xt x (.slice none 0 0)) (some d) (St.put st (some d) (.imm (.bool b)))∧K (St.put st (some d) (.imm (.bool b))):=by
 have fin:∀(ad:Option Addr) (len cap:Nat) (rows:List (List IV)),x= .slice ad len cap→(ad=none→rows=[])→Ba4 (rows=[]) (K (St.put st (some d) (.imm (.bool (!neg))))) (K (St.put st (some d) (.imm (.bool neg))))→
  ∃b,Did P nt g st a w (do eqGuard (if neg then .neq else .eql) xt ox oy x (.slice none 0 0);binOp (if neg then .neq else .eql) xt x (.slice none 0 0)) (some d) (St.put st (some d) (.imm (.bool b)))∧K (St.put st (some d) (.imm (.bool b))):=by
  rintro ad len cap rows rfl hn ⟨h1,h2⟩
  refine⟨if ad=none then !neg else neg,⟨_,w,g,Bb6 P xt e hu ox oy ad len cap w neg,Evo.refl _ _ _,C8 hr.size hr.defers hr.tm hr.sat (some d) (by simpa [P8,Nat.blt_eq] using hd) _ _ (Qi _ _)⟩, ?_⟩
  split
  ·rename_i h;exact h1 (hn h)
  ·exact h2
 unfold Apb at hk
 split at hk
 ·rename_i k sz rows
  have h0:=D5 hx
  cases h0 with |sl ad cap _ _ _ b o vs q1 q2 q3 q4 q5=>
  refine fin ad rows.length cap rows rfl (fun h=> ?_) hk
  have:=q2 h
  exact List.eq_nil_of_length_eq_zero (by omega)
 ·rename_i n
  split at hk
  ·rename_i ty wr sz rows hg
   cases hx with |own _ ad c len hb=>
   refine fin _ len c rows rfl (fun h=> ?_) hk
   have hent:=hr.sat.ent _ _ hg
   cases hent with
   |nil=>rfl
   |arr _ _ _ _ b cap cs T fz q1=>
    rw [hb]at q1;injection q1 with q1;injection q1 with q1;subst q1;cases h
  ·exact hk.elim
 ·exact hk.elim
theorem A34 {y:Operand} (h:Ac9 y=true):y= .const (.slice none 0 0):=by
 unfold Ac9 at h
 split at h
 ·rfl
 ·cases h
theorem Bfh(ti:TI)(hp:Heap)(e sz eb:Nat)(esh:List CS)(htd:ti.td= .slice e sz eb esh)(rows:List (List IV))(LO HI MX:Option AV)(c:Prop)(l h:Nat)(hb:Afw rows.length LO HI MX=some (c,l,h)):
 Abl ti hp false (.imm (.sl .any sz rows)) LO HI MX= .req c (.imm (.sl .any sz (A19 LO HI l h rows))):=by
 simp only [Abl,htd,hb]
 simp
theorem Aqg(P:Program)(w:World)(b:Nat):∀(ns:List Int) (o:Nat) (acc:ByteArray),(∀j,j<ns.length→w.cell? ⟨b,o+j,none⟩=some (.int .u8 (ns.getD j 0)))→
 (loadBytes ⟨b,o,none⟩ acc ns.length).run P w= .ok ⟨acc.data++(ns.map fun n=>UInt8.ofNat n.toNat).toArray⟩ w
 | [],o,acc,_=>by simp [loadBytes]
 |n::ns,o,acc,h=>by
  have h0:w.cell? ⟨b,o,none⟩=some (.int .u8 n):=by have:=h 0 (by simp);simpa using this
  have ih:=Aqg P w b ns (o+1) (acc.push (UInt8.ofNat n.toNat)) (fun j hj=>by
   have:=h (j+1) (by simpa using hj)
   rw [show o+1+j=o+(j+1)by omega]
   simpa using this)
  have hx:n.toNat.toUInt8=UInt8.ofNat n.toNat:=rfl
  simp only [List.length_cons,loadBytes,Sem.run_bind,run_load,h0,Result.andThen,hx,M6]
  rw [ih]
  congr 1
  apply ByteArray.ext
  simp [ByteArray.push]
theorem Ayr(P:Program)(w:World)(pt it ty e:TypeId)(hp:P.underlying pt=some (.pointer e))(hc:P.cellsOf e=1)(g cells:Nat)(hsh:w.shape? g=some (e,cells))(ns:List Int)(h0:ns≠[])(hn:ns.length≤cells)(h63:ns.length≤9223372036854775807)
 (hcell:∀j,j<ns.length→w.cell? ⟨g,0+j,none⟩=some (.int .u8 (ns.getD j 0))):
 (Builtin.unsafeString_ #[pt,it] ty #[.pointer (some ⟨g,0,none⟩), .int .i64 ns.length]).run P w= .ok (.string ⟨(ns.map fun n=>UInt8.ofNat n.toNat).toArray⟩) (w.freeze ⟨g,0,none⟩ ns.length):=by
 have hl:ns.length≠0:=by simpa using h0
 have hlb:=Aqg P w g ns 0 .empty hcell
 have hlies:=Lib.liesAt_bytes (P:=P) hc (cells / P.cellsOf e) ns.length (by rw [hc];simpa using hn)
 have h63':¬(9223372036854775807:Int)<(ns.length:Int):=by omega
 have hdef:Builtin.unsafeString_ #[pt,it] ty #[.pointer (some ⟨g,0,none⟩), .int .i64 ns.length]=
  (do
   let n ←asInt (.int .i64 ns.length)
   if n<0 then runtimePanic (.error "unsafe.String: len out of range")
   if n>IntKind.i64.max then unsupported (.unsafePointer "String: a length above the largest int")
   if n=0 then pure (.string .empty)
   else if ←variablesAt ⟨g,0,none⟩ (←elemOf pt) n.toNat then do
    let s ←loadBytes ⟨g,0,none⟩ .empty n.toNat
    freeze ⟨g,0,none⟩ n.toNat
    pure (.string s)
   else unsupported (.unsafePointer "String: not so many bytes at ptr")):=rfl
 rw [hdef]
 have hmax:IntKind.i64.max=9223372036854775807:=rfl
 have hneg:¬(ns.length:Int)<0:=by omega
 simp [asInt,asIntOf,hmax,h63',hneg,hl,variablesAt,hsh,elemOf,run_underlying hp,hlies,hlb]
theorem A9x(P:Program)(T:TT)(hT:Dc P T) {nt:Nat} {g:G} {st:St} {a:Act} {w:World} (hr:Ca nt g st a w)(d:Nat)(hd:d<nt)(t:Nat)(v:Value)(n:Nm)(hv:RepA g v (.own n))(lo hi mx:Option Value)(LO HI MX:Option AV)
 (hlo:∀X,LO=some X→∃x,lo=some x∧RepA g x X)(hlo':LO=none→lo=none)(hhi:∀X,HI=some X→∃x,hi=some x∧RepA g x X)(hhi':HI=none→hi=none)(hmx1:∀X,MX=some X→∃x,mx=some x∧RepA g x X)(hmx:MX=none→mx=none)
 (K:St→Prop)(hk:Apc (tl T t) st d (.own n) LO HI MX K):∃X,Did P nt g st a w (Instr.sliceAt t v lo hi mx) (some d) (St.put ⟨st.tm,Du [n] st.hp⟩ (some d) (.imm X))∧K (St.put ⟨st.tm,Du [n] st.hp⟩ (some d) (.imm X)):=by
 unfold Apc at hk
 simp only at hk
 split at hk
 ·rename_i ty wr sz rows e esz eb esh hg htd
  split at hk
  ·rename_i c l h hb hsz
   have hsz':sz=esz:=by simpa using hsz
   subst hsz'
   obtain⟨hc,hk⟩:=hk
   refine⟨_, ?_,hk⟩
   obtain⟨hr1,he1⟩:=Sb hr [n]
   have hA:=Sd (fun _=>false) g st.hp w [n]
   have hrep:=Mr hr.sat [n] hv (.sl .any sz rows) (by simp [P6,hg]) (fun m hm=>by simpa [AV.names] using hm)
   have mono:∀X:Option AV,∀x:Option Value,(∀Y,X=some Y→∃y,x=some y∧RepA g y Y)→∀Y,X=some Y→∃y,x=some y∧RepA (Jo g st.hp w [n]) y Y:=fun X x hx Y hY=>by
    obtain⟨y,h1,h2⟩:=hx Y hY
    exact⟨y,h1,h2.mono hA⟩
   have key:=A84 P w (Jo g st.hp w [n]) _ hr1.sat false t (tl T t) (hT.ok t) v (.imm (.sl .any sz rows)) (.imm _ _ hrep) lo hi mx LO HI MX (mono _ _ hlo) hlo' (mono _ _ hhi) hhi' (mono _ _ hmx1) hmx (fun e=>by cases e)
   rw [Bfh (tl T t) _ e sz eb esh htd rows LO HI MX c l h hb]at key
   obtain⟨val,h1,h2⟩:=key hc
   exact⟨val,w,_,h1 w (Up.refl w),by exact he1,C8 hr1.size hr1.defers hr1.tm hr1.sat (some d) (by simpa [P8,Nat.blt_eq] using hd) val _ h2⟩
  ·exact hk.elim
 ·exact hk.elim
theorem Bbb {P:Program} {t:Nat} {i:TypeInfo} (h:P.info? t=some i):P.cellsOf t=i.size:=by
 simp [Program.cellsOf,h]
theorem Bee(h:Heap)(n:Nm)(e:Entry)(hg:hget h n=some e):hset h n e=h:=by
 induction h with
 |nil=>cases hg
 |cons x h ih=>
  obtain⟨m,e'⟩:=x
  simp only [hget]at hg
  simp only [hset]
  split at hg
  ·rename_i hb;injection hg with hg;subst hg;rfl
  ·rename_i hb;rw [ih hg]
theorem A9n(w:World)(b n:Nat)(cs:Array Value)(T:Nat)(fz:Nat × Nat)(h:w.heap[b]? =some (.cells cs T fz))(hn:n≠0):
 (w.freeze ⟨b,0,none⟩ n).heap[b]? =some (.cells cs T (if fz.1 == fz.2 then(0,0+n)else(min fz.1 0,max fz.2 (0+n)))):=by
 unfold World.freeze
 rw [if_neg hn]
 simp [Array.getElem?_modify,h]
theorem A7m(w:World)(b n:Nat)(k:Nat)(hk:k≠b):(w.freeze ⟨b,0,none⟩ n).heap[k]? =w.heap[k]? :=by
 unfold World.freeze
 split
 ·rfl
 ·simp [Array.getElem?_modify,Ne.symm hk]
theorem Ae9(w:World)(b n:Nat):(w.freeze ⟨b,0,none⟩ n).os=w.os∧(w.freeze ⟨b,0,none⟩ n).tape=w.tape∧(w.freeze ⟨b,0,none⟩ n).output=w.output∧(w.freeze ⟨b,0,none⟩ n).heap.size=w.heap.size:=by
 unfold World.freeze
 split
 ·exact⟨rfl,rfl,rfl,rfl⟩
 ·exact⟨rfl,rfl,rfl,by simp⟩
theorem A05(P:Program)(T:TT)(hT:Dc P T) {nt:Nat} {g:G} {st:St} {a:Act} {w:World} (hr:Ca nt g st a w)(d:Nat)(hd:d<nt)(t u ty e:Nat)(htd:(tl T t).td= .pointer e)(hte:(tl T e).td= .int .u8)(p len:Value)(X N:AV)(hp:RepA g p X)(hn:RepA g len N)
 (K:St→Prop)(hk:Aef st d e X N K):∃st',Did P nt g st a w (Builtin.unsafeString_ #[t,u] ty #[p,len]) (some d) st'∧K st'∧TmS st.tm st'.tm (some d):=by
 unfold Aef at hk
 split at hk
 ·rename_i nm len'
  split at hk
  ·rename_i ety wr rows hg
   split at hk
   ·rename_i hty
    have hty:ety=e+2:=by simpa using hty
    subst hty
    obtain⟨⟨⟨hlen,h63⟩,hsh⟩,hk⟩:=hk
    refine⟨_, ?_,hk,TmS.put0 _ _ _ _ (fun t b w x h=>by cases h)⟩
    obtain⟨hr1,he1⟩:=Sb hr [nm]
    rw [Ew hn,hlen]
    have hpt:=(hT.ok t (by rw [htd];simp)).td
    rw [htd]at hpt
    have hpt':P.underlying t=some (.pointer e):=hpt
    have hei:=hT.ok e (by rw [hte];simp)
    obtain⟨inf,hi1,hi2,_⟩:=hei.info
    have hone:=hT.one e (by rw [hte];simp)
    have hagg:(tl T e).agg=false:=by
     obtain⟨dd,hd1,hd2⟩:=hei.agg
     have h3:=hei.td
     rw [hte]at h3
     have h3':P.underlying e=some (.int .u8):=h3
     rw [h3']at hd1;injection hd1 with hd1;subst hd1
     exact hd2.symm
    have hcells:P.cellsOf e=1:=by rw [Bbb hi1,hi2,hone hagg]
    cases hp with |data _ b0 c l hb=>
    have hent:=hr.sat.ent _ _ hg
    cases hent with
    |nil _ _ _ q1=>
     rw [hb]at q1;injection q1 with q1;injection q1 with e1 e2 e3
     subst e1
     refine⟨.string .empty,w,_, ?_,he1,C8 hr1.size hr1.defers hr1.tm hr1.sat (some d) (by simpa [P8,Nat.blt_eq] using hd) _ _ (.imm _ _ (.str _ _ (by simp)))⟩
     exact Lib.run_unsafeString_none w t u ty none
    |arr _ _ _ _ b cap cs TY fz q1 q2 q3 q4 q5 q6 q7 q8 q10 q11=>
     rw [hb]at q1;injection q1 with q1;injection q1 with e1 e2 e3
     subst e1;subst e2;subst e3
     obtain⟨hTe,hcap,hfz⟩:=q11 e rfl
     subst hTe
     by_cases hrows:rows=[]
     ·subst hrows
      refine⟨.string .empty,w,_, ?_,he1,C8 hr1.size hr1.defers hr1.tm hr1.sat (some d) (by simpa [P8,Nat.blt_eq] using hd) _ _ (.imm _ _ (.str _ _ (by simp)))⟩
      exact Lib.run_unsafeString_none w t u ty _
     ·have hcsz:rows.length≤cs.size:=by rw [q3];omega
      have hbyte:∀j,j<rows.length→cs.getD j undef= .int .u8 ((rows.map fun r=>gI r 0).getD j 0):=by
       intro j hj
       have hm:rows.getD j []∈rows:=by rw [List.getD_eq_getElem?_getD,List.getElem?_eq_getElem hj];simp
       have hr':=Bjl (hsh _ hm)
       have h6:=q6 j 0 hj (by omega)
       rw [hr']at h6
       simp only [List.getD_cons_zero,Nat.mul_one,Nat.add_zero]at h6
       rw [Aba h6]
       simp [List.getD_eq_getElem?_getD,hj]
      have hrun:=Ayr P w t u ty TY hpt' hcells b cs.size (by simp [World.shape?,q2]) (rows.map fun r=>gI r 0) (by simpa using hrows) (by simpa using hcsz) (by simpa using h63) (fun j hj=>by
       have hj':j<rows.length:=by simpa using hj
       rw [←hbyte j hj']
       rw [Nat.zero_add]
       exact cell_of_block q2 (by omega))
      rw [List.length_map]at hrun
      have hne:rows.length≠0:=by simpa using hrows
      have hnew:=A9n w b rows.length cs TY fz q2 hne
      have hoth:=A7m w b rows.length
      have hgf:hget (Du [nm] st.hp) nm=some (.arr (TY+2) false 1 rows):=by
       rw [Ud,if_pos ((Lb _ _).2 (by simp)),hg];rfl
      have hent1:=hr1.sat.ent _ _ hgf
      cases hent1 with
      |nil _ _ _ z1=>
       have:g.base nm=some ⟨none,0,0⟩:=z1
       rw [hb]at this;injection this with this;injection this with e1;cases e1
      |arr _ _ _ _ b2 cap2 cs2 TY2 fz2 z1 z2 z3 z4 z5 z6 z7 z8 z10 z11=>
       have z1':g.base nm=some ⟨some b2,cap2,rows.length⟩:=z1
       rw [hb]at z1';injection z1' with z1';injection z1' with e1 e2 e3;injection e1 with e1
       subst e1;subst e2
       rw [q2]at z2;injection z2 with z2;injection z2 with e4 e5 e6
       subst e4;subst e6
       obtain⟨t1,t2⟩:=U2 (w':=w.freeze ⟨b,0,none⟩ rows.length) hr1 nm _ (.arr (TY+2) false 1 rows) hgf b c rows.length hb (Ae9 w b _).1 (Ae9 w b _).2.1 (Ae9 w b _).2.2.1 (Ae9 w b _).2.2.2 hoth
        (fun o v hi=>by
         have:=hr1.sat.imm _ _ _ hi
         simp only [World.cell?,hnew,q2]at this ⊢
         exact this)
        (.arr _ _ _ _ b c cs TY _ z1 hnew z3 z4 z5 z6 (fun o ho hor=>by
          have hor':rows.length≤o:=by rcases hor with h |h; ·cases h
                                      ·omega
          have hold:=z7 o ho (.inr (by omega))
          split
          ·intro hx;simp at hx;omega
          ·intro hx;simp at hx;omega) z8 z10 (fun e he=>⟨by omega,(z11 e he).2.1,by split<;>simp [hfz]⟩)) (fun _ _ _ _ hh=>by cases hh;exact⟨_,_,_,rfl⟩)
       have hhp:hset (Du [nm] st.hp) nm (.arr (TY+2) false 1 rows)=Du [nm] st.hp:=Bee _ _ _ hgf
       rw [hhp]at t1 t2
       exact⟨_,_,_,hrun,he1.trans t1,C8 hr1.size hr1.defers hr1.tm t2 (some d) (by simpa [P8,Nat.blt_eq] using hd) _ _ (.imm _ _ (.str _ _ (by simp [Function.comp_def])))⟩
   ·exact hk.elim
  ·exact hk.elim
 ·exact hk.elim
theorem A7q(E:Env)(hT:Dc E.P E.T)(H:Jh)(hS:∀f bt,E.self f=some bt→Uq E.P f bt)(hH:∀f ac nt rs,E.inl f=some (ac,nt,rs)→∀args h Q,H ac nt rs args h Q→Call E.P f args h Q) {g:G} {st:St} {a:Act} {w:World} (hr:Ca E.nt g st a w)
 (o:Oper)(hd:P8 E.nt o.dst=true)(K:St→Prop)(h:Ah4 E (some H) st o K):Step E.P E.nt g st a w o K:=by
 have E0:=fun ty x=>Tq (T:=E.T) hr.tm ty x
 have lt:∀d,o.dst=some d→d<E.nt:=fun d e=>by rw [e]at hd;simpa [P8,Nat.blt_eq] using hd
 unfold Ah4 at h
 simp only at h
 split at h
 ·
  rename_i x d hop hdst
  split at h
  ·rename_i sz he
   refine Did.step (s:=pure (a.eval x)) ?_ (by unfold execOp;simp [hop]) (hdst ▸ TmS.cons _ _ _ _ (An3 _)) h
   rw [hdst]
   exact Bew E.P hr d (lt d hdst) (a.eval x) sz _ (he ▸ E0 _ _)
  ·exact h.elim
 ·
  rename_i xt x y yt d hop hdst
  split at h
  ·rename_i e esz eb esh hy htd
   have hu:=(hT.ok xt (by rw [htd];simp)).td
   rw [htd]at hu
   obtain⟨hu,_⟩:=hu
   have hy:=A34 hy
   subst hy
   obtain⟨b,h1,h2⟩:=A38 E.P hr d (lt d hdst) xt e hu x (.const (.slice none 0 0)) false (a.eval x) _ (E0 xt x) K h
   refine Did.step (s:=do eqGuard .eql xt x (.const (.slice none 0 0)) (a.eval x) (.slice none 0 0);binOp .eql xt (a.eval x) (.slice none 0 0)) ?_ (by unfold execOp;simp only [hop];rfl) (hdst ▸ TmS.put0 _ _ _ _ (fun t b w x h=>by cases h)) h2
   rw [hdst]
   exact h1
  ·exact h.elim
 ·
  rename_i xt x y yt d hop hdst
  split at h
  ·rename_i e esz eb esh hy htd
   have hu:=(hT.ok xt (by rw [htd];simp)).td
   rw [htd]at hu
   obtain⟨hu,_⟩:=hu
   have hy:=A34 hy
   subst hy
   obtain⟨b,h1,h2⟩:=A38 E.P hr d (lt d hdst) xt e hu x (.const (.slice none 0 0)) true (a.eval x) _ (E0 xt x) K h
   refine Did.step (s:=do eqGuard .neq xt x (.const (.slice none 0 0)) (a.eval x) (.slice none 0 0);binOp .neq xt (a.eval x) (.slice none 0 0)) ?_ (by unfold execOp;simp only [hop];rfl) (hdst ▸ TmS.put0 _ _ _ _ (fun t b w x h=>by cases h)) h2
   rw [hdst]
   exact h1
  ·exact h.elim
 ·rename_i t d hop hdst
  split at h
  ·rename_i hk
   split at h
   ·rename_i k esz _
    split at h
    ·rename_i hz
     refine Did.step (s:=Instr.alloc t true (.tuple #[])) ?_ (by unfold execOp;simp [hop]) (hdst ▸ TmS.cons _ _ _ _ (A0f _ _)) h
     rw [hdst]
     exact A9g E.P E.T hT hr d (lt d hdst) t (Mv hk) (Aeq hk) k esz (by simpa using hz)
    ·exact h.elim
   refine Did.step (s:=Instr.alloc t true (.tuple #[])) ?_ (by unfold execOp;simp [hop]) (hdst ▸ TmS.cons _ _ _ _ (A0f _ _)) h
   rw [hdst]
   exact Bgh E.P E.T hT hr d (lt d hdst) t (Mv hk) (Aeq hk)
  ·exact h.elim
 ·rename_i t x d hop hdst
  split at h
  ·rename_i hk
   simp only [Bool.and_eq_true]at hk
   refine Did.step (s:=Instr.box t (a.eval x)) ?_ (by unfold execOp;simp [hop]) (hdst ▸ TmS.cons _ _ _ _ (A0f _ _)) h
   rw [hdst]
   exact Bm4 E.P E.T hT hr d (lt d hdst) t _ _ (E0 t x) hk.1
  ·exact h.elim
 ·rename_i _ _ t ad x hop
  split at h
  ·rename_i hk
   simp only [Bool.and_eq_true]at hk
   obtain⟨hk0,hk1,hk2⟩:=hk
   have hk2:(flat (strip none (ev E.T st.tm t x))).length=(tl E.T t).size:=by simpa using hk2
   have hrun:∀w' u,(Instr.storeAt t (a.eval ad) (a.eval x)).run E.P w= .ok u w'→(execOp a.eval o).run E.P w= .ok .skip w':=by
    intro w' u hu
    unfold execOp
    simp [hop,hu]
   split at h
   ·rename_i k esz _
    unfold Az4 at h
    split at h
    ·rename_i n hn
     split at h
     ·rename_i ty sz rows hg
      split at h
      ·rename_i vs hf hvs
       simp only [Bool.and_eq_true]at hf
       split at h
       ·rename_i hvl
        obtain⟨hkr,h⟩:=h
        have hsz:sz=esz:=by simpa using hf.1
        subst hsz
        obtain⟨w',h1,h2,h3⟩:=A9y E.P E.T hT hr t (Mv hk0) (a.eval ad) (a.eval x) n k sz _ (hn ▸ E0 0 ad) (E0 t x) hk1 hk2 ty rows hg hf.2 vs hvs (by simpa using hvl) hkr
        refine Aih (st':=_) (hrun w' () h1) (g':=g) ?_ (C8 hr.size hr.defers hr.tm h3 o.dst hd undef .undef (.undef _)) (TmS.put0 _ _ _ _ Qu) h
        rw [show(St.put _ o.dst AV.undef).hp=_ from by cases o.dst<;>rfl]
        exact h2
       ·exact h.elim
      ·exact h.elim
     ·exact h.elim
    ·exact h.elim
   unfold Auh at h
   split at h
   ·rename_i n off hn
    split at h
    ·rename_i bty cells hg
     split at h
     ·rename_i hf
      simp only [Bool.and_eq_true]at hf
      obtain⟨g',w',h1,h2,h3,h4⟩:=Bfm E.P E.T hT hr t (Mv hk0) (a.eval ad) (a.eval x) n off _ (hn ▸ E0 0 ad) (E0 t x) hk1 hk2 bty cells hg (by simpa using hf.1) hf.2 (tl E.T t).sh
      refine Aih (st':=_) (hrun w' () h1) (g':=g') ?_ (C8 hr.size hr.defers h3 h4 o.dst hd undef .undef (.undef _)) (TmS.put _ _ _ _ _ Qu) h
      rw [show(St.put _ o.dst AV.undef).hp=_ from by cases o.dst<;>rfl]
      exact h2
     ·exact h.elim
    ·exact h.elim
   ·rename_i n sz i j hn
    split at h
    ·rename_i ty sz' rows hg
     split at h
     ·rename_i vs hf hvs
      simp only [Bool.and_eq_true]at hf
      split at h
      ·rename_i hfit
       obtain⟨hi,h⟩:=h
       have hsz:sz=sz':=by simpa using hf.1
       subst hsz
       obtain⟨w',h1,h2,h3⟩:=Bfl E.P E.T hT hr t (Mv hk0) (a.eval ad) (a.eval x) n sz i j _ (hn ▸ E0 0 ad) (E0 t x) hk1 hk2 ty rows hg hf.2 vs hvs (by simpa using hfit) hi
       refine Aih (st':=_) (hrun w' () h1) (g':=g) ?_ (C8 hr.size hr.defers hr.tm h3 o.dst hd undef .undef (.undef _)) (TmS.put0 _ _ _ _ Qu) h
       rw [show(St.put _ o.dst AV.undef).hp=_ from by cases o.dst<;>rfl]
       exact h2
      ·exact h.elim
     ·exact h.elim
    ·exact h.elim
   ·exact h.elim
  ·exact h.elim
 ·
  rename_i t len parts d hop hdst
  unfold Acw at h
  split at h
  ·rename_i elem esz eb esh htd
   split at h
   ·rename_i rows hc he
    simp only [Bool.and_eq_true]at hc
    obtain⟨hc0,hc1,hc2⟩:=hc
    have hti:=(hT.ok t (by rw [htd];simp)).td
    rw [htd]at hti
    obtain⟨hu,i,hi,hs,hb⟩:=hti
    obtain⟨i',hi',q1,_⟩:=(hT.ok elem (Mv hc0)).info
    rw [hi]at hi'
    injection hi' with hi'
    subst hi'
    refine Did.step (s:=Instr.buildSlice t len (parts.toList.map fun(i,x)=>(i,a.eval x)).toArray) ?_ (by
     unfold execOp
     have:(parts.map fun(i,x)=>(i,a.eval x))=(parts.toList.map fun(i,x)=>(i,a.eval x)).toArray:=by
      obtain⟨l⟩:=parts;simp
     simp only [hop,this]) (hdst ▸ TmS.cons _ _ _ _ (An3 _)) h
    rw [hdst]
    obtain⟨val,w',g',q1,_,q2,q3⟩:=Aqf E.P E.T hT hr d (lt d hdst) t len elem esz eb esh htd (Mv hc0) (Aeq hc0) (by omega) _ _ (by rw [Ke,I5];simp) (fun i hi=>A68 hr.tm 0 parts.toList i (by rw [Ke,I5]at hi;exact hi)) (by simpa using hc1) hc2 rows he
    exact⟨val,w',g',q1,q2,q3⟩
   ·exact h.elim
  ·exact h.elim
 ·
  rename_i args ts d hop hdst
  split at h
  ·rename_i s x t u hs hx
   have hts:ts= #[t,u]:=by obtain⟨l⟩:=ts;simp at hx;subst hx;rfl
   have has:args= #[s,x]:=by obtain⟨l⟩:=args;simp at hs;subst hs;rfl
   subst hts;subst has
   have hexec:∀s',s'=Builtin.append_ #[t,u] o.type #[a.eval s,a.eval x]→execOp a.eval o=(do pure (.value (←s'))):=by
    intro s' e
    subst e
    unfold execOp
    simp only [hop]
    simp [resolve,invoke,builtin]
   unfold A7e at h
   split at h
   ·rename_i elem esz eb esh htd
    split at h
    ·exact h.elim
    ·rename_i hk
     split at h
     ·rename_i xs hxs
      have hA:=Bpk E.P E.T hT htd hk hxs
      obtain⟨news,hnews⟩:=src_ok E.P g st.hp w hr.sat (tl E.T u) esz (a.eval x) _ (E0 u x) xs hxs
      split at h
      ·rename_i n hn
       split at h
       ·rename_i ety wr sz rows hg
        split at h
        ·rename_i hsz
         simp only [Bool.and_eq_true,Bool.not_eq_true']at hsz
         obtain⟨hsz,hpin⟩:=hsz
         have hsz:sz=esz:=by simpa using hsz
         have hpin:ety≠1:=by rintro rfl;cases hpin
         subst hsz
         obtain⟨⟨hb,hl⟩,h⟩:=h
         refine Did.step ?_ (hexec _ rfl) (hdst ▸ TmS.cons _ _ _ _ (An3 _)) h
         rw [hdst]
         exact Bdf E.P hA o.type hr d (lt d hdst) (a.eval s) (a.eval x) n ety wr rows xs news hpin (hn ▸ E0 t s) hg hnews hb hl
        ·exact h.elim
       ·exact h.elim
      ·rename_i sz' hn
       obtain⟨⟨hb,hl⟩,h⟩:=h
       refine Did.step ?_ (hexec _ rfl) (hdst ▸ TmS.cons _ _ _ _ (An3 _)) h
       rw [hdst]
       exact A6o E.P hA o.type hr d (lt d hdst) (a.eval s) (a.eval x) sz' xs news (hn ▸ E0 t s) hnews hb hl
      ·rename_i sz' hn
       obtain⟨⟨hb,hl⟩,h⟩:=h
       refine Did.step ?_ (hexec _ rfl) (hdst ▸ TmS.cons _ _ _ _ (Bnw _ _ _ _)) h
       rw [hdst]
       exact A13 E.P hA o.type hr d (lt d hdst) (a.eval s) (a.eval x) sz' xs news (hn ▸ E0 t s) hnews hb hl
      ·exact h.elim
     ·exact h.elim
   ·exact h.elim
  ·exact h.elim
 ·
  rename_i s t x d hop hdst
  split at h
  ·rename_i elem e1 e2 e3 l hs ht hx
   split at h
   ·rename_i he
    obtain⟨hl,h⟩:=h
    have h1:=(hT.ok s (by rw [hs];simp)).td
    rw [hs]at h1
    have h2:=(hT.ok t (by rw [ht];simp)).td
    rw [ht]at h2
    have h3:=(hT.ok elem (by rw [he];simp)).td
    rw [he]at h3
    have h4:=E0 s x
    rw [hx]at h4
    obtain⟨bs,hbs,hbl⟩:=Pm h4
    refine Did.step (s:=convert s t (a.eval x)) ?_ (by unfold execOp;simp [hop]) (hdst ▸ TmS.cons _ _ _ _ (An3 _)) h
    rw [hdst,hbs]
    exact Bgk E.P hr d (lt d hdst) s t elem _ h1 h2.1 h3 bs l hbl
   ·exact h.elim
  ·exact h.elim
 ·
  rename_i t x d hop hdst
  split at h
  ·rename_i s ht hx
   have h1:=(hT.ok t (by rw [ht];simp)).td
   rw [ht]at h1
   have h4:=E0 t x
   rw [hx]at h4
   obtain⟨bs,hbs,hbl⟩:=Pm h4
   refine Did.step (s:=Instr.range t (a.eval x)) ?_ (by unfold execOp;simp [hop]) (hdst ▸ TmS.cons _ _ _ _ (A0f _ _)) h
   rw [hdst,hbs]
   exact Bh7 E.P hr d (lt d hdst) t h1 bs s hbl
  ·exact h.elim
 ·
  rename_i t d hop hdst
  split at h
  ·refine Did.step (s:=Instr.makeMap t none) ?_ (by unfold execOp;simp [hop]) (hdst ▸ TmS.cons _ _ _ _ (Bo8 _)) h
   rw [hdst]
   exact Bb4 E.P hr d (lt d hdst) t
  ·exact h.elim
 ·
  rename_i _ _ t m k x hop
  split at h
  ·rename_i n s v ht hm hk hx
   split at h
   ·rename_i l hg
    have h1:=(hT.ok t (by rw [ht];simp)).td
    rw [ht]at h1
    obtain⟨kt,et,h1,h2,_⟩:=h1
    have h4:=E0 0 k
    rw [hk]at h4
    obtain⟨bs,hbs,hbl⟩:=Pm h4
    have h5:=Ew (hx ▸ E0 0 x)
    obtain⟨w',q1,q2,q3⟩:=A75 E.P hr t h1 h2 (a.eval m) n (hm ▸ E0 t m) bs v l hg
    rw [hbl]at q2 q3
    refine Aih (st':=_) (by unfold execOp;simp [hop,hbs,h5,q1]) (g':=g) ?_ (C8 hr.size hr.defers hr.tm q3 o.dst hd undef .undef (.undef _)) (TmS.put0 _ _ _ _ Qu) h
    rw [show(St.put _ o.dst AV.undef).hp=_ from by cases o.dst<;>rfl]
    exact q2
   ·exact h.elim
  ·exact h.elim
 ·rename_i it d hop hdst
  split at h
  ·rename_i n hn
   split at h
   ·rename_i s pos hg
    have hx:=Bam E.P hr d (lt d hdst) (a.eval it) n (hn ▸ E0 0 it) s pos o.type hg
    obtain⟨ht,hf⟩:=h
    split at hx
    ·rename_i hlt
     obtain⟨val,w',g',h1,h2,h3⟩:=hx
     refine Did.step (s:=Instr.next (a.eval it) true o.type) ?_ (by unfold execOp;simp [hop]) (hdst ▸ TmS.put0 st.tm [] (some d) _ (A8f _)) (ht (by simpa using hlt))
     rw [hdst]
     exact⟨val,w',g',h1,h2,h3⟩
    ·rename_i hge
     obtain⟨val,h1,h3⟩:=hx
     refine Did.step (s:=Instr.next (a.eval it) true o.type) ?_ (by unfold execOp;simp [hop]) (hdst ▸ TmS.put0 st.tm [] (some d) _ (A8f _)) (hf (by simpa using hge))
     rw [hdst]
     exact⟨val,w,g,h1,Evo.refl _ _ _,h3⟩
   ·exact h.elim
  ·exact h.elim
 ·
  rename_i t x lo hi mx d hop hdst
  have hop2:=fun(y:Option Operand)=>(show(∀X,Ik none (Lj E.T st.tm y)=some X→∃v,y.map a.eval=some v∧RepA g v X)∧(Ik none (Lj E.T st.tm y)=none→y.map a.eval=none) from by
   cases y with
   |none=>exact⟨fun X h=>by simp [Lj,Ik]at h,fun _=>rfl⟩
   |some y=>
    refine⟨fun X he=> ?_,fun he=>by simp [Lj,Ik]at he⟩
    simp only [Lj,Ik,Option.some.injEq]at he
    subst he
    exact⟨_,rfl,E0 0 y⟩)
  have hx:=E0 t x
  generalize strip none (ev E.T st.tm t x)=X at h hx
  cases X with
  |own n=>
   obtain⟨Y,h1,h2⟩:=A9x E.P E.T hT hr d (lt d hdst) t (a.eval x) n hx (lo.map a.eval) (hi.map a.eval) (mx.map a.eval) _ _ _ (hop2 lo).1 (hop2 lo).2 (hop2 hi).1 (hop2 hi).2 (hop2 mx).1 (hop2 mx).2 K h
   refine Did.step (s:=Instr.sliceAt t (a.eval x) (lo.map a.eval) (hi.map a.eval) (mx.map a.eval)) ?_ (by unfold execOp;simp [hop]) (hdst ▸ TmS.put0 _ _ _ _ (fun t b w x h=>by cases h)) h2
   rw [hdst]
   exact h1
  |_=>exact h.elim
 ·
  rename_i args ts d hop hdst
  split at h
  ·rename_i x n t u hxs hts
   have hts':ts= #[t,u]:=by obtain⟨l⟩:=ts;simp at hts;subst hts;rfl
   have has:args= #[x,n]:=by obtain⟨l⟩:=args;simp at hxs;subst hxs;rfl
   subst hts';subst has
   split at h
   ·rename_i b htd
    split at h
    ·rename_i hte
     obtain⟨st',h1,h2,h3⟩:=A05 E.P E.T hT hr d (lt d hdst) t u o.type b htd hte (a.eval x) (a.eval n) _ _ (E0 t x) (E0 u n) K h
     refine Did.step (s:=Builtin.unsafeString_ #[t,u] o.type #[a.eval x,a.eval n]) (hdst ▸ h1) ?_ (hdst ▸ h3) h2
     unfold execOp
     simp only [hop]
     simp [resolve,invoke,builtin]
    ·exact h.elim
   ·exact h.elim
  ·exact h.elim
 ·
  rename_i args ts hop
  split at h
  ·rename_i x t hs hx
   have hts:ts= #[t]:=by obtain⟨l⟩:=ts;simp at hx;subst hx;rfl
   have has:args= #[x]:=by obtain⟨l⟩:=args;simp at hs;subst hs;rfl
   subst hts;subst has
   unfold Baa at h
   split at h
   ·rename_i elem esz eb esh n sz off len htd hxx
    split at h
    ·rename_i aty sz' rows hg hc
     simp only [Bool.and_eq_true]at hc
     obtain⟨hsz,hk⟩:=hc
     have hsz:sz=esz:=by simpa using hsz
     subst hsz
     split at h
     ·rename_i hsz'
      have hsz':sz'=sz:=by simpa using hsz'
      subst hsz'
      have hxr:=E0 t x
      rw [hxx]at hxr
      obtain⟨w',h1,h2,h3⟩:=Bgr E.P E.T hT hr t o.type elem sz' eb esh htd (Mv hk) (Aeq hk) (a.eval x) n off len hxr aty rows hg
      refine Did.step (s:=Builtin.clear_ #[t] o.type #[a.eval x]) ⟨_,w',g,h1,by cases o.dst<;>exact h2,C8 hr.size hr.defers hr.tm h3 o.dst hd _ _ (.tup _ _ rfl (fun i hi=>by simp at hi))⟩ ?_ (TmS.put0 _ _ _ _ (A8f _)) h
      unfold execOp
      simp only [hop]
      simp [resolve,invoke,builtin]
     ·exact h.elim
    ·exact h.elim
   ·exact h.elim
  ·exact h.elim
 ·
  rename_i _ _ fo args ts hop
  split at h
  ·rename_i f caps hf hl
   have hl:args.toList.length=ts.toList.length:=by simpa using hl
   have hfv:=E0 0 fo
   rw [hf]at hfv
   generalize hfo:a.eval fo=fv at hfv
   cases hfv with |fn _ vs _ hvl hvs=>
   refine A4g E.P o f fo args ts #[] vs hop hfo K ?_
   rw [Array.empty_append]
   refine A31 E H f o.type (hS f) (hH f) hr o.dst hd _ _ ⟨?_,fun i hi=> ?_⟩ K h
   ·simp [Pn,Qb,hvl]
    simp at hl
    omega
   ·have hlen:(stripL none (evs E.T st.tm args.toList ts.toList)).length=args.size:=by
     simp [Pn,Qb];simp at hl;omega
    have e1:(args.map a.eval++vs).getD i undef=if i<args.size then(args.toList.map a.eval).getD i undef else vs.getD (i - args.size) undef:=by
     simp only [Array.getD_eq_getD_getElem?,List.getD_eq_getElem?_getD,Array.getElem?_append,Array.size_map]
     split<;>simp
    have e2:(stripL none (evs E.T st.tm args.toList ts.toList)++caps).getD i .undef=if i<args.size then(stripL none (evs E.T st.tm args.toList ts.toList)).getD i .undef else caps.getD (i - args.size) .undef:=by
     simp only [List.getD_eq_getElem?_getD]
     split
     ·rw [List.getElem?_append_left (by omega)]
     ·rw [List.getElem?_append_right (by omega),hlen]
    rw [e1,e2]
    split
    ·exact A69 hr.tm _ _ i (by rw [Qb];simp at hl ⊢; omega)
    ·refine hvs _ ?_
     rw [List.length_append,hlen]at hi
     omega
  ·rename_i f n off hf hl
   have hl:args.toList.length=ts.toList.length:=by simpa using hl
   have hfv:=E0 0 fo
   rw [hf]at hfv
   generalize hfo:a.eval fo=fv at hfv
   cases hfv with |meth _ _ b c l _ hb=>
   refine A4g E.P o f fo args ts #[.pointer (some ⟨b,off,none⟩)] #[] hop hfo K ?_
   rw [Array.append_empty]
   refine A31 E H f o.type (hS f) (hH f) hr o.dst hd _ _ ⟨?_,fun i hi=> ?_⟩ K h
   ·simp [Pn,Qb]
    simp at hl
    omega
   ·cases i with
    |zero=>
     have e1:(#[Value.pointer (some ⟨b,off,none⟩)]++args.map a.eval).getD 0 undef= .pointer (some ⟨b,off,none⟩):=by
      simp [Array.getD_eq_getD_getElem?,Array.getElem?_append]
     rw [e1]
     exact .ptr _ _ _ _ _ hb
    |succ i=>
     have e1:(#[Value.pointer (some ⟨b,off,none⟩)]++args.map a.eval).getD (i+1) undef=(args.toList.map a.eval).getD i undef:=by
      simp only [Array.getD_eq_getD_getElem?,List.getD_eq_getElem?_getD]
      simp [Array.getElem?_append]
     rw [e1]
     simp only [List.getD_cons_succ]
     exact A69 hr.tm _ _ i (by
      simp only [List.length_cons,Pn]at hi
      omega)
  ·exact h.elim
 ·exact h.elim
end Go.Proofs.Sim

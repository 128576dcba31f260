import Derived.Test.YtaggabcajidnnaaGreatDoorSimJ
namespace Go.Proofs.Sim
open Go
theorem Jg(f:Nm→Nm)(l:List AV):(AV.renL f l).length=l.length:=by
 induction l with
 |nil=>rfl
 |cons a r ih=>simp [AV.renL,ih]
theorem Af6(f:Nm→Nm)(l:List AV)(i:Nat):(AV.renL f l).getD i .undef=AV.ren f (l.getD i .undef):=by
 induction l generalizing i with
 |nil=>simp [AV.renL,AV.ren]
 |cons a r ih=>cases i with |zero=>rfl |succ i=>simpa [AV.renL] using ih i
structure Ren (f:Nm→Nm) (g g':G):Prop where
 imm:g'.imm=g.imm
 base:∀n,g'.base (f n)=g.base n
theorem RepA.renm {f:Nm→Nm} {g g':G} (hf:Ren f g g') {v:Value} {a:AV} (h:RepA g v a):RepA g' v (AV.ren f a):=by
 induction h with
 |imm v x h=>exact .imm _ _ (by rw [hf.imm];exact h)
 |ptr n b c l off hb=>exact .ptr _ _ _ _ _ (by rw [hf.base];exact hb)
 |elt n b c l sz i j hb=>exact .elt _ _ _ _ _ _ _ (by rw [hf.base];exact hb)
 |own n a c len hb=>exact .own _ _ _ _ (by rw [hf.base];exact hb)
 |pin b o cells vs h1 h2=>exact .pin _ _ _ vs (fun j hj=>by rw [hf.imm];exact h1 j hj) (fun j hj=>by rw [hf.imm];exact h2 j hj)
 |fn k vs caps hl _ ih=>exact .fn _ _ _ (by rw [Jg];exact hl) fun i hi=>by rw [Jg]at hi;rw [Af6];exact ih i hi
 |agg cs l hl _ ih=>exact .agg _ _ (by rw [Jg];exact hl) fun i hi=>by rw [Jg]at hi;rw [Af6];exact ih i hi
 |tup cs l hl _ ih=>exact .tup _ _ (by rw [Jg];exact hl) fun i hi=>by rw [Jg]at hi;rw [Af6];exact ih i hi
 |when v t b want a _ hu ih=>exact .when _ _ _ _ _ ih hu
 |undef v=>exact .undef _
 |data n a c len hb=>exact .data _ _ _ _ (by rw [hf.base];exact hb)
 |win n a c l sz off len k p hb h1 h2 h3 h4=>exact .win _ _ _ _ _ _ _ _ _ (by rw [hf.base];exact hb) h1 h2 h3 h4
 |mp n b c l hb=>exact .mp _ _ _ _ (by rw [hf.base];exact hb)
 |self n v hb=>exact .self _ _ (hb.imp id fun⟨b,c,l,h1,h2⟩=>⟨b,c,l,by rw [hf.base];exact h1,h2⟩)
 |meth k n b c l off hb=>exact .meth _ _ _ _ _ _ (by rw [hf.base];exact hb)
theorem EntOK.renm {f:Nm→Nm} {g g':G} (hf:Ren f g g') {w:World} {n:Nm} {e:Entry} (h:EntOK g w n e):EntOK g' w (f n) (Afv f e):=by
 cases h with
 |blk T cells b c l cs fz h1 h2 h3 h4 h5 h6=>
  exact .blk _ _ b c l cs fz (by rw [hf.base];exact h1) h2 h3 (by rw [Jg];exact h4) (fun i hi=>by rw [Jg]at hi;rw [Af6];exact(h5 i hi).renm hf) (fun o=>by rw [hf.imm];exact h6 o)
 |nil ty wr sz h1=>exact .nil _ _ _ (by rw [hf.base];exact h1)
 |arr ty wr sz rows b cap cs T fz h1 h2 h3 h4 h5 h6 h7 h8 h10 h11=>
  exact .arr _ _ _ _ b cap cs T fz (by rw [hf.base];exact h1) h2 h3 h4 h5 (fun i j hi hj=>by rw [hf.imm];exact h6 i j hi hj) h7 (fun o ho=>by rw [hf.imm];exact h8 o ho) h10 h11
 |sit s pos b c l t h1 h2 h3=>exact .sit _ _ b c l t (by rw [hf.base];exact h1) h2 h3
 |map m b c l es ck h1 h2 h3=>exact .map _ b c l es ck (by rw [hf.base];exact h1) h2 h3
theorem Aeo(f:Nm→Nm)(h:Heap)(m:Nm)(e:Entry)(hm:hget (La f h) m=some e):∃n e0,f n=m∧hget h n=some e0∧e=Afv f e0:=by
 induction h with
 |nil=>simp [La,hget]at hm
 |cons x h ih=>
  obtain⟨k,e1⟩:=x
  simp only [La,Ce]at hm
  split at hm
  ·rename_i he;injection hm with hm;exact⟨k,e1,he,by simp [Ce],hm.symm⟩
  ·rename_i hne
   obtain⟨n,e0,h1,h2,h3⟩:=ih hm
   refine⟨n,e0,h1, ?_,h3⟩
   rw [Ce,if_neg]
   ·exact h2
   ·intro e2;subst e2;exact hne h1
theorem Qe(hp:Heap)(ns:List Nm)(n:Nm)(e:Entry)(h:hget (Ja hp ns) n=some e):hget hp n=some e∧n∈ns:=by
 induction ns with
 |nil=>simp [Ja,hget]at h
 |cons m r ih=>
  simp only [Ja]at h
  split at h
  ·rename_i e1 he
   rw [Ce]at h
   split at h
   ·rename_i e2;subst e2;injection h with h;subst h;exact⟨he,by simp⟩
   ·obtain⟨h1,h2⟩:=ih h;exact⟨h1,by simp [h2]⟩
  ·obtain⟨h1,h2⟩:=ih h;exact⟨h1,by simp [h2]⟩
theorem Bbv(hp:Heap)(ns:List Nm)(n:Nm):hget (Z5 ns hp) n=if Gv n ns then none else hget hp n:=by
 induction hp with
 |nil=>simp [Z5,hget]
 |cons x h ih=>
  obtain⟨m,e⟩:=x
  simp only [Z5]
  split
  ·rename_i hm
   rw [ih,Ce]
   by_cases h1:m=n
   ·subst h1;simp [hm]
   ·rw [if_neg h1]
  ·rename_i hm
   simp only [Ce]
   by_cases h1:m=n
   ·subst h1;simp [hm]
   ·rw [if_neg h1,if_neg h1,ih]
theorem A9v(hp:Heap)(k:Nat)(ns acc:List Nm)(h:acc.Nodup):(reach hp k ns acc).Nodup:=by
 induction k generalizing ns acc with
 |zero=>exact h
 |succ k ih=>
  cases ns with
  |nil=>exact h
  |cons n r=>
   simp only [reach]
   split
   ·exact ih _ _ h
   ·rename_i hm
    split
    ·refine ih _ _ ?_
     rw [List.nodup_append]
     refine⟨h,by simp,fun x hx y hy=> ?_⟩
     simp at hy
     subst hy
     intro e
     subst e
     have:=(Lb x acc).2 hx
     rw [hm]at this;cases this
    ·exact ih _ _ h
theorem A2t(d:Nm)(ns:List Nm)(i:Nat)(hi:i<ns.length):Atx d ns i=ns[i]:=by
 induction ns generalizing i with
 |nil=>simp at hi
 |cons m r ih=>cases i with |zero=>rfl |succ i=>simpa [Atx] using ih i (by simpa using hi)
theorem Ban(d:Nm)(ns:List Nm)(i:Nat)(hi:ns.length≤i):Atx d ns i=d:=by
 induction ns generalizing i with
 |nil=>cases i<;>rfl
 |cons m r ih=>cases i with |zero=>simp at hi |succ i=>simpa [Atx] using ih i (by simpa using hi)
theorem At5(n:Nm)(ns:List Nm)(k:Nat):(n∈ns→∃i,∃hi:i<ns.length,Aok n ns k= .arg (k+i)∧ns[i]=n)∧(¬n∈ns→Aok n ns k= .up n):=by
 induction ns generalizing k with
 |nil=>exact⟨fun h=>by simp at h,fun _=>rfl⟩
 |cons m r ih=>
  obtain⟨ih1,ih2⟩:=ih (k+1)
  simp only [Aok]
  by_cases hm:m=n
  ·subst hm
   rw [Nm.beq_self]
   exact⟨fun _=>⟨0,by simp,by simp,rfl⟩,fun h=>by simp at h⟩
  ·rw [Nm.beq_ne hm]
   refine⟨fun h=> ?_,fun h=>ih2 (by simp at h;exact h.2)⟩
   have:n∈r:=by simpa [Ne.symm hm] using h
   obtain⟨i,hi,h1,h2⟩:=ih1 this
   exact⟨i+1,by simpa using hi,by rw [h1,Nat.add_assoc,Nat.add_comm 1 i],by simpa using h2⟩
theorem At6 {ns:List Nm} {n:Nm} (h:n∈ns):∃i,∃hi:i<ns.length,Im ns n= .arg i∧ns[i]=n:=by
 obtain⟨i,hi,h1,h2⟩:=(At5 n ns 0).1 h
 exact⟨i,hi,by simpa [Im] using h1,h2⟩
theorem Bfu {ns:List Nm} {n:Nm} (h:¬n∈ns):Im ns n= .up n:=(At5 n ns 0).2 h
theorem A4l {ns:List Nm} (hn:ns.Nodup)(i:Nat)(hi:i<ns.length):Im ns ns[i]= .arg i:=by
 obtain⟨j,hj,h1,h2⟩:=At6 (List.getElem_mem hi)
 rw [h1]
 congr 1
 exact(List.getElem_inj hn).1 h2
def A7t(ns:List Nm):Nm→Nm
 | .arg i=>Atx (.arg i) ns i
 | .up n=>n
 |n=>n
theorem Apj(ns:List Nm)(n:Nm):A7t ns (Im ns n)=n:=by
 by_cases h:n∈ns
 ·obtain⟨i,hi,h1,h2⟩:=At6 h
  rw [h1]
  simp only [A7t]
  rw [A2t _ _ _ hi,h2]
 ·rw [Bfu h];rfl
theorem Bft {ns:List Nm} {n m:Nm} (h:Im ns n=Im ns m):n=m:=by
 have:=congrArg (A7t ns) h
 rwa [Apj,Apj]at this
def Aka(ns:List Nm)(k:Nat)(m:Nm):Option Nm:=match Gv m ns,m with |true,m=>some (Im ns m) |false, .sub t n=>(match Nat.beq t k with |true=>some n |false=>none) |false,_=>none
theorem A7u {ns:List Nm} {k:Nat} {m:Nm} (h:m∈ns):Aka ns k m=some (Im ns m):=by
 unfold Aka
 rw [(Lb m ns).2 h]
theorem Akb {ns:List Nm} {k:Nat} {n:Nm} (h:¬(Nm.sub k n)∈ns):Aka ns k (.sub k n)=some n:=by
 unfold Aka
 have:Gv (.sub k n) ns=false:=by
  cases hm:Gv (.sub k n) ns with
  |false=>rfl
  |true=>exact absurd ((Lb _ _).1 hm) h
 rw [this]
 simp
theorem Beg {ns:List Nm} {k:Nat} {m:Nm} (h:¬m∈ns)(hs:Aae k m=false):Aka ns k m=none:=by
 unfold Aka
 have:Gv m ns=false:=by
  cases hm:Gv m ns with
  |false=>rfl
  |true=>exact absurd ((Lb _ _).1 hm) h
 rw [this]
 cases m with
 |sub t n=>simp only [Aae]at hs;simp [hs]
 |_=>rfl
theorem Bdd {p:Nm→Bool} {ns:List Nm} (h:Ba8 p ns=true):∀n,n∈ns→p n=true:=by
 induction ns with
 |nil=>intro n hn;simp at hn
 |cons m r ih=>
  simp only [Ba8,Bool.and_eq_true]at h
  intro n hn
  rcases List.mem_cons.1 hn with rfl |hn
  ·exact h.1
  ·exact ih h.2 n hn
theorem Bbx {ns:List Nm} {k:Nat} (hn:ns.Nodup)(hs:∀n,n∈ns→Aae k n=false)(n:Nm):Aka ns k (Aur ns k n)=some n:=by
 have hsub:∀m,¬(Nm.sub k m)∈ns:=fun m h=>by have:=hs _ h;simp [Aae]at this
 cases n with
 |arg i=>
  simp only [Aur]
  by_cases hi:i<ns.length
  ·rw [A2t _ _ _ hi,A7u (List.getElem_mem hi),A4l hn i hi]
  ·rw [Ban _ _ _ (by omega),Akb (hsub _)]
 |loc t=>exact Akb (hsub _)
 |cell n j=>exact Akb (hsub _)
 |up n=>exact Akb (hsub _)
 |sub t n=>exact Akb (hsub _)
theorem Comes1.mono {P:Program} {f:Nat} {vs:Array Value} {w:World} {R R':Value→World→Prop} (h:Comes1 P f vs w R)(hr:∀v w',R v w'→R' v w'):Comes1 P f vs w R':=by
 unfold Comes1 at*
 split at h
 ·rename_i f' vs' w' heq
  exact h.mono fun e w'' ⟨v,h1,h2⟩=>⟨v,h1,hr _ _ h2⟩
 ·exact hr _ _ h
 ·exact h.elim
theorem Af3 {g:G} {v:Value} {a:AV} (h:RepA g v a):RepA g v (noW a):=by
 cases a<;>first |exact h |exact .undef _
theorem Bb8(ti:TI)(r:AV):NoW (Aog ti r):=by
 intro t b w x
 unfold Aog
 split
 ·simp
 ·split<;>simp
theorem Bez(T:TT)(ty:Nat)(r:AV):NoW (Ml T ty r):=by
 unfold Ml
 split
 ·intro t b w x;simp
 ·exact Bb8 _ _
theorem Al3(k:Nat):∀(l acc:List Nm),acc.Nodup→(Azo k acc l).Nodup
 | [],acc,h=>h
 |n::r,acc,h=>by
  unfold Azo
  split
  ·exact Al3 k r acc h
  ·rename_i hm
   refine Al3 k r _ ?_
   simp only [Bool.or_eq_false_iff]at hm
   refine List.nodup_append.2 ⟨h,by simp,fun a ha b hb=> ?_⟩
   have:b=n:=by simpa using hb
   subst this
   intro e
   subst e
   rw [(Lb _ _).2 ha]at hm
   cases hm.1
theorem Amd {hp:Heap} {n:Nm} :∀ {ns:List Nm},n∈Anw hp ns→n∈ns
 | [],h=>by cases h
 |m::r,h=>by
  unfold Anw at h
  split at h
  ·exact List.mem_cons_of_mem _ (Amd h)
  ·rcases List.mem_cons.1 h with rfl |h
   ·simp
   ·exact List.mem_cons_of_mem _ (Amd h)
theorem Bbu {shy:Bool} {hp:Heap} {ns:List Nm} {n:Nm} (h:n∈handed shy hp ns):n∈ns:=by
 unfold handed at h
 split at h
 ·exact Amd h
 ·exact h
theorem Uw(P:Program)(f:Nat)(shy:Bool)(C:List AV→Heap→(AV→Heap→Prop)→Prop)(hC:∀args h Q,C args h Q→Call P f args h Q) {nt:Nat} {g:G} {tm:List (Nat × AV)} {hp:Heap} {a:Act} {w:World} (hr:Ca nt g ⟨tm,hp⟩ a w)
 (d:Option Nat)(hd:P8 nt d=true)(args:List AV)(vs:Array Value)(hv:Y0 g vs args)(Qx:Heap→AV→Heap→(AV→Heap→Prop)→Prop)(hQ:∀h0 r h' k,Qx h0 r h' k→k r h')(K:St→Prop)(hk:Wm shy C hp tm d args Qx K):
 Comes1 P f vs w fun v w'=>∃g' st',Evo g hp w g' st'.hp w'∧Ca nt g' st' (a.put d v) w'∧TmS tm st'.tm d∧K st':=by
 unfold Wm at hk
 simp only at hk
 generalize hkk:Bm9 d=k at hk
 generalize hns:Bd8 k hp (AV.namesL args)=ns at hk
 generalize hms:handed shy hp ns=ms at hk
 have hmn:∀n,n∈ms→n∈ns:=fun n hn=>by rw [←hms]at hn;exact Bbu hn
 have hnd:ns.Nodup:=by rw [←hns];exact Al3 _ _ _ (A9v _ _ _ _ (by simp))
 split at hk
 case h_2=>exact hk.elim
 rename_i hall
 have hsub:∀n,n∈ns→Aae k n=false:=fun n hn=>by have:=Bdd hall n hn;simpa using this
 generalize hp':(fun n=>(Gv n ms && Aum hp n) || Aae k n)=p at hk
 have hpm:∀n,p n=((Gv n ms && Aum hp n) || Aae k n):=fun n=>by rw [←hp']
 let g1:G:=⟨g.imm,fun m=>g.base (A7t ns m),g.old,g.tab⟩
 have hren1:Ren (Im ns) g g1:=⟨rfl,fun n=>by show g.base (A7t ns (Im ns n))=_;rw [Apj]⟩
 have hargs:Y0 g1 vs (AV.renL (Im ns) args):=⟨by rw [Jg];exact hv.1,fun i hi=>by rw [Jg]at hi;rw [Af6];exact(hv.2 i hi).renm hren1⟩
 have h0get:∀m e,hget (La (Im ns) (Ja hp ms)) m=some e→∃n e0,Im ns n=m∧n∈ms∧hget hp n=some e0∧e=Afv (Im ns) e0:=by
  intro m e hm
  obtain⟨n,e0,h1,h2,h3⟩:=Aeo _ _ _ _ hm
  obtain⟨h4,h5⟩:=Qe _ _ _ _ h2
  exact⟨n,e0,h1,h5,h4,h3⟩
 have hsat1:Sat g1 (La (Im ns) (Ja hp ms)) w:=by
  refine⟨hr.sat.imm,fun m e hm=> ?_,fun m1 m2 e1 e2 b c l c' l' h1 h2 b1 b2=> ?_,hr.sat.old,fun m e b c l hm b1=> ?_⟩
  rotate_right 1
  ·obtain⟨n,e0,rfl,_,h4,rfl⟩:=h0get _ _ hm
   rw [hren1.base]at b1
   exact hr.sat.dis n _ b c l h4 b1
  ·obtain⟨n,e0,rfl,_,h4,rfl⟩:=h0get _ _ hm
   exact(hr.sat.ent n e0 h4).renm hren1
  ·obtain⟨n,e0,rfl,_,h4,rfl⟩:=h0get _ _ h1
   obtain⟨n',e0',rfl,_,h4',rfl⟩:=h0get _ _ h2
   rw [hren1.base]at b1 b2
   rw [hr.sat.inj n n' _ _ b c l c' l' h4 h4' b1 b2]
 refine((hC _ _ _ hk).ok g1 w vs hargs hsat1).mono ?_
 rintro v w' ⟨g2,r,h',hevo,hsat2,hrv,hq⟩
 have hK:=hQ _ _ _ _ hq
 let fo:=Aur ns k
 let g3:G:=⟨g2.imm,fun m=>match Aka ns k m with |some n=>g2.base n |none=>g.base m,g2.old,g2.tab⟩
 have hren2:Ren fo g2 g3:=⟨rfl,fun n=>by show(match Aka ns k (Aur ns k n)with |some n=>g2.base n |none=>_)=_;rw [Bbx hnd hsub]⟩
 have hnotarr:∀n,n∈ns→(n∈ms→NotArr hp n)→NotArr (La (Im ns) (Ja hp ms)) (Im ns n):=by
  intro n hn hna ty wr sz rows hm
  obtain⟨n',e0,h1,h3,h4,h5⟩:=h0get _ _ hm
  have:=Bft h1
  subst this
  cases e0 with
  |arr=>simp only [Afv]at h5;injection h5 with h6 _ _ _;subst h6;exact hna h3 _ _ _ _ h4
  |_=>simp [Afv]at h5
 have hextArg:∀n,n∈ns→(Im ns n).ext=true:=by
  intro n hn
  obtain⟨i,_,h1,_⟩:=At6 hn
  rw [h1];rfl
 have hbase3:∀m,p m=false→g3.base m=g.base m:=by
  intro m hm
  rw [hpm,Bool.or_eq_false_iff,Bool.and_eq_false_iff]at hm
  obtain⟨hm1,hm2⟩:=hm
  by_cases hmem:m∈ns
  ·have hna:m∈ms→NotArr hp m:=by
    intro hmm
    rcases hm1 with h |h
    ·rw [(Lb _ _).2 hmm]at h;cases h
    ·intro ty wr sz rows he
     simpa [Aum,he] using h
   have:=(hevo.base (Im ns m) (hextArg m hmem) (hnotarr m hmem hna)).1
   show(match Aka ns k m with |some n=>g2.base n |none=>g.base m)=_
   rw [A7u hmem]
   show g2.base (Im ns m)=_
   rw [this,hren1.base]
  ·show(match Aka ns k m with |some n=>g2.base n |none=>g.base m)=_
   rw [Beg hmem hm2]
 have hA:Agree p g g3:=⟨hevo.imm,fun n hn l hl=>by rw [hbase3 n hn];exact hl,hevo.old⟩
 have oldget:∀n e,hget (Cq p (Z5 ms hp)) n=some e→p n=false∧¬n∈ms∧∃e0,hget hp n=some e0∧e=M3 p e0:=by
  intro n e he
  rw [Jp,Bbv]at he
  split at he
  ·cases he
  ·rename_i hpn
   split at he
   ·cases he
   ·rename_i hmn'
    cases hx:hget hp n with
    |none=>rw [hx]at he;cases he
    |some e0=>
     rw [hx]at he;simp at he
     exact⟨by simpa using hpn,fun h=>hmn' ((Lb _ _).2 h),e0,rfl,he.symm⟩
 have hdis:∀n e0,hget hp n=some e0→¬n∈ms→∀b c l,g.base n=some ⟨some b,c,l⟩→∀m e c' l',hget (La (Im ns) (Ja hp ms)) m=some e→g1.base m≠some ⟨some b,c',l'⟩:=by
  intro n e0 hn hnm b c l hb m e c' l' hm hb'
  obtain⟨n',e0',rfl,h5,h4,_⟩:=h0get _ _ hm
  rw [hren1.base]at hb'
  have:=hr.sat.inj n n' _ _ b c l c' l' hn h4 hb hb'
  subst this
  exact hnm h5
 have hsat3:Sat g3 (La fo h'++Cq p (Z5 ms hp)) w':=by
  refine⟨hsat2.imm,fun n e hn=> ?_,fun m1 m2 e1 e2 b c l c' l' h1 h2 b1 b2=> ?_,hsat2.old,fun n e b c l hn hb=> ?_⟩
  rotate_right 1
  ·rw [Jf]at hn
   split at hn
   ·rename_i e' he'
    obtain⟨n',e0,rfl,h2,_⟩:=Aeo _ _ _ _ he'
    rw [hren2.base]at hb
    exact hsat2.dis _ _ b c l h2 hb
   ·obtain⟨hpn,_,e0,h0,_⟩:=oldget _ _ hn
    rw [hbase3 _ hpn]at hb
    show g2.old b=none
    rw [hevo.old]
    exact hr.sat.dis n e0 b c l h0 hb
  ·rw [Jf]at hn
   split at hn
   ·rename_i e' he'
    injection hn with hn;subst hn
    obtain⟨n',e0,rfl,h2,rfl⟩:=Aeo _ _ _ _ he'
    exact(hsat2.ent _ _ h2).renm hren2
   ·obtain⟨hpn,hnm,e0,h0,rfl⟩:=oldget _ _ hn
    refine(hr.sat.ent n e0 h0).agree hA hpn fun b c l hb=> ?_
    have:=hevo.frame b ((hr.sat.ent n e0 h0).lt _ _ _ hb) (fun m e c' l' hm=>hdis n e0 h0 hnm b c l hb m e c' l' hm)
    exact this
  ·have newget:∀n e,hget (La fo h'++Cq p (Z5 ms hp)) n=some e→(∃n' e0,fo n'=n∧hget h' n'=some e0)∨(p n=false∧¬n∈ms∧∃e0,hget hp n=some e0):=by
    intro n e hn
    rw [Jf]at hn
    split at hn
    ·rename_i e' he'
     obtain⟨n',e0,h1,h2,_⟩:=Aeo _ _ _ _ he'
     exact .inl ⟨n',e0,h1,h2⟩
    ·obtain⟨hpn,hnm,e0,h0,_⟩:=oldget _ _ hn
     exact .inr ⟨hpn,hnm,e0,h0⟩
   have mixed:∀n' e0 n e1 b c l c' l',hget h' n'=some e0→g2.base n'=some ⟨some b,c,l⟩→¬n∈ms→hget hp n=some e1→g.base n=some ⟨some b,c',l'⟩→False:=by
    intro n' e0 n e1 b c l c' l' q1 q2 q3 q4 q5
    rcases hevo.own n' e0 b c l q1 q2 with hge |⟨m,e',c1,l1,hm,hb⟩
    ·have:=(hr.sat.ent n e1 q4).lt _ _ _ q5;omega
    ·exact hdis n e1 q4 q3 b c' l' q5 m e' c1 l1 hm hb
   rcases newget _ _ h1 with ⟨n1,e1',rfl,q1⟩ |⟨hp1,hn1,e1',q1⟩<;>rcases newget _ _ h2 with ⟨n2,e2',rfl,q2⟩ |⟨hp2,hn2,e2',q2⟩
   ·rw [hren2.base]at b1 b2
    rw [hsat2.inj n1 n2 _ _ b c l c' l' q1 q2 b1 b2]
   ·rw [hren2.base]at b1
    rw [hbase3 _ hp2]at b2
    exact(mixed _ _ _ _ _ _ _ _ _ q1 b1 hn2 q2 b2).elim
   ·rw [hren2.base]at b2
    rw [hbase3 _ hp1]at b1
    exact(mixed _ _ _ _ _ _ _ _ _ q2 b2 hn1 q1 b1).elim
   ·rw [hbase3 _ hp1]at b1
    rw [hbase3 _ hp2]at b2
    exact hr.sat.inj m1 m2 _ _ b c l c' l' q1 q2 b1 b2
 have hrel:=C8 hr.size hr.defers (tm:=Jv p tm) (hp:=La fo h'++Cq p (Z5 ms hp)) (g:=g3) (fun t=>by rw [Aes];exact(hr.tm t).scrub hA) hsat3 d hd v (noW (AV.ren fo r)) (Af3 (hrv.renm hren2))
 refine⟨g3,_, ?_,hrel,TmS.put _ _ _ _ _ (Jq _),hK⟩
 have hhp:(St.put ⟨Jv p tm,La fo h'++Cq p (Z5 ms hp)⟩ d (noW (AV.ren fo r))).hp=La fo h'++Cq p (Z5 ms hp):=by cases d<;>rfl
 rw [hhp]
 refine⟨hevo.os,hevo.tape,hevo.output,hevo.size,hevo.imm,fun b hb hno=> ?_,fun n e b c l hn hb=> ?_,fun n hx hna=>⟨?_, ?_⟩,hevo.old⟩
 ·refine hevo.frame b hb fun m e c l hm hbm=> ?_
  obtain⟨n',e0',rfl,h5,h4,_⟩:=h0get _ _ hm
  rw [hren1.base]at hbm
  exact hno _ _ _ _ h4 hbm
 ·rw [Jf]at hn
  split at hn
  ·rename_i e' he'
   obtain⟨n',e0,rfl,h2,_⟩:=Aeo _ _ _ _ he'
   rw [hren2.base]at hb
   rcases hevo.own n' e0 b c l h2 hb with hge |⟨m,e'',c1,l1,hm,hb'⟩
   ·exact .inl hge
   ·obtain⟨n1,e1,rfl,h5,h4,_⟩:=h0get _ _ hm
    rw [hren1.base]at hb'
    exact .inr ⟨n1,e1,c1,l1,h4,hb'⟩
  ·obtain⟨hpn,hnm,e0,h0,_⟩:=oldget _ _ hn
   rw [hbase3 _ hpn]at hb
   exact .inr ⟨n,e0,c,l,h0,hb⟩
 ·refine hbase3 n ?_
  rw [hpm]
  have h1:Aum hp n=false:=by
   unfold Aum
   split
   ·rename_i he;have:=hna _ _ _ _ he;subst this;rfl
   ·rfl
  have h2:Aae k n=false:=by cases n<;>simp [Nm.ext]at hx<;>rfl
  rw [h1,h2];simp
 ·intro ty wr sz rows hn
  rw [Jf]at hn
  split at hn
  ·rename_i e' he'
   injection hn with hn;subst hn
   obtain⟨n',e0,h1,h2,h3⟩:=Aeo _ _ _ _ he'
   cases n' with
   |arg i=>
    have h1:Atx (.sub k (.arg i)) ns i=n:=h1
    by_cases hi:i<ns.length
    ·rw [A2t _ _ _ hi]at h1
     subst h1
     have:=(hevo.base (Im ns ns[i]) (hextArg _ (List.getElem_mem hi)) (hnotarr _ (List.getElem_mem hi) fun _=>hna)).2
     rw [A4l hnd i hi]at this
     cases e0 with
     |arr=>simp only [Afv]at h3;injection h3 with h6 _ _ _;subst h6;exact this _ _ _ _ h2
     |_=>simp [Afv]at h3
    ·rw [Ban _ _ _ (by omega)]at h1
     subst h1;simp [Nm.ext]at hx
   |loc t=>have h1:Nm.sub k _=n:=h1;subst h1;simp [Nm.ext]at hx
   |cell m j=>have h1:Nm.sub k _=n:=h1;subst h1;simp [Nm.ext]at hx
   |up m=>have h1:Nm.sub k _=n:=h1;subst h1;simp [Nm.ext]at hx
   |sub t m=>have h1:Nm.sub k _=n:=h1;subst h1;simp [Nm.ext]at hx
  ·obtain⟨_,_,e0,h0,h1⟩:=oldget _ _ hn
   obtain⟨_,_,_,_,rfl⟩:=A00 _ _ _ _ _ _ h1.symm
   exact hna _ _ _ _ h0
theorem Az7(p:Nm→Bool)(ti:TI)(r:AV):AV.has p (Aog ti r)=false:=by
 unfold Aog
 split
 ·rfl
 ·split<;>rfl
theorem Bea(p:Nm→Bool)(T:TT)(ts:List Nat)(l:AV)(j:Nat):AV.hasL p (A0z T ts l j)=false:=by
 induction ts generalizing j with
 |nil=>rfl
 |cons t ts ih=>simp [A0z,AV.hasL,Az7,ih]
theorem Bd9(p:Nm→Bool)(T:TT)(ty:Nat)(r:AV):AV.has p (Ml T ty r)=false:=by
 unfold Ml
 split
 ·simp [AV.has,Bea]
 ·exact Az7 _ _ _
theorem Awb(P:Program)(T:TT)(f ty:Nat) {nt:Nat} {g:G} {st:St} {a:Act} {w:World} (hr:Ca nt g st a w)
 (d:Option Nat)(hd:P8 nt d=true)(args:List AV)(vs:Array Value)(hv:Y0 g vs args)(ivs:List IV)(he:Wo st.hp args=some ivs)(K:St→Prop)
 (hk:Call P f (Dv ivs) [] fun r h'=>Ag (h'=[]∧r=Ml T ty r) (K (St.put ⟨st.tm,Du (AV.namesL args) st.hp⟩ d (Ml T ty r)))):
 Comes1 P f vs w fun v w'=>Up w w'∧∃g' st',g'.base=g.base∧Evo g st.hp w g' st'.hp w'∧Ca nt g' st' (a.put d v) w'∧TmS st.tm st'.tm d∧K st':=by
 obtain⟨hr1,he1⟩:=Sb hr (AV.namesL args)
 obtain⟨hl,hcl⟩:=Zp he
 let g0:=Jo g st.hp w (AV.namesL args)
 have hargs:Y0 g0 vs (Dv ivs):=⟨by rw [Cw,hl];exact hv.1,fun i hi=>by
  rw [Cw]at hi
  rw [Lu _ _ hi]
  exact .imm _ _ (Mr hr.sat (AV.namesL args) (hv.2 i (by omega)) _ (hcl i (by omega)) (Zu args i (by omega)))⟩
 refine(hk.ok g0 w vs hargs ⟨hr1.sat.imm,fun n e h=>by simp [hget]at h,fun n m e e' b c l c' l' h=>by simp [hget]at h,hr1.sat.old,fun n e b c l h=>by simp [hget]at h⟩).mono ?_
 rintro v w' ⟨g2,r,h',hevo,hsat2,hrv,⟨⟨rfl,hre⟩,hK⟩⟩
 let g3:G:=⟨g2.imm,g0.base,g2.old,g2.tab⟩
 have hframe:∀b,b<w.heap.size→w'.heap[b]? =w.heap[b]? ∧∀o,g3.imm b o=g0.imm b o:=fun b hb=>hevo.frame b hb fun n e c l h=>by simp [hget]at h
 have hA:Agree (fun _=>false) g0 g3:=⟨hevo.imm,fun n _ l hl=>hl,hevo.old⟩
 have hsat3:Sat g3 (Du (AV.namesL args) st.hp) w':=by
  refine⟨hsat2.imm,fun n e hn=> ?_,hr1.sat.inj,hsat2.old,fun n e b c l hn hb=>by show g2.old b=none;rw [hevo.old];exact hr1.sat.dis n e b c l hn hb⟩
  have:=(hr1.sat.ent n e hn).agree (w':=w') hA rfl (fun b c l hb=>hframe b ((hr1.sat.ent n e hn).lt _ _ _ hb))
  have e1:M3 (fun _=>false) e=e:=by cases e<;>simp [M3,Amm]
  rw [e1]at this
  exact this
 have hv3:RepA g3 v (Ml T ty r):=by
  rw [hre]at hrv
  exact RepA.agree (g:=g2) (g':=g3) (p:=fun _=>true) ⟨fun _ _ _ h=>h,(fun _ h=>by cases h),rfl⟩ hrv (Bd9 _ _ _ _)
 have hrel:=C8 hr.size hr.defers (tm:=st.tm) (hp:=Du (AV.namesL args) st.hp) (g:=g3) (fun t=>(hr1.tm t).mono hA) hsat3 d hd v (Ml T ty r) hv3
 refine⟨fun b hb=>(hframe b hb).1,g3,_,rfl, ?_,hrel,TmS.put0 _ _ _ _ (Bez _ _ _),hK⟩
 have hhp:(St.put ⟨st.tm,Du (AV.namesL args) st.hp⟩ d (Ml T ty r)).hp=Du (AV.namesL args) st.hp:=by cases d<;>rfl
 rw [hhp]
 refine he1.trans ⟨hevo.os,hevo.tape,hevo.output,hevo.size,hevo.imm,fun b hb _=>hframe b hb,fun n e b c l hn hb=> .inr ⟨n,e,c,l,hn,hb⟩,fun n _ h=>⟨rfl,h⟩,hevo.old⟩
theorem Eu(hp:Heap)(l:List AV):(Hd hp l).length=l.length:=by
 induction l with
 |nil=>rfl
 |cons a r ih=>simp [Hd,ih]
theorem Rq(hp:Heap)(l:List AV)(i:Nat)(hi:i<l.length):(Hd hp l).getD i .undef=(match P6 hp (l.getD i .undef)with |some v=> .imm v |none=>l.getD i .undef)∧(∀v,P6 hp (l.getD i .undef)=some v→∀n,n∈AV.names (l.getD i .undef)→n∈Cv hp l):=by
 induction l generalizing i with
 |nil=>simp at hi
 |cons a r ih=>
  cases i with
  |zero=>
   refine⟨rfl,fun v hv n hn=> ?_⟩
   simp only [List.getD_cons_zero]at hv hn
   simp only [Cv,hv,List.mem_append]
   exact .inl hn
  |succ i=>
   obtain⟨h1,h2⟩:=ih i (by simpa using hi)
   refine⟨by simpa [Hd] using h1,fun v hv n hn=> ?_⟩
   simp only [Cv,List.mem_append]
   exact .inr (h2 v (by simpa using hv) n (by simpa using hn))
structure Uq (P:Program) (f bt:Nat):Prop where
 used:∀(b:Nat) (w:World),w.cell? ⟨b,0,none⟩=some (.pointer (some ⟨b,0,none⟩))→Comes1 P f #[.pointer (some ⟨b,0,none⟩)] w fun v w'=>v= .tuple #[]∧w'=w
 fresh:∀(b:Nat) (w:World),w.cell? ⟨b,0,none⟩=some (.pointer none)→w.shape? b=some (bt,2)→w.frozen? ⟨b,0,none⟩=false→Comes1 P f #[.pointer (some ⟨b,0,none⟩)] w fun v w'=>v= .tuple #[]∧w'=w.setCell ⟨b,0,none⟩ (.pointer (some ⟨b,0,none⟩))
theorem Bd3(P:Program)(f bt:Nat)(hS:Uq P f bt) {nt:Nat} {g:G} {st:St} {a:Act} {w:World} (hr:Ca nt g st a w)(d:Option Nat)(hd:P8 nt d=true)(args:List AV)(vs:Array Value)(hv:Y0 g vs args)(K:St→Prop)(hk:A7h st d bt args K):
 Comes1 P f vs w fun v w'=>∃g' st',Evo g st.hp w g' st'.hp w'∧Ca nt g' st' (a.put d v) w'∧TmS st.tm st'.tm d∧K st':=by
 unfold A7h at hk
 split at hk
 ·rename_i n
  split at hk
  ·rename_i ty x c hg
   have hvs:∃v,vs= #[v]:=by
    have:=hv.1
    obtain⟨l⟩:=vs
    match l,this with
    | [v],_=>exact⟨v,rfl⟩
   obtain⟨v,rfl⟩:=hvs
   have h0:RepA g v (.ptr n 0):=hv.2 0 (by simp)
   cases h0 with |ptr _ b cc ll _ hb=>
   have hent:=hr.sat.ent _ _ hg
   cases hent with |blk _ _ b' c' l' cs fz q1 q2 q3 q4 q5 q6=>
   have q1':=q1
   rw [hb]at q1;injection q1 with q1;injection q1 with e1 e2 e3;injection e1 with e1
   subst e1
   have hsz:cs.size=2:=q4
   have hcell:w.cell? ⟨b,0,none⟩=some (cs.getD 0 undef):=cell_of_block q2 (by omega)
   have hx:RepA g (cs.getD 0 undef) x:=q5 0 (by simp)
   have hc:RepA g (cs.getD 1 undef) c:=q5 1 (by simp)
   split at hk
   ·rename_i hbt
    have hbt:ty=bt:=by simpa using hbt
    subst hbt
    have hx0:cs.getD 0 undef= .pointer none:=by
     have:=D5 hx
     generalize cs.getD 0 undef=z at this
     cases this;rfl
    refine(hS.fresh b w (by rw [hcell,hx0]) (by simp [World.shape?,q2,hsz]) ?_).mono ?_
    ·simp only [World.frozen?,q2]
     cases h:(decide (fz.1≤0) && decide (0<fz.2))with
     |false=>rfl
     |true=>simp at h;omega
    rintro v' w' ⟨rfl,rfl⟩
    rw [setCell_eq_setRow w b 0 cs ty fz _ q2]
    obtain⟨h1,h2⟩:=U2 (w':=w.setRow b (cs.setIfInBounds 0 (.pointer (some ⟨b,0,none⟩)))) hr n _ (.blk ty [.ptr n 0,c]) hg b _ _ hb rfl rfl rfl (by simp [World.setRow]) (fun k hk=>setRow_other w b k _ hk) (fun o u hi=>by rw [q6 o]at hi;cases hi)
     (.blk ty _ b _ _ _ fz hb (setRow_heap w b cs _ _ _ q2) q3 (by simp [hsz]) (fun i hi=>by
       match i,hi with
       |0,_=>
        have:(cs.setIfInBounds 0 (.pointer (some ⟨b,0,none⟩))).getD 0 undef= .pointer (some ⟨b,0,none⟩):=by
         simp [Array.getD_eq_getD_getElem?,show 0<cs.size by omega]
        rw [this]
        exact .ptr _ _ _ _ _ hb
       |1,_=>
        have:(cs.setIfInBounds 0 (.pointer (some ⟨b,0,none⟩))).getD 1 undef=cs.getD 1 undef:=by
         simp [Array.getD_eq_getD_getElem?]
        rw [this]
        exact hc) q6) (by simp)
    refine⟨g,_, ?_,C8 hr.size hr.defers hr.tm h2 d hd _ (.tup []) (.tup _ _ rfl (fun i hi=>by simp at hi)),TmS.put0 _ _ _ _ (fun t b w x h=>by cases h),hk⟩
    rw [show(St.put _ d (AV.tup [])).hp=_ from by cases d<;>rfl]
    exact h1
   ·rename_i m hbt
    split at hk
    ·rename_i hnm
     have hnm:=(Nm.beq_iff _ _).1 hnm
     subst hnm
     have hx0:cs.getD 0 undef= .pointer (some ⟨b,0,none⟩):=by
      generalize cs.getD 0 undef=z at hx
      cases hx with |ptr _ b2 _ _ _ hb2=>
      rw [hb]at hb2;injection hb2 with hb2;injection hb2 with hb2;injection hb2 with hb2
      rw [hb2]
     refine(hS.used b w (by rw [hcell,hx0])).mono ?_
     rintro v' w' ⟨rfl,rfl⟩
     refine⟨g,_, ?_,C8 hr.size hr.defers hr.tm hr.sat d hd _ (.tup []) (.tup _ _ rfl (fun i hi=>by simp at hi)),TmS.put0 _ _ _ _ (fun t b w x h=>by cases h),hk⟩
     rw [show(St.put _ d (AV.tup [])).hp=st.hp from by cases d<;>rfl]
     exact Evo.refl _ _ _
    ·exact hk.elim
   ·rename_i m hbt
    have hbt:ty=bt:=by simpa using hbt
    subst hbt
    split at hk
    ·rename_i hnm
     have hnm:=(Nm.beq_iff _ _).1 hnm
     subst hnm
     have hx0:cs.getD 0 undef= .pointer none∨cs.getD 0 undef= .pointer (some ⟨b,0,none⟩):=by
      generalize cs.getD 0 undef=z at hx
      cases hx with |self _ _ h=>
      rcases h with rfl |⟨b2,_,_,hb2,rfl⟩
      ·exact .inl rfl
      ·rw [hb]at hb2;injection hb2 with hb2;injection hb2 with hb2;injection hb2 with hb2
       subst hb2
       exact .inr rfl
     rcases hx0 with hx0 |hx0
     ·refine(hS.fresh b w (by rw [hcell,hx0]) (by simp [World.shape?,q2,hsz]) ?_).mono ?_
      ·simp only [World.frozen?,q2]
       cases h:(decide (fz.1≤0) && decide (0<fz.2))with
       |false=>rfl
       |true=>simp at h;omega
      rintro v' w' ⟨rfl,rfl⟩
      rw [setCell_eq_setRow w b 0 cs ty fz _ q2]
      obtain⟨h1,h2⟩:=U2 (w':=w.setRow b (cs.setIfInBounds 0 (.pointer (some ⟨b,0,none⟩)))) hr n _ (.blk ty [.self n,c]) hg b _ _ hb rfl rfl rfl (by simp [World.setRow]) (fun k hk=>setRow_other w b k _ hk) (fun o u hi=>by rw [q6 o]at hi;cases hi)
       (.blk ty _ b _ _ _ fz hb (setRow_heap w b cs _ _ _ q2) q3 (by simp [hsz]) (fun i hi=>by
         match i,hi with
         |0,_=>
          have:(cs.setIfInBounds 0 (.pointer (some ⟨b,0,none⟩))).getD 0 undef= .pointer (some ⟨b,0,none⟩):=by
           simp [Array.getD_eq_getD_getElem?,show 0<cs.size by omega]
          rw [this]
          exact .self _ _ (.inr ⟨_,_,_,hb,rfl⟩)
         |1,_=>
          have:(cs.setIfInBounds 0 (.pointer (some ⟨b,0,none⟩))).getD 1 undef=cs.getD 1 undef:=by
           simp [Array.getD_eq_getD_getElem?]
          rw [this]
          exact hc) q6) (by simp)
      refine⟨g,_, ?_,C8 hr.size hr.defers hr.tm h2 d hd _ (.tup []) (.tup _ _ rfl (fun i hi=>by simp at hi)),TmS.put0 _ _ _ _ (fun t b w x h=>by cases h),hk⟩
      rw [show(St.put _ d (AV.tup [])).hp=_ from by cases d<;>rfl]
      exact h1
     ·refine(hS.used b w (by rw [hcell,hx0])).mono ?_
      rintro v' w' ⟨rfl,rfl⟩
      obtain⟨h1,h2⟩:=U2 (w':=w') hr n _ (.blk ty [.self n,c]) hg b _ _ hb rfl rfl rfl rfl (fun _ _=>rfl) (fun o u hi=>hr.sat.imm _ _ _ hi) (hr.sat.ent _ _ hg) (by simp)
      refine⟨g,_, ?_,C8 hr.size hr.defers hr.tm h2 d hd _ (.tup []) (.tup _ _ rfl (fun i hi=>by simp at hi)),TmS.put0 _ _ _ _ (fun t b w x h=>by cases h),hk⟩
      rw [show(St.put _ d (AV.tup [])).hp=_ from by cases d<;>rfl]
      exact h1
    ·exact hk.elim
   ·exact hk.elim
  ·exact hk.elim
 ·exact hk.elim
theorem Bhe(ns:List Nm)(h:Heap)(n:Nm):hget (Ayi ns h) n=match Gv n ns with |true=>(hget h n).map A3a |false=>hget h n:=by
 induction h with
 |nil=>cases Gv n ns<;>rfl
 |cons x h ih=>
  obtain⟨m,e⟩:=x
  rw [Ayi,Ce,Ce,ih]
  by_cases hm:m=n
  ·subst hm
   cases Gv m ns<;>simp
  ·cases Gv n ns<;>simp [hm]
theorem Bkj {g:G} {w:World} {n:Nm} {e:Entry} (h:EntOK g w n e):EntOK g w n (A3a e):=by
 cases h with
 |arr ty wr sz rows b cap cs T fz q1 q2 q3 q4 q5 q6 q7 q8 q9 q10=>
  cases wr with
  |true=>exact .arr 1 true sz rows b cap cs T fz q1 q2 q3 q4 q5 q6 q7 q8 q9 (fun e he=>by omega)
  |false=>exact .arr ty false sz rows b cap cs T fz q1 q2 q3 q4 q5 q6 q7 q8 q9 q10
 |nil ty wr sz q=>cases wr<;>exact .nil _ _ _ q
 |blk T cells b c l cs fz q1 q2 q3 q4 q5 q6=>exact .blk T cells b c l cs fz q1 q2 q3 q4 q5 q6
 |sit s pos b c l t q1 q2 q3=>exact .sit s pos b c l t q1 q2 q3
 |map m b c l es ck q1 q2 q3=>exact .map m b c l es ck q1 q2 q3
theorem Ait {ns:List Nm} {h:Heap} {n:Nm} {e:Entry} (hn:hget (Ayi ns h) n=some e):∃e0,hget h n=some e0∧(e=e0∨e=A3a e0):=by
 rw [Bhe]at hn
 split at hn
 ·cases hx:hget h n with
  |none=>rw [hx]at hn;cases hn
  |some e0=>rw [hx]at hn;injection hn with hn;exact⟨e0,rfl, .inr hn.symm⟩
 ·exact⟨e,hn, .inl rfl⟩
theorem Bh6 {e:Entry} {ty sz:Nat} {w:Bool} {rows:List (List IV)} (h:A3a e= .arr ty w sz rows):ty=1∨e= .arr ty w sz rows:=by
 cases e with
 |arr ty' w' sz' rows'=>
  cases w' with
  |true=>simp only [A3a]at h;injection h with h1;exact .inl h1.symm
  |false=>exact .inr h
 |blk=>cases h
 |sit=>cases h
 |map=>cases h
theorem Blj {nt:Nat} {g:G} {st:St} {a:Act} {w:World} (hr:Ca nt g st a w)(ns:List Nm):Ca nt g ⟨st.tm,Ayi ns st.hp⟩ a w∧Evo g st.hp w g (Ayi ns st.hp) w:=by
 refine⟨⟨hr.size,hr.defers,hr.tm,⟨hr.sat.imm,fun n e hn=> ?_,fun n m e e' b c l c' l' h1 h2 b1 b2=> ?_,hr.sat.old,fun n e b c l hn hb=> ?_⟩⟩,⟨rfl,rfl,rfl,Nat.le_refl _,fun _ _ _ h=>h,fun b _ _=>⟨rfl,fun _=>rfl⟩,fun n e b c l hn hb=> .inr ?_,fun n _ hn=>⟨rfl,fun ty wr sz rows h1=> ?_⟩,rfl⟩⟩
 ·obtain⟨e0,h0,rfl |rfl⟩:=Ait hn
  ·exact hr.sat.ent n _ h0
  ·exact Bkj (hr.sat.ent n _ h0)
 ·obtain⟨e0,h0,_⟩:=Ait h1
  obtain⟨e1,h3,_⟩:=Ait h2
  exact hr.sat.inj n m _ _ b c l c' l' h0 h3 b1 b2
 ·obtain⟨e0,h0,_⟩:=Ait hn
  exact hr.sat.dis n _ b c l h0 hb
 ·obtain⟨e0,h0,_⟩:=Ait hn
  exact⟨n,e0,c,l,h0,hb⟩
 ·obtain⟨e0,h0,h2 |h2⟩:=Ait h1
  ·subst h2;exact hn _ _ _ _ h0
  ·rcases Bh6 h2.symm with h3 |h3
   ·exact h3
   ·subst h3;exact hn _ _ _ _ h0
theorem A31(E:Env)(H:Jh)(f ty:Nat)(hS:∀bt,E.self f=some bt→Uq E.P f bt)(hH:∀ac nt rs,E.inl f=some (ac,nt,rs)→∀args h Q,H ac nt rs args h Q→Call E.P f args h Q) {g:G} {st:St} {a:Act} {w:World} (hr:Ca E.nt g st a w)
 (d:Option Nat)(hd:P8 E.nt d=true)(args:List AV)(vs:Array Value)(hv:Y0 g vs args)(K:St→Prop)(hk:Az2 E H st d ty f args K):
 Comes1 E.P f vs w fun v w'=>∃g' st',Evo g st.hp w g' st'.hp w'∧Ca E.nt g' st' (a.put d v) w'∧TmS st.tm st'.tm d∧K st':=by
 unfold Az2 at hk
 split at hk
 ·rename_i bt hs
  exact Bd3 E.P f bt (hS bt hs) hr d hd args vs hv K hk
 split at hk
 ·rename_i ac nt rs hi
  exact Uw E.P f false (H ac nt rs) (hH ac nt rs hi) hr d hd args vs hv _ (fun _ _ _ _ h=>h) K hk
 ·split at hk
  ·obtain⟨hr1,he1⟩:=Blj hr (AV.namesL args)
   refine(Uw E.P f _ (Call E.P f) (fun _ _ _ h=>h) hr1 d hd _ vs hv _ (fun h0 r h' k hq=>by
    obtain⟨⟨h1,h2⟩,h3⟩:=hq
    rw [←h1, ←h2]at h3
    exact h3) K hk).mono ?_
   rintro v w' ⟨g',st',h1,h2,h3,h4⟩
   exact⟨g',st',he1.trans h1,h2,h3,h4⟩
  ·obtain⟨hr1,he1⟩:=Sb hr (Cv st.hp args)
   have hv1:Y0 (Jo g st.hp w (Cv st.hp args)) vs (Hd st.hp args):=⟨by rw [Eu];exact hv.1,fun i hi=>by
    rw [Eu]at hi
    obtain⟨h1,h2⟩:=Rq st.hp args i hi
    rw [h1]
    split
    ·rename_i v hc
     exact .imm _ _ (Mr hr.sat _ (hv.2 i hi) _ hc (h2 v hc))
    ·exact(hv.2 i hi).mono (Sd _ _ _ _ _)⟩
   refine(Uw E.P f _ (Call E.P f) (fun _ _ _ h=>h) hr1 d hd _ vs hv1 _ (fun h0 r h' k hq=>by
    obtain⟨⟨h1,h2⟩,h3⟩:=hq;rw [←h1, ←h2]at h3;exact h3) K hk).mono ?_
   rintro v w' ⟨g',st',h1,h2,h3,h4⟩
   exact⟨g',st',he1.trans h1,h2,h3,h4⟩
  ·obtain⟨hr1,he1⟩:=Sb hr (Cv st.hp args)
   have hv1:Y0 (Jo g st.hp w (Cv st.hp args)) vs (Hd st.hp args):=⟨by rw [Eu];exact hv.1,fun i hi=>by
    rw [Eu]at hi
    obtain⟨h1,h2⟩:=Rq st.hp args i hi
    rw [h1]
    split
    ·rename_i v hc
     exact .imm _ _ (Mr hr.sat _ (hv.2 i hi) _ hc (h2 v hc))
    ·exact(hv.2 i hi).mono (Sd _ _ _ _ _)⟩
   refine(Uw E.P f _ (Call E.P f) (fun _ _ _ h=>h) hr1 d hd _ vs hv1 _ (fun h0 r h' k hq=>by
    obtain⟨⟨h1,h2⟩,h3⟩:=hq;rw [←h1, ←h2]at h3;exact h3) K hk).mono ?_
   rintro v w' ⟨g',st',h1,h2,h3,h4⟩
   exact⟨g',st',he1.trans h1,h2,h3,h4⟩
  ·obtain⟨hr1,he1⟩:=Sb hr (Cv st.hp args)
   have hv1:Y0 (Jo g st.hp w (Cv st.hp args)) vs (Hd st.hp args):=⟨by rw [Eu];exact hv.1,fun i hi=>by
    rw [Eu]at hi
    obtain⟨h1,h2⟩:=Rq st.hp args i hi
    rw [h1]
    split
    ·rename_i v hc
     exact .imm _ _ (Mr hr.sat _ (hv.2 i hi) _ hc (h2 v hc))
    ·exact(hv.2 i hi).mono (Sd _ _ _ _ _)⟩
   refine(Uw E.P f _ (Call E.P f) (fun _ _ _ h=>h) hr1 d hd _ vs hv1 _ (fun h0 r h' k hq=>by
    cases hb:Bnz r with
    |true=>obtain⟨⟨h1,h2⟩,h3⟩:=hq.t hb;rw [←h1, ←h2]at h3;exact h3
    |false=>obtain⟨⟨h1,h2⟩,h3⟩:=hq.f hb;rw [←h1, ←h2]at h3;exact h3) K hk).mono ?_
   rintro v w' ⟨g',st',h1,h2,h3,h4⟩
   exact⟨g',st',he1.trans h1,h2,h3,h4⟩
  ·split at hk
   ·rename_i ivs he
    exact(Awb E.P E.T f ty hr d hd args vs hv ivs he K hk).mono fun _ _ ⟨_,g',st',_,h⟩=>⟨g',st',h⟩
   ·obtain⟨hr1,he1⟩:=Sb hr (Cv st.hp args)
    have hv1:Y0 (Jo g st.hp w (Cv st.hp args)) vs (Hd st.hp args):=⟨by rw [Eu];exact hv.1,fun i hi=>by
     rw [Eu]at hi
     obtain⟨h1,h2⟩:=Rq st.hp args i hi
     rw [h1]
     split
     ·rename_i v hc
      exact .imm _ _ (Mr hr.sat _ (hv.2 i hi) _ hc (h2 v hc))
     ·exact(hv.2 i hi).mono (Sd _ _ _ _ _)⟩
    refine(Uw E.P f _ (Call E.P f) (fun _ _ _ h=>h) hr1 d hd _ vs hv1 _ (fun h0 r h' k hq=>by
     obtain⟨⟨h1,h2⟩,h3⟩:=hq
     rw [←h1, ←h2]at h3
     exact h3) K hk).mono ?_
    rintro v w' ⟨g',st',h1,h2,h3,h4⟩
    exact⟨g',st',he1.trans h1,h2,h3,h4⟩
theorem A4g(P:Program) {nt:Nat} {g:G} {st:St} {a:Act} {w:World} (o:Oper)(f:Nat)(fo:Operand)(args:Array Operand)(ts:Array Nat)(first caps:Array Value)(ho:o.op= .call ⟨.value fo,args,ts⟩)(hf:a.eval fo= .func (.func f) first caps)
 (K:St→Prop)(hc:Comes1 P f (first++args.map a.eval++caps) w fun v w'=>∃g' st',Evo g st.hp w g' st'.hp w'∧Ca nt g' st' (a.put o.dst v) w'∧TmS st.tm st'.tm o.dst∧K st'):Step P nt g st a w o K:=by
 intro next Q hn
 unfold Oper.wp
 have he:execOp a.eval o=callFunc f (first++args.map a.eval++caps):=by
  unfold execOp
  simp only [ho]
  unfold resolve
  simp only [hf]
  simp [Deferred.ofValue,invoke]
 rw [he]
 unfold Comes1 at hc
 split at hc
 ·rename_i f' vs' w' heq
  rw [heq,Oper.upon_enter]
  refine hc.mono ?_
  rintro e w'' ⟨v,rfl,g',st',h1,h2,h3,h4⟩
  exact hn g' st' _ w'' h1 h2 h3 h4
 ·rename_i v w' heq
  rw [heq,Oper.upon_value]
  obtain⟨g',st',h1,h2,h3,h4⟩:=hc
  exact hn g' st' _ w' h1 h2 h3 h4
 ·exact hc.elim
end Go.Proofs.Sim

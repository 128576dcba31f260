import Derived.Test.YtaggabcajidnnaaGreatDoorSimF
import Derived.Laws.CopyRow
import Derived.Laws.AppendOwn
import Derived.Lib.ConvBytes
import Derived.Lib.AppendStr
namespace Go.Proofs.Sim
open Go
def TmS(tm tm':List (Nat × AV))(d:Option Nat):Prop:=∀u,(d=some u∧NoW (lk tm' u))∨lk tm' u=lk tm u∨(lk tm' u= .undef∧∀b,lk tm u≠ .imm b)
theorem Jq(a:AV):NoW (noW a):=by cases a<;>intro t b w x h<;>cases h
theorem TmS.scrub(p:Nm→Bool)(tm:List (Nat × AV))(u:Nat):lk (Jv p tm) u=lk tm u∨(lk (Jv p tm) u= .undef∧∀b,lk tm u≠ .imm b):=by
 rw [Aes]
 unfold Uu
 split
 ·rename_i h
  exact .inr ⟨rfl,fun b e=>by rw [e]at h;cases h⟩
 ·exact .inl rfl
theorem TmS.cons(p:Nm→Bool)(tm:List (Nat × AV))(d:Nat)(v:AV)(hv:NoW v):TmS tm ((d,v)::Jv p tm) (some d):=by
 intro u
 rw [Fu]
 by_cases h:d=u
 ·subst h;rw [if_pos rfl];exact .inl ⟨rfl,hv⟩
 ·rw [if_neg h];exact .inr (TmS.scrub p tm u)
theorem TmS.put(p:Nm→Bool)(tm:List (Nat × AV))(hp:Heap)(d:Option Nat)(v:AV)(hv:NoW v):TmS tm (St.put ⟨Jv p tm,hp⟩ d v).tm d:=by
 cases d with
 |some d=>exact TmS.cons p tm d v hv
 |none=>intro u;exact .inr (TmS.scrub p tm u)
theorem TmS.put0(tm:List (Nat × AV))(hp:Heap)(d:Option Nat)(v:AV)(hv:NoW v):TmS tm (St.put ⟨tm,hp⟩ d v).tm d:=by
 intro u
 cases d with
 |none=>exact .inr (.inl rfl)
 |some d=>
  simp only [St.put,Fu]
  by_cases h:d=u
  ·subst h;rw [if_pos rfl];exact .inl ⟨rfl,hv⟩
  ·rw [if_neg h];exact .inr (.inl rfl)
def Step(P:Program)(nt:Nat)(g:G)(st:St)(a:Act)(w:World)(o:Oper)(K:St→Prop):Prop:=
 ∀(next:Act→World→Prop) (Q:Exit→Act→World→Prop),(∀g' st' a' w',Evo g st.hp w g' st'.hp w'→Ca nt g' st' a' w'→TmS st.tm st'.tm o.dst→K st'→next a' w')→o.wp P a w next Q
theorem Aen {a:Act} {d:Nat} {v:Value} (hd:d<a.tmps.size)(t:Nat):(a.put (some d) v).tmps.getD t undef=if t=d then v else a.tmps.getD t undef:=by
 simp only [Act.put,Array.getD_eq_getD_getElem?,Array.getElem?_setIfInBounds]
 by_cases h:d=t
 ·subst h;simp [hd]
 ·rw [if_neg h,if_neg (Ne.symm h)]
theorem C8 {nt:Nat} {g:G} {tm:List (Nat × AV)} {hp:Heap} {a:Act} {w:World} (hsz:a.tmps.size=nt)(hdf:a.defers=[])(htm:∀t,RepA g (a.tmps.getD t undef) (lk tm t))(hs:Sat g hp w)
 (d:Option Nat)(hd:P8 nt d=true)(v:Value)(V:AV)(hv:RepA g v V):Ca nt g (St.put ⟨tm,hp⟩ d V) (a.put d v) w:=by
 cases d with
 |none=>exact⟨hsz,hdf,htm,hs⟩
 |some d=>
  have hd':d<nt:=by simp [P8,Nat.blt]at hd;omega
  refine⟨by simp [Act.put,hsz],hdf,fun t=> ?_,hs⟩
  rw [Aen (by omega)]
  simp only [St.put,Fu]
  by_cases h:t=d
  ·subst h;simpa using hv
  ·rw [if_neg h,if_neg (Ne.symm h)];exact htm t
theorem Bcs {P:Program} {nt:Nat} {g g':G} {st st':St} {a:Act} {w w':World} {o:Oper} {K:St→Prop} {val:Value} (run:(execOp a.eval o).run P w= .ok (.value val) w')
 (he:Evo g st.hp w g' st'.hp w')(hr:Ca nt g' st' (a.put o.dst val) w')(ht:TmS st.tm st'.tm o.dst)(hk:K st'):Step P nt g st a w o K:=by
 intro next Q hn
 unfold Oper.wp
 rw [run]
 exact hn g' st' _ w' he hr ht hk
theorem Aih {P:Program} {nt:Nat} {g g':G} {st st':St} {a:Act} {w w':World} {o:Oper} {K:St→Prop} (run:(execOp a.eval o).run P w= .ok .skip w')
 (he:Evo g st.hp w g' st'.hp w')(hr:Ca nt g' st' (a.put o.dst undef) w')(ht:TmS st.tm st'.tm o.dst)(hk:K st'):Step P nt g st a w o K:=by
 intro next Q hn
 unfold Oper.wp
 rw [run]
 exact hn g' st' _ w' he hr ht hk
theorem Az8 {g:G} {h:Heap} {w:World} (hs:Sat g h w) {b o:Nat} {v:Value} (hi:g.imm b o=some v):b<w.heap.size:=by
 have:=hs.imm b o v hi
 rcases Nat.lt_or_ge b w.heap.size with h |h
 ·exact h
 ·simp [World.cell?,Array.getElem?_eq_none h]at this
theorem heap_alloc_old(w:World)(o:Obj)(b:Nat)(h:b<w.heap.size):(w.alloc o).heap[b]? =w.heap[b]? :=by
 show(w.heap.push o)[b]? =_
 rw [Array.getElem?_push,if_neg (by omega)]
theorem heap_alloc_new(w:World)(o:Obj):(w.alloc o).heap[w.heap.size]? =some o:=by
 show(w.heap.push o)[w.heap.size]? =_
 simp
def G.upd(g:G)(p:Nm→Bool)(f:Nm→Loc):G:=⟨g.imm,fun n=>if p n then some (f n)else g.base n,g.old,g.tab⟩
theorem Abf(g:G)(p:Nm→Bool)(f:Nm→Loc):Agree p g (g.upd p f):=⟨fun _ _ _ h=>h,fun n hn l hl=>by simp [G.upd,hn,hl],rfl⟩
theorem A8w {g:G} {h:Heap} {w w':World} (hs:Sat g h w)(p:Nm→Bool)(f:Nm→Loc)(hw:∀b,b<w.heap.size→w'.heap[b]? =w.heap[b]?):Sat (g.upd p f) (Cq p h) w':=by
 refine A8y hs (Abf g p f) (fun n e he hp b c l hb=>⟨hw b ((hs.ent n e he).lt b c l hb),fun _=>rfl⟩) (fun b o v hi=> ?_) (fun b o ho=>by have h1:=hs.old b o ho;rw [hw b (Array.getElem?_eq_some_iff.1 h1).1];exact h1)
 have hlt:=Az8 hs hi
 have:=hs.imm b o v hi
 simpa [World.cell?,hw b hlt] using this
theorem Bb7 {a:AV} {sz:Nat} (h:Apq a=some sz):a= .imm (.sl .nil sz []):=by
 unfold Apq at h
 split at h
 ·injection h with h;subst h;rfl
 ·cases h
theorem A8x {g:G} {h:Heap} {w:World} (hs:Sat g h w)(n:Nm)(sh:List CS)(cells:List AV)(j:Nat)(hb:∀k,j≤k→D7 n cells j (.cell n k)=true→g.base (.cell n k)=some ⟨none,0,0⟩):Sat g (Ie n sh cells j++h) w:=by
 induction cells generalizing j sh with
 |nil=>exact hs
 |cons a r ih=>
  have ih':=ih sh.tail (j+1) (fun k hk hk'=>hb k (by omega) (by
   simp only [D7];split
   ·simp [hk']
   ·exact hk'))
  simp only [Ie]
  split
  ·rename_i sz hsz
   have hb0:=hb _ (Nat.le_refl _) (by simp [D7,hsz,Nm.beq_self])
   refine Ap6 ih' _ _ (.nil _ _ _ hb0) (fun m e' b c l c' l' _ _ h1=> ?_) (fun b c l h1=>by rw [hb0]at h1;injection h1 with h1;injection h1 with h1;cases h1)
   rw [hb0]at h1
   injection h1 with h1;injection h1 with h1;cases h1
  ·exact ih'
theorem Afc(n:Nm)(sh:List CS)(cells:List AV)(j:Nat)(m:Nm)(e:Entry)(h:hget (Ie n sh cells j) m=some e):∃k,j≤k∧m= .cell n k:=by
 induction cells generalizing j sh with
 |nil=>simp [Ie,hget]at h
 |cons a r ih=>
  simp only [Ie]at h
  split at h
  ·rw [Ce]at h
   split at h
   ·rename_i e0;exact⟨j,Nat.le_refl _,e0.symm⟩
   ·obtain⟨k,hk,e0⟩:=ih _ _ h;exact⟨k,by omega,e0⟩
  ·obtain⟨k,hk,e0⟩:=ih _ _ h;exact⟨k,by omega,e0⟩
theorem Adb(n:Nm)(cells:List AV)(j:Nat):(Iq n cells j).length=cells.length:=by
 induction cells generalizing j with
 |nil=>rfl
 |cons a r ih=>simp [Iq,ih]
theorem Av8 {g:G} (n:Nm)(cells:List AV)(j:Nat)(hb:∀k,j≤k→D7 n cells j (.cell n k)=true→g.base (.cell n k)=some ⟨none,0,0⟩)(vs:Nat→Value)(hr:∀i,i<cells.length→RepA g (vs i) (cells.getD i .undef)):
 ∀i,i<cells.length→RepA g (vs i) ((Iq n cells j).getD i .undef):=by
 induction cells generalizing j vs with
 |nil=>intro i hi;simp at hi
 |cons a r ih=>
  intro i hi
  have ih':=ih (j+1) (fun k hk hk'=>hb k (by omega) (by
   simp only [D7];split
   ·simp [hk']
   ·exact hk')) (fun i=>vs (i+1)) (fun i hi=>by simpa using hr (i+1) (by simpa using hi))
  simp only [Iq]
  cases i with
  |succ i=>simpa using ih' i (by simpa using hi)
  |zero=>
   simp only [List.getD_cons_zero]
   split
   ·rename_i sz hsz
    have h0:=hr 0 (by simp)
    rw [List.getD_cons_zero,Bb7 hsz]at h0
    have h0:=D5 h0
    generalize vs 0=v0 at h0
    cases h0 with |sl a' cap _ _ _ b o ws q1 q2 q3 q4=>
    have ha:=q4 rfl
    subst ha
    have hc:=q2 rfl
    subst hc
    exact .own _ none 0 0 (hb _ (Nat.le_refl _) (by simp [D7,hsz,Nm.beq_self]))
   ·simpa using hr 0 (by simp)
theorem Bck(d:Nat):rooted d (.loc d)=true:=by simp [rooted]
theorem A7j {g:G} {h h':Heap} {w w':World} {g':G} (hold:g'.old=g.old)(hos:w'.os=w.os)(ht:w'.tape=w.tape)(ho:w'.output=w.output)(hsz:w.heap.size≤w'.heap.size)(himm:∀b o v,g.imm b o=some v→g'.imm b o=some v)
 (hfr:∀b,b<w.heap.size→w'.heap[b]? =w.heap[b]? ∧∀o,g'.imm b o=g.imm b o)(hown:∀n e b c l,hget h' n=some e→g'.base n=some ⟨some b,c,l⟩→w.heap.size≤b∨∃m e' c' l',hget h m=some e'∧g.base m=some ⟨some b,c',l'⟩)
 (hbase:∀n,n.ext=true→NotArr h n→g'.base n=g.base n∧NotArr h' n):Evo g h w g' h' w':=
 ⟨hos,ht,ho,hsz,himm,fun b hb _=>hfr b hb,hown,hbase,hold⟩
theorem Av9(n:Nm)(sh:List CS)(cells:List AV)(j:Nat)(m:Nm)(h:m.ext=true):hget (Ie n sh cells j) m=none:=by
 cases hx:hget (Ie n sh cells j) m with
 |none=>rfl
 |some e=>obtain⟨k,_,rfl⟩:=Afc _ _ _ _ _ _ hx;simp [Nm.ext]at h
theorem A37 {nt:Nat} {g:G} {st:St} {a:Act} {w:World} (hr:Ca nt g st a w)(d:Nat)(hd:d<nt)(sh:List CS)(cells:List AV)(cs:Array Value)(T:Nat)(hl:cs.size=cells.length)
 (hc:∀i,i<cells.length→RepA g (cs.getD i undef) (cells.getD i .undef)):
 ∃g',Evo g st.hp w g' (newVar st d T sh cells).hp (w.alloc (.cells cs T))∧Ca nt g' (newVar st d T sh cells) (a.put (some d) (.pointer (some ⟨w.heap.size,0,none⟩))) (w.alloc (.cells cs T)):=by
 let p:=rooted d
 let f:Nm→Loc:=fun n=>match n with | .loc _=>⟨some w.heap.size,0,0⟩ |_=>⟨none,0,0⟩
 let g':=g.upd p f
 have hA:=Abf g p f
 have hbl:g'.base (.loc d)=some ⟨some w.heap.size,0,0⟩:=by simp [g',G.upd,p,Bck,f]
 have hbc:∀k,g'.base (.cell (.loc d) k)=some ⟨none,0,0⟩:=by intro k;simp [g',G.upd,p,rooted,f]
 have hs1:Sat g' (Cq p st.hp) (w.alloc (.cells cs T)):=A8w hr.sat p f (fun b hb=>heap_alloc_old w _ b hb)
 have hs2:=A8x hs1 (.loc d) sh (Ct p cells) 0 (fun k _ _=>hbc k)
 have hn1:=Adb (.loc d) (Ct p cells) 0
 have hn2:=Av8 (g:=g') (.loc d) (Ct p cells) 0 (fun k _ _=>hbc k) (fun i=>cs.getD i undef) (fun i hi=>by
  rw [Gf]at hi
  rw [Afd]
  exact(hc i hi).scrub hA)
 have hent:EntOK g' (w.alloc (.cells cs T)) (.loc d) (.blk T (Iq (.loc d) (Ct p cells) 0)):=
  .blk _ _ _ _ _ cs (0,0) hbl (heap_alloc_new w _) (Nat.le_refl _) (by rw [hn1,Gf,hl]) (fun i hi=>hn2 i (by rw [hn1]at hi;exact hi)) (fun o=>by
   show g.imm w.heap.size o=none
   cases hi:g.imm w.heap.size o with
   |none=>rfl
   |some v=>exact absurd (Az8 hr.sat hi) (by omega))
 have hs3:Sat g' (newVar st d T sh cells).hp (w.alloc (.cells cs T)):=by
  have hnew:g.old w.heap.size=none:=by
   cases ho:g.old w.heap.size with
   |none=>rfl
   |some o=>have:=(Array.getElem?_eq_some_iff.1 (hr.sat.old _ _ ho)).1;omega
  refine Ap6 hs2 _ _ hent (fun m e' b c l c' l' hne hm h1 h2=> ?_) (fun b c l h1=>by rw [hbl]at h1;injection h1 with h1;injection h1 with h1;injection h1 with h1;subst h1;exact hnew)
  rw [hbl]at h1
  injection h1 with h1;injection h1 with h1;injection h1 with h1
  subst h1
  have hpm:p m=false∨∃k,m= .cell (.loc d) k:=by
   cases hpm:p m with
   |false=>exact .inl rfl
   |true=>
    exfalso
    have:(g.upd p f).base m=some (f m):=by simp [G.upd,hpm]
    rw [show g'.base m=some (f m) from this]at h2
    injection h2 with h2
    cases m with
    |loc t=>simp [p,rooted]at hpm;exact hne (by rw [hpm])
    |cell n k=>simp [f]at h2
    |arg i=>simp [p,rooted]at hpm
    |up n=>simp [p,rooted]at hpm
    |sub t n=>simp [p,rooted]at hpm
  rcases hpm with hpm |⟨k,rfl⟩
  ·have hgm:g.base m=some ⟨some w.heap.size,c',l'⟩:=by simpa [g',G.upd,hpm] using h2
   have hold:∃e0,hget st.hp m=some e0:=by
    rw [Jf]at hm
    split at hm
    ·rename_i e1 he1
     exfalso
     obtain⟨k,_,rfl⟩:=Afc _ _ _ _ _ _ he1
     simp [p,rooted]at hpm
    ·rw [Jp,hpm]at hm
     simp at hm
     obtain⟨e0,h0,_⟩:=hm
     exact⟨e0,h0⟩
   obtain⟨e0,h0⟩:=hold
   exact absurd ((hr.sat.ent m e0 h0).lt _ _ _ hgm) (by omega)
  ·rw [hbc]at h2;injection h2 with h2;injection h2 with h2;cases h2
 refine⟨g',A7j (g:=g) (g':=g') rfl rfl rfl rfl (by show w.heap.size≤(w.heap.push _).size;simp) (fun _ _ _ h=>h) (fun b hb=>⟨heap_alloc_old w _ b hb,fun _=>rfl⟩) (fun n e b c l hn hb=> ?_) (fun n hx hn=>⟨?_, ?_⟩), ?_⟩
 ·by_cases hpn:p n=true
  ·left
   have:g'.base n=some (f n):=by simp [g',G.upd,hpn]
   rw [this]at hb
   injection hb with hb
   cases n<;>simp [f]at hb
   omega
  ·right
   have hpn:p n=false:=by simpa using hpn
   have hgn:g.base n=some ⟨some b,c,l⟩:=by simpa [g',G.upd,hpn] using hb
   have hn':∃e0,hget st.hp n=some e0:=by
    simp only [newVar]at hn
    rw [Ce]at hn
    split at hn
    ·rename_i e0;subst e0;simp [p,rooted]at hpn
    ·rw [Jf]at hn
     split at hn
     ·rename_i e1 he1
      obtain⟨k,_,rfl⟩:=Afc _ _ _ _ _ _ he1
      simp [p,rooted]at hpn
     ·rw [Jp]at hn
      split at hn
      ·cases hn
      ·cases hq:hget st.hp n with
       |none=>rw [hq]at hn;cases hn
       |some e0=>exact⟨e0,rfl⟩
   obtain⟨e0,h0⟩:=hn'
   exact⟨n,e0,c,l,h0,hgn⟩
 ·have:p n=false:=by cases n<;>simp [Nm.ext]at hx<;>rfl
  simp [g',G.upd,this]
 ·exact NotArr.cons (NotArr.append (Av9 _ _ _ _ _ hx) (hn.scrub p)) (.inr (by simp))
 ·refine⟨by simp [Act.put,hr.size],hr.defers,fun t=> ?_,hs3⟩
  rw [Aen (by rw [hr.size];exact hd)]
  show RepA g' _ (lk ((d, .ptr (.loc d) 0)::Jv p st.tm) t)
  rw [Fu,Aes]
  by_cases h:t=d
  ·subst h;simpa using RepA.ptr (.loc t) w.heap.size 0 0 0 hbl
  ·rw [if_neg h,if_neg (Ne.symm h)];exact(hr.tm t).scrub hA
theorem one_cell {g:G} {v:Value} {x:AV} (h:RepA g v x)(ho:Apy x=true):v.oneCell'=true:=by
 cases h with
 |imm _ x h=>cases h<;>first |rfl |(simp [Apy]at ho;done) |(cases v<;>simp [Apy]at ho<;>rfl)
 |agg=>simp [Apy]at ho
 |tup=>simp [Apy]at ho
 |when=>simp [Apy]at ho
 |undef=>simp [Apy]at ho
 |self n v h=>rcases h with rfl |⟨_,_,_,_,rfl⟩<;>rfl
 |_=>rfl
theorem Af5 {l:List AV} (h:Akh l=true)(i:Nat)(hi:i<l.length):Apy (l.getD i .undef)=true:=by
 induction l generalizing i with
 |nil=>simp at hi
 |cons a l ih=>
  simp only [Akh,Bool.and_eq_true]at h
  cases i with |zero=>exact h.1 |succ i=>simpa using ih h.2 i (by simpa using hi)
def Pe(o:Nat):List Value→Array Value→Array Value
 | [],cur=>cur
 |v::vs,cur=>Pe (o+1) vs (cur.setIfInBounds o v)
theorem Af2(vs:List Value)(o:Nat)(cur:Array Value)(hfit:o+vs.length≤cur.size):(Pe o vs cur).size=cur.size∧∀i,(Pe o vs cur).getD i undef=if o≤i∧i<o+vs.length then vs.getD (i - o) undef else cur.getD i undef:=by
 induction vs generalizing o cur with
 |nil=>refine⟨rfl,fun i=> ?_⟩;rw [if_neg (by simp only [List.length_nil];omega)];rfl
 |cons v vs ih=>
  simp only [List.length_cons]at hfit
  obtain⟨h1,h2⟩:=ih (o+1) (cur.setIfInBounds o v) (by simp;omega)
  refine⟨by simp only [Pe];rw [h1];simp,fun i=> ?_⟩
  simp only [Pe,List.length_cons]
  rw [h2]
  by_cases hi0:i=o
  ·subst hi0
   rw [if_neg (by omega),if_pos (by omega)]
   have hlt:i<cur.size:=by omega
   simp [Array.getD_eq_getD_getElem?,hlt]
  ·by_cases hin:o≤i∧i<o+(vs.length+1)
   ·rw [if_pos (by omega),if_pos hin]
    obtain⟨q,rfl⟩:∃q,i=o+1+q:=⟨i - (o+1),by omega⟩
    rw [show o+1+q - (o+1)=q by omega,show o+1+q - o=q+1 by omega]
    simp
   ·rw [if_neg (by omega),if_neg hin]
    simp [Array.getD_eq_getD_getElem?,Ne.symm hi0]
theorem Np(P:Program)(b o:Nat)(T:Nat)(fz:Nat × Nat):∀(vs:List Value) (i:Nat) (cur:Array Value) (w:World),w.heap[b]? =some (.cells cur T fz)→o+i+vs.length≤cur.size→
 (∀k,k<vs.length→¬(fz.1≤o+i+k∧o+i+k<fz.2))→(∀v∈vs,v.oneCell'=true)→(storeCells ⟨b,o,none⟩ vs i).run P w= .ok () (w.setRow b (Pe (o+i) vs cur))
 | [],i,cur,w,hg,_,_,_=>by
   simp only [storeCells,Pe]
   rw [setRow_self w b cur T fz hg]
   rfl
 |v::rest,i,cur,w,hg,hl,hf,h1=>by
  have hi:o+i<cur.size:=by simp at hl;omega
  have hcell:w.cell? ⟨b,o+i,none⟩=some cur[o+i]:=by simp [World.cell?,hg,hi]
  have hfro:w.frozen? ⟨b,o+i,none⟩=false:=by
   have:=hf 0 (by simp)
   simp only [Nat.add_zero]at this
   simp only [World.frozen?,hg]
   cases h:(decide (fz.1≤o+i) && decide (o+i<fz.2))with
   |false=>rfl
   |true=>simp at h;exact absurd h this
  have hst:(store ((⟨b,o,none⟩:Addr).add i) v).run P w= .ok () (w.setRow b (cur.setIfInBounds (o+i) v)):=by
   rw [M6,run_store P w _ v _ (h1 v (by simp)),hcell]
   simp [hfro,setCell_eq_setRow w b (o+i) cur T fz v hg]
  have ih:=Np P b o T fz rest (i+1) (cur.setIfInBounds (o+i) v) (w.setRow b (cur.setIfInBounds (o+i) v)) (setRow_heap w b cur _ T _ hg) (by simp at hl ⊢; omega)
   (fun k hk=>by have:=hf (k+1) (by simp;omega);rw [show o+(i+1)+k=o+i+(k+1)by omega];exact this) (fun x hx=>h1 x (by simp [hx]))
  simp only [storeCells,Sem.run_bind,hst,Result.andThen_ok,ih,setRow_setRow]
  rfl
theorem A8z {p:Nm→Bool} {g g':G} {h:Heap} {w w':World} (hs:Sat g h w)(ha:Agree p g g')(n0:Nm)(e0 e':Entry)(h0:hget h n0=some e0)(hp0:p n0=false)
 (hb:∀n e,n≠n0→hget h n=some e→p n=false→∀b c l,g.base n=some ⟨some b,c,l⟩→w'.heap[b]? =w.heap[b]? ∧∀o,g'.imm b o=g.imm b o)
 (himm:∀b o v,g'.imm b o=some v→w'.cell? ⟨b,o,none⟩=some v)(hold:∀b o,g.old b=some o→w'.heap[b]? =some o)(he:EntOK g' w' n0 e')(hbase:∀b c l,g'.base n0=some ⟨some b,c,l⟩→∃c' l',g.base n0=some ⟨some b,c',l'⟩):Sat g' (hset (Cq p h) n0 e') w':=by
 have get:∀n e,hget (hset (Cq p h) n0 e') n=some e→(n=n0∧e=e')∨(n≠n0∧p n=false∧∃e0,hget h n=some e0∧e=M3 p e0):=by
  intro n e hn
  rw [Sg]at hn
  split at hn
  ·rename_i e1;injection hn with hn;exact .inl ⟨e1.symm,hn.symm⟩
  ·rename_i hne
   rw [Jp]at hn
   split at hn
   ·cases hn
   ·rename_i hp
    cases hx:hget h n with
    |none=>rw [hx]at hn;cases hn
    |some e0=>rw [hx]at hn;simp at hn;exact .inr ⟨Ne.symm hne,by simpa using hp,e0,rfl,hn.symm⟩
 have old:∀n e,hget (hset (Cq p h) n0 e') n=some e→∃e1,hget h n=some e1∧∀b c l,g'.base n=some ⟨some b,c,l⟩→∃c' l',g.base n=some ⟨some b,c',l'⟩:=by
  intro n e hn
  rcases get n e hn with ⟨rfl,rfl⟩ |⟨hne,hp,e1,h1,rfl⟩
  ·exact⟨e0,h0,hbase⟩
  ·refine⟨e1,h1,fun b c l hb'=> ?_⟩
   have hx:∃L,g.base n=some L:=by
    have:=hs.ent n e1 h1
    cases this<;>exact⟨_,by assumption⟩
   obtain⟨L,hL⟩:=hx
   have:=ha.base n hp L hL
   rw [hb']at this
   injection this with this
   subst this
   exact⟨c,l,hL⟩
 refine⟨himm,fun n e hn=> ?_,fun n m e1 e2 b c l c' l' h1 h2 b1 b2=> ?_,fun b o ho=>hold b o (by rw [←ha.old];exact ho),fun n e b c l hn hb1=> ?_⟩
 rotate_right 1
 ·obtain⟨e1,q1,r1⟩:=old n e hn
  obtain⟨c1,l1,b1⟩:=r1 b c l hb1
  rw [ha.old]
  exact hs.dis n e1 b c1 l1 q1 b1
 ·rcases get n e hn with ⟨rfl,rfl⟩ |⟨hne,hp,e1,h1,rfl⟩
  ·exact he
  ·exact(hs.ent n e1 h1).agree ha hp (fun b c l hbb=>hb n e1 hne h1 hp b c l hbb)
 ·obtain⟨_,q1,r1⟩:=old n e1 h1
  obtain⟨_,q2,r2⟩:=old m e2 h2
  obtain⟨_,_,b1⟩:=r1 b c l b1
  obtain⟨_,_,b2⟩:=r2 b c' l' b2
  exact hs.inj n m _ _ b _ _ _ _ q1 q2 b1 b2
theorem App(n:Nm)(cells:List AV)(j:Nat)(m:Nm)(h:D7 n cells j m=true):∃k,j≤k∧m= .cell n k:=by
 induction cells generalizing j with
 |nil=>simp [D7]at h
 |cons a r ih=>
  simp only [D7]at h
  split at h
  ·simp only [Bool.or_eq_true]at h
   rcases h with h |h
   ·exact⟨j,Nat.le_refl _,((Nm.beq_iff _ _).1 h).symm⟩
   ·obtain⟨k,hk,e⟩:=ih _ h;exact⟨k,by omega,e⟩
  ·obtain⟨k,hk,e⟩:=ih _ h;exact⟨k,by omega,e⟩
theorem A9o(p:Nm→Bool)(a:AV):Apq (Uu p a)=Apq a:=by
 unfold Uu
 split
 ·rename_i h
  cases a<;>simp [AV.has]at h<;>rfl
 ·rfl
theorem Amb(p:Nm→Bool)(n:Nm)(cells:List AV)(j:Nat):D7 n (Ct p cells) j=D7 n cells j:=by
 induction cells generalizing j with
 |nil=>rfl
 |cons a r ih=>funext m;simp only [Ct,D7,A9o,ih]
theorem Bkb(n:Nm)(k:Nat):n≠ .cell n k:=by
 intro h
 have:=congrArg SizeOf.sizeOf h
 simp at this
 omega
theorem A5m(n:Nm)(cells:List AV)(j:Nat):D7 n cells j n=false:=by
 cases h:D7 n cells j n with
 |false=>rfl
 |true=>obtain⟨k,_,e⟩:=App _ _ _ _ h;exact absurd e (Bkb n k)
theorem Bad {g g':G} {h h':Heap} {w:World} (hold:g'.old=g.old)(b:Nat)(cs:Array Value)(n0:Nm)(e0:Entry)(h0:hget h n0=some e0)(c l:Nat)(hb0:g.base n0=some ⟨some b,c,l⟩)
 (himm:∀b o v,g.imm b o=some v→g'.imm b o=some v)(hfr:∀k,k≠b→∀o,g'.imm k o=g.imm k o)
 (hown:∀n e b' c l,hget h' n=some e→g'.base n=some ⟨some b',c,l⟩→∃m e' c' l',hget h m=some e'∧g.base m=some ⟨some b',c',l'⟩)
 (hbase:∀n,n.ext=true→NotArr h n→g'.base n=g.base n∧NotArr h' n):Evo g h w g' h' (w.setRow b cs):=by
 refine⟨rfl,rfl,rfl,by simp [World.setRow],himm,fun k hk hno=> ?_,fun n e b' c l hn hb=> .inr (hown n e b' c l hn hb),hbase,hold⟩
 have hne:k≠b:=by intro e;subst e;exact hno n0 e0 c l h0 hb0
 exact⟨setRow_other w b k cs hne,hfr k hne⟩
theorem A4h(P:Program)(T:TT)(hT:Dc P T) {nt:Nat} {g:G} {st:St} {a:Act} {w:World} (hr:Ca nt g st a w)(t:Nat)(ht:(tl T t).td≠ .missing)(x v:Value)(n:Nm)(off:Nat)(V:AV)(hx:RepA g x (.ptr n off))(hv:RepA g v V)
 (hfo:Oe V=true)(hlen:(flat V).length=(tl T t).size)(TT':Nat)(cells:List AV)(hg:hget st.hp n=some (.blk TT' cells))(hfit:off+(flat V).length≤cells.length)(hone:Akh (flat V)=true)(sh:List CS):
 ∃g' w',(Instr.storeAt t x v).run P w= .ok () w'∧((∀k,(∀c l,g.base n≠some ⟨some k,c,l⟩)→w'.heap[k]? =w.heap[k]?)∧w.heap.size≤w'.heap.size∧∀m,(∀k j,m≠ .cell k j)→g'.base m=g.base m)∧
  Evo g st.hp w g' (Ie n sh (Ct (D7 n (flat V) off) (flat V)) off++hset (Cq (D7 n (flat V) off) st.hp) n (.blk TT' (splice (Ct (D7 n (flat V) off) cells) off (Iq n (Ct (D7 n (flat V) off) (flat V)) off)))) w'∧
  (∀t,RepA g' (a.tmps.getD t undef) (lk (Jv (D7 n (flat V) off) st.tm) t))∧
  Sat g' (Ie n sh (Ct (D7 n (flat V) off) (flat V)) off++hset (Cq (D7 n (flat V) off) st.hp) n (.blk TT' (splice (Ct (D7 n (flat V) off) cells) off (Iq n (Ct (D7 n (flat V) off) (flat V)) off)))) w':=by
 generalize hp:D7 n (flat V) off=p
 have hti:=hT.ok t ht
 obtain⟨hcs,hcr⟩:=Xw hv hfo
 cases hx with |ptr _ b c l _ hb=>
 have hent:=hr.sat.ent _ _ hg
 cases hent with |blk _ _ b' c' l' cs fz hb' hh hfz hsz hcells himm=>
 rw [hb]at hb'
 injection hb' with hb'
 injection hb' with hb' hcc hll
 injection hb' with hb'
 subst hb'
 let g':=g.upd p (fun _=>⟨none,0,0⟩)
 have hA:Agree p g g':=Abf g p _
 have hpn:p n=false:=by rw [←hp];exact A5m _ _ _
 have hfit':off+v.cells.toList.length≤cs.size:=by simp;omega
 obtain⟨hl1,hl2⟩:=Af2 v.cells.toList off cs hfit'
 have hrun:(Instr.storeAt t (.pointer (some ⟨b,off,none⟩)) v).run P w= .ok () (w.setRow b (Pe off v.cells.toList cs)):=by
  unfold Instr.storeAt Instr.sureAddr storeVar
  simp only [Sem.run_bind,Sem.run_pure,Result.andThen_ok,Aif hti]
  have:¬(v.cells.size≠(tl T t).size):=by simp;omega
  simp only [this,if_false]
  have hst:=Np P b off TT' fz v.cells.toList 0 cs w hh (by simpa using hfit') (fun k hk=>by omega) (fun u hu=>by
   obtain⟨i,hi,rfl⟩:=List.getElem_of_mem hu
   have hi':i<(flat V).length:=by simp at hi;omega
   have h1:=one_cell (hcr i hi') (Af5 hone i hi')
   have:v.cells.getD i undef=v.cells.toList[i]:=by
    have:i<v.cells.size:=by simpa using hi
    simp [Array.getD_eq_getD_getElem?,this]
   rw [←this];exact h1)
  simpa using hst
 have hbn:g'.base n=some ⟨some b,c,l⟩:=hA.base n hpn _ hb
 have hbc:∀k,off≤k→p (.cell n k)=true→g'.base (.cell n k)=some ⟨none,0,0⟩:=fun k _ hk=>by simp [g',G.upd,hk]
 have hnc:=Av8 (g:=g') n (Ct p (flat V)) off (fun k hk hk'=>hbc k hk (by rw [Amb,hp]at hk';exact hk')) (fun i=>v.cells.getD i undef) (fun i hi=>by
  rw [Gf]at hi
  rw [Afd]
  exact(hcr i hi).scrub hA)
 have hfits:off+(Iq n (Ct p (flat V)) off).length≤(Ct p cells).length:=by rw [Adb,Gf,Gf];omega
 have hent':EntOK g' (w.setRow b (Pe off v.cells.toList cs)) n (.blk TT' (splice (Ct p cells) off (Iq n (Ct p (flat V)) off))):=by
  refine .blk _ _ b c l _ fz hbn (setRow_heap w b cs _ _ _ hh) hfz (by rw [Aad _ _ _ hfits,Gf,hl1,hsz]) (fun i hi=> ?_) himm
  rw [Aad _ _ _ hfits,Gf]at hi
  rw [hl2,Awe _ _ _ hfits,Adb,Gf]
  simp only [Array.length_toList,hcs]
  split
  ·have:=hnc (i - off) (by rw [Gf];omega)
   simpa [List.getD_eq_getElem?_getD,Array.getD_eq_getD_getElem?] using this
  ·rw [Afd]
   exact(hcells i hi).scrub hA
 have hbdis:∀m e,m≠n→hget st.hp m=some e→∀b' c l,g.base m=some ⟨some b',c,l⟩→b'≠b:=by
  intro m e hne hm b' c' l' hbm e2
  subst e2
  exact hne (hr.sat.inj m n e _ b' c' l' _ _ hm hg hbm hb)
 have hs1:Sat g' (hset (Cq p st.hp) n (.blk TT' (splice (Ct p cells) off (Iq n (Ct p (flat V)) off)))) (w.setRow b (Pe off v.cells.toList cs)):=by
  refine A8z hr.sat hA n _ _ hg hpn (fun m e hne hm hpm b' c' l' hbm=>⟨setRow_other w b b' _ (hbdis m e hne hm b' c' l' hbm),fun _=>rfl⟩) (fun b' o u hi=> ?_) (fun b' o hi=> ?_) hent' (fun b' c' l' h=> ?_)
  ·have hne:b'≠b:=by intro e;subst e;have:=himm o;rw [show g.imm b' o=some u from hi]at this;cases this
   rw [cell_setRow_other w b _ ⟨b',o,none⟩ hne]
   exact hr.sat.imm _ _ _ hi
  ·have hne:b'≠b:=by intro e;subst e;have:=hr.sat.dis n _ b' c l hg hb;rw [this]at hi;cases hi
   rw [setRow_other w b b' _ hne]
   exact hr.sat.old _ _ hi
  ·rw [hbn]at h;injection h with h;injection h with h1 h2 h3;injection h1 with h1;subst h1;exact⟨c,l,hb⟩
 have hs2:=A8x hs1 n sh (Ct p (flat V)) off (fun k hk hk'=>hbc k hk (by rw [Amb,hp]at hk';exact hk'))
 refine⟨g',_,hrun,⟨fun k hk=>setRow_other w b k _ (fun e=>by subst e;exact hk c l hb),by simp [World.setRow],fun m hm=>by
  have:p m=false:=by
   cases hpm:p m with
   |false=>rfl
   |true=>rw [←hp]at hpm;obtain⟨k,_,e⟩:=App _ _ _ _ hpm;exact absurd e (hm _ _)
  simp [g',G.upd,this]⟩,Bad (g:=g) (g':=g') rfl b _ n _ hg c l hb (fun _ _ _ h=>h) (fun _ _ _=>rfl) (fun m e b' c' l' hm hbm=> ?_) (fun m hx hm=>⟨?_,NotArr.append (Av9 _ _ _ _ _ hx) ((hm.scrub p).hset (by simp))⟩),fun t=> ?_,hs2⟩
 ·by_cases hpm:p m=true
  ·have:g'.base m=some ⟨none,0,0⟩:=by simp [g',G.upd,hpm]
   rw [this]at hbm;injection hbm with hbm;injection hbm with hbm;cases hbm
  ·have hpm:p m=false:=by simpa using hpm
   have hgm:g.base m=some ⟨some b',c',l'⟩:=by simpa [g',G.upd,hpm] using hbm
   rw [Jf]at hm
   split at hm
   ·rename_i e1 he1
    obtain⟨k,hk,rfl⟩:=Afc _ _ _ _ _ _ he1
    exfalso
    have:∀(l:List AV) (sh:List CS) (j:Nat) (m:Nm) (e:Entry),hget (Ie n sh l j) m=some e→D7 n l j m=true:=by
     intro l
     induction l with
     |nil=>intro sh j m e h;simp [Ie,hget]at h
     |cons a r ih=>
      intro sh j m e h
      simp only [Ie]at h
      simp only [D7]
      split at h
      ·rw [Ce]at h
       split at h
       ·rename_i e0;subst e0;simp [Nm.beq_self]
       ·simp [ih _ _ _ _ h]
      ·exact ih _ _ _ _ h
    have h1:=this _ _ _ _ _ he1
    rw [Amb,hp,hpm]at h1
    cases h1
   ·rw [Sg]at hm
    split at hm
    ·rename_i e1;subst e1;exact⟨_,_,c',l',hg,hgm⟩
    ·rw [Jp,hpm]at hm
     simp at hm
     obtain⟨e0,h0,_⟩:=hm
     exact⟨m,e0,c',l',h0,hgm⟩
 ·have:p m=false:=by
   cases hpm:p m with
   |false=>rfl
   |true=>rw [←hp]at hpm;obtain⟨k,_,rfl⟩:=App _ _ _ _ hpm;simp [Nm.ext]at hx
  simp [g',G.upd,this]
 ·rw [Aes];exact(hr.tm t).scrub hA
theorem Bfm(P:Program)(T:TT)(hT:Dc P T) {nt:Nat} {g:G} {st:St} {a:Act} {w:World} (hr:Ca nt g st a w)(t:Nat)(ht:(tl T t).td≠ .missing)(x v:Value)(n:Nm)(off:Nat)(V:AV)(hx:RepA g x (.ptr n off))(hv:RepA g v V)
 (hfo:Oe V=true)(hlen:(flat V).length=(tl T t).size)(TT':Nat)(cells:List AV)(hg:hget st.hp n=some (.blk TT' cells))(hfit:off+(flat V).length≤cells.length)(hone:Akh (flat V)=true)(sh:List CS):
 ∃g' w',(Instr.storeAt t x v).run P w= .ok () w'∧
  Evo g st.hp w g' (Ie n sh (Ct (D7 n (flat V) off) (flat V)) off++hset (Cq (D7 n (flat V) off) st.hp) n (.blk TT' (splice (Ct (D7 n (flat V) off) cells) off (Iq n (Ct (D7 n (flat V) off) (flat V)) off)))) w'∧
  (∀t,RepA g' (a.tmps.getD t undef) (lk (Jv (D7 n (flat V) off) st.tm) t))∧
  Sat g' (Ie n sh (Ct (D7 n (flat V) off) (flat V)) off++hset (Cq (D7 n (flat V) off) st.hp) n (.blk TT' (splice (Ct (D7 n (flat V) off) cells) off (Iq n (Ct (D7 n (flat V) off) (flat V)) off)))) w':=by
 obtain⟨g',w',h1,_,h2,h3,h4⟩:=A4h P T hT hr t ht x v n off V hx hv hfo hlen TT' cells hg hfit hone sh
 exact⟨g',w',h1,h2,h3,h4⟩
end Go.Proofs.Sim

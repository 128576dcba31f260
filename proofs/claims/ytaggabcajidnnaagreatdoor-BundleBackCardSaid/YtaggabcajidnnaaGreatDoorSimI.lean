import Derived.Test.YtaggabcajidnnaaGreatDoorSimH
namespace Go.Proofs.Sim
open Go
structure At8 (m:Nat→Nat→Option Value) (len esz:Nat) (cs:Array Value) (rows:List (List IV)):Prop where
 fsz:cs.size=len*esz
 fln:rows.length=len
 frl:∀r,r∈rows→r.length=esz
 frep:∀i j,i<len→j<esz→RepI m (cs.getD (i*esz+j) undef) ((rows.getD i []).getD j default)
 fone:∀o,o<len*esz→(cs.getD o undef).oneCell'=true
theorem Bif {α:Type} (l:List α)(i k:Nat)(x d:α)(hi:i<l.length):(l.set i x).getD k d=if i=k then x else l.getD k d:=by
 simp only [List.getD_eq_getElem?_getD,List.getElem?_set]
 by_cases h:i=k
 ·subst h;simp [hi]
 ·simp [h]
theorem Bd6 {g:G} {hp:Heap} {w:World} (hs:Sat g hp w)(ns:List Nm)(len esz:Nat)(parts:List (Nat × Value))(Parts:List (Nat × AV))(cs:Array Value)(rows rows':List (List IV))
 (hl:parts.length=Parts.length)(hpt:∀i,i<Parts.length→(parts.getD i (0,undef)).1=(Parts.getD i (0, .undef)).1∧RepA g (parts.getD i (0,undef)).2 (Parts.getD i (0, .undef)).2)
 (hns:∀n,n∈Sj Parts→n∈ns)(hok:Att esz len Parts=true)(hr:At8 (Jo g hp w ns).imm len esz cs rows)(he:setRows hp rows Parts=some rows'):
 ∃cs',Instr.fill (fun i=>some (i*esz,esz)) cs parts=some cs'∧At8 (Jo g hp w ns).imm len esz cs' rows':=by
 induction Parts generalizing parts cs rows with
 |nil=>
  have:parts=[]:=List.eq_nil_of_length_eq_zero (by simpa using hl)
  subst this
  simp [setRows]at he
  subst he
  exact⟨cs,rfl,hr⟩
 |cons Q Qs ih=>
  obtain⟨i,V⟩:=Q
  cases parts with
  |nil=>simp at hl
  |cons p ps=>
   obtain⟨i',v⟩:=p
   have h0:=hpt 0 (by simp)
   simp only [List.getD_cons_zero]at h0
   obtain⟨rfl,hv⟩:=h0
   simp only [Att,Bool.and_eq_true,Nat.blt]at hok
   obtain⟨⟨hfo,hon⟩,hlen,hilt,hok'⟩:=hok
   have hlen:(flat V).length=esz:=by simpa using hlen
   have hilt:i'<len:=by simp at hilt;omega
   simp only [setRows]at he
   split at he
   ·rename_i vs hvs
    obtain⟨hc1,hc2⟩:=Xw hv hfo
    obtain⟨hv1,hv2⟩:=Zp hvs
    have hfit:i'*esz+v.cells.size≤cs.size:=by
     rw [hr.fsz,hc1,hlen]
     have:(i'+1)*esz≤len*esz:=Nat.mul_le_mul_right _ (by omega)
     rw [Nat.add_mul]at this;omega
    obtain⟨hs1,hs2⟩:=A7z (i'*esz) v.cells cs
    have hnames:∀j,j<(flat V).length→∀n,n∈AV.names ((flat V).getD j .undef)→n∈ns:=by
     intro j hj n hn
     refine hns n ?_
     simp only [Sj,List.mem_append]
     left
     cases V with
     |agg l=>simp only [flat]at hj hn;simp only [AV.names];exact Zu l j hj n hn
     |imm x=>cases x with
      |agg l=>simp only [flat,Cw]at hj hn;rw [Lu _ _ hj]at hn;simp [AV.names]at hn
      |_=>simp only [flat,List.length_singleton]at hj hn;have:j=0:=by omega
          subst this;simp [AV.names]at hn
     |_=>simp only [flat,List.length_singleton]at hj hn;have:j=0:=by omega
         subst this;simpa using hn
    have hnew:At8 (Jo g hp w ns).imm len esz (lay (i'*esz) v.cells cs) (rows.set i' vs):=by
     refine⟨by rw [hs1,hr.fsz],by simp [hr.fln],fun r hrm=> ?_,fun k j hk hj=> ?_,fun o ho=> ?_⟩
     ·rcases List.mem_or_eq_of_mem_set hrm with h |h
      ·exact hr.frl r h
      ·subst h;rw [hv1,hlen]
     ·rw [hs2 _ hfit,Bif _ _ _ _ _ (by rw [hr.fln];exact hilt),hc1,hlen]
      by_cases hki:i'=k
      ·subst hki
       rw [if_pos (by omega),if_pos rfl,show i'*esz+j - i'*esz=j by omega]
       exact Mr hs ns (hc2 j (by omega)) _ (hv2 j (by omega)) (hnames j (by omega))
      ·rw [if_neg hki]
       have:¬(i'*esz≤k*esz+j∧k*esz+j<i'*esz+esz):=by
        rintro⟨q1,q2⟩
        rcases Nat.lt_or_gt_of_ne hki with h |h
        ·have:(i'+1)*esz≤k*esz:=Nat.mul_le_mul_right _ (by omega)
         rw [Nat.add_mul]at this;omega
        ·have:(k+1)*esz≤i'*esz:=Nat.mul_le_mul_right _ (by omega)
         rw [Nat.add_mul]at this;omega
       rw [if_neg this]
       exact hr.frep k j hk hj
     ·rw [hs2 _ hfit]
      split
      ·rename_i hin
       exact one_cell (hc2 _ (by omega)) (Af5 hon _ (by omega))
      ·exact hr.fone o ho
    obtain⟨cs',hh1,hh2⟩:=ih ps (lay (i'*esz) v.cells cs) (rows.set i' vs) (by simpa using hl) (fun k hk=>by have:=hpt (k+1) (by simpa using hk);simpa using this)
     (fun n hn=>hns n (by simp only [Sj,List.mem_append];exact .inr hn)) hok' hnew he
    refine⟨cs', ?_,hh2⟩
    have hbad:¬((v.cells.size≠esz) || decide (i'*esz+v.cells.size>cs.size))=true:=by simp;omega
    simp only [Instr.fill]
    rw [if_neg hbad]
    exact hh1
   ·cases he
theorem Sb {nt:Nat} {g:G} {st:St} {a:Act} {w:World} (hr:Ca nt g st a w)(ns:List Nm):Ca nt (Jo g st.hp w ns) ⟨st.tm,Du ns st.hp⟩ a w∧Evo g st.hp w (Jo g st.hp w ns) (Du ns st.hp) w:=
 ⟨⟨hr.size,hr.defers,fun t=>(hr.tm t).mono (Sd _ g st.hp w ns),A2f hr.sat ns⟩,Bai hr.sat ns⟩
theorem Aqf(P:Program)(T:TT)(hT:Dc P T) {nt:Nat} {g:G} {st:St} {a:Act} {w:World} (hr:Ca nt g st a w)(d:Nat)(hd:d<nt)(t len elem esz eb:Nat)(esh:List CS)(htd:(tl T t).td= .slice elem esz eb esh)(hem:(tl T elem).td≠ .missing)(hent:∀ts,(tl T elem).td≠ .tuple ts)(hez:(tl T elem).size=esz)
 (parts:List (Nat × Value))(Parts:List (Nat × AV))(hl:parts.length=Parts.length)(hpt:∀i,i<Parts.length→(parts.getD i (0,undef)).1=(Parts.getD i (0, .undef)).1∧RepA g (parts.getD i (0,undef)).2 (Parts.getD i (0, .undef)).2)
 (hsm:len*esz≤4096)(hok:Att esz len Parts=true)(rows:List (List IV))(he:setRows st.hp (List.replicate len (tl T elem).zero) Parts=some rows):
 ∃val w' g',(Instr.buildSlice t len parts.toArray).run P w= .ok val w'∧Up w w'∧Evo g st.hp w g' (Fe ⟨st.tm,Du (Sj Parts) st.hp⟩ d (.loc d) (.own (.loc d)) (.arr (Apl len elem) true esz rows)).hp w'∧
  Ca nt g' (Fe ⟨st.tm,Du (Sj Parts) st.hp⟩ d (.loc d) (.own (.loc d)) (.arr (Apl len elem) true esz rows)) (a.put (some d) val) w':=by
 have hti:=hT.ok t (by rw [htd];simp)
 have hu:=hti.td
 rw [htd]at hu
 obtain⟨hu,inf,hi,hisz,_⟩:=hu
 obtain⟨z,hz,hz1,hz2,hz3,hz4⟩:=Aqb (hT.ok elem hem) hent w
 rw [hez]at hz2
 let ns:=Sj Parts
 have hzl:(tl T elem).zero.length=esz:=by rw [←hz1,hz2]
 have hinit:At8 (Jo g st.hp w ns).imm len esz ((Array.range (len*esz)).map (z.cells[·% z.cells.size]!)) (List.replicate len (tl T elem).zero):=by
  have hg:∀k,k<len*esz→((Array.range (len*esz)).map (z.cells[·% z.cells.size]!)).getD k undef=z.cells.getD (k % esz) undef:=by
   intro k hk
   have hpos:0<esz:=by
    rcases Nat.eq_zero_or_pos esz with h |h
    ·rw [h]at hk;simp at hk
    ·exact h
   have hlt:k % esz<z.cells.size:=by rw [hz2];exact Nat.mod_lt _ hpos
   simp only [Array.getD_eq_getD_getElem?,Array.getElem?_map]
   rw [Array.getElem?_range]
   simp [hk,hz2]
   rw [hz2]at hlt
   rw [getElem!_pos z.cells (k % esz) (by rw [hz2];exact hlt)]
   simp [hz2,hlt]
  refine⟨by simp,by simp,fun r hrm=>by rw [List.eq_of_mem_replicate hrm];exact hzl,fun i j hi' hj=> ?_,fun o ho=> ?_⟩
  ·have hlt:i*esz+j<len*esz:=by
    have:(i+1)*esz≤len*esz:=Nat.mul_le_mul_right _ (by omega)
    rw [Nat.add_mul]at this;omega
   rw [hg _ hlt,show(i*esz+j) % esz=j by rw [Nat.mul_comm,Nat.mul_add_mod,Nat.mod_eq_of_lt hj]]
   have:(List.replicate len (tl T elem).zero).getD i []=(tl T elem).zero:=by simp [List.getD_eq_getElem?_getD,hi']
   rw [this]
   exact hz3 _ j (by omega)
  ·rw [hg o ho]
   obtain⟨_,q,_⟩:=Ape ho
   exact hz4 _ (by omega)
 obtain⟨cs,hf,hrows⟩:=Bd6 hr.sat ns len esz parts Parts _ _ rows hl hpt (fun n h=>h) hok hinit he
 have hrun:(Instr.buildSlice t len parts.toArray).run P w= .ok (.slice (some ⟨w.heap.size,0,none⟩) len len) (w.alloc (.cells cs elem)):=by
  unfold Instr.buildSlice
  have h24:¬(16777216<len*esz):=by omega
  by_cases h0:len*esz=0
  ·have hcs0:cs= #[]:=Array.eq_empty_of_size_eq_zero (by rw [hrows.fsz,h0])
   have hf':Instr.fill (fun i=>some (i*esz,esz)) #[] parts=some #[]:=by
    have:((Array.range (len*esz)).map (z.cells[·% z.cells.size]!))= #[]:=by rw [h0];simp
    rw [this,hcs0]at hf
    exact hf
   simp [run_underlying hu,Dm hi,hisz,h0,newRow,hcs0]
   have e0:(Array.map (fun x=>(default:Value)) (Array.range 0))= #[]:=by simp
   rw [e0,hf']
   simp
  ·simp [run_underlying hu,Dm hi,hisz,h24,h0,hz,hf,newRow]
 obtain⟨hr1,he1⟩:=Sb hr ns
 have hent:=Aio (h:=Du ns st.hp) (w:=w) (w':=w.alloc (.cells cs elem)) hr1.sat (.loc d) (Apl len elem) esz len rows cs elem (0,0) true (heap_alloc_new w _) hrows.fsz (by rw [hrows.fln];exact Nat.le_refl _) hrows.frl
  (fun i j hi' hj=>hrows.frep i j (by rw [←hrows.fln];exact hi') hj) (fun o _ h=>by simp at h) (fun o ho=>hrows.fone o (by rw [←hrows.fln];exact ho)) (fun e he=>by
  cases len with
  |zero=>simp [Apl]at he
  |succ k=>simp only [Apl]at he;exact⟨by omega,by omega,rfl⟩)
 obtain⟨g',h1,h2⟩:=Kb hr1 (Qd w _) d hd (.loc d) ⟨some w.heap.size,len,rows.length⟩ (fun b h=>by injection h with h;omega) (.slice (some ⟨w.heap.size,0,none⟩) rows.length len) (.own (.loc d)) (.arr (Apl len elem) true esz rows)
  (RepA.own (g:=(Jo g st.hp w ns).upd (Nm.beq (.loc d)) fun _=>⟨some w.heap.size,len,rows.length⟩) (.loc d) (some w.heap.size) len _ (by simp [G.upd,Nm.beq_self])) hent (fun h=>by cases h)
 exact⟨_,_,g',hrun,(Qd w _).old,he1.trans h1,by rw [hrows.fln]at h2;exact h2⟩
theorem Bgk(P:Program) {nt:Nat} {g:G} {st:St} {a:Act} {w:World} (hr:Ca nt g st a w)(d:Nat)(hd:d<nt)(s t e:Nat)(u:TypeDesc)(hs:P.underlying s=some u)(ht:P.underlying t=some (.slice e))(he:P.underlying e=some (.int .u8))(bs:ByteArray)(l:List UInt8)(hl:bs.data.toList=l):
 ∃val w' g',(convert s t (.string bs)).run P w= .ok val w'∧Evo g st.hp w g' (Fe st d (.loc d) (.own (.loc d)) (.arr 0 true 1 (Ay l))).hp w'∧Ca nt g' (Fe st d (.loc d) (.own (.loc d)) (.arr 0 true 1 (Ay l))) (a.put (some d) val) w':=by
 have hrun:=Lib.run_convert_string_bytes (P:=P) w s t e bs hs ht he
 have hbl:(Ay l).length=bs.size:=by rw [Oo,hl];simp [Ay]
 have hnew:=Lib.bytesWorld_at_new w e bs
 have hge:=grownCap_ge w bs.size 0 e
 have hcs:(Lib.bytesCells w e bs).size=grownCap w bs.size 0 e*1:=by
  simp [Lib.bytesCells]
  have:bs.data.size=bs.size:=rfl
  omega
 have hcell:∀k,k<bs.size→(Lib.bytesCells w e bs).getD k undef= .int .u8 (l.getD k 0).toNat:=by
  intro k hk
  subst hl
  have hk':k<bs.data.size:=hk
  simp [Lib.bytesCells,Array.getD_eq_getD_getElem?,Array.getElem?_append,List.getD_eq_getElem?_getD]
  rw [if_pos hk,Array.getElem?_eq_getElem hk']
  rfl
 have hgrew:Aot w (Lib.bytesWorld w e bs):=by
  refine⟨?_, ?_, ?_,by rw [Lib.bytesWorld_size];omega,fun b hb=>Lib.bytesWorld_at_old w e bs b hb⟩<;>(unfold Lib.bytesWorld World.freeze;split<;>rfl)
 have hent:=Aio (h:=st.hp) (w:=w) (w':=Lib.bytesWorld w e bs) hr.sat (.loc d) 0 1 (grownCap w bs.size 0 e) (Ay l) (Lib.bytesCells w e bs) e _ true hnew hcs (by rw [hbl];exact hge)
  (fun r hr'=>by simp [Ay]at hr';obtain⟨b,_,rfl⟩:=hr';rfl)
  (fun i j hi hj=>by
   have hj0:j=0:=by omega
   subst hj0
   have hi':i<bs.size:=by rw [←hbl];exact hi
   have hi2:i<l.length:=by rw [←hl, ←Oo];exact hi'
   rw [show i*1+0=i by omega,hcell i hi']
   simp [Ay,List.getD_eq_getElem?_getD,hi2]
   exact .int _ _) (fun o ho h=>by simp at h;omega)
  (fun o ho=>by rw [hcell o (by rw [←hbl];omega)];rfl) (fun e he=>by omega)
 obtain⟨g',h1,h2⟩:=Kb hr hgrew d hd (.loc d) ⟨some w.heap.size,grownCap w bs.size 0 e,(Ay l).length⟩ (fun b h=>by injection h with h;omega) (.slice (some ⟨w.heap.size,0,none⟩) (Ay l).length (grownCap w bs.size 0 e)) (.own (.loc d)) (.arr 0 true 1 (Ay l))
  (RepA.own (g:=g.upd (Nm.beq (.loc d)) fun _=>⟨some w.heap.size,grownCap w bs.size 0 e,(Ay l).length⟩) (.loc d) (some w.heap.size) _ _ (by simp [G.upd,Nm.beq_self])) hent (fun h=>by cases h)
 exact⟨_,_,g',hrun,h1,by rw [hbl]at h2;exact h2⟩
theorem Bh7(P:Program) {nt:Nat} {g:G} {st:St} {a:Act} {w:World} (hr:Ca nt g st a w)(d:Nat)(hd:d<nt)(t:Nat)(ht:P.underlying t=some .string)(bs:ByteArray)(l:List UInt8)(hl:bs.data.toList=l):
 ∃val w' g',(Instr.range t (.string bs)).run P w= .ok val w'∧Evo g st.hp w g' (Fe st d (.loc d) (.ptr (.loc d) 0) (.sit l 0)).hp w'∧Ca nt g' (Fe st d (.loc d) (.ptr (.loc d) 0) (.sit l 0)) (a.put (some d) val) w':=by
 have hb:(g.upd (Nm.beq (.loc d)) fun _=>⟨some w.heap.size,0,0⟩).base (.loc d)=some ⟨some w.heap.size,0,0⟩:=by simp [G.upd,Nm.beq_self]
 obtain⟨g',h1,h2⟩:=Kb hr (Qd w (.stringIter bs 0)) d hd (.loc d) ⟨some w.heap.size,0,0⟩ (fun b h=>by injection h with h;omega) (.pointer (some ⟨w.heap.size,0,none⟩)) (.ptr (.loc d) 0) (.sit l 0)
  (.ptr _ _ _ _ _ hb) (.sit _ _ _ _ _ bs hb (heap_alloc_new w _) hl) (fun h=>by cases h)
 exact⟨_,_,g',by unfold Instr.range;simp [run_underlying ht],h1,h2⟩
theorem Bdm(bs:ByteArray)(l:List UInt8)(h:bs.data.toList=l)(pos:Nat):Utf8.decode bs pos=Gn l pos:=by
 subst h
 unfold Gn
 congr 1
theorem Bhv(P:Program)(w:World)(b:Nat)(bs:ByteArray)(pos ty:Nat)(h:w.heap[b]? =some (.stringIter bs pos)):
 (Instr.next (.pointer (some ⟨b,0,none⟩)) true ty).run P w=if pos<bs.size then .ok (.tuple #[.bool true,goInt pos, .int .i32 (Utf8.decode bs pos).1]) { w with heap:=w.heap.setIfInBounds b (.stringIter bs (pos+(Utf8.decode bs pos).2)) } else .ok (.tuple #[.bool false]) w:=by
 unfold Instr.next
 simp [getObj,setObj,Sem.run,h]
theorem Amm(l:List AV):Ct (fun _=>false) l=l:=by
 induction l with
 |nil=>rfl
 |cons a r ih=>simp [Ct,Uu,A33,ih]
theorem U2 {nt:Nat} {g:G} {st:St} {a:Act} {w w':World} (hr:Ca nt g st a w)(n:Nm)(e0 e':Entry)(h0:hget st.hp n=some e0)(b c l:Nat)(hb:g.base n=some ⟨some b,c,l⟩)
 (hos:w'.os=w.os)(ht:w'.tape=w.tape)(ho:w'.output=w.output)(hsz:w'.heap.size=w.heap.size)(hoth:∀k,k≠b→w'.heap[k]? =w.heap[k]?)(himm:∀o v,g.imm b o=some v→w'.cell? ⟨b,o,none⟩=some v)(he:EntOK g w' n e')
 (harr:∀ty wr sz rows,e'= .arr ty wr sz rows→∃wr sz rows,e0= .arr ty wr sz rows):
 Evo g st.hp w g (hset st.hp n e') w'∧Sat g (hset st.hp n e') w':=by
 have hdis:∀m e,m≠n→hget st.hp m=some e→∀b' c' l',g.base m=some ⟨some b',c',l'⟩→b'≠b:=by
  intro m e hne hm b' c' l' hbm e2
  subst e2
  exact hne (hr.sat.inj m n e _ b' c' l' _ _ hm h0 hbm hb)
 refine⟨⟨hos,ht,ho,by omega,fun _ _ _ h=>h,fun k hk hno=>⟨hoth k (fun e=>hno n e0 c l h0 (e ▸ hb)),fun _=>rfl⟩,fun m e x c' l' hm hbm=> .inr ?_,fun m hx hm=>⟨rfl,fun ty wr sz rows h1=> ?_⟩,rfl⟩,⟨fun b' o v hi=> ?_,fun m e hm=> ?_,fun m k e1 e2 x c1 l1 c2 l2 h1 h2 b1 b2=> ?_,fun b' o hi=>(hoth b' (fun e=>by subst e;rw [hr.sat.dis n _ b' c l h0 hb]at hi;cases hi)).trans (hr.sat.old _ _ hi),fun m e x c1 l1 hm hbm=> ?_⟩⟩
 rotate_right 1
 ·rw [Sg]at hm
  split at hm
  ·rename_i e1;subst e1;exact hr.sat.dis _ _ x c1 l1 h0 hbm
  ·exact hr.sat.dis m e x c1 l1 hm hbm
 ·rw [Sg]at hm
  split at hm
  ·rename_i e1;subst e1;exact⟨_,_,c',l',h0,hbm⟩
  ·exact⟨m,e,c',l',hm,hbm⟩
 ·rw [Sg]at h1
  split at h1
  ·rename_i e1;subst e1;injection h1 with h1
   obtain⟨_,_,_,h2⟩:=harr _ _ _ _ h1
   exact hm _ _ _ _ (h2 ▸ h0)
  ·exact hm _ _ _ _ h1
 ·by_cases hbb:b'=b
  ·subst hbb;exact himm o v hi
  ·have:=hr.sat.imm b' o v hi
   simpa [World.cell?,hoth b' hbb] using this
 ·rw [Sg]at hm
  split at hm
  ·rename_i e1;subst e1;injection hm with hm;subst hm;exact he
  ·rename_i hne
   have hx:=(hr.sat.ent m e hm).agree (p:=fun _=>false) (w':=w') (Agree.refl _ g) rfl (fun b' c' l' hbm=>⟨hoth b' (hdis m e (Ne.symm hne) hm b' c' l' hbm),fun _=>rfl⟩)
   have:M3 (fun _=>false) e=e:=by
    cases e with
    |blk ty cells=>
     simp only [M3,Amm]
    |_=>rfl
   rw [this]at hx
   exact hx
 ·have old:∀m e,hget (hset st.hp n e') m=some e→∃e1,hget st.hp m=some e1:=by
   intro m e hm
   rw [Sg]at hm
   split at hm
   ·rename_i e1;subst e1;exact⟨_,h0⟩
   ·exact⟨_,hm⟩
  obtain⟨_,q1⟩:=old m e1 h1
  obtain⟨_,q2⟩:=old k e2 h2
  exact hr.sat.inj m k _ _ x c1 l1 c2 l2 q1 q2 b1 b2
theorem Bam(P:Program) {nt:Nat} {g:G} {st:St} {a:Act} {w:World} (hr:Ca nt g st a w)(d:Nat)(hd:d<nt)(v:Value)(n:Nm)(hv:RepA g v (.ptr n 0))(s:List UInt8)(pos ty:Nat)(hg:hget st.hp n=some (.sit s pos)):
 if pos<s.length then ∃val w' g',(Instr.next v true ty).run P w= .ok val w'∧Evo g st.hp w g' (hset st.hp n (.sit s (pos+(Gn s pos).2))) w'∧Ca nt g' ⟨(d, .tup [.imm (.bool true), .imm (.int .i64 pos), .imm (.int .i32 (Gn s pos).1)])::st.tm,hset st.hp n (.sit s (pos+(Gn s pos).2))⟩ (a.put (some d) val) w'
 else ∃val,(Instr.next v true ty).run P w= .ok val w∧Ca nt g ⟨(d, .tup [.imm (.bool false)])::st.tm,st.hp⟩ (a.put (some d) val) w:=by
 cases hv with |ptr _ b c l _ hb=>
 have hent:=hr.sat.ent _ _ hg
 cases hent with |sit _ _ b' c' l' bs q1 q2 q3=>
 rw [hb]at q1;injection q1 with q1;injection q1 with e1 e2 e3;injection e1 with e1
 subst e1
 have hlen:bs.size=s.length:=by rw [Oo,q3]
 have hrun:=Bhv P w b bs pos ty q2
 split
 ·rename_i hlt
  rw [if_pos (by omega),Bdm bs s q3]at hrun
  have hblt:b<w.heap.size:=(Array.getElem?_eq_some_iff.1 q2).1
  obtain⟨h1,h2⟩:=U2 (w':= { w with heap:=w.heap.setIfInBounds b (.stringIter bs (pos+(Gn s pos).2)) }) hr n _ (.sit s (pos+(Gn s pos).2)) hg b c l hb rfl rfl rfl (by simp)
   (fun k hk=>by simp [Ne.symm hk]) (fun o v hi=>by
    have:=hr.sat.imm _ _ _ hi
    simp [World.cell?,q2]at this)
   (.sit _ _ b c l bs hb (by simp [hblt]) q3) (by simp)
  refine⟨_,_,g,hrun,h1,⟨by simp [Act.put,hr.size],hr.defers,fun t=> ?_,h2⟩⟩
  rw [Aen (by rw [hr.size];exact hd),Fu]
  by_cases h:t=d
  ·subst h
   simp only [if_true]
   refine .tup _ _ rfl fun i hi=> ?_
   match i,hi with
   |0,_=>exact Qi g true
   |1,_=>exact Q9 g .i64 _
   |2,_=>exact Q9 g .i32 _
  ·rw [if_neg h,if_neg (Ne.symm h)];exact hr.tm t
 ·rename_i hge
  rw [if_neg (by omega)]at hrun
  refine⟨_,hrun,⟨by simp [Act.put,hr.size],hr.defers,fun t=> ?_,hr.sat⟩⟩
  rw [Aen (by rw [hr.size];exact hd),Fu]
  by_cases h:t=d
  ·subst h
   simp only [if_true]
   refine .tup _ _ rfl fun i hi=> ?_
   match i,hi with
   |0,_=>exact Qi g false
  ·rw [if_neg h,if_neg (Ne.symm h)];exact hr.tm t
theorem Bb4(P:Program) {nt:Nat} {g:G} {st:St} {a:Act} {w:World} (hr:Ca nt g st a w)(d:Nat)(hd:d<nt)(t:Nat):
 ∃val w' g',(Instr.makeMap t none).run P w= .ok val w'∧Evo g st.hp w g' (Fe st d (.loc d) (.mp (.loc d)) (.map [])).hp w'∧Ca nt g' (Fe st d (.loc d) (.mp (.loc d)) (.map [])) (a.put (some d) val) w':=by
 have hb:(g.upd (Nm.beq (.loc d)) fun _=>⟨some w.heap.size,0,0⟩).base (.loc d)=some ⟨some w.heap.size,0,0⟩:=by simp [G.upd,Nm.beq_self]
 obtain⟨g',h1,h2⟩:=Kb hr (Qd w (.map #[] 0)) d hd (.loc d) ⟨some w.heap.size,0,0⟩ (fun b h=>by injection h with h;omega) (.map (some w.heap.size)) (.mp (.loc d)) (.map [])
  (.mp _ _ _ _ hb) (.map _ _ _ _ #[] 0 hb (heap_alloc_new w _) trivial) (fun h=>by cases h)
 exact⟨_,_,g',by unfold Instr.makeMap;simp,h1,h2⟩
theorem A75(P:Program) {nt:Nat} {g:G} {st:St} {a:Act} {w:World} (hr:Ca nt g st a w)(t:Nat) {k e:Nat} (ht:P.underlying t=some (.map k e))(hk:P.underlying k=some .string)(v:Value)(n:Nm)(hv:RepA g v (.mp n))(bs:ByteArray)(x:Int)(l:List (List UInt8 × Int))(hg:hget st.hp n=some (.map l)):
 ∃w',(Instr.mapUpdate t v (.string bs) (.int .i64 x)).run P w= .ok () w'∧Evo g st.hp w g (hset st.hp n (.map (Yi l bs.data.toList x))) w'∧Sat g (hset st.hp n (.map (Yi l bs.data.toList x))) w':=by
 cases hv with |mp _ b c l0 hb=>
 have hent:=hr.sat.ent _ _ hg
 cases hent with |map _ b' c' l' es ck q1 q2 q3=>
 rw [hb]at q1;injection q1 with q1;injection q1 with e1 e2 e3;injection e1 with e1
 subst e1
 obtain⟨es',ck',hrun,hok⟩:=A42 ht hk bs x q2 q3
 have hblt:b<w.heap.size:=(Array.getElem?_eq_some_iff.1 q2).1
 obtain⟨h1,h2⟩:=U2 (w':= { w with heap:=w.heap.setIfInBounds b (.map es' ck') }) hr n _ (.map (Yi l bs.data.toList x)) hg b c l0 hb rfl rfl rfl (by simp)
  (fun k hk=>by simp [Ne.symm hk]) (fun o v hi=>by
   have:=hr.sat.imm _ _ _ hi
   simp [World.cell?,q2]at this)
  (.map _ b c l0 es' ck' hb (by simp [hblt]) hok) (by simp)
 exact⟨_,hrun,h1,h2⟩
end Go.Proofs.Sim

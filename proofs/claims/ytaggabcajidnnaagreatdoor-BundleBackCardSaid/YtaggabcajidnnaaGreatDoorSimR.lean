import Derived.Test.YtaggabcajidnnaaGreatDoorSimPQ
import Derived.Deep.Slices
import Derived.DataReads
import Derived.Lib.LaidTab
namespace Go.Proofs.Sim
open Go Go.RowKit Go.ChangeShapes
inductive Ty (P:Program):TypeId→List IV→Prop
 |bool (t:TypeId) (b:Bool):P.underlying t=some .bool→Ty P t [.bool b]
 |int (t:TypeId) (k:IntKind) (n:Int):P.underlying t=some (.int k)→(Lit.int k n).wf=true→Ty P t [.int k n]
 |str (t:TypeId) (s:List UInt8):P.underlying t=some .string→s.length≤maxLen→Ty P t [.str s]
 |sl (t e:TypeId) (rows:List (List IV)):P.underlying t=some (.slice e)→(∀r,r∈rows→Ty P e r)→rows.length≤maxLen→Ty P t [.sl .any (P.cellsOf e) rows]
 |struct (t:TypeId) (fs:Array Field) (ls:List (List IV)):P.underlying t=some (.struct fs)→ls.length=fs.size→(∀(i:Nat) (f:Field),fs[i]? =some f→Ty P f.type (ls.getD i []))→Ty P t ls.flatten
def Azx(P:Program):Nat→List Field→Bool
 |_,[]=>true
 |o,f::r=>f.offset == o && Azx P (o+P.cellsOf f.type) r
def total(P:Program):List Field→Nat
 | []=>0
 |f::r=>P.cellsOf f.type+total P r
def A0u(P:Program)(S:List TypeId)(t:TypeId):Bool:=
 decide (0<P.cellsOf t) && match P.underlying t with
 |some .bool=>true
 |some (.int _)=>true
 |some .string=>true
 |some (.slice e)=>S.contains e
 |some (.struct fs)=>fs.toList.all (fun f:Field=>S.contains f.type) && Azx P 0 fs.toList && decide (total P fs.toList=P.cellsOf t)
 |_=>false
theorem Bll {Q:Nat→List IV→Prop} (n:Nat)(h:∀i,i<n→∃r,Q i r):∃rows:List (List IV),rows.length=n∧∀i,i<n→Q i (rows.getD i []):=by
 induction n with
 |zero=>exact⟨[],rfl,fun i hi=>by omega⟩
 |succ n ih=>
  obtain⟨rows,hl,hr⟩:=ih fun i hi=>h i (by omega)
  obtain⟨r,hq⟩:=h n (by omega)
  refine⟨rows++[r],by simp [hl],fun i hi=> ?_⟩
  rcases Nat.lt_or_ge i n with h1 |h1
  ·have:(rows++[r]).getD i []=rows.getD i []:=by simp [List.getD_eq_getElem?_getD,List.getElem?_append,hl,h1]
   rw [this];exact hr i h1
  ·have e:i=n:=by omega
   subst e
   have:(rows++[r]).getD i []=r:=by simp [List.getD_eq_getElem?_getD,hl]
   rw [this];exact hq
def V8(m:Nat→Nat→Option Value)(cs:List Value)(l:List IV):Prop:=l.length=cs.length∧∀i,i<cs.length→RepI m (cs.getD i undef) (l.getD i default)∧(cs.getD i undef).oneCell'=true
theorem Wn {m:Nat→Nat→Option Value} {v:Value} {x:IV} (h:RepI m v x)(h1:v.oneCell'=true):V8 m [v] [x]:=
 ⟨rfl,fun i hi=>by
  have:i=0:=by simpa using hi
  subst this
  exact⟨h,h1⟩⟩
theorem A6w {m:Nat→Nat→Option Value} {a b:List Value} {l k:List IV} (h1:V8 m a l)(h2:V8 m b k):V8 m (a++b) (l++k):=by
 refine⟨by simp [h1.1,h2.1],fun i hi=> ?_⟩
 rcases Nat.lt_or_ge i a.length with h |h
 ·have e1:(a++b).getD i undef=a.getD i undef:=by simp [List.getD_eq_getElem?_getD,List.getElem?_append,h]
  have e2:(l++k).getD i default=l.getD i default:=by simp [List.getD_eq_getElem?_getD,List.getElem?_append,h1.1,h]
  rw [e1,e2];exact h1.2 i h
 ·have hn:¬i<a.length:=by omega
  have e1:(a++b).getD i undef=b.getD (i - a.length) undef:=by simp [List.getD_eq_getElem?_getD,List.getElem?_append,hn]
  have e2:(l++k).getD i default=k.getD (i - a.length) default:=by simp [List.getD_eq_getElem?_getD,List.getElem?_append,h1.1,hn]
  rw [e1,e2];exact h2.2 _ (by simp at hi;omega)
theorem fields_of {H:Type} {enc:TypeId × Value→H} {P:Program} {w:World} {m:Nat→Nat→Option Value} {fuel:Nat} (S:List TypeId)
 (ih:∀(t:TypeId) (cs:List Value) (x:DataW H × List MemPlace),t∈S→DataW.trod enc P w 0 (fun _=>true) true fuel t cs=some x→∃l,V8 m cs l∧Ty P t l)(cs:List Value):
 ∀(fs:List Field) (o:Nat),fs.all (fun f:Field=>S.contains f.type)=true→Azx P o fs=true→o+total P fs=cs.length→
  (∀(i:Nat) (f:Field),fs[i]? =some f→∃x,DataW.trod enc P w 0 (fun _=>true) true fuel f.type ((cs.drop f.offset).take (P.cellsOf f.type))=some x)→
  ∃ls:List (List IV),ls.length=fs.length∧(∀(i:Nat) (f:Field),fs[i]? =some f→Ty P f.type (ls.getD i []))∧V8 m (cs.drop o) ls.flatten
 | [],o,_,_,ht,h=>by
   refine⟨[],rfl,fun i f h=>by simp at h, ?_⟩
   rw [List.drop_eq_nil_of_le (by simp [total]at ht;omega)]
   exact⟨rfl,fun i hi=>by simp at hi⟩
 |f::fs,o,ha,hc,ht,h=>by
  simp only [List.all_cons,Bool.and_eq_true]at ha
  simp only [Azx,Bool.and_eq_true,beq_iff_eq]at hc
  simp only [total]at ht
  obtain⟨x,hx⟩:=h 0 f rfl
  obtain⟨l,hl,hty⟩:=ih f.type _ x (by simpa using ha.1) hx
  obtain⟨ls,h1,h2,h3⟩:=fields_of S ih cs fs (o+P.cellsOf f.type) ha.2 hc.2 (by omega) (fun i g hg=>h (i+1) g (by simpa using hg))
  refine⟨l::ls,by simp [h1],fun i g hg=> ?_, ?_⟩
  ·cases i with
   |zero=>simp at hg;subst hg;exact hty
   |succ i=>exact h2 i g (by simpa using hg)
  ·have e:cs.drop o=(cs.drop o).take (P.cellsOf f.type)++cs.drop (o+P.cellsOf f.type):=by
    rw [←List.drop_drop,List.take_append_drop]
   rw [e,List.flatten_cons]
   rw [hc.1]at hl
   exact A6w hl h3
theorem add_add(b o i j:Nat):((⟨b,o,none⟩:Addr).add i).add j=⟨b,o+i+j,none⟩:=by
 unfold Addr.add
 by_cases h1:i=0<;>by_cases h2:j=0<;>simp [h1,h2]
theorem Axm {w:World} {base n:Nat} {a:Addr} {cs:List Value} (h:w.cells? base a n=some cs):cs.length=n∧∀j,j<n→w.cell? (a.add j)=some (cs.getD j undef):=by
 unfold World.cells? at h
 split at h
 ·have hl:=Lib.mapM_length h
  rw [List.length_range]at hl
  refine⟨hl,fun j hj=> ?_⟩
  obtain⟨b,hb,hf⟩:=Lib.mapM_at h j j (by simp [hj])
  rw [hf]
  simp [List.getD_eq_getElem?_getD,hb]
 ·cases h
theorem A5n {H:Type} {enc:TypeId × Value→H} {P:Program} {w:World} (S:List TypeId)(hS:S.all (A0u P S)=true)(fuel:Nat):
 ∀(t:TypeId) (cs:List Value) (x:DataW H × List MemPlace),t∈S→DataW.trod enc P w 0 (fun _=>true) true fuel t cs=some x→∃l,V8 (fun b o=>w.cell? ⟨b,o,none⟩) cs l∧Ty P t l:=by
 induction fuel with
 |zero=>intro t cs x _ h;simp [DataW.trod]at h
 |succ fuel ih=>
 intro t cs x ht h
 have hp:=List.all_eq_true.1 hS t ht
 unfold A0u at hp
 simp only [Bool.and_eq_true,decide_eq_true_eq]at hp
 obtain⟨hpos,hp⟩:=hp
 split at hp
 ·rename_i hu
  obtain⟨b,rfl,rfl⟩:=DataW.trod_bool hu h
  exact⟨[.bool b],Wn (.bool b) rfl, .bool t b hu⟩
 ·rename_i k hu
  obtain⟨n,rfl,_,hw⟩:=DataW.trod_int hu h
  exact⟨[.int k n],Wn (.int k n) rfl, .int t k n hu hw⟩
 ·rename_i hu
  obtain⟨s,rfl,_,hs⟩:=DataW.trod_string hu h
  exact⟨[.str s.data.toList],Wn (.str s _ rfl) rfl, .str t _ hu (by rw [Array.length_toList];exact hs)⟩
 ·rename_i e hu
  have he:e∈S:=by simpa using hp
  have hpe:0<P.cellsOf e:=by
   have:=List.all_eq_true.1 hS e he
   unfold A0u at this
   simp only [Bool.and_eq_true,decide_eq_true_eq]at this
   exact this.1
  rcases DataW.trod_slice hu h with ⟨rfl,_⟩ |⟨a,len,cap,elems,rest,n,hn,rfl,rfl,hb,hl,hm,hlen,hel,_,_⟩
  ·refine⟨[.sl .any (P.cellsOf e) []],Wn ?_ rfl, .sl t e [] hu (fun r hr=>by cases hr) (Nat.zero_le _)⟩
   exact .sl none 0 .any (P.cellsOf e) [] 0 0 (fun _ _=>undef) (Nat.le_refl _) (fun _=>rfl) (fun h=>by cases h) (fun h=>by cases h) (fun h=>absurd rfl h) (fun r hr=>by cases hr) (fun i j hi=>by simp at hi) (fun i j hi=>by simp at hi) (fun i j hi=>by simp at hi)
  ·obtain rfl:fuel=n:=by omega
   have hQ:∀i,i<len→∃r:List IV,(∃cs',w.cells? 0 (a.add (i*P.cellsOf e)) (P.cellsOf e)=some cs'∧V8 (fun b o=>w.cell? ⟨b,o,none⟩) cs' r)∧Ty P e r:=by
    intro i hi
    have:=hel i hi
    rw [List.getElem?_eq_getElem (by omega)]at this
    obtain⟨cs',h1,h2⟩:=Option.bind_eq_some_iff.1 this
    obtain⟨l,h3,h4⟩:=ih e cs' _ he h2
    exact⟨l,⟨cs',h1,h3⟩,h4⟩
   obtain⟨rows,hrl,hrows⟩:=Bll len hQ
   subst hrl
   have hspot:rows≠[]→a=⟨a.block,a.off,none⟩:=by
    intro h0
    have h0:=List.length_pos_iff.2 h0
    obtain⟨⟨cs',h1,_⟩,_⟩:=hrows 0 h0
    have:=(Axm h1).2 0 hpe
    rw [Nat.zero_mul]at this
    have:=World.cell?_spot this
    cases a
    simpa [Addr.add] using this
   have hcell:∀i j,i<rows.length→j<P.cellsOf e→∃v,w.cell? ⟨a.block,a.off+i*P.cellsOf e+j,none⟩=some v∧RepI (fun b o=>w.cell? ⟨b,o,none⟩) v ((rows.getD i []).getD j default)∧v.oneCell'=true:=by
    intro i j hi hj
    obtain⟨⟨cs',h1,h2⟩,_⟩:=hrows i hi
    obtain⟨c1,c2⟩:=Axm h1
    have:=c2 j hj
    rw [hspot (by intro h0;rw [h0]at hi;simp at hi),add_add]at this
    exact⟨_,this,h2.2 j (by omega)⟩
   refine⟨[.sl .any (P.cellsOf e) rows],Wn ?_ rfl, .sl t e rows hu ?_ (by omega)⟩
   ·refine .sl (some a) cap .any (P.cellsOf e) rows a.block a.off (fun i j=>(w.cell? ⟨a.block,a.off+i*P.cellsOf e+j,none⟩).getD undef) hl (fun h=>by cases h) (fun h=>by cases h) (fun h=>by cases h) (fun h=>congrArg some (hspot h)) ?_ ?_ ?_ ?_
    ·intro r hr
     obtain⟨i,hi,rfl⟩:=List.mem_iff_getElem.1 hr
     obtain⟨⟨cs',h1,h2⟩,_⟩:=hrows i hi
     have:rows.getD i []=rows[i]:=by simp [List.getD_eq_getElem?_getD,hi]
     rw [←this,h2.1,(Axm h1).1]
    ·intro i j hi hj
     obtain⟨v,h1,_⟩:=hcell i j hi hj
     show w.cell? _=some _
     rw [h1];rfl
    ·intro i j hi hj
     obtain⟨v,h1,h2,_⟩:=hcell i j hi hj
     rw [h1];exact h2
    ·intro i j hi hj
     obtain⟨v,h1,_,h3⟩:=hcell i j hi hj
     rw [h1];exact h3
   ·intro r hr
    obtain⟨i,hi,rfl⟩:=List.mem_iff_getElem.1 hr
    have:rows.getD i []=rows[i]:=by simp [List.getD_eq_getElem?_getD,hi]
    rw [←this]
    exact(hrows i hi).2
 ·rename_i fs hu
  simp only [Bool.and_eq_true,decide_eq_true_eq]at hp
  obtain⟨⟨hall,hcon⟩,htot⟩:=hp
  obtain⟨xs,n,hn,rfl,hlen,hxl,hf⟩:=DataW.trod_struct hu h
  obtain rfl:fuel=n:=by omega
  obtain⟨ls,h1,h2,h3⟩:=fields_of S ih cs fs.toList 0 hall hcon (by omega) (fun i f hi=>by
   have hi':fs[i]? =some f:=by simpa using hi
   have:=hf i f hi'
   have hlt:i<xs.length:=by
    rw [hxl]
    exact(Array.getElem?_eq_some_iff.1 hi').1
   rw [List.getElem?_eq_getElem hlt]at this
   exact⟨_,this⟩)
  exact⟨ls.flatten,h3, .struct t fs ls hu (by simpa using h1) (fun i f hi=>h2 i f (by simpa using hi))⟩
 ·cases hp
theorem Gg {P:Program} {t:TypeId} {k:IntKind} {l:List IV} (hu:P.underlying t=some (.int k))(h:Ty P t l):∃n,l=[.int k n]∧(Lit.int k n).wf=true:=by
 cases h with
 |int _ k' n h hw=>rw [hu]at h;injection h with h;injection h with h;subst h;exact⟨n,rfl,hw⟩
 |bool _ b h=>rw [hu]at h;cases h
 |str _ s h=>rw [hu]at h;cases h
 |sl _ e rows h=>rw [hu]at h;cases h
 |struct _ fs ls h=>rw [hu]at h;cases h
theorem Bfw {P:Program} {t:TypeId} {l:List IV} (hu:P.underlying t=some .string)(h:Ty P t l):∃s,l=[.str s]∧s.length≤maxLen:=by
 cases h with
 |str _ s h hl=>exact⟨s,rfl,hl⟩
 |int _ k' n h hw=>rw [hu]at h;cases h
 |bool _ b h=>rw [hu]at h;cases h
 |sl _ e rows h=>rw [hu]at h;cases h
 |struct _ fs ls h=>rw [hu]at h;cases h
theorem Biq {P:Program} {t e:TypeId} {l:List IV} (hu:P.underlying t=some (.slice e))(h:Ty P t l):∃rows,l=[.sl .any (P.cellsOf e) rows]∧(∀r,r∈rows→Ty P e r)∧rows.length≤maxLen:=by
 cases h with
 |sl _ e' rows h h1 h2=>rw [hu]at h;injection h with h;injection h with h;subst h;exact⟨rows,rfl,h1,h2⟩
 |int _ k' n h hw=>rw [hu]at h;cases h
 |bool _ b h=>rw [hu]at h;cases h
 |str _ s h=>rw [hu]at h;cases h
 |struct _ fs ls h=>rw [hu]at h;cases h
theorem A4n {P:Program} {t:TypeId} {fs:Array Field} {l:List IV} (hu:P.underlying t=some (.struct fs))(h:Ty P t l):∃ls:List (List IV),l=ls.flatten∧ls.length=fs.size∧∀(i:Nat) (f:Field),fs[i]? =some f→Ty P f.type (ls.getD i []):=by
 cases h with
 |struct _ fs' ls h h1 h2=>rw [hu]at h;injection h with h;injection h with h;subst h;exact⟨ls,rfl,h1,h2⟩
 |int _ k' n h hw=>rw [hu]at h;cases h
 |bool _ b h=>rw [hu]at h;cases h
 |str _ s h=>rw [hu]at h;cases h
 |sl _ e rows h=>rw [hu]at h;cases h
theorem Bmy {H:Type} {enc:TypeId × Value→H} {P:Program} {W:World} (S:List TypeId)(hS:S.all (A0u P S)=true) {t:TypeId} (ht:t∈S) {v:Value} {d:DataW H} {ps:List MemPlace}
 (hagg:∀cs,v≠ .agg cs)(h:DataW.Trod enc P W 0 (fun _=>true) true t v d ps):∃x,RepI (fun b o=>W.cell? ⟨b,o,none⟩) v x∧Ty P t [x]:=by
 obtain⟨fuel,hf⟩:=h
 obtain⟨l,h1,h2⟩:=A5n S hS fuel t _ _ ht hf
 have hc:v.cells.toList=[v]:=by
  cases v<;>first |rfl |exact absurd rfl (hagg _)
 rw [hc]at h1
 obtain⟨hl,hr⟩:=h1
 match l,hl with
 | [x],_=>exact⟨x,(hr 0 (by simp)).1,h2⟩
end Go.Proofs.Sim

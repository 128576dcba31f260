import Derived.Test.YtaggabcajidnnaaGreatDoorSimA
import Derived.Laws.Sem
namespace Go.Proofs.Sim
open Go
structure Loc where
 blk:Option Nat
 cap:Nat
 len:Nat
inductive RepI (m:Nat→Nat→Option Value):Value→IV→Prop where
 |bool (b:Bool):RepI m (.bool b) (.bool b)
 |int (k:IntKind) (n:Int):RepI m (.int k n) (.int k n)
 |str (s:ByteArray) (l:List UInt8):s.data.toList=l→RepI m (.string s) (.str l)
 |sl (a:Option Addr) (cap:Nat) (k:SK) (sz:Nat) (rows:List (List IV)) (b o:Nat) (vs:Nat→Nat→Value):
  rows.length≤cap→(a=none→cap=0)→(k= .tight→cap=rows.length)→(k= .nil→a=none)→(rows≠[]→a=some ⟨b,o,none⟩)→
  (∀r,r∈rows→r.length=sz)→
  (∀i j,i<rows.length→j<sz→m b (o+i*sz+j)=some (vs i j))→
  (∀i j,i<rows.length→j<sz→RepI m (vs i j) ((rows.getD i []).getD j default))→(∀i j,i<rows.length→j<sz→(vs i j).oneCell'=true)→
  RepI m (.slice a rows.length cap) (.sl k sz rows)
 |agg (cs:Array Value) (l:List IV):cs.size=l.length→(∀i,i<l.length→RepI m (cs.getD i undef) (l.getD i default))→RepI m (.agg cs) (.agg l)
 |raw (v:Value):RepI m v (.raw v)
 |nilIface:RepI m .nilIface (.ifc true)
 |iface (t:Nat) (v:Value):RepI m (.iface t v) (.ifc false)
structure TabOK (m:Nat→Nat→Option Value) (o:Nat→Option Obj):Prop where
 cell:∀gl cells,glk Bi9 gl=some cells→∀j,j<cells.length→∃v,m gl j=some v∧RepI m v (cells.getD j default)
 vals:∀gl vs,A7o Bja gl=some vs→∃T fz,o gl=some (.cells vs.toArray T fz)
structure G where
 imm:Nat→Nat→Option Value
 base:Nm→Option Loc
 old:Nat→Option Obj
 tab:TabOK imm old
inductive RepA (g:G):Value→AV→Prop where
 |imm (v:Value) (x:IV):RepI g.imm v x→RepA g v (.imm x)
 |ptr (n:Nm) (b c l off:Nat):g.base n=some ⟨some b,c,l⟩→RepA g (.pointer (some ⟨b,off,none⟩)) (.ptr n off)
 |elt (n:Nm) (b c l sz i j:Nat):g.base n=some ⟨some b,c,l⟩→RepA g (.pointer (some ⟨b,i*sz+j,none⟩)) (.elt n sz i j)
 |own (n:Nm) (a:Option Nat) (c len:Nat):g.base n=some ⟨a,c,len⟩→RepA g (.slice (a.map fun b=>⟨b,0,none⟩) len c) (.own n)
 |pin (b o:Nat) (cells:List IV) (vs:Nat→Value):
  (∀j,j<cells.length→g.imm b (o+j)=some (vs j))→(∀j,j<cells.length→RepI g.imm (vs j) (cells.getD j default))→
  RepA g (.pointer (some ⟨b,o,none⟩)) (.pin cells)
 |fn (f:Nat) (vs:Array Value) (caps:List AV):vs.size=caps.length→(∀i,i<caps.length→RepA g (vs.getD i undef) (caps.getD i .undef))→
  RepA g (.func (.func f) #[] vs) (.fn f caps)
 |agg (cs:Array Value) (l:List AV):cs.size=l.length→(∀i,i<l.length→RepA g (cs.getD i undef) (l.getD i .undef))→RepA g (.agg cs) (.agg l)
 |tup (cs:Array Value) (l:List AV):cs.size=l.length→(∀i,i<l.length→RepA g (cs.getD i undef) (l.getD i .undef))→RepA g (.tuple cs) (.tup l)
 |when (v:Value) (t:Nat) (b want:Bool) (a:AV):(b=want→RepA g v a)→(b≠want→v=undef)→RepA g v (.when t b want a)
 |undef (v:Value):RepA g v .undef
 |data (n:Nm) (a:Option Nat) (c len:Nat):g.base n=some ⟨a,c,len⟩→RepA g (.pointer (a.map fun b=>⟨b,0,none⟩)) (.data n)
 |win (n:Nm) (a:Option Nat) (c l sz off len k:Nat) (p:Option Addr):g.base n=some ⟨a,c,l⟩→off+len≤l→len≤k→off+k≤c→(0<k→p=a.map fun b=>⟨b,off*sz,none⟩)→RepA g (.slice p len k) (.win n sz off len)
 |mp (n:Nm) (b c l:Nat):g.base n=some ⟨some b,c,l⟩→RepA g (.map (some b)) (.mp n)
 |self (n:Nm) (v:Value):(v= .pointer none∨∃b c l,g.base n=some ⟨some b,c,l⟩∧v= .pointer (some ⟨b,0,none⟩))→RepA g v (.self n)
 |meth (f:Nat) (n:Nm) (b c l off:Nat):g.base n=some ⟨some b,c,l⟩→RepA g (.func (.func f) #[.pointer (some ⟨b,off,none⟩)] #[]) (.meth f n off)
def Ae4:List MapEntry→List (List UInt8 × Int)→Prop
 | [],[]=>True
 |e::es,(k,v)::l=>(∃s:ByteArray,e.key= .string s∧s.data.toList=k)∧e.val= .int .i64 v∧Ae4 es l
 |_,_=>False
inductive EntOK (g:G) (w:World) (n:Nm):Entry→Prop where
 |blk (T:Nat) (cells:List AV) (b c l:Nat) (cs:Array Value) (fz:Nat × Nat):g.base n=some ⟨some b,c,l⟩→w.heap[b]? =some (.cells cs T fz)→fz.2≤fz.1→
  cs.size=cells.length→(∀i,i<cells.length→RepA g (cs.getD i undef) (cells.getD i .undef))→(∀o,g.imm b o=none)→EntOK g w n (.blk T cells)
 |nil (ty:Nat) (wr:Bool) (sz:Nat):g.base n=some ⟨none,0,0⟩→EntOK g w n (.arr ty wr sz [])
 |arr (ty:Nat) (wr:Bool) (sz:Nat) (rows:List (List IV)) (b cap:Nat) (cs:Array Value) (T:Nat) (fz:Nat × Nat):g.base n=some ⟨some b,cap,rows.length⟩→
  w.heap[b]? =some (.cells cs T fz)→cs.size=cap*sz→rows.length≤cap→(∀r,r∈rows→r.length=sz)→
  (∀i j,i<rows.length→j<sz→RepI g.imm (cs.getD (i*sz+j) undef) ((rows.getD i []).getD j default))→
  (∀o,o<cs.size→(wr=true∨rows.length*sz≤o)→¬(fz.1≤o∧o<fz.2))→
  (∀o,(wr=true∨rows.length*sz≤o)→g.imm b o=none)→
  (∀o,o<rows.length*sz→(cs.getD o undef).oneCell'=true)→(∀e,ty=e+2→T=e∧0<cap∧fz.1=0)→EntOK g w n (.arr ty wr sz rows)
 |sit (s:List UInt8) (pos b c l:Nat) (t:ByteArray):g.base n=some ⟨some b,c,l⟩→w.heap[b]? =some (.stringIter t pos)→t.data.toList=s→EntOK g w n (.sit s pos)
 |map (m:List (List UInt8 × Int)) (b c l:Nat) (es:Array MapEntry) (clock:Nat):g.base n=some ⟨some b,c,l⟩→w.heap[b]? =some (.map es clock)→Ae4 es.toList m→EntOK g w n (.map m)
structure Sat (g:G) (h:Heap) (w:World):Prop where
 imm:∀b o v,g.imm b o=some v→w.cell? ⟨b,o,none⟩=some v
 ent:∀n e,hget h n=some e→EntOK g w n e
 inj:∀n m e e' b c l c' l',hget h n=some e→hget h m=some e'→g.base n=some ⟨some b,c,l⟩→g.base m=some ⟨some b,c',l'⟩→n=m
 old:∀b o,g.old b=some o→w.heap[b]? =some o
 dis:∀n e b c l,hget h n=some e→g.base n=some ⟨some b,c,l⟩→g.old b=none
def Nm.ext:Nm→Bool | .arg _=>true | .up _=>true |_=>false
def NotArr(h:Heap)(n:Nm):Prop:=∀ty w sz rows,hget h n=some (.arr ty w sz rows)→ty=1
structure Evo (g:G) (h:Heap) (w:World) (g':G) (h':Heap) (w':World):Prop where
 os:w'.os=w.os
 tape:w'.tape=w.tape
 output:w'.output=w.output
 size:w.heap.size≤w'.heap.size
 imm:∀b o v,g.imm b o=some v→g'.imm b o=some v
 frame:∀b,b<w.heap.size→(∀n e c l,hget h n=some e→g.base n≠some ⟨some b,c,l⟩)→w'.heap[b]? =w.heap[b]? ∧∀o,g'.imm b o=g.imm b o
 own:∀n e b c l,hget h' n=some e→g'.base n=some ⟨some b,c,l⟩→w.heap.size≤b∨∃m e' c' l',hget h m=some e'∧g.base m=some ⟨some b,c',l'⟩
 base:∀n,n.ext=true→NotArr h n→g'.base n=g.base n∧NotArr h' n
 old:g'.old=g.old
inductive Ex where |normal |exit (id:Nat) |goto (l:Nat) |ret
def Bg4:Exit→Option Ex
 | .normal=>some .normal | .exit i=>some (.exit i) | .goto l=>some (.goto l) | .ret=>some .ret |_=>none
structure Ca (nt:Nat) (g:G) (st:St) (a:Act) (w:World):Prop where
 size:a.tmps.size=nt
 defers:a.defers=[]
 tm:∀t,RepA g (a.tmps.getD t undef) (lk st.tm t)
 sat:Sat g st.hp w
def NoW(a:AV):Prop:=∀t b w x,a≠ .when t b w x
def Post(nt:Nat)(g:G)(h:Heap)(w:World)(Q:Ex→St→Prop)(e:Exit)(a':Act)(w':World):Prop:=
 ∃x st' g',Bg4 e=some x∧Evo g h w g' st'.hp w'∧Ca nt g' st' a' w'∧(∀u,NoW (lk st'.tm u))∧Q x st'
structure WP (P:Program) (nt:Nat) (c:Code) (st:St) (Q:Ex→St→Prop):Prop where
 ok:∀g a w,Ca nt g st a w→c.wp P (Post nt g st.hp w Q) a w
structure LIn (P:Program) (nt:Nat) (c:Code) (st:St) (Q:Ex→St→Prop):Prop where
 ok:∀g a w,Ca nt g st a w→∀b k cs,∃e a' w',Post nt g st.hp w Q e a' w'∧Arrives P (lone (b.at a (.code c:: .inLoop c::k)) cs w) b k cs e a' w'
structure SIn (P:Program) (nt:Nat) (c rest:Code) (st:St) (Q:Ex→St→Prop):Prop where
 ok:∀g a w,Ca nt g st a w→∀b k cs,∃e a' w',Post nt g st.hp w Q e a' w'∧Arrives P (lone (b.at a (.code rest:: .inScope c::k)) cs w) b k cs e a' w'
def Y0(g:G)(vs:Array Value)(l:List AV):Prop:=vs.size=l.length∧∀i,i<l.length→RepA g (vs.getD i undef) (l.getD i .undef)
def Comes1(P:Program)(f:Nat)(vs:Array Value)(w:World)(R:Value→World→Prop):Prop:=
 match (callFunc f vs).run P w with
 | .ok (.enter f' vs') w'=>Calls P f' vs' w' fun e w''=>∃v,e= .returned v∧R v w''
 | .ok (.value v) w'=>R v w'
 |_=>False
structure Call (P:Program) (f:Nat) (args:List AV) (h:Heap) (Q:AV→Heap→Prop):Prop where
 ok:∀g w vs,Y0 g vs args→Sat g h w→Comes1 P f vs w fun v w'=>∃g' r h',Evo g h w g' h' w'∧Sat g' h' w'∧RepA g' v r∧Q r h'
structure Ag (c k:Prop):Prop where
 c:c
 k:k
structure Let {α:Type} (v:α) (k:α→Prop):Prop where
 h:∀x,x=v→k x
structure Ba4 (c x y:Prop):Prop where
 t:c→x
 f:y
structure Br (b:Bool) (x y:Prop):Prop where
 t:b=true→x
 f:b=false→y
end Go.Proofs.Sim

import Derived.Test.YtaggabcajidnnaaGreatDoorSimTab
namespace Go.Proofs.Sim
open Go
inductive Nm where |loc (t:Nat) |cell (n:Nm) (j:Nat) |arg (i:Nat) |up (n:Nm) |sub (t:Nat) (n:Nm)
 deriving DecidableEq
inductive AV where
 |imm (v:IV) |ptr (n:Nm) (off:Nat) |elt (n:Nm) (sz i j:Nat) |own (n:Nm) |pin (cells:List IV)
 |fn (f:Nat) (caps:List AV) |agg (cells:List AV) |tup (vs:List AV) |when (t:Nat) (b want:Bool) (a:AV) |undef
 |data (n:Nm) |win (n:Nm) (sz off len:Nat) |mp (n:Nm)
 |self (n:Nm)
 |meth (f:Nat) (n:Nm) (off:Nat)
instance:Inhabited AV:=⟨.undef⟩
inductive Entry where
 |blk (ty:Nat) (cells:List AV)
 |arr (ty:Nat) (w:Bool) (sz:Nat) (rows:List (List IV))
 |sit (s:List UInt8) (pos:Nat)
 |map (l:List (List UInt8 × Int))
abbrev Heap:=List (Nm × Entry)
structure St where
 tm:List (Nat × AV)
 hp:Heap
inductive CS where |bool |int (k:IntKind) |str |sl (sz e:Nat) |any |ifc
inductive TD where
 |bool |int (k:IntKind) |str |slice (elem esz ebytes:Nat) (esh:List CS) |struct (fs:List (Nat × Nat))
 |array (n elem esz:Nat) |tuple (ts:List Nat) |pointer (elem:Nat) |iface |map |other |missing
structure TI where
 td:TD
 size:Nat
 bytes:Nat
 sh:List CS
 zero:List IV
 agg:Bool
 eq:Bool
 fts:List Nat:=[]
abbrev TT:=List (Nat × TI)
def tl:TT→Nat→TI
 | [],_=>⟨.missing,0,0,[],[],false,false,[]⟩
 |(m,i)::r,n=>match Nat.beq m n with |true=>i |false=>tl r n
def Nm.beq:Nm→Nm→Bool
 | .loc a, .loc b=>Nat.beq a b
 | .cell n a, .cell m b=>Nat.beq a b && Nm.beq n m
 | .arg a, .arg b=>Nat.beq a b
 | .up a, .up b=>Nm.beq a b
 | .sub a n, .sub b m=>Nat.beq a b && Nm.beq n m
 |_,_=>false
def lk:List (Nat × AV)→Nat→AV
 | [],_=> .undef
 |(m,v)::r,n=>match Nat.beq m n with |true=>v |false=>lk r n
def hget:Heap→Nm→Option Entry
 | [],_=>none
 |(m,e)::r,n=>match Nm.beq m n with |true=>some e |false=>hget r n
def hset:Heap→Nm→Entry→Heap
 | [],n,e=>[(n,e)]
 |(m,e')::r,n,e=>match Nm.beq m n with |true=>(m,e)::r |false=>(m,e')::hset r n e
def St.put(st:St)(d:Option Nat)(v:AV):St:=
 match d with |none=>st |some d=>⟨(d,v)::st.tm,st.hp⟩
def gB(r:List IV)(j:Nat):Bool:=match r.getD j default with | .bool b=>b |_=>false
def gI(r:List IV)(j:Nat):Int:=match r.getD j default with | .int _ n=>n |_=>0
def gS(r:List IV)(j:Nat):List UInt8:=match r.getD j default with | .str s=>s |_=>[]
def gR(r:List IV)(j:Nat):List (List IV):=match r.getD j default with | .sl _ _ rows=>rows |_=>[]
def gV(r:List IV)(j:Nat):Value:=match r.getD j default with | .raw v=>v |_=> .nilFunc
def gN(r:List IV)(j:Nat):Bool:=match r.getD j default with | .ifc b=>b |_=>false
def mkC:CS→List IV→Nat→IV
 | .bool,r,j=> .bool (gB r j)
 | .int k,r,j=> .int k (gI r j)
 | .str,r,j=> .str (gS r j)
 | .sl sz _,r,j=> .sl .any sz (gR r j)
 | .any,r,j=> .raw (gV r j)
 | .ifc,r,j=> .ifc (gN r j)
def U1:List CS→List IV→Nat→List IV
 | [],_,_=>[]
 |c::cs,r,j=>mkC c r j::U1 cs r (j+1)
def shC:CS→IV→Bool
 | .bool, .bool _=>true
 | .int k, .int k' _=>decide (k=k')
 | .str, .str _=>true
 | .sl sz _, .sl _ sz' _=>Nat.beq sz sz'
 | .any, .raw _=>true
 | .ifc, .ifc _=>true
 |_,_=>false
def Bg:List CS→List IV→Bool
 | [],[]=>true
 |c::cs,v::r=>shC c v && Bg cs r
 |_,_=>false
def aIV:AV→IV | .imm v=>v |_=>default
def Ad:AV→List IV | .imm (.agg l)=>l |_=>[]
def Bpj:AV→List AV | .tup l=>l |_=>[]
def rB(r:AV):Bool:=gB [aIV r] 0
def rI(r:AV):Int:=gI [aIV r] 0
def rS(r:AV):List UInt8:=gS [aIV r] 0
def rR(r:AV):List (List IV):=gR [aIV r] 0
def rV(r:AV):Value:=gV [aIV r] 0
def rN(r:AV):Bool:=gN [aIV r] 0
def rT(r:AV)(j:Nat):AV:=(Bpj r).getD j .undef
def mk1:CS→AV→IV
 | .bool,r=> .bool (rB r)
 | .int k,r=> .int k (rI r)
 | .str,r=> .str (rS r)
 | .sl sz _,r=> .sl .any sz (rR r)
 | .any,r=> .raw (rV r)
 | .ifc,r=> .ifc (rN r)
def Aog(ti:TI)(r:AV):AV:=
 match ti.agg with
 |true=> .imm (.agg (U1 ti.sh (Ad r) 0))
 |false=>match ti.sh with
  | [c]=> .imm (mk1 c r)
  |_=> .undef
def A0z(T:TT):List Nat→AV→Nat→List AV
 | [],_,_=>[]
 |t::ts,r,j=>Aog (tl T t) (rT r j)::A0z T ts r (j+1)
def Ml(T:TT)(ty:Nat)(r:AV):AV:=
 match (tl T ty).td with
 | .tuple ts=> .tup (A0z T ts r 0)
 |_=>Aog (tl T ty) r
def Bgu:CS→Value→IV
 | .bool, .bool b=> .bool b
 | .int _, .int k n=> .int k n
 | .str, .string s=> .str s.data.toList
 | .sl sz _, .slice none 0 0=> .sl .nil sz []
 | .ifc, .nilIface=> .ifc true
 |_,v=> .raw v
def Axp:List CS→List Value→List IV
 |c::cs,v::vs=>Bgu c v::Axp cs vs
 |_,_=>[]
def cst(ti:TI)(v:Value):AV:=
 match v with
 | .agg cs=>match Nat.beq ti.sh.length cs.toList.length with
   |true=> .imm (.agg (Axp ti.sh cs.toList))
   |false=> .undef
 | .tuple _=> .undef
 | .func (.func f) ⟨[]⟩ ⟨[]⟩=> .fn f []
 | .bool b=> .imm (.bool b)
 | .int k n=> .imm (.int k n)
 | .string s=> .imm (.str s.data.toList)
 | .nilIface=> .imm (.ifc true)
 | .slice none 0 0=>match ti.td with | .slice _ esz _ _=> .imm (.sl .nil esz []) |_=> .imm (.raw (.slice none 0 0))
 |v=> .imm (.raw v)
def Afe:AV→AV
 | .imm (.raw (.bool b))=> .imm (.bool b)
 |a=>a
def ev(T:TT)(tm:List (Nat × AV))(ty:Nat):Operand→AV
 | .tmp t=>Afe (lk tm t)
 | .const v=>cst (tl T ty) v
 | .func f=> .fn f []
 | .global _=> .undef
def evs(T:TT)(tm:List (Nat × AV)):List Operand→List Nat→List AV
 |x::xs,t::ts=>ev T tm t x::evs T tm xs ts
 |_,_=>[]
def toI:List AV→Option (List IV)
 | []=>some []
 | .imm v::r=>match toI r with |some l=>some (v::l) |none=>none
 |_::_=>none
def Aia(l:List AV):AV:=match toI l with |some ivs=> .imm (.agg ivs) |none=> .agg l
def Dv:List IV→List AV
 | []=>[]
 |v::r=> .imm v::Dv r
def flat:AV→List AV
 | .agg l=>l
 | .imm (.agg l)=>Dv l
 |v=>[v]
inductive PR where |bad |ok (v:AV) |req (c:Prop) (v:AV)
def eqC:CS→IV→IV→Option Bool
 | .bool, .bool a, .bool b=>some (a == b)
 | .int k, .int k1 a, .int k2 b=>match decide (k=k1),decide (k=k2)with |true,true=>some (decide (a=b)) |_,_=>none
 | .str, .str a, .str b=>some (a == b)
 |_,_,_=>none
def Fa:List CS→List IV→List IV→Option Bool
 | [],[],[]=>some true
 |c::cs,x::l,y::m=>match eqC c x y with
  |some b=>(match cs with
   | []=>(match l,m with | [],[]=>some b |_,_=>none)
   |c'::cs=>(match Fa (c'::cs) l m with |some b'=>some (b && b') |none=>none))
  |none=>none
 |_,_,_=>none
def isConst:Operand→Bool | .const _=>true |_=>false
def A5y(kc:Bool)(ti:TI)(op:BinOp)(x y:AV):PR:=
 match x,y with
 | .imm (.int k a), .imm (.int k' b)=>
   match op with
   | .shl=> .req (0≤b) (.imm (.int k (k.wrap (a*2 ^ (min b.toNat k.bits)))))
   | .shr=> .req (0≤b) (.imm (.int k (a.fdiv (2 ^ (min b.toNat k.bits)))))
   |_=>
   match decide (k=k')with
   |false=> .bad
   |true=>
    match op with
    | .add=> .ok (.imm (.int k (k.wrap (a+b))))
    | .sub=> .ok (.imm (.int k (k.wrap (a - b))))
    | .mul=> .ok (.imm (.int k (k.wrap (a*b))))
    | .quo=> .req (b≠0) (.imm (.int k (k.wrap (a.tdiv b))))
    | .rem=> .req (b≠0) (.imm (.int k (a.tmod b)))
    | .and=> .ok (.imm (.int k (k.wrap (BitVec.ofInt k.bits a &&& BitVec.ofInt k.bits b).toNat)))
    | .or=> .ok (.imm (.int k (k.wrap (BitVec.ofInt k.bits a ||| BitVec.ofInt k.bits b).toNat)))
    | .xor=> .ok (.imm (.int k (k.wrap (BitVec.ofInt k.bits a ^^^ BitVec.ofInt k.bits b).toNat)))
    | .eql=> .ok (.imm (.bool (decide (a=b))))
    | .neq=> .ok (.imm (.bool (!decide (a=b))))
    | .lss=> .ok (.imm (.bool (decide (a<b))))
    | .leq=> .ok (.imm (.bool (decide (a≤b))))
    | .gtr=> .ok (.imm (.bool (decide (b<a))))
    | .geq=> .ok (.imm (.bool (decide (b≤a))))
    |_=> .bad
 | .imm (.str a), .imm (.str b)=>
   match op with
   | .add=> .req (((a.length+b.length:Nat):Int)≤9223372036854775807) (.imm (.str (a++b)))
   | .eql=> .ok (.imm (.bool (a == b)))
   | .neq=> .ok (.imm (.bool (!(a == b))))
   | .lss=> .ok (.imm (.bool (Op.bytesLess a b)))
   | .leq=> .ok (.imm (.bool (Op.bytesLess a b || a == b)))
   | .gtr=> .ok (.imm (.bool (!(Op.bytesLess a b || a == b))))
   | .geq=> .ok (.imm (.bool (!Op.bytesLess a b)))
   |_=> .bad
 | .imm (.bool a), .imm (.bool b)=>
   match ti.td with
   | .bool=>
     match op with
     | .eql=> .ok (.imm (.bool (a == b)))
     | .neq=> .ok (.imm (.bool (!(a == b))))
     |_=> .bad
   |_=> .bad
 | .imm (.ifc a), .imm (.ifc b)=>
   match kc,ti.td,op with
   |true, .iface, .eql=> .req (a=true∨b=true) (.imm (.bool (a && b)))
   |true, .iface, .neq=> .req (a=true∨b=true) (.imm (.bool (!(a && b))))
   |_,_,_=> .bad
 | .imm (.agg l), .imm (.agg m)=>
   match ti.td,ti.eq,Fa ti.sh l m,op with
   | .struct _,true,some b, .eql=> .ok (.imm (.bool b))
   | .struct _,true,some b, .neq=> .ok (.imm (.bool (!b)))
   |_,_,_,_=> .bad
 |_,_=> .bad
def Bbm(op:UnOp)(x:AV):PR:=
 match op,x with
 | .neg, .imm (.int k n)=> .ok (.imm (.int k (k.wrap (0 - n))))
 | .not, .imm (.bool b)=> .ok (.imm (.bool (!b)))
 |_,_=> .bad
def Afx(ti:TI)(hp:Heap)(a:AV):PR:=
 match ti.td with
 | .missing=> .bad
 |_=>
 match a with
 | .pin cells=>match ti.agg with
   |true=>match Nat.ble ti.size cells.length with |true=> .ok (.imm (.agg (cells.take ti.size))) |false=> .bad
   |false=>match cells with |c::_=> .ok (.imm c) | []=> .bad
 | .ptr n o=>match hget hp n with
   |some (.blk _ cells)=>match ti.agg with
    |true=>match Nat.ble (o+ti.size) cells.length with |true=> .ok (Aia ((cells.drop o).take ti.size)) |false=> .bad
    |false=>match cells.drop o with |c::_=> .ok c | []=> .bad
   |some (.arr _ _ sz rows)=>match ti.td,o with
    | .array k _ esz,0=>match Nat.beq sz esz && (ti.agg && Nat.beq ti.size (k*esz))with
      |true=> .req (rows.length=k∧Bg ti.sh rows.flatten=true) (.imm (.agg (U1 ti.sh rows.flatten 0)))
      |false=> .bad
    |_,_=> .bad
   |_=> .bad
 | .elt n sz i j=>match hget hp n with
   |some (.arr _ _ sz' rows)=>match Nat.beq sz sz' with
    |true=>match Nat.ble (j+ti.size) sz with
     |true=>match ti.agg with
      |true=> .req (i<rows.length∧Bg ti.sh (((rows.getD i []).drop j).take ti.size)=true) (.imm (.agg (U1 ti.sh (((rows.getD i []).drop j).take ti.size) 0)))
      |false=>match ti.sh with
       | [c]=> .req (i<rows.length∧Bg ti.sh (((rows.getD i []).drop j).take ti.size)=true) (.imm (mkC c (((rows.getD i []).drop j).take ti.size) 0))
       |_=> .bad
     |false=> .bad
    |false=> .bad
   |_=> .bad
 |_=> .bad
def Bbk(ti:TI)(hp:Heap)(x:AV):PR:=
 match x with
 | .imm (.sl _ _ rows)=>match ti.td with | .slice _ _ _ _=> .ok (.imm (.int .i64 rows.length)) |_=> .bad
 | .imm (.str s)=>match ti.td with | .str=> .ok (.imm (.int .i64 s.length)) |_=> .bad
 | .own n=>match ti.td with
   | .slice _ _ _ _=>match hget hp n with |some (.arr _ _ _ rows)=> .ok (.imm (.int .i64 rows.length)) |_=> .bad
   |_=> .bad
 | .win _ _ _ len=>match ti.td with
   | .slice _ _ _ _=> .ok (.imm (.int .i64 len))
   |_=> .bad
 |_=> .bad
def A7f(hp:Heap)(x:AV):PR:=
 match x with
 | .own n=>match hget hp n with |some (.arr (_+2) _ _ _)=> .ok (.data n) |_=> .bad
 |_=> .bad
def addN(a b:Nat):Nat:=match a with |0=>b |a+1=>a+1+b
def Al8(ti:TI)(hp:Heap)(x i:AV):PR:=
 match x,i with
 | .imm (.sl _ sz rows), .imm (.int _ n)=>match ti.td with
   | .slice _ esz _ esh=>match Nat.beq sz esz with
     |true=> .req ((0≤n∧n<rows.length)∧Bg esh (rows.getD n.toNat [])=true) (.pin (U1 esh (rows.getD n.toNat []) 0))
     |false=> .bad
   |_=> .bad
 | .own nm, .imm (.int _ n)=>match ti.td,hget hp nm with
   | .slice _ esz _ _,some (.arr _ _ _ rows)=> .req (0≤n∧n<(rows.length:Int)) (.elt nm esz n.toNat 0)
   |_,_=> .bad
 | .ptr nm 0, .imm (.int _ n)=>match ti.td,hget hp nm with
   | .array k _ esz,some (.arr _ _ sz _)=>match Nat.beq sz esz with
     |true=> .req (0≤n∧n<(k:Int)) (.elt nm esz n.toNat 0)
     |false=> .bad
   |_,_=> .bad
 | .win nm sz off len, .imm (.int _ n)=>match ti.td,hget hp nm with
   | .slice _ esz _ _,some (.arr _ _ _ _)=>match Nat.beq sz esz with
     |true=> .req (0≤n∧n<(len:Int)) (.elt nm esz (addN off n.toNat) 0)
     |false=> .bad
   |_,_=> .bad
 |_,_=> .bad
def Ae7(ti:TI)(x:AV)(j:Nat):PR:=
 match ti.td with
 | .struct fs=>match fs[j]? with
   |some (off,sz)=>match Nat.blt 0 sz with
    |true=>match x with
     | .pin cells=> .ok (.pin (cells.drop off))
     | .ptr n o=> .ok (.ptr n (o+off))
     | .elt n s i k=> .ok (.elt n s i (k+off))
     |_=> .bad
    |false=> .bad
   |none=> .bad
 |_=> .bad
def Auf(ti:TI)(x i:AV):PR:=
 match x,i with
 | .imm (.str s), .imm (.int _ n)=>match ti.td with
   | .str=> .req (0≤n∧n<s.length) (.imm (.int .u8 (s.getD n.toNat 0).toNat))
   |_=> .bad
 |_,_=> .bad
def Cx:List (List UInt8 × Int)→List UInt8→Int
 | [],_=>0
 |(k,v)::r,x=>if x=k then v else Cx r x
def Yi:List (List UInt8 × Int)→List UInt8→Int→List (List UInt8 × Int)
 | [],x,v=>[(x,v)]
 |(k,u)::r,x,v=>if x=k then(k,v)::r else(k,u)::Yi r x v
def Axs(ti:TI)(hp:Heap)(x i:AV):PR:=
 match ti.td,x,i with
 | .map, .mp n, .imm (.str s)=>match hget hp n with |some (.map l)=> .ok (.imm (.int .i64 (Cx l s))) |_=> .bad
 |_,_,_=> .bad
def Axr(T:TT)(t:Nat)(x i:AV):PR:=
 match (tl T t).td,x,i with
 | .array k e esz, .imm (.agg cells), .imm (.int _ n)=>match (tl T e).td with
   | .missing=> .bad
   |_=>match (tl T e).agg && (Nat.beq cells.length (k*esz) && Nat.beq (tl T e).size esz)with
    |true=> .req ((0≤n∧n<(k:Int))∧Bg (tl T e).sh ((cells.drop (n.toNat*esz)).take esz)=true) (.imm (.agg (U1 (tl T e).sh ((cells.drop (n.toNat*esz)).take esz) 0)))
    |false=> .bad
 |_,_,_=>Auf (tl T t) x i
def Aa6(n:Nat)(lo hi:Option AV):Option (Prop × Nat × Nat):=
 match lo,hi with
 |some (.imm (.int _ l)),none=>some (0≤l∧l≤n,l.toNat,n)
 |none,some (.imm (.int _ h))=>some (0≤h∧h≤n,0,h.toNat)
 |some (.imm (.int _ l)),some (.imm (.int _ h))=>some (0≤l∧l≤h∧h≤n,l.toNat,h.toNat)
 |none,none=>some (True,0,n)
 |_,_=>none
def A19 {α:Type} (lo hi:Option AV)(l h:Nat)(xs:List α):List α:=
 match lo,hi with
 |none,none=>xs
 |some _,none=>xs.drop l
 |none,some _=>xs.take h
 |some _,some _=>(xs.take h).drop l
def Afw(n:Nat)(lo hi mx:Option AV):Option (Prop × Nat × Nat):=
 match mx with
 |none=>Aa6 n lo hi
 |some (.imm (.int _ m))=>match lo,hi with
  |some (.imm (.int _ l)),some (.imm (.int _ h))=>some (0≤l∧l≤h∧h≤m∧m≤n,l.toNat,h.toNat)
  |none,some (.imm (.int _ h))=>some (0≤h∧h≤m∧m≤n,0,h.toNat)
  |_,_=>none
 |_=>none
def Abl(ti:TI)(hp:Heap)(tg:Bool)(x:AV)(lo hi mx:Option AV):PR:=
 match x with
 | .imm (.str s)=>match mx with
   |some _=> .bad
   |none=>match ti.td,Aa6 s.length lo hi with
    | .str,some (c,l,h)=> .req c (.imm (.str (A19 lo hi l h s)))
    |_,_=> .bad
 | .imm (.sl _k sz rows)=>
   match ti.td,Afw rows.length lo hi mx with
   | .slice _ esz _ _,some (c,l,h)=>match Nat.beq sz esz with
     |true=>match tg with
      |false=> .req c (.imm (.sl .any sz (A19 lo hi l h rows)))
      |true=> .req c (.imm (.sl .tight sz []))
     |false=> .bad
   |_,_=> .bad
 | .win n sz off len=>match ti.td,hget hp n,mx with
   | .slice _ esz _ _,some (.arr _ _ _ _),none=>match Aa6 len lo hi,Nat.beq sz esz with
     |some (c,l,h),true=> .req c (.win n sz (addN off l) (h - l))
     |_,_=> .bad
   |_,_,_=> .bad
 | .ptr n 0=>match ti.td,hget hp n,mx with
   | .array k _ esz,some (.arr _ _ sz rows),none=>match Aa6 k lo hi,Nat.beq sz esz with
     |some (c,l,h),true=> .req (c∧rows.length=k) (.win n sz l (h - l))
     |_,_=> .bad
   |_,_,_=> .bad
 | .own n=>match ti.td,hget hp n,mx with
   | .slice _ esz _ _,some (.arr _ _ sz rows),none=>match Aa6 rows.length lo hi,Nat.beq sz esz with
     |some (c,l,h),true=> .req c (.win n sz l (h - l))
     |_,_=> .bad
   |_,_,_=> .bad
 |_=> .bad
def Boz(hp:Heap):AV→Bool | .own n=>(match hget hp n with |some (.arr ty _ _ _)=> !(Nat.beq ty 1) |_=>true) |_=>false
def noRoom:Option Operand→Option Operand→Bool
 |some (.const (.int _ 0)),some (.const (.int _ 0))=>true
 |_,_=>false
def Atg(T:TT)(s d:Nat)(hp:Heap)(x:AV):PR:=
 match (tl T s).td with
 | .missing=> .bad
 |std=>
 match (tl T d).td,x with
 | .int k, .imm (.int _ n)=> .ok (.imm (.int k (k.wrap n)))
 | .str, .imm (.str s)=> .ok (.imm (.str s))
 | .str, .imm (.sl _ sz rows)=>match std,Nat.beq sz 1 with
   | .slice e _ _ _,true=>match (tl T e).td with
     | .int .u8=> .req (∀r,r∈rows→Bg [.int .u8] r=true) (.imm (.str (rows.map fun r=>UInt8.ofNat (gI r 0).toNat)))
     |_=> .bad
   |_,_=> .bad
 | .str, .own n=>match std,hget hp n with
   | .slice e _ _ _,some (.arr _ _ sz rows)=>match (tl T e).td,Nat.beq sz 1 with
     | .int .u8,true=> .req (∀r,r∈rows→Bg [.int .u8] r=true) (.imm (.str (rows.map fun r=>UInt8.ofNat (gI r 0).toNat)))
     |_,_=> .bad
   |_,_=> .bad
 | .str, .win n 1 off len=>match std,hget hp n with
   | .slice e _ _ _,some (.arr _ _ sz rows)=>match (tl T e).td,Nat.beq sz 1 with
     | .int .u8,true=> .req (∀r,r∈(rows.drop off).take len→Bg [.int .u8] r=true) (.imm (.str (((rows.drop off).take len).map fun r=>UInt8.ofNat (gI r 0).toNat)))
     |_,_=> .bad
   |_,_=> .bad
 |_,_=> .bad
def Lj(T:TT)(tm:List (Nat × AV)):Option Operand→Option AV
 |none=>none
 |some x=>some (ev T tm 0 x)
def K7(T:TT)(tm:List (Nat × AV))(ty:Nat):List (Nat × Operand)→List (Nat × AV)
 | []=>[]
 |(i,x)::r=>(i,ev T tm ty x)::K7 T tm ty r
def strip(g:Option (Nat × Bool))(a:AV):AV:=
 match a with
 | .when t _b want x=>match g with
   |some (t',want')=>match Nat.beq t t',want,want' with
    |true,true,true=>x
    |true,false,false=>x
    |_,_,_=> .undef
   |none=> .undef
 |a=>a
def Ik(g:Option (Nat × Bool)):Option AV→Option AV
 |none=>none
 |some a=>some (strip g a)
def stripL(g:Option (Nat × Bool)):List AV→List AV
 | []=>[]
 |a::r=>strip g a::stripL g r
def Oq(g:Option (Nat × Bool)):List (Nat × AV)→List (Nat × AV)
 | []=>[]
 |(i,a)::r=>(i,strip g a)::Oq g r
def noW:AV→AV
 | .when _ _ _ _=> .undef
 | .imm v=> .imm v
 | .ptr n o=> .ptr n o
 | .elt n s i j=> .elt n s i j
 | .own n=> .own n
 | .pin c=> .pin c
 | .fn f c=> .fn f c
 | .agg l=> .agg l
 | .tup l=> .tup l
 | .undef=> .undef
 | .data n=> .data n
 | .win n s o l=> .win n s o l
 | .mp n=> .mp n
 | .self n=> .self n
 | .meth f n o=> .meth f n o
def A7g(c:Operand)(cv a b:AV):PR:=
 match cv with
 | .imm (.bool cb)=>match c with
   | .tmp t=>match strip (some (t,true)) a,strip (some (t,false)) b with
     | .imm (.bool x), .imm (.bool y)=> .ok (.imm (.bool (bif cb then x else y)))
     | .imm (.bool x),_=> .req (cb=true) (.imm (.bool x))
     |_, .imm (.bool y)=> .req (cb=false) (.imm (.bool y))
     |_,_=> .bad
   |_=> .bad
 |_=> .bad
def splice:List AV→Nat→List AV→List AV
 |cs,0,vs=>over cs vs
 | [],_+1,_=>[]
 |c::cs,n+1,vs=>c::splice cs n vs
 where over:List AV→List AV→List AV
  |cs,[]=>cs
  | [],_::_=>[]
  |_::cs,v::vs=>v::over cs vs
def Oe:AV→Bool
 | .undef=>false
 | .when _ _ _ _=>false
 | .tup _=>false
 | .imm (.raw v)=>match v with | .pointer _=>true | .nilFunc=>true | .nilIface=>true | .map _=>true |_=>false
 |_=>true
def Auj(place:Nat→Option (Nat × Nat))(cells:List AV):List (Nat × AV)→Option (List AV)
 | []=>some cells
 |(i,v)::r=>match place i with
  |none=>none
  |some (off,sz)=>match Oe v && (Nat.beq (flat v).length sz && Nat.ble (off+sz) cells.length)with
   |true=>Auj place (splice cells off (flat v)) r
   |false=>none
def Aud(ti:TI)(parts:List (Nat × AV)):PR:=
 match ti.td with
 | .struct fs=>match Auj (fun i=>fs[i]?) (Dv ti.zero) parts with
   |some cells=> .ok (Aia cells)
   |none=> .bad
 | .array _ _ esz=>match Auj (fun i=>some (i*esz,esz)) (Dv ti.zero) parts with
   |some cells=> .ok (Aia cells)
   |none=> .bad
 |_=> .bad
def Bd2(fty:TI)(x:AV)(off:Nat):PR:=
 match fty.td with
 | .missing=> .bad
 |_=>
 match x with
 | .imm (.agg cells)=>match fty.agg with
   |true=>match Nat.ble (off+fty.size) cells.length with |true=> .ok (.imm (.agg ((cells.drop off).take fty.size))) |false=> .bad
   |false=>match cells.drop off with |c::_=> .ok (.imm c) | []=> .bad
 | .agg cells=>match fty.agg with
   |true=>match Nat.ble (off+fty.size) cells.length with |true=> .ok (Aia ((cells.drop off).take fty.size)) |false=> .bad
   |false=>match cells.drop off with |c::_=> .ok c | []=> .bad
 |_=> .bad
def A2d(T:TT)(t:Nat)(x:AV)(j:Nat):PR:=
 match (tl T t).td,(tl T t).fts[j]? with
 | .struct fs,some ft=>match fs[j]? with
   |some (off,_)=>Bd2 (tl T ft) x off
   |none=> .bad
 |_,_=> .bad
def Bbn(X:AV)(i:Nat):PR:=match X with | .tup vs=>(match vs[i]? with |some v=> .ok v |none=> .bad) |_=> .bad
def Alh(X:AV):PR:=match X with | .ptr n o=> .ok (.ptr n o) | .pin c=> .ok (.pin c) | .elt n s i j=> .ok (.elt n s i j) | .fn f c=> .ok (.fn f c) |_=> .bad
def A2e(mx:Bool):List AV→PR
 | [.imm (.int k a), .imm (.int _ b)]=>match mx with
   |true=> .ok (.imm (.int k (if b>a then b else a)))
   |false=> .ok (.imm (.int k (if b<a then b else a)))
 |_=> .bad
def Ac9:Operand→Bool | .const (.slice none 0 0)=>true |_=>false
def Acy(T:TT)(q:Bool)(g:Option (Nat × Bool))(st:St)(o:Oper):Option PR:=
 let e (ty:Nat) (x:Operand):AV:=strip g (ev T st.tm ty x)
 match o.op with
 | .move x=>some (.ok (e o.type x))
 | .assign x=>match q,Ac9 x with
   |false,true=>none
   |_,_=>some (.ok (e o.type x))
 | .pick c a b=>some (A7g c (ev T st.tm 0 c) (ev T st.tm o.type a) (ev T st.tm o.type b))
 | .binOp op xt x y yt=>match Ac9 y with
   |true=>none
   |false=>some (A5y (isConst x || isConst y) (tl T xt) op (e xt x) (e yt y))
 | .unOp op xt x=>some (Bbm op (e xt x))
 | .load t a=>some (Afx (tl T t) st.hp (e t a))
 | .indexAddr t x i=>some (Al8 (tl T t) st.hp (e t x) (e t i))
 | .fieldAddr t x j=>some (Ae7 (tl T t) (e t x) j)
 | .index t x i=>some (Axr T t (e t x) (e t i))
 | .lookup t x i false=>some (Axs (tl T t) st.hp (e t x) (e 0 i))
 | .slice t x lo hi mx=>match Boz st.hp (e t x)with
   |true=>none
   |false=>some (Abl (tl T t) st.hp (noRoom hi mx) (e t x) (Ik g (Lj T st.tm lo)) (Ik g (Lj T st.tm hi)) (Ik g (Lj T st.tm mx)))
 | .convert s d x=>match (tl T s).td,(tl T d).td with
   | .str, .slice .. =>none
   |_,_=>some (Atg T s d st.hp (e s x))
 | .extract x i=>some (Bbn (e 0 x) i)
 | .field t x j=>some (A2d T t (e t x) j)
 | .build t parts=>some (Aud (tl T t) (Oq g (K7 T st.tm 0 parts.toList)))
 | .nilCheck x=>some (Alh (e 0 x))
 | .makeFunc (.func f) first caps=>match first.toList with
   | []=>some (.ok (.fn f (evs T st.tm caps.toList (caps.toList.map fun _=>0))))
   | [x]=>(match caps.toList,e 0 x with
     | [], .ptr n off=>some (.ok (.meth f n off))
     |_,_=>some .bad)
   |_=>none
 | .call ⟨.builtin .len,args,ts⟩=>some (match args.toList,ts.toList with | [x],[t]=>Bbk (tl T t) st.hp (e t x) |_,_=> .bad)
 | .call ⟨.builtin .unsafeSliceData,args,ts⟩=>some (match args.toList,ts.toList with | [x],[t]=>A7f st.hp (e t x) |_,_=> .bad)
 | .call ⟨.builtin .max,args,ts⟩=>some (match args.toList,ts.toList with | [x,y],t::_=>A2e true [e t x,e t y] |_,_=> .bad)
 | .call ⟨.builtin .min,args,ts⟩=>some (match args.toList,ts.toList with | [x,y],t::_=>A2e false [e t x,e t y] |_,_=> .bad)
 |_=>none
end Go.Proofs.Sim

import Derived.Test.YtaggabcajidnnaaGreatDoorSimB
import Derived.Deep.Quiet
import Derived.Test.YtaggabcajidnnaaGreatDoorSimT
namespace Go.Proofs.Sim
open Go
inductive AC where
 |skip |region (id:Nat) (ops:Array Oper) (draw:Bool) |seq (a b:AC) |cond (c:Operand) (x y:AC) |block (id:Nat) (b:AC)
 |loop (n:Nat) (live:List Nat) (b:AC) |exit (id:Nat) (live:List Nat) |ret (live:List Nat) |cut (n:Nat) (live out:List Nat) (b:AC)
 |label (l:Nat) |scope (n:Nat) (live:List Nat) (b:AC) |goto (l:Nat) (live:List Nat) |bad (c:Code)
 deriving Inhabited
def AC.code:AC→Code
 | .skip=> .skip
 | .region id ops d=> .region id ops d
 | .seq a b=> .seq a.code b.code
 | .cond c x y=> .cond c x.code y.code
 | .block id b=> .block id b.code
 | .loop _ _ b=> .loop b.code
 | .exit id _=> .exit id
 | .ret _=> .ret
 | .cut _ _ _ b=>b.code
 | .label l=> .label l
 | .scope _ _ b=> .scope b.code
 | .goto l _=> .goto l
 | .bad c=>c
abbrev Bfz:=List (Nat × List Nat × List Nat)
def plk:Bfz→Nat→Option (List Nat × List Nat)
 | [],_=>none
 |(m,l)::r,n=>match Nat.beq m n with |true=>some l |false=>plk r n
def pl0(o:Option (List Nat × List Nat)):List Nat:=match o with |some l=>l.1 |none=>[]
def A7(pl:Bfz)(rs:List Nat):Code→Nat→AC × Nat
 | .skip,n=>(.skip,n)
 | .region id ops d,n=>(.region id ops d,n)
 | .seq a b,n=>match A7 pl rs a n with
   |(a',n1)=>match A7 pl rs b (n1+1)with
    |(b',n2)=>match plk pl n1 with
     |some (live,out)=>(.seq a' (.cut n1 live out b'),n2)
     |none=>(.seq a' b',n2)
 | .cond c x y,n=>match A7 pl rs x n with
   |(x',n1)=>match A7 pl rs y n1 with
    |(y',n2)=>(.cond c x' y',n2)
 | .block id b,n=>match A7 pl rs b n with |(b',n1)=>(.block id b',n1)
 | .loop b,n=>match A7 pl rs b (n+1)with |(b',n1)=>(.loop n (pl0 (plk pl n)) b',n1)
 | .exit id,n=>(.exit id (pl0 (plk pl n)),n+1)
 | .ret,n=>(.ret rs,n)
 | .label l,n=>(.label l,n)
 | .scope b,n=>match A7 pl rs b (n+1)with |(b',n1)=>(.scope n (pl0 (plk pl n)) b',n1)
 | .goto l,n=>(.goto l (pl0 (plk pl n)),n+1)
 |c,n=>(.bad c,n)
def AC.find(k:Nat):AC→Option AC
 | .seq a b=>match a.find k with |some x=>some x |none=>b.find k
 | .cond _ x y=>match x.find k with |some z=>some z |none=>y.find k
 | .block _ b=>b.find k
 | .loop n live b=>match Nat.beq n k with |true=>some (.loop n live b) |false=>b.find k
 | .cut n live out b=>match Nat.beq n k with |true=>some (.cut n live out b) |false=>b.find k
 | .scope n live b=>match Nat.beq n k with |true=>some (.scope n live b) |false=>b.find k
 |_=>none
structure Env where
 P:Program
 T:TT
 nt:Nat
 inl:Nat→Option (AC × Nat × List ResultVar)
 self:Nat→Option Nat
 wr:Nat→Nat
def Aq5(E:Env)(nt:Nat):Env:=⟨E.P,E.T,nt,E.inl,E.self,E.wr⟩
def Bmr:List (Nat × AC × Nat × List ResultVar)→Nat→Option (AC × Nat × List ResultVar)
 | [],_=>none
 |(m,x)::r,n=>match Nat.beq m n with |true=>some x |false=>Bmr r n
def Bms:List (Nat × Nat)→Nat→Option Nat
 | [],_=>none
 |(m,x)::r,n=>match Nat.beq m n with |true=>some x |false=>Bms r n
def Byo:List (Nat × Nat)→Nat→Nat
 | [],_=>0
 |(m,x)::r,n=>match Nat.beq m n with |true=>x |false=>Byo r n
def fNm:Nm→(Nm→Prop)→Prop
 | .loc t,k=>k (.loc t)
 | .cell n j,k=>fNm n fun n=>k (.cell n j)
 | .arg i,k=>k (.arg i)
 | .up n,k=>fNm n fun n=>k (.up n)
 | .sub t n,k=>fNm n fun n=>k (.sub t n)
def fIV:IV→(IV→Prop)→Prop
 | .bool b,k=>k (.bool b)
 | .int i n,k=>k (.int i n)
 | .str s,k=>k (.str s)
 | .sl i sz rows,k=>k (.sl i sz rows)
 | .agg l,k=>k (.agg l)
 | .raw v,k=>k (.raw v)
 | .ifc b,k=>k (.ifc b)
mutual
def fAV:AV→(AV→Prop)→Prop
 | .imm x,k=>fIV x fun x=>k (.imm x)
 | .ptr n o,k=>fNm n fun n=>k (.ptr n o)
 | .elt n sz i j,k=>fNm n fun n=>k (.elt n sz i j)
 | .own n,k=>fNm n fun n=>k (.own n)
 | .pin c,k=>k (.pin c)
 | .fn f caps,k=>Azj caps fun caps=>k (.fn f caps)
 | .agg l,k=>Azj l fun l=>k (.agg l)
 | .tup l,k=>Azj l fun l=>k (.tup l)
 | .when t b want a,k=>fAV a fun a=>k (.when t b want a)
 | .undef,k=>k .undef
 | .data n,k=>fNm n fun n=>k (.data n)
 | .win n sz off len,k=>fNm n fun n=>k (.win n sz off len)
 | .mp n,k=>fNm n fun n=>k (.mp n)
 | .self n,k=>fNm n fun n=>k (.self n)
 | .meth f n o,k=>fNm n fun n=>k (.meth f n o)
def Azj:List AV→(List AV→Prop)→Prop
 | [],k=>k []
 |a::r,k=>fAV a fun a=>Azj r fun r=>k (a::r)
end
def fTm:List (Nat × AV)→(List (Nat × AV)→Prop)→Prop
 | [],k=>k []
 |(t,a)::r,k=>fAV a fun a=>fTm r fun r=>k ((t,a)::r)
def Brz:Entry→(Entry→Prop)→Prop
 | .blk ty cells,k=>Azj cells fun cells=>k (.blk ty cells)
 | .arr ty w sz rows,k=>k (.arr ty w sz rows)
 | .sit s p,k=>k (.sit s p)
 | .map l,k=>k (.map l)
def fHp:Heap→(Heap→Prop)→Prop
 | [],k=>k []
 |(n,e)::r,k=>fNm n fun n=>Brz e fun e=>fHp r fun r=>k ((n,e)::r)
def fSt(st:St)(k:St→Prop):Prop:=match st with |⟨tm,hp⟩=>fTm tm fun tm=>fHp hp fun hp=>k ⟨tm,hp⟩
mutual
def AV.has(p:Nm→Bool):AV→Bool
 | .ptr n _=>p n
 | .elt n _ _ _=>p n
 | .own n=>p n
 | .fn _ caps=>AV.hasL p caps
 | .agg l=>AV.hasL p l
 | .tup l=>AV.hasL p l
 | .when _ _ _ a=>AV.has p a
 | .data n=>p n
 | .win n _ _ _=>p n
 | .mp n=>p n
 | .self n=>p n
 | .meth _ n _=>p n
 |_=>false
def AV.hasL(p:Nm→Bool):List AV→Bool
 | []=>false
 |a::r=>AV.has p a || AV.hasL p r
end
def V3(p:Nm→Bool)(a:AV):AV:=match AV.has p a with |true=> .undef |false=>a
def Ct(p:Nm→Bool):List AV→List AV
 | []=>[]
 |a::r=>V3 p a::Ct p r
def J4(p:Nm→Bool):List (Nat × AV)→List (Nat × AV)
 | []=>[]
 |(t,a)::r=>(t,V3 p a)::J4 p r
def Nw(p:Nm→Bool):Entry→Entry
 | .blk ty cells=> .blk ty (Ct p cells)
 |e=>e
def Cr(p:Nm→Bool):Heap→Heap
 | []=>[]
 |(n,e)::r=>match p n with |true=>Cr p r |false=>(n,Nw p e)::Cr p r
def rooted(d:Nat):Nm→Bool
 | .loc t=>Nat.beq t d
 | .cell n _=>rooted d n
 |_=>false
mutual
def AV.names:AV→List Nm
 | .ptr n _=>[n]
 | .elt n _ _ _=>[n]
 | .own n=>[n]
 | .fn _ caps=>AV.namesL caps
 | .agg l=>AV.namesL l
 | .tup l=>AV.namesL l
 | .when _ _ _ a=>AV.names a
 | .data n=>[n]
 | .win n _ _ _=>[n]
 | .mp n=>[n]
 | .self n=>[n]
 | .meth _ n _=>[n]
 |_=>[]
def AV.namesL:List AV→List Nm
 | []=>[]
 |a::r=>AV.names a++AV.namesL r
end
def Gz(n:Nm):List Nm→Bool
 | []=>false
 |m::r=>Nm.beq m n || Gz n r
def Bgy:Entry→List Nm
 | .blk _ cells=>AV.namesL cells
 |_=>[]
def reach(hp:Heap):Nat→List Nm→List Nm→List Nm
 |0,_,acc=>acc
 |_+1,[],acc=>acc
 |k+1,n::r,acc=>match Gz n acc with
  |true=>reach hp k r acc
  |false=>match hget hp n with
   |some e=>reach hp k (r++Bgy e) (acc++[n])
   |none=>reach hp k r acc
def Jc(hp:Heap):List Nm→Heap
 | []=>[]
 |n::r=>match hget hp n with |some e=>(n,e)::Jc hp r |none=>Jc hp r
def Bcu:List (Nat × AV)→List Nm
 | []=>[]
 |(_,a)::r=>AV.names a++Bcu r
def Auq:Heap→List Nm
 | []=>[]
 |(n,_)::r=>match n.ext with |true=>n::Auq r |false=>Auq r
def Bt9:Nm→Nat | .arg i=>i |_=>1000000
def Bt2(n:Nm):List Nm→List Nm
 | []=>[n]
 |m::r=>match Nat.ble (Bt9 n) (Bt9 m)with |true=>n::m::r |false=>m::Bt2 n r
def Bns:List Nm→List Nm
 | []=>[]
 |n::r=>Bt2 n (Bns r)
def Ab3(ns:List Nm):Heap→Heap
 | []=>[]
 |(n,e)::r=>match Gz n ns with |true=>Ab3 ns r |false=>(n,e)::Ab3 ns r
def anyC:IV→IV | .sl _ sz rows=> .sl .any sz rows |v=>v
def Auj:List IV→List IV | []=>[] |v::r=>anyC v::Auj r
def Bx5:IV→IV | .agg l=> .agg (Auj l) | .sl _ sz rows=> .sl .any sz rows |v=>v
mutual
def Ra(hp:Heap):AV→Option IV
 | .imm v=>some (Bx5 v)
 | .own n=>match hget hp n with |some (.arr _ _ sz rows)=>some (.sl .any sz rows) |_=>none
 | .agg l=>match Yf hp l with |some vs=>some (.agg vs) |none=>none
 |_=>none
def Yf(hp:Heap):List AV→Option (List IV)
 | []=>some []
 |a::r=>match Ra hp a with
  |some v=>(match Yf hp r with |some vs=>some (v::vs) |none=>none)
  |none=>none
end
def Dv(ns:List Nm):Heap→Heap
 | []=>[]
 |(n,e)::r=>match Gz n ns,e with
  |true, .arr ty _ sz rows=>(n, .arr ty false sz rows)::Dv ns r
  |_,e=>(n,e)::Dv ns r
def chunk(sz:Nat):Nat→List IV→List (List IV)
 |0,_=>[]
 |n+1,l=>l.take sz::chunk sz n (l.drop sz)
def Bx6(td:TD):Option (Nat × Nat):=match td with | .array k _ esz=>some (k,esz) |_=>none
def Au3:AV→Option Nat
 | .imm (.sl .nil sz [])=>some sz
 |_=>none
def Iu(n:Nm):List AV→Nat→List AV
 | [],_=>[]
 |a::r,j=>(match Au3 a with |some _=> .own (.cell n j) |none=>a)::Iu n r (j+1)
def B0m:CS→Nat | .sl _ e=>e+2 |_=>0
def Ic(n:Nm):List CS→List AV→Nat→Heap
 |_,[],_=>[]
 |cs,a::r,j=>match Au3 a with |some sz=>(.cell n j, .arr (match cs with |c::_=>B0m c | []=>0) true sz [])::Ic n cs.tail r (j+1) |none=>Ic n cs.tail r (j+1)
def newVar(st:St)(d ty:Nat)(sh:List CS)(cells:List AV):St:=
 let p:=rooted d
 let cs:=Ct p cells
 ⟨(d, .ptr (.loc d) 0)::J4 p st.tm,(.loc d, .blk ty (Iu (.loc d) cs 0))::(Ic (.loc d) sh cs 0++Cr p st.hp)⟩
def D9(n:Nm):List AV→Nat→Nm→Bool
 | [],_,_=>false
 |a::r,j,m=>match Au3 a with |some _=>Nm.beq (.cell n j) m || D9 n r (j+1) m |none=>D9 n r (j+1) m
def setRow(row:List IV)(j:Nat)(vs:List IV)(sz:Nat):List IV:=
 match j,Nat.beq vs.length sz with
 |0,true=>vs
 |_,_=>row.take j++vs++row.drop (j+vs.length)
def Avd:AV→Bool
 | .imm (.agg _)=>false
 | .imm (.raw v)=>match v with | .pointer _=>true | .nilFunc=>true | .nilIface=>true | .map _=>true |_=>false
 | .imm _=>true
 | .ptr _ _=>true
 | .elt _ _ _ _=>true
 | .own _=>true
 | .pin _=>true
 | .fn _ _=>true
 | .agg _=>false
 | .tup _=>false
 | .when _ _ _ _=>false
 | .undef=>false
 | .data _=>true
 | .win _ _ _ _=>true
 | .mp _=>true
 | .self _=>true
 | .meth _ _ _=>true
def Aoy:List AV→Bool
 | []=>true
 |a::r=>Avd a && Aoy r
def A0g(st:St)(d:Option Nat)(sh:List CS)(a v:AV)(K:St→Prop):Prop:=
 match a with
 | .ptr n off=>match hget st.hp n with
   |some (.blk ty cells)=>match Nat.ble (off+(flat v).length) cells.length && Aoy (flat v)with
    |true=>
     let p:=D9 n (flat v) off
     let vs:=Ct p (flat v)
     K (St.put ⟨J4 p st.tm,Ic n sh vs off++hset (Cr p st.hp) n (.blk ty (splice (Ct p cells) off (Iu n vs off)))⟩ d .undef)
    |false=>False
   |_=>False
 | .elt n sz i j=>match hget st.hp n with
   |some (.arr ty true sz' rows)=>match Nat.beq sz sz' && Aoy (flat v),toI (flat v)with
    |true,some vs=>match Nat.ble (j+vs.length) sz with
     |true=>Ag (i<rows.length) (K (St.put ⟨st.tm,hset st.hp n (.arr ty true sz (rows.set i (setRow (rows.getD i []) j vs sz)))⟩ d .undef))
     |false=>False
    |_,_=>False
   |_=>False
 |_=>False
def A8t(st:St)(d:Option Nat)(k esz:Nat)(a v:AV)(K:St→Prop):Prop:=
 match a with
 | .ptr n 0=>match hget st.hp n with
   |some (.arr ty true sz rows)=>match Nat.beq sz esz && Aoy (flat v),toI (flat v)with
    |true,some vs=>(match Nat.beq vs.length (k*esz)with
     |true=>Ag (rows.length=k) (K (St.put ⟨st.tm,hset st.hp n (.arr ty true esz (chunk esz k vs))⟩ d .undef))
     |false=>False)
    |_,_=>False
   |_=>False
 |_=>False
def Fg(st:St)(d:Nat)(n:Nm)(v:AV)(e:Entry):St:=
 let p:=Nm.beq n
 ⟨(d,v)::J4 p st.tm,(n,e)::Cr p st.hp⟩
def Aw(l:List UInt8):List (List IV):=l.map fun b=>[.int .u8 b.toNat]
def rowsOf(ti:TI)(hp:Heap)(sz:Nat)(x:AV):Option (List (List IV)):=
 match ti.td,x with
 | .slice _ _ _ _, .imm (.sl _ sz' rows)=>match Nat.beq sz sz' with |true=>some rows |false=>none
 | .slice _ _ _ _, .own n=>match hget hp n with |some (.arr _ _ sz' rows)=>(match Nat.beq sz sz' with |true=>some rows |false=>none) |_=>none
 | .str, .imm (.str s)=>match Nat.beq sz 1 with |true=>some (Aw s) |false=>none
 |_,_=>none
def Gv:Nat:=140737488355328
def Yl(T:TT)(t:Nat):Bool:=match (tl T t).td with | .missing=>false | .tuple _=>false |_=>true
def Bg2(T:TT)(st:St)(d:Nat)(ty tx:Nat)(s x:AV)(K:St→Prop):Prop:=
 match (tl T ty).td with
 | .slice elem esz eb _=>match Yl T elem with
  |false=>False
  |true=>match rowsOf (tl T tx) st.hp esz x with
   |some xs=>match s with
    | .own n=>match hget st.hp n with
      |some (.arr ty w sz rows)=>match Nat.beq sz esz && !(Nat.beq ty 1)with
       |true=>Ag ((rows.length+xs.length)*eb≤Gv∧rows.length+xs.length≤Gv) (K (Fg st d n (.own n) (.arr (match Nat.beq ty (elem+2)with |true=>elem+2 |false=>0) w esz (rows++xs))))
       |false=>False
      |_=>False
    | .imm (.sl .nil _ [])=>Ag (xs.length*eb≤Gv∧xs.length≤Gv) (K (Fg st d (.loc d) (.own (.loc d)) (.arr (elem+2) true esz xs)))
    | .imm (.sl .tight _ [])=>Ag (xs.length*eb≤Gv∧xs.length≤Gv) (K (Fg st d (.loc d) (.win (.loc d) esz 0 xs.length) (.arr 1 true esz xs)))
    |_=>False
   |none=>False
 |_=>False
def setRows(hp:Heap)(rows:List (List IV)):List (Nat × AV)→Option (List (List IV))
 | []=>some rows
 |(i,v)::r=>match Yf hp (flat v)with
  |some vs=>setRows hp (rows.set i vs) r
  |none=>none
def Azt(sz:Nat)(len:Nat):List (Nat × AV)→Bool
 | []=>true
 |(i,v)::r=>(Pd v && Aoy (flat v)) && (Nat.beq (flat v).length sz && (Nat.blt i len && Azt sz len r))
def Ue:List (Nat × AV)→List Nm
 | []=>[]
 |(_,v)::r=>AV.names v++Ue r
def Aux:Nat→Nat→Nat |0,_=>0 |_+1,e=>e+2
def Ae0(T:TT)(st:St)(d:Nat)(ty len:Nat)(parts:List (Nat × AV))(K:St→Prop):Prop:=
 match (tl T ty).td with
 | .slice elem esz _eb _=>match Yl T elem && (Nat.ble (len*esz) 4096 && Azt esz len parts),setRows st.hp (List.replicate len (tl T elem).zero) parts with
   |true,some rows=>
    K (Fg ⟨st.tm,Dv (Ue parts) st.hp⟩ d (.loc d) (.own (.loc d)) (.arr (Aux len elem) true esz rows))
   |_,_=>False
 |_=>False
mutual
def AV.ren(f:Nm→Nm):AV→AV
 | .ptr n o=> .ptr (f n) o
 | .elt n s i j=> .elt (f n) s i j
 | .own n=> .own (f n)
 | .fn g caps=> .fn g (AV.renL f caps)
 | .agg l=> .agg (AV.renL f l)
 | .tup l=> .tup (AV.renL f l)
 | .when t b w a=> .when t b w (AV.ren f a)
 | .imm v=> .imm v
 | .pin c=> .pin c
 | .undef=> .undef
 | .data n=> .data (f n)
 | .win n sz off len=> .win (f n) sz off len
 | .mp n=> .mp (f n)
 | .self n=> .self (f n)
 | .meth g n o=> .meth g (f n) o
def AV.renL(f:Nm→Nm):List AV→List AV
 | []=>[]
 |a::r=>AV.ren f a::AV.renL f r
end
def Aiu(f:Nm→Nm):Entry→Entry
 | .blk ty cells=> .blk ty (AV.renL f cells)
 |e=>e
def Lg(f:Nm→Nm):Heap→Heap
 | []=>[]
 |(n,e)::r=>(f n,Aiu f e)::Lg f r
def Aty(n:Nm):List Nm→Nat→Nm
 | [],_=> .up n
 |m::r,i=>match Nm.beq m n with |true=> .arg i |false=>Aty n r (i+1)
def Io(ns:List Nm)(n:Nm):Nm:=Aty n ns 0
def Azz(d:Nm):List Nm→Nat→Nm
 | [],_=>d
 |m::_,0=>m
 |_::r,i+1=>Azz d r i
def A0o(ns:List Nm)(d:Nat):Nm→Nm
 | .arg i=>Azz (.sub d (.arg i)) ns i
 | .loc t=> .sub d (.loc t)
 | .cell n j=> .sub d (.cell n j)
 | .up n=> .sub d (.up n)
 | .sub t n=> .sub d (.sub t n)
def Acc(d:Nat):Nm→Bool
 | .sub t _=>Nat.beq t d
 | .cell n _=>Acc d n
 | .loc _=>false
 | .arg _=>false
 | .up _=>false
def A0l(h:Heap)(n:Nm):Bool:=match hget h n with |some (.arr ty _ _ _)=> !(Nat.beq ty 1) |_=>false
def Bl7(p:Nm→Bool):List Nm→Bool
 | []=>true
 |n::r=>p n && Bl7 p r
def Bz7(old new:AV):AV:=
 match old with
 | .imm (.bool _)=> .imm (.bool (rB new))
 | .imm (.int k _)=> .imm (.int k (rI new))
 | .imm (.str _)=> .imm (.str (rS new))
 | .imm (.sl _ sz _)=> .imm (.sl .any sz (rR new))
 | .imm (.ifc _)=> .imm (.ifc (rN new))
 | .imm (.raw _)=> .imm (.raw (rV new))
 |a=>a
def Bp9:List AV→List AV→Nat→List AV
 | [],_,_=>[]
 |o::r,l,j=>Bz7 o (l.getD j .undef)::Bp9 r l (j+1)
def Au(h:Heap)(n:Nm):List AV:=match hget h n with |some (.blk _ cells)=>cells |_=>[]
def Cq(h:Heap)(n:Nm):List (List IV):=match hget h n with |some (.arr _ _ _ rows)=>rows |_=>[]
def mapOf(h:Heap)(n:Nm):List (List UInt8 × Int):=match hget h n with |some (.map l)=>l |_=>[]
def Sc(h':Heap):Heap→Heap
 | []=>[]
 |(n, .blk ty cells)::r=>(n, .blk ty (Bp9 cells (Au h' n) 0))::Sc h' r
 |(n, .arr ty w sz _rows)::r=>(n, .arr ty w sz (Cq h' n))::Sc h' r
 |(n, .map _)::r=>(n, .map (mapOf h' n))::Sc h' r
 |(n,e)::r=>(n,e)::Sc h' r
def Hm(hp:Heap):List AV→List AV
 | []=>[]
 |a::r=>(match Ra hp a with |some v=> .imm v |none=>a)::Hm hp r
def Cv(hp:Heap):List AV→List Nm
 | []=>[]
 |a::r=>(match Ra hp a with |some _v=>AV.names a |none=>[])++Cv hp r
def A0b:Nat:=1000000
def As0(t:Nat)(st:St):St:=match lk st.tm t with
 | .own n=>(match hget st.hp n with
   |some (.arr _ _ sz rows)=>⟨(t, .imm (.sl .any sz rows))::st.tm,Dv [n] st.hp⟩
   |_=>st)
 | .ptr n _=>(match hget st.hp n with
   |some (.blk ty cells)=>⟨st.tm,hset (Dv (Cv st.hp cells) st.hp) n (.blk ty (Hm st.hp cells))⟩
   |_=>st)
 |_=>st
def Lb:List Nat→St→St
 | [],st=>st
 |t::r,st=>match Nat.ble A0b t with |true=>Lb r (As0 (t - A0b) st) |false=>Lb r st
def Alt(tm:List (Nat × AV)):List Nat→List (Nat × AV)
 | []=>[]
 |t::r=>match Nat.ble A0b t with |true=>(t - A0b,lk tm (t - A0b))::Alt tm r |false=>(t,lk tm t)::Alt tm r
def Aqj(n:Nm):Entry→Entry
 | .blk ty [.imm (.raw (.pointer none)), .own m]=> .blk ty [.self n, .own m]
 | .blk ty [.ptr k 0, .own m]=>(match Nm.beq k n with |true=> .blk ty [.self n, .own m] |false=> .blk ty [.ptr k 0, .own m])
 |e=>e
def Al1:Heap→Heap
 | []=>[]
 |(n,e)::r=>(n,Aqj n e)::Al1 r
def mask(live:List Nat)(st:St):St:=
 let st:=Lb live st
 let tm:=Alt st.tm live
 let hp:=Al1 st.hp
 ⟨tm,Jc hp (reach hp 400 (Bcu tm++Bns (Auq hp)) [])⟩
abbrev Jk:=AC→Nat→List ResultVar→List AV→Heap→(AV→Heap→Prop)→Prop
def Byh:Option Nat→Nat |some d=>d |none=>0
def Atb(hp:Heap):List Nm→List Nm
 | []=>[]
 |n::r=>match hget hp n with |some (.arr _ _ _ _)=>Atb hp r |_=>n::Atb hp r
def handed(shy:Bool)(hp:Heap)(ns:List Nm):List Nm:=match shy with |true=>Atb hp ns |false=>ns
def A8g(k:Nat):List Nm→List Nm→List Nm
 |acc,[]=>acc
 |acc,n::r=>match Gz n acc || Acc k n with |true=>A8g k acc r |false=>A8g k (acc++[n]) r
def Bc4:Heap→List Nm
 | []=>[]
 |(_,e)::r=>Bgy e++Bc4 r
def Bo9(k:Nat)(hp:Heap)(l:List Nm):List Nm:=A8g k (reach hp 400 l []) (Bc4 (Jc hp (reach hp 400 l []))++l)
def Yd(shy:Bool)(C:List AV→Heap→(AV→Heap→Prop)→Prop)(hp:Heap)(tm:List (Nat × AV))(d:Option Nat)(args:List AV)(Q:Heap→AV→Heap→(AV→Heap→Prop)→Prop)(K:St→Prop):Prop:=
 let k:=Byh d
 let ns:=Bo9 k hp (AV.namesL args)
 let ms:=handed shy hp ns
 let h0:=Lg (Io ns) (Jc hp ms)
 let p:=fun n=>(Gz n ms && A0l hp n) || Acc k n
 match Bl7 (fun n=> !(Acc k n)) ns with
 |true=>C (AV.renL (Io ns) args) h0 fun r h'=>Q h0 r h' fun r h'=>K (St.put ⟨J4 p tm,Lg (A0o ns k) h'++Cr p (Ab3 ms hp)⟩ d (noW (AV.ren (A0o ns k) r)))
 |false=>False
def Bg5(st:St)(d:Option Nat)(bt:Nat)(args:List AV)(K:St→Prop):Prop:=
 match args with
 | [.ptr n 0]=>match hget st.hp n with
   |some (.blk ty [a,c])=>match Nat.beq ty bt,a with
    |true, .imm (.raw (.pointer none))=>K (St.put ⟨st.tm,hset st.hp n (.blk ty [.ptr n 0,c])⟩ d (.tup []))
    |true, .ptr m 0=>match Nm.beq n m with |true=>K (St.put st d (.tup [])) |false=>False
    |true, .self m=>match Nm.beq n m with |true=>K (St.put ⟨st.tm,hset st.hp n (.blk ty [.self n,c])⟩ d (.tup [])) |false=>False
    |_,_=>False
   |_=>False
 |_=>False
def Bcm:Entry→Entry
 | .arr _ true sz rows=> .arr 1 true sz rows
 |e=>e
def A51(ns:List Nm):Heap→Heap
 | []=>[]
 |(n,e)::r=>(n,match Gz n ns with |true=>Bcm e |false=>e)::A51 ns r
def rWo(r:AV):Nat:=match r with | .win _ _ o _=>o |_=>0
def rWl(r:AV):Nat:=match r with | .win _ _ _ l=>l |_=>0
def Bud(T:TT)(ty:Nat)(r:AV):AV:=match (tl T ty).td with | .slice _ esz _ _=> .win (.arg 0) esz (rWo r) (rWl r) |_=>Na T ty r
def By0:AV→Bool | .own _=>true | .tup l=>(match l with | .own _::_=>true |_=>false) |_=>false
def Bz4(T:TT)(ty:Nat):Nat:=match (tl T ty).td with
 | .slice _ esz _ _=>esz
 | .tuple ts=>(match ts with |t::_=>(match (tl T t).td with | .slice _ esz _ _=>esz |_=>0) | []=>0)
 |_=>0
def Bfn(T:TT)(ty:Nat)(r:AV):AV:=match (tl T ty).td with
 | .tuple ts=>(match ts with |_::ts=> .tup (.own (.loc 0)::A9j T ts r 1) | []=> .undef)
 |_=> .own (.loc 0)
def A9e(T:TT)(ty:Nat)(h':Heap):Heap:=[(.loc 0, .arr 0 true (Bz4 T ty) (Cq h' (.loc 0)))]
def A8r(E:Env)(H:Jk)(st:St)(d:Option Nat)(ty:Nat)(f:Nat)(args:List AV)(K:St→Prop):Prop:=
 match E.self f with
 |some bt=>Bg5 st d bt args K
 |none=>
 match E.inl f with
 |some (ac,nt,rs)=>Yd false (H ac nt rs) st.hp st.tm d args (fun _ r h' k=>k r h') K
 |none=>
  match E.wr f with
  |1=>Yd false (Call E.P f) (A51 (AV.namesL args) st.hp) st.tm d args (fun h0 r h' k=>Ag (h'=Sc h' h0∧r=Bud E.T ty r) (k (Bud E.T ty r) (Sc h' h0))) K
  |2=>Yd false (Call E.P f) (Dv (Cv st.hp args) st.hp) st.tm d (Hm st.hp args) (fun h0 r h' k=>
    Ag (h'=Sc h' h0++A9e E.T ty h'∧r=Bfn E.T ty r) (k (Bfn E.T ty r) (Sc h' h0++A9e E.T ty h'))) K
  |4=>Yd true (Call E.P f) (Dv (Cv st.hp args) st.hp) st.tm d (Hm st.hp args) (fun h0 r h' k=>Ag (h'=Sc h' h0∧r=Na E.T ty r) (k (Na E.T ty r) (Sc h' h0))) K
  |_+3=>Yd false (Call E.P f) (Dv (Cv st.hp args) st.hp) st.tm d (Hm st.hp args) (fun h0 r h' k=>Br (By0 r)
    (Ag (h'=Sc h' h0++A9e E.T ty h'∧r=Bfn E.T ty r) (k (Bfn E.T ty r) (Sc h' h0++A9e E.T ty h')))
    (Ag (h'=Sc h' h0∧r=Na E.T ty r) (k (Na E.T ty r) (Sc h' h0)))) K
  |0=>
   match Yf st.hp args with
   |some ivs=>Call E.P f (Dw ivs) [] fun r h'=>Ag (h'=[]∧r=Na E.T ty r) (K (St.put ⟨st.tm,Dv (AV.namesL args) st.hp⟩ d (Na E.T ty r)))
   |none=>Yd false (Call E.P f) (Dv (Cv st.hp args) st.hp) st.tm d (Hm st.hp args) (fun h0 r h' k=>Ag (h'=Sc h' h0∧r=Na E.T ty r) (k (Na E.T ty r) (Sc h' h0))) K
def Kj(z:List IV)(off len:Nat)(rows:List (List IV)):List (List IV):=rows.take off++List.replicate len z++rows.drop (off+len)
def Bk6(T:TT)(st:St)(d:Option Nat)(t:Nat)(x:AV)(K:St→Prop):Prop:=
 match (tl T t).td,x with
 | .slice elem esz _ _, .win n sz off len=>match hget st.hp n,Nat.beq sz esz && Yl T elem with
   |some (.arr ty true sz' rows),true=>(match Nat.beq sz' esz with
    |true=>K (St.put ⟨st.tm,hset st.hp n (.arr ty true esz (Kj (tl T elem).zero off len rows))⟩ d (.tup []))
    |false=>False)
   |_,_=>False
 |_,_=>False
def Gt(s:List UInt8)(pos:Nat):Nat × Nat:=Utf8.decode ⟨s.toArray⟩ pos
def Aup(ti:TI)(st:St)(d:Nat)(x:AV)(lo hi mx:Option AV)(K:St→Prop):Prop:=
 match x with
 | .own n=>match hget st.hp n,ti.td with
   |some (.arr _ _ sz rows), .slice _ esz _ _=>match Aiv rows.length lo hi mx,Nat.beq sz esz with
    |some (c,l,h),true=>Ag c (K (St.put ⟨st.tm,Dv [n] st.hp⟩ (some d) (.imm (.sl .any sz (Bbe lo hi l h rows)))))
    |_,_=>False
   |_,_=>False
 |_=>False
def Agz(st:St)(d e:Nat)(x n:AV)(K:St→Prop):Prop:=
 match x,n with
 | .data nm, .imm (.int .i64 len)=>match hget st.hp nm with
   |some (.arr ty _ 1 rows)=>(match Nat.beq ty (e+2)with
    |true=>Ag ((len=rows.length∧rows.length≤9223372036854775807)∧(∀r,r∈rows→Be [.int .u8] r=true)) (K (St.put ⟨st.tm,Dv [nm] st.hp⟩ (some d) (.imm (.str (rows.map fun r=>UInt8.ofNat (gI r 0).toNat)))))
    |false=>False)
   |_=>False
 |_,_=>False
def Auo(neg:Bool)(st:St)(d:Nat)(x:AV)(K:St→Prop):Prop:=
 match x with
 | .imm (.sl _ _ rows)=>Bly (rows=[]) (K (St.put st (some d) (.imm (.bool (!neg))))) (K (St.put st (some d) (.imm (.bool neg))))
 | .own n=>match hget st.hp n with
   |some (.arr _ _ _ rows)=>Bly (rows=[]) (K (St.put st (some d) (.imm (.bool (!neg))))) (K (St.put st (some d) (.imm (.bool neg))))
   |_=>False
 |_=>False
def Alp(E:Env)(H:Option Jk)(st:St)(o:Oper)(K:St→Prop):Prop:=
 match H with
 |none=>False
 |some H=>
 let e (ty:Nat) (x:Operand):AV:=strip none (ev E.T st.tm ty x)
 match o.op,o.dst with
 | .assign x,some d=>match e o.type x with
   | .imm (.sl .nil sz [])=>K (Fg st d (.loc d) (.own (.loc d)) (.arr (match (tl E.T o.type).td with | .slice e _ _ _=>e+2 |_=>0) true sz []))
   |_=>False
 | .binOp .eql xt x y _,some d=>match Afj y,(tl E.T xt).td with
   |true, .slice _ _ _ _=>Auo false st d (e xt x) K
   |_,_=>False
 | .binOp .neq xt x y _,some d=>match Afj y,(tl E.T xt).td with
   |true, .slice _ _ _ _=>Auo true st d (e xt x) K
   |_,_=>False
 | .alloc t,some d=>match Yl E.T t with
   |true=>(match Bx6 (tl E.T t).td with
    |some (k,esz)=>(match Nat.beq (tl E.T t).zero.length (k*esz)with
     |true=>K (Fg st d (.loc d) (.ptr (.loc d) 0) (.arr 1 true esz (chunk esz k (tl E.T t).zero)))
     |false=>False)
    |none=>K (newVar st d t (tl E.T t).sh (Dw (tl E.T t).zero)))
   |false=>False
 | .box t x,some d=>match Pd (e t x) && Nat.beq (flat (e t x)).length (tl E.T t).size with
   |true=>K (newVar st d t (tl E.T t).sh (flat (e t x)))
   |false=>False
 | .store t a x,d=>match Yl E.T t && (Pd (e t x) && Nat.beq (flat (e t x)).length (tl E.T t).size)with
   |true=>(match Bx6 (tl E.T t).td with
    |some (k,esz)=>A8t st d k esz (e 0 a) (e t x) K
    |none=>A0g st d (tl E.T t).sh (e 0 a) (e t x) K)
   |false=>False
 | .buildSlice t len parts,some d=>Ae0 E.T st d t len (Pn none (Lc E.T st.tm 0 parts.toList)) K
 | .call ⟨.builtin .append,args,ts⟩,some d=>match args.toList,ts.toList with
   | [s,x],[t,u]=>Bg2 E.T st d t u (e t s) (e u x) K
   |_,_=>False
 | .convert s t x,some d=>match (tl E.T s).td,(tl E.T t).td,e s x with
   | .str, .slice elem _ _ _, .imm (.str l)=>match (tl E.T elem).td with
     | .int .u8=>Ag (l.length≤Gv) (K (Fg st d (.loc d) (.own (.loc d)) (.arr 0 true 1 (Aw l))))
     |_=>False
   |_,_,_=>False
 | .range t x,some d=>match (tl E.T t).td,e t x with
   | .str, .imm (.str s)=>K (Fg st d (.loc d) (.ptr (.loc d) 0) (.sit s 0))
   |_,_=>False
 | .makeMap t none,some d=>match (tl E.T t).td with
   | .map=>K (Fg st d (.loc d) (.mp (.loc d)) (.map []))
   |_=>False
 | .mapUpdate t m k x,d=>match (tl E.T t).td,e t m,e 0 k,e 0 x with
   | .map, .mp n, .imm (.str s), .imm (.int .i64 v)=>match hget st.hp n with
     |some (.map l)=>K (St.put ⟨st.tm,hset st.hp n (.map (mUp l s v))⟩ d .undef)
     |_=>False
   |_,_,_,_=>False
 | .next it true,some d=>match e 0 it with
   | .ptr n 0=>match hget st.hp n with
     |some (.sit s pos)=>Br (decide (pos<s.length))
      (K ⟨(d, .tup [.imm (.bool true), .imm (.int .i64 pos), .imm (.int .i32 (Gt s pos).1)])::st.tm,hset st.hp n (.sit s (pos+(Gt s pos).2))⟩)
      (K ⟨(d, .tup [.imm (.bool false)])::st.tm,st.hp⟩)
     |_=>False
   |_=>False
 | .slice t x lo hi mx,some d=>Aup (tl E.T t) st d (e t x) (Ik none (L6 E.T st.tm lo)) (Ik none (L6 E.T st.tm hi)) (Ik none (L6 E.T st.tm mx)) K
 | .call ⟨.builtin .unsafeString,args,ts⟩,some d=>match args.toList,ts.toList with
   | [x,n],[t,u]=>(match (tl E.T t).td with
     | .pointer b=>(match (tl E.T b).td with | .int .u8=>Agz st d b (e t x) (e u n) K |_=>False)
     |_=>False)
   |_,_=>False
 | .call ⟨.builtin .clear,args,ts⟩,d=>match args.toList,ts.toList with
   | [x],[t]=>Bk6 E.T st d t (e t x) K
   |_,_=>False
 | .call ⟨.value f,args,ts⟩,d=>match e 0 f,Nat.beq args.toList.length ts.toList.length with
   | .fn f caps,true=>A8r E H st d o.type f (stripL none (evs E.T st.tm args.toList ts.toList)++caps) K
   | .meth f n off,true=>A8r E H st d o.type f (.ptr n off::stripL none (evs E.T st.tm args.toList ts.toList)) K
   |_,_=>False
 |_,_=>False
def Aqk:AV:= .imm (.raw (.tuple ⟨[]⟩))
def A0t(t:Nat)(b:Bool):AV→AV
 | .when t' b' want a=>(match Nat.beq t t' with
  |true=>(match Bool.xor b want with |false=>a |true=>Aqk)
  |false=> .when t' b' want a)
 | .imm v=> .imm v
 | .ptr n o=> .ptr n o
 | .elt n s i j=> .elt n s i j
 | .own n=> .own n
 | .pin c=> .pin c
 | .fn f c=> .fn f c
 | .agg l=> .agg l
 | .tup l=> .tup l
 | .undef=> .undef
 | .data n=> .data n
 | .win n sz off len=> .win n sz off len
 | .mp n=> .mp n
 | .self n=> .self n
 | .meth f n o=> .meth f n o
def Bcq(t:Nat)(b:Bool):List (Nat × AV)→List (Nat × AV)
 | []=>[]
 |(u,a)::r=>(u,A0t t b a)::Bcq t b r
def Ab4:List (Nat × AV)→List (Nat × AV)
 | []=>[]
 |(u,a)::r=>(u,Ah8 (noW a))::Ab4 r
def Rc(nt:Nat):Option Nat→Bool |none=>true |some d=>Nat.blt d nt
def Alu(t:Nat)(b:Bool)(st:St):St:=⟨(t, .imm (.raw (.bool b)))::Bcq t b st.tm,st.hp⟩
def named:Op→Bool
 | .pick _ _ _=>true
 | .slice _ _ _ _ _=>true
 |_=>false
def Ahf(o:Op)(v:AV)(K:AV→Prop):Prop:=
 match named o,v with
 |true, .imm (.bool b)=>Let b fun b=>K (.imm (.bool b))
 |true, .imm (.str s)=>Let s fun s=>K (.imm (.str s))
 |_,v=>fAV v K
def noH:Option Jk→Bool |none=>true |some _=>false
def A0d(E:Env)(H:Option Jk)(o:Oper)(t:Nat)(want b:Bool)(st:St)(K:St→Prop):Prop:=
 match Ae2 E.T (noH H) (some (t,want)) st o with
 |some (.ok v)=>Ahf o.op (noW v) fun v=>K (st.put o.dst (.when t b want v))
 |some (.req c v)=>Ag (b=want→c) (Ahf o.op (noW v) fun v=>K (st.put o.dst (.when t b want v)))
 |some .bad=>False
 |none=>Br (b == want) (fSt (Alu t want st) fun st=>Alp E H st o fun st=>fSt st K) (fSt ((Alu t (!want) st).put o.dst Aqk) K)
def Bk7(E:Env)(H:Option Jk)(o:Oper)(t:Nat)(want:Bool)(st:St)(K:St→Prop):Prop:=
 match Ae2 E.T (noH H) (some (t,want)) st o with
 |some (.ok v)=>Ahf o.op (noW v) fun v=>K (st.put o.dst v)
 |some (.req c v)=>Ag c (Ahf o.op (noW v) fun v=>K (st.put o.dst v))
 |some .bad=>False
 |none=>Alp E H st o fun st=>fSt st K
def Bs0:Value→Option (Option Bool)
 | .tuple ⟨[]⟩=>some none
 | .bool b=>some (some b)
 |_=>none
def Bml(E:Env)(H:Option Jk)(all:List Oper)(o:Oper)(st:St)(K:St→Prop):Prop:=
 match Rc E.nt o.dst with
 |false=>False
 |true=>
 match o.guard with
 |none=>match Ae2 E.T (noH H) none st o with
  |some (.ok v)=>Ahf o.op (noW v) fun v=>K (st.put o.dst v)
  |some (.req c v)=>Ag c (Ahf o.op (noW v) fun v=>K (st.put o.dst v))
  |some .bad=>False
  |none=>Alp E H st o fun st=>fSt st K
 |some (j,want)=>match all[j]? with
  |some oj=>match oj.dst with
   |some t=>match lk st.tm t with
    | .imm (.bool b)=>A0d E H o t want b st K
    | .imm (.raw v)=>match Bs0 v with
      |some none=>K (st.put o.dst Aqk)
      |some (some b)=>(match Bool.xor b want with |true=>K (st.put o.dst Aqk) |false=>Bk7 E H o t want st K)
      |none=>False
    | .when t' b' w' (.imm (.bool b))=>Br (b' == w') (fSt (Alu t' w' st) fun st=>A0d E H o t want b st K) (fSt ((Alu t' (!w') st).put o.dst Aqk) K)
    |_=>False
   |none=>False
  |none=>False
def Ae1(E:Env)(H:Option Jk)(all:List Oper):List Oper→St→(St→Prop)→Prop
 | [],st,K=>K st
 |o::r,st,K=>Bml E H all o st fun st=>Ae1 E H all r st K
def Yj:List Oper→Bool
 | []=>false
 |o::r=>(match o.guard with |some _=>true |none=>false) || Yj r
def Aey(t:Nat):List Oper→Nat
 | []=>0
 |o::r=>(match o.dst with |some d=>(match Nat.beq d t with |true=>1 |false=>0) |none=>0)+Aey t r
def Ff(all:List Oper):List Oper→Bool
 | []=>true
 |o::r=>(match o.guard with
   |none=>true
   |some (j,_)=>match all[j]? with
    |some oj=>(match oj.dst with |some t=>Nat.beq (Aey t (o::r)) 0 |none=>false)
    |none=>false) && Ff all r
def Bzx:Oper→Bool
 |o=>match o.op with
  | .alloc _=>true
  | .box _ _=>true
  | .store _ _ _=>true
  | .buildSlice _ _ _=>true
  | .range _ _=>true
  | .next _ _=>true
  | .makeMap _ _=>true
  | .mapUpdate _ _ _ _=>true
  | .call ⟨.value _,_,_⟩=>true
  | .call ⟨.builtin .append,_,_⟩=>true
  | .call ⟨.builtin .clear,_,_⟩=>true
  | .call ⟨.builtin .unsafeString,_,_⟩=>true
  |_=>false
def Bg8:List Oper→Nat→Option Nat
 | [],_=>none
 |o::r,n=>match Bzx o with |true=>some n |false=>Bg8 r (n+1)
def Bg6(E:Env)(H:Jk)(ops:List Oper)(n:Nat)(st:St)(K:St→Prop):Prop:=
 match Yj ops with
 |false=>Ae1 E none ops (ops.take n) st fun st=>Ae1 E (some H) ops (ops.drop n) st K
 |true=>match Ff ops ops with
  |true=>Ae1 E none ops (ops.take n) st fun st=>Ae1 E (some H) ops (ops.drop n) st fun st=>fSt ⟨Ab4 st.tm,st.hp⟩ K
  |false=>False
def Agy(E:Env)(H:Option Jk)(ops:List Oper)(st:St)(K:St→Prop):Prop:=
 match Yj ops with
 |false=>Ae1 E H ops ops st K
 |true=>match Ff ops ops with
  |true=>Ae1 E H ops ops st fun st=>fSt ⟨Ab4 st.tm,st.hp⟩ K
  |false=>False
def A8j(T:TT):List Nat→Bool
 | []=>false
 |t::r=>(match (tl T t).td with | .pointer _=>true |_=>false) || A8j T r
def Brl(T:TT)(pc fa:Bool)(o:Oper):Nat:=match o.guard with
 |some _=>3
 |none=>match o.op with
  | .move _=>0
  | .assign x=>(match Afj x with |true=>3 |false=>0)
  | .binOp _ _ _ y _=>(match Afj y with |true=>3 |false=>0)
  | .unOp _ _ _=>0
  | .fieldAddr _ _ _=>(match fa with |true=>0 |false=>1)
  | .index _ _ _=>0
  | .slice t _ _ _ _=>(match (tl T t).td with | .str=>0 |_=>1)
  | .load _ _=>1
  | .lookup _ _ _ false=>1
  | .indexAddr _ _ _=>1
  | .extract _ _=>1
  | .field _ _ _=>1
  | .build _ _=>1
  | .nilCheck _=>1
  | .makeFunc _ _ _=>1
  | .convert s d _=>(match (tl T s).td,(tl T d).td with | .str, .slice .. =>3 |_,_=>1)
  | .call ⟨.builtin .len,_,_⟩=>1
  | .call ⟨.builtin .max,_,_⟩=>1
  | .call ⟨.builtin .min,_,_⟩=>1
  | .buildSlice _ _ _=>2
  | .call ⟨.value _,_,ts⟩=>(match pc && !(A8j T ts.toList)with |true=>2 |false=>3)
  |_=>3
def Bba(T:TT)(v:Bool × Bool)(ops:Array Oper)(k:Nat):Nat:=match ops[k]? with |some o=>Brl T v.1 v.2 o |none=>3
def Bub(cl:Nat→Nat):List Nat→Option Nat
 | []=>none
 |k::r=>match cl k with |0=>some k |1=>some k |_=>Bub cl r
def Ave(ops:Array Oper)(cl:Nat→Nat):Nat→Array Bool→List Nat
 |0,_=>[]
 |f+1,listed=>match Region.ready .any ops listed with
  | []=>[]
  |k0::r=>(match Bub cl (k0::r)with
   |some k=>k::Ave ops cl f (listed.setIfInBounds k true)
   |none=>k0::Ave ops cl f (listed.setIfInBounds k0 true))
def Bgt:IV→Bool
 | .int _ _=>true
 | .bool _=>true
 | .str _=>true
 | .sl .nil _ []=>true
 |_=>false
def Bgu:List IV→Bool
 | []=>true
 |v::r=>Bgt v && Bgu r
def Brq:AV→Bool
 | .imm v=>Bgt v
 | .ptr _ _=>true
 | .own _=>true
 |_=>false
def A8p:List AV→Bool
 | []=>true
 |v::r=>Brq v && A8p r
def Bgv:AV→Bool
 | .imm v=>(match v with | .agg l=>Bgu l |v=>Bgt v)
 | .ptr _ _=>true
 | .elt _ _ _ _=>true
 | .own _=>true
 | .agg l=>A8p l
 |_=>false
def A0m(T:TT)(st:St)(o:Oper):PR:=
 let e (ty:Nat) (x:Operand):AV:=strip none (ev T st.tm ty x)
 match o.op with
 | .binOp op xt x y yt=>(match Afj y with |true=> .bad |false=>Bfh (isConst x || isConst y) (tl T xt) op (e xt x) (e yt y))
 | .unOp op xt x=>Bmm op (e xt x)
 | .fieldAddr t x j=>Ahz (tl T t) (e t x) j
 | .index t x i=>A0e (tl T t) (e t x) (e t i)
 | .slice t x lo hi mx=>(match e t x with
   | .imm (.str s)=>Adh (tl T t) [] false (.imm (.str s)) (Ik none (L6 T st.tm lo)) (Ik none (L6 T st.tm hi)) (Ik none (L6 T st.tm mx))
   |_=> .bad)
 | .build t parts=>A0c (tl T t) (Pn none (Lc T st.tm 0 parts.toList))
 | .nilCheck x=>Aqe (e 0 x)
 |_=> .bad
def As3(E:Env)(st:St)(o:Oper)(K:St→Prop):Prop:=
 match o.guard,Rc E.nt o.dst with
 |none,true=>match o.op with
  | .move x=>fAV (noW (strip none (ev E.T st.tm o.type x))) fun v=>K (st.put o.dst v)
  | .assign x=>fAV (noW (strip none (ev E.T st.tm o.type x))) fun v=>K (st.put o.dst v)
  |_=>match A0m E.T st o with
   | .ok v=>(match Bgv v with |true=>Ahf o.op (noW v) fun v=>K (st.put o.dst v) |false=>False)
   | .req c v=>(match Bgv v with |true=>Ag c (Ahf o.op (noW v) fun v=>K (st.put o.dst v)) |false=>False)
   | .bad=>False
 |_,_=>False
def A0f(E:Env)(st:St)(o:Oper)(K:St→Prop):Prop:=
 match o.guard,Rc E.nt o.dst with
 |none,true=>match Ae2 E.T false none st o with
  |some (.ok v)=>Ahf o.op (noW v) fun v=>K (st.put o.dst v)
  |some (.req c v)=>Ag c (Ahf o.op (noW v) fun v=>K (st.put o.dst v))
  |_=>False
 |_,_=>False
def As4(E:Env)(st:St)(o:Oper)(K:St→Prop):Prop:=
 let e (ty:Nat) (x:Operand):AV:=strip none (ev E.T st.tm ty x)
 match o.guard,Rc E.nt o.dst with
 |none,true=>match o.op,o.dst with
  | .buildSlice t len parts,some d=>Ae0 E.T st d t len (Pn none (Lc E.T st.tm 0 parts.toList)) K
  | .call ⟨.value f,args,ts⟩,d=>(match e 0 f,Nat.beq args.toList.length ts.toList.length with
    | .fn f caps,true=>(match E.self f,E.inl f,E.wr f,Yf st.hp (stripL none (evs E.T st.tm args.toList ts.toList)++caps)with
      |none,none,0,some ivs=>Call E.P f (Dw ivs) [] fun r h'=>Ag (h'=[]∧r=Na E.T o.type r) (K (St.put ⟨st.tm,Dv (AV.namesL (stripL none (evs E.T st.tm args.toList ts.toList)++caps)) st.hp⟩ d (Na E.T o.type r)))
      |_,_,_,_=>False)
    |_,_=>False)
  |_,_=>False
 |_,_=>False
def Alq(E:Env)(H:Jk)(ops:List Oper)(cl:Nat→Nat):List Nat→St→(St→Prop)→Prop
 | [],st,K=>K st
 |k::r,st,K=>match ops[k]? with
  |none=>False
  |some o=>match cl k with
   |0=>As3 E st o fun st=>Alq E H ops cl r st K
   |1=>A0f E st o fun st=>Alq E H ops cl r st K
   |2=>As4 E st o fun st=>fSt st fun st=>Alq E H ops cl r st K
   |_=>match o.guard,Rc E.nt o.dst with
    |none,true=>Alp E (some H) st o fun st=>fSt st fun st=>Alq E H ops cl r st K
    |_,_=>False
def Bmi(t:Nat):List Oper→Option Op
 | []=>none
 |o::r=>match o.dst with |some d=>(match Nat.beq d t with |true=>some o.op |false=>Bmi t r) |none=>Bmi t r
def Buc:AV→Option Nm | .ptr n _=>some n |_=>none
def A5e(st:St)(ops:List Oper):List Oper→List Nm
 | []=>[]
 |o::r=>(match o.op with
  | .store _ (.tmp t) _=>(match Bmi t ops with
    |some (.fieldAddr _ (.tmp u) _)=>(match Buc (lk st.tm u)with |some n=>[n] |none=>[])
    |some _=>[]
    |none=>(match Buc (lk st.tm t)with |some n=>[n] |none=>[]))
  |_=>[])++A5e st ops r
def Bff(T:TT)(ops:Array Oper)(k:Nat):Nat:=match ops[k]? with
 |some o=>(match o.guard,o.op with
  |none, .load _ _=>1
  |none, .store _ _ _=>2
  |none, .build _ _=>0
  |none, .nilCheck _=>0
  |none, .call ⟨.value _,_,ts⟩=>(match A8j T ts.toList with |true=>3 |false=>2)
  |_,_=>Brl T false true o)
 |none=>3
def Blf:Nm→Bool | .cell _ _=>true |_=>false
def A8i(hp:Heap):List Nm→Bool
 | []=>true
 |n::r=>(match hget hp n with |some (.blk _ _)=> !(Blf n) |_=>false) && A8i hp r
def Bo0(E:Env)(ns:List Nm)(st:St)(o:Oper)(K:St→Prop):Prop:=
 match o.guard,Rc E.nt o.dst,o.op with
 |none,true, .load t a=>match strip none (ev E.T st.tm t a)with
  | .ptr n off=>(match Gz n ns,A8i st.hp ns,hget st.hp n,Aiw (tl E.T t) st.hp (.ptr n off)with
    |false,true,some (.blk _ _), .ok v=>Ahf o.op (noW v) fun v=>K (st.put o.dst v)
    |_,_,_,_=>False)
  |_=>False
 |_,_,_=>False
def Bo1(E:Env)(ns:List Nm)(st:St)(o:Oper)(K:St→Prop):Prop:=
 match o.guard,Rc E.nt o.dst,o.op with
 |none,true, .store t a x=>match strip none (ev E.T st.tm 0 a),Yl E.T t && (Pd (strip none (ev E.T st.tm t x)) && Nat.beq (flat (strip none (ev E.T st.tm t x))).length (tl E.T t).size)with
  | .ptr n off,true=>(match Gz n ns && !(Blf n)with
    |true=>A0g st o.dst (tl E.T t).sh (.ptr n off) (strip none (ev E.T st.tm t x)) K
    |false=>False)
  |_,_=>False
 |_,_,_=>False
def Boz(E:Env)(ns:List Nm)(st:St)(o:Oper)(K:St→Prop):Prop:=
 match o.op with
 | .call ⟨.value _,_,_⟩=>As4 E st o K
 |_=>Bo1 E ns st o K
def Aun(E:Env)(ns:List Nm)(ops:List Oper)(cl:Nat→Nat):List Nat→St→(St→Prop)→Prop
 | [],st,K=>K st
 |k::r,st,K=>match ops[k]? with
  |none=>False
  |some o=>match cl k with
   |0=>As3 E st o fun st=>Aun E ns ops cl r st K
   |1=>Bo0 E ns st o fun st=>Aun E ns ops cl r st K
   |2=>Boz E ns st o fun st=>fSt st fun st=>Aun E ns ops cl r st K
   |_=>False
def Brc:List Nat→(Nat→Prop)→Prop
 | [],_=>True
 |k::r,F=>match r with | []=>F k |_=>F k∧Brc r F
def unG(o:Oper):Oper:= { o with guard:=none }
def Bfe(E:Env)(ops:Array Oper)(k:Nat):Nat:=match ops[k]? with
 |some o=>(match o.op with
  | .pick _ _ _=>1
  | .call ⟨.value f,_args,ts⟩=>(match f,A8j E.T ts.toList with
    | .func f,false=>(match E.inl f,E.wr f with |none,0=>2 |_,_=>3)
    |_,_=>3)
  |_=>Brl E.T false true (unG o))
 |none=>3
def Bt3(k:Nat):List Oper→Bool
 | []=>false
 |o::r=>(match o.guard with |some (j,_)=>Nat.beq j k |none=>false) || Bt3 k r
def As7(ops:List Oper)(st:St)(o:Oper):Option Bool:=match o.guard with
 |none=>some true
 |some (j,want)=>match ops[j]? with
  |some oj=>(match oj.dst with
   |some t=>(match lk st.tm t with | .imm (.bool b)=>some (!(Bool.xor b want)) |_=>none)
   |none=>none)
  |none=>none
def Bg1(E:Env)(H:Jk)(ops:List Oper)(cl:Nat→Nat)(k:Nat)(st:St)(K:St→Prop):Prop:=
 match ops[k]? with
 |none=>False
 |some o=>match Rc E.nt o.dst with
  |false=>False
  |true=>match As7 ops st o with
   |none=>False
   |some false=>K (st.put o.dst .undef)
   |some true=>match cl k with
    |0=>As3 E st (unG o) K
    |1=>A0f E st (unG o) K
    |2=>As4 E st (unG o) fun st=>fSt st K
    |_=>Alp E (some H) st (unG o) fun st=>fSt st K
def Alr(ops:List Oper)(k:Nat)(st:St)(K:St→Prop):Prop:=
 match Bt3 k ops with
 |false=>K st
 |true=>match ops[k]? with
  |some o=>(match o.dst with
   |some d=>(match lk st.tm d with
    | .imm (.bool b)=>Br b (K (st.put (some d) (.imm (.bool true)))) (K (st.put (some d) (.imm (.bool false))))
    |_=>False)
   |none=>False)
  |none=>False
def Bfl(ops:Array Oper)(cl:Nat→Nat)(listed:Array Bool):List Nat→Option Nat
 | []=>none
 |k::r=>match (match cl k with
   |0=>Region.free .any ops listed k
   |1=>Region.free .any ops listed k && (A0j .any ops cl k && Bmy cl ops.size k listed)
   |_=>false)with
  |true=>some k
  |false=>Bfl ops cl listed r
def Aez(E:Env)(H:Jk)(ops:Array Oper)(cl:Nat→Nat):Nat→Array Bool→St→(St→Prop)→Prop
 |0,listed,st,K=>match Region.ready .any ops listed with | []=>K st |_=>False
 |f+1,listed,st,K=>match Region.ready .any ops listed with
  | []=>K st
  |k0::r=>match Bfl ops cl listed (k0::r)with
   |some k=>Bg1 E H ops.toList cl k st fun st=>Alr ops.toList k st fun st=>Aez E H ops cl f (listed.setIfInBounds k true) st K
   |none=>Brc (k0::r) fun k=>Bg1 E H ops.toList cl k st fun st=>Alr ops.toList k st fun st=>Aez E H ops cl f (listed.setIfInBounds k true) st K
def A8s(E:Env)(H:Jk)(ops:Array Oper)(st:St)(K:St→Prop):List (Bool × Bool)→Prop
 | []=>False
 |v::r=>match Bci ops (Bba E.T v ops) (Ave ops (Bba E.T v ops) ops.size (Array.replicate ops.size false))with
  |true=>Alq E H ops.toList (Bba E.T v ops) (Ave ops (Bba E.T v ops) ops.size (Array.replicate ops.size false)) st K
  |false=>A8s E H ops st K r
def Bpt(E:Env)(ops:Array Oper):List (Bool × Bool)→Bool
 | []=>false
 |v::r=>Bci ops (Bba E.T v ops) (Ave ops (Bba E.T v ops) ops.size (Array.replicate ops.size false)) || Bpt E ops r
def Bt8:List (Bool × Bool):=[(false,false),(true,false),(false,true),(true,true)]
def Bfi(E:Env)(H:Jk)(ops:Array Oper)(st:St)(K:St→Prop):Prop:=
 match Bpt E ops Bt8 with
 |true=>A8s E H ops st K Bt8
 |false=>match Bci ops (Bff E.T ops) (Ave ops (Bff E.T ops) ops.size (Array.replicate ops.size false))with
  |true=>Aun E (A5e st ops.toList ops.toList) ops.toList (Bff E.T ops) (Ave ops (Bff E.T ops) ops.size (Array.replicate ops.size false)) st K
  |false=>match Region.noSelect ops && Azc .any ops (Bfe E ops)with
   |true=>Aez E H ops (Bfe E ops) ops.size (Array.replicate ops.size false) st K
   |false=>False
structure Ba (n:Nat) (P:Program) (nt:Nat) (b:Code) (st:St) (Q:Ex→St→Prop):Prop where
 ok:LIn P nt b st Q
structure Ao (n:Nat) (P:Program) (nt:Nat) (b:Code) (st:St) (Q:Ex→St→Prop):Prop where
 ok:WP P nt b st Q
structure I6 (n:Nat) (P:Program) (nt l:Nat) (c:Code) (st:St) (Q:Ex→St→Prop):Prop where
 ok:∃rest,findLabel c l=some rest∧SIn P nt c rest st Q
def AC.labless:AC→Bool
 | .seq a b=>a.labless && b.labless
 | .label _=>false
 | .bad _=>false
 | .cut _ _ _ b=>b.labless
 |_=>true
def AC.after(l:Nat):AC→Option AC
 | .seq a b=>match a.after l with |some r=>some (.seq r b) |none=>(match a.labless with |true=>b.after l |false=>none)
 | .label l'=>match Nat.beq l' l with |true=>some .skip |false=>none
 | .cut _n _live _out b=>match b.after l with |some r=>some r |none=>none
 |_=>none
def eval(E:Env)(H:Jk):AC→St→(Ex→St→Prop)→Prop
 | .skip,st,Q=>Q .normal st
 | .region _ ops draw,st,Q=>match draw with
   |false=>Agy E (some H) ops.toList st (Q .normal)
   |true=>match Bg8 ops.toList 0 with
    |none=>(match Region.lexB .any ops with
     |true=>Agy E none ops.toList st (Q .normal)
     |false=>Bfi E H ops st (Q .normal))
    |some n=>(match Region.lexTailB .any ops n with
     |true=>Bg6 E H ops.toList n st (Q .normal)
     |false=>Bfi E H ops st (Q .normal))
 | .seq a b,st,Q=>eval E H a st fun e st=>match e with | .normal=>eval E H b st Q | .exit i=>Q (.exit i) st | .goto l=>Q (.goto l) st | .ret=>Q .ret st
 | .cond c x y,st,Q=>match strip none (ev E.T st.tm 0 c)with
   | .imm (.bool b)=>Br b (eval E H x st Q) (eval E H y st Q)
   |_=>False
 | .block id b,st,Q=>eval E H b st fun e st=>match e with
   | .normal=>Q .normal st
   | .exit i=>(match Nat.beq i id with |true=>Q .normal st |false=>Q (.exit i) st)
   | .goto l=>Q (.goto l) st
   | .ret=>Q .ret st
 | .loop n live b,st,Q=>Ba n E.P E.nt b.code (mask live st) Q
 | .exit id live,st,Q=>fSt (mask live st) (Q (.exit id))
 | .goto l live,st,Q=>fSt (mask live st) (Q (.goto l))
 | .scope n live b,st,Q=>eval E H b st fun e st=>match e with
   | .normal=>Q .normal st
   | .exit i=>Q (.exit i) st
   | .goto l=>I6 n E.P E.nt l b.code (mask live st) Q
   | .ret=>Q .ret st
 | .ret live,st,Q=>fSt (mask live st) (Q .ret)
 | .cut n live _ b,st,Q=>Ao n E.P E.nt b.code (mask live st) Q
 | .label _,st,Q=>Q .normal st
 |_,_,_=>False
def By5(n:Nat)(P:Program)(nt:Nat)(c:Code)(live:List Nat)(K:Ex→St→Prop):Ex→St→Prop
 | .normal,st=>K .normal st
 | .exit i,st=>K (.exit i) st
 | .goto l,st=>I6 n P nt l c (mask live st) K
 | .ret,st=>K .ret st
def J8(k:Nat)(ac:AC):AC:=match AC.find k ac with |some (.scope _ _ b)=>b |_=> .skip
def Bs4(k l:Nat)(ac:AC):AC:=match (J8 k ac).after l with |some r=>r |none=> .skip
def Bt5(n:Nat)(P:Program)(nt:Nat)(c:Code)(live:List Nat)(K:Ex→St→Prop):Ex→St→Prop
 | .normal,st=>Ba n P nt c (mask live st) K
 | .exit i,st=>K (.exit i) st
 | .goto l,st=>K (.goto l) st
 | .ret,st=>K .ret st
def Byg(out:List Nat)(K:Ex→St→Prop):Ex→St→Prop
 | .normal,st=>K .normal (mask out st)
 | .exit i,st=>K (.exit i) st
 | .goto l,st=>K (.goto l) st
 | .ret,st=>K .ret st
def A9(k:Nat)(ac:AC):AC:=match AC.find k ac with |some (.loop _ _ b)=>b |_=> .skip
def Ah(k:Nat)(ac:AC):AC:=match AC.find k ac with |some (.cut _ _ _ b)=>b |_=> .skip
def codeOf(f:Func):Code:=match f.body with |some c=>c |none=> .skip
def A9h(T:TT)(st:St):ResultVar→Option AV
 | .tmp t=>some (lk st.tm t)
 | .cell a t=>match Aiw (tl T t) st.hp (lk st.tm a)with | .ok v=>some v | .req _ v=>some v |_=>none
def Ats(T:TT)(st:St):ResultVar→Option Prop
 | .tmp _=>none
 | .cell a t=>match Aiw (tl T t) st.hp (lk st.tm a)with | .req c _=>some c |_=>none
def Adl(T:TT)(st:St):List ResultVar→Prop→Prop
 | [],K=>K
 |r::rs,K=>match Ats T st r with |some c=>Ag c (Adl T st rs K) |none=>Adl T st rs K
def Z0(T:TT)(st:St):List ResultVar→Option (List AV)
 | []=>some []
 |r::rs=>match A9h T st r,Z0 T st rs with |some a,some l=>some (a::l) |_,_=>none
def Afw(l:List AV):AV:=match l with | [a]=>a |l=> .tup l
def isW:AV→Bool | .when _ _ _ _=>true |_=>false
def Bbs:List AV→Bool
 | []=>true
 |a::r=>(match isW a with |true=>false |false=>true) && Bbs r
def Arj:List (Nat × AV)→Bool
 | []=>true
 |(_,a)::r=>(match isW a with |true=>false |false=>true) && Arj r
def inlD:Env→Nat→Jk
 |_E,0=>fun _ _ _ _ _ _=>False
 |E,k+1=>fun ac nt rs args h Q=>match Bbs args && Nat.ble args.length nt with
  |false=>False
  |true=>eval { E with nt:=nt } (inlD E k) ac ⟨numL args 0,h⟩ fun e st=>match e with
   | .normal=>Adl E.T st rs (match Z0 E.T st rs with |some l=>Q (Afw l) st.hp |none=>False)
   | .ret=>Adl E.T st rs (match Z0 E.T st rs with |some l=>Q (Afw l) st.hp |none=>False)
   | .exit _=>False
   | .goto _=>False
 where numL:List AV→Nat→List (Nat × AV)
  | [],_=>[]
  |a::r,j=>(j,a)::numL r (j+1)
def Hl(k:Nat):Heap→List Nm
 | []=>[]
 |(n,_)::r=>n::Hl k r
def Bgq(hp:Heap):AV→Option AV
 | .tup l=>match Yf hp l with |some vs=>some (.tup (Dw vs)) |none=>none
 |a=>match Ra hp a with |some v=>some (.imm v) |none=>none
def Bnz(hp:Heap):AV→Option AV
 | .win n s o len=>match n.ext with |true=>some (.win n s o len) |false=>none
 | .own n=>match n.ext,hget hp n with |true,some (.arr _ _ sz rows)=>some (.win n sz 0 rows.length) |_,_=>none
 |_=>none
def Bfk(hp h0:Heap)(n:Nm):Option Heap:=match hget hp n,Gz (.loc 0) (Hl 0 h0) || Gz n (Hl 0 h0)with
 |some (.arr _ true sz rows),false=>some [(.loc 0, .arr 0 true sz rows)]
 |_,_=>none
def keepR(hp h0:Heap):AV→Option (AV × Heap)
 | .own m=>match Bfk hp h0 m with |some e=>some (.own (.loc 0),e) |none=>none
 | .tup l=>match l with
   | .own m::l=>(match Bfk hp h0 m,Gz m (AV.namesL l),Yf hp l with |some e,false,some vs=>some (.tup (.own (.loc 0)::Dw vs),e) |_,_,_=>none)
   |_=>none
 |_=>none
def Azq:AV→List Nm | .tup l=>(match l with |_::l=>AV.namesL l | []=>[]) |_=>[]
def finish(m:Nat)(T:TT)(rs:List ResultVar)(h0:Heap)(Q:AV→Heap→Prop)(st:St):Prop:=
 Adl T st rs <|
 match Z0 T st rs with
 |none=>False
 |some l=>match (match m with |2=>keepR st.hp h0 (Afw l) |3=>keepR st.hp h0 (Afw l) |_=>none)with
  |some (r,e)=>Q r (Cr (Nm.beq (.loc 0)) (Jc (Dv (Azq (Afw l)) st.hp) (Hl 0 h0))++e)
  |none=>match (match m with |1=>Bnz st.hp (Afw l) |_=>none)with
   |some r=>Q r (Jc st.hp (Hl 0 h0))
   |none=>match Bgq st.hp (Afw l)with
    |some r=>Q r (Jc (Dv (AV.names (Afw l)) st.hp) (Hl 0 h0))
    |none=>False
def Bty(E:Env)(k m:Nat)(ac:AC)(rs:List ResultVar)(args:List AV)(h:Heap)(Q:AV→Heap→Prop):Prop:=
 eval E (inlD E k) ac ⟨inlD.numL args 0,h⟩ fun e st=>match e with
  | .normal=>finish m E.T rs h Q st
  | .ret=>finish m E.T rs h Q st
  | .exit _=>False
  | .goto _=>False
end Go.Proofs.Sim

import Derived.Test.YtcdjheflchglaaaGreatDoorSimB
import Derived.Deep.Quiet
import Derived.Test.YtcdjheflchglaaaGreatDoorSimT
namespace Go.Proofs.Sim
open Go
inductive AC where
 |skip |region (id:Nat) (ops:Array Oper) (draw:Bool) |seq (a b:AC) |cond (c:Operand) (x y:AC) |block (id:Nat) (b:AC)
 |loop (n:Nat) (live:List Nat) (b:AC) |exit (id:Nat) (live:List Nat) |ret (live:List Nat) |cut (n:Nat) (live out:List Nat) (b:AC)
 |label (l:Nat) |scope (n:Nat) (live:List Nat) (b:AC) |goto (l:Nat) (live:List Nat) |bad (c:Code)
 deriving Inhabited
def AC.code:AC→Code
 | .skip=> .skip
 | .region id ops d=> .region id ops d
 | .seq a b=> .seq a.code b.code
 | .cond c x y=> .cond c x.code y.code
 | .block id b=> .block id b.code
 | .loop _ _ b=> .loop b.code
 | .exit id _=> .exit id
 | .ret _=> .ret
 | .cut _ _ _ b=>b.code
 | .label l=> .label l
 | .scope _ _ b=> .scope b.code
 | .goto l _=> .goto l
 | .bad c=>c
abbrev A30:=List (Nat × List Nat × List Nat)
def plk:A30→Nat→Option (List Nat × List Nat)
 | [],_=>none
 |(m,l)::r,n=>match Nat.beq m n with |true=>some l |false=>plk r n
def pl0(o:Option (List Nat × List Nat)):List Nat:=match o with |some l=>l.1 |none=>[]
def Bf(pl:A30)(rs:List Nat):Code→Nat→AC × Nat
 | .skip,n=>(.skip,n)
 | .region id ops d,n=>(.region id ops d,n)
 | .seq a b,n=>match Bf pl rs a n with
   |(a',n1)=>match Bf pl rs b (n1+1)with
    |(b',n2)=>match plk pl n1 with
     |some (live,out)=>(.seq a' (.cut n1 live out b'),n2)
     |none=>(.seq a' b',n2)
 | .cond c x y,n=>match Bf pl rs x n with
   |(x',n1)=>match Bf pl rs y n1 with
    |(y',n2)=>(.cond c x' y',n2)
 | .block id b,n=>match Bf pl rs b n with |(b',n1)=>(.block id b',n1)
 | .loop b,n=>match Bf pl rs b (n+1)with |(b',n1)=>(.loop n (pl0 (plk pl n)) b',n1)
 | .exit id,n=>(.exit id (pl0 (plk pl n)),n+1)
 | .ret,n=>(.ret rs,n)
 | .label l,n=>(.label l,n)
 | .scope b,n=>match Bf pl rs b (n+1)with |(b',n1)=>(.scope n (pl0 (plk pl n)) b',n1)
 | .goto l,n=>(.goto l (pl0 (plk pl n)),n+1)
 |c,n=>(.bad c,n)
def AC.find(k:Nat):AC→Option AC
 | .seq a b=>match a.find k with |some x=>some x |none=>b.find k
 | .cond _ x y=>match x.find k with |some z=>some z |none=>y.find k
 | .block _ b=>b.find k
 | .loop n live b=>match Nat.beq n k with |true=>some (.loop n live b) |false=>b.find k
 | .cut n live out b=>match Nat.beq n k with |true=>some (.cut n live out b) |false=>b.find k
 | .scope n live b=>match Nat.beq n k with |true=>some (.scope n live b) |false=>b.find k
 |_=>none
structure Env where
 P:Program
 T:TT
 nt:Nat
 inl:Nat→Option (AC × Nat × List ResultVar)
 self:Nat→Option Nat
 wr:Nat→Nat
def Aw(E:Env)(nt:Nat):Env:=⟨E.P,E.T,nt,E.inl,E.self,E.wr⟩
def A34:List (Nat × AC × Nat × List ResultVar)→Nat→Option (AC × Nat × List ResultVar)
 | [],_=>none
 |(m,x)::r,n=>match Nat.beq m n with |true=>some x |false=>A34 r n
def A2t:List (Nat × Nat)→Nat→Option Nat
 | [],_=>none
 |(m,x)::r,n=>match Nat.beq m n with |true=>some x |false=>A2t r n
def Bco:List (Nat × Nat)→Nat→Nat
 | [],_=>0
 |(m,x)::r,n=>match Nat.beq m n with |true=>x |false=>Bco r n
def fNm:Nm→(Nm→Prop)→Prop
 | .loc t,k=>k (.loc t)
 | .cell n j,k=>fNm n fun n=>k (.cell n j)
 | .arg i,k=>k (.arg i)
 | .up n,k=>fNm n fun n=>k (.up n)
 | .sub t n,k=>fNm n fun n=>k (.sub t n)
def fIV:IV→(IV→Prop)→Prop
 | .bool b,k=>k (.bool b)
 | .int i n,k=>k (.int i n)
 | .str s,k=>k (.str s)
 | .sl i sz rows,k=>k (.sl i sz rows)
 | .agg l,k=>k (.agg l)
 | .raw v,k=>k (.raw v)
 | .ifc b,k=>k (.ifc b)
mutual
def Vk:AV→(AV→Prop)→Prop
 | .imm x,k=>fIV x fun x=>k (.imm x)
 | .ptr n o,k=>fNm n fun n=>k (.ptr n o)
 | .elt n sz i j,k=>fNm n fun n=>k (.elt n sz i j)
 | .own n,k=>fNm n fun n=>k (.own n)
 | .pin c,k=>k (.pin c)
 | .fn f caps,k=>Am6 caps fun caps=>k (.fn f caps)
 | .agg l,k=>Am6 l fun l=>k (.agg l)
 | .tup l,k=>Am6 l fun l=>k (.tup l)
 | .when t b want a,k=>Vk a fun a=>k (.when t b want a)
 | .undef,k=>k .undef
 | .data n,k=>fNm n fun n=>k (.data n)
 | .win n sz off len,k=>fNm n fun n=>k (.win n sz off len)
 | .mp n,k=>fNm n fun n=>k (.mp n)
 | .self n,k=>fNm n fun n=>k (.self n)
 | .meth f n o,k=>fNm n fun n=>k (.meth f n o)
def Am6:List AV→(List AV→Prop)→Prop
 | [],k=>k []
 |a::r,k=>Vk a fun a=>Am6 r fun r=>k (a::r)
end
def fTm:List (Nat × AV)→(List (Nat × AV)→Prop)→Prop
 | [],k=>k []
 |(t,a)::r,k=>Vk a fun a=>fTm r fun r=>k ((t,a)::r)
def A65:Entry→(Entry→Prop)→Prop
 | .blk ty cells,k=>Am6 cells fun cells=>k (.blk ty cells)
 | .arr ty w sz rows,k=>k (.arr ty w sz rows)
 | .sit s p,k=>k (.sit s p)
 | .map l,k=>k (.map l)
def fHp:Heap→(Heap→Prop)→Prop
 | [],k=>k []
 |(n,e)::r,k=>fNm n fun n=>A65 e fun e=>fHp r fun r=>k ((n,e)::r)
def Wd(st:St)(k:St→Prop):Prop:=match st with |⟨tm,hp⟩=>fTm tm fun tm=>fHp hp fun hp=>k ⟨tm,hp⟩
mutual
def AV.has(p:Nm→Bool):AV→Bool
 | .ptr n _=>p n
 | .elt n _ _ _=>p n
 | .own n=>p n
 | .fn _ caps=>AV.hasL p caps
 | .agg l=>AV.hasL p l
 | .tup l=>AV.hasL p l
 | .when _ _ _ a=>AV.has p a
 | .data n=>p n
 | .win n _ _ _=>p n
 | .mp n=>p n
 | .self n=>p n
 | .meth _ n _=>p n
 |_=>false
def AV.hasL(p:Nm→Bool):List AV→Bool
 | []=>false
 |a::r=>AV.has p a || AV.hasL p r
end
def Rv(p:Nm→Bool)(a:AV):AV:=match AV.has p a with |true=> .undef |false=>a
def Dh(p:Nm→Bool):List AV→List AV
 | []=>[]
 |a::r=>Rv p a::Dh p r
def I1(p:Nm→Bool):List (Nat × AV)→List (Nat × AV)
 | []=>[]
 |(t,a)::r=>(t,Rv p a)::I1 p r
def Lr(p:Nm→Bool):Entry→Entry
 | .blk ty cells=> .blk ty (Dh p cells)
 |e=>e
def De(p:Nm→Bool):Heap→Heap
 | []=>[]
 |(n,e)::r=>match p n with |true=>De p r |false=>(n,Lr p e)::De p r
def rooted(d:Nat):Nm→Bool
 | .loc t=>Nat.beq t d
 | .cell n _=>rooted d n
 |_=>false
mutual
def AV.names:AV→List Nm
 | .ptr n _=>[n]
 | .elt n _ _ _=>[n]
 | .own n=>[n]
 | .fn _ caps=>AV.namesL caps
 | .agg l=>AV.namesL l
 | .tup l=>AV.namesL l
 | .when _ _ _ a=>AV.names a
 | .data n=>[n]
 | .win n _ _ _=>[n]
 | .mp n=>[n]
 | .self n=>[n]
 | .meth _ n _=>[n]
 |_=>[]
def AV.namesL:List AV→List Nm
 | []=>[]
 |a::r=>AV.names a++AV.namesL r
end
def Gu(n:Nm):List Nm→Bool
 | []=>false
 |m::r=>Nm.beq m n || Gu n r
def Ayy:Entry→List Nm
 | .blk _ cells=>AV.namesL cells
 |_=>[]
def reach(hp:Heap):Nat→List Nm→List Nm→List Nm
 |0,_,acc=>acc
 |_+1,[],acc=>acc
 |k+1,n::r,acc=>match Gu n acc with
  |true=>reach hp k r acc
  |false=>match hget hp n with
   |some e=>reach hp k (r++Ayy e) (acc++[n])
   |none=>reach hp k r acc
def Io(hp:Heap):List Nm→Heap
 | []=>[]
 |n::r=>match hget hp n with |some e=>(n,e)::Io hp r |none=>Io hp r
def Avx:List (Nat × AV)→List Nm
 | []=>[]
 |(_,a)::r=>AV.names a++Avx r
def Aj1:Heap→List Nm
 | []=>[]
 |(n,_)::r=>match n.ext with |true=>n::Aj1 r |false=>Aj1 r
def A9z:Nm→Nat | .arg i=>i |_=>1000000
def Bac(n:Nm):List Nm→List Nm
 | []=>[n]
 |m::r=>match Nat.ble (A9z n) (A9z m)with |true=>n::m::r |false=>m::Bac n r
def A27:List Nm→List Nm
 | []=>[]
 |n::r=>Bac n (A27 r)
def Ww(ns:List Nm):Heap→Heap
 | []=>[]
 |(n,e)::r=>match Gu n ns with |true=>Ww ns r |false=>(n,e)::Ww ns r
def anyC:IV→IV | .sl _ sz rows=> .sl .any sz rows |v=>v
def Aki:List IV→List IV | []=>[] |v::r=>anyC v::Aki r
def Ben:IV→IV | .agg l=> .agg (Aki l) | .sl _ sz rows=> .sl .any sz rows |v=>v
mutual
def Oj(hp:Heap):AV→Option IV
 | .imm v=>some (Ben v)
 | .own n=>match hget hp n with |some (.arr _ _ sz rows)=>some (.sl .any sz rows) |_=>none
 | .agg l=>match Ug hp l with |some vs=>some (.agg vs) |none=>none
 |_=>none
def Ug(hp:Heap):List AV→Option (List IV)
 | []=>some []
 |a::r=>match Oj hp a with
  |some v=>(match Ug hp r with |some vs=>some (v::vs) |none=>none)
  |none=>none
end
def D7(ns:List Nm):Heap→Heap
 | []=>[]
 |(n,e)::r=>match Gu n ns,e with
  |true, .arr ty _ sz rows=>(n, .arr ty false sz rows)::D7 ns r
  |_,e=>(n,e)::D7 ns r
def chunk(sz:Nat):Nat→List IV→List (List IV)
 |0,_=>[]
 |n+1,l=>l.take sz::chunk sz n (l.drop sz)
def Bcw(td:TD):Option (Nat × Nat):=match td with | .array k _ esz=>some (k,esz) |_=>none
def Akv:AV→Option Nat
 | .imm (.sl .nil sz [])=>some sz
 |_=>none
def Ie(n:Nm):List AV→Nat→List AV
 | [],_=>[]
 |a::r,j=>(match Akv a with |some _=> .own (.cell n j) |none=>a)::Ie n r (j+1)
def Bfp:CS→Nat | .sl _ e=>e+2 |_=>0
def H6(n:Nm):List CS→List AV→Nat→Heap
 |_,[],_=>[]
 |cs,a::r,j=>match Akv a with |some sz=>(.cell n j, .arr (match cs with |c::_=>Bfp c | []=>0) true sz [])::H6 n cs.tail r (j+1) |none=>H6 n cs.tail r (j+1)
def newVar(st:St)(d ty:Nat)(sh:List CS)(cells:List AV):St:=
 let p:=rooted d
 let cs:=Dh p cells
 ⟨(d, .ptr (.loc d) 0)::I1 p st.tm,(.loc d, .blk ty (Ie (.loc d) cs 0))::(H6 (.loc d) sh cs 0++De p st.hp)⟩
def Ee(n:Nm):List AV→Nat→Nm→Bool
 | [],_,_=>false
 |a::r,j,m=>match Akv a with |some _=>Nm.beq (.cell n j) m || Ee n r (j+1) m |none=>Ee n r (j+1) m
def setRow(row:List IV)(j:Nat)(vs:List IV)(sz:Nat):List IV:=
 match j,Nat.beq vs.length sz with
 |0,true=>vs
 |_,_=>row.take j++vs++row.drop (j+vs.length)
def Ajw:AV→Bool
 | .imm (.agg _)=>false
 | .imm (.raw v)=>match v with | .pointer _=>true | .nilFunc=>true | .nilIface=>true | .map _=>true |_=>false
 | .imm _=>true
 | .ptr _ _=>true
 | .elt _ _ _ _=>true
 | .own _=>true
 | .pin _=>true
 | .fn _ _=>true
 | .agg _=>false
 | .tup _=>false
 | .when _ _ _ _=>false
 | .undef=>false
 | .data _=>true
 | .win _ _ _ _=>true
 | .mp _=>true
 | .self _=>true
 | .meth _ _ _=>true
def Afm:List AV→Bool
 | []=>true
 |a::r=>Ajw a && Afm r
def Aox(st:St)(d:Option Nat)(sh:List CS)(a v:AV)(K:St→Prop):Prop:=
 match a with
 | .ptr n off=>match hget st.hp n with
   |some (.blk ty cells)=>match Nat.ble (off+(flat v).length) cells.length && Afm (flat v)with
    |true=>
     let p:=Ee n (flat v) off
     let vs:=Dh p (flat v)
     K (St.put ⟨I1 p st.tm,H6 n sh vs off++hset (De p st.hp) n (.blk ty (splice (Dh p cells) off (Ie n vs off)))⟩ d .undef)
    |false=>False
   |_=>False
 | .elt n sz i j=>match hget st.hp n with
   |some (.arr ty true sz' rows)=>match Nat.beq sz sz' && Afm (flat v),toI (flat v)with
    |true,some vs=>match Nat.ble (j+vs.length) sz with
     |true=>Ak (i<rows.length) (K (St.put ⟨st.tm,hset st.hp n (.arr ty true sz (rows.set i (setRow (rows.getD i []) j vs sz)))⟩ d .undef))
     |false=>False
    |_,_=>False
   |_=>False
 |_=>False
def Att(st:St)(d:Option Nat)(k esz:Nat)(a v:AV)(K:St→Prop):Prop:=
 match a with
 | .ptr n 0=>match hget st.hp n with
   |some (.arr ty true sz rows)=>match Nat.beq sz esz && Afm (flat v),toI (flat v)with
    |true,some vs=>(match Nat.beq vs.length (k*esz)with
     |true=>Ak (rows.length=k) (K (St.put ⟨st.tm,hset st.hp n (.arr ty true esz (chunk esz k vs))⟩ d .undef))
     |false=>False)
    |_,_=>False
   |_=>False
 |_=>False
def Fe(st:St)(d:Nat)(n:Nm)(v:AV)(e:Entry):St:=
 let p:=Nm.beq n
 ⟨(d,v)::I1 p st.tm,(n,e)::De p st.hp⟩
def Ba(l:List UInt8):List (List IV):=l.map fun b=>[.int .u8 b.toNat]
def rowsOf(ti:TI)(hp:Heap)(sz:Nat)(x:AV):Option (List (List IV)):=
 match ti.td,x with
 | .slice _ _ _ _, .imm (.sl _ sz' rows)=>match Nat.beq sz sz' with |true=>some rows |false=>none
 | .slice _ _ _ _, .own n=>match hget hp n with |some (.arr _ _ sz' rows)=>(match Nat.beq sz sz' with |true=>some rows |false=>none) |_=>none
 | .str, .imm (.str s)=>match Nat.beq sz 1 with |true=>some (Ba s) |false=>none
 |_,_=>none
def Gq:Nat:=140737488355328
def Ui(T:TT)(t:Nat):Bool:=match (tl T t).td with | .missing=>false | .tuple _=>false |_=>true
def Ayq(T:TT)(st:St)(d:Nat)(ty tx:Nat)(s x:AV)(K:St→Prop):Prop:=
 match (tl T ty).td with
 | .slice elem esz eb _=>match Ui T elem with
  |false=>False
  |true=>match rowsOf (tl T tx) st.hp esz x with
   |some xs=>match s with
    | .own n=>match hget st.hp n with
      |some (.arr ty w sz rows)=>match Nat.beq sz esz && !(Nat.beq ty 1)with
       |true=>Ak ((rows.length+xs.length)*eb≤Gq∧rows.length+xs.length≤Gq) (K (Fe st d n (.own n) (.arr (match Nat.beq ty (elem+2)with |true=>elem+2 |false=>0) w esz (rows++xs))))
       |false=>False
      |_=>False
    | .imm (.sl .nil _ [])=>Ak (xs.length*eb≤Gq∧xs.length≤Gq) (K (Fe st d (.loc d) (.own (.loc d)) (.arr (elem+2) true esz xs)))
    | .imm (.sl .tight _ [])=>Ak (xs.length*eb≤Gq∧xs.length≤Gq) (K (Fe st d (.loc d) (.win (.loc d) esz 0 xs.length) (.arr 1 true esz xs)))
    |_=>False
   |none=>False
 |_=>False
def setRows(hp:Heap)(rows:List (List IV)):List (Nat × AV)→Option (List (List IV))
 | []=>some rows
 |(i,v)::r=>match Ug hp (flat v)with
  |some vs=>setRows hp (rows.set i vs) r
  |none=>none
def Ami(sz:Nat)(len:Nat):List (Nat × AV)→Bool
 | []=>true
 |(i,v)::r=>(M7 v && Afm (flat v)) && (Nat.beq (flat v).length sz && (Nat.blt i len && Ami sz len r))
def Qo:List (Nat × AV)→List Nm
 | []=>[]
 |(_,v)::r=>AV.names v++Qo r
def Ajx:Nat→Nat→Nat |0,_=>0 |_+1,e=>e+2
def Zt(T:TT)(st:St)(d:Nat)(ty len:Nat)(parts:List (Nat × AV))(K:St→Prop):Prop:=
 match (tl T ty).td with
 | .slice elem esz eb _=>match Ui T elem && (Nat.ble (len*esz) 4096 && Ami esz len parts),setRows st.hp (List.replicate len (tl T elem).zero) parts with
   |true,some rows=>
    K (Fe ⟨st.tm,D7 (Qo parts) st.hp⟩ d (.loc d) (.own (.loc d)) (.arr (Ajx len elem) true esz rows))
   |_,_=>False
 |_=>False
mutual
def AV.ren(f:Nm→Nm):AV→AV
 | .ptr n o=> .ptr (f n) o
 | .elt n s i j=> .elt (f n) s i j
 | .own n=> .own (f n)
 | .fn g caps=> .fn g (AV.renL f caps)
 | .agg l=> .agg (AV.renL f l)
 | .tup l=> .tup (AV.renL f l)
 | .when t b w a=> .when t b w (AV.ren f a)
 | .imm v=> .imm v
 | .pin c=> .pin c
 | .undef=> .undef
 | .data n=> .data (f n)
 | .win n sz off len=> .win (f n) sz off len
 | .mp n=> .mp (f n)
 | .self n=> .self (f n)
 | .meth g n o=> .meth g (f n) o
def AV.renL(f:Nm→Nm):List AV→List AV
 | []=>[]
 |a::r=>AV.ren f a::AV.renL f r
end
def Aci(f:Nm→Nm):Entry→Entry
 | .blk ty cells=> .blk ty (AV.renL f cells)
 |e=>e
def J3(f:Nm→Nm):Heap→Heap
 | []=>[]
 |(n,e)::r=>(f n,Aci f e)::J3 f r
def Air(n:Nm):List Nm→Nat→Nm
 | [],_=> .up n
 |m::r,i=>match Nm.beq m n with |true=> .arg i |false=>Air n r (i+1)
def Ic(ns:List Nm)(n:Nm):Nm:=Air n ns 0
def Am5(d:Nm):List Nm→Nat→Nm
 | [],_=>d
 |m::_,0=>m
 |_::r,i+1=>Am5 d r i
def Ao7(ns:List Nm)(d:Nat):Nm→Nm
 | .arg i=>Am5 (.sub d (.arg i)) ns i
 | .loc t=> .sub d (.loc t)
 | .cell n j=> .sub d (.cell n j)
 | .up n=> .sub d (.up n)
 | .sub t n=> .sub d (.sub t n)
def Xa(d:Nat):Nm→Bool
 | .sub t _=>Nat.beq t d
 | .cell n _=>Xa d n
 | .loc _=>false
 | .arg _=>false
 | .up _=>false
def Ao4(h:Heap)(n:Nm):Bool:=match hget h n with |some (.arr ty _ _ _)=> !(Nat.beq ty 1) |_=>false
def A20(p:Nm→Bool):List Nm→Bool
 | []=>true
 |n::r=>p n && A20 p r
def Bfg(old new:AV):AV:=
 match old with
 | .imm (.bool _)=> .imm (.bool (rB new))
 | .imm (.int k _)=> .imm (.int k (rI new))
 | .imm (.str _)=> .imm (.str (rS new))
 | .imm (.sl _ sz _)=> .imm (.sl .any sz (rR new))
 | .imm (.ifc _)=> .imm (.ifc (rN new))
 | .imm (.raw _)=> .imm (.raw (rV new))
 |a=>a
def A6k:List AV→List AV→Nat→List AV
 | [],_,_=>[]
 |o::r,l,j=>Bfg o (l.getD j .undef)::A6k r l (j+1)
def Au(h:Heap)(n:Nm):List AV:=match hget h n with |some (.blk _ cells)=>cells |_=>[]
def Da(h:Heap)(n:Nm):List (List IV):=match hget h n with |some (.arr _ _ _ rows)=>rows |_=>[]
def mapOf(h:Heap)(n:Nm):List (List UInt8 × Int):=match hget h n with |some (.map l)=>l |_=>[]
def Ph(h':Heap):Heap→Heap
 | []=>[]
 |(n, .blk ty cells)::r=>(n, .blk ty (A6k cells (Au h' n) 0))::Ph h' r
 |(n, .arr ty w sz rows)::r=>(n, .arr ty w sz (Da h' n))::Ph h' r
 |(n, .map _)::r=>(n, .map (mapOf h' n))::Ph h' r
 |(n,e)::r=>(n,e)::Ph h' r
def Ha(hp:Heap):List AV→List AV
 | []=>[]
 |a::r=>(match Oj hp a with |some v=> .imm v |none=>a)::Ha hp r
def Dj(hp:Heap):List AV→List Nm
 | []=>[]
 |a::r=>(match Oj hp a with |some v=>AV.names a |none=>[])++Dj hp r
def Aow:Nat:=1000000
def Aiv(t:Nat)(st:St):St:=match lk st.tm t with
 | .own n=>(match hget st.hp n with
   |some (.arr _ _ sz rows)=>⟨(t, .imm (.sl .any sz rows))::st.tm,D7 [n] st.hp⟩
   |_=>st)
 | .ptr n _=>(match hget st.hp n with
   |some (.blk ty cells)=>⟨st.tm,hset (D7 (Dj st.hp cells) st.hp) n (.blk ty (Ha st.hp cells))⟩
   |_=>st)
 |_=>st
def J7:List Nat→St→St
 | [],st=>st
 |t::r,st=>match Nat.ble Aow t with |true=>J7 r (Aiv (t - Aow) st) |false=>J7 r st
def Ad9(tm:List (Nat × AV)):List Nat→List (Nat × AV)
 | []=>[]
 |t::r=>match Nat.ble Aow t with |true=>(t - Aow,lk tm (t - Aow))::Ad9 tm r |false=>(t,lk tm t)::Ad9 tm r
def Ahs(n:Nm):Entry→Entry
 | .blk ty [.imm (.raw (.pointer none)), .own m]=> .blk ty [.self n, .own m]
 | .blk ty [.ptr k 0, .own m]=>(match Nm.beq k n with |true=> .blk ty [.self n, .own m] |false=> .blk ty [.ptr k 0, .own m])
 |e=>e
def Aep:Heap→Heap
 | []=>[]
 |(n,e)::r=>(n,Ahs n e)::Aep r
def mask(live:List Nat)(st:St):St:=
 let st:=J7 live st
 let tm:=Ad9 st.tm live
 let hp:=Aep st.hp
 ⟨tm,Io hp (reach hp 400 (Avx tm++A27 (Aj1 hp)) [])⟩
abbrev I6:=AC→Nat→List ResultVar→List AV→Heap→(AV→Heap→Prop)→Prop
def Bdq:Option Nat→Nat |some d=>d |none=>0
def Ais(hp:Heap):List Nm→List Nm
 | []=>[]
 |n::r=>match hget hp n with |some (.arr _ _ _ _)=>Ais hp r |_=>n::Ais hp r
def handed(shy:Bool)(hp:Heap)(ns:List Nm):List Nm:=match shy with |true=>Ais hp ns |false=>ns
def Ats(k:Nat):List Nm→List Nm→List Nm
 |acc,[]=>acc
 |acc,n::r=>match Gu n acc || Xa k n with |true=>Ats k acc r |false=>Ats k (acc++[n]) r
def Aw4:Heap→List Nm
 | []=>[]
 |(_,e)::r=>Ayy e++Aw4 r
def A55(k:Nat)(hp:Heap)(l:List Nm):List Nm:=Ats k (reach hp 400 l []) (Aw4 (Io hp (reach hp 400 l []))++l)
def Tu(shy:Bool)(C:List AV→Heap→(AV→Heap→Prop)→Prop)(hp:Heap)(tm:List (Nat × AV))(d:Option Nat)(args:List AV)(Q:Heap→AV→Heap→(AV→Heap→Prop)→Prop)(K:St→Prop):Prop:=
 let k:=Bdq d
 let ns:=A55 k hp (AV.namesL args)
 let ms:=handed shy hp ns
 let h0:=J3 (Ic ns) (Io hp ms)
 let p:=fun n=>(Gu n ms && Ao4 hp n) || Xa k n
 match A20 (fun n=> !(Xa k n)) ns with
 |true=>C (AV.renL (Ic ns) args) h0 fun r h'=>Q h0 r h' fun r h'=>K (St.put ⟨I1 p tm,J3 (Ao7 ns k) h'++De p (Ww ms hp)⟩ d (noW (AV.ren (Ao7 ns k) r)))
 |false=>False
def Azd(st:St)(d:Option Nat)(bt:Nat)(args:List AV)(K:St→Prop):Prop:=
 match args with
 | [.ptr n 0]=>match hget st.hp n with
   |some (.blk ty [a,c])=>match Nat.beq ty bt,a with
    |true, .imm (.raw (.pointer none))=>K (St.put ⟨st.tm,hset st.hp n (.blk ty [.ptr n 0,c])⟩ d (.tup []))
    |true, .ptr m 0=>match Nm.beq n m with |true=>K (St.put st d (.tup [])) |false=>False
    |true, .self m=>match Nm.beq n m with |true=>K (St.put ⟨st.tm,hset st.hp n (.blk ty [.self n,c])⟩ d (.tup [])) |false=>False
    |_,_=>False
   |_=>False
 |_=>False
def Avh:Entry→Entry
 | .arr _ true sz rows=> .arr 1 true sz rows
 |e=>e
def Ari(ns:List Nm):Heap→Heap
 | []=>[]
 |(n,e)::r=>(n,match Gu n ns with |true=>Avh e |false=>e)::Ari ns r
def rWo(r:AV):Nat:=match r with | .win _ _ o _=>o |_=>0
def rWl(r:AV):Nat:=match r with | .win _ _ _ l=>l |_=>0
def A9o(T:TT)(ty:Nat)(r:AV):AV:=match (tl T ty).td with | .slice _ esz _ _=> .win (.arg 0) esz (rWo r) (rWl r) |_=>Ku T ty r
def Bcu:AV→Bool | .own _=>true | .tup l=>(match l with | .own _::_=>true |_=>false) |_=>false
def Ber(T:TT)(ty:Nat):Nat:=match (tl T ty).td with
 | .slice _ esz _ _=>esz
 | .tuple ts=>(match ts with |t::_=>(match (tl T t).td with | .slice _ esz _ _=>esz |_=>0) | []=>0)
 |_=>0
def Axx(T:TT)(ty:Nat)(r:AV):AV:=match (tl T ty).td with
 | .tuple ts=>(match ts with |_::ts=> .tup (.own (.loc 0)::Auc T ts r 1) | []=> .undef)
 |_=> .own (.loc 0)
def Ath(T:TT)(ty:Nat)(h':Heap):Heap:=[(.loc 0, .arr 0 true (Ber T ty) (Da h' (.loc 0)))]
def Atl(E:Env)(H:I6)(st:St)(d:Option Nat)(ty:Nat)(f:Nat)(args:List AV)(K:St→Prop):Prop:=
 match E.self f with
 |some bt=>Azd st d bt args K
 |none=>
 match E.inl f with
 |some (ac,nt,rs)=>Tu false (H ac nt rs) st.hp st.tm d args (fun _ r h' k=>k r h') K
 |none=>
  match E.wr f with
  |1=>Tu false (Call E.P f) (Ari (AV.namesL args) st.hp) st.tm d args (fun h0 r h' k=>Ak (h'=Ph h' h0∧r=A9o E.T ty r) (k (A9o E.T ty r) (Ph h' h0))) K
  |2=>Tu false (Call E.P f) (D7 (Dj st.hp args) st.hp) st.tm d (Ha st.hp args) (fun h0 r h' k=>
    Ak (h'=Ph h' h0++Ath E.T ty h'∧r=Axx E.T ty r) (k (Axx E.T ty r) (Ph h' h0++Ath E.T ty h'))) K
  |4=>Tu true (Call E.P f) (D7 (Dj st.hp args) st.hp) st.tm d (Ha st.hp args) (fun h0 r h' k=>Ak (h'=Ph h' h0∧r=Ku E.T ty r) (k (Ku E.T ty r) (Ph h' h0))) K
  |_+3=>Tu false (Call E.P f) (D7 (Dj st.hp args) st.hp) st.tm d (Ha st.hp args) (fun h0 r h' k=>Br (Bcu r)
    (Ak (h'=Ph h' h0++Ath E.T ty h'∧r=Axx E.T ty r) (k (Axx E.T ty r) (Ph h' h0++Ath E.T ty h')))
    (Ak (h'=Ph h' h0∧r=Ku E.T ty r) (k (Ku E.T ty r) (Ph h' h0)))) K
  |0=>
   match Ug st.hp args with
   |some ivs=>Call E.P f (D6 ivs) [] fun r h'=>Ak (h'=[]∧r=Ku E.T ty r) (K (St.put ⟨st.tm,D7 (AV.namesL args) st.hp⟩ d (Ku E.T ty r)))
   |none=>Tu false (Call E.P f) (D7 (Dj st.hp args) st.hp) st.tm d (Ha st.hp args) (fun h0 r h' k=>Ak (h'=Ph h' h0∧r=Ku E.T ty r) (k (Ku E.T ty r) (Ph h' h0))) K
def Jk(z:List IV)(off len:Nat)(rows:List (List IV)):List (List IV):=rows.take off++List.replicate len z++rows.drop (off+len)
def A1w(T:TT)(st:St)(d:Option Nat)(t:Nat)(x:AV)(K:St→Prop):Prop:=
 match (tl T t).td,x with
 | .slice elem esz _ _, .win n sz off len=>match hget st.hp n,Nat.beq sz esz && Ui T elem with
   |some (.arr ty true sz' rows),true=>(match Nat.beq sz' esz with
    |true=>K (St.put ⟨st.tm,hset st.hp n (.arr ty true esz (Jk (tl T elem).zero off len rows))⟩ d (.tup []))
    |false=>False)
   |_,_=>False
 |_,_=>False
def Gp(s:List UInt8)(pos:Nat):Nat × Nat:=Utf8.decode ⟨s.toArray⟩ pos
def Aka(ti:TI)(st:St)(d:Nat)(x:AV)(lo hi mx:Option AV)(K:St→Prop):Prop:=
 match x with
 | .own n=>match hget st.hp n,ti.td with
   |some (.arr _ _ sz rows), .slice _ esz _ _=>match Acj rows.length lo hi mx,Nat.beq sz esz with
    |some (c,l,h),true=>Ak c (K (St.put ⟨st.tm,D7 [n] st.hp⟩ (some d) (.imm (.sl .any sz (Au4 lo hi l h rows)))))
    |_,_=>False
   |_,_=>False
 |_=>False
def Aaw(st:St)(d e:Nat)(x n:AV)(K:St→Prop):Prop:=
 match x,n with
 | .data nm, .imm (.int .i64 len)=>match hget st.hp nm with
   |some (.arr ty _ 1 rows)=>(match Nat.beq ty (e+2)with
    |true=>Ak ((len=rows.length∧rows.length≤9223372036854775807)∧(∀r,r∈rows→Ck [.int .u8] r=true)) (K (St.put ⟨st.tm,D7 [nm] st.hp⟩ (some d) (.imm (.str (rows.map fun r=>UInt8.ofNat (gI r 0).toNat)))))
    |false=>False)
   |_=>False
 |_,_=>False
def Akx(neg:Bool)(st:St)(d:Nat)(x:AV)(K:St→Prop):Prop:=
 match x with
 | .imm (.sl _ _ rows)=>A4a (rows=[]) (K (St.put st (some d) (.imm (.bool (!neg))))) (K (St.put st (some d) (.imm (.bool neg))))
 | .own n=>match hget st.hp n with
   |some (.arr _ _ _ rows)=>A4a (rows=[]) (K (St.put st (some d) (.imm (.bool (!neg))))) (K (St.put st (some d) (.imm (.bool neg))))
   |_=>False
 |_=>False
def Aeg(E:Env)(H:Option I6)(st:St)(o:Oper)(K:St→Prop):Prop:=
 match H with
 |none=>False
 |some H=>
 let e (ty:Nat) (x:Operand):AV:=strip none (ev E.T st.tm ty x)
 match o.op,o.dst with
 | .assign x,some d=>match e o.type x with
   | .imm (.sl .nil sz [])=>K (Fe st d (.loc d) (.own (.loc d)) (.arr (match (tl E.T o.type).td with | .slice e _ _ _=>e+2 |_=>0) true sz []))
   |_=>False
 | .binOp .eql xt x y _,some d=>match Y7 y,(tl E.T xt).td with
   |true, .slice _ _ _ _=>Akx false st d (e xt x) K
   |_,_=>False
 | .binOp .neq xt x y _,some d=>match Y7 y,(tl E.T xt).td with
   |true, .slice _ _ _ _=>Akx true st d (e xt x) K
   |_,_=>False
 | .alloc t,some d=>match Ui E.T t with
   |true=>(match Bcw (tl E.T t).td with
    |some (k,esz)=>(match Nat.beq (tl E.T t).zero.length (k*esz)with
     |true=>K (Fe st d (.loc d) (.ptr (.loc d) 0) (.arr 1 true esz (chunk esz k (tl E.T t).zero)))
     |false=>False)
    |none=>K (newVar st d t (tl E.T t).sh (D6 (tl E.T t).zero)))
   |false=>False
 | .box t x,some d=>match M7 (e t x) && Nat.beq (flat (e t x)).length (tl E.T t).size with
   |true=>K (newVar st d t (tl E.T t).sh (flat (e t x)))
   |false=>False
 | .store t a x,d=>match Ui E.T t && (M7 (e t x) && Nat.beq (flat (e t x)).length (tl E.T t).size)with
   |true=>(match Bcw (tl E.T t).td with
    |some (k,esz)=>Att st d k esz (e 0 a) (e t x) K
    |none=>Aox st d (tl E.T t).sh (e 0 a) (e t x) K)
   |false=>False
 | .buildSlice t len parts,some d=>Zt E.T st d t len (Mv none (J8 E.T st.tm 0 parts.toList)) K
 | .call ⟨.builtin .append,args,ts⟩,some d=>match args.toList,ts.toList with
   | [s,x],[t,u]=>Ayq E.T st d t u (e t s) (e u x) K
   |_,_=>False
 | .convert s t x,some d=>match (tl E.T s).td,(tl E.T t).td,e s x with
   | .str, .slice elem _ _ _, .imm (.str l)=>match (tl E.T elem).td with
     | .int .u8=>Ak (l.length≤Gq) (K (Fe st d (.loc d) (.own (.loc d)) (.arr 0 true 1 (Ba l))))
     |_=>False
   |_,_,_=>False
 | .range t x,some d=>match (tl E.T t).td,e t x with
   | .str, .imm (.str s)=>K (Fe st d (.loc d) (.ptr (.loc d) 0) (.sit s 0))
   |_,_=>False
 | .makeMap t none,some d=>match (tl E.T t).td with
   | .map=>K (Fe st d (.loc d) (.mp (.loc d)) (.map []))
   |_=>False
 | .mapUpdate t m k x,d=>match (tl E.T t).td,e t m,e 0 k,e 0 x with
   | .map, .mp n, .imm (.str s), .imm (.int .i64 v)=>match hget st.hp n with
     |some (.map l)=>K (St.put ⟨st.tm,hset st.hp n (.map (Vm l s v))⟩ d .undef)
     |_=>False
   |_,_,_,_=>False
 | .next it true,some d=>match e 0 it with
   | .ptr n 0=>match hget st.hp n with
     |some (.sit s pos)=>Br (decide (pos<s.length))
      (K ⟨(d, .tup [.imm (.bool true), .imm (.int .i64 pos), .imm (.int .i32 (Gp s pos).1)])::st.tm,hset st.hp n (.sit s (pos+(Gp s pos).2))⟩)
      (K ⟨(d, .tup [.imm (.bool false)])::st.tm,st.hp⟩)
     |_=>False
   |_=>False
 | .slice t x lo hi mx,some d=>Aka (tl E.T t) st d (e t x) (H9 none (Ki E.T st.tm lo)) (H9 none (Ki E.T st.tm hi)) (H9 none (Ki E.T st.tm mx)) K
 | .call ⟨.builtin .unsafeString,args,ts⟩,some d=>match args.toList,ts.toList with
   | [x,n],[t,u]=>(match (tl E.T t).td with
     | .pointer b=>(match (tl E.T b).td with | .int .u8=>Aaw st d b (e t x) (e u n) K |_=>False)
     |_=>False)
   |_,_=>False
 | .call ⟨.builtin .clear,args,ts⟩,d=>match args.toList,ts.toList with
   | [x],[t]=>A1w E.T st d t (e t x) K
   |_,_=>False
 | .call ⟨.value f,args,ts⟩,d=>match e 0 f,Nat.beq args.toList.length ts.toList.length with
   | .fn f caps,true=>Atl E H st d o.type f (stripL none (evs E.T st.tm args.toList ts.toList)++caps) K
   | .meth f n off,true=>Atl E H st d o.type f (.ptr n off::stripL none (evs E.T st.tm args.toList ts.toList)) K
   |_,_=>False
 |_,_=>False
def Aht:AV:= .imm (.raw (.tuple ⟨[]⟩))
def Aor(t:Nat)(b:Bool):AV→AV
 | .when t' b' want a=>(match Nat.beq t t' with
  |true=>(match Bool.xor b want with |false=>a |true=>Aht)
  |false=> .when t' b' want a)
 | .imm v=> .imm v
 | .ptr n o=> .ptr n o
 | .elt n s i j=> .elt n s i j
 | .own n=> .own n
 | .pin c=> .pin c
 | .fn f c=> .fn f c
 | .agg l=> .agg l
 | .tup l=> .tup l
 | .undef=> .undef
 | .data n=> .data n
 | .win n sz off len=> .win n sz off len
 | .mp n=> .mp n
 | .self n=> .self n
 | .meth f n o=> .meth f n o
def Avj(t:Nat)(b:Bool):List (Nat × AV)→List (Nat × AV)
 | []=>[]
 |(u,a)::r=>(u,Aor t b a)::Avj t b r
def Xb:List (Nat × AV)→List (Nat × AV)
 | []=>[]
 |(u,a)::r=>(u,Ab1 (noW a))::Xb r
def Oh(nt:Nat):Option Nat→Bool |none=>true |some d=>Nat.blt d nt
def Aew(t:Nat)(b:Bool)(st:St):St:=⟨(t, .imm (.raw (.bool b)))::Avj t b st.tm,st.hp⟩
def named:Op→Bool
 | .pick _ _ _=>true
 | .slice _ _ _ _ _=>true
 |_=>false
def Aba(o:Op)(v:AV)(K:AV→Prop):Prop:=
 match named o,v with
 |true, .imm (.bool b)=>Let b fun b=>K (.imm (.bool b))
 |true, .imm (.str s)=>Let s fun s=>K (.imm (.str s))
 |_,v=>Vk v K
def noH:Option I6→Bool |none=>true |some _=>false
def Aoy(E:Env)(H:Option I6)(o:Oper)(t:Nat)(want b:Bool)(st:St)(K:St→Prop):Prop:=
 match Yy E.T (noH H) (some (t,want)) st o with
 |some (.ok v)=>Aba o.op (noW v) fun v=>K (st.put o.dst (.when t b want v))
 |some (.req c v)=>Ak (b=want→c) (Aba o.op (noW v) fun v=>K (st.put o.dst (.when t b want v)))
 |some .bad=>False
 |none=>Br (b == want) (Wd (Aew t want st) fun st=>Aeg E H st o fun st=>Wd st K) (Wd ((Aew t (!want) st).put o.dst Aht) K)
def A2j(E:Env)(H:Option I6)(o:Oper)(t:Nat)(want:Bool)(st:St)(K:St→Prop):Prop:=
 match Yy E.T (noH H) (some (t,want)) st o with
 |some (.ok v)=>Aba o.op (noW v) fun v=>K (st.put o.dst v)
 |some (.req c v)=>Ak c (Aba o.op (noW v) fun v=>K (st.put o.dst v))
 |some .bad=>False
 |none=>Aeg E H st o fun st=>Wd st K
def A7q:Value→Option (Option Bool)
 | .tuple ⟨[]⟩=>some none
 | .bool b=>some (some b)
 |_=>none
def A3z(E:Env)(H:Option I6)(all:List Oper)(o:Oper)(st:St)(K:St→Prop):Prop:=
 match Oh E.nt o.dst with
 |false=>False
 |true=>
 match o.guard with
 |none=>match Yy E.T (noH H) none st o with
  |some (.ok v)=>Aba o.op (noW v) fun v=>K (st.put o.dst v)
  |some (.req c v)=>Ak c (Aba o.op (noW v) fun v=>K (st.put o.dst v))
  |some .bad=>False
  |none=>Aeg E H st o fun st=>Wd st K
 |some (j,want)=>match all[j]? with
  |some oj=>match oj.dst with
   |some t=>match lk st.tm t with
    | .imm (.bool b)=>Aoy E H o t want b st K
    | .imm (.raw v)=>match A7q v with
      |some none=>K (st.put o.dst Aht)
      |some (some b)=>(match Bool.xor b want with |true=>K (st.put o.dst Aht) |false=>A2j E H o t want st K)
      |none=>False
    | .when t' b' w' (.imm (.bool b))=>Br (b' == w') (Wd (Aew t' w' st) fun st=>Aoy E H o t want b st K) (Wd ((Aew t' (!w') st).put o.dst Aht) K)
    |_=>False
   |none=>False
  |none=>False
def Zd(E:Env)(H:Option I6)(all:List Oper):List Oper→St→(St→Prop)→Prop
 | [],st,K=>K st
 |o::r,st,K=>A3z E H all o st fun st=>Zd E H all r st K
def Uj:List Oper→Bool
 | []=>false
 |o::r=>(match o.guard with |some _=>true |none=>false) || Uj r
def Zp(t:Nat):List Oper→Nat
 | []=>0
 |o::r=>(match o.dst with |some d=>(match Nat.beq d t with |true=>1 |false=>0) |none=>0)+Zp t r
def Fh(all:List Oper):List Oper→Bool
 | []=>true
 |o::r=>(match o.guard with
   |none=>true
   |some (j,_)=>match all[j]? with
    |some oj=>(match oj.dst with |some t=>Nat.beq (Zp t (o::r)) 0 |none=>false)
    |none=>false) && Fh all r
def Beu:Oper→Bool
 |o=>match o.op with
  | .alloc _=>true
  | .box _ _=>true
  | .store _ _ _=>true
  | .buildSlice _ _ _=>true
  | .range _ _=>true
  | .next _ _=>true
  | .makeMap _ _=>true
  | .mapUpdate _ _ _ _=>true
  | .call ⟨.value _,_,_⟩=>true
  | .call ⟨.builtin .append,_,_⟩=>true
  | .call ⟨.builtin .clear,_,_⟩=>true
  | .call ⟨.builtin .unsafeString,_,_⟩=>true
  |_=>false
def A0r:List Oper→Nat→Option Nat
 | [],_=>none
 |o::r,n=>match Beu o with |true=>some n |false=>A0r r (n+1)
def Ay9(E:Env)(H:I6)(ops:List Oper)(n:Nat)(st:St)(K:St→Prop):Prop:=
 match Uj ops with
 |false=>Zd E none ops (ops.take n) st fun st=>Zd E (some H) ops (ops.drop n) st K
 |true=>match Fh ops ops with
  |true=>Zd E none ops (ops.take n) st fun st=>Zd E (some H) ops (ops.drop n) st fun st=>Wd ⟨Xb st.tm,st.hp⟩ K
  |false=>False
def Abr(E:Env)(H:Option I6)(ops:List Oper)(st:St)(K:St→Prop):Prop:=
 match Uj ops with
 |false=>Zd E H ops ops st K
 |true=>match Fh ops ops with
  |true=>Zd E H ops ops st fun st=>Wd ⟨Xb st.tm,st.hp⟩ K
  |false=>False
def Aud(T:TT):List Nat→Bool
 | []=>false
 |t::r=>(match (tl T t).td with | .pointer _=>true |_=>false) || Aud T r
def A8x(T:TT)(pc fa:Bool)(o:Oper):Nat:=match o.guard with
 |some _=>3
 |none=>match o.op with
  | .move _=>0
  | .assign x=>(match Y7 x with |true=>3 |false=>0)
  | .binOp _ _ _ y _=>(match Y7 y with |true=>3 |false=>0)
  | .unOp _ _ _=>0
  | .fieldAddr _ _ _=>(match fa with |true=>0 |false=>1)
  | .index _ _ _=>0
  | .slice t _ _ _ _=>(match (tl T t).td with | .str=>0 |_=>1)
  | .load _ _=>1
  | .lookup _ _ _ false=>1
  | .indexAddr _ _ _=>1
  | .extract _ _=>1
  | .field _ _ _=>1
  | .build _ _=>1
  | .nilCheck _=>1
  | .makeFunc _ _ _=>1
  | .convert s d _=>(match (tl T s).td,(tl T d).td with | .str, .slice .. =>3 |_,_=>1)
  | .call ⟨.builtin .len,_,_⟩=>1
  | .call ⟨.builtin .max,_,_⟩=>1
  | .call ⟨.builtin .min,_,_⟩=>1
  | .buildSlice _ _ _=>2
  | .call ⟨.value _,_,ts⟩=>(match pc && !(Aud T ts.toList)with |true=>2 |false=>3)
  |_=>3
def Avg(T:TT)(v:Bool × Bool)(ops:Array Oper)(k:Nat):Nat:=match ops[k]? with |some o=>A8x T v.1 v.2 o |none=>3
def A91(cl:Nat→Nat):List Nat→Option Nat
 | []=>none
 |k::r=>match cl k with |0=>some k |1=>some k |_=>A91 cl r
def Aj9(ops:Array Oper)(cl:Nat→Nat):Nat→Array Bool→List Nat
 |0,_=>[]
 |f+1,listed=>match Region.ready .any ops listed with
  | []=>[]
  |k0::r=>(match A91 cl (k0::r)with
   |some k=>k::Aj9 ops cl f (listed.setIfInBounds k true)
   |none=>k0::Aj9 ops cl f (listed.setIfInBounds k0 true))
def Azb:IV→Bool
 | .int _ _=>true
 | .bool _=>true
 | .str _=>true
 | .sl .nil _ []=>true
 |_=>false
def Azu:List IV→Bool
 | []=>true
 |v::r=>Azb v && Azu r
def A64:AV→Bool
 | .imm v=>Azb v
 | .ptr _ _=>true
 | .own _=>true
 |_=>false
def Asn:List AV→Bool
 | []=>true
 |v::r=>A64 v && Asn r
def A05:AV→Bool
 | .imm v=>(match v with | .agg l=>Azu l |v=>Azb v)
 | .ptr _ _=>true
 | .elt _ _ _ _=>true
 | .own _=>true
 | .agg l=>Asn l
 |_=>false
def Apa(T:TT)(st:St)(o:Oper):PR:=
 let e (ty:Nat) (x:Operand):AV:=strip none (ev T st.tm ty x)
 match o.op with
 | .binOp op xt x y yt=>(match Y7 y with |true=> .bad |false=>Ax1 (isConst x || isConst y) (tl T xt) op (e xt x) (e yt y))
 | .unOp op xt x=>A2y op (e xt x)
 | .fieldAddr t x j=>Aby (tl T t) (e t x) j
 | .index t x i=>Ao8 (tl T t) (e t x) (e t i)
 | .slice t x lo hi mx=>(match e t x with
   | .imm (.str s)=>Yj (tl T t) [] false (.imm (.str s)) (H9 none (Ki T st.tm lo)) (H9 none (Ki T st.tm hi)) (H9 none (Ki T st.tm mx))
   |_=> .bad)
 | .build t parts=>Aou (tl T t) (Mv none (J8 T st.tm 0 parts.toList))
 | .nilCheck x=>Ahi (e 0 x)
 |_=> .bad
def Ajl(E:Env)(st:St)(o:Oper)(K:St→Prop):Prop:=
 match o.guard,Oh E.nt o.dst with
 |none,true=>match o.op with
  | .move x=>Vk (noW (strip none (ev E.T st.tm o.type x))) fun v=>K (st.put o.dst v)
  | .assign x=>Vk (noW (strip none (ev E.T st.tm o.type x))) fun v=>K (st.put o.dst v)
  |_=>match Apa E.T st o with
   | .ok v=>(match A05 v with |true=>Aba o.op (noW v) fun v=>K (st.put o.dst v) |false=>False)
   | .req c v=>(match A05 v with |true=>Ak c (Aba o.op (noW v) fun v=>K (st.put o.dst v)) |false=>False)
   | .bad=>False
 |_,_=>False
def Ao0(E:Env)(st:St)(o:Oper)(K:St→Prop):Prop:=
 match o.guard,Oh E.nt o.dst with
 |none,true=>match Yy E.T false none st o with
  |some (.ok v)=>Aba o.op (noW v) fun v=>K (st.put o.dst v)
  |some (.req c v)=>Ak c (Aba o.op (noW v) fun v=>K (st.put o.dst v))
  |_=>False
 |_,_=>False
def Ajr(E:Env)(st:St)(o:Oper)(K:St→Prop):Prop:=
 let e (ty:Nat) (x:Operand):AV:=strip none (ev E.T st.tm ty x)
 match o.guard,Oh E.nt o.dst with
 |none,true=>match o.op,o.dst with
  | .buildSlice t len parts,some d=>Zt E.T st d t len (Mv none (J8 E.T st.tm 0 parts.toList)) K
  | .call ⟨.value f,args,ts⟩,d=>(match e 0 f,Nat.beq args.toList.length ts.toList.length with
    | .fn f caps,true=>(match E.self f,E.inl f,E.wr f,Ug st.hp (stripL none (evs E.T st.tm args.toList ts.toList)++caps)with
      |none,none,0,some ivs=>Call E.P f (D6 ivs) [] fun r h'=>Ak (h'=[]∧r=Ku E.T o.type r) (K (St.put ⟨st.tm,D7 (AV.namesL (stripL none (evs E.T st.tm args.toList ts.toList)++caps)) st.hp⟩ d (Ku E.T o.type r)))
      |_,_,_,_=>False)
    |_,_=>False)
  |_,_=>False
 |_,_=>False
def Ae2(E:Env)(H:I6)(ops:List Oper)(cl:Nat→Nat):List Nat→St→(St→Prop)→Prop
 | [],st,K=>K st
 |k::r,st,K=>match ops[k]? with
  |none=>False
  |some o=>match cl k with
   |0=>Ajl E st o fun st=>Ae2 E H ops cl r st K
   |1=>Ao0 E st o fun st=>Ae2 E H ops cl r st K
   |2=>Ajr E st o fun st=>Wd st fun st=>Ae2 E H ops cl r st K
   |_=>match o.guard,Oh E.nt o.dst with
    |none,true=>Aeg E (some H) st o fun st=>Wd st fun st=>Ae2 E H ops cl r st K
    |_,_=>False
def A37(t:Nat):List Oper→Option Op
 | []=>none
 |o::r=>match o.dst with |some d=>(match Nat.beq d t with |true=>some o.op |false=>A37 t r) |none=>A37 t r
def A95:AV→Option Nm | .ptr n _=>some n |_=>none
def Asb(st:St)(ops:List Oper):List Oper→List Nm
 | []=>[]
 |o::r=>(match o.op with
  | .store _ (.tmp t) _=>(match A37 t ops with
    |some (.fieldAddr _ (.tmp u) _)=>(match A95 (lk st.tm u)with |some n=>[n] |none=>[])
    |some _=>[]
    |none=>(match A95 (lk st.tm t)with |some n=>[n] |none=>[]))
  |_=>[])++Asb st ops r
def Ax7(T:TT)(ops:Array Oper)(k:Nat):Nat:=match ops[k]? with
 |some o=>(match o.guard,o.op with
  |none, .load _ _=>1
  |none, .store _ _ _=>2
  |none, .build _ _=>0
  |none, .nilCheck _=>0
  |none, .call ⟨.value _,_,ts⟩=>(match Aud T ts.toList with |true=>3 |false=>2)
  |_,_=>A8x T false true o)
 |none=>3
def A19:Nm→Bool | .cell _ _=>true |_=>false
def Aul(hp:Heap):List Nm→Bool
 | []=>true
 |n::r=>(match hget hp n with |some (.blk _ _)=> !(A19 n) |_=>false) && Aul hp r
def A48(E:Env)(ns:List Nm)(st:St)(o:Oper)(K:St→Prop):Prop:=
 match o.guard,Oh E.nt o.dst,o.op with
 |none,true, .load t a=>match strip none (ev E.T st.tm t a)with
  | .ptr n off=>(match Gu n ns,Aul st.hp ns,hget st.hp n,Ack (tl E.T t) st.hp (.ptr n off)with
    |false,true,some (.blk _ _), .ok v=>Aba o.op (noW v) fun v=>K (st.put o.dst v)
    |_,_,_,_=>False)
  |_=>False
 |_,_,_=>False
def A5r(E:Env)(ns:List Nm)(st:St)(o:Oper)(K:St→Prop):Prop:=
 match o.guard,Oh E.nt o.dst,o.op with
 |none,true, .store t a x=>match strip none (ev E.T st.tm 0 a),Ui E.T t && (M7 (strip none (ev E.T st.tm t x)) && Nat.beq (flat (strip none (ev E.T st.tm t x))).length (tl E.T t).size)with
  | .ptr n off,true=>(match Gu n ns && !(A19 n)with
    |true=>Aox st o.dst (tl E.T t).sh (.ptr n off) (strip none (ev E.T st.tm t x)) K
    |false=>False)
  |_,_=>False
 |_,_,_=>False
def A6i(E:Env)(ns:List Nm)(st:St)(o:Oper)(K:St→Prop):Prop:=
 match o.op with
 | .call ⟨.value _,_,_⟩=>Ajr E st o K
 |_=>A5r E ns st o K
def Aj6(E:Env)(ns:List Nm)(ops:List Oper)(cl:Nat→Nat):List Nat→St→(St→Prop)→Prop
 | [],st,K=>K st
 |k::r,st,K=>match ops[k]? with
  |none=>False
  |some o=>match cl k with
   |0=>Ajl E st o fun st=>Aj6 E ns ops cl r st K
   |1=>A48 E ns st o fun st=>Aj6 E ns ops cl r st K
   |2=>A6i E ns st o fun st=>Wd st fun st=>Aj6 E ns ops cl r st K
   |_=>False
def A73:List Nat→(Nat→Prop)→Prop
 | [],_=>True
 |k::r,F=>match r with | []=>F k |_=>F k∧A73 r F
def unG(o:Oper):Oper:= { o with guard:=none }
def Axz(E:Env)(ops:Array Oper)(k:Nat):Nat:=match ops[k]? with
 |some o=>(match o.op with
  | .pick _ _ _=>1
  | .call ⟨.value f,args,ts⟩=>(match f,Aud E.T ts.toList with
    | .func f,false=>(match E.inl f,E.wr f with |none,0=>2 |_,_=>3)
    |_,_=>3)
  |_=>A8x E.T false true (unG o))
 |none=>3
def A9y(k:Nat):List Oper→Bool
 | []=>false
 |o::r=>(match o.guard with |some (j,_)=>Nat.beq j k |none=>false) || A9y k r
def Ai7(ops:List Oper)(st:St)(o:Oper):Option Bool:=match o.guard with
 |none=>some true
 |some (j,want)=>match ops[j]? with
  |some oj=>(match oj.dst with
   |some t=>(match lk st.tm t with | .imm (.bool b)=>some (!(Bool.xor b want)) |_=>none)
   |none=>none)
  |none=>none
def A0n(E:Env)(H:I6)(ops:List Oper)(cl:Nat→Nat)(k:Nat)(st:St)(K:St→Prop):Prop:=
 match ops[k]? with
 |none=>False
 |some o=>match Oh E.nt o.dst with
  |false=>False
  |true=>match Ai7 ops st o with
   |none=>False
   |some false=>K (st.put o.dst .undef)
   |some true=>match cl k with
    |0=>Ajl E st (unG o) K
    |1=>Ao0 E st (unG o) K
    |2=>Ajr E st (unG o) fun st=>Wd st K
    |_=>Aeg E (some H) st (unG o) fun st=>Wd st K
def Aer(ops:List Oper)(k:Nat)(st:St)(K:St→Prop):Prop:=
 match A9y k ops with
 |false=>K st
 |true=>match ops[k]? with
  |some o=>(match o.dst with
   |some d=>(match lk st.tm d with
    | .imm (.bool b)=>Br b (K (st.put (some d) (.imm (.bool true)))) (K (st.put (some d) (.imm (.bool false))))
    |_=>False)
   |none=>False)
  |none=>False
def Ax5(ops:Array Oper)(cl:Nat→Nat)(listed:Array Bool):List Nat→Option Nat
 | []=>none
 |k::r=>match (match cl k with
   |0=>Region.free .any ops listed k
   |1=>Region.free .any ops listed k && (Apb .any ops cl k && A3n cl ops.size k listed)
   |_=>false)with
  |true=>some k
  |false=>Ax5 ops cl listed r
def Za(E:Env)(H:I6)(ops:Array Oper)(cl:Nat→Nat):Nat→Array Bool→St→(St→Prop)→Prop
 |0,listed,st,K=>match Region.ready .any ops listed with | []=>K st |_=>False
 |f+1,listed,st,K=>match Region.ready .any ops listed with
  | []=>K st
  |k0::r=>match Ax5 ops cl listed (k0::r)with
   |some k=>A0n E H ops.toList cl k st fun st=>Aer ops.toList k st fun st=>Za E H ops cl f (listed.setIfInBounds k true) st K
   |none=>A73 (k0::r) fun k=>A0n E H ops.toList cl k st fun st=>Aer ops.toList k st fun st=>Za E H ops cl f (listed.setIfInBounds k true) st K
def Atm(E:Env)(H:I6)(ops:Array Oper)(st:St)(K:St→Prop):List (Bool × Bool)→Prop
 | []=>False
 |v::r=>match Av1 ops (Avg E.T v ops) (Aj9 ops (Avg E.T v ops) ops.size (Array.replicate ops.size false))with
  |true=>Ae2 E H ops.toList (Avg E.T v ops) (Aj9 ops (Avg E.T v ops) ops.size (Array.replicate ops.size false)) st K
  |false=>Atm E H ops st K r
def A5u(E:Env)(ops:Array Oper):List (Bool × Bool)→Bool
 | []=>false
 |v::r=>Av1 ops (Avg E.T v ops) (Aj9 ops (Avg E.T v ops) ops.size (Array.replicate ops.size false)) || A5u E ops r
def A9p:List (Bool × Bool):=[(false,false),(true,false),(false,true),(true,true)]
def Ax0(E:Env)(H:I6)(ops:Array Oper)(st:St)(K:St→Prop):Prop:=
 match A5u E ops A9p with
 |true=>Atm E H ops st K A9p
 |false=>match Av1 ops (Ax7 E.T ops) (Aj9 ops (Ax7 E.T ops) ops.size (Array.replicate ops.size false))with
  |true=>Aj6 E (Asb st ops.toList ops.toList) ops.toList (Ax7 E.T ops) (Aj9 ops (Ax7 E.T ops) ops.size (Array.replicate ops.size false)) st K
  |false=>match Region.noSelect ops && Amq .any ops (Axz E ops)with
   |true=>Za E H ops (Axz E ops) ops.size (Array.replicate ops.size false) st K
   |false=>False
structure Bu (n:Nat) (P:Program) (nt:Nat) (b:Code) (st:St) (Q:Ex→St→Prop):Prop where
 ok:LIn P nt b st Q
structure Av (n:Nat) (P:Program) (nt:Nat) (b:Code) (st:St) (Q:Ex→St→Prop):Prop where
 ok:WP P nt b st Q
structure Jh (n:Nat) (P:Program) (nt l:Nat) (c:Code) (st:St) (Q:Ex→St→Prop):Prop where
 ok:∃rest,findLabel c l=some rest∧SIn P nt c rest st Q
def AC.labless:AC→Bool
 | .seq a b=>a.labless && b.labless
 | .label _=>false
 | .bad _=>false
 | .cut _ _ _ b=>b.labless
 |_=>true
def AC.after(l:Nat):AC→Option AC
 | .seq a b=>match a.after l with |some r=>some (.seq r b) |none=>(match a.labless with |true=>b.after l |false=>none)
 | .label l'=>match Nat.beq l' l with |true=>some .skip |false=>none
 | .cut n live out b=>match b.after l with |some r=>some r |none=>none
 |_=>none
def eval(E:Env)(H:I6):AC→St→(Ex→St→Prop)→Prop
 | .skip,st,Q=>Q .normal st
 | .region _ ops draw,st,Q=>match draw with
   |false=>Abr E (some H) ops.toList st (Q .normal)
   |true=>match A0r ops.toList 0 with
    |none=>(match Region.lexB .any ops with
     |true=>Abr E none ops.toList st (Q .normal)
     |false=>Ax0 E H ops st (Q .normal))
    |some n=>(match Region.lexTailB .any ops n with
     |true=>Ay9 E H ops.toList n st (Q .normal)
     |false=>Ax0 E H ops st (Q .normal))
 | .seq a b,st,Q=>eval E H a st fun e st=>match e with | .normal=>eval E H b st Q | .exit i=>Q (.exit i) st | .goto l=>Q (.goto l) st | .ret=>Q .ret st
 | .cond c x y,st,Q=>match strip none (ev E.T st.tm 0 c)with
   | .imm (.bool b)=>Br b (eval E H x st Q) (eval E H y st Q)
   |_=>False
 | .block id b,st,Q=>eval E H b st fun e st=>match e with
   | .normal=>Q .normal st
   | .exit i=>(match Nat.beq i id with |true=>Q .normal st |false=>Q (.exit i) st)
   | .goto l=>Q (.goto l) st
   | .ret=>Q .ret st
 | .loop n live b,st,Q=>Bu n E.P E.nt b.code (mask live st) Q
 | .exit id live,st,Q=>Wd (mask live st) (Q (.exit id))
 | .goto l live,st,Q=>Wd (mask live st) (Q (.goto l))
 | .scope n live b,st,Q=>eval E H b st fun e st=>match e with
   | .normal=>Q .normal st
   | .exit i=>Q (.exit i) st
   | .goto l=>Jh n E.P E.nt l b.code (mask live st) Q
   | .ret=>Q .ret st
 | .ret live,st,Q=>Wd (mask live st) (Q .ret)
 | .cut n live _ b,st,Q=>Av n E.P E.nt b.code (mask live st) Q
 | .label _,st,Q=>Q .normal st
 |_,_,_=>False
def Bd1(n:Nat)(P:Program)(nt:Nat)(c:Code)(live:List Nat)(K:Ex→St→Prop):Ex→St→Prop
 | .normal,st=>K .normal st
 | .exit i,st=>K (.exit i) st
 | .goto l,st=>Jh n P nt l c (mask live st) K
 | .ret,st=>K .ret st
def Ka(k:Nat)(ac:AC):AC:=match AC.find k ac with |some (.scope _ _ b)=>b |_=> .skip
def A7v(k l:Nat)(ac:AC):AC:=match (Ka k ac).after l with |some r=>r |none=> .skip
def Be3(n:Nat)(P:Program)(nt:Nat)(c:Code)(live:List Nat)(K:Ex→St→Prop):Ex→St→Prop
 | .normal,st=>Bu n P nt c (mask live st) K
 | .exit i,st=>K (.exit i) st
 | .goto l,st=>K (.goto l) st
 | .ret,st=>K .ret st
def Bfx(out:List Nat)(K:Ex→St→Prop):Ex→St→Prop
 | .normal,st=>K .normal (mask out st)
 | .exit i,st=>K (.exit i) st
 | .goto l,st=>K (.goto l) st
 | .ret,st=>K .ret st
def A8(k:Nat)(ac:AC):AC:=match AC.find k ac with |some (.loop _ _ b)=>b |_=> .skip
def Af(k:Nat)(ac:AC):AC:=match AC.find k ac with |some (.cut _ _ _ b)=>b |_=> .skip
def codeOf(f:Func):Code:=match f.body with |some c=>c |none=> .skip
def At3(T:TT)(st:St):ResultVar→Option AV
 | .tmp t=>some (lk st.tm t)
 | .cell a t=>match Ack (tl T t) st.hp (lk st.tm a)with | .ok v=>some v | .req _ v=>some v |_=>none
def Ai6(T:TT)(st:St):ResultVar→Option Prop
 | .tmp _=>none
 | .cell a t=>match Ack (tl T t) st.hp (lk st.tm a)with | .req c _=>some c |_=>none
def Yf(T:TT)(st:St):List ResultVar→Prop→Prop
 | [],K=>K
 |r::rs,K=>match Ai6 T st r with |some c=>Ak c (Yf T st rs K) |none=>Yf T st rs K
def U6(T:TT)(st:St):List ResultVar→Option (List AV)
 | []=>some []
 |r::rs=>match At3 T st r,U6 T st rs with |some a,some l=>some (a::l) |_,_=>none
def Z6(l:List AV):AV:=match l with | [a]=>a |l=> .tup l
def isW:AV→Bool | .when _ _ _ _=>true |_=>false
def A0l:List AV→Bool
 | []=>true
 |a::r=>(match isW a with |true=>false |false=>true) && A0l r
def An9:List (Nat × AV)→Bool
 | []=>true
 |(_,a)::r=>(match isW a with |true=>false |false=>true) && An9 r
def inlD:Env→Nat→I6
 |E,0=>fun _ _ _ _ _ _=>False
 |E,k+1=>fun ac nt rs args h Q=>match A0l args && Nat.ble args.length nt with
  |false=>False
  |true=>eval { E with nt:=nt } (inlD E k) ac ⟨numL args 0,h⟩ fun e st=>match e with
   | .normal=>Yf E.T st rs (match U6 E.T st rs with |some l=>Q (Z6 l) st.hp |none=>False)
   | .ret=>Yf E.T st rs (match U6 E.T st rs with |some l=>Q (Z6 l) st.hp |none=>False)
   | .exit _=>False
   | .goto _=>False
 where numL:List AV→Nat→List (Nat × AV)
  | [],_=>[]
  |a::r,j=>(j,a)::numL r (j+1)
def G5(k:Nat):Heap→List Nm
 | []=>[]
 |(n,_)::r=>n::G5 k r
def A0u(hp:Heap):AV→Option AV
 | .tup l=>match Ug hp l with |some vs=>some (.tup (D6 vs)) |none=>none
 |a=>match Oj hp a with |some v=>some (.imm v) |none=>none
def A3q(hp:Heap):AV→Option AV
 | .win n s o len=>match n.ext with |true=>some (.win n s o len) |false=>none
 | .own n=>match n.ext,hget hp n with |true,some (.arr _ _ sz rows)=>some (.win n sz 0 rows.length) |_,_=>none
 |_=>none
def Ax2(hp h0:Heap)(n:Nm):Option Heap:=match hget hp n,Gu (.loc 0) (G5 0 h0) || Gu n (G5 0 h0)with
 |some (.arr _ true sz rows),false=>some [(.loc 0, .arr 0 true sz rows)]
 |_,_=>none
def keepR(hp h0:Heap):AV→Option (AV × Heap)
 | .own m=>match Ax2 hp h0 m with |some e=>some (.own (.loc 0),e) |none=>none
 | .tup l=>match l with
   | .own m::l=>(match Ax2 hp h0 m,Gu m (AV.namesL l),Ug hp l with |some e,false,some vs=>some (.tup (.own (.loc 0)::D6 vs),e) |_,_,_=>none)
   |_=>none
 |_=>none
def Ane:AV→List Nm | .tup l=>(match l with |_::l=>AV.namesL l | []=>[]) |_=>[]
def finish(m:Nat)(T:TT)(rs:List ResultVar)(h0:Heap)(Q:AV→Heap→Prop)(st:St):Prop:=
 Yf T st rs <|
 match U6 T st rs with
 |none=>False
 |some l=>match (match m with |2=>keepR st.hp h0 (Z6 l) |3=>keepR st.hp h0 (Z6 l) |_=>none)with
  |some (r,e)=>Q r (De (Nm.beq (.loc 0)) (Io (D7 (Ane (Z6 l)) st.hp) (G5 0 h0))++e)
  |none=>match (match m with |1=>A3q st.hp (Z6 l) |_=>none)with
   |some r=>Q r (Io st.hp (G5 0 h0))
   |none=>match A0u st.hp (Z6 l)with
    |some r=>Q r (Io (D7 (AV.names (Z6 l)) st.hp) (G5 0 h0))
    |none=>False
def Bfe(E:Env)(k m:Nat)(ac:AC)(rs:List ResultVar)(args:List AV)(h:Heap)(Q:AV→Heap→Prop):Prop:=
 eval E (inlD E k) ac ⟨inlD.numL args 0,h⟩ fun e st=>match e with
  | .normal=>finish m E.T rs h Q st
  | .ret=>finish m E.T rs h Q st
  | .exit _=>False
  | .goto _=>False
end Go.Proofs.Sim

import Derived.Test.YtaggabcajidnnaaGreatDoorSimB
import Derived.Deep.Quiet
import Derived.Test.YtaggabcajidnnaaGreatDoorSimT
namespace Go.Proofs.Sim
open Go
inductive AC where
 |skip |region (id:Nat) (ops:Array Oper) (draw:Bool) |seq (a b:AC) |cond (c:Operand) (x y:AC) |block (id:Nat) (b:AC)
 |loop (n:Nat) (live:List Nat) (b:AC) |exit (id:Nat) (live:List Nat) |ret (live:List Nat) |cut (n:Nat) (live out:List Nat) (b:AC)
 |label (l:Nat) |scope (n:Nat) (live:List Nat) (b:AC) |goto (l:Nat) (live:List Nat) |bad (c:Code)
 deriving Inhabited
def AC.code:AC→Code
 | .skip=> .skip
 | .region id ops d=> .region id ops d
 | .seq a b=> .seq a.code b.code
 | .cond c x y=> .cond c x.code y.code
 | .block id b=> .block id b.code
 | .loop _ _ b=> .loop b.code
 | .exit id _=> .exit id
 | .ret _=> .ret
 | .cut _ _ _ b=>b.code
 | .label l=> .label l
 | .scope _ _ b=> .scope b.code
 | .goto l _=> .goto l
 | .bad c=>c
abbrev A6c:=List (Nat × List Nat × List Nat)
def plk:A6c→Nat→Option (List Nat × List Nat)
 | [],_=>none
 |(m,l)::r,n=>match Nat.beq m n with |true=>some l |false=>plk r n
def pl0(o:Option (List Nat × List Nat)):List Nat:=match o with |some l=>l.1 |none=>[]
def A8(pl:A6c)(rs:List Nat):Code→Nat→AC × Nat
 | .skip,n=>(.skip,n)
 | .region id ops d,n=>(.region id ops d,n)
 | .seq a b,n=>match A8 pl rs a n with
   |(a',n1)=>match A8 pl rs b (n1+1)with
    |(b',n2)=>match plk pl n1 with
     |some (live,out)=>(.seq a' (.cut n1 live out b'),n2)
     |none=>(.seq a' b',n2)
 | .cond c x y,n=>match A8 pl rs x n with
   |(x',n1)=>match A8 pl rs y n1 with
    |(y',n2)=>(.cond c x' y',n2)
 | .block id b,n=>match A8 pl rs b n with |(b',n1)=>(.block id b',n1)
 | .loop b,n=>match A8 pl rs b (n+1)with |(b',n1)=>(.loop n (pl0 (plk pl n)) b',n1)
 | .exit id,n=>(.exit id (pl0 (plk pl n)),n+1)
 | .ret,n=>(.ret rs,n)
 | .label l,n=>(.label l,n)
 | .scope b,n=>match A8 pl rs b (n+1)with |(b',n1)=>(.scope n (pl0 (plk pl n)) b',n1)
 | .goto l,n=>(.goto l (pl0 (plk pl n)),n+1)
 |c,n=>(.bad c,n)
def AC.find(k:Nat):AC→Option AC
 | .seq a b=>match a.find k with |some x=>some x |none=>b.find k
 | .cond _ x y=>match x.find k with |some z=>some z |none=>y.find k
 | .block _ b=>b.find k
 | .loop n live b=>match Nat.beq n k with |true=>some (.loop n live b) |false=>b.find k
 | .cut n live out b=>match Nat.beq n k with |true=>some (.cut n live out b) |false=>b.find k
 | .scope n live b=>match Nat.beq n k with |true=>some (.scope n live b) |false=>b.find k
 |_=>none
structure Env where
 P:Program
 T:TT
 nt:Nat
 inl:Nat→Option (AC × Nat × List ResultVar)
 self:Nat→Option Nat
 wr:Nat→Nat
def Al5(E:Env)(nt:Nat):Env:=⟨E.P,E.T,nt,E.inl,E.self,E.wr⟩
def Bbs:List (Nat × AC × Nat × List ResultVar)→Nat→Option (AC × Nat × List ResultVar)
 | [],_=>none
 |(m,x)::r,n=>match Nat.beq m n with |true=>some x |false=>Bbs r n
def Bbt:List (Nat × Nat)→Nat→Option Nat
 | [],_=>none
 |(m,x)::r,n=>match Nat.beq m n with |true=>some x |false=>Bbt r n
def Bnj:List (Nat × Nat)→Nat→Nat
 | [],_=>0
 |(m,x)::r,n=>match Nat.beq m n with |true=>x |false=>Bnj r n
def fNm:Nm→(Nm→Prop)→Prop
 | .loc t,k=>k (.loc t)
 | .cell n j,k=>fNm n fun n=>k (.cell n j)
 | .arg i,k=>k (.arg i)
 | .up n,k=>fNm n fun n=>k (.up n)
 | .sub t n,k=>fNm n fun n=>k (.sub t n)
def fIV:IV→(IV→Prop)→Prop
 | .bool b,k=>k (.bool b)
 | .int i n,k=>k (.int i n)
 | .str s,k=>k (.str s)
 | .sl i sz rows,k=>k (.sl i sz rows)
 | .agg l,k=>k (.agg l)
 | .raw v,k=>k (.raw v)
 | .ifc b,k=>k (.ifc b)
mutual
def Yh:AV→(AV→Prop)→Prop
 | .imm x,k=>fIV x fun x=>k (.imm x)
 | .ptr n o,k=>fNm n fun n=>k (.ptr n o)
 | .elt n sz i j,k=>fNm n fun n=>k (.elt n sz i j)
 | .own n,k=>fNm n fun n=>k (.own n)
 | .pin c,k=>k (.pin c)
 | .fn f caps,k=>Ath caps fun caps=>k (.fn f caps)
 | .agg l,k=>Ath l fun l=>k (.agg l)
 | .tup l,k=>Ath l fun l=>k (.tup l)
 | .when t b want a,k=>Yh a fun a=>k (.when t b want a)
 | .undef,k=>k .undef
 | .data n,k=>fNm n fun n=>k (.data n)
 | .win n sz off len,k=>fNm n fun n=>k (.win n sz off len)
 | .mp n,k=>fNm n fun n=>k (.mp n)
 | .self n,k=>fNm n fun n=>k (.self n)
 | .meth f n o,k=>fNm n fun n=>k (.meth f n o)
def Ath:List AV→(List AV→Prop)→Prop
 | [],k=>k []
 |a::r,k=>Yh a fun a=>Ath r fun r=>k (a::r)
end
def fTm:List (Nat × AV)→(List (Nat × AV)→Prop)→Prop
 | [],k=>k []
 |(t,a)::r,k=>Yh a fun a=>fTm r fun r=>k ((t,a)::r)
def Bg5:Entry→(Entry→Prop)→Prop
 | .blk ty cells,k=>Ath cells fun cells=>k (.blk ty cells)
 | .arr ty w sz rows,k=>k (.arr ty w sz rows)
 | .sit s p,k=>k (.sit s p)
 | .map l,k=>k (.map l)
def fHp:Heap→(Heap→Prop)→Prop
 | [],k=>k []
 |(n,e)::r,k=>fNm n fun n=>Bg5 e fun e=>fHp r fun r=>k ((n,e)::r)
def Zr(st:St)(k:St→Prop):Prop:=match st with |⟨tm,hp⟩=>fTm tm fun tm=>fHp hp fun hp=>k ⟨tm,hp⟩
mutual
def AV.has(p:Nm→Bool):AV→Bool
 | .ptr n _=>p n
 | .elt n _ _ _=>p n
 | .own n=>p n
 | .fn _ caps=>AV.hasL p caps
 | .agg l=>AV.hasL p l
 | .tup l=>AV.hasL p l
 | .when _ _ _ a=>AV.has p a
 | .data n=>p n
 | .win n _ _ _=>p n
 | .mp n=>p n
 | .self n=>p n
 | .meth _ n _=>p n
 |_=>false
def AV.hasL(p:Nm→Bool):List AV→Bool
 | []=>false
 |a::r=>AV.has p a || AV.hasL p r
end
def Uu(p:Nm→Bool)(a:AV):AV:=match AV.has p a with |true=> .undef |false=>a
def Ct(p:Nm→Bool):List AV→List AV
 | []=>[]
 |a::r=>Uu p a::Ct p r
def Jv(p:Nm→Bool):List (Nat × AV)→List (Nat × AV)
 | []=>[]
 |(t,a)::r=>(t,Uu p a)::Jv p r
def M3(p:Nm→Bool):Entry→Entry
 | .blk ty cells=> .blk ty (Ct p cells)
 |e=>e
def Cq(p:Nm→Bool):Heap→Heap
 | []=>[]
 |(n,e)::r=>match p n with |true=>Cq p r |false=>(n,M3 p e)::Cq p r
def rooted(d:Nat):Nm→Bool
 | .loc t=>Nat.beq t d
 | .cell n _=>rooted d n
 |_=>false
mutual
def AV.names:AV→List Nm
 | .ptr n _=>[n]
 | .elt n _ _ _=>[n]
 | .own n=>[n]
 | .fn _ caps=>AV.namesL caps
 | .agg l=>AV.namesL l
 | .tup l=>AV.namesL l
 | .when _ _ _ a=>AV.names a
 | .data n=>[n]
 | .win n _ _ _=>[n]
 | .mp n=>[n]
 | .self n=>[n]
 | .meth _ n _=>[n]
 |_=>[]
def AV.namesL:List AV→List Nm
 | []=>[]
 |a::r=>AV.names a++AV.namesL r
end
def Gv(n:Nm):List Nm→Bool
 | []=>false
 |m::r=>Nm.beq m n || Gv n r
def A7a:Entry→List Nm
 | .blk _ cells=>AV.namesL cells
 |_=>[]
def reach(hp:Heap):Nat→List Nm→List Nm→List Nm
 |0,_,acc=>acc
 |_+1,[],acc=>acc
 |k+1,n::r,acc=>match Gv n acc with
  |true=>reach hp k r acc
  |false=>match hget hp n with
   |some e=>reach hp k (r++A7a e) (acc++[n])
   |none=>reach hp k r acc
def Ja(hp:Heap):List Nm→Heap
 | []=>[]
 |n::r=>match hget hp n with |some e=>(n,e)::Ja hp r |none=>Ja hp r
def A3h:List (Nat × AV)→List Nm
 | []=>[]
 |(_,a)::r=>AV.names a++A3h r
def Apd:Heap→List Nm
 | []=>[]
 |(n,_)::r=>match n.ext with |true=>n::Apd r |false=>Apd r
def Bjh:Nm→Nat | .arg i=>i |_=>1000000
def Bjb(n:Nm):List Nm→List Nm
 | []=>[n]
 |m::r=>match Nat.ble (Bjh n) (Bjh m)with |true=>n::m::r |false=>m::Bjb n r
def Bcq:List Nm→List Nm
 | []=>[]
 |n::r=>Bjb n (Bcq r)
def Z5(ns:List Nm):Heap→Heap
 | []=>[]
 |(n,e)::r=>match Gv n ns with |true=>Z5 ns r |false=>(n,e)::Z5 ns r
def anyC:IV→IV | .sl _ sz rows=> .sl .any sz rows |v=>v
def Ao4:List IV→List IV | []=>[] |v::r=>anyC v::Ao4 r
def Bmx:IV→IV | .agg l=> .agg (Ao4 l) | .sl _ sz rows=> .sl .any sz rows |v=>v
mutual
def P6(hp:Heap):AV→Option IV
 | .imm v=>some (Bmx v)
 | .own n=>match hget hp n with |some (.arr _ _ sz rows)=>some (.sl .any sz rows) |_=>none
 | .agg l=>match Wo hp l with |some vs=>some (.agg vs) |none=>none
 |_=>none
def Wo(hp:Heap):List AV→Option (List IV)
 | []=>some []
 |a::r=>match P6 hp a with
  |some v=>(match Wo hp r with |some vs=>some (v::vs) |none=>none)
  |none=>none
end
def Du(ns:List Nm):Heap→Heap
 | []=>[]
 |(n,e)::r=>match Gv n ns,e with
  |true, .arr ty _ sz rows=>(n, .arr ty false sz rows)::Du ns r
  |_,e=>(n,e)::Du ns r
def chunk(sz:Nat):Nat→List IV→List (List IV)
 |0,_=>[]
 |n+1,l=>l.take sz::chunk sz n (l.drop sz)
def Bmz(td:TD):Option (Nat × Nat):=match td with | .array k _ esz=>some (k,esz) |_=>none
def Apq:AV→Option Nat
 | .imm (.sl .nil sz [])=>some sz
 |_=>none
def Iq(n:Nm):List AV→Nat→List AV
 | [],_=>[]
 |a::r,j=>(match Apq a with |some _=> .own (.cell n j) |none=>a)::Iq n r (j+1)
def Bps:CS→Nat | .sl _ e=>e+2 |_=>0
def Ie(n:Nm):List CS→List AV→Nat→Heap
 |_,[],_=>[]
 |cs,a::r,j=>match Apq a with |some sz=>(.cell n j, .arr (match cs with |c::_=>Bps c | []=>0) true sz [])::Ie n cs.tail r (j+1) |none=>Ie n cs.tail r (j+1)
def newVar(st:St)(d ty:Nat)(sh:List CS)(cells:List AV):St:=
 let p:=rooted d
 let cs:=Ct p cells
 ⟨(d, .ptr (.loc d) 0)::Jv p st.tm,(.loc d, .blk ty (Iq (.loc d) cs 0))::(Ie (.loc d) sh cs 0++Cq p st.hp)⟩
def D7(n:Nm):List AV→Nat→Nm→Bool
 | [],_,_=>false
 |a::r,j,m=>match Apq a with |some _=>Nm.beq (.cell n j) m || D7 n r (j+1) m |none=>D7 n r (j+1) m
def setRow(row:List IV)(j:Nat)(vs:List IV)(sz:Nat):List IV:=
 match j,Nat.beq vs.length sz with
 |0,true=>vs
 |_,_=>row.take j++vs++row.drop (j+vs.length)
def Apy:AV→Bool
 | .imm (.agg _)=>false
 | .imm (.raw v)=>match v with | .pointer _=>true | .nilFunc=>true | .nilIface=>true | .map _=>true |_=>false
 | .imm _=>true
 | .ptr _ _=>true
 | .elt _ _ _ _=>true
 | .own _=>true
 | .pin _=>true
 | .fn _ _=>true
 | .agg _=>false
 | .tup _=>false
 | .when _ _ _ _=>false
 | .undef=>false
 | .data _=>true
 | .win _ _ _ _=>true
 | .mp _=>true
 | .self _=>true
 | .meth _ _ _=>true
def Akh:List AV→Bool
 | []=>true
 |a::r=>Apy a && Akh r
def Auh(st:St)(d:Option Nat)(sh:List CS)(a v:AV)(K:St→Prop):Prop:=
 match a with
 | .ptr n off=>match hget st.hp n with
   |some (.blk ty cells)=>match Nat.ble (off+(flat v).length) cells.length && Akh (flat v)with
    |true=>
     let p:=D7 n (flat v) off
     let vs:=Ct p (flat v)
     K (St.put ⟨Jv p st.tm,Ie n sh vs off++hset (Cq p st.hp) n (.blk ty (splice (Ct p cells) off (Iq n vs off)))⟩ d .undef)
    |false=>False
   |_=>False
 | .elt n sz i j=>match hget st.hp n with
   |some (.arr ty true sz' rows)=>match Nat.beq sz sz' && Akh (flat v),toI (flat v)with
    |true,some vs=>match Nat.ble (j+vs.length) sz with
     |true=>Ag (i<rows.length) (K (St.put ⟨st.tm,hset st.hp n (.arr ty true sz (rows.set i (setRow (rows.getD i []) j vs sz)))⟩ d .undef))
     |false=>False
    |_,_=>False
   |_=>False
 |_=>False
def Az4(st:St)(d:Option Nat)(k esz:Nat)(a v:AV)(K:St→Prop):Prop:=
 match a with
 | .ptr n 0=>match hget st.hp n with
   |some (.arr ty true sz rows)=>match Nat.beq sz esz && Akh (flat v),toI (flat v)with
    |true,some vs=>(match Nat.beq vs.length (k*esz)with
     |true=>Ag (rows.length=k) (K (St.put ⟨st.tm,hset st.hp n (.arr ty true esz (chunk esz k vs))⟩ d .undef))
     |false=>False)
    |_,_=>False
   |_=>False
 |_=>False
def Fe(st:St)(d:Nat)(n:Nm)(v:AV)(e:Entry):St:=
 let p:=Nm.beq n
 ⟨(d,v)::Jv p st.tm,(n,e)::Cq p st.hp⟩
def Ay(l:List UInt8):List (List IV):=l.map fun b=>[.int .u8 b.toNat]
def rowsOf(ti:TI)(hp:Heap)(sz:Nat)(x:AV):Option (List (List IV)):=
 match ti.td,x with
 | .slice _ _ _ _, .imm (.sl _ sz' rows)=>match Nat.beq sz sz' with |true=>some rows |false=>none
 | .slice _ _ _ _, .own n=>match hget hp n with |some (.arr _ _ sz' rows)=>(match Nat.beq sz sz' with |true=>some rows |false=>none) |_=>none
 | .str, .imm (.str s)=>match Nat.beq sz 1 with |true=>some (Ay s) |false=>none
 |_,_=>none
def Gq:Nat:=140737488355328
def Ww(T:TT)(t:Nat):Bool:=match (tl T t).td with | .missing=>false | .tuple _=>false |_=>true
def A7e(T:TT)(st:St)(d:Nat)(ty tx:Nat)(s x:AV)(K:St→Prop):Prop:=
 match (tl T ty).td with
 | .slice elem esz eb _=>match Ww T elem with
  |false=>False
  |true=>match rowsOf (tl T tx) st.hp esz x with
   |some xs=>match s with
    | .own n=>match hget st.hp n with
      |some (.arr ty w sz rows)=>match Nat.beq sz esz && !(Nat.beq ty 1)with
       |true=>Ag ((rows.length+xs.length)*eb≤Gq∧rows.length+xs.length≤Gq) (K (Fe st d n (.own n) (.arr (match Nat.beq ty (elem+2)with |true=>elem+2 |false=>0) w esz (rows++xs))))
       |false=>False
      |_=>False
    | .imm (.sl .nil _ [])=>Ag (xs.length*eb≤Gq∧xs.length≤Gq) (K (Fe st d (.loc d) (.own (.loc d)) (.arr (elem+2) true esz xs)))
    | .imm (.sl .tight _ [])=>Ag (xs.length*eb≤Gq∧xs.length≤Gq) (K (Fe st d (.loc d) (.win (.loc d) esz 0 xs.length) (.arr 1 true esz xs)))
    |_=>False
   |none=>False
 |_=>False
def setRows(hp:Heap)(rows:List (List IV)):List (Nat × AV)→Option (List (List IV))
 | []=>some rows
 |(i,v)::r=>match Wo hp (flat v)with
  |some vs=>setRows hp (rows.set i vs) r
  |none=>none
def Att(sz:Nat)(len:Nat):List (Nat × AV)→Bool
 | []=>true
 |(i,v)::r=>(Oe v && Akh (flat v)) && (Nat.beq (flat v).length sz && (Nat.blt i len && Att sz len r))
def Sj:List (Nat × AV)→List Nm
 | []=>[]
 |(_,v)::r=>AV.names v++Sj r
def Apl:Nat→Nat→Nat |0,_=>0 |_+1,e=>e+2
def Acw(T:TT)(st:St)(d:Nat)(ty len:Nat)(parts:List (Nat × AV))(K:St→Prop):Prop:=
 match (tl T ty).td with
 | .slice elem esz _eb _=>match Ww T elem && (Nat.ble (len*esz) 4096 && Att esz len parts),setRows st.hp (List.replicate len (tl T elem).zero) parts with
   |true,some rows=>
    K (Fe ⟨st.tm,Du (Sj parts) st.hp⟩ d (.loc d) (.own (.loc d)) (.arr (Apl len elem) true esz rows))
   |_,_=>False
 |_=>False
mutual
def AV.ren(f:Nm→Nm):AV→AV
 | .ptr n o=> .ptr (f n) o
 | .elt n s i j=> .elt (f n) s i j
 | .own n=> .own (f n)
 | .fn g caps=> .fn g (AV.renL f caps)
 | .agg l=> .agg (AV.renL f l)
 | .tup l=> .tup (AV.renL f l)
 | .when t b w a=> .when t b w (AV.ren f a)
 | .imm v=> .imm v
 | .pin c=> .pin c
 | .undef=> .undef
 | .data n=> .data (f n)
 | .win n sz off len=> .win (f n) sz off len
 | .mp n=> .mp (f n)
 | .self n=> .self (f n)
 | .meth g n o=> .meth g (f n) o
def AV.renL(f:Nm→Nm):List AV→List AV
 | []=>[]
 |a::r=>AV.ren f a::AV.renL f r
end
def Afv(f:Nm→Nm):Entry→Entry
 | .blk ty cells=> .blk ty (AV.renL f cells)
 |e=>e
def La(f:Nm→Nm):Heap→Heap
 | []=>[]
 |(n,e)::r=>(f n,Afv f e)::La f r
def Aok(n:Nm):List Nm→Nat→Nm
 | [],_=> .up n
 |m::r,i=>match Nm.beq m n with |true=> .arg i |false=>Aok n r (i+1)
def Im(ns:List Nm)(n:Nm):Nm:=Aok n ns 0
def Atx(d:Nm):List Nm→Nat→Nm
 | [],_=>d
 |m::_,0=>m
 |_::r,i+1=>Atx d r i
def Aur(ns:List Nm)(d:Nat):Nm→Nm
 | .arg i=>Atx (.sub d (.arg i)) ns i
 | .loc t=> .sub d (.loc t)
 | .cell n j=> .sub d (.cell n j)
 | .up n=> .sub d (.up n)
 | .sub t n=> .sub d (.sub t n)
def Aae(d:Nat):Nm→Bool
 | .sub t _=>Nat.beq t d
 | .cell n _=>Aae d n
 | .loc _=>false
 | .arg _=>false
 | .up _=>false
def Aum(h:Heap)(n:Nm):Bool:=match hget h n with |some (.arr ty _ _ _)=> !(Nat.beq ty 1) |_=>false
def Ba8(p:Nm→Bool):List Nm→Bool
 | []=>true
 |n::r=>p n && Ba8 p r
def Bpc(old new:AV):AV:=
 match old with
 | .imm (.bool _)=> .imm (.bool (rB new))
 | .imm (.int k _)=> .imm (.int k (rI new))
 | .imm (.str _)=> .imm (.str (rS new))
 | .imm (.sl _ sz _)=> .imm (.sl .any sz (rR new))
 | .imm (.ifc _)=> .imm (.ifc (rN new))
 | .imm (.raw _)=> .imm (.raw (rV new))
 |a=>a
def Bfe:List AV→List AV→Nat→List AV
 | [],_,_=>[]
 |o::r,l,j=>Bpc o (l.getD j .undef)::Bfe r l (j+1)
def Au(h:Heap)(n:Nm):List AV:=match hget h n with |some (.blk _ cells)=>cells |_=>[]
def Cn(h:Heap)(n:Nm):List (List IV):=match hget h n with |some (.arr _ _ _ rows)=>rows |_=>[]
def mapOf(h:Heap)(n:Nm):List (List UInt8 × Int):=match hget h n with |some (.map l)=>l |_=>[]
def Ra(h':Heap):Heap→Heap
 | []=>[]
 |(n, .blk ty cells)::r=>(n, .blk ty (Bfe cells (Au h' n) 0))::Ra h' r
 |(n, .arr ty w sz _rows)::r=>(n, .arr ty w sz (Cn h' n))::Ra h' r
 |(n, .map _)::r=>(n, .map (mapOf h' n))::Ra h' r
 |(n,e)::r=>(n,e)::Ra h' r
def Hd(hp:Heap):List AV→List AV
 | []=>[]
 |a::r=>(match P6 hp a with |some v=> .imm v |none=>a)::Hd hp r
def Cv(hp:Heap):List AV→List Nm
 | []=>[]
 |a::r=>(match P6 hp a with |some _v=>AV.names a |none=>[])++Cv hp r
def Aub:Nat:=1000000
def Anl(t:Nat)(st:St):St:=match lk st.tm t with
 | .own n=>(match hget st.hp n with
   |some (.arr _ _ sz rows)=>⟨(t, .imm (.sl .any sz rows))::st.tm,Du [n] st.hp⟩
   |_=>st)
 | .ptr n _=>(match hget st.hp n with
   |some (.blk ty cells)=>⟨st.tm,hset (Du (Cv st.hp cells) st.hp) n (.blk ty (Hd st.hp cells))⟩
   |_=>st)
 |_=>st
def K5:List Nat→St→St
 | [],st=>st
 |t::r,st=>match Nat.ble Aub t with |true=>K5 r (Anl (t - Aub) st) |false=>K5 r st
def Ah8(tm:List (Nat × AV)):List Nat→List (Nat × AV)
 | []=>[]
 |t::r=>match Nat.ble Aub t with |true=>(t - Aub,lk tm (t - Aub))::Ah8 tm r |false=>(t,lk tm t)::Ah8 tm r
def Aln(n:Nm):Entry→Entry
 | .blk ty [.imm (.raw (.pointer none)), .own m]=> .blk ty [.self n, .own m]
 | .blk ty [.ptr k 0, .own m]=>(match Nm.beq k n with |true=> .blk ty [.self n, .own m] |false=> .blk ty [.ptr k 0, .own m])
 |e=>e
def Aie:Heap→Heap
 | []=>[]
 |(n,e)::r=>(n,Aln n e)::Aie r
def mask(live:List Nat)(st:St):St:=
 let st:=K5 live st
 let tm:=Ah8 st.tm live
 let hp:=Aie st.hp
 ⟨tm,Ja hp (reach hp 400 (A3h tm++Bcq (Apd hp)) [])⟩
abbrev Jh:=AC→Nat→List ResultVar→List AV→Heap→(AV→Heap→Prop)→Prop
def Bm9:Option Nat→Nat |some d=>d |none=>0
def Anw(hp:Heap):List Nm→List Nm
 | []=>[]
 |n::r=>match hget hp n with |some (.arr _ _ _ _)=>Anw hp r |_=>n::Anw hp r
def handed(shy:Bool)(hp:Heap)(ns:List Nm):List Nm:=match shy with |true=>Anw hp ns |false=>ns
def Azo(k:Nat):List Nm→List Nm→List Nm
 |acc,[]=>acc
 |acc,n::r=>match Gv n acc || Aae k n with |true=>Azo k acc r |false=>Azo k (acc++[n]) r
def A3z:Heap→List Nm
 | []=>[]
 |(_,e)::r=>A7a e++A3z r
def Bd8(k:Nat)(hp:Heap)(l:List Nm):List Nm:=Azo k (reach hp 400 l []) (A3z (Ja hp (reach hp 400 l []))++l)
def Wm(shy:Bool)(C:List AV→Heap→(AV→Heap→Prop)→Prop)(hp:Heap)(tm:List (Nat × AV))(d:Option Nat)(args:List AV)(Q:Heap→AV→Heap→(AV→Heap→Prop)→Prop)(K:St→Prop):Prop:=
 let k:=Bm9 d
 let ns:=Bd8 k hp (AV.namesL args)
 let ms:=handed shy hp ns
 let h0:=La (Im ns) (Ja hp ms)
 let p:=fun n=>(Gv n ms && Aum hp n) || Aae k n
 match Ba8 (fun n=> !(Aae k n)) ns with
 |true=>C (AV.renL (Im ns) args) h0 fun r h'=>Q h0 r h' fun r h'=>K (St.put ⟨Jv p tm,La (Aur ns k) h'++Cq p (Z5 ms hp)⟩ d (noW (AV.ren (Aur ns k) r)))
 |false=>False
def A7h(st:St)(d:Option Nat)(bt:Nat)(args:List AV)(K:St→Prop):Prop:=
 match args with
 | [.ptr n 0]=>match hget st.hp n with
   |some (.blk ty [a,c])=>match Nat.beq ty bt,a with
    |true, .imm (.raw (.pointer none))=>K (St.put ⟨st.tm,hset st.hp n (.blk ty [.ptr n 0,c])⟩ d (.tup []))
    |true, .ptr m 0=>match Nm.beq n m with |true=>K (St.put st d (.tup [])) |false=>False
    |true, .self m=>match Nm.beq n m with |true=>K (St.put ⟨st.tm,hset st.hp n (.blk ty [.self n,c])⟩ d (.tup [])) |false=>False
    |_,_=>False
   |_=>False
 |_=>False
def A3a:Entry→Entry
 | .arr _ true sz rows=> .arr 1 true sz rows
 |e=>e
def Ayi(ns:List Nm):Heap→Heap
 | []=>[]
 |(n,e)::r=>(n,match Gv n ns with |true=>A3a e |false=>e)::Ayi ns r
def rWo(r:AV):Nat:=match r with | .win _ _ o _=>o |_=>0
def rWl(r:AV):Nat:=match r with | .win _ _ _ l=>l |_=>0
def Bjk(T:TT)(ty:Nat)(r:AV):AV:=match (tl T ty).td with | .slice _ esz _ _=> .win (.arg 0) esz (rWo r) (rWl r) |_=>Ml T ty r
def Bnz:AV→Bool | .own _=>true | .tup l=>(match l with | .own _::_=>true |_=>false) |_=>false
def Bo9(T:TT)(ty:Nat):Nat:=match (tl T ty).td with
 | .slice _ esz _ _=>esz
 | .tuple ts=>(match ts with |t::_=>(match (tl T t).td with | .slice _ esz _ _=>esz |_=>0) | []=>0)
 |_=>0
def A52(T:TT)(ty:Nat)(r:AV):AV:=match (tl T ty).td with
 | .tuple ts=>(match ts with |_::ts=> .tup (.own (.loc 0)::A0z T ts r 1) | []=> .undef)
 |_=> .own (.loc 0)
def A0r(T:TT)(ty:Nat)(h':Heap):Heap:=[(.loc 0, .arr 0 true (Bo9 T ty) (Cn h' (.loc 0)))]
def Az2(E:Env)(H:Jh)(st:St)(d:Option Nat)(ty:Nat)(f:Nat)(args:List AV)(K:St→Prop):Prop:=
 match E.self f with
 |some bt=>A7h st d bt args K
 |none=>
 match E.inl f with
 |some (ac,nt,rs)=>Wm false (H ac nt rs) st.hp st.tm d args (fun _ r h' k=>k r h') K
 |none=>
  match E.wr f with
  |1=>Wm false (Call E.P f) (Ayi (AV.namesL args) st.hp) st.tm d args (fun h0 r h' k=>Ag (h'=Ra h' h0∧r=Bjk E.T ty r) (k (Bjk E.T ty r) (Ra h' h0))) K
  |2=>Wm false (Call E.P f) (Du (Cv st.hp args) st.hp) st.tm d (Hd st.hp args) (fun h0 r h' k=>
    Ag (h'=Ra h' h0++A0r E.T ty h'∧r=A52 E.T ty r) (k (A52 E.T ty r) (Ra h' h0++A0r E.T ty h'))) K
  |4=>Wm true (Call E.P f) (Du (Cv st.hp args) st.hp) st.tm d (Hd st.hp args) (fun h0 r h' k=>Ag (h'=Ra h' h0∧r=Ml E.T ty r) (k (Ml E.T ty r) (Ra h' h0))) K
  |_+3=>Wm false (Call E.P f) (Du (Cv st.hp args) st.hp) st.tm d (Hd st.hp args) (fun h0 r h' k=>Br (Bnz r)
    (Ag (h'=Ra h' h0++A0r E.T ty h'∧r=A52 E.T ty r) (k (A52 E.T ty r) (Ra h' h0++A0r E.T ty h')))
    (Ag (h'=Ra h' h0∧r=Ml E.T ty r) (k (Ml E.T ty r) (Ra h' h0)))) K
  |0=>
   match Wo st.hp args with
   |some ivs=>Call E.P f (Dv ivs) [] fun r h'=>Ag (h'=[]∧r=Ml E.T ty r) (K (St.put ⟨st.tm,Du (AV.namesL args) st.hp⟩ d (Ml E.T ty r)))
   |none=>Wm false (Call E.P f) (Du (Cv st.hp args) st.hp) st.tm d (Hd st.hp args) (fun h0 r h' k=>Ag (h'=Ra h' h0∧r=Ml E.T ty r) (k (Ml E.T ty r) (Ra h' h0))) K
def Ka(z:List IV)(off len:Nat)(rows:List (List IV)):List (List IV):=rows.take off++List.replicate len z++rows.drop (off+len)
def Baa(T:TT)(st:St)(d:Option Nat)(t:Nat)(x:AV)(K:St→Prop):Prop:=
 match (tl T t).td,x with
 | .slice elem esz _ _, .win n sz off len=>match hget st.hp n,Nat.beq sz esz && Ww T elem with
   |some (.arr ty true sz' rows),true=>(match Nat.beq sz' esz with
    |true=>K (St.put ⟨st.tm,hset st.hp n (.arr ty true esz (Ka (tl T elem).zero off len rows))⟩ d (.tup []))
    |false=>False)
   |_,_=>False
 |_,_=>False
def Gn(s:List UInt8)(pos:Nat):Nat × Nat:=Utf8.decode ⟨s.toArray⟩ pos
def Apc(ti:TI)(st:St)(d:Nat)(x:AV)(lo hi mx:Option AV)(K:St→Prop):Prop:=
 match x with
 | .own n=>match hget st.hp n,ti.td with
   |some (.arr _ _ sz rows), .slice _ esz _ _=>match Afw rows.length lo hi mx,Nat.beq sz esz with
    |some (c,l,h),true=>Ag c (K (St.put ⟨st.tm,Du [n] st.hp⟩ (some d) (.imm (.sl .any sz (A19 lo hi l h rows)))))
    |_,_=>False
   |_,_=>False
 |_=>False
def Aef(st:St)(d e:Nat)(x n:AV)(K:St→Prop):Prop:=
 match x,n with
 | .data nm, .imm (.int .i64 len)=>match hget st.hp nm with
   |some (.arr ty _ 1 rows)=>(match Nat.beq ty (e+2)with
    |true=>Ag ((len=rows.length∧rows.length≤9223372036854775807)∧(∀r,r∈rows→Bg [.int .u8] r=true)) (K (St.put ⟨st.tm,Du [nm] st.hp⟩ (some d) (.imm (.str (rows.map fun r=>UInt8.ofNat (gI r 0).toNat)))))
    |false=>False)
   |_=>False
 |_,_=>False
def Apb(neg:Bool)(st:St)(d:Nat)(x:AV)(K:St→Prop):Prop:=
 match x with
 | .imm (.sl _ _ rows)=>Ba4 (rows=[]) (K (St.put st (some d) (.imm (.bool (!neg))))) (K (St.put st (some d) (.imm (.bool neg))))
 | .own n=>match hget st.hp n with
   |some (.arr _ _ _ rows)=>Ba4 (rows=[]) (K (St.put st (some d) (.imm (.bool (!neg))))) (K (St.put st (some d) (.imm (.bool neg))))
   |_=>False
 |_=>False
def Ah4(E:Env)(H:Option Jh)(st:St)(o:Oper)(K:St→Prop):Prop:=
 match H with
 |none=>False
 |some H=>
 let e (ty:Nat) (x:Operand):AV:=strip none (ev E.T st.tm ty x)
 match o.op,o.dst with
 | .assign x,some d=>match e o.type x with
   | .imm (.sl .nil sz [])=>K (Fe st d (.loc d) (.own (.loc d)) (.arr (match (tl E.T o.type).td with | .slice e _ _ _=>e+2 |_=>0) true sz []))
   |_=>False
 | .binOp .eql xt x y _,some d=>match Ac9 y,(tl E.T xt).td with
   |true, .slice _ _ _ _=>Apb false st d (e xt x) K
   |_,_=>False
 | .binOp .neq xt x y _,some d=>match Ac9 y,(tl E.T xt).td with
   |true, .slice _ _ _ _=>Apb true st d (e xt x) K
   |_,_=>False
 | .alloc t,some d=>match Ww E.T t with
   |true=>(match Bmz (tl E.T t).td with
    |some (k,esz)=>(match Nat.beq (tl E.T t).zero.length (k*esz)with
     |true=>K (Fe st d (.loc d) (.ptr (.loc d) 0) (.arr 1 true esz (chunk esz k (tl E.T t).zero)))
     |false=>False)
    |none=>K (newVar st d t (tl E.T t).sh (Dv (tl E.T t).zero)))
   |false=>False
 | .box t x,some d=>match Oe (e t x) && Nat.beq (flat (e t x)).length (tl E.T t).size with
   |true=>K (newVar st d t (tl E.T t).sh (flat (e t x)))
   |false=>False
 | .store t a x,d=>match Ww E.T t && (Oe (e t x) && Nat.beq (flat (e t x)).length (tl E.T t).size)with
   |true=>(match Bmz (tl E.T t).td with
    |some (k,esz)=>Az4 st d k esz (e 0 a) (e t x) K
    |none=>Auh st d (tl E.T t).sh (e 0 a) (e t x) K)
   |false=>False
 | .buildSlice t len parts,some d=>Acw E.T st d t len (Oq none (K7 E.T st.tm 0 parts.toList)) K
 | .call ⟨.builtin .append,args,ts⟩,some d=>match args.toList,ts.toList with
   | [s,x],[t,u]=>A7e E.T st d t u (e t s) (e u x) K
   |_,_=>False
 | .convert s t x,some d=>match (tl E.T s).td,(tl E.T t).td,e s x with
   | .str, .slice elem _ _ _, .imm (.str l)=>match (tl E.T elem).td with
     | .int .u8=>Ag (l.length≤Gq) (K (Fe st d (.loc d) (.own (.loc d)) (.arr 0 true 1 (Ay l))))
     |_=>False
   |_,_,_=>False
 | .range t x,some d=>match (tl E.T t).td,e t x with
   | .str, .imm (.str s)=>K (Fe st d (.loc d) (.ptr (.loc d) 0) (.sit s 0))
   |_,_=>False
 | .makeMap t none,some d=>match (tl E.T t).td with
   | .map=>K (Fe st d (.loc d) (.mp (.loc d)) (.map []))
   |_=>False
 | .mapUpdate t m k x,d=>match (tl E.T t).td,e t m,e 0 k,e 0 x with
   | .map, .mp n, .imm (.str s), .imm (.int .i64 v)=>match hget st.hp n with
     |some (.map l)=>K (St.put ⟨st.tm,hset st.hp n (.map (Yi l s v))⟩ d .undef)
     |_=>False
   |_,_,_,_=>False
 | .next it true,some d=>match e 0 it with
   | .ptr n 0=>match hget st.hp n with
     |some (.sit s pos)=>Br (decide (pos<s.length))
      (K ⟨(d, .tup [.imm (.bool true), .imm (.int .i64 pos), .imm (.int .i32 (Gn s pos).1)])::st.tm,hset st.hp n (.sit s (pos+(Gn s pos).2))⟩)
      (K ⟨(d, .tup [.imm (.bool false)])::st.tm,st.hp⟩)
     |_=>False
   |_=>False
 | .slice t x lo hi mx,some d=>Apc (tl E.T t) st d (e t x) (Ik none (Lj E.T st.tm lo)) (Ik none (Lj E.T st.tm hi)) (Ik none (Lj E.T st.tm mx)) K
 | .call ⟨.builtin .unsafeString,args,ts⟩,some d=>match args.toList,ts.toList with
   | [x,n],[t,u]=>(match (tl E.T t).td with
     | .pointer b=>(match (tl E.T b).td with | .int .u8=>Aef st d b (e t x) (e u n) K |_=>False)
     |_=>False)
   |_,_=>False
 | .call ⟨.builtin .clear,args,ts⟩,d=>match args.toList,ts.toList with
   | [x],[t]=>Baa E.T st d t (e t x) K
   |_,_=>False
 | .call ⟨.value f,args,ts⟩,d=>match e 0 f,Nat.beq args.toList.length ts.toList.length with
   | .fn f caps,true=>Az2 E H st d o.type f (stripL none (evs E.T st.tm args.toList ts.toList)++caps) K
   | .meth f n off,true=>Az2 E H st d o.type f (.ptr n off::stripL none (evs E.T st.tm args.toList ts.toList)) K
   |_,_=>False
 |_,_=>False
def Alo:AV:= .imm (.raw (.tuple ⟨[]⟩))
def Auw(t:Nat)(b:Bool):AV→AV
 | .when t' b' want a=>(match Nat.beq t t' with
  |true=>(match Bool.xor b want with |false=>a |true=>Alo)
  |false=> .when t' b' want a)
 | .imm v=> .imm v
 | .ptr n o=> .ptr n o
 | .elt n s i j=> .elt n s i j
 | .own n=> .own n
 | .pin c=> .pin c
 | .fn f c=> .fn f c
 | .agg l=> .agg l
 | .tup l=> .tup l
 | .undef=> .undef
 | .data n=> .data n
 | .win n sz off len=> .win n sz off len
 | .mp n=> .mp n
 | .self n=> .self n
 | .meth f n o=> .meth f n o
def A3f(t:Nat)(b:Bool):List (Nat × AV)→List (Nat × AV)
 | []=>[]
 |(u,a)::r=>(u,Auw t b a)::A3f t b r
def Z6:List (Nat × AV)→List (Nat × AV)
 | []=>[]
 |(u,a)::r=>(u,Afe (noW a))::Z6 r
def P8(nt:Nat):Option Nat→Bool |none=>true |some d=>Nat.blt d nt
def Ah9(t:Nat)(b:Bool)(st:St):St:=⟨(t, .imm (.raw (.bool b)))::A3f t b st.tm,st.hp⟩
def named:Op→Bool
 | .pick _ _ _=>true
 | .slice _ _ _ _ _=>true
 |_=>false
def Aer(o:Op)(v:AV)(K:AV→Prop):Prop:=
 match named o,v with
 |true, .imm (.bool b)=>Let b fun b=>K (.imm (.bool b))
 |true, .imm (.str s)=>Let s fun s=>K (.imm (.str s))
 |_,v=>Yh v K
def noH:Option Jh→Bool |none=>true |some _=>false
def Aue(E:Env)(H:Option Jh)(o:Oper)(t:Nat)(want b:Bool)(st:St)(K:St→Prop):Prop:=
 match Acy E.T (noH H) (some (t,want)) st o with
 |some (.ok v)=>Aer o.op (noW v) fun v=>K (st.put o.dst (.when t b want v))
 |some (.req c v)=>Ag (b=want→c) (Aer o.op (noW v) fun v=>K (st.put o.dst (.when t b want v)))
 |some .bad=>False
 |none=>Br (b == want) (Zr (Ah9 t want st) fun st=>Ah4 E H st o fun st=>Zr st K) (Zr ((Ah9 t (!want) st).put o.dst Alo) K)
def Bab(E:Env)(H:Option Jh)(o:Oper)(t:Nat)(want:Bool)(st:St)(K:St→Prop):Prop:=
 match Acy E.T (noH H) (some (t,want)) st o with
 |some (.ok v)=>Aer o.op (noW v) fun v=>K (st.put o.dst v)
 |some (.req c v)=>Ag c (Aer o.op (noW v) fun v=>K (st.put o.dst v))
 |some .bad=>False
 |none=>Ah4 E H st o fun st=>Zr st K
def Bh8:Value→Option (Option Bool)
 | .tuple ⟨[]⟩=>some none
 | .bool b=>some (some b)
 |_=>none
def Bbl(E:Env)(H:Option Jh)(all:List Oper)(o:Oper)(st:St)(K:St→Prop):Prop:=
 match P8 E.nt o.dst with
 |false=>False
 |true=>
 match o.guard with
 |none=>match Acy E.T (noH H) none st o with
  |some (.ok v)=>Aer o.op (noW v) fun v=>K (st.put o.dst v)
  |some (.req c v)=>Ag c (Aer o.op (noW v) fun v=>K (st.put o.dst v))
  |some .bad=>False
  |none=>Ah4 E H st o fun st=>Zr st K
 |some (j,want)=>match all[j]? with
  |some oj=>match oj.dst with
   |some t=>match lk st.tm t with
    | .imm (.bool b)=>Aue E H o t want b st K
    | .imm (.raw v)=>match Bh8 v with
      |some none=>K (st.put o.dst Alo)
      |some (some b)=>(match Bool.xor b want with |true=>K (st.put o.dst Alo) |false=>Bab E H o t want st K)
      |none=>False
    | .when t' b' w' (.imm (.bool b))=>Br (b' == w') (Zr (Ah9 t' w' st) fun st=>Aue E H o t want b st K) (Zr ((Ah9 t' (!w') st).put o.dst Alo) K)
    |_=>False
   |none=>False
  |none=>False
def Acx(E:Env)(H:Option Jh)(all:List Oper):List Oper→St→(St→Prop)→Prop
 | [],st,K=>K st
 |o::r,st,K=>Bbl E H all o st fun st=>Acx E H all r st K
def Wu:List Oper→Bool
 | []=>false
 |o::r=>(match o.guard with |some _=>true |none=>false) || Wu r
def Acs(t:Nat):List Oper→Nat
 | []=>0
 |o::r=>(match o.dst with |some d=>(match Nat.beq d t with |true=>1 |false=>0) |none=>0)+Acs t r
def Fb(all:List Oper):List Oper→Bool
 | []=>true
 |o::r=>(match o.guard with
   |none=>true
   |some (j,_)=>match all[j]? with
    |some oj=>(match oj.dst with |some t=>Nat.beq (Acs t (o::r)) 0 |none=>false)
    |none=>false) && Fb all r
def Boy:Oper→Bool
 |o=>match o.op with
  | .alloc _=>true
  | .box _ _=>true
  | .store _ _ _=>true
  | .buildSlice _ _ _=>true
  | .range _ _=>true
  | .next _ _=>true
  | .makeMap _ _=>true
  | .mapUpdate _ _ _ _=>true
  | .call ⟨.value _,_,_⟩=>true
  | .call ⟨.builtin .append,_,_⟩=>true
  | .call ⟨.builtin .clear,_,_⟩=>true
  | .call ⟨.builtin .unsafeString,_,_⟩=>true
  |_=>false
def A7k:List Oper→Nat→Option Nat
 | [],_=>none
 |o::r,n=>match Boy o with |true=>some n |false=>A7k r (n+1)
def A7i(E:Env)(H:Jh)(ops:List Oper)(n:Nat)(st:St)(K:St→Prop):Prop:=
 match Wu ops with
 |false=>Acx E none ops (ops.take n) st fun st=>Acx E (some H) ops (ops.drop n) st K
 |true=>match Fb ops ops with
  |true=>Acx E none ops (ops.take n) st fun st=>Acx E (some H) ops (ops.drop n) st fun st=>Zr ⟨Z6 st.tm,st.hp⟩ K
  |false=>False
def Aee(E:Env)(H:Option Jh)(ops:List Oper)(st:St)(K:St→Prop):Prop:=
 match Wu ops with
 |false=>Acx E H ops ops st K
 |true=>match Fb ops ops with
  |true=>Acx E H ops ops st fun st=>Zr ⟨Z6 st.tm,st.hp⟩ K
  |false=>False
def Azr(T:TT):List Nat→Bool
 | []=>false
 |t::r=>(match (tl T t).td with | .pointer _=>true |_=>false) || Azr T r
def Bbd(T:TT)(pc fa:Bool)(o:Oper):Nat:=match o.guard with
 |some _=>3
 |none=>match o.op with
  | .move _=>0
  | .assign x=>(match Ac9 x with |true=>3 |false=>0)
  | .binOp _ _ _ y _=>(match Ac9 y with |true=>3 |false=>0)
  | .unOp _ _ _=>0
  | .fieldAddr _ _ _=>(match fa with |true=>0 |false=>1)
  | .index _ _ _=>0
  | .slice t _ _ _ _=>(match (tl T t).td with | .str=>0 |_=>1)
  | .load _ _=>1
  | .lookup _ _ _ false=>1
  | .indexAddr _ _ _=>1
  | .extract _ _=>1
  | .field _ _ _=>1
  | .build _ _=>1
  | .nilCheck _=>1
  | .makeFunc _ _ _=>1
  | .convert s d _=>(match (tl T s).td,(tl T d).td with | .str, .slice .. =>3 |_,_=>1)
  | .call ⟨.builtin .len,_,_⟩=>1
  | .call ⟨.builtin .max,_,_⟩=>1
  | .call ⟨.builtin .min,_,_⟩=>1
  | .buildSlice _ _ _=>2
  | .call ⟨.value _,_,ts⟩=>(match pc && !(Azr T ts.toList)with |true=>2 |false=>3)
  |_=>3
def A15(T:TT)(v:Bool × Bool)(ops:Array Oper)(k:Nat):Nat:=match ops[k]? with |some o=>Bbd T v.1 v.2 o |none=>3
def Bji(cl:Nat→Nat):List Nat→Option Nat
 | []=>none
 |k::r=>match cl k with |0=>some k |1=>some k |_=>Bji cl r
def Ap0(ops:Array Oper)(cl:Nat→Nat):Nat→Array Bool→List Nat
 |0,_=>[]
 |f+1,listed=>match Region.ready .any ops listed with
  | []=>[]
  |k0::r=>(match Bji cl (k0::r)with
   |some k=>k::Ap0 ops cl f (listed.setIfInBounds k true)
   |none=>k0::Ap0 ops cl f (listed.setIfInBounds k0 true))
def A64:IV→Bool
 | .int _ _=>true
 | .bool _=>true
 | .str _=>true
 | .sl .nil _ []=>true
 |_=>false
def A65:List IV→Bool
 | []=>true
 |v::r=>A64 v && A65 r
def Bgx:AV→Bool
 | .imm v=>A64 v
 | .ptr _ _=>true
 | .own _=>true
 |_=>false
def Az0:List AV→Bool
 | []=>true
 |v::r=>Bgx v && Az0 r
def A66:AV→Bool
 | .imm v=>(match v with | .agg l=>A65 l |v=>A64 v)
 | .ptr _ _=>true
 | .elt _ _ _ _=>true
 | .own _=>true
 | .agg l=>Az0 l
 |_=>false
def Aun(T:TT)(st:St)(o:Oper):PR:=
 let e (ty:Nat) (x:Operand):AV:=strip none (ev T st.tm ty x)
 match o.op with
 | .binOp op xt x y yt=>(match Ac9 y with |true=> .bad |false=>A5y (isConst x || isConst y) (tl T xt) op (e xt x) (e yt y))
 | .unOp op xt x=>Bbm op (e xt x)
 | .fieldAddr t x j=>Ae7 (tl T t) (e t x) j
 | .index t x i=>Auf (tl T t) (e t x) (e t i)
 | .slice t x lo hi mx=>(match e t x with
   | .imm (.str s)=>Abl (tl T t) [] false (.imm (.str s)) (Ik none (Lj T st.tm lo)) (Ik none (Lj T st.tm hi)) (Ik none (Lj T st.tm mx))
   |_=> .bad)
 | .build t parts=>Aud (tl T t) (Oq none (K7 T st.tm 0 parts.toList))
 | .nilCheck x=>Alh (e 0 x)
 |_=> .bad
def Ano(E:Env)(st:St)(o:Oper)(K:St→Prop):Prop:=
 match o.guard,P8 E.nt o.dst with
 |none,true=>match o.op with
  | .move x=>Yh (noW (strip none (ev E.T st.tm o.type x))) fun v=>K (st.put o.dst v)
  | .assign x=>Yh (noW (strip none (ev E.T st.tm o.type x))) fun v=>K (st.put o.dst v)
  |_=>match Aun E.T st o with
   | .ok v=>(match A66 v with |true=>Aer o.op (noW v) fun v=>K (st.put o.dst v) |false=>False)
   | .req c v=>(match A66 v with |true=>Ag c (Aer o.op (noW v) fun v=>K (st.put o.dst v)) |false=>False)
   | .bad=>False
 |_,_=>False
def Aug(E:Env)(st:St)(o:Oper)(K:St→Prop):Prop:=
 match o.guard,P8 E.nt o.dst with
 |none,true=>match Acy E.T false none st o with
  |some (.ok v)=>Aer o.op (noW v) fun v=>K (st.put o.dst v)
  |some (.req c v)=>Ag c (Aer o.op (noW v) fun v=>K (st.put o.dst v))
  |_=>False
 |_,_=>False
def Anp(E:Env)(st:St)(o:Oper)(K:St→Prop):Prop:=
 let e (ty:Nat) (x:Operand):AV:=strip none (ev E.T st.tm ty x)
 match o.guard,P8 E.nt o.dst with
 |none,true=>match o.op,o.dst with
  | .buildSlice t len parts,some d=>Acw E.T st d t len (Oq none (K7 E.T st.tm 0 parts.toList)) K
  | .call ⟨.value f,args,ts⟩,d=>(match e 0 f,Nat.beq args.toList.length ts.toList.length with
    | .fn f caps,true=>(match E.self f,E.inl f,E.wr f,Wo st.hp (stripL none (evs E.T st.tm args.toList ts.toList)++caps)with
      |none,none,0,some ivs=>Call E.P f (Dv ivs) [] fun r h'=>Ag (h'=[]∧r=Ml E.T o.type r) (K (St.put ⟨st.tm,Du (AV.namesL (stripL none (evs E.T st.tm args.toList ts.toList)++caps)) st.hp⟩ d (Ml E.T o.type r)))
      |_,_,_,_=>False)
    |_,_=>False)
  |_,_=>False
 |_,_=>False
def Ah5(E:Env)(H:Jh)(ops:List Oper)(cl:Nat→Nat):List Nat→St→(St→Prop)→Prop
 | [],st,K=>K st
 |k::r,st,K=>match ops[k]? with
  |none=>False
  |some o=>match cl k with
   |0=>Ano E st o fun st=>Ah5 E H ops cl r st K
   |1=>Aug E st o fun st=>Ah5 E H ops cl r st K
   |2=>Anp E st o fun st=>Zr st fun st=>Ah5 E H ops cl r st K
   |_=>match o.guard,P8 E.nt o.dst with
    |none,true=>Ah4 E (some H) st o fun st=>Zr st fun st=>Ah5 E H ops cl r st K
    |_,_=>False
def A5w(t:Nat):List Oper→Option Op
 | []=>none
 |o::r=>match o.dst with |some d=>(match Nat.beq d t with |true=>some o.op |false=>A5w t r) |none=>A5w t r
def Bjj:AV→Option Nm | .ptr n _=>some n |_=>none
def Axu(st:St)(ops:List Oper):List Oper→List Nm
 | []=>[]
 |o::r=>(match o.op with
  | .store _ (.tmp t) _=>(match A5w t ops with
    |some (.fieldAddr _ (.tmp u) _)=>(match Bjj (lk st.tm u)with |some n=>[n] |none=>[])
    |some _=>[]
    |none=>(match Bjj (lk st.tm t)with |some n=>[n] |none=>[]))
  |_=>[])++Axu st ops r
def A5u(T:TT)(ops:Array Oper)(k:Nat):Nat:=match ops[k]? with
 |some o=>(match o.guard,o.op with
  |none, .load _ _=>1
  |none, .store _ _ _=>2
  |none, .build _ _=>0
  |none, .nilCheck _=>0
  |none, .call ⟨.value _,_,ts⟩=>(match Azr T ts.toList with |true=>3 |false=>2)
  |_,_=>Bbd T false true o)
 |none=>3
def Bak:Nm→Bool | .cell _ _=>true |_=>false
def Azq(hp:Heap):List Nm→Bool
 | []=>true
 |n::r=>(match hget hp n with |some (.blk _ _)=> !(Bak n) |_=>false) && Azq hp r
def Bd0(E:Env)(ns:List Nm)(st:St)(o:Oper)(K:St→Prop):Prop:=
 match o.guard,P8 E.nt o.dst,o.op with
 |none,true, .load t a=>match strip none (ev E.T st.tm t a)with
  | .ptr n off=>(match Gv n ns,Azq st.hp ns,hget st.hp n,Afx (tl E.T t) st.hp (.ptr n off)with
    |false,true,some (.blk _ _), .ok v=>Aer o.op (noW v) fun v=>K (st.put o.dst v)
    |_,_,_,_=>False)
  |_=>False
 |_,_,_=>False
def Bd1(E:Env)(ns:List Nm)(st:St)(o:Oper)(K:St→Prop):Prop:=
 match o.guard,P8 E.nt o.dst,o.op with
 |none,true, .store t a x=>match strip none (ev E.T st.tm 0 a),Ww E.T t && (Oe (strip none (ev E.T st.tm t x)) && Nat.beq (flat (strip none (ev E.T st.tm t x))).length (tl E.T t).size)with
  | .ptr n off,true=>(match Gv n ns && !(Bak n)with
    |true=>Auh st o.dst (tl E.T t).sh (.ptr n off) (strip none (ev E.T st.tm t x)) K
    |false=>False)
  |_,_=>False
 |_,_,_=>False
def Bdz(E:Env)(ns:List Nm)(st:St)(o:Oper)(K:St→Prop):Prop:=
 match o.op with
 | .call ⟨.value _,_,_⟩=>Anp E st o K
 |_=>Bd1 E ns st o K
def Apa(E:Env)(ns:List Nm)(ops:List Oper)(cl:Nat→Nat):List Nat→St→(St→Prop)→Prop
 | [],st,K=>K st
 |k::r,st,K=>match ops[k]? with
  |none=>False
  |some o=>match cl k with
   |0=>Ano E st o fun st=>Apa E ns ops cl r st K
   |1=>Bd0 E ns st o fun st=>Apa E ns ops cl r st K
   |2=>Bdz E ns st o fun st=>Zr st fun st=>Apa E ns ops cl r st K
   |_=>False
def Bgg:List Nat→(Nat→Prop)→Prop
 | [],_=>True
 |k::r,F=>match r with | []=>F k |_=>F k∧Bgg r F
def unG(o:Oper):Oper:= { o with guard:=none }
def A5t(E:Env)(ops:Array Oper)(k:Nat):Nat:=match ops[k]? with
 |some o=>(match o.op with
  | .pick _ _ _=>1
  | .fieldAddr _ (.tmp t) _=>(match A5w t ops.toList with |some (.indexAddr _ _ _)=>1 |_=>Bbd E.T false true (unG o))
  | .call ⟨.value f,_args,ts⟩=>(match f,Azr E.T ts.toList with
    | .func f,false=>(match E.inl f,E.wr f with |none,0=>2 |_,_=>3)
    |_,_=>3)
  |_=>Bbd E.T false true (unG o))
 |none=>3
def Bjc(k:Nat):List Oper→Bool
 | []=>false
 |o::r=>(match o.guard with |some (j,_)=>Nat.beq j k |none=>false) || Bjc k r
def Anu(ops:List Oper)(st:St)(o:Oper):Option Bool:=match o.guard with
 |none=>some true
 |some (j,want)=>match ops[j]? with
  |some oj=>(match oj.dst with
   |some t=>(match lk st.tm t with | .imm (.bool b)=>some (!(Bool.xor b want)) |_=>none)
   |none=>none)
  |none=>none
def A7d(E:Env)(H:Jh)(ops:List Oper)(cl:Nat→Nat)(k:Nat)(st:St)(K:St→Prop):Prop:=
 match ops[k]? with
 |none=>False
 |some o=>match P8 E.nt o.dst with
  |false=>False
  |true=>match Anu ops st o with
   |none=>False
   |some false=>K (st.put o.dst .undef)
   |some true=>match cl k with
    |0=>Ano E st (unG o) K
    |1=>Aug E st (unG o) K
    |2=>Anp E st (unG o) fun st=>Zr st K
    |_=>Ah4 E (some H) st (unG o) fun st=>Zr st K
def Ah6(ops:List Oper)(k:Nat)(st:St)(K:St→Prop):Prop:=
 match Bjc k ops with
 |false=>K st
 |true=>match ops[k]? with
  |some o=>(match o.dst with
   |some d=>(match lk st.tm d with
    | .imm (.bool b)=>Br b (K (st.put (some d) (.imm (.bool true)))) (K (st.put (some d) (.imm (.bool false))))
    |_=>False)
   |none=>False)
  |none=>False
def A51(ops:Array Oper)(cl:Nat→Nat)(listed:Array Bool):List Nat→Option Nat
 | []=>none
 |k::r=>match (match cl k with
   |0=>Region.free .any ops listed k
   |1=>Region.free .any ops listed k && (Auk .any ops cl k && Bbz cl ops.size k listed)
   |_=>false)with
  |true=>some k
  |false=>A51 ops cl listed r
def Acv(E:Env)(H:Jh)(ops:Array Oper)(cl:Nat→Nat):Nat→Array Bool→St→(St→Prop)→Prop
 |0,listed,st,K=>match Region.ready .any ops listed with | []=>K st |_=>False
 |f+1,listed,st,K=>match Region.ready .any ops listed with
  | []=>K st
  |k0::r=>match A51 ops cl listed (k0::r)with
   |some k=>A7d E H ops.toList cl k st fun st=>Ah6 ops.toList k st fun st=>Acv E H ops cl f (listed.setIfInBounds k true) st K
   |none=>Bgg (k0::r) fun k=>A7d E H ops.toList cl k st fun st=>Ah6 ops.toList k st fun st=>Acv E H ops cl f (listed.setIfInBounds k true) st K
def Az3(E:Env)(H:Jh)(ops:Array Oper)(st:St)(K:St→Prop):List (Bool × Bool)→Prop
 | []=>False
 |v::r=>match A28 ops (A15 E.T v ops) (Ap0 ops (A15 E.T v ops) ops.size (Array.replicate ops.size false))with
  |true=>Ah5 E H ops.toList (A15 E.T v ops) (Ap0 ops (A15 E.T v ops) ops.size (Array.replicate ops.size false)) st K
  |false=>Az3 E H ops st K r
def Bet(E:Env)(ops:Array Oper):List (Bool × Bool)→Bool
 | []=>false
 |v::r=>A28 ops (A15 E.T v ops) (Ap0 ops (A15 E.T v ops) ops.size (Array.replicate ops.size false)) || Bet E ops r
def Bjg:List (Bool × Bool):=[(false,false),(true,false),(false,true),(true,true)]
def A5z(E:Env)(H:Jh)(ops:Array Oper)(st:St)(K:St→Prop):Prop:=
 match Bet E ops Bjg with
 |true=>Az3 E H ops st K Bjg
 |false=>match A28 ops (A5u E.T ops) (Ap0 ops (A5u E.T ops) ops.size (Array.replicate ops.size false))with
  |true=>Apa E (Axu st ops.toList ops.toList) ops.toList (A5u E.T ops) (Ap0 ops (A5u E.T ops) ops.size (Array.replicate ops.size false)) st K
  |false=>match Region.noSelect ops && Atc .any ops (A5t E ops)with
   |true=>Acv E H ops (A5t E ops) ops.size (Array.replicate ops.size false) st K
   |false=>False
structure Bc (n:Nat) (P:Program) (nt:Nat) (b:Code) (st:St) (Q:Ex→St→Prop):Prop where
 ok:LIn P nt b st Q
structure Aq (n:Nat) (P:Program) (nt:Nat) (b:Code) (st:St) (Q:Ex→St→Prop):Prop where
 ok:WP P nt b st Q
structure I4 (n:Nat) (P:Program) (nt l:Nat) (c:Code) (st:St) (Q:Ex→St→Prop):Prop where
 ok:∃rest,findLabel c l=some rest∧SIn P nt c rest st Q
def AC.labless:AC→Bool
 | .seq a b=>a.labless && b.labless
 | .label _=>false
 | .bad _=>false
 | .cut _ _ _ b=>b.labless
 |_=>true
def AC.after(l:Nat):AC→Option AC
 | .seq a b=>match a.after l with |some r=>some (.seq r b) |none=>(match a.labless with |true=>b.after l |false=>none)
 | .label l'=>match Nat.beq l' l with |true=>some .skip |false=>none
 | .cut _n _live _out b=>match b.after l with |some r=>some r |none=>none
 |_=>none
def eval(E:Env)(H:Jh):AC→St→(Ex→St→Prop)→Prop
 | .skip,st,Q=>Q .normal st
 | .region _ ops draw,st,Q=>match draw with
   |false=>Aee E (some H) ops.toList st (Q .normal)
   |true=>match A7k ops.toList 0 with
    |none=>(match Region.lexB .any ops with
     |true=>Aee E none ops.toList st (Q .normal)
     |false=>A5z E H ops st (Q .normal))
    |some n=>(match Region.lexTailB .any ops n with
     |true=>A7i E H ops.toList n st (Q .normal)
     |false=>A5z E H ops st (Q .normal))
 | .seq a b,st,Q=>eval E H a st fun e st=>match e with | .normal=>eval E H b st Q | .exit i=>Q (.exit i) st | .goto l=>Q (.goto l) st | .ret=>Q .ret st
 | .cond c x y,st,Q=>match strip none (ev E.T st.tm 0 c)with
   | .imm (.bool b)=>Br b (eval E H x st Q) (eval E H y st Q)
   |_=>False
 | .block id b,st,Q=>eval E H b st fun e st=>match e with
   | .normal=>Q .normal st
   | .exit i=>(match Nat.beq i id with |true=>Q .normal st |false=>Q (.exit i) st)
   | .goto l=>Q (.goto l) st
   | .ret=>Q .ret st
 | .loop n live b,st,Q=>Bc n E.P E.nt b.code (mask live st) Q
 | .exit id live,st,Q=>Zr (mask live st) (Q (.exit id))
 | .goto l live,st,Q=>Zr (mask live st) (Q (.goto l))
 | .scope n live b,st,Q=>eval E H b st fun e st=>match e with
   | .normal=>Q .normal st
   | .exit i=>Q (.exit i) st
   | .goto l=>I4 n E.P E.nt l b.code (mask live st) Q
   | .ret=>Q .ret st
 | .ret live,st,Q=>Zr (mask live st) (Q .ret)
 | .cut n live _ b,st,Q=>Aq n E.P E.nt b.code (mask live st) Q
 | .label _,st,Q=>Q .normal st
 |_,_,_=>False
def Bn6(n:Nat)(P:Program)(nt:Nat)(c:Code)(live:List Nat)(K:Ex→St→Prop):Ex→St→Prop
 | .normal,st=>K .normal st
 | .exit i,st=>K (.exit i) st
 | .goto l,st=>I4 n P nt l c (mask live st) K
 | .ret,st=>K .ret st
def J4(k:Nat)(ac:AC):AC:=match AC.find k ac with |some (.scope _ _ b)=>b |_=> .skip
def Bid(k l:Nat)(ac:AC):AC:=match (J4 k ac).after l with |some r=>r |none=> .skip
def Bje(n:Nat)(P:Program)(nt:Nat)(c:Code)(live:List Nat)(K:Ex→St→Prop):Ex→St→Prop
 | .normal,st=>Bc n P nt c (mask live st) K
 | .exit i,st=>K (.exit i) st
 | .goto l,st=>K (.goto l) st
 | .ret,st=>K .ret st
def Bm8(out:List Nat)(K:Ex→St→Prop):Ex→St→Prop
 | .normal,st=>K .normal (mask out st)
 | .exit i,st=>K (.exit i) st
 | .goto l,st=>K (.goto l) st
 | .ret,st=>K .ret st
def A9(k:Nat)(ac:AC):AC:=match AC.find k ac with |some (.loop _ _ b)=>b |_=> .skip
def Am(k:Nat)(ac:AC):AC:=match AC.find k ac with |some (.cut _ _ _ b)=>b |_=> .skip
def codeOf(f:Func):Code:=match f.body with |some c=>c |none=> .skip
def A0x(T:TT)(st:St):ResultVar→Option AV
 | .tmp t=>some (lk st.tm t)
 | .cell a t=>match Afx (tl T t) st.hp (lk st.tm a)with | .ok v=>some v | .req _ v=>some v |_=>none
def Aoe(T:TT)(st:St):ResultVar→Option Prop
 | .tmp _=>none
 | .cell a t=>match Afx (tl T t) st.hp (lk st.tm a)with | .req c _=>some c |_=>none
def Abm(T:TT)(st:St):List ResultVar→Prop→Prop
 | [],K=>K
 |r::rs,K=>match Aoe T st r with |some c=>Ag c (Abm T st rs K) |none=>Abm T st rs K
def X7(T:TT)(st:St):List ResultVar→Option (List AV)
 | []=>some []
 |r::rs=>match A0x T st r,X7 T st rs with |some a,some l=>some (a::l) |_,_=>none
def Adi(l:List AV):AV:=match l with | [a]=>a |l=> .tup l
def isW:AV→Bool | .when _ _ _ _=>true |_=>false
def A2l:List AV→Bool
 | []=>true
 |a::r=>(match isW a with |true=>false |false=>true) && A2l r
def Amc:List (Nat × AV)→Bool
 | []=>true
 |(_,a)::r=>(match isW a with |true=>false |false=>true) && Amc r
def inlD:Env→Nat→Jh
 |_E,0=>fun _ _ _ _ _ _=>False
 |E,k+1=>fun ac nt rs args h Q=>match A2l args && Nat.ble args.length nt with
  |false=>False
  |true=>eval { E with nt:=nt } (inlD E k) ac ⟨numL args 0,h⟩ fun e st=>match e with
   | .normal=>Abm E.T st rs (match X7 E.T st rs with |some l=>Q (Adi l) st.hp |none=>False)
   | .ret=>Abm E.T st rs (match X7 E.T st rs with |some l=>Q (Adi l) st.hp |none=>False)
   | .exit _=>False
   | .goto _=>False
 where numL:List AV→Nat→List (Nat × AV)
  | [],_=>[]
  |a::r,j=>(j,a)::numL r (j+1)
def Ha(k:Nat):Heap→List Nm
 | []=>[]
 |(n,_)::r=>n::Ha k r
def A61(hp:Heap):AV→Option AV
 | .tup l=>match Wo hp l with |some vs=>some (.tup (Dv vs)) |none=>none
 |a=>match P6 hp a with |some v=>some (.imm v) |none=>none
def Bcz(hp:Heap):AV→Option AV
 | .win n s o len=>match n.ext with |true=>some (.win n s o len) |false=>none
 | .own n=>match n.ext,hget hp n with |true,some (.arr _ _ sz rows)=>some (.win n sz 0 rows.length) |_,_=>none
 |_=>none
def A50(hp h0:Heap)(n:Nm):Option Heap:=match hget hp n,Gv (.loc 0) (Ha 0 h0) || Gv n (Ha 0 h0)with
 |some (.arr _ true sz rows),false=>some [(.loc 0, .arr 0 true sz rows)]
 |_,_=>none
def keepR(hp h0:Heap):AV→Option (AV × Heap)
 | .own m=>match A50 hp h0 m with |some e=>some (.own (.loc 0),e) |none=>none
 | .tup l=>match l with
   | .own m::l=>(match A50 hp h0 m,Gv m (AV.namesL l),Wo hp l with |some e,false,some vs=>some (.tup (.own (.loc 0)::Dv vs),e) |_,_,_=>none)
   |_=>none
 |_=>none
def Atq:AV→List Nm | .tup l=>(match l with |_::l=>AV.namesL l | []=>[]) |_=>[]
def finish(m:Nat)(T:TT)(rs:List ResultVar)(h0:Heap)(Q:AV→Heap→Prop)(st:St):Prop:=
 Abm T st rs <|
 match X7 T st rs with
 |none=>False
 |some l=>match (match m with |2=>keepR st.hp h0 (Adi l) |3=>keepR st.hp h0 (Adi l) |_=>none)with
  |some (r,e)=>Q r (Cq (Nm.beq (.loc 0)) (Ja (Du (Atq (Adi l)) st.hp) (Ha 0 h0))++e)
  |none=>match (match m with |1=>Bcz st.hp (Adi l) |_=>none)with
   |some r=>Q r (Ja st.hp (Ha 0 h0))
   |none=>match A61 st.hp (Adi l)with
    |some r=>Q r (Ja (Du (AV.names (Adi l)) st.hp) (Ha 0 h0))
    |none=>False
def Bi7(E:Env)(k m:Nat)(ac:AC)(rs:List ResultVar)(args:List AV)(h:Heap)(Q:AV→Heap→Prop):Prop:=
 eval E (inlD E k) ac ⟨inlD.numL args 0,h⟩ fun e st=>match e with
  | .normal=>finish m E.T rs h Q st
  | .ret=>finish m E.T rs h Q st
  | .exit _=>False
  | .goto _=>False
end Go.Proofs.Sim

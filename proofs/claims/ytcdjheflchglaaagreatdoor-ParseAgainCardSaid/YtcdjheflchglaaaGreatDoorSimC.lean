import Derived.Test.YtcdjheflchglaaaGreatDoorSimB
import Derived.Deep.Quiet
import Derived.Test.YtcdjheflchglaaaGreatDoorSimT
namespace Go.Proofs.Sim
open Go
inductive AC where
 |skip |region (id:Nat) (ops:Array Oper) (draw:Bool) |seq (a b:AC) |cond (c:Operand) (x y:AC) |block (id:Nat) (b:AC)
 |loop (n:Nat) (live:List Nat) (b:AC) |exit (id:Nat) (live:List Nat) |ret (live:List Nat) |cut (n:Nat) (live out:List Nat) (b:AC)
 |label (l:Nat) |scope (n:Nat) (live:List Nat) (b:AC) |goto (l:Nat) (live:List Nat) |bad (c:Code)
 deriving Inhabited
def AC.code:AC→Code
 | .skip=> .skip
 | .region id ops d=> .region id ops d
 | .seq a b=> .seq a.code b.code
 | .cond c x y=> .cond c x.code y.code
 | .block id b=> .block id b.code
 | .loop _ _ b=> .loop b.code
 | .exit id _=> .exit id
 | .ret _=> .ret
 | .cut _ _ _ b=>b.code
 | .label l=> .label l
 | .scope _ _ b=> .scope b.code
 | .goto l _=> .goto l
 | .bad c=>c
abbrev A0j:=List (Nat × List Nat × List Nat)
def plk:A0j→Nat→Option (List Nat × List Nat)
 | [],_=>none
 |(m,l)::r,n=>match Nat.beq m n with |true=>some l |false=>plk r n
def pl0(o:Option (List Nat × List Nat)):List Nat:=match o with |some l=>l.1 |none=>[]
def Bf(pl:A0j)(rs:List Nat):Code→Nat→AC × Nat
 | .skip,n=>(.skip,n)
 | .region id ops d,n=>(.region id ops d,n)
 | .seq a b,n=>match Bf pl rs a n with
   |(a',n1)=>match Bf pl rs b (n1+1)with
    |(b',n2)=>match plk pl n1 with
     |some (live,out)=>(.seq a' (.cut n1 live out b'),n2)
     |none=>(.seq a' b',n2)
 | .cond c x y,n=>match Bf pl rs x n with
   |(x',n1)=>match Bf pl rs y n1 with
    |(y',n2)=>(.cond c x' y',n2)
 | .block id b,n=>match Bf pl rs b n with |(b',n1)=>(.block id b',n1)
 | .loop b,n=>match Bf pl rs b (n+1)with |(b',n1)=>(.loop n (pl0 (plk pl n)) b',n1)
 | .exit id,n=>(.exit id (pl0 (plk pl n)),n+1)
 | .ret,n=>(.ret rs,n)
 | .label l,n=>(.label l,n)
 | .scope b,n=>match Bf pl rs b (n+1)with |(b',n1)=>(.scope n (pl0 (plk pl n)) b',n1)
 | .goto l,n=>(.goto l (pl0 (plk pl n)),n+1)
 |c,n=>(.bad c,n)
def AC.find(k:Nat):AC→Option AC
 | .seq a b=>match a.find k with |some x=>some x |none=>b.find k
 | .cond _ x y=>match x.find k with |some z=>some z |none=>y.find k
 | .block _ b=>b.find k
 | .loop n live b=>match Nat.beq n k with |true=>some (.loop n live b) |false=>b.find k
 | .cut n live out b=>match Nat.beq n k with |true=>some (.cut n live out b) |false=>b.find k
 | .scope n live b=>match Nat.beq n k with |true=>some (.scope n live b) |false=>b.find k
 |_=>none
structure Env where
 P:Program
 T:TT
 nt:Nat
 inl:Nat→Option (AC × Nat × List ResultVar)
 self:Nat→Option Nat
 wr:Nat→Nat
def A7(E:Env)(nt:Nat):Env:=⟨E.P,E.T,nt,E.inl,E.self,E.wr⟩
def A05:List (Nat × AC × Nat × List ResultVar)→Nat→Option (AC × Nat × List ResultVar)
 | [],_=>none
 |(m,x)::r,n=>match Nat.beq m n with |true=>some x |false=>A05 r n
def A06:List (Nat × Nat)→Nat→Option Nat
 | [],_=>none
 |(m,x)::r,n=>match Nat.beq m n with |true=>some x |false=>A06 r n
def Bbg:List (Nat × Nat)→Nat→Nat
 | [],_=>0
 |(m,x)::r,n=>match Nat.beq m n with |true=>x |false=>Bbg r n
def fNm:Nm→(Nm→Prop)→Prop
 | .loc t,k=>k (.loc t)
 | .cell n j,k=>fNm n fun n=>k (.cell n j)
 | .arg i,k=>k (.arg i)
 | .up n,k=>fNm n fun n=>k (.up n)
 | .sub t n,k=>fNm n fun n=>k (.sub t n)
def fIV:IV→(IV→Prop)→Prop
 | .bool b,k=>k (.bool b)
 | .int i n,k=>k (.int i n)
 | .str s,k=>k (.str s)
 | .sl i sz rows,k=>k (.sl i sz rows)
 | .agg l,k=>k (.agg l)
 | .raw v,k=>k (.raw v)
 | .ifc b,k=>k (.ifc b)
mutual
def Vh:AV→(AV→Prop)→Prop
 | .imm x,k=>fIV x fun x=>k (.imm x)
 | .ptr n o,k=>fNm n fun n=>k (.ptr n o)
 | .elt n sz i j,k=>fNm n fun n=>k (.elt n sz i j)
 | .own n,k=>fNm n fun n=>k (.own n)
 | .pin c,k=>k (.pin c)
 | .fn f caps,k=>Amh caps fun caps=>k (.fn f caps)
 | .agg l,k=>Amh l fun l=>k (.agg l)
 | .tup l,k=>Amh l fun l=>k (.tup l)
 | .when t b want a,k=>Vh a fun a=>k (.when t b want a)
 | .undef,k=>k .undef
 | .data n,k=>fNm n fun n=>k (.data n)
 | .win n sz off len,k=>fNm n fun n=>k (.win n sz off len)
 | .mp n,k=>fNm n fun n=>k (.mp n)
 | .self n,k=>fNm n fun n=>k (.self n)
 | .meth f n o,k=>fNm n fun n=>k (.meth f n o)
def Amh:List AV→(List AV→Prop)→Prop
 | [],k=>k []
 |a::r,k=>Vh a fun a=>Amh r fun r=>k (a::r)
end
def fTm:List (Nat × AV)→(List (Nat × AV)→Prop)→Prop
 | [],k=>k []
 |(t,a)::r,k=>Vh a fun a=>fTm r fun r=>k ((t,a)::r)
def A5s:Entry→(Entry→Prop)→Prop
 | .blk ty cells,k=>Amh cells fun cells=>k (.blk ty cells)
 | .arr ty w sz rows,k=>k (.arr ty w sz rows)
 | .sit s p,k=>k (.sit s p)
 | .map l,k=>k (.map l)
def fHp:Heap→(Heap→Prop)→Prop
 | [],k=>k []
 |(n,e)::r,k=>fNm n fun n=>A5s e fun e=>fHp r fun r=>k ((n,e)::r)
def Wm(st:St)(k:St→Prop):Prop:=match st with |⟨tm,hp⟩=>fTm tm fun tm=>fHp hp fun hp=>k ⟨tm,hp⟩
mutual
def AV.has(p:Nm→Bool):AV→Bool
 | .ptr n _=>p n
 | .elt n _ _ _=>p n
 | .own n=>p n
 | .fn _ caps=>AV.hasL p caps
 | .agg l=>AV.hasL p l
 | .tup l=>AV.hasL p l
 | .when _ _ _ a=>AV.has p a
 | .data n=>p n
 | .win n _ _ _=>p n
 | .mp n=>p n
 | .self n=>p n
 | .meth _ n _=>p n
 |_=>false
def AV.hasL(p:Nm→Bool):List AV→Bool
 | []=>false
 |a::r=>AV.has p a || AV.hasL p r
end
def Rw(p:Nm→Bool)(a:AV):AV:=match AV.has p a with |true=> .undef |false=>a
def Dh(p:Nm→Bool):List AV→List AV
 | []=>[]
 |a::r=>Rw p a::Dh p r
def Jb(p:Nm→Bool):List (Nat × AV)→List (Nat × AV)
 | []=>[]
 |(t,a)::r=>(t,Rw p a)::Jb p r
def Lr(p:Nm→Bool):Entry→Entry
 | .blk ty cells=> .blk ty (Dh p cells)
 |e=>e
def De(p:Nm→Bool):Heap→Heap
 | []=>[]
 |(n,e)::r=>match p n with |true=>De p r |false=>(n,Lr p e)::De p r
def rooted(d:Nat):Nm→Bool
 | .loc t=>Nat.beq t d
 | .cell n _=>rooted d n
 |_=>false
mutual
def AV.names:AV→List Nm
 | .ptr n _=>[n]
 | .elt n _ _ _=>[n]
 | .own n=>[n]
 | .fn _ caps=>AV.namesL caps
 | .agg l=>AV.namesL l
 | .tup l=>AV.namesL l
 | .when _ _ _ a=>AV.names a
 | .data n=>[n]
 | .win n _ _ _=>[n]
 | .mp n=>[n]
 | .self n=>[n]
 | .meth _ n _=>[n]
 |_=>[]
def AV.namesL:List AV→List Nm
 | []=>[]
 |a::r=>AV.names a++AV.namesL r
end
def Gr(n:Nm):List Nm→Bool
 | []=>false
 |m::r=>Nm.beq m n || Gr n r
def Aw1:Entry→List Nm
 | .blk _ cells=>AV.namesL cells
 |_=>[]
def reach(hp:Heap):Nat→List Nm→List Nm→List Nm
 |0,_,acc=>acc
 |_+1,[],acc=>acc
 |k+1,n::r,acc=>match Gr n acc with
  |true=>reach hp k r acc
  |false=>match hget hp n with
   |some e=>reach hp k (r++Aw1 e) (acc++[n])
   |none=>reach hp k r acc
def Ip(hp:Heap):List Nm→Heap
 | []=>[]
 |n::r=>match hget hp n with |some e=>(n,e)::Ip hp r |none=>Ip hp r
def At4:List (Nat × AV)→List Nm
 | []=>[]
 |(_,a)::r=>AV.names a++At4 r
def Ajb:Heap→List Nm
 | []=>[]
 |(n,_)::r=>match n.ext with |true=>n::Ajb r |false=>Ajb r
def A7y:Nm→Nat | .arg i=>i |_=>1000000
def A7s(n:Nm):List Nm→List Nm
 | []=>[n]
 |m::r=>match Nat.ble (A7y n) (A7y m)with |true=>n::m::r |false=>m::A7s n r
def A1v:List Nm→List Nm
 | []=>[]
 |n::r=>A7s n (A1v r)
def Ww(ns:List Nm):Heap→Heap
 | []=>[]
 |(n,e)::r=>match Gr n ns with |true=>Ww ns r |false=>(n,e)::Ww ns r
def anyC:IV→IV | .sl _ sz rows=> .sl .any sz rows |v=>v
def Ai2:List IV→List IV | []=>[] |v::r=>anyC v::Ai2 r
def Bax:IV→IV | .agg l=> .agg (Ai2 l) | .sl _ sz rows=> .sl .any sz rows |v=>v
mutual
def Oe(hp:Heap):AV→Option IV
 | .imm v=>some (Bax v)
 | .own n=>match hget hp n with |some (.arr _ _ sz rows)=>some (.sl .any sz rows) |_=>none
 | .agg l=>match Tw hp l with |some vs=>some (.agg vs) |none=>none
 |_=>none
def Tw(hp:Heap):List AV→Option (List IV)
 | []=>some []
 |a::r=>match Oe hp a with
  |some v=>(match Tw hp r with |some vs=>some (v::vs) |none=>none)
  |none=>none
end
def D6(ns:List Nm):Heap→Heap
 | []=>[]
 |(n,e)::r=>match Gr n ns,e with
  |true, .arr ty _ sz rows=>(n, .arr ty false sz rows)::D6 ns r
  |_,e=>(n,e)::D6 ns r
def chunk(sz:Nat):Nat→List IV→List (List IV)
 |0,_=>[]
 |n+1,l=>l.take sz::chunk sz n (l.drop sz)
def Bay(td:TD):Option (Nat × Nat):=match td with | .array k _ esz=>some (k,esz) |_=>none
def Ajp:AV→Option Nat
 | .imm (.sl .nil sz [])=>some sz
 |_=>none
def Ib(n:Nm):List AV→Nat→List AV
 | [],_=>[]
 |a::r,j=>(match Ajp a with |some _=> .own (.cell n j) |none=>a)::Ib n r (j+1)
def Bdi:CS→Nat | .sl _ e=>e+2 |_=>0
def Hy(n:Nm):List CS→List AV→Nat→Heap
 |_,[],_=>[]
 |cs,a::r,j=>match Ajp a with |some sz=>(.cell n j, .arr (match cs with |c::_=>Bdi c | []=>0) true sz [])::Hy n cs.tail r (j+1) |none=>Hy n cs.tail r (j+1)
def newVar(st:St)(d ty:Nat)(sh:List CS)(cells:List AV):St:=
 let p:=rooted d
 let cs:=Dh p cells
 ⟨(d, .ptr (.loc d) 0)::Jb p st.tm,(.loc d, .blk ty (Ib (.loc d) cs 0))::(Hy (.loc d) sh cs 0++De p st.hp)⟩
def Ed(n:Nm):List AV→Nat→Nm→Bool
 | [],_,_=>false
 |a::r,j,m=>match Ajp a with |some _=>Nm.beq (.cell n j) m || Ed n r (j+1) m |none=>Ed n r (j+1) m
def setRow(row:List IV)(j:Nat)(vs:List IV)(sz:Nat):List IV:=
 match j,Nat.beq vs.length sz with
 |0,true=>vs
 |_,_=>row.take j++vs++row.drop (j+vs.length)
def Ajw:AV→Bool
 | .imm (.agg _)=>false
 | .imm (.raw v)=>match v with | .pointer _=>true | .nilFunc=>true | .nilIface=>true | .map _=>true |_=>false
 | .imm _=>true
 | .ptr _ _=>true
 | .elt _ _ _ _=>true
 | .own _=>true
 | .pin _=>true
 | .fn _ _=>true
 | .agg _=>false
 | .tup _=>false
 | .when _ _ _ _=>false
 | .undef=>false
 | .data _=>true
 | .win _ _ _ _=>true
 | .mp _=>true
 | .self _=>true
 | .meth _ _ _=>true
def Af4:List AV→Bool
 | []=>true
 |a::r=>Ajw a && Af4 r
def Anj(st:St)(d:Option Nat)(sh:List CS)(a v:AV)(K:St→Prop):Prop:=
 match a with
 | .ptr n off=>match hget st.hp n with
   |some (.blk ty cells)=>match Nat.ble (off+(flat v).length) cells.length && Af4 (flat v)with
    |true=>
     let p:=Ed n (flat v) off
     let vs:=Dh p (flat v)
     K (St.put ⟨Jb p st.tm,Hy n sh vs off++hset (De p st.hp) n (.blk ty (splice (Dh p cells) off (Ib n vs off)))⟩ d .undef)
    |false=>False
   |_=>False
 | .elt n sz i j=>match hget st.hp n with
   |some (.arr ty true sz' rows)=>match Nat.beq sz sz' && Af4 (flat v),toI (flat v)with
    |true,some vs=>match Nat.ble (j+vs.length) sz with
     |true=>Am (i<rows.length) (K (St.put ⟨st.tm,hset st.hp n (.arr ty true sz (rows.set i (setRow (rows.getD i []) j vs sz)))⟩ d .undef))
     |false=>False
    |_,_=>False
   |_=>False
 |_=>False
def Aro(st:St)(d:Option Nat)(k esz:Nat)(a v:AV)(K:St→Prop):Prop:=
 match a with
 | .ptr n 0=>match hget st.hp n with
   |some (.arr ty true sz rows)=>match Nat.beq sz esz && Af4 (flat v),toI (flat v)with
    |true,some vs=>(match Nat.beq vs.length (k*esz)with
     |true=>Am (rows.length=k) (K (St.put ⟨st.tm,hset st.hp n (.arr ty true esz (chunk esz k vs))⟩ d .undef))
     |false=>False)
    |_,_=>False
   |_=>False
 |_=>False
def Fe(st:St)(d:Nat)(n:Nm)(v:AV)(e:Entry):St:=
 let p:=Nm.beq n
 ⟨(d,v)::Jb p st.tm,(n,e)::De p st.hp⟩
def A8(l:List UInt8):List (List IV):=l.map fun b=>[.int .u8 b.toNat]
def rowsOf(ti:TI)(hp:Heap)(sz:Nat)(x:AV):Option (List (List IV)):=
 match ti.td,x with
 | .slice _ _ _ _, .imm (.sl _ sz' rows)=>match Nat.beq sz sz' with |true=>some rows |false=>none
 | .slice _ _ _ _, .own n=>match hget hp n with |some (.arr _ _ sz' rows)=>(match Nat.beq sz sz' with |true=>some rows |false=>none) |_=>none
 | .str, .imm (.str s)=>match Nat.beq sz 1 with |true=>some (A8 s) |false=>none
 |_,_=>none
def Gm:Nat:=140737488355328
def Uc(T:TT)(t:Nat):Bool:=match (tl T t).td with | .missing=>false | .tuple _=>false |_=>true
def Aw6(T:TT)(st:St)(d:Nat)(ty tx:Nat)(s x:AV)(K:St→Prop):Prop:=
 match (tl T ty).td with
 | .slice elem esz eb _=>match Uc T elem with
  |false=>False
  |true=>match rowsOf (tl T tx) st.hp esz x with
   |some xs=>match s with
    | .own n=>match hget st.hp n with
      |some (.arr ty w sz rows)=>match Nat.beq sz esz && !(Nat.beq ty 1)with
       |true=>Am ((rows.length+xs.length)*eb≤Gm∧rows.length+xs.length≤Gm) (K (Fe st d n (.own n) (.arr (match Nat.beq ty (elem+2)with |true=>elem+2 |false=>0) w esz (rows++xs))))
       |false=>False
      |_=>False
    | .imm (.sl .nil _ [])=>Am (xs.length*eb≤Gm∧xs.length≤Gm) (K (Fe st d (.loc d) (.own (.loc d)) (.arr (elem+2) true esz xs)))
    | .imm (.sl .tight _ [])=>Am (xs.length*eb≤Gm∧xs.length≤Gm) (K (Fe st d (.loc d) (.win (.loc d) esz 0 xs.length) (.arr 1 true esz xs)))
    |_=>False
   |none=>False
 |_=>False
def setRows(hp:Heap)(rows:List (List IV)):List (Nat × AV)→Option (List (List IV))
 | []=>some rows
 |(i,v)::r=>match Tw hp (flat v)with
  |some vs=>setRows hp (rows.set i vs) r
  |none=>none
def Amu(sz:Nat)(len:Nat):List (Nat × AV)→Bool
 | []=>true
 |(i,v)::r=>(Mx v && Af4 (flat v)) && (Nat.beq (flat v).length sz && (Nat.blt i len && Amu sz len r))
def Qi:List (Nat × AV)→List Nm
 | []=>[]
 |(_,v)::r=>AV.names v++Qi r
def Ajk:Nat→Nat→Nat |0,_=>0 |_+1,e=>e+2
def Zg(T:TT)(st:St)(d:Nat)(ty len:Nat)(parts:List (Nat × AV))(K:St→Prop):Prop:=
 match (tl T ty).td with
 | .slice elem esz _eb _=>match Uc T elem && (Nat.ble (len*esz) 4096 && Amu esz len parts),setRows st.hp (List.replicate len (tl T elem).zero) parts with
   |true,some rows=>
    K (Fe ⟨st.tm,D6 (Qi parts) st.hp⟩ d (.loc d) (.own (.loc d)) (.arr (Ajk len elem) true esz rows))
   |_,_=>False
 |_=>False
mutual
def AV.ren(f:Nm→Nm):AV→AV
 | .ptr n o=> .ptr (f n) o
 | .elt n s i j=> .elt (f n) s i j
 | .own n=> .own (f n)
 | .fn g caps=> .fn g (AV.renL f caps)
 | .agg l=> .agg (AV.renL f l)
 | .tup l=> .tup (AV.renL f l)
 | .when t b w a=> .when t b w (AV.ren f a)
 | .imm v=> .imm v
 | .pin c=> .pin c
 | .undef=> .undef
 | .data n=> .data (f n)
 | .win n sz off len=> .win (f n) sz off len
 | .mp n=> .mp (f n)
 | .self n=> .self (f n)
 | .meth g n o=> .meth g (f n) o
def AV.renL(f:Nm→Nm):List AV→List AV
 | []=>[]
 |a::r=>AV.ren f a::AV.renL f r
end
def Ab1(f:Nm→Nm):Entry→Entry
 | .blk ty cells=> .blk ty (AV.renL f cells)
 |e=>e
def Ka(f:Nm→Nm):Heap→Heap
 | []=>[]
 |(n,e)::r=>(f n,Ab1 f e)::Ka f r
def Aiq(n:Nm):List Nm→Nat→Nm
 | [],_=> .up n
 |m::r,i=>match Nm.beq m n with |true=> .arg i |false=>Aiq n r (i+1)
def H8(ns:List Nm)(n:Nm):Nm:=Aiq n ns 0
def Amy(d:Nm):List Nm→Nat→Nm
 | [],_=>d
 |m::_,0=>m
 |_::r,i+1=>Amy d r i
def Anv(ns:List Nm)(d:Nat):Nm→Nm
 | .arg i=>Amy (.sub d (.arg i)) ns i
 | .loc t=> .sub d (.loc t)
 | .cell n j=> .sub d (.cell n j)
 | .up n=> .sub d (.up n)
 | .sub t n=> .sub d (.sub t n)
def Xd(d:Nat):Nm→Bool
 | .sub t _=>Nat.beq t d
 | .cell n _=>Xd d n
 | .loc _=>false
 | .arg _=>false
 | .up _=>false
def Anp(h:Heap)(n:Nm):Bool:=match hget h n with |some (.arr ty _ _ _)=> !(Nat.beq ty 1) |_=>false
def A0m(p:Nm→Bool):List Nm→Bool
 | []=>true
 |n::r=>p n && A0m p r
def Bcz(old new:AV):AV:=
 match old with
 | .imm (.bool _)=> .imm (.bool (rB new))
 | .imm (.int k _)=> .imm (.int k (rI new))
 | .imm (.str _)=> .imm (.str (rS new))
 | .imm (.sl _ sz _)=> .imm (.sl .any sz (rR new))
 | .imm (.ifc _)=> .imm (.ifc (rN new))
 | .imm (.raw _)=> .imm (.raw (rV new))
 |a=>a
def A35:List AV→List AV→Nat→List AV
 | [],_,_=>[]
 |o::r,l,j=>Bcz o (l.getD j .undef)::A35 r l (j+1)
def Au(h:Heap)(n:Nm):List AV:=match hget h n with |some (.blk _ cells)=>cells |_=>[]
def C8(h:Heap)(n:Nm):List (List IV):=match hget h n with |some (.arr _ _ _ rows)=>rows |_=>[]
def mapOf(h:Heap)(n:Nm):List (List UInt8 × Int):=match hget h n with |some (.map l)=>l |_=>[]
def Pe(h':Heap):Heap→Heap
 | []=>[]
 |(n, .blk ty cells)::r=>(n, .blk ty (A35 cells (Au h' n) 0))::Pe h' r
 |(n, .arr ty w sz _rows)::r=>(n, .arr ty w sz (C8 h' n))::Pe h' r
 |(n, .map _)::r=>(n, .map (mapOf h' n))::Pe h' r
 |(n,e)::r=>(n,e)::Pe h' r
def G7(hp:Heap):List AV→List AV
 | []=>[]
 |a::r=>(match Oe hp a with |some v=> .imm v |none=>a)::G7 hp r
def Dj(hp:Heap):List AV→List Nm
 | []=>[]
 |a::r=>(match Oe hp a with |some _v=>AV.names a |none=>[])++Dj hp r
def Anc:Nat:=1000000
def Ah0(t:Nat)(st:St):St:=match lk st.tm t with
 | .own n=>(match hget st.hp n with
   |some (.arr _ _ sz rows)=>⟨(t, .imm (.sl .any sz rows))::st.tm,D6 [n] st.hp⟩
   |_=>st)
 | .ptr n _=>(match hget st.hp n with
   |some (.blk ty cells)=>⟨st.tm,hset (D6 (Dj st.hp cells) st.hp) n (.blk ty (G7 st.hp cells))⟩
   |_=>st)
 |_=>st
def J4:List Nat→St→St
 | [],st=>st
 |t::r,st=>match Nat.ble Anc t with |true=>J4 r (Ah0 (t - Anc) st) |false=>J4 r st
def Ad7(tm:List (Nat × AV)):List Nat→List (Nat × AV)
 | []=>[]
 |t::r=>match Nat.ble Anc t with |true=>(t - Anc,lk tm (t - Anc))::Ad7 tm r |false=>(t,lk tm t)::Ad7 tm r
def Ag1(n:Nm):Entry→Entry
 | .blk ty [.imm (.raw (.pointer none)), .own m]=> .blk ty [.self n, .own m]
 | .blk ty [.ptr k 0, .own m]=>(match Nm.beq k n with |true=> .blk ty [.self n, .own m] |false=> .blk ty [.ptr k 0, .own m])
 |e=>e
def Aec:Heap→Heap
 | []=>[]
 |(n,e)::r=>(n,Ag1 n e)::Aec r
def mask(live:List Nat)(st:St):St:=
 let st:=J4 live st
 let tm:=Ad7 st.tm live
 let hp:=Aec st.hp
 ⟨tm,Ip hp (reach hp 400 (At4 tm++A1v (Ajb hp)) [])⟩
abbrev I1:=AC→Nat→List ResultVar→List AV→Heap→(AV→Heap→Prop)→Prop
def Ba7:Option Nat→Nat |some d=>d |none=>0
def Ah9(hp:Heap):List Nm→List Nm
 | []=>[]
 |n::r=>match hget hp n with |some (.arr _ _ _ _)=>Ah9 hp r |_=>n::Ah9 hp r
def handed(shy:Bool)(hp:Heap)(ns:List Nm):List Nm:=match shy with |true=>Ah9 hp ns |false=>ns
def Aq8(k:Nat):List Nm→List Nm→List Nm
 |acc,[]=>acc
 |acc,n::r=>match Gr n acc || Xd k n with |true=>Aq8 k acc r |false=>Aq8 k (acc++[n]) r
def Auk:Heap→List Nm
 | []=>[]
 |(_,e)::r=>Aw1 e++Auk r
def A24(k:Nat)(hp:Heap)(l:List Nm):List Nm:=Aq8 k (reach hp 400 l []) (Auk (Ip hp (reach hp 400 l []))++l)
def Tv(shy:Bool)(C:List AV→Heap→(AV→Heap→Prop)→Prop)(hp:Heap)(tm:List (Nat × AV))(d:Option Nat)(args:List AV)(Q:Heap→AV→Heap→(AV→Heap→Prop)→Prop)(K:St→Prop):Prop:=
 let k:=Ba7 d
 let ns:=A24 k hp (AV.namesL args)
 let ms:=handed shy hp ns
 let h0:=Ka (H8 ns) (Ip hp ms)
 let p:=fun n=>(Gr n ms && Anp hp n) || Xd k n
 match A0m (fun n=> !(Xd k n)) ns with
 |true=>C (AV.renL (H8 ns) args) h0 fun r h'=>Q h0 r h' fun r h'=>K (St.put ⟨Jb p tm,Ka (Anv ns k) h'++De p (Ww ms hp)⟩ d (noW (AV.ren (Anv ns k) r)))
 |false=>False
def Aw9(st:St)(d:Option Nat)(bt:Nat)(args:List AV)(K:St→Prop):Prop:=
 match args with
 | [.ptr n 0]=>match hget st.hp n with
   |some (.blk ty [a,c])=>match Nat.beq ty bt,a with
    |true, .imm (.raw (.pointer none))=>K (St.put ⟨st.tm,hset st.hp n (.blk ty [.ptr n 0,c])⟩ d (.tup []))
    |true, .ptr m 0=>match Nm.beq n m with |true=>K (St.put st d (.tup [])) |false=>False
    |true, .self m=>match Nm.beq n m with |true=>K (St.put ⟨st.tm,hset st.hp n (.blk ty [.self n,c])⟩ d (.tup [])) |false=>False
    |_,_=>False
   |_=>False
 |_=>False
def Aty:Entry→Entry
 | .arr _ true sz rows=> .arr 1 true sz rows
 |e=>e
def Aql(ns:List Nm):Heap→Heap
 | []=>[]
 |(n,e)::r=>(n,match Gr n ns with |true=>Aty e |false=>e)::Aql ns r
def rWo(r:AV):Nat:=match r with | .win _ _ o _=>o |_=>0
def rWl(r:AV):Nat:=match r with | .win _ _ _ l=>l |_=>0
def A71(T:TT)(ty:Nat)(r:AV):AV:=match (tl T ty).td with | .slice _ esz _ _=> .win (.arg 0) esz (rWo r) (rWl r) |_=>Lc T ty r
def Bbr:AV→Bool | .own _=>true | .tup l=>(match l with | .own _::_=>true |_=>false) |_=>false
def Bcx(T:TT)(ty:Nat):Nat:=match (tl T ty).td with
 | .slice _ esz _ _=>esz
 | .tuple ts=>(match ts with |t::_=>(match (tl T t).td with | .slice _ esz _ _=>esz |_=>0) | []=>0)
 |_=>0
def Av2(T:TT)(ty:Nat)(r:AV):AV:=match (tl T ty).td with
 | .tuple ts=>(match ts with |_::ts=> .tup (.own (.loc 0)::Ase T ts r 1) | []=> .undef)
 |_=> .own (.loc 0)
def Ar6(T:TT)(ty:Nat)(h':Heap):Heap:=[(.loc 0, .arr 0 true (Bcx T ty) (C8 h' (.loc 0)))]
def Arm(E:Env)(H:I1)(st:St)(d:Option Nat)(ty:Nat)(f:Nat)(args:List AV)(K:St→Prop):Prop:=
 match E.self f with
 |some bt=>Aw9 st d bt args K
 |none=>
 match E.inl f with
 |some (ac,nt,rs)=>Tv false (H ac nt rs) st.hp st.tm d args (fun _ r h' k=>k r h') K
 |none=>
  match E.wr f with
  |1=>Tv false (Call E.P f) (Aql (AV.namesL args) st.hp) st.tm d args (fun h0 r h' k=>Am (h'=Pe h' h0∧r=A71 E.T ty r) (k (A71 E.T ty r) (Pe h' h0))) K
  |2=>Tv false (Call E.P f) (D6 (Dj st.hp args) st.hp) st.tm d (G7 st.hp args) (fun h0 r h' k=>
    Am (h'=Pe h' h0++Ar6 E.T ty h'∧r=Av2 E.T ty r) (k (Av2 E.T ty r) (Pe h' h0++Ar6 E.T ty h'))) K
  |4=>Tv true (Call E.P f) (D6 (Dj st.hp args) st.hp) st.tm d (G7 st.hp args) (fun h0 r h' k=>Am (h'=Pe h' h0∧r=Lc E.T ty r) (k (Lc E.T ty r) (Pe h' h0))) K
  |_+3=>Tv false (Call E.P f) (D6 (Dj st.hp args) st.hp) st.tm d (G7 st.hp args) (fun h0 r h' k=>Br (Bbr r)
    (Am (h'=Pe h' h0++Ar6 E.T ty h'∧r=Av2 E.T ty r) (k (Av2 E.T ty r) (Pe h' h0++Ar6 E.T ty h')))
    (Am (h'=Pe h' h0∧r=Lc E.T ty r) (k (Lc E.T ty r) (Pe h' h0)))) K
  |0=>
   match Tw st.hp args with
   |some ivs=>Call E.P f (D7 ivs) [] fun r h'=>Am (h'=[]∧r=Lc E.T ty r) (K (St.put ⟨st.tm,D6 (AV.namesL args) st.hp⟩ d (Lc E.T ty r)))
   |none=>Tv false (Call E.P f) (D6 (Dj st.hp args) st.hp) st.tm d (G7 st.hp args) (fun h0 r h' k=>Am (h'=Pe h' h0∧r=Lc E.T ty r) (k (Lc E.T ty r) (Pe h' h0))) K
def Jk(z:List IV)(off len:Nat)(rows:List (List IV)):List (List IV):=rows.take off++List.replicate len z++rows.drop (off+len)
def Azq(T:TT)(st:St)(d:Option Nat)(t:Nat)(x:AV)(K:St→Prop):Prop:=
 match (tl T t).td,x with
 | .slice elem esz _ _, .win n sz off len=>match hget st.hp n,Nat.beq sz esz && Uc T elem with
   |some (.arr ty true sz' rows),true=>(match Nat.beq sz' esz with
    |true=>K (St.put ⟨st.tm,hset st.hp n (.arr ty true esz (Jk (tl T elem).zero off len rows))⟩ d (.tup []))
    |false=>False)
   |_,_=>False
 |_,_=>False
def Gl(s:List UInt8)(pos:Nat):Nat × Nat:=Utf8.decode ⟨s.toArray⟩ pos
def Aja(ti:TI)(st:St)(d:Nat)(x:AV)(lo hi mx:Option AV)(K:St→Prop):Prop:=
 match x with
 | .own n=>match hget st.hp n,ti.td with
   |some (.arr _ _ sz rows), .slice _ esz _ _=>match Ab2 rows.length lo hi mx,Nat.beq sz esz with
    |some (c,l,h),true=>Am c (K (St.put ⟨st.tm,D6 [n] st.hp⟩ (some d) (.imm (.sl .any sz (Ata lo hi l h rows)))))
    |_,_=>False
   |_,_=>False
 |_=>False
def Aax(st:St)(d e:Nat)(x n:AV)(K:St→Prop):Prop:=
 match x,n with
 | .data nm, .imm (.int .i64 len)=>match hget st.hp nm with
   |some (.arr ty _ 1 rows)=>(match Nat.beq ty (e+2)with
    |true=>Am ((len=rows.length∧rows.length≤9223372036854775807)∧(∀r,r∈rows→Cu [.int .u8] r=true)) (K (St.put ⟨st.tm,D6 [nm] st.hp⟩ (some d) (.imm (.str (rows.map fun r=>UInt8.ofNat (gI r 0).toNat)))))
    |false=>False)
   |_=>False
 |_,_=>False
def Ai9(neg:Bool)(st:St)(d:Nat)(x:AV)(K:St→Prop):Prop:=
 match x with
 | .imm (.sl _ _ rows)=>A0k (rows=[]) (K (St.put st (some d) (.imm (.bool (!neg))))) (K (St.put st (some d) (.imm (.bool neg))))
 | .own n=>match hget st.hp n with
   |some (.arr _ _ _ rows)=>A0k (rows=[]) (K (St.put st (some d) (.imm (.bool (!neg))))) (K (St.put st (some d) (.imm (.bool neg))))
   |_=>False
 |_=>False
def Ad4(E:Env)(H:Option I1)(st:St)(o:Oper)(K:St→Prop):Prop:=
 match H with
 |none=>False
 |some H=>
 let e (ty:Nat) (x:Operand):AV:=strip none (ev E.T st.tm ty x)
 match o.op,o.dst with
 | .assign x,some d=>match e o.type x with
   | .imm (.sl .nil sz [])=>K (Fe st d (.loc d) (.own (.loc d)) (.arr (match (tl E.T o.type).td with | .slice e _ _ _=>e+2 |_=>0) true sz []))
   |_=>False
 | .binOp .eql xt x y _,some d=>match Zr y,(tl E.T xt).td with
   |true, .slice _ _ _ _=>Ai9 false st d (e xt x) K
   |_,_=>False
 | .binOp .neq xt x y _,some d=>match Zr y,(tl E.T xt).td with
   |true, .slice _ _ _ _=>Ai9 true st d (e xt x) K
   |_,_=>False
 | .alloc t,some d=>match Uc E.T t with
   |true=>(match Bay (tl E.T t).td with
    |some (k,esz)=>(match Nat.beq (tl E.T t).zero.length (k*esz)with
     |true=>K (Fe st d (.loc d) (.ptr (.loc d) 0) (.arr 1 true esz (chunk esz k (tl E.T t).zero)))
     |false=>False)
    |none=>K (newVar st d t (tl E.T t).sh (D7 (tl E.T t).zero)))
   |false=>False
 | .box t x,some d=>match Mx (e t x) && Nat.beq (flat (e t x)).length (tl E.T t).size with
   |true=>K (newVar st d t (tl E.T t).sh (flat (e t x)))
   |false=>False
 | .store t a x,d=>match Uc E.T t && (Mx (e t x) && Nat.beq (flat (e t x)).length (tl E.T t).size)with
   |true=>(match Bay (tl E.T t).td with
    |some (k,esz)=>Aro st d k esz (e 0 a) (e t x) K
    |none=>Anj st d (tl E.T t).sh (e 0 a) (e t x) K)
   |false=>False
 | .buildSlice t len parts,some d=>Zg E.T st d t len (Na none (J6 E.T st.tm 0 parts.toList)) K
 | .call ⟨.builtin .append,args,ts⟩,some d=>match args.toList,ts.toList with
   | [s,x],[t,u]=>Aw6 E.T st d t u (e t s) (e u x) K
   |_,_=>False
 | .convert s t x,some d=>match (tl E.T s).td,(tl E.T t).td,e s x with
   | .str, .slice elem _ _ _, .imm (.str l)=>match (tl E.T elem).td with
     | .int .u8=>Am (l.length≤Gm) (K (Fe st d (.loc d) (.own (.loc d)) (.arr 0 true 1 (A8 l))))
     |_=>False
   |_,_,_=>False
 | .range t x,some d=>match (tl E.T t).td,e t x with
   | .str, .imm (.str s)=>K (Fe st d (.loc d) (.ptr (.loc d) 0) (.sit s 0))
   |_,_=>False
 | .makeMap t none,some d=>match (tl E.T t).td with
   | .map=>K (Fe st d (.loc d) (.mp (.loc d)) (.map []))
   |_=>False
 | .mapUpdate t m k x,d=>match (tl E.T t).td,e t m,e 0 k,e 0 x with
   | .map, .mp n, .imm (.str s), .imm (.int .i64 v)=>match hget st.hp n with
     |some (.map l)=>K (St.put ⟨st.tm,hset st.hp n (.map (Vi l s v))⟩ d .undef)
     |_=>False
   |_,_,_,_=>False
 | .next it true,some d=>match e 0 it with
   | .ptr n 0=>match hget st.hp n with
     |some (.sit s pos)=>Br (decide (pos<s.length))
      (K ⟨(d, .tup [.imm (.bool true), .imm (.int .i64 pos), .imm (.int .i32 (Gl s pos).1)])::st.tm,hset st.hp n (.sit s (pos+(Gl s pos).2))⟩)
      (K ⟨(d, .tup [.imm (.bool false)])::st.tm,st.hp⟩)
     |_=>False
   |_=>False
 | .slice t x lo hi mx,some d=>Aja (tl E.T t) st d (e t x) (H7 none (Kj E.T st.tm lo)) (H7 none (Kj E.T st.tm hi)) (H7 none (Kj E.T st.tm mx)) K
 | .call ⟨.builtin .unsafeString,args,ts⟩,some d=>match args.toList,ts.toList with
   | [x,n],[t,u]=>(match (tl E.T t).td with
     | .pointer b=>(match (tl E.T b).td with | .int .u8=>Aax st d b (e t x) (e u n) K |_=>False)
     |_=>False)
   |_,_=>False
 | .call ⟨.builtin .clear,args,ts⟩,d=>match args.toList,ts.toList with
   | [x],[t]=>Azq E.T st d t (e t x) K
   |_,_=>False
 | .call ⟨.value f,args,ts⟩,d=>match e 0 f,Nat.beq args.toList.length ts.toList.length with
   | .fn f caps,true=>Arm E H st d o.type f (stripL none (evs E.T st.tm args.toList ts.toList)++caps) K
   | .meth f n off,true=>Arm E H st d o.type f (.ptr n off::stripL none (evs E.T st.tm args.toList ts.toList)) K
   |_,_=>False
 |_,_=>False
def Ag2:AV:= .imm (.raw (.tuple ⟨[]⟩))
def An0(t:Nat)(b:Bool):AV→AV
 | .when t' b' want a=>(match Nat.beq t t' with
  |true=>(match Bool.xor b want with |false=>a |true=>Ag2)
  |false=> .when t' b' want a)
 | .imm v=> .imm v
 | .ptr n o=> .ptr n o
 | .elt n s i j=> .elt n s i j
 | .own n=> .own n
 | .pin c=> .pin c
 | .fn f c=> .fn f c
 | .agg l=> .agg l
 | .tup l=> .tup l
 | .undef=> .undef
 | .data n=> .data n
 | .win n sz off len=> .win n sz off len
 | .mp n=> .mp n
 | .self n=> .self n
 | .meth f n o=> .meth f n o
def At2(t:Nat)(b:Bool):List (Nat × AV)→List (Nat × AV)
 | []=>[]
 |(u,a)::r=>(u,An0 t b a)::At2 t b r
def Wx:List (Nat × AV)→List (Nat × AV)
 | []=>[]
 |(u,a)::r=>(u,Abo (noW a))::Wx r
def Og(nt:Nat):Option Nat→Bool |none=>true |some d=>Nat.blt d nt
def Ad8(t:Nat)(b:Bool)(st:St):St:=⟨(t, .imm (.raw (.bool b)))::At2 t b st.tm,st.hp⟩
def named:Op→Bool
 | .pick _ _ _=>true
 | .slice _ _ _ _ _=>true
 |_=>false
def Aa4(o:Op)(v:AV)(K:AV→Prop):Prop:=
 match named o,v with
 |true, .imm (.bool b)=>Let b fun b=>K (.imm (.bool b))
 |true, .imm (.str s)=>Let s fun s=>K (.imm (.str s))
 |_,v=>Vh v K
def noH:Option I1→Bool |none=>true |some _=>false
def Ang(E:Env)(H:Option I1)(o:Oper)(t:Nat)(want b:Bool)(st:St)(K:St→Prop):Prop:=
 match Zi E.T (noH H) (some (t,want)) st o with
 |some (.ok v)=>Aa4 o.op (noW v) fun v=>K (st.put o.dst (.when t b want v))
 |some (.req c v)=>Am (b=want→c) (Aa4 o.op (noW v) fun v=>K (st.put o.dst (.when t b want v)))
 |some .bad=>False
 |none=>Br (b == want) (Wm (Ad8 t want st) fun st=>Ad4 E H st o fun st=>Wm st K) (Wm ((Ad8 t (!want) st).put o.dst Ag2) K)
def Azr(E:Env)(H:Option I1)(o:Oper)(t:Nat)(want:Bool)(st:St)(K:St→Prop):Prop:=
 match Zi E.T (noH H) (some (t,want)) st o with
 |some (.ok v)=>Aa4 o.op (noW v) fun v=>K (st.put o.dst v)
 |some (.req c v)=>Am c (Aa4 o.op (noW v) fun v=>K (st.put o.dst v))
 |some .bad=>False
 |none=>Ad4 E H st o fun st=>Wm st K
def A6r:Value→Option (Option Bool)
 | .tuple ⟨[]⟩=>some none
 | .bool b=>some (some b)
 |_=>none
def A0z(E:Env)(H:Option I1)(all:List Oper)(o:Oper)(st:St)(K:St→Prop):Prop:=
 match Og E.nt o.dst with
 |false=>False
 |true=>
 match o.guard with
 |none=>match Zi E.T (noH H) none st o with
  |some (.ok v)=>Aa4 o.op (noW v) fun v=>K (st.put o.dst v)
  |some (.req c v)=>Am c (Aa4 o.op (noW v) fun v=>K (st.put o.dst v))
  |some .bad=>False
  |none=>Ad4 E H st o fun st=>Wm st K
 |some (j,want)=>match all[j]? with
  |some oj=>match oj.dst with
   |some t=>match lk st.tm t with
    | .imm (.bool b)=>Ang E H o t want b st K
    | .imm (.raw v)=>match A6r v with
      |some none=>K (st.put o.dst Ag2)
      |some (some b)=>(match Bool.xor b want with |true=>K (st.put o.dst Ag2) |false=>Azr E H o t want st K)
      |none=>False
    | .when t' b' w' (.imm (.bool b))=>Br (b' == w') (Wm (Ad8 t' w' st) fun st=>Ang E H o t want b st K) (Wm ((Ad8 t' (!w') st).put o.dst Ag2) K)
    |_=>False
   |none=>False
  |none=>False
def Zh(E:Env)(H:Option I1)(all:List Oper):List Oper→St→(St→Prop)→Prop
 | [],st,K=>K st
 |o::r,st,K=>A0z E H all o st fun st=>Zh E H all r st K
def Ub:List Oper→Bool
 | []=>false
 |o::r=>(match o.guard with |some _=>true |none=>false) || Ub r
def Zd(t:Nat):List Oper→Nat
 | []=>0
 |o::r=>(match o.dst with |some d=>(match Nat.beq d t with |true=>1 |false=>0) |none=>0)+Zd t r
def Fb(all:List Oper):List Oper→Bool
 | []=>true
 |o::r=>(match o.guard with
   |none=>true
   |some (j,_)=>match all[j]? with
    |some oj=>(match oj.dst with |some t=>Nat.beq (Zd t (o::r)) 0 |none=>false)
    |none=>false) && Fb all r
def Bcn:Oper→Bool
 |o=>match o.op with
  | .alloc _=>true
  | .box _ _=>true
  | .store _ _ _=>true
  | .buildSlice _ _ _=>true
  | .range _ _=>true
  | .next _ _=>true
  | .makeMap _ _=>true
  | .mapUpdate _ _ _ _=>true
  | .call ⟨.value _,_,_⟩=>true
  | .call ⟨.builtin .append,_,_⟩=>true
  | .call ⟨.builtin .clear,_,_⟩=>true
  | .call ⟨.builtin .unsafeString,_,_⟩=>true
  |_=>false
def Axc:List Oper→Nat→Option Nat
 | [],_=>none
 |o::r,n=>match Bcn o with |true=>some n |false=>Axc r (n+1)
def Axa(E:Env)(H:I1)(ops:List Oper)(n:Nat)(st:St)(K:St→Prop):Prop:=
 match Ub ops with
 |false=>Zh E none ops (ops.take n) st fun st=>Zh E (some H) ops (ops.drop n) st K
 |true=>match Fb ops ops with
  |true=>Zh E none ops (ops.take n) st fun st=>Zh E (some H) ops (ops.drop n) st fun st=>Wm ⟨Wx st.tm,st.hp⟩ K
  |false=>False
def Aaw(E:Env)(H:Option I1)(ops:List Oper)(st:St)(K:St→Prop):Prop:=
 match Ub ops with
 |false=>Zh E H ops ops st K
 |true=>match Fb ops ops with
  |true=>Zh E H ops ops st fun st=>Wm ⟨Wx st.tm,st.hp⟩ K
  |false=>False
def Arb(T:TT):List Nat→Bool
 | []=>false
 |t::r=>(match (tl T t).td with | .pointer _=>true |_=>false) || Arb T r
def A5c(T:TT)(pc fa:Bool)(o:Oper):Nat:=match o.guard with
 |some _=>3
 |none=>match o.op with
  | .move _=>0
  | .assign x=>(match Zr x with |true=>3 |false=>0)
  | .binOp _ _ _ y _=>(match Zr y with |true=>3 |false=>0)
  | .unOp _ _ _=>0
  | .fieldAddr _ _ _=>(match fa with |true=>0 |false=>1)
  | .index _ _ _=>0
  | .slice t _ _ _ _=>(match (tl T t).td with | .str=>0 |_=>1)
  | .load _ _=>1
  | .lookup _ _ _ false=>1
  | .indexAddr _ _ _=>1
  | .extract _ _=>1
  | .field _ _ _=>1
  | .build _ _=>1
  | .nilCheck _=>1
  | .makeFunc _ _ _=>1
  | .convert s d _=>(match (tl T s).td,(tl T d).td with | .str, .slice .. =>3 |_,_=>1)
  | .call ⟨.builtin .len,_,_⟩=>1
  | .call ⟨.builtin .max,_,_⟩=>1
  | .call ⟨.builtin .min,_,_⟩=>1
  | .buildSlice _ _ _=>2
  | .call ⟨.value _,_,ts⟩=>(match pc && !(Arb T ts.toList)with |true=>2 |false=>3)
  |_=>3
def As6(T:TT)(v:Bool × Bool)(ops:Array Oper)(k:Nat):Nat:=match ops[k]? with |some o=>A5c T v.1 v.2 o |none=>3
def A7z(cl:Nat→Nat):List Nat→Option Nat
 | []=>none
 |k::r=>match cl k with |0=>some k |1=>some k |_=>A7z cl r
def Ajy(ops:Array Oper)(cl:Nat→Nat):Nat→Array Bool→List Nat
 |0,_=>[]
 |f+1,listed=>match Region.ready .any ops listed with
  | []=>[]
  |k0::r=>(match A7z cl (k0::r)with
   |some k=>k::Ajy ops cl f (listed.setIfInBounds k true)
   |none=>k0::Ajy ops cl f (listed.setIfInBounds k0 true))
def Awv:IV→Bool
 | .int _ _=>true
 | .bool _=>true
 | .str _=>true
 | .sl .nil _ []=>true
 |_=>false
def Aww:List IV→Bool
 | []=>true
 |v::r=>Awv v && Aww r
def A5i:AV→Bool
 | .imm v=>Awv v
 | .ptr _ _=>true
 | .own _=>true
 |_=>false
def Ark:List AV→Bool
 | []=>true
 |v::r=>A5i v && Ark r
def Awx:AV→Bool
 | .imm v=>(match v with | .agg l=>Aww l |v=>Awv v)
 | .ptr _ _=>true
 | .elt _ _ _ _=>true
 | .own _=>true
 | .agg l=>Ark l
 |_=>false
def Anq(T:TT)(st:St)(o:Oper):PR:=
 let e (ty:Nat) (x:Operand):AV:=strip none (ev T st.tm ty x)
 match o.op with
 | .binOp op xt x y yt=>(match Zr y with |true=> .bad |false=>Avy (isConst x || isConst y) (tl T xt) op (e xt x) (e yt y))
 | .unOp op xt x=>A00 op (e xt x)
 | .fieldAddr t x j=>Abi (tl T t) (e t x) j
 | .index t x i=>Anh (tl T t) (e t x) (e t i)
 | .slice t x lo hi mx=>(match e t x with
   | .imm (.str s)=>Yf (tl T t) [] false (.imm (.str s)) (H7 none (Kj T st.tm lo)) (H7 none (Kj T st.tm hi)) (H7 none (Kj T st.tm mx))
   |_=> .bad)
 | .build t parts=>Anf (tl T t) (Na none (J6 T st.tm 0 parts.toList))
 | .nilCheck x=>Ag0 (e 0 x)
 |_=> .bad
def Ah2(E:Env)(st:St)(o:Oper)(K:St→Prop):Prop:=
 match o.guard,Og E.nt o.dst with
 |none,true=>match o.op with
  | .move x=>Vh (noW (strip none (ev E.T st.tm o.type x))) fun v=>K (st.put o.dst v)
  | .assign x=>Vh (noW (strip none (ev E.T st.tm o.type x))) fun v=>K (st.put o.dst v)
  |_=>match Anq E.T st o with
   | .ok v=>(match Awx v with |true=>Aa4 o.op (noW v) fun v=>K (st.put o.dst v) |false=>False)
   | .req c v=>(match Awx v with |true=>Am c (Aa4 o.op (noW v) fun v=>K (st.put o.dst v)) |false=>False)
   | .bad=>False
 |_,_=>False
def Ani(E:Env)(st:St)(o:Oper)(K:St→Prop):Prop:=
 match o.guard,Og E.nt o.dst with
 |none,true=>match Zi E.T false none st o with
  |some (.ok v)=>Aa4 o.op (noW v) fun v=>K (st.put o.dst v)
  |some (.req c v)=>Am c (Aa4 o.op (noW v) fun v=>K (st.put o.dst v))
  |_=>False
 |_,_=>False
def Ah3(E:Env)(st:St)(o:Oper)(K:St→Prop):Prop:=
 let e (ty:Nat) (x:Operand):AV:=strip none (ev E.T st.tm ty x)
 match o.guard,Og E.nt o.dst with
 |none,true=>match o.op,o.dst with
  | .buildSlice t len parts,some d=>Zg E.T st d t len (Na none (J6 E.T st.tm 0 parts.toList)) K
  | .call ⟨.value f,args,ts⟩,d=>(match e 0 f,Nat.beq args.toList.length ts.toList.length with
    | .fn f caps,true=>(match E.self f,E.inl f,E.wr f,Tw st.hp (stripL none (evs E.T st.tm args.toList ts.toList)++caps)with
      |none,none,0,some ivs=>Call E.P f (D7 ivs) [] fun r h'=>Am (h'=[]∧r=Lc E.T o.type r) (K (St.put ⟨st.tm,D6 (AV.namesL (stripL none (evs E.T st.tm args.toList ts.toList)++caps)) st.hp⟩ d (Lc E.T o.type r)))
      |_,_,_,_=>False)
    |_,_=>False)
  |_,_=>False
 |_,_=>False
def Ad5(E:Env)(H:I1)(ops:List Oper)(cl:Nat→Nat):List Nat→St→(St→Prop)→Prop
 | [],st,K=>K st
 |k::r,st,K=>match ops[k]? with
  |none=>False
  |some o=>match cl k with
   |0=>Ah2 E st o fun st=>Ad5 E H ops cl r st K
   |1=>Ani E st o fun st=>Ad5 E H ops cl r st K
   |2=>Ah3 E st o fun st=>Wm st fun st=>Ad5 E H ops cl r st K
   |_=>match o.guard,Og E.nt o.dst with
    |none,true=>Ad4 E (some H) st o fun st=>Wm st fun st=>Ad5 E H ops cl r st K
    |_,_=>False
def A0w(t:Nat):List Oper→Option Op
 | []=>none
 |o::r=>match o.dst with |some d=>(match Nat.beq d t with |true=>some o.op |false=>A0w t r) |none=>A0w t r
def A70:AV→Option Nm | .ptr n _=>some n |_=>none
def Ap7(st:St)(ops:List Oper):List Oper→List Nm
 | []=>[]
 |o::r=>(match o.op with
  | .store _ (.tmp t) _=>(match A0w t ops with
    |some (.fieldAddr _ (.tmp u) _)=>(match A70 (lk st.tm u)with |some n=>[n] |none=>[])
    |some _=>[]
    |none=>(match A70 (lk st.tm t)with |some n=>[n] |none=>[]))
  |_=>[])++Ap7 st ops r
def Avv(T:TT)(ops:Array Oper)(k:Nat):Nat:=match ops[k]? with
 |some o=>(match o.guard,o.op with
  |none, .load _ _=>1
  |none, .store _ _ _=>2
  |none, .build _ _=>0
  |none, .nilCheck _=>0
  |none, .call ⟨.value _,_,ts⟩=>(match Arb T ts.toList with |true=>3 |false=>2)
  |_,_=>A5c T false true o)
 |none=>3
def Azz:Nm→Bool | .cell _ _=>true |_=>false
def Ara(hp:Heap):List Nm→Bool
 | []=>true
 |n::r=>(match hget hp n with |some (.blk _ _)=> !(Azz n) |_=>false) && Ara hp r
def A2x(E:Env)(ns:List Nm)(st:St)(o:Oper)(K:St→Prop):Prop:=
 match o.guard,Og E.nt o.dst,o.op with
 |none,true, .load t a=>match strip none (ev E.T st.tm t a)with
  | .ptr n off=>(match Gr n ns,Ara st.hp ns,hget st.hp n,Ab3 (tl E.T t) st.hp (.ptr n off)with
    |false,true,some (.blk _ _), .ok v=>Aa4 o.op (noW v) fun v=>K (st.put o.dst v)
    |_,_,_,_=>False)
  |_=>False
 |_,_,_=>False
def A2y(E:Env)(ns:List Nm)(st:St)(o:Oper)(K:St→Prop):Prop:=
 match o.guard,Og E.nt o.dst,o.op with
 |none,true, .store t a x=>match strip none (ev E.T st.tm 0 a),Uc E.T t && (Mx (strip none (ev E.T st.tm t x)) && Nat.beq (flat (strip none (ev E.T st.tm t x))).length (tl E.T t).size)with
  | .ptr n off,true=>(match Gr n ns && !(Azz n)with
    |true=>Anj st o.dst (tl E.T t).sh (.ptr n off) (strip none (ev E.T st.tm t x)) K
    |false=>False)
  |_,_=>False
 |_,_,_=>False
def A2w(E:Env)(ns:List Nm)(st:St)(o:Oper)(K:St→Prop):Prop:=
 match o.op with
 | .call ⟨.value _,_,_⟩=>Ah3 E st o K
 |_=>A2y E ns st o K
def Ai8(E:Env)(ns:List Nm)(ops:List Oper)(cl:Nat→Nat):List Nat→St→(St→Prop)→Prop
 | [],st,K=>K st
 |k::r,st,K=>match ops[k]? with
  |none=>False
  |some o=>match cl k with
   |0=>Ah2 E st o fun st=>Ai8 E ns ops cl r st K
   |1=>A2x E ns st o fun st=>Ai8 E ns ops cl r st K
   |2=>A2w E ns st o fun st=>Wm st fun st=>Ai8 E ns ops cl r st K
   |_=>False
def A40:List Nat→(Nat→Prop)→Prop
 | [],_=>True
 |k::r,F=>match r with | []=>F k |_=>F k∧A40 r F
def unG(o:Oper):Oper:= { o with guard:=none }
def Avu(E:Env)(ops:Array Oper)(k:Nat):Nat:=match ops[k]? with
 |some o=>(match o.op with
  | .pick _ _ _=>1
  | .call ⟨.value f,_args,ts⟩=>(match f,Arb E.T ts.toList with
    | .func f,false=>(match E.inl f,E.wr f with |none,0=>2 |_,_=>3)
    |_,_=>3)
  |_=>A5c E.T false true (unG o))
 |none=>3
def A7t(k:Nat):List Oper→Bool
 | []=>false
 |o::r=>(match o.guard with |some (j,_)=>Nat.beq j k |none=>false) || A7t k r
def Ah6(ops:List Oper)(st:St)(o:Oper):Option Bool:=match o.guard with
 |none=>some true
 |some (j,want)=>match ops[j]? with
  |some oj=>(match oj.dst with
   |some t=>(match lk st.tm t with | .imm (.bool b)=>some (!(Bool.xor b want)) |_=>none)
   |none=>none)
  |none=>none
def Aw5(E:Env)(H:I1)(ops:List Oper)(cl:Nat→Nat)(k:Nat)(st:St)(K:St→Prop):Prop:=
 match ops[k]? with
 |none=>False
 |some o=>match Og E.nt o.dst with
  |false=>False
  |true=>match Ah6 ops st o with
   |none=>False
   |some false=>K (st.put o.dst .undef)
   |some true=>match cl k with
    |0=>Ah2 E st (unG o) K
    |1=>Ani E st (unG o) K
    |2=>Ah3 E st (unG o) fun st=>Wm st K
    |_=>Ad4 E (some H) st (unG o) fun st=>Wm st K
def Ad6(ops:List Oper)(k:Nat)(st:St)(K:St→Prop):Prop:=
 match A7t k ops with
 |false=>K st
 |true=>match ops[k]? with
  |some o=>(match o.dst with
   |some d=>(match lk st.tm d with
    | .imm (.bool b)=>Br b (K (st.put (some d) (.imm (.bool true)))) (K (st.put (some d) (.imm (.bool false))))
    |_=>False)
   |none=>False)
  |none=>False
def Av1(ops:Array Oper)(cl:Nat→Nat)(listed:Array Bool):List Nat→Option Nat
 | []=>none
 |k::r=>match (match cl k with
   |0=>Region.free .any ops listed k
   |1=>Region.free .any ops listed k && (Ann .any ops cl k && A1b cl ops.size k listed)
   |_=>false)with
  |true=>some k
  |false=>Av1 ops cl listed r
def Zf(E:Env)(H:I1)(ops:Array Oper)(cl:Nat→Nat):Nat→Array Bool→St→(St→Prop)→Prop
 |0,listed,st,K=>match Region.ready .any ops listed with | []=>K st |_=>False
 |f+1,listed,st,K=>match Region.ready .any ops listed with
  | []=>K st
  |k0::r=>match Av1 ops cl listed (k0::r)with
   |some k=>Aw5 E H ops.toList cl k st fun st=>Ad6 ops.toList k st fun st=>Zf E H ops cl f (listed.setIfInBounds k true) st K
   |none=>A40 (k0::r) fun k=>Aw5 E H ops.toList cl k st fun st=>Ad6 ops.toList k st fun st=>Zf E H ops cl f (listed.setIfInBounds k true) st K
def Arn(E:Env)(H:I1)(ops:Array Oper)(st:St)(K:St→Prop):List (Bool × Bool)→Prop
 | []=>False
 |v::r=>match Atw ops (As6 E.T v ops) (Ajy ops (As6 E.T v ops) ops.size (Array.replicate ops.size false))with
  |true=>Ad5 E H ops.toList (As6 E.T v ops) (Ajy ops (As6 E.T v ops) ops.size (Array.replicate ops.size false)) st K
  |false=>Arn E H ops st K r
def A3n(E:Env)(ops:Array Oper):List (Bool × Bool)→Bool
 | []=>false
 |v::r=>Atw ops (As6 E.T v ops) (Ajy ops (As6 E.T v ops) ops.size (Array.replicate ops.size false)) || A3n E ops r
def A7x:List (Bool × Bool):=[(false,false),(true,false),(false,true),(true,true)]
def Avz(E:Env)(H:I1)(ops:Array Oper)(st:St)(K:St→Prop):Prop:=
 match A3n E ops A7x with
 |true=>Arn E H ops st K A7x
 |false=>match Atw ops (Avv E.T ops) (Ajy ops (Avv E.T ops) ops.size (Array.replicate ops.size false))with
  |true=>Ai8 E (Ap7 st ops.toList ops.toList) ops.toList (Avv E.T ops) (Ajy ops (Avv E.T ops) ops.size (Array.replicate ops.size false)) st K
  |false=>match Region.noSelect ops && Amc .any ops (Avu E ops)with
   |true=>Zf E H ops (Avu E ops) ops.size (Array.replicate ops.size false) st K
   |false=>False
structure Cc (n:Nat) (P:Program) (nt:Nat) (b:Code) (st:St) (Q:Ex→St→Prop):Prop where
 ok:LIn P nt b st Q
structure Ay (n:Nat) (P:Program) (nt:Nat) (b:Code) (st:St) (Q:Ex→St→Prop):Prop where
 ok:WP P nt b st Q
structure Jg (n:Nat) (P:Program) (nt l:Nat) (c:Code) (st:St) (Q:Ex→St→Prop):Prop where
 ok:∃rest,findLabel c l=some rest∧SIn P nt c rest st Q
def AC.labless:AC→Bool
 | .seq a b=>a.labless && b.labless
 | .label _=>false
 | .bad _=>false
 | .cut _ _ _ b=>b.labless
 |_=>true
def AC.after(l:Nat):AC→Option AC
 | .seq a b=>match a.after l with |some r=>some (.seq r b) |none=>(match a.labless with |true=>b.after l |false=>none)
 | .label l'=>match Nat.beq l' l with |true=>some .skip |false=>none
 | .cut _n _live _out b=>match b.after l with |some r=>some r |none=>none
 |_=>none
def eval(E:Env)(H:I1):AC→St→(Ex→St→Prop)→Prop
 | .skip,st,Q=>Q .normal st
 | .region _ ops draw,st,Q=>match draw with
   |false=>Aaw E (some H) ops.toList st (Q .normal)
   |true=>match Axc ops.toList 0 with
    |none=>(match Region.lexB .any ops with
     |true=>Aaw E none ops.toList st (Q .normal)
     |false=>Avz E H ops st (Q .normal))
    |some n=>(match Region.lexTailB .any ops n with
     |true=>Axa E H ops.toList n st (Q .normal)
     |false=>Avz E H ops st (Q .normal))
 | .seq a b,st,Q=>eval E H a st fun e st=>match e with | .normal=>eval E H b st Q | .exit i=>Q (.exit i) st | .goto l=>Q (.goto l) st | .ret=>Q .ret st
 | .cond c x y,st,Q=>match strip none (ev E.T st.tm 0 c)with
   | .imm (.bool b)=>Br b (eval E H x st Q) (eval E H y st Q)
   |_=>False
 | .block id b,st,Q=>eval E H b st fun e st=>match e with
   | .normal=>Q .normal st
   | .exit i=>(match Nat.beq i id with |true=>Q .normal st |false=>Q (.exit i) st)
   | .goto l=>Q (.goto l) st
   | .ret=>Q .ret st
 | .loop n live b,st,Q=>Cc n E.P E.nt b.code (mask live st) Q
 | .exit id live,st,Q=>Wm (mask live st) (Q (.exit id))
 | .goto l live,st,Q=>Wm (mask live st) (Q (.goto l))
 | .scope n live b,st,Q=>eval E H b st fun e st=>match e with
   | .normal=>Q .normal st
   | .exit i=>Q (.exit i) st
   | .goto l=>Jg n E.P E.nt l b.code (mask live st) Q
   | .ret=>Q .ret st
 | .ret live,st,Q=>Wm (mask live st) (Q .ret)
 | .cut n live _ b,st,Q=>Ay n E.P E.nt b.code (mask live st) Q
 | .label _,st,Q=>Q .normal st
 |_,_,_=>False
def Bby(n:Nat)(P:Program)(nt:Nat)(c:Code)(live:List Nat)(K:Ex→St→Prop):Ex→St→Prop
 | .normal,st=>K .normal st
 | .exit i,st=>K (.exit i) st
 | .goto l,st=>Jg n P nt l c (mask live st) K
 | .ret,st=>K .ret st
def Ke(k:Nat)(ac:AC):AC:=match AC.find k ac with |some (.scope _ _ b)=>b |_=> .skip
def A6v(k l:Nat)(ac:AC):AC:=match (Ke k ac).after l with |some r=>r |none=> .skip
def Bcq(n:Nat)(P:Program)(nt:Nat)(c:Code)(live:List Nat)(K:Ex→St→Prop):Ex→St→Prop
 | .normal,st=>Cc n P nt c (mask live st) K
 | .exit i,st=>K (.exit i) st
 | .goto l,st=>K (.goto l) st
 | .ret,st=>K .ret st
def Bc5(out:List Nat)(K:Ex→St→Prop):Ex→St→Prop
 | .normal,st=>K .normal (mask out st)
 | .exit i,st=>K (.exit i) st
 | .goto l,st=>K (.goto l) st
 | .ret,st=>K .ret st
def A9(k:Nat)(ac:AC):AC:=match AC.find k ac with |some (.loop _ _ b)=>b |_=> .skip
def Ag(k:Nat)(ac:AC):AC:=match AC.find k ac with |some (.cut _ _ _ b)=>b |_=> .skip
def codeOf(f:Func):Code:=match f.body with |some c=>c |none=> .skip
def Asb(T:TT)(st:St):ResultVar→Option AV
 | .tmp t=>some (lk st.tm t)
 | .cell a t=>match Ab3 (tl T t) st.hp (lk st.tm a)with | .ok v=>some v | .req _ v=>some v |_=>none
def Aik(T:TT)(st:St):ResultVar→Option Prop
 | .tmp _=>none
 | .cell a t=>match Ab3 (tl T t) st.hp (lk st.tm a)with | .req c _=>some c |_=>none
def Yh(T:TT)(st:St):List ResultVar→Prop→Prop
 | [],K=>K
 |r::rs,K=>match Aik T st r with |some c=>Am c (Yh T st rs K) |none=>Yh T st rs K
def U7(T:TT)(st:St):List ResultVar→Option (List AV)
 | []=>some []
 |r::rs=>match Asb T st r,U7 T st rs with |some a,some l=>some (a::l) |_,_=>none
def Z4(l:List AV):AV:=match l with | [a]=>a |l=> .tup l
def isW:AV→Bool | .when _ _ _ _=>true |_=>false
def Ax0:List AV→Bool
 | []=>true
 |a::r=>(match isW a with |true=>false |false=>true) && Ax0 r
def Amw:List (Nat × AV)→Bool
 | []=>true
 |(_,a)::r=>(match isW a with |true=>false |false=>true) && Amw r
def inlD:Env→Nat→I1
 |_E,0=>fun _ _ _ _ _ _=>False
 |E,k+1=>fun ac nt rs args h Q=>match Ax0 args && Nat.ble args.length nt with
  |false=>False
  |true=>eval { E with nt:=nt } (inlD E k) ac ⟨numL args 0,h⟩ fun e st=>match e with
   | .normal=>Yh E.T st rs (match U7 E.T st rs with |some l=>Q (Z4 l) st.hp |none=>False)
   | .ret=>Yh E.T st rs (match U7 E.T st rs with |some l=>Q (Z4 l) st.hp |none=>False)
   | .exit _=>False
   | .goto _=>False
 where numL:List AV→Nat→List (Nat × AV)
  | [],_=>[]
  |a::r,j=>(j,a)::numL r (j+1)
def G6(k:Nat):Heap→List Nm
 | []=>[]
 |(n,_)::r=>n::G6 k r
def Aws(hp:Heap):AV→Option AV
 | .tup l=>match Tw hp l with |some vs=>some (.tup (D7 vs)) |none=>none
 |a=>match Oe hp a with |some v=>some (.imm v) |none=>none
def A12(hp:Heap):AV→Option AV
 | .win n s o len=>match n.ext with |true=>some (.win n s o len) |false=>none
 | .own n=>match n.ext,hget hp n with |true,some (.arr _ _ sz rows)=>some (.win n sz 0 rows.length) |_,_=>none
 |_=>none
def Av0(hp h0:Heap)(n:Nm):Option Heap:=match hget hp n,Gr (.loc 0) (G6 0 h0) || Gr n (G6 0 h0)with
 |some (.arr _ true sz rows),false=>some [(.loc 0, .arr 0 true sz rows)]
 |_,_=>none
def keepR(hp h0:Heap):AV→Option (AV × Heap)
 | .own m=>match Av0 hp h0 m with |some e=>some (.own (.loc 0),e) |none=>none
 | .tup l=>match l with
   | .own m::l=>(match Av0 hp h0 m,Gr m (AV.namesL l),Tw hp l with |some e,false,some vs=>some (.tup (.own (.loc 0)::D7 vs),e) |_,_,_=>none)
   |_=>none
 |_=>none
def Amr:AV→List Nm | .tup l=>(match l with |_::l=>AV.namesL l | []=>[]) |_=>[]
def finish(m:Nat)(T:TT)(rs:List ResultVar)(h0:Heap)(Q:AV→Heap→Prop)(st:St):Prop:=
 Yh T st rs <|
 match U7 T st rs with
 |none=>False
 |some l=>match (match m with |2=>keepR st.hp h0 (Z4 l) |3=>keepR st.hp h0 (Z4 l) |_=>none)with
  |some (r,e)=>Q r (De (Nm.beq (.loc 0)) (Ip (D6 (Amr (Z4 l)) st.hp) (G6 0 h0))++e)
  |none=>match (match m with |1=>A12 st.hp (Z4 l) |_=>none)with
   |some r=>Q r (Ip st.hp (G6 0 h0))
   |none=>match Aws st.hp (Z4 l)with
    |some r=>Q r (Ip (D6 (AV.names (Z4 l)) st.hp) (G6 0 h0))
    |none=>False
def Bck(E:Env)(k m:Nat)(ac:AC)(rs:List ResultVar)(args:List AV)(h:Heap)(Q:AV→Heap→Prop):Prop:=
 eval E (inlD E k) ac ⟨inlD.numL args 0,h⟩ fun e st=>match e with
  | .normal=>finish m E.T rs h Q st
  | .ret=>finish m E.T rs h Q st
  | .exit _=>False
  | .goto _=>False
end Go.Proofs.Sim

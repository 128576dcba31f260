import Derived.Test.YtcdjheflchglaaaSimB
import Derived.Deep.Quiet
import Derived.Test.YtcdjheflchglaaaSimT
namespace Go.Proofs.Sim
open Go

inductive AC where
  | skip | region (id : Nat) (ops : Array Oper) (draw : Bool) | seq (a b : AC) | cond (c : Operand) (x y : AC) | block (id : Nat) (b : AC)
  | loop (n : Nat) (live : List Nat) (b : AC) | exit (id : Nat) (live : List Nat) | ret (live : List Nat) | cut (n : Nat) (live out : List Nat) (b : AC)
  | label (l : Nat) | scope (n : Nat) (live : List Nat) (b : AC) | goto (l : Nat) (live : List Nat) | bad (c : Code)
  deriving Inhabited
def AC.code : AC → Code
  | .skip => .skip
  | .region id ops d => .region id ops d
  | .seq a b => .seq a.code b.code
  | .cond c x y => .cond c x.code y.code
  | .block id b => .block id b.code
  | .loop _ _ b => .loop b.code
  | .exit id _ => .exit id
  | .ret _ => .ret
  | .cut _ _ _ b => b.code
  | .label l => .label l
  | .scope _ _ b => .scope b.code
  | .goto l _ => .goto l
  | .bad c => c
abbrev Plan := List (Nat × List Nat × List Nat)
def plk : Plan → Nat → Option (List Nat × List Nat)
  | [], _ => none
  | (m, l) :: r, n => match Nat.beq m n with | true => some l | false => plk r n
def pl0 (o : Option (List Nat × List Nat)) : List Nat := match o with | some l => l.1 | none => []
def annot (pl : Plan) (rs : List Nat) : Code → Nat → AC × Nat
  | .skip, n => (.skip, n)
  | .region id ops d, n => (.region id ops d, n)
  | .seq a b, n => match annot pl rs a n with
    | (a', n1) => match annot pl rs b (n1 + 1) with
      | (b', n2) => match plk pl n1 with
        | some (live, out) => (.seq a' (.cut n1 live out b'), n2)
        | none => (.seq a' b', n2)
  | .cond c x y, n => match annot pl rs x n with
    | (x', n1) => match annot pl rs y n1 with
      | (y', n2) => (.cond c x' y', n2)
  | .block id b, n => match annot pl rs b n with | (b', n1) => (.block id b', n1)
  | .loop b, n => match annot pl rs b (n + 1) with | (b', n1) => (.loop n (pl0 (plk pl n)) b', n1)
  | .exit id, n => (.exit id (pl0 (plk pl n)), n + 1)
  | .ret, n => (.ret rs, n)
  | .label l, n => (.label l, n)
  | .scope b, n => match annot pl rs b (n + 1) with | (b', n1) => (.scope n (pl0 (plk pl n)) b', n1)
  | .goto l, n => (.goto l (pl0 (plk pl n)), n + 1)
  | c, n => (.bad c, n)
def AC.find (k : Nat) : AC → Option AC
  | .seq a b => match a.find k with | some x => some x | none => b.find k
  | .cond _ x y => match x.find k with | some z => some z | none => y.find k
  | .block _ b => b.find k
  | .loop n live b => match Nat.beq n k with | true => some (.loop n live b) | false => b.find k
  | .cut n live out b => match Nat.beq n k with | true => some (.cut n live out b) | false => b.find k
  | .scope n live b => match Nat.beq n k with | true => some (.scope n live b) | false => b.find k
  | _ => none

structure Env where
  P : Program
  T : TT
  nt : Nat
  inl : Nat → Option (AC × Nat × List ResultVar)
  self : Nat → Option Nat
  wr : Nat → Nat

def envN (E : Env) (nt : Nat) : Env := ⟨E.P, E.T, nt, E.inl, E.self, E.wr⟩
def glkI : List (Nat × AC × Nat × List ResultVar) → Nat → Option (AC × Nat × List ResultVar)
  | [], _ => none
  | (m, x) :: r, n => match Nat.beq m n with | true => some x | false => glkI r n
def glkS : List (Nat × Nat) → Nat → Option Nat
  | [], _ => none
  | (m, x) :: r, n => match Nat.beq m n with | true => some x | false => glkS r n
def glkM : List (Nat × Nat) → Nat → Nat
  | [], _ => 0
  | (m, x) :: r, n => match Nat.beq m n with | true => x | false => glkM r n
def fNm : Nm → (Nm → Prop) → Prop
  | .loc t, k => k (.loc t)
  | .cell n j, k => fNm n fun n => k (.cell n j)
  | .arg i, k => k (.arg i)
  | .up n, k => fNm n fun n => k (.up n)
  | .sub t n, k => fNm n fun n => k (.sub t n)
def fIV : IV → (IV → Prop) → Prop
  | .bool b, k => k (.bool b)
  | .int i n, k => k (.int i n)
  | .str s, k => k (.str s)
  | .sl i sz rows, k => k (.sl i sz rows)
  | .agg l, k => k (.agg l)
  | .raw v, k => k (.raw v)
  | .ifc b, k => k (.ifc b)
mutual
def fAV : AV → (AV → Prop) → Prop
  | .imm x, k => fIV x fun x => k (.imm x)
  | .ptr n o, k => fNm n fun n => k (.ptr n o)
  | .elt n sz i j, k => fNm n fun n => k (.elt n sz i j)
  | .own n, k => fNm n fun n => k (.own n)
  | .pin c, k => k (.pin c)
  | .fn f caps, k => fAVs caps fun caps => k (.fn f caps)
  | .agg l, k => fAVs l fun l => k (.agg l)
  | .tup l, k => fAVs l fun l => k (.tup l)
  | .when t b want a, k => fAV a fun a => k (.when t b want a)
  | .undef, k => k .undef
  | .data n, k => fNm n fun n => k (.data n)
  | .win n sz off len, k => fNm n fun n => k (.win n sz off len)
  | .mp n, k => fNm n fun n => k (.mp n)
  | .self n, k => fNm n fun n => k (.self n)
  | .meth f n o, k => fNm n fun n => k (.meth f n o)
def fAVs : List AV → (List AV → Prop) → Prop
  | [], k => k []
  | a :: r, k => fAV a fun a => fAVs r fun r => k (a :: r)
end
def fTm : List (Nat × AV) → (List (Nat × AV) → Prop) → Prop
  | [], k => k []
  | (t, a) :: r, k => fAV a fun a => fTm r fun r => k ((t, a) :: r)
def fEnt : Entry → (Entry → Prop) → Prop
  | .blk ty cells, k => fAVs cells fun cells => k (.blk ty cells)
  | .arr ty w sz rows, k => k (.arr ty w sz rows)
  | .sit s p, k => k (.sit s p)
  | .map l, k => k (.map l)
def fHp : Heap → (Heap → Prop) → Prop
  | [], k => k []
  | (n, e) :: r, k => fNm n fun n => fEnt e fun e => fHp r fun r => k ((n, e) :: r)
def fSt (st : St) (k : St → Prop) : Prop := match st with | ⟨tm, hp⟩ => fTm tm fun tm => fHp hp fun hp => k ⟨tm, hp⟩

mutual
def AV.has (p : Nm → Bool) : AV → Bool
  | .ptr n _ => p n
  | .elt n _ _ _ => p n
  | .own n => p n
  | .fn _ caps => AV.hasL p caps
  | .agg l => AV.hasL p l
  | .tup l => AV.hasL p l
  | .when _ _ _ a => AV.has p a
  | .data n => p n
  | .win n _ _ _ => p n
  | .mp n => p n
  | .self n => p n
  | .meth _ n _ => p n
  | _ => false
def AV.hasL (p : Nm → Bool) : List AV → Bool
  | [] => false
  | a :: r => AV.has p a || AV.hasL p r
end
def scrubA (p : Nm → Bool) (a : AV) : AV := match AV.has p a with | true => .undef | false => a
def scrubL (p : Nm → Bool) : List AV → List AV
  | [] => []
  | a :: r => scrubA p a :: scrubL p r
def scrubT (p : Nm → Bool) : List (Nat × AV) → List (Nat × AV)
  | [] => []
  | (t, a) :: r => (t, scrubA p a) :: scrubT p r
def scrubE (p : Nm → Bool) : Entry → Entry
  | .blk ty cells => .blk ty (scrubL p cells)
  | e => e
def scrubH (p : Nm → Bool) : Heap → Heap
  | [] => []
  | (n, e) :: r => match p n with | true => scrubH p r | false => (n, scrubE p e) :: scrubH p r
def rooted (d : Nat) : Nm → Bool
  | .loc t => Nat.beq t d
  | .cell n _ => rooted d n
  | _ => false
mutual
def AV.names : AV → List Nm
  | .ptr n _ => [n]
  | .elt n _ _ _ => [n]
  | .own n => [n]
  | .fn _ caps => AV.namesL caps
  | .agg l => AV.namesL l
  | .tup l => AV.namesL l
  | .when _ _ _ a => AV.names a
  | .data n => [n]
  | .win n _ _ _ => [n]
  | .mp n => [n]
  | .self n => [n]
  | .meth _ n _ => [n]
  | _ => []
def AV.namesL : List AV → List Nm
  | [] => []
  | a :: r => AV.names a ++ AV.namesL r
end
def memN (n : Nm) : List Nm → Bool
  | [] => false
  | m :: r => Nm.beq m n || memN n r
def entNames : Entry → List Nm
  | .blk _ cells => AV.namesL cells
  | _ => []
def reach (hp : Heap) : Nat → List Nm → List Nm → List Nm
  | 0, _, acc => acc
  | _ + 1, [], acc => acc
  | k + 1, n :: r, acc => match memN n acc with
    | true => reach hp k r acc
    | false => match hget hp n with
      | some e => reach hp k (r ++ entNames e) (acc ++ [n])
      | none => reach hp k r acc
def restr (hp : Heap) : List Nm → Heap
  | [] => []
  | n :: r => match hget hp n with | some e => (n, e) :: restr hp r | none => restr hp r
def tmNames : List (Nat × AV) → List Nm
  | [] => []
  | (_, a) :: r => AV.names a ++ tmNames r
def extNames : Heap → List Nm
  | [] => []
  | (n, _) :: r => match n.ext with | true => n :: extNames r | false => extNames r
def nmKey : Nm → Nat | .arg i => i | _ => 1000000
def insNm (n : Nm) : List Nm → List Nm
  | [] => [n]
  | m :: r => match Nat.ble (nmKey n) (nmKey m) with | true => n :: m :: r | false => m :: insNm n r
def sortN : List Nm → List Nm
  | [] => []
  | n :: r => insNm n (sortN r)
def dropN (ns : List Nm) : Heap → Heap
  | [] => []
  | (n, e) :: r => match memN n ns with | true => dropN ns r | false => (n, e) :: dropN ns r
def anyC : IV → IV | .sl _ sz rows => .sl .any sz rows | v => v
def anyL : List IV → List IV | [] => [] | v :: r => anyC v :: anyL r
def anyI : IV → IV | .agg l => .agg (anyL l) | .sl _ sz rows => .sl .any sz rows | v => v
mutual
def closeA (hp : Heap) : AV → Option IV
  | .imm v => some (anyI v)
  | .own n => match hget hp n with | some (.arr _ _ sz rows) => some (.sl .any sz rows) | _ => none
  | .agg l => match closeL hp l with | some vs => some (.agg vs) | none => none
  | _ => none
def closeL (hp : Heap) : List AV → Option (List IV)
  | [] => some []
  | a :: r => match closeA hp a with
    | some v => (match closeL hp r with | some vs => some (v :: vs) | none => none)
    | none => none
end
def fixH (ns : List Nm) : Heap → Heap
  | [] => []
  | (n, e) :: r => match memN n ns, e with
    | true, .arr ty _ sz rows => (n, .arr ty false sz rows) :: fixH ns r
    | _, e => (n, e) :: fixH ns r

def chunk (sz : Nat) : Nat → List IV → List (List IV)
  | 0, _ => []
  | n + 1, l => l.take sz :: chunk sz n (l.drop sz)
def arrT (td : TD) : Option (Nat × Nat) := match td with | .array k _ esz => some (k, esz) | _ => none
def nilSz : AV → Option Nat
  | .imm (.sl .nil sz []) => some sz
  | _ => none
def nilCells (n : Nm) : List AV → Nat → List AV
  | [], _ => []
  | a :: r, j => (match nilSz a with | some _ => .own (.cell n j) | none => a) :: nilCells n r (j + 1)
def slTy : CS → Nat | .sl _ e => e + 2 | _ => 0
def nilEnts (n : Nm) : List CS → List AV → Nat → Heap
  | _, [], _ => []
  | cs, a :: r, j => match nilSz a with | some sz => (.cell n j, .arr (match cs with | c :: _ => slTy c | [] => 0) true sz []) :: nilEnts n cs.tail r (j + 1) | none => nilEnts n cs.tail r (j + 1)
def newVar (st : St) (d ty : Nat) (sh : List CS) (cells : List AV) : St :=
  let p := rooted d
  let cs := scrubL p cells
  ⟨(d, .ptr (.loc d) 0) :: scrubT p st.tm, (.loc d, .blk ty (nilCells (.loc d) cs 0)) :: (nilEnts (.loc d) sh cs 0 ++ scrubH p st.hp)⟩
def nilAt (n : Nm) : List AV → Nat → Nm → Bool
  | [], _, _ => false
  | a :: r, j, m => match nilSz a with | some _ => Nm.beq (.cell n j) m || nilAt n r (j + 1) m | none => nilAt n r (j + 1) m
def setRow (row : List IV) (j : Nat) (vs : List IV) (sz : Nat) : List IV :=
  match j, Nat.beq vs.length sz with
  | 0, true => vs
  | _, _ => row.take j ++ vs ++ row.drop (j + vs.length)
def oneA : AV → Bool
  | .imm (.agg _) => false
  | .imm (.raw v) => match v with | .pointer _ => true | .nilFunc => true | .nilIface => true | .map _ => true | _ => false
  | .imm _ => true
  | .ptr _ _ => true
  | .elt _ _ _ _ => true
  | .own _ => true
  | .pin _ => true
  | .fn _ _ => true
  | .agg _ => false
  | .tup _ => false
  | .when _ _ _ _ => false
  | .undef => false
  | .data _ => true
  | .win _ _ _ _ => true
  | .mp _ => true
  | .self _ => true
  | .meth _ _ _ => true
def oneL : List AV → Bool
  | [] => true
  | a :: r => oneA a && oneL r
def evStore (st : St) (d : Option Nat) (sh : List CS) (a v : AV) (K : St → Prop) : Prop :=
  match a with
  | .ptr n off => match hget st.hp n with
    | some (.blk ty cells) => match Nat.ble (off + (flat v).length) cells.length && oneL (flat v) with
      | true =>
        let p := nilAt n (flat v) off
        let vs := scrubL p (flat v)
        K (St.put ⟨scrubT p st.tm, nilEnts n sh vs off ++ hset (scrubH p st.hp) n (.blk ty (splice (scrubL p cells) off (nilCells n vs off)))⟩ d .undef)
      | false => False
    | _ => False
  | .elt n sz i j => match hget st.hp n with
    | some (.arr ty true sz' rows) => match Nat.beq sz sz' && oneL (flat v), toI (flat v) with
      | true, some vs => match Nat.ble (j + vs.length) sz with
        | true => Req (i < rows.length) (K (St.put ⟨st.tm, hset st.hp n (.arr ty true sz (rows.set i (setRow (rows.getD i []) j vs sz)))⟩ d .undef))
        | false => False
      | _, _ => False
    | _ => False
  | _ => False
def evStoreArr (st : St) (d : Option Nat) (k esz : Nat) (a v : AV) (K : St → Prop) : Prop :=
  match a with
  | .ptr n 0 => match hget st.hp n with
    | some (.arr ty true sz rows) => match Nat.beq sz esz && oneL (flat v), toI (flat v) with
      | true, some vs => (match Nat.beq vs.length (k * esz) with
        | true => Req (rows.length = k) (K (St.put ⟨st.tm, hset st.hp n (.arr ty true esz (chunk esz k vs))⟩ d .undef))
        | false => False)
      | _, _ => False
    | _ => False
  | _ => False
def newArr (st : St) (d : Nat) (n : Nm) (v : AV) (e : Entry) : St :=
  let p := Nm.beq n
  ⟨(d, v) :: scrubT p st.tm, (n, e) :: scrubH p st.hp⟩
def byteRows (l : List UInt8) : List (List IV) := l.map fun b => [.int .u8 b.toNat]
def rowsOf (ti : TI) (hp : Heap) (sz : Nat) (x : AV) : Option (List (List IV)) :=
  match ti.td, x with
  | .slice _ _ _ _, .imm (.sl _ sz' rows) => match Nat.beq sz sz' with | true => some rows | false => none
  | .slice _ _ _ _, .own n => match hget hp n with | some (.arr _ _ sz' rows) => (match Nat.beq sz sz' with | true => some rows | false => none) | _ => none
  | .str, .imm (.str s) => match Nat.beq sz 1 with | true => some (byteRows s) | false => none
  | _, _ => none
def maxBytes : Nat := 140737488355328
def knownT (T : TT) (t : Nat) : Bool := match (tl T t).td with | .missing => false | .tuple _ => false | _ => true
def evAppend (T : TT) (st : St) (d : Nat) (ty tx : Nat) (s x : AV) (K : St → Prop) : Prop :=
  match (tl T ty).td with
  | .slice elem esz eb _ => match knownT T elem with
   | false => False
   | true => match rowsOf (tl T tx) st.hp esz x with
    | some xs => match s with
      | .own n => match hget st.hp n with
        | some (.arr ty w sz rows) => match Nat.beq sz esz && !(Nat.beq ty 1) with
          | true => Req ((rows.length + xs.length) * eb ≤ maxBytes ∧ rows.length + xs.length ≤ maxBytes) (K (newArr st d n (.own n) (.arr (match Nat.beq ty (elem + 2) with | true => elem + 2 | false => 0) w esz (rows ++ xs))))
          | false => False
        | _ => False
      | .imm (.sl .nil _ []) => Req (xs.length * eb ≤ maxBytes ∧ xs.length ≤ maxBytes) (K (newArr st d (.loc d) (.own (.loc d)) (.arr (elem + 2) true esz xs)))
      | .imm (.sl .tight _ []) => Req (xs.length * eb ≤ maxBytes ∧ xs.length ≤ maxBytes) (K (newArr st d (.loc d) (.win (.loc d) esz 0 xs.length) (.arr 1 true esz xs)))
      | _ => False
    | none => False
  | _ => False
def setRows (hp : Heap) (rows : List (List IV)) : List (Nat × AV) → Option (List (List IV))
  | [] => some rows
  | (i, v) :: r => match closeL hp (flat v) with
    | some vs => setRows hp (rows.set i vs) r
    | none => none
def lensOK (sz : Nat) (len : Nat) : List (Nat × AV) → Bool
  | [] => true
  | (i, v) :: r => (flatOK v && oneL (flat v)) && (Nat.beq (flat v).length sz && (Nat.blt i len && lensOK sz len r))
def partNames : List (Nat × AV) → List Nm
  | [] => []
  | (_, v) :: r => AV.names v ++ partNames r
def lenTy : Nat → Nat → Nat | 0, _ => 0 | _ + 1, e => e + 2
def evBuildSlice (T : TT) (st : St) (d : Nat) (ty len : Nat) (parts : List (Nat × AV)) (K : St → Prop) : Prop :=
  match (tl T ty).td with
  | .slice elem esz eb _ => match knownT T elem && (Nat.ble (len * esz) 4096 && lensOK esz len parts), setRows st.hp (List.replicate len (tl T elem).zero) parts with
    | true, some rows =>
      K (newArr ⟨st.tm, fixH (partNames parts) st.hp⟩ d (.loc d) (.own (.loc d)) (.arr (lenTy len elem) true esz rows))
    | _, _ => False
  | _ => False

mutual
def AV.ren (f : Nm → Nm) : AV → AV
  | .ptr n o => .ptr (f n) o
  | .elt n s i j => .elt (f n) s i j
  | .own n => .own (f n)
  | .fn g caps => .fn g (AV.renL f caps)
  | .agg l => .agg (AV.renL f l)
  | .tup l => .tup (AV.renL f l)
  | .when t b w a => .when t b w (AV.ren f a)
  | .imm v => .imm v
  | .pin c => .pin c
  | .undef => .undef
  | .data n => .data (f n)
  | .win n sz off len => .win (f n) sz off len
  | .mp n => .mp (f n)
  | .self n => .self (f n)
  | .meth g n o => .meth g (f n) o
def AV.renL (f : Nm → Nm) : List AV → List AV
  | [] => []
  | a :: r => AV.ren f a :: AV.renL f r
end
def entRen (f : Nm → Nm) : Entry → Entry
  | .blk ty cells => .blk ty (AV.renL f cells)
  | e => e
def heapRen (f : Nm → Nm) : Heap → Heap
  | [] => []
  | (n, e) :: r => (f n, entRen f e) :: heapRen f r
def toArgGo (n : Nm) : List Nm → Nat → Nm
  | [], _ => .up n
  | m :: r, i => match Nm.beq m n with | true => .arg i | false => toArgGo n r (i + 1)
def toArg (ns : List Nm) (n : Nm) : Nm := toArgGo n ns 0
def nthN (d : Nm) : List Nm → Nat → Nm
  | [], _ => d
  | m :: _, 0 => m
  | _ :: r, i + 1 => nthN d r i
def ofArg (ns : List Nm) (d : Nat) : Nm → Nm
  | .arg i => nthN (.sub d (.arg i)) ns i
  | .loc t => .sub d (.loc t)
  | .cell n j => .sub d (.cell n j)
  | .up n => .sub d (.up n)
  | .sub t n => .sub d (.sub t n)
def subOf (d : Nat) : Nm → Bool
  | .sub t _ => Nat.beq t d
  | .cell n _ => subOf d n
  | .loc _ => false
  | .arg _ => false
  | .up _ => false
def isArr (h : Heap) (n : Nm) : Bool := match hget h n with | some (.arr ty _ _ _) => !(Nat.beq ty 1) | _ => false
def allN (p : Nm → Bool) : List Nm → Bool
  | [] => true
  | n :: r => p n && allN p r
def reshC (old new : AV) : AV :=
  match old with
  | .imm (.bool _) => .imm (.bool (rB new))
  | .imm (.int k _) => .imm (.int k (rI new))
  | .imm (.str _) => .imm (.str (rS new))
  | .imm (.sl _ sz _) => .imm (.sl .any sz (rR new))
  | .imm (.ifc _) => .imm (.ifc (rN new))
  | .imm (.raw _) => .imm (.raw (rV new))
  | a => a
def reshCs : List AV → List AV → Nat → List AV
  | [], _, _ => []
  | o :: r, l, j => reshC o (l.getD j .undef) :: reshCs r l (j + 1)
def blkOf (h : Heap) (n : Nm) : List AV := match hget h n with | some (.blk _ cells) => cells | _ => []
def arrRows (h : Heap) (n : Nm) : List (List IV) := match hget h n with | some (.arr _ _ _ rows) => rows | _ => []
def mapOf (h : Heap) (n : Nm) : List (List UInt8 × Int) := match hget h n with | some (.map l) => l | _ => []
def reshH (h' : Heap) : Heap → Heap
  | [] => []
  | (n, .blk ty cells) :: r => (n, .blk ty (reshCs cells (blkOf h' n) 0)) :: reshH h' r
  | (n, .arr ty w sz rows) :: r => (n, .arr ty w sz (arrRows h' n)) :: reshH h' r
  | (n, .map _) :: r => (n, .map (mapOf h' n)) :: reshH h' r
  | (n, e) :: r => (n, e) :: reshH h' r
def closeSome (hp : Heap) : List AV → List AV
  | [] => []
  | a :: r => (match closeA hp a with | some v => .imm v | none => a) :: closeSome hp r
def closedNames (hp : Heap) : List AV → List Nm
  | [] => []
  | a :: r => (match closeA hp a with | some v => AV.names a | none => []) ++ closedNames hp r
def dataB : Nat := 1000000
def closeT1 (t : Nat) (st : St) : St := match lk st.tm t with
  | .own n => (match hget st.hp n with
    | some (.arr _ _ sz rows) => ⟨(t, .imm (.sl .any sz rows)) :: st.tm, fixH [n] st.hp⟩
    | _ => st)
  | .ptr n _ => (match hget st.hp n with
    | some (.blk ty cells) => ⟨st.tm, hset (fixH (closedNames st.hp cells) st.hp) n (.blk ty (closeSome st.hp cells))⟩
    | _ => st)
  | _ => st
def closeTs : List Nat → St → St
  | [], st => st
  | t :: r, st => match Nat.ble dataB t with | true => closeTs r (closeT1 (t - dataB) st) | false => closeTs r st
def keepM (tm : List (Nat × AV)) : List Nat → List (Nat × AV)
  | [] => []
  | t :: r => match Nat.ble dataB t with | true => (t - dataB, lk tm (t - dataB)) :: keepM tm r | false => (t, lk tm t) :: keepM tm r
def selfE (n : Nm) : Entry → Entry
  | .blk ty [.imm (.raw (.pointer none)), .own m] => .blk ty [.self n, .own m]
  | .blk ty [.ptr k 0, .own m] => (match Nm.beq k n with | true => .blk ty [.self n, .own m] | false => .blk ty [.ptr k 0, .own m])
  | e => e
def selfH : Heap → Heap
  | [] => []
  | (n, e) :: r => (n, selfE n e) :: selfH r
def mask (live : List Nat) (st : St) : St :=
  let st := closeTs live st
  let tm := keepM st.tm live
  let hp := selfH st.hp
  ⟨tm, restr hp (reach hp 400 (tmNames tm ++ sortN (extNames hp)) [])⟩

abbrev InlH := AC → Nat → List ResultVar → List AV → Heap → (AV → Heap → Prop) → Prop
def dNum : Option Nat → Nat | some d => d | none => 0
def notArrs (hp : Heap) : List Nm → List Nm
  | [] => []
  | n :: r => match hget hp n with | some (.arr _ _ _ _) => notArrs hp r | _ => n :: notArrs hp r
def handed (shy : Bool) (hp : Heap) (ns : List Nm) : List Nm := match shy with | true => notArrs hp ns | false => ns
def addNm (k : Nat) : List Nm → List Nm → List Nm
  | acc, [] => acc
  | acc, n :: r => match memN n acc || subOf k n with | true => addNm k acc r | false => addNm k (acc ++ [n]) r
def entsNames : Heap → List Nm
  | [] => []
  | (_, e) :: r => entNames e ++ entsNames r
def handNs (k : Nat) (hp : Heap) (l : List Nm) : List Nm := addNm k (reach hp 400 l []) (entsNames (restr hp (reach hp 400 l [])) ++ l)
def callWith (shy : Bool) (C : List AV → Heap → (AV → Heap → Prop) → Prop) (hp : Heap) (tm : List (Nat × AV)) (d : Option Nat) (args : List AV) (Q : Heap → AV → Heap → (AV → Heap → Prop) → Prop) (K : St → Prop) : Prop :=
  let k := dNum d
  let ns := handNs k hp (AV.namesL args)
  let ms := handed shy hp ns
  let h0 := heapRen (toArg ns) (restr hp ms)
  let p := fun n => (memN n ms && isArr hp n) || subOf k n
  match allN (fun n => !(subOf k n)) ns with
  | true => C (AV.renL (toArg ns) args) h0 fun r h' => Q h0 r h' fun r h' => K (St.put ⟨scrubT p tm, heapRen (ofArg ns k) h' ++ scrubH p (dropN ms hp)⟩ d (noW (AV.ren (ofArg ns k) r)))
  | false => False
def evSelf (st : St) (d : Option Nat) (bt : Nat) (args : List AV) (K : St → Prop) : Prop :=
  match args with
  | [.ptr n 0] => match hget st.hp n with
    | some (.blk ty [a, c]) => match Nat.beq ty bt, a with
      | true, .imm (.raw (.pointer none)) => K (St.put ⟨st.tm, hset st.hp n (.blk ty [.ptr n 0, c])⟩ d (.tup []))
      | true, .ptr m 0 => match Nm.beq n m with | true => K (St.put st d (.tup [])) | false => False
      | true, .self m => match Nm.beq n m with | true => K (St.put ⟨st.tm, hset st.hp n (.blk ty [.self n, c])⟩ d (.tup [])) | false => False
      | _, _ => False
    | _ => False
  | _ => False
def pinE : Entry → Entry
  | .arr _ true sz rows => .arr 1 true sz rows
  | e => e
def pinH (ns : List Nm) : Heap → Heap
  | [] => []
  | (n, e) :: r => (n, match memN n ns with | true => pinE e | false => e) :: pinH ns r
def rWo (r : AV) : Nat := match r with | .win _ _ o _ => o | _ => 0
def rWl (r : AV) : Nat := match r with | .win _ _ _ l => l | _ => 0
def reshW (T : TT) (ty : Nat) (r : AV) : AV := match (tl T ty).td with | .slice _ esz _ _ => .win (.arg 0) esz (rWo r) (rWl r) | _ => reshA T ty r
def ownR : AV → Bool | .own _ => true | .tup l => (match l with | .own _ :: _ => true | _ => false) | _ => false
def ownSz (T : TT) (ty : Nat) : Nat := match (tl T ty).td with
  | .slice _ esz _ _ => esz
  | .tuple ts => (match ts with | t :: _ => (match (tl T t).td with | .slice _ esz _ _ => esz | _ => 0) | [] => 0)
  | _ => 0
def reshO (T : TT) (ty : Nat) (r : AV) : AV := match (tl T ty).td with
  | .tuple ts => (match ts with | _ :: ts => .tup (.own (.loc 0) :: reshL T ts r 1) | [] => .undef)
  | _ => .own (.loc 0)
def ownEnt (T : TT) (ty : Nat) (h' : Heap) : Heap := [(.loc 0, .arr 0 true (ownSz T ty) (arrRows h' (.loc 0)))]
def evCall (E : Env) (H : InlH) (st : St) (d : Option Nat) (ty : Nat) (f : Nat) (args : List AV) (K : St → Prop) : Prop :=
  match E.self f with
  | some bt => evSelf st d bt args K
  | none =>
  match E.inl f with
  | some (ac, nt, rs) => callWith false (H ac nt rs) st.hp st.tm d args (fun _ r h' k => k r h') K
  | none =>
   match E.wr f with
   | 1 => callWith false (Call E.P f) (pinH (AV.namesL args) st.hp) st.tm d args (fun h0 r h' k => Req (h' = reshH h' h0 ∧ r = reshW E.T ty r) (k (reshW E.T ty r) (reshH h' h0))) K
   | 2 => callWith false (Call E.P f) (fixH (closedNames st.hp args) st.hp) st.tm d (closeSome st.hp args) (fun h0 r h' k =>
       Req (h' = reshH h' h0 ++ ownEnt E.T ty h' ∧ r = reshO E.T ty r) (k (reshO E.T ty r) (reshH h' h0 ++ ownEnt E.T ty h'))) K
   | 4 => callWith true (Call E.P f) (fixH (closedNames st.hp args) st.hp) st.tm d (closeSome st.hp args) (fun h0 r h' k => Req (h' = reshH h' h0 ∧ r = reshA E.T ty r) (k (reshA E.T ty r) (reshH h' h0))) K
   | _ + 3 => callWith false (Call E.P f) (fixH (closedNames st.hp args) st.hp) st.tm d (closeSome st.hp args) (fun h0 r h' k => Br (ownR r)
       (Req (h' = reshH h' h0 ++ ownEnt E.T ty h' ∧ r = reshO E.T ty r) (k (reshO E.T ty r) (reshH h' h0 ++ ownEnt E.T ty h')))
       (Req (h' = reshH h' h0 ∧ r = reshA E.T ty r) (k (reshA E.T ty r) (reshH h' h0)))) K
   | 0 =>
    match closeL st.hp args with
    | some ivs => Call E.P f (immL ivs) [] fun r h' => Req (h' = [] ∧ r = reshA E.T ty r) (K (St.put ⟨st.tm, fixH (AV.namesL args) st.hp⟩ d (reshA E.T ty r)))
    | none => callWith false (Call E.P f) (fixH (closedNames st.hp args) st.hp) st.tm d (closeSome st.hp args) (fun h0 r h' k => Req (h' = reshH h' h0 ∧ r = reshA E.T ty r) (k (reshA E.T ty r) (reshH h' h0))) K
def clearRows (z : List IV) (off len : Nat) (rows : List (List IV)) : List (List IV) := rows.take off ++ List.replicate len z ++ rows.drop (off + len)
def evClear (T : TT) (st : St) (d : Option Nat) (t : Nat) (x : AV) (K : St → Prop) : Prop :=
  match (tl T t).td, x with
  | .slice elem esz _ _, .win n sz off len => match hget st.hp n, Nat.beq sz esz && knownT T elem with
    | some (.arr ty true sz' rows), true => (match Nat.beq sz' esz with
      | true => K (St.put ⟨st.tm, hset st.hp n (.arr ty true esz (clearRows (tl T elem).zero off len rows))⟩ d (.tup []))
      | false => False)
    | _, _ => False
  | _, _ => False
def decodeAt (s : List UInt8) (pos : Nat) : Nat × Nat := Utf8.decode ⟨s.toArray⟩ pos
def evSliceOwn (ti : TI) (st : St) (d : Nat) (x : AV) (lo hi mx : Option AV) (K : St → Prop) : Prop :=
  match x with
  | .own n => match hget st.hp n, ti.td with
    | some (.arr _ _ sz rows), .slice _ esz _ _ => match evBounds3 rows.length lo hi mx, Nat.beq sz esz with
      | some (c, l, h), true => Req c (K (St.put ⟨st.tm, fixH [n] st.hp⟩ (some d) (.imm (.sl .any sz (cutL lo hi l h rows)))))
      | _, _ => False
    | _, _ => False
  | _ => False
def evUnsafeString (st : St) (d e : Nat) (x n : AV) (K : St → Prop) : Prop :=
  match x, n with
  | .data nm, .imm (.int .i64 len) => match hget st.hp nm with
    | some (.arr ty _ 1 rows) => (match Nat.beq ty (e + 2) with
      | true => Req ((len = rows.length ∧ rows.length ≤ 9223372036854775807) ∧ (∀ r, r ∈ rows → shOK [.int .u8] r = true)) (K (St.put ⟨st.tm, fixH [nm] st.hp⟩ (some d) (.imm (.str (rows.map fun r => UInt8.ofNat (gI r 0).toNat)))))
      | false => False)
    | _ => False
  | _, _ => False
def evNilCmp (neg : Bool) (st : St) (d : Nat) (x : AV) (K : St → Prop) : Prop :=
  match x with
  | .imm (.sl _ _ rows) => Poss (rows = []) (K (St.put st (some d) (.imm (.bool (!neg))))) (K (St.put st (some d) (.imm (.bool neg))))
  | .own n => match hget st.hp n with
    | some (.arr _ _ _ rows) => Poss (rows = []) (K (St.put st (some d) (.imm (.bool (!neg))))) (K (St.put st (some d) (.imm (.bool neg))))
    | _ => False
  | _ => False
def evImp (E : Env) (H : Option InlH) (st : St) (o : Oper) (K : St → Prop) : Prop :=
  match H with
  | none => False
  | some H =>
  let e (ty : Nat) (x : Operand) : AV := strip none (ev E.T st.tm ty x)
  match o.op, o.dst with
  | .assign x, some d => match e o.type x with
    | .imm (.sl .nil sz []) => K (newArr st d (.loc d) (.own (.loc d)) (.arr (match (tl E.T o.type).td with | .slice e _ _ _ => e + 2 | _ => 0) true sz []))
    | _ => False
  | .binOp .eql xt x y _, some d => match isNilC y, (tl E.T xt).td with
    | true, .slice _ _ _ _ => evNilCmp false st d (e xt x) K
    | _, _ => False
  | .binOp .neq xt x y _, some d => match isNilC y, (tl E.T xt).td with
    | true, .slice _ _ _ _ => evNilCmp true st d (e xt x) K
    | _, _ => False
  | .alloc t, some d => match knownT E.T t with
    | true => (match arrT (tl E.T t).td with
      | some (k, esz) => (match Nat.beq (tl E.T t).zero.length (k * esz) with
        | true => K (newArr st d (.loc d) (.ptr (.loc d) 0) (.arr 1 true esz (chunk esz k (tl E.T t).zero)))
        | false => False)
      | none => K (newVar st d t (tl E.T t).sh (immL (tl E.T t).zero)))
    | false => False
  | .box t x, some d => match flatOK (e t x) && Nat.beq (flat (e t x)).length (tl E.T t).size with
    | true => K (newVar st d t (tl E.T t).sh (flat (e t x)))
    | false => False
  | .store t a x, d => match knownT E.T t && (flatOK (e t x) && Nat.beq (flat (e t x)).length (tl E.T t).size) with
    | true => (match arrT (tl E.T t).td with
      | some (k, esz) => evStoreArr st d k esz (e 0 a) (e t x) K
      | none => evStore st d (tl E.T t).sh (e 0 a) (e t x) K)
    | false => False
  | .buildSlice t len parts, some d => evBuildSlice E.T st d t len (stripP none (evParts E.T st.tm 0 parts.toList)) K
  | .call ⟨.builtin .append, args, ts⟩, some d => match args.toList, ts.toList with
    | [s, x], [t, u] => evAppend E.T st d t u (e t s) (e u x) K
    | _, _ => False
  | .convert s t x, some d => match (tl E.T s).td, (tl E.T t).td, e s x with
    | .str, .slice elem _ _ _, .imm (.str l) => match (tl E.T elem).td with
      | .int .u8 => Req (l.length ≤ maxBytes) (K (newArr st d (.loc d) (.own (.loc d)) (.arr 0 true 1 (byteRows l))))
      | _ => False
    | _, _, _ => False
  | .range t x, some d => match (tl E.T t).td, e t x with
    | .str, .imm (.str s) => K (newArr st d (.loc d) (.ptr (.loc d) 0) (.sit s 0))
    | _, _ => False
  | .makeMap t none, some d => match (tl E.T t).td with
    | .map => K (newArr st d (.loc d) (.mp (.loc d)) (.map []))
    | _ => False
  | .mapUpdate t m k x, d => match (tl E.T t).td, e t m, e 0 k, e 0 x with
    | .map, .mp n, .imm (.str s), .imm (.int .i64 v) => match hget st.hp n with
      | some (.map l) => K (St.put ⟨st.tm, hset st.hp n (.map (mUp l s v))⟩ d .undef)
      | _ => False
    | _, _, _, _ => False
  | .next it true, some d => match e 0 it with
    | .ptr n 0 => match hget st.hp n with
      | some (.sit s pos) => Br (decide (pos < s.length))
          (K ⟨(d, .tup [.imm (.bool true), .imm (.int .i64 pos), .imm (.int .i32 (decodeAt s pos).1)]) :: st.tm, hset st.hp n (.sit s (pos + (decodeAt s pos).2))⟩)
          (K ⟨(d, .tup [.imm (.bool false)]) :: st.tm, st.hp⟩)
      | _ => False
    | _ => False
  | .slice t x lo hi mx, some d => evSliceOwn (tl E.T t) st d (e t x) (stripO none (evOpt E.T st.tm lo)) (stripO none (evOpt E.T st.tm hi)) (stripO none (evOpt E.T st.tm mx)) K
  | .call ⟨.builtin .unsafeString, args, ts⟩, some d => match args.toList, ts.toList with
    | [x, n], [t, u] => (match (tl E.T t).td with
      | .pointer b => (match (tl E.T b).td with | .int .u8 => evUnsafeString st d b (e t x) (e u n) K | _ => False)
      | _ => False)
    | _, _ => False
  | .call ⟨.builtin .clear, args, ts⟩, d => match args.toList, ts.toList with
    | [x], [t] => evClear E.T st d t (e t x) K
    | _, _ => False
  | .call ⟨.value f, args, ts⟩, d => match e 0 f, Nat.beq args.toList.length ts.toList.length with
    | .fn f caps, true => evCall E H st d o.type f (stripL none (evs E.T st.tm args.toList ts.toList) ++ caps) K
    | .meth f n off, true => evCall E H st d o.type f (.ptr n off :: stripL none (evs E.T st.tm args.toList ts.toList)) K
    | _, _ => False
  | _, _ => False

def skipV : AV := .imm (.raw (.tuple ⟨[]⟩))
def resV1 (t : Nat) (b : Bool) : AV → AV
  | .when t' b' want a => (match Nat.beq t t' with
      | true => (match Bool.xor b want with | false => a | true => skipV)
      | false => .when t' b' want a)
  | .imm v => .imm v
  | .ptr n o => .ptr n o
  | .elt n s i j => .elt n s i j
  | .own n => .own n
  | .pin c => .pin c
  | .fn f c => .fn f c
  | .agg l => .agg l
  | .tup l => .tup l
  | .undef => .undef
  | .data n => .data n
  | .win n sz off len => .win n sz off len
  | .mp n => .mp n
  | .self n => .self n
  | .meth f n o => .meth f n o
def resT (t : Nat) (b : Bool) : List (Nat × AV) → List (Nat × AV)
  | [] => []
  | (u, a) :: r => (u, resV1 t b a) :: resT t b r
def dropW : List (Nat × AV) → List (Nat × AV)
  | [] => []
  | (u, a) :: r => (u, unraw (noW a)) :: dropW r
def dOK (nt : Nat) : Option Nat → Bool | none => true | some d => Nat.blt d nt
def knowT (t : Nat) (b : Bool) (st : St) : St := ⟨(t, .imm (.raw (.bool b))) :: resT t b st.tm, st.hp⟩
def named : Op → Bool
  | .pick _ _ _ => true
  | .slice _ _ _ _ _ => true
  | _ => false
def letA (o : Op) (v : AV) (K : AV → Prop) : Prop :=
  match named o, v with
  | true, .imm (.bool b) => Let b fun b => K (.imm (.bool b))
  | true, .imm (.str s) => Let s fun s => K (.imm (.str s))
  | _, v => fAV v K
def noH : Option InlH → Bool | none => true | some _ => false
def evGuard (E : Env) (H : Option InlH) (o : Oper) (t : Nat) (want b : Bool) (st : St) (K : St → Prop) : Prop :=
  match evPure E.T (noH H) (some (t, want)) st o with
  | some (.ok v) => letA o.op (noW v) fun v => K (st.put o.dst (.when t b want v))
  | some (.req c v) => Req (b = want → c) (letA o.op (noW v) fun v => K (st.put o.dst (.when t b want v)))
  | some .bad => False
  | none => Br (b == want) (fSt (knowT t want st) fun st => evImp E H st o fun st => fSt st K) (fSt ((knowT t (!want) st).put o.dst skipV) K)
def evKnown (E : Env) (H : Option InlH) (o : Oper) (t : Nat) (want : Bool) (st : St) (K : St → Prop) : Prop :=
  match evPure E.T (noH H) (some (t, want)) st o with
  | some (.ok v) => letA o.op (noW v) fun v => K (st.put o.dst v)
  | some (.req c v) => Req c (letA o.op (noW v) fun v => K (st.put o.dst v))
  | some .bad => False
  | none => evImp E H st o fun st => fSt st K
def rawB : Value → Option (Option Bool)
  | .tuple ⟨[]⟩ => some none
  | .bool b => some (some b)
  | _ => none
def evOp (E : Env) (H : Option InlH) (all : List Oper) (o : Oper) (st : St) (K : St → Prop) : Prop :=
  match dOK E.nt o.dst with
  | false => False
  | true =>
  match o.guard with
  | none => match evPure E.T (noH H) none st o with
    | some (.ok v) => letA o.op (noW v) fun v => K (st.put o.dst v)
    | some (.req c v) => Req c (letA o.op (noW v) fun v => K (st.put o.dst v))
    | some .bad => False
    | none => evImp E H st o fun st => fSt st K
  | some (j, want) => match all[j]? with
    | some oj => match oj.dst with
      | some t => match lk st.tm t with
        | .imm (.bool b) => evGuard E H o t want b st K
        | .imm (.raw v) => match rawB v with
          | some none => K (st.put o.dst skipV)
          | some (some b) => (match Bool.xor b want with | true => K (st.put o.dst skipV) | false => evKnown E H o t want st K)
          | none => False
        | .when t' b' w' (.imm (.bool b)) => Br (b' == w') (fSt (knowT t' w' st) fun st => evGuard E H o t want b st K) (fSt ((knowT t' (!w') st).put o.dst skipV) K)
        | _ => False
      | none => False
    | none => False
def evOps (E : Env) (H : Option InlH) (all : List Oper) : List Oper → St → (St → Prop) → Prop
  | [], st, K => K st
  | o :: r, st, K => evOp E H all o st fun st => evOps E H all r st K
def hasG : List Oper → Bool
  | [] => false
  | o :: r => (match o.guard with | some _ => true | none => false) || hasG r
def countD (t : Nat) : List Oper → Nat
  | [] => 0
  | o :: r => (match o.dst with | some d => (match Nat.beq d t with | true => 1 | false => 0) | none => 0) + countD t r
def guardsOK (all : List Oper) : List Oper → Bool
  | [] => true
  | o :: r => (match o.guard with
      | none => true
      | some (j, _) => match all[j]? with
        | some oj => (match oj.dst with | some t => Nat.beq (countD t (o :: r)) 0 | none => false)
        | none => false) && guardsOK all r
def isImp : Oper → Bool
  | o => match o.op with
    | .alloc _ => true
    | .box _ _ => true
    | .store _ _ _ => true
    | .buildSlice _ _ _ => true
    | .range _ _ => true
    | .next _ _ => true
    | .makeMap _ _ => true
    | .mapUpdate _ _ _ _ => true
    | .call ⟨.value _, _, _⟩ => true
    | .call ⟨.builtin .append, _, _⟩ => true
    | .call ⟨.builtin .clear, _, _⟩ => true
    | .call ⟨.builtin .unsafeString, _, _⟩ => true
    | _ => false
def firstImp : List Oper → Nat → Option Nat
  | [], _ => none
  | o :: r, n => match isImp o with | true => some n | false => firstImp r (n + 1)
def evTail (E : Env) (H : InlH) (ops : List Oper) (n : Nat) (st : St) (K : St → Prop) : Prop :=
  match hasG ops with
  | false => evOps E none ops (ops.take n) st fun st => evOps E (some H) ops (ops.drop n) st K
  | true => match guardsOK ops ops with
    | true => evOps E none ops (ops.take n) st fun st => evOps E (some H) ops (ops.drop n) st fun st => fSt ⟨dropW st.tm, st.hp⟩ K
    | false => False
def evRegion (E : Env) (H : Option InlH) (ops : List Oper) (st : St) (K : St → Prop) : Prop :=
  match hasG ops with
  | false => evOps E H ops ops st K
  | true => match guardsOK ops ops with
    | true => evOps E H ops ops st fun st => fSt ⟨dropW st.tm, st.hp⟩ K
    | false => False

def anyPtr (T : TT) : List Nat → Bool
  | [] => false
  | t :: r => (match (tl T t).td with | .pointer _ => true | _ => false) || anyPtr T r
def clOp (T : TT) (pc fa : Bool) (o : Oper) : Nat := match o.guard with
  | some _ => 3
  | none => match o.op with
    | .move _ => 0
    | .assign x => (match isNilC x with | true => 3 | false => 0)
    | .binOp _ _ _ y _ => (match isNilC y with | true => 3 | false => 0)
    | .unOp _ _ _ => 0
    | .fieldAddr _ _ _ => (match fa with | true => 0 | false => 1)
    | .index _ _ _ => 0
    | .slice t _ _ _ _ => (match (tl T t).td with | .str => 0 | _ => 1)
    | .load _ _ => 1
    | .lookup _ _ _ false => 1
    | .indexAddr _ _ _ => 1
    | .extract _ _ => 1
    | .field _ _ _ => 1
    | .build _ _ => 1
    | .nilCheck _ => 1
    | .makeFunc _ _ _ => 1
    | .convert s d _ => (match (tl T s).td, (tl T d).td with | .str, .slice .. => 3 | _, _ => 1)
    | .call ⟨.builtin .len, _, _⟩ => 1
    | .call ⟨.builtin .max, _, _⟩ => 1
    | .call ⟨.builtin .min, _, _⟩ => 1
    | .buildSlice _ _ _ => 2
    | .call ⟨.value _, _, ts⟩ => (match pc && !(anyPtr T ts.toList) with | true => 2 | false => 3)
    | _ => 3
def clOf (T : TT) (v : Bool × Bool) (ops : Array Oper) (k : Nat) : Nat := match ops[k]? with | some o => clOp T v.1 v.2 o | none => 3
def pickK (cl : Nat → Nat) : List Nat → Option Nat
  | [] => none
  | k :: r => match cl k with | 0 => some k | 1 => some k | _ => pickK cl r
def ordOf (ops : Array Oper) (cl : Nat → Nat) : Nat → Array Bool → List Nat
  | 0, _ => []
  | f + 1, listed => match Region.ready .any ops listed with
    | [] => []
    | k0 :: r => (match pickK cl (k0 :: r) with
      | some k => k :: ordOf ops cl f (listed.setIfInBounds k true)
      | none => k0 :: ordOf ops cl f (listed.setIfInBounds k0 true))
def detI : IV → Bool
  | .int _ _ => true
  | .bool _ => true
  | .str _ => true
  | .sl .nil _ [] => true
  | _ => false
def detL : List IV → Bool
  | [] => true
  | v :: r => detI v && detL r
def detC : AV → Bool
  | .imm v => detI v
  | .ptr _ _ => true
  | .own _ => true
  | _ => false
def detCL : List AV → Bool
  | [] => true
  | v :: r => detC v && detCL r
def detV : AV → Bool
  | .imm v => (match v with | .agg l => detL l | v => detI v)
  | .ptr _ _ => true
  | .elt _ _ _ _ => true
  | .own _ => true
  | .agg l => detCL l
  | _ => false
def lateRun (T : TT) (st : St) (o : Oper) : PR :=
  let e (ty : Nat) (x : Operand) : AV := strip none (ev T st.tm ty x)
  match o.op with
  | .binOp op xt x y yt => (match isNilC y with | true => .bad | false => evBin (isConst x || isConst y) (tl T xt) op (e xt x) (e yt y))
  | .unOp op xt x => evUn op (e xt x)
  | .fieldAddr t x j => evFieldAddr (tl T t) (e t x) j
  | .index t x i => evIndex (tl T t) (e t x) (e t i)
  | .slice t x lo hi mx => (match e t x with
    | .imm (.str s) => evSlice (tl T t) [] false (.imm (.str s)) (stripO none (evOpt T st.tm lo)) (stripO none (evOpt T st.tm hi)) (stripO none (evOpt T st.tm mx))
    | _ => .bad)
  | .build t parts => evBuild (tl T t) (stripP none (evParts T st.tm 0 parts.toList))
  | .nilCheck x => nilPR (e 0 x)
  | _ => .bad
def evLate (E : Env) (st : St) (o : Oper) (K : St → Prop) : Prop :=
  match o.guard, dOK E.nt o.dst with
  | none, true => match o.op with
    | .move x => fAV (noW (strip none (ev E.T st.tm o.type x))) fun v => K (st.put o.dst v)
    | .assign x => fAV (noW (strip none (ev E.T st.tm o.type x))) fun v => K (st.put o.dst v)
    | _ => match lateRun E.T st o with
      | .ok v => (match detV v with | true => letA o.op (noW v) fun v => K (st.put o.dst v) | false => False)
      | .req c v => (match detV v with | true => Req c (letA o.op (noW v) fun v => K (st.put o.dst v)) | false => False)
      | .bad => False
  | _, _ => False
def evStill (E : Env) (st : St) (o : Oper) (K : St → Prop) : Prop :=
  match o.guard, dOK E.nt o.dst with
  | none, true => match evPure E.T false none st o with
    | some (.ok v) => letA o.op (noW v) fun v => K (st.put o.dst v)
    | some (.req c v) => Req c (letA o.op (noW v) fun v => K (st.put o.dst v))
    | _ => False
  | _, _ => False
def evMake (E : Env) (st : St) (o : Oper) (K : St → Prop) : Prop :=
  let e (ty : Nat) (x : Operand) : AV := strip none (ev E.T st.tm ty x)
  match o.guard, dOK E.nt o.dst with
  | none, true => match o.op, o.dst with
    | .buildSlice t len parts, some d => evBuildSlice E.T st d t len (stripP none (evParts E.T st.tm 0 parts.toList)) K
    | .call ⟨.value f, args, ts⟩, d => (match e 0 f, Nat.beq args.toList.length ts.toList.length with
      | .fn f caps, true => (match E.self f, E.inl f, E.wr f, closeL st.hp (stripL none (evs E.T st.tm args.toList ts.toList) ++ caps) with
        | none, none, 0, some ivs => Call E.P f (immL ivs) [] fun r h' => Req (h' = [] ∧ r = reshA E.T o.type r) (K (St.put ⟨st.tm, fixH (AV.namesL (stripL none (evs E.T st.tm args.toList ts.toList) ++ caps)) st.hp⟩ d (reshA E.T o.type r)))
        | _, _, _, _ => False)
      | _, _ => False)
    | _, _ => False
  | _, _ => False
def evOrd (E : Env) (H : InlH) (ops : List Oper) (cl : Nat → Nat) : List Nat → St → (St → Prop) → Prop
  | [], st, K => K st
  | k :: r, st, K => match ops[k]? with
    | none => False
    | some o => match cl k with
      | 0 => evLate E st o fun st => evOrd E H ops cl r st K
      | 1 => evStill E st o fun st => evOrd E H ops cl r st K
      | 2 => evMake E st o fun st => fSt st fun st => evOrd E H ops cl r st K
      | _ => match o.guard, dOK E.nt o.dst with
        | none, true => evImp E (some H) st o fun st => fSt st fun st => evOrd E H ops cl r st K
        | _, _ => False
def dstOp (t : Nat) : List Oper → Option Op
  | [] => none
  | o :: r => match o.dst with | some d => (match Nat.beq d t with | true => some o.op | false => dstOp t r) | none => dstOp t r
def ptrNm : AV → Option Nm | .ptr n _ => some n | _ => none
def farNames (st : St) (ops : List Oper) : List Oper → List Nm
  | [] => []
  | o :: r => (match o.op with
    | .store _ (.tmp t) _ => (match dstOp t ops with
      | some (.fieldAddr _ (.tmp u) _) => (match ptrNm (lk st.tm u) with | some n => [n] | none => [])
      | some _ => []
      | none => (match ptrNm (lk st.tm t) with | some n => [n] | none => []))
    | _ => []) ++ farNames st ops r
def clFar (T : TT) (ops : Array Oper) (k : Nat) : Nat := match ops[k]? with
  | some o => (match o.guard, o.op with
    | none, .load _ _ => 1
    | none, .store _ _ _ => 2
    | none, .build _ _ => 0
    | none, .nilCheck _ => 0
    | none, .call ⟨.value _, _, ts⟩ => (match anyPtr T ts.toList with | true => 3 | false => 2)
    | _, _ => clOp T false true o)
  | none => 3
def isCellN : Nm → Bool | .cell _ _ => true | _ => false
def allHas (hp : Heap) : List Nm → Bool
  | [] => true
  | n :: r => (match hget hp n with | some (.blk _ _) => !(isCellN n) | _ => false) && allHas hp r
def evFarL (E : Env) (ns : List Nm) (st : St) (o : Oper) (K : St → Prop) : Prop :=
  match o.guard, dOK E.nt o.dst, o.op with
  | none, true, .load t a => match strip none (ev E.T st.tm t a) with
    | .ptr n off => (match memN n ns, allHas st.hp ns, hget st.hp n, evLoad (tl E.T t) st.hp (.ptr n off) with
      | false, true, some (.blk _ _), .ok v => letA o.op (noW v) fun v => K (st.put o.dst v)
      | _, _, _, _ => False)
    | _ => False
  | _, _, _ => False
def evFarS (E : Env) (ns : List Nm) (st : St) (o : Oper) (K : St → Prop) : Prop :=
  match o.guard, dOK E.nt o.dst, o.op with
  | none, true, .store t a x => match strip none (ev E.T st.tm 0 a), knownT E.T t && (flatOK (strip none (ev E.T st.tm t x)) && Nat.beq (flat (strip none (ev E.T st.tm t x))).length (tl E.T t).size) with
    | .ptr n off, true => (match memN n ns && !(isCellN n) with
      | true => evStore st o.dst (tl E.T t).sh (.ptr n off) (strip none (ev E.T st.tm t x)) K
      | false => False)
    | _, _ => False
  | _, _, _ => False
def evFar2 (E : Env) (ns : List Nm) (st : St) (o : Oper) (K : St → Prop) : Prop :=
  match o.op with
  | .call ⟨.value _, _, _⟩ => evMake E st o K
  | _ => evFarS E ns st o K
def evFar (E : Env) (ns : List Nm) (ops : List Oper) (cl : Nat → Nat) : List Nat → St → (St → Prop) → Prop
  | [], st, K => K st
  | k :: r, st, K => match ops[k]? with
    | none => False
    | some o => match cl k with
      | 0 => evLate E st o fun st => evFar E ns ops cl r st K
      | 1 => evFarL E ns st o fun st => evFar E ns ops cl r st K
      | 2 => evFar2 E ns st o fun st => fSt st fun st => evFar E ns ops cl r st K
      | _ => False
def allK : List Nat → (Nat → Prop) → Prop
  | [], _ => True
  | k :: r, F => match r with | [] => F k | _ => F k ∧ allK r F
def unG (o : Oper) : Oper := { o with guard := none }
def clAll (E : Env) (ops : Array Oper) (k : Nat) : Nat := match ops[k]? with
  | some o => (match o.op with
    | .pick _ _ _ => 1
    | .call ⟨.value f, args, ts⟩ => (match f, anyPtr E.T ts.toList with
      | .func f, false => (match E.inl f, E.wr f with | none, 0 => 2 | _, _ => 3)
      | _, _ => 3)
    | _ => clOp E.T false true (unG o))
  | none => 3
def isSrc (k : Nat) : List Oper → Bool
  | [] => false
  | o :: r => (match o.guard with | some (j, _) => Nat.beq j k | none => false) || isSrc k r
def guardS (ops : List Oper) (st : St) (o : Oper) : Option Bool := match o.guard with
  | none => some true
  | some (j, want) => match ops[j]? with
    | some oj => (match oj.dst with
      | some t => (match lk st.tm t with | .imm (.bool b) => some (!(Bool.xor b want)) | _ => none)
      | none => none)
    | none => none
def evA1 (E : Env) (H : InlH) (ops : List Oper) (cl : Nat → Nat) (k : Nat) (st : St) (K : St → Prop) : Prop :=
  match ops[k]? with
  | none => False
  | some o => match dOK E.nt o.dst with
    | false => False
    | true => match guardS ops st o with
      | none => False
      | some false => K (st.put o.dst .undef)
      | some true => match cl k with
        | 0 => evLate E st (unG o) K
        | 1 => evStill E st (unG o) K
        | 2 => evMake E st (unG o) fun st => fSt st K
        | _ => evImp E (some H) st (unG o) fun st => fSt st K
def evSrc (ops : List Oper) (k : Nat) (st : St) (K : St → Prop) : Prop :=
  match isSrc k ops with
  | false => K st
  | true => match ops[k]? with
    | some o => (match o.dst with
      | some d => (match lk st.tm d with
        | .imm (.bool b) => Br b (K (st.put (some d) (.imm (.bool true)))) (K (st.put (some d) (.imm (.bool false))))
        | _ => False)
      | none => False)
    | none => False
def pickA (ops : Array Oper) (cl : Nat → Nat) (listed : Array Bool) : List Nat → Option Nat
  | [] => none
  | k :: r => match (match cl k with
      | 0 => Region.free .any ops listed k
      | 1 => Region.free .any ops listed k && (heldB .any ops cl k && lateI cl ops.size k listed)
      | _ => false) with
    | true => some k
    | false => pickA ops cl listed r
def evAll (E : Env) (H : InlH) (ops : Array Oper) (cl : Nat → Nat) : Nat → Array Bool → St → (St → Prop) → Prop
  | 0, listed, st, K => match Region.ready .any ops listed with | [] => K st | _ => False
  | f + 1, listed, st, K => match Region.ready .any ops listed with
    | [] => K st
    | k0 :: r => match pickA ops cl listed (k0 :: r) with
      | some k => evA1 E H ops.toList cl k st fun st => evSrc ops.toList k st fun st => evAll E H ops cl f (listed.setIfInBounds k true) st K
      | none => allK (k0 :: r) fun k => evA1 E H ops.toList cl k st fun st => evSrc ops.toList k st fun st => evAll E H ops cl f (listed.setIfInBounds k true) st K
def evMixs (E : Env) (H : InlH) (ops : Array Oper) (st : St) (K : St → Prop) : List (Bool × Bool) → Prop
  | [] => False
  | v :: r => match ordB ops (clOf E.T v ops) (ordOf ops (clOf E.T v ops) ops.size (Array.replicate ops.size false)) with
    | true => evOrd E H ops.toList (clOf E.T v ops) (ordOf ops (clOf E.T v ops) ops.size (Array.replicate ops.size false)) st K
    | false => evMixs E H ops st K r
def mixAny (E : Env) (ops : Array Oper) : List (Bool × Bool) → Bool
  | [] => false
  | v :: r => ordB ops (clOf E.T v ops) (ordOf ops (clOf E.T v ops) ops.size (Array.replicate ops.size false)) || mixAny E ops r
def mixVs : List (Bool × Bool) := [(false, false), (true, false), (false, true), (true, true)]
def evMix (E : Env) (H : InlH) (ops : Array Oper) (st : St) (K : St → Prop) : Prop :=
  match mixAny E ops mixVs with
  | true => evMixs E H ops st K mixVs
  | false => match ordB ops (clFar E.T ops) (ordOf ops (clFar E.T ops) ops.size (Array.replicate ops.size false)) with
    | true => evFar E (farNames st ops.toList ops.toList) ops.toList (clFar E.T ops) (ordOf ops (clFar E.T ops) ops.size (Array.replicate ops.size false)) st K
    | false => match Region.noSelect ops && chainI .any ops (clAll E ops) with
      | true => evAll E H ops (clAll E ops) ops.size (Array.replicate ops.size false) st K
      | false => False
structure LoopOK (n : Nat) (P : Program) (nt : Nat) (b : Code) (st : St) (Q : Ex → St → Prop) : Prop where
  ok : LIn P nt b st Q
structure CutOK (n : Nat) (P : Program) (nt : Nat) (b : Code) (st : St) (Q : Ex → St → Prop) : Prop where
  ok : WP P nt b st Q
structure ScopeOK (n : Nat) (P : Program) (nt l : Nat) (c : Code) (st : St) (Q : Ex → St → Prop) : Prop where
  ok : ∃ rest, findLabel c l = some rest ∧ SIn P nt c rest st Q
def AC.labless : AC → Bool
  | .seq a b => a.labless && b.labless
  | .label _ => false
  | .bad _ => false
  | .cut _ _ _ b => b.labless
  | _ => true
def AC.after (l : Nat) : AC → Option AC
  | .seq a b => match a.after l with | some r => some (.seq r b) | none => (match a.labless with | true => b.after l | false => none)
  | .label l' => match Nat.beq l' l with | true => some .skip | false => none
  | .cut n live out b => match b.after l with | some r => some r | none => none
  | _ => none
def eval (E : Env) (H : InlH) : AC → St → (Ex → St → Prop) → Prop
  | .skip, st, Q => Q .normal st
  | .region _ ops draw, st, Q => match draw with
    | false => evRegion E (some H) ops.toList st (Q .normal)
    | true => match firstImp ops.toList 0 with
      | none => (match Region.lexB .any ops with
        | true => evRegion E none ops.toList st (Q .normal)
        | false => evMix E H ops st (Q .normal))
      | some n => (match Region.lexTailB .any ops n with
        | true => evTail E H ops.toList n st (Q .normal)
        | false => evMix E H ops st (Q .normal))
  | .seq a b, st, Q => eval E H a st fun e st => match e with | .normal => eval E H b st Q | .exit i => Q (.exit i) st | .goto l => Q (.goto l) st | .ret => Q .ret st
  | .cond c x y, st, Q => match strip none (ev E.T st.tm 0 c) with
    | .imm (.bool b) => Br b (eval E H x st Q) (eval E H y st Q)
    | _ => False
  | .block id b, st, Q => eval E H b st fun e st => match e with
    | .normal => Q .normal st
    | .exit i => (match Nat.beq i id with | true => Q .normal st | false => Q (.exit i) st)
    | .goto l => Q (.goto l) st
    | .ret => Q .ret st
  | .loop n live b, st, Q => LoopOK n E.P E.nt b.code (mask live st) Q
  | .exit id live, st, Q => fSt (mask live st) (Q (.exit id))
  | .goto l live, st, Q => fSt (mask live st) (Q (.goto l))
  | .scope n live b, st, Q => eval E H b st fun e st => match e with
    | .normal => Q .normal st
    | .exit i => Q (.exit i) st
    | .goto l => ScopeOK n E.P E.nt l b.code (mask live st) Q
    | .ret => Q .ret st
  | .ret live, st, Q => fSt (mask live st) (Q .ret)
  | .cut n live _ b, st, Q => CutOK n E.P E.nt b.code (mask live st) Q
  | .label _, st, Q => Q .normal st
  | _, _, _ => False
def scopeK (n : Nat) (P : Program) (nt : Nat) (c : Code) (live : List Nat) (K : Ex → St → Prop) : Ex → St → Prop
  | .normal, st => K .normal st
  | .exit i, st => K (.exit i) st
  | .goto l, st => ScopeOK n P nt l c (mask live st) K
  | .ret, st => K .ret st
def sbodyOf (k : Nat) (ac : AC) : AC := match AC.find k ac with | some (.scope _ _ b) => b | _ => .skip
def safterOf (k l : Nat) (ac : AC) : AC := match (sbodyOf k ac).after l with | some r => r | none => .skip
def loopK (n : Nat) (P : Program) (nt : Nat) (c : Code) (live : List Nat) (K : Ex → St → Prop) : Ex → St → Prop
  | .normal, st => LoopOK n P nt c (mask live st) K
  | .exit i, st => K (.exit i) st
  | .goto l, st => K (.goto l) st
  | .ret, st => K .ret st
def cutK (out : List Nat) (K : Ex → St → Prop) : Ex → St → Prop
  | .normal, st => K .normal (mask out st)
  | .exit i, st => K (.exit i) st
  | .goto l, st => K (.goto l) st
  | .ret, st => K .ret st
def lbodyOf (k : Nat) (ac : AC) : AC := match AC.find k ac with | some (.loop _ _ b) => b | _ => .skip
def cbodyOf (k : Nat) (ac : AC) : AC := match AC.find k ac with | some (.cut _ _ _ b) => b | _ => .skip
def codeOf (f : Func) : Code := match f.body with | some c => c | none => .skip
def resTmp (T : TT) (st : St) : ResultVar → Option AV
  | .tmp t => some (lk st.tm t)
  | .cell a t => match evLoad (tl T t) st.hp (lk st.tm a) with | .ok v => some v | .req _ v => some v | _ => none
def resReq (T : TT) (st : St) : ResultVar → Option Prop
  | .tmp _ => none
  | .cell a t => match evLoad (tl T t) st.hp (lk st.tm a) with | .req c _ => some c | _ => none
def resReqs (T : TT) (st : St) : List ResultVar → Prop → Prop
  | [], K => K
  | r :: rs, K => match resReq T st r with | some c => Req c (resReqs T st rs K) | none => resReqs T st rs K
def resTmps (T : TT) (st : St) : List ResultVar → Option (List AV)
  | [] => some []
  | r :: rs => match resTmp T st r, resTmps T st rs with | some a, some l => some (a :: l) | _, _ => none
def resV (l : List AV) : AV := match l with | [a] => a | l => .tup l
def isW : AV → Bool | .when _ _ _ _ => true | _ => false
def noWL : List AV → Bool
  | [] => true
  | a :: r => (match isW a with | true => false | false => true) && noWL r
def noWT : List (Nat × AV) → Bool
  | [] => true
  | (_, a) :: r => (match isW a with | true => false | false => true) && noWT r
def inlD : Env → Nat → InlH
  | E, 0 => fun _ _ _ _ _ _ => False
  | E, k + 1 => fun ac nt rs args h Q => match noWL args && Nat.ble args.length nt with
    | false => False
    | true => eval { E with nt := nt } (inlD E k) ac ⟨numL args 0, h⟩ fun e st => match e with
      | .normal => resReqs E.T st rs (match resTmps E.T st rs with | some l => Q (resV l) st.hp | none => False)
      | .ret => resReqs E.T st rs (match resTmps E.T st rs with | some l => Q (resV l) st.hp | none => False)
      | .exit _ => False
      | .goto _ => False
 where numL : List AV → Nat → List (Nat × AV)
  | [], _ => []
  | a :: r, j => (j, a) :: numL r (j + 1)
def argNames (k : Nat) : Heap → List Nm
  | [] => []
  | (n, _) :: r => n :: argNames k r
def closeR (hp : Heap) : AV → Option AV
  | .tup l => match closeL hp l with | some vs => some (.tup (immL vs)) | none => none
  | a => match closeA hp a with | some v => some (.imm v) | none => none
def winR (hp : Heap) : AV → Option AV
  | .win n s o len => match n.ext with | true => some (.win n s o len) | false => none
  | .own n => match n.ext, hget hp n with | true, some (.arr _ _ sz rows) => some (.win n sz 0 rows.length) | _, _ => none
  | _ => none
def keepE (hp h0 : Heap) (n : Nm) : Option Heap := match hget hp n, memN (.loc 0) (argNames 0 h0) || memN n (argNames 0 h0) with
  | some (.arr _ true sz rows), false => some [(.loc 0, .arr 0 true sz rows)]
  | _, _ => none
def keepR (hp h0 : Heap) : AV → Option (AV × Heap)
  | .own m => match keepE hp h0 m with | some e => some (.own (.loc 0), e) | none => none
  | .tup l => match l with
    | .own m :: l => (match keepE hp h0 m, memN m (AV.namesL l), closeL hp l with | some e, false, some vs => some (.tup (.own (.loc 0) :: immL vs), e) | _, _, _ => none)
    | _ => none
  | _ => none
def keepNames : AV → List Nm | .tup l => (match l with | _ :: l => AV.namesL l | [] => []) | _ => []
def finish (m : Nat) (T : TT) (rs : List ResultVar) (h0 : Heap) (Q : AV → Heap → Prop) (st : St) : Prop :=
  resReqs T st rs <|
  match resTmps T st rs with
  | none => False
  | some l => match (match m with | 2 => keepR st.hp h0 (resV l) | 3 => keepR st.hp h0 (resV l) | _ => none) with
    | some (r, e) => Q r (scrubH (Nm.beq (.loc 0)) (restr (fixH (keepNames (resV l)) st.hp) (argNames 0 h0)) ++ e)
    | none => match (match m with | 1 => winR st.hp (resV l) | _ => none) with
      | some r => Q r (restr st.hp (argNames 0 h0))
      | none => match closeR st.hp (resV l) with
        | some r => Q r (restr (fixH (AV.names (resV l)) st.hp) (argNames 0 h0))
        | none => False
def evFun (E : Env) (k m : Nat) (ac : AC) (rs : List ResultVar) (args : List AV) (h : Heap) (Q : AV → Heap → Prop) : Prop :=
  eval E (inlD E k) ac ⟨inlD.numL args 0, h⟩ fun e st => match e with
    | .normal => finish m E.T rs h Q st
    | .ret => finish m E.T rs h Q st
    | .exit _ => False
    | .goto _ => False
end Go.Proofs.Sim

import Derived.Test.YtaggabcajidnnaaGreatDoorSimN
import Derived.Laws.StructEq
namespace Go.Proofs.Sim
open Go
def Ats:TypeDesc→Option CS | .bool=>some .bool | .int k=>some (.int k) | .string=>some .str |_=>none
def A7c(F:Nat→Option (List CS))(P:Program):List Field→Nat→Option (List CS)
 | [],_=>some []
 |f::fs,o=>match f.name == "_",Nat.beq f.offset o,F f.type with
  |false,true,some sh=>(match A7c F P fs (o+sh.length)with |some r=>some (sh++r) |none=>none)
  |_,_,_=>none
def Ate(P:Program):Nat→Nat→Option (List CS)
 |0,_=>none
 |d+1,t=>match P.info? t,P.underlying t with
  |some i,some (.struct fs)=>(match P.stoodInHeld t,A7c (Ate P d) P fs.toList 0 with
   |false,some sh=>(match Nat.beq i.size sh.length with |true=>some sh |false=>none)
   |_,_=>none)
  |some _,some u=>(match Ats u with |some c=>some [c] |none=>none)
  |_,_=>none
theorem Aj6(c:CS)(cs:List CS)(x y:IV)(l k:List IV)(r:Bool)(h:Fa (c::cs) (x::l) (y::k)=some r):∃b b',eqC c x y=some b∧Fa cs l k=some b'∧r=(b && b'):=by
 simp only [Fa]at h
 split at h
 ·rename_i b hb
  split at h
  ·split at h
   ·injection h with h;subst h;exact⟨b,true,hb,rfl,by simp⟩
   ·cases h
  ·split at h
   ·rename_i b' hb';injection h with h;subst h;exact⟨b,b',hb,hb',rfl⟩
   ·cases h
 ·cases h
theorem Al6(cs:List CS)(l k:List IV)(r:Bool)(h:Fa cs l k=some r):l.length=cs.length∧k.length=cs.length:=by
 induction cs generalizing l k r with
 |nil=>cases l<;>cases k<;>simp [Fa]at h ⊢
 |cons c cs ih=>
  cases l with
  |nil=>simp [Fa]at h
  |cons x l=>cases k with
   |nil=>simp [Fa]at h
   |cons y k=>
    obtain⟨_,b',_,h2,_⟩:=Aj6 _ _ _ _ _ _ _ h
    obtain⟨h3,h4⟩:=ih l k b' h2
    simp [h3,h4]
theorem A2c(s1 s2:List CS)(l k:List IV)(r:Bool)(h:Fa (s1++s2) l k=some r):∃b b',Fa s1 (l.take s1.length) (k.take s1.length)=some b∧Fa s2 (l.drop s1.length) (k.drop s1.length)=some b'∧r=(b && b'):=by
 induction s1 generalizing l k r with
 |nil=>exact⟨true,r,by simp [Fa],by simpa using h,by simp⟩
 |cons c s1 ih=>
  cases l with
  |nil=>simp [Fa]at h
  |cons x l=>cases k with
   |nil=>simp [Fa]at h
   |cons y k=>
    obtain⟨b,b',h1,h2,rfl⟩:=Aj6 _ _ _ _ _ _ _ h
    obtain⟨c1,c2,h3,h4,rfl⟩:=ih l k b' h2
    refine⟨b && c1,c2, ?_,by simpa using h4,by rw [Bool.and_assoc]⟩
    simp only [List.length_cons,List.take_succ_cons,Fa,h1]
    cases s1 with
    |nil=>simp [Fa]at h3;subst h3;simp
    |cons c' s1=>simp only [h3]
theorem Bky {P:Program} {t:Nat} {u:TypeDesc} (hu:P.underlying t=some u) {c:CS} (hc:Ats u=some c)(d:Nat)(w:World)(m:Nat→Nat→Option Value)(x y:Value)(X Y:IV)(hx:RepI m x X)(hy:RepI m y Y)(b:Bool)(h:eqC c X Y=some b):
 (Op.equalIn (d+1) t x y).run P w= .ok b w:=by
 cases u<;>simp [Ats]at hc<;>subst hc
 ·cases X<;>cases Y<;>simp [eqC]at h
  subst h
  cases hx;cases hy
  exact Atf hu _ _ _ _
 ·rename_i k
  cases X<;>cases Y<;>simp only [eqC]at h<;>try (cases h)
  rename_i k1 n1 k2 n2
  split at h
  ·rename_i e1 e2
   injection h with h
   subst h
   have e1:k=k1:=by simpa using e1
   have e2:k=k2:=by simpa using e2
   subst e1;subst e2
   rw [Aba hx,Aba hy]
   rw [run_equalIn_int w d t k k n1 n2 hu]
   congr 1
  ·cases h
 ·cases X<;>cases Y<;>simp [eqC]at h
  subst h
  cases hx with |str s l e=>
  cases hy with |str s' l' e'=>
  rw [run_equalIn_string w d t s s' hu,ByteArray.toList_eq,ByteArray.toList_eq,e,e']
theorem A7n(xs:Array Value)(a n i:Nat)(hi:i<n)(hn:a+n≤xs.size):(xs.extract a (a+n)).getD i undef=xs.getD (a+i) undef:=by
 simp only [Array.getD_eq_getD_getElem?,Array.getElem?_extract]
 rw [if_pos (by omega)]
theorem Bkk(P:Program)(d dd:Nat)(w:World)(m:Nat→Nat→Option Value)
 (ih:∀(t:Nat) (sh:List CS),Ate P d t=some sh→∀(xs ys:Array Value) (off:Nat) (l k:List IV) (b:Bool),off+sh.length≤xs.size→off+sh.length≤ys.size→(∀i,i<sh.length→RepI m (xs.getD (off+i) undef) (l.getD i default))→(∀i,i<sh.length→RepI m (ys.getD (off+i) undef) (k.getD i default))→Fa sh l k=some b→
  ∃vx vy,(part t xs off).run P w= .ok vx w∧(part t ys off).run P w= .ok vy w∧(Op.equalIn (dd+d) t vx vy).run P w= .ok b w):
 ∀(fs:List Field) (o:Nat) (sh:List CS),A7c (Ate P d) P fs o=some sh→∀(xs ys:Array Value) (l k:List IV) (b:Bool),o+sh.length≤xs.size→o+sh.length≤ys.size→(∀i,i<sh.length→RepI m (xs.getD (o+i) undef) (l.getD i default))→(∀i,i<sh.length→RepI m (ys.getD (o+i) undef) (k.getD i default))→Fa sh l k=some b→
  (Op.eqFields (dd+d) xs ys fs).run P w= .ok b w:=by
 intro fs
 induction fs with
 |nil=>
  intro o sh h xs ys l k b _ _ _ _ he
  simp only [A7c]at h
  injection h with h;subst h
  have:=Al6 _ _ _ _ he
  have hl:l=[]:=List.eq_nil_of_length_eq_zero this.1
  have hk:k=[]:=List.eq_nil_of_length_eq_zero this.2
  subst hl;subst hk
  simp [Fa]at he
  subst he
  simp [Op.eqFields]
 |cons f fs ihf=>
  intro o sh h xs ys l k b hx hy rx ry he
  simp only [A7c]at h
  split at h
  ·rename_i sh1 hn ho hsh
   split at h
   ·rename_i sh2 hr
    injection h with h;subst h
    have ho:f.offset=o:=by simpa using ho
    have hn:f.name≠ "_" :=by simpa using hn
    obtain⟨b1,b2,h1,h2,rfl⟩:=A2c _ _ _ _ _ he
    simp only [List.length_append]at hx hy rx ry
    obtain⟨vx,vy,p1,p2,p3⟩:=ih f.type sh1 hsh xs ys o _ _ b1 (by omega) (by omega) (fun i hi=>by rw [getD_take _ _ _ _ hi];exact rx i (by omega)) (fun i hi=>by rw [getD_take _ _ _ _ hi];exact ry i (by omega)) h1
    have h4:=ihf (o+sh1.length) sh2 hr xs ys _ _ b2 (by omega) (by omega) (fun i hi=>by rw [getD_drop,Nat.add_assoc];exact rx _ (by omega)) (fun i hi=>by rw [getD_drop,Nat.add_assoc];exact ry _ (by omega)) h2
    rw [←ho]at p1 p2
    simp only [Op.eqFields,hn,ne_eq,not_false_eq_true,if_true,Sem.run_bind,p1,p2,p3,Result.andThen_ok]
    cases b1
    ·simp
    ·simpa using h4
   ·cases h
  ·cases h
theorem Bkm(P:Program)(dd:Nat)(w:World)(m:Nat→Nat→Option Value):∀(d t:Nat) (sh:List CS),Ate P d t=some sh→∀(xs ys:Array Value) (off:Nat) (l k:List IV) (b:Bool),off+sh.length≤xs.size→off+sh.length≤ys.size→(∀i,i<sh.length→RepI m (xs.getD (off+i) undef) (l.getD i default))→(∀i,i<sh.length→RepI m (ys.getD (off+i) undef) (k.getD i default))→Fa sh l k=some b→
 ∃vx vy,(part t xs off).run P w= .ok vx w∧(part t ys off).run P w= .ok vy w∧(Op.equalIn (dd+d) t vx vy).run P w= .ok b w:=by
 intro d
 induction d with
 |zero=>intro t sh h;cases h
 |succ d ih=>
  intro t sh h xs ys off l k b hx hy rx ry he
  simp only [Ate]at h
  split at h
  ·rename_i i fs hi hu
   split at h
   ·rename_i sh' hst hfs
    split at h
    ·rename_i hsz
     injection h with h;subst h
     have hsz:i.size=sh'.length:=by simpa using hsz
     have hag:(isAgg t).run P w= .ok true w:=by unfold isAgg;simp only [Sem.run_bind,run_underlying hu,Result.andThen_ok];rfl
     have hp:∀zs:Array Value,(part t zs off).run P w= .ok (.agg (zs.extract off (off+sh'.length))) w:=by
      intro zs
      unfold part
      simp only [Sem.run_bind,hag,Result.andThen_ok,if_true,Dm hi,hsz]
      rfl
     refine⟨_,_,hp xs,hp ys, ?_⟩
     have hfo:P.fieldsOf t=fs:=by simp [Program.fieldsOf,hu]
     rw [show dd+(d+1)=(dd+d)+1 by omega,run_equalIn_struct w (dd+d) t _ _ (by rw [hfo];exact hu) hst,hfo]
     exact Bkk P d dd w m ih fs.toList 0 sh' hfs _ _ l k b (by simp;omega) (by simp;omega) (fun i hi=>by rw [Nat.zero_add,A7n _ _ _ _ hi hx];exact rx i hi) (fun i hi=>by rw [Nat.zero_add,A7n _ _ _ _ hi hy];exact ry i hi) he
    ·cases h
   ·cases h
  ·rename_i i u hi hns hu
   split at h
   ·rename_i c hc
    injection h with h;subst h
    have hag:(isAgg t).run P w= .ok false w:=by
     unfold isAgg
     simp only [Sem.run_bind,run_underlying hu,Result.andThen_ok]
     cases u<;>simp [Ats]at hc<;>rfl
    have hp:∀zs:Array Value,off+1≤zs.size→(part t zs off).run P w= .ok (zs.getD off undef) w:=by
     intro zs hz
     unfold part
     simp only [Sem.run_bind,hag,Result.andThen_ok]
     have:zs[off]? =some (zs.getD off undef):=by
      simp [Array.getD_eq_getD_getElem?,Array.getElem?_eq_getElem (show off<zs.size by omega)]
     simp only [Bool.false_eq_true,if_false,this]
     rfl
    obtain⟨hl,hk⟩:=Al6 _ _ _ _ he
    match l,k,hl,hk with
    | [X],[Y],_,_=>
      obtain⟨b1,b2,h1,h2,rfl⟩:=Aj6 _ _ _ _ _ _ _ he
      simp [Fa]at h2
      subst h2
      have r1:=rx 0 (by simp)
      have r2:=ry 0 (by simp)
      simp only [Nat.add_zero,List.getD_cons_zero]at r1 r2
      refine⟨_,_,hp xs (by simpa using hx),hp ys (by simpa using hy), ?_⟩
      rw [Bool.and_true,show dd+(d+1)=(dd+d)+1 by omega]
      exact Bky hu hc (dd+d) w m _ _ X Y r1 r2 b1 h1
   ·cases h
  ·cases h
def Bm6:CS→CS→Bool
 | .bool, .bool=>true
 | .int k, .int k'=>decide (k=k')
 | .str, .str=>true
 |_,_=>false
def A5v:List CS→List CS→Bool
 | [],[]=>true
 |c::cs,d::ds=>Bm6 c d && A5v cs ds
 |_,_=>false
theorem Bgt(a b:List CS)(h:A5v a b=true):a=b:=by
 induction a generalizing b with
 |nil=>cases b with |nil=>rfl |cons=>cases h
 |cons c cs ih=>
  cases b with
  |nil=>cases h
  |cons d ds=>
   simp only [A5v,Bool.and_eq_true]at h
   rw [ih ds h.2]
   congr 1
   have:=h.1
   cases c<;>cases d<;>simp [Bm6]at this<;>simp [this]
def isStruct:TypeDesc→Bool | .struct _=>true |_=>false
def Bbc(P:Program)(t:Nat)(sh:List CS):Bool:=
 (match P.underlying t with |some u=>isStruct u |none=>false) && ((match P.eqGuardType P.depth t with |true=>false |false=>true) && (match Ate P 8 t with |some sh'=>A5v sh' sh |none=>false))
theorem Bdv(P:Program)(d t:Nat)(sh:List CS)(fs:Array Field)(hs:Ate P (d+1) t=some sh)(hu:P.underlying t=some (.struct fs)):∃i,P.info? t=some i∧i.size=sh.length:=by
 simp only [Ate]at hs
 split at hs
 ·rename_i i fs' hi hu'
  split at hs
  ·split at hs
   ·rename_i hsz
    injection hs with hs;subst hs
    exact⟨i,hi,by simpa using hsz⟩
   ·cases hs
  ·cases hs
 ·rename_i i u hns hi hu'
  rw [hu]at hu'
  injection hu' with hu'
  subst hu'
  simp [Ats]at hs
 ·cases hs
theorem Bgn(P:Program)(t:Nat)(sh:List CS)(h:Bbc P t sh=true):Bl2 P t sh:=by
 unfold Bbc at h
 simp only [Bool.and_eq_true]at h
 obtain⟨h0,h1,h2⟩:=h
 split at h2
 ·rename_i sh' hs
  have:=Bgt _ _ h2
  subst this
  have hg:P.eqGuardType P.depth t=false:=by
   cases hq:P.eqGuardType P.depth t with
   |false=>rfl
   |true=>rw [hq]at h1;cases h1
  refine⟨hg,fun w m xs ys l k b hx hy rx ry he=> ?_⟩
  obtain⟨hl,hk⟩:=Al6 _ _ _ _ he
  obtain⟨vx,vy,p1,p2,p3⟩:=Bkm P 9992 w m 8 t sh' hs xs ys 0 l k b (by omega) (by omega) (fun i hi=>by rw [Nat.zero_add];exact rx i (by omega)) (fun i hi=>by rw [Nat.zero_add];exact ry i (by omega)) he
  split at h0
  ·rename_i u hu
   cases u<;>simp [isStruct]at h0
   rename_i fs
   have hag:(isAgg t).run P w= .ok true w:=by unfold isAgg;simp only [Sem.run_bind,run_underlying hu,Result.andThen_ok];rfl
   have hi:=Bdv P 7 t sh' fs hs hu
   obtain⟨i,hi,hsz⟩:=hi
   have hp:∀zs:Array Value,zs.size=sh'.length→(part t zs 0).run P w= .ok (.agg zs) w:=by
    intro zs hz
    unfold part
    simp only [Sem.run_bind,hag,Result.andThen_ok,if_true,Dm hi,hsz]
    simp [←hz]
   rw [hp xs (by omega)]at p1
   rw [hp ys (by omega)]at p2
   injection p1 with p1;injection p2 with p2
   subst p1;subst p2
   exact p3
  ·cases h0
 ·cases h2
def Bgq:Value→IV→Bool
 | .bool b, .bool b'=> !Bool.xor b b'
 | .int k n, .int k' n'=>decide (k=k') && decide (n=n')
 | .string s, .str l=>match s.data.toList,l with | [],[]=>true |_,_=>false
 | .slice none 0 0, .sl .nil _ []=>true
 | .pointer none, .raw (.pointer none)=>true
 | .nilFunc, .raw .nilFunc=>true
 | .map none, .raw (.map none)=>true
 | .nilIface, .ifc true=>true
 |_,_=>false
def Ao5:List Value→List IV→Bool
 | [],[]=>true
 |v::vs,x::xs=>Bgq v x && Ao5 vs xs
 |_,_=>false
def Bjd:TD→Bool | .tuple _=>true |_=>false
def Ald(P:Program):List Field→List (Nat × Nat)→Bool
 | [],[]=>true
 |f::fs,(off,sz)::r=>(Nat.beq f.offset off && (match P.info? f.type with |some i=>Nat.beq i.size sz |none=>false)) && Ald P fs r
 |_,_=>false
def Acr(P:Program)(t:Nat):TD→Bool
 | .bool=>match P.underlying t with |some .bool=>true |_=>false
 | .int k=>match P.underlying t with |some (.int k')=>decide (k'=k) |_=>false
 | .str=>match P.underlying t with |some .string=>true |_=>false
 | .slice e esz eb _=>match P.underlying t with
   |some (.slice e')=>Nat.beq e' e && (match P.info? e with |some i=>Nat.beq i.size esz && Nat.beq i.bytes eb |none=>false)
   |_=>false
 | .struct fs=>match P.underlying t with |some (.struct fields)=>Ald P fields.toList fs |_=>false
 | .array n e esz=>match P.underlying t with
   |some (.array n' e')=>(Nat.beq n' n && Nat.beq e' e) && (match P.info? e with |some i=>Nat.beq i.size esz |none=>false)
   |_=>false
 | .tuple _=>true
 | .pointer e=>match P.underlying t with |some (.pointer e')=>Nat.beq e' e |_=>false
 | .iface=>match P.underlying t with |some (.interface _)=>true |_=>false
 | .map=>match P.underlying t with
   |some (.map k e)=>(match P.underlying k with |some .string=>true |_=>false) && (match P.info? e with
    |some i=>(match i.zero with |some (.int .i64 n)=>decide (n=0) |_=>false)
    |none=>false)
   |_=>false
 | .other=>true
 | .missing=>true
def Bgf:TypeDesc→Bool | .struct _=>true | .array _ _=>true |_=>false
def Bbj:List Nat→List Nat→Bool
 | [],[]=>true
 |a::l,b::m=>Nat.beq a b && Bbj l m
 |_,_=>false
theorem Bkl {l m:List Nat} (h:Bbj l m=true):l=m:=by
 induction l generalizing m with
 |nil=>cases m with |nil=>rfl |cons=>cases h
 |cons a l ih=>cases m with
  |nil=>cases h
  |cons b m=>
   simp only [Bbj,Bool.and_eq_true]at h
   have:a=b:=by simpa using h.1
   subst this
   rw [ih h.2]
def Bgo(P:Program)(t:Nat)(l:List Nat):Bool:=match l with
 | []=>true
 |_=>match P.underlying t with |some (.struct fields)=>Bbj (fields.toList.map (·.type)) l |_=>false
theorem Bkc {P:Program} {t:Nat} {l:List Nat} (h:Bgo P t l=true)(hl:l≠[]):∃fields:Array Field,P.underlying t=some (.struct fields)∧fields.toList.map (·.type)=l:=by
 unfold Bgo at h
 split at h
 ·exact absurd rfl hl
 ·split at h
  ·rename_i fields hu
   exact⟨fields,hu,Bkl h⟩
  ·cases h
def A5s(P:Program)(t:Nat)(ti:TI):Bool:=
 (match P.info? t with
  |some i=>(Nat.beq i.size ti.size && Nat.beq i.bytes ti.bytes) && (Bjd ti.td || (match i.zero with |some v=>Ao5 v.cells.toList ti.zero && Nat.beq v.cells.size ti.size |none=>false))
  |none=>false) && (Acr P t ti.td && ((match P.underlying t with |some d=> !Bool.xor (Bgf d) ti.agg |none=>false) && ((ti.agg || Nat.beq ti.size 1) && ((match ti.eq with |true=>Bbc P t ti.sh |false=>true) && Bgo P t ti.fts))))
def A6x(P:Program):TT→Bool
 | []=>true
 |(t,ti)::r=>A5s P t ti && A6x P r
theorem Bkd(m:Nat→Nat→Option Value)(v:Value)(x:IV)(h:Bgq v x=true):RepI m v x∧v.oneCell'=true:=by
 unfold Bgq at h
 split at h
 ·rename_i b b'
  have:b=b':=by cases b<;>cases b'<;>simp_all
  subst this
  exact⟨.bool _,rfl⟩
 ·simp at h
  obtain⟨rfl,rfl⟩:=h
  exact⟨.int _ _,rfl⟩
 ·split at h
  ·rename_i h1
   exact⟨.str _ _ h1,rfl⟩
  ·cases h
 ·exact⟨RepI.nilsl _ _ _,rfl⟩
 ·exact⟨.raw _,rfl⟩
 ·exact⟨.raw _,rfl⟩
 ·exact⟨.raw _,rfl⟩
 ·exact⟨.nilIface,rfl⟩
 ·cases h
theorem A9h(m:Nat→Nat→Option Value)(vs:List Value)(xs:List IV)(h:Ao5 vs xs=true):vs.length=xs.length∧∀j,j<xs.length→RepI m (vs.getD j undef) (xs.getD j default)∧(vs.getD j undef).oneCell'=true:=by
 induction vs generalizing xs with
 |nil=>
  cases xs with
  |nil=>exact⟨rfl,fun j hj=>by simp at hj⟩
  |cons x xs=>cases h
 |cons v vs ih=>
  cases xs with
  |nil=>cases h
  |cons x xs=>
   simp only [Ao5,Bool.and_eq_true]at h
   obtain⟨h1,h2⟩:=ih xs h.2
   refine⟨by simp [h1],fun j hj=> ?_⟩
   cases j with
   |zero=>exact Bkd m v x h.1
   |succ j=>simpa using h2 j (by simpa using hj)
theorem A6y(P:Program)(fs:List Field)(r:List (Nat × Nat))(h:Ald P fs r=true):fs.length=r.length∧∀(j off sz:Nat),r[j]? =some (off,sz)→∃(f:Field) (i:TypeInfo),fs[j]? =some f∧f.offset=off∧P.info? f.type=some i∧i.size=sz:=by
 induction fs generalizing r with
 |nil=>
  cases r with
  |nil=>exact⟨rfl,fun j off sz hj=>by simp at hj⟩
  |cons x xs=>cases h
 |cons f fs ih=>
  cases r with
  |nil=>cases h
  |cons x r=>
   obtain⟨off,sz⟩:=x
   simp only [Ald,Bool.and_eq_true]at h
   obtain⟨⟨h1,h2⟩,h3⟩:=h
   obtain⟨q1,q2⟩:=ih r h3
   refine⟨by simp [q1],fun j off' sz' hj=> ?_⟩
   cases j with
   |zero=>
    simp at hj
    obtain⟨rfl,rfl⟩:=hj
    split at h2
    ·rename_i i hi
     exact⟨f,i,rfl,by simpa using h1,hi,by simpa using h2⟩
    ·cases h2
   |succ j=>exact q2 j off' sz' (by simpa using hj)
theorem Bgp(P:Program)(t:Nat)(td:TD)(h:Acr P t td=true):Bmw P t td:=by
 cases td with
 |bool=>
  unfold Acr at h
  simp only at h
  split at h
  ·rename_i hk;exact hk
  ·cases h
 |int k=>
  unfold Acr at h
  simp only at h
  split at h
  ·rename_i k' hk;have:k'=k:=by simpa using h
   subst this;exact hk
  ·cases h
 |str=>
  unfold Acr at h
  simp only at h
  split at h
  ·rename_i hk;exact hk
  ·cases h
 |slice e esz eb sh=>
  unfold Acr at h
  simp only at h
  split at h
  ·rename_i e' he
   simp only [Bool.and_eq_true]at h
   have h1:e'=e:=by simpa using h.1
   subst h1
   have h2:=h.2
   split at h2
   ·rename_i i hi
    simp only [Bool.and_eq_true]at h2
    exact⟨he,i,hi,by simpa using h2.1,by simpa using h2.2⟩
   ·cases h2
  ·cases h
 |struct fs=>
  unfold Acr at h
  simp only at h
  split at h
  ·rename_i fields hf
   obtain⟨h1,h2⟩:=A6y P _ _ h
   exact⟨fields,hf,by simpa using h1,fun j off sz hj=>by
    obtain⟨f,i,q1,q2⟩:=h2 j off sz hj
    exact⟨f,i,by simpa using q1,q2⟩⟩
  ·cases h
 |array n e esz=>
  unfold Acr at h
  simp only at h
  split at h
  ·rename_i n' e' he
   simp only [Bool.and_eq_true]at h
   have h1:n'=n:=by simpa using h.1.1
   have h2:e'=e:=by simpa using h.1.2
   subst h1;subst h2
   have h3:=h.2
   split at h3
   ·rename_i i hi
    exact⟨he,i,hi,by simpa using h3⟩
   ·cases h3
  ·cases h
 |tuple ts=>trivial
 |pointer e=>
  unfold Acr at h
  simp only at h
  split at h
  ·rename_i e' he
   have:e'=e:=by simpa using h
   subst this;exact he
  ·cases h
 |iface=>
  unfold Acr at h
  simp only at h
  split at h
  ·rename_i ms hk;exact⟨ms,hk⟩
  ·cases h
 |map=>
  unfold Acr at h
  simp only at h
  split at h
  ·rename_i k e hk
   simp only [Bool.and_eq_true]at h
   obtain⟨h1,h2⟩:=h
   split at h1
   ·rename_i hk1
    split at h2
    ·rename_i i hi
     split at h2
     ·rename_i n hz
      have:n=0:=by simpa using h2
      subst this
      exact⟨k,e,hk,hk1,i,hi,hz⟩
     ·cases h2
    ·cases h2
   ·cases h1
  ·cases h
 |other=>trivial
 |missing=>trivial
theorem A6z(P:Program)(t:Nat)(ti:TI)(h:A5s P t ti=true):Aa5 P t ti∧(ti.agg=false→ti.size=1):=by
 unfold A5s at h
 simp only [Bool.and_eq_true]at h
 obtain⟨h1,h2,h3,h4,h8,h9⟩:=h
 split at h1
 ·rename_i i hi
  simp only [Bool.and_eq_true]at h1
  obtain⟨⟨h5,h6⟩,h7⟩:=h1
  refine⟨⟨⟨i,hi,by simpa using h5,by simpa using h6,fun hnt=> ?_⟩,Bgp P t _ h2, ?_, ?_,fun hl=>Bkc h9 hl⟩,fun ha=> ?_⟩
  ·have:Bjd ti.td=false:=by
    cases hd:ti.td with
    |tuple ts=>exact absurd hd (hnt ts)
    |_=>rfl
   rw [this,Bool.false_or]at h7
   split at h7
   ·rename_i v hv
    simp only [Bool.and_eq_true]at h7
    have hk:=fun m=>A9h m _ _ h7.1
    have e1:∀j,v.cells.getD j undef=v.cells.toList.getD j undef:=fun j=>by simp [Array.getD_eq_getD_getElem?,List.getD_eq_getElem?_getD]
    exact⟨v,hv,by simpa using (hk fun _ _=>none).1,fun j hj m=>by rw [e1];exact((hk m).2 j hj).1,by simpa using h7.2,fun j hj=>by rw [e1];exact((hk fun _ _=>none).2 j hj).2⟩
   ·cases h7
  ·intro he
   rw [he]at h8
   exact Bgn P t _ h8
  ·split at h3
   ·rename_i d hd
    refine⟨d,hd, ?_⟩
    have:Bgf d=ti.agg:=by cases hx:Bgf d<;>cases hy:ti.agg<;>simp_all
    rw [←this]
    cases d<;>rfl
   ·cases h3
  ·rw [ha,Bool.false_or]at h4
   simpa using h4
 ·cases h1
theorem Bdj(P:Program)(T:TT)(h:A6x P T=true):Dc P T:=by
 have key:∀t,(tl T t).td≠ .missing→A5s P t (tl T t)=true:=by
  induction T with
  |nil=>intro t ht;exact absurd rfl ht
  |cons x T ih=>
   obtain⟨m,ti⟩:=x
   simp only [A6x,Bool.and_eq_true]at h
   intro t ht
   simp only [tl]at ht ⊢
   split
   ·rename_i e
    have:m=t:=by simpa using e
    subst this
    exact h.1
   ·rename_i e
    rw [e]at ht
    exact ih h.2 t ht
 exact⟨fun t ht=>(A6z P t _ (key t ht)).1,fun t ht ha=>(A6z P t _ (key t ht)).2 ha⟩
theorem Ba9(pl:A6c)(rs:List Nat)(c:Code)(n:Nat):(A8 pl rs c n).1.code=c:=by
 induction c generalizing n with
 |skip=>rfl
 |region id ops d=>rfl
 |seq a b iha ihb=>
  have h1:=iha n
  have h2:=ihb ((A8 pl rs a n).2+1)
  simp only [A8]
  split
  ·simp only [AC.code,h1,h2]
  ·simp only [AC.code,h1,h2]
 |cond c x y ihx ihy=>
  have h1:=ihx n
  have h2:=ihy (A8 pl rs x n).2
  simp only [A8,AC.code,h1,h2]
 |block id b ih=>have h1:=ih n;simp only [A8,AC.code,h1]
 |loop b ih=>have h1:=ih (n+1);simp only [A8,AC.code,h1]
 |exit id=>rfl
 |ret=>rfl
 |label l=>rfl
 |scope b ih=>have h1:=ih (n+1);simp only [A8,AC.code,h1]
 |goto l=>rfl
 |_=>rfl
def Aux:Option Code→Bool |some _=>true |none=>false
theorem Tw(P:Program)(f:Nat)(fn:Func)(pl:A6c)(l:List Nat)(rs:List ResultVar)(nt:Nat)(h1:P.funcs[f]? =some fn)(h2:Aux fn.body=true)(h3:fn.ntmps=nt)(h4:fn.results=rs.toArray)(h5:(fn.name == "runtime.NumGoroutine")=false):
 Be P f (A8 pl l (codeOf fn) 0).1.code nt rs:=by
 refine⟨fn,h1, ?_,h3,h4,h5⟩
 rw [Ba9]
 unfold codeOf
 cases hb:fn.body with
 |none=>rw [hb]at h2;cases h2
 |some c=>rfl
end Go.Proofs.Sim

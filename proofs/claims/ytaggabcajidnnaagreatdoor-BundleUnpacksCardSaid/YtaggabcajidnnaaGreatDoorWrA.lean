import Derived.Test.YtaggabcajidnnaaGreatDoorSeatGenW
import Derived.Test.YtaggabcajidnnaaGreatDoorPbA
import Derived.Test.YtaggabcajidnnaaGreatDoorWrL
import Derived.Test.YtaggabcajidnnaaGreatDoorZiA
import Derived.Test.YtaggabcajidnnaaGreatDoorVsC
import Derived.Test.YtaggabcajidnnaaGreatDoorTryzShelf
import Derived.Lib.IndexAny
set_option maxRecDepth 100000
namespace Go.Proofs.Sim.Se
open Go Go.Proofs Go.Proofs.Sim Go.Proofs.Sim.Va Go.RowKit
theorem B0f:∀n:Fin 16,(if(n:Nat)<10 then IntKind.u8.wrap (IntKind.i64.wrap ((48:Int)+((n:Nat):Int)))else IntKind.u8.wrap (IntKind.i64.wrap (IntKind.i64.wrap ((65:Int)+((n:Nat):Int)) - (10:Int))))=(((Bmg n).toNat:Nat):Int):=by decide+kernel
theorem Ab1(n:Nat)(hn:n≤15):Call E0.P Oo [.imm (.int .i64 (n:Int))] [] (Is (.imm (.int .u8 ((Bmg n).toNat:Int))) []):=by
 have h:=B0f ⟨n,by omega⟩
 simp only at h
 refine A3h _ _ (Let.intro (Cg (orB _ _) (fun h=>by omega) fun _=>Bh (fun h1=> ?_) fun h1=> ?_))
 ·rw [if_pos (by omega)]at h;rw [h];exact⟨rfl,rfl⟩
 ·rw [if_neg (by omega)]at h;rw [h];exact⟨rfl,rfl⟩
theorem Bl9(c:UInt8):c.toNat<256:=c.toNat_lt
theorem hi4(c:UInt8):IntKind.i64.wrap (((c.toNat:Nat):Int).fdiv ((2:Int) ^ (4:Nat)))=((c.toNat / 16:Nat):Int):=by
 have:=Bl9 c
 rw [Int.fdiv_eq_ediv_of_nonneg _ (by decide),Av _ (by omega) (by omega)];omega
theorem B0i:∀n:Fin 256,IntKind.i64.wrap (IntKind.u8.wrap (↑(BitVec.ofInt 8 ((n:Nat):Int) &&& BitVec.ofInt 8 (15:Int)).toNat:Int))=(((n:Nat) % 16:Nat):Int):=by decide+kernel
theorem lo4(c:UInt8):IntKind.i64.wrap (IntKind.u8.wrap (↑(BitVec.ofInt 8 ((c.toNat:Nat):Int) &&& BitVec.ofInt 8 (15:Int)).toNat:Int))=((c.toNat % 16:Nat):Int):=B0i ⟨c.toNat,Bl9 c⟩
abbrev Bya(l:List (List IV)):Heap:=[(Nm.loc 3, .blk Bj [.self (Nm.loc 3), .own ((Nm.loc 3).cell 1)]),((Nm.loc 3).cell 1, .arr (Am+2) true 1 l)]
theorem Bxa(s:List UInt8)(hs:s.length≤1000000000)(K:Ex→St→Prop):∀(m i:Nat) (acc:List UInt8),m+i=s.length→acc.length≤2*i→K (.exit 0) ⟨[(3, .ptr (Nm.loc 3) 0)],Bya (Aw (acc++(s.drop i).flatMap Aop))⟩→
 Xa s s.length i (Aw acc) K:=by
 intro m
 induction m with
 |zero=>
  intro i acc hi ha hE
  refine Ain _ _ _ _ _ (Bh (fun h=>by omega) fun _=> ?_)
  rw [List.drop_of_length_le (by omega)]at hE
  simpa using hE
 |succ m ih=>
  intro i acc hi ha hE
  have hlt:i<s.length:=by omega
  have hc:=Bl9 s[i]
  refine Ain _ _ _ _ _ (Bh (fun _=> ?_) fun h=>by omega)
  rw [Gs s i hlt,hi4,lo4,Gj i (by omega)]
  refine⟨⟨by omega,by omega⟩,⟨by decide,Call.use (Ab1 _ (by omega)) ⟨⟨rfl,rfl⟩, ?_⟩⟩⟩
  rw [A9g,Vl,Qa,Qa]
  refine⟨⟨by omega,by omega⟩,⟨⟨by omega,by omega⟩,Call.use (Ab1 _ (by omega)) ⟨⟨rfl,rfl⟩, ?_⟩⟩⟩
  rw [A9g,Vl]
  refine⟨by simp;omega,ih (i+1) _ (by omega) (by simp;omega) ?_⟩
  rw [Bbg Aop s i hlt]at hE
  simpa [Aop] using hE
theorem Bxv(s:List UInt8)(hs:s.length≤1000000000):Call E0.P Ag2 [.imm (.str s)] [] (Is (.imm (.str (Bhe s))) []):=by
 refine A3f _ _ ?_
 rw [Bz8]
 have hl:(s.flatMap Aop).length=2*s.length:=by
  clear hs
  induction s with
  |nil=>rfl
  |cons c s ih=>rw [List.flatMap_cons,List.length_append,ih];simp [Aop];omega
 refine Bxa s hs _ s.length 0 [] rfl (by simp) ?_
 rw [List.drop_zero,List.nil_append]
 refine Ayf _ _ (Awn _ _ ?_)
 rw [show([IV.int .u8 (62:Int)]:List IV)=[IV.int .u8 (((62:UInt8).toNat:Nat):Int)] from rfl,Vl,Qa,Qa,Al5]
 exact⟨⟨by rw [hl];omega,by rw [hl];omega⟩,⟨⟨⟨rfl,by rw [List.length_append,hl];simp;omega⟩,Zk _⟩,Aye _ _ ⟨rfl,rfl⟩⟩⟩
end Go.Proofs.Sim.Se
set_option maxRecDepth 100000
namespace Go.Proofs.Sim.Se
open Go Go.Proofs Go.Proofs.Sim Go.Proofs.Sim.Va Go.RowKit
theorem A54(c:UInt8):Aca c=true↔32≤c.toNat∧c.toNat≤126:=by simp [Aca]
theorem Bgi(c:UInt8):Bfb c=true↔32≤c.toNat∧c.toNat≤126∧Vh (c.toNat:Int)=2∧c.toNat≠35:=by simp [Bfb]
theorem Boh(c:UInt8):Call E0.P Ab6 [.imm (.int .u8 (c.toNat:Int))] [] (Is (.imm (.bool (Aca c))) []):=by
 refine A60 _ _ (Let.intro ?_)
 have:(bif decide ((32:Int)≤(c.toNat:Int))then decide ((c.toNat:Int)≤126)else false)=Aca c:=by
  rw [Bool.eq_iff_iff,A54,cond_eq_ite]
  split
  ·rename_i h
   have h:=of_decide_eq_true h
   rw [decide_eq_true_iff];omega
  ·rename_i h
   have h:¬(32:Int)≤(c.toNat:Int):=fun h'=>h (decide_eq_true h')
   constructor
   ·intro h';cases h'
   ·intro h';omega
 rw [this];exact⟨rfl,rfl⟩
theorem Azx(c:UInt8):(Afn c).length≤3:=by unfold Afn;split<;>simp [Aop]
theorem A5a(c:UInt8):(Aj9 c).length≤2:=by unfold Aj9;split<;>simp
theorem A8v(f:UInt8→List UInt8)(k:Nat)(h:∀c,(f c).length≤k)(s:List UInt8):(s.flatMap f).length≤k*s.length:=by
 induction s with
 |nil=>simp
 |cons c s ih=>
  have:=h c
  rw [List.flatMap_cons,List.length_append,List.length_cons,Nat.mul_succ];omega
theorem Bn6(s:List UInt8)(hs:s.length≤1000000000)(K:Ex→St→Prop)(i:Nat)(hi:i<s.length)(acc:List UInt8)(h:K9 s s.length ((i+1:Nat):Int) (Aw acc) K):Ws s s.length i (Aw acc) (Om K):=by
 refine Ax3 _ _ _ _ _ ?_
 rw [Gj i (by omega)]
 exact A16 _ _ _ _ _ h
theorem Bxm(s:List UInt8)(hs:s.length≤1000000000)(K:Ex→St→Prop)(i:Nat)(hi:i<s.length)(acc:List UInt8)(ha:acc.length≤3*i+1)(b:Bool)(hb:b=Bfb s[i])
 (h:K9 s s.length ((i+1:Nat):Int) (Aw (acc++Afn s[i])) K):Wq s (s[i].toNat:Int) s.length i b (Aw acc) (S9 K):=by
 have hc:=Bl9 s[i]
 have h35:([IV.int .u8 (35:Int)]:List IV)=[IV.int .u8 (((35:UInt8).toNat:Nat):Int)]:=rfl
 refine Ax1 _ _ _ _ _ _ _ ⟨fun e=> ?_,fun e=> ?_⟩
 ·rw [Afn, ←hb,if_pos e]at h
  rw [Qa,Vl]
  exact⟨⟨by omega,by omega⟩,A18 _ _ _ _ _ (Bn6 s hs K i hi _ h)⟩
 ·rw [Afn, ←hb,if_neg (by rw [e];decide)]at h
  refine A19 _ _ _ _ _ _ (Ax2 _ _ _ _ _ _ ?_)
  rw [hi4,lo4,h35,Vl,Qa,Qa]
  refine⟨⟨by omega,by omega⟩,⟨by decide,Call.use (Ab1 _ (by omega)) ⟨⟨rfl,rfl⟩, ?_⟩⟩⟩
  rw [A9g,Vl,Qa]
  refine⟨by simp;omega,Call.use (Ab1 _ (by omega)) ⟨⟨rfl,rfl⟩,⟨by simp;omega, ?_⟩⟩⟩
  rw [A9g,Vl]
  refine A17 _ _ _ _ _ (Bn6 s hs K i hi _ ?_)
  simpa [Aop] using h
theorem Bus(s:List UInt8)(hs:s.length≤1000000000)(K:Ex→St→Prop):∀(m i:Nat) (acc:List UInt8),m+i=s.length→acc.length≤3*i+1→K (.exit 0) ⟨[(3, .ptr (Nm.loc 3) 0)],Bya (Aw (acc++(s.drop i).flatMap Afn))⟩→
 K9 s s.length i (Aw acc) K:=by
 intro m
 induction m with
 |zero=>
  intro i acc hi ha hE
  refine Ak3 _ _ _ _ _ (Bh (fun h=>by omega) fun _=> ?_)
  rw [List.drop_of_length_le (by omega)]at hE
  simpa using hE
 |succ m ih=>
  intro i acc hi ha hE
  have hlt:i<s.length:=by omega
  refine Ak3 _ _ _ _ _ (Bh (fun _=> ?_) fun h=>by omega)
  rw [Gs s i hlt]
  have hn:K9 s s.length ((i+1:Nat):Int) (Aw (acc++Afn s[i])) K:=by
   have:=Azx s[i]
   refine ih (i+1) _ (by omega) (by simp;omega) ?_
   rw [Bbg Afn s i hlt]at hE
   simpa using hE
  refine⟨⟨by omega,by omega⟩,Call.use (Boh s[i]) ⟨⟨rfl,rfl⟩, ?_⟩⟩
  rw [Ll]
  refine⟨fun h=> ?_,fun h=>⟨rfl,Let.intro (Let.intro ?_)⟩⟩
  ·have h1:=(A54 _).1 (eq_of_beq h)
   refine Call.use (Ay4 _) ⟨⟨rfl,rfl⟩,Let.intro (Let.intro (Bxm s hs K i hlt acc ha _ ?_ hn))⟩
   rw [Cx,Bool.eq_iff_iff,Bgi,cond_eq_ite]
   split
   ·rename_i h2
    have h2:=of_decide_eq_true h2
    simp [h1,h2];omega
   ·rename_i h2
    constructor
    ·intro h3;cases h3
    ·intro h3;exact absurd (decide_eq_true h3.2.2.1) h2
  ·refine Bxm s hs K i hlt acc ha _ ?_ hn
   rw [Bool.eq_iff_iff,Bgi]
   constructor
   ·intro h3;cases h3
   ·intro h3
    have:Aca s[i]=true:=(A54 _).2 ⟨h3.1,h3.2.1⟩
    rw [this]at h;cases h
theorem Ay6(s:List UInt8)(hs:s.length≤1000000000):Call E0.P Ab5 [.imm (.str s)] [] (Is (.imm (.str (Jb s))) []):=by
 have hl:=A8v Afn 3 Azx s
 refine A6y _ _ ⟨⟨by decide,by decide⟩, ?_⟩
 refine Bus s hs _ s.length 0 [47] rfl (by simp) ?_
 rw [List.drop_zero]
 refine A15 _ _ (Ax4 _ _ ?_)
 rw [Al5,Qa]
 exact⟨⟨⟨rfl,by simp only [List.length_append,List.length_cons,List.length_nil];omega⟩,Zk _⟩,A14 _ _ ⟨rfl,rfl⟩⟩
theorem Ble(s:List UInt8):(Bhe s).length=2*s.length+1:=by
 have:(s.flatMap Aop).length=2*s.length:=by
  induction s with
  |nil=>rfl
  |cons c s ih=>rw [List.flatMap_cons,List.length_append,ih];simp [Aop];omega
 rw [Bhe,List.length_append,this];rfl
theorem Bv9(s:List UInt8)(i:Nat)(h:i<s.length)(hc:Aca s[i]=false):s.all Aca=false:=by
 rw [Bool.eq_false_iff]
 intro ha
 rw [List.all_eq_true]at ha
 have:=ha s[i] (List.getElem_mem h)
 rw [hc]at this;cases this
theorem Bvr(c:UInt8):((bif (bif decide ((c.toNat:Int)=40)then true else decide ((c.toNat:Int)=41))then true else decide ((c.toNat:Int)=92))=true)↔(c=40∨c=41∨c=92):=by
 have e:∀n:UInt8,c=n↔c.toNat=n.toNat:=fun n=>⟨fun h=>h ▸ rfl,UInt8.toNat_inj.1⟩
 rw [Ao0,orB,e,e,e]
 show _↔(c.toNat=40∨c.toNat=41∨c.toNat=92)
 omega
theorem Bqx(s:List UInt8)(hs:s.length≤1000000000)(Q:AV→Heap→Prop)(hQ:Q (.imm (.str (Avp s))) []):∀(m i:Nat) (acc:List UInt8),m+i=s.length→acc.length≤2*i+1→(∀c∈s.take i,Aca c=true)→acc++(s.drop i).flatMap Aj9=40::s.flatMap Aj9→
 M7 s s.length i (Aw acc) (Q5 Q):=by
 intro m
 induction m with
 |zero=>
  intro i acc hi ha hall hE
  refine Air _ _ _ _ _ (Bh (fun h=>by omega) fun _=> ?_)
  rw [List.drop_of_length_le (by omega)]at hE
  rw [List.take_of_length_le (by omega)]at hall
  have hl:=A8v Aj9 2 A5a s
  have hE:acc=40::s.flatMap Aj9:=by simpa using hE
  rw [Avp,if_pos (List.all_eq_true.2 hall), ←hE]at hQ
  refine Ayy _ _ (Awu _ _ ?_)
  rw [show([IV.int .u8 (41:Int)]:List IV)=[IV.int .u8 (((41:UInt8).toNat:Nat):Int)] from rfl,Vl,Qa,Qa,Al5]
  exact⟨⟨by omega,by omega⟩,⟨⟨⟨rfl,by simp;omega⟩,Zk _⟩,Ayw _ _ hQ⟩⟩
 |succ m ih=>
  intro i acc hi ha hall hE
  have hlt:i<s.length:=by omega
  refine Air _ _ _ _ _ (Bh (fun _=> ?_) fun h=>by omega)
  rw [Gs s i hlt,Gj i (by omega)]
  refine⟨⟨by omega,by omega⟩,Call.use (Boh s[i]) ⟨⟨rfl,rfl⟩, ?_⟩⟩
  rw [Ll]
  refine⟨fun h=> ?_,fun h=> ?_⟩
  ·have h:Aca s[i]=false:=by simpa using h
   rw [Avp,if_neg (by rw [Bv9 s i hlt h];decide)]at hQ
   have:=Ble s
   refine Call.use (Bxv s hs) ⟨⟨rfl,rfl⟩,⟨?_,Ayx _ _ hQ⟩⟩
   show(((1+(Bhe s).length:Nat):Int))≤_
   omega
  ·have h:Aca s[i]=true:=by simpa using h
   have hall':=Aob (P:=fun c:UInt8=>Aca c=true) _ _ hlt hall h
   rw [Bbg Aj9 s i hlt]at hE
   have hel:=A5a s[i]
   have hn:M7 s s.length ((i+1:Nat):Int) (Aw (acc++Aj9 s[i])) (Q5 Q):=ih (i+1) _ (by omega) (by simp;omega) hall' (by rw [List.append_assoc];exact hE)
   refine Let.intro (Let.intro (Cg (Bvr _) (fun e=> ?_) fun e=> ?_))
   ·rw [Aj9,if_pos e]at hn
    rw [show([IV.int .u8 (92:Int)]:List IV)=[IV.int .u8 (((92:UInt8).toNat:Nat):Int)] from rfl,Vl,Qa,Qa,Vl]
    refine⟨⟨by omega,by omega⟩,⟨by simp;omega, ?_⟩⟩
    simpa using hn
   ·rw [Aj9,if_neg e]at hn
    rw [Vl,Qa]
    exact⟨⟨by omega,by omega⟩,hn⟩
theorem Bea(s:List UInt8)(hs:s.length≤1000000000):Call E0.P Ag8 [.imm (.str s)] [] (Is (.imm (.str (Avp s))) []):=
 A3p _ _ ⟨⟨by decide,by decide⟩,Bqx s hs _ ⟨rfl,rfl⟩ s.length 0 [40] rfl (by simp) (by simp) (by simp)⟩
end Go.Proofs.Sim.Se
set_option maxRecDepth 100000
namespace Go.Proofs.Sim.Se
open Go Go.Proofs Go.Proofs.Sim Go.Proofs.Sim.Va Go.RowKit
abbrev Bs3(v:V):List IV:=[.int .i64 v.k, .int .i64 v.n, .int .i64 v.g, .str v.s, .sl .any 6 (v.l.map V.row), .sl .any 7 (v.d.map Bc)]
theorem Aza {b:Bool} {p:Prop} {A B:Prop} (hb:b=true↔p)(h1:¬p→A)(h2:p→B):Br (b == false) A B:=by
 cases b with
 |true=>exact⟨fun h=>absurd h (by decide),fun _=>h2 (hb.1 rfl)⟩
 |false=>exact⟨fun _=>h1 (fun hp=>by cases hb.2 hp),fun h=>absurd h (by decide)⟩
theorem Byc {A B:Prop} (h:A):Br true A B:=⟨fun _=>h,fun h=>absurd h (by decide)⟩
theorem Asz {A B:Prop} (h:B):Br (true == false) A B:=⟨fun h=>absurd h (by decide),fun _=>h⟩
theorem Axd(s:List UInt8):Call E0.P Aff [.imm (.str s), .imm (.int .u8 0)] [] (Is (.imm (.int .i64 (Lib.indexByte s 0))) []):=by
 refine Uz Tryz.func76 (by kernel_rfl) (by kernel_rfl) [.str s, .int .u8 0] _ fun g w vs hv hs=> ?_
 obtain⟨v,u,rfl,hr,hu⟩:=Bnk hv
 obtain rfl:=Avj hr
 obtain rfl:=Ac6 hu
 refine(Tryz.strings_IndexByte ⟨s.toArray⟩ 0 w).mono ?_
 rintro e w' ⟨rfl,rfl⟩
 exact⟨_, .imm (.int .i64 (Lib.indexByte s 0)),rfl,Below.refl _ _, .imm _ _ (.int _ _),rfl,rfl⟩
theorem Btv(s:List UInt8):Call E0.P Yh [.imm (.str s)] [] (Is (.imm (.bool (decide ((0:UInt8)∈s)))) []):=by
 refine A93 _ _ (Call.use (Axd s) ⟨⟨rfl,rfl⟩, ?_⟩)
 have:decide ((0:Int)≤Lib.indexByte s 0)=decide ((0:UInt8)∈s):=by
  rw [←Lib.contains_iff_indexByte];simp
 rw [Cx,this]
 exact⟨rfl,rfl⟩
theorem Boa(v:V):Call E0.P Ve [.imm (.agg (Bs3 v)), .imm (.agg [.bool (hN v.k), .bool (hG v.k), .bool (hS v.k), .bool (hL v.k), .bool (hD v.k)])] [] (Is (.imm (.bool (decide (Vw v)))) []):=by
 have hk:∀(p:Prop) [Decidable p],(!decide p)=true↔¬p:=fun p _=>by simp
 have i0:((bif !hN v.k then !decide (v.n=0)else false)=true)↔(v.n≠0∧¬(v.k=1∨v.k=2∨v.k=7)):=by
  rw [hN];by_cases a:v.k=1∨v.k=2∨v.k=7<;>simp [a]
 have i1:((bif !hG v.k then !decide (v.g=0)else false)=true)↔(v.g≠0∧v.k≠7):=by
  rw [hG];by_cases a:v.k=7<;>simp [a]
 have i2:((bif !hS v.k then !v.s == []else false)=true)↔(v.s≠[]∧¬(v.k=3∨v.k=4∨v.k=8)):=by
  rw [hS];by_cases a:v.k=3∨v.k=4∨v.k=8<;>simp [a]
 have i3:((bif !hL v.k then decide ((0:Int)<((v.l.map V.row).length:Int))else false)=true)↔(0<v.l.length∧v.k≠5):=by
  rw [hL,List.length_map];by_cases a:v.k=5<;>simp [a]
 have i4:((bif !hD v.k then decide ((0:Int)<((v.d.map Bc).length:Int))else false)=true)↔(0<v.d.length∧¬(v.k=6∨v.k=8)):=by
  rw [hD,List.length_map];by_cases a:v.k=6∨v.k=8<;>simp [a]
 have yes:Vw v→Is (.imm (.bool (decide (Vw v)))) [] (.imm (.bool true)) []:=fun h=>by rw [decide_eq_true h];exact⟨rfl,rfl⟩
 refine Ax9 _ _ _ _ _ _ _ _ _ _ _ _ (Let.intro (Aza i0 (fun n0=> ?_) fun y=>⟨rfl,Let.intro (Asz ⟨rfl,Let.intro (Asz ⟨rfl,Let.intro (Asz ⟨rfl,Let.intro (yes (.inl y))⟩)⟩)⟩)⟩))
 refine Let.intro (Let.intro (Aza i1 (fun n1=> ?_) fun y=>⟨rfl,Let.intro (Asz ⟨rfl,Let.intro (Asz ⟨rfl,Let.intro (yes (.inr (.inl y)))⟩)⟩)⟩))
 refine Let.intro (Let.intro (Aza i2 (fun n2=> ?_) fun y=>⟨rfl,Let.intro (Asz ⟨rfl,Let.intro (yes (.inr (.inr (.inl y))))⟩)⟩))
 refine Let.intro (Let.intro (Aza i3 (fun n3=> ?_) fun y=>⟨rfl,Let.intro (yes (.inr (.inr (.inr (.inl y)))))⟩))
 refine Let.intro (Let.intro ?_)
 have:(bif !hD v.k then decide ((0:Int)<((v.d.map Bc).length:Int))else false)=decide (Vw v):=by
  rw [Bool.eq_iff_iff,i4,Bb,Vw]
  exact⟨fun h=> .inr (.inr (.inr (.inr h))),fun h=>by
   rcases h with h |h |h |h |h
   ·exact absurd h n0
   ·exact absurd h n1
   ·exact absurd h n2
   ·exact absurd h n3
   ·exact h⟩
 rw [this]
 exact⟨rfl,rfl⟩
theorem Bqz(v:V):Call E0.P Afg [.imm (.agg (Bs3 v))] [] (Is (.imm (.bool (decide (Aki v)))) []):=by
 have fin:∀b:Bool,(b=true↔Aki v)→Is (.imm (.bool (decide (Aki v)))) [] (.imm (.bool b)) []:=by
  intro b hb
  have:b=decide (Aki v):=by rw [Bool.eq_iff_iff,hb,Bb]
  rw [this];exact⟨rfl,rfl⟩
 refine A1k _ _ _ _ _ _ _ (Bh (fun h=>⟨by decide,fin _ ?_⟩) fun h1=>Bh (fun h=>Let.intro (fin _ ?_)) fun h2=>Bh (fun h=>Let.intro (Let.intro (Let.intro (fin _ ?_)))) fun h7=>fin _ ?_)
 ·rw [Int.fdiv_eq_ediv_of_nonneg _ (by decide),Aki]
  simp only [Bool.not_eq_true',decide_eq_false_iff_not]
  omega
 ·rw [orB,Aki];omega
 ·rw [Ao0,Ao0,orB,Aki];omega
 ·rw [Aki]
  constructor
  ·intro h;cases h
  ·intro h;omega
theorem Bng(v:V)(st:Bool)(w:Int)(b:Bool)(hk:¬((v.k<0∨8<v.k)∨(v.k=8∧st=false)))(hb:b=true↔(Vw v∨(v.k=3∧(0:UInt8)∈v.s)))(Q:AV→Heap→Prop)(hQ:Q (.imm (.int .i64 (Ao1 v st w))) [])(x0 x1 x2:Bool):
 Ka w b v.k v.n v.g v.s (v.l.map V.row) (v.d.map Bc) x0 x1 x2 (hL v.k) (hD v.k) (Hr Q):=by
 rw [Ao1,if_neg hk]at hQ
 have ret:∀n:Int,Q (.imm (.int .i64 n)) []→Hr Q .ret ⟨[(6, .imm (.int .i64 n))],[]⟩:=fun n h=>A4v _ _ h
 have i9:((bif (bif hL v.k then true else hD v.k)then decide ((64:Int)≤w)else false)=true)↔((v.k=5∨v.k=6∨v.k=8)∧64≤w):=by
  rw [hL,hD]
  by_cases a:v.k=5
  ·simp [a]
  ·by_cases c:v.k=6∨v.k=8<;>simp [a,c]
 have l8:∀n:Nat,((127:Int)<(n:Int)↔127<n)∧((65535:Int)<(n:Int)↔65535<n)∧((1048576:Int)<(n:Int)↔1048576<n):=fun n=>⟨by omega,by omega,by omega⟩
 obtain⟨q1,q2,q3⟩:=l8 v.s.length
 refine A3c _ _ _ _ _ _ _ _ _ _ _ _ _ _ (Cg hb (fun h=>ret _ ?_) fun h4=>Call.use (Bqz v) ⟨⟨rfl,rfl⟩,Cg (p:=Aki v) (by rw [Ll];exact Bb) (fun h=>ret _ ?_) fun h3=> ?_⟩)
 ·rw [if_pos h]at hQ;exact hQ
 ·rw [if_neg h4,if_pos h]at hQ;exact hQ
 rw [if_neg h4,if_neg h3]at hQ
 refine Let.intro (Aza (p:=v.k=3∧127<v.s.length) (by rw [N8,q1]) (fun a1=>Let.intro (Let.intro (Cg (p:=v.k=4∧65535<v.s.length) (by rw [N8,q2]) (fun h=>ret _ ?_) fun a2=> ?_))) fun h=>⟨rfl,Let.intro (Byc (ret _ ?_))⟩)
 ·rw [if_pos (.inr h)]at hQ;exact hQ
 ·rw [if_neg (fun h=>h.elim a1 a2)]at hQ
  refine Let.intro (Cg (p:=v.k=8∧1048576<v.s.length) (by rw [N8,q3]) (fun h=>ret _ ?_) fun a3=>Let.intro (Let.intro (Cg i9 (fun h=>ret _ ?_) fun a4=>A4w _ (A1d _ (A4u _ _ ?_)))))
  ·rw [if_pos h]at hQ;exact hQ
  ·rw [if_neg a3,if_pos h]at hQ;exact hQ
  ·rw [if_neg a3,if_neg a4]at hQ;exact hQ
 ·rw [if_pos (.inl h)]at hQ;exact hQ
theorem Bzq(v:V)(st:Bool)(w:Int):Call E0.P Aom [.imm (.agg (Bs3 v)), .imm (.bool st), .imm (.int .i64 w)] [] (Is (.imm (.int .i64 (Ao1 v st w))) []):=by
 have ih:hOK v.k=true↔(0≤v.k∧v.k≤8):=by simp [hOK]
 refine A94 _ _ _ _ _ _ _ _ _ (Call.use (Btt v.k) ⟨⟨rfl,rfl⟩,Aza (p:=v.k<0∨8<v.k) ?_ (fun hk=>Let.intro (Let.intro (Cg (p:=v.k=8∧st=false) ?_ (fun h=> ?_) fun h8=> ?_))) fun h=>⟨rfl,Let.intro (Byc ?_)⟩⟩)
 ·show(!hOK v.k)=true↔_
  rw [Bool.not_eq_true', ←Bool.not_eq_true,ih];omega
 ·by_cases a:v.k=8<;>cases st<;>simp [a]
 ·rw [Ao1,if_pos (.inr h)];exact⟨rfl,rfl⟩
 ·have hk':¬((v.k<0∨8<v.k)∨(v.k=8∧st=false)):=fun h=>h.elim hk h8
  refine Call.use (Boa v) ⟨⟨rfl,rfl⟩,Aza (p:=Vw v) (by rw [Ll];exact Bb) (fun e=> ?_) fun e=>⟨rfl,Let.intro (Bng v st w _ hk' ⟨fun _=> .inl e,fun _=>rfl⟩ _ ⟨rfl,rfl⟩ _ _ _)⟩⟩
  refine⟨fun h=> ?_,fun h=>⟨rfl,Let.intro (Let.intro (Bng v st w _ hk' ⟨fun h=>(by cases h),fun h'=> ?_⟩ _ ⟨rfl,rfl⟩ _ _ _))⟩⟩
  ·have h3:=of_decide_eq_true (eq_of_beq h)
   refine Call.use (Btv v.s) ⟨⟨rfl,rfl⟩,Let.intro (Let.intro (Bng v st w _ hk' ?_ _ ⟨rfl,rfl⟩ _ _ _))⟩
   rw [Ll,Bb]
   exact⟨fun h=> .inr ⟨h3,h⟩,fun h=>h.elim (fun h=>absurd h e) fun h=>h.2⟩
  ·exfalso
   rcases h' with h' |h'
   ·exact e h'
   ·rw [decide_eq_true h'.1]at h;cases h
 ·rw [Ao1,if_pos (.inl h)];exact⟨rfl,rfl⟩
theorem Biq {v:V} {st:Bool} {w:Int} (h:Ao1 v st w=0)(hc:0<v.l.length∨0<v.d.length):w<64:=by
 unfold Ao1 at h
 split at h
 ·cases h
 split at h
 ·cases h
 split at h
 ·cases h
 split at h
 ·cases h
 split at h
 ·cases h
 split at h
 ·cases h
 ·rename_i h4 _ _ _ h9
  have hx:¬Vw v:=fun h=>h4 (.inl h)
  rw [Vw]at hx
  omega
end Go.Proofs.Sim.Se
set_option maxRecDepth 100000
namespace Go.Proofs.Sim.Se
open Go Go.Proofs Go.Proofs.Sim Go.Proofs.Sim.Va Go.RowKit
theorem Bpq(m:List (List UInt8 × Int))(k:List UInt8)(v:Int)(x:List UInt8):Cy (mUp m k v) x=if x=k then v else Cy m x:=by
 induction m with
 |nil=>rw [mUp,Cy];rfl
 |cons a m ih=>
  obtain⟨k0,u⟩:=a
  rw [mUp]
  by_cases h:k=k0
  ·subst h
   rw [if_pos rfl,Cy,Cy]
   by_cases hx:x=k
   ·simp [hx]
   ·simp [hx]
  ·rw [if_neg h,Cy,Cy,ih]
   by_cases hx:x=k0
   ·subst hx
    simp [Ne.symm h]
   ·simp [hx]
theorem ndT {p:Prop} {i:Decidable p} (h:(!@decide p i)=true):¬p:=by
 intro hp
 rw [@decide_eq_true p i hp]at h;cases h
theorem ndF {p:Prop} {i:Decidable p} (h:(!@decide p i)=false):p:=by
 cases hd: @decide p i with
 |true=>exact of_decide_eq_true hd
 |false=>rw [hd]at h;cases h
theorem By1(p:Pr):gS (Bc p) 0=p.1:=by rw [Em];rfl
abbrev CheckAt(v:V):Prop:=∀(st:Bool) (w:Int),0≤w→w≤64→Call E0.P Tu [.imm (.agg v.row), .imm (.bool st), .imm (.int .i64 w)] [] (Is (.imm (.int .i64 (v.chk st w))) [])
theorem Buj(v:V)(hl:v.l.length≤1000000000000)(ih:∀x∈v.l,CheckAt x)(w:Int)(hw0:0≤w)(hw:0<v.l.length→w<64)(a b c:Int)(s:List UInt8)(p q:List (List IV))(K:Ex→St→Prop)
 (hR:Aon (v.l.map fun x=>x.chk false (w+1))≠0→K .ret ⟨[(6, .imm (.int .i64 (Aon (v.l.map fun x=>x.chk false (w+1)))))],[]⟩)
 (hE:Aon (v.l.map fun x=>x.chk false (w+1))=0→K (.exit 0) ⟨[(2, .imm (.int .i64 w)),(3, .ptr (Nm.loc 3) 0)],[(Nm.loc 3, .blk Aa [.imm (.int .i64 a), .imm (.int .i64 b), .imm (.int .i64 c), .imm (.str s), .imm (.sl .any 6 p), .imm (.sl .any 7 q)])]⟩):
 ∀(m i:Nat),m+i=v.l.length→Aon (v.l.map fun x=>x.chk false (w+1))=Aon ((v.l.drop i).map fun x=>x.chk false (w+1))→Xf w (Il v.l) v.l.length i a b c s p q K:=by
 intro m
 induction m with
 |zero=>
  intro i hi he
  refine Aiq _ _ _ _ _ _ _ _ _ _ _ (Bh (fun h=>by omega) fun _=> ?_)
  rw [List.drop_of_length_le (by omega)]at he
  exact hE he
 |succ m ihm=>
  intro i hi he
  have hlt:i<v.l.length:=by omega
  have hm:Nf v.l i∈v.l:=by simp [Nf,List.getD_eq_getElem?_getD,hlt]
  have hd:v.l.drop i=Nf v.l i::v.l.drop (i+1):=by rw [List.drop_eq_getElem_cons hlt];simp [Nf,List.getD_eq_getElem?_getD,hlt]
  have hw:=hw (by omega)
  refine Aiq _ _ _ _ _ _ _ _ _ _ _ (Bh (fun _=> ?_) fun h=>by omega)
  rw [show(Il v.l).getD (Int.toNat (i:Int)) []=(Nf v.l i).row from Z4 _ _ hlt,Et,Fy,Gj i (by omega),Av _ (by omega) (by omega)]
  refine⟨⟨⟨by omega,by omega⟩,Z5 _ _ _⟩,Call.use (ih _ hm false (w+1) (by omega) (by omega)) ⟨⟨rfl,rfl⟩, ?_⟩⟩
  rw [Cx]
  rw [hd,List.map_cons,Aon]at he
  refine⟨fun h=> ?_,fun h=>ihm (i+1) (by omega) ?_⟩
  ·have h:=ndT h
   rw [if_pos h]at he
   rw [he]at hR
   exact hR h
  ·have h:=ndF h
   rw [if_neg (by simpa using h)]at he
   exact he
theorem Bui(v:V)(hl:v.d.length≤1000000000000)(ih:∀x∈v.d,CheckAt x.2)(w:Int)(hw0:0≤w)(hw:0<v.d.length→w<64)(K:Ex→St→Prop)
 (hR:K .ret ⟨[(6, .imm (.int .i64 (A5f [] (v.d.map fun x=>(x.1,x.2.chk false (w+1))))))],[]⟩):
 ∀(m i:Nat) (seen:List Ky) (M:List (List UInt8 × Int)),m+i=v.d.length→(∀x,Cy M x=if x∈seen then 1 else 0)→
  A5f [] (v.d.map fun x=>(x.1,x.2.chk false (w+1)))=A5f seen ((v.d.drop i).map fun x=>(x.1,x.2.chk false (w+1)))→Ut w (Bf v.d) v.d.length i M (Mx K):=by
 intro m
 induction m with
 |zero=>
  intro i seen M hi hM he
  refine Agb _ _ _ _ _ _ (Bh (fun h=>by omega) fun _=> ?_)
  rw [List.drop_of_length_le (by omega)]at he
  rw [he]at hR
  exact Ays _ (Awt _ (Ayr _ _ hR))
 |succ m ihm=>
  intro i seen M hi hM he
  have hlt:i<v.d.length:=by omega
  have hm:Bo v.d i∈v.d:=by simp [Bo,List.getD_eq_getElem?_getD,hlt]
  have hd:v.d.drop i=Bo v.d i::v.d.drop (i+1):=by rw [List.drop_eq_getElem_cons hlt];simp [Bo,List.getD_eq_getElem?_getD,hlt]
  have hw:=hw (by omega)
  obtain⟨p,hp⟩:∃p,Bo v.d i=p:=⟨_,rfl⟩
  rw [hp]at hm hd
  refine Agb _ _ _ _ _ _ (Bh (fun _=> ?_) fun h=>by omega)
  rw [show(Bf v.d).getD (Int.toNat (i:Int)) []=Bc (Bo v.d i) from Tz _ _ hlt,hp,By1,Ay]
  rw [hd,List.map_cons,A5f]at he
  have i2:∀b:Bool,(b=true↔Ait p.1)→(((bif b then true else decide ((0:Int)<Cy M p.1))=true)↔(Ait p.1∨p.1∈seen)):=by
   intro b hb
   rw [Ao0,hb,hM]
   by_cases h:p.1∈seen<;>simp [h]
  have bad:(Ait p.1∨p.1∈seen)→Mx K .ret ⟨[(6, .imm (.int .i64 11))],[]⟩:=by
   intro h
   rw [if_pos h]at he
   rw [he]at hR
   exact Ail _ _ hR
  have good:¬(Ait p.1∨p.1∈seen)→Uj w (Bf v.d) v.d.length i M p.1 (gI (Bc p) 1) (gI (Bc p) 2) (gI (Bc p) 3) (gS (Bc p) 4) (gR (Bc p) 5) (gR (Bc p) 6) (Q4 (Mx K)):=by
   intro h
   rw [if_neg h]at he
   refine Awr _ _ _ _ _ _ _ _ _ _ _ _ _ ?_
   rw [Mm,Av (w+1) (by omega) (by omega)]
   refine Call.use (ih _ hm false (w+1) (by omega) (by omega)) ⟨⟨rfl,rfl⟩, ?_⟩
   rw [Cx]
   refine⟨fun h2=> ?_,fun h2=> ?_⟩
   ·rw [if_pos (ndT h2)]at he
    rw [he]at hR
    exact Ayu _ _ (Ail _ _ hR)
   ·rw [if_neg (by simpa using ndF h2)]at he
    refine Ayv _ _ _ _ _ _ (Aws _ _ _ _ _ _ ?_)
    rw [Gj i (by omega)]
    refine Ayt _ _ _ _ _ _ (ihm (i+1) (seen++[p.1]) _ (by omega) (fun x=> ?_) he)
    rw [Bpq,hM,hM,if_neg (show ¬p.1∈seen from fun h3=>h (.inr h3))]
    by_cases hx:x=p.1
    ·rw [if_pos hx,if_pos (by rw [hx];simp)];rfl
    ·rw [if_neg hx]
     by_cases h4:x∈seen
     ·rw [if_pos h4,if_pos (by simp [h4])]
     ·rw [if_neg h4,if_neg (by simp [h4,hx])]
  refine⟨⟨⟨by omega,by omega⟩,C9 _ _ _⟩,Aza (p:=127<p.1.length) (by rw [Bb];omega) (fun h1=>Call.use (Btv _) ⟨⟨rfl,rfl⟩,Let.intro (Let.intro (Cg (i2 _ ?_) bad good))⟩) fun h1=>⟨rfl,Let.intro (Let.intro (Cg (i2 _ ?_) bad good))⟩⟩
  ·rw [Ll,Bb,Ait]
   exact⟨fun h=> .inr h,fun h=>h.elim (fun h=>absurd h h1) id⟩
  ·exact⟨fun _=> .inl h1,fun _=>rfl⟩
theorem Buy(v:V)(hf:Fit v):CheckAt v:=by
 induction hf with
 |mk v h1 h2 h3 h4 ih1 ih2=>
  intro st w hw0 hw
  rw [Cn,Byd]
  refine A3n _ _ _ _ _ _ _ _ _ (Call.use (Bzq v st w) ⟨⟨rfl,rfl⟩, ?_⟩)
  rw [Cx]
  refine⟨fun h=> ?_,fun h=> ?_⟩
  ·rw [if_pos (ndT h)];exact⟨rfl,rfl⟩
  ·have h0:=ndF h
   rw [if_neg (by simpa using h0)]
   rw [List.length_map]
   refine Buj v h1 ih1 w hw0 (fun hc=>Biq h0 (.inl hc)) _ _ _ _ _ _ _ (fun he=> ?_) (fun he=> ?_) v.l.length 0 rfl (by rw [List.drop_zero])
   ·rw [if_pos he]
    exact Ayp _ _ ⟨rfl,rfl⟩
   ·rw [if_neg (by simpa using he)]
    refine Ayq _ _ _ _ _ _ _ _ (Awq _ _ _ _ _ _ _ _ ?_)
    rw [List.length_map]
    exact Bui v h2 ih2 w hw0 (fun hc=>Biq h0 (.inr hc)) _ (Ayo _ _ ⟨rfl,rfl⟩) v.d.length 0 [] [] rfl (fun x=>by simp [Cy]) (by rw [List.drop_zero])
theorem Buu(v:V)(hf:Fit v)(st:Bool):Call E0.P Ag6 [.imm (.agg v.row), .imm (.bool st)] [] (Is (.imm (.int .i64 (v.chk st 0))) []):=by
 have h:=Buy v hf st 0 (by decide) (by decide)
 rw [Cn]at h ⊢
 exact A3l _ _ _ _ _ _ _ _ (Call.use h ⟨⟨rfl,rfl⟩,⟨rfl,rfl⟩⟩)
end Go.Proofs.Sim.Se

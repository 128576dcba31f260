import Derived.Test.YtcdjheflchglaaaGreatDoorSeatGenW
import Derived.Test.YtcdjheflchglaaaGreatDoorPbA
import Derived.Test.YtcdjheflchglaaaGreatDoorWrL
import Derived.Test.YtcdjheflchglaaaGreatDoorZi
import Derived.Test.YtcdjheflchglaaaGreatDoorVsC
import Derived.Test.YtcdjheflchglaaaGreatDoorTryzShelf
import Derived.Lib.IndexAny
set_option maxRecDepth 100000
namespace Go.Proofs.Sim.Se
open Go Go.Proofs Go.Proofs.Sim Go.Proofs.Sim.Va Go.RowKit
theorem Bc6:∀n:Fin 16,(if(n:Nat)<10 then IntKind.u8.wrap (IntKind.i64.wrap ((48:Int)+((n:Nat):Int)))else IntKind.u8.wrap (IntKind.i64.wrap (IntKind.i64.wrap ((65:Int)+((n:Nat):Int)) - (10:Int))))=(((Acv n).toNat:Nat):Int):=by decide+kernel
theorem Wv(n:Nat)(hn:n≤15):Call E0.P Mg [.imm (.int .i64 (n:Int))] [] (Is (.imm (.int .u8 ((Acv n).toNat:Int))) []):=by
 have h:=Bc6 ⟨n,by omega⟩
 simp only at h
 refine Aph _ _ (Let.intro (Gb (orB _ _) (fun h=>by omega) fun _=>Cm (fun h1=> ?_) fun h1=> ?_))
 ·rw [if_pos (by omega)]at h;rw [h];exact⟨rfl,rfl⟩
 ·rw [if_neg (by omega)]at h;rw [h];exact⟨rfl,rfl⟩
theorem A0o(c:UInt8):c.toNat<256:=c.toNat_lt
theorem hi4(c:UInt8):IntKind.i64.wrap (((c.toNat:Nat):Int).fdiv ((2:Int) ^ (4:Nat)))=((c.toNat / 16:Nat):Int):=by
 have:=A0o c
 rw [Int.fdiv_eq_ediv_of_nonneg _ (by decide),Be _ (by omega) (by omega)];omega
theorem Bde:∀n:Fin 256,IntKind.i64.wrap (IntKind.u8.wrap (↑(BitVec.ofInt 8 ((n:Nat):Int) &&& BitVec.ofInt 8 (15:Int)).toNat:Int))=(((n:Nat) % 16:Nat):Int):=by decide+kernel
theorem lo4(c:UInt8):IntKind.i64.wrap (IntKind.u8.wrap (↑(BitVec.ofInt 8 ((c.toNat:Nat):Int) &&& BitVec.ofInt 8 (15:Int)).toNat:Int))=((c.toNat % 16:Nat):Int):=Bde ⟨c.toNat,A0o c⟩
abbrev Ba2(l:List (List IV)):Heap:=[(Nm.loc 3, .blk Bj [.self (Nm.loc 3), .own ((Nm.loc 3).cell 1)]),((Nm.loc 3).cell 1, .arr (Ak+2) true 1 l)]
theorem Bab(s:List UInt8)(hs:s.length≤1000000000)(K:Ex→St→Prop):∀(m i:Nat) (acc:List UInt8),m+i=s.length→acc.length≤2*i→K (.exit 0) ⟨[(3, .ptr (Nm.loc 3) 0)],Ba2 (A8 (acc++(s.drop i).flatMap Rb))⟩→
 Sq s s.length i (A8 acc) K:=by
 intro m
 induction m with
 |zero=>
  intro i acc hi ha hE
  refine Abx _ _ _ _ _ (Cm (fun h=>by omega) fun _=> ?_)
  rw [List.drop_of_length_le (by omega)]at hE
  simpa using hE
 |succ m ih=>
  intro i acc hi ha hE
  have hlt:i<s.length:=by omega
  have hc:=A0o s[i]
  refine Abx _ _ _ _ _ (Cm (fun _=> ?_) fun h=>by omega)
  rw [Mt s i hlt,hi4,lo4,Md i (by omega)]
  refine⟨⟨by omega,by omega⟩,⟨by decide,Call.use (Wv _ (by omega)) ⟨⟨rfl,rfl⟩, ?_⟩⟩⟩
  rw [Ar9,Vz,Vg,Vg]
  refine⟨⟨by omega,by omega⟩,⟨⟨by omega,by omega⟩,Call.use (Wv _ (by omega)) ⟨⟨rfl,rfl⟩, ?_⟩⟩⟩
  rw [Ar9,Vz]
  refine⟨by simp;omega,ih (i+1) _ (by omega) (by simp;omega) ?_⟩
  rw [Atc Rb s i hlt]at hE
  simpa [Rb] using hE
theorem Baq(s:List UInt8)(hs:s.length≤1000000000):Call E0.P Aaz [.imm (.str s)] [] (Is (.imm (.str (Ap9 s))) []):=by
 refine Apg _ _ ?_
 rw [Bc0]
 have hl:(s.flatMap Rb).length=2*s.length:=by
  clear hs
  induction s with
  |nil=>rfl
  |cons c s ih=>rw [List.flatMap_cons,List.length_append,ih];simp [Rb];omega
 refine Bab s hs _ s.length 0 [] rfl (by simp) ?_
 rw [List.drop_zero,List.nil_append]
 refine Alj _ _ (Akj _ _ ?_)
 rw [show([IV.int .u8 (62:Int)]:List IV)=[IV.int .u8 (((62:UInt8).toNat:Nat):Int)] from rfl,Vz,Vg,Vg,An2]
 exact⟨⟨by rw [hl];omega,by rw [hl];omega⟩,⟨⟨⟨rfl,by rw [List.length_append,hl];simp;omega⟩,Aek _⟩,Ali _ _ ⟨rfl,rfl⟩⟩⟩
end Go.Proofs.Sim.Se
set_option maxRecDepth 100000
namespace Go.Proofs.Sim.Se
open Go Go.Proofs Go.Proofs.Sim Go.Proofs.Sim.Va Go.RowKit
theorem Aqn(c:UInt8):Tc c=true↔32≤c.toNat∧c.toNat≤126:=by simp [Tc]
theorem Awj(c:UInt8):Arc c=true↔32≤c.toNat∧c.toNat≤126∧W9 (c.toNat:Int)=2∧c.toNat≠35:=by simp [Arc]
theorem A19(c:UInt8):Call E0.P Wz [.imm (.int .u8 (c.toNat:Int))] [] (Is (.imm (.bool (Tc c))) []):=by
 refine Aq4 _ _ (Let.intro ?_)
 have:(bif decide ((32:Int)≤(c.toNat:Int))then decide ((c.toNat:Int)≤126)else false)=Tc c:=by
  rw [Bool.eq_iff_iff,Aqn,cond_eq_ite]
  split
  ·rename_i h
   have h:=of_decide_eq_true h
   rw [decide_eq_true_iff];omega
  ·rename_i h
   have h:¬(32:Int)≤(c.toNat:Int):=fun h'=>h (decide_eq_true h')
   constructor
   ·intro h';cases h'
   ·intro h';omega
 rw [this];exact⟨rfl,rfl⟩
theorem Amv(c:UInt8):(Lx c).length≤3:=by unfold Lx;split<;>simp [Rb]
theorem Ap4(c:UInt8):(Mv c).length≤2:=by unfold Mv;split<;>simp
theorem Arq(f:UInt8→List UInt8)(k:Nat)(h:∀c,(f c).length≤k)(s:List UInt8):(s.flatMap f).length≤k*s.length:=by
 induction s with
 |nil=>simp
 |cons c s ih=>
  have:=h c
  rw [List.flatMap_cons,List.length_append,List.length_cons,Nat.mul_succ];omega
theorem A15(s:List UInt8)(hs:s.length≤1000000000)(K:Ex→St→Prop)(i:Nat)(hi:i<s.length)(acc:List UInt8)(h:J3 s s.length ((i+1:Nat):Int) (A8 acc) K):Si s s.length i (A8 acc) (Mf K):=by
 refine Alf _ _ _ _ _ ?_
 rw [Md i (by omega)]
 exact Aow _ _ _ _ _ h
theorem Bai(s:List UInt8)(hs:s.length≤1000000000)(K:Ex→St→Prop)(i:Nat)(hi:i<s.length)(acc:List UInt8)(ha:acc.length≤3*i+1)(b:Bool)(hb:b=Arc s[i])
 (h:J3 s s.length ((i+1:Nat):Int) (A8 (acc++Lx s[i])) K):Sg s (s[i].toNat:Int) s.length i b (A8 acc) (Pm K):=by
 have hc:=A0o s[i]
 have h35:([IV.int .u8 (35:Int)]:List IV)=[IV.int .u8 (((35:UInt8).toNat:Nat):Int)]:=rfl
 refine Ald _ _ _ _ _ _ _ ⟨fun e=> ?_,fun e=> ?_⟩
 ·rw [Lx, ←hb,if_pos e]at h
  rw [Vg,Vz]
  exact⟨⟨by omega,by omega⟩,Aoy _ _ _ _ _ (A15 s hs K i hi _ h)⟩
 ·rw [Lx, ←hb,if_neg (by rw [e];decide)]at h
  refine Aoz _ _ _ _ _ _ (Ale _ _ _ _ _ _ ?_)
  rw [hi4,lo4,h35,Vz,Vg,Vg]
  refine⟨⟨by omega,by omega⟩,⟨by decide,Call.use (Wv _ (by omega)) ⟨⟨rfl,rfl⟩, ?_⟩⟩⟩
  rw [Ar9,Vz,Vg]
  refine⟨by simp;omega,Call.use (Wv _ (by omega)) ⟨⟨rfl,rfl⟩,⟨by simp;omega, ?_⟩⟩⟩
  rw [Ar9,Vz]
  refine Aox _ _ _ _ _ (A15 s hs K i hi _ ?_)
  simpa [Rb] using h
theorem A77(s:List UInt8)(hs:s.length≤1000000000)(K:Ex→St→Prop):∀(m i:Nat) (acc:List UInt8),m+i=s.length→acc.length≤3*i+1→K (.exit 0) ⟨[(3, .ptr (Nm.loc 3) 0)],Ba2 (A8 (acc++(s.drop i).flatMap Lx))⟩→
 J3 s s.length i (A8 acc) K:=by
 intro m
 induction m with
 |zero=>
  intro i acc hi ha hE
  refine Adm _ _ _ _ _ (Cm (fun h=>by omega) fun _=> ?_)
  rw [List.drop_of_length_le (by omega)]at hE
  simpa using hE
 |succ m ih=>
  intro i acc hi ha hE
  have hlt:i<s.length:=by omega
  refine Adm _ _ _ _ _ (Cm (fun _=> ?_) fun h=>by omega)
  rw [Mt s i hlt]
  have hn:J3 s s.length ((i+1:Nat):Int) (A8 (acc++Lx s[i])) K:=by
   have:=Amv s[i]
   refine ih (i+1) _ (by omega) (by simp;omega) ?_
   rw [Atc Lx s i hlt]at hE
   simpa using hE
  refine⟨⟨by omega,by omega⟩,Call.use (A19 s[i]) ⟨⟨rfl,rfl⟩, ?_⟩⟩
  rw [Ny]
  refine⟨fun h=> ?_,fun h=>⟨rfl,Let.intro (Let.intro ?_)⟩⟩
  ·have h1:=(Aqn _).1 (eq_of_beq h)
   refine Call.use (Al5 _) ⟨⟨rfl,rfl⟩,Let.intro (Let.intro (Bai s hs K i hlt acc ha _ ?_ hn))⟩
   rw [G9,Bool.eq_iff_iff,Awj,cond_eq_ite]
   split
   ·rename_i h2
    have h2:=of_decide_eq_true h2
    simp [h1,h2];omega
   ·rename_i h2
    constructor
    ·intro h3;cases h3
    ·intro h3;exact absurd (decide_eq_true h3.2.2.1) h2
  ·refine Bai s hs K i hlt acc ha _ ?_ hn
   rw [Bool.eq_iff_iff,Awj]
   constructor
   ·intro h3;cases h3
   ·intro h3
    have:Tc s[i]=true:=(Aqn _).2 ⟨h3.1,h3.2.1⟩
    rw [this]at h;cases h
theorem Al7(s:List UInt8)(hs:s.length≤1000000000):Call E0.P Wy [.imm (.str s)] [] (Is (.imm (.str (Df s))) []):=by
 have hl:=Arq Lx 3 Amv s
 refine Aq2 _ _ ⟨⟨by decide,by decide⟩, ?_⟩
 refine A77 s hs _ s.length 0 [47] rfl (by simp) ?_
 rw [List.drop_zero]
 refine Aov _ _ (Alg _ _ ?_)
 rw [An2,Vg]
 exact⟨⟨⟨rfl,by simp only [List.length_append,List.length_cons,List.length_nil];omega⟩,Aek _⟩,Aou _ _ ⟨rfl,rfl⟩⟩
theorem Azy(s:List UInt8):(Ap9 s).length=2*s.length+1:=by
 have:(s.flatMap Rb).length=2*s.length:=by
  induction s with
  |nil=>rfl
  |cons c s ih=>rw [List.flatMap_cons,List.length_append,ih];simp [Rb];omega
 rw [Ap9,List.length_append,this];rfl
theorem A9d(s:List UInt8)(i:Nat)(h:i<s.length)(hc:Tc s[i]=false):s.all Tc=false:=by
 rw [Bool.eq_false_iff]
 intro ha
 rw [List.all_eq_true]at ha
 have:=ha s[i] (List.getElem_mem h)
 rw [hc]at this;cases this
theorem A8v(c:UInt8):((bif (bif decide ((c.toNat:Int)=40)then true else decide ((c.toNat:Int)=41))then true else decide ((c.toNat:Int)=92))=true)↔(c=40∨c=41∨c=92):=by
 have e:∀n:UInt8,c=n↔c.toNat=n.toNat:=fun n=>⟨fun h=>h ▸ rfl,UInt8.toNat_inj.1⟩
 rw [Ajx,orB,e,e,e]
 show _↔(c.toNat=40∨c.toNat=41∨c.toNat=92)
 omega
theorem A4q(s:List UInt8)(hs:s.length≤1000000000)(Q:AV→Heap→Prop)(hQ:Q (.imm (.str (Xe s))) []):∀(m i:Nat) (acc:List UInt8),m+i=s.length→acc.length≤2*i+1→(∀c∈s.take i,Tc c=true)→acc++(s.drop i).flatMap Mv=40::s.flatMap Mv→
 K9 s s.length i (A8 acc) (Oc Q):=by
 intro m
 induction m with
 |zero=>
  intro i acc hi ha hall hE
  refine Ab0 _ _ _ _ _ (Cm (fun h=>by omega) fun _=> ?_)
  rw [List.drop_of_length_le (by omega)]at hE
  rw [List.take_of_length_le (by omega)]at hall
  have hl:=Arq Mv 2 Ap4 s
  have hE:acc=40::s.flatMap Mv:=by simpa using hE
  rw [Xe,if_pos (List.all_eq_true.2 hall), ←hE]at hQ
  refine Al0 _ _ (Akq _ _ ?_)
  rw [show([IV.int .u8 (41:Int)]:List IV)=[IV.int .u8 (((41:UInt8).toNat:Nat):Int)] from rfl,Vz,Vg,Vg,An2]
  exact⟨⟨by omega,by omega⟩,⟨⟨⟨rfl,by simp;omega⟩,Aek _⟩,Aly _ _ hQ⟩⟩
 |succ m ih=>
  intro i acc hi ha hall hE
  have hlt:i<s.length:=by omega
  refine Ab0 _ _ _ _ _ (Cm (fun _=> ?_) fun h=>by omega)
  rw [Mt s i hlt,Md i (by omega)]
  refine⟨⟨by omega,by omega⟩,Call.use (A19 s[i]) ⟨⟨rfl,rfl⟩, ?_⟩⟩
  rw [Ny]
  refine⟨fun h=> ?_,fun h=> ?_⟩
  ·have h:Tc s[i]=false:=by simpa using h
   rw [Xe,if_neg (by rw [A9d s i hlt h];decide)]at hQ
   have:=Azy s
   refine Call.use (Baq s hs) ⟨⟨rfl,rfl⟩,⟨?_,Alz _ _ hQ⟩⟩
   show(((1+(Ap9 s).length:Nat):Int))≤_
   omega
  ·have h:Tc s[i]=true:=by simpa using h
   have hall':=A41 (P:=fun c:UInt8=>Tc c=true) _ _ hlt hall h
   rw [Atc Mv s i hlt]at hE
   have hel:=Ap4 s[i]
   have hn:K9 s s.length ((i+1:Nat):Int) (A8 (acc++Mv s[i])) (Oc Q):=ih (i+1) _ (by omega) (by simp;omega) hall' (by rw [List.append_assoc];exact hE)
   refine Let.intro (Let.intro (Gb (A8v _) (fun e=> ?_) fun e=> ?_))
   ·rw [Mv,if_pos e]at hn
    rw [show([IV.int .u8 (92:Int)]:List IV)=[IV.int .u8 (((92:UInt8).toNat:Nat):Int)] from rfl,Vz,Vg,Vg,Vz]
    refine⟨⟨by omega,by omega⟩,⟨by simp;omega, ?_⟩⟩
    simpa using hn
   ·rw [Mv,if_neg e]at hn
    rw [Vz,Vg]
    exact⟨⟨by omega,by omega⟩,hn⟩
theorem Ava(s:List UInt8)(hs:s.length≤1000000000):Call E0.P Aa0 [.imm (.str s)] [] (Is (.imm (.str (Xe s))) []):=
 Apn _ _ ⟨⟨by decide,by decide⟩,A4q s hs _ ⟨rfl,rfl⟩ s.length 0 [40] rfl (by simp) (by simp) (by simp)⟩
end Go.Proofs.Sim.Se
set_option maxRecDepth 100000
namespace Go.Proofs.Sim.Se
open Go Go.Proofs Go.Proofs.Sim Go.Proofs.Sim.Va Go.RowKit
abbrev A6u(v:V):List IV:=[.int .i64 v.k, .int .i64 v.n, .int .i64 v.g, .str v.s, .sl .any 6 (v.l.map V.row), .sl .any 7 (v.d.map C9)]
theorem Ama {b:Bool} {p:Prop} {A B:Prop} (hb:b=true↔p)(h1:¬p→A)(h2:p→B):Br (b == false) A B:=by
 cases b with
 |true=>exact⟨fun h=>absurd h (by decide),fun _=>h2 (hb.1 rfl)⟩
 |false=>exact⟨fun _=>h1 (fun hp=>by cases hb.2 hp),fun h=>absurd h (by decide)⟩
theorem Ba4 {A B:Prop} (h:A):Br true A B:=⟨fun _=>h,fun h=>absurd h (by decide)⟩
theorem Ahz {A B:Prop} (h:B):Br (true == false) A B:=⟨fun h=>absurd h (by decide),fun _=>h⟩
theorem Ak4(s:List UInt8):Call E0.P Zn [.imm (.str s), .imm (.int .u8 0)] [] (Is (.imm (.int .i64 (Lib.indexByte s 0))) []):=by
 refine Q3 Tryz.func69 (by kernel_rfl) (by kernel_rfl) [.str s, .int .u8 0] _ fun g w vs hv hs=> ?_
 obtain⟨v,u,rfl,hr,hu⟩:=A1n hv
 obtain rfl:=Aj1 hr
 obtain rfl:=X9 hu
 refine(Tryz.strings_IndexByte ⟨s.toArray⟩ 0 w).mono ?_
 rintro e w' ⟨rfl,rfl⟩
 exact⟨_, .imm (.int .i64 (Lib.indexByte s 0)),rfl,Below.refl _ _, .imm _ _ (.int _ _),rfl,rfl⟩
theorem A7m(s:List UInt8):Call E0.P Ua [.imm (.str s)] [] (Is (.imm (.bool (decide ((0:UInt8)∈s)))) []):=by
 refine Asr _ _ (Call.use (Ak4 s) ⟨⟨rfl,rfl⟩, ?_⟩)
 have:decide ((0:Int)≤Lib.indexByte s 0)=decide ((0:UInt8)∈s):=by
  rw [←Lib.contains_iff_indexByte];simp
 rw [G9,this]
 exact⟨rfl,rfl⟩
theorem A17(v:V):Call E0.P Ra [.imm (.agg (A6u v)), .imm (.agg [.bool (hN v.k), .bool (hG v.k), .bool (hS v.k), .bool (hL v.k), .bool (hD v.k)])] [] (Is (.imm (.bool (decide (Hr v)))) []):=by
 have hk:∀(p:Prop) [Decidable p],(!decide p)=true↔¬p:=fun p _=>by simp
 have i0:((bif !hN v.k then !decide (v.n=0)else false)=true)↔(v.n≠0∧¬(v.k=1∨v.k=2∨v.k=7)):=by
  rw [hN];by_cases a:v.k=1∨v.k=2∨v.k=7<;>simp [a]
 have i1:((bif !hG v.k then !decide (v.g=0)else false)=true)↔(v.g≠0∧v.k≠7):=by
  rw [hG];by_cases a:v.k=7<;>simp [a]
 have i2:((bif !hS v.k then !v.s == []else false)=true)↔(v.s≠[]∧¬(v.k=3∨v.k=4∨v.k=8)):=by
  rw [hS];by_cases a:v.k=3∨v.k=4∨v.k=8<;>simp [a]
 have i3:((bif !hL v.k then decide ((0:Int)<((v.l.map V.row).length:Int))else false)=true)↔(0<v.l.length∧v.k≠5):=by
  rw [hL,List.length_map];by_cases a:v.k=5<;>simp [a]
 have i4:((bif !hD v.k then decide ((0:Int)<((v.d.map C9).length:Int))else false)=true)↔(0<v.d.length∧¬(v.k=6∨v.k=8)):=by
  rw [hD,List.length_map];by_cases a:v.k=6∨v.k=8<;>simp [a]
 have yes:Hr v→Is (.imm (.bool (decide (Hr v)))) [] (.imm (.bool true)) []:=fun h=>by rw [decide_eq_true h];exact⟨rfl,rfl⟩
 refine Alh _ _ _ _ _ _ _ _ _ _ _ _ (Let.intro (Ama i0 (fun n0=> ?_) fun y=>⟨rfl,Let.intro (Ahz ⟨rfl,Let.intro (Ahz ⟨rfl,Let.intro (Ahz ⟨rfl,Let.intro (yes (.inl y))⟩)⟩)⟩)⟩))
 refine Let.intro (Let.intro (Ama i1 (fun n1=> ?_) fun y=>⟨rfl,Let.intro (Ahz ⟨rfl,Let.intro (Ahz ⟨rfl,Let.intro (yes (.inr (.inl y)))⟩)⟩)⟩))
 refine Let.intro (Let.intro (Ama i2 (fun n2=> ?_) fun y=>⟨rfl,Let.intro (Ahz ⟨rfl,Let.intro (yes (.inr (.inr (.inl y))))⟩)⟩))
 refine Let.intro (Let.intro (Ama i3 (fun n3=> ?_) fun y=>⟨rfl,Let.intro (yes (.inr (.inr (.inr (.inl y)))))⟩))
 refine Let.intro (Let.intro ?_)
 have:(bif !hD v.k then decide ((0:Int)<((v.d.map C9).length:Int))else false)=decide (Hr v):=by
  rw [Bool.eq_iff_iff,i4,Cf,Hr]
  exact⟨fun h=> .inr (.inr (.inr (.inr h))),fun h=>by
   rcases h with h |h |h |h |h
   ·exact absurd h n0
   ·exact absurd h n1
   ·exact absurd h n2
   ·exact absurd h n3
   ·exact h⟩
 rw [this]
 exact⟨rfl,rfl⟩
theorem A4s(v:V):Call E0.P Zo [.imm (.agg (A6u v))] [] (Is (.imm (.bool (decide (Nt v)))) []):=by
 have fin:∀b:Bool,(b=true↔Nt v)→Is (.imm (.bool (decide (Nt v)))) [] (.imm (.bool b)) []:=by
  intro b hb
  have:b=decide (Nt v):=by rw [Bool.eq_iff_iff,hb,Cf]
  rw [this];exact⟨rfl,rfl⟩
 refine Aof _ _ _ _ _ _ _ (Cm (fun h=>⟨by decide,fin _ ?_⟩) fun h1=>Cm (fun h=>Let.intro (fin _ ?_)) fun h2=>Cm (fun h=>Let.intro (Let.intro (Let.intro (fin _ ?_)))) fun h7=>fin _ ?_)
 ·rw [Int.fdiv_eq_ediv_of_nonneg _ (by decide),Nt]
  simp only [Bool.not_eq_true',decide_eq_false_iff_not]
  omega
 ·rw [orB,Nt];omega
 ·rw [Ajx,Ajx,orB,Nt];omega
 ·rw [Nt]
  constructor
  ·intro h;cases h
  ·intro h;omega
theorem A1j(v:V)(st:Bool)(w:Int)(b:Bool)(hk:¬((v.k<0∨8<v.k)∨(v.k=8∧st=false)))(hb:b=true↔(Hr v∨(v.k=3∧(0:UInt8)∈v.s)))(Q:AV→Heap→Prop)(hQ:Q (.imm (.int .i64 (X7 v st w))) [])(x0 x1 x2:Bool):
 Jh w b v.k v.n v.g v.s (v.l.map V.row) (v.d.map C9) x0 x1 x2 (hL v.k) (hD v.k) (Hd Q):=by
 rw [X7,if_neg hk]at hQ
 have ret:∀n:Int,Q (.imm (.int .i64 n)) []→Hd Q .ret ⟨[(6, .imm (.int .i64 n))],[]⟩:=fun n h=>Apz _ _ h
 have i9:((bif (bif hL v.k then true else hD v.k)then decide ((64:Int)≤w)else false)=true)↔((v.k=5∨v.k=6∨v.k=8)∧64≤w):=by
  rw [hL,hD]
  by_cases a:v.k=5
  ·simp [a]
  ·by_cases c:v.k=6∨v.k=8<;>simp [a,c]
 have l8:∀n:Nat,((127:Int)<(n:Int)↔127<n)∧((65535:Int)<(n:Int)↔65535<n)∧((1048576:Int)<(n:Int)↔1048576<n):=fun n=>⟨by omega,by omega,by omega⟩
 obtain⟨q1,q2,q3⟩:=l8 v.s.length
 refine Apf _ _ _ _ _ _ _ _ _ _ _ _ _ _ (Gb hb (fun h=>ret _ ?_) fun h4=>Call.use (A4s v) ⟨⟨rfl,rfl⟩,Gb (p:=Nt v) (by rw [Ny];exact Cf) (fun h=>ret _ ?_) fun h3=> ?_⟩)
 ·rw [if_pos h]at hQ;exact hQ
 ·rw [if_neg h4,if_pos h]at hQ;exact hQ
 rw [if_neg h4,if_neg h3]at hQ
 refine Let.intro (Ama (p:=v.k=3∧127<v.s.length) (by rw [Q0,q1]) (fun a1=>Let.intro (Let.intro (Gb (p:=v.k=4∧65535<v.s.length) (by rw [Q0,q2]) (fun h=>ret _ ?_) fun a2=> ?_))) fun h=>⟨rfl,Let.intro (Ba4 (ret _ ?_))⟩)
 ·rw [if_pos (.inr h)]at hQ;exact hQ
 ·rw [if_neg (fun h=>h.elim a1 a2)]at hQ
  refine Let.intro (Gb (p:=v.k=8∧1048576<v.s.length) (by rw [Q0,q3]) (fun h=>ret _ ?_) fun a3=>Let.intro (Let.intro (Gb i9 (fun h=>ret _ ?_) fun a4=>Ap0 _ (An9 _ (Apy _ _ ?_)))))
  ·rw [if_pos h]at hQ;exact hQ
  ·rw [if_neg a3,if_pos h]at hQ;exact hQ
  ·rw [if_neg a3,if_neg a4]at hQ;exact hQ
 ·rw [if_pos (.inl h)]at hQ;exact hQ
theorem Bci(v:V)(st:Bool)(w:Int):Call E0.P Afw [.imm (.agg (A6u v)), .imm (.bool st), .imm (.int .i64 w)] [] (Is (.imm (.int .i64 (X7 v st w))) []):=by
 have ih:Yg v.k=true↔(0≤v.k∧v.k≤8):=by simp [Yg]
 refine Ass _ _ _ _ _ _ _ _ _ (Call.use (A7k v.k) ⟨⟨rfl,rfl⟩,Ama (p:=v.k<0∨8<v.k) ?_ (fun hk=>Let.intro (Let.intro (Gb (p:=v.k=8∧st=false) ?_ (fun h=> ?_) fun h8=> ?_))) fun h=>⟨rfl,Let.intro (Ba4 ?_)⟩⟩)
 ·show(!Yg v.k)=true↔_
  rw [Bool.not_eq_true', ←Bool.not_eq_true,ih];omega
 ·by_cases a:v.k=8<;>cases st<;>simp [a]
 ·rw [X7,if_pos (.inr h)];exact⟨rfl,rfl⟩
 ·have hk':¬((v.k<0∨8<v.k)∨(v.k=8∧st=false)):=fun h=>h.elim hk h8
  refine Call.use (A17 v) ⟨⟨rfl,rfl⟩,Ama (p:=Hr v) (by rw [Ny];exact Cf) (fun e=> ?_) fun e=>⟨rfl,Let.intro (A1j v st w _ hk' ⟨fun _=> .inl e,fun _=>rfl⟩ _ ⟨rfl,rfl⟩ _ _ _)⟩⟩
  refine⟨fun h=> ?_,fun h=>⟨rfl,Let.intro (Let.intro (A1j v st w _ hk' ⟨fun h=>(by cases h),fun h'=> ?_⟩ _ ⟨rfl,rfl⟩ _ _ _))⟩⟩
  ·have h3:=of_decide_eq_true (eq_of_beq h)
   refine Call.use (A7m v.s) ⟨⟨rfl,rfl⟩,Let.intro (Let.intro (A1j v st w _ hk' ?_ _ ⟨rfl,rfl⟩ _ _ _))⟩
   rw [Ny,Cf]
   exact⟨fun h=> .inr ⟨h3,h⟩,fun h=>h.elim (fun h=>absurd h e) fun h=>h.2⟩
  ·exfalso
   rcases h' with h' |h'
   ·exact e h'
   ·rw [decide_eq_true h'.1]at h;cases h
 ·rw [X7,if_pos (.inl h)];exact⟨rfl,rfl⟩
theorem Ax9 {v:V} {st:Bool} {w:Int} (h:X7 v st w=0)(hc:0<v.l.length∨0<v.d.length):w<64:=by
 unfold X7 at h
 split at h
 ·cases h
 split at h
 ·cases h
 split at h
 ·cases h
 split at h
 ·cases h
 split at h
 ·cases h
 split at h
 ·cases h
 ·rename_i h4 _ _ _ h9
  have hx:¬Hr v:=fun h=>h4 (.inl h)
  rw [Hr]at hx
  omega
end Go.Proofs.Sim.Se
set_option maxRecDepth 100000
namespace Go.Proofs.Sim.Se
open Go Go.Proofs Go.Proofs.Sim Go.Proofs.Sim.Va Go.RowKit
theorem A3k(m:List (List UInt8 × Int))(k:List UInt8)(v:Int)(x:List UInt8):Dm (Vi m k v) x=if x=k then v else Dm m x:=by
 induction m with
 |nil=>rw [Vi,Dm];rfl
 |cons a m ih=>
  obtain⟨k0,u⟩:=a
  rw [Vi]
  by_cases h:k=k0
  ·subst h
   rw [if_pos rfl,Dm,Dm]
   by_cases hx:x=k
   ·simp [hx]
   ·simp [hx]
  ·rw [if_neg h,Dm,Dm,ih]
   by_cases hx:x=k0
   ·subst hx
    simp [Ne.symm h]
   ·simp [hx]
theorem ndT {p:Prop} {i:Decidable p} (h:(!@decide p i)=true):¬p:=by
 intro hp
 rw [@decide_eq_true p i hp]at h;cases h
theorem ndF {p:Prop} {i:Decidable p} (h:(!@decide p i)=false):p:=by
 cases hd: @decide p i with
 |true=>exact of_decide_eq_true hd
 |false=>rw [hd]at h;cases h
theorem Bbs(p:Pr):gS (C9 p) 0=p.1:=by rw [Nw];rfl
abbrev CheckAt(v:V):Prop:=∀(st:Bool) (w:Int),0≤w→w≤64→Call E0.P P5 [.imm (.agg v.row), .imm (.bool st), .imm (.int .i64 w)] [] (Is (.imm (.int .i64 (v.chk st w))) [])
theorem A75(v:V)(hl:v.l.length≤1000000000000)(ih:∀x∈v.l,CheckAt x)(w:Int)(hw0:0≤w)(hw:0<v.l.length→w<64)(a b c:Int)(s:List UInt8)(p q:List (List IV))(K:Ex→St→Prop)
 (hR:X5 (v.l.map fun x=>x.chk false (w+1))≠0→K .ret ⟨[(6, .imm (.int .i64 (X5 (v.l.map fun x=>x.chk false (w+1)))))],[]⟩)
 (hE:X5 (v.l.map fun x=>x.chk false (w+1))=0→K (.exit 0) ⟨[(2, .imm (.int .i64 w)),(3, .ptr (Nm.loc 3) 0)],[(Nm.loc 3, .blk Ae [.imm (.int .i64 a), .imm (.int .i64 b), .imm (.int .i64 c), .imm (.str s), .imm (.sl .any 6 p), .imm (.sl .any 7 q)])]⟩):
 ∀(m i:Nat),m+i=v.l.length→X5 (v.l.map fun x=>x.chk false (w+1))=X5 ((v.l.drop i).map fun x=>x.chk false (w+1))→Sv w (Rx v.l) v.l.length i a b c s p q K:=by
 intro m
 induction m with
 |zero=>
  intro i hi he
  refine Abz _ _ _ _ _ _ _ _ _ _ _ (Cm (fun h=>by omega) fun _=> ?_)
  rw [List.drop_of_length_le (by omega)]at he
  exact hE he
 |succ m ihm=>
  intro i hi he
  have hlt:i<v.l.length:=by omega
  have hm:Wp v.l i∈v.l:=by simp [Wp,List.getD_eq_getElem?_getD,hlt]
  have hd:v.l.drop i=Wp v.l i::v.l.drop (i+1):=by rw [List.drop_eq_getElem_cons hlt];simp [Wp,List.getD_eq_getElem?_getD,hlt]
  have hw:=hw (by omega)
  refine Abz _ _ _ _ _ _ _ _ _ _ _ (Cm (fun _=> ?_) fun h=>by omega)
  rw [show(Rx v.l).getD (Int.toNat (i:Int)) []=(Wp v.l i).row from Air _ _ hlt,Ow,U9,Md i (by omega),Be _ (by omega) (by omega)]
  refine⟨⟨⟨by omega,by omega⟩,Ais _ _ _⟩,Call.use (ih _ hm false (w+1) (by omega) (by omega)) ⟨⟨rfl,rfl⟩, ?_⟩⟩
  rw [G9]
  rw [hd,List.map_cons,X5]at he
  refine⟨fun h=> ?_,fun h=>ihm (i+1) (by omega) ?_⟩
  ·have h:=ndT h
   rw [if_pos h]at he
   rw [he]at hR
   exact hR h
  ·have h:=ndF h
   rw [if_neg (by simpa using h)]at he
   exact he
theorem A74(v:V)(hl:v.d.length≤1000000000000)(ih:∀x∈v.d,CheckAt x.2)(w:Int)(hw0:0≤w)(hw:0<v.d.length→w<64)(K:Ex→St→Prop)
 (hR:K .ret ⟨[(6, .imm (.int .i64 (Ahe [] (v.d.map fun x=>(x.1,x.2.chk false (w+1))))))],[]⟩):
 ∀(m i:Nat) (seen:List Ky) (M:List (List UInt8 × Int)),m+i=v.d.length→(∀x,Dm M x=if x∈seen then 1 else 0)→
  Ahe [] (v.d.map fun x=>(x.1,x.2.chk false (w+1)))=Ahe seen ((v.d.drop i).map fun x=>(x.1,x.2.chk false (w+1)))→Qv w (Bz v.d) v.d.length i M (K3 K):=by
 intro m
 induction m with
 |zero=>
  intro i seen M hi hM he
  refine Aaf _ _ _ _ _ _ (Cm (fun h=>by omega) fun _=> ?_)
  rw [List.drop_of_length_le (by omega)]at he
  rw [he]at hR
  exact Alu _ (Akp _ (Alt _ _ hR))
 |succ m ihm=>
  intro i seen M hi hM he
  have hlt:i<v.d.length:=by omega
  have hm:Cn v.d i∈v.d:=by simp [Cn,List.getD_eq_getElem?_getD,hlt]
  have hd:v.d.drop i=Cn v.d i::v.d.drop (i+1):=by rw [List.drop_eq_getElem_cons hlt];simp [Cn,List.getD_eq_getElem?_getD,hlt]
  have hw:=hw (by omega)
  obtain⟨p,hp⟩:∃p,Cn v.d i=p:=⟨_,rfl⟩
  rw [hp]at hm hd
  refine Aaf _ _ _ _ _ _ (Cm (fun _=> ?_) fun h=>by omega)
  rw [show(Bz v.d).getD (Int.toNat (i:Int)) []=C9 (Cn v.d i) from Anz _ _ hlt,hp,Bbs,Bc]
  rw [hd,List.map_cons,Ahe]at he
  have i2:∀b:Bool,(b=true↔Ii p.1)→(((bif b then true else decide ((0:Int)<Dm M p.1))=true)↔(Ii p.1∨p.1∈seen)):=by
   intro b hb
   rw [Ajx,hb,hM]
   by_cases h:p.1∈seen<;>simp [h]
  have bad:(Ii p.1∨p.1∈seen)→K3 K .ret ⟨[(6, .imm (.int .i64 11))],[]⟩:=by
   intro h
   rw [if_pos h]at he
   rw [he]at hR
   exact Abw _ _ hR
  have good:¬(Ii p.1∨p.1∈seen)→Qn w (Bz v.d) v.d.length i M p.1 (gI (C9 p) 1) (gI (C9 p) 2) (gI (C9 p) 3) (gS (C9 p) 4) (gR (C9 p) 5) (gR (C9 p) 6) (Ob (K3 K)):=by
   intro h
   rw [if_neg h]at he
   refine Akn _ _ _ _ _ _ _ _ _ _ _ _ _ ?_
   rw [Aca,Be (w+1) (by omega) (by omega)]
   refine Call.use (ih _ hm false (w+1) (by omega) (by omega)) ⟨⟨rfl,rfl⟩, ?_⟩
   rw [G9]
   refine⟨fun h2=> ?_,fun h2=> ?_⟩
   ·rw [if_pos (ndT h2)]at he
    rw [he]at hR
    exact Alw _ _ (Abw _ _ hR)
   ·rw [if_neg (by simpa using ndF h2)]at he
    refine Alx _ _ _ _ _ _ (Ako _ _ _ _ _ _ ?_)
    rw [Md i (by omega)]
    refine Alv _ _ _ _ _ _ (ihm (i+1) (seen++[p.1]) _ (by omega) (fun x=> ?_) he)
    rw [A3k,hM,hM,if_neg (show ¬p.1∈seen from fun h3=>h (.inr h3))]
    by_cases hx:x=p.1
    ·rw [if_pos hx,if_pos (by rw [hx];simp)];rfl
    ·rw [if_neg hx]
     by_cases h4:x∈seen
     ·rw [if_pos h4,if_pos (by simp [h4])]
     ·rw [if_neg h4,if_neg (by simp [h4,hx])]
  refine⟨⟨⟨by omega,by omega⟩,Fv _ _ _⟩,Ama (p:=127<p.1.length) (by rw [Cf];omega) (fun h1=>Call.use (A7m _) ⟨⟨rfl,rfl⟩,Let.intro (Let.intro (Gb (i2 _ ?_) bad good))⟩) fun h1=>⟨rfl,Let.intro (Let.intro (Gb (i2 _ ?_) bad good))⟩⟩
  ·rw [Ny,Cf,Ii]
   exact⟨fun h=> .inr h,fun h=>h.elim (fun h=>absurd h h1) id⟩
  ·exact⟨fun _=> .inl h1,fun _=>rfl⟩
theorem A78(v:V)(hf:Fit v):CheckAt v:=by
 induction hf with
 |mk v h1 h2 h3 h4 ih1 ih2=>
  intro st w hw0 hw
  rw [Ha,A2j]
  refine Apm _ _ _ _ _ _ _ _ _ (Call.use (Bci v st w) ⟨⟨rfl,rfl⟩, ?_⟩)
  rw [G9]
  refine⟨fun h=> ?_,fun h=> ?_⟩
  ·rw [if_pos (ndT h)];exact⟨rfl,rfl⟩
  ·have h0:=ndF h
   rw [if_neg (by simpa using h0)]
   rw [List.length_map]
   refine A75 v h1 ih1 w hw0 (fun hc=>Ax9 h0 (.inl hc)) _ _ _ _ _ _ _ (fun he=> ?_) (fun he=> ?_) v.l.length 0 rfl (by rw [List.drop_zero])
   ·rw [if_pos he]
    exact Alr _ _ ⟨rfl,rfl⟩
   ·rw [if_neg (by simpa using he)]
    refine Als _ _ _ _ _ _ _ _ (Akm _ _ _ _ _ _ _ _ ?_)
    rw [List.length_map]
    exact A74 v h2 ih2 w hw0 (fun hc=>Ax9 h0 (.inr hc)) _ (Alq _ _ ⟨rfl,rfl⟩) v.d.length 0 [] [] rfl (fun x=>by simp [Dm]) (by rw [List.drop_zero])
theorem Azk(v:V)(hf:Fit v)(st:Bool):Call E0.P U1 [.imm (.agg v.row), .imm (.bool st)] [] (Is (.imm (.int .i64 (v.chk st 0))) []):=by
 have h:=A78 v hf st 0 (by decide) (by decide)
 rw [Ha]at h ⊢
 exact Apk _ _ _ _ _ _ _ _ (Call.use h ⟨⟨rfl,rfl⟩,⟨rfl,rfl⟩⟩)
end Go.Proofs.Sim.Se

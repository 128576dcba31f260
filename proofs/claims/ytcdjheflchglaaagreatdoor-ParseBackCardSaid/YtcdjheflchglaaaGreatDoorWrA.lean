import Derived.Test.YtcdjheflchglaaaGreatDoorSeatGenW
import Derived.Test.YtcdjheflchglaaaGreatDoorPbA
import Derived.Test.YtcdjheflchglaaaGreatDoorWrL
import Derived.Test.YtcdjheflchglaaaGreatDoorZi
import Derived.Test.YtcdjheflchglaaaGreatDoorVsC
import Derived.Test.YtcdjheflchglaaaGreatDoorTryzShelf
import Derived.Lib.IndexAny
set_option maxRecDepth 100000
namespace Go.Proofs.Sim.Se
open Go Go.Proofs Go.Proofs.Sim Go.Proofs.Sim.Va Go.RowKit
theorem Bfu:∀n:Fin 16,(if(n:Nat)<10 then IntKind.u8.wrap (IntKind.i64.wrap ((48:Int)+((n:Nat):Int)))else IntKind.u8.wrap (IntKind.i64.wrap (IntKind.i64.wrap ((65:Int)+((n:Nat):Int)) - (10:Int))))=(((Acw n).toNat:Nat):Int):=by decide+kernel
theorem Wv(n:Nat)(hn:n≤15):Call E0.P Mj [.imm (.int .i64 (n:Int))] [] (Is (.imm (.int .u8 ((Acw n).toNat:Int))) []):=by
 have h:=Bfu ⟨n,by omega⟩
 simp only at h
 refine Asm _ _ (Let.intro (Gi (orB _ _) (fun h=>by omega) fun _=>Co (fun h1=> ?_) fun h1=> ?_))
 ·rw [if_pos (by omega)]at h;rw [h];exact⟨rfl,rfl⟩
 ·rw [if_neg (by omega)]at h;rw [h];exact⟨rfl,rfl⟩
theorem A25(c:UInt8):c.toNat<256:=c.toNat_lt
theorem hi4(c:UInt8):IntKind.i64.wrap (((c.toNat:Nat):Int).fdiv ((2:Int) ^ (4:Nat)))=((c.toNat / 16:Nat):Int):=by
 have:=A25 c
 rw [Int.fdiv_eq_ediv_of_nonneg _ (by decide),Bb _ (by omega) (by omega)];omega
theorem Bfr:∀n:Fin 256,IntKind.i64.wrap (IntKind.u8.wrap (↑(BitVec.ofInt 8 ((n:Nat):Int) &&& BitVec.ofInt 8 (15:Int)).toNat:Int))=(((n:Nat) % 16:Nat):Int):=by decide+kernel
theorem lo4(c:UInt8):IntKind.i64.wrap (IntKind.u8.wrap (↑(BitVec.ofInt 8 ((c.toNat:Nat):Int) &&& BitVec.ofInt 8 (15:Int)).toNat:Int))=((c.toNat % 16:Nat):Int):=Bfr ⟨c.toNat,A25 c⟩
abbrev Beo(l:List (List IV)):Heap:=[(Nm.loc 3, .blk Bj [.self (Nm.loc 3), .own ((Nm.loc 3).cell 1)]),((Nm.loc 3).cell 1, .arr (Aj+2) true 1 l)]
theorem Bc4(s:List UInt8)(hs:s.length≤1000000000)(K:Ex→St→Prop):∀(m i:Nat) (acc:List UInt8),m+i=s.length→acc.length≤2*i→K (.exit 0) ⟨[(3, .ptr (Nm.loc 3) 0)],Beo (Ba (acc++(s.drop i).flatMap Rq))⟩→
 Tp s s.length i (Ba acc) K:=by
 intro m
 induction m with
 |zero=>
  intro i acc hi ha hE
  refine Acd _ _ _ _ _ (Co (fun h=>by omega) fun _=> ?_)
  rw [List.drop_of_length_le (by omega)]at hE
  simpa using hE
 |succ m ih=>
  intro i acc hi ha hE
  have hlt:i<s.length:=by omega
  have hc:=A25 s[i]
  refine Acd _ _ _ _ _ (Co (fun _=> ?_) fun h=>by omega)
  rw [M4 s i hlt,hi4,lo4,Ma i (by omega)]
  refine⟨⟨by omega,by omega⟩,⟨by decide,Call.use (Wv _ (by omega)) ⟨⟨rfl,rfl⟩, ?_⟩⟩⟩
  rw [Auk,Vt,Vh,Vh]
  refine⟨⟨by omega,by omega⟩,⟨⟨by omega,by omega⟩,Call.use (Wv _ (by omega)) ⟨⟨rfl,rfl⟩, ?_⟩⟩⟩
  rw [Auk,Vt]
  refine⟨by simp;omega,ih (i+1) _ (by omega) (by simp;omega) ?_⟩
  rw [Auq Rq s i hlt]at hE
  simpa [Rq] using hE
theorem Bej(s:List UInt8)(hs:s.length≤1000000000):Call E0.P Abp [.imm (.str s)] [] (Is (.imm (.str (Aq8 s))) []):=by
 refine Arv _ _ ?_
 rw [Bfh]
 have hl:(s.flatMap Rq).length=2*s.length:=by
  clear hs
  induction s with
  |nil=>rfl
  |cons c s ih=>rw [List.flatMap_cons,List.length_append,ih];simp [Rq];omega
 refine Bc4 s hs _ s.length 0 [] rfl (by simp) ?_
 rw [List.drop_zero,List.nil_append]
 refine An5 _ _ (Al5 _ _ ?_)
 rw [show([IV.int .u8 (62:Int)]:List IV)=[IV.int .u8 (((62:UInt8).toNat:Nat):Int)] from rfl,Vt,Vh,Vh,Aop]
 exact⟨⟨by rw [hl];omega,by rw [hl];omega⟩,⟨⟨⟨rfl,by rw [List.length_append,hl];simp;omega⟩,Ae9 _⟩,Anz _ _ ⟨rfl,rfl⟩⟩⟩
end Go.Proofs.Sim.Se
set_option maxRecDepth 100000
namespace Go.Proofs.Sim.Se
open Go Go.Proofs Go.Proofs.Sim Go.Proofs.Sim.Va Go.RowKit
theorem Ar1(c:UInt8):Tj c=true↔32≤c.toNat∧c.toNat≤126:=by simp [Tj]
theorem Azn(c:UInt8):At7 c=true↔32≤c.toNat∧c.toNat≤126∧Xi (c.toNat:Int)=2∧c.toNat≠35:=by simp [At7]
theorem A6p(c:UInt8):Call E0.P Xe [.imm (.int .u8 (c.toNat:Int))] [] (Is (.imm (.bool (Tj c))) []):=by
 refine At8 _ _ (Let.intro ?_)
 have:(bif decide ((32:Int)≤(c.toNat:Int))then decide ((c.toNat:Int)≤126)else false)=Tj c:=by
  rw [Bool.eq_iff_iff,Ar1,cond_eq_ite]
  split
  ·rename_i h
   have h:=of_decide_eq_true h
   rw [decide_eq_true_iff];omega
  ·rename_i h
   have h:¬(32:Int)≤(c.toNat:Int):=fun h'=>h (decide_eq_true h')
   constructor
   ·intro h';cases h'
   ·intro h';omega
 rw [this];exact⟨rfl,rfl⟩
theorem Am3(c:UInt8):(Ls c).length≤3:=by unfold Ls;split<;>simp [Rq]
theorem Asf(c:UInt8):(M5 c).length≤2:=by unfold M5;split<;>simp
theorem Atn(f:UInt8→List UInt8)(k:Nat)(h:∀c,(f c).length≤k)(s:List UInt8):(s.flatMap f).length≤k*s.length:=by
 induction s with
 |nil=>simp
 |cons c s ih=>
  have:=h c
  rw [List.flatMap_cons,List.length_append,List.length_cons,Nat.mul_succ];omega
theorem A4f(s:List UInt8)(hs:s.length≤1000000000)(K:Ex→St→Prop)(i:Nat)(hi:i<s.length)(acc:List UInt8)(h:Kb s s.length ((i+1:Nat):Int) (Ba acc) K):Te s s.length i (Ba acc) (Mh K):=by
 refine Ani _ _ _ _ _ ?_
 rw [Ma i (by omega)]
 exact Apu _ _ _ _ _ h
theorem Bc8(s:List UInt8)(hs:s.length≤1000000000)(K:Ex→St→Prop)(i:Nat)(hi:i<s.length)(acc:List UInt8)(ha:acc.length≤3*i+1)(b:Bool)(hb:b=At7 s[i])
 (h:Kb s s.length ((i+1:Nat):Int) (Ba (acc++Ls s[i])) K):Tg s (s[i].toNat:Int) s.length i b (Ba acc) (Qh K):=by
 have hc:=A25 s[i]
 have h35:([IV.int .u8 (35:Int)]:List IV)=[IV.int .u8 (((35:UInt8).toNat:Nat):Int)]:=rfl
 refine Anh _ _ _ _ _ _ _ ⟨fun e=> ?_,fun e=> ?_⟩
 ·rw [Ls, ←hb,if_pos e]at h
  rw [Vh,Vt]
  exact⟨⟨by omega,by omega⟩,Api _ _ _ _ _ (A4f s hs K i hi _ h)⟩
 ·rw [Ls, ←hb,if_neg (by rw [e];decide)]at h
  refine Apf _ _ _ _ _ _ (Amw _ _ _ _ _ _ ?_)
  rw [hi4,lo4,h35,Vt,Vh,Vh]
  refine⟨⟨by omega,by omega⟩,⟨by decide,Call.use (Wv _ (by omega)) ⟨⟨rfl,rfl⟩, ?_⟩⟩⟩
  rw [Auk,Vt,Vh]
  refine⟨by simp;omega,Call.use (Wv _ (by omega)) ⟨⟨rfl,rfl⟩,⟨by simp;omega, ?_⟩⟩⟩
  rw [Auk,Vt]
  refine Apz _ _ _ _ _ (A4f s hs K i hi _ ?_)
  simpa [Rq] using h
theorem Bba(s:List UInt8)(hs:s.length≤1000000000)(K:Ex→St→Prop):∀(m i:Nat) (acc:List UInt8),m+i=s.length→acc.length≤3*i+1→K (.exit 0) ⟨[(3, .ptr (Nm.loc 3) 0)],Beo (Ba (acc++(s.drop i).flatMap Ls))⟩→
 Kb s s.length i (Ba acc) K:=by
 intro m
 induction m with
 |zero=>
  intro i acc hi ha hE
  refine Ad6 _ _ _ _ _ (Co (fun h=>by omega) fun _=> ?_)
  rw [List.drop_of_length_le (by omega)]at hE
  simpa using hE
 |succ m ih=>
  intro i acc hi ha hE
  have hlt:i<s.length:=by omega
  refine Ad6 _ _ _ _ _ (Co (fun _=> ?_) fun h=>by omega)
  rw [M4 s i hlt]
  have hn:Kb s s.length ((i+1:Nat):Int) (Ba (acc++Ls s[i])) K:=by
   have:=Am3 s[i]
   refine ih (i+1) _ (by omega) (by simp;omega) ?_
   rw [Auq Ls s i hlt]at hE
   simpa using hE
  refine⟨⟨by omega,by omega⟩,Call.use (A6p s[i]) ⟨⟨rfl,rfl⟩, ?_⟩⟩
  rw [N7]
  refine⟨fun h=> ?_,fun h=>⟨rfl,Let.intro (Let.intro ?_)⟩⟩
  ·have h1:=(Ar1 _).1 (eq_of_beq h)
   refine Call.use (Aoe _) ⟨⟨rfl,rfl⟩,Let.intro (Let.intro (Bc8 s hs K i hlt acc ha _ ?_ hn))⟩
   rw [Hd,Bool.eq_iff_iff,Azn,cond_eq_ite]
   split
   ·rename_i h2
    have h2:=of_decide_eq_true h2
    simp [h1,h2];omega
   ·rename_i h2
    constructor
    ·intro h3;cases h3
    ·intro h3;exact absurd (decide_eq_true h3.2.2.1) h2
  ·refine Bc8 s hs K i hlt acc ha _ ?_ hn
   rw [Bool.eq_iff_iff,Azn]
   constructor
   ·intro h3;cases h3
   ·intro h3
    have:Tj s[i]=true:=(Ar1 _).2 ⟨h3.1,h3.2.1⟩
    rw [this]at h;cases h
theorem Ann(s:List UInt8)(hs:s.length≤1000000000):Call E0.P Xc [.imm (.str s)] [] (Is (.imm (.str (Df s))) []):=by
 have hl:=Atn Ls 3 Am3 s
 refine As5 _ _ ⟨⟨by decide,by decide⟩, ?_⟩
 refine Bba s hs _ s.length 0 [47] rfl (by simp) ?_
 rw [List.drop_zero]
 refine Aqb _ _ (Aoi _ _ ?_)
 rw [Aop,Vh]
 exact⟨⟨⟨rfl,by simp only [List.length_append,List.length_cons,List.length_nil];omega⟩,Ae9 _⟩,Apr _ _ ⟨rfl,rfl⟩⟩
theorem A1v(s:List UInt8):(Aq8 s).length=2*s.length+1:=by
 have:(s.flatMap Rq).length=2*s.length:=by
  induction s with
  |nil=>rfl
  |cons c s ih=>rw [List.flatMap_cons,List.length_append,ih];simp [Rq];omega
 rw [Aq8,List.length_append,this];rfl
theorem Bcg(s:List UInt8)(i:Nat)(h:i<s.length)(hc:Tj s[i]=false):s.all Tj=false:=by
 rw [Bool.eq_false_iff]
 intro ha
 rw [List.all_eq_true]at ha
 have:=ha s[i] (List.getElem_mem h)
 rw [hc]at this;cases this
theorem Ba9(c:UInt8):((bif (bif decide ((c.toNat:Int)=40)then true else decide ((c.toNat:Int)=41))then true else decide ((c.toNat:Int)=92))=true)↔(c=40∨c=41∨c=92):=by
 have e:∀n:UInt8,c=n↔c.toNat=n.toNat:=fun n=>⟨fun h=>h ▸ rfl,UInt8.toNat_inj.1⟩
 rw [Akf,orB,e,e,e]
 show _↔(c.toNat=40∨c.toNat=41∨c.toNat=92)
 omega
theorem A8m(s:List UInt8)(hs:s.length≤1000000000)(Q:AV→Heap→Prop)(hQ:Q (.imm (.str (Wx s))) []):∀(m i:Nat) (acc:List UInt8),m+i=s.length→acc.length≤2*i+1→(∀c∈s.take i,Tj c=true)→acc++(s.drop i).flatMap M5=40::s.flatMap M5→
 Ld s s.length i (Ba acc) (Oc Q):=by
 intro m
 induction m with
 |zero=>
  intro i acc hi ha hall hE
  refine Ab6 _ _ _ _ _ (Co (fun h=>by omega) fun _=> ?_)
  rw [List.drop_of_length_le (by omega)]at hE
  rw [List.take_of_length_le (by omega)]at hall
  have hl:=Atn M5 2 Asf s
  have hE:acc=40::s.flatMap M5:=by simpa using hE
  rw [Wx,if_pos (List.all_eq_true.2 hall), ←hE]at hQ
  refine An0 _ _ (Alv _ _ ?_)
  rw [show([IV.int .u8 (41:Int)]:List IV)=[IV.int .u8 (((41:UInt8).toNat:Nat):Int)] from rfl,Vt,Vh,Vh,Aop]
  exact⟨⟨by omega,by omega⟩,⟨⟨⟨rfl,by simp;omega⟩,Ae9 _⟩,An2 _ _ hQ⟩⟩
 |succ m ih=>
  intro i acc hi ha hall hE
  have hlt:i<s.length:=by omega
  refine Ab6 _ _ _ _ _ (Co (fun _=> ?_) fun h=>by omega)
  rw [M4 s i hlt,Ma i (by omega)]
  refine⟨⟨by omega,by omega⟩,Call.use (A6p s[i]) ⟨⟨rfl,rfl⟩, ?_⟩⟩
  rw [N7]
  refine⟨fun h=> ?_,fun h=> ?_⟩
  ·have h:Tj s[i]=false:=by simpa using h
   rw [Wx,if_neg (by rw [Bcg s i hlt h];decide)]at hQ
   have:=A1v s
   refine Call.use (Bej s hs) ⟨⟨rfl,rfl⟩,⟨?_,Aoo _ _ hQ⟩⟩
   show(((1+(Aq8 s).length:Nat):Int))≤_
   omega
  ·have h:Tj s[i]=true:=by simpa using h
   have hall':=Af4 (P:=fun c:UInt8=>Tj c=true) _ _ hlt hall h
   rw [Auq M5 s i hlt]at hE
   have hel:=Asf s[i]
   have hn:Ld s s.length ((i+1:Nat):Int) (Ba (acc++M5 s[i])) (Oc Q):=ih (i+1) _ (by omega) (by simp;omega) hall' (by rw [List.append_assoc];exact hE)
   refine Let.intro (Let.intro (Gi (Ba9 _) (fun e=> ?_) fun e=> ?_))
   ·rw [M5,if_pos e]at hn
    rw [show([IV.int .u8 (92:Int)]:List IV)=[IV.int .u8 (((92:UInt8).toNat:Nat):Int)] from rfl,Vt,Vh,Vh,Vt]
    refine⟨⟨by omega,by omega⟩,⟨by simp;omega, ?_⟩⟩
    simpa using hn
   ·rw [M5,if_neg e]at hn
    rw [Vt,Vh]
    exact⟨⟨by omega,by omega⟩,hn⟩
theorem Axs(s:List UInt8)(hs:s.length≤1000000000):Call E0.P Aay [.imm (.str s)] [] (Is (.imm (.str (Wx s))) []):=
 Aq7 _ _ ⟨⟨by decide,by decide⟩,A8m s hs _ ⟨rfl,rfl⟩ s.length 0 [40] rfl (by simp) (by simp) (by simp)⟩
end Go.Proofs.Sim.Se
set_option maxRecDepth 100000
namespace Go.Proofs.Sim.Se
open Go Go.Proofs Go.Proofs.Sim Go.Proofs.Sim.Va Go.RowKit
abbrev A9k(v:V):List IV:=[.int .i64 v.k, .int .i64 v.n, .int .i64 v.g, .str v.s, .sl .any 6 (v.l.map V.row), .sl .any 7 (v.d.map Cu)]
theorem Anf {b:Bool} {p:Prop} {A B:Prop} (hb:b=true↔p)(h1:¬p→A)(h2:p→B):Br (b == false) A B:=by
 cases b with
 |true=>exact⟨fun h=>absurd h (by decide),fun _=>h2 (hb.1 rfl)⟩
 |false=>exact⟨fun _=>h1 (fun hp=>by cases hb.2 hp),fun h=>absurd h (by decide)⟩
theorem Bea {A B:Prop} (h:A):Br true A B:=⟨fun _=>h,fun h=>absurd h (by decide)⟩
theorem Aim {A B:Prop} (h:B):Br (true == false) A B:=⟨fun h=>absurd h (by decide),fun _=>h⟩
theorem Alp(s:List UInt8):Call E0.P Zb [.imm (.str s), .imm (.int .u8 0)] [] (Is (.imm (.int .i64 (Lib.indexByte s 0))) []):=by
 refine Ri Tryz.func69 (by kernel_rfl) (by kernel_rfl) [.str s, .int .u8 0] _ fun g w vs hv hs=> ?_
 obtain⟨v,u,rfl,hr,hu⟩:=A2r hv
 obtain rfl:=Ale hr
 obtain rfl:=X6 hu
 refine(Tryz.strings_IndexByte ⟨s.toArray⟩ 0 w).mono ?_
 rintro e w' ⟨rfl,rfl⟩
 exact⟨_, .imm (.int .i64 (Lib.indexByte s 0)),rfl,Below.refl _ _, .imm _ _ (.int _ _),rfl,rfl⟩
theorem A96(s:List UInt8):Call E0.P Uk [.imm (.str s)] [] (Is (.imm (.bool (decide ((0:UInt8)∈s)))) []):=by
 refine Avy _ _ (Call.use (Alp s) ⟨⟨rfl,rfl⟩, ?_⟩)
 have:decide ((0:Int)≤Lib.indexByte s 0)=decide ((0:UInt8)∈s):=by
  rw [←Lib.contains_iff_indexByte];simp
 rw [Hd,this]
 exact⟨rfl,rfl⟩
theorem A5j(v:V):Call E0.P Rb [.imm (.agg (A9k v)), .imm (.agg [.bool (hN v.k), .bool (hG v.k), .bool (hS v.k), .bool (hL v.k), .bool (hD v.k)])] [] (Is (.imm (.bool (decide (Hu v)))) []):=by
 have hk:∀(p:Prop) [Decidable p],(!decide p)=true↔¬p:=fun p _=>by simp
 have i0:((bif !hN v.k then !decide (v.n=0)else false)=true)↔(v.n≠0∧¬(v.k=1∨v.k=2∨v.k=7)):=by
  rw [hN];by_cases a:v.k=1∨v.k=2∨v.k=7<;>simp [a]
 have i1:((bif !hG v.k then !decide (v.g=0)else false)=true)↔(v.g≠0∧v.k≠7):=by
  rw [hG];by_cases a:v.k=7<;>simp [a]
 have i2:((bif !hS v.k then !v.s == []else false)=true)↔(v.s≠[]∧¬(v.k=3∨v.k=4∨v.k=8)):=by
  rw [hS];by_cases a:v.k=3∨v.k=4∨v.k=8<;>simp [a]
 have i3:((bif !hL v.k then decide ((0:Int)<((v.l.map V.row).length:Int))else false)=true)↔(0<v.l.length∧v.k≠5):=by
  rw [hL,List.length_map];by_cases a:v.k=5<;>simp [a]
 have i4:((bif !hD v.k then decide ((0:Int)<((v.d.map Cu).length:Int))else false)=true)↔(0<v.d.length∧¬(v.k=6∨v.k=8)):=by
  rw [hD,List.length_map];by_cases a:v.k=6∨v.k=8<;>simp [a]
 have yes:Hu v→Is (.imm (.bool (decide (Hu v)))) [] (.imm (.bool true)) []:=fun h=>by rw [decide_eq_true h];exact⟨rfl,rfl⟩
 refine Amm _ _ _ _ _ _ _ _ _ _ _ _ (Let.intro (Anf i0 (fun n0=> ?_) fun y=>⟨rfl,Let.intro (Aim ⟨rfl,Let.intro (Aim ⟨rfl,Let.intro (Aim ⟨rfl,Let.intro (yes (.inl y))⟩)⟩)⟩)⟩))
 refine Let.intro (Let.intro (Anf i1 (fun n1=> ?_) fun y=>⟨rfl,Let.intro (Aim ⟨rfl,Let.intro (Aim ⟨rfl,Let.intro (yes (.inr (.inl y)))⟩)⟩)⟩))
 refine Let.intro (Let.intro (Anf i2 (fun n2=> ?_) fun y=>⟨rfl,Let.intro (Aim ⟨rfl,Let.intro (yes (.inr (.inr (.inl y))))⟩)⟩))
 refine Let.intro (Let.intro (Anf i3 (fun n3=> ?_) fun y=>⟨rfl,Let.intro (yes (.inr (.inr (.inr (.inl y)))))⟩))
 refine Let.intro (Let.intro ?_)
 have:(bif !hD v.k then decide ((0:Int)<((v.d.map Cu).length:Int))else false)=decide (Hu v):=by
  rw [Bool.eq_iff_iff,i4,Cg,Hu]
  exact⟨fun h=> .inr (.inr (.inr (.inr h))),fun h=>by
   rcases h with h |h |h |h |h
   ·exact absurd h n0
   ·exact absurd h n1
   ·exact absurd h n2
   ·exact absurd h n3
   ·exact h⟩
 rw [this]
 exact⟨rfl,rfl⟩
theorem A8d(v:V):Call E0.P Aad [.imm (.agg (A9k v))] [] (Is (.imm (.bool (decide (Ns v)))) []):=by
 have fin:∀b:Bool,(b=true↔Ns v)→Is (.imm (.bool (decide (Ns v)))) [] (.imm (.bool b)) []:=by
  intro b hb
  have:b=decide (Ns v):=by rw [Bool.eq_iff_iff,hb,Cg]
  rw [this];exact⟨rfl,rfl⟩
 refine Ap7 _ _ _ _ _ _ _ (Co (fun h=>⟨by decide,fin _ ?_⟩) fun h1=>Co (fun h=>Let.intro (fin _ ?_)) fun h2=>Co (fun h=>Let.intro (Let.intro (Let.intro (fin _ ?_)))) fun h7=>fin _ ?_)
 ·rw [Int.fdiv_eq_ediv_of_nonneg _ (by decide),Ns]
  simp only [Bool.not_eq_true',decide_eq_false_iff_not]
  omega
 ·rw [orB,Ns];omega
 ·rw [Akf,Akf,orB,Ns];omega
 ·rw [Ns]
  constructor
  ·intro h;cases h
  ·intro h;omega
theorem A29(v:V)(st:Bool)(w:Int)(b:Bool)(hk:¬((v.k<0∨8<v.k)∨(v.k=8∧st=false)))(hb:b=true↔(Hu v∨(v.k=3∧(0:UInt8)∈v.s)))(Q:AV→Heap→Prop)(hQ:Q (.imm (.int .i64 (Xy v st w))) [])(x0 x1 x2:Bool):
 Jp w b v.k v.n v.g v.s (v.l.map V.row) (v.d.map Cu) x0 x1 x2 (hL v.k) (hD v.k) (Hf Q):=by
 rw [Xy,if_neg hk]at hQ
 have ret:∀n:Int,Q (.imm (.int .i64 n)) []→Hf Q .ret ⟨[(6, .imm (.int .i64 n))],[]⟩:=fun n h=>Aq0 _ _ h
 have i9:((bif (bif hL v.k then true else hD v.k)then decide ((64:Int)≤w)else false)=true)↔((v.k=5∨v.k=6∨v.k=8)∧64≤w):=by
  rw [hL,hD]
  by_cases a:v.k=5
  ·simp [a]
  ·by_cases c:v.k=6∨v.k=8<;>simp [a,c]
 have l8:∀n:Nat,((127:Int)<(n:Int)↔127<n)∧((65535:Int)<(n:Int)↔65535<n)∧((1048576:Int)<(n:Int)↔1048576<n):=fun n=>⟨by omega,by omega,by omega⟩
 obtain⟨q1,q2,q3⟩:=l8 v.s.length
 refine Aqx _ _ _ _ _ _ _ _ _ _ _ _ _ _ (Gi hb (fun h=>ret _ ?_) fun h4=>Call.use (A8d v) ⟨⟨rfl,rfl⟩,Gi (p:=Ns v) (by rw [N7];exact Cg) (fun h=>ret _ ?_) fun h3=> ?_⟩)
 ·rw [if_pos h]at hQ;exact hQ
 ·rw [if_neg h4,if_pos h]at hQ;exact hQ
 rw [if_neg h4,if_neg h3]at hQ
 refine Let.intro (Anf (p:=v.k=3∧127<v.s.length) (by rw [Q7,q1]) (fun a1=>Let.intro (Let.intro (Gi (p:=v.k=4∧65535<v.s.length) (by rw [Q7,q2]) (fun h=>ret _ ?_) fun a2=> ?_))) fun h=>⟨rfl,Let.intro (Bea (ret _ ?_))⟩)
 ·rw [if_pos (.inr h)]at hQ;exact hQ
 ·rw [if_neg (fun h=>h.elim a1 a2)]at hQ
  refine Let.intro (Gi (p:=v.k=8∧1048576<v.s.length) (by rw [Q7,q3]) (fun h=>ret _ ?_) fun a3=>Let.intro (Let.intro (Gi i9 (fun h=>ret _ ?_) fun a4=>Aqr _ (Apq _ (Arl _ _ ?_)))))
  ·rw [if_pos h]at hQ;exact hQ
  ·rw [if_neg a3,if_pos h]at hQ;exact hQ
  ·rw [if_neg a3,if_neg a4]at hQ;exact hQ
 ·rw [if_pos (.inl h)]at hQ;exact hQ
theorem Be2(v:V)(st:Bool)(w:Int):Call E0.P Afo [.imm (.agg (A9k v)), .imm (.bool st), .imm (.int .i64 w)] [] (Is (.imm (.int .i64 (Xy v st w))) []):=by
 have ih:Yg v.k=true↔(0≤v.k∧v.k≤8):=by simp [Yg]
 refine Auu _ _ _ _ _ _ _ _ _ (Call.use (A92 v.k) ⟨⟨rfl,rfl⟩,Anf (p:=v.k<0∨8<v.k) ?_ (fun hk=>Let.intro (Let.intro (Gi (p:=v.k=8∧st=false) ?_ (fun h=> ?_) fun h8=> ?_))) fun h=>⟨rfl,Let.intro (Bea ?_)⟩⟩)
 ·show(!Yg v.k)=true↔_
  rw [Bool.not_eq_true', ←Bool.not_eq_true,ih];omega
 ·by_cases a:v.k=8<;>cases st<;>simp [a]
 ·rw [Xy,if_pos (.inr h)];exact⟨rfl,rfl⟩
 ·have hk':¬((v.k<0∨8<v.k)∨(v.k=8∧st=false)):=fun h=>h.elim hk h8
  refine Call.use (A5j v) ⟨⟨rfl,rfl⟩,Anf (p:=Hu v) (by rw [N7];exact Cg) (fun e=> ?_) fun e=>⟨rfl,Let.intro (A29 v st w _ hk' ⟨fun _=> .inl e,fun _=>rfl⟩ _ ⟨rfl,rfl⟩ _ _ _)⟩⟩
  refine⟨fun h=> ?_,fun h=>⟨rfl,Let.intro (Let.intro (A29 v st w _ hk' ⟨fun h=>(by cases h),fun h'=> ?_⟩ _ ⟨rfl,rfl⟩ _ _ _))⟩⟩
  ·have h3:=of_decide_eq_true (eq_of_beq h)
   refine Call.use (A96 v.s) ⟨⟨rfl,rfl⟩,Let.intro (Let.intro (A29 v st w _ hk' ?_ _ ⟨rfl,rfl⟩ _ _ _))⟩
   rw [N7,Cg]
   exact⟨fun h=> .inr ⟨h3,h⟩,fun h=>h.elim (fun h=>absurd h e) fun h=>h.2⟩
  ·exfalso
   rcases h' with h' |h'
   ·exact e h'
   ·rw [decide_eq_true h'.1]at h;cases h
 ·rw [Xy,if_pos (.inl h)];exact⟨rfl,rfl⟩
theorem A0f {v:V} {st:Bool} {w:Int} (h:Xy v st w=0)(hc:0<v.l.length∨0<v.d.length):w<64:=by
 unfold Xy at h
 split at h
 ·cases h
 split at h
 ·cases h
 split at h
 ·cases h
 split at h
 ·cases h
 split at h
 ·cases h
 split at h
 ·cases h
 ·rename_i h4 _ _ _ h9
  have hx:¬Hu v:=fun h=>h4 (.inl h)
  rw [Hu]at hx
  omega
end Go.Proofs.Sim.Se
set_option maxRecDepth 100000
namespace Go.Proofs.Sim.Se
open Go Go.Proofs Go.Proofs.Sim Go.Proofs.Sim.Va Go.RowKit
theorem A6s(m:List (List UInt8 × Int))(k:List UInt8)(v:Int)(x:List UInt8):Dl (Vm m k v) x=if x=k then v else Dl m x:=by
 induction m with
 |nil=>rw [Vm,Dl];rfl
 |cons a m ih=>
  obtain⟨k0,u⟩:=a
  rw [Vm]
  by_cases h:k=k0
  ·subst h
   rw [if_pos rfl,Dl,Dl]
   by_cases hx:x=k
   ·simp [hx]
   ·simp [hx]
  ·rw [if_neg h,Dl,Dl,ih]
   by_cases hx:x=k0
   ·subst hx
    simp [Ne.symm h]
   ·simp [hx]
theorem ndT {p:Prop} {i:Decidable p} (h:(!@decide p i)=true):¬p:=by
 intro hp
 rw [@decide_eq_true p i hp]at h;cases h
theorem ndF {p:Prop} {i:Decidable p} (h:(!@decide p i)=false):p:=by
 cases hd: @decide p i with
 |true=>exact of_decide_eq_true hd
 |false=>rw [hd]at h;cases h
theorem Bd2(p:Pr):gS (Cu p) 0=p.1:=by rw [Mf];rfl
abbrev CheckAt(v:V):Prop:=∀(st:Bool) (w:Int),0≤w→w≤64→Call E0.P Pv [.imm (.agg v.row), .imm (.bool st), .imm (.int .i64 w)] [] (Is (.imm (.int .i64 (v.chk st w))) [])
theorem Bcj(v:V)(hl:v.l.length≤1000000000000)(ih:∀x∈v.l,CheckAt x)(w:Int)(hw0:0≤w)(hw:0<v.l.length→w<64)(a b c:Int)(s:List UInt8)(p q:List (List IV))(K:Ex→St→Prop)
 (hR:Xt (v.l.map fun x=>x.chk false (w+1))≠0→K .ret ⟨[(6, .imm (.int .i64 (Xt (v.l.map fun x=>x.chk false (w+1)))))],[]⟩)
 (hE:Xt (v.l.map fun x=>x.chk false (w+1))=0→K (.exit 0) ⟨[(2, .imm (.int .i64 w)),(3, .ptr (Nm.loc 3) 0)],[(Nm.loc 3, .blk Ac [.imm (.int .i64 a), .imm (.int .i64 b), .imm (.int .i64 c), .imm (.str s), .imm (.sl .any 6 p), .imm (.sl .any 7 q)])]⟩):
 ∀(m i:Nat),m+i=v.l.length→Xt (v.l.map fun x=>x.chk false (w+1))=Xt ((v.l.drop i).map fun x=>x.chk false (w+1))→Tn w (Kv v.l) v.l.length i a b c s p q K:=by
 intro m
 induction m with
 |zero=>
  intro i hi he
  refine Acm _ _ _ _ _ _ _ _ _ _ _ (Co (fun h=>by omega) fun _=> ?_)
  rw [List.drop_of_length_le (by omega)]at he
  exact hE he
 |succ m ihm=>
  intro i hi he
  have hlt:i<v.l.length:=by omega
  have hm:L9 v.l i∈v.l:=by simp [L9,List.getD_eq_getElem?_getD,hlt]
  have hd:v.l.drop i=L9 v.l i::v.l.drop (i+1):=by rw [List.drop_eq_getElem_cons hlt];simp [L9,List.getD_eq_getElem?_getD,hlt]
  have hw:=hw (by omega)
  refine Acm _ _ _ _ _ _ _ _ _ _ _ (Co (fun _=> ?_) fun h=>by omega)
  rw [show(Kv v.l).getD (Int.toNat (i:Int)) []=(L9 v.l i).row from Yi _ _ hlt,Jo,H7,Ma i (by omega),Bb _ (by omega) (by omega)]
  refine⟨⟨⟨by omega,by omega⟩,Yl _ _ _⟩,Call.use (ih _ hm false (w+1) (by omega) (by omega)) ⟨⟨rfl,rfl⟩, ?_⟩⟩
  rw [Hd]
  rw [hd,List.map_cons,Xt]at he
  refine⟨fun h=> ?_,fun h=>ihm (i+1) (by omega) ?_⟩
  ·have h:=ndT h
   rw [if_pos h]at he
   rw [he]at hR
   exact hR h
  ·have h:=ndF h
   rw [if_neg (by simpa using h)]at he
   exact he
theorem Bb6(v:V)(hl:v.d.length≤1000000000000)(ih:∀x∈v.d,CheckAt x.2)(w:Int)(hw0:0≤w)(hw:0<v.d.length→w<64)(K:Ex→St→Prop)
 (hR:K .ret ⟨[(6, .imm (.int .i64 (Ah3 [] (v.d.map fun x=>(x.1,x.2.chk false (w+1))))))],[]⟩):
 ∀(m i:Nat) (seen:List Ky) (M:List (List UInt8 × Int)),m+i=v.d.length→(∀x,Dl M x=if x∈seen then 1 else 0)→
  Ah3 [] (v.d.map fun x=>(x.1,x.2.chk false (w+1)))=Ah3 seen ((v.d.drop i).map fun x=>(x.1,x.2.chk false (w+1)))→Q6 w (Bv v.d) v.d.length i M (K3 K):=by
 intro m
 induction m with
 |zero=>
  intro i seen M hi hM he
  refine Aan _ _ _ _ _ _ (Co (fun h=>by omega) fun _=> ?_)
  rw [List.drop_of_length_le (by omega)]at he
  rw [he]at hR
  exact Aoj _ (Aly _ (Amh _ _ hR))
 |succ m ihm=>
  intro i seen M hi hM he
  have hlt:i<v.d.length:=by omega
  have hm:Ce v.d i∈v.d:=by simp [Ce,List.getD_eq_getElem?_getD,hlt]
  have hd:v.d.drop i=Ce v.d i::v.d.drop (i+1):=by rw [List.drop_eq_getElem_cons hlt];simp [Ce,List.getD_eq_getElem?_getD,hlt]
  have hw:=hw (by omega)
  obtain⟨p,hp⟩:∃p,Ce v.d i=p:=⟨_,rfl⟩
  rw [hp]at hm hd
  refine Aan _ _ _ _ _ _ (Co (fun _=> ?_) fun h=>by omega)
  rw [show(Bv v.d).getD (Int.toNat (i:Int)) []=Cu (Ce v.d i) from Aat _ _ hlt,hp,Bd2,Bc]
  rw [hd,List.map_cons,Ah3]at he
  have i2:∀b:Bool,(b=true↔Jd p.1)→(((bif b then true else decide ((0:Int)<Dl M p.1))=true)↔(Jd p.1∨p.1∈seen)):=by
   intro b hb
   rw [Akf,hb,hM]
   by_cases h:p.1∈seen<;>simp [h]
  have bad:(Jd p.1∨p.1∈seen)→K3 K .ret ⟨[(6, .imm (.int .i64 11))],[]⟩:=by
   intro h
   rw [if_pos h]at he
   rw [he]at hR
   exact Ab4 _ _ hR
  have good:¬(Jd p.1∨p.1∈seen)→Qt w (Bv v.d) v.d.length i M p.1 (gI (Cu p) 1) (gI (Cu p) 2) (gI (Cu p) 3) (gS (Cu p) 4) (gR (Cu p) 5) (gR (Cu p) 6) (Og (K3 K)):=by
   intro h
   rw [if_neg h]at he
   refine Alz _ _ _ _ _ _ _ _ _ _ _ _ _ ?_
   rw [Qn,Bb (w+1) (by omega) (by omega)]
   refine Call.use (ih _ hm false (w+1) (by omega) (by omega)) ⟨⟨rfl,rfl⟩, ?_⟩
   rw [Hd]
   refine⟨fun h2=> ?_,fun h2=> ?_⟩
   ·rw [if_pos (ndT h2)]at he
    rw [he]at hR
    exact Amu _ _ (Ab4 _ _ hR)
   ·rw [if_neg (by simpa using ndF h2)]at he
    refine Am7 _ _ _ _ _ _ (Al8 _ _ _ _ _ _ ?_)
    rw [Ma i (by omega)]
    refine Amk _ _ _ _ _ _ (ihm (i+1) (seen++[p.1]) _ (by omega) (fun x=> ?_) he)
    rw [A6s,hM,hM,if_neg (show ¬p.1∈seen from fun h3=>h (.inr h3))]
    by_cases hx:x=p.1
    ·rw [if_pos hx,if_pos (by rw [hx];simp)];rfl
    ·rw [if_neg hx]
     by_cases h4:x∈seen
     ·rw [if_pos h4,if_pos (by simp [h4])]
     ·rw [if_neg h4,if_neg (by simp [h4,hx])]
  refine⟨⟨⟨by omega,by omega⟩,Eo _ _ _⟩,Anf (p:=127<p.1.length) (by rw [Cg];omega) (fun h1=>Call.use (A96 _) ⟨⟨rfl,rfl⟩,Let.intro (Let.intro (Gi (i2 _ ?_) bad good))⟩) fun h1=>⟨rfl,Let.intro (Let.intro (Gi (i2 _ ?_) bad good))⟩⟩
  ·rw [N7,Cg,Jd]
   exact⟨fun h=> .inr h,fun h=>h.elim (fun h=>absurd h h1) id⟩
  ·exact⟨fun _=> .inl h1,fun _=>rfl⟩
theorem Bao(v:V)(hf:Fit v):CheckAt v:=by
 induction hf with
 |mk v h1 h2 h3 h4 ih1 ih2=>
  intro st w hw0 hw
  rw [Ep,A6v]
  refine Ase _ _ _ _ _ _ _ _ _ (Call.use (Be2 v st w) ⟨⟨rfl,rfl⟩, ?_⟩)
  rw [Hd]
  refine⟨fun h=> ?_,fun h=> ?_⟩
  ·rw [if_pos (ndT h)];exact⟨rfl,rfl⟩
  ·have h0:=ndF h
   rw [if_neg (by simpa using h0)]
   rw [List.length_map]
   refine Bcj v h1 ih1 w hw0 (fun hc=>A0f h0 (.inl hc)) _ _ _ _ _ _ _ (fun he=> ?_) (fun he=> ?_) v.l.length 0 rfl (by rw [List.drop_zero])
   ·rw [if_pos he]
    exact Aob _ _ ⟨rfl,rfl⟩
   ·rw [if_neg (by simpa using he)]
    refine Anq _ _ _ _ _ _ _ _ (Ama _ _ _ _ _ _ _ _ ?_)
    rw [List.length_map]
    exact Bb6 v h2 ih2 w hw0 (fun hc=>A0f h0 (.inr hc)) _ (Amo _ _ ⟨rfl,rfl⟩) v.d.length 0 [] [] rfl (fun x=>by simp [Dl]) (by rw [List.drop_zero])
theorem Bbe(v:V)(hf:Fit v)(st:Bool):Call E0.P Aaz [.imm (.agg v.row), .imm (.bool st)] [] (Is (.imm (.int .i64 (v.chk st 0))) []):=by
 have h:=Bao v hf st 0 (by decide) (by decide)
 rw [Ep]at h ⊢
 exact Aqy _ _ _ _ _ _ _ _ (Call.use h ⟨⟨rfl,rfl⟩,⟨rfl,rfl⟩⟩)
end Go.Proofs.Sim.Se

import Derived.Test.YtaggabcajidnnaaGreatDoorSeatGenW
import Derived.Test.YtaggabcajidnnaaGreatDoorPbA
import Derived.Test.YtaggabcajidnnaaGreatDoorWrL
import Derived.Test.YtaggabcajidnnaaGreatDoorZiA
import Derived.Test.YtaggabcajidnnaaGreatDoorVsC
import Derived.Test.YtaggabcajidnnaaGreatDoorTryzShelf
import Derived.Lib.IndexAny
set_option maxRecDepth 100000
namespace Go.Proofs.Sim.Se
open Go Go.Proofs Go.Proofs.Sim Go.Proofs.Sim.Va Go.RowKit
theorem Bpl:∀n:Fin 16,(if(n:Nat)<10 then IntKind.u8.wrap (IntKind.i64.wrap ((48:Int)+((n:Nat):Int)))else IntKind.u8.wrap (IntKind.i64.wrap (IntKind.i64.wrap ((65:Int)+((n:Nat):Int)) - (10:Int))))=(((Agx n).toNat:Nat):Int):=by decide+kernel
theorem Z0(n:Nat)(hn:n≤15):Call E0.P Nl [.imm (.int .i64 (n:Int))] [] (Is (.imm (.int .u8 ((Agx n).toNat:Int))) []):=by
 have h:=Bpl ⟨n,by omega⟩
 simp only at h
 refine Awp _ _ (Let.intro (Ef (orB _ _) (fun h=>by omega) fun _=>Cc (fun h1=> ?_) fun h1=> ?_))
 ·rw [if_pos (by omega)]at h;rw [h];exact⟨rfl,rfl⟩
 ·rw [if_neg (by omega)]at h;rw [h];exact⟨rfl,rfl⟩
theorem Bba(c:UInt8):c.toNat<256:=c.toNat_lt
theorem hi4(c:UInt8):IntKind.i64.wrap (((c.toNat:Nat):Int).fdiv ((2:Int) ^ (4:Nat)))=((c.toNat / 16:Nat):Int):=by
 have:=Bba c
 rw [Int.fdiv_eq_ediv_of_nonneg _ (by decide),Az _ (by omega) (by omega)];omega
theorem Bpo:∀n:Fin 256,IntKind.i64.wrap (IntKind.u8.wrap (↑(BitVec.ofInt 8 ((n:Nat):Int) &&& BitVec.ofInt 8 (15:Int)).toNat:Int))=(((n:Nat) % 16:Nat):Int):=by decide+kernel
theorem lo4(c:UInt8):IntKind.i64.wrap (IntKind.u8.wrap (↑(BitVec.ofInt 8 ((c.toNat:Nat):Int) &&& BitVec.ofInt 8 (15:Int)).toNat:Int))=((c.toNat % 16:Nat):Int):=Bpo ⟨c.toNat,Bba c⟩
abbrev Bm3(l:List (List IV)):Heap:=[(Nm.loc 3, .blk Bd [.self (Nm.loc 3), .own ((Nm.loc 3).cell 1)]),((Nm.loc 3).cell 1, .arr (Aj+2) true 1 l)]
theorem Bl6(s:List UInt8)(hs:s.length≤1000000000)(K:Ex→St→Prop):∀(m i:Nat) (acc:List UInt8),m+i=s.length→acc.length≤2*i→K (.exit 0) ⟨[(3, .ptr (Nm.loc 3) 0)],Bm3 (Ay (acc++(s.drop i).flatMap Uc))⟩→
 Vl s s.length i (Ay acc) K:=by
 intro m
 induction m with
 |zero=>
  intro i acc hi ha hE
  refine Afr _ _ _ _ _ (Cc (fun h=>by omega) fun _=> ?_)
  rw [List.drop_of_length_le (by omega)]at hE
  simpa using hE
 |succ m ih=>
  intro i acc hi ha hE
  have hlt:i<s.length:=by omega
  have hc:=Bba s[i]
  refine Afr _ _ _ _ _ (Cc (fun _=> ?_) fun h=>by omega)
  rw [N9 s i hlt,hi4,lo4,Ni i (by omega)]
  refine⟨⟨by omega,by omega⟩,⟨by decide,Call.use (Z0 _ (by omega)) ⟨⟨rfl,rfl⟩, ?_⟩⟩⟩
  rw [A0v,Y9,Yf,Yf]
  refine⟨⟨by omega,by omega⟩,⟨⟨by omega,by omega⟩,Call.use (Z0 _ (by omega)) ⟨⟨rfl,rfl⟩, ?_⟩⟩⟩
  rw [A0v,Y9]
  refine⟨by simp;omega,ih (i+1) _ (by omega) (by simp;omega) ?_⟩
  rw [A2b Uc s i hlt]at hE
  simpa [Uc] using hE
theorem Bmn(s:List UInt8)(hs:s.length≤1000000000):Call E0.P Aei [.imm (.str s)] [] (Is (.imm (.str (Axx s))) []):=by
 refine Awn _ _ ?_
 rw [Bpd]
 have hl:(s.flatMap Uc).length=2*s.length:=by
  clear hs
  induction s with
  |nil=>rfl
  |cons c s ih=>rw [List.flatMap_cons,List.length_append,ih];simp [Uc];omega
 refine Bl6 s hs _ s.length 0 [] rfl (by simp) ?_
 rw [List.drop_zero,List.nil_append]
 refine Ase _ _ (Aqp _ _ ?_)
 rw [show([IV.int .u8 (62:Int)]:List IV)=[IV.int .u8 (((62:UInt8).toNat:Nat):Int)] from rfl,Y9,Yf,Yf,Auz]
 exact⟨⟨by rw [hl];omega,by rw [hl];omega⟩,⟨⟨⟨rfl,by rw [List.length_append,hl];simp;omega⟩,Ain _⟩,Asd _ _ ⟨rfl,rfl⟩⟩⟩
end Go.Proofs.Sim.Se
set_option maxRecDepth 100000
namespace Go.Proofs.Sim.Se
open Go Go.Proofs Go.Proofs.Sim Go.Proofs.Sim.Va Go.RowKit
theorem Ayk(c:UInt8):Vy c=true↔32≤c.toNat∧c.toNat≤126:=by simp [Vy]
theorem A6q(c:UInt8):Azs c=true↔32≤c.toNat∧c.toNat≤126∧Z9 (c.toNat:Int)=2∧c.toNat≠35:=by simp [Azs]
theorem Bdc(c:UInt8):Call E0.P Z8 [.imm (.int .u8 (c.toNat:Int))] [] (Is (.imm (.bool (Vy c))) []):=by
 refine Ay7 _ _ (Let.intro ?_)
 have:(bif decide ((32:Int)≤(c.toNat:Int))then decide ((c.toNat:Int)≤126)else false)=Vy c:=by
  rw [Bool.eq_iff_iff,Ayk,cond_eq_ite]
  split
  ·rename_i h
   have h:=of_decide_eq_true h
   rw [decide_eq_true_iff];omega
  ·rename_i h
   have h:¬(32:Int)≤(c.toNat:Int):=fun h'=>h (decide_eq_true h')
   constructor
   ·intro h';cases h'
   ·intro h';omega
 rw [this];exact⟨rfl,rfl⟩
theorem Atv(c:UInt8):(M9 c).length≤3:=by unfold M9;split<;>simp [Uc]
theorem Axq(c:UInt8):(Oc c).length≤2:=by unfold Oc;split<;>simp
theorem Az6(f:UInt8→List UInt8)(k:Nat)(h:∀c,(f c).length≤k)(s:List UInt8):(s.flatMap f).length≤k*s.length:=by
 induction s with
 |nil=>simp
 |cons c s ih=>
  have:=h c
  rw [List.flatMap_cons,List.length_append,List.length_cons,Nat.mul_succ];omega
theorem Bc5(s:List UInt8)(hs:s.length≤1000000000)(K:Ex→St→Prop)(i:Nat)(hi:i<s.length)(acc:List UInt8)(h:Kz s s.length ((i+1:Nat):Int) (Ay acc) K):Vd s s.length i (Ay acc) (Nk K):=by
 refine Ar1 _ _ _ _ _ ?_
 rw [Ni i (by omega)]
 exact Avy _ _ _ _ _ h
theorem Bmf(s:List UInt8)(hs:s.length≤1000000000)(K:Ex→St→Prop)(i:Nat)(hi:i<s.length)(acc:List UInt8)(ha:acc.length≤3*i+1)(b:Bool)(hb:b=Azs s[i])
 (h:Kz s s.length ((i+1:Nat):Int) (Ay (acc++M9 s[i])) K):Vb s (s[i].toNat:Int) s.length i b (Ay acc) (Rl K):=by
 have hc:=Bba s[i]
 have h35:([IV.int .u8 (35:Int)]:List IV)=[IV.int .u8 (((35:UInt8).toNat:Nat):Int)]:=rfl
 refine Arz _ _ _ _ _ _ _ ⟨fun e=> ?_,fun e=> ?_⟩
 ·rw [M9, ←hb,if_pos e]at h
  rw [Yf,Y9]
  exact⟨⟨by omega,by omega⟩,Av0 _ _ _ _ _ (Bc5 s hs K i hi _ h)⟩
 ·rw [M9, ←hb,if_neg (by rw [e];decide)]at h
  refine Av1 _ _ _ _ _ _ (Ar0 _ _ _ _ _ _ ?_)
  rw [hi4,lo4,h35,Y9,Yf,Yf]
  refine⟨⟨by omega,by omega⟩,⟨by decide,Call.use (Z0 _ (by omega)) ⟨⟨rfl,rfl⟩, ?_⟩⟩⟩
  rw [A0v,Y9,Yf]
  refine⟨by simp;omega,Call.use (Z0 _ (by omega)) ⟨⟨rfl,rfl⟩,⟨by simp;omega, ?_⟩⟩⟩
  rw [A0v,Y9]
  refine Avz _ _ _ _ _ (Bc5 s hs K i hi _ ?_)
  simpa [Uc] using h
theorem Bjs(s:List UInt8)(hs:s.length≤1000000000)(K:Ex→St→Prop):∀(m i:Nat) (acc:List UInt8),m+i=s.length→acc.length≤3*i+1→K (.exit 0) ⟨[(3, .ptr (Nm.loc 3) 0)],Bm3 (Ay (acc++(s.drop i).flatMap M9))⟩→
 Kz s s.length i (Ay acc) K:=by
 intro m
 induction m with
 |zero=>
  intro i acc hi ha hE
  refine Ahj _ _ _ _ _ (Cc (fun h=>by omega) fun _=> ?_)
  rw [List.drop_of_length_le (by omega)]at hE
  simpa using hE
 |succ m ih=>
  intro i acc hi ha hE
  have hlt:i<s.length:=by omega
  refine Ahj _ _ _ _ _ (Cc (fun _=> ?_) fun h=>by omega)
  rw [N9 s i hlt]
  have hn:Kz s s.length ((i+1:Nat):Int) (Ay (acc++M9 s[i])) K:=by
   have:=Atv s[i]
   refine ih (i+1) _ (by omega) (by simp;omega) ?_
   rw [A2b M9 s i hlt]at hE
   simpa using hE
  refine⟨⟨by omega,by omega⟩,Call.use (Bdc s[i]) ⟨⟨rfl,rfl⟩, ?_⟩⟩
  rw [Pj]
  refine⟨fun h=> ?_,fun h=>⟨rfl,Let.intro (Let.intro ?_)⟩⟩
  ·have h1:=(Ayk _).1 (eq_of_beq h)
   refine Call.use (As4 _) ⟨⟨rfl,rfl⟩,Let.intro (Let.intro (Bmf s hs K i hlt acc ha _ ?_ hn))⟩
   rw [Hm,Bool.eq_iff_iff,A6q,cond_eq_ite]
   split
   ·rename_i h2
    have h2:=of_decide_eq_true h2
    simp [h1,h2];omega
   ·rename_i h2
    constructor
    ·intro h3;cases h3
    ·intro h3;exact absurd (decide_eq_true h3.2.2.1) h2
  ·refine Bmf s hs K i hlt acc ha _ ?_ hn
   rw [Bool.eq_iff_iff,A6q]
   constructor
   ·intro h3;cases h3
   ·intro h3
    have:Vy s[i]=true:=(Ayk _).2 ⟨h3.1,h3.2.1⟩
    rw [this]at h;cases h
theorem As6(s:List UInt8)(hs:s.length≤1000000000):Call E0.P Z7 [.imm (.str s)] [] (Is (.imm (.str (Cr s))) []):=by
 have hl:=Az6 M9 3 Atv s
 refine Ay5 _ _ ⟨⟨by decide,by decide⟩, ?_⟩
 refine Bjs s hs _ s.length 0 [47] rfl (by simp) ?_
 rw [List.drop_zero]
 refine Avx _ _ (Ar2 _ _ ?_)
 rw [Auz,Yf]
 exact⟨⟨⟨rfl,by simp only [List.length_append,List.length_cons,List.length_nil];omega⟩,Ain _⟩,Avw _ _ ⟨rfl,rfl⟩⟩
theorem Baj(s:List UInt8):(Axx s).length=2*s.length+1:=by
 have:(s.flatMap Uc).length=2*s.length:=by
  induction s with
  |nil=>rfl
  |cons c s ih=>rw [List.flatMap_cons,List.length_append,ih];simp [Uc];omega
 rw [Axx,List.length_append,this];rfl
theorem Bk7(s:List UInt8)(i:Nat)(h:i<s.length)(hc:Vy s[i]=false):s.all Vy=false:=by
 rw [Bool.eq_false_iff]
 intro ha
 rw [List.all_eq_true]at ha
 have:=ha s[i] (List.getElem_mem h)
 rw [hc]at this;cases this
theorem Bkn(c:UInt8):((bif (bif decide ((c.toNat:Int)=40)then true else decide ((c.toNat:Int)=41))then true else decide ((c.toNat:Int)=92))=true)↔(c=40∨c=41∨c=92):=by
 have e:∀n:UInt8,c=n↔c.toNat=n.toNat:=fun n=>⟨fun h=>h ▸ rfl,UInt8.toNat_inj.1⟩
 rw [Apz,orB,e,e,e]
 show _↔(c.toNat=40∨c.toNat=41∨c.toNat=92)
 omega
theorem Bf3(s:List UInt8)(hs:s.length≤1000000000)(Q:AV→Heap→Prop)(hQ:Q (.imm (.str (Aag s))) []):∀(m i:Nat) (acc:List UInt8),m+i=s.length→acc.length≤2*i+1→(∀c∈s.take i,Vy c=true)→acc++(s.drop i).flatMap Oc=40::s.flatMap Oc→
 Mj s s.length i (Ay acc) (Px Q):=by
 intro m
 induction m with
 |zero=>
  intro i acc hi ha hall hE
  refine Afu _ _ _ _ _ (Cc (fun h=>by omega) fun _=> ?_)
  rw [List.drop_of_length_le (by omega)]at hE
  rw [List.take_of_length_le (by omega)]at hall
  have hl:=Az6 Oc 2 Axq s
  have hE:acc=40::s.flatMap Oc:=by simpa using hE
  rw [Aag,if_pos (List.all_eq_true.2 hall), ←hE]at hQ
  refine Asy _ _ (Aqw _ _ ?_)
  rw [show([IV.int .u8 (41:Int)]:List IV)=[IV.int .u8 (((41:UInt8).toNat:Nat):Int)] from rfl,Y9,Yf,Yf,Auz]
  exact⟨⟨by omega,by omega⟩,⟨⟨⟨rfl,by simp;omega⟩,Ain _⟩,Asw _ _ hQ⟩⟩
 |succ m ih=>
  intro i acc hi ha hall hE
  have hlt:i<s.length:=by omega
  refine Afu _ _ _ _ _ (Cc (fun _=> ?_) fun h=>by omega)
  rw [N9 s i hlt,Ni i (by omega)]
  refine⟨⟨by omega,by omega⟩,Call.use (Bdc s[i]) ⟨⟨rfl,rfl⟩, ?_⟩⟩
  rw [Pj]
  refine⟨fun h=> ?_,fun h=> ?_⟩
  ·have h:Vy s[i]=false:=by simpa using h
   rw [Aag,if_neg (by rw [Bk7 s i hlt h];decide)]at hQ
   have:=Baj s
   refine Call.use (Bmn s hs) ⟨⟨rfl,rfl⟩,⟨?_,Asx _ _ hQ⟩⟩
   show(((1+(Axx s).length:Nat):Int))≤_
   omega
  ·have h:Vy s[i]=true:=by simpa using h
   have hall':=Aj3 (P:=fun c:UInt8=>Vy c=true) _ _ hlt hall h
   rw [A2b Oc s i hlt]at hE
   have hel:=Axq s[i]
   have hn:Mj s s.length ((i+1:Nat):Int) (Ay (acc++Oc s[i])) (Px Q):=ih (i+1) _ (by omega) (by simp;omega) hall' (by rw [List.append_assoc];exact hE)
   refine Let.intro (Let.intro (Ef (Bkn _) (fun e=> ?_) fun e=> ?_))
   ·rw [Oc,if_pos e]at hn
    rw [show([IV.int .u8 (92:Int)]:List IV)=[IV.int .u8 (((92:UInt8).toNat:Nat):Int)] from rfl,Y9,Yf,Yf,Y9]
    refine⟨⟨by omega,by omega⟩,⟨by simp;omega, ?_⟩⟩
    simpa using hn
   ·rw [Oc,if_neg e]at hn
    rw [Y9,Yf]
    exact⟨⟨by omega,by omega⟩,hn⟩
theorem A4u(s:List UInt8)(hs:s.length≤1000000000):Call E0.P Aem [.imm (.str s)] [] (Is (.imm (.str (Aag s))) []):=
 Aww _ _ ⟨⟨by decide,by decide⟩,Bf3 s hs _ ⟨rfl,rfl⟩ s.length 0 [40] rfl (by simp) (by simp) (by simp)⟩
end Go.Proofs.Sim.Se
set_option maxRecDepth 100000
namespace Go.Proofs.Sim.Se
open Go Go.Proofs Go.Proofs.Sim Go.Proofs.Sim.Va Go.RowKit
abbrev Bic(v:V):List IV:=[.int .i64 v.k, .int .i64 v.n, .int .i64 v.g, .str v.s, .sl .any 6 (v.l.map V.row), .sl .any 7 (v.d.map Bf)]
theorem Ata {b:Bool} {p:Prop} {A B:Prop} (hb:b=true↔p)(h1:¬p→A)(h2:p→B):Br (b == false) A B:=by
 cases b with
 |true=>exact⟨fun h=>absurd h (by decide),fun _=>h2 (hb.1 rfl)⟩
 |false=>exact⟨fun _=>h1 (fun hp=>by cases hb.2 hp),fun h=>absurd h (by decide)⟩
theorem Bm5 {A B:Prop} (h:A):Br true A B:=⟨fun _=>h,fun h=>absurd h (by decide)⟩
theorem Ank {A B:Prop} (h:B):Br (true == false) A B:=⟨fun h=>absurd h (by decide),fun _=>h⟩
theorem Ari(s:List UInt8):Call E0.P Ac5 [.imm (.str s), .imm (.int .u8 0)] [] (Is (.imm (.int .i64 (Lib.indexByte s 0))) []):=by
 refine Tn Tryz.func76 (by kernel_rfl) (by kernel_rfl) [.str s, .int .u8 0] _ fun g w vs hv hs=> ?_
 obtain⟨v,u,rfl,hr,hu⟩:=Bci hv
 obtain rfl:=Ap3 hr
 obtain rfl:=Aba hu
 refine(Tryz.strings_IndexByte ⟨s.toArray⟩ 0 w).mono ?_
 rintro e w' ⟨rfl,rfl⟩
 exact⟨_, .imm (.int .i64 (Lib.indexByte s 0)),rfl,Below.refl _ _, .imm _ _ (.int _ _),rfl,rfl⟩
theorem Bi4(s:List UInt8):Call E0.P Wt [.imm (.str s)] [] (Is (.imm (.bool (decide ((0:UInt8)∈s)))) []):=by
 refine A1d _ _ (Call.use (Ari s) ⟨⟨rfl,rfl⟩, ?_⟩)
 have:decide ((0:Int)≤Lib.indexByte s 0)=decide ((0:UInt8)∈s):=by
  rw [←Lib.contains_iff_indexByte];simp
 rw [Hm,this]
 exact⟨rfl,rfl⟩
theorem Bc8(v:V):Call E0.P Ub [.imm (.agg (Bic v)), .imm (.agg [.bool (hN v.k), .bool (hG v.k), .bool (hS v.k), .bool (hL v.k), .bool (hD v.k)])] [] (Is (.imm (.bool (decide (He v)))) []):=by
 have hk:∀(p:Prop) [Decidable p],(!decide p)=true↔¬p:=fun p _=>by simp
 have i0:((bif !hN v.k then !decide (v.n=0)else false)=true)↔(v.n≠0∧¬(v.k=1∨v.k=2∨v.k=7)):=by
  rw [hN];by_cases a:v.k=1∨v.k=2∨v.k=7<;>simp [a]
 have i1:((bif !hG v.k then !decide (v.g=0)else false)=true)↔(v.g≠0∧v.k≠7):=by
  rw [hG];by_cases a:v.k=7<;>simp [a]
 have i2:((bif !hS v.k then !v.s == []else false)=true)↔(v.s≠[]∧¬(v.k=3∨v.k=4∨v.k=8)):=by
  rw [hS];by_cases a:v.k=3∨v.k=4∨v.k=8<;>simp [a]
 have i3:((bif !hL v.k then decide ((0:Int)<((v.l.map V.row).length:Int))else false)=true)↔(0<v.l.length∧v.k≠5):=by
  rw [hL,List.length_map];by_cases a:v.k=5<;>simp [a]
 have i4:((bif !hD v.k then decide ((0:Int)<((v.d.map Bf).length:Int))else false)=true)↔(0<v.d.length∧¬(v.k=6∨v.k=8)):=by
  rw [hD,List.length_map];by_cases a:v.k=6∨v.k=8<;>simp [a]
 have yes:He v→Is (.imm (.bool (decide (He v)))) [] (.imm (.bool true)) []:=fun h=>by rw [decide_eq_true h];exact⟨rfl,rfl⟩
 refine Ar7 _ _ _ _ _ _ _ _ _ _ _ _ (Let.intro (Ata i0 (fun n0=> ?_) fun y=>⟨rfl,Let.intro (Ank ⟨rfl,Let.intro (Ank ⟨rfl,Let.intro (Ank ⟨rfl,Let.intro (yes (.inl y))⟩)⟩)⟩)⟩))
 refine Let.intro (Let.intro (Ata i1 (fun n1=> ?_) fun y=>⟨rfl,Let.intro (Ank ⟨rfl,Let.intro (Ank ⟨rfl,Let.intro (yes (.inr (.inl y)))⟩)⟩)⟩))
 refine Let.intro (Let.intro (Ata i2 (fun n2=> ?_) fun y=>⟨rfl,Let.intro (Ank ⟨rfl,Let.intro (yes (.inr (.inr (.inl y))))⟩)⟩))
 refine Let.intro (Let.intro (Ata i3 (fun n3=> ?_) fun y=>⟨rfl,Let.intro (yes (.inr (.inr (.inr (.inl y)))))⟩))
 refine Let.intro (Let.intro ?_)
 have:(bif !hD v.k then decide ((0:Int)<((v.d.map Bf).length:Int))else false)=decide (He v):=by
  rw [Bool.eq_iff_iff,i4,Bt,He]
  exact⟨fun h=> .inr (.inr (.inr (.inr h))),fun h=>by
   rcases h with h |h |h |h |h
   ·exact absurd h n0
   ·exact absurd h n1
   ·exact absurd h n2
   ·exact absurd h n3
   ·exact h⟩
 rw [this]
 exact⟨rfl,rfl⟩
theorem Bf6(v:V):Call E0.P Ac6 [.imm (.agg (Bic v))] [] (Is (.imm (.bool (decide (Oj v)))) []):=by
 have fin:∀b:Bool,(b=true↔Oj v)→Is (.imm (.bool (decide (Oj v)))) [] (.imm (.bool b)) []:=by
  intro b hb
  have:b=decide (Oj v):=by rw [Bool.eq_iff_iff,hb,Bt]
  rw [this];exact⟨rfl,rfl⟩
 refine Avh _ _ _ _ _ _ _ (Cc (fun h=>⟨by decide,fin _ ?_⟩) fun h1=>Cc (fun h=>Let.intro (fin _ ?_)) fun h2=>Cc (fun h=>Let.intro (Let.intro (Let.intro (fin _ ?_)))) fun h7=>fin _ ?_)
 ·rw [Int.fdiv_eq_ediv_of_nonneg _ (by decide),Oj]
  simp only [Bool.not_eq_true',decide_eq_false_iff_not]
  omega
 ·rw [orB,Oj];omega
 ·rw [Apz,Apz,orB,Oj];omega
 ·rw [Oj]
  constructor
  ·intro h;cases h
  ·intro h;omega
theorem Bcd(v:V)(st:Bool)(w:Int)(b:Bool)(hk:¬((v.k<0∨8<v.k)∨(v.k=8∧st=false)))(hb:b=true↔(He v∨(v.k=3∧(0:UInt8)∈v.s)))(Q:AV→Heap→Prop)(hQ:Q (.imm (.int .i64 (Wy v st w))) [])(x0 x1 x2:Bool):
 J6 w b v.k v.n v.g v.s (v.l.map V.row) (v.d.map Bf) x0 x1 x2 (hL v.k) (hD v.k) (Ho Q):=by
 rw [Wy,if_neg hk]at hQ
 have ret:∀n:Int,Q (.imm (.int .i64 n)) []→Ho Q .ret ⟨[(6, .imm (.int .i64 n))],[]⟩:=fun n h=>Axe _ _ h
 have i9:((bif (bif hL v.k then true else hD v.k)then decide ((64:Int)≤w)else false)=true)↔((v.k=5∨v.k=6∨v.k=8)∧64≤w):=by
  rw [hL,hD]
  by_cases a:v.k=5
  ·simp [a]
  ·by_cases c:v.k=6∨v.k=8<;>simp [a,c]
 have l8:∀n:Nat,((127:Int)<(n:Int)↔127<n)∧((65535:Int)<(n:Int)↔65535<n)∧((1048576:Int)<(n:Int)↔1048576<n):=fun n=>⟨by omega,by omega,by omega⟩
 obtain⟨q1,q2,q3⟩:=l8 v.s.length
 refine Awk _ _ _ _ _ _ _ _ _ _ _ _ _ _ (Ef hb (fun h=>ret _ ?_) fun h4=>Call.use (Bf6 v) ⟨⟨rfl,rfl⟩,Ef (p:=Oj v) (by rw [Pj];exact Bt) (fun h=>ret _ ?_) fun h3=> ?_⟩)
 ·rw [if_pos h]at hQ;exact hQ
 ·rw [if_neg h4,if_pos h]at hQ;exact hQ
 rw [if_neg h4,if_neg h3]at hQ
 refine Let.intro (Ata (p:=v.k=3∧127<v.s.length) (by rw [Tm,q1]) (fun a1=>Let.intro (Let.intro (Ef (p:=v.k=4∧65535<v.s.length) (by rw [Tm,q2]) (fun h=>ret _ ?_) fun a2=> ?_))) fun h=>⟨rfl,Let.intro (Bm5 (ret _ ?_))⟩)
 ·rw [if_pos (.inr h)]at hQ;exact hQ
 ·rw [if_neg (fun h=>h.elim a1 a2)]at hQ
  refine Let.intro (Ef (p:=v.k=8∧1048576<v.s.length) (by rw [Tm,q3]) (fun h=>ret _ ?_) fun a3=>Let.intro (Let.intro (Ef i9 (fun h=>ret _ ?_) fun a4=>Axf _ (Ava _ (Axd _ _ ?_)))))
  ·rw [if_pos h]at hQ;exact hQ
  ·rw [if_neg a3,if_pos h]at hQ;exact hQ
  ·rw [if_neg a3,if_neg a4]at hQ;exact hQ
 ·rw [if_pos (.inl h)]at hQ;exact hQ
theorem Bot(v:V)(st:Bool)(w:Int):Call E0.P Aj9 [.imm (.agg (Bic v)), .imm (.bool st), .imm (.int .i64 w)] [] (Is (.imm (.int .i64 (Wy v st w))) []):=by
 have ih:hOK v.k=true↔(0≤v.k∧v.k≤8):=by simp [hOK]
 refine A1e _ _ _ _ _ _ _ _ _ (Call.use (Bi2 v.k) ⟨⟨rfl,rfl⟩,Ata (p:=v.k<0∨8<v.k) ?_ (fun hk=>Let.intro (Let.intro (Ef (p:=v.k=8∧st=false) ?_ (fun h=> ?_) fun h8=> ?_))) fun h=>⟨rfl,Let.intro (Bm5 ?_)⟩⟩)
 ·show(!hOK v.k)=true↔_
  rw [Bool.not_eq_true', ←Bool.not_eq_true,ih];omega
 ·by_cases a:v.k=8<;>cases st<;>simp [a]
 ·rw [Wy,if_pos (.inr h)];exact⟨rfl,rfl⟩
 ·have hk':¬((v.k<0∨8<v.k)∨(v.k=8∧st=false)):=fun h=>h.elim hk h8
  refine Call.use (Bc8 v) ⟨⟨rfl,rfl⟩,Ata (p:=He v) (by rw [Pj];exact Bt) (fun e=> ?_) fun e=>⟨rfl,Let.intro (Bcd v st w _ hk' ⟨fun _=> .inl e,fun _=>rfl⟩ _ ⟨rfl,rfl⟩ _ _ _)⟩⟩
  refine⟨fun h=> ?_,fun h=>⟨rfl,Let.intro (Let.intro (Bcd v st w _ hk' ⟨fun h=>(by cases h),fun h'=> ?_⟩ _ ⟨rfl,rfl⟩ _ _ _))⟩⟩
  ·have h3:=of_decide_eq_true (eq_of_beq h)
   refine Call.use (Bi4 v.s) ⟨⟨rfl,rfl⟩,Let.intro (Let.intro (Bcd v st w _ hk' ?_ _ ⟨rfl,rfl⟩ _ _ _))⟩
   rw [Pj,Bt]
   exact⟨fun h=> .inr ⟨h3,h⟩,fun h=>h.elim (fun h=>absurd h e) fun h=>h.2⟩
  ·exfalso
   rcases h' with h' |h'
   ·exact e h'
   ·rw [decide_eq_true h'.1]at h;cases h
 ·rw [Wy,if_pos (.inl h)];exact⟨rfl,rfl⟩
theorem A8o {v:V} {st:Bool} {w:Int} (h:Wy v st w=0)(hc:0<v.l.length∨0<v.d.length):w<64:=by
 unfold Wy at h
 split at h
 ·cases h
 split at h
 ·cases h
 split at h
 ·cases h
 split at h
 ·cases h
 split at h
 ·cases h
 split at h
 ·cases h
 ·rename_i h4 _ _ _ h9
  have hx:¬He v:=fun h=>h4 (.inl h)
  rw [He]at hx
  omega
end Go.Proofs.Sim.Se
set_option maxRecDepth 100000
namespace Go.Proofs.Sim.Se
open Go Go.Proofs Go.Proofs.Sim Go.Proofs.Sim.Va Go.RowKit
theorem Ber(m:List (List UInt8 × Int))(k:List UInt8)(v:Int)(x:List UInt8):Cx (Yi m k v) x=if x=k then v else Cx m x:=by
 induction m with
 |nil=>rw [Yi,Cx];rfl
 |cons a m ih=>
  obtain⟨k0,u⟩:=a
  rw [Yi]
  by_cases h:k=k0
  ·subst h
   rw [if_pos rfl,Cx,Cx]
   by_cases hx:x=k
   ·simp [hx]
   ·simp [hx]
  ·rw [if_neg h,Cx,Cx,ih]
   by_cases hx:x=k0
   ·subst hx
    simp [Ne.symm h]
   ·simp [hx]
theorem ndT {p:Prop} {i:Decidable p} (h:(!@decide p i)=true):¬p:=by
 intro hp
 rw [@decide_eq_true p i hp]at h;cases h
theorem ndF {p:Prop} {i:Decidable p} (h:(!@decide p i)=false):p:=by
 cases hd: @decide p i with
 |true=>exact of_decide_eq_true hd
 |false=>rw [hd]at h;cases h
theorem Bn1(p:Pr):gS (Bf p) 0=p.1:=by rw [I8];rfl
abbrev CheckAt(v:V):Prop:=∀(st:Bool) (w:Int),0≤w→w≤64→Call E0.P R6 [.imm (.agg v.row), .imm (.bool st), .imm (.int .i64 w)] [] (Is (.imm (.int .i64 (v.chk st w))) [])
theorem Bjo(v:V)(hl:v.l.length≤1000000000000)(ih:∀x∈v.l,CheckAt x)(w:Int)(hw0:0≤w)(hw:0<v.l.length→w<64)(a b c:Int)(s:List UInt8)(p q:List (List IV))(K:Ex→St→Prop)
 (hR:Y6 (v.l.map fun x=>x.chk false (w+1))≠0→K .ret ⟨[(6, .imm (.int .i64 (Y6 (v.l.map fun x=>x.chk false (w+1)))))],[]⟩)
 (hE:Y6 (v.l.map fun x=>x.chk false (w+1))=0→K (.exit 0) ⟨[(2, .imm (.int .i64 w)),(3, .ptr (Nm.loc 3) 0)],[(Nm.loc 3, .blk Aa [.imm (.int .i64 a), .imm (.int .i64 b), .imm (.int .i64 c), .imm (.str s), .imm (.sl .any 6 p), .imm (.sl .any 7 q)])]⟩):
 ∀(m i:Nat),m+i=v.l.length→Y6 (v.l.map fun x=>x.chk false (w+1))=Y6 ((v.l.drop i).map fun x=>x.chk false (w+1))→Vo w (Mo v.l) v.l.length i a b c s p q K:=by
 intro m
 induction m with
 |zero=>
  intro i hi he
  refine Aft _ _ _ _ _ _ _ _ _ _ _ (Cc (fun h=>by omega) fun _=> ?_)
  rw [List.drop_of_length_le (by omega)]at he
  exact hE he
 |succ m ihm=>
  intro i hi he
  have hlt:i<v.l.length:=by omega
  have hm:Nh v.l i∈v.l:=by simp [Nh,List.getD_eq_getElem?_getD,hlt]
  have hd:v.l.drop i=Nh v.l i::v.l.drop (i+1):=by rw [List.drop_eq_getElem_cons hlt];simp [Nh,List.getD_eq_getElem?_getD,hlt]
  have hw:=hw (by omega)
  refine Aft _ _ _ _ _ _ _ _ _ _ _ (Cc (fun _=> ?_) fun h=>by omega)
  rw [show(Mo v.l).getD (Int.toNat (i:Int)) []=(Nh v.l i).row from Abo _ _ hlt,Gm,Ig,Ni i (by omega),Az _ (by omega) (by omega)]
  refine⟨⟨⟨by omega,by omega⟩,Abp _ _ _⟩,Call.use (ih _ hm false (w+1) (by omega) (by omega)) ⟨⟨rfl,rfl⟩, ?_⟩⟩
  rw [Hm]
  rw [hd,List.map_cons,Y6]at he
  refine⟨fun h=> ?_,fun h=>ihm (i+1) (by omega) ?_⟩
  ·have h:=ndT h
   rw [if_pos h]at he
   rw [he]at hR
   exact hR h
  ·have h:=ndF h
   rw [if_neg (by simpa using h)]at he
   exact he
theorem Bjn(v:V)(hl:v.d.length≤1000000000000)(ih:∀x∈v.d,CheckAt x.2)(w:Int)(hw0:0≤w)(hw:0<v.d.length→w<64)(K:Ex→St→Prop)
 (hR:K .ret ⟨[(6, .imm (.int .i64 (Akd [] (v.d.map fun x=>(x.1,x.2.chk false (w+1))))))],[]⟩):
 ∀(m i:Nat) (seen:List Ky) (M:List (List UInt8 × Int)),m+i=v.d.length→(∀x,Cx M x=if x∈seen then 1 else 0)→
  Akd [] (v.d.map fun x=>(x.1,x.2.chk false (w+1)))=Akd seen ((v.d.drop i).map fun x=>(x.1,x.2.chk false (w+1)))→Td w (Bh v.d) v.d.length i M (Md K):=by
 intro m
 induction m with
 |zero=>
  intro i seen M hi hM he
  refine Adv _ _ _ _ _ _ (Cc (fun h=>by omega) fun _=> ?_)
  rw [List.drop_of_length_le (by omega)]at he
  rw [he]at hR
  exact Asr _ (Aqv _ (Asq _ _ hR))
 |succ m ihm=>
  intro i seen M hi hM he
  have hlt:i<v.d.length:=by omega
  have hm:Bp v.d i∈v.d:=by simp [Bp,List.getD_eq_getElem?_getD,hlt]
  have hd:v.d.drop i=Bp v.d i::v.d.drop (i+1):=by rw [List.drop_eq_getElem_cons hlt];simp [Bp,List.getD_eq_getElem?_getD,hlt]
  have hw:=hw (by omega)
  obtain⟨p,hp⟩:∃p,Bp v.d i=p:=⟨_,rfl⟩
  rw [hp]at hm hd
  refine Adv _ _ _ _ _ _ (Cc (fun _=> ?_) fun h=>by omega)
  rw [show(Bh v.d).getD (Int.toNat (i:Int)) []=Bf (Bp v.d i) from Aew _ _ hlt,hp,Bn1,A7]
  rw [hd,List.map_cons,Akd]at he
  have i2:∀b:Bool,(b=true↔Jn p.1)→(((bif b then true else decide ((0:Int)<Cx M p.1))=true)↔(Jn p.1∨p.1∈seen)):=by
   intro b hb
   rw [Apz,hb,hM]
   by_cases h:p.1∈seen<;>simp [h]
  have bad:(Jn p.1∨p.1∈seen)→Md K .ret ⟨[(6, .imm (.int .i64 11))],[]⟩:=by
   intro h
   rw [if_pos h]at he
   rw [he]at hR
   exact Afp _ _ hR
  have good:¬(Jn p.1∨p.1∈seen)→Sr w (Bh v.d) v.d.length i M p.1 (gI (Bf p) 1) (gI (Bf p) 2) (gI (Bf p) 3) (gS (Bf p) 4) (gR (Bf p) 5) (gR (Bf p) 6) (Pw (Md K)):=by
   intro h
   rw [if_neg h]at he
   refine Aqt _ _ _ _ _ _ _ _ _ _ _ _ _ ?_
   rw [Qh,Az (w+1) (by omega) (by omega)]
   refine Call.use (ih _ hm false (w+1) (by omega) (by omega)) ⟨⟨rfl,rfl⟩, ?_⟩
   rw [Hm]
   refine⟨fun h2=> ?_,fun h2=> ?_⟩
   ·rw [if_pos (ndT h2)]at he
    rw [he]at hR
    exact Asu _ _ (Afp _ _ hR)
   ·rw [if_neg (by simpa using ndF h2)]at he
    refine Asv _ _ _ _ _ _ (Aqu _ _ _ _ _ _ ?_)
    rw [Ni i (by omega)]
    refine Ass _ _ _ _ _ _ (ihm (i+1) (seen++[p.1]) _ (by omega) (fun x=> ?_) he)
    rw [Ber,hM,hM,if_neg (show ¬p.1∈seen from fun h3=>h (.inr h3))]
    by_cases hx:x=p.1
    ·rw [if_pos hx,if_pos (by rw [hx];simp)];rfl
    ·rw [if_neg hx]
     by_cases h4:x∈seen
     ·rw [if_pos h4,if_pos (by simp [h4])]
     ·rw [if_neg h4,if_neg (by simp [h4,hx])]
  refine⟨⟨⟨by omega,by omega⟩,Dz _ _ _⟩,Ata (p:=127<p.1.length) (by rw [Bt];omega) (fun h1=>Call.use (Bi4 _) ⟨⟨rfl,rfl⟩,Let.intro (Let.intro (Ef (i2 _ ?_) bad good))⟩) fun h1=>⟨rfl,Let.intro (Let.intro (Ef (i2 _ ?_) bad good))⟩⟩
  ·rw [Pj,Bt,Jn]
   exact⟨fun h=> .inr h,fun h=>h.elim (fun h=>absurd h h1) id⟩
  ·exact⟨fun _=> .inl h1,fun _=>rfl⟩
theorem Bjv(v:V)(hf:Fit v):CheckAt v:=by
 induction hf with
 |mk v h1 h2 h3 h4 ih1 ih2=>
  intro st w hw0 hw
  rw [Co,A60]
  refine Awu _ _ _ _ _ _ _ _ _ (Call.use (Bot v st w) ⟨⟨rfl,rfl⟩, ?_⟩)
  rw [Hm]
  refine⟨fun h=> ?_,fun h=> ?_⟩
  ·rw [if_pos (ndT h)];exact⟨rfl,rfl⟩
  ·have h0:=ndF h
   rw [if_neg (by simpa using h0)]
   rw [List.length_map]
   refine Bjo v h1 ih1 w hw0 (fun hc=>A8o h0 (.inl hc)) _ _ _ _ _ _ _ (fun he=> ?_) (fun he=> ?_) v.l.length 0 rfl (by rw [List.drop_zero])
   ·rw [if_pos he]
    exact Aso _ _ ⟨rfl,rfl⟩
   ·rw [if_neg (by simpa using he)]
    refine Asp _ _ _ _ _ _ _ _ (Aqs _ _ _ _ _ _ _ _ ?_)
    rw [List.length_map]
    exact Bjn v h2 ih2 w hw0 (fun hc=>A8o h0 (.inr hc)) _ (Asn _ _ ⟨rfl,rfl⟩) v.d.length 0 [] [] rfl (fun x=>by simp [Cx]) (by rw [List.drop_zero])
theorem A94(v:V)(hf:Fit v)(st:Bool):Call E0.P R4 [.imm (.agg v.row), .imm (.bool st)] [] (Is (.imm (.int .i64 (v.chk st 0))) []):=by
 have h:=Bjv v hf st 0 (by decide) (by decide)
 rw [Co]at h ⊢
 exact Aws _ _ _ _ _ _ _ _ (Call.use h ⟨⟨rfl,rfl⟩,⟨rfl,rfl⟩⟩)
end Go.Proofs.Sim.Se

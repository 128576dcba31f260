import Derived.Test.YtcdjheflchglaaaDoorSeatGenW
import Derived.Test.YtcdjheflchglaaaDoorWrL
import Derived.Test.YtcdjheflchglaaaDoorZi
import Derived.Test.YtcdjheflchglaaaDoorVsC
import Derived.Test.YtcdjheflchglaaaDoorTrydShelf
import Derived.Lib.IndexAny
set_option maxRecDepth 100000
namespace Go.Proofs.Sim.Se
open Go Go.Proofs Go.Proofs.Sim Go.Proofs.Sim.Va Go.RowKit
theorem F3 {p:Prop} {i:Decidable p} {A B:Prop} (h1:p→A)(h2:¬p→B):Br (@decide p i) A B:=⟨fun h=>h1 (of_decide_eq_true h),fun h=>h2 (of_decide_eq_false h)⟩
theorem brB {b:Bool} {p:Prop} {A B:Prop} (hb:b=true↔p)(h1:p→A)(h2:¬p→B):Br b A B:=⟨fun h=>h1 (hb.1 h),fun h=>h2 fun hp=>by rw [hb.2 hp]at h;cases h⟩
theorem Aoh(a:Int):Call E0.P Xw [.imm (.int .u8 a)] [] (Is (.imm (.int .i64 (Aaw a))) []):=by
 have key:∀(b:Bool) (Q:AV→Heap→Prop),Q (.imm (.int .i64 (if b=true then 0 else if a=40∨a=41∨a=60∨a=62∨a=91∨a=93∨a=123∨a=125∨a=47∨a=37 then 1 else 2))) []→Fv a b (Dm Q):=by
  intro b Q hq
  have one:∀ {n:Int},a=n→b=false→(n=40∨n=41∨n=60∨n=62∨n=91∨n=93∨n=123∨n=125∨n=47∨n=37)→Br (decide (a=n)) (Dm Q .ret ⟨[(2, .imm (.int .i64 1))],[]⟩) (Dm Q .normal ⟨[],[]⟩):=by
   intro n e hb hn
   refine F3 (fun _=> ?_) fun h=>absurd e h
   subst e
   rw [hb,if_neg (by decide),if_pos hn]at hq
   exact Qn _ _ hq
  refine Ag2 _ _ _ ⟨fun h=> ?_,fun h=> ?_⟩
  ·rw [h,if_pos rfl]at hq;exact Qn _ _ hq
  refine F3 (fun e=>one e h (by omega)) fun n1=>F3 (fun e=>one e h (by omega)) fun n2=>F3 (fun e=>one e h (by omega)) fun n3=>F3 (fun e=>one e h (by omega)) fun n4=>F3 (fun e=>one e h (by omega)) fun n5=>
   F3 (fun e=>one e h (by omega)) fun n6=>F3 (fun e=>one e h (by omega)) fun n7=>F3 (fun e=>one e h (by omega)) fun n8=>F3 (fun e=>one e h (by omega)) fun n9=>F3 (fun e=> ?_) fun n10=> ?_
  ·rw [h,if_neg (by decide),if_pos (by omega)]at hq
   exact Qn _ _ hq
  ·rw [h,if_neg (by decide),if_neg (by omega)]at hq
   exact Ahd _ (Aej _ (Ahc _ _ hq))
 have fin:∀(p:Prop) [Decidable p],((a=0∨a=9∨a=10∨a=12∨a=13∨a=32)↔p)→Fv a (decide p) (Dm (Is (.imm (.int .i64 (Aaw a))) [])):=by
  intro p _ hp
  refine key _ _ ?_
  rw [Aaw]
  by_cases h:p
  ·rw [if_pos (hp.2 h),if_pos (decide_eq_true h)];exact⟨rfl,rfl⟩
  ·rw [if_neg (fun h'=>h (hp.1 h')),if_neg (show ¬decide p=true by rw [decide_eq_false h];decide)];exact⟨rfl,rfl⟩
 refine Ajg _ _ (F3 (fun e=>fin _ (by omega)) fun n1=>F3 (fun e=>fin _ (by omega)) fun n2=>F3 (fun e=>fin _ (by omega)) fun n3=>F3 (fun e=>fin _ (by omega)) fun n4=>F3 (fun e=>fin _ (by omega)) fun n5=>fin _ (by omega))
theorem A2u:∀n:Fin 16,(if(n:Nat)<10 then IntKind.u8.wrap (IntKind.i64.wrap ((48:Int)+((n:Nat):Int)))else IntKind.u8.wrap (IntKind.i64.wrap (IntKind.i64.wrap ((65:Int)+((n:Nat):Int)) - (10:Int))))=(((Vp n).toNat:Nat):Int):=by decide+kernel
theorem Rk(n:Nat)(hn:n≤15):Call E0.P J5 [.imm (.int .i64 (n:Int))] [] (Is (.imm (.int .u8 ((Vp n).toNat:Int))) []):=by
 have h:=A2u ⟨n,by omega⟩
 simp only at h
 refine Ah2 _ _ (Let.intro (brB (orB _ _) (fun h=>by omega) fun _=>F3 (fun h1=> ?_) fun h1=> ?_))
 ·rw [if_pos (by omega)]at h;rw [h];exact⟨rfl,rfl⟩
 ·rw [if_neg (by omega)]at h;rw [h];exact⟨rfl,rfl⟩
theorem Awi(s:List UInt8)(i:Nat)(h:i<s.length):s.getD (Int.toNat (i:Int)) 0=s[i]:=by simp [List.getD_eq_getElem?_getD,h]
theorem Asf(c:UInt8):c.toNat<256:=c.toNat_lt
theorem hi4(c:UInt8):IntKind.i64.wrap (((c.toNat:Nat):Int).fdiv ((2:Int) ^ (4:Nat)))=((c.toNat / 16:Nat):Int):=by
 have:=Asf c
 rw [Int.fdiv_eq_ediv_of_nonneg _ (by decide),A7 _ (by omega) (by omega)];omega
theorem A2w:∀n:Fin 256,IntKind.i64.wrap (IntKind.u8.wrap (↑(BitVec.ofInt 8 ((n:Nat):Int) &&& BitVec.ofInt 8 (15:Int)).toNat:Int))=(((n:Nat) % 16:Nat):Int):=by decide+kernel
theorem lo4(c:UInt8):IntKind.i64.wrap (IntKind.u8.wrap (↑(BitVec.ofInt 8 ((c.toNat:Nat):Int) &&& BitVec.ofInt 8 (15:Int)).toNat:Int))=((c.toNat % 16:Nat):Int):=A2w ⟨c.toNat,Asf c⟩
theorem Z4(a:List UInt8)(c:UInt8):Be a++[[IV.int .u8 (c.toNat:Int)]]=Be (a++[c]):=by simp [Be]
theorem A2p:([]:List (List IV))=Be []:=rfl
theorem bl1(a:List UInt8):(Be a).length=a.length:=by simp [Be]
theorem Alh(a:List UInt8):∀r∈Be a,Cb [.int .u8] r=true:=by
 intro r hr
 simp only [Be,List.mem_map]at hr
 obtain⟨b,_,rfl⟩:=hr
 rfl
theorem Att(a:List UInt8):List.map (fun r=>UInt8.ofNat (gI r 0).toNat) (Be a)=a:=by
 induction a with
 |nil=>rfl
 |cons b a ih=>
  have e:UInt8.ofNat (gI [IV.int .u8 (b.toNat:Int)] 0).toNat=b:=by
   show UInt8.ofNat ((b.toNat:Int)).toNat=b
   simp
  have e2:Be (b::a)=[.int .u8 (b.toNat:Int)]::Be a:=rfl
  rw [e2,List.map_cons,e,ih]
theorem Ako(c:UInt8):rI (.imm (.int .u8 (c.toNat:Int)))=(c.toNat:Int):=rfl
theorem Alq(f:UInt8→List UInt8)(s:List UInt8)(i:Nat)(h:i<s.length):(s.drop i).flatMap f=f s[i]++(s.drop (i+1)).flatMap f:=by
 rw [List.drop_eq_getElem_cons h];rfl
theorem wr1(i:Nat)(h:i≤1000000000000):IntKind.i64.wrap ((i:Int)+1)=((i+1:Nat):Int):=by rw [A7 _ (by omega) (by omega)];simp
abbrev A04(l:List (List IV)):Heap:=[(Nm.loc 3, .blk Az [.self (Nm.loc 3), .own ((Nm.loc 3).cell 1)]),((Nm.loc 3).cell 1, .arr (C9+2) true 1 l)]
theorem A0i(s:List UInt8)(hs:s.length≤1000000000)(K:Ex→St→Prop):∀(m i:Nat) (acc:List UInt8),m+i=s.length→acc.length≤2*i→K (.exit 0) ⟨[(3, .ptr (Nm.loc 3) 0)],A04 (Be (acc++(s.drop i).flatMap K4))⟩→
 O1 s s.length i (Be acc) K:=by
 intro m
 induction m with
 |zero=>
  intro i acc hi ha hE
  refine Wx _ _ _ _ _ (F3 (fun h=>by omega) fun _=> ?_)
  rw [List.drop_of_length_le (by omega)]at hE
  simpa using hE
 |succ m ih=>
  intro i acc hi ha hE
  have hlt:i<s.length:=by omega
  have hc:=Asf s[i]
  refine Wx _ _ _ _ _ (F3 (fun _=> ?_) fun h=>by omega)
  rw [Awi s i hlt,hi4,lo4,wr1 i (by omega)]
  refine⟨⟨by omega,by omega⟩,⟨by decide,Call.use (Rk _ (by omega)) ⟨⟨rfl,rfl⟩, ?_⟩⟩⟩
  rw [Ako,Z4,bl1,bl1]
  refine⟨⟨by omega,by omega⟩,⟨⟨by omega,by omega⟩,Call.use (Rk _ (by omega)) ⟨⟨rfl,rfl⟩, ?_⟩⟩⟩
  rw [Ako,Z4]
  refine⟨by simp;omega,ih (i+1) _ (by omega) (by simp;omega) ?_⟩
  rw [Alq K4 s i hlt]at hE
  simpa [K4] using hE
theorem A0u(s:List UInt8)(hs:s.length≤1000000000):Call E0.P Vt [.imm (.str s)] [] (Is (.imm (.str (Af0 s))) []):=by
 refine Ah0 _ _ ?_
 rw [A2p]
 have hl:(s.flatMap K4).length=2*s.length:=by
  clear hs
  induction s with
  |nil=>rfl
  |cons c s ih=>rw [List.flatMap_cons,List.length_append,ih];simp [K4];omega
 refine A0i s hs _ s.length 0 [] rfl (by simp) ?_
 rw [List.drop_zero,List.nil_append]
 refine Aew _ _ (Adx _ _ ?_)
 rw [show([IV.int .u8 (62:Int)]:List IV)=[IV.int .u8 (((62:UInt8).toNat:Nat):Int)] from rfl,Z4,bl1,bl1,Att]
 exact⟨⟨by rw [hl];omega,by rw [hl];omega⟩,⟨⟨⟨rfl,by rw [List.length_append,hl];simp;omega⟩,Alh _⟩,Aev _ _ ⟨rfl,rfl⟩⟩⟩
end Go.Proofs.Sim.Se
set_option maxRecDepth 100000
namespace Go.Proofs.Sim.Se
open Go Go.Proofs Go.Proofs.Sim Go.Proofs.Sim.Va Go.RowKit
theorem Ai5(c:UInt8):Df c=true↔32≤c.toNat∧c.toNat≤126:=by simp [Df]
theorem Aol(c:UInt8):Ajx c=true↔32≤c.toNat∧c.toNat≤126∧Aaw (c.toNat:Int)=2∧c.toNat≠35:=by simp [Ajx]
theorem Atz(c:UInt8):Call E0.P Rn [.imm (.int .u8 (c.toNat:Int))] [] (Is (.imm (.bool (Df c))) []):=by
 refine Ajk _ _ (Let.intro ?_)
 have:(bif decide ((32:Int)≤(c.toNat:Int))then decide ((c.toNat:Int)≤126)else false)=Df c:=by
  rw [Bool.eq_iff_iff,Ai5,cond_eq_ite]
  split
  ·rename_i h
   have h:=of_decide_eq_true h
   rw [decide_eq_true_iff];omega
  ·rename_i h
   have h:¬(32:Int)≤(c.toNat:Int):=fun h'=>h (decide_eq_true h')
   constructor
   ·intro h';cases h'
   ·intro h';omega
 rw [this];exact⟨rfl,rfl⟩
theorem Af6(c:UInt8):(Ia c).length≤3:=by unfold Ia;split<;>simp [K4]
theorem Air(c:UInt8):(Jj c).length≤2:=by unfold Jj;split<;>simp
theorem Aj9(f:UInt8→List UInt8)(k:Nat)(h:∀c,(f c).length≤k)(s:List UInt8):(s.flatMap f).length≤k*s.length:=by
 induction s with
 |nil=>simp
 |cons c s ih=>
  have:=h c
  rw [List.flatMap_cons,List.length_append,List.length_cons,Nat.mul_succ];omega
theorem Atw(s:List UInt8)(hs:s.length≤1000000000)(K:Ex→St→Prop)(i:Nat)(hi:i<s.length)(acc:List UInt8)(h:Ih s s.length ((i+1:Nat):Int) (Be acc) K):O0 s s.length i (Be acc) (J4 K):=by
 refine Aer _ _ _ _ _ ?_
 rw [wr1 i (by omega)]
 exact Ahg _ _ _ _ _ h
theorem A0o(s:List UInt8)(hs:s.length≤1000000000)(K:Ex→St→Prop)(i:Nat)(hi:i<s.length)(acc:List UInt8)(ha:acc.length≤3*i+1)(b:Bool)(hb:b=Ajx s[i])
 (h:Ih s s.length ((i+1:Nat):Int) (Be (acc++Ia s[i])) K):Oz s (s[i].toNat:Int) s.length i b (Be acc) (Mg K):=by
 have hc:=Asf s[i]
 have h35:([IV.int .u8 (35:Int)]:List IV)=[IV.int .u8 (((35:UInt8).toNat:Nat):Int)]:=rfl
 refine Aep _ _ _ _ _ _ _ ⟨fun e=> ?_,fun e=> ?_⟩
 ·rw [Ia, ←hb,if_pos e]at h
  rw [bl1,Z4]
  exact⟨⟨by omega,by omega⟩,Ahi _ _ _ _ _ (Atw s hs K i hi _ h)⟩
 ·rw [Ia, ←hb,if_neg (by rw [e];decide)]at h
  refine Ahj _ _ _ _ _ _ (Aeq _ _ _ _ _ _ ?_)
  rw [hi4,lo4,h35,Z4,bl1,bl1]
  refine⟨⟨by omega,by omega⟩,⟨by decide,Call.use (Rk _ (by omega)) ⟨⟨rfl,rfl⟩, ?_⟩⟩⟩
  rw [Ako,Z4,bl1]
  refine⟨by simp;omega,Call.use (Rk _ (by omega)) ⟨⟨rfl,rfl⟩,⟨by simp;omega, ?_⟩⟩⟩
  rw [Ako,Z4]
  refine Ahh _ _ _ _ _ (Atw s hs K i hi _ ?_)
  simpa [K4] using h
theorem Ayx(s:List UInt8)(hs:s.length≤1000000000)(K:Ex→St→Prop):∀(m i:Nat) (acc:List UInt8),m+i=s.length→acc.length≤3*i+1→K (.exit 0) ⟨[(3, .ptr (Nm.loc 3) 0)],A04 (Be (acc++(s.drop i).flatMap Ia))⟩→
 Ih s s.length i (Be acc) K:=by
 intro m
 induction m with
 |zero=>
  intro i acc hi ha hE
  refine Yb _ _ _ _ _ (F3 (fun h=>by omega) fun _=> ?_)
  rw [List.drop_of_length_le (by omega)]at hE
  simpa using hE
 |succ m ih=>
  intro i acc hi ha hE
  have hlt:i<s.length:=by omega
  refine Yb _ _ _ _ _ (F3 (fun _=> ?_) fun h=>by omega)
  rw [Awi s i hlt]
  have hn:Ih s s.length ((i+1:Nat):Int) (Be (acc++Ia s[i])) K:=by
   have:=Af6 s[i]
   refine ih (i+1) _ (by omega) (by simp;omega) ?_
   rw [Alq Ia s i hlt]at hE
   simpa using hE
  refine⟨⟨by omega,by omega⟩,Call.use (Atz s[i]) ⟨⟨rfl,rfl⟩, ?_⟩⟩
  rw [Y4]
  refine⟨fun h=> ?_,fun h=>⟨rfl,Let.intro (Let.intro ?_)⟩⟩
  ·have h1:=(Ai5 _).1 (eq_of_beq h)
   refine Call.use (Aoh _) ⟨⟨rfl,rfl⟩,Let.intro (Let.intro (A0o s hs K i hlt acc ha _ ?_ hn))⟩
   rw [Ab6,Bool.eq_iff_iff,Aol,cond_eq_ite]
   split
   ·rename_i h2
    have h2:=of_decide_eq_true h2
    simp [h1,h2];omega
   ·rename_i h2
    constructor
    ·intro h3;cases h3
    ·intro h3;exact absurd (decide_eq_true h3.2.2.1) h2
  ·refine A0o s hs K i hlt acc ha _ ?_ hn
   rw [Bool.eq_iff_iff,Aol]
   constructor
   ·intro h3;cases h3
   ·intro h3
    have:Df s[i]=true:=(Ai5 _).2 ⟨h3.1,h3.2.1⟩
    rw [this]at h;cases h
theorem Zl(s:List UInt8)(hs:s.length≤1000000000):Call E0.P K8 [.imm (.str s)] [] (Is (.imm (.str (Cg s))) []):=by
 have hl:=Aj9 Ia 3 Af6 s
 refine Aji _ _ ⟨⟨by decide,by decide⟩, ?_⟩
 refine Ayx s hs _ s.length 0 [47] rfl (by simp) ?_
 rw [List.drop_zero]
 refine Ahf _ _ (Aes _ _ ?_)
 rw [Att,bl1]
 exact⟨⟨⟨rfl,by simp only [List.length_append,List.length_cons,List.length_nil];omega⟩,Alh _⟩,Ahe _ _ ⟨rfl,rfl⟩⟩
theorem Aru(s:List UInt8):(Af0 s).length=2*s.length+1:=by
 have:(s.flatMap K4).length=2*s.length:=by
  induction s with
  |nil=>rfl
  |cons c s ih=>rw [List.flatMap_cons,List.length_append,ih];simp [K4];omega
 rw [Af0,List.length_append,this];rfl
theorem Azx(s:List UInt8)(i:Nat)(h:i<s.length)(hc:Df s[i]=false):s.all Df=false:=by
 rw [Bool.eq_false_iff]
 intro ha
 rw [List.all_eq_true]at ha
 have:=ha s[i] (List.getElem_mem h)
 rw [hc]at this;cases this
theorem Ate(b:Bool)(p:Prop) {i:Decidable p} :((bif b then true else @decide p i)=true)↔(b=true∨p):=by cases b<;>simp
theorem Azj(c:UInt8):((bif (bif decide ((c.toNat:Int)=40)then true else decide ((c.toNat:Int)=41))then true else decide ((c.toNat:Int)=92))=true)↔(c=40∨c=41∨c=92):=by
 have e:∀n:UInt8,c=n↔c.toNat=n.toNat:=fun n=>⟨fun h=>h ▸ rfl,UInt8.toNat_inj.1⟩
 rw [Ate,orB,e,e,e]
 show _↔(c.toNat=40∨c.toNat=41∨c.toNat=92)
 omega
theorem Av7(s:List UInt8)(hs:s.length≤1000000000)(Q:AV→Heap→Prop)(hQ:Q (.imm (.str (Ny s))) []):∀(m i:Nat) (acc:List UInt8),m+i=s.length→acc.length≤2*i+1→(∀c∈s.take i,Df c=true)→acc++(s.drop i).flatMap Jj=40::s.flatMap Jj→
 Jc s s.length i (Be acc) (Lf Q):=by
 intro m
 induction m with
 |zero=>
  intro i acc hi ha hall hE
  refine Wz _ _ _ _ _ (F3 (fun h=>by omega) fun _=> ?_)
  rw [List.drop_of_length_le (by omega)]at hE
  rw [List.take_of_length_le (by omega)]at hall
  have hl:=Aj9 Jj 2 Air s
  have hE:acc=40::s.flatMap Jj:=by simpa using hE
  rw [Ny,if_pos (List.all_eq_true.2 hall), ←hE]at hQ
  refine Aff _ _ (Ad6 _ _ ?_)
  rw [show([IV.int .u8 (41:Int)]:List IV)=[IV.int .u8 (((41:UInt8).toNat:Nat):Int)] from rfl,Z4,bl1,bl1,Att]
  exact⟨⟨by omega,by omega⟩,⟨⟨⟨rfl,by simp;omega⟩,Alh _⟩,Afd _ _ hQ⟩⟩
 |succ m ih=>
  intro i acc hi ha hall hE
  have hlt:i<s.length:=by omega
  refine Wz _ _ _ _ _ (F3 (fun _=> ?_) fun h=>by omega)
  rw [Awi s i hlt,wr1 i (by omega)]
  refine⟨⟨by omega,by omega⟩,Call.use (Atz s[i]) ⟨⟨rfl,rfl⟩, ?_⟩⟩
  rw [Y4]
  refine⟨fun h=> ?_,fun h=> ?_⟩
  ·have h:Df s[i]=false:=by simpa using h
   rw [Ny,if_neg (by rw [Azx s i hlt h];decide)]at hQ
   have:=Aru s
   refine Call.use (A0u s hs) ⟨⟨rfl,rfl⟩,⟨?_,Afe _ _ hQ⟩⟩
   show(((1+(Af0 s).length:Nat):Int))≤_
   omega
  ·have h:Df s[i]=true:=by simpa using h
   have hall':=Zn (P:=fun c:UInt8=>Df c=true) _ _ hlt hall h
   rw [Alq Jj s i hlt]at hE
   have hel:=Air s[i]
   have hn:Jc s s.length ((i+1:Nat):Int) (Be (acc++Jj s[i])) (Lf Q):=ih (i+1) _ (by omega) (by simp;omega) hall' (by rw [List.append_assoc];exact hE)
   refine Let.intro (Let.intro (brB (Azj _) (fun e=> ?_) fun e=> ?_))
   ·rw [Jj,if_pos e]at hn
    rw [show([IV.int .u8 (92:Int)]:List IV)=[IV.int .u8 (((92:UInt8).toNat:Nat):Int)] from rfl,Z4,bl1,bl1,Z4]
    refine⟨⟨by omega,by omega⟩,⟨by simp;omega, ?_⟩⟩
    simpa using hn
   ·rw [Jj,if_neg e]at hn
    rw [Z4,bl1]
    exact⟨⟨by omega,by omega⟩,hn⟩
theorem Adq(s:List UInt8)(hs:s.length≤1000000000):Call E0.P Qa [.imm (.str s)] [] (Is (.imm (.str (Ny s))) []):=
 Ah7 _ _ ⟨⟨by decide,by decide⟩,Av7 s hs _ ⟨rfl,rfl⟩ s.length 0 [40] rfl (by simp) (by simp) (by simp)⟩
end Go.Proofs.Sim.Se
set_option maxRecDepth 100000
namespace Go.Proofs.Sim.Se
open Go Go.Proofs Go.Proofs.Sim Go.Proofs.Sim.Va Go.RowKit
abbrev Axn(v:V):List IV:=[.int .i64 v.k, .int .i64 v.n, .int .i64 v.g, .str v.s, .sl .any 6 (v.l.map V.row), .sl .any 7 (v.d.map Bw)]
theorem Asd(p q:Prop) {i:Decidable p} {j:Decidable q} :((bif @decide p i then @decide q j else false)=true)↔(p∧q):=by by_cases p<;>by_cases q<;>simp_all
theorem Afm {b:Bool} {p:Prop} {A B:Prop} (hb:b=true↔p)(h1:¬p→A)(h2:p→B):Br (b == false) A B:=by
 cases b with
 |true=>exact⟨fun h=>absurd h (by decide),fun _=>h2 (hb.1 rfl)⟩
 |false=>exact⟨fun _=>h1 (fun hp=>by cases hb.2 hp),fun h=>absurd h (by decide)⟩
theorem A07 {A B:Prop} (h:A):Br true A B:=⟨fun _=>h,fun h=>absurd h (by decide)⟩
theorem Abo {A B:Prop} (h:B):Br (true == false) A B:=⟨fun h=>absurd h (by decide),fun _=>h⟩
theorem Vo {p:Prop} {i:Decidable p} :(@decide p i=true)↔p:=decide_eq_true_iff
theorem Aed(s:List UInt8):Call E0.P Ut [.imm (.str s), .imm (.int .u8 0)] [] (Is (.imm (.int .i64 (Lib.indexByte s 0))) []):=by
 refine Sd Tryd.func117 (by kernel_rfl) (by kernel_rfl) [.str s, .int .u8 0] _ fun g w vs hv hs=> ?_
 obtain⟨v,u,rfl,hr,hu⟩:=Ayn hv
 obtain rfl:=Aqg hr
 obtain rfl:=Sk hu
 refine(Tryd.strings_IndexByte ⟨s.toArray⟩ 0 w).mono ?_
 rintro e w' ⟨rfl,rfl⟩
 exact⟨_, .imm (.int .i64 (Lib.indexByte s 0)),rfl,Below.refl _ _, .imm _ _ (.int _ _),rfl,rfl⟩
theorem Ax8(s:List UInt8):Call E0.P Pi [.imm (.str s)] [] (Is (.imm (.bool (decide ((0:UInt8)∈s)))) []):=by
 refine Ak4 _ _ (Call.use (Aed s) ⟨⟨rfl,rfl⟩, ?_⟩)
 have:decide ((0:Int)≤Lib.indexByte s 0)=decide ((0:UInt8)∈s):=by
  rw [←Lib.contains_iff_indexByte];simp
 rw [Ab6,this]
 exact⟨rfl,rfl⟩
theorem Aty(v:V):Call E0.P Nu [.imm (.agg (Axn v)), .imm (.agg [.bool (hN v.k), .bool (hG v.k), .bool (hS v.k), .bool (hL v.k), .bool (hD v.k)])] [] (Is (.imm (.bool (decide (F4 v)))) []):=by
 have hk:∀(p:Prop) [Decidable p],(!decide p)=true↔¬p:=fun p _=>by simp
 have i0:((bif !hN v.k then !decide (v.n=0)else false)=true)↔(v.n≠0∧¬(v.k=1∨v.k=2∨v.k=7)):=by
  rw [hN];by_cases a:v.k=1∨v.k=2∨v.k=7<;>simp [a]
 have i1:((bif !hG v.k then !decide (v.g=0)else false)=true)↔(v.g≠0∧v.k≠7):=by
  rw [hG];by_cases a:v.k=7<;>simp [a]
 have i2:((bif !hS v.k then !v.s == []else false)=true)↔(v.s≠[]∧¬(v.k=3∨v.k=4∨v.k=8)):=by
  rw [hS];by_cases a:v.k=3∨v.k=4∨v.k=8<;>simp [a]
 have i3:((bif !hL v.k then decide ((0:Int)<((v.l.map V.row).length:Int))else false)=true)↔(0<v.l.length∧v.k≠5):=by
  rw [hL,List.length_map];by_cases a:v.k=5<;>simp [a]
 have i4:((bif !hD v.k then decide ((0:Int)<((v.d.map Bw).length:Int))else false)=true)↔(0<v.d.length∧¬(v.k=6∨v.k=8)):=by
  rw [hD,List.length_map];by_cases a:v.k=6∨v.k=8<;>simp [a]
 have yes:F4 v→Is (.imm (.bool (decide (F4 v)))) [] (.imm (.bool true)) []:=fun h=>by rw [decide_eq_true h];exact⟨rfl,rfl⟩
 refine Aeu _ _ _ _ _ _ _ _ _ _ _ _ (Let.intro (Afm i0 (fun n0=> ?_) fun y=>⟨rfl,Let.intro (Abo ⟨rfl,Let.intro (Abo ⟨rfl,Let.intro (Abo ⟨rfl,Let.intro (yes (.inl y))⟩)⟩)⟩)⟩))
 refine Let.intro (Let.intro (Afm i1 (fun n1=> ?_) fun y=>⟨rfl,Let.intro (Abo ⟨rfl,Let.intro (Abo ⟨rfl,Let.intro (yes (.inr (.inl y)))⟩)⟩)⟩))
 refine Let.intro (Let.intro (Afm i2 (fun n2=> ?_) fun y=>⟨rfl,Let.intro (Abo ⟨rfl,Let.intro (yes (.inr (.inr (.inl y))))⟩)⟩))
 refine Let.intro (Let.intro (Afm i3 (fun n3=> ?_) fun y=>⟨rfl,Let.intro (yes (.inr (.inr (.inr (.inl y)))))⟩))
 refine Let.intro (Let.intro ?_)
 have:(bif !hD v.k then decide ((0:Int)<((v.d.map Bw).length:Int))else false)=decide (F4 v):=by
  rw [Bool.eq_iff_iff,i4,Vo,F4]
  exact⟨fun h=> .inr (.inr (.inr (.inr h))),fun h=>by
   rcases h with h |h |h |h |h
   ·exact absurd h n0
   ·exact absurd h n1
   ·exact absurd h n2
   ·exact absurd h n3
   ·exact h⟩
 rw [this]
 exact⟨rfl,rfl⟩
theorem Av9(v:V):Call E0.P Uu [.imm (.agg (Axn v))] [] (Is (.imm (.bool (decide (K6 v)))) []):=by
 have fin:∀b:Bool,(b=true↔K6 v)→Is (.imm (.bool (decide (K6 v)))) [] (.imm (.bool b)) []:=by
  intro b hb
  have:b=decide (K6 v):=by rw [Bool.eq_iff_iff,hb,Vo]
  rw [this];exact⟨rfl,rfl⟩
 refine Ag9 _ _ _ _ _ _ _ (F3 (fun h=>⟨by decide,fin _ ?_⟩) fun h1=>F3 (fun h=>Let.intro (fin _ ?_)) fun h2=>F3 (fun h=>Let.intro (Let.intro (Let.intro (fin _ ?_)))) fun h7=>fin _ ?_)
 ·rw [Int.fdiv_eq_ediv_of_nonneg _ (by decide),K6]
  simp only [Bool.not_eq_true',decide_eq_false_iff_not]
  omega
 ·rw [orB,K6];omega
 ·rw [Ate,Ate,orB,K6];omega
 ·rw [K6]
  constructor
  ·intro h;cases h
  ·intro h;omega
theorem Atf(v:V)(st:Bool)(w:Int)(b:Bool)(hk:¬((v.k<0∨8<v.k)∨(v.k=8∧st=false)))(hb:b=true↔(F4 v∨(v.k=3∧(0:UInt8)∈v.s)))(Q:AV→Heap→Prop)(hQ:Q (.imm (.int .i64 (Ow v st w))) [])(x0 x1 x2:Bool):
 Hm w b v.k v.n v.g v.s (v.l.map V.row) (v.d.map Bw) x0 x1 x2 (hL v.k) (hD v.k) (Fs Q):=by
 rw [Ow,if_neg hk]at hQ
 have ret:∀n:Int,Q (.imm (.int .i64 n)) []→Fs Q .ret ⟨[(6, .imm (.int .i64 n))],[]⟩:=fun n h=>Aij _ _ h
 have i9:((bif (bif hL v.k then true else hD v.k)then decide ((64:Int)≤w)else false)=true)↔((v.k=5∨v.k=6∨v.k=8)∧64≤w):=by
  rw [hL,hD]
  by_cases a:v.k=5
  ·simp [a]
  ·by_cases c:v.k=6∨v.k=8<;>simp [a,c]
 have l8:∀n:Nat,((127:Int)<(n:Int)↔127<n)∧((65535:Int)<(n:Int)↔65535<n)∧((1048576:Int)<(n:Int)↔1048576<n):=fun n=>⟨by omega,by omega,by omega⟩
 obtain⟨q1,q2,q3⟩:=l8 v.s.length
 refine Ahz _ _ _ _ _ _ _ _ _ _ _ _ _ _ (brB hb (fun h=>ret _ ?_) fun h4=>Call.use (Av9 v) ⟨⟨rfl,rfl⟩,brB (p:=K6 v) (by rw [Y4];exact Vo) (fun h=>ret _ ?_) fun h3=> ?_⟩)
 ·rw [if_pos h]at hQ;exact hQ
 ·rw [if_neg h4,if_pos h]at hQ;exact hQ
 rw [if_neg h4,if_neg h3]at hQ
 refine Let.intro (Afm (p:=v.k=3∧127<v.s.length) (by rw [Asd,q1]) (fun a1=>Let.intro (Let.intro (brB (p:=v.k=4∧65535<v.s.length) (by rw [Asd,q2]) (fun h=>ret _ ?_) fun a2=> ?_))) fun h=>⟨rfl,Let.intro (A07 (ret _ ?_))⟩)
 ·rw [if_pos (.inr h)]at hQ;exact hQ
 ·rw [if_neg (fun h=>h.elim a1 a2)]at hQ
  refine Let.intro (brB (p:=v.k=8∧1048576<v.s.length) (by rw [Asd,q3]) (fun h=>ret _ ?_) fun a3=>Let.intro (Let.intro (brB i9 (fun h=>ret _ ?_) fun a4=>Aik _ (Ag7 _ (Aii _ _ ?_)))))
  ·rw [if_pos h]at hQ;exact hQ
  ·rw [if_neg a3,if_pos h]at hQ;exact hQ
  ·rw [if_neg a3,if_neg a4]at hQ;exact hQ
 ·rw [if_pos (.inl h)]at hQ;exact hQ
theorem A18(v:V)(st:Bool)(w:Int):Call E0.P Zt [.imm (.agg (Axn v)), .imm (.bool st), .imm (.int .i64 w)] [] (Is (.imm (.int .i64 (Ow v st w))) []):=by
 have ih:Sw v.k=true↔(0≤v.k∧v.k≤8):=by simp [Sw]
 refine Ak5 _ _ _ _ _ _ _ _ _ (Call.use (Ax6 v.k) ⟨⟨rfl,rfl⟩,Afm (p:=v.k<0∨8<v.k) ?_ (fun hk=>Let.intro (Let.intro (brB (p:=v.k=8∧st=false) ?_ (fun h=> ?_) fun h8=> ?_))) fun h=>⟨rfl,Let.intro (A07 ?_)⟩⟩)
 ·show(!Sw v.k)=true↔_
  rw [Bool.not_eq_true', ←Bool.not_eq_true,ih];omega
 ·by_cases a:v.k=8<;>cases st<;>simp [a]
 ·rw [Ow,if_pos (.inr h)];exact⟨rfl,rfl⟩
 ·have hk':¬((v.k<0∨8<v.k)∨(v.k=8∧st=false)):=fun h=>h.elim hk h8
  refine Call.use (Aty v) ⟨⟨rfl,rfl⟩,Afm (p:=F4 v) (by rw [Y4];exact Vo) (fun e=> ?_) fun e=>⟨rfl,Let.intro (Atf v st w _ hk' ⟨fun _=> .inl e,fun _=>rfl⟩ _ ⟨rfl,rfl⟩ _ _ _)⟩⟩
  refine⟨fun h=> ?_,fun h=>⟨rfl,Let.intro (Let.intro (Atf v st w _ hk' ⟨fun h=>(by cases h),fun h'=> ?_⟩ _ ⟨rfl,rfl⟩ _ _ _))⟩⟩
  ·have h3:=of_decide_eq_true (eq_of_beq h)
   refine Call.use (Ax8 v.s) ⟨⟨rfl,rfl⟩,Let.intro (Let.intro (Atf v st w _ hk' ?_ _ ⟨rfl,rfl⟩ _ _ _))⟩
   rw [Y4,Vo]
   exact⟨fun h=> .inr ⟨h3,h⟩,fun h=>h.elim (fun h=>absurd h e) fun h=>h.2⟩
  ·exfalso
   rcases h' with h' |h'
   ·exact e h'
   ·rw [decide_eq_true h'.1]at h;cases h
 ·rw [Ow,if_pos (.inl h)];exact⟨rfl,rfl⟩
theorem Aqa {v:V} {st:Bool} {w:Int} (h:Ow v st w=0)(hc:0<v.l.length∨0<v.d.length):w<64:=by
 unfold Ow at h
 split at h
 ·cases h
 split at h
 ·cases h
 split at h
 ·cases h
 split at h
 ·cases h
 split at h
 ·cases h
 split at h
 ·cases h
 ·rename_i h4 _ _ _ h9
  have hx:¬F4 v:=fun h=>h4 (.inl h)
  rw [F4]at hx
  omega
end Go.Proofs.Sim.Se
set_option maxRecDepth 100000
namespace Go.Proofs.Sim.Se
open Go Go.Proofs Go.Proofs.Sim Go.Proofs.Sim.Va Go.RowKit
theorem Axf(m:List (List UInt8 × Int))(k:List UInt8)(v:Int)(x:List UInt8):Jd (mUp m k v) x=if x=k then v else Jd m x:=by
 induction m with
 |nil=>rw [mUp,Jd];rfl
 |cons a m ih=>
  obtain⟨k0,u⟩:=a
  rw [mUp]
  by_cases h:k=k0
  ·subst h
   rw [if_pos rfl,Jd,Jd]
   by_cases hx:x=k
   ·simp [hx]
   ·simp [hx]
  ·rw [if_neg h,Jd,Jd,ih]
   by_cases hx:x=k0
   ·subst hx
    simp [Ne.symm h]
   ·simp [hx]
theorem ndT {p:Prop} {i:Decidable p} (h:(!@decide p i)=true):¬p:=by
 intro hp
 rw [@decide_eq_true p i hp]at h;cases h
theorem ndF {p:Prop} {i:Decidable p} (h:(!@decide p i)=false):p:=by
 cases hd: @decide p i with
 |true=>exact of_decide_eq_true hd
 |false=>rw [hd]at h;cases h
theorem A1o(p:Pr):gS (Bw p) 0=p.1:=by rw [Iq];rfl
abbrev CheckAt(v:V):Prop:=∀(st:Bool) (w:Int),0≤w→w≤64→Call E0.P Mr [.imm (.agg v.row), .imm (.bool st), .imm (.int .i64 w)] [] (Is (.imm (.int .i64 (v.chk st w))) [])
theorem Ayt(v:V)(hl:v.l.length≤1000000000000)(ih:∀x∈v.l,CheckAt x)(w:Int)(hw0:0≤w)(hw:0<v.l.length→w<64)(a b c:Int)(s:List UInt8)(p q:List (List IV))(K:Ex→St→Prop)
 (hR:Ou (v.l.map fun x=>x.chk false (w+1))≠0→K .ret ⟨[(6, .imm (.int .i64 (Ou (v.l.map fun x=>x.chk false (w+1)))))],[]⟩)
 (hE:Ou (v.l.map fun x=>x.chk false (w+1))=0→K (.exit 0) ⟨[(2, .imm (.int .i64 w)),(3, .ptr (Nm.loc 3) 0)],[(Nm.loc 3, .blk Ac [.imm (.int .i64 a), .imm (.int .i64 b), .imm (.int .i64 c), .imm (.str s), .imm (.sl .any 6 p), .imm (.sl .any 7 q)])]⟩):
 ∀(m i:Nat),m+i=v.l.length→Ou (v.l.map fun x=>x.chk false (w+1))=Ou ((v.l.drop i).map fun x=>x.chk false (w+1))→O3 w (Jg v.l) v.l.length i a b c s p q K:=by
 intro m
 induction m with
 |zero=>
  intro i hi he
  refine Wy _ _ _ _ _ _ _ _ _ _ _ (F3 (fun h=>by omega) fun _=> ?_)
  rw [List.drop_of_length_le (by omega)]at he
  exact hE he
 |succ m ihm=>
  intro i hi he
  have hlt:i<v.l.length:=by omega
  have hm:J3 v.l i∈v.l:=by simp [J3,List.getD_eq_getElem?_getD,hlt]
  have hd:v.l.drop i=J3 v.l i::v.l.drop (i+1):=by rw [List.drop_eq_getElem_cons hlt];simp [J3,List.getD_eq_getElem?_getD,hlt]
  have hw:=hw (by omega)
  refine Wy _ _ _ _ _ _ _ _ _ _ _ (F3 (fun _=> ?_) fun h=>by omega)
  rw [show(Jg v.l).getD (Int.toNat (i:Int)) []=(J3 v.l i).row from Ta _ _ hlt,Du,Ey,wr1 i (by omega),A7 _ (by omega) (by omega)]
  refine⟨⟨⟨by omega,by omega⟩,Tc _ _ _⟩,Call.use (ih _ hm false (w+1) (by omega) (by omega)) ⟨⟨rfl,rfl⟩, ?_⟩⟩
  rw [Ab6]
  rw [hd,List.map_cons,Ou]at he
  refine⟨fun h=> ?_,fun h=>ihm (i+1) (by omega) ?_⟩
  ·have h:=ndT h
   rw [if_pos h]at he
   rw [he]at hR
   exact hR h
  ·have h:=ndF h
   rw [if_neg (by simpa using h)]at he
   exact he
theorem Ays(v:V)(hl:v.d.length≤1000000000000)(ih:∀x∈v.d,CheckAt x.2)(w:Int)(hw0:0≤w)(hw:0<v.d.length→w<64)(K:Ex→St→Prop)
 (hR:K .ret ⟨[(6, .imm (.int .i64 (Vw [] (v.d.map fun x=>(x.1,x.2.chk false (w+1))))))],[]⟩):
 ∀(m i:Nat) (seen:List Ky) (M:List (List UInt8 × Int)),m+i=v.d.length→(∀x,Jd M x=if x∈seen then 1 else 0)→
  Vw [] (v.d.map fun x=>(x.1,x.2.chk false (w+1)))=Vw seen ((v.d.drop i).map fun x=>(x.1,x.2.chk false (w+1)))→Nl w (Bc v.d) v.d.length i M (I5 K):=by
 intro m
 induction m with
 |zero=>
  intro i seen M hi hM he
  refine Vg _ _ _ _ _ _ (F3 (fun h=>by omega) fun _=> ?_)
  rw [List.drop_of_length_le (by omega)]at he
  rw [he]at hR
  exact Ae9 _ (Ad5 _ (Ae8 _ _ hR))
 |succ m ihm=>
  intro i seen M hi hM he
  have hlt:i<v.d.length:=by omega
  have hm:Bl v.d i∈v.d:=by simp [Bl,List.getD_eq_getElem?_getD,hlt]
  have hd:v.d.drop i=Bl v.d i::v.d.drop (i+1):=by rw [List.drop_eq_getElem_cons hlt];simp [Bl,List.getD_eq_getElem?_getD,hlt]
  have hw:=hw (by omega)
  obtain⟨p,hp⟩:∃p,Bl v.d i=p:=⟨_,rfl⟩
  rw [hp]at hm hd
  refine Vg _ _ _ _ _ _ (F3 (fun _=> ?_) fun h=>by omega)
  rw [show(Bc v.d).getD (Int.toNat (i:Int)) []=Bw (Bl v.d i) from V9 _ _ hlt,hp,A1o,Ap]
  rw [hd,List.map_cons,Vw]at he
  have i2:∀b:Bool,(b=true↔F9 p.1)→(((bif b then true else decide ((0:Int)<Jd M p.1))=true)↔(F9 p.1∨p.1∈seen)):=by
   intro b hb
   rw [Ate,hb,hM]
   by_cases h:p.1∈seen<;>simp [h]
  have bad:(F9 p.1∨p.1∈seen)→I5 K .ret ⟨[(6, .imm (.int .i64 11))],[]⟩:=by
   intro h
   rw [if_pos h]at he
   rw [he]at hR
   exact Ww _ _ hR
  have good:¬(F9 p.1∨p.1∈seen)→Nc w (Bc v.d) v.d.length i M p.1 (gI (Bw p) 1) (gI (Bw p) 2) (gI (Bw p) 3) (gS (Bw p) 4) (gR (Bw p) 5) (gR (Bw p) 6) (Le (I5 K)):=by
   intro h
   rw [if_neg h]at he
   refine Ad3 _ _ _ _ _ _ _ _ _ _ _ _ _ ?_
   rw [Sz,A7 (w+1) (by omega) (by omega)]
   refine Call.use (ih _ hm false (w+1) (by omega) (by omega)) ⟨⟨rfl,rfl⟩, ?_⟩
   rw [Ab6]
   refine⟨fun h2=> ?_,fun h2=> ?_⟩
   ·rw [if_pos (ndT h2)]at he
    rw [he]at hR
    exact Afb _ _ (Ww _ _ hR)
   ·rw [if_neg (by simpa using ndF h2)]at he
    refine Afc _ _ _ _ _ _ (Ad4 _ _ _ _ _ _ ?_)
    rw [wr1 i (by omega)]
    refine Afa _ _ _ _ _ _ (ihm (i+1) (seen++[p.1]) _ (by omega) (fun x=> ?_) he)
    rw [Axf,hM,hM,if_neg (show ¬p.1∈seen from fun h3=>h (.inr h3))]
    by_cases hx:x=p.1
    ·rw [if_pos hx,if_pos (by rw [hx];simp)];rfl
    ·rw [if_neg hx]
     by_cases h4:x∈seen
     ·rw [if_pos h4,if_pos (by simp [h4])]
     ·rw [if_neg h4,if_neg (by simp [h4,hx])]
  refine⟨⟨⟨by omega,by omega⟩,Dt _ _ _⟩,Afm (p:=127<p.1.length) (by rw [Vo];omega) (fun h1=>Call.use (Ax8 _) ⟨⟨rfl,rfl⟩,Let.intro (Let.intro (brB (i2 _ ?_) bad good))⟩) fun h1=>⟨rfl,Let.intro (Let.intro (brB (i2 _ ?_) bad good))⟩⟩
  ·rw [Y4,Vo,F9]
   exact⟨fun h=> .inr h,fun h=>h.elim (fun h=>absurd h h1) id⟩
  ·exact⟨fun _=> .inl h1,fun _=>rfl⟩
theorem Ayz(v:V)(hf:Fit v):CheckAt v:=by
 induction hf with
 |mk v h1 h2 h3 h4 ih1 ih2=>
  intro st w hw0 hw
  rw [Cj,Afq]
  refine Ah6 _ _ _ _ _ _ _ _ _ (Call.use (A18 v st w) ⟨⟨rfl,rfl⟩, ?_⟩)
  rw [Ab6]
  refine⟨fun h=> ?_,fun h=> ?_⟩
  ·rw [if_pos (ndT h)];exact⟨rfl,rfl⟩
  ·have h0:=ndF h
   rw [if_neg (by simpa using h0)]
   rw [List.length_map]
   refine Ayt v h1 ih1 w hw0 (fun hc=>Aqa h0 (.inl hc)) _ _ _ _ _ _ _ (fun he=> ?_) (fun he=> ?_) v.l.length 0 rfl (by rw [List.drop_zero])
   ·rw [if_pos he]
    exact Ae6 _ _ ⟨rfl,rfl⟩
   ·rw [if_neg (by simpa using he)]
    refine Ae7 _ _ _ _ _ _ _ _ (Ad2 _ _ _ _ _ _ _ _ ?_)
    rw [List.length_map]
    exact Ays v h2 ih2 w hw0 (fun hc=>Aqa h0 (.inr hc)) _ (Ae5 _ _ ⟨rfl,rfl⟩) v.d.length 0 [] [] rfl (fun x=>by simp [Jd]) (by rw [List.drop_zero])
theorem Ale(v:V)(hf:Fit v)(st:Bool):Call E0.P Mq [.imm (.agg v.row), .imm (.bool st)] [] (Is (.imm (.int .i64 (v.chk st 0))) []):=by
 have h:=Ayz v hf st 0 (by decide) (by decide)
 rw [Cj]at h ⊢
 exact Ah3 _ _ _ _ _ _ _ _ (Call.use h ⟨⟨rfl,rfl⟩,⟨rfl,rfl⟩⟩)
end Go.Proofs.Sim.Se

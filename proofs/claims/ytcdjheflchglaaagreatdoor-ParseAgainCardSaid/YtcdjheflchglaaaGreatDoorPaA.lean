import Derived.Test.YtcdjheflchglaaaGreatDoorDtA
import Derived.Test.YtcdjheflchglaaaGreatDoorPaL
set_option maxRecDepth 100000
namespace Go.Proofs.Sim.Se
open Go Go.Proofs Go.Proofs.Sim Go.Proofs.Sim.Va Go.RowKit Go.Proofs.Sim.Pa
theorem Cm {p:Prop} {i:Decidable p} {A B:Prop} (h1:p→A)(h2:¬p→B):Br (@decide p i) A B:=⟨fun h=>h1 (of_decide_eq_true h),fun h=>h2 (of_decide_eq_false h)⟩
theorem Gb {b:Bool} {p:Prop} {A B:Prop} (hb:b=true↔p)(h1:p→A)(h2:¬p→B):Br b A B:=⟨fun h=>h1 (hb.1 h),fun h=>h2 fun hp=>by rw [hb.2 hp]at h;cases h⟩
theorem brN {b:Bool} {p:Prop} {A B:Prop} (hb:b=true↔p)(h1:¬p→A)(h2:p→B):Br (!b) A B:=by
 cases b with
 |true=>exact⟨fun h=>absurd h (by decide),fun _=>h2 (hb.1 rfl)⟩
 |false=>exact⟨fun _=>h1 fun hp=>(by have:=hb.2 hp;cases this),fun h=>absurd h (by decide)⟩
theorem brE {b:Bool} {p:Prop} {A B:Prop} (hb:b=true↔p)(h1:p→A)(h2:¬p→B):Br (b == true) A B:=by cases b<;>exact Gb (by simpa using hb) h1 h2
theorem Ajx(b:Bool)(p:Prop) {i:Decidable p} :((bif b then true else @decide p i)=true)↔(b=true∨p):=by cases b<;>simp
theorem A6n(p q:Prop) {i:Decidable p} {j:Decidable q} :((bif @decide p i then true else @decide q j)=true)↔(p∨q):=by by_cases p<;>by_cases q<;>simp_all
theorem Q0(p q:Prop) {i:Decidable p} {j:Decidable q} :((bif @decide p i then @decide q j else false)=true)↔(p∧q):=by by_cases p<;>by_cases q<;>simp_all
theorem Cf {p:Prop} {i:Decidable p} :(@decide p i=true)↔p:=decide_eq_true_iff
theorem Mt(s:List UInt8)(i:Nat)(h:i<s.length):s.getD (Int.toNat (i:Int)) 0=s[i]:=by simp [List.getD_eq_getElem?_getD,h]
theorem Md(i:Nat)(h:i≤1000000000000):IntKind.i64.wrap ((i:Int)+1)=((i+1:Nat):Int):=by rw [Be _ (by omega) (by omega)];simp
theorem wrA(i j:Nat)(h:i+j≤1000000000000):IntKind.i64.wrap ((i:Int)+(j:Int))=((i+j:Nat):Int):=by rw [Be _ (by omega) (by omega)];simp
theorem wrS(i j:Nat)(h:j≤i)(h2:i≤1000000000000):IntKind.i64.wrap ((i:Int) - (j:Int))=((i - j:Nat):Int):=by rw [Be _ (by omega) (by omega)];omega
theorem Io {α:Type} (l:List α)(i:Nat)(h:i<l.length):l.drop i=l[i]::l.drop (i+1):=List.drop_eq_getElem_cons h
theorem brT {A B:Prop} (h:A):Br true A B:=⟨fun _=>h,fun h=>absurd h (by decide)⟩
theorem brF {A B:Prop} (h:B):Br false A B:=⟨fun h=>absurd h (by decide),fun _=>h⟩
theorem Aqb {b:Bool} {A B:Prop} (hb:b=false)(h:A):Br (!b) A B:=by subst hb;exact brT h
theorem Aqc {b:Bool} {A B:Prop} (hb:b=true)(h:B):Br (!b) A B:=by subst hb;exact brF h
theorem Vz(a:List UInt8)(c:UInt8):A8 a++[[IV.int .u8 (c.toNat:Int)]]=A8 (a++[c]):=by simp [A8]
theorem Bc0:([]:List (List IV))=A8 []:=rfl
theorem Vg(a:List UInt8):(A8 a).length=a.length:=by simp [A8]
theorem Aek(a:List UInt8):∀r∈A8 a,Cu [.int .u8] r=true:=by
 intro r hr
 simp only [A8,List.mem_map]at hr
 obtain⟨b,_,rfl⟩:=hr
 rfl
theorem An2(a:List UInt8):List.map (fun r=>UInt8.ofNat (gI r 0).toNat) (A8 a)=a:=by
 induction a with
 |nil=>rfl
 |cons b a ih=>
  have e:UInt8.ofNat (gI [IV.int .u8 (b.toNat:Int)] 0).toNat=b:=by
   show UInt8.ofNat ((b.toNat:Int)).toNat=b
   simp
  have e2:A8 (b::a)=[.int .u8 (b.toNat:Int)]::A8 a:=rfl
  rw [e2,List.map_cons,e,ih]
theorem Ar9(c:UInt8):rI (.imm (.int .u8 (c.toNat:Int)))=(c.toNat:Int):=rfl
theorem Atc(f:UInt8→List UInt8)(s:List UInt8)(i:Nat)(h:i<s.length):(s.drop i).flatMap f=f s[i]++(s.drop (i+1)).flatMap f:=by
 rw [List.drop_eq_getElem_cons h];rfl
end Go.Proofs.Sim.Se
set_option maxRecDepth 100000
namespace Go.Proofs.Sim.Se
open Go Go.Proofs Go.Proofs.Sim Go.Proofs.Sim.Va Go.RowKit Go.Proofs.Sim.Pa
theorem Al5(a:Int):Call E0.P Lg [.imm (.int .u8 a)] [] (Is (.imm (.int .i64 (W9 a))) []):=by
 have key:∀(b:Bool) (Q:AV→Heap→Prop),Q (.imm (.int .i64 (if b=true then 0 else if a=40∨a=41∨a=60∨a=62∨a=91∨a=93∨a=123∨a=125∨a=47∨a=37 then 1 else 2))) []→Hf a b (Em Q):=by
  intro b Q hq
  have one:∀ {n:Int},a=n→b=false→(n=40∨n=41∨n=60∨n=62∨n=91∨n=93∨n=123∨n=125∨n=47∨n=37)→Br (decide (a=n)) (Em Q .ret ⟨[(2, .imm (.int .i64 1))],[]⟩) (Em Q .normal ⟨[],[]⟩):=by
   intro n e hb hn
   refine Cm (fun _=> ?_) fun h=>absurd e h
   subst e
   rw [hb,if_neg (by decide),if_pos hn]at hq
   exact Vm _ _ hq
  refine An3 _ _ _ ⟨fun h=> ?_,fun h=> ?_⟩
  ·rw [h,if_pos rfl]at hq;exact Vm _ _ hq
  refine Cm (fun e=>one e h (by omega)) fun n1=>Cm (fun e=>one e h (by omega)) fun n2=>Cm (fun e=>one e h (by omega)) fun n3=>Cm (fun e=>one e h (by omega)) fun n4=>Cm (fun e=>one e h (by omega)) fun n5=>
   Cm (fun e=>one e h (by omega)) fun n6=>Cm (fun e=>one e h (by omega)) fun n7=>Cm (fun e=>one e h (by omega)) fun n8=>Cm (fun e=>one e h (by omega)) fun n9=>Cm (fun e=> ?_) fun n10=> ?_
  ·rw [h,if_neg (by decide),if_pos (by omega)]at hq
   exact Vm _ _ hq
  ·rw [h,if_neg (by decide),if_neg (by omega)]at hq
   exact Aoj _ (Ak8 _ (Aoi _ _ hq))
 have fin:∀(p:Prop) [Decidable p],((a=0∨a=9∨a=10∨a=12∨a=13∨a=32)↔p)→Hf a (decide p) (Em (Is (.imm (.int .i64 (W9 a))) [])):=by
  intro p _ hp
  refine key _ _ ?_
  rw [W9]
  by_cases h:p
  ·rw [if_pos (hp.2 h),if_pos (decide_eq_true h)];exact⟨rfl,rfl⟩
  ·rw [if_neg (fun h'=>h (hp.1 h')),if_neg (show ¬decide p=true by rw [decide_eq_false h];decide)];exact⟨rfl,rfl⟩
 refine Aqx _ _ (Cm (fun e=>fin _ (by omega)) fun n1=>Cm (fun e=>fin _ (by omega)) fun n2=>Cm (fun e=>fin _ (by omega)) fun n3=>Cm (fun e=>fin _ (by omega)) fun n4=>Cm (fun e=>fin _ (by omega)) fun n5=>fin _ (by omega))
theorem A4u(c:UInt8):Call E0.P Lg [.imm (.int .u8 (c.toNat:Int))] [] (Is (.imm (.int .i64 (kd c))) []):=Al5 _
theorem Bcr(c:UInt8):c.toNat<256:=c.toNat_lt
theorem Wh(c:UInt8):Call E0.P T9 [.imm (.int .u8 (c.toNat:Int))] [] (Is (.imm (.int .i64 (Cq c))) []):=by
 have hc:=Bcr c
 refine Aso _ _ (Let.intro (Gb (Q0 _ _) (fun h=> ?_) fun h1=>Let.intro (Gb (Q0 _ _) (fun h=> ?_) fun h2=>Let.intro (Gb (Q0 _ _) (fun h=> ?_) fun h3=> ?_))))
 ·rw [wrap_u8 _ (by omega) (by omega),Be _ (by omega) (by omega)]
  unfold Cq;rw [if_pos (by omega)];exact⟨rfl,rfl⟩
 ·rw [wrap_u8 _ (by omega) (by omega),Be ((c.toNat:Int) - 65) (by omega) (by omega),Be _ (by omega) (by omega)]
  unfold Cq;rw [if_neg (by omega),if_pos (by omega),show(c.toNat:Int) - 65+10=(c.toNat:Int) - 55 by omega];exact⟨rfl,rfl⟩
 ·rw [wrap_u8 _ (by omega) (by omega),Be ((c.toNat:Int) - 97) (by omega) (by omega),Be _ (by omega) (by omega)]
  unfold Cq;rw [if_neg (by omega),if_neg (by omega),if_pos (by omega),show(c.toNat:Int) - 97+10=(c.toNat:Int) - 87 by omega];exact⟨rfl,rfl⟩
 ·unfold Cq;rw [if_neg (by omega),if_neg (by omega),if_neg (by omega)];exact⟨rfl,rfl⟩
theorem Awe(s:List UInt8)(a:Nat):Call E0.P Sw [.imm (.str s), .imm (.int .i64 (a:Int))] [] (Is (.imm (.bool (decide (a<s.length)))) []):=by
 refine Aoe _ _ _ (Let.intro ⟨?_,rfl⟩)
 by_cases h:a<s.length
 ·rw [show(bif decide ((0:Int)≤(a:Int))then decide ((a:Int)<(s.length:Int))else false)=true from (Q0 _ _).2 ⟨by omega,by omega⟩,decide_eq_true h]
 ·rw [show(bif decide ((0:Int)≤(a:Int))then decide ((a:Int)<(s.length:Int))else false)=false from Bool.eq_false_iff.2 fun h'=>h (by have:=((Q0 _ _).1 h').2;omega),decide_eq_false h]
theorem Bba(s:List UInt8)(a:Nat)(h:a<s.length):O1 (s.drop a)=if s[a].toNat=10 then 1 else if s[a].toNat=13 then(if h:a+1<s.length then(if s[a+1].toNat=10 then 2 else 1)else 1)else 0:=by
 rw [Io s a h,Aav]
 split
 ·rfl
 ·split
  ·by_cases h2:a+1<s.length
   ·rw [Io s (a+1) h2,dif_pos h2]
   ·rw [List.drop_eq_nil_of_le (by omega),dif_neg h2]
  ·rfl
theorem Afo(s:List UInt8)(hs:s.length≤1000000000)(a:Nat):Call E0.P Nv [.imm (.str s), .imm (.int .i64 (a:Int))] [] (Is (.imm (.int .i64 (O1 (s.drop a):Nat))) []):=by
 refine Aqw _ _ _ (Call.use (Awe s a) ⟨⟨rfl,rfl⟩,brN (p:=a<s.length) (by rw [Ny,Cf]) (fun h=> ?_) fun h=> ?_⟩)
 ·rw [List.drop_eq_nil_of_le (by omega)];exact⟨rfl,rfl⟩
 rw [Mt s a h,Bba s a h]
 refine⟨⟨by omega,by omega⟩,Cm (fun e=> ?_) fun e=>⟨⟨by omega,by omega⟩,brN Cf (fun e2=> ?_) fun e2=>⟨fun h'=> ?_,Let.intro (Gb (Q0 _ _) (fun h'=> ?_) fun h'=> ?_)⟩⟩⟩
 ·rw [if_pos (by omega)];exact⟨rfl,rfl⟩
 ·rw [if_neg (by omega),if_neg (by omega)];exact⟨rfl,rfl⟩
 ·have:=of_decide_eq_true h'
  rw [Md a (by omega)]at this ⊢
  omega
 ·rw [Md a (by omega)]at h'
  have h2:a+1<s.length:=by have:=h'.1;omega
  rw [Mt s (a+1) h2]at h'
  rw [if_neg (by omega),if_pos (by omega),dif_pos h2,if_pos (by omega)];exact⟨rfl,rfl⟩
 ·rw [Md a (by omega)]at h'
  rw [if_neg (by omega),if_pos (by omega)]
  by_cases h2:a+1<s.length
  ·rw [Mt s (a+1) h2]at h'
   rw [dif_pos h2,if_neg (fun e3=>h' ⟨by omega,by omega⟩)];exact⟨rfl,rfl⟩
  ·rw [dif_neg h2];exact⟨rfl,rfl⟩
theorem A3x(k:Int):(0:Int)≤0∧(0:Int)<(([[IV.int .i64 k]]:List (List IV)).length:Int):=⟨by decide,by simp⟩
theorem A6m(k:Int):¬IntKind.i64.wrap (0+1)<(([[IV.int .i64 k]]:List (List IV)).length:Int):=by
 rw [Be _ (by omega) (by omega)];simp
theorem A4b(k:Int)(s:List UInt8)(a:Nat)(h:a<s.length):Ct k (s.drop a)=if kd s[a]=k then Ct k (s.drop (a+1))+1 else 0:=by
 rw [Io s a h,Ct]
theorem Ayp(k:Int)(s:List UInt8)(a:Nat)(h:¬a<s.length):Ct k (s.drop a)=0:=by
 rw [List.drop_eq_nil_of_le (by omega)];rfl
theorem Aer(k:Int):∀l:List UInt8,Ct k l≤l.length
 | []=>Nat.le_refl _
 |c::r=>by
  rw [Ct]
  split
  ·have:=Aer k r;simp;omega
  ·omega
theorem Av6(k:Int)(s:List UInt8)(hs:s.length≤1000000000)(a:Nat)(ha:a≤s.length)(Q:AV→Heap→Prop)(hq:Q (.imm (.int .i64 (Ct k (s.drop a):Nat))) []):∀(m i:Nat),m+(a+i)=s.length→Ct k (s.drop a)=i+Ct k (s.drop (a+i))→
 Uw s a [[.int .i64 k]] i (Aan Q):=by
 intro m
 induction m with
 |zero=>
  intro i hi he
  refine Adj _ _ _ _ _ ?_
  rw [wrS s.length a (by omega) (by omega)]
  refine Cm (fun h=>by omega) fun _=>Adg _ _ (Abp _ _ (Adf _ _ ?_))
  rw [Ayp k s (a+i) (by omega)]at he
  rw [he]at hq;exact hq
 |succ m ih=>
  intro i hi he
  have hlt:a+i<s.length:=by omega
  refine Adj _ _ _ _ _ ?_
  rw [wrS s.length a (by omega) (by omega)]
  refine Cm (fun h=> ?_) fun h=>by omega
  refine Aby _ _ _ _ _ _ _ _ (Cm (fun _=>⟨⟨A3x k,rfl⟩, ?_⟩) fun h=>absurd (A3x k).2 h)
  rw [wrA a i (by omega)]
  refine⟨⟨by omega,by omega⟩, ?_⟩
  rw [Mt s (a+i) hlt]
  refine Call.use (A4u _) ⟨⟨rfl,rfl⟩, ?_⟩
  rw [G9,show gI ([[IV.int .i64 k]].getD (Int.toNat 0) []) 0=k from rfl]
  rw [A4b k s (a+i) hlt]at he
  refine Cm (fun e=> ?_) fun e=> ?_
  ·refine Aom _ _ _ _ _ (Ala _ _ _ _ _ (Aok _ _ _ _ _ ?_))
   rw [Md i (by omega)]
   rw [if_pos e]at he
   exact ih (i+1) (by omega) (by rw [show a+(i+1)=a+i+1 by omega];omega)
  ·refine Aby _ _ _ _ _ _ _ _ (Cm (fun h=>absurd h (A6m k)) fun _=> ?_)
   refine Aon _ _ (Ak9 _ _ (Aol _ _ (Adg _ _ (Abp _ _ (Adf _ _ ?_)))))
   rw [if_neg e]at he
   rw [he]at hq;exact hq
theorem Zb(k:Int)(s:List UInt8)(hs:s.length≤1000000000)(a:Nat)(ha:a≤s.length):Call E0.P Rs [.imm (.str s), .imm (.int .i64 (a:Int)), .imm (.sl .any 1 [[.int .i64 k]])] [] (Is (.imm (.int .i64 (Ct k (s.drop a):Nat))) []):=by
 refine Aqy _ _ _ _ (Call.use (Awe s a) ⟨⟨rfl,rfl⟩,brN (p:=a<s.length) (by rw [Ny,Cf]) (fun h=> ?_) fun h=> ?_⟩)
 ·rw [Ayp k s a h];exact⟨rfl,rfl⟩
 ·exact Av6 k s hs a ha _ ⟨rfl,rfl⟩ (s.length - a) 0 (by omega) (by simp)
end Go.Proofs.Sim.Se
set_option maxRecDepth 100000
namespace Go.Proofs.Sim.Se
open Go Go.Proofs Go.Proofs.Sim Go.Proofs.Sim.Va Go.RowKit Go.Proofs.Sim.Pa
def Xa:List UInt8→Nat
 | []=>0
 |c::r=>if c.toNat=10∨c.toNat=13 then 0 else Xa r+1
theorem kd0 {c:UInt8} (h:kd c=0):c.toNat=0∨c.toNat=9∨c.toNat=10∨c.toNat=12∨c.toNat=13∨c.toNat=32:=by
 unfold kd W9 at h
 by_cases h1:(c.toNat:Int)=0∨(c.toNat:Int)=9∨(c.toNat:Int)=10∨(c.toNat:Int)=12∨(c.toNat:Int)=13∨(c.toNat:Int)=32
 ·omega
 ·rw [if_neg h1]at h
  split at h<;>omega
theorem Bdd {c:UInt8} (h:kd c≠0):c.toNat≠10∧c.toNat≠13:=by
 refine⟨fun e=>h ?_,fun e=>h ?_⟩<;>unfold kd W9<;>rw [if_pos (by omega)]
theorem Am2:∀l:List UInt8,El false l=Ct 0 l+El false (l.drop (Ct 0 l))
 | []=>rfl
 |c::r=>by
  rw [Ct]
  by_cases h:kd c=0
  ·rw [if_pos h,El,List.drop_succ_cons]
   have hn:L8 false c=false:=by
    have:=kd0 h
    unfold L8;split
    ·rfl
    ·rw [if_neg (by omega)]
   rw [hn,if_neg (fun h'=>h'.2 h),Am2 r];omega
  ·rw [if_neg h];simp
theorem Aux:∀l:List UInt8,El true l=Xa l+El false (l.drop (Xa l))
 | []=>rfl
 |c::r=>by
  rw [Xa]
  by_cases h:c.toNat=10∨c.toNat=13
  ·rw [if_pos h]
   have e:∀b,L8 b c=false:=fun b=>by unfold L8;rw [if_pos h]
   simp only [El,e,List.drop_zero,Nat.zero_add]
  ·rw [if_neg h,El,List.drop_succ_cons]
   have e:L8 true c=true:=by
    unfold L8;rw [if_neg h];split<;>rfl
   rw [e,if_neg (fun h'=>by cases h'.1),Aux r];omega
theorem A9s {c:UInt8} (h:c.toNat=37)(r:List UInt8):El false (c::r)=El true (c::r):=by
 have e:∀b,L8 b c=true:=fun b=>by unfold L8;rw [if_neg (by omega),if_pos h]
 simp only [El,e]
theorem A38 {c:UInt8} (h:kd c≠0)(h2:c.toNat≠37)(r:List UInt8):El false (c::r)=0:=by
 have e:L8 false c=false:=by
  unfold L8
  rw [if_neg (by have:=Bdd h;omega),if_neg h2]
 rw [El,e,if_pos ⟨rfl,h⟩]
theorem Auz(k:Int):∀(l:List UInt8) (c:UInt8) (r:List UInt8),l.drop (Ct k l)=c::r→kd c≠k
 | [],c,r,h=>by simp [Ct]at h
 |x::l,c,r,h=>by
  rw [Ct]at h
  by_cases hx:kd x=k
  ·rw [if_pos hx,List.drop_succ_cons]at h
   exact Auz k l c r h
  ·rw [if_neg hx,List.drop_zero]at h
   injection h with h1 h2
   subst h1;exact hx
theorem Ath:∀l:List UInt8,Xa l≤l.length
 | []=>Nat.le_refl _
 |c::r=>by
  rw [Xa]
  split
  ·omega
  ·have:=Ath r;simp;omega
theorem Az9:∀(b:Bool) (l:List UInt8),El b l≤l.length
 |_,[]=>Nat.le_refl _
 |b,c::r=>by
  rw [El]
  split
  ·omega
  ·have:=Az9 (L8 b c) r;simp;omega
theorem Bc7(c:UInt8)(r:List UInt8):O1 (c::r)=0↔¬(c.toNat=10∨c.toNat=13):=by
 rw [Aav]
 by_cases h1:c.toNat=10
 ·rw [if_pos h1];simp [h1]
 ·rw [if_neg h1]
  by_cases h2:c.toNat=13
  ·rw [if_pos h2]
   rcases r with _ |⟨d,r⟩
   ·simp [h2]
   ·simp only [h2];split<;>simp
  ·rw [if_neg h2];simp [h1,h2]
theorem Azj(s:List UInt8)(hs:s.length≤1000000000)(K:Ex→St→Prop)(e:Nat)(hk:K (.exit 0) ⟨[(0, .imm (.str s)),(1, .imm (.int .i64 (e:Int)))],[]⟩):∀(m q:Nat),m+q=s.length→e=q+Xa (s.drop q)→Pn s q K:=by
 intro m
 induction m with
 |zero=>
  intro q hq he
  rw [List.drop_eq_nil_of_le (by omega)]at he
  have:e=q:=he
  subst this
  refine Adl _ _ _ (brE Cf (fun h=>by omega) fun _=>⟨rfl,Let.intro (brF hk)⟩)
 |succ m ih=>
  intro q hq he
  have hlt:q<s.length:=by omega
  refine Adl _ _ _ (brE Cf (fun _=>Call.use (Afo s hs q) ⟨⟨rfl,rfl⟩,Let.intro ?_⟩) fun h=>by omega)
  rw [G9]
  rw [Io s q hlt,Xa]at he
  refine Gb (p:=¬(s[q].toNat=10∨s[q].toNat=13)) (by rw [Cf, ←Bc7 s[q] (s.drop (q+1)), ←Io s q hlt];omega) (fun h=> ?_) fun h=> ?_
  ·refine An7 _ _ _ (Aor _ _ _ ?_)
   rw [Md q (by omega)]
   rw [if_neg h]at he
   exact ih (q+1) (by omega) (by omega)
  ·rw [if_pos (Classical.not_not.1 h)]at he
   have:e=q:=he
   subst this;exact hk
theorem A1k(s:List UInt8)(q:Nat):(decide ((q:Int)<(s.length:Int))=true→(0:Int)≤(q:Int)∧(q:Int)<(s.length:Int)):=fun h=>⟨by omega,of_decide_eq_true h⟩
theorem Aya(s:List UInt8)(q:Nat):((bif decide ((q:Int)<(s.length:Int))then decide (((s.getD (Int.toNat (q:Int)) 0).toNat:Int)=37)else false)=true)↔∃h:q<s.length,s[q].toNat=37:=by
 rw [Q0]
 constructor
 ·rintro⟨h1,h2⟩
  have h:q<s.length:=by omega
  rw [Mt s q h]at h2
  exact⟨h,by omega⟩
 ·rintro⟨h,h2⟩
  rw [Mt s q h]
  exact⟨by omega,by omega⟩
theorem Aqo(s:List UInt8)(p:Nat)(h:¬ ∃h:p+Ct 0 (s.drop p)<s.length,s[p+Ct 0 (s.drop p)].toNat=37):p+El false (s.drop p)=p+Ct 0 (s.drop p):=by
 rw [Am2,List.drop_drop]
 by_cases hq:p+Ct 0 (s.drop p)<s.length
 ·have hst:=Auz 0 (s.drop p) s[p+Ct 0 (s.drop p)] (s.drop (p+Ct 0 (s.drop p)+1)) (by rw [List.drop_drop,Io s _ hq])
  rw [Io s _ hq,A38 hst (fun e=>h ⟨hq,e⟩)];omega
 ·have e:s.drop (p+Ct 0 (s.drop p))=[]:=List.drop_eq_nil_of_le (by omega)
  rw [e];rfl
theorem Az8(s:List UInt8)(p:Nat)(h:p+Ct 0 (s.drop p)<s.length)(h2:s[p+Ct 0 (s.drop p)].toNat=37):
 p+El false (s.drop p)=(p+Ct 0 (s.drop p)+Xa (s.drop (p+Ct 0 (s.drop p))))+El false (s.drop (p+Ct 0 (s.drop p)+Xa (s.drop (p+Ct 0 (s.drop p))))):=by
 have e1:=Am2 (s.drop p)
 rw [List.drop_drop]at e1
 have e2:=Aux (s.drop (p+Ct 0 (s.drop p)))
 rw [List.drop_drop]at e2
 have e3:El false (s.drop (p+Ct 0 (s.drop p)))=El true (s.drop (p+Ct 0 (s.drop p))):=by
  rw [Io s _ h];exact A9s h2 _
 omega
theorem A57(s:List UInt8)(q:Nat)(h:q<s.length)(h2:s[q].toNat=37):0<Xa (s.drop q):=by
 rw [Io s q h,Xa,if_neg (by omega)];omega
theorem A4y(s:List UInt8)(hs:s.length≤1000000000)(Q:AV→Heap→Prop)(e:Nat)(hk:Q (.imm (.int .i64 (e:Int))) []):∀(m p:Nat),s.length - p≤m→p≤s.length→e=p+El false (s.drop p)→Uy s p (Me Q):=by
 intro m
 induction m with
 |zero=>
  intro p hm hp he
  have hW:=Aer 0 (s.drop p)
  rw [List.length_drop]at hW
  refine Adn _ _ _ (Call.use (Zb 0 s hs p hp) ⟨⟨rfl,rfl⟩, ?_⟩)
  rw [G9,wrA p _ (by omega)]
  refine⟨A1k _ _,Let.intro (Gb (Aya _ _) (fun⟨h,_⟩=>by omega) fun h=> ?_)⟩
  rw [Aqo s p h]at he
  subst he
  exact Ti _ _ (Adi _ _ (Adh _ _ hk))
 |succ m ih=>
  intro p hm hp he
  have hW:=Aer 0 (s.drop p)
  rw [List.length_drop]at hW
  refine Adn _ _ _ (Call.use (Zb 0 s hs p hp) ⟨⟨rfl,rfl⟩, ?_⟩)
  rw [G9,wrA p _ (by omega)]
  refine⟨A1k _ _,Let.intro (Gb (Aya _ _) (fun⟨h,h2⟩=> ?_) fun h=> ?_)⟩
  ·have hl:=Ath (s.drop (p+Ct 0 (s.drop p)))
   rw [List.length_drop]at hl
   have hpos:=A57 s _ h h2
   refine Azj s hs _ _ (Aot _ _ _ (Abq _ _ _ (Aos _ _ _ ?_))) _ _ (Nat.sub_add_cancel (Nat.le_of_lt h)) rfl
   exact ih _ (by omega) (by omega) (he.trans (Az8 s p h h2))
  ·rw [Aqo s p h]at he
   subst he
   exact Ti _ _ (Adi _ _ (Adh _ _ hk))
theorem Af6(s:List UInt8)(a:Int):M7 s a≤s.length:=by unfold M7;split<;>(try split)<;>omega
theorem Bbv(s:List UInt8)(a:Int):(if(if(s.length:Int)<a then(s.length:Int)else a)>0 then(if(s.length:Int)<a then(s.length:Int)else a)else 0)=((M7 s a:Nat):Int):=by
 unfold M7
 by_cases h1:(s.length:Int)<a
 ·rw [if_pos h1,if_pos h1]
  by_cases h2:a<0
  ·omega
  ·rw [if_neg h2];split<;>omega
 ·rw [if_neg h1]
  by_cases h2:a<0
  ·rw [if_pos h2,if_neg (by omega)];rfl
  ·rw [if_neg h2,if_neg h1];split<;>omega
theorem Awd(s:List UInt8)(hs:s.length≤1000000000)(a:Int):Call E0.P Acy [.imm (.str s), .imm (.int .i64 a)] [] (Is (.imm (.int .i64 (Dl s a:Nat))) []):=by
 refine Aq1 _ _ _ ?_
 rw [Bbv]
 have hp:=Af6 s a
 unfold Dl
 generalize M7 s a=p at*
 have hW:=Aer 0 (s.drop p)
 rw [List.length_drop]at hW
 refine Call.use (Zb 0 s hs p hp) ⟨⟨rfl,rfl⟩, ?_⟩
 rw [G9,wrA p _ (by omega)]
 refine⟨A1k _ _,Let.intro (Gb (Aya _ _) (fun⟨h,h2⟩=> ?_) fun h=> ?_)⟩
 ·have hl:=Ath (s.drop (p+Ct 0 (s.drop p)))
  rw [List.length_drop]at hl
  refine Azj s hs _ _ (Aoq _ _ _ (Abq _ _ _ (Aop _ _ _ ?_))) _ _ (Nat.sub_add_cancel (Nat.le_of_lt h)) rfl
  exact A4y s hs _ _ ⟨rfl,rfl⟩ _ _ (Nat.le_refl _) (by omega) (Az8 s p h h2)
 ·rw [Aqo s p h]
  exact Ti _ _ (Aoo _ _ ⟨rfl,rfl⟩)
theorem Ayl(s:List UInt8)(a:Int):Dl s a≤s.length:=by
 unfold Dl
 have h1:=Af6 s a
 have h2:=Az9 false (s.drop (M7 s a))
 rw [List.length_drop]at h2
 omega
end Go.Proofs.Sim.Se
set_option maxRecDepth 100000
namespace Go.Proofs.Sim.Se
open Go Go.Proofs Go.Proofs.Sim Go.Proofs.Sim.Va Go.RowKit Go.Proofs.Sim.Pa
abbrev Ta(s:List UInt8)(a:Int)(rows:LL):Heap:=[(Nm.arg 0, .blk Aa [.imm (.str s), .imm (.int .i64 a), .own (Nm.arg 1)]),(Nm.arg 1, .arr (Ak+2) true 1 rows)]
abbrev Ayr(k n:Int)(t:List UInt8)(x y e:Int):AV:= .tup [.imm (.agg [.int .i64 k, .int .i64 n, .str t, .int .i64 x, .int .i64 y]), .imm (.int .i64 e)]
abbrev okA(c:Int)(b:Bool):AV:= .tup [.imm (.int .u8 c), .imm (.bool b)]
def ScQ(s:List UInt8)(k:Int)(x:Part):AV→Heap→Prop:=fun r h=>∃(a:Nat) (l:List UInt8),h=Ta s a (A8 l)∧r=Ayr (if x.2.2=0 then k else 0) 0 x.1 0 0 x.2.2∧(x.2.2=0→a=x.2.1)∧(x.2.2≠0→x.1=[])
theorem Abd {s:List UInt8} {k e:Int} {a:Nat} {l:List UInt8} (he:e≠0):ScQ s k ([],0,e) (Ayr 0 0 [] 0 0 e) (Ta s a (A8 l)):=⟨a,l,rfl,by rw [if_neg he],fun h=>absurd h he,fun _=>rfl⟩
theorem Ayk {s:List UInt8} {k:Int} {a:Nat} {l t:List UInt8} :ScQ s k (t,a,0) (Ayr k 0 t 0 0 0) (Ta s a (A8 l)):=⟨a,l,rfl,by rw [if_pos rfl],fun _=>rfl,fun h=>absurd rfl h⟩
theorem wr2(i:Nat)(h:i≤1000000000000):IntKind.i64.wrap ((i:Int)+2)=((i+2:Nat):Int):=by rw [Be _ (by omega) (by omega)];simp
theorem Bc1(i:Nat)(h:i≤1000000000000):IntKind.i64.wrap (i:Int)=(i:Int):=Be _ (by omega) (by omega)
theorem Amn(c:UInt8): -1≤Cq c∧Cq c≤15:=by
 unfold Cq;split
 ·omega
 ·split
  ·omega
  ·split<;>omega
theorem A9c:∀h l:Fin 16,IntKind.u8.wrap (IntKind.i64.wrap (↑(BitVec.ofInt 64 (IntKind.i64.wrap (((h:Nat):Int)*(2:Int) ^ (4:Nat))) ||| BitVec.ofInt 64 ((l:Nat):Int)).toNat:Int))=(((UInt8.ofNat (16*(h:Nat)+(l:Nat))).toNat:Nat):Int):=by decide+kernel
theorem nib(x y:Int)(hx:0≤x)(hx2:x≤15)(hy:0≤y)(hy2:y≤15):IntKind.u8.wrap (IntKind.i64.wrap (↑(BitVec.ofInt 64 (IntKind.i64.wrap (x*(2:Int) ^ (4:Nat))) ||| BitVec.ofInt 64 y).toNat:Int))=(((Tu (16*x+y)).toNat:Nat):Int):=by
 have h:=A9c ⟨x.toNat,by omega⟩ ⟨y.toNat,by omega⟩
 simp only [Int.toNat_of_nonneg hx,Int.toNat_of_nonneg hy]at h
 rw [h]
 unfold Tu
 rw [show(16*x+y).toNat=16*x.toNat+y.toNat by omega]
section
variable (s:List UInt8) (hs:s.length≤1000000000)
include hs
theorem Aq7(a:Nat)(ha:a≤s.length)(h:s.length<a+2)(rows:LL):Call E0.P G8 [.ptr (.arg 0) 0] (Ta s a rows) (Is (okA 0 false) (Ta s a rows)):=by
 refine Le _ _ _ _ ?_
 rw [wrS s.length a ha (by omega)]
 exact Cm (fun _=>⟨rfl,rfl⟩) fun h=>by omega
theorem Au9(a:Nat)(h:a+1<s.length)(hb:Cq s[a]<0∨Cq s[a+1]<0∨Cq s[a]+Cq s[a+1]=0)(rows:LL):Call E0.P G8 [.ptr (.arg 0) 0] (Ta s a rows) (Is (okA 0 false) (Ta s (a+2:Nat) rows)):=by
 have b1:=Amn s[a]
 have b2:=Amn s[a+1]
 refine Le _ _ _ _ ?_
 rw [wrS s.length a (by omega) (by omega),Md a (by omega),wr2 a (by omega)]
 refine Cm (fun _=>by omega) fun _=>⟨⟨by omega,by omega⟩,⟨⟨by omega,by omega⟩, ?_⟩⟩
 rw [Mt s a (by omega),Mt s (a+1) h]
 refine Call.use (Wh _) ⟨⟨rfl,rfl⟩,Call.use (Wh _) ⟨⟨rfl,rfl⟩,Let.intro (Let.intro ?_)⟩⟩
 rw [G9,G9,Be (Cq s[a]+Cq s[a+1]) (by omega) (by omega)]
 refine Gb (p:=Cq s[a]<0∨Cq s[a+1]<0∨Cq s[a]+Cq s[a+1]=0) (by rw [Ajx,A6n];omega) (fun _=>⟨rfl,rfl⟩) fun h'=>absurd hb h'
theorem Av9(a:Nat)(h:a+1<s.length)(hb:¬(Cq s[a]<0∨Cq s[a+1]<0∨Cq s[a]+Cq s[a+1]=0))(rows:LL):Call E0.P G8 [.ptr (.arg 0) 0] (Ta s a rows) (Is (okA (Tu (16*Cq s[a]+Cq s[a+1])).toNat true) (Ta s (a+2:Nat) rows)):=by
 have b1:=Amn s[a]
 have b2:=Amn s[a+1]
 refine Le _ _ _ _ ?_
 rw [wrS s.length a (by omega) (by omega),Md a (by omega),wr2 a (by omega)]
 refine Cm (fun _=>by omega) fun _=>⟨⟨by omega,by omega⟩,⟨⟨by omega,by omega⟩, ?_⟩⟩
 rw [Mt s a (by omega),Mt s (a+1) h]
 refine Call.use (Wh _) ⟨⟨rfl,rfl⟩,Call.use (Wh _) ⟨⟨rfl,rfl⟩,Let.intro (Let.intro ?_)⟩⟩
 rw [G9,G9,Be (Cq s[a]+Cq s[a+1]) (by omega) (by omega)]
 refine Gb (p:=Cq s[a]<0∨Cq s[a+1]<0∨Cq s[a]+Cq s[a+1]=0) (by rw [Ajx,A6n];omega) (fun h'=>absurd h' hb) fun _=>⟨by decide, ?_⟩
 rw [nib _ _ (by omega) (by omega) (by omega) (by omega)]
 exact⟨rfl,rfl⟩
def Bak(s:List UInt8)(K:KK)(a:Nat)(out:List UInt8):Prop:=
 (∀h:a<s.length,Es (s[a].toNat:Int) true s a 0 0 [] 0 0 (A8 out) K)∧(¬a<s.length→Es 0 false s a 0 0 [] 0 0 (A8 out) K)
omit hs in
theorem Baj(K:KK)(a:Nat)(out:List UInt8)(h:Bak s K a out):Np s a 0 0 [] 0 0 (A8 out) (Kh (Gf K)):=by
 refine Acf _ _ _ _ _ _ _ _ _ (Cm (fun h'=> ?_) fun h'=>⟨⟨by omega,by omega⟩, ?_⟩)
 ·apply Sl
  apply Sk
  exact h.2 (by omega)
 ·have hlt:a<s.length:=by omega
  rw [Mt s a hlt]
  apply Sl
  apply Sk
  exact h.1 hlt
theorem Bad(at_:Int)(out0:LL)(Q:QQ)(X:Part)(hQ:∀r h,ScQ s 2 X r h→Q r h):∀(m a:Nat) (out:List UInt8),s.length≤a+m→out.length≤127→nameL (s.drop a) out a=X→Bak s (Dp s at_ out0 Q) a out:=by
 have fin:∀(a:Nat) (out:List UInt8),X=(out,a,0)→Dp s at_ out0 Q (.exit 0) ⟨[(0, .ptr (Nm.arg 0) 0),(2, .ptr (Nm.loc 2) 0)],[(Nm.arg 0, .blk Aa [.imm (.str s), .imm (.int .i64 a), .own (Nm.arg 1)]),(Nm.loc 2, .blk Ap [.imm (.int .i64 0), .imm (.int .i64 0), .imm (.str []), .imm (.int .i64 0), .imm (.int .i64 0)]),(Nm.arg 1, .arr (Ak+2) true 1 (A8 out))]⟩:=by
  intro a out hX
  apply Adw
  refine Acg _ _ _ _ _ _ _ _ _ ⟨Aek _, ?_⟩
  apply Adv
  rw [An2]
  exact hQ _ _ (hX ▸ Ayk)
 have off:∀(a:Nat) (out:List UInt8),¬a<s.length→nameL (s.drop a) out a=X→Es 0 false s a 0 0 [] 0 0 (A8 out) (Dp s at_ out0 Q):=by
  intro a out h hX
  rw [List.drop_eq_nil_of_le (by omega)]at hX
  refine Sr _ _ _ _ _ _ _ _ _ _ _ (brE (p:=False) (by simp) (fun h=>h.elim) fun _=>⟨rfl,Let.intro (brF (fin a out hX.symm))⟩)
 intro m
 induction m with
 |zero=>intro a out hm ho hX;exact⟨fun h=>by omega,fun h=>off a out h hX⟩
 |succ m ih=>
  intro a out hm ho hX
  refine⟨fun h=> ?_,fun h=>off a out h hX⟩
  refine Sr _ _ _ _ _ _ _ _ _ _ _ (brE (p:=True) (by simp) (fun _=>Call.use (A4u _) ⟨⟨rfl,rfl⟩,Let.intro ?_⟩) fun h=>absurd trivial h)
  rw [G9]
  rw [Io s a h]at hX
  refine Cm (fun hk=> ?_) fun hk=> ?_
  ·have bad:∀(e:Int) (b:Nat) (o:List UInt8),e≠0→X=([],0,e)→Dp s at_ out0 Q .ret ⟨[(2, .ptr (Nm.loc 2) 0),(3, .imm (.int .i64 e))],[(Nm.loc 2, .blk Ap [.imm (.int .i64 0), .imm (.int .i64 0), .imm (.str []), .imm (.int .i64 0), .imm (.int .i64 0)]),(Nm.arg 0, .blk Aa [.imm (.str s), .imm (.int .i64 b), .own (Nm.arg 1)]),(Nm.arg 1, .arr (Ak+2) true 1 (A8 o))]⟩:=by
    intro e b o he hx
    apply Adx
    exact hQ _ _ (hx ▸ Abd he)
   have push:∀(c:UInt8) (b:Nat),a<b→(X=if 127≤out.length then([],0,8)else nameL (s.drop b) (out++[c]) b)→Ju (c.toNat:Int) s b 0 0 [] 0 0 (A8 out) (Hz (Gf (Dp s at_ out0 Q))):=by
    intro c b hb hx
    refine Ace _ _ _ _ _ _ _ _ _ _ ⟨⟨by rw [Vg];omega,by rw [Vg];omega⟩, ?_⟩
    rw [Vz,Vg,List.length_append]
    refine Cm (fun h'=> ?_) fun h'=> ?_
    ·rw [if_pos (by simp at h';omega)]at hx
     apply Ady
     apply Ls
     exact bad 8 b _ (by decide) hx
    ·rw [if_neg (by simp at h';omega)]at hx
     apply Adz
     exact Baj s _ b _ (ih b (out++[c]) (by omega) (by simp at h' ⊢; omega) hx.symm)
   refine Adt _ _ _ _ _ _ _ _ _ _ (Cm (fun h35=> ?_) fun h35=> ?_)
   ·rw [Md a (by omega)]
    rw [nameL.eq_def]at hX
    simp only at hX
    rw [if_pos hk,if_pos (by omega)]at hX
    by_cases h3:s.length<a+1+2
    ·refine Call.use (Aq7 s hs (a+1) (by omega) h3 _) ⟨⟨rfl,rfl⟩,Aqb rfl ?_⟩
     apply Ls
     refine bad 4 (a+1) out (by decide) ?_
     rw [←hX]
     by_cases h4:a+1<s.length
     ·rw [Io s (a+1) h4,List.drop_eq_nil_of_le (by omega)]
     ·rw [List.drop_eq_nil_of_le (by omega)]
    ·have h4:a+1<s.length:=by omega
     have h5:a+1+1<s.length:=by omega
     rw [Io s (a+1) h4,Io s (a+1+1) h5]at hX
     simp only at hX
     by_cases hb:Cq s[a+1]<0∨Cq s[a+1+1]<0∨Cq s[a+1]+Cq s[a+1+1]=0
     ·refine Call.use (Au9 s hs (a+1) h5 hb _) ⟨⟨rfl,rfl⟩,Aqb rfl ?_⟩
      apply Ls
      rw [if_pos hb]at hX
      exact bad 4 (a+1+2) out (by decide) hX.symm
     ·refine Call.use (Av9 s hs (a+1) h5 hb _) ⟨⟨rfl,rfl⟩,Aqc rfl ?_⟩
      rw [if_neg hb]at hX
      exact push (Tu (16*Cq s[a+1]+Cq s[a+1+1])) (a+1+2) (by omega) hX.symm
   ·rw [Md a (by omega)]
    rw [nameL.eq_def]at hX
    simp only at hX
    rw [if_pos hk,if_neg (by omega)]at hX
    exact push s[a] (a+1) (by omega) hX.symm
  ·rw [nameL.eq_def]at hX
   simp only at hX
   rw [if_neg hk]at hX
   exact fin a out hX.symm
theorem Bas(a:Nat)(ha:a<s.length):Call E0.P Px [.ptr (.arg 0) 0] (Ta s a []) (ScQ s 2 (nameL (s.drop (a+1)) [] (a+1))):=by
 have h:=Bad s hs a [] (ScQ s 2 (nameL (s.drop (a+1)) [] (a+1))) _ (fun _ _ h=>h) s.length (a+1) [] (by omega) (by simp) rfl
 refine Agb _ _ _ _ ?_
 rw [Md a (by omega)]
 refine Cm (fun h'=>h.2 (by omega)) fun h'=>⟨⟨by omega,by omega⟩, ?_⟩
 rw [Mt s (a+1) (by omega)]
 exact h.1 (by omega)
end
end Go.Proofs.Sim.Se

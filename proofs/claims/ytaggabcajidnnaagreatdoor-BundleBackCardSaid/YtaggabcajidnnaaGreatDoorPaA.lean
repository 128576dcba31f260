import Derived.Test.YtaggabcajidnnaaGreatDoorDtA
import Derived.Test.YtaggabcajidnnaaGreatDoorPaL
set_option maxRecDepth 100000
namespace Go.Proofs.Sim.Se
open Go Go.Proofs Go.Proofs.Sim Go.Proofs.Sim.Va Go.RowKit Go.Proofs.Sim.Pa
theorem Cc {p:Prop} {i:Decidable p} {A B:Prop} (h1:p→A)(h2:¬p→B):Br (@decide p i) A B:=⟨fun h=>h1 (of_decide_eq_true h),fun h=>h2 (of_decide_eq_false h)⟩
theorem Ef {b:Bool} {p:Prop} {A B:Prop} (hb:b=true↔p)(h1:p→A)(h2:¬p→B):Br b A B:=⟨fun h=>h1 (hb.1 h),fun h=>h2 fun hp=>by rw [hb.2 hp]at h;cases h⟩
theorem Yg {b:Bool} {p:Prop} {A B:Prop} (hb:b=true↔p)(h1:¬p→A)(h2:p→B):Br (!b) A B:=by
 cases b with
 |true=>exact⟨fun h=>absurd h (by decide),fun _=>h2 (hb.1 rfl)⟩
 |false=>exact⟨fun _=>h1 fun hp=>(by have:=hb.2 hp;cases this),fun h=>absurd h (by decide)⟩
theorem brE {b:Bool} {p:Prop} {A B:Prop} (hb:b=true↔p)(h1:p→A)(h2:¬p→B):Br (b == true) A B:=by cases b<;>exact Ef (by simpa using hb) h1 h2
theorem Apz(b:Bool)(p:Prop) {i:Decidable p} :((bif b then true else @decide p i)=true)↔(b=true∨p):=by cases b<;>simp
theorem Bhz(p q:Prop) {i:Decidable p} {j:Decidable q} :((bif @decide p i then true else @decide q j)=true)↔(p∨q):=by by_cases p<;>by_cases q<;>simp_all
theorem Tm(p q:Prop) {i:Decidable p} {j:Decidable q} :((bif @decide p i then @decide q j else false)=true)↔(p∧q):=by by_cases p<;>by_cases q<;>simp_all
theorem Bt {p:Prop} {i:Decidable p} :(@decide p i=true)↔p:=decide_eq_true_iff
theorem N9(s:List UInt8)(i:Nat)(h:i<s.length):s.getD (Int.toNat (i:Int)) 0=s[i]:=by simp [List.getD_eq_getElem?_getD,h]
theorem Ni(i:Nat)(h:i≤1000000000000):IntKind.i64.wrap ((i:Int)+1)=((i+1:Nat):Int):=by rw [Az _ (by omega) (by omega)];simp
theorem wrA(i j:Nat)(h:i+j≤1000000000000):IntKind.i64.wrap ((i:Int)+(j:Int))=((i+j:Nat):Int):=by rw [Az _ (by omega) (by omega)];simp
theorem wrS(i j:Nat)(h:j≤i)(h2:i≤1000000000000):IntKind.i64.wrap ((i:Int) - (j:Int))=((i - j:Nat):Int):=by rw [Az _ (by omega) (by omega)];omega
theorem I9 {α:Type} (l:List α)(i:Nat)(h:i<l.length):l.drop i=l[i]::l.drop (i+1):=List.drop_eq_getElem_cons h
theorem brT {A B:Prop} (h:A):Br true A B:=⟨fun _=>h,fun h=>absurd h (by decide)⟩
theorem brF {A B:Prop} (h:B):Br false A B:=⟨fun h=>absurd h (by decide),fun _=>h⟩
theorem Axz {b:Bool} {A B:Prop} (hb:b=false)(h:A):Br (!b) A B:=by subst hb;exact brT h
theorem Ax0 {b:Bool} {A B:Prop} (hb:b=true)(h:B):Br (!b) A B:=by subst hb;exact brF h
theorem Y9(a:List UInt8)(c:UInt8):Ay a++[[IV.int .u8 (c.toNat:Int)]]=Ay (a++[c]):=by simp [Ay]
theorem Bpd:([]:List (List IV))=Ay []:=rfl
theorem Yf(a:List UInt8):(Ay a).length=a.length:=by simp [Ay]
theorem Ain(a:List UInt8):∀r∈Ay a,Bg [.int .u8] r=true:=by
 intro r hr
 simp only [Ay,List.mem_map]at hr
 obtain⟨b,_,rfl⟩:=hr
 rfl
theorem Auz(a:List UInt8):List.map (fun r=>UInt8.ofNat (gI r 0).toNat) (Ay a)=a:=by
 induction a with
 |nil=>rfl
 |cons b a ih=>
  have e:UInt8.ofNat (gI [IV.int .u8 (b.toNat:Int)] 0).toNat=b:=by
   show UInt8.ofNat ((b.toNat:Int)).toNat=b
   simp
  have e2:Ay (b::a)=[.int .u8 (b.toNat:Int)]::Ay a:=rfl
  rw [e2,List.map_cons,e,ih]
theorem A0v(c:UInt8):rI (.imm (.int .u8 (c.toNat:Int)))=(c.toNat:Int):=rfl
theorem A2b(f:UInt8→List UInt8)(s:List UInt8)(i:Nat)(h:i<s.length):(s.drop i).flatMap f=f s[i]++(s.drop (i+1)).flatMap f:=by
 rw [List.drop_eq_getElem_cons h];rfl
end Go.Proofs.Sim.Se
set_option maxRecDepth 100000
namespace Go.Proofs.Sim.Se
open Go Go.Proofs Go.Proofs.Sim Go.Proofs.Sim.Va Go.RowKit Go.Proofs.Sim.Pa
theorem As4(a:Int):Call E0.P Ms [.imm (.int .u8 a)] [] (Is (.imm (.int .i64 (Z9 a))) []):=by
 have key:∀(b:Bool) (Q:AV→Heap→Prop),Q (.imm (.int .i64 (if b=true then 0 else if a=40∨a=41∨a=60∨a=62∨a=91∨a=93∨a=123∨a=125∨a=47∨a=37 then 1 else 2))) []→Hq a b (Ej Q):=by
  intro b Q hq
  have one:∀ {n:Int},a=n→b=false→(n=40∨n=41∨n=60∨n=62∨n=91∨n=93∨n=123∨n=125∨n=47∨n=37)→Br (decide (a=n)) (Ej Q .ret ⟨[(2, .imm (.int .i64 1))],[]⟩) (Ej Q .normal ⟨[],[]⟩):=by
   intro n e hb hn
   refine Cc (fun _=> ?_) fun h=>absurd e h
   subst e
   rw [hb,if_neg (by decide),if_pos hn]at hq
   exact Yp _ _ hq
  refine Au1 _ _ _ ⟨fun h=> ?_,fun h=> ?_⟩
  ·rw [h,if_pos rfl]at hq;exact Yp _ _ hq
  refine Cc (fun e=>one e h (by omega)) fun n1=>Cc (fun e=>one e h (by omega)) fun n2=>Cc (fun e=>one e h (by omega)) fun n3=>Cc (fun e=>one e h (by omega)) fun n4=>Cc (fun e=>one e h (by omega)) fun n5=>
   Cc (fun e=>one e h (by omega)) fun n6=>Cc (fun e=>one e h (by omega)) fun n7=>Cc (fun e=>one e h (by omega)) fun n8=>Cc (fun e=>one e h (by omega)) fun n9=>Cc (fun e=> ?_) fun n10=> ?_
  ·rw [h,if_neg (by decide),if_pos (by omega)]at hq
   exact Yp _ _ hq
  ·rw [h,if_neg (by decide),if_neg (by omega)]at hq
   exact Avl _ (Arr _ (Avk _ _ hq))
 have fin:∀(p:Prop) [Decidable p],((a=0∨a=9∨a=10∨a=12∨a=13∨a=32)↔p)→Hq a (decide p) (Ej (Is (.imm (.int .i64 (Z9 a))) [])):=by
  intro p _ hp
  refine key _ _ ?_
  rw [Z9]
  by_cases h:p
  ·rw [if_pos (hp.2 h),if_pos (decide_eq_true h)];exact⟨rfl,rfl⟩
  ·rw [if_neg (fun h'=>h (hp.1 h')),if_neg (show ¬decide p=true by rw [decide_eq_false h];decide)];exact⟨rfl,rfl⟩
 refine Ay0 _ _ (Cc (fun e=>fin _ (by omega)) fun n1=>Cc (fun e=>fin _ (by omega)) fun n2=>Cc (fun e=>fin _ (by omega)) fun n3=>Cc (fun e=>fin _ (by omega)) fun n4=>Cc (fun e=>fin _ (by omega)) fun n5=>fin _ (by omega))
theorem Bf8(c:UInt8):Call E0.P Ms [.imm (.int .u8 (c.toNat:Int))] [] (Is (.imm (.int .i64 (kd c))) []):=As4 _
theorem Bo1(c:UInt8):c.toNat<256:=c.toNat_lt
theorem Zk(c:UInt8):Call E0.P Ws [.imm (.int .u8 (c.toNat:Int))] [] (Is (.imm (.int .i64 (Ck c))) []):=by
 have hc:=Bo1 c
 refine A08 _ _ (Let.intro (Ef (Tm _ _) (fun h=> ?_) fun h1=>Let.intro (Ef (Tm _ _) (fun h=> ?_) fun h2=>Let.intro (Ef (Tm _ _) (fun h=> ?_) fun h3=> ?_))))
 ·rw [wrap_u8 _ (by omega) (by omega),Az _ (by omega) (by omega)]
  unfold Ck;rw [if_pos (by omega)];exact⟨rfl,rfl⟩
 ·rw [wrap_u8 _ (by omega) (by omega),Az ((c.toNat:Int) - 65) (by omega) (by omega),Az _ (by omega) (by omega)]
  unfold Ck;rw [if_neg (by omega),if_pos (by omega),show(c.toNat:Int) - 65+10=(c.toNat:Int) - 55 by omega];exact⟨rfl,rfl⟩
 ·rw [wrap_u8 _ (by omega) (by omega),Az ((c.toNat:Int) - 97) (by omega) (by omega),Az _ (by omega) (by omega)]
  unfold Ck;rw [if_neg (by omega),if_neg (by omega),if_pos (by omega),show(c.toNat:Int) - 97+10=(c.toNat:Int) - 87 by omega];exact⟨rfl,rfl⟩
 ·unfold Ck;rw [if_neg (by omega),if_neg (by omega),if_neg (by omega)];exact⟨rfl,rfl⟩
theorem A6i(s:List UInt8)(a:Nat):Call E0.P Vs [.imm (.str s), .imm (.int .i64 (a:Int))] [] (Is (.imm (.bool (decide (a<s.length)))) []):=by
 refine Avg _ _ _ (Let.intro ⟨?_,rfl⟩)
 by_cases h:a<s.length
 ·rw [show(bif decide ((0:Int)≤(a:Int))then decide ((a:Int)<(s.length:Int))else false)=true from (Tm _ _).2 ⟨by omega,by omega⟩,decide_eq_true h]
 ·rw [show(bif decide ((0:Int)≤(a:Int))then decide ((a:Int)<(s.length:Int))else false)=false from Bool.eq_false_iff.2 fun h'=>h (by have:=((Tm _ _).1 h').2;omega),decide_eq_false h]
theorem Bnc(s:List UInt8)(a:Nat)(h:a<s.length):Tt (s.drop a)=if s[a].toNat=10 then 1 else if s[a].toNat=13 then(if h:a+1<s.length then(if s[a+1].toNat=10 then 2 else 1)else 1)else 0:=by
 rw [I9 s a h,Aed]
 split
 ·rfl
 ·split
  ·by_cases h2:a+1<s.length
   ·rw [I9 s (a+1) h2,dif_pos h2]
   ·rw [List.drop_eq_nil_of_le (by omega),dif_neg h2]
  ·rfl
theorem Ajz(s:List UInt8)(hs:s.length≤1000000000)(a:Nat):Call E0.P Ph [.imm (.str s), .imm (.int .i64 (a:Int))] [] (Is (.imm (.int .i64 (Tt (s.drop a):Nat))) []):=by
 refine Ayz _ _ _ (Call.use (A6i s a) ⟨⟨rfl,rfl⟩,Yg (p:=a<s.length) (by rw [Pj,Bt]) (fun h=> ?_) fun h=> ?_⟩)
 ·rw [List.drop_eq_nil_of_le (by omega)];exact⟨rfl,rfl⟩
 rw [N9 s a h,Bnc s a h]
 refine⟨⟨by omega,by omega⟩,Cc (fun e=> ?_) fun e=>⟨⟨by omega,by omega⟩,Yg Bt (fun e2=> ?_) fun e2=>⟨fun h'=> ?_,Let.intro (Ef (Tm _ _) (fun h'=> ?_) fun h'=> ?_)⟩⟩⟩
 ·rw [if_pos (by omega)];exact⟨rfl,rfl⟩
 ·rw [if_neg (by omega),if_neg (by omega)];exact⟨rfl,rfl⟩
 ·have:=of_decide_eq_true h'
  rw [Ni a (by omega)]at this ⊢
  omega
 ·rw [Ni a (by omega)]at h'
  have h2:a+1<s.length:=by have:=h'.1;omega
  rw [N9 s (a+1) h2]at h'
  rw [if_neg (by omega),if_pos (by omega),dif_pos h2,if_pos (by omega)];exact⟨rfl,rfl⟩
 ·rw [Ni a (by omega)]at h'
  rw [if_neg (by omega),if_pos (by omega)]
  by_cases h2:a+1<s.length
  ·rw [N9 s (a+1) h2]at h'
   rw [dif_pos h2,if_neg (fun e3=>h' ⟨by omega,by omega⟩)];exact⟨rfl,rfl⟩
  ·rw [dif_neg h2];exact⟨rfl,rfl⟩
theorem Be2(k:Int):(0:Int)≤0∧(0:Int)<(([[IV.int .i64 k]]:List (List IV)).length:Int):=⟨by decide,by simp⟩
theorem Bhy(k:Int):¬IntKind.i64.wrap (0+1)<(([[IV.int .i64 k]]:List (List IV)).length:Int):=by
 rw [Az _ (by omega) (by omega)];simp
theorem Bfj(k:Int)(s:List UInt8)(a:Nat)(h:a<s.length):Ci k (s.drop a)=if kd s[a]=k then Ci k (s.drop (a+1))+1 else 0:=by
 rw [I9 s a h,Ci]
theorem A86(k:Int)(s:List UInt8)(a:Nat)(h:¬a<s.length):Ci k (s.drop a)=0:=by
 rw [List.drop_eq_nil_of_le (by omega)];rfl
theorem Aiv(k:Int):∀l:List UInt8,Ci k l≤l.length
 | []=>Nat.le_refl _
 |c::r=>by
  rw [Ci]
  split
  ·have:=Aiv k r;simp;omega
  ·omega
theorem A6a(k:Int)(s:List UInt8)(hs:s.length≤1000000000)(a:Nat)(ha:a≤s.length)(Q:AV→Heap→Prop)(hq:Q (.imm (.int .i64 (Ci k (s.drop a):Nat))) []):∀(m i:Nat),m+(a+i)=s.length→Ci k (s.drop a)=i+Ci k (s.drop (a+i))→
 Xo s a [[.int .i64 k]] i (Ad4 Q):=by
 intro m
 induction m with
 |zero=>
  intro i hi he
  refine Ahf _ _ _ _ _ ?_
  rw [wrS s.length a (by omega) (by omega)]
  refine Cc (fun h=>by omega) fun _=>Ahc _ _ (Afh _ _ (Ahb _ _ ?_))
  rw [A86 k s (a+i) (by omega)]at he
  rw [he]at hq;exact hq
 |succ m ih=>
  intro i hi he
  have hlt:a+i<s.length:=by omega
  refine Ahf _ _ _ _ _ ?_
  rw [wrS s.length a (by omega) (by omega)]
  refine Cc (fun h=> ?_) fun h=>by omega
  refine Afs _ _ _ _ _ _ _ _ (Cc (fun _=>⟨⟨Be2 k,rfl⟩, ?_⟩) fun h=>absurd (Be2 k).2 h)
  rw [wrA a i (by omega)]
  refine⟨⟨by omega,by omega⟩, ?_⟩
  rw [N9 s (a+i) hlt]
  refine Call.use (Bf8 _) ⟨⟨rfl,rfl⟩, ?_⟩
  rw [Hm,show gI ([[IV.int .i64 k]].getD (Int.toNat 0) []) 0=k from rfl]
  rw [Bfj k s (a+i) hlt]at he
  refine Cc (fun e=> ?_) fun e=> ?_
  ·refine Avo _ _ _ _ _ (Art _ _ _ _ _ (Avm _ _ _ _ _ ?_))
   rw [Ni i (by omega)]
   rw [if_pos e]at he
   exact ih (i+1) (by omega) (by rw [show a+(i+1)=a+i+1 by omega];omega)
  ·refine Afs _ _ _ _ _ _ _ _ (Cc (fun h=>absurd h (Bhy k)) fun _=> ?_)
   refine Avp _ _ (Ars _ _ (Avn _ _ (Ahc _ _ (Afh _ _ (Ahb _ _ ?_)))))
   rw [if_neg e]at he
   rw [he]at hq;exact hq
theorem Ack(k:Int)(s:List UInt8)(hs:s.length≤1000000000)(a:Nat)(ha:a≤s.length):Call E0.P Ur [.imm (.str s), .imm (.int .i64 (a:Int)), .imm (.sl .any 1 [[.int .i64 k]])] [] (Is (.imm (.int .i64 (Ci k (s.drop a):Nat))) []):=by
 refine Ay1 _ _ _ _ (Call.use (A6i s a) ⟨⟨rfl,rfl⟩,Yg (p:=a<s.length) (by rw [Pj,Bt]) (fun h=> ?_) fun h=> ?_⟩)
 ·rw [A86 k s a h];exact⟨rfl,rfl⟩
 ·exact A6a k s hs a ha _ ⟨rfl,rfl⟩ (s.length - a) 0 (by omega) (by simp)
end Go.Proofs.Sim.Se
set_option maxRecDepth 100000
namespace Go.Proofs.Sim.Se
open Go Go.Proofs Go.Proofs.Sim Go.Proofs.Sim.Va Go.RowKit Go.Proofs.Sim.Pa
def Aaa:List UInt8→Nat
 | []=>0
 |c::r=>if c.toNat=10∨c.toNat=13 then 0 else Aaa r+1
theorem kd0 {c:UInt8} (h:kd c=0):c.toNat=0∨c.toNat=9∨c.toNat=10∨c.toNat=12∨c.toNat=13∨c.toNat=32:=by
 unfold kd Z9 at h
 by_cases h1:(c.toNat:Int)=0∨(c.toNat:Int)=9∨(c.toNat:Int)=10∨(c.toNat:Int)=12∨(c.toNat:Int)=13∨(c.toNat:Int)=32
 ·omega
 ·rw [if_neg h1]at h
  split at h<;>omega
theorem Bpn {c:UInt8} (h:kd c≠0):c.toNat≠10∧c.toNat≠13:=by
 refine⟨fun e=>h ?_,fun e=>h ?_⟩<;>unfold kd Z9<;>rw [if_pos (by omega)]
theorem At0:∀l:List UInt8,Fj false l=Ci 0 l+Fj false (l.drop (Ci 0 l))
 | []=>rfl
 |c::r=>by
  rw [Ci]
  by_cases h:kd c=0
  ·rw [if_pos h,Fj,List.drop_succ_cons]
   have hn:Nb false c=false:=by
    have:=kd0 h
    unfold Nb;split
    ·rfl
    ·rw [if_neg (by omega)]
   rw [hn,if_neg (fun h'=>h'.2 h),At0 r];omega
  ·rw [if_neg h];simp
theorem A4d:∀l:List UInt8,Fj true l=Aaa l+Fj false (l.drop (Aaa l))
 | []=>rfl
 |c::r=>by
  rw [Aaa]
  by_cases h:c.toNat=10∨c.toNat=13
  ·rw [if_pos h]
   have e:∀b,Nb b c=false:=fun b=>by unfold Nb;rw [if_pos h]
   simp only [Fj,e,List.drop_zero,Nat.zero_add]
  ·rw [if_neg h,Fj,List.drop_succ_cons]
   have e:Nb true c=true:=by
    unfold Nb;rw [if_neg h];split<;>rfl
   rw [e,if_neg (fun h'=>by cases h'.1),A4d r];omega
theorem Blo {c:UInt8} (h:c.toNat=37)(r:List UInt8):Fj false (c::r)=Fj true (c::r):=by
 have e:∀b,Nb b c=true:=fun b=>by unfold Nb;rw [if_neg (by omega),if_pos h]
 simp only [Fj,e]
theorem Bfg {c:UInt8} (h:kd c≠0)(h2:c.toNat≠37)(r:List UInt8):Fj false (c::r)=0:=by
 have e:Nb false c=false:=by
  unfold Nb
  rw [if_neg (by have:=Bpn h;omega),if_neg h2]
 rw [Fj,e,if_pos ⟨rfl,h⟩]
theorem A4f(k:Int):∀(l:List UInt8) (c:UInt8) (r:List UInt8),l.drop (Ci k l)=c::r→kd c≠k
 | [],c,r,h=>by simp [Ci]at h
 |x::l,c,r,h=>by
  rw [Ci]at h
  by_cases hx:kd x=k
  ·rw [if_pos hx,List.drop_succ_cons]at h
   exact A4f k l c r h
  ·rw [if_neg hx,List.drop_zero]at h
   injection h with h1 h2
   subst h1;exact hx
theorem A2h:∀l:List UInt8,Aaa l≤l.length
 | []=>Nat.le_refl _
 |c::r=>by
  rw [Aaa]
  split
  ·omega
  ·have:=A2h r;simp;omega
theorem Bav:∀(b:Bool) (l:List UInt8),Fj b l≤l.length
 |_,[]=>Nat.le_refl _
 |b,c::r=>by
  rw [Fj]
  split
  ·omega
  ·have:=Bav (Nb b c) r;simp;omega
theorem Bpm(c:UInt8)(r:List UInt8):Tt (c::r)=0↔¬(c.toNat=10∨c.toNat=13):=by
 rw [Aed]
 by_cases h1:c.toNat=10
 ·rw [if_pos h1];simp [h1]
 ·rw [if_neg h1]
  by_cases h2:c.toNat=13
  ·rw [if_pos h2]
   rcases r with _ |⟨d,r⟩
   ·simp [h2]
   ·simp only [h2];split<;>simp
  ·rw [if_neg h2];simp [h1,h2]
theorem A93(s:List UInt8)(hs:s.length≤1000000000)(K:Ex→St→Prop)(e:Nat)(hk:K (.exit 0) ⟨[(0, .imm (.str s)),(1, .imm (.int .i64 (e:Int)))],[]⟩):∀(m q:Nat),m+q=s.length→e=q+Aaa (s.drop q)→Rm s q K:=by
 intro m
 induction m with
 |zero=>
  intro q hq he
  rw [List.drop_eq_nil_of_le (by omega)]at he
  have:e=q:=he
  subst this
  refine Ahi _ _ _ (brE Bt (fun h=>by omega) fun _=>⟨rfl,Let.intro (brF hk)⟩)
 |succ m ih=>
  intro q hq he
  have hlt:q<s.length:=by omega
  refine Ahi _ _ _ (brE Bt (fun _=>Call.use (Ajz s hs q) ⟨⟨rfl,rfl⟩,Let.intro ?_⟩) fun h=>by omega)
  rw [Hm]
  rw [I9 s q hlt,Aaa]at he
  refine Ef (p:=¬(s[q].toNat=10∨s[q].toNat=13)) (by rw [Bt, ←Bpm s[q] (s.drop (q+1)), ←I9 s q hlt];omega) (fun h=> ?_) fun h=> ?_
  ·refine Au8 _ _ _ (Avt _ _ _ ?_)
   rw [Ni q (by omega)]
   rw [if_neg h]at he
   exact ih (q+1) (by omega) (by omega)
  ·rw [if_pos (Classical.not_not.1 h)]at he
   have:e=q:=he
   subst this;exact hk
theorem Bcf(s:List UInt8)(q:Nat):(decide ((q:Int)<(s.length:Int))=true→(0:Int)≤(q:Int)∧(q:Int)<(s.length:Int)):=fun h=>⟨by omega,of_decide_eq_true h⟩
theorem A8p(s:List UInt8)(q:Nat):((bif decide ((q:Int)<(s.length:Int))then decide (((s.getD (Int.toNat (q:Int)) 0).toNat:Int)=37)else false)=true)↔∃h:q<s.length,s[q].toNat=37:=by
 rw [Tm]
 constructor
 ·rintro⟨h1,h2⟩
  have h:q<s.length:=by omega
  rw [N9 s q h]at h2
  exact⟨h,by omega⟩
 ·rintro⟨h,h2⟩
  rw [N9 s q h]
  exact⟨by omega,by omega⟩
theorem Ayl(s:List UInt8)(p:Nat)(h:¬ ∃h:p+Ci 0 (s.drop p)<s.length,s[p+Ci 0 (s.drop p)].toNat=37):p+Fj false (s.drop p)=p+Ci 0 (s.drop p):=by
 rw [At0,List.drop_drop]
 by_cases hq:p+Ci 0 (s.drop p)<s.length
 ·have hst:=A4f 0 (s.drop p) s[p+Ci 0 (s.drop p)] (s.drop (p+Ci 0 (s.drop p)+1)) (by rw [List.drop_drop,I9 s _ hq])
  rw [I9 s _ hq,Bfg hst (fun e=>h ⟨hq,e⟩)];omega
 ·have e:s.drop (p+Ci 0 (s.drop p))=[]:=List.drop_eq_nil_of_le (by omega)
  rw [e];rfl
theorem Bau(s:List UInt8)(p:Nat)(h:p+Ci 0 (s.drop p)<s.length)(h2:s[p+Ci 0 (s.drop p)].toNat=37):
 p+Fj false (s.drop p)=(p+Ci 0 (s.drop p)+Aaa (s.drop (p+Ci 0 (s.drop p))))+Fj false (s.drop (p+Ci 0 (s.drop p)+Aaa (s.drop (p+Ci 0 (s.drop p))))):=by
 have e1:=At0 (s.drop p)
 rw [List.drop_drop]at e1
 have e2:=A4d (s.drop (p+Ci 0 (s.drop p)))
 rw [List.drop_drop]at e2
 have e3:Fj false (s.drop (p+Ci 0 (s.drop p)))=Fj true (s.drop (p+Ci 0 (s.drop p))):=by
  rw [I9 s _ h];exact Blo h2 _
 omega
theorem Bhm(s:List UInt8)(q:Nat)(h:q<s.length)(h2:s[q].toNat=37):0<Aaa (s.drop q):=by
 rw [I9 s q h,Aaa,if_neg (by omega)];omega
theorem Bge(s:List UInt8)(hs:s.length≤1000000000)(Q:AV→Heap→Prop)(e:Nat)(hk:Q (.imm (.int .i64 (e:Int))) []):∀(m p:Nat),s.length - p≤m→p≤s.length→e=p+Fj false (s.drop p)→Xr s p (Nj Q):=by
 intro m
 induction m with
 |zero=>
  intro p hm hp he
  have hW:=Aiv 0 (s.drop p)
  rw [List.length_drop]at hW
  refine Ahk _ _ _ (Call.use (Ack 0 s hs p hp) ⟨⟨rfl,rfl⟩, ?_⟩)
  rw [Hm,wrA p _ (by omega)]
  refine⟨Bcf _ _,Let.intro (Ef (A8p _ _) (fun⟨h,_⟩=>by omega) fun h=> ?_)⟩
  rw [Ayl s p h]at he
  subst he
  exact V5 _ _ (Ahe _ _ (Ahd _ _ hk))
 |succ m ih=>
  intro p hm hp he
  have hW:=Aiv 0 (s.drop p)
  rw [List.length_drop]at hW
  refine Ahk _ _ _ (Call.use (Ack 0 s hs p hp) ⟨⟨rfl,rfl⟩, ?_⟩)
  rw [Hm,wrA p _ (by omega)]
  refine⟨Bcf _ _,Let.intro (Ef (A8p _ _) (fun⟨h,h2⟩=> ?_) fun h=> ?_)⟩
  ·have hl:=A2h (s.drop (p+Ci 0 (s.drop p)))
   rw [List.length_drop]at hl
   have hpos:=Bhm s _ h h2
   refine A93 s hs _ _ (Avv _ _ _ (Afi _ _ _ (Avu _ _ _ ?_))) _ _ (Nat.sub_add_cancel (Nat.le_of_lt h)) rfl
   exact ih _ (by omega) (by omega) (he.trans (Bau s p h h2))
  ·rw [Ayl s p h]at he
   subst he
   exact V5 _ _ (Ahe _ _ (Ahd _ _ hk))
theorem Aoc(s:List UInt8)(a:Int):Ol s a≤s.length:=by unfold Ol;split<;>(try split)<;>omega
theorem Bn3(s:List UInt8)(a:Int):(if(if(s.length:Int)<a then(s.length:Int)else a)>0 then(if(s.length:Int)<a then(s.length:Int)else a)else 0)=((Ol s a:Nat):Int):=by
 unfold Ol
 by_cases h1:(s.length:Int)<a
 ·rw [if_pos h1,if_pos h1]
  by_cases h2:a<0
  ·omega
  ·rw [if_neg h2];split<;>omega
 ·rw [if_neg h1]
  by_cases h2:a<0
  ·rw [if_pos h2,if_neg (by omega)];rfl
  ·rw [if_neg h2,if_neg h1];split<;>omega
theorem A6h(s:List UInt8)(hs:s.length≤1000000000)(a:Int):Call E0.P Agz [.imm (.str s), .imm (.int .i64 a)] [] (Is (.imm (.int .i64 (Dl s a:Nat))) []):=by
 refine Ay4 _ _ _ ?_
 rw [Bn3]
 have hp:=Aoc s a
 unfold Dl
 generalize Ol s a=p at*
 have hW:=Aiv 0 (s.drop p)
 rw [List.length_drop]at hW
 refine Call.use (Ack 0 s hs p hp) ⟨⟨rfl,rfl⟩, ?_⟩
 rw [Hm,wrA p _ (by omega)]
 refine⟨Bcf _ _,Let.intro (Ef (A8p _ _) (fun⟨h,h2⟩=> ?_) fun h=> ?_)⟩
 ·have hl:=A2h (s.drop (p+Ci 0 (s.drop p)))
  rw [List.length_drop]at hl
  refine A93 s hs _ _ (Avs _ _ _ (Afi _ _ _ (Avr _ _ _ ?_))) _ _ (Nat.sub_add_cancel (Nat.le_of_lt h)) rfl
  exact Bge s hs _ _ ⟨rfl,rfl⟩ _ _ (Nat.le_refl _) (by omega) (Bau s p h h2)
 ·rw [Ayl s p h]
  exact V5 _ _ (Avq _ _ ⟨rfl,rfl⟩)
theorem A81(s:List UInt8)(a:Int):Dl s a≤s.length:=by
 unfold Dl
 have h1:=Aoc s a
 have h2:=Bav false (s.drop (Ol s a))
 rw [List.length_drop]at h2
 omega
end Go.Proofs.Sim.Se
set_option maxRecDepth 100000
namespace Go.Proofs.Sim.Se
open Go Go.Proofs Go.Proofs.Sim Go.Proofs.Sim.Va Go.RowKit Go.Proofs.Sim.Pa
abbrev Vx(s:List UInt8)(a:Int)(rows:LL):Heap:=[(Nm.arg 0, .blk Ac [.imm (.str s), .imm (.int .i64 a), .own (Nm.arg 1)]),(Nm.arg 1, .arr (Aj+2) true 1 rows)]
abbrev A89(k n:Int)(t:List UInt8)(x y e:Int):AV:= .tup [.imm (.agg [.int .i64 k, .int .i64 n, .str t, .int .i64 x, .int .i64 y]), .imm (.int .i64 e)]
abbrev okA(c:Int)(b:Bool):AV:= .tup [.imm (.int .u8 c), .imm (.bool b)]
def ScQ(s:List UInt8)(k:Int)(x:Part):AV→Heap→Prop:=fun r h=>∃(a:Nat) (l:List UInt8),h=Vx s a (Ay l)∧r=A89 (if x.2.2=0 then k else 0) 0 x.1 0 0 x.2.2∧(x.2.2=0→a=x.2.1)∧(x.2.2≠0→x.1=[])
theorem Aez {s:List UInt8} {k e:Int} {a:Nat} {l:List UInt8} (he:e≠0):ScQ s k ([],0,e) (A89 0 0 [] 0 0 e) (Vx s a (Ay l)):=⟨a,l,rfl,by rw [if_neg he],fun h=>absurd h he,fun _=>rfl⟩
theorem A80 {s:List UInt8} {k:Int} {a:Nat} {l t:List UInt8} :ScQ s k (t,a,0) (A89 k 0 t 0 0 0) (Vx s a (Ay l)):=⟨a,l,rfl,by rw [if_pos rfl],fun _=>rfl,fun h=>absurd rfl h⟩
theorem wr2(i:Nat)(h:i≤1000000000000):IntKind.i64.wrap ((i:Int)+2)=((i+2:Nat):Int):=by rw [Az _ (by omega) (by omega)];simp
theorem Bpe(i:Nat)(h:i≤1000000000000):IntKind.i64.wrap (i:Int)=(i:Int):=Az _ (by omega) (by omega)
theorem Atn(c:UInt8): -1≤Ck c∧Ck c≤15:=by
 unfold Ck;split
 ·omega
 ·split
  ·omega
  ·split<;>omega
theorem Bk4:∀h l:Fin 16,IntKind.u8.wrap (IntKind.i64.wrap (↑(BitVec.ofInt 64 (IntKind.i64.wrap (((h:Nat):Int)*(2:Int) ^ (4:Nat))) ||| BitVec.ofInt 64 ((l:Nat):Int)).toNat:Int))=(((UInt8.ofNat (16*(h:Nat)+(l:Nat))).toNat:Nat):Int):=by decide+kernel
theorem nib(x y:Int)(hx:0≤x)(hx2:x≤15)(hy:0≤y)(hy2:y≤15):IntKind.u8.wrap (IntKind.i64.wrap (↑(BitVec.ofInt 64 (IntKind.i64.wrap (x*(2:Int) ^ (4:Nat))) ||| BitVec.ofInt 64 y).toNat:Int))=(((Zo (16*x+y)).toNat:Nat):Int):=by
 have h:=Bk4 ⟨x.toNat,by omega⟩ ⟨y.toNat,by omega⟩
 simp only [Int.toNat_of_nonneg hx,Int.toNat_of_nonneg hy]at h
 rw [h]
 unfold Zo
 rw [show(16*x+y).toNat=16*x.toNat+y.toNat by omega]
section
variable (s:List UInt8) (hs:s.length≤1000000000)
include hs
theorem Azi(a:Nat)(ha:a≤s.length)(h:s.length<a+2)(rows:LL):Call E0.P Hg [.ptr (.arg 0) 0] (Vx s a rows) (Is (okA 0 false) (Vx s a rows)):=by
 refine Mq _ _ _ _ ?_
 rw [wrS s.length a ha (by omega)]
 exact Cc (fun _=>⟨rfl,rfl⟩) fun h=>by omega
theorem A4t(a:Nat)(h:a+1<s.length)(hb:Ck s[a]<0∨Ck s[a+1]<0∨Ck s[a]+Ck s[a+1]=0)(rows:LL):Call E0.P Hg [.ptr (.arg 0) 0] (Vx s a rows) (Is (okA 0 false) (Vx s (a+2:Nat) rows)):=by
 have b1:=Atn s[a]
 have b2:=Atn s[a+1]
 refine Mq _ _ _ _ ?_
 rw [wrS s.length a (by omega) (by omega),Ni a (by omega),wr2 a (by omega)]
 refine Cc (fun _=>by omega) fun _=>⟨⟨by omega,by omega⟩,⟨⟨by omega,by omega⟩, ?_⟩⟩
 rw [N9 s a (by omega),N9 s (a+1) h]
 refine Call.use (Zk _) ⟨⟨rfl,rfl⟩,Call.use (Zk _) ⟨⟨rfl,rfl⟩,Let.intro (Let.intro ?_)⟩⟩
 rw [Hm,Hm,Az (Ck s[a]+Ck s[a+1]) (by omega) (by omega)]
 refine Ef (p:=Ck s[a]<0∨Ck s[a+1]<0∨Ck s[a]+Ck s[a+1]=0) (by rw [Apz,Bhz];omega) (fun _=>⟨rfl,rfl⟩) fun h'=>absurd hb h'
theorem A6f(a:Nat)(h:a+1<s.length)(hb:¬(Ck s[a]<0∨Ck s[a+1]<0∨Ck s[a]+Ck s[a+1]=0))(rows:LL):Call E0.P Hg [.ptr (.arg 0) 0] (Vx s a rows) (Is (okA (Zo (16*Ck s[a]+Ck s[a+1])).toNat true) (Vx s (a+2:Nat) rows)):=by
 have b1:=Atn s[a]
 have b2:=Atn s[a+1]
 refine Mq _ _ _ _ ?_
 rw [wrS s.length a (by omega) (by omega),Ni a (by omega),wr2 a (by omega)]
 refine Cc (fun _=>by omega) fun _=>⟨⟨by omega,by omega⟩,⟨⟨by omega,by omega⟩, ?_⟩⟩
 rw [N9 s a (by omega),N9 s (a+1) h]
 refine Call.use (Zk _) ⟨⟨rfl,rfl⟩,Call.use (Zk _) ⟨⟨rfl,rfl⟩,Let.intro (Let.intro ?_)⟩⟩
 rw [Hm,Hm,Az (Ck s[a]+Ck s[a+1]) (by omega) (by omega)]
 refine Ef (p:=Ck s[a]<0∨Ck s[a+1]<0∨Ck s[a]+Ck s[a+1]=0) (by rw [Apz,Bhz];omega) (fun h'=>absurd h' hb) fun _=>⟨by decide, ?_⟩
 rw [nib _ _ (by omega) (by omega) (by omega) (by omega)]
 exact⟨rfl,rfl⟩
def Bmh(s:List UInt8)(K:KK)(a:Nat)(out:List UInt8):Prop:=
 (∀h:a<s.length,Et (s[a].toNat:Int) true s a 0 0 [] 0 0 (Ay out) K)∧(¬a<s.length→Et 0 false s a 0 0 [] 0 0 (Ay out) K)
omit hs in
theorem Bmg(K:KK)(a:Nat)(out:List UInt8)(h:Bmh s K a out):O9 s a 0 0 [] 0 0 (Ay out) (Lf (Gh K)):=by
 refine Agb _ _ _ _ _ _ _ _ _ (Cc (fun h'=> ?_) fun h'=>⟨⟨by omega,by omega⟩, ?_⟩)
 ·apply Vi
  apply Vh
  exact h.2 (by omega)
 ·have hlt:a<s.length:=by omega
  rw [N9 s a hlt]
  apply Vi
  apply Vh
  exact h.1 hlt
theorem Bma(at_:Int)(out0:LL)(Q:QQ)(X:Part)(hQ:∀r h,ScQ s 2 X r h→Q r h):∀(m a:Nat) (out:List UInt8),s.length≤a+m→out.length≤127→nameL (s.drop a) out a=X→Bmh s (Cz s at_ out0 Q) a out:=by
 have fin:∀(a:Nat) (out:List UInt8),X=(out,a,0)→Cz s at_ out0 Q (.exit 0) ⟨[(0, .ptr (Nm.arg 0) 0),(2, .ptr (Nm.loc 2) 0)],[(Nm.arg 0, .blk Ac [.imm (.str s), .imm (.int .i64 a), .own (Nm.arg 1)]),(Nm.loc 2, .blk Ap [.imm (.int .i64 0), .imm (.int .i64 0), .imm (.str []), .imm (.int .i64 0), .imm (.int .i64 0)]),(Nm.arg 1, .arr (Aj+2) true 1 (Ay out))]⟩:=by
  intro a out hX
  apply Ahu
  refine Agc _ _ _ _ _ _ _ _ _ ⟨Ain _, ?_⟩
  apply Aht
  rw [Auz]
  exact hQ _ _ (hX ▸ A80)
 have off:∀(a:Nat) (out:List UInt8),¬a<s.length→nameL (s.drop a) out a=X→Et 0 false s a 0 0 [] 0 0 (Ay out) (Cz s at_ out0 Q):=by
  intro a out h hX
  rw [List.drop_eq_nil_of_le (by omega)]at hX
  refine Vm _ _ _ _ _ _ _ _ _ _ _ (brE (p:=False) (by simp) (fun h=>h.elim) fun _=>⟨rfl,Let.intro (brF (fin a out hX.symm))⟩)
 intro m
 induction m with
 |zero=>intro a out hm ho hX;exact⟨fun h=>by omega,fun h=>off a out h hX⟩
 |succ m ih=>
  intro a out hm ho hX
  refine⟨fun h=> ?_,fun h=>off a out h hX⟩
  refine Vm _ _ _ _ _ _ _ _ _ _ _ (brE (p:=True) (by simp) (fun _=>Call.use (Bf8 _) ⟨⟨rfl,rfl⟩,Let.intro ?_⟩) fun h=>absurd trivial h)
  rw [Hm]
  rw [I9 s a h]at hX
  refine Cc (fun hk=> ?_) fun hk=> ?_
  ·have bad:∀(e:Int) (b:Nat) (o:List UInt8),e≠0→X=([],0,e)→Cz s at_ out0 Q .ret ⟨[(2, .ptr (Nm.loc 2) 0),(3, .imm (.int .i64 e))],[(Nm.loc 2, .blk Ap [.imm (.int .i64 0), .imm (.int .i64 0), .imm (.str []), .imm (.int .i64 0), .imm (.int .i64 0)]),(Nm.arg 0, .blk Ac [.imm (.str s), .imm (.int .i64 b), .own (Nm.arg 1)]),(Nm.arg 1, .arr (Aj+2) true 1 (Ay o))]⟩:=by
    intro e b o he hx
    apply Ahv
    exact hQ _ _ (hx ▸ Aez he)
   have push:∀(c:UInt8) (b:Nat),a<b→(X=if 127≤out.length then([],0,8)else nameL (s.drop b) (out++[c]) b)→Km (c.toNat:Int) s b 0 0 [] 0 0 (Ay out) (Ih (Gh (Cz s at_ out0 Q))):=by
    intro c b hb hx
    refine Aga _ _ _ _ _ _ _ _ _ _ ⟨⟨by rw [Yf];omega,by rw [Yf];omega⟩, ?_⟩
    rw [Y9,Yf,List.length_append]
    refine Cc (fun h'=> ?_) fun h'=> ?_
    ·rw [if_pos (by simp at h';omega)]at hx
     apply Ahw
     apply M4
     exact bad 8 b _ (by decide) hx
    ·rw [if_neg (by simp at h';omega)]at hx
     apply Ahx
     exact Bmg s _ b _ (ih b (out++[c]) (by omega) (by simp at h' ⊢; omega) hx.symm)
   refine Ahr _ _ _ _ _ _ _ _ _ _ (Cc (fun h35=> ?_) fun h35=> ?_)
   ·rw [Ni a (by omega)]
    rw [nameL.eq_def]at hX
    simp only at hX
    rw [if_pos hk,if_pos (by omega)]at hX
    by_cases h3:s.length<a+1+2
    ·refine Call.use (Azi s hs (a+1) (by omega) h3 _) ⟨⟨rfl,rfl⟩,Axz rfl ?_⟩
     apply M4
     refine bad 4 (a+1) out (by decide) ?_
     rw [←hX]
     by_cases h4:a+1<s.length
     ·rw [I9 s (a+1) h4,List.drop_eq_nil_of_le (by omega)]
     ·rw [List.drop_eq_nil_of_le (by omega)]
    ·have h4:a+1<s.length:=by omega
     have h5:a+1+1<s.length:=by omega
     rw [I9 s (a+1) h4,I9 s (a+1+1) h5]at hX
     simp only at hX
     by_cases hb:Ck s[a+1]<0∨Ck s[a+1+1]<0∨Ck s[a+1]+Ck s[a+1+1]=0
     ·refine Call.use (A4t s hs (a+1) h5 hb _) ⟨⟨rfl,rfl⟩,Axz rfl ?_⟩
      apply M4
      rw [if_pos hb]at hX
      exact bad 4 (a+1+2) out (by decide) hX.symm
     ·refine Call.use (A6f s hs (a+1) h5 hb _) ⟨⟨rfl,rfl⟩,Ax0 rfl ?_⟩
      rw [if_neg hb]at hX
      exact push (Zo (16*Ck s[a+1]+Ck s[a+1+1])) (a+1+2) (by omega) hX.symm
   ·rw [Ni a (by omega)]
    rw [nameL.eq_def]at hX
    simp only at hX
    rw [if_pos hk,if_neg (by omega)]at hX
    exact push s[a] (a+1) (by omega) hX.symm
  ·rw [nameL.eq_def]at hX
   simp only at hX
   rw [if_neg hk]at hX
   exact fin a out hX.symm
theorem Bmq(a:Nat)(ha:a<s.length):Call E0.P Ry [.ptr (.arg 0) 0] (Vx s a []) (ScQ s 2 (nameL (s.drop (a+1)) [] (a+1))):=by
 have h:=Bma s hs a [] (ScQ s 2 (nameL (s.drop (a+1)) [] (a+1))) _ (fun _ _ h=>h) s.length (a+1) [] (by omega) (by simp) rfl
 refine Ako _ _ _ _ ?_
 rw [Ni a (by omega)]
 refine Cc (fun h'=>h.2 (by omega)) fun h'=>⟨⟨by omega,by omega⟩, ?_⟩
 rw [N9 s (a+1) (by omega)]
 exact h.1 (by omega)
end
end Go.Proofs.Sim.Se

import Derived.Test.YtcdjheflchglaaaGreatDoorDtA
import Derived.Test.YtcdjheflchglaaaGreatDoorPaL
set_option maxRecDepth 100000
namespace Go.Proofs.Sim.Se
open Go Go.Proofs Go.Proofs.Sim Go.Proofs.Sim.Va Go.RowKit Go.Proofs.Sim.Pa
theorem Co {p:Prop} {i:Decidable p} {A B:Prop} (h1:p→A)(h2:¬p→B):Br (@decide p i) A B:=⟨fun h=>h1 (of_decide_eq_true h),fun h=>h2 (of_decide_eq_false h)⟩
theorem Gi {b:Bool} {p:Prop} {A B:Prop} (hb:b=true↔p)(h1:p→A)(h2:¬p→B):Br b A B:=⟨fun h=>h1 (hb.1 h),fun h=>h2 fun hp=>by rw [hb.2 hp]at h;cases h⟩
theorem brN {b:Bool} {p:Prop} {A B:Prop} (hb:b=true↔p)(h1:¬p→A)(h2:p→B):Br (!b) A B:=by
 cases b with
 |true=>exact⟨fun h=>absurd h (by decide),fun _=>h2 (hb.1 rfl)⟩
 |false=>exact⟨fun _=>h1 fun hp=>(by have:=hb.2 hp;cases this),fun h=>absurd h (by decide)⟩
theorem brE {b:Bool} {p:Prop} {A B:Prop} (hb:b=true↔p)(h1:p→A)(h2:¬p→B):Br (b == true) A B:=by cases b<;>exact Gi (by simpa using hb) h1 h2
theorem Akf(b:Bool)(p:Prop) {i:Decidable p} :((bif b then true else @decide p i)=true)↔(b=true∨p):=by cases b<;>simp
theorem A7o(p q:Prop) {i:Decidable p} {j:Decidable q} :((bif @decide p i then true else @decide q j)=true)↔(p∨q):=by by_cases p<;>by_cases q<;>simp_all
theorem Q7(p q:Prop) {i:Decidable p} {j:Decidable q} :((bif @decide p i then @decide q j else false)=true)↔(p∧q):=by by_cases p<;>by_cases q<;>simp_all
theorem Cg {p:Prop} {i:Decidable p} :(@decide p i=true)↔p:=decide_eq_true_iff
theorem M4(s:List UInt8)(i:Nat)(h:i<s.length):s.getD (Int.toNat (i:Int)) 0=s[i]:=by simp [List.getD_eq_getElem?_getD,h]
theorem Ma(i:Nat)(h:i≤1000000000000):IntKind.i64.wrap ((i:Int)+1)=((i+1:Nat):Int):=by rw [Bb _ (by omega) (by omega)];simp
theorem wrA(i j:Nat)(h:i+j≤1000000000000):IntKind.i64.wrap ((i:Int)+(j:Int))=((i+j:Nat):Int):=by rw [Bb _ (by omega) (by omega)];simp
theorem wrS(i j:Nat)(h:j≤i)(h2:i≤1000000000000):IntKind.i64.wrap ((i:Int) - (j:Int))=((i - j:Nat):Int):=by rw [Bb _ (by omega) (by omega)];omega
theorem Ip {α:Type} (l:List α)(i:Nat)(h:i<l.length):l.drop i=l[i]::l.drop (i+1):=List.drop_eq_getElem_cons h
theorem brT {A B:Prop} (h:A):Br true A B:=⟨fun _=>h,fun h=>absurd h (by decide)⟩
theorem brF {A B:Prop} (h:B):Br false A B:=⟨fun h=>absurd h (by decide),fun _=>h⟩
theorem Aq1 {b:Bool} {A B:Prop} (hb:b=false)(h:A):Br (!b) A B:=by subst hb;exact brT h
theorem Ar3 {b:Bool} {A B:Prop} (hb:b=true)(h:B):Br (!b) A B:=by subst hb;exact brF h
theorem Vt(a:List UInt8)(c:UInt8):Ba a++[[IV.int .u8 (c.toNat:Int)]]=Ba (a++[c]):=by simp [Ba]
theorem Bfh:([]:List (List IV))=Ba []:=rfl
theorem Vh(a:List UInt8):(Ba a).length=a.length:=by simp [Ba]
theorem Ae9(a:List UInt8):∀r∈Ba a,Ck [.int .u8] r=true:=by
 intro r hr
 simp only [Ba,List.mem_map]at hr
 obtain⟨b,_,rfl⟩:=hr
 rfl
theorem Aop(a:List UInt8):List.map (fun r=>UInt8.ofNat (gI r 0).toNat) (Ba a)=a:=by
 induction a with
 |nil=>rfl
 |cons b a ih=>
  have e:UInt8.ofNat (gI [IV.int .u8 (b.toNat:Int)] 0).toNat=b:=by
   show UInt8.ofNat ((b.toNat:Int)).toNat=b
   simp
  have e2:Ba (b::a)=[.int .u8 (b.toNat:Int)]::Ba a:=rfl
  rw [e2,List.map_cons,e,ih]
theorem Auk(c:UInt8):rI (.imm (.int .u8 (c.toNat:Int)))=(c.toNat:Int):=rfl
theorem Auq(f:UInt8→List UInt8)(s:List UInt8)(i:Nat)(h:i<s.length):(s.drop i).flatMap f=f s[i]++(s.drop (i+1)).flatMap f:=by
 rw [List.drop_eq_getElem_cons h];rfl
end Go.Proofs.Sim.Se
set_option maxRecDepth 100000
namespace Go.Proofs.Sim.Se
open Go Go.Proofs Go.Proofs.Sim Go.Proofs.Sim.Va Go.RowKit Go.Proofs.Sim.Pa
theorem Aoe(a:Int):Call E0.P Lg [.imm (.int .u8 a)] [] (Is (.imm (.int .i64 (Xi a))) []):=by
 have key:∀(b:Bool) (Q:AV→Heap→Prop),Q (.imm (.int .i64 (if b=true then 0 else if a=40∨a=41∨a=60∨a=62∨a=91∨a=93∨a=123∨a=125∨a=47∨a=37 then 1 else 2))) []→Hq a b (Em Q):=by
  intro b Q hq
  have one:∀ {n:Int},a=n→b=false→(n=40∨n=41∨n=60∨n=62∨n=91∨n=93∨n=123∨n=125∨n=47∨n=37)→Br (decide (a=n)) (Em Q .ret ⟨[(2, .imm (.int .i64 1))],[]⟩) (Em Q .normal ⟨[],[]⟩):=by
   intro n e hb hn
   refine Co (fun _=> ?_) fun h=>absurd e h
   subst e
   rw [hb,if_neg (by decide),if_pos hn]at hq
   exact Vw _ _ hq
  refine Aqd _ _ _ ⟨fun h=> ?_,fun h=> ?_⟩
  ·rw [h,if_pos rfl]at hq;exact Vw _ _ hq
  refine Co (fun e=>one e h (by omega)) fun n1=>Co (fun e=>one e h (by omega)) fun n2=>Co (fun e=>one e h (by omega)) fun n3=>Co (fun e=>one e h (by omega)) fun n4=>Co (fun e=>one e h (by omega)) fun n5=>
   Co (fun e=>one e h (by omega)) fun n6=>Co (fun e=>one e h (by omega)) fun n7=>Co (fun e=>one e h (by omega)) fun n8=>Co (fun e=>one e h (by omega)) fun n9=>Co (fun e=> ?_) fun n10=> ?_
  ·rw [h,if_neg (by decide),if_pos (by omega)]at hq
   exact Vw _ _ hq
  ·rw [h,if_neg (by decide),if_neg (by omega)]at hq
   exact Ap3 _ (Am8 _ (Apo _ _ hq))
 have fin:∀(p:Prop) [Decidable p],((a=0∨a=9∨a=10∨a=12∨a=13∨a=32)↔p)→Hq a (decide p) (Em (Is (.imm (.int .i64 (Xi a))) [])):=by
  intro p _ hp
  refine key _ _ ?_
  rw [Xi]
  by_cases h:p
  ·rw [if_pos (hp.2 h),if_pos (decide_eq_true h)];exact⟨rfl,rfl⟩
  ·rw [if_neg (fun h'=>h (hp.1 h')),if_neg (show ¬decide p=true by rw [decide_eq_false h];decide)];exact⟨rfl,rfl⟩
 refine Aub _ _ (Co (fun e=>fin _ (by omega)) fun n1=>Co (fun e=>fin _ (by omega)) fun n2=>Co (fun e=>fin _ (by omega)) fun n3=>Co (fun e=>fin _ (by omega)) fun n4=>Co (fun e=>fin _ (by omega)) fun n5=>fin _ (by omega))
theorem A8y(c:UInt8):Call E0.P Lg [.imm (.int .u8 (c.toNat:Int))] [] (Is (.imm (.int .i64 (kd c))) []):=Aoe _
theorem Bez(c:UInt8):c.toNat<256:=c.toNat_lt
theorem Wn(c:UInt8):Call E0.P Ua [.imm (.int .u8 (c.toNat:Int))] [] (Is (.imm (.int .i64 (Cy c))) []):=by
 have hc:=Bez c
 refine Avr _ _ (Let.intro (Gi (Q7 _ _) (fun h=> ?_) fun h1=>Let.intro (Gi (Q7 _ _) (fun h=> ?_) fun h2=>Let.intro (Gi (Q7 _ _) (fun h=> ?_) fun h3=> ?_))))
 ·rw [wrap_u8 _ (by omega) (by omega),Bb _ (by omega) (by omega)]
  unfold Cy;rw [if_pos (by omega)];exact⟨rfl,rfl⟩
 ·rw [wrap_u8 _ (by omega) (by omega),Bb ((c.toNat:Int) - 65) (by omega) (by omega),Bb _ (by omega) (by omega)]
  unfold Cy;rw [if_neg (by omega),if_pos (by omega),show(c.toNat:Int) - 65+10=(c.toNat:Int) - 55 by omega];exact⟨rfl,rfl⟩
 ·rw [wrap_u8 _ (by omega) (by omega),Bb ((c.toNat:Int) - 97) (by omega) (by omega),Bb _ (by omega) (by omega)]
  unfold Cy;rw [if_neg (by omega),if_neg (by omega),if_pos (by omega),show(c.toNat:Int) - 97+10=(c.toNat:Int) - 87 by omega];exact⟨rfl,rfl⟩
 ·unfold Cy;rw [if_neg (by omega),if_neg (by omega),if_neg (by omega)];exact⟨rfl,rfl⟩
theorem Azw(s:List UInt8)(a:Nat):Call E0.P Sy [.imm (.str s), .imm (.int .i64 (a:Int))] [] (Is (.imm (.bool (decide (a<s.length)))) []):=by
 refine Ap5 _ _ _ (Let.intro ⟨?_,rfl⟩)
 by_cases h:a<s.length
 ·rw [show(bif decide ((0:Int)≤(a:Int))then decide ((a:Int)<(s.length:Int))else false)=true from (Q7 _ _).2 ⟨by omega,by omega⟩,decide_eq_true h]
 ·rw [show(bif decide ((0:Int)≤(a:Int))then decide ((a:Int)<(s.length:Int))else false)=false from Bool.eq_false_iff.2 fun h'=>h (by have:=((Q7 _ _).1 h').2;omega),decide_eq_false h]
theorem Bcz(s:List UInt8)(a:Nat)(h:a<s.length):Rc (s.drop a)=if s[a].toNat=10 then 1 else if s[a].toNat=13 then(if h:a+1<s.length then(if s[a+1].toNat=10 then 2 else 1)else 1)else 0:=by
 rw [Ip s a h,Abd]
 split
 ·rfl
 ·split
  ·by_cases h2:a+1<s.length
   ·rw [Ip s (a+1) h2,dif_pos h2]
   ·rw [List.drop_eq_nil_of_le (by omega),dif_neg h2]
  ·rfl
theorem Agk(s:List UInt8)(hs:s.length≤1000000000)(a:Nat):Call E0.P Nz [.imm (.str s), .imm (.int .i64 (a:Int))] [] (Is (.imm (.int .i64 (Rc (s.drop a):Nat))) []):=by
 refine Aui _ _ _ (Call.use (Azw s a) ⟨⟨rfl,rfl⟩,brN (p:=a<s.length) (by rw [N7,Cg]) (fun h=> ?_) fun h=> ?_⟩)
 ·rw [List.drop_eq_nil_of_le (by omega)];exact⟨rfl,rfl⟩
 rw [M4 s a h,Bcz s a h]
 refine⟨⟨by omega,by omega⟩,Co (fun e=> ?_) fun e=>⟨⟨by omega,by omega⟩,brN Cg (fun e2=> ?_) fun e2=>⟨fun h'=> ?_,Let.intro (Gi (Q7 _ _) (fun h'=> ?_) fun h'=> ?_)⟩⟩⟩
 ·rw [if_pos (by omega)];exact⟨rfl,rfl⟩
 ·rw [if_neg (by omega),if_neg (by omega)];exact⟨rfl,rfl⟩
 ·have:=of_decide_eq_true h'
  rw [Ma a (by omega)]at this ⊢
  omega
 ·rw [Ma a (by omega)]at h'
  have h2:a+1<s.length:=by have:=h'.1;omega
  rw [M4 s (a+1) h2]at h'
  rw [if_neg (by omega),if_pos (by omega),dif_pos h2,if_pos (by omega)];exact⟨rfl,rfl⟩
 ·rw [Ma a (by omega)]at h'
  rw [if_neg (by omega),if_pos (by omega)]
  by_cases h2:a+1<s.length
  ·rw [M4 s (a+1) h2]at h'
   rw [dif_pos h2,if_neg (fun e3=>h' ⟨by omega,by omega⟩)];exact⟨rfl,rfl⟩
  ·rw [dif_neg h2];exact⟨rfl,rfl⟩
theorem A4o(k:Int):(0:Int)≤0∧(0:Int)<(([[IV.int .i64 k]]:List (List IV)).length:Int):=⟨by decide,by simp⟩
theorem A9b(k:Int):¬IntKind.i64.wrap (0+1)<(([[IV.int .i64 k]]:List (List IV)).length:Int):=by
 rw [Bb _ (by omega) (by omega)];simp
theorem A51(k:Int)(s:List UInt8)(a:Nat)(h:a<s.length):Cs k (s.drop a)=if kd s[a]=k then Cs k (s.drop (a+1))+1 else 0:=by
 rw [Ip s a h,Cs]
theorem Ayt(k:Int)(s:List UInt8)(a:Nat)(h:¬a<s.length):Cs k (s.drop a)=0:=by
 rw [List.drop_eq_nil_of_le (by omega)];rfl
theorem Ae8(k:Int):∀l:List UInt8,Cs k l≤l.length
 | []=>Nat.le_refl _
 |c::r=>by
  rw [Cs]
  split
  ·have:=Ae8 k r;simp;omega
  ·omega
theorem A00(k:Int)(s:List UInt8)(hs:s.length≤1000000000)(a:Nat)(ha:a≤s.length)(Q:AV→Heap→Prop)(hq:Q (.imm (.int .i64 (Cs k (s.drop a):Nat))) []):∀(m i:Nat),m+(a+i)=s.length→Cs k (s.drop a)=i+Cs k (s.drop (a+i))→
 U2 s a [[.int .i64 k]] i (Aa7 Q):=by
 intro m
 induction m with
 |zero=>
  intro i hi he
  refine Adv _ _ _ _ _ ?_
  rw [wrS s.length a (by omega) (by omega)]
  refine Co (fun h=>by omega) fun _=>Ad1 _ _ (Acr _ _ (Adw _ _ ?_))
  rw [Ayt k s (a+i) (by omega)]at he
  rw [he]at hq;exact hq
 |succ m ih=>
  intro i hi he
  have hlt:a+i<s.length:=by omega
  refine Adv _ _ _ _ _ ?_
  rw [wrS s.length a (by omega) (by omega)]
  refine Co (fun h=> ?_) fun h=>by omega
  refine Acn _ _ _ _ _ _ _ _ (Co (fun _=>⟨⟨A4o k,rfl⟩, ?_⟩) fun h=>absurd (A4o k).2 h)
  rw [wrA a i (by omega)]
  refine⟨⟨by omega,by omega⟩, ?_⟩
  rw [M4 s (a+i) hlt]
  refine Call.use (A8y _) ⟨⟨rfl,rfl⟩, ?_⟩
  rw [Hd,show gI ([[IV.int .i64 k]].getD (Int.toNat 0) []) 0=k from rfl]
  rw [A51 k s (a+i) hlt]at he
  refine Co (fun e=> ?_) fun e=> ?_
  ·refine Aqa _ _ _ _ _ (Aoh _ _ _ _ _ (Ap9 _ _ _ _ _ ?_))
   rw [Ma i (by omega)]
   rw [if_pos e]at he
   exact ih (i+1) (by omega) (by rw [show a+(i+1)=a+i+1 by omega];omega)
  ·refine Acn _ _ _ _ _ _ _ _ (Co (fun h=>absurd h (A9b k)) fun _=> ?_)
   refine Apl _ _ (Amx _ _ (Ape _ _ (Ad1 _ _ (Acr _ _ (Adw _ _ ?_)))))
   rw [if_neg e]at he
   rw [he]at hq;exact hq
theorem Z7(k:Int)(s:List UInt8)(hs:s.length≤1000000000)(a:Nat)(ha:a≤s.length):Call E0.P Rw [.imm (.str s), .imm (.int .i64 (a:Int)), .imm (.sl .any 1 [[.int .i64 k]])] [] (Is (.imm (.int .i64 (Cs k (s.drop a):Nat))) []):=by
 refine As1 _ _ _ _ (Call.use (Azw s a) ⟨⟨rfl,rfl⟩,brN (p:=a<s.length) (by rw [N7,Cg]) (fun h=> ?_) fun h=> ?_⟩)
 ·rw [Ayt k s a h];exact⟨rfl,rfl⟩
 ·exact A00 k s hs a ha _ ⟨rfl,rfl⟩ (s.length - a) 0 (by omega) (by simp)
end Go.Proofs.Sim.Se
set_option maxRecDepth 100000
namespace Go.Proofs.Sim.Se
open Go Go.Proofs Go.Proofs.Sim Go.Proofs.Sim.Va Go.RowKit Go.Proofs.Sim.Pa
def Wy:List UInt8→Nat
 | []=>0
 |c::r=>if c.toNat=10∨c.toNat=13 then 0 else Wy r+1
theorem kd0 {c:UInt8} (h:kd c=0):c.toNat=0∨c.toNat=9∨c.toNat=10∨c.toNat=12∨c.toNat=13∨c.toNat=32:=by
 unfold kd Xi at h
 by_cases h1:(c.toNat:Int)=0∨(c.toNat:Int)=9∨(c.toNat:Int)=10∨(c.toNat:Int)=12∨(c.toNat:Int)=13∨(c.toNat:Int)=32
 ·omega
 ·rw [if_neg h1]at h
  split at h<;>omega
theorem Bfk {c:UInt8} (h:kd c≠0):c.toNat≠10∧c.toNat≠13:=by
 refine⟨fun e=>h ?_,fun e=>h ?_⟩<;>unfold kd Xi<;>rw [if_pos (by omega)]
theorem Ank:∀l:List UInt8,Fu false l=Cs 0 l+Fu false (l.drop (Cs 0 l))
 | []=>rfl
 |c::r=>by
  rw [Cs]
  by_cases h:kd c=0
  ·rw [if_pos h,Fu,List.drop_succ_cons]
   have hn:Lt false c=false:=by
    have:=kd0 h
    unfold Lt;split
    ·rfl
    ·rw [if_neg (by omega)]
   rw [hn,if_neg (fun h'=>h'.2 h),Ank r];omega
  ·rw [if_neg h];simp
theorem Awr:∀l:List UInt8,Fu true l=Wy l+Fu false (l.drop (Wy l))
 | []=>rfl
 |c::r=>by
  rw [Wy]
  by_cases h:c.toNat=10∨c.toNat=13
  ·rw [if_pos h]
   have e:∀b,Lt b c=false:=fun b=>by unfold Lt;rw [if_pos h]
   simp only [Fu,e,List.drop_zero,Nat.zero_add]
  ·rw [if_neg h,Fu,List.drop_succ_cons]
   have e:Lt true c=true:=by
    unfold Lt;rw [if_neg h];split<;>rfl
   rw [e,if_neg (fun h'=>by cases h'.1),Awr r];omega
theorem Bch {c:UInt8} (h:c.toNat=37)(r:List UInt8):Fu false (c::r)=Fu true (c::r):=by
 have e:∀b,Lt b c=true:=fun b=>by unfold Lt;rw [if_neg (by omega),if_pos h]
 simp only [Fu,e]
theorem A4q {c:UInt8} (h:kd c≠0)(h2:c.toNat≠37)(r:List UInt8):Fu false (c::r)=0:=by
 have e:Lt false c=false:=by
  unfold Lt
  rw [if_neg (by have:=Bfk h;omega),if_neg h2]
 rw [Fu,e,if_pos ⟨rfl,h⟩]
theorem Aw2(k:Int):∀(l:List UInt8) (c:UInt8) (r:List UInt8),l.drop (Cs k l)=c::r→kd c≠k
 | [],c,r,h=>by simp [Cs]at h
 |x::l,c,r,h=>by
  rw [Cs]at h
  by_cases hx:kd x=k
  ·rw [if_pos hx,List.drop_succ_cons]at h
   exact Aw2 k l c r h
  ·rw [if_neg hx,List.drop_zero]at h
   injection h with h1 h2
   subst h1;exact hx
theorem Ava:∀l:List UInt8,Wy l≤l.length
 | []=>Nat.le_refl _
 |c::r=>by
  rw [Wy]
  split
  ·omega
  ·have:=Ava r;simp;omega
theorem A12:∀(b:Bool) (l:List UInt8),Fu b l≤l.length
 |_,[]=>Nat.le_refl _
 |b,c::r=>by
  rw [Fu]
  split
  ·omega
  ·have:=A12 (Lt b c) r;simp;omega
theorem Bfv(c:UInt8)(r:List UInt8):Rc (c::r)=0↔¬(c.toNat=10∨c.toNat=13):=by
 rw [Abd]
 by_cases h1:c.toNat=10
 ·rw [if_pos h1];simp [h1]
 ·rw [if_neg h1]
  by_cases h2:c.toNat=13
  ·rw [if_pos h2]
   rcases r with _ |⟨d,r⟩
   ·simp [h2]
   ·simp only [h2];split<;>simp
  ·rw [if_neg h2];simp [h1,h2]
theorem A2h(s:List UInt8)(hs:s.length≤1000000000)(K:Ex→St→Prop)(e:Nat)(hk:K (.exit 0) ⟨[(0, .imm (.str s)),(1, .imm (.int .i64 (e:Int)))],[]⟩):∀(m q:Nat),m+q=s.length→e=q+Wy (s.drop q)→Px s q K:=by
 intro m
 induction m with
 |zero=>
  intro q hq he
  rw [List.drop_eq_nil_of_le (by omega)]at he
  have:e=q:=he
  subst this
  refine Adx _ _ _ (brE Cg (fun h=>by omega) fun _=>⟨rfl,Let.intro (brF hk)⟩)
 |succ m ih=>
  intro q hq he
  have hlt:q<s.length:=by omega
  refine Adx _ _ _ (brE Cg (fun _=>Call.use (Agk s hs q) ⟨⟨rfl,rfl⟩,Let.intro ?_⟩) fun h=>by omega)
  rw [Hd]
  rw [Ip s q hlt,Wy]at he
  refine Gi (p:=¬(s[q].toNat=10∨s[q].toNat=13)) (by rw [Cg, ←Bfv s[q] (s.drop (q+1)), ←Ip s q hlt];omega) (fun h=> ?_) fun h=> ?_
  ·refine Apx _ _ _ (Apy _ _ _ ?_)
   rw [Ma q (by omega)]
   rw [if_neg h]at he
   exact ih (q+1) (by omega) (by omega)
  ·rw [if_pos (Classical.not_not.1 h)]at he
   have:e=q:=he
   subst this;exact hk
theorem A22(s:List UInt8)(q:Nat):(decide ((q:Int)<(s.length:Int))=true→(0:Int)≤(q:Int)∧(q:Int)<(s.length:Int)):=fun h=>⟨by omega,of_decide_eq_true h⟩
theorem Ayc(s:List UInt8)(q:Nat):((bif decide ((q:Int)<(s.length:Int))then decide (((s.getD (Int.toNat (q:Int)) 0).toNat:Int)=37)else false)=true)↔∃h:q<s.length,s[q].toNat=37:=by
 rw [Q7]
 constructor
 ·rintro⟨h1,h2⟩
  have h:q<s.length:=by omega
  rw [M4 s q h]at h2
  exact⟨h,by omega⟩
 ·rintro⟨h,h2⟩
  rw [M4 s q h]
  exact⟨by omega,by omega⟩
theorem Asa(s:List UInt8)(p:Nat)(h:¬ ∃h:p+Cs 0 (s.drop p)<s.length,s[p+Cs 0 (s.drop p)].toNat=37):p+Fu false (s.drop p)=p+Cs 0 (s.drop p):=by
 rw [Ank,List.drop_drop]
 by_cases hq:p+Cs 0 (s.drop p)<s.length
 ·have hst:=Aw2 0 (s.drop p) s[p+Cs 0 (s.drop p)] (s.drop (p+Cs 0 (s.drop p)+1)) (by rw [List.drop_drop,Ip s _ hq])
  rw [Ip s _ hq,A4q hst (fun e=>h ⟨hq,e⟩)];omega
 ·have e:s.drop (p+Cs 0 (s.drop p))=[]:=List.drop_eq_nil_of_le (by omega)
  rw [e];rfl
theorem A17(s:List UInt8)(p:Nat)(h:p+Cs 0 (s.drop p)<s.length)(h2:s[p+Cs 0 (s.drop p)].toNat=37):
 p+Fu false (s.drop p)=(p+Cs 0 (s.drop p)+Wy (s.drop (p+Cs 0 (s.drop p))))+Fu false (s.drop (p+Cs 0 (s.drop p)+Wy (s.drop (p+Cs 0 (s.drop p))))):=by
 have e1:=Ank (s.drop p)
 rw [List.drop_drop]at e1
 have e2:=Awr (s.drop (p+Cs 0 (s.drop p)))
 rw [List.drop_drop]at e2
 have e3:Fu false (s.drop (p+Cs 0 (s.drop p)))=Fu true (s.drop (p+Cs 0 (s.drop p))):=by
  rw [Ip s _ h];exact Bch h2 _
 omega
theorem A7i(s:List UInt8)(q:Nat)(h:q<s.length)(h2:s[q].toNat=37):0<Wy (s.drop q):=by
 rw [Ip s q h,Wy,if_neg (by omega)];omega
theorem A8i(s:List UInt8)(hs:s.length≤1000000000)(Q:AV→Heap→Prop)(e:Nat)(hk:Q (.imm (.int .i64 (e:Int))) []):∀(m p:Nat),s.length - p≤m→p≤s.length→e=p+Fu false (s.drop p)→U7 s p (Mk Q):=by
 intro m
 induction m with
 |zero=>
  intro p hm hp he
  have hW:=Ae8 0 (s.drop p)
  rw [List.length_drop]at hW
  refine Ad0 _ _ _ (Call.use (Z7 0 s hs p hp) ⟨⟨rfl,rfl⟩, ?_⟩)
  rw [Hd,wrA p _ (by omega)]
  refine⟨A22 _ _,Let.intro (Gi (Ayc _ _) (fun⟨h,_⟩=>by omega) fun h=> ?_)⟩
  rw [Asa s p h]at he
  subst he
  exact Ud _ _ (Ad5 _ _ (Ady _ _ hk))
 |succ m ih=>
  intro p hm hp he
  have hW:=Ae8 0 (s.drop p)
  rw [List.length_drop]at hW
  refine Ad0 _ _ _ (Call.use (Z7 0 s hs p hp) ⟨⟨rfl,rfl⟩, ?_⟩)
  rw [Hd,wrA p _ (by omega)]
  refine⟨A22 _ _,Let.intro (Gi (Ayc _ _) (fun⟨h,h2⟩=> ?_) fun h=> ?_)⟩
  ·have hl:=Ava (s.drop (p+Cs 0 (s.drop p)))
   rw [List.length_drop]at hl
   have hpos:=A7i s _ h h2
   refine A2h s hs _ _ (Apt _ _ _ (Acp _ _ _ (Apv _ _ _ ?_))) _ _ (Nat.sub_add_cancel (Nat.le_of_lt h)) rfl
   exact ih _ (by omega) (by omega) (he.trans (A17 s p h h2))
  ·rw [Asa s p h]at he
   subst he
   exact Ud _ _ (Ad5 _ _ (Ady _ _ hk))
theorem Agr(s:List UInt8)(a:Int):Nn s a≤s.length:=by unfold Nn;split<;>(try split)<;>omega
theorem Bc6(s:List UInt8)(a:Int):(if(if(s.length:Int)<a then(s.length:Int)else a)>0 then(if(s.length:Int)<a then(s.length:Int)else a)else 0)=((Nn s a:Nat):Int):=by
 unfold Nn
 by_cases h1:(s.length:Int)<a
 ·rw [if_pos h1,if_pos h1]
  by_cases h2:a<0
  ·omega
  ·rw [if_neg h2];split<;>omega
 ·rw [if_neg h1]
  by_cases h2:a<0
  ·rw [if_pos h2,if_neg (by omega)];rfl
  ·rw [if_neg h2,if_neg h1];split<;>omega
theorem Ayr(s:List UInt8)(hs:s.length≤1000000000)(a:Int):Call E0.P Adj [.imm (.str s), .imm (.int .i64 a)] [] (Is (.imm (.int .i64 (Du s a:Nat))) []):=by
 refine Auj _ _ _ ?_
 rw [Bc6]
 have hp:=Agr s a
 unfold Du
 generalize Nn s a=p at*
 have hW:=Ae8 0 (s.drop p)
 rw [List.length_drop]at hW
 refine Call.use (Z7 0 s hs p hp) ⟨⟨rfl,rfl⟩, ?_⟩
 rw [Hd,wrA p _ (by omega)]
 refine⟨A22 _ _,Let.intro (Gi (Ayc _ _) (fun⟨h,h2⟩=> ?_) fun h=> ?_)⟩
 ·have hl:=Ava (s.drop (p+Cs 0 (s.drop p)))
  rw [List.length_drop]at hl
  refine A2h s hs _ _ (Ap4 _ _ _ (Acp _ _ _ (Apg _ _ _ ?_))) _ _ (Nat.sub_add_cancel (Nat.le_of_lt h)) rfl
  exact A8i s hs _ _ ⟨rfl,rfl⟩ _ _ (Nat.le_refl _) (by omega) (A17 s p h h2)
 ·rw [Asa s p h]
  exact Ud _ _ (Apn _ _ ⟨rfl,rfl⟩)
theorem Ay8(s:List UInt8)(a:Int):Du s a≤s.length:=by
 unfold Du
 have h1:=Agr s a
 have h2:=A12 false (s.drop (Nn s a))
 rw [List.length_drop]at h2
 omega
end Go.Proofs.Sim.Se
set_option maxRecDepth 100000
namespace Go.Proofs.Sim.Se
open Go Go.Proofs Go.Proofs.Sim Go.Proofs.Sim.Va Go.RowKit Go.Proofs.Sim.Pa
abbrev Tf(s:List UInt8)(a:Int)(rows:LL):Heap:=[(Nm.arg 0, .blk Aa [.imm (.str s), .imm (.int .i64 a), .own (Nm.arg 1)]),(Nm.arg 1, .arr (Aj+2) true 1 rows)]
abbrev Azf(k n:Int)(t:List UInt8)(x y e:Int):AV:= .tup [.imm (.agg [.int .i64 k, .int .i64 n, .str t, .int .i64 x, .int .i64 y]), .imm (.int .i64 e)]
abbrev okA(c:Int)(b:Bool):AV:= .tup [.imm (.int .u8 c), .imm (.bool b)]
def ScQ(s:List UInt8)(k:Int)(x:Part):AV→Heap→Prop:=fun r h=>∃(a:Nat) (l:List UInt8),h=Tf s a (Ba l)∧r=Azf (if x.2.2=0 then k else 0) 0 x.1 0 0 x.2.2∧(x.2.2=0→a=x.2.1)∧(x.2.2≠0→x.1=[])
theorem Aa8 {s:List UInt8} {k e:Int} {a:Nat} {l:List UInt8} (he:e≠0):ScQ s k ([],0,e) (Azf 0 0 [] 0 0 e) (Tf s a (Ba l)):=⟨a,l,rfl,by rw [if_neg he],fun h=>absurd h he,fun _=>rfl⟩
theorem Ays {s:List UInt8} {k:Int} {a:Nat} {l t:List UInt8} :ScQ s k (t,a,0) (Azf k 0 t 0 0 0) (Tf s a (Ba l)):=⟨a,l,rfl,by rw [if_pos rfl],fun _=>rfl,fun h=>absurd rfl h⟩
theorem wr2(i:Nat)(h:i≤1000000000000):IntKind.i64.wrap ((i:Int)+2)=((i+2:Nat):Int):=by rw [Bb _ (by omega) (by omega)];simp
theorem Be5(i:Nat)(h:i≤1000000000000):IntKind.i64.wrap (i:Int)=(i:Int):=Bb _ (by omega) (by omega)
theorem Am0(c:UInt8): -1≤Cy c∧Cy c≤15:=by
 unfold Cy;split
 ·omega
 ·split
  ·omega
  ·split<;>omega
theorem Bas:∀h l:Fin 16,IntKind.u8.wrap (IntKind.i64.wrap (↑(BitVec.ofInt 64 (IntKind.i64.wrap (((h:Nat):Int)*(2:Int) ^ (4:Nat))) ||| BitVec.ofInt 64 ((l:Nat):Int)).toNat:Int))=(((UInt8.ofNat (16*(h:Nat)+(l:Nat))).toNat:Nat):Int):=by decide+kernel
theorem nib(x y:Int)(hx:0≤x)(hx2:x≤15)(hy:0≤y)(hy2:y≤15):IntKind.u8.wrap (IntKind.i64.wrap (↑(BitVec.ofInt 64 (IntKind.i64.wrap (x*(2:Int) ^ (4:Nat))) ||| BitVec.ofInt 64 y).toNat:Int))=(((Wi (16*x+y)).toNat:Nat):Int):=by
 have h:=Bas ⟨x.toNat,by omega⟩ ⟨y.toNat,by omega⟩
 simp only [Int.toNat_of_nonneg hx,Int.toNat_of_nonneg hy]at h
 rw [h]
 unfold Wi
 rw [show(16*x+y).toNat=16*x.toNat+y.toNat by omega]
section
variable (s:List UInt8) (hs:s.length≤1000000000)
include hs
theorem Atk(a:Nat)(ha:a≤s.length)(h:s.length<a+2)(rows:LL):Call E0.P G8 [.ptr (.arg 0) 0] (Tf s a rows) (Is (okA 0 false) (Tf s a rows)):=by
 refine Le _ _ _ _ ?_
 rw [wrS s.length a ha (by omega)]
 exact Co (fun _=>⟨rfl,rfl⟩) fun h=>by omega
theorem Axc(a:Nat)(h:a+1<s.length)(hb:Cy s[a]<0∨Cy s[a+1]<0∨Cy s[a]+Cy s[a+1]=0)(rows:LL):Call E0.P G8 [.ptr (.arg 0) 0] (Tf s a rows) (Is (okA 0 false) (Tf s (a+2:Nat) rows)):=by
 have b1:=Am0 s[a]
 have b2:=Am0 s[a+1]
 refine Le _ _ _ _ ?_
 rw [wrS s.length a (by omega) (by omega),Ma a (by omega),wr2 a (by omega)]
 refine Co (fun _=>by omega) fun _=>⟨⟨by omega,by omega⟩,⟨⟨by omega,by omega⟩, ?_⟩⟩
 rw [M4 s a (by omega),M4 s (a+1) h]
 refine Call.use (Wn _) ⟨⟨rfl,rfl⟩,Call.use (Wn _) ⟨⟨rfl,rfl⟩,Let.intro (Let.intro ?_)⟩⟩
 rw [Hd,Hd,Bb (Cy s[a]+Cy s[a+1]) (by omega) (by omega)]
 refine Gi (p:=Cy s[a]<0∨Cy s[a+1]<0∨Cy s[a]+Cy s[a+1]=0) (by rw [Akf,A7o];omega) (fun _=>⟨rfl,rfl⟩) fun h'=>absurd hb h'
theorem Azc(a:Nat)(h:a+1<s.length)(hb:¬(Cy s[a]<0∨Cy s[a+1]<0∨Cy s[a]+Cy s[a+1]=0))(rows:LL):Call E0.P G8 [.ptr (.arg 0) 0] (Tf s a rows) (Is (okA (Wi (16*Cy s[a]+Cy s[a+1])).toNat true) (Tf s (a+2:Nat) rows)):=by
 have b1:=Am0 s[a]
 have b2:=Am0 s[a+1]
 refine Le _ _ _ _ ?_
 rw [wrS s.length a (by omega) (by omega),Ma a (by omega),wr2 a (by omega)]
 refine Co (fun _=>by omega) fun _=>⟨⟨by omega,by omega⟩,⟨⟨by omega,by omega⟩, ?_⟩⟩
 rw [M4 s a (by omega),M4 s (a+1) h]
 refine Call.use (Wn _) ⟨⟨rfl,rfl⟩,Call.use (Wn _) ⟨⟨rfl,rfl⟩,Let.intro (Let.intro ?_)⟩⟩
 rw [Hd,Hd,Bb (Cy s[a]+Cy s[a+1]) (by omega) (by omega)]
 refine Gi (p:=Cy s[a]<0∨Cy s[a+1]<0∨Cy s[a]+Cy s[a+1]=0) (by rw [Akf,A7o];omega) (fun h'=>absurd h' hb) fun _=>⟨by decide, ?_⟩
 rw [nib _ _ (by omega) (by omega) (by omega) (by omega)]
 exact⟨rfl,rfl⟩
def Bdm(s:List UInt8)(K:KK)(a:Nat)(out:List UInt8):Prop:=
 (∀h:a<s.length,Ev (s[a].toNat:Int) true s a 0 0 [] 0 0 (Ba out) K)∧(¬a<s.length→Ev 0 false s a 0 0 [] 0 0 (Ba out) K)
omit hs in
theorem Bcl(K:KK)(a:Nat)(out:List UInt8)(h:Bdm s K a out):Nt s a 0 0 [] 0 0 (Ba out) (Kk (Gl K)):=by
 refine Adh _ _ _ _ _ _ _ _ _ (Co (fun h'=> ?_) fun h'=>⟨⟨by omega,by omega⟩, ?_⟩)
 ·apply Tm
  apply Tq
  exact h.2 (by omega)
 ·have hlt:a<s.length:=by omega
  rw [M4 s a hlt]
  apply Tm
  apply Tq
  exact h.1 hlt
theorem Bde(at_:Int)(out0:LL)(Q:QQ)(X:Part)(hQ:∀r h,ScQ s 2 X r h→Q r h):∀(m a:Nat) (out:List UInt8),s.length≤a+m→out.length≤127→nameL (s.drop a) out a=X→Bdm s (Dn s at_ out0 Q) a out:=by
 have fin:∀(a:Nat) (out:List UInt8),X=(out,a,0)→Dn s at_ out0 Q (.exit 0) ⟨[(0, .ptr (Nm.arg 0) 0),(2, .ptr (Nm.loc 2) 0)],[(Nm.arg 0, .blk Aa [.imm (.str s), .imm (.int .i64 a), .own (Nm.arg 1)]),(Nm.loc 2, .blk Aq [.imm (.int .i64 0), .imm (.int .i64 0), .imm (.str []), .imm (.int .i64 0), .imm (.int .i64 0)]),(Nm.arg 1, .arr (Aj+2) true 1 (Ba out))]⟩:=by
  intro a out hX
  apply Aec
  refine Acy _ _ _ _ _ _ _ _ _ ⟨Ae9 _, ?_⟩
  apply Aeh
  rw [Aop]
  exact hQ _ _ (hX ▸ Ays)
 have off:∀(a:Nat) (out:List UInt8),¬a<s.length→nameL (s.drop a) out a=X→Ev 0 false s a 0 0 [] 0 0 (Ba out) (Dn s at_ out0 Q):=by
  intro a out h hX
  rw [List.drop_eq_nil_of_le (by omega)]at hX
  refine Su _ _ _ _ _ _ _ _ _ _ _ (brE (p:=False) (by simp) (fun h=>h.elim) fun _=>⟨rfl,Let.intro (brF (fin a out hX.symm))⟩)
 intro m
 induction m with
 |zero=>intro a out hm ho hX;exact⟨fun h=>by omega,fun h=>off a out h hX⟩
 |succ m ih=>
  intro a out hm ho hX
  refine⟨fun h=> ?_,fun h=>off a out h hX⟩
  refine Su _ _ _ _ _ _ _ _ _ _ _ (brE (p:=True) (by simp) (fun _=>Call.use (A8y _) ⟨⟨rfl,rfl⟩,Let.intro ?_⟩) fun h=>absurd trivial h)
  rw [Hd]
  rw [Ip s a h]at hX
  refine Co (fun hk=> ?_) fun hk=> ?_
  ·have bad:∀(e:Int) (b:Nat) (o:List UInt8),e≠0→X=([],0,e)→Dn s at_ out0 Q .ret ⟨[(2, .ptr (Nm.loc 2) 0),(3, .imm (.int .i64 e))],[(Nm.loc 2, .blk Aq [.imm (.int .i64 0), .imm (.int .i64 0), .imm (.str []), .imm (.int .i64 0), .imm (.int .i64 0)]),(Nm.arg 0, .blk Aa [.imm (.str s), .imm (.int .i64 b), .own (Nm.arg 1)]),(Nm.arg 1, .arr (Aj+2) true 1 (Ba o))]⟩:=by
    intro e b o he hx
    apply Aen
    exact hQ _ _ (hx ▸ Aa8 he)
   have push:∀(c:UInt8) (b:Nat),a<b→(X=if 127≤out.length then([],0,8)else nameL (s.drop b) (out++[c]) b)→Jy (c.toNat:Int) s b 0 0 [] 0 0 (Ba out) (Ib (Gl (Dn s at_ out0 Q))):=by
    intro c b hb hx
    refine Adn _ _ _ _ _ _ _ _ _ _ ⟨⟨by rw [Vh];omega,by rw [Vh];omega⟩, ?_⟩
    rw [Vt,Vh,List.length_append]
    refine Co (fun h'=> ?_) fun h'=> ?_
    ·rw [if_pos (by simp at h';omega)]at hx
     apply Aes
     apply L6
     exact bad 8 b _ (by decide) hx
    ·rw [if_neg (by simp at h';omega)]at hx
     apply Aej
     exact Bcl s _ b _ (ih b (out++[c]) (by omega) (by simp at h' ⊢; omega) hx.symm)
   refine Ael _ _ _ _ _ _ _ _ _ _ (Co (fun h35=> ?_) fun h35=> ?_)
   ·rw [Ma a (by omega)]
    rw [nameL.eq_def]at hX
    simp only at hX
    rw [if_pos hk,if_pos (by omega)]at hX
    by_cases h3:s.length<a+1+2
    ·refine Call.use (Atk s hs (a+1) (by omega) h3 _) ⟨⟨rfl,rfl⟩,Aq1 rfl ?_⟩
     apply L6
     refine bad 4 (a+1) out (by decide) ?_
     rw [←hX]
     by_cases h4:a+1<s.length
     ·rw [Ip s (a+1) h4,List.drop_eq_nil_of_le (by omega)]
     ·rw [List.drop_eq_nil_of_le (by omega)]
    ·have h4:a+1<s.length:=by omega
     have h5:a+1+1<s.length:=by omega
     rw [Ip s (a+1) h4,Ip s (a+1+1) h5]at hX
     simp only at hX
     by_cases hb:Cy s[a+1]<0∨Cy s[a+1+1]<0∨Cy s[a+1]+Cy s[a+1+1]=0
     ·refine Call.use (Axc s hs (a+1) h5 hb _) ⟨⟨rfl,rfl⟩,Aq1 rfl ?_⟩
      apply L6
      rw [if_pos hb]at hX
      exact bad 4 (a+1+2) out (by decide) hX.symm
     ·refine Call.use (Azc s hs (a+1) h5 hb _) ⟨⟨rfl,rfl⟩,Ar3 rfl ?_⟩
      rw [if_neg hb]at hX
      exact push (Wi (16*Cy s[a+1]+Cy s[a+1+1])) (a+1+2) (by omega) hX.symm
   ·rw [Ma a (by omega)]
    rw [nameL.eq_def]at hX
    simp only at hX
    rw [if_pos hk,if_neg (by omega)]at hX
    exact push s[a] (a+1) (by omega) hX.symm
  ·rw [nameL.eq_def]at hX
   simp only at hX
   rw [if_neg hk]at hX
   exact fin a out hX.symm
theorem Bd7(a:Nat)(ha:a<s.length):Call E0.P P8 [.ptr (.arg 0) 0] (Tf s a []) (ScQ s 2 (nameL (s.drop (a+1)) [] (a+1))):=by
 have h:=Bde s hs a [] (ScQ s 2 (nameL (s.drop (a+1)) [] (a+1))) _ (fun _ _ h=>h) s.length (a+1) [] (by omega) (by simp) rfl
 refine Ag8 _ _ _ _ ?_
 rw [Ma a (by omega)]
 refine Co (fun h'=>h.2 (by omega)) fun h'=>⟨⟨by omega,by omega⟩, ?_⟩
 rw [M4 s (a+1) (by omega)]
 exact h.1 (by omega)
end
end Go.Proofs.Sim.Se

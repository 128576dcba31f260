import Derived.Test.YtaggabcajidnnaaGreatDoorDtA
import Derived.Test.YtaggabcajidnnaaGreatDoorPaL
set_option maxRecDepth 100000
namespace Go.Proofs.Sim.Se
open Go Go.Proofs Go.Proofs.Sim Go.Proofs.Sim.Va Go.RowKit Go.Proofs.Sim.Pa
theorem Ce {p:Prop} {i:Decidable p} {A B:Prop} (h1:p→A)(h2:¬p→B):Br (@decide p i) A B:=⟨fun h=>h1 (of_decide_eq_true h),fun h=>h2 (of_decide_eq_false h)⟩
theorem Dt {b:Bool} {p:Prop} {A B:Prop} (hb:b=true↔p)(h1:p→A)(h2:¬p→B):Br b A B:=⟨fun h=>h1 (hb.1 h),fun h=>h2 fun hp=>by rw [hb.2 hp]at h;cases h⟩
theorem Xr {b:Bool} {p:Prop} {A B:Prop} (hb:b=true↔p)(h1:¬p→A)(h2:p→B):Br (!b) A B:=by
 cases b with
 |true=>exact⟨fun h=>absurd h (by decide),fun _=>h2 (hb.1 rfl)⟩
 |false=>exact⟨fun _=>h1 fun hp=>(by have:=hb.2 hp;cases this),fun h=>absurd h (by decide)⟩
theorem brE {b:Bool} {p:Prop} {A B:Prop} (hb:b=true↔p)(h1:p→A)(h2:¬p→B):Br (b == true) A B:=by cases b<;>exact Dt (by simpa using hb) h1 h2
theorem Aja(b:Bool)(p:Prop) {i:Decidable p} :((bif b then true else @decide p i)=true)↔(b=true∨p):=by cases b<;>simp
theorem Bov(p q:Prop) {i:Decidable p} {j:Decidable q} :((bif @decide p i then true else @decide q j)=true)↔(p∨q):=by by_cases p<;>by_cases q<;>simp_all
theorem Oj(p q:Prop) {i:Decidable p} {j:Decidable q} :((bif @decide p i then @decide q j else false)=true)↔(p∧q):=by by_cases p<;>by_cases q<;>simp_all
theorem Ca {p:Prop} {i:Decidable p} :(@decide p i=true)↔p:=decide_eq_true_iff
theorem Lm(s:List UInt8)(i:Nat)(h:i<s.length):s.getD (Int.toNat (i:Int)) 0=s[i]:=by simp [List.getD_eq_getElem?_getD,h]
theorem Jk(i:Nat)(h:i≤1000000000000):IntKind.i64.wrap ((i:Int)+1)=((i+1:Nat):Int):=by rw [Bc _ (by omega) (by omega)];simp
theorem wrA(i j:Nat)(h:i+j≤1000000000000):IntKind.i64.wrap ((i:Int)+(j:Int))=((i+j:Nat):Int):=by rw [Bc _ (by omega) (by omega)];simp
theorem wrS(i j:Nat)(h:j≤i)(h2:i≤1000000000000):IntKind.i64.wrap ((i:Int) - (j:Int))=((i - j:Nat):Int):=by rw [Bc _ (by omega) (by omega)];omega
theorem J2 {α:Type} (l:List α)(i:Nat)(h:i<l.length):l.drop i=l[i]::l.drop (i+1):=List.drop_eq_getElem_cons h
theorem brT {A B:Prop} (h:A):Br true A B:=⟨fun _=>h,fun h=>absurd h (by decide)⟩
theorem brF {A B:Prop} (h:B):Br false A B:=⟨fun h=>absurd h (by decide),fun _=>h⟩
theorem A20 {b:Bool} {A B:Prop} (hb:b=false)(h:A):Br (!b) A B:=by subst hb;exact brT h
theorem A21 {b:Bool} {A B:Prop} (hb:b=true)(h:B):Br (!b) A B:=by subst hb;exact brF h
theorem X9(a:List UInt8)(c:UInt8):Be a++[[IV.int .u8 (c.toNat:Int)]]=Be (a++[c]):=by simp [Be]
theorem Bp9:([]:List (List IV))=Be []:=rfl
theorem Xa(a:List UInt8):(Be a).length=a.length:=by simp [Be]
theorem Afi(a:List UInt8):∀r∈Be a,Bt [.int .u8] r=true:=by
 intro r hr
 simp only [Be,List.mem_map]at hr
 obtain⟨b,_,rfl⟩:=hr
 rfl
theorem Atr(a:List UInt8):List.map (fun r=>UInt8.ofNat (gI r 0).toNat) (Be a)=a:=by
 induction a with
 |nil=>rfl
 |cons b a ih=>
  have e:UInt8.ofNat (gI [IV.int .u8 (b.toNat:Int)] 0).toNat=b:=by
   show UInt8.ofNat ((b.toNat:Int)).toNat=b
   simp
  have e2:Be (b::a)=[.int .u8 (b.toNat:Int)]::Be a:=rfl
  rw [e2,List.map_cons,e,ih]
theorem Arj(c:UInt8):rI (.imm (.int .u8 (c.toNat:Int)))=(c.toNat:Int):=rfl
theorem Akx(f:UInt8→List UInt8)(s:List UInt8)(i:Nat)(h:i<s.length):(s.drop i).flatMap f=f s[i]++(s.drop (i+1)).flatMap f:=by
 rw [List.drop_eq_getElem_cons h];rfl
end Go.Proofs.Sim.Se
set_option maxRecDepth 100000
namespace Go.Proofs.Sim.Se
open Go Go.Proofs Go.Proofs.Sim Go.Proofs.Sim.Va Go.RowKit Go.Proofs.Sim.Pa
theorem Bj4 {α:Type} {P:α→Prop} (l:List α)(i:Nat)(h:i<l.length)(ha:∀x∈l.take i,P x)(hx:P l[i]):∀x∈l.take (i+1),P x:=by
 intro x h'
 rw [List.take_add_one]at h'
 rcases List.mem_append.1 h' with h' |h'
 ·exact ha x h'
 ·simp [h]at h';rw [h'];exact hx
theorem Awq(a:Int):Call E0.P Ny [.imm (.int .u8 a)] [] (Is (.imm (.int .i64 (Sa a))) []):=by
 have key:∀(b:Bool) (Q:AV→Heap→Prop),Q (.imm (.int .i64 (if b=true then 0 else if a=40∨a=41∨a=60∨a=62∨a=91∨a=93∨a=123∨a=125∨a=47∨a=37 then 1 else 2))) []→Iw a b (Fq Q):=by
  intro b Q hq
  have one:∀ {n:Int},a=n→b=false→(n=40∨n=41∨n=60∨n=62∨n=91∨n=93∨n=123∨n=125∨n=47∨n=37)→Br (decide (a=n)) (Fq Q .ret ⟨[(2, .imm (.int .i64 1))],[]⟩) (Fq Q .normal ⟨[],[]⟩):=by
   intro n e hb hn
   refine Ce (fun _=> ?_) fun h=>absurd e h
   subst e
   rw [hb,if_neg (by decide),if_pos hn]at hq
   exact Zq _ _ hq
  refine Ayp _ _ _ ⟨fun h=> ?_,fun h=> ?_⟩
  ·rw [h,if_pos rfl]at hq;exact Zq _ _ hq
  refine Ce (fun e=>one e h (by omega)) fun n1=>Ce (fun e=>one e h (by omega)) fun n2=>Ce (fun e=>one e h (by omega)) fun n3=>Ce (fun e=>one e h (by omega)) fun n4=>Ce (fun e=>one e h (by omega)) fun n5=>
   Ce (fun e=>one e h (by omega)) fun n6=>Ce (fun e=>one e h (by omega)) fun n7=>Ce (fun e=>one e h (by omega)) fun n8=>Ce (fun e=>one e h (by omega)) fun n9=>Ce (fun e=> ?_) fun n10=> ?_
  ·rw [h,if_neg (by decide),if_pos (by omega)]at hq
   exact Zq _ _ hq
  ·rw [h,if_neg (by decide),if_neg (by omega)]at hq
   exact Azp _ (Ava _ (Azo _ _ hq))
 have fin:∀(p:Prop) [Decidable p],((a=0∨a=9∨a=10∨a=12∨a=13∨a=32)↔p)→Iw a (decide p) (Fq (Is (.imm (.int .i64 (Sa a))) [])):=by
  intro p _ hp
  refine key _ _ ?_
  rw [Sa]
  by_cases h:p
  ·rw [if_pos (hp.2 h),if_pos (decide_eq_true h)];exact⟨rfl,rfl⟩
  ·rw [if_neg (fun h'=>h (hp.1 h')),if_neg (show ¬decide p=true by rw [decide_eq_false h];decide)];exact⟨rfl,rfl⟩
 refine A36 _ _ (Ce (fun e=>fin _ (by omega)) fun n1=>Ce (fun e=>fin _ (by omega)) fun n2=>Ce (fun e=>fin _ (by omega)) fun n3=>Ce (fun e=>fin _ (by omega)) fun n4=>Ce (fun e=>fin _ (by omega)) fun n5=>fin _ (by omega))
theorem Bml(s:List UInt8)(a:Int)(hs:s.length≤1000000000)(Q:AV→Heap→Prop)(hq:Q (.imm (.bool (decide (∃c∈s,(c.toNat:Int)=a)))) []):∀(m i:Nat),m+i=s.length→(∀c∈s.take i,(c.toNat:Int)≠a)→Akd s a i (Aj4 Q):=by
 intro m
 induction m with
 |zero=>
  intro i hi ha
  refine At4 _ _ _ _ (Ce (fun h=>by omega) fun _=> ?_)
  rw [List.take_of_length_le (by omega)]at ha
  rw [decide_eq_false (fun⟨c,hc,e⟩=>ha c hc e)]at hq
  exact Bat _ (Baj _ (Bar _ _ hq))
 |succ m ih=>
  intro i hi ha
  have hlt:i<s.length:=by omega
  refine At4 _ _ _ _ (Ce (fun _=>⟨⟨by omega,by omega⟩, ?_⟩) fun h=>by omega)
  rw [Lm s i hlt]
  refine Ce (fun e=> ?_) fun e=> ?_
  ·rw [decide_eq_true (⟨s[i],List.getElem_mem hlt,e⟩:∃c∈s,(c.toNat:Int)=a)]at hq
   exact Bas _ _ hq
  ·rw [show IntKind.i64.wrap ((i:Int)+1)=((i+1:Nat):Int)by rw [Bc _ (by omega) (by omega)];simp]
   exact ih (i+1) (by omega) (Bj4 (P:=fun c:UInt8=>(c.toNat:Int)≠a) _ _ hlt ha e)
theorem Bca(s:List UInt8)(a:Int)(hs:s.length≤1000000000):Call E0.P Aoa [.imm (.str s), .imm (.int .u8 a)] [] (Is (.imm (.bool (decide (∃c∈s,(c.toNat:Int)=a)))) []):=
 Bfm _ _ _ (Bml s a hs _ ⟨rfl,rfl⟩ s.length 0 rfl (by simp))
theorem Bhp(a:Int):Call E0.P Apa [.imm (.int .u8 a)] [] (Is (.imm (.int .i64 (Sa a))) []):=by
 have fl:∀x y:Int,x=y↔y=x:=fun x y=>eq_comm
 refine Bak _ _ (Call.use (Bca _ a (by decide)) ⟨⟨rfl,rfl⟩,Dt (p:=a=0∨a=9∨a=10∨a=12∨a=13∨a=32) ?_ (fun h=> ?_) fun h=> ?_⟩)
 ·rw [I7,decide_eq_true_iff];simp [fl _ a]
 ·rw [Sa,if_pos h];exact⟨rfl,rfl⟩
 ·refine Call.use (Bca _ a (by decide)) ⟨⟨rfl,rfl⟩,Dt (p:=a=40∨a=41∨a=60∨a=62∨a=91∨a=93∨a=123∨a=125∨a=47∨a=37) ?_ (fun h'=> ?_) fun h'=> ?_⟩
  ·rw [I7,decide_eq_true_iff];simp [fl _ a]
  ·rw [Sa,if_neg h,if_pos h'];exact⟨rfl,rfl⟩
  ·rw [Sa,if_neg h,if_neg h'];exact⟨rfl,rfl⟩
theorem Bmz(c:UInt8):Call E0.P Ny [.imm (.int .u8 (c.toNat:Int))] [] (Is (.imm (.int .i64 (kd c))) []):=Awq _
theorem Bv3(c:UInt8):c.toNat<256:=c.toNat_lt
theorem Aaj(c:UInt8):Call E0.P Xz [.imm (.int .u8 (c.toNat:Int))] [] (Is (.imm (.int .i64 (Df c))) []):=by
 have hc:=Bv3 c
 refine A6m _ _ (Let.intro (Dt (Oj _ _) (fun h=> ?_) fun h1=>Let.intro (Dt (Oj _ _) (fun h=> ?_) fun h2=>Let.intro (Dt (Oj _ _) (fun h=> ?_) fun h3=> ?_))))
 ·rw [wrap_u8 _ (by omega) (by omega),Bc _ (by omega) (by omega)]
  unfold Df;rw [if_pos (by omega)];exact⟨rfl,rfl⟩
 ·rw [wrap_u8 _ (by omega) (by omega),Bc ((c.toNat:Int) - 65) (by omega) (by omega),Bc _ (by omega) (by omega)]
  unfold Df;rw [if_neg (by omega),if_pos (by omega),show(c.toNat:Int) - 65+10=(c.toNat:Int) - 55 by omega];exact⟨rfl,rfl⟩
 ·rw [wrap_u8 _ (by omega) (by omega),Bc ((c.toNat:Int) - 97) (by omega) (by omega),Bc _ (by omega) (by omega)]
  unfold Df;rw [if_neg (by omega),if_neg (by omega),if_pos (by omega),show(c.toNat:Int) - 97+10=(c.toNat:Int) - 87 by omega];exact⟨rfl,rfl⟩
 ·unfold Df;rw [if_neg (by omega),if_neg (by omega),if_neg (by omega)];exact⟨rfl,rfl⟩
theorem Bce(s:List UInt8)(a:Nat):Call E0.P Xb [.imm (.str s), .imm (.int .i64 (a:Int))] [] (Is (.imm (.bool (decide (a<s.length)))) []):=by
 refine Azk _ _ _ (Let.intro ⟨?_,rfl⟩)
 by_cases h:a<s.length
 ·rw [show(bif decide ((0:Int)≤(a:Int))then decide ((a:Int)<(s.length:Int))else false)=true from (Oj _ _).2 ⟨by omega,by omega⟩,decide_eq_true h]
 ·rw [show(bif decide ((0:Int)≤(a:Int))then decide ((a:Int)<(s.length:Int))else false)=false from Bool.eq_false_iff.2 fun h'=>h (by have:=((Oj _ _).1 h').2;omega),decide_eq_false h]
theorem Bt3(s:List UInt8)(a:Nat)(h:a<s.length):U6 (s.drop a)=if s[a].toNat=10 then 1 else if s[a].toNat=13 then(if h:a+1<s.length then(if s[a+1].toNat=10 then 2 else 1)else 1)else 0:=by
 rw [J2 s a h,Afk]
 split
 ·rfl
 ·split
  ·by_cases h2:a+1<s.length
   ·rw [J2 s (a+1) h2,dif_pos h2]
   ·rw [List.drop_eq_nil_of_le (by omega),dif_neg h2]
  ·rfl
theorem Aml(s:List UInt8)(hs:s.length≤1000000000)(a:Nat):Call E0.P Qp [.imm (.str s), .imm (.int .i64 (a:Int))] [] (Is (.imm (.int .i64 (U6 (s.drop a):Nat))) []):=by
 refine A35 _ _ _ (Call.use (Bce s a) ⟨⟨rfl,rfl⟩,Xr (p:=a<s.length) (by rw [I7,Ca]) (fun h=> ?_) fun h=> ?_⟩)
 ·rw [List.drop_eq_nil_of_le (by omega)];exact⟨rfl,rfl⟩
 rw [Lm s a h,Bt3 s a h]
 refine⟨⟨by omega,by omega⟩,Ce (fun e=> ?_) fun e=>⟨⟨by omega,by omega⟩,Xr Ca (fun e2=> ?_) fun e2=>⟨fun h'=> ?_,Let.intro (Dt (Oj _ _) (fun h'=> ?_) fun h'=> ?_)⟩⟩⟩
 ·rw [if_pos (by omega)];exact⟨rfl,rfl⟩
 ·rw [if_neg (by omega),if_neg (by omega)];exact⟨rfl,rfl⟩
 ·have:=of_decide_eq_true h'
  rw [Jk a (by omega)]at this ⊢
  omega
 ·rw [Jk a (by omega)]at h'
  have h2:a+1<s.length:=by have:=h'.1;omega
  rw [Lm s (a+1) h2]at h'
  rw [if_neg (by omega),if_pos (by omega),dif_pos h2,if_pos (by omega)];exact⟨rfl,rfl⟩
 ·rw [Jk a (by omega)]at h'
  rw [if_neg (by omega),if_pos (by omega)]
  by_cases h2:a+1<s.length
  ·rw [Lm s (a+1) h2]at h'
   rw [dif_pos h2,if_neg (fun e3=>h' ⟨by omega,by omega⟩)];exact⟨rfl,rfl⟩
  ·rw [dif_neg h2];exact⟨rfl,rfl⟩
theorem Blq(k:Int):(0:Int)≤0∧(0:Int)<(([[IV.int .i64 k]]:List (List IV)).length:Int):=⟨by decide,by simp⟩
theorem Bou(k:Int):¬IntKind.i64.wrap (0+1)<(([[IV.int .i64 k]]:List (List IV)).length:Int):=by
 rw [Bc _ (by omega) (by omega)];simp
theorem Bl5(k:Int)(s:List UInt8)(a:Nat)(h:a<s.length):Cz k (s.drop a)=if kd s[a]=k then Cz k (s.drop (a+1))+1 else 0:=by
 rw [J2 s a h,Cz]
theorem Bfe(k:Int)(s:List UInt8)(a:Nat)(h:¬a<s.length):Cz k (s.drop a)=0:=by
 rw [List.drop_eq_nil_of_le (by omega)];rfl
theorem Ak4(k:Int):∀l:List UInt8,Cz k l≤l.length
 | []=>Nat.le_refl _
 |c::r=>by
  rw [Cz]
  split
  ·have:=Ak4 k r;simp;omega
  ·omega
theorem Bb3(k:Int)(s:List UInt8)(hs:s.length≤1000000000)(a:Nat)(ha:a≤s.length)(Q:AV→Heap→Prop)(hq:Q (.imm (.int .i64 (Cz k (s.drop a):Nat))) []):∀(m i:Nat),m+(a+i)=s.length→Cz k (s.drop a)=i+Cz k (s.drop (a+i))→
 Yu s a [[.int .i64 k]] i (Ae9 Q):=by
 intro m
 induction m with
 |zero=>
  intro i hi he
  refine Ajm _ _ _ _ _ ?_
  rw [wrS s.length a (by omega) (by omega)]
  refine Ce (fun h=>by omega) fun _=>Ajj _ _ (Ag2 _ _ (Aji _ _ ?_))
  rw [Bfe k s (a+i) (by omega)]at he
  rw [he]at hq;exact hq
 |succ m ih=>
  intro i hi he
  have hlt:a+i<s.length:=by omega
  refine Ajm _ _ _ _ _ ?_
  rw [wrS s.length a (by omega) (by omega)]
  refine Ce (fun h=> ?_) fun h=>by omega
  refine Ahd _ _ _ _ _ _ _ _ (Ce (fun _=>⟨⟨Blq k,rfl⟩, ?_⟩) fun h=>absurd (Blq k).2 h)
  rw [wrA a i (by omega)]
  refine⟨⟨by omega,by omega⟩, ?_⟩
  rw [Lm s (a+i) hlt]
  refine Call.use (Bmz _) ⟨⟨rfl,rfl⟩, ?_⟩
  rw [Fy,show gI ([[IV.int .i64 k]].getD (Int.toNat 0) []) 0=k from rfl]
  rw [Bl5 k s (a+i) hlt]at he
  refine Ce (fun e=> ?_) fun e=> ?_
  ·refine Azs _ _ _ _ _ (Avc _ _ _ _ _ (Azq _ _ _ _ _ ?_))
   rw [Jk i (by omega)]
   rw [if_pos e]at he
   exact ih (i+1) (by omega) (by rw [show a+(i+1)=a+i+1 by omega];omega)
  ·refine Ahd _ _ _ _ _ _ _ _ (Ce (fun h=>absurd h (Bou k)) fun _=> ?_)
   refine Azt _ _ (Avb _ _ (Azr _ _ (Ajj _ _ (Ag2 _ _ (Aji _ _ ?_)))))
   rw [if_neg e]at he
   rw [he]at hq;exact hq
theorem Adt(k:Int)(s:List UInt8)(hs:s.length≤1000000000)(a:Nat)(ha:a≤s.length):Call E0.P Vy [.imm (.str s), .imm (.int .i64 (a:Int)), .imm (.sl .any 1 [[.int .i64 k]])] [] (Is (.imm (.int .i64 (Cz k (s.drop a):Nat))) []):=by
 refine A37 _ _ _ _ (Call.use (Bce s a) ⟨⟨rfl,rfl⟩,Xr (p:=a<s.length) (by rw [I7,Ca]) (fun h=> ?_) fun h=> ?_⟩)
 ·rw [Bfe k s a h];exact⟨rfl,rfl⟩
 ·exact Bb3 k s hs a ha _ ⟨rfl,rfl⟩ (s.length - a) 0 (by omega) (by simp)
end Go.Proofs.Sim.Se
set_option maxRecDepth 100000
namespace Go.Proofs.Sim.Se
open Go Go.Proofs Go.Proofs.Sim Go.Proofs.Sim.Va Go.RowKit Go.Proofs.Sim.Pa
def Aa8:List UInt8→Nat
 | []=>0
 |c::r=>if c.toNat=10∨c.toNat=13 then 0 else Aa8 r+1
theorem kd0 {c:UInt8} (h:kd c=0):c.toNat=0∨c.toNat=9∨c.toNat=10∨c.toNat=12∨c.toNat=13∨c.toNat=32:=by
 unfold kd Sa at h
 by_cases h1:(c.toNat:Int)=0∨(c.toNat:Int)=9∨(c.toNat:Int)=10∨(c.toNat:Int)=12∨(c.toNat:Int)=13∨(c.toNat:Int)=32
 ·omega
 ·rw [if_neg h1]at h
  split at h<;>omega
theorem Bwp {c:UInt8} (h:kd c≠0):c.toNat≠10∧c.toNat≠13:=by
 refine⟨fun e=>h ?_,fun e=>h ?_⟩<;>unfold kd Sa<;>rw [if_pos (by omega)]
theorem Axn:∀l:List UInt8,Gr false l=Cz 0 l+Gr false (l.drop (Cz 0 l))
 | []=>rfl
 |c::r=>by
  rw [Cz]
  by_cases h:kd c=0
  ·rw [if_pos h,Gr,List.drop_succ_cons]
   have hn:Oq false c=false:=by
    have:=kd0 h
    unfold Oq;split
    ·rfl
    ·rw [if_neg (by omega)]
   rw [hn,if_neg (fun h'=>h'.2 h),Axn r];omega
  ·rw [if_neg h];simp
theorem A96:∀l:List UInt8,Gr true l=Aa8 l+Gr false (l.drop (Aa8 l))
 | []=>rfl
 |c::r=>by
  rw [Aa8]
  by_cases h:c.toNat=10∨c.toNat=13
  ·rw [if_pos h]
   have e:∀b,Oq b c=false:=fun b=>by unfold Oq;rw [if_pos h]
   simp only [Gr,e,List.drop_zero,Nat.zero_add]
  ·rw [if_neg h,Gr,List.drop_succ_cons]
   have e:Oq true c=true:=by
    unfold Oq;rw [if_neg h];split<;>rfl
   rw [e,if_neg (fun h'=>by cases h'.1),A96 r];omega
theorem Bsc {c:UInt8} (h:c.toNat=37)(r:List UInt8):Gr false (c::r)=Gr true (c::r):=by
 have e:∀b,Oq b c=true:=fun b=>by unfold Oq;rw [if_neg (by omega),if_pos h]
 simp only [Gr,e]
theorem Bl2 {c:UInt8} (h:kd c≠0)(h2:c.toNat≠37)(r:List UInt8):Gr false (c::r)=0:=by
 have e:Oq false c=false:=by
  unfold Oq
  rw [if_neg (by have:=Bwp h;omega),if_neg h2]
 rw [Gr,e,if_pos ⟨rfl,h⟩]
theorem A98(k:Int):∀(l:List UInt8) (c:UInt8) (r:List UInt8),l.drop (Cz k l)=c::r→kd c≠k
 | [],c,r,h=>by simp [Cz]at h
 |x::l,c,r,h=>by
  rw [Cz]at h
  by_cases hx:kd x=k
  ·rw [if_pos hx,List.drop_succ_cons]at h
   exact A98 k l c r h
  ·rw [if_neg hx,List.drop_zero]at h
   injection h with h1 h2
   subst h1;exact hx
theorem A8a:∀l:List UInt8,Aa8 l≤l.length
 | []=>Nat.le_refl _
 |c::r=>by
  rw [Aa8]
  split
  ·omega
  ·have:=A8a r;simp;omega
theorem Bg9:∀(b:Bool) (l:List UInt8),Gr b l≤l.length
 |_,[]=>Nat.le_refl _
 |b,c::r=>by
  rw [Gr]
  split
  ·omega
  ·have:=Bg9 (Oq b c) r;simp;omega
theorem Bwo(c:UInt8)(r:List UInt8):U6 (c::r)=0↔¬(c.toNat=10∨c.toNat=13):=by
 rw [Afk]
 by_cases h1:c.toNat=10
 ·rw [if_pos h1];simp [h1]
 ·rw [if_neg h1]
  by_cases h2:c.toNat=13
  ·rw [if_pos h2]
   rcases r with _ |⟨d,r⟩
   ·simp [h2]
   ·simp only [h2];split<;>simp
  ·rw [if_neg h2];simp [h1,h2]
theorem Bgk(s:List UInt8)(hs:s.length≤1000000000)(K:Ex→St→Prop)(e:Nat)(hk:K (.exit 0) ⟨[(0, .imm (.str s)),(1, .imm (.int .i64 (e:Int)))],[]⟩):∀(m q:Nat),m+q=s.length→e=q+Aa8 (s.drop q)→S9 s q K:=by
 intro m
 induction m with
 |zero=>
  intro q hq he
  rw [List.drop_eq_nil_of_le (by omega)]at he
  have:e=q:=he
  subst this
  refine Ajv _ _ _ (brE Ca (fun h=>by omega) fun _=>⟨rfl,Let.intro (brF hk)⟩)
 |succ m ih=>
  intro q hq he
  have hlt:q<s.length:=by omega
  refine Ajv _ _ _ (brE Ca (fun _=>Call.use (Aml s hs q) ⟨⟨rfl,rfl⟩,Let.intro ?_⟩) fun h=>by omega)
  rw [Fy]
  rw [J2 s q hlt,Aa8]at he
  refine Dt (p:=¬(s[q].toNat=10∨s[q].toNat=13)) (by rw [Ca, ←Bwo s[q] (s.drop (q+1)), ←J2 s q hlt];omega) (fun h=> ?_) fun h=> ?_
  ·refine Azc _ _ _ (Azz _ _ _ ?_)
   rw [Jk q (by omega)]
   rw [if_neg h]at he
   exact ih (q+1) (by omega) (by omega)
  ·rw [if_pos (Classical.not_not.1 h)]at he
   have:e=q:=he
   subst this;exact hk
theorem Bi2(s:List UInt8)(q:Nat):(decide ((q:Int)<(s.length:Int))=true→(0:Int)≤(q:Int)∧(q:Int)<(s.length:Int)):=fun h=>⟨by omega,of_decide_eq_true h⟩
theorem Bes(s:List UInt8)(q:Nat):((bif decide ((q:Int)<(s.length:Int))then decide (((s.getD (Int.toNat (q:Int)) 0).toNat:Int)=37)else false)=true)↔∃h:q<s.length,s[q].toNat=37:=by
 rw [Oj]
 constructor
 ·rintro⟨h1,h2⟩
  have h:q<s.length:=by omega
  rw [Lm s q h]at h2
  exact⟨h,by omega⟩
 ·rintro⟨h,h2⟩
  rw [Lm s q h]
  exact⟨by omega,by omega⟩
theorem A3h(s:List UInt8)(p:Nat)(h:¬ ∃h:p+Cz 0 (s.drop p)<s.length,s[p+Cz 0 (s.drop p)].toNat=37):p+Gr false (s.drop p)=p+Cz 0 (s.drop p):=by
 rw [Axn,List.drop_drop]
 by_cases hq:p+Cz 0 (s.drop p)<s.length
 ·have hst:=A98 0 (s.drop p) s[p+Cz 0 (s.drop p)] (s.drop (p+Cz 0 (s.drop p)+1)) (by rw [List.drop_drop,J2 s _ hq])
  rw [J2 s _ hq,Bl2 hst (fun e=>h ⟨hq,e⟩)];omega
 ·have e:s.drop (p+Cz 0 (s.drop p))=[]:=List.drop_eq_nil_of_le (by omega)
  rw [e];rfl
theorem Bg8(s:List UInt8)(p:Nat)(h:p+Cz 0 (s.drop p)<s.length)(h2:s[p+Cz 0 (s.drop p)].toNat=37):
 p+Gr false (s.drop p)=(p+Cz 0 (s.drop p)+Aa8 (s.drop (p+Cz 0 (s.drop p))))+Gr false (s.drop (p+Cz 0 (s.drop p)+Aa8 (s.drop (p+Cz 0 (s.drop p))))):=by
 have e1:=Axn (s.drop p)
 rw [List.drop_drop]at e1
 have e2:=A96 (s.drop (p+Cz 0 (s.drop p)))
 rw [List.drop_drop]at e2
 have e3:Gr false (s.drop (p+Cz 0 (s.drop p)))=Gr true (s.drop (p+Cz 0 (s.drop p))):=by
  rw [J2 s _ h];exact Bsc h2 _
 omega
theorem Boh(s:List UInt8)(q:Nat)(h:q<s.length)(h2:s[q].toNat=37):0<Aa8 (s.drop q):=by
 rw [J2 s q h,Aa8,if_neg (by omega)];omega
theorem Bm6(s:List UInt8)(hs:s.length≤1000000000)(Q:AV→Heap→Prop)(e:Nat)(hk:Q (.imm (.int .i64 (e:Int))) []):∀(m p:Nat),s.length - p≤m→p≤s.length→e=p+Gr false (s.drop p)→Y5 s p (O1 Q):=by
 intro m
 induction m with
 |zero=>
  intro p hm hp he
  have hW:=Ak4 0 (s.drop p)
  rw [List.length_drop]at hW
  refine Ajx _ _ _ (Call.use (Adt 0 s hs p hp) ⟨⟨rfl,rfl⟩, ?_⟩)
  rw [Fy,wrA p _ (by omega)]
  refine⟨Bi2 _ _,Let.intro (Dt (Bes _ _) (fun⟨h,_⟩=>by omega) fun h=> ?_)⟩
  rw [A3h s p h]at he
  subst he
  exact Xh _ _ (Ajl _ _ (Ajk _ _ hk))
 |succ m ih=>
  intro p hm hp he
  have hW:=Ak4 0 (s.drop p)
  rw [List.length_drop]at hW
  refine Ajx _ _ _ (Call.use (Adt 0 s hs p hp) ⟨⟨rfl,rfl⟩, ?_⟩)
  rw [Fy,wrA p _ (by omega)]
  refine⟨Bi2 _ _,Let.intro (Dt (Bes _ _) (fun⟨h,h2⟩=> ?_) fun h=> ?_)⟩
  ·have hl:=A8a (s.drop (p+Cz 0 (s.drop p)))
   rw [List.length_drop]at hl
   have hpos:=Boh s _ h h2
   refine Bgk s hs _ _ (Az1 _ _ _ (Ag3 _ _ _ (Az0 _ _ _ ?_))) _ _ (Nat.sub_add_cancel (Nat.le_of_lt h)) rfl
   exact ih _ (by omega) (by omega) (he.trans (Bg8 s p h h2))
  ·rw [A3h s p h]at he
   subst he
   exact Xh _ _ (Ajl _ _ (Ajk _ _ hk))
theorem Ari(s:List UInt8)(a:Int):Pw s a≤s.length:=by unfold Pw;split<;>(try split)<;>omega
theorem Buu(s:List UInt8)(a:Int):(if(if(s.length:Int)<a then(s.length:Int)else a)>0 then(if(s.length:Int)<a then(s.length:Int)else a)else 0)=((Pw s a:Nat):Int):=by
 unfold Pw
 by_cases h1:(s.length:Int)<a
 ·rw [if_pos h1,if_pos h1]
  by_cases h2:a<0
  ·omega
  ·rw [if_neg h2];split<;>omega
 ·rw [if_neg h1]
  by_cases h2:a<0
  ·rw [if_pos h2,if_neg (by omega)];rfl
  ·rw [if_neg h2,if_neg h1];split<;>omega
theorem Bcd(s:List UInt8)(hs:s.length≤1000000000)(a:Int):Call E0.P Aix [.imm (.str s), .imm (.int .i64 a)] [] (Is (.imm (.int .i64 (Ei s a:Nat))) []):=by
 refine A4c _ _ _ ?_
 rw [Buu]
 have hp:=Ari s a
 unfold Ei
 generalize Pw s a=p at*
 have hW:=Ak4 0 (s.drop p)
 rw [List.length_drop]at hW
 refine Call.use (Adt 0 s hs p hp) ⟨⟨rfl,rfl⟩, ?_⟩
 rw [Fy,wrA p _ (by omega)]
 refine⟨Bi2 _ _,Let.intro (Dt (Bes _ _) (fun⟨h,h2⟩=> ?_) fun h=> ?_)⟩
 ·have hl:=A8a (s.drop (p+Cz 0 (s.drop p)))
  rw [List.length_drop]at hl
  refine Bgk s hs _ _ (Azy _ _ _ (Ag3 _ _ _ (Azx _ _ _ ?_))) _ _ (Nat.sub_add_cancel (Nat.le_of_lt h)) rfl
  exact Bm6 s hs _ _ ⟨rfl,rfl⟩ _ _ (Nat.le_refl _) (by omega) (Bg8 s p h h2)
 ·rw [A3h s p h]
  exact Xh _ _ (Azw _ _ ⟨rfl,rfl⟩)
theorem Be9(s:List UInt8)(a:Int):Ei s a≤s.length:=by
 unfold Ei
 have h1:=Ari s a
 have h2:=Bg9 false (s.drop (Pw s a))
 rw [List.length_drop]at h2
 omega
end Go.Proofs.Sim.Se
set_option maxRecDepth 100000
namespace Go.Proofs.Sim.Se
open Go Go.Proofs Go.Proofs.Sim Go.Proofs.Sim.Va Go.RowKit Go.Proofs.Sim.Pa
abbrev Xe(s:List UInt8)(a:Int)(rows:LL):Heap:=[(Nm.arg 0, .blk Ad [.imm (.str s), .imm (.int .i64 a), .own (Nm.arg 1)]),(Nm.arg 1, .arr (Am+2) true 1 rows)]
abbrev Bfh(k n:Int)(t:List UInt8)(x y e:Int):AV:= .tup [.imm (.agg [.int .i64 k, .int .i64 n, .str t, .int .i64 x, .int .i64 y]), .imm (.int .i64 e)]
abbrev okA(c:Int)(b:Bool):AV:= .tup [.imm (.int .u8 c), .imm (.bool b)]
def ScQ(s:List UInt8)(k:Int)(x:Part):AV→Heap→Prop:=fun r h=>∃(a:Nat) (l:List UInt8),h=Xe s a (Be l)∧r=Bfh (if x.2.2=0 then k else 0) 0 x.1 0 0 x.2.2∧(x.2.2=0→a=x.2.1)∧(x.2.2≠0→x.1=[])
theorem Agd {s:List UInt8} {k e:Int} {a:Nat} {l:List UInt8} (he:e≠0):ScQ s k ([],0,e) (Bfh 0 0 [] 0 0 e) (Xe s a (Be l)):=⟨a,l,rfl,by rw [if_neg he],fun h=>absurd h he,fun _=>rfl⟩
theorem Be8 {s:List UInt8} {k:Int} {a:Nat} {l t:List UInt8} :ScQ s k (t,a,0) (Bfh k 0 t 0 0 0) (Xe s a (Be l)):=⟨a,l,rfl,by rw [if_pos rfl],fun _=>rfl,fun h=>absurd rfl h⟩
theorem wr2(i:Nat)(h:i≤1000000000000):IntKind.i64.wrap ((i:Int)+2)=((i+2:Nat):Int):=by rw [Bc _ (by omega) (by omega)];simp
theorem Bwe(i:Nat)(h:i≤1000000000000):IntKind.i64.wrap (i:Int)=(i:Int):=Bc _ (by omega) (by omega)
theorem Aw7(c:UInt8): -1≤Df c∧Df c≤15:=by
 unfold Df;split
 ·omega
 ·split
  ·omega
  ·split<;>omega
theorem Brr:∀h l:Fin 16,IntKind.u8.wrap (IntKind.i64.wrap (↑(BitVec.ofInt 64 (IntKind.i64.wrap (((h:Nat):Int)*(2:Int) ^ (4:Nat))) ||| BitVec.ofInt 64 ((l:Nat):Int)).toNat:Int))=(((UInt8.ofNat (16*(h:Nat)+(l:Nat))).toNat:Nat):Int):=by decide+kernel
theorem nib(x y:Int)(hx:0≤x)(hx2:x≤15)(hy:0≤y)(hy2:y≤15):IntKind.u8.wrap (IntKind.i64.wrap (↑(BitVec.ofInt 64 (IntKind.i64.wrap (x*(2:Int) ^ (4:Nat))) ||| BitVec.ofInt 64 y).toNat:Int))=(((byB (16*x+y)).toNat:Nat):Int):=by
 have h:=Brr ⟨x.toNat,by omega⟩ ⟨y.toNat,by omega⟩
 simp only [Int.toNat_of_nonneg hx,Int.toNat_of_nonneg hy]at h
 rw [h]
 unfold byB
 rw [show(16*x+y).toNat=16*x.toNat+y.toNat by omega]
section
variable (s:List UInt8) (hs:s.length≤1000000000)
include hs
theorem A42(a:Nat)(ha:a≤s.length)(h:s.length<a+2)(rows:LL):Call E0.P Il [.ptr (.arg 0) 0] (Xe s a rows) (Is (okA 0 false) (Xe s a rows)):=by
 refine Nr _ _ _ _ ?_
 rw [wrS s.length a ha (by omega)]
 exact Ce (fun _=>⟨rfl,rfl⟩) fun h=>by omega
theorem Bav(a:Nat)(h:a+1<s.length)(hb:Df s[a]<0∨Df s[a+1]<0∨Df s[a]+Df s[a+1]=0)(rows:LL):Call E0.P Il [.ptr (.arg 0) 0] (Xe s a rows) (Is (okA 0 false) (Xe s (a+2:Nat) rows)):=by
 have b1:=Aw7 s[a]
 have b2:=Aw7 s[a+1]
 refine Nr _ _ _ _ ?_
 rw [wrS s.length a (by omega) (by omega),Jk a (by omega),wr2 a (by omega)]
 refine Ce (fun _=>by omega) fun _=>⟨⟨by omega,by omega⟩,⟨⟨by omega,by omega⟩, ?_⟩⟩
 rw [Lm s a (by omega),Lm s (a+1) h]
 refine Call.use (Aaj _) ⟨⟨rfl,rfl⟩,Call.use (Aaj _) ⟨⟨rfl,rfl⟩,Let.intro (Let.intro ?_)⟩⟩
 rw [Fy,Fy,Bc (Df s[a]+Df s[a+1]) (by omega) (by omega)]
 refine Dt (p:=Df s[a]<0∨Df s[a+1]<0∨Df s[a]+Df s[a+1]=0) (by rw [Aja,Bov];omega) (fun _=>⟨rfl,rfl⟩) fun h'=>absurd hb h'
theorem Bb9(a:Nat)(h:a+1<s.length)(hb:¬(Df s[a]<0∨Df s[a+1]<0∨Df s[a]+Df s[a+1]=0))(rows:LL):Call E0.P Il [.ptr (.arg 0) 0] (Xe s a rows) (Is (okA (byB (16*Df s[a]+Df s[a+1])).toNat true) (Xe s (a+2:Nat) rows)):=by
 have b1:=Aw7 s[a]
 have b2:=Aw7 s[a+1]
 refine Nr _ _ _ _ ?_
 rw [wrS s.length a (by omega) (by omega),Jk a (by omega),wr2 a (by omega)]
 refine Ce (fun _=>by omega) fun _=>⟨⟨by omega,by omega⟩,⟨⟨by omega,by omega⟩, ?_⟩⟩
 rw [Lm s a (by omega),Lm s (a+1) h]
 refine Call.use (Aaj _) ⟨⟨rfl,rfl⟩,Call.use (Aaj _) ⟨⟨rfl,rfl⟩,Let.intro (Let.intro ?_)⟩⟩
 rw [Fy,Fy,Bc (Df s[a]+Df s[a+1]) (by omega) (by omega)]
 refine Dt (p:=Df s[a]<0∨Df s[a+1]<0∨Df s[a]+Df s[a+1]=0) (by rw [Aja,Bov];omega) (fun h'=>absurd h' hb) fun _=>⟨by decide, ?_⟩
 rw [nib _ _ (by omega) (by omega) (by omega) (by omega)]
 exact⟨rfl,rfl⟩
def Bs8(s:List UInt8)(K:KK)(a:Nat)(out:List UInt8):Prop:=
 (∀h:a<s.length,F3 (s[a].toNat:Int) true s a 0 0 [] 0 0 (Be out) K)∧(¬a<s.length→F3 0 false s a 0 0 [] 0 0 (Be out) K)
omit hs in
theorem Bs7(K:KK)(a:Nat)(out:List UInt8)(h:Bs8 s K a out):Qh s a 0 0 [] 0 0 (Be out) (Ml (Hl K)):=by
 refine Ahz _ _ _ _ _ _ _ _ _ (Ce (fun h'=> ?_) fun h'=>⟨⟨by omega,by omega⟩, ?_⟩)
 ·apply Wu
  apply Wt
  exact h.2 (by omega)
 ·have hlt:a<s.length:=by omega
  rw [Lm s a hlt]
  apply Wu
  apply Wt
  exact h.1 hlt
theorem Bsy(at_:Int)(out0:LL)(Q:QQ)(X:Part)(hQ:∀r h,ScQ s 2 X r h→Q r h):∀(m a:Nat) (out:List UInt8),s.length≤a+m→out.length≤127→nameL (s.drop a) out a=X→Bs8 s (D7 s at_ out0 Q) a out:=by
 have fin:∀(a:Nat) (out:List UInt8),X=(out,a,0)→D7 s at_ out0 Q (.exit 0) ⟨[(0, .ptr (Nm.arg 0) 0),(2, .ptr (Nm.loc 2) 0)],[(Nm.arg 0, .blk Ad [.imm (.str s), .imm (.int .i64 a), .own (Nm.arg 1)]),(Nm.loc 2, .blk Aw [.imm (.int .i64 0), .imm (.int .i64 0), .imm (.str []), .imm (.int .i64 0), .imm (.int .i64 0)]),(Nm.arg 1, .arr (Am+2) true 1 (Be out))]⟩:=by
  intro a out hX
  apply Aj6
  refine Ah0 _ _ _ _ _ _ _ _ _ ⟨Afi _, ?_⟩
  apply Aj5
  rw [Atr]
  exact hQ _ _ (hX ▸ Be8)
 have off:∀(a:Nat) (out:List UInt8),¬a<s.length→nameL (s.drop a) out a=X→F3 0 false s a 0 0 [] 0 0 (Be out) (D7 s at_ out0 Q):=by
  intro a out h hX
  rw [List.drop_eq_nil_of_le (by omega)]at hX
  refine Wy _ _ _ _ _ _ _ _ _ _ _ (brE (p:=False) (by simp) (fun h=>h.elim) fun _=>⟨rfl,Let.intro (brF (fin a out hX.symm))⟩)
 intro m
 induction m with
 |zero=>intro a out hm ho hX;exact⟨fun h=>by omega,fun h=>off a out h hX⟩
 |succ m ih=>
  intro a out hm ho hX
  refine⟨fun h=> ?_,fun h=>off a out h hX⟩
  refine Wy _ _ _ _ _ _ _ _ _ _ _ (brE (p:=True) (by simp) (fun _=>Call.use (Bmz _) ⟨⟨rfl,rfl⟩,Let.intro ?_⟩) fun h=>absurd trivial h)
  rw [Fy]
  rw [J2 s a h]at hX
  refine Ce (fun hk=> ?_) fun hk=> ?_
  ·have bad:∀(e:Int) (b:Nat) (o:List UInt8),e≠0→X=([],0,e)→D7 s at_ out0 Q .ret ⟨[(2, .ptr (Nm.loc 2) 0),(3, .imm (.int .i64 e))],[(Nm.loc 2, .blk Aw [.imm (.int .i64 0), .imm (.int .i64 0), .imm (.str []), .imm (.int .i64 0), .imm (.int .i64 0)]),(Nm.arg 0, .blk Ad [.imm (.str s), .imm (.int .i64 b), .own (Nm.arg 1)]),(Nm.arg 1, .arr (Am+2) true 1 (Be o))]⟩:=by
    intro e b o he hx
    apply Aj7
    exact hQ _ _ (hx ▸ Agd he)
   have push:∀(c:UInt8) (b:Nat),a<b→(X=if 127≤out.length then([],0,8)else nameL (s.drop b) (out++[c]) b)→Ls (c.toNat:Int) s b 0 0 [] 0 0 (Be out) (Jg (Hl (D7 s at_ out0 Q))):=by
    intro c b hb hx
    refine Ahy _ _ _ _ _ _ _ _ _ _ ⟨⟨by rw [Xa];omega,by rw [Xa];omega⟩, ?_⟩
    rw [X9,Xa,List.length_append]
    refine Ce (fun h'=> ?_) fun h'=> ?_
    ·rw [if_pos (by simp at h';omega)]at hx
     apply Aj8
     apply Og
     exact bad 8 b _ (by decide) hx
    ·rw [if_neg (by simp at h';omega)]at hx
     apply Aj9
     exact Bs7 s _ b _ (ih b (out++[c]) (by omega) (by simp at h' ⊢; omega) hx.symm)
   refine Aj2 _ _ _ _ _ _ _ _ _ _ (Ce (fun h35=> ?_) fun h35=> ?_)
   ·rw [Jk a (by omega)]
    rw [nameL.eq_def]at hX
    simp only at hX
    rw [if_pos hk,if_pos (by omega)]at hX
    by_cases h3:s.length<a+1+2
    ·refine Call.use (A42 s hs (a+1) (by omega) h3 _) ⟨⟨rfl,rfl⟩,A20 rfl ?_⟩
     apply Og
     refine bad 4 (a+1) out (by decide) ?_
     rw [←hX]
     by_cases h4:a+1<s.length
     ·rw [J2 s (a+1) h4,List.drop_eq_nil_of_le (by omega)]
     ·rw [List.drop_eq_nil_of_le (by omega)]
    ·have h4:a+1<s.length:=by omega
     have h5:a+1+1<s.length:=by omega
     rw [J2 s (a+1) h4,J2 s (a+1+1) h5]at hX
     simp only at hX
     by_cases hb:Df s[a+1]<0∨Df s[a+1+1]<0∨Df s[a+1]+Df s[a+1+1]=0
     ·refine Call.use (Bav s hs (a+1) h5 hb _) ⟨⟨rfl,rfl⟩,A20 rfl ?_⟩
      apply Og
      rw [if_pos hb]at hX
      exact bad 4 (a+1+2) out (by decide) hX.symm
     ·refine Call.use (Bb9 s hs (a+1) h5 hb _) ⟨⟨rfl,rfl⟩,A21 rfl ?_⟩
      rw [if_neg hb]at hX
      exact push (byB (16*Df s[a+1]+Df s[a+1+1])) (a+1+2) (by omega) hX.symm
   ·rw [Jk a (by omega)]
    rw [nameL.eq_def]at hX
    simp only at hX
    rw [if_pos hk,if_neg (by omega)]at hX
    exact push s[a] (a+1) (by omega) hX.symm
  ·rw [nameL.eq_def]at hX
   simp only at hX
   rw [if_neg hk]at hX
   exact fin a out hX.symm
theorem Btj(a:Nat)(ha:a<s.length):Call E0.P Tj [.ptr (.arg 0) 0] (Xe s a []) (ScQ s 2 (nameL (s.drop (a+1)) [] (a+1))):=by
 have h:=Bsy s hs a [] (ScQ s 2 (nameL (s.drop (a+1)) [] (a+1))) _ (fun _ _ h=>h) s.length (a+1) [] (by omega) (by simp) rfl
 refine Anf _ _ _ _ ?_
 rw [Jk a (by omega)]
 refine Ce (fun h'=>h.2 (by omega)) fun h'=>⟨⟨by omega,by omega⟩, ?_⟩
 rw [Lm s (a+1) (by omega)]
 exact h.1 (by omega)
end
end Go.Proofs.Sim.Se

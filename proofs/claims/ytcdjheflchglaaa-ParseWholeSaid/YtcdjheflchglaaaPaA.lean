import Derived.Test.YtcdjheflchglaaaDtA
import Derived.Test.YtcdjheflchglaaaPaL
set_option maxRecDepth 100000
namespace Go.Proofs.Sim.Se
open Go Go.Proofs Go.Proofs.Sim Go.Proofs.Sim.Va Go.RowKit Go.Proofs.Sim.Pa
theorem Bz {p:Prop} {i:Decidable p} {A B:Prop} (h1:p→A)(h2:¬p→B):Br (@decide p i) A B:=⟨fun h=>h1 (of_decide_eq_true h),fun h=>h2 (of_decide_eq_false h)⟩
theorem Dj {b:Bool} {p:Prop} {A B:Prop} (hb:b=true↔p)(h1:p→A)(h2:¬p→B):Br b A B:=⟨fun h=>h1 (hb.1 h),fun h=>h2 fun hp=>by rw [hb.2 hp]at h;cases h⟩
theorem Ot {b:Bool} {p:Prop} {A B:Prop} (hb:b=true↔p)(h1:¬p→A)(h2:p→B):Br (!b) A B:=by
 cases b with
 |true=>exact⟨fun h=>absurd h (by decide),fun _=>h2 (hb.1 rfl)⟩
 |false=>exact⟨fun _=>h1 fun hp=>(by have:=hb.2 hp;cases this),fun h=>absurd h (by decide)⟩
theorem brE {b:Bool} {p:Prop} {A B:Prop} (hb:b=true↔p)(h1:p→A)(h2:¬p→B):Br (b == true) A B:=by cases b<;>exact Dj (by simpa using hb) h1 h2
theorem Ar1(b:Bool)(p:Prop) {i:Decidable p} :((bif b then true else @decide p i)=true)↔(b=true∨p):=by cases b<;>simp
theorem Ar7(p q:Prop) {i:Decidable p} {j:Decidable q} :((bif @decide p i then true else @decide q j)=true)↔(p∨q):=by by_cases p<;>by_cases q<;>simp_all
theorem Ph(p q:Prop) {i:Decidable p} {j:Decidable q} :((bif @decide p i then @decide q j else false)=true)↔(p∧q):=by by_cases p<;>by_cases q<;>simp_all
theorem Bg {p:Prop} {i:Decidable p} :(@decide p i=true)↔p:=decide_eq_true_iff
theorem Hg(s:List UInt8)(i:Nat)(h:i<s.length):s.getD (Int.toNat (i:Int)) 0=s[i]:=by simp [List.getD_eq_getElem?_getD,h]
theorem Hq(i:Nat)(h:i≤1000000000000):IntKind.i64.wrap ((i:Int)+1)=((i+1:Nat):Int):=by rw [Be _ (by omega) (by omega)];simp
theorem wrA(i j:Nat)(h:i+j≤1000000000000):IntKind.i64.wrap ((i:Int)+(j:Int))=((i+j:Nat):Int):=by rw [Be _ (by omega) (by omega)];simp
theorem wrS(i j:Nat)(h:j≤i)(h2:i≤1000000000000):IntKind.i64.wrap ((i:Int) - (j:Int))=((i - j:Nat):Int):=by rw [Be _ (by omega) (by omega)];omega
theorem Dt {α:Type} (l:List α)(i:Nat)(h:i<l.length):l.drop i=l[i]::l.drop (i+1):=List.drop_eq_getElem_cons h
theorem brT {A B:Prop} (h:A):Br true A B:=⟨fun _=>h,fun h=>absurd h (by decide)⟩
theorem brF {A B:Prop} (h:B):Br false A B:=⟨fun h=>absurd h (by decide),fun _=>h⟩
theorem Anl {b:Bool} {A B:Prop} (hb:b=false)(h:A):Br (!b) A B:=by subst hb;exact brT h
theorem Am8 {b:Bool} {A B:Prop} (hb:b=true)(h:B):Br (!b) A B:=by subst hb;exact brF h
theorem Amz(a:List UInt8)(c:UInt8):Bb a++[[IV.int .u8 (c.toNat:Int)]]=Bb (a++[c]):=by simp [Bb]
theorem bl1(a:List UInt8):(Bb a).length=a.length:=by simp [Bb]
theorem Aes(a:List UInt8):∀r∈Bb a,Ch [.int .u8] r=true:=by
 intro r hr
 simp only [Bb,List.mem_map]at hr
 obtain⟨b,_,rfl⟩:=hr
 rfl
theorem Ao0(a:List UInt8):List.map (fun r=>UInt8.ofNat (gI r 0).toNat) (Bb a)=a:=by
 induction a with
 |nil=>rfl
 |cons b a ih=>
  have e:UInt8.ofNat (gI [IV.int .u8 (b.toNat:Int)] 0).toNat=b:=by
   show UInt8.ofNat ((b.toNat:Int)).toNat=b
   simp
  have e2:Bb (b::a)=[.int .u8 (b.toNat:Int)]::Bb a:=rfl
  rw [e2,List.map_cons,e,ih]
end Go.Proofs.Sim.Se
set_option maxRecDepth 100000
namespace Go.Proofs.Sim.Se
open Go Go.Proofs Go.Proofs.Sim Go.Proofs.Sim.Va Go.RowKit Go.Proofs.Sim.Pa
theorem A54 {α:Type} {P:α→Prop} (l:List α)(i:Nat)(h:i<l.length)(ha:∀x∈l.take i,P x)(hx:P l[i]):∀x∈l.take (i+1),P x:=by
 intro x h'
 rw [List.take_add_one]at h'
 rcases List.mem_append.1 h' with h' |h'
 ·exact ha x h'
 ·simp [h]at h';rw [h'];exact hx
theorem A1l(a:Int):Call E0.P Nz [.imm (.int .u8 a)] [] (Is (.imm (.int .i64 (R6 a))) []):=by
 have key:∀(b:Bool) (Q:AV→Heap→Prop),Q (.imm (.int .i64 (if b=true then 0 else if a=40∨a=41∨a=60∨a=62∨a=91∨a=93∨a=123∨a=125∨a=47∨a=37 then 1 else 2))) []→Hd a b (Er Q):=by
  intro b Q hq
  have one:∀ {n:Int},a=n→b=false→(n=40∨n=41∨n=60∨n=62∨n=91∨n=93∨n=123∨n=125∨n=47∨n=37)→Br (decide (a=n)) (Er Q .ret ⟨[(2, .imm (.int .i64 1))],[]⟩) (Er Q .normal ⟨[],[]⟩):=by
   intro n e hb hn
   refine Bz (fun _=> ?_) fun h=>absurd e h
   subst e
   rw [hb,if_neg (by decide),if_pos hn]at hq
   exact Vl _ _ hq
  refine Apc _ _ _ ⟨fun h=> ?_,fun h=> ?_⟩
  ·rw [h,if_pos rfl]at hq;exact Vl _ _ hq
  refine Bz (fun e=>one e h (by omega)) fun n1=>Bz (fun e=>one e h (by omega)) fun n2=>Bz (fun e=>one e h (by omega)) fun n3=>Bz (fun e=>one e h (by omega)) fun n4=>Bz (fun e=>one e h (by omega)) fun n5=>
   Bz (fun e=>one e h (by omega)) fun n6=>Bz (fun e=>one e h (by omega)) fun n7=>Bz (fun e=>one e h (by omega)) fun n8=>Bz (fun e=>one e h (by omega)) fun n9=>Bz (fun e=> ?_) fun n10=> ?_
  ·rw [h,if_neg (by decide),if_pos (by omega)]at hq
   exact Vl _ _ hq
  ·rw [h,if_neg (by decide),if_neg (by omega)]at hq
   exact Apl _ (An4 _ (Apt _ _ hq))
 have fin:∀(p:Prop) [Decidable p],((a=0∨a=9∨a=10∨a=12∨a=13∨a=32)↔p)→Hd a (decide p) (Er (Is (.imm (.int .i64 (R6 a))) [])):=by
  intro p _ hp
  refine key _ _ ?_
  rw [R6]
  by_cases h:p
  ·rw [if_pos (hp.2 h),if_pos (decide_eq_true h)];exact⟨rfl,rfl⟩
  ·rw [if_neg (fun h'=>h (hp.1 h')),if_neg (show ¬decide p=true by rw [decide_eq_false h];decide)];exact⟨rfl,rfl⟩
 refine Auo _ _ (Bz (fun e=>fin _ (by omega)) fun n1=>Bz (fun e=>fin _ (by omega)) fun n2=>Bz (fun e=>fin _ (by omega)) fun n3=>Bz (fun e=>fin _ (by omega)) fun n4=>Bz (fun e=>fin _ (by omega)) fun n5=>fin _ (by omega))
theorem A82(s:List UInt8)(a:Int)(hs:s.length≤1000000000)(Q:AV→Heap→Prop)(hq:Q (.imm (.bool (decide (∃c∈s,(c.toNat:Int)=a)))) []):∀(m i:Nat),m+i=s.length→(∀c∈s.take i,(c.toNat:Int)≠a)→Aeo s a i (Aer Q):=by
 intro m
 induction m with
 |zero=>
  intro i hi ha
  refine Alt _ _ _ _ (Bz (fun h=>by omega) fun _=> ?_)
  rw [List.take_of_length_le (by omega)]at ha
  rw [decide_eq_false (fun⟨c,hc,e⟩=>ha c hc e)]at hq
  exact Aye _ (Ax4 _ (Ayf _ _ hq))
 |succ m ih=>
  intro i hi ha
  have hlt:i<s.length:=by omega
  refine Alt _ _ _ _ (Bz (fun _=>⟨⟨by omega,by omega⟩, ?_⟩) fun h=>by omega)
  rw [Hg s i hlt]
  refine Bz (fun e=> ?_) fun e=> ?_
  ·rw [decide_eq_true (⟨s[i],List.getElem_mem hlt,e⟩:∃c∈s,(c.toNat:Int)=a)]at hq
   exact Ayg _ _ hq
  ·rw [show IntKind.i64.wrap ((i:Int)+1)=((i+1:Nat):Int)by rw [Be _ (by omega) (by omega)];simp]
   exact ih (i+1) (by omega) (A54 (P:=fun c:UInt8=>(c.toNat:Int)≠a) _ _ hlt ha e)
theorem Arr(s:List UInt8)(a:Int)(hs:s.length≤1000000000):Call E0.P Abt [.imm (.str s), .imm (.int .u8 a)] [] (Is (.imm (.bool (decide (∃c∈s,(c.toNat:Int)=a)))) []):=
 A15 _ _ _ (A82 s a hs _ ⟨rfl,rfl⟩ s.length 0 rfl (by simp))
theorem A4d(a:Int):Call E0.P L6 [.imm (.int .u8 a)] [] (Is (.imm (.int .i64 (R6 a))) []):=by
 have fl:∀x y:Int,x=y↔y=x:=fun x y=>eq_comm
 refine Aya _ _ (Call.use (Arr _ a (by decide)) ⟨⟨rfl,rfl⟩,Dj (p:=a=0∨a=9∨a=10∨a=12∨a=13∨a=32) ?_ (fun h=> ?_) fun h=> ?_⟩)
 ·rw [U1,decide_eq_true_iff];simp [fl _ a]
 ·rw [R6,if_pos h];exact⟨rfl,rfl⟩
 ·refine Call.use (Arr _ a (by decide)) ⟨⟨rfl,rfl⟩,Dj (p:=a=40∨a=41∨a=60∨a=62∨a=91∨a=93∨a=123∨a=125∨a=47∨a=37) ?_ (fun h'=> ?_) fun h'=> ?_⟩
  ·rw [U1,decide_eq_true_iff];simp [fl _ a]
  ·rw [R6,if_neg h,if_pos h'];exact⟨rfl,rfl⟩
  ·rw [R6,if_neg h,if_neg h'];exact⟨rfl,rfl⟩
theorem A88(c:UInt8):Call E0.P Nz [.imm (.int .u8 (c.toNat:Int))] [] (Is (.imm (.int .i64 (kd c))) []):=A1l _
theorem Aux(c:UInt8):Call E0.P L6 [.imm (.int .u8 (c.toNat:Int))] [] (Is (.imm (.int .i64 (kd c))) []):=A4d _
theorem A9y(c:UInt8):c.toNat<256:=c.toNat_lt
theorem V9(c:UInt8):Call E0.P Sz [.imm (.int .u8 (c.toNat:Int))] [] (Is (.imm (.int .i64 (Ce c))) []):=by
 have hc:=A9y c
 refine Au9 _ _ (Let.intro (Dj (Ph _ _) (fun h=> ?_) fun h1=>Let.intro (Dj (Ph _ _) (fun h=> ?_) fun h2=>Let.intro (Dj (Ph _ _) (fun h=> ?_) fun h3=> ?_))))
 ·rw [wrap_u8 _ (by omega) (by omega),Be _ (by omega) (by omega)]
  unfold Ce;rw [if_pos (by omega)];exact⟨rfl,rfl⟩
 ·rw [wrap_u8 _ (by omega) (by omega),Be ((c.toNat:Int) - 65) (by omega) (by omega),Be _ (by omega) (by omega)]
  unfold Ce;rw [if_neg (by omega),if_pos (by omega),show(c.toNat:Int) - 65+10=(c.toNat:Int) - 55 by omega];exact⟨rfl,rfl⟩
 ·rw [wrap_u8 _ (by omega) (by omega),Be ((c.toNat:Int) - 97) (by omega) (by omega),Be _ (by omega) (by omega)]
  unfold Ce;rw [if_neg (by omega),if_neg (by omega),if_pos (by omega),show(c.toNat:Int) - 97+10=(c.toNat:Int) - 87 by omega];exact⟨rfl,rfl⟩
 ·unfold Ce;rw [if_neg (by omega),if_neg (by omega),if_neg (by omega)];exact⟨rfl,rfl⟩
def hxD(i:Nat):Nat:=if i<10 then 48+i else 55+i
def hxE(i:Nat):Nat:=if i<10 then 48+i else 87+i
def upX:List UInt8:=[48,49,50,51,52,53,54,55,56,57,65,66,67,68,69,70]
def loX:List UInt8:=[48,49,50,51,52,53,54,55,56,57,97,98,99,100,101,102]
theorem Bag:∀i:Fin 16,(upX.getD i.val 0).toNat=hxD i.val:=by decide+kernel
theorem Ba3:∀i:Fin 16,(loX.getD i.val 0).toNat=hxE i.val:=by decide+kernel
theorem A8w(c:UInt8)(i:Nat)(hi:i<16)(h:hxD i=c.toNat∨hxE i=c.toNat):Ce c=i:=by
 unfold Ce hxD hxE at*
 by_cases h10:i<10
 ·rw [if_pos h10,if_pos h10]at h;rw [if_pos (by omega)];omega
 ·rw [if_neg h10,if_neg h10]at h
  rcases h with h |h
  ·rw [if_neg (by omega),if_pos (by omega)];omega
  ·rw [if_neg (by omega),if_neg (by omega),if_pos (by omega)];omega
theorem A6h(c:UInt8)(h:∀i,i<16→hxD i≠c.toNat∧hxE i≠c.toNat):Ce c= -1:=by
 unfold Ce
 by_cases h1:48≤c.toNat∧c.toNat≤57
 ·have:=(h (c.toNat - 48) (by omega)).1;unfold hxD at this;rw [if_pos (by omega)]at this;omega
 rw [if_neg h1]
 by_cases h2:65≤c.toNat∧c.toNat≤70
 ·have:=(h (c.toNat - 55) (by omega)).1;unfold hxD at this;rw [if_neg (by omega)]at this;omega
 rw [if_neg h2]
 by_cases h3:97≤c.toNat∧c.toNat≤102
 ·have:=(h (c.toNat - 87) (by omega)).2;unfold hxE at this;rw [if_neg (by omega)]at this;omega
 rw [if_neg h3]
theorem A7a(c:UInt8)(Q:AV→Heap→Prop)(hq:Q (.imm (.int .i64 (Ce c))) []):∀(m i:Nat),m+i=16→(∀j,j<i→hxD j≠c.toNat∧hxE j≠c.toNat)→Abb (c.toNat:Int) upX loX i (Abl Q):=by
 intro m
 induction m with
 |zero=>
  intro i hi ha
  refine Ajn _ _ _ _ _ (Bz (fun h=>by omega) fun _=> ?_)
  rw [A6h c (fun j hj=>ha j (by omega))]at hq
  exact Awv _ (Ath _ (Avh _ _ hq))
 |succ m ih=>
  intro i hi ha
  have e1:(upX.getD (Int.toNat (i:Int)) 0).toNat=hxD i:=Bag ⟨i,by omega⟩
  have e2:(loX.getD (Int.toNat (i:Int)) 0).toNat=hxE i:=Ba3 ⟨i,by omega⟩
  refine Ajn _ _ _ _ _ (Bz (fun _=>⟨⟨by omega,by show(i:Int)<((16:Nat):Int);omega⟩,⟨fun _=>⟨by omega,by show(i:Int)<((16:Nat):Int);omega⟩, ?_⟩⟩) fun h=>by omega)
  rw [e1,e2]
  refine Let.intro (Dj (Ar7 _ _) (fun h=> ?_) fun h=> ?_)
  ·rw [A8w c i (by omega) (by omega)]at hq
   exact Aw2 _ _ hq
  ·rw [Hq i (by omega)]
   refine ih (i+1) (by omega) fun j hj=> ?_
   by_cases e:j=i
   ·subst e;omega
   ·exact ha j (by omega)
theorem Aca(c:UInt8):Call E0.P Ox [.imm (.int .u8 (c.toNat:Int))] [] (Is (.imm (.int .i64 (Ce c))) []):=
 A08 _ _ (A7a c _ ⟨rfl,rfl⟩ 16 0 rfl (fun j hj=>by omega))
theorem A1e(s:List UInt8)(a:Nat):Call E0.P R8 [.imm (.str s), .imm (.int .i64 (a:Int))] [] (Is (.imm (.bool (decide (a<s.length)))) []):=by
 refine Apr _ _ _ (Let.intro ⟨?_,rfl⟩)
 by_cases h:a<s.length
 ·rw [show(bif decide ((0:Int)≤(a:Int))then decide ((a:Int)<(s.length:Int))else false)=true from (Ph _ _).2 ⟨by omega,by omega⟩,decide_eq_true h]
 ·rw [show(bif decide ((0:Int)≤(a:Int))then decide ((a:Int)<(s.length:Int))else false)=false from Bool.eq_false_iff.2 fun h'=>h (by have:=((Ph _ _).1 h').2;omega),decide_eq_false h]
theorem A5i(s:List UInt8)(a:Nat)(h:a<s.length):Nr (s.drop a)=if s[a].toNat=10 then 1 else if s[a].toNat=13 then(if h:a+1<s.length then(if s[a+1].toNat=10 then 2 else 1)else 1)else 0:=by
 rw [Dt s a h,Afy]
 split
 ·rfl
 ·split
  ·by_cases h2:a+1<s.length
   ·rw [Dt s (a+1) h2,dif_pos h2]
   ·rw [List.drop_eq_nil_of_le (by omega),dif_neg h2]
  ·rfl
theorem Ags(s:List UInt8)(hs:s.length≤1000000000)(a:Nat):Call E0.P Nw [.imm (.str s), .imm (.int .i64 (a:Int))] [] (Is (.imm (.int .i64 (Nr (s.drop a):Nat))) []):=by
 refine Asy _ _ _ (Call.use (A1e s a) ⟨⟨rfl,rfl⟩,Ot (p:=a<s.length) (by rw [U1,Bg]) (fun h=> ?_) fun h=> ?_⟩)
 ·rw [List.drop_eq_nil_of_le (by omega)];exact⟨rfl,rfl⟩
 rw [Hg s a h,A5i s a h]
 refine⟨⟨by omega,by omega⟩,Bz (fun e=> ?_) fun e=>⟨⟨by omega,by omega⟩,Ot Bg (fun e2=> ?_) fun e2=>⟨fun h'=> ?_,Let.intro (Dj (Ph _ _) (fun h'=> ?_) fun h'=> ?_)⟩⟩⟩
 ·rw [if_pos (by omega)];exact⟨rfl,rfl⟩
 ·rw [if_neg (by omega),if_neg (by omega)];exact⟨rfl,rfl⟩
 ·have:=of_decide_eq_true h'
  rw [Hq a (by omega)]at this ⊢
  omega
 ·rw [Hq a (by omega)]at h'
  have h2:a+1<s.length:=by have:=h'.1;omega
  rw [Hg s (a+1) h2]at h'
  rw [if_neg (by omega),if_pos (by omega),dif_pos h2,if_pos (by omega)];exact⟨rfl,rfl⟩
 ·rw [Hq a (by omega)]at h'
  rw [if_neg (by omega),if_pos (by omega)]
  by_cases h2:a+1<s.length
  ·rw [Hg s (a+1) h2]at h'
   rw [dif_pos h2,if_neg (fun e3=>h' ⟨by omega,by omega⟩)];exact⟨rfl,rfl⟩
  ·rw [dif_neg h2];exact⟨rfl,rfl⟩
theorem A9f(l:List UInt8)(h:1<l.length):(List.take 2 l == [13,10])=true↔l[0].toNat=13∧l[1].toNat=10:=by
 obtain⟨x,y,r,rfl⟩:∃x y r,l=x::y::r:=by
  rcases l with _ |⟨x,_ |⟨y,r⟩⟩
  ·simp at h
  ·simp at h
  ·exact⟨x,y,r,rfl⟩
 have e:∀(c:UInt8) (n:Nat) (hn:n<256),c=UInt8.ofNat n↔c.toNat=n:=fun c n hn=>⟨fun h=>by rw [h];exact UInt8.toNat_ofNat_of_lt' hn,fun h=>UInt8.toNat_inj.1 (by rw [h];exact(UInt8.toNat_ofNat_of_lt' hn).symm)⟩
 have e1:=e x 13 (by omega)
 have e2:=e y 10 (by omega)
 simp only [List.take_succ_cons,List.take_zero,beq_iff_eq,List.cons.injEq,and_true,List.getElem_cons_zero,List.getElem_cons_succ]
 rw [←e1, ←e2]
 exact Iff.rfl
theorem Aum(s:List UInt8)(_hs:s.length≤1000000000)(a:Nat):Call E0.P Abd [.imm (.str s), .imm (.int .i64 (a:Int))] [] (Is (.imm (.int .i64 (Nr (s.drop a):Nat))) []):=by
 refine Ax1 _ _ _ (Let.intro (Dj (Ar7 _ _) (fun h=> ?_) fun h=>⟨by omega,Let.intro ?_⟩))
 ·rw [List.drop_eq_nil_of_le (by omega)];exact⟨rfl,rfl⟩
 have h:a<s.length:=by omega
 rw [Int.toNat_natCast]
 have hl:(s.drop a).length=s.length - a:=List.length_drop ..
 have h0:(s.drop a).getD 0 0=s[a]:=by rw [Dt s a h];rfl
 refine⟨fun h'=>by have:=of_decide_eq_true h';omega,Let.intro (Let.intro ?_)⟩
 rw [A5i s a h]
 have key:(bif decide ((1:Int)<((s.drop a).length:Int))then List.take 2 (s.drop a) == [13,10]else false)=true↔∃h2:a+1<s.length,s[a].toNat=13∧s[a+1].toNat=10:=by
  by_cases h2:a+1<s.length
  ·rw [decide_eq_true (show(1:Int)<((s.drop a).length:Int)by omega)]
   simp only [cond_true]
   rw [A9f _ (by omega)]
   simp [h2]
  ·rw [decide_eq_false (show ¬(1:Int)<((s.drop a).length:Int)by omega)]
   simp [h2]
 refine Dj key (fun⟨h2,e1,e2⟩=> ?_) fun hn=>⟨⟨by omega,by omega⟩,Call.use (Arr _ _ (by decide)) ⟨⟨rfl,rfl⟩,Dj (p:=s[a].toNat=13∨s[a].toNat=10) (by rw [U1,Bg,h0];simp;omega) (fun h'=> ?_) fun h'=> ?_⟩⟩
 ·rw [if_neg (by omega),if_pos e1,dif_pos h2,if_pos e2];exact⟨rfl,rfl⟩
 ·by_cases e:s[a].toNat=10
  ·rw [if_pos e];exact⟨rfl,rfl⟩
  ·rw [if_neg e,if_pos (by omega)]
   by_cases h2:a+1<s.length
   ·rw [dif_pos h2,if_neg (fun e3=>hn ⟨h2,by omega,e3⟩)];exact⟨rfl,rfl⟩
   ·rw [dif_neg h2];exact⟨rfl,rfl⟩
 ·rw [if_neg (by omega),if_neg (by omega)];exact⟨rfl,rfl⟩
theorem As8(k:Int):(0:Int)≤0∧(0:Int)<(([[IV.int .i64 k]]:List (List IV)).length:Int):=⟨by decide,by simp⟩
theorem Bbn(k:Int):¬(1:Int)<(([[IV.int .i64 k]]:List (List IV)).length:Int):=by simp
theorem A7z(k:Int):¬IntKind.i64.wrap (0+1)<(([[IV.int .i64 k]]:List (List IV)).length:Int):=by
 rw [Be _ (by omega) (by omega)];simp
theorem Axr(k:Int)(s:List UInt8)(a:Nat)(h:a<s.length):Ci k (s.drop a)=if kd s[a]=k then Ci k (s.drop (a+1))+1 else 0:=by
 rw [Dt s a h,Ci]
theorem Aqy(k:Int)(s:List UInt8)(a:Nat)(h:¬a<s.length):Ci k (s.drop a)=0:=by
 rw [List.drop_eq_nil_of_le (by omega)];rfl
theorem Aao(k:Int):∀l:List UInt8,Ci k l≤l.length
 | []=>Nat.le_refl _
 |c::r=>by
  rw [Ci]
  split
  ·have:=Aao k r;simp;omega
  ·omega
theorem Azx(k:Int)(s:List UInt8)(hs:s.length≤1000000000)(a:Nat)(ha:a≤s.length)(Q:AV→Heap→Prop)(hq:Q (.imm (.int .i64 (Ci k (s.drop a):Nat))) []):∀(m i:Nat),m+(a+i)=s.length→Ci k (s.drop a)=i+Ci k (s.drop (a+i))→
 Uo s a [[.int .i64 k]] i (Aa5 Q):=by
 intro m
 induction m with
 |zero=>
  intro i hi he
  refine Ads _ _ _ _ _ ?_
  rw [wrS s.length a (by omega) (by omega)]
  refine Bz (fun h=>by omega) fun _=>Adj _ _ (Abz _ _ (Ado _ _ ?_))
  rw [Aqy k s (a+i) (by omega)]at he
  rw [he]at hq;exact hq
 |succ m ih=>
  intro i hi he
  have hlt:a+i<s.length:=by omega
  refine Ads _ _ _ _ _ ?_
  rw [wrS s.length a (by omega) (by omega)]
  refine Bz (fun h=> ?_) fun h=>by omega
  refine Ab6 _ _ _ _ _ _ _ _ (Bz (fun _=>⟨⟨As8 k,rfl⟩, ?_⟩) fun h=>absurd (As8 k).2 h)
  rw [wrA a i (by omega)]
  refine⟨⟨by omega,by omega⟩, ?_⟩
  rw [Hg s (a+i) hlt]
  refine Call.use (A88 _) ⟨⟨rfl,rfl⟩, ?_⟩
  rw [Ee,show gI ([[IV.int .i64 k]].getD (Int.toNat 0) []) 0=k from rfl]
  rw [Axr k s (a+i) hlt]at he
  refine Bz (fun e=> ?_) fun e=> ?_
  ·refine Ap0 _ _ _ _ _ (Anj _ _ _ _ _ (Apn _ _ _ _ _ ?_))
   rw [Hq i (by omega)]
   rw [if_pos e]at he
   exact ih (i+1) (by omega) (by rw [show a+(i+1)=a+i+1 by omega];omega)
  ·refine Ab6 _ _ _ _ _ _ _ _ (Bz (fun h=>absurd h (A7z k)) fun _=> ?_)
   refine Aph _ _ (An8 _ _ (Apw _ _ (Adj _ _ (Abz _ _ (Ado _ _ ?_)))))
   rw [if_neg e]at he
   rw [he]at hq;exact hq
theorem Yu(k:Int)(s:List UInt8)(hs:s.length≤1000000000)(a:Nat)(ha:a≤s.length):Call E0.P Rk [.imm (.str s), .imm (.int .i64 (a:Int)), .imm (.sl .any 1 [[.int .i64 k]])] [] (Is (.imm (.int .i64 (Ci k (s.drop a):Nat))) []):=by
 refine Au0 _ _ _ _ (Call.use (A1e s a) ⟨⟨rfl,rfl⟩,Ot (p:=a<s.length) (by rw [U1,Bg]) (fun h=> ?_) fun h=> ?_⟩)
 ·rw [Aqy k s a h];exact⟨rfl,rfl⟩
 ·exact Azx k s hs a ha _ ⟨rfl,rfl⟩ (s.length - a) 0 (by omega) (by simp)
theorem A31(k:Int)(s:List UInt8)(hs:s.length≤1000000000)(a:Nat)(ha:a≤s.length)(Q:AV→Heap→Prop)(hq:Q (.imm (.int .i64 (Ci k (s.drop a):Nat))) []):∀(m i:Nat),m+(a+i)=s.length→Ci k (s.drop a)=i+Ci k (s.drop (a+i))→
 Yy s [[.int .i64 k]] i ((a+i:Nat):Int) (Tu Q):=by
 intro m
 induction m with
 |zero=>
  intro i hi he
  refine Ahk _ _ _ _ _ (Bz (fun h=>by omega) fun _=>Atb _ _ (Aq1 _ _ (Aur _ _ ?_)))
  rw [Aqy k s (a+i) (by omega)]at he
  rw [he]at hq;exact hq
 |succ m ih=>
  intro i hi he
  have hlt:a+i<s.length:=by omega
  have out:∀b:Bool,(b=true↔kd s[a+i]=k)→Wv s [[.int .i64 k]] i ((a+i:Nat):Int) b 1 (Agk (Tu Q)):=by
   intro b hb
   rw [Axr k s (a+i) hlt]at he
   refine Agp _ _ _ _ _ _ _ (Bz (fun h=>absurd h (Bbn k)) fun _=>Ata _ _ _ _ _ _ (Asm _ _ _ _ _ _ (Ot hb (fun e=> ?_) fun e=> ?_)))
   ·refine Atx _ _ (Atl _ _ ?_)
    rw [if_neg e]at he
    rw [he]at hq;exact hq
   ·refine Auc _ _ _ _ _ (Aq0 _ _ _ _ _ (Auh _ _ _ _ _ ?_))
    rw [Hq i (by omega),Hq (a+i) (by omega)]
    rw [if_pos e]at he
    exact ih (i+1) (by omega) (by rw [show a+(i+1)=a+i+1 by omega];omega)
  refine Ahk _ _ _ _ _ (Bz (fun h=> ?_) fun h=>by omega)
  refine Agp _ _ _ _ _ _ _ (Bz (fun _=>brF ⟨⟨by omega,by omega⟩,⟨⟨As8 k,rfl⟩, ?_⟩⟩) fun h=>absurd (As8 k).2 h)
  rw [Hg s (a+i) hlt]
  refine Call.use (Aux _) ⟨⟨rfl,rfl⟩,Let.intro ?_⟩
  exact Aq7 _ _ _ _ _ _ _ (As2 _ _ _ _ _ _ _ (out _ Bg))
theorem A4k(k:Int)(s:List UInt8)(hs:s.length≤1000000000)(a:Nat)(ha:a≤s.length):Call E0.P Ain [.imm (.str s), .imm (.int .i64 (a:Int)), .imm (.sl .any 1 [[.int .i64 k]])] [] (Is (.imm (.int .i64 (Ci k (s.drop a):Nat))) []):=
 Axy _ _ _ _ (Bz (fun h=>by omega) fun _=>A31 k s hs a ha _ ⟨rfl,rfl⟩ (s.length - a) 0 (by omega) (by simp))
end Go.Proofs.Sim.Se
set_option maxRecDepth 100000
namespace Go.Proofs.Sim.Se
open Go Go.Proofs Go.Proofs.Sim Go.Proofs.Sim.Va Go.RowKit Go.Proofs.Sim.Pa
def Wj:List UInt8→Nat
 | []=>0
 |c::r=>if c.toNat=10∨c.toNat=13 then 0 else Wj r+1
theorem kd0 {c:UInt8} (h:kd c=0):c.toNat=0∨c.toNat=9∨c.toNat=10∨c.toNat=12∨c.toNat=13∨c.toNat=32:=by
 unfold kd R6 at h
 by_cases h1:(c.toNat:Int)=0∨(c.toNat:Int)=9∨(c.toNat:Int)=10∨(c.toNat:Int)=12∨(c.toNat:Int)=13∨(c.toNat:Int)=32
 ·omega
 ·rw [if_neg h1]at h
  split at h<;>omega
theorem Be8 {c:UInt8} (h:kd c≠0):c.toNat≠10∧c.toNat≠13:=by
 refine⟨fun e=>h ?_,fun e=>h ?_⟩<;>unfold kd R6<;>rw [if_pos (by omega)]
theorem Am2:∀l:List UInt8,Gd false l=Ci 0 l+Gd false (l.drop (Ci 0 l))
 | []=>rfl
 |c::r=>by
  rw [Ci]
  by_cases h:kd c=0
  ·rw [if_pos h,Gd,List.drop_succ_cons]
   have hn:Jw false c=false:=by
    have:=kd0 h
    unfold Jw;split
    ·rfl
    ·rw [if_neg (by omega)]
   rw [hn,if_neg (fun h'=>h'.2 h),Am2 r];omega
  ·rw [if_neg h];simp
theorem Axp:∀l:List UInt8,Gd true l=Wj l+Gd false (l.drop (Wj l))
 | []=>rfl
 |c::r=>by
  rw [Wj]
  by_cases h:c.toNat=10∨c.toNat=13
  ·rw [if_pos h]
   have e:∀b,Jw b c=false:=fun b=>by unfold Jw;rw [if_pos h]
   simp only [Gd,e,List.drop_zero,Nat.zero_add]
  ·rw [if_neg h,Gd,List.drop_succ_cons]
   have e:Jw true c=true:=by
    unfold Jw;rw [if_neg h];split<;>rfl
   rw [e,if_neg (fun h'=>by cases h'.1),Axp r];omega
theorem Bal {c:UInt8} (h:c.toNat=37)(r:List UInt8):Gd false (c::r)=Gd true (c::r):=by
 have e:∀b,Jw b c=true:=fun b=>by unfold Jw;rw [if_neg (by omega),if_pos h]
 simp only [Gd,e]
theorem A69 {c:UInt8} (h:kd c≠0)(h2:c.toNat≠37)(r:List UInt8):Gd false (c::r)=0:=by
 have e:Jw false c=false:=by
  unfold Jw
  rw [if_neg (by have:=Be8 h;omega),if_neg h2]
 rw [Gd,e,if_pos ⟨rfl,h⟩]
theorem Axg(k:Int):∀(l:List UInt8) (c:UInt8) (r:List UInt8),l.drop (Ci k l)=c::r→kd c≠k
 | [],c,r,h=>by simp [Ci]at h
 |x::l,c,r,h=>by
  rw [Ci]at h
  by_cases hx:kd x=k
  ·rw [if_pos hx,List.drop_succ_cons]at h
   exact Axg k l c r h
  ·rw [if_neg hx,List.drop_zero]at h
   injection h with h1 h2
   subst h1;exact hx
theorem Awr:∀l:List UInt8,Wj l≤l.length
 | []=>Nat.le_refl _
 |c::r=>by
  rw [Wj]
  split
  ·omega
  ·have:=Awr r;simp;omega
theorem A3i:∀(b:Bool) (l:List UInt8),Gd b l≤l.length
 |_,[]=>Nat.le_refl _
 |b,c::r=>by
  rw [Gd]
  split
  ·omega
  ·have:=A3i (Jw b c) r;simp;omega
theorem Be3(c:UInt8)(r:List UInt8):Nr (c::r)=0↔¬(c.toNat=10∨c.toNat=13):=by
 rw [Afy]
 by_cases h1:c.toNat=10
 ·rw [if_pos h1];simp [h1]
 ·rw [if_neg h1]
  by_cases h2:c.toNat=13
  ·rw [if_pos h2]
   rcases r with _ |⟨d,r⟩
   ·simp [h2]
   ·simp only [h2];split<;>simp
  ·rw [if_neg h2];simp [h1,h2]
theorem A3a(s:List UInt8)(hs:s.length≤1000000000)(K:Ex→St→Prop)(e:Nat)(hk:K (.exit 0) ⟨[(0, .imm (.str s)),(1, .imm (.int .i64 (e:Int)))],[]⟩):∀(m q:Nat),m+q=s.length→e=q+Wj (s.drop q)→Py s q K:=by
 intro m
 induction m with
 |zero=>
  intro q hq he
  rw [List.drop_eq_nil_of_le (by omega)]at he
  have:e=q:=he
  subst this
  refine Adp _ _ _ (brE Bg (fun h=>by omega) fun _=>⟨rfl,Let.intro (brF hk)⟩)
 |succ m ih=>
  intro q hq he
  have hlt:q<s.length:=by omega
  refine Adp _ _ _ (brE Bg (fun _=>Call.use (Ags s hs q) ⟨⟨rfl,rfl⟩,Let.intro ?_⟩) fun h=>by omega)
  rw [Ee]
  rw [Dt s q hlt,Wj]at he
  refine Dj (p:=¬(s[q].toNat=10∨s[q].toNat=13)) (by rw [Bg, ←Be3 s[q] (s.drop (q+1)), ←Dt s q hlt];omega) (fun h=> ?_) fun h=> ?_
  ·refine Ao6 _ _ _ (Apg _ _ _ ?_)
   rw [Hq q (by omega)]
   rw [if_neg h]at he
   exact ih (q+1) (by omega) (by omega)
  ·rw [if_pos (Classical.not_not.1 h)]at he
   have:e=q:=he
   subst this;exact hk
theorem A3s(s:List UInt8)(q:Nat):(decide ((q:Int)<(s.length:Int))=true→(0:Int)≤(q:Int)∧(q:Int)<(s.length:Int)):=fun h=>⟨by omega,of_decide_eq_true h⟩
theorem A1g(s:List UInt8)(q:Nat):((bif decide ((q:Int)<(s.length:Int))then decide (((s.getD (Int.toNat (q:Int)) 0).toNat:Int)=37)else false)=true)↔∃h:q<s.length,s[q].toNat=37:=by
 rw [Ph]
 constructor
 ·rintro⟨h1,h2⟩
  have h:q<s.length:=by omega
  rw [Hg s q h]at h2
  exact⟨h,by omega⟩
 ·rintro⟨h,h2⟩
  rw [Hg s q h]
  exact⟨by omega,by omega⟩
theorem Aqu(s:List UInt8)(p:Nat)(h:¬ ∃h:p+Ci 0 (s.drop p)<s.length,s[p+Ci 0 (s.drop p)].toNat=37):p+Gd false (s.drop p)=p+Ci 0 (s.drop p):=by
 rw [Am2,List.drop_drop]
 by_cases hq:p+Ci 0 (s.drop p)<s.length
 ·have hst:=Axg 0 (s.drop p) s[p+Ci 0 (s.drop p)] (s.drop (p+Ci 0 (s.drop p)+1)) (by rw [List.drop_drop,Dt s _ hq])
  rw [Dt s _ hq,A69 hst (fun e=>h ⟨hq,e⟩)];omega
 ·have e:s.drop (p+Ci 0 (s.drop p))=[]:=List.drop_eq_nil_of_le (by omega)
  rw [e];rfl
theorem A3d(s:List UInt8)(p:Nat)(h:p+Ci 0 (s.drop p)<s.length)(h2:s[p+Ci 0 (s.drop p)].toNat=37):
 p+Gd false (s.drop p)=(p+Ci 0 (s.drop p)+Wj (s.drop (p+Ci 0 (s.drop p))))+Gd false (s.drop (p+Ci 0 (s.drop p)+Wj (s.drop (p+Ci 0 (s.drop p))))):=by
 have e1:=Am2 (s.drop p)
 rw [List.drop_drop]at e1
 have e2:=Axp (s.drop (p+Ci 0 (s.drop p)))
 rw [List.drop_drop]at e2
 have e3:Gd false (s.drop (p+Ci 0 (s.drop p)))=Gd true (s.drop (p+Ci 0 (s.drop p))):=by
  rw [Dt s _ h];exact Bal h2 _
 omega
theorem A8h(s:List UInt8)(q:Nat)(h:q<s.length)(h2:s[q].toNat=37):0<Wj (s.drop q):=by
 rw [Dt s q h,Wj,if_neg (by omega)];omega
theorem A76(s:List UInt8)(hs:s.length≤1000000000)(Q:AV→Heap→Prop)(e:Nat)(hk:Q (.imm (.int .i64 (e:Int))) []):∀(m p:Nat),s.length - p≤m→p≤s.length→e=p+Gd false (s.drop p)→Ug s p (Mf Q):=by
 intro m
 induction m with
 |zero=>
  intro p hm hp he
  have hW:=Aao 0 (s.drop p)
  rw [List.length_drop]at hW
  refine Adm _ _ _ (Call.use (Yu 0 s hs p hp) ⟨⟨rfl,rfl⟩, ?_⟩)
  rw [Ee,wrA p _ (by omega)]
  refine⟨A3s _ _,Let.intro (Dj (A1g _ _) (fun⟨h,_⟩=>by omega) fun h=> ?_)⟩
  rw [Aqu s p h]at he
  subst he
  exact Tn _ _ (Adv _ _ (Adq _ _ hk))
 |succ m ih=>
  intro p hm hp he
  have hW:=Aao 0 (s.drop p)
  rw [List.length_drop]at hW
  refine Adm _ _ _ (Call.use (Yu 0 s hs p hp) ⟨⟨rfl,rfl⟩, ?_⟩)
  rw [Ee,wrA p _ (by omega)]
  refine⟨A3s _ _,Let.intro (Dj (A1g _ _) (fun⟨h,h2⟩=> ?_) fun h=> ?_)⟩
  ·have hl:=Awr (s.drop (p+Ci 0 (s.drop p)))
   rw [List.length_drop]at hl
   have hpos:=A8h s _ h h2
   refine A3a s hs _ _ (Apf _ _ _ (Ab0 _ _ _ (Ao7 _ _ _ ?_))) _ _ (Nat.sub_add_cancel (Nat.le_of_lt h)) rfl
   exact ih _ (by omega) (by omega) (he.trans (A3d s p h h2))
  ·rw [Aqu s p h]at he
   subst he
   exact Tn _ _ (Adv _ _ (Adq _ _ hk))
theorem Su(s:List UInt8)(a:Int):Ke s a≤s.length:=by unfold Ke;split<;>(try split)<;>omega
theorem Bcy(s:List UInt8)(a:Int):(if(if(s.length:Int)<a then(s.length:Int)else a)>0 then(if(s.length:Int)<a then(s.length:Int)else a)else 0)=((Ke s a:Nat):Int):=by
 unfold Ke
 by_cases h1:(s.length:Int)<a
 ·rw [if_pos h1,if_pos h1]
  by_cases h2:a<0
  ·omega
  ·rw [if_neg h2];split<;>omega
 ·rw [if_neg h1]
  by_cases h2:a<0
  ·rw [if_pos h2,if_neg (by omega)];rfl
  ·rw [if_neg h2,if_neg h1];split<;>omega
theorem A1c(s:List UInt8)(hs:s.length≤1000000000)(a:Int):Call E0.P Adg [.imm (.str s), .imm (.int .i64 a)] [] (Is (.imm (.int .i64 (Dx s a:Nat))) []):=by
 refine Atu _ _ _ ?_
 rw [Bcy]
 have hp:=Su s a
 unfold Dx
 generalize Ke s a=p at*
 have hW:=Aao 0 (s.drop p)
 rw [List.length_drop]at hW
 refine Call.use (Yu 0 s hs p hp) ⟨⟨rfl,rfl⟩, ?_⟩
 rw [Ee,wrA p _ (by omega)]
 refine⟨A3s _ _,Let.intro (Dj (A1g _ _) (fun⟨h,h2⟩=> ?_) fun h=> ?_)⟩
 ·have hl:=Awr (s.drop (p+Ci 0 (s.drop p)))
  rw [List.length_drop]at hl
  refine A3a s hs _ _ (Ao9 _ _ _ (Ab0 _ _ _ (Apq _ _ _ ?_))) _ _ (Nat.sub_add_cancel (Nat.le_of_lt h)) rfl
  exact A76 s hs _ _ ⟨rfl,rfl⟩ _ _ (Nat.le_refl _) (by omega) (A3d s p h h2)
 ·rw [Aqu s p h]
  exact Tn _ _ (Api _ _ ⟨rfl,rfl⟩)
theorem Bak(s:List UInt8)(hs:s.length≤1000000000)(Q:AV→Heap→Prop)(e:Nat)(hk:Q (.imm (.int .i64 (e:Int))) []):∀(m i:Nat) (b:Bool),m+i=s.length→e=i+Gd b (s.drop i)→Ti s b i (M7 Q):=by
 intro m
 induction m with
 |zero=>
  intro i b hi he
  rw [List.drop_eq_nil_of_le (by omega)]at he
  have he:e=i:=he
  refine Y7 _ _ _ _ (Bz (fun h=>by omega) fun _=>Ahx _ _ (Ae5 _ _ (Ahw _ _ ?_)))
  rw [show s.length=e by omega];exact hk
 |succ m ih=>
  intro i b hi he
  have hlt:i<s.length:=by omega
  rw [Dt s i hlt,Gd]at he
  have step:∀n:Bool,n=Jw b s[i]→Tg s n i (Ms (M7 Q)):=by
   intro n hn
   have nx:¬(Jw b s[i]=false∧kd s[i]≠0)→W9 s n i false (Tx (Ms (M7 Q))):=by
    intro h
    rw [if_neg h]at he
    refine Ae7 _ _ _ _ _ (brF (Atz _ _ _ _ (Atg _ _ _ _ (Asn _ _ _ _ (Aun _ _ _ _ ?_)))))
    rw [Hq i (by omega)]
    exact ih (i+1) n (by omega) (by rw [hn];omega)
   refine Ati _ _ _ _ ⟨fun _=>⟨by omega,by omega⟩, ?_⟩
   rw [Hg s i hlt]
   refine brE (p:=n=false) (by cases n<;>simp) (fun h0=>Call.use (Aux _) ⟨⟨rfl,rfl⟩,Let.intro ?_⟩) fun h0=>⟨rfl,Let.intro (nx fun h=>h0 (by rw [hn];exact h.1))⟩
   rw [Ee]
   by_cases hz:kd s[i]=0
   ·rw [decide_eq_true hz];exact nx fun h=>h.2 hz
   ·rw [decide_eq_false hz]
    rw [if_pos ⟨by rw [←hn];exact h0,hz⟩]at he
    have he:e=i:=he
    subst he
    exact Ae7 _ _ _ _ _ (brT (As5 _ _ (Att _ _ (At1 _ _ hk))))
  refine Y7 _ _ _ _ (Bz (fun _=>⟨⟨by omega,by omega⟩,⟨fun _=>⟨by omega,by omega⟩,Let.intro ?_⟩⟩) fun h=>by omega)
  rw [Hg s i hlt]
  refine Dj (Ar7 _ _) (fun h=>step _ ?_) fun h=>⟨⟨by omega,by omega⟩,Bz (fun h2=>step _ ?_) fun h2=>step _ ?_⟩
  ·unfold Jw;rw [if_pos (by omega)]
  ·unfold Jw;rw [if_neg (by omega),if_pos (by omega)]
  ·unfold Jw;rw [if_neg (by omega),if_neg (by omega)]
theorem A12(s:List UInt8)(b:Bool)(i:Int)(hi:(s.length:Int)<i)(Q:AV→Heap→Prop)(hk:Q (.imm (.int .i64 (s.length:Int))) []):Ti s b i (M7 Q):=
 Y7 _ _ _ _ (Bz (fun h=>by omega) fun _=>Ahx _ _ (Ae5 _ _ (Ahw _ _ hk)))
theorem A47(s:List UInt8)(hs:s.length≤1000000000)(a:Int):Call E0.P Aia [.imm (.str s), .imm (.int .i64 a)] [] (Is (.imm (.int .i64 (Dx s a:Nat))) []):=by
 refine Ax2 _ _ _ ?_
 by_cases h:(s.length:Int)<a
 ·rw [if_pos (show a>0 by omega)]
  refine A12 s _ _ h _ ?_
  have e:Dx s a=s.length:=by
   unfold Dx Ke
   rw [if_neg (by omega),if_pos h,List.drop_length];rfl
  rw [e];exact⟨rfl,rfl⟩
 ·have e:(if a>0 then a else 0)=((Ke s a:Nat):Int):=by
   unfold Ke;rw [if_neg h];split<;>split<;>omega
  rw [e]
  have hp:=Su s a
  exact Bak s hs _ _ ⟨rfl,rfl⟩ (s.length - Ke s a) _ _ (by omega) rfl
theorem Aq6(s:List UInt8)(a:Int):Dx s a≤s.length:=by
 unfold Dx
 have h1:=Su s a
 have h2:=A3i false (s.drop (Ke s a))
 rw [List.length_drop]at h2
 omega
end Go.Proofs.Sim.Se
set_option maxRecDepth 100000
namespace Go.Proofs.Sim.Se
open Go Go.Proofs Go.Proofs.Sim Go.Proofs.Sim.Va Go.RowKit Go.Proofs.Sim.Pa
abbrev Si(s:List UInt8)(a:Int)(rows:LL):Heap:=[(Nm.arg 0, .blk Ac [.imm (.str s), .imm (.int .i64 a), .own (Nm.arg 1)]),(Nm.arg 1, .arr (Ap+2) true 1 rows)]
abbrev A1t(k n:Int)(t:List UInt8)(x y e:Int):AV:= .tup [.imm (.agg [.int .i64 k, .int .i64 n, .str t, .int .i64 x, .int .i64 y]), .imm (.int .i64 e)]
abbrev okA(c:Int)(b:Bool):AV:= .tup [.imm (.int .u8 c), .imm (.bool b)]
def ScQ(s:List UInt8)(k:Int)(x:Part):AV→Heap→Prop:=fun r h=>∃(a:Nat) (l:List UInt8),h=Si s a (Bb l)∧r=A1t (if x.2.2=0 then k else 0) 0 x.1 0 0 x.2.2∧(x.2.2=0→a=x.2.1)∧(x.2.2≠0→x.1=[])
theorem Aa0 {s:List UInt8} {k e:Int} {a:Nat} {l:List UInt8} (he:e≠0):ScQ s k ([],0,e) (A1t 0 0 [] 0 0 e) (Si s a (Bb l)):=⟨a,l,rfl,by rw [if_neg he],fun h=>absurd h he,fun _=>rfl⟩
theorem A05 {s:List UInt8} {k:Int} {a:Nat} {l t:List UInt8} :ScQ s k (t,a,0) (A1t k 0 t 0 0 0) (Si s a (Bb l)):=⟨a,l,rfl,by rw [if_pos rfl],fun _=>rfl,fun h=>absurd rfl h⟩
theorem wr2(i:Nat)(h:i≤1000000000000):IntKind.i64.wrap ((i:Int)+2)=((i+2:Nat):Int):=by rw [Be _ (by omega) (by omega)];simp
theorem A9u(i:Nat)(h:i≤1000000000000):IntKind.i64.wrap (i:Int)=(i:Int):=Be _ (by omega) (by omega)
theorem Abw(c:UInt8): -1≤Ce c∧Ce c≤15:=by
 unfold Ce;split
 ·omega
 ·split
  ·omega
  ·split<;>omega
theorem Baq:∀h l:Fin 16,IntKind.u8.wrap (IntKind.i64.wrap (↑(BitVec.ofInt 64 (IntKind.i64.wrap (((h:Nat):Int)*(2:Int) ^ (4:Nat))) ||| BitVec.ofInt 64 ((l:Nat):Int)).toNat:Int))=(((UInt8.ofNat (16*(h:Nat)+(l:Nat))).toNat:Nat):Int):=by decide+kernel
theorem nib(x y:Int)(hx:0≤x)(hx2:x≤15)(hy:0≤y)(hy2:y≤15):IntKind.u8.wrap (IntKind.i64.wrap (↑(BitVec.ofInt 64 (IntKind.i64.wrap (x*(2:Int) ^ (4:Nat))) ||| BitVec.ofInt 64 y).toNat:Int))=(((Vb (16*x+y)).toNat:Nat):Int):=by
 have h:=Baq ⟨x.toNat,by omega⟩ ⟨y.toNat,by omega⟩
 simp only [Int.toNat_of_nonneg hx,Int.toNat_of_nonneg hy]at h
 rw [h]
 unfold Vb
 rw [show(16*x+y).toNat=16*x.toNat+y.toNat by omega]
section
variable (s:List UInt8) (hs:s.length≤1000000000)
include hs
theorem Au5(a:Nat)(ha:a≤s.length)(h:s.length<a+2)(rows:LL):Call E0.P G6 [.ptr (.arg 0) 0] (Si s a rows) (Is (okA 0 false) (Si s a rows)):=by
 refine Le _ _ _ _ ?_
 rw [wrS s.length a ha (by omega)]
 exact Bz (fun _=>⟨rfl,rfl⟩) fun h=>by omega
theorem Axz(a:Nat)(h:a+1<s.length)(hb:Ce s[a]<0∨Ce s[a+1]<0∨Ce s[a]+Ce s[a+1]=0)(rows:LL):Call E0.P G6 [.ptr (.arg 0) 0] (Si s a rows) (Is (okA 0 false) (Si s (a+2:Nat) rows)):=by
 have b1:=Abw s[a]
 have b2:=Abw s[a+1]
 refine Le _ _ _ _ ?_
 rw [wrS s.length a (by omega) (by omega),Hq a (by omega),wr2 a (by omega)]
 refine Bz (fun _=>by omega) fun _=>⟨⟨by omega,by omega⟩,⟨⟨by omega,by omega⟩, ?_⟩⟩
 rw [Hg s a (by omega),Hg s (a+1) h]
 refine Call.use (V9 _) ⟨⟨rfl,rfl⟩,Call.use (V9 _) ⟨⟨rfl,rfl⟩,Let.intro (Let.intro ?_)⟩⟩
 rw [Ee,Ee,Be (Ce s[a]+Ce s[a+1]) (by omega) (by omega)]
 refine Dj (p:=Ce s[a]<0∨Ce s[a+1]<0∨Ce s[a]+Ce s[a+1]=0) (by rw [Ar1,Ar7];omega) (fun _=>⟨rfl,rfl⟩) fun h'=>absurd hb h'
theorem Azk(a:Nat)(h:a+1<s.length)(hb:¬(Ce s[a]<0∨Ce s[a+1]<0∨Ce s[a]+Ce s[a+1]=0))(rows:LL):Call E0.P G6 [.ptr (.arg 0) 0] (Si s a rows) (Is (okA (Vb (16*Ce s[a]+Ce s[a+1])).toNat true) (Si s (a+2:Nat) rows)):=by
 have b1:=Abw s[a]
 have b2:=Abw s[a+1]
 refine Le _ _ _ _ ?_
 rw [wrS s.length a (by omega) (by omega),Hq a (by omega),wr2 a (by omega)]
 refine Bz (fun _=>by omega) fun _=>⟨⟨by omega,by omega⟩,⟨⟨by omega,by omega⟩, ?_⟩⟩
 rw [Hg s a (by omega),Hg s (a+1) h]
 refine Call.use (V9 _) ⟨⟨rfl,rfl⟩,Call.use (V9 _) ⟨⟨rfl,rfl⟩,Let.intro (Let.intro ?_)⟩⟩
 rw [Ee,Ee,Be (Ce s[a]+Ce s[a+1]) (by omega) (by omega)]
 refine Dj (p:=Ce s[a]<0∨Ce s[a+1]<0∨Ce s[a]+Ce s[a+1]=0) (by rw [Ar1,Ar7];omega) (fun h'=>absurd h' hb) fun _=>⟨by decide, ?_⟩
 rw [nib _ _ (by omega) (by omega) (by omega) (by omega)]
 exact⟨rfl,rfl⟩
def Bch(s:List UInt8)(K:KK)(a:Nat)(out:List UInt8):Prop:=
 (∀h:a<s.length,Ez (s[a].toNat:Int) true s a 0 0 [] 0 0 (Bb out) K)∧(¬a<s.length→Ez 0 false s a 0 0 [] 0 0 (Bb out) K)
omit hs in
theorem Bda(K:KK)(a:Nat)(out:List UInt8)(h:Bch s K a out):Nt s a 0 0 [] 0 0 (Bb out) (Kh (Gf K)):=by
 refine Acd _ _ _ _ _ _ _ _ _ (Bz (fun h'=> ?_) fun h'=>⟨⟨by omega,by omega⟩, ?_⟩)
 ·apply Sa
  apply Sg
  exact h.2 (by omega)
 ·have hlt:a<s.length:=by omega
  rw [Hg s a hlt]
  apply Sa
  apply Sg
  exact h.1 hlt
theorem Bdl(at_:Int)(out0:LL)(Q:QQ)(X:Part)(hQ:∀r h,ScQ s 2 X r h→Q r h):∀(m a:Nat) (out:List UInt8),s.length≤a+m→out.length≤127→nameL (s.drop a) out a=X→Bch s (Dl s at_ out0 Q) a out:=by
 have fin:∀(a:Nat) (out:List UInt8),X=(out,a,0)→Dl s at_ out0 Q (.exit 0) ⟨[(0, .ptr (Nm.arg 0) 0),(2, .ptr (Nm.loc 2) 0)],[(Nm.arg 0, .blk Ac [.imm (.str s), .imm (.int .i64 a), .own (Nm.arg 1)]),(Nm.loc 2, .blk Aq [.imm (.int .i64 0), .imm (.int .i64 0), .imm (.str []), .imm (.int .i64 0), .imm (.int .i64 0)]),(Nm.arg 1, .arr (Ap+2) true 1 (Bb out))]⟩:=by
  intro a out hX
  apply Ad9
  refine Ac4 _ _ _ _ _ _ _ _ _ ⟨Aes _, ?_⟩
  apply Aef
  rw [Ao0]
  exact hQ _ _ (hX ▸ A05)
 have off:∀(a:Nat) (out:List UInt8),¬a<s.length→nameL (s.drop a) out a=X→Ez 0 false s a 0 0 [] 0 0 (Bb out) (Dl s at_ out0 Q):=by
  intro a out h hX
  rw [List.drop_eq_nil_of_le (by omega)]at hX
  refine Sd _ _ _ _ _ _ _ _ _ _ _ (brE (p:=False) (by simp) (fun h=>h.elim) fun _=>⟨rfl,Let.intro (brF (fin a out hX.symm))⟩)
 intro m
 induction m with
 |zero=>intro a out hm ho hX;exact⟨fun h=>by omega,fun h=>off a out h hX⟩
 |succ m ih=>
  intro a out hm ho hX
  refine⟨fun h=> ?_,fun h=>off a out h hX⟩
  refine Sd _ _ _ _ _ _ _ _ _ _ _ (brE (p:=True) (by simp) (fun _=>Call.use (A88 _) ⟨⟨rfl,rfl⟩,Let.intro ?_⟩) fun h=>absurd trivial h)
  rw [Ee]
  rw [Dt s a h]at hX
  refine Bz (fun hk=> ?_) fun hk=> ?_
  ·have bad:∀(e:Int) (b:Nat) (o:List UInt8),e≠0→X=([],0,e)→Dl s at_ out0 Q .ret ⟨[(2, .ptr (Nm.loc 2) 0),(3, .imm (.int .i64 e))],[(Nm.loc 2, .blk Aq [.imm (.int .i64 0), .imm (.int .i64 0), .imm (.str []), .imm (.int .i64 0), .imm (.int .i64 0)]),(Nm.arg 0, .blk Ac [.imm (.str s), .imm (.int .i64 b), .own (Nm.arg 1)]),(Nm.arg 1, .arr (Ap+2) true 1 (Bb o))]⟩:=by
    intro e b o he hx
    apply Ad7
    exact hQ _ _ (hx ▸ Aa0 he)
   have push:∀(c:UInt8) (b:Nat),a<b→(X=if 127≤out.length then([],0,8)else nameL (s.drop b) (out++[c]) b)→Jy (c.toNat:Int) s b 0 0 [] 0 0 (Bb out) (H5 (Gf (Dl s at_ out0 Q))):=by
    intro c b hb hx
    refine Acr _ _ _ _ _ _ _ _ _ _ ⟨⟨by rw [bl1];omega,by rw [bl1];omega⟩, ?_⟩
    rw [Amz,bl1,List.length_append]
    refine Bz (fun h'=> ?_) fun h'=> ?_
    ·rw [if_pos (by simp at h';omega)]at hx
     apply Aeb
     apply Lu
     exact bad 8 b _ (by decide) hx
    ·rw [if_neg (by simp at h';omega)]at hx
     apply Ad1
     exact Bda s _ b _ (ih b (out++[c]) (by omega) (by simp at h' ⊢; omega) hx.symm)
   refine Aea _ _ _ _ _ _ _ _ _ _ (Bz (fun h35=> ?_) fun h35=> ?_)
   ·rw [Hq a (by omega)]
    rw [nameL.eq_def]at hX
    simp only at hX
    rw [if_pos hk,if_pos (by omega)]at hX
    by_cases h3:s.length<a+1+2
    ·refine Call.use (Au5 s hs (a+1) (by omega) h3 _) ⟨⟨rfl,rfl⟩,Anl rfl ?_⟩
     apply Lu
     refine bad 4 (a+1) out (by decide) ?_
     rw [←hX]
     by_cases h4:a+1<s.length
     ·rw [Dt s (a+1) h4,List.drop_eq_nil_of_le (by omega)]
     ·rw [List.drop_eq_nil_of_le (by omega)]
    ·have h4:a+1<s.length:=by omega
     have h5:a+1+1<s.length:=by omega
     rw [Dt s (a+1) h4,Dt s (a+1+1) h5]at hX
     simp only at hX
     by_cases hb:Ce s[a+1]<0∨Ce s[a+1+1]<0∨Ce s[a+1]+Ce s[a+1+1]=0
     ·refine Call.use (Axz s hs (a+1) h5 hb _) ⟨⟨rfl,rfl⟩,Anl rfl ?_⟩
      apply Lu
      rw [if_pos hb]at hX
      exact bad 4 (a+1+2) out (by decide) hX.symm
     ·refine Call.use (Azk s hs (a+1) h5 hb _) ⟨⟨rfl,rfl⟩,Am8 rfl ?_⟩
      rw [if_neg hb]at hX
      exact push (Vb (16*Ce s[a+1]+Ce s[a+1+1])) (a+1+2) (by omega) hX.symm
   ·rw [Hq a (by omega)]
    rw [nameL.eq_def]at hX
    simp only at hX
    rw [if_pos hk,if_neg (by omega)]at hX
    exact push s[a] (a+1) (by omega) hX.symm
  ·rw [nameL.eq_def]at hX
   simp only at hX
   rw [if_neg hk]at hX
   exact fin a out hX.symm
theorem Bc5(a:Nat)(ha:a<s.length):Call E0.P P8 [.ptr (.arg 0) 0] (Si s a []) (ScQ s 2 (nameL (s.drop (a+1)) [] (a+1))):=by
 have h:=Bdl s hs a [] (ScQ s 2 (nameL (s.drop (a+1)) [] (a+1))) _ (fun _ _ h=>h) s.length (a+1) [] (by omega) (by simp) rfl
 refine Ag6 _ _ _ _ ?_
 rw [Hq a (by omega)]
 refine Bz (fun h'=>h.2 (by omega)) fun h'=>⟨⟨by omega,by omega⟩, ?_⟩
 rw [Hg s (a+1) (by omega)]
 exact h.1 (by omega)
end
end Go.Proofs.Sim.Se

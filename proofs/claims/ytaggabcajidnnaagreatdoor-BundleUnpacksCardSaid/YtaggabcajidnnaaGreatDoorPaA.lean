import Derived.Test.YtaggabcajidnnaaGreatDoorDtA
import Derived.Test.YtaggabcajidnnaaGreatDoorPaL
set_option maxRecDepth 100000
namespace Go.Proofs.Sim.Se
open Go Go.Proofs Go.Proofs.Sim Go.Proofs.Sim.Va Go.RowKit Go.Proofs.Sim.Pa
theorem Bh {p:Prop} {i:Decidable p} {A B:Prop} (h1:p→A)(h2:¬p→B):Br (@decide p i) A B:=⟨fun h=>h1 (of_decide_eq_true h),fun h=>h2 (of_decide_eq_false h)⟩
theorem Cg {b:Bool} {p:Prop} {A B:Prop} (hb:b=true↔p)(h1:p→A)(h2:¬p→B):Br b A B:=⟨fun h=>h1 (hb.1 h),fun h=>h2 fun hp=>by rw [hb.2 hp]at h;cases h⟩
theorem Ki {b:Bool} {p:Prop} {A B:Prop} (hb:b=true↔p)(h1:¬p→A)(h2:p→B):Br (!b) A B:=by
 cases b with
 |true=>exact⟨fun h=>absurd h (by decide),fun _=>h2 (hb.1 rfl)⟩
 |false=>exact⟨fun _=>h1 fun hp=>(by have:=hb.2 hp;cases this),fun h=>absurd h (by decide)⟩
theorem brE {b:Bool} {p:Prop} {A B:Prop} (hb:b=true↔p)(h1:p→A)(h2:¬p→B):Br (b == true) A B:=by cases b<;>exact Cg (by simpa using hb) h1 h2
theorem Ao0(b:Bool)(p:Prop) {i:Decidable p} :((bif b then true else @decide p i)=true)↔(b=true∨p):=by cases b<;>simp
theorem A5z(p q:Prop) {i:Decidable p} {j:Decidable q} :((bif @decide p i then true else @decide q j)=true)↔(p∨q):=by by_cases p<;>by_cases q<;>simp_all
theorem N8(p q:Prop) {i:Decidable p} {j:Decidable q} :((bif @decide p i then @decide q j else false)=true)↔(p∧q):=by by_cases p<;>by_cases q<;>simp_all
theorem Bb {p:Prop} {i:Decidable p} :(@decide p i=true)↔p:=decide_eq_true_iff
theorem Gs(s:List UInt8)(i:Nat)(h:i<s.length):s.getD (Int.toNat (i:Int)) 0=s[i]:=by simp [List.getD_eq_getElem?_getD,h]
theorem Gj(i:Nat)(h:i≤1000000000000):IntKind.i64.wrap ((i:Int)+1)=((i+1:Nat):Int):=by rw [Av _ (by omega) (by omega)];simp
theorem wrA(i j:Nat)(h:i+j≤1000000000000):IntKind.i64.wrap ((i:Int)+(j:Int))=((i+j:Nat):Int):=by rw [Av _ (by omega) (by omega)];simp
theorem wrS(i j:Nat)(h:j≤i)(h2:i≤1000000000000):IntKind.i64.wrap ((i:Int) - (j:Int))=((i - j:Nat):Int):=by rw [Av _ (by omega) (by omega)];omega
theorem De {α:Type} (l:List α)(i:Nat)(h:i<l.length):l.drop i=l[i]::l.drop (i+1):=List.drop_eq_getElem_cons h
theorem brT {A B:Prop} (h:A):Br true A B:=⟨fun _=>h,fun h=>absurd h (by decide)⟩
theorem brF {A B:Prop} (h:B):Br false A B:=⟨fun h=>absurd h (by decide),fun _=>h⟩
theorem Azu {b:Bool} {A B:Prop} (hb:b=false)(h:A):Br (!b) A B:=by subst hb;exact brT h
theorem Azv {b:Bool} {A B:Prop} (hb:b=true)(h:B):Br (!b) A B:=by subst hb;exact brF h
theorem Vl(a:List UInt8)(c:UInt8):Aw a++[[IV.int .u8 (c.toNat:Int)]]=Aw (a++[c]):=by simp [Aw]
theorem Bz8:([]:List (List IV))=Aw []:=rfl
theorem Qa(a:List UInt8):(Aw a).length=a.length:=by simp [Aw]
theorem Zk(a:List UInt8):∀r∈Aw a,Be [.int .u8] r=true:=by
 intro r hr
 simp only [Aw,List.mem_map]at hr
 obtain⟨b,_,rfl⟩:=hr
 rfl
theorem Al5(a:List UInt8):List.map (fun r=>UInt8.ofNat (gI r 0).toNat) (Aw a)=a:=by
 induction a with
 |nil=>rfl
 |cons b a ih=>
  have e:UInt8.ofNat (gI [IV.int .u8 (b.toNat:Int)] 0).toNat=b:=by
   show UInt8.ofNat ((b.toNat:Int)).toNat=b
   simp
  have e2:Aw (b::a)=[.int .u8 (b.toNat:Int)]::Aw a:=rfl
  rw [e2,List.map_cons,e,ih]
theorem A9g(c:UInt8):rI (.imm (.int .u8 (c.toNat:Int)))=(c.toNat:Int):=rfl
theorem Bbg(f:UInt8→List UInt8)(s:List UInt8)(i:Nat)(h:i<s.length):(s.drop i).flatMap f=f s[i]++(s.drop (i+1)).flatMap f:=by
 rw [List.drop_eq_getElem_cons h];rfl
end Go.Proofs.Sim.Se
set_option maxRecDepth 100000
namespace Go.Proofs.Sim.Se
open Go Go.Proofs Go.Proofs.Sim Go.Proofs.Sim.Va Go.RowKit Go.Proofs.Sim.Pa
theorem Boj {α:Type} {P:α→Prop} (l:List α)(i:Nat)(h:i<l.length)(ha:∀x∈l.take i,P x)(hx:P l[i]):∀x∈l.take (i+1),P x:=by
 intro x h'
 rw [List.take_add_one]at h'
 rcases List.mem_append.1 h' with h' |h'
 ·exact ha x h'
 ·simp [h]at h';rw [h'];exact hx
theorem Ay4(a:Int):Call E0.P Nn [.imm (.int .u8 a)] [] (Is (.imm (.int .i64 (Vh a))) []):=by
 have key:∀(b:Bool) (Q:AV→Heap→Prop),Q (.imm (.int .i64 (if b=true then 0 else if a=40∨a=41∨a=60∨a=62∨a=91∨a=93∨a=123∨a=125∨a=47∨a=37 then 1 else 2))) []→Ht a b (El Q):=by
  intro b Q hq
  have one:∀ {n:Int},a=n→b=false→(n=40∨n=41∨n=60∨n=62∨n=91∨n=93∨n=123∨n=125∨n=47∨n=37)→Br (decide (a=n)) (El Q .ret ⟨[(2, .imm (.int .i64 1))],[]⟩) (El Q .normal ⟨[],[]⟩):=by
   intro n e hb hn
   refine Bh (fun _=> ?_) fun h=>absurd e h
   subst e
   rw [hb,if_neg (by decide),if_pos hn]at hq
   exact Aai _ _ hq
  refine A0x _ _ _ ⟨fun h=> ?_,fun h=> ?_⟩
  ·rw [h,if_pos rfl]at hq;exact Aai _ _ hq
  refine Bh (fun e=>one e h (by omega)) fun n1=>Bh (fun e=>one e h (by omega)) fun n2=>Bh (fun e=>one e h (by omega)) fun n3=>Bh (fun e=>one e h (by omega)) fun n4=>Bh (fun e=>one e h (by omega)) fun n5=>
   Bh (fun e=>one e h (by omega)) fun n6=>Bh (fun e=>one e h (by omega)) fun n7=>Bh (fun e=>one e h (by omega)) fun n8=>Bh (fun e=>one e h (by omega)) fun n9=>Bh (fun e=> ?_) fun n10=> ?_
  ·rw [h,if_neg (by decide),if_pos (by omega)]at hq
   exact Aai _ _ hq
  ·rw [h,if_neg (by decide),if_neg (by omega)]at hq
   exact A1o _ (Axl _ (A1n _ _ hq))
 have fin:∀(p:Prop) [Decidable p],((a=0∨a=9∨a=10∨a=12∨a=13∨a=32)↔p)→Ht a (decide p) (El (Is (.imm (.int .i64 (Vh a))) [])):=by
  intro p _ hp
  refine key _ _ ?_
  rw [Vh]
  by_cases h:p
  ·rw [if_pos (hp.2 h),if_pos (decide_eq_true h)];exact⟨rfl,rfl⟩
  ·rw [if_neg (fun h'=>h (hp.1 h')),if_neg (show ¬decide p=true by rw [decide_eq_false h];decide)];exact⟨rfl,rfl⟩
 refine A6s _ _ (Bh (fun e=>fin _ (by omega)) fun n1=>Bh (fun e=>fin _ (by omega)) fun n2=>Bh (fun e=>fin _ (by omega)) fun n3=>Bh (fun e=>fin _ (by omega)) fun n4=>Bh (fun e=>fin _ (by omega)) fun n5=>fin _ (by omega))
theorem Bqt(s:List UInt8)(a:Int)(hs:s.length≤1000000000)(Q:AV→Heap→Prop)(hq:Q (.imm (.bool (decide (∃c∈s,(c.toNat:Int)=a)))) []):∀(m i:Nat),m+i=s.length→(∀c∈s.take i,(c.toNat:Int)≠a)→Alm s a i (Alc Q):=by
 intro m
 induction m with
 |zero=>
  intro i hi ha
  refine Awb _ _ _ _ (Bh (fun h=>by omega) fun _=> ?_)
  rw [List.take_of_length_le (by omega)]at ha
  rw [decide_eq_false (fun⟨c,hc,e⟩=>ha c hc e)]at hq
  exact Bd7 _ (Bdq _ (Bd5 _ _ hq))
 |succ m ih=>
  intro i hi ha
  have hlt:i<s.length:=by omega
  refine Awb _ _ _ _ (Bh (fun _=>⟨⟨by omega,by omega⟩, ?_⟩) fun h=>by omega)
  rw [Gs s i hlt]
  refine Bh (fun e=> ?_) fun e=> ?_
  ·rw [decide_eq_true (⟨s[i],List.getElem_mem hlt,e⟩:∃c∈s,(c.toNat:Int)=a)]at hq
   exact Bd6 _ _ hq
  ·rw [show IntKind.i64.wrap ((i:Int)+1)=((i+1:Nat):Int)by rw [Av _ (by omega) (by omega)];simp]
   exact ih (i+1) (by omega) (Boj (P:=fun c:UInt8=>(c.toNat:Int)≠a) _ _ hlt ha e)
theorem A40(s:List UInt8)(a:Int)(hs:s.length≤1000000000):Call E0.P Aiy [.imm (.str s), .imm (.int .u8 a)] [] (Is (.imm (.bool (decide (∃c∈s,(c.toNat:Int)=a)))) []):=
 Bje _ _ _ (Bqt s a hs _ ⟨rfl,rfl⟩ s.length 0 rfl (by simp))
theorem Bl1(a:Int):Call E0.P Og [.imm (.int .u8 a)] [] (Is (.imm (.int .i64 (Vh a))) []):=by
 have fl:∀x y:Int,x=y↔y=x:=fun x y=>eq_comm
 refine Bds _ _ (Call.use (A40 _ a (by decide)) ⟨⟨rfl,rfl⟩,Cg (p:=a=0∨a=9∨a=10∨a=12∨a=13∨a=32) ?_ (fun h=> ?_) fun h=> ?_⟩)
 ·rw [Ll,decide_eq_true_iff];simp [fl _ a]
 ·rw [Vh,if_pos h];exact⟨rfl,rfl⟩
 ·refine Call.use (A40 _ a (by decide)) ⟨⟨rfl,rfl⟩,Cg (p:=a=40∨a=41∨a=60∨a=62∨a=91∨a=93∨a=123∨a=125∨a=47∨a=37) ?_ (fun h'=> ?_) fun h'=> ?_⟩
  ·rw [Ll,decide_eq_true_iff];simp [fl _ a]
  ·rw [Vh,if_neg h,if_pos h'];exact⟨rfl,rfl⟩
  ·rw [Vh,if_neg h,if_neg h'];exact⟨rfl,rfl⟩
theorem Bq1(c:UInt8):Call E0.P Nn [.imm (.int .u8 (c.toNat:Int))] [] (Is (.imm (.int .i64 (kd c))) []):=Ay4 _
theorem A8a(c:UInt8):Call E0.P Og [.imm (.int .u8 (c.toNat:Int))] [] (Is (.imm (.int .i64 (kd c))) []):=Bl1 _
theorem Bt6(c:UInt8):c.toNat<256:=c.toNat_lt
theorem Aa7(c:UInt8):Call E0.P Yg [.imm (.int .u8 (c.toNat:Int))] [] (Is (.imm (.int .i64 (Cb c))) []):=by
 have hc:=Bt6 c
 refine A9q _ _ (Let.intro (Cg (N8 _ _) (fun h=> ?_) fun h1=>Let.intro (Cg (N8 _ _) (fun h=> ?_) fun h2=>Let.intro (Cg (N8 _ _) (fun h=> ?_) fun h3=> ?_))))
 ·rw [wrap_u8 _ (by omega) (by omega),Av _ (by omega) (by omega)]
  unfold Cb;rw [if_pos (by omega)];exact⟨rfl,rfl⟩
 ·rw [wrap_u8 _ (by omega) (by omega),Av ((c.toNat:Int) - 65) (by omega) (by omega),Av _ (by omega) (by omega)]
  unfold Cb;rw [if_neg (by omega),if_pos (by omega),show(c.toNat:Int) - 65+10=(c.toNat:Int) - 55 by omega];exact⟨rfl,rfl⟩
 ·rw [wrap_u8 _ (by omega) (by omega),Av ((c.toNat:Int) - 97) (by omega) (by omega),Av _ (by omega) (by omega)]
  unfold Cb;rw [if_neg (by omega),if_neg (by omega),if_pos (by omega),show(c.toNat:Int) - 97+10=(c.toNat:Int) - 87 by omega];exact⟨rfl,rfl⟩
 ·unfold Cb;rw [if_neg (by omega),if_neg (by omega),if_neg (by omega)];exact⟨rfl,rfl⟩
def hxD(i:Nat):Nat:=if i<10 then 48+i else 55+i
def hxE(i:Nat):Nat:=if i<10 then 48+i else 87+i
def upX:List UInt8:=[48,49,50,51,52,53,54,55,56,57,65,66,67,68,69,70]
def loX:List UInt8:=[48,49,50,51,52,53,54,55,56,57,97,98,99,100,101,102]
theorem Bwz:∀i:Fin 16,(upX.getD i.val 0).toNat=hxD i.val:=by decide+kernel
theorem Bv5:∀i:Fin 16,(loX.getD i.val 0).toNat=hxE i.val:=by decide+kernel
theorem Br6(c:UInt8)(i:Nat)(hi:i<16)(h:hxD i=c.toNat∨hxE i=c.toNat):Cb c=i:=by
 unfold Cb hxD hxE at*
 by_cases h10:i<10
 ·rw [if_pos h10,if_pos h10]at h;rw [if_pos (by omega)];omega
 ·rw [if_neg h10,if_neg h10]at h
  rcases h with h |h
  ·rw [if_neg (by omega),if_pos (by omega)];omega
  ·rw [if_neg (by omega),if_neg (by omega),if_pos (by omega)];omega
theorem Bpc(c:UInt8)(h:∀i,i<16→hxD i≠c.toNat∧hxE i≠c.toNat):Cb c= -1:=by
 unfold Cb
 by_cases h1:48≤c.toNat∧c.toNat≤57
 ·have:=(h (c.toNat - 48) (by omega)).1;unfold hxD at this;rw [if_pos (by omega)]at this;omega
 rw [if_neg h1]
 by_cases h2:65≤c.toNat∧c.toNat≤70
 ·have:=(h (c.toNat - 55) (by omega)).1;unfold hxD at this;rw [if_neg (by omega)]at this;omega
 rw [if_neg h2]
 by_cases h3:97≤c.toNat∧c.toNat≤102
 ·have:=(h (c.toNat - 87) (by omega)).2;unfold hxE at this;rw [if_neg (by omega)]at this;omega
 rw [if_neg h3]
theorem Bn2(c:UInt8)(Q:AV→Heap→Prop)(hq:Q (.imm (.int .i64 (Cb c))) []):∀(m i:Nat),m+i=16→(∀j,j<i→hxD j≠c.toNat∧hxE j≠c.toNat)→Ahr (c.toNat:Int) upX loX i (Aho Q):=by
 intro m
 induction m with
 |zero=>
  intro i hi ha
  refine Asn _ _ _ _ _ (Bh (fun h=>by omega) fun _=> ?_)
  rw [Bpc c (fun j hj=>ha j (by omega))]at hq
  exact A98 _ (A6e _ (A96 _ _ hq))
 |succ m ih=>
  intro i hi ha
  have e1:(upX.getD (Int.toNat (i:Int)) 0).toNat=hxD i:=Bwz ⟨i,by omega⟩
  have e2:(loX.getD (Int.toNat (i:Int)) 0).toNat=hxE i:=Bv5 ⟨i,by omega⟩
  refine Asn _ _ _ _ _ (Bh (fun _=>⟨⟨by omega,by show(i:Int)<((16:Nat):Int);omega⟩,⟨fun _=>⟨by omega,by show(i:Int)<((16:Nat):Int);omega⟩, ?_⟩⟩) fun h=>by omega)
  rw [e1,e2]
  refine Let.intro (Cg (A5z _ _) (fun h=> ?_) fun h=> ?_)
  ·rw [Br6 c i (by omega) (by omega)]at hq
   exact A97 _ _ hq
  ·rw [Gj i (by omega)]
   refine ih (i+1) (by omega) fun j hj=> ?_
   by_cases e:j=i
   ·subst e;omega
   ·exact ha j (by omega)
theorem Ais(c:UInt8):Call E0.P Rh [.imm (.int .u8 (c.toNat:Int))] [] (Is (.imm (.int .i64 (Cb c))) []):=
 Bfp _ _ (Bn2 c _ ⟨rfl,rfl⟩ 16 0 rfl (fun j hj=>by omega))
theorem Bf9(s:List UInt8)(a:Nat):Call E0.P Xj [.imm (.str s), .imm (.int .i64 (a:Int))] [] (Is (.imm (.bool (decide (a<s.length)))) []):=by
 refine A1j _ _ _ (Let.intro ⟨?_,rfl⟩)
 by_cases h:a<s.length
 ·rw [show(bif decide ((0:Int)≤(a:Int))then decide ((a:Int)<(s.length:Int))else false)=true from (N8 _ _).2 ⟨by omega,by omega⟩,decide_eq_true h]
 ·rw [show(bif decide ((0:Int)≤(a:Int))then decide ((a:Int)<(s.length:Int))else false)=false from Bool.eq_false_iff.2 fun h'=>h (by have:=((N8 _ _).1 h').2;omega),decide_eq_false h]
theorem Bow(s:List UInt8)(a:Nat)(h:a<s.length):Qg (s.drop a)=if s[a].toNat=10 then 1 else if s[a].toNat=13 then(if h:a+1<s.length then(if s[a+1].toNat=10 then 2 else 1)else 1)else 0:=by
 rw [De s a h,Aoe]
 split
 ·rfl
 ·split
  ·by_cases h2:a+1<s.length
   ·rw [De s (a+1) h2,dif_pos h2]
   ·rw [List.drop_eq_nil_of_le (by omega),dif_neg h2]
  ·rfl
theorem An6(s:List UInt8)(hs:s.length≤1000000000)(a:Nat):Call E0.P Qq [.imm (.str s), .imm (.int .i64 (a:Int))] [] (Is (.imm (.int .i64 (Qg (s.drop a):Nat))) []):=by
 refine A6r _ _ _ (Call.use (Bf9 s a) ⟨⟨rfl,rfl⟩,Ki (p:=a<s.length) (by rw [Ll,Bb]) (fun h=> ?_) fun h=> ?_⟩)
 ·rw [List.drop_eq_nil_of_le (by omega)];exact⟨rfl,rfl⟩
 rw [Gs s a h,Bow s a h]
 refine⟨⟨by omega,by omega⟩,Bh (fun e=> ?_) fun e=>⟨⟨by omega,by omega⟩,Ki Bb (fun e2=> ?_) fun e2=>⟨fun h'=> ?_,Let.intro (Cg (N8 _ _) (fun h'=> ?_) fun h'=> ?_)⟩⟩⟩
 ·rw [if_pos (by omega)];exact⟨rfl,rfl⟩
 ·rw [if_neg (by omega),if_neg (by omega)];exact⟨rfl,rfl⟩
 ·have:=of_decide_eq_true h'
  rw [Gj a (by omega)]at this ⊢
  omega
 ·rw [Gj a (by omega)]at h'
  have h2:a+1<s.length:=by have:=h'.1;omega
  rw [Gs s (a+1) h2]at h'
  rw [if_neg (by omega),if_pos (by omega),dif_pos h2,if_pos (by omega)];exact⟨rfl,rfl⟩
 ·rw [Gj a (by omega)]at h'
  rw [if_neg (by omega),if_pos (by omega)]
  by_cases h2:a+1<s.length
  ·rw [Gs s (a+1) h2]at h'
   rw [dif_pos h2,if_neg (fun e3=>h' ⟨by omega,by omega⟩)];exact⟨rfl,rfl⟩
  ·rw [dif_neg h2];exact⟨rfl,rfl⟩
theorem Brw(l:List UInt8)(h:1<l.length):(List.take 2 l == [13,10])=true↔l[0].toNat=13∧l[1].toNat=10:=by
 obtain⟨x,y,r,rfl⟩:∃x y r,l=x::y::r:=by
  rcases l with _ |⟨x,_ |⟨y,r⟩⟩
  ·simp at h
  ·simp at h
  ·exact⟨x,y,r,rfl⟩
 have e:∀(c:UInt8) (n:Nat) (hn:n<256),c=UInt8.ofNat n↔c.toNat=n:=fun c n hn=>⟨fun h=>by rw [h];exact UInt8.toNat_ofNat_of_lt' hn,fun h=>UInt8.toNat_inj.1 (by rw [h];exact(UInt8.toNat_ofNat_of_lt' hn).symm)⟩
 have e1:=e x 13 (by omega)
 have e2:=e y 10 (by omega)
 simp only [List.take_succ_cons,List.take_zero,beq_iff_eq,List.cons.injEq,and_true,List.getElem_cons_zero,List.getElem_cons_succ]
 rw [←e1, ←e2]
 exact Iff.rfl
theorem A79(s:List UInt8)(_hs:s.length≤1000000000)(a:Nat):Call E0.P Ah0 [.imm (.str s), .imm (.int .i64 (a:Int))] [] (Is (.imm (.int .i64 (Qg (s.drop a):Nat))) []):=by
 refine Bdr _ _ _ (Let.intro (Cg (A5z _ _) (fun h=> ?_) fun h=>⟨by omega,Let.intro ?_⟩))
 ·rw [List.drop_eq_nil_of_le (by omega)];exact⟨rfl,rfl⟩
 have h:a<s.length:=by omega
 rw [Int.toNat_natCast]
 have hl:(s.drop a).length=s.length - a:=List.length_drop ..
 have h0:(s.drop a).getD 0 0=s[a]:=by rw [De s a h];rfl
 refine⟨fun h'=>by have:=of_decide_eq_true h';omega,Let.intro (Let.intro ?_)⟩
 rw [Bow s a h]
 have key:(bif decide ((1:Int)<((s.drop a).length:Int))then List.take 2 (s.drop a) == [13,10]else false)=true↔∃h2:a+1<s.length,s[a].toNat=13∧s[a+1].toNat=10:=by
  by_cases h2:a+1<s.length
  ·rw [decide_eq_true (show(1:Int)<((s.drop a).length:Int)by omega)]
   simp only [cond_true]
   rw [Brw _ (by omega)]
   simp [h2]
  ·rw [decide_eq_false (show ¬(1:Int)<((s.drop a).length:Int)by omega)]
   simp [h2]
 refine Cg key (fun⟨h2,e1,e2⟩=> ?_) fun hn=>⟨⟨by omega,by omega⟩,Call.use (A40 _ _ (by decide)) ⟨⟨rfl,rfl⟩,Cg (p:=s[a].toNat=13∨s[a].toNat=10) (by rw [Ll,Bb,h0];simp;omega) (fun h'=> ?_) fun h'=> ?_⟩⟩
 ·rw [if_neg (by omega),if_pos e1,dif_pos h2,if_pos e2];exact⟨rfl,rfl⟩
 ·by_cases e:s[a].toNat=10
  ·rw [if_pos e];exact⟨rfl,rfl⟩
  ·rw [if_neg e,if_pos (by omega)]
   by_cases h2:a+1<s.length
   ·rw [dif_pos h2,if_neg (fun e3=>hn ⟨h2,by omega,e3⟩)];exact⟨rfl,rfl⟩
   ·rw [dif_neg h2];exact⟨rfl,rfl⟩
 ·rw [if_neg (by omega),if_neg (by omega)];exact⟨rfl,rfl⟩
theorem A9c(k:Int):(0:Int)≤0∧(0:Int)<(([[IV.int .i64 k]]:List (List IV)).length:Int):=⟨by decide,by simp⟩
theorem Bwe(k:Int):¬(1:Int)<(([[IV.int .i64 k]]:List (List IV)).length:Int):=by simp
theorem Bst(k:Int):¬IntKind.i64.wrap (0+1)<(([[IV.int .i64 k]]:List (List IV)).length:Int):=by
 rw [Av _ (by omega) (by omega)];simp
theorem Bdg(k:Int)(s:List UInt8)(a:Nat)(h:a<s.length):Cf k (s.drop a)=if kd s[a]=k then Cf k (s.drop (a+1))+1 else 0:=by
 rw [De s a h,Cf]
theorem A57(k:Int)(s:List UInt8)(a:Nat)(h:¬a<s.length):Cf k (s.drop a)=0:=by
 rw [List.drop_eq_nil_of_le (by omega)];rfl
theorem Ahn(k:Int):∀l:List UInt8,Cf k l≤l.length
 | []=>Nat.le_refl _
 |c::r=>by
  rw [Cf]
  split
  ·have:=Ahn k r;simp;omega
  ·omega
theorem Bfx(k:Int)(s:List UInt8)(hs:s.length≤1000000000)(a:Nat)(ha:a≤s.length)(Q:AV→Heap→Prop)(hq:Q (.imm (.int .i64 (Cf k (s.drop a):Nat))) []):∀(m i:Nat),m+(a+i)=s.length→Cf k (s.drop a)=i+Cf k (s.drop (a+i))→
 Y8 s a [[.int .i64 k]] i (Agm Q):=by
 intro m
 induction m with
 |zero=>
  intro i hi he
  refine Akv _ _ _ _ _ ?_
  rw [wrS s.length a (by omega) (by omega)]
  refine Bh (fun h=>by omega) fun _=>Aks _ _ (Aic _ _ (Akr _ _ ?_))
  rw [A57 k s (a+i) (by omega)]at he
  rw [he]at hq;exact hq
 |succ m ih=>
  intro i hi he
  have hlt:a+i<s.length:=by omega
  refine Akv _ _ _ _ _ ?_
  rw [wrS s.length a (by omega) (by omega)]
  refine Bh (fun h=> ?_) fun h=>by omega
  refine Aio _ _ _ _ _ _ _ _ (Bh (fun _=>⟨⟨A9c k,rfl⟩, ?_⟩) fun h=>absurd (A9c k).2 h)
  rw [wrA a i (by omega)]
  refine⟨⟨by omega,by omega⟩, ?_⟩
  rw [Gs s (a+i) hlt]
  refine Call.use (Bq1 _) ⟨⟨rfl,rfl⟩, ?_⟩
  rw [Cx,show gI ([[IV.int .i64 k]].getD (Int.toNat 0) []) 0=k from rfl]
  rw [Bdg k s (a+i) hlt]at he
  refine Bh (fun e=> ?_) fun e=> ?_
  ·refine A1r _ _ _ _ _ (Axn _ _ _ _ _ (A1p _ _ _ _ _ ?_))
   rw [Gj i (by omega)]
   rw [if_pos e]at he
   exact ih (i+1) (by omega) (by rw [show a+(i+1)=a+i+1 by omega];omega)
  ·refine Aio _ _ _ _ _ _ _ _ (Bh (fun h=>absurd h (Bst k)) fun _=> ?_)
   refine A1s _ _ (Axm _ _ (A1q _ _ (Aks _ _ (Aic _ _ (Akr _ _ ?_)))))
   rw [if_neg e]at he
   rw [he]at hq;exact hq
theorem Aeq(k:Int)(s:List UInt8)(hs:s.length≤1000000000)(a:Nat)(ha:a≤s.length):Call E0.P Vx [.imm (.str s), .imm (.int .i64 (a:Int)), .imm (.sl .any 1 [[.int .i64 k]])] [] (Is (.imm (.int .i64 (Cf k (s.drop a):Nat))) []):=by
 refine A6t _ _ _ _ (Call.use (Bf9 s a) ⟨⟨rfl,rfl⟩,Ki (p:=a<s.length) (by rw [Ll,Bb]) (fun h=> ?_) fun h=> ?_⟩)
 ·rw [A57 k s a h];exact⟨rfl,rfl⟩
 ·exact Bfx k s hs a ha _ ⟨rfl,rfl⟩ (s.length - a) 0 (by omega) (by simp)
theorem Blt(k:Int)(s:List UInt8)(hs:s.length≤1000000000)(a:Nat)(ha:a≤s.length)(Q:AV→Heap→Prop)(hq:Q (.imm (.int .i64 (Cf k (s.drop a):Nat))) []):∀(m i:Nat),m+(a+i)=s.length→Cf k (s.drop a)=i+Cf k (s.drop (a+i))→
 Ael s [[.int .i64 k]] i ((a+i:Nat):Int) (Xx Q):=by
 intro m
 induction m with
 |zero=>
  intro i hi he
  refine Ap2 _ _ _ _ _ (Bh (fun h=>by omega) fun _=>A63 _ _ (A2s _ _ (A62 _ _ ?_)))
  rw [A57 k s (a+i) (by omega)]at he
  rw [he]at hq;exact hq
 |succ m ih=>
  intro i hi he
  have hlt:a+i<s.length:=by omega
  have out:∀b:Bool,(b=true↔kd s[a+i]=k)→Abt s [[.int .i64 k]] i ((a+i:Nat):Int) b 1 (Am6 (Xx Q)):=by
   intro b hb
   rw [Bdg k s (a+i) hlt]at he
   refine Anz _ _ _ _ _ _ _ (Bh (fun h=>absurd h (Bwe k)) fun _=>A68 _ _ _ _ _ _ (A2q _ _ _ _ _ _ (Ki hb (fun e=> ?_) fun e=> ?_)))
   ·refine A66 _ _ (A64 _ _ ?_)
    rw [if_neg e]at he
    rw [he]at hq;exact hq
   ·refine A67 _ _ _ _ _ (A2r _ _ _ _ _ (A65 _ _ _ _ _ ?_))
    rw [Gj i (by omega),Gj (a+i) (by omega)]
    rw [if_pos e]at he
    exact ih (i+1) (by omega) (by rw [show a+(i+1)=a+i+1 by omega];omega)
  refine Ap2 _ _ _ _ _ (Bh (fun h=> ?_) fun h=>by omega)
  refine Anz _ _ _ _ _ _ _ (Bh (fun _=>brF ⟨⟨by omega,by omega⟩,⟨⟨A9c k,rfl⟩, ?_⟩⟩) fun h=>absurd (A9c k).2 h)
  rw [Gs s (a+i) hlt]
  refine Call.use (A8a _) ⟨⟨rfl,rfl⟩,Let.intro ?_⟩
  exact A2p _ _ _ _ _ _ _ (A69 _ _ _ _ _ _ _ (out _ Bb))
theorem Bl2(k:Int)(s:List UInt8)(hs:s.length≤1000000000)(a:Nat)(ha:a≤s.length):Call E0.P Aq9 [.imm (.str s), .imm (.int .i64 (a:Int)), .imm (.sl .any 1 [[.int .i64 k]])] [] (Is (.imm (.int .i64 (Cf k (s.drop a):Nat))) []):=
 Bdt _ _ _ _ (Bh (fun h=>by omega) fun _=>Blt k s hs a ha _ ⟨rfl,rfl⟩ (s.length - a) 0 (by omega) (by simp))
end Go.Proofs.Sim.Se
set_option maxRecDepth 100000
namespace Go.Proofs.Sim.Se
open Go Go.Proofs Go.Proofs.Sim Go.Proofs.Sim.Va Go.RowKit Go.Proofs.Sim.Pa
def Ab8:List UInt8→Nat
 | []=>0
 |c::r=>if c.toNat=10∨c.toNat=13 then 0 else Ab8 r+1
theorem kd0 {c:UInt8} (h:kd c=0):c.toNat=0∨c.toNat=9∨c.toNat=10∨c.toNat=12∨c.toNat=13∨c.toNat=32:=by
 unfold kd Vh at h
 by_cases h1:(c.toNat:Int)=0∨(c.toNat:Int)=9∨(c.toNat:Int)=10∨(c.toNat:Int)=12∨(c.toNat:Int)=13∨(c.toNat:Int)=32
 ·omega
 ·rw [if_neg h1]at h
  split at h<;>omega
theorem B0h {c:UInt8} (h:kd c≠0):c.toNat≠10∧c.toNat≠13:=by
 refine⟨fun e=>h ?_,fun e=>h ?_⟩<;>unfold kd Vh<;>rw [if_pos (by omega)]
theorem Az4:∀l:List UInt8,Gl false l=Cf 0 l+Gl false (l.drop (Cf 0 l))
 | []=>rfl
 |c::r=>by
  rw [Cf]
  by_cases h:kd c=0
  ·rw [if_pos h,Gl,List.drop_succ_cons]
   have hn:Kz false c=false:=by
    have:=kd0 h
    unfold Kz;split
    ·rfl
    ·rw [if_neg (by omega)]
   rw [hn,if_neg (fun h'=>h'.2 h),Az4 r];omega
  ·rw [if_neg h];simp
theorem Bdf:∀l:List UInt8,Gl true l=Ab8 l+Gl false (l.drop (Ab8 l))
 | []=>rfl
 |c::r=>by
  rw [Ab8]
  by_cases h:c.toNat=10∨c.toNat=13
  ·rw [if_pos h]
   have e:∀b,Kz b c=false:=fun b=>by unfold Kz;rw [if_pos h]
   simp only [Gl,e,List.drop_zero,Nat.zero_add]
  ·rw [if_neg h,Gl,List.drop_succ_cons]
   have e:Kz true c=true:=by
    unfold Kz;rw [if_neg h];split<;>rfl
   rw [e,if_neg (fun h'=>by cases h'.1),Bdf r];omega
theorem Bwn {c:UInt8} (h:c.toNat=37)(r:List UInt8):Gl false (c::r)=Gl true (c::r):=by
 have e:∀b,Kz b c=true:=fun b=>by unfold Kz;rw [if_neg (by omega),if_pos h]
 simp only [Gl,e]
theorem Bqb {c:UInt8} (h:kd c≠0)(h2:c.toNat≠37)(r:List UInt8):Gl false (c::r)=0:=by
 have e:Kz false c=false:=by
  unfold Kz
  rw [if_neg (by have:=B0h h;omega),if_neg h2]
 rw [Gl,e,if_pos ⟨rfl,h⟩]
theorem Bdh(k:Int):∀(l:List UInt8) (c:UInt8) (r:List UInt8),l.drop (Cf k l)=c::r→kd c≠k
 | [],c,r,h=>by simp [Cf]at h
 |x::l,c,r,h=>by
  rw [Cf]at h
  by_cases hx:kd x=k
  ·rw [if_pos hx,List.drop_succ_cons]at h
   exact Bdh k l c r h
  ·rw [if_neg hx,List.drop_zero]at h
   injection h with h1 h2
   subst h1;exact hx
theorem Bbn:∀l:List UInt8,Ab8 l≤l.length
 | []=>Nat.le_refl _
 |c::r=>by
  rw [Ab8]
  split
  ·omega
  ·have:=Bbn r;simp;omega
theorem Bln:∀(b:Bool) (l:List UInt8),Gl b l≤l.length
 |_,[]=>Nat.le_refl _
 |b,c::r=>by
  rw [Gl]
  split
  ·omega
  ·have:=Bln (Kz b c) r;simp;omega
theorem B0g(c:UInt8)(r:List UInt8):Qg (c::r)=0↔¬(c.toNat=10∨c.toNat=13):=by
 rw [Aoe]
 by_cases h1:c.toNat=10
 ·rw [if_pos h1];simp [h1]
 ·rw [if_neg h1]
  by_cases h2:c.toNat=13
  ·rw [if_pos h2]
   rcases r with _ |⟨d,r⟩
   ·simp [h2]
   ·simp only [h2];split<;>simp
  ·rw [if_neg h2];simp [h1,h2]
theorem Bkz(s:List UInt8)(hs:s.length≤1000000000)(K:Ex→St→Prop)(e:Nat)(hk:K (.exit 0) ⟨[(0, .imm (.str s)),(1, .imm (.int .i64 (e:Int)))],[]⟩):∀(m q:Nat),m+q=s.length→e=q+Ab8 (s.drop q)→Ta s q K:=by
 intro m
 induction m with
 |zero=>
  intro q hq he
  rw [List.drop_eq_nil_of_le (by omega)]at he
  have:e=q:=he
  subst this
  refine Ak2 _ _ _ (brE Bb (fun h=>by omega) fun _=>⟨rfl,Let.intro (brF hk)⟩)
 |succ m ih=>
  intro q hq he
  have hlt:q<s.length:=by omega
  refine Ak2 _ _ _ (brE Bb (fun _=>Call.use (An6 s hs q) ⟨⟨rfl,rfl⟩,Let.intro ?_⟩) fun h=>by omega)
  rw [Cx]
  rw [De s q hlt,Ab8]at he
  refine Cg (p:=¬(s[q].toNat=10∨s[q].toNat=13)) (by rw [Bb, ←B0g s[q] (s.drop (q+1)), ←De s q hlt];omega) (fun h=> ?_) fun h=> ?_
  ·refine A1b _ _ _ (A11 _ _ _ ?_)
   rw [Gj q (by omega)]
   rw [if_neg h]at he
   exact ih (q+1) (by omega) (by omega)
  ·rw [if_pos (Classical.not_not.1 h)]at he
   have:e=q:=he
   subst this;exact hk
theorem Bnh(s:List UInt8)(q:Nat):(decide ((q:Int)<(s.length:Int))=true→(0:Int)≤(q:Int)∧(q:Int)<(s.length:Int)):=fun h=>⟨by omega,of_decide_eq_true h⟩
theorem Bir(s:List UInt8)(q:Nat):((bif decide ((q:Int)<(s.length:Int))then decide (((s.getD (Int.toNat (q:Int)) 0).toNat:Int)=37)else false)=true)↔∃h:q<s.length,s[q].toNat=37:=by
 rw [N8]
 constructor
 ·rintro⟨h1,h2⟩
  have h:q<s.length:=by omega
  rw [Gs s q h]at h2
  exact⟨h,by omega⟩
 ·rintro⟨h,h2⟩
  rw [Gs s q h]
  exact⟨by omega,by omega⟩
theorem A56(s:List UInt8)(p:Nat)(h:¬ ∃h:p+Cf 0 (s.drop p)<s.length,s[p+Cf 0 (s.drop p)].toNat=37):p+Gl false (s.drop p)=p+Cf 0 (s.drop p):=by
 rw [Az4,List.drop_drop]
 by_cases hq:p+Cf 0 (s.drop p)<s.length
 ·have hst:=Bdh 0 (s.drop p) s[p+Cf 0 (s.drop p)] (s.drop (p+Cf 0 (s.drop p)+1)) (by rw [List.drop_drop,De s _ hq])
  rw [De s _ hq,Bqb hst (fun e=>h ⟨hq,e⟩)];omega
 ·have e:s.drop (p+Cf 0 (s.drop p))=[]:=List.drop_eq_nil_of_le (by omega)
  rw [e];rfl
theorem Blm(s:List UInt8)(p:Nat)(h:p+Cf 0 (s.drop p)<s.length)(h2:s[p+Cf 0 (s.drop p)].toNat=37):
 p+Gl false (s.drop p)=(p+Cf 0 (s.drop p)+Ab8 (s.drop (p+Cf 0 (s.drop p))))+Gl false (s.drop (p+Cf 0 (s.drop p)+Ab8 (s.drop (p+Cf 0 (s.drop p))))):=by
 have e1:=Az4 (s.drop p)
 rw [List.drop_drop]at e1
 have e2:=Bdf (s.drop (p+Cf 0 (s.drop p)))
 rw [List.drop_drop]at e2
 have e3:Gl false (s.drop (p+Cf 0 (s.drop p)))=Gl true (s.drop (p+Cf 0 (s.drop p))):=by
  rw [De s _ h];exact Bwn h2 _
 omega
theorem Bsi(s:List UInt8)(q:Nat)(h:q<s.length)(h2:s[q].toNat=37):0<Ab8 (s.drop q):=by
 rw [De s q h,Ab8,if_neg (by omega)];omega
theorem Bra(s:List UInt8)(hs:s.length≤1000000000)(Q:AV→Heap→Prop)(e:Nat)(hk:Q (.imm (.int .i64 (e:Int))) []):∀(m p:Nat),s.length - p≤m→p≤s.length→e=p+Gl false (s.drop p)→Zg s p (Ol Q):=by
 intro m
 induction m with
 |zero=>
  intro p hm hp he
  have hW:=Ahn 0 (s.drop p)
  rw [List.length_drop]at hW
  refine Ak4 _ _ _ (Call.use (Aeq 0 s hs p hp) ⟨⟨rfl,rfl⟩, ?_⟩)
  rw [Cx,wrA p _ (by omega)]
  refine⟨Bnh _ _,Let.intro (Cg (Bir _ _) (fun⟨h,_⟩=>by omega) fun h=> ?_)⟩
  rw [A56 s p h]at he
  subst he
  exact Xr _ _ (Aku _ _ (Akt _ _ hk))
 |succ m ih=>
  intro p hm hp he
  have hW:=Ahn 0 (s.drop p)
  rw [List.length_drop]at hW
  refine Ak4 _ _ _ (Call.use (Aeq 0 s hs p hp) ⟨⟨rfl,rfl⟩, ?_⟩)
  rw [Cx,wrA p _ (by omega)]
  refine⟨Bnh _ _,Let.intro (Cg (Bir _ _) (fun⟨h,h2⟩=> ?_) fun h=> ?_)⟩
  ·have hl:=Bbn (s.drop (p+Cf 0 (s.drop p)))
   rw [List.length_drop]at hl
   have hpos:=Bsi s _ h h2
   refine Bkz s hs _ _ (A13 _ _ _ (Aid _ _ _ (A12 _ _ _ ?_))) _ _ (Nat.sub_add_cancel (Nat.le_of_lt h)) rfl
   exact ih _ (by omega) (by omega) (he.trans (Blm s p h h2))
  ·rw [A56 s p h]at he
   subst he
   exact Xr _ _ (Aku _ _ (Akt _ _ hk))
theorem Yn(s:List UInt8)(a:Int):Lp s a≤s.length:=by unfold Lp;split<;>(try split)<;>omega
theorem By3(s:List UInt8)(a:Int):(if(if(s.length:Int)<a then(s.length:Int)else a)>0 then(if(s.length:Int)<a then(s.length:Int)else a)else 0)=((Lp s a:Nat):Int):=by
 unfold Lp
 by_cases h1:(s.length:Int)<a
 ·rw [if_pos h1,if_pos h1]
  by_cases h2:a<0
  ·omega
  ·rw [if_neg h2];split<;>omega
 ·rw [if_neg h1]
  by_cases h2:a<0
  ·rw [if_pos h2,if_neg (by omega)];rfl
  ·rw [if_neg h2,if_neg h1];split<;>omega
theorem Bf8(s:List UInt8)(hs:s.length≤1000000000)(a:Int):Call E0.P Akd [.imm (.str s), .imm (.int .i64 a)] [] (Is (.imm (.int .i64 (Dp s a:Nat))) []):=by
 refine A6x _ _ _ ?_
 rw [By3]
 have hp:=Yn s a
 unfold Dp
 generalize Lp s a=p at*
 have hW:=Ahn 0 (s.drop p)
 rw [List.length_drop]at hW
 refine Call.use (Aeq 0 s hs p hp) ⟨⟨rfl,rfl⟩, ?_⟩
 rw [Cx,wrA p _ (by omega)]
 refine⟨Bnh _ _,Let.intro (Cg (Bir _ _) (fun⟨h,h2⟩=> ?_) fun h=> ?_)⟩
 ·have hl:=Bbn (s.drop (p+Cf 0 (s.drop p)))
  rw [List.length_drop]at hl
  refine Bkz s hs _ _ (A10 _ _ _ (Aid _ _ _ (A1z _ _ _ ?_))) _ _ (Nat.sub_add_cancel (Nat.le_of_lt h)) rfl
  exact Bra s hs _ _ ⟨rfl,rfl⟩ _ _ (Nat.le_refl _) (by omega) (Blm s p h h2)
 ·rw [A56 s p h]
  exact Xr _ _ (A1y _ _ ⟨rfl,rfl⟩)
theorem Bup(s:List UInt8)(hs:s.length≤1000000000)(Q:AV→Heap→Prop)(e:Nat)(hk:Q (.imm (.int .i64 (e:Int))) []):∀(m i:Nat) (b:Bool),m+i=s.length→e=i+Gl b (s.drop i)→X5 s b i (O1 Q):=by
 intro m
 induction m with
 |zero=>
  intro i b hi he
  rw [List.drop_eq_nil_of_le (by omega)]at he
  have he:e=i:=he
  refine Aem _ _ _ _ (Bh (fun h=>by omega) fun _=>Apw _ _ (Aml _ _ (Apv _ _ ?_)))
  rw [show s.length=e by omega];exact hk
 |succ m ih=>
  intro i b hi he
  have hlt:i<s.length:=by omega
  rw [De s i hlt,Gl]at he
  have step:∀n:Bool,n=Kz b s[i]→Xp s n i (O3 (O1 Q)):=by
   intro n hn
   have nx:¬(Kz b s[i]=false∧kd s[i]≠0)→Abj s n i false (Xz (O3 (O1 Q))):=by
    intro h
    rw [if_neg h]at he
    refine Amk _ _ _ _ _ (brF (A7f _ _ _ _ (A7d _ _ _ _ (A2x _ _ _ _ (A7b _ _ _ _ ?_)))))
    rw [Gj i (by omega)]
    exact ih (i+1) n (by omega) (by rw [hn];omega)
   refine A6g _ _ _ _ ⟨fun _=>⟨by omega,by omega⟩, ?_⟩
   rw [Gs s i hlt]
   refine brE (p:=n=false) (by cases n<;>simp) (fun h0=>Call.use (A8a _) ⟨⟨rfl,rfl⟩,Let.intro ?_⟩) fun h0=>⟨rfl,Let.intro (nx fun h=>h0 (by rw [hn];exact h.1))⟩
   rw [Cx]
   by_cases hz:kd s[i]=0
   ·rw [decide_eq_true hz];exact nx fun h=>h.2 hz
   ·rw [decide_eq_false hz]
    rw [if_pos ⟨by rw [←hn];exact h0,hz⟩]at he
    have he:e=i:=he
    subst he
    exact Amk _ _ _ _ _ (brT (A7e _ _ (A7c _ _ (A7a _ _ hk))))
  refine Aem _ _ _ _ (Bh (fun _=>⟨⟨by omega,by omega⟩,⟨fun _=>⟨by omega,by omega⟩,Let.intro ?_⟩⟩) fun h=>by omega)
  rw [Gs s i hlt]
  refine Cg (A5z _ _) (fun h=>step _ ?_) fun h=>⟨⟨by omega,by omega⟩,Bh (fun h2=>step _ ?_) fun h2=>step _ ?_⟩
  ·unfold Kz;rw [if_pos (by omega)]
  ·unfold Kz;rw [if_neg (by omega),if_pos (by omega)]
  ·unfold Kz;rw [if_neg (by omega),if_neg (by omega)]
theorem Bjh(s:List UInt8)(b:Bool)(i:Int)(hi:(s.length:Int)<i)(Q:AV→Heap→Prop)(hk:Q (.imm (.int .i64 (s.length:Int))) []):X5 s b i (O1 Q):=
 Aem _ _ _ _ (Bh (fun h=>by omega) fun _=>Apw _ _ (Aml _ _ (Apv _ _ hk)))
theorem Bl3(s:List UInt8)(hs:s.length≤1000000000)(a:Int):Call E0.P Ara [.imm (.str s), .imm (.int .i64 a)] [] (Is (.imm (.int .i64 (Dp s a:Nat))) []):=by
 refine Bdv _ _ _ ?_
 by_cases h:(s.length:Int)<a
 ·rw [if_pos (show a>0 by omega)]
  refine Bjh s _ _ h _ ?_
  have e:Dp s a=s.length:=by
   unfold Dp Lp
   rw [if_neg (by omega),if_pos h,List.drop_length];rfl
  rw [e];exact⟨rfl,rfl⟩
 ·have e:(if a>0 then a else 0)=((Lp s a:Nat):Int):=by
   unfold Lp;rw [if_neg h];split<;>split<;>omega
  rw [e]
  have hp:=Yn s a
  exact Bup s hs _ _ ⟨rfl,rfl⟩ (s.length - Lp s a) _ _ (by omega) rfl
theorem A55(s:List UInt8)(a:Int):Dp s a≤s.length:=by
 unfold Dp
 have h1:=Yn s a
 have h2:=Bln false (s.drop (Lp s a))
 rw [List.length_drop]at h2
 omega
end Go.Proofs.Sim.Se
set_option maxRecDepth 100000
namespace Go.Proofs.Sim.Se
open Go Go.Proofs Go.Proofs.Sim Go.Proofs.Sim.Va Go.RowKit Go.Proofs.Sim.Pa
abbrev Xn(s:List UInt8)(a:Int)(rows:LL):Heap:=[(Nm.arg 0, .blk Ad [.imm (.str s), .imm (.int .i64 a), .own (Nm.arg 1)]),(Nm.arg 1, .arr (Am+2) true 1 rows)]
abbrev Bi8(k n:Int)(t:List UInt8)(x y e:Int):AV:= .tup [.imm (.agg [.int .i64 k, .int .i64 n, .str t, .int .i64 x, .int .i64 y]), .imm (.int .i64 e)]
abbrev okA(c:Int)(b:Bool):AV:= .tup [.imm (.int .u8 c), .imm (.bool b)]
def ScQ(s:List UInt8)(k:Int)(x:Part):AV→Heap→Prop:=fun r h=>∃(a:Nat) (l:List UInt8),h=Xn s a (Aw l)∧r=Bi8 (if x.2.2=0 then k else 0) 0 x.1 0 0 x.2.2∧(x.2.2=0→a=x.2.1)∧(x.2.2≠0→x.1=[])
theorem Ahl {s:List UInt8} {k e:Int} {a:Nat} {l:List UInt8} (he:e≠0):ScQ s k ([],0,e) (Bi8 0 0 [] 0 0 e) (Xn s a (Aw l)):=⟨a,l,rfl,by rw [if_neg he],fun h=>absurd h he,fun _=>rfl⟩
theorem Bi1 {s:List UInt8} {k:Int} {a:Nat} {l t:List UInt8} :ScQ s k (t,a,0) (Bi8 k 0 t 0 0 0) (Xn s a (Aw l)):=⟨a,l,rfl,by rw [if_pos rfl],fun _=>rfl,fun h=>absurd rfl h⟩
theorem wr2(i:Nat)(h:i≤1000000000000):IntKind.i64.wrap ((i:Int)+2)=((i+2:Nat):Int):=by rw [Av _ (by omega) (by omega)];simp
theorem Buh(i:Nat)(h:i≤1000000000000):IntKind.i64.wrap (i:Int)=(i:Int):=Av _ (by omega) (by omega)
theorem Ai0(c:UInt8): -1≤Cb c∧Cb c≤15:=by
 unfold Cb;split
 ·omega
 ·split
  ·omega
  ·split<;>omega
theorem Bv8:∀h l:Fin 16,IntKind.u8.wrap (IntKind.i64.wrap (↑(BitVec.ofInt 64 (IntKind.i64.wrap (((h:Nat):Int)*(2:Int) ^ (4:Nat))) ||| BitVec.ofInt 64 ((l:Nat):Int)).toNat:Int))=(((UInt8.ofNat (16*(h:Nat)+(l:Nat))).toNat:Nat):Int):=by decide+kernel
theorem nib(x y:Int)(hx:0≤x)(hx2:x≤15)(hy:0≤y)(hy2:y≤15):IntKind.u8.wrap (IntKind.i64.wrap (↑(BitVec.ofInt 64 (IntKind.i64.wrap (x*(2:Int) ^ (4:Nat))) ||| BitVec.ofInt 64 y).toNat:Int))=(((Yc (16*x+y)).toNat:Nat):Int):=by
 have h:=Bv8 ⟨x.toNat,by omega⟩ ⟨y.toNat,by omega⟩
 simp only [Int.toNat_of_nonneg hx,Int.toNat_of_nonneg hy]at h
 rw [h]
 unfold Yc
 rw [show(16*x+y).toNat=16*x.toNat+y.toNat by omega]
section
variable (s:List UInt8) (hs:s.length≤1000000000)
include hs
theorem A78(a:Nat)(ha:a≤s.length)(h:s.length<a+2)(rows:LL):Call E0.P Ho [.ptr (.arg 0) 0] (Xn s a rows) (Is (okA 0 false) (Xn s a rows)):=by
 refine Nh _ _ _ _ ?_
 rw [wrS s.length a ha (by omega)]
 exact Bh (fun _=>⟨rfl,rfl⟩) fun h=>by omega
theorem Bd9(a:Nat)(h:a+1<s.length)(hb:Cb s[a]<0∨Cb s[a+1]<0∨Cb s[a]+Cb s[a+1]=0)(rows:LL):Call E0.P Ho [.ptr (.arg 0) 0] (Xn s a rows) (Is (okA 0 false) (Xn s (a+2:Nat) rows)):=by
 have b1:=Ai0 s[a]
 have b2:=Ai0 s[a+1]
 refine Nh _ _ _ _ ?_
 rw [wrS s.length a (by omega) (by omega),Gj a (by omega),wr2 a (by omega)]
 refine Bh (fun _=>by omega) fun _=>⟨⟨by omega,by omega⟩,⟨⟨by omega,by omega⟩, ?_⟩⟩
 rw [Gs s a (by omega),Gs s (a+1) h]
 refine Call.use (Aa7 _) ⟨⟨rfl,rfl⟩,Call.use (Aa7 _) ⟨⟨rfl,rfl⟩,Let.intro (Let.intro ?_)⟩⟩
 rw [Cx,Cx,Av (Cb s[a]+Cb s[a+1]) (by omega) (by omega)]
 refine Cg (p:=Cb s[a]<0∨Cb s[a+1]<0∨Cb s[a]+Cb s[a+1]=0) (by rw [Ao0,A5z];omega) (fun _=>⟨rfl,rfl⟩) fun h'=>absurd hb h'
theorem Bf4(a:Nat)(h:a+1<s.length)(hb:¬(Cb s[a]<0∨Cb s[a+1]<0∨Cb s[a]+Cb s[a+1]=0))(rows:LL):Call E0.P Ho [.ptr (.arg 0) 0] (Xn s a rows) (Is (okA (Yc (16*Cb s[a]+Cb s[a+1])).toNat true) (Xn s (a+2:Nat) rows)):=by
 have b1:=Ai0 s[a]
 have b2:=Ai0 s[a+1]
 refine Nh _ _ _ _ ?_
 rw [wrS s.length a (by omega) (by omega),Gj a (by omega),wr2 a (by omega)]
 refine Bh (fun _=>by omega) fun _=>⟨⟨by omega,by omega⟩,⟨⟨by omega,by omega⟩, ?_⟩⟩
 rw [Gs s a (by omega),Gs s (a+1) h]
 refine Call.use (Aa7 _) ⟨⟨rfl,rfl⟩,Call.use (Aa7 _) ⟨⟨rfl,rfl⟩,Let.intro (Let.intro ?_)⟩⟩
 rw [Cx,Cx,Av (Cb s[a]+Cb s[a+1]) (by omega) (by omega)]
 refine Cg (p:=Cb s[a]<0∨Cb s[a+1]<0∨Cb s[a]+Cb s[a+1]=0) (by rw [Ao0,A5z];omega) (fun h'=>absurd h' hb) fun _=>⟨by decide, ?_⟩
 rw [nib _ _ (by omega) (by omega) (by omega) (by omega)]
 exact⟨rfl,rfl⟩
def Bxo(s:List UInt8)(K:KK)(a:Nat)(out:List UInt8):Prop:=
 (∀h:a<s.length,Ev (s[a].toNat:Int) true s a 0 0 [] 0 0 (Aw out) K)∧(¬a<s.length→Ev 0 false s a 0 0 [] 0 0 (Aw out) K)
omit hs in
theorem Bxn(K:KK)(a:Nat)(out:List UInt8)(h:Bxo s K a out):Qd s a 0 0 [] 0 0 (Aw out) (Lr (Gm K)):=by
 refine Ajb _ _ _ _ _ _ _ _ _ (Bh (fun h'=> ?_) fun h'=>⟨⟨by omega,by omega⟩, ?_⟩)
 ·apply Wy
  apply Wx
  exact h.2 (by omega)
 ·have hlt:a<s.length:=by omega
  rw [Gs s a hlt]
  apply Wy
  apply Wx
  exact h.1 hlt
theorem Bxg(at_:Int)(out0:LL)(Q:QQ)(X:Part)(hQ:∀r h,ScQ s 2 X r h→Q r h):∀(m a:Nat) (out:List UInt8),s.length≤a+m→out.length≤127→nameL (s.drop a) out a=X→Bxo s (Da s at_ out0 Q) a out:=by
 have fin:∀(a:Nat) (out:List UInt8),X=(out,a,0)→Da s at_ out0 Q (.exit 0) ⟨[(0, .ptr (Nm.arg 0) 0),(2, .ptr (Nm.loc 2) 0)],[(Nm.arg 0, .blk Ad [.imm (.str s), .imm (.int .i64 a), .own (Nm.arg 1)]),(Nm.loc 2, .blk Aq [.imm (.int .i64 0), .imm (.int .i64 0), .imm (.str []), .imm (.int .i64 0), .imm (.int .i64 0)]),(Nm.arg 1, .arr (Am+2) true 1 (Aw out))]⟩:=by
  intro a out hX
  apply Ale
  refine Ajc _ _ _ _ _ _ _ _ _ ⟨Zk _, ?_⟩
  apply Ald
  rw [Al5]
  exact hQ _ _ (hX ▸ Bi1)
 have off:∀(a:Nat) (out:List UInt8),¬a<s.length→nameL (s.drop a) out a=X→Ev 0 false s a 0 0 [] 0 0 (Aw out) (Da s at_ out0 Q):=by
  intro a out h hX
  rw [List.drop_eq_nil_of_le (by omega)]at hX
  refine Xd _ _ _ _ _ _ _ _ _ _ _ (brE (p:=False) (by simp) (fun h=>h.elim) fun _=>⟨rfl,Let.intro (brF (fin a out hX.symm))⟩)
 intro m
 induction m with
 |zero=>intro a out hm ho hX;exact⟨fun h=>by omega,fun h=>off a out h hX⟩
 |succ m ih=>
  intro a out hm ho hX
  refine⟨fun h=> ?_,fun h=>off a out h hX⟩
  refine Xd _ _ _ _ _ _ _ _ _ _ _ (brE (p:=True) (by simp) (fun _=>Call.use (Bq1 _) ⟨⟨rfl,rfl⟩,Let.intro ?_⟩) fun h=>absurd trivial h)
  rw [Cx]
  rw [De s a h]at hX
  refine Bh (fun hk=> ?_) fun hk=> ?_
  ·have bad:∀(e:Int) (b:Nat) (o:List UInt8),e≠0→X=([],0,e)→Da s at_ out0 Q .ret ⟨[(2, .ptr (Nm.loc 2) 0),(3, .imm (.int .i64 e))],[(Nm.loc 2, .blk Aq [.imm (.int .i64 0), .imm (.int .i64 0), .imm (.str []), .imm (.int .i64 0), .imm (.int .i64 0)]),(Nm.arg 0, .blk Ad [.imm (.str s), .imm (.int .i64 b), .own (Nm.arg 1)]),(Nm.arg 1, .arr (Am+2) true 1 (Aw o))]⟩:=by
    intro e b o he hx
    apply Alf
    exact hQ _ _ (hx ▸ Ahl he)
   have push:∀(c:UInt8) (b:Nat),a<b→(X=if 127≤out.length then([],0,8)else nameL (s.drop b) (out++[c]) b)→Kv (c.toNat:Int) s b 0 0 [] 0 0 (Aw out) (Ie (Gm (Da s at_ out0 Q))):=by
    intro c b hb hx
    refine Aja _ _ _ _ _ _ _ _ _ _ ⟨⟨by rw [Qa];omega,by rw [Qa];omega⟩, ?_⟩
    rw [Vl,Qa,List.length_append]
    refine Bh (fun h'=> ?_) fun h'=> ?_
    ·rw [if_pos (by simp at h';omega)]at hx
     apply Alg
     apply Ny
     exact bad 8 b _ (by decide) hx
    ·rw [if_neg (by simp at h';omega)]at hx
     apply Alh
     exact Bxn s _ b _ (ih b (out++[c]) (by omega) (by simp at h' ⊢; omega) hx.symm)
   refine Ala _ _ _ _ _ _ _ _ _ _ (Bh (fun h35=> ?_) fun h35=> ?_)
   ·rw [Gj a (by omega)]
    rw [nameL.eq_def]at hX
    simp only at hX
    rw [if_pos hk,if_pos (by omega)]at hX
    by_cases h3:s.length<a+1+2
    ·refine Call.use (A78 s hs (a+1) (by omega) h3 _) ⟨⟨rfl,rfl⟩,Azu rfl ?_⟩
     apply Ny
     refine bad 4 (a+1) out (by decide) ?_
     rw [←hX]
     by_cases h4:a+1<s.length
     ·rw [De s (a+1) h4,List.drop_eq_nil_of_le (by omega)]
     ·rw [List.drop_eq_nil_of_le (by omega)]
    ·have h4:a+1<s.length:=by omega
     have h5:a+1+1<s.length:=by omega
     rw [De s (a+1) h4,De s (a+1+1) h5]at hX
     simp only at hX
     by_cases hb:Cb s[a+1]<0∨Cb s[a+1+1]<0∨Cb s[a+1]+Cb s[a+1+1]=0
     ·refine Call.use (Bd9 s hs (a+1) h5 hb _) ⟨⟨rfl,rfl⟩,Azu rfl ?_⟩
      apply Ny
      rw [if_pos hb]at hX
      exact bad 4 (a+1+2) out (by decide) hX.symm
     ·refine Call.use (Bf4 s hs (a+1) h5 hb _) ⟨⟨rfl,rfl⟩,Azv rfl ?_⟩
      rw [if_neg hb]at hX
      exact push (Yc (16*Cb s[a+1]+Cb s[a+1+1])) (a+1+2) (by omega) hX.symm
   ·rw [Gj a (by omega)]
    rw [nameL.eq_def]at hX
    simp only at hX
    rw [if_pos hk,if_neg (by omega)]at hX
    exact push s[a] (a+1) (by omega) hX.symm
  ·rw [nameL.eq_def]at hX
   simp only at hX
   rw [if_neg hk]at hX
   exact fin a out hX.symm
theorem Bxx(a:Nat)(ha:a<s.length):Call E0.P Tn [.ptr (.arg 0) 0] (Xn s a []) (ScQ s 2 (nameL (s.drop (a+1)) [] (a+1))):=by
 have h:=Bxg s hs a [] (ScQ s 2 (nameL (s.drop (a+1)) [] (a+1))) _ (fun _ _ h=>h) s.length (a+1) [] (by omega) (by simp) rfl
 refine Ao7 _ _ _ _ ?_
 rw [Gj a (by omega)]
 refine Bh (fun h'=>h.2 (by omega)) fun h'=>⟨⟨by omega,by omega⟩, ?_⟩
 rw [Gs s (a+1) (by omega)]
 exact h.1 (by omega)
end
end Go.Proofs.Sim.Se

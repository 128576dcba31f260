import Derived.Test.YtaggabcajidnnaaGreatDoorSeatGenW
import Derived.Test.YtaggabcajidnnaaGreatDoorPbA
import Derived.Test.YtaggabcajidnnaaGreatDoorWrL
import Derived.Test.YtaggabcajidnnaaGreatDoorZiA
import Derived.Test.YtaggabcajidnnaaGreatDoorVsC
import Derived.Test.YtaggabcajidnnaaGreatDoorTryzShelf
import Derived.Lib.IndexAny
set_option maxRecDepth 100000
namespace Go.Proofs.Sim.Se
open Go Go.Proofs Go.Proofs.Sim Go.Proofs.Sim.Va Go.RowKit
theorem Bwn:∀n:Fin 16,(if(n:Nat)<10 then IntKind.u8.wrap (IntKind.i64.wrap ((48:Int)+((n:Nat):Int)))else IntKind.u8.wrap (IntKind.i64.wrap (IntKind.i64.wrap ((65:Int)+((n:Nat):Int)) - (10:Int))))=(((Ab2 n).toNat:Nat):Int):=by decide+kernel
theorem Aa1(n:Nat)(hn:n≤15):Call E0.P O4 [.imm (.int .i64 (n:Int))] [] (Is (.imm (.int .u8 ((Ab2 n).toNat:Int))) []):=by
 have h:=Bwn ⟨n,by omega⟩
 simp only at h
 refine A05 _ _ (Let.intro (Dt (orB _ _) (fun h=>by omega) fun _=>Ce (fun h1=> ?_) fun h1=> ?_))
 ·rw [if_pos (by omega)]at h;rw [h];exact⟨rfl,rfl⟩
 ·rw [if_neg (by omega)]at h;rw [h];exact⟨rfl,rfl⟩
theorem A0b(n:Nat)(hn:n≤15):Call E0.P Ad6 [.imm (.int .i64 (n:Int))] [] (Is (.imm (.int .u8 ((Ab2 n).toNat:Int))) []):=by
 refine A6n _ _ (Let.intro (Dt (orB _ _) (fun h=>by omega) fun _=>⟨⟨by omega,by omega⟩, ?_⟩))
 rw [Int.toNat_natCast]
 exact⟨rfl,rfl⟩
theorem A2o(c:UInt8):c.toNat<256:=c.toNat_lt
theorem hi4(c:UInt8):IntKind.i64.wrap (((c.toNat:Nat):Int).fdiv ((2:Int) ^ (4:Nat)))=((c.toNat / 16:Nat):Int):=by
 have:=A2o c
 rw [Int.fdiv_eq_ediv_of_nonneg _ (by decide),Bc _ (by omega) (by omega)];omega
theorem Bwq:∀n:Fin 256,IntKind.i64.wrap (IntKind.u8.wrap (↑(BitVec.ofInt 8 ((n:Nat):Int) &&& BitVec.ofInt 8 (15:Int)).toNat:Int))=(((n:Nat) % 16:Nat):Int):=by decide+kernel
theorem lo4(c:UInt8):IntKind.i64.wrap (IntKind.u8.wrap (↑(BitVec.ofInt 8 ((c.toNat:Nat):Int) &&& BitVec.ofInt 8 (15:Int)).toNat:Int))=((c.toNat % 16:Nat):Int):=Bwq ⟨c.toNat,A2o c⟩
abbrev Btv(l:List (List IV)):Heap:=[(Nm.loc 3, .blk Bz [.self (Nm.loc 3), .own ((Nm.loc 3).cell 1)]),((Nm.loc 3).cell 1, .arr (Am+2) true 1 l)]
theorem Bsu(s:List UInt8)(hs:s.length≤1000000000)(K:Ex→St→Prop):∀(m i:Nat) (acc:List UInt8),m+i=s.length→acc.length≤2*i→K (.exit 0) ⟨[(3, .ptr (Nm.loc 3) 0)],Btv (Be (acc++(s.drop i).flatMap Kk))⟩→
 Wx s s.length i (Be acc) K:=by
 intro m
 induction m with
 |zero=>
  intro i acc hi ha hE
  refine Ahc _ _ _ _ _ (Ce (fun h=>by omega) fun _=> ?_)
  rw [List.drop_of_length_le (by omega)]at hE
  simpa using hE
 |succ m ih=>
  intro i acc hi ha hE
  have hlt:i<s.length:=by omega
  have hc:=A2o s[i]
  refine Ahc _ _ _ _ _ (Ce (fun _=> ?_) fun h=>by omega)
  rw [Lm s i hlt,hi4,lo4,Jk i (by omega)]
  refine⟨⟨by omega,by omega⟩,⟨by decide,Call.use (Aa1 _ (by omega)) ⟨⟨rfl,rfl⟩, ?_⟩⟩⟩
  rw [Arj,X9,Xa,Xa]
  refine⟨⟨by omega,by omega⟩,⟨⟨by omega,by omega⟩,Call.use (Aa1 _ (by omega)) ⟨⟨rfl,rfl⟩, ?_⟩⟩⟩
  rw [Arj,X9]
  refine⟨by simp;omega,ih (i+1) _ (by omega) (by simp;omega) ?_⟩
  rw [Akx Kk s i hlt]at hE
  simpa [Kk] using hE
theorem Btf(s:List UInt8)(hs:s.length≤1000000000):Call E0.P Afp [.imm (.str s)] [] (Is (.imm (.str (Afw s))) []):=by
 refine A03 _ _ ?_
 rw [Bp9]
 have hl:(s.flatMap Kk).length=2*s.length:=by
  clear hs
  induction s with
  |nil=>rfl
  |cons c s ih=>rw [List.flatMap_cons,List.length_append,ih];simp [Kk];omega
 refine Bsu s hs _ s.length 0 [] rfl (by simp) ?_
 rw [List.drop_zero,List.nil_append]
 refine Av2 _ _ (Auf _ _ ?_)
 rw [show([IV.int .u8 (62:Int)]:List IV)=[IV.int .u8 (((62:UInt8).toNat:Nat):Int)] from rfl,X9,Xa,Xa,Atr]
 exact⟨⟨by rw [hl];omega,by rw [hl];omega⟩,⟨⟨⟨rfl,by rw [List.length_append,hl];simp;omega⟩,Afi _⟩,Av1 _ _ ⟨rfl,rfl⟩⟩⟩
theorem Bvf(s:List UInt8)(hs:s.length≤1000000000)(K:Ex→St→Prop):∀(m i:Nat) (acc:List UInt8),m+i=s.length→acc.length≤2*i→K (.exit 0) ⟨[(3, .own (Nm.loc 5))],[(Nm.loc 5, .arr 0 true 1 (Be (acc++(s.drop i).flatMap Kk)))]⟩→
 Yv s i (Be acc) K:=by
 intro m
 induction m with
 |zero=>
  intro i acc hi ha hE
  refine Ajn _ _ _ _ (Ce (fun h=>by omega) fun _=> ?_)
  rw [List.drop_of_length_le (by omega)]at hE
  simpa using hE
 |succ m ih=>
  intro i acc hi ha hE
  have hlt:i<s.length:=by omega
  have hc:=A2o s[i]
  refine Ajn _ _ _ _ (Ce (fun _=> ?_) fun h=>by omega)
  rw [Lm s i hlt,Jk i (by omega)]
  have w0:IntKind.i64.wrap ((s[i].toNat:Nat):Int)=(s[i].toNat:Int):=Bc _ (by omega) (by omega)
  have e1:IntKind.i64.wrap ((IntKind.i64.wrap ((s[i].toNat:Nat):Int)).tdiv 16)=((s[i].toNat / 16:Nat):Int):=by
   rw [w0,Int.tdiv_eq_ediv_of_nonneg (by omega),Bc _ (by omega) (by omega)];omega
  have e2:(IntKind.i64.wrap ((s[i].toNat:Nat):Int)).tmod 16=((s[i].toNat % 16:Nat):Int):=by
   rw [w0,Int.tmod_eq_emod_of_nonneg (by omega)];omega
  rw [e1,e2]
  refine⟨⟨by omega,by omega⟩,⟨by decide,⟨⟨by omega,by omega⟩,⟨by decide,Call.use (A0b _ (by omega)) ⟨⟨rfl,rfl⟩,Call.use (A0b _ (by omega)) ⟨⟨rfl,rfl⟩, ?_⟩⟩⟩⟩⟩⟩
  rw [Arj,Arj,Xa]
  refine⟨⟨by omega,by omega⟩, ?_⟩
  have e3:Be acc++[[IV.int .u8 ((Ab2 (s[i].toNat / 16)).toNat:Int)],[IV.int .u8 ((Ab2 (s[i].toNat % 16)).toNat:Int)]]=Be (acc++Kk s[i]):=by simp [Be,Kk]
  rw [e3]
  refine ih (i+1) _ (by omega) (by simp [Kk];omega) ?_
  rw [Akx Kk s i hlt]at hE
  simpa using hE
theorem Bpu(s:List UInt8)(hs:s.length≤1000000000):Call E0.P Aa4 [.imm (.str s)] [] (Is (.imm (.str (Afw s))) []):=by
 refine A39 _ _ ?_
 rw [Bp9]
 have hl:(s.flatMap Kk).length=2*s.length:=by
  clear hs
  induction s with
  |nil=>rfl
  |cons c s ih=>rw [List.flatMap_cons,List.length_append,ih];simp [Kk];omega
 refine Bvf s hs _ s.length 0 [] rfl (by simp) ?_
 rw [List.drop_zero,List.nil_append]
 refine Azv _ _ (Ayq _ _ ?_)
 rw [show([IV.int .u8 (62:Int)]:List IV)=[IV.int .u8 (((62:UInt8).toNat:Nat):Int)] from rfl,X9,Xa,Atr]
 exact⟨⟨by rw [hl];omega,by rw [hl];omega⟩,⟨Afi _,Azu _ _ ⟨rfl,rfl⟩⟩⟩
end Go.Proofs.Sim.Se
set_option maxRecDepth 100000
namespace Go.Proofs.Sim.Se
open Go Go.Proofs Go.Proofs.Sim Go.Proofs.Sim.Va Go.RowKit
theorem Am9(c:UInt8):P9 c=true↔32≤c.toNat∧c.toNat≤126:=by simp [P9]
theorem Asd(c:UInt8):Axy c=true↔32≤c.toNat∧c.toNat≤126∧Sa (c.toNat:Int)=2∧c.toNat≠35:=by simp [Axy]
theorem Bj1(c:UInt8):Call E0.P Aa7 [.imm (.int .u8 (c.toNat:Int))] [] (Is (.imm (.bool (P9 c))) []):=by
 refine A4f _ _ (Let.intro ?_)
 have:(bif decide ((32:Int)≤(c.toNat:Int))then decide ((c.toNat:Int)≤126)else false)=P9 c:=by
  rw [Bool.eq_iff_iff,Am9,cond_eq_ite]
  split
  ·rename_i h
   have h:=of_decide_eq_true h
   rw [decide_eq_true_iff];omega
  ·rename_i h
   have h:¬(32:Int)≤(c.toNat:Int):=fun h'=>h (decide_eq_true h')
   constructor
   ·intro h';cases h'
   ·intro h';omega
 rw [this];exact⟨rfl,rfl⟩
theorem Aof(c:UInt8):(Jl c).length≤3:=by unfold Jl;split<;>simp [Kk]
theorem Asl(c:UInt8):(J7 c).length≤2:=by unfold J7;split<;>simp
theorem A5m(f:UInt8→List UInt8)(k:Nat)(h:∀c,(f c).length≤k)(s:List UInt8):(s.flatMap f).length≤k*s.length:=by
 induction s with
 |nil=>simp
 |cons c s ih=>
  have:=h c
  rw [List.flatMap_cons,List.length_append,List.length_cons,Nat.mul_succ];omega
theorem Bjt(s:List UInt8)(hs:s.length≤1000000000)(K:Ex→St→Prop)(i:Nat)(hi:i<s.length)(acc:List UInt8)(h:L8 s s.length ((i+1:Nat):Int) (Be acc) K):Wo s s.length i (Be acc) (O3 K):=by
 refine Avq _ _ _ _ _ ?_
 rw [Jk i (by omega)]
 exact Az4 _ _ _ _ _ h
theorem Bs6(s:List UInt8)(hs:s.length≤1000000000)(K:Ex→St→Prop)(i:Nat)(hi:i<s.length)(acc:List UInt8)(ha:acc.length≤3*i+1)(b:Bool)(hb:b=Axy s[i])
 (h:L8 s s.length ((i+1:Nat):Int) (Be (acc++Jl s[i])) K):Wn s (s[i].toNat:Int) s.length i b (Be acc) (Sy K):=by
 have hc:=A2o s[i]
 have h35:([IV.int .u8 (35:Int)]:List IV)=[IV.int .u8 (((35:UInt8).toNat:Nat):Int)]:=rfl
 refine Avo _ _ _ _ _ _ _ ⟨fun e=> ?_,fun e=> ?_⟩
 ·rw [Jl, ←hb,if_pos e]at h
  rw [Xa,X9]
  exact⟨⟨by omega,by omega⟩,Az6 _ _ _ _ _ (Bjt s hs K i hi _ h)⟩
 ·rw [Jl, ←hb,if_neg (by rw [e];decide)]at h
  refine Az7 _ _ _ _ _ _ (Avp _ _ _ _ _ _ ?_)
  rw [hi4,lo4,h35,X9,Xa,Xa]
  refine⟨⟨by omega,by omega⟩,⟨by decide,Call.use (Aa1 _ (by omega)) ⟨⟨rfl,rfl⟩, ?_⟩⟩⟩
  rw [Arj,X9,Xa]
  refine⟨by simp;omega,Call.use (Aa1 _ (by omega)) ⟨⟨rfl,rfl⟩,⟨by simp;omega, ?_⟩⟩⟩
  rw [Arj,X9]
  refine Az5 _ _ _ _ _ (Bjt s hs K i hi _ ?_)
  simpa [Kk] using h
theorem Bqh(s:List UInt8)(hs:s.length≤1000000000)(K:Ex→St→Prop):∀(m i:Nat) (acc:List UInt8),m+i=s.length→acc.length≤3*i+1→K (.exit 0) ⟨[(3, .ptr (Nm.loc 3) 0)],Btv (Be (acc++(s.drop i).flatMap Jl))⟩→
 L8 s s.length i (Be acc) K:=by
 intro m
 induction m with
 |zero=>
  intro i acc hi ha hE
  refine Ajw _ _ _ _ _ (Ce (fun h=>by omega) fun _=> ?_)
  rw [List.drop_of_length_le (by omega)]at hE
  simpa using hE
 |succ m ih=>
  intro i acc hi ha hE
  have hlt:i<s.length:=by omega
  refine Ajw _ _ _ _ _ (Ce (fun _=> ?_) fun h=>by omega)
  rw [Lm s i hlt]
  have hn:L8 s s.length ((i+1:Nat):Int) (Be (acc++Jl s[i])) K:=by
   have:=Aof s[i]
   refine ih (i+1) _ (by omega) (by simp;omega) ?_
   rw [Akx Jl s i hlt]at hE
   simpa using hE
  refine⟨⟨by omega,by omega⟩,Call.use (Bj1 s[i]) ⟨⟨rfl,rfl⟩, ?_⟩⟩
  rw [I7]
  refine⟨fun h=> ?_,fun h=>⟨rfl,Let.intro (Let.intro ?_)⟩⟩
  ·have h1:=(Am9 _).1 (eq_of_beq h)
   refine Call.use (Awq _) ⟨⟨rfl,rfl⟩,Let.intro (Let.intro (Bs6 s hs K i hlt acc ha _ ?_ hn))⟩
   rw [Fy,Bool.eq_iff_iff,Asd,cond_eq_ite]
   split
   ·rename_i h2
    have h2:=of_decide_eq_true h2
    simp [h1,h2];omega
   ·rename_i h2
    constructor
    ·intro h3;cases h3
    ·intro h3;exact absurd (decide_eq_true h3.2.2.1) h2
  ·refine Bs6 s hs K i hlt acc ha _ ?_ hn
   rw [Bool.eq_iff_iff,Asd]
   constructor
   ·intro h3;cases h3
   ·intro h3
    have:P9 s[i]=true:=(Am9 _).2 ⟨h3.1,h3.2.1⟩
    rw [this]at h;cases h
theorem Aws(s:List UInt8)(hs:s.length≤1000000000):Call E0.P Aa6 [.imm (.str s)] [] (Is (.imm (.str (Cm s))) []):=by
 have hl:=A5m Jl 3 Aof s
 refine A4d _ _ ⟨⟨by decide,by decide⟩, ?_⟩
 refine Bqh s hs _ s.length 0 [47] rfl (by simp) ?_
 rw [List.drop_zero]
 refine Az3 _ _ (Avr _ _ ?_)
 rw [Atr,Xa]
 exact⟨⟨⟨rfl,by simp only [List.length_append,List.length_cons,List.length_nil];omega⟩,Afi _⟩,Az2 _ _ ⟨rfl,rfl⟩⟩
theorem Ax9(s:List UInt8):(Afw s).length=2*s.length+1:=by
 have:(s.flatMap Kk).length=2*s.length:=by
  induction s with
  |nil=>rfl
  |cons c s ih=>rw [List.flatMap_cons,List.length_append,ih];simp [Kk];omega
 rw [Afw,List.length_append,this];rfl
theorem Bg1(s:List UInt8)(i:Nat)(h:i<s.length)(hc:P9 s[i]=false):s.all P9=false:=by
 rw [Bool.eq_false_iff]
 intro ha
 rw [List.all_eq_true]at ha
 have:=ha s[i] (List.getElem_mem h)
 rw [hc]at this;cases this
theorem Bgp(c:UInt8):((bif (bif decide ((c.toNat:Int)=40)then true else decide ((c.toNat:Int)=41))then true else decide ((c.toNat:Int)=92))=true)↔(c=40∨c=41∨c=92):=by
 have e:∀n:UInt8,c=n↔c.toNat=n.toNat:=fun n=>⟨fun h=>h ▸ rfl,UInt8.toNat_inj.1⟩
 rw [Aja,orB,e,e,e]
 show _↔(c.toNat=40∨c.toNat=41∨c.toNat=92)
 omega
theorem Bms(s:List UInt8)(hs:s.length≤1000000000)(Q:AV→Heap→Prop)(hQ:Q (.imm (.str (Si s))) []):∀(m i:Nat) (acc:List UInt8),m+i=s.length→acc.length≤2*i+1→(∀c∈s.take i,P9 c=true)→acc++(s.drop i).flatMap J7=40::s.flatMap J7→
 Nh s s.length i (Be acc) (Q3 Q):=by
 intro m
 induction m with
 |zero=>
  intro i acc hi ha hall hE
  refine Ahf _ _ _ _ _ (Ce (fun h=>by omega) fun _=> ?_)
  rw [List.drop_of_length_le (by omega)]at hE
  rw [List.take_of_length_le (by omega)]at hall
  have hl:=A5m J7 2 Asl s
  have hE:acc=40::s.flatMap J7:=by simpa using hE
  rw [Si,if_pos (List.all_eq_true.2 hall), ←hE]at hQ
  refine Awl _ _ (Aum _ _ ?_)
  rw [show([IV.int .u8 (41:Int)]:List IV)=[IV.int .u8 (((41:UInt8).toNat:Nat):Int)] from rfl,X9,Xa,Xa,Atr]
  exact⟨⟨by omega,by omega⟩,⟨⟨⟨rfl,by simp;omega⟩,Afi _⟩,Awj _ _ hQ⟩⟩
 |succ m ih=>
  intro i acc hi ha hall hE
  have hlt:i<s.length:=by omega
  refine Ahf _ _ _ _ _ (Ce (fun _=> ?_) fun h=>by omega)
  rw [Lm s i hlt,Jk i (by omega)]
  refine⟨⟨by omega,by omega⟩,Call.use (Bj1 s[i]) ⟨⟨rfl,rfl⟩, ?_⟩⟩
  rw [I7]
  refine⟨fun h=> ?_,fun h=> ?_⟩
  ·have h:P9 s[i]=false:=by simpa using h
   rw [Si,if_neg (by rw [Bg1 s i hlt h];decide)]at hQ
   have:=Ax9 s
   refine Call.use (Btf s hs) ⟨⟨rfl,rfl⟩,⟨?_,Awk _ _ hQ⟩⟩
   show(((1+(Afw s).length:Nat):Int))≤_
   omega
  ·have h:P9 s[i]=true:=by simpa using h
   have hall':=Ab1 (P:=fun c:UInt8=>P9 c=true) _ _ hlt hall h
   rw [Akx J7 s i hlt]at hE
   have hel:=Asl s[i]
   have hn:Nh s s.length ((i+1:Nat):Int) (Be (acc++J7 s[i])) (Q3 Q):=ih (i+1) _ (by omega) (by simp;omega) hall' (by rw [List.append_assoc];exact hE)
   refine Let.intro (Let.intro (Dt (Bgp _) (fun e=> ?_) fun e=> ?_))
   ·rw [J7,if_pos e]at hn
    rw [show([IV.int .u8 (92:Int)]:List IV)=[IV.int .u8 (((92:UInt8).toNat:Nat):Int)] from rfl,X9,Xa,Xa,X9]
    refine⟨⟨by omega,by omega⟩,⟨by simp;omega, ?_⟩⟩
    simpa using hn
   ·rw [J7,if_neg e]at hn
    rw [X9,Xa]
    exact⟨⟨by omega,by omega⟩,hn⟩
theorem Baw(s:List UInt8)(hs:s.length≤1000000000):Call E0.P Afu [.imm (.str s)] [] (Is (.imm (.str (Si s))) []):=
 A1c _ _ ⟨⟨by decide,by decide⟩,Bms s hs _ ⟨rfl,rfl⟩ s.length 0 [40] rfl (by simp) (by simp) (by simp)⟩
theorem Btz(s:List UInt8)(i:Nat)(h:i<s.length):List.drop i (List.take (i+1) s)=[s[i]]:=by
 rw [List.take_add_one,List.drop_append,List.drop_of_length_le (by rw [List.length_take];omega),List.length_take,Nat.min_eq_left (by omega),Nat.sub_self]
 simp [h]
theorem Bpo(s:List UInt8)(hs:s.length≤1000000000)(K:Ex→St→Prop)(i:Nat)(hi:i<s.length)(acc:List UInt8)(ha:acc.length≤3*i+1)(b:Bool)(hb:b=Axy s[i])
 (h:Pi s (acc++Jl s[i]) ((i+1:Nat):Int) K):Acz s acc i b (Xm K):=by
 have hc:=A2o s[i]
 have fin:∀acc',Pi s acc' ((i+1:Nat):Int) K→Xm K .normal ⟨[(0, .imm (.str s)),(3, .imm (.str acc')),(4, .imm (.int .i64 i))],[]⟩:=by
  intro acc' h
  refine A4r _ _ _ _ (A0r _ _ _ _ ?_)
  rw [Jk i (by omega)]
  exact A4q _ _ _ _ h
 refine A33 _ _ _ _ _ ?_
 rw [Jk i (by omega),Int.toNat_natCast,Int.toNat_natCast,Btz s i hi]
 have e2:List.take 2 (Afw [s[i]])=Kk s[i]:=by simp [Afw,Kk]
 refine⟨fun e=>⟨⟨by omega,by omega,by omega⟩,Let.intro ⟨by simp;omega,fin _ ?_⟩⟩,fun e=>⟨⟨by omega,by omega,by omega⟩,Let.intro (Call.use (Bpu [s[i]] (by simp)) ⟨⟨rfl,rfl⟩,⟨by omega, ?_⟩⟩)⟩⟩
 ·rw [Jl, ←hb,if_pos e]at h;exact h
 ·rw [Jl, ←hb,if_neg (by rw [e];decide)]at h
  rw [show rS (AV.imm (IV.str (Afw [s[i]])))=Afw [s[i]] from rfl,e2,Ax9]
  refine⟨⟨by decide,by simp⟩,Let.intro ⟨by simp [Kk];omega,fin _ ?_⟩⟩
  simpa using h
theorem Bmp(s:List UInt8)(hs:s.length≤1000000000)(K:Ex→St→Prop):∀(m i:Nat) (acc:List UInt8),m+i=s.length→acc.length≤3*i+1→K (.exit 0) ⟨[(3, .imm (.str (acc++(s.drop i).flatMap Jl)))],[]⟩→
 Pi s acc i K:=by
 intro m
 induction m with
 |zero=>
  intro i acc hi ha hE
  refine An6 _ _ _ _ (Ce (fun h=>by omega) fun _=> ?_)
  rw [List.drop_of_length_le (by omega)]at hE
  simpa using hE
 |succ m ih=>
  intro i acc hi ha hE
  have hlt:i<s.length:=by omega
  refine An6 _ _ _ _ (Ce (fun _=> ?_) fun h=>by omega)
  rw [Lm s i hlt]
  have hn:Pi s (acc++Jl s[i]) ((i+1:Nat):Int) K:=by
   have:=Aof s[i]
   refine ih (i+1) _ (by omega) (by simp;omega) ?_
   rw [Akx Jl s i hlt]at hE
   simpa using hE
  refine⟨⟨by omega,by omega⟩,Let.intro ⟨fun h=> ?_,fun h=>⟨rfl,Let.intro (Let.intro ?_)⟩⟩⟩
  ·have h1:33≤s[i].toNat∧s[i].toNat≤126:=by
    have h:=eq_of_beq h
    rw [cond_eq_ite]at h
    split at h
    ·rename_i h2
     have h2:=of_decide_eq_true h2
     have h:=of_decide_eq_true h
     omega
    ·cases h
   refine Call.use (Bhp _) ⟨⟨rfl,rfl⟩,Let.intro (Let.intro (Bpo s hs K i hlt acc ha _ ?_ hn))⟩
   rw [Fy,Bool.eq_iff_iff,Asd,cond_eq_ite]
   split
   ·rename_i h2
    have h2:=of_decide_eq_true h2
    simp [h1,h2];omega
   ·rename_i h2
    constructor
    ·intro h3;cases h3
    ·intro h3;exact absurd (decide_eq_true h3.2.2.1) h2
  ·refine Bpo s hs K i hlt acc ha _ ?_ hn
   rw [Bool.eq_iff_iff,Asd]
   constructor
   ·intro h3;cases h3
   ·intro h3
    exfalso
    have h4:¬(s[i].toNat=32):=fun e=>by
     have:=h3.2.2.1
     rw [e]at this
     revert this;decide
    have e1:decide ((33:Int)≤(s[i].toNat:Int))=true:=decide_eq_true (by omega)
    have e2:decide ((s[i].toNat:Int)≤126)=true:=decide_eq_true (by omega)
    rw [e1,e2]at h;cases h
theorem A43(s:List UInt8)(hs:s.length≤1000000000):Call E0.P Ags [.imm (.str s)] [] (Is (.imm (.str (Cm s))) []):=by
 refine Ban _ _ (Bmp s hs _ s.length 0 [47] rfl (by simp) ?_)
 rw [List.drop_zero]
 exact A4p _ _ (A0s _ _ (A4o _ _ ⟨rfl,rfl⟩))
theorem Bmm(s:List UInt8)(hs:s.length≤1000000000)(Q:AV→Heap→Prop)(hQ:Q (.imm (.str (Si s))) []):∀(m i:Nat) (acc:List UInt8),m+i=s.length→acc.length≤2*i+1→(∀c∈s.take i,P9 c=true)→acc++(s.drop i).flatMap J7=40::s.flatMap J7→
 Qn s acc i (Nt Q):=by
 intro m
 induction m with
 |zero=>
  intro i acc hi ha hall hE
  refine Amk _ _ _ _ (Ce (fun h=>by omega) fun _=> ?_)
  rw [List.drop_of_length_le (by omega)]at hE
  rw [List.take_of_length_le (by omega)]at hall
  have hE:acc=40::s.flatMap J7:=by simpa using hE
  rw [Si,if_pos (List.all_eq_true.2 hall), ←hE]at hQ
  exact A17 _ _ (Ay4 _ _ ⟨by omega,A15 _ _ hQ⟩)
 |succ m ih=>
  intro i acc hi ha hall hE
  have hlt:i<s.length:=by omega
  have hc:=A2o s[i]
  refine Amk _ _ _ _ (Ce (fun _=> ?_) fun h=>by omega)
  rw [Lm s i hlt]
  refine⟨⟨by omega,by omega⟩,⟨fun _=>⟨by omega,by omega⟩,Let.intro (Dt (orB _ _) (fun h=> ?_) fun h=> ?_)⟩⟩
  ·have h:P9 s[i]=false:=by
    rw [Bool.eq_false_iff];intro h'
    have:=(Am9 _).1 h'
    omega
   rw [Si,if_neg (by rw [Bg1 s i hlt h];decide)]at hQ
   have:=Ax9 s
   refine Call.use (Bpu s hs) ⟨⟨rfl,rfl⟩,⟨?_,A16 _ _ hQ⟩⟩
   show(((1+(Afw s).length:Nat):Int))≤_
   omega
  ·have h:P9 s[i]=true:=(Am9 _).2 (by omega)
   have hall':=Ab1 (P:=fun c:UInt8=>P9 c=true) _ _ hlt hall h
   rw [Akx J7 s i hlt]at hE
   have hel:=Asl s[i]
   have hn:Qn s (acc++J7 s[i]) ((i+1:Nat):Int) (Nt Q):=ih (i+1) _ (by omega) (by simp;omega) hall' (by rw [List.append_assoc];exact hE)
   have fin:∀acc':List UInt8,acc'.length≤2*i+2→Qn s (acc'++[s[i]]) ((i+1:Nat):Int) (Nt Q)→Yc s acc' i (Aaw (Nt Q)):=by
    intro acc' hl' h'
    refine Ay2 _ _ _ _ ?_
    rw [Jk i (by omega),Int.toNat_natCast,Int.toNat_natCast,Btz s i hlt]
    refine⟨⟨by omega,by omega,by omega⟩,Let.intro ⟨by simp;omega,A19 _ _ _ _ (Ay3 _ _ _ _ ?_)⟩⟩
    rw [Jk i (by omega)]
    exact A18 _ _ _ _ h'
   refine⟨⟨by omega,by omega⟩,⟨fun _=>⟨by omega,by omega⟩,Let.intro ⟨fun _=>⟨by omega,by omega⟩,Let.intro (Dt (Bgp _) (fun e=> ?_) fun e=> ?_)⟩⟩⟩
   ·rw [J7,if_pos e]at hn
    exact⟨by omega,fin _ (by simp;omega) (by simpa using hn)⟩
   ·rw [J7,if_neg e]at hn
    exact fin _ (by omega) hn
theorem Bfo(s:List UInt8)(hs:s.length≤1000000000):Call E0.P Amu [.imm (.str s)] [] (Is (.imm (.str (Si s))) []):=
 A6v _ _ (Bmm s hs _ ⟨rfl,rfl⟩ s.length 0 [40] rfl (by simp) (by simp) (by simp))
end Go.Proofs.Sim.Se
set_option maxRecDepth 100000
namespace Go.Proofs.Sim.Se
open Go Go.Proofs Go.Proofs.Sim Go.Proofs.Sim.Va Go.RowKit
abbrev A83(v:V):List IV:=[.int .i64 v.k, .int .i64 v.n, .int .i64 v.g, .str v.s, .sl .any 6 (v.l.map V.row), .sl .any 7 (v.d.map Bl)]
theorem Z5 {b:Bool} {p:Prop} {A B:Prop} (hb:b=true↔p)(h1:¬p→A)(h2:p→B):Br (b == false) A B:=by
 cases b with
 |true=>exact⟨fun h=>absurd h (by decide),fun _=>h2 (hb.1 rfl)⟩
 |false=>exact⟨fun _=>h1 (fun hp=>by cases hb.2 hp),fun h=>absurd h (by decide)⟩
theorem Bck {A B:Prop} (h:A):Br true A B:=⟨fun _=>h,fun h=>absurd h (by decide)⟩
theorem Vx {A B:Prop} (h:B):Br (true == false) A B:=⟨fun h=>absurd h (by decide),fun _=>h⟩
theorem Au5(s:List UInt8):Call E0.P Aea [.imm (.str s), .imm (.int .u8 0)] [] (Is (.imm (.int .i64 (Lib.indexByte s 0))) []):=by
 refine U3 Tryz.func76 (by kernel_rfl) (by kernel_rfl) [.str s, .int .u8 0] _ fun g w vs hv hs=> ?_
 obtain⟨v,u,rfl,hr,hu⟩:=Bi5 hv
 obtain rfl:=Atl hr
 obtain rfl:=Ace hu
 refine(Tryz.strings_IndexByte ⟨s.toArray⟩ 0 w).mono ?_
 rintro e w' ⟨rfl,rfl⟩
 exact⟨_, .imm (.int .i64 (Lib.indexByte s 0)),rfl,Below.refl _ _, .imm _ _ (.int _ _),rfl,rfl⟩
theorem Bpt(s:List UInt8):Call E0.P X4 [.imm (.str s)] [] (Is (.imm (.bool (decide ((0:UInt8)∈s)))) []):=by
 refine A6z _ _ (Call.use (Au5 s) ⟨⟨rfl,rfl⟩, ?_⟩)
 have:decide ((0:Int)≤Lib.indexByte s 0)=decide ((0:UInt8)∈s):=by
  rw [←Lib.contains_iff_indexByte];simp
 rw [Fy,this]
 exact⟨rfl,rfl⟩
theorem Bjw(v:V):Call E0.P Vg [.imm (.agg (A83 v)), .imm (.agg [.bool (hN v.k), .bool (hG v.k), .bool (hS v.k), .bool (hL v.k), .bool (hD v.k)])] [] (Is (.imm (.bool (decide (Fw v)))) []):=by
 have hk:∀(p:Prop) [Decidable p],(!decide p)=true↔¬p:=fun p _=>by simp
 have i0:((bif !hN v.k then !decide (v.n=0)else false)=true)↔(v.n≠0∧¬(v.k=1∨v.k=2∨v.k=7)):=by
  rw [hN];by_cases a:v.k=1∨v.k=2∨v.k=7<;>simp [a]
 have i1:((bif !hG v.k then !decide (v.g=0)else false)=true)↔(v.g≠0∧v.k≠7):=by
  rw [hG];by_cases a:v.k=7<;>simp [a]
 have i2:((bif !hS v.k then !v.s == []else false)=true)↔(v.s≠[]∧¬(v.k=3∨v.k=4∨v.k=8)):=by
  rw [hS];by_cases a:v.k=3∨v.k=4∨v.k=8<;>simp [a]
 have i3:((bif !hL v.k then decide ((0:Int)<((v.l.map V.row).length:Int))else false)=true)↔(0<v.l.length∧v.k≠5):=by
  rw [hL,List.length_map];by_cases a:v.k=5<;>simp [a]
 have i4:((bif !hD v.k then decide ((0:Int)<((v.d.map Bl).length:Int))else false)=true)↔(0<v.d.length∧¬(v.k=6∨v.k=8)):=by
  rw [hD,List.length_map];by_cases a:v.k=6∨v.k=8<;>simp [a]
 have yes:Fw v→Is (.imm (.bool (decide (Fw v)))) [] (.imm (.bool true)) []:=fun h=>by rw [decide_eq_true h];exact⟨rfl,rfl⟩
 refine Avw _ _ _ _ _ _ _ _ _ _ _ _ (Let.intro (Z5 i0 (fun n0=> ?_) fun y=>⟨rfl,Let.intro (Vx ⟨rfl,Let.intro (Vx ⟨rfl,Let.intro (Vx ⟨rfl,Let.intro (yes (.inl y))⟩)⟩)⟩)⟩))
 refine Let.intro (Let.intro (Z5 i1 (fun n1=> ?_) fun y=>⟨rfl,Let.intro (Vx ⟨rfl,Let.intro (Vx ⟨rfl,Let.intro (yes (.inr (.inl y)))⟩)⟩)⟩))
 refine Let.intro (Let.intro (Z5 i2 (fun n2=> ?_) fun y=>⟨rfl,Let.intro (Vx ⟨rfl,Let.intro (yes (.inr (.inr (.inl y))))⟩)⟩))
 refine Let.intro (Let.intro (Z5 i3 (fun n3=> ?_) fun y=>⟨rfl,Let.intro (yes (.inr (.inr (.inr (.inl y)))))⟩))
 refine Let.intro (Let.intro ?_)
 have:(bif !hD v.k then decide ((0:Int)<((v.d.map Bl).length:Int))else false)=decide (Fw v):=by
  rw [Bool.eq_iff_iff,i4,Ca,Fw]
  exact⟨fun h=> .inr (.inr (.inr (.inr h))),fun h=>by
   rcases h with h |h |h |h |h
   ·exact absurd h n0
   ·exact absurd h n1
   ·exact absurd h n2
   ·exact absurd h n3
   ·exact h⟩
 rw [this]
 exact⟨rfl,rfl⟩
theorem Bmw(v:V):Call E0.P Aeb [.imm (.agg (A83 v))] [] (Is (.imm (.bool (decide (Jq v)))) []):=by
 have fin:∀b:Bool,(b=true↔Jq v)→Is (.imm (.bool (decide (Jq v)))) [] (.imm (.bool b)) []:=by
  intro b hb
  have:b=decide (Jq v):=by rw [Bool.eq_iff_iff,hb,Ca]
  rw [this];exact⟨rfl,rfl⟩
 refine Azl _ _ _ _ _ _ _ (Ce (fun h=>⟨by decide,fin _ ?_⟩) fun h1=>Ce (fun h=>Let.intro (fin _ ?_)) fun h2=>Ce (fun h=>Let.intro (Let.intro (Let.intro (fin _ ?_)))) fun h7=>fin _ ?_)
 ·rw [Int.fdiv_eq_ediv_of_nonneg _ (by decide),Jq]
  simp only [Bool.not_eq_true',decide_eq_false_iff_not]
  omega
 ·rw [orB,Jq];omega
 ·rw [Aja,Aja,orB,Jq];omega
 ·rw [Jq]
  constructor
  ·intro h;cases h
  ·intro h;omega
theorem Bi1(v:V)(st:Bool)(w:Int)(b:Bool)(hk:¬((v.k<0∨8<v.k)∨(v.k=8∧st=false)))(hb:b=true↔(Fw v∨(v.k=3∧(0:UInt8)∈v.s)))(Q:AV→Heap→Prop)(hQ:Q (.imm (.int .i64 (Ub v st w))) [])(x0 x1 x2:Bool):
 K7 w b v.k v.n v.g v.s (v.l.map V.row) (v.d.map Bl) x0 x1 x2 (hL v.k) (hD v.k) (Ip Q):=by
 rw [Ub,if_neg hk]at hQ
 have ret:∀n:Int,Q (.imm (.int .i64 n)) []→Ip Q .ret ⟨[(6, .imm (.int .i64 n))],[]⟩:=fun n h=>A2l _ _ h
 have i9:((bif (bif hL v.k then true else hD v.k)then decide ((64:Int)≤w)else false)=true)↔((v.k=5∨v.k=6∨v.k=8)∧64≤w):=by
  rw [hL,hD]
  by_cases a:v.k=5
  ·simp [a]
  ·by_cases c:v.k=6∨v.k=8<;>simp [a,c]
 have l8:∀n:Nat,((127:Int)<(n:Int)↔127<n)∧((65535:Int)<(n:Int)↔65535<n)∧((1048576:Int)<(n:Int)↔1048576<n):=fun n=>⟨by omega,by omega,by omega⟩
 obtain⟨q1,q2,q3⟩:=l8 v.s.length
 refine A00 _ _ _ _ _ _ _ _ _ _ _ _ _ _ (Dt hb (fun h=>ret _ ?_) fun h4=>Call.use (Bmw v) ⟨⟨rfl,rfl⟩,Dt (p:=Jq v) (by rw [I7];exact Ca) (fun h=>ret _ ?_) fun h3=> ?_⟩)
 ·rw [if_pos h]at hQ;exact hQ
 ·rw [if_neg h4,if_pos h]at hQ;exact hQ
 rw [if_neg h4,if_neg h3]at hQ
 refine Let.intro (Z5 (p:=v.k=3∧127<v.s.length) (by rw [Oj,q1]) (fun a1=>Let.intro (Let.intro (Dt (p:=v.k=4∧65535<v.s.length) (by rw [Oj,q2]) (fun h=>ret _ ?_) fun a2=> ?_))) fun h=>⟨rfl,Let.intro (Bck (ret _ ?_))⟩)
 ·rw [if_pos (.inr h)]at hQ;exact hQ
 ·rw [if_neg (fun h=>h.elim a1 a2)]at hQ
  refine Let.intro (Dt (p:=v.k=8∧1048576<v.s.length) (by rw [Oj,q3]) (fun h=>ret _ ?_) fun a3=>Let.intro (Let.intro (Dt i9 (fun h=>ret _ ?_) fun a4=>A2m _ (Aze _ (A2k _ _ ?_)))))
  ·rw [if_pos h]at hQ;exact hQ
  ·rw [if_neg a3,if_pos h]at hQ;exact hQ
  ·rw [if_neg a3,if_neg a4]at hQ;exact hQ
 ·rw [if_pos (.inl h)]at hQ;exact hQ
theorem Bvo(v:V)(st:Bool)(w:Int):Call E0.P Amv [.imm (.agg (A83 v)), .imm (.bool st), .imm (.int .i64 w)] [] (Is (.imm (.int .i64 (Ub v st w))) []):=by
 have ih:hOK v.k=true↔(0≤v.k∧v.k≤8):=by simp [hOK]
 refine A60 _ _ _ _ _ _ _ _ _ (Call.use (Bpr v.k) ⟨⟨rfl,rfl⟩,Z5 (p:=v.k<0∨8<v.k) ?_ (fun hk=>Let.intro (Let.intro (Dt (p:=v.k=8∧st=false) ?_ (fun h=> ?_) fun h8=> ?_))) fun h=>⟨rfl,Let.intro (Bck ?_)⟩⟩)
 ·show(!hOK v.k)=true↔_
  rw [Bool.not_eq_true', ←Bool.not_eq_true,ih];omega
 ·by_cases a:v.k=8<;>cases st<;>simp [a]
 ·rw [Ub,if_pos (.inr h)];exact⟨rfl,rfl⟩
 ·have hk':¬((v.k<0∨8<v.k)∨(v.k=8∧st=false)):=fun h=>h.elim hk h8
  refine Call.use (Bjw v) ⟨⟨rfl,rfl⟩,Z5 (p:=Fw v) (by rw [I7];exact Ca) (fun e=> ?_) fun e=>⟨rfl,Let.intro (Bi1 v st w _ hk' ⟨fun _=> .inl e,fun _=>rfl⟩ _ ⟨rfl,rfl⟩ _ _ _)⟩⟩
  refine⟨fun h=> ?_,fun h=>⟨rfl,Let.intro (Let.intro (Bi1 v st w _ hk' ⟨fun h=>(by cases h),fun h'=> ?_⟩ _ ⟨rfl,rfl⟩ _ _ _))⟩⟩
  ·have h3:=of_decide_eq_true (eq_of_beq h)
   refine Call.use (Bpt v.s) ⟨⟨rfl,rfl⟩,Let.intro (Let.intro (Bi1 v st w _ hk' ?_ _ ⟨rfl,rfl⟩ _ _ _))⟩
   rw [I7,Ca]
   exact⟨fun h=> .inr ⟨h3,h⟩,fun h=>h.elim (fun h=>absurd h e) fun h=>h.2⟩
  ·exfalso
   rcases h' with h' |h'
   ·exact e h'
   ·rw [decide_eq_true h'.1]at h;cases h
 ·rw [Ub,if_pos (.inl h)];exact⟨rfl,rfl⟩
theorem Ati {v:V} {st:Bool} {w:Int} (h:Ub v st w=0)(hc:0<v.l.length∨0<v.d.length):w<64:=by
 unfold Ub at h
 split at h
 ·cases h
 split at h
 ·cases h
 split at h
 ·cases h
 split at h
 ·cases h
 split at h
 ·cases h
 split at h
 ·cases h
 ·rename_i h4 _ _ _ h9
  have hx:¬Fw v:=fun h=>h4 (.inl h)
  rw [Fw]at hx
  omega
end Go.Proofs.Sim.Se
set_option maxRecDepth 100000
namespace Go.Proofs.Sim.Se
open Go Go.Proofs Go.Proofs.Sim Go.Proofs.Sim.Va Go.RowKit
theorem Blf(m:List (List UInt8 × Int))(k:List UInt8)(v:Int)(x:List UInt8):Dz (Zk m k v) x=if x=k then v else Dz m x:=by
 induction m with
 |nil=>rw [Zk,Dz];rfl
 |cons a m ih=>
  obtain⟨k0,u⟩:=a
  rw [Zk]
  by_cases h:k=k0
  ·subst h
   rw [if_pos rfl,Dz,Dz]
   by_cases hx:x=k
   ·simp [hx]
   ·simp [hx]
  ·rw [if_neg h,Dz,Dz,ih]
   by_cases hx:x=k0
   ·subst hx
    simp [Ne.symm h]
   ·simp [hx]
theorem ndT {p:Prop} {i:Decidable p} (h:(!@decide p i)=true):¬p:=by
 intro hp
 rw [@decide_eq_true p i hp]at h;cases h
theorem ndF {p:Prop} {i:Decidable p} (h:(!@decide p i)=false):p:=by
 cases hd: @decide p i with
 |true=>exact of_decide_eq_true hd
 |false=>rw [hd]at h;cases h
theorem Bet(p:Pr):gS (Bl p) 0=p.1:=by rw [F7];rfl
abbrev CheckAt(v:V):Prop:=∀(st:Bool) (w:Int),0≤w→w≤64→Call E0.P Tq [.imm (.agg v.row), .imm (.bool st), .imm (.int .i64 w)] [] (Is (.imm (.int .i64 (v.chk st w))) [])
theorem Bqd(v:V)(hl:v.l.length≤1000000000000)(ih:∀x∈v.l,CheckAt x)(w:Int)(hw0:0≤w)(hw:0<v.l.length→w<64)(a b c:Int)(s:List UInt8)(p q:List (List IV))(K:Ex→St→Prop)
 (hR:Rs (v.l.map fun x=>x.chk false (w+1))≠0→K .ret ⟨[(6, .imm (.int .i64 (Rs (v.l.map fun x=>x.chk false (w+1)))))],[]⟩)
 (hE:Rs (v.l.map fun x=>x.chk false (w+1))=0→K (.exit 0) ⟨[(2, .imm (.int .i64 w)),(3, .ptr (Nm.loc 3) 0)],[(Nm.loc 3, .blk Aa [.imm (.int .i64 a), .imm (.int .i64 b), .imm (.int .i64 c), .imm (.str s), .imm (.sl .any 6 p), .imm (.sl .any 7 q)])]⟩):
 ∀(m i:Nat),m+i=v.l.length→Rs (v.l.map fun x=>x.chk false (w+1))=Rs ((v.l.drop i).map fun x=>x.chk false (w+1))→W9 w (H7 v.l) v.l.length i a b c s p q K:=by
 intro m
 induction m with
 |zero=>
  intro i hi he
  refine Ahe _ _ _ _ _ _ _ _ _ _ _ (Ce (fun h=>by omega) fun _=> ?_)
  rw [List.drop_of_length_le (by omega)]at he
  exact hE he
 |succ m ihm=>
  intro i hi he
  have hlt:i<v.l.length:=by omega
  have hm:J8 v.l i∈v.l:=by simp [J8,List.getD_eq_getElem?_getD,hlt]
  have hd:v.l.drop i=J8 v.l i::v.l.drop (i+1):=by rw [List.drop_eq_getElem_cons hlt];simp [J8,List.getD_eq_getElem?_getD,hlt]
  have hw:=hw (by omega)
  refine Ahe _ _ _ _ _ _ _ _ _ _ _ (Ce (fun _=> ?_) fun h=>by omega)
  rw [show(H7 v.l).getD (Int.toNat (i:Int)) []=(J8 v.l i).row from Ue _ _ hlt,Ep,Er,Jk i (by omega),Bc _ (by omega) (by omega)]
  refine⟨⟨⟨by omega,by omega⟩,Uf _ _ _⟩,Call.use (ih _ hm false (w+1) (by omega) (by omega)) ⟨⟨rfl,rfl⟩, ?_⟩⟩
  rw [Fy]
  rw [hd,List.map_cons,Rs]at he
  refine⟨fun h=> ?_,fun h=>ihm (i+1) (by omega) ?_⟩
  ·have h:=ndT h
   rw [if_pos h]at he
   rw [he]at hR
   exact hR h
  ·have h:=ndF h
   rw [if_neg (by simpa using h)]at he
   exact he
theorem Bqc(v:V)(hl:v.d.length≤1000000000000)(ih:∀x∈v.d,CheckAt x.2)(w:Int)(hw0:0≤w)(hw:0<v.d.length→w<64)(K:Ex→St→Prop)
 (hR:K .ret ⟨[(6, .imm (.int .i64 (Aef [] (v.d.map fun x=>(x.1,x.2.chk false (w+1))))))],[]⟩):
 ∀(m i:Nat) (seen:List Ky) (M:List (List UInt8 × Int)),m+i=v.d.length→(∀x,Dz M x=if x∈seen then 1 else 0)→
  Aef [] (v.d.map fun x=>(x.1,x.2.chk false (w+1)))=Aef seen ((v.d.drop i).map fun x=>(x.1,x.2.chk false (w+1)))→Uz w (Bj v.d) v.d.length i M (M9 K):=by
 intro m
 induction m with
 |zero=>
  intro i seen M hi hM he
  refine Aez _ _ _ _ _ _ (Ce (fun h=>by omega) fun _=> ?_)
  rw [List.drop_of_length_le (by omega)]at he
  rw [he]at hR
  exact Awf _ (Aul _ (Awe _ _ hR))
 |succ m ihm=>
  intro i seen M hi hM he
  have hlt:i<v.d.length:=by omega
  have hm:Bq v.d i∈v.d:=by simp [Bq,List.getD_eq_getElem?_getD,hlt]
  have hd:v.d.drop i=Bq v.d i::v.d.drop (i+1):=by rw [List.drop_eq_getElem_cons hlt];simp [Bq,List.getD_eq_getElem?_getD,hlt]
  have hw:=hw (by omega)
  obtain⟨p,hp⟩:∃p,Bq v.d i=p:=⟨_,rfl⟩
  rw [hp]at hm hd
  refine Aez _ _ _ _ _ _ (Ce (fun _=> ?_) fun h=>by omega)
  rw [show(Bj v.d).getD (Int.toNat (i:Int)) []=Bl (Bq v.d i) from Nn _ _ hlt,hp,Bet,A9]
  rw [hd,List.map_cons,Aef]at he
  have i2:∀b:Bool,(b=true↔Gg p.1)→(((bif b then true else decide ((0:Int)<Dz M p.1))=true)↔(Gg p.1∨p.1∈seen)):=by
   intro b hb
   rw [Aja,hb,hM]
   by_cases h:p.1∈seen<;>simp [h]
  have bad:(Gg p.1∨p.1∈seen)→M9 K .ret ⟨[(6, .imm (.int .i64 11))],[]⟩:=by
   intro h
   rw [if_pos h]at he
   rw [he]at hR
   exact Aha _ _ hR
  have good:¬(Gg p.1∨p.1∈seen)→Uq w (Bj v.d) v.d.length i M p.1 (gI (Bl p) 1) (gI (Bl p) 2) (gI (Bl p) 3) (gS (Bl p) 4) (gR (Bl p) 5) (gR (Bl p) 6) (Q0 (M9 K)):=by
   intro h
   rw [if_neg h]at he
   refine Auj _ _ _ _ _ _ _ _ _ _ _ _ _ ?_
   rw [Le,Bc (w+1) (by omega) (by omega)]
   refine Call.use (ih _ hm false (w+1) (by omega) (by omega)) ⟨⟨rfl,rfl⟩, ?_⟩
   rw [Fy]
   refine⟨fun h2=> ?_,fun h2=> ?_⟩
   ·rw [if_pos (ndT h2)]at he
    rw [he]at hR
    exact Awh _ _ (Aha _ _ hR)
   ·rw [if_neg (by simpa using ndF h2)]at he
    refine Awi _ _ _ _ _ _ (Auk _ _ _ _ _ _ ?_)
    rw [Jk i (by omega)]
    refine Awg _ _ _ _ _ _ (ihm (i+1) (seen++[p.1]) _ (by omega) (fun x=> ?_) he)
    rw [Blf,hM,hM,if_neg (show ¬p.1∈seen from fun h3=>h (.inr h3))]
    by_cases hx:x=p.1
    ·rw [if_pos hx,if_pos (by rw [hx];simp)];rfl
    ·rw [if_neg hx]
     by_cases h4:x∈seen
     ·rw [if_pos h4,if_pos (by simp [h4])]
     ·rw [if_neg h4,if_neg (by simp [h4,hx])]
  refine⟨⟨⟨by omega,by omega⟩,Dp _ _ _⟩,Z5 (p:=127<p.1.length) (by rw [Ca];omega) (fun h1=>Call.use (Bpt _) ⟨⟨rfl,rfl⟩,Let.intro (Let.intro (Dt (i2 _ ?_) bad good))⟩) fun h1=>⟨rfl,Let.intro (Let.intro (Dt (i2 _ ?_) bad good))⟩⟩
  ·rw [I7,Ca,Gg]
   exact⟨fun h=> .inr h,fun h=>h.elim (fun h=>absurd h h1) id⟩
  ·exact⟨fun _=> .inl h1,fun _=>rfl⟩
theorem Bql(v:V)(hf:Fit v):CheckAt v:=by
 induction hf with
 |mk v h1 h2 h3 h4 ih1 ih2=>
  intro st w hw0 hw
  rw [Db,Bct]
  refine A1a _ _ _ _ _ _ _ _ _ (Call.use (Bvo v st w) ⟨⟨rfl,rfl⟩, ?_⟩)
  rw [Fy]
  refine⟨fun h=> ?_,fun h=> ?_⟩
  ·rw [if_pos (ndT h)];exact⟨rfl,rfl⟩
  ·have h0:=ndF h
   rw [if_neg (by simpa using h0)]
   rw [List.length_map]
   refine Bqd v h1 ih1 w hw0 (fun hc=>Ati h0 (.inl hc)) _ _ _ _ _ _ _ (fun he=> ?_) (fun he=> ?_) v.l.length 0 rfl (by rw [List.drop_zero])
   ·rw [if_pos he]
    exact Awc _ _ ⟨rfl,rfl⟩
   ·rw [if_neg (by simpa using he)]
    refine Awd _ _ _ _ _ _ _ _ (Aui _ _ _ _ _ _ _ _ ?_)
    rw [List.length_map]
    exact Bqc v h2 ih2 w hw0 (fun hc=>Ati h0 (.inr hc)) _ (Awb _ _ ⟨rfl,rfl⟩) v.d.length 0 [] [] rfl (fun x=>by simp [Dz]) (by rw [List.drop_zero])
theorem Bqi(v:V)(hf:Fit v)(st:Bool):Call E0.P Afs [.imm (.agg v.row), .imm (.bool st)] [] (Is (.imm (.int .i64 (v.chk st 0))) []):=by
 have h:=Bql v hf st 0 (by decide) (by decide)
 rw [Db]at h ⊢
 exact A08 _ _ _ _ _ _ _ _ (Call.use h ⟨⟨rfl,rfl⟩,⟨rfl,rfl⟩⟩)
end Go.Proofs.Sim.Se

import Derived.Test.YtcdjheflchglaaaGreatDoorPaA
set_option maxRecDepth 100000
namespace Go.Proofs.Sim.Se
open Go Go.Proofs Go.Proofs.Sim Go.Proofs.Sim.Va Go.RowKit Go.Proofs.Sim.Pa
abbrev A8s(s:List UInt8)(a:Int):Heap:=[(Nm.arg 0, .blk Aa [.imm (.str s), .imm (.int .i64 a), .own (Nm.arg 1)])]
theorem Baw:∀(n:Fin 64) (d:Fin 8),IntKind.i64.wrap (↑(BitVec.ofInt 64 (IntKind.i64.wrap (((n:Nat):Int)*(2:Int) ^ (3:Nat))) ||| BitVec.ofInt 64 ((d:Nat):Int)).toNat:Int)=((8*(n:Nat)+(d:Nat):Nat):Int):=by decide+kernel
theorem Bai(n:Nat)(hn:n<64)(c:UInt8)(h1:48≤c.toNat)(h2:c.toNat≤55):IntKind.i64.wrap (↑(BitVec.ofInt 64 (IntKind.i64.wrap ((n:Int)*(2:Int) ^ (3:Nat))) ||| BitVec.ofInt 64 (IntKind.i64.wrap (IntKind.u8.wrap ((c.toNat:Int) - 48)))).toNat:Int)=((8*n+(c.toNat - 48):Nat):Int):=by
 rw [wrap_u8 _ (by omega) (by omega),Bb ((c.toNat:Int) - 48) (by omega) (by omega),show(c.toNat:Int) - 48=((c.toNat - 48:Nat):Int)by omega]
 exact Baw ⟨n,hn⟩ ⟨c.toNat - 48,by omega⟩
theorem Bdf:∀v:Fin 512,IntKind.u8.wrap ((v:Nat):Int)=(((UInt8.ofNat (v:Nat)).toNat:Nat):Int):=by decide+kernel
theorem A16:∀(k:Nat) (l:List UInt8) (n i:Nat),k+i=3→n<8 ^ i→(J5 k l n).1<512
 |0,l,n,i,h,hn=>by
  have:i=3:=by omega
  subst this;exact hn
 |k+1,[],n,i,h,hn=>by
  rw [J5]
  have:8 ^ i≤8 ^ 3:=Nat.pow_le_pow_right (by decide) (by omega)
  simp only;omega
 |k+1,c::r,n,i,h,hn=>by
  rw [J5]
  split
  ·rename_i ho
   simp only
   refine A16 k r _ (i+1) (by omega) ?_
   simp [Ak7]at ho
   rw [Nat.pow_succ];omega
  ·have:8 ^ i≤8 ^ 3:=Nat.pow_le_pow_right (by decide) (by omega)
   simp only;omega
theorem Amt(c:UInt8):Ak7 c=true↔48≤c.toNat∧c.toNat≤55:=by simp [Ak7]
section
variable (s:List UInt8) (hs:s.length≤1000000000)
include hs
theorem Bey(K:KK):∀(k i a n:Nat),k+i=3→a≤s.length→n<8 ^ i→K (.exit 0) ⟨[(3, .imm (.int .i64 ((J5 k (s.drop a) n).1:Nat)))],A8s s ((a+(J5 k (s.drop a) n).2:Nat):Int)⟩→Hw n i s a K:=by
 intro k
 induction k with
 |zero=>
  intro i a n hi ha hn hK
  refine R5 _ _ _ _ _ (Co (fun h=>by omega) fun _=> ?_)
  simpa only [J5,Nat.add_zero] using hK
 |succ k ih=>
  intro i a n hi ha hn hK
  refine R5 _ _ _ _ _ (Co (fun _=>Co (fun h=> ?_) fun h=>⟨⟨by omega,by omega⟩, ?_⟩) fun h=>by omega)
  ·rw [List.drop_eq_nil_of_le (by omega)]at hK
   exact Let.intro (Let.intro (brT (by simpa only [J5,Nat.add_zero] using hK)))
  ·have hlt:a<s.length:=by omega
   rw [M4 s a hlt]
   rw [Ip s a hlt,J5]at hK
   refine Let.intro (Let.intro (Gi (p:=¬Ak7 s[a]=true) (by rw [Akf,Amt];simp;omega) (fun h'=> ?_) fun h'=>⟨by decide, ?_⟩))
   ·rw [if_neg h']at hK;exact hK
   ·have h':=Classical.not_not.1 h'
    rw [if_pos h']at hK
    have h2:=(Amt _).1 h'
    have h64:n<64:=Nat.lt_of_lt_of_le hn (Nat.pow_le_pow_right (n:=8) (by decide) (show i≤2 by omega))
    rw [Bai n h64 _ h2.1 h2.2,Ma i (by omega),Ma a (by omega)]
    refine ih (i+1) (a+1) _ (by omega) (by omega) (by rw [Nat.pow_succ];omega) ?_
    rw [show a+1+(J5 k (s.drop (a+1)) (8*n+(s[a].toNat - 48))).2=a+((J5 k (s.drop (a+1)) (8*n+(s[a].toNat - 48))).2+1)by omega]
    exact hK
theorem Bcb(a:Nat)(ha:a≤s.length):Call E0.P Ea [.ptr (.arg 0) 0] (A8s s a) (Is (.imm (.int .u8 ((UInt8.ofNat (J5 3 (s.drop a) 0).1).toNat:Nat))) (A8s s ((a+(J5 3 (s.drop a) 0).2:Nat):Int))):=by
 refine Agc _ _ _ (Bey s hs _ 3 0 a 0 rfl ha (by decide) ?_)
 apply Adq
 refine Ab5 _ _ _ _ ?_
 apply Adb
 rw [Bdf ⟨_,A16 3 (s.drop a) 0 0 rfl (by decide)⟩]
 exact⟨rfl,rfl⟩
theorem Axo(a:Nat)(h:¬a<s.length)(rows:LL):Call E0.P Jw [.ptr (.arg 0) 0] (Tf s a rows) (Is (.imm (.bool false)) (Tf s a rows)):=by
 have _:=hs
 refine Sv _ _ _ _ (Co (fun _=>Aq1 rfl ⟨rfl,rfl⟩) fun h=>by omega)
theorem A71(a:Nat)(h:a<s.length)(t:List UInt8)(k:Nat)(he:Aih (s.drop a)=some (t,k))(out:List UInt8)(ho:out.length≤1000000000):
 Call E0.P Jw [.ptr (.arg 0) 0] (Tf s a (Ba out)) (Is (.imm (.bool true)) (Tf s (a+k:Nat) (Ba (out++t)))):=by
 refine Sv _ _ _ _ (Co (fun h=>by omega) fun _=>⟨⟨by omega,by omega⟩,Ar3 rfl (Call.use (Agk s (by omega) a) ⟨⟨rfl,rfl⟩, ?_⟩)⟩)
 rw [Hd,M4 s a h]
 have hb:=Vh out
 have hdr:=Ip s a h
 rw [hdr,Aih, ←hdr]at he
 refine Gi (p:=0<Rc (s.drop a)) (by rw [Cg];omega) (fun h1=> ?_) fun h1=>Let.intro (Gi (p:=Ak7 s[a]=true) (by rw [Q7,Amt];omega) (fun h2=> ?_) fun h2=> ?_)
 ·rw [if_pos h1]at he
  injection he with he
  injection he with e1 e2
  subst e1;subst e2
  have hn:Rc (s.drop a)≤2:=by
   rw [hdr,Abd];split
   ·omega
   ·split
    ·split
     ·split<;>omega
     ·omega
    ·omega
  rw [wrA a _ (by omega),List.append_nil]
  exact⟨rfl,rfl⟩
 ·rw [if_neg h1,if_pos h2]at he
  injection he with he
  injection he with e1 e2
  subst e1;subst e2
  have leaf:∀Q:QQ,Q (.imm (.bool true)) (Tf s (a+(J5 3 (s.drop a) 0).2:Nat) (Ba (out++[UInt8.ofNat (J5 3 (s.drop a) 0).1])))→Ak (((Ba out).length+1)*1≤140737488355328∧(Ba out).length+1≤140737488355328)
   (Q (.imm (.bool true)) (Tf s (a+(J5 3 (s.drop a) 0).2:Nat) (Ba out++[[IV.int .u8 ((UInt8.ofNat (J5 3 (s.drop a) 0).1).toNat:Nat)]]))):=fun Q hq=>⟨⟨by omega,by omega⟩,by rw [Vt];exact hq⟩
  have leaf:=leaf (Is (.imm (.bool true)) (Tf s (a+(J5 3 (s.drop a) 0).2:Nat) (Ba (out++[UInt8.ofNat (J5 3 (s.drop a) 0).1])))) ⟨rfl,rfl⟩
  repeat' first
   |exact leaf
   |refine And.intro ?_ ?_
   |refine Call.use (Bcb s hs a (Nat.le_of_lt h)) ⟨⟨rfl,rfl⟩, ?_⟩
 ·rw [if_neg h1,if_neg h2]at he
  injection he with he
  injection he with e1 e2
  subst e1;subst e2
  have fin:∀c:UInt8,Aos s[a]=c→∀n:Int,n=(c.toNat:Int)→Bt n s (IntKind.i64.wrap ((a:Int)+1)) (Ba out) (Cb s a (Ba out) (Is (.imm (.bool true)) (Tf s (a+1:Nat) (Ba (out++[Aos s[a]]))))):=by
   intro c hc n hn
   subst hn
   rw [Ma a (by omega)]
   refine Aa1 _ _ _ _ _ ⟨⟨by omega,by omega⟩, ?_⟩
   apply Acb
   rw [Vt,hc]
   exact⟨rfl,rfl⟩
  have L:Aos s[a]=if s[a].toNat=110 then 10 else if s[a].toNat=114 then 13 else if s[a].toNat=116 then 9 else if s[a].toNat=98 then 8 else if s[a].toNat=102 then 12 else s[a]:=rfl
  refine Co (fun e=>fin 10 ?_ _ rfl) fun e1=>Co (fun e=>fin 13 ?_ _ rfl) fun e2=>Co (fun e=>fin 9 ?_ _ rfl) fun e3=>Co (fun e=>fin 8 ?_ _ rfl) fun e4=>Co (fun e=>fin 12 ?_ _ rfl) fun e5=>fin s[a] ?_ _ rfl
  ·rw [L,if_pos (by omega)]
  ·rw [L,if_neg (by omega),if_pos (by omega)]
  ·rw [L,if_neg (by omega),if_neg (by omega),if_pos (by omega)]
  ·rw [L,if_neg (by omega),if_neg (by omega),if_neg (by omega),if_pos (by omega)]
  ·rw [L,if_neg (by omega),if_neg (by omega),if_neg (by omega),if_neg (by omega),if_pos (by omega)]
  ·rw [L,if_neg (by omega),if_neg (by omega),if_neg (by omega),if_neg (by omega),if_neg (by omega)]
end
end Go.Proofs.Sim.Se
set_option maxRecDepth 100000
namespace Go.Proofs.Sim.Se
open Go Go.Proofs Go.Proofs.Sim Go.Proofs.Sim.Va Go.RowKit Go.Proofs.Sim.Pa
theorem A0o:∀l:List UInt8,Rc l≤l.length∧Rc l≤2
 | []=>⟨Nat.le_refl _,by decide⟩
 | [c]=>by
   rw [Abd];simp only [List.length_cons,List.length_nil]
   split
   ·omega
   ·split<;>omega
 |c::d::r=>by
  rw [Abd];simp only [List.length_cons]
  split
  ·omega
  ·split
   ·split<;>omega
   ·omega
theorem A2f:∀(k:Nat) (l:List UInt8) (n:Nat),(J5 k l n).2≤l.length
 |0,l,n=>by rw [J5];exact Nat.zero_le _
 |k+1,[],n=>by rw [J5];exact Nat.zero_le _
 |k+1,c::r,n=>by
  rw [J5];split
  ·have:=A2f k r (8*n+(c.toNat - 48));simp only [List.length_cons];omega
  ·exact Nat.zero_le _
theorem A4e {l t:List UInt8} {k:Nat} (h:Aih l=some (t,k)):1≤k∧k≤l.length∧t.length≤1:=by
 rcases l with _ |⟨c,r⟩
 ·cases h
 ·rw [Aih]at h
  have he:=A0o (c::r)
  split at h
  ·injection h with h;injection h with h1 h2;subst h1;subst h2
   exact⟨by omega,he.1,by simp⟩
  ·split at h
   ·rename_i ho
    injection h with h;injection h with h1 h2;subst h1;subst h2
    refine⟨?_,A2f _ _ _,by simp⟩
    rw [J5,if_pos ho];simp only;omega
   ·injection h with h;injection h with h1 h2;subst h1;subst h2
    simp
theorem Bem:∀h:Fin 16,IntKind.u8.wrap (IntKind.i64.wrap (((h:Nat):Int)*(2:Int) ^ (4:Nat)))=(((UInt8.ofNat (16*(h:Nat))).toNat:Nat):Int):=by decide+kernel
theorem Bcx:∀h l:Fin 16,IntKind.u8.wrap (↑(BitVec.ofInt 8 (((UInt8.ofNat (16*(h:Nat))).toNat:Nat):Int) ||| BitVec.ofInt 8 (IntKind.u8.wrap ((l:Nat):Int))).toNat:Int)=(((UInt8.ofNat (16*(h:Nat)+(l:Nat))).toNat:Nat):Int):=by decide+kernel
theorem A85(out:List UInt8)(x y:UInt8):(Ba (out++[x])).set out.length [IV.int .u8 (y.toNat:Int)]=Ba (out++[y]):=by
 simp [Ba]
theorem A72(out:List UInt8)(x:UInt8):(Ba (out++[x])).getD out.length []=[IV.int .u8 (x.toNat:Int)]:=by
 simp [Ba,List.getD_eq_getElem?_getD]
section
variable (s:List UInt8) (hs:s.length≤1000000000)
include hs
abbrev TxL(s:List UInt8)(d:Int)(a:Nat)(out:List UInt8)(K:KK):Prop:=Ia d s a 0 0 [] 0 0 (Ba out) K
theorem Bd5(at_:Int)(out0:LL)(Q:QQ)(X:Part)(hQ:∀r h,ScQ s 3 X r h→Q r h):∀(m a:Nat) (out:List UInt8) (d:Nat),s.length<a+m→a≤s.length→out.length≤a→1≤d→d≤a+1→Je m (s.drop a) out d a=X→TxL s d a out (Gm s at_ out0 Q):=by
 have short:∀(a:Nat) (out:List UInt8),X=([],0,5)→Gm s at_ out0 Q (.exit 0) ⟨[(2, .ptr (Nm.loc 2) 0)],[(Nm.loc 2, .blk Aq [.imm (.int .i64 0), .imm (.int .i64 0), .imm (.str []), .imm (.int .i64 0), .imm (.int .i64 0)]),(Nm.arg 0, .blk Aa [.imm (.str s), .imm (.int .i64 a), .own (Nm.arg 1)]),(Nm.arg 1, .arr (Aj+2) true 1 (Ba out))]⟩:=by
  intro a out hx
  apply Aeo
  refine Ade _ _ _ _ _ _ _ _ _ ?_
  apply Aei
  exact hQ _ _ (hx ▸ Aa8 (by decide))
 intro m
 induction m with
 |zero=>intro a out d hm ha;omega
 |succ m ih=>
  intro a out d hm ha ho hd1 hd2 hX
  have hb:=Vh out
  by_cases h:a<s.length
  case neg=>
   rw [List.drop_eq_nil_of_le (by omega)]at hX
   exact Sz _ _ _ _ _ _ _ _ _ _ (Co (fun h=>by omega) fun _=>short a out hX.symm)
  have hdr:=Ip s a h
  have he:=A0o (s.drop a)
  rw [List.length_drop]at he
  rw [hdr,Je, ←hdr]at hX
  have push:∀(c:UInt8) (d' b:Nat),a<b→b≤s.length→1≤d'→d'≤b+1→(X=if 65535≤out.length then([],0,8)else Je m (s.drop b) (out++[c]) d' b)→∀n:Int,n=(c.toNat:Int)→F5 d' n s b 0 0 [] 0 0 (Ba out) (Eu (Gm s at_ out0 Q)):=by
   intro c d' b hab hbs h1 h2 hx n hn
   subst hn
   refine R7 _ _ _ _ _ _ _ _ _ _ _ (Co (fun h=>by omega) fun _=>⟨⟨by omega,by omega⟩, ?_⟩)
   rw [Vt,Vh]
   have hl:(out++[c]).length=out.length+1:=by simp
   refine Co (fun h=> ?_) fun h=> ?_
   ·rw [hl]at h
    rw [if_pos (by omega)]at hx
    apply Sw
    apply Lu
    exact hQ _ _ (hx ▸ Aa8 (by decide))
   ·rw [hl]at h
    rw [if_neg (by omega)]at hx
    apply Ae0
    exact ih b (out++[c]) d' (by omega) hbs (by omega) h1 h2 hx.symm
  refine Sz _ _ _ _ _ _ _ _ _ _ (Co (fun _=>⟨⟨by omega,by omega⟩,Call.use (Agk s (by omega) a) ⟨⟨rfl,rfl⟩, ?_⟩⟩) fun h=>by omega)
  rw [Hd,M4 s a h]
  refine Gi (p:=0<Rc (s.drop a)) (by rw [Cg];omega) (fun h1=> ?_) fun h1=> ?_
  ·rw [if_pos h1,List.drop_drop]at hX
   have e:(if((Rc (s.drop a):Nat):Int)>1 then((Rc (s.drop a):Nat):Int)else 1)=((Rc (s.drop a):Nat):Int):=by split<;>omega
   rw [e,wrA a _ (by omega)]
   exact push 10 d _ (by omega) (by omega) hd1 (by omega) hX.symm 10 rfl
  rw [if_neg h1]at hX
  rw [if_neg (show ¬((Rc (s.drop a):Nat):Int)>1 by omega),Ma a (by omega)]
  refine Co (fun h92=> ?_) fun h92=> ?_
  ·rw [if_pos (by omega)]at hX
   by_cases h2:a+1<s.length
   ·rcases hesc:Aih (s.drop (a+1))with _ |⟨t,k⟩
    ·rw [Ip s (a+1) h2,Aih]at hesc
     split at hesc
     ·cases hesc
     ·split at hesc<;>cases hesc
    ·rw [hesc]at hX
     have hk:=A4e hesc
     rw [List.length_drop]at hk
     refine Call.use (A71 s hs (a+1) h2 t k hesc out (by omega)) ⟨⟨rfl,rfl⟩,Ar3 rfl ?_⟩
     have e2:Da (Tf s (a+1+k:Nat) (Ba (out++t))) (Nm.arg 1)=Ba (out++t):=rfl
     rw [e2,Vh]
     have hl:(out++t).length=out.length+t.length:=by simp
     simp only [List.drop_drop]at hX
     refine Co (fun h=> ?_) fun h=> ?_
     ·rw [hl]at h
      rw [if_pos (by omega)]at hX
      apply Lu
      exact hQ _ _ (hX ▸ Aa8 (by decide))
     ·rw [hl]at h
      rw [if_neg (by omega)]at hX
      exact ih (a+1+k) (out++t) d (by omega) (by omega) (by omega) hd1 (by omega) hX
   ·rw [List.drop_eq_nil_of_le (show s.length≤a+1 by omega),Aih]at hX
    refine Call.use (Axo s hs (a+1) h2 _) ⟨⟨rfl,rfl⟩,Aq1 rfl ?_⟩
    exact short (a+1) out hX.symm
  rw [if_neg (by omega)]at hX
  refine Co (fun h40=> ?_) fun h40=> ?_
  ·rw [if_neg (by omega),if_pos (show s[a].toNat=40 by omega)]at hX
   rw [Ma d (by omega)]
   exact push s[a] (d+1) (a+1) (by omega) (by omega) (by omega) (by omega) (by rw [←hX];simp) _ rfl
  rw [if_neg (show ¬s[a].toNat=40 by omega)]at hX
  refine Co (fun h41=> ?_) fun h41=> ?_
  ·rw [if_pos (show s[a].toNat=41 by omega)]at hX
   rw [Bb ((d:Int) - 1) (by omega) (by omega)]
   by_cases h1:d=1
   ·subst h1
    rw [if_pos ⟨by omega,by simp⟩]at hX
    refine R7 _ _ _ _ _ _ _ _ _ _ _ (Co (fun _=>⟨Ae9 _, ?_⟩) fun h=>by omega)
    apply Sw
    apply Lu
    rw [Aop]
    exact hQ _ _ (hX ▸ Ays)
   ·rw [if_neg (fun h=>h1 (by have:=h.2;omega))]at hX
    rw [show(d:Int) - 1=((d - 1:Nat):Int)by omega]at hX ⊢
    exact push s[a] (d - 1) (a+1) (by omega) (by omega) (by omega) (by omega) hX.symm _ rfl
  ·rw [if_neg (by omega),if_neg (show ¬s[a].toNat=41 by omega)]at hX
   exact push s[a] d (a+1) (by omega) (by omega) hd1 (by omega) hX.symm _ rfl
theorem Bdk(a:Nat)(ha:a<s.length):Call E0.P P5 [.ptr (.arg 0) 0] (Tf s a []) (ScQ s 3 (Je ((s.drop (a+1)).length+1) (s.drop (a+1)) [] 1 (a+1))):=by
 refine Ag7 _ _ _ _ ?_
 rw [Ma a (by omega)]
 exact Bd5 s hs a [] _ _ (fun _ _ h=>h) _ (a+1) [] 1 (by rw [List.length_drop];omega) (by omega) (by simp) (by omega) (by omega) rfl
def hxO(half:Int)(out:List UInt8):List UInt8:=if half<0 then out else out++[Wi (16*half)]
def Bdp(s:List UInt8)(K:KK)(a many:Nat)(rows:LL):Prop:=
 (∀h:a<s.length,Fg (s[a].toNat:Int) true 0 0 [] 0 0 many s a rows K)∧(¬a<s.length→Fg 0 false 0 0 [] 0 0 many s a rows K)
theorem Az7(K:KK)(a many:Nat)(ha:a≤s.length)(hm:many≤a)(rows:LL)(hb:65535<many / 2→Dk K .ret ⟨[(2, .ptr (Nm.loc 2) 0),(3, .imm (.int .i64 8))],[(Nm.loc 2, .blk Aq [.imm (.int .i64 0), .imm (.int .i64 0), .imm (.str []), .imm (.int .i64 0), .imm (.int .i64 0)]),(Nm.arg 0, .blk Aa [.imm (.str s), .imm (.int .i64 a), .own (Nm.arg 1)]),(Nm.arg 1, .arr (Aj+2) true 1 rows)]⟩)(h:¬65535<many / 2→Bdp s K a many rows):D8 0 0 [] 0 0 many s a rows (Dk K):=by
 refine Aee _ _ _ _ _ _ _ _ _ _ ⟨by decide, ?_⟩
 rw [show((many:Int)).tdiv 2=((many / 2:Nat):Int) from rfl,Be5 _ (by omega)]
 refine Co (fun h=>hb (by omega)) fun h0=> ?_
 have h:=h (by omega)
 apply Agx
 refine Aem _ _ _ _ _ _ _ _ _ _ (Co (fun h'=> ?_) fun h'=>⟨⟨by omega,by omega⟩, ?_⟩)
 ·apply Ue
  exact h.2 (by omega)
 ·have hlt:a<s.length:=by omega
  rw [M4 s a hlt]
  apply Ue
  exact h.1 hlt
theorem Bew(at_:Int)(out0:LL)(Q:QQ)(X:Part)(hQ:∀r h,ScQ s 3 X r h→Q r h):∀(m a many:Nat) (out:List UInt8) (half:Int),s.length≤a+m→a≤s.length→many≤a→out.length+(if half<0 then 0 else 1)≤a→ -1≤half→half≤15→many=2*out.length+(if half<0 then 0 else 1)→out.length≤65535→O8 (s.drop a) half out a=X→
 Bdp s (Dv s at_ out0 Q) a many (Ba (hxO half out)):=by
 have off:∀(a many:Nat) (rows:List UInt8),¬a<s.length→X=([],0,5)→Fg 0 false 0 0 [] 0 0 many s a (Ba rows) (Dv s at_ out0 Q):=by
  intro a many rows h hX
  refine Uf _ _ _ _ _ _ _ _ _ _ _ _ (brF ?_)
  apply Agj
  refine Ad8 _ _ _ _ _ _ _ _ _ ?_
  apply Agm
  exact hQ _ _ (hX ▸ Aa8 (by decide))
 have offX:∀(a:Nat) (half:Int) (out:List UInt8),¬a<s.length→O8 (s.drop a) half out a=X→X=([],0,5):=by
  intro a half out h hX
  rw [List.drop_eq_nil_of_le (by omega)]at hX
  exact hX.symm
 intro m
 induction m with
 |zero=>intro a many out half hm ha hy ho h0 h1 hp hmx hX;exact⟨fun h=>by omega,fun h=>off a many _ h (offX a half out h hX)⟩
 |succ m ih=>
  intro a many out half hm ha hy ho h0 h1 hp hmx hX
  refine⟨fun h=> ?_,fun h=>off a many _ h (offX a half out h hX)⟩
  have hd:=Am0 s[a]
  have hb:(Ba (hxO half out)).length=out.length+(if half<0 then 0 else 1):=by
   rw [Vh];unfold hxO;split<;>simp
  rw [Ip s a h,O8]at hX
  refine Uf _ _ _ _ _ _ _ _ _ _ _ _ (brT (Call.use (Wn _) ⟨⟨rfl,rfl⟩, ?_⟩))
  rw [Hd,Ma a (by omega)]
  have bad2:∀(e:Int) (o:List UInt8),e≠0→X=([],0,e)→Dv s at_ out0 Q .ret ⟨[(2, .ptr (Nm.loc 2) 0),(3, .imm (.int .i64 e))],[(Nm.loc 2, .blk Aq [.imm (.int .i64 0), .imm (.int .i64 0), .imm (.str []), .imm (.int .i64 0), .imm (.int .i64 0)]),(Nm.arg 0, .blk Aa [.imm (.str s), .imm (.int .i64 (a+1:Nat)), .own (Nm.arg 1)]),(Nm.arg 1, .arr (Aj+2) true 1 (Ba o))]⟩:=by
   intro e o he hx
   apply M9
   exact hQ _ _ (hx ▸ Aa8 he)
  have bad:∀(e:Int),e≠0→X=([],0,e)→Dv s at_ out0 Q .ret ⟨[(2, .ptr (Nm.loc 2) 0),(3, .imm (.int .i64 e))],[(Nm.loc 2, .blk Aq [.imm (.int .i64 0), .imm (.int .i64 0), .imm (.str []), .imm (.int .i64 0), .imm (.int .i64 0)]),(Nm.arg 0, .blk Aa [.imm (.str s), .imm (.int .i64 (a+1:Nat)), .own (Nm.arg 1)]),(Nm.arg 1, .arr (Aj+2) true 1 (Ba (hxO half out)))]⟩:=by
   intro e he hx
   apply M9
   exact hQ _ _ (hx ▸ Aa8 he)
  refine Co (fun h62=> ?_) fun h62=> ?_
  ·rw [if_pos (by omega)]at hX
   rw [hb]
   refine Co (fun h'=> ?_) fun h'=>⟨Ae9 _, ?_⟩
   ·by_cases hh:half<0
    ·rw [if_pos hh]at h';omega
    ·rw [if_neg hh]at h'
     rw [if_neg hh,if_pos (by omega)]at hX
     exact bad 8 (by decide) hX.symm
   ·apply M9
    rw [Aop]
    refine hQ _ _ ?_
    have:X=(hxO half out,a+1,0):=by
     rw [←hX];unfold hxO
     by_cases hh:half<0
     ·rw [if_pos hh,if_pos hh]
     ·rw [if_neg hh]at h'
      rw [if_neg hh,if_neg (by omega),if_neg hh]
    rw [this]
    exact Ays
  rw [if_neg (by omega)]at hX
  refine Co (fun hv=> ?_) fun hv=> ?_
  ·rw [if_neg (by omega)]at hX
   refine⟨by decide, ?_⟩
   rw [Ma many (by omega),show((many+1:Nat):Int).tmod 2=(((many+1) % 2:Nat):Int) from rfl]
   refine Gi (p:=half<0) (by rw [Cg];split at hp<;>omega) (fun hh=>⟨by decide, ?_⟩) fun hh=> ?_
   ·rw [if_pos hh]at hX hp ho hb
    have e:IntKind.u8.wrap (IntKind.i64.wrap (Cy s[a]*(2:Int) ^ (4:Nat)))=(((Wi (16*Cy s[a])).toNat:Nat):Int):=by
     have:=Bem ⟨(Cy s[a]).toNat,by omega⟩
     simp only [Int.toNat_of_nonneg hv]at this
     rw [this];unfold Wi
     rw [show(16*Cy s[a]).toNat=16*(Cy s[a]).toNat by omega]
    rw [e,Vt]
    have e2:hxO half out++[Wi (16*Cy s[a])]=hxO (Cy s[a]) out:=by
     unfold hxO;rw [if_pos hh,if_neg (by omega)]
    rw [e2]
    have go:=Az7 s hs _ (a+1) (many+1) (by omega) (by omega) _ (fun h=>by omega) fun _=>(ih (a+1) (many+1) out (Cy s[a]) (by omega) (by omega) (by omega) (by rw [if_neg (by omega)];omega) (by omega) hd.2 (by rw [if_neg (by omega)];omega) hmx hX)
    have leaf:Ak (((Ba (hxO half out)).length+1)*1≤140737488355328∧(Ba (hxO half out)).length+1≤140737488355328) (D8 0 0 [] 0 0 (many+1:Nat) s (a+1:Nat) (Ba (hxO (Cy s[a]) out)) (Dk (Dv s at_ out0 Q))):=⟨⟨by omega,by omega⟩,go⟩
    exact⟨leaf,leaf,leaf⟩
   ·rw [if_neg hh]at hX hp ho hb
    have eo:hxO half out=out++[Wi (16*half)]:=by unfold hxO;rw [if_neg hh]
    rw [hb]
    rw [show IntKind.i64.wrap (((out.length+1:Nat):Int) - 1)=(out.length:Int)by rw [Bb _ (by omega) (by omega)];omega,Int.toNat_natCast]
    rw [eo,A72]
    refine⟨⟨by omega,by omega⟩,⟨⟨by omega,rfl⟩,⟨⟨by omega,by omega⟩,⟨by omega, ?_⟩⟩⟩⟩
    have e:IntKind.u8.wrap (↑(BitVec.ofInt 8 (gI (List.take 1 (List.drop 0 [IV.int .u8 ((Wi (16*half)).toNat:Int)])) 0) ||| BitVec.ofInt 8 (IntKind.u8.wrap (Cy s[a]))).toNat:Int)=(((Wi (16*half+Cy s[a])).toNat:Nat):Int):=by
     have:=Bcx ⟨half.toNat,by omega⟩ ⟨(Cy s[a]).toNat,by omega⟩
     simp only [Int.toNat_of_nonneg hv]at this
     unfold Wi
     rw [show(16*half).toNat=16*half.toNat by omega,show(16*half+Cy s[a]).toNat=16*half.toNat+(Cy s[a]).toNat by omega]
     exact this
    rw [e,A85]
    have e3:out++[Wi (16*half+Cy s[a])]=hxO (-1) (out++[Wi (16*half+Cy s[a])]):=rfl
    rw [e3]
    refine Az7 s hs _ (a+1) (many+1) (by omega) (by omega) _ (fun h=> ?_) fun h=> ?_
    ·rw [if_pos (by omega)]at hX
     apply Agb
     exact bad2 8 _ (by decide) hX.symm
    ·rw [if_neg (by omega)]at hX
     exact ih (a+1) (many+1) (out++[Wi (16*half+Cy s[a])]) (-1) (by omega) (by omega) (by omega) (by rw [if_pos (by omega)];simp;omega) (by omega) (by omega) (by rw [if_pos (by omega)];simp;omega) (by simp;omega) hX
  ·rw [if_pos (by omega)]at hX
   refine Call.use (A8y _) ⟨⟨rfl,rfl⟩, ?_⟩
   rw [Hd]
   refine brN Cg (fun hk=> ?_) fun hk=> ?_
   ·rw [if_neg hk]at hX
    exact bad 4 (by decide) hX.symm
   ·rw [if_pos hk]at hX
    exact Az7 s hs _ (a+1) many (by omega) (by omega) _ (fun h=>by split at hp<;>omega) fun _=>(ih (a+1) many out half (by omega) (by omega) (by omega) (by omega) h0 h1 hp hmx hX)
theorem Bes(a:Nat)(ha:a<s.length):Call E0.P Qw [.ptr (.arg 0) 0] (Tf s a []) (ScQ s 3 (O8 (s.drop (a+1)) (-1) [] (a+1))):=by
 have h:=Bew s hs a [] (ScQ s 3 (O8 (s.drop (a+1)) (-1) [] (a+1))) _ (fun _ _ h=>h) s.length (a+1) 0 [] (-1) (by omega) (by omega) (by omega) (by rw [if_pos (by omega)];simp) (by omega) (by omega) (by rw [if_pos (by omega)];rfl) (by simp) rfl
 refine Aia _ _ _ _ ?_
 rw [Ma a (by omega)]
 refine Co (fun h'=>h.2 (by omega)) fun h'=>⟨⟨by omega,by omega⟩, ?_⟩
 rw [M4 s (a+1) (by omega)]
 exact h.1 (by omega)
end
end Go.Proofs.Sim.Se
set_option maxRecDepth 100000
namespace Go.Proofs.Sim.Se
open Go Go.Proofs Go.Proofs.Sim Go.Proofs.Sim.Va Go.RowKit Go.Proofs.Sim.Pa
def TkQ(s:List UInt8)(t:Tk):AV→Heap→Prop:=fun r h=>∃(b:Nat) (l:List UInt8),h=Tf s b (Ba l)∧r=Azf t.k t.n t.s 0 0 t.e∧(t.e=0→b=t.b)
abbrev nxA(t:Tk):AV:=Azf t.k t.n t.s t.a t.b t.e
theorem Aup(k:Int)(p:Nat)(x:Part):((partT k p x).e=0→(partT k p x).a=p)∧((partT k p x).e≠0→partT k p x=Adl (partT k p x).e):=by
 unfold partT;split
 ·exact⟨fun _=>rfl,fun h=>absurd rfl h⟩
 ·rename_i h;exact⟨fun h'=>absurd h' h,fun _=>rfl⟩
theorem Bb0(l:List UInt8)(p:Nat):((N9 l p).e=0→(N9 l p).a=p)∧((N9 l p).e≠0→N9 l p=Adl (N9 l p).e):=by
 unfold N9;split
 ·exact⟨fun _=>rfl,fun h=>absurd rfl h⟩
 ·split
  ·exact⟨fun h=>(by cases h),fun _=>rfl⟩
  ·split
   ·exact⟨fun h=>(by cases h),fun _=>rfl⟩
   ·exact⟨fun _=>rfl,fun h=>absurd rfl h⟩
theorem Bcs(c:UInt8)(r:List UInt8)(p:Nat):((Jc c r p).e=0→(Jc c r p).a=p)∧((Jc c r p).e≠0→Jc c r p=Adl (Jc c r p).e):=by
 unfold Jc
 split
 ·exact⟨fun _=>rfl,fun h=>absurd rfl h⟩
 split
 ·exact⟨fun _=>rfl,fun h=>absurd rfl h⟩
 split
 ·exact Aup _ _ _
 split
 ·exact Aup _ _ _
 split
 ·split
  ·exact⟨fun _=>rfl,fun h=>absurd rfl h⟩
  ·exact Aup _ _ _
 split
 ·split
  ·exact⟨fun _=>rfl,fun h=>absurd rfl h⟩
  ·exact⟨fun h=>(by cases h),fun _=>rfl⟩
 split
 ·exact⟨fun h=>(by cases h),fun _=>rfl⟩
 ·exact Bb0 _ _
theorem Aqv {s:List UInt8} {k:Int} {p:Nat} {x:Part} {r:AV} {h:Heap} (hx:ScQ s k x r h):TkQ s (partT k p x) r h:=by
 obtain⟨a,l,e1,e2,e3,e4⟩:=hx
 refine⟨a,l,e1, ?_⟩
 unfold partT
 by_cases he:x.2.2=0
 ·rw [if_pos he]at*
  rw [he]at e2
  exact⟨e2,fun _=>e3 he⟩
 ·rw [if_neg he]at*
  rw [e4 he]at e2
  exact⟨e2,fun h=>absurd h he⟩
theorem Bb7(s:List UInt8)(a:Nat)(c:UInt8):(s.drop a).head?=some c↔∃h:a<s.length,s[a]=c:=by
 by_cases h:a<s.length
 ·rw [Ip s a h];simp [h]
 ·rw [List.drop_eq_nil_of_le (by omega)];simp [h]
theorem A68(s:List UInt8)(a w:Nat):List.drop a (List.take (a+w) s)=(s.drop a).take w:=by
 rw [List.drop_take];simp
theorem Bee {c:UInt8} {n:Nat} (hn:n<256):c=UInt8.ofNat n↔c.toNat=n:=⟨fun h=>by rw [h];exact UInt8.toNat_ofNat_of_lt' hn,fun h=>UInt8.toNat_inj.1 (by rw [h];exact(UInt8.toNat_ofNat_of_lt' hn).symm)⟩
theorem Awy:∀(b:Bool) (l:List UInt8) (c:UInt8) (r:List UInt8),l.drop (Fu b l)=c::r→c.toNat≠37
 |_,[],c,r,h=>by simp [Fu]at h
 |b,x::l,c,r,h=>by
  rw [Fu]at h
  by_cases hx:Lt b x=false∧kd x≠0
  ·rw [if_pos hx,List.drop_zero]at h
   injection h with h1 h2
   subst h1
   intro e
   have:Lt b x=true:=by unfold Lt;rw [if_neg (by omega),if_pos e]
   rw [this]at hx;cases hx.1
  ·rw [if_neg hx,List.drop_succ_cons]at h
   exact Awy _ l c r h
section
variable (s:List UInt8) (hs:s.length≤1000000000)
include hs
theorem Bcp(a:Nat)(ha:a<s.length):Call E0.P Qf [.ptr (.arg 0) 0] (Tf s a []) (TkQ s (N9 (s.drop a) a)):=by
 have hw:=Ae8 2 (s.drop a)
 rw [List.length_drop]at hw
 refine Ahb _ _ _ _ (Call.use (Z7 2 s (by omega) a (by omega)) ⟨⟨rfl,rfl⟩, ?_⟩)
 rw [Hd,wrA a _ (by omega),Int.toNat_natCast,Int.toNat_natCast,A68]
 refine⟨⟨by omega,by omega,by omega⟩,Let.intro ?_⟩
 have hl:((s.drop a).take (Cs 2 (s.drop a))).length=Cs 2 (s.drop a):=by rw [List.length_take,List.length_drop];omega
 rw [hl,wrA a _ (by omega)]
 refine Call.use (Awe _ (by omega)) ⟨⟨rfl,rfl⟩, ?_⟩
 rw [show rI (rT (isP (Gg ((s.drop a).take (Cs 2 (s.drop a))))) 0)=(Gg ((s.drop a).take (Cs 2 (s.drop a)))).1 from rfl,show rI (rT (isP (Gg ((s.drop a).take (Cs 2 (s.drop a))))) 1)=(Gg ((s.drop a).take (Cs 2 (s.drop a)))).2 from rfl]
 unfold N9
 refine Co (fun e=> ?_) fun e=>Co (fun e2=> ?_) fun e2=>Co (fun e3=> ?_) fun e3=> ?_
 ·rw [if_pos e];exact⟨_,[],rfl,rfl,fun _=>rfl⟩
 ·rw [if_neg e,if_pos e2,e2];exact⟨_,[],rfl,rfl,fun h=>by cases h⟩
 ·rw [if_neg e,if_neg e2,if_pos (by omega)];exact⟨_,[],rfl,rfl,fun h=>by cases h⟩
 ·rw [if_neg e,if_neg e2,if_neg (by omega)];exact⟨_,[],rfl,rfl,fun _=>rfl⟩
theorem Awz(a:Nat)(h:a<s.length)(n:Nat)(hn:n<256)(hc:s[a].toNat=n):((bif decide (IntKind.i64.wrap ((a:Int)+1)<(s.length:Int))then decide (((s.getD (IntKind.i64.wrap ((a:Int)+1)).toNat 0).toNat:Int)=(s[a].toNat:Int))else false)=true)↔(s.drop (a+1)).head?=some (UInt8.ofNat n):=by
 rw [Ma a (by omega),Q7,Bb7]
 constructor
 ·rintro⟨h1,h2⟩
  have h3:a+1<s.length:=by omega
  rw [M4 s (a+1) h3]at h2
  exact⟨h3,(Bee hn).2 (by omega)⟩
 ·rintro⟨h3,h2⟩
  have h2:=(Bee hn).1 h2
  rw [M4 s (a+1) h3]
  exact⟨by omega,by omega⟩
theorem Ayv(a:Nat):decide (IntKind.i64.wrap ((a:Int)+1)<(s.length:Int))=true→a<s.length→(0:Int)≤IntKind.i64.wrap ((a:Int)+1)∧IntKind.i64.wrap ((a:Int)+1)<(s.length:Int):=by
 intro h h2
 have:=of_decide_eq_true h
 rw [Ma a (by omega)]at this ⊢
 omega
theorem Bae(a:Nat)(h:a<s.length)(h37:s[a].toNat≠37):Call E0.P O5 [.ptr (.arg 0) 0] (Tf s a []) (TkQ s (Jc s[a] (s.drop (a+1)) a)):=by
 have hs9:s.length≤1000000000:=by omega
 refine Afh _ _ _ _ ⟨⟨by omega,by omega⟩, ?_⟩
 rw [M4 s a h]
 unfold Jc
 refine Co (fun e=> ?_) fun e1=>Co (fun e=> ?_) fun e2=>Co (fun e=> ?_) fun e3=>Co (fun e=> ?_) fun e4=>Co (fun e=> ?_) fun e5=>Co (fun e=> ?_) fun e6=> ?_
 ·rw [if_pos (by omega),Ma a (by omega)];exact⟨_,[],rfl,rfl,fun _=>rfl⟩
 ·rw [if_neg (by omega),if_pos (by omega),Ma a (by omega)];exact⟨_,[],rfl,rfl,fun _=>rfl⟩
 ·rw [if_neg (by omega),if_neg (by omega),if_pos (by omega)]
  refine(Bd7 s hs9 a h).mono fun r g hx=> ?_
  have hx':=Aqv (p:=a) hx
  obtain⟨b,l,e1,e2,_⟩:=hx
  subst e1;subst e2
  exact⟨⟨rfl,rfl⟩,hx'⟩
 ·rw [if_neg (by omega),if_neg (by omega),if_neg (by omega),if_pos (by omega)]
  refine(Bdk s hs a h).mono fun r g hx=> ?_
  have hx':=Aqv (p:=a) hx
  obtain⟨b,l,e1,e2,_⟩:=hx
  subst e1;subst e2
  exact⟨⟨rfl,rfl⟩,hx'⟩
 ·rw [if_neg (by omega),if_neg (by omega),if_neg (by omega),if_neg (by omega),if_pos (by omega)]
  refine⟨fun h'=>Ayv s hs a h' h,⟨fun _=>⟨by omega,by omega⟩,Let.intro (Gi (p:=(s.drop (a+1)).head?=some 60) (Awz s hs a h 60 (by omega) (by omega)) (fun h2=> ?_) fun h2=> ?_)⟩⟩
  ·rw [if_pos h2,wr2 a (by omega)];exact⟨_,[],rfl,rfl,fun _=>rfl⟩
  ·rw [if_neg h2]
   refine(Bes s hs a h).mono fun r g hx=> ?_
   have hx':=Aqv (p:=a) hx
   obtain⟨b,l,e1,e2,_⟩:=hx
   subst e1;subst e2
   exact⟨⟨rfl,rfl⟩,hx'⟩
 ·rw [if_neg (by omega),if_neg (by omega),if_neg (by omega),if_neg (by omega),if_neg (by omega),if_pos (by omega)]
  refine⟨fun h'=>Ayv s hs a h' h,⟨fun _=>⟨by omega,by omega⟩,Let.intro (Gi (p:=(s.drop (a+1)).head?=some 62) (Awz s hs a h 62 (by omega) (by omega)) (fun h2=> ?_) fun h2=> ?_)⟩⟩
  ·rw [if_pos h2,wr2 a (by omega)];exact⟨_,[],rfl,rfl,fun _=>rfl⟩
  ·rw [if_neg h2];exact⟨_,[],rfl,rfl,fun h=>by cases h⟩
 ·rw [if_neg (by omega),if_neg (by omega),if_neg (by omega),if_neg (by omega),if_neg (by omega),if_neg (by omega)]
  have one:∀b:Bool,(b=true↔kd s[a]=1)→G7 b s a 0 0 [] 0 0 [] (F3 s a [] (TkQ s (if kd s[a]=1 then Adl 4 else N9 (s[a]::s.drop (a+1)) a))):=by
   intro b hb
   refine Ab8 _ _ _ _ _ _ _ _ _ _ (Gi hb (fun hk=> ?_) fun hk=> ?_)
   ·rw [if_pos hk]
    apply Adf
    exact⟨a,[],rfl,rfl,fun h=>by cases h⟩
   ·rw [if_neg hk, ←Ip s a h]
    apply Ac0
    refine Acg _ _ _ _ _ _ _ _ _ ((Bcp s hs a h).mono fun r g hx=> ?_)
    have hx':=hx
    obtain⟨b,l,e1,e2,_⟩:=hx
    subst e1;subst e2
    refine⟨⟨rfl,rfl⟩, ?_⟩
    apply Ac6
    exact hx'
  have kk:∀p:Prop,(p↔(s[a].toNat=41∨s[a].toNat=123∨s[a].toNat=125))→(p↔kd s[a]=1):=by
   intro p hp
   rw [hp]
   unfold kd Xi
   constructor
   ·intro h;rw [if_neg (by omega),if_pos (by omega)]
   ·intro h
    split at h
    ·omega
    ·split at h<;>omega
  refine Co (fun e=>one _ ?_) fun e7=>Co (fun e=>one _ ?_) fun e8=>one _ ?_
  ·exact kk _ (by rw [Cg];omega)
  ·exact kk _ (by rw [Cg];omega)
  ·exact kk _ (by rw [Cg];omega)
theorem A0i(a:Int):Call E0.P Rz [.imm (.str s), .imm (.int .i64 a)] [] (Is (nxA (Ao s a)) []):=by
 have hs9:s.length≤1000000000:=by omega
 have hp:=Ay8 s a
 refine As2 _ _ _ (Call.use (Ayr s hs9 a) ⟨⟨rfl,rfl⟩, ?_⟩)
 rw [Hd]
 unfold Ao
 refine Co (fun e=> ?_) fun e=> ?_
 ·rw [List.drop_eq_nil_of_le (by omega)];exact⟨rfl,rfl⟩
 ·have h:Du s a<s.length:=by omega
  have h37:s[Du s a].toNat≠37:=by
   refine Awy false (s.drop (Nn s a)) _ (s.drop (Du s a+1)) ?_
   rw [List.drop_drop]
   exact Ip s _ h
  rw [Ip s _ h]
  refine(Bae s hs _ h h37).mono fun r g hx=> ?_
  obtain⟨b,l,e1,e2,e3⟩:=hx
  subst e1;subst e2
  refine⟨⟨rfl,rfl⟩, ?_⟩
  have wf:=Bcs s[Du s a] (s.drop (Du s a+1)) (Du s a)
  refine brN (p:=(Jc s[Du s a] (s.drop (Du s a+1)) (Du s a)).e=0) Cg (fun he=> ?_) fun he=> ?_
  ·have hb:=wf.2 he
   refine⟨?_,rfl⟩
   simp only [nxA]
   rw [hb]
   rfl
  ·refine⟨?_,rfl⟩
   rw [e3 he]
   simp only [nxA]
   rw [wf.1 he,he]
   rfl
end
end Go.Proofs.Sim.Se
set_option maxRecDepth 100000
namespace Go.Proofs.Sim.Se
open Go Go.Proofs Go.Proofs.Sim Go.Proofs.Sim.Va Go.RowKit Go.Proofs.Sim.Pa
theorem A9a(s:List UInt8)(a:Int)(h:¬Du s a<s.length):Ao s a=⟨0,0,0,[],Du s a,Du s a⟩:=by
 unfold Ao;rw [List.drop_eq_nil_of_le (by omega)]
theorem A63(s:List UInt8)(a:Int)(h:Du s a<s.length):Ao s a=Jc s[Du s a] (s.drop (Du s a+1)) (Du s a):=by
 unfold Ao;rw [Ip s _ h]
section
variable (s:List UInt8) (hs:s.length≤1000000000)
include hs
end
end Go.Proofs.Sim.Se

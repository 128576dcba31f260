import Derived.Test.YtaggabcajidnnaaGreatDoorPaA
set_option maxRecDepth 100000
namespace Go.Proofs.Sim.Se
open Go Go.Proofs Go.Proofs.Sim Go.Proofs.Sim.Va Go.RowKit Go.Proofs.Sim.Pa
abbrev Bot(s:List UInt8)(a:Int):Heap:=[(Nm.arg 0, .blk Ad [.imm (.str s), .imm (.int .i64 a), .own (Nm.arg 1)])]
theorem Brx:∀(n:Fin 64) (d:Fin 8),IntKind.i64.wrap (↑(BitVec.ofInt 64 (IntKind.i64.wrap (((n:Nat):Int)*(2:Int) ^ (3:Nat))) ||| BitVec.ofInt 64 ((d:Nat):Int)).toNat:Int)=((8*(n:Nat)+(d:Nat):Nat):Int):=by decide+kernel
theorem Bry(n:Nat)(hn:n<64)(c:UInt8)(h1:48≤c.toNat)(h2:c.toNat≤55):IntKind.i64.wrap (↑(BitVec.ofInt 64 (IntKind.i64.wrap ((n:Int)*(2:Int) ^ (3:Nat))) ||| BitVec.ofInt 64 (IntKind.i64.wrap (IntKind.u8.wrap ((c.toNat:Int) - 48)))).toNat:Int)=((8*n+(c.toNat - 48):Nat):Int):=by
 rw [wrap_u8 _ (by omega) (by omega),Bc ((c.toNat:Int) - 48) (by omega) (by omega),show(c.toNat:Int) - 48=((c.toNat - 48:Nat):Int)by omega]
 exact Brx ⟨n,hn⟩ ⟨c.toNat - 48,by omega⟩
theorem Bu6:∀v:Fin 512,IntKind.u8.wrap ((v:Nat):Int)=(((UInt8.ofNat (v:Nat)).toNat:Nat):Int):=by decide+kernel
theorem Bg4:∀(k:Nat) (l:List UInt8) (n i:Nat),k+i=3→n<8 ^ i→(Mj k l n).1<512
 |0,l,n,i,h,hn=>by
  have:i=3:=by omega
  subst this;exact hn
 |k+1,[],n,i,h,hn=>by
  rw [Mj]
  have:8 ^ i≤8 ^ 3:=Nat.pow_le_pow_right (by decide) (by omega)
  simp only;omega
 |k+1,c::r,n,i,h,hn=>by
  rw [Mj]
  split
  ·rename_i ho
   simp only
   refine Bg4 k r _ (i+1) (by omega) ?_
   simp [As1]at ho
   rw [Nat.pow_succ];omega
  ·have:8 ^ i≤8 ^ 3:=Nat.pow_le_pow_right (by decide) (by omega)
   simp only;omega
theorem Aw8(c:UInt8):As1 c=true↔48≤c.toNat∧c.toNat≤55:=by simp [As1]
section
variable (s:List UInt8) (hs:s.length≤1000000000)
include hs
theorem Bve(K:KK):∀(k i a n:Nat),k+i=3→a≤s.length→n<8 ^ i→K (.exit 0) ⟨[(3, .imm (.int .i64 ((Mj k (s.drop a) n).1:Nat)))],Bot s ((a+(Mj k (s.drop a) n).2:Nat):Int)⟩→I8 n i s a K:=by
 intro k
 induction k with
 |zero=>
  intro i a n hi ha hn hK
  refine Vv _ _ _ _ _ (Ce (fun h=>by omega) fun _=> ?_)
  simpa only [Mj,Nat.add_zero] using hK
 |succ k ih=>
  intro i a n hi ha hn hK
  refine Vv _ _ _ _ _ (Ce (fun _=>Ce (fun h=> ?_) fun h=>⟨⟨by omega,by omega⟩, ?_⟩) fun h=>by omega)
  ·rw [List.drop_eq_nil_of_le (by omega)]at hK
   exact Let.intro (Let.intro (brT (by simpa only [Mj,Nat.add_zero] using hK)))
  ·have hlt:a<s.length:=by omega
   rw [Lm s a hlt]
   rw [J2 s a hlt,Mj]at hK
   refine Let.intro (Let.intro (Dt (p:=¬As1 s[a]=true) (by rw [Aja,Aw8];simp;omega) (fun h'=> ?_) fun h'=>⟨by decide, ?_⟩))
   ·rw [if_neg h']at hK;exact hK
   ·have h':=Classical.not_not.1 h'
    rw [if_pos h']at hK
    have h2:=(Aw8 _).1 h'
    have h64:n<64:=Nat.lt_of_lt_of_le hn (Nat.pow_le_pow_right (n:=8) (by decide) (show i≤2 by omega))
    rw [Bry n h64 _ h2.1 h2.2,Jk i (by omega),Jk a (by omega)]
    refine ih (i+1) (a+1) _ (by omega) (by omega) (by rw [Nat.pow_succ];omega) ?_
    rw [show a+1+(Mj k (s.drop (a+1)) (8*n+(s[a].toNat - 48))).2=a+((Mj k (s.drop (a+1)) (8*n+(s[a].toNat - 48))).2+1)by omega]
    exact hK
theorem Bqo(a:Nat)(ha:a≤s.length):Call E0.P Ey [.ptr (.arg 0) 0] (Bot s a) (Is (.imm (.int .u8 ((UInt8.ofNat (Mj 3 (s.drop a) 0).1).toNat:Nat))) (Bot s ((a+(Mj 3 (s.drop a) 0).2:Nat):Int))):=by
 refine Ali _ _ _ (Bve s hs _ 3 0 a 0 rfl ha (by decide) ?_)
 apply Aio
 refine Ag4 _ _ _ _ ?_
 apply Ain
 rw [Bu6 ⟨_,Bg4 3 (s.drop a) 0 0 rfl (by decide)⟩]
 exact⟨rfl,rfl⟩
theorem Bau(a:Nat)(h:¬a<s.length)(rows:LL):Call E0.P Lt [.ptr (.arg 0) 0] (Xe s a rows) (Is (.imm (.bool false)) (Xe s a rows)):=by
 have _:=hs
 refine Wp _ _ _ _ (Ce (fun _=>A20 rfl ⟨rfl,rfl⟩) fun h=>by omega)
theorem Bmx(a:Nat)(h:a<s.length)(t:List UInt8)(k:Nat)(he:Ao6 (s.drop a)=some (t,k))(out:List UInt8)(ho:out.length≤1000000000):
 Call E0.P Lt [.ptr (.arg 0) 0] (Xe s a (Be out)) (Is (.imm (.bool true)) (Xe s (a+k:Nat) (Be (out++t)))):=by
 refine Wp _ _ _ _ (Ce (fun h=>by omega) fun _=>⟨⟨by omega,by omega⟩,A21 rfl (Call.use (Aml s (by omega) a) ⟨⟨rfl,rfl⟩, ?_⟩)⟩)
 rw [Fy,Lm s a h]
 have hb:=Xa out
 have hdr:=J2 s a h
 rw [hdr,Ao6, ←hdr]at he
 refine Dt (p:=0<U6 (s.drop a)) (by rw [Ca];omega) (fun h1=> ?_) fun h1=>Let.intro (Dt (p:=As1 s[a]=true) (by rw [Oj,Aw8];omega) (fun h2=> ?_) fun h2=> ?_)
 ·rw [if_pos h1]at he
  injection he with he
  injection he with e1 e2
  subst e1;subst e2
  have hn:U6 (s.drop a)≤2:=by
   rw [hdr,Afk];split
   ·omega
   ·split
    ·split
     ·split<;>omega
     ·omega
    ·omega
  rw [wrA a _ (by omega),List.append_nil]
  exact⟨rfl,rfl⟩
 ·rw [if_neg h1,if_pos h2]at he
  injection he with he
  injection he with e1 e2
  subst e1;subst e2
  have leaf:∀Q:QQ,Q (.imm (.bool true)) (Xe s (a+(Mj 3 (s.drop a) 0).2:Nat) (Be (out++[UInt8.ofNat (Mj 3 (s.drop a) 0).1])))→Ah (((Be out).length+1)*1≤140737488355328∧(Be out).length+1≤140737488355328)
   (Q (.imm (.bool true)) (Xe s (a+(Mj 3 (s.drop a) 0).2:Nat) (Be out++[[IV.int .u8 ((UInt8.ofNat (Mj 3 (s.drop a) 0).1).toNat:Nat)]]))):=fun Q hq=>⟨⟨by omega,by omega⟩,by rw [X9];exact hq⟩
  have leaf:=leaf (Is (.imm (.bool true)) (Xe s (a+(Mj 3 (s.drop a) 0).2:Nat) (Be (out++[UInt8.ofNat (Mj 3 (s.drop a) 0).1])))) ⟨rfl,rfl⟩
  repeat' first
   |exact leaf
   |refine And.intro ?_ ?_
   |refine Call.use (Bqo s hs a (Nat.le_of_lt h)) ⟨⟨rfl,rfl⟩, ?_⟩
 ·rw [if_neg h1,if_neg h2]at he
  injection he with he
  injection he with e1 e2
  subst e1;subst e2
  have fin:∀c:UInt8,Ayd s[a]=c→∀n:Int,n=(c.toNat:Int)→Ch n s (IntKind.i64.wrap ((a:Int)+1)) (Be out) (Ck s a (Be out) (Is (.imm (.bool true)) (Xe s (a+1:Nat) (Be (out++[Ayd s[a]]))))):=by
   intro c hc n hn
   subst hn
   rw [Jk a (by omega)]
   refine Ae6 _ _ _ _ _ ⟨⟨by omega,by omega⟩, ?_⟩
   apply Ag9
   rw [X9,hc]
   exact⟨rfl,rfl⟩
  have L:Ayd s[a]=if s[a].toNat=110 then 10 else if s[a].toNat=114 then 13 else if s[a].toNat=116 then 9 else if s[a].toNat=98 then 8 else if s[a].toNat=102 then 12 else s[a]:=rfl
  refine Ce (fun e=>fin 10 ?_ _ rfl) fun e1=>Ce (fun e=>fin 13 ?_ _ rfl) fun e2=>Ce (fun e=>fin 9 ?_ _ rfl) fun e3=>Ce (fun e=>fin 8 ?_ _ rfl) fun e4=>Ce (fun e=>fin 12 ?_ _ rfl) fun e5=>fin s[a] ?_ _ rfl
  ·rw [L,if_pos (by omega)]
  ·rw [L,if_neg (by omega),if_pos (by omega)]
  ·rw [L,if_neg (by omega),if_neg (by omega),if_pos (by omega)]
  ·rw [L,if_neg (by omega),if_neg (by omega),if_neg (by omega),if_pos (by omega)]
  ·rw [L,if_neg (by omega),if_neg (by omega),if_neg (by omega),if_neg (by omega),if_pos (by omega)]
  ·rw [L,if_neg (by omega),if_neg (by omega),if_neg (by omega),if_neg (by omega),if_neg (by omega)]
end
end Go.Proofs.Sim.Se
set_option maxRecDepth 100000
namespace Go.Proofs.Sim.Se
open Go Go.Proofs Go.Proofs.Sim Go.Proofs.Sim.Va Go.RowKit Go.Proofs.Sim.Pa
theorem Bc4:∀l:List UInt8,U6 l≤l.length∧U6 l≤2
 | []=>⟨Nat.le_refl _,by decide⟩
 | [c]=>by
   rw [Afk];simp only [List.length_cons,List.length_nil]
   split
   ·omega
   ·split<;>omega
 |c::d::r=>by
  rw [Afk];simp only [List.length_cons]
  split
  ·omega
  ·split
   ·split<;>omega
   ·omega
theorem Bg3:∀(k:Nat) (l:List UInt8) (n:Nat),(Mj k l n).2≤l.length
 |0,l,n=>by rw [Mj];exact Nat.zero_le _
 |k+1,[],n=>by rw [Mj];exact Nat.zero_le _
 |k+1,c::r,n=>by
  rw [Mj];split
  ·have:=Bg3 k r (8*n+(c.toNat - 48));simp only [List.length_cons];omega
  ·exact Nat.zero_le _
theorem Bkp {l t:List UInt8} {k:Nat} (h:Ao6 l=some (t,k)):1≤k∧k≤l.length∧t.length≤1:=by
 rcases l with _ |⟨c,r⟩
 ·cases h
 ·rw [Ao6]at h
  have he:=Bc4 (c::r)
  split at h
  ·injection h with h;injection h with h1 h2;subst h1;subst h2
   exact⟨by omega,he.1,by simp⟩
  ·split at h
   ·rename_i ho
    injection h with h;injection h with h1 h2;subst h1;subst h2
    refine⟨?_,Bg3 _ _ _,by simp⟩
    rw [Mj,if_pos ho];simp only;omega
   ·injection h with h;injection h with h1 h2;subst h1;subst h2
    simp
theorem Bub:∀h:Fin 16,IntKind.u8.wrap (IntKind.i64.wrap (((h:Nat):Int)*(2:Int) ^ (4:Nat)))=(((UInt8.ofNat (16*(h:Nat))).toNat:Nat):Int):=by decide+kernel
theorem Buh:∀h l:Fin 16,IntKind.u8.wrap (↑(BitVec.ofInt 8 (((UInt8.ofNat (16*(h:Nat))).toNat:Nat):Int) ||| BitVec.ofInt 8 (IntKind.u8.wrap ((l:Nat):Int))).toNat:Int)=(((UInt8.ofNat (16*(h:Nat)+(l:Nat))).toNat:Nat):Int):=by decide+kernel
theorem Bo6(out:List UInt8)(x y:UInt8):(Be (out++[x])).set out.length [IV.int .u8 (y.toNat:Int)]=Be (out++[y]):=by
 simp [Be]
theorem Bof(out:List UInt8)(x:UInt8):(Be (out++[x])).getD out.length []=[IV.int .u8 (x.toNat:Int)]:=by
 simp [Be,List.getD_eq_getElem?_getD]
section
variable (s:List UInt8) (hs:s.length≤1000000000)
include hs
abbrev TxL(s:List UInt8)(d:Int)(a:Nat)(out:List UInt8)(K:KK):Prop:=Jh d s a 0 0 [] 0 0 (Be out) K
theorem Bs2(at_:Int)(out0:LL)(Q:QQ)(X:Part)(hQ:∀r h,ScQ s 3 X r h→Q r h):∀(m a:Nat) (out:List UInt8) (d:Nat),s.length<a+m→a≤s.length→out.length≤a→1≤d→d≤a+1→Ku m (s.drop a) out d a=X→TxL s d a out (Hm s at_ out0 Q):=by
 have short:∀(a:Nat) (out:List UInt8),X=([],0,5)→Hm s at_ out0 Q (.exit 0) ⟨[(2, .ptr (Nm.loc 2) 0)],[(Nm.loc 2, .blk Aw [.imm (.int .i64 0), .imm (.int .i64 0), .imm (.str []), .imm (.int .i64 0), .imm (.int .i64 0)]),(Nm.arg 0, .blk Ad [.imm (.str s), .imm (.int .i64 a), .own (Nm.arg 1)]),(Nm.arg 1, .arr (Am+2) true 1 (Be out))]⟩:=by
  intro a out hx
  apply Akb
  refine Ah1 _ _ _ _ _ _ _ _ _ ?_
  apply Aka
  exact hQ _ _ (hx ▸ Agd (by decide))
 intro m
 induction m with
 |zero=>intro a out d hm ha;omega
 |succ m ih=>
  intro a out d hm ha ho hd1 hd2 hX
  have hb:=Xa out
  by_cases h:a<s.length
  case neg=>
   rw [List.drop_eq_nil_of_le (by omega)]at hX
   exact Wz _ _ _ _ _ _ _ _ _ _ (Ce (fun h=>by omega) fun _=>short a out hX.symm)
  have hdr:=J2 s a h
  have he:=Bc4 (s.drop a)
  rw [List.length_drop]at he
  rw [hdr,Ku, ←hdr]at hX
  have push:∀(c:UInt8) (d' b:Nat),a<b→b≤s.length→1≤d'→d'≤b+1→(X=if 65535≤out.length then([],0,8)else Ku m (s.drop b) (out++[c]) d' b)→∀n:Int,n=(c.toNat:Int)→Gt d' n s b 0 0 [] 0 0 (Be out) (Fz (Hm s at_ out0 Q)):=by
   intro c d' b hab hbs h1 h2 hx n hn
   subst hn
   refine Vm _ _ _ _ _ _ _ _ _ _ _ (Ce (fun h=>by omega) fun _=>⟨⟨by omega,by omega⟩, ?_⟩)
   rw [X9,Xa]
   have hl:(out++[c]).length=out.length+1:=by simp
   refine Ce (fun h=> ?_) fun h=> ?_
   ·rw [hl]at h
    rw [if_pos (by omega)]at hx
    apply Wv
    apply Oh
    exact hQ _ _ (hx ▸ Agd (by decide))
   ·rw [hl]at h
    rw [if_neg (by omega)]at hx
    apply Akc
    exact ih b (out++[c]) d' (by omega) hbs (by omega) h1 h2 hx.symm
  refine Wz _ _ _ _ _ _ _ _ _ _ (Ce (fun _=>⟨⟨by omega,by omega⟩,Call.use (Aml s (by omega) a) ⟨⟨rfl,rfl⟩, ?_⟩⟩) fun h=>by omega)
  rw [Fy,Lm s a h]
  refine Dt (p:=0<U6 (s.drop a)) (by rw [Ca];omega) (fun h1=> ?_) fun h1=> ?_
  ·rw [if_pos h1,List.drop_drop]at hX
   have e:(if((U6 (s.drop a):Nat):Int)>1 then((U6 (s.drop a):Nat):Int)else 1)=((U6 (s.drop a):Nat):Int):=by split<;>omega
   rw [e,wrA a _ (by omega)]
   exact push 10 d _ (by omega) (by omega) hd1 (by omega) hX.symm 10 rfl
  rw [if_neg h1]at hX
  rw [if_neg (show ¬((U6 (s.drop a):Nat):Int)>1 by omega),Jk a (by omega)]
  refine Ce (fun h92=> ?_) fun h92=> ?_
  ·rw [if_pos (by omega)]at hX
   by_cases h2:a+1<s.length
   ·rcases hesc:Ao6 (s.drop (a+1))with _ |⟨t,k⟩
    ·rw [J2 s (a+1) h2,Ao6]at hesc
     split at hesc
     ·cases hesc
     ·split at hesc<;>cases hesc
    ·rw [hesc]at hX
     have hk:=Bkp hesc
     rw [List.length_drop]at hk
     refine Call.use (Bmx s hs (a+1) h2 t k hesc out (by omega)) ⟨⟨rfl,rfl⟩,A21 rfl ?_⟩
     have e2:Dk (Xe s (a+1+k:Nat) (Be (out++t))) (Nm.arg 1)=Be (out++t):=rfl
     rw [e2,Xa]
     have hl:(out++t).length=out.length+t.length:=by simp
     simp only [List.drop_drop]at hX
     refine Ce (fun h=> ?_) fun h=> ?_
     ·rw [hl]at h
      rw [if_pos (by omega)]at hX
      apply Oh
      exact hQ _ _ (hX ▸ Agd (by decide))
     ·rw [hl]at h
      rw [if_neg (by omega)]at hX
      exact ih (a+1+k) (out++t) d (by omega) (by omega) (by omega) hd1 (by omega) hX
   ·rw [List.drop_eq_nil_of_le (show s.length≤a+1 by omega),Ao6]at hX
    refine Call.use (Bau s hs (a+1) h2 _) ⟨⟨rfl,rfl⟩,A20 rfl ?_⟩
    exact short (a+1) out hX.symm
  rw [if_neg (by omega)]at hX
  refine Ce (fun h40=> ?_) fun h40=> ?_
  ·rw [if_neg (by omega),if_pos (show s[a].toNat=40 by omega)]at hX
   rw [Jk d (by omega)]
   exact push s[a] (d+1) (a+1) (by omega) (by omega) (by omega) (by omega) (by rw [←hX];simp) _ rfl
  rw [if_neg (show ¬s[a].toNat=40 by omega)]at hX
  refine Ce (fun h41=> ?_) fun h41=> ?_
  ·rw [if_pos (show s[a].toNat=41 by omega)]at hX
   rw [Bc ((d:Int) - 1) (by omega) (by omega)]
   by_cases h1:d=1
   ·subst h1
    rw [if_pos ⟨by omega,by simp⟩]at hX
    refine Vm _ _ _ _ _ _ _ _ _ _ _ (Ce (fun _=>⟨Afi _, ?_⟩) fun h=>by omega)
    apply Wv
    apply Oh
    rw [Atr]
    exact hQ _ _ (hX ▸ Be8)
   ·rw [if_neg (fun h=>h1 (by have:=h.2;omega))]at hX
    rw [show(d:Int) - 1=((d - 1:Nat):Int)by omega]at hX ⊢
    exact push s[a] (d - 1) (a+1) (by omega) (by omega) (by omega) (by omega) hX.symm _ rfl
  ·rw [if_neg (by omega),if_neg (show ¬s[a].toNat=41 by omega)]at hX
   exact push s[a] d (a+1) (by omega) (by omega) hd1 (by omega) hX.symm _ rfl
theorem Btn(a:Nat)(ha:a<s.length):Call E0.P Tm [.ptr (.arg 0) 0] (Xe s a []) (ScQ s 3 (Ku ((s.drop (a+1)).length+1) (s.drop (a+1)) [] 1 (a+1))):=by
 refine Ang _ _ _ _ ?_
 rw [Jk a (by omega)]
 exact Bs2 s hs a [] _ _ (fun _ _ h=>h) _ (a+1) [] 1 (by rw [List.length_drop];omega) (by omega) (by simp) (by omega) (by omega) rfl
def hxO(half:Int)(out:List UInt8):List UInt8:=if half<0 then out else out++[byB (16*half)]
def Bss(s:List UInt8)(K:KK)(a many:Nat)(rows:LL):Prop:=
 (∀h:a<s.length,Gf (s[a].toNat:Int) true 0 0 [] 0 0 many s a rows K)∧(¬a<s.length→Gf 0 false 0 0 [] 0 0 many s a rows K)
theorem Bb1(K:KK)(a many:Nat)(ha:a≤s.length)(hm:many≤a)(rows:LL)(hb:65535<many / 2→Dv K .ret ⟨[(2, .ptr (Nm.loc 2) 0),(3, .imm (.int .i64 8))],[(Nm.loc 2, .blk Aw [.imm (.int .i64 0), .imm (.int .i64 0), .imm (.str []), .imm (.int .i64 0), .imm (.int .i64 0)]),(Nm.arg 0, .blk Ad [.imm (.str s), .imm (.int .i64 a), .own (Nm.arg 1)]),(Nm.arg 1, .arr (Am+2) true 1 rows)]⟩)(h:¬65535<many / 2→Bss s K a many rows):Ev 0 0 [] 0 0 many s a rows (Dv K):=by
 refine Ajz _ _ _ _ _ _ _ _ _ _ ⟨by decide, ?_⟩
 rw [show((many:Int)).tdiv 2=((many / 2:Nat):Int) from rfl,Bwe _ (by omega)]
 refine Ce (fun h=>hb (by omega)) fun h0=> ?_
 have h:=h (by omega)
 apply Amc
 refine Aj0 _ _ _ _ _ _ _ _ _ _ (Ce (fun h'=> ?_) fun h'=>⟨⟨by omega,by omega⟩, ?_⟩)
 ·apply Xn
  exact h.2 (by omega)
 ·have hlt:a<s.length:=by omega
  rw [Lm s a hlt]
  apply Xn
  exact h.1 hlt
theorem Bvc(at_:Int)(out0:LL)(Q:QQ)(X:Part)(hQ:∀r h,ScQ s 3 X r h→Q r h):∀(m a many:Nat) (out:List UInt8) (half:Int),s.length≤a+m→a≤s.length→many≤a→out.length+(if half<0 then 0 else 1)≤a→ -1≤half→half≤15→many=2*out.length+(if half<0 then 0 else 1)→out.length≤65535→Ru (s.drop a) half out a=X→
 Bss s (Ed s at_ out0 Q) a many (Be (hxO half out)):=by
 have off:∀(a many:Nat) (rows:List UInt8),¬a<s.length→X=([],0,5)→Gf 0 false 0 0 [] 0 0 many s a (Be rows) (Ed s at_ out0 Q):=by
  intro a many rows h hX
  refine Xp _ _ _ _ _ _ _ _ _ _ _ _ (brF ?_)
  apply Ama
  refine Aj1 _ _ _ _ _ _ _ _ _ ?_
  apply Al9
  exact hQ _ _ (hX ▸ Agd (by decide))
 have offX:∀(a:Nat) (half:Int) (out:List UInt8),¬a<s.length→Ru (s.drop a) half out a=X→X=([],0,5):=by
  intro a half out h hX
  rw [List.drop_eq_nil_of_le (by omega)]at hX
  exact hX.symm
 intro m
 induction m with
 |zero=>intro a many out half hm ha hy ho h0 h1 hp hmx hX;exact⟨fun h=>by omega,fun h=>off a many _ h (offX a half out h hX)⟩
 |succ m ih=>
  intro a many out half hm ha hy ho h0 h1 hp hmx hX
  refine⟨fun h=> ?_,fun h=>off a many _ h (offX a half out h hX)⟩
  have hd:=Aw7 s[a]
  have hb:(Be (hxO half out)).length=out.length+(if half<0 then 0 else 1):=by
   rw [Xa];unfold hxO;split<;>simp
  rw [J2 s a h,Ru]at hX
  refine Xp _ _ _ _ _ _ _ _ _ _ _ _ (brT (Call.use (Aaj _) ⟨⟨rfl,rfl⟩, ?_⟩))
  rw [Fy,Jk a (by omega)]
  have bad2:∀(e:Int) (o:List UInt8),e≠0→X=([],0,e)→Ed s at_ out0 Q .ret ⟨[(2, .ptr (Nm.loc 2) 0),(3, .imm (.int .i64 e))],[(Nm.loc 2, .blk Aw [.imm (.int .i64 0), .imm (.int .i64 0), .imm (.str []), .imm (.int .i64 0), .imm (.int .i64 0)]),(Nm.arg 0, .blk Ad [.imm (.str s), .imm (.int .i64 (a+1:Nat)), .own (Nm.arg 1)]),(Nm.arg 1, .arr (Am+2) true 1 (Be o))]⟩:=by
   intro e o he hx
   apply Pg
   exact hQ _ _ (hx ▸ Agd he)
  have bad:∀(e:Int),e≠0→X=([],0,e)→Ed s at_ out0 Q .ret ⟨[(2, .ptr (Nm.loc 2) 0),(3, .imm (.int .i64 e))],[(Nm.loc 2, .blk Aw [.imm (.int .i64 0), .imm (.int .i64 0), .imm (.str []), .imm (.int .i64 0), .imm (.int .i64 0)]),(Nm.arg 0, .blk Ad [.imm (.str s), .imm (.int .i64 (a+1:Nat)), .own (Nm.arg 1)]),(Nm.arg 1, .arr (Am+2) true 1 (Be (hxO half out)))]⟩:=by
   intro e he hx
   apply Pg
   exact hQ _ _ (hx ▸ Agd he)
  refine Ce (fun h62=> ?_) fun h62=> ?_
  ·rw [if_pos (by omega)]at hX
   rw [hb]
   refine Ce (fun h'=> ?_) fun h'=>⟨Afi _, ?_⟩
   ·by_cases hh:half<0
    ·rw [if_pos hh]at h';omega
    ·rw [if_neg hh]at h'
     rw [if_neg hh,if_pos (by omega)]at hX
     exact bad 8 (by decide) hX.symm
   ·apply Pg
    rw [Atr]
    refine hQ _ _ ?_
    have:X=(hxO half out,a+1,0):=by
     rw [←hX];unfold hxO
     by_cases hh:half<0
     ·rw [if_pos hh,if_pos hh]
     ·rw [if_neg hh]at h'
      rw [if_neg hh,if_neg (by omega),if_neg hh]
    rw [this]
    exact Be8
  rw [if_neg (by omega)]at hX
  refine Ce (fun hv=> ?_) fun hv=> ?_
  ·rw [if_neg (by omega)]at hX
   refine⟨by decide, ?_⟩
   rw [Jk many (by omega),show((many+1:Nat):Int).tmod 2=(((many+1) % 2:Nat):Int) from rfl]
   refine Dt (p:=half<0) (by rw [Ca];split at hp<;>omega) (fun hh=>⟨by decide, ?_⟩) fun hh=> ?_
   ·rw [if_pos hh]at hX hp ho hb
    have e:IntKind.u8.wrap (IntKind.i64.wrap (Df s[a]*(2:Int) ^ (4:Nat)))=(((byB (16*Df s[a])).toNat:Nat):Int):=by
     have:=Bub ⟨(Df s[a]).toNat,by omega⟩
     simp only [Int.toNat_of_nonneg hv]at this
     rw [this];unfold byB
     rw [show(16*Df s[a]).toNat=16*(Df s[a]).toNat by omega]
    rw [e,X9]
    have e2:hxO half out++[byB (16*Df s[a])]=hxO (Df s[a]) out:=by
     unfold hxO;rw [if_pos hh,if_neg (by omega)]
    rw [e2]
    have go:=Bb1 s hs _ (a+1) (many+1) (by omega) (by omega) _ (fun h=>by omega) fun _=>(ih (a+1) (many+1) out (Df s[a]) (by omega) (by omega) (by omega) (by rw [if_neg (by omega)];omega) (by omega) hd.2 (by rw [if_neg (by omega)];omega) hmx hX)
    have leaf:Ah (((Be (hxO half out)).length+1)*1≤140737488355328∧(Be (hxO half out)).length+1≤140737488355328) (Ev 0 0 [] 0 0 (many+1:Nat) s (a+1:Nat) (Be (hxO (Df s[a]) out)) (Dv (Ed s at_ out0 Q))):=⟨⟨by omega,by omega⟩,go⟩
    exact⟨leaf,leaf,leaf⟩
   ·rw [if_neg hh]at hX hp ho hb
    have eo:hxO half out=out++[byB (16*half)]:=by unfold hxO;rw [if_neg hh]
    rw [hb]
    rw [show IntKind.i64.wrap (((out.length+1:Nat):Int) - 1)=(out.length:Int)by rw [Bc _ (by omega) (by omega)];omega,Int.toNat_natCast]
    rw [eo,Bof]
    refine⟨⟨by omega,by omega⟩,⟨⟨by omega,rfl⟩,⟨⟨by omega,by omega⟩,⟨by omega, ?_⟩⟩⟩⟩
    have e:IntKind.u8.wrap (↑(BitVec.ofInt 8 (gI (List.take 1 (List.drop 0 [IV.int .u8 ((byB (16*half)).toNat:Int)])) 0) ||| BitVec.ofInt 8 (IntKind.u8.wrap (Df s[a]))).toNat:Int)=(((byB (16*half+Df s[a])).toNat:Nat):Int):=by
     have:=Buh ⟨half.toNat,by omega⟩ ⟨(Df s[a]).toNat,by omega⟩
     simp only [Int.toNat_of_nonneg hv]at this
     unfold byB
     rw [show(16*half).toNat=16*half.toNat by omega,show(16*half+Df s[a]).toNat=16*half.toNat+(Df s[a]).toNat by omega]
     exact this
    rw [e,Bo6]
    have e3:out++[byB (16*half+Df s[a])]=hxO (-1) (out++[byB (16*half+Df s[a])]):=rfl
    rw [e3]
    refine Bb1 s hs _ (a+1) (many+1) (by omega) (by omega) _ (fun h=> ?_) fun h=> ?_
    ·rw [if_pos (by omega)]at hX
     apply Amb
     exact bad2 8 _ (by decide) hX.symm
    ·rw [if_neg (by omega)]at hX
     exact ih (a+1) (many+1) (out++[byB (16*half+Df s[a])]) (-1) (by omega) (by omega) (by omega) (by rw [if_pos (by omega)];simp;omega) (by omega) (by omega) (by rw [if_pos (by omega)];simp;omega) (by simp;omega) hX
  ·rw [if_pos (by omega)]at hX
   refine Call.use (Bmz _) ⟨⟨rfl,rfl⟩, ?_⟩
   rw [Fy]
   refine Xr Ca (fun hk=> ?_) fun hk=> ?_
   ·rw [if_neg hk]at hX
    exact bad 4 (by decide) hX.symm
   ·rw [if_pos hk]at hX
    exact Bb1 s hs _ (a+1) many (by omega) (by omega) _ (fun h=>by split at hp<;>omega) fun _=>(ih (a+1) many out half (by omega) (by omega) (by omega) (by omega) h0 h1 hp hmx hX)
theorem Bvj(a:Nat)(ha:a<s.length):Call E0.P Vf [.ptr (.arg 0) 0] (Xe s a []) (ScQ s 3 (Ru (s.drop (a+1)) (-1) [] (a+1))):=by
 have h:=Bvc s hs a [] (ScQ s 3 (Ru (s.drop (a+1)) (-1) [] (a+1))) _ (fun _ _ h=>h) s.length (a+1) 0 [] (-1) (by omega) (by omega) (by omega) (by rw [if_pos (by omega)];simp) (by omega) (by omega) (by rw [if_pos (by omega)];rfl) (by simp) rfl
 refine Aoq _ _ _ _ ?_
 rw [Jk a (by omega)]
 refine Ce (fun h'=>h.2 (by omega)) fun h'=>⟨⟨by omega,by omega⟩, ?_⟩
 rw [Lm s (a+1) (by omega)]
 exact h.1 (by omega)
end
end Go.Proofs.Sim.Se
set_option maxRecDepth 100000
namespace Go.Proofs.Sim.Se
open Go Go.Proofs Go.Proofs.Sim Go.Proofs.Sim.Va Go.RowKit Go.Proofs.Sim.Pa
def TkQ(s:List UInt8)(t:Tk):AV→Heap→Prop:=fun r h=>∃(b:Nat) (l:List UInt8),h=Xe s b (Be l)∧r=Bfh t.k t.n t.s 0 0 t.e∧(t.e=0→b=t.b)
abbrev nxA(t:Tk):AV:=Bfh t.k t.n t.s t.a t.b t.e
theorem A8v(k:Int)(p:Nat)(x:Part):((partT k p x).e=0→(partT k p x).a=p)∧((partT k p x).e≠0→partT k p x=Aiv (partT k p x).e):=by
 unfold partT;split
 ·exact⟨fun _=>rfl,fun h=>absurd rfl h⟩
 ·rename_i h;exact⟨fun h'=>absurd h' h,fun _=>rfl⟩
theorem Bso(l:List UInt8)(p:Nat):((Rl l p).e=0→(Rl l p).a=p)∧((Rl l p).e≠0→Rl l p=Aiv (Rl l p).e):=by
 unfold Rl;split
 ·exact⟨fun _=>rfl,fun h=>absurd rfl h⟩
 ·split
  ·exact⟨fun h=>(by cases h),fun _=>rfl⟩
  ·split
   ·exact⟨fun h=>(by cases h),fun _=>rfl⟩
   ·exact⟨fun _=>rfl,fun h=>absurd rfl h⟩
theorem Bu3(c:UInt8)(r:List UInt8)(p:Nat):((Kw c r p).e=0→(Kw c r p).a=p)∧((Kw c r p).e≠0→Kw c r p=Aiv (Kw c r p).e):=by
 unfold Kw
 split
 ·exact⟨fun _=>rfl,fun h=>absurd rfl h⟩
 split
 ·exact⟨fun _=>rfl,fun h=>absurd rfl h⟩
 split
 ·exact A8v _ _ _
 split
 ·exact A8v _ _ _
 split
 ·split
  ·exact⟨fun _=>rfl,fun h=>absurd rfl h⟩
  ·exact A8v _ _ _
 split
 ·split
  ·exact⟨fun _=>rfl,fun h=>absurd rfl h⟩
  ·exact⟨fun h=>(by cases h),fun _=>rfl⟩
 split
 ·exact⟨fun h=>(by cases h),fun _=>rfl⟩
 ·exact Bso _ _
theorem A3l {s:List UInt8} {k:Int} {p:Nat} {x:Part} {r:AV} {h:Heap} (hx:ScQ s k x r h):TkQ s (partT k p x) r h:=by
 obtain⟨a,l,e1,e2,e3,e4⟩:=hx
 refine⟨a,l,e1, ?_⟩
 unfold partT
 by_cases he:x.2.2=0
 ·rw [if_pos he]at*
  rw [he]at e2
  exact⟨e2,fun _=>e3 he⟩
 ·rw [if_neg he]at*
  rw [e4 he]at e2
  exact⟨e2,fun h=>absurd h he⟩
theorem Brg(s:List UInt8)(a:Nat)(c:UInt8):(s.drop a).head?=some c↔∃h:a<s.length,s[a]=c:=by
 by_cases h:a<s.length
 ·rw [J2 s a h];simp [h]
 ·rw [List.drop_eq_nil_of_le (by omega)];simp [h]
theorem Bno(s:List UInt8)(a w:Nat):List.drop a (List.take (a+w) s)=(s.drop a).take w:=by
 rw [List.drop_take];simp
theorem Buk {c:UInt8} {n:Nat} (hn:n<256):c=UInt8.ofNat n↔c.toNat=n:=⟨fun h=>by rw [h];exact UInt8.toNat_ofNat_of_lt' hn,fun h=>UInt8.toNat_inj.1 (by rw [h];exact(UInt8.toNat_ofNat_of_lt' hn).symm)⟩
theorem A97:∀(b:Bool) (l:List UInt8) (c:UInt8) (r:List UInt8),l.drop (Gr b l)=c::r→c.toNat≠37
 |_,[],c,r,h=>by simp [Gr]at h
 |b,x::l,c,r,h=>by
  rw [Gr]at h
  by_cases hx:Oq b x=false∧kd x≠0
  ·rw [if_pos hx,List.drop_zero]at h
   injection h with h1 h2
   subst h1
   intro e
   have:Oq b x=true:=by unfold Oq;rw [if_neg (by omega),if_pos e]
   rw [this]at hx;cases hx.1
  ·rw [if_neg hx,List.drop_succ_cons]at h
   exact A97 _ l c r h
section
variable (s:List UInt8) (hs:s.length≤1000000000)
include hs
theorem Bto(a:Nat)(ha:a<s.length):Call E0.P Tn [.ptr (.arg 0) 0] (Xe s a []) (TkQ s (Rl (s.drop a) a)):=by
 have hw:=Ak4 2 (s.drop a)
 rw [List.length_drop]at hw
 refine Anh _ _ _ _ (Call.use (Adt 2 s (by omega) a (by omega)) ⟨⟨rfl,rfl⟩, ?_⟩)
 rw [Fy,wrA a _ (by omega),Int.toNat_natCast,Int.toNat_natCast,Bno]
 refine⟨⟨by omega,by omega,by omega⟩,Let.intro ?_⟩
 have hl:((s.drop a).take (Cz 2 (s.drop a))).length=Cz 2 (s.drop a):=by rw [List.length_take,List.length_drop];omega
 rw [hl,wrA a _ (by omega)]
 refine Call.use (A7s _ (by omega)) ⟨⟨rfl,rfl⟩, ?_⟩
 rw [show rI (rT (isP (Hd ((s.drop a).take (Cz 2 (s.drop a))))) 0)=(Hd ((s.drop a).take (Cz 2 (s.drop a)))).1 from rfl,show rI (rT (isP (Hd ((s.drop a).take (Cz 2 (s.drop a))))) 1)=(Hd ((s.drop a).take (Cz 2 (s.drop a)))).2 from rfl]
 unfold Rl
 refine Ce (fun e=> ?_) fun e=>Ce (fun e2=> ?_) fun e2=>Ce (fun e3=> ?_) fun e3=> ?_
 ·rw [if_pos e];exact⟨_,[],rfl,rfl,fun _=>rfl⟩
 ·rw [if_neg e,if_pos e2,e2];exact⟨_,[],rfl,rfl,fun h=>by cases h⟩
 ·rw [if_neg e,if_neg e2,if_pos (by omega)];exact⟨_,[],rfl,rfl,fun h=>by cases h⟩
 ·rw [if_neg e,if_neg e2,if_neg (by omega)];exact⟨_,[],rfl,rfl,fun _=>rfl⟩
theorem Bae(a:Nat)(h:a<s.length)(n:Nat)(hn:n<256)(hc:s[a].toNat=n):((bif decide (IntKind.i64.wrap ((a:Int)+1)<(s.length:Int))then decide (((s.getD (IntKind.i64.wrap ((a:Int)+1)).toNat 0).toNat:Int)=(s[a].toNat:Int))else false)=true)↔(s.drop (a+1)).head?=some (UInt8.ofNat n):=by
 rw [Jk a (by omega),Oj,Brg]
 constructor
 ·rintro⟨h1,h2⟩
  have h3:a+1<s.length:=by omega
  rw [Lm s (a+1) h3]at h2
  exact⟨h3,(Buk hn).2 (by omega)⟩
 ·rintro⟨h3,h2⟩
  have h2:=(Buk hn).1 h2
  rw [Lm s (a+1) h3]
  exact⟨by omega,by omega⟩
theorem Bfi(a:Nat):decide (IntKind.i64.wrap ((a:Int)+1)<(s.length:Int))=true→a<s.length→(0:Int)≤IntKind.i64.wrap ((a:Int)+1)∧IntKind.i64.wrap ((a:Int)+1)<(s.length:Int):=by
 intro h h2
 have:=of_decide_eq_true h
 rw [Jk a (by omega)]at this ⊢
 omega
theorem Bqu(a:Nat)(h:a<s.length)(h37:s[a].toNat≠37):Call E0.P Rq [.ptr (.arg 0) 0] (Xe s a []) (TkQ s (Kw s[a] (s.drop (a+1)) a)):=by
 have hs9:s.length≤1000000000:=by omega
 refine Alj _ _ _ _ ⟨⟨by omega,by omega⟩, ?_⟩
 rw [Lm s a h]
 unfold Kw
 refine Ce (fun e=> ?_) fun e1=>Ce (fun e=> ?_) fun e2=>Ce (fun e=> ?_) fun e3=>Ce (fun e=> ?_) fun e4=>Ce (fun e=> ?_) fun e5=>Ce (fun e=> ?_) fun e6=> ?_
 ·rw [if_pos (by omega),Jk a (by omega)];exact⟨_,[],rfl,rfl,fun _=>rfl⟩
 ·rw [if_neg (by omega),if_pos (by omega),Jk a (by omega)];exact⟨_,[],rfl,rfl,fun _=>rfl⟩
 ·rw [if_neg (by omega),if_neg (by omega),if_pos (by omega)]
  refine(Btj s hs9 a h).mono fun r g hx=> ?_
  have hx':=A3l (p:=a) hx
  obtain⟨b,l,e1,e2,_⟩:=hx
  subst e1;subst e2
  exact⟨⟨rfl,rfl⟩,hx'⟩
 ·rw [if_neg (by omega),if_neg (by omega),if_neg (by omega),if_pos (by omega)]
  refine(Btn s hs a h).mono fun r g hx=> ?_
  have hx':=A3l (p:=a) hx
  obtain⟨b,l,e1,e2,_⟩:=hx
  subst e1;subst e2
  exact⟨⟨rfl,rfl⟩,hx'⟩
 ·rw [if_neg (by omega),if_neg (by omega),if_neg (by omega),if_neg (by omega),if_pos (by omega)]
  refine⟨fun h'=>Bfi s hs a h' h,⟨fun _=>⟨by omega,by omega⟩,Let.intro (Dt (p:=(s.drop (a+1)).head?=some 60) (Bae s hs a h 60 (by omega) (by omega)) (fun h2=> ?_) fun h2=> ?_)⟩⟩
  ·rw [if_pos h2,wr2 a (by omega)];exact⟨_,[],rfl,rfl,fun _=>rfl⟩
  ·rw [if_neg h2]
   refine(Bvj s hs a h).mono fun r g hx=> ?_
   have hx':=A3l (p:=a) hx
   obtain⟨b,l,e1,e2,_⟩:=hx
   subst e1;subst e2
   exact⟨⟨rfl,rfl⟩,hx'⟩
 ·rw [if_neg (by omega),if_neg (by omega),if_neg (by omega),if_neg (by omega),if_neg (by omega),if_pos (by omega)]
  refine⟨fun h'=>Bfi s hs a h' h,⟨fun _=>⟨by omega,by omega⟩,Let.intro (Dt (p:=(s.drop (a+1)).head?=some 62) (Bae s hs a h 62 (by omega) (by omega)) (fun h2=> ?_) fun h2=> ?_)⟩⟩
  ·rw [if_pos h2,wr2 a (by omega)];exact⟨_,[],rfl,rfl,fun _=>rfl⟩
  ·rw [if_neg h2];exact⟨_,[],rfl,rfl,fun h=>by cases h⟩
 ·rw [if_neg (by omega),if_neg (by omega),if_neg (by omega),if_neg (by omega),if_neg (by omega),if_neg (by omega)]
  have one:∀b:Bool,(b=true↔kd s[a]=1)→Ig b s a 0 0 [] 0 0 [] (Gu s a [] (TkQ s (if kd s[a]=1 then Aiv 4 else Rl (s[a]::s.drop (a+1)) a))):=by
   intro b hb
   refine Ag5 _ _ _ _ _ _ _ _ _ _ (Dt hb (fun hk=> ?_) fun hk=> ?_)
   ·rw [if_pos hk]
    apply Aiq
    exact⟨a,[],rfl,rfl,fun h=>by cases h⟩
   ·rw [if_neg hk, ←J2 s a h]
    apply Air
    refine Ag6 _ _ _ _ _ _ _ _ _ ((Bto s hs a h).mono fun r g hx=> ?_)
    have hx':=hx
    obtain⟨b,l,e1,e2,_⟩:=hx
    subst e1;subst e2
    refine⟨⟨rfl,rfl⟩, ?_⟩
    apply Aip
    exact hx'
  have kk:∀p:Prop,(p↔(s[a].toNat=41∨s[a].toNat=123∨s[a].toNat=125))→(p↔kd s[a]=1):=by
   intro p hp
   rw [hp]
   unfold kd Sa
   constructor
   ·intro h;rw [if_neg (by omega),if_pos (by omega)]
   ·intro h
    split at h
    ·omega
    ·split at h<;>omega
  refine Ce (fun e=>one _ ?_) fun e7=>Ce (fun e=>one _ ?_) fun e8=>one _ ?_
  ·exact kk _ (by rw [Ca];omega)
  ·exact kk _ (by rw [Ca];omega)
  ·exact kk _ (by rw [Ca];omega)
theorem A40(a:Int):Call E0.P Qq [.imm (.str s), .imm (.int .i64 a)] [] (Is (nxA (Ao s a)) []):=by
 have hs9:s.length≤1000000000:=by omega
 have hp:=Be9 s a
 refine A4b _ _ _ (Call.use (Bcd s hs9 a) ⟨⟨rfl,rfl⟩, ?_⟩)
 rw [Fy]
 unfold Ao
 refine Ce (fun e=> ?_) fun e=> ?_
 ·rw [List.drop_eq_nil_of_le (by omega)];exact⟨rfl,rfl⟩
 ·have h:Ei s a<s.length:=by omega
  have h37:s[Ei s a].toNat≠37:=by
   refine A97 false (s.drop (Pw s a)) _ (s.drop (Ei s a+1)) ?_
   rw [List.drop_drop]
   exact J2 s _ h
  rw [J2 s _ h]
  refine(Bqu s hs _ h h37).mono fun r g hx=> ?_
  obtain⟨b,l,e1,e2,e3⟩:=hx
  subst e1;subst e2
  refine⟨⟨rfl,rfl⟩, ?_⟩
  have wf:=Bu3 s[Ei s a] (s.drop (Ei s a+1)) (Ei s a)
  refine Xr (p:=(Kw s[Ei s a] (s.drop (Ei s a+1)) (Ei s a)).e=0) Ca (fun he=> ?_) fun he=> ?_
  ·have hb:=wf.2 he
   refine⟨?_,rfl⟩
   simp only [nxA]
   rw [hb]
   rfl
  ·refine⟨?_,rfl⟩
   rw [e3 he]
   simp only [nxA]
   rw [wf.1 he,he]
   rfl
end
end Go.Proofs.Sim.Se

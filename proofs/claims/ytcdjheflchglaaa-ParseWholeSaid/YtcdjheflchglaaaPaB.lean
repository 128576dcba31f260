import Derived.Test.YtcdjheflchglaaaPaA
set_option maxRecDepth 100000
namespace Go.Proofs.Sim.Se
open Go Go.Proofs Go.Proofs.Sim Go.Proofs.Sim.Va Go.RowKit Go.Proofs.Sim.Pa
abbrev A7w(s:List UInt8)(a:Int):Heap:=[(Nm.arg 0, .blk Ac [.imm (.str s), .imm (.int .i64 a), .own (Nm.arg 1)])]
theorem Baw:∀(n:Fin 64) (d:Fin 8),IntKind.i64.wrap (↑(BitVec.ofInt 64 (IntKind.i64.wrap (((n:Nat):Int)*(2:Int) ^ (3:Nat))) ||| BitVec.ofInt 64 ((d:Nat):Int)).toNat:Int)=((8*(n:Nat)+(d:Nat):Nat):Int):=by decide+kernel
theorem Bbj(n:Nat)(hn:n<64)(c:UInt8)(h1:48≤c.toNat)(h2:c.toNat≤55):IntKind.i64.wrap (↑(BitVec.ofInt 64 (IntKind.i64.wrap ((n:Int)*(2:Int) ^ (3:Nat))) ||| BitVec.ofInt 64 (IntKind.i64.wrap (IntKind.u8.wrap ((c.toNat:Int) - 48)))).toNat:Int)=((8*n+(c.toNat - 48):Nat):Int):=by
 rw [wrap_u8 _ (by omega) (by omega),Be ((c.toNat:Int) - 48) (by omega) (by omega),show(c.toNat:Int) - 48=((c.toNat - 48:Nat):Int)by omega]
 exact Baw ⟨n,hn⟩ ⟨c.toNat - 48,by omega⟩
theorem Bdf:∀v:Fin 512,IntKind.u8.wrap ((v:Nat):Int)=(((UInt8.ofNat (v:Nat)).toNat:Nat):Int):=by decide+kernel
theorem Avw:∀(k:Nat) (l:List UInt8) (n i:Nat),k+i=3→n<8 ^ i→(Gp k l n).1<512
 |0,l,n,i,h,hn=>by
  have:i=3:=by omega
  subst this;exact hn
 |k+1,[],n,i,h,hn=>by
  rw [Gp]
  have:8 ^ i≤8 ^ 3:=Nat.pow_le_pow_right (by decide) (by omega)
  simp only;omega
 |k+1,c::r,n,i,h,hn=>by
  rw [Gp]
  split
  ·rename_i ho
   simp only
   refine Avw k r _ (i+1) (by omega) ?_
   simp [Yp]at ho
   rw [Nat.pow_succ];omega
  ·have:8 ^ i≤8 ^ 3:=Nat.pow_le_pow_right (by decide) (by omega)
   simp only;omega
theorem Yh(c:UInt8):Yp c=true↔48≤c.toNat∧c.toNat≤55:=by simp [Yp]
section
variable (s:List UInt8) (hs:s.length≤1000000000)
include hs
theorem Bd7(K:KK):∀(k i a n:Nat),k+i=3→a≤s.length→n<8 ^ i→K (.exit 0) ⟨[(3, .imm (.int .i64 ((Gp k (s.drop a) n).1:Nat)))],A7w s ((a+(Gp k (s.drop a) n).2:Nat):Int)⟩→Hl n i s a K:=by
 intro k
 induction k with
 |zero=>
  intro i a n hi ha hn hK
  refine Ri _ _ _ _ _ (Bz (fun h=>by omega) fun _=> ?_)
  simpa only [Gp,Nat.add_zero] using hK
 |succ k ih=>
  intro i a n hi ha hn hK
  refine Ri _ _ _ _ _ (Bz (fun _=>Bz (fun h=> ?_) fun h=>⟨⟨by omega,by omega⟩, ?_⟩) fun h=>by omega)
  ·rw [List.drop_eq_nil_of_le (by omega)]at hK
   exact Let.intro (Let.intro (brT (by simpa only [Gp,Nat.add_zero] using hK)))
  ·have hlt:a<s.length:=by omega
   rw [Hg s a hlt]
   rw [Dt s a hlt,Gp]at hK
   refine Let.intro (Let.intro (Dj (p:=¬Yp s[a]=true) (by rw [Ar1,Yh];simp;omega) (fun h'=> ?_) fun h'=>⟨by decide, ?_⟩))
   ·rw [if_neg h']at hK;exact hK
   ·have h':=Classical.not_not.1 h'
    rw [if_pos h']at hK
    have h2:=(Yh _).1 h'
    have h64:n<64:=Nat.lt_of_lt_of_le hn (Nat.pow_le_pow_right (n:=8) (by decide) (show i≤2 by omega))
    rw [Bbj n h64 _ h2.1 h2.2,Hq i (by omega),Hq a (by omega)]
    refine ih (i+1) (a+1) _ (by omega) (by omega) (by rw [Nat.pow_succ];omega) ?_
    rw [show a+1+(Gp k (s.drop (a+1)) (8*n+(s[a].toNat - 48))).2=a+((Gp k (s.drop (a+1)) (8*n+(s[a].toNat - 48))).2+1)by omega]
    exact hK
theorem Bbi(a:Nat)(ha:a≤s.length):Call E0.P D7 [.ptr (.arg 0) 0] (A7w s a) (Is (.imm (.int .u8 ((UInt8.ofNat (Gp 3 (s.drop a) 0).1).toNat:Nat))) (A7w s ((a+(Gp 3 (s.drop a) 0).2:Nat):Int))):=by
 refine Afs _ _ _ (Bd7 s hs _ 3 0 a 0 rfl ha (by decide) ?_)
 apply Acs
 refine Ab3 _ _ _ _ ?_
 apply Ac9
 rw [Bdf ⟨_,Avw 3 (s.drop a) 0 0 rfl (by decide)⟩]
 exact⟨rfl,rfl⟩
theorem Ayb(a:Nat)(h:¬a<s.length)(rows:LL):Call E0.P Jv [.ptr (.arg 0) 0] (Si s a rows) (Is (.imm (.bool false)) (Si s a rows)):=by
 have _:=hs
 refine Sj _ _ _ _ (Bz (fun _=>Anl rfl ⟨rfl,rfl⟩) fun h=>by omega)
theorem A75(a:Nat)(h:a<s.length)(t:List UInt8)(k:Nat)(he:X3 (s.drop a)=some (t,k))(out:List UInt8)(ho:out.length≤1000000000):
 Call E0.P Jv [.ptr (.arg 0) 0] (Si s a (Bb out)) (Is (.imm (.bool true)) (Si s (a+k:Nat) (Bb (out++t)))):=by
 refine Sj _ _ _ _ (Bz (fun h=>by omega) fun _=>⟨⟨by omega,by omega⟩,Am8 rfl (Call.use (Ags s (by omega) a) ⟨⟨rfl,rfl⟩, ?_⟩)⟩)
 rw [Ee,Hg s a h]
 have hb:=bl1 out
 have hdr:=Dt s a h
 rw [hdr,X3, ←hdr]at he
 refine Dj (p:=0<Nr (s.drop a)) (by rw [Bg];omega) (fun h1=> ?_) fun h1=>Let.intro (Dj (p:=Yp s[a]=true) (by rw [Ph,Yh];omega) (fun h2=> ?_) fun h2=> ?_)
 ·rw [if_pos h1]at he
  injection he with he
  injection he with e1 e2
  subst e1;subst e2
  have hn:Nr (s.drop a)≤2:=by
   rw [hdr,Afy];split
   ·omega
   ·split
    ·split
     ·split<;>omega
     ·omega
    ·omega
  rw [wrA a _ (by omega),List.append_nil]
  exact⟨rfl,rfl⟩
 ·rw [if_neg h1,if_pos h2]at he
  injection he with he
  injection he with e1 e2
  subst e1;subst e2
  have leaf:∀Q:QQ,Q (.imm (.bool true)) (Si s (a+(Gp 3 (s.drop a) 0).2:Nat) (Bb (out++[UInt8.ofNat (Gp 3 (s.drop a) 0).1])))→Ao (((Bb out).length+1)*1≤140737488355328∧(Bb out).length+1≤140737488355328)
   (Q (.imm (.bool true)) (Si s (a+(Gp 3 (s.drop a) 0).2:Nat) (Bb out++[[IV.int .u8 ((UInt8.ofNat (Gp 3 (s.drop a) 0).1).toNat:Nat)]]))):=fun Q hq=>⟨⟨by omega,by omega⟩,by rw [Amz];exact hq⟩
  have leaf:=leaf (Is (.imm (.bool true)) (Si s (a+(Gp 3 (s.drop a) 0).2:Nat) (Bb (out++[UInt8.ofNat (Gp 3 (s.drop a) 0).1])))) ⟨rfl,rfl⟩
  repeat' first
   |exact leaf
   |refine And.intro ?_ ?_
   |refine Call.use (Bbi s hs a (Nat.le_of_lt h)) ⟨⟨rfl,rfl⟩, ?_⟩
 ·rw [if_neg h1,if_neg h2]at he
  injection he with he
  injection he with e1 e2
  subst e1;subst e2
  have fin:∀c:UInt8,Aay s[a]=c→∀n:Int,n=(c.toNat:Int)→Bw n s (IntKind.i64.wrap ((a:Int)+1)) (Bb out) (Cb s a (Bb out) (Is (.imm (.bool true)) (Si s (a+1:Nat) (Bb (out++[Aay s[a]]))))):=by
   intro c hc n hn
   subst hn
   rw [Hq a (by omega)]
   refine Aa2 _ _ _ _ _ ⟨⟨by omega,by omega⟩, ?_⟩
   apply Ab7
   rw [Amz,hc]
   exact⟨rfl,rfl⟩
  have L:Aay s[a]=if s[a].toNat=110 then 10 else if s[a].toNat=114 then 13 else if s[a].toNat=116 then 9 else if s[a].toNat=98 then 8 else if s[a].toNat=102 then 12 else s[a]:=rfl
  refine Bz (fun e=>fin 10 ?_ _ rfl) fun e1=>Bz (fun e=>fin 13 ?_ _ rfl) fun e2=>Bz (fun e=>fin 9 ?_ _ rfl) fun e3=>Bz (fun e=>fin 8 ?_ _ rfl) fun e4=>Bz (fun e=>fin 12 ?_ _ rfl) fun e5=>fin s[a] ?_ _ rfl
  ·rw [L,if_pos (by omega)]
  ·rw [L,if_neg (by omega),if_pos (by omega)]
  ·rw [L,if_neg (by omega),if_neg (by omega),if_pos (by omega)]
  ·rw [L,if_neg (by omega),if_neg (by omega),if_neg (by omega),if_pos (by omega)]
  ·rw [L,if_neg (by omega),if_neg (by omega),if_neg (by omega),if_neg (by omega),if_pos (by omega)]
  ·rw [L,if_neg (by omega),if_neg (by omega),if_neg (by omega),if_neg (by omega),if_neg (by omega)]
end
end Go.Proofs.Sim.Se
set_option maxRecDepth 100000
namespace Go.Proofs.Sim.Se
open Go Go.Proofs Go.Proofs.Sim Go.Proofs.Sim.Va Go.RowKit Go.Proofs.Sim.Pa
theorem Aog:∀l:List UInt8,Nr l≤l.length∧Nr l≤2
 | []=>⟨Nat.le_refl _,by decide⟩
 | [c]=>by
   rw [Afy];simp only [List.length_cons,List.length_nil]
   split
   ·omega
   ·split<;>omega
 |c::d::r=>by
  rw [Afy];simp only [List.length_cons]
  split
  ·omega
  ·split
   ·split<;>omega
   ·omega
theorem Awn:∀(k:Nat) (l:List UInt8) (n:Nat),(Gp k l n).2≤l.length
 |0,l,n=>by rw [Gp];exact Nat.zero_le _
 |k+1,[],n=>by rw [Gp];exact Nat.zero_le _
 |k+1,c::r,n=>by
  rw [Gp];split
  ·have:=Awn k r (8*n+(c.toNat - 48));simp only [List.length_cons];omega
  ·exact Nat.zero_le _
theorem A03 {l t:List UInt8} {k:Nat} (h:X3 l=some (t,k)):1≤k∧k≤l.length∧t.length≤1:=by
 rcases l with _ |⟨c,r⟩
 ·cases h
 ·rw [X3]at h
  have he:=Aog (c::r)
  split at h
  ·injection h with h;injection h with h1 h2;subst h1;subst h2
   exact⟨by omega,he.1,by simp⟩
  ·split at h
   ·rename_i ho
    injection h with h;injection h with h1 h2;subst h1;subst h2
    refine⟨?_,Awn _ _ _,by simp⟩
    rw [Gp,if_pos ho];simp only;omega
   ·injection h with h;injection h with h1 h2;subst h1;subst h2
    simp
theorem Bdw:∀h:Fin 16,IntKind.u8.wrap (IntKind.i64.wrap (((h:Nat):Int)*(2:Int) ^ (4:Nat)))=(((UInt8.ofNat (16*(h:Nat))).toNat:Nat):Int):=by decide+kernel
theorem Bdm:∀h l:Fin 16,IntKind.u8.wrap (↑(BitVec.ofInt 8 (((UInt8.ofNat (16*(h:Nat))).toNat:Nat):Int) ||| BitVec.ofInt 8 (IntKind.u8.wrap ((l:Nat):Int))).toNat:Int)=(((UInt8.ofNat (16*(h:Nat)+(l:Nat))).toNat:Nat):Int):=by decide+kernel
theorem A7u(out:List UInt8)(x y:UInt8):(Bb (out++[x])).set out.length [IV.int .u8 (y.toNat:Int)]=Bb (out++[y]):=by
 simp [Bb]
theorem A9j(out:List UInt8)(x:UInt8):(Bb (out++[x])).getD out.length []=[IV.int .u8 (x.toNat:Int)]:=by
 simp [Bb,List.getD_eq_getElem?_getD]
section
variable (s:List UInt8) (hs:s.length≤1000000000)
include hs
abbrev TxL(s:List UInt8)(d:Int)(a:Nat)(out:List UInt8)(K:KK):Prop:=H6 d s a 0 0 [] 0 0 (Bb out) K
theorem Bdk(at_:Int)(out0:LL)(Q:QQ)(X:Part)(hQ:∀r h,ScQ s 3 X r h→Q r h):∀(m a:Nat) (out:List UInt8) (d:Nat),s.length<a+m→a≤s.length→out.length≤a→1≤d→d≤a+1→Oi m (s.drop a) out d a=X→TxL s d a out (Gg s at_ out0 Q):=by
 have short:∀(a:Nat) (out:List UInt8),X=([],0,5)→Gg s at_ out0 Q (.exit 0) ⟨[(2, .ptr (Nm.loc 2) 0)],[(Nm.loc 2, .blk Aq [.imm (.int .i64 0), .imm (.int .i64 0), .imm (.str []), .imm (.int .i64 0), .imm (.int .i64 0)]),(Nm.arg 0, .blk Ac [.imm (.str s), .imm (.int .i64 a), .own (Nm.arg 1)]),(Nm.arg 1, .arr (Ap+2) true 1 (Bb out))]⟩:=by
  intro a out hx
  apply Aek
  refine Acm _ _ _ _ _ _ _ _ _ ?_
  apply Aem
  exact hQ _ _ (hx ▸ Aa0 (by decide))
 intro m
 induction m with
 |zero=>intro a out d hm ha;omega
 |succ m ih=>
  intro a out d hm ha ho hd1 hd2 hX
  have hb:=bl1 out
  by_cases h:a<s.length
  case neg=>
   rw [List.drop_eq_nil_of_le (by omega)]at hX
   exact R7 _ _ _ _ _ _ _ _ _ _ (Bz (fun h=>by omega) fun _=>short a out hX.symm)
  have hdr:=Dt s a h
  have he:=Aog (s.drop a)
  rw [List.length_drop]at he
  rw [hdr,Oi, ←hdr]at hX
  have push:∀(c:UInt8) (d' b:Nat),a<b→b≤s.length→1≤d'→d'≤b+1→(X=if 65535≤out.length then([],0,8)else Oi m (s.drop b) (out++[c]) d' b)→∀n:Int,n=(c.toNat:Int)→Fw d' n s b 0 0 [] 0 0 (Bb out) (Ey (Gg s at_ out0 Q)):=by
   intro c d' b hab hbs h1 h2 hx n hn
   subst hn
   refine Re _ _ _ _ _ _ _ _ _ _ _ (Bz (fun h=>by omega) fun _=>⟨⟨by omega,by omega⟩, ?_⟩)
   rw [Amz,bl1]
   have hl:(out++[c]).length=out.length+1:=by simp
   refine Bz (fun h=> ?_) fun h=> ?_
   ·rw [hl]at h
    rw [if_pos (by omega)]at hx
    apply Sc
    apply Lx
    exact hQ _ _ (hx ▸ Aa0 (by decide))
   ·rw [hl]at h
    rw [if_neg (by omega)]at hx
    apply Aeg
    exact ih b (out++[c]) d' (by omega) hbs (by omega) h1 h2 hx.symm
  refine R7 _ _ _ _ _ _ _ _ _ _ (Bz (fun _=>⟨⟨by omega,by omega⟩,Call.use (Ags s (by omega) a) ⟨⟨rfl,rfl⟩, ?_⟩⟩) fun h=>by omega)
  rw [Ee,Hg s a h]
  refine Dj (p:=0<Nr (s.drop a)) (by rw [Bg];omega) (fun h1=> ?_) fun h1=> ?_
  ·rw [if_pos h1,List.drop_drop]at hX
   have e:(if((Nr (s.drop a):Nat):Int)>1 then((Nr (s.drop a):Nat):Int)else 1)=((Nr (s.drop a):Nat):Int):=by split<;>omega
   rw [e,wrA a _ (by omega)]
   exact push 10 d _ (by omega) (by omega) hd1 (by omega) hX.symm 10 rfl
  rw [if_neg h1]at hX
  rw [if_neg (show ¬((Nr (s.drop a):Nat):Int)>1 by omega),Hq a (by omega)]
  refine Bz (fun h92=> ?_) fun h92=> ?_
  ·rw [if_pos (by omega)]at hX
   by_cases h2:a+1<s.length
   ·rcases hesc:X3 (s.drop (a+1))with _ |⟨t,k⟩
    ·rw [Dt s (a+1) h2,X3]at hesc
     split at hesc
     ·cases hesc
     ·split at hesc<;>cases hesc
    ·rw [hesc]at hX
     have hk:=A03 hesc
     rw [List.length_drop]at hk
     refine Call.use (A75 s hs (a+1) h2 t k hesc out (by omega)) ⟨⟨rfl,rfl⟩,Am8 rfl ?_⟩
     have e2:Cz (Si s (a+1+k:Nat) (Bb (out++t))) (Nm.arg 1)=Bb (out++t):=rfl
     rw [e2,bl1]
     have hl:(out++t).length=out.length+t.length:=by simp
     simp only [List.drop_drop]at hX
     refine Bz (fun h=> ?_) fun h=> ?_
     ·rw [hl]at h
      rw [if_pos (by omega)]at hX
      apply Lx
      exact hQ _ _ (hX ▸ Aa0 (by decide))
     ·rw [hl]at h
      rw [if_neg (by omega)]at hX
      exact ih (a+1+k) (out++t) d (by omega) (by omega) (by omega) hd1 (by omega) hX
   ·rw [List.drop_eq_nil_of_le (show s.length≤a+1 by omega),X3]at hX
    refine Call.use (Ayb s hs (a+1) h2 _) ⟨⟨rfl,rfl⟩,Anl rfl ?_⟩
    exact short (a+1) out hX.symm
  rw [if_neg (by omega)]at hX
  refine Bz (fun h40=> ?_) fun h40=> ?_
  ·rw [if_neg (by omega),if_pos (show s[a].toNat=40 by omega)]at hX
   rw [Hq d (by omega)]
   exact push s[a] (d+1) (a+1) (by omega) (by omega) (by omega) (by omega) (by rw [←hX];simp) _ rfl
  rw [if_neg (show ¬s[a].toNat=40 by omega)]at hX
  refine Bz (fun h41=> ?_) fun h41=> ?_
  ·rw [if_pos (show s[a].toNat=41 by omega)]at hX
   rw [Be ((d:Int) - 1) (by omega) (by omega)]
   by_cases h1:d=1
   ·subst h1
    rw [if_pos ⟨by omega,by simp⟩]at hX
    refine Re _ _ _ _ _ _ _ _ _ _ _ (Bz (fun _=>⟨Aes _, ?_⟩) fun h=>by omega)
    apply Sc
    apply Lx
    rw [Ao0]
    exact hQ _ _ (hX ▸ A05)
   ·rw [if_neg (fun h=>h1 (by have:=h.2;omega))]at hX
    rw [show(d:Int) - 1=((d - 1:Nat):Int)by omega]at hX ⊢
    exact push s[a] (d - 1) (a+1) (by omega) (by omega) (by omega) (by omega) hX.symm _ rfl
  ·rw [if_neg (by omega),if_neg (show ¬s[a].toNat=41 by omega)]at hX
   exact push s[a] d (a+1) (by omega) (by omega) hd1 (by omega) hX.symm _ rfl
theorem Bdq(a:Nat)(ha:a<s.length):Call E0.P Pt [.ptr (.arg 0) 0] (Si s a []) (ScQ s 3 (Oi ((s.drop (a+1)).length+1) (s.drop (a+1)) [] 1 (a+1))):=by
 refine Ahc _ _ _ _ ?_
 rw [Hq a (by omega)]
 exact Bdk s hs a [] _ _ (fun _ _ h=>h) _ (a+1) [] 1 (by rw [List.length_drop];omega) (by omega) (by simp) (by omega) (by omega) rfl
def hxO(half:Int)(out:List UInt8):List UInt8:=if half<0 then out else out++[Vb (16*half)]
def Bci(s:List UInt8)(K:KK)(a many:Nat)(rows:LL):Prop:=
 (∀h:a<s.length,Fj (s[a].toNat:Int) true 0 0 [] 0 0 many s a rows K)∧(¬a<s.length→Fj 0 false 0 0 [] 0 0 many s a rows K)
theorem Azi(K:KK)(a many:Nat)(ha:a≤s.length)(hm:many≤a)(rows:LL)(hb:65535<many / 2→Df K .ret ⟨[(2, .ptr (Nm.loc 2) 0),(3, .imm (.int .i64 8))],[(Nm.loc 2, .blk Aq [.imm (.int .i64 0), .imm (.int .i64 0), .imm (.str []), .imm (.int .i64 0), .imm (.int .i64 0)]),(Nm.arg 0, .blk Ac [.imm (.str s), .imm (.int .i64 a), .own (Nm.arg 1)]),(Nm.arg 1, .arr (Ap+2) true 1 rows)]⟩)(h:¬65535<many / 2→Bci s K a many rows):D8 0 0 [] 0 0 many s a rows (Df K):=by
 refine Ael _ _ _ _ _ _ _ _ _ _ ⟨by decide, ?_⟩
 rw [show((many:Int)).tdiv 2=((many / 2:Nat):Int) from rfl,A9u _ (by omega)]
 refine Bz (fun h=>hb (by omega)) fun h0=> ?_
 have h:=h (by omega)
 apply Ae3
 refine Ad8 _ _ _ _ _ _ _ _ _ _ (Bz (fun h'=> ?_) fun h'=>⟨⟨by omega,by omega⟩, ?_⟩)
 ·apply Tv
  exact h.2 (by omega)
 ·have hlt:a<s.length:=by omega
  rw [Hg s a hlt]
  apply Tv
  exact h.1 hlt
theorem Bd6(at_:Int)(out0:LL)(Q:QQ)(X:Part)(hQ:∀r h,ScQ s 3 X r h→Q r h):∀(m a many:Nat) (out:List UInt8) (half:Int),s.length≤a+m→a≤s.length→many≤a→out.length+(if half<0 then 0 else 1)≤a→ -1≤half→half≤15→many=2*out.length+(if half<0 then 0 else 1)→out.length≤65535→Rx (s.drop a) half out a=X→
 Bci s (Dy s at_ out0 Q) a many (Bb (hxO half out)):=by
 have off:∀(a many:Nat) (rows:List UInt8),¬a<s.length→X=([],0,5)→Fj 0 false 0 0 [] 0 0 many s a (Bb rows) (Dy s at_ out0 Q):=by
  intro a many rows h hX
  refine Tc _ _ _ _ _ _ _ _ _ _ _ _ (brF ?_)
  apply Agf
  refine Aed _ _ _ _ _ _ _ _ _ ?_
  apply Ae9
  exact hQ _ _ (hX ▸ Aa0 (by decide))
 have offX:∀(a:Nat) (half:Int) (out:List UInt8),¬a<s.length→Rx (s.drop a) half out a=X→X=([],0,5):=by
  intro a half out h hX
  rw [List.drop_eq_nil_of_le (by omega)]at hX
  exact hX.symm
 intro m
 induction m with
 |zero=>intro a many out half hm ha hy ho h0 h1 hp hmx hX;exact⟨fun h=>by omega,fun h=>off a many _ h (offX a half out h hX)⟩
 |succ m ih=>
  intro a many out half hm ha hy ho h0 h1 hp hmx hX
  refine⟨fun h=> ?_,fun h=>off a many _ h (offX a half out h hX)⟩
  have hd:=Abw s[a]
  have hb:(Bb (hxO half out)).length=out.length+(if half<0 then 0 else 1):=by
   rw [bl1];unfold hxO;split<;>simp
  rw [Dt s a h,Rx]at hX
  refine Tc _ _ _ _ _ _ _ _ _ _ _ _ (brT (Call.use (V9 _) ⟨⟨rfl,rfl⟩, ?_⟩))
  rw [Ee,Hq a (by omega)]
  have bad2:∀(e:Int) (o:List UInt8),e≠0→X=([],0,e)→Dy s at_ out0 Q .ret ⟨[(2, .ptr (Nm.loc 2) 0),(3, .imm (.int .i64 e))],[(Nm.loc 2, .blk Aq [.imm (.int .i64 0), .imm (.int .i64 0), .imm (.str []), .imm (.int .i64 0), .imm (.int .i64 0)]),(Nm.arg 0, .blk Ac [.imm (.str s), .imm (.int .i64 (a+1:Nat)), .own (Nm.arg 1)]),(Nm.arg 1, .arr (Ap+2) true 1 (Bb o))]⟩:=by
   intro e o he hx
   apply Na
   exact hQ _ _ (hx ▸ Aa0 he)
  have bad:∀(e:Int),e≠0→X=([],0,e)→Dy s at_ out0 Q .ret ⟨[(2, .ptr (Nm.loc 2) 0),(3, .imm (.int .i64 e))],[(Nm.loc 2, .blk Aq [.imm (.int .i64 0), .imm (.int .i64 0), .imm (.str []), .imm (.int .i64 0), .imm (.int .i64 0)]),(Nm.arg 0, .blk Ac [.imm (.str s), .imm (.int .i64 (a+1:Nat)), .own (Nm.arg 1)]),(Nm.arg 1, .arr (Ap+2) true 1 (Bb (hxO half out)))]⟩:=by
   intro e he hx
   apply Na
   exact hQ _ _ (hx ▸ Aa0 he)
  refine Bz (fun h62=> ?_) fun h62=> ?_
  ·rw [if_pos (by omega)]at hX
   rw [hb]
   refine Bz (fun h'=> ?_) fun h'=>⟨Aes _, ?_⟩
   ·by_cases hh:half<0
    ·rw [if_pos hh]at h';omega
    ·rw [if_neg hh]at h'
     rw [if_neg hh,if_pos (by omega)]at hX
     exact bad 8 (by decide) hX.symm
   ·apply Na
    rw [Ao0]
    refine hQ _ _ ?_
    have:X=(hxO half out,a+1,0):=by
     rw [←hX];unfold hxO
     by_cases hh:half<0
     ·rw [if_pos hh,if_pos hh]
     ·rw [if_neg hh]at h'
      rw [if_neg hh,if_neg (by omega),if_neg hh]
    rw [this]
    exact A05
  rw [if_neg (by omega)]at hX
  refine Bz (fun hv=> ?_) fun hv=> ?_
  ·rw [if_neg (by omega)]at hX
   refine⟨by decide, ?_⟩
   rw [Hq many (by omega),show((many+1:Nat):Int).tmod 2=(((many+1) % 2:Nat):Int) from rfl]
   refine Dj (p:=half<0) (by rw [Bg];split at hp<;>omega) (fun hh=>⟨by decide, ?_⟩) fun hh=> ?_
   ·rw [if_pos hh]at hX hp ho hb
    have e:IntKind.u8.wrap (IntKind.i64.wrap (Ce s[a]*(2:Int) ^ (4:Nat)))=(((Vb (16*Ce s[a])).toNat:Nat):Int):=by
     have:=Bdw ⟨(Ce s[a]).toNat,by omega⟩
     simp only [Int.toNat_of_nonneg hv]at this
     rw [this];unfold Vb
     rw [show(16*Ce s[a]).toNat=16*(Ce s[a]).toNat by omega]
    rw [e,Amz]
    have e2:hxO half out++[Vb (16*Ce s[a])]=hxO (Ce s[a]) out:=by
     unfold hxO;rw [if_pos hh,if_neg (by omega)]
    rw [e2]
    have go:=Azi s hs _ (a+1) (many+1) (by omega) (by omega) _ (fun h=>by omega) fun _=>(ih (a+1) (many+1) out (Ce s[a]) (by omega) (by omega) (by omega) (by rw [if_neg (by omega)];omega) (by omega) hd.2 (by rw [if_neg (by omega)];omega) hmx hX)
    have leaf:Ao (((Bb (hxO half out)).length+1)*1≤140737488355328∧(Bb (hxO half out)).length+1≤140737488355328) (D8 0 0 [] 0 0 (many+1:Nat) s (a+1:Nat) (Bb (hxO (Ce s[a]) out)) (Df (Dy s at_ out0 Q))):=⟨⟨by omega,by omega⟩,go⟩
    exact⟨leaf,leaf,leaf⟩
   ·rw [if_neg hh]at hX hp ho hb
    have eo:hxO half out=out++[Vb (16*half)]:=by unfold hxO;rw [if_neg hh]
    rw [hb]
    rw [show IntKind.i64.wrap (((out.length+1:Nat):Int) - 1)=(out.length:Int)by rw [Be _ (by omega) (by omega)];omega,Int.toNat_natCast]
    rw [eo,A9j]
    refine⟨⟨by omega,by omega⟩,⟨⟨by omega,rfl⟩,⟨⟨by omega,by omega⟩,⟨by omega, ?_⟩⟩⟩⟩
    have e:IntKind.u8.wrap (↑(BitVec.ofInt 8 (gI (List.take 1 (List.drop 0 [IV.int .u8 ((Vb (16*half)).toNat:Int)])) 0) ||| BitVec.ofInt 8 (IntKind.u8.wrap (Ce s[a]))).toNat:Int)=(((Vb (16*half+Ce s[a])).toNat:Nat):Int):=by
     have:=Bdm ⟨half.toNat,by omega⟩ ⟨(Ce s[a]).toNat,by omega⟩
     simp only [Int.toNat_of_nonneg hv]at this
     unfold Vb
     rw [show(16*half).toNat=16*half.toNat by omega,show(16*half+Ce s[a]).toNat=16*half.toNat+(Ce s[a]).toNat by omega]
     exact this
    rw [e,A7u]
    have e3:out++[Vb (16*half+Ce s[a])]=hxO (-1) (out++[Vb (16*half+Ce s[a])]):=rfl
    rw [e3]
    refine Azi s hs _ (a+1) (many+1) (by omega) (by omega) _ (fun h=> ?_) fun h=> ?_
    ·rw [if_pos (by omega)]at hX
     apply Aft
     exact bad2 8 _ (by decide) hX.symm
    ·rw [if_neg (by omega)]at hX
     exact ih (a+1) (many+1) (out++[Vb (16*half+Ce s[a])]) (-1) (by omega) (by omega) (by omega) (by rw [if_pos (by omega)];simp;omega) (by omega) (by omega) (by rw [if_pos (by omega)];simp;omega) (by simp;omega) hX
  ·rw [if_pos (by omega)]at hX
   refine Call.use (A88 _) ⟨⟨rfl,rfl⟩, ?_⟩
   rw [Ee]
   refine Ot Bg (fun hk=> ?_) fun hk=> ?_
   ·rw [if_neg hk]at hX
    exact bad 4 (by decide) hX.symm
   ·rw [if_pos hk]at hX
    exact Azi s hs _ (a+1) many (by omega) (by omega) _ (fun h=>by split at hp<;>omega) fun _=>(ih (a+1) many out half (by omega) (by omega) (by omega) (by omega) h0 h1 hp hmx hX)
theorem Ben(a:Nat)(ha:a<s.length):Call E0.P Qp [.ptr (.arg 0) 0] (Si s a []) (ScQ s 3 (Rx (s.drop (a+1)) (-1) [] (a+1))):=by
 have h:=Bd6 s hs a [] (ScQ s 3 (Rx (s.drop (a+1)) (-1) [] (a+1))) _ (fun _ _ h=>h) s.length (a+1) 0 [] (-1) (by omega) (by omega) (by omega) (by rw [if_pos (by omega)];simp) (by omega) (by omega) (by rw [if_pos (by omega)];rfl) (by simp) rfl
 refine Ah2 _ _ _ _ ?_
 rw [Hq a (by omega)]
 refine Bz (fun h'=>h.2 (by omega)) fun h'=>⟨⟨by omega,by omega⟩, ?_⟩
 rw [Hg s (a+1) (by omega)]
 exact h.1 (by omega)
end
end Go.Proofs.Sim.Se
set_option maxRecDepth 100000
namespace Go.Proofs.Sim.Se
open Go Go.Proofs Go.Proofs.Sim Go.Proofs.Sim.Va Go.RowKit Go.Proofs.Sim.Pa
def TkQ(s:List UInt8)(t:Tk):AV→Heap→Prop:=fun r h=>∃(b:Nat) (l:List UInt8),h=Si s b (Bb l)∧r=A1t t.k t.n t.s 0 0 t.e∧(t.e=0→b=t.b)
abbrev nxA(t:Tk):AV:=A1t t.k t.n t.s t.a t.b t.e
theorem Avq(k:Int)(p:Nat)(x:Part):((partT k p x).e=0→(partT k p x).a=p)∧((partT k p x).e≠0→partT k p x=Ala (partT k p x).e):=by
 unfold partT;split
 ·exact⟨fun _=>rfl,fun h=>absurd rfl h⟩
 ·rename_i h;exact⟨fun h'=>absurd h' h,fun _=>rfl⟩
theorem Bb2(l:List UInt8)(p:Nat):((Lr l p).e=0→(Lr l p).a=p)∧((Lr l p).e≠0→Lr l p=Ala (Lr l p).e):=by
 unfold Lr;split
 ·exact⟨fun _=>rfl,fun h=>absurd rfl h⟩
 ·split
  ·exact⟨fun h=>(by cases h),fun _=>rfl⟩
  ·split
   ·exact⟨fun h=>(by cases h),fun _=>rfl⟩
   ·exact⟨fun _=>rfl,fun h=>absurd rfl h⟩
theorem Bcg(c:UInt8)(r:List UInt8)(p:Nat):((P7 c r p).e=0→(P7 c r p).a=p)∧((P7 c r p).e≠0→P7 c r p=Ala (P7 c r p).e):=by
 unfold P7
 split
 ·exact⟨fun _=>rfl,fun h=>absurd rfl h⟩
 split
 ·exact⟨fun _=>rfl,fun h=>absurd rfl h⟩
 split
 ·exact Avq _ _ _
 split
 ·exact Avq _ _ _
 split
 ·split
  ·exact⟨fun _=>rfl,fun h=>absurd rfl h⟩
  ·exact Avq _ _ _
 split
 ·split
  ·exact⟨fun _=>rfl,fun h=>absurd rfl h⟩
  ·exact⟨fun h=>(by cases h),fun _=>rfl⟩
 split
 ·exact⟨fun h=>(by cases h),fun _=>rfl⟩
 ·exact Bb2 _ _
theorem Arl {s:List UInt8} {k:Int} {p:Nat} {x:Part} {r:AV} {h:Heap} (hx:ScQ s k x r h):TkQ s (partT k p x) r h:=by
 obtain⟨a,l,e1,e2,e3,e4⟩:=hx
 refine⟨a,l,e1, ?_⟩
 unfold partT
 by_cases he:x.2.2=0
 ·rw [if_pos he]at*
  rw [he]at e2
  exact⟨e2,fun _=>e3 he⟩
 ·rw [if_neg he]at*
  rw [e4 he]at e2
  exact⟨e2,fun h=>absurd h he⟩
theorem Avi(s:List UInt8)(a:Nat)(c:UInt8):(s.drop a).head?=some c↔∃h:a<s.length,s[a]=c:=by
 by_cases h:a<s.length
 ·rw [Dt s a h];simp [h]
 ·rw [List.drop_eq_nil_of_le (by omega)];simp [h]
theorem Afi(s:List UInt8)(a w:Nat):List.drop a (List.take (a+w) s)=(s.drop a).take w:=by
 rw [List.drop_take];simp
theorem Aw1 {c:UInt8} {n:Nat} (hn:n<256):c=UInt8.ofNat n↔c.toNat=n:=⟨fun h=>by rw [h];exact UInt8.toNat_ofNat_of_lt' hn,fun h=>UInt8.toNat_inj.1 (by rw [h];exact(UInt8.toNat_ofNat_of_lt' hn).symm)⟩
theorem An5:∀(b:Bool) (l:List UInt8) (c:UInt8) (r:List UInt8),l.drop (Gd b l)=c::r→c.toNat≠37
 |_,[],c,r,h=>by simp [Gd]at h
 |b,x::l,c,r,h=>by
  rw [Gd]at h
  by_cases hx:Jw b x=false∧kd x≠0
  ·rw [if_pos hx,List.drop_zero]at h
   injection h with h1 h2
   subst h1
   intro e
   have:Jw b x=true:=by unfold Jw;rw [if_neg (by omega),if_pos e]
   rw [this]at hx;cases hx.1
  ·rw [if_neg hx,List.drop_succ_cons]at h
   exact An5 _ l c r h
section
variable (s:List UInt8) (hs:s.length≤1000000000)
include hs
theorem Bdo(a:Nat)(ha:a<s.length):Call E0.P Po [.ptr (.arg 0) 0] (Si s a []) (TkQ s (Lr (s.drop a) a)):=by
 have hw:=Aao 2 (s.drop a)
 rw [List.length_drop]at hw
 refine Ag1 _ _ _ _ (Call.use (Yu 2 s (by omega) a (by omega)) ⟨⟨rfl,rfl⟩, ?_⟩)
 rw [Ee,wrA a _ (by omega),Int.toNat_natCast,Int.toNat_natCast,Afi]
 refine⟨⟨by omega,by omega,by omega⟩,Let.intro ?_⟩
 have hl:((s.drop a).take (Ci 2 (s.drop a))).length=Ci 2 (s.drop a):=by rw [List.length_take,List.length_drop];omega
 rw [hl,wrA a _ (by omega)]
 refine Call.use (Avt _ (by omega)) ⟨⟨rfl,rfl⟩, ?_⟩
 rw [show rI (rT (isP (I4 ((s.drop a).take (Ci 2 (s.drop a))))) 0)=(I4 ((s.drop a).take (Ci 2 (s.drop a)))).1 from rfl,show rI (rT (isP (I4 ((s.drop a).take (Ci 2 (s.drop a))))) 1)=(I4 ((s.drop a).take (Ci 2 (s.drop a)))).2 from rfl]
 unfold Lr
 refine Bz (fun e=> ?_) fun e=>Bz (fun e2=> ?_) fun e2=>Bz (fun e3=> ?_) fun e3=> ?_
 ·rw [if_pos e];exact⟨_,[],rfl,rfl,fun _=>rfl⟩
 ·rw [if_neg e,if_pos e2,e2];exact⟨_,[],rfl,rfl,fun h=>by cases h⟩
 ·rw [if_neg e,if_neg e2,if_pos (by omega)];exact⟨_,[],rfl,rfl,fun h=>by cases h⟩
 ·rw [if_neg e,if_neg e2,if_neg (by omega)];exact⟨_,[],rfl,rfl,fun _=>rfl⟩
theorem Axd(a:Nat)(h:a<s.length)(n:Nat)(hn:n<256)(hc:s[a].toNat=n):((bif decide (IntKind.i64.wrap ((a:Int)+1)<(s.length:Int))then decide (((s.getD (IntKind.i64.wrap ((a:Int)+1)).toNat 0).toNat:Int)=(s[a].toNat:Int))else false)=true)↔(s.drop (a+1)).head?=some (UInt8.ofNat n):=by
 rw [Hq a (by omega),Ph,Avi]
 constructor
 ·rintro⟨h1,h2⟩
  have h3:a+1<s.length:=by omega
  rw [Hg s (a+1) h3]at h2
  exact⟨h3,(Aw1 hn).2 (by omega)⟩
 ·rintro⟨h3,h2⟩
  have h2:=(Aw1 hn).1 h2
  rw [Hg s (a+1) h3]
  exact⟨by omega,by omega⟩
theorem Azn(a:Nat):decide (IntKind.i64.wrap ((a:Int)+1)<(s.length:Int))=true→a<s.length→(0:Int)≤IntKind.i64.wrap ((a:Int)+1)∧IntKind.i64.wrap ((a:Int)+1)<(s.length:Int):=by
 intro h h2
 have:=of_decide_eq_true h
 rw [Hq a (by omega)]at this ⊢
 omega
theorem Bba(a:Nat)(h:a<s.length)(h37:s[a].toNat≠37):Call E0.P O3 [.ptr (.arg 0) 0] (Si s a []) (TkQ s (P7 s[a] (s.drop (a+1)) a)):=by
 have hs9:s.length≤1000000000:=by omega
 refine Agr _ _ _ _ ⟨⟨by omega,by omega⟩, ?_⟩
 rw [Hg s a h]
 unfold P7
 refine Bz (fun e=> ?_) fun e1=>Bz (fun e=> ?_) fun e2=>Bz (fun e=> ?_) fun e3=>Bz (fun e=> ?_) fun e4=>Bz (fun e=> ?_) fun e5=>Bz (fun e=> ?_) fun e6=> ?_
 ·rw [if_pos (by omega),Hq a (by omega)];exact⟨_,[],rfl,rfl,fun _=>rfl⟩
 ·rw [if_neg (by omega),if_pos (by omega),Hq a (by omega)];exact⟨_,[],rfl,rfl,fun _=>rfl⟩
 ·rw [if_neg (by omega),if_neg (by omega),if_pos (by omega)]
  refine(Bc5 s hs9 a h).mono fun r g hx=> ?_
  have hx':=Arl (p:=a) hx
  obtain⟨b,l,e1,e2,_⟩:=hx
  subst e1;subst e2
  exact⟨⟨rfl,rfl⟩,hx'⟩
 ·rw [if_neg (by omega),if_neg (by omega),if_neg (by omega),if_pos (by omega)]
  refine(Bdq s hs a h).mono fun r g hx=> ?_
  have hx':=Arl (p:=a) hx
  obtain⟨b,l,e1,e2,_⟩:=hx
  subst e1;subst e2
  exact⟨⟨rfl,rfl⟩,hx'⟩
 ·rw [if_neg (by omega),if_neg (by omega),if_neg (by omega),if_neg (by omega),if_pos (by omega)]
  refine⟨fun h'=>Azn s hs a h' h,⟨fun _=>⟨by omega,by omega⟩,Let.intro (Dj (p:=(s.drop (a+1)).head?=some 60) (Axd s hs a h 60 (by omega) (by omega)) (fun h2=> ?_) fun h2=> ?_)⟩⟩
  ·rw [if_pos h2,wr2 a (by omega)];exact⟨_,[],rfl,rfl,fun _=>rfl⟩
  ·rw [if_neg h2]
   refine(Ben s hs a h).mono fun r g hx=> ?_
   have hx':=Arl (p:=a) hx
   obtain⟨b,l,e1,e2,_⟩:=hx
   subst e1;subst e2
   exact⟨⟨rfl,rfl⟩,hx'⟩
 ·rw [if_neg (by omega),if_neg (by omega),if_neg (by omega),if_neg (by omega),if_neg (by omega),if_pos (by omega)]
  refine⟨fun h'=>Azn s hs a h' h,⟨fun _=>⟨by omega,by omega⟩,Let.intro (Dj (p:=(s.drop (a+1)).head?=some 62) (Axd s hs a h 62 (by omega) (by omega)) (fun h2=> ?_) fun h2=> ?_)⟩⟩
  ·rw [if_pos h2,wr2 a (by omega)];exact⟨_,[],rfl,rfl,fun _=>rfl⟩
  ·rw [if_neg h2];exact⟨_,[],rfl,rfl,fun h=>by cases h⟩
 ·rw [if_neg (by omega),if_neg (by omega),if_neg (by omega),if_neg (by omega),if_neg (by omega),if_neg (by omega)]
  have one:∀b:Bool,(b=true↔kd s[a]=1)→Gx b s a 0 0 [] 0 0 [] (Fz s a [] (TkQ s (if kd s[a]=1 then Ala 4 else Lr (s[a]::s.drop (a+1)) a))):=by
   intro b hb
   refine Ab1 _ _ _ _ _ _ _ _ _ _ (Dj hb (fun hk=> ?_) fun hk=> ?_)
   ·rw [if_pos hk]
    apply Ac0
    exact⟨a,[],rfl,rfl,fun h=>by cases h⟩
   ·rw [if_neg hk, ←Dt s a h]
    apply Ac8
    refine Abr _ _ _ _ _ _ _ _ _ ((Bdo s hs a h).mono fun r g hx=> ?_)
    have hx':=hx
    obtain⟨b,l,e1,e2,_⟩:=hx
    subst e1;subst e2
    refine⟨⟨rfl,rfl⟩, ?_⟩
    apply Acg
    exact hx'
  have kk:∀p:Prop,(p↔(s[a].toNat=41∨s[a].toNat=123∨s[a].toNat=125))→(p↔kd s[a]=1):=by
   intro p hp
   rw [hp]
   unfold kd R6
   constructor
   ·intro h;rw [if_neg (by omega),if_pos (by omega)]
   ·intro h
    split at h
    ·omega
    ·split at h<;>omega
  refine Bz (fun e=>one _ ?_) fun e7=>Bz (fun e=>one _ ?_) fun e8=>one _ ?_
  ·exact kk _ (by rw [Bg];omega)
  ·exact kk _ (by rw [Bg];omega)
  ·exact kk _ (by rw [Bg];omega)
theorem Aze(a:Int):Call E0.P Rf [.imm (.str s), .imm (.int .i64 a)] [] (Is (nxA (Ak s a)) []):=by
 have hs9:s.length≤1000000000:=by omega
 have hp:=Aq6 s a
 refine Au7 _ _ _ (Call.use (A1c s hs9 a) ⟨⟨rfl,rfl⟩, ?_⟩)
 rw [Ee]
 unfold Ak
 refine Bz (fun e=> ?_) fun e=> ?_
 ·rw [List.drop_eq_nil_of_le (by omega)];exact⟨rfl,rfl⟩
 ·have h:Dx s a<s.length:=by omega
  have h37:s[Dx s a].toNat≠37:=by
   refine An5 false (s.drop (Ke s a)) _ (s.drop (Dx s a+1)) ?_
   rw [List.drop_drop]
   exact Dt s _ h
  rw [Dt s _ h]
  refine(Bba s hs _ h h37).mono fun r g hx=> ?_
  obtain⟨b,l,e1,e2,e3⟩:=hx
  subst e1;subst e2
  refine⟨⟨rfl,rfl⟩, ?_⟩
  have wf:=Bcg s[Dx s a] (s.drop (Dx s a+1)) (Dx s a)
  refine Ot (p:=(P7 s[Dx s a] (s.drop (Dx s a+1)) (Dx s a)).e=0) Bg (fun he=> ?_) fun he=> ?_
  ·have hb:=wf.2 he
   refine⟨?_,rfl⟩
   simp only [nxA]
   rw [hb]
   rfl
  ·refine⟨?_,rfl⟩
   rw [e3 he]
   simp only [nxA]
   rw [wf.1 he,he]
   rfl
end
end Go.Proofs.Sim.Se

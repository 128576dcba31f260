import Derived.Test.YtaggabcajidnnaaGreatDoorPaA
set_option maxRecDepth 100000
namespace Go.Proofs.Sim.Se
open Go Go.Proofs Go.Proofs.Sim Go.Proofs.Sim.Va Go.RowKit Go.Proofs.Sim.Pa
abbrev Bss(s:List UInt8)(a:Int):Heap:=[(Nm.arg 0, .blk Ad [.imm (.str s), .imm (.int .i64 a), .own (Nm.arg 1)])]
theorem Bwc:∀(n:Fin 64) (d:Fin 8),IntKind.i64.wrap (↑(BitVec.ofInt 64 (IntKind.i64.wrap (((n:Nat):Int)*(2:Int) ^ (3:Nat))) ||| BitVec.ofInt 64 ((d:Nat):Int)).toNat:Int)=((8*(n:Nat)+(d:Nat):Nat):Int):=by decide+kernel
theorem Bwd(n:Nat)(hn:n<64)(c:UInt8)(h1:48≤c.toNat)(h2:c.toNat≤55):IntKind.i64.wrap (↑(BitVec.ofInt 64 (IntKind.i64.wrap ((n:Int)*(2:Int) ^ (3:Nat))) ||| BitVec.ofInt 64 (IntKind.i64.wrap (IntKind.u8.wrap ((c.toNat:Int) - 48)))).toNat:Int)=((8*n+(c.toNat - 48):Nat):Int):=by
 rw [wrap_u8 _ (by omega) (by omega),Av ((c.toNat:Int) - 48) (by omega) (by omega),show(c.toNat:Int) - 48=((c.toNat - 48:Nat):Int)by omega]
 exact Bwc ⟨n,hn⟩ ⟨c.toNat - 48,by omega⟩
theorem Bzd:∀v:Fin 512,IntKind.u8.wrap ((v:Nat):Int)=(((UInt8.ofNat (v:Nat)).toNat:Nat):Int):=by decide+kernel
theorem Bb2:∀(k:Nat) (l:List UInt8) (n i:Nat),k+i=3→n<8 ^ i→(G5 k l n).1<512
 |0,l,n,i,h,hn=>by
  have:i=3:=by omega
  subst this;exact hn
 |k+1,[],n,i,h,hn=>by
  rw [G5]
  have:8 ^ i≤8 ^ 3:=Nat.pow_le_pow_right (by decide) (by omega)
  simp only;omega
 |k+1,c::r,n,i,h,hn=>by
  rw [G5]
  split
  ·rename_i ho
   simp only
   refine Bb2 k r _ (i+1) (by omega) ?_
   simp [Afk]at ho
   rw [Nat.pow_succ];omega
  ·have:8 ^ i≤8 ^ 3:=Nat.pow_le_pow_right (by decide) (by omega)
   simp only;omega
theorem Adj(c:UInt8):Afk c=true↔48≤c.toNat∧c.toNat≤55:=by simp [Afk]
section
variable (s:List UInt8) (hs:s.length≤1000000000)
include hs
theorem Bzj(K:KK):∀(k i a n:Nat),k+i=3→a≤s.length→n<8 ^ i→K (.exit 0) ⟨[(3, .imm (.int .i64 ((G5 k (s.drop a) n).1:Nat)))],Bss s ((a+(G5 k (s.drop a) n).2:Nat):Int)⟩→Hz n i s a K:=by
 intro k
 induction k with
 |zero=>
  intro i a n hi ha hn hK
  refine Vt _ _ _ _ _ (Bh (fun h=>by omega) fun _=> ?_)
  simpa only [G5,Nat.add_zero] using hK
 |succ k ih=>
  intro i a n hi ha hn hK
  refine Vt _ _ _ _ _ (Bh (fun _=>Bh (fun h=> ?_) fun h=>⟨⟨by omega,by omega⟩, ?_⟩) fun h=>by omega)
  ·rw [List.drop_eq_nil_of_le (by omega)]at hK
   exact Let.intro (Let.intro (brT (by simpa only [G5,Nat.add_zero] using hK)))
  ·have hlt:a<s.length:=by omega
   rw [Gs s a hlt]
   rw [De s a hlt,G5]at hK
   refine Let.intro (Let.intro (Cg (p:=¬Afk s[a]=true) (by rw [Ao0,Adj];simp;omega) (fun h'=> ?_) fun h'=>⟨by decide, ?_⟩))
   ·rw [if_neg h']at hK;exact hK
   ·have h':=Classical.not_not.1 h'
    rw [if_pos h']at hK
    have h2:=(Adj _).1 h'
    have h64:n<64:=Nat.lt_of_lt_of_le hn (Nat.pow_le_pow_right (n:=8) (by decide) (show i≤2 by omega))
    rw [Bwd n h64 _ h2.1 h2.2,Gj i (by omega),Gj a (by omega)]
    refine ih (i+1) (a+1) _ (by omega) (by omega) (by rw [Nat.pow_succ];omega) ?_
    rw [show a+1+(G5 k (s.drop (a+1)) (8*n+(s[a].toNat - 48))).2=a+((G5 k (s.drop (a+1)) (8*n+(s[a].toNat - 48))).2+1)by omega]
    exact hK
theorem Bu1(a:Nat)(ha:a≤s.length):Call E0.P D6 [.ptr (.arg 0) 0] (Bss s a) (Is (.imm (.int .u8 ((UInt8.ofNat (G5 3 (s.drop a) 0).1).toNat:Nat))) (Bss s ((a+(G5 3 (s.drop a) 0).2:Nat):Int))):=by
 refine Amu _ _ _ (Bzj s hs _ 3 0 a 0 rfl ha (by decide) ?_)
 apply Aj1
 refine Aie _ _ _ _ ?_
 apply Aj0
 rw [Bzd ⟨_,Bb2 3 (s.drop a) 0 0 rfl (by decide)⟩]
 exact⟨rfl,rfl⟩
theorem Bd8(a:Nat)(h:¬a<s.length)(rows:LL):Call E0.P Kw [.ptr (.arg 0) 0] (Xn s a rows) (Is (.imm (.bool false)) (Xn s a rows)):=by
 have _:=hs
 refine Wt _ _ _ _ (Bh (fun _=>Azu rfl ⟨rfl,rfl⟩) fun h=>by omega)
theorem Bq0(a:Nat)(h:a<s.length)(t:List UInt8)(k:Nat)(he:Ac3 (s.drop a)=some (t,k))(out:List UInt8)(ho:out.length≤1000000000):
 Call E0.P Kw [.ptr (.arg 0) 0] (Xn s a (Aw out)) (Is (.imm (.bool true)) (Xn s (a+k:Nat) (Aw (out++t)))):=by
 refine Wt _ _ _ _ (Bh (fun h=>by omega) fun _=>⟨⟨by omega,by omega⟩,Azv rfl (Call.use (An6 s (by omega) a) ⟨⟨rfl,rfl⟩, ?_⟩)⟩)
 rw [Cx,Gs s a h]
 have hb:=Qa out
 have hdr:=De s a h
 rw [hdr,Ac3, ←hdr]at he
 refine Cg (p:=0<Qg (s.drop a)) (by rw [Bb];omega) (fun h1=> ?_) fun h1=>Let.intro (Cg (p:=Afk s[a]=true) (by rw [N8,Adj];omega) (fun h2=> ?_) fun h2=> ?_)
 ·rw [if_pos h1]at he
  injection he with he
  injection he with e1 e2
  subst e1;subst e2
  have hn:Qg (s.drop a)≤2:=by
   rw [hdr,Aoe];split
   ·omega
   ·split
    ·split
     ·split<;>omega
     ·omega
    ·omega
  rw [wrA a _ (by omega),List.append_nil]
  exact⟨rfl,rfl⟩
 ·rw [if_neg h1,if_pos h2]at he
  injection he with he
  injection he with e1 e2
  subst e1;subst e2
  have leaf:∀Q:QQ,Q (.imm (.bool true)) (Xn s (a+(G5 3 (s.drop a) 0).2:Nat) (Aw (out++[UInt8.ofNat (G5 3 (s.drop a) 0).1])))→Ag (((Aw out).length+1)*1≤140737488355328∧(Aw out).length+1≤140737488355328)
   (Q (.imm (.bool true)) (Xn s (a+(G5 3 (s.drop a) 0).2:Nat) (Aw out++[[IV.int .u8 ((UInt8.ofNat (G5 3 (s.drop a) 0).1).toNat:Nat)]]))):=fun Q hq=>⟨⟨by omega,by omega⟩,by rw [Vl];exact hq⟩
  have leaf:=leaf (Is (.imm (.bool true)) (Xn s (a+(G5 3 (s.drop a) 0).2:Nat) (Aw (out++[UInt8.ofNat (G5 3 (s.drop a) 0).1])))) ⟨rfl,rfl⟩
  repeat' first
   |exact leaf
   |refine And.intro ?_ ?_
   |refine Call.use (Bu1 s hs a (Nat.le_of_lt h)) ⟨⟨rfl,rfl⟩, ?_⟩
 ·rw [if_neg h1,if_neg h2]at he
  injection he with he
  injection he with e1 e2
  subst e1;subst e2
  have fin:∀c:UInt8,Ahg s[a]=c→∀n:Int,n=(c.toNat:Int)→Bt n s (IntKind.i64.wrap ((a:Int)+1)) (Aw out) (Bz s a (Aw out) (Is (.imm (.bool true)) (Xn s (a+1:Nat) (Aw (out++[Ahg s[a]]))))):=by
   intro c hc n hn
   subst hn
   rw [Gj a (by omega)]
   refine Agj _ _ _ _ _ ⟨⟨by omega,by omega⟩, ?_⟩
   apply Aik
   rw [Vl,hc]
   exact⟨rfl,rfl⟩
  have L:Ahg s[a]=if s[a].toNat=110 then 10 else if s[a].toNat=114 then 13 else if s[a].toNat=116 then 9 else if s[a].toNat=98 then 8 else if s[a].toNat=102 then 12 else s[a]:=rfl
  refine Bh (fun e=>fin 10 ?_ _ rfl) fun e1=>Bh (fun e=>fin 13 ?_ _ rfl) fun e2=>Bh (fun e=>fin 9 ?_ _ rfl) fun e3=>Bh (fun e=>fin 8 ?_ _ rfl) fun e4=>Bh (fun e=>fin 12 ?_ _ rfl) fun e5=>fin s[a] ?_ _ rfl
  ·rw [L,if_pos (by omega)]
  ·rw [L,if_neg (by omega),if_pos (by omega)]
  ·rw [L,if_neg (by omega),if_neg (by omega),if_pos (by omega)]
  ·rw [L,if_neg (by omega),if_neg (by omega),if_neg (by omega),if_pos (by omega)]
  ·rw [L,if_neg (by omega),if_neg (by omega),if_neg (by omega),if_neg (by omega),if_pos (by omega)]
  ·rw [L,if_neg (by omega),if_neg (by omega),if_neg (by omega),if_neg (by omega),if_neg (by omega)]
end
end Go.Proofs.Sim.Se
set_option maxRecDepth 100000
namespace Go.Proofs.Sim.Se
open Go Go.Proofs Go.Proofs.Sim Go.Proofs.Sim.Va Go.RowKit Go.Proofs.Sim.Pa
theorem Azf:∀l:List UInt8,Qg l≤l.length∧Qg l≤2
 | []=>⟨Nat.le_refl _,by decide⟩
 | [c]=>by
   rw [Aoe];simp only [List.length_cons,List.length_nil]
   split
   ·omega
   ·split<;>omega
 |c::d::r=>by
  rw [Aoe];simp only [List.length_cons]
  split
  ·omega
  ·split
   ·split<;>omega
   ·omega
theorem Bb1:∀(k:Nat) (l:List UInt8) (n:Nat),(G5 k l n).2≤l.length
 |0,l,n=>by rw [G5];exact Nat.zero_le _
 |k+1,[],n=>by rw [G5];exact Nat.zero_le _
 |k+1,c::r,n=>by
  rw [G5];split
  ·have:=Bb1 k r (8*n+(c.toNat - 48));simp only [List.length_cons];omega
  ·exact Nat.zero_le _
theorem Bg0 {l t:List UInt8} {k:Nat} (h:Ac3 l=some (t,k)):1≤k∧k≤l.length∧t.length≤1:=by
 rcases l with _ |⟨c,r⟩
 ·cases h
 ·rw [Ac3]at h
  have he:=Azf (c::r)
  split at h
  ·injection h with h;injection h with h1 h2;subst h1;subst h2
   exact⟨by omega,he.1,by simp⟩
  ·split at h
   ·rename_i ho
    injection h with h;injection h with h1 h2;subst h1;subst h2
    refine⟨?_,Bb1 _ _ _,by simp⟩
    rw [G5,if_pos ho];simp only;omega
   ·injection h with h;injection h with h1 h2;subst h1;subst h2
    simp
theorem Byr:∀h:Fin 16,IntKind.u8.wrap (IntKind.i64.wrap (((h:Nat):Int)*(2:Int) ^ (4:Nat)))=(((UInt8.ofNat (16*(h:Nat))).toNat:Nat):Int):=by decide+kernel
theorem Byx:∀h l:Fin 16,IntKind.u8.wrap (↑(BitVec.ofInt 8 (((UInt8.ofNat (16*(h:Nat))).toNat:Nat):Int) ||| BitVec.ofInt 8 (IntKind.u8.wrap ((l:Nat):Int))).toNat:Int)=(((UInt8.ofNat (16*(h:Nat)+(l:Nat))).toNat:Nat):Int):=by decide+kernel
theorem Bs7(out:List UInt8)(x y:UInt8):(Aw (out++[x])).set out.length [IV.int .u8 (y.toNat:Int)]=Aw (out++[y]):=by
 simp [Aw]
theorem Bsf(out:List UInt8)(x:UInt8):(Aw (out++[x])).getD out.length []=[IV.int .u8 (x.toNat:Int)]:=by
 simp [Aw,List.getD_eq_getElem?_getD]
section
variable (s:List UInt8) (hs:s.length≤1000000000)
include hs
abbrev TxL(s:List UInt8)(d:Int)(a:Nat)(out:List UInt8)(K:KK):Prop:=Ig d s a 0 0 [] 0 0 (Aw out) K
theorem Bxj(at_:Int)(out0:LL)(Q:QQ)(X:Part)(hQ:∀r h,ScQ s 3 X r h→Q r h):∀(m a:Nat) (out:List UInt8) (d:Nat),s.length<a+m→a≤s.length→out.length≤a→1≤d→d≤a+1→Mf m (s.drop a) out d a=X→TxL s d a out (Gn s at_ out0 Q):=by
 have short:∀(a:Nat) (out:List UInt8),X=([],0,5)→Gn s at_ out0 Q (.exit 0) ⟨[(2, .ptr (Nm.loc 2) 0)],[(Nm.loc 2, .blk Aq [.imm (.int .i64 0), .imm (.int .i64 0), .imm (.str []), .imm (.int .i64 0), .imm (.int .i64 0)]),(Nm.arg 0, .blk Ad [.imm (.str s), .imm (.int .i64 a), .own (Nm.arg 1)]),(Nm.arg 1, .arr (Am+2) true 1 (Aw out))]⟩:=by
  intro a out hx
  apply Alj
  refine Ajd _ _ _ _ _ _ _ _ _ ?_
  apply Ali
  exact hQ _ _ (hx ▸ Ahl (by decide))
 intro m
 induction m with
 |zero=>intro a out d hm ha;omega
 |succ m ih=>
  intro a out d hm ha ho hd1 hd2 hX
  have hb:=Qa out
  by_cases h:a<s.length
  case neg=>
   rw [List.drop_eq_nil_of_le (by omega)]at hX
   exact Xe _ _ _ _ _ _ _ _ _ _ (Bh (fun h=>by omega) fun _=>short a out hX.symm)
  have hdr:=De s a h
  have he:=Azf (s.drop a)
  rw [List.length_drop]at he
  rw [hdr,Mf, ←hdr]at hX
  have push:∀(c:UInt8) (d' b:Nat),a<b→b≤s.length→1≤d'→d'≤b+1→(X=if 65535≤out.length then([],0,8)else Mf m (s.drop b) (out++[c]) d' b)→∀n:Int,n=(c.toNat:Int)→Fv d' n s b 0 0 [] 0 0 (Aw out) (Eu (Gn s at_ out0 Q)):=by
   intro c d' b hab hbs h1 h2 hx n hn
   subst hn
   refine Vn _ _ _ _ _ _ _ _ _ _ _ (Bh (fun h=>by omega) fun _=>⟨⟨by omega,by omega⟩, ?_⟩)
   rw [Vl,Qa]
   have hl:(out++[c]).length=out.length+1:=by simp
   refine Bh (fun h=> ?_) fun h=> ?_
   ·rw [hl]at h
    rw [if_pos (by omega)]at hx
    apply Wz
    apply Nz
    exact hQ _ _ (hx ▸ Ahl (by decide))
   ·rw [hl]at h
    rw [if_neg (by omega)]at hx
    apply Alk
    exact ih b (out++[c]) d' (by omega) hbs (by omega) h1 h2 hx.symm
  refine Xe _ _ _ _ _ _ _ _ _ _ (Bh (fun _=>⟨⟨by omega,by omega⟩,Call.use (An6 s (by omega) a) ⟨⟨rfl,rfl⟩, ?_⟩⟩) fun h=>by omega)
  rw [Cx,Gs s a h]
  refine Cg (p:=0<Qg (s.drop a)) (by rw [Bb];omega) (fun h1=> ?_) fun h1=> ?_
  ·rw [if_pos h1,List.drop_drop]at hX
   have e:(if((Qg (s.drop a):Nat):Int)>1 then((Qg (s.drop a):Nat):Int)else 1)=((Qg (s.drop a):Nat):Int):=by split<;>omega
   rw [e,wrA a _ (by omega)]
   exact push 10 d _ (by omega) (by omega) hd1 (by omega) hX.symm 10 rfl
  rw [if_neg h1]at hX
  rw [if_neg (show ¬((Qg (s.drop a):Nat):Int)>1 by omega),Gj a (by omega)]
  refine Bh (fun h92=> ?_) fun h92=> ?_
  ·rw [if_pos (by omega)]at hX
   by_cases h2:a+1<s.length
   ·rcases hesc:Ac3 (s.drop (a+1))with _ |⟨t,k⟩
    ·rw [De s (a+1) h2,Ac3]at hesc
     split at hesc
     ·cases hesc
     ·split at hesc<;>cases hesc
    ·rw [hesc]at hX
     have hk:=Bg0 hesc
     rw [List.length_drop]at hk
     refine Call.use (Bq0 s hs (a+1) h2 t k hesc out (by omega)) ⟨⟨rfl,rfl⟩,Azv rfl ?_⟩
     have e2:Cq (Xn s (a+1+k:Nat) (Aw (out++t))) (Nm.arg 1)=Aw (out++t):=rfl
     rw [e2,Qa]
     have hl:(out++t).length=out.length+t.length:=by simp
     simp only [List.drop_drop]at hX
     refine Bh (fun h=> ?_) fun h=> ?_
     ·rw [hl]at h
      rw [if_pos (by omega)]at hX
      apply Nz
      exact hQ _ _ (hX ▸ Ahl (by decide))
     ·rw [hl]at h
      rw [if_neg (by omega)]at hX
      exact ih (a+1+k) (out++t) d (by omega) (by omega) (by omega) hd1 (by omega) hX
   ·rw [List.drop_eq_nil_of_le (show s.length≤a+1 by omega),Ac3]at hX
    refine Call.use (Bd8 s hs (a+1) h2 _) ⟨⟨rfl,rfl⟩,Azu rfl ?_⟩
    exact short (a+1) out hX.symm
  rw [if_neg (by omega)]at hX
  refine Bh (fun h40=> ?_) fun h40=> ?_
  ·rw [if_neg (by omega),if_pos (show s[a].toNat=40 by omega)]at hX
   rw [Gj d (by omega)]
   exact push s[a] (d+1) (a+1) (by omega) (by omega) (by omega) (by omega) (by rw [←hX];simp) _ rfl
  rw [if_neg (show ¬s[a].toNat=40 by omega)]at hX
  refine Bh (fun h41=> ?_) fun h41=> ?_
  ·rw [if_pos (show s[a].toNat=41 by omega)]at hX
   rw [Av ((d:Int) - 1) (by omega) (by omega)]
   by_cases h1:d=1
   ·subst h1
    rw [if_pos ⟨by omega,by simp⟩]at hX
    refine Vn _ _ _ _ _ _ _ _ _ _ _ (Bh (fun _=>⟨Zk _, ?_⟩) fun h=>by omega)
    apply Wz
    apply Nz
    rw [Al5]
    exact hQ _ _ (hX ▸ Bi1)
   ·rw [if_neg (fun h=>h1 (by have:=h.2;omega))]at hX
    rw [show(d:Int) - 1=((d - 1:Nat):Int)by omega]at hX ⊢
    exact push s[a] (d - 1) (a+1) (by omega) (by omega) (by omega) (by omega) hX.symm _ rfl
  ·rw [if_neg (by omega),if_neg (show ¬s[a].toNat=41 by omega)]at hX
   exact push s[a] d (a+1) (by omega) (by omega) hd1 (by omega) hX.symm _ rfl
theorem Bx2(a:Nat)(ha:a<s.length):Call E0.P Tp [.ptr (.arg 0) 0] (Xn s a []) (ScQ s 3 (Mf ((s.drop (a+1)).length+1) (s.drop (a+1)) [] 1 (a+1))):=by
 refine Ao8 _ _ _ _ ?_
 rw [Gj a (by omega)]
 exact Bxj s hs a [] _ _ (fun _ _ h=>h) _ (a+1) [] 1 (by rw [List.length_drop];omega) (by omega) (by simp) (by omega) (by omega) rfl
def hxO(half:Int)(out:List UInt8):List UInt8:=if half<0 then out else out++[Yc (16*half)]
def Bw8(s:List UInt8)(K:KK)(a many:Nat)(rows:LL):Prop:=
 (∀h:a<s.length,Fa (s[a].toNat:Int) true 0 0 [] 0 0 many s a rows K)∧(¬a<s.length→Fa 0 false 0 0 [] 0 0 many s a rows K)
theorem Bfv(K:KK)(a many:Nat)(ha:a≤s.length)(hm:many≤a)(rows:LL)(hb:65535<many / 2→Cu K .ret ⟨[(2, .ptr (Nm.loc 2) 0),(3, .imm (.int .i64 8))],[(Nm.loc 2, .blk Aq [.imm (.int .i64 0), .imm (.int .i64 0), .imm (.str []), .imm (.int .i64 0), .imm (.int .i64 0)]),(Nm.arg 0, .blk Ad [.imm (.str s), .imm (.int .i64 a), .own (Nm.arg 1)]),(Nm.arg 1, .arr (Am+2) true 1 rows)]⟩)(h:¬65535<many / 2→Bw8 s K a many rows):Dy 0 0 [] 0 0 many s a rows (Cu K):=by
 refine Ak7 _ _ _ _ _ _ _ _ _ _ ⟨by decide, ?_⟩
 rw [show((many:Int)).tdiv 2=((many / 2:Nat):Int) from rfl,Buh _ (by omega)]
 refine Bh (fun h=>hb (by omega)) fun h0=> ?_
 have h:=h (by omega)
 apply Anv
 refine Ak8 _ _ _ _ _ _ _ _ _ _ (Bh (fun h'=> ?_) fun h'=>⟨⟨by omega,by omega⟩, ?_⟩)
 ·apply X4
  exact h.2 (by omega)
 ·have hlt:a<s.length:=by omega
  rw [Gs s a hlt]
  apply X4
  exact h.1 hlt
theorem Bzi(at_:Int)(out0:LL)(Q:QQ)(X:Part)(hQ:∀r h,ScQ s 3 X r h→Q r h):∀(m a many:Nat) (out:List UInt8) (half:Int),s.length≤a+m→a≤s.length→many≤a→out.length+(if half<0 then 0 else 1)≤a→ -1≤half→half≤15→many=2*out.length+(if half<0 then 0 else 1)→out.length≤65535→Rx (s.drop a) half out a=X→
 Bw8 s (Df s at_ out0 Q) a many (Aw (hxO half out)):=by
 have off:∀(a many:Nat) (rows:List UInt8),¬a<s.length→X=([],0,5)→Fa 0 false 0 0 [] 0 0 many s a (Aw rows) (Df s at_ out0 Q):=by
  intro a many rows h hX
  refine Ya _ _ _ _ _ _ _ _ _ _ _ _ (brF ?_)
  apply Ant
  refine Ak9 _ _ _ _ _ _ _ _ _ ?_
  apply Anr
  exact hQ _ _ (hX ▸ Ahl (by decide))
 have offX:∀(a:Nat) (half:Int) (out:List UInt8),¬a<s.length→Rx (s.drop a) half out a=X→X=([],0,5):=by
  intro a half out h hX
  rw [List.drop_eq_nil_of_le (by omega)]at hX
  exact hX.symm
 intro m
 induction m with
 |zero=>intro a many out half hm ha hy ho h0 h1 hp hmx hX;exact⟨fun h=>by omega,fun h=>off a many _ h (offX a half out h hX)⟩
 |succ m ih=>
  intro a many out half hm ha hy ho h0 h1 hp hmx hX
  refine⟨fun h=> ?_,fun h=>off a many _ h (offX a half out h hX)⟩
  have hd:=Ai0 s[a]
  have hb:(Aw (hxO half out)).length=out.length+(if half<0 then 0 else 1):=by
   rw [Qa];unfold hxO;split<;>simp
  rw [De s a h,Rx]at hX
  refine Ya _ _ _ _ _ _ _ _ _ _ _ _ (brT (Call.use (Aa7 _) ⟨⟨rfl,rfl⟩, ?_⟩))
  rw [Cx,Gj a (by omega)]
  have bad2:∀(e:Int) (o:List UInt8),e≠0→X=([],0,e)→Df s at_ out0 Q .ret ⟨[(2, .ptr (Nm.loc 2) 0),(3, .imm (.int .i64 e))],[(Nm.loc 2, .blk Aq [.imm (.int .i64 0), .imm (.int .i64 0), .imm (.str []), .imm (.int .i64 0), .imm (.int .i64 0)]),(Nm.arg 0, .blk Ad [.imm (.str s), .imm (.int .i64 (a+1:Nat)), .own (Nm.arg 1)]),(Nm.arg 1, .arr (Am+2) true 1 (Aw o))]⟩:=by
   intro e o he hx
   apply O6
   exact hQ _ _ (hx ▸ Ahl he)
  have bad:∀(e:Int),e≠0→X=([],0,e)→Df s at_ out0 Q .ret ⟨[(2, .ptr (Nm.loc 2) 0),(3, .imm (.int .i64 e))],[(Nm.loc 2, .blk Aq [.imm (.int .i64 0), .imm (.int .i64 0), .imm (.str []), .imm (.int .i64 0), .imm (.int .i64 0)]),(Nm.arg 0, .blk Ad [.imm (.str s), .imm (.int .i64 (a+1:Nat)), .own (Nm.arg 1)]),(Nm.arg 1, .arr (Am+2) true 1 (Aw (hxO half out)))]⟩:=by
   intro e he hx
   apply O6
   exact hQ _ _ (hx ▸ Ahl he)
  refine Bh (fun h62=> ?_) fun h62=> ?_
  ·rw [if_pos (by omega)]at hX
   rw [hb]
   refine Bh (fun h'=> ?_) fun h'=>⟨Zk _, ?_⟩
   ·by_cases hh:half<0
    ·rw [if_pos hh]at h';omega
    ·rw [if_neg hh]at h'
     rw [if_neg hh,if_pos (by omega)]at hX
     exact bad 8 (by decide) hX.symm
   ·apply O6
    rw [Al5]
    refine hQ _ _ ?_
    have:X=(hxO half out,a+1,0):=by
     rw [←hX];unfold hxO
     by_cases hh:half<0
     ·rw [if_pos hh,if_pos hh]
     ·rw [if_neg hh]at h'
      rw [if_neg hh,if_neg (by omega),if_neg hh]
    rw [this]
    exact Bi1
  rw [if_neg (by omega)]at hX
  refine Bh (fun hv=> ?_) fun hv=> ?_
  ·rw [if_neg (by omega)]at hX
   refine⟨by decide, ?_⟩
   rw [Gj many (by omega),show((many+1:Nat):Int).tmod 2=(((many+1) % 2:Nat):Int) from rfl]
   refine Cg (p:=half<0) (by rw [Bb];split at hp<;>omega) (fun hh=>⟨by decide, ?_⟩) fun hh=> ?_
   ·rw [if_pos hh]at hX hp ho hb
    have e:IntKind.u8.wrap (IntKind.i64.wrap (Cb s[a]*(2:Int) ^ (4:Nat)))=(((Yc (16*Cb s[a])).toNat:Nat):Int):=by
     have:=Byr ⟨(Cb s[a]).toNat,by omega⟩
     simp only [Int.toNat_of_nonneg hv]at this
     rw [this];unfold Yc
     rw [show(16*Cb s[a]).toNat=16*(Cb s[a]).toNat by omega]
    rw [e,Vl]
    have e2:hxO half out++[Yc (16*Cb s[a])]=hxO (Cb s[a]) out:=by
     unfold hxO;rw [if_pos hh,if_neg (by omega)]
    rw [e2]
    have go:=Bfv s hs _ (a+1) (many+1) (by omega) (by omega) _ (fun h=>by omega) fun _=>(ih (a+1) (many+1) out (Cb s[a]) (by omega) (by omega) (by omega) (by rw [if_neg (by omega)];omega) (by omega) hd.2 (by rw [if_neg (by omega)];omega) hmx hX)
    have leaf:Ag (((Aw (hxO half out)).length+1)*1≤140737488355328∧(Aw (hxO half out)).length+1≤140737488355328) (Dy 0 0 [] 0 0 (many+1:Nat) s (a+1:Nat) (Aw (hxO (Cb s[a]) out)) (Cu (Df s at_ out0 Q))):=⟨⟨by omega,by omega⟩,go⟩
    exact⟨leaf,leaf,leaf⟩
   ·rw [if_neg hh]at hX hp ho hb
    have eo:hxO half out=out++[Yc (16*half)]:=by unfold hxO;rw [if_neg hh]
    rw [hb]
    rw [show IntKind.i64.wrap (((out.length+1:Nat):Int) - 1)=(out.length:Int)by rw [Av _ (by omega) (by omega)];omega,Int.toNat_natCast]
    rw [eo,Bsf]
    refine⟨⟨by omega,by omega⟩,⟨⟨by omega,rfl⟩,⟨⟨by omega,by omega⟩,⟨by omega, ?_⟩⟩⟩⟩
    have e:IntKind.u8.wrap (↑(BitVec.ofInt 8 (gI (List.take 1 (List.drop 0 [IV.int .u8 ((Yc (16*half)).toNat:Int)])) 0) ||| BitVec.ofInt 8 (IntKind.u8.wrap (Cb s[a]))).toNat:Int)=(((Yc (16*half+Cb s[a])).toNat:Nat):Int):=by
     have:=Byx ⟨half.toNat,by omega⟩ ⟨(Cb s[a]).toNat,by omega⟩
     simp only [Int.toNat_of_nonneg hv]at this
     unfold Yc
     rw [show(16*half).toNat=16*half.toNat by omega,show(16*half+Cb s[a]).toNat=16*half.toNat+(Cb s[a]).toNat by omega]
     exact this
    rw [e,Bs7]
    have e3:out++[Yc (16*half+Cb s[a])]=hxO (-1) (out++[Yc (16*half+Cb s[a])]):=rfl
    rw [e3]
    refine Bfv s hs _ (a+1) (many+1) (by omega) (by omega) _ (fun h=> ?_) fun h=> ?_
    ·rw [if_pos (by omega)]at hX
     apply Anu
     exact bad2 8 _ (by decide) hX.symm
    ·rw [if_neg (by omega)]at hX
     exact ih (a+1) (many+1) (out++[Yc (16*half+Cb s[a])]) (-1) (by omega) (by omega) (by omega) (by rw [if_pos (by omega)];simp;omega) (by omega) (by omega) (by rw [if_pos (by omega)];simp;omega) (by simp;omega) hX
  ·rw [if_pos (by omega)]at hX
   refine Call.use (Bq1 _) ⟨⟨rfl,rfl⟩, ?_⟩
   rw [Cx]
   refine Ki Bb (fun hk=> ?_) fun hk=> ?_
   ·rw [if_neg hk]at hX
    exact bad 4 (by decide) hX.symm
   ·rw [if_pos hk]at hX
    exact Bfv s hs _ (a+1) many (by omega) (by omega) _ (fun h=>by split at hp<;>omega) fun _=>(ih (a+1) many out half (by omega) (by omega) (by omega) (by omega) h0 h1 hp hmx hX)
theorem Bzn(a:Nat)(ha:a<s.length):Call E0.P Vd [.ptr (.arg 0) 0] (Xn s a []) (ScQ s 3 (Rx (s.drop (a+1)) (-1) [] (a+1))):=by
 have h:=Bzi s hs a [] (ScQ s 3 (Rx (s.drop (a+1)) (-1) [] (a+1))) _ (fun _ _ h=>h) s.length (a+1) 0 [] (-1) (by omega) (by omega) (by omega) (by rw [if_pos (by omega)];simp) (by omega) (by omega) (by rw [if_pos (by omega)];rfl) (by simp) rfl
 refine Aqq _ _ _ _ ?_
 rw [Gj a (by omega)]
 refine Bh (fun h'=>h.2 (by omega)) fun h'=>⟨⟨by omega,by omega⟩, ?_⟩
 rw [Gs s (a+1) (by omega)]
 exact h.1 (by omega)
end
end Go.Proofs.Sim.Se
set_option maxRecDepth 100000
namespace Go.Proofs.Sim.Se
open Go Go.Proofs Go.Proofs.Sim Go.Proofs.Sim.Va Go.RowKit Go.Proofs.Sim.Pa
def TkQ(s:List UInt8)(t:Tk):AV→Heap→Prop:=fun r h=>∃(b:Nat) (l:List UInt8),h=Xn s b (Aw l)∧r=Bi8 t.k t.n t.s 0 0 t.e∧(t.e=0→b=t.b)
abbrev nxA(t:Tk):AV:=Bi8 t.k t.n t.s t.a t.b t.e
theorem Bcl(k:Int)(p:Nat)(x:Part):((partT k p x).e=0→(partT k p x).a=p)∧((partT k p x).e≠0→partT k p x=Aq4 (partT k p x).e):=by
 unfold partT;split
 ·exact⟨fun _=>rfl,fun h=>absurd rfl h⟩
 ·rename_i h;exact⟨fun h'=>absurd h' h,fun _=>rfl⟩
theorem Bw4(l:List UInt8)(p:Nat):((Ng l p).e=0→(Ng l p).a=p)∧((Ng l p).e≠0→Ng l p=Aq4 (Ng l p).e):=by
 unfold Ng;split
 ·exact⟨fun _=>rfl,fun h=>absurd rfl h⟩
 ·split
  ·exact⟨fun h=>(by cases h),fun _=>rfl⟩
  ·split
   ·exact⟨fun h=>(by cases h),fun _=>rfl⟩
   ·exact⟨fun _=>rfl,fun h=>absurd rfl h⟩
theorem Bzc(c:UInt8)(r:List UInt8)(p:Nat):((Qk c r p).e=0→(Qk c r p).a=p)∧((Qk c r p).e≠0→Qk c r p=Aq4 (Qk c r p).e):=by
 unfold Qk
 split
 ·exact⟨fun _=>rfl,fun h=>absurd rfl h⟩
 split
 ·exact⟨fun _=>rfl,fun h=>absurd rfl h⟩
 split
 ·exact Bcl _ _ _
 split
 ·exact Bcl _ _ _
 split
 ·split
  ·exact⟨fun _=>rfl,fun h=>absurd rfl h⟩
  ·exact Bcl _ _ _
 split
 ·split
  ·exact⟨fun _=>rfl,fun h=>absurd rfl h⟩
  ·exact⟨fun h=>(by cases h),fun _=>rfl⟩
 split
 ·exact⟨fun h=>(by cases h),fun _=>rfl⟩
 ·exact Bw4 _ _
theorem A6a {s:List UInt8} {k:Int} {p:Nat} {x:Part} {r:AV} {h:Heap} (hx:ScQ s k x r h):TkQ s (partT k p x) r h:=by
 obtain⟨a,l,e1,e2,e3,e4⟩:=hx
 refine⟨a,l,e1, ?_⟩
 unfold partT
 by_cases he:x.2.2=0
 ·rw [if_pos he]at*
  rw [he]at e2
  exact⟨e2,fun _=>e3 he⟩
 ·rw [if_neg he]at*
  rw [e4 he]at e2
  exact⟨e2,fun h=>absurd h he⟩
theorem Bbm(s:List UInt8)(a:Nat)(c:UInt8):(s.drop a).head?=some c↔∃h:a<s.length,s[a]=c:=by
 by_cases h:a<s.length
 ·rw [De s a h];simp [h]
 ·rw [List.drop_eq_nil_of_le (by omega)];simp [h]
theorem Aod(s:List UInt8)(a w:Nat):List.drop a (List.take (a+w) s)=(s.drop a).take w:=by
 rw [List.drop_take];simp
theorem Bbr {c:UInt8} {n:Nat} (hn:n<256):c=UInt8.ofNat n↔c.toNat=n:=⟨fun h=>by rw [h];exact UInt8.toNat_ofNat_of_lt' hn,fun h=>UInt8.toNat_inj.1 (by rw [h];exact(UInt8.toNat_ofNat_of_lt' hn).symm)⟩
theorem Az3:∀(b:Bool) (l:List UInt8) (c:UInt8) (r:List UInt8),l.drop (Gl b l)=c::r→c.toNat≠37
 |_,[],c,r,h=>by simp [Gl]at h
 |b,x::l,c,r,h=>by
  rw [Gl]at h
  by_cases hx:Kz b x=false∧kd x≠0
  ·rw [if_pos hx,List.drop_zero]at h
   injection h with h1 h2
   subst h1
   intro e
   have:Kz b x=true:=by unfold Kz;rw [if_neg (by omega),if_pos e]
   rw [this]at hx;cases hx.1
  ·rw [if_neg hx,List.drop_succ_cons]at h
   exact Az3 _ l c r h
section
variable (s:List UInt8) (hs:s.length≤1000000000)
include hs
theorem Bx3(a:Nat)(ha:a<s.length):Call E0.P Tq [.ptr (.arg 0) 0] (Xn s a []) (TkQ s (Ng (s.drop a) a)):=by
 have hw:=Ahn 2 (s.drop a)
 rw [List.length_drop]at hw
 refine Ao9 _ _ _ _ (Call.use (Aeq 2 s (by omega) a (by omega)) ⟨⟨rfl,rfl⟩, ?_⟩)
 rw [Cx,wrA a _ (by omega),Int.toNat_natCast,Int.toNat_natCast,Aod]
 refine⟨⟨by omega,by omega,by omega⟩,Let.intro ?_⟩
 have hl:((s.drop a).take (Cf 2 (s.drop a))).length=Cf 2 (s.drop a):=by rw [List.length_take,List.length_drop];omega
 rw [hl,wrA a _ (by omega)]
 refine Call.use (Bay _ (by omega)) ⟨⟨rfl,rfl⟩, ?_⟩
 rw [show rI (rT (isP (H5 ((s.drop a).take (Cf 2 (s.drop a))))) 0)=(H5 ((s.drop a).take (Cf 2 (s.drop a)))).1 from rfl,show rI (rT (isP (H5 ((s.drop a).take (Cf 2 (s.drop a))))) 1)=(H5 ((s.drop a).take (Cf 2 (s.drop a)))).2 from rfl]
 unfold Ng
 refine Bh (fun e=> ?_) fun e=>Bh (fun e2=> ?_) fun e2=>Bh (fun e3=> ?_) fun e3=> ?_
 ·rw [if_pos e];exact⟨_,[],rfl,rfl,fun _=>rfl⟩
 ·rw [if_neg e,if_pos e2,e2];exact⟨_,[],rfl,rfl,fun h=>by cases h⟩
 ·rw [if_neg e,if_neg e2,if_pos (by omega)];exact⟨_,[],rfl,rfl,fun h=>by cases h⟩
 ·rw [if_neg e,if_neg e2,if_neg (by omega)];exact⟨_,[],rfl,rfl,fun _=>rfl⟩
theorem Bdn(a:Nat)(h:a<s.length)(n:Nat)(hn:n<256)(hc:s[a].toNat=n):((bif decide (IntKind.i64.wrap ((a:Int)+1)<(s.length:Int))then decide (((s.getD (IntKind.i64.wrap ((a:Int)+1)).toNat 0).toNat:Int)=(s[a].toNat:Int))else false)=true)↔(s.drop (a+1)).head?=some (UInt8.ofNat n):=by
 rw [Gj a (by omega),N8,Bbm]
 constructor
 ·rintro⟨h1,h2⟩
  have h3:a+1<s.length:=by omega
  rw [Gs s (a+1) h3]at h2
  exact⟨h3,(Bbr hn).2 (by omega)⟩
 ·rintro⟨h3,h2⟩
  have h2:=(Bbr hn).1 h2
  rw [Gs s (a+1) h3]
  exact⟨by omega,by omega⟩
theorem Bi9(a:Nat):decide (IntKind.i64.wrap ((a:Int)+1)<(s.length:Int))=true→a<s.length→(0:Int)≤IntKind.i64.wrap ((a:Int)+1)∧IntKind.i64.wrap ((a:Int)+1)<(s.length:Int):=by
 intro h h2
 have:=of_decide_eq_true h
 rw [Gj a (by omega)]at this ⊢
 omega
theorem Bvb(a:Nat)(h:a<s.length)(h37:s[a].toNat≠37):Call E0.P Rw [.ptr (.arg 0) 0] (Xn s a []) (TkQ s (Qk s[a] (s.drop (a+1)) a)):=by
 have hs9:s.length≤1000000000:=by omega
 refine Amv _ _ _ _ ⟨⟨by omega,by omega⟩, ?_⟩
 rw [Gs s a h]
 unfold Qk
 refine Bh (fun e=> ?_) fun e1=>Bh (fun e=> ?_) fun e2=>Bh (fun e=> ?_) fun e3=>Bh (fun e=> ?_) fun e4=>Bh (fun e=> ?_) fun e5=>Bh (fun e=> ?_) fun e6=> ?_
 ·rw [if_pos (by omega),Gj a (by omega)];exact⟨_,[],rfl,rfl,fun _=>rfl⟩
 ·rw [if_neg (by omega),if_pos (by omega),Gj a (by omega)];exact⟨_,[],rfl,rfl,fun _=>rfl⟩
 ·rw [if_neg (by omega),if_neg (by omega),if_pos (by omega)]
  refine(Bxx s hs9 a h).mono fun r g hx=> ?_
  have hx':=A6a (p:=a) hx
  obtain⟨b,l,e1,e2,_⟩:=hx
  subst e1;subst e2
  exact⟨⟨rfl,rfl⟩,hx'⟩
 ·rw [if_neg (by omega),if_neg (by omega),if_neg (by omega),if_pos (by omega)]
  refine(Bx2 s hs a h).mono fun r g hx=> ?_
  have hx':=A6a (p:=a) hx
  obtain⟨b,l,e1,e2,_⟩:=hx
  subst e1;subst e2
  exact⟨⟨rfl,rfl⟩,hx'⟩
 ·rw [if_neg (by omega),if_neg (by omega),if_neg (by omega),if_neg (by omega),if_pos (by omega)]
  refine⟨fun h'=>Bi9 s hs a h' h,⟨fun _=>⟨by omega,by omega⟩,Let.intro (Cg (p:=(s.drop (a+1)).head?=some 60) (Bdn s hs a h 60 (by omega) (by omega)) (fun h2=> ?_) fun h2=> ?_)⟩⟩
  ·rw [if_pos h2,wr2 a (by omega)];exact⟨_,[],rfl,rfl,fun _=>rfl⟩
  ·rw [if_neg h2]
   refine(Bzn s hs a h).mono fun r g hx=> ?_
   have hx':=A6a (p:=a) hx
   obtain⟨b,l,e1,e2,_⟩:=hx
   subst e1;subst e2
   exact⟨⟨rfl,rfl⟩,hx'⟩
 ·rw [if_neg (by omega),if_neg (by omega),if_neg (by omega),if_neg (by omega),if_neg (by omega),if_pos (by omega)]
  refine⟨fun h'=>Bi9 s hs a h' h,⟨fun _=>⟨by omega,by omega⟩,Let.intro (Cg (p:=(s.drop (a+1)).head?=some 62) (Bdn s hs a h 62 (by omega) (by omega)) (fun h2=> ?_) fun h2=> ?_)⟩⟩
  ·rw [if_pos h2,wr2 a (by omega)];exact⟨_,[],rfl,rfl,fun _=>rfl⟩
  ·rw [if_neg h2];exact⟨_,[],rfl,rfl,fun h=>by cases h⟩
 ·rw [if_neg (by omega),if_neg (by omega),if_neg (by omega),if_neg (by omega),if_neg (by omega),if_neg (by omega)]
  have one:∀b:Bool,(b=true↔kd s[a]=1)→Hd b s a 0 0 [] 0 0 [] (Fw s a [] (TkQ s (if kd s[a]=1 then Aq4 4 else Ng (s[a]::s.drop (a+1)) a))):=by
   intro b hb
   refine Aif _ _ _ _ _ _ _ _ _ _ (Cg hb (fun hk=> ?_) fun hk=> ?_)
   ·rw [if_pos hk]
    apply Aj3
    exact⟨a,[],rfl,rfl,fun h=>by cases h⟩
   ·rw [if_neg hk, ←De s a h]
    apply Aj4
    refine Aig _ _ _ _ _ _ _ _ _ ((Bx3 s hs a h).mono fun r g hx=> ?_)
    have hx':=hx
    obtain⟨b,l,e1,e2,_⟩:=hx
    subst e1;subst e2
    refine⟨⟨rfl,rfl⟩, ?_⟩
    apply Aj2
    exact hx'
  have kk:∀p:Prop,(p↔(s[a].toNat=41∨s[a].toNat=123∨s[a].toNat=125))→(p↔kd s[a]=1):=by
   intro p hp
   rw [hp]
   unfold kd Vh
   constructor
   ·intro h;rw [if_neg (by omega),if_pos (by omega)]
   ·intro h
    split at h
    ·omega
    ·split at h<;>omega
  refine Bh (fun e=>one _ ?_) fun e7=>Bh (fun e=>one _ ?_) fun e8=>one _ ?_
  ·exact kk _ (by rw [Bb];omega)
  ·exact kk _ (by rw [Bb];omega)
  ·exact kk _ (by rw [Bb];omega)
theorem A76(a:Int):Call E0.P Qr [.imm (.str s), .imm (.int .i64 a)] [] (Is (nxA (Aj s a)) []):=by
 have hs9:s.length≤1000000000:=by omega
 have hp:=A55 s a
 refine A6w _ _ _ (Call.use (Bf8 s hs9 a) ⟨⟨rfl,rfl⟩, ?_⟩)
 rw [Cx]
 unfold Aj
 refine Bh (fun e=> ?_) fun e=> ?_
 ·rw [List.drop_eq_nil_of_le (by omega)];exact⟨rfl,rfl⟩
 ·have h:Dp s a<s.length:=by omega
  have h37:s[Dp s a].toNat≠37:=by
   refine Az3 false (s.drop (Lp s a)) _ (s.drop (Dp s a+1)) ?_
   rw [List.drop_drop]
   exact De s _ h
  rw [De s _ h]
  refine(Bvb s hs _ h h37).mono fun r g hx=> ?_
  obtain⟨b,l,e1,e2,e3⟩:=hx
  subst e1;subst e2
  refine⟨⟨rfl,rfl⟩, ?_⟩
  have wf:=Bzc s[Dp s a] (s.drop (Dp s a+1)) (Dp s a)
  refine Ki (p:=(Qk s[Dp s a] (s.drop (Dp s a+1)) (Dp s a)).e=0) Bb (fun he=> ?_) fun he=> ?_
  ·have hb:=wf.2 he
   refine⟨?_,rfl⟩
   simp only [nxA]
   rw [hb]
   rfl
  ·refine⟨?_,rfl⟩
   rw [e3 he]
   simp only [nxA]
   rw [wf.1 he,he]
   rfl
end
end Go.Proofs.Sim.Se

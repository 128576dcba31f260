import Derived.Test.YtaggabcajidnnaaGreatDoorPaA
set_option maxRecDepth 100000
namespace Go.Proofs.Sim.Se
open Go Go.Proofs Go.Proofs.Sim Go.Proofs.Sim.Va Go.RowKit Go.Proofs.Sim.Pa
abbrev Bhx(s:List UInt8)(a:Int):Heap:=[(Nm.arg 0, .blk Ac [.imm (.str s), .imm (.int .i64 a), .own (Nm.arg 1)])]
theorem Bla:∀(n:Fin 64) (d:Fin 8),IntKind.i64.wrap (↑(BitVec.ofInt 64 (IntKind.i64.wrap (((n:Nat):Int)*(2:Int) ^ (3:Nat))) ||| BitVec.ofInt 64 ((d:Nat):Int)).toNat:Int)=((8*(n:Nat)+(d:Nat):Nat):Int):=by decide+kernel
theorem Blb(n:Nat)(hn:n<64)(c:UInt8)(h1:48≤c.toNat)(h2:c.toNat≤55):IntKind.i64.wrap (↑(BitVec.ofInt 64 (IntKind.i64.wrap ((n:Int)*(2:Int) ^ (3:Nat))) ||| BitVec.ofInt 64 (IntKind.i64.wrap (IntKind.u8.wrap ((c.toNat:Int) - 48)))).toNat:Int)=((8*n+(c.toNat - 48):Nat):Int):=by
 rw [wrap_u8 _ (by omega) (by omega),Az ((c.toNat:Int) - 48) (by omega) (by omega),show(c.toNat:Int) - 48=((c.toNat - 48:Nat):Int)by omega]
 exact Bla ⟨n,hn⟩ ⟨c.toNat - 48,by omega⟩
theorem Bof:∀v:Fin 512,IntKind.u8.wrap ((v:Nat):Int)=(((UInt8.ofNat (v:Nat)).toNat:Nat):Int):=by decide+kernel
theorem Baq:∀(k:Nat) (l:List UInt8) (n i:Nat),k+i=3→n<8 ^ i→(Ld k l n).1<512
 |0,l,n,i,h,hn=>by
  have:i=3:=by omega
  subst this;exact hn
 |k+1,[],n,i,h,hn=>by
  rw [Ld]
  have:8 ^ i≤8 ^ 3:=Nat.pow_le_pow_right (by decide) (by omega)
  simp only;omega
 |k+1,c::r,n,i,h,hn=>by
  rw [Ld]
  split
  ·rename_i ho
   simp only
   refine Baq k r _ (i+1) (by omega) ?_
   simp [Apk]at ho
   rw [Nat.pow_succ];omega
  ·have:8 ^ i≤8 ^ 3:=Nat.pow_le_pow_right (by decide) (by omega)
   simp only;omega
theorem Ato(c:UInt8):Apk c=true↔48≤c.toNat∧c.toNat≤55:=by simp [Apk]
section
variable (s:List UInt8) (hs:s.length≤1000000000)
include hs
theorem Bom(K:KK):∀(k i a n:Nat),k+i=3→a≤s.length→n<8 ^ i→K (.exit 0) ⟨[(3, .imm (.int .i64 ((Ld k (s.drop a) n).1:Nat)))],Bhx s ((a+(Ld k (s.drop a) n).2:Nat):Int)⟩→Hy n i s a K:=by
 intro k
 induction k with
 |zero=>
  intro i a n hi ha hn hK
  refine Uo _ _ _ _ _ (Cc (fun h=>by omega) fun _=> ?_)
  simpa only [Ld,Nat.add_zero] using hK
 |succ k ih=>
  intro i a n hi ha hn hK
  refine Uo _ _ _ _ _ (Cc (fun _=>Cc (fun h=> ?_) fun h=>⟨⟨by omega,by omega⟩, ?_⟩) fun h=>by omega)
  ·rw [List.drop_eq_nil_of_le (by omega)]at hK
   exact Let.intro (Let.intro (brT (by simpa only [Ld,Nat.add_zero] using hK)))
  ·have hlt:a<s.length:=by omega
   rw [N9 s a hlt]
   rw [I9 s a hlt,Ld]at hK
   refine Let.intro (Let.intro (Ef (p:=¬Apk s[a]=true) (by rw [Apz,Ato];simp;omega) (fun h'=> ?_) fun h'=>⟨by decide, ?_⟩))
   ·rw [if_neg h']at hK;exact hK
   ·have h':=Classical.not_not.1 h'
    rw [if_pos h']at hK
    have h2:=(Ato _).1 h'
    have h64:n<64:=Nat.lt_of_lt_of_le hn (Nat.pow_le_pow_right (n:=8) (by decide) (show i≤2 by omega))
    rw [Blb n h64 _ h2.1 h2.2,Ni i (by omega),Ni a (by omega)]
    refine ih (i+1) (a+1) _ (by omega) (by omega) (by rw [Nat.pow_succ];omega) ?_
    rw [show a+1+(Ld k (s.drop (a+1)) (8*n+(s[a].toNat - 48))).2=a+((Ld k (s.drop (a+1)) (8*n+(s[a].toNat - 48))).2+1)by omega]
    exact hK
theorem Bjx(a:Nat)(ha:a≤s.length):Call E0.P Dy [.ptr (.arg 0) 0] (Bhx s a) (Is (.imm (.int .u8 ((UInt8.ofNat (Ld 3 (s.drop a) 0).1).toNat:Nat))) (Bhx s ((a+(Ld 3 (s.drop a) 0).2:Nat):Int))):=by
 refine Ai8 _ _ _ (Bom s hs _ 3 0 a 0 rfl ha (by decide) ?_)
 apply Agp
 refine Afj _ _ _ _ ?_
 apply Ago
 rw [Bof ⟨_,Baq 3 (s.drop a) 0 0 rfl (by decide)⟩]
 exact⟨rfl,rfl⟩
theorem A4s(a:Nat)(h:¬a<s.length)(rows:LL):Call E0.P Kn [.ptr (.arg 0) 0] (Vx s a rows) (Is (.imm (.bool false)) (Vx s a rows)):=by
 have _:=hs
 refine Ve _ _ _ _ (Cc (fun _=>Axz rfl ⟨rfl,rfl⟩) fun h=>by omega)
theorem Bf7(a:Nat)(h:a<s.length)(t:List UInt8)(k:Nat)(he:Al7 (s.drop a)=some (t,k))(out:List UInt8)(ho:out.length≤1000000000):
 Call E0.P Kn [.ptr (.arg 0) 0] (Vx s a (Ay out)) (Is (.imm (.bool true)) (Vx s (a+k:Nat) (Ay (out++t)))):=by
 refine Ve _ _ _ _ (Cc (fun h=>by omega) fun _=>⟨⟨by omega,by omega⟩,Ax0 rfl (Call.use (Ajz s (by omega) a) ⟨⟨rfl,rfl⟩, ?_⟩)⟩)
 rw [Hm,N9 s a h]
 have hb:=Yf out
 have hdr:=I9 s a h
 rw [hdr,Al7, ←hdr]at he
 refine Ef (p:=0<Tt (s.drop a)) (by rw [Bt];omega) (fun h1=> ?_) fun h1=>Let.intro (Ef (p:=Apk s[a]=true) (by rw [Tm,Ato];omega) (fun h2=> ?_) fun h2=> ?_)
 ·rw [if_pos h1]at he
  injection he with he
  injection he with e1 e2
  subst e1;subst e2
  have hn:Tt (s.drop a)≤2:=by
   rw [hdr,Aed];split
   ·omega
   ·split
    ·split
     ·split<;>omega
     ·omega
    ·omega
  rw [wrA a _ (by omega),List.append_nil]
  exact⟨rfl,rfl⟩
 ·rw [if_neg h1,if_pos h2]at he
  injection he with he
  injection he with e1 e2
  subst e1;subst e2
  have leaf:∀Q:QQ,Q (.imm (.bool true)) (Vx s (a+(Ld 3 (s.drop a) 0).2:Nat) (Ay (out++[UInt8.ofNat (Ld 3 (s.drop a) 0).1])))→Ag (((Ay out).length+1)*1≤140737488355328∧(Ay out).length+1≤140737488355328)
   (Q (.imm (.bool true)) (Vx s (a+(Ld 3 (s.drop a) 0).2:Nat) (Ay out++[[IV.int .u8 ((UInt8.ofNat (Ld 3 (s.drop a) 0).1).toNat:Nat)]]))):=fun Q hq=>⟨⟨by omega,by omega⟩,by rw [Y9];exact hq⟩
  have leaf:=leaf (Is (.imm (.bool true)) (Vx s (a+(Ld 3 (s.drop a) 0).2:Nat) (Ay (out++[UInt8.ofNat (Ld 3 (s.drop a) 0).1])))) ⟨rfl,rfl⟩
  repeat' first
   |exact leaf
   |refine And.intro ?_ ?_
   |refine Call.use (Bjx s hs a (Nat.le_of_lt h)) ⟨⟨rfl,rfl⟩, ?_⟩
 ·rw [if_neg h1,if_neg h2]at he
  injection he with he
  injection he with e1 e2
  subst e1;subst e2
  have fin:∀c:UInt8,Auo s[a]=c→∀n:Int,n=(c.toNat:Int)→Bq n s (IntKind.i64.wrap ((a:Int)+1)) (Ay out) (Bw s a (Ay out) (Is (.imm (.bool true)) (Vx s (a+1:Nat) (Ay (out++[Auo s[a]]))))):=by
   intro c hc n hn
   subst hn
   rw [Ni a (by omega)]
   refine Ad1 _ _ _ _ _ ⟨⟨by omega,by omega⟩, ?_⟩
   apply Afo
   rw [Y9,hc]
   exact⟨rfl,rfl⟩
  have L:Auo s[a]=if s[a].toNat=110 then 10 else if s[a].toNat=114 then 13 else if s[a].toNat=116 then 9 else if s[a].toNat=98 then 8 else if s[a].toNat=102 then 12 else s[a]:=rfl
  refine Cc (fun e=>fin 10 ?_ _ rfl) fun e1=>Cc (fun e=>fin 13 ?_ _ rfl) fun e2=>Cc (fun e=>fin 9 ?_ _ rfl) fun e3=>Cc (fun e=>fin 8 ?_ _ rfl) fun e4=>Cc (fun e=>fin 12 ?_ _ rfl) fun e5=>fin s[a] ?_ _ rfl
  ·rw [L,if_pos (by omega)]
  ·rw [L,if_neg (by omega),if_pos (by omega)]
  ·rw [L,if_neg (by omega),if_neg (by omega),if_pos (by omega)]
  ·rw [L,if_neg (by omega),if_neg (by omega),if_neg (by omega),if_pos (by omega)]
  ·rw [L,if_neg (by omega),if_neg (by omega),if_neg (by omega),if_neg (by omega),if_pos (by omega)]
  ·rw [L,if_neg (by omega),if_neg (by omega),if_neg (by omega),if_neg (by omega),if_neg (by omega)]
end
end Go.Proofs.Sim.Se
set_option maxRecDepth 100000
namespace Go.Proofs.Sim.Se
open Go Go.Proofs Go.Proofs.Sim Go.Proofs.Sim.Va Go.RowKit Go.Proofs.Sim.Pa
theorem A7b:∀l:List UInt8,Tt l≤l.length∧Tt l≤2
 | []=>⟨Nat.le_refl _,by decide⟩
 | [c]=>by
   rw [Aed];simp only [List.length_cons,List.length_nil]
   split
   ·omega
   ·split<;>omega
 |c::d::r=>by
  rw [Aed];simp only [List.length_cons]
  split
  ·omega
  ·split
   ·split<;>omega
   ·omega
theorem Bap:∀(k:Nat) (l:List UInt8) (n:Nat),(Ld k l n).2≤l.length
 |0,l,n=>by rw [Ld];exact Nat.zero_le _
 |k+1,[],n=>by rw [Ld];exact Nat.zero_le _
 |k+1,c::r,n=>by
  rw [Ld];split
  ·have:=Bap k r (8*n+(c.toNat - 48));simp only [List.length_cons];omega
  ·exact Nat.zero_le _
theorem Bdy {l t:List UInt8} {k:Nat} (h:Al7 l=some (t,k)):1≤k∧k≤l.length∧t.length≤1:=by
 rcases l with _ |⟨c,r⟩
 ·cases h
 ·rw [Al7]at h
  have he:=A7b (c::r)
  split at h
  ·injection h with h;injection h with h1 h2;subst h1;subst h2
   exact⟨by omega,he.1,by simp⟩
  ·split at h
   ·rename_i ho
    injection h with h;injection h with h1 h2;subst h1;subst h2
    refine⟨?_,Bap _ _ _,by simp⟩
    rw [Ld,if_pos ho];simp only;omega
   ·injection h with h;injection h with h1 h2;subst h1;subst h2
    simp
theorem Bnl:∀h:Fin 16,IntKind.u8.wrap (IntKind.i64.wrap (((h:Nat):Int)*(2:Int) ^ (4:Nat)))=(((UInt8.ofNat (16*(h:Nat))).toNat:Nat):Int):=by decide+kernel
theorem Bnr:∀h l:Fin 16,IntKind.u8.wrap (↑(BitVec.ofInt 8 (((UInt8.ofNat (16*(h:Nat))).toNat:Nat):Int) ||| BitVec.ofInt 8 (IntKind.u8.wrap ((l:Nat):Int))).toNat:Int)=(((UInt8.ofNat (16*(h:Nat)+(l:Nat))).toNat:Nat):Int):=by decide+kernel
theorem Bih(out:List UInt8)(x y:UInt8):(Ay (out++[x])).set out.length [IV.int .u8 (y.toNat:Int)]=Ay (out++[y]):=by
 simp [Ay]
theorem Bhk(out:List UInt8)(x:UInt8):(Ay (out++[x])).getD out.length []=[IV.int .u8 (x.toNat:Int)]:=by
 simp [Ay,List.getD_eq_getElem?_getD]
section
variable (s:List UInt8) (hs:s.length≤1000000000)
include hs
abbrev TxL(s:List UInt8)(d:Int)(a:Nat)(out:List UInt8)(K:KK):Prop:=Ii d s a 0 0 [] 0 0 (Ay out) K
theorem Bmc(at_:Int)(out0:LL)(Q:QQ)(X:Part)(hQ:∀r h,ScQ s 3 X r h→Q r h):∀(m a:Nat) (out:List UInt8) (d:Nat),s.length<a+m→a≤s.length→out.length≤a→1≤d→d≤a+1→Jz m (s.drop a) out d a=X→TxL s d a out (Gi s at_ out0 Q):=by
 have short:∀(a:Nat) (out:List UInt8),X=([],0,5)→Gi s at_ out0 Q (.exit 0) ⟨[(2, .ptr (Nm.loc 2) 0)],[(Nm.loc 2, .blk Ap [.imm (.int .i64 0), .imm (.int .i64 0), .imm (.str []), .imm (.int .i64 0), .imm (.int .i64 0)]),(Nm.arg 0, .blk Ac [.imm (.str s), .imm (.int .i64 a), .own (Nm.arg 1)]),(Nm.arg 1, .arr (Aj+2) true 1 (Ay out))]⟩:=by
  intro a out hx
  apply Ahz
  refine Agd _ _ _ _ _ _ _ _ _ ?_
  apply Ahy
  exact hQ _ _ (hx ▸ Aez (by decide))
 intro m
 induction m with
 |zero=>intro a out d hm ha;omega
 |succ m ih=>
  intro a out d hm ha ho hd1 hd2 hX
  have hb:=Yf out
  by_cases h:a<s.length
  case neg=>
   rw [List.drop_eq_nil_of_le (by omega)]at hX
   exact Vn _ _ _ _ _ _ _ _ _ _ (Cc (fun h=>by omega) fun _=>short a out hX.symm)
  have hdr:=I9 s a h
  have he:=A7b (s.drop a)
  rw [List.length_drop]at he
  rw [hdr,Jz, ←hdr]at hX
  have push:∀(c:UInt8) (d' b:Nat),a<b→b≤s.length→1≤d'→d'≤b+1→(X=if 65535≤out.length then([],0,8)else Jz m (s.drop b) (out++[c]) d' b)→∀n:Int,n=(c.toNat:Int)→Fq d' n s b 0 0 [] 0 0 (Ay out) (Es (Gi s at_ out0 Q)):=by
   intro c d' b hab hbs h1 h2 hx n hn
   subst hn
   refine Ui _ _ _ _ _ _ _ _ _ _ _ (Cc (fun h=>by omega) fun _=>⟨⟨by omega,by omega⟩, ?_⟩)
   rw [Y9,Yf]
   have hl:(out++[c]).length=out.length+1:=by simp
   refine Cc (fun h=> ?_) fun h=> ?_
   ·rw [hl]at h
    rw [if_pos (by omega)]at hx
    apply Vj
    apply M5
    exact hQ _ _ (hx ▸ Aez (by decide))
   ·rw [hl]at h
    rw [if_neg (by omega)]at hx
    apply Ah0
    exact ih b (out++[c]) d' (by omega) hbs (by omega) h1 h2 hx.symm
  refine Vn _ _ _ _ _ _ _ _ _ _ (Cc (fun _=>⟨⟨by omega,by omega⟩,Call.use (Ajz s (by omega) a) ⟨⟨rfl,rfl⟩, ?_⟩⟩) fun h=>by omega)
  rw [Hm,N9 s a h]
  refine Ef (p:=0<Tt (s.drop a)) (by rw [Bt];omega) (fun h1=> ?_) fun h1=> ?_
  ·rw [if_pos h1,List.drop_drop]at hX
   have e:(if((Tt (s.drop a):Nat):Int)>1 then((Tt (s.drop a):Nat):Int)else 1)=((Tt (s.drop a):Nat):Int):=by split<;>omega
   rw [e,wrA a _ (by omega)]
   exact push 10 d _ (by omega) (by omega) hd1 (by omega) hX.symm 10 rfl
  rw [if_neg h1]at hX
  rw [if_neg (show ¬((Tt (s.drop a):Nat):Int)>1 by omega),Ni a (by omega)]
  refine Cc (fun h92=> ?_) fun h92=> ?_
  ·rw [if_pos (by omega)]at hX
   by_cases h2:a+1<s.length
   ·rcases hesc:Al7 (s.drop (a+1))with _ |⟨t,k⟩
    ·rw [I9 s (a+1) h2,Al7]at hesc
     split at hesc
     ·cases hesc
     ·split at hesc<;>cases hesc
    ·rw [hesc]at hX
     have hk:=Bdy hesc
     rw [List.length_drop]at hk
     refine Call.use (Bf7 s hs (a+1) h2 t k hesc out (by omega)) ⟨⟨rfl,rfl⟩,Ax0 rfl ?_⟩
     have e2:Cn (Vx s (a+1+k:Nat) (Ay (out++t))) (Nm.arg 1)=Ay (out++t):=rfl
     rw [e2,Yf]
     have hl:(out++t).length=out.length+t.length:=by simp
     simp only [List.drop_drop]at hX
     refine Cc (fun h=> ?_) fun h=> ?_
     ·rw [hl]at h
      rw [if_pos (by omega)]at hX
      apply M5
      exact hQ _ _ (hX ▸ Aez (by decide))
     ·rw [hl]at h
      rw [if_neg (by omega)]at hX
      exact ih (a+1+k) (out++t) d (by omega) (by omega) (by omega) hd1 (by omega) hX
   ·rw [List.drop_eq_nil_of_le (show s.length≤a+1 by omega),Al7]at hX
    refine Call.use (A4s s hs (a+1) h2 _) ⟨⟨rfl,rfl⟩,Axz rfl ?_⟩
    exact short (a+1) out hX.symm
  rw [if_neg (by omega)]at hX
  refine Cc (fun h40=> ?_) fun h40=> ?_
  ·rw [if_neg (by omega),if_pos (show s[a].toNat=40 by omega)]at hX
   rw [Ni d (by omega)]
   exact push s[a] (d+1) (a+1) (by omega) (by omega) (by omega) (by omega) (by rw [←hX];simp) _ rfl
  rw [if_neg (show ¬s[a].toNat=40 by omega)]at hX
  refine Cc (fun h41=> ?_) fun h41=> ?_
  ·rw [if_pos (show s[a].toNat=41 by omega)]at hX
   rw [Az ((d:Int) - 1) (by omega) (by omega)]
   by_cases h1:d=1
   ·subst h1
    rw [if_pos ⟨by omega,by simp⟩]at hX
    refine Ui _ _ _ _ _ _ _ _ _ _ _ (Cc (fun _=>⟨Ain _, ?_⟩) fun h=>by omega)
    apply Vj
    apply M5
    rw [Auz]
    exact hQ _ _ (hX ▸ A80)
   ·rw [if_neg (fun h=>h1 (by have:=h.2;omega))]at hX
    rw [show(d:Int) - 1=((d - 1:Nat):Int)by omega]at hX ⊢
    exact push s[a] (d - 1) (a+1) (by omega) (by omega) (by omega) (by omega) hX.symm _ rfl
  ·rw [if_neg (by omega),if_neg (show ¬s[a].toNat=41 by omega)]at hX
   exact push s[a] d (a+1) (by omega) (by omega) hd1 (by omega) hX.symm _ rfl
theorem Bmu(a:Nat)(ha:a<s.length):Call E0.P Rz [.ptr (.arg 0) 0] (Vx s a []) (ScQ s 3 (Jz ((s.drop (a+1)).length+1) (s.drop (a+1)) [] 1 (a+1))):=by
 refine Akp _ _ _ _ ?_
 rw [Ni a (by omega)]
 exact Bmc s hs a [] _ _ (fun _ _ h=>h) _ (a+1) [] 1 (by rw [List.length_drop];omega) (by omega) (by simp) (by omega) (by omega) rfl
def hxO(half:Int)(out:List UInt8):List UInt8:=if half<0 then out else out++[Zo (16*half)]
def Bl4(s:List UInt8)(K:KK)(a many:Nat)(rows:LL):Prop:=
 (∀h:a<s.length,E8 (s[a].toNat:Int) true 0 0 [] 0 0 many s a rows K)∧(¬a<s.length→E8 0 false 0 0 [] 0 0 many s a rows K)
theorem A58(K:KK)(a many:Nat)(ha:a≤s.length)(hm:many≤a)(rows:LL)(hb:65535<many / 2→Cu K .ret ⟨[(2, .ptr (Nm.loc 2) 0),(3, .imm (.int .i64 8))],[(Nm.loc 2, .blk Ap [.imm (.int .i64 0), .imm (.int .i64 0), .imm (.str []), .imm (.int .i64 0), .imm (.int .i64 0)]),(Nm.arg 0, .blk Ac [.imm (.str s), .imm (.int .i64 a), .own (Nm.arg 1)]),(Nm.arg 1, .arr (Aj+2) true 1 rows)]⟩)(h:¬65535<many / 2→Bl4 s K a many rows):Dw 0 0 [] 0 0 many s a rows (Cu K):=by
 refine Aho _ _ _ _ _ _ _ _ _ _ ⟨by decide, ?_⟩
 rw [show((many:Int)).tdiv 2=((many / 2:Nat):Int) from rfl,Bpe _ (by omega)]
 refine Cc (fun h=>hb (by omega)) fun h0=> ?_
 have h:=h (by omega)
 apply Ajt
 refine Ahp _ _ _ _ _ _ _ _ _ _ (Cc (fun h'=> ?_) fun h'=>⟨⟨by omega,by omega⟩, ?_⟩)
 ·apply Wh
  exact h.2 (by omega)
 ·have hlt:a<s.length:=by omega
  rw [N9 s a hlt]
  apply Wh
  exact h.1 hlt
theorem Bol(at_:Int)(out0:LL)(Q:QQ)(X:Part)(hQ:∀r h,ScQ s 3 X r h→Q r h):∀(m a many:Nat) (out:List UInt8) (half:Int),s.length≤a+m→a≤s.length→many≤a→out.length+(if half<0 then 0 else 1)≤a→ -1≤half→half≤15→many=2*out.length+(if half<0 then 0 else 1)→out.length≤65535→Qr (s.drop a) half out a=X→
 Bl4 s (Da s at_ out0 Q) a many (Ay (hxO half out)):=by
 have off:∀(a many:Nat) (rows:List UInt8),¬a<s.length→X=([],0,5)→E8 0 false 0 0 [] 0 0 many s a (Ay rows) (Da s at_ out0 Q):=by
  intro a many rows h hX
  refine Wj _ _ _ _ _ _ _ _ _ _ _ _ (brF ?_)
  apply Ajr
  refine Ahq _ _ _ _ _ _ _ _ _ ?_
  apply Ajq
  exact hQ _ _ (hX ▸ Aez (by decide))
 have offX:∀(a:Nat) (half:Int) (out:List UInt8),¬a<s.length→Qr (s.drop a) half out a=X→X=([],0,5):=by
  intro a half out h hX
  rw [List.drop_eq_nil_of_le (by omega)]at hX
  exact hX.symm
 intro m
 induction m with
 |zero=>intro a many out half hm ha hy ho h0 h1 hp hmx hX;exact⟨fun h=>by omega,fun h=>off a many _ h (offX a half out h hX)⟩
 |succ m ih=>
  intro a many out half hm ha hy ho h0 h1 hp hmx hX
  refine⟨fun h=> ?_,fun h=>off a many _ h (offX a half out h hX)⟩
  have hd:=Atn s[a]
  have hb:(Ay (hxO half out)).length=out.length+(if half<0 then 0 else 1):=by
   rw [Yf];unfold hxO;split<;>simp
  rw [I9 s a h,Qr]at hX
  refine Wj _ _ _ _ _ _ _ _ _ _ _ _ (brT (Call.use (Zk _) ⟨⟨rfl,rfl⟩, ?_⟩))
  rw [Hm,Ni a (by omega)]
  have bad2:∀(e:Int) (o:List UInt8),e≠0→X=([],0,e)→Da s at_ out0 Q .ret ⟨[(2, .ptr (Nm.loc 2) 0),(3, .imm (.int .i64 e))],[(Nm.loc 2, .blk Ap [.imm (.int .i64 0), .imm (.int .i64 0), .imm (.str []), .imm (.int .i64 0), .imm (.int .i64 0)]),(Nm.arg 0, .blk Ac [.imm (.str s), .imm (.int .i64 (a+1:Nat)), .own (Nm.arg 1)]),(Nm.arg 1, .arr (Aj+2) true 1 (Ay o))]⟩:=by
   intro e o he hx
   apply Nz
   exact hQ _ _ (hx ▸ Aez he)
  have bad:∀(e:Int),e≠0→X=([],0,e)→Da s at_ out0 Q .ret ⟨[(2, .ptr (Nm.loc 2) 0),(3, .imm (.int .i64 e))],[(Nm.loc 2, .blk Ap [.imm (.int .i64 0), .imm (.int .i64 0), .imm (.str []), .imm (.int .i64 0), .imm (.int .i64 0)]),(Nm.arg 0, .blk Ac [.imm (.str s), .imm (.int .i64 (a+1:Nat)), .own (Nm.arg 1)]),(Nm.arg 1, .arr (Aj+2) true 1 (Ay (hxO half out)))]⟩:=by
   intro e he hx
   apply Nz
   exact hQ _ _ (hx ▸ Aez he)
  refine Cc (fun h62=> ?_) fun h62=> ?_
  ·rw [if_pos (by omega)]at hX
   rw [hb]
   refine Cc (fun h'=> ?_) fun h'=>⟨Ain _, ?_⟩
   ·by_cases hh:half<0
    ·rw [if_pos hh]at h';omega
    ·rw [if_neg hh]at h'
     rw [if_neg hh,if_pos (by omega)]at hX
     exact bad 8 (by decide) hX.symm
   ·apply Nz
    rw [Auz]
    refine hQ _ _ ?_
    have:X=(hxO half out,a+1,0):=by
     rw [←hX];unfold hxO
     by_cases hh:half<0
     ·rw [if_pos hh,if_pos hh]
     ·rw [if_neg hh]at h'
      rw [if_neg hh,if_neg (by omega),if_neg hh]
    rw [this]
    exact A80
  rw [if_neg (by omega)]at hX
  refine Cc (fun hv=> ?_) fun hv=> ?_
  ·rw [if_neg (by omega)]at hX
   refine⟨by decide, ?_⟩
   rw [Ni many (by omega),show((many+1:Nat):Int).tmod 2=(((many+1) % 2:Nat):Int) from rfl]
   refine Ef (p:=half<0) (by rw [Bt];split at hp<;>omega) (fun hh=>⟨by decide, ?_⟩) fun hh=> ?_
   ·rw [if_pos hh]at hX hp ho hb
    have e:IntKind.u8.wrap (IntKind.i64.wrap (Ck s[a]*(2:Int) ^ (4:Nat)))=(((Zo (16*Ck s[a])).toNat:Nat):Int):=by
     have:=Bnl ⟨(Ck s[a]).toNat,by omega⟩
     simp only [Int.toNat_of_nonneg hv]at this
     rw [this];unfold Zo
     rw [show(16*Ck s[a]).toNat=16*(Ck s[a]).toNat by omega]
    rw [e,Y9]
    have e2:hxO half out++[Zo (16*Ck s[a])]=hxO (Ck s[a]) out:=by
     unfold hxO;rw [if_pos hh,if_neg (by omega)]
    rw [e2]
    have go:=A58 s hs _ (a+1) (many+1) (by omega) (by omega) _ (fun h=>by omega) fun _=>(ih (a+1) (many+1) out (Ck s[a]) (by omega) (by omega) (by omega) (by rw [if_neg (by omega)];omega) (by omega) hd.2 (by rw [if_neg (by omega)];omega) hmx hX)
    have leaf:Ag (((Ay (hxO half out)).length+1)*1≤140737488355328∧(Ay (hxO half out)).length+1≤140737488355328) (Dw 0 0 [] 0 0 (many+1:Nat) s (a+1:Nat) (Ay (hxO (Ck s[a]) out)) (Cu (Da s at_ out0 Q))):=⟨⟨by omega,by omega⟩,go⟩
    exact⟨leaf,leaf,leaf⟩
   ·rw [if_neg hh]at hX hp ho hb
    have eo:hxO half out=out++[Zo (16*half)]:=by unfold hxO;rw [if_neg hh]
    rw [hb]
    rw [show IntKind.i64.wrap (((out.length+1:Nat):Int) - 1)=(out.length:Int)by rw [Az _ (by omega) (by omega)];omega,Int.toNat_natCast]
    rw [eo,Bhk]
    refine⟨⟨by omega,by omega⟩,⟨⟨by omega,rfl⟩,⟨⟨by omega,by omega⟩,⟨by omega, ?_⟩⟩⟩⟩
    have e:IntKind.u8.wrap (↑(BitVec.ofInt 8 (gI (List.take 1 (List.drop 0 [IV.int .u8 ((Zo (16*half)).toNat:Int)])) 0) ||| BitVec.ofInt 8 (IntKind.u8.wrap (Ck s[a]))).toNat:Int)=(((Zo (16*half+Ck s[a])).toNat:Nat):Int):=by
     have:=Bnr ⟨half.toNat,by omega⟩ ⟨(Ck s[a]).toNat,by omega⟩
     simp only [Int.toNat_of_nonneg hv]at this
     unfold Zo
     rw [show(16*half).toNat=16*half.toNat by omega,show(16*half+Ck s[a]).toNat=16*half.toNat+(Ck s[a]).toNat by omega]
     exact this
    rw [e,Bih]
    have e3:out++[Zo (16*half+Ck s[a])]=hxO (-1) (out++[Zo (16*half+Ck s[a])]):=rfl
    rw [e3]
    refine A58 s hs _ (a+1) (many+1) (by omega) (by omega) _ (fun h=> ?_) fun h=> ?_
    ·rw [if_pos (by omega)]at hX
     apply Ajs
     exact bad2 8 _ (by decide) hX.symm
    ·rw [if_neg (by omega)]at hX
     exact ih (a+1) (many+1) (out++[Zo (16*half+Ck s[a])]) (-1) (by omega) (by omega) (by omega) (by rw [if_pos (by omega)];simp;omega) (by omega) (by omega) (by rw [if_pos (by omega)];simp;omega) (by simp;omega) hX
  ·rw [if_pos (by omega)]at hX
   refine Call.use (Bf8 _) ⟨⟨rfl,rfl⟩, ?_⟩
   rw [Hm]
   refine Yg Bt (fun hk=> ?_) fun hk=> ?_
   ·rw [if_neg hk]at hX
    exact bad 4 (by decide) hX.symm
   ·rw [if_pos hk]at hX
    exact A58 s hs _ (a+1) many (by omega) (by omega) _ (fun h=>by split at hp<;>omega) fun _=>(ih (a+1) many out half (by omega) (by omega) (by omega) (by omega) h0 h1 hp hmx hX)
theorem Boq(a:Nat)(ha:a<s.length):Call E0.P Ua [.ptr (.arg 0) 0] (Vx s a []) (ScQ s 3 (Qr (s.drop (a+1)) (-1) [] (a+1))):=by
 have h:=Bol s hs a [] (ScQ s 3 (Qr (s.drop (a+1)) (-1) [] (a+1))) _ (fun _ _ h=>h) s.length (a+1) 0 [] (-1) (by omega) (by omega) (by omega) (by rw [if_pos (by omega)];simp) (by omega) (by omega) (by rw [if_pos (by omega)];rfl) (by simp) rfl
 refine Alw _ _ _ _ ?_
 rw [Ni a (by omega)]
 refine Cc (fun h'=>h.2 (by omega)) fun h'=>⟨⟨by omega,by omega⟩, ?_⟩
 rw [N9 s (a+1) (by omega)]
 exact h.1 (by omega)
end
end Go.Proofs.Sim.Se
set_option maxRecDepth 100000
namespace Go.Proofs.Sim.Se
open Go Go.Proofs Go.Proofs.Sim Go.Proofs.Sim.Va Go.RowKit Go.Proofs.Sim.Pa
def TkQ(s:List UInt8)(t:Tk):AV→Heap→Prop:=fun r h=>∃(b:Nat) (l:List UInt8),h=Vx s b (Ay l)∧r=A89 t.k t.n t.s 0 0 t.e∧(t.e=0→b=t.b)
abbrev nxA(t:Tk):AV:=A89 t.k t.n t.s t.a t.b t.e
theorem A29(k:Int)(p:Nat)(x:Part):((partT k p x).e=0→(partT k p x).a=p)∧((partT k p x).e≠0→partT k p x=Agw (partT k p x).e):=by
 unfold partT;split
 ·exact⟨fun _=>rfl,fun h=>absurd rfl h⟩
 ·rename_i h;exact⟨fun h'=>absurd h' h,fun _=>rfl⟩
theorem Bl1(l:List UInt8)(p:Nat):((Qk l p).e=0→(Qk l p).a=p)∧((Qk l p).e≠0→Qk l p=Agw (Qk l p).e):=by
 unfold Qk;split
 ·exact⟨fun _=>rfl,fun h=>absurd rfl h⟩
 ·split
  ·exact⟨fun h=>(by cases h),fun _=>rfl⟩
  ·split
   ·exact⟨fun h=>(by cases h),fun _=>rfl⟩
   ·exact⟨fun _=>rfl,fun h=>absurd rfl h⟩
theorem Boc(c:UInt8)(r:List UInt8)(p:Nat):((J2 c r p).e=0→(J2 c r p).a=p)∧((J2 c r p).e≠0→J2 c r p=Agw (J2 c r p).e):=by
 unfold J2
 split
 ·exact⟨fun _=>rfl,fun h=>absurd rfl h⟩
 split
 ·exact⟨fun _=>rfl,fun h=>absurd rfl h⟩
 split
 ·exact A29 _ _ _
 split
 ·exact A29 _ _ _
 split
 ·split
  ·exact⟨fun _=>rfl,fun h=>absurd rfl h⟩
  ·exact A29 _ _ _
 split
 ·split
  ·exact⟨fun _=>rfl,fun h=>absurd rfl h⟩
  ·exact⟨fun h=>(by cases h),fun _=>rfl⟩
 split
 ·exact⟨fun h=>(by cases h),fun _=>rfl⟩
 ·exact Bl1 _ _
theorem Ayo {s:List UInt8} {k:Int} {p:Nat} {x:Part} {r:AV} {h:Heap} (hx:ScQ s k x r h):TkQ s (partT k p x) r h:=by
 obtain⟨a,l,e1,e2,e3,e4⟩:=hx
 refine⟨a,l,e1, ?_⟩
 unfold partT
 by_cases he:x.2.2=0
 ·rw [if_pos he]at*
  rw [he]at e2
  exact⟨e2,fun _=>e3 he⟩
 ·rw [if_neg he]at*
  rw [e4 he]at e2
  exact⟨e2,fun h=>absurd h he⟩
theorem Bks(s:List UInt8)(a:Nat)(c:UInt8):(s.drop a).head?=some c↔∃h:a<s.length,s[a]=c:=by
 by_cases h:a<s.length
 ·rw [I9 s a h];simp [h]
 ·rw [List.drop_eq_nil_of_le (by omega)];simp [h]
theorem Bgw(s:List UInt8)(a w:Nat):List.drop a (List.take (a+w) s)=(s.drop a).take w:=by
 rw [List.drop_take];simp
theorem Bnu {c:UInt8} {n:Nat} (hn:n<256):c=UInt8.ofNat n↔c.toNat=n:=⟨fun h=>by rw [h];exact UInt8.toNat_ofNat_of_lt' hn,fun h=>UInt8.toNat_inj.1 (by rw [h];exact(UInt8.toNat_ofNat_of_lt' hn).symm)⟩
theorem A4e:∀(b:Bool) (l:List UInt8) (c:UInt8) (r:List UInt8),l.drop (Fj b l)=c::r→c.toNat≠37
 |_,[],c,r,h=>by simp [Fj]at h
 |b,x::l,c,r,h=>by
  rw [Fj]at h
  by_cases hx:Nb b x=false∧kd x≠0
  ·rw [if_pos hx,List.drop_zero]at h
   injection h with h1 h2
   subst h1
   intro e
   have:Nb b x=true:=by unfold Nb;rw [if_neg (by omega),if_pos e]
   rw [this]at hx;cases hx.1
  ·rw [if_neg hx,List.drop_succ_cons]at h
   exact A4e _ l c r h
section
variable (s:List UInt8) (hs:s.length≤1000000000)
include hs
theorem Bmv(a:Nat)(ha:a<s.length):Call E0.P R3 [.ptr (.arg 0) 0] (Vx s a []) (TkQ s (Qk (s.drop a) a)):=by
 have hw:=Aiv 2 (s.drop a)
 rw [List.length_drop]at hw
 refine Akq _ _ _ _ (Call.use (Ack 2 s (by omega) a (by omega)) ⟨⟨rfl,rfl⟩, ?_⟩)
 rw [Hm,wrA a _ (by omega),Int.toNat_natCast,Int.toNat_natCast,Bgw]
 refine⟨⟨by omega,by omega,by omega⟩,Let.intro ?_⟩
 have hl:((s.drop a).take (Ci 2 (s.drop a))).length=Ci 2 (s.drop a):=by rw [List.length_take,List.length_drop];omega
 rw [hl,wrA a _ (by omega)]
 refine Call.use (A1u _ (by omega)) ⟨⟨rfl,rfl⟩, ?_⟩
 rw [show rI (rT (isP (Gb ((s.drop a).take (Ci 2 (s.drop a))))) 0)=(Gb ((s.drop a).take (Ci 2 (s.drop a)))).1 from rfl,show rI (rT (isP (Gb ((s.drop a).take (Ci 2 (s.drop a))))) 1)=(Gb ((s.drop a).take (Ci 2 (s.drop a)))).2 from rfl]
 unfold Qk
 refine Cc (fun e=> ?_) fun e=>Cc (fun e2=> ?_) fun e2=>Cc (fun e3=> ?_) fun e3=> ?_
 ·rw [if_pos e];exact⟨_,[],rfl,rfl,fun _=>rfl⟩
 ·rw [if_neg e,if_pos e2,e2];exact⟨_,[],rfl,rfl,fun h=>by cases h⟩
 ·rw [if_neg e,if_neg e2,if_pos (by omega)];exact⟨_,[],rfl,rfl,fun h=>by cases h⟩
 ·rw [if_neg e,if_neg e2,if_neg (by omega)];exact⟨_,[],rfl,rfl,fun _=>rfl⟩
theorem A4m(a:Nat)(h:a<s.length)(n:Nat)(hn:n<256)(hc:s[a].toNat=n):((bif decide (IntKind.i64.wrap ((a:Int)+1)<(s.length:Int))then decide (((s.getD (IntKind.i64.wrap ((a:Int)+1)).toNat 0).toNat:Int)=(s[a].toNat:Int))else false)=true)↔(s.drop (a+1)).head?=some (UInt8.ofNat n):=by
 rw [Ni a (by omega),Tm,Bks]
 constructor
 ·rintro⟨h1,h2⟩
  have h3:a+1<s.length:=by omega
  rw [N9 s (a+1) h3]at h2
  exact⟨h3,(Bnu hn).2 (by omega)⟩
 ·rintro⟨h3,h2⟩
  have h2:=(Bnu hn).1 h2
  rw [N9 s (a+1) h3]
  exact⟨by omega,by omega⟩
theorem A9a(a:Nat):decide (IntKind.i64.wrap ((a:Int)+1)<(s.length:Int))=true→a<s.length→(0:Int)≤IntKind.i64.wrap ((a:Int)+1)∧IntKind.i64.wrap ((a:Int)+1)<(s.length:Int):=by
 intro h h2
 have:=of_decide_eq_true h
 rw [Ni a (by omega)]at this ⊢
 omega
theorem Bj2(a:Nat)(h:a<s.length)(h37:s[a].toNat≠37):Call E0.P Qq [.ptr (.arg 0) 0] (Vx s a []) (TkQ s (J2 s[a] (s.drop (a+1)) a)):=by
 have hs9:s.length≤1000000000:=by omega
 refine Ai9 _ _ _ _ ⟨⟨by omega,by omega⟩, ?_⟩
 rw [N9 s a h]
 unfold J2
 refine Cc (fun e=> ?_) fun e1=>Cc (fun e=> ?_) fun e2=>Cc (fun e=> ?_) fun e3=>Cc (fun e=> ?_) fun e4=>Cc (fun e=> ?_) fun e5=>Cc (fun e=> ?_) fun e6=> ?_
 ·rw [if_pos (by omega),Ni a (by omega)];exact⟨_,[],rfl,rfl,fun _=>rfl⟩
 ·rw [if_neg (by omega),if_pos (by omega),Ni a (by omega)];exact⟨_,[],rfl,rfl,fun _=>rfl⟩
 ·rw [if_neg (by omega),if_neg (by omega),if_pos (by omega)]
  refine(Bmq s hs9 a h).mono fun r g hx=> ?_
  have hx':=Ayo (p:=a) hx
  obtain⟨b,l,e1,e2,_⟩:=hx
  subst e1;subst e2
  exact⟨⟨rfl,rfl⟩,hx'⟩
 ·rw [if_neg (by omega),if_neg (by omega),if_neg (by omega),if_pos (by omega)]
  refine(Bmu s hs a h).mono fun r g hx=> ?_
  have hx':=Ayo (p:=a) hx
  obtain⟨b,l,e1,e2,_⟩:=hx
  subst e1;subst e2
  exact⟨⟨rfl,rfl⟩,hx'⟩
 ·rw [if_neg (by omega),if_neg (by omega),if_neg (by omega),if_neg (by omega),if_pos (by omega)]
  refine⟨fun h'=>A9a s hs a h' h,⟨fun _=>⟨by omega,by omega⟩,Let.intro (Ef (p:=(s.drop (a+1)).head?=some 60) (A4m s hs a h 60 (by omega) (by omega)) (fun h2=> ?_) fun h2=> ?_)⟩⟩
  ·rw [if_pos h2,wr2 a (by omega)];exact⟨_,[],rfl,rfl,fun _=>rfl⟩
  ·rw [if_neg h2]
   refine(Boq s hs a h).mono fun r g hx=> ?_
   have hx':=Ayo (p:=a) hx
   obtain⟨b,l,e1,e2,_⟩:=hx
   subst e1;subst e2
   exact⟨⟨rfl,rfl⟩,hx'⟩
 ·rw [if_neg (by omega),if_neg (by omega),if_neg (by omega),if_neg (by omega),if_neg (by omega),if_pos (by omega)]
  refine⟨fun h'=>A9a s hs a h' h,⟨fun _=>⟨by omega,by omega⟩,Let.intro (Ef (p:=(s.drop (a+1)).head?=some 62) (A4m s hs a h 62 (by omega) (by omega)) (fun h2=> ?_) fun h2=> ?_)⟩⟩
  ·rw [if_pos h2,wr2 a (by omega)];exact⟨_,[],rfl,rfl,fun _=>rfl⟩
  ·rw [if_neg h2];exact⟨_,[],rfl,rfl,fun h=>by cases h⟩
 ·rw [if_neg (by omega),if_neg (by omega),if_neg (by omega),if_neg (by omega),if_neg (by omega),if_neg (by omega)]
  have one:∀b:Bool,(b=true↔kd s[a]=1)→G6 b s a 0 0 [] 0 0 [] (Fs s a [] (TkQ s (if kd s[a]=1 then Agw 4 else Qk (s[a]::s.drop (a+1)) a))):=by
   intro b hb
   refine Afk _ _ _ _ _ _ _ _ _ _ (Ef hb (fun hk=> ?_) fun hk=> ?_)
   ·rw [if_pos hk]
    apply Agr
    exact⟨a,[],rfl,rfl,fun h=>by cases h⟩
   ·rw [if_neg hk, ←I9 s a h]
    apply Ags
    refine Afl _ _ _ _ _ _ _ _ _ ((Bmv s hs a h).mono fun r g hx=> ?_)
    have hx':=hx
    obtain⟨b,l,e1,e2,_⟩:=hx
    subst e1;subst e2
    refine⟨⟨rfl,rfl⟩, ?_⟩
    apply Agq
    exact hx'
  have kk:∀p:Prop,(p↔(s[a].toNat=41∨s[a].toNat=123∨s[a].toNat=125))→(p↔kd s[a]=1):=by
   intro p hp
   rw [hp]
   unfold kd Z9
   constructor
   ·intro h;rw [if_neg (by omega),if_pos (by omega)]
   ·intro h
    split at h
    ·omega
    ·split at h<;>omega
  refine Cc (fun e=>one _ ?_) fun e7=>Cc (fun e=>one _ ?_) fun e8=>one _ ?_
  ·exact kk _ (by rw [Bt];omega)
  ·exact kk _ (by rw [Bt];omega)
  ·exact kk _ (by rw [Bt];omega)
theorem Azg(a:Int):Call E0.P Pi [.imm (.str s), .imm (.int .i64 a)] [] (Is (nxA (Ak s a)) []):=by
 have hs9:s.length≤1000000000:=by omega
 have hp:=A81 s a
 refine Ay3 _ _ _ (Call.use (A6h s hs9 a) ⟨⟨rfl,rfl⟩, ?_⟩)
 rw [Hm]
 unfold Ak
 refine Cc (fun e=> ?_) fun e=> ?_
 ·rw [List.drop_eq_nil_of_le (by omega)];exact⟨rfl,rfl⟩
 ·have h:Dl s a<s.length:=by omega
  have h37:s[Dl s a].toNat≠37:=by
   refine A4e false (s.drop (Ol s a)) _ (s.drop (Dl s a+1)) ?_
   rw [List.drop_drop]
   exact I9 s _ h
  rw [I9 s _ h]
  refine(Bj2 s hs _ h h37).mono fun r g hx=> ?_
  obtain⟨b,l,e1,e2,e3⟩:=hx
  subst e1;subst e2
  refine⟨⟨rfl,rfl⟩, ?_⟩
  have wf:=Boc s[Dl s a] (s.drop (Dl s a+1)) (Dl s a)
  refine Yg (p:=(J2 s[Dl s a] (s.drop (Dl s a+1)) (Dl s a)).e=0) Bt (fun he=> ?_) fun he=> ?_
  ·have hb:=wf.2 he
   refine⟨?_,rfl⟩
   simp only [nxA]
   rw [hb]
   rfl
  ·refine⟨?_,rfl⟩
   rw [e3 he]
   simp only [nxA]
   rw [wf.1 he,he]
   rfl
end
end Go.Proofs.Sim.Se

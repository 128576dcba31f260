import Derived.Test.YtcdjheflchglaaaGreatDoorPaA
set_option maxRecDepth 100000
namespace Go.Proofs.Sim.Se
open Go Go.Proofs Go.Proofs.Sim Go.Proofs.Sim.Va Go.RowKit Go.Proofs.Sim.Pa
abbrev A6l(s:List UInt8)(a:Int):Heap:=[(Nm.arg 0, .blk Aa [.imm (.str s), .imm (.int .i64 a), .own (Nm.arg 1)])]
theorem A9h:∀(n:Fin 64) (d:Fin 8),IntKind.i64.wrap (↑(BitVec.ofInt 64 (IntKind.i64.wrap (((n:Nat):Int)*(2:Int) ^ (3:Nat))) ||| BitVec.ofInt 64 ((d:Nat):Int)).toNat:Int)=((8*(n:Nat)+(d:Nat):Nat):Int):=by decide+kernel
theorem A9i(n:Nat)(hn:n<64)(c:UInt8)(h1:48≤c.toNat)(h2:c.toNat≤55):IntKind.i64.wrap (↑(BitVec.ofInt 64 (IntKind.i64.wrap ((n:Int)*(2:Int) ^ (3:Nat))) ||| BitVec.ofInt 64 (IntKind.i64.wrap (IntKind.u8.wrap ((c.toNat:Int) - 48)))).toNat:Int)=((8*n+(c.toNat - 48):Nat):Int):=by
 rw [wrap_u8 _ (by omega) (by omega),Be ((c.toNat:Int) - 48) (by omega) (by omega),show(c.toNat:Int) - 48=((c.toNat - 48:Nat):Int)by omega]
 exact A9h ⟨n,hn⟩ ⟨c.toNat - 48,by omega⟩
theorem Bb7:∀v:Fin 512,IntKind.u8.wrap ((v:Nat):Int)=(((UInt8.ofNat (v:Nat)).toNat:Nat):Int):=by decide+kernel
theorem Az3:∀(k:Nat) (l:List UInt8) (n i:Nat),k+i=3→n<8 ^ i→(Kc k l n).1<512
 |0,l,n,i,h,hn=>by
  have:i=3:=by omega
  subst this;exact hn
 |k+1,[],n,i,h,hn=>by
  rw [Kc]
  have:8 ^ i≤8 ^ 3:=Nat.pow_le_pow_right (by decide) (by omega)
  simp only;omega
 |k+1,c::r,n,i,h,hn=>by
  rw [Kc]
  split
  ·rename_i ho
   simp only
   refine Az3 k r _ (i+1) (by omega) ?_
   simp [Ajh]at ho
   rw [Nat.pow_succ];omega
  ·have:8 ^ i≤8 ^ 3:=Nat.pow_le_pow_right (by decide) (by omega)
   simp only;omega
theorem Amo(c:UInt8):Ajh c=true↔48≤c.toNat∧c.toNat≤55:=by simp [Ajh]
section
variable (s:List UInt8) (hs:s.length≤1000000000)
include hs
theorem Bcc(K:KK):∀(k i a n:Nat),k+i=3→a≤s.length→n<8 ^ i→K (.exit 0) ⟨[(3, .imm (.int .i64 ((Kc k (s.drop a) n).1:Nat)))],A6l s ((a+(Kc k (s.drop a) n).2:Nat):Int)⟩→Hq n i s a K:=by
 intro k
 induction k with
 |zero=>
  intro i a n hi ha hn hK
  refine Ro _ _ _ _ _ (Cm (fun h=>by omega) fun _=> ?_)
  simpa only [Kc,Nat.add_zero] using hK
 |succ k ih=>
  intro i a n hi ha hn hK
  refine Ro _ _ _ _ _ (Cm (fun _=>Cm (fun h=> ?_) fun h=>⟨⟨by omega,by omega⟩, ?_⟩) fun h=>by omega)
  ·rw [List.drop_eq_nil_of_le (by omega)]at hK
   exact Let.intro (Let.intro (brT (by simpa only [Kc,Nat.add_zero] using hK)))
  ·have hlt:a<s.length:=by omega
   rw [Mt s a hlt]
   rw [Io s a hlt,Kc]at hK
   refine Let.intro (Let.intro (Gb (p:=¬Ajh s[a]=true) (by rw [Ajx,Amo];simp;omega) (fun h'=> ?_) fun h'=>⟨by decide, ?_⟩))
   ·rw [if_neg h']at hK;exact hK
   ·have h':=Classical.not_not.1 h'
    rw [if_pos h']at hK
    have h2:=(Amo _).1 h'
    have h64:n<64:=Nat.lt_of_lt_of_le hn (Nat.pow_le_pow_right (n:=8) (by decide) (show i≤2 by omega))
    rw [A9i n h64 _ h2.1 h2.2,Md i (by omega),Md a (by omega)]
    refine ih (i+1) (a+1) _ (by omega) (by omega) (by rw [Nat.pow_succ];omega) ?_
    rw [show a+1+(Kc k (s.drop (a+1)) (8*n+(s[a].toNat - 48))).2=a+((Kc k (s.drop (a+1)) (8*n+(s[a].toNat - 48))).2+1)by omega]
    exact hK
theorem A8a(a:Nat)(ha:a≤s.length):Call E0.P Ea [.ptr (.arg 0) 0] (A6l s a) (Is (.imm (.int .u8 ((UInt8.ofNat (Kc 3 (s.drop a) 0).1).toNat:Nat))) (A6l s ((a+(Kc 3 (s.drop a) 0).2:Nat):Int))):=by
 refine Ae4 _ _ _ (Bcc s hs _ 3 0 a 0 rfl ha (by decide) ?_)
 apply Acn
 refine Abr _ _ _ _ ?_
 apply Acm
 rw [Bb7 ⟨_,Az3 3 (s.drop a) 0 0 rfl (by decide)⟩]
 exact⟨rfl,rfl⟩
theorem Au8(a:Nat)(h:¬a<s.length)(rows:LL):Call E0.P Jv [.ptr (.arg 0) 0] (Ta s a rows) (Is (.imm (.bool false)) (Ta s a rows)):=by
 have _:=hs
 refine Sj _ _ _ _ (Cm (fun _=>Aqb rfl ⟨rfl,rfl⟩) fun h=>by omega)
theorem A4t(a:Nat)(h:a<s.length)(t:List UInt8)(k:Nat)(he:Acw (s.drop a)=some (t,k))(out:List UInt8)(ho:out.length≤1000000000):
 Call E0.P Jv [.ptr (.arg 0) 0] (Ta s a (A8 out)) (Is (.imm (.bool true)) (Ta s (a+k:Nat) (A8 (out++t)))):=by
 refine Sj _ _ _ _ (Cm (fun h=>by omega) fun _=>⟨⟨by omega,by omega⟩,Aqc rfl (Call.use (Afo s (by omega) a) ⟨⟨rfl,rfl⟩, ?_⟩)⟩)
 rw [G9,Mt s a h]
 have hb:=Vg out
 have hdr:=Io s a h
 rw [hdr,Acw, ←hdr]at he
 refine Gb (p:=0<O1 (s.drop a)) (by rw [Cf];omega) (fun h1=> ?_) fun h1=>Let.intro (Gb (p:=Ajh s[a]=true) (by rw [Q0,Amo];omega) (fun h2=> ?_) fun h2=> ?_)
 ·rw [if_pos h1]at he
  injection he with he
  injection he with e1 e2
  subst e1;subst e2
  have hn:O1 (s.drop a)≤2:=by
   rw [hdr,Aav];split
   ·omega
   ·split
    ·split
     ·split<;>omega
     ·omega
    ·omega
  rw [wrA a _ (by omega),List.append_nil]
  exact⟨rfl,rfl⟩
 ·rw [if_neg h1,if_pos h2]at he
  injection he with he
  injection he with e1 e2
  subst e1;subst e2
  have leaf:∀Q:QQ,Q (.imm (.bool true)) (Ta s (a+(Kc 3 (s.drop a) 0).2:Nat) (A8 (out++[UInt8.ofNat (Kc 3 (s.drop a) 0).1])))→Am (((A8 out).length+1)*1≤140737488355328∧(A8 out).length+1≤140737488355328)
   (Q (.imm (.bool true)) (Ta s (a+(Kc 3 (s.drop a) 0).2:Nat) (A8 out++[[IV.int .u8 ((UInt8.ofNat (Kc 3 (s.drop a) 0).1).toNat:Nat)]]))):=fun Q hq=>⟨⟨by omega,by omega⟩,by rw [Vz];exact hq⟩
  have leaf:=leaf (Is (.imm (.bool true)) (Ta s (a+(Kc 3 (s.drop a) 0).2:Nat) (A8 (out++[UInt8.ofNat (Kc 3 (s.drop a) 0).1])))) ⟨rfl,rfl⟩
  repeat' first
   |exact leaf
   |refine And.intro ?_ ?_
   |refine Call.use (A8a s hs a (Nat.le_of_lt h)) ⟨⟨rfl,rfl⟩, ?_⟩
 ·rw [if_neg h1,if_neg h2]at he
  injection he with he
  injection he with e1 e2
  subst e1;subst e2
  have fin:∀c:UInt8,Anr s[a]=c→∀n:Int,n=(c.toNat:Int)→Bq n s (IntKind.i64.wrap ((a:Int)+1)) (A8 out) (Bv s a (A8 out) (Is (.imm (.bool true)) (Ta s (a+1:Nat) (A8 (out++[Anr s[a]]))))):=by
   intro c hc n hn
   subst hn
   rw [Md a (by omega)]
   refine Aak _ _ _ _ _ ⟨⟨by omega,by omega⟩, ?_⟩
   apply Abv
   rw [Vz,hc]
   exact⟨rfl,rfl⟩
  have L:Anr s[a]=if s[a].toNat=110 then 10 else if s[a].toNat=114 then 13 else if s[a].toNat=116 then 9 else if s[a].toNat=98 then 8 else if s[a].toNat=102 then 12 else s[a]:=rfl
  refine Cm (fun e=>fin 10 ?_ _ rfl) fun e1=>Cm (fun e=>fin 13 ?_ _ rfl) fun e2=>Cm (fun e=>fin 9 ?_ _ rfl) fun e3=>Cm (fun e=>fin 8 ?_ _ rfl) fun e4=>Cm (fun e=>fin 12 ?_ _ rfl) fun e5=>fin s[a] ?_ _ rfl
  ·rw [L,if_pos (by omega)]
  ·rw [L,if_neg (by omega),if_pos (by omega)]
  ·rw [L,if_neg (by omega),if_neg (by omega),if_pos (by omega)]
  ·rw [L,if_neg (by omega),if_neg (by omega),if_neg (by omega),if_pos (by omega)]
  ·rw [L,if_neg (by omega),if_neg (by omega),if_neg (by omega),if_neg (by omega),if_pos (by omega)]
  ·rw [L,if_neg (by omega),if_neg (by omega),if_neg (by omega),if_neg (by omega),if_neg (by omega)]
end
end Go.Proofs.Sim.Se
set_option maxRecDepth 100000
namespace Go.Proofs.Sim.Se
open Go Go.Proofs Go.Proofs.Sim Go.Proofs.Sim.Va Go.RowKit Go.Proofs.Sim.Pa
theorem Aw2:∀l:List UInt8,O1 l≤l.length∧O1 l≤2
 | []=>⟨Nat.le_refl _,by decide⟩
 | [c]=>by
   rw [Aav];simp only [List.length_cons,List.length_nil]
   split
   ·omega
   ·split<;>omega
 |c::d::r=>by
  rw [Aav];simp only [List.length_cons]
  split
  ·omega
  ·split
   ·split<;>omega
   ·omega
theorem Az2:∀(k:Nat) (l:List UInt8) (n:Nat),(Kc k l n).2≤l.length
 |0,l,n=>by rw [Kc];exact Nat.zero_le _
 |k+1,[],n=>by rw [Kc];exact Nat.zero_le _
 |k+1,c::r,n=>by
  rw [Kc];split
  ·have:=Az2 k r (8*n+(c.toNat - 48));simp only [List.length_cons];omega
  ·exact Nat.zero_le _
theorem A2v {l t:List UInt8} {k:Nat} (h:Acw l=some (t,k)):1≤k∧k≤l.length∧t.length≤1:=by
 rcases l with _ |⟨c,r⟩
 ·cases h
 ·rw [Acw]at h
  have he:=Aw2 (c::r)
  split at h
  ·injection h with h;injection h with h1 h2;subst h1;subst h2
   exact⟨by omega,he.1,by simp⟩
  ·split at h
   ·rename_i ho
    injection h with h;injection h with h1 h2;subst h1;subst h2
    refine⟨?_,Az2 _ _ _,by simp⟩
    rw [Kc,if_pos ho];simp only;omega
   ·injection h with h;injection h with h1 h2;subst h1;subst h2
    simp
theorem Bbi:∀h:Fin 16,IntKind.u8.wrap (IntKind.i64.wrap (((h:Nat):Int)*(2:Int) ^ (4:Nat)))=(((UInt8.ofNat (16*(h:Nat))).toNat:Nat):Int):=by decide+kernel
theorem Bbm:∀h l:Fin 16,IntKind.u8.wrap (↑(BitVec.ofInt 8 (((UInt8.ofNat (16*(h:Nat))).toNat:Nat):Int) ||| BitVec.ofInt 8 (IntKind.u8.wrap ((l:Nat):Int))).toNat:Int)=(((UInt8.ofNat (16*(h:Nat)+(l:Nat))).toNat:Nat):Int):=by decide+kernel
theorem A6z(out:List UInt8)(x y:UInt8):(A8 (out++[x])).set out.length [IV.int .u8 (y.toNat:Int)]=A8 (out++[y]):=by
 simp [A8]
theorem A55(out:List UInt8)(x:UInt8):(A8 (out++[x])).getD out.length []=[IV.int .u8 (x.toNat:Int)]:=by
 simp [A8,List.getD_eq_getElem?_getD]
section
variable (s:List UInt8) (hs:s.length≤1000000000)
include hs
abbrev TxL(s:List UInt8)(d:Int)(a:Nat)(out:List UInt8)(K:KK):Prop:=H5 d s a 0 0 [] 0 0 (A8 out) K
theorem Baf(at_:Int)(out0:LL)(Q:QQ)(X:Part)(hQ:∀r h,ScQ s 3 X r h→Q r h):∀(m a:Nat) (out:List UInt8) (d:Nat),s.length<a+m→a≤s.length→out.length≤a→1≤d→d≤a+1→Gw m (s.drop a) out d a=X→TxL s d a out (Gg s at_ out0 Q):=by
 have short:∀(a:Nat) (out:List UInt8),X=([],0,5)→Gg s at_ out0 Q (.exit 0) ⟨[(2, .ptr (Nm.loc 2) 0)],[(Nm.loc 2, .blk Ap [.imm (.int .i64 0), .imm (.int .i64 0), .imm (.str []), .imm (.int .i64 0), .imm (.int .i64 0)]),(Nm.arg 0, .blk Aa [.imm (.str s), .imm (.int .i64 a), .own (Nm.arg 1)]),(Nm.arg 1, .arr (Ak+2) true 1 (A8 out))]⟩:=by
  intro a out hx
  apply Ad1
  refine Ach _ _ _ _ _ _ _ _ _ ?_
  apply Ad0
  exact hQ _ _ (hx ▸ Abd (by decide))
 intro m
 induction m with
 |zero=>intro a out d hm ha;omega
 |succ m ih=>
  intro a out d hm ha ho hd1 hd2 hX
  have hb:=Vg out
  by_cases h:a<s.length
  case neg=>
   rw [List.drop_eq_nil_of_le (by omega)]at hX
   exact Su _ _ _ _ _ _ _ _ _ _ (Cm (fun h=>by omega) fun _=>short a out hX.symm)
  have hdr:=Io s a h
  have he:=Aw2 (s.drop a)
  rw [List.length_drop]at he
  rw [hdr,Gw, ←hdr]at hX
  have push:∀(c:UInt8) (d' b:Nat),a<b→b≤s.length→1≤d'→d'≤b+1→(X=if 65535≤out.length then([],0,8)else Gw m (s.drop b) (out++[c]) d' b)→∀n:Int,n=(c.toNat:Int)→Fw d' n s b 0 0 [] 0 0 (A8 out) (Er (Gg s at_ out0 Q)):=by
   intro c d' b hab hbs h1 h2 hx n hn
   subst hn
   refine Rj _ _ _ _ _ _ _ _ _ _ _ (Cm (fun h=>by omega) fun _=>⟨⟨by omega,by omega⟩, ?_⟩)
   rw [Vz,Vg]
   have hl:(out++[c]).length=out.length+1:=by simp
   refine Cm (fun h=> ?_) fun h=> ?_
   ·rw [hl]at h
    rw [if_pos (by omega)]at hx
    apply Sn
    apply Lt
    exact hQ _ _ (hx ▸ Abd (by decide))
   ·rw [hl]at h
    rw [if_neg (by omega)]at hx
    apply Ad2
    exact ih b (out++[c]) d' (by omega) hbs (by omega) h1 h2 hx.symm
  refine Su _ _ _ _ _ _ _ _ _ _ (Cm (fun _=>⟨⟨by omega,by omega⟩,Call.use (Afo s (by omega) a) ⟨⟨rfl,rfl⟩, ?_⟩⟩) fun h=>by omega)
  rw [G9,Mt s a h]
  refine Gb (p:=0<O1 (s.drop a)) (by rw [Cf];omega) (fun h1=> ?_) fun h1=> ?_
  ·rw [if_pos h1,List.drop_drop]at hX
   have e:(if((O1 (s.drop a):Nat):Int)>1 then((O1 (s.drop a):Nat):Int)else 1)=((O1 (s.drop a):Nat):Int):=by split<;>omega
   rw [e,wrA a _ (by omega)]
   exact push 10 d _ (by omega) (by omega) hd1 (by omega) hX.symm 10 rfl
  rw [if_neg h1]at hX
  rw [if_neg (show ¬((O1 (s.drop a):Nat):Int)>1 by omega),Md a (by omega)]
  refine Cm (fun h92=> ?_) fun h92=> ?_
  ·rw [if_pos (by omega)]at hX
   by_cases h2:a+1<s.length
   ·rcases hesc:Acw (s.drop (a+1))with _ |⟨t,k⟩
    ·rw [Io s (a+1) h2,Acw]at hesc
     split at hesc
     ·cases hesc
     ·split at hesc<;>cases hesc
    ·rw [hesc]at hX
     have hk:=A2v hesc
     rw [List.length_drop]at hk
     refine Call.use (A4t s hs (a+1) h2 t k hesc out (by omega)) ⟨⟨rfl,rfl⟩,Aqc rfl ?_⟩
     have e2:C8 (Ta s (a+1+k:Nat) (A8 (out++t))) (Nm.arg 1)=A8 (out++t):=rfl
     rw [e2,Vg]
     have hl:(out++t).length=out.length+t.length:=by simp
     simp only [List.drop_drop]at hX
     refine Cm (fun h=> ?_) fun h=> ?_
     ·rw [hl]at h
      rw [if_pos (by omega)]at hX
      apply Lt
      exact hQ _ _ (hX ▸ Abd (by decide))
     ·rw [hl]at h
      rw [if_neg (by omega)]at hX
      exact ih (a+1+k) (out++t) d (by omega) (by omega) (by omega) hd1 (by omega) hX
   ·rw [List.drop_eq_nil_of_le (show s.length≤a+1 by omega),Acw]at hX
    refine Call.use (Au8 s hs (a+1) h2 _) ⟨⟨rfl,rfl⟩,Aqb rfl ?_⟩
    exact short (a+1) out hX.symm
  rw [if_neg (by omega)]at hX
  refine Cm (fun h40=> ?_) fun h40=> ?_
  ·rw [if_neg (by omega),if_pos (show s[a].toNat=40 by omega)]at hX
   rw [Md d (by omega)]
   exact push s[a] (d+1) (a+1) (by omega) (by omega) (by omega) (by omega) (by rw [←hX];simp) _ rfl
  rw [if_neg (show ¬s[a].toNat=40 by omega)]at hX
  refine Cm (fun h41=> ?_) fun h41=> ?_
  ·rw [if_pos (show s[a].toNat=41 by omega)]at hX
   rw [Be ((d:Int) - 1) (by omega) (by omega)]
   by_cases h1:d=1
   ·subst h1
    rw [if_pos ⟨by omega,by simp⟩]at hX
    refine Rj _ _ _ _ _ _ _ _ _ _ _ (Cm (fun _=>⟨Aek _, ?_⟩) fun h=>by omega)
    apply Sn
    apply Lt
    rw [An2]
    exact hQ _ _ (hX ▸ Ayk)
   ·rw [if_neg (fun h=>h1 (by have:=h.2;omega))]at hX
    rw [show(d:Int) - 1=((d - 1:Nat):Int)by omega]at hX ⊢
    exact push s[a] (d - 1) (a+1) (by omega) (by omega) (by omega) (by omega) hX.symm _ rfl
  ·rw [if_neg (by omega),if_neg (show ¬s[a].toNat=41 by omega)]at hX
   exact push s[a] d (a+1) (by omega) (by omega) hd1 (by omega) hX.symm _ rfl
theorem Bau(a:Nat)(ha:a<s.length):Call E0.P Py [.ptr (.arg 0) 0] (Ta s a []) (ScQ s 3 (Gw ((s.drop (a+1)).length+1) (s.drop (a+1)) [] 1 (a+1))):=by
 refine Agc _ _ _ _ ?_
 rw [Md a (by omega)]
 exact Baf s hs a [] _ _ (fun _ _ h=>h) _ (a+1) [] 1 (by rw [List.length_drop];omega) (by omega) (by simp) (by omega) (by omega) rfl
def hxO(half:Int)(out:List UInt8):List UInt8:=if half<0 then out else out++[Tu (16*half)]
def A99(s:List UInt8)(K:KK)(a many:Nat)(rows:LL):Prop:=
 (∀h:a<s.length,E9 (s[a].toNat:Int) true 0 0 [] 0 0 many s a rows K)∧(¬a<s.length→E9 0 false 0 0 [] 0 0 many s a rows K)
theorem Av4(K:KK)(a many:Nat)(ha:a≤s.length)(hm:many≤a)(rows:LL)(hb:65535<many / 2→Di K .ret ⟨[(2, .ptr (Nm.loc 2) 0),(3, .imm (.int .i64 8))],[(Nm.loc 2, .blk Ap [.imm (.int .i64 0), .imm (.int .i64 0), .imm (.str []), .imm (.int .i64 0), .imm (.int .i64 0)]),(Nm.arg 0, .blk Aa [.imm (.str s), .imm (.int .i64 a), .own (Nm.arg 1)]),(Nm.arg 1, .arr (Ak+2) true 1 rows)]⟩)(h:¬65535<many / 2→A99 s K a many rows):D8 0 0 [] 0 0 many s a rows (Di K):=by
 refine Adq _ _ _ _ _ _ _ _ _ _ ⟨by decide, ?_⟩
 rw [show((many:Int)).tdiv 2=((many / 2:Nat):Int) from rfl,Bc1 _ (by omega)]
 refine Cm (fun h=>hb (by omega)) fun h0=> ?_
 have h:=h (by omega)
 apply Afj
 refine Adr _ _ _ _ _ _ _ _ _ _ (Cm (fun h'=> ?_) fun h'=>⟨⟨by omega,by omega⟩, ?_⟩)
 ·apply Tp
  exact h.2 (by omega)
 ·have hlt:a<s.length:=by omega
  rw [Mt s a hlt]
  apply Tp
  exact h.1 hlt
theorem Bcb(at_:Int)(out0:LL)(Q:QQ)(X:Part)(hQ:∀r h,ScQ s 3 X r h→Q r h):∀(m a many:Nat) (out:List UInt8) (half:Int),s.length≤a+m→a≤s.length→many≤a→out.length+(if half<0 then 0 else 1)≤a→ -1≤half→half≤15→many=2*out.length+(if half<0 then 0 else 1)→out.length≤65535→Li (s.drop a) half out a=X→
 A99 s (Du s at_ out0 Q) a many (A8 (hxO half out)):=by
 have off:∀(a many:Nat) (rows:List UInt8),¬a<s.length→X=([],0,5)→E9 0 false 0 0 [] 0 0 many s a (A8 rows) (Du s at_ out0 Q):=by
  intro a many rows h hX
  refine Tq _ _ _ _ _ _ _ _ _ _ _ _ (brF ?_)
  apply Afh
  refine Ads _ _ _ _ _ _ _ _ _ ?_
  apply Afg
  exact hQ _ _ (hX ▸ Abd (by decide))
 have offX:∀(a:Nat) (half:Int) (out:List UInt8),¬a<s.length→Li (s.drop a) half out a=X→X=([],0,5):=by
  intro a half out h hX
  rw [List.drop_eq_nil_of_le (by omega)]at hX
  exact hX.symm
 intro m
 induction m with
 |zero=>intro a many out half hm ha hy ho h0 h1 hp hmx hX;exact⟨fun h=>by omega,fun h=>off a many _ h (offX a half out h hX)⟩
 |succ m ih=>
  intro a many out half hm ha hy ho h0 h1 hp hmx hX
  refine⟨fun h=> ?_,fun h=>off a many _ h (offX a half out h hX)⟩
  have hd:=Amn s[a]
  have hb:(A8 (hxO half out)).length=out.length+(if half<0 then 0 else 1):=by
   rw [Vg];unfold hxO;split<;>simp
  rw [Io s a h,Li]at hX
  refine Tq _ _ _ _ _ _ _ _ _ _ _ _ (brT (Call.use (Wh _) ⟨⟨rfl,rfl⟩, ?_⟩))
  rw [G9,Md a (by omega)]
  have bad2:∀(e:Int) (o:List UInt8),e≠0→X=([],0,e)→Du s at_ out0 Q .ret ⟨[(2, .ptr (Nm.loc 2) 0),(3, .imm (.int .i64 e))],[(Nm.loc 2, .blk Ap [.imm (.int .i64 0), .imm (.int .i64 0), .imm (.str []), .imm (.int .i64 0), .imm (.int .i64 0)]),(Nm.arg 0, .blk Aa [.imm (.str s), .imm (.int .i64 (a+1:Nat)), .own (Nm.arg 1)]),(Nm.arg 1, .arr (Ak+2) true 1 (A8 o))]⟩:=by
   intro e o he hx
   apply Mr
   exact hQ _ _ (hx ▸ Abd he)
  have bad:∀(e:Int),e≠0→X=([],0,e)→Du s at_ out0 Q .ret ⟨[(2, .ptr (Nm.loc 2) 0),(3, .imm (.int .i64 e))],[(Nm.loc 2, .blk Ap [.imm (.int .i64 0), .imm (.int .i64 0), .imm (.str []), .imm (.int .i64 0), .imm (.int .i64 0)]),(Nm.arg 0, .blk Aa [.imm (.str s), .imm (.int .i64 (a+1:Nat)), .own (Nm.arg 1)]),(Nm.arg 1, .arr (Ak+2) true 1 (A8 (hxO half out)))]⟩:=by
   intro e he hx
   apply Mr
   exact hQ _ _ (hx ▸ Abd he)
  refine Cm (fun h62=> ?_) fun h62=> ?_
  ·rw [if_pos (by omega)]at hX
   rw [hb]
   refine Cm (fun h'=> ?_) fun h'=>⟨Aek _, ?_⟩
   ·by_cases hh:half<0
    ·rw [if_pos hh]at h';omega
    ·rw [if_neg hh]at h'
     rw [if_neg hh,if_pos (by omega)]at hX
     exact bad 8 (by decide) hX.symm
   ·apply Mr
    rw [An2]
    refine hQ _ _ ?_
    have:X=(hxO half out,a+1,0):=by
     rw [←hX];unfold hxO
     by_cases hh:half<0
     ·rw [if_pos hh,if_pos hh]
     ·rw [if_neg hh]at h'
      rw [if_neg hh,if_neg (by omega),if_neg hh]
    rw [this]
    exact Ayk
  rw [if_neg (by omega)]at hX
  refine Cm (fun hv=> ?_) fun hv=> ?_
  ·rw [if_neg (by omega)]at hX
   refine⟨by decide, ?_⟩
   rw [Md many (by omega),show((many+1:Nat):Int).tmod 2=(((many+1) % 2:Nat):Int) from rfl]
   refine Gb (p:=half<0) (by rw [Cf];split at hp<;>omega) (fun hh=>⟨by decide, ?_⟩) fun hh=> ?_
   ·rw [if_pos hh]at hX hp ho hb
    have e:IntKind.u8.wrap (IntKind.i64.wrap (Cq s[a]*(2:Int) ^ (4:Nat)))=(((Tu (16*Cq s[a])).toNat:Nat):Int):=by
     have:=Bbi ⟨(Cq s[a]).toNat,by omega⟩
     simp only [Int.toNat_of_nonneg hv]at this
     rw [this];unfold Tu
     rw [show(16*Cq s[a]).toNat=16*(Cq s[a]).toNat by omega]
    rw [e,Vz]
    have e2:hxO half out++[Tu (16*Cq s[a])]=hxO (Cq s[a]) out:=by
     unfold hxO;rw [if_pos hh,if_neg (by omega)]
    rw [e2]
    have go:=Av4 s hs _ (a+1) (many+1) (by omega) (by omega) _ (fun h=>by omega) fun _=>(ih (a+1) (many+1) out (Cq s[a]) (by omega) (by omega) (by omega) (by rw [if_neg (by omega)];omega) (by omega) hd.2 (by rw [if_neg (by omega)];omega) hmx hX)
    have leaf:Am (((A8 (hxO half out)).length+1)*1≤140737488355328∧(A8 (hxO half out)).length+1≤140737488355328) (D8 0 0 [] 0 0 (many+1:Nat) s (a+1:Nat) (A8 (hxO (Cq s[a]) out)) (Di (Du s at_ out0 Q))):=⟨⟨by omega,by omega⟩,go⟩
    exact⟨leaf,leaf,leaf⟩
   ·rw [if_neg hh]at hX hp ho hb
    have eo:hxO half out=out++[Tu (16*half)]:=by unfold hxO;rw [if_neg hh]
    rw [hb]
    rw [show IntKind.i64.wrap (((out.length+1:Nat):Int) - 1)=(out.length:Int)by rw [Be _ (by omega) (by omega)];omega,Int.toNat_natCast]
    rw [eo,A55]
    refine⟨⟨by omega,by omega⟩,⟨⟨by omega,rfl⟩,⟨⟨by omega,by omega⟩,⟨by omega, ?_⟩⟩⟩⟩
    have e:IntKind.u8.wrap (↑(BitVec.ofInt 8 (gI (List.take 1 (List.drop 0 [IV.int .u8 ((Tu (16*half)).toNat:Int)])) 0) ||| BitVec.ofInt 8 (IntKind.u8.wrap (Cq s[a]))).toNat:Int)=(((Tu (16*half+Cq s[a])).toNat:Nat):Int):=by
     have:=Bbm ⟨half.toNat,by omega⟩ ⟨(Cq s[a]).toNat,by omega⟩
     simp only [Int.toNat_of_nonneg hv]at this
     unfold Tu
     rw [show(16*half).toNat=16*half.toNat by omega,show(16*half+Cq s[a]).toNat=16*half.toNat+(Cq s[a]).toNat by omega]
     exact this
    rw [e,A6z]
    have e3:out++[Tu (16*half+Cq s[a])]=hxO (-1) (out++[Tu (16*half+Cq s[a])]):=rfl
    rw [e3]
    refine Av4 s hs _ (a+1) (many+1) (by omega) (by omega) _ (fun h=> ?_) fun h=> ?_
    ·rw [if_pos (by omega)]at hX
     apply Afi
     exact bad2 8 _ (by decide) hX.symm
    ·rw [if_neg (by omega)]at hX
     exact ih (a+1) (many+1) (out++[Tu (16*half+Cq s[a])]) (-1) (by omega) (by omega) (by omega) (by rw [if_pos (by omega)];simp;omega) (by omega) (by omega) (by rw [if_pos (by omega)];simp;omega) (by simp;omega) hX
  ·rw [if_pos (by omega)]at hX
   refine Call.use (A4u _) ⟨⟨rfl,rfl⟩, ?_⟩
   rw [G9]
   refine brN Cf (fun hk=> ?_) fun hk=> ?_
   ·rw [if_neg hk]at hX
    exact bad 4 (by decide) hX.symm
   ·rw [if_pos hk]at hX
    exact Av4 s hs _ (a+1) many (by omega) (by omega) _ (fun h=>by split at hp<;>omega) fun _=>(ih (a+1) many out half (by omega) (by omega) (by omega) (by omega) h0 h1 hp hmx hX)
theorem Bcg(a:Nat)(ha:a<s.length):Call E0.P Q9 [.ptr (.arg 0) 0] (Ta s a []) (ScQ s 3 (Li (s.drop (a+1)) (-1) [] (a+1))):=by
 have h:=Bcb s hs a [] (ScQ s 3 (Li (s.drop (a+1)) (-1) [] (a+1))) _ (fun _ _ h=>h) s.length (a+1) 0 [] (-1) (by omega) (by omega) (by omega) (by rw [if_pos (by omega)];simp) (by omega) (by omega) (by rw [if_pos (by omega)];rfl) (by simp) rfl
 refine Ag7 _ _ _ _ ?_
 rw [Md a (by omega)]
 refine Cm (fun h'=>h.2 (by omega)) fun h'=>⟨⟨by omega,by omega⟩, ?_⟩
 rw [Mt s (a+1) (by omega)]
 exact h.1 (by omega)
end
end Go.Proofs.Sim.Se
set_option maxRecDepth 100000
namespace Go.Proofs.Sim.Se
open Go Go.Proofs Go.Proofs.Sim Go.Proofs.Sim.Va Go.RowKit Go.Proofs.Sim.Pa
def TkQ(s:List UInt8)(t:Tk):AV→Heap→Prop:=fun r h=>∃(b:Nat) (l:List UInt8),h=Ta s b (A8 l)∧r=Ayr t.k t.n t.s 0 0 t.e∧(t.e=0→b=t.b)
abbrev nxA(t:Tk):AV:=Ayr t.k t.n t.s t.a t.b t.e
theorem Atx(k:Int)(p:Nat)(x:Part):((partT k p x).e=0→(partT k p x).a=p)∧((partT k p x).e≠0→partT k p x=Tt (partT k p x).e):=by
 unfold partT;split
 ·exact⟨fun _=>rfl,fun h=>absurd rfl h⟩
 ·rename_i h;exact⟨fun h'=>absurd h' h,fun _=>rfl⟩
theorem A96(l:List UInt8)(p:Nat):((Nf l p).e=0→(Nf l p).a=p)∧((Nf l p).e≠0→Nf l p=Tt (Nf l p).e):=by
 unfold Nf;split
 ·exact⟨fun _=>rfl,fun h=>absurd rfl h⟩
 ·split
  ·exact⟨fun h=>(by cases h),fun _=>rfl⟩
  ·split
   ·exact⟨fun h=>(by cases h),fun _=>rfl⟩
   ·exact⟨fun _=>rfl,fun h=>absurd rfl h⟩
theorem Bb4(c:UInt8)(r:List UInt8)(p:Nat):((Ic c r p).e=0→(Ic c r p).a=p)∧((Ic c r p).e≠0→Ic c r p=Tt (Ic c r p).e):=by
 unfold Ic
 split
 ·exact⟨fun _=>rfl,fun h=>absurd rfl h⟩
 split
 ·exact⟨fun _=>rfl,fun h=>absurd rfl h⟩
 split
 ·exact Atx _ _ _
 split
 ·exact Atx _ _ _
 split
 ·split
  ·exact⟨fun _=>rfl,fun h=>absurd rfl h⟩
  ·exact Atx _ _ _
 split
 ·split
  ·exact⟨fun _=>rfl,fun h=>absurd rfl h⟩
  ·exact⟨fun h=>(by cases h),fun _=>rfl⟩
 split
 ·exact⟨fun h=>(by cases h),fun _=>rfl⟩
 ·exact A96 _ _
theorem Aqr {s:List UInt8} {k:Int} {p:Nat} {x:Part} {r:AV} {h:Heap} (hx:ScQ s k x r h):TkQ s (partT k p x) r h:=by
 obtain⟨a,l,e1,e2,e3,e4⟩:=hx
 refine⟨a,l,e1, ?_⟩
 unfold partT
 by_cases he:x.2.2=0
 ·rw [if_pos he]at*
  rw [he]at e2
  exact⟨e2,fun _=>e3 he⟩
 ·rw [if_neg he]at*
  rw [e4 he]at e2
  exact⟨e2,fun h=>absurd h he⟩
theorem A80(s:List UInt8)(a:Nat)(c:UInt8):(s.drop a).head?=some c↔∃h:a<s.length,s[a]=c:=by
 by_cases h:a<s.length
 ·rw [Io s a h];simp [h]
 ·rw [List.drop_eq_nil_of_le (by omega)];simp [h]
theorem A5h(s:List UInt8)(a w:Nat):List.drop a (List.take (a+w) s)=(s.drop a).take w:=by
 rw [List.drop_take];simp
theorem Bbp {c:UInt8} {n:Nat} (hn:n<256):c=UInt8.ofNat n↔c.toNat=n:=⟨fun h=>by rw [h];exact UInt8.toNat_ofNat_of_lt' hn,fun h=>UInt8.toNat_inj.1 (by rw [h];exact(UInt8.toNat_ofNat_of_lt' hn).symm)⟩
theorem Auy:∀(b:Bool) (l:List UInt8) (c:UInt8) (r:List UInt8),l.drop (El b l)=c::r→c.toNat≠37
 |_,[],c,r,h=>by simp [El]at h
 |b,x::l,c,r,h=>by
  rw [El]at h
  by_cases hx:L8 b x=false∧kd x≠0
  ·rw [if_pos hx,List.drop_zero]at h
   injection h with h1 h2
   subst h1
   intro e
   have:L8 b x=true:=by unfold L8;rw [if_neg (by omega),if_pos e]
   rw [this]at hx;cases hx.1
  ·rw [if_neg hx,List.drop_succ_cons]at h
   exact Auy _ l c r h
section
variable (s:List UInt8) (hs:s.length≤1000000000)
include hs
theorem Bav(a:Nat)(ha:a<s.length):Call E0.P Pz [.ptr (.arg 0) 0] (Ta s a []) (TkQ s (Nf (s.drop a) a)):=by
 have hw:=Aer 2 (s.drop a)
 rw [List.length_drop]at hw
 refine Agd _ _ _ _ (Call.use (Zb 2 s (by omega) a (by omega)) ⟨⟨rfl,rfl⟩, ?_⟩)
 rw [G9,wrA a _ (by omega),Int.toNat_natCast,Int.toNat_natCast,A5h]
 refine⟨⟨by omega,by omega,by omega⟩,Let.intro ?_⟩
 have hl:((s.drop a).take (Ct 2 (s.drop a))).length=Ct 2 (s.drop a):=by rw [List.length_take,List.length_drop];omega
 rw [hl,wrA a _ (by omega)]
 refine Call.use (As2 _ (by omega)) ⟨⟨rfl,rfl⟩, ?_⟩
 rw [show rI (rT (isP (Gc ((s.drop a).take (Ct 2 (s.drop a))))) 0)=(Gc ((s.drop a).take (Ct 2 (s.drop a)))).1 from rfl,show rI (rT (isP (Gc ((s.drop a).take (Ct 2 (s.drop a))))) 1)=(Gc ((s.drop a).take (Ct 2 (s.drop a)))).2 from rfl]
 unfold Nf
 refine Cm (fun e=> ?_) fun e=>Cm (fun e2=> ?_) fun e2=>Cm (fun e3=> ?_) fun e3=> ?_
 ·rw [if_pos e];exact⟨_,[],rfl,rfl,fun _=>rfl⟩
 ·rw [if_neg e,if_pos e2,e2];exact⟨_,[],rfl,rfl,fun h=>by cases h⟩
 ·rw [if_neg e,if_neg e2,if_pos (by omega)];exact⟨_,[],rfl,rfl,fun h=>by cases h⟩
 ·rw [if_neg e,if_neg e2,if_neg (by omega)];exact⟨_,[],rfl,rfl,fun _=>rfl⟩
theorem Au5(a:Nat)(h:a<s.length)(n:Nat)(hn:n<256)(hc:s[a].toNat=n):((bif decide (IntKind.i64.wrap ((a:Int)+1)<(s.length:Int))then decide (((s.getD (IntKind.i64.wrap ((a:Int)+1)).toNat 0).toNat:Int)=(s[a].toNat:Int))else false)=true)↔(s.drop (a+1)).head?=some (UInt8.ofNat n):=by
 rw [Md a (by omega),Q0,A80]
 constructor
 ·rintro⟨h1,h2⟩
  have h3:a+1<s.length:=by omega
  rw [Mt s (a+1) h3]at h2
  exact⟨h3,(Bbp hn).2 (by omega)⟩
 ·rintro⟨h3,h2⟩
  have h2:=(Bbp hn).1 h2
  rw [Mt s (a+1) h3]
  exact⟨by omega,by omega⟩
theorem Ays(a:Nat):decide (IntKind.i64.wrap ((a:Int)+1)<(s.length:Int))=true→a<s.length→(0:Int)≤IntKind.i64.wrap ((a:Int)+1)∧IntKind.i64.wrap ((a:Int)+1)<(s.length:Int):=by
 intro h h2
 have:=of_decide_eq_true h
 rw [Md a (by omega)]at this ⊢
 omega
theorem A8d(a:Nat)(h:a<s.length)(h37:s[a].toNat≠37):Call E0.P O4 [.ptr (.arg 0) 0] (Ta s a []) (TkQ s (Ic s[a] (s.drop (a+1)) a)):=by
 have hs9:s.length≤1000000000:=by omega
 refine Ae5 _ _ _ _ ⟨⟨by omega,by omega⟩, ?_⟩
 rw [Mt s a h]
 unfold Ic
 refine Cm (fun e=> ?_) fun e1=>Cm (fun e=> ?_) fun e2=>Cm (fun e=> ?_) fun e3=>Cm (fun e=> ?_) fun e4=>Cm (fun e=> ?_) fun e5=>Cm (fun e=> ?_) fun e6=> ?_
 ·rw [if_pos (by omega),Md a (by omega)];exact⟨_,[],rfl,rfl,fun _=>rfl⟩
 ·rw [if_neg (by omega),if_pos (by omega),Md a (by omega)];exact⟨_,[],rfl,rfl,fun _=>rfl⟩
 ·rw [if_neg (by omega),if_neg (by omega),if_pos (by omega)]
  refine(Bas s hs9 a h).mono fun r g hx=> ?_
  have hx':=Aqr (p:=a) hx
  obtain⟨b,l,e1,e2,_⟩:=hx
  subst e1;subst e2
  exact⟨⟨rfl,rfl⟩,hx'⟩
 ·rw [if_neg (by omega),if_neg (by omega),if_neg (by omega),if_pos (by omega)]
  refine(Bau s hs a h).mono fun r g hx=> ?_
  have hx':=Aqr (p:=a) hx
  obtain⟨b,l,e1,e2,_⟩:=hx
  subst e1;subst e2
  exact⟨⟨rfl,rfl⟩,hx'⟩
 ·rw [if_neg (by omega),if_neg (by omega),if_neg (by omega),if_neg (by omega),if_pos (by omega)]
  refine⟨fun h'=>Ays s hs a h' h,⟨fun _=>⟨by omega,by omega⟩,Let.intro (Gb (p:=(s.drop (a+1)).head?=some 60) (Au5 s hs a h 60 (by omega) (by omega)) (fun h2=> ?_) fun h2=> ?_)⟩⟩
  ·rw [if_pos h2,wr2 a (by omega)];exact⟨_,[],rfl,rfl,fun _=>rfl⟩
  ·rw [if_neg h2]
   refine(Bcg s hs a h).mono fun r g hx=> ?_
   have hx':=Aqr (p:=a) hx
   obtain⟨b,l,e1,e2,_⟩:=hx
   subst e1;subst e2
   exact⟨⟨rfl,rfl⟩,hx'⟩
 ·rw [if_neg (by omega),if_neg (by omega),if_neg (by omega),if_neg (by omega),if_neg (by omega),if_pos (by omega)]
  refine⟨fun h'=>Ays s hs a h' h,⟨fun _=>⟨by omega,by omega⟩,Let.intro (Gb (p:=(s.drop (a+1)).head?=some 62) (Au5 s hs a h 62 (by omega) (by omega)) (fun h2=> ?_) fun h2=> ?_)⟩⟩
  ·rw [if_pos h2,wr2 a (by omega)];exact⟨_,[],rfl,rfl,fun _=>rfl⟩
  ·rw [if_neg h2];exact⟨_,[],rfl,rfl,fun h=>by cases h⟩
 ·rw [if_neg (by omega),if_neg (by omega),if_neg (by omega),if_neg (by omega),if_neg (by omega),if_neg (by omega)]
  have one:∀b:Bool,(b=true↔kd s[a]=1)→Gy b s a 0 0 [] 0 0 [] (Fx s a [] (TkQ s (if kd s[a]=1 then Tt 4 else Nf (s[a]::s.drop (a+1)) a))):=by
   intro b hb
   refine Abs _ _ _ _ _ _ _ _ _ _ (Gb hb (fun hk=> ?_) fun hk=> ?_)
   ·rw [if_pos hk]
    apply Acp
    exact⟨a,[],rfl,rfl,fun h=>by cases h⟩
   ·rw [if_neg hk, ←Io s a h]
    apply Acr
    refine Abt _ _ _ _ _ _ _ _ _ ((Bav s hs a h).mono fun r g hx=> ?_)
    have hx':=hx
    obtain⟨b,l,e1,e2,_⟩:=hx
    subst e1;subst e2
    refine⟨⟨rfl,rfl⟩, ?_⟩
    apply Aco
    exact hx'
  have kk:∀p:Prop,(p↔(s[a].toNat=41∨s[a].toNat=123∨s[a].toNat=125))→(p↔kd s[a]=1):=by
   intro p hp
   rw [hp]
   unfold kd W9
   constructor
   ·intro h;rw [if_neg (by omega),if_pos (by omega)]
   ·intro h
    split at h
    ·omega
    ·split at h<;>omega
  refine Cm (fun e=>one _ ?_) fun e7=>Cm (fun e=>one _ ?_) fun e8=>one _ ?_
  ·exact kk _ (by rw [Cf];omega)
  ·exact kk _ (by rw [Cf];omega)
  ·exact kk _ (by rw [Cf];omega)
theorem Av8(a:Int):Call E0.P Ru [.imm (.str s), .imm (.int .i64 a)] [] (Is (nxA (Aj s a)) []):=by
 have hs9:s.length≤1000000000:=by omega
 have hp:=Ayl s a
 refine Aq0 _ _ _ (Call.use (Awd s hs9 a) ⟨⟨rfl,rfl⟩, ?_⟩)
 rw [G9]
 unfold Aj
 refine Cm (fun e=> ?_) fun e=> ?_
 ·rw [List.drop_eq_nil_of_le (by omega)];exact⟨rfl,rfl⟩
 ·have h:Dl s a<s.length:=by omega
  have h37:s[Dl s a].toNat≠37:=by
   refine Auy false (s.drop (M7 s a)) _ (s.drop (Dl s a+1)) ?_
   rw [List.drop_drop]
   exact Io s _ h
  rw [Io s _ h]
  refine(A8d s hs _ h h37).mono fun r g hx=> ?_
  obtain⟨b,l,e1,e2,e3⟩:=hx
  subst e1;subst e2
  refine⟨⟨rfl,rfl⟩, ?_⟩
  have wf:=Bb4 s[Dl s a] (s.drop (Dl s a+1)) (Dl s a)
  refine brN (p:=(Ic s[Dl s a] (s.drop (Dl s a+1)) (Dl s a)).e=0) Cf (fun he=> ?_) fun he=> ?_
  ·have hb:=wf.2 he
   refine⟨?_,rfl⟩
   simp only [nxA]
   rw [hb]
   rfl
  ·refine⟨?_,rfl⟩
   rw [e3 he]
   simp only [nxA]
   rw [wf.1 he,he]
   rfl
end
end Go.Proofs.Sim.Se
set_option maxRecDepth 100000
namespace Go.Proofs.Sim.Se
open Go Go.Proofs Go.Proofs.Sim Go.Proofs.Sim.Va Go.RowKit Go.Proofs.Sim.Pa
theorem A6h(s:List UInt8)(a:Int)(h:¬Dl s a<s.length):Aj s a=⟨0,0,0,[],Dl s a,Dl s a⟩:=by
 unfold Aj;rw [List.drop_eq_nil_of_le (by omega)]
theorem A6k(s:List UInt8)(a:Int)(h:Dl s a<s.length):Aj s a=Ic s[Dl s a] (s.drop (Dl s a+1)) (Dl s a):=by
 unfold Aj;rw [Io s _ h]
section
variable (s:List UInt8) (hs:s.length≤1000000000)
include hs
end
end Go.Proofs.Sim.Se

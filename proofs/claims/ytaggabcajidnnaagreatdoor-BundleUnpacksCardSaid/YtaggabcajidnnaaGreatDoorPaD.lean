import Derived.Test.YtaggabcajidnnaaGreatDoorPaB
set_option maxRecDepth 100000
namespace Go.Proofs.Sim.Se
open Go Go.Proofs Go.Proofs.Sim Go.Proofs.Sim.Va Go.RowKit Go.Proofs.Sim.Pa
theorem Bre {b:Bool} {p:Prop} {A B:Prop} (hb:b=true↔p)(h1:¬p→A)(h2:p→B):Br (b == false) A B:=by
 cases b with
 |true=>exact⟨fun h=>absurd h (by decide),fun _=>h2 (hb.1 rfl)⟩
 |false=>exact⟨fun _=>h1 fun hp=>(by have:=hb.2 hp;cases this),fun h=>absurd h (by decide)⟩
abbrev A0r(x:Part):AV:= .tup [.imm (.str x.1), .imm (.int .i64 x.2.1), .imm (.int .i64 x.2.2)]
theorem Bk3(s:List UInt8)(a:Nat)(h:a<s.length):List.drop a (List.take (a+1) s)=[s[a]]:=by
 rw [Aod,De s a h];rfl
theorem Bt1(c:UInt8)(h:Cb c=0):c=48:=by
 refine(Bbr (n:=48) (by omega)).2 ?_
 have hl:=Bt6 c
 unfold Cb at h
 split at h
 ·omega
 ·split at h
  ·omega
  ·split at h<;>omega
theorem Byq:Cb 48=0:=by decide
theorem Bja(s:List UInt8)(p:Nat)(h:p<s.length)(x y:UInt8):((s.drop p).take 2 == [x,y])=true↔s[p]=x∧(s.drop (p+1)).head?=some y:=by
 rw [De s p h,Bbm]
 by_cases h2:p+1<s.length
 ·rw [De s (p+1) h2]
  simp only [List.take_succ_cons,List.take_zero,beq_iff_eq,List.cons.injEq,and_true]
  exact⟨fun⟨h1,h3⟩=>⟨h1,h2,h3⟩,fun⟨h1,_,h3⟩=>⟨h1,h3⟩⟩
 ·rw [List.drop_eq_nil_of_le (by omega)];simp [h2]
theorem Bsr(x y:Int)(hx:0≤x)(hx2:x≤15)(hy:0≤y)(hy2:y≤15):IntKind.u8.wrap (IntKind.i64.wrap (IntKind.i64.wrap (16*x)+y))=(((Yc (16*x+y)).toNat:Nat):Int):=by
 rw [Av (16*x) (by omega) (by omega),Av _ (by omega) (by omega),wrap_u8 _ (by omega) (by omega)]
 unfold Yc
 rw [UInt8.toNat_ofNat_of_lt' (by show(16*x+y).toNat<256;omega)]
 omega
section
variable (s:List UInt8) (hs:s.length≤1000000000)
include hs
theorem Buo(Q:QQ)(X:Part)(hq:Q (A0r X) []):∀(m a:Nat) (out:List UInt8),s.length≤a+m→out.length≤127→nameL (s.drop a) out a=X→X6 s a (Aw out) (Jl Q):=by
 have fin:∀(a:Nat) (out:List UInt8),X=(out,a,0)→Jl Q (.exit 0) ⟨[(1, .imm (.int .i64 a)),(7, .own (Nm.loc 9))],[(Nm.loc 9, .arr 0 true 1 (Aw out))]⟩:=by
  intro a out hX
  apply A7h
  refine A20 _ _ _ ⟨Zk _, ?_⟩
  apply A7g
  rw [Al5]
  rw [hX]at hq;exact hq
 have off:∀(a:Nat) (out:List UInt8),¬a<s.length→nameL (s.drop a) out a=X→X6 s a (Aw out) (Jl Q):=by
  intro a out h hX
  rw [List.drop_eq_nil_of_le (by omega)]at hX
  refine Ap3 _ _ _ _ ⟨fun h'=>⟨by omega,of_decide_eq_true h'⟩,brE Bb (fun h'=>by omega) fun _=>⟨rfl,Let.intro (brF (fin a out hX.symm))⟩⟩
 intro m
 induction m with
 |zero=>intro a out hm ho hX;exact off a out (by omega) hX
 |succ m ih=>
  intro a out hm ho hX
  by_cases h:a<s.length
  case neg=>exact off a out h hX
  refine Ap3 _ _ _ _ ⟨fun _=>⟨by omega,by omega⟩,brE Bb (fun _=> ?_) fun h'=>by omega⟩
  rw [Gs s a h]
  refine Call.use (A8a _) ⟨⟨rfl,rfl⟩,Let.intro ?_⟩
  rw [Cx]
  rw [De s a h]at hX
  refine Bh (fun hk=> ?_) fun hk=> ?_
  ·have bad:∀e:Int,X=([],0,e)→Jl Q .ret ⟨[(4, .imm (.str [])),(5, .imm (.int .i64 0)),(6, .imm (.int .i64 e))],[]⟩:=by
    intro e hx
    apply A7i
    rw [hx]at hq;exact hq
   have push:∀(c:UInt8) (b:Nat),a<b→(X=if 127≤out.length then([],0,8)else nameL (s.drop b) (out++[c]) b)→Abk s b (c.toNat:Int) (Aw out) (Sr (Sq (Jl Q))):=by
    intro c b hb hx
    refine A2z _ _ _ _ _ ⟨⟨by rw [Qa];omega,by rw [Qa];omega⟩, ?_⟩
    rw [Vl,Qa,List.length_append]
    refine Bh (fun h'=> ?_) fun h'=> ?_
    ·rw [if_pos (by simp at h';omega)]at hx
     apply A7k
     apply Ad3
     exact bad 8 hx
    ·rw [if_neg (by simp at h';omega)]at hx
     apply A7l
     apply A7j
     exact ih b (out++[c]) (by omega) (by simp at h' ⊢; omega) hx.symm
   refine A6i _ _ _ _ ⟨⟨by omega,by omega⟩, ?_⟩
   rw [Gs s a h]
   refine Bh (fun h35=> ?_) fun h35=> ?_
   ·rw [Gj a (by omega),Gj (a+1) (by omega),wr2 (a+1) (by omega)]
    rw [nameL.eq_def]at hX
    simp only at hX
    rw [if_pos hk,if_pos (by omega)]at hX
    have wrong:X=([],0,4)→Sg s (a+1:Nat) true (Aw out) (O4 (Sq (Jl Q))):=by
     intro hx
     refine Apo _ _ _ _ _ (brT ?_)
     apply Apx
     apply Ad3
     exact bad 4 hx
    refine⟨fun h'=> ?_,Bre Bb (fun h3=> ?_) fun h3=> ?_⟩
    ·have:=of_decide_eq_false h';omega
    ·have h4:a+1<s.length:=by omega
     have h5:a+1+1<s.length:=by omega
     rw [De s (a+1) h4,De s (a+1+1) h5]at hX
     simp only at hX
     have b1:=Ai0 s[a+1]
     have b2:=Ai0 s[a+1+1]
     rw [Gs s (a+1) h4]
     refine Call.use (Ais _) ⟨⟨rfl,rfl⟩,Let.intro ⟨fun _=>⟨by omega,by omega⟩, ?_⟩⟩
     rw [Cx]
     refine Bre Bb (fun hn1=> ?_) fun hn1=>⟨rfl,Let.intro ⟨fun h'=>(by cases h'),Let.intro (Let.intro (wrong ?_))⟩⟩
     ·rw [Gs s (a+1+1) h5]
      refine Call.use (Ais _) ⟨⟨rfl,rfl⟩,Let.intro ⟨fun _=>⟨by omega,by omega,by omega⟩,Let.intro (Let.intro ?_)⟩⟩
      rw [Cx,Int.toNat_natCast,Int.toNat_natCast,Aod]
      have key:(bif decide (Cb s[a+1+1]<0)then true else(s.drop (a+1)).take 2 == [48,48])=true↔(Cb s[a+1]<0∨Cb s[a+1+1]<0∨Cb s[a+1]+Cb s[a+1+1]=0):=by
       by_cases hn2:Cb s[a+1+1]<0
       ·rw [decide_eq_true hn2];simp [hn2]
       ·rw [decide_eq_false hn2]
        simp only [cond_false]
        rw [Bja s (a+1) h4,Bbm]
        constructor
        ·rintro⟨e1,h6,e2⟩
         rw [e1,e2,Byq];omega
        ·intro h'
         have e1:=Bt1 s[a+1] (by omega)
         have e2:=Bt1 s[a+1+1] (by omega)
         exact⟨e1,h5,e2⟩
      refine Apo _ _ _ _ _ (Cg key (fun hb=> ?_) fun hb=> ?_)
      ·rw [if_pos hb]at hX
       apply Apx
       apply Ad3
       exact bad 4 hX.symm
      ·rw [if_neg hb]at hX
       apply A7n
       refine A2y _ _ _ _ ⟨⟨by omega,by omega⟩, ?_⟩
       rw [Gj (a+1) (by omega),wr2 (a+1) (by omega),Gs s (a+1) h4,Gs s (a+1+1) h5]
       refine⟨⟨by omega,by omega⟩,Call.use (Ais _) ⟨⟨rfl,rfl⟩,Call.use (Ais _) ⟨⟨rfl,rfl⟩, ?_⟩⟩⟩
       apply A7m
       rw [Cx,Cx,Bsr _ _ (by omega) (by omega) (by omega) (by omega)]
       exact push (Yc (16*Cb s[a+1]+Cb s[a+1+1])) (a+1+2) (by omega) hX.symm
     ·rw [if_pos (.inl hn1)]at hX;exact hX.symm
    ·refine⟨rfl,Let.intro ⟨fun h'=>(by cases h'),Bre (p:=True) (by simp) (fun h=>absurd trivial h) fun _=>⟨rfl,Let.intro ⟨fun h'=>(by cases h'),Let.intro (Let.intro (wrong ?_))⟩⟩⟩⟩
     rw [←hX]
     by_cases h4:a+1<s.length
     ·rw [De s (a+1) h4,List.drop_eq_nil_of_le (by omega)]
     ·rw [List.drop_eq_nil_of_le (by omega)]
   ·rw [Gj a (by omega)]
    rw [nameL.eq_def]at hX
    simp only at hX
    rw [if_pos hk,if_neg (by omega)]at hX
    exact push s[a] (a+1) (by omega) hX.symm
  ·rw [nameL.eq_def]at hX
   simp only at hX
   rw [if_neg hk]at hX
   exact fin a out hX.symm
theorem Bu7(a:Nat):Call E0.P Arb [.imm (.str s), .imm (.int .i64 (a:Int))] [] (Is (A0r (nameL (s.drop a) [] a)) []):=
 Bdw _ _ _ (Buo s hs _ _ ⟨rfl,rfl⟩ s.length a [] (by omega) (by simp) rfl)
end
def frX:List UInt8:=[110,114,116,98,102]
def toX:List UInt8:=[10,13,9,8,12]
def frN(i:Nat):Nat:=(frX.getD i 0).toNat
theorem Bzv:∀i:Fin 5,56≤frN i.val∧frN i.val<256:=by decide+kernel
theorem Bza:∀i:Fin 5,List.drop i.val (List.take (i.val+1) toX)=[toX.getD i.val 0]:=by decide+kernel
theorem Bv3:∀i:Fin 5,Ahg (UInt8.ofNat (frN i.val))=toX.getD i.val 0:=by decide+kernel
theorem Bsh(c:UInt8)(h:∀j,j<5→frN j≠c.toNat):Ahg c=c:=by
 have h0:(110:Nat)≠c.toNat:=h 0 (by omega)
 have h1:(114:Nat)≠c.toNat:=h 1 (by omega)
 have h2:(116:Nat)≠c.toNat:=h 2 (by omega)
 have h3:(98:Nat)≠c.toNat:=h 3 (by omega)
 have h4:(102:Nat)≠c.toNat:=h 4 (by omega)
 unfold Ahg
 rw [if_neg (by omega),if_neg (by omega),if_neg (by omega),if_neg (by omega),if_neg (by omega)]
theorem By9:∀v:Fin 512,UInt8.ofNat (gI [IV.int .u8 (IntKind.u8.wrap (((v:Nat):Int).tmod 256))] 0).toNat=UInt8.ofNat (v:Nat):=by decide+kernel
abbrev As8(t:List UInt8)(e:Int):AV:= .tup [.imm (.str t), .imm (.int .i64 e)]
section
variable (s:List UInt8) (hs:s.length≤1000000000)
include hs
theorem Bxf(a:Nat)(K:KK):∀(k i n:Nat),k+i=3→n<8 ^ i→K (.exit 2) ⟨[(0, .imm (.str s)),(1, .imm (.int .i64 a)),(10, .imm (.int .i64 ((G5 k (s.drop (a+i)) n).1:Nat))),(11, .imm (.int .i64 ((i+(G5 k (s.drop (a+i)) n).2:Nat))))],[]⟩→a≤s.length→Za s a n i K:=by
 intro k
 induction k with
 |zero=>
  intro i n hi hn hK ha
  have e3:i=3:=by omega
  subst e3
  refine Akx _ _ _ _ _ (Let.intro ?_)
  rw [show(bif decide (((3:Nat):Int)<3)then decide (IntKind.i64.wrap ((a:Int)+((3:Nat):Int))<(s.length:Int))else false)=false from rfl]
  refine⟨fun h=>(by cases h),Let.intro ⟨fun h=>(by cases h),Let.intro (brF ?_)⟩⟩
  simpa only [G5,Nat.add_zero] using hK
 |succ k ih=>
  intro i n hi hn hK ha
  refine Akx _ _ _ _ _ (Let.intro ?_)
  rw [wrA a i (by omega)]
  have x0:(bif decide ((i:Int)<3)then decide (((a+i:Nat):Int)<(s.length:Int))else false)=decide (a+i<s.length):=by
   rw [decide_eq_true (show(i:Int)<3 by omega),cond_true]
   by_cases h:a+i<s.length
   ·rw [decide_eq_true h,decide_eq_true (by omega)]
   ·rw [decide_eq_false h,decide_eq_false (by omega)]
  rw [x0]
  by_cases h:a+i<s.length
  ·rw [Gs s (a+i) h,decide_eq_true h]
   rw [De s (a+i) h,G5]at hK
   simp only [cond_true]
   refine⟨fun _=>⟨by omega,by omega⟩,Let.intro ⟨fun _=>⟨by omega,by omega⟩,Let.intro (Cg (p:=Afk s[a+i]=true) (by rw [N8,Adj];omega) (fun ho=> ?_) fun ho=> ?_)⟩⟩
   ·have h2:=(Adj _).1 ho
    have h64:n<64:=Nat.lt_of_lt_of_le hn (Nat.pow_le_pow_right (n:=8) (by decide) (show i≤2 by omega))
    rw [if_pos ho]at hK
    rw [Av (8*(n:Int)) (by omega) (by omega),Buh _ (by omega),Av (8*(n:Int)+(s[a+i].toNat:Int)) (by omega) (by omega),Av _ (by omega) (by omega),Gj i (by omega)]
    rw [show 8*(n:Int)+(s[a+i].toNat:Int) - 48=((8*n+(s[a+i].toNat - 48):Nat):Int)by omega]
    refine⟨⟨by omega,by omega⟩,ih (i+1) _ (by omega) (by rw [Nat.pow_succ];omega) ?_ ha⟩
    rw [show a+(i+1)=a+i+1 by omega,show i+1+(G5 k (s.drop (a+i+1)) (8*n+(s[a+i].toNat - 48))).2=i+((G5 k (s.drop (a+i+1)) (8*n+(s[a+i].toNat - 48))).2+1)by omega]
    exact hK
   ·rw [if_neg ho]at hK;exact hK
  ·rw [decide_eq_false h]
   rw [List.drop_eq_nil_of_le (by omega)]at hK
   refine⟨fun h=>(by cases h),Let.intro ⟨fun h=>(by cases h),Let.intro (brF ?_)⟩⟩
   simpa only [G5,Nat.add_zero] using hK
theorem Bxe(a:Nat)(h:a<s.length)(he:Qg (s.drop a)=0)(t:List UInt8)(k:Nat)(hesc:Ac3 (s.drop a)=some (t,k))(Q:QQ)(hq:Q (As8 t (a+k:Nat)) []):∀(m i:Nat),m+i=5→(∀j,j<i→frN j≠s[a].toNat)→Y9 s a frX toX i (Abr Q):=by
 have hdr:=De s a h
 rw [hdr,Ac3, ←hdr,if_neg (by omega)]at hesc
 intro m
 induction m with
 |zero=>
  intro i hi ha
  have h5:i=5:=by omega
  subst h5
  refine Akw _ _ _ _ _ _ (Bh (fun h=>absurd h (by decide)) fun _=> ?_)
  apply A30
  refine A0z _ _ _ (Bxf s hs a _ 3 0 0 rfl (by decide) ?_ (by omega))
  apply A31
  rw [Nat.add_zero,Nat.zero_add]
  have hlt:=Bb2 3 (s.drop a) 0 0 rfl (by decide)
  refine A00 _ _ _ _ _ (Cg (p:=Afk s[a]=true) ?_ (fun ho=> ?_) fun ho=> ?_)
  ·rw [Bb,hdr,G5]
   by_cases ho:Afk s[a]=true
   ·simp [ho]
   ·simp [ho]
  ·rw [if_pos ho]at hesc
   injection hesc with hesc;injection hesc with e1 e2
   subst e1;subst e2
   have hle:=Bb1 3 (s.drop a) 0
   rw [List.length_drop]at hle
   refine⟨by decide,⟨fun r hr=> ?_, ?_⟩⟩
   ·have:r=[IV.int .u8 (IntKind.u8.wrap (((G5 3 (s.drop a) 0).1:Int).tmod 256))]:=by simpa using hr
    rw [this];rfl
   apply Ane
   apply Anc
   rw [By9 ⟨_,hlt⟩,wrA a _ (by omega)]
   exact hq
  ·rw [if_neg ho]at hesc
   injection hesc with hesc;injection hesc with e1 e2
   subst e1;subst e2
   rw [Gj a (by omega),Int.toNat_natCast,Int.toNat_natCast,Bk3 s a h]
   refine⟨⟨by omega,by omega,by omega⟩,Let.intro ?_⟩
   apply Ane
   apply Anc
   rw [Bsh _ (fun j hj=>ha j (by omega))]at hq
   exact hq
 |succ m ih=>
  intro i hi ha
  have hf:=Bzv ⟨i,by omega⟩
  simp only at hf
  refine Akw _ _ _ _ _ _ (Bh (fun _=>⟨⟨by omega,by omega⟩,⟨⟨by omega,by show(i:Int)<((5:Nat):Int);omega⟩, ?_⟩⟩) fun h=>absurd (show(i:Int)<((5:Nat):Int)by omega) h)
  rw [Gs s a h,Int.toNat_natCast,show(frX.getD i 0).toNat=frN i from rfl]
  refine Bh (fun e=> ?_) fun e=> ?_
  ·have e':s[a]=UInt8.ofNat (frN i):=(Bbr hf.2).2 (by omega)
   have ho:¬Afk s[a]=true:=by rw [Adj];omega
   rw [if_neg ho]at hesc
   injection hesc with hesc;injection hesc with e1 e2
   subst e1;subst e2
   rw [Gj i (by omega),Gj a (by omega),Int.toNat_natCast,Bza ⟨i,by omega⟩]
   refine⟨⟨by omega,by omega,by show((i+1:Nat):Int)≤((5:Nat):Int);omega⟩,Let.intro ?_⟩
   apply A3z
   have hl:=Bv3 ⟨i,by omega⟩
   simp only at hl
   rw [e',hl]at hq
   exact hq
  ·rw [Gj i (by omega)]
   refine ih (i+1) (by omega) fun j hj=> ?_
   by_cases ej:j=i
   ·subst ej;omega
   ·exact ha j (by omega)
theorem Bf5(a:Nat)(h:¬a<s.length):Call E0.P Afb [.imm (.str s), .imm (.int .i64 (a:Int))] [] (Is (As8 [] (-1)) []):=
 have _:=hs
 Asa _ _ _ (Bh (fun _=>⟨rfl,rfl⟩) fun h=>by omega)
theorem Bu0(a:Nat)(h:a<s.length)(t:List UInt8)(k:Nat)(he:Ac3 (s.drop a)=some (t,k)):Call E0.P Afb [.imm (.str s), .imm (.int .i64 (a:Int))] [] (Is (As8 t (a+k:Nat)) []):=by
 refine Asa _ _ _ (Bh (fun h=>by omega) fun _=>Call.use (A79 s (by omega) a) ⟨⟨rfl,rfl⟩, ?_⟩)
 rw [Cx]
 have hb:=Azf (s.drop a)
 rw [List.length_drop]at hb
 refine Cg (p:=0<Qg (s.drop a)) (by rw [Bb];omega) (fun h1=> ?_) fun h1=> ?_
 ·rw [De s a h,Ac3, ←De s a h,if_pos h1]at he
  injection he with he;injection he with e1 e2
  subst e1;subst e2
  rw [wrA a _ (by omega)]
  exact⟨rfl,rfl⟩
 ·exact Bxe s hs a h (by omega) t k he _ ⟨rfl,rfl⟩ 5 0 rfl (fun j hj=>by omega)
end
end Go.Proofs.Sim.Se
set_option maxRecDepth 100000
namespace Go.Proofs.Sim.Se
open Go Go.Proofs Go.Proofs.Sim Go.Proofs.Sim.Va Go.RowKit Go.Proofs.Sim.Pa
theorem A5h(s:List UInt8)(a:Int)(h:¬Dp s a<s.length):Aj s a=⟨0,0,0,[],Dp s a,Dp s a⟩:=by
 unfold Aj;rw [List.drop_eq_nil_of_le (by omega)]
theorem A5j(s:List UInt8)(a:Int)(h:Dp s a<s.length):Aj s a=Qk s[Dp s a] (s.drop (Dp s a+1)) (Dp s a):=by
 unfold Aj;rw [De s _ h]
section
variable (s:List UInt8) (hs:s.length≤1000000000)
include hs
theorem Bqu(Q:QQ)(X:Part)(hq:Q (A0r X) []):∀(m a:Nat) (out:List UInt8) (d:Nat),s.length<a+m→a≤s.length→out.length≤a→1≤d→d≤a+1→Mf m (s.drop a) out d a=X→Abw s a out d (Ni Q):=by
 have bad:∀e:Int,X=([],0,e)→Ni Q .ret ⟨[(4, .imm (.str [])),(5, .imm (.int .i64 0)),(6, .imm (.int .i64 e))],[]⟩:=by
  intro e hx
  apply Anh
  rw [hx]at hq;exact hq
 intro m
 induction m with
 |zero=>intro a out d hm ha;omega
 |succ m ih=>
  intro a out d hm ha ho hd1 hd2 hX
  by_cases h:a<s.length
  case neg=>
   rw [List.drop_eq_nil_of_le (by omega)]at hX
   refine An0 _ _ _ _ _ (Bh (fun h=>by omega) fun _=> ?_)
   apply A33
   refine A01 _ ?_
   apply A32
   rw [←hX]at hq;exact hq
  have hdr:=De s a h
  have he:=Azf (s.drop a)
  rw [List.length_drop]at he
  rw [hdr,Mf, ←hdr]at hX
  have push:∀(t:List UInt8) (d' b:Nat),a<b→b≤s.length→t.length≤1→1≤d'→d'≤b+1→(X=if 65535<out.length+t.length then([],0,8)else Mf m (s.drop b) (out++t) d' b)→Iw s out d' t b (Im (Ni Q)):=by
   intro t d' b hab hbs ht h1 h2 hx
   have hl:(out++t).length=out.length+t.length:=by simp
   refine Akn _ _ _ _ _ _ (Bh (fun h=>by omega) fun _=>⟨by omega,Bh (fun h=> ?_) fun h=> ?_⟩)
   ·rw [hl]at h
    rw [if_pos (by omega)]at hx
    apply Ani
    exact bad 8 hx
   ·rw [hl]at h
    rw [if_neg (by omega)]at hx
    apply A34
    exact ih b (out++t) d' (by omega) hbs (by omega) h1 h2 hx.symm
  have push1:∀(c:UInt8) (d' b:Nat),a<b→b≤s.length→1≤d'→d'≤b+1→(X=if 65535≤out.length then([],0,8)else Mf m (s.drop b) (out++[c]) d' b)→Iw s out d' [c] b (Im (Ni Q)):=by
   intro c d' b h1 h2 h3 h4 hx
   refine push [c] d' b h1 h2 (by simp) h3 h4 ?_
   by_cases h5:65535≤out.length
   ·rw [hx,if_pos h5,if_pos (by simp;omega)]
   ·rw [hx,if_neg h5,if_neg (by simp;omega)]
  refine An0 _ _ _ _ _ (Bh (fun _=> ?_) fun h=>by omega)
  rw [Gs s a h,Gj a (by omega),Int.toNat_natCast,Int.toNat_natCast,Bk3 s a h]
  refine⟨⟨by omega,by omega,by omega⟩,Let.intro (Call.use (A79 s (by omega) a) ⟨⟨rfl,rfl⟩, ?_⟩)⟩
  rw [Cx]
  refine Cg (p:=0<Qg (s.drop a)) (by rw [Bb];omega) (fun h1=> ?_) fun h1=> ?_
  ·rw [if_pos h1,List.drop_drop]at hX
   rw [wrA a _ (by omega)]
   exact push1 10 d _ (by omega) (by omega) hd1 (by omega) hX.symm
  rw [if_neg h1]at hX
  refine⟨⟨by omega,by omega⟩,Bh (fun h92=> ?_) fun h92=> ?_⟩
  ·rw [if_pos (by omega)]at hX
   by_cases h2:a+1<s.length
   ·rcases hesc:Ac3 (s.drop (a+1))with _ |⟨t,k⟩
    ·rw [De s (a+1) h2,Ac3]at hesc
     split at hesc
     ·cases hesc
     ·split at hesc<;>cases hesc
    ·rw [hesc]at hX
     have hk:=Bg0 hesc
     rw [List.length_drop]at hk
     refine Call.use (Bu0 s hs (a+1) h2 t k hesc) ⟨⟨rfl,rfl⟩, ?_⟩
     rw [show rI (rT (As8 t (a+1+k:Nat)) 1)=((a+1+k:Nat):Int) from rfl,show rS (rT (As8 t (a+1+k:Nat)) 0)=t from rfl]
     simp only [List.drop_drop]at hX
     exact Bh (fun h=>by omega) fun _=>push t d (a+1+k) (by omega) (by omega) hk.2.2 hd1 (by omega) hX.symm
   ·rw [List.drop_eq_nil_of_le (show s.length≤a+1 by omega),Ac3]at hX
    refine Call.use (Bf5 s hs (a+1) h2) ⟨⟨rfl,rfl⟩, ?_⟩
    rw [show rI (rT (As8 [] (-1)) 1)= -1 from rfl]
    refine Bh (fun _=> ?_) fun h=>absurd (by decide) h
    exact bad 5 hX.symm
  rw [if_neg (by omega)]at hX
  refine⟨⟨by omega,by omega⟩,Bh (fun h40=> ?_) fun h40=>⟨⟨by omega,by omega⟩, ?_⟩⟩
  ·rw [if_neg (by omega),if_pos (show s[a].toNat=40 by omega)]at hX
   rw [Gj d (by omega)]
   exact push1 s[a] (d+1) (a+1) (by omega) (by omega) (by omega) (by omega) (by rw [←hX];simp)
  rw [if_neg (show ¬s[a].toNat=40 by omega)]at hX
  refine Bh (fun h41=> ?_) fun h41=> ?_
  ·rw [if_pos (show s[a].toNat=41 by omega)]at hX
   rw [Av ((d:Int) - 1) (by omega) (by omega)]
   by_cases h1:d=1
   ·subst h1
    rw [if_pos ⟨by omega,by simp⟩]at hX
    refine Akn _ _ _ _ _ _ (Bh (fun _=> ?_) fun h=>by omega)
    apply Ani
    apply Anh
    rw [←hX]at hq;exact hq
   ·rw [if_neg (fun h=>h1 (by have:=h.2;omega))]at hX
    rw [show(d:Int) - 1=((d - 1:Nat):Int)by omega]at hX ⊢
    exact push1 s[a] (d - 1) (a+1) (by omega) (by omega) (by omega) (by omega) hX.symm
  ·rw [if_neg (by omega),if_neg (show ¬s[a].toNat=41 by omega)]at hX
   exact push1 s[a] d (a+1) (by omega) (by omega) hd1 (by omega) hX.symm
theorem Bq7(a:Nat)(ha:a≤s.length):Call E0.P Aoj [.imm (.str s), .imm (.int .i64 (a:Int))] [] (Is (A0r (Mf ((s.drop a).length+1) (s.drop a) [] 1 a)) []):=
 A9u _ _ _ (Bqu s hs _ _ ⟨rfl,rfl⟩ _ a [] 1 (by rw [List.length_drop];omega) ha (by simp) (by omega) (by omega) rfl)
theorem Bxi(Q:QQ)(X:Part)(hq:Q (A0r X) []):∀(m a:Nat) (out:List UInt8) (half:Int),s.length≤a+m→a≤s.length→out.length≤a→out.length≤65535→ -1≤half→half≤15→Rx (s.drop a) half out a=X→Aa5 s a half (Aw out) (Rp Q):=by
 have off:∀(a:Nat) (out:List UInt8) (half:Int),¬a<s.length→Rx (s.drop a) half out a=X→Aa5 s a half (Aw out) (Rp Q):=by
  intro a out half h hX
  rw [List.drop_eq_nil_of_le (by omega)]at hX
  refine Aso _ _ _ _ _ (Bh (fun h=>by omega) fun _=> ?_)
  apply Baa
  refine A6h _ ?_
  apply A99
  rw [←hX]at hq;exact hq
 intro m
 induction m with
 |zero=>intro a out half hm ha ho hmx h0 h1 hX;exact off a out half (by omega) hX
 |succ m ih=>
  intro a out half hm ha ho hmx h0 h1 hX
  by_cases h:a<s.length
  case neg=>exact off a out half h hX
  have hd:=Ai0 s[a]
  have hb:=Qa out
  rw [De s a h,Rx]at hX
  refine Aso _ _ _ _ _ (Bh (fun _=>⟨⟨by omega,by omega⟩, ?_⟩) fun h=>by omega)
  rw [Gs s a h,Gj a (by omega)]
  refine Call.use (Ais _) ⟨⟨rfl,rfl⟩,Let.intro ?_⟩
  rw [Cx]
  have nxt:∀(half':Int) (o:List UInt8),s[a].toNat≠62→o.length≤a+1→o.length≤65535→ -1≤half'→half'≤15→Rx (s.drop (a+1)) half' o (a+1)=X→Xq s (a+1:Nat) half' (s[a].toNat:Int) (Aw o) (V5 (V4 (Rp Q))):=by
   intro half' o hne hol hol2 q0 q1 hx
   refine Adu _ _ _ _ _ _ (Bh (fun h'=>by rw [Qa]at h';omega) fun _=>Bh (fun h'=>by omega) fun _=> ?_)
   apply Bae
   apply Bab
   exact ih (a+1) o half' (by omega) (by omega) hol hol2 q0 q1 hx
  refine Cg (p:=s[a].toNat=62∧half<0) (by rw [N8];omega) (fun h62=>⟨Zk _, ?_⟩) fun hn=>Bh (fun h62=> ?_) fun h62=> ?_
  ·rw [if_pos h62.1,if_pos h62.2]at hX
   apply Sn
   rw [Al5]
   rw [←hX]at hq;exact hq
  ·have hh:¬half<0:=fun h'=>hn ⟨by omega,h'⟩
   rw [if_pos (by omega),if_neg hh]at hX
   refine Apn _ _ _ _ _ _ _ (Let.intro (Cg (N8 _ _) (fun h'=>absurd h'.2 hh) fun _=>Bh (fun _=>⟨⟨by omega,by omega⟩, ?_⟩) fun h'=>absurd (Int.le_refl 0) h'))
   rw [Bsr half 0 (by omega) h1 (by omega) (by omega),Int.add_zero,Vl]
   have hl:(out++[Yc (16*half)]).length=out.length+1:=by simp
   refine Adu _ _ _ _ _ _ (Bh (fun h'=> ?_) fun h'=>Bh (fun _=>⟨Zk _, ?_⟩) fun h'=>absurd h62 h')
   ·rw [Qa,hl]at h'
    rw [if_pos (by omega)]at hX
    apply Ago
    apply Asf
    apply Sn
    rw [←hX]at hq;exact hq
   ·rw [Qa,hl]at h'
    rw [if_neg (by omega)]at hX
    apply Ago
    apply Asf
    apply Sn
    rw [Al5]
    rw [←hX]at hq;exact hq
  ·rw [if_neg (by omega)]at hX
   have step:¬(Cb s[a]<0∧kd s[a]≠0)→Adt s (a+1:Nat) half (s[a].toNat:Int) (Cb s[a]) false (Aw out) (Aa3 (Rp Q)):=by
    intro hk
    refine Apm _ _ _ _ _ _ _ _ (brF ?_)
    apply Bad
    refine Apn _ _ _ _ _ _ _ (Let.intro (Cg (N8 _ _) (fun h'=> ?_) fun h'=>Bh (fun hv=>⟨⟨by omega,by omega⟩, ?_⟩) fun hv=> ?_))
    ·rw [if_neg (by omega),if_pos h'.2]at hX
     exact nxt _ _ (by omega) (by omega) hmx (by omega) hd.2 hX
    ·rw [if_neg (by omega),if_neg (fun h2=>h' ⟨hv,h2⟩)]at hX
     rw [Bsr _ _ (by omega) h1 (by omega) hd.2,Vl]
     by_cases hf:65535≤out.length
     ·rw [if_pos hf]at hX
      refine Adu _ _ _ _ _ _ (Bh (fun _=> ?_) fun h'=>absurd (by rw [Qa];simp;omega) h')
      apply Ago
      apply Sn
      rw [←hX]at hq;exact hq
     ·rw [if_neg hf]at hX
      exact nxt _ _ (by omega) (by simp;omega) (by simp;omega) (by omega) (by omega) hX
    ·rw [if_pos (by omega),if_pos (Classical.not_not.1 fun h2=>hk ⟨by omega,h2⟩)]at hX
     exact nxt _ _ (by omega) (by omega) hmx h0 h1 hX
   refine brE Bb (fun hv=>Call.use (A8a _) ⟨⟨rfl,rfl⟩,Let.intro ?_⟩) fun hv=>⟨rfl,Let.intro (step fun h'=>hv h'.1)⟩
   rw [Cx]
   by_cases hk:kd s[a]=0
   ·rw [decide_eq_true hk];exact step fun h'=>h'.2 hk
   ·rw [decide_eq_false hk]
    rw [if_pos hv,if_neg hk]at hX
    refine Apm _ _ _ _ _ _ _ _ (brT ?_)
    apply Bac
    apply Sn
    rw [←hX]at hq;exact hq
theorem Bxy(a:Nat)(ha:a≤s.length):Call E0.P Aus [.imm (.str s), .imm (.int .i64 (a:Int))] [] (Is (A0r (Rx (s.drop a) (-1) [] a)) []):=
 Bfq _ _ _ (Bxi s hs _ _ ⟨rfl,rfl⟩ s.length a [] (-1) (by omega) ha (by simp) (by simp) (by omega) (by omega) rfl)
omit hs in
theorem Baz(k:Int)(p:Nat)(x:Part):Call E0.P Abd [.imm (.int .i64 k), .imm (.int .i64 p), .imm (.str x.1), .imm (.int .i64 x.2.1), .imm (.int .i64 x.2.2)] [] (Is (nxA (partT k p x)) []):=by
 refine Bdx _ _ _ _ _ _ (Ki Bb (fun h=> ?_) fun h=> ?_)
 ·unfold partT;rw [if_neg h];exact⟨rfl,rfl⟩
 ·unfold partT;rw [if_pos h];exact⟨rfl,rfl⟩
theorem Bu9(a:Nat)(ha:a≤s.length):Call E0.P Arc [.imm (.str s), .imm (.int .i64 (a:Int))] [] (Is (nxA (Ng (s.drop a) a)) []):=by
 have hw:=Ahn 2 (s.drop a)
 rw [List.length_drop]at hw
 refine Bdy _ _ _ (Call.use (Bl2 2 s (by omega) a (by omega)) ⟨⟨rfl,rfl⟩, ?_⟩)
 rw [Cx,wrA a _ (by omega),Int.toNat_natCast,Int.toNat_natCast,Aod]
 refine⟨⟨by omega,by omega,by omega⟩,Let.intro ?_⟩
 have hl:((s.drop a).take (Cf 2 (s.drop a))).length=Cf 2 (s.drop a):=by rw [List.length_take,List.length_drop];omega
 refine Call.use (Bjk _ (by omega)) ⟨⟨rfl,rfl⟩, ?_⟩
 rw [show rI (rT (isP (H5 ((s.drop a).take (Cf 2 (s.drop a))))) 0)=(H5 ((s.drop a).take (Cf 2 (s.drop a)))).1 from rfl,show rI (rT (isP (H5 ((s.drop a).take (Cf 2 (s.drop a))))) 1)=(H5 ((s.drop a).take (Cf 2 (s.drop a)))).2 from rfl]
 unfold Ng
 refine Bh (fun e=> ?_) fun e=>Bh (fun e2=> ?_) fun e2=>Bh (fun e3=> ?_) fun e3=> ?_
 ·rw [if_pos e];exact⟨rfl,rfl⟩
 ·rw [if_neg e,if_pos e2];exact⟨rfl,rfl⟩
 ·rw [if_neg e,if_neg e2,if_pos (by omega)];exact⟨rfl,rfl⟩
 ·rw [if_neg e,if_neg e2,if_neg (by omega)];exact⟨rfl,rfl⟩
omit hs in
theorem Bww(p:Nat)(h:p<s.length):List.drop p (List.take (if((p+2:Nat):Int)<(s.length:Int)then((p+2:Nat):Int)else(s.length:Int)).toNat s)=(s.drop p).take 2:=by
 split
 ·rw [Int.toNat_natCast,Aod]
 ·rw [Int.toNat_natCast,List.take_length,List.take_of_length_le]
  rw [List.length_drop];omega
theorem Zf(a:Int):Call E0.P L8 [.imm (.str s), .imm (.int .i64 a)] [] (Is (nxA (Aj s a)) []):=by
 have hs9:s.length≤1000000000:=by omega
 have hp:=A55 s a
 refine Bdu _ _ _ (Call.use (Bl3 s hs9 a) ⟨⟨rfl,rfl⟩, ?_⟩)
 rw [Cx]
 refine Bh (fun e=> ?_) fun e=> ?_
 ·rw [A5h s a (by omega)];exact⟨rfl,rfl⟩
 have h:Dp s a<s.length:=by omega
 have h37:s[Dp s a].toNat≠37:=by
  refine Az3 false (s.drop (Lp s a)) _ (s.drop (Dp s a+1)) ?_
  rw [List.drop_drop]
  exact De s _ h
 rw [A5j s a h]
 generalize Dp s a=p at h h37 hp
 rw [wr2 p (by omega),Gj p (by omega),Int.toNat_natCast,Bww s p h,show s.getD p 0=s[p] from by simp [List.getD_eq_getElem?_getD,h]]
 have bp:(0:Int)≤(p:Int)∧(p:Int)<(s.length:Int):=⟨by omega,by omega⟩
 refine⟨⟨by omega,by split<;>omega,by split<;>omega⟩,Let.intro ⟨bp, ?_⟩⟩
 unfold Qk
 have c60:((s.drop p).take 2 == [60,60])=true↔s[p].toNat=60∧(s.drop (p+1)).head?=some 60:=by rw [Bja s p h,show(60:UInt8)=UInt8.ofNat 60 from rfl,Bbr (by omega)]
 have c62:((s.drop p).take 2 == [62,62])=true↔s[p].toNat=62∧(s.drop (p+1)).head?=some 62:=by rw [Bja s p h,show(62:UInt8)=UInt8.ofNat 62 from rfl,Bbr (by omega)]
 refine Bh (fun e=> ?_) fun e1=>⟨bp,Bh (fun e=> ?_) fun e2=>Cg c60 (fun e=> ?_) fun e3=>Cg c62 (fun e=> ?_) fun e4=>⟨bp,Bh (fun e=> ?_) fun e5=>⟨bp,Bh (fun e=> ?_) fun e6=>⟨bp,Bh (fun e=> ?_) fun e7=>⟨bp, ?_⟩⟩⟩⟩⟩
 ·rw [if_pos (by omega)];exact⟨rfl,rfl⟩
 ·rw [if_neg (by omega),if_pos (by omega)];exact⟨rfl,rfl⟩
 ·rw [if_neg (by omega),if_neg (by omega),if_neg (by omega),if_neg (by omega),if_pos e.1,if_pos e.2];exact⟨rfl,rfl⟩
 ·rw [if_neg (by omega),if_neg (by omega),if_neg (by omega),if_neg (by omega),if_neg (by omega),if_pos e.1,if_pos e.2];exact⟨rfl,rfl⟩
 ·rw [if_neg (by omega),if_neg (by omega),if_pos (by omega)]
  exact Call.use (Bu7 s hs (p+1)) ⟨⟨rfl,rfl⟩,Call.use (Baz 2 p _) ⟨⟨rfl,rfl⟩,⟨rfl,rfl⟩⟩⟩
 ·rw [if_neg (by omega),if_neg (by omega),if_neg (by omega),if_pos (by omega)]
  exact Call.use (Bq7 s hs (p+1) (by omega)) ⟨⟨rfl,rfl⟩,Call.use (Baz 3 p _) ⟨⟨rfl,rfl⟩,⟨rfl,rfl⟩⟩⟩
 ·rw [if_neg (by omega),if_neg (by omega),if_neg (by omega),if_neg (by omega),if_pos (by omega),if_neg (fun h'=>e3 ⟨by omega,h'⟩)]
  exact Call.use (Bxy s hs (p+1) (by omega)) ⟨⟨rfl,rfl⟩,Call.use (Baz 3 p _) ⟨⟨rfl,rfl⟩,⟨rfl,rfl⟩⟩⟩
 ·rw [if_neg (by omega),if_neg (by omega),if_neg (by omega),if_neg (by omega),if_neg (by omega)]
  refine Call.use (A8a _) ⟨⟨rfl,rfl⟩, ?_⟩
  rw [Cx]
  refine Bh (fun e=> ?_) fun e=> ?_
  ·by_cases h62:s[p].toNat=62
   ·rw [if_pos h62,if_neg (fun h'=>e4 ⟨h62,h'⟩)];exact⟨rfl,rfl⟩
   ·rw [if_neg h62,if_pos e];exact⟨rfl,rfl⟩
  ·have h62:¬s[p].toNat=62:=by
    intro h62
    refine e ?_
    unfold kd Vh
    rw [if_neg (by omega),if_pos (by omega)]
   rw [if_neg h62,if_neg e, ←De s p h]
   exact Call.use (Bu9 s hs p (by omega)) ⟨⟨rfl,rfl⟩,⟨rfl,rfl⟩⟩
end
end Go.Proofs.Sim.Se

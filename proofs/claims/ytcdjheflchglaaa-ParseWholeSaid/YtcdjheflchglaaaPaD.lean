import Derived.Test.YtcdjheflchglaaaPaB
set_option maxRecDepth 100000
namespace Go.Proofs.Sim.Se
open Go Go.Proofs Go.Proofs.Sim Go.Proofs.Sim.Va Go.RowKit Go.Proofs.Sim.Pa
theorem A7h {b:Bool} {p:Prop} {A B:Prop} (hb:b=true↔p)(h1:¬p→A)(h2:p→B):Br (b == false) A B:=by
 cases b with
 |true=>exact⟨fun h=>absurd h (by decide),fun _=>h2 (hb.1 rfl)⟩
 |false=>exact⟨fun _=>h1 fun hp=>(by have:=hb.2 hp;cases this),fun h=>absurd h (by decide)⟩
abbrev Aom(x:Part):AV:= .tup [.imm (.str x.1), .imm (.int .i64 x.2.1), .imm (.int .i64 x.2.2)]
theorem A26(s:List UInt8)(a:Nat)(h:a<s.length):List.drop a (List.take (a+1) s)=[s[a]]:=by
 rw [Afi,Dt s a h];rfl
theorem Bab(c:UInt8)(h:Ce c=0):c=48:=by
 refine(Aw1 (n:=48) (by omega)).2 ?_
 have hl:=A9y c
 unfold Ce at h
 split at h
 ·omega
 ·split at h
  ·omega
  ·split at h<;>omega
theorem Bcn:Ce 48=0:=by decide
theorem Az8(s:List UInt8)(p:Nat)(h:p<s.length)(x y:UInt8):((s.drop p).take 2 == [x,y])=true↔s[p]=x∧(s.drop (p+1)).head?=some y:=by
 rw [Dt s p h,Avi]
 by_cases h2:p+1<s.length
 ·rw [Dt s (p+1) h2]
  simp only [List.take_succ_cons,List.take_zero,beq_iff_eq,List.cons.injEq,and_true]
  exact⟨fun⟨h1,h3⟩=>⟨h1,h2,h3⟩,fun⟨h1,_,h3⟩=>⟨h1,h3⟩⟩
 ·rw [List.drop_eq_nil_of_le (by omega)];simp [h2]
theorem A7g(x y:Int)(hx:0≤x)(hx2:x≤15)(hy:0≤y)(hy2:y≤15):IntKind.u8.wrap (IntKind.i64.wrap (IntKind.i64.wrap (16*x)+y))=(((Vb (16*x+y)).toNat:Nat):Int):=by
 rw [Be (16*x) (by omega) (by omega),Be _ (by omega) (by omega),wrap_u8 _ (by omega) (by omega)]
 unfold Vb
 rw [UInt8.toNat_ofNat_of_lt' (by show(16*x+y).toNat<256;omega)]
 omega
section
variable (s:List UInt8) (hs:s.length≤1000000000)
include hs
theorem Bb0(Q:QQ)(X:Part)(hq:Q (Aom X) []):∀(m a:Nat) (out:List UInt8),s.length≤a+m→out.length≤127→nameL (s.drop a) out a=X→Te s a (Bb out) (Iw Q):=by
 have fin:∀(a:Nat) (out:List UInt8),X=(out,a,0)→Iw Q (.exit 0) ⟨[(1, .imm (.int .i64 a)),(7, .own (Nm.loc 9))],[(Nm.loc 9, .arr 0 true 1 (Bb out))]⟩:=by
  intro a out hX
  apply Asv
  refine Aqt _ _ _ ⟨Aes _, ?_⟩
  apply Aub
  rw [Ao0]
  rw [hX]at hq;exact hq
 have off:∀(a:Nat) (out:List UInt8),¬a<s.length→nameL (s.drop a) out a=X→Te s a (Bb out) (Iw Q):=by
  intro a out h hX
  rw [List.drop_eq_nil_of_le (by omega)]at hX
  refine Ahj _ _ _ _ ⟨fun h'=>⟨by omega,of_decide_eq_true h'⟩,brE Bg (fun h'=>by omega) fun _=>⟨rfl,Let.intro (brF (fin a out hX.symm))⟩⟩
 intro m
 induction m with
 |zero=>intro a out hm ho hX;exact off a out (by omega) hX
 |succ m ih=>
  intro a out hm ho hX
  by_cases h:a<s.length
  case neg=>exact off a out h hX
  refine Ahj _ _ _ _ ⟨fun _=>⟨by omega,by omega⟩,brE Bg (fun _=> ?_) fun h'=>by omega⟩
  rw [Hg s a h]
  refine Call.use (Aux _) ⟨⟨rfl,rfl⟩,Let.intro ?_⟩
  rw [Ee]
  rw [Dt s a h]at hX
  refine Bz (fun hk=> ?_) fun hk=> ?_
  ·have bad:∀e:Int,X=([],0,e)→Iw Q .ret ⟨[(4, .imm (.str [])),(5, .imm (.int .i64 0)),(6, .imm (.int .i64 e))],[]⟩:=by
    intro e hx
    apply Atc
    rw [hx]at hq;exact hq
   have push:∀(c:UInt8) (b:Nat),a<b→(X=if 127≤out.length then([],0,8)else nameL (s.drop b) (out++[c]) b)→Wm s b (c.toNat:Int) (Bb out) (P9 (Qh (Iw Q))):=by
    intro c b hb hx
    refine Aqw _ _ _ _ _ ⟨⟨by rw [bl1];omega,by rw [bl1];omega⟩, ?_⟩
    rw [Amz,bl1,List.length_append]
    refine Bz (fun h'=> ?_) fun h'=> ?_
    ·rw [if_pos (by simp at h';omega)]at hx
     apply Auw
     apply Zd
     exact bad 8 hx
    ·rw [if_neg (by simp at h';omega)]at hx
     apply Auy
     apply Atp
     exact ih b (out++[c]) (by omega) (by simp at h' ⊢; omega) hx.symm
   refine Ats _ _ _ _ ⟨⟨by omega,by omega⟩, ?_⟩
   rw [Hg s a h]
   refine Bz (fun h35=> ?_) fun h35=> ?_
   ·rw [Hq a (by omega),Hq (a+1) (by omega),wr2 (a+1) (by omega)]
    rw [nameL.eq_def]at hX
    simp only at hX
    rw [if_pos hk,if_pos (by omega)]at hX
    have wrong:X=([],0,4)→P6 s (a+1:Nat) true (Bb out) (M3 (Qh (Iw Q))):=by
     intro hx
     refine Ahr _ _ _ _ _ (brT ?_)
     apply Ahd
     apply Zd
     exact bad 4 hx
    refine⟨fun h'=> ?_,A7h Bg (fun h3=> ?_) fun h3=> ?_⟩
    ·have:=of_decide_eq_false h';omega
    ·have h4:a+1<s.length:=by omega
     have h5:a+1+1<s.length:=by omega
     rw [Dt s (a+1) h4,Dt s (a+1+1) h5]at hX
     simp only at hX
     have b1:=Abw s[a+1]
     have b2:=Abw s[a+1+1]
     rw [Hg s (a+1) h4]
     refine Call.use (Aca _) ⟨⟨rfl,rfl⟩,Let.intro ⟨fun _=>⟨by omega,by omega⟩, ?_⟩⟩
     rw [Ee]
     refine A7h Bg (fun hn1=> ?_) fun hn1=>⟨rfl,Let.intro ⟨fun h'=>(by cases h'),Let.intro (Let.intro (wrong ?_))⟩⟩
     ·rw [Hg s (a+1+1) h5]
      refine Call.use (Aca _) ⟨⟨rfl,rfl⟩,Let.intro ⟨fun _=>⟨by omega,by omega,by omega⟩,Let.intro (Let.intro ?_)⟩⟩
      rw [Ee,Int.toNat_natCast,Int.toNat_natCast,Afi]
      have key:(bif decide (Ce s[a+1+1]<0)then true else(s.drop (a+1)).take 2 == [48,48])=true↔(Ce s[a+1]<0∨Ce s[a+1+1]<0∨Ce s[a+1]+Ce s[a+1+1]=0):=by
       by_cases hn2:Ce s[a+1+1]<0
       ·rw [decide_eq_true hn2];simp [hn2]
       ·rw [decide_eq_false hn2]
        simp only [cond_false]
        rw [Az8 s (a+1) h4,Avi]
        constructor
        ·rintro⟨e1,h6,e2⟩
         rw [e1,e2,Bcn];omega
        ·intro h'
         have e1:=Bab s[a+1] (by omega)
         have e2:=Bab s[a+1+1] (by omega)
         exact⟨e1,h5,e2⟩
      refine Ahr _ _ _ _ _ (Dj key (fun hb=> ?_) fun hb=> ?_)
      ·rw [if_pos hb]at hX
       apply Ahd
       apply Zd
       exact bad 4 hX.symm
      ·rw [if_neg hb]at hX
       apply Atm
       refine Aq3 _ _ _ _ ⟨⟨by omega,by omega⟩, ?_⟩
       rw [Hq (a+1) (by omega),wr2 (a+1) (by omega),Hg s (a+1) h4,Hg s (a+1+1) h5]
       refine⟨⟨by omega,by omega⟩,Call.use (Aca _) ⟨⟨rfl,rfl⟩,Call.use (Aca _) ⟨⟨rfl,rfl⟩, ?_⟩⟩⟩
       apply As4
       rw [Ee,Ee,A7g _ _ (by omega) (by omega) (by omega) (by omega)]
       exact push (Vb (16*Ce s[a+1]+Ce s[a+1+1])) (a+1+2) (by omega) hX.symm
     ·rw [if_pos (.inl hn1)]at hX;exact hX.symm
    ·refine⟨rfl,Let.intro ⟨fun h'=>(by cases h'),A7h (p:=True) (by simp) (fun h=>absurd trivial h) fun _=>⟨rfl,Let.intro ⟨fun h'=>(by cases h'),Let.intro (Let.intro (wrong ?_))⟩⟩⟩⟩
     rw [←hX]
     by_cases h4:a+1<s.length
     ·rw [Dt s (a+1) h4,List.drop_eq_nil_of_le (by omega)]
     ·rw [List.drop_eq_nil_of_le (by omega)]
   ·rw [Hq a (by omega)]
    rw [nameL.eq_def]at hX
    simp only at hX
    rw [if_pos hk,if_neg (by omega)]at hX
    exact push s[a] (a+1) (by omega) hX.symm
  ·rw [nameL.eq_def]at hX
   simp only at hX
   rw [if_neg hk]at hX
   exact fin a out hX.symm
theorem Bbc(a:Nat):Call E0.P Aiy [.imm (.str s), .imm (.int .i64 (a:Int))] [] (Is (Aom (nameL (s.drop a) [] a)) []):=
 Axt _ _ _ (Bb0 s hs _ _ ⟨rfl,rfl⟩ s.length a [] (by omega) (by simp) rfl)
end
def frX:List UInt8:=[110,114,116,98,102]
def toX:List UInt8:=[10,13,9,8,12]
def frN(i:Nat):Nat:=(frX.getD i 0).toNat
theorem Bes:∀i:Fin 5,56≤frN i.val∧frN i.val<256:=by decide+kernel
theorem Bct:∀i:Fin 5,List.drop i.val (List.take (i.val+1) toX)=[toX.getD i.val 0]:=by decide+kernel
theorem Bbl:∀i:Fin 5,Aay (UInt8.ofNat (frN i.val))=toX.getD i.val 0:=by decide+kernel
theorem A7n(c:UInt8)(h:∀j,j<5→frN j≠c.toNat):Aay c=c:=by
 have h0:(110:Nat)≠c.toNat:=h 0 (by omega)
 have h1:(114:Nat)≠c.toNat:=h 1 (by omega)
 have h2:(116:Nat)≠c.toNat:=h 2 (by omega)
 have h3:(98:Nat)≠c.toNat:=h 3 (by omega)
 have h4:(102:Nat)≠c.toNat:=h 4 (by omega)
 unfold Aay
 rw [if_neg (by omega),if_neg (by omega),if_neg (by omega),if_neg (by omega),if_neg (by omega)]
theorem Bdv:∀v:Fin 512,UInt8.ofNat (gI [IV.int .u8 (IntKind.u8.wrap (((v:Nat):Int).tmod 256))] 0).toNat=UInt8.ofNat (v:Nat):=by decide+kernel
abbrev Ai1(t:List UInt8)(e:Int):AV:= .tup [.imm (.str t), .imm (.int .i64 e)]
section
variable (s:List UInt8) (hs:s.length≤1000000000)
include hs
theorem Bc9(a:Nat)(K:KK):∀(k i n:Nat),k+i=3→n<8 ^ i→K (.exit 2) ⟨[(0, .imm (.str s)),(1, .imm (.int .i64 a)),(10, .imm (.int .i64 ((Gp k (s.drop (a+i)) n).1:Nat))),(11, .imm (.int .i64 ((i+(Gp k (s.drop (a+i)) n).2:Nat))))],[]⟩→a≤s.length→Ul s a n i K:=by
 intro k
 induction k with
 |zero=>
  intro i n hi hn hK ha
  have e3:i=3:=by omega
  subst e3
  refine Ady _ _ _ _ _ (Let.intro ?_)
  rw [show(bif decide (((3:Nat):Int)<3)then decide (IntKind.i64.wrap ((a:Int)+((3:Nat):Int))<(s.length:Int))else false)=false from rfl]
  refine⟨fun h=>(by cases h),Let.intro ⟨fun h=>(by cases h),Let.intro (brF ?_)⟩⟩
  simpa only [Gp,Nat.add_zero] using hK
 |succ k ih=>
  intro i n hi hn hK ha
  refine Ady _ _ _ _ _ (Let.intro ?_)
  rw [wrA a i (by omega)]
  have x0:(bif decide ((i:Int)<3)then decide (((a+i:Nat):Int)<(s.length:Int))else false)=decide (a+i<s.length):=by
   rw [decide_eq_true (show(i:Int)<3 by omega),cond_true]
   by_cases h:a+i<s.length
   ·rw [decide_eq_true h,decide_eq_true (by omega)]
   ·rw [decide_eq_false h,decide_eq_false (by omega)]
  rw [x0]
  by_cases h:a+i<s.length
  ·rw [Hg s (a+i) h,decide_eq_true h]
   rw [Dt s (a+i) h,Gp]at hK
   simp only [cond_true]
   refine⟨fun _=>⟨by omega,by omega⟩,Let.intro ⟨fun _=>⟨by omega,by omega⟩,Let.intro (Dj (p:=Yp s[a+i]=true) (by rw [Ph,Yh];omega) (fun ho=> ?_) fun ho=> ?_)⟩⟩
   ·have h2:=(Yh _).1 ho
    have h64:n<64:=Nat.lt_of_lt_of_le hn (Nat.pow_le_pow_right (n:=8) (by decide) (show i≤2 by omega))
    rw [if_pos ho]at hK
    rw [Be (8*(n:Int)) (by omega) (by omega),A9u _ (by omega),Be (8*(n:Int)+(s[a+i].toNat:Int)) (by omega) (by omega),Be _ (by omega) (by omega),Hq i (by omega)]
    rw [show 8*(n:Int)+(s[a+i].toNat:Int) - 48=((8*n+(s[a+i].toNat - 48):Nat):Int)by omega]
    refine⟨⟨by omega,by omega⟩,ih (i+1) _ (by omega) (by rw [Nat.pow_succ];omega) ?_ ha⟩
    rw [show a+(i+1)=a+i+1 by omega,show i+1+(Gp k (s.drop (a+i+1)) (8*n+(s[a+i].toNat - 48))).2=i+((Gp k (s.drop (a+i+1)) (8*n+(s[a+i].toNat - 48))).2+1)by omega]
    exact hK
   ·rw [if_neg ho]at hK;exact hK
  ·rw [decide_eq_false h]
   rw [List.drop_eq_nil_of_le (by omega)]at hK
   refine⟨fun h=>(by cases h),Let.intro ⟨fun h=>(by cases h),Let.intro (brF ?_)⟩⟩
   simpa only [Gp,Nat.add_zero] using hK
theorem Bcz(a:Nat)(h:a<s.length)(he:Nr (s.drop a)=0)(t:List UInt8)(k:Nat)(hesc:X3 (s.drop a)=some (t,k))(Q:QQ)(hq:Q (Ai1 t (a+k:Nat)) []):∀(m i:Nat),m+i=5→(∀j,j<i→frN j≠s[a].toNat)→U2 s a frX toX i (Xf Q):=by
 have hdr:=Dt s a h
 rw [hdr,X3, ←hdr,if_neg (by omega)]at hesc
 intro m
 induction m with
 |zero=>
  intro i hi ha
  have h5:i=5:=by omega
  subst h5
  refine Adr _ _ _ _ _ _ (Bz (fun h=>absurd h (by decide)) fun _=> ?_)
  apply Aq8
  refine Apy _ _ _ (Bc9 s hs a _ 3 0 0 rfl (by decide) ?_ (by omega))
  apply Aqb
  rw [Nat.add_zero,Nat.zero_add]
  have hlt:=Avw 3 (s.drop a) 0 0 rfl (by decide)
  refine Apj _ _ _ _ _ (Dj (p:=Yp s[a]=true) ?_ (fun ho=> ?_) fun ho=> ?_)
  ·rw [Bg,hdr,Gp]
   by_cases ho:Yp s[a]=true
   ·simp [ho]
   ·simp [ho]
  ·rw [if_pos ho]at hesc
   injection hesc with hesc;injection hesc with e1 e2
   subst e1;subst e2
   have hle:=Awn 3 (s.drop a) 0
   rw [List.length_drop]at hle
   refine⟨by decide,⟨fun r hr=> ?_, ?_⟩⟩
   ·have:r=[IV.int .u8 (IntKind.u8.wrap (((Gp 3 (s.drop a) 0).1:Int).tmod 256))]:=by simpa using hr
    rw [this];rfl
   apply Agc
   apply Agl
   rw [Bdv ⟨_,hlt⟩,wrA a _ (by omega)]
   exact hq
  ·rw [if_neg ho]at hesc
   injection hesc with hesc;injection hesc with e1 e2
   subst e1;subst e2
   rw [Hq a (by omega),Int.toNat_natCast,Int.toNat_natCast,A26 s a h]
   refine⟨⟨by omega,by omega,by omega⟩,Let.intro ?_⟩
   apply Agc
   apply Agl
   rw [A7n _ (fun j hj=>ha j (by omega))]at hq
   exact hq
 |succ m ih=>
  intro i hi ha
  have hf:=Bes ⟨i,by omega⟩
  simp only at hf
  refine Adr _ _ _ _ _ _ (Bz (fun _=>⟨⟨by omega,by omega⟩,⟨⟨by omega,by show(i:Int)<((5:Nat):Int);omega⟩, ?_⟩⟩) fun h=>absurd (show(i:Int)<((5:Nat):Int)by omega) h)
  rw [Hg s a h,Int.toNat_natCast,show(frX.getD i 0).toNat=frN i from rfl]
  refine Bz (fun e=> ?_) fun e=> ?_
  ·have e':s[a]=UInt8.ofNat (frN i):=(Aw1 hf.2).2 (by omega)
   have ho:¬Yp s[a]=true:=by rw [Yh];omega
   rw [if_neg ho]at hesc
   injection hesc with hesc;injection hesc with e1 e2
   subst e1;subst e2
   rw [Hq i (by omega),Hq a (by omega),Int.toNat_natCast,Bct ⟨i,by omega⟩]
   refine⟨⟨by omega,by omega,by show((i+1:Nat):Int)≤((5:Nat):Int);omega⟩,Let.intro ?_⟩
   apply Aqj
   have hl:=Bbl ⟨i,by omega⟩
   simp only at hl
   rw [e',hl]at hq
   exact hq
  ·rw [Hq i (by omega)]
   refine ih (i+1) (by omega) fun j hj=> ?_
   by_cases ej:j=i
   ·subst ej;omega
   ·exact ha j (by omega)
theorem A1s(a:Nat)(h:¬a<s.length):Call E0.P Yx [.imm (.str s), .imm (.int .i64 (a:Int))] [] (Is (Ai1 [] (-1)) []):=
 have _:=hs
 Ajm _ _ _ (Bz (fun _=>⟨rfl,rfl⟩) fun h=>by omega)
theorem Bam(a:Nat)(h:a<s.length)(t:List UInt8)(k:Nat)(he:X3 (s.drop a)=some (t,k)):Call E0.P Yx [.imm (.str s), .imm (.int .i64 (a:Int))] [] (Is (Ai1 t (a+k:Nat)) []):=by
 refine Ajm _ _ _ (Bz (fun h=>by omega) fun _=>Call.use (Aum s (by omega) a) ⟨⟨rfl,rfl⟩, ?_⟩)
 rw [Ee]
 have hb:=Aog (s.drop a)
 rw [List.length_drop]at hb
 refine Dj (p:=0<Nr (s.drop a)) (by rw [Bg];omega) (fun h1=> ?_) fun h1=> ?_
 ·rw [Dt s a h,X3, ←Dt s a h,if_pos h1]at he
  injection he with he;injection he with e1 e2
  subst e1;subst e2
  rw [wrA a _ (by omega)]
  exact⟨rfl,rfl⟩
 ·exact Bcz s hs a h (by omega) t k he _ ⟨rfl,rfl⟩ 5 0 rfl (fun j hj=>by omega)
end
end Go.Proofs.Sim.Se
set_option maxRecDepth 100000
namespace Go.Proofs.Sim.Se
open Go Go.Proofs Go.Proofs.Sim Go.Proofs.Sim.Va Go.RowKit Go.Proofs.Sim.Pa
theorem Aqp(s:List UInt8)(a:Int)(h:¬Dx s a<s.length):Ak s a=⟨0,0,0,[],Dx s a,Dx s a⟩:=by
 unfold Ak;rw [List.drop_eq_nil_of_le (by omega)]
theorem Ar2(s:List UInt8)(a:Int)(h:Dx s a<s.length):Ak s a=P7 s[Dx s a] (s.drop (Dx s a+1)) (Dx s a):=by
 unfold Ak;rw [Dt s _ h]
section
variable (s:List UInt8) (hs:s.length≤1000000000)
include hs
theorem A7k(Q:QQ)(X:Part)(hq:Q (Aom X) []):∀(m a:Nat) (out:List UInt8) (d:Nat),s.length<a+m→a≤s.length→out.length≤a→1≤d→d≤a+1→Oi m (s.drop a) out d a=X→Xh s a out d (Lh Q):=by
 have bad:∀e:Int,X=([],0,e)→Lh Q .ret ⟨[(4, .imm (.str [])),(5, .imm (.int .i64 0)),(6, .imm (.int .i64 e))],[]⟩:=by
  intro e hx
  apply Afw
  rw [hx]at hq;exact hq
 intro m
 induction m with
 |zero=>intro a out d hm ha;omega
 |succ m ih=>
  intro a out d hm ha ho hd1 hd2 hX
  by_cases h:a<s.length
  case neg=>
   rw [List.drop_eq_nil_of_le (by omega)]at hX
   refine Afv _ _ _ _ _ (Bz (fun h=>by omega) fun _=> ?_)
   apply Asd
   refine Aps _ ?_
   apply Aqe
   rw [←hX]at hq;exact hq
  have hdr:=Dt s a h
  have he:=Aog (s.drop a)
  rw [List.length_drop]at he
  rw [hdr,Oi, ←hdr]at hX
  have push:∀(t:List UInt8) (d' b:Nat),a<b→b≤s.length→t.length≤1→1≤d'→d'≤b+1→(X=if 65535<out.length+t.length then([],0,8)else Oi m (s.drop b) (out++t) d' b)→Ih s out d' t b (H7 (Lh Q)):=by
   intro t d' b hab hbs ht h1 h2 hx
   have hl:(out++t).length=out.length+t.length:=by simp
   refine Adw _ _ _ _ _ _ (Bz (fun h=>by omega) fun _=>⟨by omega,Bz (fun h=> ?_) fun h=> ?_⟩)
   ·rw [hl]at h
    rw [if_pos (by omega)]at hx
    apply Aez
    exact bad 8 hx
   ·rw [hl]at h
    rw [if_neg (by omega)]at hx
    apply Ars
    exact ih b (out++t) d' (by omega) hbs (by omega) h1 h2 hx.symm
  have push1:∀(c:UInt8) (d' b:Nat),a<b→b≤s.length→1≤d'→d'≤b+1→(X=if 65535≤out.length then([],0,8)else Oi m (s.drop b) (out++[c]) d' b)→Ih s out d' [c] b (H7 (Lh Q)):=by
   intro c d' b h1 h2 h3 h4 hx
   refine push [c] d' b h1 h2 (by simp) h3 h4 ?_
   by_cases h5:65535≤out.length
   ·rw [hx,if_pos h5,if_pos (by simp;omega)]
   ·rw [hx,if_neg h5,if_neg (by simp;omega)]
  refine Afv _ _ _ _ _ (Bz (fun _=> ?_) fun h=>by omega)
  rw [Hg s a h,Hq a (by omega),Int.toNat_natCast,Int.toNat_natCast,A26 s a h]
  refine⟨⟨by omega,by omega,by omega⟩,Let.intro (Call.use (Aum s (by omega) a) ⟨⟨rfl,rfl⟩, ?_⟩)⟩
  rw [Ee]
  refine Dj (p:=0<Nr (s.drop a)) (by rw [Bg];omega) (fun h1=> ?_) fun h1=> ?_
  ·rw [if_pos h1,List.drop_drop]at hX
   rw [wrA a _ (by omega)]
   exact push1 10 d _ (by omega) (by omega) hd1 (by omega) hX.symm
  rw [if_neg h1]at hX
  refine⟨⟨by omega,by omega⟩,Bz (fun h92=> ?_) fun h92=> ?_⟩
  ·rw [if_pos (by omega)]at hX
   by_cases h2:a+1<s.length
   ·rcases hesc:X3 (s.drop (a+1))with _ |⟨t,k⟩
    ·rw [Dt s (a+1) h2,X3]at hesc
     split at hesc
     ·cases hesc
     ·split at hesc<;>cases hesc
    ·rw [hesc]at hX
     have hk:=A03 hesc
     rw [List.length_drop]at hk
     refine Call.use (Bam s hs (a+1) h2 t k hesc) ⟨⟨rfl,rfl⟩, ?_⟩
     rw [show rI (rT (Ai1 t (a+1+k:Nat)) 1)=((a+1+k:Nat):Int) from rfl,show rS (rT (Ai1 t (a+1+k:Nat)) 0)=t from rfl]
     simp only [List.drop_drop]at hX
     exact Bz (fun h=>by omega) fun _=>push t d (a+1+k) (by omega) (by omega) hk.2.2 hd1 (by omega) hX.symm
   ·rw [List.drop_eq_nil_of_le (show s.length≤a+1 by omega),X3]at hX
    refine Call.use (A1s s hs (a+1) h2) ⟨⟨rfl,rfl⟩, ?_⟩
    rw [show rI (rT (Ai1 [] (-1)) 1)= -1 from rfl]
    refine Bz (fun _=> ?_) fun h=>absurd (by decide) h
    exact bad 5 hX.symm
  rw [if_neg (by omega)]at hX
  refine⟨⟨by omega,by omega⟩,Bz (fun h40=> ?_) fun h40=>⟨⟨by omega,by omega⟩, ?_⟩⟩
  ·rw [if_neg (by omega),if_pos (show s[a].toNat=40 by omega)]at hX
   rw [Hq d (by omega)]
   exact push1 s[a] (d+1) (a+1) (by omega) (by omega) (by omega) (by omega) (by rw [←hX];simp)
  rw [if_neg (show ¬s[a].toNat=40 by omega)]at hX
  refine Bz (fun h41=> ?_) fun h41=> ?_
  ·rw [if_pos (show s[a].toNat=41 by omega)]at hX
   rw [Be ((d:Int) - 1) (by omega) (by omega)]
   by_cases h1:d=1
   ·subst h1
    rw [if_pos ⟨by omega,by simp⟩]at hX
    refine Adw _ _ _ _ _ _ (Bz (fun _=> ?_) fun h=>by omega)
    apply Aez
    apply Afw
    rw [←hX]at hq;exact hq
   ·rw [if_neg (fun h=>h1 (by have:=h.2;omega))]at hX
    rw [show(d:Int) - 1=((d - 1:Nat):Int)by omega]at hX ⊢
    exact push1 s[a] (d - 1) (a+1) (by omega) (by omega) (by omega) (by omega) hX.symm
  ·rw [if_neg (by omega),if_neg (show ¬s[a].toNat=41 by omega)]at hX
   exact push1 s[a] d (a+1) (by omega) (by omega) hd1 (by omega) hX.symm
theorem A8g(a:Nat)(ha:a≤s.length):Call E0.P Ae2 [.imm (.str s), .imm (.int .i64 (a:Int))] [] (Is (Aom (Oi ((s.drop a).length+1) (s.drop a) [] 1 a)) []):=
 Av7 _ _ _ (A7k s hs _ _ ⟨rfl,rfl⟩ _ a [] 1 (by rw [List.length_drop];omega) ha (by simp) (by omega) (by omega) rfl)
theorem Bck(Q:QQ)(X:Part)(hq:Q (Aom X) []):∀(m a:Nat) (out:List UInt8) (half:Int),s.length≤a+m→a≤s.length→out.length≤a→out.length≤65535→ -1≤half→half≤15→Rx (s.drop a) half out a=X→Wd s a half (Bb out) (O1 Q):=by
 have off:∀(a:Nat) (out:List UInt8) (half:Int),¬a<s.length→Rx (s.drop a) half out a=X→Wd s a half (Bb out) (O1 Q):=by
  intro a out half h hX
  rw [List.drop_eq_nil_of_le (by omega)]at hX
  refine Ajw _ _ _ _ _ (Bz (fun h=>by omega) fun _=> ?_)
  apply Awk
  refine Aup _ ?_
  apply Aw3
  rw [←hX]at hq;exact hq
 intro m
 induction m with
 |zero=>intro a out half hm ha ho hmx h0 h1 hX;exact off a out half (by omega) hX
 |succ m ih=>
  intro a out half hm ha ho hmx h0 h1 hX
  by_cases h:a<s.length
  case neg=>exact off a out half h hX
  have hd:=Abw s[a]
  have hb:=bl1 out
  rw [Dt s a h,Rx]at hX
  refine Ajw _ _ _ _ _ (Bz (fun _=>⟨⟨by omega,by omega⟩, ?_⟩) fun h=>by omega)
  rw [Hg s a h,Hq a (by omega)]
  refine Call.use (Aca _) ⟨⟨rfl,rfl⟩,Let.intro ?_⟩
  rw [Ee]
  have nxt:∀(half':Int) (o:List UInt8),s[a].toNat≠62→o.length≤a+1→o.length≤65535→ -1≤half'→half'≤15→Rx (s.drop (a+1)) half' o (a+1)=X→Sn s (a+1:Nat) half' (s[a].toNat:Int) (Bb o) (Rn (Rw (O1 Q))):=by
   intro half' o hne hol hol2 q0 q1 hx
   refine Zf _ _ _ _ _ _ (Bz (fun h'=>by rw [bl1]at h';omega) fun _=>Bz (fun h'=>by omega) fun _=> ?_)
   apply Awz
   apply Awp
   exact ih (a+1) o half' (by omega) (by omega) hol hol2 q0 q1 hx
  refine Dj (p:=s[a].toNat=62∧half<0) (by rw [Ph];omega) (fun h62=>⟨Aes _, ?_⟩) fun hn=>Bz (fun h62=> ?_) fun h62=> ?_
  ·rw [if_pos h62.1,if_pos h62.2]at hX
   apply Pi
   rw [Ao0]
   rw [←hX]at hq;exact hq
  ·have hh:¬half<0:=fun h'=>hn ⟨by omega,h'⟩
   rw [if_pos (by omega),if_neg hh]at hX
   refine Ahl _ _ _ _ _ _ _ (Let.intro (Dj (Ph _ _) (fun h'=>absurd h'.2 hh) fun _=>Bz (fun _=>⟨⟨by omega,by omega⟩, ?_⟩) fun h'=>absurd (Int.le_refl 0) h'))
   rw [A7g half 0 (by omega) h1 (by omega) (by omega),Int.add_zero,Amz]
   have hl:(out++[Vb (16*half)]).length=out.length+1:=by simp
   refine Zf _ _ _ _ _ _ (Bz (fun h'=> ?_) fun h'=>Bz (fun _=>⟨Aes _, ?_⟩) fun h'=>absurd h62 h')
   ·rw [bl1,hl]at h'
    rw [if_pos (by omega)]at hX
    apply Aal
    apply Aj3
    apply Pi
    rw [←hX]at hq;exact hq
   ·rw [bl1,hl]at h'
    rw [if_neg (by omega)]at hX
    apply Aal
    apply Aj3
    apply Pi
    rw [Ao0]
    rw [←hX]at hq;exact hq
  ·rw [if_neg (by omega)]at hX
   have step:¬(Ce s[a]<0∧kd s[a]≠0)→Yn s (a+1:Nat) half (s[a].toNat:Int) (Ce s[a]) false (Bb out) (V6 (O1 Q)):=by
    intro hk
    refine Ahm _ _ _ _ _ _ _ _ (brF ?_)
    apply Avj
    refine Ahl _ _ _ _ _ _ _ (Let.intro (Dj (Ph _ _) (fun h'=> ?_) fun h'=>Bz (fun hv=>⟨⟨by omega,by omega⟩, ?_⟩) fun hv=> ?_))
    ·rw [if_neg (by omega),if_pos h'.2]at hX
     exact nxt _ _ (by omega) (by omega) hmx (by omega) hd.2 hX
    ·rw [if_neg (by omega),if_neg (fun h2=>h' ⟨hv,h2⟩)]at hX
     rw [A7g _ _ (by omega) h1 (by omega) hd.2,Amz]
     by_cases hf:65535≤out.length
     ·rw [if_pos hf]at hX
      refine Zf _ _ _ _ _ _ (Bz (fun _=> ?_) fun h'=>absurd (by rw [bl1];simp;omega) h')
      apply Aal
      apply Pi
      rw [←hX]at hq;exact hq
     ·rw [if_neg hf]at hX
      exact nxt _ _ (by omega) (by simp;omega) (by simp;omega) (by omega) (by omega) hX
    ·rw [if_pos (by omega),if_pos (Classical.not_not.1 fun h2=>hk ⟨by omega,h2⟩)]at hX
     exact nxt _ _ (by omega) (by omega) hmx h0 h1 hX
   refine brE Bg (fun hv=>Call.use (Aux _) ⟨⟨rfl,rfl⟩,Let.intro ?_⟩) fun hv=>⟨rfl,Let.intro (step fun h'=>hv h'.1)⟩
   rw [Ee]
   by_cases hk:kd s[a]=0
   ·rw [decide_eq_true hk];exact step fun h'=>h'.2 hk
   ·rw [decide_eq_false hk]
    rw [if_pos hv,if_neg hk]at hX
    refine Ahm _ _ _ _ _ _ _ _ (brT ?_)
    apply Aws
    apply Pi
    rw [←hX]at hq;exact hq
theorem Bcp(a:Nat)(ha:a≤s.length):Call E0.P Akz [.imm (.str s), .imm (.int .i64 (a:Int))] [] (Is (Aom (Rx (s.drop a) (-1) [] a)) []):=
 A0w _ _ _ (Bck s hs _ _ ⟨rfl,rfl⟩ s.length a [] (-1) (by omega) ha (by simp) (by simp) (by omega) (by omega) rfl)
omit hs in
theorem Avu(k:Int)(p:Nat)(x:Part):Call E0.P Vu [.imm (.int .i64 k), .imm (.int .i64 p), .imm (.str x.1), .imm (.int .i64 x.2.1), .imm (.int .i64 x.2.2)] [] (Is (nxA (partT k p x)) []):=by
 refine Axv _ _ _ _ _ _ (Ot Bg (fun h=> ?_) fun h=> ?_)
 ·unfold partT;rw [if_neg h];exact⟨rfl,rfl⟩
 ·unfold partT;rw [if_pos h];exact⟨rfl,rfl⟩
theorem Bbo(a:Nat)(ha:a≤s.length):Call E0.P Aie [.imm (.str s), .imm (.int .i64 (a:Int))] [] (Is (nxA (Lr (s.drop a) a)) []):=by
 have hw:=Aao 2 (s.drop a)
 rw [List.length_drop]at hw
 refine Ax6 _ _ _ (Call.use (A4k 2 s (by omega) a (by omega)) ⟨⟨rfl,rfl⟩, ?_⟩)
 rw [Ee,wrA a _ (by omega),Int.toNat_natCast,Int.toNat_natCast,Afi]
 refine⟨⟨by omega,by omega,by omega⟩,Let.intro ?_⟩
 have hl:((s.drop a).take (Ci 2 (s.drop a))).length=Ci 2 (s.drop a):=by rw [List.length_take,List.length_drop];omega
 refine Call.use (A2s _ (by omega)) ⟨⟨rfl,rfl⟩, ?_⟩
 rw [show rI (rT (isP (I4 ((s.drop a).take (Ci 2 (s.drop a))))) 0)=(I4 ((s.drop a).take (Ci 2 (s.drop a)))).1 from rfl,show rI (rT (isP (I4 ((s.drop a).take (Ci 2 (s.drop a))))) 1)=(I4 ((s.drop a).take (Ci 2 (s.drop a)))).2 from rfl]
 unfold Lr
 refine Bz (fun e=> ?_) fun e=>Bz (fun e2=> ?_) fun e2=>Bz (fun e3=> ?_) fun e3=> ?_
 ·rw [if_pos e];exact⟨rfl,rfl⟩
 ·rw [if_neg e,if_pos e2];exact⟨rfl,rfl⟩
 ·rw [if_neg e,if_neg e2,if_pos (by omega)];exact⟨rfl,rfl⟩
 ·rw [if_neg e,if_neg e2,if_neg (by omega)];exact⟨rfl,rfl⟩
omit hs in
theorem Bbg(p:Nat)(h:p<s.length):List.drop p (List.take (if((p+2:Nat):Int)<(s.length:Int)then((p+2:Nat):Int)else(s.length:Int)).toNat s)=(s.drop p).take 2:=by
 split
 ·rw [Int.toNat_natCast,Afi]
 ·rw [Int.toNat_natCast,List.take_length,List.take_of_length_le]
  rw [List.length_drop];omega
theorem Yb(a:Int):Call E0.P Me [.imm (.str s), .imm (.int .i64 a)] [] (Is (nxA (Ak s a)) []):=by
 have hs9:s.length≤1000000000:=by omega
 have hp:=Aq6 s a
 refine Ayh _ _ _ (Call.use (A47 s hs9 a) ⟨⟨rfl,rfl⟩, ?_⟩)
 rw [Ee]
 refine Bz (fun e=> ?_) fun e=> ?_
 ·rw [Aqp s a (by omega)];exact⟨rfl,rfl⟩
 have h:Dx s a<s.length:=by omega
 have h37:s[Dx s a].toNat≠37:=by
  refine An5 false (s.drop (Ke s a)) _ (s.drop (Dx s a+1)) ?_
  rw [List.drop_drop]
  exact Dt s _ h
 rw [Ar2 s a h]
 generalize Dx s a=p at h h37 hp
 rw [wr2 p (by omega),Hq p (by omega),Int.toNat_natCast,Bbg s p h,show s.getD p 0=s[p] from by simp [List.getD_eq_getElem?_getD,h]]
 have bp:(0:Int)≤(p:Int)∧(p:Int)<(s.length:Int):=⟨by omega,by omega⟩
 refine⟨⟨by omega,by split<;>omega,by split<;>omega⟩,Let.intro ⟨bp, ?_⟩⟩
 unfold P7
 have c60:((s.drop p).take 2 == [60,60])=true↔s[p].toNat=60∧(s.drop (p+1)).head?=some 60:=by rw [Az8 s p h,show(60:UInt8)=UInt8.ofNat 60 from rfl,Aw1 (by omega)]
 have c62:((s.drop p).take 2 == [62,62])=true↔s[p].toNat=62∧(s.drop (p+1)).head?=some 62:=by rw [Az8 s p h,show(62:UInt8)=UInt8.ofNat 62 from rfl,Aw1 (by omega)]
 refine Bz (fun e=> ?_) fun e1=>⟨bp,Bz (fun e=> ?_) fun e2=>Dj c60 (fun e=> ?_) fun e3=>Dj c62 (fun e=> ?_) fun e4=>⟨bp,Bz (fun e=> ?_) fun e5=>⟨bp,Bz (fun e=> ?_) fun e6=>⟨bp,Bz (fun e=> ?_) fun e7=>⟨bp, ?_⟩⟩⟩⟩⟩
 ·rw [if_pos (by omega)];exact⟨rfl,rfl⟩
 ·rw [if_neg (by omega),if_pos (by omega)];exact⟨rfl,rfl⟩
 ·rw [if_neg (by omega),if_neg (by omega),if_neg (by omega),if_neg (by omega),if_pos e.1,if_pos e.2];exact⟨rfl,rfl⟩
 ·rw [if_neg (by omega),if_neg (by omega),if_neg (by omega),if_neg (by omega),if_neg (by omega),if_pos e.1,if_pos e.2];exact⟨rfl,rfl⟩
 ·rw [if_neg (by omega),if_neg (by omega),if_pos (by omega)]
  exact Call.use (Bbc s hs (p+1)) ⟨⟨rfl,rfl⟩,Call.use (Avu 2 p _) ⟨⟨rfl,rfl⟩,⟨rfl,rfl⟩⟩⟩
 ·rw [if_neg (by omega),if_neg (by omega),if_neg (by omega),if_pos (by omega)]
  exact Call.use (A8g s hs (p+1) (by omega)) ⟨⟨rfl,rfl⟩,Call.use (Avu 3 p _) ⟨⟨rfl,rfl⟩,⟨rfl,rfl⟩⟩⟩
 ·rw [if_neg (by omega),if_neg (by omega),if_neg (by omega),if_neg (by omega),if_pos (by omega),if_neg (fun h'=>e3 ⟨by omega,h'⟩)]
  exact Call.use (Bcp s hs (p+1) (by omega)) ⟨⟨rfl,rfl⟩,Call.use (Avu 3 p _) ⟨⟨rfl,rfl⟩,⟨rfl,rfl⟩⟩⟩
 ·rw [if_neg (by omega),if_neg (by omega),if_neg (by omega),if_neg (by omega),if_neg (by omega)]
  refine Call.use (Aux _) ⟨⟨rfl,rfl⟩, ?_⟩
  rw [Ee]
  refine Bz (fun e=> ?_) fun e=> ?_
  ·by_cases h62:s[p].toNat=62
   ·rw [if_pos h62,if_neg (fun h'=>e4 ⟨h62,h'⟩)];exact⟨rfl,rfl⟩
   ·rw [if_neg h62,if_pos e];exact⟨rfl,rfl⟩
  ·have h62:¬s[p].toNat=62:=by
    intro h62
    refine e ?_
    unfold kd R6
    rw [if_neg (by omega),if_pos (by omega)]
   rw [if_neg h62,if_neg e, ←Dt s p h]
   exact Call.use (Bbo s hs p (by omega)) ⟨⟨rfl,rfl⟩,⟨rfl,rfl⟩⟩
end
end Go.Proofs.Sim.Se

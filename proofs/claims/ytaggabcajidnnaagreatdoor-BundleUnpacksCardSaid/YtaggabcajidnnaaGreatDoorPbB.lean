import Derived.Test.YtaggabcajidnnaaGreatDoorPbA
import Derived.Test.YtaggabcajidnnaaGreatDoorVsC
set_option maxRecDepth 100000
namespace Go.Proofs.Sim.Se
open Go Go.Proofs Go.Proofs.Sim Go.Proofs.Sim.Va Go.RowKit Go.Proofs.Sim.Pa
abbrev Btj:AV:= .imm (.agg [.int .i64 0, .int .i64 0, .int .i64 0, .str [], .sl .any 6 [], .sl .any 7 []])
abbrev rrA(x:V × Nat × Int):AV:= .tup [.imm (.agg x.1.row), .imm (.int .i64 x.2.1), .imm (.int .i64 x.2.2)]
abbrev By4(r:AV):AV:= .tup [.imm (.agg [.int .i64 (gI (Ac (rT r 0)) 0), .int .i64 (gI (Ac (rT r 0)) 1), .int .i64 (gI (Ac (rT r 0)) 2), .str (gS (Ac (rT r 0)) 3), .sl .any 6 (gR (Ac (rT r 0)) 4), .sl .any 7 (gR (Ac (rT r 0)) 5)]), .imm (.int .i64 (rI (rT r 1))), .imm (.int .i64 (rI (rT r 2)))]
theorem Oq(x:V × Nat × Int):By4 (rrA x)=rrA x:=by
 show AV.tup [.imm (.agg [.int .i64 (gI x.1.row 0), .int .i64 (gI x.1.row 1), .int .i64 (gI x.1.row 2), .str (gS x.1.row 3), .sl .any 6 (gR x.1.row 4), .sl .any 7 (gR x.1.row 5)]), .imm (.int .i64 x.2.1), .imm (.int .i64 x.2.2)]=_
 rw [Oc]
theorem Al0 {c:Nat} {k n g:Int} {t:List UInt8} {l:List V} {d:List Pr} {L D:LL} (hl:l.map V.row=L)(hd:d.map Bc=D):AV.tup [.imm (.agg [.int .i64 k, .int .i64 n, .int .i64 g, .str t, .sl .any 6 L, .sl .any 7 D]), .imm (.int .i64 c), .imm (.int .i64 0)]=rrA (.mk k n g t l d,c,0):=by
 subst hl;subst hd
 unfold rrA;rw [Ata]
theorem Nv(e:Int):AV.tup [Btj, .imm (.int .i64 0), .imm (.int .i64 e)]=rrA (Kt e):=by
 unfold Kt rrA;rw [Ata];rfl
theorem Az1(k:Int)(p:Nat)(x:Part)(h:(partT k p x).e=0):(partT k p x).k=k:=by
 unfold partT at h ⊢
 split
 ·rfl
 ·rename_i h0;rw [if_neg h0]at h;exact absurd h h0
theorem Bqq(l:List UInt8)(p:Nat)(h:(Ng l p).e=0):(Ng l p).k=1∨(Ng l p).k=8:=by
 unfold Ng at h ⊢
 split
 ·exact .inl rfl
 ·rename_i h1
  rw [if_neg h1]at h
  split
  ·rename_i h2;rw [if_pos h2]at h;cases h
  ·rename_i h2
   rw [if_neg h2]at h
   split
   ·rename_i h3;rw [if_pos h3]at h;cases h
   ·exact .inr rfl
theorem kin(k:Int)(h:0≤k∧k≤8):0≤k∧k≤8:=h
theorem Bzt {b:Bool} {A B:Prop} (hb:b=false)(h:B):Br b A B:=by subst hb;exact brF h
theorem Bte(c:UInt8)(r:List UInt8)(p:Nat)(h:(Qk c r p).e=0):0≤(Qk c r p).k∧(Qk c r p).k≤8:=by
 unfold Qk at h ⊢
 by_cases h1:c.toNat=91
 ·rw [if_pos h1];exact kin 4 (by decide)
 rw [if_neg h1]at h ⊢
 by_cases h2:c.toNat=93
 ·rw [if_pos h2];exact kin 5 (by decide)
 rw [if_neg h2]at h ⊢
 by_cases h3:c.toNat=47
 ·rw [if_pos h3]at h ⊢; rw [Az1 _ _ _ h];exact⟨by decide,by decide⟩
 rw [if_neg h3]at h ⊢
 by_cases h4:c.toNat=40
 ·rw [if_pos h4]at h ⊢; rw [Az1 _ _ _ h];exact⟨by decide,by decide⟩
 rw [if_neg h4]at h ⊢
 by_cases h5:c.toNat=60
 ·rw [if_pos h5]at h ⊢
  split
  ·exact kin 6 (by decide)
  ·rename_i h6;rw [if_neg h6]at h;rw [Az1 _ _ _ h];exact⟨by decide,by decide⟩
 rw [if_neg h5]at h ⊢
 by_cases h6:c.toNat=62
 ·rw [if_pos h6]at h ⊢
  split
  ·exact kin 7 (by decide)
  ·exact kin 0 (by decide)
 rw [if_neg h6]at h ⊢
 by_cases h7:kd c=1
 ·rw [if_pos h7];exact kin 0 (by decide)
 rw [if_neg h7]at h ⊢
 rcases Bqq _ _ h with e |e<;>rw [e]<;>exact⟨by decide,by decide⟩
theorem Bpv(s:List UInt8)(a:Int)(h:(Aj s a).e=0):0≤(Aj s a).k∧(Aj s a).k≤8:=by
 by_cases hp:Dp s a<s.length
 ·rw [A5j s a hp]at h ⊢; exact Bte _ _ _ h
 ·rw [A5h s a hp];exact kin 0 (by decide)
section
variable (s:List UInt8) (hs:s.length≤1000000000)
include hs
theorem Bl4(t:Tk)(h:Zq s t.b=none):Call E0.P Ah1 [.imm (.str s), .imm (.agg t.row)] [] (Is (.tup [Btj, .imm (.int .i64 0), .imm (.bool false)]) []):=by
 refine Av6 _ _ _ _ _ _ _ (Call.use (Zf s hs t.b) ⟨⟨rfl,rfl⟩,Let.intro ?_⟩)
 unfold Zq at h
 have e1:(bif !decide (rI (rT (nxA (Aj s t.b)) 1)=0)then true else !decide (gI (Ac (rT (nxA (Aj s t.b)) 0)) 0=1))= !decide ((Aj s t.b).e=0∧(Aj s t.b).k=1):=by
  show(bif !decide ((Aj s t.b).e=0)then true else !decide ((Aj s t.b).k=1))=_
  by_cases h1:(Aj s t.b).e=0<;>by_cases h2:(Aj s t.b).k=1<;>simp [h1,h2]
 rw [e1]
 refine Ki Bb (fun _=>⟨rfl,rfl⟩) fun h1=> ?_
 rw [if_pos h1]at h
 refine Call.use (Zf s hs ((Aj s t.b).b:Nat)) ⟨⟨rfl,rfl⟩,Let.intro (Let.intro ?_)⟩
 refine⟨fun _=>⟨rfl,rfl⟩,fun hf=> ?_⟩
 exfalso
 have hf:(bif (bif !decide ((Aj s (Aj s t.b).b).e=0)then true else !decide ((Aj s (Aj s t.b).b).k=8))then true else !((Aj s (Aj s t.b).b).s == [82]))=false:=hf
 by_cases h3:(Aj s (Aj s t.b).b).e=0<;>by_cases h4:(Aj s (Aj s t.b).b).k=8<;>by_cases h5:(Aj s (Aj s t.b).b).s=[82]
 ·rw [if_pos ⟨h3,h4,h5⟩]at h;cases h
 all_goals simp [h3,h4,h5]at hf
theorem Bjl(t:Tk)(g:Int)(c:Nat)(h:Zq s t.b=some (g,c)):Call E0.P Ah1 [.imm (.str s), .imm (.agg t.row)] [] (Is (.tup [.imm (.agg [.int .i64 7, .int .i64 t.n, .int .i64 g, .str [], .sl .any 6 [], .sl .any 7 []]), .imm (.int .i64 c), .imm (.bool true)]) []):=by
 refine Av6 _ _ _ _ _ _ _ (Call.use (Zf s hs t.b) ⟨⟨rfl,rfl⟩,Let.intro ?_⟩)
 unfold Zq at h
 have e1:(bif !decide (rI (rT (nxA (Aj s t.b)) 1)=0)then true else !decide (gI (Ac (rT (nxA (Aj s t.b)) 0)) 0=1))= !decide ((Aj s t.b).e=0∧(Aj s t.b).k=1):=by
  show(bif !decide ((Aj s t.b).e=0)then true else !decide ((Aj s t.b).k=1))=_
  by_cases h1:(Aj s t.b).e=0<;>by_cases h2:(Aj s t.b).k=1<;>simp [h1,h2]
 rw [e1]
 split at h
 case isFalse=>cases h
 rename_i h1
 refine Ki Bb (fun h'=>absurd h1 h') fun _=> ?_
 refine Call.use (Zf s hs ((Aj s t.b).b:Nat)) ⟨⟨rfl,rfl⟩,Let.intro (Let.intro ?_)⟩
 split at h
 case isFalse=>cases h
 rename_i h2
 injection h with h;injection h with h3 h4
 subst h3;subst h4
 have hf:(bif (bif !decide ((Aj s (Aj s t.b).b).e=0)then true else !decide ((Aj s (Aj s t.b).b).k=8))then true else !((Aj s (Aj s t.b).b).s == [82]))=false:=by
  rw [decide_eq_true h2.1,decide_eq_true h2.2.1,h2.2.2];rfl
 exact Bzt hf ⟨rfl,rfl⟩
theorem Bof(t:Tk):Call E0.P Akb [.imm (.str s), .imm (.agg t.row)] [] (Is (rrA (numL s t.n t.b)) []):=by
 unfold numL
 rcases hl:Zq s t.b with _ |⟨g,c⟩
 ·refine Apt _ _ _ _ _ _ _ (Call.use (Bl4 s hs t hl) ⟨⟨rfl,rfl⟩,Azu rfl ⟨Al0 rfl rfl,rfl⟩⟩)
 ·refine Apt _ _ _ _ _ _ _ (Call.use (Bjl s hs t g c hl) ⟨⟨rfl,rfl⟩,Azv rfl (Let.intro (Let.intro (Let.intro ?_)))⟩)
  refine Cg (p:=t.n<1∨8388607<t.n∨g<0∨65535<g) ?_ (fun h=> ?_) fun h=> ?_
  ·show(bif (bif (bif decide (t.n<1)then true else decide (8388607<t.n))then true else decide (g<0))then true else decide (65535<g))=true↔_
   rw [Ao0,Ao0,A5z];omega
  ·simp only [if_pos h];exact⟨Nv 3,rfl⟩
  ·simp only [if_neg h];exact⟨Al0 rfl rfl,rfl⟩
omit hs in
theorem Bxz(t:Tk):Call E0.P Arh [.imm (.agg t.row)] [] (Is (rrA (Ah9 t.s t.b)) []):=by
 unfold Ah9
 refine Bd3 _ _ _ _ _ _ (Cg (p:=t.s=[116,114,117,101]) (by simp) (fun h=> ?_) fun h1=>Cg (p:=t.s=[102,97,108,115,101]) (by simp) (fun h=> ?_) fun h2=>Cg (p:=t.s=[110,117,108,108]) (by simp) (fun h=> ?_) fun h3=> ?_)
 ·rw [if_pos h];exact⟨Al0 rfl rfl,rfl⟩
 ·rw [if_neg h1,if_pos h];exact⟨Al0 rfl rfl,rfl⟩
 ·rw [if_neg h1,if_neg h2,if_pos h];exact⟨Al0 rfl rfl,rfl⟩
 ·rw [if_neg h1,if_neg h2,if_neg h3];exact⟨Nv 4,rfl⟩
abbrev Bf1(s:List UInt8)(m:Nat):Prop:=∀(w:Nat) (a:Int),w≤64→s.length<Lp s a+m→Call E0.P Abf [.imm (.str s), .imm (.int .i64 a), .imm (.int .i64 w)] [] (Is (rrA (Ea s m w (Lp s a))) [])
theorem Bun(m:Nat)(ih:Bf1 s m)(w:Nat)(hw:w≤64)(Q:QQ)(X:V × Nat × Int)(hQ:Q (rrA X) []):∀(f a:Nat) (acc:List V),a≤s.length→s.length<a+m→s.length<a+f→acc.length≤a→Vi s (Ea s m w) f a acc=X→
 X9 s a w 0 0 0 [] (acc.map V.row) [] [] (Ad5 Q):=by
 intro f
 induction f with
 |zero=>intro a acc ha h1 h2;omega
 |succ f ihf=>
  intro a acc ha h1 h2 hl hX
  have hp:=Zy s a ha
  rw [Vi]at hX
  refine A75 _ _ _ _ _ _ _ _ _ _ _ (Call.use (Zf s hs a) ⟨⟨rfl,rfl⟩, ?_⟩)
  refine Ki (p:=(Aj s a).e=0) Bb (fun he=> ?_) fun he=>Cg (p:=(Aj s a).k=5) Bb (fun h5=> ?_) fun h5=> ?_
  ·rw [if_pos he]at hX
   apply Apy
   rw [←hX, ←Nv]at hQ;exact hQ
  ·rw [if_neg (fun h=>h he),if_pos h5]at hX
   apply A7x
   rw [←hX, ←Al0 rfl rfl]at hQ;exact hQ
  ·rw [if_neg (fun h=>h he),if_neg h5]at hX
   have hc:=ih w a hw (by rw [hp];omega)
   rw [hp]at hc
   have fin:=Yo s m w a ha
   generalize Ea s m w a=x at hc fin hX
   refine Call.use hc ⟨⟨rfl,(Oq x).symm⟩,Ki (p:=x.2.2=0) Bb (fun h0=> ?_) fun h0=> ?_⟩
   ·rw [if_pos h0]at hX
    apply Apy
    rw [←hX, ←Nv]at hQ;exact hQ
   ·rw [if_neg (fun h=>h h0)]at hX
    have f1:=fin h0
    refine⟨⟨by rw [List.length_map];omega,by rw [List.length_map];omega⟩, ?_⟩
    have e4:(acc.map V.row++[[IV.int .i64 (gI x.1.row 0), .int .i64 (gI x.1.row 1), .int .i64 (gI x.1.row 2), .str (gS x.1.row 3), .sl .any 6 (gR x.1.row 4), .sl .any 7 (gR x.1.row 5)]])=(acc++[x.1]).map V.row:=by rw [Oc];simp
    show X9 s x.2.1 w 0 0 0 [] (acc.map V.row++[[IV.int .i64 (gI x.1.row 0), .int .i64 (gI x.1.row 1), .int .i64 (gI x.1.row 2), .str (gS x.1.row 3), .sl .any 6 (gR x.1.row 4), .sl .any 7 (gR x.1.row 5)]]) [] [] _
    rw [e4]
    exact ihf x.2.1 (acc++[x.1]) f1.2 (by omega) (by omega) (by simp;omega) hX
theorem Bu6(m:Nat)(ih:Bf1 s m)(w:Nat)(hw:w≤64)(a:Nat)(ha:a≤s.length)(h1:s.length<a+m):Call E0.P Arf [.imm (.str s), .imm (.int .i64 a), .imm (.int .i64 w)] [] (Is (rrA (Vi s (Ea s m w) (s.length+1) a [])) []):=
 Bd1 _ _ _ _ (Bun s hs m ih w hw _ _ ⟨rfl,rfl⟩ (s.length+1) a [] ha h1 (by omega) (by simp) rfl)
omit hs in
theorem Bv1(acc:List Pr)(i:Nat)(h:i<acc.length):gS (List.take 1 (List.drop 0 ((acc.map Bc).getD i []))) 0=acc[i].1:=by
 have:(acc.map Bc).getD i []=Bc acc[i]:=by simp [List.getD_eq_getElem?_getD,h]
 rw [this,Em];rfl
omit hs in
theorem Byt(acc:List Pr)(i:Nat)(h:i<acc.length):Be [.str] (List.take 1 (List.drop 0 ((acc.map Bc).getD i [])))=true:=by
 have:(acc.map Bc).getD i []=Bc acc[i]:=by simp [List.getD_eq_getElem?_getD,h]
 rw [this,Em];rfl
omit hs in
theorem Bum(w:Nat)(t:Tk)(acc:List Pr)(hl:acc.length≤1000000000)(K:KK)(hyes:acc.any (fun p=>p.1 == t.s)=true→K .ret ⟨[(6, .ptr (Nm.loc 6) 0),(7, .imm (.int .i64 0)),(8, .imm (.int .i64 11))],[(Nm.loc 6, .blk Aa [.imm (.int .i64 0), .imm (.int .i64 0), .imm (.int .i64 0), .imm (.str []), .own ((Nm.loc 6).cell 4), .own ((Nm.loc 6).cell 5)]),((Nm.loc 6).cell 4, .arr (Aa+2) true 6 []),((Nm.loc 6).cell 5, .arr (Ae+2) true 7 [])]⟩)
 (hno:¬acc.any (fun p=>p.1 == t.s)=true→Ai8 s w 0 0 0 [] (acc.map Bc) t.k t.n t.s t.a t.b [] [] (Su K)):∀(m i:Nat),m+i=acc.length→¬(acc.take i).any (fun p=>p.1 == t.s)=true→Ab0 s w i 0 0 0 [] (acc.map Bc) t.k t.n t.s t.a t.b [] [] (Ad4 K):=by
 intro m
 induction m with
 |zero=>
  intro i hi ha
  refine An5 _ _ _ _ _ _ _ _ _ _ _ _ _ _ _ _ (Bh (fun h=>by rw [List.length_map]at h;omega) fun _=> ?_)
  rw [List.take_of_length_le (by omega)]at ha
  apply A7w
  exact hno ha
 |succ m ih=>
  intro i hi ha
  have hlt:i<acc.length:=by omega
  refine An5 _ _ _ _ _ _ _ _ _ _ _ _ _ _ _ _ (Bh (fun _=>⟨⟨by omega,by rw [List.length_map];omega⟩, ?_⟩) fun h=>by rw [List.length_map]at h;omega)
  rw [Int.toNat_natCast,Bv1 acc i hlt]
  refine⟨⟨by rw [List.length_map];omega,Byt acc i hlt⟩,Cg (p:=acc[i].1=t.s) (by simp) (fun e=> ?_) fun e=> ?_⟩
  ·apply A7v
   refine hyes ?_
   rw [List.any_eq_true]
   exact⟨acc[i],List.getElem_mem hlt,by simp [e]⟩
  ·rw [Gj i (by omega)]
   refine ih (i+1) (by omega) ?_
   rw [List.take_succ_eq_append_getElem hlt,List.any_append]
   simp only [Bool.or_eq_true,not_or]
   exact⟨ha,by simp [e]⟩
theorem Bul(m:Nat)(ih:Bf1 s m)(w:Nat)(hw:w≤64)(Q:QQ)(X:V × Nat × Int)(hQ:Q (rrA X) []):∀(f a:Nat) (acc:List Pr),a≤s.length→s.length<a+m→s.length<a+f→acc.length≤a→U1 s (Ea s m w) f a acc=X→
 X8 s a w 0 0 0 [] (acc.map Bc) [] [] (X0 Q):=by
 intro f
 induction f with
 |zero=>intro a acc ha h1 h2;omega
 |succ f ihf=>
  intro a acc ha h1 h2 hl hX
  have hp:=Zy s a ha
  rw [U1]at hX
  refine A74 _ _ _ _ _ _ _ _ _ _ _ (Call.use (Zf s hs a) ⟨⟨rfl,rfl⟩, ?_⟩)
  refine Ki (p:=(Aj s a).e=0) Bb (fun he=> ?_) fun he=>Cg (p:=(Aj s a).k=7) Bb (fun h7=> ?_) fun h7=>Cg (p:=(Aj s a).k=0) Bb (fun h0=> ?_) fun h0=>Ki (p:=(Aj s a).k=2) Bb (fun h2'=> ?_) fun h2'=> ?_
  ·rw [if_pos he]at hX
   apply Qz
   rw [←hX, ←Nv]at hQ;exact hQ
  ·rw [if_neg (fun h=>h he),if_pos h7]at hX
   apply A7s
   rw [←hX, ←Al0 rfl rfl]at hQ;exact hQ
  ·rw [if_neg (fun h=>h he),if_neg h7,if_pos h0]at hX
   apply Qz
   rw [←hX, ←Nv]at hQ;exact hQ
  ·rw [if_neg (fun h=>h he),if_neg h7,if_neg h0,if_pos h2']at hX
   apply Qz
   rw [←hX, ←Nv]at hQ;exact hQ
  ·rw [if_neg (fun h=>h he),if_neg h7,if_neg h0,if_neg (fun h=>h h2')]at hX
   refine Bum s w (Aj s a) acc (by omega) (X0 Q) (fun hy=> ?_) (fun hn=> ?_) acc.length 0 (by omega) (by simp)
   ·rw [if_pos hy]at hX
    apply Qz
    rw [←hX, ←Nv]at hQ;exact hQ
   ·rw [if_neg hn]at hX
    have f0:=Oi s a ha he
    have f01:=f0.2.2 h0
    have hp2:=Zy s (Aj s a).b f0.2.1
    have hc:=ih w ((Aj s a).b:Nat) hw (by rw [hp2];omega)
    rw [hp2]at hc
    have fin:=Yo s m w (Aj s a).b f0.2.1
    generalize Ea s m w (Aj s a).b=x at hc fin hX
    refine A25 _ _ _ _ _ _ _ _ _ _ _ _ _ _ _ (Call.use hc ⟨⟨rfl,(Oq x).symm⟩,Ki (p:=x.2.2=0) Bb (fun h0=> ?_) fun h0=> ?_⟩)
    ·rw [if_pos h0]at hX
     apply A7t
     apply Qz
     rw [←hX, ←Nv]at hQ;exact hQ
    ·rw [if_neg (fun h=>h h0)]at hX
     have f1:=fin h0
     refine⟨⟨by rw [List.length_map];omega,by rw [List.length_map];omega⟩, ?_⟩
     apply A7u
     have e4:(acc.map Bc++[[IV.str (Aj s a).s, .int .i64 (gI x.1.row 0), .int .i64 (gI x.1.row 1), .int .i64 (gI x.1.row 2), .str (gS x.1.row 3), .sl .any 6 (gR x.1.row 4), .sl .any 7 (gR x.1.row 5)]])=(acc++[((Aj s a).s,x.1)]).map Bc:=by
      rw [Oc];simp [Bc]
     show X8 s x.2.1 w 0 0 0 [] (acc.map Bc++[[IV.str (Aj s a).s, .int .i64 (gI x.1.row 0), .int .i64 (gI x.1.row 1), .int .i64 (gI x.1.row 2), .str (gS x.1.row 3), .sl .any 6 (gR x.1.row 4), .sl .any 7 (gR x.1.row 5)]]) [] [] _
     rw [e4]
     exact ihf x.2.1 (acc++[((Aj s a).s,x.1)]) f1.2 (by omega) (by omega) (by simp;omega) hX
theorem Bu5(m:Nat)(ih:Bf1 s m)(w:Nat)(hw:w≤64)(a:Nat)(ha:a≤s.length)(h1:s.length<a+m):Call E0.P Ard [.imm (.str s), .imm (.int .i64 a), .imm (.int .i64 w)] [] (Is (rrA (U1 s (Ea s m w) (s.length+1) a [])) []):=
 Bd0 _ _ _ _ (Bul s hs m ih w hw _ _ ⟨rfl,rfl⟩ (s.length+1) a [] ha h1 (by omega) (by simp) rfl)
theorem Bu8:∀m:Nat,Bf1 s m:=by
 intro m
 induction m with
 |zero=>intro w a hw h;have:=Yn s a;omega
 |succ m ih=>
  intro w a hw h
  refine Bd2 _ _ _ _ (Call.use (Zf s hs a) ⟨⟨rfl,rfl⟩, ?_⟩)
  rw [Ea,Au1]
  refine Ki (p:=(Aj s a).e=0) Bb (fun he=> ?_) fun he=> ?_
  ·rw [if_pos he];exact⟨Nv _,rfl⟩
  rw [if_neg (fun h=>h he)]
  have f0:=A5i s a he
  have hkind:=Bpv s a he
  refine Cg (p:=(Aj s a).k=0) Bb (fun h1=> ?_) fun h0=> ?_
  ·rw [if_pos h1];exact⟨Nv _,rfl⟩
  rw [if_neg h0]
  have f01:=f0.2.2 h0
  refine Cg (p:=(Aj s a).k=1) Bb (fun h1=> ?_) fun h1=> ?_
  ·rw [if_pos h1]
   exact Call.use (Bof s hs (Aj s a)) ⟨⟨rfl,(Oq _).symm⟩,⟨Oq _,rfl⟩⟩
  rw [if_neg h1]
  refine Cg (p:=(Aj s a).k=2) Bb (fun h2=> ?_) fun h2=> ?_
  ·rw [if_pos h2];exact⟨Al0 rfl rfl,rfl⟩
  rw [if_neg h2]
  refine Cg (p:=(Aj s a).k=3) Bb (fun h3=> ?_) fun h3=> ?_
  ·rw [if_pos h3];exact⟨Al0 rfl rfl,rfl⟩
  rw [if_neg h3]
  refine Cg (p:=(Aj s a).k=8) Bb (fun h8=> ?_) fun h8=> ?_
  ·rw [if_pos h8]
   exact Call.use (Bxz (Aj s a)) ⟨⟨rfl,(Oq _).symm⟩,⟨Oq _,rfl⟩⟩
  rw [if_neg h8]
  have one:∀b:Bool,(b=true↔((Aj s a).k=5∨(Aj s a).k=7))→Abn s w b 0 0 0 [] (Aj s a).k (Aj s a).n (Aj s a).s (Aj s a).a (Aj s a).b [] [] (X3 (Is (rrA (if(Aj s a).k=4 then(if 64≤w then Kt 9 else Vi s (Ea s m (w+1)) (s.length+1) (Aj s a).b [])else if(Aj s a).k=6 then(if 64≤w then Kt 9 else U1 s (Ea s m (w+1)) (s.length+1) (Aj s a).b [])else Kt 4)) [])):=by
   intro b hb
   refine A26 _ _ _ _ _ _ _ _ _ _ _ _ _ _ _ (Cg hb (fun hk=> ?_) fun hk=> ?_)
   ·rw [if_neg (by omega),if_neg (by omega)]
    apply A7z
    exact⟨Nv 4,rfl⟩
   ·apply A70
    refine A27 _ _ _ _ _ _ _ _ _ _ _ _ _ _ (Cg (p:=64≤w) (by rw [Bb];omega) (fun h64=> ?_) fun h64=> ?_)
    ·apply A7y
     by_cases h4:(Aj s a).k=4
     ·rw [if_pos h4,if_pos h64];exact⟨Nv 9,rfl⟩
     ·rw [if_neg h4,if_pos (by omega),if_pos h64];exact⟨Nv 9,rfl⟩
    ·rw [Gj w (by omega)]
     refine Bh (fun h4=> ?_) fun h4=> ?_
     ·rw [if_pos h4,if_neg h64]
      refine Call.use (Bu6 s hs m ih (w+1) (by omega) (Aj s a).b f0.2.1 (by omega)) ⟨⟨rfl,(Oq _).symm⟩, ?_⟩
      apply Apz
      exact⟨Oq _,rfl⟩
     ·rw [if_neg h4,if_pos (by omega),if_neg h64]
      refine Call.use (Bu5 s hs m ih (w+1) (by omega) (Aj s a).b f0.2.1 (by omega)) ⟨⟨rfl,(Oq _).symm⟩, ?_⟩
      apply Apz
      exact⟨Oq _,rfl⟩
  refine Cg (p:=(Aj s a).k=5) Bb (fun h5=>one _ ?_) fun h5=>one _ ?_
  ·show decide ((Aj s a).k=5)=true↔_
   rw [Bb];omega
  ·show decide ((Aj s a).k=7)=true↔_
   rw [Bb];omega
end
end Go.Proofs.Sim.Se
set_option maxRecDepth 100000
namespace Go.Proofs.Sim.Se
open Go Go.Proofs Go.Proofs.Sim Go.Proofs.Sim.Va Go.RowKit Go.Proofs.Sim.Pa
def A47(l:List V):Nat:=(l.map Ck).sum
def Aum(d:List Pr):Nat:=(d.map fun p=>Ck p.2).sum
theorem Ir(k n g:Int)(t:List UInt8):Ck (.mk k n g t [] [])=1:=by rw [Rb];rfl
theorem Bsk(s:List UInt8)(rd:Nat→V × Nat × Int)(hf:∀a,a≤s.length→Aue s a (rd a))(hrd:∀a,a≤s.length→(rd a).2.2=0→a+Ck (rd a).1≤(rd a).2.1):∀(m a:Nat) (acc:List V),a≤s.length→(Vi s rd m a acc).2.2=0→a+Ck (Vi s rd m a acc).1≤(Vi s rd m a acc).2.1+A47 acc:=by
 intro m
 induction m with
 |zero=>intro a acc ha h;cases h
 |succ m ih=>
  intro a acc ha h
  rw [Vi]at h ⊢
  split at h
  ·rename_i h1;exact absurd h h1
  rename_i h1
  rw [if_neg h1]
  have f:=Oi s a ha (Classical.not_not.1 h1)
  split at h
  ·rename_i h2
   rw [if_pos h2]
   have:=f.2.2 (by rw [h2];decide)
   rw [Rb]
   show a+(1+A47 acc+0)≤(Aj s a).b+A47 acc
   omega
  ·rename_i h2
   rw [if_neg h2]
   split at h
   ·rename_i h3;exact absurd h h3
   ·rename_i h3
    rw [if_neg h3]
    have hr:=hrd a ha (Classical.not_not.1 h3)
    have hb:=hf a ha (Classical.not_not.1 h3)
    have:=ih _ _ hb.2 h
    have e:A47 (acc++[(rd a).1])=A47 acc+Ck (rd a).1:=by unfold A47;simp
    omega
theorem Brr(s:List UInt8)(rd:Nat→V × Nat × Int)(hf:∀a,a≤s.length→Aue s a (rd a))(hrd:∀a,a≤s.length→(rd a).2.2=0→a+Ck (rd a).1≤(rd a).2.1):∀(m a:Nat) (acc:List Pr),a≤s.length→(U1 s rd m a acc).2.2=0→a+Ck (U1 s rd m a acc).1≤(U1 s rd m a acc).2.1+Aum acc:=by
 intro m
 induction m with
 |zero=>intro a acc ha h;cases h
 |succ m ih=>
  intro a acc ha h
  rw [U1]at h ⊢
  split at h
  ·rename_i h1;exact absurd h h1
  rename_i h1
  rw [if_neg h1]
  have f:=Oi s a ha (Classical.not_not.1 h1)
  split at h
  ·rename_i h2
   rw [if_pos h2]
   have:=f.2.2 (by rw [h2];decide)
   rw [Rb]
   show a+(1+0+Aum acc)≤(Aj s a).b+Aum acc
   omega
  rename_i h2
  rw [if_neg h2]
  split at h
  ·cases h
  rename_i h3
  rw [if_neg h3]
  split at h
  ·cases h
  rename_i h4
  rw [if_neg h4]
  split at h
  ·cases h
  rename_i h5
  rw [if_neg h5]
  split at h
  ·rename_i h6;exact absurd h h6
  ·rename_i h6
   rw [if_neg h6]
   have hr:=hrd _ f.2.1 (Classical.not_not.1 h6)
   have hb:=hf _ f.2.1 (Classical.not_not.1 h6)
   have:=ih _ _ hb.2 h
   have e:Aum (acc++[((Aj s a).s,(rd (Aj s a).b).1)])=Aum acc+Ck (rd (Aj s a).b).1:=by unfold Aum;simp
   omega
theorem Bwa(s:List UInt8)(n:Int)(b:Nat)(h:(numL s n b).2.2=0):Ck (numL s n b).1=1:=by
 unfold numL at h ⊢
 split
 ·exact Ir _ _ _ _
 ·rename_i g c hl
  rw [hl]at h
  simp only at h
  split
  ·rename_i h1;rw [if_pos h1]at h;cases h
  ·exact Ir _ _ _ _
theorem Bqp(w:List UInt8)(b:Nat):Ck (Ah9 w b).1=1:=by
 unfold Ah9
 split
 ·exact Ir _ _ _ _
 ·split
  ·exact Ir _ _ _ _
  ·split
   ·exact Ir _ _ _ _
   ·exact Ir _ _ _ _
theorem Bs1(s:List UInt8):∀(m w a:Nat),a≤s.length→(Ea s m w a).2.2=0→a+Ck (Ea s m w a).1≤(Ea s m w a).2.1:=by
 intro m
 induction m with
 |zero=>intro w a ha h;cases h
 |succ m ih=>
  intro w a ha h
  have hfin:=Yo s (m+1) w a ha h
  rw [Ea]at h hfin ⊢
  split at h
  ·rename_i h1;exact absurd h h1
  rename_i h1
  rw [if_neg h1]at hfin ⊢
  have f:=Oi s a ha (Classical.not_not.1 h1)
  split at h
  ·cases h
  rename_i h2
  rw [if_neg h2]at hfin ⊢
  split at h
  ·rename_i h3
   rw [if_pos h3]at hfin ⊢
   rw [Bwa _ _ _ h];omega
  rename_i h3
  rw [if_neg h3]at hfin ⊢
  split at h
  ·rename_i h4;rw [if_pos h4]at hfin ⊢; rw [Ir];omega
  rename_i h4
  rw [if_neg h4]at hfin ⊢
  split at h
  ·rename_i h5;rw [if_pos h5]at hfin ⊢; rw [Ir];omega
  rename_i h5
  rw [if_neg h5]at hfin ⊢
  split at h
  ·rename_i h6
   rw [if_pos h6]at hfin ⊢; rw [Bqp];omega
  rename_i h6
  rw [if_neg h6]at hfin ⊢
  split at h
  ·rename_i h7
   rw [if_pos h7]at hfin ⊢
   split at h
   ·cases h
   ·rename_i h8
    rw [if_neg h8]at hfin ⊢
    have:=Bsk s (Ea s m (w+1)) (fun a ha=>Yo s m (w+1) a ha) (fun a ha=>ih (w+1) a ha) _ _ [] f.2.1 h
    have e:A47 []=0:=rfl
    omega
  rename_i h7
  rw [if_neg h7]at hfin ⊢
  split at h
  ·rename_i h8
   rw [if_pos h8]at hfin ⊢
   split at h
   ·cases h
   ·rename_i h9
    rw [if_neg h9]at hfin ⊢
    have:=Brr s (Ea s m (w+1)) (fun a ha=>Yo s m (w+1) a ha) (fun a ha=>ih (w+1) a ha) _ _ [] f.2.1 h
    have e:Aum []=0:=rfl
    omega
  ·cases h
theorem Bz0(k n g:Int)(t:List UInt8)(l:List V)(d:List Pr):(mkP k n g t l d).l=[]∨(mkP k n g t l d).l=l:=by
 unfold mkP
 split
 ·exact .inl rfl
 ·split
  ·exact .inl rfl
  ·split
   ·exact .inr rfl
   ·split
    ·exact .inl rfl
    ·split
     ·exact .inl rfl
     ·split
      ·exact .inl rfl
      ·exact .inl rfl
theorem Bo8 {v:V} (h:Fit v):Fit v.plain:=by
 induction h with
 |mk v h1 h2 _ _ ih1 ih2=>
  have hd:=Avh v
  have hl:v.plain.l=[]∨v.plain.l=v.l.map V.plain:=by rw [Ao2];exact Bz0 _ _ _ _ _ _
  refine .mk _ ?_ (by omega) (fun x hx=> ?_) (fun p hp=> ?_)
  ·rcases hl with e |e<;>rw [e]
   ·simp
   ·rw [List.length_map];exact h1
  ·rcases hl with e |e
   ·rw [e]at hx;cases hx
   ·rw [e]at hx
    obtain⟨y,hy,rfl⟩:=List.mem_map.1 hx
    exact ih1 y hy
  ·rcases A0s v with e |e
   ·rw [e]at hp;cases hp
   ·rw [e]at hp
    have hp:=A6c (List.mem_filter.1 hp).1
    obtain⟨q,hq,rfl⟩:=List.mem_map.1 hp
    exact ih2 q hq
def Afx(s:List UInt8)(a:Int):V × Nat × Int:=
 if(Ea s (s.length+1) 0 (Lp s a)).2.2≠0 then Kt (Ea s (s.length+1) 0 (Lp s a)).2.2 else((Ea s (s.length+1) 0 (Lp s a)).1.plain,(Ea s (s.length+1) 0 (Lp s a)).2.1,0)
def Ql(s:List UInt8):V × Int:=
 if(Afx s 0).2.2≠0 then(zero,(Afx s 0).2.2)else if(Aj s (Afx s 0).2.1).e≠0 then(zero,(Aj s (Afx s 0).2.1).e)else if(Aj s (Afx s 0).2.1).k≠0 then(zero,4)else((Afx s 0).1,0)
abbrev whA(x:V × Int):AV:= .tup [.imm (.agg x.1.row), .imm (.int .i64 x.2)]
theorem Af0(e:Int):AV.tup [Btj, .imm (.int .i64 e)]=whA (zero,e):=by
 unfold whA zero;rw [Ata];rfl
section
variable (s:List UInt8) (hs:s.length≤1000000000)
include hs
theorem A52(m w a:Nat)(ha:a≤s.length)(h:(Ea s m w a).2.2=0):Fit (Ea s m w a).1:=by
 have h1:=Bs1 s m w a ha h
 have h2:=Yo s m w a ha h
 exact Ag0 1000000000 (by decide) _ _ (Nat.le_refl _) (by omega)
theorem Bw0(a:Int):Fit (Afx s a).1:=by
 unfold Afx
 split
 ·exact Ag0 1 (by decide) _ _ (Nat.le_refl _) (by unfold Kt;rw [Ir];exact Nat.le_refl _)
 ·rename_i h
  exact Bo8 (A52 s hs _ _ _ (Yn s a) (Classical.not_not.1 h))
theorem Bw1:Fit (Ql s).1:=by
 have z:Fit zero:=Ag0 1 (by decide) _ _ (Nat.le_refl _) (by unfold zero;rw [Ir];exact Nat.le_refl _)
 unfold Ql
 split
 ·exact z
 ·split
  ·exact z
  ·split
   ·exact z
   ·exact Bw0 s hs 0
theorem Bq3(a:Int):Call E0.P Ag3 [.imm (.str s), .imm (.int .i64 a)] [] (Is (rrA (Afx s a)) []):=by
 refine A3i _ _ _ ((Bvc s hs (s.length+1) 0 a (by omega) (by have:=Yn s a;omega)).mono fun r g hx=> ?_)
 have hfit:=A52 s hs (s.length+1) 0 _ (Yn s a)
 unfold Afx
 generalize Ea s (s.length+1) 0 (Lp s a)=x at hx hfit
 obtain⟨c,g1,g2,g3⟩:=hx
 subst g1;subst g2
 refine⟨⟨rfl,(Qt x).symm⟩,Ki (p:=x.2.2=0) Bb (fun h=> ?_) fun h=> ?_⟩
 ·rw [if_pos h];exact⟨Nv _,rfl⟩
 ·rw [if_neg (fun h'=>h' h)]
  have hp:=Bav x.1 (hfit h)
  show Call E0.P Gq [.imm (.agg [.int .i64 (gI x.1.row 0), .int .i64 (gI x.1.row 1), .int .i64 (gI x.1.row 2), .str (gS x.1.row 3), .sl .any 6 (gR x.1.row 4), .sl .any 7 (gR x.1.row 5)])] [] _
  rw [Oc]
  have fm:AV.imm (.agg [.int .i64 (gI x.1.plain.row 0), .int .i64 (gI x.1.plain.row 1), .int .i64 (gI x.1.plain.row 2), .str (gS x.1.plain.row 3), .sl .any 6 (gR x.1.plain.row 4), .sl .any 7 (gR x.1.plain.row 5)])= .imm (.agg x.1.plain.row):=by rw [Oc]
  refine Call.use hp ⟨⟨rfl,fm.symm⟩, ?_⟩
  refine⟨?_,rfl⟩
  show AV.tup [.imm (.agg [.int .i64 (gI x.1.plain.row 0), .int .i64 (gI x.1.plain.row 1), .int .i64 (gI x.1.plain.row 2), .str (gS x.1.plain.row 3), .sl .any 6 (gR x.1.plain.row 4), .sl .any 7 (gR x.1.plain.row 5)]), .imm (.int .i64 c), .imm (.int .i64 0)]=_
  rw [Oc,g3 h]
theorem Bq5(a:Int):Call E0.P Aok [.imm (.str s), .imm (.int .i64 a)] [] (Is (rrA (Afx s a)) []):=by
 have hfit:=A52 s hs (s.length+1) 0 _ (Yn s a)
 have hc:=Bu8 s hs (s.length+1) 0 a (by omega) (by have:=Yn s a;omega)
 unfold Afx
 generalize Ea s (s.length+1) 0 (Lp s a)=x at hc hfit
 refine A9z _ _ _ (Call.use hc ⟨⟨rfl,(Oq x).symm⟩,Ki (p:=x.2.2=0) Bb (fun h=> ?_) fun h=> ?_⟩)
 ·rw [if_pos h];exact⟨Nv _,rfl⟩
 ·rw [if_neg (fun h'=>h' h)]
  have hp:=Bf3 x.1 (hfit h)
  show Call E0.P Jt [.imm (.agg [.int .i64 (gI x.1.row 0), .int .i64 (gI x.1.row 1), .int .i64 (gI x.1.row 2), .str (gS x.1.row 3), .sl .any 6 (gR x.1.row 4), .sl .any 7 (gR x.1.row 5)])] [] _
  rw [Oc]
  have fm:AV.imm (.agg [.int .i64 (gI x.1.plain.row 0), .int .i64 (gI x.1.plain.row 1), .int .i64 (gI x.1.plain.row 2), .str (gS x.1.plain.row 3), .sl .any 6 (gR x.1.plain.row 4), .sl .any 7 (gR x.1.plain.row 5)])= .imm (.agg x.1.plain.row):=by rw [Oc]
  refine Call.use hp ⟨⟨rfl,fm.symm⟩, ?_⟩
  refine⟨?_,rfl⟩
  show AV.tup [.imm (.agg [.int .i64 (gI x.1.plain.row 0), .int .i64 (gI x.1.plain.row 1), .int .i64 (gI x.1.plain.row 2), .str (gS x.1.plain.row 3), .sl .any 6 (gR x.1.plain.row 4), .sl .any 7 (gR x.1.plain.row 5)]), .imm (.int .i64 x.2.1), .imm (.int .i64 0)]=_
  rw [Oc]
theorem Bq4:Call E0.P Ag4 [.imm (.str s)] [] (Is (whA (Ql s)) []):=by
 have hc:=Bq3 s hs 0
 unfold Ql
 generalize Afx s 0=x at hc
 refine A3j _ _ (Call.use hc ⟨⟨rfl,(Oq x).symm⟩,Ki (p:=x.2.2=0) Bb (fun h=> ?_) fun h=> ?_⟩)
 ·rw [if_pos h];exact⟨Af0 _,rfl⟩
 ·rw [if_neg (fun h'=>h' h)]
  refine Call.use (A76 s hs x.2.1) ⟨⟨rfl,rfl⟩,Ki (p:=(Aj s x.2.1).e=0) Bb (fun h1=> ?_) fun h1=>Ki (p:=(Aj s x.2.1).k=0) Bb (fun h2=> ?_) fun h2=> ?_⟩
  ·rw [if_pos h1];exact⟨Af0 _,rfl⟩
  ·rw [if_neg (fun h'=>h' h1),if_pos h2];exact⟨Af0 _,rfl⟩
  ·rw [if_neg (fun h'=>h' h1),if_neg (fun h'=>h' h2)]
   refine⟨?_,rfl⟩
   show AV.tup [.imm (.agg [.int .i64 (gI x.1.row 0), .int .i64 (gI x.1.row 1), .int .i64 (gI x.1.row 2), .str (gS x.1.row 3), .sl .any 6 (gR x.1.row 4), .sl .any 7 (gR x.1.row 5)]), .imm (.int .i64 0)]=_
   rw [Oc]
theorem Bq6:Call E0.P Aol [.imm (.str s)] [] (Is (whA (Ql s)) []):=by
 have hc:=Bq5 s hs 0
 unfold Ql
 generalize Afx s 0=x at hc
 refine A90 _ _ (Call.use hc ⟨⟨rfl,(Oq x).symm⟩,Ki (p:=x.2.2=0) Bb (fun h=> ?_) fun h=> ?_⟩)
 ·rw [if_pos h];exact⟨Af0 _,rfl⟩
 ·rw [if_neg (fun h'=>h' h)]
  refine Call.use (Zf s hs x.2.1) ⟨⟨rfl,rfl⟩,Ki (p:=(Aj s x.2.1).e=0) Bb (fun h1=> ?_) fun h1=>Ki (p:=(Aj s x.2.1).k=0) Bb (fun h2=> ?_) fun h2=> ?_⟩
  ·rw [if_pos h1];exact⟨Af0 _,rfl⟩
  ·rw [if_neg (fun h'=>h' h1),if_pos h2];exact⟨Af0 _,rfl⟩
  ·rw [if_neg (fun h'=>h' h1),if_neg (fun h'=>h' h2)]
   refine⟨?_,rfl⟩
   show AV.tup [.imm (.agg [.int .i64 (gI x.1.row 0), .int .i64 (gI x.1.row 1), .int .i64 (gI x.1.row 2), .str (gS x.1.row 3), .sl .any 6 (gR x.1.row 4), .sl .any 7 (gR x.1.row 5)]), .imm (.int .i64 0)]=_
   rw [Oc]
end
end Go.Proofs.Sim.Se

import Derived.Test.YtcdjheflchglaaaPbA
import Derived.Test.YtcdjheflchglaaaVsC
set_option maxRecDepth 100000
namespace Go.Proofs.Sim.Se
open Go Go.Proofs Go.Proofs.Sim Go.Proofs.Sim.Va Go.RowKit Go.Proofs.Sim.Pa
abbrev A8u:AV:= .imm (.agg [.int .i64 0, .int .i64 0, .int .i64 0, .str [], .sl .any 6 [], .sl .any 7 []])
abbrev rrA(x:V × Nat × Int):AV:= .tup [.imm (.agg x.1.row), .imm (.int .i64 x.2.1), .imm (.int .i64 x.2.2)]
abbrev Bcq(r:AV):AV:= .tup [.imm (.agg [.int .i64 (gI (Ad (rT r 0)) 0), .int .i64 (gI (Ad (rT r 0)) 1), .int .i64 (gI (Ad (rT r 0)) 2), .str (gS (Ad (rT r 0)) 3), .sl .any 6 (gR (Ad (rT r 0)) 4), .sl .any 7 (gR (Ad (rT r 0)) 5)]), .imm (.int .i64 (rI (rT r 1))), .imm (.int .i64 (rI (rT r 2)))]
theorem Kt(x:V × Nat × Int):Bcq (rrA x)=rrA x:=by
 show AV.tup [.imm (.agg [.int .i64 (gI x.1.row 0), .int .i64 (gI x.1.row 1), .int .i64 (gI x.1.row 2), .str (gS x.1.row 3), .sl .any 6 (gR x.1.row 4), .sl .any 7 (gR x.1.row 5)]), .imm (.int .i64 x.2.1), .imm (.int .i64 x.2.2)]=_
 rw [Oh]
theorem Adz {c:Nat} {k n g:Int} {t:List UInt8} {l:List V} {d:List Pr} {L D:LL} (hl:l.map V.row=L)(hd:d.map Cm=D):AV.tup [.imm (.agg [.int .i64 k, .int .i64 n, .int .i64 g, .str t, .sl .any 6 L, .sl .any 7 D]), .imm (.int .i64 c), .imm (.int .i64 0)]=rrA (.mk k n g t l d,c,0):=by
 subst hl;subst hd
 unfold rrA;rw [Af2]
theorem Lm(e:Int):AV.tup [A8u, .imm (.int .i64 0), .imm (.int .i64 e)]=rrA (Jp e):=by
 unfold Jp rrA;rw [Af2];rfl
theorem Aof(k:Int)(p:Nat)(x:Part)(h:(partT k p x).e=0):(partT k p x).k=k:=by
 unfold partT at h ⊢
 split
 ·rfl
 ·rename_i h0;rw [if_neg h0]at h;exact absurd h h0
theorem A6z(l:List UInt8)(p:Nat)(h:(Lr l p).e=0):(Lr l p).k=1∨(Lr l p).k=8:=by
 unfold Lr at h ⊢
 split
 ·exact .inl rfl
 ·rename_i h1
  rw [if_neg h1]at h
  split
  ·rename_i h2;rw [if_pos h2]at h;cases h
  ·rename_i h2
   rw [if_neg h2]at h
   split
   ·rename_i h3;rw [if_pos h3]at h;cases h
   ·exact .inr rfl
theorem kin(k:Int)(h:0≤k∧k≤8):0≤k∧k≤8:=h
theorem Bef {b:Bool} {A B:Prop} (hb:b=false)(h:B):Br b A B:=by subst hb;exact brF h
theorem A78(c:UInt8)(r:List UInt8)(p:Nat)(h:(P7 c r p).e=0):0≤(P7 c r p).k∧(P7 c r p).k≤8:=by
 unfold P7 at h ⊢
 by_cases h1:c.toNat=91
 ·rw [if_pos h1];exact kin 4 (by decide)
 rw [if_neg h1]at h ⊢
 by_cases h2:c.toNat=93
 ·rw [if_pos h2];exact kin 5 (by decide)
 rw [if_neg h2]at h ⊢
 by_cases h3:c.toNat=47
 ·rw [if_pos h3]at h ⊢; rw [Aof _ _ _ h];exact⟨by decide,by decide⟩
 rw [if_neg h3]at h ⊢
 by_cases h4:c.toNat=40
 ·rw [if_pos h4]at h ⊢; rw [Aof _ _ _ h];exact⟨by decide,by decide⟩
 rw [if_neg h4]at h ⊢
 by_cases h5:c.toNat=60
 ·rw [if_pos h5]at h ⊢
  split
  ·exact kin 6 (by decide)
  ·rename_i h6;rw [if_neg h6]at h;rw [Aof _ _ _ h];exact⟨by decide,by decide⟩
 rw [if_neg h5]at h ⊢
 by_cases h6:c.toNat=62
 ·rw [if_pos h6]at h ⊢
  split
  ·exact kin 7 (by decide)
  ·exact kin 0 (by decide)
 rw [if_neg h6]at h ⊢
 by_cases h7:kd c=1
 ·rw [if_pos h7];exact kin 0 (by decide)
 rw [if_neg h7]at h ⊢
 rcases A6z _ _ h with e |e<;>rw [e]<;>exact⟨by decide,by decide⟩
theorem A50(s:List UInt8)(a:Int)(h:(Ak s a).e=0):0≤(Ak s a).k∧(Ak s a).k≤8:=by
 by_cases hp:Dx s a<s.length
 ·rw [Ar2 s a hp]at h ⊢; exact A78 _ _ _ h
 ·rw [Aqp s a hp];exact kin 0 (by decide)
section
variable (s:List UInt8) (hs:s.length≤1000000000)
include hs
theorem A3t(t:Tk)(h:Ur s t.b=none):Call E0.P Abj [.imm (.str s), .imm (.agg t.row)] [] (Is (.tup [A8u, .imm (.int .i64 0), .imm (.bool false)]) []):=by
 refine Alw _ _ _ _ _ _ _ (Call.use (Yb s hs t.b) ⟨⟨rfl,rfl⟩,Let.intro ?_⟩)
 unfold Ur at h
 have e1:(bif !decide (rI (rT (nxA (Ak s t.b)) 1)=0)then true else !decide (gI (Ad (rT (nxA (Ak s t.b)) 0)) 0=1))= !decide ((Ak s t.b).e=0∧(Ak s t.b).k=1):=by
  show(bif !decide ((Ak s t.b).e=0)then true else !decide ((Ak s t.b).k=1))=_
  by_cases h1:(Ak s t.b).e=0<;>by_cases h2:(Ak s t.b).k=1<;>simp [h1,h2]
 rw [e1]
 refine Ot Bg (fun _=>⟨rfl,rfl⟩) fun h1=> ?_
 rw [if_pos h1]at h
 refine Call.use (Yb s hs ((Ak s t.b).b:Nat)) ⟨⟨rfl,rfl⟩,Let.intro (Let.intro ?_)⟩
 refine⟨fun _=>⟨rfl,rfl⟩,fun hf=> ?_⟩
 exfalso
 have hf:(bif (bif !decide ((Ak s (Ak s t.b).b).e=0)then true else !decide ((Ak s (Ak s t.b).b).k=8))then true else !((Ak s (Ak s t.b).b).s == [82]))=false:=hf
 by_cases h3:(Ak s (Ak s t.b).b).e=0<;>by_cases h4:(Ak s (Ak s t.b).b).k=8<;>by_cases h5:(Ak s (Ak s t.b).b).s=[82]
 ·rw [if_pos ⟨h3,h4,h5⟩]at h;cases h
 all_goals simp [h3,h4,h5]at hf
theorem A19(t:Tk)(g:Int)(c:Nat)(h:Ur s t.b=some (g,c)):Call E0.P Abj [.imm (.str s), .imm (.agg t.row)] [] (Is (.tup [.imm (.agg [.int .i64 7, .int .i64 t.n, .int .i64 g, .str [], .sl .any 6 [], .sl .any 7 []]), .imm (.int .i64 c), .imm (.bool true)]) []):=by
 refine Alw _ _ _ _ _ _ _ (Call.use (Yb s hs t.b) ⟨⟨rfl,rfl⟩,Let.intro ?_⟩)
 unfold Ur at h
 have e1:(bif !decide (rI (rT (nxA (Ak s t.b)) 1)=0)then true else !decide (gI (Ad (rT (nxA (Ak s t.b)) 0)) 0=1))= !decide ((Ak s t.b).e=0∧(Ak s t.b).k=1):=by
  show(bif !decide ((Ak s t.b).e=0)then true else !decide ((Ak s t.b).k=1))=_
  by_cases h1:(Ak s t.b).e=0<;>by_cases h2:(Ak s t.b).k=1<;>simp [h1,h2]
 rw [e1]
 split at h
 case isFalse=>cases h
 rename_i h1
 refine Ot Bg (fun h'=>absurd h1 h') fun _=> ?_
 refine Call.use (Yb s hs ((Ak s t.b).b:Nat)) ⟨⟨rfl,rfl⟩,Let.intro (Let.intro ?_)⟩
 split at h
 case isFalse=>cases h
 rename_i h2
 injection h with h;injection h with h3 h4
 subst h3;subst h4
 have hf:(bif (bif !decide ((Ak s (Ak s t.b).b).e=0)then true else !decide ((Ak s (Ak s t.b).b).k=8))then true else !((Ak s (Ak s t.b).b).s == [82]))=false:=by
  rw [decide_eq_true h2.1,decide_eq_true h2.2.1,h2.2.2];rfl
 exact Bef hf ⟨rfl,rfl⟩
theorem A66(t:Tk):Call E0.P Aco [.imm (.str s), .imm (.agg t.row)] [] (Is (rrA (numL s t.n t.b)) []):=by
 unfold numL
 rcases hl:Ur s t.b with _ |⟨g,c⟩
 ·refine Ahh _ _ _ _ _ _ _ (Call.use (A3t s hs t hl) ⟨⟨rfl,rfl⟩,Anl rfl ⟨Adz rfl rfl,rfl⟩⟩)
 ·refine Ahh _ _ _ _ _ _ _ (Call.use (A19 s hs t g c hl) ⟨⟨rfl,rfl⟩,Am8 rfl (Let.intro (Let.intro (Let.intro ?_)))⟩)
  refine Dj (p:=t.n<1∨8388607<t.n∨g<0∨65535<g) ?_ (fun h=> ?_) fun h=> ?_
  ·show(bif (bif (bif decide (t.n<1)then true else decide (8388607<t.n))then true else decide (g<0))then true else decide (65535<g))=true↔_
   rw [Ar1,Ar1,Ar7];omega
  ·simp only [if_pos h];exact⟨Lm 3,rfl⟩
  ·simp only [if_neg h];exact⟨Adz rfl rfl,rfl⟩
omit hs in
theorem Bcw(t:Tk):Call E0.P Aih [.imm (.agg t.row)] [] (Is (rrA (Abp t.s t.b)) []):=by
 unfold Abp
 refine Axw _ _ _ _ _ _ (Dj (p:=t.s=[116,114,117,101]) (by simp) (fun h=> ?_) fun h1=>Dj (p:=t.s=[102,97,108,115,101]) (by simp) (fun h=> ?_) fun h2=>Dj (p:=t.s=[110,117,108,108]) (by simp) (fun h=> ?_) fun h3=> ?_)
 ·rw [if_pos h];exact⟨Adz rfl rfl,rfl⟩
 ·rw [if_neg h1,if_pos h];exact⟨Adz rfl rfl,rfl⟩
 ·rw [if_neg h1,if_neg h2,if_pos h];exact⟨Adz rfl rfl,rfl⟩
 ·rw [if_neg h1,if_neg h2,if_neg h3];exact⟨Lm 4,rfl⟩
abbrev Az5(s:List UInt8)(m:Nat):Prop:=∀(w:Nat) (a:Int),w≤64→s.length<Ke s a+m→Call E0.P V3 [.imm (.str s), .imm (.int .i64 a), .imm (.int .i64 w)] [] (Is (rrA (Ec s m w (Ke s a))) [])
theorem Bax(m:Nat)(ih:Az5 s m)(w:Nat)(hw:w≤64)(Q:QQ)(X:V × Nat × Int)(hQ:Q (rrA X) []):∀(f a:Nat) (acc:List V),a≤s.length→s.length<a+m→s.length<a+f→acc.length≤a→Qz s (Ec s m w) f a acc=X→
 Tw s a w 0 0 0 [] (acc.map V.row) [] [] (Y5 Q):=by
 intro f
 induction f with
 |zero=>intro a acc ha h1 h2;omega
 |succ f ihf=>
  intro a acc ha h1 h2 hl hX
  have hp:=Un s a ha
  rw [Qz]at hX
  refine Aui _ _ _ _ _ _ _ _ _ _ _ (Call.use (Yb s hs a) ⟨⟨rfl,rfl⟩, ?_⟩)
  refine Ot (p:=(Ak s a).e=0) Bg (fun he=> ?_) fun he=>Dj (p:=(Ak s a).k=5) Bg (fun h5=> ?_) fun h5=> ?_
  ·rw [if_pos he]at hX
   apply Ahe
   rw [←hX, ←Lm]at hQ;exact hQ
  ·rw [if_neg (fun h=>h he),if_pos h5]at hX
   apply At5
   rw [←hX, ←Adz rfl rfl]at hQ;exact hQ
  ·rw [if_neg (fun h=>h he),if_neg h5]at hX
   have hc:=ih w a hw (by rw [hp];omega)
   rw [hp]at hc
   have fin:=Sq s m w a ha
   generalize Ec s m w a=x at hc fin hX
   refine Call.use hc ⟨⟨rfl,(Kt x).symm⟩,Ot (p:=x.2.2=0) Bg (fun h0=> ?_) fun h0=> ?_⟩
   ·rw [if_pos h0]at hX
    apply Ahe
    rw [←hX, ←Lm]at hQ;exact hQ
   ·rw [if_neg (fun h=>h h0)]at hX
    have f1:=fin h0
    refine⟨⟨by rw [List.length_map];omega,by rw [List.length_map];omega⟩, ?_⟩
    have e4:(acc.map V.row++[[IV.int .i64 (gI x.1.row 0), .int .i64 (gI x.1.row 1), .int .i64 (gI x.1.row 2), .str (gS x.1.row 3), .sl .any 6 (gR x.1.row 4), .sl .any 7 (gR x.1.row 5)]])=(acc++[x.1]).map V.row:=by rw [Oh];simp
    show Tw s x.2.1 w 0 0 0 [] (acc.map V.row++[[IV.int .i64 (gI x.1.row 0), .int .i64 (gI x.1.row 1), .int .i64 (gI x.1.row 2), .str (gS x.1.row 3), .sl .any 6 (gR x.1.row 4), .sl .any 7 (gR x.1.row 5)]]) [] [] _
    rw [e4]
    exact ihf x.2.1 (acc++[x.1]) f1.2 (by omega) (by omega) (by simp;omega) hX
theorem Ban(m:Nat)(ih:Az5 s m)(w:Nat)(hw:w≤64)(a:Nat)(ha:a≤s.length)(h1:s.length<a+m):Call E0.P Aix [.imm (.str s), .imm (.int .i64 a), .imm (.int .i64 w)] [] (Is (rrA (Qz s (Ec s m w) (s.length+1) a [])) []):=
 Ayk _ _ _ _ (Bax s hs m ih w hw _ _ ⟨rfl,rfl⟩ (s.length+1) a [] ha h1 (by omega) (by simp) rfl)
omit hs in
theorem Bcm(acc:List Pr)(i:Nat)(h:i<acc.length):gS (List.take 1 (List.drop 0 ((acc.map Cm).getD i []))) 0=acc[i].1:=by
 have:(acc.map Cm).getD i []=Cm acc[i]:=by simp [List.getD_eq_getElem?_getD,h]
 rw [this,Hu];rfl
omit hs in
theorem Bdz(acc:List Pr)(i:Nat)(h:i<acc.length):Ch [.str] (List.take 1 (List.drop 0 ((acc.map Cm).getD i [])))=true:=by
 have:(acc.map Cm).getD i []=Cm acc[i]:=by simp [List.getD_eq_getElem?_getD,h]
 rw [this,Hu];rfl
omit hs in
theorem Ba8(w:Nat)(t:Tk)(acc:List Pr)(hl:acc.length≤1000000000)(K:KK)(hyes:acc.any (fun p=>p.1 == t.s)=true→K .ret ⟨[(6, .ptr (Nm.loc 6) 0),(7, .imm (.int .i64 0)),(8, .imm (.int .i64 11))],[(Nm.loc 6, .blk Aa [.imm (.int .i64 0), .imm (.int .i64 0), .imm (.int .i64 0), .imm (.str []), .own ((Nm.loc 6).cell 4), .own ((Nm.loc 6).cell 5)]),((Nm.loc 6).cell 4, .arr (Aa+2) true 6 []),((Nm.loc 6).cell 5, .arr (Ag+2) true 7 [])]⟩)
 (hno:¬acc.any (fun p=>p.1 == t.s)=true→Acp s w 0 0 0 [] (acc.map Cm) t.k t.n t.s t.a t.b [] [] (Pq K)):∀(m i:Nat),m+i=acc.length→¬(acc.take i).any (fun p=>p.1 == t.s)=true→Xe s w i 0 0 0 [] (acc.map Cm) t.k t.n t.s t.a t.b [] [] (Y6 K):=by
 intro m
 induction m with
 |zero=>
  intro i hi ha
  refine Agd _ _ _ _ _ _ _ _ _ _ _ _ _ _ _ _ (Bz (fun h=>by rw [List.length_map]at h;omega) fun _=> ?_)
  rw [List.take_of_length_le (by omega)]at ha
  apply Atw
  exact hno ha
 |succ m ih=>
  intro i hi ha
  have hlt:i<acc.length:=by omega
  refine Agd _ _ _ _ _ _ _ _ _ _ _ _ _ _ _ _ (Bz (fun _=>⟨⟨by omega,by rw [List.length_map];omega⟩, ?_⟩) fun h=>by rw [List.length_map]at h;omega)
  rw [Int.toNat_natCast,Bcm acc i hlt]
  refine⟨⟨by rw [List.length_map];omega,Bdz acc i hlt⟩,Dj (p:=acc[i].1=t.s) (by simp) (fun e=> ?_) fun e=> ?_⟩
  ·apply Aug
   refine hyes ?_
   rw [List.any_eq_true]
   exact⟨acc[i],List.getElem_mem hlt,by simp [e]⟩
  ·rw [Hq i (by omega)]
   refine ih (i+1) (by omega) ?_
   rw [List.take_succ_eq_append_getElem hlt,List.any_append]
   simp only [Bool.or_eq_true,not_or]
   exact⟨ha,by simp [e]⟩
theorem Bbu(m:Nat)(ih:Az5 s m)(w:Nat)(hw:w≤64)(Q:QQ)(X:V × Nat × Int)(hQ:Q (rrA X) []):∀(f a:Nat) (acc:List Pr),a≤s.length→s.length<a+m→s.length<a+f→acc.length≤a→Q9 s (Ec s m w) f a acc=X→
 Sy s a w 0 0 0 [] (acc.map Cm) [] [] (Tf Q):=by
 intro f
 induction f with
 |zero=>intro a acc ha h1 h2;omega
 |succ f ihf=>
  intro a acc ha h1 h2 hl hX
  have hp:=Un s a ha
  rw [Q9]at hX
  refine Asw _ _ _ _ _ _ _ _ _ _ _ (Call.use (Yb s hs a) ⟨⟨rfl,rfl⟩, ?_⟩)
  refine Ot (p:=(Ak s a).e=0) Bg (fun he=> ?_) fun he=>Dj (p:=(Ak s a).k=7) Bg (fun h7=> ?_) fun h7=>Dj (p:=(Ak s a).k=0) Bg (fun h0=> ?_) fun h0=>Ot (p:=(Ak s a).k=2) Bg (fun h2'=> ?_) fun h2'=> ?_
  ·rw [if_pos he]at hX
   apply Ol
   rw [←hX, ←Lm]at hQ;exact hQ
  ·rw [if_neg (fun h=>h he),if_pos h7]at hX
   apply At3
   rw [←hX, ←Adz rfl rfl]at hQ;exact hQ
  ·rw [if_neg (fun h=>h he),if_neg h7,if_pos h0]at hX
   apply Ol
   rw [←hX, ←Lm]at hQ;exact hQ
  ·rw [if_neg (fun h=>h he),if_neg h7,if_neg h0,if_pos h2']at hX
   apply Ol
   rw [←hX, ←Lm]at hQ;exact hQ
  ·rw [if_neg (fun h=>h he),if_neg h7,if_neg h0,if_neg (fun h=>h h2')]at hX
   refine Ba8 s w (Ak s a) acc (by omega) (Tf Q) (fun hy=> ?_) (fun hn=> ?_) acc.length 0 (by omega) (by simp)
   ·rw [if_pos hy]at hX
    apply Ol
    rw [←hX, ←Lm]at hQ;exact hQ
   ·rw [if_neg hn]at hX
    have f0:=Md s a ha he
    have f01:=f0.2.2 h0
    have hp2:=Un s (Ak s a).b f0.2.1
    have hc:=ih w ((Ak s a).b:Nat) hw (by rw [hp2];omega)
    rw [hp2]at hc
    have fin:=Sq s m w (Ak s a).b f0.2.1
    generalize Ec s m w (Ak s a).b=x at hc fin hX
    refine Ar5 _ _ _ _ _ _ _ _ _ _ _ _ _ _ _ (Call.use hc ⟨⟨rfl,(Kt x).symm⟩,Ot (p:=x.2.2=0) Bg (fun h0=> ?_) fun h0=> ?_⟩)
    ·rw [if_pos h0]at hX
     apply Aud
     apply Ol
     rw [←hX, ←Lm]at hQ;exact hQ
    ·rw [if_neg (fun h=>h h0)]at hX
     have f1:=fin h0
     refine⟨⟨by rw [List.length_map];omega,by rw [List.length_map];omega⟩, ?_⟩
     apply At8
     have e4:(acc.map Cm++[[IV.str (Ak s a).s, .int .i64 (gI x.1.row 0), .int .i64 (gI x.1.row 1), .int .i64 (gI x.1.row 2), .str (gS x.1.row 3), .sl .any 6 (gR x.1.row 4), .sl .any 7 (gR x.1.row 5)]])=(acc++[((Ak s a).s,x.1)]).map Cm:=by
      rw [Oh];simp [Cm]
     show Sy s x.2.1 w 0 0 0 [] (acc.map Cm++[[IV.str (Ak s a).s, .int .i64 (gI x.1.row 0), .int .i64 (gI x.1.row 1), .int .i64 (gI x.1.row 2), .str (gS x.1.row 3), .sl .any 6 (gR x.1.row 4), .sl .any 7 (gR x.1.row 5)]]) [] [] _
     rw [e4]
     exact ihf x.2.1 (acc++[((Ak s a).s,x.1)]) f1.2 (by omega) (by omega) (by simp;omega) hX
theorem Bat(m:Nat)(ih:Az5 s m)(w:Nat)(hw:w≤64)(a:Nat)(ha:a≤s.length)(h1:s.length<a+m):Call E0.P Aiv [.imm (.str s), .imm (.int .i64 a), .imm (.int .i64 w)] [] (Is (rrA (Q9 s (Ec s m w) (s.length+1) a [])) []):=
 Ax5 _ _ _ _ (Bbu s hs m ih w hw _ _ ⟨rfl,rfl⟩ (s.length+1) a [] ha h1 (by omega) (by simp) rfl)
theorem Bas:∀m:Nat,Az5 s m:=by
 intro m
 induction m with
 |zero=>intro w a hw h;have:=Su s a;omega
 |succ m ih=>
  intro w a hw h
  refine Axs _ _ _ _ (Call.use (Yb s hs a) ⟨⟨rfl,rfl⟩, ?_⟩)
  rw [Ec,Akw]
  refine Ot (p:=(Ak s a).e=0) Bg (fun he=> ?_) fun he=> ?_
  ·rw [if_pos he];exact⟨Lm _,rfl⟩
  rw [if_neg (fun h=>h he)]
  have f0:=Aqk s a he
  have hkind:=A50 s a he
  refine Dj (p:=(Ak s a).k=0) Bg (fun h1=> ?_) fun h0=> ?_
  ·rw [if_pos h1];exact⟨Lm _,rfl⟩
  rw [if_neg h0]
  have f01:=f0.2.2 h0
  refine Dj (p:=(Ak s a).k=1) Bg (fun h1=> ?_) fun h1=> ?_
  ·rw [if_pos h1]
   exact Call.use (A66 s hs (Ak s a)) ⟨⟨rfl,(Kt _).symm⟩,⟨Kt _,rfl⟩⟩
  rw [if_neg h1]
  refine Dj (p:=(Ak s a).k=2) Bg (fun h2=> ?_) fun h2=> ?_
  ·rw [if_pos h2];exact⟨Adz rfl rfl,rfl⟩
  rw [if_neg h2]
  refine Dj (p:=(Ak s a).k=3) Bg (fun h3=> ?_) fun h3=> ?_
  ·rw [if_pos h3];exact⟨Adz rfl rfl,rfl⟩
  rw [if_neg h3]
  refine Dj (p:=(Ak s a).k=8) Bg (fun h8=> ?_) fun h8=> ?_
  ·rw [if_pos h8]
   exact Call.use (Bcw (Ak s a)) ⟨⟨rfl,(Kt _).symm⟩,⟨Kt _,rfl⟩⟩
  rw [if_neg h8]
  have one:∀b:Bool,(b=true↔((Ak s a).k=5∨(Ak s a).k=7))→Wo s w b 0 0 0 [] (Ak s a).k (Ak s a).n (Ak s a).s (Ak s a).a (Ak s a).b [] [] (Tm (Is (rrA (if(Ak s a).k=4 then(if 64≤w then Jp 9 else Qz s (Ec s m (w+1)) (s.length+1) (Ak s a).b [])else if(Ak s a).k=6 then(if 64≤w then Jp 9 else Q9 s (Ec s m (w+1)) (s.length+1) (Ak s a).b [])else Jp 4)) [])):=by
   intro b hb
   refine Arj _ _ _ _ _ _ _ _ _ _ _ _ _ _ _ (Dj hb (fun hk=> ?_) fun hk=> ?_)
   ·rw [if_neg (by omega),if_neg (by omega)]
    apply Aty
    exact⟨Lm 4,rfl⟩
   ·apply As0
    refine Asb _ _ _ _ _ _ _ _ _ _ _ _ _ _ (Dj (p:=64≤w) (by rw [Bg];omega) (fun h64=> ?_) fun h64=> ?_)
    ·apply At2
     by_cases h4:(Ak s a).k=4
     ·rw [if_pos h4,if_pos h64];exact⟨Lm 9,rfl⟩
     ·rw [if_neg h4,if_pos (by omega),if_pos h64];exact⟨Lm 9,rfl⟩
    ·rw [Hq w (by omega)]
     refine Bz (fun h4=> ?_) fun h4=> ?_
     ·rw [if_pos h4,if_neg h64]
      refine Call.use (Ban s hs m ih (w+1) (by omega) (Ak s a).b f0.2.1 (by omega)) ⟨⟨rfl,(Kt _).symm⟩, ?_⟩
      apply Ahp
      exact⟨Kt _,rfl⟩
     ·rw [if_neg h4,if_pos (by omega),if_neg h64]
      refine Call.use (Bat s hs m ih (w+1) (by omega) (Ak s a).b f0.2.1 (by omega)) ⟨⟨rfl,(Kt _).symm⟩, ?_⟩
      apply Ahp
      exact⟨Kt _,rfl⟩
  refine Dj (p:=(Ak s a).k=5) Bg (fun h5=>one _ ?_) fun h5=>one _ ?_
  ·show decide ((Ak s a).k=5)=true↔_
   rw [Bg];omega
  ·show decide ((Ak s a).k=7)=true↔_
   rw [Bg];omega
end
end Go.Proofs.Sim.Se
set_option maxRecDepth 100000
namespace Go.Proofs.Sim.Se
open Go Go.Proofs Go.Proofs.Sim Go.Proofs.Sim.Va Go.RowKit Go.Proofs.Sim.Pa
def Ar4(l:List V):Nat:=(l.map Lv).sum
def Alk(d:List Pr):Nat:=(d.map fun p=>Lv p.2).sum
theorem Oy(k n g:Int)(t:List UInt8):Lv (.mk k n g t [] [])=1:=by rw [Aoh];rfl
theorem A8f(s:List UInt8)(rd:Nat→V × Nat × Int)(hf:∀a,a≤s.length→Ak3 s a (rd a))(hrd:∀a,a≤s.length→(rd a).2.2=0→a+Lv (rd a).1≤(rd a).2.1):∀(m a:Nat) (acc:List V),a≤s.length→(Qz s rd m a acc).2.2=0→a+Lv (Qz s rd m a acc).1≤(Qz s rd m a acc).2.1+Ar4 acc:=by
 intro m
 induction m with
 |zero=>intro a acc ha h;cases h
 |succ m ih=>
  intro a acc ha h
  rw [Qz]at h ⊢
  split at h
  ·rename_i h1;exact absurd h h1
  rename_i h1
  rw [if_neg h1]
  have f:=Md s a ha (Classical.not_not.1 h1)
  split at h
  ·rename_i h2
   rw [if_pos h2]
   have:=f.2.2 (by rw [h2];decide)
   rw [Aoh]
   show a+(1+Ar4 acc+0)≤(Ak s a).b+Ar4 acc
   omega
  ·rename_i h2
   rw [if_neg h2]
   split at h
   ·rename_i h3;exact absurd h h3
   ·rename_i h3
    rw [if_neg h3]
    have hr:=hrd a ha (Classical.not_not.1 h3)
    have hb:=hf a ha (Classical.not_not.1 h3)
    have:=ih _ _ hb.2 h
    have e:Ar4 (acc++[(rd a).1])=Ar4 acc+Lv (rd a).1:=by unfold Ar4;simp
    omega
theorem A89(s:List UInt8)(rd:Nat→V × Nat × Int)(hf:∀a,a≤s.length→Ak3 s a (rd a))(hrd:∀a,a≤s.length→(rd a).2.2=0→a+Lv (rd a).1≤(rd a).2.1):∀(m a:Nat) (acc:List Pr),a≤s.length→(Q9 s rd m a acc).2.2=0→a+Lv (Q9 s rd m a acc).1≤(Q9 s rd m a acc).2.1+Alk acc:=by
 intro m
 induction m with
 |zero=>intro a acc ha h;cases h
 |succ m ih=>
  intro a acc ha h
  rw [Q9]at h ⊢
  split at h
  ·rename_i h1;exact absurd h h1
  rename_i h1
  rw [if_neg h1]
  have f:=Md s a ha (Classical.not_not.1 h1)
  split at h
  ·rename_i h2
   rw [if_pos h2]
   have:=f.2.2 (by rw [h2];decide)
   rw [Aoh]
   show a+(1+0+Alk acc)≤(Ak s a).b+Alk acc
   omega
  rename_i h2
  rw [if_neg h2]
  split at h
  ·cases h
  rename_i h3
  rw [if_neg h3]
  split at h
  ·cases h
  rename_i h4
  rw [if_neg h4]
  split at h
  ·cases h
  rename_i h5
  rw [if_neg h5]
  split at h
  ·rename_i h6;exact absurd h h6
  ·rename_i h6
   rw [if_neg h6]
   have hr:=hrd _ f.2.1 (Classical.not_not.1 h6)
   have hb:=hf _ f.2.1 (Classical.not_not.1 h6)
   have:=ih _ _ hb.2 h
   have e:Alk (acc++[((Ak s a).s,(rd (Ak s a).b).1)])=Alk acc+Lv (rd (Ak s a).b).1:=by unfold Alk;simp
   omega
theorem Ba1(s:List UInt8)(n:Int)(b:Nat)(h:(numL s n b).2.2=0):Lv (numL s n b).1=1:=by
 unfold numL at h ⊢
 split
 ·exact Oy _ _ _ _
 ·rename_i g c hl
  rw [hl]at h
  simp only at h
  split
  ·rename_i h1;rw [if_pos h1]at h;cases h
  ·exact Oy _ _ _ _
theorem A5z(w:List UInt8)(b:Nat):Lv (Abp w b).1=1:=by
 unfold Abp
 split
 ·exact Oy _ _ _ _
 ·split
  ·exact Oy _ _ _ _
  ·split
   ·exact Oy _ _ _ _
   ·exact Oy _ _ _ _
theorem A7p(s:List UInt8):∀(m w a:Nat),a≤s.length→(Ec s m w a).2.2=0→a+Lv (Ec s m w a).1≤(Ec s m w a).2.1:=by
 intro m
 induction m with
 |zero=>intro w a ha h;cases h
 |succ m ih=>
  intro w a ha h
  have hfin:=Sq s (m+1) w a ha h
  rw [Ec]at h hfin ⊢
  split at h
  ·rename_i h1;exact absurd h h1
  rename_i h1
  rw [if_neg h1]at hfin ⊢
  have f:=Md s a ha (Classical.not_not.1 h1)
  split at h
  ·cases h
  rename_i h2
  rw [if_neg h2]at hfin ⊢
  split at h
  ·rename_i h3
   rw [if_pos h3]at hfin ⊢
   rw [Ba1 _ _ _ h];omega
  rename_i h3
  rw [if_neg h3]at hfin ⊢
  split at h
  ·rename_i h4;rw [if_pos h4]at hfin ⊢; rw [Oy];omega
  rename_i h4
  rw [if_neg h4]at hfin ⊢
  split at h
  ·rename_i h5;rw [if_pos h5]at hfin ⊢; rw [Oy];omega
  rename_i h5
  rw [if_neg h5]at hfin ⊢
  split at h
  ·rename_i h6
   rw [if_pos h6]at hfin ⊢; rw [A5z];omega
  rename_i h6
  rw [if_neg h6]at hfin ⊢
  split at h
  ·rename_i h7
   rw [if_pos h7]at hfin ⊢
   split at h
   ·cases h
   ·rename_i h8
    rw [if_neg h8]at hfin ⊢
    have:=A8f s (Ec s m (w+1)) (fun a ha=>Sq s m (w+1) a ha) (fun a ha=>ih (w+1) a ha) _ _ [] f.2.1 h
    have e:Ar4 []=0:=rfl
    omega
  rename_i h7
  rw [if_neg h7]at hfin ⊢
  split at h
  ·rename_i h8
   rw [if_pos h8]at hfin ⊢
   split at h
   ·cases h
   ·rename_i h9
    rw [if_neg h9]at hfin ⊢
    have:=A89 s (Ec s m (w+1)) (fun a ha=>Sq s m (w+1) a ha) (fun a ha=>ih (w+1) a ha) _ _ [] f.2.1 h
    have e:Alk []=0:=rfl
    omega
  ·cases h
theorem Bep(k n g:Int)(t:List UInt8)(l:List V)(d:List Pr):(mkP k n g t l d).l=[]∨(mkP k n g t l d).l=l:=by
 unfold mkP
 split
 ·exact .inl rfl
 ·split
  ·exact .inl rfl
  ·split
   ·exact .inr rfl
   ·split
    ·exact .inl rfl
    ·split
     ·exact .inl rfl
     ·split
      ·exact .inl rfl
      ·exact .inl rfl
theorem A6v {v:V} (h:Fit v):Fit v.plain:=by
 induction h with
 |mk v h1 h2 _ _ ih1 ih2=>
  have hd:=A43 v
  have hl:v.plain.l=[]∨v.plain.l=v.l.map V.plain:=by rw [Ako];exact Bep _ _ _ _ _ _
  refine .mk _ ?_ (by omega) (fun x hx=> ?_) (fun p hp=> ?_)
  ·rcases hl with e |e<;>rw [e]
   ·simp
   ·rw [List.length_map];exact h1
  ·rcases hl with e |e
   ·rw [e]at hx;cases hx
   ·rw [e]at hx
    obtain⟨y,hy,rfl⟩:=List.mem_map.1 hx
    exact ih1 y hy
  ·rcases A3f v with e |e
   ·rw [e]at hp;cases hp
   ·rw [e]at hp
    have hp:=A0y (List.mem_filter.1 hp).1
    obtain⟨q,hq,rfl⟩:=List.mem_map.1 hp
    exact ih2 q hq
def Xv(s:List UInt8)(a:Int):V × Nat × Int:=
 if(Ec s (s.length+1) 0 (Ke s a)).2.2≠0 then Jp (Ec s (s.length+1) 0 (Ke s a)).2.2 else((Ec s (s.length+1) 0 (Ke s a)).1.plain,(Ec s (s.length+1) 0 (Ke s a)).2.1,0)
def Ah6(s:List UInt8):V × Int:=
 if(Xv s 0).2.2≠0 then(zero,(Xv s 0).2.2)else if(Ak s (Xv s 0).2.1).e≠0 then(zero,(Ak s (Xv s 0).2.1).e)else if(Ak s (Xv s 0).2.1).k≠0 then(zero,4)else((Xv s 0).1,0)
abbrev whA(x:V × Int):AV:= .tup [.imm (.agg x.1.row), .imm (.int .i64 x.2)]
theorem Aja(e:Int):AV.tup [A8u, .imm (.int .i64 e)]=whA (zero,e):=by
 unfold whA zero;rw [Af2];rfl
section
variable (s:List UInt8) (hs:s.length≤1000000000)
include hs
theorem Asl(m w a:Nat)(ha:a≤s.length)(h:(Ec s m w a).2.2=0):Fit (Ec s m w a).1:=by
 have h1:=A7p s m w a ha h
 have h2:=Sq s m w a ha h
 exact Awt 1000000000 (by decide) _ _ (Nat.le_refl _) (by omega)
theorem Bay(a:Int):Fit (Xv s a).1:=by
 unfold Xv
 split
 ·exact Awt 1 (by decide) _ _ (Nat.le_refl _) (by unfold Jp;rw [Oy];exact Nat.le_refl _)
 ·rename_i h
  exact A6v (Asl s hs _ _ _ (Su s a) (Classical.not_not.1 h))
theorem A3k:Fit (Ah6 s).1:=by
 have z:Fit zero:=Awt 1 (by decide) _ _ (Nat.le_refl _) (by unfold zero;rw [Oy];exact Nat.le_refl _)
 unfold Ah6
 split
 ·exact z
 ·split
  ·exact z
  ·split
   ·exact z
   ·exact Bay s hs 0
theorem Azz(a:Int):Call E0.P Ut [.imm (.str s), .imm (.int .i64 a)] [] (Is (rrA (Xv s a)) []):=by
 refine Aro _ _ _ ((Baj s hs (s.length+1) 0 a (by omega) (by have:=Su s a;omega)).mono fun r g hx=> ?_)
 have hfit:=Asl s hs (s.length+1) 0 _ (Su s a)
 unfold Xv
 generalize Ec s (s.length+1) 0 (Ke s a)=x at hx hfit
 obtain⟨c,g1,g2,g3⟩:=hx
 subst g1;subst g2
 refine⟨⟨rfl,(K9 x).symm⟩,Ot (p:=x.2.2=0) Bg (fun h=> ?_) fun h=> ?_⟩
 ·rw [if_pos h];exact⟨Lm _,rfl⟩
 ·rw [if_neg (fun h'=>h' h)]
  have hp:=Bbk x.1 (hfit h)
  show Call E0.P J6 [.imm (.agg [.int .i64 (gI x.1.row 0), .int .i64 (gI x.1.row 1), .int .i64 (gI x.1.row 2), .str (gS x.1.row 3), .sl .any 6 (gR x.1.row 4), .sl .any 7 (gR x.1.row 5)])] [] _
  rw [Oh]
  have fm:AV.imm (.agg [.int .i64 (gI x.1.plain.row 0), .int .i64 (gI x.1.plain.row 1), .int .i64 (gI x.1.plain.row 2), .str (gS x.1.plain.row 3), .sl .any 6 (gR x.1.plain.row 4), .sl .any 7 (gR x.1.plain.row 5)])= .imm (.agg x.1.plain.row):=by rw [Oh]
  refine Call.use hp ⟨⟨rfl,fm.symm⟩, ?_⟩
  refine⟨?_,rfl⟩
  show AV.tup [.imm (.agg [.int .i64 (gI x.1.plain.row 0), .int .i64 (gI x.1.plain.row 1), .int .i64 (gI x.1.plain.row 2), .str (gS x.1.plain.row 3), .sl .any 6 (gR x.1.plain.row 4), .sl .any 7 (gR x.1.plain.row 5)]), .imm (.int .i64 c), .imm (.int .i64 0)]=_
  rw [Oh,g3 h]
theorem A8q(a:Int):Call E0.P Afn [.imm (.str s), .imm (.int .i64 a)] [] (Is (rrA (Xv s a)) []):=by
 have hfit:=Asl s hs (s.length+1) 0 _ (Su s a)
 have hc:=Bas s hs (s.length+1) 0 a (by omega) (by have:=Su s a;omega)
 unfold Xv
 generalize Ec s (s.length+1) 0 (Ke s a)=x at hc hfit
 refine Awf _ _ _ (Call.use hc ⟨⟨rfl,(Kt x).symm⟩,Ot (p:=x.2.2=0) Bg (fun h=> ?_) fun h=> ?_⟩)
 ·rw [if_pos h];exact⟨Lm _,rfl⟩
 ·rw [if_neg (fun h'=>h' h)]
  have hp:=A8p x.1 (hfit h)
  show Call E0.P M9 [.imm (.agg [.int .i64 (gI x.1.row 0), .int .i64 (gI x.1.row 1), .int .i64 (gI x.1.row 2), .str (gS x.1.row 3), .sl .any 6 (gR x.1.row 4), .sl .any 7 (gR x.1.row 5)])] [] _
  rw [Oh]
  have fm:AV.imm (.agg [.int .i64 (gI x.1.plain.row 0), .int .i64 (gI x.1.plain.row 1), .int .i64 (gI x.1.plain.row 2), .str (gS x.1.plain.row 3), .sl .any 6 (gR x.1.plain.row 4), .sl .any 7 (gR x.1.plain.row 5)])= .imm (.agg x.1.plain.row):=by rw [Oh]
  refine Call.use hp ⟨⟨rfl,fm.symm⟩, ?_⟩
  refine⟨?_,rfl⟩
  show AV.tup [.imm (.agg [.int .i64 (gI x.1.plain.row 0), .int .i64 (gI x.1.plain.row 1), .int .i64 (gI x.1.plain.row 2), .str (gS x.1.plain.row 3), .sl .any 6 (gR x.1.plain.row 4), .sl .any 7 (gR x.1.plain.row 5)]), .imm (.int .i64 x.2.1), .imm (.int .i64 0)]=_
  rw [Oh]
theorem Akp:Call E0.P Mg [.imm (.str s)] [] (Is (whA (Ah6 s)) []):=by
 have hc:=Azz s hs 0
 unfold Ah6
 generalize Xv s 0=x at hc
 refine Aq9 _ _ (Call.use hc ⟨⟨rfl,(Kt x).symm⟩,Ot (p:=x.2.2=0) Bg (fun h=> ?_) fun h=> ?_⟩)
 ·rw [if_pos h];exact⟨Aja _,rfl⟩
 ·rw [if_neg (fun h'=>h' h)]
  refine Call.use (Aze s hs x.2.1) ⟨⟨rfl,rfl⟩,Ot (p:=(Ak s x.2.1).e=0) Bg (fun h1=> ?_) fun h1=>Ot (p:=(Ak s x.2.1).k=0) Bg (fun h2=> ?_) fun h2=> ?_⟩
  ·rw [if_pos h1];exact⟨Aja _,rfl⟩
  ·rw [if_neg (fun h'=>h' h1),if_pos h2];exact⟨Aja _,rfl⟩
  ·rw [if_neg (fun h'=>h' h1),if_neg (fun h'=>h' h2)]
   refine⟨?_,rfl⟩
   show AV.tup [.imm (.agg [.int .i64 (gI x.1.row 0), .int .i64 (gI x.1.row 1), .int .i64 (gI x.1.row 2), .str (gS x.1.row 3), .sl .any 6 (gR x.1.row 4), .sl .any 7 (gR x.1.row 5)]), .imm (.int .i64 0)]=_
   rw [Oh]
theorem A87:Call E0.P Agj [.imm (.str s)] [] (Is (whA (Ah6 s)) []):=by
 have hc:=A8q s hs 0
 unfold Ah6
 generalize Xv s 0=x at hc
 refine Avo _ _ (Call.use hc ⟨⟨rfl,(Kt x).symm⟩,Ot (p:=x.2.2=0) Bg (fun h=> ?_) fun h=> ?_⟩)
 ·rw [if_pos h];exact⟨Aja _,rfl⟩
 ·rw [if_neg (fun h'=>h' h)]
  refine Call.use (Yb s hs x.2.1) ⟨⟨rfl,rfl⟩,Ot (p:=(Ak s x.2.1).e=0) Bg (fun h1=> ?_) fun h1=>Ot (p:=(Ak s x.2.1).k=0) Bg (fun h2=> ?_) fun h2=> ?_⟩
  ·rw [if_pos h1];exact⟨Aja _,rfl⟩
  ·rw [if_neg (fun h'=>h' h1),if_pos h2];exact⟨Aja _,rfl⟩
  ·rw [if_neg (fun h'=>h' h1),if_neg (fun h'=>h' h2)]
   refine⟨?_,rfl⟩
   show AV.tup [.imm (.agg [.int .i64 (gI x.1.row 0), .int .i64 (gI x.1.row 1), .int .i64 (gI x.1.row 2), .str (gS x.1.row 3), .sl .any 6 (gR x.1.row 4), .sl .any 7 (gR x.1.row 5)]), .imm (.int .i64 0)]=_
   rw [Oh]
end
def A7x:List UInt8:=[60,60,47,65,32,91,49,32,50,32,48,32,82,93,32,47,66,32,110,117,108,108,62,62]
def Bc7:List UInt8:=[120,32,49,50,32,93]
def exV1:V:= .mk 6 0 0 [] [] [([65], .mk 5 0 0 [] [.mk 2 1 0 [] [] [], .mk 7 2 0 [] [] []] [])]
theorem Bfh:Ah6 A7x=(exV1,0):=by kernel_rfl
theorem Bfd:Xv Bc7 1=(.mk 2 12 0 [] [] [],4,0):=by kernel_rfl
theorem Bfe:Ah6 [91,49]=(zero,5):=by kernel_rfl
theorem Be9:Ah6 [49,32,49]=(zero,4):=by kernel_rfl
theorem Bc4:exV1.row=[.int .i64 6, .int .i64 0, .int .i64 0, .str [], .sl .any 6 [], .sl .any 7 [[.str [65], .int .i64 5, .int .i64 0, .int .i64 0, .str [], .sl .any 6 [[.int .i64 2, .int .i64 1, .int .i64 0, .str [], .sl .any 6 [], .sl .any 7 []],[.int .i64 7, .int .i64 2, .int .i64 0, .str [], .sl .any 6 [], .sl .any 7 []]], .sl .any 7 []]]]:=by
 simp [exV1,Af2,Cm]
theorem Azo:Call E0.P Xa [] [] (Is (.imm (.bool true)) []):=by
 have w1:=Akp A7x (by decide)
 have w2:=Azz Bc7 (by decide) 1
 have w3:=Akp [91,49] (by decide)
 have w4:=Akp [49,32,49] (by decide)
 have f1:=A3k A7x (by decide)
 rw [Bfh]at w1 f1
 rw [Bfd]at w2
 rw [Bfe]at w3
 rw [Be9]at w4
 refine As6 _ (Call.use w1 ⟨⟨rfl, ?_⟩,Call.use w2 ⟨⟨rfl, ?_⟩,Call.use w3 ⟨⟨rfl, ?_⟩,Call.use w4 ⟨⟨rfl, ?_⟩, ?_⟩⟩⟩⟩)
 ·exact(K9 (exV1,0,0)).symm
 ·exact(Kt (.mk 2 12 0 [] [] [],4,0)).symm
 ·exact(K9 (zero,0,5)).symm
 ·exact(K9 (zero,0,4)).symm
 ·have eq:=A27 exV1 f1 exV1
  have e1:AV.imm (.agg [.int .i64 (gI exV1.row 0), .int .i64 (gI exV1.row 1), .int .i64 (gI exV1.row 2), .str (gS exV1.row 3), .sl .any 6 (gR exV1.row 4), .sl .any 7 (gR exV1.row 5)])= .imm (.agg exV1.row):=by rw [Oh]
  show Call E0.P Iz [.imm (.agg [.int .i64 (gI exV1.row 0), .int .i64 (gI exV1.row 1), .int .i64 (gI exV1.row 2), .str (gS exV1.row 3), .sl .any 6 (gR exV1.row 4), .sl .any 7 (gR exV1.row 5)]),_] [] _
  rw [e1, ←Bc4]
  refine eq.mono fun r g hx=> ?_
  obtain⟨c,g1,g2,g3⟩:=hx
  have hc:c=true:=g3.2 rfl
  subst hc;subst g1;subst g2
  exact⟨⟨rfl,rfl⟩,Let.intro (Let.intro (Let.intro (Let.intro (Let.intro ⟨rfl,rfl⟩))))⟩
theorem S_ParseWhole(s:List UInt8):Call E0.P Adx [.imm (.str s)] [] (Is (.imm (.bool true)) []):=by
 refine Amf _ _ (Bz (fun h=>Call.use Azo ⟨⟨rfl,rfl⟩,⟨rfl,rfl⟩⟩) fun h=> ?_)
 have hs:s.length≤1000000000:=by omega
 have w1:=Akp s hs
 have w2:=A87 s hs
 have f:=A3k s hs
 generalize Ah6 s=x at w1 w2 f
 have fm:A6y (whA x)=whA x:=by
  show AV.tup [.imm (.agg [.int .i64 (gI x.1.row 0), .int .i64 (gI x.1.row 1), .int .i64 (gI x.1.row 2), .str (gS x.1.row 3), .sl .any 6 (gR x.1.row 4), .sl .any 7 (gR x.1.row 5)]), .imm (.int .i64 x.2)]=_
  rw [Oh]
 refine Call.use w1 ⟨⟨rfl,fm.symm⟩,Call.use w2 ⟨⟨rfl,fm.symm⟩, ?_⟩⟩
 have e1:AV.imm (.agg [.int .i64 (gI x.1.row 0), .int .i64 (gI x.1.row 1), .int .i64 (gI x.1.row 2), .str (gS x.1.row 3), .sl .any 6 (gR x.1.row 4), .sl .any 7 (gR x.1.row 5)])= .imm (.agg x.1.row):=by rw [Oh]
 show Call E0.P Iz [.imm (.agg [.int .i64 (gI x.1.row 0), .int .i64 (gI x.1.row 1), .int .i64 (gI x.1.row 2), .str (gS x.1.row 3), .sl .any 6 (gR x.1.row 4), .sl .any 7 (gR x.1.row 5)]), .imm (.agg [.int .i64 (gI x.1.row 0), .int .i64 (gI x.1.row 1), .int .i64 (gI x.1.row 2), .str (gS x.1.row 3), .sl .any 6 (gR x.1.row 4), .sl .any 7 (gR x.1.row 5)])] [] _
 rw [e1]
 refine(A27 x.1 f x.1).mono fun r g hx=> ?_
 obtain⟨c,g1,g2,g3⟩:=hx
 have hc:c=true:=g3.2 rfl
 subst hc;subst g1;subst g2
 refine⟨⟨rfl,rfl⟩,Let.intro ?_⟩
 rw [decide_eq_true (show rI (rT (whA x) 1)=rI (rT (whA x) 1) from rfl)]
 exact brE (p:=True) (by simp [rB,gB,aIV]) (fun _=>Call.use Azo ⟨⟨rfl,rfl⟩,Let.intro ⟨rfl,rfl⟩⟩) fun h=>absurd trivial h
end Go.Proofs.Sim.Se

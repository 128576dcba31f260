import Derived.Test.YtcdjheflchglaaaGreatDoorPbA
import Derived.Test.YtcdjheflchglaaaGreatDoorVsC
set_option maxRecDepth 100000
namespace Go.Proofs.Sim.Se
open Go Go.Proofs Go.Proofs.Sim Go.Proofs.Sim.Va Go.RowKit Go.Proofs.Sim.Pa
abbrev Bb8:AV:= .imm (.agg [.int .i64 0, .int .i64 0, .int .i64 0, .str [], .sl .any 6 [], .sl .any 7 []])
abbrev rrA(x:V × Nat × Int):AV:= .tup [.imm (.agg x.1.row), .imm (.int .i64 x.2.1), .imm (.int .i64 x.2.2)]
abbrev Bbw(r:AV):AV:= .tup [.imm (.agg [.int .i64 (gI (Ac (rT r 0)) 0), .int .i64 (gI (Ac (rT r 0)) 1), .int .i64 (gI (Ac (rT r 0)) 2), .str (gS (Ac (rT r 0)) 3), .sl .any 6 (gR (Ac (rT r 0)) 4), .sl .any 7 (gR (Ac (rT r 0)) 5)]), .imm (.int .i64 (rI (rT r 1))), .imm (.int .i64 (rI (rT r 2)))]
theorem Az7(x:V × Nat × Int):Bbw (rrA x)=rrA x:=by
 show AV.tup [.imm (.agg [.int .i64 (gI x.1.row 0), .int .i64 (gI x.1.row 1), .int .i64 (gI x.1.row 2), .str (gS x.1.row 3), .sl .any 6 (gR x.1.row 4), .sl .any 7 (gR x.1.row 5)]), .imm (.int .i64 x.2.1), .imm (.int .i64 x.2.2)]=_
 rw [Z6]
theorem Bbx(e:Int):AV.tup [Bb8, .imm (.int .i64 0), .imm (.int .i64 e)]=rrA (J5 e):=by
 unfold J5 rrA;rw [Af0];rfl
section
variable (s:List UInt8) (hs:s.length≤1000000000)
include hs
end
end Go.Proofs.Sim.Se
set_option maxRecDepth 100000
namespace Go.Proofs.Sim.Se
open Go Go.Proofs Go.Proofs.Sim Go.Proofs.Sim.Va Go.RowKit Go.Proofs.Sim.Pa
def Ap1(l:List V):Nat:=(l.map D5).sum
def Ai5(d:List Pr):Nat:=(d.map fun p=>D5 p.2).sum
theorem O0(k n g:Int)(t:List UInt8):D5 (.mk k n g t [] [])=1:=by rw [Tx];rfl
theorem A59(s:List UInt8)(rd:Nat→V × Nat × Int)(hf:∀a,a≤s.length→Aiz s a (rd a))(hrd:∀a,a≤s.length→(rd a).2.2=0→a+D5 (rd a).1≤(rd a).2.1):∀(m a:Nat) (acc:List V),a≤s.length→(I8 s rd m a acc).2.2=0→a+D5 (I8 s rd m a acc).1≤(I8 s rd m a acc).2.1+Ap1 acc:=by
 intro m
 induction m with
 |zero=>intro a acc ha h;cases h
 |succ m ih=>
  intro a acc ha h
  rw [I8]at h ⊢
  split at h
  ·rename_i h1;exact absurd h h1
  rename_i h1
  rw [if_neg h1]
  have f:=Oq s a ha (Classical.not_not.1 h1)
  split at h
  ·rename_i h2
   rw [if_pos h2]
   have:=f.2.2 (by rw [h2];decide)
   rw [Tx]
   show a+(1+Ap1 acc+0)≤(Aj s a).b+Ap1 acc
   omega
  ·rename_i h2
   rw [if_neg h2]
   split at h
   ·rename_i h3;exact absurd h h3
   ·rename_i h3
    rw [if_neg h3]
    have hr:=hrd a ha (Classical.not_not.1 h3)
    have hb:=hf a ha (Classical.not_not.1 h3)
    have:=ih _ _ hb.2 h
    have e:Ap1 (acc++[(rd a).1])=Ap1 acc+D5 (rd a).1:=by unfold Ap1;simp
    omega
theorem A5j(s:List UInt8)(rd:Nat→V × Nat × Int)(hf:∀a,a≤s.length→Aiz s a (rd a))(hrd:∀a,a≤s.length→(rd a).2.2=0→a+D5 (rd a).1≤(rd a).2.1):∀(m a:Nat) (acc:List Pr),a≤s.length→(Im s rd m a acc).2.2=0→a+D5 (Im s rd m a acc).1≤(Im s rd m a acc).2.1+Ai5 acc:=by
 intro m
 induction m with
 |zero=>intro a acc ha h;cases h
 |succ m ih=>
  intro a acc ha h
  rw [Im]at h ⊢
  split at h
  ·rename_i h1;exact absurd h h1
  rename_i h1
  rw [if_neg h1]
  have f:=Oq s a ha (Classical.not_not.1 h1)
  split at h
  ·rename_i h2
   rw [if_pos h2]
   have:=f.2.2 (by rw [h2];decide)
   rw [Tx]
   show a+(1+0+Ai5 acc)≤(Aj s a).b+Ai5 acc
   omega
  rename_i h2
  rw [if_neg h2]
  split at h
  ·cases h
  rename_i h3
  rw [if_neg h3]
  split at h
  ·cases h
  rename_i h4
  rw [if_neg h4]
  split at h
  ·cases h
  rename_i h5
  rw [if_neg h5]
  split at h
  ·rename_i h6;exact absurd h h6
  ·rename_i h6
   rw [if_neg h6]
   have hr:=hrd _ f.2.1 (Classical.not_not.1 h6)
   have hb:=hf _ f.2.1 (Classical.not_not.1 h6)
   have:=ih _ _ hb.2 h
   have e:Ai5 (acc++[((Aj s a).s,(rd (Aj s a).b).1)])=Ai5 acc+D5 (rd (Aj s a).b).1:=by unfold Ai5;simp
   omega
theorem A9e(s:List UInt8)(n:Int)(b:Nat)(h:(numL s n b).2.2=0):D5 (numL s n b).1=1:=by
 unfold numL at h ⊢
 split
 ·exact O0 _ _ _ _
 ·rename_i g c hl
  rw [hl]at h
  simp only at h
  split
  ·rename_i h1;rw [if_pos h1]at h;cases h
  ·exact O0 _ _ _ _
theorem A4n(w:List UInt8)(b:Nat):D5 (Te w b).1=1:=by
 unfold Te
 split
 ·exact O0 _ _ _ _
 ·split
  ·exact O0 _ _ _ _
  ·split
   ·exact O0 _ _ _ _
   ·exact O0 _ _ _ _
theorem Ayc(s:List UInt8):∀(m w a:Nat),a≤s.length→(Cy s m w a).2.2=0→a+D5 (Cy s m w a).1≤(Cy s m w a).2.1:=by
 intro m
 induction m with
 |zero=>intro w a ha h;cases h
 |succ m ih=>
  intro w a ha h
  have hfin:=X8 s (m+1) w a ha h
  rw [Cy]at h hfin ⊢
  split at h
  ·rename_i h1;exact absurd h h1
  rename_i h1
  rw [if_neg h1]at hfin ⊢
  have f:=Oq s a ha (Classical.not_not.1 h1)
  split at h
  ·cases h
  rename_i h2
  rw [if_neg h2]at hfin ⊢
  split at h
  ·rename_i h3
   rw [if_pos h3]at hfin ⊢
   rw [A9e _ _ _ h];omega
  rename_i h3
  rw [if_neg h3]at hfin ⊢
  split at h
  ·rename_i h4;rw [if_pos h4]at hfin ⊢; rw [O0];omega
  rename_i h4
  rw [if_neg h4]at hfin ⊢
  split at h
  ·rename_i h5;rw [if_pos h5]at hfin ⊢; rw [O0];omega
  rename_i h5
  rw [if_neg h5]at hfin ⊢
  split at h
  ·rename_i h6
   rw [if_pos h6]at hfin ⊢; rw [A4n];omega
  rename_i h6
  rw [if_neg h6]at hfin ⊢
  split at h
  ·rename_i h7
   rw [if_pos h7]at hfin ⊢
   split at h
   ·cases h
   ·rename_i h8
    rw [if_neg h8]at hfin ⊢
    have:=A59 s (Cy s m (w+1)) (fun a ha=>X8 s m (w+1) a ha) (fun a ha=>ih (w+1) a ha) _ _ [] f.2.1 h
    have e:Ap1 []=0:=rfl
    omega
  rename_i h7
  rw [if_neg h7]at hfin ⊢
  split at h
  ·rename_i h8
   rw [if_pos h8]at hfin ⊢
   split at h
   ·cases h
   ·rename_i h9
    rw [if_neg h9]at hfin ⊢
    have:=A5j s (Cy s m (w+1)) (fun a ha=>X8 s m (w+1) a ha) (fun a ha=>ih (w+1) a ha) _ _ [] f.2.1 h
    have e:Ai5 []=0:=rfl
    omega
  ·cases h
theorem Bct(k n g:Int)(t:List UInt8)(l:List V)(d:List Pr):(Rv k n g t l d).l=[]∨(Rv k n g t l d).l=l:=by
 unfold Rv
 split
 ·exact .inl rfl
 ·split
  ·exact .inl rfl
  ·split
   ·exact .inr rfl
   ·split
    ·exact .inl rfl
    ·split
     ·exact .inl rfl
     ·split
      ·exact .inl rfl
      ·exact .inl rfl
theorem A23 {v:V} (h:Fit v):Fit v.plain:=by
 induction h with
 |mk v h1 h2 _ _ ih1 ih2=>
  have hd:=A1l v
  have hl:v.plain.l=[]∨v.plain.l=v.l.map V.plain:=by rw [Fg];exact Bct _ _ _ _ _ _
  refine .mk _ ?_ (by omega) (fun x hx=> ?_) (fun p hp=> ?_)
  ·rcases hl with e |e<;>rw [e]
   ·simp
   ·rw [List.length_map];exact h1
  ·rcases hl with e |e
   ·rw [e]at hx;cases hx
   ·rw [e]at hx
    obtain⟨y,hy,rfl⟩:=List.mem_map.1 hx
    exact ih1 y hy
  ·rcases Az4 v with e |e
   ·rw [e]at hp;cases hp
   ·rw [e]at hp
    have hp:=Aj6 (List.mem_filter.1 hp).1
    obtain⟨q,hq,rfl⟩:=List.mem_map.1 hp
    exact ih2 q hq
def Rh(s:List UInt8)(a:Int):V × Nat × Int:=
 if(Cy s (s.length+1) 0 (M7 s a)).2.2≠0 then J5 (Cy s (s.length+1) 0 (M7 s a)).2.2 else((Cy s (s.length+1) 0 (M7 s a)).1.plain,(Cy s (s.length+1) 0 (M7 s a)).2.1,0)
def Uf(s:List UInt8):V × Int:=
 if(Rh s 0).2.2≠0 then(zero,(Rh s 0).2.2)else if(Aj s (Rh s 0).2.1).e≠0 then(zero,(Aj s (Rh s 0).2.1).e)else if(Aj s (Rh s 0).2.1).k≠0 then(zero,4)else((Rh s 0).1,0)
abbrev whA(x:V × Int):AV:= .tup [.imm (.agg x.1.row), .imm (.int .i64 x.2)]
theorem Ayw(e:Int):AV.tup [Bb8, .imm (.int .i64 e)]=whA (zero,e):=by
 unfold whA zero;rw [Af0];rfl
section
variable (s:List UInt8) (hs:s.length≤1000000000)
include hs
theorem Ayd(m w a:Nat)(ha:a≤s.length)(h:(Cy s m w a).2.2=0):Fit (Cy s m w a).1:=by
 have h1:=Ayc s m w a ha h
 have h2:=X8 s m w a ha h
 exact Anm 1000000000 (by decide) _ _ (Nat.le_refl _) (by omega)
theorem A93(a:Int):Fit (Rh s a).1:=by
 unfold Rh
 split
 ·exact Anm 1 (by decide) _ _ (Nat.le_refl _) (by unfold J5;rw [O0];exact Nat.le_refl _)
 ·rename_i h
  exact A23 (Ayd s hs _ _ _ (Af6 s a) (Classical.not_not.1 h))
theorem A0d:Fit (Uf s).1:=by
 have z:Fit zero:=Anm 1 (by decide) _ _ (Nat.le_refl _) (by unfold zero;rw [O0];exact Nat.le_refl _)
 unfold Uf
 split
 ·exact z
 ·split
  ·exact z
  ·split
   ·exact z
   ·exact A93 s hs 0
theorem Awa(a:Int):Call E0.P U0 [.imm (.str s), .imm (.int .i64 a)] [] (Is (rrA (Rh s a)) []):=by
 refine Api _ _ _ ((A8e s hs (s.length+1) 0 a (by omega) (by have:=Af6 s a;omega)).mono fun r g hx=> ?_)
 have hfit:=Ayd s hs (s.length+1) 0 _ (Af6 s a)
 unfold Rh
 generalize Cy s (s.length+1) 0 (M7 s a)=x at hx hfit
 obtain⟨c,g1,g2,g3⟩:=hx
 subst g1;subst g2
 refine⟨⟨rfl,(Lb x).symm⟩,brN (p:=x.2.2=0) Cf (fun h=> ?_) fun h=> ?_⟩
 ·rw [if_pos h];exact⟨Bbx _,rfl⟩
 ·rw [if_neg (fun h'=>h' h)]
  have hp:=Asz x.1 (hfit h)
  show Call E0.P Gh [.imm (.agg [.int .i64 (gI x.1.row 0), .int .i64 (gI x.1.row 1), .int .i64 (gI x.1.row 2), .str (gS x.1.row 3), .sl .any 6 (gR x.1.row 4), .sl .any 7 (gR x.1.row 5)])] [] _
  rw [Z6]
  have fm:AV.imm (.agg [.int .i64 (gI x.1.plain.row 0), .int .i64 (gI x.1.plain.row 1), .int .i64 (gI x.1.plain.row 2), .str (gS x.1.plain.row 3), .sl .any 6 (gR x.1.plain.row 4), .sl .any 7 (gR x.1.plain.row 5)])= .imm (.agg x.1.plain.row):=by rw [Z6]
  refine Call.use hp ⟨⟨rfl,fm.symm⟩, ?_⟩
  refine⟨?_,rfl⟩
  show AV.tup [.imm (.agg [.int .i64 (gI x.1.plain.row 0), .int .i64 (gI x.1.plain.row 1), .int .i64 (gI x.1.plain.row 2), .str (gS x.1.plain.row 3), .sl .any 6 (gR x.1.plain.row 4), .sl .any 7 (gR x.1.plain.row 5)]), .imm (.int .i64 c), .imm (.int .i64 0)]=_
  rw [Z6,g3 h]
theorem Afp:Call E0.P J7 [.imm (.str s)] [] (Is (whA (Uf s)) []):=by
 have hc:=Awa s hs 0
 unfold Uf
 generalize Rh s 0=x at hc
 refine Apj _ _ (Call.use hc ⟨⟨rfl,(Az7 x).symm⟩,brN (p:=x.2.2=0) Cf (fun h=> ?_) fun h=> ?_⟩)
 ·rw [if_pos h];exact⟨Ayw _,rfl⟩
 ·rw [if_neg (fun h'=>h' h)]
  refine Call.use (Av8 s hs x.2.1) ⟨⟨rfl,rfl⟩,brN (p:=(Aj s x.2.1).e=0) Cf (fun h1=> ?_) fun h1=>brN (p:=(Aj s x.2.1).k=0) Cf (fun h2=> ?_) fun h2=> ?_⟩
  ·rw [if_pos h1];exact⟨Ayw _,rfl⟩
  ·rw [if_neg (fun h'=>h' h1),if_pos h2];exact⟨Ayw _,rfl⟩
  ·rw [if_neg (fun h'=>h' h1),if_neg (fun h'=>h' h2)]
   refine⟨?_,rfl⟩
   show AV.tup [.imm (.agg [.int .i64 (gI x.1.row 0), .int .i64 (gI x.1.row 1), .int .i64 (gI x.1.row 2), .str (gS x.1.row 3), .sl .any 6 (gR x.1.row 4), .sl .any 7 (gR x.1.row 5)]), .imm (.int .i64 0)]=_
   rw [Z6]
end
def A5r:List UInt8:=[60,60,47,65,32,91,49,32,50,32,48,32,82,93,32,47,66,32,110,117,108,108,62,62]
def Bbb:List UInt8:=[120,32,49,50,32,93]
def exV1:V:= .mk 6 0 0 [] [] [([65], .mk 5 0 0 [] [.mk 2 1 0 [] [] [], .mk 7 2 0 [] [] []] [])]
theorem Bc9:Uf A5r=(exV1,0):=by kernel_rfl
theorem Bc8:Rh Bbb 1=(.mk 2 12 0 [] [] [],4,0):=by kernel_rfl
theorem Bda:Uf [91,49]=(zero,5):=by kernel_rfl
theorem Bdb:Uf [49,32,49]=(zero,4):=by kernel_rfl
theorem Bbc:exV1.row=[.int .i64 6, .int .i64 0, .int .i64 0, .str [], .sl .any 6 [], .sl .any 7 [[.str [65], .int .i64 5, .int .i64 0, .int .i64 0, .str [], .sl .any 6 [[.int .i64 2, .int .i64 1, .int .i64 0, .str [], .sl .any 6 [], .sl .any 7 []],[.int .i64 7, .int .i64 2, .int .i64 0, .str [], .sl .any 6 [], .sl .any 7 []]], .sl .any 7 []]]]:=by
 simp [exV1,Af0,C9]
theorem Awb:Call E0.P Co [] [] (Is (.imm (.bool true)) []):=by
 have w1:=Afp A5r (by decide)
 have w2:=Awa Bbb (by decide) 1
 have w3:=Afp [91,49] (by decide)
 have w4:=Afp [49,32,49] (by decide)
 have f1:=A0d A5r (by decide)
 rw [Bc9]at w1 f1
 rw [Bc8]at w2
 rw [Bda]at w3
 rw [Bdb]at w4
 refine Aqv _ (Call.use w1 ⟨⟨rfl, ?_⟩,Call.use w2 ⟨⟨rfl, ?_⟩,Call.use w3 ⟨⟨rfl, ?_⟩,Call.use w4 ⟨⟨rfl, ?_⟩, ?_⟩⟩⟩⟩)
 ·exact(Lb (exV1,0,0)).symm
 ·exact(Az7 (.mk 2 12 0 [] [] [],4,0)).symm
 ·exact(Lb (zero,0,5)).symm
 ·exact(Lb (zero,0,4)).symm
 ·have eq:=Azl exV1 f1 exV1
  have e1:AV.imm (.agg [.int .i64 (gI exV1.row 0), .int .i64 (gI exV1.row 1), .int .i64 (gI exV1.row 2), .str (gS exV1.row 3), .sl .any 6 (gR exV1.row 4), .sl .any 7 (gR exV1.row 5)])= .imm (.agg exV1.row):=by rw [Z6]
  show Call E0.P Dc [.imm (.agg [.int .i64 (gI exV1.row 0), .int .i64 (gI exV1.row 1), .int .i64 (gI exV1.row 2), .str (gS exV1.row 3), .sl .any 6 (gR exV1.row 4), .sl .any 7 (gR exV1.row 5)]),_] [] _
  rw [e1, ←Bbc]
  refine eq.mono fun r g hx=> ?_
  obtain⟨c,g1,g2,g3⟩:=hx
  have hc:c=true:=g3.2 rfl
  subst hc;subst g1;subst g2
  exact⟨⟨rfl,rfl⟩,Let.intro (Let.intro (Let.intro (Let.intro (Let.intro ⟨rfl,rfl⟩))))⟩
end Go.Proofs.Sim.Se

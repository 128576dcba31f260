import Derived.Test.YtaggabcajidnnaaGreatDoorPbA
import Derived.Test.YtaggabcajidnnaaGreatDoorVsC
set_option maxRecDepth 100000
namespace Go.Proofs.Sim.Se
open Go Go.Proofs Go.Proofs.Sim Go.Proofs.Sim.Va Go.RowKit Go.Proofs.Sim.Pa
abbrev Bu9:AV:= .imm (.agg [.int .i64 0, .int .i64 0, .int .i64 0, .str [], .sl .any 6 [], .sl .any 7 []])
abbrev rrA(x:V × Nat × Int):AV:= .tup [.imm (.agg x.1.row), .imm (.int .i64 x.2.1), .imm (.int .i64 x.2.2)]
abbrev Buv(r:AV):AV:= .tup [.imm (.agg [.int .i64 (gI (Ae (rT r 0)) 0), .int .i64 (gI (Ae (rT r 0)) 1), .int .i64 (gI (Ae (rT r 0)) 2), .str (gS (Ae (rT r 0)) 3), .sl .any 6 (gR (Ae (rT r 0)) 4), .sl .any 7 (gR (Ae (rT r 0)) 5)]), .imm (.int .i64 (rI (rT r 1))), .imm (.int .i64 (rI (rT r 2)))]
theorem Bsa(x:V × Nat × Int):Buv (rrA x)=rrA x:=by
 show AV.tup [.imm (.agg [.int .i64 (gI x.1.row 0), .int .i64 (gI x.1.row 1), .int .i64 (gI x.1.row 2), .str (gS x.1.row 3), .sl .any 6 (gR x.1.row 4), .sl .any 7 (gR x.1.row 5)]), .imm (.int .i64 x.2.1), .imm (.int .i64 x.2.2)]=_
 rw [Abc]
theorem Buw(e:Int):AV.tup [Bu9, .imm (.int .i64 0), .imm (.int .i64 e)]=rrA (Ol e):=by
 unfold Ol rrA;rw [Axe];rfl
section
variable (s:List UInt8) (hs:s.length≤1000000000)
include hs
end
end Go.Proofs.Sim.Se
set_option maxRecDepth 100000
namespace Go.Proofs.Sim.Se
open Go Go.Proofs Go.Proofs.Sim Go.Proofs.Sim.Va Go.RowKit Go.Proofs.Sim.Pa
def A2q(l:List V):Nat:=(l.map Cv).sum
def Ash(d:List Pr):Nat:=(d.map fun p=>Cv p.2).sum
theorem Mc(k n g:Int)(t:List UInt8):Cv (.mk k n g t [] [])=1:=by rw [Q7];rfl
theorem Boj(s:List UInt8)(rd:Nat→V × Nat × Int)(hf:∀a,a≤s.length→Ar8 s a (rd a))(hrd:∀a,a≤s.length→(rd a).2.2=0→a+Cv (rd a).1≤(rd a).2.1):∀(m a:Nat) (acc:List V),a≤s.length→(Sc s rd m a acc).2.2=0→a+Cv (Sc s rd m a acc).1≤(Sc s rd m a acc).2.1+A2q acc:=by
 intro m
 induction m with
 |zero=>intro a acc ha h;cases h
 |succ m ih=>
  intro a acc ha h
  rw [Sc]at h ⊢
  split at h
  ·rename_i h1;exact absurd h h1
  rename_i h1
  rw [if_neg h1]
  have f:=Ri s a ha (Classical.not_not.1 h1)
  split at h
  ·rename_i h2
   rw [if_pos h2]
   have:=f.2.2 (by rw [h2];decide)
   rw [Q7]
   show a+(1+A2q acc+0)≤(Ao s a).b+A2q acc
   omega
  ·rename_i h2
   rw [if_neg h2]
   split at h
   ·rename_i h3;exact absurd h h3
   ·rename_i h3
    rw [if_neg h3]
    have hr:=hrd a ha (Classical.not_not.1 h3)
    have hb:=hf a ha (Classical.not_not.1 h3)
    have:=ih _ _ hb.2 h
    have e:A2q (acc++[(rd a).1])=A2q acc+Cv (rd a).1:=by unfold A2q;simp
    omega
theorem Bnq(s:List UInt8)(rd:Nat→V × Nat × Int)(hf:∀a,a≤s.length→Ar8 s a (rd a))(hrd:∀a,a≤s.length→(rd a).2.2=0→a+Cv (rd a).1≤(rd a).2.1):∀(m a:Nat) (acc:List Pr),a≤s.length→(Q9 s rd m a acc).2.2=0→a+Cv (Q9 s rd m a acc).1≤(Q9 s rd m a acc).2.1+Ash acc:=by
 intro m
 induction m with
 |zero=>intro a acc ha h;cases h
 |succ m ih=>
  intro a acc ha h
  rw [Q9]at h ⊢
  split at h
  ·rename_i h1;exact absurd h h1
  rename_i h1
  rw [if_neg h1]
  have f:=Ri s a ha (Classical.not_not.1 h1)
  split at h
  ·rename_i h2
   rw [if_pos h2]
   have:=f.2.2 (by rw [h2];decide)
   rw [Q7]
   show a+(1+0+Ash acc)≤(Ao s a).b+Ash acc
   omega
  rename_i h2
  rw [if_neg h2]
  split at h
  ·cases h
  rename_i h3
  rw [if_neg h3]
  split at h
  ·cases h
  rename_i h4
  rw [if_neg h4]
  split at h
  ·cases h
  rename_i h5
  rw [if_neg h5]
  split at h
  ·rename_i h6;exact absurd h h6
  ·rename_i h6
   rw [if_neg h6]
   have hr:=hrd _ f.2.1 (Classical.not_not.1 h6)
   have hb:=hf _ f.2.1 (Classical.not_not.1 h6)
   have:=ih _ _ hb.2 h
   have e:Ash (acc++[((Ao s a).s,(rd (Ao s a).b).1)])=Ash acc+Cv (rd (Ao s a).b).1:=by unfold Ash;simp
   omega
theorem Bru(s:List UInt8)(n:Int)(b:Nat)(h:(numL s n b).2.2=0):Cv (numL s n b).1=1:=by
 unfold numL at h ⊢
 split
 ·exact Mc _ _ _ _
 ·rename_i g c hl
  rw [hl]at h
  simp only at h
  split
  ·rename_i h1;rw [if_pos h1]at h;cases h
  ·exact Mc _ _ _ _
theorem Bmj(w:List UInt8)(b:Nat):Cv (Aku w b).1=1:=by
 unfold Aku
 split
 ·exact Mc _ _ _ _
 ·split
  ·exact Mc _ _ _ _
  ·split
   ·exact Mc _ _ _ _
   ·exact Mc _ _ _ _
theorem Bo1(s:List UInt8):∀(m w a:Nat),a≤s.length→(Eh s m w a).2.2=0→a+Cv (Eh s m w a).1≤(Eh s m w a).2.1:=by
 intro m
 induction m with
 |zero=>intro w a ha h;cases h
 |succ m ih=>
  intro w a ha h
  have hfin:=Agb s (m+1) w a ha h
  rw [Eh]at h hfin ⊢
  split at h
  ·rename_i h1;exact absurd h h1
  rename_i h1
  rw [if_neg h1]at hfin ⊢
  have f:=Ri s a ha (Classical.not_not.1 h1)
  split at h
  ·cases h
  rename_i h2
  rw [if_neg h2]at hfin ⊢
  split at h
  ·rename_i h3
   rw [if_pos h3]at hfin ⊢
   rw [Bru _ _ _ h];omega
  rename_i h3
  rw [if_neg h3]at hfin ⊢
  split at h
  ·rename_i h4;rw [if_pos h4]at hfin ⊢; rw [Mc];omega
  rename_i h4
  rw [if_neg h4]at hfin ⊢
  split at h
  ·rename_i h5;rw [if_pos h5]at hfin ⊢; rw [Mc];omega
  rename_i h5
  rw [if_neg h5]at hfin ⊢
  split at h
  ·rename_i h6
   rw [if_pos h6]at hfin ⊢; rw [Bmj];omega
  rename_i h6
  rw [if_neg h6]at hfin ⊢
  split at h
  ·rename_i h7
   rw [if_pos h7]at hfin ⊢
   split at h
   ·cases h
   ·rename_i h8
    rw [if_neg h8]at hfin ⊢
    have:=Boj s (Eh s m (w+1)) (fun a ha=>Agb s m (w+1) a ha) (fun a ha=>ih (w+1) a ha) _ _ [] f.2.1 h
    have e:A2q []=0:=rfl
    omega
  rename_i h7
  rw [if_neg h7]at hfin ⊢
  split at h
  ·rename_i h8
   rw [if_pos h8]at hfin ⊢
   split at h
   ·cases h
   ·rename_i h9
    rw [if_neg h9]at hfin ⊢
    have:=Bnq s (Eh s m (w+1)) (fun a ha=>Agb s m (w+1) a ha) (fun a ha=>ih (w+1) a ha) _ _ [] f.2.1 h
    have e:Ash []=0:=rfl
    omega
  ·cases h
def Anb(s:List UInt8)(a:Int):V × Nat × Int:=
 if(Eh s (s.length+1) 0 (Pw s a)).2.2≠0 then Ol (Eh s (s.length+1) 0 (Pw s a)).2.2 else((Eh s (s.length+1) 0 (Pw s a)).1.plain,(Eh s (s.length+1) 0 (Pw s a)).2.1,0)
def Acf(s:List UInt8):V × Int:=
 if(Anb s 0).2.2≠0 then(zero,(Anb s 0).2.2)else if(Ao s (Anb s 0).2.1).e≠0 then(zero,(Ao s (Anb s 0).2.1).e)else if(Ao s (Anb s 0).2.1).k≠0 then(zero,4)else((Anb s 0).1,0)
abbrev whA(x:V × Int):AV:= .tup [.imm (.agg x.1.row), .imm (.int .i64 x.2)]
theorem Ahw(e:Int):AV.tup [Bu9, .imm (.int .i64 e)]=whA (zero,e):=by
 unfold whA zero;rw [Axe];rfl
section
variable (s:List UInt8) (hs:s.length≤1000000000)
include hs
theorem Bo2(m w a:Nat)(ha:a≤s.length)(h:(Eh s m w a).2.2=0):Fit (Eh s m w a).1:=by
 have h1:=Bo1 s m w a ha h
 have h2:=Agb s m w a ha h
 exact Aq3 1000000000 (by decide) _ _ (Nat.le_refl _) (by omega)
theorem Bm1(a:Int):Call E0.P Afq [.imm (.str s), .imm (.int .i64 a)] [] (Is (rrA (Anb s a)) []):=by
 refine A06 _ _ _ ((Bqv s hs (s.length+1) 0 a (by omega) (by have:=Ari s a;omega)).mono fun r g hx=> ?_)
 have hfit:=Bo2 s hs (s.length+1) 0 _ (Ari s a)
 unfold Anb
 generalize Eh s (s.length+1) 0 (Pw s a)=x at hx hfit
 obtain⟨c,g1,g2,g3⟩:=hx
 subst g1;subst g2
 refine⟨⟨rfl,(Qr x).symm⟩,Xr (p:=x.2.2=0) Ca (fun h=> ?_) fun h=> ?_⟩
 ·rw [if_pos h];exact⟨Buw _,rfl⟩
 ·rw [if_neg (fun h'=>h' h)]
  have hp:=A7p x.1 (hfit h)
  show Call E0.P Ho [.imm (.agg [.int .i64 (gI x.1.row 0), .int .i64 (gI x.1.row 1), .int .i64 (gI x.1.row 2), .str (gS x.1.row 3), .sl .any 6 (gR x.1.row 4), .sl .any 7 (gR x.1.row 5)])] [] _
  rw [Abc]
  have fm:AV.imm (.agg [.int .i64 (gI x.1.plain.row 0), .int .i64 (gI x.1.plain.row 1), .int .i64 (gI x.1.plain.row 2), .str (gS x.1.plain.row 3), .sl .any 6 (gR x.1.plain.row 4), .sl .any 7 (gR x.1.plain.row 5)])= .imm (.agg x.1.plain.row):=by rw [Abc]
  refine Call.use hp ⟨⟨rfl,fm.symm⟩, ?_⟩
  refine⟨?_,rfl⟩
  show AV.tup [.imm (.agg [.int .i64 (gI x.1.plain.row 0), .int .i64 (gI x.1.plain.row 1), .int .i64 (gI x.1.plain.row 2), .str (gS x.1.plain.row 3), .sl .any 6 (gR x.1.plain.row 4), .sl .any 7 (gR x.1.plain.row 5)]), .imm (.int .i64 c), .imm (.int .i64 0)]=_
  rw [Abc,g3 h]
theorem Bm2:Call E0.P Afr [.imm (.str s)] [] (Is (whA (Acf s)) []):=by
 have hc:=Bm1 s hs 0
 unfold Acf
 generalize Anb s 0=x at hc
 refine A07 _ _ (Call.use hc ⟨⟨rfl,(Bsa x).symm⟩,Xr (p:=x.2.2=0) Ca (fun h=> ?_) fun h=> ?_⟩)
 ·rw [if_pos h];exact⟨Ahw _,rfl⟩
 ·rw [if_neg (fun h'=>h' h)]
  refine Call.use (A40 s hs x.2.1) ⟨⟨rfl,rfl⟩,Xr (p:=(Ao s x.2.1).e=0) Ca (fun h1=> ?_) fun h1=>Xr (p:=(Ao s x.2.1).k=0) Ca (fun h2=> ?_) fun h2=> ?_⟩
  ·rw [if_pos h1];exact⟨Ahw _,rfl⟩
  ·rw [if_neg (fun h'=>h' h1),if_pos h2];exact⟨Ahw _,rfl⟩
  ·rw [if_neg (fun h'=>h' h1),if_neg (fun h'=>h' h2)]
   refine⟨?_,rfl⟩
   show AV.tup [.imm (.agg [.int .i64 (gI x.1.row 0), .int .i64 (gI x.1.row 1), .int .i64 (gI x.1.row 2), .str (gS x.1.row 3), .sl .any 6 (gR x.1.row 4), .sl .any 7 (gR x.1.row 5)]), .imm (.int .i64 0)]=_
   rw [Abc]
end
end Go.Proofs.Sim.Se

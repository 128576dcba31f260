import Derived.Test.YtcdjheflchglaaaGreatDoorPbA
import Derived.Test.YtcdjheflchglaaaGreatDoorVsC
set_option maxRecDepth 100000
namespace Go.Proofs.Sim.Se
open Go Go.Proofs Go.Proofs.Sim Go.Proofs.Sim.Va Go.RowKit Go.Proofs.Sim.Pa
abbrev Bdn:AV:= .imm (.agg [.int .i64 0, .int .i64 0, .int .i64 0, .str [], .sl .any 6 [], .sl .any 7 []])
abbrev rrA(x:V × Nat × Int):AV:= .tup [.imm (.agg x.1.row), .imm (.int .i64 x.2.1), .imm (.int .i64 x.2.2)]
abbrev Bc2(r:AV):AV:= .tup [.imm (.agg [.int .i64 (gI (Ae (rT r 0)) 0), .int .i64 (gI (Ae (rT r 0)) 1), .int .i64 (gI (Ae (rT r 0)) 2), .str (gS (Ae (rT r 0)) 3), .sl .any 6 (gR (Ae (rT r 0)) 4), .sl .any 7 (gR (Ae (rT r 0)) 5)]), .imm (.int .i64 (rI (rT r 1))), .imm (.int .i64 (rI (rT r 2)))]
theorem Avs(x:V × Nat × Int):Bc2 (rrA x)=rrA x:=by
 show AV.tup [.imm (.agg [.int .i64 (gI x.1.row 0), .int .i64 (gI x.1.row 1), .int .i64 (gI x.1.row 2), .str (gS x.1.row 3), .sl .any 6 (gR x.1.row 4), .sl .any 7 (gR x.1.row 5)]), .imm (.int .i64 x.2.1), .imm (.int .i64 x.2.2)]=_
 rw [Zy]
theorem Bd9(e:Int):AV.tup [Bdn, .imm (.int .i64 0), .imm (.int .i64 e)]=rrA (Lh e):=by
 unfold Lh rrA;rw [Aiy];rfl
section
variable (s:List UInt8) (hs:s.length≤1000000000)
include hs
end
end Go.Proofs.Sim.Se
set_option maxRecDepth 100000
namespace Go.Proofs.Sim.Se
open Go Go.Proofs Go.Proofs.Sim Go.Proofs.Sim.Va Go.RowKit Go.Proofs.Sim.Pa
def Asj(l:List V):Nat:=(l.map C9).sum
def Akr(d:List Pr):Nat:=(d.map fun p=>C9 p.2).sum
theorem O3(k n g:Int)(t:List UInt8):C9 (.mk k n g t [] [])=1:=by rw [R3];rfl
theorem A7c(s:List UInt8)(rd:Nat→V × Nat × Int)(hf:∀a,a≤s.length→Ako s a (rd a))(hrd:∀a,a≤s.length→(rd a).2.2=0→a+C9 (rd a).1≤(rd a).2.1):∀(m a:Nat) (acc:List V),a≤s.length→(Pi s rd m a acc).2.2=0→a+C9 (Pi s rd m a acc).1≤(Pi s rd m a acc).2.1+Asj acc:=by
 intro m
 induction m with
 |zero=>intro a acc ha h;cases h
 |succ m ih=>
  intro a acc ha h
  rw [Pi]at h ⊢
  split at h
  ·rename_i h1;exact absurd h h1
  rename_i h1
  rw [if_neg h1]
  have f:=Oa s a ha (Classical.not_not.1 h1)
  split at h
  ·rename_i h2
   rw [if_pos h2]
   have:=f.2.2 (by rw [h2];decide)
   rw [R3]
   show a+(1+Asj acc+0)≤(Ao s a).b+Asj acc
   omega
  ·rename_i h2
   rw [if_neg h2]
   split at h
   ·rename_i h3;exact absurd h h3
   ·rename_i h3
    rw [if_neg h3]
    have hr:=hrd a ha (Classical.not_not.1 h3)
    have hb:=hf a ha (Classical.not_not.1 h3)
    have:=ih _ _ hb.2 h
    have e:Asj (acc++[(rd a).1])=Asj acc+C9 (rd a).1:=by unfold Asj;simp
    omega
theorem A7j(s:List UInt8)(rd:Nat→V × Nat × Int)(hf:∀a,a≤s.length→Ako s a (rd a))(hrd:∀a,a≤s.length→(rd a).2.2=0→a+C9 (rd a).1≤(rd a).2.1):∀(m a:Nat) (acc:List Pr),a≤s.length→(Om s rd m a acc).2.2=0→a+C9 (Om s rd m a acc).1≤(Om s rd m a acc).2.1+Akr acc:=by
 intro m
 induction m with
 |zero=>intro a acc ha h;cases h
 |succ m ih=>
  intro a acc ha h
  rw [Om]at h ⊢
  split at h
  ·rename_i h1;exact absurd h h1
  rename_i h1
  rw [if_neg h1]
  have f:=Oa s a ha (Classical.not_not.1 h1)
  split at h
  ·rename_i h2
   rw [if_pos h2]
   have:=f.2.2 (by rw [h2];decide)
   rw [R3]
   show a+(1+0+Akr acc)≤(Ao s a).b+Akr acc
   omega
  rename_i h2
  rw [if_neg h2]
  split at h
  ·cases h
  rename_i h3
  rw [if_neg h3]
  split at h
  ·cases h
  rename_i h4
  rw [if_neg h4]
  split at h
  ·cases h
  rename_i h5
  rw [if_neg h5]
  split at h
  ·rename_i h6;exact absurd h h6
  ·rename_i h6
   rw [if_neg h6]
   have hr:=hrd _ f.2.1 (Classical.not_not.1 h6)
   have hb:=hf _ f.2.1 (Classical.not_not.1 h6)
   have:=ih _ _ hb.2 h
   have e:Akr (acc++[((Ao s a).s,(rd (Ao s a).b).1)])=Akr acc+C9 (rd (Ao s a).b).1:=by unfold Akr;simp
   omega
theorem Bbr(s:List UInt8)(n:Int)(b:Nat)(h:(numL s n b).2.2=0):C9 (numL s n b).1=1:=by
 unfold numL at h ⊢
 split
 ·exact O3 _ _ _ _
 ·rename_i g c hl
  rw [hl]at h
  simp only at h
  split
  ·rename_i h1;rw [if_pos h1]at h;cases h
  ·exact O3 _ _ _ _
theorem A59(w:List UInt8)(b:Nat):C9 (Aed w b).1=1:=by
 unfold Aed
 split
 ·exact O3 _ _ _ _
 ·split
  ·exact O3 _ _ _ _
  ·split
   ·exact O3 _ _ _ _
   ·exact O3 _ _ _ _
theorem A8b(s:List UInt8):∀(m w a:Nat),a≤s.length→(Dt s m w a).2.2=0→a+C9 (Dt s m w a).1≤(Dt s m w a).2.1:=by
 intro m
 induction m with
 |zero=>intro w a ha h;cases h
 |succ m ih=>
  intro w a ha h
  have hfin:=Aau s (m+1) w a ha h
  rw [Dt]at h hfin ⊢
  split at h
  ·rename_i h1;exact absurd h h1
  rename_i h1
  rw [if_neg h1]at hfin ⊢
  have f:=Oa s a ha (Classical.not_not.1 h1)
  split at h
  ·cases h
  rename_i h2
  rw [if_neg h2]at hfin ⊢
  split at h
  ·rename_i h3
   rw [if_pos h3]at hfin ⊢
   rw [Bbr _ _ _ h];omega
  rename_i h3
  rw [if_neg h3]at hfin ⊢
  split at h
  ·rename_i h4;rw [if_pos h4]at hfin ⊢; rw [O3];omega
  rename_i h4
  rw [if_neg h4]at hfin ⊢
  split at h
  ·rename_i h5;rw [if_pos h5]at hfin ⊢; rw [O3];omega
  rename_i h5
  rw [if_neg h5]at hfin ⊢
  split at h
  ·rename_i h6
   rw [if_pos h6]at hfin ⊢; rw [A59];omega
  rename_i h6
  rw [if_neg h6]at hfin ⊢
  split at h
  ·rename_i h7
   rw [if_pos h7]at hfin ⊢
   split at h
   ·cases h
   ·rename_i h8
    rw [if_neg h8]at hfin ⊢
    have:=A7c s (Dt s m (w+1)) (fun a ha=>Aau s m (w+1) a ha) (fun a ha=>ih (w+1) a ha) _ _ [] f.2.1 h
    have e:Asj []=0:=rfl
    omega
  rename_i h7
  rw [if_neg h7]at hfin ⊢
  split at h
  ·rename_i h8
   rw [if_pos h8]at hfin ⊢
   split at h
   ·cases h
   ·rename_i h9
    rw [if_neg h9]at hfin ⊢
    have:=A7j s (Dt s m (w+1)) (fun a ha=>Aau s m (w+1) a ha) (fun a ha=>ih (w+1) a ha) _ _ [] f.2.1 h
    have e:Akr []=0:=rfl
    omega
  ·cases h
theorem Bfb(k n g:Int)(t:List UInt8)(l:List V)(d:List Pr):(R4 k n g t l d).l=[]∨(R4 k n g t l d).l=l:=by
 unfold R4
 split
 ·exact .inl rfl
 ·split
  ·exact .inl rfl
  ·split
   ·exact .inr rfl
   ·split
    ·exact .inl rfl
    ·split
     ·exact .inl rfl
     ·split
      ·exact .inl rfl
      ·exact .inl rfl
theorem Aof {v:V} (h:Fit v):Fit v.plain:=by
 induction h with
 |mk v h1 h2 _ _ ih1 ih2=>
  have hd:=A3m v
  have hl:v.plain.l=[]∨v.plain.l=v.l.map V.plain:=by rw [Fj];exact Bfb _ _ _ _ _ _
  refine .mk _ ?_ (by omega) (fun x hx=> ?_) (fun p hp=> ?_)
  ·rcases hl with e |e<;>rw [e]
   ·simp
   ·rw [List.length_map];exact h1
  ·rcases hl with e |e
   ·rw [e]at hx;cases hx
   ·rw [e]at hx
    obtain⟨y,hy,rfl⟩:=List.mem_map.1 hx
    exact ih1 y hy
  ·rcases A1z v with e |e
   ·rw [e]at hp;cases hp
   ·rw [e]at hp
    have hp:=Akn (List.mem_filter.1 hp).1
    obtain⟨q,hq,rfl⟩:=List.mem_map.1 hp
    exact ih2 q hq
def Vn(s:List UInt8)(a:Int):V × Nat × Int:=
 if(Dt s (s.length+1) 0 (Nn s a)).2.2≠0 then Lh (Dt s (s.length+1) 0 (Nn s a)).2.2 else((Dt s (s.length+1) 0 (Nn s a)).1.plain,(Dt s (s.length+1) 0 (Nn s a)).2.1,0)
def Ah7(s:List UInt8):V × Int:=
 if(Vn s 0).2.2≠0 then(zero,(Vn s 0).2.2)else if(Ao s (Vn s 0).2.1).e≠0 then(zero,(Ao s (Vn s 0).2.1).e)else if(Ao s (Vn s 0).2.1).k≠0 then(zero,4)else((Vn s 0).1,0)
abbrev whA(x:V × Int):AV:= .tup [.imm (.agg x.1.row), .imm (.int .i64 x.2)]
theorem Ay4(e:Int):AV.tup [Bdn, .imm (.int .i64 e)]=whA (zero,e):=by
 unfold whA zero;rw [Aiy];rfl
section
variable (s:List UInt8) (hs:s.length≤1000000000)
include hs
theorem Azp(m w a:Nat)(ha:a≤s.length)(h:(Dt s m w a).2.2=0):Fit (Dt s m w a).1:=by
 have h1:=A8b s m w a ha h
 have h2:=Aau s m w a ha h
 exact Aja 1000000000 (by decide) _ _ (Nat.le_refl _) (by omega)
theorem Bap(a:Int):Fit (Vn s a).1:=by
 unfold Vn
 split
 ·exact Aja 1 (by decide) _ _ (Nat.le_refl _) (by unfold Lh;rw [O3];exact Nat.le_refl _)
 ·rename_i h
  exact Aof (Azp s hs _ _ _ (Agr s a) (Classical.not_not.1 h))
theorem Ba5:Fit (Ah7 s).1:=by
 have z:Fit zero:=Aja 1 (by decide) _ _ (Nat.le_refl _) (by unfold zero;rw [O3];exact Nat.le_refl _)
 unfold Ah7
 split
 ·exact z
 ·split
  ·exact z
  ·split
   ·exact z
   ·exact Bap s hs 0
theorem Ar9(a:Int):Call E0.P Pp [.imm (.str s), .imm (.int .i64 a)] [] (Is (rrA (Vn s a)) []):=by
 refine Aqs _ _ _ ((Bah s hs (s.length+1) 0 a (by omega) (by have:=Agr s a;omega)).mono fun r g hx=> ?_)
 have hfit:=Azp s hs (s.length+1) 0 _ (Agr s a)
 unfold Vn
 generalize Dt s (s.length+1) 0 (Nn s a)=x at hx hfit
 obtain⟨c,g1,g2,g3⟩:=hx
 subst g1;subst g2
 refine⟨⟨rfl,(K4 x).symm⟩,brN (p:=x.2.2=0) Cg (fun h=> ?_) fun h=> ?_⟩
 ·rw [if_pos h];exact⟨Bd9 _,rfl⟩
 ·rw [if_neg (fun h'=>h' h)]
  have hp:=Au2 x.1 (hfit h)
  show Call E0.P Ht [.imm (.agg [.int .i64 (gI x.1.row 0), .int .i64 (gI x.1.row 1), .int .i64 (gI x.1.row 2), .str (gS x.1.row 3), .sl .any 6 (gR x.1.row 4), .sl .any 7 (gR x.1.row 5)])] [] _
  rw [Zy]
  have fm:AV.imm (.agg [.int .i64 (gI x.1.plain.row 0), .int .i64 (gI x.1.plain.row 1), .int .i64 (gI x.1.plain.row 2), .str (gS x.1.plain.row 3), .sl .any 6 (gR x.1.plain.row 4), .sl .any 7 (gR x.1.plain.row 5)])= .imm (.agg x.1.plain.row):=by rw [Zy]
  refine Call.use hp ⟨⟨rfl,fm.symm⟩, ?_⟩
  refine⟨?_,rfl⟩
  show AV.tup [.imm (.agg [.int .i64 (gI x.1.plain.row 0), .int .i64 (gI x.1.plain.row 1), .int .i64 (gI x.1.plain.row 2), .str (gS x.1.plain.row 3), .sl .any 6 (gR x.1.plain.row 4), .sl .any 7 (gR x.1.plain.row 5)]), .imm (.int .i64 c), .imm (.int .i64 0)]=_
  rw [Zy,g3 h]
theorem Alb:Call E0.P Mi [.imm (.str s)] [] (Is (whA (Ah7 s)) []):=by
 have hc:=Ar9 s hs 0
 unfold Ah7
 generalize Vn s 0=x at hc
 refine Ard _ _ (Call.use hc ⟨⟨rfl,(Avs x).symm⟩,brN (p:=x.2.2=0) Cg (fun h=> ?_) fun h=> ?_⟩)
 ·rw [if_pos h];exact⟨Ay4 _,rfl⟩
 ·rw [if_neg (fun h'=>h' h)]
  refine Call.use (A0i s hs x.2.1) ⟨⟨rfl,rfl⟩,brN (p:=(Ao s x.2.1).e=0) Cg (fun h1=> ?_) fun h1=>brN (p:=(Ao s x.2.1).k=0) Cg (fun h2=> ?_) fun h2=> ?_⟩
  ·rw [if_pos h1];exact⟨Ay4 _,rfl⟩
  ·rw [if_neg (fun h'=>h' h1),if_pos h2];exact⟨Ay4 _,rfl⟩
  ·rw [if_neg (fun h'=>h' h1),if_neg (fun h'=>h' h2)]
   refine⟨?_,rfl⟩
   show AV.tup [.imm (.agg [.int .i64 (gI x.1.row 0), .int .i64 (gI x.1.row 1), .int .i64 (gI x.1.row 2), .str (gS x.1.row 3), .sl .any 6 (gR x.1.row 4), .sl .any 7 (gR x.1.row 5)]), .imm (.int .i64 0)]=_
   rw [Zy]
end
def A9j:List UInt8:=[60,60,47,65,32,91,49,32,50,32,48,32,82,93,32,47,66,32,110,117,108,108,62,62]
def Bck:List UInt8:=[120,32,49,50,32,93]
def exV1:V:= .mk 6 0 0 [] [] [([65], .mk 5 0 0 [] [.mk 2 1 0 [] [] [], .mk 7 2 0 [] [] []] [])]
theorem Bfl:Ah7 A9j=(exV1,0):=by kernel_rfl
theorem Bfo:Vn Bck 1=(.mk 2 12 0 [] [] [],4,0):=by kernel_rfl
theorem Bfq:Ah7 [91,49]=(zero,5):=by kernel_rfl
theorem Bft:Ah7 [49,32,49]=(zero,4):=by kernel_rfl
theorem Bdt:exV1.row=[.int .i64 6, .int .i64 0, .int .i64 0, .str [], .sl .any 6 [], .sl .any 7 [[.str [65], .int .i64 5, .int .i64 0, .int .i64 0, .str [], .sl .any 6 [[.int .i64 2, .int .i64 1, .int .i64 0, .str [], .sl .any 6 [], .sl .any 7 []],[.int .i64 7, .int .i64 2, .int .i64 0, .str [], .sl .any 6 [], .sl .any 7 []]], .sl .any 7 []]]]:=by
 simp [exV1,Aiy,Cu]
theorem Arx:Call E0.P Cq [] [] (Is (.imm (.bool true)) []):=by
 have w1:=Alb A9j (by decide)
 have w2:=Ar9 Bck (by decide) 1
 have w3:=Alb [91,49] (by decide)
 have w4:=Alb [49,32,49] (by decide)
 have f1:=Ba5 A9j (by decide)
 rw [Bfl]at w1 f1
 rw [Bfo]at w2
 rw [Bfq]at w3
 rw [Bft]at w4
 refine As8 _ (Call.use w1 ⟨⟨rfl, ?_⟩,Call.use w2 ⟨⟨rfl, ?_⟩,Call.use w3 ⟨⟨rfl, ?_⟩,Call.use w4 ⟨⟨rfl, ?_⟩, ?_⟩⟩⟩⟩)
 ·exact(K4 (exV1,0,0)).symm
 ·exact(Avs (.mk 2 12 0 [] [] [],4,0)).symm
 ·exact(K4 (zero,0,5)).symm
 ·exact(K4 (zero,0,4)).symm
 ·have eq:=A13 exV1 f1 exV1
  have e1:AV.imm (.agg [.int .i64 (gI exV1.row 0), .int .i64 (gI exV1.row 1), .int .i64 (gI exV1.row 2), .str (gS exV1.row 3), .sl .any 6 (gR exV1.row 4), .sl .any 7 (gR exV1.row 5)])= .imm (.agg exV1.row):=by rw [Zy]
  show Call E0.P He [.imm (.agg [.int .i64 (gI exV1.row 0), .int .i64 (gI exV1.row 1), .int .i64 (gI exV1.row 2), .str (gS exV1.row 3), .sl .any 6 (gR exV1.row 4), .sl .any 7 (gR exV1.row 5)]),_] [] _
  rw [e1, ←Bdt]
  refine eq.mono fun r g hx=> ?_
  obtain⟨c,g1,g2,g3⟩:=hx
  have hc:c=true:=g3.2 rfl
  subst hc;subst g1;subst g2
  exact⟨⟨rfl,rfl⟩,Let.intro (Let.intro (Let.intro (Let.intro (Let.intro ⟨rfl,rfl⟩))))⟩
end Go.Proofs.Sim.Se

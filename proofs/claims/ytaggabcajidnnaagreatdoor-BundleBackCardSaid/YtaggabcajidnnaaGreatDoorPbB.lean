import Derived.Test.YtaggabcajidnnaaGreatDoorPbA
import Derived.Test.YtaggabcajidnnaaGreatDoorVsC
set_option maxRecDepth 100000
namespace Go.Proofs.Sim.Se
open Go Go.Proofs Go.Proofs.Sim Go.Proofs.Sim.Va Go.RowKit Go.Proofs.Sim.Pa
abbrev Boi:AV:= .imm (.agg [.int .i64 0, .int .i64 0, .int .i64 0, .str [], .sl .any 6 [], .sl .any 7 []])
abbrev rrA(x:V × Nat × Int):AV:= .tup [.imm (.agg x.1.row), .imm (.int .i64 x.2.1), .imm (.int .i64 x.2.2)]
abbrev Bn4(r:AV):AV:= .tup [.imm (.agg [.int .i64 (gI (Ad (rT r 0)) 0), .int .i64 (gI (Ad (rT r 0)) 1), .int .i64 (gI (Ad (rT r 0)) 2), .str (gS (Ad (rT r 0)) 3), .sl .any 6 (gR (Ad (rT r 0)) 4), .sl .any 7 (gR (Ad (rT r 0)) 5)]), .imm (.int .i64 (rI (rT r 1))), .imm (.int .i64 (rI (rT r 2)))]
theorem Blm(x:V × Nat × Int):Bn4 (rrA x)=rrA x:=by
 show AV.tup [.imm (.agg [.int .i64 (gI x.1.row 0), .int .i64 (gI x.1.row 1), .int .i64 (gI x.1.row 2), .str (gS x.1.row 3), .sl .any 6 (gR x.1.row 4), .sl .any 7 (gR x.1.row 5)]), .imm (.int .i64 x.2.1), .imm (.int .i64 x.2.2)]=_
 rw [Aah]
theorem Bn5(e:Int):AV.tup [Boi, .imm (.int .i64 0), .imm (.int .i64 e)]=rrA (M7 e):=by
 unfold M7 rrA;rw [Atu];rfl
section
variable (s:List UInt8) (hs:s.length≤1000000000)
include hs
end
end Go.Proofs.Sim.Se
set_option maxRecDepth 100000
namespace Go.Proofs.Sim.Se
open Go Go.Proofs Go.Proofs.Sim Go.Proofs.Sim.Va Go.RowKit Go.Proofs.Sim.Pa
def Axn(l:List V):Nat:=(l.map Ch).sum
def Ao7(d:List Pr):Nat:=(d.map fun p=>Ch p.2).sum
theorem K6(k n g:Int)(t:List UInt8):Ch (.mk k n g t [] [])=1:=by rw [P7];rfl
theorem Bho(s:List UInt8)(rd:Nat→V × Nat × Int)(hf:∀a,a≤s.length→Ao0 s a (rd a))(hrd:∀a,a≤s.length→(rd a).2.2=0→a+Ch (rd a).1≤(rd a).2.1):∀(m a:Nat) (acc:List V),a≤s.length→(Q8 s rd m a acc).2.2=0→a+Ch (Q8 s rd m a acc).1≤(Q8 s rd m a acc).2.1+Axn acc:=by
 intro m
 induction m with
 |zero=>intro a acc ha h;cases h
 |succ m ih=>
  intro a acc ha h
  rw [Q8]at h ⊢
  split at h
  ·rename_i h1;exact absurd h h1
  rename_i h1
  rw [if_neg h1]
  have f:=Qf s a ha (Classical.not_not.1 h1)
  split at h
  ·rename_i h2
   rw [if_pos h2]
   have:=f.2.2 (by rw [h2];decide)
   rw [P7]
   show a+(1+Axn acc+0)≤(Ak s a).b+Axn acc
   omega
  ·rename_i h2
   rw [if_neg h2]
   split at h
   ·rename_i h3;exact absurd h h3
   ·rename_i h3
    rw [if_neg h3]
    have hr:=hrd a ha (Classical.not_not.1 h3)
    have hb:=hf a ha (Classical.not_not.1 h3)
    have:=ih _ _ hb.2 h
    have e:Axn (acc++[(rd a).1])=Axn acc+Ch (rd a).1:=by unfold Axn;simp
    omega
theorem Bgy(s:List UInt8)(rd:Nat→V × Nat × Int)(hf:∀a,a≤s.length→Ao0 s a (rd a))(hrd:∀a,a≤s.length→(rd a).2.2=0→a+Ch (rd a).1≤(rd a).2.1):∀(m a:Nat) (acc:List Pr),a≤s.length→(P9 s rd m a acc).2.2=0→a+Ch (P9 s rd m a acc).1≤(P9 s rd m a acc).2.1+Ao7 acc:=by
 intro m
 induction m with
 |zero=>intro a acc ha h;cases h
 |succ m ih=>
  intro a acc ha h
  rw [P9]at h ⊢
  split at h
  ·rename_i h1;exact absurd h h1
  rename_i h1
  rw [if_neg h1]
  have f:=Qf s a ha (Classical.not_not.1 h1)
  split at h
  ·rename_i h2
   rw [if_pos h2]
   have:=f.2.2 (by rw [h2];decide)
   rw [P7]
   show a+(1+0+Ao7 acc)≤(Ak s a).b+Ao7 acc
   omega
  rename_i h2
  rw [if_neg h2]
  split at h
  ·cases h
  rename_i h3
  rw [if_neg h3]
  split at h
  ·cases h
  rename_i h4
  rw [if_neg h4]
  split at h
  ·cases h
  rename_i h5
  rw [if_neg h5]
  split at h
  ·rename_i h6;exact absurd h h6
  ·rename_i h6
   rw [if_neg h6]
   have hr:=hrd _ f.2.1 (Classical.not_not.1 h6)
   have hb:=hf _ f.2.1 (Classical.not_not.1 h6)
   have:=ih _ _ hb.2 h
   have e:Ao7 (acc++[((Ak s a).s,(rd (Ak s a).b).1)])=Ao7 acc+Ch (rd (Ak s a).b).1:=by unfold Ao7;simp
   omega
theorem Bk8(s:List UInt8)(n:Int)(b:Nat)(h:(numL s n b).2.2=0):Ch (numL s n b).1=1:=by
 unfold numL at h ⊢
 split
 ·exact K6 _ _ _ _
 ·rename_i g c hl
  rw [hl]at h
  simp only at h
  split
  ·rename_i h1;rw [if_pos h1]at h;cases h
  ·exact K6 _ _ _ _
theorem Bfy(w:List UInt8)(b:Nat):Ch (Aik w b).1=1:=by
 unfold Aik
 split
 ·exact K6 _ _ _ _
 ·split
  ·exact K6 _ _ _ _
  ·split
   ·exact K6 _ _ _ _
   ·exact K6 _ _ _ _
theorem Bh9(s:List UInt8):∀(m w a:Nat),a≤s.length→(Dk s m w a).2.2=0→a+Ch (Dk s m w a).1≤(Dk s m w a).2.1:=by
 intro m
 induction m with
 |zero=>intro w a ha h;cases h
 |succ m ih=>
  intro w a ha h
  have hfin:=Aex s (m+1) w a ha h
  rw [Dk]at h hfin ⊢
  split at h
  ·rename_i h1;exact absurd h h1
  rename_i h1
  rw [if_neg h1]at hfin ⊢
  have f:=Qf s a ha (Classical.not_not.1 h1)
  split at h
  ·cases h
  rename_i h2
  rw [if_neg h2]at hfin ⊢
  split at h
  ·rename_i h3
   rw [if_pos h3]at hfin ⊢
   rw [Bk8 _ _ _ h];omega
  rename_i h3
  rw [if_neg h3]at hfin ⊢
  split at h
  ·rename_i h4;rw [if_pos h4]at hfin ⊢; rw [K6];omega
  rename_i h4
  rw [if_neg h4]at hfin ⊢
  split at h
  ·rename_i h5;rw [if_pos h5]at hfin ⊢; rw [K6];omega
  rename_i h5
  rw [if_neg h5]at hfin ⊢
  split at h
  ·rename_i h6
   rw [if_pos h6]at hfin ⊢; rw [Bfy];omega
  rename_i h6
  rw [if_neg h6]at hfin ⊢
  split at h
  ·rename_i h7
   rw [if_pos h7]at hfin ⊢
   split at h
   ·cases h
   ·rename_i h8
    rw [if_neg h8]at hfin ⊢
    have:=Bho s (Dk s m (w+1)) (fun a ha=>Aex s m (w+1) a ha) (fun a ha=>ih (w+1) a ha) _ _ [] f.2.1 h
    have e:Axn []=0:=rfl
    omega
  rename_i h7
  rw [if_neg h7]at hfin ⊢
  split at h
  ·rename_i h8
   rw [if_pos h8]at hfin ⊢
   split at h
   ·cases h
   ·rename_i h9
    rw [if_neg h9]at hfin ⊢
    have:=Bgy s (Dk s m (w+1)) (fun a ha=>Aex s m (w+1) a ha) (fun a ha=>ih (w+1) a ha) _ _ [] f.2.1 h
    have e:Ao7 []=0:=rfl
    omega
  ·cases h
theorem Bo3(k n g:Int)(t:List UInt8)(l:List V)(d:List Pr):(Us k n g t l d).l=[]∨(Us k n g t l d).l=l:=by
 unfold Us
 split
 ·exact .inl rfl
 ·split
  ·exact .inl rfl
  ·split
   ·exact .inr rfl
   ·split
    ·exact .inl rfl
    ·split
     ·exact .inl rfl
     ·split
      ·exact .inl rfl
      ·exact .inl rfl
theorem Bd7 {v:V} (h:Fit v):Fit v.plain:=by
 induction h with
 |mk v h1 h2 _ _ ih1 ih2=>
  have hd:=A0t v
  have hl:v.plain.l=[]∨v.plain.l=v.l.map V.plain:=by rw [Eh];exact Bo3 _ _ _ _ _ _
  refine .mk _ ?_ (by omega) (fun x hx=> ?_) (fun p hp=> ?_)
  ·rcases hl with e |e<;>rw [e]
   ·simp
   ·rw [List.length_map];exact h1
  ·rcases hl with e |e
   ·rw [e]at hx;cases hx
   ·rw [e]at hx
    obtain⟨y,hy,rfl⟩:=List.mem_map.1 hx
    exact ih1 y hy
  ·rcases Auv v with e |e
   ·rw [e]at hp;cases hp
   ·rw [e]at hp
    have hp:=Ap8 (List.mem_filter.1 hp).1
    obtain⟨q,hq,rfl⟩:=List.mem_map.1 hp
    exact ih2 q hq
def Akl(s:List UInt8)(a:Int):V × Nat × Int:=
 if(Dk s (s.length+1) 0 (Ol s a)).2.2≠0 then M7 (Dk s (s.length+1) 0 (Ol s a)).2.2 else((Dk s (s.length+1) 0 (Ol s a)).1.plain,(Dk s (s.length+1) 0 (Ol s a)).2.1,0)
def Abb(s:List UInt8):V × Int:=
 if(Akl s 0).2.2≠0 then(zero,(Akl s 0).2.2)else if(Ak s (Akl s 0).2.1).e≠0 then(zero,(Ak s (Akl s 0).2.1).e)else if(Ak s (Akl s 0).2.1).k≠0 then(zero,4)else((Akl s 0).1,0)
abbrev whA(x:V × Int):AV:= .tup [.imm (.agg x.1.row), .imm (.int .i64 x.2)]
theorem Aol(e:Int):AV.tup [Boi, .imm (.int .i64 e)]=whA (zero,e):=by
 unfold whA zero;rw [Atu];rfl
section
variable (s:List UInt8) (hs:s.length≤1000000000)
include hs
theorem Bia(m w a:Nat)(ha:a≤s.length)(h:(Dk s m w a).2.2=0):Fit (Dk s m w a).1:=by
 have h1:=Bh9 s m w a ha h
 have h2:=Aex s m w a ha h
 exact Ant 1000000000 (by decide) _ _ (Nat.le_refl _) (by omega)
theorem Bga(a:Int):Call E0.P Aej [.imm (.str s), .imm (.int .i64 a)] [] (Is (rrA (Akl s a)) []):=by
 refine Awq _ _ _ ((Bj3 s hs (s.length+1) 0 a (by omega) (by have:=Aoc s a;omega)).mono fun r g hx=> ?_)
 have hfit:=Bia s hs (s.length+1) 0 _ (Aoc s a)
 unfold Akl
 generalize Dk s (s.length+1) 0 (Ol s a)=x at hx hfit
 obtain⟨c,g1,g2,g3⟩:=hx
 subst g1;subst g2
 refine⟨⟨rfl,(Pk x).symm⟩,Yg (p:=x.2.2=0) Bt (fun h=> ?_) fun h=> ?_⟩
 ·rw [if_pos h];exact⟨Bn5 _,rfl⟩
 ·rw [if_neg (fun h'=>h' h)]
  have hp:=At9 x.1 (hfit h)
  show Call E0.P El [.imm (.agg [.int .i64 (gI x.1.row 0), .int .i64 (gI x.1.row 1), .int .i64 (gI x.1.row 2), .str (gS x.1.row 3), .sl .any 6 (gR x.1.row 4), .sl .any 7 (gR x.1.row 5)])] [] _
  rw [Aah]
  have fm:AV.imm (.agg [.int .i64 (gI x.1.plain.row 0), .int .i64 (gI x.1.plain.row 1), .int .i64 (gI x.1.plain.row 2), .str (gS x.1.plain.row 3), .sl .any 6 (gR x.1.plain.row 4), .sl .any 7 (gR x.1.plain.row 5)])= .imm (.agg x.1.plain.row):=by rw [Aah]
  refine Call.use hp ⟨⟨rfl,fm.symm⟩, ?_⟩
  refine⟨?_,rfl⟩
  show AV.tup [.imm (.agg [.int .i64 (gI x.1.plain.row 0), .int .i64 (gI x.1.plain.row 1), .int .i64 (gI x.1.plain.row 2), .str (gS x.1.plain.row 3), .sl .any 6 (gR x.1.plain.row 4), .sl .any 7 (gR x.1.plain.row 5)]), .imm (.int .i64 c), .imm (.int .i64 0)]=_
  rw [Aah,g3 h]
theorem Bgb:Call E0.P Aek [.imm (.str s)] [] (Is (whA (Abb s)) []):=by
 have hc:=Bga s hs 0
 unfold Abb
 generalize Akl s 0=x at hc
 refine Awr _ _ (Call.use hc ⟨⟨rfl,(Blm x).symm⟩,Yg (p:=x.2.2=0) Bt (fun h=> ?_) fun h=> ?_⟩)
 ·rw [if_pos h];exact⟨Aol _,rfl⟩
 ·rw [if_neg (fun h'=>h' h)]
  refine Call.use (Azg s hs x.2.1) ⟨⟨rfl,rfl⟩,Yg (p:=(Ak s x.2.1).e=0) Bt (fun h1=> ?_) fun h1=>Yg (p:=(Ak s x.2.1).k=0) Bt (fun h2=> ?_) fun h2=> ?_⟩
  ·rw [if_pos h1];exact⟨Aol _,rfl⟩
  ·rw [if_neg (fun h'=>h' h1),if_pos h2];exact⟨Aol _,rfl⟩
  ·rw [if_neg (fun h'=>h' h1),if_neg (fun h'=>h' h2)]
   refine⟨?_,rfl⟩
   show AV.tup [.imm (.agg [.int .i64 (gI x.1.row 0), .int .i64 (gI x.1.row 1), .int .i64 (gI x.1.row 2), .str (gS x.1.row 3), .sl .any 6 (gR x.1.row 4), .sl .any 7 (gR x.1.row 5)]), .imm (.int .i64 0)]=_
   rw [Aah]
end
end Go.Proofs.Sim.Se

import Derived.Test.YtaggabcajidnnaaGreatDoorPaD
import Derived.Test.YtaggabcajidnnaaGreatDoorVaA
namespace Go.Proofs.Sim.Pa
open Go Go.Proofs Go.Proofs.Sim Go.Proofs.Sim.Va Go.Proofs.Sim.Se
theorem Bpu:∀(m:Nat) (l out:List UInt8) (a:Nat),l.length≤m→(nameL l out a).2.2=0→a≤(nameL l out a).2.1∧(nameL l out a).2.1≤a+l.length:=by
 intro m
 induction m with
 |zero=>
  intro l out a hl _
  have:l=[]:=List.length_eq_zero_iff.1 (by omega)
  subst this
  exact⟨Nat.le_refl _,Nat.le_refl _⟩
 |succ m ih=>
  intro l out a hl h
  rcases l with _ |⟨c,r⟩
  ·exact⟨Nat.le_refl _,Nat.le_refl _⟩
  ·rw [nameL.eq_def]at h ⊢
   simp only at h ⊢
   split at h
   ·rename_i hk
    rw [if_pos hk]
    split at h
    ·rename_i h35
     rw [if_pos h35]
     rcases r with _ |⟨x,_ |⟨y,r⟩⟩
     ·cases h
     ·cases h
     ·simp only at h ⊢
      split at h
      ·cases h
      ·rename_i h1
       rw [if_neg h1]
       split at h
       ·cases h
       ·rename_i h2
        rw [if_neg h2]
        simp only [List.length_cons]at hl ⊢
        have:=ih r _ (a+3) (by omega) h
        omega
    ·rename_i h35
     rw [if_neg h35]
     split at h
     ·cases h
     ·rename_i h2
      rw [if_neg h2]
      simp only [List.length_cons]at hl ⊢
      have:=ih r _ (a+1) (by omega) h
      omega
   ·rename_i hk
    rw [if_neg hk]
    simp only;omega
theorem Bqi:∀(m:Nat) (l out:List UInt8) (d:Int) (a:Nat),(Mf m l out d a).2.2=0→a≤(Mf m l out d a).2.1∧(Mf m l out d a).2.1≤a+l.length:=by
 intro m
 induction m with
 |zero=>intro l out d a h;cases h
 |succ m ih=>
  intro l out d a h
  rcases l with _ |⟨c,r⟩
  ·cases h
  ·rw [Mf]at h ⊢
   have he:=Azf (c::r)
   split at h
   ·rename_i h1
    rw [if_pos h1]
    split at h
    ·cases h
    rename_i h2
    rw [if_neg h2]
    have:=ih _ _ _ _ h
    rw [List.length_drop]at this
    omega
   ·rename_i h1
    rw [if_neg h1]
    split at h
    ·rename_i h92
     rw [if_pos h92]
     split at h
     ·cases h
     ·rename_i t k hesc
      have hk:=Bg0 hesc
      split at h
      ·cases h
      rename_i h2
      simp only [if_neg h2]
      have:=ih _ _ _ _ h
      rw [List.length_drop]at this
      simp only [List.length_cons]
      omega
    ·rename_i h92
     rw [if_neg h92]
     simp only [List.length_cons]
     split at h
     ·rename_i h41
      rw [if_pos h41]
      simp only;omega
     ·rename_i h41
      rw [if_neg h41]
      split at h
      ·cases h
      ·rename_i h2
       rw [if_neg h2]
       have:=ih _ _ _ _ h
       omega
theorem Br5:∀(l:List UInt8) (half:Int) (out:List UInt8) (a:Nat),(Rx l half out a).2.2=0→a≤(Rx l half out a).2.1∧(Rx l half out a).2.1≤a+l.length:=by
 intro l
 induction l with
 |nil=>intro half out a h;cases h
 |cons c r ih=>
  intro half out a h
  rw [Rx]at h ⊢
  simp only [List.length_cons]
  split at h
  ·rename_i h1
   rw [if_pos h1]
   split at h
   ·rename_i h2;rw [if_pos h2];simp only;omega
   ·rename_i h2
    rw [if_neg h2]
    split at h
    ·cases h
    ·rename_i h3;rw [if_neg h3];simp only;omega
  ·rename_i h1
   rw [if_neg h1]
   split at h
   ·rename_i h2
    rw [if_pos h2]
    split at h
    ·rename_i h3
     rw [if_pos h3]
     have:=ih _ _ _ h
     omega
    ·cases h
   ·rename_i h2
    rw [if_neg h2]
    split at h
    ·rename_i h3
     rw [if_pos h3]
     have:=ih _ _ _ h
     omega
    ·rename_i h3
     rw [if_neg h3]
     split at h
     ·cases h
     ·rename_i h4
      rw [if_neg h4]
      have:=ih _ _ _ h
      omega
theorem A50(k:Int)(p lo hi:Nat)(x:Part)(hx:x.2.2=0→lo≤x.2.1∧x.2.1≤hi)(h:(partT k p x).e=0):lo≤(partT k p x).b∧(partT k p x).b≤hi:=by
 unfold partT at h ⊢
 split
 ·rename_i h0;exact hx h0
 ·rename_i h0;rw [if_neg h0]at h;exact absurd h h0
theorem Bth(l:List UInt8)(p:Nat)(h:(Ng l p).e=0):(Ng l p).b=p+Cf 2 l:=by
 unfold Ng at h ⊢
 split
 ·rfl
 ·rename_i h1
  rw [if_neg h1]at h
  split
  ·rename_i h2;rw [if_pos h2]at h;cases h
  ·rename_i h2
   rw [if_neg h2]at h
   split
   ·rename_i h3;rw [if_pos h3]at h;cases h
   ·rfl
theorem Bwv(c:UInt8)(r:List UInt8)(p:Nat)(hc:kd c≠0)(h:(Qk c r p).e=0):p+1≤(Qk c r p).b∧(Qk c r p).b≤p+1+r.length:=by
 unfold Qk at h ⊢
 have hd:∀x,r.head?=some x→1≤r.length:=by
  intro x hx
  rcases r with _ |⟨y,r⟩
  ·cases hx
  ·simp
 split
 ·exact⟨Nat.le_refl _,by simp⟩
 rename_i h1
 rw [if_neg h1]at h
 split
 ·exact⟨Nat.le_refl _,by simp⟩
 rename_i h2
 rw [if_neg h2]at h
 split
 ·rename_i h3
  rw [if_pos h3]at h
  exact A50 _ _ _ _ _ (fun hx=>Bpu r.length r [] (p+1) (Nat.le_refl _) hx) h
 rename_i h3
 rw [if_neg h3]at h
 split
 ·rename_i h4
  rw [if_pos h4]at h
  exact A50 _ _ _ _ _ (fun hx=>Bqi _ r [] 1 (p+1) hx) h
 rename_i h4
 rw [if_neg h4]at h
 split
 ·rename_i h5
  rw [if_pos h5]at h
  split
  ·rename_i h6;have:=hd _ h6;simp only;omega
  ·rename_i h6
   rw [if_neg h6]at h
   exact A50 _ _ _ _ _ (fun hx=>Br5 r (-1) [] (p+1) hx) h
 rename_i h5
 rw [if_neg h5]at h
 split
 ·rename_i h6
  rw [if_pos h6]at h
  split
  ·rename_i h7;have:=hd _ h7;simp only;omega
  ·rename_i h7;rw [if_neg h7]at h;cases h
 rename_i h6
 rw [if_neg h6]at h
 split
 ·rename_i h7;rw [if_pos h7]at h;cases h
 ·rename_i h7
  rw [if_neg h7]at h
  rw [Bth _ _ h]
  have h8:=Ahn 2 (c::r)
  have h9:Cf 2 (c::r)=Cf 2 r+1:=by
   rw [Cf,if_pos]
   have three:kd c=0∨kd c=1∨kd c=2:=by
    unfold kd Vh
    split
    ·exact .inl rfl
    ·split
     ·exact .inr (.inl rfl)
     ·exact .inr (.inr rfl)
   rcases three with h |h |h
   ·exact absurd h hc
   ·exact absurd h h7
   ·exact h
  simp only [List.length_cons]at h8
  omega
theorem Bi2:∀(b:Bool) (l:List UInt8) (c:UInt8) (r:List UInt8),l.drop (Gl b l)=c::r→kd c≠0
 |_,[],c,r,h=>by simp [Gl]at h
 |b,x::l,c,r,h=>by
  rw [Gl]at h
  by_cases hx:Kz b x=false∧kd x≠0
  ·rw [if_pos hx,List.drop_zero]at h
   injection h with h1 h2
   subst h1
   exact hx.2
  ·rw [if_neg hx,List.drop_succ_cons]at h
   exact Bi2 _ l c r h
theorem Bs8(s:List UInt8)(a:Int):Lp s a≤Dp s a:=by unfold Dp;omega
theorem Zy(s:List UInt8)(a:Nat)(h:a≤s.length):Lp s (a:Int)=a:=by
 unfold Lp;rw [if_neg (by omega),if_neg (by omega)];omega
theorem Bwi(s:List UInt8)(a:Int):Lp s ((Lp s a:Nat):Int)=Lp s a:=Zy s _ (Yn s a)
theorem Au1(s:List UInt8)(a:Int):Aj s ((Lp s a:Nat):Int)=Aj s a:=by
 unfold Aj Dp;rw [Bwi]
theorem A5i(s:List UInt8)(a:Int)(h:(Aj s a).e=0):Lp s a≤(Aj s a).b∧(Aj s a).b≤s.length∧((Aj s a).k≠0→Lp s a<(Aj s a).b):=by
 have h1:=Bs8 s a
 have h2:=A55 s a
 by_cases hp:Dp s a<s.length
 ·rw [A5j s a hp]at h ⊢
  have hc:kd s[Dp s a]≠0:=by
   refine Bi2 false (s.drop (Lp s a)) _ (s.drop (Dp s a+1)) ?_
   rw [List.drop_drop]
   exact De s _ hp
  have:=Bwv s[Dp s a] (s.drop (Dp s a+1)) (Dp s a) hc h
  rw [List.length_drop]at this
  omega
 ·rw [A5h s a hp]at h ⊢
  exact⟨h1,h2,fun h=>absurd rfl h⟩
theorem Oi(s:List UInt8)(a:Nat)(ha:a≤s.length)(h:(Aj s a).e=0):a≤(Aj s a).b∧(Aj s a).b≤s.length∧((Aj s a).k≠0→a<(Aj s a).b):=by
 have:=A5i s a h
 rwa [Zy s a ha]at this
theorem Bsj(s:List UInt8)(b:Nat)(hb:b≤s.length) {g:Int} {c:Nat} (h:Zq s b=some (g,c)):b<c∧c≤s.length:=by
 unfold Zq at h
 split at h
 ·rename_i h1
  split at h
  ·rename_i h2
   injection h with h;injection h with _ h
   subst h
   have f1:=Oi s b hb h1.1
   have f2:=Oi s _ f1.2.1 h2.1
   have:=f1.2.2 (by rw [h1.2];decide)
   exact⟨by omega,f2.2.1⟩
  ·cases h
 ·cases h
theorem Bwb(s:List UInt8)(n:Int)(b:Nat)(hb:b≤s.length)(h:(numL s n b).2.2=0):b≤(numL s n b).2.1∧(numL s n b).2.1≤s.length:=by
 unfold numL at h ⊢
 split
 ·exact⟨Nat.le_refl _,hb⟩
 ·rename_i g c hl
  rw [hl]at h
  simp only at h
  split
  ·rename_i h1;rw [if_pos h1]at h;cases h
  ·have:=Bsj s b hb hl
   simp only;omega
theorem Bdo(w:List UInt8)(b:Nat)(h:(Ah9 w b).2.2=0):(Ah9 w b).2.1=b:=by
 unfold Ah9 at h ⊢
 split
 ·rfl
 ·rename_i h1
  rw [if_neg h1]at h
  split
  ·rfl
  ·rename_i h2
   rw [if_neg h2]at h
   split
   ·rfl
   ·rename_i h3;rw [if_neg h3]at h;cases h
def Aue(s:List UInt8)(a:Nat)(x:V × Nat × Int):Prop:=x.2.2=0→a<x.2.1∧x.2.1≤s.length
theorem Bsl(s:List UInt8)(rd:Nat→V × Nat × Int)(hrd:∀a,a≤s.length→Aue s a (rd a)):∀(m a:Nat) (acc:List V),a≤s.length→Aue s a (Vi s rd m a acc):=by
 intro m
 induction m with
 |zero=>intro a acc ha h;cases h
 |succ m ih=>
  intro a acc ha h
  rw [Vi]at h ⊢
  split at h
  ·rename_i h1;exact absurd h h1
  ·rename_i h1
   rw [if_neg h1]
   have f:=Oi s a ha (Classical.not_not.1 h1)
   split at h
   ·rename_i h2
    rw [if_pos h2]
    exact⟨f.2.2 (by rw [h2];decide),f.2.1⟩
   ·rename_i h2
    rw [if_neg h2]
    split at h
    ·rename_i h3;exact absurd h h3
    ·rename_i h3
     rw [if_neg h3]
     have hr:=hrd a ha (Classical.not_not.1 h3)
     have:=ih _ _ hr.2 h
     exact⟨by omega,this.2⟩
theorem Brs(s:List UInt8)(rd:Nat→V × Nat × Int)(hrd:∀a,a≤s.length→Aue s a (rd a)):∀(m a:Nat) (acc:List Pr),a≤s.length→Aue s a (U1 s rd m a acc):=by
 intro m
 induction m with
 |zero=>intro a acc ha h;cases h
 |succ m ih=>
  intro a acc ha h
  rw [U1]at h ⊢
  split at h
  ·rename_i h1;exact absurd h h1
  rename_i h1
  rw [if_neg h1]
  have f:=Oi s a ha (Classical.not_not.1 h1)
  split at h
  ·rename_i h2
   rw [if_pos h2]
   exact⟨f.2.2 (by rw [h2];decide),f.2.1⟩
  rename_i h2
  rw [if_neg h2]
  split at h
  ·cases h
  rename_i h3
  rw [if_neg h3]
  split at h
  ·cases h
  rename_i h4
  rw [if_neg h4]
  split at h
  ·cases h
  rename_i h5
  rw [if_neg h5]
  split at h
  ·rename_i h6;exact absurd h h6
  ·rename_i h6
   rw [if_neg h6]
   have hr:=hrd _ f.2.1 (Classical.not_not.1 h6)
   have:=ih _ _ hr.2 h
   exact⟨by omega,this.2⟩
theorem Yo(s:List UInt8):∀(m w a:Nat),a≤s.length→Aue s a (Ea s m w a):=by
 intro m
 induction m with
 |zero=>intro w a ha h;cases h
 |succ m ih=>
  intro w a ha h
  rw [Ea]at h ⊢
  split at h
  ·rename_i h1;exact absurd h h1
  rename_i h1
  rw [if_neg h1]
  have f:=Oi s a ha (Classical.not_not.1 h1)
  split at h
  ·cases h
  rename_i h2
  rw [if_neg h2]
  have f3:=f.2.2 h2
  split at h
  ·rename_i h3
   rw [if_pos h3]
   have:=Bwb s _ _ f.2.1 h
   exact⟨by omega,this.2⟩
  rename_i h3
  rw [if_neg h3]
  split at h
  ·rename_i h4;rw [if_pos h4];exact⟨f3,f.2.1⟩
  rename_i h4
  rw [if_neg h4]
  split at h
  ·rename_i h5;rw [if_pos h5];exact⟨f3,f.2.1⟩
  rename_i h5
  rw [if_neg h5]
  split at h
  ·rename_i h6
   rw [if_pos h6,Bdo _ _ h];exact⟨f3,f.2.1⟩
  rename_i h6
  rw [if_neg h6]
  split at h
  ·rename_i h7
   rw [if_pos h7]
   split at h
   ·cases h
   ·rename_i h8
    rw [if_neg h8]
    have:=Bsl s (Ea s m (w+1)) (fun a ha=>ih (w+1) a ha) _ _ _ f.2.1 h
    exact⟨by omega,this.2⟩
  rename_i h7
  rw [if_neg h7]
  split at h
  ·rename_i h8
   rw [if_pos h8]
   split at h
   ·cases h
   ·rename_i h9
    rw [if_neg h9]
    have:=Brs s (Ea s m (w+1)) (fun a ha=>ih (w+1) a ha) _ _ _ f.2.1 h
    exact⟨by omega,this.2⟩
  ·cases h
end Go.Proofs.Sim.Pa
set_option maxRecDepth 100000
namespace Go.Proofs.Sim.Se
open Go Go.Proofs Go.Proofs.Sim Go.Proofs.Sim.Va Go.RowKit Go.Proofs.Sim.Pa
abbrev prH(s:List UInt8)(a w:Int):Heap:=[(Nm.arg 0, .blk Ap [.imm (.str s), .imm (.int .i64 a), .imm (.int .i64 w)])]
abbrev rdA(x:V × Nat × Int):AV:= .tup [.imm (.agg x.1.row), .imm (.int .i64 x.2.2)]
def RdQ(s:List UInt8)(w:Int)(x:V × Nat × Int):QQ:=fun r h=>∃c:Int,h=prH s c w∧r=rdA x∧(x.2.2=0→c=x.2.1)
theorem Ata(k n g:Int)(t:List UInt8)(l:List V)(d:List Pr):(V.mk k n g t l d).row=[.int .i64 k, .int .i64 n, .int .i64 g, .str t, .sl .any 6 (l.map V.row), .sl .any 7 (d.map Bc)]:=Cn _
theorem Boy(e:Int):rdA (Kt e)= .tup [.imm (.agg [.int .i64 0, .int .i64 0, .int .i64 0, .str [], .sl .any 6 [], .sl .any 7 []]), .imm (.int .i64 e)]:=by
 unfold Kt rdA;rw [Ata];rfl
theorem Wd {s:List UInt8} {w c e:Int} (he:e≠0):RdQ s w (Kt e) (.tup [.imm (.agg [.int .i64 0, .int .i64 0, .int .i64 0, .str [], .sl .any 6 [], .sl .any 7 []]), .imm (.int .i64 e)]) (prH s c w):=
 ⟨c,rfl,(Boy e).symm,fun h=>absurd h he⟩
theorem Atr {s:List UInt8} {w:Int} {c:Nat} {k n g:Int} {t:List UInt8} {l:List V} {d:List Pr} {L D:LL} (hl:l.map V.row=L)(hd:d.map Bc=D):
 RdQ s w (.mk k n g t l d,c,0) (.tup [.imm (.agg [.int .i64 k, .int .i64 n, .int .i64 g, .str t, .sl .any 6 L, .sl .any 7 D]), .imm (.int .i64 0)]) (prH s c w):=by
 subst hl;subst hd
 exact⟨c,rfl,by unfold rdA;rw [Ata],fun _=>rfl⟩
def Ru(t:Tk)(a:Int):Int:=if t.e=0 then t.b else a
section
variable (s:List UInt8) (hs:s.length≤1000000000)
include hs
theorem An7(a w:Int):Call E0.P F9 [.ptr (.arg 0) 0] (prH s a w) (Is (nxA (Aj s a)) (prH s (Ru (Aj s a) a) w)):=by
 refine Aqm _ _ _ _ (Call.use (A76 s hs a) ⟨⟨rfl,rfl⟩, ?_⟩)
 have fin:∀c:Int,c=Ru (Aj s a) a→Mo (Aj s a).e 0 0 [] 0 0 (Aj s a).k (Aj s a).n (Aj s a).s (Aj s a).a (Aj s a).b s c w (Mt s a w (Is (nxA (Aj s a)) (prH s (Ru (Aj s a) a) w))):=by
  intro c hc
  subst hc
  refine Amh _ _ _ _ _ _ _ _ _ _ _ _ _ _ _ ?_
  apply Amw
  exact⟨rfl,rfl⟩
 refine Cg (p:=(Aj s a).e=0) Bb (fun h=>fin _ ?_) fun h=>fin _ ?_
 ·unfold Ru;rw [if_pos h];rfl
 ·unfold Ru;rw [if_neg h]
theorem Bob(a:Int)(w:Int)(h:Zq s (Lp s a)=none)(_ha:0≤a∧a≤s.length):Call E0.P N9 [.ptr (.arg 0) 0] (prH s a w) (Is (.tup [.imm (.int .i64 0), .imm (.bool false)]) (prH s a w)):=by
 have fin:∀c,Mq s c w s a (Mv s a w (Is (.tup [.imm (.int .i64 0), .imm (.bool false)]) (prH s a w))):=by
  intro c
  refine Ami _ _ _ _ _ _ ?_
  apply Am0
  exact⟨rfl,rfl⟩
 refine Aa1 _ _ _ _ (Call.use (An7 s hs a w) ⟨⟨rfl,rfl⟩,Let.intro ?_⟩)
 unfold Zq at h
 rw [Au1]at h
 refine Cg (p:=(Aj s a).e=0∧(Aj s a).k=1) (N8 _ _) (fun h1=> ?_) fun _=>fin _
 rw [if_pos h1]at h
 have e1:Ru (Aj s a) a=((Aj s a).b:Nat):=by unfold Ru;rw [if_pos h1.1]
 rw [e1]
 refine Call.use (An7 s hs ((Aj s a).b:Nat) w) ⟨⟨rfl,rfl⟩,Let.intro (Let.intro ?_)⟩
 refine Cg (p:=((Aj s (Aj s a).b).e=0∧(Aj s (Aj s a).b).k=8)∧(Aj s (Aj s a).b).s=[82]) ?_ (fun h2=> ?_) fun _=>fin _
 ·rw [←N8 ((Aj s (Aj s a).b).e=0)]
  cases hc:(bif decide ((Aj s (Aj s a).b).e=0)then decide ((Aj s (Aj s a).b).k=8)else false)
  ·constructor
   ·intro h3
    have:(bif (bif decide ((Aj s (Aj s a).b).e=0)then decide ((Aj s (Aj s a).b).k=8)else false)then(Aj s (Aj s a).b).s == [82]else false)=true:=h3
    rw [hc]at this;cases this
   ·rintro⟨h3,_⟩;cases h3
  ·constructor
   ·intro h3
    have:(bif (bif decide ((Aj s (Aj s a).b).e=0)then decide ((Aj s (Aj s a).b).k=8)else false)then(Aj s (Aj s a).b).s == [82]else false)=true:=h3
    rw [hc]at this
    exact⟨rfl,by simpa using this⟩
   ·rintro⟨_,h3⟩
    show(bif (bif decide ((Aj s (Aj s a).b).e=0)then decide ((Aj s (Aj s a).b).k=8)else false)then(Aj s (Aj s a).b).s == [82]else false)=true
    rw [hc,h3];rfl
 ·rw [if_pos ⟨h2.1.1,h2.1.2,h2.2⟩]at h
  cases h
theorem Bl0(a:Int)(w:Int)(g:Int)(c:Nat)(h:Zq s (Lp s a)=some (g,c)):Call E0.P N9 [.ptr (.arg 0) 0] (prH s a w) (Is (.tup [.imm (.int .i64 g), .imm (.bool true)]) (prH s c w)):=by
 refine Aa1 _ _ _ _ (Call.use (An7 s hs a w) ⟨⟨rfl,rfl⟩,Let.intro ?_⟩)
 unfold Zq at h
 rw [Au1]at h
 split at h
 case isFalse=>cases h
 rename_i h1
 refine Cg (p:=(Aj s a).e=0∧(Aj s a).k=1) (N8 _ _) (fun h1=> ?_) fun h'=>absurd h1 h'
 have e1:Ru (Aj s a) a=((Aj s a).b:Nat):=by unfold Ru;rw [if_pos h1.1]
 rw [e1]
 refine Call.use (An7 s hs ((Aj s a).b:Nat) w) ⟨⟨rfl,rfl⟩,Let.intro (Let.intro ?_)⟩
 split at h
 case isFalse=>cases h
 rename_i h2
 injection h with h;injection h with h3 h4
 subst h3;subst h4
 have e2:Ru (Aj s ((Aj s a).b:Nat)) ((Aj s a).b:Nat)=((Aj s ((Aj s a).b:Nat)).b:Nat):=by unfold Ru;rw [if_pos h2.1]
 rw [e2]
 have e3:(bif (bif decide ((Aj s (Aj s a).b).e=0)then decide ((Aj s (Aj s a).b).k=8)else false)then(Aj s (Aj s a).b).s == [82]else false)=true:=by
  rw [decide_eq_true h2.1,decide_eq_true h2.2.1,h2.2.2];rfl
 exact Cg (p:=True) ⟨fun _=>trivial,fun _=>e3⟩ (fun _=>⟨rfl,rfl⟩) fun h=>absurd trivial h
theorem Bq2(a:Nat)(ha:a≤s.length)(w:Int)(n:Int):Call E0.P Rv [.ptr (.arg 0) 0, .imm (.int .i64 n)] (prH s a w) (RdQ s w (numL s n a)):=by
 have hp:=Zy s a ha
 unfold numL
 rcases hl:Zq s a with _ |⟨g,c⟩
 ·refine Xw _ _ _ _ _ (Call.use (Bob s hs a w (by rw [hp];exact hl) ⟨by omega,by omega⟩) ⟨⟨rfl,rfl⟩,Azu rfl ?_⟩)
  exact Atr rfl rfl
 ·refine Xw _ _ _ _ _ (Call.use (Bl0 s hs a w g c (by rw [hp];exact hl)) ⟨⟨rfl,rfl⟩,Azv rfl (Let.intro (Let.intro (Let.intro ?_)))⟩)
  rw [show rI (rT (.tup [.imm (.int .i64 g), .imm (.bool true)]) 0)=g from rfl]
  refine Cg (p:=n<1∨8388607<n∨g<0∨65535<g) (by rw [Ao0,Ao0,A5z];omega) (fun h=> ?_) fun h=> ?_
  ·simp only [if_pos h];exact Wd (by decide)
  ·simp only [if_neg h];exact Atr rfl rfl
omit hs in
theorem Bu4(t:List UInt8)(b:Nat):Call E0.P Aka [.imm (.str t)] [] (Is (rdA (Ah9 t b)) []):=by
 have e:∀(k n g:Int) (t:List UInt8),rdA (.mk k n g t [] [],b,0)= .tup [.imm (.agg [.int .i64 k, .int .i64 n, .int .i64 g, .str t, .sl .any 6 [], .sl .any 7 []]), .imm (.int .i64 0)]:=by
  intro k n g t;unfold rdA;rw [Ata];rfl
 unfold Ah9
 refine A6u _ _ (Cg (p:=t=[116,114,117,101]) (by simp) (fun h=> ?_) fun h1=>Cg (p:=t=[102,97,108,115,101]) (by simp) (fun h=> ?_) fun h2=>Cg (p:=t=[110,117,108,108]) (by simp) (fun h=> ?_) fun h3=> ?_)
 ·rw [if_pos h,e];exact⟨rfl,rfl⟩
 ·rw [if_neg h1,if_pos h,e];exact⟨rfl,rfl⟩
 ·rw [if_neg h1,if_neg h2,if_pos h,e];exact⟨rfl,rfl⟩
 ·rw [if_neg h1,if_neg h2,if_neg h3,Boy];exact⟨rfl,rfl⟩
def Pf(t:Tk)(m:List (List UInt8 × Int)):List UInt8 × Bool × Int:=
 if t.e≠0 then([],false,t.e)else if t.k=0 then([],false,5)else if t.k=7 then([],false,0)else if t.k≠2 then([],false,4)else if 0<Cy m t.s then([],false,11)else(t.s,true,0)
def Azr(t:Tk)(m:List (List UInt8 × Int)):List (List UInt8 × Int):=if(Pf t m).2.1 then mUp m t.s (IntKind.i64.wrap (Cy m t.s+1))else m
abbrev kyA(x:List UInt8 × Bool × Int):AV:= .tup [.imm (.str x.1), .imm (.bool x.2.1), .imm (.int .i64 x.2.2)]
abbrev pmH(s:List UInt8)(a w:Int)(m:List (List UInt8 × Int)):Heap:=[(Nm.arg 0, .blk Ap [.imm (.str s), .imm (.int .i64 a), .imm (.int .i64 w)]),(Nm.arg 1, .map m)]
theorem Bzo(a w:Int)(m:List (List UInt8 × Int)):Call E0.P Wj [.ptr (.arg 0) 0, .mp (.arg 1)] (pmH s a w m) (Is (kyA (Pf (Aj s a) m)) (pmH s (Ru (Aj s a) a) w (Azr (Aj s a) m))):=by
 refine Ar9 _ _ _ _ _ (Call.use (An7 s hs a w) ⟨⟨rfl,rfl⟩, ?_⟩)
 have no:(Pf (Aj s a) m).2.1=false→Azr (Aj s a) m=m:=fun h=>by unfold Azr;rw [h];rfl
 have fin:∀e:Int,Pf (Aj s a) m=([],false,e)→Is (kyA (Pf (Aj s a) m)) (pmH s (Ru (Aj s a) a) w (Azr (Aj s a) m)) (.tup [.imm (.str []), .imm (.bool false), .imm (.int .i64 e)]) (pmH s (Ru (Aj s a) a) w m):=by
  intro e h
  rw [no (by rw [h]),h]
  exact⟨rfl,rfl⟩
 refine Ki (p:=(Aj s a).e=0) Bb (fun h1=>fin _ ?_) fun h1=>Cg (p:=(Aj s a).k=0) Bb (fun h2=>fin _ ?_) fun h2=>Cg (p:=(Aj s a).k=7) Bb (fun h3=>fin _ ?_) fun h3=>Ki (p:=(Aj s a).k=2) Bb (fun h4=>fin _ ?_) fun h4=>Cg (p:=0<Cy m (Aj s a).s) Bb (fun h5=>fin _ ?_) fun h5=> ?_
 ·unfold Pf;rw [if_pos h1];rfl
 ·unfold Pf;rw [if_neg (fun h=>h h1),if_pos h2]
 ·unfold Pf;rw [if_neg (fun h=>h h1),if_neg h2,if_pos h3]
 ·unfold Pf;rw [if_neg (fun h=>h h1),if_neg h2,if_neg h3,if_pos h4]
 ·unfold Pf;rw [if_neg (fun h=>h h1),if_neg h2,if_neg h3,if_neg (fun h=>h h4),if_pos h5]
 ·have hk:Pf (Aj s a) m=((Aj s a).s,true,0):=by
   unfold Pf;rw [if_neg (fun h=>h h1),if_neg h2,if_neg h3,if_neg (fun h=>h h4),if_neg h5]
  have hm:Azr (Aj s a) m=mUp m (Aj s a).s (IntKind.i64.wrap (Cy m (Aj s a).s+1)):=by
   unfold Azr;rw [hk];rfl
  rw [hk,hm]
  exact⟨rfl,rfl⟩
end
end Go.Proofs.Sim.Se
set_option maxRecDepth 100000
namespace Go.Proofs.Sim.Se
open Go Go.Proofs Go.Proofs.Sim Go.Proofs.Sim.Va Go.RowKit Go.Proofs.Sim.Pa
theorem Oc(v:V): [.int .i64 (gI v.row 0), .int .i64 (gI v.row 1), .int .i64 (gI v.row 2), .str (gS v.row 3), .sl .any 6 (gR v.row 4), .sl .any 7 (gR v.row 5)]=v.row:=by rw [Cn];rfl
abbrev Biu(r:AV):AV:= .tup [.imm (.agg [.int .i64 (gI (Ac (rT r 0)) 0), .int .i64 (gI (Ac (rT r 0)) 1), .int .i64 (gI (Ac (rT r 0)) 2), .str (gS (Ac (rT r 0)) 3), .sl .any 6 (gR (Ac (rT r 0)) 4), .sl .any 7 (gR (Ac (rT r 0)) 5)]), .imm (.int .i64 (rI (rT r 1)))]
theorem Qt(x:V × Nat × Int):Biu (rdA x)=rdA x:=by
 show AV.tup [.imm (.agg [.int .i64 (gI x.1.row 0), .int .i64 (gI x.1.row 1), .int .i64 (gI x.1.row 2), .str (gS x.1.row 3), .sl .any 6 (gR x.1.row 4), .sl .any 7 (gR x.1.row 5)]), .imm (.int .i64 x.2.2)]=_
 rw [Oc]
theorem Bht(k x:List UInt8)(v:Int):∀m:List (List UInt8 × Int),Cy (mUp m x v) k=if k=x then v else Cy m k
 | []=>by
   simp only [mUp,Cy]
 |(y,u)::r=>by
  simp only [mUp]
  by_cases h:x=y
  ·subst h
   rw [if_pos rfl,Cy,Cy]
   by_cases hk:k=x
   ·rw [if_pos hk,if_pos hk]
   ·rw [if_neg hk,if_neg hk,if_neg hk]
  ·rw [if_neg h,Cy,Cy,Bht k x v r]
   by_cases hk:k=y
   ·subst hk
    rw [if_pos rfl,if_pos rfl,if_neg (fun e=>h e.symm)]
   ·rw [if_neg hk,if_neg hk]
def Blx(m:List (List UInt8 × Int))(acc:List Pr):Prop:=∀k,(0<Cy m k↔acc.any (fun p=>p.1 == k)=true)∧0≤Cy m k∧Cy m k≤1
theorem Bso:Blx [] []:=fun k=>⟨by simp [Cy],by simp [Cy],by simp [Cy]⟩
theorem Bv6 {m:List (List UInt8 × Int)} {acc:List Pr} (h:Blx m acc)(x:List UInt8)(v:V)(hx:¬0<Cy m x):Blx (mUp m x (IntKind.i64.wrap (Cy m x+1))) (acc++[(x,v)]):=by
 intro k
 have hk:=h k
 have hx2:=h x
 rw [Av _ (by omega) (by omega),Bht]
 by_cases e:k=x
 ·subst e
  rw [if_pos rfl]
  exact⟨⟨fun _=>by simp,fun _=>by omega⟩,by omega,by omega⟩
 ·rw [if_neg e]
  refine⟨?_,hk.2⟩
  rw [hk.1]
  have:¬x=k:=fun h=>e h.symm
  simp [this]
section
variable (s:List UInt8) (hs:s.length≤1000000000)
include hs
abbrev Bf0(s:List UInt8)(m:Nat):Prop:=∀(w:Nat) (a:Int),w≤64→s.length<Lp s a+m→Call E0.P I9 [.ptr (.arg 0) 0] (prH s a w) (RdQ s w (Ea s m w (Lp s a)))
theorem Bxb(m:Nat)(ih:Bf0 s m)(w:Nat)(hw:w≤64)(at0 w0:Int)(Q:QQ)(X:V × Nat × Int)(hQ:∀r h,RdQ s w X r h→Q r h):∀(f a:Nat) (acc:List V),a≤s.length→s.length<a+m→s.length<a+f→acc.length≤a→Vi s (Ea s m w) f a acc=X→
 I4 s a w 0 0 0 [] 5 0 0 [] [] [] (acc.map V.row) [] (Iy s at0 w0 Q):=by
 intro f
 induction f with
 |zero=>intro a acc ha h1 h2;omega
 |succ f ihf=>
  intro a acc ha h1 h2 hl hX
  have hp:=Zy s a ha
  rw [Vi]at hX
  refine Anx _ _ _ _ _ _ _ _ _ _ _ _ _ _ _ _ (Call.use (A76 s hs a) ⟨⟨rfl,rfl⟩, ?_⟩)
  refine Ki (p:=(Aj s a).e=0) Bb (fun he=> ?_) fun he=>Cg (p:=(Aj s a).k=5) Bb (fun h5=> ?_) fun h5=> ?_
  ·rw [if_pos he]at hX
   apply Am2
   exact hQ _ _ (hX ▸ Wd he)
  ·rw [if_neg (fun h=>h he),if_pos h5]at hX
   refine Call.use (An7 s hs a w) ⟨⟨rfl,rfl⟩, ?_⟩
   apply Am3
   refine Ak6 _ _ _ _ _ _ _ _ _ _ _ _ _ _ _ _ ?_
   apply Am1
   have e1:Ru (Aj s a) a=((Aj s a).b:Nat):=by unfold Ru;rw [if_pos he]
   rw [e1]
   exact hQ _ _ (hX ▸ Atr rfl rfl)
  ·rw [if_neg (fun h=>h he),if_neg h5]at hX
   refine(ih w a hw (by rw [hp];omega)).mono fun r g hx=> ?_
   rw [hp]at hx
   have fin:=Yo s m w a ha
   generalize Ea s m w a=x at hx fin hX
   obtain⟨c,e1,e2,e3⟩:=hx
   subst e1;subst e2
   refine⟨⟨rfl,(Qt x).symm⟩,Ki (p:=x.2.2=0) Bb (fun h0=> ?_) fun h0=> ?_⟩
   ·rw [if_pos h0]at hX
    apply Am4
    exact hQ _ _ (hX ▸ Wd h0)
   ·rw [if_neg (fun h=>h h0)]at hX
    have f1:=fin h0
    refine⟨⟨by rw [List.length_map];omega,by rw [List.length_map];omega⟩, ?_⟩
    have e4:(acc.map V.row++[[IV.int .i64 (gI x.1.row 0), .int .i64 (gI x.1.row 1), .int .i64 (gI x.1.row 2), .str (gS x.1.row 3), .sl .any 6 (gR x.1.row 4), .sl .any 7 (gR x.1.row 5)]])=(acc++[x.1]).map V.row:=by rw [Oc];simp
    show I4 s c w 0 0 0 [] 5 0 0 [] [] [] (acc.map V.row++[[IV.int .i64 (gI x.1.row 0), .int .i64 (gI x.1.row 1), .int .i64 (gI x.1.row 2), .str (gS x.1.row 3), .sl .any 6 (gR x.1.row 4), .sl .any 7 (gR x.1.row 5)]]) [] _
    rw [e4,e3 h0]
    exact ihf x.2.1 (acc++[x.1]) f1.2 (by omega) (by omega) (by simp;omega) hX
theorem Bxw(m:Nat)(ih:Bf0 s m)(w:Nat)(hw:w≤64)(a:Nat)(ha:a≤s.length)(h1:s.length<a+m):Call E0.P U9 [.ptr (.arg 0) 0] (prH s a w) (RdQ s w (Vi s (Ea s m w) (s.length+1) a [])):=
 Aqo _ _ _ _ (Bxb s hs m ih w hw a w _ _ (fun _ _ h=>h) (s.length+1) a [] ha h1 (by omega) (by simp) rfl)
theorem Bw9(m:Nat)(ih:Bf0 s m)(w:Nat)(hw:w≤64)(at0 w0:Int)(Q:QQ)(X:V × Nat × Int)(hQ:∀r h,RdQ s w X r h→Q r h):∀(f a:Nat) (acc:List Pr) (mp:List (List UInt8 × Int)),a≤s.length→s.length<a+m→s.length<a+f→acc.length≤a→Blx mp acc→U1 s (Ea s m w) f a acc=X→
 I1 s a w 0 0 0 [] 6 0 0 [] mp [] [] [] (acc.map Bc) (G6 s at0 w0 Q):=by
 intro f
 induction f with
 |zero=>intro a acc mp ha h1 h2;omega
 |succ f ihf=>
  intro a acc mp ha h1 h2 hl hmp hX
  have hp:=Zy s a ha
  rw [U1]at hX
  refine Anw _ _ _ _ _ _ _ _ _ _ _ _ _ _ _ _ _ (Call.use (Bzo s hs a w mp) ⟨⟨rfl,rfl⟩, ?_⟩)
  have bad:∀e:Int,e≠0→X=Kt e→Pf (Aj s a) mp=([],false,e)→∀B,Br (!decide (rI (rT (kyA (Pf (Aj s a) mp)) 2)=0)) (G6 s at0 w0 Q .ret ⟨[(2, .ptr (Nm.loc 2) 0),(3, .imm (.int .i64 (rI (rT (kyA (Pf (Aj s a) mp)) 2))))],[(Nm.loc 2, .blk Aa [.imm (.int .i64 0), .imm (.int .i64 0), .imm (.int .i64 0), .imm (.str []), .own (Nm.sub 22 ((Nm.loc 2).cell 4)), .own (Nm.sub 22 ((Nm.loc 2).cell 5))]),(Nm.arg 0, .blk Ap [.imm (.str s), .imm (.int .i64 (Ru (Aj s a) a)), .imm (.int .i64 w)]),(Nm.sub 22 ((Nm.loc 2).cell 4), .arr (Aa+2) true 6 []),(Nm.sub 22 ((Nm.loc 2).cell 5), .arr (Ae+2) true 7 [])]⟩) B:=by
   intro e he hx hk B
   rw [hk]
   refine Azu (decide_eq_false he) ?_
   apply Amx
   exact hQ _ _ (hx ▸ Wd he)
  by_cases he:(Aj s a).e=0
  case neg=>
   rw [if_pos he]at hX
   exact bad _ he hX.symm (by unfold Pf;rw [if_pos he]) _
  have e1:Ru (Aj s a) a=((Aj s a).b:Nat):=by unfold Ru;rw [if_pos he]
  rw [if_neg (fun h=>h he)]at hX
  by_cases h7:(Aj s a).k=7
  ·rw [if_pos h7]at hX
   have hk:Pf (Aj s a) mp=([],false,0):=by unfold Pf;rw [if_neg (fun h=>h he),if_neg (by rw [h7];decide),if_pos h7]
   rw [hk]
   refine Azv (by rfl) (Azu rfl ?_)
   apply Amy
   rw [e1]
   exact hQ _ _ (hX ▸ Atr rfl rfl)
  rw [if_neg h7]at hX
  by_cases h0:(Aj s a).k=0
  ·rw [if_pos h0]at hX
   exact bad 5 (by decide) hX.symm (by unfold Pf;rw [if_neg (fun h=>h he),if_pos h0]) _
  rw [if_neg h0]at hX
  by_cases h2':(Aj s a).k=2
  case neg=>
   rw [if_pos h2']at hX
   exact bad 4 (by decide) hX.symm (by unfold Pf;rw [if_neg (fun h=>h he),if_neg h0,if_neg h7,if_pos h2']) _
  rw [if_neg (fun h=>h h2')]at hX
  by_cases hs':0<Cy mp (Aj s a).s
  ·rw [if_pos ((hmp _).1.1 hs')]at hX
   exact bad 11 (by decide) hX.symm (by unfold Pf;rw [if_neg (fun h=>h he),if_neg h0,if_neg h7,if_neg (fun h=>h h2'),if_pos hs']) _
  rw [if_neg (fun h=>hs' ((hmp _).1.2 h))]at hX
  have hk:Pf (Aj s a) mp=((Aj s a).s,true,0):=by unfold Pf;rw [if_neg (fun h=>h he),if_neg h0,if_neg h7,if_neg (fun h=>h h2'),if_neg hs']
  have hm:Azr (Aj s a) mp=mUp mp (Aj s a).s (IntKind.i64.wrap (Cy mp (Aj s a).s+1)):=by unfold Azr;rw [hk];rfl
  rw [hk,hm,e1]
  refine Azv (by rfl) (Azv rfl ?_)
  have f0:=Oi s a ha he
  have f01:=f0.2.2 (by rw [h2'];decide)
  have hp2:=Zy s (Aj s a).b f0.2.1
  refine(ih w ((Aj s a).b:Nat) hw (by rw [hp2];omega)).mono fun r g hx=> ?_
  rw [hp2]at hx
  have fin:=Yo s m w (Aj s a).b f0.2.1
  generalize Ea s m w (Aj s a).b=x at hx fin hX
  obtain⟨c,g1,g2,g3⟩:=hx
  subst g1;subst g2
  refine⟨⟨rfl,(Qt x).symm⟩,Ki (p:=x.2.2=0) Bb (fun h0=> ?_) fun h0=> ?_⟩
  ·rw [if_pos h0]at hX
   apply Amz
   exact hQ _ _ (hX ▸ Wd h0)
  ·rw [if_neg (fun h=>h h0)]at hX
   have f1:=fin h0
   refine⟨⟨by rw [List.length_map];omega,by rw [List.length_map];omega⟩, ?_⟩
   have e4:(acc.map Bc++[[IV.str (Aj s a).s, .int .i64 (gI x.1.row 0), .int .i64 (gI x.1.row 1), .int .i64 (gI x.1.row 2), .str (gS x.1.row 3), .sl .any 6 (gR x.1.row 4), .sl .any 7 (gR x.1.row 5)]])=(acc++[((Aj s a).s,x.1)]).map Bc:=by
    rw [Oc];simp [Bc]
   show I1 s c w 0 0 0 [] 6 0 0 [] (mUp mp (Aj s a).s (IntKind.i64.wrap (Cy mp (Aj s a).s+1))) [] [] [] (acc.map Bc++[[IV.str (Aj s a).s, .int .i64 (gI x.1.row 0), .int .i64 (gI x.1.row 1), .int .i64 (gI x.1.row 2), .str (gS x.1.row 3), .sl .any 6 (gR x.1.row 4), .sl .any 7 (gR x.1.row 5)]]) _
   rw [e4,g3 h0]
   exact ihf x.2.1 (acc++[((Aj s a).s,x.1)]) _ f1.2 (by omega) (by omega) (by simp;omega) (Bv6 hmp _ _ hs') hX
theorem Bxu(m:Nat)(ih:Bf0 s m)(w:Nat)(hw:w≤64)(a:Nat)(ha:a≤s.length)(h1:s.length<a+m):Call E0.P U8 [.ptr (.arg 0) 0] (prH s a w) (RdQ s w (U1 s (Ea s m w) (s.length+1) a [])):=
 Aqn _ _ _ _ (Bw9 s hs m ih w hw a w _ _ (fun _ _ h=>h) (s.length+1) a [] [] ha h1 (by omega) (by simp) Bso rfl)
theorem Bvc:∀m:Nat,Bf0 s m:=by
 intro m
 induction m with
 |zero=>intro w a hw h;have:=Yn s a;omega
 |succ m ih=>
  intro w a hw h
  refine Ao6 _ _ _ _ (Call.use (An7 s hs a w) ⟨⟨rfl,rfl⟩, ?_⟩)
  rw [Ea,Au1]
  refine Ki (p:=(Aj s a).e=0) Bb (fun he=> ?_) fun he=> ?_
  ·rw [if_pos he];exact Wd he
  rw [if_neg (fun h=>h he)]
  have e1:Ru (Aj s a) a=((Aj s a).b:Nat):=by unfold Ru;rw [if_pos he]
  rw [e1]
  have f0:=A5i s a he
  refine Cg (p:=(Aj s a).k=0) Bb (fun h1=> ?_) fun h0=> ?_
  ·rw [if_pos h1];exact Wd (by decide)
  rw [if_neg h0]
  have f01:=f0.2.2 h0
  refine Cg (p:=(Aj s a).k=1) Bb (fun h1=> ?_) fun h1=> ?_
  ·rw [if_pos h1]
   refine(Bq2 s hs (Aj s a).b f0.2.1 w (Aj s a).n).mono fun r g hx=> ?_
   obtain⟨c,g1,g2,g3⟩:=hx
   subst g1;subst g2
   refine⟨⟨rfl,(Qt _).symm⟩, ?_⟩
   exact⟨c,rfl,Qt _,g3⟩
  rw [if_neg h1]
  refine Cg (p:=(Aj s a).k=2) Bb (fun h2=> ?_) fun h2=> ?_
  ·rw [if_pos h2];exact Atr rfl rfl
  rw [if_neg h2]
  refine Cg (p:=(Aj s a).k=3) Bb (fun h3=> ?_) fun h3=> ?_
  ·rw [if_pos h3];exact Atr rfl rfl
  rw [if_neg h3]
  refine Cg (p:=(Aj s a).k=8) Bb (fun h8=> ?_) fun h8=> ?_
  ·rw [if_pos h8]
   refine Call.use (Bu4 (Aj s a).s (Aj s a).b) ⟨⟨rfl,(Qt _).symm⟩, ?_⟩
   exact⟨_,rfl,Qt _,fun h=>(by rw [Bdo _ _ h];rfl)⟩
  rw [if_neg h8]
  have wm:IntKind.i64.wrap (((w+1:Nat):Int) - 1)=(w:Int):=by rw [Av _ (by omega) (by omega)];omega
  refine Cg (p:=(Aj s a).k=4) Bb (fun h4=> ?_) fun h4=> ?_
  ·rw [if_pos h4]
   refine Cg (p:=64≤w) (by rw [Bb];show(64:Int)≤(w:Int)↔_;omega) (fun h64=> ?_) fun h64=> ?_
   ·rw [if_pos h64];exact Wd (by decide)
   ·rw [if_neg h64]
    have ew:IntKind.i64.wrap (rI ((Au (prH s ((Aj s a).b:Nat) w) (Nm.arg 0)).getD 2 AV.undef)+1)=((w+1:Nat):Int):=Gj w (by omega)
    rw [ew]
    refine(Bxw s hs m ih (w+1) (by omega) (Aj s a).b f0.2.1 (by omega)).mono fun r g hx=> ?_
    obtain⟨c,g1,g2,g3⟩:=hx
    subst g1;subst g2
    refine⟨⟨rfl,(Qt _).symm⟩, ?_⟩
    have ew2:IntKind.i64.wrap (rI ((Au (prH s c ((w+1:Nat):Int)) (Nm.arg 0)).getD 2 AV.undef) - 1)=(w:Int):=wm
    rw [ew2]
    exact⟨c,rfl,Qt _,g3⟩
  rw [if_neg h4]
  refine Cg (p:=(Aj s a).k=6) Bb (fun h6=> ?_) fun h6=> ?_
  ·rw [if_pos h6]
   refine Cg (p:=64≤w) (by rw [Bb];show(64:Int)≤(w:Int)↔_;omega) (fun h64=> ?_) fun h64=> ?_
   ·rw [if_pos h64];exact Wd (by decide)
   ·rw [if_neg h64]
    have ew:IntKind.i64.wrap (rI ((Au (prH s ((Aj s a).b:Nat) w) (Nm.arg 0)).getD 2 AV.undef)+1)=((w+1:Nat):Int):=Gj w (by omega)
    rw [ew]
    refine(Bxu s hs m ih (w+1) (by omega) (Aj s a).b f0.2.1 (by omega)).mono fun r g hx=> ?_
    obtain⟨c,g1,g2,g3⟩:=hx
    subst g1;subst g2
    refine⟨⟨rfl,(Qt _).symm⟩, ?_⟩
    have ew2:IntKind.i64.wrap (rI ((Au (prH s c ((w+1:Nat):Int)) (Nm.arg 0)).getD 2 AV.undef) - 1)=(w:Int):=wm
    rw [ew2]
    exact⟨c,rfl,Qt _,g3⟩
  ·rw [if_neg h6];exact Wd (by decide)
end
end Go.Proofs.Sim.Se

import Derived.Test.YtaggabcajidnnaaGreatDoorPaD
import Derived.Test.YtaggabcajidnnaaGreatDoorVaA
namespace Go.Proofs.Sim.Pa
open Go Go.Proofs Go.Proofs.Sim Go.Proofs.Sim.Va Go.Proofs.Sim.Se
theorem Bli:∀(m:Nat) (l out:List UInt8) (a:Nat),l.length≤m→(nameL l out a).2.2=0→a≤(nameL l out a).2.1∧(nameL l out a).2.1≤a+l.length:=by
 intro m
 induction m with
 |zero=>
  intro l out a hl _
  have:l=[]:=List.length_eq_zero_iff.1 (by omega)
  subst this
  exact⟨Nat.le_refl _,Nat.le_refl _⟩
 |succ m ih=>
  intro l out a hl h
  rcases l with _ |⟨c,r⟩
  ·exact⟨Nat.le_refl _,Nat.le_refl _⟩
  ·rw [nameL.eq_def]at h ⊢
   simp only at h ⊢
   split at h
   ·rename_i hk
    rw [if_pos hk]
    split at h
    ·rename_i h35
     rw [if_pos h35]
     rcases r with _ |⟨x,_ |⟨y,r⟩⟩
     ·cases h
     ·cases h
     ·simp only at h ⊢
      split at h
      ·cases h
      ·rename_i h1
       rw [if_neg h1]
       split at h
       ·cases h
       ·rename_i h2
        rw [if_neg h2]
        simp only [List.length_cons]at hl ⊢
        have:=ih r _ (a+3) (by omega) h
        omega
    ·rename_i h35
     rw [if_neg h35]
     split at h
     ·cases h
     ·rename_i h2
      rw [if_neg h2]
      simp only [List.length_cons]at hl ⊢
      have:=ih r _ (a+1) (by omega) h
      omega
   ·rename_i hk
    rw [if_neg hk]
    simp only;omega
theorem Bmb:∀(m:Nat) (l out:List UInt8) (d:Int) (a:Nat),(Ku m l out d a).2.2=0→a≤(Ku m l out d a).2.1∧(Ku m l out d a).2.1≤a+l.length:=by
 intro m
 induction m with
 |zero=>intro l out d a h;cases h
 |succ m ih=>
  intro l out d a h
  rcases l with _ |⟨c,r⟩
  ·cases h
  ·rw [Ku]at h ⊢
   have he:=Bc4 (c::r)
   split at h
   ·rename_i h1
    rw [if_pos h1]
    split at h
    ·cases h
    rename_i h2
    rw [if_neg h2]
    have:=ih _ _ _ _ h
    rw [List.length_drop]at this
    omega
   ·rename_i h1
    rw [if_neg h1]
    split at h
    ·rename_i h92
     rw [if_pos h92]
     split at h
     ·cases h
     ·rename_i t k hesc
      have hk:=Bkp hesc
      split at h
      ·cases h
      rename_i h2
      simp only [if_neg h2]
      have:=ih _ _ _ _ h
      rw [List.length_drop]at this
      simp only [List.length_cons]
      omega
    ·rename_i h92
     rw [if_neg h92]
     simp only [List.length_cons]
     split at h
     ·rename_i h41
      rw [if_pos h41]
      simp only;omega
     ·rename_i h41
      rw [if_neg h41]
      split at h
      ·cases h
      ·rename_i h2
       rw [if_neg h2]
       have:=ih _ _ _ _ h
       omega
theorem Bn4:∀(l:List UInt8) (half:Int) (out:List UInt8) (a:Nat),(Ru l half out a).2.2=0→a≤(Ru l half out a).2.1∧(Ru l half out a).2.1≤a+l.length:=by
 intro l
 induction l with
 |nil=>intro half out a h;cases h
 |cons c r ih=>
  intro half out a h
  rw [Ru]at h ⊢
  simp only [List.length_cons]
  split at h
  ·rename_i h1
   rw [if_pos h1]
   split at h
   ·rename_i h2;rw [if_pos h2];simp only;omega
   ·rename_i h2
    rw [if_neg h2]
    split at h
    ·cases h
    ·rename_i h3;rw [if_neg h3];simp only;omega
  ·rename_i h1
   rw [if_neg h1]
   split at h
   ·rename_i h2
    rw [if_pos h2]
    split at h
    ·rename_i h3
     rw [if_pos h3]
     have:=ih _ _ _ h
     omega
    ·cases h
   ·rename_i h2
    rw [if_neg h2]
    split at h
    ·rename_i h3
     rw [if_pos h3]
     have:=ih _ _ _ h
     omega
    ·rename_i h3
     rw [if_neg h3]
     split at h
     ·cases h
     ·rename_i h4
      rw [if_neg h4]
      have:=ih _ _ _ h
      omega
theorem A3e(k:Int)(p lo hi:Nat)(x:Part)(hx:x.2.2=0→lo≤x.2.1∧x.2.1≤hi)(h:(partT k p x).e=0):lo≤(partT k p x).b∧(partT k p x).b≤hi:=by
 unfold partT at h ⊢
 split
 ·rename_i h0;exact hx h0
 ·rename_i h0;rw [if_neg h0]at h;exact absurd h h0
theorem Bpg(l:List UInt8)(p:Nat)(h:(Rl l p).e=0):(Rl l p).b=p+Cz 2 l:=by
 unfold Rl at h ⊢
 split
 ·rfl
 ·rename_i h1
  rw [if_neg h1]at h
  split
  ·rename_i h2;rw [if_pos h2]at h;cases h
  ·rename_i h2
   rw [if_neg h2]at h
   split
   ·rename_i h3;rw [if_pos h3]at h;cases h
   ·rfl
theorem Bsl(c:UInt8)(r:List UInt8)(p:Nat)(hc:kd c≠0)(h:(Kw c r p).e=0):p+1≤(Kw c r p).b∧(Kw c r p).b≤p+1+r.length:=by
 unfold Kw at h ⊢
 have hd:∀x,r.head?=some x→1≤r.length:=by
  intro x hx
  rcases r with _ |⟨y,r⟩
  ·cases hx
  ·simp
 split
 ·exact⟨Nat.le_refl _,by simp⟩
 rename_i h1
 rw [if_neg h1]at h
 split
 ·exact⟨Nat.le_refl _,by simp⟩
 rename_i h2
 rw [if_neg h2]at h
 split
 ·rename_i h3
  rw [if_pos h3]at h
  exact A3e _ _ _ _ _ (fun hx=>Bli r.length r [] (p+1) (Nat.le_refl _) hx) h
 rename_i h3
 rw [if_neg h3]at h
 split
 ·rename_i h4
  rw [if_pos h4]at h
  exact A3e _ _ _ _ _ (fun hx=>Bmb _ r [] 1 (p+1) hx) h
 rename_i h4
 rw [if_neg h4]at h
 split
 ·rename_i h5
  rw [if_pos h5]at h
  split
  ·rename_i h6;have:=hd _ h6;simp only;omega
  ·rename_i h6
   rw [if_neg h6]at h
   exact A3e _ _ _ _ _ (fun hx=>Bn4 r (-1) [] (p+1) hx) h
 rename_i h5
 rw [if_neg h5]at h
 split
 ·rename_i h6
  rw [if_pos h6]at h
  split
  ·rename_i h7;have:=hd _ h7;simp only;omega
  ·rename_i h7;rw [if_neg h7]at h;cases h
 rename_i h6
 rw [if_neg h6]at h
 split
 ·rename_i h7;rw [if_pos h7]at h;cases h
 ·rename_i h7
  rw [if_neg h7]at h
  rw [Bpg _ _ h]
  have h8:=Ak4 2 (c::r)
  have h9:Cz 2 (c::r)=Cz 2 r+1:=by
   rw [Cz,if_pos]
   have three:kd c=0∨kd c=1∨kd c=2:=by
    unfold kd Sa
    split
    ·exact .inl rfl
    ·split
     ·exact .inr (.inl rfl)
     ·exact .inr (.inr rfl)
   rcases three with h |h |h
   ·exact absurd h hc
   ·exact absurd h h7
   ·exact h
  simp only [List.length_cons]at h8
  omega
theorem Bfa:∀(b:Bool) (l:List UInt8) (c:UInt8) (r:List UInt8),l.drop (Gr b l)=c::r→kd c≠0
 |_,[],c,r,h=>by simp [Gr]at h
 |b,x::l,c,r,h=>by
  rw [Gr]at h
  by_cases hx:Oq b x=false∧kd x≠0
  ·rw [if_pos hx,List.drop_zero]at h
   injection h with h1 h2
   subst h1
   exact hx.2
  ·rw [if_neg hx,List.drop_succ_cons]at h
   exact Bfa _ l c r h
theorem Bo7(s:List UInt8)(a:Int):Pw s a≤Ei s a:=by unfold Ei;omega
theorem Ak3(s:List UInt8)(a:Nat)(h:a≤s.length):Pw s (a:Int)=a:=by
 unfold Pw;rw [if_neg (by omega),if_neg (by omega)];omega
theorem Br5(s:List UInt8)(a:Int):Pw s ((Pw s a:Nat):Int)=Pw s a:=Ak3 s _ (Ari s a)
theorem A22(s:List UInt8)(a:Int):Ao s ((Pw s a:Nat):Int)=Ao s a:=by
 unfold Ao Ei;rw [Br5]
theorem Bd5(s:List UInt8)(a:Int)(h:(Ao s a).e=0):Pw s a≤(Ao s a).b∧(Ao s a).b≤s.length∧((Ao s a).k≠0→Pw s a<(Ao s a).b):=by
 have h1:=Bo7 s a
 have h2:=Be9 s a
 by_cases hp:Ei s a<s.length
 ·rw [Bor s a hp]at h ⊢
  have hc:kd s[Ei s a]≠0:=by
   refine Bfa false (s.drop (Pw s a)) _ (s.drop (Ei s a+1)) ?_
   rw [List.drop_drop]
   exact J2 s _ hp
  have:=Bsl s[Ei s a] (s.drop (Ei s a+1)) (Ei s a) hc h
  rw [List.length_drop]at this
  omega
 ·rw [Bop s a hp]at h ⊢
  exact⟨h1,h2,fun h=>absurd rfl h⟩
theorem Ri(s:List UInt8)(a:Nat)(ha:a≤s.length)(h:(Ao s a).e=0):a≤(Ao s a).b∧(Ao s a).b≤s.length∧((Ao s a).k≠0→a<(Ao s a).b):=by
 have:=Bd5 s a h
 rwa [Ak3 s a ha]at this
theorem Boi(s:List UInt8)(b:Nat)(hb:b≤s.length) {g:Int} {c:Nat} (h:Sb s b=some (g,c)):b<c∧c≤s.length:=by
 unfold Sb at h
 split at h
 ·rename_i h1
  split at h
  ·rename_i h2
   injection h with h;injection h with _ h
   subst h
   have f1:=Ri s b hb h1.1
   have f2:=Ri s _ f1.2.1 h2.1
   have:=f1.2.2 (by rw [h1.2];decide)
   exact⟨by omega,f2.2.1⟩
  ·cases h
 ·cases h
theorem Brv(s:List UInt8)(n:Int)(b:Nat)(hb:b≤s.length)(h:(numL s n b).2.2=0):b≤(numL s n b).2.1∧(numL s n b).2.1≤s.length:=by
 unfold numL at h ⊢
 split
 ·exact⟨Nat.le_refl _,hb⟩
 ·rename_i g c hl
  rw [hl]at h
  simp only at h
  split
  ·rename_i h1;rw [if_pos h1]at h;cases h
  ·have:=Boi s b hb hl
   simp only;omega
theorem Bag(w:List UInt8)(b:Nat)(h:(Aku w b).2.2=0):(Aku w b).2.1=b:=by
 unfold Aku at h ⊢
 split
 ·rfl
 ·rename_i h1
  rw [if_neg h1]at h
  split
  ·rfl
  ·rename_i h2
   rw [if_neg h2]at h
   split
   ·rfl
   ·rename_i h3;rw [if_neg h3]at h;cases h
def Ar8(s:List UInt8)(a:Nat)(x:V × Nat × Int):Prop:=x.2.2=0→a<x.2.1∧x.2.1≤s.length
theorem Bok(s:List UInt8)(rd:Nat→V × Nat × Int)(hrd:∀a,a≤s.length→Ar8 s a (rd a)):∀(m a:Nat) (acc:List V),a≤s.length→Ar8 s a (Sc s rd m a acc):=by
 intro m
 induction m with
 |zero=>intro a acc ha h;cases h
 |succ m ih=>
  intro a acc ha h
  rw [Sc]at h ⊢
  split at h
  ·rename_i h1;exact absurd h h1
  ·rename_i h1
   rw [if_neg h1]
   have f:=Ri s a ha (Classical.not_not.1 h1)
   split at h
   ·rename_i h2
    rw [if_pos h2]
    exact⟨f.2.2 (by rw [h2];decide),f.2.1⟩
   ·rename_i h2
    rw [if_neg h2]
    split at h
    ·rename_i h3;exact absurd h h3
    ·rename_i h3
     rw [if_neg h3]
     have hr:=hrd a ha (Classical.not_not.1 h3)
     have:=ih _ _ hr.2 h
     exact⟨by omega,this.2⟩
theorem Bnr(s:List UInt8)(rd:Nat→V × Nat × Int)(hrd:∀a,a≤s.length→Ar8 s a (rd a)):∀(m a:Nat) (acc:List Pr),a≤s.length→Ar8 s a (Q9 s rd m a acc):=by
 intro m
 induction m with
 |zero=>intro a acc ha h;cases h
 |succ m ih=>
  intro a acc ha h
  rw [Q9]at h ⊢
  split at h
  ·rename_i h1;exact absurd h h1
  rename_i h1
  rw [if_neg h1]
  have f:=Ri s a ha (Classical.not_not.1 h1)
  split at h
  ·rename_i h2
   rw [if_pos h2]
   exact⟨f.2.2 (by rw [h2];decide),f.2.1⟩
  rename_i h2
  rw [if_neg h2]
  split at h
  ·cases h
  rename_i h3
  rw [if_neg h3]
  split at h
  ·cases h
  rename_i h4
  rw [if_neg h4]
  split at h
  ·cases h
  rename_i h5
  rw [if_neg h5]
  split at h
  ·rename_i h6;exact absurd h h6
  ·rename_i h6
   rw [if_neg h6]
   have hr:=hrd _ f.2.1 (Classical.not_not.1 h6)
   have:=ih _ _ hr.2 h
   exact⟨by omega,this.2⟩
theorem Agb(s:List UInt8):∀(m w a:Nat),a≤s.length→Ar8 s a (Eh s m w a):=by
 intro m
 induction m with
 |zero=>intro w a ha h;cases h
 |succ m ih=>
  intro w a ha h
  rw [Eh]at h ⊢
  split at h
  ·rename_i h1;exact absurd h h1
  rename_i h1
  rw [if_neg h1]
  have f:=Ri s a ha (Classical.not_not.1 h1)
  split at h
  ·cases h
  rename_i h2
  rw [if_neg h2]
  have f3:=f.2.2 h2
  split at h
  ·rename_i h3
   rw [if_pos h3]
   have:=Brv s _ _ f.2.1 h
   exact⟨by omega,this.2⟩
  rename_i h3
  rw [if_neg h3]
  split at h
  ·rename_i h4;rw [if_pos h4];exact⟨f3,f.2.1⟩
  rename_i h4
  rw [if_neg h4]
  split at h
  ·rename_i h5;rw [if_pos h5];exact⟨f3,f.2.1⟩
  rename_i h5
  rw [if_neg h5]
  split at h
  ·rename_i h6
   rw [if_pos h6,Bag _ _ h];exact⟨f3,f.2.1⟩
  rename_i h6
  rw [if_neg h6]
  split at h
  ·rename_i h7
   rw [if_pos h7]
   split at h
   ·cases h
   ·rename_i h8
    rw [if_neg h8]
    have:=Bok s (Eh s m (w+1)) (fun a ha=>ih (w+1) a ha) _ _ _ f.2.1 h
    exact⟨by omega,this.2⟩
  rename_i h7
  rw [if_neg h7]
  split at h
  ·rename_i h8
   rw [if_pos h8]
   split at h
   ·cases h
   ·rename_i h9
    rw [if_neg h9]
    have:=Bnr s (Eh s m (w+1)) (fun a ha=>ih (w+1) a ha) _ _ _ f.2.1 h
    exact⟨by omega,this.2⟩
  ·cases h
end Go.Proofs.Sim.Pa
set_option maxRecDepth 100000
namespace Go.Proofs.Sim.Se
open Go Go.Proofs Go.Proofs.Sim Go.Proofs.Sim.Va Go.RowKit Go.Proofs.Sim.Pa
abbrev prH(s:List UInt8)(a w:Int):Heap:=[(Nm.arg 0, .blk Ap [.imm (.str s), .imm (.int .i64 a), .imm (.int .i64 w)])]
abbrev rdA(x:V × Nat × Int):AV:= .tup [.imm (.agg x.1.row), .imm (.int .i64 x.2.2)]
def RdQ(s:List UInt8)(w:Int)(x:V × Nat × Int):QQ:=fun r h=>∃c:Int,h=prH s c w∧r=rdA x∧(x.2.2=0→c=x.2.1)
theorem Axe(k n g:Int)(t:List UInt8)(l:List V)(d:List Pr):(V.mk k n g t l d).row=[.int .i64 k, .int .i64 n, .int .i64 g, .str t, .sl .any 6 (l.map V.row), .sl .any 7 (d.map Bl)]:=Db _
theorem Bko(e:Int):rdA (Ol e)= .tup [.imm (.agg [.int .i64 0, .int .i64 0, .int .i64 0, .str [], .sl .any 6 [], .sl .any 7 []]), .imm (.int .i64 e)]:=by
 unfold Ol rdA;rw [Axe];rfl
theorem V6 {s:List UInt8} {w c e:Int} (he:e≠0):RdQ s w (Ol e) (.tup [.imm (.agg [.int .i64 0, .int .i64 0, .int .i64 0, .str [], .sl .any 6 [], .sl .any 7 []]), .imm (.int .i64 e)]) (prH s c w):=
 ⟨c,rfl,(Bko e).symm,fun h=>absurd h he⟩
theorem Ark {s:List UInt8} {w:Int} {c:Nat} {k n g:Int} {t:List UInt8} {l:List V} {d:List Pr} {L D:LL} (hl:l.map V.row=L)(hd:d.map Bl=D):
 RdQ s w (.mk k n g t l d,c,0) (.tup [.imm (.agg [.int .i64 k, .int .i64 n, .int .i64 g, .str t, .sl .any 6 L, .sl .any 7 D]), .imm (.int .i64 0)]) (prH s c w):=by
 subst hl;subst hd
 exact⟨c,rfl,by unfold rdA;rw [Axe],fun _=>rfl⟩
def Ro(t:Tk)(a:Int):Int:=if t.e=0 then t.b else a
section
variable (s:List UInt8) (hs:s.length≤1000000000)
include hs
theorem Amm(a w:Int):Call E0.P G8 [.ptr (.arg 0) 0] (prH s a w) (Is (nxA (Ao s a)) (prH s (Ro (Ao s a) a) w)):=by
 refine Aom _ _ _ _ (Call.use (A40 s hs a) ⟨⟨rfl,rfl⟩, ?_⟩)
 have fin:∀c:Int,c=Ro (Ao s a) a→M3 (Ao s a).e 0 0 [] 0 0 (Ao s a).k (Ao s a).n (Ao s a).s (Ao s a).a (Ao s a).b s c w (M6 s a w (Is (nxA (Ao s a)) (prH s (Ro (Ao s a) a) w))):=by
  intro c hc
  subst hc
  refine Ala _ _ _ _ _ _ _ _ _ _ _ _ _ _ _ ?_
  apply Alk
  exact⟨rfl,rfl⟩
 refine Dt (p:=(Ao s a).e=0) Ca (fun h=>fin _ ?_) fun h=>fin _ ?_
 ·unfold Ro;rw [if_pos h];rfl
 ·unfold Ro;rw [if_neg h]
theorem Bjx(a:Int)(w:Int)(h:Sb s (Pw s a)=none)(_ha:0≤a∧a≤s.length):Call E0.P Om [.ptr (.arg 0) 0] (prH s a w) (Is (.tup [.imm (.int .i64 0), .imm (.bool false)]) (prH s a w)):=by
 have fin:∀c,M4 s c w s a (M7 s a w (Is (.tup [.imm (.int .i64 0), .imm (.bool false)]) (prH s a w))):=by
  intro c
  refine Alb _ _ _ _ _ _ ?_
  apply Alp
  exact⟨rfl,rfl⟩
 refine Aae _ _ _ _ (Call.use (Amm s hs a w) ⟨⟨rfl,rfl⟩,Let.intro ?_⟩)
 unfold Sb at h
 rw [A22]at h
 refine Dt (p:=(Ao s a).e=0∧(Ao s a).k=1) (Oj _ _) (fun h1=> ?_) fun _=>fin _
 rw [if_pos h1]at h
 have e1:Ro (Ao s a) a=((Ao s a).b:Nat):=by unfold Ro;rw [if_pos h1.1]
 rw [e1]
 refine Call.use (Amm s hs ((Ao s a).b:Nat) w) ⟨⟨rfl,rfl⟩,Let.intro (Let.intro ?_)⟩
 refine Dt (p:=((Ao s (Ao s a).b).e=0∧(Ao s (Ao s a).b).k=8)∧(Ao s (Ao s a).b).s=[82]) ?_ (fun h2=> ?_) fun _=>fin _
 ·rw [←Oj ((Ao s (Ao s a).b).e=0)]
  cases hc:(bif decide ((Ao s (Ao s a).b).e=0)then decide ((Ao s (Ao s a).b).k=8)else false)
  ·constructor
   ·intro h3
    have:(bif (bif decide ((Ao s (Ao s a).b).e=0)then decide ((Ao s (Ao s a).b).k=8)else false)then(Ao s (Ao s a).b).s == [82]else false)=true:=h3
    rw [hc]at this;cases this
   ·rintro⟨h3,_⟩;cases h3
  ·constructor
   ·intro h3
    have:(bif (bif decide ((Ao s (Ao s a).b).e=0)then decide ((Ao s (Ao s a).b).k=8)else false)then(Ao s (Ao s a).b).s == [82]else false)=true:=h3
    rw [hc]at this
    exact⟨rfl,by simpa using this⟩
   ·rintro⟨_,h3⟩
    show(bif (bif decide ((Ao s (Ao s a).b).e=0)then decide ((Ao s (Ao s a).b).k=8)else false)then(Ao s (Ao s a).b).s == [82]else false)=true
    rw [hc,h3];rfl
 ·rw [if_pos ⟨h2.1.1,h2.1.2,h2.2⟩]at h
  cases h
theorem Bho(a:Int)(w:Int)(g:Int)(c:Nat)(h:Sb s (Pw s a)=some (g,c)):Call E0.P Om [.ptr (.arg 0) 0] (prH s a w) (Is (.tup [.imm (.int .i64 g), .imm (.bool true)]) (prH s c w)):=by
 refine Aae _ _ _ _ (Call.use (Amm s hs a w) ⟨⟨rfl,rfl⟩,Let.intro ?_⟩)
 unfold Sb at h
 rw [A22]at h
 split at h
 case isFalse=>cases h
 rename_i h1
 refine Dt (p:=(Ao s a).e=0∧(Ao s a).k=1) (Oj _ _) (fun h1=> ?_) fun h'=>absurd h1 h'
 have e1:Ro (Ao s a) a=((Ao s a).b:Nat):=by unfold Ro;rw [if_pos h1.1]
 rw [e1]
 refine Call.use (Amm s hs ((Ao s a).b:Nat) w) ⟨⟨rfl,rfl⟩,Let.intro (Let.intro ?_)⟩
 split at h
 case isFalse=>cases h
 rename_i h2
 injection h with h;injection h with h3 h4
 subst h3;subst h4
 have e2:Ro (Ao s ((Ao s a).b:Nat)) ((Ao s a).b:Nat)=((Ao s ((Ao s a).b:Nat)).b:Nat):=by unfold Ro;rw [if_pos h2.1]
 rw [e2]
 have e3:(bif (bif decide ((Ao s (Ao s a).b).e=0)then decide ((Ao s (Ao s a).b).k=8)else false)then(Ao s (Ao s a).b).s == [82]else false)=true:=by
  rw [decide_eq_true h2.1,decide_eq_true h2.2.1,h2.2.2];rfl
 exact Dt (p:=True) ⟨fun _=>trivial,fun _=>e3⟩ (fun _=>⟨rfl,rfl⟩) fun h=>absurd trivial h
theorem Bm0(a:Nat)(ha:a≤s.length)(w:Int)(n:Int):Call E0.P Rp [.ptr (.arg 0) 0, .imm (.int .i64 n)] (prH s a w) (RdQ s w (numL s n a)):=by
 have hp:=Ak3 s a ha
 unfold numL
 rcases hl:Sb s a with _ |⟨g,c⟩
 ·refine Xl _ _ _ _ _ (Call.use (Bjx s hs a w (by rw [hp];exact hl) ⟨by omega,by omega⟩) ⟨⟨rfl,rfl⟩,A20 rfl ?_⟩)
  exact Ark rfl rfl
 ·refine Xl _ _ _ _ _ (Call.use (Bho s hs a w g c (by rw [hp];exact hl)) ⟨⟨rfl,rfl⟩,A21 rfl (Let.intro (Let.intro (Let.intro ?_)))⟩)
  rw [show rI (rT (.tup [.imm (.int .i64 g), .imm (.bool true)]) 0)=g from rfl]
  refine Dt (p:=n<1∨8388607<n∨g<0∨65535<g) (by rw [Aja,Aja,Bov];omega) (fun h=> ?_) fun h=> ?_
  ·simp only [if_pos h];exact V6 (by decide)
  ·simp only [if_neg h];exact Ark rfl rfl
omit hs in
theorem Bqr(t:List UInt8)(b:Nat):Call E0.P Aiw [.imm (.str t)] [] (Is (rdA (Aku t b)) []):=by
 have e:∀(k n g:Int) (t:List UInt8),rdA (.mk k n g t [] [],b,0)= .tup [.imm (.agg [.int .i64 k, .int .i64 n, .int .i64 g, .str t, .sl .any 6 [], .sl .any 7 []]), .imm (.int .i64 0)]:=by
  intro k n g t;unfold rdA;rw [Axe];rfl
 unfold Aku
 refine A38 _ _ (Dt (p:=t=[116,114,117,101]) (by simp) (fun h=> ?_) fun h1=>Dt (p:=t=[102,97,108,115,101]) (by simp) (fun h=> ?_) fun h2=>Dt (p:=t=[110,117,108,108]) (by simp) (fun h=> ?_) fun h3=> ?_)
 ·rw [if_pos h,e];exact⟨rfl,rfl⟩
 ·rw [if_neg h1,if_pos h,e];exact⟨rfl,rfl⟩
 ·rw [if_neg h1,if_neg h2,if_pos h,e];exact⟨rfl,rfl⟩
 ·rw [if_neg h1,if_neg h2,if_neg h3,Bko];exact⟨rfl,rfl⟩
def Pq(t:Tk)(m:List (List UInt8 × Int)):List UInt8 × Bool × Int:=
 if t.e≠0 then([],false,t.e)else if t.k=0 then([],false,5)else if t.k=7 then([],false,0)else if t.k≠2 then([],false,4)else if 0<Dz m t.s then([],false,11)else(t.s,true,0)
def Axb(t:Tk)(m:List (List UInt8 × Int)):List (List UInt8 × Int):=if(Pq t m).2.1 then Zk m t.s (IntKind.i64.wrap (Dz m t.s+1))else m
abbrev kyA(x:List UInt8 × Bool × Int):AV:= .tup [.imm (.str x.1), .imm (.bool x.2.1), .imm (.int .i64 x.2.2)]
abbrev pmH(s:List UInt8)(a w:Int)(m:List (List UInt8 × Int)):Heap:=[(Nm.arg 0, .blk Ap [.imm (.str s), .imm (.int .i64 a), .imm (.int .i64 w)]),(Nm.arg 1, .map m)]
theorem Bvk(a w:Int)(m:List (List UInt8 × Int)):Call E0.P Wd [.ptr (.arg 0) 0, .mp (.arg 1)] (pmH s a w m) (Is (kyA (Pq (Ao s a) m)) (pmH s (Ro (Ao s a) a) w (Axb (Ao s a) m))):=by
 refine Aqd _ _ _ _ _ (Call.use (Amm s hs a w) ⟨⟨rfl,rfl⟩, ?_⟩)
 have no:(Pq (Ao s a) m).2.1=false→Axb (Ao s a) m=m:=fun h=>by unfold Axb;rw [h];rfl
 have fin:∀e:Int,Pq (Ao s a) m=([],false,e)→Is (kyA (Pq (Ao s a) m)) (pmH s (Ro (Ao s a) a) w (Axb (Ao s a) m)) (.tup [.imm (.str []), .imm (.bool false), .imm (.int .i64 e)]) (pmH s (Ro (Ao s a) a) w m):=by
  intro e h
  rw [no (by rw [h]),h]
  exact⟨rfl,rfl⟩
 refine Xr (p:=(Ao s a).e=0) Ca (fun h1=>fin _ ?_) fun h1=>Dt (p:=(Ao s a).k=0) Ca (fun h2=>fin _ ?_) fun h2=>Dt (p:=(Ao s a).k=7) Ca (fun h3=>fin _ ?_) fun h3=>Xr (p:=(Ao s a).k=2) Ca (fun h4=>fin _ ?_) fun h4=>Dt (p:=0<Dz m (Ao s a).s) Ca (fun h5=>fin _ ?_) fun h5=> ?_
 ·unfold Pq;rw [if_pos h1];rfl
 ·unfold Pq;rw [if_neg (fun h=>h h1),if_pos h2]
 ·unfold Pq;rw [if_neg (fun h=>h h1),if_neg h2,if_pos h3]
 ·unfold Pq;rw [if_neg (fun h=>h h1),if_neg h2,if_neg h3,if_pos h4]
 ·unfold Pq;rw [if_neg (fun h=>h h1),if_neg h2,if_neg h3,if_neg (fun h=>h h4),if_pos h5]
 ·have hk:Pq (Ao s a) m=((Ao s a).s,true,0):=by
   unfold Pq;rw [if_neg (fun h=>h h1),if_neg h2,if_neg h3,if_neg (fun h=>h h4),if_neg h5]
  have hm:Axb (Ao s a) m=Zk m (Ao s a).s (IntKind.i64.wrap (Dz m (Ao s a).s+1)):=by
   unfold Axb;rw [hk];rfl
  rw [hk,hm]
  exact⟨rfl,rfl⟩
end
end Go.Proofs.Sim.Se
set_option maxRecDepth 100000
namespace Go.Proofs.Sim.Se
open Go Go.Proofs Go.Proofs.Sim Go.Proofs.Sim.Va Go.RowKit Go.Proofs.Sim.Pa
theorem Abc(v:V): [.int .i64 (gI v.row 0), .int .i64 (gI v.row 1), .int .i64 (gI v.row 2), .str (gS v.row 3), .sl .any 6 (gR v.row 4), .sl .any 7 (gR v.row 5)]=v.row:=by rw [Db];rfl
abbrev Bez(r:AV):AV:= .tup [.imm (.agg [.int .i64 (gI (Ae (rT r 0)) 0), .int .i64 (gI (Ae (rT r 0)) 1), .int .i64 (gI (Ae (rT r 0)) 2), .str (gS (Ae (rT r 0)) 3), .sl .any 6 (gR (Ae (rT r 0)) 4), .sl .any 7 (gR (Ae (rT r 0)) 5)]), .imm (.int .i64 (rI (rT r 1)))]
theorem Qr(x:V × Nat × Int):Bez (rdA x)=rdA x:=by
 show AV.tup [.imm (.agg [.int .i64 (gI x.1.row 0), .int .i64 (gI x.1.row 1), .int .i64 (gI x.1.row 2), .str (gS x.1.row 3), .sl .any 6 (gR x.1.row 4), .sl .any 7 (gR x.1.row 5)]), .imm (.int .i64 x.2.2)]=_
 rw [Abc]
theorem Bdy(k x:List UInt8)(v:Int):∀m:List (List UInt8 × Int),Dz (Zk m x v) k=if k=x then v else Dz m k
 | []=>by
   simp only [Zk,Dz]
 |(y,u)::r=>by
  simp only [Zk]
  by_cases h:x=y
  ·subst h
   rw [if_pos rfl,Dz,Dz]
   by_cases hk:k=x
   ·rw [if_pos hk,if_pos hk]
   ·rw [if_neg hk,if_neg hk,if_neg hk]
  ·rw [if_neg h,Dz,Dz,Bdy k x v r]
   by_cases hk:k=y
   ·subst hk
    rw [if_pos rfl,if_pos rfl,if_neg (fun e=>h e.symm)]
   ·rw [if_neg hk,if_neg hk]
def Bhk(m:List (List UInt8 × Int))(acc:List Pr):Prop:=∀k,(0<Dz m k↔acc.any (fun p=>p.1 == k)=true)∧0≤Dz m k∧Dz m k≤1
theorem Bon:Bhk [] []:=fun k=>⟨by simp [Dz],by simp [Dz],by simp [Dz]⟩
theorem Bro {m:List (List UInt8 × Int)} {acc:List Pr} (h:Bhk m acc)(x:List UInt8)(v:V)(hx:¬0<Dz m x):Bhk (Zk m x (IntKind.i64.wrap (Dz m x+1))) (acc++[(x,v)]):=by
 intro k
 have hk:=h k
 have hx2:=h x
 rw [Bc _ (by omega) (by omega),Bdy]
 by_cases e:k=x
 ·subst e
  rw [if_pos rfl]
  exact⟨⟨fun _=>by simp,fun _=>by omega⟩,by omega,by omega⟩
 ·rw [if_neg e]
  refine⟨?_,hk.2⟩
  rw [hk.1]
  have:¬x=k:=fun h=>e h.symm
  simp [this]
section
variable (s:List UInt8) (hs:s.length≤1000000000)
include hs
abbrev Bb6(s:List UInt8)(m:Nat):Prop:=∀(w:Nat) (a:Int),w≤64→s.length<Pw s a+m→Call E0.P Jz [.ptr (.arg 0) 0] (prH s a w) (RdQ s w (Eh s m w (Pw s a)))
theorem Bsv(m:Nat)(ih:Bb6 s m)(w:Nat)(hw:w≤64)(at0 w0:Int)(Q:QQ)(X:V × Nat × Int)(hQ:∀r h,RdQ s w X r h→Q r h):∀(f a:Nat) (acc:List V),a≤s.length→s.length<a+m→s.length<a+f→acc.length≤a→Sc s (Eh s m w) f a acc=X→
 Ju s a w 0 0 0 [] 5 0 0 [] [] [] (acc.map V.row) [] (Jr s at0 w0 Q):=by
 intro f
 induction f with
 |zero=>intro a acc ha h1 h2;omega
 |succ f ihf=>
  intro a acc ha h1 h2 hl hX
  have hp:=Ak3 s a ha
  rw [Sc]at hX
  refine Ame _ _ _ _ _ _ _ _ _ _ _ _ _ _ _ _ (Call.use (A40 s hs a) ⟨⟨rfl,rfl⟩, ?_⟩)
  refine Xr (p:=(Ao s a).e=0) Ca (fun he=> ?_) fun he=>Dt (p:=(Ao s a).k=5) Ca (fun h5=> ?_) fun h5=> ?_
  ·rw [if_pos he]at hX
   apply Alr
   exact hQ _ _ (hX ▸ V6 he)
  ·rw [if_neg (fun h=>h he),if_pos h5]at hX
   refine Call.use (Amm s hs a w) ⟨⟨rfl,rfl⟩, ?_⟩
   apply Als
   refine Ajy _ _ _ _ _ _ _ _ _ _ _ _ _ _ _ _ ?_
   apply Alq
   have e1:Ro (Ao s a) a=((Ao s a).b:Nat):=by unfold Ro;rw [if_pos he]
   rw [e1]
   exact hQ _ _ (hX ▸ Ark rfl rfl)
  ·rw [if_neg (fun h=>h he),if_neg h5]at hX
   refine(ih w a hw (by rw [hp];omega)).mono fun r g hx=> ?_
   rw [hp]at hx
   have fin:=Agb s m w a ha
   generalize Eh s m w a=x at hx fin hX
   obtain⟨c,e1,e2,e3⟩:=hx
   subst e1;subst e2
   refine⟨⟨rfl,(Qr x).symm⟩,Xr (p:=x.2.2=0) Ca (fun h0=> ?_) fun h0=> ?_⟩
   ·rw [if_pos h0]at hX
    apply Alt
    exact hQ _ _ (hX ▸ V6 h0)
   ·rw [if_neg (fun h=>h h0)]at hX
    have f1:=fin h0
    refine⟨⟨by rw [List.length_map];omega,by rw [List.length_map];omega⟩, ?_⟩
    have e4:(acc.map V.row++[[IV.int .i64 (gI x.1.row 0), .int .i64 (gI x.1.row 1), .int .i64 (gI x.1.row 2), .str (gS x.1.row 3), .sl .any 6 (gR x.1.row 4), .sl .any 7 (gR x.1.row 5)]])=(acc++[x.1]).map V.row:=by rw [Abc];simp
    show Ju s c w 0 0 0 [] 5 0 0 [] [] [] (acc.map V.row++[[IV.int .i64 (gI x.1.row 0), .int .i64 (gI x.1.row 1), .int .i64 (gI x.1.row 2), .str (gS x.1.row 3), .sl .any 6 (gR x.1.row 4), .sl .any 7 (gR x.1.row 5)]]) [] _
    rw [e4,e3 h0]
    exact ihf x.2.1 (acc++[x.1]) f1.2 (by omega) (by omega) (by simp;omega) hX
theorem Bti(m:Nat)(ih:Bb6 s m)(w:Nat)(hw:w≤64)(a:Nat)(ha:a≤s.length)(h1:s.length<a+m):Call E0.P Vb [.ptr (.arg 0) 0] (prH s a w) (RdQ s w (Sc s (Eh s m w) (s.length+1) a [])):=
 Aoo _ _ _ _ (Bsv s hs m ih w hw a w _ _ (fun _ _ h=>h) (s.length+1) a [] ha h1 (by omega) (by simp) rfl)
theorem Bst(m:Nat)(ih:Bb6 s m)(w:Nat)(hw:w≤64)(at0 w0:Int)(Q:QQ)(X:V × Nat × Int)(hQ:∀r h,RdQ s w X r h→Q r h):∀(f a:Nat) (acc:List Pr) (mp:List (List UInt8 × Int)),a≤s.length→s.length<a+m→s.length<a+f→acc.length≤a→Bhk mp acc→Q9 s (Eh s m w) f a acc=X→
 Jt s a w 0 0 0 [] 6 0 0 [] mp [] [] [] (acc.map Bl) (H9 s at0 w0 Q):=by
 intro f
 induction f with
 |zero=>intro a acc mp ha h1 h2;omega
 |succ f ihf=>
  intro a acc mp ha h1 h2 hl hmp hX
  have hp:=Ak3 s a ha
  rw [Q9]at hX
  refine Amd _ _ _ _ _ _ _ _ _ _ _ _ _ _ _ _ _ (Call.use (Bvk s hs a w mp) ⟨⟨rfl,rfl⟩, ?_⟩)
  have bad:∀e:Int,e≠0→X=Ol e→Pq (Ao s a) mp=([],false,e)→∀B,Br (!decide (rI (rT (kyA (Pq (Ao s a) mp)) 2)=0)) (H9 s at0 w0 Q .ret ⟨[(2, .ptr (Nm.loc 2) 0),(3, .imm (.int .i64 (rI (rT (kyA (Pq (Ao s a) mp)) 2))))],[(Nm.loc 2, .blk Aa [.imm (.int .i64 0), .imm (.int .i64 0), .imm (.int .i64 0), .imm (.str []), .own (Nm.sub 22 ((Nm.loc 2).cell 4)), .own (Nm.sub 22 ((Nm.loc 2).cell 5))]),(Nm.arg 0, .blk Ap [.imm (.str s), .imm (.int .i64 (Ro (Ao s a) a)), .imm (.int .i64 w)]),(Nm.sub 22 ((Nm.loc 2).cell 4), .arr (Aa+2) true 6 []),(Nm.sub 22 ((Nm.loc 2).cell 5), .arr (Ag+2) true 7 [])]⟩) B:=by
   intro e he hx hk B
   rw [hk]
   refine A20 (decide_eq_false he) ?_
   apply Alm
   exact hQ _ _ (hx ▸ V6 he)
  by_cases he:(Ao s a).e=0
  case neg=>
   rw [if_pos he]at hX
   exact bad _ he hX.symm (by unfold Pq;rw [if_pos he]) _
  have e1:Ro (Ao s a) a=((Ao s a).b:Nat):=by unfold Ro;rw [if_pos he]
  rw [if_neg (fun h=>h he)]at hX
  by_cases h7:(Ao s a).k=7
  ·rw [if_pos h7]at hX
   have hk:Pq (Ao s a) mp=([],false,0):=by unfold Pq;rw [if_neg (fun h=>h he),if_neg (by rw [h7];decide),if_pos h7]
   rw [hk]
   refine A21 (by rfl) (A20 rfl ?_)
   apply Aln
   rw [e1]
   exact hQ _ _ (hX ▸ Ark rfl rfl)
  rw [if_neg h7]at hX
  by_cases h0:(Ao s a).k=0
  ·rw [if_pos h0]at hX
   exact bad 5 (by decide) hX.symm (by unfold Pq;rw [if_neg (fun h=>h he),if_pos h0]) _
  rw [if_neg h0]at hX
  by_cases h2':(Ao s a).k=2
  case neg=>
   rw [if_pos h2']at hX
   exact bad 4 (by decide) hX.symm (by unfold Pq;rw [if_neg (fun h=>h he),if_neg h0,if_neg h7,if_pos h2']) _
  rw [if_neg (fun h=>h h2')]at hX
  by_cases hs':0<Dz mp (Ao s a).s
  ·rw [if_pos ((hmp _).1.1 hs')]at hX
   exact bad 11 (by decide) hX.symm (by unfold Pq;rw [if_neg (fun h=>h he),if_neg h0,if_neg h7,if_neg (fun h=>h h2'),if_pos hs']) _
  rw [if_neg (fun h=>hs' ((hmp _).1.2 h))]at hX
  have hk:Pq (Ao s a) mp=((Ao s a).s,true,0):=by unfold Pq;rw [if_neg (fun h=>h he),if_neg h0,if_neg h7,if_neg (fun h=>h h2'),if_neg hs']
  have hm:Axb (Ao s a) mp=Zk mp (Ao s a).s (IntKind.i64.wrap (Dz mp (Ao s a).s+1)):=by unfold Axb;rw [hk];rfl
  rw [hk,hm,e1]
  refine A21 (by rfl) (A21 rfl ?_)
  have f0:=Ri s a ha he
  have f01:=f0.2.2 (by rw [h2'];decide)
  have hp2:=Ak3 s (Ao s a).b f0.2.1
  refine(ih w ((Ao s a).b:Nat) hw (by rw [hp2];omega)).mono fun r g hx=> ?_
  rw [hp2]at hx
  have fin:=Agb s m w (Ao s a).b f0.2.1
  generalize Eh s m w (Ao s a).b=x at hx fin hX
  obtain⟨c,g1,g2,g3⟩:=hx
  subst g1;subst g2
  refine⟨⟨rfl,(Qr x).symm⟩,Xr (p:=x.2.2=0) Ca (fun h0=> ?_) fun h0=> ?_⟩
  ·rw [if_pos h0]at hX
   apply Alo
   exact hQ _ _ (hX ▸ V6 h0)
  ·rw [if_neg (fun h=>h h0)]at hX
   have f1:=fin h0
   refine⟨⟨by rw [List.length_map];omega,by rw [List.length_map];omega⟩, ?_⟩
   have e4:(acc.map Bl++[[IV.str (Ao s a).s, .int .i64 (gI x.1.row 0), .int .i64 (gI x.1.row 1), .int .i64 (gI x.1.row 2), .str (gS x.1.row 3), .sl .any 6 (gR x.1.row 4), .sl .any 7 (gR x.1.row 5)]])=(acc++[((Ao s a).s,x.1)]).map Bl:=by
    rw [Abc];simp [Bl]
   show Jt s c w 0 0 0 [] 6 0 0 [] (Zk mp (Ao s a).s (IntKind.i64.wrap (Dz mp (Ao s a).s+1))) [] [] [] (acc.map Bl++[[IV.str (Ao s a).s, .int .i64 (gI x.1.row 0), .int .i64 (gI x.1.row 1), .int .i64 (gI x.1.row 2), .str (gS x.1.row 3), .sl .any 6 (gR x.1.row 4), .sl .any 7 (gR x.1.row 5)]]) _
   rw [e4,g3 h0]
   exact ihf x.2.1 (acc++[((Ao s a).s,x.1)]) _ f1.2 (by omega) (by omega) (by simp;omega) (Bro hmp _ _ hs') hX
theorem Bte(m:Nat)(ih:Bb6 s m)(w:Nat)(hw:w≤64)(a:Nat)(ha:a≤s.length)(h1:s.length<a+m):Call E0.P U9 [.ptr (.arg 0) 0] (prH s a w) (RdQ s w (Q9 s (Eh s m w) (s.length+1) a [])):=
 Aon _ _ _ _ (Bst s hs m ih w hw a w _ _ (fun _ _ h=>h) (s.length+1) a [] [] ha h1 (by omega) (by simp) Bon rfl)
theorem Bqv:∀m:Nat,Bb6 s m:=by
 intro m
 induction m with
 |zero=>intro w a hw h;have:=Ari s a;omega
 |succ m ih=>
  intro w a hw h
  refine Ane _ _ _ _ (Call.use (Amm s hs a w) ⟨⟨rfl,rfl⟩, ?_⟩)
  rw [Eh,A22]
  refine Xr (p:=(Ao s a).e=0) Ca (fun he=> ?_) fun he=> ?_
  ·rw [if_pos he];exact V6 he
  rw [if_neg (fun h=>h he)]
  have e1:Ro (Ao s a) a=((Ao s a).b:Nat):=by unfold Ro;rw [if_pos he]
  rw [e1]
  have f0:=Bd5 s a he
  refine Dt (p:=(Ao s a).k=0) Ca (fun h1=> ?_) fun h0=> ?_
  ·rw [if_pos h1];exact V6 (by decide)
  rw [if_neg h0]
  have f01:=f0.2.2 h0
  refine Dt (p:=(Ao s a).k=1) Ca (fun h1=> ?_) fun h1=> ?_
  ·rw [if_pos h1]
   refine(Bm0 s hs (Ao s a).b f0.2.1 w (Ao s a).n).mono fun r g hx=> ?_
   obtain⟨c,g1,g2,g3⟩:=hx
   subst g1;subst g2
   refine⟨⟨rfl,(Qr _).symm⟩, ?_⟩
   exact⟨c,rfl,Qr _,g3⟩
  rw [if_neg h1]
  refine Dt (p:=(Ao s a).k=2) Ca (fun h2=> ?_) fun h2=> ?_
  ·rw [if_pos h2];exact Ark rfl rfl
  rw [if_neg h2]
  refine Dt (p:=(Ao s a).k=3) Ca (fun h3=> ?_) fun h3=> ?_
  ·rw [if_pos h3];exact Ark rfl rfl
  rw [if_neg h3]
  refine Dt (p:=(Ao s a).k=8) Ca (fun h8=> ?_) fun h8=> ?_
  ·rw [if_pos h8]
   refine Call.use (Bqr (Ao s a).s (Ao s a).b) ⟨⟨rfl,(Qr _).symm⟩, ?_⟩
   exact⟨_,rfl,Qr _,fun h=>(by rw [Bag _ _ h];rfl)⟩
  rw [if_neg h8]
  have wm:IntKind.i64.wrap (((w+1:Nat):Int) - 1)=(w:Int):=by rw [Bc _ (by omega) (by omega)];omega
  refine Dt (p:=(Ao s a).k=4) Ca (fun h4=> ?_) fun h4=> ?_
  ·rw [if_pos h4]
   refine Dt (p:=64≤w) (by rw [Ca];show(64:Int)≤(w:Int)↔_;omega) (fun h64=> ?_) fun h64=> ?_
   ·rw [if_pos h64];exact V6 (by decide)
   ·rw [if_neg h64]
    have ew:IntKind.i64.wrap (rI ((A7 (prH s ((Ao s a).b:Nat) w) (Nm.arg 0)).getD 2 AV.undef)+1)=((w+1:Nat):Int):=Jk w (by omega)
    rw [ew]
    refine(Bti s hs m ih (w+1) (by omega) (Ao s a).b f0.2.1 (by omega)).mono fun r g hx=> ?_
    obtain⟨c,g1,g2,g3⟩:=hx
    subst g1;subst g2
    refine⟨⟨rfl,(Qr _).symm⟩, ?_⟩
    have ew2:IntKind.i64.wrap (rI ((A7 (prH s c ((w+1:Nat):Int)) (Nm.arg 0)).getD 2 AV.undef) - 1)=(w:Int):=wm
    rw [ew2]
    exact⟨c,rfl,Qr _,g3⟩
  rw [if_neg h4]
  refine Dt (p:=(Ao s a).k=6) Ca (fun h6=> ?_) fun h6=> ?_
  ·rw [if_pos h6]
   refine Dt (p:=64≤w) (by rw [Ca];show(64:Int)≤(w:Int)↔_;omega) (fun h64=> ?_) fun h64=> ?_
   ·rw [if_pos h64];exact V6 (by decide)
   ·rw [if_neg h64]
    have ew:IntKind.i64.wrap (rI ((A7 (prH s ((Ao s a).b:Nat) w) (Nm.arg 0)).getD 2 AV.undef)+1)=((w+1:Nat):Int):=Jk w (by omega)
    rw [ew]
    refine(Bte s hs m ih (w+1) (by omega) (Ao s a).b f0.2.1 (by omega)).mono fun r g hx=> ?_
    obtain⟨c,g1,g2,g3⟩:=hx
    subst g1;subst g2
    refine⟨⟨rfl,(Qr _).symm⟩, ?_⟩
    have ew2:IntKind.i64.wrap (rI ((A7 (prH s c ((w+1:Nat):Int)) (Nm.arg 0)).getD 2 AV.undef) - 1)=(w:Int):=wm
    rw [ew2]
    exact⟨c,rfl,Qr _,g3⟩
  ·rw [if_neg h6];exact V6 (by decide)
end
end Go.Proofs.Sim.Se

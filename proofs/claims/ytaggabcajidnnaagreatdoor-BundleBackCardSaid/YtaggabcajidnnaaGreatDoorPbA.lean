import Derived.Test.YtaggabcajidnnaaGreatDoorPaD
import Derived.Test.YtaggabcajidnnaaGreatDoorVaA
namespace Go.Proofs.Sim.Pa
open Go Go.Proofs Go.Proofs.Sim Go.Proofs.Sim.Va Go.Proofs.Sim.Se
theorem Beu:∀(m:Nat) (l out:List UInt8) (a:Nat),l.length≤m→(nameL l out a).2.2=0→a≤(nameL l out a).2.1∧(nameL l out a).2.1≤a+l.length:=by
 intro m
 induction m with
 |zero=>
  intro l out a hl _
  have:l=[]:=List.length_eq_zero_iff.1 (by omega)
  subst this
  exact⟨Nat.le_refl _,Nat.le_refl _⟩
 |succ m ih=>
  intro l out a hl h
  rcases l with _ |⟨c,r⟩
  ·exact⟨Nat.le_refl _,Nat.le_refl _⟩
  ·rw [nameL.eq_def]at h ⊢
   simp only at h ⊢
   split at h
   ·rename_i hk
    rw [if_pos hk]
    split at h
    ·rename_i h35
     rw [if_pos h35]
     rcases r with _ |⟨x,_ |⟨y,r⟩⟩
     ·cases h
     ·cases h
     ·simp only at h ⊢
      split at h
      ·cases h
      ·rename_i h1
       rw [if_neg h1]
       split at h
       ·cases h
       ·rename_i h2
        rw [if_neg h2]
        simp only [List.length_cons]at hl ⊢
        have:=ih r _ (a+3) (by omega) h
        omega
    ·rename_i h35
     rw [if_neg h35]
     split at h
     ·cases h
     ·rename_i h2
      rw [if_neg h2]
      simp only [List.length_cons]at hl ⊢
      have:=ih r _ (a+1) (by omega) h
      omega
   ·rename_i hk
    rw [if_neg hk]
    simp only;omega
theorem Bfq:∀(m:Nat) (l out:List UInt8) (d:Int) (a:Nat),(Jz m l out d a).2.2=0→a≤(Jz m l out d a).2.1∧(Jz m l out d a).2.1≤a+l.length:=by
 intro m
 induction m with
 |zero=>intro l out d a h;cases h
 |succ m ih=>
  intro l out d a h
  rcases l with _ |⟨c,r⟩
  ·cases h
  ·rw [Jz]at h ⊢
   have he:=A7b (c::r)
   split at h
   ·rename_i h1
    rw [if_pos h1]
    split at h
    ·cases h
    rename_i h2
    rw [if_neg h2]
    have:=ih _ _ _ _ h
    rw [List.length_drop]at this
    omega
   ·rename_i h1
    rw [if_neg h1]
    split at h
    ·rename_i h92
     rw [if_pos h92]
     split at h
     ·cases h
     ·rename_i t k hesc
      have hk:=Bdy hesc
      split at h
      ·cases h
      rename_i h2
      simp only [if_neg h2]
      have:=ih _ _ _ _ h
      rw [List.length_drop]at this
      simp only [List.length_cons]
      omega
    ·rename_i h92
     rw [if_neg h92]
     simp only [List.length_cons]
     split at h
     ·rename_i h41
      rw [if_pos h41]
      simp only;omega
     ·rename_i h41
      rw [if_neg h41]
      split at h
      ·cases h
      ·rename_i h2
       rw [if_neg h2]
       have:=ih _ _ _ _ h
       omega
theorem Bhc:∀(l:List UInt8) (half:Int) (out:List UInt8) (a:Nat),(Qr l half out a).2.2=0→a≤(Qr l half out a).2.1∧(Qr l half out a).2.1≤a+l.length:=by
 intro l
 induction l with
 |nil=>intro half out a h;cases h
 |cons c r ih=>
  intro half out a h
  rw [Qr]at h ⊢
  simp only [List.length_cons]
  split at h
  ·rename_i h1
   rw [if_pos h1]
   split at h
   ·rename_i h2;rw [if_pos h2];simp only;omega
   ·rename_i h2
    rw [if_neg h2]
    split at h
    ·cases h
    ·rename_i h3;rw [if_neg h3];simp only;omega
  ·rename_i h1
   rw [if_neg h1]
   split at h
   ·rename_i h2
    rw [if_pos h2]
    split at h
    ·rename_i h3
     rw [if_pos h3]
     have:=ih _ _ _ h
     omega
    ·cases h
   ·rename_i h2
    rw [if_neg h2]
    split at h
    ·rename_i h3
     rw [if_pos h3]
     have:=ih _ _ _ h
     omega
    ·rename_i h3
     rw [if_neg h3]
     split at h
     ·cases h
     ·rename_i h4
      rw [if_neg h4]
      have:=ih _ _ _ h
      omega
theorem Ayh(k:Int)(p lo hi:Nat)(x:Part)(hx:x.2.2=0→lo≤x.2.1∧x.2.1≤hi)(h:(partT k p x).e=0):lo≤(partT k p x).b∧(partT k p x).b≤hi:=by
 unfold partT at h ⊢
 split
 ·rename_i h0;exact hx h0
 ·rename_i h0;rw [if_neg h0]at h;exact absurd h h0
theorem Biu(l:List UInt8)(p:Nat)(h:(Qk l p).e=0):(Qk l p).b=p+Ci 2 l:=by
 unfold Qk at h ⊢
 split
 ·rfl
 ·rename_i h1
  rw [if_neg h1]at h
  split
  ·rename_i h2;rw [if_pos h2]at h;cases h
  ·rename_i h2
   rw [if_neg h2]at h
   split
   ·rename_i h3;rw [if_pos h3]at h;cases h
   ·rfl
theorem Blw(c:UInt8)(r:List UInt8)(p:Nat)(hc:kd c≠0)(h:(J2 c r p).e=0):p+1≤(J2 c r p).b∧(J2 c r p).b≤p+1+r.length:=by
 unfold J2 at h ⊢
 have hd:∀x,r.head?=some x→1≤r.length:=by
  intro x hx
  rcases r with _ |⟨y,r⟩
  ·cases hx
  ·simp
 split
 ·exact⟨Nat.le_refl _,by simp⟩
 rename_i h1
 rw [if_neg h1]at h
 split
 ·exact⟨Nat.le_refl _,by simp⟩
 rename_i h2
 rw [if_neg h2]at h
 split
 ·rename_i h3
  rw [if_pos h3]at h
  exact Ayh _ _ _ _ _ (fun hx=>Beu r.length r [] (p+1) (Nat.le_refl _) hx) h
 rename_i h3
 rw [if_neg h3]at h
 split
 ·rename_i h4
  rw [if_pos h4]at h
  exact Ayh _ _ _ _ _ (fun hx=>Bfq _ r [] 1 (p+1) hx) h
 rename_i h4
 rw [if_neg h4]at h
 split
 ·rename_i h5
  rw [if_pos h5]at h
  split
  ·rename_i h6;have:=hd _ h6;simp only;omega
  ·rename_i h6
   rw [if_neg h6]at h
   exact Ayh _ _ _ _ _ (fun hx=>Bhc r (-1) [] (p+1) hx) h
 rename_i h5
 rw [if_neg h5]at h
 split
 ·rename_i h6
  rw [if_pos h6]at h
  split
  ·rename_i h7;have:=hd _ h7;simp only;omega
  ·rename_i h7;rw [if_neg h7]at h;cases h
 rename_i h6
 rw [if_neg h6]at h
 split
 ·rename_i h7;rw [if_pos h7]at h;cases h
 ·rename_i h7
  rw [if_neg h7]at h
  rw [Biu _ _ h]
  have h8:=Aiv 2 (c::r)
  have h9:Ci 2 (c::r)=Ci 2 r+1:=by
   rw [Ci,if_pos]
   have three:kd c=0∨kd c=1∨kd c=2:=by
    unfold kd Z9
    split
    ·exact .inl rfl
    ·split
     ·exact .inr (.inl rfl)
     ·exact .inr (.inr rfl)
   rcases three with h |h |h
   ·exact absurd h hc
   ·exact absurd h h7
   ·exact h
  simp only [List.length_cons]at h8
  omega
theorem A82:∀(b:Bool) (l:List UInt8) (c:UInt8) (r:List UInt8),l.drop (Fj b l)=c::r→kd c≠0
 |_,[],c,r,h=>by simp [Fj]at h
 |b,x::l,c,r,h=>by
  rw [Fj]at h
  by_cases hx:Nb b x=false∧kd x≠0
  ·rw [if_pos hx,List.drop_zero]at h
   injection h with h1 h2
   subst h1
   exact hx.2
  ·rw [if_neg hx,List.drop_succ_cons]at h
   exact A82 _ l c r h
theorem Bii(s:List UInt8)(a:Int):Ol s a≤Dl s a:=by unfold Dl;omega
theorem Aiu(s:List UInt8)(a:Nat)(h:a≤s.length):Ol s (a:Int)=a:=by
 unfold Ol;rw [if_neg (by omega),if_neg (by omega)];omega
theorem Bli(s:List UInt8)(a:Int):Ol s ((Ol s a:Nat):Int)=Ol s a:=Aiu s _ (Aoc s a)
theorem Ax1(s:List UInt8)(a:Int):Ak s ((Ol s a:Nat):Int)=Ak s a:=by
 unfold Ak Dl;rw [Bli]
theorem A8a(s:List UInt8)(a:Int)(h:(Ak s a).e=0):Ol s a≤(Ak s a).b∧(Ak s a).b≤s.length∧((Ak s a).k≠0→Ol s a<(Ak s a).b):=by
 have h1:=Bii s a
 have h2:=A81 s a
 by_cases hp:Dl s a<s.length
 ·rw [Bhw s a hp]at h ⊢
  have hc:kd s[Dl s a]≠0:=by
   refine A82 false (s.drop (Ol s a)) _ (s.drop (Dl s a+1)) ?_
   rw [List.drop_drop]
   exact I9 s _ hp
  have:=Blw s[Dl s a] (s.drop (Dl s a+1)) (Dl s a) hc h
  rw [List.length_drop]at this
  omega
 ·rw [Bhu s a hp]at h ⊢
  exact⟨h1,h2,fun h=>absurd rfl h⟩
theorem Qf(s:List UInt8)(a:Nat)(ha:a≤s.length)(h:(Ak s a).e=0):a≤(Ak s a).b∧(Ak s a).b≤s.length∧((Ak s a).k≠0→a<(Ak s a).b):=by
 have:=A8a s a h
 rwa [Aiu s a ha]at this
theorem Bhn(s:List UInt8)(b:Nat)(hb:b≤s.length) {g:Int} {c:Nat} (h:Q7 s b=some (g,c)):b<c∧c≤s.length:=by
 unfold Q7 at h
 split at h
 ·rename_i h1
  split at h
  ·rename_i h2
   injection h with h;injection h with _ h
   subst h
   have f1:=Qf s b hb h1.1
   have f2:=Qf s _ f1.2.1 h2.1
   have:=f1.2.2 (by rw [h1.2];decide)
   exact⟨by omega,f2.2.1⟩
  ·cases h
 ·cases h
theorem Bk9(s:List UInt8)(n:Int)(b:Nat)(hb:b≤s.length)(h:(numL s n b).2.2=0):b≤(numL s n b).2.1∧(numL s n b).2.1≤s.length:=by
 unfold numL at h ⊢
 split
 ·exact⟨Nat.le_refl _,hb⟩
 ·rename_i g c hl
  rw [hl]at h
  simp only at h
  split
  ·rename_i h1;rw [if_pos h1]at h;cases h
  ·have:=Bhn s b hb hl
   simp only;omega
theorem A4o(w:List UInt8)(b:Nat)(h:(Aik w b).2.2=0):(Aik w b).2.1=b:=by
 unfold Aik at h ⊢
 split
 ·rfl
 ·rename_i h1
  rw [if_neg h1]at h
  split
  ·rfl
  ·rename_i h2
   rw [if_neg h2]at h
   split
   ·rfl
   ·rename_i h3;rw [if_neg h3]at h;cases h
def Ao0(s:List UInt8)(a:Nat)(x:V × Nat × Int):Prop:=x.2.2=0→a<x.2.1∧x.2.1≤s.length
theorem Bhp(s:List UInt8)(rd:Nat→V × Nat × Int)(hrd:∀a,a≤s.length→Ao0 s a (rd a)):∀(m a:Nat) (acc:List V),a≤s.length→Ao0 s a (Q8 s rd m a acc):=by
 intro m
 induction m with
 |zero=>intro a acc ha h;cases h
 |succ m ih=>
  intro a acc ha h
  rw [Q8]at h ⊢
  split at h
  ·rename_i h1;exact absurd h h1
  ·rename_i h1
   rw [if_neg h1]
   have f:=Qf s a ha (Classical.not_not.1 h1)
   split at h
   ·rename_i h2
    rw [if_pos h2]
    exact⟨f.2.2 (by rw [h2];decide),f.2.1⟩
   ·rename_i h2
    rw [if_neg h2]
    split at h
    ·rename_i h3;exact absurd h h3
    ·rename_i h3
     rw [if_neg h3]
     have hr:=hrd a ha (Classical.not_not.1 h3)
     have:=ih _ _ hr.2 h
     exact⟨by omega,this.2⟩
theorem Bgz(s:List UInt8)(rd:Nat→V × Nat × Int)(hrd:∀a,a≤s.length→Ao0 s a (rd a)):∀(m a:Nat) (acc:List Pr),a≤s.length→Ao0 s a (P9 s rd m a acc):=by
 intro m
 induction m with
 |zero=>intro a acc ha h;cases h
 |succ m ih=>
  intro a acc ha h
  rw [P9]at h ⊢
  split at h
  ·rename_i h1;exact absurd h h1
  rename_i h1
  rw [if_neg h1]
  have f:=Qf s a ha (Classical.not_not.1 h1)
  split at h
  ·rename_i h2
   rw [if_pos h2]
   exact⟨f.2.2 (by rw [h2];decide),f.2.1⟩
  rename_i h2
  rw [if_neg h2]
  split at h
  ·cases h
  rename_i h3
  rw [if_neg h3]
  split at h
  ·cases h
  rename_i h4
  rw [if_neg h4]
  split at h
  ·cases h
  rename_i h5
  rw [if_neg h5]
  split at h
  ·rename_i h6;exact absurd h h6
  ·rename_i h6
   rw [if_neg h6]
   have hr:=hrd _ f.2.1 (Classical.not_not.1 h6)
   have:=ih _ _ hr.2 h
   exact⟨by omega,this.2⟩
theorem Aex(s:List UInt8):∀(m w a:Nat),a≤s.length→Ao0 s a (Dk s m w a):=by
 intro m
 induction m with
 |zero=>intro w a ha h;cases h
 |succ m ih=>
  intro w a ha h
  rw [Dk]at h ⊢
  split at h
  ·rename_i h1;exact absurd h h1
  rename_i h1
  rw [if_neg h1]
  have f:=Qf s a ha (Classical.not_not.1 h1)
  split at h
  ·cases h
  rename_i h2
  rw [if_neg h2]
  have f3:=f.2.2 h2
  split at h
  ·rename_i h3
   rw [if_pos h3]
   have:=Bk9 s _ _ f.2.1 h
   exact⟨by omega,this.2⟩
  rename_i h3
  rw [if_neg h3]
  split at h
  ·rename_i h4;rw [if_pos h4];exact⟨f3,f.2.1⟩
  rename_i h4
  rw [if_neg h4]
  split at h
  ·rename_i h5;rw [if_pos h5];exact⟨f3,f.2.1⟩
  rename_i h5
  rw [if_neg h5]
  split at h
  ·rename_i h6
   rw [if_pos h6,A4o _ _ h];exact⟨f3,f.2.1⟩
  rename_i h6
  rw [if_neg h6]
  split at h
  ·rename_i h7
   rw [if_pos h7]
   split at h
   ·cases h
   ·rename_i h8
    rw [if_neg h8]
    have:=Bhp s (Dk s m (w+1)) (fun a ha=>ih (w+1) a ha) _ _ _ f.2.1 h
    exact⟨by omega,this.2⟩
  rename_i h7
  rw [if_neg h7]
  split at h
  ·rename_i h8
   rw [if_pos h8]
   split at h
   ·cases h
   ·rename_i h9
    rw [if_neg h9]
    have:=Bgz s (Dk s m (w+1)) (fun a ha=>ih (w+1) a ha) _ _ _ f.2.1 h
    exact⟨by omega,this.2⟩
  ·cases h
end Go.Proofs.Sim.Pa
set_option maxRecDepth 100000
namespace Go.Proofs.Sim.Se
open Go Go.Proofs Go.Proofs.Sim Go.Proofs.Sim.Va Go.RowKit Go.Proofs.Sim.Pa
abbrev prH(s:List UInt8)(a w:Int):Heap:=[(Nm.arg 0, .blk Ao [.imm (.str s), .imm (.int .i64 a), .imm (.int .i64 w)])]
abbrev rdA(x:V × Nat × Int):AV:= .tup [.imm (.agg x.1.row), .imm (.int .i64 x.2.2)]
def RdQ(s:List UInt8)(w:Int)(x:V × Nat × Int):QQ:=fun r h=>∃c:Int,h=prH s c w∧r=rdA x∧(x.2.2=0→c=x.2.1)
theorem Atu(k n g:Int)(t:List UInt8)(l:List V)(d:List Pr):(V.mk k n g t l d).row=[.int .i64 k, .int .i64 n, .int .i64 g, .str t, .sl .any 6 (l.map V.row), .sl .any 7 (d.map Bf)]:=Co _
theorem Bdx(e:Int):rdA (M7 e)= .tup [.imm (.agg [.int .i64 0, .int .i64 0, .int .i64 0, .str [], .sl .any 6 [], .sl .any 7 []]), .imm (.int .i64 e)]:=by
 unfold M7 rdA;rw [Atu];rfl
theorem U0 {s:List UInt8} {w c e:Int} (he:e≠0):RdQ s w (M7 e) (.tup [.imm (.agg [.int .i64 0, .int .i64 0, .int .i64 0, .str [], .sl .any 6 [], .sl .any 7 []]), .imm (.int .i64 e)]) (prH s c w):=
 ⟨c,rfl,(Bdx e).symm,fun h=>absurd h he⟩
theorem Aod {s:List UInt8} {w:Int} {c:Nat} {k n g:Int} {t:List UInt8} {l:List V} {d:List Pr} {L D:LL} (hl:l.map V.row=L)(hd:d.map Bf=D):
 RdQ s w (.mk k n g t l d,c,0) (.tup [.imm (.agg [.int .i64 k, .int .i64 n, .int .i64 g, .str t, .sl .any 6 L, .sl .any 7 D]), .imm (.int .i64 0)]) (prH s c w):=by
 subst hl;subst hd
 exact⟨c,rfl,by unfold rdA;rw [Atu],fun _=>rfl⟩
def Qo(t:Tk)(a:Int):Int:=if t.e=0 then t.b else a
section
variable (s:List UInt8) (hs:s.length≤1000000000)
include hs
theorem Aj0(a w:Int):Call E0.P F5 [.ptr (.arg 0) 0] (prH s a w) (Is (nxA (Ak s a)) (prH s (Qo (Ak s a) a) w)):=by
 refine Als _ _ _ _ (Call.use (Azg s hs a) ⟨⟨rfl,rfl⟩, ?_⟩)
 have fin:∀c:Int,c=Qo (Ak s a) a→Lx (Ak s a).e 0 0 [] 0 0 (Ak s a).k (Ak s a).n (Ak s a).s (Ak s a).a (Ak s a).b s c w (L9 s a w (Is (nxA (Ak s a)) (prH s (Qo (Ak s a) a) w))):=by
  intro c hc
  subst hc
  refine Ai1 _ _ _ _ _ _ _ _ _ _ _ _ _ _ _ ?_
  apply Aja
  exact⟨rfl,rfl⟩
 refine Ef (p:=(Ak s a).e=0) Bt (fun h=>fin _ ?_) fun h=>fin _ ?_
 ·unfold Qo;rw [if_pos h];rfl
 ·unfold Qo;rw [if_neg h]
theorem Bc9(a:Int)(w:Int)(h:Q7 s (Ol s a)=none)(_ha:0≤a∧a≤s.length):Call E0.P M8 [.ptr (.arg 0) 0] (prH s a w) (Is (.tup [.imm (.int .i64 0), .imm (.bool false)]) (prH s a w)):=by
 have fin:∀c,L6 s c w s a (Ma s a w (Is (.tup [.imm (.int .i64 0), .imm (.bool false)]) (prH s a w))):=by
  intro c
  refine Ai2 _ _ _ _ _ _ ?_
  apply Aje
  exact⟨rfl,rfl⟩
 refine Zf _ _ _ _ (Call.use (Aj0 s hs a w) ⟨⟨rfl,rfl⟩,Let.intro ?_⟩)
 unfold Q7 at h
 rw [Ax1]at h
 refine Ef (p:=(Ak s a).e=0∧(Ak s a).k=1) (Tm _ _) (fun h1=> ?_) fun _=>fin _
 rw [if_pos h1]at h
 have e1:Qo (Ak s a) a=((Ak s a).b:Nat):=by unfold Qo;rw [if_pos h1.1]
 rw [e1]
 refine Call.use (Aj0 s hs ((Ak s a).b:Nat) w) ⟨⟨rfl,rfl⟩,Let.intro (Let.intro ?_)⟩
 refine Ef (p:=((Ak s (Ak s a).b).e=0∧(Ak s (Ak s a).b).k=8)∧(Ak s (Ak s a).b).s=[82]) ?_ (fun h2=> ?_) fun _=>fin _
 ·rw [←Tm ((Ak s (Ak s a).b).e=0)]
  cases hc:(bif decide ((Ak s (Ak s a).b).e=0)then decide ((Ak s (Ak s a).b).k=8)else false)
  ·constructor
   ·intro h3
    have:(bif (bif decide ((Ak s (Ak s a).b).e=0)then decide ((Ak s (Ak s a).b).k=8)else false)then(Ak s (Ak s a).b).s == [82]else false)=true:=h3
    rw [hc]at this;cases this
   ·rintro⟨h3,_⟩;cases h3
  ·constructor
   ·intro h3
    have:(bif (bif decide ((Ak s (Ak s a).b).e=0)then decide ((Ak s (Ak s a).b).k=8)else false)then(Ak s (Ak s a).b).s == [82]else false)=true:=h3
    rw [hc]at this
    exact⟨rfl,by simpa using this⟩
   ·rintro⟨_,h3⟩
    show(bif (bif decide ((Ak s (Ak s a).b).e=0)then decide ((Ak s (Ak s a).b).k=8)else false)then(Ak s (Ak s a).b).s == [82]else false)=true
    rw [hc,h3];rfl
 ·rw [if_pos ⟨h2.1.1,h2.1.2,h2.2⟩]at h
  cases h
theorem Ba6(a:Int)(w:Int)(g:Int)(c:Nat)(h:Q7 s (Ol s a)=some (g,c)):Call E0.P M8 [.ptr (.arg 0) 0] (prH s a w) (Is (.tup [.imm (.int .i64 g), .imm (.bool true)]) (prH s c w)):=by
 refine Zf _ _ _ _ (Call.use (Aj0 s hs a w) ⟨⟨rfl,rfl⟩,Let.intro ?_⟩)
 unfold Q7 at h
 rw [Ax1]at h
 split at h
 case isFalse=>cases h
 rename_i h1
 refine Ef (p:=(Ak s a).e=0∧(Ak s a).k=1) (Tm _ _) (fun h1=> ?_) fun h'=>absurd h1 h'
 have e1:Qo (Ak s a) a=((Ak s a).b:Nat):=by unfold Qo;rw [if_pos h1.1]
 rw [e1]
 refine Call.use (Aj0 s hs ((Ak s a).b:Nat) w) ⟨⟨rfl,rfl⟩,Let.intro (Let.intro ?_)⟩
 split at h
 case isFalse=>cases h
 rename_i h2
 injection h with h;injection h with h3 h4
 subst h3;subst h4
 have e2:Qo (Ak s ((Ak s a).b:Nat)) ((Ak s a).b:Nat)=((Ak s ((Ak s a).b:Nat)).b:Nat):=by unfold Qo;rw [if_pos h2.1]
 rw [e2]
 have e3:(bif (bif decide ((Ak s (Ak s a).b).e=0)then decide ((Ak s (Ak s a).b).k=8)else false)then(Ak s (Ak s a).b).s == [82]else false)=true:=by
  rw [decide_eq_true h2.1,decide_eq_true h2.2.1,h2.2.2];rfl
 exact Ef (p:=True) ⟨fun _=>trivial,fun _=>e3⟩ (fun _=>⟨rfl,rfl⟩) fun h=>absurd trivial h
theorem Bf9(a:Nat)(ha:a≤s.length)(w:Int)(n:Int):Call E0.P Qp [.ptr (.arg 0) 0, .imm (.int .i64 n)] (prH s a w) (RdQ s w (numL s n a)):=by
 have hp:=Aiu s a ha
 unfold numL
 rcases hl:Q7 s a with _ |⟨g,c⟩
 ·refine V9 _ _ _ _ _ (Call.use (Bc9 s hs a w (by rw [hp];exact hl) ⟨by omega,by omega⟩) ⟨⟨rfl,rfl⟩,Axz rfl ?_⟩)
  exact Aod rfl rfl
 ·refine V9 _ _ _ _ _ (Call.use (Ba6 s hs a w g c (by rw [hp];exact hl)) ⟨⟨rfl,rfl⟩,Ax0 rfl (Let.intro (Let.intro (Let.intro ?_)))⟩)
  rw [show rI (rT (.tup [.imm (.int .i64 g), .imm (.bool true)]) 0)=g from rfl]
  refine Ef (p:=n<1∨8388607<n∨g<0∨65535<g) (by rw [Apz,Apz,Bhz];omega) (fun h=> ?_) fun h=> ?_
  ·simp only [if_pos h];exact U0 (by decide)
  ·simp only [if_neg h];exact Aod rfl rfl
omit hs in
theorem Bj0(t:List UInt8)(b:Nat):Call E0.P Agy [.imm (.str t)] [] (Is (rdA (Aik t b)) []):=by
 have e:∀(k n g:Int) (t:List UInt8),rdA (.mk k n g t [] [],b,0)= .tup [.imm (.agg [.int .i64 k, .int .i64 n, .int .i64 g, .str t, .sl .any 6 [], .sl .any 7 []]), .imm (.int .i64 0)]:=by
  intro k n g t;unfold rdA;rw [Atu];rfl
 unfold Aik
 refine Ay2 _ _ (Ef (p:=t=[116,114,117,101]) (by simp) (fun h=> ?_) fun h1=>Ef (p:=t=[102,97,108,115,101]) (by simp) (fun h=> ?_) fun h2=>Ef (p:=t=[110,117,108,108]) (by simp) (fun h=> ?_) fun h3=> ?_)
 ·rw [if_pos h,e];exact⟨rfl,rfl⟩
 ·rw [if_neg h1,if_pos h,e];exact⟨rfl,rfl⟩
 ·rw [if_neg h1,if_neg h2,if_pos h,e];exact⟨rfl,rfl⟩
 ·rw [if_neg h1,if_neg h2,if_neg h3,Bdx];exact⟨rfl,rfl⟩
def Oh(t:Tk)(m:List (List UInt8 × Int)):List UInt8 × Bool × Int:=
 if t.e≠0 then([],false,t.e)else if t.k=0 then([],false,5)else if t.k=7 then([],false,0)else if t.k≠2 then([],false,4)else if 0<Cx m t.s then([],false,11)else(t.s,true,0)
def Atr(t:Tk)(m:List (List UInt8 × Int)):List (List UInt8 × Int):=if(Oh t m).2.1 then Yi m t.s (IntKind.i64.wrap (Cx m t.s+1))else m
abbrev kyA(x:List UInt8 × Bool × Int):AV:= .tup [.imm (.str x.1), .imm (.bool x.2.1), .imm (.int .i64 x.2.2)]
abbrev pmH(s:List UInt8)(a w:Int)(m:List (List UInt8 × Int)):Heap:=[(Nm.arg 0, .blk Ao [.imm (.str s), .imm (.int .i64 a), .imm (.int .i64 w)]),(Nm.arg 1, .map m)]
theorem Bor(a w:Int)(m:List (List UInt8 × Int)):Call E0.P U5 [.ptr (.arg 0) 0, .mp (.arg 1)] (pmH s a w m) (Is (kyA (Oh (Ak s a) m)) (pmH s (Qo (Ak s a) a) w (Atr (Ak s a) m))):=by
 refine Amz _ _ _ _ _ (Call.use (Aj0 s hs a w) ⟨⟨rfl,rfl⟩, ?_⟩)
 have no:(Oh (Ak s a) m).2.1=false→Atr (Ak s a) m=m:=fun h=>by unfold Atr;rw [h];rfl
 have fin:∀e:Int,Oh (Ak s a) m=([],false,e)→Is (kyA (Oh (Ak s a) m)) (pmH s (Qo (Ak s a) a) w (Atr (Ak s a) m)) (.tup [.imm (.str []), .imm (.bool false), .imm (.int .i64 e)]) (pmH s (Qo (Ak s a) a) w m):=by
  intro e h
  rw [no (by rw [h]),h]
  exact⟨rfl,rfl⟩
 refine Yg (p:=(Ak s a).e=0) Bt (fun h1=>fin _ ?_) fun h1=>Ef (p:=(Ak s a).k=0) Bt (fun h2=>fin _ ?_) fun h2=>Ef (p:=(Ak s a).k=7) Bt (fun h3=>fin _ ?_) fun h3=>Yg (p:=(Ak s a).k=2) Bt (fun h4=>fin _ ?_) fun h4=>Ef (p:=0<Cx m (Ak s a).s) Bt (fun h5=>fin _ ?_) fun h5=> ?_
 ·unfold Oh;rw [if_pos h1];rfl
 ·unfold Oh;rw [if_neg (fun h=>h h1),if_pos h2]
 ·unfold Oh;rw [if_neg (fun h=>h h1),if_neg h2,if_pos h3]
 ·unfold Oh;rw [if_neg (fun h=>h h1),if_neg h2,if_neg h3,if_pos h4]
 ·unfold Oh;rw [if_neg (fun h=>h h1),if_neg h2,if_neg h3,if_neg (fun h=>h h4),if_pos h5]
 ·have hk:Oh (Ak s a) m=((Ak s a).s,true,0):=by
   unfold Oh;rw [if_neg (fun h=>h h1),if_neg h2,if_neg h3,if_neg (fun h=>h h4),if_neg h5]
  have hm:Atr (Ak s a) m=Yi m (Ak s a).s (IntKind.i64.wrap (Cx m (Ak s a).s+1)):=by
   unfold Atr;rw [hk];rfl
  rw [hk,hm]
  exact⟨rfl,rfl⟩
end
end Go.Proofs.Sim.Se
set_option maxRecDepth 100000
namespace Go.Proofs.Sim.Se
open Go Go.Proofs Go.Proofs.Sim Go.Proofs.Sim.Va Go.RowKit Go.Proofs.Sim.Pa
theorem Aah(v:V): [.int .i64 (gI v.row 0), .int .i64 (gI v.row 1), .int .i64 (gI v.row 2), .str (gS v.row 3), .sl .any 6 (gR v.row 4), .sl .any 7 (gR v.row 5)]=v.row:=by rw [Co];rfl
abbrev A8s(r:AV):AV:= .tup [.imm (.agg [.int .i64 (gI (Ad (rT r 0)) 0), .int .i64 (gI (Ad (rT r 0)) 1), .int .i64 (gI (Ad (rT r 0)) 2), .str (gS (Ad (rT r 0)) 3), .sl .any 6 (gR (Ad (rT r 0)) 4), .sl .any 7 (gR (Ad (rT r 0)) 5)]), .imm (.int .i64 (rI (rT r 1)))]
theorem Pk(x:V × Nat × Int):A8s (rdA x)=rdA x:=by
 show AV.tup [.imm (.agg [.int .i64 (gI x.1.row 0), .int .i64 (gI x.1.row 1), .int .i64 (gI x.1.row 2), .str (gS x.1.row 3), .sl .any 6 (gR x.1.row 4), .sl .any 7 (gR x.1.row 5)]), .imm (.int .i64 x.2.2)]=_
 rw [Aah]
theorem A73(k x:List UInt8)(v:Int):∀m:List (List UInt8 × Int),Cx (Yi m x v) k=if k=x then v else Cx m k
 | []=>by
   simp only [Yi,Cx]
 |(y,u)::r=>by
  simp only [Yi]
  by_cases h:x=y
  ·subst h
   rw [if_pos rfl,Cx,Cx]
   by_cases hk:k=x
   ·rw [if_pos hk,if_pos hk]
   ·rw [if_neg hk,if_neg hk,if_neg hk]
  ·rw [if_neg h,Cx,Cx,A73 k x v r]
   by_cases hk:k=y
   ·subst hk
    rw [if_pos rfl,if_pos rfl,if_neg (fun e=>h e.symm)]
   ·rw [if_neg hk,if_neg hk]
def Ba3(m:List (List UInt8 × Int))(acc:List Pr):Prop:=∀k,(0<Cx m k↔acc.any (fun p=>p.1 == k)=true)∧0≤Cx m k∧Cx m k≤1
theorem Bhs:Ba3 [] []:=fun k=>⟨by simp [Cx],by simp [Cx],by simp [Cx]⟩
theorem Bk0 {m:List (List UInt8 × Int)} {acc:List Pr} (h:Ba3 m acc)(x:List UInt8)(v:V)(hx:¬0<Cx m x):Ba3 (Yi m x (IntKind.i64.wrap (Cx m x+1))) (acc++[(x,v)]):=by
 intro k
 have hk:=h k
 have hx2:=h x
 rw [Az _ (by omega) (by omega),A73]
 by_cases e:k=x
 ·subst e
  rw [if_pos rfl]
  exact⟨⟨fun _=>by simp,fun _=>by omega⟩,by omega,by omega⟩
 ·rw [if_neg e]
  refine⟨?_,hk.2⟩
  rw [hk.1]
  have:¬x=k:=fun h=>e h.symm
  simp [this]
section
variable (s:List UInt8) (hs:s.length≤1000000000)
include hs
abbrev A6d(s:List UInt8)(m:Nat):Prop:=∀(w:Nat) (a:Int),w≤64→s.length<Ol s a+m→Call E0.P I6 [.ptr (.arg 0) 0] (prH s a w) (RdQ s w (Dk s m w (Ol s a)))
theorem Bl7(m:Nat)(ih:A6d s m)(w:Nat)(hw:w≤64)(at0 w0:Int)(Q:QQ)(X:V × Nat × Int)(hQ:∀r h,RdQ s w X r h→Q r h):∀(f a:Nat) (acc:List V),a≤s.length→s.length<a+m→s.length<a+f→acc.length≤a→Q8 s (Dk s m w) f a acc=X→
 Iz s a w 0 0 0 [] 5 0 0 [] [] [] (acc.map V.row) [] (Iu s at0 w0 Q):=by
 intro f
 induction f with
 |zero=>intro a acc ha h1 h2;omega
 |succ f ihf=>
  intro a acc ha h1 h2 hl hX
  have hp:=Aiu s a ha
  rw [Q8]at hX
  refine Ajv _ _ _ _ _ _ _ _ _ _ _ _ _ _ _ _ (Call.use (Azg s hs a) ⟨⟨rfl,rfl⟩, ?_⟩)
  refine Yg (p:=(Ak s a).e=0) Bt (fun he=> ?_) fun he=>Ef (p:=(Ak s a).k=5) Bt (fun h5=> ?_) fun h5=> ?_
  ·rw [if_pos he]at hX
   apply Ajg
   exact hQ _ _ (hX ▸ U0 he)
  ·rw [if_neg (fun h=>h he),if_pos h5]at hX
   refine Call.use (Aj0 s hs a w) ⟨⟨rfl,rfl⟩, ?_⟩
   apply Ajh
   refine Ahn _ _ _ _ _ _ _ _ _ _ _ _ _ _ _ _ ?_
   apply Ajf
   have e1:Qo (Ak s a) a=((Ak s a).b:Nat):=by unfold Qo;rw [if_pos he]
   rw [e1]
   exact hQ _ _ (hX ▸ Aod rfl rfl)
  ·rw [if_neg (fun h=>h he),if_neg h5]at hX
   refine(ih w a hw (by rw [hp];omega)).mono fun r g hx=> ?_
   rw [hp]at hx
   have fin:=Aex s m w a ha
   generalize Dk s m w a=x at hx fin hX
   obtain⟨c,e1,e2,e3⟩:=hx
   subst e1;subst e2
   refine⟨⟨rfl,(Pk x).symm⟩,Yg (p:=x.2.2=0) Bt (fun h0=> ?_) fun h0=> ?_⟩
   ·rw [if_pos h0]at hX
    apply Aji
    exact hQ _ _ (hX ▸ U0 h0)
   ·rw [if_neg (fun h=>h h0)]at hX
    have f1:=fin h0
    refine⟨⟨by rw [List.length_map];omega,by rw [List.length_map];omega⟩, ?_⟩
    have e4:(acc.map V.row++[[IV.int .i64 (gI x.1.row 0), .int .i64 (gI x.1.row 1), .int .i64 (gI x.1.row 2), .str (gS x.1.row 3), .sl .any 6 (gR x.1.row 4), .sl .any 7 (gR x.1.row 5)]])=(acc++[x.1]).map V.row:=by rw [Aah];simp
    show Iz s c w 0 0 0 [] 5 0 0 [] [] [] (acc.map V.row++[[IV.int .i64 (gI x.1.row 0), .int .i64 (gI x.1.row 1), .int .i64 (gI x.1.row 2), .str (gS x.1.row 3), .sl .any 6 (gR x.1.row 4), .sl .any 7 (gR x.1.row 5)]]) [] _
    rw [e4,e3 h0]
    exact ihf x.2.1 (acc++[x.1]) f1.2 (by omega) (by omega) (by simp;omega) hX
theorem Bmp(m:Nat)(ih:A6d s m)(w:Nat)(hw:w≤64)(a:Nat)(ha:a≤s.length)(h1:s.length<a+m):Call E0.P Tz [.ptr (.arg 0) 0] (prH s a w) (RdQ s w (Q8 s (Dk s m w) (s.length+1) a [])):=
 Alu _ _ _ _ (Bl7 s hs m ih w hw a w _ _ (fun _ _ h=>h) (s.length+1) a [] ha h1 (by omega) (by simp) rfl)
theorem Bl5(m:Nat)(ih:A6d s m)(w:Nat)(hw:w≤64)(at0 w0:Int)(Q:QQ)(X:V × Nat × Int)(hQ:∀r h,RdQ s w X r h→Q r h):∀(f a:Nat) (acc:List Pr) (mp:List (List UInt8 × Int)),a≤s.length→s.length<a+m→s.length<a+f→acc.length≤a→Ba3 mp acc→P9 s (Dk s m w) f a acc=X→
 Iy s a w 0 0 0 [] 6 0 0 [] mp [] [] [] (acc.map Bf) (Gw s at0 w0 Q):=by
 intro f
 induction f with
 |zero=>intro a acc mp ha h1 h2;omega
 |succ f ihf=>
  intro a acc mp ha h1 h2 hl hmp hX
  have hp:=Aiu s a ha
  rw [P9]at hX
  refine Aju _ _ _ _ _ _ _ _ _ _ _ _ _ _ _ _ _ (Call.use (Bor s hs a w mp) ⟨⟨rfl,rfl⟩, ?_⟩)
  have bad:∀e:Int,e≠0→X=M7 e→Oh (Ak s a) mp=([],false,e)→∀B,Br (!decide (rI (rT (kyA (Oh (Ak s a) mp)) 2)=0)) (Gw s at0 w0 Q .ret ⟨[(2, .ptr (Nm.loc 2) 0),(3, .imm (.int .i64 (rI (rT (kyA (Oh (Ak s a) mp)) 2))))],[(Nm.loc 2, .blk Aa [.imm (.int .i64 0), .imm (.int .i64 0), .imm (.int .i64 0), .imm (.str []), .own (Nm.sub 22 ((Nm.loc 2).cell 4)), .own (Nm.sub 22 ((Nm.loc 2).cell 5))]),(Nm.arg 0, .blk Ao [.imm (.str s), .imm (.int .i64 (Qo (Ak s a) a)), .imm (.int .i64 w)]),(Nm.sub 22 ((Nm.loc 2).cell 4), .arr (Aa+2) true 6 []),(Nm.sub 22 ((Nm.loc 2).cell 5), .arr (Ah+2) true 7 [])]⟩) B:=by
   intro e he hx hk B
   rw [hk]
   refine Axz (decide_eq_false he) ?_
   apply Ajb
   exact hQ _ _ (hx ▸ U0 he)
  by_cases he:(Ak s a).e=0
  case neg=>
   rw [if_pos he]at hX
   exact bad _ he hX.symm (by unfold Oh;rw [if_pos he]) _
  have e1:Qo (Ak s a) a=((Ak s a).b:Nat):=by unfold Qo;rw [if_pos he]
  rw [if_neg (fun h=>h he)]at hX
  by_cases h7:(Ak s a).k=7
  ·rw [if_pos h7]at hX
   have hk:Oh (Ak s a) mp=([],false,0):=by unfold Oh;rw [if_neg (fun h=>h he),if_neg (by rw [h7];decide),if_pos h7]
   rw [hk]
   refine Ax0 (by rfl) (Axz rfl ?_)
   apply Ajc
   rw [e1]
   exact hQ _ _ (hX ▸ Aod rfl rfl)
  rw [if_neg h7]at hX
  by_cases h0:(Ak s a).k=0
  ·rw [if_pos h0]at hX
   exact bad 5 (by decide) hX.symm (by unfold Oh;rw [if_neg (fun h=>h he),if_pos h0]) _
  rw [if_neg h0]at hX
  by_cases h2':(Ak s a).k=2
  case neg=>
   rw [if_pos h2']at hX
   exact bad 4 (by decide) hX.symm (by unfold Oh;rw [if_neg (fun h=>h he),if_neg h0,if_neg h7,if_pos h2']) _
  rw [if_neg (fun h=>h h2')]at hX
  by_cases hs':0<Cx mp (Ak s a).s
  ·rw [if_pos ((hmp _).1.1 hs')]at hX
   exact bad 11 (by decide) hX.symm (by unfold Oh;rw [if_neg (fun h=>h he),if_neg h0,if_neg h7,if_neg (fun h=>h h2'),if_pos hs']) _
  rw [if_neg (fun h=>hs' ((hmp _).1.2 h))]at hX
  have hk:Oh (Ak s a) mp=((Ak s a).s,true,0):=by unfold Oh;rw [if_neg (fun h=>h he),if_neg h0,if_neg h7,if_neg (fun h=>h h2'),if_neg hs']
  have hm:Atr (Ak s a) mp=Yi mp (Ak s a).s (IntKind.i64.wrap (Cx mp (Ak s a).s+1)):=by unfold Atr;rw [hk];rfl
  rw [hk,hm,e1]
  refine Ax0 (by rfl) (Ax0 rfl ?_)
  have f0:=Qf s a ha he
  have f01:=f0.2.2 (by rw [h2'];decide)
  have hp2:=Aiu s (Ak s a).b f0.2.1
  refine(ih w ((Ak s a).b:Nat) hw (by rw [hp2];omega)).mono fun r g hx=> ?_
  rw [hp2]at hx
  have fin:=Aex s m w (Ak s a).b f0.2.1
  generalize Dk s m w (Ak s a).b=x at hx fin hX
  obtain⟨c,g1,g2,g3⟩:=hx
  subst g1;subst g2
  refine⟨⟨rfl,(Pk x).symm⟩,Yg (p:=x.2.2=0) Bt (fun h0=> ?_) fun h0=> ?_⟩
  ·rw [if_pos h0]at hX
   apply Ajd
   exact hQ _ _ (hX ▸ U0 h0)
  ·rw [if_neg (fun h=>h h0)]at hX
   have f1:=fin h0
   refine⟨⟨by rw [List.length_map];omega,by rw [List.length_map];omega⟩, ?_⟩
   have e4:(acc.map Bf++[[IV.str (Ak s a).s, .int .i64 (gI x.1.row 0), .int .i64 (gI x.1.row 1), .int .i64 (gI x.1.row 2), .str (gS x.1.row 3), .sl .any 6 (gR x.1.row 4), .sl .any 7 (gR x.1.row 5)]])=(acc++[((Ak s a).s,x.1)]).map Bf:=by
    rw [Aah];simp [Bf]
   show Iy s c w 0 0 0 [] 6 0 0 [] (Yi mp (Ak s a).s (IntKind.i64.wrap (Cx mp (Ak s a).s+1))) [] [] [] (acc.map Bf++[[IV.str (Ak s a).s, .int .i64 (gI x.1.row 0), .int .i64 (gI x.1.row 1), .int .i64 (gI x.1.row 2), .str (gS x.1.row 3), .sl .any 6 (gR x.1.row 4), .sl .any 7 (gR x.1.row 5)]]) _
   rw [e4,g3 h0]
   exact ihf x.2.1 (acc++[((Ak s a).s,x.1)]) _ f1.2 (by omega) (by omega) (by simp;omega) (Bk0 hmp _ _ hs') hX
theorem Bmm(m:Nat)(ih:A6d s m)(w:Nat)(hw:w≤64)(a:Nat)(ha:a≤s.length)(h1:s.length<a+m):Call E0.P Tx [.ptr (.arg 0) 0] (prH s a w) (RdQ s w (P9 s (Dk s m w) (s.length+1) a [])):=
 Alt _ _ _ _ (Bl5 s hs m ih w hw a w _ _ (fun _ _ h=>h) (s.length+1) a [] [] ha h1 (by omega) (by simp) Bhs rfl)
theorem Bj3:∀m:Nat,A6d s m:=by
 intro m
 induction m with
 |zero=>intro w a hw h;have:=Aoc s a;omega
 |succ m ih=>
  intro w a hw h
  refine Akn _ _ _ _ (Call.use (Aj0 s hs a w) ⟨⟨rfl,rfl⟩, ?_⟩)
  rw [Dk,Ax1]
  refine Yg (p:=(Ak s a).e=0) Bt (fun he=> ?_) fun he=> ?_
  ·rw [if_pos he];exact U0 he
  rw [if_neg (fun h=>h he)]
  have e1:Qo (Ak s a) a=((Ak s a).b:Nat):=by unfold Qo;rw [if_pos he]
  rw [e1]
  have f0:=A8a s a he
  refine Ef (p:=(Ak s a).k=0) Bt (fun h1=> ?_) fun h0=> ?_
  ·rw [if_pos h1];exact U0 (by decide)
  rw [if_neg h0]
  have f01:=f0.2.2 h0
  refine Ef (p:=(Ak s a).k=1) Bt (fun h1=> ?_) fun h1=> ?_
  ·rw [if_pos h1]
   refine(Bf9 s hs (Ak s a).b f0.2.1 w (Ak s a).n).mono fun r g hx=> ?_
   obtain⟨c,g1,g2,g3⟩:=hx
   subst g1;subst g2
   refine⟨⟨rfl,(Pk _).symm⟩, ?_⟩
   exact⟨c,rfl,Pk _,g3⟩
  rw [if_neg h1]
  refine Ef (p:=(Ak s a).k=2) Bt (fun h2=> ?_) fun h2=> ?_
  ·rw [if_pos h2];exact Aod rfl rfl
  rw [if_neg h2]
  refine Ef (p:=(Ak s a).k=3) Bt (fun h3=> ?_) fun h3=> ?_
  ·rw [if_pos h3];exact Aod rfl rfl
  rw [if_neg h3]
  refine Ef (p:=(Ak s a).k=8) Bt (fun h8=> ?_) fun h8=> ?_
  ·rw [if_pos h8]
   refine Call.use (Bj0 (Ak s a).s (Ak s a).b) ⟨⟨rfl,(Pk _).symm⟩, ?_⟩
   exact⟨_,rfl,Pk _,fun h=>(by rw [A4o _ _ h];rfl)⟩
  rw [if_neg h8]
  have wm:IntKind.i64.wrap (((w+1:Nat):Int) - 1)=(w:Int):=by rw [Az _ (by omega) (by omega)];omega
  refine Ef (p:=(Ak s a).k=4) Bt (fun h4=> ?_) fun h4=> ?_
  ·rw [if_pos h4]
   refine Ef (p:=64≤w) (by rw [Bt];show(64:Int)≤(w:Int)↔_;omega) (fun h64=> ?_) fun h64=> ?_
   ·rw [if_pos h64];exact U0 (by decide)
   ·rw [if_neg h64]
    have ew:IntKind.i64.wrap (rI ((Au (prH s ((Ak s a).b:Nat) w) (Nm.arg 0)).getD 2 AV.undef)+1)=((w+1:Nat):Int):=Ni w (by omega)
    rw [ew]
    refine(Bmp s hs m ih (w+1) (by omega) (Ak s a).b f0.2.1 (by omega)).mono fun r g hx=> ?_
    obtain⟨c,g1,g2,g3⟩:=hx
    subst g1;subst g2
    refine⟨⟨rfl,(Pk _).symm⟩, ?_⟩
    have ew2:IntKind.i64.wrap (rI ((Au (prH s c ((w+1:Nat):Int)) (Nm.arg 0)).getD 2 AV.undef) - 1)=(w:Int):=wm
    rw [ew2]
    exact⟨c,rfl,Pk _,g3⟩
  rw [if_neg h4]
  refine Ef (p:=(Ak s a).k=6) Bt (fun h6=> ?_) fun h6=> ?_
  ·rw [if_pos h6]
   refine Ef (p:=64≤w) (by rw [Bt];show(64:Int)≤(w:Int)↔_;omega) (fun h64=> ?_) fun h64=> ?_
   ·rw [if_pos h64];exact U0 (by decide)
   ·rw [if_neg h64]
    have ew:IntKind.i64.wrap (rI ((Au (prH s ((Ak s a).b:Nat) w) (Nm.arg 0)).getD 2 AV.undef)+1)=((w+1:Nat):Int):=Ni w (by omega)
    rw [ew]
    refine(Bmm s hs m ih (w+1) (by omega) (Ak s a).b f0.2.1 (by omega)).mono fun r g hx=> ?_
    obtain⟨c,g1,g2,g3⟩:=hx
    subst g1;subst g2
    refine⟨⟨rfl,(Pk _).symm⟩, ?_⟩
    have ew2:IntKind.i64.wrap (rI ((Au (prH s c ((w+1:Nat):Int)) (Nm.arg 0)).getD 2 AV.undef) - 1)=(w:Int):=wm
    rw [ew2]
    exact⟨c,rfl,Pk _,g3⟩
  ·rw [if_neg h6];exact U0 (by decide)
end
end Go.Proofs.Sim.Se

import Derived.Test.YtcdjheflchglaaaGreatDoorPaB
import Derived.Test.YtcdjheflchglaaaGreatDoorVaA
namespace Go.Proofs.Sim.Pa
open Go Go.Proofs Go.Proofs.Sim Go.Proofs.Sim.Va Go.Proofs.Sim.Se
theorem A3o:∀(m:Nat) (l out:List UInt8) (a:Nat),l.length≤m→(nameL l out a).2.2=0→a≤(nameL l out a).2.1∧(nameL l out a).2.1≤a+l.length:=by
 intro m
 induction m with
 |zero=>
  intro l out a hl _
  have:l=[]:=List.length_eq_zero_iff.1 (by omega)
  subst this
  exact⟨Nat.le_refl _,Nat.le_refl _⟩
 |succ m ih=>
  intro l out a hl h
  rcases l with _ |⟨c,r⟩
  ·exact⟨Nat.le_refl _,Nat.le_refl _⟩
  ·rw [nameL.eq_def]at h ⊢
   simp only at h ⊢
   split at h
   ·rename_i hk
    rw [if_pos hk]
    split at h
    ·rename_i h35
     rw [if_pos h35]
     rcases r with _ |⟨x,_ |⟨y,r⟩⟩
     ·cases h
     ·cases h
     ·simp only at h ⊢
      split at h
      ·cases h
      ·rename_i h1
       rw [if_neg h1]
       split at h
       ·cases h
       ·rename_i h2
        rw [if_neg h2]
        simp only [List.length_cons]at hl ⊢
        have:=ih r _ (a+3) (by omega) h
        omega
    ·rename_i h35
     rw [if_neg h35]
     split at h
     ·cases h
     ·rename_i h2
      rw [if_neg h2]
      simp only [List.length_cons]at hl ⊢
      have:=ih r _ (a+1) (by omega) h
      omega
   ·rename_i hk
    rw [if_neg hk]
    simp only;omega
theorem A4g:∀(m:Nat) (l out:List UInt8) (d:Int) (a:Nat),(Gw m l out d a).2.2=0→a≤(Gw m l out d a).2.1∧(Gw m l out d a).2.1≤a+l.length:=by
 intro m
 induction m with
 |zero=>intro l out d a h;cases h
 |succ m ih=>
  intro l out d a h
  rcases l with _ |⟨c,r⟩
  ·cases h
  ·rw [Gw]at h ⊢
   have he:=Aw2 (c::r)
   split at h
   ·rename_i h1
    rw [if_pos h1]
    split at h
    ·cases h
    rename_i h2
    rw [if_neg h2]
    have:=ih _ _ _ _ h
    rw [List.length_drop]at this
    omega
   ·rename_i h1
    rw [if_neg h1]
    split at h
    ·rename_i h92
     rw [if_pos h92]
     split at h
     ·cases h
     ·rename_i t k hesc
      have hk:=A2v hesc
      split at h
      ·cases h
      rename_i h2
      simp only [if_neg h2]
      have:=ih _ _ _ _ h
      rw [List.length_drop]at this
      simp only [List.length_cons]
      omega
    ·rename_i h92
     rw [if_neg h92]
     simp only [List.length_cons]
     split at h
     ·rename_i h41
      rw [if_pos h41]
      simp only;omega
     ·rename_i h41
      rw [if_neg h41]
      split at h
      ·cases h
      ·rename_i h2
       rw [if_neg h2]
       have:=ih _ _ _ _ h
       omega
theorem A5x:∀(l:List UInt8) (half:Int) (out:List UInt8) (a:Nat),(Li l half out a).2.2=0→a≤(Li l half out a).2.1∧(Li l half out a).2.1≤a+l.length:=by
 intro l
 induction l with
 |nil=>intro half out a h;cases h
 |cons c r ih=>
  intro half out a h
  rw [Li]at h ⊢
  simp only [List.length_cons]
  split at h
  ·rename_i h1
   rw [if_pos h1]
   split at h
   ·rename_i h2;rw [if_pos h2];simp only;omega
   ·rename_i h2
    rw [if_neg h2]
    split at h
    ·cases h
    ·rename_i h3;rw [if_neg h3];simp only;omega
  ·rename_i h1
   rw [if_neg h1]
   split at h
   ·rename_i h2
    rw [if_pos h2]
    split at h
    ·rename_i h3
     rw [if_pos h3]
     have:=ih _ _ _ h
     omega
    ·cases h
   ·rename_i h2
    rw [if_neg h2]
    split at h
    ·rename_i h3
     rw [if_pos h3]
     have:=ih _ _ _ h
     omega
    ·rename_i h3
     rw [if_neg h3]
     split at h
     ·cases h
     ·rename_i h4
      rw [if_neg h4]
      have:=ih _ _ _ h
      omega
theorem Aqj(k:Int)(p lo hi:Nat)(x:Part)(hx:x.2.2=0→lo≤x.2.1∧x.2.1≤hi)(h:(partT k p x).e=0):lo≤(partT k p x).b∧(partT k p x).b≤hi:=by
 unfold partT at h ⊢
 split
 ·rename_i h0;exact hx h0
 ·rename_i h0;rw [if_neg h0]at h;exact absurd h h0
theorem A7b(l:List UInt8)(p:Nat)(h:(Nf l p).e=0):(Nf l p).b=p+Ct 2 l:=by
 unfold Nf at h ⊢
 split
 ·rfl
 ·rename_i h1
  rw [if_neg h1]at h
  split
  ·rename_i h2;rw [if_pos h2]at h;cases h
  ·rename_i h2
   rw [if_neg h2]at h
   split
   ·rename_i h3;rw [if_pos h3]at h;cases h
   ·rfl
theorem A90(c:UInt8)(r:List UInt8)(p:Nat)(hc:kd c≠0)(h:(Ic c r p).e=0):p+1≤(Ic c r p).b∧(Ic c r p).b≤p+1+r.length:=by
 unfold Ic at h ⊢
 have hd:∀x,r.head?=some x→1≤r.length:=by
  intro x hx
  rcases r with _ |⟨y,r⟩
  ·cases hx
  ·simp
 split
 ·exact⟨Nat.le_refl _,by simp⟩
 rename_i h1
 rw [if_neg h1]at h
 split
 ·exact⟨Nat.le_refl _,by simp⟩
 rename_i h2
 rw [if_neg h2]at h
 split
 ·rename_i h3
  rw [if_pos h3]at h
  exact Aqj _ _ _ _ _ (fun hx=>A3o r.length r [] (p+1) (Nat.le_refl _) hx) h
 rename_i h3
 rw [if_neg h3]at h
 split
 ·rename_i h4
  rw [if_pos h4]at h
  exact Aqj _ _ _ _ _ (fun hx=>A4g _ r [] 1 (p+1) hx) h
 rename_i h4
 rw [if_neg h4]at h
 split
 ·rename_i h5
  rw [if_pos h5]at h
  split
  ·rename_i h6;have:=hd _ h6;simp only;omega
  ·rename_i h6
   rw [if_neg h6]at h
   exact Aqj _ _ _ _ _ (fun hx=>A5x r (-1) [] (p+1) hx) h
 rename_i h5
 rw [if_neg h5]at h
 split
 ·rename_i h6
  rw [if_pos h6]at h
  split
  ·rename_i h7;have:=hd _ h7;simp only;omega
  ·rename_i h7;rw [if_neg h7]at h;cases h
 rename_i h6
 rw [if_neg h6]at h
 split
 ·rename_i h7;rw [if_pos h7]at h;cases h
 ·rename_i h7
  rw [if_neg h7]at h
  rw [A7b _ _ h]
  have h8:=Aer 2 (c::r)
  have h9:Ct 2 (c::r)=Ct 2 r+1:=by
   rw [Ct,if_pos]
   have three:kd c=0∨kd c=1∨kd c=2:=by
    unfold kd W9
    split
    ·exact .inl rfl
    ·split
     ·exact .inr (.inl rfl)
     ·exact .inr (.inr rfl)
   rcases three with h |h |h
   ·exact absurd h hc
   ·exact absurd h h7
   ·exact h
  simp only [List.length_cons]at h8
  omega
theorem Aym:∀(b:Bool) (l:List UInt8) (c:UInt8) (r:List UInt8),l.drop (El b l)=c::r→kd c≠0
 |_,[],c,r,h=>by simp [El]at h
 |b,x::l,c,r,h=>by
  rw [El]at h
  by_cases hx:L8 b x=false∧kd x≠0
  ·rw [if_pos hx,List.drop_zero]at h
   injection h with h1 h2
   subst h1
   exact hx.2
  ·rw [if_neg hx,List.drop_succ_cons]at h
   exact Aym _ l c r h
theorem A60(s:List UInt8)(a:Int):M7 s a≤Dl s a:=by unfold Dl;omega
theorem Aeq(s:List UInt8)(a:Nat)(h:a≤s.length):M7 s (a:Int)=a:=by
 unfold M7;rw [if_neg (by omega),if_neg (by omega)];omega
theorem A9p(s:List UInt8)(a:Int):M7 s ((M7 s a:Nat):Int)=M7 s a:=Aeq s _ (Af6 s a)
theorem Aqd(s:List UInt8)(a:Int):Aj s ((M7 s a:Nat):Int)=Aj s a:=by
 unfold Aj Dl;rw [A9p]
theorem Axz(s:List UInt8)(a:Int)(h:(Aj s a).e=0):M7 s a≤(Aj s a).b∧(Aj s a).b≤s.length∧((Aj s a).k≠0→M7 s a<(Aj s a).b):=by
 have h1:=A60 s a
 have h2:=Ayl s a
 by_cases hp:Dl s a<s.length
 ·rw [A6k s a hp]at h ⊢
  have hc:kd s[Dl s a]≠0:=by
   refine Aym false (s.drop (M7 s a)) _ (s.drop (Dl s a+1)) ?_
   rw [List.drop_drop]
   exact Io s _ hp
  have:=A90 s[Dl s a] (s.drop (Dl s a+1)) (Dl s a) hc h
  rw [List.length_drop]at this
  omega
 ·rw [A6h s a hp]at h ⊢
  exact⟨h1,h2,fun h=>absurd rfl h⟩
theorem Oq(s:List UInt8)(a:Nat)(ha:a≤s.length)(h:(Aj s a).e=0):a≤(Aj s a).b∧(Aj s a).b≤s.length∧((Aj s a).k≠0→a<(Aj s a).b):=by
 have:=Axz s a h
 rwa [Aeq s a ha]at this
theorem A58(s:List UInt8)(b:Nat)(hb:b≤s.length) {g:Int} {c:Nat} (h:Oo s b=some (g,c)):b<c∧c≤s.length:=by
 unfold Oo at h
 split at h
 ·rename_i h1
  split at h
  ·rename_i h2
   injection h with h;injection h with _ h
   subst h
   have f1:=Oq s b hb h1.1
   have f2:=Oq s _ f1.2.1 h2.1
   have:=f1.2.2 (by rw [h1.2];decide)
   exact⟨by omega,f2.2.1⟩
  ·cases h
 ·cases h
theorem A9f(s:List UInt8)(n:Int)(b:Nat)(hb:b≤s.length)(h:(numL s n b).2.2=0):b≤(numL s n b).2.1∧(numL s n b).2.1≤s.length:=by
 unfold numL at h ⊢
 split
 ·exact⟨Nat.le_refl _,hb⟩
 ·rename_i g c hl
  rw [hl]at h
  simp only at h
  split
  ·rename_i h1;rw [if_pos h1]at h;cases h
  ·have:=A58 s b hb hl
   simp only;omega
theorem Au6(w:List UInt8)(b:Nat)(h:(Te w b).2.2=0):(Te w b).2.1=b:=by
 unfold Te at h ⊢
 split
 ·rfl
 ·rename_i h1
  rw [if_neg h1]at h
  split
  ·rfl
  ·rename_i h2
   rw [if_neg h2]at h
   split
   ·rfl
   ·rename_i h3;rw [if_neg h3]at h;cases h
def Aiz(s:List UInt8)(a:Nat)(x:V × Nat × Int):Prop:=x.2.2=0→a<x.2.1∧x.2.1≤s.length
theorem A6a(s:List UInt8)(rd:Nat→V × Nat × Int)(hrd:∀a,a≤s.length→Aiz s a (rd a)):∀(m a:Nat) (acc:List V),a≤s.length→Aiz s a (I8 s rd m a acc):=by
 intro m
 induction m with
 |zero=>intro a acc ha h;cases h
 |succ m ih=>
  intro a acc ha h
  rw [I8]at h ⊢
  split at h
  ·rename_i h1;exact absurd h h1
  ·rename_i h1
   rw [if_neg h1]
   have f:=Oq s a ha (Classical.not_not.1 h1)
   split at h
   ·rename_i h2
    rw [if_pos h2]
    exact⟨f.2.2 (by rw [h2];decide),f.2.1⟩
   ·rename_i h2
    rw [if_neg h2]
    split at h
    ·rename_i h3;exact absurd h h3
    ·rename_i h3
     rw [if_neg h3]
     have hr:=hrd a ha (Classical.not_not.1 h3)
     have:=ih _ _ hr.2 h
     exact⟨by omega,this.2⟩
theorem A5k(s:List UInt8)(rd:Nat→V × Nat × Int)(hrd:∀a,a≤s.length→Aiz s a (rd a)):∀(m a:Nat) (acc:List Pr),a≤s.length→Aiz s a (Im s rd m a acc):=by
 intro m
 induction m with
 |zero=>intro a acc ha h;cases h
 |succ m ih=>
  intro a acc ha h
  rw [Im]at h ⊢
  split at h
  ·rename_i h1;exact absurd h h1
  rename_i h1
  rw [if_neg h1]
  have f:=Oq s a ha (Classical.not_not.1 h1)
  split at h
  ·rename_i h2
   rw [if_pos h2]
   exact⟨f.2.2 (by rw [h2];decide),f.2.1⟩
  rename_i h2
  rw [if_neg h2]
  split at h
  ·cases h
  rename_i h3
  rw [if_neg h3]
  split at h
  ·cases h
  rename_i h4
  rw [if_neg h4]
  split at h
  ·cases h
  rename_i h5
  rw [if_neg h5]
  split at h
  ·rename_i h6;exact absurd h h6
  ·rename_i h6
   rw [if_neg h6]
   have hr:=hrd _ f.2.1 (Classical.not_not.1 h6)
   have:=ih _ _ hr.2 h
   exact⟨by omega,this.2⟩
theorem X8(s:List UInt8):∀(m w a:Nat),a≤s.length→Aiz s a (Cy s m w a):=by
 intro m
 induction m with
 |zero=>intro w a ha h;cases h
 |succ m ih=>
  intro w a ha h
  rw [Cy]at h ⊢
  split at h
  ·rename_i h1;exact absurd h h1
  rename_i h1
  rw [if_neg h1]
  have f:=Oq s a ha (Classical.not_not.1 h1)
  split at h
  ·cases h
  rename_i h2
  rw [if_neg h2]
  have f3:=f.2.2 h2
  split at h
  ·rename_i h3
   rw [if_pos h3]
   have:=A9f s _ _ f.2.1 h
   exact⟨by omega,this.2⟩
  rename_i h3
  rw [if_neg h3]
  split at h
  ·rename_i h4;rw [if_pos h4];exact⟨f3,f.2.1⟩
  rename_i h4
  rw [if_neg h4]
  split at h
  ·rename_i h5;rw [if_pos h5];exact⟨f3,f.2.1⟩
  rename_i h5
  rw [if_neg h5]
  split at h
  ·rename_i h6
   rw [if_pos h6,Au6 _ _ h];exact⟨f3,f.2.1⟩
  rename_i h6
  rw [if_neg h6]
  split at h
  ·rename_i h7
   rw [if_pos h7]
   split at h
   ·cases h
   ·rename_i h8
    rw [if_neg h8]
    have:=A6a s (Cy s m (w+1)) (fun a ha=>ih (w+1) a ha) _ _ _ f.2.1 h
    exact⟨by omega,this.2⟩
  rename_i h7
  rw [if_neg h7]
  split at h
  ·rename_i h8
   rw [if_pos h8]
   split at h
   ·cases h
   ·rename_i h9
    rw [if_neg h9]
    have:=A5k s (Cy s m (w+1)) (fun a ha=>ih (w+1) a ha) _ _ _ f.2.1 h
    exact⟨by omega,this.2⟩
  ·cases h
end Go.Proofs.Sim.Pa
set_option maxRecDepth 100000
namespace Go.Proofs.Sim.Se
open Go Go.Proofs Go.Proofs.Sim Go.Proofs.Sim.Va Go.RowKit Go.Proofs.Sim.Pa
abbrev Z0(s:List UInt8)(a w:Int):Heap:=[(Nm.arg 0, .blk Ao [.imm (.str s), .imm (.int .i64 a), .imm (.int .i64 w)])]
abbrev rdA(x:V × Nat × Int):AV:= .tup [.imm (.agg x.1.row), .imm (.int .i64 x.2.2)]
def RdQ(s:List UInt8)(w:Int)(x:V × Nat × Int):QQ:=fun r h=>∃c:Int,h=Z0 s c w∧r=rdA x∧(x.2.2=0→c=x.2.1)
theorem Af0(k n g:Int)(t:List UInt8)(l:List V)(d:List Pr):(V.mk k n g t l d).row=[.int .i64 k, .int .i64 n, .int .i64 g, .str t, .sl .any 6 (l.map V.row), .sl .any 7 (d.map C9)]:=Ha _
theorem A2u(e:Int):rdA (J5 e)= .tup [.imm (.agg [.int .i64 0, .int .i64 0, .int .i64 0, .str [], .sl .any 6 [], .sl .any 7 []]), .imm (.int .i64 e)]:=by
 unfold J5 rdA;rw [Af0];rfl
theorem R4 {s:List UInt8} {w c e:Int} (he:e≠0):RdQ s w (J5 e) (.tup [.imm (.agg [.int .i64 0, .int .i64 0, .int .i64 0, .str [], .sl .any 6 [], .sl .any 7 []]), .imm (.int .i64 e)]) (Z0 s c w):=
 ⟨c,rfl,(A2u e).symm,fun h=>absurd h he⟩
theorem Aij {s:List UInt8} {w:Int} {c:Nat} {k n g:Int} {t:List UInt8} {l:List V} {d:List Pr} {L D:LL} (hl:l.map V.row=L)(hd:d.map C9=D):
 RdQ s w (.mk k n g t l d,c,0) (.tup [.imm (.agg [.int .i64 k, .int .i64 n, .int .i64 g, .str t, .sl .any 6 L, .sl .any 7 D]), .imm (.int .i64 0)]) (Z0 s c w):=by
 subst hl;subst hd
 exact⟨c,rfl,by unfold rdA;rw [Af0],fun _=>rfl⟩
def Oz(t:Tk)(a:Int):Int:=if t.e=0 then t.b else a
section
variable (s:List UInt8) (hs:s.length≤1000000000)
include hs
theorem Afq(a w:Int):Call E0.P F9 [.ptr (.arg 0) 0] (Z0 s a w) (Is (nxA (Aj s a)) (Z0 s (Oz (Aj s a) a) w)):=by
 refine Ag3 _ _ _ _ (Call.use (Av8 s hs a) ⟨⟨rfl,rfl⟩, ?_⟩)
 have fin:∀c:Int,c=Oz (Aj s a) a→Kr (Aj s a).e 0 0 [] 0 0 (Aj s a).k (Aj s a).n (Aj s a).s (Aj s a).a (Aj s a).b s c w (Kv s a w (Is (nxA (Aj s a)) (Z0 s (Oz (Aj s a) a) w))):=by
  intro c hc
  subst hc
  refine Aex _ _ _ _ _ _ _ _ _ _ _ _ _ _ _ ?_
  apply Ae6
  exact⟨rfl,rfl⟩
 refine Gb (p:=(Aj s a).e=0) Cf (fun h=>fin _ ?_) fun h=>fin _ ?_
 ·unfold Oz;rw [if_pos h];rfl
 ·unfold Oz;rw [if_neg h]
theorem A18(a:Int)(w:Int)(h:Oo s (M7 s a)=none)(_ha:0≤a∧a≤s.length):Call E0.P Lv [.ptr (.arg 0) 0] (Z0 s a w) (Is (.tup [.imm (.int .i64 0), .imm (.bool false)]) (Z0 s a w)):=by
 have fin:∀c,Kt s c w s a (Kw s a w (Is (.tup [.imm (.int .i64 0), .imm (.bool false)]) (Z0 s a w))):=by
  intro c
  refine Aey _ _ _ _ _ _ ?_
  apply Afa
  exact⟨rfl,rfl⟩
 refine V8 _ _ _ _ (Call.use (Afq s hs a w) ⟨⟨rfl,rfl⟩,Let.intro ?_⟩)
 unfold Oo at h
 rw [Aqd]at h
 refine Gb (p:=(Aj s a).e=0∧(Aj s a).k=1) (Q0 _ _) (fun h1=> ?_) fun _=>fin _
 rw [if_pos h1]at h
 have e1:Oz (Aj s a) a=((Aj s a).b:Nat):=by unfold Oz;rw [if_pos h1.1]
 rw [e1]
 refine Call.use (Afq s hs ((Aj s a).b:Nat) w) ⟨⟨rfl,rfl⟩,Let.intro (Let.intro ?_)⟩
 refine Gb (p:=((Aj s (Aj s a).b).e=0∧(Aj s (Aj s a).b).k=8)∧(Aj s (Aj s a).b).s=[82]) ?_ (fun h2=> ?_) fun _=>fin _
 ·rw [←Q0 ((Aj s (Aj s a).b).e=0)]
  cases hc:(bif decide ((Aj s (Aj s a).b).e=0)then decide ((Aj s (Aj s a).b).k=8)else false)
  ·constructor
   ·intro h3
    have:(bif (bif decide ((Aj s (Aj s a).b).e=0)then decide ((Aj s (Aj s a).b).k=8)else false)then(Aj s (Aj s a).b).s == [82]else false)=true:=h3
    rw [hc]at this;cases this
   ·rintro⟨h3,_⟩;cases h3
  ·constructor
   ·intro h3
    have:(bif (bif decide ((Aj s (Aj s a).b).e=0)then decide ((Aj s (Aj s a).b).k=8)else false)then(Aj s (Aj s a).b).s == [82]else false)=true:=h3
    rw [hc]at this
    exact⟨rfl,by simpa using this⟩
   ·rintro⟨_,h3⟩
    show(bif (bif decide ((Aj s (Aj s a).b).e=0)then decide ((Aj s (Aj s a).b).k=8)else false)then(Aj s (Aj s a).b).s == [82]else false)=true
    rw [hc,h3];rfl
 ·rw [if_pos ⟨h2.1.1,h2.1.2,h2.2⟩]at h
  cases h
theorem A0l(a:Int)(w:Int)(g:Int)(c:Nat)(h:Oo s (M7 s a)=some (g,c)):Call E0.P Lv [.ptr (.arg 0) 0] (Z0 s a w) (Is (.tup [.imm (.int .i64 g), .imm (.bool true)]) (Z0 s c w)):=by
 refine V8 _ _ _ _ (Call.use (Afq s hs a w) ⟨⟨rfl,rfl⟩,Let.intro ?_⟩)
 unfold Oo at h
 rw [Aqd]at h
 split at h
 case isFalse=>cases h
 rename_i h1
 refine Gb (p:=(Aj s a).e=0∧(Aj s a).k=1) (Q0 _ _) (fun h1=> ?_) fun h'=>absurd h1 h'
 have e1:Oz (Aj s a) a=((Aj s a).b:Nat):=by unfold Oz;rw [if_pos h1.1]
 rw [e1]
 refine Call.use (Afq s hs ((Aj s a).b:Nat) w) ⟨⟨rfl,rfl⟩,Let.intro (Let.intro ?_)⟩
 split at h
 case isFalse=>cases h
 rename_i h2
 injection h with h;injection h with h3 h4
 subst h3;subst h4
 have e2:Oz (Aj s ((Aj s a).b:Nat)) ((Aj s a).b:Nat)=((Aj s ((Aj s a).b:Nat)).b:Nat):=by unfold Oz;rw [if_pos h2.1]
 rw [e2]
 have e3:(bif (bif decide ((Aj s (Aj s a).b).e=0)then decide ((Aj s (Aj s a).b).k=8)else false)then(Aj s (Aj s a).b).s == [82]else false)=true:=by
  rw [decide_eq_true h2.1,decide_eq_true h2.2.1,h2.2.2];rfl
 exact Gb (p:=True) ⟨fun _=>trivial,fun _=>e3⟩ (fun _=>⟨rfl,rfl⟩) fun h=>absurd trivial h
theorem A4v(a:Nat)(ha:a≤s.length)(w:Int)(n:Int):Call E0.P O3 [.ptr (.arg 0) 0, .imm (.int .i64 n)] (Z0 s a w) (RdQ s w (numL s n a)):=by
 have hp:=Aeq s a ha
 unfold numL
 rcases hl:Oo s a with _ |⟨g,c⟩
 ·refine Tn _ _ _ _ _ (Call.use (A18 s hs a w (by rw [hp];exact hl) ⟨by omega,by omega⟩) ⟨⟨rfl,rfl⟩,Aqb rfl ?_⟩)
  exact Aij rfl rfl
 ·refine Tn _ _ _ _ _ (Call.use (A0l s hs a w g c (by rw [hp];exact hl)) ⟨⟨rfl,rfl⟩,Aqc rfl (Let.intro (Let.intro (Let.intro ?_)))⟩)
  rw [show rI (rT (.tup [.imm (.int .i64 g), .imm (.bool true)]) 0)=g from rfl]
  refine Gb (p:=n<1∨8388607<n∨g<0∨65535<g) (by rw [Ajx,Ajx,A6n];omega) (fun h=> ?_) fun h=> ?_
  ·simp only [if_pos h];exact R4 (by decide)
  ·simp only [if_neg h];exact Aij rfl rfl
omit hs in
theorem A8c(t:List UInt8)(b:Nat):Call E0.P Acx [.imm (.str t)] [] (Is (rdA (Te t b)) []):=by
 have e:∀(k n g:Int) (t:List UInt8),rdA (.mk k n g t [] [],b,0)= .tup [.imm (.agg [.int .i64 k, .int .i64 n, .int .i64 g, .str t, .sl .any 6 [], .sl .any 7 []]), .imm (.int .i64 0)]:=by
  intro k n g t;unfold rdA;rw [Af0];rfl
 unfold Te
 refine Aqz _ _ (Gb (p:=t=[116,114,117,101]) (by simp) (fun h=> ?_) fun h1=>Gb (p:=t=[102,97,108,115,101]) (by simp) (fun h=> ?_) fun h2=>Gb (p:=t=[110,117,108,108]) (by simp) (fun h=> ?_) fun h3=> ?_)
 ·rw [if_pos h,e];exact⟨rfl,rfl⟩
 ·rw [if_neg h1,if_pos h,e];exact⟨rfl,rfl⟩
 ·rw [if_neg h1,if_neg h2,if_pos h,e];exact⟨rfl,rfl⟩
 ·rw [if_neg h1,if_neg h2,if_neg h3,A2u];exact⟨rfl,rfl⟩
def M3(t:Tk)(m:List (List UInt8 × Int)):List UInt8 × Bool × Int:=
 if t.e≠0 then([],false,t.e)else if t.k=0 then([],false,5)else if t.k=7 then([],false,0)else if t.k≠2 then([],false,4)else if 0<Dm m t.s then([],false,11)else(t.s,true,0)
def Ams(t:Tk)(m:List (List UInt8 × Int)):List (List UInt8 × Int):=if(M3 t m).2.1 then Vi m t.s (IntKind.i64.wrap (Dm m t.s+1))else m
abbrev kyA(x:List UInt8 × Bool × Int):AV:= .tup [.imm (.str x.1), .imm (.bool x.2.1), .imm (.int .i64 x.2.2)]
abbrev pmH(s:List UInt8)(a w:Int)(m:List (List UInt8 × Int)):Heap:=[(Nm.arg 0, .blk Ao [.imm (.str s), .imm (.int .i64 a), .imm (.int .i64 w)]),(Nm.arg 1, .map m)]
theorem Bch(a w:Int)(m:List (List UInt8 × Int)):Call E0.P R8 [.ptr (.arg 0) 0, .mp (.arg 1)] (pmH s a w m) (Is (kyA (M3 (Aj s a) m)) (pmH s (Oz (Aj s a) a) w (Ams (Aj s a) m))):=by
 refine Aht _ _ _ _ _ (Call.use (Afq s hs a w) ⟨⟨rfl,rfl⟩, ?_⟩)
 have no:(M3 (Aj s a) m).2.1=false→Ams (Aj s a) m=m:=fun h=>by unfold Ams;rw [h];rfl
 have fin:∀e:Int,M3 (Aj s a) m=([],false,e)→Is (kyA (M3 (Aj s a) m)) (pmH s (Oz (Aj s a) a) w (Ams (Aj s a) m)) (.tup [.imm (.str []), .imm (.bool false), .imm (.int .i64 e)]) (pmH s (Oz (Aj s a) a) w m):=by
  intro e h
  rw [no (by rw [h]),h]
  exact⟨rfl,rfl⟩
 refine brN (p:=(Aj s a).e=0) Cf (fun h1=>fin _ ?_) fun h1=>Gb (p:=(Aj s a).k=0) Cf (fun h2=>fin _ ?_) fun h2=>Gb (p:=(Aj s a).k=7) Cf (fun h3=>fin _ ?_) fun h3=>brN (p:=(Aj s a).k=2) Cf (fun h4=>fin _ ?_) fun h4=>Gb (p:=0<Dm m (Aj s a).s) Cf (fun h5=>fin _ ?_) fun h5=> ?_
 ·unfold M3;rw [if_pos h1];rfl
 ·unfold M3;rw [if_neg (fun h=>h h1),if_pos h2]
 ·unfold M3;rw [if_neg (fun h=>h h1),if_neg h2,if_pos h3]
 ·unfold M3;rw [if_neg (fun h=>h h1),if_neg h2,if_neg h3,if_pos h4]
 ·unfold M3;rw [if_neg (fun h=>h h1),if_neg h2,if_neg h3,if_neg (fun h=>h h4),if_pos h5]
 ·have hk:M3 (Aj s a) m=((Aj s a).s,true,0):=by
   unfold M3;rw [if_neg (fun h=>h h1),if_neg h2,if_neg h3,if_neg (fun h=>h h4),if_neg h5]
  have hm:Ams (Aj s a) m=Vi m (Aj s a).s (IntKind.i64.wrap (Dm m (Aj s a).s+1)):=by
   unfold Ams;rw [hk];rfl
  rw [hk,hm]
  exact⟨rfl,rfl⟩
end
end Go.Proofs.Sim.Se
set_option maxRecDepth 100000
namespace Go.Proofs.Sim.Se
open Go Go.Proofs Go.Proofs.Sim Go.Proofs.Sim.Va Go.RowKit Go.Proofs.Sim.Pa
theorem Z6(v:V): [.int .i64 (gI v.row 0), .int .i64 (gI v.row 1), .int .i64 (gI v.row 2), .str (gS v.row 3), .sl .any 6 (gR v.row 4), .sl .any 7 (gR v.row 5)]=v.row:=by rw [Ha];rfl
abbrev A30(r:AV):AV:= .tup [.imm (.agg [.int .i64 (gI (Ac (rT r 0)) 0), .int .i64 (gI (Ac (rT r 0)) 1), .int .i64 (gI (Ac (rT r 0)) 2), .str (gS (Ac (rT r 0)) 3), .sl .any 6 (gR (Ac (rT r 0)) 4), .sl .any 7 (gR (Ac (rT r 0)) 5)]), .imm (.int .i64 (rI (rT r 1)))]
theorem Lb(x:V × Nat × Int):A30 (rdA x)=rdA x:=by
 show AV.tup [.imm (.agg [.int .i64 (gI x.1.row 0), .int .i64 (gI x.1.row 1), .int .i64 (gI x.1.row 2), .str (gS x.1.row 3), .sl .any 6 (gR x.1.row 4), .sl .any 7 (gR x.1.row 5)]), .imm (.int .i64 x.2.2)]=_
 rw [Z6]
theorem Axu(k x:List UInt8)(v:Int):∀m:List (List UInt8 × Int),Dm (Vi m x v) k=if k=x then v else Dm m k
 | []=>by
   simp only [Vi,Dm]
 |(y,u)::r=>by
  simp only [Vi]
  by_cases h:x=y
  ·subst h
   rw [if_pos rfl,Dm,Dm]
   by_cases hk:k=x
   ·rw [if_pos hk,if_pos hk]
   ·rw [if_neg hk,if_neg hk,if_neg hk]
  ·rw [if_neg h,Dm,Dm,Axu k x v r]
   by_cases hk:k=y
   ·subst hk
    rw [if_pos rfl,if_pos rfl,if_neg (fun e=>h e.symm)]
   ·rw [if_neg hk,if_neg hk]
def A0i(m:List (List UInt8 × Int))(acc:List Pr):Prop:=∀k,(0<Dm m k↔acc.any (fun p=>p.1 == k)=true)∧0≤Dm m k∧Dm m k≤1
theorem A6e:A0i [] []:=fun k=>⟨by simp [Dm],by simp [Dm],by simp [Dm]⟩
theorem A89 {m:List (List UInt8 × Int)} {acc:List Pr} (h:A0i m acc)(x:List UInt8)(v:V)(hx:¬0<Dm m x):A0i (Vi m x (IntKind.i64.wrap (Dm m x+1))) (acc++[(x,v)]):=by
 intro k
 have hk:=h k
 have hx2:=h x
 rw [Be _ (by omega) (by omega),Axu]
 by_cases e:k=x
 ·subst e
  rw [if_pos rfl]
  exact⟨⟨fun _=>by simp,fun _=>by omega⟩,by omega,by omega⟩
 ·rw [if_neg e]
  refine⟨?_,hk.2⟩
  rw [hk.1]
  have:¬x=k:=fun h=>e h.symm
  simp [this]
section
variable (s:List UInt8) (hs:s.length≤1000000000)
include hs
abbrev Av7(s:List UInt8)(m:Nat):Prop:=∀(w:Nat) (a:Int),w≤64→s.length<M7 s a+m→Call E0.P Il [.ptr (.arg 0) 0] (Z0 s a w) (RdQ s w (Cy s m w (M7 s a)))
theorem Bac(m:Nat)(ih:Av7 s m)(w:Nat)(hw:w≤64)(at0 w0:Int)(Q:QQ)(X:V × Nat × Int)(hQ:∀r h,RdQ s w X r h→Q r h):∀(f a:Nat) (acc:List V),a≤s.length→s.length<a+m→s.length<a+f→acc.length≤a→I8 s (Cy s m w) f a acc=X→
 Ih s a w 0 0 0 [] 5 0 0 [] [] [] (acc.map V.row) [] (Ie s at0 w0 Q):=by
 intro f
 induction f with
 |zero=>intro a acc ha h1 h2;omega
 |succ f ihf=>
  intro a acc ha h1 h2 hl hX
  have hp:=Aeq s a ha
  rw [I8]at hX
  refine Afl _ _ _ _ _ _ _ _ _ _ _ _ _ _ _ _ (Call.use (Av8 s hs a) ⟨⟨rfl,rfl⟩, ?_⟩)
  refine brN (p:=(Aj s a).e=0) Cf (fun he=> ?_) fun he=>Gb (p:=(Aj s a).k=5) Cf (fun h5=> ?_) fun h5=> ?_
  ·rw [if_pos he]at hX
   apply Afc
   exact hQ _ _ (hX ▸ R4 he)
  ·rw [if_neg (fun h=>h he),if_pos h5]at hX
   refine Call.use (Afq s hs a w) ⟨⟨rfl,rfl⟩, ?_⟩
   apply Afd
   refine Adp _ _ _ _ _ _ _ _ _ _ _ _ _ _ _ _ ?_
   apply Afb
   have e1:Oz (Aj s a) a=((Aj s a).b:Nat):=by unfold Oz;rw [if_pos he]
   rw [e1]
   exact hQ _ _ (hX ▸ Aij rfl rfl)
  ·rw [if_neg (fun h=>h he),if_neg h5]at hX
   refine(ih w a hw (by rw [hp];omega)).mono fun r g hx=> ?_
   rw [hp]at hx
   have fin:=X8 s m w a ha
   generalize Cy s m w a=x at hx fin hX
   obtain⟨c,e1,e2,e3⟩:=hx
   subst e1;subst e2
   refine⟨⟨rfl,(Lb x).symm⟩,brN (p:=x.2.2=0) Cf (fun h0=> ?_) fun h0=> ?_⟩
   ·rw [if_pos h0]at hX
    apply Afe
    exact hQ _ _ (hX ▸ R4 h0)
   ·rw [if_neg (fun h=>h h0)]at hX
    have f1:=fin h0
    refine⟨⟨by rw [List.length_map];omega,by rw [List.length_map];omega⟩, ?_⟩
    have e4:(acc.map V.row++[[IV.int .i64 (gI x.1.row 0), .int .i64 (gI x.1.row 1), .int .i64 (gI x.1.row 2), .str (gS x.1.row 3), .sl .any 6 (gR x.1.row 4), .sl .any 7 (gR x.1.row 5)]])=(acc++[x.1]).map V.row:=by rw [Z6];simp
    show Ih s c w 0 0 0 [] 5 0 0 [] [] [] (acc.map V.row++[[IV.int .i64 (gI x.1.row 0), .int .i64 (gI x.1.row 1), .int .i64 (gI x.1.row 2), .str (gS x.1.row 3), .sl .any 6 (gR x.1.row 4), .sl .any 7 (gR x.1.row 5)]]) [] _
    rw [e4,e3 h0]
    exact ihf x.2.1 (acc++[x.1]) f1.2 (by omega) (by omega) (by simp;omega) hX
theorem Bar(m:Nat)(ih:Av7 s m)(w:Nat)(hw:w≤64)(a:Nat)(ha:a≤s.length)(h1:s.length<a+m):Call E0.P Q7 [.ptr (.arg 0) 0] (Z0 s a w) (RdQ s w (I8 s (Cy s m w) (s.length+1) a [])):=
 Ag5 _ _ _ _ (Bac s hs m ih w hw a w _ _ (fun _ _ h=>h) (s.length+1) a [] ha h1 (by omega) (by simp) rfl)
theorem Baa(m:Nat)(ih:Av7 s m)(w:Nat)(hw:w≤64)(at0 w0:Int)(Q:QQ)(X:V × Nat × Int)(hQ:∀r h,RdQ s w X r h→Q r h):∀(f a:Nat) (acc:List Pr) (mp:List (List UInt8 × Int)),a≤s.length→s.length<a+m→s.length<a+f→acc.length≤a→A0i mp acc→Im s (Cy s m w) f a acc=X→
 Ig s a w 0 0 0 [] 6 0 0 [] mp [] [] [] (acc.map C9) (Gs s at0 w0 Q):=by
 intro f
 induction f with
 |zero=>intro a acc mp ha h1 h2;omega
 |succ f ihf=>
  intro a acc mp ha h1 h2 hl hmp hX
  have hp:=Aeq s a ha
  rw [Im]at hX
  refine Afk _ _ _ _ _ _ _ _ _ _ _ _ _ _ _ _ _ (Call.use (Bch s hs a w mp) ⟨⟨rfl,rfl⟩, ?_⟩)
  have bad:∀e:Int,e≠0→X=J5 e→M3 (Aj s a) mp=([],false,e)→∀B,Br (!decide (rI (rT (kyA (M3 (Aj s a) mp)) 2)=0)) (Gs s at0 w0 Q .ret ⟨[(2, .ptr (Nm.loc 2) 0),(3, .imm (.int .i64 (rI (rT (kyA (M3 (Aj s a) mp)) 2))))],[(Nm.loc 2, .blk Ae [.imm (.int .i64 0), .imm (.int .i64 0), .imm (.int .i64 0), .imm (.str []), .own (Nm.sub 22 ((Nm.loc 2).cell 4)), .own (Nm.sub 22 ((Nm.loc 2).cell 5))]),(Nm.arg 0, .blk Ao [.imm (.str s), .imm (.int .i64 (Oz (Aj s a) a)), .imm (.int .i64 w)]),(Nm.sub 22 ((Nm.loc 2).cell 4), .arr (Ae+2) true 6 []),(Nm.sub 22 ((Nm.loc 2).cell 5), .arr (Aq+2) true 7 [])]⟩) B:=by
   intro e he hx hk B
   rw [hk]
   refine Aqb (decide_eq_false he) ?_
   apply Ae7
   exact hQ _ _ (hx ▸ R4 he)
  by_cases he:(Aj s a).e=0
  case neg=>
   rw [if_pos he]at hX
   exact bad _ he hX.symm (by unfold M3;rw [if_pos he]) _
  have e1:Oz (Aj s a) a=((Aj s a).b:Nat):=by unfold Oz;rw [if_pos he]
  rw [if_neg (fun h=>h he)]at hX
  by_cases h7:(Aj s a).k=7
  ·rw [if_pos h7]at hX
   have hk:M3 (Aj s a) mp=([],false,0):=by unfold M3;rw [if_neg (fun h=>h he),if_neg (by rw [h7];decide),if_pos h7]
   rw [hk]
   refine Aqc (by rfl) (Aqb rfl ?_)
   apply Ae8
   rw [e1]
   exact hQ _ _ (hX ▸ Aij rfl rfl)
  rw [if_neg h7]at hX
  by_cases h0:(Aj s a).k=0
  ·rw [if_pos h0]at hX
   exact bad 5 (by decide) hX.symm (by unfold M3;rw [if_neg (fun h=>h he),if_pos h0]) _
  rw [if_neg h0]at hX
  by_cases h2':(Aj s a).k=2
  case neg=>
   rw [if_pos h2']at hX
   exact bad 4 (by decide) hX.symm (by unfold M3;rw [if_neg (fun h=>h he),if_neg h0,if_neg h7,if_pos h2']) _
  rw [if_neg (fun h=>h h2')]at hX
  by_cases hs':0<Dm mp (Aj s a).s
  ·rw [if_pos ((hmp _).1.1 hs')]at hX
   exact bad 11 (by decide) hX.symm (by unfold M3;rw [if_neg (fun h=>h he),if_neg h0,if_neg h7,if_neg (fun h=>h h2'),if_pos hs']) _
  rw [if_neg (fun h=>hs' ((hmp _).1.2 h))]at hX
  have hk:M3 (Aj s a) mp=((Aj s a).s,true,0):=by unfold M3;rw [if_neg (fun h=>h he),if_neg h0,if_neg h7,if_neg (fun h=>h h2'),if_neg hs']
  have hm:Ams (Aj s a) mp=Vi mp (Aj s a).s (IntKind.i64.wrap (Dm mp (Aj s a).s+1)):=by unfold Ams;rw [hk];rfl
  rw [hk,hm,e1]
  refine Aqc (by rfl) (Aqc rfl ?_)
  have f0:=Oq s a ha he
  have f01:=f0.2.2 (by rw [h2'];decide)
  have hp2:=Aeq s (Aj s a).b f0.2.1
  refine(ih w ((Aj s a).b:Nat) hw (by rw [hp2];omega)).mono fun r g hx=> ?_
  rw [hp2]at hx
  have fin:=X8 s m w (Aj s a).b f0.2.1
  generalize Cy s m w (Aj s a).b=x at hx fin hX
  obtain⟨c,g1,g2,g3⟩:=hx
  subst g1;subst g2
  refine⟨⟨rfl,(Lb x).symm⟩,brN (p:=x.2.2=0) Cf (fun h0=> ?_) fun h0=> ?_⟩
  ·rw [if_pos h0]at hX
   apply Ae9
   exact hQ _ _ (hX ▸ R4 h0)
  ·rw [if_neg (fun h=>h h0)]at hX
   have f1:=fin h0
   refine⟨⟨by rw [List.length_map];omega,by rw [List.length_map];omega⟩, ?_⟩
   have e4:(acc.map C9++[[IV.str (Aj s a).s, .int .i64 (gI x.1.row 0), .int .i64 (gI x.1.row 1), .int .i64 (gI x.1.row 2), .str (gS x.1.row 3), .sl .any 6 (gR x.1.row 4), .sl .any 7 (gR x.1.row 5)]])=(acc++[((Aj s a).s,x.1)]).map C9:=by
    rw [Z6];simp [C9]
   show Ig s c w 0 0 0 [] 6 0 0 [] (Vi mp (Aj s a).s (IntKind.i64.wrap (Dm mp (Aj s a).s+1))) [] [] [] (acc.map C9++[[IV.str (Aj s a).s, .int .i64 (gI x.1.row 0), .int .i64 (gI x.1.row 1), .int .i64 (gI x.1.row 2), .str (gS x.1.row 3), .sl .any 6 (gR x.1.row 4), .sl .any 7 (gR x.1.row 5)]]) _
   rw [e4,g3 h0]
   exact ihf x.2.1 (acc++[((Aj s a).s,x.1)]) _ f1.2 (by omega) (by omega) (by simp;omega) (A89 hmp _ _ hs') hX
theorem Bap(m:Nat)(ih:Av7 s m)(w:Nat)(hw:w≤64)(a:Nat)(ha:a≤s.length)(h1:s.length<a+m):Call E0.P Q6 [.ptr (.arg 0) 0] (Z0 s a w) (RdQ s w (Im s (Cy s m w) (s.length+1) a [])):=
 Ag4 _ _ _ _ (Baa s hs m ih w hw a w _ _ (fun _ _ h=>h) (s.length+1) a [] [] ha h1 (by omega) (by simp) A6e rfl)
theorem A8e:∀m:Nat,Av7 s m:=by
 intro m
 induction m with
 |zero=>intro w a hw h;have:=Af6 s a;omega
 |succ m ih=>
  intro w a hw h
  refine Aga _ _ _ _ (Call.use (Afq s hs a w) ⟨⟨rfl,rfl⟩, ?_⟩)
  rw [Cy,Aqd]
  refine brN (p:=(Aj s a).e=0) Cf (fun he=> ?_) fun he=> ?_
  ·rw [if_pos he];exact R4 he
  rw [if_neg (fun h=>h he)]
  have e1:Oz (Aj s a) a=((Aj s a).b:Nat):=by unfold Oz;rw [if_pos he]
  rw [e1]
  have f0:=Axz s a he
  refine Gb (p:=(Aj s a).k=0) Cf (fun h1=> ?_) fun h0=> ?_
  ·rw [if_pos h1];exact R4 (by decide)
  rw [if_neg h0]
  have f01:=f0.2.2 h0
  refine Gb (p:=(Aj s a).k=1) Cf (fun h1=> ?_) fun h1=> ?_
  ·rw [if_pos h1]
   refine(A4v s hs (Aj s a).b f0.2.1 w (Aj s a).n).mono fun r g hx=> ?_
   obtain⟨c,g1,g2,g3⟩:=hx
   subst g1;subst g2
   refine⟨⟨rfl,(Lb _).symm⟩, ?_⟩
   exact⟨c,rfl,Lb _,g3⟩
  rw [if_neg h1]
  refine Gb (p:=(Aj s a).k=2) Cf (fun h2=> ?_) fun h2=> ?_
  ·rw [if_pos h2];exact Aij rfl rfl
  rw [if_neg h2]
  refine Gb (p:=(Aj s a).k=3) Cf (fun h3=> ?_) fun h3=> ?_
  ·rw [if_pos h3];exact Aij rfl rfl
  rw [if_neg h3]
  refine Gb (p:=(Aj s a).k=8) Cf (fun h8=> ?_) fun h8=> ?_
  ·rw [if_pos h8]
   refine Call.use (A8c (Aj s a).s (Aj s a).b) ⟨⟨rfl,(Lb _).symm⟩, ?_⟩
   exact⟨_,rfl,Lb _,fun h=>(by rw [Au6 _ _ h];rfl)⟩
  rw [if_neg h8]
  have wm:IntKind.i64.wrap (((w+1:Nat):Int) - 1)=(w:Int):=by rw [Be _ (by omega) (by omega)];omega
  refine Gb (p:=(Aj s a).k=4) Cf (fun h4=> ?_) fun h4=> ?_
  ·rw [if_pos h4]
   refine Gb (p:=64≤w) (by rw [Cf];show(64:Int)≤(w:Int)↔_;omega) (fun h64=> ?_) fun h64=> ?_
   ·rw [if_pos h64];exact R4 (by decide)
   ·rw [if_neg h64]
    have ew:IntKind.i64.wrap (rI ((Au (Z0 s ((Aj s a).b:Nat) w) (Nm.arg 0)).getD 2 AV.undef)+1)=((w+1:Nat):Int):=Md w (by omega)
    rw [ew]
    refine(Bar s hs m ih (w+1) (by omega) (Aj s a).b f0.2.1 (by omega)).mono fun r g hx=> ?_
    obtain⟨c,g1,g2,g3⟩:=hx
    subst g1;subst g2
    refine⟨⟨rfl,(Lb _).symm⟩, ?_⟩
    have ew2:IntKind.i64.wrap (rI ((Au (Z0 s c ((w+1:Nat):Int)) (Nm.arg 0)).getD 2 AV.undef) - 1)=(w:Int):=wm
    rw [ew2]
    exact⟨c,rfl,Lb _,g3⟩
  rw [if_neg h4]
  refine Gb (p:=(Aj s a).k=6) Cf (fun h6=> ?_) fun h6=> ?_
  ·rw [if_pos h6]
   refine Gb (p:=64≤w) (by rw [Cf];show(64:Int)≤(w:Int)↔_;omega) (fun h64=> ?_) fun h64=> ?_
   ·rw [if_pos h64];exact R4 (by decide)
   ·rw [if_neg h64]
    have ew:IntKind.i64.wrap (rI ((Au (Z0 s ((Aj s a).b:Nat) w) (Nm.arg 0)).getD 2 AV.undef)+1)=((w+1:Nat):Int):=Md w (by omega)
    rw [ew]
    refine(Bap s hs m ih (w+1) (by omega) (Aj s a).b f0.2.1 (by omega)).mono fun r g hx=> ?_
    obtain⟨c,g1,g2,g3⟩:=hx
    subst g1;subst g2
    refine⟨⟨rfl,(Lb _).symm⟩, ?_⟩
    have ew2:IntKind.i64.wrap (rI ((Au (Z0 s c ((w+1:Nat):Int)) (Nm.arg 0)).getD 2 AV.undef) - 1)=(w:Int):=wm
    rw [ew2]
    exact⟨c,rfl,Lb _,g3⟩
  ·rw [if_neg h6];exact R4 (by decide)
end
end Go.Proofs.Sim.Se

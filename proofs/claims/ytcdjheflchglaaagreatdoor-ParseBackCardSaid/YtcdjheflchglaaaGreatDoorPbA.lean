import Derived.Test.YtcdjheflchglaaaGreatDoorPaB
import Derived.Test.YtcdjheflchglaaaGreatDoorVaA
namespace Go.Proofs.Sim.Pa
open Go Go.Proofs Go.Proofs.Sim Go.Proofs.Sim.Va Go.Proofs.Sim.Se
theorem A5q:∀(m:Nat) (l out:List UInt8) (a:Nat),l.length≤m→(nameL l out a).2.2=0→a≤(nameL l out a).2.1∧(nameL l out a).2.1≤a+l.length:=by
 intro m
 induction m with
 |zero=>
  intro l out a hl _
  have:l=[]:=List.length_eq_zero_iff.1 (by omega)
  subst this
  exact⟨Nat.le_refl _,Nat.le_refl _⟩
 |succ m ih=>
  intro l out a hl h
  rcases l with _ |⟨c,r⟩
  ·exact⟨Nat.le_refl _,Nat.le_refl _⟩
  ·rw [nameL.eq_def]at h ⊢
   simp only at h ⊢
   split at h
   ·rename_i hk
    rw [if_pos hk]
    split at h
    ·rename_i h35
     rw [if_pos h35]
     rcases r with _ |⟨x,_ |⟨y,r⟩⟩
     ·cases h
     ·cases h
     ·simp only at h ⊢
      split at h
      ·cases h
      ·rename_i h1
       rw [if_neg h1]
       split at h
       ·cases h
       ·rename_i h2
        rw [if_neg h2]
        simp only [List.length_cons]at hl ⊢
        have:=ih r _ (a+3) (by omega) h
        omega
    ·rename_i h35
     rw [if_neg h35]
     split at h
     ·cases h
     ·rename_i h2
      rw [if_neg h2]
      simp only [List.length_cons]at hl ⊢
      have:=ih r _ (a+1) (by omega) h
      omega
   ·rename_i hk
    rw [if_neg hk]
    simp only;omega
theorem A53:∀(m:Nat) (l out:List UInt8) (d:Int) (a:Nat),(Je m l out d a).2.2=0→a≤(Je m l out d a).2.1∧(Je m l out d a).2.1≤a+l.length:=by
 intro m
 induction m with
 |zero=>intro l out d a h;cases h
 |succ m ih=>
  intro l out d a h
  rcases l with _ |⟨c,r⟩
  ·cases h
  ·rw [Je]at h ⊢
   have he:=A0o (c::r)
   split at h
   ·rename_i h1
    rw [if_pos h1]
    split at h
    ·cases h
    rename_i h2
    rw [if_neg h2]
    have:=ih _ _ _ _ h
    rw [List.length_drop]at this
    omega
   ·rename_i h1
    rw [if_neg h1]
    split at h
    ·rename_i h92
     rw [if_pos h92]
     split at h
     ·cases h
     ·rename_i t k hesc
      have hk:=A4e hesc
      split at h
      ·cases h
      rename_i h2
      simp only [if_neg h2]
      have:=ih _ _ _ _ h
      rw [List.length_drop]at this
      simp only [List.length_cons]
      omega
    ·rename_i h92
     rw [if_neg h92]
     simp only [List.length_cons]
     split at h
     ·rename_i h41
      rw [if_pos h41]
      simp only;omega
     ·rename_i h41
      rw [if_neg h41]
      split at h
      ·cases h
      ·rename_i h2
       rw [if_neg h2]
       have:=ih _ _ _ _ h
       omega
theorem A8u:∀(l:List UInt8) (half:Int) (out:List UInt8) (a:Nat),(O8 l half out a).2.2=0→a≤(O8 l half out a).2.1∧(O8 l half out a).2.1≤a+l.length:=by
 intro l
 induction l with
 |nil=>intro half out a h;cases h
 |cons c r ih=>
  intro half out a h
  rw [O8]at h ⊢
  simp only [List.length_cons]
  split at h
  ·rename_i h1
   rw [if_pos h1]
   split at h
   ·rename_i h2;rw [if_pos h2];simp only;omega
   ·rename_i h2
    rw [if_neg h2]
    split at h
    ·cases h
    ·rename_i h3;rw [if_neg h3];simp only;omega
  ·rename_i h1
   rw [if_neg h1]
   split at h
   ·rename_i h2
    rw [if_pos h2]
    split at h
    ·rename_i h3
     rw [if_pos h3]
     have:=ih _ _ _ h
     omega
    ·cases h
   ·rename_i h2
    rw [if_neg h2]
    split at h
    ·rename_i h3
     rw [if_pos h3]
     have:=ih _ _ _ h
     omega
    ·rename_i h3
     rw [if_neg h3]
     split at h
     ·cases h
     ·rename_i h4
      rw [if_neg h4]
      have:=ih _ _ _ h
      omega
theorem Arb(k:Int)(p lo hi:Nat)(x:Part)(hx:x.2.2=0→lo≤x.2.1∧x.2.1≤hi)(h:(partT k p x).e=0):lo≤(partT k p x).b∧(partT k p x).b≤hi:=by
 unfold partT at h ⊢
 split
 ·rename_i h0;exact hx h0
 ·rename_i h0;rw [if_neg h0]at h;exact absurd h h0
theorem A8h(l:List UInt8)(p:Nat)(h:(N9 l p).e=0):(N9 l p).b=p+Cs 2 l:=by
 unfold N9 at h ⊢
 split
 ·rfl
 ·rename_i h1
  rw [if_neg h1]at h
  split
  ·rename_i h2;rw [if_pos h2]at h;cases h
  ·rename_i h2
   rw [if_neg h2]at h
   split
   ·rename_i h3;rw [if_pos h3]at h;cases h
   ·rfl
theorem Bce(c:UInt8)(r:List UInt8)(p:Nat)(hc:kd c≠0)(h:(Jc c r p).e=0):p+1≤(Jc c r p).b∧(Jc c r p).b≤p+1+r.length:=by
 unfold Jc at h ⊢
 have hd:∀x,r.head?=some x→1≤r.length:=by
  intro x hx
  rcases r with _ |⟨y,r⟩
  ·cases hx
  ·simp
 split
 ·exact⟨Nat.le_refl _,by simp⟩
 rename_i h1
 rw [if_neg h1]at h
 split
 ·exact⟨Nat.le_refl _,by simp⟩
 rename_i h2
 rw [if_neg h2]at h
 split
 ·rename_i h3
  rw [if_pos h3]at h
  exact Arb _ _ _ _ _ (fun hx=>A5q r.length r [] (p+1) (Nat.le_refl _) hx) h
 rename_i h3
 rw [if_neg h3]at h
 split
 ·rename_i h4
  rw [if_pos h4]at h
  exact Arb _ _ _ _ _ (fun hx=>A53 _ r [] 1 (p+1) hx) h
 rename_i h4
 rw [if_neg h4]at h
 split
 ·rename_i h5
  rw [if_pos h5]at h
  split
  ·rename_i h6;have:=hd _ h6;simp only;omega
  ·rename_i h6
   rw [if_neg h6]at h
   exact Arb _ _ _ _ _ (fun hx=>A8u r (-1) [] (p+1) hx) h
 rename_i h5
 rw [if_neg h5]at h
 split
 ·rename_i h6
  rw [if_pos h6]at h
  split
  ·rename_i h7;have:=hd _ h7;simp only;omega
  ·rename_i h7;rw [if_neg h7]at h;cases h
 rename_i h6
 rw [if_neg h6]at h
 split
 ·rename_i h7;rw [if_pos h7]at h;cases h
 ·rename_i h7
  rw [if_neg h7]at h
  rw [A8h _ _ h]
  have h8:=Ae8 2 (c::r)
  have h9:Cs 2 (c::r)=Cs 2 r+1:=by
   rw [Cs,if_pos]
   have three:kd c=0∨kd c=1∨kd c=2:=by
    unfold kd Xi
    split
    ·exact .inl rfl
    ·split
     ·exact .inr (.inl rfl)
     ·exact .inr (.inr rfl)
   rcases three with h |h |h
   ·exact absurd h hc
   ·exact absurd h h7
   ·exact h
  simp only [List.length_cons]at h8
  omega
theorem Aym:∀(b:Bool) (l:List UInt8) (c:UInt8) (r:List UInt8),l.drop (Fu b l)=c::r→kd c≠0
 |_,[],c,r,h=>by simp [Fu]at h
 |b,x::l,c,r,h=>by
  rw [Fu]at h
  by_cases hx:Lt b x=false∧kd x≠0
  ·rw [if_pos hx,List.drop_zero]at h
   injection h with h1 h2
   subst h1
   exact hx.2
  ·rw [if_neg hx,List.drop_succ_cons]at h
   exact Aym _ l c r h
theorem A8z(s:List UInt8)(a:Int):Nn s a≤Du s a:=by unfold Du;omega
theorem Afa(s:List UInt8)(a:Nat)(h:a≤s.length):Nn s (a:Int)=a:=by
 unfold Nn;rw [if_neg (by omega),if_neg (by omega)];omega
theorem Bbs(s:List UInt8)(a:Int):Nn s ((Nn s a:Nat):Int)=Nn s a:=Afa s _ (Agr s a)
theorem Ary(s:List UInt8)(a:Int):Ao s ((Nn s a:Nat):Int)=Ao s a:=by
 unfold Ao Du;rw [Bbs]
theorem Ayp(s:List UInt8)(a:Int)(h:(Ao s a).e=0):Nn s a≤(Ao s a).b∧(Ao s a).b≤s.length∧((Ao s a).k≠0→Nn s a<(Ao s a).b):=by
 have h1:=A8z s a
 have h2:=Ay8 s a
 by_cases hp:Du s a<s.length
 ·rw [A63 s a hp]at h ⊢
  have hc:kd s[Du s a]≠0:=by
   refine Aym false (s.drop (Nn s a)) _ (s.drop (Du s a+1)) ?_
   rw [List.drop_drop]
   exact Ip s _ hp
  have:=Bce s[Du s a] (s.drop (Du s a+1)) (Du s a) hc h
  rw [List.length_drop]at this
  omega
 ·rw [A9a s a hp]at h ⊢
  exact⟨h1,h2,fun h=>absurd rfl h⟩
theorem Oa(s:List UInt8)(a:Nat)(ha:a≤s.length)(h:(Ao s a).e=0):a≤(Ao s a).b∧(Ao s a).b≤s.length∧((Ao s a).k≠0→a<(Ao s a).b):=by
 have:=Ayp s a h
 rwa [Afa s a ha]at this
theorem A9c(s:List UInt8)(b:Nat)(hb:b≤s.length) {g:Int} {c:Nat} (h:Od s b=some (g,c)):b<c∧c≤s.length:=by
 unfold Od at h
 split at h
 ·rename_i h1
  split at h
  ·rename_i h2
   injection h with h;injection h with _ h
   subst h
   have f1:=Oa s b hb h1.1
   have f2:=Oa s _ f1.2.1 h2.1
   have:=f1.2.2 (by rw [h1.2];decide)
   exact⟨by omega,f2.2.1⟩
  ·cases h
 ·cases h
theorem Bbu(s:List UInt8)(n:Int)(b:Nat)(hb:b≤s.length)(h:(numL s n b).2.2=0):b≤(numL s n b).2.1∧(numL s n b).2.1≤s.length:=by
 unfold numL at h ⊢
 split
 ·exact⟨Nat.le_refl _,hb⟩
 ·rename_i g c hl
  rw [hl]at h
  simp only at h
  split
  ·rename_i h1;rw [if_pos h1]at h;cases h
  ·have:=A9c s b hb hl
   simp only;omega
theorem Axb(w:List UInt8)(b:Nat)(h:(Aed w b).2.2=0):(Aed w b).2.1=b:=by
 unfold Aed at h ⊢
 split
 ·rfl
 ·rename_i h1
  rw [if_neg h1]at h
  split
  ·rfl
  ·rename_i h2
   rw [if_neg h2]at h
   split
   ·rfl
   ·rename_i h3;rw [if_neg h3]at h;cases h
def Ako(s:List UInt8)(a:Nat)(x:V × Nat × Int):Prop:=x.2.2=0→a<x.2.1∧x.2.1≤s.length
theorem A7b(s:List UInt8)(rd:Nat→V × Nat × Int)(hrd:∀a,a≤s.length→Ako s a (rd a)):∀(m a:Nat) (acc:List V),a≤s.length→Ako s a (Pi s rd m a acc):=by
 intro m
 induction m with
 |zero=>intro a acc ha h;cases h
 |succ m ih=>
  intro a acc ha h
  rw [Pi]at h ⊢
  split at h
  ·rename_i h1;exact absurd h h1
  ·rename_i h1
   rw [if_neg h1]
   have f:=Oa s a ha (Classical.not_not.1 h1)
   split at h
   ·rename_i h2
    rw [if_pos h2]
    exact⟨f.2.2 (by rw [h2];decide),f.2.1⟩
   ·rename_i h2
    rw [if_neg h2]
    split at h
    ·rename_i h3;exact absurd h h3
    ·rename_i h3
     rw [if_neg h3]
     have hr:=hrd a ha (Classical.not_not.1 h3)
     have:=ih _ _ hr.2 h
     exact⟨by omega,this.2⟩
theorem A74(s:List UInt8)(rd:Nat→V × Nat × Int)(hrd:∀a,a≤s.length→Ako s a (rd a)):∀(m a:Nat) (acc:List Pr),a≤s.length→Ako s a (Om s rd m a acc):=by
 intro m
 induction m with
 |zero=>intro a acc ha h;cases h
 |succ m ih=>
  intro a acc ha h
  rw [Om]at h ⊢
  split at h
  ·rename_i h1;exact absurd h h1
  rename_i h1
  rw [if_neg h1]
  have f:=Oa s a ha (Classical.not_not.1 h1)
  split at h
  ·rename_i h2
   rw [if_pos h2]
   exact⟨f.2.2 (by rw [h2];decide),f.2.1⟩
  rename_i h2
  rw [if_neg h2]
  split at h
  ·cases h
  rename_i h3
  rw [if_neg h3]
  split at h
  ·cases h
  rename_i h4
  rw [if_neg h4]
  split at h
  ·cases h
  rename_i h5
  rw [if_neg h5]
  split at h
  ·rename_i h6;exact absurd h h6
  ·rename_i h6
   rw [if_neg h6]
   have hr:=hrd _ f.2.1 (Classical.not_not.1 h6)
   have:=ih _ _ hr.2 h
   exact⟨by omega,this.2⟩
theorem Aau(s:List UInt8):∀(m w a:Nat),a≤s.length→Ako s a (Dt s m w a):=by
 intro m
 induction m with
 |zero=>intro w a ha h;cases h
 |succ m ih=>
  intro w a ha h
  rw [Dt]at h ⊢
  split at h
  ·rename_i h1;exact absurd h h1
  rename_i h1
  rw [if_neg h1]
  have f:=Oa s a ha (Classical.not_not.1 h1)
  split at h
  ·cases h
  rename_i h2
  rw [if_neg h2]
  have f3:=f.2.2 h2
  split at h
  ·rename_i h3
   rw [if_pos h3]
   have:=Bbu s _ _ f.2.1 h
   exact⟨by omega,this.2⟩
  rename_i h3
  rw [if_neg h3]
  split at h
  ·rename_i h4;rw [if_pos h4];exact⟨f3,f.2.1⟩
  rename_i h4
  rw [if_neg h4]
  split at h
  ·rename_i h5;rw [if_pos h5];exact⟨f3,f.2.1⟩
  rename_i h5
  rw [if_neg h5]
  split at h
  ·rename_i h6
   rw [if_pos h6,Axb _ _ h];exact⟨f3,f.2.1⟩
  rename_i h6
  rw [if_neg h6]
  split at h
  ·rename_i h7
   rw [if_pos h7]
   split at h
   ·cases h
   ·rename_i h8
    rw [if_neg h8]
    have:=A7b s (Dt s m (w+1)) (fun a ha=>ih (w+1) a ha) _ _ _ f.2.1 h
    exact⟨by omega,this.2⟩
  rename_i h7
  rw [if_neg h7]
  split at h
  ·rename_i h8
   rw [if_pos h8]
   split at h
   ·cases h
   ·rename_i h9
    rw [if_neg h9]
    have:=A74 s (Dt s m (w+1)) (fun a ha=>ih (w+1) a ha) _ _ _ f.2.1 h
    exact⟨by omega,this.2⟩
  ·cases h
end Go.Proofs.Sim.Pa
set_option maxRecDepth 100000
namespace Go.Proofs.Sim.Se
open Go Go.Proofs Go.Proofs.Sim Go.Proofs.Sim.Va Go.RowKit Go.Proofs.Sim.Pa
abbrev Zl(s:List UInt8)(a w:Int):Heap:=[(Nm.arg 0, .blk Am [.imm (.str s), .imm (.int .i64 a), .imm (.int .i64 w)])]
abbrev rdA(x:V × Nat × Int):AV:= .tup [.imm (.agg x.1.row), .imm (.int .i64 x.2.2)]
def RdQ(s:List UInt8)(w:Int)(x:V × Nat × Int):QQ:=fun r h=>∃c:Int,h=Zl s c w∧r=rdA x∧(x.2.2=0→c=x.2.1)
theorem Aiy(k n g:Int)(t:List UInt8)(l:List V)(d:List Pr):(V.mk k n g t l d).row=[.int .i64 k, .int .i64 n, .int .i64 g, .str t, .sl .any 6 (l.map V.row), .sl .any 7 (d.map Cu)]:=Ep _
theorem A5w(e:Int):rdA (Lh e)= .tup [.imm (.agg [.int .i64 0, .int .i64 0, .int .i64 0, .str [], .sl .any 6 [], .sl .any 7 []]), .imm (.int .i64 e)]:=by
 unfold Lh rdA;rw [Aiy];rfl
theorem Sb {s:List UInt8} {w c e:Int} (he:e≠0):RdQ s w (Lh e) (.tup [.imm (.agg [.int .i64 0, .int .i64 0, .int .i64 0, .str [], .sl .any 6 [], .sl .any 7 []]), .imm (.int .i64 e)]) (Zl s c w):=
 ⟨c,rfl,(A5w e).symm,fun h=>absurd h he⟩
theorem Ai9 {s:List UInt8} {w:Int} {c:Nat} {k n g:Int} {t:List UInt8} {l:List V} {d:List Pr} {L D:LL} (hl:l.map V.row=L)(hd:d.map Cu=D):
 RdQ s w (.mk k n g t l d,c,0) (.tup [.imm (.agg [.int .i64 k, .int .i64 n, .int .i64 g, .str t, .sl .any 6 L, .sl .any 7 D]), .imm (.int .i64 0)]) (Zl s c w):=by
 subst hl;subst hd
 exact⟨c,rfl,by unfold rdA;rw [Aiy],fun _=>rfl⟩
def O4(t:Tk)(a:Int):Int:=if t.e=0 then t.b else a
section
variable (s:List UInt8) (hs:s.length≤1000000000)
include hs
theorem Afg(a w:Int):Call E0.P F9 [.ptr (.arg 0) 0] (Zl s a w) (Is (nxA (Ao s a)) (Zl s (O4 (Ao s a) a) w)):=by
 refine Aif _ _ _ _ (Call.use (A0i s hs a) ⟨⟨rfl,rfl⟩, ?_⟩)
 have fin:∀c:Int,c=O4 (Ao s a) a→Kt (Ao s a).e 0 0 [] 0 0 (Ao s a).k (Ao s a).n (Ao s a).s (Ao s a).a (Ao s a).b s c w (Lc s a w (Is (nxA (Ao s a)) (Zl s (O4 (Ao s a) a) w))):=by
  intro c hc
  subst hc
  refine Afn _ _ _ _ _ _ _ _ _ _ _ _ _ _ _ ?_
  apply Af8
  exact⟨rfl,rfl⟩
 refine Gi (p:=(Ao s a).e=0) Cg (fun h=>fin _ ?_) fun h=>fin _ ?_
 ·unfold O4;rw [if_pos h];rfl
 ·unfold O4;rw [if_neg h]
theorem A6d(a:Int)(w:Int)(h:Od s (Nn s a)=none)(_ha:0≤a∧a≤s.length):Call E0.P Lv [.ptr (.arg 0) 0] (Zl s a w) (Is (.tup [.imm (.int .i64 0), .imm (.bool false)]) (Zl s a w)):=by
 have fin:∀c,Kw s c w s a (K5 s a w (Is (.tup [.imm (.int .i64 0), .imm (.bool false)]) (Zl s a w))):=by
  intro c
  refine Agp _ _ _ _ _ _ ?_
  apply Agi
  exact⟨rfl,rfl⟩
 refine Wm _ _ _ _ (Call.use (Afg s hs a w) ⟨⟨rfl,rfl⟩,Let.intro ?_⟩)
 unfold Od at h
 rw [Ary]at h
 refine Gi (p:=(Ao s a).e=0∧(Ao s a).k=1) (Q7 _ _) (fun h1=> ?_) fun _=>fin _
 rw [if_pos h1]at h
 have e1:O4 (Ao s a) a=((Ao s a).b:Nat):=by unfold O4;rw [if_pos h1.1]
 rw [e1]
 refine Call.use (Afg s hs ((Ao s a).b:Nat) w) ⟨⟨rfl,rfl⟩,Let.intro (Let.intro ?_)⟩
 refine Gi (p:=((Ao s (Ao s a).b).e=0∧(Ao s (Ao s a).b).k=8)∧(Ao s (Ao s a).b).s=[82]) ?_ (fun h2=> ?_) fun _=>fin _
 ·rw [←Q7 ((Ao s (Ao s a).b).e=0)]
  cases hc:(bif decide ((Ao s (Ao s a).b).e=0)then decide ((Ao s (Ao s a).b).k=8)else false)
  ·constructor
   ·intro h3
    have:(bif (bif decide ((Ao s (Ao s a).b).e=0)then decide ((Ao s (Ao s a).b).k=8)else false)then(Ao s (Ao s a).b).s == [82]else false)=true:=h3
    rw [hc]at this;cases this
   ·rintro⟨h3,_⟩;cases h3
  ·constructor
   ·intro h3
    have:(bif (bif decide ((Ao s (Ao s a).b).e=0)then decide ((Ao s (Ao s a).b).k=8)else false)then(Ao s (Ao s a).b).s == [82]else false)=true:=h3
    rw [hc]at this
    exact⟨rfl,by simpa using this⟩
   ·rintro⟨_,h3⟩
    show(bif (bif decide ((Ao s (Ao s a).b).e=0)then decide ((Ao s (Ao s a).b).k=8)else false)then(Ao s (Ao s a).b).s == [82]else false)=true
    rw [hc,h3];rfl
 ·rw [if_pos ⟨h2.1.1,h2.1.2,h2.2⟩]at h
  cases h
theorem A3w(a:Int)(w:Int)(g:Int)(c:Nat)(h:Od s (Nn s a)=some (g,c)):Call E0.P Lv [.ptr (.arg 0) 0] (Zl s a w) (Is (.tup [.imm (.int .i64 g), .imm (.bool true)]) (Zl s c w)):=by
 refine Wm _ _ _ _ (Call.use (Afg s hs a w) ⟨⟨rfl,rfl⟩,Let.intro ?_⟩)
 unfold Od at h
 rw [Ary]at h
 split at h
 case isFalse=>cases h
 rename_i h1
 refine Gi (p:=(Ao s a).e=0∧(Ao s a).k=1) (Q7 _ _) (fun h1=> ?_) fun h'=>absurd h1 h'
 have e1:O4 (Ao s a) a=((Ao s a).b:Nat):=by unfold O4;rw [if_pos h1.1]
 rw [e1]
 refine Call.use (Afg s hs ((Ao s a).b:Nat) w) ⟨⟨rfl,rfl⟩,Let.intro (Let.intro ?_)⟩
 split at h
 case isFalse=>cases h
 rename_i h2
 injection h with h;injection h with h3 h4
 subst h3;subst h4
 have e2:O4 (Ao s ((Ao s a).b:Nat)) ((Ao s a).b:Nat)=((Ao s ((Ao s a).b:Nat)).b:Nat):=by unfold O4;rw [if_pos h2.1]
 rw [e2]
 have e3:(bif (bif decide ((Ao s (Ao s a).b).e=0)then decide ((Ao s (Ao s a).b).k=8)else false)then(Ao s (Ao s a).b).s == [82]else false)=true:=by
  rw [decide_eq_true h2.1,decide_eq_true h2.2.1,h2.2.2];rfl
 exact Gi (p:=True) ⟨fun _=>trivial,fun _=>e3⟩ (fun _=>⟨rfl,rfl⟩) fun h=>absurd trivial h
theorem A61(a:Nat)(ha:a≤s.length)(w:Int)(n:Int):Call E0.P O0 [.ptr (.arg 0) 0, .imm (.int .i64 n)] (Zl s a w) (RdQ s w (numL s n a)):=by
 have hp:=Afa s a ha
 unfold numL
 rcases hl:Od s a with _ |⟨g,c⟩
 ·refine T9 _ _ _ _ _ (Call.use (A6d s hs a w (by rw [hp];exact hl) ⟨by omega,by omega⟩) ⟨⟨rfl,rfl⟩,Aq1 rfl ?_⟩)
  exact Ai9 rfl rfl
 ·refine T9 _ _ _ _ _ (Call.use (A3w s hs a w g c (by rw [hp];exact hl)) ⟨⟨rfl,rfl⟩,Ar3 rfl (Let.intro (Let.intro (Let.intro ?_)))⟩)
  rw [show rI (rT (.tup [.imm (.int .i64 g), .imm (.bool true)]) 0)=g from rfl]
  refine Gi (p:=n<1∨8388607<n∨g<0∨65535<g) (by rw [Akf,Akf,A7o];omega) (fun h=> ?_) fun h=> ?_
  ·simp only [if_pos h];exact Sb (by decide)
  ·simp only [if_neg h];exact Ai9 rfl rfl
omit hs in
theorem Bb8(t:List UInt8)(b:Nat):Call E0.P Ac4 [.imm (.str t)] [] (Is (rdA (Aed t b)) []):=by
 have e:∀(k n g:Int) (t:List UInt8),rdA (.mk k n g t [] [],b,0)= .tup [.imm (.agg [.int .i64 k, .int .i64 n, .int .i64 g, .str t, .sl .any 6 [], .sl .any 7 []]), .imm (.int .i64 0)]:=by
  intro k n g t;unfold rdA;rw [Aiy];rfl
 unfold Aed
 refine Ata _ _ (Gi (p:=t=[116,114,117,101]) (by simp) (fun h=> ?_) fun h1=>Gi (p:=t=[102,97,108,115,101]) (by simp) (fun h=> ?_) fun h2=>Gi (p:=t=[110,117,108,108]) (by simp) (fun h=> ?_) fun h3=> ?_)
 ·rw [if_pos h,e];exact⟨rfl,rfl⟩
 ·rw [if_neg h1,if_pos h,e];exact⟨rfl,rfl⟩
 ·rw [if_neg h1,if_neg h2,if_pos h,e];exact⟨rfl,rfl⟩
 ·rw [if_neg h1,if_neg h2,if_neg h3,A5w];exact⟨rfl,rfl⟩
def M8(t:Tk)(m:List (List UInt8 × Int)):List UInt8 × Bool × Int:=
 if t.e≠0 then([],false,t.e)else if t.k=0 then([],false,5)else if t.k=7 then([],false,0)else if t.k≠2 then([],false,4)else if 0<Dl m t.s then([],false,11)else(t.s,true,0)
def Anm(t:Tk)(m:List (List UInt8 × Int)):List (List UInt8 × Int):=if(M8 t m).2.1 then Vm m t.s (IntKind.i64.wrap (Dl m t.s+1))else m
abbrev kyA(x:List UInt8 × Bool × Int):AV:= .tup [.imm (.str x.1), .imm (.bool x.2.1), .imm (.int .i64 x.2.2)]
abbrev pmH(s:List UInt8)(a w:Int)(m:List (List UInt8 × Int)):Heap:=[(Nm.arg 0, .blk Am [.imm (.str s), .imm (.int .i64 a), .imm (.int .i64 w)]),(Nm.arg 1, .map m)]
theorem Be4(a w:Int)(m:List (List UInt8 × Int)):Call E0.P Sl [.ptr (.arg 0) 0, .mp (.arg 1)] (pmH s a w m) (Is (kyA (M8 (Ao s a) m)) (pmH s (O4 (Ao s a) a) w (Anm (Ao s a) m))):=by
 refine Ajb _ _ _ _ _ (Call.use (Afg s hs a w) ⟨⟨rfl,rfl⟩, ?_⟩)
 have no:(M8 (Ao s a) m).2.1=false→Anm (Ao s a) m=m:=fun h=>by unfold Anm;rw [h];rfl
 have fin:∀e:Int,M8 (Ao s a) m=([],false,e)→Is (kyA (M8 (Ao s a) m)) (pmH s (O4 (Ao s a) a) w (Anm (Ao s a) m)) (.tup [.imm (.str []), .imm (.bool false), .imm (.int .i64 e)]) (pmH s (O4 (Ao s a) a) w m):=by
  intro e h
  rw [no (by rw [h]),h]
  exact⟨rfl,rfl⟩
 refine brN (p:=(Ao s a).e=0) Cg (fun h1=>fin _ ?_) fun h1=>Gi (p:=(Ao s a).k=0) Cg (fun h2=>fin _ ?_) fun h2=>Gi (p:=(Ao s a).k=7) Cg (fun h3=>fin _ ?_) fun h3=>brN (p:=(Ao s a).k=2) Cg (fun h4=>fin _ ?_) fun h4=>Gi (p:=0<Dl m (Ao s a).s) Cg (fun h5=>fin _ ?_) fun h5=> ?_
 ·unfold M8;rw [if_pos h1];rfl
 ·unfold M8;rw [if_neg (fun h=>h h1),if_pos h2]
 ·unfold M8;rw [if_neg (fun h=>h h1),if_neg h2,if_pos h3]
 ·unfold M8;rw [if_neg (fun h=>h h1),if_neg h2,if_neg h3,if_pos h4]
 ·unfold M8;rw [if_neg (fun h=>h h1),if_neg h2,if_neg h3,if_neg (fun h=>h h4),if_pos h5]
 ·have hk:M8 (Ao s a) m=((Ao s a).s,true,0):=by
   unfold M8;rw [if_neg (fun h=>h h1),if_neg h2,if_neg h3,if_neg (fun h=>h h4),if_neg h5]
  have hm:Anm (Ao s a) m=Vm m (Ao s a).s (IntKind.i64.wrap (Dl m (Ao s a).s+1)):=by
   unfold Anm;rw [hk];rfl
  rw [hk,hm]
  exact⟨rfl,rfl⟩
end
end Go.Proofs.Sim.Se
set_option maxRecDepth 100000
namespace Go.Proofs.Sim.Se
open Go Go.Proofs Go.Proofs.Sim Go.Proofs.Sim.Va Go.RowKit Go.Proofs.Sim.Pa
theorem Zy(v:V): [.int .i64 (gI v.row 0), .int .i64 (gI v.row 1), .int .i64 (gI v.row 2), .str (gS v.row 3), .sl .any 6 (gR v.row 4), .sl .any 7 (gR v.row 5)]=v.row:=by rw [Ep];rfl
abbrev A6q(r:AV):AV:= .tup [.imm (.agg [.int .i64 (gI (Ae (rT r 0)) 0), .int .i64 (gI (Ae (rT r 0)) 1), .int .i64 (gI (Ae (rT r 0)) 2), .str (gS (Ae (rT r 0)) 3), .sl .any 6 (gR (Ae (rT r 0)) 4), .sl .any 7 (gR (Ae (rT r 0)) 5)]), .imm (.int .i64 (rI (rT r 1)))]
theorem K4(x:V × Nat × Int):A6q (rdA x)=rdA x:=by
 show AV.tup [.imm (.agg [.int .i64 (gI x.1.row 0), .int .i64 (gI x.1.row 1), .int .i64 (gI x.1.row 2), .str (gS x.1.row 3), .sl .any 6 (gR x.1.row 4), .sl .any 7 (gR x.1.row 5)]), .imm (.int .i64 x.2.2)]=_
 rw [Zy]
theorem Aye(k x:List UInt8)(v:Int):∀m:List (List UInt8 × Int),Dl (Vm m x v) k=if k=x then v else Dl m k
 | []=>by
   simp only [Vm,Dl]
 |(y,u)::r=>by
  simp only [Vm]
  by_cases h:x=y
  ·subst h
   rw [if_pos rfl,Dl,Dl]
   by_cases hk:k=x
   ·rw [if_pos hk,if_pos hk]
   ·rw [if_neg hk,if_neg hk,if_neg hk]
  ·rw [if_neg h,Dl,Dl,Aye k x v r]
   by_cases hk:k=y
   ·subst hk
    rw [if_pos rfl,if_pos rfl,if_neg (fun e=>h e.symm)]
   ·rw [if_neg hk,if_neg hk]
def A2o(m:List (List UInt8 × Int))(acc:List Pr):Prop:=∀k,(0<Dl m k↔acc.any (fun p=>p.1 == k)=true)∧0≤Dl m k∧Dl m k≤1
theorem A8r:A2o [] []:=fun k=>⟨by simp [Dl],by simp [Dl],by simp [Dl]⟩
theorem Bcf {m:List (List UInt8 × Int)} {acc:List Pr} (h:A2o m acc)(x:List UInt8)(v:V)(hx:¬0<Dl m x):A2o (Vm m x (IntKind.i64.wrap (Dl m x+1))) (acc++[(x,v)]):=by
 intro k
 have hk:=h k
 have hx2:=h x
 rw [Bb _ (by omega) (by omega),Aye]
 by_cases e:k=x
 ·subst e
  rw [if_pos rfl]
  exact⟨⟨fun _=>by simp,fun _=>by omega⟩,by omega,by omega⟩
 ·rw [if_neg e]
  refine⟨?_,hk.2⟩
  rw [hk.1]
  have:¬x=k:=fun h=>e h.symm
  simp [this]
section
variable (s:List UInt8) (hs:s.length≤1000000000)
include hs
abbrev Azz(s:List UInt8)(m:Nat):Prop:=∀(w:Nat) (a:Int),w≤64→s.length<Nn s a+m→Call E0.P Im [.ptr (.arg 0) 0] (Zl s a w) (RdQ s w (Dt s m w (Nn s a)))
theorem Bc5(m:Nat)(ih:Azz s m)(w:Nat)(hw:w≤64)(at0 w0:Int)(Q:QQ)(X:V × Nat × Int)(hQ:∀r h,RdQ s w X r h→Q r h):∀(f a:Nat) (acc:List V),a≤s.length→s.length<a+m→s.length<a+f→acc.length≤a→Pi s (Dt s m w) f a acc=X→
 Il s a w 0 0 0 [] 5 0 0 [] [] [] (acc.map V.row) [] (Ik s at0 w0 Q):=by
 intro f
 induction f with
 |zero=>intro a acc ha h1 h2;omega
 |succ f ihf=>
  intro a acc ha h1 h2 hl hX
  have hp:=Afa s a ha
  rw [Pi]at hX
  refine Afu _ _ _ _ _ _ _ _ _ _ _ _ _ _ _ _ (Call.use (A0i s hs a) ⟨⟨rfl,rfl⟩, ?_⟩)
  refine brN (p:=(Ao s a).e=0) Cg (fun he=> ?_) fun he=>Gi (p:=(Ao s a).k=5) Cg (fun h5=> ?_) fun h5=> ?_
  ·rw [if_pos he]at hX
   apply Afk
   exact hQ _ _ (hX ▸ Sb he)
  ·rw [if_neg (fun h=>h he),if_pos h5]at hX
   refine Call.use (Afg s hs a w) ⟨⟨rfl,rfl⟩, ?_⟩
   apply Agl
   refine Aeu _ _ _ _ _ _ _ _ _ _ _ _ _ _ _ _ ?_
   apply Af1
   have e1:O4 (Ao s a) a=((Ao s a).b:Nat):=by unfold O4;rw [if_pos he]
   rw [e1]
   exact hQ _ _ (hX ▸ Ai9 rfl rfl)
  ·rw [if_neg (fun h=>h he),if_neg h5]at hX
   refine(ih w a hw (by rw [hp];omega)).mono fun r g hx=> ?_
   rw [hp]at hx
   have fin:=Aau s m w a ha
   generalize Dt s m w a=x at hx fin hX
   obtain⟨c,e1,e2,e3⟩:=hx
   subst e1;subst e2
   refine⟨⟨rfl,(K4 x).symm⟩,brN (p:=x.2.2=0) Cg (fun h0=> ?_) fun h0=> ?_⟩
   ·rw [if_pos h0]at hX
    apply Agh
    exact hQ _ _ (hX ▸ Sb h0)
   ·rw [if_neg (fun h=>h h0)]at hX
    have f1:=fin h0
    refine⟨⟨by rw [List.length_map];omega,by rw [List.length_map];omega⟩, ?_⟩
    have e4:(acc.map V.row++[[IV.int .i64 (gI x.1.row 0), .int .i64 (gI x.1.row 1), .int .i64 (gI x.1.row 2), .str (gS x.1.row 3), .sl .any 6 (gR x.1.row 4), .sl .any 7 (gR x.1.row 5)]])=(acc++[x.1]).map V.row:=by rw [Zy];simp
    show Il s c w 0 0 0 [] 5 0 0 [] [] [] (acc.map V.row++[[IV.int .i64 (gI x.1.row 0), .int .i64 (gI x.1.row 1), .int .i64 (gI x.1.row 2), .str (gS x.1.row 3), .sl .any 6 (gR x.1.row 4), .sl .any 7 (gR x.1.row 5)]]) [] _
    rw [e4,e3 h0]
    exact ihf x.2.1 (acc++[x.1]) f1.2 (by omega) (by omega) (by simp;omega) hX
theorem Bcq(m:Nat)(ih:Azz s m)(w:Nat)(hw:w≤64)(a:Nat)(ha:a≤s.length)(h1:s.length<a+m):Call E0.P Q9 [.ptr (.arg 0) 0] (Zl s a w) (RdQ s w (Pi s (Dt s m w) (s.length+1) a [])):=
 Ahv _ _ _ _ (Bc5 s hs m ih w hw a w _ _ (fun _ _ h=>h) (s.length+1) a [] ha h1 (by omega) (by simp) rfl)
theorem Bd0(m:Nat)(ih:Azz s m)(w:Nat)(hw:w≤64)(at0 w0:Int)(Q:QQ)(X:V × Nat × Int)(hQ:∀r h,RdQ s w X r h→Q r h):∀(f a:Nat) (acc:List Pr) (mp:List (List UInt8 × Int)),a≤s.length→s.length<a+m→s.length<a+f→acc.length≤a→A2o mp acc→Om s (Dt s m w) f a acc=X→
 Ij s a w 0 0 0 [] 6 0 0 [] mp [] [] [] (acc.map Cu) (Gv s at0 w0 Q):=by
 intro f
 induction f with
 |zero=>intro a acc mp ha h1 h2;omega
 |succ f ihf=>
  intro a acc mp ha h1 h2 hl hmp hX
  have hp:=Afa s a ha
  rw [Om]at hX
  refine Agv _ _ _ _ _ _ _ _ _ _ _ _ _ _ _ _ _ (Call.use (Be4 s hs a w mp) ⟨⟨rfl,rfl⟩, ?_⟩)
  have bad:∀e:Int,e≠0→X=Lh e→M8 (Ao s a) mp=([],false,e)→∀B,Br (!decide (rI (rT (kyA (M8 (Ao s a) mp)) 2)=0)) (Gv s at0 w0 Q .ret ⟨[(2, .ptr (Nm.loc 2) 0),(3, .imm (.int .i64 (rI (rT (kyA (M8 (Ao s a) mp)) 2))))],[(Nm.loc 2, .blk Ac [.imm (.int .i64 0), .imm (.int .i64 0), .imm (.int .i64 0), .imm (.str []), .own (Nm.sub 22 ((Nm.loc 2).cell 4)), .own (Nm.sub 22 ((Nm.loc 2).cell 5))]),(Nm.arg 0, .blk Am [.imm (.str s), .imm (.int .i64 (O4 (Ao s a) a)), .imm (.int .i64 w)]),(Nm.sub 22 ((Nm.loc 2).cell 4), .arr (Ac+2) true 6 []),(Nm.sub 22 ((Nm.loc 2).cell 5), .arr (Ap+2) true 7 [])]⟩) B:=by
   intro e he hx hk B
   rw [hk]
   refine Aq1 (decide_eq_false he) ?_
   apply Aga
   exact hQ _ _ (hx ▸ Sb he)
  by_cases he:(Ao s a).e=0
  case neg=>
   rw [if_pos he]at hX
   exact bad _ he hX.symm (by unfold M8;rw [if_pos he]) _
  have e1:O4 (Ao s a) a=((Ao s a).b:Nat):=by unfold O4;rw [if_pos he]
  rw [if_neg (fun h=>h he)]at hX
  by_cases h7:(Ao s a).k=7
  ·rw [if_pos h7]at hX
   have hk:M8 (Ao s a) mp=([],false,0):=by unfold M8;rw [if_neg (fun h=>h he),if_neg (by rw [h7];decide),if_pos h7]
   rw [hk]
   refine Ar3 (by rfl) (Aq1 rfl ?_)
   apply Af5
   rw [e1]
   exact hQ _ _ (hX ▸ Ai9 rfl rfl)
  rw [if_neg h7]at hX
  by_cases h0:(Ao s a).k=0
  ·rw [if_pos h0]at hX
   exact bad 5 (by decide) hX.symm (by unfold M8;rw [if_neg (fun h=>h he),if_pos h0]) _
  rw [if_neg h0]at hX
  by_cases h2':(Ao s a).k=2
  case neg=>
   rw [if_pos h2']at hX
   exact bad 4 (by decide) hX.symm (by unfold M8;rw [if_neg (fun h=>h he),if_neg h0,if_neg h7,if_pos h2']) _
  rw [if_neg (fun h=>h h2')]at hX
  by_cases hs':0<Dl mp (Ao s a).s
  ·rw [if_pos ((hmp _).1.1 hs')]at hX
   exact bad 11 (by decide) hX.symm (by unfold M8;rw [if_neg (fun h=>h he),if_neg h0,if_neg h7,if_neg (fun h=>h h2'),if_pos hs']) _
  rw [if_neg (fun h=>hs' ((hmp _).1.2 h))]at hX
  have hk:M8 (Ao s a) mp=((Ao s a).s,true,0):=by unfold M8;rw [if_neg (fun h=>h he),if_neg h0,if_neg h7,if_neg (fun h=>h h2'),if_neg hs']
  have hm:Anm (Ao s a) mp=Vm mp (Ao s a).s (IntKind.i64.wrap (Dl mp (Ao s a).s+1)):=by unfold Anm;rw [hk];rfl
  rw [hk,hm,e1]
  refine Ar3 (by rfl) (Ar3 rfl ?_)
  have f0:=Oa s a ha he
  have f01:=f0.2.2 (by rw [h2'];decide)
  have hp2:=Afa s (Ao s a).b f0.2.1
  refine(ih w ((Ao s a).b:Nat) hw (by rw [hp2];omega)).mono fun r g hx=> ?_
  rw [hp2]at hx
  have fin:=Aau s m w (Ao s a).b f0.2.1
  generalize Dt s m w (Ao s a).b=x at hx fin hX
  obtain⟨c,g1,g2,g3⟩:=hx
  subst g1;subst g2
  refine⟨⟨rfl,(K4 x).symm⟩,brN (p:=x.2.2=0) Cg (fun h0=> ?_) fun h0=> ?_⟩
  ·rw [if_pos h0]at hX
   apply Afy
   exact hQ _ _ (hX ▸ Sb h0)
  ·rw [if_neg (fun h=>h h0)]at hX
   have f1:=fin h0
   refine⟨⟨by rw [List.length_map];omega,by rw [List.length_map];omega⟩, ?_⟩
   have e4:(acc.map Cu++[[IV.str (Ao s a).s, .int .i64 (gI x.1.row 0), .int .i64 (gI x.1.row 1), .int .i64 (gI x.1.row 2), .str (gS x.1.row 3), .sl .any 6 (gR x.1.row 4), .sl .any 7 (gR x.1.row 5)]])=(acc++[((Ao s a).s,x.1)]).map Cu:=by
    rw [Zy];simp [Cu]
   show Ij s c w 0 0 0 [] 6 0 0 [] (Vm mp (Ao s a).s (IntKind.i64.wrap (Dl mp (Ao s a).s+1))) [] [] [] (acc.map Cu++[[IV.str (Ao s a).s, .int .i64 (gI x.1.row 0), .int .i64 (gI x.1.row 1), .int .i64 (gI x.1.row 2), .str (gS x.1.row 3), .sl .any 6 (gR x.1.row 4), .sl .any 7 (gR x.1.row 5)]]) _
   rw [e4,g3 h0]
   exact ihf x.2.1 (acc++[((Ao s a).s,x.1)]) _ f1.2 (by omega) (by omega) (by simp;omega) (Bcf hmp _ _ hs') hX
theorem Bda(m:Nat)(ih:Azz s m)(w:Nat)(hw:w≤64)(a:Nat)(ha:a≤s.length)(h1:s.length<a+m):Call E0.P Rk [.ptr (.arg 0) 0] (Zl s a w) (RdQ s w (Om s (Dt s m w) (s.length+1) a [])):=
 Ah6 _ _ _ _ (Bd0 s hs m ih w hw a w _ _ (fun _ _ h=>h) (s.length+1) a [] [] ha h1 (by omega) (by simp) A8r rfl)
theorem Bah:∀m:Nat,Azz s m:=by
 intro m
 induction m with
 |zero=>intro w a hw h;have:=Agr s a;omega
 |succ m ih=>
  intro w a hw h
  refine Ag9 _ _ _ _ (Call.use (Afg s hs a w) ⟨⟨rfl,rfl⟩, ?_⟩)
  rw [Dt,Ary]
  refine brN (p:=(Ao s a).e=0) Cg (fun he=> ?_) fun he=> ?_
  ·rw [if_pos he];exact Sb he
  rw [if_neg (fun h=>h he)]
  have e1:O4 (Ao s a) a=((Ao s a).b:Nat):=by unfold O4;rw [if_pos he]
  rw [e1]
  have f0:=Ayp s a he
  refine Gi (p:=(Ao s a).k=0) Cg (fun h1=> ?_) fun h0=> ?_
  ·rw [if_pos h1];exact Sb (by decide)
  rw [if_neg h0]
  have f01:=f0.2.2 h0
  refine Gi (p:=(Ao s a).k=1) Cg (fun h1=> ?_) fun h1=> ?_
  ·rw [if_pos h1]
   refine(A61 s hs (Ao s a).b f0.2.1 w (Ao s a).n).mono fun r g hx=> ?_
   obtain⟨c,g1,g2,g3⟩:=hx
   subst g1;subst g2
   refine⟨⟨rfl,(K4 _).symm⟩, ?_⟩
   exact⟨c,rfl,K4 _,g3⟩
  rw [if_neg h1]
  refine Gi (p:=(Ao s a).k=2) Cg (fun h2=> ?_) fun h2=> ?_
  ·rw [if_pos h2];exact Ai9 rfl rfl
  rw [if_neg h2]
  refine Gi (p:=(Ao s a).k=3) Cg (fun h3=> ?_) fun h3=> ?_
  ·rw [if_pos h3];exact Ai9 rfl rfl
  rw [if_neg h3]
  refine Gi (p:=(Ao s a).k=8) Cg (fun h8=> ?_) fun h8=> ?_
  ·rw [if_pos h8]
   refine Call.use (Bb8 (Ao s a).s (Ao s a).b) ⟨⟨rfl,(K4 _).symm⟩, ?_⟩
   exact⟨_,rfl,K4 _,fun h=>(by rw [Axb _ _ h];rfl)⟩
  rw [if_neg h8]
  have wm:IntKind.i64.wrap (((w+1:Nat):Int) - 1)=(w:Int):=by rw [Bb _ (by omega) (by omega)];omega
  refine Gi (p:=(Ao s a).k=4) Cg (fun h4=> ?_) fun h4=> ?_
  ·rw [if_pos h4]
   refine Gi (p:=64≤w) (by rw [Cg];show(64:Int)≤(w:Int)↔_;omega) (fun h64=> ?_) fun h64=> ?_
   ·rw [if_pos h64];exact Sb (by decide)
   ·rw [if_neg h64]
    have ew:IntKind.i64.wrap (rI ((Au (Zl s ((Ao s a).b:Nat) w) (Nm.arg 0)).getD 2 AV.undef)+1)=((w+1:Nat):Int):=Ma w (by omega)
    rw [ew]
    refine(Bcq s hs m ih (w+1) (by omega) (Ao s a).b f0.2.1 (by omega)).mono fun r g hx=> ?_
    obtain⟨c,g1,g2,g3⟩:=hx
    subst g1;subst g2
    refine⟨⟨rfl,(K4 _).symm⟩, ?_⟩
    have ew2:IntKind.i64.wrap (rI ((Au (Zl s c ((w+1:Nat):Int)) (Nm.arg 0)).getD 2 AV.undef) - 1)=(w:Int):=wm
    rw [ew2]
    exact⟨c,rfl,K4 _,g3⟩
  rw [if_neg h4]
  refine Gi (p:=(Ao s a).k=6) Cg (fun h6=> ?_) fun h6=> ?_
  ·rw [if_pos h6]
   refine Gi (p:=64≤w) (by rw [Cg];show(64:Int)≤(w:Int)↔_;omega) (fun h64=> ?_) fun h64=> ?_
   ·rw [if_pos h64];exact Sb (by decide)
   ·rw [if_neg h64]
    have ew:IntKind.i64.wrap (rI ((Au (Zl s ((Ao s a).b:Nat) w) (Nm.arg 0)).getD 2 AV.undef)+1)=((w+1:Nat):Int):=Ma w (by omega)
    rw [ew]
    refine(Bda s hs m ih (w+1) (by omega) (Ao s a).b f0.2.1 (by omega)).mono fun r g hx=> ?_
    obtain⟨c,g1,g2,g3⟩:=hx
    subst g1;subst g2
    refine⟨⟨rfl,(K4 _).symm⟩, ?_⟩
    have ew2:IntKind.i64.wrap (rI ((Au (Zl s c ((w+1:Nat):Int)) (Nm.arg 0)).getD 2 AV.undef) - 1)=(w:Int):=wm
    rw [ew2]
    exact⟨c,rfl,K4 _,g3⟩
  ·rw [if_neg h6];exact Sb (by decide)
end
end Go.Proofs.Sim.Se

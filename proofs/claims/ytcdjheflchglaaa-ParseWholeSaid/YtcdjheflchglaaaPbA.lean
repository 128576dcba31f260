import Derived.Test.YtcdjheflchglaaaPaD
import Derived.Test.YtcdjheflchglaaaVaA
namespace Go.Proofs.Sim.Pa
open Go Go.Proofs Go.Proofs.Sim Go.Proofs.Sim.Va Go.Proofs.Sim.Se
theorem A6e:∀(m:Nat) (l out:List UInt8) (a:Nat),l.length≤m→(nameL l out a).2.2=0→a≤(nameL l out a).2.1∧(nameL l out a).2.1≤a+l.length:=by
 intro m
 induction m with
 |zero=>
  intro l out a hl _
  have:l=[]:=List.length_eq_zero_iff.1 (by omega)
  subst this
  exact⟨Nat.le_refl _,Nat.le_refl _⟩
 |succ m ih=>
  intro l out a hl h
  rcases l with _ |⟨c,r⟩
  ·exact⟨Nat.le_refl _,Nat.le_refl _⟩
  ·rw [nameL.eq_def]at h ⊢
   simp only at h ⊢
   split at h
   ·rename_i hk
    rw [if_pos hk]
    split at h
    ·rename_i h35
     rw [if_pos h35]
     rcases r with _ |⟨x,_ |⟨y,r⟩⟩
     ·cases h
     ·cases h
     ·simp only at h ⊢
      split at h
      ·cases h
      ·rename_i h1
       rw [if_neg h1]
       split at h
       ·cases h
       ·rename_i h2
        rw [if_neg h2]
        simp only [List.length_cons]at hl ⊢
        have:=ih r _ (a+3) (by omega) h
        omega
    ·rename_i h35
     rw [if_neg h35]
     split at h
     ·cases h
     ·rename_i h2
      rw [if_neg h2]
      simp only [List.length_cons]at hl ⊢
      have:=ih r _ (a+1) (by omega) h
      omega
   ·rename_i hk
    rw [if_neg hk]
    simp only;omega
theorem A5j:∀(m:Nat) (l out:List UInt8) (d:Int) (a:Nat),(Oi m l out d a).2.2=0→a≤(Oi m l out d a).2.1∧(Oi m l out d a).2.1≤a+l.length:=by
 intro m
 induction m with
 |zero=>intro l out d a h;cases h
 |succ m ih=>
  intro l out d a h
  rcases l with _ |⟨c,r⟩
  ·cases h
  ·rw [Oi]at h ⊢
   have he:=Aog (c::r)
   split at h
   ·rename_i h1
    rw [if_pos h1]
    split at h
    ·cases h
    rename_i h2
    rw [if_neg h2]
    have:=ih _ _ _ _ h
    rw [List.length_drop]at this
    omega
   ·rename_i h1
    rw [if_neg h1]
    split at h
    ·rename_i h92
     rw [if_pos h92]
     split at h
     ·cases h
     ·rename_i t k hesc
      have hk:=A03 hesc
      split at h
      ·cases h
      rename_i h2
      simp only [if_neg h2]
      have:=ih _ _ _ _ h
      rw [List.length_drop]at this
      simp only [List.length_cons]
      omega
    ·rename_i h92
     rw [if_neg h92]
     simp only [List.length_cons]
     split at h
     ·rename_i h41
      rw [if_pos h41]
      simp only;omega
     ·rename_i h41
      rw [if_neg h41]
      split at h
      ·cases h
      ·rename_i h2
       rw [if_neg h2]
       have:=ih _ _ _ _ h
       omega
theorem A84:∀(l:List UInt8) (half:Int) (out:List UInt8) (a:Nat),(Rx l half out a).2.2=0→a≤(Rx l half out a).2.1∧(Rx l half out a).2.1≤a+l.length:=by
 intro l
 induction l with
 |nil=>intro half out a h;cases h
 |cons c r ih=>
  intro half out a h
  rw [Rx]at h ⊢
  simp only [List.length_cons]
  split at h
  ·rename_i h1
   rw [if_pos h1]
   split at h
   ·rename_i h2;rw [if_pos h2];simp only;omega
   ·rename_i h2
    rw [if_neg h2]
    split at h
    ·cases h
    ·rename_i h3;rw [if_neg h3];simp only;omega
  ·rename_i h1
   rw [if_neg h1]
   split at h
   ·rename_i h2
    rw [if_pos h2]
    split at h
    ·rename_i h3
     rw [if_pos h3]
     have:=ih _ _ _ h
     omega
    ·cases h
   ·rename_i h2
    rw [if_neg h2]
    split at h
    ·rename_i h3
     rw [if_pos h3]
     have:=ih _ _ _ h
     omega
    ·rename_i h3
     rw [if_neg h3]
     split at h
     ·cases h
     ·rename_i h4
      rw [if_neg h4]
      have:=ih _ _ _ h
      omega
theorem Ar3(k:Int)(p lo hi:Nat)(x:Part)(hx:x.2.2=0→lo≤x.2.1∧x.2.1≤hi)(h:(partT k p x).e=0):lo≤(partT k p x).b∧(partT k p x).b≤hi:=by
 unfold partT at h ⊢
 split
 ·rename_i h0;exact hx h0
 ·rename_i h0;rw [if_neg h0]at h;exact absurd h h0
theorem A9k(l:List UInt8)(p:Nat)(h:(Lr l p).e=0):(Lr l p).b=p+Ci 2 l:=by
 unfold Lr at h ⊢
 split
 ·rfl
 ·rename_i h1
  rw [if_neg h1]at h
  split
  ·rename_i h2;rw [if_pos h2]at h;cases h
  ·rename_i h2
   rw [if_neg h2]at h
   split
   ·rename_i h3;rw [if_pos h3]at h;cases h
   ·rfl
theorem Bb9(c:UInt8)(r:List UInt8)(p:Nat)(hc:kd c≠0)(h:(P7 c r p).e=0):p+1≤(P7 c r p).b∧(P7 c r p).b≤p+1+r.length:=by
 unfold P7 at h ⊢
 have hd:∀x,r.head?=some x→1≤r.length:=by
  intro x hx
  rcases r with _ |⟨y,r⟩
  ·cases hx
  ·simp
 split
 ·exact⟨Nat.le_refl _,by simp⟩
 rename_i h1
 rw [if_neg h1]at h
 split
 ·exact⟨Nat.le_refl _,by simp⟩
 rename_i h2
 rw [if_neg h2]at h
 split
 ·rename_i h3
  rw [if_pos h3]at h
  exact Ar3 _ _ _ _ _ (fun hx=>A6e r.length r [] (p+1) (Nat.le_refl _) hx) h
 rename_i h3
 rw [if_neg h3]at h
 split
 ·rename_i h4
  rw [if_pos h4]at h
  exact Ar3 _ _ _ _ _ (fun hx=>A5j _ r [] 1 (p+1) hx) h
 rename_i h4
 rw [if_neg h4]at h
 split
 ·rename_i h5
  rw [if_pos h5]at h
  split
  ·rename_i h6;have:=hd _ h6;simp only;omega
  ·rename_i h6
   rw [if_neg h6]at h
   exact Ar3 _ _ _ _ _ (fun hx=>A84 r (-1) [] (p+1) hx) h
 rename_i h5
 rw [if_neg h5]at h
 split
 ·rename_i h6
  rw [if_pos h6]at h
  split
  ·rename_i h7;have:=hd _ h7;simp only;omega
  ·rename_i h7;rw [if_neg h7]at h;cases h
 rename_i h6
 rw [if_neg h6]at h
 split
 ·rename_i h7;rw [if_pos h7]at h;cases h
 ·rename_i h7
  rw [if_neg h7]at h
  rw [A9k _ _ h]
  have h8:=Aao 2 (c::r)
  have h9:Ci 2 (c::r)=Ci 2 r+1:=by
   rw [Ci,if_pos]
   have three:kd c=0∨kd c=1∨kd c=2:=by
    unfold kd R6
    split
    ·exact .inl rfl
    ·split
     ·exact .inr (.inl rfl)
     ·exact .inr (.inr rfl)
   rcases three with h |h |h
   ·exact absurd h hc
   ·exact absurd h h7
   ·exact h
  simp only [List.length_cons]at h8
  omega
theorem A0n:∀(b:Bool) (l:List UInt8) (c:UInt8) (r:List UInt8),l.drop (Gd b l)=c::r→kd c≠0
 |_,[],c,r,h=>by simp [Gd]at h
 |b,x::l,c,r,h=>by
  rw [Gd]at h
  by_cases hx:Jw b x=false∧kd x≠0
  ·rw [if_pos hx,List.drop_zero]at h
   injection h with h1 h2
   subst h1
   exact hx.2
  ·rw [if_neg hx,List.drop_succ_cons]at h
   exact A0n _ l c r h
theorem A7f(s:List UInt8)(a:Int):Ke s a≤Dx s a:=by unfold Dx;omega
theorem Un(s:List UInt8)(a:Nat)(h:a≤s.length):Ke s (a:Int)=a:=by
 unfold Ke;rw [if_neg (by omega),if_neg (by omega)];omega
theorem Bbp(s:List UInt8)(a:Int):Ke s ((Ke s a:Nat):Int)=Ke s a:=Un s _ (Su s a)
theorem Akw(s:List UInt8)(a:Int):Ak s ((Ke s a:Nat):Int)=Ak s a:=by
 unfold Ak Dx;rw [Bbp]
theorem Aqk(s:List UInt8)(a:Int)(h:(Ak s a).e=0):Ke s a≤(Ak s a).b∧(Ak s a).b≤s.length∧((Ak s a).k≠0→Ke s a<(Ak s a).b):=by
 have h1:=A7f s a
 have h2:=Aq6 s a
 by_cases hp:Dx s a<s.length
 ·rw [Ar2 s a hp]at h ⊢
  have hc:kd s[Dx s a]≠0:=by
   refine A0n false (s.drop (Ke s a)) _ (s.drop (Dx s a+1)) ?_
   rw [List.drop_drop]
   exact Dt s _ hp
  have:=Bb9 s[Dx s a] (s.drop (Dx s a+1)) (Dx s a) hc h
  rw [List.length_drop]at this
  omega
 ·rw [Aqp s a hp]at h ⊢
  exact⟨h1,h2,fun h=>absurd rfl h⟩
theorem Md(s:List UInt8)(a:Nat)(ha:a≤s.length)(h:(Ak s a).e=0):a≤(Ak s a).b∧(Ak s a).b≤s.length∧((Ak s a).k≠0→a<(Ak s a).b):=by
 have:=Aqk s a h
 rwa [Un s a ha]at this
theorem A71(s:List UInt8)(b:Nat)(hb:b≤s.length) {g:Int} {c:Nat} (h:Ur s b=some (g,c)):b<c∧c≤s.length:=by
 unfold Ur at h
 split at h
 ·rename_i h1
  split at h
  ·rename_i h2
   injection h with h;injection h with _ h
   subst h
   have f1:=Md s b hb h1.1
   have f2:=Md s _ f1.2.1 h2.1
   have:=f1.2.2 (by rw [h1.2];decide)
   exact⟨by omega,f2.2.1⟩
  ·cases h
 ·cases h
theorem Bbx(s:List UInt8)(n:Int)(b:Nat)(hb:b≤s.length)(h:(numL s n b).2.2=0):b≤(numL s n b).2.1∧(numL s n b).2.1≤s.length:=by
 unfold numL at h ⊢
 split
 ·exact⟨Nat.le_refl _,hb⟩
 ·rename_i g c hl
  rw [hl]at h
  simp only at h
  split
  ·rename_i h1;rw [if_pos h1]at h;cases h
  ·have:=A71 s b hb hl
   simp only;omega
theorem Axh(w:List UInt8)(b:Nat)(h:(Abp w b).2.2=0):(Abp w b).2.1=b:=by
 unfold Abp at h ⊢
 split
 ·rfl
 ·rename_i h1
  rw [if_neg h1]at h
  split
  ·rfl
  ·rename_i h2
   rw [if_neg h2]at h
   split
   ·rfl
   ·rename_i h3;rw [if_neg h3]at h;cases h
def Ak3(s:List UInt8)(a:Nat)(x:V × Nat × Int):Prop:=x.2.2=0→a<x.2.1∧x.2.1≤s.length
theorem A9b(s:List UInt8)(rd:Nat→V × Nat × Int)(hrd:∀a,a≤s.length→Ak3 s a (rd a)):∀(m a:Nat) (acc:List V),a≤s.length→Ak3 s a (Qz s rd m a acc):=by
 intro m
 induction m with
 |zero=>intro a acc ha h;cases h
 |succ m ih=>
  intro a acc ha h
  rw [Qz]at h ⊢
  split at h
  ·rename_i h1;exact absurd h h1
  ·rename_i h1
   rw [if_neg h1]
   have f:=Md s a ha (Classical.not_not.1 h1)
   split at h
   ·rename_i h2
    rw [if_pos h2]
    exact⟨f.2.2 (by rw [h2];decide),f.2.1⟩
   ·rename_i h2
    rw [if_neg h2]
    split at h
    ·rename_i h3;exact absurd h h3
    ·rename_i h3
     rw [if_neg h3]
     have hr:=hrd a ha (Classical.not_not.1 h3)
     have:=ih _ _ hr.2 h
     exact⟨by omega,this.2⟩
theorem A7v(s:List UInt8)(rd:Nat→V × Nat × Int)(hrd:∀a,a≤s.length→Ak3 s a (rd a)):∀(m a:Nat) (acc:List Pr),a≤s.length→Ak3 s a (Q9 s rd m a acc):=by
 intro m
 induction m with
 |zero=>intro a acc ha h;cases h
 |succ m ih=>
  intro a acc ha h
  rw [Q9]at h ⊢
  split at h
  ·rename_i h1;exact absurd h h1
  rename_i h1
  rw [if_neg h1]
  have f:=Md s a ha (Classical.not_not.1 h1)
  split at h
  ·rename_i h2
   rw [if_pos h2]
   exact⟨f.2.2 (by rw [h2];decide),f.2.1⟩
  rename_i h2
  rw [if_neg h2]
  split at h
  ·cases h
  rename_i h3
  rw [if_neg h3]
  split at h
  ·cases h
  rename_i h4
  rw [if_neg h4]
  split at h
  ·cases h
  rename_i h5
  rw [if_neg h5]
  split at h
  ·rename_i h6;exact absurd h h6
  ·rename_i h6
   rw [if_neg h6]
   have hr:=hrd _ f.2.1 (Classical.not_not.1 h6)
   have:=ih _ _ hr.2 h
   exact⟨by omega,this.2⟩
theorem Sq(s:List UInt8):∀(m w a:Nat),a≤s.length→Ak3 s a (Ec s m w a):=by
 intro m
 induction m with
 |zero=>intro w a ha h;cases h
 |succ m ih=>
  intro w a ha h
  rw [Ec]at h ⊢
  split at h
  ·rename_i h1;exact absurd h h1
  rename_i h1
  rw [if_neg h1]
  have f:=Md s a ha (Classical.not_not.1 h1)
  split at h
  ·cases h
  rename_i h2
  rw [if_neg h2]
  have f3:=f.2.2 h2
  split at h
  ·rename_i h3
   rw [if_pos h3]
   have:=Bbx s _ _ f.2.1 h
   exact⟨by omega,this.2⟩
  rename_i h3
  rw [if_neg h3]
  split at h
  ·rename_i h4;rw [if_pos h4];exact⟨f3,f.2.1⟩
  rename_i h4
  rw [if_neg h4]
  split at h
  ·rename_i h5;rw [if_pos h5];exact⟨f3,f.2.1⟩
  rename_i h5
  rw [if_neg h5]
  split at h
  ·rename_i h6
   rw [if_pos h6,Axh _ _ h];exact⟨f3,f.2.1⟩
  rename_i h6
  rw [if_neg h6]
  split at h
  ·rename_i h7
   rw [if_pos h7]
   split at h
   ·cases h
   ·rename_i h8
    rw [if_neg h8]
    have:=A9b s (Ec s m (w+1)) (fun a ha=>ih (w+1) a ha) _ _ _ f.2.1 h
    exact⟨by omega,this.2⟩
  rename_i h7
  rw [if_neg h7]
  split at h
  ·rename_i h8
   rw [if_pos h8]
   split at h
   ·cases h
   ·rename_i h9
    rw [if_neg h9]
    have:=A7v s (Ec s m (w+1)) (fun a ha=>ih (w+1) a ha) _ _ _ f.2.1 h
    exact⟨by omega,this.2⟩
  ·cases h
end Go.Proofs.Sim.Pa
set_option maxRecDepth 100000
namespace Go.Proofs.Sim.Se
open Go Go.Proofs Go.Proofs.Sim Go.Proofs.Sim.Va Go.RowKit Go.Proofs.Sim.Pa
abbrev Zx(s:List UInt8)(a w:Int):Heap:=[(Nm.arg 0, .blk Am [.imm (.str s), .imm (.int .i64 a), .imm (.int .i64 w)])]
abbrev rdA(x:V × Nat × Int):AV:= .tup [.imm (.agg x.1.row), .imm (.int .i64 x.2.2)]
def RdQ(s:List UInt8)(w:Int)(x:V × Nat × Int):QQ:=fun r h=>∃c:Int,h=Zx s c w∧r=rdA x∧(x.2.2=0→c=x.2.1)
theorem Af2(k n g:Int)(t:List UInt8)(l:List V)(d:List Pr):(V.mk k n g t l d).row=[.int .i64 k, .int .i64 n, .int .i64 g, .str t, .sl .any 6 (l.map V.row), .sl .any 7 (d.map Cm)]:=Hz _
theorem A5c(e:Int):rdA (Jp e)= .tup [.imm (.agg [.int .i64 0, .int .i64 0, .int .i64 0, .str [], .sl .any 6 [], .sl .any 7 []]), .imm (.int .i64 e)]:=by
 unfold Jp rdA;rw [Af2];rfl
theorem Rs {s:List UInt8} {w c e:Int} (he:e≠0):RdQ s w (Jp e) (.tup [.imm (.agg [.int .i64 0, .int .i64 0, .int .i64 0, .str [], .sl .any 6 [], .sl .any 7 []]), .imm (.int .i64 e)]) (Zx s c w):=
 ⟨c,rfl,(A5c e).symm,fun h=>absurd h he⟩
theorem Ajy {s:List UInt8} {w:Int} {c:Nat} {k n g:Int} {t:List UInt8} {l:List V} {d:List Pr} {L D:LL} (hl:l.map V.row=L)(hd:d.map Cm=D):
 RdQ s w (.mk k n g t l d,c,0) (.tup [.imm (.agg [.int .i64 k, .int .i64 n, .int .i64 g, .str t, .sl .any 6 L, .sl .any 7 D]), .imm (.int .i64 0)]) (Zx s c w):=by
 subst hl;subst hd
 exact⟨c,rfl,by unfold rdA;rw [Af2],fun _=>rfl⟩
def O5(t:Tk)(a:Int):Int:=if t.e=0 then t.b else a
section
variable (s:List UInt8) (hs:s.length≤1000000000)
include hs
theorem Agw(a w:Int):Call E0.P F4 [.ptr (.arg 0) 0] (Zx s a w) (Is (nxA (Ak s a)) (Zx s (O5 (Ak s a) a) w)):=by
 refine Aiz _ _ _ _ (Call.use (Aze s hs a) ⟨⟨rfl,rfl⟩, ?_⟩)
 have fin:∀c:Int,c=O5 (Ak s a) a→K8 (Ak s a).e 0 0 [] 0 0 (Ak s a).k (Ak s a).n (Ak s a).s (Ak s a).a (Ak s a).b s c w (K3 s a w (Is (nxA (Ak s a)) (Zx s (O5 (Ak s a) a) w))):=by
  intro c hc
  subst hc
  refine Afc _ _ _ _ _ _ _ _ _ _ _ _ _ _ _ ?_
  apply Agu
  exact⟨rfl,rfl⟩
 refine Dj (p:=(Ak s a).e=0) Bg (fun h=>fin _ ?_) fun h=>fin _ ?_
 ·unfold O5;rw [if_pos h];rfl
 ·unfold O5;rw [if_neg h]
theorem A68(a:Int)(w:Int)(h:Ur s (Ke s a)=none)(_ha:0≤a∧a≤s.length):Call E0.P Lt [.ptr (.arg 0) 0] (Zx s a w) (Is (.tup [.imm (.int .i64 0), .imm (.bool false)]) (Zx s a w)):=by
 have fin:∀c,Lb s c w s a (Kw s a w (Is (.tup [.imm (.int .i64 0), .imm (.bool false)]) (Zx s a w))):=by
  intro c
  refine Aff _ _ _ _ _ _ ?_
  apply Agq
  exact⟨rfl,rfl⟩
 refine V7 _ _ _ _ (Call.use (Agw s hs a w) ⟨⟨rfl,rfl⟩,Let.intro ?_⟩)
 unfold Ur at h
 rw [Akw]at h
 refine Dj (p:=(Ak s a).e=0∧(Ak s a).k=1) (Ph _ _) (fun h1=> ?_) fun _=>fin _
 rw [if_pos h1]at h
 have e1:O5 (Ak s a) a=((Ak s a).b:Nat):=by unfold O5;rw [if_pos h1.1]
 rw [e1]
 refine Call.use (Agw s hs ((Ak s a).b:Nat) w) ⟨⟨rfl,rfl⟩,Let.intro (Let.intro ?_)⟩
 refine Dj (p:=((Ak s (Ak s a).b).e=0∧(Ak s (Ak s a).b).k=8)∧(Ak s (Ak s a).b).s=[82]) ?_ (fun h2=> ?_) fun _=>fin _
 ·rw [←Ph ((Ak s (Ak s a).b).e=0)]
  cases hc:(bif decide ((Ak s (Ak s a).b).e=0)then decide ((Ak s (Ak s a).b).k=8)else false)
  ·constructor
   ·intro h3
    have:(bif (bif decide ((Ak s (Ak s a).b).e=0)then decide ((Ak s (Ak s a).b).k=8)else false)then(Ak s (Ak s a).b).s == [82]else false)=true:=h3
    rw [hc]at this;cases this
   ·rintro⟨h3,_⟩;cases h3
  ·constructor
   ·intro h3
    have:(bif (bif decide ((Ak s (Ak s a).b).e=0)then decide ((Ak s (Ak s a).b).k=8)else false)then(Ak s (Ak s a).b).s == [82]else false)=true:=h3
    rw [hc]at this
    exact⟨rfl,by simpa using this⟩
   ·rintro⟨_,h3⟩
    show(bif (bif decide ((Ak s (Ak s a).b).e=0)then decide ((Ak s (Ak s a).b).k=8)else false)then(Ak s (Ak s a).b).s == [82]else false)=true
    rw [hc,h3];rfl
 ·rw [if_pos ⟨h2.1.1,h2.1.2,h2.2⟩]at h
  cases h
theorem A4i(a:Int)(w:Int)(g:Int)(c:Nat)(h:Ur s (Ke s a)=some (g,c)):Call E0.P Lt [.ptr (.arg 0) 0] (Zx s a w) (Is (.tup [.imm (.int .i64 g), .imm (.bool true)]) (Zx s c w)):=by
 refine V7 _ _ _ _ (Call.use (Agw s hs a w) ⟨⟨rfl,rfl⟩,Let.intro ?_⟩)
 unfold Ur at h
 rw [Akw]at h
 split at h
 case isFalse=>cases h
 rename_i h1
 refine Dj (p:=(Ak s a).e=0∧(Ak s a).k=1) (Ph _ _) (fun h1=> ?_) fun h'=>absurd h1 h'
 have e1:O5 (Ak s a) a=((Ak s a).b:Nat):=by unfold O5;rw [if_pos h1.1]
 rw [e1]
 refine Call.use (Agw s hs ((Ak s a).b:Nat) w) ⟨⟨rfl,rfl⟩,Let.intro (Let.intro ?_)⟩
 split at h
 case isFalse=>cases h
 rename_i h2
 injection h with h;injection h with h3 h4
 subst h3;subst h4
 have e2:O5 (Ak s ((Ak s a).b:Nat)) ((Ak s a).b:Nat)=((Ak s ((Ak s a).b:Nat)).b:Nat):=by unfold O5;rw [if_pos h2.1]
 rw [e2]
 have e3:(bif (bif decide ((Ak s (Ak s a).b).e=0)then decide ((Ak s (Ak s a).b).k=8)else false)then(Ak s (Ak s a).b).s == [82]else false)=true:=by
  rw [decide_eq_true h2.1,decide_eq_true h2.2.1,h2.2.2];rfl
 exact Dj (p:=True) ⟨fun _=>trivial,fun _=>e3⟩ (fun _=>⟨rfl,rfl⟩) fun h=>absurd trivial h
theorem A7s(a:Nat)(ha:a≤s.length)(w:Int)(n:Int):Call E0.P O6 [.ptr (.arg 0) 0, .imm (.int .i64 n)] (Zx s a w) (RdQ s w (numL s n a)):=by
 have hp:=Un s a ha
 unfold numL
 rcases hl:Ur s a with _ |⟨g,c⟩
 ·refine Tq _ _ _ _ _ (Call.use (A68 s hs a w (by rw [hp];exact hl) ⟨by omega,by omega⟩) ⟨⟨rfl,rfl⟩,Anl rfl ?_⟩)
  exact Ajy rfl rfl
 ·refine Tq _ _ _ _ _ (Call.use (A4i s hs a w g c (by rw [hp];exact hl)) ⟨⟨rfl,rfl⟩,Am8 rfl (Let.intro (Let.intro (Let.intro ?_)))⟩)
  rw [show rI (rT (.tup [.imm (.int .i64 g), .imm (.bool true)]) 0)=g from rfl]
  refine Dj (p:=n<1∨8388607<n∨g<0∨65535<g) (by rw [Ar1,Ar1,Ar7];omega) (fun h=> ?_) fun h=> ?_
  ·simp only [if_pos h];exact Rs (by decide)
  ·simp only [if_neg h];exact Ajy rfl rfl
omit hs in
theorem Bb5(t:List UInt8)(b:Nat):Call E0.P Ada [.imm (.str t)] [] (Is (rdA (Abp t b)) []):=by
 have e:∀(k n g:Int) (t:List UInt8),rdA (.mk k n g t [] [],b,0)= .tup [.imm (.agg [.int .i64 k, .int .i64 n, .int .i64 g, .str t, .sl .any 6 [], .sl .any 7 []]), .imm (.int .i64 0)]:=by
  intro k n g t;unfold rdA;rw [Af2];rfl
 unfold Abp
 refine Aul _ _ (Dj (p:=t=[116,114,117,101]) (by simp) (fun h=> ?_) fun h1=>Dj (p:=t=[102,97,108,115,101]) (by simp) (fun h=> ?_) fun h2=>Dj (p:=t=[110,117,108,108]) (by simp) (fun h=> ?_) fun h3=> ?_)
 ·rw [if_pos h,e];exact⟨rfl,rfl⟩
 ·rw [if_neg h1,if_pos h,e];exact⟨rfl,rfl⟩
 ·rw [if_neg h1,if_neg h2,if_pos h,e];exact⟨rfl,rfl⟩
 ·rw [if_neg h1,if_neg h2,if_neg h3,A5c];exact⟨rfl,rfl⟩
def Mq(t:Tk)(m:List (List UInt8 × Int)):List UInt8 × Bool × Int:=
 if t.e≠0 then([],false,t.e)else if t.k=0 then([],false,5)else if t.k=7 then([],false,0)else if t.k≠2 then([],false,4)else if 0<Ga m t.s then([],false,11)else(t.s,true,0)
def Ana(t:Tk)(m:List (List UInt8 × Int)):List (List UInt8 × Int):=if(Mq t m).2.1 then mUp m t.s (IntKind.i64.wrap (Ga m t.s+1))else m
abbrev kyA(x:List UInt8 × Bool × Int):AV:= .tup [.imm (.str x.1), .imm (.bool x.2.1), .imm (.int .i64 x.2.2)]
abbrev pmH(s:List UInt8)(a w:Int)(m:List (List UInt8 × Int)):Heap:=[(Nm.arg 0, .blk Am [.imm (.str s), .imm (.int .i64 a), .imm (.int .i64 w)]),(Nm.arg 1, .map m)]
theorem Bev(a w:Int)(m:List (List UInt8 × Int)):Call E0.P R3 [.ptr (.arg 0) 0, .mp (.arg 1)] (pmH s a w m) (Is (kyA (Mq (Ak s a) m)) (pmH s (O5 (Ak s a) a) w (Ana (Ak s a) m))):=by
 refine Aj2 _ _ _ _ _ (Call.use (Agw s hs a w) ⟨⟨rfl,rfl⟩, ?_⟩)
 have no:(Mq (Ak s a) m).2.1=false→Ana (Ak s a) m=m:=fun h=>by unfold Ana;rw [h];rfl
 have fin:∀e:Int,Mq (Ak s a) m=([],false,e)→Is (kyA (Mq (Ak s a) m)) (pmH s (O5 (Ak s a) a) w (Ana (Ak s a) m)) (.tup [.imm (.str []), .imm (.bool false), .imm (.int .i64 e)]) (pmH s (O5 (Ak s a) a) w m):=by
  intro e h
  rw [no (by rw [h]),h]
  exact⟨rfl,rfl⟩
 refine Ot (p:=(Ak s a).e=0) Bg (fun h1=>fin _ ?_) fun h1=>Dj (p:=(Ak s a).k=0) Bg (fun h2=>fin _ ?_) fun h2=>Dj (p:=(Ak s a).k=7) Bg (fun h3=>fin _ ?_) fun h3=>Ot (p:=(Ak s a).k=2) Bg (fun h4=>fin _ ?_) fun h4=>Dj (p:=0<Ga m (Ak s a).s) Bg (fun h5=>fin _ ?_) fun h5=> ?_
 ·unfold Mq;rw [if_pos h1];rfl
 ·unfold Mq;rw [if_neg (fun h=>h h1),if_pos h2]
 ·unfold Mq;rw [if_neg (fun h=>h h1),if_neg h2,if_pos h3]
 ·unfold Mq;rw [if_neg (fun h=>h h1),if_neg h2,if_neg h3,if_pos h4]
 ·unfold Mq;rw [if_neg (fun h=>h h1),if_neg h2,if_neg h3,if_neg (fun h=>h h4),if_pos h5]
 ·have hk:Mq (Ak s a) m=((Ak s a).s,true,0):=by
   unfold Mq;rw [if_neg (fun h=>h h1),if_neg h2,if_neg h3,if_neg (fun h=>h h4),if_neg h5]
  have hm:Ana (Ak s a) m=mUp m (Ak s a).s (IntKind.i64.wrap (Ga m (Ak s a).s+1)):=by
   unfold Ana;rw [hk];rfl
  rw [hk,hm]
  exact⟨rfl,rfl⟩
end
end Go.Proofs.Sim.Se
set_option maxRecDepth 100000
namespace Go.Proofs.Sim.Se
open Go Go.Proofs Go.Proofs.Sim Go.Proofs.Sim.Va Go.RowKit Go.Proofs.Sim.Pa
theorem Oh(v:V): [.int .i64 (gI v.row 0), .int .i64 (gI v.row 1), .int .i64 (gI v.row 2), .str (gS v.row 3), .sl .any 6 (gR v.row 4), .sl .any 7 (gR v.row 5)]=v.row:=by rw [Hz];rfl
abbrev A6y(r:AV):AV:= .tup [.imm (.agg [.int .i64 (gI (Ad (rT r 0)) 0), .int .i64 (gI (Ad (rT r 0)) 1), .int .i64 (gI (Ad (rT r 0)) 2), .str (gS (Ad (rT r 0)) 3), .sl .any 6 (gR (Ad (rT r 0)) 4), .sl .any 7 (gR (Ad (rT r 0)) 5)]), .imm (.int .i64 (rI (rT r 1)))]
theorem K9(x:V × Nat × Int):A6y (rdA x)=rdA x:=by
 show AV.tup [.imm (.agg [.int .i64 (gI x.1.row 0), .int .i64 (gI x.1.row 1), .int .i64 (gI x.1.row 2), .str (gS x.1.row 3), .sl .any 6 (gR x.1.row 4), .sl .any 7 (gR x.1.row 5)]), .imm (.int .i64 x.2.2)]=_
 rw [Oh]
theorem Ay8(k x:List UInt8)(v:Int):∀m:List (List UInt8 × Int),Ga (mUp m x v) k=if k=x then v else Ga m k
 | []=>by
   simp only [mUp,Ga]
 |(y,u)::r=>by
  simp only [mUp]
  by_cases h:x=y
  ·subst h
   rw [if_pos rfl,Ga,Ga]
   by_cases hk:k=x
   ·rw [if_pos hk,if_pos hk]
   ·rw [if_neg hk,if_neg hk,if_neg hk]
  ·rw [if_neg h,Ga,Ga,Ay8 k x v r]
   by_cases hk:k=y
   ·subst hk
    rw [if_pos rfl,if_pos rfl,if_neg (fun e=>h e.symm)]
   ·rw [if_neg hk,if_neg hk]
def A4b(m:List (List UInt8 × Int))(acc:List Pr):Prop:=∀k,(0<Ga m k↔acc.any (fun p=>p.1 == k)=true)∧0≤Ga m k∧Ga m k≤1
theorem A8k:A4b [] []:=fun k=>⟨by simp [Ga],by simp [Ga],by simp [Ga]⟩
theorem Bb8 {m:List (List UInt8 × Int)} {acc:List Pr} (h:A4b m acc)(x:List UInt8)(v:V)(hx:¬0<Ga m x):A4b (mUp m x (IntKind.i64.wrap (Ga m x+1))) (acc++[(x,v)]):=by
 intro k
 have hk:=h k
 have hx2:=h x
 rw [Be _ (by omega) (by omega),Ay8]
 by_cases e:k=x
 ·subst e
  rw [if_pos rfl]
  exact⟨⟨fun _=>by simp,fun _=>by omega⟩,by omega,by omega⟩
 ·rw [if_neg e]
  refine⟨?_,hk.2⟩
  rw [hk.1]
  have:¬x=k:=fun h=>e h.symm
  simp [this]
section
variable (s:List UInt8) (hs:s.length≤1000000000)
include hs
abbrev Azt(s:List UInt8)(m:Nat):Prop:=∀(w:Nat) (a:Int),w≤64→s.length<Ke s a+m→Call E0.P Ic [.ptr (.arg 0) 0] (Zx s a w) (RdQ s w (Ec s m w (Ke s a)))
theorem Bc3(m:Nat)(ih:Azt s m)(w:Nat)(hw:w≤64)(at0 w0:Int)(Q:QQ)(X:V × Nat × Int)(hQ:∀r h,RdQ s w X r h→Q r h):∀(f a:Nat) (acc:List V),a≤s.length→s.length<a+m→s.length<a+f→acc.length≤a→Qz s (Ec s m w) f a acc=X→
 Ii s a w 0 0 0 [] 5 0 0 [] [] [] (acc.map V.row) [] (Ig s at0 w0 Q):=by
 intro f
 induction f with
 |zero=>intro a acc ha h1 h2;omega
 |succ f ihf=>
  intro a acc ha h1 h2 hl hX
  have hp:=Un s a ha
  rw [Qz]at hX
  refine Agg _ _ _ _ _ _ _ _ _ _ _ _ _ _ _ _ (Call.use (Aze s hs a) ⟨⟨rfl,rfl⟩, ?_⟩)
  refine Ot (p:=(Ak s a).e=0) Bg (fun he=> ?_) fun he=>Dj (p:=(Ak s a).k=5) Bg (fun h5=> ?_) fun h5=> ?_
  ·rw [if_pos he]at hX
   apply Agb
   exact hQ _ _ (hX ▸ Rs he)
  ·rw [if_neg (fun h=>h he),if_pos h5]at hX
   refine Call.use (Agw s hs a w) ⟨⟨rfl,rfl⟩, ?_⟩
   apply Af4
   refine Aec _ _ _ _ _ _ _ _ _ _ _ _ _ _ _ _ ?_
   apply Afz
   have e1:O5 (Ak s a) a=((Ak s a).b:Nat):=by unfold O5;rw [if_pos he]
   rw [e1]
   exact hQ _ _ (hX ▸ Ajy rfl rfl)
  ·rw [if_neg (fun h=>h he),if_neg h5]at hX
   refine(ih w a hw (by rw [hp];omega)).mono fun r g hx=> ?_
   rw [hp]at hx
   have fin:=Sq s m w a ha
   generalize Ec s m w a=x at hx fin hX
   obtain⟨c,e1,e2,e3⟩:=hx
   subst e1;subst e2
   refine⟨⟨rfl,(K9 x).symm⟩,Ot (p:=x.2.2=0) Bg (fun h0=> ?_) fun h0=> ?_⟩
   ·rw [if_pos h0]at hX
    apply Agx
    exact hQ _ _ (hX ▸ Rs h0)
   ·rw [if_neg (fun h=>h h0)]at hX
    have f1:=fin h0
    refine⟨⟨by rw [List.length_map];omega,by rw [List.length_map];omega⟩, ?_⟩
    have e4:(acc.map V.row++[[IV.int .i64 (gI x.1.row 0), .int .i64 (gI x.1.row 1), .int .i64 (gI x.1.row 2), .str (gS x.1.row 3), .sl .any 6 (gR x.1.row 4), .sl .any 7 (gR x.1.row 5)]])=(acc++[x.1]).map V.row:=by rw [Oh];simp
    show Ii s c w 0 0 0 [] 5 0 0 [] [] [] (acc.map V.row++[[IV.int .i64 (gI x.1.row 0), .int .i64 (gI x.1.row 1), .int .i64 (gI x.1.row 2), .str (gS x.1.row 3), .sl .any 6 (gR x.1.row 4), .sl .any 7 (gR x.1.row 5)]]) [] _
    rw [e4,e3 h0]
    exact ihf x.2.1 (acc++[x.1]) f1.2 (by omega) (by omega) (by simp;omega) hX
theorem Bco(m:Nat)(ih:Azt s m)(w:Nat)(hw:w≤64)(a:Nat)(ha:a≤s.length)(h1:s.length<a+m):Call E0.P Q5 [.ptr (.arg 0) 0] (Zx s a w) (RdQ s w (Qz s (Ec s m w) (s.length+1) a [])):=
 Aiq _ _ _ _ (Bc3 s hs m ih w hw a w _ _ (fun _ _ h=>h) (s.length+1) a [] ha h1 (by omega) (by simp) rfl)
theorem Bdb(m:Nat)(ih:Azt s m)(w:Nat)(hw:w≤64)(at0 w0:Int)(Q:QQ)(X:V × Nat × Int)(hQ:∀r h,RdQ s w X r h→Q r h):∀(f a:Nat) (acc:List Pr) (mp:List (List UInt8 × Int)),a≤s.length→s.length<a+m→s.length<a+f→acc.length≤a→A4b mp acc→Q9 s (Ec s m w) f a acc=X→
 Ij s a w 0 0 0 [] 6 0 0 [] mp [] [] [] (acc.map Cm) (Gq s at0 w0 Q):=by
 intro f
 induction f with
 |zero=>intro a acc mp ha h1 h2;omega
 |succ f ihf=>
  intro a acc mp ha h1 h2 hl hmp hX
  have hp:=Un s a ha
  rw [Q9]at hX
  refine Af8 _ _ _ _ _ _ _ _ _ _ _ _ _ _ _ _ _ (Call.use (Bev s hs a w mp) ⟨⟨rfl,rfl⟩, ?_⟩)
  have bad:∀e:Int,e≠0→X=Jp e→Mq (Ak s a) mp=([],false,e)→∀B,Br (!decide (rI (rT (kyA (Mq (Ak s a) mp)) 2)=0)) (Gq s at0 w0 Q .ret ⟨[(2, .ptr (Nm.loc 2) 0),(3, .imm (.int .i64 (rI (rT (kyA (Mq (Ak s a) mp)) 2))))],[(Nm.loc 2, .blk Aa [.imm (.int .i64 0), .imm (.int .i64 0), .imm (.int .i64 0), .imm (.str []), .own (Nm.sub 22 ((Nm.loc 2).cell 4)), .own (Nm.sub 22 ((Nm.loc 2).cell 5))]),(Nm.arg 0, .blk Am [.imm (.str s), .imm (.int .i64 (O5 (Ak s a) a)), .imm (.int .i64 w)]),(Nm.sub 22 ((Nm.loc 2).cell 4), .arr (Aa+2) true 6 []),(Nm.sub 22 ((Nm.loc 2).cell 5), .arr (Ag+2) true 7 [])]⟩) B:=by
   intro e he hx hk B
   rw [hk]
   refine Anl (decide_eq_false he) ?_
   apply Afq
   exact hQ _ _ (hx ▸ Rs he)
  by_cases he:(Ak s a).e=0
  case neg=>
   rw [if_pos he]at hX
   exact bad _ he hX.symm (by unfold Mq;rw [if_pos he]) _
  have e1:O5 (Ak s a) a=((Ak s a).b:Nat):=by unfold O5;rw [if_pos he]
  rw [if_neg (fun h=>h he)]at hX
  by_cases h7:(Ak s a).k=7
  ·rw [if_pos h7]at hX
   have hk:Mq (Ak s a) mp=([],false,0):=by unfold Mq;rw [if_neg (fun h=>h he),if_neg (by rw [h7];decide),if_pos h7]
   rw [hk]
   refine Am8 (by rfl) (Anl rfl ?_)
   apply Af5
   rw [e1]
   exact hQ _ _ (hX ▸ Ajy rfl rfl)
  rw [if_neg h7]at hX
  by_cases h0:(Ak s a).k=0
  ·rw [if_pos h0]at hX
   exact bad 5 (by decide) hX.symm (by unfold Mq;rw [if_neg (fun h=>h he),if_pos h0]) _
  rw [if_neg h0]at hX
  by_cases h2':(Ak s a).k=2
  case neg=>
   rw [if_pos h2']at hX
   exact bad 4 (by decide) hX.symm (by unfold Mq;rw [if_neg (fun h=>h he),if_neg h0,if_neg h7,if_pos h2']) _
  rw [if_neg (fun h=>h h2')]at hX
  by_cases hs':0<Ga mp (Ak s a).s
  ·rw [if_pos ((hmp _).1.1 hs')]at hX
   exact bad 11 (by decide) hX.symm (by unfold Mq;rw [if_neg (fun h=>h he),if_neg h0,if_neg h7,if_neg (fun h=>h h2'),if_pos hs']) _
  rw [if_neg (fun h=>hs' ((hmp _).1.2 h))]at hX
  have hk:Mq (Ak s a) mp=((Ak s a).s,true,0):=by unfold Mq;rw [if_neg (fun h=>h he),if_neg h0,if_neg h7,if_neg (fun h=>h h2'),if_neg hs']
  have hm:Ana (Ak s a) mp=mUp mp (Ak s a).s (IntKind.i64.wrap (Ga mp (Ak s a).s+1)):=by unfold Ana;rw [hk];rfl
  rw [hk,hm,e1]
  refine Am8 (by rfl) (Am8 rfl ?_)
  have f0:=Md s a ha he
  have f01:=f0.2.2 (by rw [h2'];decide)
  have hp2:=Un s (Ak s a).b f0.2.1
  refine(ih w ((Ak s a).b:Nat) hw (by rw [hp2];omega)).mono fun r g hx=> ?_
  rw [hp2]at hx
  have fin:=Sq s m w (Ak s a).b f0.2.1
  generalize Ec s m w (Ak s a).b=x at hx fin hX
  obtain⟨c,g1,g2,g3⟩:=hx
  subst g1;subst g2
  refine⟨⟨rfl,(K9 x).symm⟩,Ot (p:=x.2.2=0) Bg (fun h0=> ?_) fun h0=> ?_⟩
  ·rw [if_pos h0]at hX
   apply Agi
   exact hQ _ _ (hX ▸ Rs h0)
  ·rw [if_neg (fun h=>h h0)]at hX
   have f1:=fin h0
   refine⟨⟨by rw [List.length_map];omega,by rw [List.length_map];omega⟩, ?_⟩
   have e4:(acc.map Cm++[[IV.str (Ak s a).s, .int .i64 (gI x.1.row 0), .int .i64 (gI x.1.row 1), .int .i64 (gI x.1.row 2), .str (gS x.1.row 3), .sl .any 6 (gR x.1.row 4), .sl .any 7 (gR x.1.row 5)]])=(acc++[((Ak s a).s,x.1)]).map Cm:=by
    rw [Oh];simp [Cm]
   show Ij s c w 0 0 0 [] 6 0 0 [] (mUp mp (Ak s a).s (IntKind.i64.wrap (Ga mp (Ak s a).s+1))) [] [] [] (acc.map Cm++[[IV.str (Ak s a).s, .int .i64 (gI x.1.row 0), .int .i64 (gI x.1.row 1), .int .i64 (gI x.1.row 2), .str (gS x.1.row 3), .sl .any 6 (gR x.1.row 4), .sl .any 7 (gR x.1.row 5)]]) _
   rw [e4,g3 h0]
   exact ihf x.2.1 (acc++[((Ak s a).s,x.1)]) _ f1.2 (by omega) (by omega) (by simp;omega) (Bb8 hmp _ _ hs') hX
theorem Bd5(m:Nat)(ih:Azt s m)(w:Nat)(hw:w≤64)(a:Nat)(ha:a≤s.length)(h1:s.length<a+m):Call E0.P Qq [.ptr (.arg 0) 0] (Zx s a w) (RdQ s w (Q9 s (Ec s m w) (s.length+1) a [])):=
 Ah8 _ _ _ _ (Bdb s hs m ih w hw a w _ _ (fun _ _ h=>h) (s.length+1) a [] [] ha h1 (by omega) (by simp) A8k rfl)
theorem Baj:∀m:Nat,Azt s m:=by
 intro m
 induction m with
 |zero=>intro w a hw h;have:=Su s a;omega
 |succ m ih=>
  intro w a hw h
  refine Ag4 _ _ _ _ (Call.use (Agw s hs a w) ⟨⟨rfl,rfl⟩, ?_⟩)
  rw [Ec,Akw]
  refine Ot (p:=(Ak s a).e=0) Bg (fun he=> ?_) fun he=> ?_
  ·rw [if_pos he];exact Rs he
  rw [if_neg (fun h=>h he)]
  have e1:O5 (Ak s a) a=((Ak s a).b:Nat):=by unfold O5;rw [if_pos he]
  rw [e1]
  have f0:=Aqk s a he
  refine Dj (p:=(Ak s a).k=0) Bg (fun h1=> ?_) fun h0=> ?_
  ·rw [if_pos h1];exact Rs (by decide)
  rw [if_neg h0]
  have f01:=f0.2.2 h0
  refine Dj (p:=(Ak s a).k=1) Bg (fun h1=> ?_) fun h1=> ?_
  ·rw [if_pos h1]
   refine(A7s s hs (Ak s a).b f0.2.1 w (Ak s a).n).mono fun r g hx=> ?_
   obtain⟨c,g1,g2,g3⟩:=hx
   subst g1;subst g2
   refine⟨⟨rfl,(K9 _).symm⟩, ?_⟩
   exact⟨c,rfl,K9 _,g3⟩
  rw [if_neg h1]
  refine Dj (p:=(Ak s a).k=2) Bg (fun h2=> ?_) fun h2=> ?_
  ·rw [if_pos h2];exact Ajy rfl rfl
  rw [if_neg h2]
  refine Dj (p:=(Ak s a).k=3) Bg (fun h3=> ?_) fun h3=> ?_
  ·rw [if_pos h3];exact Ajy rfl rfl
  rw [if_neg h3]
  refine Dj (p:=(Ak s a).k=8) Bg (fun h8=> ?_) fun h8=> ?_
  ·rw [if_pos h8]
   refine Call.use (Bb5 (Ak s a).s (Ak s a).b) ⟨⟨rfl,(K9 _).symm⟩, ?_⟩
   exact⟨_,rfl,K9 _,fun h=>(by rw [Axh _ _ h];rfl)⟩
  rw [if_neg h8]
  have wm:IntKind.i64.wrap (((w+1:Nat):Int) - 1)=(w:Int):=by rw [Be _ (by omega) (by omega)];omega
  refine Dj (p:=(Ak s a).k=4) Bg (fun h4=> ?_) fun h4=> ?_
  ·rw [if_pos h4]
   refine Dj (p:=64≤w) (by rw [Bg];show(64:Int)≤(w:Int)↔_;omega) (fun h64=> ?_) fun h64=> ?_
   ·rw [if_pos h64];exact Rs (by decide)
   ·rw [if_neg h64]
    have ew:IntKind.i64.wrap (rI ((Aw (Zx s ((Ak s a).b:Nat) w) (Nm.arg 0)).getD 2 AV.undef)+1)=((w+1:Nat):Int):=Hq w (by omega)
    rw [ew]
    refine(Bco s hs m ih (w+1) (by omega) (Ak s a).b f0.2.1 (by omega)).mono fun r g hx=> ?_
    obtain⟨c,g1,g2,g3⟩:=hx
    subst g1;subst g2
    refine⟨⟨rfl,(K9 _).symm⟩, ?_⟩
    have ew2:IntKind.i64.wrap (rI ((Aw (Zx s c ((w+1:Nat):Int)) (Nm.arg 0)).getD 2 AV.undef) - 1)=(w:Int):=wm
    rw [ew2]
    exact⟨c,rfl,K9 _,g3⟩
  rw [if_neg h4]
  refine Dj (p:=(Ak s a).k=6) Bg (fun h6=> ?_) fun h6=> ?_
  ·rw [if_pos h6]
   refine Dj (p:=64≤w) (by rw [Bg];show(64:Int)≤(w:Int)↔_;omega) (fun h64=> ?_) fun h64=> ?_
   ·rw [if_pos h64];exact Rs (by decide)
   ·rw [if_neg h64]
    have ew:IntKind.i64.wrap (rI ((Aw (Zx s ((Ak s a).b:Nat) w) (Nm.arg 0)).getD 2 AV.undef)+1)=((w+1:Nat):Int):=Hq w (by omega)
    rw [ew]
    refine(Bd5 s hs m ih (w+1) (by omega) (Ak s a).b f0.2.1 (by omega)).mono fun r g hx=> ?_
    obtain⟨c,g1,g2,g3⟩:=hx
    subst g1;subst g2
    refine⟨⟨rfl,(K9 _).symm⟩, ?_⟩
    have ew2:IntKind.i64.wrap (rI ((Aw (Zx s c ((w+1:Nat):Int)) (Nm.arg 0)).getD 2 AV.undef) - 1)=(w:Int):=wm
    rw [ew2]
    exact⟨c,rfl,K9 _,g3⟩
  ·rw [if_neg h6];exact Rs (by decide)
end
end Go.Proofs.Sim.Se

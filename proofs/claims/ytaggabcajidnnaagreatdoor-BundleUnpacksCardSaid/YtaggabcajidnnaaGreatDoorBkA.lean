import Derived.Test.YtaggabcajidnnaaGreatDoorPaL
import Derived.Test.YtaggabcajidnnaaGreatDoorDgM
namespace Go.Proofs.Sim.Pa
open Go Go.Proofs Go.Proofs.Sim Go.Proofs.Sim.Va Go.Proofs.Sim.Se
end Go.Proofs.Sim.Pa
namespace Go.Proofs.Sim.Pa
open Go Go.Proofs Go.Proofs.Sim Go.Proofs.Sim.Va Go.Proofs.Sim.Se
theorem fuel {s:List UInt8} {a m:Nat} {x rest:List UInt8} (hm:s.length<a+m)(h:s.drop a=x++rest)(hx:0<x.length):∃n,m=n+1:=by
 have:=congrArg List.length h
 simp at this
 exact⟨m - 1,by omega⟩
end Go.Proofs.Sim.Pa
namespace Go.Proofs.Sim.Pa
open Go Go.Proofs Go.Proofs.Sim Go.Proofs.Sim.Va Go.Proofs.Sim.Se Go.Proofs.Sim.St
theorem Bv7(N:Nat):∀(l out:List UInt8) (a:Nat),l.length<N→(0:UInt8)∉out→out.length≤127→(0:UInt8)∉(nameL l out a).1∧(nameL l out a).1.length≤127:=by
 induction N with
 |zero=>intro l out a h;cases h
 |succ N ih=>
  intro l out a hN h0 hl
  have bad:(0:UInt8)∉([]:List UInt8)∧([]:List UInt8).length≤127:=⟨by simp,by simp⟩
  cases l with
  |nil=>rw [nameL];exact⟨h0,hl⟩
  |cons c r=>
   have hN':r.length<N:=by simp at hN;omega
   rw [nameL.eq_def]
   simp only
   split
   ·rename_i hk
    split
    ·split
     ·rename_i h l r'
      split
      ·exact bad
      ·rename_i h1
       split
       ·exact bad
       ·rename_i h2
        refine ih r' _ _ (by simp at hN';omega) ?_ (by simp;omega)
        intro hm
        rcases List.mem_append.1 hm with hm |hm
        ·exact h0 hm
        ·rw [List.mem_singleton]at hm
         have e:=congrArg UInt8.toNat hm
         have hv:∀x:UInt8,Cb x≤15:=by intro x;unfold Cb;split<;>(try split)<;>(try split)<;>omega
         have b1:=hv h;have b2:=hv l
         rw [Yc,UInt8.toNat_ofNat']at e
         simp at e
         omega
     ·exact bad
    ·split
     ·exact bad
     ·rename_i h2
      refine ih r _ _ hN' ?_ (by simp;omega)
      intro hm
      rcases List.mem_append.1 hm with hm |hm
      ·exact h0 hm
      ·rw [List.mem_singleton]at hm
       subst hm
       revert hk;decide
   ·exact⟨h0,hl⟩
theorem Bwu:∀(m:Nat) (l out:List UInt8) (d:Int) (a:Nat),out.length≤65535→(Mf m l out d a).1.length≤65535:=by
 intro m
 induction m with
 |zero=>intro l out d a h;rw [Mf];simp
 |succ m ih=>
  intro l out d a h
  cases l with
  |nil=>rw [Mf];simp
  |cons c r=>
   rw [Mf]
   split
   ·split
    ·simp
    ·exact ih _ _ _ _ (by simp;omega)
   ·split
    ·split
     ·simp
     ·split
      ·simp
      ·exact ih _ _ _ _ (by simp;omega)
    ·split
     ·exact h
     ·split
      ·simp
      ·exact ih _ _ _ _ (by simp;omega)
theorem Byp:∀(l:List UInt8) (half:Int) (out:List UInt8) (a:Nat),out.length≤65535→(Rx l half out a).1.length≤65535:=by
 intro l
 induction l with
 |nil=>intro half out a h;rw [Rx];simp
 |cons c r ih=>
  intro half out a h
  rw [Rx]
  split
  ·split
   ·exact h
   ·split
    ·simp
    ·simp;omega
  ·split
   ·split
    ·exact ih _ _ _ h
    ·simp
   ·split
    ·exact ih _ _ _ h
    ·split
     ·simp
     ·exact ih _ _ _ (by simp;omega)
def Bgb(t:Tk):Prop:=t.e=0→(t.k=1→ -2147483647≤t.n∧t.n≤2147483647)∧(t.k=2→(0:UInt8)∉t.s∧t.s.length≤127)∧(t.k=3→t.s.length≤65535)
theorem Az5(e:Int)(h:e≠0):Bgb (Aq4 e):=fun h'=>absurd h' h
theorem Atx(k:Int)(a b:Nat)(h1:k≠1)(h2:k≠2)(h3:k≠3):Bgb ⟨0,k,0,[],a,b⟩:=fun _=>⟨fun h=>absurd h h1,fun h=>absurd h h2,fun h=>absurd h h3⟩
theorem Bct(k:Int)(p:Nat)(x:Part)(hk:k=2∨k=3)(h2:k=2→(0:UInt8)∉x.1∧x.1.length≤127)(h3:k=3→x.1.length≤65535):Bgb (partT k p x):=by
 unfold partT
 split
 ·exact fun _=>⟨fun h=>(by simp only at h;omega),h2,h3⟩
 ·rename_i h;exact Az5 _ h
theorem Bsn(s:List UInt8): -2147483647≤(H5 s).1∧(H5 s).1≤2147483647:=by
 unfold H5
 have:=Blc (I7 s)
 split<;>simp only<;>omega
theorem Bzb(c:UInt8)(r:List UInt8)(p:Nat):Bgb (Qk c r p):=by
 unfold Qk
 split
 ·exact Atx _ _ _ (by decide) (by decide) (by decide)
 split
 ·exact Atx _ _ _ (by decide) (by decide) (by decide)
 split
 ·exact Bct 2 _ _ (.inl rfl) (fun _=>Bv7 _ r [] _ (Nat.lt_succ_self _) (by simp) (by simp)) fun h=>absurd h (by decide)
 split
 ·exact Bct 3 _ _ (.inr rfl) (fun h=>absurd h (by decide)) fun _=>Bwu _ _ _ _ _ (by simp)
 split
 ·split
  ·exact Atx _ _ _ (by decide) (by decide) (by decide)
  ·exact Bct 3 _ _ (.inr rfl) (fun h=>absurd h (by decide)) fun _=>Byp _ _ _ _ (by simp)
 split
 ·split
  ·exact Atx _ _ _ (by decide) (by decide) (by decide)
  ·exact Az5 _ (by decide)
 split
 ·exact Az5 _ (by decide)
 unfold Ng
 split
 ·exact fun _=>⟨fun _=>Bsn _,fun h=>absurd h (by simp),fun h=>absurd h (by simp)⟩
 split
 ·exact Az5 _ (by decide)
 split
 ·exact Az5 _ (by decide)
 ·exact fun _=>⟨fun h=>absurd h (by simp),fun h=>absurd h (by simp),fun h=>absurd h (by simp)⟩
theorem Blh(s:List UInt8)(a:Int):Bgb (Aj s a):=by
 unfold Aj
 split
 ·exact Atx _ _ _ (by decide) (by decide) (by decide)
 ·exact Bzb _ _ _
end Go.Proofs.Sim.Pa

import Derived.Test.YtaggabcajidnnaaGreatDoorPaL
import Derived.Test.YtaggabcajidnnaaGreatDoorDgM
namespace Go.Proofs.Sim.Pa
open Go Go.Proofs Go.Proofs.Sim Go.Proofs.Sim.Va Go.Proofs.Sim.Se
def Vz(r:List UInt8):Prop:=∀c t,r=c::t→kd c≠2
theorem Kc {c:UInt8} (t:List UInt8)(h:kd c≠2):Vz (c::t):=by
 intro d u e;injection e with e1 e2;subst e1;exact h
theorem Ic {s:List UInt8} {a:Nat} {x y:List UInt8} (h:s.drop a=x++y):s.drop (a+x.length)=y:=by
 rw [←List.drop_drop,h,List.drop_left]
theorem Aec {s:List UInt8} {a:Nat} {c:UInt8} {r:List UInt8} (h:s.drop a=c::r):a<s.length:=by
 have:=congrArg List.length h
 simp at this;omega
theorem A8r {s:List UInt8} {a:Nat} (h:a≤s.length):Ol s (a:Int)=a:=by
 unfold Ol
 rw [if_neg (by omega),if_neg (by omega)];omega
theorem Bn9 {c:UInt8} {r:List UInt8} (h0:kd c≠0)(h1:c.toNat≠37):Fj false (c::r)=0:=by
 have e:Nb false c=false:=by unfold Nb;split<;>simp
 rw [Fj,e,if_pos ⟨rfl,h0⟩]
theorem Uy {s:List UInt8} {a:Nat} {c:UInt8} {r:List UInt8} (h:s.drop a=c::r)(h0:kd c≠0)(h1:c.toNat≠37):Ak s (a:Int)=J2 c r a:=by
 have e:Dl s (a:Int)=a:=by rw [Dl,A8r (Nat.le_of_lt (Aec h)),h,Bn9 h0 h1];omega
 rw [Ak,e,h]
theorem Na {s:List UInt8} {a:Nat} {r:List UInt8} (h:s.drop a=32::r):Ak s (a:Int)=Ak s ((a+1:Nat):Int):=by
 have hl:=Aec h
 have h2:s.drop (a+1)=r:=Ic (x:=[32]) h
 have e:Dl s (a:Int)=Dl s ((a+1:Nat):Int):=by
  rw [Dl,Dl,A8r (Nat.le_of_lt hl),A8r hl,h,h2,Fj,if_neg (by decide)]
  show a+(Fj false r+1)=_
  omega
 rw [Ak,Ak,e]
theorem Api:∀n,n<16→Ck (Agx n)=(n:Int):=by decide
theorem Bdp:∀n,n<16→(Agx n).toNat≠62:=by decide
theorem Bj8(n:Nat):Zo (n:Int)=UInt8.ofNat n:=rfl
theorem A6t(c:UInt8):Zo (16*((c.toNat / 16:Nat):Int)+((c.toNat % 16:Nat):Int))=c:=by
 have e:(16*((c.toNat / 16:Nat):Int)+((c.toNat % 16:Nat):Int))=((c.toNat:Nat):Int):=by omega
 rw [e,Bj8,UInt8.ofNat_toNat]
theorem Bb1(c:UInt8):c.toNat / 16<16:=by have:=c.toNat_lt;omega
theorem Bhf(c:UInt8):c.toNat % 16<16:=by omega
theorem ne0 {c:UInt8} (h:c≠0):c.toNat≠0:=fun e=>h (UInt8.toNat_inj.1 e)
theorem Bev(s:List UInt8):∀(rest out:List UInt8) (a:Nat),(0:UInt8)∉s→out.length+s.length≤127→Vz rest→nameL (s.flatMap M9++rest) out a=(out++s,a+(s.flatMap M9).length,0):=by
 induction s with
 |nil=>
  intro rest out a _ _ hr
  rw [List.flatMap_nil,List.nil_append,List.append_nil]
  cases rest with
  |nil=>rfl
  |cons c t=>rw [nameL.eq_def];simp only;rw [if_neg (hr c t rfl)];rfl
 |cons c s ih=>
  intro rest out a h0 hl hr
  have h0':c≠0∧(0:UInt8)∉s:=⟨fun e=>h0 (e ▸ List.mem_cons_self),fun e=>h0 (List.mem_cons_of_mem _ e)⟩
  simp only [List.length_cons]at hl
  rw [List.flatMap_cons,List.append_assoc]
  by_cases hb:Azs c=true
  ·have e:M9 c=[c]:=by rw [M9,if_pos hb]
   have hb':=of_decide_eq_true hb
   rw [e,List.singleton_append,nameL.eq_def]
   simp only
   rw [if_pos (show kd c=2 from hb'.2.2.1),if_neg hb'.2.2.2,if_neg (by omega),ih rest (out++[c]) (a+1) h0'.2 (by simp;omega) hr]
   simp;omega
  ·have e:M9 c=35::Uc c:=by rw [M9,if_neg hb]
   rw [e]
   show nameL (35::Agx (c.toNat / 16)::Agx (c.toNat % 16)::(s.flatMap M9++rest)) out a=_
   rw [nameL,if_pos (by decide),if_pos (by decide),Api _ (Bb1 c),Api _ (Bhf c),if_neg (by have:=ne0 h0'.1;omega),if_neg (by omega),A6t,ih rest (out++[c]) (a+3) h0'.2 (by simp;omega) hr]
   simp [Uc];omega
theorem A5x {c:UInt8} (r:List UInt8)(h1:c.toNat≠10)(h2:c.toNat≠13):Tt (c::r)=0:=by rw [Aed,if_neg h1,if_neg h2]
theorem Bg3 {c:UInt8} (r:List UInt8)(h:c=40∨c=41∨c=92):Al7 (c::r)=some ([c],1):=by
 rcases h with rfl |rfl |rfl<;>rw [Al7,A5x r (by decide) (by decide)]<;>rfl
theorem Bfr(s:List UInt8):∀(m:Nat) (rest out:List UInt8) (a:Nat),s.all Vy=true→(s.flatMap Oc).length<m→out.length+s.length≤65535→Jz m (s.flatMap Oc++41::rest) out 1 a=(out++s,a+(s.flatMap Oc).length+1,0):=by
 induction s with
 |nil=>
  intro m rest out a _ hm _
  rw [List.flatMap_nil,List.nil_append,List.append_nil]
  cases m with
  |zero=>cases hm
  |succ m=>rw [Jz,A5x rest (by decide) (by decide),if_neg (by decide),if_neg (by decide),if_pos (by decide)];rfl
 |cons c s ih=>
  intro m rest out a h0 hm hl
  rw [List.all_cons,Bool.and_eq_true]at h0
  simp only [List.length_cons]at hl
  rw [List.flatMap_cons,List.length_append]at hm
  rw [List.flatMap_cons,List.append_assoc]
  have hc:=of_decide_eq_true h0.1
  cases m with
  |zero=>cases hm
  |succ m=>
  by_cases hb:c=40∨c=41∨c=92
  ·have e:Oc c=[92,c]:=by rw [Oc,if_pos hb]
   rw [e]at hm ⊢
   show Jz (m+1) (92::c::(s.flatMap Oc++41::rest)) out 1 a=_
   rw [Jz,A5x _ (by decide) (by decide),if_neg (by decide),if_pos (by decide),Bg3 _ hb]
   simp only
   rw [if_neg (by simp;omega)]
   show Jz m (s.flatMap Oc++41::rest) (out++[c]) 1 (a+1+1)=_
   rw [ih m rest (out++[c]) (a+1+1) h0.2 (by simp only [List.length_cons,List.length_nil]at hm;omega) (by simp;omega)]
   simp;omega
  ·have e:Oc c=[c]:=by rw [Oc,if_neg hb]
   have h40:c.toNat≠40:=fun h=>hb (.inl (UInt8.toNat_inj.1 h))
   have h41:c.toNat≠41:=fun h=>hb (.inr (.inl (UInt8.toNat_inj.1 h)))
   have h92:c.toNat≠92:=fun h=>hb (.inr (.inr (UInt8.toNat_inj.1 h)))
   rw [e]at hm ⊢
   show Jz (m+1) (c::(s.flatMap Oc++41::rest)) out 1 a=_
   rw [Jz,A5x _ (by omega) (by omega),if_neg (by decide),if_neg h92,if_neg (fun h=>h41 h.1),if_neg (by omega),if_neg h40,if_neg h41,ih m rest (out++[c]) (a+1) h0.2 (by simp only [List.length_cons,List.length_nil]at hm;omega) (by simp;omega)]
   simp;omega
theorem Bhd(s:List UInt8):∀(rest out:List UInt8) (a:Nat),out.length+s.length≤65535→Qr (s.flatMap Uc++62::rest) (-1) out a=(out++s,a+(s.flatMap Uc).length+1,0):=by
 induction s with
 |nil=>intro rest out a _;rw [List.flatMap_nil,List.nil_append,List.append_nil,Qr,if_pos (by decide),if_pos (by decide)];rfl
 |cons c s ih=>
  intro rest out a hl
  simp only [List.length_cons]at hl
  rw [List.flatMap_cons,List.append_assoc]
  show Qr (Agx (c.toNat / 16)::Agx (c.toNat % 16)::(s.flatMap Uc++62::rest)) (-1) out a=_
  rw [Qr,if_neg (Bdp _ (Bb1 c)),Api _ (Bb1 c),if_neg (by omega),if_pos (by decide),Qr,if_neg (Bdp _ (Bhf c)),Api _ (Bhf c),if_neg (by omega),if_neg (by omega),if_neg (by omega),A6t,
   ih rest (out++[c]) (a+1+1) (by simp;omega)]
  simp [Uc];omega
theorem Bfi(w:List UInt8)(rest:List UInt8)(hw:∀c∈w,kd c=2)(hr:Vz rest):Ci 2 (w++rest)=w.length:=by
 induction w with
 |nil=>
  cases rest with
  |nil=>rfl
  |cons c t=>rw [List.nil_append,Ci,if_neg (hr c t rfl)];rfl
 |cons c w ih=>rw [List.cons_append,Ci,if_pos (hw c List.mem_cons_self),ih fun d hd=>hw d (List.mem_cons_of_mem _ hd)];rfl
theorem Bip {c:UInt8} (r:List UInt8)(p:Nat)(h:kd c=2):J2 c r p=Qk (c::r) p:=by
 have ne:∀n:Nat,Z9 (n:Int)≠2→c.toNat≠n:=fun n hn e=>hn (by rw [←h,kd,e])
 rw [J2,if_neg (ne 91 (by decide)),if_neg (ne 93 (by decide)),if_neg (ne 47 (by decide)),if_neg (ne 40 (by decide)),if_neg (ne 60 (by decide)),if_neg (ne 62 (by decide)),if_neg (by rw [h];decide)]
theorem Bej {c:UInt8} (h:Ue c=true):kd c=2:=by
 rw [Si]at h
 unfold kd Z9
 rw [if_neg (by omega),if_neg (by omega)]
theorem Bkx(x:Int):∀c∈Lib.itoa x,kd c=2:=by
 intro c hc
 unfold Lib.itoa at hc
 split at hc
 ·rcases List.mem_cons.1 hc with rfl |hc
  ·decide
  ·exact Bej (Auc _ c hc)
 ·exact Bej (Auc _ c hc)
theorem Bal(x:Int):Lib.itoa x≠[]:=by
 unfold Lib.itoa
 split
 ·simp
 ·exact Azy _
theorem Aix {s:List UInt8} {a:Nat} {w rest:List UInt8} (h:s.drop a=w++rest)(h0:w≠[])(hw:∀c∈w,kd c=2)(hr:Vz rest):Ak s (a:Int)=
 if(Gb w).2=0 then⟨0,1,(Gb w).1,[],a,a+w.length⟩else if(Gb w).2=3 then Agw 3 else if 127<w.length then Agw 8 else⟨0,8,0,w,a,a+w.length⟩:=by
 obtain⟨c,r,rfl⟩:∃c r,w=c::r:=by
  cases w with
  |nil=>exact absurd rfl h0
  |cons c r=>exact⟨c,r,rfl⟩
 have hk:=hw c List.mem_cons_self
 have e1:Ak s (a:Int)=Qk ((c::r)++rest) a:=by
  rw [Uy h (by rw [hk];decide) (by intro e;rw [kd,e]at hk;revert hk;decide),Bip _ _ hk]
  rfl
 have e2:((c::r)++rest).take (c::r).length=c::r:=List.take_left
 rw [e1,Qk,Bfi _ rest hw hr,e2]
theorem Af1 {s:List UInt8} {a:Nat} {x:Int} {rest:List UInt8} (h:s.drop a=Lib.itoa x++rest)(h0: -2147483647≤x)(h1:x≤2147483647)(hr:Vz rest):Ak s (a:Int)=⟨0,1,x,[],a,a+(Lib.itoa x).length⟩:=by
 rw [Aix h (Bal x) (Bkx x) hr,(back x h0 h1).2,if_pos rfl]
theorem Bpq {s:List UInt8} {a:Nat} {rest:List UInt8} (h:s.drop a=82::rest)(hr:Vz rest):Ak s (a:Int)=⟨0,8,0,[82],a,a+1⟩:=by
 rw [Aix (w:=[82]) h (by simp) (by decide) hr];rfl
theorem A2k {s:List UInt8} {a:Nat} {t rest:List UInt8} (h:s.drop a=Cr t++rest)(h0:(0:UInt8)∉t)(hl:t.length≤127)(hr:Vz rest):Ak s (a:Int)=⟨0,2,0,t,a,a+(Cr t).length⟩:=by
 have h':s.drop a=47::(t.flatMap M9++rest):=h
 rw [Uy h' (by decide) (by decide),J2,if_neg (by decide),if_neg (by decide),if_pos (by decide),Bev t rest [] (a+1) h0 (by simpa using hl) hr]
 simp [partT,Cr];omega
theorem Bay {s:List UInt8} {a:Nat} {t rest:List UInt8} (h:s.drop a=Aag t++rest)(hl:t.length≤65535):Ak s (a:Int)=⟨0,3,0,t,a,a+(Aag t).length⟩:=by
 unfold Aag at h ⊢
 by_cases hs:t.all Vy=true
 ·rw [if_pos hs]at h ⊢
  have h':s.drop a=40::(t.flatMap Oc++41::rest):=by rw [h];simp
  rw [Uy h' (by decide) (by decide),J2,if_neg (by decide),if_neg (by decide),if_neg (by decide),if_pos (by decide),Bfr t _ rest [] (a+1) hs (by simp;omega) (by simpa using hl)]
  simp [partT];omega
 ·rw [if_neg hs]at h ⊢
  have h':s.drop a=60::(t.flatMap Uc++62::rest):=by rw [h];simp [Axx]
  have hh:(t.flatMap Uc++62::rest).head?≠some 60:=by
   cases t with
   |nil=>simp
   |cons c t=>
    rw [List.flatMap_cons]
    show some (Agx (c.toNat / 16))≠some 60
    have:∀n,n<16→some (Agx n)≠some 60:=by decide
    exact this _ (Bb1 c)
  rw [Uy h' (by decide) (by decide),J2,if_neg (by decide),if_neg (by decide),if_neg (by decide),if_neg (by decide),if_pos (by decide),if_neg hh,Bhd t rest [] (a+1) (by simpa using hl)]
  simp [partT,Axx];omega
end Go.Proofs.Sim.Pa
namespace Go.Proofs.Sim.Pa
open Go Go.Proofs Go.Proofs.Sim Go.Proofs.Sim.Va Go.Proofs.Sim.Se
theorem Wp {s:List UInt8} {a:Nat} {c:UInt8} {r:List UInt8} (h:s.drop a=c::r):s.drop (a+1)=r:=Ic (x:=[c]) h
theorem Bna {s:List UInt8} {a:Nat} {c d:UInt8} {r:List UInt8} (h:s.drop a=c::d::r):s.drop (a+2)=r:=Ic (x:=[c,d]) h
inductive N8:Nat→V→Prop
 |null (w:Nat):N8 w (.mk 0 0 0 [] [] [])
 |bool (w:Nat) (n:Int) (h:n=0∨n=1):N8 w (.mk 1 n 0 [] [] [])
 |int (w:Nat) (n:Int) (h0: -2147483647≤n) (h1:n≤2147483647):N8 w (.mk 2 n 0 [] [] [])
 |name (w:Nat) (s:List UInt8) (h0:(0:UInt8)∉s) (h1:s.length≤127):N8 w (.mk 3 0 0 s [] [])
 |text (w:Nat) (s:List UInt8) (h1:s.length≤65535):N8 w (.mk 4 0 0 s [] [])
 |list (w:Nat) (l:List V) (hw:w<64) (hl:∀x∈l,N8 (w+1) x):N8 w (.mk 5 0 0 [] l [])
 |dict (w:Nat) (d:List Pr) (hw:w<64) (hk:∀p∈d,¬Jn p.1) (hd:(d.map fun p=>p.1).Nodup) (hl:∀p∈d,N8 (w+1) p.2):N8 w (.mk 6 0 0 [] [] d)
 |link (w:Nat) (n g:Int) (h0:1≤n) (h1:n≤8388607) (h2:0≤g) (h3:g≤65535):N8 w (.mk 7 n g [] [] [])
theorem Bow(l:List Int):Y6 l=0↔∀e∈l,e=0:=by
 induction l with
 |nil=>exact⟨fun _ e h=>(nomatch h),fun _=>rfl⟩
 |cons e l ih=>
  rw [Y6]
  by_cases h:e=0
  ·rw [if_neg (fun h'=>h' h),ih];simp [h]
  ·rw [if_pos h];exact⟨fun h'=>absurd h' h,fun h'=>absurd (h' e List.mem_cons_self) h⟩
theorem Bo0(l:List (Ky × Int)):∀seen:List Ky,Akd seen l=0↔(∀x∈l,¬Jn x.1∧x.1∉seen∧x.2=0)∧(l.map fun x=>x.1).Nodup:=by
 induction l with
 |nil=>intro seen;exact⟨fun _=>⟨fun _ h=>(nomatch h),List.nodup_nil⟩,fun _=>rfl⟩
 |cons x l ih=>
  intro seen
  obtain⟨k,e⟩:=x
  rw [Akd]
  by_cases h1:Jn k∨k∈seen
  ·rw [if_pos h1]
   refine⟨fun h=>absurd h (by decide),fun h=> ?_⟩
   have:=h.1 (k,e) List.mem_cons_self
   exact absurd h1 (not_or.2 ⟨this.1,this.2.1⟩)
  ·rw [if_neg h1]
   by_cases h2:e=0
   ·rw [if_neg (fun h=>h h2),ih,List.map_cons,List.nodup_cons]
    rw [not_or]at h1
    constructor
    ·rintro⟨ha,hb⟩
     refine⟨fun x hx=> ?_, ?_,hb⟩
     ·rcases List.mem_cons.1 hx with rfl |hx
      ·exact⟨h1.1,h1.2,h2⟩
      ·have:=ha x hx
       exact⟨this.1,fun h=>this.2.1 (List.mem_append_left _ h),this.2.2⟩
     ·intro hm
      obtain⟨y,hy,e⟩:=List.mem_map.1 hm
      exact(ha y hy).2.1 (by rw [e];simp)
    ·rintro⟨ha,hb,hc⟩
     refine⟨fun x hx=> ?_,hc⟩
     have:=ha x (List.mem_cons_of_mem _ hx)
     refine⟨this.1,fun h=> ?_,this.2.2⟩
     rcases List.mem_append.1 h with h |h
     ·exact this.2.1 h
     ·rw [List.mem_singleton]at h
      exact hb (List.mem_map.2 ⟨x,hx,h⟩)
   ·rw [if_pos h2]
    exact⟨fun h=>absurd h h2,fun h=>absurd (h.1 (k,e) List.mem_cons_self).2.2 h2⟩
theorem Aic(v:V)(w:Int):Wy v false w=0↔(0≤v.k∧v.k≤7)∧¬He v∧¬(v.k=3∧(0:UInt8)∈v.s)∧¬Oj v∧¬(v.k=3∧127<v.s.length)∧¬(v.k=4∧65535<v.s.length)∧¬((v.k=5∨v.k=6)∧64≤w):=by
 unfold Wy
 split
 ·rename_i h
  refine⟨fun h=>absurd h (by decide),fun h'=> ?_⟩
  rcases h with h |h
  ·omega
  ·omega
 rename_i h
 have hk:0≤v.k∧v.k≤7:=by
  rw [not_or]at h
  have h8:¬v.k=8:=fun e=>h.2 ⟨e,rfl⟩
  omega
 split
 ·rename_i h1
  refine⟨fun h=>absurd h (by decide),fun h'=> ?_⟩
  rcases h1 with h1 |h1
  ·exact absurd h1 h'.2.1
  ·exact absurd h1 h'.2.2.1
 rename_i h1
 rw [not_or]at h1
 split
 ·rename_i h2;exact⟨fun h=>absurd h (by decide),fun h'=>absurd h2 h'.2.2.2.1⟩
 rename_i h2
 split
 ·rename_i h3
  refine⟨fun h=>absurd h (by decide),fun h'=> ?_⟩
  rcases h3 with h3 |h3
  ·exact absurd h3 h'.2.2.2.2.1
  ·exact absurd h3 h'.2.2.2.2.2.1
 rename_i h3
 rw [not_or]at h3
 rw [if_neg (by omega)]
 split
 ·rename_i h4
  exact⟨fun h=>absurd h (by decide),fun h'=>absurd (show(v.k=5∨v.k=6)∧64≤w from ⟨by omega,h4.2⟩) h'.2.2.2.2.2.2⟩
 ·rename_i h4
  exact⟨fun _=>⟨hk,h1.1,h1.2,h2,h3.1,h3.2,fun h=>h4 ⟨by omega,h.2⟩⟩,fun _=>rfl⟩
theorem Ah3(v:V)(w:Int):v.chk false w=0↔Wy v false w=0∧(∀x∈v.l,x.chk false (w+1)=0)∧(∀p∈v.d,¬Jn p.1∧p.2.chk false (w+1)=0)∧(v.d.map fun p=>p.1).Nodup:=by
 have hl:Y6 (v.l.map fun x=>x.chk false (w+1))=0↔∀x∈v.l,x.chk false (w+1)=0:=by rw [Bow];simp
 have hd:Akd [] (v.d.map fun p=>(p.1,p.2.chk false (w+1)))=0↔(∀p∈v.d,¬Jn p.1∧p.2.chk false (w+1)=0)∧(v.d.map fun p=>p.1).Nodup:=by
  rw [Bo0,List.map_map]
  constructor
  ·rintro⟨h1,h2⟩
   refine⟨fun p hp=> ?_,h2⟩
   have:=h1 _ (List.mem_map_of_mem hp)
   exact⟨this.1,this.2.2⟩
  ·rintro⟨h1,h2⟩
   refine⟨fun x hx=> ?_,h2⟩
   obtain⟨p,hp,rfl⟩:=List.mem_map.1 hx
   exact⟨(h1 p hp).1,(fun h=>nomatch h),(h1 p hp).2⟩
 rw [A60]
 by_cases h1:Wy v false w=0
 ·rw [if_neg (fun h=>h h1)]
  by_cases h2:Y6 (v.l.map fun x=>x.chk false (w+1))=0
  ·rw [if_neg (fun h=>h h2),hd]
   exact⟨fun h=>⟨h1,hl.1 h2,h.1,h.2⟩,fun h=>⟨h.2.2.1,h.2.2.2⟩⟩
  ·rw [if_pos h2]
   exact⟨fun h=>absurd h h2,fun h=>absurd (hl.2 h.2.1) h2⟩
 ·rw [if_pos h1]
  exact⟨fun h=>absurd h h1,fun h=>absurd h.1 h1⟩
theorem Aus {w:Nat} {v:V} (h:N8 w v):v.chk false (w:Int)=0:=by
 induction h with
 |null w=>rw [Ah3,Aic];simp [V.k,V.n,V.g,V.s,V.l,V.d,He,Oj]
 |bool w n h=>rw [Ah3,Aic];simp [V.k,V.n,V.g,V.s,V.l,V.d,He,Oj];omega
 |int w n h0 h1=>rw [Ah3,Aic];simp [V.k,V.n,V.g,V.s,V.l,V.d,He,Oj];omega
 |name w s h0 h1=>rw [Ah3,Aic];simp [V.k,V.n,V.g,V.s,V.l,V.d,He,Oj,h0];omega
 |text w s h1=>rw [Ah3,Aic];simp [V.k,V.n,V.g,V.s,V.l,V.d,He,Oj];omega
 |list w l hw hl ih=>
  rw [Ah3,Aic]
  refine⟨?_,fun x hx=>ih x hx,fun p hp=>(nomatch hp),List.nodup_nil⟩
  simp [V.k,V.n,V.g,V.s,V.l,V.d,He,Oj];omega
 |dict w d hw hk hd hl ih=>
  rw [Ah3,Aic]
  refine⟨?_,fun p hp=>(nomatch hp),fun p hp=>⟨hk p hp,ih p hp⟩,hd⟩
  simp [V.k,V.n,V.g,V.s,V.l,V.d,He,Oj];omega
 |link w n g h0 h1 h2 h3=>rw [Ah3,Aic];simp [V.k,V.n,V.g,V.s,V.l,V.d,He,Oj];omega
theorem Bke:∀(N:Nat) (v:V),SizeOf.sizeOf v<N→∀w:Nat,v.chk false (w:Int)=0→N8 w v:=by
 intro N
 induction N with
 |zero=>intro v h;cases h
 |succ N ih=>
  intro v hN w h
  rw [Ah3,Aic]at h
  obtain⟨k,n,g,s,l,d⟩:=v
  obtain⟨⟨hk,hx,h0,ho,h1,h2,h3⟩,hl,hd,hn⟩:=h
  have hl':∀x∈l,N8 (w+1) x:=fun x hx=>ih x (by have:=At2 (k:=k) (n:=n) (g:=g) (s:=s) (d:=d) hx;omega) (w+1) (hl x hx)
  have hd':∀p∈d,N8 (w+1) p.2:=fun p hp=>ih p.2 (by have:=At1 (k:=k) (n:=n) (g:=g) (s:=s) (l:=l) hp;omega) (w+1) (hd p hp).2
  simp only [V.k,V.n,V.g,V.s,V.l,V.d,He,Oj]at hk hx h0 ho h1 h2 h3 hd hn
  obtain⟨x1,hx⟩:=not_or.1 hx
  obtain⟨x2,hx⟩:=not_or.1 hx
  obtain⟨x3,hx⟩:=not_or.1 hx
  obtain⟨x4,x5⟩:=not_or.1 hx
  have xl:k≠5→l=[]:=fun hk=>List.length_eq_zero_iff.1 (Nat.eq_zero_of_not_pos fun h=>x4 ⟨h,hk⟩)
  have xd:¬(k=6∨k=8)→d=[]:=fun hk=>List.length_eq_zero_iff.1 (Nat.eq_zero_of_not_pos fun h=>x5 ⟨h,hk⟩)
  have xs:¬(k=3∨k=4∨k=8)→s=[]:=fun hk=>Classical.byContradiction fun e=>x3 ⟨e,hk⟩
  have xn:¬(k=1∨k=2∨k=7)→n=0:=fun hk=>Classical.byContradiction fun e=>x1 ⟨e,hk⟩
  have xg:k≠7→g=0:=fun hk=>Classical.byContradiction fun e=>x2 ⟨e,hk⟩
  clear x1 x2 x3 x4 x5 ih hl hN
  have hd:=fun p hp=>(hd p hp).1
  have c:k=0∨k=1∨k=2∨k=3∨k=4∨k=5∨k=6∨k=7:=by clear xl xd xs xn xg h0 ho h1 h2 h3;omega
  rcases c with rfl |rfl |rfl |rfl |rfl |rfl |rfl |rfl
  ·rw [xl (by decide),xd (by decide),xs (by decide),xn (by decide),xg (by decide)];exact .null w
  ·rw [xl (by decide),xd (by decide),xs (by decide),xg (by decide)];exact .bool w n (by omega)
  ·rw [xl (by decide),xd (by decide),xs (by decide),xg (by decide)];exact .int w n (by omega) (by omega)
  ·rw [xl (by decide),xd (by decide),xn (by decide),xg (by decide)];exact .name w s (fun h=>h0 ⟨rfl,h⟩) (by omega)
  ·rw [xl (by decide),xd (by decide),xn (by decide),xg (by decide)];exact .text w s (by omega)
  ·rw [xd (by decide),xs (by decide),xn (by decide),xg (by decide)];exact .list w l (by omega) hl'
  ·rw [xl (by decide),xs (by decide),xn (by decide),xg (by decide)];exact .dict w d (by omega) hd hn hd'
  ·rw [xl (by decide),xd (by decide),xs (by decide)];exact .link w n g (by omega) (by omega) (by omega) (by omega)
theorem Blc(v:V)(w:Nat):v.chk false (w:Int)=0↔N8 w v:=⟨Bke _ v (Nat.lt_succ_self _) w,Aus⟩
theorem A3n(l:List V):(V.mk 5 0 0 [] l []).wr=91::(Bi (l.map V.wr)++[93]):=by rw [V3];rfl
theorem A3l(d:List Pr):(V.mk 6 0 0 [] [] d).wr=60::60::(Bi (d.map fun p=>Bi [Cr p.1,p.2.wr])++[62,62]):=by
 rw [V3]
 show [60,60]++Bi ((d.map fun p=>(p.1,p.2.wr)).map fun p=>Bi [Cr p.1,p.2])++[62,62]=_
 rw [List.map_map];rfl
theorem A3m(n g:Int):(V.mk 7 n g [] [] []).wr=Lib.itoa n++32::(Lib.itoa g++[32,82]):=by
 rw [V3]
 show Bi [Lib.itoa n,Lib.itoa g]++[32,82]=_
 rw [Bi,Lib.join_cons];simp [Lib.joinTail]
theorem A9d(n:Int):(V.mk 2 n 0 [] [] []).wr=Lib.itoa n:=by rw [V3];rfl
theorem A3o(s:List UInt8):(V.mk 3 0 0 s [] []).wr=Cr s:=by rw [V3];rfl
theorem A3q(s:List UInt8):(V.mk 4 0 0 s [] []).wr=Aag s:=by rw [V3];rfl
theorem A3p:(V.mk 0 0 0 [] [] []).wr=Auy:=by rw [V3];rfl
theorem A3k(n:Int):(V.mk 1 n 0 [] [] []).wr=if n=1 then A02 else At3:=by rw [V3];rfl
def isR(s:List UInt8)(a:Nat):Prop:=(Ak s a).e=0∧(Ak s a).k=8∧(Ak s a).s=[82]
def Calm(s:List UInt8)(a:Nat):Prop:=Q7 s a=none∧¬isR s a
theorem A6v {s:List UInt8} {a:Nat} (h1:(Ak s a).k≠1)(h8:(Ak s a).k≠8):Calm s a:=
 ⟨by rw [Q7,if_neg (fun h=>h1 h.2)],fun h=>h8 h.2.1⟩
theorem Azw {s:List UInt8} {a:Nat} {r:List UInt8} (h:s.drop a=32::r)(hc:Calm s (a+1)):Calm s a:=by
 unfold Calm Q7 isR at hc ⊢
 rw [Na h];exact hc
theorem A8t {s:List UInt8} {a:Nat} {r:List UInt8} (h:s.drop a=32::r)(m w:Nat):Dk s m w a=Dk s m w (a+1):=by
 cases m with
 |zero=>rfl
 |succ m=>rw [Dk,Dk,Na h]
theorem Axw {w:Nat} {v:V} (hv:N8 w v) {s:List UInt8} {a:Nat} {rest:List UInt8} (h:s.drop a=v.wr++rest)(hr:Vz rest):
 (Ak s a).e=0∧(Ak s a).k≠0∧(Ak s a).k≠5∧(Ak s a).k≠7∧¬isR s a∧((Ak s a).k=1→(v.k=2∧(Ak s a).b=a+v.wr.length)∨¬isR s (Ak s a).b):=by
 cases hv with
 |null w=>
  rw [A3p]at h
  have e:=Aix h (by decide) (by decide) hr
  rw [if_neg (by decide),if_neg (by decide),if_neg (by decide)]at e
  simp [isR,e,Auy]
 |bool w n hn=>
  rw [A3k]at h
  by_cases h1:n=1
  ·rw [if_pos h1]at h
   have e:=Aix h (by decide) (by decide) hr
   rw [if_neg (by decide),if_neg (by decide),if_neg (by decide)]at e
   simp [isR,e,A02]
  ·rw [if_neg h1]at h
   have e:=Aix h (by decide) (by decide) hr
   rw [if_neg (by decide),if_neg (by decide),if_neg (by decide)]at e
   simp [isR,e,At3]
 |int w n h0 h1=>
  rw [A9d]at h ⊢
  have e:=Af1 h h0 h1 hr
  simp [isR,e,V.k]
 |name w t h0 h1=>
  rw [A3o]at h
  have e:=A2k h h0 h1 hr
  simp [isR,e]
 |text w t h1=>
  rw [A3q]at h
  have e:=Bay h h1
  simp [isR,e]
 |list w l hw hl=>
  rw [A3n]at h
  have e:=Uy (c:=91) h (by decide) (by decide)
  rw [J2,if_pos (by decide)]at e
  simp [isR,e]
 |dict w d hw hk hd hl=>
  rw [A3l]at h
  have e:=Uy (c:=60) h (by decide) (by decide)
  rw [J2,if_neg (by decide),if_neg (by decide),if_neg (by decide),if_neg (by decide),if_pos (by decide),if_pos (by rfl)]at e
  simp [isR,e]
 |link w n g h0 h1 h2 h3=>
  rw [A3m,List.append_assoc]at h
  have e:=Af1 h (by omega) (by omega) (Kc _ (by decide))
  have h':=Ic h
  have e2:=Na h'
  have e3:=Af1 (s:=s) (a:=a+(Lib.itoa n).length+1) (x:=g) (rest:=[32,82]++rest) (by have:=Wp h';simpa using this) (by omega) (by omega) (Kc _ (by decide))
  rw [e3]at e2
  refine⟨by rw [e],by simp [e],by simp [e],by simp [e],by simp [isR,e],fun _=> .inr ?_⟩
  rw [e]
  simp only [isR,e2];simp
theorem Bgl {w:Nat} {v:V} (hv:N8 w v) {s:List UInt8} {a:Nat} {rest:List UInt8} (h:s.drop a=v.wr++rest)(hr:Vz rest)(hc:v.k=2→Calm s (a+v.wr.length)):Calm s a:=by
 have t:=Axw hv h hr
 refine⟨?_,t.2.2.2.2.1⟩
 unfold Q7
 split
 ·rename_i h1
  rw [if_neg]
  intro hR
  rcases t.2.2.2.2.2 h1.2 with h2 |h2
  ·rw [h2.2]at hR
   exact(hc h2.1).2 hR
  ·exact h2 hR
 ·rfl
def tailW(l:List V):List UInt8:=(l.map fun v=>32::v.wr).flatten
theorem Aij(v:V)(r:List V):tailW (v::r)=32::v.wr++tailW r:=by simp [tailW]
theorem A35(v:V)(r:List V):Bi ((v::r).map V.wr)=v.wr++tailW r:=by
 rw [Bi,List.map_cons,Lib.join_cons]
 simp [Lib.joinTail,tailW,Function.comp_def]
theorem Af8(l:List V)(rest:List UInt8):Vz (tailW l++93::rest):=by
 cases l with
 |nil=>exact Kc _ (by decide)
 |cons v r=>rw [Aij];exact Kc _ (by decide)
theorem A62 {s:List UInt8} {a:Nat} {rest:List UInt8} (h:s.drop a=93::rest):Ak s (a:Int)=⟨0,5,0,[],a,a+1⟩:=by
 rw [Uy h (by decide) (by decide),J2,if_neg (by decide),if_pos (by decide)]
theorem A4j {w:Nat} {s:List UInt8} {rest:List UInt8} :∀(l:List V) (a:Nat),(∀x∈l,N8 w x)→s.drop a=tailW l++93::rest→Calm s a:=by
 intro l
 induction l with
 |nil=>
  intro a _ h
  have e:=A62 h
  exact A6v (by simp [e]) (by simp [e])
 |cons v r ih=>
  intro a hv h
  rw [Aij,List.cons_append,List.cons_append,List.append_assoc]at h
  have h':=Wp h
  exact Azw h (Bgl (hv v List.mem_cons_self) h' (Af8 r rest) fun _=>ih _ (fun x hx=>hv x (List.mem_cons_of_mem _ hx)) (Ic h'))
def RdB(s:List UInt8)(M:Nat)(rd:Nat→V × Nat × Int)(v:V):Prop:=
 ∀(a:Nat) (rest:List UInt8),s.length<a+M→s.drop a=v.wr++rest→Vz rest→(v.k=2→Q7 s (a+v.wr.length:Nat)=none)→rd a=(v,a+v.wr.length,0)
theorem Adj {w:Nat} {v:V} (hv:N8 w v):0<v.wr.length:=by
 cases hv with
 |null w=>rw [A3p];decide
 |bool w n hn=>rw [A3k];split<;>decide
 |int w n h0 h1=>rw [A9d];exact List.length_pos_iff.2 (Bal n)
 |name w t h0 h1=>rw [A3o];exact Nat.succ_pos _
 |text w t h1=>rw [A3q,Aag];split<;>exact Nat.succ_pos _
 |list w l hw hl=>rw [A3n];exact Nat.succ_pos _
 |dict w d hw hk hd hl=>rw [A3l];exact Nat.succ_pos _
 |link w n g h0 h1 h2 h3=>rw [A3m];simp;omega
theorem A36 {w M:Nat} {s:List UInt8} {rest:List UInt8} {rd:Nat→V × Nat × Int} (hb:∀(a:Nat) (r:List UInt8),s.drop a=32::r→rd a=rd (a+1)):
 ∀(l:List V) (m a:Nat) (acc:List V),(∀x∈l,N8 w x∧RdB s M rd x)→s.drop a=tailW l++93::rest→s.length<a+m→s.length<a+M→Q8 s rd m a acc=(.mk 5 0 0 [] (acc++l) [],a+(tailW l).length+1,0):=by
 intro l
 induction l with
 |nil=>
  intro m a acc _ h hm hM
  have hl:=Aec h
  cases m with
  |zero=>omega
  |succ m=>
  have e:=A62 h
  rw [Q8,e]
  simp [tailW]
 |cons v r ih=>
  intro m a acc hv h hm hM
  rw [Aij,List.cons_append,List.cons_append,List.append_assoc]at h
  have hl:=Aec h
  cases m with
  |zero=>omega
  |succ m=>
  have h':=Wp h
  have hv1:=hv v List.mem_cons_self
  have hvr:∀x∈r,N8 w x∧RdB s M rd x:=fun x hx=>hv x (List.mem_cons_of_mem _ hx)
  have t:=Axw hv1.1 h' (Af8 r rest)
  have hc:=A4j r _ (fun x hx=>(hvr x hx).1) (Ic h')
  have e:rd a=(v,a+1+v.wr.length,0):=by rw [hb a _ h];exact hv1.2 (a+1) _ (by omega) h' (Af8 r rest) fun _=>hc.1
  have wp:=Adj hv1.1
  have t1:(Ak s (a:Int)).e=0:=by rw [Na h];exact t.1
  have t2:(Ak s (a:Int)).k≠5:=by rw [Na h];exact t.2.2.1
  rw [Q8,if_neg (fun h=>h t1),if_neg t2,e]
  simp only
  rw [if_neg (by decide),ih m _ (acc++[v]) hvr (Ic h') (by omega) (by omega),Aij]
  simp;omega
theorem Ben {w M:Nat} {s:List UInt8} {rest:List UInt8} {rd:Nat→V × Nat × Int} (hb:∀(a:Nat) (r:List UInt8),s.drop a=32::r→rd a=rd (a+1))
 (l:List V)(m a:Nat)(hv:∀x∈l,N8 w x∧RdB s M rd x)(h:s.drop a=Bi (l.map V.wr)++93::rest)(hm:s.length<a+m)(hM:s.length<a+M):Q8 s rd m a []=(.mk 5 0 0 [] l [],a+(Bi (l.map V.wr)).length+1,0):=by
 cases l with
 |nil=>exact A36 hb [] m a [] hv h hm hM
 |cons v r=>
  rw [A35,List.append_assoc]at h
  have hl:a<s.length:=by
   have:=congrArg List.length h
   have wp:=Adj (hv v List.mem_cons_self).1
   simp at this;omega
  cases m with
  |zero=>omega
  |succ m=>
  have hv1:=hv v List.mem_cons_self
  have hvr:∀x∈r,N8 w x∧RdB s M rd x:=fun x hx=>hv x (List.mem_cons_of_mem _ hx)
  have t:=Axw hv1.1 h (Af8 r rest)
  have hc:=A4j r _ (fun x hx=>(hvr x hx).1) (Ic h)
  have e:rd a=(v,a+v.wr.length,0):=hv1.2 a _ hM h (Af8 r rest) fun _=>hc.1
  have wp:=Adj hv1.1
  rw [Q8,if_neg (fun h=>h t.1),if_neg t.2.2.1,e]
  simp only
  rw [if_neg (by decide),List.nil_append,A36 hb r m _ [v] hvr (Ic h) (by omega) (by omega),A35]
  simp;omega
def Aac(p:Pr):List UInt8:=Cr p.1++32::p.2.wr
theorem A4c(p:Pr):Bi [Cr p.1,p.2.wr]=Aac p:=by rw [Bi,Lib.join_cons];simp [Lib.joinTail,Aac]
def X8(d:List Pr):List UInt8:=(d.map fun p=>32::Aac p).flatten
theorem Aii(p:Pr)(r:List Pr):X8 (p::r)=32::Aac p++X8 r:=by simp [X8]
theorem Az9(p:Pr)(r:List Pr):Bi ((p::r).map fun p=>Bi [Cr p.1,p.2.wr])=Aac p++X8 r:=by
 rw [Bi,List.map_cons,Lib.join_cons,A4c]
 simp only [Lib.joinTail,X8,List.map_map,Function.comp_def,A4c]
 rfl
theorem Bcu(d:List Pr)(rest:List UInt8):Vz (X8 d++62::62::rest):=by
 cases d with
 |nil=>exact Kc _ (by decide)
 |cons p r=>rw [Aii];exact Kc _ (by decide)
theorem A3v {s:List UInt8} {a:Nat} {rest:List UInt8} (h:s.drop a=62::62::rest):Ak s (a:Int)=⟨0,7,0,[],a,a+2⟩:=by
 rw [Uy h (by decide) (by decide),J2,if_neg (by decide),if_neg (by decide),if_neg (by decide),if_neg (by decide),if_neg (by decide),if_pos (by decide),if_pos (by rfl)]
theorem A7x {s:List UInt8} {a:Nat} {p:Pr} {rest:List UInt8} (hk:¬Jn p.1)(h:s.drop a=Aac p++rest):Ak s (a:Int)=⟨0,2,0,p.1,a,a+(Cr p.1).length⟩:=by
 unfold Jn at hk
 rw [not_or]at hk
 rw [Aac,List.append_assoc]at h
 exact A2k h hk.2 (by omega) (Kc _ (by decide))
theorem Bct {s:List UInt8} {rest:List UInt8} (d:List Pr)(a:Nat)(hk:∀p∈d,¬Jn p.1)(h:s.drop a=X8 d++62::62::rest):Calm s a:=by
 cases d with
 |nil=>
  have e:=A3v h
  exact A6v (by simp [e]) (by simp [e])
 |cons p r=>
  rw [Aii,List.cons_append,List.cons_append,List.append_assoc]at h
  have h':=Wp h
  have e:=A7x (hk p List.mem_cons_self) h'
  exact Azw h (A6v (by rw [e];simp) (by rw [e];simp))
theorem A3x {w M:Nat} {s:List UInt8} {rest:List UInt8} {rd:Nat→V × Nat × Int} (hb:∀(a:Nat) (r:List UInt8),s.drop a=32::r→rd a=rd (a+1))(p:Pr)(r:List Pr)(m a:Nat)(acc:List Pr)(hp:N8 w p.2∧RdB s M rd p.2)
 (hk:∀q∈p::r,¬Jn q.1)(ha:acc.any (fun q=>q.1 == p.1)=false)(t:Tk)(ht:Ak s (a:Int)=t)(t1:t.e=0)(t2:t.k=2)(t3:t.s=p.1)(h:s.drop t.b=32::(p.2.wr++(X8 r++62::62::rest)))(hM:s.length<t.b+1+M):
 P9 s rd (m+1) a acc=P9 s rd m (t.b+1+p.2.wr.length) (acc++[p]):=by
 have h':=Wp h
 have hc:=Bct r _ (fun q hq=>hk q (List.mem_cons_of_mem _ hq)) (Ic h')
 have e:rd t.b=(p.2,t.b+1+p.2.wr.length,0):=by rw [hb _ _ h];exact hp.2 _ _ hM h' (Bcu r rest) fun _=>hc.1
 rw [P9,ht,if_neg (fun h=>h t1),if_neg (by rw [t2];decide),if_neg (by rw [t2];decide),if_neg (fun h=>h t2),t3,ha,if_neg (by decide),e]
 simp only
 rw [if_neg (by decide)]
theorem Bj5 {acc:List Pr} {k:Ky} (h:k∉acc.map fun p=>p.1):acc.any (fun q=>q.1 == k)=false:=by
 rw [List.any_eq_false]
 intro q hq e
 exact h (List.mem_map.2 ⟨q,hq,by simpa using e⟩)
theorem A3y {w M:Nat} {s:List UInt8} {rest:List UInt8} {rd:Nat→V × Nat × Int} (hb:∀(a:Nat) (r:List UInt8),s.drop a=32::r→rd a=rd (a+1)):
 ∀(d:List Pr) (m a:Nat) (acc:List Pr),(∀p∈d,N8 w p.2∧RdB s M rd p.2)→(∀p∈d,¬Jn p.1)→((acc++d).map fun p=>p.1).Nodup→s.drop a=X8 d++62::62::rest→s.length<a+m→s.length<a+M→P9 s rd m a acc=(.mk 6 0 0 [] [] (acc++d),a+(X8 d).length+2,0):=by
 intro d
 induction d with
 |nil=>
  intro m a acc _ _ _ h hm hM
  have hl:=Aec h
  cases m with
  |zero=>omega
  |succ m=>
  have e:=A3v h
  rw [P9,e]
  simp [X8]
 |cons p r ih=>
  intro m a acc hv hk hn h hm hM
  rw [Aii,List.cons_append,List.cons_append,List.append_assoc]at h
  have hl:=Aec h
  cases m with
  |zero=>omega
  |succ m=>
  have h':=Wp h
  have e:=A7x (hk p List.mem_cons_self) h'
  have hn':p.1∉acc.map fun q=>q.1:=by
   intro hm
   rw [List.map_append,List.nodup_append]at hn
   exact hn.2.2 _ hm _ (by simp) rfl
  have h2:s.drop (a+1+(Cr p.1).length)=32::(p.2.wr++(X8 r++62::62::rest)):=by
   have:=h'
   rw [Aac,List.append_assoc]at this
   simpa using Ic this
  have h3:=Ic (x:=32::p.2.wr) h2
  rw [A3x hb p r m a acc (hv p List.mem_cons_self) hk (Bj5 hn') ⟨0,2,0,p.1,a+1,a+1+(Cr p.1).length⟩ (by rw [Na h];exact e) rfl rfl rfl h2 (by simp only;omega)]
  simp only
  rw [ih m _ (acc++[p]) (fun q hq=>hv q (List.mem_cons_of_mem _ hq)) (fun q hq=>hk q (List.mem_cons_of_mem _ hq)) (by simpa using hn) (by
   have e:a+1+(Cr p.1).length+1+p.2.wr.length=a+1+(Cr p.1).length+(32::p.2.wr).length:=by simp;omega
   rw [e];exact h3) (by omega) (by omega),Aii]
  simp [Aac];omega
theorem Bdo {w M:Nat} {s:List UInt8} {rest:List UInt8} {rd:Nat→V × Nat × Int} (hb:∀(a:Nat) (r:List UInt8),s.drop a=32::r→rd a=rd (a+1))
 (d:List Pr)(m a:Nat)(hv:∀p∈d,N8 w p.2∧RdB s M rd p.2)(hk:∀p∈d,¬Jn p.1)(hn:(d.map fun p=>p.1).Nodup)(h:s.drop a=Bi (d.map fun p=>Bi [Cr p.1,p.2.wr])++62::62::rest)(hm:s.length<a+m)(hM:s.length<a+M):
 P9 s rd m a []=(.mk 6 0 0 [] [] d,a+(Bi (d.map fun p=>Bi [Cr p.1,p.2.wr])).length+2,0):=by
 cases d with
 |nil=>exact A3y hb [] m a [] hv hk hn h hm hM
 |cons p r=>
  rw [Az9,List.append_assoc]at h
  have hl:a<s.length:=by
   have:=congrArg List.length h
   simp [Aac,Cr]at this;omega
  cases m with
  |zero=>omega
  |succ m=>
  have e:=A7x (hk p List.mem_cons_self) h
  have h2:s.drop (a+(Cr p.1).length)=32::(p.2.wr++(X8 r++62::62::rest)):=by
   have:=h
   rw [Aac,List.append_assoc]at this
   simpa using Ic this
  have h3:=Ic (x:=32::p.2.wr) h2
  rw [A3x hb p r m a [] (hv p List.mem_cons_self) hk rfl ⟨0,2,0,p.1,a,a+(Cr p.1).length⟩ e rfl rfl rfl h2 (by simp only;omega)]
  simp only
  rw [A3y hb r m _ ([]++[p]) (fun q hq=>hv q (List.mem_cons_of_mem _ hq)) (fun q hq=>hk q (List.mem_cons_of_mem _ hq)) (by simpa using hn) (by
   have e:a+(Cr p.1).length+1+p.2.wr.length=a+(Cr p.1).length+(32::p.2.wr).length:=by simp;omega
   rw [e];exact h3) (by omega) (by omega),Az9]
  simp [Aac];omega
theorem A3j {s:List UInt8} {m w a:Nat} {t:List UInt8} {rest:List UInt8} (h:s.drop a=t++rest)(h0:t≠[])(hw:∀c∈t,kd c=2)(hr:Vz rest)(h1:(Gb t).2≠0)(h2:(Gb t).2≠3)(h3:¬127<t.length):Dk s (m+1) w a=Aik t (a+t.length):=by
 have e:=Aix h h0 hw hr
 rw [if_neg h1,if_neg h2,if_neg h3]at e
 rw [Dk,e];simp only
 rw [if_neg (by decide),if_neg (by decide),if_neg (by decide),if_neg (by decide),if_neg (by decide),if_pos (by decide)]
theorem fuel {s:List UInt8} {a m:Nat} {x rest:List UInt8} (hm:s.length<a+m)(h:s.drop a=x++rest)(hx:0<x.length):∃n,m=n+1:=by
 have:=congrArg List.length h
 simp at this
 exact⟨m - 1,by omega⟩
theorem Bfa {w:Nat} {v:V} (hv:N8 w v):∀(s:List UInt8) (m:Nat),RdB s m (Dk s m w) v:=by
 induction hv with
 |null w=>
  intro s m a rest hm h hr _
  obtain⟨m,rfl⟩:∃n,m=n+1:=fuel hm h (Adj (.null w))
  rw [A3p]at h ⊢
  rw [A3j h (by decide) (by decide) hr (by decide) (by decide) (by decide)];rfl
 |bool w n hn=>
  intro s m a rest hm h hr _
  obtain⟨m,rfl⟩:∃n,m=n+1:=fuel hm h (Adj (.bool w n hn))
  rw [A3k]at h ⊢
  rcases hn with rfl |rfl
  ·rw [if_neg (by decide)]at h ⊢
   rw [A3j h (by decide) (by decide) hr (by decide) (by decide) (by decide)];rfl
  ·rw [if_pos rfl]at h ⊢
   rw [A3j h (by decide) (by decide) hr (by decide) (by decide) (by decide)];rfl
 |int w n h0 h1=>
  intro s m a rest hm h hr hc
  obtain⟨m,rfl⟩:∃n,m=n+1:=fuel hm h (Adj (.int w n h0 h1))
  have hc':=hc rfl
  rw [A9d]at h hc' ⊢
  have e:=Af1 h h0 h1 hr
  rw [Dk,e];simp only
  rw [if_neg (by decide),if_neg (by decide),if_pos (by decide)]
  rw [numL,hc']
 |name w t h0 h1=>
  intro s m a rest hm h hr hc
  obtain⟨m,rfl⟩:∃n,m=n+1:=fuel hm h (Adj (.name w t h0 h1))
  rw [A3o]at h ⊢
  have e:=A2k h h0 h1 hr
  rw [Dk,e];simp only
  rw [if_neg (by decide),if_neg (by decide),if_neg (by decide),if_pos (by decide)]
 |text w t h1=>
  intro s m a rest hm h hr hc
  obtain⟨m,rfl⟩:∃n,m=n+1:=fuel hm h (Adj (.text w t h1))
  rw [A3q]at h ⊢
  have e:=Bay h h1
  rw [Dk,e];simp only
  rw [if_neg (by decide),if_neg (by decide),if_neg (by decide),if_neg (by decide),if_pos (by decide)]
 |list w l hw64 hl ih=>
  intro s m a rest hm h hr hc
  obtain⟨m,rfl⟩:∃n,m=n+1:=fuel hm h (Adj (.list w l hw64 hl))
  rw [A3n]at h ⊢
  have e:=Uy (c:=91) h (by decide) (by decide)
  rw [J2,if_pos (by decide)]at e
  have h':s.drop (a+1)=Bi (l.map V.wr)++93::rest:=by
   have:=Wp h
   simpa using this
  rw [Dk,e];simp only
  rw [if_neg (by decide),if_neg (by decide),if_neg (by decide),if_neg (by decide),if_neg (by decide),if_neg (by decide),if_pos (by decide)]
  rw [if_neg (by omega)]
  rw [Ben (w:=w+1) (rest:=rest) (fun a r hb=>A8t hb _ _) l (s.length+1) (a+1) (fun x hx=>⟨hl x hx,ih x hx s m⟩) h' (by omega) (by omega)]
  simp;omega
 |dict w d hw64 hk hd hl ih=>
  intro s m a rest hm h hr hc
  obtain⟨m,rfl⟩:∃n,m=n+1:=fuel hm h (Adj (.dict w d hw64 hk hd hl))
  rw [A3l]at h ⊢
  have e:=Uy (c:=60) h (by decide) (by decide)
  rw [J2,if_neg (by decide),if_neg (by decide),if_neg (by decide),if_neg (by decide),if_pos (by decide),if_pos (by rfl)]at e
  have h':s.drop (a+2)=Bi (d.map fun p=>Bi [Cr p.1,p.2.wr])++62::62::rest:=by
   have:=Bna h
   simpa using this
  rw [Dk,e];simp only
  rw [if_neg (by decide),if_neg (by decide),if_neg (by decide),if_neg (by decide),if_neg (by decide),if_neg (by decide),if_neg (by decide),if_pos (by decide)]
  rw [if_neg (by omega)]
  rw [Bdo (w:=w+1) (rest:=rest) (fun a r hb=>A8t hb _ _) d (s.length+1) (a+2) (fun x hx=>⟨hl x hx,ih x hx s m⟩) hk hd h' (by omega) (by omega)]
  simp;omega
 |link w n g h0 h1 h2 h3=>
  intro s m a rest hm h hr hc
  obtain⟨m,rfl⟩:∃n,m=n+1:=fuel hm h (Adj (.link w n g h0 h1 h2 h3))
  rw [A3m]at h ⊢
  rw [List.append_assoc]at h
  have e:=Af1 h (by omega) (by omega) (Kc _ (by decide))
  have h4:s.drop (a+(Lib.itoa n).length)=32::(Lib.itoa g++([32,82]++rest)):=by simpa using Ic h
  have h5:=Wp h4
  have e2:=Af1 (a:=a+(Lib.itoa n).length+1) h5 (by omega) (by omega) (Kc _ (by decide))
  have h6:s.drop (a+(Lib.itoa n).length+1+(Lib.itoa g).length)=32::82::rest:=Ic h5
  have h7:=Wp h6
  have e3:=Bpq (a:=a+(Lib.itoa n).length+1+(Lib.itoa g).length+1) h7 hr
  have el:Q7 s ((a+(Lib.itoa n).length:Nat):Int).toNat=some (g,a+(Lib.itoa n).length+1+(Lib.itoa g).length+1+1):=by
   rw [Int.toNat_natCast,Q7,Na h4,e2,if_pos ⟨rfl,rfl⟩]
   simp only
   rw [Na h6,e3,if_pos ⟨rfl,rfl,rfl⟩]
  rw [Int.toNat_natCast]at el
  rw [Dk,e];simp only
  rw [if_neg (by decide),if_neg (by decide),if_pos (by decide)]
  rw [numL,el]
  simp only
  rw [if_neg (by omega)]
  simp;omega
end Go.Proofs.Sim.Pa
namespace Go.Proofs.Sim.Pa
open Go Go.Proofs Go.Proofs.Sim Go.Proofs.Sim.Va Go.Proofs.Sim.Se Go.Proofs.Sim.St
theorem A3w(k:Ky)(l:List Pr):(l.map fun p=>p.1).count k=(F7 pk k l).length:=by
 induction l with
 |nil=>rfl
 |cons p r ih=>
  rw [List.map_cons,List.count_cons,Aeg,ih]
  by_cases h:p.1=k<;>simp [h]
theorem Bcw(l:List Pr):((uniq l).map fun p=>p.1).Nodup:=by
 rw [List.nodup_iff_count]
 intro k
 rw [A3w,Ayq,List.length_take]
 exact Nat.min_le_left ..
theorem A39(l:List Pr):(((uniq l).filter Ut).map fun p=>p.1).Nodup:=(Bcw l).sublist (List.filter_sublist.map _)
theorem A3b {d:List Pr} {p:Pr} (h:p∈Sa d):∃q∈d,p=(q.1,q.2.plain):=by
 obtain⟨q,hq,e⟩:=List.mem_map.1 (Ap8 (List.mem_filter.1 h).1)
 exact⟨q,hq,e.symm⟩
theorem Bcv(l:List Pr):uniq ((uniq l).filter Ut)=(uniq l).filter Ut:=by
 refine(Bly ((Amn l).sublist List.filter_sublist) fun k=> ?_).symm
 refine(List.take_of_length_le ?_).symm
 rw [←A3w]
 exact List.nodup_iff_count.1 (A39 l) k
theorem Blg(l:List V):(V.mk 5 0 0 [] l []).plain= .mk 5 0 0 [] (l.map V.plain) []:=by rw [Eh];rfl
theorem Blh(d:List Pr):(V.mk 6 0 0 [] [] d).plain= .mk 6 0 0 [] [] (Sa d):=by rw [Eh];rfl
theorem Be1 {w:Nat} {v:V} (h:N8 w v):N8 w v.plain:=by
 induction h with
 |null w=>rw [Eh];exact .null w
 |bool w n h=>rw [Eh];exact .bool w n h
 |int w n h0 h1=>rw [Eh];exact .int w n h0 h1
 |name w s h0 h1=>rw [Eh];exact .name w s h0 h1
 |text w s h1=>rw [Eh];exact .text w s h1
 |list w l hw hl ih=>
  rw [Blg]
  refine .list w _ hw fun x hx=> ?_
  obtain⟨y,hy,rfl⟩:=List.mem_map.1 hx
  exact ih y hy
 |dict w d hw hk hd hl ih=>
  rw [Blh]
  refine .dict w _ hw (fun p hp=> ?_) (A39 _) fun p hp=> ?_
  ·obtain⟨q,hq,rfl⟩:=A3b hp;exact hk q hq
  ·obtain⟨q,hq,rfl⟩:=A3b hp;exact ih q hq
 |link w n g h0 h1 h2 h3=>rw [Eh];exact .link w n g h0 h1 h2 h3
theorem Be5 {d:List Pr} (h:∀p∈d,p.2.plain=p.2):Lv d=d:=by
 unfold Lv
 conv=>rhs;rw [←List.map_id d]
 exact List.map_congr_left fun p hp=>by rw [h p hp];rfl
theorem A9t:∀(N:Nat) (v:V),SizeOf.sizeOf v<N→v.plain.plain=v.plain:=by
 intro N
 induction N with
 |zero=>intro v h;cases h
 |succ N ih=>
  intro v hN
  obtain⟨k,n,g,s,l,d⟩:=v
  have hl:(l.map V.plain).map V.plain=l.map V.plain:=by
   rw [List.map_map]
   exact List.map_congr_left fun x hx=>ih x (by have:=At2 (k:=k) (n:=n) (g:=g) (s:=s) (d:=d) hx;omega)
  have hd:Sa (Sa d)=Sa d:=by
   have e:Lv (Sa d)=Sa d:=Be5 fun p hp=>by
    obtain⟨q,hq,rfl⟩:=A3b hp
    exact ih q.2 (by have:=At1 (k:=k) (n:=n) (g:=g) (s:=s) (l:=l) hq;omega)
   unfold Sa at e ⊢
   rw [e,Bcv,List.filter_filter]
   simp
  rw [Eh (.mk k n g s l d)]
  show(Us k n g s (l.map V.plain) (Lv d)).plain=Us k n g s (l.map V.plain) (Lv d)
  unfold Us
  by_cases h1:k=1∨k=2
  ·rw [if_pos h1,Eh];show Us k n 0 [] [] []=_;rw [Us,if_pos h1]
  rw [if_neg h1]
  by_cases h3:k=3∨k=4
  ·rw [if_pos h3,Eh];show Us k 0 0 s [] []=_;rw [Us,if_neg h1,if_pos h3]
  rw [if_neg h3]
  by_cases h5:k=5
  ·rw [if_pos h5,Eh];show Us k 0 0 [] ((l.map V.plain).map V.plain) []=_;rw [Us,if_neg h1,if_neg h3,if_pos h5,hl]
  rw [if_neg h5]
  by_cases h6:k=6
  ·rw [if_pos h6,Eh];show Us k 0 0 [] [] (Lv (Sa d))=_;rw [Us,if_neg h1,if_neg h3,if_neg h5,if_pos h6];show V.mk k 0 0 [] [] (Sa (Sa d))=_;rw [hd];rfl
  rw [if_neg h6]
  by_cases h7:k=7
  ·rw [if_pos h7,Eh];show Us k n g [] [] []=_;rw [Us,if_neg h1,if_neg h3,if_neg h5,if_neg h6,if_pos h7]
  rw [if_neg h7]
  by_cases h8:k=8
  ·rw [if_pos h8,Eh];show Us k 0 0 s [] (Lv (Sa d))=_;rw [Us,if_neg h1,if_neg h3,if_neg h5,if_neg h6,if_neg h7,if_pos h8];show V.mk k 0 0 s [] (Sa (Sa d))=_;rw [hd];rfl
  rw [if_neg h8]
  unfold zero
  rw [Eh];rfl
theorem A9u(v:V):v.plain.plain=v.plain:=A9t _ v (Nat.lt_succ_self _)
theorem Bk1(N:Nat):∀(l out:List UInt8) (a:Nat),l.length<N→(0:UInt8)∉out→out.length≤127→(0:UInt8)∉(nameL l out a).1∧(nameL l out a).1.length≤127:=by
 induction N with
 |zero=>intro l out a h;cases h
 |succ N ih=>
  intro l out a hN h0 hl
  have bad:(0:UInt8)∉([]:List UInt8)∧([]:List UInt8).length≤127:=⟨by simp,by simp⟩
  cases l with
  |nil=>rw [nameL];exact⟨h0,hl⟩
  |cons c r=>
   have hN':r.length<N:=by simp at hN;omega
   rw [nameL.eq_def]
   simp only
   split
   ·rename_i hk
    split
    ·split
     ·rename_i h l r'
      split
      ·exact bad
      ·rename_i h1
       split
       ·exact bad
       ·rename_i h2
        refine ih r' _ _ (by simp at hN';omega) ?_ (by simp;omega)
        intro hm
        rcases List.mem_append.1 hm with hm |hm
        ·exact h0 hm
        ·rw [List.mem_singleton]at hm
         have e:=congrArg UInt8.toNat hm
         have hv:∀x:UInt8,Ck x≤15:=by intro x;unfold Ck;split<;>(try split)<;>(try split)<;>omega
         have b1:=hv h;have b2:=hv l
         rw [Zo,UInt8.toNat_ofNat']at e
         simp at e
         omega
     ·exact bad
    ·split
     ·exact bad
     ·rename_i h2
      refine ih r _ _ hN' ?_ (by simp;omega)
      intro hm
      rcases List.mem_append.1 hm with hm |hm
      ·exact h0 hm
      ·rw [List.mem_singleton]at hm
       subst hm
       revert hk;decide
   ·exact⟨h0,hl⟩
theorem Blv:∀(m:Nat) (l out:List UInt8) (d:Int) (a:Nat),out.length≤65535→(Jz m l out d a).1.length≤65535:=by
 intro m
 induction m with
 |zero=>intro l out d a h;rw [Jz];simp
 |succ m ih=>
  intro l out d a h
  cases l with
  |nil=>rw [Jz];simp
  |cons c r=>
   rw [Jz]
   split
   ·split
    ·simp
    ·exact ih _ _ _ _ (by simp;omega)
   ·split
    ·split
     ·simp
     ·split
      ·simp
      ·exact ih _ _ _ _ (by simp;omega)
    ·split
     ·exact h
     ·split
      ·simp
      ·exact ih _ _ _ _ (by simp;omega)
theorem Bnk:∀(l:List UInt8) (half:Int) (out:List UInt8) (a:Nat),out.length≤65535→(Qr l half out a).1.length≤65535:=by
 intro l
 induction l with
 |nil=>intro half out a h;rw [Qr];simp
 |cons c r ih=>
  intro half out a h
  rw [Qr]
  split
  ·split
   ·exact h
   ·split
    ·simp
    ·simp;omega
  ·split
   ·split
    ·exact ih _ _ _ h
    ·simp
   ·split
    ·exact ih _ _ _ h
    ·split
     ·simp
     ·exact ih _ _ _ (by simp;omega)
def A6k(t:Tk):Prop:=t.e=0→(t.k=1→ -2147483647≤t.n∧t.n≤2147483647)∧(t.k=2→(0:UInt8)∉t.s∧t.s.length≤127)∧(t.k=3→t.s.length≤65535)
theorem At4(e:Int)(h:e≠0):A6k (Agw e):=fun h'=>absurd h' h
theorem Aoj(k:Int)(a b:Nat)(h1:k≠1)(h2:k≠2)(h3:k≠3):A6k ⟨0,k,0,[],a,b⟩:=fun _=>⟨fun h=>absurd h h1,fun h=>absurd h h2,fun h=>absurd h h3⟩
theorem A3g(k:Int)(p:Nat)(x:Part)(hk:k=2∨k=3)(h2:k=2→(0:UInt8)∉x.1∧x.1.length≤127)(h3:k=3→x.1.length≤65535):A6k (partT k p x):=by
 unfold partT
 split
 ·exact fun _=>⟨fun h=>(by simp only at h;omega),h2,h3⟩
 ·rename_i h;exact At4 _ h
theorem Bhr(s:List UInt8): -2147483647≤(Gb s).1∧(Gb s).1≤2147483647:=by
 unfold Gb
 have:=Bag (Qa s)
 split<;>simp only<;>omega
theorem Bob(c:UInt8)(r:List UInt8)(p:Nat):A6k (J2 c r p):=by
 unfold J2
 split
 ·exact Aoj _ _ _ (by decide) (by decide) (by decide)
 split
 ·exact Aoj _ _ _ (by decide) (by decide) (by decide)
 split
 ·exact A3g 2 _ _ (.inl rfl) (fun _=>Bk1 _ r [] _ (Nat.lt_succ_self _) (by simp) (by simp)) fun h=>absurd h (by decide)
 split
 ·exact A3g 3 _ _ (.inr rfl) (fun h=>absurd h (by decide)) fun _=>Blv _ _ _ _ _ (by simp)
 split
 ·split
  ·exact Aoj _ _ _ (by decide) (by decide) (by decide)
  ·exact A3g 3 _ _ (.inr rfl) (fun h=>absurd h (by decide)) fun _=>Bnk _ _ _ _ (by simp)
 split
 ·split
  ·exact Aoj _ _ _ (by decide) (by decide) (by decide)
  ·exact At4 _ (by decide)
 split
 ·exact At4 _ (by decide)
 unfold Qk
 split
 ·exact fun _=>⟨fun _=>Bhr _,fun h=>absurd h (by simp),fun h=>absurd h (by simp)⟩
 split
 ·exact At4 _ (by decide)
 split
 ·exact At4 _ (by decide)
 ·exact fun _=>⟨fun h=>absurd h (by simp),fun h=>absurd h (by simp),fun h=>absurd h (by simp)⟩
theorem Bam(s:List UInt8)(a:Int):A6k (Ak s a):=by
 unfold Ak
 split
 ·exact Aoj _ _ _ (by decide) (by decide) (by decide)
 ·exact Bob _ _ _
end Go.Proofs.Sim.Pa

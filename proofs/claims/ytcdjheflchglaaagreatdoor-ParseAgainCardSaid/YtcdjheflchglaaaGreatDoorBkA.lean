import Derived.Test.YtcdjheflchglaaaGreatDoorPaL
import Derived.Test.YtcdjheflchglaaaGreatDoorDgM
namespace Go.Proofs.Sim.Pa
open Go Go.Proofs Go.Proofs.Sim Go.Proofs.Sim.Va Go.Proofs.Sim.Se
def Td(r:List UInt8):Prop:=∀c t,r=c::t→kd c≠2
theorem Mc {c:UInt8} (t:List UInt8)(h:kd c≠2):Td (c::t):=by
 intro d u e;injection e with e1 e2;subst e1;exact h
theorem Ij {s:List UInt8} {a:Nat} {x y:List UInt8} (h:s.drop a=x++y):s.drop (a+x.length)=y:=by
 rw [←List.drop_drop,h,List.drop_left]
theorem Ael {s:List UInt8} {a:Nat} {c:UInt8} {r:List UInt8} (h:s.drop a=c::r):a<s.length:=by
 have:=congrArg List.length h
 simp at this;omega
theorem Am0 {s:List UInt8} {a:Nat} (h:a≤s.length):M7 s (a:Int)=a:=by
 unfold M7
 rw [if_neg (by omega),if_neg (by omega)];omega
theorem Bb1 {c:UInt8} {r:List UInt8} (h0:kd c≠0)(h1:c.toNat≠37):El false (c::r)=0:=by
 have e:L8 false c=false:=by unfold L8;split<;>simp
 rw [El,e,if_pos ⟨rfl,h0⟩]
theorem R3 {s:List UInt8} {a:Nat} {c:UInt8} {r:List UInt8} (h:s.drop a=c::r)(h0:kd c≠0)(h1:c.toNat≠37):Aj s (a:Int)=Ic c r a:=by
 have e:Dl s (a:Int)=a:=by rw [Dl,Am0 (Nat.le_of_lt (Ael h)),h,Bb1 h0 h1];omega
 rw [Aj,e,h]
theorem L6 {s:List UInt8} {a:Nat} {r:List UInt8} (h:s.drop a=32::r):Aj s (a:Int)=Aj s ((a+1:Nat):Int):=by
 have hl:=Ael h
 have h2:s.drop (a+1)=r:=Ij (x:=[32]) h
 have e:Dl s (a:Int)=Dl s ((a+1:Nat):Int):=by
  rw [Dl,Dl,Am0 (Nat.le_of_lt hl),Am0 hl,h,h2,El,if_neg (by decide)]
  show a+(El false r+1)=_
  omega
 rw [Aj,Aj,e]
theorem A3q {s:List UInt8} {a:Nat} (h:s.drop a=[])(ha:a≤s.length):Aj s (a:Int)=⟨0,0,0,[],a,a⟩:=by
 have e:Dl s (a:Int)=a:=by rw [Dl,Am0 ha,h];rfl
 rw [Aj,e,h]
theorem Ajf:∀n,n<16→Cq (Acv n)=(n:Int):=by decide
theorem A2p:∀n,n<16→(Acv n).toNat≠62:=by decide
theorem A8h(n:Nat):Tu (n:Int)=UInt8.ofNat n:=rfl
theorem Awm(c:UInt8):Tu (16*((c.toNat / 16:Nat):Int)+((c.toNat % 16:Nat):Int))=c:=by
 have e:(16*((c.toNat / 16:Nat):Int)+((c.toNat % 16:Nat):Int))=((c.toNat:Nat):Int):=by omega
 rw [e,A8h,UInt8.ofNat_toNat]
theorem A1c(c:UInt8):c.toNat / 16<16:=by have:=c.toNat_lt;omega
theorem A50(c:UInt8):c.toNat % 16<16:=by omega
theorem ne0 {c:UInt8} (h:c≠0):c.toNat≠0:=fun e=>h (UInt8.toNat_inj.1 e)
theorem A3p(s:List UInt8):∀(rest out:List UInt8) (a:Nat),(0:UInt8)∉s→out.length+s.length≤127→Td rest→nameL (s.flatMap Lx++rest) out a=(out++s,a+(s.flatMap Lx).length,0):=by
 induction s with
 |nil=>
  intro rest out a _ _ hr
  rw [List.flatMap_nil,List.nil_append,List.append_nil]
  cases rest with
  |nil=>rfl
  |cons c t=>rw [nameL.eq_def];simp only;rw [if_neg (hr c t rfl)];rfl
 |cons c s ih=>
  intro rest out a h0 hl hr
  have h0':c≠0∧(0:UInt8)∉s:=⟨fun e=>h0 (e ▸ List.mem_cons_self),fun e=>h0 (List.mem_cons_of_mem _ e)⟩
  simp only [List.length_cons]at hl
  rw [List.flatMap_cons,List.append_assoc]
  by_cases hb:Arc c=true
  ·have e:Lx c=[c]:=by rw [Lx,if_pos hb]
   have hb':=of_decide_eq_true hb
   rw [e,List.singleton_append,nameL.eq_def]
   simp only
   rw [if_pos (show kd c=2 from hb'.2.2.1),if_neg hb'.2.2.2,if_neg (by omega),ih rest (out++[c]) (a+1) h0'.2 (by simp;omega) hr]
   simp;omega
  ·have e:Lx c=35::Rb c:=by rw [Lx,if_neg hb]
   rw [e]
   show nameL (35::Acv (c.toNat / 16)::Acv (c.toNat % 16)::(s.flatMap Lx++rest)) out a=_
   rw [nameL,if_pos (by decide),if_pos (by decide),Ajf _ (A1c c),Ajf _ (A50 c),if_neg (by have:=ne0 h0'.1;omega),if_neg (by omega),Awm,ih rest (out++[c]) (a+3) h0'.2 (by simp;omega) hr]
   simp [Rb];omega
theorem Avx {c:UInt8} (r:List UInt8)(h1:c.toNat≠10)(h2:c.toNat≠13):O1 (c::r)=0:=by rw [Aav,if_neg h1,if_neg h2]
theorem A5p {c:UInt8} (r:List UInt8)(h:c=40∨c=41∨c=92):Acw (c::r)=some ([c],1):=by
 rcases h with rfl |rfl |rfl<;>rw [Acw,Avx r (by decide) (by decide)]<;>rfl
theorem A4h(s:List UInt8):∀(m:Nat) (rest out:List UInt8) (a:Nat),s.all Tc=true→(s.flatMap Mv).length<m→out.length+s.length≤65535→Gw m (s.flatMap Mv++41::rest) out 1 a=(out++s,a+(s.flatMap Mv).length+1,0):=by
 induction s with
 |nil=>
  intro m rest out a _ hm _
  rw [List.flatMap_nil,List.nil_append,List.append_nil]
  cases m with
  |zero=>cases hm
  |succ m=>rw [Gw,Avx rest (by decide) (by decide),if_neg (by decide),if_neg (by decide),if_pos (by decide)];rfl
 |cons c s ih=>
  intro m rest out a h0 hm hl
  rw [List.all_cons,Bool.and_eq_true]at h0
  simp only [List.length_cons]at hl
  rw [List.flatMap_cons,List.length_append]at hm
  rw [List.flatMap_cons,List.append_assoc]
  have hc:=of_decide_eq_true h0.1
  cases m with
  |zero=>cases hm
  |succ m=>
  by_cases hb:c=40∨c=41∨c=92
  ·have e:Mv c=[92,c]:=by rw [Mv,if_pos hb]
   rw [e]at hm ⊢
   show Gw (m+1) (92::c::(s.flatMap Mv++41::rest)) out 1 a=_
   rw [Gw,Avx _ (by decide) (by decide),if_neg (by decide),if_pos (by decide),A5p _ hb]
   simp only
   rw [if_neg (by simp;omega)]
   show Gw m (s.flatMap Mv++41::rest) (out++[c]) 1 (a+1+1)=_
   rw [ih m rest (out++[c]) (a+1+1) h0.2 (by simp only [List.length_cons,List.length_nil]at hm;omega) (by simp;omega)]
   simp;omega
  ·have e:Mv c=[c]:=by rw [Mv,if_neg hb]
   have h40:c.toNat≠40:=fun h=>hb (.inl (UInt8.toNat_inj.1 h))
   have h41:c.toNat≠41:=fun h=>hb (.inr (.inl (UInt8.toNat_inj.1 h)))
   have h92:c.toNat≠92:=fun h=>hb (.inr (.inr (UInt8.toNat_inj.1 h)))
   rw [e]at hm ⊢
   show Gw (m+1) (c::(s.flatMap Mv++41::rest)) out 1 a=_
   rw [Gw,Avx _ (by omega) (by omega),if_neg (by decide),if_neg h92,if_neg (fun h=>h41 h.1),if_neg (by omega),if_neg h40,if_neg h41,ih m rest (out++[c]) (a+1) h0.2 (by simp only [List.length_cons,List.length_nil]at hm;omega) (by simp;omega)]
   simp;omega
theorem A5y(s:List UInt8):∀(rest out:List UInt8) (a:Nat),out.length+s.length≤65535→Li (s.flatMap Rb++62::rest) (-1) out a=(out++s,a+(s.flatMap Rb).length+1,0):=by
 induction s with
 |nil=>intro rest out a _;rw [List.flatMap_nil,List.nil_append,List.append_nil,Li,if_pos (by decide),if_pos (by decide)];rfl
 |cons c s ih=>
  intro rest out a hl
  simp only [List.length_cons]at hl
  rw [List.flatMap_cons,List.append_assoc]
  show Li (Acv (c.toNat / 16)::Acv (c.toNat % 16)::(s.flatMap Rb++62::rest)) (-1) out a=_
  rw [Li,if_neg (A2p _ (A1c c)),Ajf _ (A1c c),if_neg (by omega),if_pos (by decide),Li,if_neg (A2p _ (A50 c)),Ajf _ (A50 c),if_neg (by omega),if_neg (by omega),if_neg (by omega),Awm,
   ih rest (out++[c]) (a+1+1) (by simp;omega)]
  simp [Rb];omega
theorem A4a(w:List UInt8)(rest:List UInt8)(hw:∀c∈w,kd c=2)(hr:Td rest):Ct 2 (w++rest)=w.length:=by
 induction w with
 |nil=>
  cases rest with
  |nil=>rfl
  |cons c t=>rw [List.nil_append,Ct,if_neg (hr c t rfl)];rfl
 |cons c w ih=>rw [List.cons_append,Ct,if_pos (hw c List.mem_cons_self),ih fun d hd=>hw d (List.mem_cons_of_mem _ hd)];rfl
theorem A66 {c:UInt8} (r:List UInt8)(p:Nat)(h:kd c=2):Ic c r p=Nf (c::r) p:=by
 have ne:∀n:Nat,W9 (n:Int)≠2→c.toNat≠n:=fun n hn e=>hn (by rw [←h,kd,e])
 rw [Ic,if_neg (ne 91 (by decide)),if_neg (ne 93 (by decide)),if_neg (ne 47 (by decide)),if_neg (ne 40 (by decide)),if_neg (ne 60 (by decide)),if_neg (ne 62 (by decide)),if_neg (by rw [h];decide)]
theorem A3d {c:UInt8} (h:Re c=true):kd c=2:=by
 rw [Qh]at h
 unfold kd W9
 rw [if_neg (by omega),if_neg (by omega)]
theorem A86(x:Int):∀c∈Lib.itoa x,kd c=2:=by
 intro c hc
 unfold Lib.itoa at hc
 split at hc
 ·rcases List.mem_cons.1 hc with rfl |hc
  ·decide
  ·exact A3d (Ane _ c hc)
 ·exact A3d (Ane _ c hc)
theorem Az0(x:Int):Lib.itoa x≠[]:=by
 unfold Lib.itoa
 split
 ·simp
 ·exact Ari _
theorem Aet {s:List UInt8} {a:Nat} {w rest:List UInt8} (h:s.drop a=w++rest)(h0:w≠[])(hw:∀c∈w,kd c=2)(hr:Td rest):Aj s (a:Int)=
 if(Gc w).2=0 then⟨0,1,(Gc w).1,[],a,a+w.length⟩else if(Gc w).2=3 then Tt 3 else if 127<w.length then Tt 8 else⟨0,8,0,w,a,a+w.length⟩:=by
 obtain⟨c,r,rfl⟩:∃c r,w=c::r:=by
  cases w with
  |nil=>exact absurd rfl h0
  |cons c r=>exact⟨c,r,rfl⟩
 have hk:=hw c List.mem_cons_self
 have e1:Aj s (a:Int)=Nf ((c::r)++rest) a:=by
  rw [R3 h (by rw [hk];decide) (by intro e;rw [kd,e]at hk;revert hk;decide),A66 _ _ hk]
  rfl
 have e2:((c::r)++rest).take (c::r).length=c::r:=List.take_left
 rw [e1,Nf,A4a _ rest hw hr,e2]
theorem Ah7 {s:List UInt8} {a:Nat} {x:Int} {rest:List UInt8} (h:s.drop a=Lib.itoa x++rest)(h0: -2147483647≤x)(h1:x≤2147483647)(hr:Td rest):Aj s (a:Int)=⟨0,1,x,[],a,a+(Lib.itoa x).length⟩:=by
 rw [Aet h (Az0 x) (A86 x) hr,(back x h0 h1).2,if_pos rfl]
theorem Bdg {s:List UInt8} {a:Nat} {rest:List UInt8} (h:s.drop a=82::rest)(hr:Td rest):Aj s (a:Int)=⟨0,8,0,[82],a,a+1⟩:=by
 rw [Aet (w:=[82]) h (by simp) (by decide) hr];rfl
theorem Atk {s:List UInt8} {a:Nat} {t rest:List UInt8} (h:s.drop a=Df t++rest)(h0:(0:UInt8)∉t)(hl:t.length≤127)(hr:Td rest):Aj s (a:Int)=⟨0,2,0,t,a,a+(Df t).length⟩:=by
 have h':s.drop a=47::(t.flatMap Lx++rest):=h
 rw [R3 h' (by decide) (by decide),Ic,if_neg (by decide),if_neg (by decide),if_pos (by decide),A3p t rest [] (a+1) h0 (by simpa using hl) hr]
 simp [partT,Df];omega
theorem A0c {s:List UInt8} {a:Nat} {t rest:List UInt8} (h:s.drop a=Xe t++rest)(hl:t.length≤65535):Aj s (a:Int)=⟨0,3,0,t,a,a+(Xe t).length⟩:=by
 unfold Xe at h ⊢
 by_cases hs:t.all Tc=true
 ·rw [if_pos hs]at h ⊢
  have h':s.drop a=40::(t.flatMap Mv++41::rest):=by rw [h];simp
  rw [R3 h' (by decide) (by decide),Ic,if_neg (by decide),if_neg (by decide),if_neg (by decide),if_pos (by decide),A4h t _ rest [] (a+1) hs (by simp;omega) (by simpa using hl)]
  simp [partT];omega
 ·rw [if_neg hs]at h ⊢
  have h':s.drop a=60::(t.flatMap Rb++62::rest):=by rw [h];simp [Ap9]
  have hh:(t.flatMap Rb++62::rest).head?≠some 60:=by
   cases t with
   |nil=>simp
   |cons c t=>
    rw [List.flatMap_cons]
    show some (Acv (c.toNat / 16))≠some 60
    have:∀n,n<16→some (Acv n)≠some 60:=by decide
    exact this _ (A1c c)
  rw [R3 h' (by decide) (by decide),Ic,if_neg (by decide),if_neg (by decide),if_neg (by decide),if_neg (by decide),if_pos (by decide),if_neg hh,A5y t rest [] (a+1) (by simpa using hl)]
  simp [partT,Ap9];omega
end Go.Proofs.Sim.Pa
namespace Go.Proofs.Sim.Pa
open Go Go.Proofs Go.Proofs.Sim Go.Proofs.Sim.Va Go.Proofs.Sim.Se
theorem Wl {s:List UInt8} {a:Nat} {c:UInt8} {r:List UInt8} (h:s.drop a=c::r):s.drop (a+1)=r:=Ij (x:=[c]) h
theorem Ba8 {s:List UInt8} {a:Nat} {c d:UInt8} {r:List UInt8} (h:s.drop a=c::d::r):s.drop (a+2)=r:=Ij (x:=[c,d]) h
inductive H9:Nat→V→Prop
 |null (w:Nat):H9 w (.mk 0 0 0 [] [] [])
 |bool (w:Nat) (n:Int) (h:n=0∨n=1):H9 w (.mk 1 n 0 [] [] [])
 |int (w:Nat) (n:Int) (h0: -2147483647≤n) (h1:n≤2147483647):H9 w (.mk 2 n 0 [] [] [])
 |name (w:Nat) (s:List UInt8) (h0:(0:UInt8)∉s) (h1:s.length≤127):H9 w (.mk 3 0 0 s [] [])
 |text (w:Nat) (s:List UInt8) (h1:s.length≤65535):H9 w (.mk 4 0 0 s [] [])
 |list (w:Nat) (l:List V) (hw:w<64) (hl:∀x∈l,H9 (w+1) x):H9 w (.mk 5 0 0 [] l [])
 |dict (w:Nat) (d:List Pr) (hw:w<64) (hk:∀p∈d,¬Ii p.1) (hd:(d.map fun p=>p.1).Nodup) (hl:∀p∈d,H9 (w+1) p.2):H9 w (.mk 6 0 0 [] [] d)
 |link (w:Nat) (n g:Int) (h0:1≤n) (h1:n≤8388607) (h2:0≤g) (h3:g≤65535):H9 w (.mk 7 n g [] [] [])
theorem Bcl(l:List Int):X5 l=0↔∀e∈l,e=0:=by
 induction l with
 |nil=>exact⟨fun _ e h=>(nomatch h),fun _=>rfl⟩
 |cons e l ih=>
  rw [X5]
  by_cases h:e=0
  ·rw [if_neg (fun h'=>h' h),ih];simp [h]
  ·rw [if_pos h];exact⟨fun h'=>absurd h' h,fun h'=>absurd (h' e List.mem_cons_self) h⟩
theorem Bcp(l:List (Ky × Int)):∀seen:List Ky,Ahe seen l=0↔(∀x∈l,¬Ii x.1∧x.1∉seen∧x.2=0)∧(l.map fun x=>x.1).Nodup:=by
 induction l with
 |nil=>intro seen;exact⟨fun _=>⟨fun _ h=>(nomatch h),List.nodup_nil⟩,fun _=>rfl⟩
 |cons x l ih=>
  intro seen
  obtain⟨k,e⟩:=x
  rw [Ahe]
  by_cases h1:Ii k∨k∈seen
  ·rw [if_pos h1]
   refine⟨fun h=>absurd h (by decide),fun h=> ?_⟩
   have:=h.1 (k,e) List.mem_cons_self
   exact absurd h1 (not_or.2 ⟨this.1,this.2.1⟩)
  ·rw [if_neg h1]
   by_cases h2:e=0
   ·rw [if_neg (fun h=>h h2),ih,List.map_cons,List.nodup_cons]
    rw [not_or]at h1
    constructor
    ·rintro⟨ha,hb⟩
     refine⟨fun x hx=> ?_, ?_,hb⟩
     ·rcases List.mem_cons.1 hx with rfl |hx
      ·exact⟨h1.1,h1.2,h2⟩
      ·have:=ha x hx
       exact⟨this.1,fun h=>this.2.1 (List.mem_append_left _ h),this.2.2⟩
     ·intro hm
      obtain⟨y,hy,e⟩:=List.mem_map.1 hm
      exact(ha y hy).2.1 (by rw [e];simp)
    ·rintro⟨ha,hb,hc⟩
     refine⟨fun x hx=> ?_,hc⟩
     have:=ha x (List.mem_cons_of_mem _ hx)
     refine⟨this.1,fun h=> ?_,this.2.2⟩
     rcases List.mem_append.1 h with h |h
     ·exact this.2.1 h
     ·rw [List.mem_singleton]at h
      exact hb (List.mem_map.2 ⟨x,hx,h⟩)
   ·rw [if_pos h2]
    exact⟨fun h=>absurd h h2,fun h=>absurd (h.1 (k,e) List.mem_cons_self).2.2 h2⟩
theorem Aea(v:V)(w:Int):X7 v false w=0↔(0≤v.k∧v.k≤7)∧¬Hr v∧¬(v.k=3∧(0:UInt8)∈v.s)∧¬Nt v∧¬(v.k=3∧127<v.s.length)∧¬(v.k=4∧65535<v.s.length)∧¬((v.k=5∨v.k=6)∧64≤w):=by
 unfold X7
 split
 ·rename_i h
  refine⟨fun h=>absurd h (by decide),fun h'=> ?_⟩
  rcases h with h |h
  ·omega
  ·omega
 rename_i h
 have hk:0≤v.k∧v.k≤7:=by
  rw [not_or]at h
  have h8:¬v.k=8:=fun e=>h.2 ⟨e,rfl⟩
  omega
 split
 ·rename_i h1
  refine⟨fun h=>absurd h (by decide),fun h'=> ?_⟩
  rcases h1 with h1 |h1
  ·exact absurd h1 h'.2.1
  ·exact absurd h1 h'.2.2.1
 rename_i h1
 rw [not_or]at h1
 split
 ·rename_i h2;exact⟨fun h=>absurd h (by decide),fun h'=>absurd h2 h'.2.2.2.1⟩
 rename_i h2
 split
 ·rename_i h3
  refine⟨fun h=>absurd h (by decide),fun h'=> ?_⟩
  rcases h3 with h3 |h3
  ·exact absurd h3 h'.2.2.2.2.1
  ·exact absurd h3 h'.2.2.2.2.2.1
 rename_i h3
 rw [not_or]at h3
 rw [if_neg (by omega)]
 split
 ·rename_i h4
  exact⟨fun h=>absurd h (by decide),fun h'=>absurd (show(v.k=5∨v.k=6)∧64≤w from ⟨by omega,h4.2⟩) h'.2.2.2.2.2.2⟩
 ·rename_i h4
  exact⟨fun _=>⟨hk,h1.1,h1.2,h2,h3.1,h3.2,fun h=>h4 ⟨by omega,h.2⟩⟩,fun _=>rfl⟩
theorem Ad3(v:V)(w:Int):v.chk false w=0↔X7 v false w=0∧(∀x∈v.l,x.chk false (w+1)=0)∧(∀p∈v.d,¬Ii p.1∧p.2.chk false (w+1)=0)∧(v.d.map fun p=>p.1).Nodup:=by
 have hl:X5 (v.l.map fun x=>x.chk false (w+1))=0↔∀x∈v.l,x.chk false (w+1)=0:=by rw [Bcl];simp
 have hd:Ahe [] (v.d.map fun p=>(p.1,p.2.chk false (w+1)))=0↔(∀p∈v.d,¬Ii p.1∧p.2.chk false (w+1)=0)∧(v.d.map fun p=>p.1).Nodup:=by
  rw [Bcp,List.map_map]
  constructor
  ·rintro⟨h1,h2⟩
   refine⟨fun p hp=> ?_,h2⟩
   have:=h1 _ (List.mem_map_of_mem hp)
   exact⟨this.1,this.2.2⟩
  ·rintro⟨h1,h2⟩
   refine⟨fun x hx=> ?_,h2⟩
   obtain⟨p,hp,rfl⟩:=List.mem_map.1 hx
   exact⟨(h1 p hp).1,(fun h=>nomatch h),(h1 p hp).2⟩
 rw [A2j]
 by_cases h1:X7 v false w=0
 ·rw [if_neg (fun h=>h h1)]
  by_cases h2:X5 (v.l.map fun x=>x.chk false (w+1))=0
  ·rw [if_neg (fun h=>h h2),hd]
   exact⟨fun h=>⟨h1,hl.1 h2,h.1,h.2⟩,fun h=>⟨h.2.2.1,h.2.2.2⟩⟩
  ·rw [if_pos h2]
   exact⟨fun h=>absurd h h2,fun h=>absurd (hl.2 h.2.1) h2⟩
 ·rw [if_pos h1]
  exact⟨fun h=>absurd h h1,fun h=>absurd h.1 h1⟩
theorem A9j {w:Nat} {v:V} (h:H9 w v):v.chk false (w:Int)=0:=by
 induction h with
 |null w=>rw [Ad3,Aea];simp [V.k,V.n,V.g,V.s,V.l,V.d,Hr,Nt]
 |bool w n h=>rw [Ad3,Aea];simp [V.k,V.n,V.g,V.s,V.l,V.d,Hr,Nt];omega
 |int w n h0 h1=>rw [Ad3,Aea];simp [V.k,V.n,V.g,V.s,V.l,V.d,Hr,Nt];omega
 |name w s h0 h1=>rw [Ad3,Aea];simp [V.k,V.n,V.g,V.s,V.l,V.d,Hr,Nt,h0];omega
 |text w s h1=>rw [Ad3,Aea];simp [V.k,V.n,V.g,V.s,V.l,V.d,Hr,Nt];omega
 |list w l hw hl ih=>
  rw [Ad3,Aea]
  refine⟨?_,fun x hx=>ih x hx,fun p hp=>(nomatch hp),List.nodup_nil⟩
  simp [V.k,V.n,V.g,V.s,V.l,V.d,Hr,Nt];omega
 |dict w d hw hk hd hl ih=>
  rw [Ad3,Aea]
  refine⟨?_,fun p hp=>(nomatch hp),fun p hp=>⟨hk p hp,ih p hp⟩,hd⟩
  simp [V.k,V.n,V.g,V.s,V.l,V.d,Hr,Nt];omega
 |link w n g h0 h1 h2 h3=>rw [Ad3,Aea];simp [V.k,V.n,V.g,V.s,V.l,V.d,Hr,Nt];omega
theorem A8m:∀(N:Nat) (v:V),SizeOf.sizeOf v<N→∀w:Nat,v.chk false (w:Int)=0→H9 w v:=by
 intro N
 induction N with
 |zero=>intro v h;cases h
 |succ N ih=>
  intro v hN w h
  rw [Ad3,Aea]at h
  obtain⟨k,n,g,s,l,d⟩:=v
  obtain⟨⟨hk,hx,h0,ho,h1,h2,h3⟩,hl,hd,hn⟩:=h
  have hl':∀x∈l,H9 (w+1) x:=fun x hx=>ih x (by have:=Am4 (k:=k) (n:=n) (g:=g) (s:=s) (d:=d) hx;omega) (w+1) (hl x hx)
  have hd':∀p∈d,H9 (w+1) p.2:=fun p hp=>ih p.2 (by have:=Am3 (k:=k) (n:=n) (g:=g) (s:=s) (l:=l) hp;omega) (w+1) (hd p hp).2
  simp only [V.k,V.n,V.g,V.s,V.l,V.d,Hr,Nt]at hk hx h0 ho h1 h2 h3 hd hn
  obtain⟨x1,hx⟩:=not_or.1 hx
  obtain⟨x2,hx⟩:=not_or.1 hx
  obtain⟨x3,hx⟩:=not_or.1 hx
  obtain⟨x4,x5⟩:=not_or.1 hx
  have xl:k≠5→l=[]:=fun hk=>List.length_eq_zero_iff.1 (Nat.eq_zero_of_not_pos fun h=>x4 ⟨h,hk⟩)
  have xd:¬(k=6∨k=8)→d=[]:=fun hk=>List.length_eq_zero_iff.1 (Nat.eq_zero_of_not_pos fun h=>x5 ⟨h,hk⟩)
  have xs:¬(k=3∨k=4∨k=8)→s=[]:=fun hk=>Classical.byContradiction fun e=>x3 ⟨e,hk⟩
  have xn:¬(k=1∨k=2∨k=7)→n=0:=fun hk=>Classical.byContradiction fun e=>x1 ⟨e,hk⟩
  have xg:k≠7→g=0:=fun hk=>Classical.byContradiction fun e=>x2 ⟨e,hk⟩
  clear x1 x2 x3 x4 x5 ih hl hN
  have hd:=fun p hp=>(hd p hp).1
  have c:k=0∨k=1∨k=2∨k=3∨k=4∨k=5∨k=6∨k=7:=by clear xl xd xs xn xg h0 ho h1 h2 h3;omega
  rcases c with rfl |rfl |rfl |rfl |rfl |rfl |rfl |rfl
  ·rw [xl (by decide),xd (by decide),xs (by decide),xn (by decide),xg (by decide)];exact .null w
  ·rw [xl (by decide),xd (by decide),xs (by decide),xg (by decide)];exact .bool w n (by omega)
  ·rw [xl (by decide),xd (by decide),xs (by decide),xg (by decide)];exact .int w n (by omega) (by omega)
  ·rw [xl (by decide),xd (by decide),xn (by decide),xg (by decide)];exact .name w s (fun h=>h0 ⟨rfl,h⟩) (by omega)
  ·rw [xl (by decide),xd (by decide),xn (by decide),xg (by decide)];exact .text w s (by omega)
  ·rw [xd (by decide),xs (by decide),xn (by decide),xg (by decide)];exact .list w l (by omega) hl'
  ·rw [xl (by decide),xs (by decide),xn (by decide),xg (by decide)];exact .dict w d (by omega) hd hn hd'
  ·rw [xl (by decide),xd (by decide),xs (by decide)];exact .link w n g (by omega) (by omega) (by omega) (by omega)
theorem A9k(v:V)(w:Nat):v.chk false (w:Int)=0↔H9 w v:=⟨A8m _ v (Nat.lt_succ_self _) w,A9j⟩
theorem Aua(l:List V):(V.mk 5 0 0 [] l []).wr=91::(Ch (l.map V.wr)++[93]):=by rw [Tf];rfl
theorem At8(d:List Pr):(V.mk 6 0 0 [] [] d).wr=60::60::(Ch (d.map fun p=>Ch [Df p.1,p.2.wr])++[62,62]):=by
 rw [Tf]
 show [60,60]++Ch ((d.map fun p=>(p.1,p.2.wr)).map fun p=>Ch [Df p.1,p.2])++[62,62]=_
 rw [List.map_map];rfl
theorem At9(n g:Int):(V.mk 7 n g [] [] []).wr=Lib.itoa n++32::(Lib.itoa g++[32,82]):=by
 rw [Tf]
 show Ch [Lib.itoa n,Lib.itoa g]++[32,82]=_
 rw [Ch,Lib.join_cons];simp [Lib.joinTail]
theorem Ayy(n:Int):(V.mk 2 n 0 [] [] []).wr=Lib.itoa n:=by rw [Tf];rfl
theorem Aub(s:List UInt8):(V.mk 3 0 0 s [] []).wr=Df s:=by rw [Tf];rfl
theorem Aud(s:List UInt8):(V.mk 4 0 0 s [] []).wr=Xe s:=by rw [Tf];rfl
theorem Auc:(V.mk 0 0 0 [] [] []).wr=An1:=by rw [Tf];rfl
theorem At7(n:Int):(V.mk 1 n 0 [] [] []).wr=if n=1 then Asi else Am5:=by rw [Tf];rfl
def isR(s:List UInt8)(a:Nat):Prop:=(Aj s a).e=0∧(Aj s a).k=8∧(Aj s a).s=[82]
def Calm(s:List UInt8)(a:Nat):Prop:=Oo s a=none∧¬isR s a
theorem Awo {s:List UInt8} {a:Nat} (h1:(Aj s a).k≠1)(h8:(Aj s a).k≠8):Calm s a:=
 ⟨by rw [Oo,if_neg (fun h=>h1 h.2)],fun h=>h8 h.2.1⟩
theorem Arh {s:List UInt8} {a:Nat} {r:List UInt8} (h:s.drop a=32::r)(hc:Calm s (a+1)):Calm s a:=by
 unfold Calm Oo isR at hc ⊢
 rw [L6 h];exact hc
theorem Ayb {s:List UInt8} {a:Nat} {r:List UInt8} (h:s.drop a=32::r)(m w:Nat):Cy s m w a=Cy s m w (a+1):=by
 cases m with
 |zero=>rfl
 |succ m=>rw [Cy,Cy,L6 h]
theorem Ap8 {w:Nat} {v:V} (hv:H9 w v) {s:List UInt8} {a:Nat} {rest:List UInt8} (h:s.drop a=v.wr++rest)(hr:Td rest):
 (Aj s a).e=0∧(Aj s a).k≠0∧(Aj s a).k≠5∧(Aj s a).k≠7∧¬isR s a∧((Aj s a).k=1→(v.k=2∧(Aj s a).b=a+v.wr.length)∨¬isR s (Aj s a).b):=by
 cases hv with
 |null w=>
  rw [Auc]at h
  have e:=Aet h (by decide) (by decide) hr
  rw [if_neg (by decide),if_neg (by decide),if_neg (by decide)]at e
  simp [isR,e,An1]
 |bool w n hn=>
  rw [At7]at h
  by_cases h1:n=1
  ·rw [if_pos h1]at h
   have e:=Aet h (by decide) (by decide) hr
   rw [if_neg (by decide),if_neg (by decide),if_neg (by decide)]at e
   simp [isR,e,Asi]
  ·rw [if_neg h1]at h
   have e:=Aet h (by decide) (by decide) hr
   rw [if_neg (by decide),if_neg (by decide),if_neg (by decide)]at e
   simp [isR,e,Am5]
 |int w n h0 h1=>
  rw [Ayy]at h ⊢
  have e:=Ah7 h h0 h1 hr
  simp [isR,e,V.k]
 |name w t h0 h1=>
  rw [Aub]at h
  have e:=Atk h h0 h1 hr
  simp [isR,e]
 |text w t h1=>
  rw [Aud]at h
  have e:=A0c h h1
  simp [isR,e]
 |list w l hw hl=>
  rw [Aua]at h
  have e:=R3 (c:=91) h (by decide) (by decide)
  rw [Ic,if_pos (by decide)]at e
  simp [isR,e]
 |dict w d hw hk hd hl=>
  rw [At8]at h
  have e:=R3 (c:=60) h (by decide) (by decide)
  rw [Ic,if_neg (by decide),if_neg (by decide),if_neg (by decide),if_neg (by decide),if_pos (by decide),if_pos (by rfl)]at e
  simp [isR,e]
 |link w n g h0 h1 h2 h3=>
  rw [At9,List.append_assoc]at h
  have e:=Ah7 h (by omega) (by omega) (Mc _ (by decide))
  have h':=Ij h
  have e2:=L6 h'
  have e3:=Ah7 (s:=s) (a:=a+(Lib.itoa n).length+1) (x:=g) (rest:=[32,82]++rest) (by have:=Wl h';simpa using this) (by omega) (by omega) (Mc _ (by decide))
  rw [e3]at e2
  refine⟨by rw [e],by simp [e],by simp [e],by simp [e],by simp [isR,e],fun _=> .inr ?_⟩
  rw [e]
  simp only [isR,e2];simp
theorem A46 {w:Nat} {v:V} (hv:H9 w v) {s:List UInt8} {a:Nat} {rest:List UInt8} (h:s.drop a=v.wr++rest)(hr:Td rest)(hc:v.k=2→Calm s (a+v.wr.length)):Calm s a:=by
 have t:=Ap8 hv h hr
 refine⟨?_,t.2.2.2.2.1⟩
 unfold Oo
 split
 ·rename_i h1
  rw [if_neg]
  intro hR
  rcases t.2.2.2.2.2 h1.2 with h2 |h2
  ·rw [h2.2]at hR
   exact(hc h2.1).2 hR
  ·exact h2 hR
 ·rfl
def tailW(l:List V):List UInt8:=(l.map fun v=>32::v.wr).flatten
theorem Aeh(v:V)(r:List V):tailW (v::r)=32::v.wr++tailW r:=by simp [tailW]
theorem Auq(v:V)(r:List V):Ch ((v::r).map V.wr)=v.wr++tailW r:=by
 rw [Ch,List.map_cons,Lib.join_cons]
 simp [Lib.joinTail,tailW,Function.comp_def]
theorem Acd(l:List V)(rest:List UInt8):Td (tailW l++93::rest):=by
 cases l with
 |nil=>exact Mc _ (by decide)
 |cons v r=>rw [Aeh];exact Mc _ (by decide)
theorem Awt {s:List UInt8} {a:Nat} {rest:List UInt8} (h:s.drop a=93::rest):Aj s (a:Int)=⟨0,5,0,[],a,a+1⟩:=by
 rw [R3 h (by decide) (by decide),Ic,if_neg (by decide),if_pos (by decide)]
theorem Au2 {w:Nat} {s:List UInt8} {rest:List UInt8} :∀(l:List V) (a:Nat),(∀x∈l,H9 w x)→s.drop a=tailW l++93::rest→Calm s a:=by
 intro l
 induction l with
 |nil=>
  intro a _ h
  have e:=Awt h
  exact Awo (by simp [e]) (by simp [e])
 |cons v r ih=>
  intro a hv h
  rw [Aeh,List.cons_append,List.cons_append,List.append_assoc]at h
  have h':=Wl h
  exact Arh h (A46 (hv v List.mem_cons_self) h' (Acd r rest) fun _=>ih _ (fun x hx=>hv x (List.mem_cons_of_mem _ hx)) (Ij h'))
def RdB(s:List UInt8)(M:Nat)(rd:Nat→V × Nat × Int)(v:V):Prop:=
 ∀(a:Nat) (rest:List UInt8),s.length<a+M→s.drop a=v.wr++rest→Td rest→(v.k=2→Oo s (a+v.wr.length:Nat)=none)→rd a=(v,a+v.wr.length,0)
theorem Z7 {w:Nat} {v:V} (hv:H9 w v):0<v.wr.length:=by
 cases hv with
 |null w=>rw [Auc];decide
 |bool w n hn=>rw [At7];split<;>decide
 |int w n h0 h1=>rw [Ayy];exact List.length_pos_iff.2 (Az0 n)
 |name w t h0 h1=>rw [Aub];exact Nat.succ_pos _
 |text w t h1=>rw [Aud,Xe];split<;>exact Nat.succ_pos _
 |list w l hw hl=>rw [Aua];exact Nat.succ_pos _
 |dict w d hw hk hd hl=>rw [At8];exact Nat.succ_pos _
 |link w n g h0 h1 h2 h3=>rw [At9];simp;omega
theorem Aur {w M:Nat} {s:List UInt8} {rest:List UInt8} {rd:Nat→V × Nat × Int} (hb:∀(a:Nat) (r:List UInt8),s.drop a=32::r→rd a=rd (a+1)):
 ∀(l:List V) (m a:Nat) (acc:List V),(∀x∈l,H9 w x∧RdB s M rd x)→s.drop a=tailW l++93::rest→s.length<a+m→s.length<a+M→I8 s rd m a acc=(.mk 5 0 0 [] (acc++l) [],a+(tailW l).length+1,0):=by
 intro l
 induction l with
 |nil=>
  intro m a acc _ h hm hM
  have hl:=Ael h
  cases m with
  |zero=>omega
  |succ m=>
  have e:=Awt h
  rw [I8,e]
  simp [tailW]
 |cons v r ih=>
  intro m a acc hv h hm hM
  rw [Aeh,List.cons_append,List.cons_append,List.append_assoc]at h
  have hl:=Ael h
  cases m with
  |zero=>omega
  |succ m=>
  have h':=Wl h
  have hv1:=hv v List.mem_cons_self
  have hvr:∀x∈r,H9 w x∧RdB s M rd x:=fun x hx=>hv x (List.mem_cons_of_mem _ hx)
  have t:=Ap8 hv1.1 h' (Acd r rest)
  have hc:=Au2 r _ (fun x hx=>(hvr x hx).1) (Ij h')
  have e:rd a=(v,a+1+v.wr.length,0):=by rw [hb a _ h];exact hv1.2 (a+1) _ (by omega) h' (Acd r rest) fun _=>hc.1
  have wp:=Z7 hv1.1
  have t1:(Aj s (a:Int)).e=0:=by rw [L6 h];exact t.1
  have t2:(Aj s (a:Int)).k≠5:=by rw [L6 h];exact t.2.2.1
  rw [I8,if_neg (fun h=>h t1),if_neg t2,e]
  simp only
  rw [if_neg (by decide),ih m _ (acc++[v]) hvr (Ij h') (by omega) (by omega),Aeh]
  simp;omega
theorem A3h {w M:Nat} {s:List UInt8} {rest:List UInt8} {rd:Nat→V × Nat × Int} (hb:∀(a:Nat) (r:List UInt8),s.drop a=32::r→rd a=rd (a+1))
 (l:List V)(m a:Nat)(hv:∀x∈l,H9 w x∧RdB s M rd x)(h:s.drop a=Ch (l.map V.wr)++93::rest)(hm:s.length<a+m)(hM:s.length<a+M):I8 s rd m a []=(.mk 5 0 0 [] l [],a+(Ch (l.map V.wr)).length+1,0):=by
 cases l with
 |nil=>exact Aur hb [] m a [] hv h hm hM
 |cons v r=>
  rw [Auq,List.append_assoc]at h
  have hl:a<s.length:=by
   have:=congrArg List.length h
   have wp:=Z7 (hv v List.mem_cons_self).1
   simp at this;omega
  cases m with
  |zero=>omega
  |succ m=>
  have hv1:=hv v List.mem_cons_self
  have hvr:∀x∈r,H9 w x∧RdB s M rd x:=fun x hx=>hv x (List.mem_cons_of_mem _ hx)
  have t:=Ap8 hv1.1 h (Acd r rest)
  have hc:=Au2 r _ (fun x hx=>(hvr x hx).1) (Ij h)
  have e:rd a=(v,a+v.wr.length,0):=hv1.2 a _ hM h (Acd r rest) fun _=>hc.1
  have wp:=Z7 hv1.1
  rw [I8,if_neg (fun h=>h t.1),if_neg t.2.2.1,e]
  simp only
  rw [if_neg (by decide),List.nil_append,Aur hb r m _ [v] hvr (Ij h) (by omega) (by omega),Auq]
  simp;omega
def Xb(p:Pr):List UInt8:=Df p.1++32::p.2.wr
theorem Auw(p:Pr):Ch [Df p.1,p.2.wr]=Xb p:=by rw [Ch,Lib.join_cons];simp [Lib.joinTail,Xb]
def U8(d:List Pr):List UInt8:=(d.map fun p=>32::Xb p).flatten
theorem Aeg(p:Pr)(r:List Pr):U8 (p::r)=32::Xb p++U8 r:=by simp [U8]
theorem Aru(p:Pr)(r:List Pr):Ch ((p::r).map fun p=>Ch [Df p.1,p.2.wr])=Xb p++U8 r:=by
 rw [Ch,List.map_cons,Lib.join_cons,Auw]
 simp only [Lib.joinTail,U8,List.map_map,Function.comp_def,Auw]
 rfl
theorem A1z(d:List Pr)(rest:List UInt8):Td (U8 d++62::62::rest):=by
 cases d with
 |nil=>exact Mc _ (by decide)
 |cons p r=>rw [Aeg];exact Mc _ (by decide)
theorem Aug {s:List UInt8} {a:Nat} {rest:List UInt8} (h:s.drop a=62::62::rest):Aj s (a:Int)=⟨0,7,0,[],a,a+2⟩:=by
 rw [R3 h (by decide) (by decide),Ic,if_neg (by decide),if_neg (by decide),if_neg (by decide),if_neg (by decide),if_neg (by decide),if_pos (by decide),if_pos (by rfl)]
theorem Axp {s:List UInt8} {a:Nat} {p:Pr} {rest:List UInt8} (hk:¬Ii p.1)(h:s.drop a=Xb p++rest):Aj s (a:Int)=⟨0,2,0,p.1,a,a+(Df p.1).length⟩:=by
 unfold Ii at hk
 rw [not_or]at hk
 rw [Xb,List.append_assoc]at h
 exact Atk h hk.2 (by omega) (Mc _ (by decide))
theorem A1y {s:List UInt8} {rest:List UInt8} (d:List Pr)(a:Nat)(hk:∀p∈d,¬Ii p.1)(h:s.drop a=U8 d++62::62::rest):Calm s a:=by
 cases d with
 |nil=>
  have e:=Aug h
  exact Awo (by simp [e]) (by simp [e])
 |cons p r=>
  rw [Aeg,List.cons_append,List.cons_append,List.append_assoc]at h
  have h':=Wl h
  have e:=Axp (hk p List.mem_cons_self) h'
  exact Arh h (Awo (by rw [e];simp) (by rw [e];simp))
theorem Aui {w M:Nat} {s:List UInt8} {rest:List UInt8} {rd:Nat→V × Nat × Int} (hb:∀(a:Nat) (r:List UInt8),s.drop a=32::r→rd a=rd (a+1))(p:Pr)(r:List Pr)(m a:Nat)(acc:List Pr)(hp:H9 w p.2∧RdB s M rd p.2)
 (hk:∀q∈p::r,¬Ii q.1)(ha:acc.any (fun q=>q.1 == p.1)=false)(t:Tk)(ht:Aj s (a:Int)=t)(t1:t.e=0)(t2:t.k=2)(t3:t.s=p.1)(h:s.drop t.b=32::(p.2.wr++(U8 r++62::62::rest)))(hM:s.length<t.b+1+M):
 Im s rd (m+1) a acc=Im s rd m (t.b+1+p.2.wr.length) (acc++[p]):=by
 have h':=Wl h
 have hc:=A1y r _ (fun q hq=>hk q (List.mem_cons_of_mem _ hq)) (Ij h')
 have e:rd t.b=(p.2,t.b+1+p.2.wr.length,0):=by rw [hb _ _ h];exact hp.2 _ _ hM h' (A1z r rest) fun _=>hc.1
 rw [Im,ht,if_neg (fun h=>h t1),if_neg (by rw [t2];decide),if_neg (by rw [t2];decide),if_neg (fun h=>h t2),t3,ha,if_neg (by decide),e]
 simp only
 rw [if_neg (by decide)]
theorem A8g {acc:List Pr} {k:Ky} (h:k∉acc.map fun p=>p.1):acc.any (fun q=>q.1 == k)=false:=by
 rw [List.any_eq_false]
 intro q hq e
 exact h (List.mem_map.2 ⟨q,hq,by simpa using e⟩)
theorem Auj {w M:Nat} {s:List UInt8} {rest:List UInt8} {rd:Nat→V × Nat × Int} (hb:∀(a:Nat) (r:List UInt8),s.drop a=32::r→rd a=rd (a+1)):
 ∀(d:List Pr) (m a:Nat) (acc:List Pr),(∀p∈d,H9 w p.2∧RdB s M rd p.2)→(∀p∈d,¬Ii p.1)→((acc++d).map fun p=>p.1).Nodup→s.drop a=U8 d++62::62::rest→s.length<a+m→s.length<a+M→Im s rd m a acc=(.mk 6 0 0 [] [] (acc++d),a+(U8 d).length+2,0):=by
 intro d
 induction d with
 |nil=>
  intro m a acc _ _ _ h hm hM
  have hl:=Ael h
  cases m with
  |zero=>omega
  |succ m=>
  have e:=Aug h
  rw [Im,e]
  simp [U8]
 |cons p r ih=>
  intro m a acc hv hk hn h hm hM
  rw [Aeg,List.cons_append,List.cons_append,List.append_assoc]at h
  have hl:=Ael h
  cases m with
  |zero=>omega
  |succ m=>
  have h':=Wl h
  have e:=Axp (hk p List.mem_cons_self) h'
  have hn':p.1∉acc.map fun q=>q.1:=by
   intro hm
   rw [List.map_append,List.nodup_append]at hn
   exact hn.2.2 _ hm _ (by simp) rfl
  have h2:s.drop (a+1+(Df p.1).length)=32::(p.2.wr++(U8 r++62::62::rest)):=by
   have:=h'
   rw [Xb,List.append_assoc]at this
   simpa using Ij this
  have h3:=Ij (x:=32::p.2.wr) h2
  rw [Aui hb p r m a acc (hv p List.mem_cons_self) hk (A8g hn') ⟨0,2,0,p.1,a+1,a+1+(Df p.1).length⟩ (by rw [L6 h];exact e) rfl rfl rfl h2 (by simp only;omega)]
  simp only
  rw [ih m _ (acc++[p]) (fun q hq=>hv q (List.mem_cons_of_mem _ hq)) (fun q hq=>hk q (List.mem_cons_of_mem _ hq)) (by simpa using hn) (by
   have e:a+1+(Df p.1).length+1+p.2.wr.length=a+1+(Df p.1).length+(32::p.2.wr).length:=by simp;omega
   rw [e];exact h3) (by omega) (by omega),Aeg]
  simp [Xb];omega
theorem A2o {w M:Nat} {s:List UInt8} {rest:List UInt8} {rd:Nat→V × Nat × Int} (hb:∀(a:Nat) (r:List UInt8),s.drop a=32::r→rd a=rd (a+1))
 (d:List Pr)(m a:Nat)(hv:∀p∈d,H9 w p.2∧RdB s M rd p.2)(hk:∀p∈d,¬Ii p.1)(hn:(d.map fun p=>p.1).Nodup)(h:s.drop a=Ch (d.map fun p=>Ch [Df p.1,p.2.wr])++62::62::rest)(hm:s.length<a+m)(hM:s.length<a+M):
 Im s rd m a []=(.mk 6 0 0 [] [] d,a+(Ch (d.map fun p=>Ch [Df p.1,p.2.wr])).length+2,0):=by
 cases d with
 |nil=>exact Auj hb [] m a [] hv hk hn h hm hM
 |cons p r=>
  rw [Aru,List.append_assoc]at h
  have hl:a<s.length:=by
   have:=congrArg List.length h
   simp [Xb,Df]at this;omega
  cases m with
  |zero=>omega
  |succ m=>
  have e:=Axp (hk p List.mem_cons_self) h
  have h2:s.drop (a+(Df p.1).length)=32::(p.2.wr++(U8 r++62::62::rest)):=by
   have:=h
   rw [Xb,List.append_assoc]at this
   simpa using Ij this
  have h3:=Ij (x:=32::p.2.wr) h2
  rw [Aui hb p r m a [] (hv p List.mem_cons_self) hk rfl ⟨0,2,0,p.1,a,a+(Df p.1).length⟩ e rfl rfl rfl h2 (by simp only;omega)]
  simp only
  rw [Auj hb r m _ ([]++[p]) (fun q hq=>hv q (List.mem_cons_of_mem _ hq)) (fun q hq=>hk q (List.mem_cons_of_mem _ hq)) (by simpa using hn) (by
   have e:a+(Df p.1).length+1+p.2.wr.length=a+(Df p.1).length+(32::p.2.wr).length:=by simp;omega
   rw [e];exact h3) (by omega) (by omega),Aru]
  simp [Xb];omega
theorem At6 {s:List UInt8} {m w a:Nat} {t:List UInt8} {rest:List UInt8} (h:s.drop a=t++rest)(h0:t≠[])(hw:∀c∈t,kd c=2)(hr:Td rest)(h1:(Gc t).2≠0)(h2:(Gc t).2≠3)(h3:¬127<t.length):Cy s (m+1) w a=Te t (a+t.length):=by
 have e:=Aet h h0 hw hr
 rw [if_neg h1,if_neg h2,if_neg h3]at e
 rw [Cy,e];simp only
 rw [if_neg (by decide),if_neg (by decide),if_neg (by decide),if_neg (by decide),if_neg (by decide),if_pos (by decide)]
theorem fuel {s:List UInt8} {a m:Nat} {x rest:List UInt8} (hm:s.length<a+m)(h:s.drop a=x++rest)(hx:0<x.length):∃n,m=n+1:=by
 have:=congrArg List.length h
 simp at this
 exact⟨m - 1,by omega⟩
theorem A31 {w:Nat} {v:V} (hv:H9 w v):∀(s:List UInt8) (m:Nat),RdB s m (Cy s m w) v:=by
 induction hv with
 |null w=>
  intro s m a rest hm h hr _
  obtain⟨m,rfl⟩:∃n,m=n+1:=fuel hm h (Z7 (.null w))
  rw [Auc]at h ⊢
  rw [At6 h (by decide) (by decide) hr (by decide) (by decide) (by decide)];rfl
 |bool w n hn=>
  intro s m a rest hm h hr _
  obtain⟨m,rfl⟩:∃n,m=n+1:=fuel hm h (Z7 (.bool w n hn))
  rw [At7]at h ⊢
  rcases hn with rfl |rfl
  ·rw [if_neg (by decide)]at h ⊢
   rw [At6 h (by decide) (by decide) hr (by decide) (by decide) (by decide)];rfl
  ·rw [if_pos rfl]at h ⊢
   rw [At6 h (by decide) (by decide) hr (by decide) (by decide) (by decide)];rfl
 |int w n h0 h1=>
  intro s m a rest hm h hr hc
  obtain⟨m,rfl⟩:∃n,m=n+1:=fuel hm h (Z7 (.int w n h0 h1))
  have hc':=hc rfl
  rw [Ayy]at h hc' ⊢
  have e:=Ah7 h h0 h1 hr
  rw [Cy,e];simp only
  rw [if_neg (by decide),if_neg (by decide),if_pos (by decide)]
  rw [numL,hc']
 |name w t h0 h1=>
  intro s m a rest hm h hr hc
  obtain⟨m,rfl⟩:∃n,m=n+1:=fuel hm h (Z7 (.name w t h0 h1))
  rw [Aub]at h ⊢
  have e:=Atk h h0 h1 hr
  rw [Cy,e];simp only
  rw [if_neg (by decide),if_neg (by decide),if_neg (by decide),if_pos (by decide)]
 |text w t h1=>
  intro s m a rest hm h hr hc
  obtain⟨m,rfl⟩:∃n,m=n+1:=fuel hm h (Z7 (.text w t h1))
  rw [Aud]at h ⊢
  have e:=A0c h h1
  rw [Cy,e];simp only
  rw [if_neg (by decide),if_neg (by decide),if_neg (by decide),if_neg (by decide),if_pos (by decide)]
 |list w l hw64 hl ih=>
  intro s m a rest hm h hr hc
  obtain⟨m,rfl⟩:∃n,m=n+1:=fuel hm h (Z7 (.list w l hw64 hl))
  rw [Aua]at h ⊢
  have e:=R3 (c:=91) h (by decide) (by decide)
  rw [Ic,if_pos (by decide)]at e
  have h':s.drop (a+1)=Ch (l.map V.wr)++93::rest:=by
   have:=Wl h
   simpa using this
  rw [Cy,e];simp only
  rw [if_neg (by decide),if_neg (by decide),if_neg (by decide),if_neg (by decide),if_neg (by decide),if_neg (by decide),if_pos (by decide)]
  rw [if_neg (by omega)]
  rw [A3h (w:=w+1) (rest:=rest) (fun a r hb=>Ayb hb _ _) l (s.length+1) (a+1) (fun x hx=>⟨hl x hx,ih x hx s m⟩) h' (by omega) (by omega)]
  simp;omega
 |dict w d hw64 hk hd hl ih=>
  intro s m a rest hm h hr hc
  obtain⟨m,rfl⟩:∃n,m=n+1:=fuel hm h (Z7 (.dict w d hw64 hk hd hl))
  rw [At8]at h ⊢
  have e:=R3 (c:=60) h (by decide) (by decide)
  rw [Ic,if_neg (by decide),if_neg (by decide),if_neg (by decide),if_neg (by decide),if_pos (by decide),if_pos (by rfl)]at e
  have h':s.drop (a+2)=Ch (d.map fun p=>Ch [Df p.1,p.2.wr])++62::62::rest:=by
   have:=Ba8 h
   simpa using this
  rw [Cy,e];simp only
  rw [if_neg (by decide),if_neg (by decide),if_neg (by decide),if_neg (by decide),if_neg (by decide),if_neg (by decide),if_neg (by decide),if_pos (by decide)]
  rw [if_neg (by omega)]
  rw [A2o (w:=w+1) (rest:=rest) (fun a r hb=>Ayb hb _ _) d (s.length+1) (a+2) (fun x hx=>⟨hl x hx,ih x hx s m⟩) hk hd h' (by omega) (by omega)]
  simp;omega
 |link w n g h0 h1 h2 h3=>
  intro s m a rest hm h hr hc
  obtain⟨m,rfl⟩:∃n,m=n+1:=fuel hm h (Z7 (.link w n g h0 h1 h2 h3))
  rw [At9]at h ⊢
  rw [List.append_assoc]at h
  have e:=Ah7 h (by omega) (by omega) (Mc _ (by decide))
  have h4:s.drop (a+(Lib.itoa n).length)=32::(Lib.itoa g++([32,82]++rest)):=by simpa using Ij h
  have h5:=Wl h4
  have e2:=Ah7 (a:=a+(Lib.itoa n).length+1) h5 (by omega) (by omega) (Mc _ (by decide))
  have h6:s.drop (a+(Lib.itoa n).length+1+(Lib.itoa g).length)=32::82::rest:=Ij h5
  have h7:=Wl h6
  have e3:=Bdg (a:=a+(Lib.itoa n).length+1+(Lib.itoa g).length+1) h7 hr
  have el:Oo s ((a+(Lib.itoa n).length:Nat):Int).toNat=some (g,a+(Lib.itoa n).length+1+(Lib.itoa g).length+1+1):=by
   rw [Int.toNat_natCast,Oo,L6 h4,e2,if_pos ⟨rfl,rfl⟩]
   simp only
   rw [L6 h6,e3,if_pos ⟨rfl,rfl,rfl⟩]
  rw [Int.toNat_natCast]at el
  rw [Cy,e];simp only
  rw [if_neg (by decide),if_neg (by decide),if_pos (by decide)]
  rw [numL,el]
  simp only
  rw [if_neg (by omega)]
  simp;omega
end Go.Proofs.Sim.Pa
namespace Go.Proofs.Sim.Pa
open Go Go.Proofs Go.Proofs.Sim Go.Proofs.Sim.Va Go.Proofs.Sim.Se Go.Proofs.Sim.St
theorem Auh(k:Ky)(l:List Pr):(l.map fun p=>p.1).count k=(Jl pk k l).length:=by
 induction l with
 |nil=>rfl
 |cons p r ih=>
  rw [List.map_cons,List.count_cons,Aay,ih]
  by_cases h:p.1=k<;>simp [h]
theorem A11(l:List Pr):((uniq l).map fun p=>p.1).Nodup:=by
 rw [List.nodup_iff_count]
 intro k
 rw [Auh,Ayt,List.length_take]
 exact Nat.min_le_left ..
theorem Auu(l:List Pr):(((uniq l).filter Ud).map fun p=>p.1).Nodup:=(A11 l).sublist (List.filter_sublist.map _)
theorem Atz {d:List Pr} {p:Pr} (h:p∈S9 d):∃q∈d,p=(q.1,q.2.plain):=by
 obtain⟨q,hq,e⟩:=List.mem_map.1 (Aj6 (List.mem_filter.1 h).1)
 exact⟨q,hq,e.symm⟩
theorem A10(l:List Pr):uniq ((uniq l).filter Ud)=(uniq l).filter Ud:=by
 refine(A92 ((Apc l).sublist List.filter_sublist) fun k=> ?_).symm
 refine(List.take_of_length_le ?_).symm
 rw [←Auh]
 exact List.nodup_iff_count.1 (Auu l) k
theorem A9n(l:List V):(V.mk 5 0 0 [] l []).plain= .mk 5 0 0 [] (l.map V.plain) []:=by rw [Fg];rfl
theorem A9o(d:List Pr):(V.mk 6 0 0 [] [] d).plain= .mk 6 0 0 [] [] (S9 d):=by rw [Fg];rfl
theorem A3w {w:Nat} {v:V} (h:H9 w v):H9 w v.plain:=by
 induction h with
 |null w=>rw [Fg];exact .null w
 |bool w n h=>rw [Fg];exact .bool w n h
 |int w n h0 h1=>rw [Fg];exact .int w n h0 h1
 |name w s h0 h1=>rw [Fg];exact .name w s h0 h1
 |text w s h1=>rw [Fg];exact .text w s h1
 |list w l hw hl ih=>
  rw [A9n]
  refine .list w _ hw fun x hx=> ?_
  obtain⟨y,hy,rfl⟩:=List.mem_map.1 hx
  exact ih y hy
 |dict w d hw hk hd hl ih=>
  rw [A9o]
  refine .dict w _ hw (fun p hp=> ?_) (Auu _) fun p hp=> ?_
  ·obtain⟨q,hq,rfl⟩:=Atz hp;exact hk q hq
  ·obtain⟨q,hq,rfl⟩:=Atz hp;exact ih q hq
 |link w n g h0 h1 h2 h3=>rw [Fg];exact .link w n g h0 h1 h2 h3
theorem Bbu {d:List Pr} (h:∀p∈d,p.2.plain=p.2):M6 d=d:=by
 unfold M6
 conv=>rhs;rw [←List.map_id d]
 exact List.map_congr_left fun p hp=>by rw [h p hp];rfl
theorem Azb:∀(N:Nat) (v:V),SizeOf.sizeOf v<N→v.plain.plain=v.plain:=by
 intro N
 induction N with
 |zero=>intro v h;cases h
 |succ N ih=>
  intro v hN
  obtain⟨k,n,g,s,l,d⟩:=v
  have hl:(l.map V.plain).map V.plain=l.map V.plain:=by
   rw [List.map_map]
   exact List.map_congr_left fun x hx=>ih x (by have:=Am4 (k:=k) (n:=n) (g:=g) (s:=s) (d:=d) hx;omega)
  have hd:S9 (S9 d)=S9 d:=by
   have e:M6 (S9 d)=S9 d:=Bbu fun p hp=>by
    obtain⟨q,hq,rfl⟩:=Atz hp
    exact ih q.2 (by have:=Am3 (k:=k) (n:=n) (g:=g) (s:=s) (l:=l) hq;omega)
   unfold S9 at e ⊢
   rw [e,A10,List.filter_filter]
   simp
  rw [Fg (.mk k n g s l d)]
  show(Rv k n g s (l.map V.plain) (M6 d)).plain=Rv k n g s (l.map V.plain) (M6 d)
  unfold Rv
  by_cases h1:k=1∨k=2
  ·rw [if_pos h1,Fg];show Rv k n 0 [] [] []=_;rw [Rv,if_pos h1]
  rw [if_neg h1]
  by_cases h3:k=3∨k=4
  ·rw [if_pos h3,Fg];show Rv k 0 0 s [] []=_;rw [Rv,if_neg h1,if_pos h3]
  rw [if_neg h3]
  by_cases h5:k=5
  ·rw [if_pos h5,Fg];show Rv k 0 0 [] ((l.map V.plain).map V.plain) []=_;rw [Rv,if_neg h1,if_neg h3,if_pos h5,hl]
  rw [if_neg h5]
  by_cases h6:k=6
  ·rw [if_pos h6,Fg];show Rv k 0 0 [] [] (M6 (S9 d))=_;rw [Rv,if_neg h1,if_neg h3,if_neg h5,if_pos h6];show V.mk k 0 0 [] [] (S9 (S9 d))=_;rw [hd];rfl
  rw [if_neg h6]
  by_cases h7:k=7
  ·rw [if_pos h7,Fg];show Rv k n g [] [] []=_;rw [Rv,if_neg h1,if_neg h3,if_neg h5,if_neg h6,if_pos h7]
  rw [if_neg h7]
  by_cases h8:k=8
  ·rw [if_pos h8,Fg];show Rv k 0 0 s [] (M6 (S9 d))=_;rw [Rv,if_neg h1,if_neg h3,if_neg h5,if_neg h6,if_neg h7,if_pos h8];show V.mk k 0 0 s [] (S9 (S9 d))=_;rw [hd];rfl
  rw [if_neg h8]
  unfold zero
  rw [Fg];rfl
theorem Azc(v:V):v.plain.plain=v.plain:=Azb _ v (Nat.lt_succ_self _)
theorem A9a(N:Nat):∀(l out:List UInt8) (a:Nat),l.length<N→(0:UInt8)∉out→out.length≤127→(0:UInt8)∉(nameL l out a).1∧(nameL l out a).1.length≤127:=by
 induction N with
 |zero=>intro l out a h;cases h
 |succ N ih=>
  intro l out a hN h0 hl
  have bad:(0:UInt8)∉([]:List UInt8)∧([]:List UInt8).length≤127:=⟨by simp,by simp⟩
  cases l with
  |nil=>rw [nameL];exact⟨h0,hl⟩
  |cons c r=>
   have hN':r.length<N:=by simp at hN;omega
   rw [nameL.eq_def]
   simp only
   split
   ·rename_i hk
    split
    ·split
     ·rename_i h l r'
      split
      ·exact bad
      ·rename_i h1
       split
       ·exact bad
       ·rename_i h2
        refine ih r' _ _ (by simp at hN';omega) ?_ (by simp;omega)
        intro hm
        rcases List.mem_append.1 hm with hm |hm
        ·exact h0 hm
        ·rw [List.mem_singleton]at hm
         have e:=congrArg UInt8.toNat hm
         have hv:∀x:UInt8,Cq x≤15:=by intro x;unfold Cq;split<;>(try split)<;>(try split)<;>omega
         have b1:=hv h;have b2:=hv l
         rw [Tu,UInt8.toNat_ofNat']at e
         simp at e
         omega
     ·exact bad
    ·split
     ·exact bad
     ·rename_i h2
      refine ih r _ _ hN' ?_ (by simp;omega)
      intro hm
      rcases List.mem_append.1 hm with hm |hm
      ·exact h0 hm
      ·rw [List.mem_singleton]at hm
       subst hm
       revert hk;decide
   ·exact⟨h0,hl⟩
theorem A9z:∀(m:Nat) (l out:List UInt8) (d:Int) (a:Nat),out.length≤65535→(Gw m l out d a).1.length≤65535:=by
 intro m
 induction m with
 |zero=>intro l out d a h;rw [Gw];simp
 |succ m ih=>
  intro l out d a h
  cases l with
  |nil=>rw [Gw];simp
  |cons c r=>
   rw [Gw]
   split
   ·split
    ·simp
    ·exact ih _ _ _ _ (by simp;omega)
   ·split
    ·split
     ·simp
     ·split
      ·simp
      ·exact ih _ _ _ _ (by simp;omega)
    ·split
     ·exact h
     ·split
      ·simp
      ·exact ih _ _ _ _ (by simp;omega)
theorem Bbh:∀(l:List UInt8) (half:Int) (out:List UInt8) (a:Nat),out.length≤65535→(Li l half out a).1.length≤65535:=by
 intro l
 induction l with
 |nil=>intro half out a h;rw [Li];simp
 |cons c r ih=>
  intro half out a h
  rw [Li]
  split
  ·split
   ·exact h
   ·split
    ·simp
    ·simp;omega
  ·split
   ·split
    ·exact ih _ _ _ h
    ·simp
   ·split
    ·exact ih _ _ _ h
    ·split
     ·simp
     ·exact ih _ _ _ (by simp;omega)
def Awg(t:Tk):Prop:=t.e=0→(t.k=1→ -2147483647≤t.n∧t.n≤2147483647)∧(t.k=2→(0:UInt8)∉t.s∧t.s.length≤127)∧(t.k=3→t.s.length≤65535)
theorem Am6(e:Int)(h:e≠0):Awg (Tt e):=fun h'=>absurd h' h
theorem Aip(k:Int)(a b:Nat)(h1:k≠1)(h2:k≠2)(h3:k≠3):Awg ⟨0,k,0,[],a,b⟩:=fun _=>⟨fun h=>absurd h h1,fun h=>absurd h h2,fun h=>absurd h h3⟩
theorem At3(k:Int)(p:Nat)(x:Part)(hk:k=2∨k=3)(h2:k=2→(0:UInt8)∉x.1∧x.1.length≤127)(h3:k=3→x.1.length≤65535):Awg (partT k p x):=by
 unfold partT
 split
 ·exact fun _=>⟨fun h=>(by simp only at h;omega),h2,h3⟩
 ·rename_i h;exact Am6 _ h
theorem A6d(s:List UInt8): -2147483647≤(Gc s).1∧(Gc s).1≤2147483647:=by
 unfold Gc
 have:=Azv (Oh s)
 split<;>simp only<;>omega
theorem Bb3(c:UInt8)(r:List UInt8)(p:Nat):Awg (Ic c r p):=by
 unfold Ic
 split
 ·exact Aip _ _ _ (by decide) (by decide) (by decide)
 split
 ·exact Aip _ _ _ (by decide) (by decide) (by decide)
 split
 ·exact At3 2 _ _ (.inl rfl) (fun _=>A9a _ r [] _ (Nat.lt_succ_self _) (by simp) (by simp)) fun h=>absurd h (by decide)
 split
 ·exact At3 3 _ _ (.inr rfl) (fun h=>absurd h (by decide)) fun _=>A9z _ _ _ _ _ (by simp)
 split
 ·split
  ·exact Aip _ _ _ (by decide) (by decide) (by decide)
  ·exact At3 3 _ _ (.inr rfl) (fun h=>absurd h (by decide)) fun _=>Bbh _ _ _ _ (by simp)
 split
 ·split
  ·exact Aip _ _ _ (by decide) (by decide) (by decide)
  ·exact Am6 _ (by decide)
 split
 ·exact Am6 _ (by decide)
 unfold Nf
 split
 ·exact fun _=>⟨fun _=>A6d _,fun h=>absurd h (by simp),fun h=>absurd h (by simp)⟩
 split
 ·exact Am6 _ (by decide)
 split
 ·exact Am6 _ (by decide)
 ·exact fun _=>⟨fun h=>absurd h (by simp),fun h=>absurd h (by simp),fun h=>absurd h (by simp)⟩
theorem Ant(s:List UInt8)(a:Int):Awg (Aj s a):=by
 unfold Aj
 split
 ·exact Aip _ _ _ (by decide) (by decide) (by decide)
 ·exact Bb3 _ _ _
theorem Kn {e:Int} (h:e≠0):(J5 e).2.2≠0:=h
theorem A9g(s:List UInt8)(n:Int)(b w:Nat)(h0: -2147483647≤n)(h1:n≤2147483647)(h:(numL s n b).2.2=0):H9 w (numL s n b).1:=by
 unfold numL at h ⊢
 split
 ·exact .int w n h0 h1
 ·rename_i g c e
  rw [e]at h
  simp only at h
  split
  ·rename_i hh;rw [if_pos hh]at h;exact absurd h (Kn (by decide))
  ·exact .link w n g (by omega) (by omega) (by omega) (by omega)
theorem A7c(t:List UInt8)(b w:Nat)(h:(Te t b).2.2=0):H9 w (Te t b).1:=by
 unfold Te at h ⊢
 split
 ·exact .bool w 1 (.inr rfl)
 ·rename_i h1
  rw [if_neg h1]at h
  split
  ·exact .bool w 0 (.inl rfl)
  ·rename_i h2
   rw [if_neg h2]at h
   split
   ·exact .null w
   ·rename_i h3;rw [if_neg h3]at h;exact absurd h (Kn (by decide))
theorem A6b(s:List UInt8)(w:Nat)(hw:w<64)(rd:Nat→V × Nat × Int)(hrd:∀a,(rd a).2.2=0→H9 (w+1) (rd a).1):∀(m a:Nat) (acc:List V),(∀x∈acc,H9 (w+1) x)→(I8 s rd m a acc).2.2=0→H9 w (I8 s rd m a acc).1:=by
 intro m
 induction m with
 |zero=>intro a acc _ h;rw [I8]at h;exact absurd h (Kn (by decide))
 |succ m ih=>
  intro a acc ha h
  rw [I8]at h ⊢
  by_cases h1:(Aj s (a:Int)).e=0
  ·rw [if_neg (fun h=>h h1)]at h ⊢
   by_cases h2:(Aj s (a:Int)).k=5
   ·rw [if_pos h2];exact .list w acc hw ha
   ·rw [if_neg h2]at h ⊢
    by_cases h3:(rd a).2.2=0
    ·rw [if_neg (fun h=>h h3)]at h ⊢
     refine ih _ _ (fun x hx=> ?_) h
     rcases List.mem_append.1 hx with hx |hx
     ·exact ha x hx
     ·rw [List.mem_singleton]at hx;subst hx;exact hrd a h3
    ·rw [if_pos h3]at h;exact absurd h (Kn h3)
  ·rw [if_pos h1]at h;exact absurd h (Kn h1)
theorem A5l(s:List UInt8)(w:Nat)(hw:w<64)(rd:Nat→V × Nat × Int)(hrd:∀a,(rd a).2.2=0→H9 (w+1) (rd a).1):∀(m a:Nat) (acc:List Pr),(∀p∈acc,¬Ii p.1)→(acc.map fun p=>p.1).Nodup→(∀p∈acc,H9 (w+1) p.2)→(Im s rd m a acc).2.2=0→H9 w (Im s rd m a acc).1:=by
 intro m
 induction m with
 |zero=>intro a acc _ _ _ h;rw [Im]at h;exact absurd h (Kn (by decide))
 |succ m ih=>
  intro a acc hk hn ha h
  rw [Im]at h ⊢
  by_cases h1:(Aj s (a:Int)).e=0
  ·rw [if_neg (fun h=>h h1)]at h ⊢
   by_cases h2:(Aj s (a:Int)).k=7
   ·rw [if_pos h2];exact .dict w acc hw hk hn ha
   ·rw [if_neg h2]at h ⊢
    by_cases h0:(Aj s (a:Int)).k=0
    ·rw [if_pos h0]at h;exact absurd h (Kn (by decide))
    rw [if_neg h0]at h ⊢
    by_cases h4:(Aj s (a:Int)).k≠2
    ·rw [if_pos h4]at h;exact absurd h (Kn (by decide))
    rw [if_neg h4]at h ⊢
    have t:=(Ant s a h1).2.1 (Classical.not_not.1 h4)
    by_cases h5:acc.any (fun p=>p.1 == (Aj s (a:Int)).s)=true
    ·rw [if_pos h5]at h;exact absurd h (Kn (by decide))
    rw [if_neg h5]at h ⊢
    by_cases h3:(rd (Aj s (a:Int)).b).2.2=0
    ·rw [if_neg (fun h=>h h3)]at h ⊢
     refine ih _ _ (fun x hx=> ?_) ?_ (fun x hx=> ?_) h
     ·rcases List.mem_append.1 hx with hx |hx
      ·exact hk x hx
      ·rw [List.mem_singleton]at hx;subst hx;exact fun hb=>hb.elim (fun h=>by simp only at h;omega) t.1
     ·rw [List.map_append,List.nodup_append]
      refine⟨hn,by simp,fun x hx y hy e=> ?_⟩
      simp at hy
      subst e
      obtain⟨q,hq,e⟩:=List.mem_map.1 hx
      exact h5 (List.any_eq_true.2 ⟨q,hq,by simp [e,hy]⟩)
     ·rcases List.mem_append.1 hx with hx |hx
      ·exact ha x hx
      ·rw [List.mem_singleton]at hx;subst hx;exact hrd _ h3
    ·rw [if_pos h3]at h;exact absurd h (Kn h3)
  ·rw [if_pos h1]at h;exact absurd h (Kn h1)
theorem A6s(s:List UInt8):∀(m w a:Nat),(Cy s m w a).2.2=0→H9 w (Cy s m w a).1:=by
 intro m
 induction m with
 |zero=>intro w a h;rw [Cy]at h;exact absurd h (Kn (by decide))
 |succ m ih=>
  intro w a h
  rw [Cy]at h ⊢
  by_cases h1:(Aj s (a:Int)).e=0
  ·rw [if_neg (fun h=>h h1)]at h ⊢
   have t:=Ant s a h1
   by_cases c:(Aj s (a:Int)).k=0
   ·rw [if_pos c]at h;exact absurd h (Kn (by decide))
   rw [if_neg c]at h ⊢
   by_cases c:(Aj s (a:Int)).k=1
   ·rw [if_pos c]at h ⊢; exact A9g _ _ _ _ (t.1 c).1 (t.1 c).2 h
   rw [if_neg c]at h ⊢
   by_cases c:(Aj s (a:Int)).k=2
   ·rw [if_pos c]at h ⊢; exact .name w _ (t.2.1 c).1 (t.2.1 c).2
   rw [if_neg c]at h ⊢
   by_cases c:(Aj s (a:Int)).k=3
   ·rw [if_pos c]at h ⊢; exact .text w _ (t.2.2 c)
   rw [if_neg c]at h ⊢
   by_cases c:(Aj s (a:Int)).k=8
   ·rw [if_pos c]at h ⊢; exact A7c _ _ _ h
   rw [if_neg c]at h ⊢
   by_cases c:(Aj s (a:Int)).k=4
   ·rw [if_pos c]at h ⊢
    by_cases d:64≤w
    ·rw [if_pos d]at h;exact absurd h (Kn (by decide))
    rw [if_neg d]at h ⊢
    exact A6b s w (by omega) _ (fun b hb=>ih (w+1) b hb) _ _ [] (fun _ h=>(nomatch h)) h
   rw [if_neg c]at h ⊢
   by_cases c:(Aj s (a:Int)).k=6
   ·rw [if_pos c]at h ⊢
    by_cases d:64≤w
    ·rw [if_pos d]at h;exact absurd h (Kn (by decide))
    rw [if_neg d]at h ⊢
    exact A5l s w (by omega) _ (fun b hb=>ih (w+1) b hb) _ _ [] (fun _ h=>(nomatch h)) (by simp) (fun _ h=>(nomatch h)) h
   rw [if_neg c]at h;exact absurd h (Kn (by decide))
  ·rw [if_pos h1]at h;exact absurd h (Kn h1)
end Go.Proofs.Sim.Pa

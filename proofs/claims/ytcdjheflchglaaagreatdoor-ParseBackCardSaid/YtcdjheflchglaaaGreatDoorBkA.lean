import Derived.Test.YtcdjheflchglaaaGreatDoorPaL
import Derived.Test.YtcdjheflchglaaaGreatDoorDgM
namespace Go.Proofs.Sim.Pa
open Go Go.Proofs Go.Proofs.Sim Go.Proofs.Sim.Va Go.Proofs.Sim.Se
def Qv(r:List UInt8):Prop:=∀c t,r=c::t→kd c≠2
theorem A79:Qv []:=fun _ _ h=>nomatch h
theorem L8 {c:UInt8} (t:List UInt8)(h:kd c≠2):Qv (c::t):=by
 intro d u e;injection e with e1 e2;subst e1;exact h
theorem Ii {s:List UInt8} {a:Nat} {x y:List UInt8} (h:s.drop a=x++y):s.drop (a+x.length)=y:=by
 rw [←List.drop_drop,h,List.drop_left]
theorem Ae5 {s:List UInt8} {a:Nat} {c:UInt8} {r:List UInt8} (h:s.drop a=c::r):a<s.length:=by
 have:=congrArg List.length h
 simp at this;omega
theorem Azo {s:List UInt8} {a:Nat} (h:a≤s.length):Nn s (a:Int)=a:=by
 unfold Nn
 rw [if_neg (by omega),if_neg (by omega)];omega
theorem Bdd {c:UInt8} {r:List UInt8} (h0:kd c≠0)(h1:c.toNat≠37):Fu false (c::r)=0:=by
 have e:Lt false c=false:=by unfold Lt;split<;>simp
 rw [Fu,e,if_pos ⟨rfl,h0⟩]
theorem Sg {s:List UInt8} {a:Nat} {c:UInt8} {r:List UInt8} (h:s.drop a=c::r)(h0:kd c≠0)(h1:c.toNat≠37):Ao s (a:Int)=Jc c r a:=by
 have e:Du s (a:Int)=a:=by rw [Du,Azo (Nat.le_of_lt (Ae5 h)),h,Bdd h0 h1];omega
 rw [Ao,e,h]
theorem Ou {s:List UInt8} {a:Nat} {r:List UInt8} (h:s.drop a=32::r):Ao s (a:Int)=Ao s ((a+1:Nat):Int):=by
 have hl:=Ae5 h
 have h2:s.drop (a+1)=r:=Ii (x:=[32]) h
 have e:Du s (a:Int)=Du s ((a+1:Nat):Int):=by
  rw [Du,Du,Azo (Nat.le_of_lt hl),Azo hl,h,h2,Fu,if_neg (by decide)]
  show a+(Fu false r+1)=_
  omega
 rw [Ao,Ao,e]
theorem A5t {s:List UInt8} {a:Nat} (h:s.drop a=[])(ha:a≤s.length):Ao s (a:Int)=⟨0,0,0,[],a,a⟩:=by
 have e:Du s (a:Int)=a:=by rw [Du,Azo ha,h];rfl
 rw [Ao,e,h]
theorem Ak4:∀n,n<16→Cy (Acw n)=(n:Int):=by decide
theorem A4k:∀n,n<16→(Acw n).toNat≠62:=by decide
theorem Bbi(n:Nat):Wi (n:Int)=UInt8.ofNat n:=rfl
theorem A0h(c:UInt8):Wi (16*((c.toNat / 16:Nat):Int)+((c.toNat % 16:Nat):Int))=c:=by
 have e:(16*((c.toNat / 16:Nat):Int)+((c.toNat % 16:Nat):Int))=((c.toNat:Nat):Int):=by omega
 rw [e,Bbi,UInt8.ofNat_toNat]
theorem A3t(c:UInt8):c.toNat / 16<16:=by have:=c.toNat_lt;omega
theorem A7y(c:UInt8):c.toNat % 16<16:=by omega
theorem ne0 {c:UInt8} (h:c≠0):c.toNat≠0:=fun e=>h (UInt8.toNat_inj.1 e)
theorem A4m(s:List UInt8):∀(rest out:List UInt8) (a:Nat),(0:UInt8)∉s→out.length+s.length≤127→Qv rest→nameL (s.flatMap Ls++rest) out a=(out++s,a+(s.flatMap Ls).length,0):=by
 induction s with
 |nil=>
  intro rest out a _ _ hr
  rw [List.flatMap_nil,List.nil_append,List.append_nil]
  cases rest with
  |nil=>rfl
  |cons c t=>rw [nameL.eq_def];simp only;rw [if_neg (hr c t rfl)];rfl
 |cons c s ih=>
  intro rest out a h0 hl hr
  have h0':c≠0∧(0:UInt8)∉s:=⟨fun e=>h0 (e ▸ List.mem_cons_self),fun e=>h0 (List.mem_cons_of_mem _ e)⟩
  simp only [List.length_cons]at hl
  rw [List.flatMap_cons,List.append_assoc]
  by_cases hb:At7 c=true
  ·have e:Ls c=[c]:=by rw [Ls,if_pos hb]
   have hb':=of_decide_eq_true hb
   rw [e,List.singleton_append,nameL.eq_def]
   simp only
   rw [if_pos (show kd c=2 from hb'.2.2.1),if_neg hb'.2.2.2,if_neg (by omega),ih rest (out++[c]) (a+1) h0'.2 (by simp;omega) hr]
   simp;omega
  ·have e:Ls c=35::Rq c:=by rw [Ls,if_neg hb]
   rw [e]
   show nameL (35::Acw (c.toNat / 16)::Acw (c.toNat % 16)::(s.flatMap Ls++rest)) out a=_
   rw [nameL,if_pos (by decide),if_pos (by decide),Ak4 _ (A3t c),Ak4 _ (A7y c),if_neg (by have:=ne0 h0'.1;omega),if_neg (by omega),A0h,ih rest (out++[c]) (a+3) h0'.2 (by simp;omega) hr]
   simp [Rq];omega
theorem Aya {c:UInt8} (r:List UInt8)(h1:c.toNat≠10)(h2:c.toNat≠13):Rc (c::r)=0:=by rw [Abd,if_neg h1,if_neg h2]
theorem A8e {c:UInt8} (r:List UInt8)(h:c=40∨c=41∨c=92):Aih (c::r)=some ([c],1):=by
 rcases h with rfl |rfl |rfl<;>rw [Aih,Aya r (by decide) (by decide)]<;>rfl
theorem A5e(s:List UInt8):∀(m:Nat) (rest out:List UInt8) (a:Nat),s.all Tj=true→(s.flatMap M5).length<m→out.length+s.length≤65535→Je m (s.flatMap M5++41::rest) out 1 a=(out++s,a+(s.flatMap M5).length+1,0):=by
 induction s with
 |nil=>
  intro m rest out a _ hm _
  rw [List.flatMap_nil,List.nil_append,List.append_nil]
  cases m with
  |zero=>cases hm
  |succ m=>rw [Je,Aya rest (by decide) (by decide),if_neg (by decide),if_neg (by decide),if_pos (by decide)];rfl
 |cons c s ih=>
  intro m rest out a h0 hm hl
  rw [List.all_cons,Bool.and_eq_true]at h0
  simp only [List.length_cons]at hl
  rw [List.flatMap_cons,List.length_append]at hm
  rw [List.flatMap_cons,List.append_assoc]
  have hc:=of_decide_eq_true h0.1
  cases m with
  |zero=>cases hm
  |succ m=>
  by_cases hb:c=40∨c=41∨c=92
  ·have e:M5 c=[92,c]:=by rw [M5,if_pos hb]
   rw [e]at hm ⊢
   show Je (m+1) (92::c::(s.flatMap M5++41::rest)) out 1 a=_
   rw [Je,Aya _ (by decide) (by decide),if_neg (by decide),if_pos (by decide),A8e _ hb]
   simp only
   rw [if_neg (by simp;omega)]
   show Je m (s.flatMap M5++41::rest) (out++[c]) 1 (a+1+1)=_
   rw [ih m rest (out++[c]) (a+1+1) h0.2 (by simp only [List.length_cons,List.length_nil]at hm;omega) (by simp;omega)]
   simp;omega
  ·have e:M5 c=[c]:=by rw [M5,if_neg hb]
   have h40:c.toNat≠40:=fun h=>hb (.inl (UInt8.toNat_inj.1 h))
   have h41:c.toNat≠41:=fun h=>hb (.inr (.inl (UInt8.toNat_inj.1 h)))
   have h92:c.toNat≠92:=fun h=>hb (.inr (.inr (UInt8.toNat_inj.1 h)))
   rw [e]at hm ⊢
   show Je (m+1) (c::(s.flatMap M5++41::rest)) out 1 a=_
   rw [Je,Aya _ (by omega) (by omega),if_neg (by decide),if_neg h92,if_neg (fun h=>h41 h.1),if_neg (by omega),if_neg h40,if_neg h41,ih m rest (out++[c]) (a+1) h0.2 (by simp only [List.length_cons,List.length_nil]at hm;omega) (by simp;omega)]
   simp;omega
theorem A62(s:List UInt8):∀(rest out:List UInt8) (a:Nat),out.length+s.length≤65535→O8 (s.flatMap Rq++62::rest) (-1) out a=(out++s,a+(s.flatMap Rq).length+1,0):=by
 induction s with
 |nil=>intro rest out a _;rw [List.flatMap_nil,List.nil_append,List.append_nil,O8,if_pos (by decide),if_pos (by decide)];rfl
 |cons c s ih=>
  intro rest out a hl
  simp only [List.length_cons]at hl
  rw [List.flatMap_cons,List.append_assoc]
  show O8 (Acw (c.toNat / 16)::Acw (c.toNat % 16)::(s.flatMap Rq++62::rest)) (-1) out a=_
  rw [O8,if_neg (A4k _ (A3t c)),Ak4 _ (A3t c),if_neg (by omega),if_pos (by decide),O8,if_neg (A4k _ (A7y c)),Ak4 _ (A7y c),if_neg (by omega),if_neg (by omega),if_neg (by omega),A0h,
   ih rest (out++[c]) (a+1+1) (by simp;omega)]
  simp [Rq];omega
theorem A45(w:List UInt8)(rest:List UInt8)(hw:∀c∈w,kd c=2)(hr:Qv rest):Cs 2 (w++rest)=w.length:=by
 induction w with
 |nil=>
  cases rest with
  |nil=>rfl
  |cons c t=>rw [List.nil_append,Cs,if_neg (hr c t rfl)];rfl
 |cons c w ih=>rw [List.cons_append,Cs,if_pos (hw c List.mem_cons_self),ih fun d hd=>hw d (List.mem_cons_of_mem _ hd)];rfl
theorem A9l {c:UInt8} (r:List UInt8)(p:Nat)(h:kd c=2):Jc c r p=N9 (c::r) p:=by
 have ne:∀n:Nat,Xi (n:Int)≠2→c.toNat≠n:=fun n hn e=>hn (by rw [←h,kd,e])
 rw [Jc,if_neg (ne 91 (by decide)),if_neg (ne 93 (by decide)),if_neg (ne 47 (by decide)),if_neg (ne 40 (by decide)),if_neg (ne 60 (by decide)),if_neg (ne 62 (by decide)),if_neg (by rw [h];decide)]
theorem A5m {c:UInt8} (h:Ro c=true):kd c=2:=by
 rw [Qp]at h
 unfold kd Xi
 rw [if_neg (by omega),if_neg (by omega)]
theorem Bb9(x:Int):∀c∈Lib.itoa x,kd c=2:=by
 intro c hc
 unfold Lib.itoa at hc
 split at hc
 ·rcases List.mem_cons.1 hc with rfl |hc
  ·decide
  ·exact A5m (Aoz _ c hc)
 ·exact A5m (Aoz _ c hc)
theorem A15(x:Int):Lib.itoa x≠[]:=by
 unfold Lib.itoa
 split
 ·simp
 ·exact Auh _
theorem Ae3 {s:List UInt8} {a:Nat} {w rest:List UInt8} (h:s.drop a=w++rest)(h0:w≠[])(hw:∀c∈w,kd c=2)(hr:Qv rest):Ao s (a:Int)=
 if(Gg w).2=0 then⟨0,1,(Gg w).1,[],a,a+w.length⟩else if(Gg w).2=3 then Adl 3 else if 127<w.length then Adl 8 else⟨0,8,0,w,a,a+w.length⟩:=by
 obtain⟨c,r,rfl⟩:∃c r,w=c::r:=by
  cases w with
  |nil=>exact absurd rfl h0
  |cons c r=>exact⟨c,r,rfl⟩
 have hk:=hw c List.mem_cons_self
 have e1:Ao s (a:Int)=N9 ((c::r)++rest) a:=by
  rw [Sg h (by rw [hk];decide) (by intro e;rw [kd,e]at hk;revert hk;decide),A9l _ _ hk]
  rfl
 have e2:((c::r)++rest).take (c::r).length=c::r:=List.take_left
 rw [e1,N9,A45 _ rest hw hr,e2]
theorem Ai5 {s:List UInt8} {a:Nat} {x:Int} {rest:List UInt8} (h:s.drop a=Lib.itoa x++rest)(h0: -2147483647≤x)(h1:x≤2147483647)(hr:Qv rest):Ao s (a:Int)=⟨0,1,x,[],a,a+(Lib.itoa x).length⟩:=by
 rw [Ae3 h (A15 x) (Bb9 x) hr,(back x h0 h1).2,if_pos rfl]
theorem Bfz {s:List UInt8} {a:Nat} {rest:List UInt8} (h:s.drop a=82::rest)(hr:Qv rest):Ao s (a:Int)=⟨0,8,0,[82],a,a+1⟩:=by
 rw [Ae3 (w:=[82]) h (by simp) (by decide) hr];rfl
theorem Av0 {s:List UInt8} {a:Nat} {t rest:List UInt8} (h:s.drop a=Df t++rest)(h0:(0:UInt8)∉t)(hl:t.length≤127)(hr:Qv rest):Ao s (a:Int)=⟨0,2,0,t,a,a+(Df t).length⟩:=by
 have h':s.drop a=47::(t.flatMap Ls++rest):=h
 rw [Sg h' (by decide) (by decide),Jc,if_neg (by decide),if_neg (by decide),if_pos (by decide),A4m t rest [] (a+1) h0 (by simpa using hl) hr]
 simp [partT,Df];omega
theorem A2b {s:List UInt8} {a:Nat} {t rest:List UInt8} (h:s.drop a=Wx t++rest)(hl:t.length≤65535):Ao s (a:Int)=⟨0,3,0,t,a,a+(Wx t).length⟩:=by
 unfold Wx at h ⊢
 by_cases hs:t.all Tj=true
 ·rw [if_pos hs]at h ⊢
  have h':s.drop a=40::(t.flatMap M5++41::rest):=by rw [h];simp
  rw [Sg h' (by decide) (by decide),Jc,if_neg (by decide),if_neg (by decide),if_neg (by decide),if_pos (by decide),A5e t _ rest [] (a+1) hs (by simp;omega) (by simpa using hl)]
  simp [partT];omega
 ·rw [if_neg hs]at h ⊢
  have h':s.drop a=60::(t.flatMap Rq++62::rest):=by rw [h];simp [Aq8]
  have hh:(t.flatMap Rq++62::rest).head?≠some 60:=by
   cases t with
   |nil=>simp
   |cons c t=>
    rw [List.flatMap_cons]
    show some (Acw (c.toNat / 16))≠some 60
    have:∀n,n<16→some (Acw n)≠some 60:=by decide
    exact this _ (A3t c)
  rw [Sg h' (by decide) (by decide),Jc,if_neg (by decide),if_neg (by decide),if_neg (by decide),if_neg (by decide),if_pos (by decide),if_neg hh,A62 t rest [] (a+1) (by simpa using hl)]
  simp [partT,Aq8];omega
end Go.Proofs.Sim.Pa
namespace Go.Proofs.Sim.Pa
open Go Go.Proofs Go.Proofs.Sim Go.Proofs.Sim.Va Go.Proofs.Sim.Se
theorem Wt {s:List UInt8} {a:Nat} {c:UInt8} {r:List UInt8} (h:s.drop a=c::r):s.drop (a+1)=r:=Ii (x:=[c]) h
theorem Bcn {s:List UInt8} {a:Nat} {c d:UInt8} {r:List UInt8} (h:s.drop a=c::d::r):s.drop (a+2)=r:=Ii (x:=[c,d]) h
inductive Md:Nat→V→Prop
 |null (w:Nat):Md w (.mk 0 0 0 [] [] [])
 |bool (w:Nat) (n:Int) (h:n=0∨n=1):Md w (.mk 1 n 0 [] [] [])
 |int (w:Nat) (n:Int) (h0: -2147483647≤n) (h1:n≤2147483647):Md w (.mk 2 n 0 [] [] [])
 |name (w:Nat) (s:List UInt8) (h0:(0:UInt8)∉s) (h1:s.length≤127):Md w (.mk 3 0 0 s [] [])
 |text (w:Nat) (s:List UInt8) (h1:s.length≤65535):Md w (.mk 4 0 0 s [] [])
 |list (w:Nat) (l:List V) (hw:w<64) (hl:∀x∈l,Md (w+1) x):Md w (.mk 5 0 0 [] l [])
 |dict (w:Nat) (d:List Pr) (hw:w<64) (hk:∀p∈d,¬Jd p.1) (hd:(d.map fun p=>p.1).Nodup) (hl:∀p∈d,Md (w+1) p.2):Md w (.mk 6 0 0 [] [] d)
 |link (w:Nat) (n g:Int) (h0:1≤n) (h1:n≤8388607) (h2:0≤g) (h3:g≤65535):Md w (.mk 7 n g [] [] [])
theorem Bev(l:List Int):Xt l=0↔∀e∈l,e=0:=by
 induction l with
 |nil=>exact⟨fun _ e h=>(nomatch h),fun _=>rfl⟩
 |cons e l ih=>
  rw [Xt]
  by_cases h:e=0
  ·rw [if_neg (fun h'=>h' h),ih];simp [h]
  ·rw [if_pos h];exact⟨fun h'=>absurd h' h,fun h'=>absurd (h' e List.mem_cons_self) h⟩
theorem Bfa(l:List (Ky × Int)):∀seen:List Ky,Ah3 seen l=0↔(∀x∈l,¬Jd x.1∧x.1∉seen∧x.2=0)∧(l.map fun x=>x.1).Nodup:=by
 induction l with
 |nil=>intro seen;exact⟨fun _=>⟨fun _ h=>(nomatch h),List.nodup_nil⟩,fun _=>rfl⟩
 |cons x l ih=>
  intro seen
  obtain⟨k,e⟩:=x
  rw [Ah3]
  by_cases h1:Jd k∨k∈seen
  ·rw [if_pos h1]
   refine⟨fun h=>absurd h (by decide),fun h=> ?_⟩
   have:=h.1 (k,e) List.mem_cons_self
   exact absurd h1 (not_or.2 ⟨this.1,this.2.1⟩)
  ·rw [if_neg h1]
   by_cases h2:e=0
   ·rw [if_neg (fun h=>h h2),ih,List.map_cons,List.nodup_cons]
    rw [not_or]at h1
    constructor
    ·rintro⟨ha,hb⟩
     refine⟨fun x hx=> ?_, ?_,hb⟩
     ·rcases List.mem_cons.1 hx with rfl |hx
      ·exact⟨h1.1,h1.2,h2⟩
      ·have:=ha x hx
       exact⟨this.1,fun h=>this.2.1 (List.mem_append_left _ h),this.2.2⟩
     ·intro hm
      obtain⟨y,hy,e⟩:=List.mem_map.1 hm
      exact(ha y hy).2.1 (by rw [e];simp)
    ·rintro⟨ha,hb,hc⟩
     refine⟨fun x hx=> ?_,hc⟩
     have:=ha x (List.mem_cons_of_mem _ hx)
     refine⟨this.1,fun h=> ?_,this.2.2⟩
     rcases List.mem_append.1 h with h |h
     ·exact this.2.1 h
     ·rw [List.mem_singleton]at h
      exact hb (List.mem_map.2 ⟨x,hx,h⟩)
   ·rw [if_pos h2]
    exact⟨fun h=>absurd h h2,fun h=>absurd (h.1 (k,e) List.mem_cons_self).2.2 h2⟩
theorem Aea(v:V)(w:Int):Xy v false w=0↔(0≤v.k∧v.k≤7)∧¬Hu v∧¬(v.k=3∧(0:UInt8)∈v.s)∧¬Ns v∧¬(v.k=3∧127<v.s.length)∧¬(v.k=4∧65535<v.s.length)∧¬((v.k=5∨v.k=6)∧64≤w):=by
 unfold Xy
 split
 ·rename_i h
  refine⟨fun h=>absurd h (by decide),fun h'=> ?_⟩
  rcases h with h |h
  ·omega
  ·omega
 rename_i h
 have hk:0≤v.k∧v.k≤7:=by
  rw [not_or]at h
  have h8:¬v.k=8:=fun e=>h.2 ⟨e,rfl⟩
  omega
 split
 ·rename_i h1
  refine⟨fun h=>absurd h (by decide),fun h'=> ?_⟩
  rcases h1 with h1 |h1
  ·exact absurd h1 h'.2.1
  ·exact absurd h1 h'.2.2.1
 rename_i h1
 rw [not_or]at h1
 split
 ·rename_i h2;exact⟨fun h=>absurd h (by decide),fun h'=>absurd h2 h'.2.2.2.1⟩
 rename_i h2
 split
 ·rename_i h3
  refine⟨fun h=>absurd h (by decide),fun h'=> ?_⟩
  rcases h3 with h3 |h3
  ·exact absurd h3 h'.2.2.2.2.1
  ·exact absurd h3 h'.2.2.2.2.2.1
 rename_i h3
 rw [not_or]at h3
 rw [if_neg (by omega)]
 split
 ·rename_i h4
  exact⟨fun h=>absurd h (by decide),fun h'=>absurd (show(v.k=5∨v.k=6)∧64≤w from ⟨by omega,h4.2⟩) h'.2.2.2.2.2.2⟩
 ·rename_i h4
  exact⟨fun _=>⟨hk,h1.1,h1.2,h2,h3.1,h3.2,fun h=>h4 ⟨by omega,h.2⟩⟩,fun _=>rfl⟩
theorem Aey(v:V)(w:Int):v.chk false w=0↔Xy v false w=0∧(∀x∈v.l,x.chk false (w+1)=0)∧(∀p∈v.d,¬Jd p.1∧p.2.chk false (w+1)=0)∧(v.d.map fun p=>p.1).Nodup:=by
 have hl:Xt (v.l.map fun x=>x.chk false (w+1))=0↔∀x∈v.l,x.chk false (w+1)=0:=by rw [Bev];simp
 have hd:Ah3 [] (v.d.map fun p=>(p.1,p.2.chk false (w+1)))=0↔(∀p∈v.d,¬Jd p.1∧p.2.chk false (w+1)=0)∧(v.d.map fun p=>p.1).Nodup:=by
  rw [Bfa,List.map_map]
  constructor
  ·rintro⟨h1,h2⟩
   refine⟨fun p hp=> ?_,h2⟩
   have:=h1 _ (List.mem_map_of_mem hp)
   exact⟨this.1,this.2.2⟩
  ·rintro⟨h1,h2⟩
   refine⟨fun x hx=> ?_,h2⟩
   obtain⟨p,hp,rfl⟩:=List.mem_map.1 hx
   exact⟨(h1 p hp).1,(fun h=>nomatch h),(h1 p hp).2⟩
 rw [A6v]
 by_cases h1:Xy v false w=0
 ·rw [if_neg (fun h=>h h1)]
  by_cases h2:Xt (v.l.map fun x=>x.chk false (w+1))=0
  ·rw [if_neg (fun h=>h h2),hd]
   exact⟨fun h=>⟨h1,hl.1 h2,h.1,h.2⟩,fun h=>⟨h.2.2.1,h.2.2.2⟩⟩
  ·rw [if_pos h2]
   exact⟨fun h=>absurd h h2,fun h=>absurd (hl.2 h.2.1) h2⟩
 ·rw [if_pos h1]
  exact⟨fun h=>absurd h h1,fun h=>absurd h.1 h1⟩
theorem Baz {w:Nat} {v:V} (h:Md w v):v.chk false (w:Int)=0:=by
 induction h with
 |null w=>rw [Aey,Aea];simp [V.k,V.n,V.g,V.s,V.l,V.d,Hu,Ns]
 |bool w n h=>rw [Aey,Aea];simp [V.k,V.n,V.g,V.s,V.l,V.d,Hu,Ns];omega
 |int w n h0 h1=>rw [Aey,Aea];simp [V.k,V.n,V.g,V.s,V.l,V.d,Hu,Ns];omega
 |name w s h0 h1=>rw [Aey,Aea];simp [V.k,V.n,V.g,V.s,V.l,V.d,Hu,Ns,h0];omega
 |text w s h1=>rw [Aey,Aea];simp [V.k,V.n,V.g,V.s,V.l,V.d,Hu,Ns];omega
 |list w l hw hl ih=>
  rw [Aey,Aea]
  refine⟨?_,fun x hx=>ih x hx,fun p hp=>(nomatch hp),List.nodup_nil⟩
  simp [V.k,V.n,V.g,V.s,V.l,V.d,Hu,Ns];omega
 |dict w d hw hk hd hl ih=>
  rw [Aey,Aea]
  refine⟨?_,fun p hp=>(nomatch hp),fun p hp=>⟨hk p hp,ih p hp⟩,hd⟩
  simp [V.k,V.n,V.g,V.s,V.l,V.d,Hu,Ns];omega
 |link w n g h0 h1 h2 h3=>rw [Aey,Aea];simp [V.k,V.n,V.g,V.s,V.l,V.d,Hu,Ns];omega
theorem Bbo:∀(N:Nat) (v:V),SizeOf.sizeOf v<N→∀w:Nat,v.chk false (w:Int)=0→Md w v:=by
 intro N
 induction N with
 |zero=>intro v h;cases h
 |succ N ih=>
  intro v hN w h
  rw [Aey,Aea]at h
  obtain⟨k,n,g,s,l,d⟩:=v
  obtain⟨⟨hk,hx,h0,ho,h1,h2,h3⟩,hl,hd,hn⟩:=h
  have hl':∀x∈l,Md (w+1) x:=fun x hx=>ih x (by have:=Ang (k:=k) (n:=n) (g:=g) (s:=s) (d:=d) hx;omega) (w+1) (hl x hx)
  have hd':∀p∈d,Md (w+1) p.2:=fun p hp=>ih p.2 (by have:=Amv (k:=k) (n:=n) (g:=g) (s:=s) (l:=l) hp;omega) (w+1) (hd p hp).2
  simp only [V.k,V.n,V.g,V.s,V.l,V.d,Hu,Ns]at hk hx h0 ho h1 h2 h3 hd hn
  obtain⟨x1,hx⟩:=not_or.1 hx
  obtain⟨x2,hx⟩:=not_or.1 hx
  obtain⟨x3,hx⟩:=not_or.1 hx
  obtain⟨x4,x5⟩:=not_or.1 hx
  have xl:k≠5→l=[]:=fun hk=>List.length_eq_zero_iff.1 (Nat.eq_zero_of_not_pos fun h=>x4 ⟨h,hk⟩)
  have xd:¬(k=6∨k=8)→d=[]:=fun hk=>List.length_eq_zero_iff.1 (Nat.eq_zero_of_not_pos fun h=>x5 ⟨h,hk⟩)
  have xs:¬(k=3∨k=4∨k=8)→s=[]:=fun hk=>Classical.byContradiction fun e=>x3 ⟨e,hk⟩
  have xn:¬(k=1∨k=2∨k=7)→n=0:=fun hk=>Classical.byContradiction fun e=>x1 ⟨e,hk⟩
  have xg:k≠7→g=0:=fun hk=>Classical.byContradiction fun e=>x2 ⟨e,hk⟩
  clear x1 x2 x3 x4 x5 ih hl hN
  have hd:=fun p hp=>(hd p hp).1
  have c:k=0∨k=1∨k=2∨k=3∨k=4∨k=5∨k=6∨k=7:=by clear xl xd xs xn xg h0 ho h1 h2 h3;omega
  rcases c with rfl |rfl |rfl |rfl |rfl |rfl |rfl |rfl
  ·rw [xl (by decide),xd (by decide),xs (by decide),xn (by decide),xg (by decide)];exact .null w
  ·rw [xl (by decide),xd (by decide),xs (by decide),xg (by decide)];exact .bool w n (by omega)
  ·rw [xl (by decide),xd (by decide),xs (by decide),xg (by decide)];exact .int w n (by omega) (by omega)
  ·rw [xl (by decide),xd (by decide),xn (by decide),xg (by decide)];exact .name w s (fun h=>h0 ⟨rfl,h⟩) (by omega)
  ·rw [xl (by decide),xd (by decide),xn (by decide),xg (by decide)];exact .text w s (by omega)
  ·rw [xd (by decide),xs (by decide),xn (by decide),xg (by decide)];exact .list w l (by omega) hl'
  ·rw [xl (by decide),xs (by decide),xn (by decide),xg (by decide)];exact .dict w d (by omega) hd hn hd'
  ·rw [xl (by decide),xd (by decide),xs (by decide)];exact .link w n g (by omega) (by omega) (by omega) (by omega)
theorem Ba0(v:V)(w:Nat):v.chk false (w:Int)=0↔Md w v:=⟨Bbo _ v (Nat.lt_succ_self _) w,Baz⟩
theorem Av4(l:List V):(V.mk 5 0 0 [] l []).wr=91::(Ci (l.map V.wr)++[93]):=by rw [Ti];rfl
theorem Avn(d:List Pr):(V.mk 6 0 0 [] [] d).wr=60::60::(Ci (d.map fun p=>Ci [Df p.1,p.2.wr])++[62,62]):=by
 rw [Ti]
 show [60,60]++Ci ((d.map fun p=>(p.1,p.2.wr)).map fun p=>Ci [Df p.1,p.2])++[62,62]=_
 rw [List.map_map];rfl
theorem Avt(n g:Int):(V.mk 7 n g [] [] []).wr=Lib.itoa n++32::(Lib.itoa g++[32,82]):=by
 rw [Ti]
 show Ci [Lib.itoa n,Lib.itoa g]++[32,82]=_
 rw [Ci,Lib.join_cons];simp [Lib.joinTail]
theorem A0g(n:Int):(V.mk 2 n 0 [] [] []).wr=Lib.itoa n:=by rw [Ti];rfl
theorem Avl(s:List UInt8):(V.mk 3 0 0 s [] []).wr=Df s:=by rw [Ti];rfl
theorem Avu(s:List UInt8):(V.mk 4 0 0 s [] []).wr=Wx s:=by rw [Ti];rfl
theorem Avc:(V.mk 0 0 0 [] [] []).wr=Ao6:=by rw [Ti];rfl
theorem Awi(n:Int):(V.mk 1 n 0 [] [] []).wr=if n=1 then As6 else Amz:=by rw [Ti];rfl
def isR(s:List UInt8)(a:Nat):Prop:=(Ao s a).e=0∧(Ao s a).k=8∧(Ao s a).s=[82]
def Calm(s:List UInt8)(a:Nat):Prop:=Od s a=none∧¬isR s a
theorem Asz {s:List UInt8} {a:Nat} (h1:(Ao s a).k≠1)(h8:(Ao s a).k≠8):Calm s a:=
 ⟨by rw [Od,if_neg (fun h=>h1 h.2)],fun h=>h8 h.2.1⟩
theorem Aj7 {s:List UInt8} {a:Nat} {r:List UInt8} (h:s.drop a=32::r)(hc:Calm s (a+1)):Calm s a:=by
 unfold Calm Od isR at hc ⊢
 rw [Ou h];exact hc
theorem Ayj {s:List UInt8} {a:Nat} {r:List UInt8} (h:s.drop a=32::r)(m w:Nat):Dt s m w a=Dt s m w (a+1):=by
 cases m with
 |zero=>rfl
 |succ m=>rw [Dt,Dt,Ou h]
theorem Arf {w:Nat} {v:V} (hv:Md w v) {s:List UInt8} {a:Nat} {rest:List UInt8} (h:s.drop a=v.wr++rest)(hr:Qv rest):
 (Ao s a).e=0∧(Ao s a).k≠0∧(Ao s a).k≠5∧(Ao s a).k≠7∧¬isR s a∧((Ao s a).k=1→(v.k=2∧(Ao s a).b=a+v.wr.length)∨¬isR s (Ao s a).b):=by
 cases hv with
 |null w=>
  rw [Avc]at h
  have e:=Ae3 h (by decide) (by decide) hr
  rw [if_neg (by decide),if_neg (by decide),if_neg (by decide)]at e
  simp [isR,e,Ao6]
 |bool w n hn=>
  rw [Awi]at h
  by_cases h1:n=1
  ·rw [if_pos h1]at h
   have e:=Ae3 h (by decide) (by decide) hr
   rw [if_neg (by decide),if_neg (by decide),if_neg (by decide)]at e
   simp [isR,e,As6]
  ·rw [if_neg h1]at h
   have e:=Ae3 h (by decide) (by decide) hr
   rw [if_neg (by decide),if_neg (by decide),if_neg (by decide)]at e
   simp [isR,e,Amz]
 |int w n h0 h1=>
  rw [A0g]at h ⊢
  have e:=Ai5 h h0 h1 hr
  simp [isR,e,V.k]
 |name w t h0 h1=>
  rw [Avl]at h
  have e:=Av0 h h0 h1 hr
  simp [isR,e]
 |text w t h1=>
  rw [Avu]at h
  have e:=A2b h h1
  simp [isR,e]
 |list w l hw hl=>
  rw [Av4]at h
  have e:=Sg (c:=91) h (by decide) (by decide)
  rw [Jc,if_pos (by decide)]at e
  simp [isR,e]
 |dict w d hw hk hd hl=>
  rw [Avn]at h
  have e:=Sg (c:=60) h (by decide) (by decide)
  rw [Jc,if_neg (by decide),if_neg (by decide),if_neg (by decide),if_neg (by decide),if_pos (by decide),if_pos (by rfl)]at e
  simp [isR,e]
 |link w n g h0 h1 h2 h3=>
  rw [Avt,List.append_assoc]at h
  have e:=Ai5 h (by omega) (by omega) (L8 _ (by decide))
  have h':=Ii h
  have e2:=Ou h'
  have e3:=Ai5 (s:=s) (a:=a+(Lib.itoa n).length+1) (x:=g) (rest:=[32,82]++rest) (by have:=Wt h';simpa using this) (by omega) (by omega) (L8 _ (by decide))
  rw [e3]at e2
  refine⟨by rw [e],by simp [e],by simp [e],by simp [e],by simp [isR,e],fun _=> .inr ?_⟩
  rw [e]
  simp only [isR,e2];simp
theorem A7r {w:Nat} {v:V} (hv:Md w v) {s:List UInt8} {a:Nat} {rest:List UInt8} (h:s.drop a=v.wr++rest)(hr:Qv rest)(hc:v.k=2→Calm s (a+v.wr.length)):Calm s a:=by
 have t:=Arf hv h hr
 refine⟨?_,t.2.2.2.2.1⟩
 unfold Od
 split
 ·rename_i h1
  rw [if_neg]
  intro hR
  rcases t.2.2.2.2.2 h1.2 with h2 |h2
  ·rw [h2.2]at hR
   exact(hc h2.1).2 hR
  ·exact h2 hR
 ·rfl
def tailW(l:List V):List UInt8:=(l.map fun v=>32::v.wr).flatten
theorem Aet(v:V)(r:List V):tailW (v::r)=32::v.wr++tailW r:=by simp [tailW]
theorem Awt(v:V)(r:List V):Ci ((v::r).map V.wr)=v.wr++tailW r:=by
 rw [Ci,List.map_cons,Lib.join_cons]
 simp [Lib.joinTail,tailW,Function.comp_def]
theorem Ab9(l:List V)(rest:List UInt8):Qv (tailW l++93::rest):=by
 cases l with
 |nil=>exact L8 _ (by decide)
 |cons v r=>rw [Aet];exact L8 _ (by decide)
theorem Ar4 {s:List UInt8} {a:Nat} {rest:List UInt8} (h:s.drop a=93::rest):Ao s (a:Int)=⟨0,5,0,[],a,a+1⟩:=by
 rw [Sg h (by decide) (by decide),Jc,if_neg (by decide),if_pos (by decide)]
theorem Awq {w:Nat} {s:List UInt8} {rest:List UInt8} :∀(l:List V) (a:Nat),(∀x∈l,Md w x)→s.drop a=tailW l++93::rest→Calm s a:=by
 intro l
 induction l with
 |nil=>
  intro a _ h
  have e:=Ar4 h
  exact Asz (by simp [e]) (by simp [e])
 |cons v r ih=>
  intro a hv h
  rw [Aet,List.cons_append,List.cons_append,List.append_assoc]at h
  have h':=Wt h
  exact Aj7 h (A7r (hv v List.mem_cons_self) h' (Ab9 r rest) fun _=>ih _ (fun x hx=>hv x (List.mem_cons_of_mem _ hx)) (Ii h'))
def RdB(s:List UInt8)(M:Nat)(rd:Nat→V × Nat × Int)(v:V):Prop:=
 ∀(a:Nat) (rest:List UInt8),s.length<a+M→s.drop a=v.wr++rest→Qv rest→(v.k=2→Od s (a+v.wr.length:Nat)=none)→rd a=(v,a+v.wr.length,0)
theorem Z8 {w:Nat} {v:V} (hv:Md w v):0<v.wr.length:=by
 cases hv with
 |null w=>rw [Avc];decide
 |bool w n hn=>rw [Awi];split<;>decide
 |int w n h0 h1=>rw [A0g];exact List.length_pos_iff.2 (A15 n)
 |name w t h0 h1=>rw [Avl];exact Nat.succ_pos _
 |text w t h1=>rw [Avu,Wx];split<;>exact Nat.succ_pos _
 |list w l hw hl=>rw [Av4];exact Nat.succ_pos _
 |dict w d hw hk hd hl=>rw [Avn];exact Nat.succ_pos _
 |link w n g h0 h1 h2 h3=>rw [Avt];simp;omega
theorem Awn {w M:Nat} {s:List UInt8} {rest:List UInt8} {rd:Nat→V × Nat × Int} (hb:∀(a:Nat) (r:List UInt8),s.drop a=32::r→rd a=rd (a+1)):
 ∀(l:List V) (m a:Nat) (acc:List V),(∀x∈l,Md w x∧RdB s M rd x)→s.drop a=tailW l++93::rest→s.length<a+m→s.length<a+M→Pi s rd m a acc=(.mk 5 0 0 [] (acc++l) [],a+(tailW l).length+1,0):=by
 intro l
 induction l with
 |nil=>
  intro m a acc _ h hm hM
  have hl:=Ae5 h
  cases m with
  |zero=>omega
  |succ m=>
  have e:=Ar4 h
  rw [Pi,e]
  simp [tailW]
 |cons v r ih=>
  intro m a acc hv h hm hM
  rw [Aet,List.cons_append,List.cons_append,List.append_assoc]at h
  have hl:=Ae5 h
  cases m with
  |zero=>omega
  |succ m=>
  have h':=Wt h
  have hv1:=hv v List.mem_cons_self
  have hvr:∀x∈r,Md w x∧RdB s M rd x:=fun x hx=>hv x (List.mem_cons_of_mem _ hx)
  have t:=Arf hv1.1 h' (Ab9 r rest)
  have hc:=Awq r _ (fun x hx=>(hvr x hx).1) (Ii h')
  have e:rd a=(v,a+1+v.wr.length,0):=by rw [hb a _ h];exact hv1.2 (a+1) _ (by omega) h' (Ab9 r rest) fun _=>hc.1
  have wp:=Z8 hv1.1
  have t1:(Ao s (a:Int)).e=0:=by rw [Ou h];exact t.1
  have t2:(Ao s (a:Int)).k≠5:=by rw [Ou h];exact t.2.2.1
  rw [Pi,if_neg (fun h=>h t1),if_neg t2,e]
  simp only
  rw [if_neg (by decide),ih m _ (acc++[v]) hvr (Ii h') (by omega) (by omega),Aet]
  simp;omega
theorem A5l {w M:Nat} {s:List UInt8} {rest:List UInt8} {rd:Nat→V × Nat × Int} (hb:∀(a:Nat) (r:List UInt8),s.drop a=32::r→rd a=rd (a+1))
 (l:List V)(m a:Nat)(hv:∀x∈l,Md w x∧RdB s M rd x)(h:s.drop a=Ci (l.map V.wr)++93::rest)(hm:s.length<a+m)(hM:s.length<a+M):Pi s rd m a []=(.mk 5 0 0 [] l [],a+(Ci (l.map V.wr)).length+1,0):=by
 cases l with
 |nil=>exact Awn hb [] m a [] hv h hm hM
 |cons v r=>
  rw [Awt,List.append_assoc]at h
  have hl:a<s.length:=by
   have:=congrArg List.length h
   have wp:=Z8 (hv v List.mem_cons_self).1
   simp at this;omega
  cases m with
  |zero=>omega
  |succ m=>
  have hv1:=hv v List.mem_cons_self
  have hvr:∀x∈r,Md w x∧RdB s M rd x:=fun x hx=>hv x (List.mem_cons_of_mem _ hx)
  have t:=Arf hv1.1 h (Ab9 r rest)
  have hc:=Awq r _ (fun x hx=>(hvr x hx).1) (Ii h)
  have e:rd a=(v,a+v.wr.length,0):=hv1.2 a _ hM h (Ab9 r rest) fun _=>hc.1
  have wp:=Z8 hv1.1
  rw [Pi,if_neg (fun h=>h t.1),if_neg t.2.2.1,e]
  simp only
  rw [if_neg (by decide),List.nil_append,Awn hb r m _ [v] hvr (Ii h) (by omega) (by omega),Awt]
  simp;omega
def Wz(p:Pr):List UInt8:=Df p.1++32::p.2.wr
theorem Aww(p:Pr):Ci [Df p.1,p.2.wr]=Wz p:=by rw [Ci,Lib.join_cons];simp [Lib.joinTail,Wz]
def Ux(d:List Pr):List UInt8:=(d.map fun p=>32::Wz p).flatten
theorem Aeq(p:Pr)(r:List Pr):Ux (p::r)=32::Wz p++Ux r:=by simp [Ux]
theorem Aug(p:Pr)(r:List Pr):Ci ((p::r).map fun p=>Ci [Df p.1,p.2.wr])=Wz p++Ux r:=by
 rw [Ci,List.map_cons,Lib.join_cons,Aww]
 simp only [Lib.joinTail,Ux,List.map_map,Function.comp_def,Aww]
 rfl
theorem A35(d:List Pr)(rest:List UInt8):Qv (Ux d++62::62::rest):=by
 cases d with
 |nil=>exact L8 _ (by decide)
 |cons p r=>rw [Aeq];exact L8 _ (by decide)
theorem Aw3 {s:List UInt8} {a:Nat} {rest:List UInt8} (h:s.drop a=62::62::rest):Ao s (a:Int)=⟨0,7,0,[],a,a+2⟩:=by
 rw [Sg h (by decide) (by decide),Jc,if_neg (by decide),if_neg (by decide),if_neg (by decide),if_neg (by decide),if_neg (by decide),if_pos (by decide),if_pos (by rfl)]
theorem Azj {s:List UInt8} {a:Nat} {p:Pr} {rest:List UInt8} (hk:¬Jd p.1)(h:s.drop a=Wz p++rest):Ao s (a:Int)=⟨0,2,0,p.1,a,a+(Df p.1).length⟩:=by
 unfold Jd at hk
 rw [not_or]at hk
 rw [Wz,List.append_assoc]at h
 exact Av0 h hk.2 (by omega) (L8 _ (by decide))
theorem A28 {s:List UInt8} {rest:List UInt8} (d:List Pr)(a:Nat)(hk:∀p∈d,¬Jd p.1)(h:s.drop a=Ux d++62::62::rest):Calm s a:=by
 cases d with
 |nil=>
  have e:=Aw3 h
  exact Asz (by simp [e]) (by simp [e])
 |cons p r=>
  rw [Aeq,List.cons_append,List.cons_append,List.append_assoc]at h
  have h':=Wt h
  have e:=Azj (hk p List.mem_cons_self) h'
  exact Aj7 h (Asz (by rw [e];simp) (by rw [e];simp))
theorem Aw5 {w M:Nat} {s:List UInt8} {rest:List UInt8} {rd:Nat→V × Nat × Int} (hb:∀(a:Nat) (r:List UInt8),s.drop a=32::r→rd a=rd (a+1))(p:Pr)(r:List Pr)(m a:Nat)(acc:List Pr)(hp:Md w p.2∧RdB s M rd p.2)
 (hk:∀q∈p::r,¬Jd q.1)(ha:acc.any (fun q=>q.1 == p.1)=false)(t:Tk)(ht:Ao s (a:Int)=t)(t1:t.e=0)(t2:t.k=2)(t3:t.s=p.1)(h:s.drop t.b=32::(p.2.wr++(Ux r++62::62::rest)))(hM:s.length<t.b+1+M):
 Om s rd (m+1) a acc=Om s rd m (t.b+1+p.2.wr.length) (acc++[p]):=by
 have h':=Wt h
 have hc:=A28 r _ (fun q hq=>hk q (List.mem_cons_of_mem _ hq)) (Ii h')
 have e:rd t.b=(p.2,t.b+1+p.2.wr.length,0):=by rw [hb _ _ h];exact hp.2 _ _ hM h' (A35 r rest) fun _=>hc.1
 rw [Om,ht,if_neg (fun h=>h t1),if_neg (by rw [t2];decide),if_neg (by rw [t2];decide),if_neg (fun h=>h t2),t3,ha,if_neg (by decide),e]
 simp only
 rw [if_neg (by decide)]
theorem Bbp {acc:List Pr} {k:Ky} (h:k∉acc.map fun p=>p.1):acc.any (fun q=>q.1 == k)=false:=by
 rw [List.any_eq_false]
 intro q hq e
 exact h (List.mem_map.2 ⟨q,hq,by simpa using e⟩)
theorem Aw9 {w M:Nat} {s:List UInt8} {rest:List UInt8} {rd:Nat→V × Nat × Int} (hb:∀(a:Nat) (r:List UInt8),s.drop a=32::r→rd a=rd (a+1)):
 ∀(d:List Pr) (m a:Nat) (acc:List Pr),(∀p∈d,Md w p.2∧RdB s M rd p.2)→(∀p∈d,¬Jd p.1)→((acc++d).map fun p=>p.1).Nodup→s.drop a=Ux d++62::62::rest→s.length<a+m→s.length<a+M→Om s rd m a acc=(.mk 6 0 0 [] [] (acc++d),a+(Ux d).length+2,0):=by
 intro d
 induction d with
 |nil=>
  intro m a acc _ _ _ h hm hM
  have hl:=Ae5 h
  cases m with
  |zero=>omega
  |succ m=>
  have e:=Aw3 h
  rw [Om,e]
  simp [Ux]
 |cons p r ih=>
  intro m a acc hv hk hn h hm hM
  rw [Aeq,List.cons_append,List.cons_append,List.append_assoc]at h
  have hl:=Ae5 h
  cases m with
  |zero=>omega
  |succ m=>
  have h':=Wt h
  have e:=Azj (hk p List.mem_cons_self) h'
  have hn':p.1∉acc.map fun q=>q.1:=by
   intro hm
   rw [List.map_append,List.nodup_append]at hn
   exact hn.2.2 _ hm _ (by simp) rfl
  have h2:s.drop (a+1+(Df p.1).length)=32::(p.2.wr++(Ux r++62::62::rest)):=by
   have:=h'
   rw [Wz,List.append_assoc]at this
   simpa using Ii this
  have h3:=Ii (x:=32::p.2.wr) h2
  rw [Aw5 hb p r m a acc (hv p List.mem_cons_self) hk (Bbp hn') ⟨0,2,0,p.1,a+1,a+1+(Df p.1).length⟩ (by rw [Ou h];exact e) rfl rfl rfl h2 (by simp only;omega)]
  simp only
  rw [ih m _ (acc++[p]) (fun q hq=>hv q (List.mem_cons_of_mem _ hq)) (fun q hq=>hk q (List.mem_cons_of_mem _ hq)) (by simpa using hn) (by
   have e:a+1+(Df p.1).length+1+p.2.wr.length=a+1+(Df p.1).length+(32::p.2.wr).length:=by simp;omega
   rw [e];exact h3) (by omega) (by omega),Aeq]
  simp [Wz];omega
theorem A5v {w M:Nat} {s:List UInt8} {rest:List UInt8} {rd:Nat→V × Nat × Int} (hb:∀(a:Nat) (r:List UInt8),s.drop a=32::r→rd a=rd (a+1))
 (d:List Pr)(m a:Nat)(hv:∀p∈d,Md w p.2∧RdB s M rd p.2)(hk:∀p∈d,¬Jd p.1)(hn:(d.map fun p=>p.1).Nodup)(h:s.drop a=Ci (d.map fun p=>Ci [Df p.1,p.2.wr])++62::62::rest)(hm:s.length<a+m)(hM:s.length<a+M):
 Om s rd m a []=(.mk 6 0 0 [] [] d,a+(Ci (d.map fun p=>Ci [Df p.1,p.2.wr])).length+2,0):=by
 cases d with
 |nil=>exact Aw9 hb [] m a [] hv hk hn h hm hM
 |cons p r=>
  rw [Aug,List.append_assoc]at h
  have hl:a<s.length:=by
   have:=congrArg List.length h
   simp [Wz,Df]at this;omega
  cases m with
  |zero=>omega
  |succ m=>
  have e:=Azj (hk p List.mem_cons_self) h
  have h2:s.drop (a+(Df p.1).length)=32::(p.2.wr++(Ux r++62::62::rest)):=by
   have:=h
   rw [Wz,List.append_assoc]at this
   simpa using Ii this
  have h3:=Ii (x:=32::p.2.wr) h2
  rw [Aw5 hb p r m a [] (hv p List.mem_cons_self) hk rfl ⟨0,2,0,p.1,a,a+(Df p.1).length⟩ e rfl rfl rfl h2 (by simp only;omega)]
  simp only
  rw [Aw9 hb r m _ ([]++[p]) (fun q hq=>hv q (List.mem_cons_of_mem _ hq)) (fun q hq=>hk q (List.mem_cons_of_mem _ hq)) (by simpa using hn) (by
   have e:a+(Df p.1).length+1+p.2.wr.length=a+(Df p.1).length+(32::p.2.wr).length:=by simp;omega
   rw [e];exact h3) (by omega) (by omega),Aug]
  simp [Wz];omega
theorem Au9 {s:List UInt8} {m w a:Nat} {t:List UInt8} {rest:List UInt8} (h:s.drop a=t++rest)(h0:t≠[])(hw:∀c∈t,kd c=2)(hr:Qv rest)(h1:(Gg t).2≠0)(h2:(Gg t).2≠3)(h3:¬127<t.length):Dt s (m+1) w a=Aed t (a+t.length):=by
 have e:=Ae3 h h0 hw hr
 rw [if_neg h1,if_neg h2,if_neg h3]at e
 rw [Dt,e];simp only
 rw [if_neg (by decide),if_neg (by decide),if_neg (by decide),if_neg (by decide),if_neg (by decide),if_pos (by decide)]
theorem fuel {s:List UInt8} {a m:Nat} {x rest:List UInt8} (hm:s.length<a+m)(h:s.drop a=x++rest)(hx:0<x.length):∃n,m=n+1:=by
 have:=congrArg List.length h
 simp at this
 exact⟨m - 1,by omega⟩
theorem A6y {w:Nat} {v:V} (hv:Md w v):∀(s:List UInt8) (m:Nat),RdB s m (Dt s m w) v:=by
 induction hv with
 |null w=>
  intro s m a rest hm h hr _
  obtain⟨m,rfl⟩:∃n,m=n+1:=fuel hm h (Z8 (.null w))
  rw [Avc]at h ⊢
  rw [Au9 h (by decide) (by decide) hr (by decide) (by decide) (by decide)];rfl
 |bool w n hn=>
  intro s m a rest hm h hr _
  obtain⟨m,rfl⟩:∃n,m=n+1:=fuel hm h (Z8 (.bool w n hn))
  rw [Awi]at h ⊢
  rcases hn with rfl |rfl
  ·rw [if_neg (by decide)]at h ⊢
   rw [Au9 h (by decide) (by decide) hr (by decide) (by decide) (by decide)];rfl
  ·rw [if_pos rfl]at h ⊢
   rw [Au9 h (by decide) (by decide) hr (by decide) (by decide) (by decide)];rfl
 |int w n h0 h1=>
  intro s m a rest hm h hr hc
  obtain⟨m,rfl⟩:∃n,m=n+1:=fuel hm h (Z8 (.int w n h0 h1))
  have hc':=hc rfl
  rw [A0g]at h hc' ⊢
  have e:=Ai5 h h0 h1 hr
  rw [Dt,e];simp only
  rw [if_neg (by decide),if_neg (by decide),if_pos (by decide)]
  rw [numL,hc']
 |name w t h0 h1=>
  intro s m a rest hm h hr hc
  obtain⟨m,rfl⟩:∃n,m=n+1:=fuel hm h (Z8 (.name w t h0 h1))
  rw [Avl]at h ⊢
  have e:=Av0 h h0 h1 hr
  rw [Dt,e];simp only
  rw [if_neg (by decide),if_neg (by decide),if_neg (by decide),if_pos (by decide)]
 |text w t h1=>
  intro s m a rest hm h hr hc
  obtain⟨m,rfl⟩:∃n,m=n+1:=fuel hm h (Z8 (.text w t h1))
  rw [Avu]at h ⊢
  have e:=A2b h h1
  rw [Dt,e];simp only
  rw [if_neg (by decide),if_neg (by decide),if_neg (by decide),if_neg (by decide),if_pos (by decide)]
 |list w l hw64 hl ih=>
  intro s m a rest hm h hr hc
  obtain⟨m,rfl⟩:∃n,m=n+1:=fuel hm h (Z8 (.list w l hw64 hl))
  rw [Av4]at h ⊢
  have e:=Sg (c:=91) h (by decide) (by decide)
  rw [Jc,if_pos (by decide)]at e
  have h':s.drop (a+1)=Ci (l.map V.wr)++93::rest:=by
   have:=Wt h
   simpa using this
  rw [Dt,e];simp only
  rw [if_neg (by decide),if_neg (by decide),if_neg (by decide),if_neg (by decide),if_neg (by decide),if_neg (by decide),if_pos (by decide)]
  rw [if_neg (by omega)]
  rw [A5l (w:=w+1) (rest:=rest) (fun a r hb=>Ayj hb _ _) l (s.length+1) (a+1) (fun x hx=>⟨hl x hx,ih x hx s m⟩) h' (by omega) (by omega)]
  simp;omega
 |dict w d hw64 hk hd hl ih=>
  intro s m a rest hm h hr hc
  obtain⟨m,rfl⟩:∃n,m=n+1:=fuel hm h (Z8 (.dict w d hw64 hk hd hl))
  rw [Avn]at h ⊢
  have e:=Sg (c:=60) h (by decide) (by decide)
  rw [Jc,if_neg (by decide),if_neg (by decide),if_neg (by decide),if_neg (by decide),if_pos (by decide),if_pos (by rfl)]at e
  have h':s.drop (a+2)=Ci (d.map fun p=>Ci [Df p.1,p.2.wr])++62::62::rest:=by
   have:=Bcn h
   simpa using this
  rw [Dt,e];simp only
  rw [if_neg (by decide),if_neg (by decide),if_neg (by decide),if_neg (by decide),if_neg (by decide),if_neg (by decide),if_neg (by decide),if_pos (by decide)]
  rw [if_neg (by omega)]
  rw [A5v (w:=w+1) (rest:=rest) (fun a r hb=>Ayj hb _ _) d (s.length+1) (a+2) (fun x hx=>⟨hl x hx,ih x hx s m⟩) hk hd h' (by omega) (by omega)]
  simp;omega
 |link w n g h0 h1 h2 h3=>
  intro s m a rest hm h hr hc
  obtain⟨m,rfl⟩:∃n,m=n+1:=fuel hm h (Z8 (.link w n g h0 h1 h2 h3))
  rw [Avt]at h ⊢
  rw [List.append_assoc]at h
  have e:=Ai5 h (by omega) (by omega) (L8 _ (by decide))
  have h4:s.drop (a+(Lib.itoa n).length)=32::(Lib.itoa g++([32,82]++rest)):=by simpa using Ii h
  have h5:=Wt h4
  have e2:=Ai5 (a:=a+(Lib.itoa n).length+1) h5 (by omega) (by omega) (L8 _ (by decide))
  have h6:s.drop (a+(Lib.itoa n).length+1+(Lib.itoa g).length)=32::82::rest:=Ii h5
  have h7:=Wt h6
  have e3:=Bfz (a:=a+(Lib.itoa n).length+1+(Lib.itoa g).length+1) h7 hr
  have el:Od s ((a+(Lib.itoa n).length:Nat):Int).toNat=some (g,a+(Lib.itoa n).length+1+(Lib.itoa g).length+1+1):=by
   rw [Int.toNat_natCast,Od,Ou h4,e2,if_pos ⟨rfl,rfl⟩]
   simp only
   rw [Ou h6,e3,if_pos ⟨rfl,rfl,rfl⟩]
  rw [Int.toNat_natCast]at el
  rw [Dt,e];simp only
  rw [if_neg (by decide),if_neg (by decide),if_pos (by decide)]
  rw [numL,el]
  simp only
  rw [if_neg (by omega)]
  simp;omega
end Go.Proofs.Sim.Pa
namespace Go.Proofs.Sim.Pa
open Go Go.Proofs Go.Proofs.Sim Go.Proofs.Sim.Va Go.Proofs.Sim.Se Go.Proofs.Sim.St
theorem Awx(k:Ky)(l:List Pr):(l.map fun p=>p.1).count k=(Jj pk k l).length:=by
 induction l with
 |nil=>rfl
 |cons p r ih=>
  rw [List.map_cons,List.count_cons,Abc,ih]
  by_cases h:p.1=k<;>simp [h]
theorem A3p(l:List Pr):((uniq l).map fun p=>p.1).Nodup:=by
 rw [List.nodup_iff_count]
 intro k
 rw [Awx,Ay1,List.length_take]
 exact Nat.min_le_left ..
theorem Awp(l:List Pr):(((uniq l).filter Uh).map fun p=>p.1).Nodup:=(A3p l).sublist (List.filter_sublist.map _)
theorem Au7 {d:List Pr} {p:Pr} (h:p∈Ta d):∃q∈d,p=(q.1,q.2.plain):=by
 obtain⟨q,hq,e⟩:=List.mem_map.1 (Akn (List.mem_filter.1 h).1)
 exact⟨q,hq,e.symm⟩
theorem A2x(l:List Pr):uniq ((uniq l).filter Uh)=(uniq l).filter Uh:=by
 refine(Bbv ((Aqq l).sublist List.filter_sublist) fun k=> ?_).symm
 refine(List.take_of_length_le ?_).symm
 rw [←Awx]
 exact List.nodup_iff_count.1 (Awp l) k
theorem Bbk(l:List V):(V.mk 5 0 0 [] l []).plain= .mk 5 0 0 [] (l.map V.plain) []:=by rw [Fj];rfl
theorem Baj(d:List Pr):(V.mk 6 0 0 [] [] d).plain= .mk 6 0 0 [] [] (Ta d):=by rw [Fj];rfl
theorem A6f {w:Nat} {v:V} (h:Md w v):Md w v.plain:=by
 induction h with
 |null w=>rw [Fj];exact .null w
 |bool w n h=>rw [Fj];exact .bool w n h
 |int w n h0 h1=>rw [Fj];exact .int w n h0 h1
 |name w s h0 h1=>rw [Fj];exact .name w s h0 h1
 |text w s h1=>rw [Fj];exact .text w s h1
 |list w l hw hl ih=>
  rw [Bbk]
  refine .list w _ hw fun x hx=> ?_
  obtain⟨y,hy,rfl⟩:=List.mem_map.1 hx
  exact ih y hy
 |dict w d hw hk hd hl ih=>
  rw [Baj]
  refine .dict w _ hw (fun p hp=> ?_) (Awp _) fun p hp=> ?_
  ·obtain⟨q,hq,rfl⟩:=Au7 hp;exact hk q hq
  ·obtain⟨q,hq,rfl⟩:=Au7 hp;exact ih q hq
 |link w n g h0 h1 h2 h3=>rw [Fj];exact .link w n g h0 h1 h2 h3
theorem Bep {d:List Pr} (h:∀p∈d,p.2.plain=p.2):Mr d=d:=by
 unfold Mr
 conv=>rhs;rw [←List.map_id d]
 exact List.map_congr_left fun p hp=>by rw [h p hp];rfl
theorem A1n:∀(N:Nat) (v:V),SizeOf.sizeOf v<N→v.plain.plain=v.plain:=by
 intro N
 induction N with
 |zero=>intro v h;cases h
 |succ N ih=>
  intro v hN
  obtain⟨k,n,g,s,l,d⟩:=v
  have hl:(l.map V.plain).map V.plain=l.map V.plain:=by
   rw [List.map_map]
   exact List.map_congr_left fun x hx=>ih x (by have:=Ang (k:=k) (n:=n) (g:=g) (s:=s) (d:=d) hx;omega)
  have hd:Ta (Ta d)=Ta d:=by
   have e:Mr (Ta d)=Ta d:=Bep fun p hp=>by
    obtain⟨q,hq,rfl⟩:=Au7 hp
    exact ih q.2 (by have:=Amv (k:=k) (n:=n) (g:=g) (s:=s) (l:=l) hq;omega)
   unfold Ta at e ⊢
   rw [e,A2x,List.filter_filter]
   simp
  rw [Fj (.mk k n g s l d)]
  show(R4 k n g s (l.map V.plain) (Mr d)).plain=R4 k n g s (l.map V.plain) (Mr d)
  unfold R4
  by_cases h1:k=1∨k=2
  ·rw [if_pos h1,Fj];show R4 k n 0 [] [] []=_;rw [R4,if_pos h1]
  rw [if_neg h1]
  by_cases h3:k=3∨k=4
  ·rw [if_pos h3,Fj];show R4 k 0 0 s [] []=_;rw [R4,if_neg h1,if_pos h3]
  rw [if_neg h3]
  by_cases h5:k=5
  ·rw [if_pos h5,Fj];show R4 k 0 0 [] ((l.map V.plain).map V.plain) []=_;rw [R4,if_neg h1,if_neg h3,if_pos h5,hl]
  rw [if_neg h5]
  by_cases h6:k=6
  ·rw [if_pos h6,Fj];show R4 k 0 0 [] [] (Mr (Ta d))=_;rw [R4,if_neg h1,if_neg h3,if_neg h5,if_pos h6];show V.mk k 0 0 [] [] (Ta (Ta d))=_;rw [hd];rfl
  rw [if_neg h6]
  by_cases h7:k=7
  ·rw [if_pos h7,Fj];show R4 k n g [] [] []=_;rw [R4,if_neg h1,if_neg h3,if_neg h5,if_neg h6,if_pos h7]
  rw [if_neg h7]
  by_cases h8:k=8
  ·rw [if_pos h8,Fj];show R4 k 0 0 s [] (Mr (Ta d))=_;rw [R4,if_neg h1,if_neg h3,if_neg h5,if_neg h6,if_neg h7,if_pos h8];show V.mk k 0 0 s [] (Ta (Ta d))=_;rw [hd];rfl
  rw [if_neg h8]
  unfold zero
  rw [Fj];rfl
theorem Aql(v:V):v.plain.plain=v.plain:=A1n _ v (Nat.lt_succ_self _)
theorem Bbq(N:Nat):∀(l out:List UInt8) (a:Nat),l.length<N→(0:UInt8)∉out→out.length≤127→(0:UInt8)∉(nameL l out a).1∧(nameL l out a).1.length≤127:=by
 induction N with
 |zero=>intro l out a h;cases h
 |succ N ih=>
  intro l out a hN h0 hl
  have bad:(0:UInt8)∉([]:List UInt8)∧([]:List UInt8).length≤127:=⟨by simp,by simp⟩
  cases l with
  |nil=>rw [nameL];exact⟨h0,hl⟩
  |cons c r=>
   have hN':r.length<N:=by simp at hN;omega
   rw [nameL.eq_def]
   simp only
   split
   ·rename_i hk
    split
    ·split
     ·rename_i h l r'
      split
      ·exact bad
      ·rename_i h1
       split
       ·exact bad
       ·rename_i h2
        refine ih r' _ _ (by simp at hN';omega) ?_ (by simp;omega)
        intro hm
        rcases List.mem_append.1 hm with hm |hm
        ·exact h0 hm
        ·rw [List.mem_singleton]at hm
         have e:=congrArg UInt8.toNat hm
         have hv:∀x:UInt8,Cy x≤15:=by intro x;unfold Cy;split<;>(try split)<;>(try split)<;>omega
         have b1:=hv h;have b2:=hv l
         rw [Wi,UInt8.toNat_ofNat']at e
         simp at e
         omega
     ·exact bad
    ·split
     ·exact bad
     ·rename_i h2
      refine ih r _ _ hN' ?_ (by simp;omega)
      intro hm
      rcases List.mem_append.1 hm with hm |hm
      ·exact h0 hm
      ·rw [List.mem_singleton]at hm
       subst hm
       revert hk;decide
   ·exact⟨h0,hl⟩
theorem Bbz:∀(m:Nat) (l out:List UInt8) (d:Int) (a:Nat),out.length≤65535→(Je m l out d a).1.length≤65535:=by
 intro m
 induction m with
 |zero=>intro l out d a h;rw [Je];simp
 |succ m ih=>
  intro l out d a h
  cases l with
  |nil=>rw [Je];simp
  |cons c r=>
   rw [Je]
   split
   ·split
    ·simp
    ·exact ih _ _ _ _ (by simp;omega)
   ·split
    ·split
     ·simp
     ·split
      ·simp
      ·exact ih _ _ _ _ (by simp;omega)
    ·split
     ·exact h
     ·split
      ·simp
      ·exact ih _ _ _ _ (by simp;omega)
theorem Bdj:∀(l:List UInt8) (half:Int) (out:List UInt8) (a:Nat),out.length≤65535→(O8 l half out a).1.length≤65535:=by
 intro l
 induction l with
 |nil=>intro half out a h;rw [O8];simp
 |cons c r ih=>
  intro half out a h
  rw [O8]
  split
  ·split
   ·exact h
   ·split
    ·simp
    ·simp;omega
  ·split
   ·split
    ·exact ih _ _ _ h
    ·simp
   ·split
    ·exact ih _ _ _ h
    ·split
     ·simp
     ·exact ih _ _ _ (by simp;omega)
def A0b(t:Tk):Prop:=t.e=0→(t.k=1→ -2147483647≤t.n∧t.n≤2147483647)∧(t.k=2→(0:UInt8)∉t.s∧t.s.length≤127)∧(t.k=3→t.s.length≤65535)
theorem Anv(e:Int)(h:e≠0):A0b (Adl e):=fun h'=>absurd h' h
theorem Ajm(k:Int)(a b:Nat)(h1:k≠1)(h2:k≠2)(h3:k≠3):A0b ⟨0,k,0,[],a,b⟩:=fun _=>⟨fun h=>absurd h h1,fun h=>absurd h h2,fun h=>absurd h h3⟩
theorem Avo(k:Int)(p:Nat)(x:Part)(hk:k=2∨k=3)(h2:k=2→(0:UInt8)∉x.1∧x.1.length≤127)(h3:k=3→x.1.length≤65535):A0b (partT k p x):=by
 unfold partT
 split
 ·exact fun _=>⟨fun h=>(by simp only at h;omega),h2,h3⟩
 ·rename_i h;exact Anv _ h
theorem A70(s:List UInt8): -2147483647≤(Gg s).1∧(Gg s).1≤2147483647:=by
 unfold Gg
 have:=A2l (Oi s)
 split<;>simp only<;>omega
theorem Bed(c:UInt8)(r:List UInt8)(p:Nat):A0b (Jc c r p):=by
 unfold Jc
 split
 ·exact Ajm _ _ _ (by decide) (by decide) (by decide)
 split
 ·exact Ajm _ _ _ (by decide) (by decide) (by decide)
 split
 ·exact Avo 2 _ _ (.inl rfl) (fun _=>Bbq _ r [] _ (Nat.lt_succ_self _) (by simp) (by simp)) fun h=>absurd h (by decide)
 split
 ·exact Avo 3 _ _ (.inr rfl) (fun h=>absurd h (by decide)) fun _=>Bbz _ _ _ _ _ (by simp)
 split
 ·split
  ·exact Ajm _ _ _ (by decide) (by decide) (by decide)
  ·exact Avo 3 _ _ (.inr rfl) (fun h=>absurd h (by decide)) fun _=>Bdj _ _ _ _ (by simp)
 split
 ·split
  ·exact Ajm _ _ _ (by decide) (by decide) (by decide)
  ·exact Anv _ (by decide)
 split
 ·exact Anv _ (by decide)
 unfold N9
 split
 ·exact fun _=>⟨fun _=>A70 _,fun h=>absurd h (by simp),fun h=>absurd h (by simp)⟩
 split
 ·exact Anv _ (by decide)
 split
 ·exact Anv _ (by decide)
 ·exact fun _=>⟨fun h=>absurd h (by simp),fun h=>absurd h (by simp),fun h=>absurd h (by simp)⟩
theorem A14(s:List UInt8)(a:Int):A0b (Ao s a):=by
 unfold Ao
 split
 ·exact Ajm _ _ _ (by decide) (by decide) (by decide)
 ·exact Bed _ _ _
end Go.Proofs.Sim.Pa

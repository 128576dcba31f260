import Derived.Test.YtaggabcajidnnaaGreatDoorPaL
import Derived.Test.YtaggabcajidnnaaGreatDoorDgM
namespace Go.Proofs.Sim.Pa
open Go Go.Proofs Go.Proofs.Sim Go.Proofs.Sim.Va Go.Proofs.Sim.Se
def Xf(r:List UInt8):Prop:=∀c t,r=c::t→kd c≠2
theorem Lf {c:UInt8} (t:List UInt8)(h:kd c≠2):Xf (c::t):=by
 intro d u e;injection e with e1 e2;subst e1;exact h
theorem Je {s:List UInt8} {a:Nat} {x y:List UInt8} (h:s.drop a=x++y):s.drop (a+x.length)=y:=by
 rw [←List.drop_drop,h,List.drop_left]
theorem Afj {s:List UInt8} {a:Nat} {c:UInt8} {r:List UInt8} (h:s.drop a=c::r):a<s.length:=by
 have:=congrArg List.length h
 simp at this;omega
theorem Bev {s:List UInt8} {a:Nat} (h:a≤s.length):Pw s (a:Int)=a:=by
 unfold Pw
 rw [if_neg (by omega),if_neg (by omega)];omega
theorem Bu0 {c:UInt8} {r:List UInt8} (h0:kd c≠0)(h1:c.toNat≠37):Gr false (c::r)=0:=by
 have e:Oq false c=false:=by unfold Oq;split<;>simp
 rw [Gr,e,if_pos ⟨rfl,h0⟩]
theorem V5 {s:List UInt8} {a:Nat} {c:UInt8} {r:List UInt8} (h:s.drop a=c::r)(h0:kd c≠0)(h1:c.toNat≠37):Ao s (a:Int)=Kw c r a:=by
 have e:Ei s (a:Int)=a:=by rw [Ei,Bev (Nat.le_of_lt (Afj h)),h,Bu0 h0 h1];omega
 rw [Ao,e,h]
theorem Oo {s:List UInt8} {a:Nat} {r:List UInt8} (h:s.drop a=32::r):Ao s (a:Int)=Ao s ((a+1:Nat):Int):=by
 have hl:=Afj h
 have h2:s.drop (a+1)=r:=Je (x:=[32]) h
 have e:Ei s (a:Int)=Ei s ((a+1:Nat):Int):=by
  rw [Ei,Ei,Bev (Nat.le_of_lt hl),Bev hl,h,h2,Gr,if_neg (by decide)]
  show a+(Gr false r+1)=_
  omega
 rw [Ao,Ao,e]
theorem Asz:∀n,n<16→Df (Ab2 n)=(n:Int):=by decide
theorem Bkh:∀n,n<16→(Ab2 n).toNat≠62:=by decide
theorem Bqz(n:Nat):byB (n:Int)=UInt8.ofNat n:=rfl
theorem Bcm(c:UInt8):byB (16*((c.toNat / 16:Nat):Int)+((c.toNat % 16:Nat):Int))=c:=by
 have e:(16*((c.toNat / 16:Nat):Int)+((c.toNat % 16:Nat):Int))=((c.toNat:Nat):Int):=by omega
 rw [e,Bqz,UInt8.ofNat_toNat]
theorem Bij(c:UInt8):c.toNat / 16<16:=by have:=c.toNat_lt;omega
theorem Bn7(c:UInt8):c.toNat % 16<16:=by omega
theorem ne0 {c:UInt8} (h:c≠0):c.toNat≠0:=fun e=>h (UInt8.toNat_inj.1 e)
theorem Blj(s:List UInt8):∀(rest out:List UInt8) (a:Nat),(0:UInt8)∉s→out.length+s.length≤127→Xf rest→nameL (s.flatMap Jl++rest) out a=(out++s,a+(s.flatMap Jl).length,0):=by
 induction s with
 |nil=>
  intro rest out a _ _ hr
  rw [List.flatMap_nil,List.nil_append,List.append_nil]
  cases rest with
  |nil=>rfl
  |cons c t=>rw [nameL.eq_def];simp only;rw [if_neg (hr c t rfl)];rfl
 |cons c s ih=>
  intro rest out a h0 hl hr
  have h0':c≠0∧(0:UInt8)∉s:=⟨fun e=>h0 (e ▸ List.mem_cons_self),fun e=>h0 (List.mem_cons_of_mem _ e)⟩
  simp only [List.length_cons]at hl
  rw [List.flatMap_cons,List.append_assoc]
  by_cases hb:Axy c=true
  ·have e:Jl c=[c]:=by rw [Jl,if_pos hb]
   have hb':=of_decide_eq_true hb
   rw [e,List.singleton_append,nameL.eq_def]
   simp only
   rw [if_pos (show kd c=2 from hb'.2.2.1),if_neg hb'.2.2.2,if_neg (by omega),ih rest (out++[c]) (a+1) h0'.2 (by simp;omega) hr]
   simp;omega
  ·have e:Jl c=35::Kk c:=by rw [Jl,if_neg hb]
   rw [e]
   show nameL (35::Ab2 (c.toNat / 16)::Ab2 (c.toNat % 16)::(s.flatMap Jl++rest)) out a=_
   rw [nameL,if_pos (by decide),if_pos (by decide),Asz _ (Bij c),Asz _ (Bn7 c),if_neg (by have:=ne0 h0'.1;omega),if_neg (by omega),Bcm,ih rest (out++[c]) (a+3) h0'.2 (by simp;omega) hr]
   simp [Kk];omega
theorem Bbm {c:UInt8} (r:List UInt8)(h1:c.toNat≠10)(h2:c.toNat≠13):U6 (c::r)=0:=by rw [Afk,if_neg h1,if_neg h2]
theorem Bnv {c:UInt8} (r:List UInt8)(h:c=40∨c=41∨c=92):Ao6 (c::r)=some ([c],1):=by
 rcases h with rfl |rfl |rfl<;>rw [Ao6,Bbm r (by decide) (by decide)]<;>rfl
theorem Bmc(s:List UInt8):∀(m:Nat) (rest out:List UInt8) (a:Nat),s.all P9=true→(s.flatMap J7).length<m→out.length+s.length≤65535→Ku m (s.flatMap J7++41::rest) out 1 a=(out++s,a+(s.flatMap J7).length+1,0):=by
 induction s with
 |nil=>
  intro m rest out a _ hm _
  rw [List.flatMap_nil,List.nil_append,List.append_nil]
  cases m with
  |zero=>cases hm
  |succ m=>rw [Ku,Bbm rest (by decide) (by decide),if_neg (by decide),if_neg (by decide),if_pos (by decide)];rfl
 |cons c s ih=>
  intro m rest out a h0 hm hl
  rw [List.all_cons,Bool.and_eq_true]at h0
  simp only [List.length_cons]at hl
  rw [List.flatMap_cons,List.length_append]at hm
  rw [List.flatMap_cons,List.append_assoc]
  have hc:=of_decide_eq_true h0.1
  cases m with
  |zero=>cases hm
  |succ m=>
  by_cases hb:c=40∨c=41∨c=92
  ·have e:J7 c=[92,c]:=by rw [J7,if_pos hb]
   rw [e]at hm ⊢
   show Ku (m+1) (92::c::(s.flatMap J7++41::rest)) out 1 a=_
   rw [Ku,Bbm _ (by decide) (by decide),if_neg (by decide),if_pos (by decide),Bnv _ hb]
   simp only
   rw [if_neg (by simp;omega)]
   show Ku m (s.flatMap J7++41::rest) (out++[c]) 1 (a+1+1)=_
   rw [ih m rest (out++[c]) (a+1+1) h0.2 (by simp only [List.length_cons,List.length_nil]at hm;omega) (by simp;omega)]
   simp;omega
  ·have e:J7 c=[c]:=by rw [J7,if_neg hb]
   have h40:c.toNat≠40:=fun h=>hb (.inl (UInt8.toNat_inj.1 h))
   have h41:c.toNat≠41:=fun h=>hb (.inr (.inl (UInt8.toNat_inj.1 h)))
   have h92:c.toNat≠92:=fun h=>hb (.inr (.inr (UInt8.toNat_inj.1 h)))
   rw [e]at hm ⊢
   show Ku (m+1) (c::(s.flatMap J7++41::rest)) out 1 a=_
   rw [Ku,Bbm _ (by omega) (by omega),if_neg (by decide),if_neg h92,if_neg (fun h=>h41 h.1),if_neg (by omega),if_neg h40,if_neg h41,ih m rest (out++[c]) (a+1) h0.2 (by simp only [List.length_cons,List.length_nil]at hm;omega) (by simp;omega)]
   simp;omega
theorem Bn5(s:List UInt8):∀(rest out:List UInt8) (a:Nat),out.length+s.length≤65535→Ru (s.flatMap Kk++62::rest) (-1) out a=(out++s,a+(s.flatMap Kk).length+1,0):=by
 induction s with
 |nil=>intro rest out a _;rw [List.flatMap_nil,List.nil_append,List.append_nil,Ru,if_pos (by decide),if_pos (by decide)];rfl
 |cons c s ih=>
  intro rest out a hl
  simp only [List.length_cons]at hl
  rw [List.flatMap_cons,List.append_assoc]
  show Ru (Ab2 (c.toNat / 16)::Ab2 (c.toNat % 16)::(s.flatMap Kk++62::rest)) (-1) out a=_
  rw [Ru,if_neg (Bkh _ (Bij c)),Asz _ (Bij c),if_neg (by omega),if_pos (by decide),Ru,if_neg (Bkh _ (Bn7 c)),Asz _ (Bn7 c),if_neg (by omega),if_neg (by omega),if_neg (by omega),Bcm,
   ih rest (out++[c]) (a+1+1) (by simp;omega)]
  simp [Kk];omega
theorem Bl4(w:List UInt8)(rest:List UInt8)(hw:∀c∈w,kd c=2)(hr:Xf rest):Cz 2 (w++rest)=w.length:=by
 induction w with
 |nil=>
  cases rest with
  |nil=>rfl
  |cons c t=>rw [List.nil_append,Cz,if_neg (hr c t rfl)];rfl
 |cons c w ih=>rw [List.cons_append,Cz,if_pos (hw c List.mem_cons_self),ih fun d hd=>hw d (List.mem_cons_of_mem _ hd)];rfl
theorem Bpc {c:UInt8} (r:List UInt8)(p:Nat)(h:kd c=2):Kw c r p=Rl (c::r) p:=by
 have ne:∀n:Nat,Sa (n:Int)≠2→c.toNat≠n:=fun n hn e=>hn (by rw [←h,kd,e])
 rw [Kw,if_neg (ne 91 (by decide)),if_neg (ne 93 (by decide)),if_neg (ne 47 (by decide)),if_neg (ne 40 (by decide)),if_neg (ne 60 (by decide)),if_neg (ne 62 (by decide)),if_neg (by rw [h];decide)]
theorem Bk8 {c:UInt8} (h:Vi c=true):kd c=2:=by
 rw [Uj]at h
 unfold kd Sa
 rw [if_neg (by omega),if_neg (by omega)]
theorem Brl(x:Int):∀c∈Lib.itoa x,kd c=2:=by
 intro c hc
 unfold Lib.itoa at hc
 split at hc
 ·rcases List.mem_cons.1 hc with rfl |hc
  ·decide
  ·exact Bk8 (Ax0 _ c hc)
 ·exact Bk8 (Ax0 _ c hc)
theorem Bgz(x:Int):Lib.itoa x≠[]:=by
 unfold Lib.itoa
 split
 ·simp
 ·exact A5e _
theorem Ak6 {s:List UInt8} {a:Nat} {w rest:List UInt8} (h:s.drop a=w++rest)(h0:w≠[])(hw:∀c∈w,kd c=2)(hr:Xf rest):Ao s (a:Int)=
 if(Hd w).2=0 then⟨0,1,(Hd w).1,[],a,a+w.length⟩else if(Hd w).2=3 then Aiv 3 else if 127<w.length then Aiv 8 else⟨0,8,0,w,a,a+w.length⟩:=by
 obtain⟨c,r,rfl⟩:∃c r,w=c::r:=by
  cases w with
  |nil=>exact absurd rfl h0
  |cons c r=>exact⟨c,r,rfl⟩
 have hk:=hw c List.mem_cons_self
 have e1:Ao s (a:Int)=Rl ((c::r)++rest) a:=by
  rw [V5 h (by rw [hk];decide) (by intro e;rw [kd,e]at hk;revert hk;decide),Bpc _ _ hk]
  rfl
 have e2:((c::r)++rest).take (c::r).length=c::r:=List.take_left
 rw [e1,Rl,Bl4 _ rest hw hr,e2]
theorem Aho {s:List UInt8} {a:Nat} {x:Int} {rest:List UInt8} (h:s.drop a=Lib.itoa x++rest)(h0: -2147483647≤x)(h1:x≤2147483647)(hr:Xf rest):Ao s (a:Int)=⟨0,1,x,[],a,a+(Lib.itoa x).length⟩:=by
 rw [Ak6 h (Bgz x) (Brl x) hr,(back x h0 h1).2,if_pos rfl]
theorem Bws {s:List UInt8} {a:Nat} {rest:List UInt8} (h:s.drop a=82::rest)(hr:Xf rest):Ao s (a:Int)=⟨0,8,0,[82],a,a+1⟩:=by
 rw [Ak6 (w:=[82]) h (by simp) (by decide) hr];rfl
theorem A8d {s:List UInt8} {a:Nat} {t rest:List UInt8} (h:s.drop a=Cm t++rest)(h0:(0:UInt8)∉t)(hl:t.length≤127)(hr:Xf rest):Ao s (a:Int)=⟨0,2,0,t,a,a+(Cm t).length⟩:=by
 have h':s.drop a=47::(t.flatMap Jl++rest):=h
 rw [V5 h' (by decide) (by decide),Kw,if_neg (by decide),if_neg (by decide),if_pos (by decide),Blj t rest [] (a+1) h0 (by simpa using hl) hr]
 simp [partT,Cm];omega
theorem Bhc {s:List UInt8} {a:Nat} {t rest:List UInt8} (h:s.drop a=Si t++rest)(hl:t.length≤65535):Ao s (a:Int)=⟨0,3,0,t,a,a+(Si t).length⟩:=by
 unfold Si at h ⊢
 by_cases hs:t.all P9=true
 ·rw [if_pos hs]at h ⊢
  have h':s.drop a=40::(t.flatMap J7++41::rest):=by rw [h];simp
  rw [V5 h' (by decide) (by decide),Kw,if_neg (by decide),if_neg (by decide),if_neg (by decide),if_pos (by decide),Bmc t _ rest [] (a+1) hs (by simp;omega) (by simpa using hl)]
  simp [partT];omega
 ·rw [if_neg hs]at h ⊢
  have h':s.drop a=60::(t.flatMap Kk++62::rest):=by rw [h];simp [Afw]
  have hh:(t.flatMap Kk++62::rest).head?≠some 60:=by
   cases t with
   |nil=>simp
   |cons c t=>
    rw [List.flatMap_cons]
    show some (Ab2 (c.toNat / 16))≠some 60
    have:∀n,n<16→some (Ab2 n)≠some 60:=by decide
    exact this _ (Bij c)
  rw [V5 h' (by decide) (by decide),Kw,if_neg (by decide),if_neg (by decide),if_neg (by decide),if_neg (by decide),if_pos (by decide),if_neg hh,Bn5 t rest [] (a+1) (by simpa using hl)]
  simp [partT,Afw];omega
end Go.Proofs.Sim.Pa
namespace Go.Proofs.Sim.Pa
open Go Go.Proofs Go.Proofs.Sim Go.Proofs.Sim.Va Go.Proofs.Sim.Se
theorem Xx {s:List UInt8} {a:Nat} {c:UInt8} {r:List UInt8} (h:s.drop a=c::r):s.drop (a+1)=r:=Je (x:=[c]) h
theorem Bt1 {s:List UInt8} {a:Nat} {c d:UInt8} {r:List UInt8} (h:s.drop a=c::d::r):s.drop (a+2)=r:=Je (x:=[c,d]) h
inductive Pj:Nat→V→Prop
 |null (w:Nat):Pj w (.mk 0 0 0 [] [] [])
 |bool (w:Nat) (n:Int) (h:n=0∨n=1):Pj w (.mk 1 n 0 [] [] [])
 |int (w:Nat) (n:Int) (h0: -2147483647≤n) (h1:n≤2147483647):Pj w (.mk 2 n 0 [] [] [])
 |name (w:Nat) (s:List UInt8) (h0:(0:UInt8)∉s) (h1:s.length≤127):Pj w (.mk 3 0 0 s [] [])
 |text (w:Nat) (s:List UInt8) (h1:s.length≤65535):Pj w (.mk 4 0 0 s [] [])
 |list (w:Nat) (l:List V) (hw:w<64) (hl:∀x∈l,Pj (w+1) x):Pj w (.mk 5 0 0 [] l [])
 |dict (w:Nat) (d:List Pr) (hw:w<64) (hk:∀p∈d,¬Gg p.1) (hd:(d.map fun p=>p.1).Nodup) (hl:∀p∈d,Pj (w+1) p.2):Pj w (.mk 6 0 0 [] [] d)
 |link (w:Nat) (n g:Int) (h0:1≤n) (h1:n≤8388607) (h2:0≤g) (h3:g≤65535):Pj w (.mk 7 n g [] [] [])
theorem Bvx(l:List Int):Rs l=0↔∀e∈l,e=0:=by
 induction l with
 |nil=>exact⟨fun _ e h=>(nomatch h),fun _=>rfl⟩
 |cons e l ih=>
  rw [Rs]
  by_cases h:e=0
  ·rw [if_neg (fun h'=>h' h),ih];simp [h]
  ·rw [if_pos h];exact⟨fun h'=>absurd h' h,fun h'=>absurd (h' e List.mem_cons_self) h⟩
theorem Bv1(l:List (Ky × Int)):∀seen:List Ky,Aef seen l=0↔(∀x∈l,¬Gg x.1∧x.1∉seen∧x.2=0)∧(l.map fun x=>x.1).Nodup:=by
 induction l with
 |nil=>intro seen;exact⟨fun _=>⟨fun _ h=>(nomatch h),List.nodup_nil⟩,fun _=>rfl⟩
 |cons x l ih=>
  intro seen
  obtain⟨k,e⟩:=x
  rw [Aef]
  by_cases h1:Gg k∨k∈seen
  ·rw [if_pos h1]
   refine⟨fun h=>absurd h (by decide),fun h=> ?_⟩
   have:=h.1 (k,e) List.mem_cons_self
   exact absurd h1 (not_or.2 ⟨this.1,this.2.1⟩)
  ·rw [if_neg h1]
   by_cases h2:e=0
   ·rw [if_neg (fun h=>h h2),ih,List.map_cons,List.nodup_cons]
    rw [not_or]at h1
    constructor
    ·rintro⟨ha,hb⟩
     refine⟨fun x hx=> ?_, ?_,hb⟩
     ·rcases List.mem_cons.1 hx with rfl |hx
      ·exact⟨h1.1,h1.2,h2⟩
      ·have:=ha x hx
       exact⟨this.1,fun h=>this.2.1 (List.mem_append_left _ h),this.2.2⟩
     ·intro hm
      obtain⟨y,hy,e⟩:=List.mem_map.1 hm
      exact(ha y hy).2.1 (by rw [e];simp)
    ·rintro⟨ha,hb,hc⟩
     refine⟨fun x hx=> ?_,hc⟩
     have:=ha x (List.mem_cons_of_mem _ hx)
     refine⟨this.1,fun h=> ?_,this.2.2⟩
     rcases List.mem_append.1 h with h |h
     ·exact this.2.1 h
     ·rw [List.mem_singleton]at h
      exact hb (List.mem_map.2 ⟨x,hx,h⟩)
   ·rw [if_pos h2]
    exact⟨fun h=>absurd h h2,fun h=>absurd (h.1 (k,e) List.mem_cons_self).2.2 h2⟩
theorem Akm(v:V)(w:Int):Ub v false w=0↔(0≤v.k∧v.k≤7)∧¬Fw v∧¬(v.k=3∧(0:UInt8)∈v.s)∧¬Jq v∧¬(v.k=3∧127<v.s.length)∧¬(v.k=4∧65535<v.s.length)∧¬((v.k=5∨v.k=6)∧64≤w):=by
 unfold Ub
 split
 ·rename_i h
  refine⟨fun h=>absurd h (by decide),fun h'=> ?_⟩
  rcases h with h |h
  ·omega
  ·omega
 rename_i h
 have hk:0≤v.k∧v.k≤7:=by
  rw [not_or]at h
  have h8:¬v.k=8:=fun e=>h.2 ⟨e,rfl⟩
  omega
 split
 ·rename_i h1
  refine⟨fun h=>absurd h (by decide),fun h'=> ?_⟩
  rcases h1 with h1 |h1
  ·exact absurd h1 h'.2.1
  ·exact absurd h1 h'.2.2.1
 rename_i h1
 rw [not_or]at h1
 split
 ·rename_i h2;exact⟨fun h=>absurd h (by decide),fun h'=>absurd h2 h'.2.2.2.1⟩
 rename_i h2
 split
 ·rename_i h3
  refine⟨fun h=>absurd h (by decide),fun h'=> ?_⟩
  rcases h3 with h3 |h3
  ·exact absurd h3 h'.2.2.2.2.1
  ·exact absurd h3 h'.2.2.2.2.2.1
 rename_i h3
 rw [not_or]at h3
 rw [if_neg (by omega)]
 split
 ·rename_i h4
  exact⟨fun h=>absurd h (by decide),fun h'=>absurd (show(v.k=5∨v.k=6)∧64≤w from ⟨by omega,h4.2⟩) h'.2.2.2.2.2.2⟩
 ·rename_i h4
  exact⟨fun _=>⟨hk,h1.1,h1.2,h2,h3.1,h3.2,fun h=>h4 ⟨by omega,h.2⟩⟩,fun _=>rfl⟩
theorem Ake(v:V)(w:Int):v.chk false w=0↔Ub v false w=0∧(∀x∈v.l,x.chk false (w+1)=0)∧(∀p∈v.d,¬Gg p.1∧p.2.chk false (w+1)=0)∧(v.d.map fun p=>p.1).Nodup:=by
 have hl:Rs (v.l.map fun x=>x.chk false (w+1))=0↔∀x∈v.l,x.chk false (w+1)=0:=by rw [Bvx];simp
 have hd:Aef [] (v.d.map fun p=>(p.1,p.2.chk false (w+1)))=0↔(∀p∈v.d,¬Gg p.1∧p.2.chk false (w+1)=0)∧(v.d.map fun p=>p.1).Nodup:=by
  rw [Bv1,List.map_map]
  constructor
  ·rintro⟨h1,h2⟩
   refine⟨fun p hp=> ?_,h2⟩
   have:=h1 _ (List.mem_map_of_mem hp)
   exact⟨this.1,this.2.2⟩
  ·rintro⟨h1,h2⟩
   refine⟨fun x hx=> ?_,h2⟩
   obtain⟨p,hp,rfl⟩:=List.mem_map.1 hx
   exact⟨(h1 p hp).1,(fun h=>nomatch h),(h1 p hp).2⟩
 rw [Bct]
 by_cases h1:Ub v false w=0
 ·rw [if_neg (fun h=>h h1)]
  by_cases h2:Rs (v.l.map fun x=>x.chk false (w+1))=0
  ·rw [if_neg (fun h=>h h2),hd]
   exact⟨fun h=>⟨h1,hl.1 h2,h.1,h.2⟩,fun h=>⟨h.2.2.1,h.2.2.2⟩⟩
  ·rw [if_pos h2]
   exact⟨fun h=>absurd h h2,fun h=>absurd (hl.2 h.2.1) h2⟩
 ·rw [if_pos h1]
  exact⟨fun h=>absurd h h1,fun h=>absurd h.1 h1⟩
theorem A8t {w:Nat} {v:V} (h:Pj w v):v.chk false (w:Int)=0:=by
 induction h with
 |null w=>rw [Ake,Akm];simp [V.k,V.n,V.g,V.s,V.l,V.d,Fw,Jq]
 |bool w n h=>rw [Ake,Akm];simp [V.k,V.n,V.g,V.s,V.l,V.d,Fw,Jq];omega
 |int w n h0 h1=>rw [Ake,Akm];simp [V.k,V.n,V.g,V.s,V.l,V.d,Fw,Jq];omega
 |name w s h0 h1=>rw [Ake,Akm];simp [V.k,V.n,V.g,V.s,V.l,V.d,Fw,Jq,h0];omega
 |text w s h1=>rw [Ake,Akm];simp [V.k,V.n,V.g,V.s,V.l,V.d,Fw,Jq];omega
 |list w l hw hl ih=>
  rw [Ake,Akm]
  refine⟨?_,fun x hx=>ih x hx,fun p hp=>(nomatch hp),List.nodup_nil⟩
  simp [V.k,V.n,V.g,V.s,V.l,V.d,Fw,Jq];omega
 |dict w d hw hk hd hl ih=>
  rw [Ake,Akm]
  refine⟨?_,fun p hp=>(nomatch hp),fun p hp=>⟨hk p hp,ih p hp⟩,hd⟩
  simp [V.k,V.n,V.g,V.s,V.l,V.d,Fw,Jq];omega
 |link w n g h0 h1 h2 h3=>rw [Ake,Akm];simp [V.k,V.n,V.g,V.s,V.l,V.d,Fw,Jq];omega
theorem Bq4:∀(N:Nat) (v:V),SizeOf.sizeOf v<N→∀w:Nat,v.chk false (w:Int)=0→Pj w v:=by
 intro N
 induction N with
 |zero=>intro v h;cases h
 |succ N ih=>
  intro v hN w h
  rw [Ake,Akm]at h
  obtain⟨k,n,g,s,l,d⟩:=v
  obtain⟨⟨hk,hx,h0,ho,h1,h2,h3⟩,hl,hd,hn⟩:=h
  have hl':∀x∈l,Pj (w+1) x:=fun x hx=>ih x (by have:=Axq (k:=k) (n:=n) (g:=g) (s:=s) (d:=d) hx;omega) (w+1) (hl x hx)
  have hd':∀p∈d,Pj (w+1) p.2:=fun p hp=>ih p.2 (by have:=Axp (k:=k) (n:=n) (g:=g) (s:=s) (l:=l) hp;omega) (w+1) (hd p hp).2
  simp only [V.k,V.n,V.g,V.s,V.l,V.d,Fw,Jq]at hk hx h0 ho h1 h2 h3 hd hn
  obtain⟨x1,hx⟩:=not_or.1 hx
  obtain⟨x2,hx⟩:=not_or.1 hx
  obtain⟨x3,hx⟩:=not_or.1 hx
  obtain⟨x4,x5⟩:=not_or.1 hx
  have xl:k≠5→l=[]:=fun hk=>List.length_eq_zero_iff.1 (Nat.eq_zero_of_not_pos fun h=>x4 ⟨h,hk⟩)
  have xd:¬(k=6∨k=8)→d=[]:=fun hk=>List.length_eq_zero_iff.1 (Nat.eq_zero_of_not_pos fun h=>x5 ⟨h,hk⟩)
  have xs:¬(k=3∨k=4∨k=8)→s=[]:=fun hk=>Classical.byContradiction fun e=>x3 ⟨e,hk⟩
  have xn:¬(k=1∨k=2∨k=7)→n=0:=fun hk=>Classical.byContradiction fun e=>x1 ⟨e,hk⟩
  have xg:k≠7→g=0:=fun hk=>Classical.byContradiction fun e=>x2 ⟨e,hk⟩
  clear x1 x2 x3 x4 x5 ih hl hN
  have hd:=fun p hp=>(hd p hp).1
  have c:k=0∨k=1∨k=2∨k=3∨k=4∨k=5∨k=6∨k=7:=by clear xl xd xs xn xg h0 ho h1 h2 h3;omega
  rcases c with rfl |rfl |rfl |rfl |rfl |rfl |rfl |rfl
  ·rw [xl (by decide),xd (by decide),xs (by decide),xn (by decide),xg (by decide)];exact .null w
  ·rw [xl (by decide),xd (by decide),xs (by decide),xg (by decide)];exact .bool w n (by omega)
  ·rw [xl (by decide),xd (by decide),xs (by decide),xg (by decide)];exact .int w n (by omega) (by omega)
  ·rw [xl (by decide),xd (by decide),xn (by decide),xg (by decide)];exact .name w s (fun h=>h0 ⟨rfl,h⟩) (by omega)
  ·rw [xl (by decide),xd (by decide),xn (by decide),xg (by decide)];exact .text w s (by omega)
  ·rw [xd (by decide),xs (by decide),xn (by decide),xg (by decide)];exact .list w l (by omega) hl'
  ·rw [xl (by decide),xs (by decide),xn (by decide),xg (by decide)];exact .dict w d (by omega) hd hn hd'
  ·rw [xl (by decide),xd (by decide),xs (by decide)];exact .link w n g (by omega) (by omega) (by omega) (by omega)
theorem Brz(v:V)(w:Nat):v.chk false (w:Int)=0↔Pj w v:=⟨Bq4 _ v (Nat.lt_succ_self _) w,A8t⟩
theorem A89(l:List V):(V.mk 5 0 0 [] l []).wr=91::(Bn (l.map V.wr)++[93]):=by rw [Ou];rfl
theorem A87(d:List Pr):(V.mk 6 0 0 [] [] d).wr=60::60::(Bn (d.map fun p=>Bn [Cm p.1,p.2.wr])++[62,62]):=by
 rw [Ou]
 show [60,60]++Bn ((d.map fun p=>(p.1,p.2.wr)).map fun p=>Bn [Cm p.1,p.2])++[62,62]=_
 rw [List.map_map];rfl
theorem A88(n g:Int):(V.mk 7 n g [] [] []).wr=Lib.itoa n++32::(Lib.itoa g++[32,82]):=by
 rw [Ou]
 show Bn [Lib.itoa n,Lib.itoa g]++[32,82]=_
 rw [Bn,Lib.join_cons];simp [Lib.joinTail]
theorem A6i(n:Int):(V.mk 2 n 0 [] [] []).wr=Lib.itoa n:=by rw [Ou];rfl
theorem A9a(s:List UInt8):(V.mk 3 0 0 s [] []).wr=Cm s:=by rw [Ou];rfl
theorem A9c(s:List UInt8):(V.mk 4 0 0 s [] []).wr=Si s:=by rw [Ou];rfl
theorem A9b:(V.mk 0 0 0 [] [] []).wr=Ayk:=by rw [Ou];rfl
theorem Ayn(n:Int):(V.mk 1 n 0 [] [] []).wr=if n=1 then A6d else Axr:=by rw [Ou];rfl
def isR(s:List UInt8)(a:Nat):Prop:=(Ao s a).e=0∧(Ao s a).k=8∧(Ao s a).s=[82]
def Calm(s:List UInt8)(a:Nat):Prop:=Sb s a=none∧¬isR s a
theorem Bco {s:List UInt8} {a:Nat} (h1:(Ao s a).k≠1)(h8:(Ao s a).k≠8):Calm s a:=
 ⟨by rw [Sb,if_neg (fun h=>h1 h.2)],fun h=>h8 h.2.1⟩
theorem A5c {s:List UInt8} {a:Nat} {r:List UInt8} (h:s.drop a=32::r)(hc:Calm s (a+1)):Calm s a:=by
 unfold Calm Sb isR at hc ⊢
 rw [Oo h];exact hc
theorem Be0 {s:List UInt8} {a:Nat} {r:List UInt8} (h:s.drop a=32::r)(m w:Nat):Eh s m w a=Eh s m w (a+1):=by
 cases m with
 |zero=>rfl
 |succ m=>rw [Eh,Eh,Oo h]
theorem A2y {w:Nat} {v:V} (hv:Pj w v) {s:List UInt8} {a:Nat} {rest:List UInt8} (h:s.drop a=v.wr++rest)(hr:Xf rest):
 (Ao s a).e=0∧(Ao s a).k≠0∧(Ao s a).k≠5∧(Ao s a).k≠7∧¬isR s a∧((Ao s a).k=1→(v.k=2∧(Ao s a).b=a+v.wr.length)∨¬isR s (Ao s a).b):=by
 cases hv with
 |null w=>
  rw [A9b]at h
  have e:=Ak6 h (by decide) (by decide) hr
  rw [if_neg (by decide),if_neg (by decide),if_neg (by decide)]at e
  simp [isR,e,Ayk]
 |bool w n hn=>
  rw [Ayn]at h
  by_cases h1:n=1
  ·rw [if_pos h1]at h
   have e:=Ak6 h (by decide) (by decide) hr
   rw [if_neg (by decide),if_neg (by decide),if_neg (by decide)]at e
   simp [isR,e,A6d]
  ·rw [if_neg h1]at h
   have e:=Ak6 h (by decide) (by decide) hr
   rw [if_neg (by decide),if_neg (by decide),if_neg (by decide)]at e
   simp [isR,e,Axr]
 |int w n h0 h1=>
  rw [A6i]at h ⊢
  have e:=Aho h h0 h1 hr
  simp [isR,e,V.k]
 |name w t h0 h1=>
  rw [A9a]at h
  have e:=A8d h h0 h1 hr
  simp [isR,e]
 |text w t h1=>
  rw [A9c]at h
  have e:=Bhc h h1
  simp [isR,e]
 |list w l hw hl=>
  rw [A89]at h
  have e:=V5 (c:=91) h (by decide) (by decide)
  rw [Kw,if_pos (by decide)]at e
  simp [isR,e]
 |dict w d hw hk hd hl=>
  rw [A87]at h
  have e:=V5 (c:=60) h (by decide) (by decide)
  rw [Kw,if_neg (by decide),if_neg (by decide),if_neg (by decide),if_neg (by decide),if_pos (by decide),if_pos (by rfl)]at e
  simp [isR,e]
 |link w n g h0 h1 h2 h3=>
  rw [A88,List.append_assoc]at h
  have e:=Aho h (by omega) (by omega) (Lf _ (by decide))
  have h':=Je h
  have e2:=Oo h'
  have e3:=Aho (s:=s) (a:=a+(Lib.itoa n).length+1) (x:=g) (rest:=[32,82]++rest) (by have:=Xx h';simpa using this) (by omega) (by omega) (Lf _ (by decide))
  rw [e3]at e2
  refine⟨by rw [e],by simp [e],by simp [e],by simp [e],by simp [isR,e],fun _=> .inr ?_⟩
  rw [e]
  simp only [isR,e2];simp
theorem Bnd {w:Nat} {v:V} (hv:Pj w v) {s:List UInt8} {a:Nat} {rest:List UInt8} (h:s.drop a=v.wr++rest)(hr:Xf rest)(hc:v.k=2→Calm s (a+v.wr.length)):Calm s a:=by
 have t:=A2y hv h hr
 refine⟨?_,t.2.2.2.2.1⟩
 unfold Sb
 split
 ·rename_i h1
  rw [if_neg]
  intro hR
  rcases t.2.2.2.2.2 h1.2 with h2 |h2
  ·rw [h2.2]at hR
   exact(hc h2.1).2 hR
  ·exact h2 hR
 ·rfl
def tailW(l:List V):List UInt8:=(l.map fun v=>32::v.wr).flatten
theorem Akt(v:V)(r:List V):tailW (v::r)=32::v.wr++tailW r:=by simp [tailW]
theorem A9u(v:V)(r:List V):Bn ((v::r).map V.wr)=v.wr++tailW r:=by
 rw [Bn,List.map_cons,Lib.join_cons]
 simp [Lib.joinTail,tailW,Function.comp_def]
theorem Ahv(l:List V)(rest:List UInt8):Xf (tailW l++93::rest):=by
 cases l with
 |nil=>exact Lf _ (by decide)
 |cons v r=>rw [Akt];exact Lf _ (by decide)
theorem Bcv {s:List UInt8} {a:Nat} {rest:List UInt8} (h:s.drop a=93::rest):Ao s (a:Int)=⟨0,5,0,[],a,a+1⟩:=by
 rw [V5 h (by decide) (by decide),Kw,if_neg (by decide),if_pos (by decide)]
theorem Bab {w:Nat} {s:List UInt8} {rest:List UInt8} :∀(l:List V) (a:Nat),(∀x∈l,Pj w x)→s.drop a=tailW l++93::rest→Calm s a:=by
 intro l
 induction l with
 |nil=>
  intro a _ h
  have e:=Bcv h
  exact Bco (by simp [e]) (by simp [e])
 |cons v r ih=>
  intro a hv h
  rw [Akt,List.cons_append,List.cons_append,List.append_assoc]at h
  have h':=Xx h
  exact A5c h (Bnd (hv v List.mem_cons_self) h' (Ahv r rest) fun _=>ih _ (fun x hx=>hv x (List.mem_cons_of_mem _ hx)) (Je h'))
def RdB(s:List UInt8)(M:Nat)(rd:Nat→V × Nat × Int)(v:V):Prop:=
 ∀(a:Nat) (rest:List UInt8),s.length<a+M→s.drop a=v.wr++rest→Xf rest→(v.k=2→Sb s (a+v.wr.length:Nat)=none)→rd a=(v,a+v.wr.length,0)
theorem Aeq {w:Nat} {v:V} (hv:Pj w v):0<v.wr.length:=by
 cases hv with
 |null w=>rw [A9b];decide
 |bool w n hn=>rw [Ayn];split<;>decide
 |int w n h0 h1=>rw [A6i];exact List.length_pos_iff.2 (Bgz n)
 |name w t h0 h1=>rw [A9a];exact Nat.succ_pos _
 |text w t h1=>rw [A9c,Si];split<;>exact Nat.succ_pos _
 |list w l hw hl=>rw [A89];exact Nat.succ_pos _
 |dict w d hw hk hd hl=>rw [A87];exact Nat.succ_pos _
 |link w n g h0 h1 h2 h3=>rw [A88];simp;omega
theorem A9w {w M:Nat} {s:List UInt8} {rest:List UInt8} {rd:Nat→V × Nat × Int} (hb:∀(a:Nat) (r:List UInt8),s.drop a=32::r→rd a=rd (a+1)):
 ∀(l:List V) (m a:Nat) (acc:List V),(∀x∈l,Pj w x∧RdB s M rd x)→s.drop a=tailW l++93::rest→s.length<a+m→s.length<a+M→Sc s rd m a acc=(.mk 5 0 0 [] (acc++l) [],a+(tailW l).length+1,0):=by
 intro l
 induction l with
 |nil=>
  intro m a acc _ h hm hM
  have hl:=Afj h
  cases m with
  |zero=>omega
  |succ m=>
  have e:=Bcv h
  rw [Sc,e]
  simp [tailW]
 |cons v r ih=>
  intro m a acc hv h hm hM
  rw [Akt,List.cons_append,List.cons_append,List.append_assoc]at h
  have hl:=Afj h
  cases m with
  |zero=>omega
  |succ m=>
  have h':=Xx h
  have hv1:=hv v List.mem_cons_self
  have hvr:∀x∈r,Pj w x∧RdB s M rd x:=fun x hx=>hv x (List.mem_cons_of_mem _ hx)
  have t:=A2y hv1.1 h' (Ahv r rest)
  have hc:=Bab r _ (fun x hx=>(hvr x hx).1) (Je h')
  have e:rd a=(v,a+1+v.wr.length,0):=by rw [hb a _ h];exact hv1.2 (a+1) _ (by omega) h' (Ahv r rest) fun _=>hc.1
  have wp:=Aeq hv1.1
  have t1:(Ao s (a:Int)).e=0:=by rw [Oo h];exact t.1
  have t2:(Ao s (a:Int)).k≠5:=by rw [Oo h];exact t.2.2.1
  rw [Sc,if_neg (fun h=>h t1),if_neg t2,e]
  simp only
  rw [if_neg (by decide),ih m _ (acc++[v]) hvr (Je h') (by omega) (by omega),Akt]
  simp;omega
theorem Blc {w M:Nat} {s:List UInt8} {rest:List UInt8} {rd:Nat→V × Nat × Int} (hb:∀(a:Nat) (r:List UInt8),s.drop a=32::r→rd a=rd (a+1))
 (l:List V)(m a:Nat)(hv:∀x∈l,Pj w x∧RdB s M rd x)(h:s.drop a=Bn (l.map V.wr)++93::rest)(hm:s.length<a+m)(hM:s.length<a+M):Sc s rd m a []=(.mk 5 0 0 [] l [],a+(Bn (l.map V.wr)).length+1,0):=by
 cases l with
 |nil=>exact A9w hb [] m a [] hv h hm hM
 |cons v r=>
  rw [A9u,List.append_assoc]at h
  have hl:a<s.length:=by
   have:=congrArg List.length h
   have wp:=Aeq (hv v List.mem_cons_self).1
   simp at this;omega
  cases m with
  |zero=>omega
  |succ m=>
  have hv1:=hv v List.mem_cons_self
  have hvr:∀x∈r,Pj w x∧RdB s M rd x:=fun x hx=>hv x (List.mem_cons_of_mem _ hx)
  have t:=A2y hv1.1 h (Ahv r rest)
  have hc:=Bab r _ (fun x hx=>(hvr x hx).1) (Je h)
  have e:rd a=(v,a+v.wr.length,0):=hv1.2 a _ hM h (Ahv r rest) fun _=>hc.1
  have wp:=Aeq hv1.1
  rw [Sc,if_neg (fun h=>h t.1),if_neg t.2.2.1,e]
  simp only
  rw [if_neg (by decide),List.nil_append,A9w hb r m _ [v] hvr (Je h) (by omega) (by omega),A9u]
  simp;omega
def Aa9(p:Pr):List UInt8:=Cm p.1++32::p.2.wr
theorem A92(p:Pr):Bn [Cm p.1,p.2.wr]=Aa9 p:=by rw [Bn,Lib.join_cons];simp [Lib.joinTail,Aa9]
def Ze(d:List Pr):List UInt8:=(d.map fun p=>32::Aa9 p).flatten
theorem Aks(p:Pr)(r:List Pr):Ze (p::r)=32::Aa9 p++Ze r:=by simp [Ze]
theorem A5p(p:Pr)(r:List Pr):Bn ((p::r).map fun p=>Bn [Cm p.1,p.2.wr])=Aa9 p++Ze r:=by
 rw [Bn,List.map_cons,Lib.join_cons,A92]
 simp only [Lib.joinTail,Ze,List.map_map,Function.comp_def,A92]
 rfl
theorem Bjh(d:List Pr)(rest:List UInt8):Xf (Ze d++62::62::rest):=by
 cases d with
 |nil=>exact Lf _ (by decide)
 |cons p r=>rw [Aks];exact Lf _ (by decide)
theorem A9j {s:List UInt8} {a:Nat} {rest:List UInt8} (h:s.drop a=62::62::rest):Ao s (a:Int)=⟨0,7,0,[],a,a+2⟩:=by
 rw [V5 h (by decide) (by decide),Kw,if_neg (by decide),if_neg (by decide),if_neg (by decide),if_neg (by decide),if_neg (by decide),if_pos (by decide),if_pos (by rfl)]
theorem Bds {s:List UInt8} {a:Nat} {p:Pr} {rest:List UInt8} (hk:¬Gg p.1)(h:s.drop a=Aa9 p++rest):Ao s (a:Int)=⟨0,2,0,p.1,a,a+(Cm p.1).length⟩:=by
 unfold Gg at hk
 rw [not_or]at hk
 rw [Aa9,List.append_assoc]at h
 exact A8d h hk.2 (by omega) (Lf _ (by decide))
theorem Bjg {s:List UInt8} {rest:List UInt8} (d:List Pr)(a:Nat)(hk:∀p∈d,¬Gg p.1)(h:s.drop a=Ze d++62::62::rest):Calm s a:=by
 cases d with
 |nil=>
  have e:=A9j h
  exact Bco (by simp [e]) (by simp [e])
 |cons p r=>
  rw [Aks,List.cons_append,List.cons_append,List.append_assoc]at h
  have h':=Xx h
  have e:=Bds (hk p List.mem_cons_self) h'
  exact A5c h (Bco (by rw [e];simp) (by rw [e];simp))
theorem A9l {w M:Nat} {s:List UInt8} {rest:List UInt8} {rd:Nat→V × Nat × Int} (hb:∀(a:Nat) (r:List UInt8),s.drop a=32::r→rd a=rd (a+1))(p:Pr)(r:List Pr)(m a:Nat)(acc:List Pr)(hp:Pj w p.2∧RdB s M rd p.2)
 (hk:∀q∈p::r,¬Gg q.1)(ha:acc.any (fun q=>q.1 == p.1)=false)(t:Tk)(ht:Ao s (a:Int)=t)(t1:t.e=0)(t2:t.k=2)(t3:t.s=p.1)(h:s.drop t.b=32::(p.2.wr++(Ze r++62::62::rest)))(hM:s.length<t.b+1+M):
 Q9 s rd (m+1) a acc=Q9 s rd m (t.b+1+p.2.wr.length) (acc++[p]):=by
 have h':=Xx h
 have hc:=Bjg r _ (fun q hq=>hk q (List.mem_cons_of_mem _ hq)) (Je h')
 have e:rd t.b=(p.2,t.b+1+p.2.wr.length,0):=by rw [hb _ _ h];exact hp.2 _ _ hM h' (Bjh r rest) fun _=>hc.1
 rw [Q9,ht,if_neg (fun h=>h t1),if_neg (by rw [t2];decide),if_neg (by rw [t2];decide),if_neg (fun h=>h t2),t3,ha,if_neg (by decide),e]
 simp only
 rw [if_neg (by decide)]
theorem Bqx {acc:List Pr} {k:Ky} (h:k∉acc.map fun p=>p.1):acc.any (fun q=>q.1 == k)=false:=by
 rw [List.any_eq_false]
 intro q hq e
 exact h (List.mem_map.2 ⟨q,hq,by simpa using e⟩)
theorem A9m {w M:Nat} {s:List UInt8} {rest:List UInt8} {rd:Nat→V × Nat × Int} (hb:∀(a:Nat) (r:List UInt8),s.drop a=32::r→rd a=rd (a+1)):
 ∀(d:List Pr) (m a:Nat) (acc:List Pr),(∀p∈d,Pj w p.2∧RdB s M rd p.2)→(∀p∈d,¬Gg p.1)→((acc++d).map fun p=>p.1).Nodup→s.drop a=Ze d++62::62::rest→s.length<a+m→s.length<a+M→Q9 s rd m a acc=(.mk 6 0 0 [] [] (acc++d),a+(Ze d).length+2,0):=by
 intro d
 induction d with
 |nil=>
  intro m a acc _ _ _ h hm hM
  have hl:=Afj h
  cases m with
  |zero=>omega
  |succ m=>
  have e:=A9j h
  rw [Q9,e]
  simp [Ze]
 |cons p r ih=>
  intro m a acc hv hk hn h hm hM
  rw [Aks,List.cons_append,List.cons_append,List.append_assoc]at h
  have hl:=Afj h
  cases m with
  |zero=>omega
  |succ m=>
  have h':=Xx h
  have e:=Bds (hk p List.mem_cons_self) h'
  have hn':p.1∉acc.map fun q=>q.1:=by
   intro hm
   rw [List.map_append,List.nodup_append]at hn
   exact hn.2.2 _ hm _ (by simp) rfl
  have h2:s.drop (a+1+(Cm p.1).length)=32::(p.2.wr++(Ze r++62::62::rest)):=by
   have:=h'
   rw [Aa9,List.append_assoc]at this
   simpa using Je this
  have h3:=Je (x:=32::p.2.wr) h2
  rw [A9l hb p r m a acc (hv p List.mem_cons_self) hk (Bqx hn') ⟨0,2,0,p.1,a+1,a+1+(Cm p.1).length⟩ (by rw [Oo h];exact e) rfl rfl rfl h2 (by simp only;omega)]
  simp only
  rw [ih m _ (acc++[p]) (fun q hq=>hv q (List.mem_cons_of_mem _ hq)) (fun q hq=>hk q (List.mem_cons_of_mem _ hq)) (by simpa using hn) (by
   have e:a+1+(Cm p.1).length+1+p.2.wr.length=a+1+(Cm p.1).length+(32::p.2.wr).length:=by simp;omega
   rw [e];exact h3) (by omega) (by omega),Aks]
  simp [Aa9];omega
theorem Bkg {w M:Nat} {s:List UInt8} {rest:List UInt8} {rd:Nat→V × Nat × Int} (hb:∀(a:Nat) (r:List UInt8),s.drop a=32::r→rd a=rd (a+1))
 (d:List Pr)(m a:Nat)(hv:∀p∈d,Pj w p.2∧RdB s M rd p.2)(hk:∀p∈d,¬Gg p.1)(hn:(d.map fun p=>p.1).Nodup)(h:s.drop a=Bn (d.map fun p=>Bn [Cm p.1,p.2.wr])++62::62::rest)(hm:s.length<a+m)(hM:s.length<a+M):
 Q9 s rd m a []=(.mk 6 0 0 [] [] d,a+(Bn (d.map fun p=>Bn [Cm p.1,p.2.wr])).length+2,0):=by
 cases d with
 |nil=>exact A9m hb [] m a [] hv hk hn h hm hM
 |cons p r=>
  rw [A5p,List.append_assoc]at h
  have hl:a<s.length:=by
   have:=congrArg List.length h
   simp [Aa9,Cm]at this;omega
  cases m with
  |zero=>omega
  |succ m=>
  have e:=Bds (hk p List.mem_cons_self) h
  have h2:s.drop (a+(Cm p.1).length)=32::(p.2.wr++(Ze r++62::62::rest)):=by
   have:=h
   rw [Aa9,List.append_assoc]at this
   simpa using Je this
  have h3:=Je (x:=32::p.2.wr) h2
  rw [A9l hb p r m a [] (hv p List.mem_cons_self) hk rfl ⟨0,2,0,p.1,a,a+(Cm p.1).length⟩ e rfl rfl rfl h2 (by simp only;omega)]
  simp only
  rw [A9m hb r m _ ([]++[p]) (fun q hq=>hv q (List.mem_cons_of_mem _ hq)) (fun q hq=>hk q (List.mem_cons_of_mem _ hq)) (by simpa using hn) (by
   have e:a+(Cm p.1).length+1+p.2.wr.length=a+(Cm p.1).length+(32::p.2.wr).length:=by simp;omega
   rw [e];exact h3) (by omega) (by omega),A5p]
  simp [Aa9];omega
theorem A86 {s:List UInt8} {m w a:Nat} {t:List UInt8} {rest:List UInt8} (h:s.drop a=t++rest)(h0:t≠[])(hw:∀c∈t,kd c=2)(hr:Xf rest)(h1:(Hd t).2≠0)(h2:(Hd t).2≠3)(h3:¬127<t.length):Eh s (m+1) w a=Aku t (a+t.length):=by
 have e:=Ak6 h h0 hw hr
 rw [if_neg h1,if_neg h2,if_neg h3]at e
 rw [Eh,e];simp only
 rw [if_neg (by decide),if_neg (by decide),if_neg (by decide),if_neg (by decide),if_neg (by decide),if_pos (by decide)]
theorem fuel {s:List UInt8} {a m:Nat} {x rest:List UInt8} (hm:s.length<a+m)(h:s.drop a=x++rest)(hx:0<x.length):∃n,m=n+1:=by
 have:=congrArg List.length h
 simp at this
 exact⟨m - 1,by omega⟩
theorem Blv {w:Nat} {v:V} (hv:Pj w v):∀(s:List UInt8) (m:Nat),RdB s m (Eh s m w) v:=by
 induction hv with
 |null w=>
  intro s m a rest hm h hr _
  obtain⟨m,rfl⟩:∃n,m=n+1:=fuel hm h (Aeq (.null w))
  rw [A9b]at h ⊢
  rw [A86 h (by decide) (by decide) hr (by decide) (by decide) (by decide)];rfl
 |bool w n hn=>
  intro s m a rest hm h hr _
  obtain⟨m,rfl⟩:∃n,m=n+1:=fuel hm h (Aeq (.bool w n hn))
  rw [Ayn]at h ⊢
  rcases hn with rfl |rfl
  ·rw [if_neg (by decide)]at h ⊢
   rw [A86 h (by decide) (by decide) hr (by decide) (by decide) (by decide)];rfl
  ·rw [if_pos rfl]at h ⊢
   rw [A86 h (by decide) (by decide) hr (by decide) (by decide) (by decide)];rfl
 |int w n h0 h1=>
  intro s m a rest hm h hr hc
  obtain⟨m,rfl⟩:∃n,m=n+1:=fuel hm h (Aeq (.int w n h0 h1))
  have hc':=hc rfl
  rw [A6i]at h hc' ⊢
  have e:=Aho h h0 h1 hr
  rw [Eh,e];simp only
  rw [if_neg (by decide),if_neg (by decide),if_pos (by decide)]
  rw [numL,hc']
 |name w t h0 h1=>
  intro s m a rest hm h hr hc
  obtain⟨m,rfl⟩:∃n,m=n+1:=fuel hm h (Aeq (.name w t h0 h1))
  rw [A9a]at h ⊢
  have e:=A8d h h0 h1 hr
  rw [Eh,e];simp only
  rw [if_neg (by decide),if_neg (by decide),if_neg (by decide),if_pos (by decide)]
 |text w t h1=>
  intro s m a rest hm h hr hc
  obtain⟨m,rfl⟩:∃n,m=n+1:=fuel hm h (Aeq (.text w t h1))
  rw [A9c]at h ⊢
  have e:=Bhc h h1
  rw [Eh,e];simp only
  rw [if_neg (by decide),if_neg (by decide),if_neg (by decide),if_neg (by decide),if_pos (by decide)]
 |list w l hw64 hl ih=>
  intro s m a rest hm h hr hc
  obtain⟨m,rfl⟩:∃n,m=n+1:=fuel hm h (Aeq (.list w l hw64 hl))
  rw [A89]at h ⊢
  have e:=V5 (c:=91) h (by decide) (by decide)
  rw [Kw,if_pos (by decide)]at e
  have h':s.drop (a+1)=Bn (l.map V.wr)++93::rest:=by
   have:=Xx h
   simpa using this
  rw [Eh,e];simp only
  rw [if_neg (by decide),if_neg (by decide),if_neg (by decide),if_neg (by decide),if_neg (by decide),if_neg (by decide),if_pos (by decide)]
  rw [if_neg (by omega)]
  rw [Blc (w:=w+1) (rest:=rest) (fun a r hb=>Be0 hb _ _) l (s.length+1) (a+1) (fun x hx=>⟨hl x hx,ih x hx s m⟩) h' (by omega) (by omega)]
  simp;omega
 |dict w d hw64 hk hd hl ih=>
  intro s m a rest hm h hr hc
  obtain⟨m,rfl⟩:∃n,m=n+1:=fuel hm h (Aeq (.dict w d hw64 hk hd hl))
  rw [A87]at h ⊢
  have e:=V5 (c:=60) h (by decide) (by decide)
  rw [Kw,if_neg (by decide),if_neg (by decide),if_neg (by decide),if_neg (by decide),if_pos (by decide),if_pos (by rfl)]at e
  have h':s.drop (a+2)=Bn (d.map fun p=>Bn [Cm p.1,p.2.wr])++62::62::rest:=by
   have:=Bt1 h
   simpa using this
  rw [Eh,e];simp only
  rw [if_neg (by decide),if_neg (by decide),if_neg (by decide),if_neg (by decide),if_neg (by decide),if_neg (by decide),if_neg (by decide),if_pos (by decide)]
  rw [if_neg (by omega)]
  rw [Bkg (w:=w+1) (rest:=rest) (fun a r hb=>Be0 hb _ _) d (s.length+1) (a+2) (fun x hx=>⟨hl x hx,ih x hx s m⟩) hk hd h' (by omega) (by omega)]
  simp;omega
 |link w n g h0 h1 h2 h3=>
  intro s m a rest hm h hr hc
  obtain⟨m,rfl⟩:∃n,m=n+1:=fuel hm h (Aeq (.link w n g h0 h1 h2 h3))
  rw [A88]at h ⊢
  rw [List.append_assoc]at h
  have e:=Aho h (by omega) (by omega) (Lf _ (by decide))
  have h4:s.drop (a+(Lib.itoa n).length)=32::(Lib.itoa g++([32,82]++rest)):=by simpa using Je h
  have h5:=Xx h4
  have e2:=Aho (a:=a+(Lib.itoa n).length+1) h5 (by omega) (by omega) (Lf _ (by decide))
  have h6:s.drop (a+(Lib.itoa n).length+1+(Lib.itoa g).length)=32::82::rest:=Je h5
  have h7:=Xx h6
  have e3:=Bws (a:=a+(Lib.itoa n).length+1+(Lib.itoa g).length+1) h7 hr
  have el:Sb s ((a+(Lib.itoa n).length:Nat):Int).toNat=some (g,a+(Lib.itoa n).length+1+(Lib.itoa g).length+1+1):=by
   rw [Int.toNat_natCast,Sb,Oo h4,e2,if_pos ⟨rfl,rfl⟩]
   simp only
   rw [Oo h6,e3,if_pos ⟨rfl,rfl,rfl⟩]
  rw [Int.toNat_natCast]at el
  rw [Eh,e];simp only
  rw [if_neg (by decide),if_neg (by decide),if_pos (by decide)]
  rw [numL,el]
  simp only
  rw [if_neg (by omega)]
  simp;omega
end Go.Proofs.Sim.Pa
namespace Go.Proofs.Sim.Pa
open Go Go.Proofs Go.Proofs.Sim Go.Proofs.Sim.Va Go.Proofs.Sim.Se Go.Proofs.Sim.St
theorem A9k(k:Ky)(l:List Pr):(l.map fun p=>p.1).count k=(Fe pk k l).length:=by
 induction l with
 |nil=>rfl
 |cons p r ih=>
  rw [List.map_cons,List.count_cons,Nw,ih]
  by_cases h:p.1=k<;>simp [h]
theorem Bjk(l:List Pr):((uniq l).map fun p=>p.1).Nodup:=by
 rw [List.nodup_iff_count]
 intro k
 rw [A9k,A3n,List.length_take]
 exact Nat.min_le_left ..
theorem A9z(l:List Pr):(((uniq l).filter Nl).map fun p=>p.1).Nodup:=(Bjk l).sublist (List.filter_sublist.map _)
theorem A8x {d:List Pr} {p:Pr} (h:p∈R3 d):∃q∈d,p=(q.1,q.2.plain):=by
 obtain⟨q,hq,e⟩:=List.mem_map.1 (A3o (List.mem_filter.1 h).1)
 exact⟨q,hq,e.symm⟩
theorem Bjj(l:List Pr):uniq ((uniq l).filter Nl)=(uniq l).filter Nl:=by
 refine(Bhe ((Apq l).sublist List.filter_sublist) fun k=> ?_).symm
 refine(List.take_of_length_le ?_).symm
 rw [←A9k]
 exact List.nodup_iff_count.1 (A9z l) k
theorem Br3(l:List V):(V.mk 5 0 0 [] l []).plain= .mk 5 0 0 [] (l.map V.plain) []:=by rw [Ec];rfl
theorem Br4(d:List Pr):(V.mk 6 0 0 [] [] d).plain= .mk 6 0 0 [] [] (R3 d):=by rw [Ec];rfl
theorem Blp {w:Nat} {v:V} (h:Pj w v):Pj w v.plain:=by
 induction h with
 |null w=>rw [Ec];exact .null w
 |bool w n h=>rw [Ec];exact .bool w n h
 |int w n h0 h1=>rw [Ec];exact .int w n h0 h1
 |name w s h0 h1=>rw [Ec];exact .name w s h0 h1
 |text w s h1=>rw [Ec];exact .text w s h1
 |list w l hw hl ih=>
  rw [Br3]
  refine .list w _ hw fun x hx=> ?_
  obtain⟨y,hy,rfl⟩:=List.mem_map.1 hx
  exact ih y hy
 |dict w d hw hk hd hl ih=>
  rw [Br4]
  refine .dict w _ hw (fun p hp=> ?_) (A9z _) fun p hp=> ?_
  ·obtain⟨q,hq,rfl⟩:=A8x hp;exact hk q hq
  ·obtain⟨q,hq,rfl⟩:=A8x hp;exact ih q hq
 |link w n g h0 h1 h2 h3=>rw [Ec];exact .link w n g h0 h1 h2 h3
theorem Blt {d:List Pr} (h:∀p∈d,p.2.plain=p.2):Iu d=d:=by
 unfold Iu
 conv=>rhs;rw [←List.map_id d]
 exact List.map_congr_left fun p hp=>by rw [h p hp];rfl
theorem Bga:∀(N:Nat) (v:V),SizeOf.sizeOf v<N→v.plain.plain=v.plain:=by
 intro N
 induction N with
 |zero=>intro v h;cases h
 |succ N ih=>
  intro v hN
  obtain⟨k,n,g,s,l,d⟩:=v
  have hl:(l.map V.plain).map V.plain=l.map V.plain:=by
   rw [List.map_map]
   exact List.map_congr_left fun x hx=>ih x (by have:=Axq (k:=k) (n:=n) (g:=g) (s:=s) (d:=d) hx;omega)
  have hd:R3 (R3 d)=R3 d:=by
   have e:Iu (R3 d)=R3 d:=Blt fun p hp=>by
    obtain⟨q,hq,rfl⟩:=A8x hp
    exact ih q.2 (by have:=Axp (k:=k) (n:=n) (g:=g) (s:=s) (l:=l) hq;omega)
   unfold R3 at e ⊢
   rw [e,Bjj,List.filter_filter]
   simp
  rw [Ec (.mk k n g s l d)]
  show(X7 k n g s (l.map V.plain) (Iu d)).plain=X7 k n g s (l.map V.plain) (Iu d)
  unfold X7
  by_cases h1:k=1∨k=2
  ·rw [if_pos h1,Ec];show X7 k n 0 [] [] []=_;rw [X7,if_pos h1]
  rw [if_neg h1]
  by_cases h3:k=3∨k=4
  ·rw [if_pos h3,Ec];show X7 k 0 0 s [] []=_;rw [X7,if_neg h1,if_pos h3]
  rw [if_neg h3]
  by_cases h5:k=5
  ·rw [if_pos h5,Ec];show X7 k 0 0 [] ((l.map V.plain).map V.plain) []=_;rw [X7,if_neg h1,if_neg h3,if_pos h5,hl]
  rw [if_neg h5]
  by_cases h6:k=6
  ·rw [if_pos h6,Ec];show X7 k 0 0 [] [] (Iu (R3 d))=_;rw [X7,if_neg h1,if_neg h3,if_neg h5,if_pos h6];show V.mk k 0 0 [] [] (R3 (R3 d))=_;rw [hd];rfl
  rw [if_neg h6]
  by_cases h7:k=7
  ·rw [if_pos h7,Ec];show X7 k n g [] [] []=_;rw [X7,if_neg h1,if_neg h3,if_neg h5,if_neg h6,if_pos h7]
  rw [if_neg h7]
  by_cases h8:k=8
  ·rw [if_pos h8,Ec];show X7 k 0 0 s [] (Iu (R3 d))=_;rw [X7,if_neg h1,if_neg h3,if_neg h5,if_neg h6,if_neg h7,if_pos h8];show V.mk k 0 0 s [] (R3 (R3 d))=_;rw [hd];rfl
  rw [if_neg h8]
  unfold zero
  rw [Ec];rfl
theorem Bgb(v:V):v.plain.plain=v.plain:=Bga _ v (Nat.lt_succ_self _)
theorem Brp(N:Nat):∀(l out:List UInt8) (a:Nat),l.length<N→(0:UInt8)∉out→out.length≤127→(0:UInt8)∉(nameL l out a).1∧(nameL l out a).1.length≤127:=by
 induction N with
 |zero=>intro l out a h;cases h
 |succ N ih=>
  intro l out a hN h0 hl
  have bad:(0:UInt8)∉([]:List UInt8)∧([]:List UInt8).length≤127:=⟨by simp,by simp⟩
  cases l with
  |nil=>rw [nameL];exact⟨h0,hl⟩
  |cons c r=>
   have hN':r.length<N:=by simp at hN;omega
   rw [nameL.eq_def]
   simp only
   split
   ·rename_i hk
    split
    ·split
     ·rename_i h l r'
      split
      ·exact bad
      ·rename_i h1
       split
       ·exact bad
       ·rename_i h2
        refine ih r' _ _ (by simp at hN';omega) ?_ (by simp;omega)
        intro hm
        rcases List.mem_append.1 hm with hm |hm
        ·exact h0 hm
        ·rw [List.mem_singleton]at hm
         have e:=congrArg UInt8.toNat hm
         have hv:∀x:UInt8,Df x≤15:=by intro x;unfold Df;split<;>(try split)<;>(try split)<;>omega
         have b1:=hv h;have b2:=hv l
         rw [byB,UInt8.toNat_ofNat']at e
         simp at e
         omega
     ·exact bad
    ·split
     ·exact bad
     ·rename_i h2
      refine ih r _ _ hN' ?_ (by simp;omega)
      intro hm
      rcases List.mem_append.1 hm with hm |hm
      ·exact h0 hm
      ·rw [List.mem_singleton]at hm
       subst hm
       revert hk;decide
   ·exact⟨h0,hl⟩
theorem Bsk:∀(m:Nat) (l out:List UInt8) (d:Int) (a:Nat),out.length≤65535→(Ku m l out d a).1.length≤65535:=by
 intro m
 induction m with
 |zero=>intro l out d a h;rw [Ku];simp
 |succ m ih=>
  intro l out d a h
  cases l with
  |nil=>rw [Ku];simp
  |cons c r=>
   rw [Ku]
   split
   ·split
    ·simp
    ·exact ih _ _ _ _ (by simp;omega)
   ·split
    ·split
     ·simp
     ·split
      ·simp
      ·exact ih _ _ _ _ (by simp;omega)
    ·split
     ·exact h
     ·split
      ·simp
      ·exact ih _ _ _ _ (by simp;omega)
theorem Bua:∀(l:List UInt8) (half:Int) (out:List UInt8) (a:Nat),out.length≤65535→(Ru l half out a).1.length≤65535:=by
 intro l
 induction l with
 |nil=>intro half out a h;rw [Ru];simp
 |cons c r ih=>
  intro half out a h
  rw [Ru]
  split
  ·split
   ·exact h
   ·split
    ·simp
    ·simp;omega
  ·split
   ·split
    ·exact ih _ _ _ h
    ·simp
   ·split
    ·exact ih _ _ _ h
    ·split
     ·simp
     ·exact ih _ _ _ (by simp;omega)
def Bcg(t:Tk):Prop:=t.e=0→(t.k=1→ -2147483647≤t.n∧t.n≤2147483647)∧(t.k=2→(0:UInt8)∉t.s∧t.s.length≤127)∧(t.k=3→t.s.length≤65535)
theorem Axs(e:Int)(h:e≠0):Bcg (Aiv e):=fun h'=>absurd h' h
theorem Arq(k:Int)(a b:Nat)(h1:k≠1)(h2:k≠2)(h3:k≠3):Bcg ⟨0,k,0,[],a,b⟩:=fun _=>⟨fun h=>absurd h h1,fun h=>absurd h h2,fun h=>absurd h h3⟩
theorem A84(k:Int)(p:Nat)(x:Part)(hk:k=2∨k=3)(h2:k=2→(0:UInt8)∉x.1∧x.1.length≤127)(h3:k=3→x.1.length≤65535):Bcg (partT k p x):=by
 unfold partT
 split
 ·exact fun _=>⟨fun h=>(by simp only at h;omega),h2,h3⟩
 ·rename_i h;exact Axs _ h
theorem Bom(s:List UInt8): -2147483647≤(Hd s).1∧(Hd s).1≤2147483647:=by
 unfold Hd
 have:=Bgv (Ra s)
 split<;>simp only<;>omega
theorem Bu2(c:UInt8)(r:List UInt8)(p:Nat):Bcg (Kw c r p):=by
 unfold Kw
 split
 ·exact Arq _ _ _ (by decide) (by decide) (by decide)
 split
 ·exact Arq _ _ _ (by decide) (by decide) (by decide)
 split
 ·exact A84 2 _ _ (.inl rfl) (fun _=>Brp _ r [] _ (Nat.lt_succ_self _) (by simp) (by simp)) fun h=>absurd h (by decide)
 split
 ·exact A84 3 _ _ (.inr rfl) (fun h=>absurd h (by decide)) fun _=>Bsk _ _ _ _ _ (by simp)
 split
 ·split
  ·exact Arq _ _ _ (by decide) (by decide) (by decide)
  ·exact A84 3 _ _ (.inr rfl) (fun h=>absurd h (by decide)) fun _=>Bua _ _ _ _ (by simp)
 split
 ·split
  ·exact Arq _ _ _ (by decide) (by decide) (by decide)
  ·exact Axs _ (by decide)
 split
 ·exact Axs _ (by decide)
 unfold Rl
 split
 ·exact fun _=>⟨fun _=>Bom _,fun h=>absurd h (by simp),fun h=>absurd h (by simp)⟩
 split
 ·exact Axs _ (by decide)
 split
 ·exact Axs _ (by decide)
 ·exact fun _=>⟨fun h=>absurd h (by simp),fun h=>absurd h (by simp),fun h=>absurd h (by simp)⟩
theorem Bg0(s:List UInt8)(a:Int):Bcg (Ao s a):=by
 unfold Ao
 split
 ·exact Arq _ _ _ (by decide) (by decide) (by decide)
 ·exact Bu2 _ _ _
end Go.Proofs.Sim.Pa

import Derived.Test.YtcdjheflchglaaaDoorPaL
import Derived.Test.YtcdjheflchglaaaDoorDgM
namespace Go.Proofs.Sim.Pa
open Go Go.Proofs Go.Proofs.Sim Go.Proofs.Sim.Va Go.Proofs.Sim.Se
def O5(r:List UInt8):Prop:=∀c t,r=c::t→kd c≠2
theorem Axr:O5 []:=fun _ _ h=>nomatch h
theorem Ls {c:UInt8} (t:List UInt8)(h:kd c≠2):O5 (c::t):=by
 intro d u e;injection e with e1 e2;subst e1;exact h
theorem Hl {s:List UInt8} {a:Nat} {x y:List UInt8} (h:s.drop a=x++y):s.drop (a+x.length)=y:=by
 rw [←List.drop_drop,h,List.drop_left]
theorem Yx {s:List UInt8} {a:Nat} {c:UInt8} {r:List UInt8} (h:s.drop a=c::r):a<s.length:=by
 have:=congrArg List.length h
 simp at this;omega
theorem Atg {s:List UInt8} {a:Nat} (h:a≤s.length):plc s (a:Int)=a:=by
 unfold plc
 rw [if_neg (by omega),if_neg (by omega)];omega
theorem A1t {c:UInt8} {r:List UInt8} (h0:kd c≠0)(h1:c.toNat≠37):Ag0 false (c::r)=0:=by
 have e:An9 false c=false:=by unfold An9;split<;>simp
 rw [Ag0,e,if_pos ⟨rfl,h0⟩]
theorem Oi {s:List UInt8} {a:Nat} {c:UInt8} {r:List UInt8} (h:s.drop a=c::r)(h0:kd c≠0)(h1:c.toNat≠37):A9 s (a:Int)=Wh c r a:=by
 have e:Rp s (a:Int)=a:=by rw [Rp,Atg (Nat.le_of_lt (Yx h)),h,A1t h0 h1];omega
 rw [A9,e,h]
theorem Lp {s:List UInt8} {a:Nat} {r:List UInt8} (h:s.drop a=32::r):A9 s (a:Int)=A9 s ((a+1:Nat):Int):=by
 have hl:=Yx h
 have h2:s.drop (a+1)=r:=Hl (x:=[32]) h
 have e:Rp s (a:Int)=Rp s ((a+1:Nat):Int):=by
  rw [Rp,Rp,Atg (Nat.le_of_lt hl),Atg hl,h,h2,Ag0,if_neg (by decide)]
  show a+(Ag0 false r+1)=_
  omega
 rw [A9,A9,e]
theorem Ava {s:List UInt8} {a:Nat} (h:s.drop a=[])(ha:a≤s.length):A9 s (a:Int)=⟨0,0,0,[],a,a⟩:=by
 have e:Rp s (a:Int)=a:=by rw [Rp,Atg ha,h];rfl
 rw [A9,e,h]
theorem Acw:∀n,n<16→Abb (Vp n)=(n:Int):=by decide
theorem Aud:∀n,n<16→(Vp n).toNat≠62:=by decide
theorem Ay5(n:Nat):byB (n:Int)=UInt8.ofNat n:=rfl
theorem Aoo(c:UInt8):byB (16*((c.toNat / 16:Nat):Int)+((c.toNat % 16:Nat):Int))=c:=by
 have e:(16*((c.toNat / 16:Nat):Int)+((c.toNat % 16:Nat):Int))=((c.toNat:Nat):Int):=by omega
 rw [e,Ay5,UInt8.ofNat_toNat]
theorem As3(c:UInt8):c.toNat / 16<16:=by have:=c.toNat_lt;omega
theorem Aw9(c:UInt8):c.toNat % 16<16:=by omega
theorem ne0 {c:UInt8} (h:c≠0):c.toNat≠0:=fun e=>h (UInt8.toNat_inj.1 e)
theorem Au9(s:List UInt8):∀(rest out:List UInt8) (a:Nat),(0:UInt8)∉s→out.length+s.length≤127→O5 rest→nameL (s.flatMap Ia++rest) out a=(out++s,a+(s.flatMap Ia).length,0):=by
 induction s with
 |nil=>
  intro rest out a _ _ hr
  rw [List.flatMap_nil,List.nil_append,List.append_nil]
  cases rest with
  |nil=>rfl
  |cons c t=>rw [nameL.eq_def];simp only;rw [if_neg (hr c t rfl)];rfl
 |cons c s ih=>
  intro rest out a h0 hl hr
  have h0':c≠0∧(0:UInt8)∉s:=⟨fun e=>h0 (e ▸ List.mem_cons_self),fun e=>h0 (List.mem_cons_of_mem _ e)⟩
  simp only [List.length_cons]at hl
  rw [List.flatMap_cons,List.append_assoc]
  by_cases hb:Ajx c=true
  ·have e:Ia c=[c]:=by rw [Ia,if_pos hb]
   have hb':=of_decide_eq_true hb
   rw [e,List.singleton_append,nameL.eq_def]
   simp only
   rw [if_pos (show kd c=2 from hb'.2.2.1),if_neg hb'.2.2.2,if_neg (by omega),ih rest (out++[c]) (a+1) h0'.2 (by simp;omega) hr]
   simp;omega
  ·have e:Ia c=35::K4 c:=by rw [Ia,if_neg hb]
   rw [e]
   show nameL (35::Vp (c.toNat / 16)::Vp (c.toNat % 16)::(s.flatMap Ia++rest)) out a=_
   rw [nameL,if_pos (by decide),if_pos (by decide),Acw _ (As3 c),Acw _ (Aw9 c),if_neg (by have:=ne0 h0'.1;omega),if_neg (by omega),Aoo,ih rest (out++[c]) (a+3) h0'.2 (by simp;omega) hr]
   simp [K4];omega
theorem An5 {c:UInt8} (r:List UInt8)(h1:c.toNat≠10)(h2:c.toNat≠13):Aiq (c::r)=0:=by rw [Awx,if_neg h1,if_neg h2]
theorem Awz {c:UInt8} (r:List UInt8)(h:c=40∨c=41∨c=92):Awy (c::r)=some ([c],1):=by
 rcases h with rfl |rfl |rfl<;>rw [Awy,An5 r (by decide) (by decide)]<;>rfl
theorem Avt(s:List UInt8):∀(m:Nat) (rest out:List UInt8) (a:Nat),s.all Df=true→(s.flatMap Jj).length<m→out.length+s.length≤65535→U6 m (s.flatMap Jj++41::rest) out 1 a=(out++s,a+(s.flatMap Jj).length+1,0):=by
 induction s with
 |nil=>
  intro m rest out a _ hm _
  rw [List.flatMap_nil,List.nil_append,List.append_nil]
  cases m with
  |zero=>cases hm
  |succ m=>rw [U6,An5 rest (by decide) (by decide),if_neg (by decide),if_neg (by decide),if_pos (by decide)];rfl
 |cons c s ih=>
  intro m rest out a h0 hm hl
  rw [List.all_cons,Bool.and_eq_true]at h0
  simp only [List.length_cons]at hl
  rw [List.flatMap_cons,List.length_append]at hm
  rw [List.flatMap_cons,List.append_assoc]
  have hc:=of_decide_eq_true h0.1
  cases m with
  |zero=>cases hm
  |succ m=>
  by_cases hb:c=40∨c=41∨c=92
  ·have e:Jj c=[92,c]:=by rw [Jj,if_pos hb]
   rw [e]at hm ⊢
   show U6 (m+1) (92::c::(s.flatMap Jj++41::rest)) out 1 a=_
   rw [U6,An5 _ (by decide) (by decide),if_neg (by decide),if_pos (by decide),Awz _ hb]
   simp only
   rw [if_neg (by simp;omega)]
   show U6 m (s.flatMap Jj++41::rest) (out++[c]) 1 (a+1+1)=_
   rw [ih m rest (out++[c]) (a+1+1) h0.2 (by simp only [List.length_cons,List.length_nil]at hm;omega) (by simp;omega)]
   simp;omega
  ·have e:Jj c=[c]:=by rw [Jj,if_neg hb]
   have h40:c.toNat≠40:=fun h=>hb (.inl (UInt8.toNat_inj.1 h))
   have h41:c.toNat≠41:=fun h=>hb (.inr (.inl (UInt8.toNat_inj.1 h)))
   have h92:c.toNat≠92:=fun h=>hb (.inr (.inr (UInt8.toNat_inj.1 h)))
   rw [e]at hm ⊢
   show U6 (m+1) (c::(s.flatMap Jj++41::rest)) out 1 a=_
   rw [U6,An5 _ (by omega) (by omega),if_neg (by decide),if_neg h92,if_neg (fun h=>h41 h.1),if_neg (by omega),if_neg h40,if_neg h41,ih m rest (out++[c]) (a+1) h0.2 (by simp only [List.length_cons,List.length_nil]at hm;omega) (by simp;omega)]
   simp;omega
theorem Aw7(s:List UInt8):∀(rest out:List UInt8) (a:Nat),out.length+s.length≤65535→Acv (s.flatMap K4++62::rest) (-1) out a=(out++s,a+(s.flatMap K4).length+1,0):=by
 induction s with
 |nil=>intro rest out a _;rw [List.flatMap_nil,List.nil_append,List.append_nil,Acv,if_pos (by decide),if_pos (by decide)];rfl
 |cons c s ih=>
  intro rest out a hl
  simp only [List.length_cons]at hl
  rw [List.flatMap_cons,List.append_assoc]
  show Acv (Vp (c.toNat / 16)::Vp (c.toNat % 16)::(s.flatMap K4++62::rest)) (-1) out a=_
  rw [Acv,if_neg (Aud _ (As3 c)),Acw _ (As3 c),if_neg (by omega),if_pos (by decide),Acv,if_neg (Aud _ (Aw9 c)),Acw _ (Aw9 c),if_neg (by omega),if_neg (by omega),if_neg (by omega),Aoo,
   ih rest (out++[c]) (a+1+1) (by simp;omega)]
  simp [K4];omega
theorem Avo(w:List UInt8)(rest:List UInt8)(hw:∀c∈w,kd c=2)(hr:O5 rest):U5 2 (w++rest)=w.length:=by
 induction w with
 |nil=>
  cases rest with
  |nil=>rfl
  |cons c t=>rw [List.nil_append,U5,if_neg (hr c t rfl)];rfl
 |cons c w ih=>rw [List.cons_append,U5,if_pos (hw c List.mem_cons_self),ih fun d hd=>hw d (List.mem_cons_of_mem _ hd)];rfl
theorem Axw {c:UInt8} (r:List UInt8)(p:Nat)(h:kd c=2):Wh c r p=Aod (c::r) p:=by
 have ne:∀n:Nat,Aaw (n:Int)≠2→c.toNat≠n:=fun n hn e=>hn (by rw [←h,kd,e])
 rw [Wh,if_neg (ne 91 (by decide)),if_neg (ne 93 (by decide)),if_neg (ne 47 (by decide)),if_neg (ne 40 (by decide)),if_neg (ne 60 (by decide)),if_neg (ne 62 (by decide)),if_neg (by rw [h];decide)]
theorem Auy {c:UInt8} (h:Aau c=true):kd c=2:=by
 rw [Xf]at h
 unfold kd Aaw
 rw [if_neg (by omega),if_neg (by omega)]
theorem Azs(x:Int):∀c∈Lib.itoa x,kd c=2:=by
 intro c hc
 unfold Lib.itoa at hc
 split at hc
 ·rcases List.mem_cons.1 hc with rfl |hc
  ·decide
  ·exact Auy (Yw _ c hc)
 ·exact Auy (Yw _ c hc)
theorem Arw(x:Int):Lib.itoa x≠[]:=by
 unfold Lib.itoa
 split
 ·simp
 ·exact Aj2 _
theorem Y6 {s:List UInt8} {a:Nat} {w rest:List UInt8} (h:s.drop a=w++rest)(h0:w≠[])(hw:∀c∈w,kd c=2)(hr:O5 rest):A9 s (a:Int)=
 if(Jq w).2=0 then⟨0,1,(Jq w).1,[],a,a+w.length⟩else if(Jq w).2=3 then Ail 3 else if 127<w.length then Ail 8 else⟨0,8,0,w,a,a+w.length⟩:=by
 obtain⟨c,r,rfl⟩:∃c r,w=c::r:=by
  cases w with
  |nil=>exact absurd rfl h0
  |cons c r=>exact⟨c,r,rfl⟩
 have hk:=hw c List.mem_cons_self
 have e1:A9 s (a:Int)=Aod ((c::r)++rest) a:=by
  rw [Oi h (by rw [hk];decide) (by intro e;rw [kd,e]at hk;revert hk;decide),Axw _ _ hk]
  rfl
 have e2:((c::r)++rest).take (c::r).length=c::r:=List.take_left
 rw [e1,Aod,Avo _ rest hw hr,e2]
theorem Abx {s:List UInt8} {a:Nat} {x:Int} {rest:List UInt8} (h:s.drop a=Lib.itoa x++rest)(h0: -2147483647≤x)(h1:x≤2147483647)(hr:O5 rest):A9 s (a:Int)=⟨0,1,x,[],a,a+(Lib.itoa x).length⟩:=by
 rw [Y6 h (Arw x) (Azs x) hr,(back x h0 h1).2,if_pos rfl]
theorem A2z {s:List UInt8} {a:Nat} {rest:List UInt8} (h:s.drop a=82::rest)(hr:O5 rest):A9 s (a:Int)=⟨0,8,0,[82],a,a+1⟩:=by
 rw [Y6 (w:=[82]) h (by simp) (by decide) hr];rfl
theorem Aly {s:List UInt8} {a:Nat} {t rest:List UInt8} (h:s.drop a=Cg t++rest)(h0:(0:UInt8)∉t)(hl:t.length≤127)(hr:O5 rest):A9 s (a:Int)=⟨0,2,0,t,a,a+(Cg t).length⟩:=by
 have h':s.drop a=47::(t.flatMap Ia++rest):=h
 rw [Oi h' (by decide) (by decide),Wh,if_neg (by decide),if_neg (by decide),if_pos (by decide),Au9 t rest [] (a+1) h0 (by simpa using hl) hr]
 simp [partT,Cg];omega
theorem Ar3 {s:List UInt8} {a:Nat} {t rest:List UInt8} (h:s.drop a=Ny t++rest)(hl:t.length≤65535):A9 s (a:Int)=⟨0,3,0,t,a,a+(Ny t).length⟩:=by
 unfold Ny at h ⊢
 by_cases hs:t.all Df=true
 ·rw [if_pos hs]at h ⊢
  have h':s.drop a=40::(t.flatMap Jj++41::rest):=by rw [h];simp
  rw [Oi h' (by decide) (by decide),Wh,if_neg (by decide),if_neg (by decide),if_neg (by decide),if_pos (by decide),Avt t _ rest [] (a+1) hs (by simp;omega) (by simpa using hl)]
  simp [partT];omega
 ·rw [if_neg hs]at h ⊢
  have h':s.drop a=60::(t.flatMap K4++62::rest):=by rw [h];simp [Af0]
  have hh:(t.flatMap K4++62::rest).head?≠some 60:=by
   cases t with
   |nil=>simp
   |cons c t=>
    rw [List.flatMap_cons]
    show some (Vp (c.toNat / 16))≠some 60
    have:∀n,n<16→some (Vp n)≠some 60:=by decide
    exact this _ (As3 c)
  rw [Oi h' (by decide) (by decide),Wh,if_neg (by decide),if_neg (by decide),if_neg (by decide),if_neg (by decide),if_pos (by decide),if_neg hh,Aw7 t rest [] (a+1) (by simpa using hl)]
  simp [partT,Af0];omega
end Go.Proofs.Sim.Pa
namespace Go.Proofs.Sim.Pa
open Go Go.Proofs Go.Proofs.Sim Go.Proofs.Sim.Va Go.Proofs.Sim.Se
theorem Ul {s:List UInt8} {a:Nat} {c:UInt8} {r:List UInt8} (h:s.drop a=c::r):s.drop (a+1)=r:=Hl (x:=[c]) h
theorem A1b {s:List UInt8} {a:Nat} {c d:UInt8} {r:List UInt8} (h:s.drop a=c::d::r):s.drop (a+2)=r:=Hl (x:=[c,d]) h
inductive Jw:Nat→V→Prop
 |null (w:Nat):Jw w (.mk 0 0 0 [] [] [])
 |bool (w:Nat) (n:Int) (h:n=0∨n=1):Jw w (.mk 1 n 0 [] [] [])
 |int (w:Nat) (n:Int) (h0: -2147483647≤n) (h1:n≤2147483647):Jw w (.mk 2 n 0 [] [] [])
 |name (w:Nat) (s:List UInt8) (h0:(0:UInt8)∉s) (h1:s.length≤127):Jw w (.mk 3 0 0 s [] [])
 |text (w:Nat) (s:List UInt8) (h1:s.length≤65535):Jw w (.mk 4 0 0 s [] [])
 |list (w:Nat) (l:List V) (hw:w<64) (hl:∀x∈l,Jw (w+1) x):Jw w (.mk 5 0 0 [] l [])
 |dict (w:Nat) (d:List Pr) (hw:w<64) (hk:∀p∈d,¬F9 p.1) (hd:(d.map fun p=>p.1).Nodup) (hl:∀p∈d,Jw (w+1) p.2):Jw w (.mk 6 0 0 [] [] d)
 |link (w:Nat) (n g:Int) (h0:1≤n) (h1:n≤8388607) (h2:0≤g) (h3:g≤65535):Jw w (.mk 7 n g [] [] [])
theorem A2d(l:List Int):Ou l=0↔∀e∈l,e=0:=by
 induction l with
 |nil=>exact⟨fun _ e h=>(nomatch h),fun _=>rfl⟩
 |cons e l ih=>
  rw [Ou]
  by_cases h:e=0
  ·rw [if_neg (fun h'=>h' h),ih];simp [h]
  ·rw [if_pos h];exact⟨fun h'=>absurd h' h,fun h'=>absurd (h' e List.mem_cons_self) h⟩
theorem A2h(l:List (Ky × Int)):∀seen:List Ky,Vw seen l=0↔(∀x∈l,¬F9 x.1∧x.1∉seen∧x.2=0)∧(l.map fun x=>x.1).Nodup:=by
 induction l with
 |nil=>intro seen;exact⟨fun _=>⟨fun _ h=>(nomatch h),List.nodup_nil⟩,fun _=>rfl⟩
 |cons x l ih=>
  intro seen
  obtain⟨k,e⟩:=x
  rw [Vw]
  by_cases h1:F9 k∨k∈seen
  ·rw [if_pos h1]
   refine⟨fun h=>absurd h (by decide),fun h=> ?_⟩
   have:=h.1 (k,e) List.mem_cons_self
   exact absurd h1 (not_or.2 ⟨this.1,this.2.1⟩)
  ·rw [if_neg h1]
   by_cases h2:e=0
   ·rw [if_neg (fun h=>h h2),ih,List.map_cons,List.nodup_cons]
    rw [not_or]at h1
    constructor
    ·rintro⟨ha,hb⟩
     refine⟨fun x hx=> ?_, ?_,hb⟩
     ·rcases List.mem_cons.1 hx with rfl |hx
      ·exact⟨h1.1,h1.2,h2⟩
      ·have:=ha x hx
       exact⟨this.1,fun h=>this.2.1 (List.mem_append_left _ h),this.2.2⟩
     ·intro hm
      obtain⟨y,hy,e⟩:=List.mem_map.1 hm
      exact(ha y hy).2.1 (by rw [e];simp)
    ·rintro⟨ha,hb,hc⟩
     refine⟨fun x hx=> ?_,hc⟩
     have:=ha x (List.mem_cons_of_mem _ hx)
     refine⟨this.1,fun h=> ?_,this.2.2⟩
     rcases List.mem_append.1 h with h |h
     ·exact this.2.1 h
     ·rw [List.mem_singleton]at h
      exact hb (List.mem_map.2 ⟨x,hx,h⟩)
   ·rw [if_pos h2]
    exact⟨fun h=>absurd h h2,fun h=>absurd (h.1 (k,e) List.mem_cons_self).2.2 h2⟩
theorem Yl(v:V)(w:Int):Ow v false w=0↔(0≤v.k∧v.k≤7)∧¬F4 v∧¬(v.k=3∧(0:UInt8)∈v.s)∧¬K6 v∧¬(v.k=3∧127<v.s.length)∧¬(v.k=4∧65535<v.s.length)∧¬((v.k=5∨v.k=6)∧64≤w):=by
 unfold Ow
 split
 ·rename_i h
  refine⟨fun h=>absurd h (by decide),fun h'=> ?_⟩
  rcases h with h |h
  ·omega
  ·omega
 rename_i h
 have hk:0≤v.k∧v.k≤7:=by
  rw [not_or]at h
  have h8:¬v.k=8:=fun e=>h.2 ⟨e,rfl⟩
  omega
 split
 ·rename_i h1
  refine⟨fun h=>absurd h (by decide),fun h'=> ?_⟩
  rcases h1 with h1 |h1
  ·exact absurd h1 h'.2.1
  ·exact absurd h1 h'.2.2.1
 rename_i h1
 rw [not_or]at h1
 split
 ·rename_i h2;exact⟨fun h=>absurd h (by decide),fun h'=>absurd h2 h'.2.2.2.1⟩
 rename_i h2
 split
 ·rename_i h3
  refine⟨fun h=>absurd h (by decide),fun h'=> ?_⟩
  rcases h3 with h3 |h3
  ·exact absurd h3 h'.2.2.2.2.1
  ·exact absurd h3 h'.2.2.2.2.2.1
 rename_i h3
 rw [not_or]at h3
 rw [if_neg (by omega)]
 split
 ·rename_i h4
  exact⟨fun h=>absurd h (by decide),fun h'=>absurd (show(v.k=5∨v.k=6)∧64≤w from ⟨by omega,h4.2⟩) h'.2.2.2.2.2.2⟩
 ·rename_i h4
  exact⟨fun _=>⟨hk,h1.1,h1.2,h2,h3.1,h3.2,fun h=>h4 ⟨by omega,h.2⟩⟩,fun _=>rfl⟩
theorem Yc(v:V)(w:Int):v.chk false w=0↔Ow v false w=0∧(∀x∈v.l,x.chk false (w+1)=0)∧(∀p∈v.d,¬F9 p.1∧p.2.chk false (w+1)=0)∧(v.d.map fun p=>p.1).Nodup:=by
 have hl:Ou (v.l.map fun x=>x.chk false (w+1))=0↔∀x∈v.l,x.chk false (w+1)=0:=by rw [A2d];simp
 have hd:Vw [] (v.d.map fun p=>(p.1,p.2.chk false (w+1)))=0↔(∀p∈v.d,¬F9 p.1∧p.2.chk false (w+1)=0)∧(v.d.map fun p=>p.1).Nodup:=by
  rw [A2h,List.map_map]
  constructor
  ·rintro⟨h1,h2⟩
   refine⟨fun p hp=> ?_,h2⟩
   have:=h1 _ (List.mem_map_of_mem hp)
   exact⟨this.1,this.2.2⟩
  ·rintro⟨h1,h2⟩
   refine⟨fun x hx=> ?_,h2⟩
   obtain⟨p,hp,rfl⟩:=List.mem_map.1 hx
   exact⟨(h1 p hp).1,(fun h=>nomatch h),(h1 p hp).2⟩
 rw [Afq]
 by_cases h1:Ow v false w=0
 ·rw [if_neg (fun h=>h h1)]
  by_cases h2:Ou (v.l.map fun x=>x.chk false (w+1))=0
  ·rw [if_neg (fun h=>h h2),hd]
   exact⟨fun h=>⟨h1,hl.1 h2,h.1,h.2⟩,fun h=>⟨h.2.2.1,h.2.2.2⟩⟩
  ·rw [if_pos h2]
   exact⟨fun h=>absurd h h2,fun h=>absurd (hl.2 h.2.1) h2⟩
 ·rw [if_pos h1]
  exact⟨fun h=>absurd h h1,fun h=>absurd h.1 h1⟩
theorem Azy {w:Nat} {v:V} (h:Jw w v):v.chk false (w:Int)=0:=by
 induction h with
 |null w=>rw [Yc,Yl];simp [V.k,V.n,V.g,V.s,V.l,V.d,F4,K6]
 |bool w n h=>rw [Yc,Yl];simp [V.k,V.n,V.g,V.s,V.l,V.d,F4,K6];omega
 |int w n h0 h1=>rw [Yc,Yl];simp [V.k,V.n,V.g,V.s,V.l,V.d,F4,K6];omega
 |name w s h0 h1=>rw [Yc,Yl];simp [V.k,V.n,V.g,V.s,V.l,V.d,F4,K6,h0];omega
 |text w s h1=>rw [Yc,Yl];simp [V.k,V.n,V.g,V.s,V.l,V.d,F4,K6];omega
 |list w l hw hl ih=>
  rw [Yc,Yl]
  refine⟨?_,fun x hx=>ih x hx,fun p hp=>(nomatch hp),List.nodup_nil⟩
  simp [V.k,V.n,V.g,V.s,V.l,V.d,F4,K6];omega
 |dict w d hw hk hd hl ih=>
  rw [Yc,Yl]
  refine⟨?_,fun p hp=>(nomatch hp),fun p hp=>⟨hk p hp,ih p hp⟩,hd⟩
  simp [V.k,V.n,V.g,V.s,V.l,V.d,F4,K6];omega
 |link w n g h0 h1 h2 h3=>rw [Yc,Yl];simp [V.k,V.n,V.g,V.s,V.l,V.d,F4,K6];omega
theorem Aza:∀(N:Nat) (v:V),SizeOf.sizeOf v<N→∀w:Nat,v.chk false (w:Int)=0→Jw w v:=by
 intro N
 induction N with
 |zero=>intro v h;cases h
 |succ N ih=>
  intro v hN w h
  rw [Yc,Yl]at h
  obtain⟨k,n,g,s,l,d⟩:=v
  obtain⟨⟨hk,hx,h0,ho,h1,h2,h3⟩,hl,hd,hn⟩:=h
  have hl':∀x∈l,Jw (w+1) x:=fun x hx=>ih x (by have:=Adl (k:=k) (n:=n) (g:=g) (s:=s) (d:=d) hx;omega) (w+1) (hl x hx)
  have hd':∀p∈d,Jw (w+1) p.2:=fun p hp=>ih p.2 (by have:=Adk (k:=k) (n:=n) (g:=g) (s:=s) (l:=l) hp;omega) (w+1) (hd p hp).2
  simp only [V.k,V.n,V.g,V.s,V.l,V.d,F4,K6]at hk hx h0 ho h1 h2 h3 hd hn
  obtain⟨x1,hx⟩:=not_or.1 hx
  obtain⟨x2,hx⟩:=not_or.1 hx
  obtain⟨x3,hx⟩:=not_or.1 hx
  obtain⟨x4,x5⟩:=not_or.1 hx
  have xl:k≠5→l=[]:=fun hk=>List.length_eq_zero_iff.1 (Nat.eq_zero_of_not_pos fun h=>x4 ⟨h,hk⟩)
  have xd:¬(k=6∨k=8)→d=[]:=fun hk=>List.length_eq_zero_iff.1 (Nat.eq_zero_of_not_pos fun h=>x5 ⟨h,hk⟩)
  have xs:¬(k=3∨k=4∨k=8)→s=[]:=fun hk=>Classical.byContradiction fun e=>x3 ⟨e,hk⟩
  have xn:¬(k=1∨k=2∨k=7)→n=0:=fun hk=>Classical.byContradiction fun e=>x1 ⟨e,hk⟩
  have xg:k≠7→g=0:=fun hk=>Classical.byContradiction fun e=>x2 ⟨e,hk⟩
  clear x1 x2 x3 x4 x5 ih hl hN
  have hd:=fun p hp=>(hd p hp).1
  have c:k=0∨k=1∨k=2∨k=3∨k=4∨k=5∨k=6∨k=7:=by clear xl xd xs xn xg h0 ho h1 h2 h3;omega
  rcases c with rfl |rfl |rfl |rfl |rfl |rfl |rfl |rfl
  ·rw [xl (by decide),xd (by decide),xs (by decide),xn (by decide),xg (by decide)];exact .null w
  ·rw [xl (by decide),xd (by decide),xs (by decide),xg (by decide)];exact .bool w n (by omega)
  ·rw [xl (by decide),xd (by decide),xs (by decide),xg (by decide)];exact .int w n (by omega) (by omega)
  ·rw [xl (by decide),xd (by decide),xn (by decide),xg (by decide)];exact .name w s (fun h=>h0 ⟨rfl,h⟩) (by omega)
  ·rw [xl (by decide),xd (by decide),xn (by decide),xg (by decide)];exact .text w s (by omega)
  ·rw [xd (by decide),xs (by decide),xn (by decide),xg (by decide)];exact .list w l (by omega) hl'
  ·rw [xl (by decide),xs (by decide),xn (by decide),xg (by decide)];exact .dict w d (by omega) hd hn hd'
  ·rw [xl (by decide),xd (by decide),xs (by decide)];exact .link w n g (by omega) (by omega) (by omega) (by omega)
theorem Al9(v:V)(w:Nat):v.chk false (w:Int)=0↔Jw w v:=⟨Aza _ v (Nat.lt_succ_self _) w,Azy⟩
theorem Amm(l:List V):(V.mk 5 0 0 [] l []).wr=91::(Bf (l.map V.wr)++[93]):=by rw [Jh];rfl
theorem Amk(d:List Pr):(V.mk 6 0 0 [] [] d).wr=60::60::(Bf (d.map fun p=>Bf [Cg p.1,p.2.wr])++[62,62]):=by
 rw [Jh]
 show [60,60]++Bf ((d.map fun p=>(p.1,p.2.wr)).map fun p=>Bf [Cg p.1,p.2])++[62,62]=_
 rw [List.map_map];rfl
theorem Aml(n g:Int):(V.mk 7 n g [] [] []).wr=Lib.itoa n++32::(Lib.itoa g++[32,82]):=by
 rw [Jh]
 show Bf [Lib.itoa n,Lib.itoa g]++[32,82]=_
 rw [Bf,Lib.join_cons];simp [Lib.joinTail]
theorem Aqu(n:Int):(V.mk 2 n 0 [] [] []).wr=Lib.itoa n:=by rw [Jh];rfl
theorem Amn(s:List UInt8):(V.mk 3 0 0 s [] []).wr=Cg s:=by rw [Jh];rfl
theorem Amq(s:List UInt8):(V.mk 4 0 0 s [] []).wr=Ny s:=by rw [Jh];rfl
theorem Amo:(V.mk 0 0 0 [] [] []).wr=Ag1:=by rw [Jh];rfl
theorem Amj(n:Int):(V.mk 1 n 0 [] [] []).wr=if n=1 then Akw else Aga:=by rw [Jh];rfl
def isR(s:List UInt8)(a:Nat):Prop:=(A9 s a).e=0∧(A9 s a).k=8∧(A9 s a).s=[82]
def Calm(s:List UInt8)(a:Nat):Prop:=Yj s a=none∧¬isR s a
theorem Aoq {s:List UInt8} {a:Nat} (h1:(A9 s a).k≠1)(h8:(A9 s a).k≠8):Calm s a:=
 ⟨by rw [Yj,if_neg (fun h=>h1 h.2)],fun h=>h8 h.2.1⟩
theorem Aj0 {s:List UInt8} {a:Nat} {r:List UInt8} (h:s.drop a=32::r)(hc:Calm s (a+1)):Calm s a:=by
 unfold Calm Yj isR at hc ⊢
 rw [Lp h];exact hc
theorem Aqe {s:List UInt8} {a:Nat} {r:List UInt8} (h:s.drop a=32::r)(m w:Nat):L9 s m w a=L9 s m w (a+1):=by
 cases m with
 |zero=>rfl
 |succ m=>rw [L9,L9,Lp h]
theorem Aiv {w:Nat} {v:V} (hv:Jw w v) {s:List UInt8} {a:Nat} {rest:List UInt8} (h:s.drop a=v.wr++rest)(hr:O5 rest):
 (A9 s a).e=0∧(A9 s a).k≠0∧(A9 s a).k≠5∧(A9 s a).k≠7∧¬isR s a∧((A9 s a).k=1→(v.k=2∧(A9 s a).b=a+v.wr.length)∨¬isR s (A9 s a).b):=by
 cases hv with
 |null w=>
  rw [Amo]at h
  have e:=Y6 h (by decide) (by decide) hr
  rw [if_neg (by decide),if_neg (by decide),if_neg (by decide)]at e
  simp [isR,e,Ag1]
 |bool w n hn=>
  rw [Amj]at h
  by_cases h1:n=1
  ·rw [if_pos h1]at h
   have e:=Y6 h (by decide) (by decide) hr
   rw [if_neg (by decide),if_neg (by decide),if_neg (by decide)]at e
   simp [isR,e,Akw]
  ·rw [if_neg h1]at h
   have e:=Y6 h (by decide) (by decide) hr
   rw [if_neg (by decide),if_neg (by decide),if_neg (by decide)]at e
   simp [isR,e,Aga]
 |int w n h0 h1=>
  rw [Aqu]at h ⊢
  have e:=Abx h h0 h1 hr
  simp [isR,e,V.k]
 |name w t h0 h1=>
  rw [Amn]at h
  have e:=Aly h h0 h1 hr
  simp [isR,e]
 |text w t h1=>
  rw [Amq]at h
  have e:=Ar3 h h1
  simp [isR,e]
 |list w l hw hl=>
  rw [Amm]at h
  have e:=Oi (c:=91) h (by decide) (by decide)
  rw [Wh,if_pos (by decide)]at e
  simp [isR,e]
 |dict w d hw hk hd hl=>
  rw [Amk]at h
  have e:=Oi (c:=60) h (by decide) (by decide)
  rw [Wh,if_neg (by decide),if_neg (by decide),if_neg (by decide),if_neg (by decide),if_pos (by decide),if_pos (by rfl)]at e
  simp [isR,e]
 |link w n g h0 h1 h2 h3=>
  rw [Aml,List.append_assoc]at h
  have e:=Abx h (by omega) (by omega) (Ls _ (by decide))
  have h':=Hl h
  have e2:=Lp h'
  have e3:=Abx (s:=s) (a:=a+(Lib.itoa n).length+1) (x:=g) (rest:=[32,82]++rest) (by have:=Ul h';simpa using this) (by omega) (by omega) (Ls _ (by decide))
  rw [e3]at e2
  refine⟨by rw [e],by simp [e],by simp [e],by simp [e],by simp [isR,e],fun _=> .inr ?_⟩
  rw [e]
  simp only [isR,e2];simp
theorem Awj {w:Nat} {v:V} (hv:Jw w v) {s:List UInt8} {a:Nat} {rest:List UInt8} (h:s.drop a=v.wr++rest)(hr:O5 rest)(hc:v.k=2→Calm s (a+v.wr.length)):Calm s a:=by
 have t:=Aiv hv h hr
 refine⟨?_,t.2.2.2.2.1⟩
 unfold Yj
 split
 ·rename_i h1
  rw [if_neg]
  intro hR
  rcases t.2.2.2.2.2 h1.2 with h2 |h2
  ·rw [h2.2]at hR
   exact(hc h2.1).2 hR
  ·exact h2 hR
 ·rfl
def tailW(l:List V):List UInt8:=(l.map fun v=>32::v.wr).flatten
theorem Yt(v:V)(r:List V):tailW (v::r)=32::v.wr++tailW r:=by simp [tailW]
theorem Am4(v:V)(r:List V):Bf ((v::r).map V.wr)=v.wr++tailW r:=by
 rw [Bf,List.map_cons,Lib.join_cons]
 simp [Lib.joinTail,tailW,Function.comp_def]
theorem Xm(l:List V)(rest:List UInt8):O5 (tailW l++93::rest):=by
 cases l with
 |nil=>exact Ls _ (by decide)
 |cons v r=>rw [Yt];exact Ls _ (by decide)
theorem Aow {s:List UInt8} {a:Nat} {rest:List UInt8} (h:s.drop a=93::rest):A9 s (a:Int)=⟨0,5,0,[],a,a+1⟩:=by
 rw [Oi h (by decide) (by decide),Wh,if_neg (by decide),if_pos (by decide)]
theorem Anf {w:Nat} {s:List UInt8} {rest:List UInt8} :∀(l:List V) (a:Nat),(∀x∈l,Jw w x)→s.drop a=tailW l++93::rest→Calm s a:=by
 intro l
 induction l with
 |nil=>
  intro a _ h
  have e:=Aow h
  exact Aoq (by simp [e]) (by simp [e])
 |cons v r ih=>
  intro a hv h
  rw [Yt,List.cons_append,List.cons_append,List.append_assoc]at h
  have h':=Ul h
  exact Aj0 h (Awj (hv v List.mem_cons_self) h' (Xm r rest) fun _=>ih _ (fun x hx=>hv x (List.mem_cons_of_mem _ hx)) (Hl h'))
def RdB(s:List UInt8)(M:Nat)(rd:Nat→V × Nat × Int)(v:V):Prop:=
 ∀(a:Nat) (rest:List UInt8),s.length<a+M→s.drop a=v.wr++rest→O5 rest→(v.k=2→Yj s (a+v.wr.length:Nat)=none)→rd a=(v,a+v.wr.length,0)
theorem U8 {w:Nat} {v:V} (hv:Jw w v):0<v.wr.length:=by
 cases hv with
 |null w=>rw [Amo];decide
 |bool w n hn=>rw [Amj];split<;>decide
 |int w n h0 h1=>rw [Aqu];exact List.length_pos_iff.2 (Arw n)
 |name w t h0 h1=>rw [Amn];exact Nat.succ_pos _
 |text w t h1=>rw [Amq,Ny];split<;>exact Nat.succ_pos _
 |list w l hw hl=>rw [Amm];exact Nat.succ_pos _
 |dict w d hw hk hd hl=>rw [Amk];exact Nat.succ_pos _
 |link w n g h0 h1 h2 h3=>rw [Aml];simp;omega
theorem Am5 {w M:Nat} {s:List UInt8} {rest:List UInt8} {rd:Nat→V × Nat × Int} (hb:∀(a:Nat) (r:List UInt8),s.drop a=32::r→rd a=rd (a+1)):
 ∀(l:List V) (m a:Nat) (acc:List V),(∀x∈l,Jw w x∧RdB s M rd x)→s.drop a=tailW l++93::rest→s.length<a+m→s.length<a+M→Ac1 s rd m a acc=(.mk 5 0 0 [] (acc++l) [],a+(tailW l).length+1,0):=by
 intro l
 induction l with
 |nil=>
  intro m a acc _ h hm hM
  have hl:=Yx h
  cases m with
  |zero=>omega
  |succ m=>
  have e:=Aow h
  rw [Ac1,e]
  simp [tailW]
 |cons v r ih=>
  intro m a acc hv h hm hM
  rw [Yt,List.cons_append,List.cons_append,List.append_assoc]at h
  have hl:=Yx h
  cases m with
  |zero=>omega
  |succ m=>
  have h':=Ul h
  have hv1:=hv v List.mem_cons_self
  have hvr:∀x∈r,Jw w x∧RdB s M rd x:=fun x hx=>hv x (List.mem_cons_of_mem _ hx)
  have t:=Aiv hv1.1 h' (Xm r rest)
  have hc:=Anf r _ (fun x hx=>(hvr x hx).1) (Hl h')
  have e:rd a=(v,a+1+v.wr.length,0):=by rw [hb a _ h];exact hv1.2 (a+1) _ (by omega) h' (Xm r rest) fun _=>hc.1
  have wp:=U8 hv1.1
  have t1:(A9 s (a:Int)).e=0:=by rw [Lp h];exact t.1
  have t2:(A9 s (a:Int)).k≠5:=by rw [Lp h];exact t.2.2.1
  rw [Ac1,if_neg (fun h=>h t1),if_neg t2,e]
  simp only
  rw [if_neg (by decide),ih m _ (acc++[v]) hvr (Hl h') (by omega) (by omega),Yt]
  simp;omega
theorem Au2 {w M:Nat} {s:List UInt8} {rest:List UInt8} {rd:Nat→V × Nat × Int} (hb:∀(a:Nat) (r:List UInt8),s.drop a=32::r→rd a=rd (a+1))
 (l:List V)(m a:Nat)(hv:∀x∈l,Jw w x∧RdB s M rd x)(h:s.drop a=Bf (l.map V.wr)++93::rest)(hm:s.length<a+m)(hM:s.length<a+M):Ac1 s rd m a []=(.mk 5 0 0 [] l [],a+(Bf (l.map V.wr)).length+1,0):=by
 cases l with
 |nil=>exact Am5 hb [] m a [] hv h hm hM
 |cons v r=>
  rw [Am4,List.append_assoc]at h
  have hl:a<s.length:=by
   have:=congrArg List.length h
   have wp:=U8 (hv v List.mem_cons_self).1
   simp at this;omega
  cases m with
  |zero=>omega
  |succ m=>
  have hv1:=hv v List.mem_cons_self
  have hvr:∀x∈r,Jw w x∧RdB s M rd x:=fun x hx=>hv x (List.mem_cons_of_mem _ hx)
  have t:=Aiv hv1.1 h (Xm r rest)
  have hc:=Anf r _ (fun x hx=>(hvr x hx).1) (Hl h)
  have e:rd a=(v,a+v.wr.length,0):=hv1.2 a _ hM h (Xm r rest) fun _=>hc.1
  have wp:=U8 hv1.1
  rw [Ac1,if_neg (fun h=>h t.1),if_neg t.2.2.1,e]
  simp only
  rw [if_neg (by decide),List.nil_append,Am5 hb r m _ [v] hvr (Hl h) (by omega) (by omega),Am4]
  simp;omega
def Ro(p:Pr):List UInt8:=Cg p.1++32::p.2.wr
theorem Anb(p:Pr):Bf [Cg p.1,p.2.wr]=Ro p:=by rw [Bf,Lib.join_cons];simp [Lib.joinTail,Ro]
def Qg(d:List Pr):List UInt8:=(d.map fun p=>32::Ro p).flatten
theorem Yr(p:Pr)(r:List Pr):Qg (p::r)=32::Ro p++Qg r:=by simp [Qg]
theorem Akd(p:Pr)(r:List Pr):Bf ((p::r).map fun p=>Bf [Cg p.1,p.2.wr])=Ro p++Qg r:=by
 rw [Bf,List.map_cons,Lib.join_cons,Anb]
 simp only [Lib.joinTail,Qg,List.map_map,Function.comp_def,Anb]
 rfl
theorem Atp(d:List Pr)(rest:List UInt8):O5 (Qg d++62::62::rest):=by
 cases d with
 |nil=>exact Ls _ (by decide)
 |cons p r=>rw [Yr];exact Ls _ (by decide)
theorem Amt {s:List UInt8} {a:Nat} {rest:List UInt8} (h:s.drop a=62::62::rest):A9 s (a:Int)=⟨0,7,0,[],a,a+2⟩:=by
 rw [Oi h (by decide) (by decide),Wh,if_neg (by decide),if_neg (by decide),if_neg (by decide),if_neg (by decide),if_neg (by decide),if_pos (by decide),if_pos (by rfl)]
theorem Apu {s:List UInt8} {a:Nat} {p:Pr} {rest:List UInt8} (hk:¬F9 p.1)(h:s.drop a=Ro p++rest):A9 s (a:Int)=⟨0,2,0,p.1,a,a+(Cg p.1).length⟩:=by
 unfold F9 at hk
 rw [not_or]at hk
 rw [Ro,List.append_assoc]at h
 exact Aly h hk.2 (by omega) (Ls _ (by decide))
theorem Ato {s:List UInt8} {rest:List UInt8} (d:List Pr)(a:Nat)(hk:∀p∈d,¬F9 p.1)(h:s.drop a=Qg d++62::62::rest):Calm s a:=by
 cases d with
 |nil=>
  have e:=Amt h
  exact Aoq (by simp [e]) (by simp [e])
 |cons p r=>
  rw [Yr,List.cons_append,List.cons_append,List.append_assoc]at h
  have h':=Ul h
  have e:=Apu (hk p List.mem_cons_self) h'
  exact Aj0 h (Aoq (by rw [e];simp) (by rw [e];simp))
theorem Amv {w M:Nat} {s:List UInt8} {rest:List UInt8} {rd:Nat→V × Nat × Int} (hb:∀(a:Nat) (r:List UInt8),s.drop a=32::r→rd a=rd (a+1))(p:Pr)(r:List Pr)(m a:Nat)(acc:List Pr)(hp:Jw w p.2∧RdB s M rd p.2)
 (hk:∀q∈p::r,¬F9 q.1)(ha:acc.any (fun q=>q.1 == p.1)=false)(t:Tk)(ht:A9 s (a:Int)=t)(t1:t.e=0)(t2:t.k=2)(t3:t.s=p.1)(h:s.drop t.b=32::(p.2.wr++(Qg r++62::62::rest)))(hM:s.length<t.b+1+M):
 Aaq s rd (m+1) a acc=Aaq s rd m (t.b+1+p.2.wr.length) (acc++[p]):=by
 have h':=Ul h
 have hc:=Ato r _ (fun q hq=>hk q (List.mem_cons_of_mem _ hq)) (Hl h')
 have e:rd t.b=(p.2,t.b+1+p.2.wr.length,0):=by rw [hb _ _ h];exact hp.2 _ _ hM h' (Atp r rest) fun _=>hc.1
 rw [Aaq,ht,if_neg (fun h=>h t1),if_neg (by rw [t2];decide),if_neg (by rw [t2];decide),if_neg (fun h=>h t2),t3,ha,if_neg (by decide),e]
 simp only
 rw [if_neg (by decide)]
theorem Ay4 {acc:List Pr} {k:Ky} (h:k∉acc.map fun p=>p.1):acc.any (fun q=>q.1 == k)=false:=by
 rw [List.any_eq_false]
 intro q hq e
 exact h (List.mem_map.2 ⟨q,hq,by simpa using e⟩)
theorem Amw {w M:Nat} {s:List UInt8} {rest:List UInt8} {rd:Nat→V × Nat × Int} (hb:∀(a:Nat) (r:List UInt8),s.drop a=32::r→rd a=rd (a+1)):
 ∀(d:List Pr) (m a:Nat) (acc:List Pr),(∀p∈d,Jw w p.2∧RdB s M rd p.2)→(∀p∈d,¬F9 p.1)→((acc++d).map fun p=>p.1).Nodup→s.drop a=Qg d++62::62::rest→s.length<a+m→s.length<a+M→Aaq s rd m a acc=(.mk 6 0 0 [] [] (acc++d),a+(Qg d).length+2,0):=by
 intro d
 induction d with
 |nil=>
  intro m a acc _ _ _ h hm hM
  have hl:=Yx h
  cases m with
  |zero=>omega
  |succ m=>
  have e:=Amt h
  rw [Aaq,e]
  simp [Qg]
 |cons p r ih=>
  intro m a acc hv hk hn h hm hM
  rw [Yr,List.cons_append,List.cons_append,List.append_assoc]at h
  have hl:=Yx h
  cases m with
  |zero=>omega
  |succ m=>
  have h':=Ul h
  have e:=Apu (hk p List.mem_cons_self) h'
  have hn':p.1∉acc.map fun q=>q.1:=by
   intro hm
   rw [List.map_append,List.nodup_append]at hn
   exact hn.2.2 _ hm _ (by simp) rfl
  have h2:s.drop (a+1+(Cg p.1).length)=32::(p.2.wr++(Qg r++62::62::rest)):=by
   have:=h'
   rw [Ro,List.append_assoc]at this
   simpa using Hl this
  have h3:=Hl (x:=32::p.2.wr) h2
  rw [Amv hb p r m a acc (hv p List.mem_cons_self) hk (Ay4 hn') ⟨0,2,0,p.1,a+1,a+1+(Cg p.1).length⟩ (by rw [Lp h];exact e) rfl rfl rfl h2 (by simp only;omega)]
  simp only
  rw [ih m _ (acc++[p]) (fun q hq=>hv q (List.mem_cons_of_mem _ hq)) (fun q hq=>hk q (List.mem_cons_of_mem _ hq)) (by simpa using hn) (by
   have e:a+1+(Cg p.1).length+1+p.2.wr.length=a+1+(Cg p.1).length+(32::p.2.wr).length:=by simp;omega
   rw [e];exact h3) (by omega) (by omega),Yr]
  simp [Ro];omega
theorem Auc {w M:Nat} {s:List UInt8} {rest:List UInt8} {rd:Nat→V × Nat × Int} (hb:∀(a:Nat) (r:List UInt8),s.drop a=32::r→rd a=rd (a+1))
 (d:List Pr)(m a:Nat)(hv:∀p∈d,Jw w p.2∧RdB s M rd p.2)(hk:∀p∈d,¬F9 p.1)(hn:(d.map fun p=>p.1).Nodup)(h:s.drop a=Bf (d.map fun p=>Bf [Cg p.1,p.2.wr])++62::62::rest)(hm:s.length<a+m)(hM:s.length<a+M):
 Aaq s rd m a []=(.mk 6 0 0 [] [] d,a+(Bf (d.map fun p=>Bf [Cg p.1,p.2.wr])).length+2,0):=by
 cases d with
 |nil=>exact Amw hb [] m a [] hv hk hn h hm hM
 |cons p r=>
  rw [Akd,List.append_assoc]at h
  have hl:a<s.length:=by
   have:=congrArg List.length h
   simp [Ro,Cg]at this;omega
  cases m with
  |zero=>omega
  |succ m=>
  have e:=Apu (hk p List.mem_cons_self) h
  have h2:s.drop (a+(Cg p.1).length)=32::(p.2.wr++(Qg r++62::62::rest)):=by
   have:=h
   rw [Ro,List.append_assoc]at this
   simpa using Hl this
  have h3:=Hl (x:=32::p.2.wr) h2
  rw [Amv hb p r m a [] (hv p List.mem_cons_self) hk rfl ⟨0,2,0,p.1,a,a+(Cg p.1).length⟩ e rfl rfl rfl h2 (by simp only;omega)]
  simp only
  rw [Amw hb r m _ ([]++[p]) (fun q hq=>hv q (List.mem_cons_of_mem _ hq)) (fun q hq=>hk q (List.mem_cons_of_mem _ hq)) (by simpa using hn) (by
   have e:a+(Cg p.1).length+1+p.2.wr.length=a+(Cg p.1).length+(32::p.2.wr).length:=by simp;omega
   rw [e];exact h3) (by omega) (by omega),Akd]
  simp [Ro];omega
theorem Ami {s:List UInt8} {m w a:Nat} {t:List UInt8} {rest:List UInt8} (h:s.drop a=t++rest)(h0:t≠[])(hw:∀c∈t,kd c=2)(hr:O5 rest)(h1:(Jq t).2≠0)(h2:(Jq t).2≠3)(h3:¬127<t.length):L9 s (m+1) w a=Ayr t (a+t.length):=by
 have e:=Y6 h h0 hw hr
 rw [if_neg h1,if_neg h2,if_neg h3]at e
 rw [L9,e];simp only
 rw [if_neg (by decide),if_neg (by decide),if_neg (by decide),if_neg (by decide),if_neg (by decide),if_pos (by decide)]
theorem fuel {s:List UInt8} {a m:Nat} {x rest:List UInt8} (hm:s.length<a+m)(h:s.drop a=x++rest)(hx:0<x.length):∃n,m=n+1:=by
 have:=congrArg List.length h
 simp at this
 exact⟨m - 1,by omega⟩
theorem Avh {w:Nat} {v:V} (hv:Jw w v):∀(s:List UInt8) (m:Nat),RdB s m (L9 s m w) v:=by
 induction hv with
 |null w=>
  intro s m a rest hm h hr _
  obtain⟨m,rfl⟩:∃n,m=n+1:=fuel hm h (U8 (.null w))
  rw [Amo]at h ⊢
  rw [Ami h (by decide) (by decide) hr (by decide) (by decide) (by decide)];rfl
 |bool w n hn=>
  intro s m a rest hm h hr _
  obtain⟨m,rfl⟩:∃n,m=n+1:=fuel hm h (U8 (.bool w n hn))
  rw [Amj]at h ⊢
  rcases hn with rfl |rfl
  ·rw [if_neg (by decide)]at h ⊢
   rw [Ami h (by decide) (by decide) hr (by decide) (by decide) (by decide)];rfl
  ·rw [if_pos rfl]at h ⊢
   rw [Ami h (by decide) (by decide) hr (by decide) (by decide) (by decide)];rfl
 |int w n h0 h1=>
  intro s m a rest hm h hr hc
  obtain⟨m,rfl⟩:∃n,m=n+1:=fuel hm h (U8 (.int w n h0 h1))
  have hc':=hc rfl
  rw [Aqu]at h hc' ⊢
  have e:=Abx h h0 h1 hr
  rw [L9,e];simp only
  rw [if_neg (by decide),if_neg (by decide),if_pos (by decide)]
  rw [numL,hc']
 |name w t h0 h1=>
  intro s m a rest hm h hr hc
  obtain⟨m,rfl⟩:∃n,m=n+1:=fuel hm h (U8 (.name w t h0 h1))
  rw [Amn]at h ⊢
  have e:=Aly h h0 h1 hr
  rw [L9,e];simp only
  rw [if_neg (by decide),if_neg (by decide),if_neg (by decide),if_pos (by decide)]
 |text w t h1=>
  intro s m a rest hm h hr hc
  obtain⟨m,rfl⟩:∃n,m=n+1:=fuel hm h (U8 (.text w t h1))
  rw [Amq]at h ⊢
  have e:=Ar3 h h1
  rw [L9,e];simp only
  rw [if_neg (by decide),if_neg (by decide),if_neg (by decide),if_neg (by decide),if_pos (by decide)]
 |list w l hw64 hl ih=>
  intro s m a rest hm h hr hc
  obtain⟨m,rfl⟩:∃n,m=n+1:=fuel hm h (U8 (.list w l hw64 hl))
  rw [Amm]at h ⊢
  have e:=Oi (c:=91) h (by decide) (by decide)
  rw [Wh,if_pos (by decide)]at e
  have h':s.drop (a+1)=Bf (l.map V.wr)++93::rest:=by
   have:=Ul h
   simpa using this
  rw [L9,e];simp only
  rw [if_neg (by decide),if_neg (by decide),if_neg (by decide),if_neg (by decide),if_neg (by decide),if_neg (by decide),if_pos (by decide)]
  rw [if_neg (by omega)]
  rw [Au2 (w:=w+1) (rest:=rest) (fun a r hb=>Aqe hb _ _) l (s.length+1) (a+1) (fun x hx=>⟨hl x hx,ih x hx s m⟩) h' (by omega) (by omega)]
  simp;omega
 |dict w d hw64 hk hd hl ih=>
  intro s m a rest hm h hr hc
  obtain⟨m,rfl⟩:∃n,m=n+1:=fuel hm h (U8 (.dict w d hw64 hk hd hl))
  rw [Amk]at h ⊢
  have e:=Oi (c:=60) h (by decide) (by decide)
  rw [Wh,if_neg (by decide),if_neg (by decide),if_neg (by decide),if_neg (by decide),if_pos (by decide),if_pos (by rfl)]at e
  have h':s.drop (a+2)=Bf (d.map fun p=>Bf [Cg p.1,p.2.wr])++62::62::rest:=by
   have:=A1b h
   simpa using this
  rw [L9,e];simp only
  rw [if_neg (by decide),if_neg (by decide),if_neg (by decide),if_neg (by decide),if_neg (by decide),if_neg (by decide),if_neg (by decide),if_pos (by decide)]
  rw [if_neg (by omega)]
  rw [Auc (w:=w+1) (rest:=rest) (fun a r hb=>Aqe hb _ _) d (s.length+1) (a+2) (fun x hx=>⟨hl x hx,ih x hx s m⟩) hk hd h' (by omega) (by omega)]
  simp;omega
 |link w n g h0 h1 h2 h3=>
  intro s m a rest hm h hr hc
  obtain⟨m,rfl⟩:∃n,m=n+1:=fuel hm h (U8 (.link w n g h0 h1 h2 h3))
  rw [Aml]at h ⊢
  rw [List.append_assoc]at h
  have e:=Abx h (by omega) (by omega) (Ls _ (by decide))
  have h4:s.drop (a+(Lib.itoa n).length)=32::(Lib.itoa g++([32,82]++rest)):=by simpa using Hl h
  have h5:=Ul h4
  have e2:=Abx (a:=a+(Lib.itoa n).length+1) h5 (by omega) (by omega) (Ls _ (by decide))
  have h6:s.drop (a+(Lib.itoa n).length+1+(Lib.itoa g).length)=32::82::rest:=Hl h5
  have h7:=Ul h6
  have e3:=A2z (a:=a+(Lib.itoa n).length+1+(Lib.itoa g).length+1) h7 hr
  have el:Yj s ((a+(Lib.itoa n).length:Nat):Int).toNat=some (g,a+(Lib.itoa n).length+1+(Lib.itoa g).length+1+1):=by
   rw [Int.toNat_natCast,Yj,Lp h4,e2,if_pos ⟨rfl,rfl⟩]
   simp only
   rw [Lp h6,e3,if_pos ⟨rfl,rfl,rfl⟩]
  rw [Int.toNat_natCast]at el
  rw [L9,e];simp only
  rw [if_neg (by decide),if_neg (by decide),if_pos (by decide)]
  rw [numL,el]
  simp only
  rw [if_neg (by omega)]
  simp;omega
end Go.Proofs.Sim.Pa
namespace Go.Proofs.Sim.Pa
open Go Go.Proofs Go.Proofs.Sim Go.Proofs.Sim.Va Go.Proofs.Sim.Se Go.Proofs.Sim.St
theorem Amu(k:Ky)(l:List Pr):(l.map fun p=>p.1).count k=(Ht pk k l).length:=by
 induction l with
 |nil=>rfl
 |cons p r ih=>
  rw [List.map_cons,List.count_cons,Vs,ih]
  by_cases h:p.1=k<;>simp [h]
theorem Ats(l:List Pr):((uniq l).map fun p=>p.1).Nodup:=by
 rw [List.nodup_iff_count]
 intro k
 rw [Amu,Aqr,List.length_take]
 exact Nat.min_le_left ..
theorem Am8(l:List Pr):(((uniq l).filter Qk).map fun p=>p.1).Nodup:=(Ats l).sublist (List.filter_sublist.map _)
theorem Amc {d:List Pr} {p:Pr} (h:p∈Pm d):∃q∈d,p=(q.1,q.2.plain):=by
 obtain⟨q,hq,e⟩:=List.mem_map.1 (Ai9 (List.mem_filter.1 h).1)
 exact⟨q,hq,e.symm⟩
theorem Atr(l:List Pr):uniq ((uniq l).filter Qk)=(uniq l).filter Qk:=by
 refine(A0c ((Ahv l).sublist List.filter_sublist) fun k=> ?_).symm
 refine(List.take_of_length_le ?_).symm
 rw [←Amu]
 exact List.nodup_iff_count.1 (Am8 l) k
theorem Az1(l:List V):(V.mk 5 0 0 [] l []).plain= .mk 5 0 0 [] (l.map V.plain) []:=by rw [Dx];rfl
theorem Az2(d:List Pr):(V.mk 6 0 0 [] [] d).plain= .mk 6 0 0 [] [] (Pm d):=by rw [Dx];rfl
theorem Am9 {w:Nat} {v:V} (h:Jw w v):Jw w v.plain:=by
 induction h with
 |null w=>rw [Dx];exact .null w
 |bool w n h=>rw [Dx];exact .bool w n h
 |int w n h0 h1=>rw [Dx];exact .int w n h0 h1
 |name w s h0 h1=>rw [Dx];exact .name w s h0 h1
 |text w s h1=>rw [Dx];exact .text w s h1
 |list w l hw hl ih=>
  rw [Az1]
  refine .list w _ hw fun x hx=> ?_
  obtain⟨y,hy,rfl⟩:=List.mem_map.1 hx
  exact ih y hy
 |dict w d hw hk hd hl ih=>
  rw [Az2]
  refine .dict w _ hw (fun p hp=> ?_) (Am8 _) fun p hp=> ?_
  ·obtain⟨q,hq,rfl⟩:=Amc hp;exact hk q hq
  ·obtain⟨q,hq,rfl⟩:=Amc hp;exact ih q hq
 |link w n g h0 h1 h2 h3=>rw [Dx];exact .link w n g h0 h1 h2 h3
theorem A1q {d:List Pr} (h:∀p∈d,p.2.plain=p.2):J2 d=d:=by
 unfold J2
 conv=>rhs;rw [←List.map_id d]
 exact List.map_congr_left fun p hp=>by rw [h p hp];rfl
theorem Aq7:∀(N:Nat) (v:V),SizeOf.sizeOf v<N→v.plain.plain=v.plain:=by
 intro N
 induction N with
 |zero=>intro v h;cases h
 |succ N ih=>
  intro v hN
  obtain⟨k,n,g,s,l,d⟩:=v
  have hl:(l.map V.plain).map V.plain=l.map V.plain:=by
   rw [List.map_map]
   exact List.map_congr_left fun x hx=>ih x (by have:=Adl (k:=k) (n:=n) (g:=g) (s:=s) (d:=d) hx;omega)
  have hd:Pm (Pm d)=Pm d:=by
   have e:J2 (Pm d)=Pm d:=A1q fun p hp=>by
    obtain⟨q,hq,rfl⟩:=Amc hp
    exact ih q.2 (by have:=Adk (k:=k) (n:=n) (g:=g) (s:=s) (l:=l) hq;omega)
   unfold Pm at e ⊢
   rw [e,Atr,List.filter_filter]
   simp
  rw [Dx (.mk k n g s l d)]
  show(Qj k n g s (l.map V.plain) (J2 d)).plain=Qj k n g s (l.map V.plain) (J2 d)
  unfold Qj
  by_cases h1:k=1∨k=2
  ·rw [if_pos h1,Dx];show Qj k n 0 [] [] []=_;rw [Qj,if_pos h1]
  rw [if_neg h1]
  by_cases h3:k=3∨k=4
  ·rw [if_pos h3,Dx];show Qj k 0 0 s [] []=_;rw [Qj,if_neg h1,if_pos h3]
  rw [if_neg h3]
  by_cases h5:k=5
  ·rw [if_pos h5,Dx];show Qj k 0 0 [] ((l.map V.plain).map V.plain) []=_;rw [Qj,if_neg h1,if_neg h3,if_pos h5,hl]
  rw [if_neg h5]
  by_cases h6:k=6
  ·rw [if_pos h6,Dx];show Qj k 0 0 [] [] (J2 (Pm d))=_;rw [Qj,if_neg h1,if_neg h3,if_neg h5,if_pos h6];show V.mk k 0 0 [] [] (Pm (Pm d))=_;rw [hd];rfl
  rw [if_neg h6]
  by_cases h7:k=7
  ·rw [if_pos h7,Dx];show Qj k n g [] [] []=_;rw [Qj,if_neg h1,if_neg h3,if_neg h5,if_neg h6,if_pos h7]
  rw [if_neg h7]
  by_cases h8:k=8
  ·rw [if_pos h8,Dx];show Qj k 0 0 s [] (J2 (Pm d))=_;rw [Qj,if_neg h1,if_neg h3,if_neg h5,if_neg h6,if_neg h7,if_pos h8];show V.mk k 0 0 s [] (Pm (Pm d))=_;rw [hd];rfl
  rw [if_neg h8]
  unfold zero
  rw [Dx];rfl
theorem Aq8(v:V):v.plain.plain=v.plain:=Aq7 _ v (Nat.lt_succ_self _)
end Go.Proofs.Sim.Pa

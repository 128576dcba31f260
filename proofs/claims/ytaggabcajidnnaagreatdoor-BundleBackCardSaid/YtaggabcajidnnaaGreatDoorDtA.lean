import Derived.Test.YtaggabcajidnnaaGreatDoorSeatGenP
import Derived.Test.YtaggabcajidnnaaGreatDoorDgL
import Derived.Laws.RangeString
import Derived.Test.YtaggabcajidnnaaGreatDoorTryzShelf
import Derived.Test.YtaggabcajidnnaaGreatDoorSimPQ
namespace Go.Proofs.Sim.Se
open Go Go.Proofs Go.Proofs.Sim
set_option maxRecDepth 100000
theorem getD_lt(s:List UInt8)(n:Nat)(h:n<s.length):s.getD n 0=s[n]:=by simp [List.getD_eq_getElem?_getD,h]
theorem Bdl(s:List UInt8)(n:Nat)(h:n<s.length):Y5 (s.drop n)=if Ue s[n]then Y5 (s.drop (n+1))+1 else 0:=by
 unfold Y5
 rw [List.drop_eq_getElem_cons h,List.takeWhile_cons]
 split<;>simp
theorem Bgs(s:List UInt8)(n:Nat)(h:¬n<s.length):Y5 (s.drop n)=0:=by
 rw [List.drop_eq_nil_of_le (by omega)];rfl
theorem Aeb(a0:Int):Call E0.P Qc [.imm (.int .i32 a0)] [] (Is (.imm (.bool (decide (48≤a0) && decide (a0≤57)))) []):=by
 refine Avf _ _ (Let.intro ⟨?_,rfl⟩)
 cases decide (48≤a0)<;>rfl
theorem A9l(s:List UInt8)(n:Nat)(h:n<s.length)(hc:¬s[n].toNat<128):128≤(Gn s n).1:=by
 unfold Gn Utf8.decode
 have e:(⟨s.toArray⟩:ByteArray).get! (n+0)=s[n]:=by
  simp [ByteArray.get!,getElem!_pos,h]
 simp only [e,hc,if_false]
 have hc':128≤s[n].toNat:=by omega
 generalize s[n].toNat=b0 at*
 repeat' split
 all_goals first |(simp [Utf8.runeError];done) |(simp at *; omega)
theorem Azz(s:List UInt8)(n:Nat)(h:n<s.length)(hc:s[n].toNat<128):Gn s n=(s[n].toNat,1):=by
 unfold Gn
 have h':n<(⟨s.toArray⟩:ByteArray).size:=by simpa [ByteArray.size] using h
 have e:(⟨s.toArray⟩:ByteArray)[n]=s[n]:=by show s.toArray[n]=_;simp
 rw [decode_ascii ⟨s.toArray⟩ n h' (by rw [e];exact hc),e]
theorem Bbi(s:List UInt8)(n:Nat)(h:n<s.length):(decide ((48:Int)≤((Gn s n).1:Int)) && decide (((Gn s n).1:Int)≤57))=Ue s[n]:=by
 by_cases hc:s[n].toNat<128
 ·rw [Azz s n h hc]
  rw [Bool.eq_iff_iff]
  simp only [Ue,Bool.and_eq_true,decide_eq_true_eq]
  omega
 ·have:=A9l s n h hc
  rw [Bool.eq_iff_iff]
  simp only [Ue,Bool.and_eq_true,decide_eq_true_eq]
  omega
theorem A1p(s:List UInt8)(K:Ex→St→Prop)(m:Nat):∀(n:Nat),s.length+1≤n+m→n≤s.length→
 (n+Y5 (s.drop n)=s.length→K (.exit 0) ⟨[(0, .imm (.str s))],[]⟩)→
 (n+Y5 (s.drop n)≠s.length→K .ret ⟨[(2, .imm (.int .i64 ((n+Y5 (s.drop n):Nat):Int)))],[]⟩)→Ta s s n K:=by
 induction m with
 |zero=>intro n hm hn;omega
 |succ m ih=>
  intro n hm hn h1 h2
  refine Arh _ _ _ _ ⟨fun h=>⟨fun _=> ?_,fun hf=>absurd hf (by simp)⟩,fun h=>⟨fun hf=>absurd hf (by simp),fun _=> ?_⟩⟩
  ·replace h:=of_decide_eq_true h
   refine Call.use (Aeb _) ⟨⟨rfl,rfl⟩, ?_⟩
   simp only [Pj,Bbi s n h]
   have e:=Bdl s n h
   by_cases hd:Ue s[n]=true
   ·rw [if_pos hd]at e
    have hw:(Gn s n).2=1:=by
     rw [Azz s n h (by have:=(Si _).1 hd;omega)]
    rw [hw]
    refine⟨fun hf=>absurd hf (by simp [hd]),fun _=> ?_⟩
    refine ih (n+1) (by omega) (by omega) ?_ ?_
    ·intro hh;exact h1 (by omega)
    ·intro hh
     have:=h2 (by omega)
     rwa [show n+1+Y5 (s.drop (n+1))=n+Y5 (s.drop n)by omega]
   ·rw [if_neg hd]at e
    refine⟨fun _=> ?_,fun hf=>absurd hf (by simp [hd])⟩
    have:=h2 (by omega)
    rw [e]at this
    exact this
  ·replace h:=of_decide_eq_false h
   exact h1 (by rw [Bgs s n h];omega)
theorem A1s(s:List UInt8):Call E0.P Ac1 [.imm (.str s)] [] (Is (.imm (.int .i64 (Y5 s:Int))) []):=by
 refine Avc _ _ (A1p s _ _ 0 (Nat.le_of_eq (Nat.zero_add _).symm) (by omega) ?_ ?_)
 ·intro h
  refine Aq7 _ _ (Aqm _ _ (Aq5 _ _ ⟨?_,rfl⟩))
  rw [List.drop_zero]at h
  have h:Y5 s=s.length:=by omega
  rw [h]
 ·intro h
  refine Aq6 _ _ ⟨?_,rfl⟩
  simp
end Go.Proofs.Sim.Se
namespace Go.Proofs.Sim.Se
open Go Go.Proofs Go.Proofs.Sim
set_option maxRecDepth 100000
theorem wrap_u8(n:Int)(h1:0≤n)(h2:n≤255):IntKind.u8.wrap n=n:=by
 simp [IntKind.wrap,IntKind.signed,IntKind.bits];omega
theorem wrap_i32(n:Int)(h1: -2147483648≤n)(h2:n≤2147483647):IntKind.i32.wrap n=n:=by
 simp [IntKind.wrap,IntKind.signed,IntKind.bits];omega
def Bi8(K:Ex→St→Prop)(i:Nat):Option Nat→Prop
 |some v=>K (.exit 0) ⟨[(i, .imm (.int .i64 (v:Int)))],[]⟩
 |none=>K .ret ⟨[(2, .imm (.int .i64 0)),(3, .imm (.int .i64 3))],[]⟩
theorem As2(s:List UInt8)(acc:Int)(n:Int)(K:Ex→St→Prop)(h:K (.exit 0) ⟨[(5, .imm (.int .i64 acc))],[]⟩):D8 acc (-1) n s K:=
 Adt _ _ _ _ _ ⟨fun h=>absurd h (by decide),fun _=>h⟩
theorem A0a(s:List UInt8)(hs:s.length≤9223372036854775806)(hd:∀c∈s,Ue c=true)(n:Nat)(hn:n<s.length):
 Ue s[n]=true∧IntKind.i64.wrap (IntKind.i64.wrap ((n:Int)+1) - 1)=n∧IntKind.i64.wrap ((n:Int)+1)=((n+1:Nat):Int)∧IntKind.i64.wrap (IntKind.u8.wrap ((s[n].toNat:Int) - 48))=((s[n].toNat - 48:Nat):Int)∧IntKind.i32.wrap (s[n].toNat:Int)=s[n].toNat∧s[n].toNat - 48≤9:=by
 have h:=hd _ (List.getElem_mem hn)
 have h':=(Si _).1 h
 have e1:IntKind.i64.wrap ((n:Int)+1)=((n+1:Nat):Int):=by rw [Az _ (by omega) (by omega)];omega
 refine⟨h, ?_,e1, ?_, ?_,by omega⟩
 ·rw [e1,Az _ (by omega) (by omega)];omega
 ·rw [wrap_u8 _ (by omega) (by omega),Az _ (by omega) (by omega)];omega
 ·rw [wrap_i32 _ (by omega) (by omega)]
theorem A1q(s:List UInt8)(hs:s.length≤9223372036854775806)(hd:∀c∈s,Ue c=true)(K:Ex→St→Prop)(m:Nat):∀(n acc d:Nat),s.length+1≤n+m→n≤s.length→acc≤2147483647→d≤9→
 Bi8 K 5 (if 2147483647<10*acc+d then none else Ama (10*acc+d) (s.drop n))→D8 acc d n s K:=by
 induction m with
 |zero=>intro n acc d hm hn;omega
 |succ m ih=>
  intro n acc d hm hn ha hd9 hK
  have e0:IntKind.i64.wrap (IntKind.i64.wrap (10*(acc:Int))+(d:Int))=((10*acc+d:Nat):Int):=by
   rw [Az (10*(acc:Int)) (by omega) (by omega),Az _ (by omega) (by omega)];omega
  refine Adt _ _ _ _ _ ⟨fun _=> ?_,fun h=>absurd (of_decide_eq_false h) (by omega)⟩
  rw [e0]
  refine⟨fun h=> ?_,fun h=> ?_⟩
  ·have h:=of_decide_eq_true h
   rw [if_pos (by omega)]at hK
   exact hK
  ·have h:=of_decide_eq_false h
   rw [if_neg (by omega)]at hK
   refine⟨fun h=>by have:=of_decide_eq_false h;omega,⟨fun h=> ?_,fun h=>⟨rfl,Let.intro ⟨fun _=> ?_,fun h=>absurd h (by decide)⟩⟩⟩⟩
   ·have hn':n<s.length:=by
     simp at h;omega
    obtain⟨h1,h2,h3,h4,h5,h6⟩:=A0a s hs hd n hn'
    have h2':IntKind.i64.wrap (((n+1:Nat):Int) - 1)=n:=by rw [←h3];exact h2
    simp only [Int.toNat_natCast,getD_lt s n hn',h5,h3,h2',h4]
    refine Call.use (Aeb _) ⟨⟨rfl,rfl⟩,Let.intro ?_⟩
    have h1':=(Si _).1 h1
    have hb:(decide ((48:Int)≤(s[n].toNat:Int)) && decide ((s[n].toNat:Int)≤57))=true:=by
     simp only [Bool.and_eq_true,decide_eq_true_eq];omega
    simp only [Pj,hb]
    refine⟨fun h=>absurd h (by decide),fun _=>⟨by omega, ?_⟩⟩
    refine ih (n+1) _ _ (by omega) (by omega) (by omega) (by omega) ?_
    rw [List.drop_eq_getElem_cons hn']at hK
    exact hK
   ·have hn':¬n<s.length:=by
     simp at h;omega
    refine As2 _ _ _ _ ?_
    rw [List.drop_eq_nil_of_le (by omega)]at hK
    exact hK
def isP(p:Int × Int):AV:= .tup [.imm (.int .i64 p.1), .imm (.int .i64 p.2)]
theorem A1t(s:List UInt8)(hs:s.length≤9223372036854775806):Call E0.P Ac2 [.imm (.str s)] [] (Is (isP (Aa7 s)) []):=by
 refine Avd _ _ ⟨fun h=> ?_,fun h=>⟨rfl,Let.intro ?_⟩⟩
 ·have h0:s≠[]:=by intro e;subst e;simp at h
  refine Call.use (A1s _) ⟨⟨rfl,rfl⟩, ?_⟩
  rw [Hm]
  refine Let.intro (Ado _ _ _ ⟨fun h2=> ?_,fun h2=> ?_⟩)
  ·refine Adr _ _ _ ⟨?_,rfl⟩
   simp at h2
   rw [Aa7,if_pos (Or.inr (by omega))]
   rfl
  ·simp at h2
   refine Aq8 _ _ (Aqn _ _ ?_)
   have hd:=(Ao8 s).1 (by omega)
   have h0':0<s.length:=by cases s with |nil=>exact absurd rfl h0 |cons a b=>simp
   obtain⟨h1,h2',h3,h4,h5,h6⟩:=A0a s hs hd 0 h0'
   have hfx:Aa7 s=Bbq (Ama 0 s):=by
    rw [Aa7,if_neg];rintro(h |h);exact h0 h;omega
   refine⟨fun _=>by omega,fun _=> ?_,fun h=> ?_⟩
   ·simp only [getD_lt s 0 h0',h5]
    refine Call.use (Aeb _) ⟨⟨rfl,rfl⟩,Let.intro ?_⟩
    have h1':=(Si _).1 h1
    have hb:(decide ((48:Int)≤(s[0].toNat:Int)) && decide ((s[0].toNat:Int)≤57))=true:=by
     simp only [Bool.and_eq_true,decide_eq_true_eq];omega
    simp only [Pj,hb]
    refine⟨fun h=>absurd h (by decide),fun _=>⟨?_, ?_⟩⟩
    ·have:IntKind.i64.wrap (IntKind.i64.wrap ((0:Int)+1) - 1)=0:=by decide
     rw [this];omega
    ·have:IntKind.i64.wrap ((0:Int)+1)=((1:Nat):Int):=by decide
     rw [h4,this]
     refine A1q s hs hd _ s.length 1 0 _ (by omega) (by omega) (by omega) h6 ?_
     have e:(if 2147483647<10*0+(s[0].toNat - 48)then none else Ama (10*0+(s[0].toNat - 48)) (s.drop 1))=Ama 0 s:=by
      cases s with
      |nil=>exact absurd rfl h0
      |cons a b=>rfl
     rw [e]
     cases hv:Ama 0 s<;>simp only [Bi8]
     ·exact Ara _ _ _ (Adq _ _ _ ⟨by rw [hfx,hv];rfl,rfl⟩)
     ·exact Arb _ _ (Aoq _ _ (Aq9 _ _ _ (Adq _ _ _ ⟨by rw [hfx,hv];rfl,rfl⟩)))
   ·simp at h;exact absurd h h0
 ·have h0:s=[]:=by simpa using h
  subst h0
  exact Ado _ _ _ ⟨fun _=>Adr _ _ _ ⟨rfl,rfl⟩,fun h=>absurd h (by decide)⟩
end Go.Proofs.Sim.Se
namespace Go.Proofs.Sim.Se
open Go Go.Proofs Go.Proofs.Sim Go.RowKit
set_option maxRecDepth 100000
theorem Aba {m:Nat→Nat→Option Value} {v:Value} {k:IntKind} {n:Int} (h:RepI m v (.int k n)):v= .int k n:=by
 cases h;rfl
theorem As5(s:List UInt8)(c:UInt8):Call E0.P Ady [.imm (.str s), .imm (.str [c])] [] (Is (.imm (.bool (decide (0≤Lib.indexByte s c)))) []):=by
 refine Tn Tryz.func164 (by kernel_rfl) (by kernel_rfl) [.str s, .str [c]] _ fun g w vs hv hs=> ?_
 obtain⟨v,u,rfl,hr,hu⟩:=Bci hv
 obtain rfl:=Ap3 hr
 obtain rfl:=Ap3 hu
 refine(Tryz.strings_Contains_one ⟨s.toArray⟩ c w).mono ?_
 rintro e w' ⟨rfl,rfl⟩
 exact⟨_, .imm (.bool (decide (0≤Lib.indexByte s c))),rfl,Below.refl _ _, .imm _ _ (.bool _),rfl,rfl⟩
end Go.Proofs.Sim.Se
namespace Go.Proofs.Sim.Se
open Go Go.Proofs Go.Proofs.Sim Go.RowKit
set_option maxRecDepth 100000
def A7v(b:Bool)(s:List UInt8):AV:= .tup [.imm (.bool b), .imm (.str s)]
theorem Bco(signs:List UInt8)(c:UInt8)(r:List UInt8):Call E0.P Og [.imm (.str (c::r)), .imm (.str signs)] []
 (Is (if 0≤Lib.indexByte signs c then A7v (decide (c.toNat=45)) r else A7v false (c::r)) []):=by
 refine Afm _ _ _ ⟨fun _=>by simp<;>omega,Let.intro ⟨fun _=> ?_,fun h=>absurd h (by simp)⟩⟩
 rw [show List.take 1 (c::r)=[c] from rfl]
 refine Call.use (As5 _ _) ⟨⟨rfl,rfl⟩, ?_⟩
 rw [Pj]
 refine Let.intro (Abw _ _ _ ⟨fun h=> ?_,fun h=> ?_⟩)
 ·refine Ab1 _ _ _ ⟨?_,rfl⟩
  rw [if_neg (by simpa using h)];rfl
 ·refine Aoz _ _ (Aor _ _ ⟨by simp<;>omega,⟨by simp<;>omega,Let.intro ?_⟩⟩)
  refine Aoy _ _ _ ⟨?_,rfl⟩
  rw [if_pos (by simpa using h)]
  simp only [A7v,List.drop_one,List.tail_cons,List.getD_cons_zero]
  congr 3
  rw [Bool.eq_iff_iff];simp;omega
theorem Bcp(signs:List UInt8):Call E0.P Og [.imm (.str []), .imm (.str signs)] [] (Is (A7v false []) []):=by
 refine Afm _ _ _ ⟨fun h=>absurd h (by simp),Let.intro ⟨fun h=>absurd h (by simp),fun _=>⟨rfl,Let.intro (Abw _ _ _ ⟨fun h=> ?_,fun h=>absurd h (by simp)⟩)⟩⟩⟩
 exact Ab1 _ _ _ ⟨rfl,rfl⟩
theorem Bkt(c:UInt8):0≤Lib.indexByte [45] c↔c.toNat=45:=by
 have e:((45:UInt8) == c)=decide (c.toNat=45):=by
  rw [Bool.eq_iff_iff];simp;constructor
  ·rintro rfl;rfl
  ·intro h;exact(UInt8.toNat_inj.1 h).symm
 simp only [Lib.indexByte,e,decide_eq_true_eq]
 split
 ·simp;assumption
 ·simp;assumption
theorem Bhh(c:UInt8):0≤Lib.indexByte [43,45] c↔c.toNat=43∨c.toNat=45:=by
 have e:((43:UInt8) == c)=decide (c.toNat=43):=by
  rw [Bool.eq_iff_iff];simp;constructor
  ·rintro rfl;rfl
  ·intro h;exact(UInt8.toNat_inj.1 h).symm
 have h1:=Bkt c
 have h2:=Lib.indexByte_ge [45] c
 rw [Lib.indexByte,e]
 simp only [decide_eq_true_eq]
 split
 ·simp;left;assumption
 ·split
  ·rename_i h3 h4
   have h4:Lib.indexByte [45] c= -1:=by simpa using h4
   omega
  ·rename_i h3 h4
   have h4:Lib.indexByte [45] c≠ -1:=by simpa using h4
   omega
theorem A9e(s:List UInt8):Call E0.P Og [.imm (.str s), .imm (.str [43,45])] [] (Is (A7v (isM s) (Qa s)) []):=by
 cases s with
 |nil=>exact Bcp _
 |cons c r=>
  have:=Bco [43,45] c r
  simp only [Bhh]at this
  by_cases h:c.toNat=43∨c.toNat=45
  ·rw [if_pos h]at this
   have e:isM (c::r)=decide (c.toNat=45):=rfl
   rw [e];simpa [Qa,h] using this
  ·rw [if_neg h]at this
   have e:isM (c::r)=false:=by simp [isM];omega
   rw [e];simpa [Qa,h] using this
theorem Bk3(s:List UInt8):IntKind.i64.wrap (0 - (Aa7 s).1)= -(Aa7 s).1:=by
 have:=Bag s
 rw [Az _ (by omega) (by omega)];omega
theorem Bdq(s:List UInt8):(Qa s).length≤s.length:=by
 unfold Qa;split
 ·split<;>simp
 ·simp
theorem A1u(s:List UInt8)(hs:s.length≤9223372036854775806):Call E0.P Ac3 [.imm (.str s)] [] (Is (isP (Gb s)) []):=by
 refine Ave _ _ (Call.use (A9e s) ⟨⟨rfl,rfl⟩, ?_⟩)
 refine Call.use (A1t (Qa s) (by have:=Bdq s;omega)) ⟨⟨rfl,rfl⟩, ?_⟩
 show Br (isM s) (Sk (IntKind.i64.wrap (0 - (Aa7 (Qa s)).1)) _ _) _
 rw [Bk3]
 refine⟨fun h=> ?_,fun h=> ?_⟩<;>refine Aqo _ _ _ (Arc _ _ _ ⟨?_,rfl⟩)<;>rw [Gb,h]<;>rfl
end Go.Proofs.Sim.Se

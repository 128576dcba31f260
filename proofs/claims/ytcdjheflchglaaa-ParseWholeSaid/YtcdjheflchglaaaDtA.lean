import Derived.Test.YtcdjheflchglaaaSeatGenP
import Derived.Test.YtcdjheflchglaaaDgL
import Derived.Laws.RangeString
import Derived.Test.YtcdjheflchglaaaTryShelf
import Derived.Test.YtcdjheflchglaaaSimPQ
namespace Go.Proofs.Sim.Se
open Go Go.Proofs Go.Proofs.Sim
set_option maxRecDepth 100000
theorem getD_lt(s:List UInt8)(n:Nat)(h:n<s.length):s.getD n 0=s[n]:=by simp [List.getD_eq_getElem?_getD,h]
theorem Aw8(s:List UInt8)(n:Nat)(h:n<s.length):Qu (s.drop n)=if U0 s[n]then Qu (s.drop (n+1))+1 else 0:=by
 unfold Qu
 rw [List.drop_eq_getElem_cons h,List.takeWhile_cons]
 split<;>simp
theorem A1q(s:List UInt8)(n:Nat)(h:¬n<s.length):Qu (s.drop n)=0:=by
 rw [List.drop_eq_nil_of_le (by omega)];rfl
theorem Aae(a0:Int):Call E0.P Og [.imm (.int .i32 a0)] [] (Is (.imm (.bool (decide (48≤a0) && decide (a0≤57)))) []):=by
 refine Ao5 _ _ (Let.intro ⟨?_,rfl⟩)
 cases decide (48≤a0)<;>rfl
theorem A1u(s:List UInt8)(n:Nat)(h:n<s.length)(hc:¬s[n].toNat<128):128≤(Gh s n).1:=by
 unfold Gh Utf8.decode
 have e:(⟨s.toArray⟩:ByteArray).get! (n+0)=s[n]:=by
  simp [ByteArray.get!,getElem!_pos,h]
 simp only [e,hc,if_false]
 have hc':128≤s[n].toNat:=by omega
 generalize s[n].toNat=b0 at*
 repeat' split
 all_goals first |(simp [Utf8.runeError];done) |(simp at *; omega)
theorem Aut(s:List UInt8)(n:Nat)(h:n<s.length)(hc:s[n].toNat<128):Gh s n=(s[n].toNat,1):=by
 unfold Gh
 have h':n<(⟨s.toArray⟩:ByteArray).size:=by simpa [ByteArray.size] using h
 have e:(⟨s.toArray⟩:ByteArray)[n]=s[n]:=by show s.toArray[n]=_;simp
 rw [decode_ascii ⟨s.toArray⟩ n h' (by rw [e];exact hc),e]
theorem A4f(s:List UInt8)(n:Nat)(h:n<s.length):(decide ((48:Int)≤((Gh s n).1:Int)) && decide (((Gh s n).1:Int)≤57))=U0 s[n]:=by
 by_cases hc:s[n].toNat<128
 ·rw [Aut s n h hc]
  rw [Bool.eq_iff_iff]
  simp only [U0,Bool.and_eq_true,decide_eq_true_eq]
  omega
 ·have:=A1u s n h hc
  rw [Bool.eq_iff_iff]
  simp only [U0,Bool.and_eq_true,decide_eq_true_eq]
  omega
theorem Awa(s:List UInt8)(K:Ex→St→Prop)(m:Nat):∀(n:Nat),s.length+1≤n+m→n≤s.length→
 (n+Qu (s.drop n)=s.length→K (.exit 0) ⟨[(0, .imm (.str s))],[]⟩)→
 (n+Qu (s.drop n)≠s.length→K .ret ⟨[(2, .imm (.int .i64 ((n+Qu (s.drop n):Nat):Int)))],[]⟩)→Qy s s n K:=by
 induction m with
 |zero=>intro n hm hn;omega
 |succ m ih=>
  intro n hm hn h1 h2
  refine Amk _ _ _ _ ⟨fun h=>⟨fun _=> ?_,fun hf=>absurd hf (by simp)⟩,fun h=>⟨fun hf=>absurd hf (by simp),fun _=> ?_⟩⟩
  ·replace h:=of_decide_eq_true h
   refine Call.use (Aae _) ⟨⟨rfl,rfl⟩, ?_⟩
   simp only [U1,A4f s n h]
   have e:=Aw8 s n h
   by_cases hd:U0 s[n]=true
   ·rw [if_pos hd]at e
    have hw:(Gh s n).2=1:=by
     rw [Aut s n h (by have:=(Tj _).1 hd;omega)]
    rw [hw]
    refine⟨fun hf=>absurd hf (by simp [hd]),fun _=> ?_⟩
    refine ih (n+1) (by omega) (by omega) ?_ ?_
    ·intro hh;exact h1 (by omega)
    ·intro hh
     have:=h2 (by omega)
     rwa [show n+1+Qu (s.drop (n+1))=n+Qu (s.drop n)by omega]
   ·rw [if_neg hd]at e
    refine⟨fun _=> ?_,fun hf=>absurd hf (by simp [hd])⟩
    have:=h2 (by omega)
    rw [e]at this
    exact this
  ·replace h:=of_decide_eq_false h
   exact h1 (by rw [A1q s n h];omega)
theorem Awi(s:List UInt8):Call E0.P Yz [.imm (.str s)] [] (Is (.imm (.int .i64 (Qu s:Int))) []):=by
 refine Ape _ _ (Awa s _ _ 0 (Nat.le_of_eq (Nat.zero_add _).symm) (by omega) ?_ ?_)
 ·intro h
  refine Amq _ _ (Ame _ _ (Ami _ _ ⟨?_,rfl⟩))
  rw [List.drop_zero]at h
  have h:Qu s=s.length:=by omega
  rw [h]
 ·intro h
  refine Amu _ _ ⟨?_,rfl⟩
  simp
theorem A2k(s:List UInt8)(hs:s.length≤9223372036854775806)(K:Ex→St→Prop)(m:Nat):∀(n:Nat),s.length+1≤n+m→n≤s.length→
 K (.exit 0) ⟨[(3, .imm (.int .i64 ((n+Qu (s.drop n):Nat):Int)))],[]⟩→Wx s n K:=by
 induction m with
 |zero=>intro n hm hn;omega
 |succ m ih=>
  intro n hm hn hK
  refine Arn _ _ _ ?_
  simp only [Int.toNat_natCast]
  by_cases hn':n<s.length
  ·have hd:decide ((n:Int)<(s.length:Int))=true:=decide_eq_true (by omega)
   simp only [getD_lt s n hn',hd,cond_true]
   have e:=Aw8 s n hn'
   refine⟨fun _=>by omega,Let.intro ⟨fun _=>by omega,Let.intro ⟨fun h=> ?_,fun h=> ?_⟩⟩⟩
   ·simp only [Bool.cond_false_right,Bool.and_eq_true,decide_eq_true_eq]at h
    rw [if_pos ((Tj _).2 (by omega))]at e
    rw [Be _ (by omega) (by omega)]
    refine ih (n+1) (by omega) (by omega) ?_
    rwa [show n+1+Qu (s.drop (n+1))=n+Qu (s.drop n)by omega]
   ·simp only [Bool.cond_false_right,Bool.and_eq_false_iff,decide_eq_false_iff_not]at h
    rw [if_neg (by intro hd;have:=(Tj _).1 hd;omega)]at e
    rw [e]at hK
    exact hK
  ·have hd:decide ((n:Int)<(s.length:Int))=false:=decide_eq_false (by omega)
   simp only [hd,cond_false]
   refine⟨fun h=>absurd h (by simp),Let.intro ⟨fun h=>absurd h (by simp),Let.intro ⟨fun h=>absurd h (by simp),fun _=> ?_⟩⟩⟩
   rw [A1q s n hn']at hK
   exact hK
theorem A1y(s:List UInt8)(hs:s.length≤9223372036854775806):Call E0.P Agv [.imm (.str s)] [] (Is (.imm (.int .i64 (Qu s:Int))) []):=by
 refine Av8 _ _ (A2k s hs _ _ 0 (Nat.le_of_eq (Nat.zero_add _).symm) (by omega) ?_)
 refine Ara _ _ (Aqg _ _ (Ari _ _ ⟨?_,rfl⟩))
 simp
end Go.Proofs.Sim.Se
namespace Go.Proofs.Sim.Se
open Go Go.Proofs Go.Proofs.Sim
set_option maxRecDepth 100000
theorem wrap_u8(n:Int)(h1:0≤n)(h2:n≤255):IntKind.u8.wrap n=n:=by
 simp [IntKind.wrap,IntKind.signed,IntKind.bits];omega
theorem wrap_i32(n:Int)(h1: -2147483648≤n)(h2:n≤2147483647):IntKind.i32.wrap n=n:=by
 simp [IntKind.wrap,IntKind.signed,IntKind.bits];omega
def Ayt(K:Ex→St→Prop)(i:Nat):Option Nat→Prop
 |some v=>K (.exit 0) ⟨[(i, .imm (.int .i64 (v:Int)))],[]⟩
 |none=>K .ret ⟨[(2, .imm (.int .i64 0)),(3, .imm (.int .i64 3))],[]⟩
theorem Anx(s:List UInt8)(acc:Int)(n:Int)(K:Ex→St→Prop)(h:K (.exit 0) ⟨[(5, .imm (.int .i64 acc))],[]⟩):Ef acc (-1) n s K:=
 Aac _ _ _ _ _ ⟨fun h=>absurd h (by decide),fun _=>h⟩
theorem Ak2(s:List UInt8)(hs:s.length≤9223372036854775806)(hd:∀c∈s,U0 c=true)(n:Nat)(hn:n<s.length):
 U0 s[n]=true∧IntKind.i64.wrap (IntKind.i64.wrap ((n:Int)+1) - 1)=n∧IntKind.i64.wrap ((n:Int)+1)=((n+1:Nat):Int)∧IntKind.i64.wrap (IntKind.u8.wrap ((s[n].toNat:Int) - 48))=((s[n].toNat - 48:Nat):Int)∧IntKind.i32.wrap (s[n].toNat:Int)=s[n].toNat∧s[n].toNat - 48≤9:=by
 have h:=hd _ (List.getElem_mem hn)
 have h':=(Tj _).1 h
 have e1:IntKind.i64.wrap ((n:Int)+1)=((n+1:Nat):Int):=by rw [Be _ (by omega) (by omega)];omega
 refine⟨h, ?_,e1, ?_, ?_,by omega⟩
 ·rw [e1,Be _ (by omega) (by omega)];omega
 ·rw [wrap_u8 _ (by omega) (by omega),Be _ (by omega) (by omega)];omega
 ·rw [wrap_i32 _ (by omega) (by omega)]
theorem Au8(s:List UInt8)(hs:s.length≤9223372036854775806)(hd:∀c∈s,U0 c=true)(K:Ex→St→Prop)(m:Nat):∀(n acc d:Nat),s.length+1≤n+m→n≤s.length→acc≤2147483647→d≤9→
 Ayt K 5 (if 2147483647<10*acc+d then none else Zb (10*acc+d) (s.drop n))→Ef acc d n s K:=by
 induction m with
 |zero=>intro n acc d hm hn;omega
 |succ m ih=>
  intro n acc d hm hn ha hd9 hK
  have e0:IntKind.i64.wrap (IntKind.i64.wrap (10*(acc:Int))+(d:Int))=((10*acc+d:Nat):Int):=by
   rw [Be (10*(acc:Int)) (by omega) (by omega),Be _ (by omega) (by omega)];omega
  refine Aac _ _ _ _ _ ⟨fun _=> ?_,fun h=>absurd (of_decide_eq_false h) (by omega)⟩
  rw [e0]
  refine⟨fun h=> ?_,fun h=> ?_⟩
  ·have h:=of_decide_eq_true h
   rw [if_pos (by omega)]at hK
   exact hK
  ·have h:=of_decide_eq_false h
   rw [if_neg (by omega)]at hK
   refine⟨fun h=>by have:=of_decide_eq_false h;omega,⟨fun h=> ?_,fun h=>⟨rfl,Let.intro ⟨fun _=> ?_,fun h=>absurd h (by decide)⟩⟩⟩⟩
   ·have hn':n<s.length:=by
     simp at h;omega
    obtain⟨h1,h2,h3,h4,h5,h6⟩:=Ak2 s hs hd n hn'
    have h2':IntKind.i64.wrap (((n+1:Nat):Int) - 1)=n:=by rw [←h3];exact h2
    simp only [Int.toNat_natCast,getD_lt s n hn',h5,h3,h2',h4]
    refine Call.use (Aae _) ⟨⟨rfl,rfl⟩,Let.intro ?_⟩
    have h1':=(Tj _).1 h1
    have hb:(decide ((48:Int)≤(s[n].toNat:Int)) && decide ((s[n].toNat:Int)≤57))=true:=by
     simp only [Bool.and_eq_true,decide_eq_true_eq];omega
    simp only [U1,hb]
    refine⟨fun h=>absurd h (by decide),fun _=>⟨by omega, ?_⟩⟩
    refine ih (n+1) _ _ (by omega) (by omega) (by omega) (by omega) ?_
    rw [List.drop_eq_getElem_cons hn']at hK
    exact hK
   ·have hn':¬n<s.length:=by
     simp at h;omega
    refine Anx _ _ _ _ ?_
    rw [List.drop_eq_nil_of_le (by omega)]at hK
    exact hK
def isP(p:Int × Int):AV:= .tup [.imm (.int .i64 p.1), .imm (.int .i64 p.2)]
theorem Awl(s:List UInt8)(hs:s.length≤9223372036854775806):Call E0.P Ze [.imm (.str s)] [] (Is (isP (Qn s)) []):=by
 refine Apm _ _ ⟨fun h=> ?_,fun h=>⟨rfl,Let.intro ?_⟩⟩
 ·have h0:s≠[]:=by intro e;subst e;simp at h
  refine Call.use (Awi _) ⟨⟨rfl,rfl⟩, ?_⟩
  rw [Ee]
  refine Let.intro (Z9 _ _ _ ⟨fun h2=> ?_,fun h2=> ?_⟩)
  ·refine Aaa _ _ _ ⟨?_,rfl⟩
   simp at h2
   rw [Qn,if_pos (Or.inr (by omega))]
   rfl
  ·simp at h2
   refine Amg _ _ (Amr _ _ ?_)
   have hd:=(A1i s).1 (by omega)
   have h0':0<s.length:=by cases s with |nil=>exact absurd rfl h0 |cons a b=>simp
   obtain⟨h1,h2',h3,h4,h5,h6⟩:=Ak2 s hs hd 0 h0'
   have hfx:Qn s=A0q (Zb 0 s):=by
    rw [Qn,if_neg];rintro(h |h);exact h0 h;omega
   refine⟨fun _=>by omega,fun _=> ?_,fun h=> ?_⟩
   ·simp only [getD_lt s 0 h0',h5]
    refine Call.use (Aae _) ⟨⟨rfl,rfl⟩,Let.intro ?_⟩
    have h1':=(Tj _).1 h1
    have hb:(decide ((48:Int)≤(s[0].toNat:Int)) && decide ((s[0].toNat:Int)≤57))=true:=by
     simp only [Bool.and_eq_true,decide_eq_true_eq];omega
    simp only [U1,hb]
    refine⟨fun h=>absurd h (by decide),fun _=>⟨?_, ?_⟩⟩
    ·have:IntKind.i64.wrap (IntKind.i64.wrap ((0:Int)+1) - 1)=0:=by decide
     rw [this];omega
    ·have:IntKind.i64.wrap ((0:Int)+1)=((1:Nat):Int):=by decide
     rw [h4,this]
     refine Au8 s hs hd _ s.length 1 0 _ (by omega) (by omega) (by omega) h6 ?_
     have e:(if 2147483647<10*0+(s[0].toNat - 48)then none else Zb (10*0+(s[0].toNat - 48)) (s.drop 1))=Zb 0 s:=by
      cases s with
      |nil=>exact absurd rfl h0
      |cons a b=>rfl
     rw [e]
     cases hv:Zb 0 s<;>simp only [Ayt]
     ·exact Ams _ _ _ (Z7 _ _ _ ⟨by rw [hfx,hv];rfl,rfl⟩)
     ·exact Amj _ _ (Akk _ _ (Amt _ _ _ (Z7 _ _ _ ⟨by rw [hfx,hv];rfl,rfl⟩)))
   ·simp at h;exact absurd h h0
 ·have h0:s=[]:=by simpa using h
  subst h0
  exact Z9 _ _ _ ⟨fun _=>Aaa _ _ _ ⟨rfl,rfl⟩,fun h=>absurd h (by decide)⟩
theorem A2d(s:List UInt8)(hs:s.length≤9223372036854775806)(hd:∀c∈s,U0 c=true)(K:Ex→St→Prop)(m:Nat):∀(n acc:Nat),s.length+1≤n+m→n≤s.length→acc≤2147483647→
 Ayt K 4 (Zb acc (s.drop n))→Wz s acc n K:=by
 induction m with
 |zero=>intro n acc hm hn;omega
 |succ m ih=>
  intro n acc hm hn ha hK
  refine Aq2 _ _ _ _ ⟨fun h=> ?_,fun h=> ?_⟩
  ·have hn':n<s.length:=by have:=of_decide_eq_true h;omega
   obtain⟨h1,h2,h3,h4,h5,h6⟩:=Ak2 s hs hd n hn'
   have h1':=(Tj _).1 h1
   rw [List.drop_eq_getElem_cons hn']at hK
   simp only [Int.toNat_natCast,getD_lt s n hn',h3]
   have e0:IntKind.i64.wrap (IntKind.i64.wrap (IntKind.i64.wrap (10*(acc:Int))+IntKind.i64.wrap (s[n].toNat:Int)) - 48)=((10*acc+(s[n].toNat - 48):Nat):Int):=by
    rw [Be (10*(acc:Int)) (by omega) (by omega),Be (s[n].toNat:Int) (by omega) (by omega),Be (10*(acc:Int)+(s[n].toNat:Int)) (by omega) (by omega),Be _ (by omega) (by omega)];omega
   rw [e0]
   unfold Zb at hK
   refine⟨by omega,fun h=> ?_,fun h=> ?_⟩
   ·have h:=of_decide_eq_true h
    rw [if_pos (by omega)]at hK
    exact hK
   ·have h:=of_decide_eq_false h
    rw [if_neg (by omega)]at hK
    exact ih (n+1) _ (by omega) (by omega) (by omega) hK
  ·have hn':¬n<s.length:=by have:=of_decide_eq_false h;omega
   rw [List.drop_eq_nil_of_le (by omega)]at hK
   exact hK
theorem A17(s:List UInt8)(hs:s.length≤9223372036854775806):Call E0.P Yt [.imm (.str s)] [] (Is (isP (Qn s)) []):=by
 refine Avz _ _ ⟨fun h=> ?_,fun h=>⟨rfl,Let.intro ?_⟩⟩
 ·have h0:s≠[]:=by intro e;subst e;simp at h
  refine Call.use (A1y _ hs) ⟨⟨rfl,rfl⟩, ?_⟩
  rw [Ee]
  refine Let.intro (Agz _ _ _ ⟨fun h2=> ?_,fun h2=> ?_⟩)
  ·refine Ae1 _ _ _ ⟨?_,rfl⟩
   simp at h2
   rw [Qn,if_pos (Or.inr (by omega))]
   rfl
  ·simp at h2
   refine Asj _ _ (Aqm _ _ ?_)
   have hd:=(A1i s).1 (by omega)
   have hfx:Qn s=A0q (Zb 0 s):=by
    rw [Qn,if_neg];rintro(h |h);exact h0 h;omega
   refine A2d s hs hd _ (s.length+1) 0 0 (by omega) (by omega) (by omega) ?_
   rw [List.drop_zero]
   cases hv:Zb 0 s<;>simp only [Ayt]
   ·exact Arp _ _ _ (Af6 _ _ _ ⟨by rw [hfx,hv];rfl,rfl⟩)
   ·exact Arq _ _ (Apd _ _ (Aqv _ _ _ (Af6 _ _ _ ⟨by rw [hfx,hv];rfl,rfl⟩)))
 ·have h0:s=[]:=by simpa using h
  subst h0
  exact Agz _ _ _ ⟨fun _=>Ae1 _ _ _ ⟨rfl,rfl⟩,fun h=>absurd h (by decide)⟩
end Go.Proofs.Sim.Se
namespace Go.Proofs.Sim.Se
open Go Go.Proofs Go.Proofs.Sim Go.RowKit
set_option maxRecDepth 100000
theorem Afd {m:Nat→Nat→Option Value} {v:Value} {k:IntKind} {n:Int} (h:RepI m v (.int k n)):v= .int k n:=by
 cases h;rfl
theorem Am5(s:List UInt8)(c:UInt8):Call E0.P Aab [.imm (.str s), .imm (.str [c])] [] (Is (.imm (.bool (decide (0≤Lib.indexByte s c)))) []):=by
 refine Arv Try.func138 (by kernel_rfl) (by kernel_rfl) [.str s, .str [c]] _ fun g w vs hv hs=> ?_
 obtain⟨v,u,rfl,hr,hu⟩:=Beh hv
 obtain rfl:=Az3 hr
 obtain rfl:=Az3 hu
 refine(Try.strings_Contains_one ⟨s.toArray⟩ c w).mono ?_
 rintro e w' ⟨rfl,rfl⟩
 exact⟨_, .imm (.bool (decide (0≤Lib.indexByte s c))),rfl,Below.refl _ _, .imm _ _ (.bool _),rfl,rfl⟩
end Go.Proofs.Sim.Se
namespace Go.Proofs.Sim.Se
open Go Go.Proofs Go.Proofs.Sim Go.RowKit
set_option maxRecDepth 100000
def Ay5(b:Bool)(s:List UInt8):AV:= .tup [.imm (.bool b), .imm (.str s)]
theorem A4s(signs:List UInt8)(c:UInt8)(r:List UInt8):Call E0.P M6 [.imm (.str (c::r)), .imm (.str signs)] []
 (Is (if 0≤Lib.indexByte signs c then Ay5 (decide (c.toNat=45)) r else Ay5 false (c::r)) []):=by
 refine Ab5 _ _ _ ⟨fun _=>by simp<;>omega,Let.intro ⟨fun _=> ?_,fun h=>absurd h (by simp)⟩⟩
 rw [show List.take 1 (c::r)=[c] from rfl]
 refine Call.use (Am5 _ _) ⟨⟨rfl,rfl⟩, ?_⟩
 rw [U1]
 refine Let.intro (Yq _ _ _ ⟨fun h=> ?_,fun h=> ?_⟩)
 ·refine Y8 _ _ _ ⟨?_,rfl⟩
  rw [if_neg (by simpa using h)];rfl
 ·refine Alm _ _ (Aks _ _ ⟨by simp<;>omega,⟨by simp<;>omega,Let.intro ?_⟩⟩)
  refine Akn _ _ _ ⟨?_,rfl⟩
  rw [if_pos (by simpa using h)]
  simp only [Ay5,List.drop_one,List.tail_cons,List.getD_cons_zero]
  congr 3
  rw [Bool.eq_iff_iff];simp;omega
theorem A4a(signs:List UInt8):Call E0.P M6 [.imm (.str []), .imm (.str signs)] [] (Is (Ay5 false []) []):=by
 refine Ab5 _ _ _ ⟨fun h=>absurd h (by simp),Let.intro ⟨fun h=>absurd h (by simp),fun _=>⟨rfl,Let.intro (Yq _ _ _ ⟨fun h=> ?_,fun h=>absurd h (by simp)⟩)⟩⟩⟩
 exact Y8 _ _ _ ⟨rfl,rfl⟩
theorem Ba4(c:UInt8):0≤Lib.indexByte [45] c↔c.toNat=45:=by
 have e:((45:UInt8) == c)=decide (c.toNat=45):=by
  rw [Bool.eq_iff_iff];simp;constructor
  ·rintro rfl;rfl
  ·intro h;exact(UInt8.toNat_inj.1 h).symm
 simp only [Lib.indexByte,e,decide_eq_true_eq]
 split
 ·simp;assumption
 ·simp;assumption
theorem A9d(c:UInt8):0≤Lib.indexByte [43,45] c↔c.toNat=43∨c.toNat=45:=by
 have e:((43:UInt8) == c)=decide (c.toNat=43):=by
  rw [Bool.eq_iff_iff];simp;constructor
  ·rintro rfl;rfl
  ·intro h;exact(UInt8.toNat_inj.1 h).symm
 have h1:=Ba4 c
 have h2:=Lib.indexByte_ge [45] c
 rw [Lib.indexByte,e]
 simp only [decide_eq_true_eq]
 split
 ·simp;left;assumption
 ·split
  ·rename_i h3 h4
   have h4:Lib.indexByte [45] c= -1:=by simpa using h4
   omega
  ·rename_i h3 h4
   have h4:Lib.indexByte [45] c≠ -1:=by simpa using h4
   omega
theorem A1x(s:List UInt8):Call E0.P M6 [.imm (.str s), .imm (.str [43,45])] [] (Is (Ay5 (isM s) (Jc s)) []):=by
 cases s with
 |nil=>exact A4a _
 |cons c r=>
  have:=A4s [43,45] c r
  simp only [A9d]at this
  by_cases h:c.toNat=43∨c.toNat=45
  ·rw [if_pos h]at this
   have e:isM (c::r)=decide (c.toNat=45):=rfl
   rw [e];simpa [Jc,h] using this
  ·rw [if_neg h]at this
   have e:isM (c::r)=false:=by simp [isM];omega
   rw [e];simpa [Jc,h] using this
theorem A25(s:List UInt8):IntKind.i64.wrap (0 - (Qn s).1)= -(Qn s).1:=by
 have:=Bb3 s
 rw [Be _ (by omega) (by omega)];omega
theorem Aw5(s:List UInt8):(Jc s).length≤s.length:=by
 unfold Jc;split
 ·split<;>simp
 ·simp
theorem Avt(s:List UInt8)(hs:s.length≤9223372036854775806):Call E0.P Zu [.imm (.str s)] [] (Is (isP (I4 s)) []):=by
 refine Apb _ _ (Call.use (A1x s) ⟨⟨rfl,rfl⟩, ?_⟩)
 refine Call.use (Awl (Jc s) (by have:=Aw5 s;omega)) ⟨⟨rfl,rfl⟩, ?_⟩
 show Br (isM s) (Qw (IntKind.i64.wrap (0 - (Qn (Jc s)).1)) _ _) _
 rw [A25]
 refine⟨fun h=> ?_,fun h=> ?_⟩<;>refine Amv _ _ _ (Aml _ _ _ ⟨?_,rfl⟩)<;>rw [I4,h]<;>rfl
theorem A2s(s:List UInt8)(hs:s.length≤9223372036854775806):Call E0.P Afj [.imm (.str s)] [] (Is (isP (I4 s)) []):=by
 have main:∀Q,Call E0.P Yt [.imm (.str (Jc s))] [] (Is (isP (Qn (Jc s))) [])→Q (isP (I4 s)) []→N9 (Jc s) (isM s) (Ob Q):=by
  intro Q hc hq
  refine Arb _ _ _ (Call.use hc ⟨⟨rfl,rfl⟩, ?_⟩)
  show Br (isM s) (Ws (IntKind.i64.wrap (0 - (Qn (Jc s)).1)) _ _) _
  rw [A25]
  refine⟨fun h=> ?_,fun h=> ?_⟩<;>refine Asf _ _ _ (Aqq _ _ _ (Aql _ _ _ ?_))<;>rw [isP,I4,h]at hq<;>exact hq
 have hf:=A17 (Jc s) (by have:=Aw5 s;omega)
 refine Avr _ _ ⟨fun h=> ?_,Let.intro ⟨fun h=> ?_,⟨fun h=> ?_,fun h=>⟨rfl,Let.intro ⟨fun h=>absurd h (by simp),fun _=> ?_⟩⟩⟩⟩⟩
 ·cases s with
  |nil=>simp at h
  |cons c r=>simp
 ·cases s with
  |nil=>simp at h
  |cons c r=>simp
 ·cases s with
  |nil=>simp at h
  |cons c r=>
   refine⟨fun _=>by simp<;>omega,Let.intro (Let.intro ⟨fun h=> ?_,fun h=> ?_⟩)⟩
   ·refine⟨by simp<;>omega,Let.intro ?_⟩
    have hc:c.toNat=43∨c.toNat=45:=by simp at h;omega
    have e1:Jc (c::r)=r:=by simp [Jc,hc]
    have e2:isM (c::r)=(bif !(c::r) == []then decide ((((c::r).getD 0 0).toNat:Int)=45)else false):=by
     rw [Bool.eq_iff_iff];simp [isM];omega
    have:=main (Is (isP (I4 _)) []) hf ⟨rfl,rfl⟩
    rw [e1,e2]at this
    exact this
   ·have hc:¬(c.toNat=43∨c.toNat=45):=by simp at h;omega
    have e1:Jc (c::r)=c::r:=by simp [Jc,hc]
    have e2:isM (c::r)=(bif !(c::r) == []then decide ((((c::r).getD 0 0).toNat:Int)=45)else false):=by
     rw [Bool.eq_iff_iff];simp [isM];omega
    have:=main (Is (isP (I4 _)) []) hf ⟨rfl,rfl⟩
    rw [e1,e2]at this
    exact this
 ·cases s with
  |nil=>exact main (Is (isP (I4 _)) []) hf ⟨rfl,rfl⟩
  |cons c r=>simp at h
end Go.Proofs.Sim.Se

import Derived.Test.YtaggabcajidnnaaGreatDoorSeatGenP
import Derived.Test.YtaggabcajidnnaaGreatDoorDgL
import Derived.Laws.RangeString
import Derived.Test.YtaggabcajidnnaaGreatDoorTryzShelf
import Derived.Test.YtaggabcajidnnaaGreatDoorSimPQ
namespace Go.Proofs.Sim.Se
open Go Go.Proofs Go.Proofs.Sim
set_option maxRecDepth 100000
theorem getD_lt(s:List UInt8)(n:Nat)(h:n<s.length):s.getD n 0=s[n]:=by simp [List.getD_eq_getElem?_getD,h]
theorem Bc2(s:List UInt8)(n:Nat)(h:n<s.length):U0 (s.drop n)=if Zo s[n]then U0 (s.drop (n+1))+1 else 0:=by
 unfold U0
 rw [List.drop_eq_getElem_cons h,List.takeWhile_cons]
 split<;>simp
theorem Bgs(s:List UInt8)(n:Nat)(h:¬n<s.length):U0 (s.drop n)=0:=by
 rw [List.drop_eq_nil_of_le (by omega)];rfl
theorem Agx(a0:Int):Call E0.P Rf [.imm (.int .i32 a0)] [] (Is (.imm (.bool (decide (48≤a0) && decide (a0≤57)))) []):=by
 refine A1i _ _ (Let.intro ⟨?_,rfl⟩)
 cases decide (48≤a0)<;>rfl
theorem Bj0(s:List UInt8)(n:Nat)(h:n<s.length)(hc:¬s[n].toNat<128):128≤(Gt s n).1:=by
 unfold Gt Utf8.decode
 have e:(⟨s.toArray⟩:ByteArray).get! (n+0)=s[n]:=by
  simp [ByteArray.get!,getElem!_pos,h]
 simp only [e,hc,if_false]
 have hc':128≤s[n].toNat:=by omega
 generalize s[n].toNat=b0 at*
 repeat' split
 all_goals first |(simp [Utf8.runeError];done) |(simp at *; omega)
theorem A8o(s:List UInt8)(n:Nat)(h:n<s.length)(hc:s[n].toNat<128):Gt s n=(s[n].toNat,1):=by
 unfold Gt
 have h':n<(⟨s.toArray⟩:ByteArray).size:=by simpa [ByteArray.size] using h
 have e:(⟨s.toArray⟩:ByteArray)[n]=s[n]:=by show s.toArray[n]=_;simp
 rw [decode_ascii ⟨s.toArray⟩ n h' (by rw [e];exact hc),e]
theorem Bmh(s:List UInt8)(n:Nat)(h:n<s.length):(decide ((48:Int)≤((Gt s n).1:Int)) && decide (((Gt s n).1:Int)≤57))=Zo s[n]:=by
 by_cases hc:s[n].toNat<128
 ·rw [A8o s n h hc]
  rw [Bool.eq_iff_iff]
  simp only [Zo,Bool.and_eq_true,decide_eq_true_eq]
  omega
 ·have:=Bj0 s n h hc
  rw [Bool.eq_iff_iff]
  simp only [Zo,Bool.and_eq_true,decide_eq_true_eq]
  omega
theorem Bas(s:List UInt8)(K:Ex→St→Prop)(m:Nat):∀(n:Nat),s.length+1≤n+m→n≤s.length→
 (n+U0 (s.drop n)=s.length→K (.exit 0) ⟨[(0, .imm (.str s))],[]⟩)→
 (n+U0 (s.drop n)≠s.length→K .ret ⟨[(2, .imm (.int .i64 ((n+U0 (s.drop n):Nat):Int)))],[]⟩)→Ur s s n K:=by
 induction m with
 |zero=>intro n hm hn;omega
 |succ m ih=>
  intro n hm hn h1 h2
  refine Axc _ _ _ _ ⟨fun h=>⟨fun _=> ?_,fun hf=>absurd hf (by simp)⟩,fun h=>⟨fun hf=>absurd hf (by simp),fun _=> ?_⟩⟩
  ·replace h:=of_decide_eq_true h
   refine Call.use (Agx _) ⟨⟨rfl,rfl⟩, ?_⟩
   simp only [Ll,Bmh s n h]
   have e:=Bc2 s n h
   by_cases hd:Zo s[n]=true
   ·rw [if_pos hd]at e
    have hw:(Gt s n).2=1:=by
     rw [A8o s n h (by have:=(Yk _).1 hd;omega)]
    rw [hw]
    refine⟨fun hf=>absurd hf (by simp [hd]),fun _=> ?_⟩
    refine ih (n+1) (by omega) (by omega) ?_ ?_
    ·intro hh;exact h1 (by omega)
    ·intro hh
     have:=h2 (by omega)
     rwa [show n+1+U0 (s.drop (n+1))=n+U0 (s.drop n)by omega]
   ·rw [if_neg hd]at e
    refine⟨fun _=> ?_,fun hf=>absurd hf (by simp [hd])⟩
    have:=h2 (by omega)
    rw [e]at this
    exact this
  ·replace h:=of_decide_eq_false h
   exact h1 (by rw [Bgs s n h];omega)
theorem Baw(s:List UInt8):Call E0.P Ae6 [.imm (.str s)] [] (Is (.imm (.int .i64 (U0 s:Int))) []):=by
 refine A1f _ _ (Bas s _ _ 0 (Nat.le_of_eq (Nat.zero_add _).symm) (by omega) ?_ ?_)
 ·intro h
  refine Aw4 _ _ (Awk _ _ (Aw2 _ _ ⟨?_,rfl⟩))
  rw [List.drop_zero]at h
  have h:U0 s=s.length:=by omega
  rw [h]
 ·intro h
  refine Aw3 _ _ ⟨?_,rfl⟩
  simp
theorem Bjf(s:List UInt8)(hs:s.length≤9223372036854775806)(K:Ex→St→Prop)(m:Nat):∀(n:Nat),s.length+1≤n+m→n≤s.length→
 K (.exit 0) ⟨[(3, .imm (.int .i64 ((n+U0 (s.drop n):Nat):Int)))],[]⟩→Abu s n K:=by
 induction m with
 |zero=>intro n hm hn;omega
 |succ m ih=>
  intro n hm hn hK
  refine A4x _ _ _ ?_
  simp only [Int.toNat_natCast]
  by_cases hn':n<s.length
  ·have hd:decide ((n:Int)<(s.length:Int))=true:=decide_eq_true (by omega)
   simp only [getD_lt s n hn',hd,cond_true]
   have e:=Bc2 s n hn'
   refine⟨fun _=>by omega,Let.intro ⟨fun _=>by omega,Let.intro ⟨fun h=> ?_,fun h=> ?_⟩⟩⟩
   ·simp only [Bool.cond_false_right,Bool.and_eq_true,decide_eq_true_eq]at h
    rw [if_pos ((Yk _).2 (by omega))]at e
    rw [Av _ (by omega) (by omega)]
    refine ih (n+1) (by omega) (by omega) ?_
    rwa [show n+1+U0 (s.drop (n+1))=n+U0 (s.drop n)by omega]
   ·simp only [Bool.cond_false_right,Bool.and_eq_false_iff,decide_eq_false_iff_not]at h
    rw [if_neg (by intro hd;have:=(Yk _).1 hd;omega)]at e
    rw [e]at hK
    exact hK
  ·have hd:decide ((n:Int)<(s.length:Int))=false:=decide_eq_false (by omega)
   simp only [hd,cond_false]
   refine⟨fun h=>absurd h (by simp),Let.intro ⟨fun h=>absurd h (by simp),Let.intro ⟨fun h=>absurd h (by simp),fun _=> ?_⟩⟩⟩
   rw [Bgs s n hn']at hK
   exact hK
theorem Bji(s:List UInt8)(hs:s.length≤9223372036854775806):Call E0.P Aoh [.imm (.str s)] [] (Is (.imm (.int .i64 (U0 s:Int))) []):=by
 refine A9r _ _ (Bjf s hs _ _ 0 (Nat.le_of_eq (Nat.zero_add _).symm) (by omega) ?_)
 refine A3s _ _ (A2t _ _ (A3r _ _ ⟨?_,rfl⟩))
 simp
end Go.Proofs.Sim.Se
namespace Go.Proofs.Sim.Se
open Go Go.Proofs Go.Proofs.Sim
set_option maxRecDepth 100000
theorem wrap_u8(n:Int)(h1:0≤n)(h2:n≤255):IntKind.u8.wrap n=n:=by
 simp [IntKind.wrap,IntKind.signed,IntKind.bits];omega
theorem wrap_i32(n:Int)(h1: -2147483648≤n)(h2:n≤2147483647):IntKind.i32.wrap n=n:=by
 simp [IntKind.wrap,IntKind.signed,IntKind.bits];omega
def Bfj(K:Ex→St→Prop)(i:Nat):Option Nat→Prop
 |some v=>K (.exit 0) ⟨[(i, .imm (.int .i64 (v:Int)))],[]⟩
 |none=>K .ret ⟨[(2, .imm (.int .i64 0)),(3, .imm (.int .i64 3))],[]⟩
theorem Ay2(s:List UInt8)(acc:Int)(n:Int)(K:Ex→St→Prop)(h:K (.exit 0) ⟨[(5, .imm (.int .i64 acc))],[]⟩):Eb acc (-1) n s K:=
 Af9 _ _ _ _ _ ⟨fun h=>absurd h (by decide),fun _=>h⟩
theorem Au0(s:List UInt8)(hs:s.length≤9223372036854775806)(hd:∀c∈s,Zo c=true)(n:Nat)(hn:n<s.length):
 Zo s[n]=true∧IntKind.i64.wrap (IntKind.i64.wrap ((n:Int)+1) - 1)=n∧IntKind.i64.wrap ((n:Int)+1)=((n+1:Nat):Int)∧IntKind.i64.wrap (IntKind.u8.wrap ((s[n].toNat:Int) - 48))=((s[n].toNat - 48:Nat):Int)∧IntKind.i32.wrap (s[n].toNat:Int)=s[n].toNat∧s[n].toNat - 48≤9:=by
 have h:=hd _ (List.getElem_mem hn)
 have h':=(Yk _).1 h
 have e1:IntKind.i64.wrap ((n:Int)+1)=((n+1:Nat):Int):=by rw [Av _ (by omega) (by omega)];omega
 refine⟨h, ?_,e1, ?_, ?_,by omega⟩
 ·rw [e1,Av _ (by omega) (by omega)];omega
 ·rw [wrap_u8 _ (by omega) (by omega),Av _ (by omega) (by omega)];omega
 ·rw [wrap_i32 _ (by omega) (by omega)]
theorem Bat(s:List UInt8)(hs:s.length≤9223372036854775806)(hd:∀c∈s,Zo c=true)(K:Ex→St→Prop)(m:Nat):∀(n acc d:Nat),s.length+1≤n+m→n≤s.length→acc≤2147483647→d≤9→
 Bfj K 5 (if 2147483647<10*acc+d then none else Ae4 (10*acc+d) (s.drop n))→Eb acc d n s K:=by
 induction m with
 |zero=>intro n acc d hm hn;omega
 |succ m ih=>
  intro n acc d hm hn ha hd9 hK
  have e0:IntKind.i64.wrap (IntKind.i64.wrap (10*(acc:Int))+(d:Int))=((10*acc+d:Nat):Int):=by
   rw [Av (10*(acc:Int)) (by omega) (by omega),Av _ (by omega) (by omega)];omega
  refine Af9 _ _ _ _ _ ⟨fun _=> ?_,fun h=>absurd (of_decide_eq_false h) (by omega)⟩
  rw [e0]
  refine⟨fun h=> ?_,fun h=> ?_⟩
  ·have h:=of_decide_eq_true h
   rw [if_pos (by omega)]at hK
   exact hK
  ·have h:=of_decide_eq_false h
   rw [if_neg (by omega)]at hK
   refine⟨fun h=>by have:=of_decide_eq_false h;omega,⟨fun h=> ?_,fun h=>⟨rfl,Let.intro ⟨fun _=> ?_,fun h=>absurd h (by decide)⟩⟩⟩⟩
   ·have hn':n<s.length:=by
     simp at h;omega
    obtain⟨h1,h2,h3,h4,h5,h6⟩:=Au0 s hs hd n hn'
    have h2':IntKind.i64.wrap (((n+1:Nat):Int) - 1)=n:=by rw [←h3];exact h2
    simp only [Int.toNat_natCast,getD_lt s n hn',h5,h3,h2',h4]
    refine Call.use (Agx _) ⟨⟨rfl,rfl⟩,Let.intro ?_⟩
    have h1':=(Yk _).1 h1
    have hb:(decide ((48:Int)≤(s[n].toNat:Int)) && decide ((s[n].toNat:Int)≤57))=true:=by
     simp only [Bool.and_eq_true,decide_eq_true_eq];omega
    simp only [Ll,hb]
    refine⟨fun h=>absurd h (by decide),fun _=>⟨by omega, ?_⟩⟩
    refine ih (n+1) _ _ (by omega) (by omega) (by omega) (by omega) ?_
    rw [List.drop_eq_getElem_cons hn']at hK
    exact hK
   ·have hn':¬n<s.length:=by
     simp at h;omega
    refine Ay2 _ _ _ _ ?_
    rw [List.drop_eq_nil_of_le (by omega)]at hK
    exact hK
def isP(p:Int × Int):AV:= .tup [.imm (.int .i64 p.1), .imm (.int .i64 p.2)]
theorem Bax(s:List UInt8)(hs:s.length≤9223372036854775806):Call E0.P Ae7 [.imm (.str s)] [] (Is (isP (U4 s)) []):=by
 refine A1g _ _ ⟨fun h=> ?_,fun h=>⟨rfl,Let.intro ?_⟩⟩
 ·have h0:s≠[]:=by intro e;subst e;simp at h
  refine Call.use (Baw _) ⟨⟨rfl,rfl⟩, ?_⟩
  rw [Cx]
  refine Let.intro (Af5 _ _ _ ⟨fun h2=> ?_,fun h2=> ?_⟩)
  ·refine Af7 _ _ _ ⟨?_,rfl⟩
   simp at h2
   rw [U4,if_pos (Or.inr (by omega))]
   rfl
  ·simp at h2
   refine Aw5 _ _ (Awl _ _ ?_)
   have hd:=(Bgr s).1 (by omega)
   have h0':0<s.length:=by cases s with |nil=>exact absurd rfl h0 |cons a b=>simp
   obtain⟨h1,h2',h3,h4,h5,h6⟩:=Au0 s hs hd 0 h0'
   have hfx:U4 s=Bg9 (Ae4 0 s):=by
    rw [U4,if_neg];rintro(h |h);exact h0 h;omega
   refine⟨fun _=>by omega,fun _=> ?_,fun h=> ?_⟩
   ·simp only [getD_lt s 0 h0',h5]
    refine Call.use (Agx _) ⟨⟨rfl,rfl⟩,Let.intro ?_⟩
    have h1':=(Yk _).1 h1
    have hb:(decide ((48:Int)≤(s[0].toNat:Int)) && decide ((s[0].toNat:Int)≤57))=true:=by
     simp only [Bool.and_eq_true,decide_eq_true_eq];omega
    simp only [Ll,hb]
    refine⟨fun h=>absurd h (by decide),fun _=>⟨?_, ?_⟩⟩
    ·have:IntKind.i64.wrap (IntKind.i64.wrap ((0:Int)+1) - 1)=0:=by decide
     rw [this];omega
    ·have:IntKind.i64.wrap ((0:Int)+1)=((1:Nat):Int):=by decide
     rw [h4,this]
     refine Bat s hs hd _ s.length 1 0 _ (by omega) (by omega) (by omega) h6 ?_
     have e:(if 2147483647<10*0+(s[0].toNat - 48)then none else Ae4 (10*0+(s[0].toNat - 48)) (s.drop 1))=Ae4 0 s:=by
      cases s with
      |nil=>exact absurd rfl h0
      |cons a b=>rfl
     rw [e]
     cases hv:Ae4 0 s<;>simp only [Bfj]
     ·exact Aw7 _ _ _ (Af6 _ _ _ ⟨by rw [hfx,hv];rfl,rfl⟩)
     ·exact Aw8 _ _ (At3 _ _ (Aw6 _ _ _ (Af6 _ _ _ ⟨by rw [hfx,hv];rfl,rfl⟩)))
   ·simp at h;exact absurd h h0
 ·have h0:s=[]:=by simpa using h
  subst h0
  exact Af5 _ _ _ ⟨fun _=>Af7 _ _ _ ⟨rfl,rfl⟩,fun h=>absurd h (by decide)⟩
theorem Bjg(s:List UInt8)(hs:s.length≤9223372036854775806)(hd:∀c∈s,Zo c=true)(K:Ex→St→Prop)(m:Nat):∀(n acc:Nat),s.length+1≤n+m→n≤s.length→acc≤2147483647→
 Bfj K 4 (Ae4 acc (s.drop n))→Abv s acc n K:=by
 induction m with
 |zero=>intro n acc hm hn;omega
 |succ m ih=>
  intro n acc hm hn ha hK
  refine A4y _ _ _ _ ⟨fun h=> ?_,fun h=> ?_⟩
  ·have hn':n<s.length:=by have:=of_decide_eq_true h;omega
   obtain⟨h1,h2,h3,h4,h5,h6⟩:=Au0 s hs hd n hn'
   have h1':=(Yk _).1 h1
   rw [List.drop_eq_getElem_cons hn']at hK
   simp only [Int.toNat_natCast,getD_lt s n hn',h3]
   have e0:IntKind.i64.wrap (IntKind.i64.wrap (IntKind.i64.wrap (10*(acc:Int))+IntKind.i64.wrap (s[n].toNat:Int)) - 48)=((10*acc+(s[n].toNat - 48):Nat):Int):=by
    rw [Av (10*(acc:Int)) (by omega) (by omega),Av (s[n].toNat:Int) (by omega) (by omega),Av (10*(acc:Int)+(s[n].toNat:Int)) (by omega) (by omega),Av _ (by omega) (by omega)];omega
   rw [e0]
   unfold Ae4 at hK
   refine⟨by omega,fun h=> ?_,fun h=> ?_⟩
   ·have h:=of_decide_eq_true h
    rw [if_pos (by omega)]at hK
    exact hK
   ·have h:=of_decide_eq_false h
    rw [if_neg (by omega)]at hK
    exact ih (n+1) _ (by omega) (by omega) (by omega) hK
  ·have hn':¬n<s.length:=by have:=of_decide_eq_false h;omega
   rw [List.drop_eq_nil_of_le (by omega)]at hK
   exact hK
theorem Bjj(s:List UInt8)(hs:s.length≤9223372036854775806):Call E0.P Afa [.imm (.str s)] [] (Is (isP (U4 s)) []):=by
 refine A9s _ _ ⟨fun h=> ?_,fun h=>⟨rfl,Let.intro ?_⟩⟩
 ·have h0:s≠[]:=by intro e;subst e;simp at h
  refine Call.use (Bji _ hs) ⟨⟨rfl,rfl⟩, ?_⟩
  rw [Cx]
  refine Let.intro (Amj _ _ _ ⟨fun h2=> ?_,fun h2=> ?_⟩)
  ·refine Am9 _ _ _ ⟨?_,rfl⟩
   simp at h2
   rw [U4,if_pos (Or.inr (by omega))]
   rfl
  ·simp at h2
   refine A3t _ _ (A2u _ _ ?_)
   have hd:=(Bgr s).1 (by omega)
   have hfx:U4 s=Bg9 (Ae4 0 s):=by
    rw [U4,if_neg];rintro(h |h);exact h0 h;omega
   refine Bjg s hs hd _ (s.length+1) 0 0 (by omega) (by omega) (by omega) ?_
   rw [List.drop_zero]
   cases hv:Ae4 0 s<;>simp only [Bfj]
   ·exact A3v _ _ _ (Am8 _ _ _ ⟨by rw [hfx,hv];rfl,rfl⟩)
   ·exact A3w _ _ (A0y _ _ (A3u _ _ _ (Am8 _ _ _ ⟨by rw [hfx,hv];rfl,rfl⟩)))
 ·have h0:s=[]:=by simpa using h
  subst h0
  exact Amj _ _ _ ⟨fun _=>Am9 _ _ _ ⟨rfl,rfl⟩,fun h=>absurd h (by decide)⟩
end Go.Proofs.Sim.Se
namespace Go.Proofs.Sim.Se
open Go Go.Proofs Go.Proofs.Sim Go.RowKit
set_option maxRecDepth 100000
theorem Ac6 {m:Nat→Nat→Option Value} {v:Value} {k:IntKind} {n:Int} (h:RepI m v (.int k n)):v= .int k n:=by
 cases h;rfl
theorem Ay5(s:List UInt8)(c:UInt8):Call E0.P Agf [.imm (.str s), .imm (.str [c])] [] (Is (.imm (.bool (decide (0≤Lib.indexByte s c)))) []):=by
 refine Uz Tryz.func164 (by kernel_rfl) (by kernel_rfl) [.str s, .str [c]] _ fun g w vs hv hs=> ?_
 obtain⟨v,u,rfl,hr,hu⟩:=Bnk hv
 obtain rfl:=Avj hr
 obtain rfl:=Avj hu
 refine(Tryz.strings_Contains_one ⟨s.toArray⟩ c w).mono ?_
 rintro e w' ⟨rfl,rfl⟩
 exact⟨_, .imm (.bool (decide (0≤Lib.indexByte s c))),rfl,Below.refl _ _, .imm _ _ (.bool _),rfl,rfl⟩
end Go.Proofs.Sim.Se
namespace Go.Proofs.Sim.Se
open Go Go.Proofs Go.Proofs.Sim Go.RowKit
set_option maxRecDepth 100000
def Bhm(b:Bool)(s:List UInt8):AV:= .tup [.imm (.bool b), .imm (.str s)]
theorem Bnq(signs:List UInt8)(c:UInt8)(r:List UInt8):Call E0.P Pe [.imm (.str (c::r)), .imm (.str signs)] []
 (Is (if 0≤Lib.indexByte signs c then Bhm (decide (c.toNat=45)) r else Bhm false (c::r)) []):=by
 refine Aih _ _ _ ⟨fun _=>by simp<;>omega,Let.intro ⟨fun _=> ?_,fun h=>absurd h (by simp)⟩⟩
 rw [show List.take 1 (c::r)=[c] from rfl]
 refine Call.use (Ay5 _ _) ⟨⟨rfl,rfl⟩, ?_⟩
 rw [Ll]
 refine Let.intro (Ads _ _ _ ⟨fun h=> ?_,fun h=> ?_⟩)
 ·refine Ad0 _ _ _ ⟨?_,rfl⟩
  rw [if_neg (by simpa using h)];rfl
 ·refine Auc _ _ (At4 _ _ ⟨by simp<;>omega,⟨by simp<;>omega,Let.intro ?_⟩⟩)
  refine Aub _ _ _ ⟨?_,rfl⟩
  rw [if_pos (by simpa using h)]
  simp only [Bhm,List.drop_one,List.tail_cons,List.getD_cons_zero]
  congr 3
  rw [Bool.eq_iff_iff];simp;omega
theorem Bnr(signs:List UInt8):Call E0.P Pe [.imm (.str []), .imm (.str signs)] [] (Is (Bhm false []) []):=by
 refine Aih _ _ _ ⟨fun h=>absurd h (by simp),Let.intro ⟨fun h=>absurd h (by simp),fun _=>⟨rfl,Let.intro (Ads _ _ _ ⟨fun h=> ?_,fun h=>absurd h (by simp)⟩)⟩⟩⟩
 exact Ad0 _ _ _ ⟨rfl,rfl⟩
theorem Bvx(c:UInt8):0≤Lib.indexByte [45] c↔c.toNat=45:=by
 have e:((45:UInt8) == c)=decide (c.toNat=45):=by
  rw [Bool.eq_iff_iff];simp;constructor
  ·rintro rfl;rfl
  ·intro h;exact(UInt8.toNat_inj.1 h).symm
 simp only [Lib.indexByte,e,decide_eq_true_eq]
 split
 ·simp;assumption
 ·simp;assumption
theorem Br9(c:UInt8):0≤Lib.indexByte [43,45] c↔c.toNat=43∨c.toNat=45:=by
 have e:((43:UInt8) == c)=decide (c.toNat=43):=by
  rw [Bool.eq_iff_iff];simp;constructor
  ·rintro rfl;rfl
  ·intro h;exact(UInt8.toNat_inj.1 h).symm
 have h1:=Bvx c
 have h2:=Lib.indexByte_ge [45] c
 rw [Lib.indexByte,e]
 simp only [decide_eq_true_eq]
 split
 ·simp;left;assumption
 ·split
  ·rename_i h3 h4
   have h4:Lib.indexByte [45] c= -1:=by simpa using h4
   omega
  ·rename_i h3 h4
   have h4:Lib.indexByte [45] c≠ -1:=by simpa using h4
   omega
theorem Bjm(s:List UInt8):Call E0.P Pe [.imm (.str s), .imm (.str [43,45])] [] (Is (Bhm (isM s) (I7 s)) []):=by
 cases s with
 |nil=>exact Bnr _
 |cons c r=>
  have:=Bnq [43,45] c r
  simp only [Br9]at this
  by_cases h:c.toNat=43∨c.toNat=45
  ·rw [if_pos h]at this
   have e:isM (c::r)=decide (c.toNat=45):=rfl
   rw [e];simpa [I7,h] using this
  ·rw [if_neg h]at this
   have e:isM (c::r)=false:=by simp [isM];omega
   rw [e];simpa [I7,h] using this
theorem Blg(s:List UInt8):IntKind.i64.wrap (0 - (U4 s).1)= -(U4 s).1:=by
 have:=Blc s
 rw [Av _ (by omega) (by omega)];omega
theorem Bc3(s:List UInt8):(I7 s).length≤s.length:=by
 unfold I7;split
 ·split<;>simp
 ·simp
theorem Bay(s:List UInt8)(hs:s.length≤9223372036854775806):Call E0.P Ae8 [.imm (.str s)] [] (Is (isP (H5 s)) []):=by
 refine A1h _ _ (Call.use (Bjm s) ⟨⟨rfl,rfl⟩, ?_⟩)
 refine Call.use (Bax (I7 s) (by have:=Bc3 s;omega)) ⟨⟨rfl,rfl⟩, ?_⟩
 show Br (isM s) (Uf (IntKind.i64.wrap (0 - (U4 (I7 s)).1)) _ _) _
 rw [Blg]
 refine⟨fun h=> ?_,fun h=> ?_⟩<;>refine Awm _ _ _ (Aw9 _ _ _ ⟨?_,rfl⟩)<;>rw [H5,h]<;>rfl
theorem Bjk(s:List UInt8)(hs:s.length≤9223372036854775806):Call E0.P Aoi [.imm (.str s)] [] (Is (isP (H5 s)) []):=by
 have main:∀Q,Call E0.P Afa [.imm (.str (I7 s))] [] (Is (isP (U4 (I7 s))) [])→Q (isP (H5 s)) []→Qm (I7 s) (isM s) (Qn Q):=by
  intro Q hc hq
  refine A2v _ _ _ (Call.use hc ⟨⟨rfl,rfl⟩, ?_⟩)
  show Br (isM s) (Abi (IntKind.i64.wrap (0 - (U4 (I7 s)).1)) _ _) _
  rw [Blg]
  refine⟨fun h=> ?_,fun h=> ?_⟩<;>refine A2w _ _ _ (A3y _ _ _ (A3x _ _ _ ?_))<;>rw [isP,H5,h]at hq<;>exact hq
 have hf:=Bjj (I7 s) (by have:=Bc3 s;omega)
 refine A9t _ _ ⟨fun h=> ?_,Let.intro ⟨fun h=> ?_,⟨fun h=> ?_,fun h=>⟨rfl,Let.intro ⟨fun h=>absurd h (by simp),fun _=> ?_⟩⟩⟩⟩⟩
 ·cases s with
  |nil=>simp at h
  |cons c r=>simp
 ·cases s with
  |nil=>simp at h
  |cons c r=>simp
 ·cases s with
  |nil=>simp at h
  |cons c r=>
   refine⟨fun _=>by simp<;>omega,Let.intro (Let.intro ⟨fun h=> ?_,fun h=> ?_⟩)⟩
   ·refine⟨by simp<;>omega,Let.intro ?_⟩
    have hc:c.toNat=43∨c.toNat=45:=by simp at h;omega
    have e1:I7 (c::r)=r:=by simp [I7,hc]
    have e2:isM (c::r)=(bif !(c::r) == []then decide ((((c::r).getD 0 0).toNat:Int)=45)else false):=by
     rw [Bool.eq_iff_iff];simp [isM];omega
    have:=main (Is (isP (H5 _)) []) hf ⟨rfl,rfl⟩
    rw [e1,e2]at this
    exact this
   ·have hc:¬(c.toNat=43∨c.toNat=45):=by simp at h;omega
    have e1:I7 (c::r)=c::r:=by simp [I7,hc]
    have e2:isM (c::r)=(bif !(c::r) == []then decide ((((c::r).getD 0 0).toNat:Int)=45)else false):=by
     rw [Bool.eq_iff_iff];simp [isM];omega
    have:=main (Is (isP (H5 _)) []) hf ⟨rfl,rfl⟩
    rw [e1,e2]at this
    exact this
 ·cases s with
  |nil=>exact main (Is (isP (H5 _)) []) hf ⟨rfl,rfl⟩
  |cons c r=>simp at h
end Go.Proofs.Sim.Se

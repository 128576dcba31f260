import Derived.Test.YtaggabcajidnnaaGreatDoorTryzShelf
import Derived.Test.YtaggabcajidnnaaGreatDoorSeatGenW
import Derived.Test.YtaggabcajidnnaaGreatDoorSimPQ
import Derived.Lib.AppendIntMem
import Derived.Lib.AtoiErrMem
import Derived.Test.YtaggabcajidnnaaGreatDoorDgM
namespace Go.Proofs.Sim.Se
open Go Go.Proofs Go.Proofs.Sim Go.RowKit
set_option maxRecDepth 100000
theorem Bu1 {g:G} {w:World} (hs:Sat g [] w):Lib.TabIs Tryz.prog w "internal/strconv.uint64pow10" .u64 Lib.pow10Tab:=by
 obtain⟨T,fz,h⟩:=g.tab.vals 1 _ rfl
 have h':=hs.old _ _ h
 have hg:Tryz.prog.globalNamed "internal/strconv.uint64pow10" =some 1:=by kernel_rfl
 unfold Lib.TabIs World.var?
 rw [hg]
 simp only [Option.bind_some,h']
theorem A7t(n:Int)(h0: -9223372036854775808≤n)(h1:n≤9223372036854775807):Call E0.P Aob [.imm (.int .i64 n)] [] (Is (.imm (.str (Lib.itoa n))) []):=by
 refine U3 Tryz.func56 (by kernel_rfl) (by kernel_rfl) [.int .i64 n] _ fun g w vs hv hs=> ?_
 obtain⟨v,rfl,hr⟩:=Bwc hv
 obtain rfl:=Ace hr
 refine(Tryz.strconv_Itoa n h0 h1 w (Bu1 hs)).mono ?_
 rintro e w' ⟨rfl,k,os,rfl⟩
 exact⟨_, .imm (.str (Lib.itoa n)),rfl,Lib.below_grow _ w (Nat.le_refl _) k os, .imm _ _ (.str _ _ (by simp)),rfl,rfl⟩
theorem Ads(n:Int)(h0: -9223372036854775808≤n)(h1:n≤9223372036854775807):Call E0.P Qo [.imm (.int .i64 n)] [] (Is (.imm (.str (Lib.itoa n))) []):=
 A34 _ _ (Call.use (A7t n h0 h1) ⟨⟨rfl,rfl⟩,⟨rfl,rfl⟩⟩)
end Go.Proofs.Sim.Se
namespace Go.Proofs.Sim.Se
open Go Go.Proofs Go.Proofs.Sim Go.RowKit
set_option maxRecDepth 100000
def Aol:List UInt8:=[48,49,50,51,52,53,54,55,56,57]
theorem Bsj:∀d:Fin 10,List.drop d.val (List.take (d.val+1) Aol)=[UInt8.ofNat (48+d.val)]:=by decide+kernel
theorem Bma(d:Nat)(h:d<10):List.drop d (List.take (d+1) Aol)=[UInt8.ofNat (48+d)]:=Bsj ⟨d,h⟩
theorem Bew(u:Nat)(hu:u≤9223372036854775808)(t3 t4:List UInt8)(h3:t3.length≤1000)(hc:0<u∨t3=[])(hu':u≤9223372036854775807)(K:Ex→St→Prop)
 (h:Sz ((u / 10:Nat):Int) ([UInt8.ofNat (48+u % 10)]++t3) t4 K):Sz u t3 t4 K:=by
 have e1:(u:Int).tmod 10=((u % 10:Nat):Int):=by rw [Int.tmod_eq_emod_of_nonneg (by omega)];omega
 have e2:(u:Int).tdiv 10=((u / 10:Nat):Int):=by rw [Int.tdiv_eq_ediv_of_nonneg (by omega)];omega
 have e3:IntKind.i64.wrap (((u % 10:Nat):Int)+1)=((u % 10+1:Nat):Int):=by rw [Bc _ (by omega) (by omega)];omega
 have e4:IntKind.i64.wrap ((u / 10:Nat):Int)=((u / 10:Nat):Int):=by rw [Bc _ (by omega) (by omega)]
 refine Adn _ _ _ _ (Let.intro ⟨fun _=> ?_,fun hf=> ?_⟩)
 ·rw [e1,e2,e3,e4]
  have e5:=Bma (u % 10) (by omega)
  refine⟨by decide,⟨by decide,⟨by omega,Let.intro ?_⟩⟩⟩
  simp only [Int.toNat_natCast]
  rw [show [(48:UInt8),49,50,51,52,53,54,55,56,57]=Aol from rfl,e5]
  exact⟨by simp;omega,⟨by decide,h⟩⟩
 ·exfalso
  rcases hc with hc |hc
  ·have:decide ((0:Int)<(u:Int))=true:=decide_eq_true (by omega)
   rw [this]at hf;cases hf
  ·subst hc
   cases hd:decide ((0:Int)<(u:Int))<;>rw [hd]at hf<;>simp at hf
theorem A9e(K:Ex→St→Prop)(t4:List UInt8)(m:Nat):∀(u:Nat) (t3:List UInt8),u≤9223372036854775807→u<10 ^ m→t3.length+m≤100→t3≠[]→
 K (.exit 0) ⟨[(3, .imm (.str (if u=0 then t3 else Lib.decDigits u++t3))),(4, .imm (.str t4))],[]⟩→Sz u t3 t4 K:=by
 induction m with
 |zero=>
  intro u t3 hu hm h3 h0 hK
  have:u=0:=by simpa using hm
  subst this
  rw [if_pos rfl]at hK
  exact Adn _ _ _ _ (Let.intro ⟨fun hf=>by exfalso;simp at hf;exact h0 hf,fun _=>hK⟩)
 |succ m ih=>
  intro u t3 hu hm h3 h0 hK
  by_cases hz:u=0
  ·subst hz
   rw [if_pos rfl]at hK
   exact Adn _ _ _ _ (Let.intro ⟨fun hf=>by exfalso;simp at hf;exact h0 hf,fun _=>hK⟩)
  ·rw [if_neg hz]at hK
   refine Bew u (by omega) t3 t4 (by omega) (.inl (by omega)) hu K ?_
   refine ih (u / 10) _ (by omega) (by rw [Nat.pow_succ]at hm;omega) (by simp;omega) (by simp) ?_
   rw [Lib.decDigits]at hK
   split at hK
   ·rename_i h10
    rw [if_pos (by omega),Nat.mod_eq_of_lt h10]
    exact hK
   ·rename_i h10
    rw [if_neg (by omega), ←List.append_assoc]
    exact hK
theorem Ahg(n:Int)(h0: -9223372036854775808≤n)(h1:n≤9223372036854775807):Call E0.P Vd [.imm (.int .i64 n)] [] (Is (.imm (.str (Lib.itoa n))) []):=by
 refine Bbt _ _ ⟨fun h=> ?_,fun h=> ?_⟩
 ·have hn:n<0:=of_decide_eq_true h
  obtain⟨u,rfl⟩:∃u:Nat,n= -(u:Int):=⟨n.natAbs,by omega⟩
  have hu:1≤u:=by omega
  have e1:(-(u:Int)).tmod 10= -((u % 10:Nat):Int):=by rw [Int.neg_tmod,Int.tmod_eq_emod_of_nonneg (by omega)];omega
  have e2:(-(u:Int)).tdiv 10= -((u / 10:Nat):Int):=by rw [Int.neg_tdiv,Int.tdiv_eq_ediv_of_nonneg (by omega)];omega
  have w1:IntKind.i64.wrap (0 - -((u % 10:Nat):Int))=((u % 10:Nat):Int):=by rw [Bc _ (by omega) (by omega)];omega
  have w2:IntKind.i64.wrap (1 - -((u % 10:Nat):Int))=((u % 10+1:Nat):Int):=by rw [Bc _ (by omega) (by omega)];omega
  have w3:IntKind.i64.wrap (0 - IntKind.i64.wrap (-((u / 10:Nat):Int)))=((u / 10:Nat):Int):=by
   rw [Bc (-((u / 10:Nat):Int)) (by omega) (by omega),Bc _ (by omega) (by omega)];omega
  rw [e1,e2,w1,w2,w3]
  refine⟨by decide,⟨by omega,Let.intro ?_⟩⟩
  simp only [Int.toNat_natCast]
  rw [show [(48:UInt8),49,50,51,52,53,54,55,56,57]=Aol from rfl,Bma (u % 10) (by omega)]
  refine⟨by decide,⟨fun h=> ?_,fun h=> ?_⟩⟩
  ·have hz:u / 10=0:=by have:=of_decide_eq_true h;omega
   refine⟨by simp, ?_,rfl⟩
   rw [Lib.itoa_neg u hu,Lib.decDigits_one (by omega),Nat.mod_eq_of_lt (by omega)]
   rfl
  ·have hz:u / 10≠0:=by have:=of_decide_eq_false h;omega
   refine Anv _ _ _ _ (A9e _ _ 19 (u / 10) _ (by omega) (by omega) (by simp) (by simp) ?_)
   refine Aqj _ _ _ (Anw _ _ _ ⟨?_,Aqi _ _ (Aqh _ _ ⟨?_,rfl⟩)⟩)
   ·rw [if_neg hz]
    have:=A72 (u / 10) (by omega)
    simp;omega
   ·rw [if_neg hz,Lib.itoa_neg u hu]
    conv=>rhs;rw [Lib.decDigits,dif_neg (by omega)]
    rfl
 ·have hn:¬n<0:=of_decide_eq_false h
  obtain⟨u,rfl⟩:∃u:Nat,n=(u:Int):=⟨n.toNat,by omega⟩
  refine Anv _ _ _ _ (Bew u (by omega) [] [] (by simp) (.inr rfl) (by omega) _ ?_)
  refine A9e _ _ 19 (u / 10) _ (by omega) (by omega) (by simp) (by simp) ?_
  have e:(if u / 10=0 then [UInt8.ofNat (48+u % 10)]++[]else Lib.decDigits (u / 10)++([UInt8.ofNat (48+u % 10)]++[]))=Lib.itoa u:=by
   rw [Lib.itoa_nonneg]
   conv=>rhs;rw [Lib.decDigits]
   split
   ·rw [dif_pos (by omega),Nat.mod_eq_of_lt (by omega)];rfl
   ·rw [dif_neg (by omega)];simp
  rw [e]
  have:=Pp u h0 h1
  refine Aqj _ _ _ (Anw _ _ _ ⟨by simp;omega,Aqi _ _ (Aqh _ _ ⟨?_,rfl⟩)⟩)
  simp
theorem orB(p q:Prop) {i:Decidable p} {j:Decidable q} :((bif decide p then true else decide q)=true↔(p∨q)):=by
 by_cases p<;>by_cases q<;>simp_all
end Go.Proofs.Sim.Se

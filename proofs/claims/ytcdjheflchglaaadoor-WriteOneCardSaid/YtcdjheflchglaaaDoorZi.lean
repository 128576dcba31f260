import Derived.Test.YtcdjheflchglaaaDoorTrydShelf
import Derived.Test.YtcdjheflchglaaaDoorSeatGenW
import Derived.Test.YtcdjheflchglaaaDoorSimPQ
import Derived.Lib.AppendIntMem
import Derived.Lib.AtoiErrMem
import Derived.Test.YtcdjheflchglaaaDoorDgM
namespace Go.Proofs.Sim.Se
open Go Go.Proofs Go.Proofs.Sim Go.RowKit
set_option maxRecDepth 100000
theorem Sk {m:Nat→Nat→Option Value} {v:Value} {k:IntKind} {n:Int} (h:RepI m v (.int k n)):v= .int k n:=by
 cases h;rfl
theorem A1u {g:G} {w:World} (hs:Sat g [] w):Lib.TabIs Tryd.prog w "internal/strconv.uint64pow10" .u64 Lib.pow10Tab:=by
 obtain⟨T,fz,h⟩:=g.tab.vals 1 _ rfl
 have h':=hs.old _ _ h
 have hg:Tryd.prog.globalNamed "internal/strconv.uint64pow10" =some 1:=by kernel_rfl
 unfold Lib.TabIs World.var?
 rw [hg]
 simp only [Option.bind_some,h']
theorem Alf(n:Int)(h0: -9223372036854775808≤n)(h1:n≤9223372036854775807):Call E0.P Aas [.imm (.int .i64 n)] [] (Is (.imm (.str (Lib.itoa n))) []):=by
 refine Sd Tryd.func102 (by kernel_rfl) (by kernel_rfl) [.int .i64 n] _ fun g w vs hv hs=> ?_
 obtain⟨v,rfl,hr⟩:=A2n hv
 obtain rfl:=Sk hr
 refine(Tryd.strconv_Itoa n h0 h1 w (A1u hs)).mono ?_
 rintro e w' ⟨rfl,k,os,rfl⟩
 exact⟨_, .imm (.str (Lib.itoa n)),rfl,Lib.below_grow _ w (Nat.le_refl _) k os, .imm _ _ (.str _ _ (by simp)),rfl,rfl⟩
theorem Zk(n:Int)(h0: -9223372036854775808≤n)(h1:n≤9223372036854775807):Call E0.P Od [.imm (.int .i64 n)] [] (Is (.imm (.str (Lib.itoa n))) []):=
 Ajf _ _ (Call.use (Alf n h0 h1) ⟨⟨rfl,rfl⟩,⟨rfl,rfl⟩⟩)
theorem orB(p q:Prop) {i:Decidable p} {j:Decidable q} :((bif decide p then true else decide q)=true↔(p∨q)):=by
 by_cases p<;>by_cases q<;>simp_all
end Go.Proofs.Sim.Se

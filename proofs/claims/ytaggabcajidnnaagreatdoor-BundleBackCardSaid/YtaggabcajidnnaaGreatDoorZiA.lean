import Derived.Test.YtaggabcajidnnaaGreatDoorTryzShelf
import Derived.Test.YtaggabcajidnnaaGreatDoorSeatGenW
import Derived.Test.YtaggabcajidnnaaGreatDoorSimPQ
import Derived.Lib.AppendIntMem
import Derived.Lib.AtoiErrMem
import Derived.Test.YtaggabcajidnnaaGreatDoorDgM
namespace Go.Proofs.Sim.Se
open Go Go.Proofs Go.Proofs.Sim Go.RowKit
set_option maxRecDepth 100000
theorem Boa {g:G} {w:World} (hs:Sat g [] w):Lib.TabIs Tryz.prog w "internal/strconv.uint64pow10" .u64 Lib.pow10Tab:=by
 obtain⟨T,fz,h⟩:=g.tab.vals 1 _ rfl
 have h':=hs.old _ _ h
 have hg:Tryz.prog.globalNamed "internal/strconv.uint64pow10" =some 1:=by kernel_rfl
 unfold Lib.TabIs World.var?
 rw [hg]
 simp only [Option.bind_some,h']
theorem A1v(n:Int)(h0: -9223372036854775808≤n)(h1:n≤9223372036854775807):Call E0.P Ale [.imm (.int .i64 n)] [] (Is (.imm (.str (Lib.itoa n))) []):=by
 refine Tn Tryz.func56 (by kernel_rfl) (by kernel_rfl) [.int .i64 n] _ fun g w vs hv hs=> ?_
 obtain⟨v,rfl,hr⟩:=Bpb hv
 obtain rfl:=Aba hr
 refine(Tryz.strconv_Itoa n h0 h1 w (Boa hs)).mono ?_
 rintro e w' ⟨rfl,k,os,rfl⟩
 exact⟨_, .imm (.str (Lib.itoa n)),rfl,Lib.below_grow _ w (Nat.le_refl _) k os, .imm _ _ (.str _ _ (by simp)),rfl,rfl⟩
theorem Acj(n:Int)(h0: -9223372036854775808≤n)(h1:n≤9223372036854775807):Call E0.P Pg [.imm (.int .i64 n)] [] (Is (.imm (.str (Lib.itoa n))) []):=
 Ayy _ _ (Call.use (A1v n h0 h1) ⟨⟨rfl,rfl⟩,⟨rfl,rfl⟩⟩)
end Go.Proofs.Sim.Se
namespace Go.Proofs.Sim.Se
open Go Go.Proofs Go.Proofs.Sim Go.RowKit
set_option maxRecDepth 100000
theorem orB(p q:Prop) {i:Decidable p} {j:Decidable q} :((bif decide p then true else decide q)=true↔(p∨q)):=by
 by_cases p<;>by_cases q<;>simp_all
end Go.Proofs.Sim.Se

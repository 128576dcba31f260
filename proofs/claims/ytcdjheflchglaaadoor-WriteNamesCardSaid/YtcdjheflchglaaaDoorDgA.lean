import Derived.Test.YtcdjheflchglaaaDoorSeatGenS
import Derived.Test.YtcdjheflchglaaaDoorDgLM
import Derived.Laws.RangeString
import Derived.Test.YtcdjheflchglaaaDoorTrydShelf
import Derived.Test.YtcdjheflchglaaaDoorSimPQ
import Derived.Lib.AppendIntMem
import Derived.Lib.AtoiErrMem
namespace Go.Proofs.Sim.Se
open Go Go.Proofs Go.Proofs.Sim
set_option maxRecDepth 100000
set_option linter.unusedVariables false
set_option linter.unusedSimpArgs false

end Go.Proofs.Sim.Se

namespace Go.Proofs.Sim.Se
open Go Go.Proofs Go.Proofs.Sim
set_option maxRecDepth 100000
set_option linter.unusedVariables false
set_option linter.unusedSimpArgs false
end Go.Proofs.Sim.Se

namespace Go.Proofs.Sim.Se
open Go Go.Proofs Go.Proofs.Sim Go.RowKit
set_option maxRecDepth 100000
set_option linter.unusedVariables false
set_option linter.unusedSimpArgs false
theorem repI_int {m : Nat → Nat → Option Value} {v : Value} {k : IntKind} {n : Int} (h : RepI m v (.int k n)) : v = .int k n := by
  cases h; rfl
theorem tab_of {g : G} {w : World} (hs : Sat g [] w) : Lib.TabIs Tryd.prog w "internal/strconv.uint64pow10" .u64 Lib.pow10Tab := by
  obtain ⟨T, fz, h⟩ := g.tab.vals 1 _ rfl
  have h' := hs.old _ _ h
  have hg : Tryd.prog.globalNamed "internal/strconv.uint64pow10" = some 1 := by kernel_rfl
  unfold Lib.TabIs World.var?
  rw [hg]
  simp only [Option.bind_some, h']

theorem S_strconv_Itoa (n : Int) (h0 : -9223372036854775808 ≤ n) (h1 : n ≤ 9223372036854775807) : Call E0.P fn_strconv_Itoa [.imm (.int .i64 n)] [] (Is (.imm (.str (Lib.itoa n))) []) := by
  refine call_of_contract Tryd.func102 (by kernel_rfl) (by kernel_rfl) [.int .i64 n] _ fun g w vs hv hs => ?_
  obtain ⟨v, rfl, hr⟩ := reps1 hv
  obtain rfl := repI_int hr
  refine (Tryd.strconv_Itoa n h0 h1 w (tab_of hs)).mono ?_
  rintro e w' ⟨rfl, k, os, rfl⟩
  exact ⟨_, .imm (.str (Lib.itoa n)), rfl, Lib.below_grow _ w (Nat.le_refl _) k os, .imm _ _ (.str _ _ (by simp)), rfl, rfl⟩

end Go.Proofs.Sim.Se

namespace Go.Proofs.Sim.Se
open Go Go.Proofs Go.Proofs.Sim Go.RowKit
set_option maxRecDepth 100000
set_option linter.unusedVariables false
set_option linter.unusedSimpArgs false
theorem S_digits_Put (n : Int) (h0 : -9223372036854775808 ≤ n) (h1 : n ≤ 9223372036854775807) : Call E0.P fn_digits_Put [.imm (.int .i64 n)] [] (Is (.imm (.str (Lib.itoa n))) []) :=
  F_digits_Put_of _ _ (Call.use (S_strconv_Itoa n h0 h1) ⟨⟨rfl, rfl⟩, ⟨rfl, rfl⟩⟩)
end Go.Proofs.Sim.Se

namespace Go.Proofs.Sim.Se
open Go Go.Proofs Go.Proofs.Sim Go.RowKit
set_option maxRecDepth 100000
set_option linter.unusedVariables false
set_option linter.unusedSimpArgs false
theorem orB (p q : Prop) {i : Decidable p} {j : Decidable q} : ((bif decide p then true else decide q) = true ↔ (p ∨ q)) := by
  by_cases p <;> by_cases q <;> simp_all
end Go.Proofs.Sim.Se

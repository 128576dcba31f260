import Derived.Test.YtkdjpnfpmpchnaaDoorDg2
import Derived.Test.YtkdjpnfpmpchnaaDoorTrydShelf
import Derived.Test.YtkdjpnfpmpchnaaDoorSimP
import Derived.Lib.AppendIntMem
import Derived.Lib.AtoiErrMem
namespace Go.Proofs.Sim.Se
open Go Go.Proofs Go.Proofs.Sim Go.RowKit
set_option maxRecDepth 100000
set_option linter.unusedVariables false
set_option linter.unusedSimpArgs false
theorem repI_int {m : Nat → Nat → Option Value} {v : Value} {k : IntKind} {n : Int} (h : RepI m v (.int k n)) : v = .int k n := by
  cases h; rfl
theorem str_of (s : List UInt8) : (⟨s.toArray⟩ : ByteArray).data.toList = s := by simp
theorem tab_of {g : G} {w : World} (hs : Sat g [] w) : Lib.TabIs Tryd.prog w "internal/strconv.uint64pow10" .u64 Lib.pow10Tab := by
  obtain ⟨T, fz, h⟩ := g.tab.vals 3 _ rfl
  have h' := hs.old _ _ h
  have hg : Tryd.prog.globalNamed "internal/strconv.uint64pow10" = some 3 := by kernel_rfl
  unfold Lib.TabIs World.var?
  rw [hg]
  simp only [Option.bind_some, h']

theorem S_strconv_Itoa (n : Int) (h0 : -9223372036854775808 ≤ n) (h1 : n ≤ 9223372036854775807) : Call E0.P fn_strconv_Itoa [.imm (.int .i64 n)] [] (Is (.imm (.str (Lib.itoa n))) []) := by
  refine call_of_contract Tryd.func46 (by kernel_rfl) (by kernel_rfl) [.int .i64 n] _ fun g w vs hv hs => ?_
  obtain ⟨v, rfl, hr⟩ := reps1 hv
  obtain rfl := repI_int hr
  refine (Tryd.strconv_Itoa n h0 h1 w (tab_of hs)).mono ?_
  rintro e w' ⟨rfl, k, os, rfl⟩
  exact ⟨_, .imm (.str (Lib.itoa n)), rfl, Lib.below_grow _ w (Nat.le_refl _) k os, .imm _ _ (.str _ _ (by simp)), rfl, rfl⟩

theorem S_strings_Repeat (s : List UInt8) (c : Nat) (hlen : s.length * c ≤ 140737488355328) (hc : c ≤ 9223372036854775807) : Call E0.P fn_strings_Repeat [.imm (.str s), .imm (.int .i64 c)] [] (Is (.imm (.str (Lib.repeatL s c))) []) := by
  refine call_of_contract Tryd.func45 (by kernel_rfl) (by kernel_rfl) [.str s, .int .i64 c] _ fun g w vs hv hs => ?_
  obtain ⟨v, u, rfl, hr, hu⟩ := reps2 hv
  obtain rfl := repI_str hr
  obtain rfl := repI_int hu
  refine (Tryd.strings_Repeat ⟨s.toArray⟩ c w hc (by simpa [ByteArray.size] using hlen)).mono ?_
  rintro e w' ⟨rfl, hb⟩
  exact ⟨_, .imm (.str (Lib.repeatL s c)), rfl, hb, .imm _ _ (.str _ _ (by simp)), rfl, rfl⟩

theorem S_strings_Contains (s : List UInt8) (c : UInt8) : Call E0.P fn_strings_Contains [.imm (.str s), .imm (.str [c])] [] (Is (.imm (.bool (decide (0 ≤ Lib.indexByte s c)))) []) := by
  refine call_of_contract Tryd.func62 (by kernel_rfl) (by kernel_rfl) [.str s, .str [c]] _ fun g w vs hv hs => ?_
  obtain ⟨v, u, rfl, hr, hu⟩ := reps2 hv
  obtain rfl := repI_str hr
  obtain rfl := repI_str hu
  refine (Tryd.strings_Contains_one ⟨s.toArray⟩ c w).mono ?_
  rintro e w' ⟨rfl, rfl⟩
  exact ⟨_, .imm (.bool (decide (0 ≤ Lib.indexByte s c))), rfl, Below.refl _ _, .imm _ _ (.bool _), rfl, rfl⟩

end Go.Proofs.Sim.Se

import Derived.Test.YtkdjpnfpmpchnaaDoorDg2
import Derived.Test.YtkdjpnfpmpchnaaDoorTrydShelf
import Derived.Test.YtkdjpnfpmpchnaaDoorSimP
import Derived.Lib.AppendIntMem
import Derived.Lib.AtoiErrMem
namespace Go.Proofs.Sim.Se
open Go Go.Proofs Go.Proofs.Sim Go.RowKit
set_option maxRecDepth 100000
set_option linter.unusedVariables false
set_option linter.unusedSimpArgs false
theorem repI_int {m : Nat → Nat → Option Value} {v : Value} {k : IntKind} {n : Int} (h : RepI m v (.int k n)) : v = .int k n := by
  cases h; rfl
theorem str_of (s : List UInt8) : (⟨s.toArray⟩ : ByteArray).data.toList = s := by simp
theorem tab_of {g : G} {w : World} (hs : Sat g [] w) : Lib.TabIs Tryd.prog w "internal/strconv.uint64pow10" .u64 Lib.pow10Tab := by
  obtain ⟨T, fz, h⟩ := g.tab.vals 3 _ rfl
  have h' := hs.old _ _ h
  have hg : Tryd.prog.globalNamed "internal/strconv.uint64pow10" = some 3 := by kernel_rfl
  unfold Lib.TabIs World.var?
  rw [hg]
  simp only [Option.bind_some, h']

theorem S_strconv_Itoa (n : Int) (h0 : -9223372036854775808 ≤ n) (h1 : n ≤ 9223372036854775807) : Call E0.P fn_strconv_Itoa [.imm (.int .i64 n)] [] (Is (.imm (.str (Lib.itoa n))) []) := by
  refine call_of_contract Tryd.func46 (by kernel_rfl) (by kernel_rfl) [.int .i64 n] _ fun g w vs hv hs => ?_
  obtain ⟨v, rfl, hr⟩ := reps1 hv
  obtain rfl := repI_int hr
  refine (Tryd.strconv_Itoa n h0 h1 w (tab_of hs)).mono ?_
  rintro e w' ⟨rfl, k, os, rfl⟩
  exact ⟨_, .imm (.str (Lib.itoa n)), rfl, Lib.below_grow _ w (Nat.le_refl _) k os, .imm _ _ (.str _ _ (by simp)), rfl, rfl⟩

theorem S_strings_Repeat (s : List UInt8) (c : Nat) (hlen : s.length * c ≤ 140737488355328) (hc : c ≤ 9223372036854775807) : Call E0.P fn_strings_Repeat [.imm (.str s), .imm (.int .i64 c)] [] (Is (.imm (.str (Lib.repeatL s c))) []) := by
  refine call_of_contract Tryd.func45 (by kernel_rfl) (by kernel_rfl) [.str s, .int .i64 c] _ fun g w vs hv hs => ?_
  obtain ⟨v, u, rfl, hr, hu⟩ := reps2 hv
  obtain rfl := repI_str hr
  obtain rfl := repI_int hu
  refine (Tryd.strings_Repeat ⟨s.toArray⟩ c w hc (by simpa [ByteArray.size] using hlen)).mono ?_
  rintro e w' ⟨rfl, hb⟩
  exact ⟨_, .imm (.str (Lib.repeatL s c)), rfl, hb, .imm _ _ (.str _ _ (by simp)), rfl, rfl⟩

theorem S_strings_Contains (s : List UInt8) (c : UInt8) : Call E0.P fn_strings_Contains [.imm (.str s), .imm (.str [c])] [] (Is (.imm (.bool (decide (0 ≤ Lib.indexByte s c)))) []) := by
  refine call_of_contract Tryd.func62 (by kernel_rfl) (by kernel_rfl) [.str s, .str [c]] _ fun g w vs hv hs => ?_
  obtain ⟨v, u, rfl, hr, hu⟩ := reps2 hv
  obtain rfl := repI_str hr
  obtain rfl := repI_str hu
  refine (Tryd.strings_Contains_one ⟨s.toArray⟩ c w).mono ?_
  rintro e w' ⟨rfl, rfl⟩
  exact ⟨_, .imm (.bool (decide (0 ≤ Lib.indexByte s c))), rfl, Below.refl _ _, .imm _ _ (.bool _), rfl, rfl⟩

theorem errv {g : G} {w : World} (hs : Sat g [] w) (b : Nat) (hb : glk gtabs b = some [.ifc false]) : ∃ ev, w.cell? ⟨b, 0, none⟩ = some ev ∧ (ev = .nilIface ∨ ∃ te pe, ev = .iface te pe) := by
  obtain ⟨v, h1, h2⟩ := g.tab.cell b _ hb 0 (by simp)
  refine ⟨v, hs.imm _ _ _ h1, ?_⟩
  simp at h2
  cases h2
  exact .inr ⟨_, _, rfl⟩
theorem S_strconv_Atoi (s : List UInt8) (hs0 : s.length ≤ 281474976710656) : Call E0.P fn_strconv_Atoi [.imm (.str s)] [] (Is (.tup [.imm (.int .i64 (atoiP s).1), .imm (.ifc (atoiP s).2)]) []) := by
  refine call_of_contract Tryd.func48 (by kernel_rfl) (by kernel_rfl) [.str s] _ fun g w vs hv hs => ?_
  obtain ⟨v, rfl, hr⟩ := reps1 hv
  obtain rfl := repI_str hr
  have hsz : (⟨s.toArray⟩ : ByteArray).size = s.length := by simp [ByteArray.size]
  cases h : Lib.atoiAll s
  case ok n =>
    refine (Tryd.strconv_Atoi_ok ⟨s.toArray⟩ (by omega) n (by simpa using h) w).mono ?_
    rintro e w' ⟨rfl, hw⟩
    refine ⟨_, .tup [.imm (.int .i64 n), .imm (.ifc true)], rfl, ?_, ?_, by simp only [atoiP, h]; exact ⟨rfl, rfl⟩⟩
    · rcases hw with rfl | ⟨t, rfl⟩
      · exact Below.refl _ _
      · exact Lib.bytesWorld_below _ _ _
    · refine .tup _ _ rfl fun i hi => ?_
      match i, hi with
      | 0, _ => exact .imm _ _ (.int _ _)
      | 1, _ => exact .imm _ _ .nilIface
  case range =>
    obtain ⟨ev, he, hev⟩ := errv hs 1 rfl
    refine (Tryd.strconv_Atoi_range ⟨s.toArray⟩ (by omega) (by simpa using h) ev w he hev).mono ?_
    rintro e w' ⟨N, rfl, hN, hb, hB⟩
    refine ⟨_, .tup [.imm (.int .i64 (Lib.atoiSat s)), .imm (.ifc false)], rfl, hB, ?_, by simp only [atoiP, h]; exact ⟨rfl, rfl⟩⟩
    refine .tup _ _ rfl fun i hi => ?_
    match i, hi with
    | 0, _ => simp only [str_of]; exact .imm _ _ (.int _ _)
    | 1, _ => exact .imm _ _ (.iface _ _)
  · obtain ⟨ev, he, hev⟩ := errv hs 0 rfl
    refine (Tryd.strconv_Atoi_syntax ⟨s.toArray⟩ (by omega) (by simpa using h) ev w he hev).mono ?_
    rintro e w' ⟨N, rfl, hN, hb, hB⟩
    refine ⟨_, .tup [.imm (.int .i64 0), .imm (.ifc false)], rfl, hB, ?_, by simp only [atoiP, h]; exact ⟨rfl, rfl⟩⟩
    refine .tup _ _ rfl fun i hi => ?_
    match i, hi with
    | 0, _ => exact .imm _ _ (.int _ _)
    | 1, _ => exact .imm _ _ (.iface _ _)
end Go.Proofs.Sim.Se

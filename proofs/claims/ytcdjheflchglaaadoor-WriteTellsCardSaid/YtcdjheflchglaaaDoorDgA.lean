import Derived.Test.YtcdjheflchglaaaDoorSeatGenS
import Derived.Test.YtcdjheflchglaaaDoorDgLM
import Derived.Laws.RangeString
import Derived.Test.YtcdjheflchglaaaDoorTrydShelf
import Derived.Test.YtcdjheflchglaaaDoorSimPQ
import Derived.Lib.AppendIntMem
import Derived.Lib.AtoiErrMem
namespace Go.Proofs.Sim.Se
open Go Go.Proofs Go.Proofs.Sim
set_option maxRecDepth 100000
set_option linter.unusedVariables false
set_option linter.unusedSimpArgs false

end Go.Proofs.Sim.Se

namespace Go.Proofs.Sim.Se
open Go Go.Proofs Go.Proofs.Sim
set_option maxRecDepth 100000
set_option linter.unusedVariables false
set_option linter.unusedSimpArgs false
end Go.Proofs.Sim.Se

namespace Go.Proofs.Sim.Se
open Go Go.Proofs Go.Proofs.Sim Go.RowKit
set_option maxRecDepth 100000
set_option linter.unusedVariables false
set_option linter.unusedSimpArgs false
theorem repI_int {m : Nat → Nat → Option Value} {v : Value} {k : IntKind} {n : Int} (h : RepI m v (.int k n)) : v = .int k n := by
  cases h; rfl
theorem tab_of {g : G} {w : World} (hs : Sat g [] w) : Lib.TabIs Tryd.prog w "internal/strconv.uint64pow10" .u64 Lib.pow10Tab := by
  obtain ⟨T, fz, h⟩ := g.tab.vals 1 _ rfl
  have h' := hs.old _ _ h
  have hg : Tryd.prog.globalNamed "internal/strconv.uint64pow10" = some 1 := by kernel_rfl
  unfold Lib.TabIs World.var?
  rw [hg]
  simp only [Option.bind_some, h']

theorem S_strconv_Itoa (n : Int) (h0 : -9223372036854775808 ≤ n) (h1 : n ≤ 9223372036854775807) : Call E0.P fn_strconv_Itoa [.imm (.int .i64 n)] [] (Is (.imm (.str (Lib.itoa n))) []) := by
  refine call_of_contract Tryd.func102 (by kernel_rfl) (by kernel_rfl) [.int .i64 n] _ fun g w vs hv hs => ?_
  obtain ⟨v, rfl, hr⟩ := reps1 hv
  obtain rfl := repI_int hr
  refine (Tryd.strconv_Itoa n h0 h1 w (tab_of hs)).mono ?_
  rintro e w' ⟨rfl, k, os, rfl⟩
  exact ⟨_, .imm (.str (Lib.itoa n)), rfl, Lib.below_grow _ w (Nat.le_refl _) k os, .imm _ _ (.str _ _ (by simp)), rfl, rfl⟩

end Go.Proofs.Sim.Se

namespace Go.Proofs.Sim.Se
open Go Go.Proofs Go.Proofs.Sim Go.RowKit
set_option maxRecDepth 100000
set_option linter.unusedVariables false
set_option linter.unusedSimpArgs false
theorem S_digits_Put (n : Int) (h0 : -9223372036854775808 ≤ n) (h1 : n ≤ 9223372036854775807) : Call E0.P fn_digits_Put [.imm (.int .i64 n)] [] (Is (.imm (.str (Lib.itoa n))) []) :=
  F_digits_Put_of _ _ (Call.use (S_strconv_Itoa n h0 h1) ⟨⟨rfl, rfl⟩, ⟨rfl, rfl⟩⟩)
end Go.Proofs.Sim.Se

namespace Go.Proofs.Sim.Se
open Go Go.Proofs Go.Proofs.Sim Go.RowKit
set_option maxRecDepth 100000
set_option linter.unusedVariables false
set_option linter.unusedSimpArgs false
def tenDigits : List UInt8 := [48, 49, 50, 51, 52, 53, 54, 55, 56, 57]
theorem ten_fin : ∀ d : Fin 10, List.drop d.val (List.take (d.val + 1) tenDigits) = [UInt8.ofNat (48 + d.val)] := by decide +kernel
theorem ten_at (d : Nat) (h : d < 10) : List.drop d (List.take (d + 1) tenDigits) = [UInt8.ofNat (48 + d)] := ten_fin ⟨d, h⟩
theorem put_step (u : Nat) (hu : u ≤ 9223372036854775808) (t3 t4 : List UInt8) (h3 : t3.length ≤ 1000) (hc : 0 < u ∨ t3 = []) (hu' : u ≤ 9223372036854775807) (K : Ex → St → Prop)
    (h : L_r02_Put_11 ((u / 10 : Nat) : Int) ([UInt8.ofNat (48 + u % 10)] ++ t3) t4 K) : L_r02_Put_11 u t3 t4 K := by
  have e1 : (u : Int).tmod 10 = ((u % 10 : Nat) : Int) := by rw [Int.tmod_eq_emod_of_nonneg (by omega)]; omega
  have e2 : (u : Int).tdiv 10 = ((u / 10 : Nat) : Int) := by rw [Int.tdiv_eq_ediv_of_nonneg (by omega)]; omega
  have e3 : IntKind.i64.wrap (((u % 10 : Nat) : Int) + 1) = ((u % 10 + 1 : Nat) : Int) := by rw [wrap_id _ (by omega) (by omega)]; omega
  have e4 : IntKind.i64.wrap ((u / 10 : Nat) : Int) = ((u / 10 : Nat) : Int) := by rw [wrap_id _ (by omega) (by omega)]
  refine L_r02_Put_11_of _ _ _ _ (Let.intro ⟨fun _ => ?_, fun hf => ?_⟩)
  · rw [e1, e2, e3, e4]
    have e5 := ten_at (u % 10) (by omega)
    refine ⟨by decide, ⟨by decide, ⟨by omega, Let.intro ?_⟩⟩⟩
    simp only [Int.toNat_natCast]
    rw [show [(48 : UInt8), 49, 50, 51, 52, 53, 54, 55, 56, 57] = tenDigits from rfl, e5]
    exact ⟨by simp; omega, ⟨by decide, h⟩⟩
  · exfalso
    rcases hc with hc | hc
    · have : decide ((0 : Int) < (u : Int)) = true := decide_eq_true (by omega)
      rw [this] at hf; cases hf
    · subst hc
      cases hd : decide ((0 : Int) < (u : Int)) <;> rw [hd] at hf <;> simp at hf
theorem L_r02_Put (K : Ex → St → Prop) (t4 : List UInt8) (m : Nat) : ∀ (u : Nat) (t3 : List UInt8), u ≤ 9223372036854775807 → u < 10 ^ m → t3.length + m ≤ 100 → t3 ≠ [] →
    K (.exit 0) ⟨[(3, .imm (.str (if u = 0 then t3 else Lib.decDigits u ++ t3))), (4, .imm (.str t4))], []⟩ → L_r02_Put_11 u t3 t4 K := by
  induction m with
  | zero =>
    intro u t3 hu hm h3 h0 hK
    have : u = 0 := by simpa using hm
    subst this
    rw [if_pos rfl] at hK
    exact L_r02_Put_11_of _ _ _ _ (Let.intro ⟨fun hf => by exfalso; simp at hf; exact h0 hf, fun _ => hK⟩)
  | succ m ih =>
    intro u t3 hu hm h3 h0 hK
    by_cases hz : u = 0
    · subst hz
      rw [if_pos rfl] at hK
      exact L_r02_Put_11_of _ _ _ _ (Let.intro ⟨fun hf => by exfalso; simp at hf; exact h0 hf, fun _ => hK⟩)
    · rw [if_neg hz] at hK
      refine put_step u (by omega) t3 t4 (by omega) (.inl (by omega)) hu K ?_
      refine ih (u / 10) _ (by omega) (by rw [Nat.pow_succ] at hm; omega) (by simp; omega) (by simp) ?_
      rw [Lib.decDigits] at hK
      split at hK
      · rename_i h10
        rw [if_pos (by omega), Nat.mod_eq_of_lt h10]
        exact hK
      · rename_i h10
        rw [if_neg (by omega), ← List.append_assoc]
        exact hK
theorem S_r02_Put (n : Int) (h0 : -9223372036854775808 ≤ n) (h1 : n ≤ 9223372036854775807) : Call E0.P fn_r02_Put [.imm (.int .i64 n)] [] (Is (.imm (.str (Lib.itoa n))) []) := by
  refine F_r02_Put_of _ _ ⟨fun h => ?_, fun h => ?_⟩
  · have hn : n < 0 := of_decide_eq_true h
    obtain ⟨u, rfl⟩ : ∃ u : Nat, n = -(u : Int) := ⟨n.natAbs, by omega⟩
    have hu : 1 ≤ u := by omega
    have e1 : (-(u : Int)).tmod 10 = -((u % 10 : Nat) : Int) := by rw [Int.neg_tmod, Int.tmod_eq_emod_of_nonneg (by omega)]; omega
    have e2 : (-(u : Int)).tdiv 10 = -((u / 10 : Nat) : Int) := by rw [Int.neg_tdiv, Int.tdiv_eq_ediv_of_nonneg (by omega)]; omega
    have w1 : IntKind.i64.wrap (0 - -((u % 10 : Nat) : Int)) = ((u % 10 : Nat) : Int) := by rw [wrap_id _ (by omega) (by omega)]; omega
    have w2 : IntKind.i64.wrap (1 - -((u % 10 : Nat) : Int)) = ((u % 10 + 1 : Nat) : Int) := by rw [wrap_id _ (by omega) (by omega)]; omega
    have w3 : IntKind.i64.wrap (0 - IntKind.i64.wrap (-((u / 10 : Nat) : Int))) = ((u / 10 : Nat) : Int) := by
      rw [wrap_id (-((u / 10 : Nat) : Int)) (by omega) (by omega), wrap_id _ (by omega) (by omega)]; omega
    rw [e1, e2, w1, w2, w3]
    refine ⟨by decide, ⟨by omega, Let.intro ?_⟩⟩
    simp only [Int.toNat_natCast]
    rw [show [(48 : UInt8), 49, 50, 51, 52, 53, 54, 55, 56, 57] = tenDigits from rfl, ten_at (u % 10) (by omega)]
    refine ⟨by decide, ⟨fun h => ?_, fun h => ?_⟩⟩
    · have hz : u / 10 = 0 := by have := of_decide_eq_true h; omega
      refine ⟨by simp, ?_, rfl⟩
      rw [Lib.itoa_neg u hu, Lib.decDigits_one (by omega), Nat.mod_eq_of_lt (by omega)]
      rfl
    · have hz : u / 10 ≠ 0 := by have := of_decide_eq_false h; omega
      refine C_r02_Put_10_of _ _ _ _ (L_r02_Put _ _ 19 (u / 10) _ (by omega) (by omega) (by simp) (by simp) ?_)
      refine K_r02_Put_2_x0 _ _ _ (C_r02_Put_16_of _ _ _ ⟨?_, K_r02_Put_1_x0 _ _ (K_r02_Put_0_x0 _ _ ⟨?_, rfl⟩)⟩)
      · rw [if_neg hz]
        have := dec_len (u / 10) (by omega)
        simp; omega
      · rw [if_neg hz, Lib.itoa_neg u hu]
        conv => rhs; rw [Lib.decDigits, dif_neg (by omega)]
        rfl
  · have hn : ¬ n < 0 := of_decide_eq_false h
    obtain ⟨u, rfl⟩ : ∃ u : Nat, n = (u : Int) := ⟨n.toNat, by omega⟩
    refine C_r02_Put_10_of _ _ _ _ (put_step u (by omega) [] [] (by simp) (.inr rfl) (by omega) _ ?_)
    refine L_r02_Put _ _ 19 (u / 10) _ (by omega) (by omega) (by simp) (by simp) ?_
    have e : (if u / 10 = 0 then [UInt8.ofNat (48 + u % 10)] ++ [] else Lib.decDigits (u / 10) ++ ([UInt8.ofNat (48 + u % 10)] ++ [])) = Lib.itoa u := by
      rw [Lib.itoa_nonneg]
      conv => rhs; rw [Lib.decDigits]
      split
      · rw [dif_pos (by omega), Nat.mod_eq_of_lt (by omega)]; rfl
      · rw [dif_neg (by omega)]; simp
    rw [e]
    have := itoa_len u h0 h1
    refine K_r02_Put_2_x0 _ _ _ (C_r02_Put_16_of _ _ _ ⟨by simp; omega, K_r02_Put_1_x0 _ _ (K_r02_Put_0_x0 _ _ ⟨?_, rfl⟩)⟩)
    simp
theorem orB (p q : Prop) {i : Decidable p} {j : Decidable q} : ((bif decide p then true else decide q) = true ↔ (p ∨ q)) := by
  by_cases p <;> by_cases q <;> simp_all
end Go.Proofs.Sim.Se

import Derived.Test.YtkdjpnfpmpchnaaDoorDg4
import Derived.Test.YtkdjpnfpmpchnaaDoorDgM
namespace Go.Proofs.Sim.Se
open Go Go.Proofs Go.Proofs.Sim Go.RowKit
set_option maxRecDepth 100000
set_option linter.unusedVariables false
set_option linter.unusedSimpArgs false
def tenDigits : List UInt8 := [48, 49, 50, 51, 52, 53, 54, 55, 56, 57]
theorem ten_fin : ∀ d : Fin 10, List.drop d.val (List.take (d.val + 1) tenDigits) = [UInt8.ofNat (48 + d.val)] := by decide +kernel
theorem ten_at (d : Nat) (h : d < 10) : List.drop d (List.take (d + 1) tenDigits) = [UInt8.ofNat (48 + d)] := ten_fin ⟨d, h⟩
theorem put_step (u : Nat) (hu : u ≤ 9223372036854775808) (t3 t4 : List UInt8) (h3 : t3.length ≤ 1000) (hc : 0 < u ∨ t3 = []) (hu' : u ≤ 9223372036854775807) (K : Ex → St → Prop)
    (h : L_r02_Put_11 ((u / 10 : Nat) : Int) ([UInt8.ofNat (48 + u % 10)] ++ t3) t4 K) : L_r02_Put_11 u t3 t4 K := by
  have e1 : (u : Int).tmod 10 = ((u % 10 : Nat) : Int) := by rw [Int.tmod_eq_emod_of_nonneg (by omega)]; omega
  have e2 : (u : Int).tdiv 10 = ((u / 10 : Nat) : Int) := by rw [Int.tdiv_eq_ediv_of_nonneg (by omega)]; omega
  have e3 : IntKind.i64.wrap (((u % 10 : Nat) : Int) + 1) = ((u % 10 + 1 : Nat) : Int) := by rw [wrap_id _ (by omega) (by omega)]; omega
  have e4 : IntKind.i64.wrap ((u / 10 : Nat) : Int) = ((u / 10 : Nat) : Int) := by rw [wrap_id _ (by omega) (by omega)]
  refine L_r02_Put_11_of _ _ _ _ (Let.intro ⟨fun _ => ?_, fun hf => ?_⟩)
  · rw [e1, e2, e3, e4]
    have e5 := ten_at (u % 10) (by omega)
    refine ⟨by decide, ⟨by decide, ⟨by omega, Let.intro ?_⟩⟩⟩
    simp only [Int.toNat_natCast]
    rw [show [(48 : UInt8), 49, 50, 51, 52, 53, 54, 55, 56, 57] = tenDigits from rfl, e5]
    exact ⟨by simp; omega, ⟨by decide, h⟩⟩
  · exfalso
    rcases hc with hc | hc
    · have : decide ((0 : Int) < (u : Int)) = true := decide_eq_true (by omega)
      rw [this] at hf; cases hf
    · subst hc
      cases hd : decide ((0 : Int) < (u : Int)) <;> rw [hd] at hf <;> simp at hf
theorem L_r02_Put (K : Ex → St → Prop) (t4 : List UInt8) (m : Nat) : ∀ (u : Nat) (t3 : List UInt8), u ≤ 9223372036854775807 → u < 10 ^ m → t3.length + m ≤ 100 → t3 ≠ [] →
    K (.exit 0) ⟨[(3, .imm (.str (if u = 0 then t3 else Lib.decDigits u ++ t3))), (4, .imm (.str t4))], []⟩ → L_r02_Put_11 u t3 t4 K := by
  induction m with
  | zero =>
    intro u t3 hu hm h3 h0 hK
    have : u = 0 := by simpa using hm
    subst this
    rw [if_pos rfl] at hK
    exact L_r02_Put_11_of _ _ _ _ (Let.intro ⟨fun hf => by exfalso; simp at hf; exact h0 hf, fun _ => hK⟩)
  | succ m ih =>
    intro u t3 hu hm h3 h0 hK
    by_cases hz : u = 0
    · subst hz
      rw [if_pos rfl] at hK
      exact L_r02_Put_11_of _ _ _ _ (Let.intro ⟨fun hf => by exfalso; simp at hf; exact h0 hf, fun _ => hK⟩)
    · rw [if_neg hz] at hK
      refine put_step u (by omega) t3 t4 (by omega) (.inl (by omega)) hu K ?_
      refine ih (u / 10) _ (by omega) (by rw [Nat.pow_succ] at hm; omega) (by simp; omega) (by simp) ?_
      rw [Lib.decDigits] at hK
      split at hK
      · rename_i h10
        rw [if_pos (by omega), Nat.mod_eq_of_lt h10]
        exact hK
      · rename_i h10
        rw [if_neg (by omega), ← List.append_assoc]
        exact hK
theorem S_r02_Put (n : Int) (h0 : -9223372036854775808 ≤ n) (h1 : n ≤ 9223372036854775807) : Call E0.P fn_r02_Put [.imm (.int .i64 n)] [] (Is (.imm (.str (Lib.itoa n))) []) := by
  refine F_r02_Put_of _ _ ⟨fun h => ?_, fun h => ?_⟩
  · have hn : n < 0 := of_decide_eq_true h
    obtain ⟨u, rfl⟩ : ∃ u : Nat, n = -(u : Int) := ⟨n.natAbs, by omega⟩
    have hu : 1 ≤ u := by omega
    have e1 : (-(u : Int)).tmod 10 = -((u % 10 : Nat) : Int) := by rw [Int.neg_tmod, Int.tmod_eq_emod_of_nonneg (by omega)]; omega
    have e2 : (-(u : Int)).tdiv 10 = -((u / 10 : Nat) : Int) := by rw [Int.neg_tdiv, Int.tdiv_eq_ediv_of_nonneg (by omega)]; omega
    have w1 : IntKind.i64.wrap (0 - -((u % 10 : Nat) : Int)) = ((u % 10 : Nat) : Int) := by rw [wrap_id _ (by omega) (by omega)]; omega
    have w2 : IntKind.i64.wrap (1 - -((u % 10 : Nat) : Int)) = ((u % 10 + 1 : Nat) : Int) := by rw [wrap_id _ (by omega) (by omega)]; omega
    have w3 : IntKind.i64.wrap (0 - IntKind.i64.wrap (-((u / 10 : Nat) : Int))) = ((u / 10 : Nat) : Int) := by
      rw [wrap_id (-((u / 10 : Nat) : Int)) (by omega) (by omega), wrap_id _ (by omega) (by omega)]; omega
    rw [e1, e2, w1, w2, w3]
    refine ⟨by decide, ⟨by omega, Let.intro ?_⟩⟩
    simp only [Int.toNat_natCast]
    rw [show [(48 : UInt8), 49, 50, 51, 52, 53, 54, 55, 56, 57] = tenDigits from rfl, ten_at (u % 10) (by omega)]
    refine ⟨by decide, ⟨fun h => ?_, fun h => ?_⟩⟩
    · have hz : u / 10 = 0 := by have := of_decide_eq_true h; omega
      refine ⟨by simp, ?_, rfl⟩
      rw [Lib.itoa_neg u hu, Lib.decDigits_one (by omega), Nat.mod_eq_of_lt (by omega)]
      rfl
    · have hz : u / 10 ≠ 0 := by have := of_decide_eq_false h; omega
      refine C_r02_Put_10_of _ _ _ _ (L_r02_Put _ _ 19 (u / 10) _ (by omega) (by omega) (by simp) (by simp) ?_)
      refine K_r02_Put_2_x0 _ _ _ (C_r02_Put_16_of _ _ _ ⟨?_, K_r02_Put_1_x0 _ _ (K_r02_Put_0_x0 _ _ ⟨?_, rfl⟩)⟩)
      · rw [if_neg hz]
        have := dec_len (u / 10) (by omega)
        simp; omega
      · rw [if_neg hz, Lib.itoa_neg u hu]
        conv => rhs; rw [Lib.decDigits, dif_neg (by omega)]
        rfl
  · have hn : ¬ n < 0 := of_decide_eq_false h
    obtain ⟨u, rfl⟩ : ∃ u : Nat, n = (u : Int) := ⟨n.toNat, by omega⟩
    refine C_r02_Put_10_of _ _ _ _ (put_step u (by omega) [] [] (by simp) (.inr rfl) (by omega) _ ?_)
    refine L_r02_Put _ _ 19 (u / 10) _ (by omega) (by omega) (by simp) (by simp) ?_
    have e : (if u / 10 = 0 then [UInt8.ofNat (48 + u % 10)] ++ [] else Lib.decDigits (u / 10) ++ ([UInt8.ofNat (48 + u % 10)] ++ [])) = Lib.itoa u := by
      rw [Lib.itoa_nonneg]
      conv => rhs; rw [Lib.decDigits]
      split
      · rw [dif_pos (by omega), Nat.mod_eq_of_lt (by omega)]; rfl
      · rw [dif_neg (by omega)]; simp
    rw [e]
    have := itoa_len u h0 h1
    refine K_r02_Put_2_x0 _ _ _ (C_r02_Put_16_of _ _ _ ⟨by simp; omega, K_r02_Put_1_x0 _ _ (K_r02_Put_0_x0 _ _ ⟨?_, rfl⟩)⟩)
    simp
/-! ### Pad -/
theorem orB (p q : Prop) {i : Decidable p} {j : Decidable q} : ((bif decide p then true else decide q) = true ↔ (p ∨ q)) := by
  by_cases p <;> by_cases q <;> simp_all
theorem orF (p q : Prop) {i : Decidable p} {j : Decidable q} : ((bif decide p then true else decide q) = false ↔ ¬ (p ∨ q)) := by
  by_cases p <;> by_cases q <;> simp_all
theorem orB' (b : Bool) (q : Prop) {j : Decidable q} : ((bif b then true else decide q) = true ↔ (b = true ∨ q)) := by
  cases b <;> simp
theorem beqf {b : Bool} (h : (b == false) = false) : b = true := by cases b <;> simp_all
theorem S_digits_Pad (n w : Int) (h0 : -9223372036854775808 ≤ n) (h1 : n ≤ 9223372036854775807) : Call E0.P fn_digits_Pad [.imm (.int .i64 n), .imm (.int .i64 w)] [] (Is (isSP (padS n w).1 (padS n w).2) []) := by
  refine F_digits_Pad_of _ _ _ (Let.intro ⟨fun h => ?_, fun h => ?_⟩)
  · have h := (orB _ _).1 h
    rw [padS, if_pos h]
    exact ⟨rfl, rfl⟩
  · have h := (orF _ _).1 h
    refine Call.use (S_digits_Put n h0 h1) ⟨⟨rfl, rfl⟩, ?_⟩
    rw [rS_str]
    have hl := itoa_len n h0 h1
    refine Let.intro ⟨fun h2 => ?_, fun h2 => ?_⟩
    · have h2 := (orB _ _).1 h2
      rw [padS, if_neg h, if_pos h2]
      exact ⟨rfl, rfl⟩
    · have h2 := (orF _ _).1 h2
      have e : IntKind.i64.wrap (w - ((Lib.itoa n).length : Int)) = ((w.toNat - (Lib.itoa n).length : Nat) : Int) := by
        rw [wrap_id _ (by omega) (by omega)]; omega
      rw [e]
      refine Call.use (S_strings_Repeat [48] _ (by simp; omega) (by omega)) ⟨⟨rfl, rfl⟩, ?_⟩
      rw [rS_str, repeat_one]
      refine ⟨by simp; omega, ?_⟩
      rw [padS, if_neg h, if_neg h2]
      exact ⟨rfl, rfl⟩
theorem L_r02_Pad (K : Ex → St → Prop) (w : Nat) (hw : w ≤ 20) (m : Nat) : ∀ (s : List UInt8), w ≤ s.length + m →
    K (.exit 0) ⟨[(6, .imm (.str (List.replicate (w - s.length) 48 ++ s)))], []⟩ → L_r02_Pad_8 w s K := by
  induction m with
  | zero =>
    intro s hm hK
    refine L_r02_Pad_8_of _ _ _ ⟨fun h => by have := of_decide_eq_true h; omega, fun _ => ?_⟩
    rw [show w - s.length = 0 by omega] at hK
    exact hK
  | succ m ih =>
    intro s hm hK
    refine L_r02_Pad_8_of _ _ _ ⟨fun h => ?_, fun h => ?_⟩
    · have h := of_decide_eq_true h
      refine ⟨by omega, ih _ (by simp; omega) ?_⟩
      have e : List.replicate (w - ([48] ++ s).length) (48 : UInt8) ++ ([48] ++ s) = List.replicate (w - s.length) 48 ++ s := by
        rw [← List.append_assoc]
        congr 1
        rw [show w - s.length = (w - ([48] ++ s).length) + 1 by simp; omega, ← List.replicate_append_replicate]
        rfl
      rw [e]; exact hK
    · have h := of_decide_eq_false h
      rw [show w - s.length = 0 by omega] at hK
      exact hK
theorem S_r02_Pad (n w : Int) (h0 : -9223372036854775808 ≤ n) (h1 : n ≤ 9223372036854775807) : Call E0.P fn_r02_Pad [.imm (.int .i64 n), .imm (.int .i64 w)] [] (Is (isSP (padS n w).1 (padS n w).2) []) := by
  refine F_r02_Pad_of _ _ _ (Let.intro ⟨fun h => ?_, fun h => ?_⟩)
  · have h := (orB _ _).1 h
    rw [padS, if_pos h]
    exact ⟨rfl, rfl⟩
  · have h := (orF _ _).1 h
    refine Call.use (S_r02_Put n h0 h1) ⟨⟨rfl, rfl⟩, ?_⟩
    rw [rS_str]
    refine Let.intro ⟨fun h2 => ?_, fun h2 => ?_⟩
    · have h2 := (orB _ _).1 h2
      rw [padS, if_neg h, if_pos h2]
      exact ⟨rfl, rfl⟩
    · have h2 := (orF _ _).1 h2
      obtain ⟨u, rfl⟩ : ∃ u : Nat, w = (u : Int) := ⟨w.toNat, by omega⟩
      refine L_r02_Pad _ u (by omega) u _ (by omega) ?_
      refine K_r02_Pad_1_x0 _ _ (C_r02_Pad_12_of _ _ (K_r02_Pad_0_x0 _ _ _ ?_))
      rw [padS, if_neg h, if_neg h2]
      exact ⟨rfl, rfl⟩
end Go.Proofs.Sim.Se

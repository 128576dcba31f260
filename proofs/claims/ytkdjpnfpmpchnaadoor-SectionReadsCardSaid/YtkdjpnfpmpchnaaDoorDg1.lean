import Derived.Test.YtkdjpnfpmpchnaaDoorSeatGen
import Derived.Test.YtkdjpnfpmpchnaaDoorDgL
import Derived.Laws.RangeString
namespace Go.Proofs.Sim.Se
open Go Go.Proofs Go.Proofs.Sim
set_option maxRecDepth 100000
set_option linter.unusedVariables false
set_option linter.unusedSimpArgs false

theorem getD_lt (s : List UInt8) (n : Nat) (h : n < s.length) : s.getD n 0 = s[n] := by simp [List.getD_eq_getElem?_getD, h]
theorem cntD_step (s : List UInt8) (n : Nat) (h : n < s.length) : cntD (s.drop n) = if isDig s[n] then cntD (s.drop (n+1)) + 1 else 0 := by
  unfold cntD
  rw [List.drop_eq_getElem_cons h, List.takeWhile_cons]
  split <;> simp
theorem cntD_end (s : List UInt8) (n : Nat) (h : ¬ n < s.length) : cntD (s.drop n) = 0 := by
  rw [List.drop_eq_nil_of_le (by omega)]; rfl
theorem S_digits_digit (a0 : Int) : Call E0.P fn_digits_digit [.imm (.int .i32 a0)] [] (Is (.imm (.bool (decide (48 ≤ a0) && decide (a0 ≤ 57)))) []) := by
  refine F_digits_digit_of _ _ (Let.intro ⟨?_, rfl⟩)
  cases decide (48 ≤ a0) <;> rfl

theorem decode_rest (s : List UInt8) (n : Nat) (h : n < s.length) (hc : ¬ s[n].toNat < 128) : 128 ≤ (decodeAt s n).1 := by
  unfold decodeAt Utf8.decode
  have e : (⟨s.toArray⟩ : ByteArray).get! (n + 0) = s[n] := by
    simp [ByteArray.get!, getElem!_pos, h]
  simp only [e, hc, if_false]
  have hc' : 128 ≤ s[n].toNat := by omega
  generalize s[n].toNat = b0 at *
  repeat' split
  all_goals first | (simp [Utf8.runeError]; done) | (simp at *; omega)
theorem decode_low (s : List UInt8) (n : Nat) (h : n < s.length) (hc : s[n].toNat < 128) : decodeAt s n = (s[n].toNat, 1) := by
  unfold decodeAt
  have h' : n < (⟨s.toArray⟩ : ByteArray).size := by simpa [ByteArray.size] using h
  have e : (⟨s.toArray⟩ : ByteArray)[n] = s[n] := by show s.toArray[n] = _; simp
  rw [decode_ascii ⟨s.toArray⟩ n h' (by rw [e]; exact hc), e]
theorem digit_rune (s : List UInt8) (n : Nat) (h : n < s.length) : (decide ((48:Int) ≤ ((decodeAt s n).1 : Int)) && decide (((decodeAt s n).1 : Int) ≤ 57)) = isDig s[n] := by
  by_cases hc : s[n].toNat < 128
  · rw [decode_low s n h hc]
    rw [Bool.eq_iff_iff]
    simp only [isDig, Bool.and_eq_true, decide_eq_true_eq]
    omega
  · have := decode_rest s n h hc
    rw [Bool.eq_iff_iff]
    simp only [isDig, Bool.and_eq_true, decide_eq_true_eq]
    omega

theorem L_digits_Count (s : List UInt8) (K : Ex → St → Prop) (m : Nat) : ∀ (n : Nat), s.length + 1 ≤ n + m → n ≤ s.length →
    (n + cntD (s.drop n) = s.length → K (.exit 0) ⟨[(0, .imm (.str s))], []⟩) →
    (n + cntD (s.drop n) ≠ s.length → K .ret ⟨[(2, .imm (.int .i64 ((n + cntD (s.drop n) : Nat) : Int)))], []⟩) → L_digits_Count_2 s s n K := by
  induction m with
  | zero => intro n hm hn; omega
  | succ m ih =>
    intro n hm hn h1 h2
    refine L_digits_Count_2_of _ _ _ _ ⟨fun h => ⟨fun _ => ?_, fun hf => absurd hf (by simp)⟩, fun h => ⟨fun hf => absurd hf (by simp), fun _ => ?_⟩⟩
    · replace h := of_decide_eq_true h
      refine Call.use (S_digits_digit _) ⟨⟨rfl, rfl⟩, ?_⟩
      simp only [rB_bool, digit_rune s n h]
      have e := cntD_step s n h
      by_cases hd : isDig s[n] = true
      · rw [if_pos hd] at e
        have hw : (decodeAt s n).2 = 1 := by
          rw [decode_low s n h (by have := (isDig_iff _).1 hd; omega)]
        rw [hw]
        refine ⟨fun hf => absurd hf (by simp [hd]), fun _ => ?_⟩
        refine ih (n+1) (by omega) (by omega) ?_ ?_
        · intro hh; exact h1 (by omega)
        · intro hh
          have := h2 (by omega)
          rwa [show n + 1 + cntD (s.drop (n+1)) = n + cntD (s.drop n) by omega]
      · rw [if_neg hd] at e
        refine ⟨fun _ => ?_, fun hf => absurd hf (by simp [hd])⟩
        have := h2 (by omega)
        rw [e] at this
        exact this
    · replace h := of_decide_eq_false h
      exact h1 (by rw [cntD_end s n h]; omega)
theorem S_digits_Count (s : List UInt8) : Call E0.P fn_digits_Count [.imm (.str s)] [] (Is (.imm (.int .i64 (cntD s : Int))) []) := by
  refine F_digits_Count_of _ _ (L_digits_Count s _ _ 0 (Nat.le_of_eq (Nat.zero_add _).symm) (by omega) ?_ ?_)
  · intro h
    refine K_digits_Count_1_x1 _ _ (C_digits_Count_9_of _ _ (K_digits_Count_0_x0 _ _ ⟨?_, rfl⟩))
    rw [List.drop_zero] at h
    have h : cntD s = s.length := by omega
    rw [h]
  · intro h
    refine K_digits_Count_1_x0 _ _ ⟨?_, rfl⟩
    simp

theorem L_r02_Count (s : List UInt8) (hs : s.length ≤ 9223372036854775806) (K : Ex → St → Prop) (m : Nat) : ∀ (n : Nat), s.length + 1 ≤ n + m → n ≤ s.length →
    K (.exit 0) ⟨[(3, .imm (.int .i64 ((n + cntD (s.drop n) : Nat) : Int)))], []⟩ → L_r02_Count_2 s n K := by
  induction m with
  | zero => intro n hm hn; omega
  | succ m ih =>
    intro n hm hn hK
    refine L_r02_Count_2_of _ _ _ ?_
    simp only [Int.toNat_natCast]
    by_cases hn' : n < s.length
    · have hd : decide ((n : Int) < (s.length : Int)) = true := decide_eq_true (by omega)
      simp only [getD_lt s n hn', hd, cond_true]
      have e := cntD_step s n hn'
      refine ⟨fun _ => by omega, Let.intro ⟨fun _ => by omega, Let.intro ⟨fun h => ?_, fun h => ?_⟩⟩⟩
      · simp only [Bool.cond_false_right, Bool.and_eq_true, decide_eq_true_eq] at h
        rw [if_pos ((isDig_iff _).2 (by omega))] at e
        rw [wrap_id _ (by omega) (by omega)]
        refine ih (n+1) (by omega) (by omega) ?_
        rwa [show n + 1 + cntD (s.drop (n+1)) = n + cntD (s.drop n) by omega]
      · simp only [Bool.cond_false_right, Bool.and_eq_false_iff, decide_eq_false_iff_not] at h
        rw [if_neg (by intro hd; have := (isDig_iff _).1 hd; omega)] at e
        rw [e] at hK
        exact hK
    · have hd : decide ((n : Int) < (s.length : Int)) = false := decide_eq_false (by omega)
      simp only [hd, cond_false]
      refine ⟨fun h => absurd h (by simp), Let.intro ⟨fun h => absurd h (by simp), Let.intro ⟨fun h => absurd h (by simp), fun _ => ?_⟩⟩⟩
      rw [cntD_end s n hn'] at hK
      exact hK
theorem S_r02_Count (s : List UInt8) (hs : s.length ≤ 9223372036854775806) : Call E0.P fn_r02_Count [.imm (.str s)] [] (Is (.imm (.int .i64 (cntD s : Int))) []) := by
  refine F_r02_Count_of _ _ (L_r02_Count s hs _ _ 0 (Nat.le_of_eq (Nat.zero_add _).symm) (by omega) ?_)
  refine K_r02_Count_1_x0 _ _ (C_r02_Count_6_of _ _ (K_r02_Count_0_x0 _ _ ⟨?_, rfl⟩))
  simp
end Go.Proofs.Sim.Se

import Derived.Test.YtcdjheflchglaaaSeatGenP
import Derived.Test.YtcdjheflchglaaaDgL
import Derived.Laws.RangeString
import Derived.Test.YtcdjheflchglaaaTryShelf
import Derived.Test.YtcdjheflchglaaaSimPQ
namespace Go.Proofs.Sim.Se
open Go Go.Proofs Go.Proofs.Sim
set_option maxRecDepth 100000

theorem getD_lt (s : List UInt8) (n : Nat) (h : n < s.length) : s.getD n 0 = s[n] := by simp [List.getD_eq_getElem?_getD, h]
theorem cntD_step (s : List UInt8) (n : Nat) (h : n < s.length) : cntD (s.drop n) = if isDig s[n] then cntD (s.drop (n+1)) + 1 else 0 := by
  unfold cntD
  rw [List.drop_eq_getElem_cons h, List.takeWhile_cons]
  split <;> simp
theorem cntD_end (s : List UInt8) (n : Nat) (h : ¬ n < s.length) : cntD (s.drop n) = 0 := by
  rw [List.drop_eq_nil_of_le (by omega)]; rfl
theorem S_digits_digit (a0 : Int) : Call E0.P fn_digits_digit [.imm (.int .i32 a0)] [] (Is (.imm (.bool (decide (48 ≤ a0) && decide (a0 ≤ 57)))) []) := by
  refine F_digits_digit_of _ _ (Let.intro ⟨?_, rfl⟩)
  cases decide (48 ≤ a0) <;> rfl

theorem decode_rest (s : List UInt8) (n : Nat) (h : n < s.length) (hc : ¬ s[n].toNat < 128) : 128 ≤ (decodeAt s n).1 := by
  unfold decodeAt Utf8.decode
  have e : (⟨s.toArray⟩ : ByteArray).get! (n + 0) = s[n] := by
    simp [ByteArray.get!, getElem!_pos, h]
  simp only [e, hc, if_false]
  have hc' : 128 ≤ s[n].toNat := by omega
  generalize s[n].toNat = b0 at *
  repeat' split
  all_goals first | (simp [Utf8.runeError]; done) | (simp at *; omega)
theorem decode_low (s : List UInt8) (n : Nat) (h : n < s.length) (hc : s[n].toNat < 128) : decodeAt s n = (s[n].toNat, 1) := by
  unfold decodeAt
  have h' : n < (⟨s.toArray⟩ : ByteArray).size := by simpa [ByteArray.size] using h
  have e : (⟨s.toArray⟩ : ByteArray)[n] = s[n] := by show s.toArray[n] = _; simp
  rw [decode_ascii ⟨s.toArray⟩ n h' (by rw [e]; exact hc), e]
theorem digit_rune (s : List UInt8) (n : Nat) (h : n < s.length) : (decide ((48:Int) ≤ ((decodeAt s n).1 : Int)) && decide (((decodeAt s n).1 : Int) ≤ 57)) = isDig s[n] := by
  by_cases hc : s[n].toNat < 128
  · rw [decode_low s n h hc]
    rw [Bool.eq_iff_iff]
    simp only [isDig, Bool.and_eq_true, decide_eq_true_eq]
    omega
  · have := decode_rest s n h hc
    rw [Bool.eq_iff_iff]
    simp only [isDig, Bool.and_eq_true, decide_eq_true_eq]
    omega

theorem L_digits_Count (s : List UInt8) (K : Ex → St → Prop) (m : Nat) : ∀ (n : Nat), s.length + 1 ≤ n + m → n ≤ s.length →
    (n + cntD (s.drop n) = s.length → K (.exit 0) ⟨[(0, .imm (.str s))], []⟩) →
    (n + cntD (s.drop n) ≠ s.length → K .ret ⟨[(2, .imm (.int .i64 ((n + cntD (s.drop n) : Nat) : Int)))], []⟩) → L_digits_Count_2 s s n K := by
  induction m with
  | zero => intro n hm hn; omega
  | succ m ih =>
    intro n hm hn h1 h2
    refine L_digits_Count_2_of _ _ _ _ ⟨fun h => ⟨fun _ => ?_, fun hf => absurd hf (by simp)⟩, fun h => ⟨fun hf => absurd hf (by simp), fun _ => ?_⟩⟩
    · replace h := of_decide_eq_true h
      refine Call.use (S_digits_digit _) ⟨⟨rfl, rfl⟩, ?_⟩
      simp only [rB_bool, digit_rune s n h]
      have e := cntD_step s n h
      by_cases hd : isDig s[n] = true
      · rw [if_pos hd] at e
        have hw : (decodeAt s n).2 = 1 := by
          rw [decode_low s n h (by have := (isDig_iff _).1 hd; omega)]
        rw [hw]
        refine ⟨fun hf => absurd hf (by simp [hd]), fun _ => ?_⟩
        refine ih (n+1) (by omega) (by omega) ?_ ?_
        · intro hh; exact h1 (by omega)
        · intro hh
          have := h2 (by omega)
          rwa [show n + 1 + cntD (s.drop (n+1)) = n + cntD (s.drop n) by omega]
      · rw [if_neg hd] at e
        refine ⟨fun _ => ?_, fun hf => absurd hf (by simp [hd])⟩
        have := h2 (by omega)
        rw [e] at this
        exact this
    · replace h := of_decide_eq_false h
      exact h1 (by rw [cntD_end s n h]; omega)
theorem S_digits_Count (s : List UInt8) : Call E0.P fn_digits_Count [.imm (.str s)] [] (Is (.imm (.int .i64 (cntD s : Int))) []) := by
  refine F_digits_Count_of _ _ (L_digits_Count s _ _ 0 (Nat.le_of_eq (Nat.zero_add _).symm) (by omega) ?_ ?_)
  · intro h
    refine K_digits_Count_1_x1 _ _ (C_digits_Count_9_of _ _ (K_digits_Count_0_x0 _ _ ⟨?_, rfl⟩))
    rw [List.drop_zero] at h
    have h : cntD s = s.length := by omega
    rw [h]
  · intro h
    refine K_digits_Count_1_x0 _ _ ⟨?_, rfl⟩
    simp

theorem L_r02_Count (s : List UInt8) (hs : s.length ≤ 9223372036854775806) (K : Ex → St → Prop) (m : Nat) : ∀ (n : Nat), s.length + 1 ≤ n + m → n ≤ s.length →
    K (.exit 0) ⟨[(3, .imm (.int .i64 ((n + cntD (s.drop n) : Nat) : Int)))], []⟩ → L_r02_Count_2 s n K := by
  induction m with
  | zero => intro n hm hn; omega
  | succ m ih =>
    intro n hm hn hK
    refine L_r02_Count_2_of _ _ _ ?_
    simp only [Int.toNat_natCast]
    by_cases hn' : n < s.length
    · have hd : decide ((n : Int) < (s.length : Int)) = true := decide_eq_true (by omega)
      simp only [getD_lt s n hn', hd, cond_true]
      have e := cntD_step s n hn'
      refine ⟨fun _ => by omega, Let.intro ⟨fun _ => by omega, Let.intro ⟨fun h => ?_, fun h => ?_⟩⟩⟩
      · simp only [Bool.cond_false_right, Bool.and_eq_true, decide_eq_true_eq] at h
        rw [if_pos ((isDig_iff _).2 (by omega))] at e
        rw [wrap_id _ (by omega) (by omega)]
        refine ih (n+1) (by omega) (by omega) ?_
        rwa [show n + 1 + cntD (s.drop (n+1)) = n + cntD (s.drop n) by omega]
      · simp only [Bool.cond_false_right, Bool.and_eq_false_iff, decide_eq_false_iff_not] at h
        rw [if_neg (by intro hd; have := (isDig_iff _).1 hd; omega)] at e
        rw [e] at hK
        exact hK
    · have hd : decide ((n : Int) < (s.length : Int)) = false := decide_eq_false (by omega)
      simp only [hd, cond_false]
      refine ⟨fun h => absurd h (by simp), Let.intro ⟨fun h => absurd h (by simp), Let.intro ⟨fun h => absurd h (by simp), fun _ => ?_⟩⟩⟩
      rw [cntD_end s n hn'] at hK
      exact hK
theorem S_r02_Count (s : List UInt8) (hs : s.length ≤ 9223372036854775806) : Call E0.P fn_r02_Count [.imm (.str s)] [] (Is (.imm (.int .i64 (cntD s : Int))) []) := by
  refine F_r02_Count_of _ _ (L_r02_Count s hs _ _ 0 (Nat.le_of_eq (Nat.zero_add _).symm) (by omega) ?_)
  refine K_r02_Count_1_x0 _ _ (C_r02_Count_6_of _ _ (K_r02_Count_0_x0 _ _ ⟨?_, rfl⟩))
  simp
end Go.Proofs.Sim.Se

namespace Go.Proofs.Sim.Se
open Go Go.Proofs Go.Proofs.Sim
set_option maxRecDepth 100000
theorem wrap_u8 (n : Int) (h1 : 0 ≤ n) (h2 : n ≤ 255) : IntKind.u8.wrap n = n := by
  simp [IntKind.wrap, IntKind.signed, IntKind.bits]; omega
theorem wrap_i32 (n : Int) (h1 : -2147483648 ≤ n) (h2 : n ≤ 2147483647) : IntKind.i32.wrap n = n := by
  simp [IntKind.wrap, IntKind.signed, IntKind.bits]; omega
def fixK5 (K : Ex → St → Prop) (i : Nat) : Option Nat → Prop
  | some v => K (.exit 0) ⟨[(i, .imm (.int .i64 (v : Int)))], []⟩
  | none => K .ret ⟨[(2, .imm (.int .i64 0)), (3, .imm (.int .i64 3))], []⟩
theorem L_digits_Fixed_end (s : List UInt8) (acc : Int) (n : Int) (K : Ex → St → Prop) (h : K (.exit 0) ⟨[(5, .imm (.int .i64 acc))], []⟩) : L_digits_Fixed_7 acc (-1) n s K :=
  L_digits_Fixed_7_of _ _ _ _ _ ⟨fun h => absurd h (by decide), fun _ => h⟩
theorem next_digit (s : List UInt8) (hs : s.length ≤ 9223372036854775806) (hd : ∀ c ∈ s, isDig c = true) (n : Nat) (hn : n < s.length) :
    isDig s[n] = true ∧ IntKind.i64.wrap (IntKind.i64.wrap ((n : Int) + 1) - 1) = n ∧ IntKind.i64.wrap ((n : Int) + 1) = ((n + 1 : Nat) : Int) ∧ IntKind.i64.wrap (IntKind.u8.wrap ((s[n].toNat : Int) - 48)) = ((s[n].toNat - 48 : Nat) : Int) ∧ IntKind.i32.wrap (s[n].toNat : Int) = s[n].toNat ∧ s[n].toNat - 48 ≤ 9 := by
  have h := hd _ (List.getElem_mem hn)
  have h' := (isDig_iff _).1 h
  have e1 : IntKind.i64.wrap ((n : Int) + 1) = ((n + 1 : Nat) : Int) := by rw [wrap_id _ (by omega) (by omega)]; omega
  refine ⟨h, ?_, e1, ?_, ?_, by omega⟩
  · rw [e1, wrap_id _ (by omega) (by omega)]; omega
  · rw [wrap_u8 _ (by omega) (by omega), wrap_id _ (by omega) (by omega)]; omega
  · rw [wrap_i32 _ (by omega) (by omega)]
theorem L_digits_Fixed (s : List UInt8) (hs : s.length ≤ 9223372036854775806) (hd : ∀ c ∈ s, isDig c = true) (K : Ex → St → Prop) (m : Nat) : ∀ (n acc d : Nat), s.length + 1 ≤ n + m → n ≤ s.length → acc ≤ 2147483647 → d ≤ 9 →
    fixK5 K 5 (if 2147483647 < 10 * acc + d then none else fixV (10 * acc + d) (s.drop n)) → L_digits_Fixed_7 acc d n s K := by
  induction m with
  | zero => intro n acc d hm hn; omega
  | succ m ih =>
    intro n acc d hm hn ha hd9 hK
    have e0 : IntKind.i64.wrap (IntKind.i64.wrap (10 * (acc : Int)) + (d : Int)) = ((10 * acc + d : Nat) : Int) := by
      rw [wrap_id (10 * (acc : Int)) (by omega) (by omega), wrap_id _ (by omega) (by omega)]; omega
    refine L_digits_Fixed_7_of _ _ _ _ _ ⟨fun _ => ?_, fun h => absurd (of_decide_eq_false h) (by omega)⟩
    rw [e0]
    refine ⟨fun h => ?_, fun h => ?_⟩
    · have h := of_decide_eq_true h
      rw [if_pos (by omega)] at hK
      exact hK
    · have h := of_decide_eq_false h
      rw [if_neg (by omega)] at hK
      refine ⟨fun h => by have := of_decide_eq_false h; omega, ⟨fun h => ?_, fun h => ⟨rfl, Let.intro ⟨fun _ => ?_, fun h => absurd h (by decide)⟩⟩⟩⟩
      · have hn' : n < s.length := by
          simp at h; omega
        obtain ⟨h1, h2, h3, h4, h5, h6⟩ := next_digit s hs hd n hn'
        have h2' : IntKind.i64.wrap (((n + 1 : Nat) : Int) - 1) = n := by rw [← h3]; exact h2
        simp only [Int.toNat_natCast, getD_lt s n hn', h5, h3, h2', h4]
        refine Call.use (S_digits_digit _) ⟨⟨rfl, rfl⟩, Let.intro ?_⟩
        have h1' := (isDig_iff _).1 h1
        have hb : (decide ((48 : Int) ≤ (s[n].toNat : Int)) && decide ((s[n].toNat : Int) ≤ 57)) = true := by
          simp only [Bool.and_eq_true, decide_eq_true_eq]; omega
        simp only [rB_bool, hb]
        refine ⟨fun h => absurd h (by decide), fun _ => ⟨by omega, ?_⟩⟩
        refine ih (n+1) _ _ (by omega) (by omega) (by omega) (by omega) ?_
        rw [List.drop_eq_getElem_cons hn'] at hK
        exact hK
      · have hn' : ¬ n < s.length := by
          simp at h; omega
        refine L_digits_Fixed_end _ _ _ _ ?_
        rw [List.drop_eq_nil_of_le (by omega)] at hK
        exact hK
def isP (p : Int × Int) : AV := .tup [.imm (.int .i64 p.1), .imm (.int .i64 p.2)]
theorem S_digits_Fixed (s : List UInt8) (hs : s.length ≤ 9223372036854775806) : Call E0.P fn_digits_Fixed [.imm (.str s)] [] (Is (isP (fixS s)) []) := by
  refine F_digits_Fixed_of _ _ ⟨fun h => ?_, fun h => ⟨rfl, Let.intro ?_⟩⟩
  · have h0 : s ≠ [] := by intro e; subst e; simp at h
    refine Call.use (S_digits_Count _) ⟨⟨rfl, rfl⟩, ?_⟩
    rw [rI_int]
    refine Let.intro (C_digits_Fixed_1_of _ _ _ ⟨fun h2 => ?_, fun h2 => ?_⟩)
    · refine K_digits_Fixed_1_x0 _ _ _ ⟨?_, rfl⟩
      simp at h2
      rw [fixS, if_pos (Or.inr (by omega))]
      rfl
    · simp at h2
      refine K_digits_Fixed_1_x1 _ _ (C_digits_Fixed_3_of _ _ ?_)
      have hd := (cntD_all s).1 (by omega)
      have h0' : 0 < s.length := by cases s with | nil => exact absurd rfl h0 | cons a b => simp
      obtain ⟨h1, h2', h3, h4, h5, h6⟩ := next_digit s hs hd 0 h0'
      have hfx : fixS s = fixR (fixV 0 s) := by
        rw [fixS, if_neg]; rintro (h | h); exact h0 h; omega
      refine ⟨fun _ => by omega, fun _ => ?_, fun h => ?_⟩
      · simp only [getD_lt s 0 h0', h5]
        refine Call.use (S_digits_digit _) ⟨⟨rfl, rfl⟩, Let.intro ?_⟩
        have h1' := (isDig_iff _).1 h1
        have hb : (decide ((48 : Int) ≤ (s[0].toNat : Int)) && decide ((s[0].toNat : Int) ≤ 57)) = true := by
          simp only [Bool.and_eq_true, decide_eq_true_eq]; omega
        simp only [rB_bool, hb]
        refine ⟨fun h => absurd h (by decide), fun _ => ⟨?_, ?_⟩⟩
        · have : IntKind.i64.wrap (IntKind.i64.wrap ((0 : Int) + 1) - 1) = 0 := by decide
          rw [this]; omega
        · have : IntKind.i64.wrap ((0 : Int) + 1) = ((1 : Nat) : Int) := by decide
          rw [h4, this]
          refine L_digits_Fixed s hs hd _ s.length 1 0 _ (by omega) (by omega) (by omega) h6 ?_
          have e : (if 2147483647 < 10 * 0 + (s[0].toNat - 48) then none else fixV (10 * 0 + (s[0].toNat - 48)) (s.drop 1)) = fixV 0 s := by
            cases s with
            | nil => exact absurd rfl h0
            | cons a b => rfl
          rw [e]
          cases hv : fixV 0 s <;> simp only [fixK5]
          · exact K_digits_Fixed_3_x0 _ _ _ (K_digits_Fixed_0_x0 _ _ _ ⟨by rw [hfx, hv]; rfl, rfl⟩)
          · exact K_digits_Fixed_3_x1 _ _ (C_digits_Fixed_15_of _ _ (K_digits_Fixed_2_x0 _ _ _ (K_digits_Fixed_0_x0 _ _ _ ⟨by rw [hfx, hv]; rfl, rfl⟩)))
      · simp at h; exact absurd h h0
  · have h0 : s = [] := by simpa using h
    subst h0
    exact C_digits_Fixed_1_of _ _ _ ⟨fun _ => K_digits_Fixed_1_x0 _ _ _ ⟨rfl, rfl⟩, fun h => absurd h (by decide)⟩
theorem L_r02_Fixed (s : List UInt8) (hs : s.length ≤ 9223372036854775806) (hd : ∀ c ∈ s, isDig c = true) (K : Ex → St → Prop) (m : Nat) : ∀ (n acc : Nat), s.length + 1 ≤ n + m → n ≤ s.length → acc ≤ 2147483647 →
    fixK5 K 4 (fixV acc (s.drop n)) → L_r02_Fixed_6 s acc n K := by
  induction m with
  | zero => intro n acc hm hn; omega
  | succ m ih =>
    intro n acc hm hn ha hK
    refine L_r02_Fixed_6_of _ _ _ _ ⟨fun h => ?_, fun h => ?_⟩
    · have hn' : n < s.length := by have := of_decide_eq_true h; omega
      obtain ⟨h1, h2, h3, h4, h5, h6⟩ := next_digit s hs hd n hn'
      have h1' := (isDig_iff _).1 h1
      rw [List.drop_eq_getElem_cons hn'] at hK
      simp only [Int.toNat_natCast, getD_lt s n hn', h3]
      have e0 : IntKind.i64.wrap (IntKind.i64.wrap (IntKind.i64.wrap (10 * (acc : Int)) + IntKind.i64.wrap (s[n].toNat : Int)) - 48) = ((10 * acc + (s[n].toNat - 48) : Nat) : Int) := by
        rw [wrap_id (10 * (acc : Int)) (by omega) (by omega), wrap_id (s[n].toNat : Int) (by omega) (by omega), wrap_id (10 * (acc : Int) + (s[n].toNat : Int)) (by omega) (by omega), wrap_id _ (by omega) (by omega)]; omega
      rw [e0]
      unfold fixV at hK
      refine ⟨by omega, fun h => ?_, fun h => ?_⟩
      · have h := of_decide_eq_true h
        rw [if_pos (by omega)] at hK
        exact hK
      · have h := of_decide_eq_false h
        rw [if_neg (by omega)] at hK
        exact ih (n+1) _ (by omega) (by omega) (by omega) hK
    · have hn' : ¬ n < s.length := by have := of_decide_eq_false h; omega
      rw [List.drop_eq_nil_of_le (by omega)] at hK
      exact hK
theorem S_r02_Fixed (s : List UInt8) (hs : s.length ≤ 9223372036854775806) : Call E0.P fn_r02_Fixed [.imm (.str s)] [] (Is (isP (fixS s)) []) := by
  refine F_r02_Fixed_of _ _ ⟨fun h => ?_, fun h => ⟨rfl, Let.intro ?_⟩⟩
  · have h0 : s ≠ [] := by intro e; subst e; simp at h
    refine Call.use (S_r02_Count _ hs) ⟨⟨rfl, rfl⟩, ?_⟩
    rw [rI_int]
    refine Let.intro (C_r02_Fixed_1_of _ _ _ ⟨fun h2 => ?_, fun h2 => ?_⟩)
    · refine K_r02_Fixed_1_x0 _ _ _ ⟨?_, rfl⟩
      simp at h2
      rw [fixS, if_pos (Or.inr (by omega))]
      rfl
    · simp at h2
      refine K_r02_Fixed_1_x1 _ _ (C_r02_Fixed_3_of _ _ ?_)
      have hd := (cntD_all s).1 (by omega)
      have hfx : fixS s = fixR (fixV 0 s) := by
        rw [fixS, if_neg]; rintro (h | h); exact h0 h; omega
      refine L_r02_Fixed s hs hd _ (s.length + 1) 0 0 (by omega) (by omega) (by omega) ?_
      rw [List.drop_zero]
      cases hv : fixV 0 s <;> simp only [fixK5]
      · exact K_r02_Fixed_3_x0 _ _ _ (K_r02_Fixed_0_x0 _ _ _ ⟨by rw [hfx, hv]; rfl, rfl⟩)
      · exact K_r02_Fixed_3_x1 _ _ (C_r02_Fixed_14_of _ _ (K_r02_Fixed_2_x0 _ _ _ (K_r02_Fixed_0_x0 _ _ _ ⟨by rw [hfx, hv]; rfl, rfl⟩)))
  · have h0 : s = [] := by simpa using h
    subst h0
    exact C_r02_Fixed_1_of _ _ _ ⟨fun _ => K_r02_Fixed_1_x0 _ _ _ ⟨rfl, rfl⟩, fun h => absurd h (by decide)⟩
end Go.Proofs.Sim.Se

namespace Go.Proofs.Sim.Se
open Go Go.Proofs Go.Proofs.Sim Go.RowKit
set_option maxRecDepth 100000
theorem repI_int {m : Nat → Nat → Option Value} {v : Value} {k : IntKind} {n : Int} (h : RepI m v (.int k n)) : v = .int k n := by
  cases h; rfl
theorem S_strings_Contains (s : List UInt8) (c : UInt8) : Call E0.P fn_strings_Contains [.imm (.str s), .imm (.str [c])] [] (Is (.imm (.bool (decide (0 ≤ Lib.indexByte s c)))) []) := by
  refine call_of_contract Try.func138 (by kernel_rfl) (by kernel_rfl) [.str s, .str [c]] _ fun g w vs hv hs => ?_
  obtain ⟨v, u, rfl, hr, hu⟩ := reps2 hv
  obtain rfl := repI_str hr
  obtain rfl := repI_str hu
  refine (Try.strings_Contains_one ⟨s.toArray⟩ c w).mono ?_
  rintro e w' ⟨rfl, rfl⟩
  exact ⟨_, .imm (.bool (decide (0 ≤ Lib.indexByte s c))), rfl, Below.refl _ _, .imm _ _ (.bool _), rfl, rfl⟩

end Go.Proofs.Sim.Se

namespace Go.Proofs.Sim.Se
open Go Go.Proofs Go.Proofs.Sim Go.RowKit
set_option maxRecDepth 100000
def isBS (b : Bool) (s : List UInt8) : AV := .tup [.imm (.bool b), .imm (.str s)]
theorem signed_gen (signs : List UInt8) (c : UInt8) (r : List UInt8) : Call E0.P fn_digits_signed [.imm (.str (c :: r)), .imm (.str signs)] []
    (Is (if 0 ≤ Lib.indexByte signs c then isBS (decide (c.toNat = 45)) r else isBS false (c :: r)) []) := by
  refine F_digits_signed_of _ _ _ ⟨fun _ => by simp <;> omega, Let.intro ⟨fun _ => ?_, fun h => absurd h (by simp)⟩⟩
  rw [show List.take 1 (c :: r) = [c] from rfl]
  refine Call.use (S_strings_Contains _ _) ⟨⟨rfl, rfl⟩, ?_⟩
  rw [rB_bool]
  refine Let.intro (C_digits_signed_1_of _ _ _ ⟨fun h => ?_, fun h => ?_⟩)
  · refine K_digits_signed_1_x0 _ _ _ ⟨?_, rfl⟩
    rw [if_neg (by simpa using h)]; rfl
  · refine K_digits_signed_1_x1 _ _ (C_digits_signed_3_of _ _ ⟨by simp <;> omega, ⟨by simp <;> omega, Let.intro ?_⟩⟩)
    refine K_digits_signed_0_x0 _ _ _ ⟨?_, rfl⟩
    rw [if_pos (by simpa using h)]
    simp only [isBS, List.drop_one, List.tail_cons, List.getD_cons_zero]
    congr 3
    rw [Bool.eq_iff_iff]; simp; omega
theorem signed_nil (signs : List UInt8) : Call E0.P fn_digits_signed [.imm (.str []), .imm (.str signs)] [] (Is (isBS false []) []) := by
  refine F_digits_signed_of _ _ _ ⟨fun h => absurd h (by simp), Let.intro ⟨fun h => absurd h (by simp), fun _ => ⟨rfl, Let.intro (C_digits_signed_1_of _ _ _ ⟨fun h => ?_, fun h => absurd h (by simp)⟩)⟩⟩⟩
  exact K_digits_signed_1_x0 _ _ _ ⟨rfl, rfl⟩
theorem index_m (c : UInt8) : 0 ≤ Lib.indexByte [45] c ↔ c.toNat = 45 := by
  have e : ((45 : UInt8) == c) = decide (c.toNat = 45) := by
    rw [Bool.eq_iff_iff]; simp; constructor
    · rintro rfl; rfl
    · intro h; exact (UInt8.toNat_inj.1 h).symm
  simp only [Lib.indexByte, e, decide_eq_true_eq]
  split
  · simp; assumption
  · simp; assumption
theorem index_pm (c : UInt8) : 0 ≤ Lib.indexByte [43, 45] c ↔ c.toNat = 43 ∨ c.toNat = 45 := by
  have e : ((43 : UInt8) == c) = decide (c.toNat = 43) := by
    rw [Bool.eq_iff_iff]; simp; constructor
    · rintro rfl; rfl
    · intro h; exact (UInt8.toNat_inj.1 h).symm
  have h1 := index_m c
  have h2 := Lib.indexByte_ge [45] c
  rw [Lib.indexByte, e]
  simp only [decide_eq_true_eq]
  split
  · simp; left; assumption
  · split
    · rename_i h3 h4
      have h4 : Lib.indexByte [45] c = -1 := by simpa using h4
      omega
    · rename_i h3 h4
      have h4 : Lib.indexByte [45] c ≠ -1 := by simpa using h4
      omega
theorem S_signed_pm (s : List UInt8) : Call E0.P fn_digits_signed [.imm (.str s), .imm (.str [43, 45])] [] (Is (isBS (isM s) (dropPM s)) []) := by
  cases s with
  | nil => exact signed_nil _
  | cons c r =>
    have := signed_gen [43, 45] c r
    simp only [index_pm] at this
    by_cases h : c.toNat = 43 ∨ c.toNat = 45
    · rw [if_pos h] at this
      have e : isM (c :: r) = decide (c.toNat = 45) := rfl
      rw [e]; simpa [dropPM, h] using this
    · rw [if_neg h] at this
      have e : isM (c :: r) = false := by simp [isM]; omega
      rw [e]; simpa [dropPM, h] using this
theorem neg_fix (s : List UInt8) : IntKind.i64.wrap (0 - (fixS s).1) = -(fixS s).1 := by
  have := fixS_le s
  rw [wrap_id _ (by omega) (by omega)]; omega
theorem dropPM_le (s : List UInt8) : (dropPM s).length ≤ s.length := by
  unfold dropPM; split
  · split <;> simp
  · simp
theorem S_digits_Loose (s : List UInt8) (hs : s.length ≤ 9223372036854775806) : Call E0.P fn_digits_Loose [.imm (.str s)] [] (Is (isP (looseS s)) []) := by
  refine F_digits_Loose_of _ _ (Call.use (S_signed_pm s) ⟨⟨rfl, rfl⟩, ?_⟩)
  refine Call.use (S_digits_Fixed (dropPM s) (by have := dropPM_le s; omega)) ⟨⟨rfl, rfl⟩, ?_⟩
  show Br (isM s) (C_digits_Loose_4 (IntKind.i64.wrap (0 - (fixS (dropPM s)).1)) _ _) _
  rw [neg_fix]
  refine ⟨fun h => ?_, fun h => ?_⟩ <;> refine C_digits_Loose_4_of _ _ _ (K_digits_Loose_0_x0 _ _ _ ⟨?_, rfl⟩) <;> rw [looseS, h] <;> rfl
theorem S_r02_Loose (s : List UInt8) (hs : s.length ≤ 9223372036854775806) : Call E0.P fn_r02_Loose [.imm (.str s)] [] (Is (isP (looseS s)) []) := by
  have main : ∀ Q, Call E0.P fn_r02_Fixed [.imm (.str (dropPM s))] [] (Is (isP (fixS (dropPM s))) []) → Q (isP (looseS s)) [] → C_r02_Loose_3 (dropPM s) (isM s) (K_r02_Loose_0 Q) := by
    intro Q hc hq
    refine C_r02_Loose_3_of _ _ _ (Call.use hc ⟨⟨rfl, rfl⟩, ?_⟩)
    show Br (isM s) (C_r02_Loose_6 (IntKind.i64.wrap (0 - (fixS (dropPM s)).1)) _ _) _
    rw [neg_fix]
    refine ⟨fun h => ?_, fun h => ?_⟩ <;> refine C_r02_Loose_6_of _ _ _ (K_r02_Loose_1_x0 _ _ _ (K_r02_Loose_0_x0 _ _ _ ?_)) <;> rw [isP, looseS, h] at hq <;> exact hq
  have hf := S_r02_Fixed (dropPM s) (by have := dropPM_le s; omega)
  refine F_r02_Loose_of _ _ ⟨fun h => ?_, Let.intro ⟨fun h => ?_, ⟨fun h => ?_, fun h => ⟨rfl, Let.intro ⟨fun h => absurd h (by simp), fun _ => ?_⟩⟩⟩⟩⟩
  · cases s with
    | nil => simp at h
    | cons c r => simp
  · cases s with
    | nil => simp at h
    | cons c r => simp
  · cases s with
    | nil => simp at h
    | cons c r =>
      refine ⟨fun _ => by simp <;> omega, Let.intro (Let.intro ⟨fun h => ?_, fun h => ?_⟩)⟩
      · refine ⟨by simp <;> omega, Let.intro ?_⟩
        have hc : c.toNat = 43 ∨ c.toNat = 45 := by simp at h; omega
        have e1 : dropPM (c :: r) = r := by simp [dropPM, hc]
        have e2 : isM (c :: r) = (bif !(c :: r) == [] then decide ((((c :: r).getD 0 0).toNat : Int) = 45) else false) := by
          rw [Bool.eq_iff_iff]; simp [isM]; omega
        have := main (Is (isP (looseS _)) []) hf ⟨rfl, rfl⟩
        rw [e1, e2] at this
        exact this
      · have hc : ¬ (c.toNat = 43 ∨ c.toNat = 45) := by simp at h; omega
        have e1 : dropPM (c :: r) = c :: r := by simp [dropPM, hc]
        have e2 : isM (c :: r) = (bif !(c :: r) == [] then decide ((((c :: r).getD 0 0).toNat : Int) = 45) else false) := by
          rw [Bool.eq_iff_iff]; simp [isM]; omega
        have := main (Is (isP (looseS _)) []) hf ⟨rfl, rfl⟩
        rw [e1, e2] at this
        exact this
  · cases s with
    | nil => exact main (Is (isP (looseS _)) []) hf ⟨rfl, rfl⟩
    | cons c r => simp at h
end Go.Proofs.Sim.Se

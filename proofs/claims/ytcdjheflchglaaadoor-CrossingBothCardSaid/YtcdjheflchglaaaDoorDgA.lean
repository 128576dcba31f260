import Derived.Test.YtcdjheflchglaaaDoorSeatGenS
import Derived.Test.YtcdjheflchglaaaDoorDgLM
import Derived.Laws.RangeString
import Derived.Test.YtcdjheflchglaaaDoorTrydShelf
import Derived.Test.YtcdjheflchglaaaDoorSimPQ
import Derived.Lib.AppendIntMem
import Derived.Lib.AtoiErrMem
namespace Go.Proofs.Sim.Se
open Go Go.Proofs Go.Proofs.Sim
set_option maxRecDepth 100000
set_option linter.unusedVariables false
set_option linter.unusedSimpArgs false

theorem getD_lt (s : List UInt8) (n : Nat) (h : n < s.length) : s.getD n 0 = s[n] := by simp [List.getD_eq_getElem?_getD, h]
theorem cntD_step (s : List UInt8) (n : Nat) (h : n < s.length) : cntD (s.drop n) = if isDig s[n] then cntD (s.drop (n+1)) + 1 else 0 := by
  unfold cntD
  rw [List.drop_eq_getElem_cons h, List.takeWhile_cons]
  split <;> simp
theorem cntD_end (s : List UInt8) (n : Nat) (h : ¬ n < s.length) : cntD (s.drop n) = 0 := by
  rw [List.drop_eq_nil_of_le (by omega)]; rfl
theorem S_digits_digit (a0 : Int) : Call E0.P fn_digits_digit [.imm (.int .i32 a0)] [] (Is (.imm (.bool (decide (48 ≤ a0) && decide (a0 ≤ 57)))) []) := by
  refine F_digits_digit_of _ _ (Let.intro ⟨?_, rfl⟩)
  cases decide (48 ≤ a0) <;> rfl

theorem decode_rest (s : List UInt8) (n : Nat) (h : n < s.length) (hc : ¬ s[n].toNat < 128) : 128 ≤ (decodeAt s n).1 := by
  unfold decodeAt Utf8.decode
  have e : (⟨s.toArray⟩ : ByteArray).get! (n + 0) = s[n] := by
    simp [ByteArray.get!, getElem!_pos, h]
  simp only [e, hc, if_false]
  have hc' : 128 ≤ s[n].toNat := by omega
  generalize s[n].toNat = b0 at *
  repeat' split
  all_goals first | (simp [Utf8.runeError]; done) | (simp at *; omega)
theorem decode_low (s : List UInt8) (n : Nat) (h : n < s.length) (hc : s[n].toNat < 128) : decodeAt s n = (s[n].toNat, 1) := by
  unfold decodeAt
  have h' : n < (⟨s.toArray⟩ : ByteArray).size := by simpa [ByteArray.size] using h
  have e : (⟨s.toArray⟩ : ByteArray)[n] = s[n] := by show s.toArray[n] = _; simp
  rw [decode_ascii ⟨s.toArray⟩ n h' (by rw [e]; exact hc), e]
theorem digit_rune (s : List UInt8) (n : Nat) (h : n < s.length) : (decide ((48:Int) ≤ ((decodeAt s n).1 : Int)) && decide (((decodeAt s n).1 : Int) ≤ 57)) = isDig s[n] := by
  by_cases hc : s[n].toNat < 128
  · rw [decode_low s n h hc]
    rw [Bool.eq_iff_iff]
    simp only [isDig, Bool.and_eq_true, decide_eq_true_eq]
    omega
  · have := decode_rest s n h hc
    rw [Bool.eq_iff_iff]
    simp only [isDig, Bool.and_eq_true, decide_eq_true_eq]
    omega

theorem L_digits_Count (s : List UInt8) (K : Ex → St → Prop) (m : Nat) : ∀ (n : Nat), s.length + 1 ≤ n + m → n ≤ s.length →
    (n + cntD (s.drop n) = s.length → K (.exit 0) ⟨[(0, .imm (.str s))], []⟩) →
    (n + cntD (s.drop n) ≠ s.length → K .ret ⟨[(2, .imm (.int .i64 ((n + cntD (s.drop n) : Nat) : Int)))], []⟩) → L_digits_Count_2 s s n K := by
  induction m with
  | zero => intro n hm hn; omega
  | succ m ih =>
    intro n hm hn h1 h2
    refine L_digits_Count_2_of _ _ _ _ ⟨fun h => ⟨fun _ => ?_, fun hf => absurd hf (by simp)⟩, fun h => ⟨fun hf => absurd hf (by simp), fun _ => ?_⟩⟩
    · replace h := of_decide_eq_true h
      refine Call.use (S_digits_digit _) ⟨⟨rfl, rfl⟩, ?_⟩
      simp only [rB_bool, digit_rune s n h]
      have e := cntD_step s n h
      by_cases hd : isDig s[n] = true
      · rw [if_pos hd] at e
        have hw : (decodeAt s n).2 = 1 := by
          rw [decode_low s n h (by have := (isDig_iff _).1 hd; omega)]
        rw [hw]
        refine ⟨fun hf => absurd hf (by simp [hd]), fun _ => ?_⟩
        refine ih (n+1) (by omega) (by omega) ?_ ?_
        · intro hh; exact h1 (by omega)
        · intro hh
          have := h2 (by omega)
          rwa [show n + 1 + cntD (s.drop (n+1)) = n + cntD (s.drop n) by omega]
      · rw [if_neg hd] at e
        refine ⟨fun _ => ?_, fun hf => absurd hf (by simp [hd])⟩
        have := h2 (by omega)
        rw [e] at this
        exact this
    · replace h := of_decide_eq_false h
      exact h1 (by rw [cntD_end s n h]; omega)
theorem S_digits_Count (s : List UInt8) : Call E0.P fn_digits_Count [.imm (.str s)] [] (Is (.imm (.int .i64 (cntD s : Int))) []) := by
  refine F_digits_Count_of _ _ (L_digits_Count s _ _ 0 (Nat.le_of_eq (Nat.zero_add _).symm) (by omega) ?_ ?_)
  · intro h
    refine K_digits_Count_1_x1 _ _ (C_digits_Count_9_of _ _ (K_digits_Count_0_x0 _ _ ⟨?_, rfl⟩))
    rw [List.drop_zero] at h
    have h : cntD s = s.length := by omega
    rw [h]
  · intro h
    refine K_digits_Count_1_x0 _ _ ⟨?_, rfl⟩
    simp

end Go.Proofs.Sim.Se

namespace Go.Proofs.Sim.Se
open Go Go.Proofs Go.Proofs.Sim
set_option maxRecDepth 100000
set_option linter.unusedVariables false
set_option linter.unusedSimpArgs false
theorem wrap_u8 (n : Int) (h1 : 0 ≤ n) (h2 : n ≤ 255) : IntKind.u8.wrap n = n := by
  simp [IntKind.wrap, IntKind.signed, IntKind.bits]; omega
theorem wrap_i32 (n : Int) (h1 : -2147483648 ≤ n) (h2 : n ≤ 2147483647) : IntKind.i32.wrap n = n := by
  simp [IntKind.wrap, IntKind.signed, IntKind.bits]; omega
def fixK5 (K : Ex → St → Prop) (i : Nat) : Option Nat → Prop
  | some v => K (.exit 0) ⟨[(i, .imm (.int .i64 (v : Int)))], []⟩
  | none => K .ret ⟨[(2, .imm (.int .i64 0)), (3, .imm (.int .i64 3))], []⟩
theorem L_digits_Fixed_end (s : List UInt8) (acc : Int) (n : Int) (K : Ex → St → Prop) (h : K (.exit 0) ⟨[(5, .imm (.int .i64 acc))], []⟩) : L_digits_Fixed_7 acc (-1) n s K :=
  L_digits_Fixed_7_of _ _ _ _ _ ⟨fun h => absurd h (by decide), fun _ => h⟩
theorem next_digit (s : List UInt8) (hs : s.length ≤ 9223372036854775806) (hd : ∀ c ∈ s, isDig c = true) (n : Nat) (hn : n < s.length) :
    isDig s[n] = true ∧ IntKind.i64.wrap (IntKind.i64.wrap ((n : Int) + 1) - 1) = n ∧ IntKind.i64.wrap ((n : Int) + 1) = ((n + 1 : Nat) : Int) ∧ IntKind.i64.wrap (IntKind.u8.wrap ((s[n].toNat : Int) - 48)) = ((s[n].toNat - 48 : Nat) : Int) ∧ IntKind.i32.wrap (s[n].toNat : Int) = s[n].toNat ∧ s[n].toNat - 48 ≤ 9 := by
  have h := hd _ (List.getElem_mem hn)
  have h' := (isDig_iff _).1 h
  have e1 : IntKind.i64.wrap ((n : Int) + 1) = ((n + 1 : Nat) : Int) := by rw [wrap_id _ (by omega) (by omega)]; omega
  refine ⟨h, ?_, e1, ?_, ?_, by omega⟩
  · rw [e1, wrap_id _ (by omega) (by omega)]; omega
  · rw [wrap_u8 _ (by omega) (by omega), wrap_id _ (by omega) (by omega)]; omega
  · rw [wrap_i32 _ (by omega) (by omega)]
theorem L_digits_Fixed (s : List UInt8) (hs : s.length ≤ 9223372036854775806) (hd : ∀ c ∈ s, isDig c = true) (K : Ex → St → Prop) (m : Nat) : ∀ (n acc d : Nat), s.length + 1 ≤ n + m → n ≤ s.length → acc ≤ 2147483647 → d ≤ 9 →
    fixK5 K 5 (if 2147483647 < 10 * acc + d then none else fixV (10 * acc + d) (s.drop n)) → L_digits_Fixed_7 acc d n s K := by
  induction m with
  | zero => intro n acc d hm hn; omega
  | succ m ih =>
    intro n acc d hm hn ha hd9 hK
    have e0 : IntKind.i64.wrap (IntKind.i64.wrap (10 * (acc : Int)) + (d : Int)) = ((10 * acc + d : Nat) : Int) := by
      rw [wrap_id (10 * (acc : Int)) (by omega) (by omega), wrap_id _ (by omega) (by omega)]; omega
    refine L_digits_Fixed_7_of _ _ _ _ _ ⟨fun _ => ?_, fun h => absurd (of_decide_eq_false h) (by omega)⟩
    rw [e0]
    refine ⟨fun h => ?_, fun h => ?_⟩
    · have h := of_decide_eq_true h
      rw [if_pos (by omega)] at hK
      exact hK
    · have h := of_decide_eq_false h
      rw [if_neg (by omega)] at hK
      refine ⟨fun h => by have := of_decide_eq_false h; omega, ⟨fun h => ?_, fun h => ⟨rfl, Let.intro ⟨fun _ => ?_, fun h => absurd h (by decide)⟩⟩⟩⟩
      · have hn' : n < s.length := by
          simp at h; omega
        obtain ⟨h1, h2, h3, h4, h5, h6⟩ := next_digit s hs hd n hn'
        have h2' : IntKind.i64.wrap (((n + 1 : Nat) : Int) - 1) = n := by rw [← h3]; exact h2
        simp only [Int.toNat_natCast, getD_lt s n hn', h5, h3, h2', h4]
        refine Call.use (S_digits_digit _) ⟨⟨rfl, rfl⟩, Let.intro ?_⟩
        have h1' := (isDig_iff _).1 h1
        have hb : (decide ((48 : Int) ≤ (s[n].toNat : Int)) && decide ((s[n].toNat : Int) ≤ 57)) = true := by
          simp only [Bool.and_eq_true, decide_eq_true_eq]; omega
        simp only [rB_bool, hb]
        refine ⟨fun h => absurd h (by decide), fun _ => ⟨by omega, ?_⟩⟩
        refine ih (n+1) _ _ (by omega) (by omega) (by omega) (by omega) ?_
        rw [List.drop_eq_getElem_cons hn'] at hK
        exact hK
      · have hn' : ¬ n < s.length := by
          simp at h; omega
        refine L_digits_Fixed_end _ _ _ _ ?_
        rw [List.drop_eq_nil_of_le (by omega)] at hK
        exact hK
def isP (p : Int × Int) : AV := .tup [.imm (.int .i64 p.1), .imm (.int .i64 p.2)]
theorem S_digits_Fixed (s : List UInt8) (hs : s.length ≤ 9223372036854775806) : Call E0.P fn_digits_Fixed [.imm (.str s)] [] (Is (isP (fixS s)) []) := by
  refine F_digits_Fixed_of _ _ ⟨fun h => ?_, fun h => ⟨rfl, Let.intro ?_⟩⟩
  · have h0 : s ≠ [] := by intro e; subst e; simp at h
    refine Call.use (S_digits_Count _) ⟨⟨rfl, rfl⟩, ?_⟩
    rw [rI_int]
    refine Let.intro (C_digits_Fixed_1_of _ _ _ ⟨fun h2 => ?_, fun h2 => ?_⟩)
    · refine K_digits_Fixed_1_x0 _ _ _ ⟨?_, rfl⟩
      simp at h2
      rw [fixS, if_pos (Or.inr (by omega))]
      rfl
    · simp at h2
      refine K_digits_Fixed_1_x1 _ _ (C_digits_Fixed_3_of _ _ ?_)
      have hd := (cntD_all s).1 (by omega)
      have h0' : 0 < s.length := by cases s with | nil => exact absurd rfl h0 | cons a b => simp
      obtain ⟨h1, h2', h3, h4, h5, h6⟩ := next_digit s hs hd 0 h0'
      have hfx : fixS s = fixR (fixV 0 s) := by
        rw [fixS, if_neg]; rintro (h | h); exact h0 h; omega
      refine ⟨fun _ => by omega, fun _ => ?_, fun h => ?_⟩
      · simp only [getD_lt s 0 h0', h5]
        refine Call.use (S_digits_digit _) ⟨⟨rfl, rfl⟩, Let.intro ?_⟩
        have h1' := (isDig_iff _).1 h1
        have hb : (decide ((48 : Int) ≤ (s[0].toNat : Int)) && decide ((s[0].toNat : Int) ≤ 57)) = true := by
          simp only [Bool.and_eq_true, decide_eq_true_eq]; omega
        simp only [rB_bool, hb]
        refine ⟨fun h => absurd h (by decide), fun _ => ⟨?_, ?_⟩⟩
        · have : IntKind.i64.wrap (IntKind.i64.wrap ((0 : Int) + 1) - 1) = 0 := by decide
          rw [this]; omega
        · have : IntKind.i64.wrap ((0 : Int) + 1) = ((1 : Nat) : Int) := by decide
          rw [h4, this]
          refine L_digits_Fixed s hs hd _ s.length 1 0 _ (by omega) (by omega) (by omega) h6 ?_
          have e : (if 2147483647 < 10 * 0 + (s[0].toNat - 48) then none else fixV (10 * 0 + (s[0].toNat - 48)) (s.drop 1)) = fixV 0 s := by
            cases s with
            | nil => exact absurd rfl h0
            | cons a b => rfl
          rw [e]
          cases hv : fixV 0 s <;> simp only [fixK5]
          · exact K_digits_Fixed_3_x0 _ _ _ (K_digits_Fixed_0_x0 _ _ _ ⟨by rw [hfx, hv]; rfl, rfl⟩)
          · exact K_digits_Fixed_3_x1 _ _ (C_digits_Fixed_15_of _ _ (K_digits_Fixed_2_x0 _ _ _ (K_digits_Fixed_0_x0 _ _ _ ⟨by rw [hfx, hv]; rfl, rfl⟩)))
      · simp at h; exact absurd h h0
  · have h0 : s = [] := by simpa using h
    subst h0
    exact C_digits_Fixed_1_of _ _ _ ⟨fun _ => K_digits_Fixed_1_x0 _ _ _ ⟨rfl, rfl⟩, fun h => absurd h (by decide)⟩
end Go.Proofs.Sim.Se

namespace Go.Proofs.Sim.Se
open Go Go.Proofs Go.Proofs.Sim Go.RowKit
set_option maxRecDepth 100000
set_option linter.unusedVariables false
set_option linter.unusedSimpArgs false
theorem repI_int {m : Nat → Nat → Option Value} {v : Value} {k : IntKind} {n : Int} (h : RepI m v (.int k n)) : v = .int k n := by
  cases h; rfl
theorem tab_of {g : G} {w : World} (hs : Sat g [] w) : Lib.TabIs Tryd.prog w "internal/strconv.uint64pow10" .u64 Lib.pow10Tab := by
  obtain ⟨T, fz, h⟩ := g.tab.vals 1 _ rfl
  have h' := hs.old _ _ h
  have hg : Tryd.prog.globalNamed "internal/strconv.uint64pow10" = some 1 := by kernel_rfl
  unfold Lib.TabIs World.var?
  rw [hg]
  simp only [Option.bind_some, h']

theorem S_strconv_Itoa (n : Int) (h0 : -9223372036854775808 ≤ n) (h1 : n ≤ 9223372036854775807) : Call E0.P fn_strconv_Itoa [.imm (.int .i64 n)] [] (Is (.imm (.str (Lib.itoa n))) []) := by
  refine call_of_contract Tryd.func102 (by kernel_rfl) (by kernel_rfl) [.int .i64 n] _ fun g w vs hv hs => ?_
  obtain ⟨v, rfl, hr⟩ := reps1 hv
  obtain rfl := repI_int hr
  refine (Tryd.strconv_Itoa n h0 h1 w (tab_of hs)).mono ?_
  rintro e w' ⟨rfl, k, os, rfl⟩
  exact ⟨_, .imm (.str (Lib.itoa n)), rfl, Lib.below_grow _ w (Nat.le_refl _) k os, .imm _ _ (.str _ _ (by simp)), rfl, rfl⟩

theorem S_strings_Repeat (s : List UInt8) (c : Nat) (hlen : s.length * c ≤ 140737488355328) (hc : c ≤ 9223372036854775807) : Call E0.P fn_strings_Repeat [.imm (.str s), .imm (.int .i64 c)] [] (Is (.imm (.str (Lib.repeatL s c))) []) := by
  refine call_of_contract Tryd.func104 (by kernel_rfl) (by kernel_rfl) [.str s, .int .i64 c] _ fun g w vs hv hs => ?_
  obtain ⟨v, u, rfl, hr, hu⟩ := reps2 hv
  obtain rfl := repI_str hr
  obtain rfl := repI_int hu
  refine (Tryd.strings_Repeat ⟨s.toArray⟩ c w hc (by simpa [ByteArray.size] using hlen)).mono ?_
  rintro e w' ⟨rfl, hb⟩
  exact ⟨_, .imm (.str (Lib.repeatL s c)), rfl, hb, .imm _ _ (.str _ _ (by simp)), rfl, rfl⟩

end Go.Proofs.Sim.Se

namespace Go.Proofs.Sim.Se
open Go Go.Proofs Go.Proofs.Sim Go.RowKit
set_option maxRecDepth 100000
set_option linter.unusedVariables false
set_option linter.unusedSimpArgs false
def isSP (s : List UInt8) (n : Int) : AV := .tup [.imm (.str s), .imm (.int .i64 n)]
theorem S_digits_Put (n : Int) (h0 : -9223372036854775808 ≤ n) (h1 : n ≤ 9223372036854775807) : Call E0.P fn_digits_Put [.imm (.int .i64 n)] [] (Is (.imm (.str (Lib.itoa n))) []) :=
  F_digits_Put_of _ _ (Call.use (S_strconv_Itoa n h0 h1) ⟨⟨rfl, rfl⟩, ⟨rfl, rfl⟩⟩)
end Go.Proofs.Sim.Se

namespace Go.Proofs.Sim.Se
open Go Go.Proofs Go.Proofs.Sim Go.RowKit
set_option maxRecDepth 100000
set_option linter.unusedVariables false
set_option linter.unusedSimpArgs false
theorem orB (p q : Prop) {i : Decidable p} {j : Decidable q} : ((bif decide p then true else decide q) = true ↔ (p ∨ q)) := by
  by_cases p <;> by_cases q <;> simp_all
theorem orF (p q : Prop) {i : Decidable p} {j : Decidable q} : ((bif decide p then true else decide q) = false ↔ ¬ (p ∨ q)) := by
  by_cases p <;> by_cases q <;> simp_all
theorem orB' (b : Bool) (q : Prop) {j : Decidable q} : ((bif b then true else decide q) = true ↔ (b = true ∨ q)) := by
  cases b <;> simp
theorem beqf {b : Bool} (h : (b == false) = false) : b = true := by cases b <;> simp_all
theorem S_digits_Pad (n w : Int) (h0 : -9223372036854775808 ≤ n) (h1 : n ≤ 9223372036854775807) : Call E0.P fn_digits_Pad [.imm (.int .i64 n), .imm (.int .i64 w)] [] (Is (isSP (padS n w).1 (padS n w).2) []) := by
  refine F_digits_Pad_of _ _ _ (Let.intro ⟨fun h => ?_, fun h => ?_⟩)
  · have h := (orB _ _).1 h
    rw [padS, if_pos h]
    exact ⟨rfl, rfl⟩
  · have h := (orF _ _).1 h
    refine Call.use (S_digits_Put n h0 h1) ⟨⟨rfl, rfl⟩, ?_⟩
    rw [rS_str]
    have hl := itoa_len n h0 h1
    refine Let.intro ⟨fun h2 => ?_, fun h2 => ?_⟩
    · have h2 := (orB _ _).1 h2
      rw [padS, if_neg h, if_pos h2]
      exact ⟨rfl, rfl⟩
    · have h2 := (orF _ _).1 h2
      have e : IntKind.i64.wrap (w - ((Lib.itoa n).length : Int)) = ((w.toNat - (Lib.itoa n).length : Nat) : Int) := by
        rw [wrap_id _ (by omega) (by omega)]; omega
      rw [e]
      refine Call.use (S_strings_Repeat [48] _ (by simp; omega) (by omega)) ⟨⟨rfl, rfl⟩, ?_⟩
      rw [rS_str, repeat_one]
      refine ⟨by simp; omega, ?_⟩
      rw [padS, if_neg h, if_neg h2]
      exact ⟨rfl, rfl⟩
end Go.Proofs.Sim.Se

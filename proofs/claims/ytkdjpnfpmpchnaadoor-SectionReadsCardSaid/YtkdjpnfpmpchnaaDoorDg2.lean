import Derived.Test.YtkdjpnfpmpchnaaDoorDg1
namespace Go.Proofs.Sim.Se
open Go Go.Proofs Go.Proofs.Sim
set_option maxRecDepth 100000
set_option linter.unusedVariables false
set_option linter.unusedSimpArgs false
theorem wrap_u8 (n : Int) (h1 : 0 ≤ n) (h2 : n ≤ 255) : IntKind.u8.wrap n = n := by
  simp [IntKind.wrap, IntKind.signed, IntKind.bits]; omega
theorem wrap_i32 (n : Int) (h1 : -2147483648 ≤ n) (h2 : n ≤ 2147483647) : IntKind.i32.wrap n = n := by
  simp [IntKind.wrap, IntKind.signed, IntKind.bits]; omega
theorem dT {p : Prop} {i : Decidable p} : (@decide p i = true) ↔ p := ⟨of_decide_eq_true, decide_eq_true⟩
theorem dF {p : Prop} {i : Decidable p} : (@decide p i = false) ↔ ¬ p := ⟨of_decide_eq_false, decide_eq_false⟩
def fixK5 (K : Ex → St → Prop) (i : Nat) : Option Nat → Prop
  | some v => K (.exit 0) ⟨[(i, .imm (.int .i64 (v : Int)))], []⟩
  | none => K .ret ⟨[(2, .imm (.int .i64 0)), (3, .imm (.int .i64 3))], []⟩
theorem L_digits_Fixed_end (s : List UInt8) (acc : Int) (n : Int) (K : Ex → St → Prop) (h : K (.exit 0) ⟨[(5, .imm (.int .i64 acc))], []⟩) : L_digits_Fixed_7 acc (-1) n s K :=
  L_digits_Fixed_7_of _ _ _ _ _ ⟨fun h => absurd h (by decide), fun _ => h⟩
theorem next_digit (s : List UInt8) (hs : s.length ≤ 9223372036854775806) (hd : ∀ c ∈ s, isDig c = true) (n : Nat) (hn : n < s.length) :
    isDig s[n] = true ∧ IntKind.i64.wrap (IntKind.i64.wrap ((n : Int) + 1) - 1) = n ∧ IntKind.i64.wrap ((n : Int) + 1) = ((n + 1 : Nat) : Int) ∧ IntKind.i64.wrap (IntKind.u8.wrap ((s[n].toNat : Int) - 48)) = ((s[n].toNat - 48 : Nat) : Int) ∧ IntKind.i32.wrap (s[n].toNat : Int) = s[n].toNat ∧ s[n].toNat - 48 ≤ 9 := by
  have h := hd _ (List.getElem_mem hn)
  have h' := (isDig_iff _).1 h
  have e1 : IntKind.i64.wrap ((n : Int) + 1) = ((n + 1 : Nat) : Int) := by rw [wrap_id _ (by omega) (by omega)]; omega
  refine ⟨h, ?_, e1, ?_, ?_, by omega⟩
  · rw [e1, wrap_id _ (by omega) (by omega)]; omega
  · rw [wrap_u8 _ (by omega) (by omega), wrap_id _ (by omega) (by omega)]; omega
  · rw [wrap_i32 _ (by omega) (by omega)]
theorem L_digits_Fixed (s : List UInt8) (hs : s.length ≤ 9223372036854775806) (hd : ∀ c ∈ s, isDig c = true) (K : Ex → St → Prop) (m : Nat) : ∀ (n acc d : Nat), s.length + 1 ≤ n + m → n ≤ s.length → acc ≤ 2147483647 → d ≤ 9 →
    fixK5 K 5 (if 2147483647 < 10 * acc + d then none else fixV (10 * acc + d) (s.drop n)) → L_digits_Fixed_7 acc d n s K := by
  induction m with
  | zero => intro n acc d hm hn; omega
  | succ m ih =>
    intro n acc d hm hn ha hd9 hK
    have e0 : IntKind.i64.wrap (IntKind.i64.wrap (10 * (acc : Int)) + (d : Int)) = ((10 * acc + d : Nat) : Int) := by
      rw [wrap_id (10 * (acc : Int)) (by omega) (by omega), wrap_id _ (by omega) (by omega)]; omega
    refine L_digits_Fixed_7_of _ _ _ _ _ ⟨fun _ => ?_, fun h => absurd (of_decide_eq_false h) (by omega)⟩
    rw [e0]
    refine ⟨fun h => ?_, fun h => ?_⟩
    · have h := of_decide_eq_true h
      rw [if_pos (by omega)] at hK
      exact hK
    · have h := of_decide_eq_false h
      rw [if_neg (by omega)] at hK
      refine ⟨fun h => by have := of_decide_eq_false h; omega, ⟨fun h => ?_, fun h => ⟨rfl, Let.intro ⟨fun _ => ?_, fun h => absurd h (by decide)⟩⟩⟩⟩
      · have hn' : n < s.length := by
          simp at h; omega
        obtain ⟨h1, h2, h3, h4, h5, h6⟩ := next_digit s hs hd n hn'
        have h2' : IntKind.i64.wrap (((n + 1 : Nat) : Int) - 1) = n := by rw [← h3]; exact h2
        simp only [Int.toNat_natCast, getD_lt s n hn', h5, h3, h2', h4]
        refine Call.use (S_digits_digit _) ⟨⟨rfl, rfl⟩, Let.intro ?_⟩
        have h1' := (isDig_iff _).1 h1
        have hb : (decide ((48 : Int) ≤ (s[n].toNat : Int)) && decide ((s[n].toNat : Int) ≤ 57)) = true := by
          simp only [Bool.and_eq_true, decide_eq_true_eq]; omega
        simp only [rB_bool, hb]
        refine ⟨fun h => absurd h (by decide), fun _ => ⟨by omega, ?_⟩⟩
        refine ih (n+1) _ _ (by omega) (by omega) (by omega) (by omega) ?_
        rw [List.drop_eq_getElem_cons hn'] at hK
        exact hK
      · have hn' : ¬ n < s.length := by
          simp at h; omega
        refine L_digits_Fixed_end _ _ _ _ ?_
        rw [List.drop_eq_nil_of_le (by omega)] at hK
        exact hK
def isP (p : Int × Int) : AV := .tup [.imm (.int .i64 p.1), .imm (.int .i64 p.2)]
theorem S_digits_Fixed (s : List UInt8) (hs : s.length ≤ 9223372036854775806) : Call E0.P fn_digits_Fixed [.imm (.str s)] [] (Is (isP (fixS s)) []) := by
  refine F_digits_Fixed_of _ _ ⟨fun h => ?_, fun h => ⟨rfl, Let.intro ?_⟩⟩
  · have h0 : s ≠ [] := by intro e; subst e; simp at h
    refine Call.use (S_digits_Count _) ⟨⟨rfl, rfl⟩, ?_⟩
    rw [rI_int]
    refine Let.intro (C_digits_Fixed_1_of _ _ _ ⟨fun h2 => ?_, fun h2 => ?_⟩)
    · refine K_digits_Fixed_1_x0 _ _ _ ⟨?_, rfl⟩
      simp at h2
      rw [fixS, if_pos (Or.inr (by omega))]
      rfl
    · simp at h2
      refine K_digits_Fixed_1_x1 _ _ (C_digits_Fixed_3_of _ _ ?_)
      have hd := (cntD_all s).1 (by omega)
      have h0' : 0 < s.length := by cases s with | nil => exact absurd rfl h0 | cons a b => simp
      obtain ⟨h1, h2', h3, h4, h5, h6⟩ := next_digit s hs hd 0 h0'
      have hfx : fixS s = fixR (fixV 0 s) := by
        rw [fixS, if_neg]; rintro (h | h); exact h0 h; omega
      refine ⟨fun _ => by omega, fun _ => ?_, fun h => ?_⟩
      · simp only [getD_lt s 0 h0', h5]
        refine Call.use (S_digits_digit _) ⟨⟨rfl, rfl⟩, Let.intro ?_⟩
        have h1' := (isDig_iff _).1 h1
        have hb : (decide ((48 : Int) ≤ (s[0].toNat : Int)) && decide ((s[0].toNat : Int) ≤ 57)) = true := by
          simp only [Bool.and_eq_true, decide_eq_true_eq]; omega
        simp only [rB_bool, hb]
        refine ⟨fun h => absurd h (by decide), fun _ => ⟨?_, ?_⟩⟩
        · have : IntKind.i64.wrap (IntKind.i64.wrap ((0 : Int) + 1) - 1) = 0 := by decide
          rw [this]; omega
        · have : IntKind.i64.wrap ((0 : Int) + 1) = ((1 : Nat) : Int) := by decide
          rw [h4, this]
          refine L_digits_Fixed s hs hd _ s.length 1 0 _ (by omega) (by omega) (by omega) h6 ?_
          have e : (if 2147483647 < 10 * 0 + (s[0].toNat - 48) then none else fixV (10 * 0 + (s[0].toNat - 48)) (s.drop 1)) = fixV 0 s := by
            cases s with
            | nil => exact absurd rfl h0
            | cons a b => rfl
          rw [e]
          cases hv : fixV 0 s <;> simp only [fixK5]
          · exact K_digits_Fixed_3_x0 _ _ _ (K_digits_Fixed_0_x0 _ _ _ ⟨by rw [hfx, hv]; rfl, rfl⟩)
          · exact K_digits_Fixed_3_x1 _ _ (C_digits_Fixed_15_of _ _ (K_digits_Fixed_2_x0 _ _ _ (K_digits_Fixed_0_x0 _ _ _ ⟨by rw [hfx, hv]; rfl, rfl⟩)))
      · simp at h; exact absurd h h0
  · have h0 : s = [] := by simpa using h
    subst h0
    exact C_digits_Fixed_1_of _ _ _ ⟨fun _ => K_digits_Fixed_1_x0 _ _ _ ⟨rfl, rfl⟩, fun h => absurd h (by decide)⟩
theorem L_r02_Fixed (s : List UInt8) (hs : s.length ≤ 9223372036854775806) (hd : ∀ c ∈ s, isDig c = true) (K : Ex → St → Prop) (m : Nat) : ∀ (n acc : Nat), s.length + 1 ≤ n + m → n ≤ s.length → acc ≤ 2147483647 →
    fixK5 K 4 (fixV acc (s.drop n)) → L_r02_Fixed_6 s acc n K := by
  induction m with
  | zero => intro n acc hm hn; omega
  | succ m ih =>
    intro n acc hm hn ha hK
    refine L_r02_Fixed_6_of _ _ _ _ ⟨fun h => ?_, fun h => ?_⟩
    · have hn' : n < s.length := by have := of_decide_eq_true h; omega
      obtain ⟨h1, h2, h3, h4, h5, h6⟩ := next_digit s hs hd n hn'
      have h1' := (isDig_iff _).1 h1
      rw [List.drop_eq_getElem_cons hn'] at hK
      simp only [Int.toNat_natCast, getD_lt s n hn', h3]
      have e0 : IntKind.i64.wrap (IntKind.i64.wrap (IntKind.i64.wrap (10 * (acc : Int)) + IntKind.i64.wrap (s[n].toNat : Int)) - 48) = ((10 * acc + (s[n].toNat - 48) : Nat) : Int) := by
        rw [wrap_id (10 * (acc : Int)) (by omega) (by omega), wrap_id (s[n].toNat : Int) (by omega) (by omega), wrap_id (10 * (acc : Int) + (s[n].toNat : Int)) (by omega) (by omega), wrap_id _ (by omega) (by omega)]; omega
      rw [e0]
      unfold fixV at hK
      refine ⟨by omega, fun h => ?_, fun h => ?_⟩
      · have h := of_decide_eq_true h
        rw [if_pos (by omega)] at hK
        exact hK
      · have h := of_decide_eq_false h
        rw [if_neg (by omega)] at hK
        exact ih (n+1) _ (by omega) (by omega) (by omega) hK
    · have hn' : ¬ n < s.length := by have := of_decide_eq_false h; omega
      rw [List.drop_eq_nil_of_le (by omega)] at hK
      exact hK
theorem S_r02_Fixed (s : List UInt8) (hs : s.length ≤ 9223372036854775806) : Call E0.P fn_r02_Fixed [.imm (.str s)] [] (Is (isP (fixS s)) []) := by
  refine F_r02_Fixed_of _ _ ⟨fun h => ?_, fun h => ⟨rfl, Let.intro ?_⟩⟩
  · have h0 : s ≠ [] := by intro e; subst e; simp at h
    refine Call.use (S_r02_Count _ hs) ⟨⟨rfl, rfl⟩, ?_⟩
    rw [rI_int]
    refine Let.intro (C_r02_Fixed_1_of _ _ _ ⟨fun h2 => ?_, fun h2 => ?_⟩)
    · refine K_r02_Fixed_1_x0 _ _ _ ⟨?_, rfl⟩
      simp at h2
      rw [fixS, if_pos (Or.inr (by omega))]
      rfl
    · simp at h2
      refine K_r02_Fixed_1_x1 _ _ (C_r02_Fixed_3_of _ _ ?_)
      have hd := (cntD_all s).1 (by omega)
      have hfx : fixS s = fixR (fixV 0 s) := by
        rw [fixS, if_neg]; rintro (h | h); exact h0 h; omega
      refine L_r02_Fixed s hs hd _ (s.length + 1) 0 0 (by omega) (by omega) (by omega) ?_
      rw [List.drop_zero]
      cases hv : fixV 0 s <;> simp only [fixK5]
      · exact K_r02_Fixed_3_x0 _ _ _ (K_r02_Fixed_0_x0 _ _ _ ⟨by rw [hfx, hv]; rfl, rfl⟩)
      · exact K_r02_Fixed_3_x1 _ _ (C_r02_Fixed_14_of _ _ (K_r02_Fixed_2_x0 _ _ _ (K_r02_Fixed_0_x0 _ _ _ ⟨by rw [hfx, hv]; rfl, rfl⟩)))
  · have h0 : s = [] := by simpa using h
    subst h0
    exact C_r02_Fixed_1_of _ _ _ ⟨fun _ => K_r02_Fixed_1_x0 _ _ _ ⟨rfl, rfl⟩, fun h => absurd h (by decide)⟩
end Go.Proofs.Sim.Se

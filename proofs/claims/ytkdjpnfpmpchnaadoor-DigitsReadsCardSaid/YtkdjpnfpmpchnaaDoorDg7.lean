import Derived.Test.YtkdjpnfpmpchnaaDoorDg6
namespace Go.Proofs.Sim.Se
open Go Go.Proofs Go.Proofs.Sim Go.RowKit
set_option maxRecDepth 100000
set_option linter.unusedVariables false
set_option linter.unusedSimpArgs false
theorem pad7 : padS 7 3 = ([48, 48, 55], 0) := by
  have e : Lib.itoa 7 = [55] := by
    rw [show (7 : Int) = ((7 : Nat) : Int) from rfl, Lib.itoa_nonneg, Lib.decDigits_one (by omega)]; rfl
  unfold padS
  rw [e]; rfl
theorem itoa12 : Lib.itoa (-12) = [45, 49, 50] := by
  rw [show (-12 : Int) = -((12 : Nat) : Int) from rfl, Lib.itoa_neg 12 (by omega), Lib.decDigits_two (by omega) (by omega)]; rfl
theorem S_l02_numbers : Call E0.P fn_l02_numbers [] [] (Is (.imm (.bool true)) []) := by
  refine F_l02_numbers_of _ ?_
  have e1 : looseS [43, 48, 48, 55] = (7, 0) := by decide +kernel
  have e2 : readS [48, 48, 55] = (0, 4) := by decide +kernel
  have e3 : fixS [48, 49, 48] = (10, 0) := by decide +kernel
  have e4 : cntD [49, 50, 97] = 2 := by decide +kernel
  refine Call.use (S_digits_Pad 7 3 (by omega) (by omega)) ⟨⟨rfl, rfl⟩, ?_⟩
  refine Call.use (S_digits_Loose [43, 48, 48, 55] (by simp)) ⟨⟨rfl, rfl⟩, ?_⟩
  refine Call.use (S_digits_Read [48, 48, 55] (by simp)) ⟨⟨rfl, rfl⟩, ?_⟩
  refine Call.use (S_digits_Fixed [48, 49, 48] (by simp)) ⟨⟨rfl, rfl⟩, ?_⟩
  rw [pad7, e1, e2, e3]
  refine Let.intro (Let.intro (Let.intro (Let.intro (Let.intro (Let.intro ⟨fun _ => ?_, fun h => absurd h (by decide)⟩)))))
  refine Call.use (S_digits_Put (-12) (by omega) (by omega)) ⟨⟨rfl, rfl⟩, ?_⟩
  rw [itoa12]
  refine Let.intro ⟨fun _ => ?_, fun h => absurd h (by decide)⟩
  refine Call.use (S_digits_Count [49, 50, 97]) ⟨⟨rfl, rfl⟩, ?_⟩
  rw [e4]
  exact Let.intro ⟨rfl, rfl⟩
theorem S_l02_DigitsPuts (n w : Int) (h0 : -9223372036854775808 ≤ n) (h1 : n ≤ 9223372036854775807) : Call E0.P fn_l02_DigitsPuts [.imm (.int .i64 n), .imm (.int .i64 w)] [] (Is (.imm (.bool true)) []) := by
  refine F_l02_DigitsPuts_of _ _ _ (Call.use (S_digits_Pad n w h0 h1) ⟨⟨rfl, rfl⟩, ?_⟩)
  refine Call.use (S_r02_Pad n w h0 h1) ⟨⟨rfl, rfl⟩, ?_⟩
  refine Call.use (S_digits_Put n h0 h1) ⟨⟨rfl, rfl⟩, ?_⟩
  refine Call.use (S_r02_Put n h0 h1) ⟨⟨rfl, rfl⟩, ?_⟩
  refine Let.intro (Let.intro ⟨fun _ => ?_, fun h => absurd h (by simp)⟩)
  exact Call.use S_l02_numbers ⟨⟨rfl, rfl⟩, Let.intro ⟨rfl, rfl⟩⟩
theorem S_l02_DigitsReads (s : List UInt8) : Call E0.P fn_l02_DigitsReads [.imm (.str s)] [] (Is (.imm (.bool true)) []) := by
  refine F_l02_DigitsReads_of _ _ ⟨fun _ => Call.use S_l02_numbers ⟨⟨rfl, rfl⟩, ⟨rfl, rfl⟩⟩, fun h => ?_⟩
  have h := of_decide_eq_false h
  refine Call.use (S_digits_Read s (by omega)) ⟨⟨rfl, rfl⟩, ?_⟩
  refine Call.use (S_r02_Read s (by omega)) ⟨⟨rfl, rfl⟩, ?_⟩
  refine Call.use (S_digits_Loose s (by omega)) ⟨⟨rfl, rfl⟩, ?_⟩
  refine Call.use (S_r02_Loose s (by omega)) ⟨⟨rfl, rfl⟩, ?_⟩
  refine Let.intro (Let.intro (Let.intro ⟨fun _ => ?_, fun h => absurd h (by simp)⟩))
  refine Call.use (S_digits_Count s) ⟨⟨rfl, rfl⟩, ?_⟩
  refine Call.use (S_r02_Count s (by omega)) ⟨⟨rfl, rfl⟩, ?_⟩
  refine Let.intro ⟨fun _ => ?_, fun h => absurd h (by simp)⟩
  exact Call.use S_l02_numbers ⟨⟨rfl, rfl⟩, Let.intro ⟨rfl, rfl⟩⟩
theorem S_l02_DigitsFixes (s : List UInt8) : Call E0.P fn_l02_DigitsFixes [.imm (.str s)] [] (Is (.imm (.bool true)) []) := by
  refine F_l02_DigitsFixes_of _ _ ⟨fun _ => Call.use S_l02_numbers ⟨⟨rfl, rfl⟩, ⟨rfl, rfl⟩⟩, fun h => ?_⟩
  have h := of_decide_eq_false h
  refine Call.use (S_digits_Fixed s (by omega)) ⟨⟨rfl, rfl⟩, ?_⟩
  refine Call.use (S_r02_Fixed s (by omega)) ⟨⟨rfl, rfl⟩, ?_⟩
  refine Let.intro ⟨fun _ => ?_, fun h => absurd h (by simp)⟩
  exact Call.use S_l02_numbers ⟨⟨rfl, rfl⟩, Let.intro ⟨rfl, rfl⟩⟩
/-! ### Back -/
theorem back_pos (u : Nat) (hu : u ≤ 2147483647) : readS (Lib.decDigits u) = ((u : Int), 0) ∧ looseS (Lib.decDigits u) = ((u : Int), 0) := by
  have hd := dec_dig u
  have hv := dval_dec u
  have h0 := dec_ne u
  have hl : (Lib.decDigits u).length ≤ 10 := by rw [Lib.decDigits_length]; exact nDigits_le u 9 (by omega)
  have hfix := fixS_digits _ h0 hd
  rw [hv, if_pos hu] at hfix
  have hlead : ((Lib.decDigits u).getD 0 0).toNat = 48 → Lib.decDigits u = [48] := by
    intro h
    rcases Nat.eq_zero_or_pos u with hz | hz
    · subst hz; rw [Lib.decDigits_one (by omega)]; rfl
    · exfalso
      cases hx : Lib.decDigits u with
      | nil => exact h0 hx
      | cons c r => rw [hx] at h; exact dec_lead u hz c r hx h
  generalize Lib.decDigits u = s at *
  cases s with
  | nil => exact absurd rfl h0
  | cons c r =>
    have hc := (isDig_iff c).1 (hd c (by simp))
    have e1 : dropM (c :: r) = c :: r := by simp [dropM]; omega
    have e2 : dropPM (c :: r) = c :: r := by simp [dropPM]; omega
    have e3 : isM (c :: r) = false := by simp [isM]; omega
    have e4 : looseS (c :: r) = ((u : Int), 0) := by rw [looseS, e2, e3, hfix]; rfl
    refine ⟨?_, e4⟩
    have e5 : badR (c :: r) = false := by
      have := (cntD_all _).2 hd
      simp only [badR, e1]
      simp [this]
      simp at hl; omega
    rw [readS, if_neg (by rw [e5]; decide), e1, if_neg (fun h => h.2 (hlead h.1)), wholeS, e1, if_neg (fun h => by omega), e4]
theorem back_neg (u : Nat) (h1 : 1 ≤ u) (hu : u ≤ 2147483647) : readS (45 :: Lib.decDigits u) = (-(u : Int), 0) ∧ looseS (45 :: Lib.decDigits u) = (-(u : Int), 0) := by
  have hd := dec_dig u
  have hv := dval_dec u
  have h0 := dec_ne u
  have hl : (Lib.decDigits u).length ≤ 10 := by rw [Lib.decDigits_length]; exact nDigits_le u 9 (by omega)
  have hfix := fixS_digits _ h0 hd
  rw [hv, if_pos hu] at hfix
  have hlead : ((Lib.decDigits u).getD 0 0).toNat ≠ 48 := by
    intro h
    cases hx : Lib.decDigits u with
    | nil => exact h0 hx
    | cons c r => rw [hx] at h; exact dec_lead u (by omega) c r hx h
  generalize Lib.decDigits u = s at *
  have e1 : dropM (45 :: s) = s := rfl
  have e2 : dropPM (45 :: s) = s := rfl
  have e3 : isM (45 :: s) = true := rfl
  have e4 : looseS (45 :: s) = (-(u : Int), 0) := by rw [looseS, e2, e3, hfix]; rfl
  refine ⟨?_, e4⟩
  have e5 : badR (45 :: s) = false := by
    have := (cntD_all _).2 hd
    simp only [badR, e1]
    simp [this, h0]
    omega
  rw [readS, if_neg (by rw [e5]; decide), e1, if_neg (fun h => hlead h.1), wholeS, e1, if_neg (fun h => by omega), e4]
theorem back (x : Int) (h0 : -2147483647 ≤ x) (h1 : x ≤ 2147483647) : readS (Lib.itoa x) = (x, 0) ∧ looseS (Lib.itoa x) = (x, 0) := by
  by_cases hx : x < 0
  · obtain ⟨u, rfl⟩ : ∃ u : Nat, x = -(u : Int) := ⟨x.natAbs, by omega⟩
    rw [Lib.itoa_neg u (by omega)]
    exact back_neg u (by omega) (by omega)
  · obtain ⟨u, rfl⟩ : ∃ u : Nat, x = (u : Int) := ⟨x.toNat, by omega⟩
    rw [Lib.itoa_nonneg u]
    exact back_pos u (by omega)
theorem dval_zeros (k : Nat) (s : List UInt8) : dval 0 (List.replicate k 48 ++ s) = dval 0 s := by
  induction k with
  | zero => rfl
  | succ k ih => rw [List.replicate_succ, List.cons_append, dval_cons]; exact ih
theorem pad_back (x w : Int) (h0 : -2147483647 ≤ x) (h1 : x ≤ 2147483647) : ((padS x w).2 ≠ 0 ∧ (padS x w).1 = [] ∧ (w < 1 ∨ 20 < w ∨ x < 0 ∨ w < ((Lib.itoa x).length : Int))) ∨
    ((padS x w).2 = 0 ∧ ((padS x w).1.length : Int) = w ∧ fixS (padS x w).1 = (x, 0) ∧ (cntD (padS x w).1 : Int) = w) := by
  unfold padS
  by_cases ha : w < 1 ∨ 20 < w
  · rw [if_pos ha]; left; refine ⟨by decide, rfl, by omega⟩
  · rw [if_neg ha]
    by_cases hb : x < 0 ∨ w < ((Lib.itoa x).length : Int)
    · rw [if_pos hb]; left; refine ⟨by decide, rfl, by omega⟩
    · rw [if_neg hb]
      right
      obtain ⟨u, rfl⟩ : ∃ u : Nat, x = (u : Int) := ⟨x.toNat, by omega⟩
      rw [Lib.itoa_nonneg u] at *
      have hd : ∀ c ∈ List.replicate (w.toNat - (Lib.decDigits u).length) (48 : UInt8) ++ Lib.decDigits u, isDig c = true := by
        intro c hc
        rw [List.mem_append] at hc
        rcases hc with hc | hc
        · rw [(List.mem_replicate.1 hc).2]; decide
        · exact dec_dig u c hc
      have hl : ((List.replicate (w.toNat - (Lib.decDigits u).length) (48 : UInt8) ++ Lib.decDigits u).length : Int) = w := by simp; omega
      have hne : List.replicate (w.toNat - (Lib.decDigits u).length) (48 : UInt8) ++ Lib.decDigits u ≠ [] := by
        intro h; exact dec_ne u (List.append_eq_nil_iff.1 h).2
      refine ⟨rfl, hl, ?_, ?_⟩
      · rw [fixS_digits _ hne hd, dval_zeros, dval_dec, if_pos (by omega)]
      · rw [(cntD_all _).2 hd]; exact hl
theorem S_l02_DigitsBack (n w : Int) (h0 : -2147483648 ≤ n) (h1 : n ≤ 2147483647) (w0 : 0 ≤ w) (w1 : w ≤ 255) : Call E0.P fn_l02_DigitsBack [.imm (.int .i32 n), .imm (.int .u8 w)] [] (Is (.imm (.bool true)) []) := by
  have ew : IntKind.i64.wrap (w.tmod 30) = w % 30 := by
    rw [Int.tmod_eq_emod_of_nonneg w0, wrap_id _ (by omega) (by omega)]
  refine F_l02_DigitsBack_of _ _ _ ?_
  rw [wrap_id n (by omega) (by omega), ew]
  refine ⟨fun _ => Call.use S_l02_numbers ⟨⟨rfl, rfl⟩, ⟨rfl, rfl⟩⟩, fun h => ?_⟩
  have h := of_decide_eq_false h
  obtain ⟨b1, b2⟩ := back n (by omega) (by omega)
  refine Call.use (S_digits_Put n (by omega) (by omega)) ⟨⟨rfl, rfl⟩, ?_⟩
  have hlen := itoa_len n (by omega) (by omega)
  refine Call.use (S_digits_Read (Lib.itoa n) (by omega)) ⟨⟨rfl, rfl⟩, ?_⟩
  refine Call.use (S_digits_Put n (by omega) (by omega)) ⟨⟨rfl, rfl⟩, ?_⟩
  refine Call.use (S_digits_Loose (Lib.itoa n) (by omega)) ⟨⟨rfl, rfl⟩, ?_⟩
  rw [b1, b2]
  have e : ∀ k, rI (rT (isP (n, k)) 0) = n := fun _ => rfl
  have e' : ∀ k, rI (rT (isP (n, k)) 1) = k := fun _ => rfl
  rw [e, e']
  refine Let.intro (Let.intro (Let.intro ⟨fun h => absurd h (by simp), fun _ => ⟨by decide, ?_⟩⟩))
  refine Call.use (S_digits_Pad n (w % 30) (by omega) (by omega)) ⟨⟨rfl, rfl⟩, ?_⟩
  generalize hw : w % 30 = v
  have f0 : ∀ (s : List UInt8) (k : Int), rS (rT (isSP s k) 0) = s := fun _ _ => rfl
  have f1 : ∀ (s : List UInt8) (k : Int), rI (rT (isSP s k) 1) = k := fun _ _ => rfl
  rw [f0, f1]
  have hp := pad_back n v (by omega) (by omega)
  have hpl : (padS n v).1.length ≤ 100 := by
    rcases hp with ⟨_, e, _⟩ | ⟨_, e, _⟩
    · rw [e]; simp
    · omega
  refine ⟨fun h2 => ?_, fun h2 => ?_⟩
  · rcases hp with ⟨p1, p2, p3⟩ | ⟨p1, _⟩
    · rw [p2]
      refine ⟨fun _ => Let.intro (Let.intro ⟨fun h3 => ?_, fun h3 => ⟨rfl, Let.intro (Let.intro ⟨fun _ => ?_, fun h => absurd h (by simp)⟩)⟩⟩), fun h => absurd h (by decide)⟩
      · refine Call.use (S_digits_Put n (by omega) (by omega)) ⟨⟨rfl, rfl⟩, ?_⟩
        rw [rS_str]
        have h3 := eq_of_beq h3
        have hq : v < ((Lib.itoa n).length : Int) := by
          by_cases q1 : v < 1 <;> by_cases q2 : 20 < v <;> by_cases q3 : n < 0 <;> simp [q1, q2, q3] at h3 <;> omega
        refine Let.intro (Let.intro ⟨fun _ => ?_, fun h => absurd h (by simp [hq])⟩)
        exact Call.use S_l02_numbers ⟨⟨rfl, rfl⟩, Let.intro ⟨rfl, rfl⟩⟩
      · exact Call.use S_l02_numbers ⟨⟨rfl, rfl⟩, Let.intro ⟨rfl, rfl⟩⟩
    · exfalso; rw [p1] at h2; exact absurd h2 (by decide)
  · rcases hp with ⟨p1, p2, p3⟩ | ⟨p1, p2, p3, p4⟩
    · exfalso; simp at h2; exact p1 h2
    · refine Call.use (S_digits_Fixed _ (by omega)) ⟨⟨rfl, rfl⟩, ?_⟩
      rw [p3, p2, e, e']
      refine Let.intro (Let.intro ⟨fun _ => ?_, fun h => absurd h (by simp)⟩)
      refine Call.use (S_digits_Count _) ⟨⟨rfl, rfl⟩, ?_⟩
      rw [rI_int, p4]
      refine Let.intro ⟨fun _ => ?_, fun h => absurd h (by simp)⟩
      exact Call.use S_l02_numbers ⟨⟨rfl, rfl⟩, Let.intro ⟨rfl, rfl⟩⟩
end Go.Proofs.Sim.Se

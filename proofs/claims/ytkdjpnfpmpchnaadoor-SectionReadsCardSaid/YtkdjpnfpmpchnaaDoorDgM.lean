import Derived.Test.YtkdjpnfpmpchnaaDoorDgL
namespace Go.Proofs.Sim.Se
open Go
set_option linter.unusedVariables false
set_option linter.unusedSimpArgs false
theorem nDigits_le (u m : Nat) (h : u < 10 ^ (m + 1)) : Lib.nDigits u ≤ m + 1 := by
  induction m generalizing u with
  | zero => rw [Lib.nDigits_small (by simpa using h)]; omega
  | succ m ih =>
    by_cases h10 : u < 10
    · rw [Lib.nDigits_small h10]; omega
    · rw [Lib.nDigits_big h10]
      have := ih (u / 10) (by rw [Nat.pow_succ] at h; omega)
      omega
theorem dec_len (u : Nat) (h : u ≤ 9223372036854775808) : (Lib.decDigits u).length ≤ 19 := by
  rw [Lib.decDigits_length]; exact nDigits_le u 18 (by omega)
theorem itoa_len (n : Int) (h0 : -9223372036854775808 ≤ n) (h1 : n ≤ 9223372036854775807) : (Lib.itoa n).length ≤ 20 := by
  unfold Lib.itoa
  split
  · have := dec_len n.natAbs (by omega); simp; omega
  · have := dec_len n.toNat (by omega); omega
def padS (n w : Int) : List UInt8 × Int :=
  if w < 1 ∨ 20 < w then ([], 2) else if n < 0 ∨ w < ((Lib.itoa n).length : Int) then ([], 3)
  else (List.replicate (w.toNat - (Lib.itoa n).length) 48 ++ Lib.itoa n, 0)
theorem repeat_one (c : UInt8) (k : Nat) : Lib.repeatL [c] k = List.replicate k c := by
  induction k with
  | zero => rfl
  | succ k ih => rw [Lib.repeatL, ih, List.replicate_succ]; rfl
theorem back_pos (u : Nat) (hu : u ≤ 2147483647) : readS (Lib.decDigits u) = ((u : Int), 0) ∧ looseS (Lib.decDigits u) = ((u : Int), 0) := by
  have hd := dec_dig u
  have hv := dval_dec u
  have h0 := dec_ne u
  have hl : (Lib.decDigits u).length ≤ 10 := by rw [Lib.decDigits_length]; exact nDigits_le u 9 (by omega)
  have hfix := fixS_digits _ h0 hd
  rw [hv, if_pos hu] at hfix
  have hlead : ((Lib.decDigits u).getD 0 0).toNat = 48 → Lib.decDigits u = [48] := by
    intro h
    rcases Nat.eq_zero_or_pos u with hz | hz
    · subst hz; rw [Lib.decDigits_one (by omega)]; rfl
    · exfalso
      cases hx : Lib.decDigits u with
      | nil => exact h0 hx
      | cons c r => rw [hx] at h; exact dec_lead u hz c r hx h
  generalize Lib.decDigits u = s at *
  cases s with
  | nil => exact absurd rfl h0
  | cons c r =>
    have hc := (isDig_iff c).1 (hd c (by simp))
    have e1 : dropM (c :: r) = c :: r := by simp [dropM]; omega
    have e2 : dropPM (c :: r) = c :: r := by simp [dropPM]; omega
    have e3 : isM (c :: r) = false := by simp [isM]; omega
    have e4 : looseS (c :: r) = ((u : Int), 0) := by rw [looseS, e2, e3, hfix]; rfl
    refine ⟨?_, e4⟩
    have e5 : badR (c :: r) = false := by
      have := (cntD_all _).2 hd
      simp only [badR, e1]
      simp [this]
      simp at hl; omega
    rw [readS, if_neg (by rw [e5]; decide), e1, if_neg (fun h => h.2 (hlead h.1)), wholeS, e1, if_neg (fun h => by omega), e4]
theorem back_neg (u : Nat) (h1 : 1 ≤ u) (hu : u ≤ 2147483647) : readS (45 :: Lib.decDigits u) = (-(u : Int), 0) ∧ looseS (45 :: Lib.decDigits u) = (-(u : Int), 0) := by
  have hd := dec_dig u
  have hv := dval_dec u
  have h0 := dec_ne u
  have hl : (Lib.decDigits u).length ≤ 10 := by rw [Lib.decDigits_length]; exact nDigits_le u 9 (by omega)
  have hfix := fixS_digits _ h0 hd
  rw [hv, if_pos hu] at hfix
  have hlead : ((Lib.decDigits u).getD 0 0).toNat ≠ 48 := by
    intro h
    cases hx : Lib.decDigits u with
    | nil => exact h0 hx
    | cons c r => rw [hx] at h; exact dec_lead u (by omega) c r hx h
  generalize Lib.decDigits u = s at *
  have e1 : dropM (45 :: s) = s := rfl
  have e2 : dropPM (45 :: s) = s := rfl
  have e3 : isM (45 :: s) = true := rfl
  have e4 : looseS (45 :: s) = (-(u : Int), 0) := by rw [looseS, e2, e3, hfix]; rfl
  refine ⟨?_, e4⟩
  have e5 : badR (45 :: s) = false := by
    have := (cntD_all _).2 hd
    simp only [badR, e1]
    simp [this, h0]
    omega
  rw [readS, if_neg (by rw [e5]; decide), e1, if_neg (fun h => hlead h.1), wholeS, e1, if_neg (fun h => by omega), e4]
theorem back (x : Int) (h0 : -2147483647 ≤ x) (h1 : x ≤ 2147483647) : readS (Lib.itoa x) = (x, 0) ∧ looseS (Lib.itoa x) = (x, 0) := by
  by_cases hx : x < 0
  · obtain ⟨u, rfl⟩ : ∃ u : Nat, x = -(u : Int) := ⟨x.natAbs, by omega⟩
    rw [Lib.itoa_neg u (by omega)]
    exact back_neg u (by omega) (by omega)
  · obtain ⟨u, rfl⟩ : ∃ u : Nat, x = (u : Int) := ⟨x.toNat, by omega⟩
    rw [Lib.itoa_nonneg u]
    exact back_pos u (by omega)
theorem dval_zeros (k : Nat) (s : List UInt8) : dval 0 (List.replicate k 48 ++ s) = dval 0 s := by
  induction k with
  | zero => rfl
  | succ k ih => rw [List.replicate_succ, List.cons_append, dval_cons]; exact ih
theorem pad_back (x w : Int) (h0 : -2147483647 ≤ x) (h1 : x ≤ 2147483647) : ((padS x w).2 ≠ 0 ∧ (padS x w).1 = [] ∧ (w < 1 ∨ 20 < w ∨ x < 0 ∨ w < ((Lib.itoa x).length : Int))) ∨
    ((padS x w).2 = 0 ∧ ((padS x w).1.length : Int) = w ∧ fixS (padS x w).1 = (x, 0) ∧ (cntD (padS x w).1 : Int) = w) := by
  unfold padS
  by_cases ha : w < 1 ∨ 20 < w
  · rw [if_pos ha]; left; refine ⟨by decide, rfl, by omega⟩
  · rw [if_neg ha]
    by_cases hb : x < 0 ∨ w < ((Lib.itoa x).length : Int)
    · rw [if_pos hb]; left; refine ⟨by decide, rfl, by omega⟩
    · rw [if_neg hb]
      right
      obtain ⟨u, rfl⟩ : ∃ u : Nat, x = (u : Int) := ⟨x.toNat, by omega⟩
      rw [Lib.itoa_nonneg u] at *
      have hd : ∀ c ∈ List.replicate (w.toNat - (Lib.decDigits u).length) (48 : UInt8) ++ Lib.decDigits u, isDig c = true := by
        intro c hc
        rw [List.mem_append] at hc
        rcases hc with hc | hc
        · rw [(List.mem_replicate.1 hc).2]; decide
        · exact dec_dig u c hc
      have hl : ((List.replicate (w.toNat - (Lib.decDigits u).length) (48 : UInt8) ++ Lib.decDigits u).length : Int) = w := by simp; omega
      have hne : List.replicate (w.toNat - (Lib.decDigits u).length) (48 : UInt8) ++ Lib.decDigits u ≠ [] := by
        intro h; exact dec_ne u (List.append_eq_nil_iff.1 h).2
      refine ⟨rfl, hl, ?_, ?_⟩
      · rw [fixS_digits _ hne hd, dval_zeros, dval_dec, if_pos (by omega)]
      · rw [(cntD_all _).2 hd]; exact hl
end Go.Proofs.Sim.Se

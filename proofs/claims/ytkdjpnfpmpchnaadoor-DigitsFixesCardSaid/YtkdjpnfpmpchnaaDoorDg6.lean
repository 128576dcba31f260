import Derived.Test.YtkdjpnfpmpchnaaDoorDg5
namespace Go.Proofs.Sim.Se
open Go Go.Proofs Go.Proofs.Sim Go.RowKit
set_option maxRecDepth 100000
set_option linter.unusedVariables false
set_option linter.unusedSimpArgs false
theorem orB' (b : Bool) (q : Prop) {j : Decidable q} : ((bif b then true else decide q) = true ↔ (b = true ∨ q)) := by
  cases b <;> simp
theorem beqf {b : Bool} (h : (b == false) = false) : b = true := by cases b <;> simp_all
theorem badR_iff (s : List UInt8) : badR s = ((bif dropM s == [] then true else decide ((19 : Int) < ((dropM s).length : Int))) || !decide ((cntD (dropM s) : Int) = ((dropM s).length : Int))) := by
  rw [Bool.eq_iff_iff]
  simp only [badR, Bool.or_eq_true, decide_eq_true_eq, orB', beq_iff_eq, Bool.not_eq_true', decide_eq_false_iff_not]
  have e1 : ((19 : Int) < ((dropM s).length : Int)) ↔ 19 < (dropM s).length := by omega
  have e2 : ((cntD (dropM s) : Int) = ((dropM s).length : Int)) ↔ cntD (dropM s) = (dropM s).length := by omega
  rw [e1, e2]
theorem atoi_bound (s : List UInt8) : -9223372036854775808 ≤ (atoiP s).1 ∧ (atoiP s).1 ≤ 9223372036854775807 := by
  unfold atoiP
  cases h : Lib.atoiAll s
  case range => simp only [Lib.atoiSat]; split <;> simp
  case ok v =>
    simp only
    cases s with
    | nil => simp [Lib.atoiAll] at h
    | cons c r =>
      simp only [Lib.atoiAll] at h
      split at h
      · cases h
      · cases h
      · split at h
        · cases h
        · split at h
          · cases h
          · injection h with h
            subst h
            split <;> omega
  · simp
theorem S_digits_Read (s : List UInt8) (hs : s.length ≤ 281474976710656) : Call E0.P fn_digits_Read [.imm (.str s)] [] (Is (isP (readS s)) []) := by
  rw [← readP_eq]
  have bad : badR s = true → readP s = (0, 4) := fun h => by rw [readP, if_pos h]
  refine F_digits_Read_of _ _ (Call.use (S_signed_m s) ⟨⟨rfl, rfl⟩, ?_⟩)
  show Let (bif dropM s == [] then true else decide ((19 : Int) < ((dropM s).length : Int))) fun x1 => Br (x1 == false) (Call E0.P fn_digits_Count [.imm (.str (dropM s))] [] _) _
  refine Let.intro ⟨fun h => ?_, fun h => ⟨rfl, Let.intro (C_digits_Read_2_of _ _ _ ⟨fun _ => ?_, fun h => absurd h (by simp)⟩)⟩⟩
  · have h := eq_of_beq h
    refine Call.use (S_digits_Count _) ⟨⟨rfl, rfl⟩, ?_⟩
    show Let (!decide ((cntD (dropM s) : Int) = ((dropM s).length : Int))) _
    refine Let.intro (C_digits_Read_2_of _ _ _ ⟨fun h2 => ?_, fun h2 => ?_⟩)
    · refine K_digits_Read_1_x0 _ _ _ ⟨?_, rfl⟩
      rw [bad]; rfl
      rw [badR_iff, Bool.or_eq_true]; exact .inr h2
    · have hb : ¬ badR s = true := by
        rw [badR_iff, h]
        intro hh; rw [Bool.false_or] at hh; exact absurd (hh.symm.trans h2) (by decide)
      refine K_digits_Read_1_x1 _ _ (C_digits_Read_4_of _ _ (Call.use (S_strconv_Atoi s hs) ⟨⟨rfl, rfl⟩, ?_⟩))
      have hab := atoi_bound s
      have hP : readP s = if (atoiP s).2 = false ∨ Lib.itoa (atoiP s).1 ≠ s then (0, 4) else if -2147483647 ≤ (atoiP s).1 ∧ (atoiP s).1 ≤ 2147483647 then ((atoiP s).1, 0) else (0, 3) := by rw [readP, if_neg hb]
      refine ⟨.inr rfl, ?_⟩
      show Br ((!((atoiP s).2 && true)) == false) (Call E0.P fn_digits_Put [.imm (.int .i64 (atoiP s).1)] [] _) _
      refine ⟨fun h3 => ?_, fun h3 => ⟨rfl, Let.intro (C_digits_Read_6_of _ _ _ ⟨fun _ => ?_, fun h => absurd h (by simp)⟩)⟩⟩
      · have h3 : (atoiP s).2 = true := by simpa using h3
        refine Call.use (S_digits_Put _ hab.1 hab.2) ⟨⟨rfl, rfl⟩, Let.intro ?_⟩
        show C_digits_Read_6 (atoiP s).1 (!(Lib.itoa (atoiP s).1 == s)) _
        refine C_digits_Read_6_of _ _ _ ⟨fun h4 => ?_, fun h4 => ?_⟩
        · refine K_digits_Read_3_x0 _ _ _ (K_digits_Read_0_x0 _ _ _ ⟨?_, rfl⟩)
          rw [hP, if_pos (.inr (by simpa using h4))]; rfl
        · have h4 : Lib.itoa (atoiP s).1 = s := by simpa using h4
          rw [if_neg (by rintro (h | h); exact absurd (h.symm.trans h3) (by decide); exact h h4)] at hP
          refine Call.use (S_digits_held _) ⟨⟨rfl, rfl⟩, ?_⟩
          rw [rB_bool]
          refine ⟨fun h5 => ?_, fun h5 => ?_⟩
          · refine K_digits_Read_3_x0 _ _ _ (K_digits_Read_0_x0 _ _ _ ⟨?_, rfl⟩)
            rw [hP, if_neg]; rfl
            intro hh; simp only [hh, decide_true, Bool.and_self, Bool.not_true] at h5; cases h5
          · refine K_digits_Read_3_x1 _ _ (C_digits_Read_10_of _ _ (K_digits_Read_2_x0 _ _ _ (K_digits_Read_0_x0 _ _ _ ⟨?_, rfl⟩)))
            rw [hP, if_pos]; rfl
            simpa using h5
      · have h3 : (atoiP s).2 = false := by simpa using h3
        refine K_digits_Read_3_x0 _ _ _ (K_digits_Read_0_x0 _ _ _ ⟨?_, rfl⟩)
        rw [hP, if_pos (.inl h3)]; rfl
  · refine K_digits_Read_1_x0 _ _ _ ⟨?_, rfl⟩
    rw [bad]; rfl
    rw [badR_iff, Bool.or_eq_true]; left; exact beqf h
theorem S_r02_whole (c : UInt8) (r : List UInt8) (hs : (c :: r).length ≤ 9223372036854775806) : Call E0.P fn_r02_whole [.imm (.str (c :: r))] [] (Is (isP (wholeS (c :: r))) []) := by
  have main : ∀ t, t = (if isM (c :: r) then top1 else top0) → C_r02_whole_6 (c :: r) (dropM (c :: r)) t (K_r02_whole_1 (K_r02_whole_0 (Is (isP (wholeS (c :: r))) []))) := by
    intro t ht
    refine C_r02_whole_6_of _ _ _ _ (Let.intro ⟨fun h => ?_, fun h => ?_⟩)
    · refine K_r02_whole_1_x0 _ _ _ (K_r02_whole_0_x0 _ _ _ ⟨?_, rfl⟩)
      rw [wholeS, ← ht, if_pos]; rfl
      by_cases hl : (dropM (c :: r)).length = 19
      · refine ⟨hl, fun hh => ?_⟩
        rw [hh] at h
        simp at h
      · have : decide (((dropM (c :: r)).length : Int) = 19) = false := decide_eq_false (by omega)
        rw [this] at h; cases h
    · refine Call.use (S_r02_Loose _ hs) ⟨⟨rfl, rfl⟩, K_r02_whole_1_x0 _ _ _ (K_r02_whole_0_x0 _ _ _ ⟨?_, rfl⟩)⟩
      rw [wholeS, ← ht, if_neg]; rfl
      rintro ⟨hl, hh⟩
      have : decide (((dropM (c :: r)).length : Int) = 19) = true := decide_eq_true (by omega)
      rw [this] at h
      simp only [Bool.not_eq_true] at hh
      rw [hh] at h; cases h
  have step : C_r02_whole_3 (c :: r) (dropM (c :: r)) (K_r02_whole_0 (Is (isP (wholeS (c :: r))) [])) := by
    refine C_r02_whole_3_of _ _ _ ⟨by simp <;> omega, ⟨fun h => ?_, fun h => ?_⟩⟩
    · refine main _ ?_
      have : isM (c :: r) = true := by simp [isM]; simp at h; omega
      rw [this]; rfl
    · refine main _ ?_
      have : isM (c :: r) = false := by simp [isM]; simp at h; omega
      rw [this]; rfl
  refine F_r02_whole_of _ _ ⟨by simp <;> omega, ⟨fun h => ?_, fun h => ?_⟩⟩
  · have : dropM (c :: r) = r := by simp [dropM]; simp at h; omega
    rw [this] at step
    exact ⟨by simp <;> omega, Let.intro step⟩
  · have : dropM (c :: r) = c :: r := by simp [dropM]; simp at h; omega
    rw [this] at step
    exact step
theorem beq48 (s : List UInt8) : (s == [48]) = decide (s = [48]) := by
  rw [Bool.eq_iff_iff]; simp
theorem S_r02_Read (s : List UInt8) (hs : s.length ≤ 9223372036854775806) : Call E0.P fn_r02_Read [.imm (.str s)] [] (Is (isP (readS s)) []) := by
  have bad : badR s = true → readS s = (0, 4) := fun h => by rw [readS, if_pos h]
  have fin4 : ∀ b, (b = true → readS s = (0, 4)) → (b = false → s ≠ [] ∧ readS s = wholeS s) → C_r02_Read_4 s b (K_r02_Read_2 (K_r02_Read_0 (Is (isP (readS s)) []))) := by
    intro b hb1 hb2
    refine C_r02_Read_4_of _ _ _ ⟨fun h => ?_, fun h => ?_⟩
    · refine K_r02_Read_2_x0 _ _ _ (K_r02_Read_0_x0 _ _ _ ⟨?_, rfl⟩)
      rw [hb1 h]; rfl
    · obtain ⟨h0, h1⟩ := hb2 h
      refine K_r02_Read_2_x1 _ _ (C_r02_Read_6_of _ _ ?_)
      cases s with
      | nil => exact absurd rfl h0
      | cons c r =>
        refine Call.use (S_r02_whole c r hs) ⟨⟨rfl, rfl⟩, K_r02_Read_1_x0 _ _ _ (K_r02_Read_0_x0 _ _ _ ⟨?_, rfl⟩)⟩
        rw [h1]; rfl
  have main : C_r02_Read_3 s (dropM s) (K_r02_Read_0 (Is (isP (readS s)) [])) := by
    refine C_r02_Read_3_of _ _ _ (Let.intro ⟨fun h => ?_, fun h => ⟨rfl, Let.intro ⟨fun h2 => absurd h2 (by simp), ⟨fun h2 => absurd h2 (by simp), fun _ => ⟨rfl, Let.intro (fin4 _ (fun _ => ?_) (fun h => absurd h (by simp)))⟩⟩⟩⟩⟩)
    · have h := eq_of_beq h
      refine Call.use (S_r02_Count _ (by have := dropM_le s; omega)) ⟨⟨rfl, rfl⟩, ?_⟩
      rw [rI_int]
      have hx : badR s = !decide ((cntD (dropM s) : Int) = ((dropM s).length : Int)) := by rw [badR_iff, h, Bool.false_or]
      have h0 : dropM s ≠ [] := by intro e; rw [e] at h; simp at h
      have h0' : 0 < (dropM s).length := by cases hd : dropM s with | nil => exact absurd hd h0 | cons a b => simp
      rw [← hx]
      refine Let.intro ⟨fun _ => by omega, ⟨fun h2 => Let.intro (Let.intro (fin4 _ (fun h3 => ?_) (fun h3 => ?_))), fun h2 => ⟨rfl, Let.intro (fin4 _ (fun _ => ?_) (fun h => absurd h (by simp)))⟩⟩⟩
      · have h2 := eq_of_beq h2
        rw [readS, if_neg (by rw [h2]; decide), if_pos]
        rw [beq48] at h3
        simp at h3
        refine ⟨?_, h3.2⟩
        have := h3.1
        rw [List.getD_eq_getElem?_getD]
        omega
      · have h2 := eq_of_beq h2
        refine ⟨fun e => h0 (by rw [e]; rfl), ?_⟩
        rw [readS, if_neg (by rw [h2]; decide), if_neg]
        rintro ⟨e1, e2⟩
        rw [beq48, e1] at h3
        simp [e2] at h3
      · exact bad (by simpa using h2)
    · refine bad ?_
      rw [badR_iff, Bool.or_eq_true]; left; exact beqf h
  refine F_r02_Read_of _ _ ⟨fun h => ?_, Let.intro ⟨fun h => ?_, fun h => ?_⟩⟩
  · cases s with
    | nil => simp at h
    | cons c r => simp
  · cases s with
    | nil => simp at h
    | cons c r =>
      have : dropM (c :: r) = r := by simp [dropM]; simp at h; omega
      rw [this] at main
      exact ⟨by simp <;> omega, Let.intro main⟩
  · cases s with
    | nil => exact main
    | cons c r =>
      have : dropM (c :: r) = c :: r := by simp [dropM]; simp at h; omega
      rw [this] at main
      exact main
end Go.Proofs.Sim.Se

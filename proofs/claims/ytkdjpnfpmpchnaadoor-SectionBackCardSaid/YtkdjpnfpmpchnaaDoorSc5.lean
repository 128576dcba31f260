import Derived.Test.YtkdjpnfpmpchnaaDoorSc4
namespace Go.Proofs.Sim.Se
open Go Go.Proofs Go.Proofs.Sim Go.RowKit
set_option maxRecDepth 100000
set_option linter.unusedVariables false
set_option linter.unusedSimpArgs false
theorem cntD_take (t : List UInt8) : ∀ k, cntD (t.take k) = min k (cntD t) := by
  induction t with
  | nil => intro k; simp [cntD]
  | cons c t ih =>
    intro k
    cases k with
    | zero => simp [cntD]
    | succ k =>
      have := ih k
      unfold cntD at *
      rw [List.take_succ_cons, List.takeWhile_cons, List.takeWhile_cons]
      split
      · simp [this]
      · simp
theorem cntD_dig (t : List UInt8) : ∀ k, k < cntD t → isDig (t.getD k 0) = true := by
  induction t with
  | nil => intro k h; simp [cntD] at h
  | cons c t ih =>
    intro k h
    have := ih
    unfold cntD at h this
    rw [List.takeWhile_cons] at h
    split at h
    · rename_i hc
      cases k with
      | zero => exact hc
      | succ k => exact this k (by simp at h; exact h)
    · simp at h
theorem dig32 (t : List UInt8) (k : Nat) (h : (t.getD k 0).toNat = 32) : cntD t ≤ k := by
  rcases Nat.lt_or_ge k (cntD t) with h1 | h1
  · have := (isDig_iff _).1 (cntD_dig t k h1)
    omega
  · exact h1
def okProp (t : List UInt8) : Prop := cntD t = 10 ∧ (t.getD 10 0).toNat = 32 ∧ cntD (t.drop 11) = 5 ∧ (t.getD 16 0).toNat = 32 ∧ ((t.getD 17 0).toNat = 110 ∨ (t.getD 17 0).toNat = 102) ∧ endedS (t.drop 18) = true
theorem okEnt_iff (t : List UInt8) (ht : t.length = 20) : okEnt t = true ↔ okProp t := by
  unfold okEnt okProp
  have e1 := cntD_take t 10
  have e2 : (t.take 16).drop 11 = (t.drop 11).take 5 := by rw [List.drop_take]
  have e3 := cntD_take (t.drop 11) 5
  have e4 : (t.drop 11).getD 5 0 = t.getD 16 0 := by simp [List.getD_eq_getElem?_getD]
  rw [e2, e1, e3]
  simp only [Bool.and_eq_true, Bool.or_eq_true, decide_eq_true_eq]
  constructor
  · rintro ⟨⟨⟨⟨⟨h1, h2⟩, h3⟩, h4⟩, h5⟩, h6⟩
    have d1 := dig32 t 10 h2
    have d2 := dig32 (t.drop 11) 5 (by rw [e4]; exact h4)
    exact ⟨by omega, h2, by omega, h4, h5, h6⟩
  · rintro ⟨h1, h2, h3, h4, h5, h6⟩
    exact ⟨⟨⟨⟨⟨by omega, h2⟩, by omega⟩, h4⟩, h5⟩, h6⟩
theorem beqn {b : Bool} (h : (b == true) = false) : b = false := by cases b <;> simp_all
theorem S_section_ended (t : List UInt8) : Call E0.P fn_section_ended [.imm (.str t)] [] (Is (.imm (.bool (endedS t))) []) := by
  refine F_section_ended_of _ _ (Let.intro (Let.intro ⟨?_, rfl⟩))
  unfold endedS
  cases t == [32, 10] <;> cases t == [32, 13] <;> rfl
def entR : Option (Int × Int × Int) → AV
  | none => .tup [.imm (.agg [.int .i64 0, .int .i64 0, .int .i64 0]), .imm (.int .i64 4)]
  | some e => .tup [.imm (.agg [.int .i64 e.1, .int .i64 e.2.1, .int .i64 e.2.2]), .imm (.int .i64 0)]
theorem entS_bad (big : Int) (t : List UInt8) (ht : t.length = 20) (h : ¬ okProp t) : entS big t = none := by
  rw [entS, if_neg (fun hh => h ((okEnt_iff t ht).1 hh))]
theorem entS_good (big : Int) (t : List UInt8) (ht : t.length = 20) (h : okProp t) : entS big t = some (if (t.getD 17 0).toNat = 110 then 1 else 0, if (fixS (t.take 10)).2 ≠ 0 then big else (fixS (t.take 10)).1, (fixS ((t.take 16).drop 11)).1) := by
  rw [entS, if_pos ((okEnt_iff t ht).2 h)]
theorem S_entry (s : List UInt8) (hs : s.length ≤ 1000000) (p : Nat) (hp : p + 20 ≤ s.length) :
    Call E0.P fn_section_reader_entry [.ptr (.arg 0) 0] (rdH s p) (Is (entR (entS 2147483647 (piece s p))) (rdH s ((if (entS 2147483647 (piece s p)).isSome then p + 20 else p : Nat) : Int))) := by
  have ew : IntKind.i64.wrap ((p : Int) + 20) = ((p + 20 : Nat) : Int) := by rw [wrap_id _ (by omega) (by omega)]; omega
  refine F_section_reader_entry_of _ _ _ ?_
  rw [ew, Int.toNat_natCast, Int.toNat_natCast]
  refine ⟨by omega, Let.intro ?_⟩
  rw [show List.drop p (List.take (p + 20) s) = piece s p from rfl]
  have ht : (piece s p).length = 20 := by unfold piece; simp; omega
  generalize hT : piece s p = t at *
  have bad : ¬ okProp t → C_section_reader_entry_2 t true s p 0 0 0 (K_section_reader_entry_1 s p (Is (entR (entS 2147483647 t)) (rdH s ((if (entS 2147483647 t).isSome then p + 20 else p : Nat) : Int)))) := by
    intro h
    rw [entS_bad _ t ht h]
    exact C_section_reader_entry_2_of _ _ _ _ _ _ _ _ ⟨fun _ => K_section_reader_entry_1_x0 _ _ _ _ _ _ _ _ _ ⟨rfl, rfl⟩, fun h => absurd h (by decide)⟩
  have good : okProp t → C_section_reader_entry_2 t false s p 0 0 0 (K_section_reader_entry_1 s p (Is (entR (entS 2147483647 t)) (rdH s ((if (entS 2147483647 t).isSome then p + 20 else p : Nat) : Int)))) := by
    intro h
    rw [entS_good _ t ht h]
    refine C_section_reader_entry_2_of _ _ _ _ _ _ _ _ ⟨fun h => absurd h (by decide), fun _ => K_section_reader_entry_1_x1 _ _ _ _ _ _ _ _ _ (C_section_reader_entry_4_of _ _ _ _ _ _ _ ⟨by omega, Let.intro ?_⟩)⟩
    refine Call.use (S_digits_Fixed _ (by simp; omega)) ⟨⟨rfl, rfl⟩, ?_⟩
    have f0 : rI (rT (isP (fixS (t.take 10))) 0) = (fixS (t.take 10)).1 := rfl
    have f1 : rI (rT (isP (fixS (t.take 10))) 1) = (fixS (t.take 10)).2 := rfl
    rw [f0, f1, ew]
    have st8 : ∀ a : Int, C_section_reader_entry_8 t a 0 0 0 s ((p + 20 : Nat) : Int) (K_section_reader_entry_2 (K_section_reader_entry_0 s p (Is (entR (some (if (t.getD 17 0).toNat = 110 then 1 else 0, a, (fixS ((t.take 16).drop 11)).1))) (rdH s ((p + 20 : Nat) : Int))))) := by
      intro a
      refine C_section_reader_entry_8_of _ _ _ _ _ _ _ _ ⟨by omega, Let.intro ?_⟩
      refine Call.use (S_digits_Fixed _ (by simp; omega)) ⟨⟨rfl, rfl⟩, ⟨by omega, ⟨fun h => ?_, fun h => ?_⟩⟩⟩
      · have h := of_decide_eq_true h
        rw [if_pos (by omega)]
        exact C_section_reader_entry_12_of _ _ _ _ _ _ _ _ _ (K_section_reader_entry_2_x0 _ _ _ _ _ _ _ (K_section_reader_entry_2_x0 _ _ _ _ _ _ _ (K_section_reader_entry_0_x0 _ _ _ _ _ _ _ _ _ ⟨rfl, rfl⟩)))
      · have h := of_decide_eq_false h
        rw [if_neg (by omega)]
        exact C_section_reader_entry_12_of _ _ _ _ _ _ _ _ _ (K_section_reader_entry_2_x0 _ _ _ _ _ _ _ (K_section_reader_entry_2_x0 _ _ _ _ _ _ _ (K_section_reader_entry_0_x0 _ _ _ _ _ _ _ _ _ ⟨rfl, rfl⟩)))
    refine ⟨fun h => ?_, fun h => ?_⟩
    · rw [if_pos (c := (fixS (t.take 10)).2 ≠ 0) (ndT h)]; exact st8 _
    · rw [if_neg (c := (fixS (t.take 10)).2 ≠ 0) (by have := ndF h; simpa using this)]; exact st8 _
  refine Call.use (S_digits_Count _) ⟨⟨rfl, rfl⟩, ?_⟩
  rw [rI_int]
  have dead : ∀ {P : Prop}, (true == false) = true → P := fun h => absurd h (by decide)
  refine ⟨fun _ => by omega, Let.intro ⟨fun _ => by omega, Let.intro ⟨fun h => ?_, fun h => ?_⟩⟩⟩
  · have h := eq_of_beq h
    have h1 : ¬ ((bif !decide ((cntD t : Int) = 10) then true else !decide (((t.getD 10 0).toNat : Int) = 32)) = true) := by rw [h]; decide
    have h1 : cntD t = 10 ∧ (t.getD 10 0).toNat = 32 := by
      by_cases a : (cntD t : Int) = 10 <;> by_cases b : ((t.getD 10 0).toNat : Int) = 32 <;> simp only [a, b, decide_true, decide_false, Bool.not_true, Bool.not_false, cond_true, cond_false, not_true_eq_false, not_false_eq_true] at h1
      omega
    refine Call.use (S_digits_Count _) ⟨⟨rfl, rfl⟩, ?_⟩
    rw [rI_int]
    refine Let.intro ⟨fun _ => by omega, Let.intro ⟨fun _ => by omega, ⟨fun h2 => ?_, fun h2 => ?_⟩⟩⟩
    · have h2 := eq_of_beq h2
      have h3 : cntD (t.drop 11) = 5 ∧ (t.getD 16 0).toNat = 32 := by
        by_cases a : (cntD (t.drop 11) : Int) = 5 <;> by_cases b : ((t.getD 16 0).toNat : Int) = 32 <;> simp only [a, b, decide_true, decide_false, Bool.not_true, Bool.not_false, cond_true, cond_false, Bool.true_eq_false] at h2
        omega
      refine ⟨fun _ => by omega, Let.intro (Let.intro ⟨fun _ => by omega, Let.intro ⟨fun h4 => ?_, fun h4 => ?_⟩⟩)⟩
      · have h4 := (andF _ _).1 (eq_of_beq h4)
        refine Call.use (S_section_ended _) ⟨⟨rfl, rfl⟩, ?_⟩
        rw [rB_bool]
        refine Let.intro ?_
        cases h5 : endedS (t.drop 18) with
        | true => exact good ⟨h1.1, h1.2, h3.1, h3.2, by omega, h5⟩
        | false => exact bad (fun hh => by have := hh.2.2.2.2.2; rw [h5] at this; cases this)
      · have h4 := (andT _ _).1 (beqf h4)
        exact ⟨rfl, Let.intro (bad fun hh => by have := hh.2.2.2.2.1; omega)⟩
    · have h3 : ¬ (cntD (t.drop 11) = 5 ∧ (t.getD 16 0).toNat = 32) := by
        rintro ⟨a, b⟩
        have a : (cntD (t.drop 11) : Int) = 5 := by omega
        have b : ((t.getD 16 0).toNat : Int) = 32 := by omega
        simp only [a, b, decide_true, Bool.not_true, cond_false] at h2
        cases h2
      exact ⟨rfl, Let.intro ⟨fun h => absurd h (by decide), Let.intro ⟨fun h => absurd h (by decide), fun _ => ⟨rfl, Let.intro (bad fun hh => h3 ⟨hh.2.2.1, hh.2.2.2.1⟩)⟩⟩⟩⟩
  · have h3 : ¬ (cntD t = 10 ∧ (t.getD 10 0).toNat = 32) := by
      rintro ⟨a, b⟩
      have a : (cntD t : Int) = 10 := by omega
      have b : ((t.getD 10 0).toNat : Int) = 32 := by omega
      simp only [a, b, decide_true, Bool.not_true, cond_false] at h
      cases h
    have bd := bad fun hh => h3 ⟨hh.1, hh.2.1⟩
    exact ⟨rfl, Let.intro ⟨fun h => absurd h (by simp), Let.intro ⟨fun h => absurd h (by simp), ⟨fun h => absurd h (by simp), fun _ => ⟨rfl, Let.intro ⟨fun h => absurd h (by simp), Let.intro ⟨fun h => absurd h (by simp), fun _ => ⟨rfl, Let.intro bd⟩⟩⟩⟩⟩⟩⟩⟩
theorem S_r22_entry (t : List UInt8) (ht : t.length = 20) : Call E0.P fn_r22_entry [.imm (.str t)] [] (Is (entR (entS 67108865 t)) []) := by
  refine F_r22_entry_of _ _ ⟨by omega, Let.intro ⟨by omega, Let.intro ⟨by omega, Let.intro ⟨by omega, ⟨fun _ => by omega, Let.intro ⟨fun _ => by omega, ?_⟩⟩⟩⟩⟩⟩
  have bad : ¬ okProp t → C_r22_entry_3 t (t.take 10) ((t.take 16).drop 11) true 0 0 0 (K_r22_entry_1 (Is (entR (entS 67108865 t)) [])) := by
    intro h
    rw [entS_bad _ t ht h]
    exact C_r22_entry_3_of _ _ _ _ _ _ _ _ ⟨fun _ => K_r22_entry_1_x0 _ _ _ _ _ ⟨rfl, rfl⟩, fun h => absurd h (by decide)⟩
  have good : okProp t → C_r22_entry_3 t (t.take 10) ((t.take 16).drop 11) false 0 0 0 (K_r22_entry_1 (Is (entR (entS 67108865 t)) [])) := by
    intro h
    rw [entS_good _ t ht h]
    refine C_r22_entry_3_of _ _ _ _ _ _ _ _ ⟨fun h => absurd h (by decide), fun _ => K_r22_entry_1_x1 _ _ _ _ _ _ _ (C_r22_entry_5_of _ _ _ _ _ _ _ ?_)⟩
    have st8 : ∀ k : Int, C_r22_entry_8 (t.take 10) ((t.take 16).drop 11) 0 0 0 k 0 0 (K_r22_entry_2 (K_r22_entry_0 (Is (entR (some (k, if (fixS (t.take 10)).2 ≠ 0 then 67108865 else (fixS (t.take 10)).1, (fixS ((t.take 16).drop 11)).1))) []))) := by
      intro k
      refine C_r22_entry_8_of _ _ _ _ _ _ _ _ _ (Call.use (S_r02_Fixed _ (by simp; omega)) ⟨⟨rfl, rfl⟩, ?_⟩)
      have f0 : rI (rT (isP (fixS (t.take 10))) 0) = (fixS (t.take 10)).1 := rfl
      have f1 : rI (rT (isP (fixS (t.take 10))) 1) = (fixS (t.take 10)).2 := rfl
      rw [f0, f1]
      refine Call.use (S_r02_Fixed _ (by simp; omega)) ⟨⟨rfl, rfl⟩, ⟨fun h => ?_, fun h => ?_⟩⟩
      · rw [if_pos (ndT h)]
        exact C_r22_entry_12_of _ _ _ _ _ _ _ _ _ (K_r22_entry_2_x0 _ _ _ _ _ (K_r22_entry_2_x0 _ _ _ _ _ (K_r22_entry_0_x0 _ _ _ _ _ ⟨rfl, rfl⟩)))
      · rw [if_neg (by have := ndF h; simpa using this)]
        exact C_r22_entry_12_of _ _ _ _ _ _ _ _ _ (K_r22_entry_2_x0 _ _ _ _ _ (K_r22_entry_2_x0 _ _ _ _ _ (K_r22_entry_0_x0 _ _ _ _ _ ⟨rfl, rfl⟩)))
    refine ⟨by omega, ⟨fun h => ?_, fun h => ?_⟩⟩
    · have h := of_decide_eq_true h
      rw [if_pos (c := (t.getD 17 0).toNat = 110) (by omega)]
      exact st8 1
    · have h := of_decide_eq_false h
      rw [if_neg (c := (t.getD 17 0).toNat = 110) (by omega)]
      exact st8 0
  have e10 : cntD (t.take 10) = min 10 (cntD t) := cntD_take t 10
  have e2 : (t.take 16).drop 11 = (t.drop 11).take 5 := by rw [List.drop_take]
  have e5 : cntD ((t.take 16).drop 11) = min 5 (cntD (t.drop 11)) := by rw [e2]; exact cntD_take _ 5
  have e4 : (t.drop 11).getD 5 0 = t.getD 16 0 := by simp [List.getD_eq_getElem?_getD]
  have tl : ∀ (P : Prop), (¬ okProp t) → (P = P) → True := fun _ _ _ => trivial
  refine ⟨fun h => ?_, fun h => ?_⟩
  · have h := (andT' _ _).1 (eq_of_beq h)
    have d1 := dig32 t 10 (by omega)
    have d2 := dig32 (t.drop 11) 5 (by rw [e4]; omega)
    refine ⟨fun _ => by omega, Let.intro (Let.intro ⟨fun h2 => ?_, fun h2 => ?_⟩)⟩
    · have h2 := (orB _ _).1 (eq_of_beq h2)
      refine Let.intro (Let.intro (Let.intro ?_))
      have ee : (bif (bif List.drop 18 t == [32, 10] then true else List.drop 18 t == [32, 13]) then true else List.drop 18 t == [13, 10]) = endedS (t.drop 18) := by
        unfold endedS
        cases List.drop 18 t == [32, 10] <;> cases List.drop 18 t == [32, 13] <;> rfl
      rw [ee]
      cases h5 : endedS (t.drop 18) with
      | true =>
        refine ⟨fun _ => ?_, fun h => absurd h (by decide)⟩
        refine Call.use (S_r02_Count _ (by simp; omega)) ⟨⟨rfl, rfl⟩, ?_⟩
        rw [rI_int]
        refine Let.intro ⟨fun h6 => ?_, fun h6 => ?_⟩
        · have h6 := ndF (eq_of_beq h6)
          refine Call.use (S_r02_Count _ (by simp; omega)) ⟨⟨rfl, rfl⟩, ?_⟩
          rw [rI_int]
          refine Let.intro ?_
          by_cases h7 : (cntD ((t.take 16).drop 11) : Int) = 5
          · rw [decide_eq_true h7]
            exact good ⟨by omega, by omega, by omega, by omega, by omega, h5⟩
          · rw [decide_eq_false h7]
            exact bad fun hh => by have := hh.2.2.1; omega
        · have h6 := ndT (beqf h6)
          exact ⟨rfl, Let.intro (bad fun hh => by have := hh.1; omega)⟩
      | false =>
        refine ⟨fun h => absurd h (by decide), fun _ => ?_⟩
        have bd := bad fun hh => by have := hh.2.2.2.2.2; rw [h5] at this; cases this
        exact ⟨rfl, Let.intro ⟨fun h => absurd h (by decide), fun _ => ⟨rfl, Let.intro bd⟩⟩⟩
    · have h2 := (orF _ _).1 (beqn h2)
      have bd := bad fun hh => by have := hh.2.2.2.2.1; omega
      exact ⟨rfl, Let.intro ⟨fun h => absurd h (by decide), fun _ => ⟨rfl, Let.intro ⟨fun h => absurd h (by decide), fun _ => ⟨rfl, Let.intro bd⟩⟩⟩⟩⟩
  · have h := (andF' _ _).1 (beqn h)
    have bd := bad fun hh => by have := hh.2.1; have := hh.2.2.2.1; omega
    exact ⟨rfl, Let.intro ⟨fun h => absurd h (by decide), fun _ => ⟨rfl, Let.intro ⟨fun h => absurd h (by decide), fun _ => ⟨rfl, Let.intro ⟨fun h => absurd h (by decide), fun _ => ⟨rfl, Let.intro bd⟩⟩⟩⟩⟩⟩⟩
end Go.Proofs.Sim.Se

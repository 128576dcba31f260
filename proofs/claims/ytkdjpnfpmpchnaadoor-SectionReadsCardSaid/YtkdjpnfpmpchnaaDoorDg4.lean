import Derived.Test.YtkdjpnfpmpchnaaDoorDg3
namespace Go.Proofs.Sim.Se
open Go Go.Proofs Go.Proofs.Sim Go.RowKit
set_option maxRecDepth 100000
set_option linter.unusedVariables false
set_option linter.unusedSimpArgs false
def isBS (b : Bool) (s : List UInt8) : AV := .tup [.imm (.bool b), .imm (.str s)]
def isSP (s : List UInt8) (n : Int) : AV := .tup [.imm (.str s), .imm (.int .i64 n)]
theorem signed_gen (signs : List UInt8) (c : UInt8) (r : List UInt8) : Call E0.P fn_digits_signed [.imm (.str (c :: r)), .imm (.str signs)] []
    (Is (if 0 ≤ Lib.indexByte signs c then isBS (decide (c.toNat = 45)) r else isBS false (c :: r)) []) := by
  refine F_digits_signed_of _ _ _ ⟨fun _ => by simp <;> omega, Let.intro ⟨fun _ => ?_, fun h => absurd h (by simp)⟩⟩
  rw [show List.take 1 (c :: r) = [c] from rfl]
  refine Call.use (S_strings_Contains _ _) ⟨⟨rfl, rfl⟩, ?_⟩
  rw [rB_bool]
  refine Let.intro (C_digits_signed_1_of _ _ _ ⟨fun h => ?_, fun h => ?_⟩)
  · refine K_digits_signed_1_x0 _ _ _ ⟨?_, rfl⟩
    rw [if_neg (by simpa using h)]; rfl
  · refine K_digits_signed_1_x1 _ _ (C_digits_signed_3_of _ _ ⟨by simp <;> omega, ⟨by simp <;> omega, Let.intro ?_⟩⟩)
    refine K_digits_signed_0_x0 _ _ _ ⟨?_, rfl⟩
    rw [if_pos (by simpa using h)]
    simp only [isBS, List.drop_one, List.tail_cons, List.getD_cons_zero]
    congr 4
    rw [Bool.eq_iff_iff]; simp; omega
theorem signed_nil (signs : List UInt8) : Call E0.P fn_digits_signed [.imm (.str []), .imm (.str signs)] [] (Is (isBS false []) []) := by
  refine F_digits_signed_of _ _ _ ⟨fun h => absurd h (by simp), Let.intro ⟨fun h => absurd h (by simp), fun _ => ⟨rfl, Let.intro (C_digits_signed_1_of _ _ _ ⟨fun h => ?_, fun h => absurd h (by simp)⟩)⟩⟩⟩
  exact K_digits_signed_1_x0 _ _ _ ⟨rfl, rfl⟩
theorem index_m (c : UInt8) : 0 ≤ Lib.indexByte [45] c ↔ c.toNat = 45 := by
  have e : ((45 : UInt8) == c) = decide (c.toNat = 45) := by
    rw [Bool.eq_iff_iff]; simp; constructor
    · rintro rfl; rfl
    · intro h; exact (UInt8.toNat_inj.1 h).symm
  simp only [Lib.indexByte, e, decide_eq_true_eq]
  split
  · simp; assumption
  · simp; assumption
theorem index_pm (c : UInt8) : 0 ≤ Lib.indexByte [43, 45] c ↔ c.toNat = 43 ∨ c.toNat = 45 := by
  have e : ((43 : UInt8) == c) = decide (c.toNat = 43) := by
    rw [Bool.eq_iff_iff]; simp; constructor
    · rintro rfl; rfl
    · intro h; exact (UInt8.toNat_inj.1 h).symm
  have h1 := index_m c
  have h2 := Lib.indexByte_ge [45] c
  rw [Lib.indexByte, e]
  simp only [decide_eq_true_eq]
  split
  · simp; left; assumption
  · split
    · rename_i h3 h4
      have h4 : Lib.indexByte [45] c = -1 := by simpa using h4
      omega
    · rename_i h3 h4
      have h4 : Lib.indexByte [45] c ≠ -1 := by simpa using h4
      omega
theorem S_signed_m (s : List UInt8) : Call E0.P fn_digits_signed [.imm (.str s), .imm (.str [45])] [] (Is (isBS (isM s) (dropM s)) []) := by
  cases s with
  | nil => exact signed_nil _
  | cons c r =>
    have := signed_gen [45] c r
    simp only [index_m] at this
    by_cases h : c.toNat = 45
    · rw [if_pos h] at this; simpa [isM, dropM, h] using this
    · rw [if_neg h] at this; simpa [isM, dropM, h] using this
theorem S_signed_pm (s : List UInt8) : Call E0.P fn_digits_signed [.imm (.str s), .imm (.str [43, 45])] [] (Is (isBS (isM s) (dropPM s)) []) := by
  cases s with
  | nil => exact signed_nil _
  | cons c r =>
    have := signed_gen [43, 45] c r
    simp only [index_pm] at this
    by_cases h : c.toNat = 43 ∨ c.toNat = 45
    · rw [if_pos h] at this
      have e : isM (c :: r) = decide (c.toNat = 45) := rfl
      rw [e]; simpa [dropPM, h] using this
    · rw [if_neg h] at this
      have e : isM (c :: r) = false := by simp [isM]; omega
      rw [e]; simpa [dropPM, h] using this
theorem neg_fix (s : List UInt8) : IntKind.i64.wrap (0 - (fixS s).1) = -(fixS s).1 := by
  have := fixS_le s
  rw [wrap_id _ (by omega) (by omega)]; omega
theorem dropPM_le (s : List UInt8) : (dropPM s).length ≤ s.length := by
  unfold dropPM; split
  · split <;> simp
  · simp
theorem dropM_le (s : List UInt8) : (dropM s).length ≤ s.length := by
  unfold dropM; split
  · split <;> simp
  · simp
theorem S_digits_Loose (s : List UInt8) (hs : s.length ≤ 9223372036854775806) : Call E0.P fn_digits_Loose [.imm (.str s)] [] (Is (isP (looseS s)) []) := by
  refine F_digits_Loose_of _ _ (Call.use (S_signed_pm s) ⟨⟨rfl, rfl⟩, ?_⟩)
  refine Call.use (S_digits_Fixed (dropPM s) (by have := dropPM_le s; omega)) ⟨⟨rfl, rfl⟩, ?_⟩
  show Br (isM s) (C_digits_Loose_4 (IntKind.i64.wrap (0 - (fixS (dropPM s)).1)) _ _) _
  rw [neg_fix]
  refine ⟨fun h => ?_, fun h => ?_⟩ <;> refine C_digits_Loose_4_of _ _ _ (K_digits_Loose_0_x0 _ _ _ ⟨?_, rfl⟩) <;> rw [looseS, h] <;> rfl
theorem S_r02_Loose (s : List UInt8) (hs : s.length ≤ 9223372036854775806) : Call E0.P fn_r02_Loose [.imm (.str s)] [] (Is (isP (looseS s)) []) := by
  have main : ∀ Q, Call E0.P fn_r02_Fixed [.imm (.str (dropPM s))] [] (Is (isP (fixS (dropPM s))) []) → Q (isP (looseS s)) [] → C_r02_Loose_3 (dropPM s) (isM s) (K_r02_Loose_0 Q) := by
    intro Q hc hq
    refine C_r02_Loose_3_of _ _ _ (Call.use hc ⟨⟨rfl, rfl⟩, ?_⟩)
    show Br (isM s) (C_r02_Loose_6 (IntKind.i64.wrap (0 - (fixS (dropPM s)).1)) _ _) _
    rw [neg_fix]
    refine ⟨fun h => ?_, fun h => ?_⟩ <;> refine C_r02_Loose_6_of _ _ _ (K_r02_Loose_1_x0 _ _ _ (K_r02_Loose_0_x0 _ _ _ ?_)) <;> rw [isP, looseS, h] at hq <;> exact hq
  have hf := S_r02_Fixed (dropPM s) (by have := dropPM_le s; omega)
  refine F_r02_Loose_of _ _ ⟨fun h => ?_, Let.intro ⟨fun h => ?_, ⟨fun h => ?_, fun h => ⟨rfl, Let.intro ⟨fun h => absurd h (by simp), fun _ => ?_⟩⟩⟩⟩⟩
  · cases s with
    | nil => simp at h
    | cons c r => simp
  · cases s with
    | nil => simp at h
    | cons c r => simp
  · cases s with
    | nil => simp at h
    | cons c r =>
      refine ⟨fun _ => by simp <;> omega, Let.intro (Let.intro ⟨fun h => ?_, fun h => ?_⟩)⟩
      · refine ⟨by simp <;> omega, Let.intro ?_⟩
        have hc : c.toNat = 43 ∨ c.toNat = 45 := by simp at h; omega
        have e1 : dropPM (c :: r) = r := by simp [dropPM, hc]
        have e2 : isM (c :: r) = (bif !(c :: r) == [] then decide ((((c :: r).getD 0 0).toNat : Int) = 45) else false) := by
          rw [Bool.eq_iff_iff]; simp [isM]; omega
        have := main (Is (isP (looseS _)) []) hf ⟨rfl, rfl⟩
        rw [e1, e2] at this
        exact this
      · have hc : ¬ (c.toNat = 43 ∨ c.toNat = 45) := by simp at h; omega
        have e1 : dropPM (c :: r) = c :: r := by simp [dropPM, hc]
        have e2 : isM (c :: r) = (bif !(c :: r) == [] then decide ((((c :: r).getD 0 0).toNat : Int) = 45) else false) := by
          rw [Bool.eq_iff_iff]; simp [isM]; omega
        have := main (Is (isP (looseS _)) []) hf ⟨rfl, rfl⟩
        rw [e1, e2] at this
        exact this
  · cases s with
    | nil => exact main (Is (isP (looseS _)) []) hf ⟨rfl, rfl⟩
    | cons c r => simp at h
theorem S_digits_held (n : Int) : Call E0.P fn_digits_held [.imm (.int .i64 n)] [] (Is (.imm (.bool (decide (-2147483647 ≤ n) && decide (n ≤ 2147483647)))) []) := by
  refine F_digits_held_of _ _ (Let.intro ⟨?_, rfl⟩)
  cases decide (-2147483647 ≤ n) <;> rfl
theorem S_digits_Put (n : Int) (h0 : -9223372036854775808 ≤ n) (h1 : n ≤ 9223372036854775807) : Call E0.P fn_digits_Put [.imm (.int .i64 n)] [] (Is (.imm (.str (Lib.itoa n))) []) :=
  F_digits_Put_of _ _ (Call.use (S_strconv_Itoa n h0 h1) ⟨⟨rfl, rfl⟩, ⟨rfl, rfl⟩⟩)
end Go.Proofs.Sim.Se

import Derived.Test.YtkdjpnfpmpchnaaDoorDg5
import Derived.Test.YtkdjpnfpmpchnaaDoorScL
namespace Go.Proofs.Sim.Se
open Go Go.Proofs Go.Proofs.Sim Go.RowKit
set_option maxRecDepth 100000
set_option linter.unusedVariables false
set_option linter.unusedSimpArgs false
def rowIV (r : R4) : List IV := [.int .i64 r.n, .int .i64 r.k, .int .i64 r.a, .int .i64 r.g]
def rowsIV (l : List R4) : List (List IV) := l.map rowIV
theorem rowsIV_len (l : List R4) : (rowsIV l).length = l.length := by simp [rowsIV]
theorem rows_at (l : List R4) (n : Nat) (h : n < l.length) : (rowsIV l).getD n [] = rowIV l[n] := by
  simp [rowsIV, List.getD_eq_getElem?_getD, h]
theorem row_g0 (r : R4) : gI (rowIV r) 0 = r.n := rfl
theorem row_g1 (r : R4) : gI (rowIV r) 1 = r.k := rfl
theorem row_g2 (r : R4) : gI (rowIV r) 2 = r.a := rfl
theorem row_g3 (r : R4) : gI (rowIV r) 3 = r.g := rfl
theorem row_ok (r : R4) : shOK [.int .i64, .int .i64, .int .i64, .int .i64] (rowIV r) = true := rfl
theorem ndT {p : Prop} {i : Decidable p} (h : (!@decide p i) = true) : ¬ p := by
  intro hp
  rw [@decide_eq_true p i hp] at h; cases h
theorem ndF {p : Prop} {i : Decidable p} (h : (!@decide p i) = false) : p := by
  cases hd : @decide p i with
  | true => exact of_decide_eq_true hd
  | false => rw [hd] at h; cases h
theorem andT (p q : Prop) {i : Decidable p} {j : Decidable q} : ((bif !decide p then !decide q else false) = true ↔ (¬ p ∧ ¬ q)) := by
  by_cases p <;> by_cases q <;> simp_all
theorem andF (p q : Prop) {i : Decidable p} {j : Decidable q} : ((bif !decide p then !decide q else false) = false ↔ ¬ (¬ p ∧ ¬ q)) := by
  by_cases p <;> by_cases q <;> simp_all
theorem S_section_out (n m : Int) : Call E0.P fn_section_out [.imm (.int .i64 n), .imm (.int .i64 m)] [] (Is (.imm (.bool (bif decide (n < 0) then true else decide (m < n)))) []) :=
  F_section_out_of _ _ _ (Let.intro ⟨rfl, rfl⟩)
theorem chk_step (last : Int) (l : List R4) (n : Nat) (h : n < l.length) : chkS last (l.drop n) = if l[n].n ≤ last then 15 else if 8388607 < l[n].n then 3 else if l[n].k ≠ 0 ∧ l[n].k ≠ 1 then 10
    else if l[n].a < 0 ∨ 67108864 < l[n].a ∨ l[n].g < 0 ∨ 65535 < l[n].g then 3 else chkS l[n].n (l.drop (n + 1)) := by
  rw [List.drop_eq_getElem_cons h]; rfl
theorem L_section_Check (sk : SK) (l : List R4) (hl : l.length ≤ 1000000) (Q : AV → Heap → Prop) (m : Nat) : ∀ (n : Nat) (last : Int), l.length + 1 ≤ n + m → n ≤ l.length →
    (chkS last (l.drop n) = 0 → Q (.imm (.int .i64 0)) []) → (chkS last (l.drop n) ≠ 0 → Q (.imm (.int .i64 (chkS last (l.drop n)))) []) →
    L_section_Check_3 last sk (rowsIV l) l.length n (K_section_Check_1 Q) := by
  induction m with
  | zero => intro n _ hm hn; omega
  | succ m ih =>
    intro n last hm hn h0 h1
    refine L_section_Check_3_of _ _ _ _ _ _ ⟨fun h => ?_, fun h => ?_⟩
    · have hn' : n < l.length := by have := of_decide_eq_true h; omega
      have e := chk_step last l n hn'
      simp only [Int.toNat_natCast, rows_at l n hn', row_g0, row_g1, row_g2, row_g3, rowsIV_len]
      refine ⟨⟨by omega, row_ok _⟩, ⟨fun h => ?_, fun h => ?_⟩⟩
      · rw [e, if_pos (of_decide_eq_true h)] at h1
        exact K_section_Check_1_x0 _ _ (h1 (by decide))
      rw [if_neg (of_decide_eq_false h)] at e
      refine ⟨fun h => ?_, fun h => ?_⟩
      · rw [e, if_pos (of_decide_eq_true h)] at h1
        exact K_section_Check_1_x0 _ _ (h1 (by decide))
      rw [if_neg (of_decide_eq_false h)] at e
      refine Let.intro ⟨fun h => ?_, fun h => ?_⟩
      · rw [e, if_pos ((andT _ _).1 h)] at h1
        exact K_section_Check_1_x0 _ _ (h1 (by decide))
      rw [if_neg ((andF _ _).1 h)] at e
      refine Call.use (S_section_out _ _) ⟨⟨rfl, rfl⟩, ?_⟩
      rw [rB_bool]
      have fin : (¬ (l[n].a < 0 ∨ 67108864 < l[n].a ∨ l[n].g < 0 ∨ 65535 < l[n].g)) → C_section_Check_16 sk (rowsIV l) l.length n l[n].n l[n].k l[n].a l[n].g (K_section_Check_3 (K_section_Check_1 Q)) := by
        intro hh
        rw [if_neg hh] at e
        refine C_section_Check_16_of _ _ _ _ _ _ _ _ _ (K_section_Check_3_x0 _ _ _ _ _ _ (C_section_Check_17_of _ _ _ _ _ _ ?_))
        rw [wrap_id _ (by omega) (by omega)]
        refine K_section_Check_2_x0 _ _ _ _ _ _ ?_
        rw [e] at h0 h1
        exact ih (n + 1) _ (by omega) (by omega) h0 h1
      have bad : (l[n].a < 0 ∨ 67108864 < l[n].a ∨ l[n].g < 0 ∨ 65535 < l[n].g) → Q (.imm (.int .i64 3)) [] := by
        intro hh
        rw [e, if_pos hh] at h1
        exact h1 (by decide)
      refine ⟨fun h => ?_, fun h => ⟨rfl, Let.intro ⟨fun _ => ?_, fun h => absurd h (by decide)⟩⟩⟩
      · have h := (orF _ _).1 (eq_of_beq h)
        refine Call.use (S_section_out _ _) ⟨⟨rfl, rfl⟩, ?_⟩
        rw [rB_bool]
        refine Let.intro ⟨fun h2 => ?_, fun h2 => ?_⟩
        · have h2 := (orB _ _).1 h2
          exact K_section_Check_1_x0 _ _ (bad (by omega))
        · have h2 := (orF _ _).1 h2
          exact fin (by omega)
      · have h := (orB _ _).1 (beqf h)
        exact K_section_Check_1_x0 _ _ (bad (by omega))
    · have hn' : ¬ n < l.length := by have := of_decide_eq_false h; omega
      rw [List.drop_eq_nil_of_le (by omega)] at h0
      exact K_section_Check_1_x1 _ (C_section_Check_18_of _ (K_section_Check_0_x0 _ _ (h0 rfl)))
theorem S_section_Check (sk : SK) (l : List R4) (hl : l.length ≤ 1000000) : Call E0.P fn_section_Check [.imm (.sl sk 4 (rowsIV l))] [] (Is (.imm (.int .i64 (chkS (-1) l))) []) := by
  refine F_section_Check_of _ _ _ ?_
  rw [rowsIV_len]
  refine L_section_Check sk l hl _ (l.length + 1) 0 (-1) (by omega) (by omega) ?_ ?_
  · intro h; rw [List.drop_zero] at h; rw [h]; exact ⟨rfl, rfl⟩
  · intro h; exact ⟨rfl, rfl⟩
theorem L_r22_Check (sk : SK) (l : List R4) (hl : l.length ≤ 1000000) (Q : AV → Heap → Prop) (m : Nat) : ∀ (n : Nat) (last : Int), l.length + 1 ≤ n + m → n ≤ l.length →
    (chkS last (l.drop n) = 0 → Q (.imm (.int .i64 0)) []) → (chkS last (l.drop n) ≠ 0 → Q (.imm (.int .i64 (chkS last (l.drop n)))) []) →
    L_r22_Check_3 sk (rowsIV l) last n (K_r22_Check_1 Q) := by
  induction m with
  | zero => intro n _ hm hn; omega
  | succ m ih =>
    intro n last hm hn h0 h1
    refine L_r22_Check_3_of _ _ _ _ _ ?_
    rw [rowsIV_len]
    refine ⟨fun h => ?_, fun h => ?_⟩
    · have hn' : n < l.length := by have := of_decide_eq_true h; omega
      have e := chk_step last l n hn'
      simp only [Int.toNat_natCast, rows_at l n hn', row_g0, row_g1, row_g2, row_g3, rowsIV_len]
      refine ⟨⟨by omega, row_ok _⟩, ⟨fun h => ?_, fun h => ?_⟩⟩
      · rw [e, if_pos (of_decide_eq_true h)] at h1
        exact K_r22_Check_1_x0 _ _ (h1 (by decide))
      rw [if_neg (of_decide_eq_false h)] at e
      refine ⟨fun h => ?_, fun h => ?_⟩
      · rw [e, if_pos (of_decide_eq_true h)] at h1
        exact K_r22_Check_1_x0 _ _ (h1 (by decide))
      rw [if_neg (of_decide_eq_false h)] at e
      refine Let.intro ⟨fun h => ?_, fun h => ?_⟩
      · rw [e, if_pos ((andT _ _).1 h)] at h1
        exact K_r22_Check_1_x0 _ _ (h1 (by decide))
      rw [if_neg ((andF _ _).1 h)] at e
      refine Let.intro (Let.intro (Let.intro ⟨fun h => ?_, fun h => ?_⟩))
      · rw [orB', orB', orB] at h
        rw [e, if_pos (by omega)] at h1
        exact K_r22_Check_1_x0 _ _ (h1 (by decide))
      · have h : ¬ ((bif (bif (bif decide (l[n].a < 0) then true else decide (67108864 < l[n].a)) then true else decide (l[n].g < 0)) then true else decide (65535 < l[n].g)) = true) := by rw [h]; decide
        rw [orB', orB', orB] at h
        rw [if_neg (by omega)] at e
        rw [wrap_id _ (by omega) (by omega)]
        rw [e] at h0 h1
        exact ih (n + 1) _ (by omega) (by omega) h0 h1
    · have hn' : ¬ n < l.length := by have := of_decide_eq_false h; omega
      rw [List.drop_eq_nil_of_le (by omega)] at h0
      exact K_r22_Check_1_x1 _ (C_r22_Check_18_of _ (K_r22_Check_0_x0 _ _ (h0 rfl)))
theorem S_r22_Check (sk : SK) (l : List R4) (hl : l.length ≤ 1000000) : Call E0.P fn_r22_Check [.imm (.sl sk 4 (rowsIV l))] [] (Is (.imm (.int .i64 (chkS (-1) l))) []) := by
  refine F_r22_Check_of _ _ _ ?_
  refine L_r22_Check sk l hl _ (l.length + 1) 0 (-1) (by omega) (by omega) ?_ ?_
  · intro h; rw [List.drop_zero] at h; rw [h]; exact ⟨rfl, rfl⟩
  · intro h; exact ⟨rfl, rfl⟩
end Go.Proofs.Sim.Se

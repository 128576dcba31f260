import Derived.Test.YtkdjpnfpmpchnaaDoorSc1
namespace Go.Proofs.Sim.Se
open Go Go.Proofs Go.Proofs.Sim Go.RowKit
set_option maxRecDepth 100000
set_option linter.unusedVariables false
set_option linter.unusedSimpArgs false
theorem S_section_head (n m : Int) (h0 : -9223372036854775808 ≤ n) (h1 : n ≤ 9223372036854775807) (h2 : -9223372036854775808 ≤ m) (h3 : m ≤ 9223372036854775807) :
    Call E0.P fn_section_head [.imm (.int .i64 n), .imm (.int .i64 m)] [] (Is (.imm (.str (headS n m))) []) := by
  have l1 := itoa_len n h0 h1
  have l2 := itoa_len m h2 h3
  refine F_section_head_of _ _ _ (Call.use (S_digits_Put n h0 h1) ⟨⟨rfl, rfl⟩, ?_⟩)
  rw [rS_str]
  refine ⟨by omega, Call.use (S_digits_Put m h2 h3) ⟨⟨rfl, rfl⟩, ?_⟩⟩
  rw [rS_str]
  exact ⟨by simp; omega, ⟨by simp; omega, ⟨rfl, rfl⟩⟩⟩
theorem S_section_line (x : R4) (hx : OkR x) : Call E0.P fn_section_line [.imm (.agg [.int .i64 x.k, .int .i64 x.a, .int .i64 x.g])] [] (Is (.imm (.str (lineS x))) []) := by
  have l1 := pad_len x.a 10
  have l2 := pad_len x.g 5
  rw [if_pos (by omega)] at l1 l2
  have ⟨_, _, hk, a0, a1, g0, g1⟩ := hx
  refine F_section_line_of _ _ _ _ (Call.use (S_digits_Pad x.a 10 (by omega) (by omega)) ⟨⟨rfl, rfl⟩, ?_⟩)
  refine Call.use (S_digits_Pad x.g 5 (by omega) (by omega)) ⟨⟨rfl, rfl⟩, ?_⟩
  have f0 : ∀ (s : List UInt8) (k : Int), rS (rT (isSP s k) 0) = s := fun _ _ => rfl
  rw [f0, f0]
  refine ⟨fun h => ?_, fun h => ?_⟩
  · have h := of_decide_eq_true h
    refine C_section_line_5_of _ _ _ _ ⟨by omega, ⟨by simp; omega, ⟨by simp; omega, ⟨by simp; omega, ⟨by simp; omega, K_section_line_0_x0 _ _ ⟨?_, rfl⟩⟩⟩⟩⟩⟩
    rw [lineS, if_pos h]
  · have h := of_decide_eq_false h
    refine C_section_line_5_of _ _ _ _ ⟨by omega, ⟨by simp; omega, ⟨by simp; omega, ⟨by simp; omega, ⟨by simp; omega, K_section_line_0_x0 _ _ ⟨?_, rfl⟩⟩⟩⟩⟩⟩
    rw [lineS, if_neg h]
theorem S_r22_line (x : R4) (hx : OkR x) : Call E0.P fn_r22_line [.imm (.agg [.int .i64 x.n, .int .i64 x.k, .int .i64 x.a, .int .i64 x.g])] [] (Is (.imm (.str (lineS x))) []) := by
  have l1 := pad_len x.a 10
  have l2 := pad_len x.g 5
  rw [if_pos (by omega)] at l1 l2
  have ⟨_, _, hk, a0, a1, g0, g1⟩ := hx
  refine F_r22_line_of _ _ _ _ _ (Call.use (S_r02_Pad x.a 10 (by omega) (by omega)) ⟨⟨rfl, rfl⟩, ?_⟩)
  refine Call.use (S_r02_Pad x.g 5 (by omega) (by omega)) ⟨⟨rfl, rfl⟩, ?_⟩
  have f0 : ∀ (s : List UInt8) (k : Int), rS (rT (isSP s k) 0) = s := fun _ _ => rfl
  rw [f0, f0]
  refine ⟨fun h => ?_, fun h => ?_⟩
  · have h := of_decide_eq_true h
    refine ⟨by omega, ⟨by simp; omega, ⟨by simp; omega, ⟨?_, rfl⟩⟩⟩⟩
    rw [lineS, if_pos h]; simp only [List.append_assoc]; rfl
  · have h := of_decide_eq_false h
    refine ⟨by omega, ⟨by simp; omega, ⟨by simp; omega, ⟨?_, rfl⟩⟩⟩⟩
    rw [lineS, if_neg h]; simp only [List.append_assoc]; rfl
theorem run_step (l : List R4) (i : Nat) (h : i < l.length) (n : Int) : run n (l.drop i) = if l[i].n = n then run (n + 1) (l.drop (i + 1)) + 1 else 0 := by
  rw [List.drop_eq_getElem_cons h]; rfl
theorem run_end (l : List R4) (i : Nat) (h : ¬ i < l.length) (n : Int) : run n (l.drop i) = 0 := by
  rw [List.drop_eq_nil_of_le (by omega)]; rfl
theorem andT' (p q : Prop) {i : Decidable p} {j : Decidable q} : ((bif decide p then decide q else false) = true ↔ (p ∧ q)) := by
  by_cases p <;> by_cases q <;> simp_all
theorem andF' (p q : Prop) {i : Decidable p} {j : Decidable q} : ((bif decide p then decide q else false) = false ↔ ¬ (p ∧ q)) := by
  by_cases p <;> by_cases q <;> simp_all
theorem L_r22_Part (sk : SK) (l : List R4) (hl : l.length ≤ 1000000) (hok : ∀ x ∈ l, OkR x) (i : Nat) (hi : i < l.length) (Q : AV → Heap → Prop) (f : Nat) : ∀ (m : Nat), l.length + 1 ≤ i + m + f → i + m ≤ l.length →
    Q (.imm (.int .i64 ((m + run (l[i].n + m) (l.drop (i + m)) : Nat) : Int))) [] → L_r22_Part_2 sk (rowsIV l) i m (K_r22_Part_1 Q) := by
  induction f with
  | zero => intro m hm hn; omega
  | succ f ih =>
    intro m hm hn hQ
    have hx := hok l[i] (List.getElem_mem hi)
    have hx0 := hx.n0
    have hx1 := hx.n1
    have e1 : IntKind.i64.wrap ((i : Int) + (m : Int)) = ((i + m : Nat) : Int) := by rw [wrap_id _ (by omega) (by omega)]; omega
    have e2 : IntKind.i64.wrap (l[i].n + (m : Int)) = l[i].n + m := wrap_id _ (by omega) (by omega)
    refine L_r22_Part_2_of _ _ _ _ _ ?_
    rw [e1, rowsIV_len]
    simp only [Int.toNat_natCast, rows_at l i hi, row_g0, e2]
    by_cases hn' : i + m < l.length
    · rw [rows_at l (i + m) hn', row_g0]
      refine ⟨fun _ => ⟨by omega, row_ok _⟩, ⟨fun _ => ⟨by omega, row_ok _⟩, Let.intro ⟨fun h => ?_, fun h => ?_⟩⟩⟩
      · have h := (andT' _ _).1 h
        have e := run_step l (i + m) hn' (l[i].n + m)
        rw [if_pos h.2] at e
        rw [wrap_id _ (by omega) (by omega)]
        refine ih (m + 1) (by omega) (by omega) ?_
        have e3 : m + 1 + run (l[i].n + ((m + 1 : Nat) : Int)) (l.drop (i + (m + 1))) = m + run (l[i].n + m) (l.drop (i + m)) := by
          rw [e, show l[i].n + ((m + 1 : Nat) : Int) = l[i].n + m + 1 by omega, show i + (m + 1) = i + m + 1 by omega]; omega
        rw [e3]
        exact hQ
      · have h := (andF' _ _).1 h
        have e := run_step l (i + m) hn' (l[i].n + m)
        rw [if_neg (by omega)] at e
        rw [e] at hQ
        exact K_r22_Part_1_x0 _ _ (C_r22_Part_6_of _ _ (K_r22_Part_0_x0 _ _ hQ))
    · have hd : decide (((i + m : Nat) : Int) < (l.length : Int)) = false := decide_eq_false (by omega)
      simp only [hd, cond_false]
      refine ⟨fun h => absurd h (by decide), ⟨fun h => absurd h (by decide), Let.intro ⟨fun h => absurd h (by decide), fun h => ?_⟩⟩⟩
      rw [run_end l _ hn'] at hQ
      exact K_r22_Part_1_x0 _ _ (C_r22_Part_6_of _ _ (K_r22_Part_0_x0 _ _ hQ))
theorem S_r22_Part (sk : SK) (l : List R4) (hl : l.length ≤ 1000000) (hok : ∀ x ∈ l, OkR x) (i : Nat) (hi : i < l.length) :
    Call E0.P fn_r22_Part [.imm (.sl sk 4 (rowsIV l)), .imm (.int .i64 i)] [] (Is (.imm (.int .i64 ((run (l[i].n + 1) (l.drop (i + 1)) + 1 : Nat) : Int))) []) := by
  refine F_r22_Part_of _ _ _ _ (L_r22_Part sk l hl hok i hi _ (l.length + 1) 1 (by omega) (by omega) ⟨?_, rfl⟩)
  rw [Nat.add_comm 1]; rfl
/-! ### The reference's Print -/
theorem lines_len (l : List R4) : (linesS l).length ≤ 20 * l.length := by
  induction l with
  | nil => simp [linesS]
  | cons x r ih => have := line_len x; simp [linesS]; omega
theorem L_r22_Print_in (sk : SK) (l : List R4) (hl : l.length ≤ 1000000) (hok : ∀ x ∈ l, OkR x) (i many : Nat) (hi : i + many ≤ l.length) (K : Ex → St → Prop) (f : Nat) : ∀ (m : Nat) (s : List UInt8), many + 1 ≤ m + f → m ≤ many →
    s.length + 20 * (many - m) ≤ 1000000000 →
    K (.exit 2) ⟨[(0, .imm (.sl sk 4 (rowsIV l))), (5, .imm (.str (s ++ linesS ((l.drop (i + m)).take (many - m))))), (6, .imm (.int .i64 i)), (7, .imm (.int .i64 many))], []⟩ →
    L_r22_Print_17 sk (rowsIV l) s i many m K := by
  induction f with
  | zero => intro m s hm hn; omega
  | succ f ih =>
    intro m s hm hn hs hK
    refine L_r22_Print_17_of _ _ _ _ _ _ _ ⟨fun h => ?_, fun h => ?_⟩
    · have hn' : m < many := by have := of_decide_eq_true h; omega
      have hi' : i + m < l.length := by omega
      have e1 : IntKind.i64.wrap ((i : Int) + (m : Int)) = ((i + m : Nat) : Int) := by rw [wrap_id _ (by omega) (by omega)]; omega
      rw [e1, rowsIV_len]
      simp only [Int.toNat_natCast, rows_at l _ hi', row_g0, row_g1, row_g2, row_g3]
      refine ⟨⟨by omega, row_ok _⟩, Call.use (S_r22_line l[i + m] (hok _ (List.getElem_mem hi'))) ⟨⟨rfl, rfl⟩, ?_⟩⟩
      rw [rS_str, wrap_id _ (by omega) (by omega)]
      have hll := line_len l[i + m]
      refine ⟨by omega, ?_⟩
      refine ih (m + 1) _ (by omega) (by omega) (by simp; omega) ?_
      have e2 : linesS ((l.drop (i + m)).take (many - m)) = lineS l[i + m] ++ linesS ((l.drop (i + (m + 1))).take (many - (m + 1))) := by
        rw [List.drop_eq_getElem_cons hi', show many - m = (many - (m + 1)) + 1 by omega, List.take_succ_cons, linesS]
        rfl
      rw [e2] at hK
      rw [List.append_assoc]
      exact hK
    · have hn' : m = many := by have := of_decide_eq_false h; omega
      subst hn'
      simp only [Nat.sub_self, List.take_zero, linesS, List.append_nil] at hK
      exact hK
theorem refP_drop (l : List R4) (i : Nat) (h : i < l.length) (m : Nat) : refP (m + 1) (l.drop i) = headS l[i].n ((run (l[i].n + 1) (l.drop (i + 1)) + 1 : Nat) : Int) ++
    (linesS ((l.drop i).take (run (l[i].n + 1) (l.drop (i + 1)) + 1)) ++ refP m (l.drop (i + (run (l[i].n + 1) (l.drop (i + 1)) + 1)))) := by
  conv => lhs; rw [List.drop_eq_getElem_cons h, refP]
  rw [← List.drop_eq_getElem_cons h, List.drop_drop]
theorem L_r22_Print (sk : SK) (l : List R4) (hl : l.length ≤ 1000000) (hok : ∀ x ∈ l, OkR x) (Q : AV → Heap → Prop) (f : Nat) : ∀ (i : Nat) (s : List UInt8), l.length ≤ i + f → i ≤ l.length →
    s.length + 100 * (l.length - i) ≤ 1000000000 →
    Q (isSP (s ++ refP f (l.drop i)) 0) [] → L_r22_Print_10 sk (rowsIV l) s i (K_r22_Print_1 Q) := by
  have fin : ∀ (i : Nat) (s : List UInt8), ¬ i < l.length → Q (isSP s 0) [] → L_r22_Print_10 sk (rowsIV l) s i (K_r22_Print_1 Q) := by
    intro i s hi hQ
    refine L_r22_Print_10_of _ _ _ _ _ ⟨fun h => ?_, fun h => ?_⟩
    · have := of_decide_eq_true h; rw [rowsIV_len] at this; omega
    · exact K_r22_Print_1_x0 _ _ (C_r22_Print_23_of _ _ (K_r22_Print_0_x0 _ _ _ hQ))
  induction f with
  | zero =>
    intro i s hm hn hs hQ
    refine fin i s (by omega) ?_
    rw [refP, List.append_nil] at hQ
    exact hQ
  | succ f ih =>
    intro i s hm hn hs hQ
    by_cases hi : i < l.length
    · rw [refP_drop l i hi] at hQ
      have hr : run (l[i].n + 1) (l.drop (i + 1)) + 1 ≤ l.length - i := by
        have := run_le (l.drop (i + 1)) (l[i].n + 1)
        rw [List.length_drop] at this; omega
      have hx := hok l[i] (List.getElem_mem hi)
      have hx0 := hx.n0
      have hx1 := hx.n1
      refine L_r22_Print_10_of _ _ _ _ _ ⟨fun h => ?_, fun h => ?_⟩
      · refine Call.use (S_r22_Part sk l hl hok i hi) ⟨⟨rfl, rfl⟩, ?_⟩
        generalize hR : run (l[i].n + 1) (l.drop (i + 1)) + 1 = many at *
        rw [rowsIV_len]
        simp only [Int.toNat_natCast, rows_at l _ hi, row_g0]
        refine ⟨⟨by omega, row_ok _⟩, Call.use (S_r02_Put _ (by omega) (by omega)) ⟨⟨rfl, rfl⟩, ?_⟩⟩
        rw [rS_str]
        have l1 := itoa_len l[i].n (by omega) (by omega)
        have l2 := itoa_len (many : Int) (by omega) (by omega)
        refine ⟨by omega, ⟨by simp; omega, ?_⟩⟩
        rw [rI_int]
        refine Call.use (S_r02_Put _ (by omega) (by omega)) ⟨⟨rfl, rfl⟩, ?_⟩
        rw [rS_str]
        refine ⟨by simp; omega, ⟨by simp; omega, ?_⟩⟩
        refine L_r22_Print_in sk l hl hok i many (by omega) _ (many + 1) 0 _ (by omega) (by omega) (by simp; omega) ?_
        refine K_r22_Print_3_x0 _ _ _ _ _ _ (C_r22_Print_22_of _ _ _ _ _ _ ?_)
        have e1 : IntKind.i64.wrap ((i : Int) + (many : Int)) = ((i + many : Nat) : Int) := by rw [wrap_id _ (by omega) (by omega)]; omega
        rw [e1]
        refine K_r22_Print_2_x0 _ _ _ _ _ ?_
        have l3 := lines_len ((l.drop i).take many)
        have l4 : ((l.drop i).take many).length ≤ many := by simp; omega
        refine ih (i + many) _ (by omega) (by omega) ?_ ?_
        · simp only [List.length_append, Nat.add_zero, Nat.sub_zero]
          simp; omega
        · have e2 : s ++ Lib.itoa l[i].n ++ [32] ++ Lib.itoa (many : Int) ++ [10] ++ linesS ((l.drop (i + 0)).take (many - 0)) ++ refP f (l.drop (i + many)) = s ++ (headS l[i].n many ++ (linesS ((l.drop i).take many) ++ refP f (l.drop (i + many)))) := by
            simp only [headS, List.append_assoc, Nat.add_zero, Nat.sub_zero]
          rw [e2]
          exact hQ
      · have := of_decide_eq_false h; rw [rowsIV_len] at this; omega
    · refine fin i s hi ?_
      rw [List.drop_eq_nil_of_le (by omega), refP, List.append_nil] at hQ
      exact hQ
theorem S_r22_Print (sk : SK) (l : List R4) (hl : l.length ≤ 1000000) : Call E0.P fn_r22_Print [.imm (.sl sk 4 (rowsIV l))] [] (Is (isSP (printS l).1 (printS l).2) []) := by
  refine F_r22_Print_of _ _ _ (Call.use (S_r22_Check sk l hl) ⟨⟨rfl, rfl⟩, ?_⟩)
  rw [rI_int]
  refine ⟨fun h => ?_, fun h => ?_⟩
  · have h := ndT h
    rw [printS, if_pos h]
    exact ⟨rfl, rfl⟩
  · have h := ndF h
    have hok := chk_ok l (-1) (by omega) h
    rw [rowsIV_len]
    refine ⟨fun h2 => ⟨by omega, ?_⟩, fun h2 => ?_⟩
    · have h2 := of_decide_eq_true h2
      have h2 : l = [] := List.eq_nil_of_length_eq_zero (by omega)
      rw [printS, if_neg (by simp [h]), if_pos h2]
      exact ⟨rfl, rfl⟩
    · have h2 := of_decide_eq_false h2
      have h2 : l ≠ [] := by rintro rfl; exact h2 rfl
      refine L_r22_Print sk l hl hok _ l.length 0 _ (by omega) (by omega) (by simp; omega) ?_
      rw [printS, if_neg (by simp [h]), if_neg h2, List.drop_zero, ← progP_ref l hok l.length (Nat.le_refl _)]
      exact ⟨rfl, rfl⟩
end Go.Proofs.Sim.Se

import Derived.Test.YtcdjheflchglaaaDoorDgA
import Derived.Test.YtcdjheflchglaaaDoorScLR
namespace Go.Proofs.Sim.Se
open Go Go.Proofs Go.Proofs.Sim Go.RowKit
set_option maxRecDepth 100000
set_option linter.unusedVariables false
set_option linter.unusedSimpArgs false
theorem ndT {p : Prop} {i : Decidable p} (h : (!@decide p i) = true) : ¬ p := by
  intro hp
  rw [@decide_eq_true p i hp] at h; cases h
theorem ndF {p : Prop} {i : Decidable p} (h : (!@decide p i) = false) : p := by
  cases hd : @decide p i with
  | true => exact of_decide_eq_true hd
  | false => rw [hd] at h; cases h
theorem andT (p q : Prop) {i : Decidable p} {j : Decidable q} : ((bif !decide p then !decide q else false) = true ↔ (¬ p ∧ ¬ q)) := by
  by_cases p <;> by_cases q <;> simp_all
theorem andF (p q : Prop) {i : Decidable p} {j : Decidable q} : ((bif !decide p then !decide q else false) = false ↔ ¬ (¬ p ∧ ¬ q)) := by
  by_cases p <;> by_cases q <;> simp_all
theorem S_section_out (n m : Int) : Call E0.P fn_section_out [.imm (.int .i64 n), .imm (.int .i64 m)] [] (Is (.imm (.bool (bif decide (n < 0) then true else decide (m < n)))) []) :=
  F_section_out_of _ _ _ (Let.intro ⟨rfl, rfl⟩)
theorem chk_stepS (last : Int) (l : List R4) (n : Nat) (h : n < l.length) : chkS last (l.drop n) = if l[n].n ≤ last then 15 else if 8388607 < l[n].n then 3 else if l[n].k ≠ 0 ∧ l[n].k ≠ 1 then 10
    else if l[n].a < 0 ∨ 67108864 < l[n].a ∨ l[n].g < 0 ∨ 65535 < l[n].g then 3 else chkS l[n].n (l.drop (n + 1)) := by
  rw [List.drop_eq_getElem_cons h]; rfl
theorem L_section_Check (l : List R4) (hl : l.length ≤ 1000000) (Q : AV → Heap → Prop) (m : Nat) : ∀ (n : Nat) (last : Int), l.length + 1 ≤ n + m → n ≤ l.length →
    (chkS last (l.drop n) = 0 → Q (.imm (.int .i64 0)) []) → (chkS last (l.drop n) ≠ 0 → Q (.imm (.int .i64 (chkS last (l.drop n)))) []) →
    L_section_Check_3 last (rowsIV l) l.length n (K_section_Check_1 Q) := by
  induction m with
  | zero => intro n _ hm hn; omega
  | succ m ih =>
    intro n last hm hn h0 h1
    refine L_section_Check_3_of _ _ _ _ _ ⟨fun h => ?_, fun h => ?_⟩
    · have hn' : n < l.length := by have := of_decide_eq_true h; omega
      have e := chk_stepS last l n hn'
      simp only [Int.toNat_natCast, rows_at l n hn', row_g0, row_g1, row_g2, row_g3, rowsIV_len]
      refine ⟨⟨by omega, rowOK _⟩, ⟨fun h => ?_, fun h => ?_⟩⟩
      · rw [e, if_pos (of_decide_eq_true h)] at h1
        exact K_section_Check_1_x0 _ _ (h1 (by decide))
      rw [if_neg (of_decide_eq_false h)] at e
      refine ⟨fun h => ?_, fun h => ?_⟩
      · rw [e, if_pos (of_decide_eq_true h)] at h1
        exact K_section_Check_1_x0 _ _ (h1 (by decide))
      rw [if_neg (of_decide_eq_false h)] at e
      refine Let.intro ⟨fun h => ?_, fun h => ?_⟩
      · rw [e, if_pos ((andT _ _).1 h)] at h1
        exact K_section_Check_1_x0 _ _ (h1 (by decide))
      rw [if_neg ((andF _ _).1 h)] at e
      refine Call.use (S_section_out _ _) ⟨⟨rfl, rfl⟩, ?_⟩
      rw [rB_bool]
      have fin : (¬ (l[n].a < 0 ∨ 67108864 < l[n].a ∨ l[n].g < 0 ∨ 65535 < l[n].g)) → C_section_Check_16 (rowsIV l) l.length n l[n].n l[n].k l[n].a l[n].g (K_section_Check_3 (K_section_Check_1 Q)) := by
        intro hh
        rw [if_neg hh] at e
        refine C_section_Check_16_of _ _ _ _ _ _ _ _ (K_section_Check_3_x0 _ _ _ _ _ (C_section_Check_17_of _ _ _ _ _ ?_))
        rw [wrap_id _ (by omega) (by omega)]
        refine K_section_Check_2_x0 _ _ _ _ _ ?_
        rw [e] at h0 h1
        exact ih (n + 1) _ (by omega) (by omega) h0 h1
      have bad : (l[n].a < 0 ∨ 67108864 < l[n].a ∨ l[n].g < 0 ∨ 65535 < l[n].g) → Q (.imm (.int .i64 3)) [] := by
        intro hh
        rw [e, if_pos hh] at h1
        exact h1 (by decide)
      refine ⟨fun h => ?_, fun h => ⟨rfl, Let.intro ⟨fun _ => ?_, fun h => absurd h (by decide)⟩⟩⟩
      · have h := (orF _ _).1 (eq_of_beq h)
        refine Call.use (S_section_out _ _) ⟨⟨rfl, rfl⟩, ?_⟩
        rw [rB_bool]
        refine Let.intro ⟨fun h2 => ?_, fun h2 => ?_⟩
        · have h2 := (orB _ _).1 h2
          exact K_section_Check_1_x0 _ _ (bad (by omega))
        · have h2 := (orF _ _).1 h2
          exact fin (by omega)
      · have h := (orB _ _).1 (beqf h)
        exact K_section_Check_1_x0 _ _ (bad (by omega))
    · have hn' : ¬ n < l.length := by have := of_decide_eq_false h; omega
      rw [List.drop_eq_nil_of_le (by omega)] at h0
      exact K_section_Check_1_x1 _ (C_section_Check_18_of _ (K_section_Check_0_x0 _ _ (h0 rfl)))
theorem S_section_Check (l : List R4) (hl : l.length ≤ 1000000) : Call E0.P fn_section_Check [.imm (.sl .any 4 (rowsIV l))] [] (Is (.imm (.int .i64 (chkS (-1) l))) []) := by
  refine F_section_Check_of _ _ ?_
  rw [rowsIV_len]
  refine L_section_Check l hl _ (l.length + 1) 0 (-1) (by omega) (by omega) ?_ ?_
  · intro h; rw [List.drop_zero] at h; rw [h]; exact ⟨rfl, rfl⟩
  · intro h; exact ⟨rfl, rfl⟩
end Go.Proofs.Sim.Se

namespace Go.Proofs.Sim.Se
open Go Go.Proofs Go.Proofs.Sim Go.RowKit
set_option maxRecDepth 100000
set_option linter.unusedVariables false
set_option linter.unusedSimpArgs false
theorem S_section_head (n m : Int) (h0 : -9223372036854775808 ≤ n) (h1 : n ≤ 9223372036854775807) (h2 : -9223372036854775808 ≤ m) (h3 : m ≤ 9223372036854775807) :
    Call E0.P fn_section_head [.imm (.int .i64 n), .imm (.int .i64 m)] [] (Is (.imm (.str (headS n m))) []) := by
  have l1 := itoa_len n h0 h1
  have l2 := itoa_len m h2 h3
  refine F_section_head_of _ _ _ (Call.use (S_digits_Put n h0 h1) ⟨⟨rfl, rfl⟩, ?_⟩)
  rw [rS_str]
  refine ⟨by omega, Call.use (S_digits_Put m h2 h3) ⟨⟨rfl, rfl⟩, ?_⟩⟩
  rw [rS_str]
  exact ⟨by simp; omega, ⟨by simp; omega, ⟨rfl, rfl⟩⟩⟩
theorem S_section_line (x : R4) (hx : OkR x) : Call E0.P fn_section_line [.imm (.agg [.int .i64 x.k, .int .i64 x.a, .int .i64 x.g])] [] (Is (.imm (.str (lineS x))) []) := by
  have l1 := pad_len x.a 10
  have l2 := pad_len x.g 5
  rw [if_pos (by omega)] at l1 l2
  have ⟨_, _, hk, a0, a1, g0, g1⟩ := hx
  refine F_section_line_of _ _ _ _ (Call.use (S_digits_Pad x.a 10 (by omega) (by omega)) ⟨⟨rfl, rfl⟩, ?_⟩)
  refine Call.use (S_digits_Pad x.g 5 (by omega) (by omega)) ⟨⟨rfl, rfl⟩, ?_⟩
  have f0 : ∀ (s : List UInt8) (k : Int), rS (rT (isSP s k) 0) = s := fun _ _ => rfl
  rw [f0, f0]
  refine ⟨fun h => ?_, fun h => ?_⟩
  · have h := of_decide_eq_true h
    refine C_section_line_5_of _ _ _ _ ⟨by omega, ⟨by simp; omega, ⟨by simp; omega, ⟨by simp; omega, ⟨by simp; omega, K_section_line_0_x0 _ _ ⟨?_, rfl⟩⟩⟩⟩⟩⟩
    rw [lineS, if_pos h]
  · have h := of_decide_eq_false h
    refine C_section_line_5_of _ _ _ _ ⟨by omega, ⟨by simp; omega, ⟨by simp; omega, ⟨by simp; omega, ⟨by simp; omega, K_section_line_0_x0 _ _ ⟨?_, rfl⟩⟩⟩⟩⟩⟩
    rw [lineS, if_neg h]
theorem run_stepS (l : List R4) (i : Nat) (h : i < l.length) (n : Int) : run n (l.drop i) = if l[i].n = n then run (n + 1) (l.drop (i + 1)) + 1 else 0 := by
  rw [List.drop_eq_getElem_cons h]; rfl
theorem run_endS (l : List R4) (i : Nat) (h : ¬ i < l.length) (n : Int) : run n (l.drop i) = 0 := by
  rw [List.drop_eq_nil_of_le (by omega)]; rfl
theorem andT' (p q : Prop) {i : Decidable p} {j : Decidable q} : ((bif decide p then decide q else false) = true ↔ (p ∧ q)) := by
  by_cases p <;> by_cases q <;> simp_all
theorem andF' (p q : Prop) {i : Decidable p} {j : Decidable q} : ((bif decide p then decide q else false) = false ↔ ¬ (p ∧ q)) := by
  by_cases p <;> by_cases q <;> simp_all
end Go.Proofs.Sim.Se

namespace Go.Proofs.Sim.Se
open Go Go.Proofs Go.Proofs.Sim Go.RowKit
set_option maxRecDepth 100000
set_option linter.unusedVariables false
set_option linter.unusedSimpArgs false
theorem byteRows_append (a b : List UInt8) : byteRows (a ++ b) = byteRows a ++ byteRows b := by simp [byteRows]
theorem byteRows_len (a : List UInt8) : (byteRows a).length = a.length := by simp [byteRows]
theorem byteRows_ok (a : List UInt8) : ∀ r ∈ byteRows a, shOK [.int .u8] r = true := by
  intro r hr
  simp only [byteRows, List.mem_map] at hr
  obtain ⟨b, _, rfl⟩ := hr
  rfl
theorem unbyte (a : List UInt8) : List.map (fun r => UInt8.ofNat (gI r 0).toNat) (byteRows a) = a := by
  induction a with
  | nil => rfl
  | cons b a ih =>
    have e : UInt8.ofNat (gI [IV.int .u8 (b.toNat : Int)] 0).toNat = b := by
      show UInt8.ofNat ((b.toNat : Int)).toNat = b
      simp
    have e2 : byteRows (b :: a) = [.int .u8 (b.toNat : Int)] :: byteRows a := rfl
    rw [e2, List.map_cons, e, ih]
theorem L_section_Print_in (l : List R4) (hl : l.length ≤ 1000000) (hok : ∀ x ∈ l, OkR x) (i : Nat) (hi : i < l.length) (t22r : List (List IV)) (t23 t24 h211 k a g : Int) (h51r : List (List IV)) (Q : Nat → Prop) (K : Ex → St → Prop)
    (hK : ∀ m : Nat, Q m → K_section_Print_5 K (.exit 2) ⟨[(0, .imm (.sl .any 4 (rowsIV l))), (5, .ptr (Nm.loc 5) 0), (6, .fn fn_section_parts_1 [.ptr (Nm.sub 21 (Nm.loc 1)) 0]), (8, .ptr (Nm.loc 8) 0), (9, .imm (.int .i64 m)), (22, .imm (.sl .any 4 t22r)), (23, .imm (.int .i64 t23)), (24, .imm (.int .i64 t24))],
      [(Nm.loc 5, .blk ty_strings_Builder [.ptr (Nm.loc 5) 0, .own ((Nm.loc 5).cell 1)]), (Nm.sub 21 (Nm.loc 1), .blk ty_int [.imm (.int .i64 h211)]), (Nm.loc 8, .blk ty_api_Row [.imm (.int .i64 l[i].n), .imm (.int .i64 k), .imm (.int .i64 a), .imm (.int .i64 g)]), ((Nm.loc 5).cell 1, .arr (ty_uint8 + 2) true 1 h51r)]⟩)
    (f : Nat) : ∀ (m : Nat), l.length + 1 ≤ i + m + f → i + m ≤ l.length → Q (m + run (l[i].n + m) (l.drop (i + m))) →
    L_section_Print_19 (rowsIV l) i m t22r t23 t24 h211 l[i].n k a g h51r (K_section_Print_5 K) := by
  induction f with
  | zero => intro m hm hn; omega
  | succ f ih =>
    intro m hm hn hQ
    have hx := hok l[i] (List.getElem_mem hi)
    have hx0 := hx.n0
    have hx1 := hx.n1
    have e1 : IntKind.i64.wrap ((i : Int) + (m : Int)) = ((i + m : Nat) : Int) := by rw [wrap_id _ (by omega) (by omega)]; omega
    have e2 : IntKind.i64.wrap (l[i].n + (m : Int)) = l[i].n + m := wrap_id _ (by omega) (by omega)
    refine L_section_Print_19_of _ _ _ _ _ _ _ _ _ _ _ _ _ ?_
    rw [e1, rowsIV_len, e2]
    simp only [Int.toNat_natCast]
    by_cases hn' : i + m < l.length
    · simp only [rows_at l (i + m) hn', row_g0]
      refine ⟨fun _ => ⟨by omega, rowOK _⟩, Let.intro ⟨fun h => ?_, fun h => ?_⟩⟩
      · have h := (andT' _ _).1 h
        have e := run_stepS l (i + m) hn' (l[i].n + m)
        rw [if_pos h.2] at e
        rw [wrap_id _ (by omega) (by omega)]
        refine ih (m + 1) (by omega) (by omega) ?_
        have e3 : m + 1 + run (l[i].n + ((m + 1 : Nat) : Int)) (l.drop (i + (m + 1))) = m + run (l[i].n + m) (l.drop (i + m)) := by
          rw [e, show l[i].n + ((m + 1 : Nat) : Int) = l[i].n + m + 1 by omega, show i + (m + 1) = i + m + 1 by omega]; omega
        rw [e3]
        exact hQ
      · have h := (andF' _ _).1 h
        have e := run_stepS l (i + m) hn' (l[i].n + m)
        rw [if_neg (by omega)] at e
        rw [e] at hQ
        exact hK m hQ
    · have hd : decide (((i + m : Nat) : Int) < (l.length : Int)) = false := decide_eq_false (by omega)
      simp only [hd, cond_false]
      refine ⟨fun h => absurd h (by decide), Let.intro ⟨fun h => absurd h (by decide), fun h => ?_⟩⟩
      rw [run_endS l _ hn'] at hQ
      exact hK m hQ
theorem progP_drop (l : List R4) (i : Nat) (h : i < l.length) (next : Int) : progP next (l.drop i) = (if l[i].n = next then [] else headS l[i].n ((run (l[i].n + 1) (l.drop (i + 1)) + 1 : Nat) : Int)) ++ (lineS l[i] ++ progP (l[i].n + 1) (l.drop (i + 1))) := by
  rw [List.drop_eq_getElem_cons h]; rfl
theorem L_section_Print (l : List R4) (hl : l.length ≤ 1000000) (hok : ∀ x ∈ l, OkR x) (Q : AV → Heap → Prop) (f : Nat) : ∀ (i : Nat) (next : Int) (s : List UInt8), l.length ≤ i + f → i ≤ l.length →
    s.length + 100 * (l.length - i) ≤ 1000000000 →
    Q (isSP (s ++ progP next (l.drop i)) 0) [] → L_section_Print_12 (rowsIV l) (rowsIV l) l.length i next (byteRows s) (K_section_Print_1 Q) := by
  have fin : ∀ (i : Nat) (next : Int) (s : List UInt8), ¬ i < l.length → s.length ≤ 1000000000 → Q (isSP s 0) [] → L_section_Print_12 (rowsIV l) (rowsIV l) l.length i next (byteRows s) (K_section_Print_1 Q) := by
    intro i next s hi hs hQ
    refine L_section_Print_12_of _ _ _ _ _ _ _ ⟨fun h => ?_, fun h => ?_⟩
    · have := of_decide_eq_true h; omega
    · refine K_section_Print_1_x0 _ _ (C_section_Print_26_of _ _ ⟨⟨⟨rfl, by rw [byteRows_len]; omega⟩, byteRows_ok s⟩, K_section_Print_0_x0 _ _ _ ?_⟩)
      rw [unbyte]; exact hQ
  induction f with
  | zero =>
    intro i next s hm hn hs hQ
    refine fin i next s (by omega) (by omega) ?_
    rw [List.drop_eq_nil_of_le (by omega), progP, List.append_nil] at hQ
    exact hQ
  | succ f ih =>
    intro i next s hm hn hs hQ
    by_cases hi : i < l.length
    · rw [progP_drop l i hi] at hQ
      have hx := hok l[i] (List.getElem_mem hi)
      have hx0 := hx.n0
      have hx1 := hx.n1
      have hll := line_len l[i]
      have step : ∀ (s' : List UInt8), s'.length + 58 + 100 * (l.length - (i + 1)) ≤ 1000000000 → Q (isSP (s' ++ (lineS l[i] ++ progP (l[i].n + 1) (l.drop (i + 1)))) 0) [] →
          C_section_Print_24 (rowsIV l) (rowsIV l) l.length i (l[i].n + 1) l[i].n l[i].k l[i].a l[i].g (byteRows s') (K_section_Print_3 (K_section_Print_1 Q)) := by
        intro s' hs' hQ'
        refine C_section_Print_24_of _ _ _ _ _ _ _ _ _ _ _ (Call.use (S_section_line l[i] hx) ⟨⟨rfl, rfl⟩, ?_⟩)
        rw [rS_str, byteRows_len, byteRows_len, ← byteRows_append]
        refine ⟨⟨by omega, by omega⟩, K_section_Print_3_x0 _ _ _ _ _ _ _ (C_section_Print_25_of _ _ _ _ _ _ _ (K_section_Print_2_x0 _ _ _ _ _ _ _ ?_))⟩
        rw [wrap_id _ (by omega) (by omega)]
        refine ih (i + 1) _ _ (by omega) (by omega) (by simp; omega) ?_
        rw [List.append_assoc]; exact hQ'
      refine L_section_Print_12_of _ _ _ _ _ _ _ ⟨fun h => ?_, fun h => ?_⟩
      · have e1 : IntKind.i64.wrap (l[i].n + 1) = l[i].n + 1 := wrap_id _ (by omega) (by omega)
        simp only [Int.toNat_natCast, rows_at l _ hi, row_g0, row_g1, row_g2, row_g3, rowsIV_len, e1]
        refine ⟨⟨by omega, rowOK _⟩, ⟨fun h2 => ?_, fun h2 => ?_⟩⟩
        · have h2 := ndT h2
          rw [if_neg h2] at hQ
          have hr := run_le (l.drop (i + 1)) (l[i].n + 1)
          rw [List.length_drop] at hr
          refine L_section_Print_in l hl hok i hi (rowsIV l) _ _ _ _ _ _ _ (fun m => m = run (l[i].n + 1) (l.drop (i + 1)) + 1) _ ?_ (l.length + 1) 1 (by omega) (by omega) ?_
          · rintro m rfl
            refine K_section_Print_5_x0 _ _ _ _ _ _ _ _ _ _ _ _ (C_section_Print_23_of _ _ _ _ _ _ _ _ _ _ _ _ ?_)
            refine Call.use (S_section_head _ _ (by omega) (by omega) (by omega) (by omega)) ⟨⟨rfl, rfl⟩, ?_⟩
            have hh := head_len l[i].n ((run (l[i].n + 1) (l.drop (i + 1)) + 1 : Nat) : Int) (by omega) (by omega) (by omega) (by omega)
            rw [rS_str, byteRows_len, byteRows_len, ← byteRows_append]
            refine ⟨⟨by omega, by omega⟩, K_section_Print_4_x0 _ _ _ _ _ _ _ _ _ _ _ (step _ (by simp at hh ⊢; omega) ?_)⟩
            rw [List.append_assoc]; exact hQ
          · show 1 + run (l[i].n + 1) (l.drop (i + 1)) = _
            omega
        · have h2 := ndF h2
          rw [if_pos h2, List.nil_append] at hQ
          exact step s (by omega) hQ
      · have := of_decide_eq_false h; omega
    · refine fin i next s hi (by omega) ?_
      rw [List.drop_eq_nil_of_le (by omega), progP, List.append_nil] at hQ
      exact hQ
theorem head0 : headS 0 0 = [48, 32, 48, 10] := by
  have e : Lib.itoa 0 = [48] := by
    rw [show (0 : Int) = ((0 : Nat) : Int) from rfl, Lib.itoa_nonneg, Lib.decDigits_one (by omega)]; rfl
  rw [headS, e]; rfl
theorem S_section_Print (l : List R4) (hl : l.length ≤ 1000000) : Call E0.P fn_section_Print [.imm (.sl .any 4 (rowsIV l))] [] (Is (isSP (printS l).1 (printS l).2) []) := by
  refine F_section_Print_of _ _ (Call.use (S_section_Check l hl) ⟨⟨rfl, rfl⟩, ?_⟩)
  rw [rI_int]
  refine ⟨fun h => ?_, fun h => ?_⟩
  · have h := ndT h
    rw [printS, if_pos h]
    exact ⟨rfl, rfl⟩
  · have h := ndF h
    have hok := chk_ok l (-1) (by omega) h
    rw [rowsIV_len]
    refine ⟨fun h2 => ?_, fun h2 => ?_⟩
    · have h2 := of_decide_eq_true h2
      have h2 : l = [] := List.eq_nil_of_length_eq_zero (by omega)
      refine Call.use (S_section_head 0 0 (by omega) (by omega) (by omega) (by omega)) ⟨⟨rfl, rfl⟩, ?_⟩
      rw [rS_str, head0]
      refine ⟨by simp, ?_⟩
      rw [printS, if_neg (by simp [h]), if_pos h2]
      exact ⟨rfl, rfl⟩
    · have h2 := of_decide_eq_false h2
      have h2 : l ≠ [] := by rintro rfl; exact h2 rfl
      refine ⟨⟨by omega, by omega⟩, ?_⟩
      refine L_section_Print l hl hok _ l.length 0 (-1) wordX (by omega) (by omega) (by simp [wordX]; omega) ?_
      rw [printS, if_neg (by simp [h]), if_neg h2, List.drop_zero]
      exact ⟨rfl, rfl⟩
end Go.Proofs.Sim.Se

namespace Go.Proofs.Sim.Se
open Go Go.Proofs Go.Proofs.Sim Go.RowKit
set_option maxRecDepth 100000
set_option linter.unusedVariables false
set_option linter.unusedSimpArgs false
def rdH (s : List UInt8) (p : Int) : Heap := [(Nm.arg 0, Entry.blk ty_section_reader [.imm (.str s), .imm (.int .i64 p)])]
theorem S_number (s : List UInt8) (hs : s.length ≤ 1000000) (p : Nat) (hp : p ≤ s.length) (en : Int) :
    Call E0.P fn_section_reader_number [.ptr (.arg 0) 0, .imm (.int .u8 en)] (rdH s p) (Is (isP ((numS s p en).1, (numS s p en).2.2)) (rdH s (numS s p en).2.1)) := by
  have hc := cntD_le (s.drop p)
  have hl : (s.drop p).length = s.length - p := List.length_drop
  refine F_section_reader_number_of _ _ _ _ ⟨by omega, Let.intro ?_⟩
  rw [Int.toNat_natCast]
  refine Call.use (S_digits_Count _) ⟨⟨rfl, rfl⟩, ?_⟩
  rw [rI_int]
  have e0 : numS s p en = if s.drop p = [] then (0, p, 5) else if cntD (s.drop p) = 0 ∨ (1 < cntD (s.drop p) ∧ ((s.drop p).getD 0 0).toNat = 48) then (0, p, 4)
    else if cntD (s.drop p) = (s.drop p).length then (0, p, 5) else if (((s.drop p).getD (cntD (s.drop p)) 0).toNat : Int) ≠ en then (0, p, 4)
    else if (fixS ((s.drop p).take (cntD (s.drop p)))).2 ≠ 0 ∨ 8388607 < (fixS ((s.drop p).take (cntD (s.drop p)))).1 then (0, p + cntD (s.drop p) + 1, 3)
    else ((fixS ((s.drop p).take (cntD (s.drop p)))).1, p + cntD (s.drop p) + 1, 0) := rfl
  have ht0 : s.drop p = [] ↔ (s.drop p).length = 0 := List.length_eq_zero_iff.symm
  generalize hT : s.drop p = t at *
  generalize hC : cntD t = c at *
  refine ⟨fun h => ?_, fun h => ?_⟩
  · rw [if_pos (by simpa using h)] at e0; rw [e0]; exact ⟨rfl, rfl⟩
  have h0 : t ≠ [] := by simpa using h
  rw [if_neg h0] at e0
  have tail : ¬ (c = 0 ∨ (1 < c ∧ (t.getD 0 0).toNat = 48)) → ∀ hh : c ≠ t.length, (((t.getD c 0).toNat : Int) = en) →
      Call E0.P fn_digits_Fixed [.imm (.str (t.take c))] [] fun r5 g5 => Req (g5 = [] ∧ r5 = .tup [.imm (.int .i64 (rI (rT r5 0))), .imm (.int .i64 (rI (rT r5 1)))])
        (Let (bif !decide (rI (rT r5 1) = 0) then true else decide (8388607 < rI (rT r5 0))) fun x6 => Br x6
          (Is (isP ((numS s p en).1, (numS s p en).2.2)) (rdH s (numS s p en).2.1) (.tup [.imm (.int .i64 0), .imm (.int .i64 3)]) [(Nm.arg 0, Entry.blk ty_section_reader [.imm (.str s), .imm (.int .i64 (IntKind.i64.wrap (p + IntKind.i64.wrap ((c : Int) + 1))))])])
          (Is (isP ((numS s p en).1, (numS s p en).2.2)) (rdH s (numS s p en).2.1) (.tup [.imm (.int .i64 (rI (rT r5 0))), .imm (.int .i64 0)]) [(Nm.arg 0, Entry.blk ty_section_reader [.imm (.str s), .imm (.int .i64 (IntKind.i64.wrap (p + IntKind.i64.wrap ((c : Int) + 1))))])])) := by
    intro h2 h3 h4
    have ew : IntKind.i64.wrap ((p : Int) + IntKind.i64.wrap ((c : Int) + 1)) = ((p + c + 1 : Nat) : Int) := by
      rw [wrap_id ((c : Int) + 1) (by omega) (by omega), wrap_id _ (by omega) (by omega)]; omega
    rw [ew]
    rw [if_neg h2, if_neg h3, if_neg (by simpa using h4)] at e0
    refine Call.use (S_digits_Fixed _ (by simp; omega)) ⟨⟨rfl, rfl⟩, ?_⟩
    have f0 : rI (rT (isP (fixS (t.take c))) 0) = (fixS (t.take c)).1 := rfl
    have f1 : rI (rT (isP (fixS (t.take c))) 1) = (fixS (t.take c)).2 := rfl
    rw [f0, f1]
    refine Let.intro ⟨fun h => ?_, fun h => ?_⟩
    · rw [orB'] at h
      rw [if_pos (by rcases h with h | h; exact .inl (ndT h); exact .inr h)] at e0
      rw [e0]; exact ⟨rfl, rfl⟩
    · have h : ¬ ((bif !decide ((fixS (t.take c)).2 = 0) then true else decide (8388607 < (fixS (t.take c)).1)) = true) := by rw [h]; decide
      rw [orB'] at h
      rw [if_neg (by rintro (h' | h'); exact h (.inl (by simpa using h')); exact h (.inr h'))] at e0
      rw [e0]; exact ⟨rfl, rfl⟩
  refine ⟨fun h => ?_, fun h => ?_⟩
  · have hc0 : c ≠ 0 := by have := of_decide_eq_false (eq_of_beq h); omega
    refine ⟨fun h => by have := of_decide_eq_true h; omega, Let.intro (Let.intro ⟨fun h => ?_, fun h => ?_⟩)⟩
    · have h := (andT' _ _).1 h
      rw [if_pos (.inr ⟨by omega, by omega⟩)] at e0
      rw [e0]; exact ⟨rfl, rfl⟩
    · have h := (andF' _ _).1 h
      have h2 : ¬ (c = 0 ∨ (1 < c ∧ (t.getD 0 0).toNat = 48)) := by
        rintro (h' | ⟨h', h''⟩)
        · exact hc0 h'
        · exact h ⟨by omega, by omega⟩
      refine ⟨fun h => ?_, fun h => ?_⟩
      · have h := of_decide_eq_true h
        rw [if_neg h2, if_pos (by omega)] at e0
        rw [e0]; exact ⟨rfl, rfl⟩
      · have h3 : c ≠ t.length := by have := of_decide_eq_false h; omega
        rw [Int.toNat_natCast]
        refine ⟨by omega, ⟨fun h => ?_, fun h => ?_⟩⟩
        · have h := ndT h
          rw [if_neg h2, if_neg h3, if_pos h] at e0
          rw [e0]; exact ⟨rfl, rfl⟩
        · exact ⟨by omega, Let.intro (tail h2 h3 (ndF h))⟩
  · have hc0 : c = 0 := by have := of_decide_eq_true (beqf h); omega
    rw [if_pos (.inl hc0)] at e0
    refine ⟨rfl, Let.intro ⟨fun _ => ?_, fun h => absurd h (by decide)⟩⟩
    rw [e0]; exact ⟨rfl, rfl⟩
end Go.Proofs.Sim.Se

namespace Go.Proofs.Sim.Se
open Go Go.Proofs Go.Proofs.Sim Go.RowKit
set_option maxRecDepth 100000
set_option linter.unusedVariables false
set_option linter.unusedSimpArgs false
theorem cntD_take (t : List UInt8) : ∀ k, cntD (t.take k) = min k (cntD t) := by
  induction t with
  | nil => intro k; simp [cntD]
  | cons c t ih =>
    intro k
    cases k with
    | zero => simp [cntD]
    | succ k =>
      have := ih k
      unfold cntD at *
      rw [List.take_succ_cons, List.takeWhile_cons, List.takeWhile_cons]
      split
      · simp [this]
      · simp
theorem cntD_dig (t : List UInt8) : ∀ k, k < cntD t → isDig (t.getD k 0) = true := by
  induction t with
  | nil => intro k h; simp [cntD] at h
  | cons c t ih =>
    intro k h
    have := ih
    unfold cntD at h this
    rw [List.takeWhile_cons] at h
    split at h
    · rename_i hc
      cases k with
      | zero => exact hc
      | succ k => exact this k (by simp at h; exact h)
    · simp at h
theorem dig32 (t : List UInt8) (k : Nat) (h : (t.getD k 0).toNat = 32) : cntD t ≤ k := by
  rcases Nat.lt_or_ge k (cntD t) with h1 | h1
  · have := (isDig_iff _).1 (cntD_dig t k h1)
    omega
  · exact h1
def okProp (t : List UInt8) : Prop := cntD t = 10 ∧ (t.getD 10 0).toNat = 32 ∧ cntD (t.drop 11) = 5 ∧ (t.getD 16 0).toNat = 32 ∧ ((t.getD 17 0).toNat = 110 ∨ (t.getD 17 0).toNat = 102) ∧ endedS (t.drop 18) = true
theorem okEnt_iff (t : List UInt8) (ht : t.length = 20) : okEnt t = true ↔ okProp t := by
  unfold okEnt okProp
  have e1 := cntD_take t 10
  have e2 : (t.take 16).drop 11 = (t.drop 11).take 5 := by rw [List.drop_take]
  have e3 := cntD_take (t.drop 11) 5
  have e4 : (t.drop 11).getD 5 0 = t.getD 16 0 := by simp [List.getD_eq_getElem?_getD]
  rw [e2, e1, e3]
  simp only [Bool.and_eq_true, Bool.or_eq_true, decide_eq_true_eq]
  constructor
  · rintro ⟨⟨⟨⟨⟨h1, h2⟩, h3⟩, h4⟩, h5⟩, h6⟩
    have d1 := dig32 t 10 h2
    have d2 := dig32 (t.drop 11) 5 (by rw [e4]; exact h4)
    exact ⟨by omega, h2, by omega, h4, h5, h6⟩
  · rintro ⟨h1, h2, h3, h4, h5, h6⟩
    exact ⟨⟨⟨⟨⟨by omega, h2⟩, by omega⟩, h4⟩, h5⟩, h6⟩
theorem S_section_ended (t : List UInt8) : Call E0.P fn_section_ended [.imm (.str t)] [] (Is (.imm (.bool (endedS t))) []) := by
  refine F_section_ended_of _ _ (Let.intro (Let.intro ⟨?_, rfl⟩))
  unfold endedS
  cases t == [32, 10] <;> cases t == [32, 13] <;> rfl
def entR : Option (Int × Int × Int) → AV
  | none => .tup [.imm (.agg [.int .i64 0, .int .i64 0, .int .i64 0]), .imm (.int .i64 4)]
  | some e => .tup [.imm (.agg [.int .i64 e.1, .int .i64 e.2.1, .int .i64 e.2.2]), .imm (.int .i64 0)]
theorem entS_bad (big : Int) (t : List UInt8) (ht : t.length = 20) (h : ¬ okProp t) : entS big t = none := by
  rw [entS, if_neg (fun hh => h ((okEnt_iff t ht).1 hh))]
theorem entS_good (big : Int) (t : List UInt8) (ht : t.length = 20) (h : okProp t) : entS big t = some (if (t.getD 17 0).toNat = 110 then 1 else 0, if (fixS (t.take 10)).2 ≠ 0 then big else (fixS (t.take 10)).1, (fixS ((t.take 16).drop 11)).1) := by
  rw [entS, if_pos ((okEnt_iff t ht).2 h)]
theorem S_entry (s : List UInt8) (hs : s.length ≤ 1000000) (p : Nat) (hp : p + 20 ≤ s.length) :
    Call E0.P fn_section_reader_entry [.ptr (.arg 0) 0] (rdH s p) (Is (entR (entS 2147483647 (piece s p))) (rdH s ((if (entS 2147483647 (piece s p)).isSome then p + 20 else p : Nat) : Int))) := by
  have ew : IntKind.i64.wrap ((p : Int) + 20) = ((p + 20 : Nat) : Int) := by rw [wrap_id _ (by omega) (by omega)]; omega
  refine F_section_reader_entry_of _ _ _ ?_
  rw [ew, Int.toNat_natCast, Int.toNat_natCast]
  refine ⟨by omega, Let.intro ?_⟩
  rw [show List.drop p (List.take (p + 20) s) = piece s p from rfl]
  have ht : (piece s p).length = 20 := by unfold piece; simp; omega
  generalize hT : piece s p = t at *
  have bad : ¬ okProp t → C_section_reader_entry_2 t true s p 0 0 0 (K_section_reader_entry_1 s p (Is (entR (entS 2147483647 t)) (rdH s ((if (entS 2147483647 t).isSome then p + 20 else p : Nat) : Int)))) := by
    intro h
    rw [entS_bad _ t ht h]
    exact C_section_reader_entry_2_of _ _ _ _ _ _ _ _ ⟨fun _ => K_section_reader_entry_1_x0 _ _ _ _ _ _ _ _ _ ⟨rfl, rfl⟩, fun h => absurd h (by decide)⟩
  have good : okProp t → C_section_reader_entry_2 t false s p 0 0 0 (K_section_reader_entry_1 s p (Is (entR (entS 2147483647 t)) (rdH s ((if (entS 2147483647 t).isSome then p + 20 else p : Nat) : Int)))) := by
    intro h
    rw [entS_good _ t ht h]
    refine C_section_reader_entry_2_of _ _ _ _ _ _ _ _ ⟨fun h => absurd h (by decide), fun _ => K_section_reader_entry_1_x1 _ _ _ _ _ _ _ _ _ (C_section_reader_entry_4_of _ _ _ _ _ _ _ ⟨by omega, Let.intro ?_⟩)⟩
    refine Call.use (S_digits_Fixed _ (by simp; omega)) ⟨⟨rfl, rfl⟩, ?_⟩
    have f0 : rI (rT (isP (fixS (t.take 10))) 0) = (fixS (t.take 10)).1 := rfl
    have f1 : rI (rT (isP (fixS (t.take 10))) 1) = (fixS (t.take 10)).2 := rfl
    rw [f0, f1, ew]
    have st8 : ∀ a : Int, C_section_reader_entry_8 t a 0 0 0 s ((p + 20 : Nat) : Int) (K_section_reader_entry_2 (K_section_reader_entry_0 s p (Is (entR (some (if (t.getD 17 0).toNat = 110 then 1 else 0, a, (fixS ((t.take 16).drop 11)).1))) (rdH s ((p + 20 : Nat) : Int))))) := by
      intro a
      refine C_section_reader_entry_8_of _ _ _ _ _ _ _ _ ⟨by omega, Let.intro ?_⟩
      refine Call.use (S_digits_Fixed _ (by simp; omega)) ⟨⟨rfl, rfl⟩, ⟨by omega, ⟨fun h => ?_, fun h => ?_⟩⟩⟩
      · have h := of_decide_eq_true h
        rw [if_pos (by omega)]
        exact C_section_reader_entry_12_of _ _ _ _ _ _ _ _ _ (K_section_reader_entry_2_x0 _ _ _ _ _ _ _ (K_section_reader_entry_2_x0 _ _ _ _ _ _ _ (K_section_reader_entry_0_x0 _ _ _ _ _ _ _ _ _ ⟨rfl, rfl⟩)))
      · have h := of_decide_eq_false h
        rw [if_neg (by omega)]
        exact C_section_reader_entry_12_of _ _ _ _ _ _ _ _ _ (K_section_reader_entry_2_x0 _ _ _ _ _ _ _ (K_section_reader_entry_2_x0 _ _ _ _ _ _ _ (K_section_reader_entry_0_x0 _ _ _ _ _ _ _ _ _ ⟨rfl, rfl⟩)))
    refine ⟨fun h => ?_, fun h => ?_⟩
    · rw [if_pos (c := (fixS (t.take 10)).2 ≠ 0) (ndT h)]; exact st8 _
    · rw [if_neg (c := (fixS (t.take 10)).2 ≠ 0) (by have := ndF h; simpa using this)]; exact st8 _
  refine Call.use (S_digits_Count _) ⟨⟨rfl, rfl⟩, ?_⟩
  rw [rI_int]
  have dead : ∀ {P : Prop}, (true == false) = true → P := fun h => absurd h (by decide)
  refine ⟨fun _ => by omega, Let.intro ⟨fun _ => by omega, Let.intro ⟨fun h => ?_, fun h => ?_⟩⟩⟩
  · have h := eq_of_beq h
    have h1 : ¬ ((bif !decide ((cntD t : Int) = 10) then true else !decide (((t.getD 10 0).toNat : Int) = 32)) = true) := by rw [h]; decide
    have h1 : cntD t = 10 ∧ (t.getD 10 0).toNat = 32 := by
      by_cases a : (cntD t : Int) = 10 <;> by_cases b : ((t.getD 10 0).toNat : Int) = 32 <;> simp only [a, b, decide_true, decide_false, Bool.not_true, Bool.not_false, cond_true, cond_false, not_true_eq_false, not_false_eq_true] at h1
      omega
    refine Call.use (S_digits_Count _) ⟨⟨rfl, rfl⟩, ?_⟩
    rw [rI_int]
    refine Let.intro ⟨fun _ => by omega, Let.intro ⟨fun _ => by omega, ⟨fun h2 => ?_, fun h2 => ?_⟩⟩⟩
    · have h2 := eq_of_beq h2
      have h3 : cntD (t.drop 11) = 5 ∧ (t.getD 16 0).toNat = 32 := by
        by_cases a : (cntD (t.drop 11) : Int) = 5 <;> by_cases b : ((t.getD 16 0).toNat : Int) = 32 <;> simp only [a, b, decide_true, decide_false, Bool.not_true, Bool.not_false, cond_true, cond_false, Bool.true_eq_false] at h2
        omega
      refine ⟨fun _ => by omega, Let.intro (Let.intro ⟨fun _ => by omega, Let.intro ⟨fun h4 => ?_, fun h4 => ?_⟩⟩)⟩
      · have h4 := (andF _ _).1 (eq_of_beq h4)
        refine Call.use (S_section_ended _) ⟨⟨rfl, rfl⟩, ?_⟩
        rw [rB_bool]
        refine Let.intro ?_
        cases h5 : endedS (t.drop 18) with
        | true => exact good ⟨h1.1, h1.2, h3.1, h3.2, by omega, h5⟩
        | false => exact bad (fun hh => by have := hh.2.2.2.2.2; rw [h5] at this; cases this)
      · have h4 := (andT _ _).1 (beqf h4)
        exact ⟨rfl, Let.intro (bad fun hh => by have := hh.2.2.2.2.1; omega)⟩
    · have h3 : ¬ (cntD (t.drop 11) = 5 ∧ (t.getD 16 0).toNat = 32) := by
        rintro ⟨a, b⟩
        have a : (cntD (t.drop 11) : Int) = 5 := by omega
        have b : ((t.getD 16 0).toNat : Int) = 32 := by omega
        simp only [a, b, decide_true, Bool.not_true, cond_false] at h2
        cases h2
      exact ⟨rfl, Let.intro ⟨fun h => absurd h (by decide), Let.intro ⟨fun h => absurd h (by decide), fun _ => ⟨rfl, Let.intro (bad fun hh => h3 ⟨hh.2.2.1, hh.2.2.2.1⟩)⟩⟩⟩⟩
  · have h3 : ¬ (cntD t = 10 ∧ (t.getD 10 0).toNat = 32) := by
      rintro ⟨a, b⟩
      have a : (cntD t : Int) = 10 := by omega
      have b : ((t.getD 10 0).toNat : Int) = 32 := by omega
      simp only [a, b, decide_true, Bool.not_true, cond_false] at h
      cases h
    have bd := bad fun hh => h3 ⟨hh.1, hh.2.1⟩
    exact ⟨rfl, Let.intro ⟨fun h => absurd h (by simp), Let.intro ⟨fun h => absurd h (by simp), ⟨fun h => absurd h (by simp), fun _ => ⟨rfl, Let.intro ⟨fun h => absurd h (by simp), Let.intro ⟨fun h => absurd h (by simp), fun _ => ⟨rfl, Let.intro bd⟩⟩⟩⟩⟩⟩⟩⟩
end Go.Proofs.Sim.Se

namespace Go.Proofs.Sim.Se
open Go Go.Proofs Go.Proofs.Sim Go.RowKit
set_option maxRecDepth 100000
set_option linter.unusedVariables false
set_option linter.unusedSimpArgs false
theorem bo0 (s : List UInt8) (p : Int) : rS ((blkOf (rdH s p) (Nm.arg 0)).getD 0 AV.undef) = s := rfl
theorem bo1 (s : List UInt8) (p : Int) : rI ((blkOf (rdH s p) (Nm.arg 0)).getD 1 AV.undef) = p := rfl
theorem tP0 (p : Int × Int) : rI (rT (isP p) 0) = p.1 := rfl
theorem tP1 (p : Int × Int) : rI (rT (isP p) 1) = p.2 := rfl
def isRE (l : List R4) (e : Int) : AV := .tup [.imm (.sl .any 4 (rowsIV l)), .imm (.int .i64 e)]
theorem rowsIV_app (a b : List R4) : rowsIV (a ++ b) = rowsIV a ++ rowsIV b := by simp [rowsIV]
theorem L_partS (s : List UInt8) (hs : s.length ≤ 1000000) (s0 : List UInt8) (p0 : Int) (n : Int) (hn0 : 0 ≤ n) (hn : n ≤ 8388607) (many : Nat) (hmany : many ≤ 1000000) (Q : AV → Heap → Prop) (f : Nat) : ∀ (i p : Nat) (acc : List R4), many + 1 ≤ i + f → i ≤ many → acc.length = i → p + 20 * (many - i) ≤ s.length →
    (entsS 2147483647 s p (n + i) (many - i) = none → ∀ p' : Nat, Q (isRE [] 4) (rdH s p')) →
    (∀ l, entsS 2147483647 s p (n + i) (many - i) = some l → Q (isRE (acc ++ l) 0) (rdH s ((p + 20 * (many - i) : Nat) : Int))) →
    L_section_reader_part_13 n many i s p (rowsIV acc) (K_section_reader_part_1 s0 p0 Q) := by
  induction f with
  | zero => intro i p acc h1 h2; omega
  | succ f ih =>
    intro i p acc h1 h2 hacc hp hN hS
    refine L_section_reader_part_13_of _ _ _ _ _ _ _ ⟨fun h => ?_, fun h => ?_⟩
    · have hi : i < many := by have := of_decide_eq_true h; omega
      have e0 : entsS 2147483647 s p (n + i) (many - i) = match entS 2147483647 (piece s p) with
        | none => none
        | some e => (entsS 2147483647 s (p + 20) (n + i + 1) (many - (i + 1))).map (⟨n + i, e.1, e.2.1, e.2.2⟩ :: ·) := by
        rw [show many - i = (many - (i + 1)) + 1 by omega, entsS]
        cases entS 2147483647 (piece s p) <;> rfl
      refine Call.use (S_entry s hs p (by omega)) ?_
      cases hE : entS 2147483647 (piece s p) with
      | none =>
        rw [hE] at e0
        refine ⟨⟨rfl, rfl⟩, ⟨fun _ => ?_, fun h => absurd h (by decide)⟩⟩
        exact K_section_reader_part_1_x0 _ _ _ _ _ _ _ (hN e0 p)
      | some e =>
        rw [hE] at e0
        refine ⟨⟨rfl, rfl⟩, ⟨fun h => absurd h (by show ¬ (!decide ((0 : Int) = 0)) = true; decide), fun _ => ?_⟩⟩
        rw [rowsIV_len]
        refine ⟨⟨by omega, by omega⟩, ?_⟩
        have ew : IntKind.i64.wrap (n + (i : Int)) = n + i := wrap_id _ (by omega) (by omega)
        have ew2 : IntKind.i64.wrap ((i : Int) + 1) = ((i + 1 : Nat) : Int) := by rw [wrap_id _ (by omega) (by omega)]; omega
        rw [ew, ew2]
        have key := ih (i + 1) (p + 20) (acc ++ [⟨n + i, e.1, e.2.1, e.2.2⟩]) (by omega) (by omega) (by simp; omega) (by omega) ?_ ?_
        · rw [rowsIV_app] at key
          exact key
        · intro hx p'
          rw [show n + ((i + 1 : Nat) : Int) = n + i + 1 by omega] at hx
          simp only [hx, Option.map_none] at e0
          exact hN e0 p'
        · intro l hx
          rw [show n + ((i + 1 : Nat) : Int) = n + i + 1 by omega] at hx
          simp only [hx, Option.map_some] at e0
          have := hS _ e0
          rw [show p + 20 + 20 * (many - (i + 1)) = p + 20 * (many - i) by omega]
          rw [List.append_assoc]
          exact this
    · have hi : i = many := by have := of_decide_eq_false h; omega
      subst hi
      have := hS [] (by rw [Nat.sub_self]; rfl)
      rw [Nat.sub_self, List.append_nil] at this
      exact K_section_reader_part_1_x1 _ _ _ _ _ _ (C_section_reader_part_23_of _ _ _ _ (K_section_reader_part_0_x0 _ _ _ _ _ _ _ this))
theorem S_part (s : List UInt8) (hs : s.length ≤ 1000000) (p : Nat) (hp : p ≤ s.length) (Q : AV → Heap → Prop)
    (hQ : ∀ p' : Nat, ((partS 2147483647 s p).1 = 0 → p' = (partS 2147483647 s p).2.2) → Q (isRE (partS 2147483647 s p).2.1 (partS 2147483647 s p).1) (rdH s p')) :
    Call E0.P fn_section_reader_part [.ptr (.arg 0) 0] (rdH s p) Q := by
  refine F_section_reader_part_of _ _ _ (Call.use (S_number s hs p hp 32) ⟨⟨rfl, rfl⟩, ?_⟩)
  have hq : ∀ e l p2, partS 2147483647 s p = (e, l, p2) → ∀ p' : Nat, (e = 0 → p' = p2) → Q (isRE l e) (rdH s p') := by
    intro e l p2 h p' h'
    rw [h] at hQ
    exact hQ p' h'
  have e0 : partS 2147483647 s p = if (numS s p 32).2.2 ≠ 0 then ((numS s p 32).2.2, [], p)
    else if (numS s (numS s p 32).2.1 10).2.2 ≠ 0 then ((numS s (numS s p 32).2.1 10).2.2, [], p)
    else if (((s.length - (numS s (numS s p 32).2.1 10).2.1) / 20 : Nat) : Int) < (numS s (numS s p 32).2.1 10).1 then (5, [], p)
    else entsR 2147483647 s (numS s (numS s p 32).2.1 10).2.1 (numS s p 32).1 (numS s (numS s p 32).2.1 10).1.toNat := rfl
  have n1 := numS_ok s p 32 hp
  generalize numS s p 32 = N1 at *
  rw [bo0, bo1, tP0, tP1]
  refine ⟨fun h => ?_, fun h => ?_⟩
  · have h := ndT h
    rw [if_pos h] at e0
    exact hq _ _ _ e0 _ (fun h' => absurd h' h)
  · have h := ndF h
    obtain ⟨a1, a2, a3, a4⟩ := n1 h
    rw [if_neg (by simpa using h)] at e0
    refine Call.use (S_number s hs N1.2.1 (by omega) 10) ⟨⟨rfl, rfl⟩, ?_⟩
    have n2 := numS_ok s N1.2.1 10 (by omega)
    generalize numS s N1.2.1 10 = N2 at *
    rw [bo0, bo1, tP0, tP1]
    refine ⟨fun h => ?_, fun h => ?_⟩
    · have h := ndT h
      rw [if_pos h] at e0
      exact hq _ _ _ e0 _ (fun h' => absurd h' h)
    · have h := ndF h
      obtain ⟨b1, b2, b3, b4⟩ := n2 h
      rw [if_neg (by simpa using h)] at e0
      refine ⟨by omega, Let.intro ⟨by decide, ?_⟩⟩
      rw [Int.toNat_natCast]
      have ed : IntKind.i64.wrap (((s.drop N2.2.1).length : Int).tdiv 20) = (((s.length - N2.2.1) / 20 : Nat) : Int) := by
        rw [List.length_drop, Int.tdiv_eq_ediv_of_nonneg (by omega), wrap_id _ (by omega) (by omega)]; omega
      rw [ed]
      refine ⟨fun h => ?_, fun h => ?_⟩
      · have h := of_decide_eq_true h
        rw [if_pos h] at e0
        exact hq _ _ _ e0 _ (fun h' => by cases h')
      · have h := of_decide_eq_false h
        rw [if_neg h] at e0
        obtain ⟨many, hm⟩ : ∃ many : Nat, N2.1 = many := ⟨N2.1.toNat, by omega⟩
        rw [hm] at e0 h ⊢
        rw [Int.toNat_natCast] at e0
        have key := L_partS s hs s (p : Int) N1.1 a3 a4 many (by omega) Q (many + 1) 0 N2.2.1 [] (by omega) (by omega) rfl (by omega)
        rw [show N1.1 + ((0 : Nat) : Int) = N1.1 by omega, Nat.sub_zero] at key
        refine key ?_ ?_
        · intro hx p'
          rw [entsR, hx] at e0
          exact hq _ _ _ e0 _ (fun h' => by cases h')
        · intro l hx
          rw [entsR, hx] at e0
          exact hq _ _ _ e0 _ (fun _ => rfl)
theorem S_strings_HasPrefix (s q : List UInt8) : Call E0.P fn_strings_HasPrefix [.imm (.str s), .imm (.str q)] [] (Is (.imm (.bool (Lib.hasPrefix s q))) []) := by
  refine call_of_contract Tryd.func75 (by kernel_rfl) (by kernel_rfl) [.str s, .str q] _ fun g w vs hv hs => ?_
  obtain ⟨v, u, rfl, hr, hu⟩ := reps2 hv
  obtain rfl := repI_str hr
  obtain rfl := repI_str hu
  refine (Tryd.strings_HasPrefix ⟨s.toArray⟩ ⟨q.toArray⟩ w).mono ?_
  rintro e w' ⟨rfl, rfl⟩
  exact ⟨_, .imm (.bool (Lib.hasPrefix s q)), rfl, Below.refl _ _, .imm _ _ (.bool _), rfl, rfl⟩
theorem pre_iff (t q : List UInt8) : Lib.hasPrefix t q = true ↔ t.take q.length = q := by
  unfold Lib.hasPrefix
  rw [List.isPrefixOf_iff_prefix, List.prefix_iff_eq_take]
  exact eq_comm
def begS (t : List UInt8) : Int := if t.take 5 = wordX then 0 else if t.length < 5 ∧ t = wordX.take t.length then 5 else 4
theorem S_section_begins (t : List UInt8) : Call E0.P fn_section_begins [.imm (.str t)] [] (Is (.imm (.int .i64 (begS t))) []) := by
  refine F_section_begins_of _ _ (Call.use (S_strings_HasPrefix t wordX) ⟨⟨rfl, rfl⟩, ?_⟩)
  rw [rB_bool]
  refine ⟨fun h => ?_, fun h => ?_⟩
  · have h : t.take 5 = wordX := (pre_iff _ _).1 h
    rw [begS, if_pos h]; exact ⟨rfl, rfl⟩
  · have h : ¬ t.take 5 = wordX := fun hh => by rw [(pre_iff t wordX).2 hh] at h; cases h
    refine Call.use (S_strings_HasPrefix wordX t) ⟨⟨rfl, rfl⟩, ?_⟩
    rw [rB_bool]
    refine ⟨fun h2 => ?_, fun h2 => ?_⟩
    · have h2 := (pre_iff _ _).1 h2
      have hl : t.length < 5 := by
        rcases Nat.lt_or_ge t.length 5 with h3 | h3
        · exact h3
        · exfalso
          have : wordX.take t.length = wordX := List.take_of_length_le (by simpa [wordX] using h3)
          rw [this] at h2
          rw [← h2] at h
          exact h rfl
      rw [begS, if_neg h, if_pos ⟨hl, h2.symm⟩]; exact ⟨rfl, rfl⟩
    · rw [begS, if_neg h, if_neg]; exact ⟨rfl, rfl⟩
      rintro ⟨_, h3⟩
      rw [(pre_iff wordX t).2 h3.symm] at h2; cases h2
theorem read_step (s : List UInt8) (hs : s.length ≤ 1000000) (p : Nat) (hp : p ≤ s.length) (acc : List R4) (hacc : acc.length ≤ p) (EX : Int → Prop) (RES : List (List IV) → Int → Prop) (GO : List UInt8 → Int → List (List IV) → Prop)
    (h1 : (partS 2147483647 s p).1 ≠ 0 → EX (partS 2147483647 s p).1)
    (h2 : (partS 2147483647 s p).1 = 0 → 0 < cntD (s.drop (partS 2147483647 s p).2.2) → GO s ((partS 2147483647 s p).2.2 : Int) (rowsIV (acc ++ (partS 2147483647 s p).2.1)))
    (h3 : (partS 2147483647 s p).1 = 0 → ¬ 0 < cntD (s.drop (partS 2147483647 s p).2.2) → chkS (-1) (acc ++ (partS 2147483647 s p).2.1) ≠ 0 → EX (chkS (-1) (acc ++ (partS 2147483647 s p).2.1)))
    (h4 : (partS 2147483647 s p).1 = 0 → ¬ 0 < cntD (s.drop (partS 2147483647 s p).2.2) → chkS (-1) (acc ++ (partS 2147483647 s p).2.1) = 0 → RES (rowsIV (acc ++ (partS 2147483647 s p).2.1)) ((partS 2147483647 s p).2.2 : Int)) :
    Call E0.P fn_section_reader_part [(.ptr (Nm.arg (0 : Nat)) 0)] (rdH s p) fun r0 g0 =>
     Req (g0 = [(Nm.arg (0 : Nat), Entry.blk ty_section_reader [.imm (.str (rS ((blkOf g0 (Nm.arg (0 : Nat))).getD (0 : Nat) AV.undef))), .imm (.int .i64 (rI ((blkOf g0 (Nm.arg (0 : Nat))).getD (1 : Nat) AV.undef)))])] ∧
       r0 = .tup [.imm (.sl .any 4 (rR (rT r0 0))), .imm (.int .i64 (rI (rT r0 (1 : Nat))))])
     (Br (!decide (rI (rT r0 (1 : Nat)) = (0 : Int)))
     (EX (rI (rT r0 (1 : Nat))))
     (Req (((rowsIV acc).length + (rR (rT r0 (0 : Nat))).length) * (32 : Nat) ≤ (140737488355328 : Nat) ∧ (rowsIV acc).length + (rR (rT r0 (0 : Nat))).length ≤ (140737488355328 : Nat))
     (Req ((0 : Int) ≤ rI ((blkOf g0 (Nm.arg (0 : Nat))).getD (1 : Nat) AV.undef) ∧ rI ((blkOf g0 (Nm.arg (0 : Nat))).getD (1 : Nat) AV.undef) ≤ (↑(rS ((blkOf g0 (Nm.arg (0 : Nat))).getD (0 : Nat) AV.undef)).length : Int))
     (Let (List.drop (rI ((blkOf g0 (Nm.arg (0 : Nat))).getD (1 : Nat) AV.undef)).toNat (rS ((blkOf g0 (Nm.arg (0 : Nat))).getD (0 : Nat) AV.undef))) fun x1 =>
     Call E0.P fn_digits_Count [(.imm (.str x1))] [] fun r2 g2 =>
     Req (g2 = [] ∧ r2 = .imm (.int .i64 (rI r2)))
     (Br (decide ((0 : Int) < rI r2))
     (GO (rS ((blkOf g0 (Nm.arg (0 : Nat))).getD (0 : Nat) AV.undef)) (rI ((blkOf g0 (Nm.arg (0 : Nat))).getD (1 : Nat) AV.undef)) (rowsIV acc ++ rR (rT r0 (0 : Nat))))
     (Call E0.P fn_section_Check [(.imm (.sl .any 4 (rowsIV acc ++ rR (rT r0 (0 : Nat)))))] [] fun r3 g3 =>
     Req (g3 = [] ∧ r3 = .imm (.int .i64 (rI r3)))
     (Br (!decide (rI r3 = (0 : Int)))
     (EX (rI r3))
     (RES (rowsIV acc ++ rR (rT r0 (0 : Nat))) (rI ((blkOf g0 (Nm.arg (0 : Nat))).getD (1 : Nat) AV.undef))))))))))  := by
  refine S_part s hs p hp _ fun p' hp' => ?_
  have ok := partS_ok 2147483647 s p hp
  generalize partS 2147483647 s p = R at *
  refine ⟨⟨rfl, rfl⟩, ⟨fun h => h1 (ndT h), fun h => ?_⟩⟩
  have h : R.1 = 0 := ndF h
  obtain rfl := hp' h
  obtain ⟨o1, o2, o3⟩ := ok h
  have er : rR (rT (isRE R.2.1 R.1) 0) = rowsIV R.2.1 := rfl
  rw [bo0, bo1, er, rowsIV_len, rowsIV_len, ← rowsIV_app]
  refine ⟨⟨by omega, by omega⟩, ⟨by omega, Let.intro ?_⟩⟩
  rw [Int.toNat_natCast]
  refine Call.use (S_digits_Count _) ⟨⟨rfl, rfl⟩, ?_⟩
  rw [rI_int]
  refine ⟨fun hc => h2 h (by have := of_decide_eq_true hc; omega), fun hc => ?_⟩
  have hc : ¬ 0 < cntD (s.drop R.2.2) := by have := of_decide_eq_false hc; omega
  refine Call.use (S_section_Check _ (by simp; omega)) ⟨⟨rfl, rfl⟩, ?_⟩
  rw [rI_int]
  exact ⟨fun hk => h3 h hc (ndT hk), fun hk => h4 h hc (ndF hk)⟩
def isRPE (r : List R4 × Int × Int) : AV := .tup [.imm (.sl .any 4 (rowsIV r.1)), .imm (.int .i64 r.2.1), .imm (.int .i64 r.2.2)]
theorem S_read_go (s : List UInt8) (hs : s.length ≤ 1000000) (Q : AV → Heap → Prop) (f : Nat) : ∀ (p : Nat) (acc : List R4), s.length + 1 ≤ p + f → p ≤ s.length → acc.length ≤ p →
    Q (isRPE ((readGo 2147483647 s f p acc).1, ((readGo 2147483647 s f p acc).2.1 : Int), (readGo 2147483647 s f p acc).2.2)) [] → S_section_Read_1 s p (rowsIV acc) (K_section_Read_0 Q) := by
  induction f with
  | zero => intro p acc h1 h2; omega
  | succ f ih =>
    intro p acc h1 h2 h3 hQ
    have ok := partS_ok 2147483647 s p h2
    rw [readGo] at hQ
    refine S_section_Read_1_of _ _ _ _ (read_step s hs p h2 acc h3 (fun e => K_section_Read_0 Q .ret ⟨[(4, (.own (Nm.loc (4 : Nat)))), (5, (.imm (.int .i64 ((0 : Int))))), (6, (.imm (.int .i64 e)))], [((Nm.loc (4 : Nat)), (.arr (ty_api_Row + 2) true 4 []))]⟩)
      (fun l e => K_section_Read_0 Q .ret ⟨[(4, (.own (Nm.loc (9 : Nat)))), (5, (.imm (.int .i64 e))), (6, (.imm (.int .i64 ((0 : Int)))))], [((Nm.loc (9 : Nat)), (.arr (ty_api_Row + 2) false 4 l))]⟩)
      (fun a b c => S_section_Read_1 a b c (K_section_Read_0 Q)) ?_ ?_ ?_ ?_)
    · intro h; rw [if_pos h] at hQ; exact K_section_Read_0_x0 _ _ _ _ hQ
    · intro h hc
      rw [if_neg (by simpa using h), if_pos hc] at hQ
      obtain ⟨o1, o2, o3⟩ := ok h
      exact ih _ _ (by omega) (by omega) (by simp; omega) hQ
    · intro h hc hk; rw [if_neg (by simpa using h), if_neg hc, if_pos hk] at hQ; exact K_section_Read_0_x0 _ _ _ _ hQ
    · intro h hc hk; rw [if_neg (by simpa using h), if_neg hc, if_neg (by simpa using hk)] at hQ; exact K_section_Read_0_x1 _ _ _ _ hQ
theorem S_section_Read (s : List UInt8) (hs : s.length ≤ 1000000) (p : Int) : Call E0.P fn_section_Read [.imm (.str s), .imm (.int .i64 p)] [] (Is (isRPE (readX 2147483647 s p)) []) := by
  refine F_section_Read_of _ _ _ (Let.intro ⟨fun h => ?_, fun h => ?_⟩)
  · have h := (orB _ _).1 h
    rw [readX, if_pos h]; exact ⟨rfl, rfl⟩
  · have h := (orF _ _).1 h
    obtain ⟨q, rfl⟩ : ∃ q : Nat, p = q := ⟨p.toNat, by omega⟩
    refine ⟨by omega, Let.intro ?_⟩
    have e0 : readX 2147483647 s (q : Int) = if begS (s.drop q) = 0 then ((readGo 2147483647 s (s.length + 1) (q + 5) []).1, ((readGo 2147483647 s (s.length + 1) (q + 5) []).2.1 : Int), (readGo 2147483647 s (s.length + 1) (q + 5) []).2.2) else ([], 0, begS (s.drop q)) := by
      rw [readX, if_neg h, Int.toNat_natCast, begS]
      by_cases c1 : (s.drop q).take 5 = wordX
      · rw [if_pos c1, if_pos c1, if_pos rfl]
      · rw [if_neg c1, if_neg c1]
        by_cases c2 : (s.drop q).length < 5 ∧ s.drop q = wordX.take (s.drop q).length
        · rw [if_pos c2, if_pos c2]; rfl
        · rw [if_neg c2, if_neg c2]; rfl
    have hb : begS (s.drop q) = 0 → q + 5 ≤ s.length := by
      intro hb
      unfold begS at hb
      split at hb
      · rename_i c
        have := congrArg List.length c
        simp [wordX] at this
        omega
      · split at hb <;> cases hb
    rw [Int.toNat_natCast]
    refine Call.use (S_section_begins _) ⟨⟨rfl, rfl⟩, ?_⟩
    rw [rI_int]
    refine ⟨fun hn => ?_, fun hn => ?_⟩
    · have hn := ndT hn
      rw [if_neg hn] at e0
      rw [e0]; exact ⟨rfl, rfl⟩
    · have hn := ndF hn
      rw [if_pos hn] at e0
      have hq := hb hn
      have ew : IntKind.i64.wrap ((q : Int) + 5) = ((q + 5 : Nat) : Int) := by rw [wrap_id _ (by omega) (by omega)]; omega
      rw [ew, e0]
      have hG : readGo 2147483647 s (s.length + 1) (q + 5) [] = if (partS 2147483647 s (q + 5)).1 ≠ 0 then ([], 0, (partS 2147483647 s (q + 5)).1)
        else if 0 < cntD (s.drop (partS 2147483647 s (q + 5)).2.2) then readGo 2147483647 s s.length (partS 2147483647 s (q + 5)).2.2 ([] ++ (partS 2147483647 s (q + 5)).2.1)
        else if chkS (-1) ([] ++ (partS 2147483647 s (q + 5)).2.1) ≠ 0 then ([], 0, chkS (-1) ([] ++ (partS 2147483647 s (q + 5)).2.1))
        else ([] ++ (partS 2147483647 s (q + 5)).2.1, (partS 2147483647 s (q + 5)).2.2, 0) := by rw [readGo]
      have ok := partS_ok 2147483647 s (q + 5) hq
      generalize hR : readGo 2147483647 s (s.length + 1) (q + 5) [] = R at *
      refine read_step s hs (q + 5) hq [] (by simp) (fun e => Is (isRPE (R.1, (R.2.1 : Int), R.2.2)) [] (.tup [(.imm (.sl .any 4 [])), (.imm (.int .i64 ((0 : Int)))), (.imm (.int .i64 e))]) [])
        (fun l e => Is (isRPE (R.1, (R.2.1 : Int), R.2.2)) [] (.tup [(.imm (.sl .any 4 l)), (.imm (.int .i64 e)), (.imm (.int .i64 0))]) [])
        (fun a b c => S_section_Read_1 a b c (K_section_Read_0 (Is (isRPE (R.1, (R.2.1 : Int), R.2.2)) []))) ?_ ?_ ?_ ?_
      · intro h; rw [if_pos h] at hG; rw [hG]; exact ⟨rfl, rfl⟩
      · intro h hc
        rw [if_neg (by simpa using h), if_pos hc] at hG
        obtain ⟨o1, o2, o3⟩ := ok h
        refine S_read_go s hs _ s.length _ _ (by omega) (by omega) (by simp; omega) ?_
        rw [hG]; exact ⟨rfl, rfl⟩
      · intro h hc hk; rw [if_neg (by simpa using h), if_neg hc, if_pos hk] at hG; rw [hG]; exact ⟨rfl, rfl⟩
      · intro h hc hk; rw [if_neg (by simpa using h), if_neg hc, if_neg (by simpa using hk)] at hG; rw [hG]; exact ⟨rfl, rfl⟩
end Go.Proofs.Sim.Se

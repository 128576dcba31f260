import Derived.Test.YtkdjpnfpmpchnaaDoorSc2
namespace Go.Proofs.Sim.Se
open Go Go.Proofs Go.Proofs.Sim Go.RowKit
set_option maxRecDepth 100000
set_option linter.unusedVariables false
set_option linter.unusedSimpArgs false
theorem byteRows_append (a b : List UInt8) : byteRows (a ++ b) = byteRows a ++ byteRows b := by simp [byteRows]
theorem byteRows_len (a : List UInt8) : (byteRows a).length = a.length := by simp [byteRows]
theorem byteRows_ok (a : List UInt8) : ∀ r ∈ byteRows a, shOK [.int .u8] r = true := by
  intro r hr
  simp only [byteRows, List.mem_map] at hr
  obtain ⟨b, _, rfl⟩ := hr
  rfl
theorem unbyte (a : List UInt8) : List.map (fun r => UInt8.ofNat (gI r 0).toNat) (byteRows a) = a := by
  induction a with
  | nil => rfl
  | cons b a ih =>
    have e : UInt8.ofNat (gI [IV.int .u8 (b.toNat : Int)] 0).toNat = b := by
      show UInt8.ofNat ((b.toNat : Int)).toNat = b
      simp
    have e2 : byteRows (b :: a) = [.int .u8 (b.toNat : Int)] :: byteRows a := rfl
    rw [e2, List.map_cons, e, ih]
theorem L_section_Print_in (sk sk2 : SK) (l : List R4) (hl : l.length ≤ 1000000) (hok : ∀ x ∈ l, OkR x) (i : Nat) (hi : i < l.length) (t22r : List (List IV)) (t23 t24 h211 k a g : Int) (h51r : List (List IV)) (Q : Nat → Prop) (K : Ex → St → Prop)
    (hK : ∀ m : Nat, Q m → K_section_Print_5 K (.exit 2) ⟨[(0, .imm (.sl sk 4 (rowsIV l))), (5, .ptr (Nm.loc 5) 0), (6, .fn 54 [.ptr (Nm.sub 21 (Nm.loc 1)) 0]), (8, .ptr (Nm.loc 8) 0), (9, .imm (.int .i64 m)), (22, .imm (.sl sk2 4 t22r)), (23, .imm (.int .i64 t23)), (24, .imm (.int .i64 t24))],
      [(Nm.loc 5, .blk ty_strings_Builder [.ptr (Nm.loc 5) 0, .own ((Nm.loc 5).cell 1)]), (Nm.sub 21 (Nm.loc 1), .blk ty_int [.imm (.int .i64 h211)]), (Nm.loc 8, .blk ty_api_Row [.imm (.int .i64 l[i].n), .imm (.int .i64 k), .imm (.int .i64 a), .imm (.int .i64 g)]), ((Nm.loc 5).cell 1, .arr 7 true 1 h51r)]⟩)
    (f : Nat) : ∀ (m : Nat), l.length + 1 ≤ i + m + f → i + m ≤ l.length → Q (m + run (l[i].n + m) (l.drop (i + m))) →
    L_section_Print_19 sk (rowsIV l) i m sk2 t22r t23 t24 h211 l[i].n k a g h51r (K_section_Print_5 K) := by
  induction f with
  | zero => intro m hm hn; omega
  | succ f ih =>
    intro m hm hn hQ
    have hx := hok l[i] (List.getElem_mem hi)
    have hx0 := hx.n0
    have hx1 := hx.n1
    have e1 : IntKind.i64.wrap ((i : Int) + (m : Int)) = ((i + m : Nat) : Int) := by rw [wrap_id _ (by omega) (by omega)]; omega
    have e2 : IntKind.i64.wrap (l[i].n + (m : Int)) = l[i].n + m := wrap_id _ (by omega) (by omega)
    refine L_section_Print_19_of _ _ _ _ _ _ _ _ _ _ _ _ _ _ _ ?_
    rw [e1, rowsIV_len, e2]
    simp only [Int.toNat_natCast]
    by_cases hn' : i + m < l.length
    · simp only [rows_at l (i + m) hn', row_g0]
      refine ⟨fun _ => ⟨by omega, row_ok _⟩, Let.intro ⟨fun h => ?_, fun h => ?_⟩⟩
      · have h := (andT' _ _).1 h
        have e := run_step l (i + m) hn' (l[i].n + m)
        rw [if_pos h.2] at e
        rw [wrap_id _ (by omega) (by omega)]
        refine ih (m + 1) (by omega) (by omega) ?_
        have e3 : m + 1 + run (l[i].n + ((m + 1 : Nat) : Int)) (l.drop (i + (m + 1))) = m + run (l[i].n + m) (l.drop (i + m)) := by
          rw [e, show l[i].n + ((m + 1 : Nat) : Int) = l[i].n + m + 1 by omega, show i + (m + 1) = i + m + 1 by omega]; omega
        rw [e3]
        exact hQ
      · have h := (andF' _ _).1 h
        have e := run_step l (i + m) hn' (l[i].n + m)
        rw [if_neg (by omega)] at e
        rw [e] at hQ
        exact hK m hQ
    · have hd : decide (((i + m : Nat) : Int) < (l.length : Int)) = false := decide_eq_false (by omega)
      simp only [hd, cond_false]
      refine ⟨fun h => absurd h (by decide), Let.intro ⟨fun h => absurd h (by decide), fun h => ?_⟩⟩
      rw [run_end l _ hn'] at hQ
      exact hK m hQ
theorem progP_drop (l : List R4) (i : Nat) (h : i < l.length) (next : Int) : progP next (l.drop i) = (if l[i].n = next then [] else headS l[i].n ((run (l[i].n + 1) (l.drop (i + 1)) + 1 : Nat) : Int)) ++ (lineS l[i] ++ progP (l[i].n + 1) (l.drop (i + 1))) := by
  rw [List.drop_eq_getElem_cons h]; rfl
theorem L_section_Print (sk : SK) (l : List R4) (hl : l.length ≤ 1000000) (hok : ∀ x ∈ l, OkR x) (Q : AV → Heap → Prop) (f : Nat) : ∀ (i : Nat) (next : Int) (s : List UInt8), l.length ≤ i + f → i ≤ l.length →
    s.length + 100 * (l.length - i) ≤ 1000000000 →
    Q (isSP (s ++ progP next (l.drop i)) 0) [] → L_section_Print_12 sk (rowsIV l) sk (rowsIV l) l.length i next (byteRows s) (K_section_Print_1 Q) := by
  have fin : ∀ (i : Nat) (next : Int) (s : List UInt8), ¬ i < l.length → s.length ≤ 1000000000 → Q (isSP s 0) [] → L_section_Print_12 sk (rowsIV l) sk (rowsIV l) l.length i next (byteRows s) (K_section_Print_1 Q) := by
    intro i next s hi hs hQ
    refine L_section_Print_12_of _ _ _ _ _ _ _ _ _ ⟨fun h => ?_, fun h => ?_⟩
    · have := of_decide_eq_true h; omega
    · refine K_section_Print_1_x0 _ _ (C_section_Print_26_of _ _ ⟨⟨⟨rfl, by rw [byteRows_len]; omega⟩, byteRows_ok s⟩, K_section_Print_0_x0 _ _ _ ?_⟩)
      rw [unbyte]; exact hQ
  induction f with
  | zero =>
    intro i next s hm hn hs hQ
    refine fin i next s (by omega) (by omega) ?_
    rw [List.drop_eq_nil_of_le (by omega), progP, List.append_nil] at hQ
    exact hQ
  | succ f ih =>
    intro i next s hm hn hs hQ
    by_cases hi : i < l.length
    · rw [progP_drop l i hi] at hQ
      have hx := hok l[i] (List.getElem_mem hi)
      have hx0 := hx.n0
      have hx1 := hx.n1
      have hll := line_len l[i]
      have step : ∀ (s' : List UInt8), s'.length + 58 + 100 * (l.length - (i + 1)) ≤ 1000000000 → Q (isSP (s' ++ (lineS l[i] ++ progP (l[i].n + 1) (l.drop (i + 1)))) 0) [] →
          C_section_Print_24 sk (rowsIV l) sk (rowsIV l) l.length i (l[i].n + 1) l[i].n l[i].k l[i].a l[i].g (byteRows s') (K_section_Print_3 (K_section_Print_1 Q)) := by
        intro s' hs' hQ'
        refine C_section_Print_24_of _ _ _ _ _ _ _ _ _ _ _ _ _ (Call.use (S_section_line l[i] hx) ⟨⟨rfl, rfl⟩, ?_⟩)
        rw [rS_str, byteRows_len, byteRows_len, ← byteRows_append]
        refine ⟨⟨by omega, by omega⟩, K_section_Print_3_x0 _ _ _ _ _ _ _ _ _ (C_section_Print_25_of _ _ _ _ _ _ _ _ _ (K_section_Print_2_x0 _ _ _ _ _ _ _ _ _ ?_))⟩
        rw [wrap_id _ (by omega) (by omega)]
        refine ih (i + 1) _ _ (by omega) (by omega) (by simp; omega) ?_
        rw [List.append_assoc]; exact hQ'
      refine L_section_Print_12_of _ _ _ _ _ _ _ _ _ ⟨fun h => ?_, fun h => ?_⟩
      · have e1 : IntKind.i64.wrap (l[i].n + 1) = l[i].n + 1 := wrap_id _ (by omega) (by omega)
        simp only [Int.toNat_natCast, rows_at l _ hi, row_g0, row_g1, row_g2, row_g3, rowsIV_len, e1]
        refine ⟨⟨by omega, row_ok _⟩, ⟨fun h2 => ?_, fun h2 => ?_⟩⟩
        · have h2 := ndT h2
          rw [if_neg h2] at hQ
          have hr := run_le (l.drop (i + 1)) (l[i].n + 1)
          rw [List.length_drop] at hr
          refine L_section_Print_in sk sk l hl hok i hi (rowsIV l) _ _ _ _ _ _ _ (fun m => m = run (l[i].n + 1) (l.drop (i + 1)) + 1) _ ?_ (l.length + 1) 1 (by omega) (by omega) ?_
          · rintro m rfl
            refine K_section_Print_5_x0 _ _ _ _ _ _ _ _ _ _ _ _ _ _ (C_section_Print_23_of _ _ _ _ _ _ _ _ _ _ _ _ _ _ ?_)
            refine Call.use (S_section_head _ _ (by omega) (by omega) (by omega) (by omega)) ⟨⟨rfl, rfl⟩, ?_⟩
            have hh := head_len l[i].n ((run (l[i].n + 1) (l.drop (i + 1)) + 1 : Nat) : Int) (by omega) (by omega) (by omega) (by omega)
            rw [rS_str, byteRows_len, byteRows_len, ← byteRows_append]
            refine ⟨⟨by omega, by omega⟩, K_section_Print_4_x0 _ _ _ _ _ _ _ _ _ _ _ _ _ (step _ (by simp at hh ⊢; omega) ?_)⟩
            rw [List.append_assoc]; exact hQ
          · show 1 + run (l[i].n + 1) (l.drop (i + 1)) = _
            omega
        · have h2 := ndF h2
          rw [if_pos h2, List.nil_append] at hQ
          exact step s (by omega) hQ
      · have := of_decide_eq_false h; omega
    · refine fin i next s hi (by omega) ?_
      rw [List.drop_eq_nil_of_le (by omega), progP, List.append_nil] at hQ
      exact hQ
theorem head0 : headS 0 0 = [48, 32, 48, 10] := by
  have e : Lib.itoa 0 = [48] := by
    rw [show (0 : Int) = ((0 : Nat) : Int) from rfl, Lib.itoa_nonneg, Lib.decDigits_one (by omega)]; rfl
  rw [headS, e]; rfl
theorem S_section_Print (sk : SK) (l : List R4) (hl : l.length ≤ 1000000) : Call E0.P fn_section_Print [.imm (.sl sk 4 (rowsIV l))] [] (Is (isSP (printS l).1 (printS l).2) []) := by
  refine F_section_Print_of _ _ _ (Call.use (S_section_Check sk l hl) ⟨⟨rfl, rfl⟩, ?_⟩)
  rw [rI_int]
  refine ⟨fun h => ?_, fun h => ?_⟩
  · have h := ndT h
    rw [printS, if_pos h]
    exact ⟨rfl, rfl⟩
  · have h := ndF h
    have hok := chk_ok l (-1) (by omega) h
    rw [rowsIV_len]
    refine ⟨fun h2 => ?_, fun h2 => ?_⟩
    · have h2 := of_decide_eq_true h2
      have h2 : l = [] := List.eq_nil_of_length_eq_zero (by omega)
      refine Call.use (S_section_head 0 0 (by omega) (by omega) (by omega) (by omega)) ⟨⟨rfl, rfl⟩, ?_⟩
      rw [rS_str, head0]
      refine ⟨by simp, ?_⟩
      rw [printS, if_neg (by simp [h]), if_pos h2]
      exact ⟨rfl, rfl⟩
    · have h2 := of_decide_eq_false h2
      have h2 : l ≠ [] := by rintro rfl; exact h2 rfl
      refine ⟨⟨by omega, by omega⟩, ?_⟩
      refine L_section_Print sk l hl hok _ l.length 0 (-1) wordX (by omega) (by omega) (by simp [wordX]; omega) ?_
      rw [printS, if_neg (by simp [h]), if_neg h2, List.drop_zero]
      exact ⟨rfl, rfl⟩
end Go.Proofs.Sim.Se

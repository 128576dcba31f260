import Derived.Test.YtcdjheflchglaaaDoorCxA
set_option linter.unusedVariables false
set_option linter.unusedSimpArgs false
namespace Go.Proofs.Sim.Se
open Go Go.Proofs Go.Proofs.Sim Go.Proofs.Sim.Va

theorem chk_step (last : Int) (l : List R4) (n : Nat) (h : n < l.length) : chkX last (l.drop n) = if l[n].n ≤ last then 15 else if 8388607 < l[n].n then 3 else if l[n].k ≠ 0 ∧ l[n].k ≠ 1 ∧ l[n].k ≠ 2 then 10
    else if l[n].a < 0 ∨ 67108864 < l[n].a ∨ l[n].g < 0 ∨ 65535 < l[n].g then 3 else chkX l[n].n (l.drop (n + 1)) := by
  rw [drop_cons l n h, chkX]
theorem kind3 (k : Int) : (bif (bif !decide (k = 0) then !decide (k = 1) else false) then !decide (k = 2) else false) = decide (k ≠ 0 ∧ k ≠ 1 ∧ k ≠ 2) := by
  by_cases h0 : k = 0 <;> by_cases h1 : k = 1 <;> by_cases h2 : k = 2 <;> simp [h0, h1, h2] <;> omega
theorem four (a g : Int) : (bif (bif (bif decide (a < 0) then true else decide (67108864 < a)) then true else decide (g < 0)) then true else decide (65535 < g)) = decide (a < 0 ∨ 67108864 < a ∨ g < 0 ∨ 65535 < g) := by
  by_cases h1 : a < 0 <;> by_cases h2 : 67108864 < a <;> by_cases h3 : g < 0 <;> by_cases h4 : 65535 < g <;> simp [h1, h2, h3, h4]
theorem L_cchk (l : List R4) (hl : l.length ≤ 1000000000) (Q : AV → Heap → Prop) (r : Int) (hq : Q (.imm (.int .i64 r)) []) : ∀ (m i : Nat) (last : Int), m + i = l.length → r = chkX last (l.drop i) →
    L_crossing_Check_3 last (rowsIV l) l.length i (K_crossing_Check_1 Q) := by
  intro m
  induction m with
  | zero =>
    intro i last hi hr
    refine L_crossing_Check_3_of _ _ _ _ _ ⟨fun h => ?_, fun _ => ?_⟩
    · have := of_decide_eq_true h; omega
    · rw [List.drop_of_length_le (by omega)] at hr
      rw [hr] at hq
      exact K_crossing_Check_1_x1 _ (C_crossing_Check_19_of _ (K_crossing_Check_0_x0 _ _ hq))
  | succ m ih =>
    intro i last hi hr
    have hlt : i < l.length := by omega
    rw [chk_step last l i hlt] at hr
    refine L_crossing_Check_3_of _ _ _ _ _ ⟨fun _ => ?_, fun h => ?_⟩
    · have w2 : IntKind.i64.wrap ((i : Int) + 1) = ((i + 1 : Nat) : Int) := by rw [wrap_id _ (by omega) (by omega)]; simp
      rw [show (rowsIV l).getD (Int.toNat (i : Int)) [] = rowIV l[i] from rows_at l i hlt, row_g0, row_g1, row_g2, row_g3, rowsIV_len, w2]
      refine ⟨⟨⟨by omega, by omega⟩, rowOK _⟩, ⟨fun h => ?_, fun h1 => ⟨fun h => ?_, fun h2 => Let.intro (Let.intro ?_)⟩⟩⟩
      · rw [if_pos (of_decide_eq_true h)] at hr
        rw [hr] at hq; exact K_crossing_Check_1_x0 _ _ hq
      · rw [if_neg (of_decide_eq_false h1), if_pos (of_decide_eq_true h)] at hr
        rw [hr] at hq; exact K_crossing_Check_1_x0 _ _ hq
      · rw [if_neg (of_decide_eq_false h1), if_neg (of_decide_eq_false h2)] at hr
        rw [kind3]
        refine ⟨fun h => ?_, fun h3 => Let.intro (Let.intro (Let.intro ?_))⟩
        · rw [if_pos (of_decide_eq_true h)] at hr
          rw [hr] at hq; exact K_crossing_Check_1_x0 _ _ hq
        · rw [if_neg (of_decide_eq_false h3)] at hr
          rw [four]
          refine ⟨fun h => ?_, fun h4 => ?_⟩
          · rw [if_pos (of_decide_eq_true h)] at hr
            rw [hr] at hq; exact K_crossing_Check_1_x0 _ _ hq
          · rw [if_neg (of_decide_eq_false h4)] at hr
            exact ih (i + 1) _ (by omega) hr
    · have := of_decide_eq_false h; omega
theorem S_cCheck (l : List R4) (hl : l.length ≤ 1000000000) : Call E0.P fn_crossing_Check [.imm (.sl .any 4 (rowsIV l))] [] (Is (.imm (.int .i64 (chkX (-1) l))) []) := by
  refine F_crossing_Check_of _ _ ?_
  rw [rowsIV_len]
  exact L_cchk l hl _ _ ⟨rfl, rfl⟩ l.length 0 (-1) rfl rfl
theorem L_same (l : List R4) (hl : l.length ≤ 1000000000) (Q : AV → Heap → Prop) (hq : Q (.imm (.bool true)) []) : ∀ (m i : Nat), m + i = l.length → L_r21_SameRows_5 (rowsIV l) (rowsIV l) i (K_r21_SameRows_1 Q) := by
  intro m
  induction m with
  | zero =>
    intro i hi
    refine L_r21_SameRows_5_of _ _ _ _ ⟨fun h => ?_, fun _ => K_r21_SameRows_1_x1 _ (C_r21_SameRows_12_of _ (K_r21_SameRows_0_x0 _ _ hq))⟩
    have := of_decide_eq_true h
    rw [rowsIV_len] at this; omega
  | succ m ih =>
    intro i hi
    have hlt : i < l.length := by omega
    refine L_r21_SameRows_5_of _ _ _ _ ⟨fun _ => ?_, fun h => ?_⟩
    · have w2 : IntKind.i64.wrap ((i : Int) + 1) = ((i + 1 : Nat) : Int) := by rw [wrap_id _ (by omega) (by omega)]; simp
      rw [show (rowsIV l).getD (Int.toNat (i : Int)) [] = rowIV l[i] from rows_at l i hlt, rowsIV_len, w2]
      refine ⟨⟨⟨by omega, by omega⟩, rowOK _⟩, ⟨⟨⟨by omega, by omega⟩, rowOK _⟩, ⟨fun h => ?_, fun _ => ih (i + 1) (by omega)⟩⟩⟩
      simp at h
    · have := of_decide_eq_false h
      rw [rowsIV_len] at this; omega
theorem S_Same (l : List R4) (hl : l.length ≤ 1000000000) : Call E0.P fn_r21_SameRows [.imm (.sl .any 4 (rowsIV l)), .imm (.sl .any 4 (rowsIV l))] [] (Is (.imm (.bool true)) []) := by
  refine F_r21_SameRows_of _ _ _ ⟨fun h => ?_, fun _ => L_same l hl _ ⟨rfl, rfl⟩ l.length 0 rfl⟩
  simp at h
theorem L_cparts (l : List R4) (hl : l.length ≤ 1000000) (hok : ∀ x ∈ l, OkX x) (Q : AV → Heap → Prop) (hq : Q (.imm (.sl .any 1 (intsIV (partsX l)))) []) : ∀ (m i : Nat) (done : List Int) (c : Nat) (hi0 : 0 < i), m + i = l.length → (hp : i - 1 < l.length) → c ≤ i → done.length ≤ 2 * i → partsX l = done ++ pg (l[i - 1]'hp).n c (l.drop i) →
    L_crossing_parts_3 (rowsIV l) (rowsIV l) l.length i (intsIV (done ++ [(c : Int)])) (K_crossing_parts_1 Q) := by
  intro m
  induction m with
  | zero =>
    intro i done c hi0 hi hp hc hd hX
    refine L_crossing_parts_3_of _ _ _ _ _ _ ⟨fun h => ?_, fun _ => ?_⟩
    · have := of_decide_eq_true h; omega
    · rw [List.drop_of_length_le (by omega), pg] at hX
      rw [hX] at hq
      exact K_crossing_parts_1_x0 _ _ (C_crossing_parts_13_of _ _ (K_crossing_parts_0_x0 _ _ hq))
  | succ m ih =>
    intro i done c hi0 hi hp hc hd hX
    have hlt : i < l.length := by omega
    have ho := hok l[i] (List.getElem_mem hlt)
    have n0 := ho.n0
    have n1 := ho.n1
    rw [drop_cons l i hlt, pg] at hX
    refine L_crossing_parts_3_of _ _ _ _ _ _ ⟨fun _ => ?_, fun h => ?_⟩
    · have w2 : IntKind.i64.wrap ((i : Int) + 1) = ((i + 1 : Nat) : Int) := by rw [wrap_id _ (by omega) (by omega)]; simp
      have w3 : IntKind.i64.wrap ((i : Int) - 1) = ((i - 1 : Nat) : Int) := by rw [wrap_id _ (by omega) (by omega)]; omega
      have w4 : IntKind.i64.wrap (l[i].n - 1) = l[i].n - 1 := wrap_id _ (by omega) (by omega)
      rw [show (rowsIV l).getD (Int.toNat (i : Int)) [] = rowIV l[i] from rows_at l i hlt, row_g0, w3, show (rowsIV l).getD (Int.toNat ((i - 1 : Nat) : Int)) [] = rowIV l[i - 1] from rows_at l (i - 1) hp, row_g0, rowsIV_len, w2, w4]
      rw [decide_eq_true (show (0 : Int) < (i : Int) by omega)]
      refine ⟨⟨⟨by omega, by omega⟩, rowOK _⟩, ⟨fun _ => ⟨⟨by omega, by omega⟩, rowOK _⟩, Let.intro ⟨fun h => ?_, fun h => ?_⟩⟩⟩
      · have h : l[i - 1].n = l[i].n - 1 := of_decide_eq_true h
        rw [if_pos (by omega)] at hX
        have hlen : (intsIV (done ++ [(c : Int)])).length = done.length + 1 := by rw [ints_len]; simp
        have w5 : IntKind.i64.wrap (((intsIV (done ++ [(c : Int)])).length : Int) - 1) = ((done.length : Nat) : Int) := by
          rw [hlen, wrap_id _ (by omega) (by omega)]; omega
        have hg : (intsIV (done ++ [(c : Int)])).getD (Int.toNat ((done.length : Nat) : Int)) [] = [.int .i64 (c : Int)] := by
          rw [Int.toNat_natCast, ints_at _ _ (by simp)]
          simp [List.getD_eq_getElem?_getD]
        rw [w5, hg, hlen]
        have w6 : IntKind.i64.wrap (gI (List.take 1 (List.drop 0 [IV.int .i64 (c : Int)])) 0 + 1) = ((c + 1 : Nat) : Int) := by
          show IntKind.i64.wrap ((c : Int) + 1) = _
          rw [wrap_id _ (by omega) (by omega)]; simp
        have hs : (intsIV (done ++ [(c : Int)])).set (Int.toNat ((done.length : Nat) : Int)) [.int .i64 ((c + 1 : Nat) : Int)] = intsIV (done ++ [((c + 1 : Nat) : Int)]) := by
          rw [Int.toNat_natCast]
          have e : intsIV done ++ [[IV.int .i64 (c : Int)]] = intsIV (done ++ [(c : Int)]) := ints_snoc _ _
          rw [← e, ← ints_snoc]
          have hl' : done.length = (intsIV done).length := by rw [ints_len]
          rw [hl']; simp
        rw [w6, hs]
        refine ⟨⟨by omega, by omega⟩, ⟨⟨by rw [Int.toNat_natCast]; omega, rfl⟩, ⟨⟨by omega, by omega⟩, ⟨by rw [Int.toNat_natCast]; omega, ?_⟩⟩⟩⟩
        refine ih (i + 1) done (c + 1) (by omega) (by omega) (by omega) (by omega) (by omega) ?_
        rw [hX]; rfl
      · have h : ¬ l[i - 1].n = l[i].n - 1 := of_decide_eq_false h
        rw [if_neg (by omega)] at hX
        have e : intsIV (done ++ [(c : Int)]) ++ [[.int .i64 l[i].n], [.int .i64 1]] = intsIV ((done ++ [(c : Int), l[i].n]) ++ [((1 : Nat) : Int)]) := by simp [intsIV]
        rw [e]
        refine ⟨?_, ih (i + 1) _ 1 (by omega) (by omega) (by omega) (by omega) (by simp; omega) (by rw [hX]; simp)⟩
        rw [ints_len]; simp; constructor <;> omega
    · have := of_decide_eq_false h; omega
theorem parts_cons (l : List R4) (h : 0 < l.length) : partsX l = [l[0].n] ++ pg l[0].n 1 (l.drop 1) := by
  cases l with
  | nil => simp at h
  | cons x r => rfl
theorem S_cparts (l : List R4) (hl : l.length ≤ 1000000) (hok : ∀ x ∈ l, OkX x) : Call E0.P fn_crossing_parts [.imm (.sl .any 4 (rowsIV l))] [] (Is (.imm (.sl .any 1 (intsIV (partsX l)))) []) := by
  refine F_crossing_parts_of _ _ ?_
  rw [rowsIV_len]
  by_cases h0 : l.length = 0
  · have hl0 : l = [] := List.eq_nil_of_length_eq_zero h0
    subst hl0
    refine L_crossing_parts_3_of _ _ _ _ _ _ ⟨fun h => absurd h (by decide), fun _ => K_crossing_parts_1_x0 _ _ (C_crossing_parts_13_of _ _ (K_crossing_parts_0_x0 _ _ ⟨rfl, rfl⟩))⟩
  · have hlt : 0 < l.length := by omega
    refine L_crossing_parts_3_of _ _ _ _ _ _ ⟨fun _ => ?_, fun h => ?_⟩
    · rw [show (rowsIV l).getD (Int.toNat 0) [] = rowIV l[0] from rows_at l 0 hlt, row_g0, rowsIV_len]
      refine ⟨⟨⟨by omega, by omega⟩, rowOK _⟩, ⟨fun h => absurd h (by decide), Let.intro ⟨fun h => absurd (show false = true from h) (by decide), fun _ => ⟨by simp, ?_⟩⟩⟩⟩
      have key := L_cparts l hl hok (Is (.imm (.sl .any 1 (intsIV (partsX l)))) []) ⟨rfl, rfl⟩ (l.length - 1) 1 [l[0].n] 1 (by omega) (by omega) (by omega) (by omega) (by simp) (parts_cons l hlt)
      exact key
    · have := of_decide_eq_false h; omega
theorem odd_drop (l : List Int) (i : Nat) (h : i + 1 < l.length) : oddSum (l.drop i) = l.getD (i + 1) 0 + oddSum (l.drop (i + 2)) := by
  rw [drop_cons l i (by omega), drop_cons l (i + 1) h, oddSum]
  simp [List.getD_eq_getElem?_getD, h]
theorem num_drop (l : List Int) (i : Nat) (h : i + 1 < l.length) : numX (l.drop i) = upto (l.getD i 0) (l.getD (i + 1) 0).toNat ++ numX (l.drop (i + 2)) := by
  rw [drop_cons l i (by omega), drop_cons l (i + 1) h, numX]
  simp [List.getD_eq_getElem?_getD, h, show i < l.length by omega]
structure OkL (l : List Int) : Prop where
  len : l.length ≤ 1000000
  even : l.length % 2 = 0
  ok : ∀ n ∈ l, 0 ≤ n ∧ n ≤ 8388608
theorem OkL.at {l : List Int} (h : OkL l) (i : Nat) (hi : i < l.length) : 0 ≤ l.getD i 0 ∧ l.getD i 0 ≤ 8388608 := by
  have : l.getD i 0 ∈ l := by rw [List.getD_eq_getElem?_getD, List.getElem?_eq_getElem hi]; exact List.getElem_mem hi
  exact h.ok _ this
theorem odd_nn {l : List Int} (h : OkL l) : ∀ (m i : Nat), 2 * m + i = l.length → 0 ≤ oddSum (l.drop i) ∧ oddSum (l.drop i) ≤ 8388608 * m := by
  intro m
  induction m with
  | zero => intro i hi; rw [List.drop_of_length_le (by omega)]; simp [oddSum]
  | succ m ih =>
    intro i hi
    rw [odd_drop l i (by omega)]
    have := ih (i + 2) (by omega)
    have := h.at (i + 1) (by omega)
    omega
theorem L_sum (l : List Int) (h : OkL l) (t1 : Int) (K : Ex → St → Prop) (T : Int) (hE : K (.exit 0) ⟨[(0, (.imm (.sl .any 1 (intsIV l)))), (1, (.imm (.int .i64 t1))), (6, (.imm (.int .i64 T)))], []⟩) : ∀ (m i : Nat) (s : Int), 2 * m + i = l.length → 0 ≤ s → s ≤ 8388608 * i → T = s + oddSum (l.drop i) →
    L_crossing_numbers_3 (intsIV l) t1 s ((i : Int) + 1) K := by
  have hl := h.len
  intro m
  induction m with
  | zero =>
    intro i s hi h0 h1 hT
    rw [List.drop_of_length_le (by omega)] at hT
    obtain rfl : T = s := by simp [oddSum] at hT; exact hT
    refine L_crossing_numbers_3_of _ _ _ _ _ ⟨fun h => ?_, fun _ => hE⟩
    have := of_decide_eq_true h
    rw [ints_len] at this; omega
  | succ m ih =>
    intro i s hi h0 h1 hT
    rw [odd_drop l i (by omega)] at hT
    have ha := h.at (i + 1) (by omega)
    refine L_crossing_numbers_3_of _ _ _ _ _ ⟨fun _ => ?_, fun h => ?_⟩
    · have e1 : (i : Int) + 1 = ((i + 1 : Nat) : Int) := by omega
      have w2 : IntKind.i64.wrap (((i + 1 : Nat) : Int) + 2) = ((i + 2 : Nat) : Int) + 1 := by rw [wrap_id _ (by omega) (by omega)]; omega
      rw [e1, show (intsIV l).getD (Int.toNat ((i + 1 : Nat) : Int)) [] = _ from ints_at l (i + 1) (by omega), ints_len, w2, show gI [.int .i64 (l.getD (i + 1) 0)] 0 = l.getD (i + 1) 0 from rfl]
      have w3 : IntKind.i64.wrap (s + l.getD (i + 1) 0) = s + l.getD (i + 1) 0 := wrap_id _ (by omega) (by omega)
      rw [w3]
      exact ⟨⟨⟨by omega, by omega⟩, rfl⟩, ih (i + 2) _ (by omega) (by omega) (by omega) (by omega)⟩
    · have := of_decide_eq_false h
      rw [ints_len] at this; omega
theorem L_num2 (l : List Int) (h : OkL l) (i : Nat) (hi : i < l.length) (b : Nat) (hb : b ≤ 8388608) (acc : List Int) (ha : acc.length + b ≤ 1000000000) (K : Ex → St → Prop)
    (hE : K (.exit 4) ⟨[(0, (.imm (.sl .any 1 (intsIV l)))), (8, (.own (Nm.loc (8 : Nat)))), (9, (.imm (.int .i64 i)))], [((Nm.loc (8 : Nat)), (.arr (ty_int + 2) true 1 (intsIV (acc ++ upto (l.getD i 0) b))))]⟩) : ∀ (m k : Nat), m + k = b →
    L_crossing_numbers_19 (intsIV l) i b k (intsIV (acc ++ upto (l.getD i 0) k)) K := by
  have hv := h.at i hi
  intro m
  induction m with
  | zero =>
    intro k hk
    obtain rfl : k = b := by omega
    refine L_crossing_numbers_19_of _ _ _ _ _ _ ⟨fun h => ?_, fun _ => hE⟩
    have := of_decide_eq_true h; omega
  | succ m ih =>
    intro k hk
    refine L_crossing_numbers_19_of _ _ _ _ _ _ ⟨fun _ => ?_, fun h => ?_⟩
    · have w2 : IntKind.i64.wrap ((k : Int) + 1) = ((k + 1 : Nat) : Int) := by rw [wrap_id _ (by omega) (by omega)]; simp
      rw [show (intsIV l).getD (Int.toNat ((i : Nat) : Int)) [] = _ from ints_at l i hi, ints_len, w2, show gI [.int .i64 (l.getD i 0)] 0 = l.getD i 0 from rfl]
      have w3 : IntKind.i64.wrap (l.getD i 0 + (k : Int)) = l.getD i 0 + (k : Int) := wrap_id _ (by omega) (by omega)
      rw [w3, ints_snoc, List.append_assoc, ← upto_succ]
      refine ⟨⟨⟨by omega, by have := h.len; omega⟩, rfl⟩, ⟨?_, ih (k + 1) (by omega)⟩⟩
      rw [ints_len, List.length_append, upto_len]; constructor <;> omega
    · have := of_decide_eq_false h; omega
theorem L_num1 (l : List Int) (h : OkL l) (Q : AV → Heap → Prop) (R : List Int) (hq : Q (.tup [.imm (.sl .any 1 (intsIV R)), .imm (.bool true)]) []) : ∀ (m i : Nat) (acc : List Int), 2 * m + i = l.length → acc.length + oddSum (l.drop i) ≤ 1000000000 → R = acc ++ numX (l.drop i) →
    L_crossing_numbers_14 (intsIV l) i (intsIV acc) (K_crossing_numbers_3 (K_crossing_numbers_0 Q)) := by
  have hl := h.len
  intro m
  induction m with
  | zero =>
    intro i acc hi ha hR
    rw [List.drop_of_length_le (by omega)] at hR
    obtain rfl : R = acc := by simpa [numX] using hR
    refine L_crossing_numbers_14_of _ _ _ _ ⟨fun h => ?_, fun _ => K_crossing_numbers_3_x0 _ _ (C_crossing_numbers_26_of _ _ (K_crossing_numbers_2_x0 _ _ _ (K_crossing_numbers_0_x1 _ _ _ hq)))⟩
    have := of_decide_eq_true h
    rw [ints_len] at this; omega
  | succ m ih =>
    intro i acc hi ha hR
    rw [odd_drop l i (by omega)] at ha
    rw [num_drop l i (by omega)] at hR
    have hv := h.at (i + 1) (by omega)
    have hs := odd_nn h m (i + 2) (by omega)
    refine L_crossing_numbers_14_of _ _ _ _ ⟨fun _ => ?_, fun h => ?_⟩
    · have w2 : IntKind.i64.wrap ((i : Int) + 1) = ((i + 1 : Nat) : Int) := by rw [wrap_id _ (by omega) (by omega)]; simp
      have w4 : IntKind.i64.wrap ((i : Int) + 2) = ((i + 2 : Nat) : Int) := by rw [wrap_id _ (by omega) (by omega)]; simp
      rw [w2, show (intsIV l).getD (Int.toNat ((i + 1 : Nat) : Int)) [] = _ from ints_at l (i + 1) (by omega), ints_len, show gI [.int .i64 (l.getD (i + 1) 0)] 0 = l.getD (i + 1) 0 from rfl]
      obtain ⟨b, hb⟩ := Int.eq_ofNat_of_zero_le hv.1
      rw [hb] at hv ha hR ⊢
      rw [Int.toNat_natCast] at hR
      refine ⟨⟨⟨by omega, by omega⟩, rfl⟩, ?_⟩
      have key := L_num2 l h i (by omega) b (by omega) acc (by omega) (K_crossing_numbers_5 (K_crossing_numbers_3 (K_crossing_numbers_0 Q))) (K_crossing_numbers_5_x0 _ _ _ _ (C_crossing_numbers_25_of _ _ _ _ (by
        rw [w4]
        refine K_crossing_numbers_4_x0 _ _ _ _ (ih (i + 2) _ (by omega) ?_ ?_)
        · rw [List.length_append, upto_len]; omega
        · rw [hR]; simp))) b 0 rfl
      have e : acc ++ upto (l.getD i 0) 0 = acc := by simp [upto]
      rw [e] at key
      exact key
    · have := of_decide_eq_false h
      rw [ints_len] at this; omega
def numA (l : List Int) (t : Int) : AV := if oddSum l = t then .tup [.imm (.sl .any 1 (intsIV (numX l))), .imm (.bool true)] else .tup [.imm (.sl .any 1 []), .imm (.bool false)]
theorem S_numbers (l : List Int) (h : OkL l) (t : Int) (ht : t ≤ 1000000000) : Call E0.P fn_crossing_numbers [.imm (.sl .any 1 (intsIV l)), .imm (.int .i64 t)] [] (Is (numA l t) []) := by
  have hl := h.len
  have he := h.even
  refine F_crossing_numbers_of _ _ _ ?_
  refine L_sum l h t _ (oddSum l) (K_crossing_numbers_1_x0 _ _ _ _ (C_crossing_numbers_8_of _ _ _ _ ⟨fun hn => ?_, fun hn => ?_⟩)) (l.length / 2) 0 0 (by omega) (by omega) (by omega) (by simp)
  · have hn : ¬ oddSum l = t := by simpa using hn
    refine K_crossing_numbers_0_x0 _ _ _ ?_
    rw [numA, if_neg hn]; exact ⟨rfl, rfl⟩
  · have hn : oddSum l = t := by simpa using hn
    refine L_num1 l h _ (numX l) ?_ (l.length / 2) 0 [] (by omega) (by simp; omega) (by simp)
    rw [numA, if_pos hn]; exact ⟨rfl, rfl⟩
end Go.Proofs.Sim.Se

set_option linter.unusedVariables false
set_option linter.unusedSimpArgs false
namespace Go.Proofs.Sim.Se
open Go Go.Proofs Go.Proofs.Sim Go.Proofs.Sim.Va

theorem maxI (a b : Nat) : (if ((b : Nat) : Int) > ((a : Nat) : Int) then ((b : Nat) : Int) else ((a : Nat) : Int)) = ((max a b : Nat) : Int) := by
  split <;> omega
theorem wA_next (l : List R4) (i : Nat) (h : i < l.length) : wA (l.take (i + 1)) = max (wA (l.take i)) (nb l[i].a.toNat) := by
  have : l[i]?.toList = [l[i]] := by simp [h]
  rw [wA, List.take_add_one, this, List.map_append]
  exact needL_snoc _ _
theorem wG_next (l : List R4) (i : Nat) (h : i < l.length) : wG (l.take (i + 1)) = max (wG (l.take i)) (nb l[i].g.toNat) := by
  have : l[i]?.toList = [l[i]] := by simp [h]
  rw [wG, List.take_add_one, this, List.map_append]
  exact needL_snoc _ _
def encA (r : List Pr × List UInt8 × Int) : AV := .tup [.imm (.sl .any 7 (prs r.1)), .imm (.str r.2.1), .imm (.int .i64 r.2.2)]
abbrev w3 (wa wg : Nat) : List (List IV) := [[.int .i64 1], [.int .i64 (wa : Int)], [.int .i64 (wg : Int)]]
theorem L_cenc1 (l : List R4) (hl : l.length ≤ 1000000) (hok : ∀ x ∈ l, OkX x) (K : Ex → St → Prop) (hE : K (.exit 0) ⟨[(0, (.imm (.sl .any 4 (rowsIV l)))), (6, (.own (Nm.loc (18 : Nat))))], [((Nm.loc (18 : Nat)), (.arr (ty_int + 2) true 1 (w3 (wA l) (wG l))))]⟩) : ∀ (m i : Nat), m + i = l.length →
    L_crossing_Encode_7 (rowsIV l) (rowsIV l) l.length i (w3 (wA (l.take i)) (wG (l.take i))) K := by
  intro m
  induction m with
  | zero =>
    intro i hi
    refine L_crossing_Encode_7_of _ _ _ _ _ _ ⟨fun h => ?_, fun _ => ?_⟩
    · have := of_decide_eq_true h; omega
    · rw [List.take_of_length_le (by omega)]; exact hE
  | succ m ih =>
    intro i hi
    have hlt : i < l.length := by omega
    have ⟨_, _, hk, a0, a1, g0, g1⟩ := hok l[i] (List.getElem_mem hlt)
    refine L_crossing_Encode_7_of _ _ _ _ _ _ ⟨fun _ => ?_, fun h => ?_⟩
    · have w2 : IntKind.i64.wrap ((i : Int) + 1) = ((i + 1 : Nat) : Int) := by rw [wrap_id _ (by omega) (by omega)]; simp
      rw [show (rowsIV l).getD (Int.toNat (i : Int)) [] = rowIV l[i] from rows_at l i hlt, row_g2, row_g3, rowsIV_len, w2]
      have ha : l[i].a = ((l[i].a.toNat : Nat) : Int) := (Int.toNat_of_nonneg a0).symm
      have hg : l[i].g = ((l[i].g.toNat : Nat) : Int) := (Int.toNat_of_nonneg g0).symm
      have n1 := wA_next l i hlt
      have n2 := wG_next l i hlt
      generalize l[i].a.toNat = a at ha n1
      generalize l[i].g.toNat = g at hg n2
      rw [ha, hg]
      refine ⟨⟨⟨by omega, by omega⟩, rowOK _⟩, ⟨⟨by decide, (by show (1 : Int) < ((3 : Nat) : Int); decide)⟩, ⟨⟨(by show 1 < 3; decide), rfl⟩, ?_⟩⟩⟩
      refine Call.use (S_fNeed a (by omega)) ⟨⟨rfl, rfl⟩, ⟨⟨by decide, (by show (1 : Int) < ((3 : Nat) : Int); decide)⟩, ⟨(by show 1 < 3; decide), ⟨⟨by decide, (by show (2 : Int) < ((3 : Nat) : Int); decide)⟩, ⟨⟨(by show 2 < 3; decide), rfl⟩, ?_⟩⟩⟩⟩⟩
      refine Call.use (S_fNeed g (by omega)) ⟨⟨rfl, rfl⟩, ⟨⟨by decide, (by show (2 : Int) < ((3 : Nat) : Int); decide)⟩, ⟨(by show 2 < 3; decide), ?_⟩⟩⟩
      show L_crossing_Encode_7 _ _ _ _ [[.int .i64 1], [.int .i64 (if ((nb a : Nat) : Int) > ((wA (l.take i) : Nat) : Int) then ((nb a : Nat) : Int) else ((wA (l.take i) : Nat) : Int))], [.int .i64 (if ((nb g : Nat) : Int) > ((wG (l.take i) : Nat) : Int) then ((nb g : Nat) : Int) else ((wG (l.take i) : Nat) : Int))]] _
      rw [maxI, maxI, ← n1, ← n2]
      exact ih (i + 1) (by omega)
    · have := of_decide_eq_false h; omega
theorem rowPs_ok (L : List R4) (hok : ∀ x ∈ L, OkX x) (x : R4) (hx : x ∈ L) : OkP (rowPs (wA L) (wG L) x) := ⟨by simp [rowPs], row_ok2 L hok x hx⟩
theorem ns_row (wa wg : Nat) (x : R4) (ho : OkX x) : intsIV (nsOf (rowPs wa wg x)) = [[.int .i64 x.k], [.int .i64 x.a], [.int .i64 x.g]] := by
  have ⟨_, _, hk, a0, a1, g0, g1⟩ := ho
  show [[IV.int .i64 (x.k.toNat : Int)], [IV.int .i64 (x.a.toNat : Int)], [IV.int .i64 (x.g.toNat : Int)]] = _
  rw [Int.toNat_of_nonneg (by omega), Int.toNat_of_nonneg a0, Int.toNat_of_nonneg g0]
theorem text_next (wa wg : Nat) (l : List R4) (i : Nat) (h : i < l.length) : textX wa wg (l.take (i + 1)) = textX wa wg (l.take i) ++ rowB (rowPs wa wg l[i]) := by
  have : l[i]?.toList = [l[i]] := by simp [h]
  rw [List.take_add_one, this, textX, List.flatMap_append]
  simp [textX]
theorem text_small (l : List R4) (hok : ∀ x ∈ l, OkX x) (i : Nat) : (textX (wA l) (wG l) (l.take i)).length ≤ 7 * i := by
  have hA := wA_le l hok
  have hG := wG_le l hok
  rw [text_len]
  have h1 : (l.take i).length ≤ i := by simp; omega
  have h2 : 1 + wA l + wG l ≤ 7 := by omega
  have := Nat.mul_le_mul h1 h2
  omega
theorem L_cenc2 (l : List R4) (hl : l.length ≤ 1000000) (hok : ∀ x ∈ l, OkX x) (t6r : List (List IV)) (K : Ex → St → Prop)
    (hE : K (.exit 2) ⟨[(0, (.imm (.sl .any 4 (rowsIV l)))), (10, (.fn fn_crossing_putter_2 [(.ptr (Nm.sub (50 : Nat) (Nm.loc (4 : Nat))) 0)])), (6, (.imm (.sl .any 1 t6r)))], [((Nm.sub (50 : Nat) (Nm.loc (4 : Nat))), (.blk 61 [(.own (Nm.sub (50 : Nat) ((Nm.loc (4 : Nat)).cell (0 : Nat))))])), ((Nm.sub (50 : Nat) ((Nm.loc (4 : Nat)).cell (0 : Nat))), (.arr (ty_uint8 + 2) true 1 (byteRows (textX (wA l) (wG l) l))))]⟩) : ∀ (m i : Nat), m + i = l.length →
    L_crossing_Encode_17 (rowsIV l) (rowsIV l) l.length i t6r (w3 (wA l) (wG l)) (byteRows (textX (wA l) (wG l) (l.take i))) K := by
  intro m
  induction m with
  | zero =>
    intro i hi
    refine L_crossing_Encode_17_of _ _ _ _ _ _ _ _ ⟨fun h => ?_, fun _ => ?_⟩
    · have := of_decide_eq_true h; omega
    · rw [List.take_of_length_le (by omega)]; exact hE
  | succ m ih =>
    intro i hi
    have hlt : i < l.length := by omega
    have hx := List.getElem_mem hlt
    refine L_crossing_Encode_17_of _ _ _ _ _ _ _ _ ⟨fun _ => ?_, fun h => ?_⟩
    · have w2 : IntKind.i64.wrap ((i : Int) + 1) = ((i + 1 : Nat) : Int) := by rw [wrap_id _ (by omega) (by omega)]; simp
      rw [show (rowsIV l).getD (Int.toNat (i : Int)) [] = rowIV l[i] from rows_at l i hlt, row_g1, row_g2, row_g3, rowsIV_len, w2]
      have key := S_fRow _ (rowPs_ok l hok l[i] hx)
      rw [ns_row _ _ _ (hok _ hx)] at key
      refine ⟨⟨⟨by omega, by omega⟩, rowOK _⟩, Call.use key ⟨⟨rfl, rfl⟩, ?_⟩⟩
      show Req ((_ + (byteRows (rowB (rowPs (wA l) (wG l) l[i]))).length) * 1 ≤ _ ∧ _ + (byteRows (rowB (rowPs (wA l) (wG l) l[i]))).length ≤ _) (L_crossing_Encode_17 _ _ _ _ _ _ (byteRows _ ++ byteRows (rowB (rowPs (wA l) (wG l) l[i]))) _)
      have e : byteRows (textX (wA l) (wG l) (l.take i)) ++ byteRows (rowB (rowPs (wA l) (wG l) l[i])) = byteRows (textX (wA l) (wG l) (l.take (i + 1))) := by
        rw [text_next _ _ l i hlt]; simp [byteRows]
      rw [e]
      refine ⟨?_, ih (i + 1) (by omega)⟩
      have h1 := text_small l hok i
      have hA := wA_le l hok
      have hG := wG_le l hok
      simp only [byteRows, List.length_map, row_len]
      constructor <;> omega
    · have := of_decide_eq_false h; omega
theorem S_cEncode (l : List R4) (hl' : l.length ≤ 500000) : Call E0.P fn_crossing_Encode [.imm (.sl .any 4 (rowsIV l))] [] (Is (encA (encX l)) []) := by
  have hl : l.length ≤ 1000000 := by omega
  refine F_crossing_Encode_of _ _ (Call.use (S_cCheck l (by omega)) ⟨⟨rfl, rfl⟩, ?_⟩)
  show Br (!decide (chkX (-1) l = 0)) _ _
  refine ⟨fun h => ?_, fun h => ?_⟩
  · have h : ¬ chkX (-1) l = 0 := by simpa using h
    rw [encX, if_pos h]; exact ⟨rfl, rfl⟩
  · have h : chkX (-1) l = 0 := by simpa using h
    have hok := chkX_ok l (-1) (by omega) h
    have he : encX l = (encD l, textX (wA l) (wG l) l, 0) := by rw [encX, if_neg (by simp [h])]
    rw [he, rowsIV_len]
    have hp := parts_len l
    refine L_cenc1 l hl hok _ (K_crossing_Encode_1_x0 _ _ _ (C_crossing_Encode_14_of _ _ _ ?_)) l.length 0 rfl
    rw [rowsIV_len]
    refine L_cenc2 l hl hok _ _ (K_crossing_Encode_3_x0 _ _ _ _ (C_crossing_Encode_23_of _ _ _ _ ?_)) l.length 0 rfl
    refine Call.use (S_cparts l hl hok) ⟨⟨rfl, rfl⟩, Call.use (S_clist _ (by omega)) ?_⟩
    rw [vres, vrow_form]
    refine ⟨⟨rfl, rfl⟩, Call.use (S_clist [1, (wA l : Int), (wG l : Int)] (by simp)) ?_⟩
    rw [vres, vrow_form, unbyteC]
    exact ⟨⟨rfl, rfl⟩, ⟨byteRows_okC _, K_crossing_Encode_2_x0 _ _ _ _ (K_crossing_Encode_0_x0 _ _ _ _ ⟨rfl, rfl⟩)⟩⟩
end Go.Proofs.Sim.Se

set_option linter.unusedVariables false
set_option linter.unusedSimpArgs false
namespace Go.Proofs.Sim.Se
open Go Go.Proofs Go.Proofs.Sim Go.Proofs.Sim.Va

theorem cut_len (ws : List Nat) : ∀ s, (cutX ws s).2 = 0 → (cutX ws s).1.length = ws.length := by
  induction ws with
  | nil => intro s _; rfl
  | cons w ws ih =>
    intro s h
    rw [cutX] at h ⊢
    split at h
    · rename_i h1; exact absurd h h1
    · rename_i h1
      rw [if_neg h1]
      split at h
      · rename_i h2; exact absurd h h2
      · rename_i h2
        rw [if_neg h2]
        have := ih (s.drop w) (by simpa using h2)
        simp [this]
theorem three' {α : Type} (l : List α) (h : l.length = 3) : ∃ a b c, l = [a, b, c] := by
  match l, h with
  | [a, b, c], _ => exact ⟨a, b, c, rfl⟩
def finR (acc : List R4) (r : List R4 × Int) : List R4 × Int := if r.2 ≠ 0 then ([], r.2) else (acc ++ r.1, 0)
def decA (r : List R4 × Int) : AV := .tup [.imm (.sl .any 4 (rowsIV r.1)), .imm (.int .i64 r.2)]
theorem finR_bad (acc : List R4) (w : List Nat) (n : Int) (ns : List Int) (s : List UInt8) (h : ¬ (cutX w (s.take w.sum)).2 = 0) : finR acc (rowsX w (n :: ns) s) = ([], (cutX w (s.take w.sum)).2) := by
  rw [rowsX, if_pos h]; simp [finR, h]
theorem finR_good (acc : List R4) (w : List Nat) (n : Int) (ns : List Int) (s : List UInt8) (h : (cutX w (s.take w.sum)).2 = 0) : finR acc (rowsX w (n :: ns) s) = finR (acc ++ [mkRow (w.getD 0 0) n (cutX w (s.take w.sum)).1]) (rowsX w ns (s.drop w.sum)) := by
  rw [rowsX, if_neg (by simp [h])]
  unfold finR
  by_cases c : (rowsX w ns (s.drop w.sum)).2 = 0
  · simp [c]
  · simp [c]
theorem chkR_bad (e : Int) (h : ¬ e = 0) : chkR ([], e) = ([], e) := by rw [chkR, if_pos h]
theorem rows_snoc (l : List R4) (x : R4) : rowsIV l ++ [rowIV x] = rowsIV (l ++ [x]) := by simp [rowsIV]
theorem piece_eq (s : List UInt8) (i W : Nat) : (s.take (i * W + W)).drop (i * W) = (s.drop (i * W)).take W := by
  rw [List.drop_take]; congr 1; omega
theorem unbyteD (s : List UInt8) (a b : Nat) : List.map (fun r => UInt8.ofNat (gI r 0).toNat) (((byteRows s).take b).drop a) = (s.take b).drop a := by
  have : ((byteRows s).take b).drop a = byteRows ((s.take b).drop a) := by simp [byteRows, List.map_drop, List.map_take]
  rw [this, unbyteC]
theorem mul_ok (i n W L : Nat) (h : n * W = L) (hi : i < n) : i * W + W ≤ L := by
  have := Nat.mul_le_mul_right W (show i + 1 ≤ n from hi)
  rw [Nat.succ_mul] at this; omega
theorem fin2 (x : List Int × Int) : (fin [] x).2 = x.2 := by
  unfold fin
  by_cases h : x.2 = 0 <;> simp [h]
theorem C_row (w0 w1 w2 : Nat) (W n : Int) (ns : List Int) (t56 : Int) (i : Nat) (hi : i < 1000000) (s : List UInt8) (acc : List R4) (hacc : acc.length = i) (y0 y1 y2 : Int) (K : Ex → St → Prop)
    (hK : L_crossing_Decode_13 (intsIV (natsI [w0, w1, w2])) W (intsIV ns) t56 ((i + 1 : Nat) : Int) false (byteRows s) (rowsIV (acc ++ [⟨n, y0, y1, y2⟩])) K) :
    C_crossing_Decode_24 (intsIV (natsI [w0, w1, w2])) W n (intsIV ns) t56 i (byteRows s) (rowsIV acc) (intsIV [y0, y1, y2]) (K_crossing_Decode_3 K) := by
  have w2' : IntKind.i64.wrap ((i : Int) + 1) = ((i + 1 : Nat) : Int) := by rw [wrap_id _ (by omega) (by omega)]; simp
  refine C_crossing_Decode_24_of _ _ _ _ _ _ _ _ _ _ ?_
  have h3 : ∀ j : Nat, j < 3 → ((j : Int) < (((intsIV [y0, y1, y2]).length : Nat) : Int)) := fun j hj => by rw [ints_len]; simp; omega
  have n3 : ∀ j : Nat, j < 3 → j < (intsIV [y0, y1, y2]).length := fun j hj => by rw [ints_len]; exact hj
  refine ⟨⟨by decide, h3 0 (by decide)⟩, ⟨⟨n3 0 (by decide), rfl⟩, ⟨⟨by decide, h3 1 (by decide)⟩, ⟨⟨n3 1 (by decide), rfl⟩, ⟨⟨by decide, h3 2 (by decide)⟩, ⟨⟨n3 2 (by decide), rfl⟩, ⟨by rw [rowsIV_len]; constructor <;> omega, ?_⟩⟩⟩⟩⟩⟩⟩
  refine K_crossing_Decode_3_x0 _ _ _ _ _ _ _ _ (C_crossing_Decode_25_of _ _ _ _ _ _ _ _ ?_)
  rw [w2']
  refine K_crossing_Decode_2_x0 _ _ _ _ _ _ _ _ ?_
  rw [← rows_snoc] at hK
  exact hK
theorem L_cdec (w0 w1 w2 : Nat) (h0 : w0 ≤ 8) (h1 : w1 ≤ 8) (h2 : w2 ≤ 8) (ns : List Int) (s : List UInt8) (hs : s.length ≤ 1000000) (hns : ns.length * [w0, w1, w2].sum = s.length) (hW : 0 < [w0, w1, w2].sum) (Q : AV → Heap → Prop) (r : List R4 × Int) (hq : Q (decA r) []) : ∀ (m i : Nat) (b : Bool) (acc : List R4), m + i = ns.length → acc.length = i →
    r = chkR (finR acc (rowsX [w0, w1, w2] (ns.drop i) (s.drop (i * [w0, w1, w2].sum)))) →
    L_crossing_Decode_13 (intsIV (natsI [w0, w1, w2])) ([w0, w1, w2].sum : Nat) (intsIV ns) ns.length i b (byteRows s) (rowsIV acc) (K_crossing_Decode_1 Q) := by
  have hok : OkW [w0, w1, w2] := ⟨by simp, by intro w hw; simp at hw; rcases hw with rfl | rfl | rfl <;> assumption⟩
  have hnl : ns.length ≤ 1000000 := by
    have := Nat.mul_le_mul_left ns.length hW
    omega
  intro m
  induction m with
  | zero =>
    intro i b acc hi ha hr
    refine L_crossing_Decode_13_of _ _ _ _ _ _ _ _ _ ⟨fun h => ?_, fun _ => ?_⟩
    · have := of_decide_eq_true h; omega
    · rw [List.drop_of_length_le (by omega)] at hr
      have hr : r = chkR (acc, 0) := by rw [hr]; simp [rowsX, finR]
      refine K_crossing_Decode_1_x1 _ _ (C_crossing_Decode_26_of _ _ (Call.use (S_cCheck acc (by omega)) ⟨⟨rfl, rfl⟩, ?_⟩))
      show Br (!decide (chkX (-1) acc = 0)) _ _
      refine ⟨fun h => ?_, fun h => ?_⟩
      · have h : ¬ chkX (-1) acc = 0 := by simpa using h
        have : r = ([], chkX (-1) acc) := by rw [hr, chkR]; simp [h]
        rw [this] at hq
        exact K_crossing_Decode_0_x0 _ _ _ hq
      · have h : chkX (-1) acc = 0 := by simpa using h
        have : r = (acc, 0) := by rw [hr, chkR]; simp [h]
        rw [this] at hq
        exact K_crossing_Decode_0_x1 _ _ _ hq
  | succ m ih =>
    intro i b acc hi ha hr
    have hlt : i < ns.length := by omega
    have hm := mul_ok i ns.length _ _ hns hlt
    refine L_crossing_Decode_13_of _ _ _ _ _ _ _ _ _ ⟨fun _ => ?_, fun h => ?_⟩
    · have hd : ns.drop i = ns.getD i 0 :: ns.drop (i + 1) := by rw [drop_cons ns i hlt]; simp [List.getD_eq_getElem?_getD, hlt]
      rw [hd] at hr
      have wm : IntKind.i64.wrap ((i : Int) * (([w0, w1, w2].sum : Nat) : Int)) = ((i * [w0, w1, w2].sum : Nat) : Int) := by
        rw [wrap_id _ (by have : (i : Int) * (([w0, w1, w2].sum : Nat) : Int) = ((i * [w0, w1, w2].sum : Nat) : Int) := by simp
                          rw [this]; omega) (by have : (i : Int) * (([w0, w1, w2].sum : Nat) : Int) = ((i * [w0, w1, w2].sum : Nat) : Int) := by simp
                                                rw [this]; omega)]
        simp
      have wn : IntKind.i64.wrap (((i * [w0, w1, w2].sum : Nat) : Int) + (([w0, w1, w2].sum : Nat) : Int)) = ((i * [w0, w1, w2].sum + [w0, w1, w2].sum : Nat) : Int) := by
        rw [wrap_id _ (by omega) (by omega)]; simp
      rw [wm, wn, Int.toNat_natCast (i * [w0, w1, w2].sum), Int.toNat_natCast (i * [w0, w1, w2].sum + [w0, w1, w2].sum), unbyteD, piece_eq, show (intsIV ns).getD (Int.toNat (i : Int)) [] = _ from ints_at ns i hlt, ints_len]
      have hbl : (byteRows s).length = s.length := by simp [byteRows]
      have hpl : ((s.drop (i * [w0, w1, w2].sum)).take [w0, w1, w2].sum).length = [w0, w1, w2].sum := by
        rw [List.length_take, List.length_drop]; omega
      refine ⟨⟨⟨by omega, by omega⟩, rfl⟩, ⟨⟨by omega, by omega, by omega, by rw [hbl]; omega⟩, ⟨fun r hr => byteRows_okC s r (List.take_subset _ _ (List.drop_subset _ _ hr)), ?_⟩⟩⟩
      refine Call.use (S_fCut _ [w0, w1, w2] hok hpl) ⟨⟨rfl, rfl⟩, ?_⟩
      have hstep := finR_bad acc [w0, w1, w2] (ns.getD i 0) (ns.drop (i + 1)) (s.drop (i * [w0, w1, w2].sum))
      have hstep2 := finR_good acc [w0, w1, w2] (ns.getD i 0) (ns.drop (i + 1)) (s.drop (i * [w0, w1, w2].sum))
      have hcl := cut_len [w0, w1, w2] ((s.drop (i * [w0, w1, w2].sum)).take [w0, w1, w2].sum)
      generalize cutX [w0, w1, w2] ((s.drop (i * [w0, w1, w2].sum)).take [w0, w1, w2].sum) = x at hstep hstep2 hcl
      show Br (!decide ((fin [] x).2 = 0)) _ _
      have hf2 := fin2 x
      rw [hf2]
      refine ⟨fun h => ?_, fun h => ?_⟩
      · have h : ¬ x.2 = 0 := by simpa using h
        rw [hstep h, chkR_bad _ h] at hr
        rw [hr] at hq
        refine K_crossing_Decode_1_x0 _ _ _ ?_
        show Q (.tup [_, .imm (.int .i64 (fin [] x).2)]) []
        rw [hf2]; exact hq
      · have h : x.2 = 0 := by simpa using h
        rw [hstep2 h] at hr
        have hx1 : (fin [] x).1 = x.1 := by unfold fin; simp [h]
        obtain ⟨x0, x1, x2, hx⟩ := three' x.1 (by rw [hcl h]; rfl)
        have harr : arrRows (cutH (fin [] x)) (Nm.loc 0) = intsIV [x0, x1, x2] := by
          show intsIV (fin [] x).1 = _
          rw [hx1, hx]
        rw [harr]
        have hw0 : gI ((intsIV (natsI [w0, w1, w2])).getD 0 []) 0 = (w0 : Int) := rfl
        rw [hw0]
        have l3 : (((intsIV (natsI [w0, w1, w2])).length : Nat) : Int) = 3 := rfl
        have x3 : (((intsIV [x0, x1, x2]).length : Nat) : Int) = 3 := rfl
        have hrow : ∀ y0, y0 = (if w0 = 0 then 1 else x0) → (⟨ns.getD i 0, y0, x1, x2⟩ : R4) = mkRow ([w0, w1, w2].getD 0 0) (ns.getD i 0) x.1 := by
          intro y0 hy
          rw [hx, hy]; rfl
        have next : ∀ y0, y0 = (if w0 = 0 then 1 else x0) → L_crossing_Decode_13 (intsIV (natsI [w0, w1, w2])) ([w0, w1, w2].sum : Nat) (intsIV ns) ns.length ((i + 1 : Nat) : Int) false (byteRows s) (rowsIV (acc ++ [⟨ns.getD i 0, y0, x1, x2⟩])) (K_crossing_Decode_1 Q) := by
          intro y0 hy
          refine ih (i + 1) false _ (by omega) (by simp; omega) ?_
          rw [hrow y0 hy, hr, List.drop_drop, Nat.succ_mul]
        refine ⟨⟨⟨by decide, by rw [l3]; decide⟩, rfl⟩, ⟨fun h => ⟨⟨by decide, by rw [x3]; decide⟩, ⟨(by show 0 < 3; decide), ?_⟩⟩, fun h => ?_⟩⟩
        · have h := of_decide_eq_true h
          have := C_row w0 w1 w2 _ (ns.getD i 0) ns ns.length i (by omega) s acc ha 1 x1 x2 _ (next 1 (by rw [if_pos (by omega)]))
          exact this
        · have h := of_decide_eq_false h
          exact C_row w0 w1 w2 _ (ns.getD i 0) ns ns.length i (by omega) s acc ha x0 x1 x2 _ (next x0 (by rw [if_neg (by omega)]))
    · have := of_decide_eq_false h; omega
end Go.Proofs.Sim.Se

set_option linter.unusedVariables false
set_option linter.unusedSimpArgs false
namespace Go.Proofs.Sim.Se
open Go Go.Proofs Go.Proofs.Sim Go.Proofs.Sim.Va

theorem num_len {l : List Int} (h : OkL l) : ∀ (m i : Nat), 2 * m + i = l.length → ((numX (l.drop i)).length : Int) = oddSum (l.drop i) := by
  intro m
  induction m with
  | zero => intro i hi; rw [List.drop_of_length_le (by omega)]; rfl
  | succ m ih =>
    intro i hi
    rw [num_drop l i (by omega), odd_drop l i (by omega), List.length_append, upto_len]
    have := ih (i + 2) (by omega)
    have := h.at (i + 1) (by omega)
    omega
theorem spans_ok {d : List Pr} (hS : (spanV d).l.length ≤ 1000000) {l : List Int} (h : spansX d = some l) : sInts d = some l ∧ OkL l := by
  unfold spansX at h
  cases hi : sInts d with
  | none => rw [hi] at h; cases h
  | some l' =>
    rw [hi] at h
    simp only at h
    split at h
    · rename_i he
      cases h
      have hb := intsX_some (show intsX (spanV d) 8388608 = some l from hi)
      exact ⟨rfl, ⟨by omega, he, hb.1⟩⟩
    · cases h
theorem widths_ok {d : List Pr} {w : List Int} (h : widthsX d = some w) : wInts d = some w ∧ ∃ a b c : Nat, a ≤ 8 ∧ b ≤ 8 ∧ c ≤ 8 ∧ w = natsI [a, b, c] ∧ natW w = [a, b, c] ∧ wideX d = (([a, b, c].sum : Nat) : Int) := by
  have h' := h
  unfold widthsX at h
  cases hi : wInts d with
  | none => rw [hi] at h; cases h
  | some l' =>
    rw [hi] at h
    simp only at h
    split at h
    · rename_i h3
      cases h
      have hb := intsX_some (show intsX _ 8 = some w from hi)
      obtain ⟨a, b, c, rfl⟩ := three w h3
      have ha := hb.1 a (by simp)
      have hb' := hb.1 b (by simp)
      have hc := hb.1 c (by simp)
      refine ⟨rfl, a.toNat, b.toNat, c.toNat, by omega, by omega, by omega, ?_, ?_, ?_⟩
      · simp only [natsI, List.map_cons, List.map_nil]
        rw [Int.toNat_of_nonneg ha.1, Int.toNat_of_nonneg hb'.1, Int.toNat_of_nonneg hc.1]
      · simp [natW]
      · rw [wideX, h']
        simp only [List.getD_cons_zero, List.getD_cons_succ, List.sum_cons, List.sum_nil]
        omega
    · cases h
theorem widths_r0 (d : List Pr) : rR (rT (widthsA d) 0) = intsIV ((widthsX d).getD []) := rfl
theorem widths_r1 (d : List Pr) : rI (rT (widthsA d) 1) = wideX d := rfl
theorem spans_r0 (d : List Pr) : rR (rT (spansA d) 0) = intsIV ((sInts d).getD []) := rfl
theorem spans_r1 (d : List Pr) : rB (rT (spansA d) 1) = (spansX d).isSome := rfl
theorem divN (a b : Nat) (h : a ≤ 1000000) : IntKind.i64.wrap ((a : Int).tdiv (b : Int)) = ((a / b : Nat) : Int) := by
  have e : (a : Int).tdiv (b : Int) = ((a / b : Nat) : Int) := by rw [Int.tdiv_eq_ediv_of_nonneg (by omega)]; simp
  have := Nat.div_le_self a b
  rw [e]
  generalize a / b = q at this
  rw [wrap_id _ (by omega) (by omega)]
theorem modN (a b : Nat) : (a : Int).tmod (b : Int) = ((a % b : Nat) : Int) := by
  rw [Int.tmod_eq_emod_of_nonneg (by omega)]; simp
theorem S_cDecode (d : List Pr) (s : List UInt8) (hf : Fit (dictV d)) (hS : (spanV d).l.length ≤ 1000000) (hs : s.length ≤ 1000000) : Call E0.P fn_crossing_Decode [.imm (.sl .any 7 (prs d)), .imm (.str s)] [] (Is (decA (decX d s)) []) := by
  refine F_crossing_Decode_of _ _ _ (Call.use (S_cwidths d hf) ⟨⟨rfl, rfl⟩, Call.use (S_cspans d hf) ⟨⟨rfl, rfl⟩, Let.intro ?_⟩⟩)
  rw [widths_r0, widths_r1, spans_r0, spans_r1]
  cases hw : widthsX d with
  | none =>
    have h0 : wideX d = 0 := by rw [wideX, hw]
    have hd : decX d s = ([], 11) := by rw [decX, hw]
    rw [hd, h0]
    exact ⟨fun _ => ⟨rfl, rfl⟩, fun h => absurd h (by simp)⟩
  | some w =>
    obtain ⟨hwi, a, b, c, ha, hb, hc, hwn, hnat, hwide⟩ := widths_ok hw
    cases hsp : spansX d with
    | none =>
      have hd : decX d s = ([], 11) := by rw [decX, hw, hsp]
      rw [hd]
      exact ⟨fun _ => ⟨rfl, rfl⟩, fun h => absurd h (by simp)⟩
    | some l =>
      obtain ⟨hsi, hl⟩ := spans_ok hS hsp
      have hd : decX d s = decW w l s := by rw [decX, hw, hsp]
      rw [hd, hwide, hsi]
      by_cases h0 : [a, b, c].sum = 0
      · have : decW w l s = ([], 11) := by rw [decW, hnat, if_pos h0]
        rw [this, h0]
        exact ⟨fun _ => ⟨rfl, rfl⟩, fun h => absurd h (by simp)⟩
      · have hne : ¬ (([a, b, c].sum : Nat) : Int) = 0 := by omega
        rw [decide_eq_false hne]
        refine ⟨fun h => absurd (show false = true from h) (by decide), fun _ => ⟨hne, ?_⟩⟩
        rw [divN _ _ hs, modN]
        have hdl := Nat.div_le_self s.length [a, b, c].sum
        refine Call.use (S_numbers l hl _ (by omega)) ?_
        by_cases he : oddSum l = ((s.length / [a, b, c].sum : Nat) : Int)
        · rw [numA, if_pos he]
          by_cases hm : s.length % [a, b, c].sum = 0
          · have hm' : ((s.length % [a, b, c].sum : Nat) : Int) = 0 := by omega
            refine ⟨⟨rfl, rfl⟩, ⟨fun _ => hne, Let.intro ?_⟩⟩
            rw [hm']
            refine ⟨fun h => absurd (show false = true from h) (by decide), fun _ => ⟨by omega, ?_⟩⟩
            have hdec : decW w l s = chkR (rowsX [a, b, c] (numX l) s) := by
              rw [decW, hnat, if_neg h0, if_neg (fun c => c.elim (fun c => c he) (fun c => c hm))]
            rw [hdec]
            have hnl := num_len hl (l.length / 2) 0 (by have := hl.even; omega)
            rw [List.drop_zero] at hnl
            have hns : (numX l).length * [a, b, c].sum = s.length := by
              have : (numX l).length = s.length / [a, b, c].sum := by omega
              rw [this]
              exact Nat.div_mul_cancel (Nat.dvd_of_mod_eq_zero hm)
            have key := L_cdec a b c ha hb hc (numX l) s hs hns (by omega) (Is (decA (chkR (rowsX [a, b, c] (numX l) s))) []) (chkR (rowsX [a, b, c] (numX l) s)) ⟨rfl, rfl⟩ (numX l).length 0 true [] rfl rfl (by
              rw [List.drop_zero, Nat.zero_mul, List.drop_zero]
              unfold finR
              by_cases h : (rowsX [a, b, c] (numX l) s).2 = 0
              · rw [if_neg (by simpa using h)]
                congr 1
                exact Prod.ext (by simp) h
              · rw [if_pos h, chkR, if_pos h, chkR_bad _ h])
            rw [hwn]
            show L_crossing_Decode_13 (intsIV (natsI [a, b, c])) _ (intsIV (numX l)) ((intsIV (numX l)).length : Int) 0 true (byteRows s) [] _
            rw [ints_len]
            exact key
          · have hm' : ¬ ((s.length % [a, b, c].sum : Nat) : Int) = 0 := by omega
            have hdec : decW w l s = ([], 4) := by
              rw [decW, hnat, if_neg h0, if_pos (.inr hm)]
            rw [hdec]
            refine ⟨⟨rfl, rfl⟩, ⟨fun _ => hne, Let.intro ?_⟩⟩
            rw [decide_eq_false hm']
            exact ⟨fun _ => ⟨rfl, rfl⟩, fun h => absurd (show true = false from h) (by decide)⟩
        · rw [numA, if_neg he]
          have hdec : decW w l s = ([], 4) := by
            rw [decW, hnat, if_neg h0, if_pos (.inl he)]
          rw [hdec]
          exact ⟨⟨rfl, rfl⟩, ⟨fun h => absurd (show true = false from h) (by decide), Let.intro ⟨fun _ => ⟨rfl, rfl⟩, fun h => absurd (show true = false from h) (by decide)⟩⟩⟩
end Go.Proofs.Sim.Se

set_option linter.unusedVariables false
set_option linter.unusedSimpArgs false
namespace Go.Proofs.Sim.Se
open Go Go.Proofs Go.Proofs.Sim Go.Proofs.Sim.Va

abbrev Tr : AV → Heap → Prop := Is (.imm (.bool true)) []
theorem brT {A B : Prop} (h : A) : Br (true == true) A B := ⟨fun _ => h, fun h => absurd h (by decide)⟩
theorem brT' {A B : Prop} {b : Bool} (hb : b = true) (h : A) : Br b A B := ⟨fun _ => h, fun h' => absurd (hb.symm.trans h') (by decide)⟩
theorem S_lPairs (d : List Pr) (hf : Fit (dictV d)) : Call E0.P fn_l23_Pairs [.imm (.sl .any 7 (prs d)), .imm (.sl .any 7 (prs d))] [] Tr := by
  have h := S_Equal (dictV d) hf (dictV d)
  have h : Call E0.P fn_r16_Equal [.imm (.agg (dictV d).row), .imm (.agg (dictV d).row)] [] _ := h
  rw [dict_row] at h
  refine F_l23_Pairs_of _ _ _ (h.mono ?_)
  rintro r g ⟨c, rfl, rfl, hc⟩
  obtain rfl : c = true := hc.2 rfl
  exact ⟨⟨rfl, rfl⟩, ⟨rfl, rfl⟩⟩
theorem L_lints (l : List Int) (hl : l.length ≤ 1000000) (Q : AV → Heap → Prop) (hq : Q (.imm (.agg (listV l).row)) []) : ∀ (m i : Nat), m + i = l.length →
    L_l23_ints_3 (intsIV l) i 0 0 0 [] 5 0 0 [] [] [] (vrs ((l.take i).map intV)) [] (K_l23_ints_1 Q) := by
  intro m
  induction m with
  | zero =>
    intro i hi
    refine L_l23_ints_3_of _ _ _ _ _ _ _ _ _ _ _ _ _ _ _ ⟨fun h => ?_, fun _ => ?_⟩
    · have := of_decide_eq_true h
      rw [ints_len] at this; omega
    · rw [List.take_of_length_le (by omega)]
      refine K_l23_ints_1_x0 _ _ _ _ _ _ _ _ _ _ _ _ _ (C_l23_ints_8_of _ _ _ _ _ _ _ _ _ _ _ _ _ (K_l23_ints_0_x0 _ _ _ _ _ _ _ ?_))
      rw [list_row] at hq; exact hq
  | succ m ih =>
    intro i hi
    have hlt : i < l.length := by omega
    refine L_l23_ints_3_of _ _ _ _ _ _ _ _ _ _ _ _ _ _ _ ⟨fun _ => ?_, fun h => ?_⟩
    · have w2 : IntKind.i64.wrap ((i : Int) + 1) = ((i + 1 : Nat) : Int) := by rw [wrap_id _ (by omega) (by omega)]; simp
      have e : vrs ((l.take i).map intV) ++ [[.int .i64 2, .int .i64 (l.getD i 0), .int .i64 0, .str [], .sl .any 6 [], .sl .any 7 []]] = vrs ((l.take (i + 1)).map intV) := by
        have : l[i]?.toList = [l.getD i 0] := by simp [List.getD_eq_getElem?_getD, hlt]
        rw [List.take_add_one, this, ← int_row]; simp [vrs]
      rw [show (intsIV l).getD (Int.toNat (i : Int)) [] = _ from ints_at l i hlt, ints_len, w2, show gI [.int .i64 (l.getD i 0)] 0 = l.getD i 0 from rfl, e]
      refine ⟨⟨⟨by omega, by omega⟩, rfl⟩, ⟨?_, ih (i + 1) (by omega)⟩⟩
      rw [vrs_len, List.length_map, List.length_take]; constructor <;> omega
    · have := of_decide_eq_false h
      rw [ints_len] at this; omega
theorem S_lints (l : List Int) (hl : l.length ≤ 1000000) : Call E0.P fn_l23_ints [.imm (.sl .any 1 (intsIV l))] [] (Is (.imm (.agg (listV l).row)) []) :=
  F_l23_ints_of _ _ (L_lints l hl _ ⟨rfl, rfl⟩ l.length 0 rfl)
def exR : List R4 := [⟨0, 0, 0, 65535⟩, ⟨3, 1, 17, 0⟩]
theorem ex_chk : chkX (-1) exR = 0 := by decide
theorem nb17 : nb 17 = 1 := by rw [nb]; simp; exact nb_zero
theorem nb65535 : nb 65535 = 2 := by
  rw [nb]; simp
  rw [nb]; simp
  exact nb_zero
theorem ex_wA : wA exR = 1 := by
  show max (max 0 (nb 0)) (nb 17) = 1
  rw [nb_zero, nb17]; rfl
theorem ex_wG : wG exR = 2 := by
  show max (max 0 (nb 65535)) (nb 0) = 2
  rw [nb_zero, nb65535]; rfl
def exT : List UInt8 := [0, 0, 255, 255, 1, 17, 0, 0]
def exD : List Pr := [(kIndex, listV [0, 1, 3, 1]), (kW, listV [1, 1, 2])]
theorem ex_encD : encD exR = exD := by
  rw [encD, ex_wA, ex_wG]; rfl
theorem ex_enc : encX exR = (exD, exT, 0) := by
  rw [encX, ex_chk, if_neg (by decide), ex_encD, ex_wA, ex_wG]; rfl
theorem ex_dec : decX exD exT = (exR, 0) := by
  have := dec_enc exR (by decide) ex_chk
  rw [ex_encD, ex_wA, ex_wG] at this
  exact this
theorem ex_ok : ∀ x ∈ exR, OkX x := chkX_ok exR (-1) (by decide) ex_chk
theorem ex_wide : wideX exD = 4 := by
  have := enc_wide exR ex_ok
  rw [ex_encD, ex_wA, ex_wG] at this
  rw [this]; rfl
theorem getV_nil (k : Ky) : getV (dictV []) k = none := by rw [getV_dict]; rfl
theorem nil_wInts : wInts [] = none := by
  rw [wInts, getV_nil]
  unfold intsX
  rw [if_pos (by simp [zero, V.k])]
theorem nil_widths : widthsX [] = none := by rw [widthsX, nil_wInts]
theorem nil_dec : decX [] [] = ([], 11) := by rw [decX, nil_widths]
theorem nil_wide : wideX [] = 0 := by rw [wideX, nil_widths]
theorem fit_nil : Fit (dictV []) := fit_dict [] (by simp) (by simp)
theorem fit_encD (l : List R4) (hl : l.length ≤ 1000000) : Fit (dictV (encD l)) := by
  have hp := parts_len l
  refine fit_dict _ (by simp [encD]) fun p hp' => ?_
  simp only [encD, List.mem_cons, List.not_mem_nil, or_false] at hp'
  rcases hp' with rfl | rfl
  · exact fit_list _ (by omega)
  · exact fit_list _ (by simp)
theorem span_nil : (spanV []).l.length ≤ 1000000 := by
  rw [spanV, getV_nil]; simp [V.l]
theorem span_enc (l : List R4) (hl : l.length ≤ 500000) : (spanV (encD l)).l.length ≤ 1000000 := by
  have hg : getV (dictV (encD l)) kIndex = some (listV (partsX l)) := by
    rw [getV_dict, encD, List.find?_cons, decide_eq_true rfl]
    simp only [listV_plain]
    rw [if_neg (by simp [listV, V.k])]
  have hp := parts_len l
  rw [spanV, hg]
  show ((partsX l).map intV).length ≤ _
  rw [List.length_map]; omega
theorem encA_r0 (r : List Pr × List UInt8 × Int) : rR (rT (encA r) 0) = prs r.1 := rfl
theorem encA_r1 (r : List Pr × List UInt8 × Int) : rS (rT (encA r) 1) = r.2.1 := rfl
theorem encA_r2 (r : List Pr × List UInt8 × Int) : rI (rT (encA r) 2) = r.2.2 := rfl
theorem decA_r0 (r : List R4 × Int) : rR (rT (decA r) 0) = rowsIV r.1 := rfl
theorem decA_r1 (r : List R4 × Int) : rI (rT (decA r) 1) = r.2 := rfl
theorem S_crossings : Call E0.P fn_l23_crossings [] [] Tr := by
  have hE := S_cEncode exR (by decide)
  rw [ex_enc] at hE
  have hfd : Fit (dictV exD) := by have := fit_encD exR (by decide); rw [ex_encD] at this; exact this
  have hsd : (spanV exD).l.length ≤ 1000000 := by have := span_enc exR (by decide); rw [ex_encD] at this; exact this
  have hD := S_cDecode exD exT hfd hsd (by decide)
  rw [ex_dec] at hD
  have hN := S_cDecode [] [] fit_nil span_nil (by decide)
  rw [nil_dec] at hN
  refine F_l23_crossings_of _ (Call.use hE ⟨⟨rfl, rfl⟩, Call.use hD ⟨⟨rfl, rfl⟩, Call.use hN ⟨⟨rfl, rfl⟩, Call.use (S_lints [0, 1, 3, 1] (by decide)) ?_⟩⟩⟩)
  rw [vres, vrow_form]
  refine ⟨⟨rfl, rfl⟩, Call.use (S_lints [1, 1, 2] (by decide)) ?_⟩
  rw [vres, vrow_form]
  refine ⟨⟨rfl, rfl⟩, Call.use (S_lPairs exD hfd) ⟨⟨rfl, rfl⟩, Let.intro (Let.intro (brT ?_))⟩⟩
  refine Call.use (S_Same exR (by decide)) ⟨⟨rfl, rfl⟩, Let.intro (Let.intro (Let.intro (brT ?_)))⟩
  have hw := S_cWide exD hfd
  rw [ex_wide] at hw
  have hw0 := S_cWide [] fit_nil
  rw [nil_wide] at hw0
  have hc := S_cCheck exR (by decide)
  rw [ex_chk] at hc
  refine Call.use hw ⟨⟨rfl, rfl⟩, Let.intro (brT ?_)⟩
  refine Call.use hw0 ⟨⟨rfl, rfl⟩, Let.intro (brT ?_)⟩
  exact Call.use hc ⟨⟨rfl, rfl⟩, Let.intro ⟨rfl, rfl⟩⟩
end Go.Proofs.Sim.Se

import Derived.Test.YtcdjheflchglaaaDoorVsB
set_option linter.unusedVariables false
set_option linter.unusedSimpArgs false
namespace Go.Proofs.Sim.Se
open Go Go.Proofs Go.Proofs.Sim Go.Proofs.Sim.Va Go.Proofs.Sim.St

theorem letU {α : Type} {v : α} {k : α → Prop} (h : k v) : Let v k := ⟨fun x hx => hx ▸ h⟩
theorem cmp_eq (a b : Ky) : decide (cmpK a b = 0) = decide (a = b) := by
  unfold cmpK
  cases h : Op.bytesLess a b with
  | true =>
    have : a ≠ b := fun e => by rw [e, bl_irr] at h; cases h
    simp [this]
  | false => by_cases e : a = b <;> simp [e]
def Found (D : List Pr) (k : Ky) (r : AV) (h : Heap) : Prop := ∃ (t : Nat) (b : Bool), r = .tup [.imm (.int .i64 t), .imm (.bool b)] ∧ h = [] ∧ t ≤ D.length ∧ (b = true → t < D.length ∧ (pAt D t).1 = k) ∧ (b = false → fib pk k D = [])
theorem L_bs (D : List Pr) (k : Ky) (n : Int) (K : Ex → St → Prop) (hL : Sm D) : ∀ (f s r : Nat), r - s ≤ f → s ≤ r → r ≤ D.length →
    (∀ t, s ≤ t → t ≤ r → (s < t → bl (pAt D (t - 1)).1 k = true) → (t < r → bl (pAt D t).1 k = false) → K (.exit 0) ⟨[(0, .imm (.sl .any 7 (prs D))), (1, .imm (.str k)), (2, .fn fn_value_place_1 []), (8, .imm (.int .i64 n)), (9, .imm (.int .i64 t))], []⟩) →
    L_slices_BinarySearchFunc_Pair_string_3 (prs D) k n s r K := by
  intro f
  induction f with
  | zero =>
    intro s r hf hsr hr hq
    refine L_slices_BinarySearchFunc_Pair_string_3_of _ _ _ _ _ _ ⟨fun h => ?_, fun _ => ?_⟩
    · have := of_decide_eq_true h; omega
    · exact hq s (Nat.le_refl _) hsr (fun h => by omega) (fun h => by omega)
  | succ f ih =>
    intro s r hf hsr hr hq
    have hL' : D.length ≤ 4611686018427387904 := hL
    refine L_slices_BinarySearchFunc_Pair_string_3_of _ _ _ _ _ _ ⟨fun h => ?_, fun h => ?_⟩
    · have hlt : s < r := by have := of_decide_eq_true h; omega
      rw [half s r (by omega)]
      have hc1 : (s + r) / 2 < r := by omega
      have hc2 : s ≤ (s + r) / 2 := by omega
      generalize (s + r) / 2 = c at hc1 hc2
      have w : IntKind.i64.wrap ((c : Int) + 1) = ((c + 1 : Nat) : Int) := by rw [wrap_id _ (by omega) (by omega)]; simp
      rw [w]
      simp only [Int.toNat_natCast]
      have e : (prs D).getD c [] = pRow (pAt D c) := by simp [List.getD_eq_getElem?_getD, show c < D.length by omega]
      rw [e, row_form]
      refine ⟨by decide, ⟨⟨⟨by omega, by rw [prs_len]; omega⟩, row_ok _ _ _⟩, ?_⟩⟩
      refine Call.use (S_cmpPK _ _) ⟨⟨rfl, rfl⟩, ?_⟩
      show Br (decide (cmpK (pAt D c).1 k < 0)) _ _
      rw [cmp_neg]
      refine ⟨fun hb => ?_, fun hb => ?_⟩
      · refine ih (c + 1) r (by omega) (by omega) hr fun t h1 h2 h3 h4 => hq t (by omega) h2 (fun _ => ?_) h4
        by_cases e : t = c + 1
        · subst e; exact hb
        · exact h3 (by omega)
      · refine ih s c (by omega) (by omega) (by omega) fun t h1 h2 h3 h4 => hq t h1 (by omega) h3 (fun _ => ?_)
        by_cases e : t = c
        · subst e; exact hb
        · exact h4 (by omega)
    · have := of_decide_eq_false h
      exact hq s (Nat.le_refl _) hsr (fun h => by omega) (fun h => by omega)
theorem S_bs (D : List Pr) (k : Ky) (hD : SortedP D) (hL : Sm D) : Call E0.P fn_slices_BinarySearchFunc_Pair_string [.imm (.sl .any 7 (prs D)), .imm (.str k), .fn fn_value_place_1 []] [] (Found D k) := by
  refine F_slices_BinarySearchFunc_Pair_string_of _ _ _ ?_
  have hL' : D.length ≤ 4611686018427387904 := hL
  have hl := prs_len D
  rw [hl]
  refine L_bs D k _ _ hL D.length 0 D.length (by omega) (by omega) (by omega) fun t _ h2 h3 h4 => ?_
  have none : (t < D.length → (pAt D t).1 ≠ k) → fib pk k D = [] := by
    intro hne
    refine fib_none fun p hp hpk => ?_
    have hpk : p.1 = k := hpk
    obtain ⟨i, hi, rfl⟩ := mem_at hp
    by_cases hit : i < t
    · have a1 := h3 (by omega)
      have a2 := sorted_at hD i (t - 1) (by omega) (by omega)
      have := le_lt a2 a1
      rw [hpk] at this
      exact absurd (this.symm.trans (bl_irr k)) (by decide)
    · have htl : t < D.length := by omega
      have a1 := h4 htl
      have a2 := sorted_at hD t i (by omega) hi
      rw [hpk] at a2
      exact hne htl (ordK.tot _ _ a1 a2)
  refine K_slices_BinarySearchFunc_Pair_string_1_x0 _ _ _ _ _ (C_slices_BinarySearchFunc_Pair_string_9_of _ _ _ _ _ ?_)
  simp only [Int.toNat_natCast]
  have e : ∀ (_ : t < D.length), (prs D).getD t [] = pRow (pAt D t) := fun h => by simp [List.getD_eq_getElem?_getD, h]
  refine ⟨fun h => ?_, ⟨fun h => ?_, fun h => ?_⟩⟩
  · have h : t < D.length := by have := of_decide_eq_true h; omega
    rw [e h]
    exact ⟨⟨by omega, by rw [hl]; omega⟩, row_ok _ _ _⟩
  · have h : t < D.length := by
      have : decide ((t : Int) < (D.length : Int)) = true := by simpa using h
      have := of_decide_eq_true this; omega
    rw [e h, row_form]
    refine Call.use (S_cmpPK _ _) ⟨⟨rfl, rfl⟩, ?_⟩
    show Let (decide (cmpK (pAt D t).1 k = 0)) _
    rw [cmp_eq]
    exact letU (K_slices_BinarySearchFunc_Pair_string_0_x0 (Found D k) _ _ ⟨t, _, rfl, rfl, h2, fun hb => ⟨h, of_decide_eq_true hb⟩, fun hb => none fun _ => of_decide_eq_false hb⟩)
  · have h : ¬ t < D.length := by
      have : decide ((t : Int) < (D.length : Int)) = false := by simpa using h
      have := of_decide_eq_false this; omega
    refine ⟨by decide, ?_⟩
    exact letU (K_slices_BinarySearchFunc_Pair_string_0_x0 (Found D k) _ _ ⟨t, false, rfl, rfl, h2, fun hb => absurd hb (by decide), fun _ => none fun c => absurd c h⟩)
theorem S_place (D : List Pr) (k : Ky) (hD : SortedP D) (hL : Sm D) : Call E0.P fn_value_place [.imm (.sl .any 7 (prs D)), .imm (.str k)] [] (Found D k) := by
  refine F_value_place_of _ _ _ ?_
  refine (S_bs D k hD hL).mono ?_
  rintro r h ⟨t, b, rfl, rfl, h2⟩
  exact ⟨⟨rfl, rfl⟩, ⟨t, b, rfl, rfl, h2⟩⟩

theorem plD_sorted (d : List Pr) : SortedP (plD d) := (uniq_sorted (plP d)).sublist (List.filter_sublist)
theorem mkP_d (k n g : Int) (s : List UInt8) (l : List V) (d : List Pr) : (mkP k n g s l d).d = [] ∨ (mkP k n g s l d).d = (uniq d).filter nul := by
  unfold mkP
  split
  · exact .inl rfl
  split
  · exact .inl rfl
  split
  · exact .inl rfl
  split
  · exact .inr rfl
  split
  · exact .inl rfl
  split
  · exact .inr rfl
  · exact .inl rfl
theorem plain_d (v : V) : v.plain.d = [] ∨ v.plain.d = plD v.d := by
  rw [plain_eq]; exact mkP_d _ _ _ _ _ _
theorem plain_sorted (v : V) : SortedP v.plain.d := by
  rcases plain_d v with h | h <;> rw [h]
  · exact List.Pairwise.nil
  · exact plD_sorted _
theorem fib_filter (k : Ky) (q : Pr → Bool) (l : List Pr) : fib pk k (l.filter q) = (fib pk k l).filter q := by
  simp only [fib, List.filter_filter]
  congr 1
  funext x
  rw [Bool.and_comm]
theorem plD_fib (d : List Pr) (k : Ky) : fib pk k (plD d) = ((fib pk k (plP d)).take 1).filter nul := by
  rw [plD, fib_filter, uniq_fib]
theorem plain_one (v : V) (k : Ky) : (fib pk k v.plain.d).length ≤ 1 := by
  rcases plain_d v with h | h <;> rw [h]
  · simp [fib]
  · rw [plD_fib]
    exact Nat.le_trans (List.length_filter_le _ _) (by simp; omega)
theorem uniq_len (l : List Pr) : (uniq l).length ≤ l.length := by
  have := (compact_sub (sortP l)).length_le
  rw [show (sortP l).length = l.length from srt_length ordK l] at this
  exact this
theorem plain_dlen (v : V) : v.plain.d.length ≤ v.d.length := by
  rcases plain_d v with h | h <;> rw [h]
  · simp
  · refine Nat.le_trans (List.length_filter_le _ _) (Nat.le_trans (uniq_len _) (by simp [plP]))
def getV (v : V) (k : Ky) : Option V := (fib pk k v.plain.d).head?.map fun p => p.2
def getA (v : V) (k : Ky) : AV := .tup [.imm (.agg ((getV v k).getD zero).row), .imm (.bool (getV v k).isSome)]
theorem zero_row : zero.row = [.int .i64 0, .int .i64 0, .int .i64 0, .str [], .sl .any 6 [], .sl .any 7 []] := by
  rw [row_eq]; rfl
theorem fib_at (D : List Pr) (t : Nat) (k : Ky) (h : t < D.length) (hk : (pAt D t).1 = k) (h1 : (fib pk k D).length ≤ 1) : fib pk k D = [pAt D t] := by
  have hm : pAt D t ∈ fib pk k D := by
    have : pAt D t ∈ D := by
      have e : pAt D t = D[t] := by simp [pAt, List.getD_eq_getElem?_getD, h]
      rw [e]; exact List.getElem_mem h
    exact List.mem_filter.2 ⟨this, by simpa using hk⟩
  cases hf : fib pk k D with
  | nil => rw [hf] at hm; simp at hm
  | cons a r =>
    rw [hf] at hm h1
    cases r with
    | nil => rw [List.mem_singleton] at hm; rw [hm]
    | cons b r => simp at h1
theorem S_Get (v : V) (hf : Fit v) (k : Ky) : Call E0.P fn_value_Get [.imm (.agg v.row), .imm (.str k)] [] (Is (getA v k) []) := by
  have hP := S_Plain v hf
  have hn : v.d.length ≤ 1000000000000 := by cases hf; assumption
  have hdl := plain_dlen v
  have hP : Call E0.P fn_value_Plain [.imm (.agg v.row)] [] _ := hP
  rw [row_eq] at hP ⊢
  refine F_value_Get_of _ _ _ _ _ _ _ _ ?_
  refine Call.use hP ⟨⟨rfl, ?_⟩, ?_⟩
  · rw [vres, vrow_form]
  rw [vres]
  have e5 : gR v.plain.row 5 = prs v.plain.d := by rw [row_eq]; rfl
  rw [e5]
  refine (S_place v.plain.d k (plain_sorted v) (by show _ ≤ _; omega)).mono ?_
  rintro r h ⟨t, b, rfl, rfl, ht, h1, h0⟩
  refine ⟨⟨rfl, rfl⟩, ?_⟩
  show Br (!b) _ (Req (((0 : Int) ≤ (t : Int) ∧ (t : Int) < _) ∧ _) _)
  refine ⟨fun hb => ?_, fun hb => ?_⟩
  · have hb : b = false := by simpa using hb
    have h0 := h0 hb
    refine ⟨?_, rfl⟩
    simp only [getA, getV, h0, List.head?_nil, Option.map_none, Option.getD_none, zero_row]
    rfl
  · have hb : b = true := by simpa using hb
    obtain ⟨htl, hk⟩ := h1 hb
    have e : (prs v.plain.d).getD t [] = pRow (pAt v.plain.d t) := by simp [List.getD_eq_getElem?_getD, htl]
    show Req (((0 : Int) ≤ (t : Int) ∧ (t : Int) < _) ∧ shOK _ ((prs v.plain.d).getD (Int.toNat (t : Int)) []) = true) _
    have hfb := fib_at _ t k htl hk (plain_one v k)
    refine ⟨⟨⟨by omega, by rw [prs_len]; omega⟩, by rw [Int.toNat_natCast, e]; exact row_ok _ _ _⟩, ?_⟩
    refine ⟨?_, rfl⟩
    have e2 : (prs v.plain.d).getD (rI (rT (AV.tup [AV.imm (.int .i64 (t : Int)), AV.imm (.bool b)]) 0)).toNat [] = pRow (pAt v.plain.d t) := e
    rw [e2, prow_tail]
    simp only [getA, getV, hfb, List.head?_cons, Option.map_some, Option.getD_some]
    rfl
end Go.Proofs.Sim.Se

set_option linter.unusedVariables false
set_option linter.unusedSimpArgs false
namespace Go.Proofs.Sim.Se
open Go Go.Proofs Go.Proofs.Sim Go.Proofs.Sim.Va Go.Proofs.Sim.St

theorem prow_at (ps : List Pr) (n : Nat) (h : n < ps.length) : (prs ps).getD n [] = pRow (pAt ps n) := by simp [List.getD_eq_getElem?_getD, h]
end Go.Proofs.Sim.Se

set_option linter.unusedVariables false
set_option linter.unusedSimpArgs false
namespace Go.Proofs.Sim.Se
open Go Go.Proofs Go.Proofs.Sim Go.Proofs.Sim.Va Go.Proofs.Sim.St

end Go.Proofs.Sim.Se

set_option linter.unusedVariables false
set_option linter.unusedSimpArgs false
namespace Go.Proofs.Sim.Se
open Go Go.Proofs Go.Proofs.Sim Go.Proofs.Sim.Va Go.Proofs.Sim.St

theorem V.ext {a b : V} (h1 : a.k = b.k) (h2 : a.n = b.n) (h3 : a.g = b.g) (h4 : a.s = b.s) (h5 : a.l = b.l) (h6 : a.d = b.d) : a = b := by
  cases a; cases b
  simp only [V.k, V.n, V.g, V.s, V.l, V.d] at h1 h2 h3 h4 h5 h6
  subst h1 h2 h3 h4 h5 h6; rfl
def EqR (a b : V) (r : AV) (h : Heap) : Prop := ∃ c : Bool, r = .imm (.bool c) ∧ h = [] ∧ (c = true ↔ a = b)
abbrev EqAt (a b : V) : Prop := Call E0.P fn_r16_Equal [.imm (.agg a.row), .imm (.agg b.row)] [] (EqR a b)
theorem drop_cons {α : Type} (l : List α) (i : Nat) (h : i < l.length) : l.drop i = l[i] :: l.drop (i + 1) := by
  rw [List.drop_eq_getElem_cons h]
theorem L_eqD (a b : V) (hl : a.d.length ≤ 1000000000000) (hab : a.d.length = b.d.length) (ih : ∀ p ∈ a.d, ∀ q ∈ b.d, EqAt p.2 q.2) (x0 x1 x2 y0 y1 y2 : Int) (xs ys : List UInt8) (x4 y4 : List (List IV)) (K : Ex → St → Prop)
    (hF : a.d ≠ b.d → K .ret ⟨[(4, .imm (.bool false))], []⟩) (hT : a.d = b.d → K (.exit 2) ⟨[], []⟩) : ∀ (n i : Nat), n + i = a.d.length → a.d.take i = b.d.take i →
    L_r16_Equal_14 i x0 x1 x2 xs x4 (prs a.d) y0 y1 y2 ys y4 (prs b.d) K
  | 0, i, hn, ht => by
    refine L_r16_Equal_14_of _ _ _ _ _ _ _ _ _ _ _ _ _ _ ⟨fun h => ?_, fun _ => hT ?_⟩
    · have := of_decide_eq_true h
      rw [prs_len] at this; omega
    · rw [List.take_of_length_le (by omega), List.take_of_length_le (by omega)] at ht
      exact ht
  | n + 1, i, hn, ht => by
    have hia : i < a.d.length := by omega
    have hib : i < b.d.length := by omega
    have w : IntKind.i64.wrap ((i : Int) + 1) = ((i + 1 : Nat) : Int) := by rw [wrap_id _ (by omega) (by omega)]; simp
    refine L_r16_Equal_14_of _ _ _ _ _ _ _ _ _ _ _ _ _ _ ⟨fun _ => ?_, fun h => ?_⟩
    · rw [show (prs a.d).getD (Int.toNat (i : Int)) [] = pRow (pAt a.d i) from prow_at _ _ hia, show (prs b.d).getD (Int.toNat (i : Int)) [] = pRow (pAt b.d i) from prow_at _ _ hib, prow_tail, prow_tail, prs_len, prs_len]
      have g0 : ∀ x : Pr, gS (pRow x) 0 = x.1 := fun x => by rw [pRow_eq]; rfl
      rw [g0, g0]
      have ea : pAt a.d i = a.d[i] := by simp [pAt, List.getD_eq_getElem?_getD, hia]
      have eb : pAt b.d i = b.d[i] := by simp [pAt, List.getD_eq_getElem?_getD, hib]
      have ma : pAt a.d i ∈ a.d := by rw [ea]; exact List.getElem_mem hia
      have mb : pAt b.d i ∈ b.d := by rw [eb]; exact List.getElem_mem hib
      have r1 : ((0 : Int) ≤ (i : Int) ∧ (i : Int) < (a.d.length : Int)) ∧ shOK [.str, .int .i64, .int .i64, .int .i64, .str, .sl 6 ty_api_Value, .sl 7 ty_api_Pair] (pRow (pAt a.d i)) = true := ⟨⟨by omega, by omega⟩, row_ok _ _ _⟩
      have r2 : ((0 : Int) ≤ (i : Int) ∧ (i : Int) < (b.d.length : Int)) ∧ shOK [.str, .int .i64, .int .i64, .int .i64, .str, .sl 6 ty_api_Value, .sl 7 ty_api_Pair] (pRow (pAt b.d i)) = true := ⟨⟨by omega, by omega⟩, row_ok _ _ _⟩
      have ne : pAt a.d i ≠ pAt b.d i → a.d ≠ b.d := fun h e => h (by rw [e])
      have go : pAt a.d i = pAt b.d i → C_r16_Equal_20 i x0 x1 x2 xs x4 (prs a.d) y0 y1 y2 ys y4 (prs b.d) (K_r16_Equal_4 K) := by
        intro e
        refine C_r16_Equal_20_of _ _ _ _ _ _ _ _ _ _ _ _ _ _ ?_
        rw [w]
        refine K_r16_Equal_4_x0 _ _ _ _ _ _ _ _ _ _ _ _ _ _ (L_eqD a b hl hab ih _ _ _ _ _ _ _ _ _ _ K hF hT n (i + 1) (by omega) ?_)
        rw [List.take_add_one, List.take_add_one, ht]
        congr 1
        rw [ea, eb] at e
        simp [hia, hib, e]
      refine ⟨r1, ⟨r2, ⟨fun _ => r1, ⟨fun _ => r2, ⟨fun hk => ?_, fun hk => ?_⟩⟩⟩⟩⟩
      · refine (ih _ ma _ mb).mono ?_
        rintro r h ⟨c, rfl, rfl, hc⟩
        refine ⟨⟨rfl, rfl⟩, Let.intro ⟨fun hcf => ?_, fun hct => ?_⟩⟩
        · have hcf : (!c) = true := hcf
          refine hF (ne fun e => ?_)
          have : c = true := hc.2 (by rw [e])
          rw [this] at hcf; cases hcf
        · have hct : (!c) = false := hct
          refine go (Prod.ext ?_ ?_)
          · simpa using hk
          · exact hc.1 (by simpa using hct)
      · refine ⟨rfl, Let.intro ⟨fun _ => hF (ne fun e => ?_), fun h => absurd h (by decide)⟩⟩
        rw [e] at hk; simp at hk
    · have := of_decide_eq_false h
      rw [prs_len] at this; omega
theorem L_eqL (a b : V) (hl : a.l.length ≤ 1000000000000) (hab : a.l.length = b.l.length) (ih : ∀ p ∈ a.l, ∀ q ∈ b.l, EqAt p q) (x0 x1 x2 y0 y1 y2 : Int) (xs ys : List UInt8) (x5 y5 : List (List IV)) (K : Ex → St → Prop)
    (hF : a.l ≠ b.l → K .ret ⟨[(4, .imm (.bool false))], []⟩) (hT : a.l = b.l → K (.exit 0) ⟨[(2, (.ptr (Nm.loc (2 : Nat)) 0)), (3, (.ptr (Nm.loc (3 : Nat)) 0))], [((Nm.loc (2 : Nat)), (.blk ty_api_Value [(.imm (.int .i64 x0)), (.imm (.int .i64 x1)), (.imm (.int .i64 x2)), (.imm (.str xs)), (.imm (.sl .any 6 (vrs a.l))), (.imm (.sl .any 7 x5))])), ((Nm.loc (3 : Nat)), (.blk ty_api_Value [(.imm (.int .i64 y0)), (.imm (.int .i64 y1)), (.imm (.int .i64 y2)), (.imm (.str ys)), (.imm (.sl .any 6 (vrs b.l))), (.imm (.sl .any 7 y5))]))]⟩) : ∀ (n i : Nat), n + i = a.l.length → a.l.take i = b.l.take i →
    L_r16_Equal_5 i x0 x1 x2 xs (vrs a.l) x5 y0 y1 y2 ys (vrs b.l) y5 K
  | 0, i, hn, ht => by
    refine L_r16_Equal_5_of _ _ _ _ _ _ _ _ _ _ _ _ _ _ ⟨fun h => ?_, fun _ => hT ?_⟩
    · have := of_decide_eq_true h
      rw [vrs_len] at this; omega
    · rw [List.take_of_length_le (by omega), List.take_of_length_le (by omega)] at ht
      exact ht
  | n + 1, i, hn, ht => by
    have hia : i < a.l.length := by omega
    have hib : i < b.l.length := by omega
    have w : IntKind.i64.wrap ((i : Int) + 1) = ((i + 1 : Nat) : Int) := by rw [wrap_id _ (by omega) (by omega)]; simp
    refine L_r16_Equal_5_of _ _ _ _ _ _ _ _ _ _ _ _ _ _ ⟨fun _ => ?_, fun h => ?_⟩
    · rw [show (vrs a.l).getD (Int.toNat (i : Int)) [] = (vAt a.l i).row from vrow_at _ _ hia, show (vrs b.l).getD (Int.toNat (i : Int)) [] = (vAt b.l i).row from vrow_at _ _ hib, vrow_form, vrow_form, vrs_len, vrs_len]
      have ea : vAt a.l i = a.l[i] := by simp [vAt, List.getD_eq_getElem?_getD, hia]
      have eb : vAt b.l i = b.l[i] := by simp [vAt, List.getD_eq_getElem?_getD, hib]
      have ma : vAt a.l i ∈ a.l := by rw [ea]; exact List.getElem_mem hia
      have mb : vAt b.l i ∈ b.l := by rw [eb]; exact List.getElem_mem hib
      have ne : vAt a.l i ≠ vAt b.l i → a.l ≠ b.l := fun h e => h (by rw [e])
      refine ⟨⟨⟨by omega, by omega⟩, vrow_ok _ _ _⟩, ⟨⟨⟨by omega, by omega⟩, vrow_ok _ _ _⟩, ?_⟩⟩
      refine (ih _ ma _ mb).mono ?_
      rintro r h ⟨c, rfl, rfl, hc⟩
      refine ⟨⟨rfl, rfl⟩, ⟨fun hcf => ?_, fun hct => ?_⟩⟩
      · have hcf : (!c) = true := hcf
        refine hF (ne fun e => ?_)
        have : c = true := hc.2 e
        rw [this] at hcf; cases hcf
      · have hct : (!c) = false := hct
        have e := hc.1 (by simpa using hct)
        rw [w]
        refine L_eqL a b hl hab ih _ _ _ _ _ _ _ _ _ _ K hF hT n (i + 1) (by omega) ?_
        rw [List.take_add_one, List.take_add_one, ht]
        congr 1
        rw [ea, eb] at e
        simp [hia, hib, e]
    · have := of_decide_eq_false h
      rw [vrs_len] at this; omega
theorem S_Equal (a : V) (ha : Fit a) : ∀ b : V, EqAt a b := by
  induction ha with
  | mk a h1 h2 _ _ ih1 ih2 =>
    intro b
    show Call E0.P fn_r16_Equal [.imm (.agg a.row), .imm (.agg b.row)] [] _
    generalize hQ : EqR a b = Q
    have hT : a = b → Q (.imm (.bool true)) [] := fun h => by rw [← hQ]; exact ⟨true, rfl, rfl, by simp [h]⟩
    have hF : a ≠ b → Q (.imm (.bool false)) [] := fun h => by rw [← hQ]; exact ⟨false, rfl, rfl, by simp [h]⟩
    rw [row_eq, row_eq b]
    refine F_r16_Equal_of _ _ _ _ _ _ _ _ _ _ _ _ _ (Let.intro (Let.intro (Let.intro (Let.intro (Let.intro ⟨fun h => ?_, fun h => ?_⟩)))))
    · refine hF fun e => ?_
      subst e
      simp at h
    · simp only [Bool.cond_true_left, Bool.or_eq_false_iff, Bool.not_eq_false', decide_eq_true_eq, List.length_map] at h
      obtain ⟨⟨⟨⟨⟨e1, e2⟩, e3⟩, e4⟩, e5⟩, e6⟩ := h
      have e4 : a.s = b.s := by simpa using e4
      have e5 : a.l.length = b.l.length := by omega
      have e6 : a.d.length = b.d.length := by omega
      refine L_eqL a b h1 e5 (fun p hp q _ => ih1 p hp q) _ _ _ _ _ _ _ _ _ _ _ (fun h => ?_) (fun hl => ?_) a.l.length 0 (by omega) rfl
      · exact K_r16_Equal_1_x0 _ _ (hF fun e => h (by rw [e]))
      · refine K_r16_Equal_1_x1 _ _ _ _ _ _ _ _ _ _ _ _ _ (C_r16_Equal_12_of _ _ _ _ _ _ _ _ _ _ _ _ _ ?_)
        refine L_eqD a b h2 e6 (fun p hp q _ => ih2 p hp q.2) _ _ _ _ _ _ _ _ _ _ _ (fun h => ?_) (fun hd => ?_) a.d.length 0 (by omega) rfl
        · exact K_r16_Equal_3_x0 _ _ (K_r16_Equal_0_x0 _ _ (hF fun e => h (by rw [e])))
        · exact K_r16_Equal_3_x1 _ (C_r16_Equal_21_of _ (K_r16_Equal_2_x0 _ _ (K_r16_Equal_0_x0 _ _ (hT (V.ext e1 e2 e3 e4 hl hd)))))
end Go.Proofs.Sim.Se

set_option linter.unusedVariables false
set_option linter.unusedSimpArgs false
namespace Go.Proofs.Sim.Se
open Go Go.Proofs Go.Proofs.Sim Go.Proofs.Sim.Va Go.Proofs.Sim.St

end Go.Proofs.Sim.Se

set_option linter.unusedVariables false
set_option linter.unusedSimpArgs false
namespace Go.Proofs.Sim.Se
open Go Go.Proofs Go.Proofs.Sim Go.Proofs.Sim.Va Go.Proofs.Sim.St

end Go.Proofs.Sim.Se

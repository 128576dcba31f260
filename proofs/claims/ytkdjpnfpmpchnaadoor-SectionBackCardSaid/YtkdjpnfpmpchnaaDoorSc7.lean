import Derived.Test.YtkdjpnfpmpchnaaDoorSc6
namespace Go.Proofs.Sim.Se
open Go Go.Proofs Go.Proofs.Sim Go.RowKit
set_option maxRecDepth 100000
set_option linter.unusedVariables false
set_option linter.unusedSimpArgs false
theorem S_r01_Stands (s : List UInt8) (hs : s.length ≤ 1000000) (p : Nat) (hp : p ≤ s.length) (q : List UInt8) (hq : q.length ≤ 1000) : Call E0.P fn_r01_Stands [.imm (.str s), .imm (.int .i64 p), .imm (.str q)] [] (Is (.imm (.bool (decide ((s.drop p).take q.length = q)))) []) := by
  have e1 : IntKind.i64.wrap ((s.length : Int) - (p : Int)) = ((s.length - p : Nat) : Int) := by rw [wrap_id _ (by omega) (by omega)]; omega
  have e2 : IntKind.i64.wrap ((p : Int) + (q.length : Int)) = ((p + q.length : Nat) : Int) := by rw [wrap_id _ (by omega) (by omega)]; omega
  refine F_r01_Stands_of _ _ _ _ ?_
  rw [e1, e2, Int.toNat_natCast, Int.toNat_natCast]
  have d0 : decide ((0 : Int) ≤ (p : Int)) = true := decide_eq_true (by omega)
  have d1 : decide ((p : Int) ≤ (s.length : Int)) = true := decide_eq_true (by omega)
  have e3 : List.drop p (List.take (p + q.length) s) = (s.drop p).take q.length := by rw [List.drop_take]; congr 1; omega
  rw [d0, d1, e3]
  refine Let.intro (Let.intro ⟨fun h => ?_, Let.intro (Let.intro ⟨?_, rfl⟩)⟩)
  · have h := of_decide_eq_true (show decide ((q.length : Int) ≤ ((s.length - p : Nat) : Int)) = true from h)
    omega
  · congr 2
    show (bif decide ((q.length : Int) ≤ ((s.length - p : Nat) : Int)) then List.take q.length (List.drop p s) == q else false) = _
    rw [Bool.eq_iff_iff, decide_eq_true_eq]
    constructor
    · intro h
      cases hd : decide ((q.length : Int) ≤ ((s.length - p : Nat) : Int)) <;> rw [hd] at h
      · cases h
      · simpa using h
    · intro h
      have := congrArg List.length h
      rw [List.length_take, List.length_drop] at this
      rw [decide_eq_true (by omega)]
      simpa using h
theorem L_r22_in (s : List UInt8) (hs : s.length ≤ 1000000) (n : Int) (hn0 : 0 ≤ n) (hn : n ≤ 8388607) (many : Nat) (hmany : many ≤ 1000000) (K : Ex → St → Prop) (f : Nat) : ∀ (i p : Nat) (acc : List R4), many + 1 ≤ i + f → i ≤ many → acc.length ≤ p → p + 20 * (many - i) ≤ s.length →
    (entsS 67108865 s p (n + i) (many - i) = none → K .ret ⟨[(4, (.own (Nm.loc (4 : Nat)))), (5, (.imm (.int .i64 0))), (6, (.imm (.int .i64 4)))], [((Nm.loc (4 : Nat)), (.arr 55 true 4 []))]⟩) →
    (∀ l, entsS 67108865 s p (n + i) (many - i) = some l → K (.exit 2) ⟨[(0, (.imm (.str s))), (1, (.imm (.int .i64 ((p + 20 * (many - i) : Nat) : Int)))), (7, (.own (Nm.loc (47 : Nat)))), (8, (.imm (.bool false)))], [((Nm.loc (47 : Nat)), (.arr 0 true 4 (rowsIV (acc ++ l))))]⟩) →
    L_r22_Read_31 s p false n many i (rowsIV acc) K := by
  induction f with
  | zero => intro i p acc h1 h2; omega
  | succ f ih =>
    intro i p acc h1 h2 hacc hp hN hS
    refine L_r22_Read_31_of _ _ _ _ _ _ _ _ ⟨fun h => ?_, fun h => ?_⟩
    · have hi : i < many := by have := of_decide_eq_true h; omega
      have e0 : entsS 67108865 s p (n + i) (many - i) = match entS 67108865 (piece s p) with
        | none => none
        | some e => (entsS 67108865 s (p + 20) (n + i + 1) (many - (i + 1))).map (⟨n + i, e.1, e.2.1, e.2.2⟩ :: ·) := by
        rw [show many - i = (many - (i + 1)) + 1 by omega, entsS]
        cases entS 67108865 (piece s p) <;> rfl
      have ew0 : IntKind.i64.wrap ((p : Int) + 20) = ((p + 20 : Nat) : Int) := by rw [wrap_id _ (by omega) (by omega)]; omega
      rw [ew0, Int.toNat_natCast, Int.toNat_natCast]
      refine ⟨by omega, Let.intro ?_⟩
      rw [show List.drop p (List.take (p + 20) s) = piece s p from rfl]
      refine Call.use (S_r22_entry (piece s p) (by unfold piece; simp; omega)) ?_
      cases hE : entS 67108865 (piece s p) with
      | none =>
        rw [hE] at e0
        refine ⟨⟨rfl, rfl⟩, ⟨fun _ => hN e0, fun h => absurd h (by decide)⟩⟩
      | some e =>
        rw [hE] at e0
        refine ⟨⟨rfl, rfl⟩, ⟨fun h => absurd h (by show ¬ (!decide ((0 : Int) = 0)) = true; decide), fun _ => ?_⟩⟩
        rw [rowsIV_len]
        refine ⟨⟨by omega, by omega⟩, ?_⟩
        have ew : IntKind.i64.wrap (n + (i : Int)) = n + i := wrap_id _ (by omega) (by omega)
        have ew2 : IntKind.i64.wrap ((i : Int) + 1) = ((i + 1 : Nat) : Int) := by rw [wrap_id _ (by omega) (by omega)]; omega
        rw [ew, ew2]
        have key := ih (i + 1) (p + 20) (acc ++ [⟨n + i, e.1, e.2.1, e.2.2⟩]) (by omega) (by omega) (by simp; omega) (by omega) ?_ ?_
        · rw [rowsIV_app] at key
          exact key
        · intro hx
          rw [show n + ((i + 1 : Nat) : Int) = n + i + 1 by omega] at hx
          simp only [hx, Option.map_none] at e0
          exact hN e0
        · intro l hx
          rw [show n + ((i + 1 : Nat) : Int) = n + i + 1 by omega] at hx
          simp only [hx, Option.map_some] at e0
          have := hS _ e0
          rw [show p + 20 + 20 * (many - (i + 1)) = p + 20 * (many - i) by omega]
          rw [List.append_assoc]
          exact this
    · have hi : i = many := by have := of_decide_eq_false h; omega
      subst hi
      have := hS [] (by rw [Nat.sub_self]; rfl)
      rw [Nat.sub_self, List.append_nil] at this
      exact this
theorem S_r22_go (s : List UInt8) (hs : s.length ≤ 1000000) (Q : AV → Heap → Prop) (f : Nat) : ∀ (p : Nat) (acc : List R4) (b : Bool), s.length + 1 ≤ p + f → p ≤ s.length → acc.length ≤ p → (b = true ∨ 0 < cntD (s.drop p)) →
    Q (isRPE ((readGo 67108865 s f p acc).1, ((readGo 67108865 s f p acc).2.1 : Int), (readGo 67108865 s f p acc).2.2)) [] → L_r22_Read_13 s p b (rowsIV acc) (K_r22_Read_1 Q) := by
  induction f with
  | zero => intro p acc b h1 h2; omega
  | succ f ih =>
    intro p acc b h1 h2 h3 hb hQ
    have ok := partS_ok 67108865 s p h2
    have e0 : partS 67108865 s p = if (numS s p 32).2.2 ≠ 0 then ((numS s p 32).2.2, [], p)
      else if (numS s (numS s p 32).2.1 10).2.2 ≠ 0 then ((numS s (numS s p 32).2.1 10).2.2, [], p)
      else if (((s.length - (numS s (numS s p 32).2.1 10).2.1) / 20 : Nat) : Int) < (numS s (numS s p 32).2.1 10).1 then (5, [], p)
      else entsR 67108865 s (numS s (numS s p 32).2.1 10).2.1 (numS s p 32).1 (numS s (numS s p 32).2.1 10).1.toNat := rfl
    rw [readGo] at hQ
    have main : C_r22_Read_16 s p (rowsIV acc) (K_r22_Read_2 (K_r22_Read_1 Q)) := by
      refine C_r22_Read_16_of _ _ _ _ (Call.use (S_r22_number s hs p h2 32) ?_)
      have n1 := numS_ok s p 32 h2
      generalize numS s p 32 = N1 at *
      have err : ∀ e l q, partS 67108865 s p = (e, l, q) → e ≠ 0 → K_r22_Read_2 (K_r22_Read_1 Q) .ret ⟨[(4, (.own (Nm.loc (4 : Nat)))), (5, (.imm (.int .i64 0))), (6, (.imm (.int .i64 e)))], [((Nm.loc (4 : Nat)), (.arr 55 true 4 []))]⟩ := by
        intro e l q h hne
        rw [h, if_pos hne] at hQ
        exact K_r22_Read_2_x0 _ _ _ _ (K_r22_Read_1_x1 _ _ _ _ hQ)
      by_cases hz : N1.2.2 = 0
      · rw [if_pos hz]
        refine ⟨⟨rfl, rfl⟩, ⟨fun h => absurd h (by show ¬ (!decide ((0 : Int) = 0)) = true; decide), fun _ => ?_⟩⟩
        obtain ⟨a1, a2, a3, a4⟩ := n1 hz
        rw [if_neg (by simpa using hz)] at e0
        refine Call.use (S_r22_number s hs N1.2.1 (by omega) 10) ?_
        have n2 := numS_ok s N1.2.1 10 (by omega)
        generalize numS s N1.2.1 10 = N2 at *
        by_cases hz2 : N2.2.2 = 0
        · rw [if_pos hz2]
          refine ⟨⟨rfl, rfl⟩, ⟨fun h => absurd h (by show ¬ (!decide ((0 : Int) = 0)) = true; decide), fun _ => ?_⟩⟩
          obtain ⟨b1, b2, b3, b4⟩ := n2 hz2
          rw [if_neg (by simpa using hz2)] at e0
          have g0 : ∀ a b c : Int, rI (rT (AV.tup [.imm (.int .i64 a), .imm (.int .i64 b), .imm (.int .i64 c)]) 0) = a := fun _ _ _ => rfl
          have g1 : ∀ a b c : Int, rI (rT (AV.tup [.imm (.int .i64 a), .imm (.int .i64 b), .imm (.int .i64 c)]) 1) = b := fun _ _ _ => rfl
          rw [g0, g0, g1]
          have w1 : IntKind.i64.wrap ((s.length : Int) - (N2.2.1 : Int)) = ((s.length - N2.2.1 : Nat) : Int) := by rw [wrap_id _ (by omega) (by omega)]; omega
          have w2 : IntKind.i64.wrap (20 * N2.1) = 20 * N2.1 := wrap_id _ (by omega) (by omega)
          rw [w1, w2]
          refine ⟨fun h => ?_, fun h => ?_⟩
          · have h := of_decide_eq_true h
            rw [if_pos (by omega)] at e0
            exact err _ _ _ e0 (by decide)
          · have h := of_decide_eq_false h
            rw [if_neg (by omega)] at e0
            obtain ⟨many, hm⟩ : ∃ many : Nat, N2.1 = many := ⟨N2.1.toNat, by omega⟩
            rw [hm] at e0 h ⊢
            rw [Int.toNat_natCast] at e0
            have key := L_r22_in s hs N1.1 a3 a4 many (by omega) (K_r22_Read_3 (K_r22_Read_2 (K_r22_Read_1 Q))) (many + 1) 0 N2.2.1 acc (by omega) (by omega) (by omega) (by omega)
            rw [show N1.1 + ((0 : Nat) : Int) = N1.1 by omega, Nat.sub_zero] at key
            refine key ?_ ?_
            · intro hx
              rw [entsR, hx] at e0
              exact K_r22_Read_3_x0 _ _ _ _ (err _ _ _ e0 (by decide))
            · intro l hx
              rw [entsR, hx] at e0
              rw [e0] at hQ ok
              obtain ⟨o1, o2, o3⟩ := ok rfl
              simp only at o1 o2 o3 hQ
              rw [if_neg (by simp)] at hQ
              refine K_r22_Read_3_x1 _ _ _ _ _ (K_r22_Read_2_x1 _ _ _ _ _ ?_)
              by_cases hc : 0 < cntD (s.drop (N2.2.1 + 20 * many))
              · rw [if_pos hc] at hQ
                exact ih _ _ false (by omega) (by omega) (by simp; omega) (.inr hc) hQ
              · rw [if_neg hc] at hQ
                refine L_r22_Read_13_of _ _ _ _ _ ⟨fun _ => by omega, Let.intro ?_⟩
                rw [Int.toNat_natCast]
                refine ⟨fun _ => ?_, fun h => absurd h (by decide)⟩
                refine Call.use (S_r02_Count _ (by simp; omega)) ⟨⟨rfl, rfl⟩, ?_⟩
                rw [rI_int]
                refine Let.intro ⟨fun h' => by have := of_decide_eq_true h'; omega, fun _ => ?_⟩
                refine K_r22_Read_1_x0 _ _ _ (C_r22_Read_41_of _ _ _ (Call.use (S_r22_Check .any _ (by simp; omega)) ⟨⟨rfl, rfl⟩, ?_⟩))
                rw [rI_int]
                refine ⟨fun hk => ?_, fun hk => ?_⟩
                · rw [if_pos (ndT hk)] at hQ
                  exact K_r22_Read_0_x0 _ _ _ _ hQ
                · rw [if_neg (by simpa using ndF hk)] at hQ
                  exact K_r22_Read_0_x1 _ _ _ _ hQ
        · rw [if_neg hz2]
          rw [if_pos hz2] at e0
          exact ⟨⟨rfl, rfl⟩, ⟨fun _ => err _ _ _ e0 hz2, fun h => absurd (ndF h) hz2⟩⟩
      · rw [if_neg hz]
        rw [if_pos hz] at e0
        exact ⟨⟨rfl, rfl⟩, ⟨fun _ => err _ _ _ e0 hz, fun h => absurd (ndF h) hz⟩⟩
    refine L_r22_Read_13_of _ _ _ _ _ ⟨fun _ => by omega, Let.intro ?_⟩
    rw [Int.toNat_natCast]
    refine ⟨fun h => ?_, fun h => ⟨rfl, Let.intro ⟨fun _ => main, fun h => absurd h (by decide)⟩⟩⟩
    have h : b = false := eq_of_beq h
    refine Call.use (S_r02_Count _ (by simp; omega)) ⟨⟨rfl, rfl⟩, ?_⟩
    rw [rI_int]
    refine Let.intro ⟨fun _ => main, fun h' => ?_⟩
    have := of_decide_eq_false h'
    rcases hb with hb | hb
    · rw [h] at hb; cases hb
    · omega
theorem S_r22_Read (s : List UInt8) (hs : s.length ≤ 1000000) (p : Int) : Call E0.P fn_r22_Read [.imm (.str s), .imm (.int .i64 p)] [] (Is (isRPE (readX 67108865 s p)) []) := by
  refine F_r22_Read_of _ _ _ (Let.intro ⟨fun h => ?_, fun h => ?_⟩)
  · have h := (orB _ _).1 h
    rw [readX, if_pos h]; exact ⟨rfl, rfl⟩
  · have h := (orF _ _).1 h
    obtain ⟨q, rfl⟩ : ∃ q : Nat, p = q := ⟨p.toNat, by omega⟩
    have e0 : readX 67108865 s (q : Int) = if (s.drop q).take 5 = wordX then ((readGo 67108865 s (s.length + 1) (q + 5) []).1, ((readGo 67108865 s (s.length + 1) (q + 5) []).2.1 : Int), (readGo 67108865 s (s.length + 1) (q + 5) []).2.2)
      else if (s.drop q).length < 5 ∧ s.drop q = wordX.take (s.drop q).length then ([], 0, 5) else ([], 0, 4) := by
      rw [readX, if_neg h, Int.toNat_natCast]
    refine Call.use (S_r01_Stands s hs q (by omega) wordX (by decide)) ⟨⟨rfl, rfl⟩, ?_⟩
    rw [rB_bool]
    have w1 : IntKind.i64.wrap ((s.length : Int) - (q : Int)) = (((s.drop q).length : Nat) : Int) := by rw [List.length_drop, wrap_id _ (by omega) (by omega)]; omega
    rw [w1, Int.toNat_natCast, Int.toNat_natCast]
    refine ⟨fun hn => ?_, fun hn => ?_⟩
    · have hn : ¬ (s.drop q).take 5 = wordX := ndT hn
      rw [if_neg hn] at e0
      refine ⟨fun h' => by have := of_decide_eq_true h'; omega, Let.intro ⟨fun h' => ?_, Let.intro (Let.intro ⟨fun h' => ?_, fun h' => ?_⟩)⟩⟩
      · have := of_decide_eq_true h'; omega
      · by_cases hl : ((s.drop q).length : Int) < 5
        · rw [decide_eq_true hl] at h'
          have h' : s.drop q = wordX.take (s.drop q).length := by simpa [wordX] using h'
          rw [if_pos ⟨by omega, h'⟩] at e0
          rw [e0]; exact ⟨rfl, rfl⟩
        · rw [decide_eq_false hl] at h'; cases h'
      · rw [if_neg] at e0
        · rw [e0]; exact ⟨rfl, rfl⟩
        · rintro ⟨hl, hx⟩
          rw [decide_eq_true (by omega)] at h'
          have : (List.drop q s == List.take (List.drop q s).length wordX) = true := by rw [← hx]; simp
          rw [show ([120, 114, 101, 102, 10] : List UInt8) = wordX from rfl, this] at h'
          cases h'
    · have hn : (s.drop q).take 5 = wordX := ndF hn
      rw [if_pos hn] at e0
      have hq : q + 5 ≤ s.length := by
        have := congrArg List.length hn
        simp [wordX] at this
        omega
      have ew : IntKind.i64.wrap ((q : Int) + 5) = ((q + 5 : Nat) : Int) := by rw [wrap_id _ (by omega) (by omega)]; omega
      rw [ew, e0]
      exact S_r22_go s hs _ (s.length + 1) (q + 5) [] true (by omega) hq (by simp) (.inl rfl) ⟨rfl, rfl⟩
/-! ### SameRows -/
theorem L_SameRows (sk sk' : SK) (l : List R4) (hl : l.length ≤ 1000000) (Q : AV → Heap → Prop) (hQ : Q (.imm (.bool true)) []) (f : Nat) : ∀ (i : Nat), l.length + 1 ≤ i + f → i ≤ l.length → L_r21_SameRows_5 sk (rowsIV l) sk' (rowsIV l) i (K_r21_SameRows_1 Q) := by
  induction f with
  | zero => intro i h1 h2; omega
  | succ f ih =>
    intro i h1 h2
    refine L_r21_SameRows_5_of _ _ _ _ _ _ ?_
    rw [rowsIV_len]
    refine ⟨fun h => ?_, fun h => ?_⟩
    · have hi : i < l.length := by have := of_decide_eq_true h; omega
      simp only [Int.toNat_natCast, rows_at l i hi, row_g0, row_g1, row_g2, row_g3]
      refine ⟨⟨by omega, row_ok _⟩, ⟨⟨by omega, row_ok _⟩, ⟨fun h => absurd h (by simp), fun _ => ?_⟩⟩⟩
      rw [wrap_id _ (by omega) (by omega)]
      exact ih (i + 1) (by omega) (by omega)
    · exact K_r21_SameRows_1_x1 _ (C_r21_SameRows_12_of _ (K_r21_SameRows_0_x0 _ _ hQ))
theorem S_SameRows (sk sk' : SK) (l : List R4) (hl : l.length ≤ 1000000) : Call E0.P fn_r21_SameRows [.imm (.sl sk 4 (rowsIV l)), .imm (.sl sk' 4 (rowsIV l))] [] (Is (.imm (.bool true)) []) := by
  refine F_r21_SameRows_of _ _ _ _ _ ⟨fun h => absurd (ndT h) (by simp), fun _ => ?_⟩
  exact L_SameRows sk sk' l hl _ ⟨rfl, rfl⟩ (l.length + 1) 0 (by omega) (by omega)
end Go.Proofs.Sim.Se

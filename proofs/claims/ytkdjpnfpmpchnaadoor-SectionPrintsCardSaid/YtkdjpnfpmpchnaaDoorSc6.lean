import Derived.Test.YtkdjpnfpmpchnaaDoorSc5
namespace Go.Proofs.Sim.Se
open Go Go.Proofs Go.Proofs.Sim Go.RowKit
set_option maxRecDepth 100000
set_option linter.unusedVariables false
set_option linter.unusedSimpArgs false
theorem bo0 (s : List UInt8) (p : Int) : rS ((blkOf (rdH s p) (Nm.arg 0)).getD 0 AV.undef) = s := rfl
theorem bo1 (s : List UInt8) (p : Int) : rI ((blkOf (rdH s p) (Nm.arg 0)).getD 1 AV.undef) = p := rfl
theorem tP0 (p : Int × Int) : rI (rT (isP p) 0) = p.1 := rfl
theorem tP1 (p : Int × Int) : rI (rT (isP p) 1) = p.2 := rfl
def isRE (l : List R4) (e : Int) : AV := .tup [.imm (.sl .any 4 (rowsIV l)), .imm (.int .i64 e)]
theorem rowsIV_app (a b : List R4) : rowsIV (a ++ b) = rowsIV a ++ rowsIV b := by simp [rowsIV]
theorem L_part (s : List UInt8) (hs : s.length ≤ 1000000) (s0 : List UInt8) (p0 : Int) (n : Int) (hn0 : 0 ≤ n) (hn : n ≤ 8388607) (many : Nat) (hmany : many ≤ 1000000) (Q : AV → Heap → Prop) (f : Nat) : ∀ (i p : Nat) (acc : List R4), many + 1 ≤ i + f → i ≤ many → acc.length = i → p + 20 * (many - i) ≤ s.length →
    (entsS 2147483647 s p (n + i) (many - i) = none → ∀ p' : Nat, Q (isRE [] 4) (rdH s p')) →
    (∀ l, entsS 2147483647 s p (n + i) (many - i) = some l → Q (isRE (acc ++ l) 0) (rdH s ((p + 20 * (many - i) : Nat) : Int))) →
    L_section_reader_part_13 n many i s p (rowsIV acc) (K_section_reader_part_1 s0 p0 Q) := by
  induction f with
  | zero => intro i p acc h1 h2; omega
  | succ f ih =>
    intro i p acc h1 h2 hacc hp hN hS
    refine L_section_reader_part_13_of _ _ _ _ _ _ _ ⟨fun h => ?_, fun h => ?_⟩
    · have hi : i < many := by have := of_decide_eq_true h; omega
      have e0 : entsS 2147483647 s p (n + i) (many - i) = match entS 2147483647 (piece s p) with
        | none => none
        | some e => (entsS 2147483647 s (p + 20) (n + i + 1) (many - (i + 1))).map (⟨n + i, e.1, e.2.1, e.2.2⟩ :: ·) := by
        rw [show many - i = (many - (i + 1)) + 1 by omega, entsS]
        cases entS 2147483647 (piece s p) <;> rfl
      refine Call.use (S_entry s hs p (by omega)) ?_
      cases hE : entS 2147483647 (piece s p) with
      | none =>
        rw [hE] at e0
        refine ⟨⟨rfl, rfl⟩, ⟨fun _ => ?_, fun h => absurd h (by decide)⟩⟩
        exact K_section_reader_part_1_x0 _ _ _ _ _ _ _ (hN e0 p)
      | some e =>
        rw [hE] at e0
        refine ⟨⟨rfl, rfl⟩, ⟨fun h => absurd h (by show ¬ (!decide ((0 : Int) = 0)) = true; decide), fun _ => ?_⟩⟩
        rw [rowsIV_len]
        refine ⟨⟨by omega, by omega⟩, ?_⟩
        have ew : IntKind.i64.wrap (n + (i : Int)) = n + i := wrap_id _ (by omega) (by omega)
        have ew2 : IntKind.i64.wrap ((i : Int) + 1) = ((i + 1 : Nat) : Int) := by rw [wrap_id _ (by omega) (by omega)]; omega
        rw [ew, ew2]
        have key := ih (i + 1) (p + 20) (acc ++ [⟨n + i, e.1, e.2.1, e.2.2⟩]) (by omega) (by omega) (by simp; omega) (by omega) ?_ ?_
        · rw [rowsIV_app] at key
          exact key
        · intro hx p'
          rw [show n + ((i + 1 : Nat) : Int) = n + i + 1 by omega] at hx
          simp only [hx, Option.map_none] at e0
          exact hN e0 p'
        · intro l hx
          rw [show n + ((i + 1 : Nat) : Int) = n + i + 1 by omega] at hx
          simp only [hx, Option.map_some] at e0
          have := hS _ e0
          rw [show p + 20 + 20 * (many - (i + 1)) = p + 20 * (many - i) by omega]
          rw [List.append_assoc]
          exact this
    · have hi : i = many := by have := of_decide_eq_false h; omega
      subst hi
      have := hS [] (by rw [Nat.sub_self]; rfl)
      rw [Nat.sub_self, List.append_nil] at this
      exact K_section_reader_part_1_x1 _ _ _ _ _ _ (C_section_reader_part_23_of _ _ _ _ (K_section_reader_part_0_x0 _ _ _ _ _ _ _ this))
theorem S_part (s : List UInt8) (hs : s.length ≤ 1000000) (p : Nat) (hp : p ≤ s.length) (Q : AV → Heap → Prop)
    (hQ : ∀ p' : Nat, ((partS 2147483647 s p).1 = 0 → p' = (partS 2147483647 s p).2.2) → Q (isRE (partS 2147483647 s p).2.1 (partS 2147483647 s p).1) (rdH s p')) :
    Call E0.P fn_section_reader_part [.ptr (.arg 0) 0] (rdH s p) Q := by
  refine F_section_reader_part_of _ _ _ (Call.use (S_number s hs p hp 32) ⟨⟨rfl, rfl⟩, ?_⟩)
  have hq : ∀ e l p2, partS 2147483647 s p = (e, l, p2) → ∀ p' : Nat, (e = 0 → p' = p2) → Q (isRE l e) (rdH s p') := by
    intro e l p2 h p' h'
    rw [h] at hQ
    exact hQ p' h'
  have e0 : partS 2147483647 s p = if (numS s p 32).2.2 ≠ 0 then ((numS s p 32).2.2, [], p)
    else if (numS s (numS s p 32).2.1 10).2.2 ≠ 0 then ((numS s (numS s p 32).2.1 10).2.2, [], p)
    else if (((s.length - (numS s (numS s p 32).2.1 10).2.1) / 20 : Nat) : Int) < (numS s (numS s p 32).2.1 10).1 then (5, [], p)
    else entsR 2147483647 s (numS s (numS s p 32).2.1 10).2.1 (numS s p 32).1 (numS s (numS s p 32).2.1 10).1.toNat := rfl
  have n1 := numS_ok s p 32 hp
  generalize numS s p 32 = N1 at *
  rw [bo0, bo1, tP0, tP1]
  refine ⟨fun h => ?_, fun h => ?_⟩
  · have h := ndT h
    rw [if_pos h] at e0
    exact hq _ _ _ e0 _ (fun h' => absurd h' h)
  · have h := ndF h
    obtain ⟨a1, a2, a3, a4⟩ := n1 h
    rw [if_neg (by simpa using h)] at e0
    refine Call.use (S_number s hs N1.2.1 (by omega) 10) ⟨⟨rfl, rfl⟩, ?_⟩
    have n2 := numS_ok s N1.2.1 10 (by omega)
    generalize numS s N1.2.1 10 = N2 at *
    rw [bo0, bo1, tP0, tP1]
    refine ⟨fun h => ?_, fun h => ?_⟩
    · have h := ndT h
      rw [if_pos h] at e0
      exact hq _ _ _ e0 _ (fun h' => absurd h' h)
    · have h := ndF h
      obtain ⟨b1, b2, b3, b4⟩ := n2 h
      rw [if_neg (by simpa using h)] at e0
      refine ⟨by omega, Let.intro ⟨by decide, ?_⟩⟩
      rw [Int.toNat_natCast]
      have ed : IntKind.i64.wrap (((s.drop N2.2.1).length : Int).tdiv 20) = (((s.length - N2.2.1) / 20 : Nat) : Int) := by
        rw [List.length_drop, Int.tdiv_eq_ediv_of_nonneg (by omega), wrap_id _ (by omega) (by omega)]; omega
      rw [ed]
      refine ⟨fun h => ?_, fun h => ?_⟩
      · have h := of_decide_eq_true h
        rw [if_pos h] at e0
        exact hq _ _ _ e0 _ (fun h' => by cases h')
      · have h := of_decide_eq_false h
        rw [if_neg h] at e0
        obtain ⟨many, hm⟩ : ∃ many : Nat, N2.1 = many := ⟨N2.1.toNat, by omega⟩
        rw [hm] at e0 h ⊢
        rw [Int.toNat_natCast] at e0
        have key := L_part s hs s (p : Int) N1.1 a3 a4 many (by omega) Q (many + 1) 0 N2.2.1 [] (by omega) (by omega) rfl (by omega)
        rw [show N1.1 + ((0 : Nat) : Int) = N1.1 by omega, Nat.sub_zero] at key
        refine key ?_ ?_
        · intro hx p'
          rw [entsR, hx] at e0
          exact hq _ _ _ e0 _ (fun h' => by cases h')
        · intro l hx
          rw [entsR, hx] at e0
          exact hq _ _ _ e0 _ (fun _ => rfl)
theorem S_strings_HasPrefix (s q : List UInt8) : Call E0.P fn_strings_HasPrefix [.imm (.str s), .imm (.str q)] [] (Is (.imm (.bool (Lib.hasPrefix s q))) []) := by
  refine call_of_contract Tryd.func55 (by kernel_rfl) (by kernel_rfl) [.str s, .str q] _ fun g w vs hv hs => ?_
  obtain ⟨v, u, rfl, hr, hu⟩ := reps2 hv
  obtain rfl := repI_str hr
  obtain rfl := repI_str hu
  refine (Tryd.strings_HasPrefix ⟨s.toArray⟩ ⟨q.toArray⟩ w).mono ?_
  rintro e w' ⟨rfl, rfl⟩
  exact ⟨_, .imm (.bool (Lib.hasPrefix s q)), rfl, Below.refl _ _, .imm _ _ (.bool _), rfl, rfl⟩
theorem pre_iff (t q : List UInt8) : Lib.hasPrefix t q = true ↔ t.take q.length = q := by
  unfold Lib.hasPrefix
  rw [List.isPrefixOf_iff_prefix, List.prefix_iff_eq_take]
  exact eq_comm
def begS (t : List UInt8) : Int := if t.take 5 = wordX then 0 else if t.length < 5 ∧ t = wordX.take t.length then 5 else 4
theorem S_section_begins (t : List UInt8) : Call E0.P fn_section_begins [.imm (.str t)] [] (Is (.imm (.int .i64 (begS t))) []) := by
  refine F_section_begins_of _ _ (Call.use (S_strings_HasPrefix t wordX) ⟨⟨rfl, rfl⟩, ?_⟩)
  rw [rB_bool]
  refine ⟨fun h => ?_, fun h => ?_⟩
  · have h : t.take 5 = wordX := (pre_iff _ _).1 h
    rw [begS, if_pos h]; exact ⟨rfl, rfl⟩
  · have h : ¬ t.take 5 = wordX := fun hh => by rw [(pre_iff t wordX).2 hh] at h; cases h
    refine Call.use (S_strings_HasPrefix wordX t) ⟨⟨rfl, rfl⟩, ?_⟩
    rw [rB_bool]
    refine ⟨fun h2 => ?_, fun h2 => ?_⟩
    · have h2 := (pre_iff _ _).1 h2
      have hl : t.length < 5 := by
        rcases Nat.lt_or_ge t.length 5 with h3 | h3
        · exact h3
        · exfalso
          have : wordX.take t.length = wordX := List.take_of_length_le (by simpa [wordX] using h3)
          rw [this] at h2
          rw [← h2] at h
          exact h rfl
      rw [begS, if_neg h, if_pos ⟨hl, h2.symm⟩]; exact ⟨rfl, rfl⟩
    · rw [begS, if_neg h, if_neg]; exact ⟨rfl, rfl⟩
      rintro ⟨_, h3⟩
      rw [(pre_iff wordX t).2 h3.symm] at h2; cases h2
theorem read_step (s : List UInt8) (hs : s.length ≤ 1000000) (p : Nat) (hp : p ≤ s.length) (acc : List R4) (hacc : acc.length ≤ p) (EX : Int → Prop) (RES : List (List IV) → Int → Prop) (GO : List UInt8 → Int → List (List IV) → Prop)
    (h1 : (partS 2147483647 s p).1 ≠ 0 → EX (partS 2147483647 s p).1)
    (h2 : (partS 2147483647 s p).1 = 0 → 0 < cntD (s.drop (partS 2147483647 s p).2.2) → GO s ((partS 2147483647 s p).2.2 : Int) (rowsIV (acc ++ (partS 2147483647 s p).2.1)))
    (h3 : (partS 2147483647 s p).1 = 0 → ¬ 0 < cntD (s.drop (partS 2147483647 s p).2.2) → chkS (-1) (acc ++ (partS 2147483647 s p).2.1) ≠ 0 → EX (chkS (-1) (acc ++ (partS 2147483647 s p).2.1)))
    (h4 : (partS 2147483647 s p).1 = 0 → ¬ 0 < cntD (s.drop (partS 2147483647 s p).2.2) → chkS (-1) (acc ++ (partS 2147483647 s p).2.1) = 0 → RES (rowsIV (acc ++ (partS 2147483647 s p).2.1)) ((partS 2147483647 s p).2.2 : Int)) :
    Call E0.P fn_section_reader_part [(.ptr (Nm.arg (0 : Nat)) 0)] (rdH s p) fun r0 g0 =>
     Req (g0 = [(Nm.arg (0 : Nat), Entry.blk (72 : Nat) [.imm (.str (rS ((blkOf g0 (Nm.arg (0 : Nat))).getD (0 : Nat) AV.undef))), .imm (.int .i64 (rI ((blkOf g0 (Nm.arg (0 : Nat))).getD (1 : Nat) AV.undef)))])] ∧
       r0 = .tup [.imm (.sl (rK (rT r0 (0 : Nat))) (4 : Nat) (rR (rT r0 (0 : Nat)))), .imm (.int .i64 (rI (rT r0 (1 : Nat))))])
     (Br (!decide (rI (rT r0 (1 : Nat)) = (0 : Int)))
     (EX (rI (rT r0 (1 : Nat))))
     (Req (((rowsIV acc).length + (rR (rT r0 (0 : Nat))).length) * (32 : Nat) ≤ (140737488355328 : Nat) ∧ (rowsIV acc).length + (rR (rT r0 (0 : Nat))).length ≤ (140737488355328 : Nat))
     (Req ((0 : Int) ≤ rI ((blkOf g0 (Nm.arg (0 : Nat))).getD (1 : Nat) AV.undef) ∧ rI ((blkOf g0 (Nm.arg (0 : Nat))).getD (1 : Nat) AV.undef) ≤ (↑(rS ((blkOf g0 (Nm.arg (0 : Nat))).getD (0 : Nat) AV.undef)).length : Int))
     (Let (List.drop (rI ((blkOf g0 (Nm.arg (0 : Nat))).getD (1 : Nat) AV.undef)).toNat (rS ((blkOf g0 (Nm.arg (0 : Nat))).getD (0 : Nat) AV.undef))) fun x1 =>
     Call E0.P fn_digits_Count [(.imm (.str x1))] [] fun r2 g2 =>
     Req (g2 = [] ∧ r2 = .imm (.int .i64 (rI r2)))
     (Br (decide ((0 : Int) < rI r2))
     (GO (rS ((blkOf g0 (Nm.arg (0 : Nat))).getD (0 : Nat) AV.undef)) (rI ((blkOf g0 (Nm.arg (0 : Nat))).getD (1 : Nat) AV.undef)) (rowsIV acc ++ rR (rT r0 (0 : Nat))))
     (Call E0.P fn_section_Check [(.imm (.sl .any 4 (rowsIV acc ++ rR (rT r0 (0 : Nat)))))] [] fun r3 g3 =>
     Req (g3 = [] ∧ r3 = .imm (.int .i64 (rI r3)))
     (Br (!decide (rI r3 = (0 : Int)))
     (EX (rI r3))
     (RES (rowsIV acc ++ rR (rT r0 (0 : Nat))) (rI ((blkOf g0 (Nm.arg (0 : Nat))).getD (1 : Nat) AV.undef))))))))))  := by
  refine S_part s hs p hp _ fun p' hp' => ?_
  have ok := partS_ok 2147483647 s p hp
  generalize partS 2147483647 s p = R at *
  refine ⟨⟨rfl, rfl⟩, ⟨fun h => h1 (ndT h), fun h => ?_⟩⟩
  have h : R.1 = 0 := ndF h
  obtain rfl := hp' h
  obtain ⟨o1, o2, o3⟩ := ok h
  have er : rR (rT (isRE R.2.1 R.1) 0) = rowsIV R.2.1 := rfl
  rw [bo0, bo1, er, rowsIV_len, rowsIV_len, ← rowsIV_app]
  refine ⟨⟨by omega, by omega⟩, ⟨by omega, Let.intro ?_⟩⟩
  rw [Int.toNat_natCast]
  refine Call.use (S_digits_Count _) ⟨⟨rfl, rfl⟩, ?_⟩
  rw [rI_int]
  refine ⟨fun hc => h2 h (by have := of_decide_eq_true hc; omega), fun hc => ?_⟩
  have hc : ¬ 0 < cntD (s.drop R.2.2) := by have := of_decide_eq_false hc; omega
  refine Call.use (S_section_Check .any _ (by simp; omega)) ⟨⟨rfl, rfl⟩, ?_⟩
  rw [rI_int]
  exact ⟨fun hk => h3 h hc (ndT hk), fun hk => h4 h hc (ndF hk)⟩
def isRPE (r : List R4 × Int × Int) : AV := .tup [.imm (.sl .any 4 (rowsIV r.1)), .imm (.int .i64 r.2.1), .imm (.int .i64 r.2.2)]
theorem S_read_go (s : List UInt8) (hs : s.length ≤ 1000000) (Q : AV → Heap → Prop) (f : Nat) : ∀ (p : Nat) (acc : List R4), s.length + 1 ≤ p + f → p ≤ s.length → acc.length ≤ p →
    Q (isRPE ((readGo 2147483647 s f p acc).1, ((readGo 2147483647 s f p acc).2.1 : Int), (readGo 2147483647 s f p acc).2.2)) [] → S_section_Read_1 s p (rowsIV acc) (K_section_Read_0 Q) := by
  induction f with
  | zero => intro p acc h1 h2; omega
  | succ f ih =>
    intro p acc h1 h2 h3 hQ
    have ok := partS_ok 2147483647 s p h2
    rw [readGo] at hQ
    refine S_section_Read_1_of _ _ _ _ (read_step s hs p h2 acc h3 (fun e => K_section_Read_0 Q .ret ⟨[(4, (.own (Nm.loc (4 : Nat)))), (5, (.imm (.int .i64 ((0 : Int))))), (6, (.imm (.int .i64 e)))], [((Nm.loc (4 : Nat)), (.arr 55 true 4 []))]⟩)
      (fun l e => K_section_Read_0 Q .ret ⟨[(4, (.own (Nm.loc (9 : Nat)))), (5, (.imm (.int .i64 e))), (6, (.imm (.int .i64 ((0 : Int)))))], [((Nm.loc (9 : Nat)), (.arr 55 false 4 l))]⟩)
      (fun a b c => S_section_Read_1 a b c (K_section_Read_0 Q)) ?_ ?_ ?_ ?_)
    · intro h; rw [if_pos h] at hQ; exact K_section_Read_0_x0 _ _ _ _ hQ
    · intro h hc
      rw [if_neg (by simpa using h), if_pos hc] at hQ
      obtain ⟨o1, o2, o3⟩ := ok h
      exact ih _ _ (by omega) (by omega) (by simp; omega) hQ
    · intro h hc hk; rw [if_neg (by simpa using h), if_neg hc, if_pos hk] at hQ; exact K_section_Read_0_x0 _ _ _ _ hQ
    · intro h hc hk; rw [if_neg (by simpa using h), if_neg hc, if_neg (by simpa using hk)] at hQ; exact K_section_Read_0_x1 _ _ _ _ hQ
theorem S_section_Read (s : List UInt8) (hs : s.length ≤ 1000000) (p : Int) : Call E0.P fn_section_Read [.imm (.str s), .imm (.int .i64 p)] [] (Is (isRPE (readX 2147483647 s p)) []) := by
  refine F_section_Read_of _ _ _ (Let.intro ⟨fun h => ?_, fun h => ?_⟩)
  · have h := (orB _ _).1 h
    rw [readX, if_pos h]; exact ⟨rfl, rfl⟩
  · have h := (orF _ _).1 h
    obtain ⟨q, rfl⟩ : ∃ q : Nat, p = q := ⟨p.toNat, by omega⟩
    refine ⟨by omega, Let.intro ?_⟩
    have e0 : readX 2147483647 s (q : Int) = if begS (s.drop q) = 0 then ((readGo 2147483647 s (s.length + 1) (q + 5) []).1, ((readGo 2147483647 s (s.length + 1) (q + 5) []).2.1 : Int), (readGo 2147483647 s (s.length + 1) (q + 5) []).2.2) else ([], 0, begS (s.drop q)) := by
      rw [readX, if_neg h, Int.toNat_natCast, begS]
      by_cases c1 : (s.drop q).take 5 = wordX
      · rw [if_pos c1, if_pos c1, if_pos rfl]
      · rw [if_neg c1, if_neg c1]
        by_cases c2 : (s.drop q).length < 5 ∧ s.drop q = wordX.take (s.drop q).length
        · rw [if_pos c2, if_pos c2]; rfl
        · rw [if_neg c2, if_neg c2]; rfl
    have hb : begS (s.drop q) = 0 → q + 5 ≤ s.length := by
      intro hb
      unfold begS at hb
      split at hb
      · rename_i c
        have := congrArg List.length c
        simp [wordX] at this
        omega
      · split at hb <;> cases hb
    rw [Int.toNat_natCast]
    refine Call.use (S_section_begins _) ⟨⟨rfl, rfl⟩, ?_⟩
    rw [rI_int]
    refine ⟨fun hn => ?_, fun hn => ?_⟩
    · have hn := ndT hn
      rw [if_neg hn] at e0
      rw [e0]; exact ⟨rfl, rfl⟩
    · have hn := ndF hn
      rw [if_pos hn] at e0
      have hq := hb hn
      have ew : IntKind.i64.wrap ((q : Int) + 5) = ((q + 5 : Nat) : Int) := by rw [wrap_id _ (by omega) (by omega)]; omega
      rw [ew, e0]
      have hG : readGo 2147483647 s (s.length + 1) (q + 5) [] = if (partS 2147483647 s (q + 5)).1 ≠ 0 then ([], 0, (partS 2147483647 s (q + 5)).1)
        else if 0 < cntD (s.drop (partS 2147483647 s (q + 5)).2.2) then readGo 2147483647 s s.length (partS 2147483647 s (q + 5)).2.2 ([] ++ (partS 2147483647 s (q + 5)).2.1)
        else if chkS (-1) ([] ++ (partS 2147483647 s (q + 5)).2.1) ≠ 0 then ([], 0, chkS (-1) ([] ++ (partS 2147483647 s (q + 5)).2.1))
        else ([] ++ (partS 2147483647 s (q + 5)).2.1, (partS 2147483647 s (q + 5)).2.2, 0) := by rw [readGo]
      have ok := partS_ok 2147483647 s (q + 5) hq
      generalize hR : readGo 2147483647 s (s.length + 1) (q + 5) [] = R at *
      refine read_step s hs (q + 5) hq [] (by simp) (fun e => Is (isRPE (R.1, (R.2.1 : Int), R.2.2)) [] (.tup [(.imm (.sl .any 4 [])), (.imm (.int .i64 ((0 : Int)))), (.imm (.int .i64 e))]) [])
        (fun l e => Is (isRPE (R.1, (R.2.1 : Int), R.2.2)) [] (.tup [(.imm (.sl .any 4 l)), (.imm (.int .i64 e)), (.imm (.int .i64 0))]) [])
        (fun a b c => S_section_Read_1 a b c (K_section_Read_0 (Is (isRPE (R.1, (R.2.1 : Int), R.2.2)) []))) ?_ ?_ ?_ ?_
      · intro h; rw [if_pos h] at hG; rw [hG]; exact ⟨rfl, rfl⟩
      · intro h hc
        rw [if_neg (by simpa using h), if_pos hc] at hG
        obtain ⟨o1, o2, o3⟩ := ok h
        refine S_read_go s hs _ s.length _ _ (by omega) (by omega) (by simp; omega) ?_
        rw [hG]; exact ⟨rfl, rfl⟩
      · intro h hc hk; rw [if_neg (by simpa using h), if_neg hc, if_pos hk] at hG; rw [hG]; exact ⟨rfl, rfl⟩
      · intro h hc hk; rw [if_neg (by simpa using h), if_neg hc, if_neg (by simpa using hk)] at hG; rw [hG]; exact ⟨rfl, rfl⟩
end Go.Proofs.Sim.Se

import Derived.Test.YtkdjpnfpmpchnaaDoorSc3
import Derived.Test.YtkdjpnfpmpchnaaDoorScR
namespace Go.Proofs.Sim.Se
open Go Go.Proofs Go.Proofs.Sim Go.RowKit
set_option maxRecDepth 100000
set_option linter.unusedVariables false
set_option linter.unusedSimpArgs false
def rdH (s : List UInt8) (p : Int) : Heap := [(Nm.arg 0, Entry.blk ty_section_reader [.imm (.str s), .imm (.int .i64 p)])]
theorem S_number (s : List UInt8) (hs : s.length ≤ 1000000) (p : Nat) (hp : p ≤ s.length) (en : Int) :
    Call E0.P fn_section_reader_number [.ptr (.arg 0) 0, .imm (.int .u8 en)] (rdH s p) (Is (isP ((numS s p en).1, (numS s p en).2.2)) (rdH s (numS s p en).2.1)) := by
  have hc := cntD_le (s.drop p)
  have hl : (s.drop p).length = s.length - p := List.length_drop
  refine F_section_reader_number_of _ _ _ _ ⟨by omega, Let.intro ?_⟩
  rw [Int.toNat_natCast]
  refine Call.use (S_digits_Count _) ⟨⟨rfl, rfl⟩, ?_⟩
  rw [rI_int]
  have e0 : numS s p en = if s.drop p = [] then (0, p, 5) else if cntD (s.drop p) = 0 ∨ (1 < cntD (s.drop p) ∧ ((s.drop p).getD 0 0).toNat = 48) then (0, p, 4)
    else if cntD (s.drop p) = (s.drop p).length then (0, p, 5) else if (((s.drop p).getD (cntD (s.drop p)) 0).toNat : Int) ≠ en then (0, p, 4)
    else if (fixS ((s.drop p).take (cntD (s.drop p)))).2 ≠ 0 ∨ 8388607 < (fixS ((s.drop p).take (cntD (s.drop p)))).1 then (0, p + cntD (s.drop p) + 1, 3)
    else ((fixS ((s.drop p).take (cntD (s.drop p)))).1, p + cntD (s.drop p) + 1, 0) := rfl
  have ht0 : s.drop p = [] ↔ (s.drop p).length = 0 := List.length_eq_zero_iff.symm
  generalize hT : s.drop p = t at *
  generalize hC : cntD t = c at *
  refine ⟨fun h => ?_, fun h => ?_⟩
  · rw [if_pos (by simpa using h)] at e0; rw [e0]; exact ⟨rfl, rfl⟩
  have h0 : t ≠ [] := by simpa using h
  rw [if_neg h0] at e0
  have tail : ¬ (c = 0 ∨ (1 < c ∧ (t.getD 0 0).toNat = 48)) → ∀ hh : c ≠ t.length, (((t.getD c 0).toNat : Int) = en) →
      Call E0.P fn_digits_Fixed [.imm (.str (t.take c))] [] fun r5 g5 => Req (g5 = [] ∧ r5 = .tup [.imm (.int .i64 (rI (rT r5 0))), .imm (.int .i64 (rI (rT r5 1)))])
        (Let (bif !decide (rI (rT r5 1) = 0) then true else decide (8388607 < rI (rT r5 0))) fun x6 => Br x6
          (Is (isP ((numS s p en).1, (numS s p en).2.2)) (rdH s (numS s p en).2.1) (.tup [.imm (.int .i64 0), .imm (.int .i64 3)]) [(Nm.arg 0, Entry.blk ty_section_reader [.imm (.str s), .imm (.int .i64 (IntKind.i64.wrap (p + IntKind.i64.wrap ((c : Int) + 1))))])])
          (Is (isP ((numS s p en).1, (numS s p en).2.2)) (rdH s (numS s p en).2.1) (.tup [.imm (.int .i64 (rI (rT r5 0))), .imm (.int .i64 0)]) [(Nm.arg 0, Entry.blk ty_section_reader [.imm (.str s), .imm (.int .i64 (IntKind.i64.wrap (p + IntKind.i64.wrap ((c : Int) + 1))))])])) := by
    intro h2 h3 h4
    have ew : IntKind.i64.wrap ((p : Int) + IntKind.i64.wrap ((c : Int) + 1)) = ((p + c + 1 : Nat) : Int) := by
      rw [wrap_id ((c : Int) + 1) (by omega) (by omega), wrap_id _ (by omega) (by omega)]; omega
    rw [ew]
    rw [if_neg h2, if_neg h3, if_neg (by simpa using h4)] at e0
    refine Call.use (S_digits_Fixed _ (by simp; omega)) ⟨⟨rfl, rfl⟩, ?_⟩
    have f0 : rI (rT (isP (fixS (t.take c))) 0) = (fixS (t.take c)).1 := rfl
    have f1 : rI (rT (isP (fixS (t.take c))) 1) = (fixS (t.take c)).2 := rfl
    rw [f0, f1]
    refine Let.intro ⟨fun h => ?_, fun h => ?_⟩
    · rw [orB'] at h
      rw [if_pos (by rcases h with h | h; exact .inl (ndT h); exact .inr h)] at e0
      rw [e0]; exact ⟨rfl, rfl⟩
    · have h : ¬ ((bif !decide ((fixS (t.take c)).2 = 0) then true else decide (8388607 < (fixS (t.take c)).1)) = true) := by rw [h]; decide
      rw [orB'] at h
      rw [if_neg (by rintro (h' | h'); exact h (.inl (by simpa using h')); exact h (.inr h'))] at e0
      rw [e0]; exact ⟨rfl, rfl⟩
  refine ⟨fun h => ?_, fun h => ?_⟩
  · have hc0 : c ≠ 0 := by have := of_decide_eq_false (eq_of_beq h); omega
    refine ⟨fun h => by have := of_decide_eq_true h; omega, Let.intro (Let.intro ⟨fun h => ?_, fun h => ?_⟩)⟩
    · have h := (andT' _ _).1 h
      rw [if_pos (.inr ⟨by omega, by omega⟩)] at e0
      rw [e0]; exact ⟨rfl, rfl⟩
    · have h := (andF' _ _).1 h
      have h2 : ¬ (c = 0 ∨ (1 < c ∧ (t.getD 0 0).toNat = 48)) := by
        rintro (h' | ⟨h', h''⟩)
        · exact hc0 h'
        · exact h ⟨by omega, by omega⟩
      refine ⟨fun h => ?_, fun h => ?_⟩
      · have h := of_decide_eq_true h
        rw [if_neg h2, if_pos (by omega)] at e0
        rw [e0]; exact ⟨rfl, rfl⟩
      · have h3 : c ≠ t.length := by have := of_decide_eq_false h; omega
        rw [Int.toNat_natCast]
        refine ⟨by omega, ⟨fun h => ?_, fun h => ?_⟩⟩
        · have h := ndT h
          rw [if_neg h2, if_neg h3, if_pos h] at e0
          rw [e0]; exact ⟨rfl, rfl⟩
        · exact ⟨by omega, Let.intro (tail h2 h3 (ndF h))⟩
  · have hc0 : c = 0 := by have := of_decide_eq_true (beqf h); omega
    rw [if_pos (.inl hc0)] at e0
    refine ⟨rfl, Let.intro ⟨fun _ => ?_, fun h => absurd h (by decide)⟩⟩
    rw [e0]; exact ⟨rfl, rfl⟩
theorem S_r22_number (s : List UInt8) (hs : s.length ≤ 1000000) (p : Nat) (hp : p ≤ s.length) (en : Int) :
    Call E0.P fn_r22_number [.imm (.str s), .imm (.int .i64 p), .imm (.int .u8 en)] [] (Is (if (numS s p en).2.2 = 0 then .tup [.imm (.int .i64 (numS s p en).1), .imm (.int .i64 (numS s p en).2.1), .imm (.int .i64 0)] else .tup [.imm (.int .i64 0), .imm (.int .i64 0), .imm (.int .i64 (numS s p en).2.2)]) []) := by
  have hc := cntD_le (s.drop p)
  have hl : (s.drop p).length = s.length - p := List.length_drop
  have hgd : ∀ k, (s.drop p).getD k 0 = s.getD (p + k) 0 := by intro k; simp [List.getD_eq_getElem?_getD]
  refine F_r22_number_of _ _ _ _ ⟨by omega, Let.intro ?_⟩
  rw [Int.toNat_natCast]
  refine Call.use (S_r02_Count _ (by simp; omega)) ⟨⟨rfl, rfl⟩, ?_⟩
  rw [rI_int]
  have e0 : numS s p en = if s.drop p = [] then (0, p, 5) else if cntD (s.drop p) = 0 ∨ (1 < cntD (s.drop p) ∧ ((s.drop p).getD 0 0).toNat = 48) then (0, p, 4)
    else if cntD (s.drop p) = (s.drop p).length then (0, p, 5) else if (((s.drop p).getD (cntD (s.drop p)) 0).toNat : Int) ≠ en then (0, p, 4)
    else if (fixS ((s.drop p).take (cntD (s.drop p)))).2 ≠ 0 ∨ 8388607 < (fixS ((s.drop p).take (cntD (s.drop p)))).1 then (0, p + cntD (s.drop p) + 1, 3)
    else ((fixS ((s.drop p).take (cntD (s.drop p)))).1, p + cntD (s.drop p) + 1, 0) := rfl
  have ht0 : s.drop p = [] ↔ (s.drop p).length = 0 := List.length_eq_zero_iff.symm
  have hgc := hgd (cntD (s.drop p))
  have hg0 := hgd 0
  have htk : List.drop p (List.take (p + cntD (s.drop p)) s) = (s.drop p).take (cntD (s.drop p)) := by
    rw [List.drop_take]; congr 1; omega
  rw [hgc, hg0] at e0
  generalize hT : s.drop p = t at *
  generalize hC : cntD t = c at *
  have ew : IntKind.i64.wrap ((p : Int) + (c : Int)) = ((p + c : Nat) : Int) := by rw [wrap_id _ (by omega) (by omega)]; omega
  have ew2 : IntKind.i64.wrap (((p + c : Nat) : Int) + 1) = ((p + c + 1 : Nat) : Int) := by rw [wrap_id _ (by omega) (by omega)]; omega
  rw [ew, ew2, Int.toNat_natCast]
  have hc0 : t = [] → c = 0 := fun h => by have := ht0.1 h; omega
  have form : ∀ v q, numS s p en = (v, q, 4) → Is (if (numS s p en).2.2 = 0 then AV.tup [.imm (.int .i64 (numS s p en).1), .imm (.int .i64 (numS s p en).2.1), .imm (.int .i64 0)] else .tup [.imm (.int .i64 0), .imm (.int .i64 0), .imm (.int .i64 (numS s p en).2.2)]) [] (.tup [.imm (.int .i64 0), .imm (.int .i64 0), .imm (.int .i64 4)]) [] := by
    intro v q h; rw [h]; exact ⟨rfl, rfl⟩
  have short : ∀ v q, numS s p en = (v, q, 5) → Is (if (numS s p en).2.2 = 0 then AV.tup [.imm (.int .i64 (numS s p en).1), .imm (.int .i64 (numS s p en).2.1), .imm (.int .i64 0)] else .tup [.imm (.int .i64 0), .imm (.int .i64 0), .imm (.int .i64 (numS s p en).2.2)]) [] (.tup [.imm (.int .i64 0), .imm (.int .i64 0), .imm (.int .i64 5)]) [] := by
    intro v q h; rw [h]; exact ⟨rfl, rfl⟩
  refine Let.intro ⟨fun h => ?_, fun h => ?_⟩
  · have h := (andF' _ _).1 (eq_of_beq h)
    refine ⟨fun h' => by have := of_decide_eq_true h'; omega, Let.intro (Let.intro ⟨fun h2 => ?_, fun h2 => ?_⟩)⟩
    · have h2 := (andF' _ _).1 (eq_of_beq h2)
      refine ⟨fun h' => by have := of_decide_eq_true h'; omega, Let.intro (Let.intro ⟨fun h3 => ?_, fun h3 => ?_⟩)⟩
      · by_cases hlt : ((p + c : Nat) : Int) < (s.length : Int)
        · have h3' : ((s.getD (p + c) 0).toNat : Int) ≠ en := by
            rw [decide_eq_true hlt] at h3
            exact ndT h3
          rw [if_neg (by rw [ht0]; omega), if_neg (by
            rintro (h' | ⟨h', h''⟩)
            · exact h ⟨by omega, by omega⟩
            · exact h2 ⟨by omega, by rw [show p + 0 = p from rfl] at h''; omega⟩), if_neg (by omega), if_pos h3'] at e0
          exact form _ _ e0
        · rw [decide_eq_false hlt] at h3; cases h3
      · refine ⟨fun h4 => ?_, fun h4 => ?_⟩
        · have h4 := of_decide_eq_true h4
          by_cases ht : t = []
          · rw [if_pos ht] at e0; exact short _ _ e0
          · rw [if_neg ht, if_neg (by
            rintro (h' | ⟨h', h''⟩)
            · have := mt ht0.2 ht; exact h ⟨by omega, by omega⟩
            · exact h2 ⟨by omega, by rw [show p + 0 = p from rfl] at h''; omega⟩), if_pos (by omega)] at e0
            exact short _ _ e0
        · have h4 := of_decide_eq_false h4
          have h3' : ((s.getD (p + c) 0).toNat : Int) = en := by
            rw [decide_eq_true (by omega)] at h3
            exact ndF h3
          rw [if_neg (by rw [ht0]; omega), if_neg (by
            rintro (h' | ⟨h', h''⟩)
            · exact h ⟨by omega, by omega⟩
            · exact h2 ⟨by omega, by rw [show p + 0 = p from rfl] at h''; omega⟩), if_neg (by omega), if_neg (by simpa using h3')] at e0
          refine ⟨by omega, Let.intro ?_⟩
          rw [htk]
          refine Call.use (S_r02_Fixed _ (by simp; omega)) ⟨⟨rfl, rfl⟩, ?_⟩
          have f0 : rI (rT (isP (fixS (t.take c))) 0) = (fixS (t.take c)).1 := rfl
          have f1 : rI (rT (isP (fixS (t.take c))) 1) = (fixS (t.take c)).2 := rfl
          rw [f0, f1]
          refine Let.intro ⟨fun h => ?_, fun h => ?_⟩
          · rw [orB'] at h
            rw [if_pos (by rcases h with h | h; exact .inl (ndT h); exact .inr h)] at e0
            rw [e0]; exact ⟨rfl, rfl⟩
          · have h : ¬ ((bif !decide ((fixS (t.take c)).2 = 0) then true else decide (8388607 < (fixS (t.take c)).1)) = true) := by rw [h]; decide
            rw [orB'] at h
            rw [if_neg (by rintro (h' | h'); exact h (.inl (by simpa using h')); exact h (.inr h'))] at e0
            rw [e0]; exact ⟨rfl, rfl⟩
    · have h2 := (andT' _ _).1 (beqf h2)
      refine ⟨rfl, Let.intro ⟨fun _ => ?_, fun h => absurd h (by decide)⟩⟩
      rw [if_neg (fun h => by have := hc0 h; omega), if_pos (.inr ⟨by omega, by rw [show p + 0 = p from rfl]; omega⟩)] at e0
      exact form _ _ e0
  · have h := (andT' _ _).1 (beqf h)
    have e1 : numS s p en = (0, p, 4) := by
      rw [if_neg (by rw [ht0]; omega), if_pos (.inl (by omega))] at e0
      exact e0
    refine ⟨rfl, Let.intro ⟨fun h => absurd h (by decide), fun _ => ⟨rfl, Let.intro ⟨fun _ => ?_, fun h => absurd h (by decide)⟩⟩⟩⟩
    exact form _ _ e1
end Go.Proofs.Sim.Se

import Derived.Test.YtkdjpnfpmpchnaaDoorSc7
namespace Go.Proofs.Sim.Se
open Go Go.Proofs Go.Proofs.Sim Go.RowKit
set_option maxRecDepth 100000
set_option linter.unusedVariables false
set_option linter.unusedSimpArgs false
def exRows : List R4 := [⟨0, 0, 0, 65535⟩, ⟨3, 1, 17, 0⟩]
def exText : List UInt8 := [120, 114, 101, 102, 10, 48, 32, 49, 10, 48, 48, 48, 48, 48, 48, 48, 48, 48, 48, 32, 54, 53, 53, 51, 53, 32, 102, 32, 10, 51, 32, 49, 10, 48, 48, 48, 48, 48, 48, 48, 48, 49, 55, 32, 48, 48, 48, 48, 48, 32, 110, 32, 10]
theorem ex_print : printS exRows = (exText, 0) := by
  have i0 : Lib.itoa 0 = [48] := by
    rw [show (0 : Int) = ((0 : Nat) : Int) from rfl, Lib.itoa_nonneg, Lib.decDigits_one (by omega)]; rfl
  have i1 : Lib.itoa 1 = [49] := by
    rw [show (1 : Int) = ((1 : Nat) : Int) from rfl, Lib.itoa_nonneg, Lib.decDigits_one (by omega)]; rfl
  have i3 : Lib.itoa 3 = [51] := by
    rw [show (3 : Int) = ((3 : Nat) : Int) from rfl, Lib.itoa_nonneg, Lib.decDigits_one (by omega)]; rfl
  have i17 : Lib.itoa 17 = [49, 55] := by
    rw [show (17 : Int) = ((17 : Nat) : Int) from rfl, Lib.itoa_nonneg, Lib.decDigits_two (by omega) (by omega)]; rfl
  have i6 : Lib.itoa 65535 = [54, 53, 53, 51, 53] := by
    rw [show (65535 : Int) = ((65535 : Nat) : Int) from rfl, Lib.itoa_nonneg, Lib.decDigits, dif_neg (by omega), Lib.decDigits, dif_neg (by omega), Lib.decDigits, dif_neg (by omega), Lib.decDigits_two (by omega) (by omega)]; rfl
  have p1 : (padS 0 10).1 = [48, 48, 48, 48, 48, 48, 48, 48, 48, 48] := by rw [padS, i0]; rfl
  have p2 : (padS 65535 5).1 = [54, 53, 53, 51, 53] := by rw [padS, i6]; rfl
  have p3 : (padS 17 10).1 = [48, 48, 48, 48, 48, 48, 48, 48, 49, 55] := by rw [padS, i17]; rfl
  have p4 : (padS 0 5).1 = [48, 48, 48, 48, 48] := by rw [padS, i0]; rfl
  have hc : chkS (-1) exRows = 0 := by decide
  rw [printS, if_neg (by rw [hc]; decide), if_neg (by decide)]
  have hP : progP (-1) exRows = headS 0 1 ++ (lineS ⟨0, 0, 0, 65535⟩ ++ (headS 3 1 ++ (lineS ⟨3, 1, 17, 0⟩ ++ []))) := by
    rfl
  rw [hP, headS, headS, lineS, lineS, i0, i1, i3]
  simp only [p1, p2, p3, p4]
  rfl
theorem S_l22_sections : Call E0.P fn_l22_sections [] [] (Is (.imm (.bool true)) []) := by
  have f0 : ∀ (s : List UInt8) (k : Int), rS (rT (isSP s k) 0) = s := fun _ _ => rfl
  have f1 : ∀ (s : List UInt8) (k : Int), rI (rT (isSP s k) 1) = k := fun _ _ => rfl
  have r0 : ∀ l p e, rR (rT (isRPE (l, p, e)) 0) = rowsIV l := fun _ _ _ => rfl
  have r0k : ∀ l p e, rK (rT (isRPE (l, p, e)) 0) = .any := fun _ _ _ => rfl
  have r1 : ∀ l p e, rI (rT (isRPE (l, p, e)) 1) = p := fun _ _ _ => rfl
  have r2 : ∀ l p e, rI (rT (isRPE (l, p, e)) 2) = e := fun _ _ _ => rfl
  have hb := read_back 2147483647 [] [116] (by decide) exRows (by decide) (by decide)
  rw [ex_print] at hb
  have hs : (readX 2147483647 [120, 114, 101, 102, 10, 48, 32, 49, 10] 0).2.2 = 5 := by decide +kernel
  have r2' : ∀ r, rI (rT (isRPE r) 2) = r.2.2 := fun _ => rfl
  refine F_l22_sections_of _ (Call.use (S_section_Print .any exRows (by decide)) ⟨⟨rfl, rfl⟩, ?_⟩)
  rw [ex_print, f0, f1]
  refine ⟨by decide, Call.use (S_section_Read _ (by decide) 0) ⟨⟨rfl, rfl⟩, ?_⟩⟩
  have hb' : readX 2147483647 (exText ++ [116]) 0 = (exRows, (exText.length : Int), 0) := by
    have := hb
    simp only [List.nil_append, List.length_nil, Nat.zero_add] at this
    exact this
  rw [hb', r0, r0k, r1, r2]
  refine Call.use (S_section_Read _ (by decide) 0) ⟨⟨rfl, rfl⟩, ?_⟩
  rw [r2', hs]
  refine Let.intro ⟨fun _ => ?_, fun h => absurd h (by decide)⟩
  refine Call.use (S_SameRows .any .any exRows (by decide)) ⟨⟨rfl, rfl⟩, ?_⟩
  rw [rB_bool]
  refine Let.intro (Let.intro (Let.intro (Let.intro ⟨fun _ => ?_, fun h => absurd h (by decide)⟩)))
  refine Call.use (S_section_Check .any [⟨1, 0, 0, 0⟩, ⟨1, 0, 0, 0⟩] (by decide)) ⟨⟨rfl, rfl⟩, ?_⟩
  exact Let.intro ⟨rfl, rfl⟩
theorem S_l22_SectionPrints (sk : SK) (l : List R4) : Call E0.P fn_l22_SectionPrints [.imm (.sl sk 4 (rowsIV l))] [] (Is (.imm (.bool true)) []) := by
  have f0 : ∀ (s : List UInt8) (k : Int), rS (rT (isSP s k) 0) = s := fun _ _ => rfl
  have f1 : ∀ (s : List UInt8) (k : Int), rI (rT (isSP s k) 1) = k := fun _ _ => rfl
  refine F_l22_SectionPrints_of _ _ _ ?_
  rw [rowsIV_len]
  refine ⟨fun _ => Call.use S_l22_sections ⟨⟨rfl, rfl⟩, ⟨rfl, rfl⟩⟩, fun h => ?_⟩
  have h := of_decide_eq_false h
  refine Call.use (S_section_Print sk l (by omega)) ⟨⟨rfl, rfl⟩, ?_⟩
  refine Call.use (S_r22_Print sk l (by omega)) ⟨⟨rfl, rfl⟩, ?_⟩
  rw [f0, f1]
  refine Let.intro ⟨fun _ => ?_, fun h => absurd h (by simp)⟩
  refine Call.use (S_section_Check sk l (by omega)) ⟨⟨rfl, rfl⟩, ?_⟩
  refine Call.use (S_r22_Check sk l (by omega)) ⟨⟨rfl, rfl⟩, ?_⟩
  rw [rI_int]
  refine Let.intro ⟨fun _ => ?_, fun h => absurd h (by simp)⟩
  exact Call.use S_l22_sections ⟨⟨rfl, rfl⟩, Let.intro ⟨rfl, rfl⟩⟩
theorem readX_len (big : Int) (s : List UInt8) (p : Int) : (readX big s p).1.length ≤ s.length := by
  unfold readX
  split
  · simp
  · split
    · rename_i h1 h2
      have hq : p.toNat + 5 ≤ s.length := by
        have := congrArg List.length h2
        simp [wordX] at this
        omega
      simp only
      have : ∀ (f q : Nat) (acc : List R4), q ≤ s.length → acc.length ≤ q → (readGo big s f q acc).1.length ≤ s.length := by
        intro f
        induction f with
        | zero => intro q acc _ _; simp [readGo]
        | succ f ih =>
          intro q acc hq ha
          have ok := partS_ok big s q hq
          rw [readGo]
          split
          · simp
          · rename_i h
            obtain ⟨o1, o2, o3⟩ := ok (Decidable.not_not.1 h)
            split
            · exact ih _ _ o2 (by simp; omega)
            · split
              · simp
              · simp only [List.length_append]; omega
      exact this _ _ _ hq (by simp)
    · split <;> simp
theorem S_l22_SectionReads (s : List UInt8) (p : Int) : Call E0.P fn_l22_SectionReads [.imm (.str s), .imm (.int .i64 p)] [] (Is (.imm (.bool true)) []) := by
  have r0 : ∀ r, rR (rT (isRPE r) 0) = rowsIV r.1 := fun _ => rfl
  have r0k : ∀ r, rK (rT (isRPE r) 0) = .any := fun _ => rfl
  have r1 : ∀ r, rI (rT (isRPE r) 1) = r.2.1 := fun _ => rfl
  have r2 : ∀ r, rI (rT (isRPE r) 2) = r.2.2 := fun _ => rfl
  refine F_l22_SectionReads_of _ _ _ ⟨fun _ => Call.use S_l22_sections ⟨⟨rfl, rfl⟩, ⟨rfl, rfl⟩⟩, fun h => ?_⟩
  have h := of_decide_eq_false h
  have hl := readX_len 2147483647 s p
  refine Call.use (S_section_Read s (by omega) p) ⟨⟨rfl, rfl⟩, ?_⟩
  refine Call.use (S_r22_Read s (by omega) p) ⟨⟨rfl, rfl⟩, ?_⟩
  rw [readX_rel 67108865 2147483647 (by omega) (by omega)]
  rw [r0, r0k, r1, r2]
  refine Call.use (S_SameRows .any .any _ (by omega)) ⟨⟨rfl, rfl⟩, ?_⟩
  refine Let.intro (Let.intro ⟨fun _ => ?_, fun h => absurd h (by rw [rB_bool]; simp)⟩)
  exact Call.use S_l22_sections ⟨⟨rfl, rfl⟩, Let.intro ⟨rfl, rfl⟩⟩
theorem S_l22_SectionBack (a : List UInt8) (sk : SK) (l : List R4) (b : List UInt8) : Call E0.P fn_l22_SectionBack [.imm (.str a), .imm (.sl sk 4 (rowsIV l)), .imm (.str b)] [] (Is (.imm (.bool true)) []) := by
  have f0 : ∀ (s : List UInt8) (k : Int), rS (rT (isSP s k) 0) = s := fun _ _ => rfl
  have f1 : ∀ (s : List UInt8) (k : Int), rI (rT (isSP s k) 1) = k := fun _ _ => rfl
  have r0 : ∀ r, rR (rT (isRPE r) 0) = rowsIV r.1 := fun _ => rfl
  have r0k : ∀ r, rK (rT (isRPE r) 0) = .any := fun _ => rfl
  have r1 : ∀ r, rI (rT (isRPE r) 1) = r.2.1 := fun _ => rfl
  have r2 : ∀ r, rI (rT (isRPE r) 2) = r.2.2 := fun _ => rfl
  refine F_l22_SectionBack_of _ _ _ _ _ (Let.intro (Let.intro ⟨fun h => ?_, fun h => ⟨rfl, Let.intro ⟨fun _ => Call.use S_l22_sections ⟨⟨rfl, rfl⟩, ⟨rfl, rfl⟩⟩, fun h => absurd h (by decide)⟩⟩⟩))
  have h : ¬ ((bif (bif decide ((300 : Int) < (a.length : Int)) then true else decide ((300 : Int) < ((rowsIV l).length : Int))) then true else decide ((300 : Int) < (b.length : Int))) = true) := by rw [eq_of_beq h]; decide
  rw [orB', orB, rowsIV_len] at h
  have hb0 : (!b == []) = true → 0 < b.length := by
    intro hh
    cases b with
    | nil => simp at hh
    | cons c r => simp
  refine ⟨fun hh => by have := hb0 hh; omega, Let.intro ⟨fun hh => ?_, Let.intro (Let.intro ⟨fun _ => Call.use S_l22_sections ⟨⟨rfl, rfl⟩, ⟨rfl, rfl⟩⟩, fun hd => ?_⟩)⟩⟩
  · cases hx : (!b == []) with
    | true => have := hb0 hx; omega
    | false => rw [hx] at hh; cases hh
  have hcnt : cntD b = 0 := by
    cases b with
    | nil => rfl
    | cons c r =>
      refine cntD_stop c r ?_
      have e : (!(c :: r) == []) = true := by simp
      rw [e] at hd
      have e2 : (c :: r).getD 0 0 = c := rfl
      rw [e2] at hd
      cases hi : isDig c with
      | false => rfl
      | true =>
        have := (isDig_iff c).1 hi
        have d1 : decide ((48 : Int) ≤ (c.toNat : Int)) = true := decide_eq_true (by omega)
        have d2 : decide ((c.toNat : Int) ≤ 57) = true := decide_eq_true (by omega)
        rw [d1, d2] at hd
        cases hd
  refine Call.use (S_section_Print sk l (by omega)) ⟨⟨rfl, rfl⟩, ?_⟩
  rw [f0, f1]
  have hP : printS l = if chkS (-1) l ≠ 0 then ([], chkS (-1) l) else if l = [] then (wordX ++ [48, 32, 48, 10], 0) else (wordX ++ progP (-1) l, 0) := rfl
  refine ⟨fun hk => ?_, fun hk => ?_⟩
  · have hk := ndT hk
    by_cases hc : chkS (-1) l = 0
    · exfalso
      rw [if_neg (by simpa using hc)] at hP
      split at hP <;> rw [hP] at hk <;> exact hk rfl
    · rw [if_pos hc] at hP
      rw [hP]
      refine ⟨fun _ => ?_, fun h => absurd h (by simp)⟩
      refine Call.use (S_section_Check sk l (by omega)) ⟨⟨rfl, rfl⟩, ?_⟩
      rw [rI_int]
      refine Let.intro ⟨fun _ => ?_, fun h => absurd h (by simp)⟩
      exact Call.use S_l22_sections ⟨⟨rfl, rfl⟩, Let.intro ⟨rfl, rfl⟩⟩
  · have hk := ndF hk
    have hc : chkS (-1) l = 0 := by
      by_cases hc : chkS (-1) l = 0
      · exact hc
      · rw [if_pos hc] at hP
        rw [hP] at hk
        exact absurd hk hc
    have hok := chk_ok l (-1) (by omega) hc
    have hpl := progP_len l (-1) (by omega) hok
    have hlen : (printS l).1.length ≤ 20000 := by
      rw [if_neg (by simpa using hc)] at hP
      rw [hP]
      split
      · simp [wordX]
      · simp [wordX]; omega
    have hback := read_back 2147483647 a b hcnt l (by omega) hc
    refine ⟨by omega, ⟨by simp; omega, Call.use (S_section_Read _ (by simp; omega) _) ⟨⟨rfl, rfl⟩, ?_⟩⟩⟩
    rw [hback, r0, r0k, r1, r2]
    refine Call.use (S_SameRows .any sk l (by omega)) ⟨⟨rfl, rfl⟩, ?_⟩
    have ew : IntKind.i64.wrap ((a.length : Int) + ((printS l).1.length : Int)) = ((a.length + (printS l).1.length : Nat) : Int) := by
      rw [wrap_id _ (by omega) (by omega)]; omega
    rw [ew]
    refine Let.intro (Let.intro ⟨fun _ => ?_, fun h => absurd h (by rw [rB_bool]; simp)⟩)
    exact Call.use S_l22_sections ⟨⟨rfl, rfl⟩, Let.intro ⟨rfl, rfl⟩⟩
end Go.Proofs.Sim.Se

import Derived.Test.YtcdjheflchglaaaDoorCxB
import Derived.Test.YtcdjheflchglaaaDoorScA
set_option linter.unusedVariables false
set_option linter.unusedSimpArgs false
namespace Go.Proofs.Sim.Se
open Go Go.Proofs Go.Proofs.Sim Go.Proofs.Sim.Va

theorem chk_both (l : List R4) : ∀ last : Int, (chkS last l = 0 → chkX last l = 0) ∧ (chkX last l = 0 → chkS last l = 0 ∨ chkS last l = 10) := by
  induction l with
  | nil => intro last; exact ⟨fun _ => rfl, fun _ => .inl rfl⟩
  | cons x r ih =>
    intro last
    rw [chkS, chkX]
    by_cases h1 : x.n ≤ last
    · simp [h1]
    by_cases h2 : 8388607 < x.n
    · simp [h1, h2]
    rw [if_neg h1, if_neg h2, if_neg h1, if_neg h2]
    by_cases h3 : x.k ≠ 0 ∧ x.k ≠ 1
    · rw [if_pos h3]
      exact ⟨(fun h => by cases h), fun _ => .inr rfl⟩
    · rw [if_neg h3, if_neg (show ¬ (x.k ≠ 0 ∧ x.k ≠ 1 ∧ x.k ≠ 2) from fun h => h3 ⟨h.1, h.2.1⟩)]
      split
      · exact ⟨(fun h => by cases h), (fun h => by cases h)⟩
      · exact ih x.n
theorem enc_err (l : List R4) : (encX l).2.2 = chkX (-1) l := by
  unfold encX
  split
  · rfl
  · rename_i h; exact (Decidable.not_not.1 h).symm
theorem print_err (l : List R4) : (printS l).2 = chkS (-1) l := by
  unfold printS
  split
  · rfl
  · rename_i h
    have h := (Decidable.not_not.1 h).symm
    split <;> exact h
theorem sp0 (s : List UInt8) (k : Int) : rS (rT (isSP s k) 0) = s := rfl
theorem sp1 (s : List UInt8) (k : Int) : rI (rT (isSP s k) 1) = k := rfl
theorem rpe0 (r : List R4 × Int × Int) : rR (rT (isRPE r) 0) = rowsIV r.1 := rfl
theorem rpe2 (r : List R4 × Int × Int) : rI (rT (isRPE r) 2) = r.2.2 := rfl
theorem S_CrossingBoth (l : List R4) : Call E0.P fn_l23_CrossingBoth [.imm (.sl .any 4 (rowsIV l))] [] Tr := by
  refine F_l23_CrossingBoth_of _ _ ⟨fun _ => Call.use S_crossings ⟨⟨rfl, rfl⟩, ⟨rfl, rfl⟩⟩, fun h => ?_⟩
  have hl : l.length ≤ 300 := by have := of_decide_eq_false h; rw [rowsIV_len] at this; omega
  refine Call.use (S_section_Print l (by omega)) ⟨⟨rfl, rfl⟩, Call.use (S_cEncode l (by omega)) ⟨⟨rfl, rfl⟩, ?_⟩⟩
  rw [sp0, sp1, encA_r0, encA_r1, encA_r2, print_err, enc_err]
  have hb := chk_both l (-1)
  have fin : ∀ Q : AV → Heap → Prop, Q (.imm (.bool true)) [] → Call E0.P fn_l23_crossings [] [] fun r5 g5 => Req (g5 = [] ∧ r5 = .imm (.bool (rB r5))) (Let (rB r5) fun x6 => Q (.imm (.bool x6)) []) :=
    fun Q hq => Call.use S_crossings ⟨⟨rfl, rfl⟩, Let.intro hq⟩
  refine ⟨fun h => ?_, fun h => ?_⟩
  · have h := ndT h
    refine ⟨fun h10 => ?_, fun h10 => ⟨rfl, Let.intro ?_⟩⟩
    · refine Call.use (S_cCheck l (by omega)) ⟨⟨rfl, rfl⟩, Let.intro (brT' ?_ (fin _ ⟨rfl, rfl⟩))⟩
      rw [rI_int]; simp
    · refine brT' ?_ (fin _ ⟨rfl, rfl⟩)
      have h10 : ¬ chkS (-1) l = 10 := by
        intro hh
        rw [decide_eq_true hh] at h10; cases h10
      have : ¬ chkX (-1) l = 0 := fun hx => by rcases hb.2 hx with q | q <;> contradiction
      rw [decide_eq_false this]; rfl
  · have h := ndF h
    have hx := hb.1 h
    have he : encX l = (encD l, textX (wA l) (wG l) l, 0) := by rw [encX, if_neg (by simp [hx])]
    have hok := chkX_ok l (-1) (by omega) hx
    have hrb := read_back 2147483647 [] [] (by decide) l (by omega) h
    simp only [List.nil_append, List.append_nil, List.length_nil, Nat.zero_add] at hrb
    have htl := text_len (wA l) (wG l) l
    have hA := wA_le l hok
    have hG := wG_le l hok
    have htl7 : (textX (wA l) (wG l) l).length ≤ 1000000 := by
      rw [htl]
      have := Nat.mul_le_mul hl (show 1 + wA l + wG l ≤ 7 by omega)
      omega
    have hD := S_cDecode (encD l) (textX (wA l) (wG l) l) (fit_encD l (by omega)) (span_enc l (by omega)) htl7
    rw [dec_enc l (by omega) hx] at hD
    have hpl := progP_len l (-1) (by omega) (chk_ok l (-1) (by omega) h)
    have hlen : (printS l).1.length ≤ 20000 := by
      rw [printS, if_neg (by simpa using h)]
      split
      · simp [wordX]
      · simp [wordX]; omega
    refine Call.use (S_section_Read _ (by omega) 0) ⟨⟨rfl, rfl⟩, ?_⟩
    rw [rpe0, rpe2, he]
    refine Call.use hD ⟨⟨rfl, rfl⟩, ?_⟩
    rw [show readX 2147483647 (printS l).1 0 = _ from hrb, hx, decA_r0, decA_r1]
    refine Let.intro (Let.intro (brT ?_))
    refine Call.use (S_Same l (by omega)) ⟨⟨rfl, rfl⟩, Let.intro (brT ?_)⟩
    refine Call.use (S_Same l (by omega)) ⟨⟨rfl, rfl⟩, Let.intro (brT ?_)⟩
    exact fin _ ⟨rfl, rfl⟩
end Go.Proofs.Sim.Se

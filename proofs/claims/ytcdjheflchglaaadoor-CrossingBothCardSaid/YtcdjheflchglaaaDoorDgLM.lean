import Derived.Lib.ItoaMem
import Derived.Lib.AtoiAll
import Derived.Lib.Repeat
import Derived.Lib.Bytealg
import GoSem.Op.String
namespace Go.Proofs.Sim.Se
open Go
set_option linter.unusedVariables false
set_option linter.unusedSimpArgs false

def isDig (c : UInt8) : Bool := decide (48 ≤ c.toNat) && decide (c.toNat ≤ 57)
def cntD (s : List UInt8) : Nat := (s.takeWhile isDig).length
theorem cntD_le (s : List UInt8) : cntD s ≤ s.length := by
  unfold cntD
  exact (List.takeWhile_prefix isDig).length_le
theorem isDig_iff (c : UInt8) : isDig c = true ↔ 48 ≤ c.toNat ∧ c.toNat ≤ 57 := by simp [isDig]
theorem cntD_all (s : List UInt8) : cntD s = s.length ↔ ∀ c ∈ s, isDig c = true := by
  induction s with
  | nil => simp [cntD]
  | cons a s ih =>
    unfold cntD at *
    rw [List.takeWhile_cons]
    split
    · rename_i h; simp [h, ih]
    · rename_i h; simp [h]
def fixV : Nat → List UInt8 → Option Nat
  | acc, [] => some acc
  | acc, c :: r => if 2147483647 < 10 * acc + (c.toNat - 48) then none else fixV (10 * acc + (c.toNat - 48)) r
def fixR : Option Nat → Int × Int
  | some v => ((v : Int), 0)
  | none => (0, 3)
def fixS (s : List UInt8) : Int × Int := if s = [] ∨ cntD s ≠ s.length then (0, 4) else fixR (fixV 0 s)
/-- The number that digits spell, behind another. -/
def dval (acc : Nat) (s : List UInt8) : Nat := s.foldl (fun a c => 10 * a + (c.toNat - 48)) acc
theorem dval_nil (acc : Nat) : dval acc [] = acc := by simp only [dval, List.foldl_nil]
theorem dval_cons (acc : Nat) (c : UInt8) (r : List UInt8) : dval acc (c :: r) = dval (10 * acc + (c.toNat - 48)) r := by simp only [dval, List.foldl_cons]
theorem dval_add (s : List UInt8) : ∀ acc, dval acc s = acc * 10 ^ s.length + dval 0 s := by
  induction s with
  | nil => intro acc; simp [dval_nil]
  | cons c r ih =>
    intro acc
    rw [dval_cons, ih, dval_cons, ih (10 * 0 + _), List.length_cons, Nat.pow_succ]
    rw [Nat.add_mul, Nat.add_mul]
    have : 10 * acc * 10 ^ r.length = acc * (10 ^ r.length * 10) := by
      rw [Nat.mul_comm 10 acc, Nat.mul_assoc, Nat.mul_comm 10]
    omega
theorem dval_ge (s : List UInt8) (acc : Nat) : acc ≤ dval acc s := by
  rw [dval_add]
  have : 1 ≤ 10 ^ s.length := Nat.one_le_pow _ _ (by decide)
  have := Nat.mul_le_mul_left acc this
  omega
theorem fixV_eq (s : List UInt8) : ∀ acc, acc ≤ 2147483647 → fixV acc s = if dval acc s ≤ 2147483647 then some (dval acc s) else none := by
  induction s with
  | nil => intro acc h; simp [fixV, dval, h]
  | cons c r ih =>
    intro acc h
    rw [fixV, dval_cons]
    have := dval_ge r (10 * acc + (c.toNat - 48))
    split
    · rw [if_neg (by omega)]
    · rw [ih _ (by omega)]
theorem fixS_le (s : List UInt8) : 0 ≤ (fixS s).1 ∧ (fixS s).1 ≤ 2147483647 := by
  unfold fixS
  split
  · simp
  · rw [fixV_eq s 0 (by omega)]
    by_cases h : dval 0 s ≤ 2147483647
    · rw [if_pos h]; simp only [fixR]; omega
    · rw [if_neg h]; simp [fixR]
theorem fixS_digits (s : List UInt8) (h0 : s ≠ []) (hd : ∀ c ∈ s, isDig c = true) : fixS s = if dval 0 s ≤ 2147483647 then ((dval 0 s : Int), 0) else (0, 3) := by
  have := (cntD_all s).2 hd
  rw [fixS, if_neg (by rintro (h | h); exact h0 h; exact h this), fixV_eq s 0 (by omega)]
  by_cases h : dval 0 s ≤ 2147483647
  · rw [if_pos h, if_pos h]; rfl
  · rw [if_neg h, if_neg h]; rfl
theorem dval_append (a b : List UInt8) : ∀ acc, dval acc (a ++ b) = dval (dval acc a) b := by
  induction a with
  | nil => intro acc; rw [dval_nil]; rfl
  | cons c r ih => intro acc; rw [List.cons_append, dval_cons, dval_cons]; exact ih _
theorem ofNat_dig (d : Nat) (h : d < 10) : (UInt8.ofNat (48 + d)).toNat = 48 + d := by
  simp; omega
theorem dec_dig (u : Nat) : ∀ c ∈ Lib.decDigits u, isDig c = true := by
  induction u using Nat.strongRecOn with
  | _ u ih =>
    intro c hc
    rw [Lib.decDigits] at hc
    split at hc
    · rename_i h
      rw [List.mem_singleton] at hc
      subst hc
      rw [isDig_iff, ofNat_dig u h]; omega
    · rename_i h
      rw [List.mem_append] at hc
      rcases hc with hc | hc
      · exact ih (u / 10) (by omega) c hc
      · rw [List.mem_singleton] at hc
        subst hc
        rw [isDig_iff, ofNat_dig (u % 10) (by omega)]; omega
theorem dval_dec (u : Nat) : dval 0 (Lib.decDigits u) = u := by
  induction u using Nat.strongRecOn with
  | _ u ih =>
    rw [Lib.decDigits]
    split
    · rename_i h
      rw [dval_cons, dval_nil, ofNat_dig u h]; omega
    · rename_i h
      rw [dval_append, ih (u / 10) (by omega), dval_cons, dval_nil, ofNat_dig (u % 10) (by omega)]; omega
theorem dec_ne (u : Nat) : Lib.decDigits u ≠ [] := by
  intro h
  have := Lib.decDigits_length u
  have := Lib.nDigits_pos u
  rw [h] at *; simp at *; omega
theorem dec_lead (u : Nat) (h : 0 < u) : ∀ c r, Lib.decDigits u = c :: r → c.toNat ≠ 48 := by
  induction u using Nat.strongRecOn with
  | _ u ih =>
    intro c r e
    rw [Lib.decDigits] at e
    split at e
    · rename_i h10
      injection e with e _
      rw [← e, ofNat_dig u h10]; omega
    · rename_i h10
      cases hd : Lib.decDigits (u / 10) with
      | nil => exact absurd hd (dec_ne _)
      | cons a b =>
        rw [hd] at e
        injection e with e _
        subst e
        exact ih (u / 10) (by omega) (by omega) a b hd
end Go.Proofs.Sim.Se

namespace Go.Proofs.Sim.Se
open Go
set_option linter.unusedVariables false
set_option linter.unusedSimpArgs false
theorem nDigits_le (u m : Nat) (h : u < 10 ^ (m + 1)) : Lib.nDigits u ≤ m + 1 := by
  induction m generalizing u with
  | zero => rw [Lib.nDigits_small (by simpa using h)]; omega
  | succ m ih =>
    by_cases h10 : u < 10
    · rw [Lib.nDigits_small h10]; omega
    · rw [Lib.nDigits_big h10]
      have := ih (u / 10) (by rw [Nat.pow_succ] at h; omega)
      omega
theorem dec_len (u : Nat) (h : u ≤ 9223372036854775808) : (Lib.decDigits u).length ≤ 19 := by
  rw [Lib.decDigits_length]; exact nDigits_le u 18 (by omega)
theorem itoa_len (n : Int) (h0 : -9223372036854775808 ≤ n) (h1 : n ≤ 9223372036854775807) : (Lib.itoa n).length ≤ 20 := by
  unfold Lib.itoa
  split
  · have := dec_len n.natAbs (by omega); simp; omega
  · have := dec_len n.toNat (by omega); omega
def padS (n w : Int) : List UInt8 × Int :=
  if w < 1 ∨ 20 < w then ([], 2) else if n < 0 ∨ w < ((Lib.itoa n).length : Int) then ([], 3)
  else (List.replicate (w.toNat - (Lib.itoa n).length) 48 ++ Lib.itoa n, 0)
theorem repeat_one (c : UInt8) (k : Nat) : Lib.repeatL [c] k = List.replicate k c := by
  induction k with
  | zero => rfl
  | succ k ih => rw [Lib.repeatL, ih, List.replicate_succ]; rfl
theorem dval_zeros (k : Nat) (s : List UInt8) : dval 0 (List.replicate k 48 ++ s) = dval 0 s := by
  induction k with
  | zero => rfl
  | succ k ih => rw [List.replicate_succ, List.cons_append, dval_cons]; exact ih
theorem pad_back (x w : Int) (h0 : -2147483647 ≤ x) (h1 : x ≤ 2147483647) : ((padS x w).2 ≠ 0 ∧ (padS x w).1 = [] ∧ (w < 1 ∨ 20 < w ∨ x < 0 ∨ w < ((Lib.itoa x).length : Int))) ∨
    ((padS x w).2 = 0 ∧ ((padS x w).1.length : Int) = w ∧ fixS (padS x w).1 = (x, 0) ∧ (cntD (padS x w).1 : Int) = w) := by
  unfold padS
  by_cases ha : w < 1 ∨ 20 < w
  · rw [if_pos ha]; left; refine ⟨by decide, rfl, by omega⟩
  · rw [if_neg ha]
    by_cases hb : x < 0 ∨ w < ((Lib.itoa x).length : Int)
    · rw [if_pos hb]; left; refine ⟨by decide, rfl, by omega⟩
    · rw [if_neg hb]
      right
      obtain ⟨u, rfl⟩ : ∃ u : Nat, x = (u : Int) := ⟨x.toNat, by omega⟩
      rw [Lib.itoa_nonneg u] at *
      have hd : ∀ c ∈ List.replicate (w.toNat - (Lib.decDigits u).length) (48 : UInt8) ++ Lib.decDigits u, isDig c = true := by
        intro c hc
        rw [List.mem_append] at hc
        rcases hc with hc | hc
        · rw [(List.mem_replicate.1 hc).2]; decide
        · exact dec_dig u c hc
      have hl : ((List.replicate (w.toNat - (Lib.decDigits u).length) (48 : UInt8) ++ Lib.decDigits u).length : Int) = w := by simp; omega
      have hne : List.replicate (w.toNat - (Lib.decDigits u).length) (48 : UInt8) ++ Lib.decDigits u ≠ [] := by
        intro h; exact dec_ne u (List.append_eq_nil_iff.1 h).2
      refine ⟨rfl, hl, ?_, ?_⟩
      · rw [fixS_digits _ hne hd, dval_zeros, dval_dec, if_pos (by omega)]
      · rw [(cntD_all _).2 hd]; exact hl
end Go.Proofs.Sim.Se

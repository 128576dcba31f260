import Derived.Lib.ItoaMem
import Derived.Lib.AtoiAll
import Derived.Lib.Repeat
import Derived.Lib.Bytealg
import GoSem.Op.String
namespace Go.Proofs.Sim.Se
open Go

def isDig (c : UInt8) : Bool := decide (48 ≤ c.toNat) && decide (c.toNat ≤ 57)
def cntD (s : List UInt8) : Nat := (s.takeWhile isDig).length
theorem isDig_iff (c : UInt8) : isDig c = true ↔ 48 ≤ c.toNat ∧ c.toNat ≤ 57 := by simp [isDig]
theorem cntD_all (s : List UInt8) : cntD s = s.length ↔ ∀ c ∈ s, isDig c = true := by
  induction s with
  | nil => simp [cntD]
  | cons a s ih =>
    unfold cntD at *
    rw [List.takeWhile_cons]
    split
    · rename_i h; simp [h, ih]
    · rename_i h; simp [h]
def fixV : Nat → List UInt8 → Option Nat
  | acc, [] => some acc
  | acc, c :: r => if 2147483647 < 10 * acc + (c.toNat - 48) then none else fixV (10 * acc + (c.toNat - 48)) r
def fixR : Option Nat → Int × Int
  | some v => ((v : Int), 0)
  | none => (0, 3)
def fixS (s : List UInt8) : Int × Int := if s = [] ∨ cntD s ≠ s.length then (0, 4) else fixR (fixV 0 s)
/-- The number that digits spell, behind another. -/
def dval (acc : Nat) (s : List UInt8) : Nat := s.foldl (fun a c => 10 * a + (c.toNat - 48)) acc
theorem dval_nil (acc : Nat) : dval acc [] = acc := by simp only [dval, List.foldl_nil]
theorem dval_cons (acc : Nat) (c : UInt8) (r : List UInt8) : dval acc (c :: r) = dval (10 * acc + (c.toNat - 48)) r := by simp only [dval, List.foldl_cons]
theorem dval_add (s : List UInt8) : ∀ acc, dval acc s = acc * 10 ^ s.length + dval 0 s := by
  induction s with
  | nil => intro acc; simp [dval_nil]
  | cons c r ih =>
    intro acc
    rw [dval_cons, ih, dval_cons, ih (10 * 0 + _), List.length_cons, Nat.pow_succ]
    rw [Nat.add_mul, Nat.add_mul]
    have : 10 * acc * 10 ^ r.length = acc * (10 ^ r.length * 10) := by
      rw [Nat.mul_comm 10 acc, Nat.mul_assoc, Nat.mul_comm 10]
    omega
theorem dval_ge (s : List UInt8) (acc : Nat) : acc ≤ dval acc s := by
  rw [dval_add]
  have : 1 ≤ 10 ^ s.length := Nat.one_le_pow _ _ (by decide)
  have := Nat.mul_le_mul_left acc this
  omega
theorem fixV_eq (s : List UInt8) : ∀ acc, acc ≤ 2147483647 → fixV acc s = if dval acc s ≤ 2147483647 then some (dval acc s) else none := by
  induction s with
  | nil => intro acc h; simp [fixV, dval, h]
  | cons c r ih =>
    intro acc h
    rw [fixV, dval_cons]
    have := dval_ge r (10 * acc + (c.toNat - 48))
    split
    · rw [if_neg (by omega)]
    · rw [ih _ (by omega)]
theorem fixS_le (s : List UInt8) : 0 ≤ (fixS s).1 ∧ (fixS s).1 ≤ 2147483647 := by
  unfold fixS
  split
  · simp
  · rw [fixV_eq s 0 (by omega)]
    by_cases h : dval 0 s ≤ 2147483647
    · rw [if_pos h]; simp only [fixR]; omega
    · rw [if_neg h]; simp [fixR]
def isM (s : List UInt8) : Bool := match s with | c :: _ => decide (c.toNat = 45) | [] => false
def dropPM (s : List UInt8) : List UInt8 := match s with | c :: r => if c.toNat = 43 ∨ c.toNat = 45 then r else c :: r | [] => []
def looseS (s : List UInt8) : Int × Int := (if isM s then -(fixS (dropPM s)).1 else (fixS (dropPM s)).1, (fixS (dropPM s)).2)
end Go.Proofs.Sim.Se

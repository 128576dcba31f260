import Derived.Test.YtcdjheflchglaaaDoorVaA
set_option linter.unusedVariables false
set_option linter.unusedSimpArgs false
namespace Go.Proofs.Sim.Se
open Go Go.Proofs Go.Proofs.Sim Go.Proofs.Sim.Va

def beB : Nat → Nat → List UInt8
  | 0, _ => []
  | w + 1, n => beB w (n / 256) ++ [UInt8.ofNat (n % 256)]
theorem beB_len (w : Nat) : ∀ n, (beB w n).length = w := by
  induction w with
  | zero => intro n; rfl
  | succ w ih => intro n; rw [beB]; simp [ih]
theorem beB_add (a w : Nat) : ∀ n, beB (a + w) n = beB a (n / 256 ^ w) ++ beB w n := by
  induction w with
  | zero => intro n; simp [beB]
  | succ w ih =>
    intro n
    rw [show a + (w + 1) = (a + w) + 1 by omega, beB, ih, beB, List.append_assoc]
    congr 2
    rw [Nat.div_div_eq_div_mul, Nat.pow_succ, Nat.mul_comm]
theorem beB_cons (w n : Nat) : beB (w + 1) n = UInt8.ofNat (n / 256 ^ w % 256) :: beB w n := by
  rw [show w + 1 = 1 + w by omega, beB_add]; simp [beB]
theorem beB_drop (w n : Nat) (h : w ≤ 8) : (beB 8 n).drop (8 - w) = beB w n := by
  have := beB_add (8 - w) w n
  rw [show 8 - w + w = 8 by omega] at this
  rw [this, List.drop_append_of_le_length (by rw [beB_len]; omega), List.drop_of_length_le (by rw [beB_len]; omega), List.nil_append]
theorem beB_at (w : Nat) : ∀ (n i : Nat), i < w → (beB w n).getD i 0 = UInt8.ofNat (n / 256 ^ (w - 1 - i) % 256) := by
  induction w with
  | zero => intro n i h; omega
  | succ w ih =>
    intro n i h
    rw [beB_cons]
    cases i with
    | zero => simp
    | succ i =>
      rw [List.getD_cons_succ, ih n i (by omega)]
      congr 4
      omega
/-- How many bytes a number has. -/
def nb (n : Nat) : Nat := if h : n = 0 then 0 else nb (n / 256) + 1
 termination_by n
 decreasing_by exact Nat.div_lt_self (by omega) (by decide)
theorem nb_zero : nb 0 = 0 := by rw [nb]; rfl
theorem nb_le (w : Nat) : ∀ n, nb n ≤ w ↔ n < 256 ^ w := by
  induction w with
  | zero =>
    intro n
    by_cases h : n = 0
    · subst h; simp [nb_zero]
    · rw [nb, dif_neg h]; simp; omega
  | succ w ih =>
    intro n
    by_cases h : n = 0
    · subst h; simp [nb_zero, Nat.pow_pos]
    · rw [nb, dif_neg h, Nat.add_le_add_iff_right, ih, Nat.pow_succ, Nat.div_lt_iff_lt_mul (by decide)]
def valB (s : List UInt8) : Nat := s.foldl (fun a c => 256 * a + c.toNat) 0
theorem valB_app (s : List UInt8) (c : UInt8) : valB (s ++ [c]) = 256 * valB s + c.toNat := by simp [valB]
theorem valB_beB (w : Nat) : ∀ n, n < 256 ^ w → valB (beB w n) = n := by
  induction w with
  | zero => intro n h; simp at h; subst h; rfl
  | succ w ih =>
    intro n h
    rw [beB, valB_app, ih _ (by rw [Nat.pow_succ] at h; exact Nat.div_lt_of_lt_mul (by rw [Nat.mul_comm]; exact h))]
    have : (UInt8.ofNat (n % 256)).toNat = n % 256 := by simp
    rw [this]; omega
theorem fold_val (s : List UInt8) : ∀ a, s.foldl (fun a c => 256 * a + c.toNat) a = a * 256 ^ s.length + valB s := by
  induction s with
  | nil => intro a; simp [valB]
  | cons c s ih =>
    intro a
    rw [List.foldl_cons, ih, show valB (c :: s) = List.foldl (fun a c => 256 * a + c.toNat) (256 * 0 + c.toNat) s from rfl, ih, List.length_cons, Nat.pow_succ, Nat.add_mul]
    have : 256 * a * 256 ^ s.length = a * (256 ^ s.length * 256) := by
      rw [Nat.mul_comm 256 a, Nat.mul_assoc, Nat.mul_comm 256]
    rw [this, Nat.mul_zero, Nat.zero_add]; omega
theorem valB_cons (c : UInt8) (s : List UInt8) : valB (c :: s) = c.toNat * 256 ^ s.length + valB s := by
  have := fold_val (c :: s) 0
  rw [List.foldl_cons, fold_val] at this
  simp at this
  omega
theorem valB_lt (s : List UInt8) : valB s < 256 ^ s.length := by
  induction s with
  | nil => simp [valB]
  | cons c s ih =>
    rw [valB_cons, List.length_cons, Nat.pow_succ]
    have : c.toNat ≤ 255 := by have := c.toNat_lt; omega
    have := Nat.mul_le_mul_right (256 ^ s.length) this
    omega
theorem valB_take (s : List UInt8) (i : Nat) (h : i < s.length) : valB (s.take (i + 1)) = 256 * valB (s.take i) + (s.getD i 0).toNat := by
  rw [List.take_add_one]
  have : s[i]?.toList = [s.getD i 0] := by simp [List.getD_eq_getElem?_getD, h]
  rw [this, valB_app]
def getX (s : List UInt8) : Int × Int := if 8 < s.length then (0, 2) else if 9223372036854775808 ≤ valB s then (0, 3) else ((valB s : Int), 0)
theorem get_put (w n : Nat) (hw : w ≤ 8) (hn : n < 256 ^ w) (h63 : n < 9223372036854775808) : getX (beB w n) = ((n : Int), 0) := by
  rw [getX, beB_len, if_neg (by omega), valB_beB w n hn, if_neg (by omega)]
def rowB (ps : List (Nat × Nat)) : List UInt8 := ps.flatMap fun p => beB p.2 p.1
theorem rowB_len (ps : List (Nat × Nat)) : (rowB ps).length = (ps.map fun p => p.2).sum := by
  induction ps with
  | nil => rfl
  | cons p ps ih =>
    rw [show rowB (p :: ps) = beB p.2 p.1 ++ rowB ps from rfl, List.length_append, beB_len, ih]; simp
def cutX : List Nat → List UInt8 → List Int × Int
  | [], _ => ([], 0)
  | w :: ws, s => if (getX (s.take w)).2 ≠ 0 then ([], (getX (s.take w)).2) else if (cutX ws (s.drop w)).2 ≠ 0 then ([], (cutX ws (s.drop w)).2) else ((getX (s.take w)).1 :: (cutX ws (s.drop w)).1, 0)
theorem cut_row (ps : List (Nat × Nat)) (h : ∀ p ∈ ps, p.2 ≤ 8 ∧ p.1 < 256 ^ p.2 ∧ p.1 < 9223372036854775808) : cutX (ps.map fun p => p.2) (rowB ps) = (ps.map fun p => (p.1 : Int), 0) := by
  induction ps with
  | nil => rfl
  | cons p ps ih =>
    have ih := ih fun q hq => h q (by simp [hq])
    obtain ⟨h1, h2, h3⟩ := h p (by simp)
    have e : rowB (p :: ps) = beB p.2 p.1 ++ rowB ps := rfl
    have t : (rowB (p :: ps)).take p.2 = beB p.2 p.1 := by
      rw [e, List.take_append_of_le_length (by rw [beB_len]; omega), List.take_of_length_le (by rw [beB_len]; omega)]
    have d : (rowB (p :: ps)).drop p.2 = rowB ps := by
      rw [e, List.drop_append_of_le_length (by rw [beB_len]; omega), List.drop_of_length_le (by rw [beB_len]; omega), List.nil_append]
    rw [List.map_cons, cutX, t, d, get_put _ _ h1 h2 h3, ih]
    simp
end Go.Proofs.Sim.Se

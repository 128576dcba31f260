import Derived.Test.YtkdjpnfpmpchnaaDoorDgM
namespace Go.Proofs.Sim.Se
open Go
set_option linter.unusedVariables false
set_option linter.unusedSimpArgs false

structure R4 where
  n : Int
  k : Int
  a : Int
  g : Int
def chkS : Int → List R4 → Int
  | _, [] => 0
  | last, x :: r => if x.n ≤ last then 15 else if 8388607 < x.n then 3 else if x.k ≠ 0 ∧ x.k ≠ 1 then 10
    else if x.a < 0 ∨ 67108864 < x.a ∨ x.g < 0 ∨ 65535 < x.g then 3 else chkS x.n r
structure OkR (x : R4) : Prop where
  n0 : 0 ≤ x.n
  n1 : x.n ≤ 8388607
  k : x.k = 0 ∨ x.k = 1
  a0 : 0 ≤ x.a
  a1 : x.a ≤ 67108864
  g0 : 0 ≤ x.g
  g1 : x.g ≤ 65535
theorem chk_ok (l : List R4) : ∀ last, -1 ≤ last → chkS last l = 0 → ∀ x ∈ l, OkR x := by
  induction l with
  | nil => intro last _ _ x hx; cases hx
  | cons y r ih =>
    intro last hl h x hx
    simp only [chkS] at h
    split at h
    · cases h
    · split at h
      · cases h
      · split at h
        · cases h
        · split at h
          · cases h
          · rename_i h1 h2 h3 h4
            rcases List.mem_cons.1 hx with rfl | hx
            · exact ⟨by omega, by omega, by omega, by omega, by omega, by omega, by omega⟩
            · exact ih y.n (by omega) h x hx
theorem chk_vals (l : List R4) : ∀ last, chkS last l = 0 ∨ chkS last l = 15 ∨ chkS last l = 3 ∨ chkS last l = 10 := by
  induction l with
  | nil => intro last; left; rfl
  | cons y r ih =>
    intro last
    simp only [chkS]
    repeat' split
    all_goals first | exact ih _ | simp
/-- How many rows go on from a number. -/
def run : Int → List R4 → Nat
  | _, [] => 0
  | n, y :: r => if y.n = n then run (n + 1) r + 1 else 0
theorem run_le (l : List R4) : ∀ n, run n l ≤ l.length := by
  induction l with
  | nil => intro n; simp [run]
  | cons y r ih =>
    intro n
    rw [run]; split
    · have := ih (n + 1); simp; omega
    · simp
def lineS (x : R4) : List UInt8 := (padS x.a 10).1 ++ [32] ++ (padS x.g 5).1 ++ [32] ++ [if x.k = 1 then 110 else 102] ++ [32, 10]
def headS (n many : Int) : List UInt8 := Lib.itoa n ++ [32] ++ Lib.itoa many ++ [10]
def progP : Int → List R4 → List UInt8
  | _, [] => []
  | next, x :: r => (if x.n = next then [] else headS x.n ((run (x.n + 1) r + 1 : Nat) : Int)) ++ (lineS x ++ progP (x.n + 1) r)
def linesS : List R4 → List UInt8
  | [] => []
  | x :: r => lineS x ++ linesS r
def refP : Nat → List R4 → List UInt8
  | 0, _ => []
  | _ + 1, [] => []
  | m + 1, x :: r => headS x.n ((run (x.n + 1) r + 1 : Nat) : Int) ++ (linesS ((x :: r).take (run (x.n + 1) r + 1)) ++ refP m ((x :: r).drop (run (x.n + 1) r + 1)))
theorem progP_eq (l : List R4) : ∀ (m : Nat) (next : Int), l.length ≤ m → progP next l = linesS (l.take (run next l)) ++ refP m (l.drop (run next l)) := by
  induction l with
  | nil => intro m next _; cases m <;> rfl
  | cons x r ih =>
    intro m next hm
    cases m with
    | zero => simp at hm
    | succ m =>
      have hm' : r.length ≤ m := by simpa using hm
      rw [progP, run]
      by_cases h : x.n = next
      · rw [if_pos h, if_pos h, List.nil_append, ih (m + 1) (x.n + 1) (by omega), ← h]
        rw [List.take_succ_cons, List.drop_succ_cons, linesS, List.append_assoc]
      · rw [if_neg h, if_neg h, ih m (x.n + 1) hm']
        rw [List.take_zero, List.drop_zero, linesS, List.nil_append, refP, List.take_succ_cons, List.drop_succ_cons, linesS]
        simp only [List.append_assoc]
theorem run_neg (l : List R4) (h : ∀ x ∈ l, OkR x) : run (-1) l = 0 := by
  cases l with
  | nil => rfl
  | cons x r =>
    rw [run, if_neg]
    have := (h x (by simp)).n0
    omega
theorem progP_ref (l : List R4) (h : ∀ x ∈ l, OkR x) (m : Nat) (hm : l.length ≤ m) : progP (-1) l = refP m l := by
  rw [progP_eq l m (-1) hm, run_neg l h]; rfl
def wordX : List UInt8 := [120, 114, 101, 102, 10]
def printS (l : List R4) : List UInt8 × Int :=
  if chkS (-1) l ≠ 0 then ([], chkS (-1) l) else if l = [] then (wordX ++ [48, 32, 48, 10], 0) else (wordX ++ progP (-1) l, 0)
/-! ### Lengths -/
theorem pad_len (n w : Int) : ((padS n w).1.length : Int) ≤ if 0 ≤ w then w else 0 := by
  unfold padS
  split
  · simp; split <;> omega
  · split
    · simp; split <;> omega
    · rename_i h1 h2
      rw [if_pos (by omega)]
      simp; omega
theorem line_len (x : R4) : (lineS x).length ≤ 20 := by
  have h1 := pad_len x.a 10
  have h2 := pad_len x.g 5
  rw [if_pos (by omega)] at h1 h2
  simp [lineS]; omega
theorem head_len (n m : Int) (h0 : -9223372036854775808 ≤ n) (h1 : n ≤ 9223372036854775807) (h2 : -9223372036854775808 ≤ m) (h3 : m ≤ 9223372036854775807) : (headS n m).length ≤ 42 := by
  have := itoa_len n h0 h1
  have := itoa_len m h2 h3
  simp [headS]; omega
theorem progP_len (l : List R4) : ∀ next, l.length ≤ 1000000 → (∀ x ∈ l, OkR x) → (progP next l).length ≤ 62 * l.length := by
  induction l with
  | nil => intro next _ _; simp [progP]
  | cons x r ih =>
    intro next hl h
    have hx := h x (by simp)
    have h1 := ih (x.n + 1) (by simp at hl; omega) (fun y hy => h y (by simp [hy]))
    have h2 := line_len x
    have h3 := run_le r (x.n + 1)
    have hn0 := hx.n0
    have hn1 := hx.n1
    have hl' : r.length < 1000000 := by simp at hl; omega
    rw [progP]
    split
    · simp; omega
    · have := head_len x.n ((run (x.n + 1) r + 1 : Nat) : Int) (by omega) (by omega) (by omega) (by omega)
      simp at this ⊢; omega
end Go.Proofs.Sim.Se

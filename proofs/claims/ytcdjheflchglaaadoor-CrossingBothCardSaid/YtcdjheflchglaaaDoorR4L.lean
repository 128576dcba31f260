import Derived.Test.YtcdjheflchglaaaDoorSimV
import Derived.Test.YtcdjheflchglaaaDoorSimA
set_option linter.unusedVariables false
set_option linter.unusedSimpArgs false
namespace Go.Proofs.Sim.Se
open Go Go.Proofs Go.Proofs.Sim

structure R4 where
  n : Int
  k : Int
  a : Int
  g : Int
/-- How many rows go on from a number. -/
def run : Int → List R4 → Nat
  | _, [] => 0
  | n, y :: r => if y.n = n then run (n + 1) r + 1 else 0
theorem run_le (l : List R4) : ∀ n, run n l ≤ l.length := by
  induction l with
  | nil => intro n; simp [run]
  | cons y r ih =>
    intro n
    rw [run]; split
    · have := ih (n + 1); simp; omega
    · simp
def rowIV (r : R4) : List IV := [.int .i64 r.n, .int .i64 r.k, .int .i64 r.a, .int .i64 r.g]
def rowsIV (l : List R4) : List (List IV) := l.map rowIV
theorem rowsIV_len (l : List R4) : (rowsIV l).length = l.length := by simp [rowsIV]
theorem rows_at (l : List R4) (n : Nat) (h : n < l.length) : (rowsIV l).getD n [] = rowIV l[n] := by
  simp [rowsIV, List.getD_eq_getElem?_getD, h]
theorem row_g0 (r : R4) : gI (rowIV r) 0 = r.n := rfl
theorem row_g1 (r : R4) : gI (rowIV r) 1 = r.k := rfl
theorem row_g2 (r : R4) : gI (rowIV r) 2 = r.a := rfl
theorem row_g3 (r : R4) : gI (rowIV r) 3 = r.g := rfl
theorem rowOK (r : R4) : shOK [.int .i64, .int .i64, .int .i64, .int .i64] (rowIV r) = true := rfl
end Go.Proofs.Sim.Se

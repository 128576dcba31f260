import Derived.Test.YtcdjheflchglaaaDoorVsB
set_option linter.unusedVariables false
set_option linter.unusedSimpArgs false
namespace Go.Proofs.Sim.Se
open Go Go.Proofs Go.Proofs.Sim Go.Proofs.Sim.Va Go.Proofs.Sim.St

end Go.Proofs.Sim.Se

set_option linter.unusedVariables false
set_option linter.unusedSimpArgs false
namespace Go.Proofs.Sim.Se
open Go Go.Proofs Go.Proofs.Sim Go.Proofs.Sim.Va Go.Proofs.Sim.St

theorem prow_at (ps : List Pr) (n : Nat) (h : n < ps.length) : (prs ps).getD n [] = pRow (pAt ps n) := by simp [List.getD_eq_getElem?_getD, h]
end Go.Proofs.Sim.Se

set_option linter.unusedVariables false
set_option linter.unusedSimpArgs false
namespace Go.Proofs.Sim.Se
open Go Go.Proofs Go.Proofs.Sim Go.Proofs.Sim.Va Go.Proofs.Sim.St

end Go.Proofs.Sim.Se

set_option linter.unusedVariables false
set_option linter.unusedSimpArgs false
namespace Go.Proofs.Sim.Se
open Go Go.Proofs Go.Proofs.Sim Go.Proofs.Sim.Va Go.Proofs.Sim.St

theorem V.ext {a b : V} (h1 : a.k = b.k) (h2 : a.n = b.n) (h3 : a.g = b.g) (h4 : a.s = b.s) (h5 : a.l = b.l) (h6 : a.d = b.d) : a = b := by
  cases a; cases b
  simp only [V.k, V.n, V.g, V.s, V.l, V.d] at h1 h2 h3 h4 h5 h6
  subst h1 h2 h3 h4 h5 h6; rfl
end Go.Proofs.Sim.Se

set_option linter.unusedVariables false
set_option linter.unusedSimpArgs false
namespace Go.Proofs.Sim.Se
open Go Go.Proofs Go.Proofs.Sim Go.Proofs.Sim.Va Go.Proofs.Sim.St

abbrev I64 (n : Int) : Prop := -9223372036854775808 ≤ n ∧ n ≤ 9223372036854775807
def cntV : V → Nat
  | .mk k n g s l d => 1 + (l.attach.map fun ⟨v, h⟩ => cntV v).sum + (d.attach.map fun ⟨p, h⟩ => cntV p.2).sum
 termination_by v => SizeOf.sizeOf v
 decreasing_by
  · exact sz_l h
  · exact sz_d h
theorem cnt_eq (v : V) : cntV v = 1 + (v.l.map cntV).sum + (v.d.map fun p => cntV p.2).sum := by
  obtain ⟨k, n, g, s, l, d⟩ := v
  rw [cntV]
  simp only [V.l, V.d]
  congr 1
  · congr 2
    simp
  · congr 1
    apply List.ext_getElem <;> simp
theorem cnt_pos (v : V) : 1 ≤ cntV v := by rw [cnt_eq]; omega
theorem sum_len {α : Type} (f : α → Nat) (l : List α) (h : ∀ x ∈ l, 1 ≤ f x) : l.length ≤ (l.map f).sum := by
  induction l with
  | nil => simp
  | cons x l ih =>
    have := ih fun y hy => h y (by simp [hy])
    have := h x (by simp)
    simp; omega
theorem sum_mem {α : Type} (f : α → Nat) (l : List α) (x : α) (h : x ∈ l) : f x ≤ (l.map f).sum := by
  induction l with
  | nil => simp at h
  | cons y l ih =>
    simp only [List.map_cons, List.sum_cons]
    rcases List.mem_cons.1 h with rfl | h
    · omega
    · have := ih h; omega
theorem fit_cnt (n : Nat) (hn : n ≤ 1000000000000) : ∀ (m : Nat) (v : V), SizeOf.sizeOf v ≤ m → cntV v ≤ n → Fit v := by
  intro m
  induction m with
  | zero => intro v h; exact absurd h (by cases v; simp)
  | succ m ih =>
    intro v hm hv
    have he := cnt_eq v
    have h1 := sum_len cntV v.l fun x _ => cnt_pos x
    have h2 := sum_len (fun p : Pr => cntV p.2) v.d fun x _ => cnt_pos x.2
    refine .mk v (by omega) (by omega) (fun x hx => ?_) (fun p hp => ?_)
    · have := sum_mem cntV v.l x hx
      obtain ⟨k, n', g, s, l, d⟩ := v
      have := sz_l (k := k) (n := n') (g := g) (s := s) (d := d) (show x ∈ l from hx)
      exact ih x (by omega) (by omega)
    · have := sum_mem (fun p : Pr => cntV p.2) v.d p hp
      obtain ⟨k, n', g, s, l, d⟩ := v
      have := sz_d (k := k) (n := n') (g := g) (s := s) (l := l) (show p ∈ d from hp)
      exact ih p.2 (by omega) (by omega)
end Go.Proofs.Sim.Se

set_option linter.unusedVariables false
set_option linter.unusedSimpArgs false
namespace Go.Proofs.Sim.Se
open Go Go.Proofs Go.Proofs.Sim Go.Proofs.Sim.Va Go.Proofs.Sim.St

theorem all_next {α : Type} {P : α → Prop} (l : List α) (i : Nat) (h : i < l.length) (ha : ∀ x ∈ l.take i, P x) (hx : P l[i]) : ∀ x ∈ l.take (i + 1), P x := by
  intro x h'
  rw [List.take_add_one] at h'
  rcases List.mem_append.1 h' with h' | h'
  · exact ha x h'
  · simp [h] at h'; rw [h']; exact hx
end Go.Proofs.Sim.Se

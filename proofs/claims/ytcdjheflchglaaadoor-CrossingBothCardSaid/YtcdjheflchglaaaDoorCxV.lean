import Derived.Test.YtcdjheflchglaaaDoorVsC
import Derived.Test.YtcdjheflchglaaaDoorCxL
set_option linter.unusedVariables false
set_option linter.unusedSimpArgs false
namespace Go.Proofs.Sim.Se
open Go Go.Proofs Go.Proofs.Sim Go.Proofs.Sim.Va Go.Proofs.Sim.St

def intV (n : Int) : V := .mk 2 n 0 [] [] []
def listV (l : List Int) : V := .mk 5 0 0 [] (l.map intV) []
def dictV (d : List Pr) : V := .mk 6 0 0 [] [] d
theorem fit_plain (v : V) (h : Fit v) : Fit v.plain := by
  induction h with
  | mk v h1 h2 _ _ ih1 ih2 =>
    have hd : ∀ p ∈ plD v.d, Fit p.2 := by
      intro p hp
      have hp := (List.mem_filter.1 hp).1
      have hp := uniq_mem hp
      obtain ⟨q, hq, rfl⟩ := List.mem_map.1 hp
      exact ih2 q hq
    have hdl : (plD v.d).length ≤ 1000000000000 :=
      Nat.le_trans (List.length_filter_le _ _) (Nat.le_trans (uniq_len _) (by simp [plP]; exact h2))
    have e0 : ∀ (k n g : Int) (s : List UInt8), Fit (V.mk k n g s [] []) := fun k n g s => .mk _ (by simp [V.l]) (by simp [V.d]) (by simp [V.l]) (by simp [V.d])
    have e6 : ∀ (k n g : Int) (s : List UInt8), Fit (V.mk k n g s [] ((uniq (plP v.d)).filter nul)) := fun k n g s => .mk _ (by simp [V.l]) hdl (by simp [V.l]) hd
    rw [plain_eq]
    unfold mkP
    split
    · exact e0 _ _ _ _
    split
    · exact e0 _ _ _ _
    split
    · refine .mk _ (by simpa [V.l] using h1) (by simp [V.d]) ?_ (by simp [V.d])
      intro x hx
      obtain ⟨y, hy, rfl⟩ := List.mem_map.1 (show x ∈ v.l.map V.plain from hx)
      exact ih1 y hy
    split
    · exact e6 _ _ _ _
    split
    · exact e0 _ _ _ _
    split
    · exact e6 _ _ _ _
    · exact e0 _ _ _ _
theorem fit_d {v : V} (h : Fit v) : ∀ p ∈ v.d, Fit p.2 := by cases h; assumption
theorem fit_ll {v : V} (h : Fit v) : v.l.length ≤ 1000000000000 := by cases h; assumption
theorem fit_int (n : Int) : Fit (intV n) := .mk _ (by simp [intV, V.l]) (by simp [intV, V.d]) (by simp [intV, V.l]) (by simp [intV, V.d])
theorem fit_zero : Fit zero := .mk _ (by simp [zero, V.l]) (by simp [zero, V.d]) (by simp [zero, V.l]) (by simp [zero, V.d])
theorem fit_list (l : List Int) (h : l.length ≤ 1000000000000) : Fit (listV l) := .mk _ (by simpa [listV, V.l] using h) (by simp [listV, V.d]) (fun x hx => by
  obtain ⟨n, _, rfl⟩ := List.mem_map.1 (show x ∈ l.map intV from hx)
  exact fit_int n) (by simp [listV, V.d])
theorem fit_dict (d : List Pr) (h : d.length ≤ 1000000000000) (hd : ∀ p ∈ d, Fit p.2) : Fit (dictV d) := .mk _ (by simp [dictV, V.l]) (by simpa [dictV, V.d] using h) (by simp [dictV, V.l]) hd
theorem getV_mem {v : V} {k : Ky} {x : V} (h : getV v k = some x) : ∃ p ∈ v.plain.d, p.2 = x ∧ p.1 = k := by
  unfold getV at h
  cases hf : fib pk k v.plain.d with
  | nil => rw [hf] at h; simp at h
  | cons p r =>
    rw [hf] at h
    have hm : p ∈ fib pk k v.plain.d := by rw [hf]; simp
    have := List.mem_filter.1 hm
    refine ⟨p, this.1, by simpa using h, by simpa using this.2⟩
theorem getV_fit {v : V} (hf : Fit v) (k : Ky) : Fit ((getV v k).getD zero) := by
  cases h : getV v k with
  | none => exact fit_zero
  | some x =>
    obtain ⟨p, hp, rfl, _⟩ := getV_mem h
    exact fit_d (fit_plain v hf) p hp
theorem fib_head (k : Ky) (l : List Pr) : (fib pk k l).take 1 = ((l.find? fun p => decide (p.1 = k)).toList) := by
  induction l with
  | nil => rfl
  | cons x l ih =>
    rw [fib_cons, List.find?_cons]
    by_cases h : x.1 = k
    · simp [h]
    · simp [h, ih]
/-- The value of a key: of the first such pair, made plain; none, if it is null. -/
theorem getV_dict (d : List Pr) (k : Ky) : getV (dictV d) k = match d.find? (fun p => decide (p.1 = k)) with | some p => if p.2.plain.k = 0 then none else some p.2.plain | none => none := by
  have hd : (dictV d).plain.d = plD d := by
    rw [plain_eq]; unfold mkP; rfl
  unfold getV
  rw [hd, plD_fib, fib_head, plP, List.find?_map]
  have : ((fun p : Pr => decide (p.1 = k)) ∘ fun p : Pr => (p.1, p.2.plain)) = fun p : Pr => decide (p.1 = k) := rfl
  rw [this]
  cases d.find? (fun p => decide (p.1 = k)) with
  | none => rfl
  | some p =>
    by_cases h : p.2.plain.k = 0
    · simp [nul, h]
    · simp [nul, h]
def intOK (most : Int) (x : V) : Bool := decide (x.k = 2 ∧ 0 ≤ x.n ∧ x.n ≤ most)
def intsX (v : V) (most : Int) : Option (List Int) := if v.k ≠ 5 then none else if v.l.all (intOK most) then some (v.l.map V.n) else none
def kW : Ky := [87]
def kIndex : Ky := [73, 110, 100, 101, 120]
def kSize : Ky := [83, 105, 122, 101]
def wInts (d : List Pr) : Option (List Int) := intsX ((getV (dictV d) kW).getD zero) 8
def widthsX (d : List Pr) : Option (List Int) := match wInts d with | some l => if l.length = 3 then some l else none | none => none
def wideX (d : List Pr) : Int := match widthsX d with | some l => l.getD 0 0 + l.getD 1 0 + l.getD 2 0 | none => 0
def spanV (d : List Pr) : V := match getV (dictV d) kIndex with | some v => v | none => .mk 5 0 0 [] [intV 0, (getV (dictV d) kSize).getD zero] []
def sInts (d : List Pr) : Option (List Int) := intsX (spanV d) 8388608
def spansX (d : List Pr) : Option (List Int) := match sInts d with | some l => if l.length % 2 = 0 then some l else none | none => none
theorem intsX_some {v : V} {most : Int} {l : List Int} (h : intsX v most = some l) : (∀ n ∈ l, 0 ≤ n ∧ n ≤ most) ∧ l.length = v.l.length := by
  unfold intsX at h
  split at h
  · cases h
  · split at h
    · rename_i ha
      have h := Option.some.inj h
      subst h
      refine ⟨fun n hn => ?_, by simp⟩
      obtain ⟨x, hx, rfl⟩ := List.mem_map.1 hn
      have := List.all_eq_true.1 ha x hx
      have := of_decide_eq_true this
      exact this.2
    · cases h
theorem intV_plain (n : Int) : (intV n).plain = intV n := by
  rw [plain_eq]; unfold mkP; rfl
theorem listV_plain (l : List Int) : (listV l).plain = listV l := by
  rw [plain_eq]
  have : (listV l).l.map V.plain = l.map intV := by
    show (l.map intV).map V.plain = _
    rw [List.map_map]
    exact List.map_congr_left fun n _ => intV_plain n
  rw [this]; unfold mkP; rfl
theorem intsX_list (l : List Int) (most : Int) (h : ∀ n ∈ l, 0 ≤ n ∧ n ≤ most) : intsX (listV l) most = some l := by
  unfold intsX
  have e : (listV l).l = l.map intV := rfl
  rw [if_neg (by simp [listV, V.k]), e, if_pos]
  · rw [List.map_map]
    exact congrArg some ((List.map_congr_left fun n _ => rfl).trans (List.map_id l))
  · rw [List.all_eq_true]
    intro x hx
    obtain ⟨n, hn, rfl⟩ := List.mem_map.1 hx
    exact decide_eq_true ⟨rfl, (h n hn).1, (h n hn).2⟩
end Go.Proofs.Sim.Se

import Derived.Test.YtcdjheflchglaaaDoorDgLM
import Derived.Test.YtcdjheflchglaaaDoorR4L
namespace Go.Proofs.Sim.Se
open Go
set_option linter.unusedVariables false
set_option linter.unusedSimpArgs false

def chkS : Int → List R4 → Int
  | _, [] => 0
  | last, x :: r => if x.n ≤ last then 15 else if 8388607 < x.n then 3 else if x.k ≠ 0 ∧ x.k ≠ 1 then 10
    else if x.a < 0 ∨ 67108864 < x.a ∨ x.g < 0 ∨ 65535 < x.g then 3 else chkS x.n r
structure OkR (x : R4) : Prop where
  n0 : 0 ≤ x.n
  n1 : x.n ≤ 8388607
  k : x.k = 0 ∨ x.k = 1
  a0 : 0 ≤ x.a
  a1 : x.a ≤ 67108864
  g0 : 0 ≤ x.g
  g1 : x.g ≤ 65535
theorem chk_ok (l : List R4) : ∀ last, -1 ≤ last → chkS last l = 0 → ∀ x ∈ l, OkR x := by
  induction l with
  | nil => intro last _ _ x hx; cases hx
  | cons y r ih =>
    intro last hl h x hx
    simp only [chkS] at h
    split at h
    · cases h
    · split at h
      · cases h
      · split at h
        · cases h
        · split at h
          · cases h
          · rename_i h1 h2 h3 h4
            rcases List.mem_cons.1 hx with rfl | hx
            · exact ⟨by omega, by omega, by omega, by omega, by omega, by omega, by omega⟩
            · exact ih y.n (by omega) h x hx
/-- How many rows go on from a number. -/
def lineS (x : R4) : List UInt8 := (padS x.a 10).1 ++ [32] ++ (padS x.g 5).1 ++ [32] ++ [if x.k = 1 then 110 else 102] ++ [32, 10]
def headS (n many : Int) : List UInt8 := Lib.itoa n ++ [32] ++ Lib.itoa many ++ [10]
def progP : Int → List R4 → List UInt8
  | _, [] => []
  | next, x :: r => (if x.n = next then [] else headS x.n ((run (x.n + 1) r + 1 : Nat) : Int)) ++ (lineS x ++ progP (x.n + 1) r)
def linesS : List R4 → List UInt8
  | [] => []
  | x :: r => lineS x ++ linesS r
def refP : Nat → List R4 → List UInt8
  | 0, _ => []
  | _ + 1, [] => []
  | m + 1, x :: r => headS x.n ((run (x.n + 1) r + 1 : Nat) : Int) ++ (linesS ((x :: r).take (run (x.n + 1) r + 1)) ++ refP m ((x :: r).drop (run (x.n + 1) r + 1)))
theorem progP_eq (l : List R4) : ∀ (m : Nat) (next : Int), l.length ≤ m → progP next l = linesS (l.take (run next l)) ++ refP m (l.drop (run next l)) := by
  induction l with
  | nil => intro m next _; cases m <;> rfl
  | cons x r ih =>
    intro m next hm
    cases m with
    | zero => simp at hm
    | succ m =>
      have hm' : r.length ≤ m := by simpa using hm
      rw [progP, run]
      by_cases h : x.n = next
      · rw [if_pos h, if_pos h, List.nil_append, ih (m + 1) (x.n + 1) (by omega), ← h]
        rw [List.take_succ_cons, List.drop_succ_cons, linesS, List.append_assoc]
      · rw [if_neg h, if_neg h, ih m (x.n + 1) hm']
        rw [List.take_zero, List.drop_zero, linesS, List.nil_append, refP, List.take_succ_cons, List.drop_succ_cons, linesS]
        simp only [List.append_assoc]
theorem run_neg (l : List R4) (h : ∀ x ∈ l, OkR x) : run (-1) l = 0 := by
  cases l with
  | nil => rfl
  | cons x r =>
    rw [run, if_neg]
    have := (h x (by simp)).n0
    omega
theorem progP_ref (l : List R4) (h : ∀ x ∈ l, OkR x) (m : Nat) (hm : l.length ≤ m) : progP (-1) l = refP m l := by
  rw [progP_eq l m (-1) hm, run_neg l h]; rfl
def wordX : List UInt8 := [120, 114, 101, 102, 10]
def printS (l : List R4) : List UInt8 × Int :=
  if chkS (-1) l ≠ 0 then ([], chkS (-1) l) else if l = [] then (wordX ++ [48, 32, 48, 10], 0) else (wordX ++ progP (-1) l, 0)
theorem pad_len (n w : Int) : ((padS n w).1.length : Int) ≤ if 0 ≤ w then w else 0 := by
  unfold padS
  split
  · simp; split <;> omega
  · split
    · simp; split <;> omega
    · rename_i h1 h2
      rw [if_pos (by omega)]
      simp; omega
theorem line_len (x : R4) : (lineS x).length ≤ 20 := by
  have h1 := pad_len x.a 10
  have h2 := pad_len x.g 5
  rw [if_pos (by omega)] at h1 h2
  simp [lineS]; omega
theorem head_len (n m : Int) (h0 : -9223372036854775808 ≤ n) (h1 : n ≤ 9223372036854775807) (h2 : -9223372036854775808 ≤ m) (h3 : m ≤ 9223372036854775807) : (headS n m).length ≤ 42 := by
  have := itoa_len n h0 h1
  have := itoa_len m h2 h3
  simp [headS]; omega
theorem progP_len (l : List R4) : ∀ next, l.length ≤ 1000000 → (∀ x ∈ l, OkR x) → (progP next l).length ≤ 62 * l.length := by
  induction l with
  | nil => intro next _ _; simp [progP]
  | cons x r ih =>
    intro next hl h
    have hx := h x (by simp)
    have h1 := ih (x.n + 1) (by simp at hl; omega) (fun y hy => h y (by simp [hy]))
    have h2 := line_len x
    have h3 := run_le r (x.n + 1)
    have hn0 := hx.n0
    have hn1 := hx.n1
    have hl' : r.length < 1000000 := by simp at hl; omega
    rw [progP]
    split
    · simp; omega
    · have := head_len x.n ((run (x.n + 1) r + 1 : Nat) : Int) (by omega) (by omega) (by omega) (by omega)
      simp at this ⊢; omega
end Go.Proofs.Sim.Se

namespace Go.Proofs.Sim.Se
open Go
set_option linter.unusedVariables false
set_option linter.unusedSimpArgs false
/-- A number up to a sign: it, the place behind, what is wrong. -/
def numS (s : List UInt8) (p : Nat) (en : Int) : Int × Nat × Int :=
  if s.drop p = [] then (0, p, 5)
  else if cntD (s.drop p) = 0 ∨ (1 < cntD (s.drop p) ∧ ((s.drop p).getD 0 0).toNat = 48) then (0, p, 4)
  else if cntD (s.drop p) = (s.drop p).length then (0, p, 5)
  else if (((s.drop p).getD (cntD (s.drop p)) 0).toNat : Int) ≠ en then (0, p, 4)
  else if (fixS ((s.drop p).take (cntD (s.drop p)))).2 ≠ 0 ∨ 8388607 < (fixS ((s.drop p).take (cntD (s.drop p)))).1 then (0, p + cntD (s.drop p) + 1, 3)
  else ((fixS ((s.drop p).take (cntD (s.drop p)))).1, p + cntD (s.drop p) + 1, 0)
def endedS (t : List UInt8) : Bool := t == [32, 10] || t == [32, 13] || t == [13, 10]
def okEnt (t : List UInt8) : Bool := decide (cntD (t.take 10) = 10) && decide ((t.getD 10 0).toNat = 32) && decide (cntD ((t.take 16).drop 11) = 5) && decide ((t.getD 16 0).toNat = 32) &&
  (decide ((t.getD 17 0).toNat = 110) || decide ((t.getD 17 0).toNat = 102)) && endedS (t.drop 18)
def entS (big : Int) (t : List UInt8) : Option (Int × Int × Int) :=
  if okEnt t then some (if (t.getD 17 0).toNat = 110 then 1 else 0, if (fixS (t.take 10)).2 ≠ 0 then big else (fixS (t.take 10)).1, (fixS ((t.take 16).drop 11)).1) else none
def piece (s : List UInt8) (p : Nat) : List UInt8 := (s.take (p + 20)).drop p
def entsS (big : Int) (s : List UInt8) : Nat → Int → Nat → Option (List R4)
  | _, _, 0 => some []
  | p, n, m + 1 => match entS big (piece s p) with
    | none => none
    | some e => (entsS big s (p + 20) (n + 1) m).map (⟨n, e.1, e.2.1, e.2.2⟩ :: ·)
def entsR (big : Int) (s : List UInt8) (p : Nat) (n : Int) (m : Nat) : Int × List R4 × Nat := match entsS big s p n m with
  | none => (4, [], p)
  | some l => (0, l, p + 20 * m)
def partS (big : Int) (s : List UInt8) (p : Nat) : Int × List R4 × Nat :=
  if (numS s p 32).2.2 ≠ 0 then ((numS s p 32).2.2, [], p)
  else if (numS s (numS s p 32).2.1 10).2.2 ≠ 0 then ((numS s (numS s p 32).2.1 10).2.2, [], p)
  else if (((s.length - (numS s (numS s p 32).2.1 10).2.1) / 20 : Nat) : Int) < (numS s (numS s p 32).2.1 10).1 then (5, [], p)
  else entsR big s (numS s (numS s p 32).2.1 10).2.1 (numS s p 32).1 (numS s (numS s p 32).2.1 10).1.toNat
def readGo (big : Int) (s : List UInt8) : Nat → Nat → List R4 → List R4 × Nat × Int
  | 0, _, _ => ([], 0, 99)
  | f + 1, p, acc => if (partS big s p).1 ≠ 0 then ([], 0, (partS big s p).1)
    else if 0 < cntD (s.drop (partS big s p).2.2) then readGo big s f (partS big s p).2.2 (acc ++ (partS big s p).2.1)
    else if chkS (-1) (acc ++ (partS big s p).2.1) ≠ 0 then ([], 0, chkS (-1) (acc ++ (partS big s p).2.1))
    else (acc ++ (partS big s p).2.1, (partS big s p).2.2, 0)
def readX (big : Int) (s : List UInt8) (p : Int) : List R4 × Int × Int :=
  if p < 0 ∨ (s.length : Int) < p then ([], 0, 2)
  else if (s.drop p.toNat).take 5 = wordX then ((readGo big s (s.length + 1) (p.toNat + 5) []).1, ((readGo big s (s.length + 1) (p.toNat + 5) []).2.1 : Int), (readGo big s (s.length + 1) (p.toNat + 5) []).2.2)
  else if (s.drop p.toNat).length < 5 ∧ s.drop p.toNat = wordX.take (s.drop p.toNat).length then ([], 0, 5) else ([], 0, 4)
theorem numS_ok (s : List UInt8) (p : Nat) (en : Int) (hp : p ≤ s.length) (h : (numS s p en).2.2 = 0) : p < (numS s p en).2.1 ∧ (numS s p en).2.1 ≤ s.length ∧ 0 ≤ (numS s p en).1 ∧ (numS s p en).1 ≤ 8388607 := by
  have hc := cntD_le (s.drop p)
  have hl : (s.drop p).length = s.length - p := List.length_drop
  revert h
  unfold numS
  split
  · intro h; cases h
  · split
    · intro h; cases h
    · split
      · intro h; cases h
      · split
        · intro h; cases h
        · split
          · intro h; cases h
          · rename_i h1 h2 h3 h4 h5
            intro _
            have := fixS_le ((s.drop p).take (cntD (s.drop p)))
            refine ⟨by simp only; omega, by simp only; omega, this.1, by simp only; omega⟩
theorem entsS_len (big : Int) (s : List UInt8) (m : Nat) : ∀ (p : Nat) (n : Int) (l : List R4), entsS big s p n m = some l → l.length = m := by
  induction m with
  | zero => intro p n l h; simp [entsS] at h; subst h; rfl
  | succ m ih =>
    intro p n l h
    rw [entsS] at h
    split at h
    · cases h
    · rename_i e _
      cases hx : entsS big s (p + 20) (n + 1) m with
      | none => rw [hx] at h; cases h
      | some l' =>
        rw [hx] at h
        simp at h
        subst h
        simp [ih _ _ _ hx]
theorem partS_ok (big : Int) (s : List UInt8) (p : Nat) (hp : p ≤ s.length) (h : (partS big s p).1 = 0) : p < (partS big s p).2.2 ∧ (partS big s p).2.2 ≤ s.length ∧ (partS big s p).2.1.length + p ≤ (partS big s p).2.2 := by
  revert h
  unfold partS
  split
  · rename_i h1; intro h; exact absurd h h1
  · rename_i h1
    have h1 : (numS s p 32).2.2 = 0 := Decidable.not_not.1 h1
    have n1 := numS_ok s p 32 hp h1
    generalize numS s p 32 = N1 at *
    split
    · rename_i h2; intro h; exact absurd h h2
    · rename_i h2
      have h2 : (numS s N1.2.1 10).2.2 = 0 := Decidable.not_not.1 h2
      have n2 := numS_ok s N1.2.1 10 (by omega) h2
      generalize numS s N1.2.1 10 = N2 at *
      split
      · intro h; cases h
      · rename_i h3
        unfold entsR
        cases hx : entsS big s N2.2.1 N1.1 N2.1.toNat with
        | none => intro h; cases h
        | some l =>
          intro _
          have := entsS_len _ _ _ _ _ _ hx
          refine ⟨by simp only; omega, by simp only; omega, by simp only; omega⟩
theorem cntD_app (d : List UInt8) (hd : ∀ c ∈ d, isDig c = true) (r : List UInt8) : cntD (d ++ r) = d.length + cntD r := by
  induction d with
  | nil => simp
  | cons c d ih =>
    have := ih fun x hx => hd x (by simp [hx])
    unfold cntD at *
    rw [List.cons_append, List.takeWhile_cons, if_pos (hd c (by simp))]
    simp [this]; omega
theorem cntD_stop (c : UInt8) (r : List UInt8) (h : isDig c = false) : cntD (c :: r) = 0 := by
  unfold cntD
  rw [List.takeWhile_cons, if_neg (by rw [h]; decide)]; rfl
theorem numS_dec (pre rest : List UInt8) (u : Nat) (c : UInt8) (hu : u ≤ 8388607) (hc : isDig c = false) : numS (pre ++ (Lib.decDigits u ++ c :: rest)) pre.length (c.toNat : Int) = ((u : Int), pre.length + (Lib.decDigits u).length + 1, 0) := by
  have hd := dec_dig u
  have h0 := dec_ne u
  have e1 : (pre ++ (Lib.decDigits u ++ c :: rest)).drop pre.length = Lib.decDigits u ++ c :: rest := by simp
  have e2 : cntD (Lib.decDigits u ++ c :: rest) = (Lib.decDigits u).length := by rw [cntD_app _ hd, cntD_stop c rest hc]; omega
  have e3 : (Lib.decDigits u ++ c :: rest).take (Lib.decDigits u).length = Lib.decDigits u := by simp
  have e4 : fixS (Lib.decDigits u) = ((u : Int), 0) := by rw [fixS_digits _ h0 hd, dval_dec, if_pos (by omega)]
  have e5 : (Lib.decDigits u ++ c :: rest).getD (Lib.decDigits u).length 0 = c := by simp [List.getD_eq_getElem?_getD]
  have hlen : 0 < (Lib.decDigits u).length := List.length_pos_iff.2 h0
  unfold numS
  rw [e1, e2, e3, e4, e5]
  rw [if_neg (by simp [h0]), if_neg, if_neg (by simp), if_neg (by simp), if_neg (by simp only; omega)]
  rintro (h | ⟨h, h'⟩)
  · omega
  · rcases Nat.eq_zero_or_pos u with hz | hz
    · subst hz; rw [Lib.decDigits_one (by omega)] at h; simp at h
    · cases hx : Lib.decDigits u with
      | nil => exact h0 hx
      | cons a b =>
        rw [hx] at h'
        exact dec_lead u hz a b hx h'
theorem padN (n w : Int) (hw0 : 1 ≤ w) (hw : w ≤ 20) (hn : 0 ≤ n) (hn1 : n ≤ 2147483647) (hl : ((Lib.itoa n).length : Int) ≤ w) : ((padS n w).1.length : Int) = w ∧ fixS (padS n w).1 = (n, 0) ∧ (cntD (padS n w).1 : Int) = w := by
  rcases pad_back n w (by omega) (by omega) with ⟨_, _, h⟩ | ⟨_, h1, h2, h3⟩
  · omega
  · exact ⟨h1, h2, h3⟩
theorem itoa_len_le (n : Int) (k : Nat) (h0 : 0 ≤ n) (h : n.toNat < 10 ^ (k + 1)) : (Lib.itoa n).length ≤ k + 1 := by
  unfold Lib.itoa
  rw [if_neg (by omega), Lib.decDigits_length]
  exact nDigits_le _ _ h
theorem line_len_ok (x : R4) (hx : OkR x) : (lineS x).length = 20 := by
  have ⟨_, _, hk, a0, a1, g0, g1⟩ := hx
  have h1 := (padN x.a 10 (by omega) (by omega) a0 (by omega) (by have := itoa_len_le x.a 9 a0 (by omega); omega)).1
  have h2 := (padN x.g 5 (by omega) (by omega) g0 (by omega) (by have := itoa_len_le x.g 4 g0 (by omega); omega)).1
  simp [lineS]; omega
theorem entS_line (big : Int) (x : R4) (hx : OkR x) : entS big (lineS x) = some (x.k, x.a, x.g) := by
  have ⟨_, _, hk, a0, a1, g0, g1⟩ := hx
  obtain ⟨l1, f1, c1⟩ := padN x.a 10 (by omega) (by omega) a0 (by omega) (by have := itoa_len_le x.a 9 a0 (by omega); omega)
  obtain ⟨l2, f2, c2⟩ := padN x.g 5 (by omega) (by omega) g0 (by omega) (by have := itoa_len_le x.g 4 g0 (by omega); omega)
  unfold lineS
  generalize (padS x.a 10).1 = pa at *
  generalize (padS x.g 5).1 = pg at *
  have l1 : pa.length = 10 := by omega
  have l2 : pg.length = 5 := by omega
  generalize hc : (if x.k = 1 then (110 : UInt8) else 102) = c
  have t10 : (pa ++ [32] ++ pg ++ [32] ++ [c] ++ [32, 10]).take 10 = pa := by simp [List.take_append, l1, l2]
  have t16 : ((pa ++ [32] ++ pg ++ [32] ++ [c] ++ [32, 10]).take 16).drop 11 = pg := by simp [List.take_append, List.drop_append, l1, l2]
  have t18 : (pa ++ [32] ++ pg ++ [32] ++ [c] ++ [32, 10]).drop 18 = [32, 10] := by
    have d1 : List.drop 18 pa = [] := List.drop_eq_nil_of_le (by omega)
    have d2 : List.drop 7 pg = [] := List.drop_eq_nil_of_le (by omega)
    simp [List.drop_append, l1, l2, d1, d2]
  have g10 : (pa ++ [32] ++ pg ++ [32] ++ [c] ++ [32, 10]).getD 10 0 = 32 := by simp [List.getD_eq_getElem?_getD, List.getElem?_append, l1, l2]
  have g16 : (pa ++ [32] ++ pg ++ [32] ++ [c] ++ [32, 10]).getD 16 0 = 32 := by simp [List.getD_eq_getElem?_getD, List.getElem?_append, l1, l2]
  have g17 : (pa ++ [32] ++ pg ++ [32] ++ [c] ++ [32, 10]).getD 17 0 = c := by simp [List.getD_eq_getElem?_getD, List.getElem?_append, l1, l2]
  have hok : okEnt (pa ++ [32] ++ pg ++ [32] ++ [c] ++ [32, 10]) = true := by
    unfold okEnt
    rw [t10, t16, t18, g10, g16, g17]
    have e1 : cntD pa = 10 := by omega
    have e2 : cntD pg = 5 := by omega
    have e3 : c.toNat = 110 ∨ c.toNat = 102 := by rw [← hc]; split <;> simp
    rw [e1, e2]
    rcases e3 with e3 | e3 <;> rw [e3] <;> decide
  unfold entS
  rw [if_pos hok, t10, t16, g17, f1, f2]
  simp only [ne_eq, not_true_eq_false, if_false]
  have : (if c.toNat = 110 then (1 : Int) else 0) = x.k := by
    rw [← hc]
    rcases hk with h | h <;> rw [h] <;> decide
  rw [this]
theorem piece_at (pre q rest : List UInt8) (hq : q.length = 20) : piece (pre ++ (q ++ rest)) pre.length = q := by
  unfold piece
  simp [List.take_append, List.drop_append, hq]
theorem ents_lines (big : Int) (rest : List UInt8) (l : List R4) : ∀ (pre : List UInt8) (n : Int), (∀ x ∈ l, OkR x) → run n l = l.length → entsS big (pre ++ (linesS l ++ rest)) pre.length n l.length = some l := by
  induction l with
  | nil => intro pre n _ _; rfl
  | cons x r ih =>
    intro pre n hok hr
    have hx := hok x (by simp)
    have hl := line_len_ok x hx
    rw [run] at hr
    have hn : x.n = n := Decidable.byContradiction fun h => by rw [if_neg h] at hr; simp at hr
    rw [if_pos hn] at hr
    have hr : run (n + 1) r = r.length := by simpa using hr
    rw [List.length_cons, entsS, linesS, List.append_assoc, piece_at pre _ _ hl, entS_line big x hx]
    have := ih (pre ++ lineS x) (n + 1) (fun y hy => hok y (by simp [hy])) hr
    rw [List.append_assoc, List.length_append, hl] at this
    simp only
    rw [this]
    simp only [Option.map_some]
    rw [← hn]
theorem linesS_len_ok (l : List R4) (h : ∀ x ∈ l, OkR x) : (linesS l).length = 20 * l.length := by
  induction l with
  | nil => rfl
  | cons x r ih =>
    have := ih fun y hy => h y (by simp [hy])
    have := line_len_ok x (h x (by simp))
    simp [linesS]; omega
theorem run_take (l : List R4) : ∀ n, run n (l.take (run n l)) = (l.take (run n l)).length := by
  induction l with
  | nil => intro n; rfl
  | cons x r ih =>
    intro n
    rw [run]
    split
    · rename_i h
      rw [List.take_succ_cons, run, if_pos h, ih]; simp
    · rfl
theorem head_split (n m : Nat) : headS (n : Int) (m : Int) = Lib.decDigits n ++ 32 :: (Lib.decDigits m ++ [10]) := by
  rw [headS, Lib.itoa_nonneg, Lib.itoa_nonneg]
  simp [List.append_assoc]
theorem part_head (big : Int) (pre rest : List UInt8) (l : List R4) (n : Nat) (hn : n ≤ 8388607) (hl : l.length ≤ 8388607) (hok : ∀ x ∈ l, OkR x) (hr : run n l = l.length) :
    partS big (pre ++ (headS (n : Int) (l.length : Int) ++ (linesS l ++ rest))) pre.length = (0, l, (pre ++ headS (n : Int) (l.length : Int) ++ linesS l).length) := by
  have e1 := numS_dec pre (Lib.decDigits l.length ++ 10 :: (linesS l ++ rest)) n 32 hn (by decide)
  have e2 := numS_dec (pre ++ (Lib.decDigits n ++ [32])) (linesS l ++ rest) l.length 10 hl (by decide)
  have s1 : pre ++ (headS (n : Int) (l.length : Int) ++ (linesS l ++ rest)) = pre ++ (Lib.decDigits n ++ 32 :: (Lib.decDigits l.length ++ 10 :: (linesS l ++ rest))) := by
    rw [head_split]; simp
  have s2 : pre ++ (headS (n : Int) (l.length : Int) ++ (linesS l ++ rest)) = pre ++ (Lib.decDigits n ++ [32]) ++ (Lib.decDigits l.length ++ 10 :: (linesS l ++ rest)) := by
    rw [head_split]; simp
  rw [← s1] at e1
  rw [← s2] at e2
  have p1 : pre.length + (Lib.decDigits n).length + 1 = (pre ++ (Lib.decDigits n ++ [32])).length := by simp; omega
  have p2 : (pre ++ (Lib.decDigits n ++ [32])).length + (Lib.decDigits l.length).length + 1 = (pre ++ headS (n : Int) (l.length : Int)).length := by rw [head_split]; simp; omega
  rw [p1] at e1
  rw [p2] at e2
  have hx := ents_lines big rest l (pre ++ headS (n : Int) (l.length : Int)) n hok hr
  rw [List.append_assoc] at hx
  have hll := linesS_len_ok l hok
  generalize pre ++ (headS (n : Int) (l.length : Int) ++ (linesS l ++ rest)) = s at *
  have hs : s.length = (pre ++ headS (n : Int) (l.length : Int)).length + ((linesS l).length + rest.length) := by
    rw [s2, head_split]; simp; omega
  have t32 : ((32 : UInt8).toNat : Int) = 32 := rfl
  have t10 : ((10 : UInt8).toNat : Int) = 10 := rfl
  rw [t32] at e1
  rw [t10] at e2
  unfold partS
  rw [e1]
  simp only
  rw [e2]
  simp only [ne_eq, not_true_eq_false, if_false, Int.toNat_natCast]
  rw [if_neg (by omega), entsR, hx]
  simp only [List.length_append]
  rw [hll]
theorem refP_len (l : List R4) : ∀ m, l.length ≤ m → l ≠ [] → (∀ x ∈ l, OkR x) → 0 < cntD (refP m l) := by
  intro m hm h0 hok
  cases l with
  | nil => exact absurd rfl h0
  | cons x r =>
    cases m with
    | zero => simp at hm
    | succ m =>
      have hx := (hok x (by simp))
      have hx0 := hx.n0
      obtain ⟨n, hn⟩ : ∃ n : Nat, x.n = n := ⟨x.n.toNat, by omega⟩
      rw [refP, hn, head_split, List.append_assoc, cntD_app _ (dec_dig n)]
      have := List.length_pos_iff.2 (dec_ne n)
      omega
theorem go_back (big : Int) (behind : List UInt8) (hb : cntD behind = 0) (m : Nat) : ∀ (l : List R4) (f : Nat) (pre : List UInt8) (acc : List R4), l.length ≤ m → l ≠ [] → l.length ≤ f → l.length ≤ 1000000 → (∀ x ∈ l, OkR x) → chkS (-1) (acc ++ l) = 0 →
    readGo big (pre ++ (refP m l ++ behind)) f pre.length acc = (acc ++ l, (pre ++ refP m l).length, 0) := by
  induction m with
  | zero => intro l f pre acc hm h0; exact absurd (List.eq_nil_of_length_eq_zero (by omega)) h0
  | succ m ih =>
    intro l f pre acc hm h0 hf hl hok hchk
    cases l with
    | nil => exact absurd rfl h0
    | cons x r =>
      cases f with
      | zero => simp at hf
      | succ f =>
        have hx := (hok x (by simp))
        have hx0 := hx.n0
        have hx1 := hx.n1
        obtain ⟨n, hn⟩ : ∃ n : Nat, x.n = n := ⟨x.n.toNat, by omega⟩
        have hrun := run_le r (x.n + 1)
        have hll : ((x :: r).take (run (x.n + 1) r + 1)).length = run (x.n + 1) r + 1 := by simp; omega
        have hrt : run n ((x :: r).take (run (x.n + 1) r + 1)) = ((x :: r).take (run (x.n + 1) r + 1)).length := by
          have := run_take (x :: r) n
          rw [run, if_pos hn, ← hn] at this
          rw [← hn]; exact this
        have hp := part_head big pre (refP m ((x :: r).drop (run (x.n + 1) r + 1)) ++ behind) ((x :: r).take (run (x.n + 1) r + 1)) n (by omega) (by simp at hl; omega)
          (fun y hy => hok y (List.mem_of_mem_take hy)) hrt
        rw [hll] at hp
        have es : pre ++ (refP (m + 1) (x :: r) ++ behind) = pre ++ (headS (n : Int) ((run (x.n + 1) r + 1 : Nat) : Int) ++ (linesS ((x :: r).take (run (x.n + 1) r + 1)) ++ (refP m ((x :: r).drop (run (x.n + 1) r + 1)) ++ behind))) := by
          rw [refP, ← hn]; simp only [List.append_assoc]
        have es2 : pre ++ refP (m + 1) (x :: r) = pre ++ headS (n : Int) ((run (x.n + 1) r + 1 : Nat) : Int) ++ linesS ((x :: r).take (run (x.n + 1) r + 1)) ++ refP m ((x :: r).drop (run (x.n + 1) r + 1)) := by
          rw [refP, ← hn]; simp only [List.append_assoc]
        rw [es, es2]
        generalize hR : run (x.n + 1) r + 1 = R at *
        generalize hH : headS (n : Int) (R : Int) = H at *
        rw [readGo, hp]
        simp only [ne_eq, not_true_eq_false, if_false]
        have hdrop : (pre ++ (H ++ (linesS ((x :: r).take R) ++ (refP m ((x :: r).drop R) ++ behind)))).drop (pre ++ H ++ linesS ((x :: r).take R)).length = refP m ((x :: r).drop R) ++ behind := by
          have : pre ++ (H ++ (linesS ((x :: r).take R) ++ (refP m ((x :: r).drop R) ++ behind))) = (pre ++ H ++ linesS ((x :: r).take R)) ++ (refP m ((x :: r).drop R) ++ behind) := by simp only [List.append_assoc]
          rw [this, List.drop_left]
        rw [hdrop]
        have hsp : acc ++ (x :: r) = acc ++ (x :: r).take R ++ (x :: r).drop R := by rw [List.append_assoc, List.take_append_drop]
        by_cases hd : (x :: r).drop R = []
        · have e0 : refP m ((x :: r).drop R) = [] := by rw [hd]; cases m <;> rfl
          rw [hd, List.append_nil] at hsp
          rw [e0, List.nil_append, hb, if_neg (by omega), ← hsp, hchk, if_neg (by simp), List.append_nil]
        · have hok' : ∀ y ∈ (x :: r).drop R, OkR y := fun y hy => hok y (List.mem_of_mem_drop hy)
          have hl1 : ((x :: r).drop R).length ≤ m := by rw [List.length_drop]; omega
          have hl2 : ((x :: r).drop R).length ≤ f := by rw [List.length_drop]; omega
          have hl3 : ((x :: r).drop R).length ≤ 1000000 := by rw [List.length_drop]; omega
          have hpos := refP_len _ m hl1 hd hok'
          have hpos' : 0 < cntD (refP m ((x :: r).drop R) ++ behind) := by
            have : cntD (refP m ((x :: r).drop R)) ≤ cntD (refP m ((x :: r).drop R) ++ behind) := by
              generalize refP m ((x :: r).drop R) = q
              clear hpos
              induction q with
              | nil => simp [cntD]
              | cons c q ihq =>
                unfold cntD at *
                rw [List.cons_append, List.takeWhile_cons, List.takeWhile_cons]
                split
                · simp; exact ihq
                · simp
            omega
          rw [if_pos hpos']
          have := ih ((x :: r).drop R) f (pre ++ H ++ linesS ((x :: r).take R)) (acc ++ (x :: r).take R) hl1 hd hl2 hl3 hok' (by rw [← hsp]; exact hchk)
          rw [← hsp] at this
          rw [← this]
          simp only [List.append_assoc]
theorem read_back (big : Int) (ahead behind : List UInt8) (hb : cntD behind = 0) (l : List R4) (hl : l.length ≤ 1000000) (h : chkS (-1) l = 0) :
    readX big (ahead ++ (printS l).1 ++ behind) ahead.length = (l, ((ahead.length + (printS l).1.length : Nat) : Int), 0) := by
  have hok := chk_ok l (-1) (by omega) h
  have hw : ∀ q : List UInt8, (ahead ++ (wordX ++ q) ++ behind).drop ahead.length = wordX ++ q ++ behind := by
    intro q; rw [List.append_assoc, List.drop_left]
  have hw5 : ∀ q : List UInt8, (wordX ++ q ++ behind).take 5 = wordX := by
    intro q; rw [List.append_assoc]; exact List.take_left' rfl
  unfold readX
  by_cases h0 : l = []
  · subst h0
    have e : printS [] = (wordX ++ [48, 32, 48, 10], 0) := rfl
    rw [e]
    simp only [Int.toNat_natCast]
    rw [if_neg (by simp; omega), if_pos (by rw [hw, hw5])]
    have hh : headS ((0 : Nat) : Int) (([] : List R4).length : Int) = [48, 32, 48, 10] := by
      rw [head_split]; rw [show ([] : List R4).length = 0 from rfl, Lib.decDigits_one (by omega)]; rfl
    have hp := part_head big (ahead ++ wordX) behind [] 0 (by omega) (by simp) (by simp) rfl
    rw [hh] at hp
    have es : ahead ++ (wordX ++ [48, 32, 48, 10]) ++ behind = ahead ++ wordX ++ ([48, 32, 48, 10] ++ (linesS [] ++ behind)) := by simp [linesS]
    rw [es]
    have hlen : (ahead ++ wordX).length = ahead.length + 5 := by simp [wordX]
    rw [hlen] at hp
    have hd : (ahead ++ wordX ++ ([48, 32, 48, 10] ++ (linesS [] ++ behind))).drop (ahead ++ wordX ++ [48, 32, 48, 10] ++ linesS []).length = behind := by
      have : ahead ++ wordX ++ ([48, 32, 48, 10] ++ (linesS [] ++ behind)) = (ahead ++ wordX ++ [48, 32, 48, 10] ++ linesS []) ++ behind := by simp only [List.append_assoc]
      rw [this, List.drop_left]
    rw [readGo, hp]
    simp only [ne_eq, not_true_eq_false, if_false]
    rw [hd, hb, if_neg (by omega), if_neg (by rw [List.append_nil, h]; decide)]
    simp [linesS, wordX]
  · have e : printS l = (wordX ++ progP (-1) l, 0) := by rw [printS, if_neg (by simp [h]), if_neg h0]
    rw [e]
    simp only [Int.toNat_natCast]
    rw [if_neg (by simp; omega), if_pos (by rw [hw, hw5])]
    rw [progP_ref l hok l.length (Nat.le_refl _)]
    have es : ahead ++ (wordX ++ refP l.length l) ++ behind = ahead ++ wordX ++ (refP l.length l ++ behind) := by simp only [List.append_assoc]
    rw [es]
    have hlen : (ahead ++ wordX).length = ahead.length + 5 := by simp [wordX]
    have hfu : l.length ≤ (ahead ++ wordX ++ (refP l.length l ++ behind)).length + 1 := by
      have : ∀ (m : Nat) (l : List R4), l.length ≤ m → (∀ x ∈ l, OkR x) → l.length ≤ (refP m l).length := by
        intro m
        induction m with
        | zero => intro l hl _; omega
        | succ m ih =>
          intro l hl hok
          cases l with
          | nil => simp
          | cons x r =>
            rw [refP]
            have h1 := ih ((x :: r).drop (run (x.n + 1) r + 1)) (by rw [List.length_drop]; omega) (fun y hy => hok y (List.mem_of_mem_drop hy))
            have h2 := linesS_len_ok ((x :: r).take (run (x.n + 1) r + 1)) (fun y hy => hok y (List.mem_of_mem_take hy))
            have h3 : ((x :: r).take (run (x.n + 1) r + 1)).length + ((x :: r).drop (run (x.n + 1) r + 1)).length = (x :: r).length := by
              rw [← List.length_append, List.take_append_drop]
            simp only [List.length_append]
            omega
      have := this l.length l (Nat.le_refl _) hok
      simp; omega
    have := go_back big behind hb l.length l _ (ahead ++ wordX) [] (Nat.le_refl _) h0 hfu hl hok h
    rw [hlen] at this
    rw [this]
    simp [wordX]
end Go.Proofs.Sim.Se

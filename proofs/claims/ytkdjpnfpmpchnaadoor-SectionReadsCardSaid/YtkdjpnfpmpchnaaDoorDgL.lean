import Derived.Lib.ItoaMem
import Derived.Lib.AtoiAll
import Derived.Lib.Repeat
import Derived.Lib.Bytealg
import GoSem.Op.String
namespace Go.Proofs.Sim.Se
open Go
set_option linter.unusedVariables false
set_option linter.unusedSimpArgs false

def isDig (c : UInt8) : Bool := decide (48 ≤ c.toNat) && decide (c.toNat ≤ 57)
def cntD (s : List UInt8) : Nat := (s.takeWhile isDig).length
theorem cntD_le (s : List UInt8) : cntD s ≤ s.length := by
  unfold cntD
  exact (List.takeWhile_prefix isDig).length_le
theorem isDig_iff (c : UInt8) : isDig c = true ↔ 48 ≤ c.toNat ∧ c.toNat ≤ 57 := by simp [isDig]
theorem cntD_all (s : List UInt8) : cntD s = s.length ↔ ∀ c ∈ s, isDig c = true := by
  induction s with
  | nil => simp [cntD]
  | cons a s ih =>
    unfold cntD at *
    rw [List.takeWhile_cons]
    split
    · rename_i h; simp [h, ih]
    · rename_i h; simp [h]
def fixV : Nat → List UInt8 → Option Nat
  | acc, [] => some acc
  | acc, c :: r => if 2147483647 < 10 * acc + (c.toNat - 48) then none else fixV (10 * acc + (c.toNat - 48)) r
def fixR : Option Nat → Int × Int
  | some v => ((v : Int), 0)
  | none => (0, 3)
def fixS (s : List UInt8) : Int × Int := if s = [] ∨ cntD s ≠ s.length then (0, 4) else fixR (fixV 0 s)
/-- The number that digits spell, behind another. -/
def dval (acc : Nat) (s : List UInt8) : Nat := s.foldl (fun a c => 10 * a + (c.toNat - 48)) acc
theorem dval_nil (acc : Nat) : dval acc [] = acc := by simp only [dval, List.foldl_nil]
theorem dval_cons (acc : Nat) (c : UInt8) (r : List UInt8) : dval acc (c :: r) = dval (10 * acc + (c.toNat - 48)) r := by simp only [dval, List.foldl_cons]
theorem dval_add (s : List UInt8) : ∀ acc, dval acc s = acc * 10 ^ s.length + dval 0 s := by
  induction s with
  | nil => intro acc; simp [dval_nil]
  | cons c r ih =>
    intro acc
    rw [dval_cons, ih, dval_cons, ih (10 * 0 + _), List.length_cons, Nat.pow_succ]
    rw [Nat.add_mul, Nat.add_mul]
    have : 10 * acc * 10 ^ r.length = acc * (10 ^ r.length * 10) := by
      rw [Nat.mul_comm 10 acc, Nat.mul_assoc, Nat.mul_comm 10]
    omega
theorem dval_ge (s : List UInt8) (acc : Nat) : acc ≤ dval acc s := by
  rw [dval_add]
  have : 1 ≤ 10 ^ s.length := Nat.one_le_pow _ _ (by decide)
  have := Nat.mul_le_mul_left acc this
  omega
theorem dval_lt (s : List UInt8) (hd : ∀ c ∈ s, isDig c = true) : dval 0 s < 10 ^ s.length := by
  induction s with
  | nil => simp [dval]
  | cons c r ih =>
    rw [dval_cons, dval_add, List.length_cons, Nat.pow_succ]
    have h1 := ih fun c hc => hd c (by simp [hc])
    have h2 := (isDig_iff c).1 (hd c (by simp))
    have : (10 * 0 + (c.toNat - 48)) * 10 ^ r.length ≤ 9 * 10 ^ r.length := Nat.mul_le_mul_right _ (by omega)
    omega
theorem fixV_eq (s : List UInt8) : ∀ acc, acc ≤ 2147483647 → fixV acc s = if dval acc s ≤ 2147483647 then some (dval acc s) else none := by
  induction s with
  | nil => intro acc h; simp [fixV, dval, h]
  | cons c r ih =>
    intro acc h
    rw [fixV, dval_cons]
    have := dval_ge r (10 * acc + (c.toNat - 48))
    split
    · rw [if_neg (by omega)]
    · rw [ih _ (by omega)]
theorem fixS_le (s : List UInt8) : 0 ≤ (fixS s).1 ∧ (fixS s).1 ≤ 2147483647 := by
  unfold fixS
  split
  · simp
  · rw [fixV_eq s 0 (by omega)]
    by_cases h : dval 0 s ≤ 2147483647
    · rw [if_pos h]; simp only [fixR]; omega
    · rw [if_neg h]; simp [fixR]
theorem fixS_digits (s : List UInt8) (h0 : s ≠ []) (hd : ∀ c ∈ s, isDig c = true) : fixS s = if dval 0 s ≤ 2147483647 then ((dval 0 s : Int), 0) else (0, 3) := by
  have := (cntD_all s).2 hd
  rw [fixS, if_neg (by rintro (h | h); exact h0 h; exact h this), fixV_eq s 0 (by omega)]
  by_cases h : dval 0 s ≤ 2147483647
  · rw [if_pos h, if_pos h]; rfl
  · rw [if_neg h, if_neg h]; rfl
/-! ### The numeral -/
theorem dval_append (a b : List UInt8) : ∀ acc, dval acc (a ++ b) = dval (dval acc a) b := by
  induction a with
  | nil => intro acc; rw [dval_nil]; rfl
  | cons c r ih => intro acc; rw [List.cons_append, dval_cons, dval_cons]; exact ih _
theorem ofNat_dig (d : Nat) (h : d < 10) : (UInt8.ofNat (48 + d)).toNat = 48 + d := by
  simp; omega
theorem dec_dig (u : Nat) : ∀ c ∈ Lib.decDigits u, isDig c = true := by
  induction u using Nat.strongRecOn with
  | _ u ih =>
    intro c hc
    rw [Lib.decDigits] at hc
    split at hc
    · rename_i h
      rw [List.mem_singleton] at hc
      subst hc
      rw [isDig_iff, ofNat_dig u h]; omega
    · rename_i h
      rw [List.mem_append] at hc
      rcases hc with hc | hc
      · exact ih (u / 10) (by omega) c hc
      · rw [List.mem_singleton] at hc
        subst hc
        rw [isDig_iff, ofNat_dig (u % 10) (by omega)]; omega
theorem dval_dec (u : Nat) : dval 0 (Lib.decDigits u) = u := by
  induction u using Nat.strongRecOn with
  | _ u ih =>
    rw [Lib.decDigits]
    split
    · rename_i h
      rw [dval_cons, dval_nil, ofNat_dig u h]; omega
    · rename_i h
      rw [dval_append, ih (u / 10) (by omega), dval_cons, dval_nil, ofNat_dig (u % 10) (by omega)]; omega
theorem dec_ne (u : Nat) : Lib.decDigits u ≠ [] := by
  intro h
  have := Lib.decDigits_length u
  have := Lib.nDigits_pos u
  rw [h] at *; simp at *; omega
theorem dec_lead (u : Nat) (h : 0 < u) : ∀ c r, Lib.decDigits u = c :: r → c.toNat ≠ 48 := by
  induction u using Nat.strongRecOn with
  | _ u ih =>
    intro c r e
    rw [Lib.decDigits] at e
    split at e
    · rename_i h10
      injection e with e _
      rw [← e, ofNat_dig u h10]; omega
    · rename_i h10
      cases hd : Lib.decDigits (u / 10) with
      | nil => exact absurd hd (dec_ne _)
      | cons a b =>
        rw [hd] at e
        injection e with e _
        subst e
        exact ih (u / 10) (by omega) (by omega) a b hd
/-- Digits with no nought ahead are the numeral of what they spell. -/
theorem dec_dval (s : List UInt8) (hd : ∀ c ∈ s, isDig c = true) : ∀ acc, 0 < acc → Lib.decDigits (dval acc s) = Lib.decDigits acc ++ s := by
  induction s with
  | nil => intro acc _; simp [dval]
  | cons c r ih =>
    intro acc ha
    have h2 := (isDig_iff c).1 (hd c (by simp))
    rw [dval_cons, ih (fun c hc => hd c (by simp [hc])) _ (by omega)]
    rw [Lib.decDigits, dif_neg (by omega)]
    have e1 : (10 * acc + (c.toNat - 48)) / 10 = acc := by omega
    have e2 : 48 + (10 * acc + (c.toNat - 48)) % 10 = c.toNat := by omega
    rw [e1, e2]
    have e3 : UInt8.ofNat c.toNat = c := by simp
    rw [e3]
    simp
theorem dec_of_lead (c : UInt8) (r : List UInt8) (hd : ∀ x ∈ c :: r, isDig x = true) (h : c.toNat ≠ 48) : Lib.decDigits (dval 0 (c :: r)) = c :: r := by
  have h2 := (isDig_iff c).1 (hd c (by simp))
  rw [dval_cons, dec_dval r (fun x hx => hd x (by simp [hx])) _ (by omega), Lib.decDigits, dif_pos (by omega)]
  have e2 : 48 + (10 * 0 + (c.toNat - 48)) = c.toNat := by omega
  rw [e2]
  have e3 : UInt8.ofNat c.toNat = c := by simp
  rw [e3]
  simp
/-! ### The order of digits of one length -/
theorem bytesLess_digits (a b : List UInt8) (ha : ∀ c ∈ a, isDig c = true) (hb : ∀ c ∈ b, isDig c = true) (hl : a.length = b.length) : Op.bytesLess a b = decide (dval 0 a < dval 0 b) := by
  induction a generalizing b with
  | nil =>
    cases b with
    | nil => rfl
    | cons y b => simp at hl
  | cons x a ih =>
    cases b with
    | nil => simp at hl
    | cons y b =>
      have hl' : a.length = b.length := by simpa using hl
      have hx := (isDig_iff x).1 (ha x (by simp))
      have hy := (isDig_iff y).1 (hb y (by simp))
      have ha' : ∀ c ∈ a, isDig c = true := fun c hc => ha c (by simp [hc])
      have hb' : ∀ c ∈ b, isDig c = true := fun c hc => hb c (by simp [hc])
      have la := dval_lt a ha'
      have lb := dval_lt b hb'
      rw [Op.bytesLess, ih b ha' hb' hl', dval_cons, dval_cons, dval_add a (10 * 0 + _), dval_add b (10 * 0 + _), hl']
      rw [hl'] at la
      generalize dval 0 a = va at *
      generalize dval 0 b = vb at *
      generalize 10 ^ b.length = p at *
      by_cases h : x = y
      · subst h
        simp
      · have hxy : x.toNat ≠ y.toNat := fun e => h (UInt8.toNat_inj.1 e)
        have e0 : (x == y) = false := by simpa using h
        rw [e0, Bool.false_and, Bool.or_false]
        by_cases hlt : x.toNat < y.toNat
        · have e1 : decide (x < y) = true := decide_eq_true (UInt8.lt_iff_toNat_lt.2 hlt)
          rw [e1]
          have : (10 * 0 + (x.toNat - 48)) * p + p ≤ (10 * 0 + (y.toNat - 48)) * p := by
            rw [← Nat.succ_mul]; exact Nat.mul_le_mul_right p (by omega)
          symm; apply decide_eq_true; omega
        · have e1 : decide (x < y) = false := decide_eq_false (fun h => hlt (UInt8.lt_iff_toNat_lt.1 h))
          rw [e1]
          have : (10 * 0 + (y.toNat - 48)) * p + p ≤ (10 * 0 + (x.toNat - 48)) * p := by
            rw [← Nat.succ_mul]; exact Nat.mul_le_mul_right p (by omega)
          symm; apply decide_eq_false; omega
theorem digits_inj (a b : List UInt8) (ha : ∀ c ∈ a, isDig c = true) (hb : ∀ c ∈ b, isDig c = true) (hl : a.length = b.length) (h : dval 0 a = dval 0 b) : a = b := by
  induction a generalizing b with
  | nil => cases b with
    | nil => rfl
    | cons y b => simp at hl
  | cons x a ih =>
    cases b with
    | nil => simp at hl
    | cons y b =>
      have hl' : a.length = b.length := by simpa using hl
      have hx := (isDig_iff x).1 (ha x (by simp))
      have hy := (isDig_iff y).1 (hb y (by simp))
      have ha' : ∀ c ∈ a, isDig c = true := fun c hc => ha c (by simp [hc])
      have hb' : ∀ c ∈ b, isDig c = true := fun c hc => hb c (by simp [hc])
      have la := dval_lt a ha'
      have lb := dval_lt b hb'
      rw [dval_cons, dval_cons, dval_add a (10 * 0 + _), dval_add b (10 * 0 + _), hl'] at h
      rw [hl'] at la
      have ih := ih b ha' hb' hl'
      generalize dval 0 a = va at *
      generalize dval 0 b = vb at *
      generalize 10 ^ b.length = p at *
      have hxy : x.toNat = y.toNat := by
        rcases Nat.lt_trichotomy x.toNat y.toNat with h1 | h1 | h1
        · have : (10 * 0 + (x.toNat - 48)) * p + p ≤ (10 * 0 + (y.toNat - 48)) * p := by
            rw [← Nat.succ_mul]; exact Nat.mul_le_mul_right p (by omega)
          omega
        · exact h1
        · have : (10 * 0 + (y.toNat - 48)) * p + p ≤ (10 * 0 + (x.toNat - 48)) * p := by
            rw [← Nat.succ_mul]; exact Nat.mul_le_mul_right p (by omega)
          omega
      rw [hxy] at h
      rw [UInt8.toNat_inj.1 hxy, ih (by omega)]
/-! ### strconv.Atoi of digits -/
theorem parse_digits (s : List UInt8) (hd : ∀ c ∈ s, isDig c = true) : ∀ acc n, acc < 10 ^ n → n + s.length ≤ 19 → Lib.parseUint10 acc s = .ok (dval acc s) := by
  induction s with
  | nil => intro acc n _ _; rfl
  | cons c r ih =>
    intro acc n ha hn
    have h2 := (isDig_iff c).1 (hd c (by simp))
    rw [List.length_cons] at hn
    have hp : 10 ^ n ≤ 10 ^ 18 := Nat.pow_le_pow_right (by decide) (by omega)
    rw [Lib.parseUint10, if_pos h2, if_neg (by omega), if_neg (by omega), show acc * 10 = 10 * acc from Nat.mul_comm _ _]
    exact ih (fun c hc => hd c (by simp [hc])) _ (n + 1) (by rw [Nat.pow_succ]; omega) (by omega)
theorem parseMag_digits (s : List UInt8) (h0 : s ≠ []) (hd : ∀ c ∈ s, isDig c = true) (hl : s.length ≤ 19) : Lib.parseMag s = .ok (dval 0 s) := by
  rw [Lib.parseMag, if_neg h0]
  exact parse_digits s hd 0 0 (by simp) (by omega)
def atoiP (s : List UInt8) : Int × Bool := match Lib.atoiAll s with
  | .ok v => (v, true)
  | Lib.NumEnd.syntax => (0, false)
  | .range => (Lib.atoiSat s, false)
/-! ### Read -/
def dropM (s : List UInt8) : List UInt8 := match s with | c :: r => if c.toNat = 45 then r else c :: r | [] => []
def isM (s : List UInt8) : Bool := match s with | c :: _ => decide (c.toNat = 45) | [] => false
def dropPM (s : List UInt8) : List UInt8 := match s with | c :: r => if c.toNat = 43 ∨ c.toNat = 45 then r else c :: r | [] => []
def looseS (s : List UInt8) : Int × Int := (if isM s then -(fixS (dropPM s)).1 else (fixS (dropPM s)).1, (fixS (dropPM s)).2)
def top0 : List UInt8 := [57, 50, 50, 51, 51, 55, 50, 48, 51, 54, 56, 53, 52, 55, 55, 53, 56, 48, 55]
def top1 : List UInt8 := [57, 50, 50, 51, 51, 55, 50, 48, 51, 54, 56, 53, 52, 55, 55, 53, 56, 48, 56]
def badR (s : List UInt8) : Bool := decide (dropM s = []) || decide (19 < (dropM s).length) || decide (cntD (dropM s) ≠ (dropM s).length)
def wholeS (s : List UInt8) : Int × Int :=
  if (dropM s).length = 19 ∧ ¬ (Op.bytesLess (dropM s) (if isM s then top1 else top0) || dropM s == (if isM s then top1 else top0)) = true then (0, 4) else looseS s
def readS (s : List UInt8) : Int × Int :=
  if badR s = true then (0, 4)
  else if ((dropM s).getD 0 0).toNat = 48 ∧ s ≠ [48] then (0, 4)
  else wholeS s
def readP (s : List UInt8) : Int × Int :=
  if badR s = true then (0, 4)
  else if (atoiP s).2 = false ∨ Lib.itoa (atoiP s).1 ≠ s then (0, 4)
  else if -2147483647 ≤ (atoiP s).1 ∧ (atoiP s).1 ≤ 2147483647 then ((atoiP s).1, 0) else (0, 3)
theorem more_iff (d t : List UInt8) (hd : ∀ c ∈ d, isDig c = true) (ht : ∀ c ∈ t, isDig c = true) (hl : d.length = t.length) : (¬ (Op.bytesLess d t || d == t) = true) ↔ dval 0 t < dval 0 d := by
  rw [bytesLess_digits d t hd ht hl]
  simp only [Bool.or_eq_true, decide_eq_true_eq, beq_iff_eq]
  constructor
  · intro h
    rcases Nat.lt_trichotomy (dval 0 d) (dval 0 t) with h1 | h1 | h1
    · exact absurd (.inl h1) h
    · exact absurd (.inr (digits_inj d t hd ht hl h1)) h
    · exact h1
  · rintro h (h1 | h1)
    · omega
    · subst h1; omega
theorem zeros (r : List UInt8) (c : UInt8) (hd : ∀ x ∈ c :: r, isDig x = true) (h : dval 0 (c :: r) = 0) : c.toNat = 48 := by
  have h2 := (isDig_iff c).1 (hd c (by simp))
  rw [dval_cons] at h
  have := dval_ge r (10 * 0 + (c.toNat - 48))
  omega
theorem readP_eq (s : List UInt8) : readP s = readS s := by
  unfold readP readS
  by_cases hb : badR s = true
  · rw [if_pos hb, if_pos hb]
  · rw [if_neg hb, if_neg hb]
    simp only [badR, Bool.or_eq_true, decide_eq_true_eq, not_or, ne_eq, Decidable.not_not] at hb
    obtain ⟨⟨h0, h19⟩, hall⟩ := hb
    have hd := (cntD_all _).1 hall
    have hmag := parseMag_digits _ h0 hd (by omega)
    cases s with
    | nil => exact absurd rfl h0
    | cons c r =>
      by_cases hc : c.toNat = 45
      · have e1 : dropM (c :: r) = r := by simp [dropM, hc]
        have e2 : isM (c :: r) = true := by simp [isM, hc]
        have e3 : dropPM (c :: r) = r := by simp [dropPM, hc]
        have ec : c = 45 := UInt8.toNat_inj.1 hc
        rw [e1] at h0 h19 hall hd hmag
        have hat : Lib.atoiAll (c :: r) = if 9223372036854775808 < dval 0 r then .range else .ok (-(dval 0 r : Int)) := by
          simp only [Lib.atoiAll, hc]
          simp [hmag]
        have htop : ∀ x ∈ top1, isDig x = true := by decide
        have hwh : wholeS (c :: r) = if 9223372036854775808 < dval 0 r then (0, 4) else looseS (c :: r) := by
          unfold wholeS
          rw [e1, e2, if_pos rfl]
          by_cases hl : r.length = 19
          · have := more_iff r top1 hd htop hl
            have e : dval 0 top1 = 9223372036854775808 := by decide
            rw [e] at this
            simp only [hl, this, true_and]
          · rw [if_neg (fun h => hl h.1), if_neg]
            have := dval_lt r hd
            have : 10 ^ r.length ≤ 10 ^ 18 := Nat.pow_le_pow_right (by decide) (by omega)
            omega
        cases r with
        | nil => exact absurd rfl h0
        | cons d r =>
          have hg : ((d :: r).getD 0 0).toNat = d.toNat := rfl
          have hne : (c :: d :: r) ≠ [48] := by simp
          rw [e1, hg, hwh]
          simp only [atoiP, hat]
          by_cases hbig : 9223372036854775808 < dval 0 (d :: r)
          · simp only [if_pos hbig, true_or, if_true]
            split <;> rfl
          · simp only [if_neg hbig]
            by_cases hz : d.toNat = 48
            · rw [if_pos (c := d.toNat = 48 ∧ _) ⟨hz, hne⟩, if_pos]
              right
              intro h
              by_cases hv : 1 ≤ dval 0 (d :: r)
              · rw [Lib.itoa_neg _ hv] at h
                injection h with _ h
                exact dec_lead _ (by omega) _ _ h hz
              · have hv : dval 0 (d :: r) = 0 := by omega
                rw [hv] at h
                have : Lib.itoa (-((0 : Nat) : Int)) = Lib.decDigits 0 := by simp [Lib.itoa]
                rw [this, Lib.decDigits_one (by omega)] at h
                simp at h
            · have hv : 1 ≤ dval 0 (d :: r) := by
                rcases Nat.eq_zero_or_pos (dval 0 (d :: r)) with h | h
                · exact absurd (zeros r d hd h) hz
                · exact h
              have hit : Lib.itoa (-(dval 0 (d :: r) : Int)) = c :: d :: r := by
                rw [Lib.itoa_neg _ hv, dec_of_lead d r hd hz, ec]
              rw [if_neg (c := d.toNat = 48 ∧ _) (fun h => hz h.1), if_neg (by rintro (h | h); cases h; exact h hit)]
              rw [looseS, e2, e3, fixS_digits _ h0 hd]
              by_cases hm : dval 0 (d :: r) ≤ 2147483647
              · rw [if_pos hm, if_pos (by omega)]; simp
              · rw [if_neg hm, if_neg (by omega)]; simp
      · have e1 : dropM (c :: r) = c :: r := by simp [dropM, hc]
        have e2 : isM (c :: r) = false := by simp [isM, hc]
        rw [e1] at h0 h19 hall hd hmag
        have hcd := (isDig_iff c).1 (hd c (by simp))
        have e3 : dropPM (c :: r) = c :: r := by
          simp only [dropPM]; rw [if_neg]; omega
        have hat : Lib.atoiAll (c :: r) = if 9223372036854775808 ≤ dval 0 (c :: r) then .range else .ok (dval 0 (c :: r) : Int) := by
          have h43 : ¬ (c.toNat = 43 ∨ c.toNat = 45) := by omega
          simp only [Lib.atoiAll, if_neg h43, hmag]
          simp [hc]
        have htop : ∀ x ∈ top0, isDig x = true := by decide
        have hwh : wholeS (c :: r) = if 9223372036854775808 ≤ dval 0 (c :: r) then (0, 4) else looseS (c :: r) := by
          unfold wholeS
          rw [e1, e2, if_neg (c := false = true) (by decide)]
          by_cases hl : (c :: r).length = 19
          · have := more_iff (c :: r) top0 hd htop hl
            have e : dval 0 top0 = 9223372036854775807 := by decide
            rw [e] at this
            simp only [hl, this, true_and]
            rfl
          · rw [if_neg (fun h => hl h.1), if_neg]
            have := dval_lt (c :: r) hd
            have : 10 ^ (c :: r).length ≤ 10 ^ 18 := Nat.pow_le_pow_right (by decide) (by omega)
            omega
        have hg : ((c :: r).getD 0 0).toNat = c.toNat := rfl
        rw [e1, hg, hwh]
        simp only [atoiP, hat]
        by_cases hbig : 9223372036854775808 ≤ dval 0 (c :: r)
        · simp only [if_pos hbig, true_or, if_true]
          split <;> rfl
        · simp only [if_neg hbig]
          rw [Lib.itoa_nonneg]
          by_cases hz : c.toNat = 48 ∧ (c :: r) ≠ [48]
          · rw [if_pos hz, if_pos]
            right
            intro h
            by_cases hv : 1 ≤ dval 0 (c :: r)
            · exact dec_lead _ (by omega) _ _ h hz.1
            · have hv : dval 0 (c :: r) = 0 := by omega
              rw [hv, Lib.decDigits_one (by omega)] at h
              exact hz.2 h.symm
          · rw [if_neg hz, if_neg]
            · rw [looseS, e2, e3, fixS_digits _ h0 hd]
              by_cases hm : dval 0 (c :: r) ≤ 2147483647
              · rw [if_pos hm, if_pos (by omega)]; simp
              · rw [if_neg hm, if_neg (by omega)]; simp
            · rintro (h | h)
              · cases h
              · by_cases h48 : c.toNat = 48
                · have : (c :: r) = [48] := Decidable.byContradiction fun hh => hz ⟨h48, hh⟩
                  rw [this] at h
                  exact h (by decide +kernel)
                · exact h (dec_of_lead c r hd h48)
end Go.Proofs.Sim.Se

import Derived.Test.YtcdjheflchglaaaDoorR4L
import Derived.Test.YtcdjheflchglaaaDoorCxV
set_option linter.unusedVariables false
set_option linter.unusedSimpArgs false
namespace Go.Proofs.Sim.Se
open Go Go.Proofs Go.Proofs.Sim Go.Proofs.Sim.Va Go.Proofs.Sim.St

def chkX : Int → List R4 → Int
  | _, [] => 0
  | last, x :: r => if x.n ≤ last then 15 else if 8388607 < x.n then 3 else if x.k ≠ 0 ∧ x.k ≠ 1 ∧ x.k ≠ 2 then 10
    else if x.a < 0 ∨ 67108864 < x.a ∨ x.g < 0 ∨ 65535 < x.g then 3 else chkX x.n r
structure OkX (x : R4) : Prop where
  n0 : 0 ≤ x.n
  n1 : x.n ≤ 8388607
  k : x.k = 0 ∨ x.k = 1 ∨ x.k = 2
  a0 : 0 ≤ x.a
  a1 : x.a ≤ 67108864
  g0 : 0 ≤ x.g
  g1 : x.g ≤ 65535
theorem chkX_ok (l : List R4) : ∀ last, -1 ≤ last → chkX last l = 0 → ∀ x ∈ l, OkX x := by
  induction l with
  | nil => intro last _ _ x hx; cases hx
  | cons y r ih =>
    intro last hl h x hx
    simp only [chkX] at h
    split at h
    · cases h
    · split at h
      · cases h
      · split at h
        · cases h
        · split at h
          · cases h
          · rename_i h1 h2 h3 h4
            rcases List.mem_cons.1 hx with rfl | hx
            · exact ⟨by omega, by omega, by omega, by omega, by omega, by omega, by omega⟩
            · exact ih y.n (by omega) h x hx
def pg : Int → Nat → List R4 → List Int
  | _, c, [] => [(c : Int)]
  | last, c, y :: r => if y.n = last + 1 then pg y.n (c + 1) r else (c : Int) :: y.n :: pg y.n 1 r
def partsX : List R4 → List Int
  | [] => []
  | x :: r => x.n :: pg x.n 1 r
theorem pg_len (r : List R4) : ∀ (last : Int) (c : Nat), (pg last c r).length ≤ 2 * r.length + 1 := by
  induction r with
  | nil => intro last c; simp [pg]
  | cons y r ih =>
    intro last c
    rw [pg]
    split
    · have := ih y.n (c + 1); simp; omega
    · have := ih y.n 1; simp; omega
theorem parts_len (l : List R4) : (partsX l).length ≤ 2 * l.length := by
  cases l with
  | nil => simp [partsX]
  | cons x r => have := pg_len r x.n 1; simp [partsX]; omega
def upto (a : Int) (c : Nat) : List Int := (List.range c).map fun k : Nat => a + (k : Int)
theorem upto_succ (a : Int) (c : Nat) : upto a (c + 1) = upto a c ++ [a + c] := by simp [upto, List.range_succ]
theorem upto_len (a : Int) (c : Nat) : (upto a c).length = c := by simp [upto]
def numX : List Int → List Int
  | a :: b :: r => upto a b.toNat ++ numX r
  | _ => []
def oddSum : List Int → Int
  | _ :: b :: r => b + oddSum r
  | _ => 0
theorem num_pg (r : List R4) : ∀ (a : Int) (c : Nat) (last : Int), last + 1 = a + c → numX (a :: pg last c r) = upto a c ++ r.map fun x => x.n := by
  induction r with
  | nil => intro a c last _; simp [pg, numX]
  | cons y r ih =>
    intro a c last hl
    rw [pg]
    by_cases h : y.n = last + 1
    · rw [if_pos h, ih a (c + 1) y.n (by omega), upto_succ, List.map_cons, h, hl]; simp
    · rw [if_neg h, numX, ih y.n 1 y.n (by simp)]
      simp [upto]
theorem num_parts (l : List R4) : numX (partsX l) = l.map fun x => x.n := by
  cases l with
  | nil => rfl
  | cons x r => rw [partsX, num_pg r x.n 1 x.n (by simp)]; simp [upto]
theorem sum_pg (r : List R4) : ∀ (a : Int) (c : Nat) (last : Int), oddSum (a :: pg last c r) = c + r.length := by
  induction r with
  | nil => intro a c last; simp [pg, oddSum]
  | cons y r ih =>
    intro a c last
    rw [pg]
    by_cases h : y.n = last + 1
    · rw [if_pos h, ih]; simp; omega
    · rw [if_neg h, oddSum, ih]; simp; omega
theorem sum_parts (l : List R4) : oddSum (partsX l) = l.length := by
  cases l with
  | nil => rfl
  | cons x r => rw [partsX, sum_pg]; simp; omega
theorem pg_even (r : List R4) : ∀ (last : Int) (c : Nat), (pg last c r).length % 2 = 1 := by
  induction r with
  | nil => intro last c; simp [pg]
  | cons y r ih =>
    intro last c
    rw [pg]
    split
    · exact ih _ _
    · have := ih y.n 1; simp; omega
theorem parts_even (l : List R4) : (partsX l).length % 2 = 0 := by
  cases l with
  | nil => rfl
  | cons x r => have := pg_even r x.n 1; simp [partsX]; omega
theorem pg_bound (r : List R4) : ∀ (last : Int) (c : Nat), ((c : Int) + r.length ≤ 8388608) → (∀ x ∈ r, OkX x) → ∀ n ∈ pg last c r, 0 ≤ n ∧ n ≤ 8388608 := by
  induction r with
  | nil => intro last c hc _ n hn; simp [pg] at hn; simp at hc; omega
  | cons y r ih =>
    intro last c hc hr n hn
    have hy := hr y (by simp)
    rw [pg] at hn
    simp at hc
    split at hn
    · exact ih y.n (c + 1) (by simp; omega) (fun x hx => hr x (by simp [hx])) n hn
    · rcases List.mem_cons.1 hn with rfl | hn
      · omega
      · rcases List.mem_cons.1 hn with rfl | hn
        · have := hy.n0; have := hy.n1; omega
        · exact ih y.n 1 (by simp; omega) (fun x hx => hr x (by simp [hx])) n hn
theorem parts_bound (l : List R4) (hl : l.length ≤ 1000000) (h : ∀ x ∈ l, OkX x) : ∀ n ∈ partsX l, 0 ≤ n ∧ n ≤ 8388608 := by
  cases l with
  | nil => intro n hn; simp [partsX] at hn
  | cons x r =>
    intro n hn
    have hx := h x (by simp)
    simp at hl
    rcases List.mem_cons.1 hn with rfl | hn
    · have := hx.n0; have := hx.n1; omega
    · exact pg_bound r x.n 1 (by simp; omega) (fun y hy => h y (by simp [hy])) n hn
def needL (l : List Nat) : Nat := l.foldl (fun w n => max w (nb n)) 0
def wA (l : List R4) : Nat := needL (l.map fun x => x.a.toNat)
def wG (l : List R4) : Nat := needL (l.map fun x => x.g.toNat)
def rowPs (wa wg : Nat) (x : R4) : List (Nat × Nat) := [(x.k.toNat, 1), (x.a.toNat, wa), (x.g.toNat, wg)]
def textX (wa wg : Nat) (l : List R4) : List UInt8 := l.flatMap fun x => rowB (rowPs wa wg x)
def encD (l : List R4) : List Pr := [(kIndex, listV (partsX l)), (kW, listV [1, (wA l : Int), (wG l : Int)])]
def encX (l : List R4) : List Pr × List UInt8 × Int := if chkX (-1) l ≠ 0 then ([], [], chkX (-1) l) else (encD l, textX (wA l) (wG l) l, 0)
def mkRow (w0 : Nat) (n : Int) (x : List Int) : R4 := ⟨n, if w0 = 0 then 1 else x.getD 0 0, x.getD 1 0, x.getD 2 0⟩
def rowsX (w : List Nat) : List Int → List UInt8 → List R4 × Int
  | [], _ => ([], 0)
  | n :: ns, s => if (cutX w (s.take w.sum)).2 ≠ 0 then ([], (cutX w (s.take w.sum)).2) else if (rowsX w ns (s.drop w.sum)).2 ≠ 0 then ([], (rowsX w ns (s.drop w.sum)).2)
    else (mkRow (w.getD 0 0) n (cutX w (s.take w.sum)).1 :: (rowsX w ns (s.drop w.sum)).1, 0)
def chkR (r : List R4 × Int) : List R4 × Int := if r.2 ≠ 0 then ([], r.2) else if chkX (-1) r.1 ≠ 0 then ([], chkX (-1) r.1) else (r.1, 0)
def natW (l : List Int) : List Nat := l.map Int.toNat
def decW (w l : List Int) (s : List UInt8) : List R4 × Int :=
  if (natW w).sum = 0 then ([], 11) else if oddSum l ≠ ((s.length / (natW w).sum : Nat) : Int) ∨ s.length % (natW w).sum ≠ 0 then ([], 4) else chkR (rowsX (natW w) (numX l) s)
def decX (d : List Pr) (s : List UInt8) : List R4 × Int := match widthsX d, spansX d with
  | some w, some l => decW w l s
  | _, _ => ([], 11)
theorem needL_mono (l : List Nat) : ∀ (a : Nat), a ≤ l.foldl (fun w n => max w (nb n)) a := by
  induction l with
  | nil => intro a; exact Nat.le_refl _
  | cons x l ih => intro a; exact Nat.le_trans (Nat.le_max_left _ _) (ih _)
theorem needL_ge (l : List Nat) : ∀ n ∈ l, nb n ≤ needL l := by
  unfold needL
  have : ∀ (l : List Nat) (a : Nat), ∀ n ∈ l, nb n ≤ l.foldl (fun w n => max w (nb n)) a := by
    intro l
    induction l with
    | nil => intro a n h; simp at h
    | cons x l ih =>
      intro a n h
      rcases List.mem_cons.1 h with rfl | h
      · exact Nat.le_trans (Nat.le_max_right _ _) (needL_mono l _)
      · exact ih _ n h
  exact this l 0
theorem needL_le (l : List Nat) (b : Nat) : (∀ n ∈ l, nb n ≤ b) → needL l ≤ b := by
  unfold needL
  have : ∀ (l : List Nat) (a : Nat), a ≤ b → (∀ n ∈ l, nb n ≤ b) → l.foldl (fun w n => max w (nb n)) a ≤ b := by
    intro l
    induction l with
    | nil => intro a h _; exact h
    | cons x l ih => intro a h hl; exact ih _ (Nat.max_le.2 ⟨h, hl x (by simp)⟩) fun n hn => hl n (by simp [hn])
  exact this l 0 (Nat.zero_le _)
theorem wA_le (l : List R4) (h : ∀ x ∈ l, OkX x) : wA l ≤ 4 := needL_le _ _ fun n hn => by
  obtain ⟨x, hx, rfl⟩ := List.mem_map.1 hn
  have hx := h x hx
  have := hx.a0
  have := hx.a1
  exact (nb_le 4 _).2 (by omega)
theorem wG_le (l : List R4) (h : ∀ x ∈ l, OkX x) : wG l ≤ 2 := needL_le _ _ fun n hn => by
  obtain ⟨x, hx, rfl⟩ := List.mem_map.1 hn
  have hx := h x hx
  have := hx.g0
  have := hx.g1
  exact (nb_le 2 _).2 (by omega)
theorem row_ok2 (l : List R4) (h : ∀ x ∈ l, OkX x) (x : R4) (hx : x ∈ l) : ∀ p ∈ rowPs (wA l) (wG l) x, p.1 < 9223372036854775808 ∧ p.2 ≤ 8 ∧ nb p.1 ≤ p.2 := by
  have ho := h x hx
  have ⟨_, _, hk, a0, a1, g0, g1⟩ := ho
  intro p hp
  simp only [rowPs, List.mem_cons, List.not_mem_nil, or_false] at hp
  have hA := wA_le l h
  have hG := wG_le l h
  rcases hp with rfl | rfl | rfl
  · exact ⟨by simp only; omega, by simp, (nb_le 1 _).2 (by simp only; omega)⟩
  · exact ⟨by simp only; omega, by simp only; omega, needL_ge _ _ (List.mem_map.2 ⟨x, hx, rfl⟩)⟩
  · exact ⟨by simp only; omega, by simp only; omega, needL_ge _ _ (List.mem_map.2 ⟨x, hx, rfl⟩)⟩
theorem row_len (wa wg : Nat) (x : R4) : (rowB (rowPs wa wg x)).length = 1 + wa + wg := by rw [rowB_len]; simp [rowPs]; omega
theorem text_len (wa wg : Nat) (l : List R4) : (textX wa wg l).length = l.length * (1 + wa + wg) := by
  induction l with
  | nil => simp [textX]
  | cons x r ih =>
    rw [show textX wa wg (x :: r) = rowB (rowPs wa wg x) ++ textX wa wg r from rfl, List.length_append, row_len, ih, List.length_cons, Nat.succ_mul]; omega
theorem rows_text (L : List R4) (hL : ∀ x ∈ L, OkX x) (l : List R4) (h : ∀ x ∈ l, x ∈ L) : rowsX [1, wA L, wG L] (l.map fun x => x.n) (textX (wA L) (wG L) l) = (l, 0) := by
  induction l with
  | nil => rfl
  | cons x r ih =>
    have ih := ih fun y hy => h y (by simp [hy])
    have hx := h x (by simp)
    have hs : [1, wA L, wG L].sum = 1 + wA L + wG L := by simp; omega
    have hlen := row_len (wA L) (wG L) x
    have e : textX (wA L) (wG L) (x :: r) = rowB (rowPs (wA L) (wG L) x) ++ textX (wA L) (wG L) r := rfl
    have t : (textX (wA L) (wG L) (x :: r)).take [1, wA L, wG L].sum = rowB (rowPs (wA L) (wG L) x) := by
      rw [e, hs, List.take_append_of_le_length (by omega), List.take_of_length_le (by omega)]
    have dr : (textX (wA L) (wG L) (x :: r)).drop [1, wA L, wG L].sum = textX (wA L) (wG L) r := by
      rw [e, hs, List.drop_append_of_le_length (by omega), List.drop_of_length_le (by omega), List.nil_append]
    have hc := cut_row (rowPs (wA L) (wG L) x) fun p hp => by
      obtain ⟨a1, a2, a3⟩ := row_ok2 L hL x hx p hp
      exact ⟨a2, (nb_le _ _).1 a3, a1⟩
    have hc : cutX [1, wA L, wG L] (rowB (rowPs (wA L) (wG L) x)) = ([(x.k.toNat : Int), (x.a.toNat : Int), (x.g.toNat : Int)], 0) := hc
    rw [List.map_cons, rowsX, t, dr, hc, ih]
    have ⟨_, _, hk, a0, a1, g0, g1⟩ := hL x hx
    have hm : mkRow ([1, wA L, wG L].getD 0 0) x.n [(x.k.toNat : Int), (x.a.toNat : Int), (x.g.toNat : Int)] = x := by
      simp only [mkRow, List.getD_cons_zero, List.getD_cons_succ]
      rw [if_neg (by decide), Int.toNat_of_nonneg (by omega), Int.toNat_of_nonneg a0, Int.toNat_of_nonneg g0]
    rw [if_neg (by simp), if_neg (by simp)]
    show (mkRow ([1, wA L, wG L].getD 0 0) x.n [(x.k.toNat : Int), (x.a.toNat : Int), (x.g.toNat : Int)] :: r, (0 : Int)) = _
    rw [hm]
theorem enc_widths (l : List R4) (h : ∀ x ∈ l, OkX x) : widthsX (encD l) = some [1, (wA l : Int), (wG l : Int)] := by
  have hA := wA_le l h
  have hG := wG_le l h
  have hg : getV (dictV (encD l)) kW = some (listV [1, (wA l : Int), (wG l : Int)]) := by
    rw [getV_dict, encD, List.find?_cons, decide_eq_false (show ¬ kIndex = kW by decide), List.find?_cons, decide_eq_true rfl]
    simp only [listV_plain]
    rw [if_neg (by simp [listV, V.k])]
  have hi : wInts (encD l) = some [1, (wA l : Int), (wG l : Int)] := by
    rw [wInts, hg]
    refine intsX_list _ _ fun n hn => ?_
    simp only [List.mem_cons, List.not_mem_nil, or_false] at hn
    rcases hn with rfl | rfl | rfl <;> omega
  rw [widthsX, hi]; rfl
theorem enc_spans (l : List R4) (hl : l.length ≤ 1000000) (h : ∀ x ∈ l, OkX x) : spansX (encD l) = some (partsX l) := by
  have hg : getV (dictV (encD l)) kIndex = some (listV (partsX l)) := by
    rw [getV_dict, encD, List.find?_cons, decide_eq_true rfl]
    simp only [listV_plain]
    rw [if_neg (by simp [listV, V.k])]
  have hi : sInts (encD l) = some (partsX l) := by
    rw [sInts, spanV, hg]
    exact intsX_list _ _ (parts_bound l hl h)
  rw [spansX, hi]
  simp only
  rw [if_pos (parts_even l)]
theorem enc_wide (l : List R4) (h : ∀ x ∈ l, OkX x) : wideX (encD l) = 1 + (wA l : Int) + (wG l : Int) := by
  rw [wideX, enc_widths l h]; rfl
theorem dec_enc (l : List R4) (hl : l.length ≤ 1000000) (hc : chkX (-1) l = 0) : decX (encD l) (textX (wA l) (wG l) l) = (l, 0) := by
  have h := chkX_ok l (-1) (by omega) hc
  rw [decX, enc_widths l h, enc_spans l hl h]
  have hn : natW [1, (wA l : Int), (wG l : Int)] = [1, wA l, wG l] := by simp [natW]
  have hs : [1, wA l, wG l].sum = 1 + wA l + wG l := by simp; omega
  have htl := text_len (wA l) (wG l) l
  show decW [1, (wA l : Int), (wG l : Int)] (partsX l) _ = _
  rw [decW, hn, hs, if_neg (by omega), htl, Nat.mul_div_cancel _ (by omega), Nat.mul_mod_left, sum_parts, if_neg (by simp), num_parts, rows_text l h l fun x hx => hx]
  simp [chkR, hc]
end Go.Proofs.Sim.Se

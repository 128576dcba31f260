import Derived.Test.YtcdjheflchglaaaPaD
import Derived.Test.YtcdjheflchglaaaVaA
namespace Go.Proofs.Sim.Pa
open Go Go.Proofs Go.Proofs.Sim Go.Proofs.Sim.Va Go.Proofs.Sim.Se

theorem nameL_fin : ∀ (m : Nat) (l out : List UInt8) (a : Nat), l.length ≤ m → (nameL l out a).2.2 = 0 → a ≤ (nameL l out a).2.1 ∧ (nameL l out a).2.1 ≤ a + l.length := by
  intro m
  induction m with
  | zero =>
    intro l out a hl _
    have : l = [] := List.length_eq_zero_iff.1 (by omega)
    subst this
    exact ⟨Nat.le_refl _, Nat.le_refl _⟩
  | succ m ih =>
    intro l out a hl h
    rcases l with _ | ⟨c, r⟩
    · exact ⟨Nat.le_refl _, Nat.le_refl _⟩
    · rw [nameL.eq_def] at h ⊢
      simp only at h ⊢
      split at h
      · rename_i hk
        rw [if_pos hk]
        split at h
        · rename_i h35
          rw [if_pos h35]
          rcases r with _ | ⟨x, _ | ⟨y, r⟩⟩
          · cases h
          · cases h
          · simp only at h ⊢
            split at h
            · cases h
            · rename_i h1
              rw [if_neg h1]
              split at h
              · cases h
              · rename_i h2
                rw [if_neg h2]
                simp only [List.length_cons] at hl ⊢
                have := ih r _ (a + 3) (by omega) h
                omega
        · rename_i h35
          rw [if_neg h35]
          split at h
          · cases h
          · rename_i h2
            rw [if_neg h2]
            simp only [List.length_cons] at hl ⊢
            have := ih r _ (a + 1) (by omega) h
            omega
      · rename_i hk
        rw [if_neg hk]
        simp only; omega
theorem textL_fin : ∀ (m : Nat) (l out : List UInt8) (d : Int) (a : Nat), (textL m l out d a).2.2 = 0 → a ≤ (textL m l out d a).2.1 ∧ (textL m l out d a).2.1 ≤ a + l.length := by
  intro m
  induction m with
  | zero => intro l out d a h; cases h
  | succ m ih =>
    intro l out d a h
    rcases l with _ | ⟨c, r⟩
    · cases h
    · rw [textL] at h ⊢
      have he := eol_le (c :: r)
      split at h
      · rename_i h1
        rw [if_pos h1]
        have := ih _ _ _ _ h
        rw [List.length_drop] at this
        omega
      · rename_i h1
        rw [if_neg h1]
        split at h
        · rename_i h92
          rw [if_pos h92]
          split at h
          · cases h
          · rename_i t k hesc
            have hk := esc_le hesc
            have := ih _ _ _ _ h
            rw [List.length_drop] at this
            simp only [List.length_cons]
            omega
        · rename_i h92
          rw [if_neg h92]
          simp only [List.length_cons]
          split at h
          · rename_i h40
            rw [if_pos h40]
            have := ih _ _ _ _ h
            omega
          · rename_i h40
            rw [if_neg h40]
            split at h
            · rename_i h41
              rw [if_pos h41]
              split at h
              · rename_i h1
                rw [if_pos h1]
                simp only; omega
              · rename_i h1
                rw [if_neg h1]
                have := ih _ _ _ _ h
                omega
            · rename_i h41
              rw [if_neg h41]
              have := ih _ _ _ _ h
              omega
theorem hexL_fin : ∀ (l : List UInt8) (half : Int) (out : List UInt8) (a : Nat), (hexL l half out a).2.2 = 0 → a ≤ (hexL l half out a).2.1 ∧ (hexL l half out a).2.1 ≤ a + l.length := by
  intro l
  induction l with
  | nil => intro half out a h; cases h
  | cons c r ih =>
    intro half out a h
    rw [hexL] at h ⊢
    simp only [List.length_cons]
    split at h
    · rename_i h1
      rw [if_pos h1]
      split <;> simp only <;> omega
    · rename_i h1
      rw [if_neg h1]
      split at h
      · rename_i h2
        rw [if_pos h2]
        split at h
        · rename_i h3
          rw [if_pos h3]
          have := ih _ _ _ h
          omega
        · cases h
      · rename_i h2
        rw [if_neg h2]
        split at h
        · rename_i h3
          rw [if_pos h3]
          have := ih _ _ _ h
          omega
        · rename_i h3
          rw [if_neg h3]
          have := ih _ _ _ h
          omega
theorem part_fin (k : Int) (p lo hi : Nat) (x : Part) (hx : x.2.2 = 0 → lo ≤ x.2.1 ∧ x.2.1 ≤ hi) (h : (partT k p x).e = 0) : lo ≤ (partT k p x).b ∧ (partT k p x).b ≤ hi := by
  unfold partT at h ⊢
  split
  · rename_i h0; exact hx h0
  · rename_i h0; rw [if_neg h0] at h; exact absurd h h0
theorem word_fin (l : List UInt8) (p : Nat) (h : (wordT l p).e = 0) : (wordT l p).b = p + spanL 2 l := by
  unfold wordT at h ⊢
  split
  · rfl
  · rename_i h1
    rw [if_neg h1] at h
    split
    · rename_i h2; rw [if_pos h2] at h; cases h
    · rename_i h2
      rw [if_neg h2] at h
      split
      · rename_i h3; rw [if_pos h3] at h; cases h
      · rfl
theorem tok_fin (c : UInt8) (r : List UInt8) (p : Nat) (hc : kd c ≠ 0) (h : (tokL c r p).e = 0) : p + 1 ≤ (tokL c r p).b ∧ (tokL c r p).b ≤ p + 1 + r.length := by
  unfold tokL at h ⊢
  have hd : ∀ x, r.head? = some x → 1 ≤ r.length := by
    intro x hx
    rcases r with _ | ⟨y, r⟩
    · cases hx
    · simp
  split
  · exact ⟨Nat.le_refl _, by simp⟩
  rename_i h1
  rw [if_neg h1] at h
  split
  · exact ⟨Nat.le_refl _, by simp⟩
  rename_i h2
  rw [if_neg h2] at h
  split
  · rename_i h3
    rw [if_pos h3] at h
    exact part_fin _ _ _ _ _ (fun hx => nameL_fin r.length r [] (p + 1) (Nat.le_refl _) hx) h
  rename_i h3
  rw [if_neg h3] at h
  split
  · rename_i h4
    rw [if_pos h4] at h
    exact part_fin _ _ _ _ _ (fun hx => textL_fin _ r [] 1 (p + 1) hx) h
  rename_i h4
  rw [if_neg h4] at h
  split
  · rename_i h5
    rw [if_pos h5] at h
    split
    · rename_i h6; have := hd _ h6; simp only; omega
    · rename_i h6
      rw [if_neg h6] at h
      exact part_fin _ _ _ _ _ (fun hx => hexL_fin r (-1) [] (p + 1) hx) h
  rename_i h5
  rw [if_neg h5] at h
  split
  · rename_i h6
    rw [if_pos h6] at h
    split
    · rename_i h7; have := hd _ h7; simp only; omega
    · rename_i h7; rw [if_neg h7] at h; cases h
  rename_i h6
  rw [if_neg h6] at h
  split
  · rename_i h7; rw [if_pos h7] at h; cases h
  · rename_i h7
    rw [if_neg h7] at h
    rw [word_fin _ _ h]
    have h8 := span_le 2 (c :: r)
    have h9 : spanL 2 (c :: r) = spanL 2 r + 1 := by
      rw [spanL, if_pos]
      have three : kd c = 0 ∨ kd c = 1 ∨ kd c = 2 := by
        unfold kd kindB
        split
        · exact .inl rfl
        · split
          · exact .inr (.inl rfl)
          · exact .inr (.inr rfl)
      rcases three with h | h | h
      · exact absurd h hc
      · exact absurd h h7
      · exact h
    simp only [List.length_cons] at h8
    omega
theorem skip_no0 : ∀ (b : Bool) (l : List UInt8) (c : UInt8) (r : List UInt8), l.drop (skipL b l) = c :: r → kd c ≠ 0
  | _, [], c, r, h => by simp [skipL] at h
  | b, x :: l, c, r, h => by
    rw [skipL] at h
    by_cases hx : noteL b x = false ∧ kd x ≠ 0
    · rw [if_pos hx, List.drop_zero] at h
      injection h with h1 h2
      subst h1
      exact hx.2
    · rw [if_neg hx, List.drop_succ_cons] at h
      exact skip_no0 _ l c r h
theorem skipP_ge (s : List UInt8) (a : Int) : plc s a ≤ skipP s a := by unfold skipP; omega
theorem plc_nat (s : List UInt8) (a : Nat) (h : a ≤ s.length) : plc s (a : Int) = a := by
  unfold plc; rw [if_neg (by omega), if_neg (by omega)]; omega
theorem plc_plc (s : List UInt8) (a : Int) : plc s ((plc s a : Nat) : Int) = plc s a := plc_nat s _ (plc_le s a)
theorem next_plc (s : List UInt8) (a : Int) : nextL s ((plc s a : Nat) : Int) = nextL s a := by
  unfold nextL skipP; rw [plc_plc]
/-- Where a token ends. -/
theorem next_fin (s : List UInt8) (a : Int) (h : (nextL s a).e = 0) : plc s a ≤ (nextL s a).b ∧ (nextL s a).b ≤ s.length ∧ ((nextL s a).k ≠ 0 → plc s a < (nextL s a).b) := by
  have h1 := skipP_ge s a
  have h2 := skipP_le s a
  by_cases hp : skipP s a < s.length
  · rw [next_tok s a hp] at h ⊢
    have hc : kd s[skipP s a] ≠ 0 := by
      refine skip_no0 false (s.drop (plc s a)) _ (s.drop (skipP s a + 1)) ?_
      rw [List.drop_drop]
      exact dropC s _ hp
    have := tok_fin s[skipP s a] (s.drop (skipP s a + 1)) (skipP s a) hc h
    rw [List.length_drop] at this
    omega
  · rw [next_end s a hp] at h ⊢
    exact ⟨h1, h2, fun h => absurd rfl h⟩
theorem next_finN (s : List UInt8) (a : Nat) (ha : a ≤ s.length) (h : (nextL s a).e = 0) : a ≤ (nextL s a).b ∧ (nextL s a).b ≤ s.length ∧ ((nextL s a).k ≠ 0 → a < (nextL s a).b) := by
  have := next_fin s a h
  rwa [plc_nat s a ha] at this
theorem link_fin (s : List UInt8) (b : Nat) (hb : b ≤ s.length) {g : Int} {c : Nat} (h : linkL s b = some (g, c)) : b < c ∧ c ≤ s.length := by
  unfold linkL at h
  split at h
  · rename_i h1
    split at h
    · rename_i h2
      injection h with h; injection h with _ h
      subst h
      have f1 := next_finN s b hb h1.1
      have f2 := next_finN s _ f1.2.1 h2.1
      have := f1.2.2 (by rw [h1.2]; decide)
      exact ⟨by omega, f2.2.1⟩
    · cases h
  · cases h
theorem num_fin (s : List UInt8) (n : Int) (b : Nat) (hb : b ≤ s.length) (h : (numL s n b).2.2 = 0) : b ≤ (numL s n b).2.1 ∧ (numL s n b).2.1 ≤ s.length := by
  unfold numL at h ⊢
  split
  · exact ⟨Nat.le_refl _, hb⟩
  · rename_i g c hl
    rw [hl] at h
    simp only at h
    split
    · rename_i h1; rw [if_pos h1] at h; cases h
    · have := link_fin s b hb hl
      simp only; omega
theorem wordV_fin (w : List UInt8) (b : Nat) (h : (wordV w b).2.2 = 0) : (wordV w b).2.1 = b := by
  unfold wordV at h ⊢
  split
  · rfl
  · rename_i h1
    rw [if_neg h1] at h
    split
    · rfl
    · rename_i h2
      rw [if_neg h2] at h
      split
      · rfl
      · rename_i h3; rw [if_neg h3] at h; cases h
/-- How much of a text a value takes, and how many values it has. -/
def RdFin (s : List UInt8) (a : Nat) (x : V × Nat × Int) : Prop := x.2.2 = 0 → a < x.2.1 ∧ x.2.1 ≤ s.length
theorem list_fin (s : List UInt8) (rd : Nat → V × Nat × Int) (hrd : ∀ a, a ≤ s.length → RdFin s a (rd a)) : ∀ (m a : Nat) (acc : List V), a ≤ s.length → RdFin s a (listL s rd m a acc) := by
  intro m
  induction m with
  | zero => intro a acc ha h; cases h
  | succ m ih =>
    intro a acc ha h
    rw [listL] at h ⊢
    split at h
    · rename_i h1; exact absurd h h1
    · rename_i h1
      rw [if_neg h1]
      have f := next_finN s a ha (Classical.not_not.1 h1)
      split at h
      · rename_i h2
        rw [if_pos h2]
        exact ⟨f.2.2 (by rw [h2]; decide), f.2.1⟩
      · rename_i h2
        rw [if_neg h2]
        split at h
        · rename_i h3; exact absurd h h3
        · rename_i h3
          rw [if_neg h3]
          have hr := hrd a ha (Classical.not_not.1 h3)
          have := ih _ _ hr.2 h
          exact ⟨by omega, this.2⟩
theorem dict_fin (s : List UInt8) (rd : Nat → V × Nat × Int) (hrd : ∀ a, a ≤ s.length → RdFin s a (rd a)) : ∀ (m a : Nat) (acc : List Pr), a ≤ s.length → RdFin s a (dictL s rd m a acc) := by
  intro m
  induction m with
  | zero => intro a acc ha h; cases h
  | succ m ih =>
    intro a acc ha h
    rw [dictL] at h ⊢
    split at h
    · rename_i h1; exact absurd h h1
    rename_i h1
    rw [if_neg h1]
    have f := next_finN s a ha (Classical.not_not.1 h1)
    split at h
    · rename_i h2
      rw [if_pos h2]
      exact ⟨f.2.2 (by rw [h2]; decide), f.2.1⟩
    rename_i h2
    rw [if_neg h2]
    split at h
    · cases h
    rename_i h3
    rw [if_neg h3]
    split at h
    · cases h
    rename_i h4
    rw [if_neg h4]
    split at h
    · cases h
    rename_i h5
    rw [if_neg h5]
    split at h
    · rename_i h6; exact absurd h h6
    · rename_i h6
      rw [if_neg h6]
      have hr := hrd _ f.2.1 (Classical.not_not.1 h6)
      have := ih _ _ hr.2 h
      exact ⟨by omega, this.2⟩
theorem read_fin (s : List UInt8) : ∀ (m w a : Nat), a ≤ s.length → RdFin s a (readL s m w a) := by
  intro m
  induction m with
  | zero => intro w a ha h; cases h
  | succ m ih =>
    intro w a ha h
    rw [readL] at h ⊢
    split at h
    · rename_i h1; exact absurd h h1
    rename_i h1
    rw [if_neg h1]
    have f := next_finN s a ha (Classical.not_not.1 h1)
    split at h
    · cases h
    rename_i h2
    rw [if_neg h2]
    have f3 := f.2.2 h2
    split at h
    · rename_i h3
      rw [if_pos h3]
      have := num_fin s _ _ f.2.1 h
      exact ⟨by omega, this.2⟩
    rename_i h3
    rw [if_neg h3]
    split at h
    · rename_i h4; rw [if_pos h4]; exact ⟨f3, f.2.1⟩
    rename_i h4
    rw [if_neg h4]
    split at h
    · rename_i h5; rw [if_pos h5]; exact ⟨f3, f.2.1⟩
    rename_i h5
    rw [if_neg h5]
    split at h
    · rename_i h6
      rw [if_pos h6, wordV_fin _ _ h]; exact ⟨f3, f.2.1⟩
    rename_i h6
    rw [if_neg h6]
    split at h
    · rename_i h7
      rw [if_pos h7]
      split at h
      · cases h
      · rename_i h8
        rw [if_neg h8]
        have := list_fin s (readL s m (w + 1)) (fun a ha => ih (w + 1) a ha) _ _ _ f.2.1 h
        exact ⟨by omega, this.2⟩
    rename_i h7
    rw [if_neg h7]
    split at h
    · rename_i h8
      rw [if_pos h8]
      split at h
      · cases h
      · rename_i h9
        rw [if_neg h9]
        have := dict_fin s (readL s m (w + 1)) (fun a ha => ih (w + 1) a ha) _ _ _ f.2.1 h
        exact ⟨by omega, this.2⟩
    · cases h
end Go.Proofs.Sim.Pa

set_option maxRecDepth 100000
namespace Go.Proofs.Sim.Se
open Go Go.Proofs Go.Proofs.Sim Go.Proofs.Sim.Va Go.RowKit Go.Proofs.Sim.Pa

abbrev prH (s : List UInt8) (a w : Int) : Heap := [(Nm.arg 0, .blk ty_parse_reader [.imm (.str s), .imm (.int .i64 a), .imm (.int .i64 w)])]
abbrev rdA (x : V × Nat × Int) : AV := .tup [.imm (.agg x.1.row), .imm (.int .i64 x.2.2)]
def RdQ (s : List UInt8) (w : Int) (x : V × Nat × Int) : QQ := fun r h => ∃ c : Int, h = prH s c w ∧ r = rdA x ∧ (x.2.2 = 0 → c = x.2.1)
theorem mk_row (k n g : Int) (t : List UInt8) (l : List V) (d : List Pr) : (V.mk k n g t l d).row = [.int .i64 k, .int .i64 n, .int .i64 g, .str t, .sl .any 6 (l.map V.row), .sl .any 7 (d.map pRow)] := row_eq _
theorem err_rd (e : Int) : rdA (errV e) = .tup [.imm (.agg [.int .i64 0, .int .i64 0, .int .i64 0, .str [], .sl .any 6 [], .sl .any 7 []]), .imm (.int .i64 e)] := by
  unfold errV rdA; rw [mk_row]; rfl
theorem rdq_err {s : List UInt8} {w c e : Int} (he : e ≠ 0) : RdQ s w (errV e) (.tup [.imm (.agg [.int .i64 0, .int .i64 0, .int .i64 0, .str [], .sl .any 6 [], .sl .any 7 []]), .imm (.int .i64 e)]) (prH s c w) :=
  ⟨c, rfl, (err_rd e).symm, fun h => absurd h he⟩
theorem rdq_ok {s : List UInt8} {w : Int} {c : Nat} {k n g : Int} {t : List UInt8} {l : List V} {d : List Pr} {L D : LL} (hl : l.map V.row = L) (hd : d.map pRow = D) :
    RdQ s w (.mk k n g t l d, c, 0) (.tup [.imm (.agg [.int .i64 k, .int .i64 n, .int .i64 g, .str t, .sl .any 6 L, .sl .any 7 D]), .imm (.int .i64 0)]) (prH s c w) := by
  subst hl; subst hd
  exact ⟨c, rfl, by unfold rdA; rw [mk_row], fun _ => rfl⟩
/-- Where one is behind a token. -/
def aftT (t : Tk) (a : Int) : Int := if t.e = 0 then t.b else a
section
variable (s : List UInt8) (hs : s.length ≤ 65535)
include hs
theorem S_take (a w : Int) : Call E0.P fn_parse_cursor_take [.ptr (.arg 0) 0] (prH s a w) (Is (nxA (nextL s a)) (prH s (aftT (nextL s a) a) w)) := by
  refine F_parse_cursor_take_of _ _ _ _ (Call.use (S_Next s hs a) ⟨⟨rfl, rfl⟩, ?_⟩)
  have fin : ∀ c : Int, c = aftT (nextL s a) a → C_parse_cursor_take_3 (nextL s a).e 0 0 [] 0 0 (nextL s a).k (nextL s a).n (nextL s a).s (nextL s a).a (nextL s a).b s c w (K_parse_cursor_take_0 s a w (Is (nxA (nextL s a)) (prH s (aftT (nextL s a) a) w))) := by
    intro c hc
    subst hc
    refine C_parse_cursor_take_3_of _ _ _ _ _ _ _ _ _ _ _ _ _ _ _ ?_
    apply K_parse_cursor_take_0_x0
    exact ⟨rfl, rfl⟩
  refine brB (p := (nextL s a).e = 0) dec_iff (fun h => fin _ ?_) fun h => fin _ ?_
  · unfold aftT; rw [if_pos h]; rfl
  · unfold aftT; rw [if_neg h]
theorem S_link_no (a : Int) (w : Int) (h : linkL s (plc s a) = none) (ha : 0 ≤ a ∧ a ≤ s.length) : Call E0.P fn_parse_reader_link [.ptr (.arg 0) 0] (prH s a w) (Is (.tup [.imm (.int .i64 0), .imm (.bool false)]) (prH s a w)) := by
  have fin : ∀ c, C_parse_reader_link_7 s c w s a (K_parse_reader_link_0 s a w (Is (.tup [.imm (.int .i64 0), .imm (.bool false)]) (prH s a w))) := by
    intro c
    refine C_parse_reader_link_7_of _ _ _ _ _ _ ?_
    apply K_parse_reader_link_0_x0
    exact ⟨rfl, rfl⟩
  refine F_parse_reader_link_of _ _ _ _ (Call.use (S_take s hs a w) ⟨⟨rfl, rfl⟩, Let.intro ?_⟩)
  unfold linkL at h
  rw [next_plc] at h
  refine brB (p := (nextL s a).e = 0 ∧ (nextL s a).k = 1) (andB2 _ _) (fun h1 => ?_) fun _ => fin _
  rw [if_pos h1] at h
  have e1 : aftT (nextL s a) a = ((nextL s a).b : Nat) := by unfold aftT; rw [if_pos h1.1]
  rw [e1]
  refine Call.use (S_take s hs ((nextL s a).b : Nat) w) ⟨⟨rfl, rfl⟩, Let.intro (Let.intro ?_)⟩
  refine brB (p := ((nextL s (nextL s a).b).e = 0 ∧ (nextL s (nextL s a).b).k = 8) ∧ (nextL s (nextL s a).b).s = [82]) ?_ (fun h2 => ?_) fun _ => fin _
  · rw [← andB2 ((nextL s (nextL s a).b).e = 0)]
    cases hc : (bif decide ((nextL s (nextL s a).b).e = 0) then decide ((nextL s (nextL s a).b).k = 8) else false)
    · constructor
      · intro h3
        have : (bif (bif decide ((nextL s (nextL s a).b).e = 0) then decide ((nextL s (nextL s a).b).k = 8) else false) then (nextL s (nextL s a).b).s == [82] else false) = true := h3
        rw [hc] at this; cases this
      · rintro ⟨h3, _⟩; cases h3
    · constructor
      · intro h3
        have : (bif (bif decide ((nextL s (nextL s a).b).e = 0) then decide ((nextL s (nextL s a).b).k = 8) else false) then (nextL s (nextL s a).b).s == [82] else false) = true := h3
        rw [hc] at this
        exact ⟨rfl, by simpa using this⟩
      · rintro ⟨_, h3⟩
        show (bif (bif decide ((nextL s (nextL s a).b).e = 0) then decide ((nextL s (nextL s a).b).k = 8) else false) then (nextL s (nextL s a).b).s == [82] else false) = true
        rw [hc, h3]; rfl
  · rw [if_pos ⟨h2.1.1, h2.1.2, h2.2⟩] at h
    cases h
theorem S_link_yes (a : Int) (w : Int) (g : Int) (c : Nat) (h : linkL s (plc s a) = some (g, c)) : Call E0.P fn_parse_reader_link [.ptr (.arg 0) 0] (prH s a w) (Is (.tup [.imm (.int .i64 g), .imm (.bool true)]) (prH s c w)) := by
  refine F_parse_reader_link_of _ _ _ _ (Call.use (S_take s hs a w) ⟨⟨rfl, rfl⟩, Let.intro ?_⟩)
  unfold linkL at h
  rw [next_plc] at h
  split at h
  case isFalse => cases h
  rename_i h1
  refine brB (p := (nextL s a).e = 0 ∧ (nextL s a).k = 1) (andB2 _ _) (fun h1 => ?_) fun h' => absurd h1 h'
  have e1 : aftT (nextL s a) a = ((nextL s a).b : Nat) := by unfold aftT; rw [if_pos h1.1]
  rw [e1]
  refine Call.use (S_take s hs ((nextL s a).b : Nat) w) ⟨⟨rfl, rfl⟩, Let.intro (Let.intro ?_)⟩
  split at h
  case isFalse => cases h
  rename_i h2
  injection h with h; injection h with h3 h4
  subst h3; subst h4
  have e2 : aftT (nextL s ((nextL s a).b : Nat)) ((nextL s a).b : Nat) = ((nextL s ((nextL s a).b : Nat)).b : Nat) := by unfold aftT; rw [if_pos h2.1]
  rw [e2]
  have e3 : (bif (bif decide ((nextL s (nextL s a).b).e = 0) then decide ((nextL s (nextL s a).b).k = 8) else false) then (nextL s (nextL s a).b).s == [82] else false) = true := by
    rw [decide_eq_true h2.1, decide_eq_true h2.2.1, h2.2.2]; rfl
  exact brB (p := True) ⟨fun _ => trivial, fun _ => e3⟩ (fun _ => ⟨rfl, rfl⟩) fun h => absurd trivial h
theorem S_number (a : Nat) (ha : a ≤ s.length) (w : Int) (n : Int) : Call E0.P fn_parse_reader_number [.ptr (.arg 0) 0, .imm (.int .i64 n)] (prH s a w) (RdQ s w (numL s n a)) := by
  have hp := plc_nat s a ha
  unfold numL
  rcases hl : linkL s a with _ | ⟨g, c⟩
  · refine F_parse_reader_number_of _ _ _ _ _ (Call.use (S_link_no s hs a w (by rw [hp]; exact hl) ⟨by omega, by omega⟩) ⟨⟨rfl, rfl⟩, nBr0 rfl ?_⟩)
    exact rdq_ok rfl rfl
  · refine F_parse_reader_number_of _ _ _ _ _ (Call.use (S_link_yes s hs a w g c (by rw [hp]; exact hl)) ⟨⟨rfl, rfl⟩, nBr1 rfl (Let.intro (Let.intro (Let.intro ?_)))⟩)
    rw [show rI (rT (.tup [.imm (.int .i64 g), .imm (.bool true)]) 0) = g from rfl]
    refine brB (p := n < 1 ∨ 8388607 < n ∨ g < 0 ∨ 65535 < g) (by rw [orB2, orB2, orBD]; omega) (fun h => ?_) fun h => ?_
    · simp only [if_pos h]; exact rdq_err (by decide)
    · simp only [if_neg h]; exact rdq_ok rfl rfl
omit hs in
theorem S_pword (t : List UInt8) (b : Nat) : Call E0.P fn_parse_word [.imm (.str t)] [] (Is (rdA (wordV t b)) []) := by
  have e : ∀ (k n g : Int) (t : List UInt8), rdA (.mk k n g t [] [], b, 0) = .tup [.imm (.agg [.int .i64 k, .int .i64 n, .int .i64 g, .str t, .sl .any 6 [], .sl .any 7 []]), .imm (.int .i64 0)] := by
    intro k n g t; unfold rdA; rw [mk_row]; rfl
  unfold wordV
  refine F_parse_word_of _ _ (brB (p := t = [116, 114, 117, 101]) (by simp) (fun h => ?_) fun h1 => brB (p := t = [102, 97, 108, 115, 101]) (by simp) (fun h => ?_) fun h2 => brB (p := t = [110, 117, 108, 108]) (by simp) (fun h => ?_) fun h3 => ?_)
  · rw [if_pos h, e]; exact ⟨rfl, rfl⟩
  · rw [if_neg h1, if_pos h, e]; exact ⟨rfl, rfl⟩
  · rw [if_neg h1, if_neg h2, if_pos h, e]; exact ⟨rfl, rfl⟩
  · rw [if_neg h1, if_neg h2, if_neg h3, err_rd]; exact ⟨rfl, rfl⟩
def keyR (t : Tk) (m : List (List UInt8 × Int)) : List UInt8 × Bool × Int :=
  if t.e ≠ 0 then ([], false, t.e) else if t.k = 0 then ([], false, 5) else if t.k = 7 then ([], false, 0) else if t.k ≠ 2 then ([], false, 4) else if 0 < mLook m t.s then ([], false, 11) else (t.s, true, 0)
def keyM (t : Tk) (m : List (List UInt8 × Int)) : List (List UInt8 × Int) := if (keyR t m).2.1 then mUp m t.s (IntKind.i64.wrap (mLook m t.s + 1)) else m
abbrev kyA (x : List UInt8 × Bool × Int) : AV := .tup [.imm (.str x.1), .imm (.bool x.2.1), .imm (.int .i64 x.2.2)]
abbrev pmH (s : List UInt8) (a w : Int) (m : List (List UInt8 × Int)) : Heap := [(Nm.arg 0, .blk ty_parse_reader [.imm (.str s), .imm (.int .i64 a), .imm (.int .i64 w)]), (Nm.arg 1, .map m)]
theorem S_key (a w : Int) (m : List (List UInt8 × Int)) : Call E0.P fn_parse_reader_key [.ptr (.arg 0) 0, .mp (.arg 1)] (pmH s a w m) (Is (kyA (keyR (nextL s a) m)) (pmH s (aftT (nextL s a) a) w (keyM (nextL s a) m))) := by
  refine F_parse_reader_key_of _ _ _ _ _ (Call.use (S_take s hs a w) ⟨⟨rfl, rfl⟩, ?_⟩)
  have no : (keyR (nextL s a) m).2.1 = false → keyM (nextL s a) m = m := fun h => by unfold keyM; rw [h]; rfl
  have fin : ∀ e : Int, keyR (nextL s a) m = ([], false, e) → Is (kyA (keyR (nextL s a) m)) (pmH s (aftT (nextL s a) a) w (keyM (nextL s a) m)) (.tup [.imm (.str []), .imm (.bool false), .imm (.int .i64 e)]) (pmH s (aftT (nextL s a) a) w m) := by
    intro e h
    rw [no (by rw [h]), h]
    exact ⟨rfl, rfl⟩
  refine brN (p := (nextL s a).e = 0) dec_iff (fun h1 => fin _ ?_) fun h1 => brB (p := (nextL s a).k = 0) dec_iff (fun h2 => fin _ ?_) fun h2 => brB (p := (nextL s a).k = 7) dec_iff (fun h3 => fin _ ?_) fun h3 => brN (p := (nextL s a).k = 2) dec_iff (fun h4 => fin _ ?_) fun h4 => brB (p := 0 < mLook m (nextL s a).s) dec_iff (fun h5 => fin _ ?_) fun h5 => ?_
  · unfold keyR; rw [if_pos h1]; rfl
  · unfold keyR; rw [if_neg (fun h => h h1), if_pos h2]
  · unfold keyR; rw [if_neg (fun h => h h1), if_neg h2, if_pos h3]
  · unfold keyR; rw [if_neg (fun h => h h1), if_neg h2, if_neg h3, if_pos h4]
  · unfold keyR; rw [if_neg (fun h => h h1), if_neg h2, if_neg h3, if_neg (fun h => h h4), if_pos h5]
  · have hk : keyR (nextL s a) m = ((nextL s a).s, true, 0) := by
      unfold keyR; rw [if_neg (fun h => h h1), if_neg h2, if_neg h3, if_neg (fun h => h h4), if_neg h5]
    have hm : keyM (nextL s a) m = mUp m (nextL s a).s (IntKind.i64.wrap (mLook m (nextL s a).s + 1)) := by
      unfold keyM; rw [hk]; rfl
    rw [hk, hm]
    exact ⟨rfl, rfl⟩
end
end Go.Proofs.Sim.Se

set_option maxRecDepth 100000
namespace Go.Proofs.Sim.Se
open Go Go.Proofs Go.Proofs.Sim Go.Proofs.Sim.Va Go.RowKit Go.Proofs.Sim.Pa

theorem vform (v : V) : [.int .i64 (gI v.row 0), .int .i64 (gI v.row 1), .int .i64 (gI v.row 2), .str (gS v.row 3), .sl .any 6 (gR v.row 4), .sl .any 7 (gR v.row 5)] = v.row := by rw [row_eq]; rfl
abbrev rdForm (r : AV) : AV := .tup [.imm (.agg [.int .i64 (gI (aCells (rT r 0)) 0), .int .i64 (gI (aCells (rT r 0)) 1), .int .i64 (gI (aCells (rT r 0)) 2), .str (gS (aCells (rT r 0)) 3), .sl .any 6 (gR (aCells (rT r 0)) 4), .sl .any 7 (gR (aCells (rT r 0)) 5)]), .imm (.int .i64 (rI (rT r 1)))]
theorem rd_form (x : V × Nat × Int) : rdForm (rdA x) = rdA x := by
  show AV.tup [.imm (.agg [.int .i64 (gI x.1.row 0), .int .i64 (gI x.1.row 1), .int .i64 (gI x.1.row 2), .str (gS x.1.row 3), .sl .any 6 (gR x.1.row 4), .sl .any 7 (gR x.1.row 5)]), .imm (.int .i64 x.2.2)] = _
  rw [vform]
theorem mLook_up (k x : List UInt8) (v : Int) : ∀ m : List (List UInt8 × Int), mLook (mUp m x v) k = if k = x then v else mLook m k
  | [] => by
    simp only [mUp, mLook]
  | (y, u) :: r => by
    simp only [mUp]
    by_cases h : x = y
    · subst h
      rw [if_pos rfl, mLook, mLook]
      by_cases hk : k = x
      · rw [if_pos hk, if_pos hk]
      · rw [if_neg hk, if_neg hk, if_neg hk]
    · rw [if_neg h, mLook, mLook, mLook_up k x v r]
      by_cases hk : k = y
      · subst hk
        rw [if_pos rfl, if_pos rfl, if_neg (fun e => h e.symm)]
      · rw [if_neg hk, if_neg hk]
def MapI (m : List (List UInt8 × Int)) (acc : List Pr) : Prop := ∀ k, (0 < mLook m k ↔ acc.any (fun p => p.1 == k) = true) ∧ 0 ≤ mLook m k ∧ mLook m k ≤ 1
theorem mapI_nil : MapI [] [] := fun k => ⟨by simp [mLook], by simp [mLook], by simp [mLook]⟩
theorem mapI_up {m : List (List UInt8 × Int)} {acc : List Pr} (h : MapI m acc) (x : List UInt8) (v : V) (hx : ¬ 0 < mLook m x) : MapI (mUp m x (IntKind.i64.wrap (mLook m x + 1))) (acc ++ [(x, v)]) := by
  intro k
  have hk := h k
  have hx2 := h x
  rw [wrap_id _ (by omega) (by omega), mLook_up]
  by_cases e : k = x
  · subst e
    rw [if_pos rfl]
    exact ⟨⟨fun _ => by simp, fun _ => by omega⟩, by omega, by omega⟩
  · rw [if_neg e]
    refine ⟨?_, hk.2⟩
    rw [hk.1]
    have : ¬ x = k := fun h => e h.symm
    simp [this]
section
variable (s : List UInt8) (hs : s.length ≤ 65535)
include hs
abbrev RdAt (s : List UInt8) (m : Nat) : Prop := ∀ (w : Nat) (a : Int), w ≤ 64 → s.length < plc s a + m → Call E0.P fn_parse_reader_value [.ptr (.arg 0) 0] (prH s a w) (RdQ s w (readL s m w (plc s a)))
theorem L_list (m : Nat) (ih : RdAt s m) (w : Nat) (hw : w ≤ 64) (at0 w0 : Int) (Q : QQ) (X : V × Nat × Int) (hQ : ∀ r h, RdQ s w X r h → Q r h) : ∀ (f a : Nat) (acc : List V), a ≤ s.length → s.length < a + m → s.length < a + f → acc.length ≤ a → listL s (readL s m w) f a acc = X →
    L_parse_reader_list_4 s a w 0 0 0 [] 5 0 0 [] [] [] (acc.map V.row) [] (K_parse_reader_list_2 s at0 w0 Q) := by
  intro f
  induction f with
  | zero => intro a acc ha h1 h2; omega
  | succ f ihf =>
    intro a acc ha h1 h2 hl hX
    have hp := plc_nat s a ha
    rw [listL] at hX
    refine L_parse_reader_list_4_of _ _ _ _ _ _ _ _ _ _ _ _ _ _ _ _ (Call.use (S_Next s hs a) ⟨⟨rfl, rfl⟩, ?_⟩)
    refine brN (p := (nextL s a).e = 0) dec_iff (fun he => ?_) fun he => brB (p := (nextL s a).k = 5) dec_iff (fun h5 => ?_) fun h5 => ?_
    · rw [if_pos he] at hX
      apply K_parse_reader_list_2_x0
      exact hQ _ _ (hX ▸ rdq_err he)
    · rw [if_neg (fun h => h he), if_pos h5] at hX
      refine Call.use (S_take s hs a w) ⟨⟨rfl, rfl⟩, ?_⟩
      apply K_parse_reader_list_2_x1
      refine C_parse_reader_list_16_of _ _ _ _ _ _ _ _ _ _ _ _ _ _ _ _ ?_
      apply K_parse_reader_list_1_x0
      have e1 : aftT (nextL s a) a = ((nextL s a).b : Nat) := by unfold aftT; rw [if_pos he]
      rw [e1]
      exact hQ _ _ (hX ▸ rdq_ok rfl rfl)
    · rw [if_neg (fun h => h he), if_neg h5] at hX
      refine (ih w a hw (by rw [hp]; omega)).mono fun r g hx => ?_
      rw [hp] at hx
      have fin := read_fin s m w a ha
      generalize readL s m w a = x at hx fin hX
      obtain ⟨c, e1, e2, e3⟩ := hx
      subst e1; subst e2
      refine ⟨⟨rfl, (rd_form x).symm⟩, brN (p := x.2.2 = 0) dec_iff (fun h0 => ?_) fun h0 => ?_⟩
      · rw [if_pos h0] at hX
        apply K_parse_reader_list_2_x2
        exact hQ _ _ (hX ▸ rdq_err h0)
      · rw [if_neg (fun h => h h0)] at hX
        have f1 := fin h0
        refine ⟨⟨by rw [List.length_map]; omega, by rw [List.length_map]; omega⟩, ?_⟩
        have e4 : (acc.map V.row ++ [[IV.int .i64 (gI x.1.row 0), .int .i64 (gI x.1.row 1), .int .i64 (gI x.1.row 2), .str (gS x.1.row 3), .sl .any 6 (gR x.1.row 4), .sl .any 7 (gR x.1.row 5)]]) = (acc ++ [x.1]).map V.row := by rw [vform]; simp
        show L_parse_reader_list_4 s c w 0 0 0 [] 5 0 0 [] [] [] (acc.map V.row ++ [[IV.int .i64 (gI x.1.row 0), .int .i64 (gI x.1.row 1), .int .i64 (gI x.1.row 2), .str (gS x.1.row 3), .sl .any 6 (gR x.1.row 4), .sl .any 7 (gR x.1.row 5)]]) [] _
        rw [e4, e3 h0]
        exact ihf x.2.1 (acc ++ [x.1]) f1.2 (by omega) (by omega) (by simp; omega) hX
theorem S_list (m : Nat) (ih : RdAt s m) (w : Nat) (hw : w ≤ 64) (a : Nat) (ha : a ≤ s.length) (h1 : s.length < a + m) : Call E0.P fn_parse_reader_list [.ptr (.arg 0) 0] (prH s a w) (RdQ s w (listL s (readL s m w) (s.length + 1) a [])) :=
  F_parse_reader_list_of _ _ _ _ (L_list s hs m ih w hw a w _ _ (fun _ _ h => h) (s.length + 1) a [] ha h1 (by omega) (by simp) rfl)
theorem L_dict (m : Nat) (ih : RdAt s m) (w : Nat) (hw : w ≤ 64) (at0 w0 : Int) (Q : QQ) (X : V × Nat × Int) (hQ : ∀ r h, RdQ s w X r h → Q r h) : ∀ (f a : Nat) (acc : List Pr) (mp : List (List UInt8 × Int)), a ≤ s.length → s.length < a + m → s.length < a + f → acc.length ≤ a → MapI mp acc → dictL s (readL s m w) f a acc = X →
    L_parse_reader_dict_3 s a w 0 0 0 [] 6 0 0 [] mp [] [] [] (acc.map pRow) (K_parse_reader_dict_0 s at0 w0 Q) := by
  intro f
  induction f with
  | zero => intro a acc mp ha h1 h2; omega
  | succ f ihf =>
    intro a acc mp ha h1 h2 hl hmp hX
    have hp := plc_nat s a ha
    rw [dictL] at hX
    refine L_parse_reader_dict_3_of _ _ _ _ _ _ _ _ _ _ _ _ _ _ _ _ _ (Call.use (S_key s hs a w mp) ⟨⟨rfl, rfl⟩, ?_⟩)
    have bad : ∀ e : Int, e ≠ 0 → X = errV e → keyR (nextL s a) mp = ([], false, e) → ∀ B, Br (!decide (rI (rT (kyA (keyR (nextL s a) mp)) 2) = 0)) (K_parse_reader_dict_0 s at0 w0 Q .ret ⟨[(2, .ptr (Nm.loc 2) 0), (3, .imm (.int .i64 (rI (rT (kyA (keyR (nextL s a) mp)) 2))))], [(Nm.loc 2, .blk ty_api_Value [.imm (.int .i64 0), .imm (.int .i64 0), .imm (.int .i64 0), .imm (.str []), .own (Nm.sub 22 ((Nm.loc 2).cell 4)), .own (Nm.sub 22 ((Nm.loc 2).cell 5))]), (Nm.arg 0, .blk ty_parse_reader [.imm (.str s), .imm (.int .i64 (aftT (nextL s a) a)), .imm (.int .i64 w)]), (Nm.sub 22 ((Nm.loc 2).cell 4), .arr (ty_api_Value + 2) true 6 []), (Nm.sub 22 ((Nm.loc 2).cell 5), .arr (ty_api_Pair + 2) true 7 [])]⟩) B := by
      intro e he hx hk B
      rw [hk]
      refine nBr0 (decide_eq_false he) ?_
      apply K_parse_reader_dict_0_x0
      exact hQ _ _ (hx ▸ rdq_err he)
    by_cases he : (nextL s a).e = 0
    case neg =>
      rw [if_pos he] at hX
      exact bad _ he hX.symm (by unfold keyR; rw [if_pos he]) _
    have e1 : aftT (nextL s a) a = ((nextL s a).b : Nat) := by unfold aftT; rw [if_pos he]
    rw [if_neg (fun h => h he)] at hX
    by_cases h7 : (nextL s a).k = 7
    · rw [if_pos h7] at hX
      have hk : keyR (nextL s a) mp = ([], false, 0) := by unfold keyR; rw [if_neg (fun h => h he), if_neg (by rw [h7]; decide), if_pos h7]
      rw [hk]
      refine nBr1 (by rfl) (nBr0 rfl ?_)
      apply K_parse_reader_dict_0_x1
      rw [e1]
      exact hQ _ _ (hX ▸ rdq_ok rfl rfl)
    rw [if_neg h7] at hX
    by_cases h0 : (nextL s a).k = 0
    · rw [if_pos h0] at hX
      exact bad 5 (by decide) hX.symm (by unfold keyR; rw [if_neg (fun h => h he), if_pos h0]) _
    rw [if_neg h0] at hX
    by_cases h2' : (nextL s a).k = 2
    case neg =>
      rw [if_pos h2'] at hX
      exact bad 4 (by decide) hX.symm (by unfold keyR; rw [if_neg (fun h => h he), if_neg h0, if_neg h7, if_pos h2']) _
    rw [if_neg (fun h => h h2')] at hX
    by_cases hs' : 0 < mLook mp (nextL s a).s
    · rw [if_pos ((hmp _).1.1 hs')] at hX
      exact bad 11 (by decide) hX.symm (by unfold keyR; rw [if_neg (fun h => h he), if_neg h0, if_neg h7, if_neg (fun h => h h2'), if_pos hs']) _
    rw [if_neg (fun h => hs' ((hmp _).1.2 h))] at hX
    have hk : keyR (nextL s a) mp = ((nextL s a).s, true, 0) := by unfold keyR; rw [if_neg (fun h => h he), if_neg h0, if_neg h7, if_neg (fun h => h h2'), if_neg hs']
    have hm : keyM (nextL s a) mp = mUp mp (nextL s a).s (IntKind.i64.wrap (mLook mp (nextL s a).s + 1)) := by unfold keyM; rw [hk]; rfl
    rw [hk, hm, e1]
    refine nBr1 (by rfl) (nBr1 rfl ?_)
    have f0 := next_finN s a ha he
    have f01 := f0.2.2 (by rw [h2']; decide)
    have hp2 := plc_nat s (nextL s a).b f0.2.1
    refine (ih w ((nextL s a).b : Nat) hw (by rw [hp2]; omega)).mono fun r g hx => ?_
    rw [hp2] at hx
    have fin := read_fin s m w (nextL s a).b f0.2.1
    generalize readL s m w (nextL s a).b = x at hx fin hX
    obtain ⟨c, g1, g2, g3⟩ := hx
    subst g1; subst g2
    refine ⟨⟨rfl, (rd_form x).symm⟩, brN (p := x.2.2 = 0) dec_iff (fun h0 => ?_) fun h0 => ?_⟩
    · rw [if_pos h0] at hX
      apply K_parse_reader_dict_0_x2
      exact hQ _ _ (hX ▸ rdq_err h0)
    · rw [if_neg (fun h => h h0)] at hX
      have f1 := fin h0
      refine ⟨⟨by rw [List.length_map]; omega, by rw [List.length_map]; omega⟩, ?_⟩
      have e4 : (acc.map pRow ++ [[IV.str (nextL s a).s, .int .i64 (gI x.1.row 0), .int .i64 (gI x.1.row 1), .int .i64 (gI x.1.row 2), .str (gS x.1.row 3), .sl .any 6 (gR x.1.row 4), .sl .any 7 (gR x.1.row 5)]]) = (acc ++ [((nextL s a).s, x.1)]).map pRow := by
        rw [vform]; simp [pRow]
      show L_parse_reader_dict_3 s c w 0 0 0 [] 6 0 0 [] (mUp mp (nextL s a).s (IntKind.i64.wrap (mLook mp (nextL s a).s + 1))) [] [] [] (acc.map pRow ++ [[IV.str (nextL s a).s, .int .i64 (gI x.1.row 0), .int .i64 (gI x.1.row 1), .int .i64 (gI x.1.row 2), .str (gS x.1.row 3), .sl .any 6 (gR x.1.row 4), .sl .any 7 (gR x.1.row 5)]]) _
      rw [e4, g3 h0]
      exact ihf x.2.1 (acc ++ [((nextL s a).s, x.1)]) _ f1.2 (by omega) (by omega) (by simp; omega) (mapI_up hmp _ _ hs') hX
theorem S_dict (m : Nat) (ih : RdAt s m) (w : Nat) (hw : w ≤ 64) (a : Nat) (ha : a ≤ s.length) (h1 : s.length < a + m) : Call E0.P fn_parse_reader_dict [.ptr (.arg 0) 0] (prH s a w) (RdQ s w (dictL s (readL s m w) (s.length + 1) a [])) :=
  F_parse_reader_dict_of _ _ _ _ (L_dict s hs m ih w hw a w _ _ (fun _ _ h => h) (s.length + 1) a [] [] ha h1 (by omega) (by simp) mapI_nil rfl)
theorem S_value : ∀ m : Nat, RdAt s m := by
  intro m
  induction m with
  | zero => intro w a hw h; have := plc_le s a; omega
  | succ m ih =>
    intro w a hw h
    refine F_parse_reader_value_of _ _ _ _ (Call.use (S_take s hs a w) ⟨⟨rfl, rfl⟩, ?_⟩)
    rw [readL, next_plc]
    refine brN (p := (nextL s a).e = 0) dec_iff (fun he => ?_) fun he => ?_
    · rw [if_pos he]; exact rdq_err he
    rw [if_neg (fun h => h he)]
    have e1 : aftT (nextL s a) a = ((nextL s a).b : Nat) := by unfold aftT; rw [if_pos he]
    rw [e1]
    have f0 := next_fin s a he
    refine brB (p := (nextL s a).k = 0) dec_iff (fun h1 => ?_) fun h0 => ?_
    · rw [if_pos h1]; exact rdq_err (by decide)
    rw [if_neg h0]
    have f01 := f0.2.2 h0
    refine brB (p := (nextL s a).k = 1) dec_iff (fun h1 => ?_) fun h1 => ?_
    · rw [if_pos h1]
      refine (S_number s hs (nextL s a).b f0.2.1 w (nextL s a).n).mono fun r g hx => ?_
      obtain ⟨c, g1, g2, g3⟩ := hx
      subst g1; subst g2
      refine ⟨⟨rfl, (rd_form _).symm⟩, ?_⟩
      exact ⟨c, rfl, rd_form _, g3⟩
    rw [if_neg h1]
    refine brB (p := (nextL s a).k = 2) dec_iff (fun h2 => ?_) fun h2 => ?_
    · rw [if_pos h2]; exact rdq_ok rfl rfl
    rw [if_neg h2]
    refine brB (p := (nextL s a).k = 3) dec_iff (fun h3 => ?_) fun h3 => ?_
    · rw [if_pos h3]; exact rdq_ok rfl rfl
    rw [if_neg h3]
    refine brB (p := (nextL s a).k = 8) dec_iff (fun h8 => ?_) fun h8 => ?_
    · rw [if_pos h8]
      refine Call.use (S_pword (nextL s a).s (nextL s a).b) ⟨⟨rfl, (rd_form _).symm⟩, ?_⟩
      exact ⟨_, rfl, rd_form _, fun h => (by rw [wordV_fin _ _ h]; rfl)⟩
    rw [if_neg h8]
    have wm : IntKind.i64.wrap (((w + 1 : Nat) : Int) - 1) = (w : Int) := by rw [wrap_id _ (by omega) (by omega)]; omega
    refine brB (p := (nextL s a).k = 4) dec_iff (fun h4 => ?_) fun h4 => ?_
    · rw [if_pos h4]
      refine brB (p := 64 ≤ w) (by rw [dec_iff]; show (64 : Int) ≤ (w : Int) ↔ _; omega) (fun h64 => ?_) fun h64 => ?_
      · rw [if_pos h64]; exact rdq_err (by decide)
      · rw [if_neg h64]
        have ew : IntKind.i64.wrap (rI ((blkOf (prH s ((nextL s a).b : Nat) w) (Nm.arg 0)).getD 2 AV.undef) + 1) = ((w + 1 : Nat) : Int) := wr1 w (by omega)
        rw [ew]
        refine (S_list s hs m ih (w + 1) (by omega) (nextL s a).b f0.2.1 (by omega)).mono fun r g hx => ?_
        obtain ⟨c, g1, g2, g3⟩ := hx
        subst g1; subst g2
        refine ⟨⟨rfl, (rd_form _).symm⟩, ?_⟩
        have ew2 : IntKind.i64.wrap (rI ((blkOf (prH s c ((w + 1 : Nat) : Int)) (Nm.arg 0)).getD 2 AV.undef) - 1) = (w : Int) := wm
        rw [ew2]
        exact ⟨c, rfl, rd_form _, g3⟩
    rw [if_neg h4]
    refine brB (p := (nextL s a).k = 6) dec_iff (fun h6 => ?_) fun h6 => ?_
    · rw [if_pos h6]
      refine brB (p := 64 ≤ w) (by rw [dec_iff]; show (64 : Int) ≤ (w : Int) ↔ _; omega) (fun h64 => ?_) fun h64 => ?_
      · rw [if_pos h64]; exact rdq_err (by decide)
      · rw [if_neg h64]
        have ew : IntKind.i64.wrap (rI ((blkOf (prH s ((nextL s a).b : Nat) w) (Nm.arg 0)).getD 2 AV.undef) + 1) = ((w + 1 : Nat) : Int) := wr1 w (by omega)
        rw [ew]
        refine (S_dict s hs m ih (w + 1) (by omega) (nextL s a).b f0.2.1 (by omega)).mono fun r g hx => ?_
        obtain ⟨c, g1, g2, g3⟩ := hx
        subst g1; subst g2
        refine ⟨⟨rfl, (rd_form _).symm⟩, ?_⟩
        have ew2 : IntKind.i64.wrap (rI ((blkOf (prH s c ((w + 1 : Nat) : Int)) (Nm.arg 0)).getD 2 AV.undef) - 1) = (w : Int) := wm
        rw [ew2]
        exact ⟨c, rfl, rd_form _, g3⟩
    · rw [if_neg h6]; exact rdq_err (by decide)
end
end Go.Proofs.Sim.Se

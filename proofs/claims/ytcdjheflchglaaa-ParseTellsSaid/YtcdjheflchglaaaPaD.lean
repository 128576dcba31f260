import Derived.Test.YtcdjheflchglaaaPaB
set_option maxRecDepth 100000
namespace Go.Proofs.Sim.Se
open Go Go.Proofs Go.Proofs.Sim Go.Proofs.Sim.Va Go.RowKit Go.Proofs.Sim.Pa

theorem brEF {b : Bool} {p : Prop} {A B : Prop} (hb : b = true ↔ p) (h1 : ¬ p → A) (h2 : p → B) : Br (b == false) A B := by
  cases b with
  | true => exact ⟨fun h => absurd h (by decide), fun _ => h2 (hb.1 rfl)⟩
  | false => exact ⟨fun _ => h1 fun hp => (by have := hb.2 hp; cases this), fun h => absurd h (by decide)⟩
abbrev partA (x : Part) : AV := .tup [.imm (.str x.1), .imm (.int .i64 x.2.1), .imm (.int .i64 x.2.2)]
theorem cut_one (s : List UInt8) (a : Nat) (h : a < s.length) : List.drop a (List.take (a + 1) s) = [s[a]] := by
  rw [cut_word, dropC s a h]; rfl
theorem hexv0 (c : UInt8) (h : hexv c = 0) : c = 48 := by
  refine (n_eq (n := 48) (by omega)).2 ?_
  have hl := lt256 c
  unfold hexv at h
  split at h
  · omega
  · split at h
    · omega
    · split at h <;> omega
theorem hexv48 : hexv 48 = 0 := by decide
theorem two_eq (s : List UInt8) (p : Nat) (h : p < s.length) (x y : UInt8) : ((s.drop p).take 2 == [x, y]) = true ↔ s[p] = x ∧ (s.drop (p + 1)).head? = some y := by
  rw [dropC s p h, head_at]
  by_cases h2 : p + 1 < s.length
  · rw [dropC s (p + 1) h2]
    simp only [List.take_succ_cons, List.take_zero, beq_iff_eq, List.cons.injEq, and_true]
    exact ⟨fun ⟨h1, h3⟩ => ⟨h1, h2, h3⟩, fun ⟨h1, _, h3⟩ => ⟨h1, h3⟩⟩
  · rw [List.drop_eq_nil_of_le (by omega)]; simp [h2]
theorem nib2 (x y : Int) (hx : 0 ≤ x) (hx2 : x ≤ 15) (hy : 0 ≤ y) (hy2 : y ≤ 15) : IntKind.u8.wrap (IntKind.i64.wrap (IntKind.i64.wrap (16 * x) + y)) = (((byB (16 * x + y)).toNat : Nat) : Int) := by
  rw [wrap_id (16 * x) (by omega) (by omega), wrap_id _ (by omega) (by omega), wrap_u8 _ (by omega) (by omega)]
  unfold byB
  rw [UInt8.toNat_ofNat_of_lt' (by show (16 * x + y).toNat < 256; omega)]
  omega
section
variable (s : List UInt8) (hs : s.length ≤ 65535)
include hs
theorem L_rname (Q : QQ) (X : Part) (hq : Q (partA X) []) : ∀ (m a : Nat) (out : List UInt8), s.length ≤ a + m → out.length ≤ 127 → nameL (s.drop a) out a = X → L_r15_name_2 s a (byteRows out) (K_r15_name_1 Q) := by
  have fin : ∀ (a : Nat) (out : List UInt8), X = (out, a, 0) → K_r15_name_1 Q (.exit 0) ⟨[(1, .imm (.int .i64 a)), (7, .own (Nm.loc 9))], [(Nm.loc 9, .arr 0 true 1 (byteRows out))]⟩ := by
    intro a out hX
    apply K_r15_name_1_x0
    refine C_r15_name_17_of _ _ _ ⟨brow_ok _, ?_⟩
    apply K_r15_name_0_x0
    rw [unrow]
    rw [hX] at hq; exact hq
  have off : ∀ (a : Nat) (out : List UInt8), ¬ a < s.length → nameL (s.drop a) out a = X → L_r15_name_2 s a (byteRows out) (K_r15_name_1 Q) := by
    intro a out h hX
    rw [List.drop_eq_nil_of_le (by omega)] at hX
    refine L_r15_name_2_of _ _ _ _ ⟨fun h' => ⟨by omega, of_decide_eq_true h'⟩, brE dec_iff (fun h' => by omega) fun _ => ⟨rfl, Let.intro (brF (fin a out hX.symm))⟩⟩
  intro m
  induction m with
  | zero => intro a out hm ho hX; exact off a out (by omega) hX
  | succ m ih =>
    intro a out hm ho hX
    by_cases h : a < s.length
    case neg => exact off a out h hX
    refine L_r15_name_2_of _ _ _ _ ⟨fun _ => ⟨by omega, by omega⟩, brE dec_iff (fun _ => ?_) fun h' => by omega⟩
    rw [c_at s a h]
    refine Call.use (S_rkd _) ⟨⟨rfl, rfl⟩, Let.intro ?_⟩
    rw [rI_int]
    rw [dropC s a h] at hX
    refine brD (fun hk => ?_) fun hk => ?_
    · have bad : ∀ e : Int, X = ([], 0, e) → K_r15_name_1 Q .ret ⟨[(4, .imm (.str [])), (5, .imm (.int .i64 0)), (6, .imm (.int .i64 e))], []⟩ := by
        intro e hx
        apply K_r15_name_1_x1
        rw [hx] at hq; exact hq
      have push : ∀ (c : UInt8) (b : Nat), a < b → (X = if 127 ≤ out.length then ([], 0, 8) else nameL (s.drop b) (out ++ [c]) b) → C_r15_name_13 s b (c.toNat : Int) (byteRows out) (K_r15_name_3 (K_r15_name_2 (K_r15_name_1 Q))) := by
        intro c b hb hx
        refine C_r15_name_13_of _ _ _ _ _ ⟨⟨by rw [bl1]; omega, by rw [bl1]; omega⟩, ?_⟩
        rw [row1, bl1, List.length_append]
        refine brD (fun h' => ?_) fun h' => ?_
        · rw [if_pos (by simp at h'; omega)] at hx
          apply K_r15_name_3_x0
          apply K_r15_name_2_x0
          exact bad 8 hx
        · rw [if_neg (by simp at h'; omega)] at hx
          apply K_r15_name_3_x1
          apply K_r15_name_2_x1
          exact ih b (out ++ [c]) (by omega) (by simp at h' ⊢; omega) hx.symm
      refine C_r15_name_5_of _ _ _ _ ⟨⟨by omega, by omega⟩, ?_⟩
      rw [c_at s a h]
      refine brD (fun h35 => ?_) fun h35 => ?_
      · rw [wr1 a (by omega), wr1 (a + 1) (by omega), wr2 (a + 1) (by omega)]
        rw [nameL.eq_def] at hX
        simp only at hX
        rw [if_pos hk, if_pos (by omega)] at hX
        have wrong : X = ([], 0, 4) → C_r15_name_9 s (a + 1 : Nat) true (byteRows out) (K_r15_name_5 (K_r15_name_2 (K_r15_name_1 Q))) := by
          intro hx
          refine C_r15_name_9_of _ _ _ _ _ (brT ?_)
          apply K_r15_name_5_x0
          apply K_r15_name_2_x0
          exact bad 4 hx
        refine ⟨fun h' => ?_, brEF dec_iff (fun h3 => ?_) fun h3 => ?_⟩
        · have := of_decide_eq_false h'; omega
        · have h4 : a + 1 < s.length := by omega
          have h5 : a + 1 + 1 < s.length := by omega
          rw [dropC s (a + 1) h4, dropC s (a + 1 + 1) h5] at hX
          simp only at hX
          have b1 := hexv_b s[a + 1]
          have b2 := hexv_b s[a + 1 + 1]
          rw [c_at s (a + 1) h4]
          refine Call.use (S_r01_Hex _) ⟨⟨rfl, rfl⟩, Let.intro ⟨fun _ => ⟨by omega, by omega⟩, ?_⟩⟩
          rw [rI_int]
          refine brEF dec_iff (fun hn1 => ?_) fun hn1 => ⟨rfl, Let.intro ⟨fun h' => (by cases h'), Let.intro (Let.intro (wrong ?_))⟩⟩
          · rw [c_at s (a + 1 + 1) h5]
            refine Call.use (S_r01_Hex _) ⟨⟨rfl, rfl⟩, Let.intro ⟨fun _ => ⟨by omega, by omega, by omega⟩, Let.intro (Let.intro ?_)⟩⟩
            rw [rI_int, Int.toNat_natCast, Int.toNat_natCast, cut_word]
            have key : (bif decide (hexv s[a + 1 + 1] < 0) then true else (s.drop (a + 1)).take 2 == [48, 48]) = true ↔ (hexv s[a + 1] < 0 ∨ hexv s[a + 1 + 1] < 0 ∨ hexv s[a + 1] + hexv s[a + 1 + 1] = 0) := by
              by_cases hn2 : hexv s[a + 1 + 1] < 0
              · rw [decide_eq_true hn2]; simp [hn2]
              · rw [decide_eq_false hn2]
                simp only [cond_false]
                rw [two_eq s (a + 1) h4, head_at]
                constructor
                · rintro ⟨e1, h6, e2⟩
                  rw [e1, e2, hexv48]; omega
                · intro h'
                  have e1 := hexv0 s[a + 1] (by omega)
                  have e2 := hexv0 s[a + 1 + 1] (by omega)
                  exact ⟨e1, h5, e2⟩
            refine C_r15_name_9_of _ _ _ _ _ (brB key (fun hb => ?_) fun hb => ?_)
            · rw [if_pos hb] at hX
              apply K_r15_name_5_x0
              apply K_r15_name_2_x0
              exact bad 4 hX.symm
            · rw [if_neg hb] at hX
              apply K_r15_name_5_x1
              refine C_r15_name_11_of _ _ _ _ ⟨⟨by omega, by omega⟩, ?_⟩
              rw [wr1 (a + 1) (by omega), wr2 (a + 1) (by omega), c_at s (a + 1) h4, c_at s (a + 1 + 1) h5]
              refine ⟨⟨by omega, by omega⟩, Call.use (S_r01_Hex _) ⟨⟨rfl, rfl⟩, Call.use (S_r01_Hex _) ⟨⟨rfl, rfl⟩, ?_⟩⟩⟩
              apply K_r15_name_4_x0
              rw [rI_int, rI_int, nib2 _ _ (by omega) (by omega) (by omega) (by omega)]
              exact push (byB (16 * hexv s[a + 1] + hexv s[a + 1 + 1])) (a + 1 + 2) (by omega) hX.symm
          · rw [if_pos (.inl hn1)] at hX; exact hX.symm
        · refine ⟨rfl, Let.intro ⟨fun h' => (by cases h'), brEF (p := True) (by simp) (fun h => absurd trivial h) fun _ => ⟨rfl, Let.intro ⟨fun h' => (by cases h'), Let.intro (Let.intro (wrong ?_))⟩⟩⟩⟩
          rw [← hX]
          by_cases h4 : a + 1 < s.length
          · rw [dropC s (a + 1) h4, List.drop_eq_nil_of_le (by omega)]
          · rw [List.drop_eq_nil_of_le (by omega)]
      · rw [wr1 a (by omega)]
        rw [nameL.eq_def] at hX
        simp only at hX
        rw [if_pos hk, if_neg (by omega)] at hX
        exact push s[a] (a + 1) (by omega) hX.symm
    · rw [nameL.eq_def] at hX
      simp only at hX
      rw [if_neg hk] at hX
      exact fin a out hX.symm
theorem S_rname (a : Nat) : Call E0.P fn_r15_name [.imm (.str s), .imm (.int .i64 (a : Int))] [] (Is (partA (nameL (s.drop a) [] a)) []) :=
  F_r15_name_of _ _ _ (L_rname s hs _ _ ⟨rfl, rfl⟩ s.length a [] (by omega) (by simp) rfl)
end
def frX : List UInt8 := [110, 114, 116, 98, 102]
def toX : List UInt8 := [10, 13, 9, 8, 12]
def frN (i : Nat) : Nat := (frX.getD i 0).toNat
theorem fr_lt : ∀ i : Fin 5, 56 ≤ frN i.val ∧ frN i.val < 256 := by decide +kernel
theorem to_one : ∀ i : Fin 5, List.drop i.val (List.take (i.val + 1) toX) = [toX.getD i.val 0] := by decide +kernel
theorem let_fin : ∀ i : Fin 5, letterL (UInt8.ofNat (frN i.val)) = toX.getD i.val 0 := by decide +kernel
theorem let_miss (c : UInt8) (h : ∀ j, j < 5 → frN j ≠ c.toNat) : letterL c = c := by
  have h0 : (110 : Nat) ≠ c.toNat := h 0 (by omega)
  have h1 : (114 : Nat) ≠ c.toNat := h 1 (by omega)
  have h2 : (116 : Nat) ≠ c.toNat := h 2 (by omega)
  have h3 : (98 : Nat) ≠ c.toNat := h 3 (by omega)
  have h4 : (102 : Nat) ≠ c.toNat := h 4 (by omega)
  unfold letterL
  rw [if_neg (by omega), if_neg (by omega), if_neg (by omega), if_neg (by omega), if_neg (by omega)]
theorem tm_fin : ∀ v : Fin 512, UInt8.ofNat (gI [IV.int .u8 (IntKind.u8.wrap (((v : Nat) : Int).tmod 256))] 0).toNat = UInt8.ofNat (v : Nat) := by decide +kernel
abbrev meantA (t : List UInt8) (e : Int) : AV := .tup [.imm (.str t), .imm (.int .i64 e)]
section
variable (s : List UInt8) (hs : s.length ≤ 65535)
include hs
theorem L_moct (a : Nat) (K : KK) : ∀ (k i n : Nat), k + i = 3 → n < 8 ^ i → K (.exit 2) ⟨[(0, .imm (.str s)), (1, .imm (.int .i64 a)), (10, .imm (.int .i64 ((octL k (s.drop (a + i)) n).1 : Nat))), (11, .imm (.int .i64 ((i + (octL k (s.drop (a + i)) n).2 : Nat))))], []⟩ → a ≤ s.length → L_r15_meant_20 s a n i K := by
  intro k
  induction k with
  | zero =>
    intro i n hi hn hK ha
    have e3 : i = 3 := by omega
    subst e3
    refine L_r15_meant_20_of _ _ _ _ _ (Let.intro ?_)
    rw [show (bif decide (((3 : Nat) : Int) < 3) then decide (IntKind.i64.wrap ((a : Int) + ((3 : Nat) : Int)) < (s.length : Int)) else false) = false from rfl]
    refine ⟨fun h => (by cases h), Let.intro ⟨fun h => (by cases h), Let.intro (brF ?_)⟩⟩
    simpa only [octL, Nat.add_zero] using hK
  | succ k ih =>
    intro i n hi hn hK ha
    refine L_r15_meant_20_of _ _ _ _ _ (Let.intro ?_)
    rw [wrA a i (by omega)]
    have x0 : (bif decide ((i : Int) < 3) then decide (((a + i : Nat) : Int) < (s.length : Int)) else false) = decide (a + i < s.length) := by
      rw [decide_eq_true (show (i : Int) < 3 by omega), cond_true]
      by_cases h : a + i < s.length
      · rw [decide_eq_true h, decide_eq_true (by omega)]
      · rw [decide_eq_false h, decide_eq_false (by omega)]
    rw [x0]
    by_cases h : a + i < s.length
    · rw [c_at s (a + i) h, decide_eq_true h]
      rw [dropC s (a + i) h, octL] at hK
      simp only [cond_true]
      refine ⟨fun _ => ⟨by omega, by omega⟩, Let.intro ⟨fun _ => ⟨by omega, by omega⟩, Let.intro (brB (p := isOct s[a + i] = true) (by rw [andB2, isOct_iff]; omega) (fun ho => ?_) fun ho => ?_)⟩⟩
      · have h2 := (isOct_iff _).1 ho
        have h64 : n < 64 := Nat.lt_of_lt_of_le hn (Nat.pow_le_pow_right (n := 8) (by decide) (show i ≤ 2 by omega))
        rw [if_pos ho] at hK
        rw [wrap_id (8 * (n : Int)) (by omega) (by omega), wrapC _ (by omega), wrap_id (8 * (n : Int) + (s[a + i].toNat : Int)) (by omega) (by omega), wrap_id _ (by omega) (by omega), wr1 i (by omega)]
        rw [show 8 * (n : Int) + (s[a + i].toNat : Int) - 48 = ((8 * n + (s[a + i].toNat - 48) : Nat) : Int) by omega]
        refine ⟨⟨by omega, by omega⟩, ih (i + 1) _ (by omega) (by rw [Nat.pow_succ]; omega) ?_ ha⟩
        rw [show a + (i + 1) = a + i + 1 by omega, show i + 1 + (octL k (s.drop (a + i + 1)) (8 * n + (s[a + i].toNat - 48))).2 = i + ((octL k (s.drop (a + i + 1)) (8 * n + (s[a + i].toNat - 48))).2 + 1) by omega]
        exact hK
      · rw [if_neg ho] at hK; exact hK
    · rw [decide_eq_false h]
      rw [List.drop_eq_nil_of_le (by omega)] at hK
      refine ⟨fun h => (by cases h), Let.intro ⟨fun h => (by cases h), Let.intro (brF ?_)⟩⟩
      simpa only [octL, Nat.add_zero] using hK
theorem L_mlet (a : Nat) (h : a < s.length) (he : eolL (s.drop a) = 0) (t : List UInt8) (k : Nat) (hesc : escL (s.drop a) = some (t, k)) (Q : QQ) (hq : Q (meantA t (a + k : Nat)) []) : ∀ (m i : Nat), m + i = 5 → (∀ j, j < i → frN j ≠ s[a].toNat) → L_r15_meant_11 s a frX toX i (K_r15_meant_1 Q) := by
  have hdr := dropC s a h
  rw [hdr, escL, ← hdr, if_neg (by omega)] at hesc
  intro m
  induction m with
  | zero =>
    intro i hi ha
    have h5 : i = 5 := by omega
    subst h5
    refine L_r15_meant_11_of _ _ _ _ _ _ (brD (fun h => absurd h (by decide)) fun _ => ?_)
    apply K_r15_meant_1_x1
    refine C_r15_meant_18_of _ _ _ (L_moct s hs a _ 3 0 0 rfl (by decide) ?_ (by omega))
    apply K_r15_meant_3_x0
    rw [Nat.add_zero, Nat.zero_add]
    have hlt := octL_lt 3 (s.drop a) 0 0 rfl (by decide)
    refine C_r15_meant_25_of _ _ _ _ _ (brB (p := isOct s[a] = true) ?_ (fun ho => ?_) fun ho => ?_)
    · rw [dec_iff, hdr, octL]
      by_cases ho : isOct s[a] = true
      · simp [ho]
      · simp [ho]
    · rw [if_pos ho] at hesc
      injection hesc with hesc; injection hesc with e1 e2
      subst e1; subst e2
      have hle := octL_le 3 (s.drop a) 0
      rw [List.length_drop] at hle
      refine ⟨by decide, ⟨fun r hr => ?_, ?_⟩⟩
      · have : r = [IV.int .u8 (IntKind.u8.wrap (((octL 3 (s.drop a) 0).1 : Int).tmod 256))] := by simpa using hr
        rw [this]; rfl
      apply K_r15_meant_2_x0
      apply K_r15_meant_0_x0
      rw [tm_fin ⟨_, hlt⟩, wrA a _ (by omega)]
      exact hq
    · rw [if_neg ho] at hesc
      injection hesc with hesc; injection hesc with e1 e2
      subst e1; subst e2
      rw [wr1 a (by omega), Int.toNat_natCast, Int.toNat_natCast, cut_one s a h]
      refine ⟨⟨by omega, by omega, by omega⟩, Let.intro ?_⟩
      apply K_r15_meant_2_x0
      apply K_r15_meant_0_x0
      rw [let_miss _ (fun j hj => ha j (by omega))] at hq
      exact hq
  | succ m ih =>
    intro i hi ha
    have hf := fr_lt ⟨i, by omega⟩
    simp only at hf
    refine L_r15_meant_11_of _ _ _ _ _ _ (brD (fun _ => ⟨⟨by omega, by omega⟩, ⟨⟨by omega, by show (i : Int) < ((5 : Nat) : Int); omega⟩, ?_⟩⟩) fun h => absurd (show (i : Int) < ((5 : Nat) : Int) by omega) h)
    rw [c_at s a h, Int.toNat_natCast, show (frX.getD i 0).toNat = frN i from rfl]
    refine brD (fun e => ?_) fun e => ?_
    · have e' : s[a] = UInt8.ofNat (frN i) := (n_eq hf.2).2 (by omega)
      have ho : ¬ isOct s[a] = true := by rw [isOct_iff]; omega
      rw [if_neg ho] at hesc
      injection hesc with hesc; injection hesc with e1 e2
      subst e1; subst e2
      rw [wr1 i (by omega), wr1 a (by omega), Int.toNat_natCast, to_one ⟨i, by omega⟩]
      refine ⟨⟨by omega, by omega, by show ((i + 1 : Nat) : Int) ≤ ((5 : Nat) : Int); omega⟩, Let.intro ?_⟩
      apply K_r15_meant_1_x0
      have hl := let_fin ⟨i, by omega⟩
      simp only at hl
      rw [e', hl] at hq
      exact hq
    · rw [wr1 i (by omega)]
      refine ih (i + 1) (by omega) fun j hj => ?_
      by_cases ej : j = i
      · subst ej; omega
      · exact ha j (by omega)
theorem S_meant_none (a : Nat) (h : ¬ a < s.length) : Call E0.P fn_r15_meant [.imm (.str s), .imm (.int .i64 (a : Int))] [] (Is (meantA [] (-1)) []) :=
  have _ := hs
  F_r15_meant_of _ _ _ (brD (fun _ => ⟨rfl, rfl⟩) fun h => by omega)
theorem S_meant (a : Nat) (h : a < s.length) (t : List UInt8) (k : Nat) (he : escL (s.drop a) = some (t, k)) : Call E0.P fn_r15_meant [.imm (.str s), .imm (.int .i64 (a : Int))] [] (Is (meantA t (a + k : Nat)) []) := by
  refine F_r15_meant_of _ _ _ (brD (fun h => by omega) fun _ => Call.use (S_r01_Ends s (by omega) a) ⟨⟨rfl, rfl⟩, ?_⟩)
  rw [rI_int]
  have hb := eol_le (s.drop a)
  rw [List.length_drop] at hb
  refine brB (p := 0 < eolL (s.drop a)) (by rw [dec_iff]; omega) (fun h1 => ?_) fun h1 => ?_
  · rw [dropC s a h, escL, ← dropC s a h, if_pos h1] at he
    injection he with he; injection he with e1 e2
    subst e1; subst e2
    rw [wrA a _ (by omega)]
    exact ⟨rfl, rfl⟩
  · exact L_mlet s hs a h (by omega) t k he _ ⟨rfl, rfl⟩ 5 0 rfl (fun j hj => by omega)
end
end Go.Proofs.Sim.Se

set_option maxRecDepth 100000
namespace Go.Proofs.Sim.Se
open Go Go.Proofs Go.Proofs.Sim Go.Proofs.Sim.Va Go.RowKit Go.Proofs.Sim.Pa

theorem next_end (s : List UInt8) (a : Int) (h : ¬ skipP s a < s.length) : nextL s a = ⟨0, 0, 0, [], skipP s a, skipP s a⟩ := by
  unfold nextL; rw [List.drop_eq_nil_of_le (by omega)]
theorem next_tok (s : List UInt8) (a : Int) (h : skipP s a < s.length) : nextL s a = tokL s[skipP s a] (s.drop (skipP s a + 1)) (skipP s a) := by
  unfold nextL; rw [dropC s _ h]
section
variable (s : List UInt8) (hs : s.length ≤ 65535)
include hs
theorem L_rplain (Q : QQ) (X : Part) (hq : Q (partA X) []) : ∀ (m a : Nat) (out : List UInt8) (d : Nat), s.length < a + m → a ≤ s.length → out.length ≤ a → 1 ≤ d → d ≤ a + 1 → textL m (s.drop a) out d a = X → L_r15_plain_3 s a out d (K_r15_plain_1 Q) := by
  have bad : ∀ e : Int, X = ([], 0, e) → K_r15_plain_1 Q .ret ⟨[(4, .imm (.str [])), (5, .imm (.int .i64 0)), (6, .imm (.int .i64 e))], []⟩ := by
    intro e hx
    apply K_r15_plain_1_x0
    rw [hx] at hq; exact hq
  intro m
  induction m with
  | zero => intro a out d hm ha; omega
  | succ m ih =>
    intro a out d hm ha ho hd1 hd2 hX
    by_cases h : a < s.length
    case neg =>
      rw [List.drop_eq_nil_of_le (by omega)] at hX
      refine L_r15_plain_3_of _ _ _ _ _ (brD (fun h => by omega) fun _ => ?_)
      apply K_r15_plain_1_x1
      refine C_r15_plain_24_of _ ?_
      apply K_r15_plain_0_x0
      rw [← hX] at hq; exact hq
    have hdr := dropC s a h
    have he := eol_le (s.drop a)
    rw [List.length_drop] at he
    rw [hdr, textL, ← hdr] at hX
    have push : ∀ (t : List UInt8) (d' b : Nat), a < b → b ≤ s.length → t.length ≤ 1 → 1 ≤ d' → d' ≤ b + 1 → textL m (s.drop b) (out ++ t) d' b = X → C_r15_plain_16 s out d' t b (K_r15_plain_2 (K_r15_plain_1 Q)) := by
      intro t d' b hab hbs ht h1 h2 hx
      have hl : (out ++ t).length = out.length + t.length := by simp
      refine C_r15_plain_16_of _ _ _ _ _ _ (brD (fun h => by omega) fun _ => ⟨by omega, brD (fun h => by rw [hl] at h; omega) fun _ => ?_⟩)
      apply K_r15_plain_2_x1
      exact ih b (out ++ t) d' (by omega) hbs (by omega) h1 h2 hx
    refine L_r15_plain_3_of _ _ _ _ _ (brD (fun _ => ?_) fun h => by omega)
    rw [c_at s a h, wr1 a (by omega), Int.toNat_natCast, Int.toNat_natCast, cut_one s a h]
    refine ⟨⟨by omega, by omega, by omega⟩, Let.intro (Call.use (S_r01_Ends s (by omega) a) ⟨⟨rfl, rfl⟩, ?_⟩)⟩
    rw [rI_int]
    refine brB (p := 0 < eolL (s.drop a)) (by rw [dec_iff]; omega) (fun h1 => ?_) fun h1 => ?_
    · rw [if_pos h1, List.drop_drop] at hX
      rw [wrA a _ (by omega)]
      exact push [10] d _ (by omega) (by omega) (by simp) hd1 (by omega) hX
    rw [if_neg h1] at hX
    refine ⟨⟨by omega, by omega⟩, brD (fun h92 => ?_) fun h92 => ?_⟩
    · rw [if_pos (by omega)] at hX
      by_cases h2 : a + 1 < s.length
      · rcases hesc : escL (s.drop (a + 1)) with _ | ⟨t, k⟩
        · rw [dropC s (a + 1) h2, escL] at hesc
          split at hesc
          · cases hesc
          · split at hesc <;> cases hesc
        · rw [hesc] at hX
          have hk := esc_le hesc
          rw [List.length_drop] at hk
          refine Call.use (S_meant s hs (a + 1) h2 t k hesc) ⟨⟨rfl, rfl⟩, ?_⟩
          rw [show rI (rT (meantA t (a + 1 + k : Nat)) 1) = ((a + 1 + k : Nat) : Int) from rfl, show rS (rT (meantA t (a + 1 + k : Nat)) 0) = t from rfl]
          simp only [List.drop_drop] at hX
          exact brD (fun h => by omega) fun _ => push t d (a + 1 + k) (by omega) (by omega) hk.2.2 hd1 (by omega) hX
      · rw [List.drop_eq_nil_of_le (show s.length ≤ a + 1 by omega), escL] at hX
        refine Call.use (S_meant_none s hs (a + 1) h2) ⟨⟨rfl, rfl⟩, ?_⟩
        rw [show rI (rT (meantA [] (-1)) 1) = -1 from rfl]
        refine brD (fun _ => ?_) fun h => absurd (by decide) h
        exact bad 5 hX.symm
    rw [if_neg (by omega)] at hX
    refine ⟨⟨by omega, by omega⟩, brD (fun h40 => ?_) fun h40 => ⟨⟨by omega, by omega⟩, ?_⟩⟩
    · rw [if_pos (by omega)] at hX
      rw [wr1 d (by omega)]
      exact push [s[a]] (d + 1) (a + 1) (by omega) (by omega) (by simp) (by omega) (by omega) (by rw [← hX]; simp)
    rw [if_neg (by omega)] at hX
    refine brD (fun h41 => ?_) fun h41 => ?_
    · rw [if_pos (by omega)] at hX
      rw [wrap_id ((d : Int) - 1) (by omega) (by omega)]
      by_cases h1 : d = 1
      · subst h1
        rw [if_pos (by simp)] at hX
        refine C_r15_plain_16_of _ _ _ _ _ _ (brD (fun _ => ?_) fun h => by omega)
        apply K_r15_plain_2_x0
        apply K_r15_plain_1_x0
        rw [← hX] at hq; exact hq
      · rw [if_neg (by omega)] at hX
        rw [show (d : Int) - 1 = ((d - 1 : Nat) : Int) by omega] at hX ⊢
        exact push [s[a]] (d - 1) (a + 1) (by omega) (by omega) (by simp) (by omega) (by omega) hX
    · rw [if_neg (by omega)] at hX
      exact push [s[a]] d (a + 1) (by omega) (by omega) (by simp) hd1 (by omega) hX
theorem S_rplain (a : Nat) (ha : a ≤ s.length) : Call E0.P fn_r15_plain [.imm (.str s), .imm (.int .i64 (a : Int))] [] (Is (partA (textL ((s.drop a).length + 1) (s.drop a) [] 1 a)) []) :=
  F_r15_plain_of _ _ _ (L_rplain s hs _ _ ⟨rfl, rfl⟩ _ a [] 1 (by rw [List.length_drop]; omega) ha (by simp) (by omega) (by omega) rfl)
theorem L_rhex (Q : QQ) (X : Part) (hq : Q (partA X) []) : ∀ (m a : Nat) (out : List UInt8) (half : Int), s.length ≤ a + m → a ≤ s.length → out.length ≤ a → -1 ≤ half → half ≤ 15 → hexL (s.drop a) half out a = X → L_r15_hex_3 s a half (byteRows out) (K_r15_hex_1 Q) := by
  have off : ∀ (a : Nat) (out : List UInt8) (half : Int), ¬ a < s.length → hexL (s.drop a) half out a = X → L_r15_hex_3 s a half (byteRows out) (K_r15_hex_1 Q) := by
    intro a out half h hX
    rw [List.drop_eq_nil_of_le (by omega)] at hX
    refine L_r15_hex_3_of _ _ _ _ _ (brD (fun h => by omega) fun _ => ?_)
    apply K_r15_hex_1_x1
    refine C_r15_hex_26_of _ ?_
    apply K_r15_hex_0_x0
    rw [← hX] at hq; exact hq
  intro m
  induction m with
  | zero => intro a out half hm ha ho h0 h1 hX; exact off a out half (by omega) hX
  | succ m ih =>
    intro a out half hm ha ho h0 h1 hX
    by_cases h : a < s.length
    case neg => exact off a out half h hX
    have hd := hexv_b s[a]
    have hb := bl1 out
    rw [dropC s a h, hexL] at hX
    refine L_r15_hex_3_of _ _ _ _ _ (brD (fun _ => ⟨⟨by omega, by omega⟩, ?_⟩) fun h => by omega)
    rw [c_at s a h, wr1 a (by omega)]
    refine Call.use (S_r01_Hex _) ⟨⟨rfl, rfl⟩, Let.intro ?_⟩
    rw [rI_int]
    -- the end of a step
    have nxt : ∀ (half' : Int) (o : List UInt8), s[a].toNat ≠ 62 → o.length ≤ a + 1 → -1 ≤ half' → half' ≤ 15 → hexL (s.drop (a + 1)) half' o (a + 1) = X → C_r15_hex_20 s (a + 1 : Nat) half' (s[a].toNat : Int) (byteRows o) (K_r15_hex_4 (K_r15_hex_2 (K_r15_hex_1 Q))) := by
      intro half' o hne hol q0 q1 hx
      refine C_r15_hex_20_of _ _ _ _ _ _ (brD (fun h' => by rw [bl1] at h'; omega) fun _ => brD (fun h' => by omega) fun _ => ?_)
      apply K_r15_hex_4_x1
      apply K_r15_hex_2_x1
      exact ih (a + 1) o half' (by omega) (by omega) hol q0 q1 hx
    refine brB (p := s[a].toNat = 62 ∧ half < 0) (by rw [andB2]; omega) (fun h62 => ⟨brow_ok _, ?_⟩) fun hn => brD (fun h62 => ?_) fun h62 => ?_
    · rw [if_pos h62.1, if_pos h62.2] at hX
      apply K_r15_hex_1_x0
      rw [unrow]
      rw [← hX] at hq; exact hq
    · have hh : ¬ half < 0 := fun h' => hn ⟨by omega, h'⟩
      rw [if_pos (by omega), if_neg hh] at hX
      refine C_r15_hex_16_of _ _ _ _ _ _ _ (Let.intro (brB (andB2 _ _) (fun h' => absurd h'.2 hh) fun _ => brD (fun _ => ⟨⟨by omega, by omega⟩, ?_⟩) fun h' => absurd (Int.le_refl 0) h'))
      rw [nib2 half 0 (by omega) h1 (by omega) (by omega), Int.add_zero, row1]
      refine C_r15_hex_20_of _ _ _ _ _ _ (brD (fun h' => by rw [bl1] at h'; simp at h'; omega) fun _ => brD (fun _ => ⟨brow_ok _, ?_⟩) fun h' => absurd h62 h')
      apply K_r15_hex_4_x0
      apply K_r15_hex_2_x0
      apply K_r15_hex_1_x0
      rw [unrow]
      rw [← hX] at hq; exact hq
    · rw [if_neg (by omega)] at hX
      have step : ¬ (hexv s[a] < 0 ∧ kd s[a] ≠ 0) → C_r15_hex_14 s (a + 1 : Nat) half (s[a].toNat : Int) (hexv s[a]) false (byteRows out) (K_r15_hex_3 (K_r15_hex_1 Q)) := by
        intro hk
        refine C_r15_hex_14_of _ _ _ _ _ _ _ _ (brF ?_)
        apply K_r15_hex_3_x1
        refine C_r15_hex_16_of _ _ _ _ _ _ _ (Let.intro (brB (andB2 _ _) (fun h' => ?_) fun h' => brD (fun hv => ⟨⟨by omega, by omega⟩, ?_⟩) fun hv => ?_))
        · rw [if_neg (by omega), if_pos h'.2] at hX
          exact nxt _ _ (by omega) (by omega) (by omega) hd.2 hX
        · rw [if_neg (by omega), if_neg (fun h2 => h' ⟨hv, h2⟩)] at hX
          rw [nib2 _ _ (by omega) h1 (by omega) hd.2, row1]
          exact nxt _ _ (by omega) (by simp; omega) (by omega) (by omega) hX
        · rw [if_pos (by omega), if_pos (Classical.not_not.1 fun h2 => hk ⟨by omega, h2⟩)] at hX
          exact nxt _ _ (by omega) (by omega) h0 h1 hX
      refine brE dec_iff (fun hv => Call.use (S_rkd _) ⟨⟨rfl, rfl⟩, Let.intro ?_⟩) fun hv => ⟨rfl, Let.intro (step fun h' => hv h'.1)⟩
      rw [rI_int]
      by_cases hk : kd s[a] = 0
      · rw [decide_eq_true hk]; exact step fun h' => h'.2 hk
      · rw [decide_eq_false hk]
        rw [if_pos hv, if_neg hk] at hX
        refine C_r15_hex_14_of _ _ _ _ _ _ _ _ (brT ?_)
        apply K_r15_hex_3_x0
        apply K_r15_hex_1_x0
        rw [← hX] at hq; exact hq
theorem S_rhex (a : Nat) (ha : a ≤ s.length) : Call E0.P fn_r15_hex [.imm (.str s), .imm (.int .i64 (a : Int))] [] (Is (partA (hexL (s.drop a) (-1) [] a)) []) :=
  F_r15_hex_of _ _ _ (L_rhex s hs _ _ ⟨rfl, rfl⟩ s.length a [] (-1) (by omega) ha (by simp) (by omega) (by omega) rfl)
omit hs in
theorem S_rsign (k : Int) (p : Nat) (x : Part) : Call E0.P fn_r15_sign [.imm (.int .i64 k), .imm (.int .i64 p), .imm (.str x.1), .imm (.int .i64 x.2.1), .imm (.int .i64 x.2.2)] [] (Is (nxA (partT k p x)) []) := by
  refine F_r15_sign_of _ _ _ _ _ _ (brN dec_iff (fun h => ?_) fun h => ?_)
  · unfold partT; rw [if_neg h]; exact ⟨rfl, rfl⟩
  · unfold partT; rw [if_pos h]; exact ⟨rfl, rfl⟩
theorem S_rword (a : Nat) (ha : a ≤ s.length) : Call E0.P fn_r15_word [.imm (.str s), .imm (.int .i64 (a : Int))] [] (Is (nxA (wordT (s.drop a) a)) []) := by
  have hw := span_le 2 (s.drop a)
  rw [List.length_drop] at hw
  refine F_r15_word_of _ _ _ (Call.use (S_r01_Span 2 s (by omega) a (by omega)) ⟨⟨rfl, rfl⟩, ?_⟩)
  rw [rI_int, wrA a _ (by omega), Int.toNat_natCast, Int.toNat_natCast, cut_word]
  refine ⟨⟨by omega, by omega, by omega⟩, Let.intro ?_⟩
  have hl : ((s.drop a).take (spanL 2 (s.drop a))).length = spanL 2 (s.drop a) := by rw [List.length_take, List.length_drop]; omega
  refine Call.use (S_r02_Loose _ (by omega)) ⟨⟨rfl, rfl⟩, ?_⟩
  rw [show rI (rT (isP (looseS ((s.drop a).take (spanL 2 (s.drop a))))) 0) = (looseS ((s.drop a).take (spanL 2 (s.drop a)))).1 from rfl, show rI (rT (isP (looseS ((s.drop a).take (spanL 2 (s.drop a))))) 1) = (looseS ((s.drop a).take (spanL 2 (s.drop a)))).2 from rfl]
  unfold wordT
  refine brD (fun e => ?_) fun e => brD (fun e2 => ?_) fun e2 => brD (fun e3 => ?_) fun e3 => ?_
  · rw [if_pos e]; exact ⟨rfl, rfl⟩
  · rw [if_neg e, if_pos e2]; exact ⟨rfl, rfl⟩
  · rw [if_neg e, if_neg e2, if_pos (by omega)]; exact ⟨rfl, rfl⟩
  · rw [if_neg e, if_neg e2, if_neg (by omega)]; exact ⟨rfl, rfl⟩
omit hs in
theorem two_cut (p : Nat) (h : p < s.length) : List.drop p (List.take (if ((p + 2 : Nat) : Int) < (s.length : Int) then ((p + 2 : Nat) : Int) else (s.length : Int)).toNat s) = (s.drop p).take 2 := by
  split
  · rw [Int.toNat_natCast, cut_word]
  · rw [Int.toNat_natCast, List.take_length, List.take_of_length_le]
    rw [List.length_drop]; omega
theorem S_rNext (a : Int) : Call E0.P fn_r15_Next [.imm (.str s), .imm (.int .i64 a)] [] (Is (nxA (nextL s a)) []) := by
  have hs9 : s.length ≤ 1000000000 := by omega
  have hp := skipP_le s a
  refine F_r15_Next_of _ _ _ (Call.use (S_r15_Skip s hs9 a) ⟨⟨rfl, rfl⟩, ?_⟩)
  rw [rI_int]
  refine brD (fun e => ?_) fun e => ?_
  · rw [next_end s a (by omega)]; exact ⟨rfl, rfl⟩
  have h : skipP s a < s.length := by omega
  have h37 : s[skipP s a].toNat ≠ 37 := by
    refine skip_no37 false (s.drop (plc s a)) _ (s.drop (skipP s a + 1)) ?_
    rw [List.drop_drop]
    exact dropC s _ h
  rw [next_tok s a h]
  generalize skipP s a = p at h h37 hp
  rw [wr2 p (by omega), wr1 p (by omega), Int.toNat_natCast, two_cut s p h, show s.getD p 0 = s[p] from by simp [List.getD_eq_getElem?_getD, h]]
  have bp : (0 : Int) ≤ (p : Int) ∧ (p : Int) < (s.length : Int) := ⟨by omega, by omega⟩
  refine ⟨⟨by omega, by split <;> omega, by split <;> omega⟩, Let.intro ⟨bp, ?_⟩⟩
  unfold tokL
  have c60 : ((s.drop p).take 2 == [60, 60]) = true ↔ s[p].toNat = 60 ∧ (s.drop (p + 1)).head? = some 60 := by rw [two_eq s p h, show (60 : UInt8) = UInt8.ofNat 60 from rfl, n_eq (by omega)]
  have c62 : ((s.drop p).take 2 == [62, 62]) = true ↔ s[p].toNat = 62 ∧ (s.drop (p + 1)).head? = some 62 := by rw [two_eq s p h, show (62 : UInt8) = UInt8.ofNat 62 from rfl, n_eq (by omega)]
  refine brD (fun e => ?_) fun e1 => ⟨bp, brD (fun e => ?_) fun e2 => brB c60 (fun e => ?_) fun e3 => brB c62 (fun e => ?_) fun e4 => ⟨bp, brD (fun e => ?_) fun e5 => ⟨bp, brD (fun e => ?_) fun e6 => ⟨bp, brD (fun e => ?_) fun e7 => ⟨bp, ?_⟩⟩⟩⟩⟩
  · rw [if_pos (by omega)]; exact ⟨rfl, rfl⟩
  · rw [if_neg (by omega), if_pos (by omega)]; exact ⟨rfl, rfl⟩
  · rw [if_neg (by omega), if_neg (by omega), if_neg (by omega), if_neg (by omega), if_pos e.1, if_pos e.2]; exact ⟨rfl, rfl⟩
  · rw [if_neg (by omega), if_neg (by omega), if_neg (by omega), if_neg (by omega), if_neg (by omega), if_pos e.1, if_pos e.2]; exact ⟨rfl, rfl⟩
  · rw [if_neg (by omega), if_neg (by omega), if_pos (by omega)]
    exact Call.use (S_rname s hs (p + 1)) ⟨⟨rfl, rfl⟩, Call.use (S_rsign 2 p _) ⟨⟨rfl, rfl⟩, ⟨rfl, rfl⟩⟩⟩
  · rw [if_neg (by omega), if_neg (by omega), if_neg (by omega), if_pos (by omega)]
    exact Call.use (S_rplain s hs (p + 1) (by omega)) ⟨⟨rfl, rfl⟩, Call.use (S_rsign 3 p _) ⟨⟨rfl, rfl⟩, ⟨rfl, rfl⟩⟩⟩
  · rw [if_neg (by omega), if_neg (by omega), if_neg (by omega), if_neg (by omega), if_pos (by omega), if_neg (fun h' => e3 ⟨by omega, h'⟩)]
    exact Call.use (S_rhex s hs (p + 1) (by omega)) ⟨⟨rfl, rfl⟩, Call.use (S_rsign 3 p _) ⟨⟨rfl, rfl⟩, ⟨rfl, rfl⟩⟩⟩
  · rw [if_neg (by omega), if_neg (by omega), if_neg (by omega), if_neg (by omega), if_neg (by omega)]
    refine Call.use (S_rkd _) ⟨⟨rfl, rfl⟩, ?_⟩
    rw [rI_int]
    refine brD (fun e => ?_) fun e => ?_
    · by_cases h62 : s[p].toNat = 62
      · rw [if_pos h62, if_neg (fun h' => e4 ⟨h62, h'⟩)]; exact ⟨rfl, rfl⟩
      · rw [if_neg h62, if_pos e]; exact ⟨rfl, rfl⟩
    · have h62 : ¬ s[p].toNat = 62 := by
        intro h62
        refine e ?_
        unfold kd kindB
        rw [if_neg (by omega), if_pos (by omega)]
      rw [if_neg h62, if_neg e, ← dropC s p h]
      exact Call.use (S_rword s hs p (by omega)) ⟨⟨rfl, rfl⟩, ⟨rfl, rfl⟩⟩
end
end Go.Proofs.Sim.Se

import Derived.Test.YtcdjheflchglaaaDoorWrA
set_option linter.unusedVariables false
set_option linter.unusedSimpArgs false
set_option maxRecDepth 100000
namespace Go.Proofs.Sim.Se
open Go Go.Proofs Go.Proofs.Sim Go.Proofs.Sim.Va Go.RowKit

theorem L_zero (s : List UInt8) (hs : s.length ≤ 1000000000000) (Q : AV → Heap → Prop) (hq : Q (.imm (.bool (decide ((0 : UInt8) ∈ s)))) []) : ∀ (m i : Nat), m + i = s.length → (∀ c ∈ s.take i, c ≠ 0) → L_r16_zero_2 s i (K_r16_zero_1 Q) := by
  intro m
  induction m with
  | zero =>
    intro i hi ha
    refine L_r16_zero_2_of _ _ _ (brD (fun h => by omega) fun _ => ?_)
    rw [List.take_of_length_le (by omega)] at ha
    rw [decide_eq_false (fun h => ha 0 h rfl)] at hq
    exact K_r16_zero_1_x1 _ (C_r16_zero_9_of _ (K_r16_zero_0_x0 _ _ hq))
  | succ m ih =>
    intro i hi ha
    have hlt : i < s.length := by omega
    refine L_r16_zero_2_of _ _ _ (brD (fun _ => ⟨⟨by omega, by omega⟩, ?_⟩) fun h => by omega)
    rw [c_at s i hlt, wr1 i (by omega)]
    refine brD (fun e => ?_) fun e => ih (i + 1) (by omega) (all_next (P := fun c : UInt8 => c ≠ 0) _ _ hlt ha fun h => e (by rw [h]; rfl))
    have e : s[i] = 0 := by
      have h1 : s[i].toNat = (0 : UInt8).toNat := by show s[i].toNat = 0; omega
      exact UInt8.toNat_inj.1 h1
    rw [decide_eq_true (by rw [← e]; exact List.getElem_mem hlt)] at hq
    exact K_r16_zero_1_x0 _ _ hq
theorem S_zero (s : List UInt8) (hs : s.length ≤ 1000000000000) : Call E0.P fn_r16_zero [.imm (.str s)] [] (Is (.imm (.bool (decide ((0 : UInt8) ∈ s)))) []) :=
  F_r16_zero_of _ _ (L_zero s hs _ ⟨rfl, rfl⟩ s.length 0 rfl (by simp))
theorem andN (b : Bool) (p : Prop) {i : Decidable p} : ((bif b then !@decide p i else false) = true) ↔ (b = true ∧ ¬ p) := by cases b <;> simp
theorem notD (p : Prop) {i : Decidable p} : ((!@decide p i) = true) ↔ ¬ p := by simp
theorem S_extra (v : V) : Call E0.P fn_r16_extra [.imm (.agg (rowX v))] [] (Is (.imm (.bool (decide (extraV v)))) []) := by
  have hl : ∀ n : Nat, (0 : Int) < (n : Int) ↔ 0 < n := fun n => by omega
  have yes : extraV v → Is (.imm (.bool (decide (extraV v)))) [] (.imm (.bool true)) [] := fun h => by rw [decide_eq_true h]; exact ⟨rfl, rfl⟩
  refine F_r16_extra_of _ _ _ _ _ _ _ (Let.intro (Let.intro (Let.intro (brNF (p := v.n ≠ 0 ∧ ¬ (v.k = 1 ∨ v.k = 2 ∨ v.k = 7)) ?_ (fun n0 => ?_) fun y => ⟨rfl, Let.intro (brDead ⟨rfl, Let.intro (brDead ⟨rfl, Let.intro (brDead ⟨rfl, Let.intro (yes (.inl y))⟩)⟩)⟩)⟩))))
  · rw [andN, andN, andN, notD]; omega
  refine Let.intro (Let.intro (brNF (p := v.g ≠ 0 ∧ v.k ≠ 7) ?_ (fun n1 => ?_) fun y => ⟨rfl, Let.intro (brDead ⟨rfl, Let.intro (brDead ⟨rfl, Let.intro (yes (.inr (.inl y)))⟩)⟩)⟩))
  · rw [andN, notD]
  refine Let.intro (Let.intro (Let.intro (Let.intro (brNF (p := v.s ≠ [] ∧ ¬ (v.k = 3 ∨ v.k = 4 ∨ v.k = 8)) ?_ (fun n2 => ?_) fun y => ⟨rfl, Let.intro (brDead ⟨rfl, Let.intro (yes (.inr (.inr (.inl y))))⟩)⟩))))
  · rw [andN, andN, andN]
    have : (!v.s == []) = true ↔ v.s ≠ [] := by simp
    rw [this]
    constructor
    · rintro ⟨⟨⟨a, b⟩, c⟩, d⟩; exact ⟨a, by omega⟩
    · rintro ⟨a, b⟩; exact ⟨⟨⟨a, by omega⟩, by omega⟩, by omega⟩
  refine Let.intro (Let.intro (brNF (p := 0 < v.l.length ∧ v.k ≠ 5) ?_ (fun n3 => ?_) fun y => ⟨rfl, Let.intro (yes (.inr (.inr (.inr (.inl y)))))⟩))
  · rw [andN, dec_iff, List.length_map, hl]
  refine Let.intro (Let.intro (Let.intro ?_))
  have : (bif (bif decide ((0 : Int) < ((v.d.map pRow).length : Int)) then !decide (v.k = 6) else false) then !decide (v.k = 8) else false) = decide (extraV v) := by
    rw [Bool.eq_iff_iff, andN, andN, dec_iff, dec_iff, List.length_map, hl, extraV]
    exact ⟨fun h => .inr (.inr (.inr (.inr ⟨h.1.1, by omega⟩))), fun h => by
      rcases h with h | h | h | h | h
      · exact absurd h n0
      · exact absurd h n1
      · exact absurd h n2
      · exact absurd h n3
      · exact ⟨⟨h.1, by omega⟩, by omega⟩⟩
  rw [this]
  exact ⟨rfl, rfl⟩
theorem S_out (v : V) : Call E0.P fn_r16_out [.imm (.agg (rowX v))] [] (Is (.imm (.bool (decide (outV v)))) []) := by
  have fin : ∀ b : Bool, (b = true ↔ outV v) → Is (.imm (.bool (decide (outV v)))) [] (.imm (.bool b)) [] := by
    intro b hb
    have : b = decide (outV v) := by rw [Bool.eq_iff_iff, hb, dec_iff]
    rw [this]; exact ⟨rfl, rfl⟩
  refine F_r16_out_of _ _ _ _ _ _ _ (brD (fun h => Let.intro (fin _ ?_)) fun h1 => brD (fun h => Let.intro (fin _ ?_)) fun h2 => brD (fun h => Let.intro (Let.intro (Let.intro (fin _ ?_)))) fun h7 => fin _ ?_)
  · rw [andN, notD, outV]; omega
  · rw [orB, outV]; omega
  · rw [orB2, orB2, orB, outV]; omega
  · rw [outV]
    constructor
    · intro h; cases h
    · intro h; omega
theorem S_holder (k : Int) : Call E0.P fn_r16_holder [.imm (.int .i64 k)] [] (Is (.imm (.bool (decide (k = 5 ∨ k = 6 ∨ k = 8)))) []) := by
  refine F_r16_holder_of _ _ (Let.intro (Let.intro ?_))
  have : (bif (bif decide (k = 5) then true else decide (k = 6)) then true else decide (k = 8)) = decide (k = 5 ∨ k = 6 ∨ k = 8) := by
    rw [Bool.eq_iff_iff, orB2, orB, dec_iff]; omega
  rw [this]; exact ⟨rfl, rfl⟩
theorem one_3 (v : V) (st : Bool) (w : Int) (b : Bool) (hk : ¬ ((v.k < 0 ∨ 8 < v.k) ∨ (v.k = 8 ∧ st = false))) (hb : b = true ↔ (extraV v ∨ (v.k = 3 ∧ (0 : UInt8) ∈ v.s))) (Q : AV → Heap → Prop) (hQ : Q (.imm (.int .i64 (ownV v st w))) []) :
    C_r16_one_3 w b v.k v.n v.g v.s (v.l.map V.row) (v.d.map pRow) (K_r16_one_1 Q) := by
  rw [ownV, if_neg hk] at hQ
  have ret : ∀ n : Int, Q (.imm (.int .i64 n)) [] → K_r16_one_1 Q .ret ⟨[(6, .imm (.int .i64 n))], []⟩ := fun n h => K_r16_one_1_x0 _ _ h
  have l8 : ∀ n : Nat, ((127 : Int) < (n : Int) ↔ 127 < n) ∧ ((65535 : Int) < (n : Int) ↔ 65535 < n) ∧ ((1048576 : Int) < (n : Int) ↔ 1048576 < n) := fun n => ⟨by omega, by omega, by omega⟩
  obtain ⟨q1, q2, q3⟩ := l8 v.s.length
  refine C_r16_one_3_of _ _ _ _ _ _ _ _ _ (brB hb (fun h => ret _ ?_) fun h4 => Call.use (S_out v) ⟨⟨rfl, rfl⟩, brB (p := outV v) (by rw [rB_bool]; exact dec_iff) (fun h => ret _ ?_) fun h3 => ?_⟩)
  · rw [if_pos h] at hQ; exact hQ
  · rw [if_neg h4, if_pos h] at hQ; exact hQ
  rw [if_neg h4, if_neg h3] at hQ
  refine Let.intro (brNF (p := v.k = 3 ∧ 127 < v.s.length) (by rw [andB2, q1]) (fun a1 => Let.intro (Let.intro (brB (p := v.k = 4 ∧ 65535 < v.s.length) (by rw [andB2, q2]) (fun h => ret _ ?_) fun a2 => ?_))) fun h => ⟨rfl, Let.intro (brTT (ret _ ?_))⟩)
  · rw [if_pos (.inr h)] at hQ; exact hQ
  · rw [if_neg (fun h => h.elim a1 a2)] at hQ
    refine Let.intro (brB (p := v.k = 8 ∧ 1048576 < v.s.length) (by rw [andB2, q3]) (fun h => ret _ ?_) fun a3 => Call.use (S_holder v.k) ⟨⟨rfl, rfl⟩, Let.intro (brB (p := (v.k = 5 ∨ v.k = 6 ∨ v.k = 8) ∧ 64 ≤ w) ?_ (fun h => ret _ ?_) fun a4 => K_r16_one_1_x1 _ (C_r16_one_13_of _ (K_r16_one_0_x0 _ _ ?_)))⟩)
    · rw [if_pos h] at hQ; exact hQ
    · rw [rB_bool, andB2]
    · rw [if_neg a3, if_pos h] at hQ; exact hQ
    · rw [if_neg a3, if_neg a4] at hQ; exact hQ
  · rw [if_pos (.inl h)] at hQ; exact hQ
theorem S_one (v : V) (hs : v.s.length ≤ 1000000000000) (st : Bool) (w : Int) : Call E0.P fn_r16_one [.imm (.agg (rowX v)), .imm (.bool st), .imm (.int .i64 w)] [] (Is (.imm (.int .i64 (ownV v st w))) []) := by
  refine F_r16_one_of _ _ _ _ _ _ _ _ _ (Let.intro (brNF (orB _ _) (fun hk => Let.intro (Let.intro (brB (p := v.k = 8 ∧ st = false) ?_ (fun h => ?_) fun h8 => ?_))) fun h => ⟨rfl, Let.intro (brTT ?_)⟩))
  · by_cases a : v.k = 8 <;> cases st <;> simp [a]
  · rw [ownV, if_pos (.inr h)]; exact ⟨rfl, rfl⟩
  · have hk' : ¬ ((v.k < 0 ∨ 8 < v.k) ∨ (v.k = 8 ∧ st = false)) := fun h => h.elim hk h8
    refine Call.use (S_extra v) ⟨⟨rfl, rfl⟩, brNF (p := extraV v) (by rw [rB_bool]; exact dec_iff) (fun e => ?_) fun e => ⟨rfl, Let.intro (one_3 v st w _ hk' ⟨fun _ => .inl e, fun _ => rfl⟩ _ ⟨rfl, rfl⟩)⟩⟩
    refine ⟨fun h => ?_, fun h => ⟨rfl, Let.intro (Let.intro (one_3 v st w _ hk' ⟨fun h => (by cases h), fun h' => ?_⟩ _ ⟨rfl, rfl⟩))⟩⟩
    · have h3 := of_decide_eq_true (eq_of_beq h)
      refine Call.use (S_zero v.s hs) ⟨⟨rfl, rfl⟩, Let.intro (Let.intro (one_3 v st w _ hk' ?_ _ ⟨rfl, rfl⟩))⟩
      rw [rB_bool, dec_iff]
      exact ⟨fun h => .inr ⟨h3, h⟩, fun h => h.elim (fun h => absurd h e) fun h => h.2⟩
    · exfalso
      rcases h' with h' | h'
      · exact e h'
      · rw [decide_eq_true h'.1] at h; cases h
  · rw [ownV, if_pos (.inl h)]; exact ⟨rfl, rfl⟩
theorem L_key (d : List Pr) (hd : d.length ≤ 1000000000000) (k : Nat) (hk : k < d.length) (Q : AV → Heap → Prop) (hq : Q (.imm (.int .i64 (if (pAt d k).1 ∈ (d.take k).map (·.1) then 11 else 0))) []) :
    ∀ (m i : Nat), m + i = k → (∀ x ∈ (d.take i).map (·.1), x ≠ (pAt d k).1) → L_r16_key_6 (prs d) k (pAt d k).1 i (K_r16_key_2 (K_r16_key_0 Q)) := by
  intro m
  induction m with
  | zero =>
    intro i hi ha
    refine L_r16_key_6_of _ _ _ _ _ (brD (fun h => by omega) fun _ => ?_)
    have : i = k := by omega
    subst this
    rw [if_neg (fun h => ha _ h rfl)] at hq
    exact K_r16_key_2_x1 _ (C_r16_key_13_of _ (K_r16_key_1_x0 _ _ (K_r16_key_0_x0 _ _ hq)))
  | succ m ih =>
    intro i hi ha
    have hlt : i < d.length := by omega
    have hp : pAt d i = d[i] := by simp [pAt, List.getD_eq_getElem?_getD, hlt]
    refine L_r16_key_6_of _ _ _ _ _ (brD (fun _ => ?_) fun h => by omega)
    rw [show (prs d).getD (Int.toNat (i : Int)) [] = pRow (pAt d i) from prow_at _ _ hlt, pkey, prs_len, wr1 i (by omega)]
    refine ⟨⟨⟨by omega, by omega⟩, row_ok _ _ _⟩, brB (p := (pAt d i).1 = (pAt d k).1) beq_iff_eq (fun h => ?_) fun h => ih (i + 1) (by omega) fun x hx => ?_⟩
    · rw [if_pos (show (pAt d k).1 ∈ (d.take k).map (·.1) by
        rw [← h, hp]
        exact List.mem_map.2 ⟨d[i], List.mem_take_iff_getElem.2 ⟨i, by omega, rfl⟩, rfl⟩)] at hq
      exact K_r16_key_2_x0 _ _ (K_r16_key_0_x0 _ _ hq)
    · rw [List.take_add_one, List.map_append, List.mem_append] at hx
      rcases hx with hx | hx
      · exact ha x hx
      · have : d[i]?.toList = [pAt d i] := by rw [hp]; simp [hlt]
        rw [this] at hx
        have : x = (pAt d i).1 := by simpa using hx
        rw [this]; exact h
theorem S_key (d : List Pr) (hd : d.length ≤ 1000000000000) (hs : ∀ p ∈ d, p.1.length ≤ 1000000000000) (k : Nat) (hk : k < d.length) : Call E0.P fn_r16_key [.imm (.sl .any 7 (prs d)), .imm (.int .i64 k)] []
    (Is (.imm (.int .i64 (if badKey (pAt d k).1 ∨ (pAt d k).1 ∈ (d.take k).map (·.1) then 11 else 0))) []) := by
  have hm : pAt d k ∈ d := by simp [pAt, List.getD_eq_getElem?_getD, hk]
  refine F_r16_key_of _ _ _ ?_
  rw [show (prs d).getD (Int.toNat (k : Int)) [] = pRow (pAt d k) from prow_at _ _ hk, pkey, prs_len]
  have bad : badKey (pAt d k).1 → Is (.imm (.int .i64 (if badKey (pAt d k).1 ∨ (pAt d k).1 ∈ (d.take k).map (·.1) then 11 else 0))) [] (.imm (.int .i64 11)) [] := fun h => by
    rw [if_pos (.inl h)]; exact ⟨rfl, rfl⟩
  have good : ¬ badKey (pAt d k).1 → C_r16_key_4 (prs d) k (pAt d k).1 (K_r16_key_0 (Is (.imm (.int .i64 (if badKey (pAt d k).1 ∨ (pAt d k).1 ∈ (d.take k).map (·.1) then 11 else 0))) [])) := by
    intro h
    refine C_r16_key_4_of _ _ _ _ (L_key d hd k hk _ ?_ k 0 rfl (by simp))
    by_cases h2 : (pAt d k).1 ∈ (d.take k).map (·.1)
    · rw [if_pos h2, if_pos (.inr h2)]; exact ⟨rfl, rfl⟩
    · rw [if_neg h2, if_neg (fun h3 => h3.elim h h2)]; exact ⟨rfl, rfl⟩
  refine ⟨⟨⟨by omega, by omega⟩, row_ok _ _ _⟩, brNF (p := 127 < (pAt d k).1.length) (by rw [dec_iff]; omega) (fun h1 => Call.use (S_zero _ (hs _ hm)) ⟨⟨rfl, rfl⟩, Let.intro (brB (p := badKey (pAt d k).1) ?_ bad good)⟩) fun h1 => ⟨rfl, Let.intro (brTT (bad (.inl h1)))⟩⟩
  rw [rB_bool, dec_iff, badKey]
  exact ⟨fun h => .inr h, fun h => h.elim (fun h => absurd h h1) id⟩
abbrev RCheckAt (v : V) : Prop := ∀ (st : Bool) (w : Int), 0 ≤ w → w ≤ 64 → Call E0.P fn_r16_check [.imm (.agg v.row), .imm (.bool st), .imm (.int .i64 w)] [] (Is (.imm (.int .i64 (v.chk st w))) [])
theorem L_rchk_l (v : V) (hl : v.l.length ≤ 1000000000000) (ih : ∀ x ∈ v.l, RCheckAt x) (w : Int) (hw0 : 0 ≤ w) (hw : 0 < v.l.length → w < 64) (a b c : Int) (s : List UInt8) (q : List (List IV)) (K : Ex → St → Prop)
    (hR : fstE (v.l.map fun x => x.chk false (w + 1)) ≠ 0 → K .ret ⟨[(6, .imm (.int .i64 (fstE (v.l.map fun x => x.chk false (w + 1)))))], []⟩)
    (hE : fstE (v.l.map fun x => x.chk false (w + 1)) = 0 → K (.exit 0) ⟨[(2, .imm (.int .i64 w)), (3, .ptr (Nm.loc 3) 0)], [(Nm.loc 3, .blk ty_api_Value [.imm (.int .i64 a), .imm (.int .i64 b), .imm (.int .i64 c), .imm (.str s), .imm (.sl .any 6 (vrs v.l)), .imm (.sl .any 7 q)])]⟩) :
    ∀ (m i : Nat), m + i = v.l.length → fstE (v.l.map fun x => x.chk false (w + 1)) = fstE ((v.l.drop i).map fun x => x.chk false (w + 1)) → L_r16_check_6 w i a b c s (vrs v.l) q K := by
  intro m
  induction m with
  | zero =>
    intro i hi he
    refine L_r16_check_6_of _ _ _ _ _ _ _ _ _ (brD (fun h => by rw [vrs_len] at h; omega) fun _ => ?_)
    rw [List.drop_of_length_le (by omega)] at he
    exact hE he
  | succ m ihm =>
    intro i hi he
    have hlt : i < v.l.length := by omega
    have hm : vAt v.l i ∈ v.l := by simp [vAt, List.getD_eq_getElem?_getD, hlt]
    have hd : v.l.drop i = vAt v.l i :: v.l.drop (i + 1) := by rw [List.drop_eq_getElem_cons hlt]; simp [vAt, List.getD_eq_getElem?_getD, hlt]
    have hw := hw (by omega)
    refine L_r16_check_6_of _ _ _ _ _ _ _ _ _ (brD (fun _ => ?_) fun h => by rw [vrs_len] at h; omega)
    rw [show (vrs v.l).getD (Int.toNat (i : Int)) [] = (vAt v.l i).row from vrow_at _ _ hlt, vrow_form, vrs_len, wr1 i (by omega), wrap_id _ (by omega) (by omega)]
    refine ⟨⟨⟨by omega, by omega⟩, vrow_ok _ _ _⟩, Call.use (ih _ hm false (w + 1) (by omega) (by omega)) ⟨⟨rfl, rfl⟩, ?_⟩⟩
    rw [rI_int]
    rw [hd, List.map_cons, fstE] at he
    refine ⟨fun h => ?_, fun h => ihm (i + 1) (by omega) ?_⟩
    · have h := ndT h
      rw [if_pos h] at he
      rw [he] at hR
      exact hR h
    · have h := ndF h
      rw [if_neg (by simpa using h)] at he
      exact he
theorem L_rchk_d (v : V) (hl : v.d.length ≤ 1000000000000) (hs : ∀ p ∈ v.d, p.1.length ≤ 1000000000000) (ih : ∀ x ∈ v.d, RCheckAt x.2) (w : Int) (hw0 : 0 ≤ w) (hw : 0 < v.d.length → w < 64) (a b c : Int) (s : List UInt8) (q : List (List IV)) (K : Ex → St → Prop)
    (hR : K .ret ⟨[(6, .imm (.int .i64 (keyE [] (v.d.map fun x => (x.1, x.2.chk false (w + 1))))))], []⟩) :
    ∀ (m i : Nat), m + i = v.d.length →
      keyE [] (v.d.map fun x => (x.1, x.2.chk false (w + 1))) = keyE ((v.d.take i).map (·.1)) ((v.d.drop i).map fun x => (x.1, x.2.chk false (w + 1))) → L_r16_check_16 w i a b c s q (prs v.d) (K_r16_check_3 K) := by
  intro m
  induction m with
  | zero =>
    intro i hi he
    refine L_r16_check_16_of _ _ _ _ _ _ _ _ _ (brD (fun h => by rw [prs_len] at h; omega) fun _ => ?_)
    rw [List.drop_of_length_le (by omega)] at he
    rw [he] at hR
    exact K_r16_check_3_x1 _ (C_r16_check_28_of _ (K_r16_check_2_x0 _ _ hR))
  | succ m ihm =>
    intro i hi he
    have hlt : i < v.d.length := by omega
    have hm : pAt v.d i ∈ v.d := by simp [pAt, List.getD_eq_getElem?_getD, hlt]
    have hd : v.d.drop i = pAt v.d i :: v.d.drop (i + 1) := by rw [List.drop_eq_getElem_cons hlt]; simp [pAt, List.getD_eq_getElem?_getD, hlt]
    have ht : (v.d.take (i + 1)).map (·.1) = (v.d.take i).map (·.1) ++ [(pAt v.d i).1] := by
      have : v.d[i]?.toList = [pAt v.d i] := by simp [pAt, List.getD_eq_getElem?_getD, hlt]
      rw [List.take_add_one, this]; simp
    have hw := hw (by omega)
    have hk := S_key v.d hl hs i hlt
    obtain ⟨p, hp⟩ : ∃ p, pAt v.d i = p := ⟨_, rfl⟩
    rw [hp] at hm hd hk ht
    rw [hd, List.map_cons, keyE] at he
    refine L_r16_check_16_of _ _ _ _ _ _ _ _ _ (brD (fun _ => Call.use hk ⟨⟨rfl, rfl⟩, ?_⟩) fun h => by rw [prs_len] at h; omega)
    rw [rI_int]
    by_cases hbad : badKey p.1 ∨ p.1 ∈ (v.d.take i).map (·.1)
    · rw [if_pos hbad]
      rw [if_pos hbad] at he
      rw [he] at hR
      exact ⟨fun _ => K_r16_check_3_x0 _ _ hR, fun h => absurd h (by decide)⟩
    · rw [if_neg hbad]
      rw [if_neg hbad] at he
      refine ⟨fun h => absurd h (by decide), fun _ => ?_⟩
      rw [show (prs v.d).getD (Int.toNat (i : Int)) [] = pRow (pAt v.d i) from prow_at _ _ hlt, hp, prow_tail, prs_len, wr1 i (by omega), wrap_id (w + 1) (by omega) (by omega)]
      refine ⟨⟨⟨by omega, by omega⟩, row_ok _ _ _⟩, Call.use (ih _ hm false (w + 1) (by omega) (by omega)) ⟨⟨rfl, rfl⟩, ?_⟩⟩
      rw [rI_int]
      refine ⟨fun h2 => ?_, fun h2 => ihm (i + 1) (by omega) ?_⟩
      · rw [if_pos (ndT h2)] at he
        rw [he] at hR
        exact K_r16_check_3_x0 _ _ hR
      · rw [if_neg (by simpa using ndF h2)] at he
        rw [ht]; exact he
inductive FitS : V → Prop where
  | mk (v : V) : v.s.length ≤ 1000000000000 → (∀ x ∈ v.l, FitS x) → (∀ p ∈ v.d, p.1.length ≤ 1000000000000) → (∀ p ∈ v.d, FitS p.2) → FitS v
theorem S_rcheck (v : V) (hf : Fit v) : FitS v → RCheckAt v := by
  induction hf with
  | mk v h1 h2 h3 h4 ih1 ih2 =>
    intro hs st w hw0 hw
    obtain ⟨_, q1, q2, q3, q4⟩ := hs
    rw [row_eq, chk_eq]
    refine F_r16_check_of _ _ _ _ _ _ _ _ _ (Call.use (S_one v q1 st w) ⟨⟨rfl, rfl⟩, ?_⟩)
    rw [rI_int]
    refine ⟨fun h => ?_, fun h => ?_⟩
    · rw [if_pos (ndT h)]; exact ⟨rfl, rfl⟩
    · have h0 := ndF h
      rw [if_neg (by simpa using h0)]
      refine L_rchk_l v h1 (fun x hx => ih1 x hx (q2 x hx)) w hw0 (fun hc => own_deep h0 (.inl hc)) _ _ _ _ _ _ (fun he => ?_) (fun he => ?_) v.l.length 0 rfl (by rw [List.drop_zero])
      · rw [if_pos he]
        exact K_r16_check_1_x0 _ _ ⟨rfl, rfl⟩
      · rw [if_neg (by simpa using he)]
        refine K_r16_check_1_x1 _ _ _ _ _ _ _ _ (C_r16_check_14_of _ _ _ _ _ _ _ _ ?_)
        exact L_rchk_d v h2 q3 (fun x hx => ih2 x hx (q4 x hx)) w hw0 (fun hc => own_deep h0 (.inr hc)) _ _ _ _ _ _ (K_r16_check_0_x0 _ _ ⟨rfl, rfl⟩) v.d.length 0 rfl (by rw [List.drop_zero]; rfl)
theorem S_r16_Check (v : V) (hf : Fit v) (hs : FitS v) (st : Bool) : Call E0.P fn_r16_Check [.imm (.agg v.row), .imm (.bool st)] [] (Is (.imm (.int .i64 (v.chk st 0))) []) := by
  have h := S_rcheck v hf hs st 0 (by decide) (by decide)
  rw [row_eq] at h ⊢
  exact F_r16_Check_of _ _ _ _ _ _ _ _ (Call.use h ⟨⟨rfl, rfl⟩, ⟨rfl, rfl⟩⟩)
end Go.Proofs.Sim.Se

set_option linter.unusedVariables false
set_option linter.unusedSimpArgs false
namespace Go.Proofs.Sim.Se
open Go Go.Proofs Go.Proofs.Sim Go.Proofs.Sim.Va Go.Proofs.Sim.St Go.RowKit

def sumL (l : List (List UInt8)) : Nat := (l.map fun t => t.length + 1).sum
theorem join_cons2 (x : List UInt8) (r : List (List UInt8)) : joinW (x :: r) = x ++ (r.map fun t => 32 :: t).flatten := by
  rw [joinW, Lib.join_cons]; rfl
theorem join_len (l : List (List UInt8)) : (joinW l).length ≤ sumL l := by
  cases l with
  | nil => simp [joinW, Lib.join_nil]
  | cons x r =>
    rw [join_cons2, sumL, List.length_append, List.map_cons, List.sum_cons]
    have : ((r.map fun t => (32 : UInt8) :: t).flatten).length = (r.map fun t => t.length + 1).sum := by
      induction r with
      | nil => rfl
      | cons y r ih => rw [List.map_cons, List.flatten_cons, List.length_append, ih, List.map_cons, List.sum_cons]; simp
    omega
theorem sumL_app (a b : List (List UInt8)) : sumL (a ++ b) = sumL a + sumL b := by simp [sumL]
theorem sumL_take (l : List (List UInt8)) (i : Nat) : sumL (l.take i) ≤ sumL l := by
  have : sumL l = sumL (l.take i) + sumL (l.drop i) := by rw [← sumL_app, List.take_append_drop]
  omega
theorem sumL_mem (l : List (List UInt8)) (x : List UInt8) (h : x ∈ l) : x.length + 1 ≤ sumL l := sum_mem (fun t : List UInt8 => t.length + 1) l x h
theorem sumL_len (l : List (List UInt8)) : l.length ≤ sumL l := sum_len (fun t : List UInt8 => t.length + 1) l fun _ _ => by omega
/-- One more. -/
theorem join_take (l : List (List UInt8)) (i : Nat) (h : i < l.length) : joinW (l.take (i + 1)) = (if 0 < i then joinW (l.take i) ++ [32] else joinW (l.take i)) ++ l[i] := by
  cases l with
  | nil => simp at h
  | cons x r =>
    cases i with
    | zero =>
      rw [if_neg (by decide)]
      simp [joinW, Lib.join_nil, Lib.join_one]
    | succ i =>
      have hi : i < r.length := by simpa using h
      have : r[i]?.toList = [r[i]] := by simp [hi]
      have e : r.take (i + 1) = r.take i ++ [r[i]] := by rw [List.take_add_one, this]
      rw [if_pos (by omega), List.take_succ_cons, List.take_succ_cons, join_cons2, join_cons2, e, List.map_append, List.flatten_append]
      simp
inductive SmW : V → Prop where
  | mk (v : V) : I64 v.n → I64 v.g → v.s.length ≤ 3000 → v.l.length ≤ 1000000 → v.d.length ≤ 1000000 → sumL (v.l.map V.wr) ≤ 10000000000 → sumL (v.d.map fun p => joinW [nameW p.1, p.2.wr]) ≤ 10000000000 → (∀ p ∈ v.d, p.1.length ≤ 3000) →
      (∀ x ∈ v.l, SmW x) → (∀ p ∈ v.d, SmW p.2) → SmW v
inductive Scal : V → Prop where
  | mk (v : V) : I64 v.n → I64 v.g → v.s.length ≤ 3000 → (∀ x ∈ v.l, Scal x) → (∀ p ∈ v.d, p.1.length ≤ 3000) → (∀ p ∈ v.d, Scal p.2) → Scal v
theorem scal_of {v : V} (hw : Wf v) : ShortP 3000 v → Scal v := by
  induction hw with
  | mk v a1 a2 a3 a4 a5 a6 a7 a8 a9 ih1 ih2 =>
    intro hs
    cases hs with
    | mk _ b1 b2 b3 b4 => exact .mk v a2 a3 (by omega) (fun x hx => ih1 x hx (b2 x hx)) (fun p hp => by have := b3 p hp; omega) (fun p hp => ih2 p hp (b4 p hp))
theorem scal_fitS {v : V} (h : Scal v) : FitS v := by
  induction h with
  | mk v a2 a3 a4 a7 a8 a9 ih1 ih2 => exact .mk v (by omega) ih1 (fun p hp => by have := a8 p hp; omega) ih2
theorem name_len (s : List UInt8) : (nameW s).length ≤ 3 * s.length + 1 := by
  have := fm_len nameB 3 nameB_len s
  rw [nameW, List.length_cons]; omega
theorem text_lenW (s : List UInt8) : (textW s).length ≤ 2 * s.length + 2 := by
  have h1 := fm_len escB 2 escB_len s
  have h2 := hex_len s
  unfold textW
  split
  · rw [List.cons_append, List.length_cons, List.length_append]; simp only [List.length_cons, List.length_nil]; omega
  · rw [List.length_cons]; omega
theorem sum_le {α : Type} (f g : α → Nat) (l : List α) (h : ∀ x ∈ l, f x ≤ g x) : (l.map f).sum ≤ (l.map g).sum := by
  induction l with
  | nil => simp
  | cons x l ih =>
    have := ih fun y hy => h y (by simp [hy])
    have := h x (by simp)
    simp; omega
theorem sum_mul {α : Type} (c : Nat) (f : α → Nat) (l : List α) : (l.map fun x => c * f x).sum = c * (l.map f).sum := by
  induction l with
  | nil => simp
  | cons x l ih => simp only [List.map_cons, List.sum_cons, ih, Nat.mul_add]
theorem join2_len (a b : List UInt8) : (joinW [a, b]).length = a.length + b.length + 1 := by rw [join_cons2]; simp; omega
theorem wr_len {v : V} (h : Scal v) : v.wr.length + 9100 ≤ 20000 * cntV v ∧ sumL (v.l.map V.wr) ≤ 20000 * cntV v ∧ sumL (v.d.map fun p => joinW [nameW p.1, p.2.wr]) ≤ 20000 * cntV v := by
  induction h with
  | mk v a2 a3 a4 a7 a8 a9 ih1 ih2 =>
    have hl : sumL (v.l.map V.wr) ≤ 20000 * (v.l.map cntV).sum := by
      rw [sumL, List.map_map, ← sum_mul]
      exact sum_le _ _ _ fun x hx => by have := (ih1 x hx).1; simp only [Function.comp_apply]; omega
    have hd : sumL (v.d.map fun p => joinW [nameW p.1, p.2.wr]) ≤ 20000 * (v.d.map fun p => cntV p.2).sum := by
      rw [sumL, List.map_map, ← sum_mul]
      exact sum_le _ _ _ fun p hp => by
        have := (ih2 p hp).1
        have h1 := name_len p.1
        have h2 := a8 p hp
        simp only [Function.comp_apply, join2_len]
        omega
    have hc := cnt_eq v
    refine ⟨?_, by omega, by omega⟩
    rw [wr_eq]
    have j1 := join_len (v.l.map V.wr)
    have j2 := join_len (v.d.map fun p => joinW [nameW p.1, p.2.wr])
    have n1 := name_len v.s
    have n2 := text_lenW v.s
    have i1 := itoa_len v.n a2.1 a2.2
    have i2 := itoa_len v.g a3.1 a3.2
    have e : (v.d.map fun p => (p.1, p.2.wr)).map (fun p => joinW [nameW p.1, p.2]) = v.d.map fun p => joinW [nameW p.1, p.2.wr] := by rw [List.map_map]; rfl
    unfold mkW
    split
    · split <;> simp [tTrue, tFalse] <;> omega
    split
    · omega
    split
    · omega
    split
    · omega
    split
    · simp only [List.length_append, List.length_cons, List.length_nil]; omega
    split
    · rw [e]; simp only [List.length_append, List.length_cons, List.length_nil]; omega
    split
    · simp only [List.length_append, List.length_cons, List.length_nil, join2_len]; omega
    · simp [tNull]; omega
theorem scal_smW {v : V} (h : Scal v) : cntV v ≤ 100000 → SmW v := by
  induction h with
  | mk v a2 a3 a4 a7 a8 a9 ih1 ih2 =>
    intro hc
    have h0 := wr_len (Scal.mk v a2 a3 a4 a7 a8 a9)
    have he := cnt_eq v
    have l1 := sum_len cntV v.l fun x _ => cnt_pos x
    have l2 := sum_len (fun p : Pr => cntV p.2) v.d fun p _ => cnt_pos p.2
    refine .mk v a2 a3 a4 (by omega) (by omega) (by omega) (by omega) a8 (fun x hx => ih1 x hx ?_) fun p hp => ih2 p hp ?_
    · have := sum_mem cntV v.l x hx; omega
    · have := sum_mem (fun p : Pr => cntV p.2) v.d p hp; omega
theorem sum_ins (f : Pr → Nat) (x : Pr) (l : List Pr) : ((ins bl pk x l).map f).sum = f x + (l.map f).sum := by
  induction l with
  | nil => simp [ins]
  | cons y r ih =>
    rw [ins]
    split
    · rw [List.map_cons, List.sum_cons, ih, List.map_cons, List.sum_cons]; omega
    · simp
theorem sum_srt (f : Pr → Nat) (l : List Pr) : ((sortP l).map f).sum = (l.map f).sum := by
  induction l with
  | nil => simp [sortP, srt]
  | cons x l ih => rw [show sortP (x :: l) = ins bl pk x (sortP l) from rfl, sum_ins, ih]; simp
theorem sum_sub (f : Pr → Nat) {a b : List Pr} (h : a.Sublist b) : (a.map f).sum ≤ (b.map f).sum := by
  induction h with
  | slnil => simp
  | cons x h ih => simp; omega
  | cons_cons x h ih => simp; omega
theorem sum_plD (f : Pr → Nat) (d : List Pr) : (((uniq d).filter nul).map f).sum ≤ (d.map f).sum := by
  rw [← sum_srt f d]
  exact sum_sub f ((List.filter_sublist).trans (compact_sub _))
theorem plain_both {v : V} (h : Scal v) : Scal v.plain ∧ cntV v.plain ≤ cntV v := by
  have z : I64 0 := ⟨by decide, by decide⟩
  have n0 : ∀ (P : V → Prop), ∀ x ∈ ([] : List V), P x := fun P x hx => by cases hx
  have n1 : ∀ (P : Pr → Prop), ∀ x ∈ ([] : List Pr), P x := fun P x hx => by cases hx
  have leaf : ∀ (k n g : Int) (s : List UInt8), I64 n → I64 g → s.length ≤ 3000 → Scal (.mk k n g s [] []) ∧ cntV (.mk k n g s [] []) = 1 := by
    intro k n g s h1 h2 h3
    refine ⟨.mk _ h1 h2 h3 (n0 _) (n1 _) (n1 _), ?_⟩
    rw [cnt_eq]; simp [V.l, V.d]
  induction h with
  | mk v a2 a3 a4 a7 a8 a9 ih1 ih2 =>
    have hp := cnt_pos v
    have he := cnt_eq v
    rw [plain_eq]
    have hdm : ∀ p ∈ (uniq (plP v.d)).filter nul, ∃ q ∈ v.d, p = (q.1, q.2.plain) := by
      intro p hp
      have := uniq_mem (List.mem_filter.1 hp).1
      rw [plP, List.mem_map] at this
      obtain ⟨q, h1, h2⟩ := this
      exact ⟨q, h1, h2.symm⟩
    have hsd : (((uniq (plP v.d)).filter nul).map fun p : Pr => cntV p.2).sum ≤ (v.d.map fun p : Pr => cntV p.2).sum := by
      refine Nat.le_trans (sum_plD _ _) ?_
      rw [plP, List.map_map]
      exact sum_le _ _ _ fun p hp => (ih2 p hp).2
    have dd : ∀ (k : Int) (s : List UInt8), s.length ≤ 3000 → Scal (.mk k 0 0 s [] ((uniq (plP v.d)).filter nul)) ∧ cntV (.mk k 0 0 s [] ((uniq (plP v.d)).filter nul)) ≤ cntV v := by
      intro k s hs
      refine ⟨.mk _ z z hs (n0 _) (fun p hp => ?_) (fun p hp => ?_), ?_⟩
      · obtain ⟨q, h1, rfl⟩ := hdm p hp
        exact a8 q h1
      · obtain ⟨q, h1, rfl⟩ := hdm p hp
        exact (ih2 q h1).1
      · rw [cnt_eq]
        show 1 + (([] : List V).map cntV).sum + _ ≤ _
        simp only [List.map_nil, List.sum_nil]
        show 1 + 0 + (((uniq (plP v.d)).filter nul).map fun p : Pr => cntV p.2).sum ≤ _
        omega
    unfold mkP
    split
    · have := leaf v.k v.n 0 [] a2 z (by simp); exact ⟨this.1, by omega⟩
    split
    · have := leaf v.k 0 0 v.s z z a4; exact ⟨this.1, by omega⟩
    split
    · refine ⟨.mk _ z z (by simp [V.s]) (fun x hx => ?_) (n1 _) (n1 _), ?_⟩
      · obtain ⟨y, h1, rfl⟩ := List.mem_map.1 hx
        exact (ih1 y h1).1
      · rw [cnt_eq]
        show 1 + ((v.l.map V.plain).map cntV).sum + 0 ≤ _
        have : ((v.l.map V.plain).map cntV).sum ≤ (v.l.map cntV).sum := by
          rw [List.map_map]; exact sum_le _ _ _ fun x hx => (ih1 x hx).2
        omega
    split
    · exact dd _ _ (by simp)
    split
    · have := leaf v.k v.n v.g [] a2 a3 (by simp); exact ⟨this.1, by omega⟩
    split
    · exact dd _ _ a4
    · have := leaf 0 0 0 [] z z (by simp); exact ⟨this.1, by show cntV zero ≤ _; rw [show cntV zero = 1 from this.2]; exact hp⟩
end Go.Proofs.Sim.Se

set_option linter.unusedVariables false
set_option linter.unusedSimpArgs false
set_option maxRecDepth 100000
namespace Go.Proofs.Sim.Se
open Go Go.Proofs Go.Proofs.Sim Go.Proofs.Sim.Va Go.RowKit

theorem rS_str (s : List UInt8) : rS (.imm (.str s)) = s := rfl
abbrev txs (l : List (List UInt8)) : List (List IV) := l.map fun s => [.str s]
theorem txs_len (l : List (List UInt8)) : (txs l).length = l.length := List.length_map ..
theorem S_Join (xs : List (List UInt8)) (hN : sumL xs ≤ 100000000000) : Call E0.P fn_strings_Join [.imm (.sl .any 1 (txs xs)), .imm (.str [32])] [] (Is (.imm (.str (joinW xs))) []) := by
  have h1 := join_len xs
  have h2 := sumL_len xs
  refine call_of_contract Tryd.func111 (by kernel_rfl) (by kernel_rfl) [.sl .any 1 (txs xs), .str [32]] _ fun g w vs hv hs => ?_
  obtain ⟨v, u, rfl, hr, hu⟩ := reps2 hv
  obtain rfl := repI_str hu
  cases hr with | sl a cap _ _ _ b o ws q1 q2 q3 q4 q5 q6 q7 q8 q9 =>
  by_cases hx : xs = []
  · subst hx
    refine (Tryd.strings_Join_none a cap ⟨([32] : List UInt8).toArray⟩ w).mono ?_
    rintro e w' ⟨rfl, rfl⟩
    exact ⟨_, .imm (.str []), rfl, Below.refl _ _, .imm _ _ (.str _ _ rfl), rfl, rfl⟩
  · have hne : txs xs ≠ [] := by
      intro h; apply hx
      have := congrArg List.length h
      rw [txs_len] at this
      exact List.eq_nil_of_length_eq_zero (by simpa using this)
    have ha := q5 hne
    subst ha
    rw [txs_len] at q1 ⊢
    have cell : ∀ j, (hj : j < xs.length) → w.cell? ⟨b, o + j, none⟩ = some (.string ⟨(xs[j]).toArray⟩) := by
      intro j hj
      have c1 := q7 j 0 (by rw [txs_len]; exact hj) (by omega)
      have c2 := q8 j 0 (by rw [txs_len]; exact hj) (by omega)
      have c3 := hs.imm _ _ _ c1
      have e : ((txs xs).getD j []).getD 0 default = .str xs[j] := by simp [List.getD_eq_getElem?_getD, hj]
      rw [e] at c2
      have e2 : ws j 0 = .string ⟨(xs[j]).toArray⟩ := by
        generalize ws j 0 = z at c2
        cases c2 with | str s _ h =>
        have : s = ⟨(xs[j]).toArray⟩ := by cases s; simp at h; simp [← h]
        rw [this]
      rw [show o + j = o + j * 1 + 0 by omega, c3, e2]
    have hlt : b < w.heap.size := by
      obtain ⟨n, hn⟩ := List.exists_mem_of_ne_nil xs hx
      have h0 : 0 < xs.length := List.length_pos_of_mem hn
      have := cell 0 h0
      rcases Nat.lt_or_ge b w.heap.size with h | h
      · exact h
      · simp [World.cell?, Array.getElem?_eq_none h] at this
    have em : (xs.map fun s => (⟨s.toArray⟩ : ByteArray)).map (fun x : ByteArray => x.data.toList) = xs := by
      rw [List.map_map, show ((fun x : ByteArray => x.data.toList) ∘ fun s : List UInt8 => (⟨s.toArray⟩ : ByteArray)) = id from by funext s; simp, List.map_id]
    have hj := Tryd.strings_Join b o cap (xs.map fun s => (⟨s.toArray⟩ : ByteArray)) ⟨([32] : List UInt8).toArray⟩ w (fun j x hx => by
        rw [List.getElem?_map] at hx
        by_cases hj : j < xs.length
        · rw [List.getElem?_eq_getElem hj] at hx
          injection hx with hx
          rw [cell j hj, ← hx]
        · rw [List.getElem?_eq_none (by omega)] at hx; cases hx) hlt (by rw [List.length_map]; omega) (by rw [List.length_map]; exact q1) (by
        rw [em]
        show (joinW xs).length ≤ _
        omega)
    rw [List.length_map, em] at hj
    refine hj.mono ?_
    rintro e w' ⟨rfl, hb⟩
    exact ⟨_, .imm (.str (joinW xs)), rfl, hb, .imm _ _ (.str _ _ (by simp [joinW])), rfl, rfl⟩
theorem S_spaced (xs : List (List UInt8)) (hN : sumL xs ≤ 100000000000) : Call E0.P fn_write_spaced [.imm (.sl .any 1 (txs xs))] [] (Is (.imm (.str (joinW xs))) []) :=
  F_write_spaced_of _ _ (Call.use (S_Join xs hN) ⟨⟨rfl, rfl⟩, ⟨rfl, rfl⟩⟩)
def aroundW (k : Int) (xs : List (List UInt8)) : List UInt8 := if k = 5 then [91] ++ joinW xs ++ [93] else if k = 6 then [60, 60] ++ joinW xs ++ [62, 62] else if k = 7 then joinW xs ++ [32, 82] else tNull
theorem S_around (k : Int) (xs : List (List UInt8)) (hN : sumL xs ≤ 100000000000) : Call E0.P fn_write_around [.imm (.int .i64 k), .imm (.sl .any 1 (txs xs))] [] (Is (.imm (.str (aroundW k xs))) []) := by
  have hl := join_len xs
  have w1 : IntKind.i64.wrap ((0 : Int) + 1) = 1 := by decide
  have w2 : IntKind.i64.wrap ((1 : Int) + 1) = 2 := by decide
  have w3 : IntKind.i64.wrap ((2 : Int) + 1) = 3 := by decide
  have last : L_write_around_2 k (txs xs) 5 [91] [93] 6 [60, 60] [62, 62] 7 [] [32, 82] 3 (K_write_around_1 (Is (.imm (.str tNull)) [])) := by
    refine L_write_around_2_of _ _ _ _ _ _ _ _ _ _ _ _ _ ⟨fun h => absurd h (by decide), fun _ => ?_⟩
    exact K_write_around_1_x1 _ (C_write_around_10_of _ (K_write_around_0_x0 _ _ ⟨rfl, rfl⟩))
  refine F_write_around_of _ _ _ (L_write_around_2_of _ _ _ _ _ _ _ _ _ _ _ _ _ ⟨fun _ => ⟨⟨by decide, rfl⟩, ?_⟩, fun h => absurd h (by decide)⟩)
  show Br (decide ((5 : Int) = k)) _ _
  refine brD (fun e => ?_) fun n5 => ?_
  · subst e
    refine Call.use (S_spaced xs hN) ⟨⟨rfl, rfl⟩, ⟨?_, ⟨?_, K_write_around_1_x0 _ _ ⟨rfl, rfl⟩⟩⟩⟩
    · show (((1 + (joinW xs).length : Nat)) : Int) ≤ _
      omega
    · show (((([91] ++ joinW xs : List UInt8).length + 1 : Nat)) : Int) ≤ _
      rw [List.length_append]; simp only [List.length_cons, List.length_nil]; omega
  rw [w1]
  refine L_write_around_2_of _ _ _ _ _ _ _ _ _ _ _ _ _ ⟨fun _ => ⟨⟨by decide, rfl⟩, ?_⟩, fun h => absurd h (by decide)⟩
  show Br (decide ((6 : Int) = k)) _ _
  refine brD (fun e => ?_) fun n6 => ?_
  · subst e
    refine Call.use (S_spaced xs hN) ⟨⟨rfl, rfl⟩, ⟨?_, ⟨?_, K_write_around_1_x0 _ _ ⟨rfl, rfl⟩⟩⟩⟩
    · show (((2 + (joinW xs).length : Nat)) : Int) ≤ _
      omega
    · show (((([60, 60] ++ joinW xs : List UInt8).length + 2 : Nat)) : Int) ≤ _
      rw [List.length_append]; simp only [List.length_cons, List.length_nil]; omega
  rw [w2]
  refine L_write_around_2_of _ _ _ _ _ _ _ _ _ _ _ _ _ ⟨fun _ => ⟨⟨by decide, rfl⟩, ?_⟩, fun h => absurd h (by decide)⟩
  show Br (decide ((7 : Int) = k)) _ _
  refine brD (fun e => ?_) fun n7 => ?_
  · subst e
    refine Call.use (S_spaced xs hN) ⟨⟨rfl, rfl⟩, ⟨?_, ⟨?_, K_write_around_1_x0 _ _ ⟨rfl, rfl⟩⟩⟩⟩
    · show (((0 + (joinW xs).length : Nat)) : Int) ≤ _
      omega
    · show (((([] ++ joinW xs : List UInt8).length + 2 : Nat)) : Int) ≤ _
      rw [List.nil_append]; omega
  rw [w3, aroundW, if_neg (Ne.symm n5), if_neg (Ne.symm n6), if_neg (Ne.symm n7)]
  exact last
abbrev WPlainAt (v : V) : Prop := Call E0.P fn_write_plain [.imm (.agg v.row)] [] (Is (.imm (.str v.wr)) [])
theorem at_get {l : List V} {i : Nat} (h : i < l.length) : vAt l i = l[i] := by simp [vAt, List.getD_eq_getElem?_getD, h]
theorem pat_get {l : List Pr} {i : Nat} (h : i < l.length) : pAt l i = l[i] := by simp [pAt, List.getD_eq_getElem?_getD, h]
theorem take_mapN {α β : Type} (f : α → β) (l : List α) (i : Nat) (h : i < l.length) : (l.take (i + 1)).map f = (l.take i).map f ++ [f l[i]] := by
  have : l[i]?.toList = [l[i]] := by simp [h]
  rw [List.take_add_one, this, List.map_append]; rfl
abbrev cellsH (a b c : Int) (s : List UInt8) (p q : List (List IV)) : Heap := [(Nm.loc 1, .blk ty_api_Value [.imm (.int .i64 a), .imm (.int .i64 b), .imm (.int .i64 c), .imm (.str s), .imm (.sl .any 6 p), .imm (.sl .any 7 q)])]
theorem L_wp_l (v : V) (hl : v.l.length ≤ 1000000) (ih : ∀ x ∈ v.l, WPlainAt x) (a b c : Int) (s : List UInt8) (p q : List (List IV)) (K : Ex → St → Prop)
    (hE : K (.exit 1) ⟨[(1, .ptr (Nm.loc 1) 0), (3, .own (Nm.loc 3))], cellsH a b c s p q ++ [(Nm.loc 3, .arr (ty_string + 2) true 1 (txs (v.l.map V.wr)))]⟩) :
    ∀ (m i : Nat), m + i = v.l.length → L_write_plain_13 (vrs v.l) v.l.length i a b c s p q (txs ((v.l.take i).map V.wr)) K := by
  intro m
  induction m with
  | zero =>
    intro i hi
    refine L_write_plain_13_of _ _ _ _ _ _ _ _ _ _ _ (brD (fun h => by omega) fun _ => ?_)
    rw [List.take_of_length_le (by omega)]
    exact hE
  | succ m ihm =>
    intro i hi
    have hlt : i < v.l.length := by omega
    refine L_write_plain_13_of _ _ _ _ _ _ _ _ _ _ _ (brD (fun _ => ?_) fun h => by omega)
    rw [show (vrs v.l).getD (Int.toNat (i : Int)) [] = (vAt v.l i).row from vrow_at _ _ hlt, vrow_form, vrs_len, wr1 i (by omega), at_get hlt]
    refine ⟨⟨⟨by omega, by omega⟩, vrow_ok _ _ _⟩, Call.use (ih _ (List.getElem_mem hlt)) ⟨⟨rfl, rfl⟩, ⟨?_, ?_⟩⟩⟩
    · rw [txs_len, List.length_map, List.length_take]; constructor <;> omega
    · have := ihm (i + 1) (by omega)
      rw [take_mapN V.wr _ _ hlt, show txs ((v.l.take i).map V.wr ++ [v.l[i].wr]) = txs ((v.l.take i).map V.wr) ++ [[.str v.l[i].wr]] by simp [txs]] at this
      exact this
theorem L_wp_d (v : V) (hl : v.d.length ≤ 1000000) (hk : ∀ x ∈ v.d, x.1.length ≤ 3000) (hz : ∀ x ∈ v.d, sumL [nameW x.1, x.2.wr] ≤ 100000000000) (ih : ∀ x ∈ v.d, WPlainAt x.2) (a b c : Int) (s : List UInt8) (p q : List (List IV)) (K : Ex → St → Prop)
    (hE : K (.exit 3) ⟨[(1, .ptr (Nm.loc 1) 0), (3, .own (Nm.loc 3))], cellsH a b c s p q ++ [(Nm.loc 3, .arr (ty_string + 2) true 1 (txs (v.d.map fun x => joinW [nameW x.1, x.2.wr])))]⟩) :
    ∀ (m i : Nat), m + i = v.d.length → L_write_plain_21 (prs v.d) v.d.length i a b c s p q (txs ((v.d.take i).map fun x => joinW [nameW x.1, x.2.wr])) K := by
  intro m
  induction m with
  | zero =>
    intro i hi
    refine L_write_plain_21_of _ _ _ _ _ _ _ _ _ _ _ (brD (fun h => by omega) fun _ => ?_)
    rw [List.take_of_length_le (by omega)]
    exact hE
  | succ m ihm =>
    intro i hi
    have hlt : i < v.d.length := by omega
    have hm := List.getElem_mem hlt
    have hk := hk _ hm
    refine L_write_plain_21_of _ _ _ _ _ _ _ _ _ _ _ (brD (fun _ => ?_) fun h => by omega)
    rw [show (prs v.d).getD (Int.toNat (i : Int)) [] = pRow (pAt v.d i) from prow_at _ _ hlt, prow_tail, pkey, prs_len, wr1 i (by omega), pat_get hlt]
    refine ⟨⟨⟨by omega, by omega⟩, row_ok _ _ _⟩, Call.use (S_write_Name _ (by omega)) ⟨⟨rfl, rfl⟩, Call.use (ih _ hm) ⟨⟨rfl, rfl⟩, Call.use (S_spaced [nameW v.d[i].1, v.d[i].2.wr] (hz _ hm)) ⟨⟨rfl, rfl⟩, ⟨?_, ?_⟩⟩⟩⟩⟩
    · rw [txs_len, List.length_map, List.length_take]; constructor <;> omega
    · have := ihm (i + 1) (by omega)
      rw [take_mapN (fun x : Pr => joinW [nameW x.1, x.2.wr]) _ _ hlt, show txs ((v.d.take i).map (fun x : Pr => joinW [nameW x.1, x.2.wr]) ++ [joinW [nameW v.d[i].1, v.d[i].2.wr]]) = txs ((v.d.take i).map fun x : Pr => joinW [nameW x.1, x.2.wr]) ++ [[.str (joinW [nameW v.d[i].1, v.d[i].2.wr])]] by simp [txs]] at this
      exact this
theorem wr_around (v : V) (h1 : v.k ≠ 1) (h2 : v.k ≠ 2) (h3 : v.k ≠ 3) (h4 : v.k ≠ 4) : v.wr = if v.k = 5 then aroundW v.k (v.l.map V.wr) else if v.k = 6 then aroundW v.k (v.d.map fun x => joinW [nameW x.1, x.2.wr]) else if v.k = 7 then aroundW v.k [Lib.itoa v.n, Lib.itoa v.g] else aroundW v.k [] := by
  rw [wr_eq, mkW, if_neg h1, if_neg h2, if_neg h3, if_neg h4]
  by_cases h5 : v.k = 5
  · rw [if_pos h5, if_pos h5, aroundW, if_pos h5]
  rw [if_neg h5, if_neg h5]
  by_cases h6 : v.k = 6
  · rw [if_pos h6, if_pos h6, aroundW, if_neg h5, if_pos h6, List.map_map]; rfl
  rw [if_neg h6, if_neg h6]
  by_cases h7 : v.k = 7
  · rw [if_pos h7, if_pos h7, aroundW, if_neg h5, if_neg h6, if_pos h7]
  rw [if_neg h7, if_neg h7, aroundW, if_neg h5, if_neg h6, if_neg h7]
theorem S_word (n : Int) : Call E0.P fn_write_word [.imm (.int .i64 n)] [] (Is (.imm (.str (if n = 1 then tTrue else tFalse))) []) :=
  F_write_word_of _ _ (brD (fun h => by rw [if_pos h]; exact ⟨rfl, rfl⟩) fun h => by rw [if_neg h]; exact ⟨rfl, rfl⟩)
theorem S_wplain (v : V) (h : SmW v) : WPlainAt v := by
  induction h with
  | mk v b1 b2 b3 b4 b5 b6 b7 b8 b9 b10 ih1 ih2 =>
    have hz : ∀ x ∈ v.d, sumL [nameW x.1, x.2.wr] ≤ 100000000000 := by
      intro x hx
      have := sumL_mem _ _ (List.mem_map.2 ⟨x, hx, rfl⟩ : joinW [nameW x.1, x.2.wr] ∈ v.d.map fun p => joinW [nameW p.1, p.2.wr])
      rw [join2_len] at this
      simp [sumL]; omega
    have i1 := itoa_len v.n b1.1 b1.2
    have i2 := itoa_len v.g b2.1 b2.2
    have cut : ∀ (xs : List (List UInt8)) (Q : AV → Heap → Prop), sumL xs ≤ 100000000000 → Q (.imm (.str (aroundW v.k xs))) [] → C_write_plain_28 (txs xs) v.k v.n v.g v.s (v.l.map V.row) (v.d.map pRow) (K_write_plain_0 Q) := by
      intro xs Q hx hq
      exact C_write_plain_28_of _ _ _ _ _ _ _ _ (Call.use (S_around v.k xs hx) ⟨⟨rfl, rfl⟩, K_write_plain_0_x0 _ _ hq⟩)
    rw [WPlainAt, row_eq]
    refine F_write_plain_of _ _ _ _ _ _ _ (brD (fun h => ?_) fun h1 => brD (fun h => ?_) fun h2 => brD (fun h => ?_) fun h3 => brD (fun h => ?_) fun h4 => ?_)
    · refine Call.use (S_word _) ⟨⟨rfl, rfl⟩, ?_⟩
      rw [wr_eq, mkW, if_pos h]; exact ⟨rfl, rfl⟩
    · refine Call.use (S_digits_Put _ b1.1 b1.2) ⟨⟨rfl, rfl⟩, ?_⟩
      rw [wr_eq, mkW, if_neg h1, if_pos h]; exact ⟨rfl, rfl⟩
    · refine Call.use (S_write_Name _ (by omega)) ⟨⟨rfl, rfl⟩, ?_⟩
      rw [wr_eq, mkW, if_neg h1, if_neg h2, if_pos h]; exact ⟨rfl, rfl⟩
    · refine Call.use (S_write_Bytes _ (by omega)) ⟨⟨rfl, rfl⟩, ?_⟩
      rw [wr_eq, mkW, if_neg h1, if_neg h2, if_neg h3, if_pos h]; exact ⟨rfl, rfl⟩
    · rw [wr_around v h1 h2 h3 h4]
      refine brD (fun h => ?_) fun h5 => brD (fun h => ?_) fun h6 => brD (fun h => ?_) fun h7 => ?_
      · rw [if_pos h, List.length_map]
        exact L_wp_l v b4 ih1 _ _ _ _ _ _ _ (K_write_plain_1_x0 _ _ _ _ _ _ _ _ (cut _ _ (by omega) ⟨rfl, rfl⟩)) v.l.length 0 rfl
      · rw [if_neg h5, if_pos h, List.length_map]
        exact L_wp_d v b5 b8 hz ih2 _ _ _ _ _ _ _ (K_write_plain_2_x0 _ _ _ _ _ _ _ _ (cut _ _ (by omega) ⟨rfl, rfl⟩)) v.d.length 0 rfl
      · rw [if_neg h5, if_neg h6, if_pos h]
        refine Call.use (S_digits_Put _ b1.1 b1.2) ⟨⟨rfl, rfl⟩, Call.use (S_digits_Put _ b2.1 b2.2) ⟨⟨rfl, rfl⟩, ?_⟩⟩
        exact cut [Lib.itoa v.n, Lib.itoa v.g] _ (by simp [sumL]; omega) ⟨rfl, rfl⟩
      · rw [if_neg h5, if_neg h6, if_neg h7]
        exact cut [] _ (by simp [sumL]) ⟨rfl, rfl⟩
abbrev RWAt (v : V) : Prop := Call E0.P fn_r17_plain [.imm (.agg v.row)] [] (Is (.imm (.str v.wr)) [])
theorem L_rp_l (v : V) (hl : v.l.length ≤ 1000000) (hz : sumL (v.l.map V.wr) ≤ 10000000000) (ih : ∀ x ∈ v.l, RWAt x) (a b c : Int) (s : List UInt8) (q : List (List IV)) (K : Ex → St → Prop)
    (hE : K (.exit 1) ⟨[(3, .imm (.str (joinW (v.l.map V.wr))))], []⟩) :
    ∀ (m i : Nat), m + i = v.l.length → L_r17_plain_16 (joinW ((v.l.map V.wr).take i)) i a b c s (vrs v.l) q K := by
  intro m
  induction m with
  | zero =>
    intro i hi
    refine L_r17_plain_16_of _ _ _ _ _ _ _ _ _ (brD (fun h => by rw [vrs_len] at h; omega) fun _ => ?_)
    rw [List.take_of_length_le (by rw [List.length_map]; omega)]
    exact hE
  | succ m ihm =>
    intro i hi
    have hlt : i < v.l.length := by omega
    have hlt' : i < (v.l.map V.wr).length := by rw [List.length_map]; exact hlt
    have hj := join_take (v.l.map V.wr) i hlt'
    have hg : (v.l.map V.wr)[i] = v.l[i].wr := by simp
    rw [hg] at hj
    have l1 := join_len ((v.l.map V.wr).take i)
    have l2 := sumL_take (v.l.map V.wr) i
    have l3 := sumL_mem _ _ (List.mem_map.2 ⟨v.l[i], List.getElem_mem hlt, rfl⟩ : v.l[i].wr ∈ v.l.map V.wr)
    have fin : ∀ t : List UInt8, t.length ≤ 10000000001 → t ++ v.l[i].wr = joinW ((v.l.map V.wr).take (i + 1)) → C_r17_plain_21 t i a b c s (vrs v.l) q (K_r17_plain_5 K) := by
      intro t ht he
      refine C_r17_plain_21_of _ _ _ _ _ _ _ _ _ ?_
      rw [show (vrs v.l).getD (Int.toNat (i : Int)) [] = (vAt v.l i).row from vrow_at _ _ hlt, vrow_form, vrs_len, at_get hlt]
      refine ⟨⟨⟨by omega, by omega⟩, vrow_ok _ _ _⟩, Call.use (ih _ (List.getElem_mem hlt)) ⟨⟨rfl, rfl⟩, ⟨?_, ?_⟩⟩⟩
      · show (((t.length + v.l[i].wr.length : Nat)) : Int) ≤ _
        omega
      · show K_r17_plain_5 K .normal ⟨[(1, .ptr (Nm.loc 1) 0), (3, .imm (.str (t ++ v.l[i].wr))), (4, .imm (.int .i64 i))], _⟩
        rw [he]
        refine K_r17_plain_5_x0 _ _ _ _ _ _ _ _ _ (C_r17_plain_22_of _ _ _ _ _ _ _ _ _ ?_)
        rw [wr1 i (by omega)]
        exact K_r17_plain_4_x0 _ _ _ _ _ _ _ _ _ (ihm (i + 1) (by omega))
    refine L_r17_plain_16_of _ _ _ _ _ _ _ _ _ (brD (fun _ => brD (fun h0 => ⟨?_, fin _ ?_ ?_⟩) fun h0 => fin _ ?_ ?_) fun h => by rw [vrs_len] at h; omega)
    · omega
    · simp; omega
    · rw [hj, if_pos (by omega)]
    · omega
    · rw [hj, if_neg (by omega)]
theorem L_rp_d (v : V) (hl : v.d.length ≤ 1000000) (hk : ∀ x ∈ v.d, x.1.length ≤ 3000) (hz : sumL (v.d.map fun x => joinW [nameW x.1, x.2.wr]) ≤ 10000000000) (ih : ∀ x ∈ v.d, RWAt x.2) (a b c : Int) (s : List UInt8) (q : List (List IV)) (K : Ex → St → Prop)
    (hE : K (.exit 3) ⟨[(5, .imm (.str (joinW (v.d.map fun x => joinW [nameW x.1, x.2.wr]))))], []⟩) :
    ∀ (m i : Nat), m + i = v.d.length → L_r17_plain_28 (joinW ((v.d.map fun x => joinW [nameW x.1, x.2.wr]).take i)) i a b c s q (prs v.d) K := by
  intro m
  induction m with
  | zero =>
    intro i hi
    refine L_r17_plain_28_of _ _ _ _ _ _ _ _ _ (brD (fun h => by rw [prs_len] at h; omega) fun _ => ?_)
    rw [List.take_of_length_le (by rw [List.length_map]; omega)]
    exact hE
  | succ m ihm =>
    intro i hi
    have hlt : i < v.d.length := by omega
    have hm := List.getElem_mem hlt
    have hk := hk _ hm
    have hlt' : i < (v.d.map fun x => joinW [nameW x.1, x.2.wr]).length := by rw [List.length_map]; exact hlt
    have hj := join_take (v.d.map fun x => joinW [nameW x.1, x.2.wr]) i hlt'
    have hg : (v.d.map fun x => joinW [nameW x.1, x.2.wr])[i] = nameW v.d[i].1 ++ [32] ++ v.d[i].2.wr := by simp [join_cons2]
    rw [hg] at hj
    have l1 := join_len ((v.d.map fun x => joinW [nameW x.1, x.2.wr]).take i)
    have l2 := sumL_take (v.d.map fun x => joinW [nameW x.1, x.2.wr]) i
    have l3 := sumL_mem _ _ (List.mem_map.2 ⟨v.d[i], hm, rfl⟩ : joinW [nameW v.d[i].1, v.d[i].2.wr] ∈ v.d.map fun x => joinW [nameW x.1, x.2.wr])
    rw [join2_len] at l3
    have fin : ∀ t : List UInt8, t.length ≤ 10000000001 → t ++ (nameW v.d[i].1 ++ [32] ++ v.d[i].2.wr) = joinW ((v.d.map fun x => joinW [nameW x.1, x.2.wr]).take (i + 1)) → C_r17_plain_33 t i a b c s q (prs v.d) (K_r17_plain_7 K) := by
      intro t ht he
      refine C_r17_plain_33_of _ _ _ _ _ _ _ _ _ ?_
      rw [show (prs v.d).getD (Int.toNat (i : Int)) [] = pRow (pAt v.d i) from prow_at _ _ hlt, prow_tail, pkey, prs_len, pat_get hlt]
      have rng : ((0 : Int) ≤ (i : Int) ∧ (i : Int) < (v.d.length : Int)) ∧ shOK [.str, .int .i64, .int .i64, .int .i64, .str, .sl 6 ty_api_Value, .sl 7 ty_api_Pair] (pRow v.d[i]) = true := ⟨⟨by omega, by omega⟩, row_ok _ _ _⟩
      refine ⟨rng, ⟨rng, Call.use (S_r17_Name _ (by omega)) ⟨⟨rfl, rfl⟩, ⟨?_, ⟨?_, Call.use (ih _ hm) ⟨⟨rfl, rfl⟩, ⟨?_, ?_⟩⟩⟩⟩⟩⟩⟩
      · show (((t.length + (nameW v.d[i].1).length : Nat)) : Int) ≤ _
        omega
      · show ((((t ++ nameW v.d[i].1).length + 1 : Nat)) : Int) ≤ _
        rw [List.length_append]; omega
      · show ((((t ++ nameW v.d[i].1 ++ [32]).length + v.d[i].2.wr.length : Nat)) : Int) ≤ _
        rw [List.length_append, List.length_append]; simp only [List.length_cons, List.length_nil]; omega
      · show K_r17_plain_7 K .normal ⟨[(1, .ptr (Nm.loc 1) 0), (5, .imm (.str (t ++ nameW v.d[i].1 ++ [32] ++ v.d[i].2.wr))), (6, .imm (.int .i64 i))], _⟩
        rw [show t ++ nameW v.d[i].1 ++ [32] ++ v.d[i].2.wr = t ++ (nameW v.d[i].1 ++ [32] ++ v.d[i].2.wr) by simp, he]
        refine K_r17_plain_7_x0 _ _ _ _ _ _ _ _ _ (C_r17_plain_34_of _ _ _ _ _ _ _ _ _ ?_)
        rw [wr1 i (by omega)]
        exact K_r17_plain_6_x0 _ _ _ _ _ _ _ _ _ (ihm (i + 1) (by omega))
    refine L_r17_plain_28_of _ _ _ _ _ _ _ _ _ (brD (fun _ => brD (fun h0 => ⟨?_, fin _ ?_ ?_⟩) fun h0 => fin _ ?_ ?_) fun h => by rw [prs_len] at h; omega)
    · omega
    · simp; omega
    · rw [hj, if_pos (by omega)]
    · omega
    · rw [hj, if_neg (by omega)]
theorem S_rplain (v : V) (h : SmW v) : RWAt v := by
  induction h with
  | mk v b1 b2 b3 b4 b5 b6 b7 b8 b9 b10 ih1 ih2 =>
    have i1 := itoa_len v.n b1.1 b1.2
    have i2 := itoa_len v.g b2.1 b2.2
    rw [RWAt, row_eq]
    refine F_r17_plain_of _ _ _ _ _ _ _ (brD (fun h => brD (fun h2 => ?_) fun h2 => ?_) fun h1 => brD (fun h => ?_) fun h2 => brD (fun h => ?_) fun h3 => brD (fun h => ?_) fun h4 => ?_)
    · rw [wr_eq, mkW, if_pos h, if_pos h2]; exact ⟨rfl, rfl⟩
    · rw [wr_eq, mkW, if_pos h, if_neg h2]; exact ⟨rfl, rfl⟩
    · refine Call.use (S_r02_Put _ b1.1 b1.2) ⟨⟨rfl, rfl⟩, ?_⟩
      rw [wr_eq, mkW, if_neg h1, if_pos h]; exact ⟨rfl, rfl⟩
    · refine Call.use (S_r17_Name _ (by omega)) ⟨⟨rfl, rfl⟩, ?_⟩
      rw [wr_eq, mkW, if_neg h1, if_neg h2, if_pos h]; exact ⟨rfl, rfl⟩
    · refine Call.use (S_r17_Bytes _ (by omega)) ⟨⟨rfl, rfl⟩, ?_⟩
      rw [wr_eq, mkW, if_neg h1, if_neg h2, if_neg h3, if_pos h]; exact ⟨rfl, rfl⟩
    · rw [wr_around v h1 h2 h3 h4]
      have j1 := join_len (v.l.map V.wr)
      have j2 := join_len (v.d.map fun x => joinW [nameW x.1, x.2.wr])
      refine brD (fun h => ?_) fun h5 => brD (fun h => ?_) fun h6 => brD (fun h => ?_) fun h7 => ?_
      · rw [if_pos h]
        refine L_rp_l v b4 b6 ih1 _ _ _ _ _ _ (K_r17_plain_2_x0 _ _ (C_r17_plain_23_of _ _ ⟨by omega, ⟨by simp only [List.length_append, List.length_cons, List.length_nil]; omega, K_r17_plain_1_x0 _ _ ?_⟩⟩)) v.l.length 0 rfl
        rw [aroundW, if_pos h]; exact ⟨rfl, rfl⟩
      · rw [if_neg h5, if_pos h]
        refine L_rp_d v b5 b8 b7 ih2 _ _ _ _ _ _ (K_r17_plain_3_x0 _ _ (C_r17_plain_35_of _ _ ⟨by omega, ⟨by simp only [List.length_append, List.length_cons, List.length_nil]; omega, K_r17_plain_1_x0 _ _ ?_⟩⟩)) v.d.length 0 rfl
        rw [aroundW, if_neg h5, if_pos h]; exact ⟨rfl, rfl⟩
      · rw [if_neg h5, if_neg h6, if_pos h]
        refine Call.use (S_r02_Put _ b1.1 b1.2) ⟨⟨rfl, rfl⟩, ?_⟩
        rw [rS_str]
        refine ⟨by omega, Call.use (S_r02_Put _ b2.1 b2.2) ⟨⟨rfl, rfl⟩, ?_⟩⟩
        rw [rS_str]
        refine ⟨by rw [List.length_append]; simp only [List.length_cons, List.length_nil]; omega, ⟨by rw [List.length_append, List.length_append]; simp only [List.length_cons, List.length_nil]; omega, ?_⟩⟩
        rw [aroundW, if_neg h5, if_neg h6, if_pos h, join_cons2]
        have : Lib.itoa v.n ++ (([Lib.itoa v.g].map fun t => (32 : UInt8) :: t).flatten) ++ [32, 82] = Lib.itoa v.n ++ [32] ++ Lib.itoa v.g ++ [32, 82] := by simp
        rw [this]; exact ⟨rfl, rfl⟩
      · rw [if_neg h5, if_neg h6, if_neg h7, aroundW, if_neg h5, if_neg h6, if_neg h7]
        exact C_r17_plain_39_of _ (K_r17_plain_0_x0 _ _ ⟨rfl, rfl⟩)
end Go.Proofs.Sim.Se

set_option linter.unusedVariables false
set_option linter.unusedSimpArgs false
set_option maxRecDepth 100000
namespace Go.Proofs.Sim.Se
open Go Go.Proofs Go.Proofs.Sim Go.Proofs.Sim.Va Go.Proofs.Sim.St Go.RowKit

abbrev Tr : AV → Heap → Prop := Is (.imm (.bool true)) []
def isTX (t : List UInt8 × Int) : AV := .tup [.imm (.str t.1), .imm (.int .i64 t.2)]
theorem tx0 (t : List UInt8 × Int) : rS (rT (isTX t) 0) = t.1 := rfl
theorem tx1 (t : List UInt8 × Int) : rI (rT (isTX t) 1) = t.2 := rfl
theorem S_write_Text (v : V) (hs : Scal v) (hc : cntV v ≤ 1000) : Call E0.P fn_write_Text [.imm (.agg v.row)] [] (Is (isTX (textV v)) []) := by
  have hf := fit_cnt 1000 (by omega) _ v (Nat.le_refl _) hc
  obtain ⟨p1, p2⟩ := plain_both hs
  have h1 := S_Check v hf false
  have h2 : PlainAt v := S_Plain v hf
  have h3 : WPlainAt v.plain := S_wplain _ (scal_smW p1 (by omega))
  rw [PlainAt] at h2
  rw [row_eq] at h1 h2 ⊢
  refine F_write_Text_of _ _ _ _ _ _ _ (Call.use h1 ⟨⟨rfl, rfl⟩, ?_⟩)
  rw [rI_int, textV]
  refine ⟨fun h => ?_, fun h => ?_⟩
  · rw [if_pos (ndT h)]; exact ⟨rfl, rfl⟩
  · rw [if_neg (by simpa using ndF h)]
    refine Call.use h2 ?_
    rw [vres, vrow_form]
    exact ⟨⟨rfl, rfl⟩, Call.use h3 ⟨⟨rfl, rfl⟩, ⟨rfl, rfl⟩⟩⟩
theorem S_r17_Text (v : V) (hs : Scal v) (hc : cntV v ≤ 1000) : Call E0.P fn_r17_Text [.imm (.agg v.row)] [] (Is (isTX (textV v)) []) := by
  have hf := fit_cnt 1000 (by omega) _ v (Nat.le_refl _) hc
  obtain ⟨p1, p2⟩ := plain_both hs
  have h1 := S_r16_Check v hf (scal_fitS hs) false
  have h2 : RPlainAt v := S_RPlain v hf
  have h3 : RWAt v.plain := S_rplain _ (scal_smW p1 (by omega))
  rw [RPlainAt] at h2
  rw [row_eq] at h1 h2 ⊢
  refine F_r17_Text_of _ _ _ _ _ _ _ (Call.use h1 ⟨⟨rfl, rfl⟩, ?_⟩)
  rw [rI_int, textV]
  refine ⟨fun h => ?_, fun h => ?_⟩
  · rw [if_pos (ndT h)]; exact ⟨rfl, rfl⟩
  · rw [if_neg (by simpa using ndF h)]
    refine Call.use h2 ?_
    rw [vres, vrow_form]
    exact ⟨⟨rfl, rfl⟩, Call.use h3 ⟨⟨rfl, rfl⟩, ⟨rfl, rfl⟩⟩⟩
def exN : V := .mk 2 1 0 [] [] []
def exK : V := .mk 7 2 0 [] [] []
def exL : V := .mk 5 0 0 [] [exN, exK] []
def exT : V := .mk 4 0 0 [97, 40, 98] [] []
def exD : V := .mk 6 0 0 [] [] [([66], exL), ([65, 35], exT)]
theorem chk_leaf (k n g : Int) (s : List UInt8) (st : Bool) (w : Int) : (V.mk k n g s [] []).chk st w = ownV (.mk k n g s [] []) st w := by
  rw [chk_eq]
  simp only [V.l, V.d, List.map_nil, fstE, keyE]
  split
  · rfl
  · rename_i h
    simp at h
    simp [h]
theorem ex_chk : exD.chk false 0 = 0 := by
  have h1 : exN.chk false 2 = 0 := by rw [exN, chk_leaf]; decide +kernel
  have h2 : exK.chk false 2 = 0 := by rw [exK, chk_leaf]; decide +kernel
  have h3 : exT.chk false 1 = 0 := by rw [exT, chk_leaf]; decide +kernel
  have h4 : exL.chk false 1 = 0 := by
    rw [chk_eq]
    have o : ownV exL false 1 = 0 := by decide +kernel
    have l : exL.l = [exN, exK] := rfl
    have d : exL.d = [] := rfl
    rw [o, l, d]
    simp [fstE, keyE, h1, h2]
  rw [chk_eq]
  have o : ownV exD false 0 = 0 := by decide +kernel
  have l : exD.l = [] := rfl
  have d : exD.d = [([66], exL), ([65, 35], exT)] := rfl
  rw [o, l, d]
  have b1 : ¬ badKey [66] := by decide
  have b2 : ¬ badKey [65, 35] := by decide
  simp [fstE, keyE, h3, h4, b1, b2]
theorem plain_leaf (k n g : Int) (s : List UInt8) : (V.mk k n g s [] []).plain = mkP k n g s [] [] := by rw [plain_eq]; rfl
theorem ex_plain : exD.plain = .mk 6 0 0 [] [] [([65, 35], exT), ([66], exL)] := by
  have h1 : exN.plain = exN := by rw [exN, plain_leaf]; rfl
  have h2 : exK.plain = exK := by rw [exK, plain_leaf]; rfl
  have h3 : exT.plain = exT := by rw [exT, plain_leaf]; rfl
  have h4 : exL.plain = exL := by
    rw [plain_eq]
    have l : exL.l = [exN, exK] := rfl
    have d : exL.d = [] := rfl
    rw [l, d, List.map_cons, List.map_cons, List.map_nil, h1, h2]; rfl
  rw [plain_eq]
  have l : exD.l = [] := rfl
  have d : exD.d = [([66], exL), ([65, 35], exT)] := rfl
  have e : plP exD.d = [([66], exL), ([65, 35], exT)] := by rw [d, plP]; simp [h3, h4]
  rw [e, l]
  show mkP 6 0 0 [] _ _ = _
  rw [mkP, if_neg (by decide), if_neg (by decide), if_neg (by decide), if_pos rfl]
  have u : uniq [([66], exL), ([65, 35], exT)] = [([65, 35], exT), ([66], exL)] := by kernel_rfl
  rw [u]; rfl
theorem ex_wr : exD.plain.wr = [60, 60, 47, 65, 35, 50, 51, 32, 40, 97, 92, 40, 98, 41, 32, 47, 66, 32, 91, 49, 32, 50, 32, 48, 32, 82, 93, 62, 62] := by
  have i0 : Lib.itoa 0 = [48] := by
    rw [show (0 : Int) = ((0 : Nat) : Int) from rfl, Lib.itoa_nonneg, Lib.decDigits_one (by omega)]; rfl
  have i1 : Lib.itoa 1 = [49] := by
    rw [show (1 : Int) = ((1 : Nat) : Int) from rfl, Lib.itoa_nonneg, Lib.decDigits_one (by omega)]; rfl
  have i2 : Lib.itoa 2 = [50] := by
    rw [show (2 : Int) = ((2 : Nat) : Int) from rfl, Lib.itoa_nonneg, Lib.decDigits_one (by omega)]; rfl
  have h1 : exN.wr = [49] := by rw [wr_eq]; show Lib.itoa 1 = _; exact i1
  have h2 : exK.wr = [50, 32, 48, 32, 82] := by
    rw [wr_eq]
    show joinW [Lib.itoa 2, Lib.itoa 0] ++ [32, 82] = _
    rw [i0, i2]; rfl
  have h3 : exT.wr = [40, 97, 92, 40, 98, 41] := by rw [wr_eq]; show textW [97, 40, 98] = _; decide +kernel
  have h4 : exL.wr = [91, 49, 32, 50, 32, 48, 32, 82, 93] := by
    rw [wr_eq]
    show [91] ++ joinW ([exN, exK].map V.wr) ++ [93] = _
    rw [List.map_cons, List.map_cons, List.map_nil, h1, h2]; rfl
  rw [ex_plain, wr_eq]
  show [60, 60] ++ joinW (([([65, 35], exT), ([66], exL)].map fun p : Pr => (p.1, p.2.wr)).map fun p => joinW [nameW p.1, p.2]) ++ [62, 62] = _
  simp only [List.map_cons, List.map_nil, h3, h4]
  decide +kernel
theorem ex_scal : Scal exD ∧ cntV exD ≤ 1000 := by
  have z : ∀ n : Int, n = 0 ∨ n = 1 ∨ n = 2 → I64 n := fun n h => ⟨by omega, by omega⟩
  have leaf : ∀ (k n g : Int) (s : List UInt8), I64 n → I64 g → s.length ≤ 3000 → Scal (.mk k n g s [] []) := by
    intro k n g s h1 h2 h3
    exact .mk _ h1 h2 h3 (fun x hx => by cases hx) (fun x hx => by cases hx) (fun x hx => by cases hx)
  have h1 : Scal exN := leaf _ _ _ _ (z _ (by omega)) (z _ (by omega)) (by decide)
  have h2 : Scal exK := leaf _ _ _ _ (z _ (by omega)) (z _ (by omega)) (by decide)
  have h3 : Scal exT := leaf _ _ _ _ (z _ (by omega)) (z _ (by omega)) (by decide)
  have h4 : Scal exL := by
    refine .mk _ (z _ (.inl rfl)) (z _ (.inl rfl)) (by decide) (fun x hx => ?_) (fun x hx => by cases hx) (fun x hx => by cases hx)
    have hx : x ∈ [exN, exK] := hx
    simp only [List.mem_cons, List.not_mem_nil, or_false] at hx
    rcases hx with rfl | rfl
    · exact h1
    · exact h2
  refine ⟨.mk _ (z _ (.inl rfl)) (z _ (.inl rfl)) (by decide) (fun x hx => by cases hx) (fun x hx => ?_) (fun x hx => ?_), ?_⟩
  · have hx : x ∈ [(([66] : Ky), exL), ([65, 35], exT)] := hx
    simp only [List.mem_cons, List.not_mem_nil, or_false] at hx
    rcases hx with rfl | rfl <;> decide
  · have hx : x ∈ [(([66] : Ky), exL), ([65, 35], exT)] := hx
    simp only [List.mem_cons, List.not_mem_nil, or_false] at hx
    rcases hx with rfl | rfl
    · exact h4
    · exact h3
  · have c : ∀ (k n g : Int) (s : List UInt8), cntV (.mk k n g s [] []) = 1 := fun k n g s => by rw [cnt_eq]; simp [V.l, V.d]
    have c4 : cntV exL = 3 := by
      rw [cnt_eq]
      show 1 + ([exN, exK].map cntV).sum + 0 = 3
      rw [List.map_cons, List.map_cons, exN, exK, c, c]; rfl
    rw [cnt_eq]
    show 1 + 0 + ([([66], exL), ([65, 35], exT)].map fun p : Pr => cntV p.2).sum ≤ 1000
    simp only [List.map_cons, List.map_nil, c4]
    rw [exT, c]; decide
theorem str_scal : Scal (.mk 8 0 0 [] [] []) ∧ cntV (.mk 8 0 0 [] [] []) ≤ 1000 := by
  refine ⟨.mk _ ⟨by decide, by decide⟩ ⟨by decide, by decide⟩ (by decide) (fun x hx => by cases hx) (fun x hx => by cases hx) (fun x hx => by cases hx), ?_⟩
  rw [cnt_eq]; simp [V.l, V.d]
theorem ex_text : textV exD = ([60, 60, 47, 65, 35, 50, 51, 32, 40, 97, 92, 40, 98, 41, 32, 47, 66, 32, 91, 49, 32, 50, 32, 48, 32, 82, 93, 62, 62], 0) := by
  rw [textV, ex_chk, ex_wr]; rfl
theorem str_text : textV (.mk 8 0 0 [] [] []) = ([], 10) := by
  have : (V.mk 8 0 0 [] [] []).chk false 0 = 10 := by rw [chk_leaf]; decide +kernel
  rw [textV, this]; rfl
theorem brT' {A B : Prop} {b : Bool} (hb : b = true) (h : A) : Br b A B := ⟨fun _ => h, fun h' => absurd (hb.symm.trans h') (by decide)⟩
theorem S_written : Call E0.P fn_l17_written [] [] Tr := by
  have h1 := S_write_Text exD ex_scal.1 ex_scal.2
  have h2 := S_write_Text (.mk 8 0 0 [] [] []) str_scal.1 str_scal.2
  have r1 : exD.row = [.int .i64 6, .int .i64 0, .int .i64 0, .str [], .sl .any 6 [], .sl .any 7 [[.str [66], .int .i64 5, .int .i64 0, .int .i64 0, .str [], .sl .any 6 [[.int .i64 2, .int .i64 1, .int .i64 0, .str [], .sl .any 6 [], .sl .any 7 []], [.int .i64 7, .int .i64 2, .int .i64 0, .str [], .sl .any 6 [], .sl .any 7 []]], .sl .any 7 []], [.str [65, 35], .int .i64 4, .int .i64 0, .int .i64 0, .str [97, 40, 98], .sl .any 6 [], .sl .any 7 []]]] := by
    rw [row_eq]
    simp [exD, exL, exT, exN, exK, V.k, V.n, V.g, V.s, V.l, V.d, pRow, row_eq]
  have r2 : (V.mk 8 0 0 [] [] []).row = [.int .i64 8, .int .i64 0, .int .i64 0, .str [], .sl .any 6 [], .sl .any 7 []] := by
    rw [row_eq]; rfl
  rw [r1, ex_text] at h1
  rw [r2, str_text] at h2
  refine F_l17_written_of _ (Call.use h1 ⟨⟨rfl, rfl⟩, Call.use h2 ⟨⟨rfl, rfl⟩, ?_⟩⟩)
  rw [tx0, tx1, tx1]
  refine Let.intro (Let.intro (brT' (by decide) ?_))
  refine Call.use (S_write_Bytes [10] (by decide)) ⟨⟨rfl, rfl⟩, ?_⟩
  rw [rS_str]
  refine Let.intro (brT' (by decide +kernel) ?_)
  refine Call.use (S_write_Name [97, 32, 98] (by decide)) ⟨⟨rfl, rfl⟩, ?_⟩
  rw [rS_str]
  have : (nameW [97, 32, 98] == [47, 97, 35, 50, 48, 98]) = true := by decide +kernel
  rw [this]
  exact Let.intro ⟨rfl, rfl⟩
theorem fin_w (Q : AV → Heap → Prop) (hq : Q (.imm (.bool true)) []) : Call E0.P fn_l17_written [] [] fun r5 g5 => Req (g5 = [] ∧ r5 = .imm (.bool (rB r5))) (Let (rB r5) fun x6 => Q (.imm (.bool x6)) []) :=
  Call.use S_written ⟨⟨rfl, rfl⟩, Let.intro hq⟩
theorem S_WriteTells (v : V) (hw : Wf v) : Call E0.P fn_l17_WriteTells [.imm (.agg v.row)] [] Tr := by
  have hF := S_Few v hw 500 (by omega)
  have hT := S_write_Text v
  have hR := S_r17_Text v
  rw [row_eq] at hF hT hR ⊢
  refine F_l17_WriteTells_of _ _ _ _ _ _ _ (gd_use hF fun c hc => ⟨⟨rfl, rfl⟩, ?_⟩)
  cases c with
  | false => exact ⟨fun _ => Call.use S_written ⟨⟨rfl, rfl⟩, ⟨rfl, rfl⟩⟩, fun h => absurd h (by decide)⟩
  | true =>
    have hf := hc rfl
    have hs := scal_of hw hf.s
    have hcn := hf.c
    refine ⟨fun h => absurd h (by decide), fun _ => ?_⟩
    refine Call.use (hT hs (by omega)) ⟨⟨rfl, rfl⟩, Call.use (hR hs (by omega)) ⟨⟨rfl, rfl⟩, ?_⟩⟩
    rw [tx0, tx1]
    exact Let.intro (brT' (by simp) (fin_w _ ⟨rfl, rfl⟩))
end Go.Proofs.Sim.Se

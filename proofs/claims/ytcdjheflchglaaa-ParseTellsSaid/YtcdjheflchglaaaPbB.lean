import Derived.Test.YtcdjheflchglaaaPbA
import Derived.Test.YtcdjheflchglaaaVsC
set_option maxRecDepth 100000
namespace Go.Proofs.Sim.Se
open Go Go.Proofs Go.Proofs.Sim Go.Proofs.Sim.Va Go.RowKit Go.Proofs.Sim.Pa

abbrev zrow : AV := .imm (.agg [.int .i64 0, .int .i64 0, .int .i64 0, .str [], .sl .any 6 [], .sl .any 7 []])
abbrev rrA (x : V × Nat × Int) : AV := .tup [.imm (.agg x.1.row), .imm (.int .i64 x.2.1), .imm (.int .i64 x.2.2)]
abbrev rrForm (r : AV) : AV := .tup [.imm (.agg [.int .i64 (gI (aCells (rT r 0)) 0), .int .i64 (gI (aCells (rT r 0)) 1), .int .i64 (gI (aCells (rT r 0)) 2), .str (gS (aCells (rT r 0)) 3), .sl .any 6 (gR (aCells (rT r 0)) 4), .sl .any 7 (gR (aCells (rT r 0)) 5)]), .imm (.int .i64 (rI (rT r 1))), .imm (.int .i64 (rI (rT r 2)))]
theorem rr_form (x : V × Nat × Int) : rrForm (rrA x) = rrA x := by
  show AV.tup [.imm (.agg [.int .i64 (gI x.1.row 0), .int .i64 (gI x.1.row 1), .int .i64 (gI x.1.row 2), .str (gS x.1.row 3), .sl .any 6 (gR x.1.row 4), .sl .any 7 (gR x.1.row 5)]), .imm (.int .i64 x.2.1), .imm (.int .i64 x.2.2)] = _
  rw [vform]
theorem rr_ok {c : Nat} {k n g : Int} {t : List UInt8} {l : List V} {d : List Pr} {L D : LL} (hl : l.map V.row = L) (hd : d.map pRow = D) : AV.tup [.imm (.agg [.int .i64 k, .int .i64 n, .int .i64 g, .str t, .sl .any 6 L, .sl .any 7 D]), .imm (.int .i64 c), .imm (.int .i64 0)] = rrA (.mk k n g t l d, c, 0) := by
  subst hl; subst hd
  unfold rrA; rw [mk_row]
theorem rr_err (e : Int) : AV.tup [zrow, .imm (.int .i64 0), .imm (.int .i64 e)] = rrA (errV e) := by
  unfold errV rrA; rw [mk_row]; rfl
theorem part_kind (k : Int) (p : Nat) (x : Part) (h : (partT k p x).e = 0) : (partT k p x).k = k := by
  unfold partT at h ⊢
  split
  · rfl
  · rename_i h0; rw [if_neg h0] at h; exact absurd h h0
theorem word_kind (l : List UInt8) (p : Nat) (h : (wordT l p).e = 0) : (wordT l p).k = 1 ∨ (wordT l p).k = 8 := by
  unfold wordT at h ⊢
  split
  · exact .inl rfl
  · rename_i h1
    rw [if_neg h1] at h
    split
    · rename_i h2; rw [if_pos h2] at h; cases h
    · rename_i h2
      rw [if_neg h2] at h
      split
      · rename_i h3; rw [if_pos h3] at h; cases h
      · exact .inr rfl
theorem kin (k : Int) (h : 0 ≤ k ∧ k ≤ 8) : 0 ≤ k ∧ k ≤ 8 := h
theorem brIsF {b : Bool} {A B : Prop} (hb : b = false) (h : B) : Br b A B := by subst hb; exact brF h
theorem tok_kind (c : UInt8) (r : List UInt8) (p : Nat) (h : (tokL c r p).e = 0) : 0 ≤ (tokL c r p).k ∧ (tokL c r p).k ≤ 8 := by
  unfold tokL at h ⊢
  by_cases h1 : c.toNat = 91
  · rw [if_pos h1]; exact kin 4 (by decide)
  rw [if_neg h1] at h ⊢
  by_cases h2 : c.toNat = 93
  · rw [if_pos h2]; exact kin 5 (by decide)
  rw [if_neg h2] at h ⊢
  by_cases h3 : c.toNat = 47
  · rw [if_pos h3] at h ⊢; rw [part_kind _ _ _ h]; exact ⟨by decide, by decide⟩
  rw [if_neg h3] at h ⊢
  by_cases h4 : c.toNat = 40
  · rw [if_pos h4] at h ⊢; rw [part_kind _ _ _ h]; exact ⟨by decide, by decide⟩
  rw [if_neg h4] at h ⊢
  by_cases h5 : c.toNat = 60
  · rw [if_pos h5] at h ⊢
    split
    · exact kin 6 (by decide)
    · rename_i h6; rw [if_neg h6] at h; rw [part_kind _ _ _ h]; exact ⟨by decide, by decide⟩
  rw [if_neg h5] at h ⊢
  by_cases h6 : c.toNat = 62
  · rw [if_pos h6] at h ⊢
    split
    · exact kin 7 (by decide)
    · exact kin 0 (by decide)
  rw [if_neg h6] at h ⊢
  by_cases h7 : kd c = 1
  · rw [if_pos h7]; exact kin 0 (by decide)
  rw [if_neg h7] at h ⊢
  rcases word_kind _ _ h with e | e <;> rw [e] <;> exact ⟨by decide, by decide⟩
theorem next_kind (s : List UInt8) (a : Int) (h : (nextL s a).e = 0) : 0 ≤ (nextL s a).k ∧ (nextL s a).k ≤ 8 := by
  by_cases hp : skipP s a < s.length
  · rw [next_tok s a hp] at h ⊢; exact tok_kind _ _ _ h
  · rw [next_end s a hp]; exact kin 0 (by decide)
section
variable (s : List UInt8) (hs : s.length ≤ 65535)
include hs
theorem S_rlink_no (t : Tk) (h : linkL s t.b = none) : Call E0.P fn_r18_link [.imm (.str s), .imm (.agg t.row)] [] (Is (.tup [zrow, .imm (.int .i64 0), .imm (.bool false)]) []) := by
  refine F_r18_link_of _ _ _ _ _ _ _ (Call.use (S_rNext s hs t.b) ⟨⟨rfl, rfl⟩, Let.intro ?_⟩)
  unfold linkL at h
  have e1 : (bif !decide (rI (rT (nxA (nextL s t.b)) 1) = 0) then true else !decide (gI (aCells (rT (nxA (nextL s t.b)) 0)) 0 = 1)) = !decide ((nextL s t.b).e = 0 ∧ (nextL s t.b).k = 1) := by
    show (bif !decide ((nextL s t.b).e = 0) then true else !decide ((nextL s t.b).k = 1)) = _
    by_cases h1 : (nextL s t.b).e = 0 <;> by_cases h2 : (nextL s t.b).k = 1 <;> simp [h1, h2]
  rw [e1]
  refine brN dec_iff (fun _ => ⟨rfl, rfl⟩) fun h1 => ?_
  rw [if_pos h1] at h
  refine Call.use (S_rNext s hs ((nextL s t.b).b : Nat)) ⟨⟨rfl, rfl⟩, Let.intro (Let.intro ?_)⟩
  refine ⟨fun _ => ⟨rfl, rfl⟩, fun hf => ?_⟩
  exfalso
  have hf : (bif (bif !decide ((nextL s (nextL s t.b).b).e = 0) then true else !decide ((nextL s (nextL s t.b).b).k = 8)) then true else !((nextL s (nextL s t.b).b).s == [82])) = false := hf
  by_cases h3 : (nextL s (nextL s t.b).b).e = 0 <;> by_cases h4 : (nextL s (nextL s t.b).b).k = 8 <;> by_cases h5 : (nextL s (nextL s t.b).b).s = [82]
  · rw [if_pos ⟨h3, h4, h5⟩] at h; cases h
  all_goals simp [h3, h4, h5] at hf
theorem S_rlink_yes (t : Tk) (g : Int) (c : Nat) (h : linkL s t.b = some (g, c)) : Call E0.P fn_r18_link [.imm (.str s), .imm (.agg t.row)] [] (Is (.tup [.imm (.agg [.int .i64 7, .int .i64 t.n, .int .i64 g, .str [], .sl .any 6 [], .sl .any 7 []]), .imm (.int .i64 c), .imm (.bool true)]) []) := by
  refine F_r18_link_of _ _ _ _ _ _ _ (Call.use (S_rNext s hs t.b) ⟨⟨rfl, rfl⟩, Let.intro ?_⟩)
  unfold linkL at h
  have e1 : (bif !decide (rI (rT (nxA (nextL s t.b)) 1) = 0) then true else !decide (gI (aCells (rT (nxA (nextL s t.b)) 0)) 0 = 1)) = !decide ((nextL s t.b).e = 0 ∧ (nextL s t.b).k = 1) := by
    show (bif !decide ((nextL s t.b).e = 0) then true else !decide ((nextL s t.b).k = 1)) = _
    by_cases h1 : (nextL s t.b).e = 0 <;> by_cases h2 : (nextL s t.b).k = 1 <;> simp [h1, h2]
  rw [e1]
  split at h
  case isFalse => cases h
  rename_i h1
  refine brN dec_iff (fun h' => absurd h1 h') fun _ => ?_
  refine Call.use (S_rNext s hs ((nextL s t.b).b : Nat)) ⟨⟨rfl, rfl⟩, Let.intro (Let.intro ?_)⟩
  split at h
  case isFalse => cases h
  rename_i h2
  injection h with h; injection h with h3 h4
  subst h3; subst h4
  have hf : (bif (bif !decide ((nextL s (nextL s t.b).b).e = 0) then true else !decide ((nextL s (nextL s t.b).b).k = 8)) then true else !((nextL s (nextL s t.b).b).s == [82])) = false := by
    rw [decide_eq_true h2.1, decide_eq_true h2.2.1, h2.2.2]; rfl
  exact brIsF hf ⟨rfl, rfl⟩
theorem S_rnumber (t : Tk) : Call E0.P fn_r18_number [.imm (.str s), .imm (.agg t.row)] [] (Is (rrA (numL s t.n t.b)) []) := by
  unfold numL
  rcases hl : linkL s t.b with _ | ⟨g, c⟩
  · refine F_r18_number_of _ _ _ _ _ _ _ (Call.use (S_rlink_no s hs t hl) ⟨⟨rfl, rfl⟩, nBr0 rfl ⟨rr_ok rfl rfl, rfl⟩⟩)
  · refine F_r18_number_of _ _ _ _ _ _ _ (Call.use (S_rlink_yes s hs t g c hl) ⟨⟨rfl, rfl⟩, nBr1 rfl (Let.intro (Let.intro (Let.intro ?_)))⟩)
    refine brB (p := t.n < 1 ∨ 8388607 < t.n ∨ g < 0 ∨ 65535 < g) ?_ (fun h => ?_) fun h => ?_
    · show (bif (bif (bif decide (t.n < 1) then true else decide (8388607 < t.n)) then true else decide (g < 0)) then true else decide (65535 < g)) = true ↔ _
      rw [orB2, orB2, orBD]; omega
    · simp only [if_pos h]; exact ⟨rr_err 3, rfl⟩
    · simp only [if_neg h]; exact ⟨rr_ok rfl rfl, rfl⟩
omit hs in
theorem S_rw18 (t : Tk) : Call E0.P fn_r18_word [.imm (.agg t.row)] [] (Is (rrA (wordV t.s t.b)) []) := by
  unfold wordV
  refine F_r18_word_of _ _ _ _ _ _ (brB (p := t.s = [116, 114, 117, 101]) (by simp) (fun h => ?_) fun h1 => brB (p := t.s = [102, 97, 108, 115, 101]) (by simp) (fun h => ?_) fun h2 => brB (p := t.s = [110, 117, 108, 108]) (by simp) (fun h => ?_) fun h3 => ?_)
  · rw [if_pos h]; exact ⟨rr_ok rfl rfl, rfl⟩
  · rw [if_neg h1, if_pos h]; exact ⟨rr_ok rfl rfl, rfl⟩
  · rw [if_neg h1, if_neg h2, if_pos h]; exact ⟨rr_ok rfl rfl, rfl⟩
  · rw [if_neg h1, if_neg h2, if_neg h3]; exact ⟨rr_err 4, rfl⟩
abbrev RrAt (s : List UInt8) (m : Nat) : Prop := ∀ (w : Nat) (a : Int), w ≤ 64 → s.length < plc s a + m → Call E0.P fn_r18_read [.imm (.str s), .imm (.int .i64 a), .imm (.int .i64 w)] [] (Is (rrA (readL s m w (plc s a))) [])
theorem L_rlist (m : Nat) (ih : RrAt s m) (w : Nat) (hw : w ≤ 64) (Q : QQ) (X : V × Nat × Int) (hQ : Q (rrA X) []) : ∀ (f a : Nat) (acc : List V), a ≤ s.length → s.length < a + m → s.length < a + f → acc.length ≤ a → listL s (readL s m w) f a acc = X →
    L_r18_list_2 s a w 0 0 0 [] (acc.map V.row) [] [] (K_r18_list_0 Q) := by
  intro f
  induction f with
  | zero => intro a acc ha h1 h2; omega
  | succ f ihf =>
    intro a acc ha h1 h2 hl hX
    have hp := plc_nat s a ha
    rw [listL] at hX
    refine L_r18_list_2_of _ _ _ _ _ _ _ _ _ _ _ (Call.use (S_rNext s hs a) ⟨⟨rfl, rfl⟩, ?_⟩)
    refine brN (p := (nextL s a).e = 0) dec_iff (fun he => ?_) fun he => brB (p := (nextL s a).k = 5) dec_iff (fun h5 => ?_) fun h5 => ?_
    · rw [if_pos he] at hX
      apply K_r18_list_0_x0
      rw [← hX, ← rr_err] at hQ; exact hQ
    · rw [if_neg (fun h => h he), if_pos h5] at hX
      apply K_r18_list_0_x1
      rw [← hX, ← rr_ok rfl rfl] at hQ; exact hQ
    · rw [if_neg (fun h => h he), if_neg h5] at hX
      have hc := ih w a hw (by rw [hp]; omega)
      rw [hp] at hc
      have fin := read_fin s m w a ha
      generalize readL s m w a = x at hc fin hX
      refine Call.use hc ⟨⟨rfl, (rr_form x).symm⟩, brN (p := x.2.2 = 0) dec_iff (fun h0 => ?_) fun h0 => ?_⟩
      · rw [if_pos h0] at hX
        apply K_r18_list_0_x0
        rw [← hX, ← rr_err] at hQ; exact hQ
      · rw [if_neg (fun h => h h0)] at hX
        have f1 := fin h0
        refine ⟨⟨by rw [List.length_map]; omega, by rw [List.length_map]; omega⟩, ?_⟩
        have e4 : (acc.map V.row ++ [[IV.int .i64 (gI x.1.row 0), .int .i64 (gI x.1.row 1), .int .i64 (gI x.1.row 2), .str (gS x.1.row 3), .sl .any 6 (gR x.1.row 4), .sl .any 7 (gR x.1.row 5)]]) = (acc ++ [x.1]).map V.row := by rw [vform]; simp
        show L_r18_list_2 s x.2.1 w 0 0 0 [] (acc.map V.row ++ [[IV.int .i64 (gI x.1.row 0), .int .i64 (gI x.1.row 1), .int .i64 (gI x.1.row 2), .str (gS x.1.row 3), .sl .any 6 (gR x.1.row 4), .sl .any 7 (gR x.1.row 5)]]) [] [] _
        rw [e4]
        exact ihf x.2.1 (acc ++ [x.1]) f1.2 (by omega) (by omega) (by simp; omega) hX
theorem S_rlist (m : Nat) (ih : RrAt s m) (w : Nat) (hw : w ≤ 64) (a : Nat) (ha : a ≤ s.length) (h1 : s.length < a + m) : Call E0.P fn_r18_list [.imm (.str s), .imm (.int .i64 a), .imm (.int .i64 w)] [] (Is (rrA (listL s (readL s m w) (s.length + 1) a [])) []) :=
  F_r18_list_of _ _ _ _ (L_rlist s hs m ih w hw _ _ ⟨rfl, rfl⟩ (s.length + 1) a [] ha h1 (by omega) (by simp) rfl)
omit hs in
theorem key_at (acc : List Pr) (i : Nat) (h : i < acc.length) : gS (List.take 1 (List.drop 0 ((acc.map pRow).getD i []))) 0 = acc[i].1 := by
  have : (acc.map pRow).getD i [] = pRow acc[i] := by simp [List.getD_eq_getElem?_getD, h]
  rw [this, pRow_eq]; rfl
omit hs in
theorem key_ok (acc : List Pr) (i : Nat) (h : i < acc.length) : shOK [.str] (List.take 1 (List.drop 0 ((acc.map pRow).getD i []))) = true := by
  have : (acc.map pRow).getD i [] = pRow acc[i] := by simp [List.getD_eq_getElem?_getD, h]
  rw [this, pRow_eq]; rfl
omit hs in
theorem L_rkeys (w : Nat) (t : Tk) (acc : List Pr) (hl : acc.length ≤ 1000000) (K : KK) (hyes : acc.any (fun p => p.1 == t.s) = true → K .ret ⟨[(6, .ptr (Nm.loc 6) 0), (7, .imm (.int .i64 0)), (8, .imm (.int .i64 11))], [(Nm.loc 6, .blk ty_api_Value [.imm (.int .i64 0), .imm (.int .i64 0), .imm (.int .i64 0), .imm (.str []), .own ((Nm.loc 6).cell 4), .own ((Nm.loc 6).cell 5)]), ((Nm.loc 6).cell 4, .arr (ty_api_Value + 2) true 6 []), ((Nm.loc 6).cell 5, .arr (ty_api_Pair + 2) true 7 [])]⟩)
    (hno : ¬ acc.any (fun p => p.1 == t.s) = true → C_r18_dict_21 s w 0 0 0 [] (acc.map pRow) t.k t.n t.s t.a t.b [] [] (K_r18_dict_1 K)) : ∀ (m i : Nat), m + i = acc.length → ¬ (acc.take i).any (fun p => p.1 == t.s) = true → L_r18_dict_14 s w i 0 0 0 [] (acc.map pRow) t.k t.n t.s t.a t.b [] [] (K_r18_dict_2 K) := by
  intro m
  induction m with
  | zero =>
    intro i hi ha
    refine L_r18_dict_14_of _ _ _ _ _ _ _ _ _ _ _ _ _ _ _ _ (brD (fun h => by rw [List.length_map] at h; omega) fun _ => ?_)
    rw [List.take_of_length_le (by omega)] at ha
    apply K_r18_dict_2_x1
    exact hno ha
  | succ m ih =>
    intro i hi ha
    have hlt : i < acc.length := by omega
    refine L_r18_dict_14_of _ _ _ _ _ _ _ _ _ _ _ _ _ _ _ _ (brD (fun _ => ⟨⟨by omega, by rw [List.length_map]; omega⟩, ?_⟩) fun h => by rw [List.length_map] at h; omega)
    rw [Int.toNat_natCast, key_at acc i hlt]
    refine ⟨⟨by rw [List.length_map]; omega, key_ok acc i hlt⟩, brB (p := acc[i].1 = t.s) (by simp) (fun e => ?_) fun e => ?_⟩
    · apply K_r18_dict_2_x0
      refine hyes ?_
      rw [List.any_eq_true]
      exact ⟨acc[i], List.getElem_mem hlt, by simp [e]⟩
    · rw [wr1 i (by omega)]
      refine ih (i + 1) (by omega) ?_
      rw [List.take_succ_eq_append_getElem hlt, List.any_append]
      simp only [Bool.or_eq_true, not_or]
      exact ⟨ha, by simp [e]⟩
theorem L_rdict (m : Nat) (ih : RrAt s m) (w : Nat) (hw : w ≤ 64) (Q : QQ) (X : V × Nat × Int) (hQ : Q (rrA X) []) : ∀ (f a : Nat) (acc : List Pr), a ≤ s.length → s.length < a + m → s.length < a + f → acc.length ≤ a → dictL s (readL s m w) f a acc = X →
    L_r18_dict_2 s a w 0 0 0 [] (acc.map pRow) [] [] (K_r18_dict_0 Q) := by
  intro f
  induction f with
  | zero => intro a acc ha h1 h2; omega
  | succ f ihf =>
    intro a acc ha h1 h2 hl hX
    have hp := plc_nat s a ha
    rw [dictL] at hX
    refine L_r18_dict_2_of _ _ _ _ _ _ _ _ _ _ _ (Call.use (S_rNext s hs a) ⟨⟨rfl, rfl⟩, ?_⟩)
    refine brN (p := (nextL s a).e = 0) dec_iff (fun he => ?_) fun he => brB (p := (nextL s a).k = 7) dec_iff (fun h7 => ?_) fun h7 => brB (p := (nextL s a).k = 0) dec_iff (fun h0 => ?_) fun h0 => brN (p := (nextL s a).k = 2) dec_iff (fun h2' => ?_) fun h2' => ?_
    · rw [if_pos he] at hX
      apply K_r18_dict_0_x0
      rw [← hX, ← rr_err] at hQ; exact hQ
    · rw [if_neg (fun h => h he), if_pos h7] at hX
      apply K_r18_dict_0_x1
      rw [← hX, ← rr_ok rfl rfl] at hQ; exact hQ
    · rw [if_neg (fun h => h he), if_neg h7, if_pos h0] at hX
      apply K_r18_dict_0_x0
      rw [← hX, ← rr_err] at hQ; exact hQ
    · rw [if_neg (fun h => h he), if_neg h7, if_neg h0, if_pos h2'] at hX
      apply K_r18_dict_0_x0
      rw [← hX, ← rr_err] at hQ; exact hQ
    · rw [if_neg (fun h => h he), if_neg h7, if_neg h0, if_neg (fun h => h h2')] at hX
      refine L_rkeys s w (nextL s a) acc (by omega) (K_r18_dict_0 Q) (fun hy => ?_) (fun hn => ?_) acc.length 0 (by omega) (by simp)
      · rw [if_pos hy] at hX
        apply K_r18_dict_0_x0
        rw [← hX, ← rr_err] at hQ; exact hQ
      · rw [if_neg hn] at hX
        have f0 := next_finN s a ha he
        have f01 := f0.2.2 h0
        have hp2 := plc_nat s (nextL s a).b f0.2.1
        have hc := ih w ((nextL s a).b : Nat) hw (by rw [hp2]; omega)
        rw [hp2] at hc
        have fin := read_fin s m w (nextL s a).b f0.2.1
        generalize readL s m w (nextL s a).b = x at hc fin hX
        refine C_r18_dict_21_of _ _ _ _ _ _ _ _ _ _ _ _ _ _ _ (Call.use hc ⟨⟨rfl, (rr_form x).symm⟩, brN (p := x.2.2 = 0) dec_iff (fun h0 => ?_) fun h0 => ?_⟩)
        · rw [if_pos h0] at hX
          apply K_r18_dict_1_x0
          apply K_r18_dict_0_x0
          rw [← hX, ← rr_err] at hQ; exact hQ
        · rw [if_neg (fun h => h h0)] at hX
          have f1 := fin h0
          refine ⟨⟨by rw [List.length_map]; omega, by rw [List.length_map]; omega⟩, ?_⟩
          apply K_r18_dict_1_x1
          have e4 : (acc.map pRow ++ [[IV.str (nextL s a).s, .int .i64 (gI x.1.row 0), .int .i64 (gI x.1.row 1), .int .i64 (gI x.1.row 2), .str (gS x.1.row 3), .sl .any 6 (gR x.1.row 4), .sl .any 7 (gR x.1.row 5)]]) = (acc ++ [((nextL s a).s, x.1)]).map pRow := by
            rw [vform]; simp [pRow]
          show L_r18_dict_2 s x.2.1 w 0 0 0 [] (acc.map pRow ++ [[IV.str (nextL s a).s, .int .i64 (gI x.1.row 0), .int .i64 (gI x.1.row 1), .int .i64 (gI x.1.row 2), .str (gS x.1.row 3), .sl .any 6 (gR x.1.row 4), .sl .any 7 (gR x.1.row 5)]]) [] [] _
          rw [e4]
          exact ihf x.2.1 (acc ++ [((nextL s a).s, x.1)]) f1.2 (by omega) (by omega) (by simp; omega) hX
theorem S_rdict (m : Nat) (ih : RrAt s m) (w : Nat) (hw : w ≤ 64) (a : Nat) (ha : a ≤ s.length) (h1 : s.length < a + m) : Call E0.P fn_r18_dict [.imm (.str s), .imm (.int .i64 a), .imm (.int .i64 w)] [] (Is (rrA (dictL s (readL s m w) (s.length + 1) a [])) []) :=
  F_r18_dict_of _ _ _ _ (L_rdict s hs m ih w hw _ _ ⟨rfl, rfl⟩ (s.length + 1) a [] ha h1 (by omega) (by simp) rfl)
theorem S_rread : ∀ m : Nat, RrAt s m := by
  intro m
  induction m with
  | zero => intro w a hw h; have := plc_le s a; omega
  | succ m ih =>
    intro w a hw h
    refine F_r18_read_of _ _ _ _ (Call.use (S_rNext s hs a) ⟨⟨rfl, rfl⟩, ?_⟩)
    rw [readL, next_plc]
    refine brN (p := (nextL s a).e = 0) dec_iff (fun he => ?_) fun he => ?_
    · rw [if_pos he]; exact ⟨rr_err _, rfl⟩
    rw [if_neg (fun h => h he)]
    have f0 := next_fin s a he
    have hkind := next_kind s a he
    refine brB (p := (nextL s a).k = 0) dec_iff (fun h1 => ?_) fun h0 => ?_
    · rw [if_pos h1]; exact ⟨rr_err _, rfl⟩
    rw [if_neg h0]
    have f01 := f0.2.2 h0
    refine brB (p := (nextL s a).k = 1) dec_iff (fun h1 => ?_) fun h1 => ?_
    · rw [if_pos h1]
      exact Call.use (S_rnumber s hs (nextL s a)) ⟨⟨rfl, (rr_form _).symm⟩, ⟨rr_form _, rfl⟩⟩
    rw [if_neg h1]
    refine brB (p := (nextL s a).k = 2) dec_iff (fun h2 => ?_) fun h2 => ?_
    · rw [if_pos h2]; exact ⟨rr_ok rfl rfl, rfl⟩
    rw [if_neg h2]
    refine brB (p := (nextL s a).k = 3) dec_iff (fun h3 => ?_) fun h3 => ?_
    · rw [if_pos h3]; exact ⟨rr_ok rfl rfl, rfl⟩
    rw [if_neg h3]
    refine brB (p := (nextL s a).k = 8) dec_iff (fun h8 => ?_) fun h8 => ?_
    · rw [if_pos h8]
      exact Call.use (S_rw18 (nextL s a)) ⟨⟨rfl, (rr_form _).symm⟩, ⟨rr_form _, rfl⟩⟩
    rw [if_neg h8]
    have one : ∀ b : Bool, (b = true ↔ ((nextL s a).k = 5 ∨ (nextL s a).k = 7)) → C_r18_read_17 s w b 0 0 0 [] (nextL s a).k (nextL s a).n (nextL s a).s (nextL s a).a (nextL s a).b [] [] (K_r18_read_1 (Is (rrA (if (nextL s a).k = 4 then (if 64 ≤ w then errV 9 else listL s (readL s m (w + 1)) (s.length + 1) (nextL s a).b []) else if (nextL s a).k = 6 then (if 64 ≤ w then errV 9 else dictL s (readL s m (w + 1)) (s.length + 1) (nextL s a).b []) else errV 4)) [])) := by
      intro b hb
      refine C_r18_read_17_of _ _ _ _ _ _ _ _ _ _ _ _ _ _ _ (brB hb (fun hk => ?_) fun hk => ?_)
      · rw [if_neg (by omega), if_neg (by omega)]
        apply K_r18_read_1_x0
        exact ⟨rr_err 4, rfl⟩
      · apply K_r18_read_1_x1
        refine C_r18_read_19_of _ _ _ _ _ _ _ _ _ _ _ _ _ _ (brB (p := 64 ≤ w) (by rw [dec_iff]; omega) (fun h64 => ?_) fun h64 => ?_)
        · apply K_r18_read_0_x0
          by_cases h4 : (nextL s a).k = 4
          · rw [if_pos h4, if_pos h64]; exact ⟨rr_err 9, rfl⟩
          · rw [if_neg h4, if_pos (by omega), if_pos h64]; exact ⟨rr_err 9, rfl⟩
        · rw [wr1 w (by omega)]
          refine brD (fun h4 => ?_) fun h4 => ?_
          · rw [if_pos h4, if_neg h64]
            refine Call.use (S_rlist s hs m ih (w + 1) (by omega) (nextL s a).b f0.2.1 (by omega)) ⟨⟨rfl, (rr_form _).symm⟩, ?_⟩
            apply K_r18_read_0_x1
            exact ⟨rr_form _, rfl⟩
          · rw [if_neg h4, if_pos (by omega), if_neg h64]
            refine Call.use (S_rdict s hs m ih (w + 1) (by omega) (nextL s a).b f0.2.1 (by omega)) ⟨⟨rfl, (rr_form _).symm⟩, ?_⟩
            apply K_r18_read_0_x1
            exact ⟨rr_form _, rfl⟩
    refine brB (p := (nextL s a).k = 5) dec_iff (fun h5 => one _ ?_) fun h5 => one _ ?_
    · show decide ((nextL s a).k = 5) = true ↔ _
      rw [dec_iff]; omega
    · show decide ((nextL s a).k = 7) = true ↔ _
      rw [dec_iff]; omega
end
end Go.Proofs.Sim.Se

set_option maxRecDepth 100000
namespace Go.Proofs.Sim.Se
open Go Go.Proofs Go.Proofs.Sim Go.Proofs.Sim.Va Go.RowKit Go.Proofs.Sim.Pa

def cntS (l : List V) : Nat := (l.map cntV).sum
def cntD2 (d : List Pr) : Nat := (d.map fun p => cntV p.2).sum
theorem cnt_leaf (k n g : Int) (t : List UInt8) : cntV (.mk k n g t [] []) = 1 := by rw [cnt_eq]; rfl
theorem list_cnt (s : List UInt8) (rd : Nat → V × Nat × Int) (hf : ∀ a, a ≤ s.length → RdFin s a (rd a)) (hrd : ∀ a, a ≤ s.length → (rd a).2.2 = 0 → a + cntV (rd a).1 ≤ (rd a).2.1) : ∀ (m a : Nat) (acc : List V), a ≤ s.length → (listL s rd m a acc).2.2 = 0 → a + cntV (listL s rd m a acc).1 ≤ (listL s rd m a acc).2.1 + cntS acc := by
  intro m
  induction m with
  | zero => intro a acc ha h; cases h
  | succ m ih =>
    intro a acc ha h
    rw [listL] at h ⊢
    split at h
    · rename_i h1; exact absurd h h1
    rename_i h1
    rw [if_neg h1]
    have f := next_finN s a ha (Classical.not_not.1 h1)
    split at h
    · rename_i h2
      rw [if_pos h2]
      have := f.2.2 (by rw [h2]; decide)
      rw [cnt_eq]
      show a + (1 + cntS acc + 0) ≤ (nextL s a).b + cntS acc
      omega
    · rename_i h2
      rw [if_neg h2]
      split at h
      · rename_i h3; exact absurd h h3
      · rename_i h3
        rw [if_neg h3]
        have hr := hrd a ha (Classical.not_not.1 h3)
        have hb := hf a ha (Classical.not_not.1 h3)
        have := ih _ _ hb.2 h
        have e : cntS (acc ++ [(rd a).1]) = cntS acc + cntV (rd a).1 := by unfold cntS; simp
        omega
theorem dict_cnt (s : List UInt8) (rd : Nat → V × Nat × Int) (hf : ∀ a, a ≤ s.length → RdFin s a (rd a)) (hrd : ∀ a, a ≤ s.length → (rd a).2.2 = 0 → a + cntV (rd a).1 ≤ (rd a).2.1) : ∀ (m a : Nat) (acc : List Pr), a ≤ s.length → (dictL s rd m a acc).2.2 = 0 → a + cntV (dictL s rd m a acc).1 ≤ (dictL s rd m a acc).2.1 + cntD2 acc := by
  intro m
  induction m with
  | zero => intro a acc ha h; cases h
  | succ m ih =>
    intro a acc ha h
    rw [dictL] at h ⊢
    split at h
    · rename_i h1; exact absurd h h1
    rename_i h1
    rw [if_neg h1]
    have f := next_finN s a ha (Classical.not_not.1 h1)
    split at h
    · rename_i h2
      rw [if_pos h2]
      have := f.2.2 (by rw [h2]; decide)
      rw [cnt_eq]
      show a + (1 + 0 + cntD2 acc) ≤ (nextL s a).b + cntD2 acc
      omega
    rename_i h2
    rw [if_neg h2]
    split at h
    · cases h
    rename_i h3
    rw [if_neg h3]
    split at h
    · cases h
    rename_i h4
    rw [if_neg h4]
    split at h
    · cases h
    rename_i h5
    rw [if_neg h5]
    split at h
    · rename_i h6; exact absurd h h6
    · rename_i h6
      rw [if_neg h6]
      have hr := hrd _ f.2.1 (Classical.not_not.1 h6)
      have hb := hf _ f.2.1 (Classical.not_not.1 h6)
      have := ih _ _ hb.2 h
      have e : cntD2 (acc ++ [((nextL s a).s, (rd (nextL s a).b).1)]) = cntD2 acc + cntV (rd (nextL s a).b).1 := by unfold cntD2; simp
      omega
theorem num_cnt (s : List UInt8) (n : Int) (b : Nat) (h : (numL s n b).2.2 = 0) : cntV (numL s n b).1 = 1 := by
  unfold numL at h ⊢
  split
  · exact cnt_leaf _ _ _ _
  · rename_i g c hl
    rw [hl] at h
    simp only at h
    split
    · rename_i h1; rw [if_pos h1] at h; cases h
    · exact cnt_leaf _ _ _ _
theorem wordV_cnt (w : List UInt8) (b : Nat) : cntV (wordV w b).1 = 1 := by
  unfold wordV
  split
  · exact cnt_leaf _ _ _ _
  · split
    · exact cnt_leaf _ _ _ _
    · split
      · exact cnt_leaf _ _ _ _
      · exact cnt_leaf _ _ _ _
theorem read_cnt (s : List UInt8) : ∀ (m w a : Nat), a ≤ s.length → (readL s m w a).2.2 = 0 → a + cntV (readL s m w a).1 ≤ (readL s m w a).2.1 := by
  intro m
  induction m with
  | zero => intro w a ha h; cases h
  | succ m ih =>
    intro w a ha h
    have hfin := read_fin s (m + 1) w a ha h
    rw [readL] at h hfin ⊢
    split at h
    · rename_i h1; exact absurd h h1
    rename_i h1
    rw [if_neg h1] at hfin ⊢
    have f := next_finN s a ha (Classical.not_not.1 h1)
    split at h
    · cases h
    rename_i h2
    rw [if_neg h2] at hfin ⊢
    split at h
    · rename_i h3
      rw [if_pos h3] at hfin ⊢
      rw [num_cnt _ _ _ h]; omega
    rename_i h3
    rw [if_neg h3] at hfin ⊢
    split at h
    · rename_i h4; rw [if_pos h4] at hfin ⊢; rw [cnt_leaf]; omega
    rename_i h4
    rw [if_neg h4] at hfin ⊢
    split at h
    · rename_i h5; rw [if_pos h5] at hfin ⊢; rw [cnt_leaf]; omega
    rename_i h5
    rw [if_neg h5] at hfin ⊢
    split at h
    · rename_i h6
      rw [if_pos h6] at hfin ⊢; rw [wordV_cnt]; omega
    rename_i h6
    rw [if_neg h6] at hfin ⊢
    split at h
    · rename_i h7
      rw [if_pos h7] at hfin ⊢
      split at h
      · cases h
      · rename_i h8
        rw [if_neg h8] at hfin ⊢
        have := list_cnt s (readL s m (w + 1)) (fun a ha => read_fin s m (w + 1) a ha) (fun a ha => ih (w + 1) a ha) _ _ [] f.2.1 h
        have e : cntS [] = 0 := rfl
        omega
    rename_i h7
    rw [if_neg h7] at hfin ⊢
    split at h
    · rename_i h8
      rw [if_pos h8] at hfin ⊢
      split at h
      · cases h
      · rename_i h9
        rw [if_neg h9] at hfin ⊢
        have := dict_cnt s (readL s m (w + 1)) (fun a ha => read_fin s m (w + 1) a ha) (fun a ha => ih (w + 1) a ha) _ _ [] f.2.1 h
        have e : cntD2 [] = 0 := rfl
        omega
    · cases h
theorem mkP_l (k n g : Int) (t : List UInt8) (l : List V) (d : List Pr) : (mkP k n g t l d).l = [] ∨ (mkP k n g t l d).l = l := by
  unfold mkP
  split
  · exact .inl rfl
  · split
    · exact .inl rfl
    · split
      · exact .inr rfl
      · split
        · exact .inl rfl
        · split
          · exact .inl rfl
          · split
            · exact .inl rfl
            · exact .inl rfl
theorem fit_plain {v : V} (h : Fit v) : Fit v.plain := by
  induction h with
  | mk v h1 h2 _ _ ih1 ih2 =>
    have hd := plain_dlen v
    have hl : v.plain.l = [] ∨ v.plain.l = v.l.map V.plain := by rw [plain_eq]; exact mkP_l _ _ _ _ _ _
    refine .mk _ ?_ (by omega) (fun x hx => ?_) (fun p hp => ?_)
    · rcases hl with e | e <;> rw [e]
      · simp
      · rw [List.length_map]; exact h1
    · rcases hl with e | e
      · rw [e] at hx; cases hx
      · rw [e] at hx
        obtain ⟨y, hy, rfl⟩ := List.mem_map.1 hx
        exact ih1 y hy
    · rcases plain_d v with e | e
      · rw [e] at hp; cases hp
      · rw [e] at hp
        have hp := uniq_mem (List.mem_filter.1 hp).1
        obtain ⟨q, hq, rfl⟩ := List.mem_map.1 hp
        exact ih2 q hq
def valR (s : List UInt8) (a : Int) : V × Nat × Int :=
  if (readL s (s.length + 1) 0 (plc s a)).2.2 ≠ 0 then errV (readL s (s.length + 1) 0 (plc s a)).2.2 else ((readL s (s.length + 1) 0 (plc s a)).1.plain, (readL s (s.length + 1) 0 (plc s a)).2.1, 0)
def whoR (s : List UInt8) : V × Int :=
  if (valR s 0).2.2 ≠ 0 then (zero, (valR s 0).2.2) else if (nextL s (valR s 0).2.1).e ≠ 0 then (zero, (nextL s (valR s 0).2.1).e) else if (nextL s (valR s 0).2.1).k ≠ 0 then (zero, 4) else ((valR s 0).1, 0)
abbrev whA (x : V × Int) : AV := .tup [.imm (.agg x.1.row), .imm (.int .i64 x.2)]
theorem wh_err (e : Int) : AV.tup [zrow, .imm (.int .i64 e)] = whA (zero, e) := by
  unfold whA zero; rw [mk_row]; rfl
section
variable (s : List UInt8) (hs : s.length ≤ 65535)
include hs
theorem read_fit (m w a : Nat) (ha : a ≤ s.length) (h : (readL s m w a).2.2 = 0) : Fit (readL s m w a).1 := by
  have h1 := read_cnt s m w a ha h
  have h2 := read_fin s m w a ha h
  exact fit_cnt 65535 (by decide) _ _ (Nat.le_refl _) (by omega)
theorem val_fit (a : Int) : Fit (valR s a).1 := by
  unfold valR
  split
  · exact fit_cnt 1 (by decide) _ _ (Nat.le_refl _) (by unfold errV; rw [cnt_leaf]; exact Nat.le_refl _)
  · rename_i h
    exact fit_plain (read_fit s hs _ _ _ (plc_le s a) (Classical.not_not.1 h))
theorem who_fit : Fit (whoR s).1 := by
  have z : Fit zero := fit_cnt 1 (by decide) _ _ (Nat.le_refl _) (by unfold zero; rw [cnt_leaf]; exact Nat.le_refl _)
  unfold whoR
  split
  · exact z
  · split
    · exact z
    · split
      · exact z
      · exact val_fit s hs 0
theorem S_pValue (a : Int) : Call E0.P fn_parse_Value [.imm (.str s), .imm (.int .i64 a)] [] (Is (rrA (valR s a)) []) := by
  refine F_parse_Value_of _ _ _ ((S_value s hs (s.length + 1) 0 a (by omega) (by have := plc_le s a; omega)).mono fun r g hx => ?_)
  have hfit := read_fit s hs (s.length + 1) 0 _ (plc_le s a)
  unfold valR
  generalize readL s (s.length + 1) 0 (plc s a) = x at hx hfit
  obtain ⟨c, g1, g2, g3⟩ := hx
  subst g1; subst g2
  refine ⟨⟨rfl, (rd_form x).symm⟩, brN (p := x.2.2 = 0) dec_iff (fun h => ?_) fun h => ?_⟩
  · rw [if_pos h]; exact ⟨rr_err _, rfl⟩
  · rw [if_neg (fun h' => h' h)]
    have hp := S_Plain x.1 (hfit h)
    show Call E0.P fn_value_Plain [.imm (.agg [.int .i64 (gI x.1.row 0), .int .i64 (gI x.1.row 1), .int .i64 (gI x.1.row 2), .str (gS x.1.row 3), .sl .any 6 (gR x.1.row 4), .sl .any 7 (gR x.1.row 5)])] [] _
    rw [vform]
    have fm : AV.imm (.agg [.int .i64 (gI x.1.plain.row 0), .int .i64 (gI x.1.plain.row 1), .int .i64 (gI x.1.plain.row 2), .str (gS x.1.plain.row 3), .sl .any 6 (gR x.1.plain.row 4), .sl .any 7 (gR x.1.plain.row 5)]) = .imm (.agg x.1.plain.row) := by rw [vform]
    refine Call.use hp ⟨⟨rfl, fm.symm⟩, ?_⟩
    refine ⟨?_, rfl⟩
    show AV.tup [.imm (.agg [.int .i64 (gI x.1.plain.row 0), .int .i64 (gI x.1.plain.row 1), .int .i64 (gI x.1.plain.row 2), .str (gS x.1.plain.row 3), .sl .any 6 (gR x.1.plain.row 4), .sl .any 7 (gR x.1.plain.row 5)]), .imm (.int .i64 c), .imm (.int .i64 0)] = _
    rw [vform, g3 h]
theorem S_rValue (a : Int) : Call E0.P fn_r18_Value [.imm (.str s), .imm (.int .i64 a)] [] (Is (rrA (valR s a)) []) := by
  have hfit := read_fit s hs (s.length + 1) 0 _ (plc_le s a)
  have hc := S_rread s hs (s.length + 1) 0 a (by omega) (by have := plc_le s a; omega)
  unfold valR
  generalize readL s (s.length + 1) 0 (plc s a) = x at hc hfit
  refine F_r18_Value_of _ _ _ (Call.use hc ⟨⟨rfl, (rr_form x).symm⟩, brN (p := x.2.2 = 0) dec_iff (fun h => ?_) fun h => ?_⟩)
  · rw [if_pos h]; exact ⟨rr_err _, rfl⟩
  · rw [if_neg (fun h' => h' h)]
    have hp := S_RPlain x.1 (hfit h)
    show Call E0.P fn_r16_Plain [.imm (.agg [.int .i64 (gI x.1.row 0), .int .i64 (gI x.1.row 1), .int .i64 (gI x.1.row 2), .str (gS x.1.row 3), .sl .any 6 (gR x.1.row 4), .sl .any 7 (gR x.1.row 5)])] [] _
    rw [vform]
    have fm : AV.imm (.agg [.int .i64 (gI x.1.plain.row 0), .int .i64 (gI x.1.plain.row 1), .int .i64 (gI x.1.plain.row 2), .str (gS x.1.plain.row 3), .sl .any 6 (gR x.1.plain.row 4), .sl .any 7 (gR x.1.plain.row 5)]) = .imm (.agg x.1.plain.row) := by rw [vform]
    refine Call.use hp ⟨⟨rfl, fm.symm⟩, ?_⟩
    refine ⟨?_, rfl⟩
    show AV.tup [.imm (.agg [.int .i64 (gI x.1.plain.row 0), .int .i64 (gI x.1.plain.row 1), .int .i64 (gI x.1.plain.row 2), .str (gS x.1.plain.row 3), .sl .any 6 (gR x.1.plain.row 4), .sl .any 7 (gR x.1.plain.row 5)]), .imm (.int .i64 x.2.1), .imm (.int .i64 0)] = _
    rw [vform]
theorem S_pWhole : Call E0.P fn_parse_Whole [.imm (.str s)] [] (Is (whA (whoR s)) []) := by
  have hc := S_pValue s hs 0
  unfold whoR
  generalize valR s 0 = x at hc
  refine F_parse_Whole_of _ _ (Call.use hc ⟨⟨rfl, (rr_form x).symm⟩, brN (p := x.2.2 = 0) dec_iff (fun h => ?_) fun h => ?_⟩)
  · rw [if_pos h]; exact ⟨wh_err _, rfl⟩
  · rw [if_neg (fun h' => h' h)]
    refine Call.use (S_Next s hs x.2.1) ⟨⟨rfl, rfl⟩, brN (p := (nextL s x.2.1).e = 0) dec_iff (fun h1 => ?_) fun h1 => brN (p := (nextL s x.2.1).k = 0) dec_iff (fun h2 => ?_) fun h2 => ?_⟩
    · rw [if_pos h1]; exact ⟨wh_err _, rfl⟩
    · rw [if_neg (fun h' => h' h1), if_pos h2]; exact ⟨wh_err _, rfl⟩
    · rw [if_neg (fun h' => h' h1), if_neg (fun h' => h' h2)]
      refine ⟨?_, rfl⟩
      show AV.tup [.imm (.agg [.int .i64 (gI x.1.row 0), .int .i64 (gI x.1.row 1), .int .i64 (gI x.1.row 2), .str (gS x.1.row 3), .sl .any 6 (gR x.1.row 4), .sl .any 7 (gR x.1.row 5)]), .imm (.int .i64 0)] = _
      rw [vform]
end
def exP1 : List UInt8 := [60, 60, 47, 65, 32, 91, 49, 32, 50, 32, 48, 32, 82, 93, 32, 47, 66, 32, 110, 117, 108, 108, 62, 62]
def exP2 : List UInt8 := [120, 32, 49, 50, 32, 93]
def exV1 : V := .mk 6 0 0 [] [] [([65], .mk 5 0 0 [] [.mk 2 1 0 [] [] [], .mk 7 2 0 [] [] []] [])]
theorem exW1 : whoR exP1 = (exV1, 0) := by kernel_rfl
theorem exR2 : valR exP2 1 = (.mk 2 12 0 [] [] [], 4, 0) := by kernel_rfl
theorem exW3 : whoR [91, 49] = (zero, 5) := by kernel_rfl
theorem exW4 : whoR [49, 32, 49] = (zero, 4) := by kernel_rfl
theorem ex_row : exV1.row = [.int .i64 6, .int .i64 0, .int .i64 0, .str [], .sl .any 6 [], .sl .any 7 [[.str [65], .int .i64 5, .int .i64 0, .int .i64 0, .str [], .sl .any 6 [[.int .i64 2, .int .i64 1, .int .i64 0, .str [], .sl .any 6 [], .sl .any 7 []], [.int .i64 7, .int .i64 2, .int .i64 0, .str [], .sl .any 6 [], .sl .any 7 []]], .sl .any 7 []]]] := by
  simp [exV1, mk_row, pRow]
theorem S_parsed : Call E0.P fn_l18_parsed [] [] (Is (.imm (.bool true)) []) := by
  have w1 := S_pWhole exP1 (by decide)
  have w2 := S_pValue exP2 (by decide) 1
  have w3 := S_pWhole [91, 49] (by decide)
  have w4 := S_pWhole [49, 32, 49] (by decide)
  have f1 := who_fit exP1 (by decide)
  rw [exW1] at w1 f1
  rw [exR2] at w2
  rw [exW3] at w3
  rw [exW4] at w4
  refine F_l18_parsed_of _ (Call.use w1 ⟨⟨rfl, ?_⟩, Call.use w2 ⟨⟨rfl, ?_⟩, Call.use w3 ⟨⟨rfl, ?_⟩, Call.use w4 ⟨⟨rfl, ?_⟩, ?_⟩⟩⟩⟩)
  · exact (rd_form (exV1, 0, 0)).symm
  · exact (rr_form (.mk 2 12 0 [] [] [], 4, 0)).symm
  · exact (rd_form (zero, 0, 5)).symm
  · exact (rd_form (zero, 0, 4)).symm
  · have eq := S_Equal exV1 f1 exV1
    have e1 : AV.imm (.agg [.int .i64 (gI exV1.row 0), .int .i64 (gI exV1.row 1), .int .i64 (gI exV1.row 2), .str (gS exV1.row 3), .sl .any 6 (gR exV1.row 4), .sl .any 7 (gR exV1.row 5)]) = .imm (.agg exV1.row) := by rw [vform]
    show Call E0.P fn_r16_Equal [.imm (.agg [.int .i64 (gI exV1.row 0), .int .i64 (gI exV1.row 1), .int .i64 (gI exV1.row 2), .str (gS exV1.row 3), .sl .any 6 (gR exV1.row 4), .sl .any 7 (gR exV1.row 5)]), _] [] _
    rw [e1, ← ex_row]
    refine eq.mono fun r g hx => ?_
    obtain ⟨c, g1, g2, g3⟩ := hx
    have hc : c = true := g3.2 rfl
    subst hc; subst g1; subst g2
    exact ⟨⟨rfl, rfl⟩, Let.intro (Let.intro (Let.intro (Let.intro (Let.intro ⟨rfl, rfl⟩))))⟩
theorem S_ParseTells (s : List UInt8) (a : Int) : Call E0.P fn_l18_ParseTells [.imm (.str s), .imm (.int .i64 a)] [] (Is (.imm (.bool true)) []) := by
  refine F_l18_ParseTells_of _ _ _ (brD (fun h => Call.use S_parsed ⟨⟨rfl, rfl⟩, ⟨rfl, rfl⟩⟩) fun h => ?_)
  have hs : s.length ≤ 65535 := by omega
  have w1 := S_pValue s hs a
  have w2 := S_rValue s hs a
  have f := val_fit s hs a
  generalize valR s a = x at w1 w2 f
  refine Call.use w1 ⟨⟨rfl, (rr_form x).symm⟩, Call.use w2 ⟨⟨rfl, (rr_form x).symm⟩, ?_⟩⟩
  have e1 : AV.imm (.agg [.int .i64 (gI x.1.row 0), .int .i64 (gI x.1.row 1), .int .i64 (gI x.1.row 2), .str (gS x.1.row 3), .sl .any 6 (gR x.1.row 4), .sl .any 7 (gR x.1.row 5)]) = .imm (.agg x.1.row) := by rw [vform]
  show Call E0.P fn_r16_Equal [.imm (.agg [.int .i64 (gI x.1.row 0), .int .i64 (gI x.1.row 1), .int .i64 (gI x.1.row 2), .str (gS x.1.row 3), .sl .any 6 (gR x.1.row 4), .sl .any 7 (gR x.1.row 5)]), .imm (.agg [.int .i64 (gI x.1.row 0), .int .i64 (gI x.1.row 1), .int .i64 (gI x.1.row 2), .str (gS x.1.row 3), .sl .any 6 (gR x.1.row 4), .sl .any 7 (gR x.1.row 5)])] [] _
  rw [e1]
  refine (S_Equal x.1 f x.1).mono fun r g hx => ?_
  obtain ⟨c, g1, g2, g3⟩ := hx
  have hc : c = true := g3.2 rfl
  subst hc; subst g1; subst g2
  refine ⟨⟨rfl, rfl⟩, Let.intro (Let.intro ?_)⟩
  rw [decide_eq_true (show rI (rT (rrA x) 1) = rI (rT (rrA x) 1) from rfl), decide_eq_true (show rI (rT (rrA x) 2) = rI (rT (rrA x) 2) from rfl)]
  exact brE (p := True) (by simp [rB, gB, aIV]) (fun _ => Call.use S_parsed ⟨⟨rfl, rfl⟩, Let.intro ⟨rfl, rfl⟩⟩) fun h => absurd trivial h
end Go.Proofs.Sim.Se

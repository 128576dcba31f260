import Derived.Test.YtcdjheflchglaaaPaA
set_option maxRecDepth 100000
namespace Go.Proofs.Sim.Se
open Go Go.Proofs Go.Proofs.Sim Go.Proofs.Sim.Va Go.RowKit Go.Proofs.Sim.Pa

abbrev octH (s : List UInt8) (a : Int) : Heap := [(Nm.arg 0, .blk ty_token_scanner [.imm (.str s), .imm (.int .i64 a), .own (Nm.arg 1)])]
theorem oct_fin : ∀ (n : Fin 64) (d : Fin 8), IntKind.i64.wrap (↑(BitVec.ofInt 64 (IntKind.i64.wrap (((n : Nat) : Int) * (2 : Int) ^ (3 : Nat))) ||| BitVec.ofInt 64 ((d : Nat) : Int)).toNat : Int) = ((8 * (n : Nat) + (d : Nat) : Nat) : Int) := by decide +kernel
theorem oct_one (n : Nat) (hn : n < 64) (c : UInt8) (h1 : 48 ≤ c.toNat) (h2 : c.toNat ≤ 55) : IntKind.i64.wrap (↑(BitVec.ofInt 64 (IntKind.i64.wrap ((n : Int) * (2 : Int) ^ (3 : Nat))) ||| BitVec.ofInt 64 (IntKind.i64.wrap (IntKind.u8.wrap ((c.toNat : Int) - 48)))).toNat : Int) = ((8 * n + (c.toNat - 48) : Nat) : Int) := by
  rw [wrap_u8 _ (by omega) (by omega), wrap_id ((c.toNat : Int) - 48) (by omega) (by omega), show (c.toNat : Int) - 48 = ((c.toNat - 48 : Nat) : Int) by omega]
  exact oct_fin ⟨n, hn⟩ ⟨c.toNat - 48, by omega⟩
theorem u8_fin : ∀ v : Fin 512, IntKind.u8.wrap ((v : Nat) : Int) = (((UInt8.ofNat (v : Nat)).toNat : Nat) : Int) := by decide +kernel
theorem octL_lt : ∀ (k : Nat) (l : List UInt8) (n i : Nat), k + i = 3 → n < 8 ^ i → (octL k l n).1 < 512
  | 0, l, n, i, h, hn => by
    have : i = 3 := by omega
    subst this; exact hn
  | k + 1, [], n, i, h, hn => by
    rw [octL]
    have : 8 ^ i ≤ 8 ^ 3 := Nat.pow_le_pow_right (by decide) (by omega)
    simp only; omega
  | k + 1, c :: r, n, i, h, hn => by
    rw [octL]
    split
    · rename_i ho
      simp only
      refine octL_lt k r _ (i + 1) (by omega) ?_
      simp [isOct] at ho
      rw [Nat.pow_succ]; omega
    · have : 8 ^ i ≤ 8 ^ 3 := Nat.pow_le_pow_right (by decide) (by omega)
      simp only; omega
theorem isOct_iff (c : UInt8) : isOct c = true ↔ 48 ≤ c.toNat ∧ c.toNat ≤ 55 := by simp [isOct]
section
variable (s : List UInt8) (hs : s.length ≤ 65535)
include hs
theorem L_oct (K : KK) : ∀ (k i a n : Nat), k + i = 3 → a ≤ s.length → n < 8 ^ i → K (.exit 0) ⟨[(3, .imm (.int .i64 ((octL k (s.drop a) n).1 : Nat)))], octH s ((a + (octL k (s.drop a) n).2 : Nat) : Int)⟩ → L_token_scanner_octal_3 n i s a K := by
  intro k
  induction k with
  | zero =>
    intro i a n hi ha hn hK
    refine L_token_scanner_octal_3_of _ _ _ _ _ (brD (fun h => by omega) fun _ => ?_)
    simpa only [octL, Nat.add_zero] using hK
  | succ k ih =>
    intro i a n hi ha hn hK
    refine L_token_scanner_octal_3_of _ _ _ _ _ (brD (fun _ => brD (fun h => ?_) fun h => ⟨⟨by omega, by omega⟩, ?_⟩) fun h => by omega)
    · rw [List.drop_eq_nil_of_le (by omega)] at hK
      exact Let.intro (Let.intro (brT (by simpa only [octL, Nat.add_zero] using hK)))
    · have hlt : a < s.length := by omega
      rw [c_at s a hlt]
      rw [dropC s a hlt, octL] at hK
      refine Let.intro (Let.intro (brB (p := ¬ isOct s[a] = true) (by rw [orB2, isOct_iff]; simp; omega) (fun h' => ?_) fun h' => ⟨by decide, ?_⟩))
      · rw [if_neg h'] at hK; exact hK
      · have h' := Classical.not_not.1 h'
        rw [if_pos h'] at hK
        have h2 := (isOct_iff _).1 h'
        have h64 : n < 64 := Nat.lt_of_lt_of_le hn (Nat.pow_le_pow_right (n := 8) (by decide) (show i ≤ 2 by omega))
        rw [oct_one n h64 _ h2.1 h2.2, wr1 i (by omega), wr1 a (by omega)]
        refine ih (i + 1) (a + 1) _ (by omega) (by omega) (by rw [Nat.pow_succ]; omega) ?_
        rw [show a + 1 + (octL k (s.drop (a + 1)) (8 * n + (s[a].toNat - 48))).2 = a + ((octL k (s.drop (a + 1)) (8 * n + (s[a].toNat - 48))).2 + 1) by omega]
        exact hK
theorem S_octal (a : Nat) (ha : a ≤ s.length) : Call E0.P fn_token_scanner_octal [.ptr (.arg 0) 0] (octH s a) (Is (.imm (.int .u8 ((UInt8.ofNat (octL 3 (s.drop a) 0).1).toNat : Nat))) (octH s ((a + (octL 3 (s.drop a) 0).2 : Nat) : Int))) := by
  refine F_token_scanner_octal_of _ _ _ (L_oct s hs _ 3 0 a 0 rfl ha (by decide) ?_)
  apply K_token_scanner_octal_1_x0
  refine C_token_scanner_octal_13_of _ _ _ _ ?_
  apply K_token_scanner_octal_0_x0
  rw [u8_fin ⟨_, octL_lt 3 (s.drop a) 0 0 rfl (by decide)⟩]
  exact ⟨rfl, rfl⟩
theorem S_escape_none (a : Nat) (h : ¬ a < s.length) (rows : LL) : Call E0.P fn_token_scanner_escape [.ptr (.arg 0) 0] (scH s a rows) (Is (.imm (.bool false)) (scH s a rows)) := by
  have _ := hs
  refine F_token_scanner_escape_of _ _ _ _ (brD (fun _ => nBr0 rfl ⟨rfl, rfl⟩) fun h => by omega)
theorem S_escape (a : Nat) (h : a < s.length) (t : List UInt8) (k : Nat) (he : escL (s.drop a) = some (t, k)) (out : List UInt8) (ho : out.length ≤ 1000000) :
    Call E0.P fn_token_scanner_escape [.ptr (.arg 0) 0] (scH s a (byteRows out)) (Is (.imm (.bool true)) (scH s (a + k : Nat) (byteRows (out ++ t)))) := by
  refine F_token_scanner_escape_of _ _ _ _ (brD (fun h => by omega) fun _ => ⟨⟨by omega, by omega⟩, nBr1 rfl (Call.use (S_octet_Ends s (by omega) a) ⟨⟨rfl, rfl⟩, ?_⟩)⟩)
  rw [rI_int, c_at s a h]
  have hb := bl1 out
  have hdr := dropC s a h
  rw [hdr, escL, ← hdr] at he
  refine brB (p := 0 < eolL (s.drop a)) (by rw [dec_iff]; omega) (fun h1 => ?_) fun h1 => Let.intro (brB (p := isOct s[a] = true) (by rw [andB2, isOct_iff]; omega) (fun h2 => ?_) fun h2 => ?_)
  · rw [if_pos h1] at he
    injection he with he
    injection he with e1 e2
    subst e1; subst e2
    have hn : eolL (s.drop a) ≤ 2 := by
      rw [hdr, eol_cons]; split
      · omega
      · split
        · split
          · split <;> omega
          · omega
        · omega
    rw [wrA a _ (by omega), List.append_nil]
    exact ⟨rfl, rfl⟩
  · rw [if_neg h1, if_pos h2] at he
    injection he with he
    injection he with e1 e2
    subst e1; subst e2
    have leaf : ∀ Q : QQ, Q (.imm (.bool true)) (scH s (a + (octL 3 (s.drop a) 0).2 : Nat) (byteRows (out ++ [UInt8.ofNat (octL 3 (s.drop a) 0).1]))) → Req (((byteRows out).length + 1) * 1 ≤ 140737488355328 ∧ (byteRows out).length + 1 ≤ 140737488355328)
        (Q (.imm (.bool true)) (scH s (a + (octL 3 (s.drop a) 0).2 : Nat) (byteRows out ++ [[IV.int .u8 ((UInt8.ofNat (octL 3 (s.drop a) 0).1).toNat : Nat)]]))) := fun Q hq => ⟨⟨by omega, by omega⟩, by rw [row1]; exact hq⟩
    have leaf := leaf (Is (.imm (.bool true)) (scH s (a + (octL 3 (s.drop a) 0).2 : Nat) (byteRows (out ++ [UInt8.ofNat (octL 3 (s.drop a) 0).1])))) ⟨rfl, rfl⟩
    repeat' first
      | exact leaf
      | refine And.intro ?_ ?_
      | refine Call.use (S_octal s hs a (Nat.le_of_lt h)) ⟨⟨rfl, rfl⟩, ?_⟩
  · rw [if_neg h1, if_neg h2] at he
    injection he with he
    injection he with e1 e2
    subst e1; subst e2
    have fin : ∀ c : UInt8, letterL s[a] = c → ∀ n : Int, n = (c.toNat : Int) → C_token_scanner_escape_21 n s (IntKind.i64.wrap ((a : Int) + 1)) (byteRows out) (K_token_scanner_escape_0 s a (byteRows out) (Is (.imm (.bool true)) (scH s (a + 1 : Nat) (byteRows (out ++ [letterL s[a]]))))) := by
      intro c hc n hn
      subst hn
      rw [wr1 a (by omega)]
      refine C_token_scanner_escape_21_of _ _ _ _ _ ⟨⟨by omega, by omega⟩, ?_⟩
      apply K_token_scanner_escape_0_x0
      rw [row1, hc]
      exact ⟨rfl, rfl⟩
    have L : letterL s[a] = if s[a].toNat = 110 then 10 else if s[a].toNat = 114 then 13 else if s[a].toNat = 116 then 9 else if s[a].toNat = 98 then 8 else if s[a].toNat = 102 then 12 else s[a] := rfl
    refine brD (fun e => fin 10 ?_ _ rfl) fun e1 => brD (fun e => fin 13 ?_ _ rfl) fun e2 => brD (fun e => fin 9 ?_ _ rfl) fun e3 => brD (fun e => fin 8 ?_ _ rfl) fun e4 => brD (fun e => fin 12 ?_ _ rfl) fun e5 => fin s[a] ?_ _ rfl
    · rw [L, if_pos (by omega)]
    · rw [L, if_neg (by omega), if_pos (by omega)]
    · rw [L, if_neg (by omega), if_neg (by omega), if_pos (by omega)]
    · rw [L, if_neg (by omega), if_neg (by omega), if_neg (by omega), if_pos (by omega)]
    · rw [L, if_neg (by omega), if_neg (by omega), if_neg (by omega), if_neg (by omega), if_pos (by omega)]
    · rw [L, if_neg (by omega), if_neg (by omega), if_neg (by omega), if_neg (by omega), if_neg (by omega)]
end
end Go.Proofs.Sim.Se

set_option maxRecDepth 100000
namespace Go.Proofs.Sim.Se
open Go Go.Proofs Go.Proofs.Sim Go.Proofs.Sim.Va Go.RowKit Go.Proofs.Sim.Pa

theorem eol_le : ∀ l : List UInt8, eolL l ≤ l.length ∧ eolL l ≤ 2
  | [] => ⟨Nat.le_refl _, by decide⟩
  | [c] => by
    rw [eol_cons]; simp only [List.length_cons, List.length_nil]
    split
    · omega
    · split <;> omega
  | c :: d :: r => by
    rw [eol_cons]; simp only [List.length_cons]
    split
    · omega
    · split
      · split <;> omega
      · omega
theorem octL_le : ∀ (k : Nat) (l : List UInt8) (n : Nat), (octL k l n).2 ≤ l.length
  | 0, l, n => by rw [octL]; exact Nat.zero_le _
  | k + 1, [], n => by rw [octL]; exact Nat.zero_le _
  | k + 1, c :: r, n => by
    rw [octL]; split
    · have := octL_le k r (8 * n + (c.toNat - 48)); simp only [List.length_cons]; omega
    · exact Nat.zero_le _
theorem esc_le {l t : List UInt8} {k : Nat} (h : escL l = some (t, k)) : 1 ≤ k ∧ k ≤ l.length ∧ t.length ≤ 1 := by
  rcases l with _ | ⟨c, r⟩
  · cases h
  · rw [escL] at h
    have he := eol_le (c :: r)
    split at h
    · injection h with h; injection h with h1 h2; subst h1; subst h2
      exact ⟨by omega, he.1, by simp⟩
    · split at h
      · rename_i ho
        injection h with h; injection h with h1 h2; subst h1; subst h2
        refine ⟨?_, octL_le _ _ _, by simp⟩
        rw [octL, if_pos ho]; simp only; omega
      · injection h with h; injection h with h1 h2; subst h1; subst h2
        simp
theorem hi_fin : ∀ h : Fin 16, IntKind.u8.wrap (IntKind.i64.wrap (((h : Nat) : Int) * (2 : Int) ^ (4 : Nat))) = (((UInt8.ofNat (16 * (h : Nat))).toNat : Nat) : Int) := by decide +kernel
theorem lo_fin : ∀ h l : Fin 16, IntKind.u8.wrap (↑(BitVec.ofInt 8 (((UInt8.ofNat (16 * (h : Nat))).toNat : Nat) : Int) ||| BitVec.ofInt 8 (IntKind.u8.wrap ((l : Nat) : Int))).toNat : Int) = (((UInt8.ofNat (16 * (h : Nat) + (l : Nat))).toNat : Nat) : Int) := by decide +kernel
theorem set_last (out : List UInt8) (x y : UInt8) : (byteRows (out ++ [x])).set out.length [IV.int .u8 (y.toNat : Int)] = byteRows (out ++ [y]) := by
  simp [byteRows, List.set_append]
theorem last_row (out : List UInt8) (x : UInt8) : (byteRows (out ++ [x])).getD out.length [] = [IV.int .u8 (x.toNat : Int)] := by
  simp [byteRows, List.getD_eq_getElem?_getD]
section
variable (s : List UInt8) (hs : s.length ≤ 65535)
include hs
abbrev TxL (s : List UInt8) (d : Int) (a : Nat) (out : List UInt8) (K : KK) : Prop := L_token_scanner_text_5 d s a 0 0 [] 0 0 (byteRows out) K
theorem L_text (at_ : Int) (out0 : LL) (Q : QQ) (X : Part) (hQ : ∀ r h, ScQ s 3 X r h → Q r h) : ∀ (m a : Nat) (out : List UInt8) (d : Nat), s.length < a + m → a ≤ s.length → out.length ≤ a → 1 ≤ d → d ≤ a + 1 → textL m (s.drop a) out d a = X → TxL s d a out (K_token_scanner_text_2 s at_ out0 Q) := by
  have short : ∀ (a : Nat) (out : List UInt8), X = ([], 0, 5) → K_token_scanner_text_2 s at_ out0 Q (.exit 0) ⟨[(2, .ptr (Nm.loc 2) 0)], [(Nm.loc 2, .blk ty_api_Token [.imm (.int .i64 0), .imm (.int .i64 0), .imm (.str []), .imm (.int .i64 0), .imm (.int .i64 0)]), (Nm.arg 0, .blk ty_token_scanner [.imm (.str s), .imm (.int .i64 a), .own (Nm.arg 1)]), (Nm.arg 1, .arr (ty_uint8 + 2) true 1 (byteRows out))]⟩ := by
    intro a out hx
    apply K_token_scanner_text_2_x0
    refine C_token_scanner_text_30_of _ _ _ _ _ _ _ _ _ ?_
    apply K_token_scanner_text_1_x0
    exact hQ _ _ (hx ▸ scq_bad (by decide))
  intro m
  induction m with
  | zero => intro a out d hm ha; omega
  | succ m ih =>
    intro a out d hm ha ho hd1 hd2 hX
    have hb := bl1 out
    by_cases h : a < s.length
    case neg =>
      rw [List.drop_eq_nil_of_le (by omega)] at hX
      exact L_token_scanner_text_5_of _ _ _ _ _ _ _ _ _ _ (brD (fun h => by omega) fun _ => short a out hX.symm)
    have hdr := dropC s a h
    have he := eol_le (s.drop a)
    rw [List.length_drop] at he
    rw [hdr, textL, ← hdr] at hX
    have push : ∀ (c : UInt8) (d' b : Nat), a < b → b ≤ s.length → 1 ≤ d' → d' ≤ b + 1 → textL m (s.drop b) (out ++ [c]) d' b = X → ∀ n : Int, n = (c.toNat : Int) → C_token_scanner_text_23 d' n s b 0 0 [] 0 0 (byteRows out) (K_token_scanner_text_3 (K_token_scanner_text_2 s at_ out0 Q)) := by
      intro c d' b hab hbs h1 h2 hx n hn
      subst hn
      refine C_token_scanner_text_23_of _ _ _ _ _ _ _ _ _ _ _ (brD (fun h => by omega) fun _ => ⟨⟨by omega, by omega⟩, ?_⟩)
      rw [row1, bl1]
      have hl : (out ++ [c]).length = out.length + 1 := by simp
      refine brD (fun h => by rw [hl] at h; omega) fun _ => ?_
      apply K_token_scanner_text_3_x1
      exact ih b (out ++ [c]) d' (by omega) hbs (by omega) h1 h2 hx
    refine L_token_scanner_text_5_of _ _ _ _ _ _ _ _ _ _ (brD (fun _ => ⟨⟨by omega, by omega⟩, Call.use (S_octet_Ends s (by omega) a) ⟨⟨rfl, rfl⟩, ?_⟩⟩) fun h => by omega)
    rw [rI_int, c_at s a h]
    refine brB (p := 0 < eolL (s.drop a)) (by rw [dec_iff]; omega) (fun h1 => ?_) fun h1 => ?_
    · rw [if_pos h1, List.drop_drop] at hX
      have e : (if ((eolL (s.drop a) : Nat) : Int) > 1 then ((eolL (s.drop a) : Nat) : Int) else 1) = ((eolL (s.drop a) : Nat) : Int) := by split <;> omega
      rw [e, wrA a _ (by omega)]
      exact push 10 d _ (by omega) (by omega) hd1 (by omega) hX 10 rfl
    rw [if_neg h1] at hX
    rw [if_neg (show ¬ ((eolL (s.drop a) : Nat) : Int) > 1 by omega), wr1 a (by omega)]
    refine brD (fun h92 => ?_) fun h92 => ?_
    · rw [if_pos (by omega)] at hX
      by_cases h2 : a + 1 < s.length
      · rcases hesc : escL (s.drop (a + 1)) with _ | ⟨t, k⟩
        · rw [dropC s (a + 1) h2, escL] at hesc
          split at hesc
          · cases hesc
          · split at hesc <;> cases hesc
        · rw [hesc] at hX
          have hk := esc_le hesc
          rw [List.length_drop] at hk
          refine Call.use (S_escape s hs (a + 1) h2 t k hesc out (by omega)) ⟨⟨rfl, rfl⟩, nBr1 rfl ?_⟩
          have e1 : arrRows (scH s (a + 1 + k : Nat) (byteRows (out ++ t))) (Nm.arg 0) = [] := rfl
          have e2 : arrRows (scH s (a + 1 + k : Nat) (byteRows (out ++ t))) (Nm.arg 1) = byteRows (out ++ t) := rfl
          rw [e2, bl1]
          have hl : (out ++ t).length = out.length + t.length := by simp
          refine brD (fun h => by rw [hl] at h; omega) fun _ => ?_
          simp only [List.drop_drop] at hX
          exact ih (a + 1 + k) (out ++ t) d (by omega) (by omega) (by omega) hd1 (by omega) hX
      · rw [List.drop_eq_nil_of_le (show s.length ≤ a + 1 by omega), escL] at hX
        refine Call.use (S_escape_none s hs (a + 1) h2 _) ⟨⟨rfl, rfl⟩, nBr0 rfl ?_⟩
        exact short (a + 1) out hX.symm
    rw [if_neg (by omega)] at hX
    refine brD (fun h40 => ?_) fun h40 => ?_
    · rw [if_pos (by omega)] at hX
      rw [wr1 d (by omega)]
      exact push s[a] (d + 1) (a + 1) (by omega) (by omega) (by omega) (by omega) (by rw [← hX]; simp) _ rfl
    rw [if_neg (by omega)] at hX
    refine brD (fun h41 => ?_) fun h41 => ?_
    · rw [if_pos (by omega)] at hX
      rw [wrap_id ((d : Int) - 1) (by omega) (by omega)]
      by_cases h1 : d = 1
      · subst h1
        rw [if_pos (by simp)] at hX
        refine C_token_scanner_text_23_of _ _ _ _ _ _ _ _ _ _ _ (brD (fun _ => ⟨brow_ok _, ?_⟩) fun h => by omega)
        apply K_token_scanner_text_3_x0
        apply K_token_scanner_text_2_x1
        rw [unrow]
        exact hQ _ _ (hX ▸ scq_ok)
      · rw [if_neg (by omega)] at hX
        rw [show (d : Int) - 1 = ((d - 1 : Nat) : Int) by omega] at hX ⊢
        exact push s[a] (d - 1) (a + 1) (by omega) (by omega) (by omega) (by omega) hX _ rfl
    · rw [if_neg (by omega)] at hX
      exact push s[a] d (a + 1) (by omega) (by omega) hd1 (by omega) hX _ rfl
theorem S_text (a : Nat) (ha : a < s.length) : Call E0.P fn_token_scanner_text [.ptr (.arg 0) 0] (scH s a []) (ScQ s 3 (textL ((s.drop (a + 1)).length + 1) (s.drop (a + 1)) [] 1 (a + 1))) := by
  refine F_token_scanner_text_of _ _ _ _ ?_
  rw [wr1 a (by omega)]
  exact L_text s hs a [] _ _ (fun _ _ h => h) _ (a + 1) [] 1 (by rw [List.length_drop]; omega) (by omega) (by simp) (by omega) (by omega) rfl
def hxO (half : Int) (out : List UInt8) : List UInt8 := if half < 0 then out else out ++ [byB (16 * half)]
def HxAt (s : List UInt8) (K : KK) (a many : Nat) (rows : LL) : Prop :=
  (∀ h : a < s.length, L_token_scanner_hex_5 (s[a].toNat : Int) true 0 0 [] 0 0 many s a rows K) ∧ (¬ a < s.length → L_token_scanner_hex_5 0 false 0 0 [] 0 0 many s a rows K)
theorem H_more (K : KK) (a many : Nat) (ha : a ≤ s.length) (hm : many ≤ a) (rows : LL) (h : HxAt s K a many rows) : C_token_scanner_hex_19 0 0 [] 0 0 many s a rows (K_token_scanner_hex_3 K) := by
  refine C_token_scanner_hex_19_of _ _ _ _ _ _ _ _ _ _ ⟨by decide, ?_⟩
  rw [show ((many : Int)).tdiv 2 = ((many / 2 : Nat) : Int) from rfl, wrapC _ (by omega)]
  refine brD (fun h => by omega) fun _ => ?_
  apply K_token_scanner_hex_3_x1
  refine C_token_scanner_hex_22_of _ _ _ _ _ _ _ _ _ _ (brD (fun h' => ?_) fun h' => ⟨⟨by omega, by omega⟩, ?_⟩)
  · apply K_token_scanner_hex_2_x0
    exact h.2 (by omega)
  · have hlt : a < s.length := by omega
    rw [c_at s a hlt]
    apply K_token_scanner_hex_2_x0
    exact h.1 hlt
theorem L_hex (at_ : Int) (out0 : LL) (Q : QQ) (X : Part) (hQ : ∀ r h, ScQ s 3 X r h → Q r h) : ∀ (m a many : Nat) (out : List UInt8) (half : Int), s.length ≤ a + m → a ≤ s.length → many ≤ a → out.length + (if half < 0 then 0 else 1) ≤ a → -1 ≤ half → half ≤ 15 → many % 2 = (if half < 0 then 0 else 1) → hexL (s.drop a) half out a = X →
    HxAt s (K_token_scanner_hex_1 s at_ out0 Q) a many (byteRows (hxO half out)) := by
  have off : ∀ (a many : Nat) (rows : List UInt8), ¬ a < s.length → X = ([], 0, 5) → L_token_scanner_hex_5 0 false 0 0 [] 0 0 many s a (byteRows rows) (K_token_scanner_hex_1 s at_ out0 Q) := by
    intro a many rows h hX
    refine L_token_scanner_hex_5_of _ _ _ _ _ _ _ _ _ _ _ _ (brF ?_)
    apply K_token_scanner_hex_1_x1
    refine C_token_scanner_hex_23_of _ _ _ _ _ _ _ _ _ ?_
    apply K_token_scanner_hex_0_x0
    exact hQ _ _ (hX ▸ scq_bad (by decide))
  have offX : ∀ (a : Nat) (half : Int) (out : List UInt8), ¬ a < s.length → hexL (s.drop a) half out a = X → X = ([], 0, 5) := by
    intro a half out h hX
    rw [List.drop_eq_nil_of_le (by omega)] at hX
    exact hX.symm
  intro m
  induction m with
  | zero => intro a many out half hm ha hy ho h0 h1 hp hX; exact ⟨fun h => by omega, fun h => off a many _ h (offX a half out h hX)⟩
  | succ m ih =>
    intro a many out half hm ha hy ho h0 h1 hp hX
    refine ⟨fun h => ?_, fun h => off a many _ h (offX a half out h hX)⟩
    have hd := hexv_b s[a]
    have hb : (byteRows (hxO half out)).length = out.length + (if half < 0 then 0 else 1) := by
      rw [bl1]; unfold hxO; split <;> simp
    rw [dropC s a h, hexL] at hX
    refine L_token_scanner_hex_5_of _ _ _ _ _ _ _ _ _ _ _ _ (brT (Call.use (S_octet_Hex _) ⟨⟨rfl, rfl⟩, ?_⟩))
    rw [rI_int, wr1 a (by omega)]
    have bad : ∀ (e : Int), e ≠ 0 → X = ([], 0, e) → K_token_scanner_hex_1 s at_ out0 Q .ret ⟨[(2, .ptr (Nm.loc 2) 0), (3, .imm (.int .i64 e))], [(Nm.loc 2, .blk ty_api_Token [.imm (.int .i64 0), .imm (.int .i64 0), .imm (.str []), .imm (.int .i64 0), .imm (.int .i64 0)]), (Nm.arg 0, .blk ty_token_scanner [.imm (.str s), .imm (.int .i64 (a + 1 : Nat)), .own (Nm.arg 1)]), (Nm.arg 1, .arr (ty_uint8 + 2) true 1 (byteRows (hxO half out)))]⟩ := by
      intro e he hx
      apply K_token_scanner_hex_1_x0
      exact hQ _ _ (hx ▸ scq_bad he)
    refine brD (fun h62 => ?_) fun h62 => ?_
    · rw [if_pos (by omega)] at hX
      refine brD (fun h' => by rw [hb] at h'; split at ho <;> simp_all <;> omega) fun _ => ⟨brow_ok _, ?_⟩
      apply K_token_scanner_hex_1_x0
      rw [unrow]
      refine hQ _ _ ?_
      have : X = (hxO half out, a + 1, 0) := by
        rw [← hX]; unfold hxO; split <;> rfl
      rw [this]
      exact scq_ok
    rw [if_neg (by omega)] at hX
    refine brD (fun hv => ?_) fun hv => ?_
    · rw [if_neg (by omega)] at hX
      refine ⟨by decide, ?_⟩
      rw [wr1 many (by omega), show ((many + 1 : Nat) : Int).tmod 2 = (((many + 1) % 2 : Nat) : Int) from rfl]
      refine brB (p := half < 0) (by rw [dec_iff]; split at hp <;> omega) (fun hh => ⟨by decide, ?_⟩) fun hh => ?_
      · rw [if_pos hh] at hX hp ho hb
        have e : IntKind.u8.wrap (IntKind.i64.wrap (hexv s[a] * (2 : Int) ^ (4 : Nat))) = (((byB (16 * hexv s[a])).toNat : Nat) : Int) := by
          have := hi_fin ⟨(hexv s[a]).toNat, by omega⟩
          simp only [Int.toNat_of_nonneg hv] at this
          rw [this]; unfold byB
          rw [show (16 * hexv s[a]).toNat = 16 * (hexv s[a]).toNat by omega]
        rw [e, row1]
        have e2 : hxO half out ++ [byB (16 * hexv s[a])] = hxO (hexv s[a]) out := by
          unfold hxO; rw [if_pos hh, if_neg (by omega)]
        rw [e2]
        have go := H_more s hs _ (a + 1) (many + 1) (by omega) (by omega) _ (ih (a + 1) (many + 1) out (hexv s[a]) (by omega) (by omega) (by omega) (by rw [if_neg (by omega)]; omega) (by omega) hd.2 (by rw [if_neg (by omega)]; omega) hX)
        have leaf : Req (((byteRows (hxO half out)).length + 1) * 1 ≤ 140737488355328 ∧ (byteRows (hxO half out)).length + 1 ≤ 140737488355328) (C_token_scanner_hex_19 0 0 [] 0 0 (many + 1 : Nat) s (a + 1 : Nat) (byteRows (hxO (hexv s[a]) out)) (K_token_scanner_hex_3 (K_token_scanner_hex_1 s at_ out0 Q))) := ⟨⟨by omega, by omega⟩, go⟩
        exact ⟨leaf, leaf, leaf⟩
      · rw [if_neg hh] at hX hp ho hb
        have eo : hxO half out = out ++ [byB (16 * half)] := by unfold hxO; rw [if_neg hh]
        rw [hb]
        rw [show IntKind.i64.wrap (((out.length + 1 : Nat) : Int) - 1) = (out.length : Int) by rw [wrap_id _ (by omega) (by omega)]; omega, Int.toNat_natCast]
        rw [eo, last_row]
        refine ⟨⟨by omega, by omega⟩, ⟨⟨by omega, rfl⟩, ⟨⟨by omega, by omega⟩, ⟨by omega, ?_⟩⟩⟩⟩
        have e : IntKind.u8.wrap (↑(BitVec.ofInt 8 (gI (List.take 1 (List.drop 0 [IV.int .u8 ((byB (16 * half)).toNat : Int)])) 0) ||| BitVec.ofInt 8 (IntKind.u8.wrap (hexv s[a]))).toNat : Int) = (((byB (16 * half + hexv s[a])).toNat : Nat) : Int) := by
          have := lo_fin ⟨half.toNat, by omega⟩ ⟨(hexv s[a]).toNat, by omega⟩
          simp only [Int.toNat_of_nonneg hv] at this
          unfold byB
          rw [show (16 * half).toNat = 16 * half.toNat by omega, show (16 * half + hexv s[a]).toNat = 16 * half.toNat + (hexv s[a]).toNat by omega]
          exact this
        rw [e, set_last]
        have e3 : out ++ [byB (16 * half + hexv s[a])] = hxO (-1) (out ++ [byB (16 * half + hexv s[a])]) := rfl
        rw [e3]
        exact H_more s hs _ (a + 1) (many + 1) (by omega) (by omega) _ (ih (a + 1) (many + 1) (out ++ [byB (16 * half + hexv s[a])]) (-1) (by omega) (by omega) (by omega) (by rw [if_pos (by omega)]; simp; omega) (by omega) (by omega) (by rw [if_pos (by omega)]; omega) hX)
    · rw [if_pos (by omega)] at hX
      refine Call.use (S_kd _) ⟨⟨rfl, rfl⟩, ?_⟩
      rw [rI_int]
      refine brN dec_iff (fun hk => ?_) fun hk => ?_
      · rw [if_neg hk] at hX
        exact bad 4 (by decide) hX.symm
      · rw [if_pos hk] at hX
        exact H_more s hs _ (a + 1) many (by omega) (by omega) _ (ih (a + 1) many out half (by omega) (by omega) (by omega) (by omega) h0 h1 hp hX)
theorem S_hex (a : Nat) (ha : a < s.length) : Call E0.P fn_token_scanner_hex [.ptr (.arg 0) 0] (scH s a []) (ScQ s 3 (hexL (s.drop (a + 1)) (-1) [] (a + 1))) := by
  have h := L_hex s hs a [] (ScQ s 3 (hexL (s.drop (a + 1)) (-1) [] (a + 1))) _ (fun _ _ h => h) s.length (a + 1) 0 [] (-1) (by omega) (by omega) (by omega) (by rw [if_pos (by omega)]; simp) (by omega) (by omega) (by rw [if_pos (by omega)]) rfl
  refine F_token_scanner_hex_of _ _ _ _ ?_
  rw [wr1 a (by omega)]
  refine brD (fun h' => h.2 (by omega)) fun h' => ⟨⟨by omega, by omega⟩, ?_⟩
  rw [c_at s (a + 1) (by omega)]
  exact h.1 (by omega)
end
end Go.Proofs.Sim.Se

set_option maxRecDepth 100000
namespace Go.Proofs.Sim.Se
open Go Go.Proofs Go.Proofs.Sim Go.Proofs.Sim.Va Go.RowKit Go.Proofs.Sim.Pa

def TkQ (s : List UInt8) (t : Tk) : AV → Heap → Prop := fun r h => ∃ (b : Nat) (l : List UInt8), h = scH s b (byteRows l) ∧ r = tokA t.k t.n t.s 0 0 t.e ∧ (t.e = 0 → b = t.b)
abbrev nxA (t : Tk) : AV := tokA t.k t.n t.s t.a t.b t.e
theorem part_wf (k : Int) (p : Nat) (x : Part) : ((partT k p x).e = 0 → (partT k p x).a = p) ∧ ((partT k p x).e ≠ 0 → partT k p x = badT (partT k p x).e) := by
  unfold partT; split
  · exact ⟨fun _ => rfl, fun h => absurd rfl h⟩
  · rename_i h; exact ⟨fun h' => absurd h' h, fun _ => rfl⟩
theorem word_wf (l : List UInt8) (p : Nat) : ((wordT l p).e = 0 → (wordT l p).a = p) ∧ ((wordT l p).e ≠ 0 → wordT l p = badT (wordT l p).e) := by
  unfold wordT; split
  · exact ⟨fun _ => rfl, fun h => absurd rfl h⟩
  · split
    · exact ⟨fun h => (by cases h), fun _ => rfl⟩
    · split
      · exact ⟨fun h => (by cases h), fun _ => rfl⟩
      · exact ⟨fun _ => rfl, fun h => absurd rfl h⟩
theorem tok_wf (c : UInt8) (r : List UInt8) (p : Nat) : ((tokL c r p).e = 0 → (tokL c r p).a = p) ∧ ((tokL c r p).e ≠ 0 → tokL c r p = badT (tokL c r p).e) := by
  unfold tokL
  split
  · exact ⟨fun _ => rfl, fun h => absurd rfl h⟩
  split
  · exact ⟨fun _ => rfl, fun h => absurd rfl h⟩
  split
  · exact part_wf _ _ _
  split
  · exact part_wf _ _ _
  split
  · split
    · exact ⟨fun _ => rfl, fun h => absurd rfl h⟩
    · exact part_wf _ _ _
  split
  · split
    · exact ⟨fun _ => rfl, fun h => absurd rfl h⟩
    · exact ⟨fun h => (by cases h), fun _ => rfl⟩
  split
  · exact ⟨fun h => (by cases h), fun _ => rfl⟩
  · exact word_wf _ _
theorem tkq_part {s : List UInt8} {k : Int} {p : Nat} {x : Part} {r : AV} {h : Heap} (hx : ScQ s k x r h) : TkQ s (partT k p x) r h := by
  obtain ⟨a, l, e1, e2, e3, e4⟩ := hx
  refine ⟨a, l, e1, ?_⟩
  unfold partT
  by_cases he : x.2.2 = 0
  · rw [if_pos he] at *
    rw [he] at e2
    exact ⟨e2, fun _ => e3 he⟩
  · rw [if_neg he] at *
    rw [e4 he] at e2
    exact ⟨e2, fun h => absurd h he⟩
theorem head_at (s : List UInt8) (a : Nat) (c : UInt8) : (s.drop a).head? = some c ↔ ∃ h : a < s.length, s[a] = c := by
  by_cases h : a < s.length
  · rw [dropC s a h]; simp [h]
  · rw [List.drop_eq_nil_of_le (by omega)]; simp [h]
theorem cut_word (s : List UInt8) (a w : Nat) : List.drop a (List.take (a + w) s) = (s.drop a).take w := by
  rw [List.drop_take]; simp
theorem n_eq {c : UInt8} {n : Nat} (hn : n < 256) : c = UInt8.ofNat n ↔ c.toNat = n := ⟨fun h => by rw [h]; exact UInt8.toNat_ofNat_of_lt' hn, fun h => UInt8.toNat_inj.1 (by rw [h]; exact (UInt8.toNat_ofNat_of_lt' hn).symm)⟩
/-- A token begins at no note. -/
theorem skip_no37 : ∀ (b : Bool) (l : List UInt8) (c : UInt8) (r : List UInt8), l.drop (skipL b l) = c :: r → c.toNat ≠ 37
  | _, [], c, r, h => by simp [skipL] at h
  | b, x :: l, c, r, h => by
    rw [skipL] at h
    by_cases hx : noteL b x = false ∧ kd x ≠ 0
    · rw [if_pos hx, List.drop_zero] at h
      injection h with h1 h2
      subst h1
      intro e
      have : noteL b x = true := by unfold noteL; rw [if_neg (by omega), if_pos e]
      rw [this] at hx; cases hx.1
    · rw [if_neg hx, List.drop_succ_cons] at h
      exact skip_no37 _ l c r h
section
variable (s : List UInt8) (hs : s.length ≤ 65535)
include hs
theorem S_word (a : Nat) (ha : a < s.length) : Call E0.P fn_token_scanner_word [.ptr (.arg 0) 0] (scH s a []) (TkQ s (wordT (s.drop a) a)) := by
  have hw := span_le 2 (s.drop a)
  rw [List.length_drop] at hw
  refine F_token_scanner_word_of _ _ _ _ (Call.use (S_octet_Span 2 s (by omega) a (by omega)) ⟨⟨rfl, rfl⟩, ?_⟩)
  rw [rI_int, wrA a _ (by omega), Int.toNat_natCast, Int.toNat_natCast, cut_word]
  refine ⟨⟨by omega, by omega, by omega⟩, Let.intro ?_⟩
  have hl : ((s.drop a).take (spanL 2 (s.drop a))).length = spanL 2 (s.drop a) := by rw [List.length_take, List.length_drop]; omega
  rw [hl, wrA a _ (by omega)]
  refine Call.use (S_digits_Loose _ (by omega)) ⟨⟨rfl, rfl⟩, ?_⟩
  rw [show rI (rT (isP (looseS ((s.drop a).take (spanL 2 (s.drop a))))) 0) = (looseS ((s.drop a).take (spanL 2 (s.drop a)))).1 from rfl, show rI (rT (isP (looseS ((s.drop a).take (spanL 2 (s.drop a))))) 1) = (looseS ((s.drop a).take (spanL 2 (s.drop a)))).2 from rfl]
  unfold wordT
  refine brD (fun e => ?_) fun e => brD (fun e2 => ?_) fun e2 => brD (fun e3 => ?_) fun e3 => ?_
  · rw [if_pos e]; exact ⟨_, [], rfl, rfl, fun _ => rfl⟩
  · rw [if_neg e, if_pos e2, e2]; exact ⟨_, [], rfl, rfl, fun h => by cases h⟩
  · rw [if_neg e, if_neg e2, if_pos (by omega)]; exact ⟨_, [], rfl, rfl, fun h => by cases h⟩
  · rw [if_neg e, if_neg e2, if_neg (by omega)]; exact ⟨_, [], rfl, rfl, fun _ => rfl⟩
theorem twice_iff (a : Nat) (h : a < s.length) (n : Nat) (hn : n < 256) (hc : s[a].toNat = n) : ((bif decide (IntKind.i64.wrap ((a : Int) + 1) < (s.length : Int)) then decide (((s.getD (IntKind.i64.wrap ((a : Int) + 1)).toNat 0).toNat : Int) = (s[a].toNat : Int)) else false) = true) ↔ (s.drop (a + 1)).head? = some (UInt8.ofNat n) := by
  rw [wr1 a (by omega), andB2, head_at]
  constructor
  · rintro ⟨h1, h2⟩
    have h3 : a + 1 < s.length := by omega
    rw [c_at s (a + 1) h3] at h2
    exact ⟨h3, (n_eq hn).2 (by omega)⟩
  · rintro ⟨h3, h2⟩
    have h2 := (n_eq hn).1 h2
    rw [c_at s (a + 1) h3]
    exact ⟨by omega, by omega⟩
theorem twice_in (a : Nat) : decide (IntKind.i64.wrap ((a : Int) + 1) < (s.length : Int)) = true → a < s.length → (0 : Int) ≤ IntKind.i64.wrap ((a : Int) + 1) ∧ IntKind.i64.wrap ((a : Int) + 1) < (s.length : Int) := by
  intro h h2
  have := of_decide_eq_true h
  rw [wr1 a (by omega)] at this ⊢
  omega
theorem S_token (a : Nat) (h : a < s.length) (h37 : s[a].toNat ≠ 37) : Call E0.P fn_token_scanner_token [.ptr (.arg 0) 0] (scH s a []) (TkQ s (tokL s[a] (s.drop (a + 1)) a)) := by
  have hs9 : s.length ≤ 1000000000 := by omega
  refine F_token_scanner_token_of _ _ _ _ ⟨⟨by omega, by omega⟩, ?_⟩
  rw [c_at s a h]
  unfold tokL
  refine brD (fun e => ?_) fun e1 => brD (fun e => ?_) fun e2 => brD (fun e => ?_) fun e3 => brD (fun e => ?_) fun e4 => brD (fun e => ?_) fun e5 => brD (fun e => ?_) fun e6 => ?_
  · rw [if_pos (by omega), wr1 a (by omega)]; exact ⟨_, [], rfl, rfl, fun _ => rfl⟩
  · rw [if_neg (by omega), if_pos (by omega), wr1 a (by omega)]; exact ⟨_, [], rfl, rfl, fun _ => rfl⟩
  · rw [if_neg (by omega), if_neg (by omega), if_pos (by omega)]
    refine (S_name s hs9 a h).mono fun r g hx => ?_
    have hx' := tkq_part (p := a) hx
    obtain ⟨b, l, e1, e2, _⟩ := hx
    subst e1; subst e2
    exact ⟨⟨rfl, rfl⟩, hx'⟩
  · rw [if_neg (by omega), if_neg (by omega), if_neg (by omega), if_pos (by omega)]
    refine (S_text s hs a h).mono fun r g hx => ?_
    have hx' := tkq_part (p := a) hx
    obtain ⟨b, l, e1, e2, _⟩ := hx
    subst e1; subst e2
    exact ⟨⟨rfl, rfl⟩, hx'⟩
  · rw [if_neg (by omega), if_neg (by omega), if_neg (by omega), if_neg (by omega), if_pos (by omega)]
    refine ⟨fun h' => twice_in s hs a h' h, ⟨fun _ => ⟨by omega, by omega⟩, Let.intro (brB (p := (s.drop (a + 1)).head? = some 60) (twice_iff s hs a h 60 (by omega) (by omega)) (fun h2 => ?_) fun h2 => ?_)⟩⟩
    · rw [if_pos h2, wr2 a (by omega)]; exact ⟨_, [], rfl, rfl, fun _ => rfl⟩
    · rw [if_neg h2]
      refine (S_hex s hs a h).mono fun r g hx => ?_
      have hx' := tkq_part (p := a) hx
      obtain ⟨b, l, e1, e2, _⟩ := hx
      subst e1; subst e2
      exact ⟨⟨rfl, rfl⟩, hx'⟩
  · rw [if_neg (by omega), if_neg (by omega), if_neg (by omega), if_neg (by omega), if_neg (by omega), if_pos (by omega)]
    refine ⟨fun h' => twice_in s hs a h' h, ⟨fun _ => ⟨by omega, by omega⟩, Let.intro (brB (p := (s.drop (a + 1)).head? = some 62) (twice_iff s hs a h 62 (by omega) (by omega)) (fun h2 => ?_) fun h2 => ?_)⟩⟩
    · rw [if_pos h2, wr2 a (by omega)]; exact ⟨_, [], rfl, rfl, fun _ => rfl⟩
    · rw [if_neg h2]; exact ⟨_, [], rfl, rfl, fun h => by cases h⟩
  · rw [if_neg (by omega), if_neg (by omega), if_neg (by omega), if_neg (by omega), if_neg (by omega), if_neg (by omega)]
    have one : ∀ b : Bool, (b = true ↔ kd s[a] = 1) → C_token_scanner_token_22 b s a 0 0 [] 0 0 [] (K_token_scanner_token_1 s a [] (TkQ s (if kd s[a] = 1 then badT 4 else wordT (s[a] :: s.drop (a + 1)) a))) := by
      intro b hb
      refine C_token_scanner_token_22_of _ _ _ _ _ _ _ _ _ _ (brB hb (fun hk => ?_) fun hk => ?_)
      · rw [if_pos hk]
        apply K_token_scanner_token_1_x0
        exact ⟨a, [], rfl, rfl, fun h => by cases h⟩
      · rw [if_neg hk, ← dropC s a h]
        apply K_token_scanner_token_1_x1
        refine C_token_scanner_token_24_of _ _ _ _ _ _ _ _ _ ((S_word s hs a h).mono fun r g hx => ?_)
        have hx' := hx
        obtain ⟨b, l, e1, e2, _⟩ := hx
        subst e1; subst e2
        refine ⟨⟨rfl, rfl⟩, ?_⟩
        apply K_token_scanner_token_0_x0
        exact hx'
    have kk : ∀ p : Prop, (p ↔ (s[a].toNat = 41 ∨ s[a].toNat = 123 ∨ s[a].toNat = 125)) → (p ↔ kd s[a] = 1) := by
      intro p hp
      rw [hp]
      unfold kd kindB
      constructor
      · intro h; rw [if_neg (by omega), if_pos (by omega)]
      · intro h
        split at h
        · omega
        · split at h <;> omega
    refine brD (fun e => one _ ?_) fun e7 => brD (fun e => one _ ?_) fun e8 => one _ ?_
    · exact kk _ (by rw [dec_iff]; omega)
    · exact kk _ (by rw [dec_iff]; omega)
    · exact kk _ (by rw [dec_iff]; omega)
theorem S_Next (a : Int) : Call E0.P fn_token_Next [.imm (.str s), .imm (.int .i64 a)] [] (Is (nxA (nextL s a)) []) := by
  have hs9 : s.length ≤ 1000000000 := by omega
  have hp := skipP_le s a
  refine F_token_Next_of _ _ _ (Call.use (S_token_Skip s hs9 a) ⟨⟨rfl, rfl⟩, ?_⟩)
  rw [rI_int]
  unfold nextL
  refine brD (fun e => ?_) fun e => ?_
  · rw [List.drop_eq_nil_of_le (by omega)]; exact ⟨rfl, rfl⟩
  · have h : skipP s a < s.length := by omega
    have h37 : s[skipP s a].toNat ≠ 37 := by
      refine skip_no37 false (s.drop (plc s a)) _ (s.drop (skipP s a + 1)) ?_
      rw [List.drop_drop]
      exact dropC s _ h
    rw [dropC s _ h]
    refine (S_token s hs _ h h37).mono fun r g hx => ?_
    obtain ⟨b, l, e1, e2, e3⟩ := hx
    subst e1; subst e2
    refine ⟨⟨rfl, rfl⟩, ?_⟩
    have wf := tok_wf s[skipP s a] (s.drop (skipP s a + 1)) (skipP s a)
    refine brN (p := (tokL s[skipP s a] (s.drop (skipP s a + 1)) (skipP s a)).e = 0) dec_iff (fun he => ?_) fun he => ?_
    · have hb := wf.2 he
      refine ⟨?_, rfl⟩
      simp only [nxA]
      rw [hb]
      rfl
    · refine ⟨?_, rfl⟩
      rw [e3 he]
      simp only [nxA]
      rw [wf.1 he, he]
      rfl
end
end Go.Proofs.Sim.Se

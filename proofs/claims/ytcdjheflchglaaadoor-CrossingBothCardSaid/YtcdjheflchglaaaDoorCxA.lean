import Derived.Test.YtcdjheflchglaaaDoorSeatGenC
import Derived.Test.YtcdjheflchglaaaDoorCxL
import Derived.Test.YtcdjheflchglaaaDoorVsC
import Derived.Test.YtcdjheflchglaaaDoorCxE
import Derived.Test.YtcdjheflchglaaaDoorCxV
set_option linter.unusedVariables false
set_option linter.unusedSimpArgs false
namespace Go.Proofs.Sim.Se
open Go Go.Proofs Go.Proofs.Sim Go.Proofs.Sim.Va

theorem wU8 (n : Nat) : IntKind.u8.wrap (n : Int) = ((UInt8.ofNat (n % 256)).toNat : Int) := by
  simp [IntKind.wrap, IntKind.signed, IntKind.bits]
theorem pow8 (i : Nat) : (2 : Nat) ^ (8 * i) = 256 ^ i := by rw [Nat.pow_mul]
theorem byte_at (n i : Nat) (hi : i ≤ 8) : IntKind.u8.wrap ((n : Int).fdiv ((2 : Int) ^ min (IntKind.i64.wrap ((8 : Int) * (i : Int))).toNat (64 : Nat))) = ((UInt8.ofNat (n / 256 ^ i % 256)).toNat : Int) := by
  have w : IntKind.i64.wrap ((8 : Int) * (i : Int)) = ((8 * i : Nat) : Int) := by rw [wrap_id _ (by omega) (by omega)]; simp
  rw [w, Int.toNat_natCast, Nat.min_eq_left (by omega)]
  have : (n : Int).fdiv ((2 : Int) ^ (8 * i)) = ((n / 256 ^ i : Nat) : Int) := by
    rw [Int.fdiv_eq_ediv_of_nonneg _ (Int.pow_nonneg (by decide))]
    have e : ((2 : Int) ^ (8 * i)) = ((256 ^ i : Nat) : Int) := by rw [← pow8]; simp
    rw [e]; simp
  rw [this, wU8]
abbrev z8 (k : Nat) : List (List IV) := List.replicate k [.int .u8 0]
theorem L_whole (n : Nat) (h2r : List (List IV)) (K : Ex → St → Prop) (hE : K (.exit 0) ⟨[(2, (.ptr (Nm.loc (2 : Nat)) 0)), (3, (.ptr (Nm.loc (3 : Nat)) 0))], [((Nm.loc (2 : Nat)), (.arr 1 true 1 h2r)), ((Nm.loc (3 : Nat)), (.arr 1 true 1 (byteRows (beB 8 n))))]⟩) :
    ∀ (m i : Nat), m + i = 8 → L_fields_whole_3 n i h2r (z8 m ++ byteRows (beB i n)) K := by
  intro m
  induction m with
  | zero =>
    intro i hi
    obtain rfl : i = 8 := by omega
    refine L_fields_whole_3_of _ _ _ _ _ ⟨fun h => absurd h (by decide), fun _ => hE⟩
  | succ m ih =>
    intro i hi
    refine L_fields_whole_3_of _ _ _ _ _ ⟨fun _ => ?_, fun h => ?_⟩
    · have w1 : IntKind.i64.wrap ((7 : Int) - (i : Int)) = (m : Int) := by rw [wrap_id _ (by omega) (by omega)]; omega
      have w2 : IntKind.i64.wrap ((i : Int) + 1) = ((i + 1 : Nat) : Int) := by rw [wrap_id _ (by omega) (by omega)]; simp
      rw [byte_at n i (by omega), w1, w2, Int.toNat_natCast]
      have w : IntKind.i64.wrap ((8 : Int) * (i : Int)) = ((8 * i : Nat) : Int) := by rw [wrap_id _ (by omega) (by omega)]; simp
      refine ⟨by rw [w]; omega, ⟨⟨by omega, by omega⟩, ⟨by simp; omega, ?_⟩⟩⟩
      have e : (z8 (m + 1) ++ byteRows (beB i n)).set m [.int .u8 ((UInt8.ofNat (n / 256 ^ i % 256)).toNat : Int)] = z8 m ++ byteRows (beB (i + 1) n) := by
        rw [beB_cons, z8, List.replicate_succ']
        simp [byteRows, List.set_append_right]
      rw [e]
      exact ih (i + 1) (by omega)
    · have := of_decide_eq_false h; omega
theorem eight (n : Nat) : ∃ a b c d e f g h, beB 8 n = [a, b, c, d, e, f, g, h] := ⟨_, _, _, _, _, _, _, _, rfl⟩
def u8s (s : List UInt8) : List IV := s.map fun c => .int .u8 c.toNat
theorem S_whole (n : Nat) : Call E0.P fn_fields_whole [.imm (.int .i64 n)] [] (Is (.imm (.agg (u8s (beB 8 n)))) []) := by
  refine F_fields_whole_of _ _ ?_
  refine L_whole n _ _ (K_fields_whole_1_x0 _ _ _ (C_fields_whole_9_of _ _ _ ?_)) 8 0 rfl
  obtain ⟨a, b, c, d, e, f, g, h, hb⟩ := eight n
  rw [hb]
  exact ⟨⟨rfl, rfl⟩, ⟨rfl, K_fields_whole_0_x0 _ _ ⟨⟨rfl, rfl⟩, ⟨rfl, rfl⟩⟩⟩⟩
theorem L_need8 (n : Nat) (K : Ex → St → Prop) (t8r : List (List IV)) (t9 t10 : Int)
    (hE : K (.exit 2) ⟨[(3, (.imm (.int .i64 (nb n)))), (8, (.imm (.sl .any 1 t8r))), (9, (.imm (.int .i64 t9))), (10, (.imm (.int .i64 t10)))], []⟩) :
    ∀ (m i : Nat), m + i = 8 → n < 256 ^ m → L_fields_Need_13 0 t8r t9 t10 i (byteRows (beB 8 n)) K := by
  intro m
  induction m with
  | zero =>
    intro i hi hn
    obtain rfl : i = 8 := by omega
    obtain rfl : n = 0 := by simpa using hn
    rw [nb_zero] at hE
    refine L_fields_Need_13_of _ _ _ _ _ _ _ ⟨fun h => absurd h (by decide), fun _ => hE⟩
  | succ m ih =>
    intro i hi hn
    refine L_fields_Need_13_of _ _ _ _ _ _ _ ⟨fun _ => ?_, fun h => ?_⟩
    · have hl : (byteRows (beB 8 n)).length = 8 := by simp [byteRows, beB_len]
      have hg : (byteRows (beB 8 n)).getD (Int.toNat (i : Int)) [] = [.int .u8 ((UInt8.ofNat (n / 256 ^ m % 256)).toNat : Int)] := by
        rw [Int.toNat_natCast]
        have h1 := beB_at 8 n i (by omega)
        rw [show 8 - 1 - i = m by omega] at h1
        rw [← h1]
        simp [byteRows, List.getD_eq_getElem?_getD, show i < (beB 8 n).length by rw [beB_len]; omega]
      rw [hg]
      have hb : n / 256 ^ m < 256 := by
        rw [Nat.pow_succ] at hn
        exact Nat.div_lt_of_lt_mul hn
      have w2 : IntKind.i64.wrap ((i : Int) + 1) = ((i + 1 : Nat) : Int) := by rw [wrap_id _ (by omega) (by omega)]; simp
      have w3 : IntKind.i64.wrap ((8 : Int) - (i : Int)) = ((m + 1 : Nat) : Int) := by rw [wrap_id _ (by omega) (by omega)]; omega
      have hv : ((UInt8.ofNat (n / 256 ^ m % 256)).toNat : Int) = ((n / 256 ^ m : Nat) : Int) := by
        rw [Nat.mod_eq_of_lt hb]
        have : (UInt8.ofNat (n / 256 ^ m)).toNat = n / 256 ^ m := by rw [UInt8.toNat_ofNat']; exact Nat.mod_eq_of_lt hb
        rw [this]
      refine ⟨⟨by omega, by omega⟩, ⟨⟨by rw [hl]; omega, rfl⟩, ?_⟩⟩
      show Br (!decide (((UInt8.ofNat (n / 256 ^ m % 256)).toNat : Int) = 0)) _ _
      rw [hv, w2, w3]
      refine ⟨fun h => ?_, fun h => ?_⟩
      · have hne : ¬ n / 256 ^ m = 0 := by
          intro c; rw [c] at h; simp at h
        have hge : 256 ^ m ≤ n := by
          by_cases c : n < 256 ^ m
          · exact absurd (Nat.div_eq_of_lt c) hne
          · omega
        have e : nb n = m + 1 := by
          have a1 := (nb_le (m + 1) n).2 hn
          have a2 : ¬ nb n ≤ m := fun c => by have := (nb_le m n).1 c; omega
          omega
        rw [e] at hE
        have : (if ((m + 1 : Nat) : Int) > 0 then ((m + 1 : Nat) : Int) else 0) = ((m + 1 : Nat) : Int) := if_pos (by omega)
        rw [this]
        exact hE
      · have he : n / 256 ^ m = 0 := by
          by_cases c : n / 256 ^ m = 0
          · exact c
          · have : decide (((n / 256 ^ m : Nat) : Int) = 0) = true := by simpa using h
            have := of_decide_eq_true this
            omega
        refine ih (i + 1) (by omega) ?_
        rcases Nat.div_eq_zero_iff.1 he with c | c
        · have := Nat.pow_pos (n := m) (show 0 < 256 by decide); omega
        · exact c
    · have := of_decide_eq_false h; omega
theorem S_fNeed (n : Nat) (hn : n < 9223372036854775808) : Call E0.P fn_fields_Need [.imm (.sl .any 1 [[.int .i64 n]])] [] (Is (.imm (.int .i64 (nb n))) []) := by
  refine F_fields_Need_of _ _ (L_fields_Need_3_of _ _ _ _ _ ⟨fun _ => ?_, fun h => absurd h (by simp)⟩)
  refine ⟨⟨⟨by simp, by simp⟩, rfl⟩, ⟨fun h => ?_, fun _ => ?_⟩⟩
  · have h : decide ((n : Int) < 0) = true := h
    have := of_decide_eq_true h; omega
  · refine Call.use (S_whole n) ?_
    obtain ⟨a, b, c, d, e, f, g, h, hb⟩ := eight n
    have hk : L_fields_Need_13 0 [[.int .i64 (n : Int)]] 1 0 ((0 : Nat) : Int) (byteRows (beB 8 n)) (K_fields_Need_3 (K_fields_Need_1 (Is (.imm (.int .i64 (nb n))) []))) := by
      refine L_need8 n _ _ _ _ (K_fields_Need_3_x0 _ _ _ _ _ (C_fields_Need_22_of _ _ _ _ _ (K_fields_Need_2_x0 _ _ _ _ _ ?_))) 8 0 rfl ?_
      · refine L_fields_Need_3_of _ _ _ _ _ ⟨fun h => absurd h (by decide), fun _ => K_fields_Need_1_x1 _ _ (C_fields_Need_23_of _ _ (K_fields_Need_0_x0 _ _ ⟨rfl, rfl⟩))⟩
      · exact Nat.lt_trans hn (by decide)
    rw [hb] at hk ⊢
    exact ⟨⟨rfl, rfl⟩, ⟨rfl, hk⟩⟩
theorem S_fits (w : Int) : Call E0.P fn_fields_fits [.imm (.int .i64 w)] [] (Is (.imm (.bool (bif decide (0 ≤ w) then decide (w ≤ 8) else false))) []) :=
  F_fields_fits_of _ _ (Let.intro ⟨rfl, rfl⟩)
def putX (n w : Nat) : AV := if nb n ≤ w then .tup [.imm (.str (beB w n)), .imm (.int .i64 0)] else .tup [.imm (.str []), .imm (.int .i64 3)]
theorem unbyteC (a : List UInt8) : List.map (fun r => UInt8.ofNat (gI r 0).toNat) (byteRows a) = a := by
  simp only [byteRows, List.map_map]
  refine (List.map_congr_left fun c _ => ?_).trans (List.map_id _)
  show UInt8.ofNat ((c.toNat : Int)).toNat = c
  simp
theorem byteRows_okC (a : List UInt8) : ∀ r ∈ byteRows a, shOK [.int .u8] r = true := by
  intro r hr
  obtain ⟨c, _, rfl⟩ := List.mem_map.1 hr
  rfl
theorem S_fPut (n w : Nat) (hn : n < 9223372036854775808) (hw : w ≤ 8) : Call E0.P fn_fields_Put [.imm (.int .i64 n), .imm (.int .i64 w)] [] (Is (putX n w) []) := by
  refine F_fields_Put_of _ _ _ (Call.use (S_fits w) ⟨⟨rfl, rfl⟩, ⟨fun h => ?_, fun _ => ?_⟩⟩)
  · have h : (!(bif decide ((0 : Int) ≤ (w : Int)) then decide ((w : Int) ≤ 8) else false)) = true := h
    have e1 : decide ((0 : Int) ≤ (w : Int)) = true := decide_eq_true (by omega)
    have e2 : decide ((w : Int) ≤ 8) = true := decide_eq_true (by omega)
    rw [e1, e2] at h; cases h
  · refine Call.use (S_fNeed n hn) ⟨⟨rfl, rfl⟩, Let.intro ?_⟩
    show Br (bif decide ((nb n : Int) < 0) then true else decide ((w : Int) < (nb n : Int))) _ _
    have e0 : decide ((nb n : Int) < 0) = false := decide_eq_false (by omega)
    rw [e0]
    refine ⟨fun h => ?_, fun h => ?_⟩
    · have h : (w : Int) < (nb n : Int) := of_decide_eq_true h
      rw [putX, if_neg (by omega)]; exact ⟨rfl, rfl⟩
    · have h : ¬ (w : Int) < (nb n : Int) := of_decide_eq_false h
      refine Call.use (S_whole n) ?_
      have w1 : IntKind.i64.wrap ((8 : Int) - (w : Int)) = ((8 - w : Nat) : Int) := by rw [wrap_id _ (by omega) (by omega)]; omega
      rw [w1, Int.toNat_natCast]
      have key : ∀ X : List (List IV), X = byteRows (beB 8 n) → (X.drop (8 - w)).take (8 - (8 - w)) = byteRows (beB w n) := by
        intro X hX
        rw [hX, List.take_of_length_le (by simp [byteRows, beB_len])]
        rw [← beB_drop w n hw]; simp [byteRows, List.map_drop]
      rw [putX, if_pos (by omega)]
      obtain ⟨a, b, c, d, e, f, g, h', hb⟩ := eight n
      rw [hb] at key ⊢
      have key := key [[.int .u8 (gI (aCells (AV.imm (.agg (u8s [a, b, c, d, e, f, g, h'])))) 0)], [.int .u8 (gI (aCells (AV.imm (.agg (u8s [a, b, c, d, e, f, g, h'])))) 1)], [.int .u8 (gI (aCells (AV.imm (.agg (u8s [a, b, c, d, e, f, g, h'])))) 2)], [.int .u8 (gI (aCells (AV.imm (.agg (u8s [a, b, c, d, e, f, g, h'])))) 3)], [.int .u8 (gI (aCells (AV.imm (.agg (u8s [a, b, c, d, e, f, g, h'])))) 4)], [.int .u8 (gI (aCells (AV.imm (.agg (u8s [a, b, c, d, e, f, g, h'])))) 5)], [.int .u8 (gI (aCells (AV.imm (.agg (u8s [a, b, c, d, e, f, g, h'])))) 6)], [.int .u8 (gI (aCells (AV.imm (.agg (u8s [a, b, c, d, e, f, g, h'])))) 7)]] rfl
      refine ⟨⟨rfl, rfl⟩, ⟨rfl, ⟨⟨⟨by omega, by omega⟩, rfl⟩, ⟨?_, ?_⟩⟩⟩⟩
      · intro r hr
        rw [key] at hr
        exact byteRows_okC _ r hr
      · rw [key, unbyteC]; exact ⟨rfl, rfl⟩
end Go.Proofs.Sim.Se

set_option linter.unusedVariables false
set_option linter.unusedSimpArgs false
namespace Go.Proofs.Sim.Se
open Go Go.Proofs Go.Proofs.Sim Go.Proofs.Sim.Va

theorem putX_form (n w : Nat) : putX n w = .tup [.imm (.str (rS (rT (putX n w) 0))), .imm (.int .i64 (rI (rT (putX n w) 1)))] := by
  unfold putX; split <;> rfl
def intsIV (l : List Int) : List (List IV) := l.map fun n => [.int .i64 n]
theorem ints_len (l : List Int) : (intsIV l).length = l.length := List.length_map ..
theorem ints_at (l : List Int) (i : Nat) (h : i < l.length) : (intsIV l).getD i [] = [.int .i64 (l.getD i 0)] := by
  simp [intsIV, List.getD_eq_getElem?_getD, h]
def natsI (l : List Nat) : List Int := l.map fun n : Nat => (n : Int)
theorem nats_len (l : List Nat) : (natsI l).length = l.length := List.length_map ..
theorem nats_at (l : List Nat) (i : Nat) (h : i < l.length) : (natsI l).getD i 0 = ((l.getD i 0 : Nat) : Int) := by
  simp [natsI, List.getD_eq_getElem?_getD, h]
theorem needL_snoc (l : List Nat) (n : Nat) : needL (l ++ [n]) = max (needL l) (nb n) := by simp [needL]
theorem or_low (a c : Nat) (ha : a < 256 ^ 7) (hc : c < 256) : (BitVec.ofInt 64 (IntKind.u64.wrap ((a : Int) * 2 ^ 8)) ||| BitVec.ofInt 64 (IntKind.u64.wrap (c : Int))).toNat = 256 * a + c := by
  have h1 : IntKind.u64.wrap ((a : Int) * 2 ^ 8) = ((a <<< 8 : Nat) : Int) := by
    rw [Nat.shiftLeft_eq]
    simp [IntKind.wrap, IntKind.signed, IntKind.bits]; omega
  have h2 : IntKind.u64.wrap (c : Int) = (c : Int) := by
    simp [IntKind.wrap, IntKind.signed, IntKind.bits]; omega
  rw [h1, h2, BitVec.toNat_or, BitVec.toNat_ofInt, BitVec.toNat_ofInt]
  have h3 : (((a <<< 8 : Nat) : Int) % ((2 ^ 64 : Nat) : Int)).toNat = a <<< 8 := by
    rw [Nat.shiftLeft_eq]; omega
  have h4 : ((c : Int) % ((2 ^ 64 : Nat) : Int)).toNat = c := by omega
  rw [h3, h4, ← Nat.shiftLeft_add_eq_or_of_lt (by simpa using hc), Nat.shiftLeft_eq]
  omega
theorem valB_take_lt (s : List UInt8) (i : Nat) : valB (s.take i) < 256 ^ i := by
  refine Nat.lt_of_lt_of_le (valB_lt _) (Nat.pow_le_pow_right (by decide) (by simp; omega))
theorem L_fget (s : List UInt8) (hs : s.length ≤ 8) (K : Ex → St → Prop) (hE : K (.exit 0) ⟨[(4, (.imm (.int .u64 (valB s))))], []⟩) : ∀ (m i : Nat), m + i = s.length → L_fields_Get_6 s (valB (s.take i)) s.length i K := by
  intro m
  induction m with
  | zero =>
    intro i hi
    refine L_fields_Get_6_of _ _ _ _ _ ⟨fun h => ?_, fun _ => ?_⟩
    · have := of_decide_eq_true h; omega
    · rw [List.take_of_length_le (by omega)]; exact hE
  | succ m ih =>
    intro i hi
    have hlt : i < s.length := by omega
    refine L_fields_Get_6_of _ _ _ _ _ ⟨fun _ => ?_, fun h => ?_⟩
    · have hc : (s.getD i 0).toNat < 256 := (s.getD i 0).toNat_lt
      have ha : valB (s.take i) < 256 ^ 7 := Nat.lt_of_lt_of_le (valB_take_lt s i) (Nat.pow_le_pow_right (by decide) (by omega))
      have w2 : IntKind.i64.wrap ((i : Int) + 1) = ((i + 1 : Nat) : Int) := by rw [wrap_id _ (by omega) (by omega)]; simp
      rw [w2, show s.getD (Int.toNat (i : Int)) 0 = s.getD i 0 from rfl, or_low _ _ ha hc, ← valB_take s i hlt]
      have h8 : valB (s.take (i + 1)) < 256 ^ 8 := Nat.lt_of_lt_of_le (valB_take_lt s (i + 1)) (Nat.pow_le_pow_right (by decide) (by omega))
      have w3 : IntKind.u64.wrap ((valB (s.take (i + 1)) : Nat) : Int) = ((valB (s.take (i + 1)) : Nat) : Int) := by
        simp [IntKind.wrap, IntKind.signed, IntKind.bits]; omega
      rw [w3]
      exact ⟨by decide, ⟨⟨by omega, by omega⟩, ih (i + 1) (by omega)⟩⟩
    · have := of_decide_eq_false h; omega
def getA2 (s : List UInt8) : AV := .tup [.imm (.int .i64 (getX s).1), .imm (.int .i64 (getX s).2)]
theorem S_fGet (s : List UInt8) (h63 : s.length ≤ 1000000) : Call E0.P fn_fields_Get [.imm (.str s)] [] (Is (getA2 s) []) := by
  refine F_fields_Get_of _ _ ⟨fun h => ?_, fun h => ?_⟩
  · have h := of_decide_eq_true h
    rw [getA2, getX, if_pos (by omega)]; exact ⟨rfl, rfl⟩
  · have h := of_decide_eq_false h
    have hs : s.length ≤ 8 := by omega
    refine L_fget s hs _ (K_fields_Get_1_x0 _ _ (C_fields_Get_12_of _ _ ⟨by decide, ?_⟩)) s.length 0 rfl
    have hv : ((valB s : Nat) : Int).fdiv ((2 : Int) ^ (63 : Nat)) = ((valB s / 9223372036854775808 : Nat) : Int) := by
      rw [Int.fdiv_eq_ediv_of_nonneg _ (by decide)]; simp
    rw [hv]
    refine ⟨fun h => ?_, fun h => ?_⟩
    · have : ¬ valB s / 9223372036854775808 = 0 := by intro c; rw [c] at h; simp at h
      refine K_fields_Get_0_x0 _ _ _ ?_
      rw [getA2, getX, if_neg (by omega), if_pos (by omega)]; exact ⟨rfl, rfl⟩
    · have h : decide (((valB s / 9223372036854775808 : Nat) : Int) = 0) = true := by simpa using h
      have := of_decide_eq_true h
      refine K_fields_Get_0_x0 _ _ _ ?_
      rw [getA2, getX, if_neg (by omega), if_neg (by omega), wrap_id _ (by omega) (by omega)]; exact ⟨rfl, rfl⟩
theorem hb1 (x y : Nat) (h : 127 < x) : 9223372036854775808 ≤ x * 72057594037927936 + y := by omega
theorem hb2 (x y : Nat) (h : ¬ 127 < x) (hy : y < 72057594037927936) (h3 : 9223372036854775808 ≤ x * 72057594037927936 + y) : False := by omega
end Go.Proofs.Sim.Se

set_option linter.unusedVariables false
set_option linter.unusedSimpArgs false
namespace Go.Proofs.Sim.Se
open Go Go.Proofs Go.Proofs.Sim Go.Proofs.Sim.Va

abbrev NW := Nat × Nat
abbrev nsOf (ps : List NW) : List Int := natsI (ps.map fun p => p.1)
abbrev wsOf (ps : List NW) : List Int := natsI (ps.map fun p => p.2)
structure OkP (ps : List NW) : Prop where
  len : ps.length ≤ 16
  ok : ∀ p ∈ ps, p.1 < 9223372036854775808 ∧ p.2 ≤ 8 ∧ nb p.1 ≤ p.2
theorem ns_at (ps : List NW) (i : Nat) (h : i < ps.length) : (intsIV (nsOf ps)).getD i [] = [.int .i64 ((ps[i].1 : Nat) : Int)] := by
  rw [ints_at _ _ (by rw [nats_len]; simpa using h), nats_at _ _ (by simpa using h)]
  simp [List.getD_eq_getElem?_getD, h]
theorem ws_at (ps : List NW) (i : Nat) (h : i < ps.length) : (intsIV (wsOf ps)).getD i [] = [.int .i64 ((ps[i].2 : Nat) : Int)] := by
  rw [ints_at _ _ (by rw [nats_len]; simpa using h), nats_at _ _ (by simpa using h)]
  simp [List.getD_eq_getElem?_getD, h]
theorem ns_len (ps : List NW) : (intsIV (nsOf ps)).length = ps.length := by rw [ints_len, nats_len]; simp
theorem ws_len (ps : List NW) : (intsIV (wsOf ps)).length = ps.length := by rw [ints_len, nats_len]; simp
theorem rowB_take (ps : List NW) (i : Nat) (h : i < ps.length) : rowB (ps.take (i + 1)) = rowB (ps.take i) ++ beB ps[i].2 ps[i].1 := by
  have : ps[i]?.toList = [ps[i]] := by simp [h]
  rw [List.take_add_one, this, rowB, List.flatMap_append]
  simp [rowB]
theorem rowB_small (ps : List NW) (h : OkP ps) (i : Nat) : (rowB (ps.take i)).length ≤ 8 * i := by
  induction i with
  | zero => simp [rowB]
  | succ i ih =>
    by_cases hi : i < ps.length
    · rw [rowB_take _ _ hi, List.length_append, beB_len]
      have := (h.ok ps[i] (List.getElem_mem hi)).2.1
      omega
    · rw [List.take_of_length_le (by omega)] at ih ⊢; omega
theorem putX_of (p : NW) (h : nb p.1 ≤ p.2) : putX p.1 p.2 = .tup [.imm (.str (beB p.2 p.1)), .imm (.int .i64 0)] := by rw [putX, if_pos h]
def rowA (ps : List NW) : AV := .tup [.imm (.str (rowB ps)), .imm (.int .i64 0)]
theorem L_frow (ps : List NW) (h : OkP ps) (Q : AV → Heap → Prop) (hq : Q (rowA ps) []) : ∀ (m i : Nat), m + i = ps.length →
    L_fields_Row_6 (intsIV (wsOf ps)) (intsIV (nsOf ps)) ps.length i (byteRows (rowB (ps.take i))) (K_fields_Row_1 Q) := by
  intro m
  induction m with
  | zero =>
    intro i hi
    refine L_fields_Row_6_of _ _ _ _ _ _ ⟨fun h => ?_, fun _ => ?_⟩
    · have := of_decide_eq_true h; omega
    · rw [List.take_of_length_le (by omega)]
      refine K_fields_Row_1_x1 _ _ (C_fields_Row_16_of _ _ ⟨byteRows_okC _, K_fields_Row_0_x0 _ _ _ ?_⟩)
      rw [unbyteC]; exact hq
  | succ m ih =>
    intro i hi
    have hlt : i < ps.length := by omega
    have hp := h.ok ps[i] (List.getElem_mem hlt)
    have hl := h.len
    have hs := rowB_small ps h i
    refine L_fields_Row_6_of _ _ _ _ _ _ ⟨fun _ => ?_, fun h => ?_⟩
    · have w2 : IntKind.i64.wrap ((i : Int) + 1) = ((i + 1 : Nat) : Int) := by rw [wrap_id _ (by omega) (by omega)]; simp
      rw [show (intsIV (nsOf ps)).getD (Int.toNat (i : Int)) [] = _ from ns_at ps i hlt, show (intsIV (wsOf ps)).getD (Int.toNat (i : Int)) [] = _ from ws_at ps i hlt, ns_len, ws_len, w2]
      refine ⟨⟨⟨by omega, by omega⟩, rfl⟩, ⟨⟨⟨by omega, by omega⟩, rfl⟩, Call.use (S_fPut _ _ hp.1 hp.2.1) ⟨⟨rfl, putX_form _ _⟩, ?_⟩⟩⟩
      rw [putX_of _ hp.2.2]
      refine ⟨fun h => absurd (show false = true from h) (by decide), fun _ => ?_⟩
      have e : byteRows (rowB (ps.take i)) ++ byteRows (beB ps[i].2 ps[i].1) = byteRows (rowB (ps.take (i + 1))) := by
        rw [rowB_take _ _ hlt]; simp [byteRows]
      show Req (((byteRows (rowB (ps.take i))).length + (byteRows (beB ps[i].2 ps[i].1)).length) * 1 ≤ _ ∧ _) (L_fields_Row_6 _ _ _ _ (byteRows (rowB (ps.take i)) ++ byteRows (beB ps[i].2 ps[i].1)) _)
      rw [e]
      refine ⟨?_, ih (i + 1) (by omega)⟩
      show ((byteRows (rowB (ps.take i))).length + (byteRows (beB ps[i].2 ps[i].1)).length) * 1 ≤ 140737488355328 ∧ (byteRows (rowB (ps.take i))).length + (byteRows (beB ps[i].2 ps[i].1)).length ≤ 140737488355328
      simp only [byteRows, List.length_map, beB_len]
      constructor <;> omega
    · have := of_decide_eq_false h; omega
theorem lenC (ps : List NW) (h : OkP ps) : (bif !decide (((intsIV (nsOf ps)).length : Int) = ((intsIV (wsOf ps)).length : Int)) then true else decide ((16 : Int) < ((intsIV (nsOf ps)).length : Int))) = false := by
  have hl := h.len
  rw [ns_len, ws_len, decide_eq_true (show (ps.length : Int) = ps.length from rfl), decide_eq_false (show ¬ (16 : Int) < ps.length by omega)]; rfl
theorem S_fRow (ps : List NW) (h : OkP ps) : Call E0.P fn_fields_Row [.imm (.sl .any 1 (intsIV (nsOf ps))), .imm (.sl .any 1 (intsIV (wsOf ps)))] [] (Is (rowA ps) []) := by
  refine F_fields_Row_of _ _ _ (Let.intro ?_)
  rw [lenC ps h]
  refine ⟨fun h => (by cases h), fun _ => ?_⟩
  rw [ns_len]
  exact L_frow ps h _ ⟨rfl, rfl⟩ ps.length 0 rfl
structure OkW (ws : List Nat) : Prop where
  len : ws.length ≤ 16
  ok : ∀ w ∈ ws, w ≤ 8
theorem w_at (ws : List Nat) (i : Nat) (h : i < ws.length) : (intsIV (natsI ws)).getD i [] = [.int .i64 ((ws[i] : Nat) : Int)] := by
  rw [ints_at _ _ (by rw [nats_len]; simpa using h), nats_at _ _ (by simpa using h)]
  simp [List.getD_eq_getElem?_getD, h]
theorem w_len (ws : List Nat) : (intsIV (natsI ws)).length = ws.length := by rw [ints_len, nats_len]
theorem sum_take (ws : List Nat) (i : Nat) (h : i < ws.length) : (ws.take (i + 1)).sum = (ws.take i).sum + ws[i] := by
  have : ws[i]?.toList = [ws[i]] := by simp [h]
  rw [List.take_add_one, this, List.sum_append]; simp
theorem sum_small (ws : List Nat) (h : OkW ws) (i : Nat) : (ws.take i).sum ≤ 8 * i := by
  induction i with
  | zero => simp
  | succ i ih =>
    by_cases hi : i < ws.length
    · rw [sum_take _ _ hi]
      have := h.ok ws[i] (List.getElem_mem hi)
      omega
    · rw [List.take_of_length_le (by omega)] at ih ⊢; omega
theorem L_tog (ws : List Nat) (h : OkW ws) (Q : AV → Heap → Prop) (hq : Q (.tup [.imm (.int .i64 ws.sum), .imm (.bool true)]) []) : ∀ (m i : Nat), m + i = ws.length →
    L_fields_together_3 ((ws.take i).sum : Nat) (intsIV (natsI ws)) ws.length i (K_fields_together_1 Q) := by
  intro m
  induction m with
  | zero =>
    intro i hi
    refine L_fields_together_3_of _ _ _ _ _ ⟨fun h => ?_, fun _ => ?_⟩
    · have := of_decide_eq_true h; omega
    · rw [List.take_of_length_le (by omega)]
      exact K_fields_together_1_x1 _ _ (C_fields_together_12_of _ _ (K_fields_together_0_x0 _ _ _ hq))
  | succ m ih =>
    intro i hi
    have hlt : i < ws.length := by omega
    have hw := h.ok ws[i] (List.getElem_mem hlt)
    have hl := h.len
    have hs := sum_small ws h i
    refine L_fields_together_3_of _ _ _ _ _ ⟨fun _ => ?_, fun h => ?_⟩
    · have w2 : IntKind.i64.wrap ((i : Int) + 1) = ((i + 1 : Nat) : Int) := by rw [wrap_id _ (by omega) (by omega)]; simp
      have w3 : IntKind.i64.wrap ((((ws.take i).sum : Nat) : Int) + ((ws[i] : Nat) : Int)) = (((ws.take (i + 1)).sum : Nat) : Int) := by
        rw [sum_take _ _ hlt, wrap_id _ (by omega) (by omega)]; simp
      rw [show (intsIV (natsI ws)).getD (Int.toNat (i : Int)) [] = _ from w_at ws i hlt, w_len, w2, show gI [.int .i64 ((ws[i] : Nat) : Int)] 0 = ((ws[i] : Nat) : Int) from rfl, w3]
      refine ⟨⟨⟨by omega, by omega⟩, rfl⟩, Call.use (S_fits _) ⟨⟨rfl, rfl⟩, ?_⟩⟩
      show Br (!(bif decide ((0 : Int) ≤ ((ws[i] : Nat) : Int)) then decide (((ws[i] : Nat) : Int) ≤ 8) else false)) _ _
      rw [decide_eq_true (show (0 : Int) ≤ ((ws[i] : Nat) : Int) by omega), decide_eq_true (show ((ws[i] : Nat) : Int) ≤ 8 by omega)]
      exact ⟨fun h => absurd h (by decide), fun _ => ih (i + 1) (by omega)⟩
    · have := of_decide_eq_false h; omega
theorem S_tog (ws : List Nat) (h : OkW ws) : Call E0.P fn_fields_together [.imm (.sl .any 1 (intsIV (natsI ws)))] [] (Is (.tup [.imm (.int .i64 ws.sum), .imm (.bool true)]) []) := by
  refine F_fields_together_of _ _ ?_
  rw [w_len]
  exact L_tog ws h _ ⟨rfl, rfl⟩ ws.length 0 rfl
def cutR (r : List Int × Int) : AV := .tup [.own (.loc 0), .imm (.int .i64 r.2)]
def cutH (r : List Int × Int) : Heap := [(.loc 0, .arr 0 true 1 (intsIV r.1))]
def fin (acc : List Int) (r : List Int × Int) : List Int × Int := if r.2 ≠ 0 then ([], r.2) else (acc ++ r.1, 0)
theorem ints_snoc (l : List Int) (n : Int) : intsIV l ++ [[.int .i64 n]] = intsIV (l ++ [n]) := by simp [intsIV]
theorem fin_cut (acc : List Int) (w : Nat) (ws : List Nat) (s : List UInt8) (h : (getX (s.take w)).2 = 0) : fin (acc ++ [(getX (s.take w)).1]) (cutX ws (s.drop w)) = fin acc (cutX (w :: ws) s) := by
  rw [cutX, h, if_neg (by simp)]
  unfold fin
  by_cases c : (cutX ws (s.drop w)).2 = 0
  · simp [c]
  · simp [c]
theorem fin_bad (acc : List Int) (w : Nat) (ws : List Nat) (s : List UInt8) (h : ¬ (getX (s.take w)).2 = 0) : fin acc (cutX (w :: ws) s) = ([], (getX (s.take w)).2) := by
  rw [cutX, if_pos h]
  simp [fin, h]
theorem L_fcut (ws : List Nat) (h : OkW ws) (Q : AV → Heap → Prop) (r : List Int × Int) (hq : Q (cutR r) (cutH r)) : ∀ (m i : Nat) (s : List UInt8) (acc : List Int), m + i = ws.length → s.length = (ws.drop i).sum → acc.length = i → r = fin acc (cutX (ws.drop i) s) →
    L_fields_Cut_12 s (intsIV (natsI ws)) ws.length i (intsIV acc) (K_fields_Cut_1 Q) := by
  intro m
  induction m with
  | zero =>
    intro i s acc hi hs ha hr
    refine L_fields_Cut_12_of _ _ _ _ _ _ ⟨fun h => ?_, fun _ => ?_⟩
    · have := of_decide_eq_true h; omega
    · rw [List.drop_of_length_le (by omega)] at hr
      have e : r = (acc, 0) := by rw [hr]; simp [cutX, fin]
      rw [e] at hq
      exact K_fields_Cut_1_x1 _ _ (C_fields_Cut_22_of _ _ (K_fields_Cut_0_x0 _ _ _ hq))
  | succ m ih =>
    intro i s acc hi hs ha hr
    have hlt : i < ws.length := by omega
    have hw := h.ok ws[i] (List.getElem_mem hlt)
    have hl := h.len
    have hsl : (ws.drop i).sum = ws[i] + (ws.drop (i + 1)).sum := by rw [drop_cons _ _ hlt, List.sum_cons]
    have hsm : ∀ (l : List Nat), (∀ w ∈ l, w ≤ 8) → l.sum ≤ 8 * l.length := by
      intro l
      induction l with
      | nil => intro _; simp
      | cons x l ih => intro hx; have := ih fun w hw => hx w (by simp [hw]); have := hx x (by simp); simp; omega
    have hs8 := hsm (ws.drop i) fun w hw => h.ok w (List.drop_subset _ _ hw)
    rw [List.length_drop] at hs8
    refine L_fields_Cut_12_of _ _ _ _ _ _ ⟨fun _ => ?_, fun h => ?_⟩
    · have w2 : IntKind.i64.wrap ((i : Int) + 1) = ((i + 1 : Nat) : Int) := by rw [wrap_id _ (by omega) (by omega)]; simp
      rw [show (intsIV (natsI ws)).getD (Int.toNat (i : Int)) [] = _ from w_at ws i hlt, w_len, w2, show gI [.int .i64 ((ws[i] : Nat) : Int)] 0 = ((ws[i] : Nat) : Int) from rfl, Int.toNat_natCast]
      refine ⟨⟨⟨by omega, by omega⟩, rfl⟩, ⟨⟨by omega, by omega⟩, Let.intro (Call.use (S_fGet _ (by rw [List.length_take]; omega)) ⟨⟨rfl, rfl⟩, ?_⟩)⟩⟩
      show Br (!decide ((getX (s.take ws[i])).2 = 0)) _ _
      rw [drop_cons _ _ hlt] at hr
      refine ⟨fun hb => ?_, fun hb => ⟨⟨by omega, by omega⟩, Let.intro ⟨?_, ?_⟩⟩⟩
      · have hb : ¬ (getX (s.take ws[i])).2 = 0 := by simpa using hb
        rw [fin_bad _ _ _ _ hb] at hr
        rw [hr] at hq
        exact K_fields_Cut_1_x0 _ _ _ hq
      · rw [ints_len]; constructor <;> omega
      · have hb : (getX (s.take ws[i])).2 = 0 := by simpa using hb
        show L_fields_Cut_12 _ _ _ _ (intsIV acc ++ [[.int .i64 (getX (s.take ws[i])).1]]) _
        rw [ints_snoc]
        refine ih (i + 1) _ _ (by omega) (by rw [List.length_drop]; omega) (by simp; omega) ?_
        rw [fin_cut _ _ _ _ hb]; exact hr
    · have := of_decide_eq_false h; omega
theorem S_fCut (s : List UInt8) (ws : List Nat) (h : OkW ws) (hs : s.length = ws.sum) : Call E0.P fn_fields_Cut [.imm (.str s), .imm (.sl .any 1 (intsIV (natsI ws)))] [] (Is (cutR (fin [] (cutX ws s))) (cutH (fin [] (cutX ws s)))) := by
  have hl := h.len
  refine F_fields_Cut_of _ _ _ ⟨fun hb => ?_, fun _ => ?_⟩
  · have := of_decide_eq_true hb
    rw [w_len] at this; omega
  refine Call.use (S_tog ws h) ⟨⟨rfl, rfl⟩, ⟨fun hb => absurd (show false = true from hb) (by decide), fun _ => ?_⟩⟩
  show Br (!decide ((ws.sum : Int) = (s.length : Int))) _ _
  rw [hs, decide_eq_true (show (ws.sum : Int) = (ws.sum : Int) from rfl)]
  refine ⟨fun hb => absurd hb (by decide), fun _ => ?_⟩
  rw [w_len]
  exact L_fcut ws h _ _ ⟨rfl, rfl⟩ ws.length 0 s [] rfl hs rfl rfl
end Go.Proofs.Sim.Se

set_option linter.unusedVariables false
set_option linter.unusedSimpArgs false
namespace Go.Proofs.Sim.Se
open Go Go.Proofs Go.Proofs.Sim Go.Proofs.Sim.Va

theorem dict_row (d : List Pr) : (dictV d).row = [.int .i64 6, .int .i64 0, .int .i64 0, .str [], .sl .any 6 [], .sl .any 7 (prs d)] := by
  rw [row_eq]; rfl
theorem list_row (l : List Int) : (listV l).row = [.int .i64 5, .int .i64 0, .int .i64 0, .str [], .sl .any 6 (vrs (l.map intV)), .sl .any 7 []] := by
  rw [row_eq]; rfl
theorem int_row (n : Int) : (intV n).row = [.int .i64 2, .int .i64 n, .int .i64 0, .str [], .sl .any 6 [], .sl .any 7 []] := by
  rw [row_eq]; rfl
theorem L_clist (l : List Int) (hl : l.length ≤ 1000000) (Q : AV → Heap → Prop) (hq : Q (.imm (.agg (listV l).row)) []) : ∀ (m i : Nat), m + i = l.length →
    L_crossing_list_3 (intsIV l) l.length i 0 0 0 [] 5 0 0 [] [] [] (vrs ((l.take i).map intV)) [] (K_crossing_list_1 Q) := by
  intro m
  induction m with
  | zero =>
    intro i hi
    refine L_crossing_list_3_of _ _ _ _ _ _ _ _ _ _ _ _ _ _ _ _ ⟨fun h => ?_, fun _ => ?_⟩
    · have := of_decide_eq_true h; omega
    · rw [List.take_of_length_le (by omega)]
      refine K_crossing_list_1_x0 _ _ _ _ _ _ _ _ _ _ _ _ _ (C_crossing_list_9_of _ _ _ _ _ _ _ _ _ _ _ _ _ (K_crossing_list_0_x0 _ _ _ _ _ _ _ ?_))
      rw [list_row] at hq; exact hq
  | succ m ih =>
    intro i hi
    have hlt : i < l.length := by omega
    refine L_crossing_list_3_of _ _ _ _ _ _ _ _ _ _ _ _ _ _ _ _ ⟨fun _ => ?_, fun h => ?_⟩
    · have w2 : IntKind.i64.wrap ((i : Int) + 1) = ((i + 1 : Nat) : Int) := by rw [wrap_id _ (by omega) (by omega)]; simp
      have e : vrs ((l.take i).map intV) ++ [[.int .i64 2, .int .i64 (l.getD i 0), .int .i64 0, .str [], .sl .any 6 [], .sl .any 7 []]] = vrs ((l.take (i + 1)).map intV) := by
        have : l[i]?.toList = [l.getD i 0] := by simp [List.getD_eq_getElem?_getD, hlt]
        rw [List.take_add_one, this, ← int_row]; simp [vrs]
      rw [show (intsIV l).getD (Int.toNat (i : Int)) [] = _ from ints_at l i hlt, ints_len, w2, show gI [.int .i64 (l.getD i 0)] 0 = l.getD i 0 from rfl, e]
      refine ⟨⟨⟨by omega, by omega⟩, rfl⟩, ⟨?_, ih (i + 1) (by omega)⟩⟩
      rw [vrs_len, List.length_map, List.length_take]; constructor <;> omega
    · have := of_decide_eq_false h; omega
theorem S_clist (l : List Int) (hl : l.length ≤ 1000000) : Call E0.P fn_crossing_list [.imm (.sl .any 1 (intsIV l))] [] (Is (.imm (.agg (listV l).row)) []) := by
  refine F_crossing_list_of _ _ ?_
  rw [ints_len]
  exact L_clist l hl _ ⟨rfl, rfl⟩ l.length 0 rfl
theorem getA_rT0 (v : V) (k : Ky) : aCells (rT (getA v k) 0) = ((getV v k).getD zero).row := rfl
theorem getA_rT1 (v : V) (k : Ky) : rB (rT (getA v k) 1) = (getV v k).isSome := rfl
theorem S_cget (d : List Pr) (hf : Fit (dictV d)) (k : Ky) : Call E0.P fn_crossing_get [.imm (.sl .any 7 (prs d)), .imm (.str k)] [] (Is (getA (dictV d) k) []) := by
  refine F_crossing_get_of _ _ _ ?_
  have := S_Get (dictV d) hf k
  rw [dict_row] at this
  refine Call.use this ?_
  rw [getA_rT0, vrow_form]
  exact ⟨⟨rfl, rfl⟩, ⟨rfl, rfl⟩⟩
def intsA (o : Option (List Int)) : AV := .tup [.imm (.sl .any 1 (intsIV (o.getD []))), .imm (.bool o.isSome)]
theorem ints_bad (v : V) (most : Int) (i : Nat) (h : i < v.l.length) (hk : intOK most v.l[i] = false) : intsX v most = none := by
  unfold intsX
  split
  · rfl
  · rw [if_neg]
    rw [List.all_eq_true]
    intro ha
    have := ha _ (List.getElem_mem h)
    rw [hk] at this; cases this
theorem all_take (v : V) (most : Int) (i : Nat) (h : i < v.l.length) (ha : (v.l.take i).all (intOK most) = true) (hk : intOK most v.l[i] = true) : (v.l.take (i + 1)).all (intOK most) = true := by
  have : v.l[i]?.toList = [v.l[i]] := by simp [h]
  rw [List.take_add_one, this, List.all_append, ha]; simp [hk]
theorem row_k (v : V) : gI v.row 0 = v.k := vk v
theorem row_n (v : V) : gI v.row 1 = v.n := by rw [row_eq]; rfl
theorem intOK_iff (k n most : Int) : (bif (bif !decide (k = 2) then true else decide (n < 0)) then true else decide (most < n)) = !decide (k = 2 ∧ 0 ≤ n ∧ n ≤ most) := by
  by_cases h1 : k = 2 <;> by_cases h2 : n < 0 <;> by_cases h3 : most < n <;> simp [h1, h2, h3] <;> omega
theorem L_cints (v : V) (hl : v.l.length ≤ 1000000000000) (h5 : v.k = 5) (most : Int) (Q : AV → Heap → Prop) (hq : Q (intsA (intsX v most)) []) : ∀ (m i : Nat), m + i = v.l.length → (v.l.take i).all (intOK most) = true →
    L_crossing_ints_6 most (vrs v.l) v.l.length i (intsIV ((v.l.take i).map V.n)) (K_crossing_ints_1 Q) := by
  intro m
  induction m with
  | zero =>
    intro i hi ha
    refine L_crossing_ints_6_of _ _ _ _ _ _ ⟨fun h => ?_, fun _ => ?_⟩
    · have := of_decide_eq_true h; omega
    · rw [List.take_of_length_le (by omega)] at ha ⊢
      refine K_crossing_ints_1_x1 _ _ (C_crossing_ints_15_of _ _ (K_crossing_ints_0_x0 _ _ _ ?_))
      have e : intsX v most = some (v.l.map V.n) := by rw [intsX, if_neg (by simp [h5]), if_pos ha]
      rw [e] at hq; exact hq
  | succ m ih =>
    intro i hi ha
    have hlt : i < v.l.length := by omega
    have hv : vAt v.l i = v.l[i] := by simp [vAt, List.getD_eq_getElem?_getD, hlt]
    refine L_crossing_ints_6_of _ _ _ _ _ _ ⟨fun _ => ?_, fun h => ?_⟩
    · have w2 : IntKind.i64.wrap ((i : Int) + 1) = ((i + 1 : Nat) : Int) := by rw [wrap_id _ (by omega) (by omega)]; simp
      rw [show (vrs v.l).getD (Int.toNat (i : Int)) [] = (vAt v.l i).row from vrow_at _ _ hlt, row_k, row_n, vrs_len, w2]
      refine ⟨⟨⟨by omega, by omega⟩, vrow_ok _ _ _⟩, Let.intro (Let.intro ?_)⟩
      rw [intOK_iff, hv]
      refine ⟨fun h => ?_, fun h => ?_⟩
      · have h : (!intOK most v.l[i]) = true := h
        have hk : intOK most v.l[i] = false := by simpa using h
        rw [ints_bad v most i hlt hk] at hq
        exact K_crossing_ints_1_x0 _ _ _ hq
      · have h : (!intOK most v.l[i]) = false := h
        have hk : intOK most v.l[i] = true := by simpa using h
        have e : intsIV ((v.l.take i).map V.n) ++ [[.int .i64 v.l[i].n]] = intsIV ((v.l.take (i + 1)).map V.n) := by
          have : v.l[i]?.toList = [v.l[i]] := by simp [hlt]
          rw [List.take_add_one, this, List.map_append, List.map_cons, List.map_nil, ← ints_snoc]
        rw [e]
        refine ⟨?_, ih (i + 1) (by omega) (all_take v most i hlt ha hk)⟩
        rw [ints_len, List.length_map, List.length_take]; constructor <;> omega
    · have := of_decide_eq_false h; omega
theorem S_cints (v : V) (hl : v.l.length ≤ 1000000000000) (most : Int) : Call E0.P fn_crossing_ints [.imm (.agg v.row), .imm (.int .i64 most)] [] (Is (intsA (intsX v most)) []) := by
  have hcells : v.row = [.int .i64 v.k, .int .i64 v.n, .int .i64 v.g, .str v.s, .sl .any 6 (vrs v.l), .sl .any 7 (prs v.d)] := row_eq v
  rw [hcells]
  refine F_crossing_ints_of _ _ _ _ _ _ _ _ ⟨fun h => ?_, fun h => ?_⟩
  · have h : ¬ v.k = 5 := by simpa using h
    have e : intsX v most = none := by rw [intsX, if_pos h]
    rw [e]; exact ⟨rfl, rfl⟩
  · have h : v.k = 5 := by simpa using h
    rw [vrs_len]
    exact L_cints v hl h most _ ⟨rfl, rfl⟩ v.l.length 0 rfl rfl
def widthsA (d : List Pr) : AV := .tup [.imm (.sl .any 1 (intsIV ((widthsX d).getD []))), .imm (.int .i64 (wideX d))]
theorem intsA_r0 (o : Option (List Int)) : rR (rT (intsA o) 0) = intsIV (o.getD []) := rfl
theorem intsA_r1 (o : Option (List Int)) : rB (rT (intsA o) 1) = o.isSome := rfl
theorem three (l : List Int) (h : l.length = 3) : ∃ a b c, l = [a, b, c] := by
  match l, h with
  | [a, b, c], _ => exact ⟨a, b, c, rfl⟩
theorem S_cwidths (d : List Pr) (hf : Fit (dictV d)) : Call E0.P fn_crossing_widths [.imm (.sl .any 7 (prs d))] [] (Is (widthsA d) []) := by
  have hv := fit_ll (getV_fit hf kW)
  refine F_crossing_widths_of _ _ (Call.use (S_cget d hf kW) ?_)
  rw [getA_rT0, vrow_form]
  refine ⟨⟨rfl, rfl⟩, Call.use (S_cints _ hv 8) ⟨⟨rfl, rfl⟩, Let.intro ?_⟩⟩
  rw [show intsX ((getV (dictV d) kW).getD zero) 8 = wInts d from rfl, intsA_r0, intsA_r1, ints_len]
  show Br (bif !(wInts d).isSome then true else !decide ((((wInts d).getD []).length : Int) = 3)) _ (Req (_ ∧ shOK _ ((intsIV ((wInts d).getD [])).getD 0 []) = true) _)
  have hw : widthsX d = match wInts d with | some l => if l.length = 3 then some l else none | none => none := rfl
  unfold widthsA wideX
  cases hi : wInts d with
  | none =>
    rw [hi] at hw; simp only at hw
    rw [hw]
    exact ⟨fun _ => ⟨rfl, rfl⟩, fun h => absurd h (by decide)⟩
  | some l =>
    rw [hi] at hw; simp only at hw
    have hb := intsX_some (show intsX _ 8 = some l from hi)
    by_cases h3 : l.length = 3
    · rw [if_pos h3] at hw
      rw [hw]
      obtain ⟨a, b, c, rfl⟩ := three l h3
      have ha := hb.1 a (by simp)
      have hb' := hb.1 b (by simp)
      have hc := hb.1 c (by simp)
      refine ⟨fun h => absurd h (by simp), fun _ => ⟨⟨⟨by omega, by simp⟩, rfl⟩, ⟨⟨⟨by omega, by simp⟩, rfl⟩, ⟨⟨⟨by omega, by simp⟩, rfl⟩, ⟨?_, rfl⟩⟩⟩⟩⟩
      have w1 : IntKind.i64.wrap (IntKind.i64.wrap (a + b) + c) = a + b + c := by rw [wrap_id (a + b) (by omega) (by omega), wrap_id _ (by omega) (by omega)]
      show AV.tup [_, .imm (.int .i64 (IntKind.i64.wrap (IntKind.i64.wrap (a + b) + c)))] = _
      rw [w1]; rfl
    · rw [if_neg h3] at hw
      rw [hw]
      refine ⟨fun _ => ⟨rfl, rfl⟩, fun h => absurd h ?_⟩
      have : decide ((l.length : Int) = 3) = false := decide_eq_false (by omega)
      simp only [Option.isSome_some, Option.getD_some, this]
      decide
theorem S_cWide (d : List Pr) (hf : Fit (dictV d)) : Call E0.P fn_crossing_Wide [.imm (.sl .any 7 (prs d))] [] (Is (.imm (.int .i64 (wideX d))) []) :=
  F_crossing_Wide_of _ _ (Call.use (S_cwidths d hf) ⟨⟨rfl, rfl⟩, ⟨rfl, rfl⟩⟩)
def spansA (d : List Pr) : AV := .tup [.imm (.sl .any 1 (intsIV ((sInts d).getD []))), .imm (.bool (spansX d).isSome)]
theorem spans_bool (d : List Pr) : (bif (sInts d).isSome then decide (((((sInts d).getD []).length : Nat) : Int).tmod 2 = 0) else false) = (spansX d).isSome := by
  unfold spansX
  cases sInts d with
  | none => rfl
  | some l =>
    have e : ((l.length : Nat) : Int).tmod 2 = ((l.length % 2 : Nat) : Int) := by
      rw [Int.tmod_eq_emod_of_nonneg (by omega)]; simp
    simp only [Option.isSome_some, Option.getD_some, cond_true, e]
    by_cases h : l.length % 2 = 0
    · simp [h]
    · simp [h]; omega
theorem span_ll (d : List Pr) (hf : Fit (dictV d)) : (spanV d).l.length ≤ 1000000000000 := by
  have h1 := fit_ll (getV_fit hf kIndex)
  unfold spanV
  cases h : getV (dictV d) kIndex with
  | none => simp [V.l]
  | some v => rw [h] at h1; exact h1
theorem span_row (d : List Pr) (h : getV (dictV d) kIndex = none) : (spanV d).row = [.int .i64 5, .int .i64 0, .int .i64 0, .str [], .sl .any 6 [[.int .i64 2, .int .i64 0, .int .i64 0, .str [], .sl .any 6 [], .sl .any 7 []], ((getV (dictV d) kSize).getD zero).row], .sl .any 7 []] := by
  unfold spanV
  rw [h, row_eq]
  show [_, _, _, _, IV.sl .any 6 [(intV 0).row, _], _] = _
  rw [int_row]; rfl
theorem S_cspans (d : List Pr) (hf : Fit (dictV d)) : Call E0.P fn_crossing_spans [.imm (.sl .any 7 (prs d))] [] (Is (spansA d) []) := by
  have key : ∀ (cs : List IV) (Q : AV → Heap → Prop), Q (spansA d) [] → cs = (spanV d).row → C_crossing_spans_4 (gI cs 0) (gI cs 1) (gI cs 2) (gS cs 3) (gR cs 4) (gR cs 5) (K_crossing_spans_0 Q) := by
    intro cs Q hq hc
    refine C_crossing_spans_4_of _ _ _ _ _ _ _ ?_
    rw [hc, vrow_form]
    refine Call.use (S_cints _ (span_ll d hf) 8388608) ⟨⟨rfl, rfl⟩, ⟨fun _ => by decide, Let.intro (K_crossing_spans_0_x0 _ _ _ ?_)⟩⟩
    rw [intsA_r0, intsA_r1, show intsX (spanV d) 8388608 = sInts d from rfl, ints_len, spans_bool]
    exact hq
  refine F_crossing_spans_of _ _ (Call.use (S_cget d hf kIndex) ?_)
  rw [getA_rT0, vrow_form]
  refine ⟨⟨rfl, rfl⟩, ?_⟩
  rw [getA_rT1]
  cases h : getV (dictV d) kIndex with
  | none =>
    refine ⟨fun _ => Call.use (S_cget d hf kSize) ?_, fun h => absurd h (by decide)⟩
    rw [getA_rT0, vrow_form]
    exact ⟨⟨rfl, rfl⟩, key [.int .i64 5, .int .i64 0, .int .i64 0, .str [], .sl .any 6 [[.int .i64 2, .int .i64 0, .int .i64 0, .str [], .sl .any 6 [], .sl .any 7 []], ((getV (dictV d) kSize).getD zero).row], .sl .any 7 []] _ ⟨rfl, rfl⟩ (span_row d h).symm⟩
  | some v =>
    refine ⟨fun h => absurd h (by simp), fun _ => key _ _ ⟨rfl, rfl⟩ ?_⟩
    unfold spanV; rw [h]; rfl
end Go.Proofs.Sim.Se

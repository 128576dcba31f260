import Derived.Test.YtcdjheflchglaaaDoorSeatGenW
import Derived.Test.YtcdjheflchglaaaDoorWrL
import Derived.Test.YtcdjheflchglaaaDoorDgA
import Derived.Test.YtcdjheflchglaaaDoorVsC
import Derived.Test.YtcdjheflchglaaaDoorTrydShelf
import Derived.Lib.IndexAny
set_option linter.unusedVariables false
set_option linter.unusedSimpArgs false
set_option maxRecDepth 100000
namespace Go.Proofs.Sim.Se
open Go Go.Proofs Go.Proofs.Sim Go.Proofs.Sim.Va Go.RowKit

theorem brD {p : Prop} {i : Decidable p} {A B : Prop} (h1 : p → A) (h2 : ¬ p → B) : Br (@decide p i) A B := ⟨fun h => h1 (of_decide_eq_true h), fun h => h2 (of_decide_eq_false h)⟩
theorem brB {b : Bool} {p : Prop} {A B : Prop} (hb : b = true ↔ p) (h1 : p → A) (h2 : ¬ p → B) : Br b A B := ⟨fun h => h1 (hb.1 h), fun h => h2 fun hp => by rw [hb.2 hp] at h; cases h⟩
theorem S_octet_Kind (a : Int) : Call E0.P fn_octet_Kind [.imm (.int .u8 a)] [] (Is (.imm (.int .i64 (kindB a))) []) := by
  have key : ∀ (b : Bool) (Q : AV → Heap → Prop), Q (.imm (.int .i64 (if b = true then 0 else if a = 40 ∨ a = 41 ∨ a = 60 ∨ a = 62 ∨ a = 91 ∨ a = 93 ∨ a = 123 ∨ a = 125 ∨ a = 47 ∨ a = 37 then 1 else 2))) [] → C_octet_Kind_7 a b (K_octet_Kind_1 Q) := by
    intro b Q hq
    have one : ∀ {n : Int}, a = n → b = false → (n = 40 ∨ n = 41 ∨ n = 60 ∨ n = 62 ∨ n = 91 ∨ n = 93 ∨ n = 123 ∨ n = 125 ∨ n = 47 ∨ n = 37) → Br (decide (a = n)) (K_octet_Kind_1 Q .ret ⟨[(2, .imm (.int .i64 1))], []⟩) (K_octet_Kind_1 Q .normal ⟨[], []⟩) := by
      intro n e hb hn
      refine brD (fun _ => ?_) fun h => absurd e h
      subst e
      rw [hb, if_neg (by decide), if_pos hn] at hq
      exact K_octet_Kind_1_x0 _ _ hq
    refine C_octet_Kind_7_of _ _ _ ⟨fun h => ?_, fun h => ?_⟩
    · rw [h, if_pos rfl] at hq; exact K_octet_Kind_1_x0 _ _ hq
    refine brD (fun e => one e h (by omega)) fun n1 => brD (fun e => one e h (by omega)) fun n2 => brD (fun e => one e h (by omega)) fun n3 => brD (fun e => one e h (by omega)) fun n4 => brD (fun e => one e h (by omega)) fun n5 =>
      brD (fun e => one e h (by omega)) fun n6 => brD (fun e => one e h (by omega)) fun n7 => brD (fun e => one e h (by omega)) fun n8 => brD (fun e => one e h (by omega)) fun n9 => brD (fun e => ?_) fun n10 => ?_
    · rw [h, if_neg (by decide), if_pos (by omega)] at hq
      exact K_octet_Kind_1_x0 _ _ hq
    · rw [h, if_neg (by decide), if_neg (by omega)] at hq
      exact K_octet_Kind_1_x1 _ (C_octet_Kind_20_of _ (K_octet_Kind_0_x0 _ _ hq))
  have fin : ∀ (p : Prop) [Decidable p], ((a = 0 ∨ a = 9 ∨ a = 10 ∨ a = 12 ∨ a = 13 ∨ a = 32) ↔ p) → C_octet_Kind_7 a (decide p) (K_octet_Kind_1 (Is (.imm (.int .i64 (kindB a))) [])) := by
    intro p _ hp
    refine key _ _ ?_
    rw [kindB]
    by_cases h : p
    · rw [if_pos (hp.2 h), if_pos (decide_eq_true h)]; exact ⟨rfl, rfl⟩
    · rw [if_neg (fun h' => h (hp.1 h')), if_neg (show ¬ decide p = true by rw [decide_eq_false h]; decide)]; exact ⟨rfl, rfl⟩
  refine F_octet_Kind_of _ _ (brD (fun e => fin _ (by omega)) fun n1 => brD (fun e => fin _ (by omega)) fun n2 => brD (fun e => fin _ (by omega)) fun n3 => brD (fun e => fin _ (by omega)) fun n4 => brD (fun e => fin _ (by omega)) fun n5 => fin _ (by omega))
theorem digs : ∀ n : Fin 16, (if (n : Nat) < 10 then IntKind.u8.wrap (IntKind.i64.wrap ((48 : Int) + ((n : Nat) : Int))) else IntKind.u8.wrap (IntKind.i64.wrap (IntKind.i64.wrap ((65 : Int) + ((n : Nat) : Int)) - (10 : Int)))) = (((digB n).toNat : Nat) : Int) := by decide +kernel
theorem S_octet_Digit (n : Nat) (hn : n ≤ 15) : Call E0.P fn_octet_Digit [.imm (.int .i64 (n : Int))] [] (Is (.imm (.int .u8 ((digB n).toNat : Int))) []) := by
  have h := digs ⟨n, by omega⟩
  simp only at h
  refine F_octet_Digit_of _ _ (Let.intro (brB (orB _ _) (fun h => by omega) fun _ => brD (fun h1 => ?_) fun h1 => ?_))
  · rw [if_pos (by omega)] at h; rw [h]; exact ⟨rfl, rfl⟩
  · rw [if_neg (by omega)] at h; rw [h]; exact ⟨rfl, rfl⟩
theorem S_r01_Digit (n : Nat) (hn : n ≤ 15) : Call E0.P fn_r01_Digit [.imm (.int .i64 (n : Int))] [] (Is (.imm (.int .u8 ((digB n).toNat : Int))) []) := by
  refine F_r01_Digit_of _ _ (Let.intro (brB (orB _ _) (fun h => by omega) fun _ => ⟨⟨by omega, by omega⟩, ?_⟩))
  rw [Int.toNat_natCast]
  exact ⟨rfl, rfl⟩
theorem c_at (s : List UInt8) (i : Nat) (h : i < s.length) : s.getD (Int.toNat (i : Int)) 0 = s[i] := by simp [List.getD_eq_getElem?_getD, h]
theorem L_r01_in (s : List UInt8) (a : Int) (hs : s.length ≤ 1000000000) (Q : AV → Heap → Prop) (hq : Q (.imm (.bool (decide (∃ c ∈ s, (c.toNat : Int) = a)))) []) : ∀ (m i : Nat), m + i = s.length → (∀ c ∈ s.take i, (c.toNat : Int) ≠ a) → L_r01_in_2 s a i (K_r01_in_1 Q) := by
  intro m
  induction m with
  | zero =>
    intro i hi ha
    refine L_r01_in_2_of _ _ _ _ (brD (fun h => by omega) fun _ => ?_)
    rw [List.take_of_length_le (by omega)] at ha
    rw [decide_eq_false (fun ⟨c, hc, e⟩ => ha c hc e)] at hq
    exact K_r01_in_1_x1 _ (C_r01_in_9_of _ (K_r01_in_0_x0 _ _ hq))
  | succ m ih =>
    intro i hi ha
    have hlt : i < s.length := by omega
    refine L_r01_in_2_of _ _ _ _ (brD (fun _ => ⟨⟨by omega, by omega⟩, ?_⟩) fun h => by omega)
    rw [c_at s i hlt]
    refine brD (fun e => ?_) fun e => ?_
    · rw [decide_eq_true (⟨s[i], List.getElem_mem hlt, e⟩ : ∃ c ∈ s, (c.toNat : Int) = a)] at hq
      exact K_r01_in_1_x0 _ _ hq
    · rw [show IntKind.i64.wrap ((i : Int) + 1) = ((i + 1 : Nat) : Int) by rw [wrap_id _ (by omega) (by omega)]; simp]
      exact ih (i + 1) (by omega) (all_next (P := fun c : UInt8 => (c.toNat : Int) ≠ a) _ _ hlt ha e)
theorem S_r01_in (s : List UInt8) (a : Int) (hs : s.length ≤ 1000000000) : Call E0.P fn_r01_in [.imm (.str s), .imm (.int .u8 a)] [] (Is (.imm (.bool (decide (∃ c ∈ s, (c.toNat : Int) = a)))) []) :=
  F_r01_in_of _ _ _ (L_r01_in s a hs _ ⟨rfl, rfl⟩ s.length 0 rfl (by simp))
theorem S_r01_Kind (a : Int) : Call E0.P fn_r01_Kind [.imm (.int .u8 a)] [] (Is (.imm (.int .i64 (kindB a))) []) := by
  have fl : ∀ x y : Int, x = y ↔ y = x := fun x y => eq_comm
  refine F_r01_Kind_of _ _ (Call.use (S_r01_in _ a (by decide)) ⟨⟨rfl, rfl⟩, brB (p := a = 0 ∨ a = 9 ∨ a = 10 ∨ a = 12 ∨ a = 13 ∨ a = 32) ?_ (fun h => ?_) fun h => ?_⟩)
  · rw [rB_bool, decide_eq_true_iff]; simp [fl _ a]
  · rw [kindB, if_pos h]; exact ⟨rfl, rfl⟩
  · refine Call.use (S_r01_in _ a (by decide)) ⟨⟨rfl, rfl⟩, brB (p := a = 40 ∨ a = 41 ∨ a = 60 ∨ a = 62 ∨ a = 91 ∨ a = 93 ∨ a = 123 ∨ a = 125 ∨ a = 47 ∨ a = 37) ?_ (fun h' => ?_) fun h' => ?_⟩
    · rw [rB_bool, decide_eq_true_iff]; simp [fl _ a]
    · rw [kindB, if_neg h, if_pos h']; exact ⟨rfl, rfl⟩
    · rw [kindB, if_neg h, if_neg h']; exact ⟨rfl, rfl⟩
theorem c_lt (c : UInt8) : c.toNat < 256 := c.toNat_lt
theorem hi4 (c : UInt8) : IntKind.i64.wrap (((c.toNat : Nat) : Int).fdiv ((2 : Int) ^ (4 : Nat))) = ((c.toNat / 16 : Nat) : Int) := by
  have := c_lt c
  rw [Int.fdiv_eq_ediv_of_nonneg _ (by decide), wrap_id _ (by omega) (by omega)]; omega
theorem lo4a : ∀ n : Fin 256, IntKind.i64.wrap (IntKind.u8.wrap (↑(BitVec.ofInt 8 ((n : Nat) : Int) &&& BitVec.ofInt 8 (15 : Int)).toNat : Int)) = (((n : Nat) % 16 : Nat) : Int) := by decide +kernel
theorem lo4 (c : UInt8) : IntKind.i64.wrap (IntKind.u8.wrap (↑(BitVec.ofInt 8 ((c.toNat : Nat) : Int) &&& BitVec.ofInt 8 (15 : Int)).toNat : Int)) = ((c.toNat % 16 : Nat) : Int) := lo4a ⟨c.toNat, c_lt c⟩
theorem row1 (a : List UInt8) (c : UInt8) : byteRows a ++ [[IV.int .u8 (c.toNat : Int)]] = byteRows (a ++ [c]) := by simp [byteRows]
theorem rows0 : ([] : List (List IV)) = byteRows [] := rfl
theorem bl1 (a : List UInt8) : (byteRows a).length = a.length := by simp [byteRows]
theorem brow_ok (a : List UInt8) : ∀ r ∈ byteRows a, shOK [.int .u8] r = true := by
  intro r hr
  simp only [byteRows, List.mem_map] at hr
  obtain ⟨b, _, rfl⟩ := hr
  rfl
theorem unrow (a : List UInt8) : List.map (fun r => UInt8.ofNat (gI r 0).toNat) (byteRows a) = a := by
  induction a with
  | nil => rfl
  | cons b a ih =>
    have e : UInt8.ofNat (gI [IV.int .u8 (b.toNat : Int)] 0).toNat = b := by
      show UInt8.ofNat ((b.toNat : Int)).toNat = b
      simp
    have e2 : byteRows (b :: a) = [.int .u8 (b.toNat : Int)] :: byteRows a := rfl
    rw [e2, List.map_cons, e, ih]
theorem rI_dig (c : UInt8) : rI (.imm (.int .u8 (c.toNat : Int))) = (c.toNat : Int) := rfl
theorem drop_fm (f : UInt8 → List UInt8) (s : List UInt8) (i : Nat) (h : i < s.length) : (s.drop i).flatMap f = f s[i] ++ (s.drop (i + 1)).flatMap f := by
  rw [List.drop_eq_getElem_cons h]; rfl
theorem wr1 (i : Nat) (h : i ≤ 1000000000000) : IntKind.i64.wrap ((i : Int) + 1) = ((i + 1 : Nat) : Int) := by rw [wrap_id _ (by omega) (by omega)]; simp
abbrev bldH (l : List (List IV)) : Heap := [(Nm.loc 3, .blk ty_strings_Builder [.self (Nm.loc 3), .own ((Nm.loc 3).cell 1)]), ((Nm.loc 3).cell 1, .arr (ty_uint8 + 2) true 1 l)]
theorem L_hexa (s : List UInt8) (hs : s.length ≤ 1000000000) (K : Ex → St → Prop) : ∀ (m i : Nat) (acc : List UInt8), m + i = s.length → acc.length ≤ 2 * i → K (.exit 0) ⟨[(3, .ptr (Nm.loc 3) 0)], bldH (byteRows (acc ++ (s.drop i).flatMap hexB))⟩ →
    L_hexa_Encode_3 s s.length i (byteRows acc) K := by
  intro m
  induction m with
  | zero =>
    intro i acc hi ha hE
    refine L_hexa_Encode_3_of _ _ _ _ _ (brD (fun h => by omega) fun _ => ?_)
    rw [List.drop_of_length_le (by omega)] at hE
    simpa using hE
  | succ m ih =>
    intro i acc hi ha hE
    have hlt : i < s.length := by omega
    have hc := c_lt s[i]
    refine L_hexa_Encode_3_of _ _ _ _ _ (brD (fun _ => ?_) fun h => by omega)
    rw [c_at s i hlt, hi4, lo4, wr1 i (by omega)]
    refine ⟨⟨by omega, by omega⟩, ⟨by decide, Call.use (S_octet_Digit _ (by omega)) ⟨⟨rfl, rfl⟩, ?_⟩⟩⟩
    rw [rI_dig, row1, bl1, bl1]
    refine ⟨⟨by omega, by omega⟩, ⟨⟨by omega, by omega⟩, Call.use (S_octet_Digit _ (by omega)) ⟨⟨rfl, rfl⟩, ?_⟩⟩⟩
    rw [rI_dig, row1]
    refine ⟨by simp; omega, ih (i + 1) _ (by omega) (by simp; omega) ?_⟩
    rw [drop_fm hexB s i hlt] at hE
    simpa [hexB] using hE
theorem S_hexa (s : List UInt8) (hs : s.length ≤ 1000000000) : Call E0.P fn_hexa_Encode [.imm (.str s)] [] (Is (.imm (.str (hexW s))) []) := by
  refine F_hexa_Encode_of _ _ ?_
  rw [rows0]
  have hl : (s.flatMap hexB).length = 2 * s.length := by
    clear hs
    induction s with
    | nil => rfl
    | cons c s ih => rw [List.flatMap_cons, List.length_append, ih]; simp [hexB]; omega
  refine L_hexa s hs _ s.length 0 [] rfl (by simp) ?_
  rw [List.drop_zero, List.nil_append]
  refine K_hexa_Encode_1_x0 _ _ (C_hexa_Encode_10_of _ _ ?_)
  rw [show ([IV.int .u8 (62 : Int)] : List IV) = [IV.int .u8 (((62 : UInt8).toNat : Nat) : Int)] from rfl, row1, bl1, bl1, unrow]
  exact ⟨⟨by rw [hl]; omega, by rw [hl]; omega⟩, ⟨⟨⟨rfl, by rw [List.length_append, hl]; simp; omega⟩, brow_ok _⟩, K_hexa_Encode_0_x0 _ _ ⟨rfl, rfl⟩⟩⟩
theorem L_r06 (s : List UInt8) (hs : s.length ≤ 1000000000) (K : Ex → St → Prop) : ∀ (m i : Nat) (acc : List UInt8), m + i = s.length → acc.length ≤ 2 * i → K (.exit 0) ⟨[(3, .own (Nm.loc 5))], [(Nm.loc 5, .arr 0 true 1 (byteRows (acc ++ (s.drop i).flatMap hexB)))]⟩ →
    L_r06_Encode_3 s i (byteRows acc) K := by
  intro m
  induction m with
  | zero =>
    intro i acc hi ha hE
    refine L_r06_Encode_3_of _ _ _ _ (brD (fun h => by omega) fun _ => ?_)
    rw [List.drop_of_length_le (by omega)] at hE
    simpa using hE
  | succ m ih =>
    intro i acc hi ha hE
    have hlt : i < s.length := by omega
    have hc := c_lt s[i]
    refine L_r06_Encode_3_of _ _ _ _ (brD (fun _ => ?_) fun h => by omega)
    rw [c_at s i hlt, wr1 i (by omega)]
    have w0 : IntKind.i64.wrap ((s[i].toNat : Nat) : Int) = (s[i].toNat : Int) := wrap_id _ (by omega) (by omega)
    have e1 : IntKind.i64.wrap ((IntKind.i64.wrap ((s[i].toNat : Nat) : Int)).tdiv 16) = ((s[i].toNat / 16 : Nat) : Int) := by
      rw [w0, Int.tdiv_eq_ediv_of_nonneg (by omega), wrap_id _ (by omega) (by omega)]; omega
    have e2 : (IntKind.i64.wrap ((s[i].toNat : Nat) : Int)).tmod 16 = ((s[i].toNat % 16 : Nat) : Int) := by
      rw [w0, Int.tmod_eq_emod_of_nonneg (by omega)]; omega
    rw [e1, e2]
    refine ⟨⟨by omega, by omega⟩, ⟨by decide, ⟨⟨by omega, by omega⟩, ⟨by decide, Call.use (S_r01_Digit _ (by omega)) ⟨⟨rfl, rfl⟩, Call.use (S_r01_Digit _ (by omega)) ⟨⟨rfl, rfl⟩, ?_⟩⟩⟩⟩⟩⟩
    rw [rI_dig, rI_dig, bl1]
    refine ⟨⟨by omega, by omega⟩, ?_⟩
    have e3 : byteRows acc ++ [[IV.int .u8 ((digB (s[i].toNat / 16)).toNat : Int)], [IV.int .u8 ((digB (s[i].toNat % 16)).toNat : Int)]] = byteRows (acc ++ hexB s[i]) := by simp [byteRows, hexB]
    rw [e3]
    refine ih (i + 1) _ (by omega) (by simp [hexB]; omega) ?_
    rw [drop_fm hexB s i hlt] at hE
    simpa using hE
theorem S_r06 (s : List UInt8) (hs : s.length ≤ 1000000000) : Call E0.P fn_r06_Encode [.imm (.str s)] [] (Is (.imm (.str (hexW s))) []) := by
  refine F_r06_Encode_of _ _ ?_
  rw [rows0]
  have hl : (s.flatMap hexB).length = 2 * s.length := by
    clear hs
    induction s with
    | nil => rfl
    | cons c s ih => rw [List.flatMap_cons, List.length_append, ih]; simp [hexB]; omega
  refine L_r06 s hs _ s.length 0 [] rfl (by simp) ?_
  rw [List.drop_zero, List.nil_append]
  refine K_r06_Encode_1_x0 _ _ (C_r06_Encode_8_of _ _ ?_)
  rw [show ([IV.int .u8 (62 : Int)] : List IV) = [IV.int .u8 (((62 : UInt8).toNat : Nat) : Int)] from rfl, row1, bl1, unrow]
  exact ⟨⟨by rw [hl]; omega, by rw [hl]; omega⟩, ⟨brow_ok _, K_r06_Encode_0_x0 _ _ ⟨rfl, rfl⟩⟩⟩
end Go.Proofs.Sim.Se

set_option linter.unusedVariables false
set_option linter.unusedSimpArgs false
set_option maxRecDepth 100000
namespace Go.Proofs.Sim.Se
open Go Go.Proofs Go.Proofs.Sim Go.Proofs.Sim.Va Go.RowKit

theorem seen_iff (c : UInt8) : seenB c = true ↔ 32 ≤ c.toNat ∧ c.toNat ≤ 126 := by simp [seenB]
theorem bare_iff (c : UInt8) : bareB c = true ↔ 32 ≤ c.toNat ∧ c.toNat ≤ 126 ∧ kindB (c.toNat : Int) = 2 ∧ c.toNat ≠ 35 := by simp [bareB]
theorem S_seen (c : UInt8) : Call E0.P fn_write_seen [.imm (.int .u8 (c.toNat : Int))] [] (Is (.imm (.bool (seenB c))) []) := by
  refine F_write_seen_of _ _ (Let.intro ?_)
  have : (bif decide ((32 : Int) ≤ (c.toNat : Int)) then decide ((c.toNat : Int) ≤ 126) else false) = seenB c := by
    rw [Bool.eq_iff_iff, seen_iff, cond_eq_ite]
    split
    · rename_i h
      have h := of_decide_eq_true h
      rw [decide_eq_true_iff]; omega
    · rename_i h
      have h : ¬ (32 : Int) ≤ (c.toNat : Int) := fun h' => h (decide_eq_true h')
      constructor
      · intro h'; cases h'
      · intro h'; omega
  rw [this]; exact ⟨rfl, rfl⟩
theorem nameB_len (c : UInt8) : (nameB c).length ≤ 3 := by unfold nameB; split <;> simp [hexB]
theorem escB_len (c : UInt8) : (escB c).length ≤ 2 := by unfold escB; split <;> simp
theorem fm_len (f : UInt8 → List UInt8) (k : Nat) (h : ∀ c, (f c).length ≤ k) (s : List UInt8) : (s.flatMap f).length ≤ k * s.length := by
  induction s with
  | nil => simp
  | cons c s ih =>
    have := h c
    rw [List.flatMap_cons, List.length_append, List.length_cons, Nat.mul_succ]; omega
theorem N_next (s : List UInt8) (hs : s.length ≤ 1000000000) (K : Ex → St → Prop) (i : Nat) (hi : i < s.length) (acc : List UInt8) (h : L_write_Name_4 s s.length ((i + 1 : Nat) : Int) (byteRows acc) K) : C_write_Name_16 s s.length i (byteRows acc) (K_write_Name_2 K) := by
  refine C_write_Name_16_of _ _ _ _ _ ?_
  rw [wr1 i (by omega)]
  exact K_write_Name_2_x0 _ _ _ _ _ h
theorem N_10 (s : List UInt8) (hs : s.length ≤ 1000000000) (K : Ex → St → Prop) (i : Nat) (hi : i < s.length) (acc : List UInt8) (ha : acc.length ≤ 3 * i + 1) (b : Bool) (hb : b = bareB s[i])
    (h : L_write_Name_4 s s.length ((i + 1 : Nat) : Int) (byteRows (acc ++ nameB s[i])) K) : C_write_Name_10 s (s[i].toNat : Int) s.length i b (byteRows acc) (K_write_Name_4 K) := by
  have hc := c_lt s[i]
  have h35 : ([IV.int .u8 (35 : Int)] : List IV) = [IV.int .u8 (((35 : UInt8).toNat : Nat) : Int)] := rfl
  refine C_write_Name_10_of _ _ _ _ _ _ _ ⟨fun e => ?_, fun e => ?_⟩
  · rw [nameB, ← hb, if_pos e] at h
    rw [bl1, row1]
    exact ⟨⟨by omega, by omega⟩, K_write_Name_4_x0 _ _ _ _ _ (N_next s hs K i hi _ h)⟩
  · rw [nameB, ← hb, if_neg (by rw [e]; decide)] at h
    refine K_write_Name_4_x1 _ _ _ _ _ _ (C_write_Name_13_of _ _ _ _ _ _ ?_)
    rw [hi4, lo4, h35, row1, bl1, bl1]
    refine ⟨⟨by omega, by omega⟩, ⟨by decide, Call.use (S_octet_Digit _ (by omega)) ⟨⟨rfl, rfl⟩, ?_⟩⟩⟩
    rw [rI_dig, row1, bl1]
    refine ⟨by simp; omega, Call.use (S_octet_Digit _ (by omega)) ⟨⟨rfl, rfl⟩, ⟨by simp; omega, ?_⟩⟩⟩
    rw [rI_dig, row1]
    refine K_write_Name_3_x0 _ _ _ _ _ (N_next s hs K i hi _ ?_)
    simpa [hexB] using h
theorem L_wname (s : List UInt8) (hs : s.length ≤ 1000000000) (K : Ex → St → Prop) : ∀ (m i : Nat) (acc : List UInt8), m + i = s.length → acc.length ≤ 3 * i + 1 → K (.exit 0) ⟨[(3, .ptr (Nm.loc 3) 0)], bldH (byteRows (acc ++ (s.drop i).flatMap nameB))⟩ →
    L_write_Name_4 s s.length i (byteRows acc) K := by
  intro m
  induction m with
  | zero =>
    intro i acc hi ha hE
    refine L_write_Name_4_of _ _ _ _ _ (brD (fun h => by omega) fun _ => ?_)
    rw [List.drop_of_length_le (by omega)] at hE
    simpa using hE
  | succ m ih =>
    intro i acc hi ha hE
    have hlt : i < s.length := by omega
    refine L_write_Name_4_of _ _ _ _ _ (brD (fun _ => ?_) fun h => by omega)
    rw [c_at s i hlt]
    have hn : L_write_Name_4 s s.length ((i + 1 : Nat) : Int) (byteRows (acc ++ nameB s[i])) K := by
      have := nameB_len s[i]
      refine ih (i + 1) _ (by omega) (by simp; omega) ?_
      rw [drop_fm nameB s i hlt] at hE
      simpa using hE
    refine ⟨⟨by omega, by omega⟩, Call.use (S_seen s[i]) ⟨⟨rfl, rfl⟩, ?_⟩⟩
    rw [rB_bool]
    refine ⟨fun h => ?_, fun h => ⟨rfl, Let.intro (Let.intro ?_)⟩⟩
    · have h1 := (seen_iff _).1 (eq_of_beq h)
      refine Call.use (S_octet_Kind _) ⟨⟨rfl, rfl⟩, Let.intro (Let.intro (N_10 s hs K i hlt acc ha _ ?_ hn))⟩
      rw [rI_int, Bool.eq_iff_iff, bare_iff, cond_eq_ite]
      split
      · rename_i h2
        have h2 := of_decide_eq_true h2
        simp [h1, h2]; omega
      · rename_i h2
        constructor
        · intro h3; cases h3
        · intro h3; exact absurd (decide_eq_true h3.2.2.1) h2
    · refine N_10 s hs K i hlt acc ha _ ?_ hn
      rw [Bool.eq_iff_iff, bare_iff]
      constructor
      · intro h3; cases h3
      · intro h3
        have : seenB s[i] = true := (seen_iff _).2 ⟨h3.1, h3.2.1⟩
        rw [this] at h; cases h
theorem S_write_Name (s : List UInt8) (hs : s.length ≤ 1000000000) : Call E0.P fn_write_Name [.imm (.str s)] [] (Is (.imm (.str (nameW s))) []) := by
  have hl := fm_len nameB 3 nameB_len s
  refine F_write_Name_of _ _ ⟨⟨by decide, by decide⟩, ?_⟩
  refine L_wname s hs _ s.length 0 [47] rfl (by simp) ?_
  rw [List.drop_zero]
  refine K_write_Name_1_x0 _ _ (C_write_Name_17_of _ _ ?_)
  rw [unrow, bl1]
  exact ⟨⟨⟨rfl, by simp only [List.length_append, List.length_cons, List.length_nil]; omega⟩, brow_ok _⟩, K_write_Name_0_x0 _ _ ⟨rfl, rfl⟩⟩
theorem hex_len (s : List UInt8) : (hexW s).length = 2 * s.length + 1 := by
  have : (s.flatMap hexB).length = 2 * s.length := by
    induction s with
    | nil => rfl
    | cons c s ih => rw [List.flatMap_cons, List.length_append, ih]; simp [hexB]; omega
  rw [hexW, List.length_append, this]; rfl
theorem not_all (s : List UInt8) (i : Nat) (h : i < s.length) (hc : seenB s[i] = false) : s.all seenB = false := by
  rw [Bool.eq_false_iff]
  intro ha
  rw [List.all_eq_true] at ha
  have := ha s[i] (List.getElem_mem h)
  rw [hc] at this; cases this
theorem orB2 (b : Bool) (p : Prop) {i : Decidable p} : ((bif b then true else @decide p i) = true) ↔ (b = true ∨ p) := by cases b <;> simp
theorem esc_iff (c : UInt8) : ((bif (bif decide ((c.toNat : Int) = 40) then true else decide ((c.toNat : Int) = 41)) then true else decide ((c.toNat : Int) = 92)) = true) ↔ (c = 40 ∨ c = 41 ∨ c = 92) := by
  have e : ∀ n : UInt8, c = n ↔ c.toNat = n.toNat := fun n => ⟨fun h => h ▸ rfl, UInt8.toNat_inj.1⟩
  rw [orB2, orB, e, e, e]
  show _ ↔ (c.toNat = 40 ∨ c.toNat = 41 ∨ c.toNat = 92)
  omega
theorem L_wbytes (s : List UInt8) (hs : s.length ≤ 1000000000) (Q : AV → Heap → Prop) (hQ : Q (.imm (.str (textW s))) []) : ∀ (m i : Nat) (acc : List UInt8), m + i = s.length → acc.length ≤ 2 * i + 1 → (∀ c ∈ s.take i, seenB c = true) → acc ++ (s.drop i).flatMap escB = 40 :: s.flatMap escB →
    L_write_Bytes_4 s s.length i (byteRows acc) (K_write_Bytes_1 Q) := by
  intro m
  induction m with
  | zero =>
    intro i acc hi ha hall hE
    refine L_write_Bytes_4_of _ _ _ _ _ (brD (fun h => by omega) fun _ => ?_)
    rw [List.drop_of_length_le (by omega)] at hE
    rw [List.take_of_length_le (by omega)] at hall
    have hl := fm_len escB 2 escB_len s
    have hE : acc = 40 :: s.flatMap escB := by simpa using hE
    rw [textW, if_pos (List.all_eq_true.2 hall), ← hE] at hQ
    refine K_write_Bytes_1_x1 _ _ (C_write_Bytes_16_of _ _ ?_)
    rw [show ([IV.int .u8 (41 : Int)] : List IV) = [IV.int .u8 (((41 : UInt8).toNat : Nat) : Int)] from rfl, row1, bl1, bl1, unrow]
    exact ⟨⟨by omega, by omega⟩, ⟨⟨⟨rfl, by simp; omega⟩, brow_ok _⟩, K_write_Bytes_0_x0 _ _ hQ⟩⟩
  | succ m ih =>
    intro i acc hi ha hall hE
    have hlt : i < s.length := by omega
    refine L_write_Bytes_4_of _ _ _ _ _ (brD (fun _ => ?_) fun h => by omega)
    rw [c_at s i hlt, wr1 i (by omega)]
    refine ⟨⟨by omega, by omega⟩, Call.use (S_seen s[i]) ⟨⟨rfl, rfl⟩, ?_⟩⟩
    rw [rB_bool]
    refine ⟨fun h => ?_, fun h => ?_⟩
    · have h : seenB s[i] = false := by simpa using h
      rw [textW, if_neg (by rw [not_all s i hlt h]; decide)] at hQ
      have := hex_len s
      refine Call.use (S_hexa s hs) ⟨⟨rfl, rfl⟩, ⟨?_, K_write_Bytes_1_x0 _ _ hQ⟩⟩
      show (((1 + (hexW s).length : Nat) : Int)) ≤ _
      omega
    · have h : seenB s[i] = true := by simpa using h
      have hall' := all_next (P := fun c : UInt8 => seenB c = true) _ _ hlt hall h
      rw [drop_fm escB s i hlt] at hE
      have hel := escB_len s[i]
      have hn : L_write_Bytes_4 s s.length ((i + 1 : Nat) : Int) (byteRows (acc ++ escB s[i])) (K_write_Bytes_1 Q) := ih (i + 1) _ (by omega) (by simp; omega) hall' (by rw [List.append_assoc]; exact hE)
      refine Let.intro (Let.intro (brB (esc_iff _) (fun e => ?_) fun e => ?_))
      · rw [escB, if_pos e] at hn
        rw [show ([IV.int .u8 (92 : Int)] : List IV) = [IV.int .u8 (((92 : UInt8).toNat : Nat) : Int)] from rfl, row1, bl1, bl1, row1]
        refine ⟨⟨by omega, by omega⟩, ⟨by simp; omega, ?_⟩⟩
        simpa using hn
      · rw [escB, if_neg e] at hn
        rw [row1, bl1]
        exact ⟨⟨by omega, by omega⟩, hn⟩
theorem S_write_Bytes (s : List UInt8) (hs : s.length ≤ 1000000000) : Call E0.P fn_write_Bytes [.imm (.str s)] [] (Is (.imm (.str (textW s))) []) :=
  F_write_Bytes_of _ _ ⟨⟨by decide, by decide⟩, L_wbytes s hs _ ⟨rfl, rfl⟩ s.length 0 [40] rfl (by simp) (by simp) (by simp)⟩
theorem cut1 (s : List UInt8) (i : Nat) (h : i < s.length) : List.drop i (List.take (i + 1) s) = [s[i]] := by
  rw [List.take_add_one, List.drop_append, List.drop_of_length_le (by rw [List.length_take]; omega), List.length_take, Nat.min_eq_left (by omega), Nat.sub_self]
  simp [h]
theorem RN_10 (s : List UInt8) (hs : s.length ≤ 1000000000) (K : Ex → St → Prop) (i : Nat) (hi : i < s.length) (acc : List UInt8) (ha : acc.length ≤ 3 * i + 1) (b : Bool) (hb : b = bareB s[i])
    (h : L_r17_Name_3 s (acc ++ nameB s[i]) ((i + 1 : Nat) : Int) K) : C_r17_Name_8 s acc i b (K_r17_Name_3 K) := by
  have hc := c_lt s[i]
  have fin : ∀ acc', L_r17_Name_3 s acc' ((i + 1 : Nat) : Int) K → K_r17_Name_3 K .normal ⟨[(0, .imm (.str s)), (3, .imm (.str acc')), (4, .imm (.int .i64 i))], []⟩ := by
    intro acc' h
    refine K_r17_Name_3_x0 _ _ _ _ (C_r17_Name_10_of _ _ _ _ ?_)
    rw [wr1 i (by omega)]
    exact K_r17_Name_2_x0 _ _ _ _ h
  refine C_r17_Name_8_of _ _ _ _ _ ?_
  rw [wr1 i (by omega), Int.toNat_natCast, Int.toNat_natCast, cut1 s i hi]
  have e2 : List.take 2 (hexW [s[i]]) = hexB s[i] := by simp [hexW, hexB]
  refine ⟨fun e => ⟨⟨by omega, by omega, by omega⟩, Let.intro ⟨by simp; omega, fin _ ?_⟩⟩, fun e => ⟨⟨by omega, by omega, by omega⟩, Let.intro (Call.use (S_r06 [s[i]] (by simp)) ⟨⟨rfl, rfl⟩, ⟨by omega, ?_⟩⟩)⟩⟩
  · rw [nameB, ← hb, if_pos e] at h; exact h
  · rw [nameB, ← hb, if_neg (by rw [e]; decide)] at h
    rw [show rS (AV.imm (IV.str (hexW [s[i]]))) = hexW [s[i]] from rfl, e2, hex_len]
    refine ⟨⟨by decide, by simp⟩, Let.intro ⟨by simp [hexB]; omega, fin _ ?_⟩⟩
    simpa using h
theorem L_rname (s : List UInt8) (hs : s.length ≤ 1000000000) (K : Ex → St → Prop) : ∀ (m i : Nat) (acc : List UInt8), m + i = s.length → acc.length ≤ 3 * i + 1 → K (.exit 0) ⟨[(3, .imm (.str (acc ++ (s.drop i).flatMap nameB)))], []⟩ →
    L_r17_Name_3 s acc i K := by
  intro m
  induction m with
  | zero =>
    intro i acc hi ha hE
    refine L_r17_Name_3_of _ _ _ _ (brD (fun h => by omega) fun _ => ?_)
    rw [List.drop_of_length_le (by omega)] at hE
    simpa using hE
  | succ m ih =>
    intro i acc hi ha hE
    have hlt : i < s.length := by omega
    refine L_r17_Name_3_of _ _ _ _ (brD (fun _ => ?_) fun h => by omega)
    rw [c_at s i hlt]
    have hn : L_r17_Name_3 s (acc ++ nameB s[i]) ((i + 1 : Nat) : Int) K := by
      have := nameB_len s[i]
      refine ih (i + 1) _ (by omega) (by simp; omega) ?_
      rw [drop_fm nameB s i hlt] at hE
      simpa using hE
    refine ⟨⟨by omega, by omega⟩, Let.intro ⟨fun h => ?_, fun h => ⟨rfl, Let.intro (Let.intro ?_)⟩⟩⟩
    · have h1 : 33 ≤ s[i].toNat ∧ s[i].toNat ≤ 126 := by
        have h := eq_of_beq h
        rw [cond_eq_ite] at h
        split at h
        · rename_i h2
          have h2 := of_decide_eq_true h2
          have h := of_decide_eq_true h
          omega
        · cases h
      refine Call.use (S_r01_Kind _) ⟨⟨rfl, rfl⟩, Let.intro (Let.intro (RN_10 s hs K i hlt acc ha _ ?_ hn))⟩
      rw [rI_int, Bool.eq_iff_iff, bare_iff, cond_eq_ite]
      split
      · rename_i h2
        have h2 := of_decide_eq_true h2
        simp [h1, h2]; omega
      · rename_i h2
        constructor
        · intro h3; cases h3
        · intro h3; exact absurd (decide_eq_true h3.2.2.1) h2
    · refine RN_10 s hs K i hlt acc ha _ ?_ hn
      rw [Bool.eq_iff_iff, bare_iff]
      constructor
      · intro h3; cases h3
      · intro h3
        exfalso
        have h4 : ¬ (s[i].toNat = 32) := fun e => by
          have := h3.2.2.1
          rw [e] at this
          revert this; decide
        have e1 : decide ((33 : Int) ≤ (s[i].toNat : Int)) = true := decide_eq_true (by omega)
        have e2 : decide ((s[i].toNat : Int) ≤ 126) = true := decide_eq_true (by omega)
        rw [e1, e2] at h; cases h
theorem S_r17_Name (s : List UInt8) (hs : s.length ≤ 1000000000) : Call E0.P fn_r17_Name [.imm (.str s)] [] (Is (.imm (.str (nameW s))) []) := by
  refine F_r17_Name_of _ _ (L_rname s hs _ s.length 0 [47] rfl (by simp) ?_)
  rw [List.drop_zero]
  exact K_r17_Name_1_x0 _ _ (C_r17_Name_11_of _ _ (K_r17_Name_0_x0 _ _ ⟨rfl, rfl⟩))
theorem L_rbytes (s : List UInt8) (hs : s.length ≤ 1000000000) (Q : AV → Heap → Prop) (hQ : Q (.imm (.str (textW s))) []) : ∀ (m i : Nat) (acc : List UInt8), m + i = s.length → acc.length ≤ 2 * i + 1 → (∀ c ∈ s.take i, seenB c = true) → acc ++ (s.drop i).flatMap escB = 40 :: s.flatMap escB →
    L_r17_Bytes_3 s acc i (K_r17_Bytes_1 Q) := by
  intro m
  induction m with
  | zero =>
    intro i acc hi ha hall hE
    refine L_r17_Bytes_3_of _ _ _ _ (brD (fun h => by omega) fun _ => ?_)
    rw [List.drop_of_length_le (by omega)] at hE
    rw [List.take_of_length_le (by omega)] at hall
    have hE : acc = 40 :: s.flatMap escB := by simpa using hE
    rw [textW, if_pos (List.all_eq_true.2 hall), ← hE] at hQ
    exact K_r17_Bytes_1_x1 _ _ (C_r17_Bytes_13_of _ _ ⟨by omega, K_r17_Bytes_0_x0 _ _ hQ⟩)
  | succ m ih =>
    intro i acc hi ha hall hE
    have hlt : i < s.length := by omega
    have hc := c_lt s[i]
    refine L_r17_Bytes_3_of _ _ _ _ (brD (fun _ => ?_) fun h => by omega)
    rw [c_at s i hlt]
    refine ⟨⟨by omega, by omega⟩, ⟨fun _ => ⟨by omega, by omega⟩, Let.intro (brB (orB _ _) (fun h => ?_) fun h => ?_)⟩⟩
    · have h : seenB s[i] = false := by
        rw [Bool.eq_false_iff]; intro h'
        have := (seen_iff _).1 h'
        omega
      rw [textW, if_neg (by rw [not_all s i hlt h]; decide)] at hQ
      have := hex_len s
      refine Call.use (S_r06 s hs) ⟨⟨rfl, rfl⟩, ⟨?_, K_r17_Bytes_1_x0 _ _ hQ⟩⟩
      show (((1 + (hexW s).length : Nat) : Int)) ≤ _
      omega
    · have h : seenB s[i] = true := (seen_iff _).2 (by omega)
      have hall' := all_next (P := fun c : UInt8 => seenB c = true) _ _ hlt hall h
      rw [drop_fm escB s i hlt] at hE
      have hel := escB_len s[i]
      have hn : L_r17_Bytes_3 s (acc ++ escB s[i]) ((i + 1 : Nat) : Int) (K_r17_Bytes_1 Q) := ih (i + 1) _ (by omega) (by simp; omega) hall' (by rw [List.append_assoc]; exact hE)
      have fin : ∀ acc' : List UInt8, acc'.length ≤ 2 * i + 2 → L_r17_Bytes_3 s (acc' ++ [s[i]]) ((i + 1 : Nat) : Int) (K_r17_Bytes_1 Q) → C_r17_Bytes_11 s acc' i (K_r17_Bytes_3 (K_r17_Bytes_1 Q)) := by
        intro acc' hl' h'
        refine C_r17_Bytes_11_of _ _ _ _ ?_
        rw [wr1 i (by omega), Int.toNat_natCast, Int.toNat_natCast, cut1 s i hlt]
        refine ⟨⟨by omega, by omega, by omega⟩, Let.intro ⟨by simp; omega, K_r17_Bytes_3_x0 _ _ _ _ (C_r17_Bytes_12_of _ _ _ _ ?_)⟩⟩
        rw [wr1 i (by omega)]
        exact K_r17_Bytes_2_x0 _ _ _ _ h'
      refine ⟨⟨by omega, by omega⟩, ⟨fun _ => ⟨by omega, by omega⟩, Let.intro ⟨fun _ => ⟨by omega, by omega⟩, Let.intro (brB (esc_iff _) (fun e => ?_) fun e => ?_)⟩⟩⟩
      · rw [escB, if_pos e] at hn
        exact ⟨by omega, fin _ (by simp; omega) (by simpa using hn)⟩
      · rw [escB, if_neg e] at hn
        exact fin _ (by omega) hn
theorem S_r17_Bytes (s : List UInt8) (hs : s.length ≤ 1000000000) : Call E0.P fn_r17_Bytes [.imm (.str s)] [] (Is (.imm (.str (textW s))) []) :=
  F_r17_Bytes_of _ _ (L_rbytes s hs _ ⟨rfl, rfl⟩ s.length 0 [40] rfl (by simp) (by simp) (by simp))
end Go.Proofs.Sim.Se

set_option linter.unusedVariables false
set_option linter.unusedSimpArgs false
set_option maxRecDepth 100000
namespace Go.Proofs.Sim.Se
open Go Go.Proofs Go.Proofs.Sim Go.Proofs.Sim.Va Go.RowKit

abbrev rowX (v : V) : List IV := [.int .i64 v.k, .int .i64 v.n, .int .i64 v.g, .str v.s, .sl .any 6 (v.l.map V.row), .sl .any 7 (v.d.map pRow)]
theorem andB2 (p q : Prop) {i : Decidable p} {j : Decidable q} : ((bif @decide p i then @decide q j else false) = true) ↔ (p ∧ q) := by by_cases p <;> by_cases q <;> simp_all
theorem brNF {b : Bool} {p : Prop} {A B : Prop} (hb : b = true ↔ p) (h1 : ¬ p → A) (h2 : p → B) : Br (b == false) A B := by
  cases b with
  | true => exact ⟨fun h => absurd h (by decide), fun _ => h2 (hb.1 rfl)⟩
  | false => exact ⟨fun _ => h1 (fun hp => by cases hb.2 hp), fun h => absurd h (by decide)⟩
theorem brTT {A B : Prop} (h : A) : Br true A B := ⟨fun _ => h, fun h => absurd h (by decide)⟩
theorem brDead {A B : Prop} (h : B) : Br (true == false) A B := ⟨fun h => absurd h (by decide), fun _ => h⟩
theorem dec_iff {p : Prop} {i : Decidable p} : (@decide p i = true) ↔ p := decide_eq_true_iff
theorem S_strings_IndexByte (s : List UInt8) : Call E0.P fn_strings_IndexByte [.imm (.str s), .imm (.int .u8 0)] [] (Is (.imm (.int .i64 (Lib.indexByte s 0))) []) := by
  refine call_of_contract Tryd.func117 (by kernel_rfl) (by kernel_rfl) [.str s, .int .u8 0] _ fun g w vs hv hs => ?_
  obtain ⟨v, u, rfl, hr, hu⟩ := reps2 hv
  obtain rfl := repI_str hr
  obtain rfl := repI_int hu
  refine (Tryd.strings_IndexByte ⟨s.toArray⟩ 0 w).mono ?_
  rintro e w' ⟨rfl, rfl⟩
  exact ⟨_, .imm (.int .i64 (Lib.indexByte s 0)), rfl, Below.refl _ _, .imm _ _ (.int _ _), rfl, rfl⟩
theorem S_nul (s : List UInt8) : Call E0.P fn_value_nul [.imm (.str s)] [] (Is (.imm (.bool (decide ((0 : UInt8) ∈ s)))) []) := by
  refine F_value_nul_of _ _ (Call.use (S_strings_IndexByte s) ⟨⟨rfl, rfl⟩, ?_⟩)
  have : decide ((0 : Int) ≤ Lib.indexByte s 0) = decide ((0 : UInt8) ∈ s) := by
    rw [← Lib.contains_iff_indexByte]; simp
  rw [rI_int, this]
  exact ⟨rfl, rfl⟩
theorem S_foreign (v : V) : Call E0.P fn_value_foreign [.imm (.agg (rowX v)), .imm (.agg [.bool (hN v.k), .bool (hG v.k), .bool (hS v.k), .bool (hL v.k), .bool (hD v.k)])] [] (Is (.imm (.bool (decide (extraV v)))) []) := by
  have hk : ∀ (p : Prop) [Decidable p], (!decide p) = true ↔ ¬ p := fun p _ => by simp
  have i0 : ((bif !hN v.k then !decide (v.n = 0) else false) = true) ↔ (v.n ≠ 0 ∧ ¬ (v.k = 1 ∨ v.k = 2 ∨ v.k = 7)) := by
    rw [hN]; by_cases a : v.k = 1 ∨ v.k = 2 ∨ v.k = 7 <;> simp [a]
  have i1 : ((bif !hG v.k then !decide (v.g = 0) else false) = true) ↔ (v.g ≠ 0 ∧ v.k ≠ 7) := by
    rw [hG]; by_cases a : v.k = 7 <;> simp [a]
  have i2 : ((bif !hS v.k then !v.s == [] else false) = true) ↔ (v.s ≠ [] ∧ ¬ (v.k = 3 ∨ v.k = 4 ∨ v.k = 8)) := by
    rw [hS]; by_cases a : v.k = 3 ∨ v.k = 4 ∨ v.k = 8 <;> simp [a]
  have i3 : ((bif !hL v.k then decide ((0 : Int) < ((v.l.map V.row).length : Int)) else false) = true) ↔ (0 < v.l.length ∧ v.k ≠ 5) := by
    rw [hL, List.length_map]; by_cases a : v.k = 5 <;> simp [a]
  have i4 : ((bif !hD v.k then decide ((0 : Int) < ((v.d.map pRow).length : Int)) else false) = true) ↔ (0 < v.d.length ∧ ¬ (v.k = 6 ∨ v.k = 8)) := by
    rw [hD, List.length_map]; by_cases a : v.k = 6 ∨ v.k = 8 <;> simp [a]
  have yes : extraV v → Is (.imm (.bool (decide (extraV v)))) [] (.imm (.bool true)) [] := fun h => by rw [decide_eq_true h]; exact ⟨rfl, rfl⟩
  refine F_value_foreign_of _ _ _ _ _ _ _ _ _ _ _ _ (Let.intro (brNF i0 (fun n0 => ?_) fun y => ⟨rfl, Let.intro (brDead ⟨rfl, Let.intro (brDead ⟨rfl, Let.intro (brDead ⟨rfl, Let.intro (yes (.inl y))⟩)⟩)⟩)⟩))
  refine Let.intro (Let.intro (brNF i1 (fun n1 => ?_) fun y => ⟨rfl, Let.intro (brDead ⟨rfl, Let.intro (brDead ⟨rfl, Let.intro (yes (.inr (.inl y)))⟩)⟩)⟩))
  refine Let.intro (Let.intro (brNF i2 (fun n2 => ?_) fun y => ⟨rfl, Let.intro (brDead ⟨rfl, Let.intro (yes (.inr (.inr (.inl y))))⟩)⟩))
  refine Let.intro (Let.intro (brNF i3 (fun n3 => ?_) fun y => ⟨rfl, Let.intro (yes (.inr (.inr (.inr (.inl y)))))⟩))
  refine Let.intro (Let.intro ?_)
  have : (bif !hD v.k then decide ((0 : Int) < ((v.d.map pRow).length : Int)) else false) = decide (extraV v) := by
    rw [Bool.eq_iff_iff, i4, dec_iff, extraV]
    exact ⟨fun h => .inr (.inr (.inr (.inr h))), fun h => by
      rcases h with h | h | h | h | h
      · exact absurd h n0
      · exact absurd h n1
      · exact absurd h n2
      · exact absurd h n3
      · exact h⟩
  rw [this]
  exact ⟨rfl, rfl⟩
theorem S_beyond (v : V) : Call E0.P fn_value_beyond [.imm (.agg (rowX v))] [] (Is (.imm (.bool (decide (outV v)))) []) := by
  have fin : ∀ b : Bool, (b = true ↔ outV v) → Is (.imm (.bool (decide (outV v)))) [] (.imm (.bool b)) [] := by
    intro b hb
    have : b = decide (outV v) := by rw [Bool.eq_iff_iff, hb, dec_iff]
    rw [this]; exact ⟨rfl, rfl⟩
  refine F_value_beyond_of _ _ _ _ _ _ _ (brD (fun h => ⟨by decide, fin _ ?_⟩) fun h1 => brD (fun h => Let.intro (fin _ ?_)) fun h2 => brD (fun h => Let.intro (Let.intro (Let.intro (fin _ ?_)))) fun h7 => fin _ ?_)
  · rw [Int.fdiv_eq_ediv_of_nonneg _ (by decide), outV]
    simp only [Bool.not_eq_true', decide_eq_false_iff_not]
    omega
  · rw [orB, outV]; omega
  · rw [orB2, orB2, orB, outV]; omega
  · rw [outV]
    constructor
    · intro h; cases h
    · intro h; omega
theorem own_4 (v : V) (st : Bool) (w : Int) (b : Bool) (hk : ¬ ((v.k < 0 ∨ 8 < v.k) ∨ (v.k = 8 ∧ st = false))) (hb : b = true ↔ (extraV v ∨ (v.k = 3 ∧ (0 : UInt8) ∈ v.s))) (Q : AV → Heap → Prop) (hQ : Q (.imm (.int .i64 (ownV v st w))) []) (x0 x1 x2 : Bool) :
    C_value_own_4 w b v.k v.n v.g v.s (v.l.map V.row) (v.d.map pRow) x0 x1 x2 (hL v.k) (hD v.k) (K_value_own_1 Q) := by
  rw [ownV, if_neg hk] at hQ
  have ret : ∀ n : Int, Q (.imm (.int .i64 n)) [] → K_value_own_1 Q .ret ⟨[(6, .imm (.int .i64 n))], []⟩ := fun n h => K_value_own_1_x0 _ _ h
  have i9 : ((bif (bif hL v.k then true else hD v.k) then decide ((64 : Int) ≤ w) else false) = true) ↔ ((v.k = 5 ∨ v.k = 6 ∨ v.k = 8) ∧ 64 ≤ w) := by
    rw [hL, hD]
    by_cases a : v.k = 5
    · simp [a]
    · by_cases c : v.k = 6 ∨ v.k = 8 <;> simp [a, c]
  have l8 : ∀ n : Nat, ((127 : Int) < (n : Int) ↔ 127 < n) ∧ ((65535 : Int) < (n : Int) ↔ 65535 < n) ∧ ((1048576 : Int) < (n : Int) ↔ 1048576 < n) := fun n => ⟨by omega, by omega, by omega⟩
  obtain ⟨q1, q2, q3⟩ := l8 v.s.length
  refine C_value_own_4_of _ _ _ _ _ _ _ _ _ _ _ _ _ _ (brB hb (fun h => ret _ ?_) fun h4 => Call.use (S_beyond v) ⟨⟨rfl, rfl⟩, brB (p := outV v) (by rw [rB_bool]; exact dec_iff) (fun h => ret _ ?_) fun h3 => ?_⟩)
  · rw [if_pos h] at hQ; exact hQ
  · rw [if_neg h4, if_pos h] at hQ; exact hQ
  rw [if_neg h4, if_neg h3] at hQ
  refine Let.intro (brNF (p := v.k = 3 ∧ 127 < v.s.length) (by rw [andB2, q1]) (fun a1 => Let.intro (Let.intro (brB (p := v.k = 4 ∧ 65535 < v.s.length) (by rw [andB2, q2]) (fun h => ret _ ?_) fun a2 => ?_))) fun h => ⟨rfl, Let.intro (brTT (ret _ ?_))⟩)
  · rw [if_pos (.inr h)] at hQ; exact hQ
  · rw [if_neg (fun h => h.elim a1 a2)] at hQ
    refine Let.intro (brB (p := v.k = 8 ∧ 1048576 < v.s.length) (by rw [andB2, q3]) (fun h => ret _ ?_) fun a3 => Let.intro (Let.intro (brB i9 (fun h => ret _ ?_) fun a4 => K_value_own_1_x1 _ (C_value_own_14_of _ (K_value_own_0_x0 _ _ ?_)))))
    · rw [if_pos h] at hQ; exact hQ
    · rw [if_neg a3, if_pos h] at hQ; exact hQ
    · rw [if_neg a3, if_neg a4] at hQ; exact hQ
  · rw [if_pos (.inl h)] at hQ; exact hQ
theorem S_own (v : V) (st : Bool) (w : Int) : Call E0.P fn_value_own [.imm (.agg (rowX v)), .imm (.bool st), .imm (.int .i64 w)] [] (Is (.imm (.int .i64 (ownV v st w))) []) := by
  have ih : hOK v.k = true ↔ (0 ≤ v.k ∧ v.k ≤ 8) := by simp [hOK]
  refine F_value_own_of _ _ _ _ _ _ _ _ _ (Call.use (S_has v.k) ⟨⟨rfl, rfl⟩, brNF (p := v.k < 0 ∨ 8 < v.k) ?_ (fun hk => Let.intro (Let.intro (brB (p := v.k = 8 ∧ st = false) ?_ (fun h => ?_) fun h8 => ?_))) fun h => ⟨rfl, Let.intro (brTT ?_)⟩⟩)
  · show (!hOK v.k) = true ↔ _
    rw [Bool.not_eq_true', ← Bool.not_eq_true, ih]; omega
  · by_cases a : v.k = 8 <;> cases st <;> simp [a]
  · rw [ownV, if_pos (.inr h)]; exact ⟨rfl, rfl⟩
  · have hk' : ¬ ((v.k < 0 ∨ 8 < v.k) ∨ (v.k = 8 ∧ st = false)) := fun h => h.elim hk h8
    refine Call.use (S_foreign v) ⟨⟨rfl, rfl⟩, brNF (p := extraV v) (by rw [rB_bool]; exact dec_iff) (fun e => ?_) fun e => ⟨rfl, Let.intro (own_4 v st w _ hk' ⟨fun _ => .inl e, fun _ => rfl⟩ _ ⟨rfl, rfl⟩ _ _ _)⟩⟩
    refine ⟨fun h => ?_, fun h => ⟨rfl, Let.intro (Let.intro (own_4 v st w _ hk' ⟨fun h => (by cases h), fun h' => ?_⟩ _ ⟨rfl, rfl⟩ _ _ _))⟩⟩
    · have h3 := of_decide_eq_true (eq_of_beq h)
      refine Call.use (S_nul v.s) ⟨⟨rfl, rfl⟩, Let.intro (Let.intro (own_4 v st w _ hk' ?_ _ ⟨rfl, rfl⟩ _ _ _))⟩
      rw [rB_bool, dec_iff]
      exact ⟨fun h => .inr ⟨h3, h⟩, fun h => h.elim (fun h => absurd h e) fun h => h.2⟩
    · exfalso
      rcases h' with h' | h'
      · exact e h'
      · rw [decide_eq_true h'.1] at h; cases h
  · rw [ownV, if_pos (.inl h)]; exact ⟨rfl, rfl⟩
theorem own_deep {v : V} {st : Bool} {w : Int} (h : ownV v st w = 0) (hc : 0 < v.l.length ∨ 0 < v.d.length) : w < 64 := by
  unfold ownV at h
  split at h
  · cases h
  split at h
  · cases h
  split at h
  · cases h
  split at h
  · cases h
  split at h
  · cases h
  split at h
  · cases h
  · rename_i h4 _ _ _ h9
    have hx : ¬ extraV v := fun h => h4 (.inl h)
    rw [extraV] at hx
    omega
end Go.Proofs.Sim.Se

set_option linter.unusedVariables false
set_option linter.unusedSimpArgs false
set_option maxRecDepth 100000
namespace Go.Proofs.Sim.Se
open Go Go.Proofs Go.Proofs.Sim Go.Proofs.Sim.Va Go.RowKit

theorem mLook_up (m : List (List UInt8 × Int)) (k : List UInt8) (v : Int) (x : List UInt8) : mLook (mUp m k v) x = if x = k then v else mLook m x := by
  induction m with
  | nil => rw [mUp, mLook]; rfl
  | cons a m ih =>
    obtain ⟨k0, u⟩ := a
    rw [mUp]
    by_cases h : k = k0
    · subst h
      rw [if_pos rfl, mLook, mLook]
      by_cases hx : x = k
      · simp [hx]
      · simp [hx]
    · rw [if_neg h, mLook, mLook, ih]
      by_cases hx : x = k0
      · subst hx
        simp [Ne.symm h]
      · simp [hx]
theorem ndT {p : Prop} {i : Decidable p} (h : (!@decide p i) = true) : ¬ p := by
  intro hp
  rw [@decide_eq_true p i hp] at h; cases h
theorem ndF {p : Prop} {i : Decidable p} (h : (!@decide p i) = false) : p := by
  cases hd : @decide p i with
  | true => exact of_decide_eq_true hd
  | false => rw [hd] at h; cases h
theorem pkey (p : Pr) : gS (pRow p) 0 = p.1 := by rw [pRow_eq]; rfl
abbrev CheckAt (v : V) : Prop := ∀ (st : Bool) (w : Int), 0 ≤ w → w ≤ 64 → Call E0.P fn_value_check [.imm (.agg v.row), .imm (.bool st), .imm (.int .i64 w)] [] (Is (.imm (.int .i64 (v.chk st w))) [])
theorem L_chk_l (v : V) (hl : v.l.length ≤ 1000000000000) (ih : ∀ x ∈ v.l, CheckAt x) (w : Int) (hw0 : 0 ≤ w) (hw : 0 < v.l.length → w < 64) (a b c : Int) (s : List UInt8) (p q : List (List IV)) (K : Ex → St → Prop)
    (hR : fstE (v.l.map fun x => x.chk false (w + 1)) ≠ 0 → K .ret ⟨[(6, .imm (.int .i64 (fstE (v.l.map fun x => x.chk false (w + 1)))))], []⟩)
    (hE : fstE (v.l.map fun x => x.chk false (w + 1)) = 0 → K (.exit 0) ⟨[(2, .imm (.int .i64 w)), (3, .ptr (Nm.loc 3) 0)], [(Nm.loc 3, .blk ty_api_Value [.imm (.int .i64 a), .imm (.int .i64 b), .imm (.int .i64 c), .imm (.str s), .imm (.sl .any 6 p), .imm (.sl .any 7 q)])]⟩) :
    ∀ (m i : Nat), m + i = v.l.length → fstE (v.l.map fun x => x.chk false (w + 1)) = fstE ((v.l.drop i).map fun x => x.chk false (w + 1)) → L_value_check_6 w (vrs v.l) v.l.length i a b c s p q K := by
  intro m
  induction m with
  | zero =>
    intro i hi he
    refine L_value_check_6_of _ _ _ _ _ _ _ _ _ _ _ (brD (fun h => by omega) fun _ => ?_)
    rw [List.drop_of_length_le (by omega)] at he
    exact hE he
  | succ m ihm =>
    intro i hi he
    have hlt : i < v.l.length := by omega
    have hm : vAt v.l i ∈ v.l := by simp [vAt, List.getD_eq_getElem?_getD, hlt]
    have hd : v.l.drop i = vAt v.l i :: v.l.drop (i + 1) := by rw [List.drop_eq_getElem_cons hlt]; simp [vAt, List.getD_eq_getElem?_getD, hlt]
    have hw := hw (by omega)
    refine L_value_check_6_of _ _ _ _ _ _ _ _ _ _ _ (brD (fun _ => ?_) fun h => by omega)
    rw [show (vrs v.l).getD (Int.toNat (i : Int)) [] = (vAt v.l i).row from vrow_at _ _ hlt, vrow_form, vrs_len, wr1 i (by omega), wrap_id _ (by omega) (by omega)]
    refine ⟨⟨⟨by omega, by omega⟩, vrow_ok _ _ _⟩, Call.use (ih _ hm false (w + 1) (by omega) (by omega)) ⟨⟨rfl, rfl⟩, ?_⟩⟩
    rw [rI_int]
    rw [hd, List.map_cons, fstE] at he
    refine ⟨fun h => ?_, fun h => ihm (i + 1) (by omega) ?_⟩
    · have h := ndT h
      rw [if_pos h] at he
      rw [he] at hR
      exact hR h
    · have h := ndF h
      rw [if_neg (by simpa using h)] at he
      exact he
theorem L_chk_d (v : V) (hl : v.d.length ≤ 1000000000000) (ih : ∀ x ∈ v.d, CheckAt x.2) (w : Int) (hw0 : 0 ≤ w) (hw : 0 < v.d.length → w < 64) (K : Ex → St → Prop)
    (hR : K .ret ⟨[(6, .imm (.int .i64 (keyE [] (v.d.map fun x => (x.1, x.2.chk false (w + 1))))))], []⟩) :
    ∀ (m i : Nat) (seen : List Ky) (M : List (List UInt8 × Int)), m + i = v.d.length → (∀ x, mLook M x = if x ∈ seen then 1 else 0) →
      keyE [] (v.d.map fun x => (x.1, x.2.chk false (w + 1))) = keyE seen ((v.d.drop i).map fun x => (x.1, x.2.chk false (w + 1))) → L_value_check_18 w (prs v.d) v.d.length i M (K_value_check_3 K) := by
  intro m
  induction m with
  | zero =>
    intro i seen M hi hM he
    refine L_value_check_18_of _ _ _ _ _ _ (brD (fun h => by omega) fun _ => ?_)
    rw [List.drop_of_length_le (by omega)] at he
    rw [he] at hR
    exact K_value_check_3_x1 _ (C_value_check_31_of _ (K_value_check_2_x0 _ _ hR))
  | succ m ihm =>
    intro i seen M hi hM he
    have hlt : i < v.d.length := by omega
    have hm : pAt v.d i ∈ v.d := by simp [pAt, List.getD_eq_getElem?_getD, hlt]
    have hd : v.d.drop i = pAt v.d i :: v.d.drop (i + 1) := by rw [List.drop_eq_getElem_cons hlt]; simp [pAt, List.getD_eq_getElem?_getD, hlt]
    have hw := hw (by omega)
    obtain ⟨p, hp⟩ : ∃ p, pAt v.d i = p := ⟨_, rfl⟩
    rw [hp] at hm hd
    refine L_value_check_18_of _ _ _ _ _ _ (brD (fun _ => ?_) fun h => by omega)
    rw [show (prs v.d).getD (Int.toNat (i : Int)) [] = pRow (pAt v.d i) from prow_at _ _ hlt, hp, pkey, prs_len]
    rw [hd, List.map_cons, keyE] at he
    have i2 : ∀ b : Bool, (b = true ↔ badKey p.1) → (((bif b then true else decide ((0 : Int) < mLook M p.1)) = true) ↔ (badKey p.1 ∨ p.1 ∈ seen)) := by
      intro b hb
      rw [orB2, hb, hM]
      by_cases h : p.1 ∈ seen <;> simp [h]
    have bad : (badKey p.1 ∨ p.1 ∈ seen) → K_value_check_3 K .ret ⟨[(6, .imm (.int .i64 11))], []⟩ := by
      intro h
      rw [if_pos h] at he
      rw [he] at hR
      exact K_value_check_3_x0 _ _ hR
    have good : ¬ (badKey p.1 ∨ p.1 ∈ seen) → C_value_check_25 w (prs v.d) v.d.length i M p.1 (gI (pRow p) 1) (gI (pRow p) 2) (gI (pRow p) 3) (gS (pRow p) 4) (gR (pRow p) 5) (gR (pRow p) 6) (K_value_check_5 (K_value_check_3 K)) := by
      intro h
      rw [if_neg h] at he
      refine C_value_check_25_of _ _ _ _ _ _ _ _ _ _ _ _ _ ?_
      rw [prow_tail, wrap_id (w + 1) (by omega) (by omega)]
      refine Call.use (ih _ hm false (w + 1) (by omega) (by omega)) ⟨⟨rfl, rfl⟩, ?_⟩
      rw [rI_int]
      refine ⟨fun h2 => ?_, fun h2 => ?_⟩
      · rw [if_pos (ndT h2)] at he
        rw [he] at hR
        exact K_value_check_5_x0 _ _ (K_value_check_3_x0 _ _ hR)
      · rw [if_neg (by simpa using ndF h2)] at he
        refine K_value_check_5_x1 _ _ _ _ _ _ (C_value_check_30_of _ _ _ _ _ _ ?_)
        rw [wr1 i (by omega)]
        refine K_value_check_4_x0 _ _ _ _ _ _ (ihm (i + 1) (seen ++ [p.1]) _ (by omega) (fun x => ?_) he)
        rw [mLook_up, hM, hM, if_neg (show ¬ p.1 ∈ seen from fun h3 => h (.inr h3))]
        by_cases hx : x = p.1
        · rw [if_pos hx, if_pos (by rw [hx]; simp)]; rfl
        · rw [if_neg hx]
          by_cases h4 : x ∈ seen
          · rw [if_pos h4, if_pos (by simp [h4])]
          · rw [if_neg h4, if_neg (by simp [h4, hx])]
    refine ⟨⟨⟨by omega, by omega⟩, row_ok _ _ _⟩, brNF (p := 127 < p.1.length) (by rw [dec_iff]; omega) (fun h1 => Call.use (S_nul _) ⟨⟨rfl, rfl⟩, Let.intro (Let.intro (brB (i2 _ ?_) bad good))⟩) fun h1 => ⟨rfl, Let.intro (Let.intro (brB (i2 _ ?_) bad good))⟩⟩
    · rw [rB_bool, dec_iff, badKey]
      exact ⟨fun h => .inr h, fun h => h.elim (fun h => absurd h h1) id⟩
    · exact ⟨fun _ => .inl h1, fun _ => rfl⟩
theorem S_check (v : V) (hf : Fit v) : CheckAt v := by
  induction hf with
  | mk v h1 h2 h3 h4 ih1 ih2 =>
    intro st w hw0 hw
    rw [row_eq, chk_eq]
    refine F_value_check_of _ _ _ _ _ _ _ _ _ (Call.use (S_own v st w) ⟨⟨rfl, rfl⟩, ?_⟩)
    rw [rI_int]
    refine ⟨fun h => ?_, fun h => ?_⟩
    · rw [if_pos (ndT h)]; exact ⟨rfl, rfl⟩
    · have h0 := ndF h
      rw [if_neg (by simpa using h0)]
      rw [List.length_map]
      refine L_chk_l v h1 ih1 w hw0 (fun hc => own_deep h0 (.inl hc)) _ _ _ _ _ _ _ (fun he => ?_) (fun he => ?_) v.l.length 0 rfl (by rw [List.drop_zero])
      · rw [if_pos he]
        exact K_value_check_1_x0 _ _ ⟨rfl, rfl⟩
      · rw [if_neg (by simpa using he)]
        refine K_value_check_1_x1 _ _ _ _ _ _ _ _ (C_value_check_15_of _ _ _ _ _ _ _ _ ?_)
        rw [List.length_map]
        exact L_chk_d v h2 ih2 w hw0 (fun hc => own_deep h0 (.inr hc)) _ (K_value_check_0_x0 _ _ ⟨rfl, rfl⟩) v.d.length 0 [] [] rfl (fun x => by simp [mLook]) (by rw [List.drop_zero])
theorem S_Check (v : V) (hf : Fit v) (st : Bool) : Call E0.P fn_value_Check [.imm (.agg v.row), .imm (.bool st)] [] (Is (.imm (.int .i64 (v.chk st 0))) []) := by
  have h := S_check v hf st 0 (by decide) (by decide)
  rw [row_eq] at h ⊢
  exact F_value_Check_of _ _ _ _ _ _ _ _ (Call.use h ⟨⟨rfl, rfl⟩, ⟨rfl, rfl⟩⟩)
end Go.Proofs.Sim.Se

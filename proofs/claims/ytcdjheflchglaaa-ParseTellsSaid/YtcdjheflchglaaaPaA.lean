import Derived.Test.YtcdjheflchglaaaDtA
import Derived.Test.YtcdjheflchglaaaPaL
set_option maxRecDepth 100000
namespace Go.Proofs.Sim.Se
open Go Go.Proofs Go.Proofs.Sim Go.Proofs.Sim.Va Go.RowKit Go.Proofs.Sim.Pa

theorem brD {p : Prop} {i : Decidable p} {A B : Prop} (h1 : p → A) (h2 : ¬ p → B) : Br (@decide p i) A B := ⟨fun h => h1 (of_decide_eq_true h), fun h => h2 (of_decide_eq_false h)⟩
theorem brB {b : Bool} {p : Prop} {A B : Prop} (hb : b = true ↔ p) (h1 : p → A) (h2 : ¬ p → B) : Br b A B := ⟨fun h => h1 (hb.1 h), fun h => h2 fun hp => by rw [hb.2 hp] at h; cases h⟩
theorem brN {b : Bool} {p : Prop} {A B : Prop} (hb : b = true ↔ p) (h1 : ¬ p → A) (h2 : p → B) : Br (!b) A B := by
  cases b with
  | true => exact ⟨fun h => absurd h (by decide), fun _ => h2 (hb.1 rfl)⟩
  | false => exact ⟨fun _ => h1 fun hp => (by have := hb.2 hp; cases this), fun h => absurd h (by decide)⟩
theorem brE {b : Bool} {p : Prop} {A B : Prop} (hb : b = true ↔ p) (h1 : p → A) (h2 : ¬ p → B) : Br (b == true) A B := by cases b <;> exact brB (by simpa using hb) h1 h2
theorem orB2 (b : Bool) (p : Prop) {i : Decidable p} : ((bif b then true else @decide p i) = true) ↔ (b = true ∨ p) := by cases b <;> simp
theorem orBD (p q : Prop) {i : Decidable p} {j : Decidable q} : ((bif @decide p i then true else @decide q j) = true) ↔ (p ∨ q) := by by_cases p <;> by_cases q <;> simp_all
theorem andB2 (p q : Prop) {i : Decidable p} {j : Decidable q} : ((bif @decide p i then @decide q j else false) = true) ↔ (p ∧ q) := by by_cases p <;> by_cases q <;> simp_all
theorem dec_iff {p : Prop} {i : Decidable p} : (@decide p i = true) ↔ p := decide_eq_true_iff
theorem c_at (s : List UInt8) (i : Nat) (h : i < s.length) : s.getD (Int.toNat (i : Int)) 0 = s[i] := by simp [List.getD_eq_getElem?_getD, h]
theorem wr1 (i : Nat) (h : i ≤ 1000000000000) : IntKind.i64.wrap ((i : Int) + 1) = ((i + 1 : Nat) : Int) := by rw [wrap_id _ (by omega) (by omega)]; simp
theorem wrA (i j : Nat) (h : i + j ≤ 1000000000000) : IntKind.i64.wrap ((i : Int) + (j : Int)) = ((i + j : Nat) : Int) := by rw [wrap_id _ (by omega) (by omega)]; simp
theorem wrS (i j : Nat) (h : j ≤ i) (h2 : i ≤ 1000000000000) : IntKind.i64.wrap ((i : Int) - (j : Int)) = ((i - j : Nat) : Int) := by rw [wrap_id _ (by omega) (by omega)]; omega
theorem dropC {α : Type} (l : List α) (i : Nat) (h : i < l.length) : l.drop i = l[i] :: l.drop (i + 1) := List.drop_eq_getElem_cons h
theorem brT {A B : Prop} (h : A) : Br true A B := ⟨fun _ => h, fun h => absurd h (by decide)⟩
theorem brF {A B : Prop} (h : B) : Br false A B := ⟨fun h => absurd h (by decide), fun _ => h⟩
theorem nBr0 {b : Bool} {A B : Prop} (hb : b = false) (h : A) : Br (!b) A B := by subst hb; exact brT h
theorem nBr1 {b : Bool} {A B : Prop} (hb : b = true) (h : B) : Br (!b) A B := by subst hb; exact brF h
theorem row1 (a : List UInt8) (c : UInt8) : byteRows a ++ [[IV.int .u8 (c.toNat : Int)]] = byteRows (a ++ [c]) := by simp [byteRows]
theorem bl1 (a : List UInt8) : (byteRows a).length = a.length := by simp [byteRows]
theorem brow_ok (a : List UInt8) : ∀ r ∈ byteRows a, shOK [.int .u8] r = true := by
  intro r hr
  simp only [byteRows, List.mem_map] at hr
  obtain ⟨b, _, rfl⟩ := hr
  rfl
theorem unrow (a : List UInt8) : List.map (fun r => UInt8.ofNat (gI r 0).toNat) (byteRows a) = a := by
  induction a with
  | nil => rfl
  | cons b a ih =>
    have e : UInt8.ofNat (gI [IV.int .u8 (b.toNat : Int)] 0).toNat = b := by
      show UInt8.ofNat ((b.toNat : Int)).toNat = b
      simp
    have e2 : byteRows (b :: a) = [.int .u8 (b.toNat : Int)] :: byteRows a := rfl
    rw [e2, List.map_cons, e, ih]
end Go.Proofs.Sim.Se

set_option maxRecDepth 100000
namespace Go.Proofs.Sim.Se
open Go Go.Proofs Go.Proofs.Sim Go.Proofs.Sim.Va Go.RowKit Go.Proofs.Sim.Pa

theorem all_nextP {α : Type} {P : α → Prop} (l : List α) (i : Nat) (h : i < l.length) (ha : ∀ x ∈ l.take i, P x) (hx : P l[i]) : ∀ x ∈ l.take (i + 1), P x := by
  intro x h'
  rw [List.take_add_one] at h'
  rcases List.mem_append.1 h' with h' | h'
  · exact ha x h'
  · simp [h] at h'; rw [h']; exact hx

theorem S_octet_Kind (a : Int) : Call E0.P fn_octet_Kind [.imm (.int .u8 a)] [] (Is (.imm (.int .i64 (kindB a))) []) := by
  have key : ∀ (b : Bool) (Q : AV → Heap → Prop), Q (.imm (.int .i64 (if b = true then 0 else if a = 40 ∨ a = 41 ∨ a = 60 ∨ a = 62 ∨ a = 91 ∨ a = 93 ∨ a = 123 ∨ a = 125 ∨ a = 47 ∨ a = 37 then 1 else 2))) [] → C_octet_Kind_7 a b (K_octet_Kind_1 Q) := by
    intro b Q hq
    have one : ∀ {n : Int}, a = n → b = false → (n = 40 ∨ n = 41 ∨ n = 60 ∨ n = 62 ∨ n = 91 ∨ n = 93 ∨ n = 123 ∨ n = 125 ∨ n = 47 ∨ n = 37) → Br (decide (a = n)) (K_octet_Kind_1 Q .ret ⟨[(2, .imm (.int .i64 1))], []⟩) (K_octet_Kind_1 Q .normal ⟨[], []⟩) := by
      intro n e hb hn
      refine brD (fun _ => ?_) fun h => absurd e h
      subst e
      rw [hb, if_neg (by decide), if_pos hn] at hq
      exact K_octet_Kind_1_x0 _ _ hq
    refine C_octet_Kind_7_of _ _ _ ⟨fun h => ?_, fun h => ?_⟩
    · rw [h, if_pos rfl] at hq; exact K_octet_Kind_1_x0 _ _ hq
    refine brD (fun e => one e h (by omega)) fun n1 => brD (fun e => one e h (by omega)) fun n2 => brD (fun e => one e h (by omega)) fun n3 => brD (fun e => one e h (by omega)) fun n4 => brD (fun e => one e h (by omega)) fun n5 =>
      brD (fun e => one e h (by omega)) fun n6 => brD (fun e => one e h (by omega)) fun n7 => brD (fun e => one e h (by omega)) fun n8 => brD (fun e => one e h (by omega)) fun n9 => brD (fun e => ?_) fun n10 => ?_
    · rw [h, if_neg (by decide), if_pos (by omega)] at hq
      exact K_octet_Kind_1_x0 _ _ hq
    · rw [h, if_neg (by decide), if_neg (by omega)] at hq
      exact K_octet_Kind_1_x1 _ (C_octet_Kind_20_of _ (K_octet_Kind_0_x0 _ _ hq))
  have fin : ∀ (p : Prop) [Decidable p], ((a = 0 ∨ a = 9 ∨ a = 10 ∨ a = 12 ∨ a = 13 ∨ a = 32) ↔ p) → C_octet_Kind_7 a (decide p) (K_octet_Kind_1 (Is (.imm (.int .i64 (kindB a))) [])) := by
    intro p _ hp
    refine key _ _ ?_
    rw [kindB]
    by_cases h : p
    · rw [if_pos (hp.2 h), if_pos (decide_eq_true h)]; exact ⟨rfl, rfl⟩
    · rw [if_neg (fun h' => h (hp.1 h')), if_neg (show ¬ decide p = true by rw [decide_eq_false h]; decide)]; exact ⟨rfl, rfl⟩
  refine F_octet_Kind_of _ _ (brD (fun e => fin _ (by omega)) fun n1 => brD (fun e => fin _ (by omega)) fun n2 => brD (fun e => fin _ (by omega)) fun n3 => brD (fun e => fin _ (by omega)) fun n4 => brD (fun e => fin _ (by omega)) fun n5 => fin _ (by omega))
theorem L_r01_in (s : List UInt8) (a : Int) (hs : s.length ≤ 1000000000) (Q : AV → Heap → Prop) (hq : Q (.imm (.bool (decide (∃ c ∈ s, (c.toNat : Int) = a)))) []) : ∀ (m i : Nat), m + i = s.length → (∀ c ∈ s.take i, (c.toNat : Int) ≠ a) → L_r01_in_2 s a i (K_r01_in_1 Q) := by
  intro m
  induction m with
  | zero =>
    intro i hi ha
    refine L_r01_in_2_of _ _ _ _ (brD (fun h => by omega) fun _ => ?_)
    rw [List.take_of_length_le (by omega)] at ha
    rw [decide_eq_false (fun ⟨c, hc, e⟩ => ha c hc e)] at hq
    exact K_r01_in_1_x1 _ (C_r01_in_9_of _ (K_r01_in_0_x0 _ _ hq))
  | succ m ih =>
    intro i hi ha
    have hlt : i < s.length := by omega
    refine L_r01_in_2_of _ _ _ _ (brD (fun _ => ⟨⟨by omega, by omega⟩, ?_⟩) fun h => by omega)
    rw [c_at s i hlt]
    refine brD (fun e => ?_) fun e => ?_
    · rw [decide_eq_true (⟨s[i], List.getElem_mem hlt, e⟩ : ∃ c ∈ s, (c.toNat : Int) = a)] at hq
      exact K_r01_in_1_x0 _ _ hq
    · rw [show IntKind.i64.wrap ((i : Int) + 1) = ((i + 1 : Nat) : Int) by rw [wrap_id _ (by omega) (by omega)]; simp]
      exact ih (i + 1) (by omega) (all_nextP (P := fun c : UInt8 => (c.toNat : Int) ≠ a) _ _ hlt ha e)
theorem S_r01_in (s : List UInt8) (a : Int) (hs : s.length ≤ 1000000000) : Call E0.P fn_r01_in [.imm (.str s), .imm (.int .u8 a)] [] (Is (.imm (.bool (decide (∃ c ∈ s, (c.toNat : Int) = a)))) []) :=
  F_r01_in_of _ _ _ (L_r01_in s a hs _ ⟨rfl, rfl⟩ s.length 0 rfl (by simp))
theorem S_r01_Kind (a : Int) : Call E0.P fn_r01_Kind [.imm (.int .u8 a)] [] (Is (.imm (.int .i64 (kindB a))) []) := by
  have fl : ∀ x y : Int, x = y ↔ y = x := fun x y => eq_comm
  refine F_r01_Kind_of _ _ (Call.use (S_r01_in _ a (by decide)) ⟨⟨rfl, rfl⟩, brB (p := a = 0 ∨ a = 9 ∨ a = 10 ∨ a = 12 ∨ a = 13 ∨ a = 32) ?_ (fun h => ?_) fun h => ?_⟩)
  · rw [rB_bool, decide_eq_true_iff]; simp [fl _ a]
  · rw [kindB, if_pos h]; exact ⟨rfl, rfl⟩
  · refine Call.use (S_r01_in _ a (by decide)) ⟨⟨rfl, rfl⟩, brB (p := a = 40 ∨ a = 41 ∨ a = 60 ∨ a = 62 ∨ a = 91 ∨ a = 93 ∨ a = 123 ∨ a = 125 ∨ a = 47 ∨ a = 37) ?_ (fun h' => ?_) fun h' => ?_⟩
    · rw [rB_bool, decide_eq_true_iff]; simp [fl _ a]
    · rw [kindB, if_neg h, if_pos h']; exact ⟨rfl, rfl⟩
    · rw [kindB, if_neg h, if_neg h']; exact ⟨rfl, rfl⟩
theorem S_kd (c : UInt8) : Call E0.P fn_octet_Kind [.imm (.int .u8 (c.toNat : Int))] [] (Is (.imm (.int .i64 (kd c))) []) := S_octet_Kind _
theorem S_rkd (c : UInt8) : Call E0.P fn_r01_Kind [.imm (.int .u8 (c.toNat : Int))] [] (Is (.imm (.int .i64 (kd c))) []) := S_r01_Kind _
theorem lt256 (c : UInt8) : c.toNat < 256 := c.toNat_lt
theorem S_octet_Hex (c : UInt8) : Call E0.P fn_octet_Hex [.imm (.int .u8 (c.toNat : Int))] [] (Is (.imm (.int .i64 (hexv c))) []) := by
  have hc := lt256 c
  refine F_octet_Hex_of _ _ (Let.intro (brB (andB2 _ _) (fun h => ?_) fun h1 => Let.intro (brB (andB2 _ _) (fun h => ?_) fun h2 => Let.intro (brB (andB2 _ _) (fun h => ?_) fun h3 => ?_))))
  · rw [wrap_u8 _ (by omega) (by omega), wrap_id _ (by omega) (by omega)]
    unfold hexv; rw [if_pos (by omega)]; exact ⟨rfl, rfl⟩
  · rw [wrap_u8 _ (by omega) (by omega), wrap_id ((c.toNat : Int) - 65) (by omega) (by omega), wrap_id _ (by omega) (by omega)]
    unfold hexv; rw [if_neg (by omega), if_pos (by omega), show (c.toNat : Int) - 65 + 10 = (c.toNat : Int) - 55 by omega]; exact ⟨rfl, rfl⟩
  · rw [wrap_u8 _ (by omega) (by omega), wrap_id ((c.toNat : Int) - 97) (by omega) (by omega), wrap_id _ (by omega) (by omega)]
    unfold hexv; rw [if_neg (by omega), if_neg (by omega), if_pos (by omega), show (c.toNat : Int) - 97 + 10 = (c.toNat : Int) - 87 by omega]; exact ⟨rfl, rfl⟩
  · unfold hexv; rw [if_neg (by omega), if_neg (by omega), if_neg (by omega)]; exact ⟨rfl, rfl⟩
def hxD (i : Nat) : Nat := if i < 10 then 48 + i else 55 + i
def hxE (i : Nat) : Nat := if i < 10 then 48 + i else 87 + i
def upX : List UInt8 := [48, 49, 50, 51, 52, 53, 54, 55, 56, 57, 65, 66, 67, 68, 69, 70]
def loX : List UInt8 := [48, 49, 50, 51, 52, 53, 54, 55, 56, 57, 97, 98, 99, 100, 101, 102]
theorem upX_fin : ∀ i : Fin 16, (upX.getD i.val 0).toNat = hxD i.val := by decide +kernel
theorem loX_fin : ∀ i : Fin 16, (loX.getD i.val 0).toNat = hxE i.val := by decide +kernel
theorem hexv_hit (c : UInt8) (i : Nat) (hi : i < 16) (h : hxD i = c.toNat ∨ hxE i = c.toNat) : hexv c = i := by
  unfold hexv hxD hxE at *
  by_cases h10 : i < 10
  · rw [if_pos h10, if_pos h10] at h; rw [if_pos (by omega)]; omega
  · rw [if_neg h10, if_neg h10] at h
    rcases h with h | h
    · rw [if_neg (by omega), if_pos (by omega)]; omega
    · rw [if_neg (by omega), if_neg (by omega), if_pos (by omega)]; omega
theorem hexv_miss (c : UInt8) (h : ∀ i, i < 16 → hxD i ≠ c.toNat ∧ hxE i ≠ c.toNat) : hexv c = -1 := by
  unfold hexv
  by_cases h1 : 48 ≤ c.toNat ∧ c.toNat ≤ 57
  · have := (h (c.toNat - 48) (by omega)).1; unfold hxD at this; rw [if_pos (by omega)] at this; omega
  rw [if_neg h1]
  by_cases h2 : 65 ≤ c.toNat ∧ c.toNat ≤ 70
  · have := (h (c.toNat - 55) (by omega)).1; unfold hxD at this; rw [if_neg (by omega)] at this; omega
  rw [if_neg h2]
  by_cases h3 : 97 ≤ c.toNat ∧ c.toNat ≤ 102
  · have := (h (c.toNat - 87) (by omega)).2; unfold hxE at this; rw [if_neg (by omega)] at this; omega
  rw [if_neg h3]
theorem L_r01_Hex (c : UInt8) (Q : AV → Heap → Prop) (hq : Q (.imm (.int .i64 (hexv c))) []) : ∀ (m i : Nat), m + i = 16 → (∀ j, j < i → hxD j ≠ c.toNat ∧ hxE j ≠ c.toNat) → L_r01_Hex_4 (c.toNat : Int) upX loX i (K_r01_Hex_1 Q) := by
  intro m
  induction m with
  | zero =>
    intro i hi ha
    refine L_r01_Hex_4_of _ _ _ _ _ (brD (fun h => by omega) fun _ => ?_)
    rw [hexv_miss c (fun j hj => ha j (by omega))] at hq
    exact K_r01_Hex_1_x1 _ (C_r01_Hex_11_of _ (K_r01_Hex_0_x0 _ _ hq))
  | succ m ih =>
    intro i hi ha
    have e1 : (upX.getD (Int.toNat (i : Int)) 0).toNat = hxD i := upX_fin ⟨i, by omega⟩
    have e2 : (loX.getD (Int.toNat (i : Int)) 0).toNat = hxE i := loX_fin ⟨i, by omega⟩
    refine L_r01_Hex_4_of _ _ _ _ _ (brD (fun _ => ⟨⟨by omega, by show (i : Int) < ((16 : Nat) : Int); omega⟩, ⟨fun _ => ⟨by omega, by show (i : Int) < ((16 : Nat) : Int); omega⟩, ?_⟩⟩) fun h => by omega)
    rw [e1, e2]
    refine Let.intro (brB (orBD _ _) (fun h => ?_) fun h => ?_)
    · rw [hexv_hit c i (by omega) (by omega)] at hq
      exact K_r01_Hex_1_x0 _ _ hq
    · rw [wr1 i (by omega)]
      refine ih (i + 1) (by omega) fun j hj => ?_
      by_cases e : j = i
      · subst e; omega
      · exact ha j (by omega)
theorem S_r01_Hex (c : UInt8) : Call E0.P fn_r01_Hex [.imm (.int .u8 (c.toNat : Int))] [] (Is (.imm (.int .i64 (hexv c))) []) :=
  F_r01_Hex_of _ _ (L_r01_Hex c _ ⟨rfl, rfl⟩ 16 0 rfl (fun j hj => by omega))
theorem S_within (s : List UInt8) (a : Nat) : Call E0.P fn_octet_within [.imm (.str s), .imm (.int .i64 (a : Int))] [] (Is (.imm (.bool (decide (a < s.length)))) []) := by
  refine F_octet_within_of _ _ _ (Let.intro ⟨?_, rfl⟩)
  by_cases h : a < s.length
  · rw [show (bif decide ((0 : Int) ≤ (a : Int)) then decide ((a : Int) < (s.length : Int)) else false) = true from (andB2 _ _).2 ⟨by omega, by omega⟩, decide_eq_true h]
  · rw [show (bif decide ((0 : Int) ≤ (a : Int)) then decide ((a : Int) < (s.length : Int)) else false) = false from Bool.eq_false_iff.2 fun h' => h (by have := ((andB2 _ _).1 h').2; omega), decide_eq_false h]
theorem eol_at (s : List UInt8) (a : Nat) (h : a < s.length) : eolL (s.drop a) = if s[a].toNat = 10 then 1 else if s[a].toNat = 13 then (if h : a + 1 < s.length then (if s[a + 1].toNat = 10 then 2 else 1) else 1) else 0 := by
  rw [dropC s a h, eol_cons]
  split
  · rfl
  · split
    · by_cases h2 : a + 1 < s.length
      · rw [dropC s (a + 1) h2, dif_pos h2]
      · rw [List.drop_eq_nil_of_le (by omega), dif_neg h2]
    · rfl
theorem S_octet_Ends (s : List UInt8) (hs : s.length ≤ 1000000000) (a : Nat) : Call E0.P fn_octet_Ends [.imm (.str s), .imm (.int .i64 (a : Int))] [] (Is (.imm (.int .i64 (eolL (s.drop a) : Nat))) []) := by
  refine F_octet_Ends_of _ _ _ (Call.use (S_within s a) ⟨⟨rfl, rfl⟩, brN (p := a < s.length) (by rw [rB_bool, dec_iff]) (fun h => ?_) fun h => ?_⟩)
  · rw [List.drop_eq_nil_of_le (by omega)]; exact ⟨rfl, rfl⟩
  rw [c_at s a h, eol_at s a h]
  refine ⟨⟨by omega, by omega⟩, brD (fun e => ?_) fun e => ⟨⟨by omega, by omega⟩, brN dec_iff (fun e2 => ?_) fun e2 => ⟨fun h' => ?_, Let.intro (brB (andB2 _ _) (fun h' => ?_) fun h' => ?_)⟩⟩⟩
  · rw [if_pos (by omega)]; exact ⟨rfl, rfl⟩
  · rw [if_neg (by omega), if_neg (by omega)]; exact ⟨rfl, rfl⟩
  · have := of_decide_eq_true h'
    rw [wr1 a (by omega)] at this ⊢
    omega
  · rw [wr1 a (by omega)] at h'
    have h2 : a + 1 < s.length := by have := h'.1; omega
    rw [c_at s (a + 1) h2] at h'
    rw [if_neg (by omega), if_pos (by omega), dif_pos h2, if_pos (by omega)]; exact ⟨rfl, rfl⟩
  · rw [wr1 a (by omega)] at h'
    rw [if_neg (by omega), if_pos (by omega)]
    by_cases h2 : a + 1 < s.length
    · rw [c_at s (a + 1) h2] at h'
      rw [dif_pos h2, if_neg (fun e3 => h' ⟨by omega, by omega⟩)]; exact ⟨rfl, rfl⟩
    · rw [dif_neg h2]; exact ⟨rfl, rfl⟩
theorem ends_two (l : List UInt8) (h : 1 < l.length) : (List.take 2 l == [13, 10]) = true ↔ l[0].toNat = 13 ∧ l[1].toNat = 10 := by
  obtain ⟨x, y, r, rfl⟩ : ∃ x y r, l = x :: y :: r := by
    rcases l with _ | ⟨x, _ | ⟨y, r⟩⟩
    · simp at h
    · simp at h
    · exact ⟨x, y, r, rfl⟩
  have e : ∀ (c : UInt8) (n : Nat) (hn : n < 256), c = UInt8.ofNat n ↔ c.toNat = n := fun c n hn => ⟨fun h => by rw [h]; exact UInt8.toNat_ofNat_of_lt' hn, fun h => UInt8.toNat_inj.1 (by rw [h]; exact (UInt8.toNat_ofNat_of_lt' hn).symm)⟩
  have e1 := e x 13 (by omega)
  have e2 := e y 10 (by omega)
  simp only [List.take_succ_cons, List.take_zero, beq_iff_eq, List.cons.injEq, and_true, List.getElem_cons_zero, List.getElem_cons_succ]
  rw [← e1, ← e2]
  exact Iff.rfl
theorem S_r01_Ends (s : List UInt8) (hs : s.length ≤ 1000000000) (a : Nat) : Call E0.P fn_r01_Ends [.imm (.str s), .imm (.int .i64 (a : Int))] [] (Is (.imm (.int .i64 (eolL (s.drop a) : Nat))) []) := by
  refine F_r01_Ends_of _ _ _ (Let.intro (brB (orBD _ _) (fun h => ?_) fun h => ⟨by omega, Let.intro ?_⟩))
  · rw [List.drop_eq_nil_of_le (by omega)]; exact ⟨rfl, rfl⟩
  have h : a < s.length := by omega
  rw [Int.toNat_natCast]
  have hl : (s.drop a).length = s.length - a := List.length_drop ..
  have h0 : (s.drop a).getD 0 0 = s[a] := by rw [dropC s a h]; rfl
  refine ⟨fun h' => by have := of_decide_eq_true h'; omega, Let.intro (Let.intro ?_)⟩
  rw [eol_at s a h]
  have key : (bif decide ((1 : Int) < ((s.drop a).length : Int)) then List.take 2 (s.drop a) == [13, 10] else false) = true ↔ ∃ h2 : a + 1 < s.length, s[a].toNat = 13 ∧ s[a + 1].toNat = 10 := by
    by_cases h2 : a + 1 < s.length
    · rw [decide_eq_true (show (1 : Int) < ((s.drop a).length : Int) by omega)]
      simp only [cond_true]
      rw [ends_two _ (by omega)]
      simp [h2]
    · rw [decide_eq_false (show ¬ (1 : Int) < ((s.drop a).length : Int) by omega)]
      simp [h2]
  refine brB key (fun ⟨h2, e1, e2⟩ => ?_) fun hn => ⟨⟨by omega, by omega⟩, Call.use (S_r01_in _ _ (by decide)) ⟨⟨rfl, rfl⟩, brB (p := s[a].toNat = 13 ∨ s[a].toNat = 10) (by rw [rB_bool, dec_iff, h0]; simp; omega) (fun h' => ?_) fun h' => ?_⟩⟩
  · rw [if_neg (by omega), if_pos e1, dif_pos h2, if_pos e2]; exact ⟨rfl, rfl⟩
  · by_cases e : s[a].toNat = 10
    · rw [if_pos e]; exact ⟨rfl, rfl⟩
    · rw [if_neg e, if_pos (by omega)]
      by_cases h2 : a + 1 < s.length
      · rw [dif_pos h2, if_neg (fun e3 => hn ⟨h2, by omega, e3⟩)]; exact ⟨rfl, rfl⟩
      · rw [dif_neg h2]; exact ⟨rfl, rfl⟩
  · rw [if_neg (by omega), if_neg (by omega)]; exact ⟨rfl, rfl⟩
theorem one_in (k : Int) : (0 : Int) ≤ 0 ∧ (0 : Int) < (([[IV.int .i64 k]] : List (List IV)).length : Int) := ⟨by decide, by simp⟩
theorem one_out (k : Int) : ¬ (1 : Int) < (([[IV.int .i64 k]] : List (List IV)).length : Int) := by simp
theorem one_outW (k : Int) : ¬ IntKind.i64.wrap (0 + 1) < (([[IV.int .i64 k]] : List (List IV)).length : Int) := by
  rw [wrap_id _ (by omega) (by omega)]; simp
theorem span_step (k : Int) (s : List UInt8) (a : Nat) (h : a < s.length) : spanL k (s.drop a) = if kd s[a] = k then spanL k (s.drop (a + 1)) + 1 else 0 := by
  rw [dropC s a h, spanL]
theorem span_end (k : Int) (s : List UInt8) (a : Nat) (h : ¬ a < s.length) : spanL k (s.drop a) = 0 := by
  rw [List.drop_eq_nil_of_le (by omega)]; rfl
theorem span_le (k : Int) : ∀ l : List UInt8, spanL k l ≤ l.length
  | [] => Nat.le_refl _
  | c :: r => by
    rw [spanL]
    split
    · have := span_le k r; simp; omega
    · omega
theorem L_octet_Span (k : Int) (s : List UInt8) (hs : s.length ≤ 1000000000) (a : Nat) (ha : a ≤ s.length) (Q : AV → Heap → Prop) (hq : Q (.imm (.int .i64 (spanL k (s.drop a) : Nat))) []) : ∀ (m i : Nat), m + (a + i) = s.length → spanL k (s.drop a) = i + spanL k (s.drop (a + i)) →
    L_octet_Span_7 s a [[.int .i64 k]] i (K_octet_Span_2 Q) := by
  intro m
  induction m with
  | zero =>
    intro i hi he
    refine L_octet_Span_7_of _ _ _ _ _ ?_
    rw [wrS s.length a (by omega) (by omega)]
    refine brD (fun h => by omega) fun _ => K_octet_Span_2_x0 _ _ (C_octet_Span_23_of _ _ (K_octet_Span_1_x0 _ _ ?_))
    rw [span_end k s (a + i) (by omega)] at he
    rw [he] at hq; exact hq
  | succ m ih =>
    intro i hi he
    have hlt : a + i < s.length := by omega
    refine L_octet_Span_7_of _ _ _ _ _ ?_
    rw [wrS s.length a (by omega) (by omega)]
    refine brD (fun h => ?_) fun h => by omega
    refine L_octet_Span_12_of _ _ _ _ _ _ _ _ (brD (fun _ => ⟨⟨one_in k, rfl⟩, ?_⟩) fun h => absurd (one_in k).2 h)
    rw [wrA a i (by omega)]
    refine ⟨⟨by omega, by omega⟩, ?_⟩
    rw [c_at s (a + i) hlt]
    refine Call.use (S_kd _) ⟨⟨rfl, rfl⟩, ?_⟩
    rw [rI_int, show gI ([[IV.int .i64 k]].getD (Int.toNat 0) []) 0 = k from rfl]
    rw [span_step k s (a + i) hlt] at he
    refine brD (fun e => ?_) fun e => ?_
    · refine K_octet_Span_5_x0 _ _ _ _ _ (C_octet_Span_22_of _ _ _ _ _ (K_octet_Span_3_x0 _ _ _ _ _ ?_))
      rw [wr1 i (by omega)]
      rw [if_pos e] at he
      exact ih (i + 1) (by omega) (by rw [show a + (i + 1) = a + i + 1 by omega]; omega)
    · refine L_octet_Span_12_of _ _ _ _ _ _ _ _ (brD (fun h => absurd h (one_outW k)) fun _ => ?_)
      refine K_octet_Span_5_x1 _ _ (C_octet_Span_20_of _ _ (K_octet_Span_4_x0 _ _ (K_octet_Span_2_x0 _ _ (C_octet_Span_23_of _ _ (K_octet_Span_1_x0 _ _ ?_)))))
      rw [if_neg e] at he
      rw [he] at hq; exact hq
theorem S_octet_Span (k : Int) (s : List UInt8) (hs : s.length ≤ 1000000000) (a : Nat) (ha : a ≤ s.length) : Call E0.P fn_octet_Span [.imm (.str s), .imm (.int .i64 (a : Int)), .imm (.sl .any 1 [[.int .i64 k]])] [] (Is (.imm (.int .i64 (spanL k (s.drop a) : Nat))) []) := by
  refine F_octet_Span_of _ _ _ _ (Call.use (S_within s a) ⟨⟨rfl, rfl⟩, brN (p := a < s.length) (by rw [rB_bool, dec_iff]) (fun h => ?_) fun h => ?_⟩)
  · rw [span_end k s a h]; exact ⟨rfl, rfl⟩
  · exact L_octet_Span k s hs a ha _ ⟨rfl, rfl⟩ (s.length - a) 0 (by omega) (by simp)
theorem L_r01_Span (k : Int) (s : List UInt8) (hs : s.length ≤ 1000000000) (a : Nat) (ha : a ≤ s.length) (Q : AV → Heap → Prop) (hq : Q (.imm (.int .i64 (spanL k (s.drop a) : Nat))) []) : ∀ (m i : Nat), m + (a + i) = s.length → spanL k (s.drop a) = i + spanL k (s.drop (a + i)) →
    L_r01_Span_6 s [[.int .i64 k]] i ((a + i : Nat) : Int) (K_r01_Span_1 Q) := by
  intro m
  induction m with
  | zero =>
    intro i hi he
    refine L_r01_Span_6_of _ _ _ _ _ (brD (fun h => by omega) fun _ => K_r01_Span_1_x0 _ _ (C_r01_Span_22_of _ _ (K_r01_Span_0_x0 _ _ ?_)))
    rw [span_end k s (a + i) (by omega)] at he
    rw [he] at hq; exact hq
  | succ m ih =>
    intro i hi he
    have hlt : a + i < s.length := by omega
    have out : ∀ b : Bool, (b = true ↔ kd s[a + i] = k) → L_r01_Span_12 s [[.int .i64 k]] i ((a + i : Nat) : Int) b 1 (K_r01_Span_4 (K_r01_Span_1 Q)) := by
      intro b hb
      rw [span_step k s (a + i) hlt] at he
      refine L_r01_Span_12_of _ _ _ _ _ _ _ (brD (fun h => absurd h (one_out k)) fun _ => K_r01_Span_4_x0 _ _ _ _ _ _ (C_r01_Span_17_of _ _ _ _ _ _ (brN hb (fun e => ?_) fun e => ?_)))
      · refine K_r01_Span_3_x0 _ _ (K_r01_Span_1_x1 _ _ ?_)
        rw [if_neg e] at he
        rw [he] at hq; exact hq
      · refine K_r01_Span_3_x1 _ _ _ _ _ (C_r01_Span_21_of _ _ _ _ _ (K_r01_Span_2_x0 _ _ _ _ _ ?_))
        rw [wr1 i (by omega), wr1 (a + i) (by omega)]
        rw [if_pos e] at he
        exact ih (i + 1) (by omega) (by rw [show a + (i + 1) = a + i + 1 by omega]; omega)
    refine L_r01_Span_6_of _ _ _ _ _ (brD (fun h => ?_) fun h => by omega)
    refine L_r01_Span_12_of _ _ _ _ _ _ _ (brD (fun _ => brF ⟨⟨by omega, by omega⟩, ⟨⟨one_in k, rfl⟩, ?_⟩⟩) fun h => absurd (one_in k).2 h)
    rw [c_at s (a + i) hlt]
    refine Call.use (S_rkd _) ⟨⟨rfl, rfl⟩, Let.intro ?_⟩
    exact C_r01_Span_16_of _ _ _ _ _ _ _ (K_r01_Span_5_x0 _ _ _ _ _ _ _ (out _ dec_iff))
theorem S_r01_Span (k : Int) (s : List UInt8) (hs : s.length ≤ 1000000000) (a : Nat) (ha : a ≤ s.length) : Call E0.P fn_r01_Span [.imm (.str s), .imm (.int .i64 (a : Int)), .imm (.sl .any 1 [[.int .i64 k]])] [] (Is (.imm (.int .i64 (spanL k (s.drop a) : Nat))) []) :=
  F_r01_Span_of _ _ _ _ (brD (fun h => by omega) fun _ => L_r01_Span k s hs a ha _ ⟨rfl, rfl⟩ (s.length - a) 0 (by omega) (by simp))
end Go.Proofs.Sim.Se

set_option maxRecDepth 100000
namespace Go.Proofs.Sim.Se
open Go Go.Proofs Go.Proofs.Sim Go.Proofs.Sim.Va Go.RowKit Go.Proofs.Sim.Pa

def lineL : List UInt8 → Nat
  | [] => 0
  | c :: r => if c.toNat = 10 ∨ c.toNat = 13 then 0 else lineL r + 1
theorem kd0 {c : UInt8} (h : kd c = 0) : c.toNat = 0 ∨ c.toNat = 9 ∨ c.toNat = 10 ∨ c.toNat = 12 ∨ c.toNat = 13 ∨ c.toNat = 32 := by
  unfold kd kindB at h
  by_cases h1 : (c.toNat : Int) = 0 ∨ (c.toNat : Int) = 9 ∨ (c.toNat : Int) = 10 ∨ (c.toNat : Int) = 12 ∨ (c.toNat : Int) = 13 ∨ (c.toNat : Int) = 32
  · omega
  · rw [if_neg h1] at h
    split at h <;> omega
theorem kd0' {c : UInt8} (h : kd c ≠ 0) : c.toNat ≠ 10 ∧ c.toNat ≠ 13 := by
  refine ⟨fun e => h ?_, fun e => h ?_⟩ <;> unfold kd kindB <;> rw [if_pos (by omega)]
theorem skip_span : ∀ l : List UInt8, skipL false l = spanL 0 l + skipL false (l.drop (spanL 0 l))
  | [] => rfl
  | c :: r => by
    rw [spanL]
    by_cases h : kd c = 0
    · rw [if_pos h, skipL, List.drop_succ_cons]
      have hn : noteL false c = false := by
        have := kd0 h
        unfold noteL; split
        · rfl
        · rw [if_neg (by omega)]
      rw [hn, if_neg (fun h' => h'.2 h), skip_span r]; omega
    · rw [if_neg h]; simp
theorem skip_line : ∀ l : List UInt8, skipL true l = lineL l + skipL false (l.drop (lineL l))
  | [] => rfl
  | c :: r => by
    rw [lineL]
    by_cases h : c.toNat = 10 ∨ c.toNat = 13
    · rw [if_pos h]
      have e : ∀ b, noteL b c = false := fun b => by unfold noteL; rw [if_pos h]
      simp only [skipL, e, List.drop_zero, Nat.zero_add]
    · rw [if_neg h, skipL, List.drop_succ_cons]
      have e : noteL true c = true := by
        unfold noteL; rw [if_neg h]; split <;> rfl
      rw [e, if_neg (fun h' => by cases h'.1), skip_line r]; omega
theorem skip_pc {c : UInt8} (h : c.toNat = 37) (r : List UInt8) : skipL false (c :: r) = skipL true (c :: r) := by
  have e : ∀ b, noteL b c = true := fun b => by unfold noteL; rw [if_neg (by omega), if_pos h]
  simp only [skipL, e]
theorem skip_stop {c : UInt8} (h : kd c ≠ 0) (h2 : c.toNat ≠ 37) (r : List UInt8) : skipL false (c :: r) = 0 := by
  have e : noteL false c = false := by
    unfold noteL
    rw [if_neg (by have := kd0' h; omega), if_neg h2]
  rw [skipL, e, if_pos ⟨rfl, h⟩]
theorem span_stop (k : Int) : ∀ (l : List UInt8) (c : UInt8) (r : List UInt8), l.drop (spanL k l) = c :: r → kd c ≠ k
  | [], c, r, h => by simp [spanL] at h
  | x :: l, c, r, h => by
    rw [spanL] at h
    by_cases hx : kd x = k
    · rw [if_pos hx, List.drop_succ_cons] at h
      exact span_stop k l c r h
    · rw [if_neg hx, List.drop_zero] at h
      injection h with h1 h2
      subst h1; exact hx
theorem line_le : ∀ l : List UInt8, lineL l ≤ l.length
  | [] => Nat.le_refl _
  | c :: r => by
    rw [lineL]
    split
    · omega
    · have := line_le r; simp; omega
theorem skip_le : ∀ (b : Bool) (l : List UInt8), skipL b l ≤ l.length
  | _, [] => Nat.le_refl _
  | b, c :: r => by
    rw [skipL]
    split
    · omega
    · have := skip_le (noteL b c) r; simp; omega
theorem eol0 (c : UInt8) (r : List UInt8) : eolL (c :: r) = 0 ↔ ¬ (c.toNat = 10 ∨ c.toNat = 13) := by
  rw [eol_cons]
  by_cases h1 : c.toNat = 10
  · rw [if_pos h1]; simp [h1]
  · rw [if_neg h1]
    by_cases h2 : c.toNat = 13
    · rw [if_pos h2]
      rcases r with _ | ⟨d, r⟩
      · simp [h2]
      · simp only [h2]; split <;> simp
    · rw [if_neg h2]; simp [h1, h2]
theorem L_tskip (s : List UInt8) (hs : s.length ≤ 1000000000) (K : Ex → St → Prop) (e : Nat) (hk : K (.exit 0) ⟨[(0, .imm (.str s)), (1, .imm (.int .i64 (e : Int)))], []⟩) : ∀ (m q : Nat), m + q = s.length → e = q + lineL (s.drop q) → L_token_Skip_6 s q K := by
  intro m
  induction m with
  | zero =>
    intro q hq he
    rw [List.drop_eq_nil_of_le (by omega)] at he
    have : e = q := he
    subst this
    refine L_token_Skip_6_of _ _ _ (brE dec_iff (fun h => by omega) fun _ => ⟨rfl, Let.intro (brF hk)⟩)
  | succ m ih =>
    intro q hq he
    have hlt : q < s.length := by omega
    refine L_token_Skip_6_of _ _ _ (brE dec_iff (fun _ => Call.use (S_octet_Ends s hs q) ⟨⟨rfl, rfl⟩, Let.intro ?_⟩) fun h => by omega)
    rw [rI_int]
    rw [dropC s q hlt, lineL] at he
    refine brB (p := ¬ (s[q].toNat = 10 ∨ s[q].toNat = 13)) (by rw [dec_iff, ← eol0 s[q] (s.drop (q + 1)), ← dropC s q hlt]; omega) (fun h => ?_) fun h => ?_
    · refine C_token_Skip_9_of _ _ _ (K_token_Skip_4_x0 _ _ _ ?_)
      rw [wr1 q (by omega)]
      rw [if_neg h] at he
      exact ih (q + 1) (by omega) (by omega)
    · rw [if_pos (Classical.not_not.1 h)] at he
      have : e = q := he
      subst this; exact hk
theorem pc_at (s : List UInt8) (q : Nat) : (decide ((q : Int) < (s.length : Int)) = true → (0 : Int) ≤ (q : Int) ∧ (q : Int) < (s.length : Int)) := fun h => ⟨by omega, of_decide_eq_true h⟩
theorem pc_iff (s : List UInt8) (q : Nat) : ((bif decide ((q : Int) < (s.length : Int)) then decide (((s.getD (Int.toNat (q : Int)) 0).toNat : Int) = 37) else false) = true) ↔ ∃ h : q < s.length, s[q].toNat = 37 := by
  rw [andB2]
  constructor
  · rintro ⟨h1, h2⟩
    have h : q < s.length := by omega
    rw [c_at s q h] at h2
    exact ⟨h, by omega⟩
  · rintro ⟨h, h2⟩
    rw [c_at s q h]
    exact ⟨by omega, by omega⟩
/-- Behind the white bytes: no note begins there. -/
theorem skip_fin (s : List UInt8) (p : Nat) (h : ¬ ∃ h : p + spanL 0 (s.drop p) < s.length, s[p + spanL 0 (s.drop p)].toNat = 37) : p + skipL false (s.drop p) = p + spanL 0 (s.drop p) := by
  rw [skip_span, List.drop_drop]
  by_cases hq : p + spanL 0 (s.drop p) < s.length
  · have hst := span_stop 0 (s.drop p) s[p + spanL 0 (s.drop p)] (s.drop (p + spanL 0 (s.drop p) + 1)) (by rw [List.drop_drop, dropC s _ hq])
    rw [dropC s _ hq, skip_stop hst (fun e => h ⟨hq, e⟩)]; omega
  · have e : s.drop (p + spanL 0 (s.drop p)) = [] := List.drop_eq_nil_of_le (by omega)
    rw [e]; rfl
theorem skip_go (s : List UInt8) (p : Nat) (h : p + spanL 0 (s.drop p) < s.length) (h2 : s[p + spanL 0 (s.drop p)].toNat = 37) :
    p + skipL false (s.drop p) = (p + spanL 0 (s.drop p) + lineL (s.drop (p + spanL 0 (s.drop p)))) + skipL false (s.drop (p + spanL 0 (s.drop p) + lineL (s.drop (p + spanL 0 (s.drop p))))) := by
  have e1 := skip_span (s.drop p)
  rw [List.drop_drop] at e1
  have e2 := skip_line (s.drop (p + spanL 0 (s.drop p)))
  rw [List.drop_drop] at e2
  have e3 : skipL false (s.drop (p + spanL 0 (s.drop p))) = skipL true (s.drop (p + spanL 0 (s.drop p))) := by
    rw [dropC s _ h]; exact skip_pc h2 _
  omega
theorem line_pos (s : List UInt8) (q : Nat) (h : q < s.length) (h2 : s[q].toNat = 37) : 0 < lineL (s.drop q) := by
  rw [dropC s q h, lineL, if_neg (by omega)]; omega
theorem Sc_tskip (s : List UInt8) (hs : s.length ≤ 1000000000) (Q : AV → Heap → Prop) (e : Nat) (hk : Q (.imm (.int .i64 (e : Int))) []) : ∀ (m p : Nat), s.length - p ≤ m → p ≤ s.length → e = p + skipL false (s.drop p) → S_token_Skip_1 s p (K_token_Skip_0 Q) := by
  intro m
  induction m with
  | zero =>
    intro p hm hp he
    have hW := span_le 0 (s.drop p)
    rw [List.length_drop] at hW
    refine S_token_Skip_1_of _ _ _ (Call.use (S_octet_Span 0 s hs p hp) ⟨⟨rfl, rfl⟩, ?_⟩)
    rw [rI_int, wrA p _ (by omega)]
    refine ⟨pc_at _ _, Let.intro (brB (pc_iff _ _) (fun ⟨h, _⟩ => by omega) fun h => ?_)⟩
    rw [skip_fin s p h] at he
    subst he
    exact C_token_Skip_12_of _ _ (K_token_Skip_5_x0 _ _ (K_token_Skip_0_x0 _ _ hk))
  | succ m ih =>
    intro p hm hp he
    have hW := span_le 0 (s.drop p)
    rw [List.length_drop] at hW
    refine S_token_Skip_1_of _ _ _ (Call.use (S_octet_Span 0 s hs p hp) ⟨⟨rfl, rfl⟩, ?_⟩)
    rw [rI_int, wrA p _ (by omega)]
    refine ⟨pc_at _ _, Let.intro (brB (pc_iff _ _) (fun ⟨h, h2⟩ => ?_) fun h => ?_)⟩
    · have hl := line_le (s.drop (p + spanL 0 (s.drop p)))
      rw [List.length_drop] at hl
      have hpos := line_pos s _ h h2
      refine L_tskip s hs _ _ (K_token_Skip_7_x0 _ _ _ (C_token_Skip_10_of _ _ _ (K_token_Skip_6_x0 _ _ _ ?_))) _ _ (Nat.sub_add_cancel (Nat.le_of_lt h)) rfl
      exact ih _ (by omega) (by omega) (he.trans (skip_go s p h h2))
    · rw [skip_fin s p h] at he
      subst he
      exact C_token_Skip_12_of _ _ (K_token_Skip_5_x0 _ _ (K_token_Skip_0_x0 _ _ hk))
theorem plc_le (s : List UInt8) (a : Int) : plc s a ≤ s.length := by unfold plc; split <;> (try split) <;> omega
theorem plc_eq (s : List UInt8) (a : Int) : (if (if (s.length : Int) < a then (s.length : Int) else a) > 0 then (if (s.length : Int) < a then (s.length : Int) else a) else 0) = ((plc s a : Nat) : Int) := by
  unfold plc
  by_cases h1 : (s.length : Int) < a
  · rw [if_pos h1, if_pos h1]
    by_cases h2 : a < 0
    · omega
    · rw [if_neg h2]; split <;> omega
  · rw [if_neg h1]
    by_cases h2 : a < 0
    · rw [if_pos h2, if_neg (by omega)]; rfl
    · rw [if_neg h2, if_neg h1]; split <;> omega
theorem S_token_Skip (s : List UInt8) (hs : s.length ≤ 1000000000) (a : Int) : Call E0.P fn_token_Skip [.imm (.str s), .imm (.int .i64 a)] [] (Is (.imm (.int .i64 (skipP s a : Nat))) []) := by
  refine F_token_Skip_of _ _ _ ?_
  rw [plc_eq]
  have hp := plc_le s a
  unfold skipP
  generalize plc s a = p at *
  have hW := span_le 0 (s.drop p)
  rw [List.length_drop] at hW
  refine Call.use (S_octet_Span 0 s hs p hp) ⟨⟨rfl, rfl⟩, ?_⟩
  rw [rI_int, wrA p _ (by omega)]
  refine ⟨pc_at _ _, Let.intro (brB (pc_iff _ _) (fun ⟨h, h2⟩ => ?_) fun h => ?_)⟩
  · have hl := line_le (s.drop (p + spanL 0 (s.drop p)))
    rw [List.length_drop] at hl
    refine L_tskip s hs _ _ (K_token_Skip_3_x0 _ _ _ (C_token_Skip_10_of _ _ _ (K_token_Skip_2_x0 _ _ _ ?_))) _ _ (Nat.sub_add_cancel (Nat.le_of_lt h)) rfl
    exact Sc_tskip s hs _ _ ⟨rfl, rfl⟩ _ _ (Nat.le_refl _) (by omega) (skip_go s p h h2)
  · rw [skip_fin s p h]
    exact C_token_Skip_12_of _ _ (K_token_Skip_1_x0 _ _ ⟨rfl, rfl⟩)
theorem L_rskip (s : List UInt8) (hs : s.length ≤ 1000000000) (Q : AV → Heap → Prop) (e : Nat) (hk : Q (.imm (.int .i64 (e : Int))) []) : ∀ (m i : Nat) (b : Bool), m + i = s.length → e = i + skipL b (s.drop i) → L_r15_Skip_3 s b i (K_r15_Skip_1 Q) := by
  intro m
  induction m with
  | zero =>
    intro i b hi he
    rw [List.drop_eq_nil_of_le (by omega)] at he
    have he : e = i := he
    refine L_r15_Skip_3_of _ _ _ _ (brD (fun h => by omega) fun _ => K_r15_Skip_1_x0 _ _ (C_r15_Skip_13_of _ _ (K_r15_Skip_0_x0 _ _ ?_)))
    rw [show s.length = e by omega]; exact hk
  | succ m ih =>
    intro i b hi he
    have hlt : i < s.length := by omega
    rw [dropC s i hlt, skipL] at he
    have step : ∀ n : Bool, n = noteL b s[i] → C_r15_Skip_9 s n i (K_r15_Skip_3 (K_r15_Skip_1 Q)) := by
      intro n hn
      have nx : ¬ (noteL b s[i] = false ∧ kd s[i] ≠ 0) → C_r15_Skip_10 s n i false (K_r15_Skip_4 (K_r15_Skip_3 (K_r15_Skip_1 Q))) := by
        intro h
        rw [if_neg h] at he
        refine C_r15_Skip_10_of _ _ _ _ _ (brF (K_r15_Skip_4_x1 _ _ _ _ (K_r15_Skip_3_x1 _ _ _ _ (C_r15_Skip_12_of _ _ _ _ (K_r15_Skip_2_x0 _ _ _ _ ?_)))))
        rw [wr1 i (by omega)]
        exact ih (i + 1) n (by omega) (by rw [hn]; omega)
      refine C_r15_Skip_9_of _ _ _ _ ⟨fun _ => ⟨by omega, by omega⟩, ?_⟩
      rw [c_at s i hlt]
      refine brE (p := n = false) (by cases n <;> simp) (fun h0 => Call.use (S_rkd _) ⟨⟨rfl, rfl⟩, Let.intro ?_⟩) fun h0 => ⟨rfl, Let.intro (nx fun h => h0 (by rw [hn]; exact h.1))⟩
      rw [rI_int]
      by_cases hz : kd s[i] = 0
      · rw [decide_eq_true hz]; exact nx fun h => h.2 hz
      · rw [decide_eq_false hz]
        rw [if_pos ⟨by rw [← hn]; exact h0, hz⟩] at he
        have he : e = i := he
        subst he
        exact C_r15_Skip_10_of _ _ _ _ _ (brT (K_r15_Skip_4_x0 _ _ (K_r15_Skip_3_x0 _ _ (K_r15_Skip_1_x1 _ _ hk))))
    refine L_r15_Skip_3_of _ _ _ _ (brD (fun _ => ⟨⟨by omega, by omega⟩, ⟨fun _ => ⟨by omega, by omega⟩, Let.intro ?_⟩⟩) fun h => by omega)
    rw [c_at s i hlt]
    refine brB (orBD _ _) (fun h => step _ ?_) fun h => ⟨⟨by omega, by omega⟩, brD (fun h2 => step _ ?_) fun h2 => step _ ?_⟩
    · unfold noteL; rw [if_pos (by omega)]
    · unfold noteL; rw [if_neg (by omega), if_pos (by omega)]
    · unfold noteL; rw [if_neg (by omega), if_neg (by omega)]
theorem L_rskip_far (s : List UInt8) (b : Bool) (i : Int) (hi : (s.length : Int) < i) (Q : AV → Heap → Prop) (hk : Q (.imm (.int .i64 (s.length : Int))) []) : L_r15_Skip_3 s b i (K_r15_Skip_1 Q) :=
  L_r15_Skip_3_of _ _ _ _ (brD (fun h => by omega) fun _ => K_r15_Skip_1_x0 _ _ (C_r15_Skip_13_of _ _ (K_r15_Skip_0_x0 _ _ hk)))
theorem S_r15_Skip (s : List UInt8) (hs : s.length ≤ 1000000000) (a : Int) : Call E0.P fn_r15_Skip [.imm (.str s), .imm (.int .i64 a)] [] (Is (.imm (.int .i64 (skipP s a : Nat))) []) := by
  refine F_r15_Skip_of _ _ _ ?_
  by_cases h : (s.length : Int) < a
  · rw [if_pos (show a > 0 by omega)]
    refine L_rskip_far s _ _ h _ ?_
    have e : skipP s a = s.length := by
      unfold skipP plc
      rw [if_neg (by omega), if_pos h, List.drop_length]; rfl
    rw [e]; exact ⟨rfl, rfl⟩
  · have e : (if a > 0 then a else 0) = ((plc s a : Nat) : Int) := by
      unfold plc; rw [if_neg h]; split <;> split <;> omega
    rw [e]
    have hp := plc_le s a
    exact L_rskip s hs _ _ ⟨rfl, rfl⟩ (s.length - plc s a) _ _ (by omega) rfl
theorem skipP_le (s : List UInt8) (a : Int) : skipP s a ≤ s.length := by
  unfold skipP
  have h1 := plc_le s a
  have h2 := skip_le false (s.drop (plc s a))
  rw [List.length_drop] at h2
  omega
end Go.Proofs.Sim.Se

set_option maxRecDepth 100000
namespace Go.Proofs.Sim.Se
open Go Go.Proofs Go.Proofs.Sim Go.Proofs.Sim.Va Go.RowKit Go.Proofs.Sim.Pa

abbrev scH (s : List UInt8) (a : Int) (rows : LL) : Heap := [(Nm.arg 0, .blk ty_token_scanner [.imm (.str s), .imm (.int .i64 a), .own (Nm.arg 1)]), (Nm.arg 1, .arr (ty_uint8 + 2) true 1 rows)]
abbrev tokA (k n : Int) (t : List UInt8) (x y e : Int) : AV := .tup [.imm (.agg [.int .i64 k, .int .i64 n, .str t, .int .i64 x, .int .i64 y]), .imm (.int .i64 e)]
abbrev okA (c : Int) (b : Bool) : AV := .tup [.imm (.int .u8 c), .imm (.bool b)]
/-- A token of bytes: the text, where it ends, or what is wrong. -/
def ScQ (s : List UInt8) (k : Int) (x : Part) : AV → Heap → Prop := fun r h => ∃ (a : Nat) (l : List UInt8), h = scH s a (byteRows l) ∧ r = tokA (if x.2.2 = 0 then k else 0) 0 x.1 0 0 x.2.2 ∧ (x.2.2 = 0 → a = x.2.1) ∧ (x.2.2 ≠ 0 → x.1 = [])
theorem scq_bad {s : List UInt8} {k e : Int} {a : Nat} {l : List UInt8} (he : e ≠ 0) : ScQ s k ([], 0, e) (tokA 0 0 [] 0 0 e) (scH s a (byteRows l)) := ⟨a, l, rfl, by rw [if_neg he], fun h => absurd h he, fun _ => rfl⟩
theorem scq_ok {s : List UInt8} {k : Int} {a : Nat} {l t : List UInt8} : ScQ s k (t, a, 0) (tokA k 0 t 0 0 0) (scH s a (byteRows l)) := ⟨a, l, rfl, by rw [if_pos rfl], fun _ => rfl, fun h => absurd rfl h⟩
theorem wr2 (i : Nat) (h : i ≤ 1000000000000) : IntKind.i64.wrap ((i : Int) + 2) = ((i + 2 : Nat) : Int) := by rw [wrap_id _ (by omega) (by omega)]; simp
theorem wrapC (i : Nat) (h : i ≤ 1000000000000) : IntKind.i64.wrap (i : Int) = (i : Int) := wrap_id _ (by omega) (by omega)
theorem hexv_b (c : UInt8) : -1 ≤ hexv c ∧ hexv c ≤ 15 := by
  unfold hexv; split
  · omega
  · split
    · omega
    · split <;> omega
theorem nib_fin : ∀ h l : Fin 16, IntKind.u8.wrap (IntKind.i64.wrap (↑(BitVec.ofInt 64 (IntKind.i64.wrap (((h : Nat) : Int) * (2 : Int) ^ (4 : Nat))) ||| BitVec.ofInt 64 ((l : Nat) : Int)).toNat : Int)) = (((UInt8.ofNat (16 * (h : Nat) + (l : Nat))).toNat : Nat) : Int) := by decide +kernel
theorem nib (x y : Int) (hx : 0 ≤ x) (hx2 : x ≤ 15) (hy : 0 ≤ y) (hy2 : y ≤ 15) : IntKind.u8.wrap (IntKind.i64.wrap (↑(BitVec.ofInt 64 (IntKind.i64.wrap (x * (2 : Int) ^ (4 : Nat))) ||| BitVec.ofInt 64 y).toNat : Int)) = (((byB (16 * x + y)).toNat : Nat) : Int) := by
  have h := nib_fin ⟨x.toNat, by omega⟩ ⟨y.toNat, by omega⟩
  simp only [Int.toNat_of_nonneg hx, Int.toNat_of_nonneg hy] at h
  rw [h]
  unfold byB
  rw [show (16 * x + y).toNat = 16 * x.toNat + y.toNat by omega]
section
variable (s : List UInt8) (hs : s.length ≤ 1000000000)
include hs
theorem S_escaped_short (a : Nat) (ha : a ≤ s.length) (h : s.length < a + 2) (rows : LL) : Call E0.P fn_token_scanner_escaped [.ptr (.arg 0) 0] (scH s a rows) (Is (okA 0 false) (scH s a rows)) := by
  refine F_token_scanner_escaped_of _ _ _ _ ?_
  rw [wrS s.length a ha (by omega)]
  exact brD (fun _ => ⟨rfl, rfl⟩) fun h => by omega
theorem S_escaped_bad (a : Nat) (h : a + 1 < s.length) (hb : hexv s[a] < 0 ∨ hexv s[a + 1] < 0 ∨ hexv s[a] + hexv s[a + 1] = 0) (rows : LL) : Call E0.P fn_token_scanner_escaped [.ptr (.arg 0) 0] (scH s a rows) (Is (okA 0 false) (scH s (a + 2 : Nat) rows)) := by
  have b1 := hexv_b s[a]
  have b2 := hexv_b s[a + 1]
  refine F_token_scanner_escaped_of _ _ _ _ ?_
  rw [wrS s.length a (by omega) (by omega), wr1 a (by omega), wr2 a (by omega)]
  refine brD (fun _ => by omega) fun _ => ⟨⟨by omega, by omega⟩, ⟨⟨by omega, by omega⟩, ?_⟩⟩
  rw [c_at s a (by omega), c_at s (a + 1) h]
  refine Call.use (S_octet_Hex _) ⟨⟨rfl, rfl⟩, Call.use (S_octet_Hex _) ⟨⟨rfl, rfl⟩, Let.intro (Let.intro ?_)⟩⟩
  rw [rI_int, rI_int, wrap_id (hexv s[a] + hexv s[a + 1]) (by omega) (by omega)]
  refine brB (p := hexv s[a] < 0 ∨ hexv s[a + 1] < 0 ∨ hexv s[a] + hexv s[a + 1] = 0) (by rw [orB2, orBD]; omega) (fun _ => ⟨rfl, rfl⟩) fun h' => absurd hb h'
theorem S_escaped_ok (a : Nat) (h : a + 1 < s.length) (hb : ¬ (hexv s[a] < 0 ∨ hexv s[a + 1] < 0 ∨ hexv s[a] + hexv s[a + 1] = 0)) (rows : LL) : Call E0.P fn_token_scanner_escaped [.ptr (.arg 0) 0] (scH s a rows) (Is (okA (byB (16 * hexv s[a] + hexv s[a + 1])).toNat true) (scH s (a + 2 : Nat) rows)) := by
  have b1 := hexv_b s[a]
  have b2 := hexv_b s[a + 1]
  refine F_token_scanner_escaped_of _ _ _ _ ?_
  rw [wrS s.length a (by omega) (by omega), wr1 a (by omega), wr2 a (by omega)]
  refine brD (fun _ => by omega) fun _ => ⟨⟨by omega, by omega⟩, ⟨⟨by omega, by omega⟩, ?_⟩⟩
  rw [c_at s a (by omega), c_at s (a + 1) h]
  refine Call.use (S_octet_Hex _) ⟨⟨rfl, rfl⟩, Call.use (S_octet_Hex _) ⟨⟨rfl, rfl⟩, Let.intro (Let.intro ?_)⟩⟩
  rw [rI_int, rI_int, wrap_id (hexv s[a] + hexv s[a + 1]) (by omega) (by omega)]
  refine brB (p := hexv s[a] < 0 ∨ hexv s[a + 1] < 0 ∨ hexv s[a] + hexv s[a + 1] = 0) (by rw [orB2, orBD]; omega) (fun h' => absurd h' hb) fun _ => ⟨by decide, ?_⟩
  rw [nib _ _ (by omega) (by omega) (by omega) (by omega)]
  exact ⟨rfl, rfl⟩
def NmAt (s : List UInt8) (K : KK) (a : Nat) (out : List UInt8) : Prop :=
  (∀ h : a < s.length, L_token_scanner_name_3 (s[a].toNat : Int) true s a 0 0 [] 0 0 (byteRows out) K) ∧ (¬ a < s.length → L_token_scanner_name_3 0 false s a 0 0 [] 0 0 (byteRows out) K)
omit hs in
theorem N_more (K : KK) (a : Nat) (out : List UInt8) (h : NmAt s K a out) : C_token_scanner_name_16 s a 0 0 [] 0 0 (byteRows out) (K_token_scanner_name_3 (K_token_scanner_name_2 K)) := by
  refine C_token_scanner_name_16_of _ _ _ _ _ _ _ _ _ (brD (fun h' => ?_) fun h' => ⟨⟨by omega, by omega⟩, ?_⟩)
  · apply K_token_scanner_name_3_x0
    apply K_token_scanner_name_2_x1
    exact h.2 (by omega)
  · have hlt : a < s.length := by omega
    rw [c_at s a hlt]
    apply K_token_scanner_name_3_x0
    apply K_token_scanner_name_2_x1
    exact h.1 hlt
theorem L_name (at_ : Int) (out0 : LL) (Q : QQ) (X : Part) (hQ : ∀ r h, ScQ s 2 X r h → Q r h) : ∀ (m a : Nat) (out : List UInt8), s.length ≤ a + m → out.length ≤ 127 → nameL (s.drop a) out a = X → NmAt s (K_token_scanner_name_1 s at_ out0 Q) a out := by
  have fin : ∀ (a : Nat) (out : List UInt8), X = (out, a, 0) → K_token_scanner_name_1 s at_ out0 Q (.exit 0) ⟨[(0, .ptr (Nm.arg 0) 0), (2, .ptr (Nm.loc 2) 0)], [(Nm.arg 0, .blk ty_token_scanner [.imm (.str s), .imm (.int .i64 a), .own (Nm.arg 1)]), (Nm.loc 2, .blk ty_api_Token [.imm (.int .i64 0), .imm (.int .i64 0), .imm (.str []), .imm (.int .i64 0), .imm (.int .i64 0)]), (Nm.arg 1, .arr (ty_uint8 + 2) true 1 (byteRows out))]⟩ := by
    intro a out hX
    apply K_token_scanner_name_1_x0
    refine C_token_scanner_name_17_of _ _ _ _ _ _ _ _ _ ⟨brow_ok _, ?_⟩
    apply K_token_scanner_name_0_x0
    rw [unrow]
    exact hQ _ _ (hX ▸ scq_ok)
  have off : ∀ (a : Nat) (out : List UInt8), ¬ a < s.length → nameL (s.drop a) out a = X → L_token_scanner_name_3 0 false s a 0 0 [] 0 0 (byteRows out) (K_token_scanner_name_1 s at_ out0 Q) := by
    intro a out h hX
    rw [List.drop_eq_nil_of_le (by omega)] at hX
    refine L_token_scanner_name_3_of _ _ _ _ _ _ _ _ _ _ _ (brE (p := False) (by simp) (fun h => h.elim) fun _ => ⟨rfl, Let.intro (brF (fin a out hX.symm))⟩)
  intro m
  induction m with
  | zero => intro a out hm ho hX; exact ⟨fun h => by omega, fun h => off a out h hX⟩
  | succ m ih =>
    intro a out hm ho hX
    refine ⟨fun h => ?_, fun h => off a out h hX⟩
    refine L_token_scanner_name_3_of _ _ _ _ _ _ _ _ _ _ _ (brE (p := True) (by simp) (fun _ => Call.use (S_kd _) ⟨⟨rfl, rfl⟩, Let.intro ?_⟩) fun h => absurd trivial h)
    rw [rI_int]
    rw [dropC s a h] at hX
    refine brD (fun hk => ?_) fun hk => ?_
    · have bad : ∀ (e : Int) (b : Nat) (o : List UInt8), e ≠ 0 → X = ([], 0, e) → K_token_scanner_name_1 s at_ out0 Q .ret ⟨[(2, .ptr (Nm.loc 2) 0), (3, .imm (.int .i64 e))], [(Nm.loc 2, .blk ty_api_Token [.imm (.int .i64 0), .imm (.int .i64 0), .imm (.str []), .imm (.int .i64 0), .imm (.int .i64 0)]), (Nm.arg 0, .blk ty_token_scanner [.imm (.str s), .imm (.int .i64 b), .own (Nm.arg 1)]), (Nm.arg 1, .arr (ty_uint8 + 2) true 1 (byteRows o))]⟩ := by
        intro e b o he hx
        apply K_token_scanner_name_1_x1
        exact hQ _ _ (hx ▸ scq_bad he)
      have push : ∀ (c : UInt8) (b : Nat), a < b → (X = if 127 ≤ out.length then ([], 0, 8) else nameL (s.drop b) (out ++ [c]) b) → C_token_scanner_name_12 (c.toNat : Int) s b 0 0 [] 0 0 (byteRows out) (K_token_scanner_name_4 (K_token_scanner_name_2 (K_token_scanner_name_1 s at_ out0 Q))) := by
        intro c b hb hx
        refine C_token_scanner_name_12_of _ _ _ _ _ _ _ _ _ _ ⟨⟨by rw [bl1]; omega, by rw [bl1]; omega⟩, ?_⟩
        rw [row1, bl1, List.length_append]
        refine brD (fun h' => ?_) fun h' => ?_
        · rw [if_pos (by simp at h'; omega)] at hx
          apply K_token_scanner_name_4_x0
          apply K_token_scanner_name_2_x0
          exact bad 8 b _ (by decide) hx
        · rw [if_neg (by simp at h'; omega)] at hx
          apply K_token_scanner_name_4_x1
          exact N_more s _ b _ (ih b (out ++ [c]) (by omega) (by simp at h' ⊢; omega) hx.symm)
      refine C_token_scanner_name_6_of _ _ _ _ _ _ _ _ _ _ (brD (fun h35 => ?_) fun h35 => ?_)
      · rw [wr1 a (by omega)]
        rw [nameL.eq_def] at hX
        simp only at hX
        rw [if_pos hk, if_pos (by omega)] at hX
        by_cases h3 : s.length < a + 1 + 2
        · refine Call.use (S_escaped_short s hs (a + 1) (by omega) h3 _) ⟨⟨rfl, rfl⟩, nBr0 rfl ?_⟩
          apply K_token_scanner_name_2_x0
          refine bad 4 (a + 1) out (by decide) ?_
          rw [← hX]
          by_cases h4 : a + 1 < s.length
          · rw [dropC s (a + 1) h4, List.drop_eq_nil_of_le (by omega)]
          · rw [List.drop_eq_nil_of_le (by omega)]
        · have h4 : a + 1 < s.length := by omega
          have h5 : a + 1 + 1 < s.length := by omega
          rw [dropC s (a + 1) h4, dropC s (a + 1 + 1) h5] at hX
          simp only at hX
          by_cases hb : hexv s[a + 1] < 0 ∨ hexv s[a + 1 + 1] < 0 ∨ hexv s[a + 1] + hexv s[a + 1 + 1] = 0
          · refine Call.use (S_escaped_bad s hs (a + 1) h5 hb _) ⟨⟨rfl, rfl⟩, nBr0 rfl ?_⟩
            apply K_token_scanner_name_2_x0
            rw [if_pos hb] at hX
            exact bad 4 (a + 1 + 2) out (by decide) hX.symm
          · refine Call.use (S_escaped_ok s hs (a + 1) h5 hb _) ⟨⟨rfl, rfl⟩, nBr1 rfl ?_⟩
            rw [if_neg hb] at hX
            exact push (byB (16 * hexv s[a + 1] + hexv s[a + 1 + 1])) (a + 1 + 2) (by omega) hX.symm
      · rw [wr1 a (by omega)]
        rw [nameL.eq_def] at hX
        simp only at hX
        rw [if_pos hk, if_neg (by omega)] at hX
        exact push s[a] (a + 1) (by omega) hX.symm
    · rw [nameL.eq_def] at hX
      simp only at hX
      rw [if_neg hk] at hX
      exact fin a out hX.symm
theorem S_name (a : Nat) (ha : a < s.length) : Call E0.P fn_token_scanner_name [.ptr (.arg 0) 0] (scH s a []) (ScQ s 2 (nameL (s.drop (a + 1)) [] (a + 1))) := by
  have h := L_name s hs a [] (ScQ s 2 (nameL (s.drop (a + 1)) [] (a + 1))) _ (fun _ _ h => h) s.length (a + 1) [] (by omega) (by simp) rfl
  refine F_token_scanner_name_of _ _ _ _ ?_
  rw [wr1 a (by omega)]
  refine brD (fun h' => h.2 (by omega)) fun h' => ⟨⟨by omega, by omega⟩, ?_⟩
  rw [c_at s (a + 1) (by omega)]
  exact h.1 (by omega)
end
end Go.Proofs.Sim.Se

import Derived.Test.YtcdjheflchglaaaSeatEnv
import Derived.Test.YtcdjheflchglaaaSimPQ
namespace Go.Proofs.Sim.Se
open Go Go.Proofs Go.Proofs.Sim
set_option maxRecDepth 100000
theorem selfOK : ∀ f bt, E0.self f = some bt → SelfOK E0.P f bt := by
  intro f bt h
  cases h
theorem oki_crossing_putter : FnOK E0.P 28 ai_crossing_putter.code 9 [.tmp 2, .tmp 3] := fn_ok _ _ Try.f28 [] [2, 3] _ 9 Try.func28 (by kernel_rfl) (by kernel_rfl) (by kernel_rfl) (by kernel_rfl)
theorem oki_crossing_putter_1 : FnOK E0.P 53 ai_crossing_putter_1.code 21 [] := fn_ok _ _ Try.f53 [] [] _ 21 Try.func53 (by kernel_rfl) (by kernel_rfl) (by kernel_rfl) (by kernel_rfl)
theorem oki_crossing_putter_2 : FnOK E0.P 55 ai_crossing_putter_2.code 4 [.tmp 1] := fn_ok _ _ Try.f55 [] [1] _ 4 Try.func55 (by kernel_rfl) (by kernel_rfl) (by kernel_rfl) (by kernel_rfl)
theorem oki_digits_taker : FnOK E0.P 140 ai_digits_taker.code 5 [.tmp 2] := fn_ok _ _ Try.f140 [] [2] _ 5 Try.func140 (by kernel_rfl) (by kernel_rfl) (by kernel_rfl) (by kernel_rfl)
theorem oki_digits_taker_1 : FnOK E0.P 144 ai_digits_taker_1.code 23 [.tmp 2] := fn_ok _ _ Try.f144 [] [2] _ 23 Try.func144 (by kernel_rfl) (by kernel_rfl) (by kernel_rfl) (by kernel_rfl)
theorem oki_parse_none : FnOK E0.P 49 ai_parse_none.code 6 [.cell 2 37, .tmp 3] := fn_ok _ _ Try.f49 [] [2, 3] _ 6 Try.func49 (by kernel_rfl) (by kernel_rfl) (by kernel_rfl) (by kernel_rfl)
theorem oki_token_bad : FnOK E0.P 79 ai_token_bad.code 6 [.cell 2 95, .tmp 3] := fn_ok _ _ Try.f79 [] [2, 3] _ 6 Try.func79 (by kernel_rfl) (by kernel_rfl) (by kernel_rfl) (by kernel_rfl)
theorem oki_token_scanner_told : FnOK E0.P 123 ai_token_scanner_told.code 13 [.cell 4 95, .tmp 5] := fn_ok _ _ Try.f123 [] [4, 5] _ 13 Try.func123 (by kernel_rfl) (by kernel_rfl) (by kernel_rfl) (by kernel_rfl)
theorem oki_token_scanner_more : FnOK E0.P 121 ai_token_scanner_more.code 23 [.tmp 2, .tmp 3] := fn_ok _ _ Try.f121 [] [2, 3] _ 23 Try.func121 (by kernel_rfl) (by kernel_rfl) (by kernel_rfl) (by kernel_rfl)
theorem oki_token_scanner_sign : FnOK E0.P 104 ai_token_scanner_sign.code 18 [.cell 6 95, .tmp 7] := fn_ok _ _ Try.f104 [] [6, 7] _ 18 Try.func104 (by kernel_rfl) (by kernel_rfl) (by kernel_rfl) (by kernel_rfl)
theorem oki_token_scanner_twice : FnOK E0.P 107 ai_token_scanner_twice.code 36 [.tmp 2] := fn_ok _ _ Try.f107 [] [2] _ 36 Try.func107 (by kernel_rfl) (by kernel_rfl) (by kernel_rfl) (by kernel_rfl)
theorem oki_token_scanner_hex_1 : FnOK E0.P 125 ai_token_scanner_hex_1.code 37 [] := fn_ok _ _ Try.f125 [] [] _ 37 Try.func125 (by kernel_rfl) (by kernel_rfl) (by kernel_rfl) (by kernel_rfl)
theorem oki_parse_reader_inside : FnOK E0.P 67 ai_parse_reader_inside.code 37 [.cell 4 37, .tmp 5] := fn_ok _ _ Try.f67 [] [4, 5] _ 37 Try.func67 (by kernel_rfl) (by kernel_rfl) (by kernel_rfl) (by kernel_rfl)
theorem oki_parse_cursor_peek : FnOK E0.P 91 ai_parse_cursor_peek.code 15 [.cell 2 95, .tmp 3] := fn_ok _ _ Try.f91 [] [2, 3] _ 15 Try.func91 (by kernel_rfl) (by kernel_rfl) (by kernel_rfl) (by kernel_rfl)
theorem inlOK : ∀ f ac nt rs, E0.inl f = some (ac, nt, rs) → FnOK E0.P f ac.code nt rs := by
  refine inl_ok inl0 fun x hx => ?_
  simp only [inl0, List.mem_cons, List.not_mem_nil, or_false] at hx
  rcases hx with rfl | rfl | rfl | rfl | rfl | rfl | rfl | rfl | rfl | rfl | rfl | rfl | rfl | rfl
  · exact oki_crossing_putter
  · exact oki_crossing_putter_1
  · exact oki_crossing_putter_2
  · exact oki_digits_taker
  · exact oki_digits_taker_1
  · exact oki_parse_none
  · exact oki_token_bad
  · exact oki_token_scanner_told
  · exact oki_token_scanner_more
  · exact oki_token_scanner_sign
  · exact oki_token_scanner_twice
  · exact oki_token_scanner_hex_1
  · exact oki_parse_reader_inside
  · exact oki_parse_cursor_peek

theorem okE0 : EnvOK E0 := ⟨chkAll_ok _ _ (by kernel_rfl), by kernel_rfl, selfOK, inlOK⟩
theorem okE (nt : Nat) : EnvOK (envN E0 nt) := with_nt E0 okE0 nt
abbrev KK := Ex → St → Prop
abbrev QQ := AV → Heap → Prop
abbrev LL := List (List IV)
abbrev Ai (n : Int) : AV := .imm (.int .i64 n)
abbrev As (s : List UInt8) : AV := .imm (.str s)
abbrev Ab (b : Bool) : AV := .imm (.bool b)
abbrev Al (n : Nat) (r : LL) : AV := .imm (.sl .any n r)
theorem kr {p q : Prop} (h : p = q) (x : p) : q := cast h x
def kE (f : St → Prop) : KK
  | .normal, st => f st
  | .exit _, _ => False
  | .goto _, _ => False
  | .ret, st => f st
def kP (m : List Nat) (K : KK) : KK
  | .normal, st => K .normal (mask m st)
  | .exit i, st => K (.exit i) st
  | .goto i, st => K (.goto i) st
  | .ret, st => K .ret st
def kF (n : Nat) (f r : St → Prop) : KK
  | .normal, st => f st
  | .exit i, st => match i.beq n with | true => f st | false => False
  | .goto _, _ => False
  | .ret, st => r st
def kC (n : Nat) (f : St → Prop) (K : KK) : KK
  | .normal, st => f st
  | .exit i, st => match i.beq n with | true => f st | false => K (.exit i) st
  | .goto i, st => K (.goto i) st
  | .ret, st => K .ret st
abbrev LB := List UInt8
abbrev nA0 : Nm := .arg 0
abbrev nA1 : Nm := .arg 1
abbrev nL0 : Nm := .loc 0
abbrev nL1 : Nm := .loc 1
abbrev nL2 : Nm := .loc 2
abbrev nL3 : Nm := .loc 3
abbrev nL4 : Nm := .loc 4
abbrev nL5 : Nm := .loc 5
abbrev nL6 : Nm := .loc 6
abbrev nL8 : Nm := .loc 8
abbrev nL9 : Nm := .loc 9
abbrev nL10 : Nm := .loc 10
abbrev nL11 : Nm := .loc 11
abbrev nL15 : Nm := .loc 15
abbrev nL16 : Nm := .loc 16
abbrev nL26 : Nm := .loc 26
abbrev nL28 : Nm := .loc 28
end Go.Proofs.Sim.Se

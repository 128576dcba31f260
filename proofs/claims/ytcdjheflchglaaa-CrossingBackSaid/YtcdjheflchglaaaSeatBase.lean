import Derived.Test.YtcdjheflchglaaaSeatEnv
import Derived.Test.YtcdjheflchglaaaSimPQ
/- The seat's environment is sound. -/
namespace Go.Proofs.Sim.Se
open Go Go.Proofs Go.Proofs.Sim
set_option maxRecDepth 100000
theorem selfOK : ∀ f bt, E0.self f = some bt → SelfOK E0.P f bt := by
  intro f bt h
  cases h
theorem oki_crossing_putter : FnOK E0.P 28 ai_crossing_putter.code 9 [.tmp 2, .tmp 3] := fn_ok _ _ Try.f28 [] [2, 3] _ 9 Try.func28 (by kernel_rfl) (by kernel_rfl) (by kernel_rfl) (by kernel_rfl)
theorem oki_crossing_putter_1 : FnOK E0.P 53 ai_crossing_putter_1.code 21 [] := fn_ok _ _ Try.f53 [] [] _ 21 Try.func53 (by kernel_rfl) (by kernel_rfl) (by kernel_rfl) (by kernel_rfl)
theorem oki_crossing_putter_2 : FnOK E0.P 55 ai_crossing_putter_2.code 4 [.tmp 1] := fn_ok _ _ Try.f55 [] [1] _ 4 Try.func55 (by kernel_rfl) (by kernel_rfl) (by kernel_rfl) (by kernel_rfl)
theorem inlOK : ∀ f ac nt rs, E0.inl f = some (ac, nt, rs) → FnOK E0.P f ac.code nt rs := by
  refine inl_ok inl0 fun x hx => ?_
  simp only [inl0, List.mem_cons, List.not_mem_nil, or_false] at hx
  rcases hx with rfl | rfl | rfl
  · exact oki_crossing_putter
  · exact oki_crossing_putter_1
  · exact oki_crossing_putter_2

theorem okE0 : EnvOK E0 := ⟨chkAll_ok _ _ (by kernel_rfl), by kernel_rfl, selfOK, inlOK⟩
theorem okE (nt : Nat) : EnvOK (envN E0 nt) := with_nt E0 okE0 nt
abbrev KK := Ex → St → Prop
abbrev QQ := AV → Heap → Prop
abbrev LL := List (List IV)
abbrev Ai (n : Int) : AV := .imm (.int .i64 n)
abbrev As (s : List UInt8) : AV := .imm (.str s)
abbrev Ab (b : Bool) : AV := .imm (.bool b)
abbrev Al (n : Nat) (r : LL) : AV := .imm (.sl .any n r)
theorem kr {p q : Prop} (h : p = q) (x : p) : q := cast h x
def kE (f : St → Prop) : KK
  | .normal, st => f st
  | .exit _, _ => False
  | .goto _, _ => False
  | .ret, st => f st
def kP (m : List Nat) (K : KK) : KK
  | .normal, st => K .normal (mask m st)
  | .exit i, st => K (.exit i) st
  | .goto i, st => K (.goto i) st
  | .ret, st => K .ret st
def kF (n : Nat) (f r : St → Prop) : KK
  | .normal, st => f st
  | .exit i, st => match i.beq n with | true => f st | false => False
  | .goto _, _ => False
  | .ret, st => r st
def kC (n : Nat) (f : St → Prop) (K : KK) : KK
  | .normal, st => f st
  | .exit i, st => match i.beq n with | true => f st | false => K (.exit i) st
  | .goto i, st => K (.goto i) st
  | .ret, st => K .ret st
end Go.Proofs.Sim.Se

import Derived.Test.YtcdjheflchglaaaDoorSeatBase
set_option linter.unusedVariables false
set_option maxRecDepth 100000
namespace Go.Proofs.Sim.Se
open Go Go.Proofs Go.Proofs.Sim
noncomputable section
noncomputable def ac_digits_Put : AC := (annot [] [2] (codeOf Tryd.f67) 0).1
abbrev nt_digits_Put : Nat := 5
theorem ok_digits_Put : FnOK E0.P 67 ac_digits_Put.code nt_digits_Put [.tmp 2] := fn_ok _ _ Tryd.f67 [] [2] _ 5 Tryd.func67 (by kernel_rfl) (by kernel_rfl) (by kernel_rfl) (by kernel_rfl)
theorem F_digits_Put_of (a0 : Int) (Q : QQ) (h :
 (Call E0.P fn_strconv_Itoa [(Ai a0)] [] fun r0 g0 =>
 Req (g0 = [] ∧ r0 = .imm (.str (rS r0)))
 (Q (As (rS r0)) []))) : Call E0.P fn_digits_Put [(Ai a0)] [] Q := fun_rule (envN E0 nt_digits_Put) (okE nt_digits_Put) 3 0 67 ac_digits_Put [.tmp 2] ok_digits_Put _ _ Q rfl rfl (kr (by kernel_rfl) h)
end
end Go.Proofs.Sim.Se

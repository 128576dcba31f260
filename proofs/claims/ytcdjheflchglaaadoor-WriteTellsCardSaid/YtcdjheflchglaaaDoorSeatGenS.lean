import Derived.Test.YtcdjheflchglaaaDoorSeatBase
set_option linter.unusedVariables false
set_option maxRecDepth 100000
namespace Go.Proofs.Sim.Se
open Go Go.Proofs Go.Proofs.Sim
noncomputable section
noncomputable def ac_digits_Put : AC := (annot [] [2] (codeOf Tryd.f67) 0).1
abbrev nt_digits_Put : Nat := 5
theorem ok_digits_Put : FnOK E0.P 67 ac_digits_Put.code nt_digits_Put [.tmp 2] := fn_ok _ _ Tryd.f67 [] [2] _ 5 Tryd.func67 (by kernel_rfl) (by kernel_rfl) (by kernel_rfl) (by kernel_rfl)
theorem F_digits_Put_of (a0 : Int) (Q : QQ) (h :
 (Call E0.P fn_strconv_Itoa [(Ai a0)] [] fun r0 g0 =>
 Req (g0 = [] ∧ r0 = .imm (.str (rS r0)))
 (Q (As (rS r0)) []))) : Call E0.P fn_digits_Put [(Ai a0)] [] Q := fun_rule (envN E0 nt_digits_Put) (okE nt_digits_Put) 3 0 67 ac_digits_Put [.tmp 2] ok_digits_Put _ _ Q rfl rfl (kr (by kernel_rfl) h)
noncomputable def ac_r02_Put : AC := (annot [(10, [0, 3, 4], []), (11, [0, 3, 4], []), (13, [3, 4], []), (16, [3, 4], [])] [2] (codeOf Tryd.f87) 0).1
abbrev nt_r02_Put : Nat := 42
def C_r02_Put_10 (t0 : Int) (t3 t4 : List UInt8) (K : KK) : Prop := CutOK 10 E0.P nt_r02_Put (cbodyOf 10 ac_r02_Put).code ⟨[(0, (Ai t0)), (3, (As t3)), (4, (As t4))], []⟩ K
def L_r02_Put_11 (t0 : Int) (t3 t4 : List UInt8) (K : KK) : Prop := LoopOK 11 E0.P nt_r02_Put (lbodyOf 11 ac_r02_Put).code ⟨[(0, (Ai t0)), (3, (As t3)), (4, (As t4))], []⟩ K
def C_r02_Put_16 (t3 t4 : List UInt8) (K : KK) : Prop := CutOK 16 E0.P nt_r02_Put (cbodyOf 16 ac_r02_Put).code ⟨[(3, (As t3)), (4, (As t4))], []⟩ K
def K_r02_Put_0 (Q : QQ) : KK := kE fun st => finish 0 E0.T [.tmp 2] [] Q st
def K_r02_Put_1 (K : KK) : KK := kP [] K
def K_r02_Put_2 (K : KK) : KK := kC 0 (fun st => CutOK 16 E0.P nt_r02_Put (cbodyOf 16 ac_r02_Put).code (mask [3, 4] st) (K_r02_Put_1 K)) K
theorem C_r02_Put_10_of (t0 : Int) (t3 t4 : List UInt8) (K : KK) (h :
 (L_r02_Put_11 t0 t3 t4 (K_r02_Put_2 K))) : C_r02_Put_10 t0 t3 t4 K := cut_rule (envN E0 nt_r02_Put) (okE nt_r02_Put) 3 10 (cbodyOf 10 ac_r02_Put) [] _ K rfl (kr (by kernel_rfl) h)
theorem L_r02_Put_11_of (t0 : Int) (t3 t4 : List UInt8) (K : KK) (h :
 (Let (bif decide ((0 : Int) < t0) then true else t3 == []) fun x0 =>
 Br (x0)
 (Req ((10 : Int) ≠ (0 : Int))
 (Req ((10 : Int) ≠ (0 : Int))
 (Req ((0 : Int) ≤ t0.tmod (10 : Int) ∧
 t0.tmod (10 : Int) ≤ IntKind.i64.wrap (t0.tmod (10 : Int) + (1 : Int)) ∧
 IntKind.i64.wrap (t0.tmod (10 : Int) + (1 : Int)) ≤ (↑(10 : Nat) : Int))
 (Let (List.drop (t0.tmod (10 : Int)).toNat
 (List.take (IntKind.i64.wrap (t0.tmod (10 : Int) + (1 : Int))).toNat
 [(48 : UInt8), 49, 50, 51, 52, 53, 54, 55,
 56, 57])) fun x1 =>
 Req ((↑(x1.length + t3.length) : Int) ≤ (9223372036854775807 : Int))
 (Req ((10 : Int) ≠ (0 : Int))
 (L_r02_Put_11 (IntKind.i64.wrap (t0.tdiv (10 : Int))) (x1 ++ t3) t4 K))))))
 (K (.exit 0) ⟨[(3, (As t3)), (4, (As t4))], []⟩))) : L_r02_Put_11 t0 t3 t4 K := loop_rule (envN E0 nt_r02_Put) (okE nt_r02_Put) 3 11 (lbodyOf 11 ac_r02_Put) [0, 3, 4] _ K rfl (kr (by kernel_rfl) h)
theorem C_r02_Put_16_of (t3 t4 : List UInt8) (K : KK) (h :
 (Req ((↑(t4.length + t3.length) : Int) ≤ (9223372036854775807 : Int))
 (K .ret ⟨[(2, (As (t4 ++ t3)))], []⟩))) : C_r02_Put_16 t3 t4 K := cut_rule (envN E0 nt_r02_Put) (okE nt_r02_Put) 3 16 (cbodyOf 16 ac_r02_Put) [] _ K rfl (kr (by kernel_rfl) h)
theorem K_r02_Put_0_x0 (Q : QQ) (t2 : List UInt8) (h :
 (Q (As t2) [])) : K_r02_Put_0 Q .ret ⟨[(2, (As t2))], []⟩ := kr (by kernel_rfl) h
theorem K_r02_Put_1_x0 (K : KK) (t2 : List UInt8) (h :
 (K .ret ⟨[(2, (As t2))], []⟩)) : K_r02_Put_1 K .ret ⟨[(2, (As t2))], []⟩ := kr (by kernel_rfl) h
theorem K_r02_Put_2_x0 (K : KK) (t3 t4 : List UInt8) (h :
 (C_r02_Put_16 t3 t4 (K_r02_Put_1 K))) : K_r02_Put_2 K (.exit 0) ⟨[(3, (As t3)), (4, (As t4))], []⟩ := kr (by kernel_rfl) h
theorem ok_r02_Put : FnOK E0.P 87 ac_r02_Put.code nt_r02_Put [.tmp 2] := fn_ok _ _ Tryd.f87 [(10, [0, 3, 4], []), (11, [0, 3, 4], []), (13, [3, 4], []), (16, [3, 4], [])] [2] _ 42 Tryd.func87 (by kernel_rfl) (by kernel_rfl) (by kernel_rfl) (by kernel_rfl)
theorem F_r02_Put_of (a0 : Int) (Q : QQ) (h :
 (Br (decide (a0 < (0 : Int)))
 (Req ((10 : Int) ≠ (0 : Int))
 (Req ((0 : Int) ≤ IntKind.i64.wrap ((0 : Int) - a0.tmod (10 : Int)) ∧
 IntKind.i64.wrap ((0 : Int) - a0.tmod (10 : Int)) ≤ IntKind.i64.wrap ((1 : Int) - a0.tmod (10 : Int)) ∧
 IntKind.i64.wrap ((1 : Int) - a0.tmod (10 : Int)) ≤ (↑(10 : Nat) : Int))
 (Let (List.drop (IntKind.i64.wrap ((0 : Int) - a0.tmod (10 : Int))).toNat
 (List.take (IntKind.i64.wrap ((1 : Int) - a0.tmod (10 : Int))).toNat
 [(48 : UInt8), 49, 50, 51, 52, 53, 54, 55,
 56, 57])) fun x0 =>
 Req ((10 : Int) ≠ (0 : Int))
 (Br (decide (IntKind.i64.wrap ((0 : Int) - IntKind.i64.wrap (a0.tdiv (10 : Int))) = (0 : Int)))
 (Req ((↑((1 : Nat) + x0.length) : Int) ≤ (9223372036854775807 : Int))
 (Q (As ([(45 : UInt8)] ++ x0)) []))
 (C_r02_Put_10 (IntKind.i64.wrap ((0 : Int) - IntKind.i64.wrap (a0.tdiv (10 : Int)))) x0 [(45 : UInt8)] (K_r02_Put_0 Q))))))
 (C_r02_Put_10 a0 [] [] (K_r02_Put_0 Q)))) : Call E0.P fn_r02_Put [(Ai a0)] [] Q := fun_rule (envN E0 nt_r02_Put) (okE nt_r02_Put) 3 0 87 ac_r02_Put [.tmp 2] ok_r02_Put _ _ Q rfl rfl (kr (by kernel_rfl) h)
end
end Go.Proofs.Sim.Se

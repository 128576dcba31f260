/- Printed by a program of mine (Gen): per Go function its normal form, held by the kernel. -/
import Derived.Test.YtkdjpnfpmpchnaaDoorSeatBase
set_option linter.unusedVariables false
set_option maxRecDepth 100000
namespace Go.Proofs.Sim.Se
open Go Go.Proofs Go.Proofs.Sim
noncomputable section
/-! ### l22_SectionPrints -/
noncomputable def ac_l22_SectionPrints : AC := (annot [] [2] (codeOf Tryd.f3) 0).1
abbrev nt_l22_SectionPrints : Nat := 39
theorem ok_l22_SectionPrints : FnOK E0.P 3 ac_l22_SectionPrints.code nt_l22_SectionPrints [.tmp 2] := fn_ok _ _ Tryd.f3 [] [2] _ 39 Tryd.func3 (by kernel_rfl) (by kernel_rfl) (by kernel_rfl) (by kernel_rfl)
theorem F_l22_SectionPrints_of (a0k : SK) (a0 : List (List IV)) (Q : AV → Heap → Prop) (h :
 (Br (decide ((300 : Int) < (↑a0.length : Int)))
 (Call E0.P fn_l22_sections [] [] fun r0 g0 =>
 Req (g0 = [] ∧ r0 = .imm (.bool (rB r0)))
 (Q (.imm (.bool (rB r0))) []))
 (Call E0.P fn_section_Print [(.imm (.sl a0k 4 a0))] [] fun r1 g1 =>
 Req (g1 = [] ∧ r1 = .tup [.imm (.str (rS (rT r1 (0 : Nat)))), .imm (.int .i64 (rI (rT r1 (1 : Nat))))])
 (Call E0.P fn_r22_Print [(.imm (.sl a0k 4 a0))] [] fun r2 g2 =>
 Req (g2 = [] ∧ r2 = .tup [.imm (.str (rS (rT r2 (0 : Nat)))), .imm (.int .i64 (rI (rT r2 (1 : Nat))))])
 (Let (bif rS (rT r1 (0 : Nat)) == rS (rT r2 (0 : Nat)) then decide (rI (rT r1 (1 : Nat)) = rI (rT r2 (1 : Nat))) else false) fun x3 =>
 Br (x3 == true)
 (Call E0.P fn_section_Check [(.imm (.sl a0k 4 a0))] [] fun r4 g4 =>
 Req (g4 = [] ∧ r4 = .imm (.int .i64 (rI r4)))
 (Call E0.P fn_r22_Check [(.imm (.sl a0k 4 a0))] [] fun r5 g5 =>
 Req (g5 = [] ∧ r5 = .imm (.int .i64 (rI r5)))
 (Let (decide (rI r4 = rI r5)) fun x6 =>
 Br (x6 == true)
 (Call E0.P fn_l22_sections [] [] fun r7 g7 =>
 Req (g7 = [] ∧ r7 = .imm (.bool (rB r7)))
 (Let (rB r7) fun x8 =>
 Q (.imm (.bool x8)) []))
 (Req ((!true) = false)
 (Let (false) fun x9 =>
 Q (.imm (.bool x9)) [])))))
 (Req ((!true) = false)
 (Let (false) fun x10 =>
 Br (x10 == true)
 (Call E0.P fn_l22_sections [] [] fun r11 g11 =>
 Req (g11 = [] ∧ r11 = .imm (.bool (rB r11)))
 (Let (rB r11) fun x12 =>
 Q (.imm (.bool x12)) []))
 (Req ((!true) = false)
 (Let (false) fun x13 =>
 Q (.imm (.bool x13)) []))))))))) : Call E0.P fn_l22_SectionPrints [(.imm (.sl a0k 4 a0))] [] Q := fun_rule (envN E0 nt_l22_SectionPrints) (okE nt_l22_SectionPrints) 3 3 ac_l22_SectionPrints [.tmp 2] ok_l22_SectionPrints _ _ Q rfl rfl (cast (by kernel_rfl) h)
/-! ### l22_SectionReads -/
noncomputable def ac_l22_SectionReads : AC := (annot [] [4] (codeOf Tryd.f4) 0).1
abbrev nt_l22_SectionReads : Nat := 45
theorem ok_l22_SectionReads : FnOK E0.P 4 ac_l22_SectionReads.code nt_l22_SectionReads [.tmp 4] := fn_ok _ _ Tryd.f4 [] [4] _ 45 Tryd.func4 (by kernel_rfl) (by kernel_rfl) (by kernel_rfl) (by kernel_rfl)
theorem F_l22_SectionReads_of (a0 : List UInt8) (a1 : Int) (Q : AV → Heap → Prop) (h :
 (Br (decide ((1000 : Int) < (↑a0.length : Int)))
 (Call E0.P fn_l22_sections [] [] fun r0 g0 =>
 Req (g0 = [] ∧ r0 = .imm (.bool (rB r0)))
 (Q (.imm (.bool (rB r0))) []))
 (Call E0.P fn_section_Read [(.imm (.str a0)), (.imm (.int .i64 a1))] [] fun r1 g1 =>
 Req (g1 = [] ∧
 r1 =
 .tup
 [.imm (.sl (rK (rT r1 (0 : Nat))) (4 : Nat) (rR (rT r1 (0 : Nat)))),
 .imm (.int .i64 (rI (rT r1 (1 : Nat)))), .imm (.int .i64 (rI (rT r1 (2 : Nat))))])
 (Call E0.P fn_r22_Read [(.imm (.str a0)), (.imm (.int .i64 a1))] [] fun r2 g2 =>
 Req (g2 = [] ∧
 r2 =
 .tup
 [.imm (.sl (rK (rT r2 (0 : Nat))) (4 : Nat) (rR (rT r2 (0 : Nat)))),
 .imm (.int .i64 (rI (rT r2 (1 : Nat)))), .imm (.int .i64 (rI (rT r2 (2 : Nat))))])
 (Call E0.P fn_r21_SameRows [(.imm (.sl (rK (rT r1 (0 : Nat))) 4 (rR (rT r1 (0 : Nat))))), (.imm (.sl (rK (rT r2 (0 : Nat))) 4 (rR (rT r2 (0 : Nat)))))] [] fun r3 g3 =>
 Req (g3 = [] ∧ r3 = .imm (.bool (rB r3)))
 (Let (bif rB r3 then decide (rI (rT r1 (1 : Nat)) = rI (rT r2 (1 : Nat))) else false) fun x4 =>
 Let (bif x4 then decide (rI (rT r1 (2 : Nat)) = rI (rT r2 (2 : Nat))) else false) fun x5 =>
 Br (x5 == true)
 (Call E0.P fn_l22_sections [] [] fun r6 g6 =>
 Req (g6 = [] ∧ r6 = .imm (.bool (rB r6)))
 (Let (rB r6) fun x7 =>
 Q (.imm (.bool x7)) []))
 (Req ((!true) = false)
 (Let (false) fun x8 =>
 Q (.imm (.bool x8)) [])))))))) : Call E0.P fn_l22_SectionReads [(.imm (.str a0)), (.imm (.int .i64 a1))] [] Q := fun_rule (envN E0 nt_l22_SectionReads) (okE nt_l22_SectionReads) 3 4 ac_l22_SectionReads [.tmp 4] ok_l22_SectionReads _ _ Q rfl rfl (cast (by kernel_rfl) h)
/-! ### l22_SectionBack -/
noncomputable def ac_l22_SectionBack : AC := (annot [] [6] (codeOf Tryd.f5) 0).1
abbrev nt_l22_SectionBack : Nat := 89
theorem ok_l22_SectionBack : FnOK E0.P 5 ac_l22_SectionBack.code nt_l22_SectionBack [.tmp 6] := fn_ok _ _ Tryd.f5 [] [6] _ 89 Tryd.func5 (by kernel_rfl) (by kernel_rfl) (by kernel_rfl) (by kernel_rfl)
theorem F_l22_SectionBack_of (a0 : List UInt8) (a1k : SK) (a1 : List (List IV)) (a2 : List UInt8) (Q : AV → Heap → Prop) (h :
 (Let (bif decide ((300 : Int) < (↑a0.length : Int)) then true else decide ((300 : Int) < (↑a1.length : Int))) fun x0 =>
 Let (bif x0 then true else decide ((300 : Int) < (↑a2.length : Int))) fun x1 =>
 Br (x1 == false)
 (Req ((!a2 == []) = true → (0 : Int) ≤ (0 : Int) ∧ (0 : Int) < (↑a2.length : Int))
 (Let (bif !a2 == [] then decide ((48 : Int) ≤ (↑(a2.getD (0 : Nat) (0 : UInt8)).toNat : Int)) else false) fun x2 =>
 Req (x2 = true → (0 : Int) ≤ (0 : Int) ∧ (0 : Int) < (↑a2.length : Int))
 (Let (bif x2 then decide ((↑(a2.getD (0 : Nat) (0 : UInt8)).toNat : Int) ≤ (57 : Int)) else false) fun x3 =>
 Let (x3) fun x4 =>
 Br (x4)
 (Call E0.P fn_l22_sections [] [] fun r5 g5 =>
 Req (g5 = [] ∧ r5 = .imm (.bool (rB r5)))
 (Q (.imm (.bool (rB r5))) []))
 (Call E0.P fn_section_Print [(.imm (.sl a1k 4 a1))] [] fun r6 g6 =>
 Req (g6 = [] ∧ r6 = .tup [.imm (.str (rS (rT r6 (0 : Nat)))), .imm (.int .i64 (rI (rT r6 (1 : Nat))))])
 (Br (!decide (rI (rT r6 (1 : Nat)) = (0 : Int)))
 (Br ((rS (rT r6 (0 : Nat)) == []) == true)
 (Call E0.P fn_section_Check [(.imm (.sl a1k 4 a1))] [] fun r7 g7 =>
 Req (g7 = [] ∧ r7 = .imm (.int .i64 (rI r7)))
 (Let (decide (rI r7 = rI (rT r6 (1 : Nat)))) fun x8 =>
 Br (x8 == true)
 (Call E0.P fn_l22_sections [] [] fun r9 g9 =>
 Req (g9 = [] ∧ r9 = .imm (.bool (rB r9)))
 (Let (rB r9) fun x10 =>
 Q (.imm (.bool x10)) []))
 (Req ((!true) = false)
 (Let (false) fun x11 =>
 Q (.imm (.bool x11)) []))))
 (Req ((!true) = false)
 (Let (false) fun x12 =>
 Br (x12 == true)
 (Call E0.P fn_l22_sections [] [] fun r13 g13 =>
 Req (g13 = [] ∧ r13 = .imm (.bool (rB r13)))
 (Let (rB r13) fun x14 =>
 Q (.imm (.bool x14)) []))
 (Req ((!true) = false)
 (Let (false) fun x15 =>
 Q (.imm (.bool x15)) [])))))
 (Req ((↑(a0.length + (rS (rT r6 (0 : Nat))).length) : Int) ≤ (9223372036854775807 : Int))
 (Req ((↑((a0 ++ rS (rT r6 (0 : Nat))).length + a2.length) : Int) ≤ (9223372036854775807 : Int))
 (Call E0.P fn_section_Read [(.imm (.str (a0 ++ rS (rT r6 (0 : Nat)) ++ a2))), (.imm (.int .i64 ((↑a0.length : Int))))] [] fun r16 g16 =>
 Req (g16 = [] ∧
 r16 =
 .tup
 [.imm (.sl (rK (rT r16 (0 : Nat))) (4 : Nat) (rR (rT r16 (0 : Nat)))),
 .imm (.int .i64 (rI (rT r16 (1 : Nat)))), .imm (.int .i64 (rI (rT r16 (2 : Nat))))])
 (Call E0.P fn_r21_SameRows [(.imm (.sl (rK (rT r16 (0 : Nat))) 4 (rR (rT r16 (0 : Nat))))), (.imm (.sl a1k 4 a1))] [] fun r17 g17 =>
 Req (g17 = [] ∧ r17 = .imm (.bool (rB r17)))
 (Let (bif rB r17 then
 decide (rI (rT r16 (1 : Nat)) = IntKind.i64.wrap ((↑a0.length : Int) + (↑(rS (rT r6 (0 : Nat))).length : Int)))
 else false) fun x18 =>
 Let (bif x18 then decide (rI (rT r16 (2 : Nat)) = (0 : Int)) else false) fun x19 =>
 Br (x19 == true)
 (Call E0.P fn_l22_sections [] [] fun r20 g20 =>
 Req (g20 = [] ∧ r20 = .imm (.bool (rB r20)))
 (Let (rB r20) fun x21 =>
 Q (.imm (.bool x21)) []))
 (Req ((!true) = false)
 (Let (false) fun x22 =>
 Q (.imm (.bool x22)) []))))))))))))
 (Req ((!false) = true)
 (Let (true) fun x23 =>
 Br (x23)
 (Call E0.P fn_l22_sections [] [] fun r24 g24 =>
 Req (g24 = [] ∧ r24 = .imm (.bool (rB r24)))
 (Q (.imm (.bool (rB r24))) []))
 (Call E0.P fn_section_Print [(.imm (.sl a1k 4 a1))] [] fun r25 g25 =>
 Req (g25 = [] ∧ r25 = .tup [.imm (.str (rS (rT r25 (0 : Nat)))), .imm (.int .i64 (rI (rT r25 (1 : Nat))))])
 (Br (!decide (rI (rT r25 (1 : Nat)) = (0 : Int)))
 (Br ((rS (rT r25 (0 : Nat)) == []) == true)
 (Call E0.P fn_section_Check [(.imm (.sl a1k 4 a1))] [] fun r26 g26 =>
 Req (g26 = [] ∧ r26 = .imm (.int .i64 (rI r26)))
 (Let (decide (rI r26 = rI (rT r25 (1 : Nat)))) fun x27 =>
 Br (x27 == true)
 (Call E0.P fn_l22_sections [] [] fun r28 g28 =>
 Req (g28 = [] ∧ r28 = .imm (.bool (rB r28)))
 (Let (rB r28) fun x29 =>
 Q (.imm (.bool x29)) []))
 (Req ((!true) = false)
 (Let (false) fun x30 =>
 Q (.imm (.bool x30)) []))))
 (Req ((!true) = false)
 (Let (false) fun x31 =>
 Br (x31 == true)
 (Call E0.P fn_l22_sections [] [] fun r32 g32 =>
 Req (g32 = [] ∧ r32 = .imm (.bool (rB r32)))
 (Let (rB r32) fun x33 =>
 Q (.imm (.bool x33)) []))
 (Req ((!true) = false)
 (Let (false) fun x34 =>
 Q (.imm (.bool x34)) [])))))
 (Req ((↑(a0.length + (rS (rT r25 (0 : Nat))).length) : Int) ≤ (9223372036854775807 : Int))
 (Req ((↑((a0 ++ rS (rT r25 (0 : Nat))).length + a2.length) : Int) ≤ (9223372036854775807 : Int))
 (Call E0.P fn_section_Read [(.imm (.str (a0 ++ rS (rT r25 (0 : Nat)) ++ a2))), (.imm (.int .i64 ((↑a0.length : Int))))] [] fun r35 g35 =>
 Req (g35 = [] ∧
 r35 =
 .tup
 [.imm (.sl (rK (rT r35 (0 : Nat))) (4 : Nat) (rR (rT r35 (0 : Nat)))),
 .imm (.int .i64 (rI (rT r35 (1 : Nat)))), .imm (.int .i64 (rI (rT r35 (2 : Nat))))])
 (Call E0.P fn_r21_SameRows [(.imm (.sl (rK (rT r35 (0 : Nat))) 4 (rR (rT r35 (0 : Nat))))), (.imm (.sl a1k 4 a1))] [] fun r36 g36 =>
 Req (g36 = [] ∧ r36 = .imm (.bool (rB r36)))
 (Let (bif rB r36 then
 decide (rI (rT r35 (1 : Nat)) = IntKind.i64.wrap ((↑a0.length : Int) + (↑(rS (rT r25 (0 : Nat))).length : Int)))
 else false) fun x37 =>
 Let (bif x37 then decide (rI (rT r35 (2 : Nat)) = (0 : Int)) else false) fun x38 =>
 Br (x38 == true)
 (Call E0.P fn_l22_sections [] [] fun r39 g39 =>
 Req (g39 = [] ∧ r39 = .imm (.bool (rB r39)))
 (Let (rB r39) fun x40 =>
 Q (.imm (.bool x40)) []))
 (Req ((!true) = false)
 (Let (false) fun x41 =>
 Q (.imm (.bool x41)) []))))))))))))) : Call E0.P fn_l22_SectionBack [(.imm (.str a0)), (.imm (.sl a1k 4 a1)), (.imm (.str a2))] [] Q := fun_rule (envN E0 nt_l22_SectionBack) (okE nt_l22_SectionBack) 3 5 ac_l22_SectionBack [.tmp 6] ok_l22_SectionBack _ _ Q rfl rfl (cast (by kernel_rfl) h)
/-! ### l02_DigitsPuts -/
noncomputable def ac_l02_DigitsPuts : AC := (annot [] [4] (codeOf Tryd.f6) 0).1
abbrev nt_l02_DigitsPuts : Nat := 39
theorem ok_l02_DigitsPuts : FnOK E0.P 6 ac_l02_DigitsPuts.code nt_l02_DigitsPuts [.tmp 4] := fn_ok _ _ Tryd.f6 [] [4] _ 39 Tryd.func6 (by kernel_rfl) (by kernel_rfl) (by kernel_rfl) (by kernel_rfl)
theorem F_l02_DigitsPuts_of (a0 : Int) (a1 : Int) (Q : AV → Heap → Prop) (h :
 (Call E0.P fn_digits_Pad [(.imm (.int .i64 a0)), (.imm (.int .i64 a1))] [] fun r0 g0 =>
 Req (g0 = [] ∧ r0 = .tup [.imm (.str (rS (rT r0 (0 : Nat)))), .imm (.int .i64 (rI (rT r0 (1 : Nat))))])
 (Call E0.P fn_r02_Pad [(.imm (.int .i64 a0)), (.imm (.int .i64 a1))] [] fun r1 g1 =>
 Req (g1 = [] ∧ r1 = .tup [.imm (.str (rS (rT r1 (0 : Nat)))), .imm (.int .i64 (rI (rT r1 (1 : Nat))))])
 (Call E0.P fn_digits_Put [(.imm (.int .i64 a0))] [] fun r2 g2 =>
 Req (g2 = [] ∧ r2 = .imm (.str (rS r2)))
 (Call E0.P fn_r02_Put [(.imm (.int .i64 a0))] [] fun r3 g3 =>
 Req (g3 = [] ∧ r3 = .imm (.str (rS r3)))
 (Let (bif rS r2 == rS r3 then rS (rT r0 (0 : Nat)) == rS (rT r1 (0 : Nat)) else false) fun x4 =>
 Let (bif x4 then decide (rI (rT r0 (1 : Nat)) = rI (rT r1 (1 : Nat))) else false) fun x5 =>
 Br (x5 == true)
 (Call E0.P fn_l02_numbers [] [] fun r6 g6 =>
 Req (g6 = [] ∧ r6 = .imm (.bool (rB r6)))
 (Let (rB r6) fun x7 =>
 Q (.imm (.bool x7)) []))
 (Req ((!true) = false)
 (Let (false) fun x8 =>
 Q (.imm (.bool x8)) [])))))))) : Call E0.P fn_l02_DigitsPuts [(.imm (.int .i64 a0)), (.imm (.int .i64 a1))] [] Q := fun_rule (envN E0 nt_l02_DigitsPuts) (okE nt_l02_DigitsPuts) 3 6 ac_l02_DigitsPuts [.tmp 4] ok_l02_DigitsPuts _ _ Q rfl rfl (cast (by kernel_rfl) h)
/-! ### l02_DigitsReads -/
noncomputable def ac_l02_DigitsReads : AC := (annot [] [2] (codeOf Tryd.f7) 0).1
abbrev nt_l02_DigitsReads : Nat := 63
theorem ok_l02_DigitsReads : FnOK E0.P 7 ac_l02_DigitsReads.code nt_l02_DigitsReads [.tmp 2] := fn_ok _ _ Tryd.f7 [] [2] _ 63 Tryd.func7 (by kernel_rfl) (by kernel_rfl) (by kernel_rfl) (by kernel_rfl)
theorem F_l02_DigitsReads_of (a0 : List UInt8) (Q : AV → Heap → Prop) (h :
 (Br (decide ((2000 : Int) < (↑a0.length : Int)))
 (Call E0.P fn_l02_numbers [] [] fun r0 g0 =>
 Req (g0 = [] ∧ r0 = .imm (.bool (rB r0)))
 (Q (.imm (.bool (rB r0))) []))
 (Call E0.P fn_digits_Read [(.imm (.str a0))] [] fun r1 g1 =>
 Req (g1 = [] ∧
 r1 = .tup [.imm (.int .i64 (rI (rT r1 (0 : Nat)))), .imm (.int .i64 (rI (rT r1 (1 : Nat))))])
 (Call E0.P fn_r02_Read [(.imm (.str a0))] [] fun r2 g2 =>
 Req (g2 = [] ∧
 r2 = .tup [.imm (.int .i64 (rI (rT r2 (0 : Nat)))), .imm (.int .i64 (rI (rT r2 (1 : Nat))))])
 (Call E0.P fn_digits_Loose [(.imm (.str a0))] [] fun r3 g3 =>
 Req (g3 = [] ∧
 r3 = .tup [.imm (.int .i64 (rI (rT r3 (0 : Nat)))), .imm (.int .i64 (rI (rT r3 (1 : Nat))))])
 (Call E0.P fn_r02_Loose [(.imm (.str a0))] [] fun r4 g4 =>
 Req (g4 = [] ∧
 r4 = .tup [.imm (.int .i64 (rI (rT r4 (0 : Nat)))), .imm (.int .i64 (rI (rT r4 (1 : Nat))))])
 (Let (bif decide (rI (rT r1 (0 : Nat)) = rI (rT r2 (0 : Nat))) then decide (rI (rT r1 (1 : Nat)) = rI (rT r2 (1 : Nat)))
 else false) fun x5 =>
 Let (bif x5 then decide (rI (rT r3 (0 : Nat)) = rI (rT r4 (0 : Nat))) else false) fun x6 =>
 Let (bif x6 then decide (rI (rT r3 (1 : Nat)) = rI (rT r4 (1 : Nat))) else false) fun x7 =>
 Br (x7 == true)
 (Call E0.P fn_digits_Count [(.imm (.str a0))] [] fun r8 g8 =>
 Req (g8 = [] ∧ r8 = .imm (.int .i64 (rI r8)))
 (Call E0.P fn_r02_Count [(.imm (.str a0))] [] fun r9 g9 =>
 Req (g9 = [] ∧ r9 = .imm (.int .i64 (rI r9)))
 (Let (decide (rI r8 = rI r9)) fun x10 =>
 Br (x10 == true)
 (Call E0.P fn_l02_numbers [] [] fun r11 g11 =>
 Req (g11 = [] ∧ r11 = .imm (.bool (rB r11)))
 (Let (rB r11) fun x12 =>
 Q (.imm (.bool x12)) []))
 (Req ((!true) = false)
 (Let (false) fun x13 =>
 Q (.imm (.bool x13)) [])))))
 (Req ((!true) = false)
 (Let (false) fun x14 =>
 Br (x14 == true)
 (Call E0.P fn_l02_numbers [] [] fun r15 g15 =>
 Req (g15 = [] ∧ r15 = .imm (.bool (rB r15)))
 (Let (rB r15) fun x16 =>
 Q (.imm (.bool x16)) []))
 (Req ((!true) = false)
 (Let (false) fun x17 =>
 Q (.imm (.bool x17)) []))))))))))) : Call E0.P fn_l02_DigitsReads [(.imm (.str a0))] [] Q := fun_rule (envN E0 nt_l02_DigitsReads) (okE nt_l02_DigitsReads) 3 7 ac_l02_DigitsReads [.tmp 2] ok_l02_DigitsReads _ _ Q rfl rfl (cast (by kernel_rfl) h)
/-! ### l02_DigitsFixes -/
noncomputable def ac_l02_DigitsFixes : AC := (annot [] [2] (codeOf Tryd.f8) 0).1
abbrev nt_l02_DigitsFixes : Nat := 32
theorem ok_l02_DigitsFixes : FnOK E0.P 8 ac_l02_DigitsFixes.code nt_l02_DigitsFixes [.tmp 2] := fn_ok _ _ Tryd.f8 [] [2] _ 32 Tryd.func8 (by kernel_rfl) (by kernel_rfl) (by kernel_rfl) (by kernel_rfl)
theorem F_l02_DigitsFixes_of (a0 : List UInt8) (Q : AV → Heap → Prop) (h :
 (Br (decide ((2000 : Int) < (↑a0.length : Int)))
 (Call E0.P fn_l02_numbers [] [] fun r0 g0 =>
 Req (g0 = [] ∧ r0 = .imm (.bool (rB r0)))
 (Q (.imm (.bool (rB r0))) []))
 (Call E0.P fn_digits_Fixed [(.imm (.str a0))] [] fun r1 g1 =>
 Req (g1 = [] ∧
 r1 = .tup [.imm (.int .i64 (rI (rT r1 (0 : Nat)))), .imm (.int .i64 (rI (rT r1 (1 : Nat))))])
 (Call E0.P fn_r02_Fixed [(.imm (.str a0))] [] fun r2 g2 =>
 Req (g2 = [] ∧
 r2 = .tup [.imm (.int .i64 (rI (rT r2 (0 : Nat)))), .imm (.int .i64 (rI (rT r2 (1 : Nat))))])
 (Let (bif decide (rI (rT r1 (0 : Nat)) = rI (rT r2 (0 : Nat))) then decide (rI (rT r1 (1 : Nat)) = rI (rT r2 (1 : Nat)))
 else false) fun x3 =>
 Br (x3 == true)
 (Call E0.P fn_l02_numbers [] [] fun r4 g4 =>
 Req (g4 = [] ∧ r4 = .imm (.bool (rB r4)))
 (Let (rB r4) fun x5 =>
 Q (.imm (.bool x5)) []))
 (Req ((!true) = false)
 (Let (false) fun x6 =>
 Q (.imm (.bool x6)) []))))))) : Call E0.P fn_l02_DigitsFixes [(.imm (.str a0))] [] Q := fun_rule (envN E0 nt_l02_DigitsFixes) (okE nt_l02_DigitsFixes) 3 8 ac_l02_DigitsFixes [.tmp 2] ok_l02_DigitsFixes _ _ Q rfl rfl (cast (by kernel_rfl) h)
/-! ### l02_DigitsBack -/
noncomputable def ac_l02_DigitsBack : AC := (annot [] [4] (codeOf Tryd.f9) 0).1
abbrev nt_l02_DigitsBack : Nat := 110
theorem ok_l02_DigitsBack : FnOK E0.P 9 ac_l02_DigitsBack.code nt_l02_DigitsBack [.tmp 4] := fn_ok _ _ Tryd.f9 [] [4] _ 110 Tryd.func9 (by kernel_rfl) (by kernel_rfl) (by kernel_rfl) (by kernel_rfl)
theorem F_l02_DigitsBack_of (a0 : Int) (a1 : Int) (Q : AV → Heap → Prop) (h :
 (Br (decide (IntKind.i64.wrap a0 < (-2147483647 : Int)))
 (Call E0.P fn_l02_numbers [] [] fun r0 g0 =>
 Req (g0 = [] ∧ r0 = .imm (.bool (rB r0)))
 (Q (.imm (.bool (rB r0))) []))
 (Call E0.P fn_digits_Put [(.imm (.int .i64 (IntKind.i64.wrap a0)))] [] fun r1 g1 =>
 Req (g1 = [] ∧ r1 = .imm (.str (rS r1)))
 (Call E0.P fn_digits_Read [(.imm (.str (rS r1)))] [] fun r2 g2 =>
 Req (g2 = [] ∧
 r2 = .tup [.imm (.int .i64 (rI (rT r2 (0 : Nat)))), .imm (.int .i64 (rI (rT r2 (1 : Nat))))])
 (Call E0.P fn_digits_Put [(.imm (.int .i64 (IntKind.i64.wrap a0)))] [] fun r3 g3 =>
 Req (g3 = [] ∧ r3 = .imm (.str (rS r3)))
 (Call E0.P fn_digits_Loose [(.imm (.str (rS r3)))] [] fun r4 g4 =>
 Req (g4 = [] ∧
 r4 = .tup [.imm (.int .i64 (rI (rT r4 (0 : Nat)))), .imm (.int .i64 (rI (rT r4 (1 : Nat))))])
 (Let (bif !decide (rI (rT r2 (0 : Nat)) = IntKind.i64.wrap a0) then true
 else !decide (rI (rT r4 (0 : Nat)) = IntKind.i64.wrap a0)) fun x5 =>
 Let (bif x5 then true else !decide (rI (rT r2 (1 : Nat)) = (0 : Int))) fun x6 =>
 Let (bif x6 then true else !decide (rI (rT r4 (1 : Nat)) = (0 : Int))) fun x7 =>
 Br (x7)
 (Q (.imm (.bool false)) [])
 (Req ((30 : Int) ≠ (0 : Int))
 (Call E0.P fn_digits_Pad [(.imm (.int .i64 (IntKind.i64.wrap a0))), (.imm (.int .i64 (IntKind.i64.wrap (a1.tmod (30 : Int)))))] [] fun r8 g8 =>
 Req (g8 = [] ∧ r8 = .tup [.imm (.str (rS (rT r8 (0 : Nat)))), .imm (.int .i64 (rI (rT r8 (1 : Nat))))])
 (Br (!decide (rI (rT r8 (1 : Nat)) = (0 : Int)))
 (Br ((rS (rT r8 (0 : Nat)) == []) == true)
 (Let (bif decide (IntKind.i64.wrap (a1.tmod (30 : Int)) < (1 : Int)) then true
 else decide ((20 : Int) < IntKind.i64.wrap (a1.tmod (30 : Int)))) fun x9 =>
 Let (bif x9 then true else decide (IntKind.i64.wrap a0 < (0 : Int))) fun x10 =>
 Br (x10 == false)
 (Call E0.P fn_digits_Put [(.imm (.int .i64 (IntKind.i64.wrap a0)))] [] fun r11 g11 =>
 Req (g11 = [] ∧ r11 = .imm (.str (rS r11)))
 (Let (decide (IntKind.i64.wrap (a1.tmod (30 : Int)) < (↑(rS r11).length : Int))) fun x12 =>
 Let (x12) fun x13 =>
 Br (x13 == true)
 (Call E0.P fn_l02_numbers [] [] fun r14 g14 =>
 Req (g14 = [] ∧ r14 = .imm (.bool (rB r14)))
 (Let (rB r14) fun x15 =>
 Q (.imm (.bool x15)) []))
 (Req ((!true) = false)
 (Let (false) fun x16 =>
 Q (.imm (.bool x16)) []))))
 (Req ((!false) = true)
 (Let (true) fun x17 =>
 Let (x17) fun x18 =>
 Br (x18 == true)
 (Call E0.P fn_l02_numbers [] [] fun r19 g19 =>
 Req (g19 = [] ∧ r19 = .imm (.bool (rB r19)))
 (Let (rB r19) fun x20 =>
 Q (.imm (.bool x20)) []))
 (Req ((!true) = false)
 (Let (false) fun x21 =>
 Q (.imm (.bool x21)) [])))))
 (Req ((!true) = false)
 (Let (false) fun x22 =>
 Br (x22 == true)
 (Call E0.P fn_l02_numbers [] [] fun r23 g23 =>
 Req (g23 = [] ∧ r23 = .imm (.bool (rB r23)))
 (Let (rB r23) fun x24 =>
 Q (.imm (.bool x24)) []))
 (Req ((!true) = false)
 (Let (false) fun x25 =>
 Q (.imm (.bool x25)) [])))))
 (Call E0.P fn_digits_Fixed [(.imm (.str (rS (rT r8 (0 : Nat)))))] [] fun r26 g26 =>
 Req (g26 = [] ∧
 r26 =
 .tup [.imm (.int .i64 (rI (rT r26 (0 : Nat)))), .imm (.int .i64 (rI (rT r26 (1 : Nat))))])
 (Let (bif decide ((↑(rS (rT r8 (0 : Nat))).length : Int) = IntKind.i64.wrap (a1.tmod (30 : Int))) then
 decide (rI (rT r26 (0 : Nat)) = IntKind.i64.wrap a0)
 else false) fun x27 =>
 Let (bif x27 then decide (rI (rT r26 (1 : Nat)) = (0 : Int)) else false) fun x28 =>
 Br (x28 == true)
 (Call E0.P fn_digits_Count [(.imm (.str (rS (rT r8 (0 : Nat)))))] [] fun r29 g29 =>
 Req (g29 = [] ∧ r29 = .imm (.int .i64 (rI r29)))
 (Let (decide (rI r29 = IntKind.i64.wrap (a1.tmod (30 : Int)))) fun x30 =>
 Br (x30 == true)
 (Call E0.P fn_l02_numbers [] [] fun r31 g31 =>
 Req (g31 = [] ∧ r31 = .imm (.bool (rB r31)))
 (Let (rB r31) fun x32 =>
 Q (.imm (.bool x32)) []))
 (Req ((!true) = false)
 (Let (false) fun x33 =>
 Q (.imm (.bool x33)) []))))
 (Req ((!true) = false)
 (Let (false) fun x34 =>
 Br (x34 == true)
 (Call E0.P fn_l02_numbers [] [] fun r35 g35 =>
 Req (g35 = [] ∧ r35 = .imm (.bool (rB r35)))
 (Let (rB r35) fun x36 =>
 Q (.imm (.bool x36)) []))
 (Req ((!true) = false)
 (Let (false) fun x37 =>
 Q (.imm (.bool x37)) [])))))))))))))))) : Call E0.P fn_l02_DigitsBack [(.imm (.int .i32 a0)), (.imm (.int .u8 a1))] [] Q := fun_rule (envN E0 nt_l02_DigitsBack) (okE nt_l02_DigitsBack) 3 9 ac_l02_DigitsBack [.tmp 4] ok_l02_DigitsBack _ _ Q rfl rfl (cast (by kernel_rfl) h)
/-! ### l22_sections -/
noncomputable def ac_l22_sections : AC := (annot [] [0] (codeOf Tryd.f10) 0).1
abbrev nt_l22_sections : Nat := 64
theorem ok_l22_sections : FnOK E0.P 10 ac_l22_sections.code nt_l22_sections [.tmp 0] := fn_ok _ _ Tryd.f10 [] [0] _ 64 Tryd.func10 (by kernel_rfl) (by kernel_rfl) (by kernel_rfl) (by kernel_rfl)
theorem F_l22_sections_of (Q : AV → Heap → Prop) (h :
 (Call E0.P fn_section_Print [(.imm (.sl .any 4 [[.int .i64 (0 : Int), .int .i64 (0 : Int), .int .i64 (0 : Int),
 .int .i64 (65535 : Int)],
 [.int .i64 (3 : Int), .int .i64 (1 : Int), .int .i64 (17 : Int),
 .int .i64 (0 : Int)]]))] [] fun r0 g0 =>
 Req (g0 = [] ∧ r0 = .tup [.imm (.str (rS (rT r0 (0 : Nat)))), .imm (.int .i64 (rI (rT r0 (1 : Nat))))])
 (Req ((↑((rS (rT r0 (0 : Nat))).length + (1 : Nat)) : Int) ≤ (9223372036854775807 : Int))
 (Call E0.P fn_section_Read [(.imm (.str (rS (rT r0 (0 : Nat)) ++ [(116 : UInt8)]))), (.imm (.int .i64 ((0 : Int))))] [] fun r1 g1 =>
 Req (g1 = [] ∧
 r1 =
 .tup
 [.imm (.sl (rK (rT r1 (0 : Nat))) (4 : Nat) (rR (rT r1 (0 : Nat)))),
 .imm (.int .i64 (rI (rT r1 (1 : Nat)))), .imm (.int .i64 (rI (rT r1 (2 : Nat))))])
 (Call E0.P fn_section_Read [(.imm (.str [(120 : UInt8), (114 : UInt8), (101 : UInt8), (102 : UInt8), (10 : UInt8), (48 : UInt8), (32 : UInt8), (49 : UInt8),
 (10 : UInt8)])), (.imm (.int .i64 ((0 : Int))))] [] fun r2 g2 =>
 Req (g2 = [] ∧
 r2 =
 .tup
 [.imm (.sl (rK (rT r2 (0 : Nat))) (4 : Nat) (rR (rT r2 (0 : Nat)))),
 .imm (.int .i64 (rI (rT r2 (1 : Nat)))), .imm (.int .i64 (rI (rT r2 (2 : Nat))))])
 (Let (bif
 rS (rT r0 (0 : Nat)) ==
 [(120 : UInt8), (114 : UInt8), (101 : UInt8), (102 : UInt8), (10 : UInt8), (48 : UInt8), (32 : UInt8),
 (49 : UInt8), (10 : UInt8), (48 : UInt8), (48 : UInt8), (48 : UInt8), (48 : UInt8), (48 : UInt8), (48 : UInt8),
 (48 : UInt8), (48 : UInt8), (48 : UInt8), (48 : UInt8), (32 : UInt8), (54 : UInt8), (53 : UInt8), (53 : UInt8),
 (51 : UInt8), (53 : UInt8), (32 : UInt8), (102 : UInt8), (32 : UInt8), (10 : UInt8), (51 : UInt8), (32 : UInt8),
 (49 : UInt8), (10 : UInt8), (48 : UInt8), (48 : UInt8), (48 : UInt8), (48 : UInt8), (48 : UInt8), (48 : UInt8),
 (48 : UInt8), (48 : UInt8), (49 : UInt8), (55 : UInt8), (32 : UInt8), (48 : UInt8), (48 : UInt8), (48 : UInt8),
 (48 : UInt8), (48 : UInt8), (32 : UInt8), (110 : UInt8), (32 : UInt8), (10 : UInt8)] then
 decide (rI (rT r0 (1 : Nat)) = (0 : Int))
 else false) fun x3 =>
 Br (x3 == true)
 (Call E0.P fn_r21_SameRows [(.imm (.sl .any 4 [[.int .i64 (0 : Int), .int .i64 (0 : Int), .int .i64 (0 : Int),
 .int .i64 (65535 : Int)],
 [.int .i64 (3 : Int), .int .i64 (1 : Int), .int .i64 (17 : Int),
 .int .i64 (0 : Int)]])), (.imm (.sl (rK (rT r1 (0 : Nat))) 4 (rR (rT r1 (0 : Nat)))))] [] fun r4 g4 =>
 Req (g4 = [] ∧ r4 = .imm (.bool (rB r4)))
 (Let (rB r4) fun x5 =>
 Let (bif x5 then decide (rI (rT r1 (1 : Nat)) = (↑(rS (rT r0 (0 : Nat))).length : Int)) else false) fun x6 =>
 Let (bif x6 then decide (rI (rT r1 (2 : Nat)) = (0 : Int)) else false) fun x7 =>
 Let (bif x7 then decide (rI (rT r2 (2 : Nat)) = (5 : Int)) else false) fun x8 =>
 Br (x8 == true)
 (Call E0.P fn_section_Check [(.imm (.sl .any 4 [[.int .i64 (1 : Int), .int .i64 (0 : Int), .int .i64 (0 : Int),
 .int .i64 (0 : Int)],
 [.int .i64 (1 : Int), .int .i64 (0 : Int), .int .i64 (0 : Int),
 .int .i64 (0 : Int)]]))] [] fun r9 g9 =>
 Req (g9 = [] ∧ r9 = .imm (.int .i64 (rI r9)))
 (Let (decide (rI r9 = (15 : Int))) fun x10 =>
 Q (.imm (.bool x10)) []))
 (Req ((!true) = false)
 (Let (false) fun x11 =>
 Q (.imm (.bool x11)) []))))
 (Req ((!true) = false)
 (Let (false) fun x12 =>
 Let (bif x12 then decide (rI (rT r1 (1 : Nat)) = (↑(rS (rT r0 (0 : Nat))).length : Int)) else false) fun x13 =>
 Let (bif x13 then decide (rI (rT r1 (2 : Nat)) = (0 : Int)) else false) fun x14 =>
 Let (bif x14 then decide (rI (rT r2 (2 : Nat)) = (5 : Int)) else false) fun x15 =>
 Br (x15 == true)
 (Call E0.P fn_section_Check [(.imm (.sl .any 4 [[.int .i64 (1 : Int), .int .i64 (0 : Int), .int .i64 (0 : Int),
 .int .i64 (0 : Int)],
 [.int .i64 (1 : Int), .int .i64 (0 : Int), .int .i64 (0 : Int),
 .int .i64 (0 : Int)]]))] [] fun r16 g16 =>
 Req (g16 = [] ∧ r16 = .imm (.int .i64 (rI r16)))
 (Let (decide (rI r16 = (15 : Int))) fun x17 =>
 Q (.imm (.bool x17)) []))
 (Req ((!true) = false)
 (Let (false) fun x18 =>
 Q (.imm (.bool x18)) [])))))))))) : Call E0.P fn_l22_sections [] [] Q := fun_rule (envN E0 nt_l22_sections) (okE nt_l22_sections) 3 10 ac_l22_sections [.tmp 0] ok_l22_sections _ _ Q rfl rfl (cast (by kernel_rfl) h)
/-! ### section_Print -/
noncomputable def ac_section_Print : AC := (annot [(12, [0, 5, 6, 22, 23, 24], []), (14, [5], []), (19, [0, 5, 6, 7, 8, 9, 22, 23, 24], []), (21, [0, 5, 6, 8, 9, 22, 23, 24], []), (23, [0, 5, 6, 8, 9, 22, 23, 24], [0, 5, 6, 8, 22, 23, 24]), (24, [0, 5, 6, 8, 22, 23, 24], [0, 5, 6, 22, 23, 24]), (25, [0, 5, 6, 22, 23, 24], [0, 5, 6, 22, 23, 24]), (26, [5], [])] [2, 3] (codeOf Tryd.f11) 0).1
abbrev nt_section_Print : Nat := 67
def L_section_Print_12 (t0k : SK) (t0r : List (List IV)) (t22k : SK) (t22r : List (List IV)) (t23 : Int) (t24 : Int) (h211_1 : Int) (h51r : List (List IV)) (K : Ex → St → Prop) : Prop := LoopOK 12 E0.P nt_section_Print (lbodyOf 12 ac_section_Print).code ⟨[(0, (.imm (.sl t0k 4 t0r))), (5, (.ptr (Nm.loc (5 : Nat)) 0)), (6, (.fn 54 [(.ptr (Nm.sub (21 : Nat) (Nm.loc (1 : Nat))) 0)])), (22, (.imm (.sl t22k 4 t22r))), (23, (.imm (.int .i64 t23))), (24, (.imm (.int .i64 t24)))], [((Nm.loc (5 : Nat)), (.blk ty_strings_Builder [(.ptr (Nm.loc (5 : Nat)) 0), (.own ((Nm.loc (5 : Nat)).cell (1 : Nat)))])), ((Nm.sub (21 : Nat) (Nm.loc (1 : Nat))), (.blk ty_int [(.imm (.int .i64 h211_1))])), (((Nm.loc (5 : Nat)).cell (1 : Nat)), (.arr 7 true 1 h51r))]⟩ K
def L_section_Print_19 (t0k : SK) (t0r : List (List IV)) (t7 : Int) (t9 : Int) (t22k : SK) (t22r : List (List IV)) (t23 : Int) (t24 : Int) (h211_1 : Int) (h8_1_0 : Int) (h8_1_1 : Int) (h8_1_2 : Int) (h8_1_3 : Int) (h51r : List (List IV)) (K : Ex → St → Prop) : Prop := LoopOK 19 E0.P nt_section_Print (lbodyOf 19 ac_section_Print).code ⟨[(0, (.imm (.sl t0k 4 t0r))), (5, (.ptr (Nm.loc (5 : Nat)) 0)), (6, (.fn 54 [(.ptr (Nm.sub (21 : Nat) (Nm.loc (1 : Nat))) 0)])), (7, (.imm (.int .i64 t7))), (8, (.ptr (Nm.loc (8 : Nat)) 0)), (9, (.imm (.int .i64 t9))), (22, (.imm (.sl t22k 4 t22r))), (23, (.imm (.int .i64 t23))), (24, (.imm (.int .i64 t24)))], [((Nm.loc (5 : Nat)), (.blk ty_strings_Builder [(.ptr (Nm.loc (5 : Nat)) 0), (.own ((Nm.loc (5 : Nat)).cell (1 : Nat)))])), ((Nm.sub (21 : Nat) (Nm.loc (1 : Nat))), (.blk ty_int [(.imm (.int .i64 h211_1))])), ((Nm.loc (8 : Nat)), (.blk ty_api_Row [(.imm (.int .i64 h8_1_0)), (.imm (.int .i64 h8_1_1)), (.imm (.int .i64 h8_1_2)), (.imm (.int .i64 h8_1_3))])), (((Nm.loc (5 : Nat)).cell (1 : Nat)), (.arr 7 true 1 h51r))]⟩ K
def C_section_Print_24 (t0k : SK) (t0r : List (List IV)) (t22k : SK) (t22r : List (List IV)) (t23 : Int) (t24 : Int) (h211_1 : Int) (h8_1_0 : Int) (h8_1_1 : Int) (h8_1_2 : Int) (h8_1_3 : Int) (h51r : List (List IV)) (K : Ex → St → Prop) : Prop := CutOK 24 E0.P nt_section_Print (cbodyOf 24 ac_section_Print).code ⟨[(0, (.imm (.sl t0k 4 t0r))), (5, (.ptr (Nm.loc (5 : Nat)) 0)), (6, (.fn 54 [(.ptr (Nm.sub (21 : Nat) (Nm.loc (1 : Nat))) 0)])), (8, (.ptr (Nm.loc (8 : Nat)) 0)), (22, (.imm (.sl t22k 4 t22r))), (23, (.imm (.int .i64 t23))), (24, (.imm (.int .i64 t24)))], [((Nm.loc (5 : Nat)), (.blk ty_strings_Builder [(.ptr (Nm.loc (5 : Nat)) 0), (.own ((Nm.loc (5 : Nat)).cell (1 : Nat)))])), ((Nm.sub (21 : Nat) (Nm.loc (1 : Nat))), (.blk ty_int [(.imm (.int .i64 h211_1))])), ((Nm.loc (8 : Nat)), (.blk ty_api_Row [(.imm (.int .i64 h8_1_0)), (.imm (.int .i64 h8_1_1)), (.imm (.int .i64 h8_1_2)), (.imm (.int .i64 h8_1_3))])), (((Nm.loc (5 : Nat)).cell (1 : Nat)), (.arr 7 true 1 h51r))]⟩ K
def C_section_Print_26 (h51r : List (List IV)) (K : Ex → St → Prop) : Prop := CutOK 26 E0.P nt_section_Print (cbodyOf 26 ac_section_Print).code ⟨[(5, (.ptr (Nm.loc (5 : Nat)) 0))], [((Nm.loc (5 : Nat)), (.blk ty_strings_Builder [(.ptr (Nm.loc (5 : Nat)) 0), (.own ((Nm.loc (5 : Nat)).cell (1 : Nat)))])), (((Nm.loc (5 : Nat)).cell (1 : Nat)), (.arr 7 true 1 h51r))]⟩ K
def C_section_Print_25 (t0k : SK) (t0r : List (List IV)) (t22k : SK) (t22r : List (List IV)) (t23 : Int) (t24 : Int) (h211_1 : Int) (h51r : List (List IV)) (K : Ex → St → Prop) : Prop := CutOK 25 E0.P nt_section_Print (cbodyOf 25 ac_section_Print).code ⟨[(0, (.imm (.sl t0k 4 t0r))), (5, (.ptr (Nm.loc (5 : Nat)) 0)), (6, (.fn 54 [(.ptr (Nm.sub (21 : Nat) (Nm.loc (1 : Nat))) 0)])), (22, (.imm (.sl t22k 4 t22r))), (23, (.imm (.int .i64 t23))), (24, (.imm (.int .i64 t24)))], [((Nm.loc (5 : Nat)), (.blk ty_strings_Builder [(.ptr (Nm.loc (5 : Nat)) 0), (.own ((Nm.loc (5 : Nat)).cell (1 : Nat)))])), ((Nm.sub (21 : Nat) (Nm.loc (1 : Nat))), (.blk ty_int [(.imm (.int .i64 h211_1))])), (((Nm.loc (5 : Nat)).cell (1 : Nat)), (.arr 7 true 1 h51r))]⟩ K
def C_section_Print_23 (t0k : SK) (t0r : List (List IV)) (t9 : Int) (t22k : SK) (t22r : List (List IV)) (t23 : Int) (t24 : Int) (h211_1 : Int) (h8_1_0 : Int) (h8_1_1 : Int) (h8_1_2 : Int) (h8_1_3 : Int) (h51r : List (List IV)) (K : Ex → St → Prop) : Prop := CutOK 23 E0.P nt_section_Print (cbodyOf 23 ac_section_Print).code ⟨[(0, (.imm (.sl t0k 4 t0r))), (5, (.ptr (Nm.loc (5 : Nat)) 0)), (6, (.fn 54 [(.ptr (Nm.sub (21 : Nat) (Nm.loc (1 : Nat))) 0)])), (8, (.ptr (Nm.loc (8 : Nat)) 0)), (9, (.imm (.int .i64 t9))), (22, (.imm (.sl t22k 4 t22r))), (23, (.imm (.int .i64 t23))), (24, (.imm (.int .i64 t24)))], [((Nm.loc (5 : Nat)), (.blk ty_strings_Builder [(.ptr (Nm.loc (5 : Nat)) 0), (.own ((Nm.loc (5 : Nat)).cell (1 : Nat)))])), ((Nm.sub (21 : Nat) (Nm.loc (1 : Nat))), (.blk ty_int [(.imm (.int .i64 h211_1))])), ((Nm.loc (8 : Nat)), (.blk ty_api_Row [(.imm (.int .i64 h8_1_0)), (.imm (.int .i64 h8_1_1)), (.imm (.int .i64 h8_1_2)), (.imm (.int .i64 h8_1_3))])), (((Nm.loc (5 : Nat)).cell (1 : Nat)), (.arr 7 true 1 h51r))]⟩ K
def K_section_Print_0 (Q : AV → Heap → Prop) : Ex → St → Prop
 | .normal, st => finish E0.T [.tmp 2, .tmp 3] [] Q st
 | .exit i, st => False
 | .goto i, st => False
 | .ret, st => finish E0.T [.tmp 2, .tmp 3] [] Q st
def K_section_Print_1 (Q : AV → Heap → Prop) : Ex → St → Prop
 | .normal, st => CutOK 26 E0.P nt_section_Print (cbodyOf 26 ac_section_Print).code (mask [(5 : Nat)] st) (K_section_Print_0 Q)
 | .exit i, st => (match (i.beq (0 : Nat) : Bool) with
 | true => CutOK 26 E0.P nt_section_Print (cbodyOf 26 ac_section_Print).code (mask [(5 : Nat)] st) (K_section_Print_0 Q)
 | false => False)
 | .goto i, st => False
 | .ret, st => finish E0.T [.tmp 2, .tmp 3] [] Q st
def K_section_Print_2 (K : Ex → St → Prop) : Ex → St → Prop
 | .normal, st => LoopOK 12 E0.P nt_section_Print (lbodyOf 12 ac_section_Print).code (mask [(0 : Nat), (5 : Nat), (6 : Nat), (22 : Nat), (23 : Nat), (24 : Nat)] st) K
 | .exit i, st => K (.exit i) st
 | .goto i, st => K (.goto i) st
 | .ret, st => K .ret st
def K_section_Print_3 (K : Ex → St → Prop) : Ex → St → Prop
 | .normal, st => CutOK 25 E0.P nt_section_Print (cbodyOf 25 ac_section_Print).code (mask [(0 : Nat), (5 : Nat), (6 : Nat), (22 : Nat), (23 : Nat), (24 : Nat)] st) (K_section_Print_2 K)
 | .exit i, st => (match (i.beq (1 : Nat) : Bool) with
 | true => CutOK 25 E0.P nt_section_Print (cbodyOf 25 ac_section_Print).code (mask [(0 : Nat), (5 : Nat), (6 : Nat), (22 : Nat), (23 : Nat), (24 : Nat)] st) (K_section_Print_2 K)
 | false => K (.exit i) st)
 | .goto i, st => K (.goto i) st
 | .ret, st => K .ret st
def K_section_Print_4 (K : Ex → St → Prop) : Ex → St → Prop
 | .normal, st => CutOK 24 E0.P nt_section_Print (cbodyOf 24 ac_section_Print).code (mask [(0 : Nat), (5 : Nat), (6 : Nat), (8 : Nat), (22 : Nat), (23 : Nat), (24 : Nat)] st) (K_section_Print_3 K)
 | .exit i, st => (match (i.beq (1 : Nat) : Bool) with
 | true => CutOK 25 E0.P nt_section_Print (cbodyOf 25 ac_section_Print).code (mask [(0 : Nat), (5 : Nat), (6 : Nat), (22 : Nat), (23 : Nat), (24 : Nat)] st) (K_section_Print_2 K)
 | false => K (.exit i) st)
 | .goto i, st => K (.goto i) st
 | .ret, st => K .ret st
def K_section_Print_5 (K : Ex → St → Prop) : Ex → St → Prop
 | .normal, st => CutOK 23 E0.P nt_section_Print (cbodyOf 23 ac_section_Print).code (mask [(0 : Nat), (5 : Nat), (6 : Nat), (8 : Nat), (9 : Nat), (22 : Nat), (23 : Nat), (24 : Nat)] st) (K_section_Print_4 K)
 | .exit i, st => (match (i.beq (2 : Nat) : Bool) with
 | true => CutOK 23 E0.P nt_section_Print (cbodyOf 23 ac_section_Print).code (mask [(0 : Nat), (5 : Nat), (6 : Nat), (8 : Nat), (9 : Nat), (22 : Nat), (23 : Nat), (24 : Nat)] st) (K_section_Print_4 K)
 | false => (match (i.beq (1 : Nat) : Bool) with
 | true => CutOK 25 E0.P nt_section_Print (cbodyOf 25 ac_section_Print).code (mask [(0 : Nat), (5 : Nat), (6 : Nat), (22 : Nat), (23 : Nat), (24 : Nat)] st) (K_section_Print_2 K)
 | false => K (.exit i) st))
 | .goto i, st => K (.goto i) st
 | .ret, st => K .ret st
theorem L_section_Print_12_of (t0k : SK) (t0r : List (List IV)) (t22k : SK) (t22r : List (List IV)) (t23 : Int) (t24 : Int) (h211_1 : Int) (h51r : List (List IV)) (K : Ex → St → Prop) (h :
 (Br (decide (t24 < t23))
 (Req (((0 : Int) ≤ t24 ∧ t24 < (↑t22r.length : Int)) ∧
 shOK [.int .i64, .int .i64, .int .i64, .int .i64] (t22r.getD t24.toNat []) = true)
 (Br (!decide (gI (t22r.getD t24.toNat []) (0 : Nat) = h211_1))
 (L_section_Print_19 t0k t0r t24 ((1 : Int)) t22k t22r t23 t24 (IntKind.i64.wrap (gI (t22r.getD t24.toNat []) (0 : Nat) + (1 : Int))) (gI (t22r.getD t24.toNat []) (0 : Nat)) (gI (t22r.getD t24.toNat []) (1 : Nat)) (gI (t22r.getD t24.toNat []) (2 : Nat)) (gI (t22r.getD t24.toNat []) (3 : Nat)) h51r (K_section_Print_5 K))
 (C_section_Print_24 t0k t0r t22k t22r t23 t24 (IntKind.i64.wrap (gI (t22r.getD t24.toNat []) (0 : Nat) + (1 : Int))) (gI (t22r.getD t24.toNat []) (0 : Nat)) (gI (t22r.getD t24.toNat []) (1 : Nat)) (gI (t22r.getD t24.toNat []) (2 : Nat)) (gI (t22r.getD t24.toNat []) (3 : Nat)) h51r (K_section_Print_3 K))))
 (K (.exit 0) ⟨[(5, (.ptr (Nm.loc (5 : Nat)) 0))], [((Nm.loc (5 : Nat)), (.blk ty_strings_Builder [(.ptr (Nm.loc (5 : Nat)) 0), (.own ((Nm.loc (5 : Nat)).cell (1 : Nat)))])), (((Nm.loc (5 : Nat)).cell (1 : Nat)), (.arr 7 true 1 h51r))]⟩))) : L_section_Print_12 t0k t0r t22k t22r t23 t24 h211_1 h51r K := loop_rule (envN E0 nt_section_Print) (okE nt_section_Print) 3 12 (lbodyOf 12 ac_section_Print) [0, 5, 6, 22, 23, 24] _ K rfl (cast (by kernel_rfl) h)
theorem L_section_Print_19_of (t0k : SK) (t0r : List (List IV)) (t7 : Int) (t9 : Int) (t22k : SK) (t22r : List (List IV)) (t23 : Int) (t24 : Int) (h211_1 : Int) (h8_1_0 : Int) (h8_1_1 : Int) (h8_1_2 : Int) (h8_1_3 : Int) (h51r : List (List IV)) (K : Ex → St → Prop) (h :
 (Req (decide (IntKind.i64.wrap (t7 + t9) < (↑t0r.length : Int)) = true →
 ((0 : Int) ≤ IntKind.i64.wrap (t7 + t9) ∧ IntKind.i64.wrap (t7 + t9) < (↑t0r.length : Int)) ∧
 shOK [.int .i64, .int .i64, .int .i64, .int .i64]
 (t0r.getD (IntKind.i64.wrap (t7 + t9)).toNat []) =
 true)
 (Let (bif decide (IntKind.i64.wrap (t7 + t9) < (↑t0r.length : Int)) then
 decide (gI (t0r.getD (IntKind.i64.wrap (t7 + t9)).toNat []) (0 : Nat) = IntKind.i64.wrap (h8_1_0 + t9))
 else false) fun x0 =>
 Br (x0)
 (L_section_Print_19 t0k t0r t7 (IntKind.i64.wrap (t9 + (1 : Int))) t22k t22r t23 t24 h211_1 h8_1_0 h8_1_1 h8_1_2 h8_1_3 h51r K)
 (K (.exit ((2 : Nat))) ⟨[(0, (.imm (.sl t0k 4 t0r))), (5, (.ptr (Nm.loc (5 : Nat)) 0)), (6, (.fn 54 [(.ptr (Nm.sub (21 : Nat) (Nm.loc (1 : Nat))) 0)])), (8, (.ptr (Nm.loc (8 : Nat)) 0)), (9, (.imm (.int .i64 t9))), (22, (.imm (.sl t22k 4 t22r))), (23, (.imm (.int .i64 t23))), (24, (.imm (.int .i64 t24)))], [((Nm.loc (5 : Nat)), (.blk ty_strings_Builder [(.ptr (Nm.loc (5 : Nat)) 0), (.own ((Nm.loc (5 : Nat)).cell (1 : Nat)))])), ((Nm.sub (21 : Nat) (Nm.loc (1 : Nat))), (.blk ty_int [(.imm (.int .i64 h211_1))])), ((Nm.loc (8 : Nat)), (.blk ty_api_Row [(.imm (.int .i64 h8_1_0)), (.imm (.int .i64 h8_1_1)), (.imm (.int .i64 h8_1_2)), (.imm (.int .i64 h8_1_3))])), (((Nm.loc (5 : Nat)).cell (1 : Nat)), (.arr 7 true 1 h51r))]⟩)))) : L_section_Print_19 t0k t0r t7 t9 t22k t22r t23 t24 h211_1 h8_1_0 h8_1_1 h8_1_2 h8_1_3 h51r K := loop_rule (envN E0 nt_section_Print) (okE nt_section_Print) 3 19 (lbodyOf 19 ac_section_Print) [0, 5, 6, 7, 8, 9, 22, 23, 24] _ K rfl (cast (by kernel_rfl) h)
theorem C_section_Print_24_of (t0k : SK) (t0r : List (List IV)) (t22k : SK) (t22r : List (List IV)) (t23 : Int) (t24 : Int) (h211_1 : Int) (h8_1_0 : Int) (h8_1_1 : Int) (h8_1_2 : Int) (h8_1_3 : Int) (h51r : List (List IV)) (K : Ex → St → Prop) (h :
 (Call E0.P fn_section_line [(.imm (.agg [(.int .i64 h8_1_1), (.int .i64 h8_1_2), (.int .i64 h8_1_3)]))] [] fun r0 g0 =>
 Req (g0 = [] ∧ r0 = .imm (.str (rS r0)))
 (Req ((h51r.length + (byteRows (rS r0)).length) * (1 : Nat) ≤ (140737488355328 : Nat) ∧
 h51r.length + (byteRows (rS r0)).length ≤ (140737488355328 : Nat))
 (K .normal ⟨[(0, (.imm (.sl t0k 4 t0r))), (5, (.ptr (Nm.loc (5 : Nat)) 0)), (6, (.fn 54 [(.ptr (Nm.sub (21 : Nat) (Nm.loc (1 : Nat))) 0)])), (22, (.imm (.sl t22k 4 t22r))), (23, (.imm (.int .i64 t23))), (24, (.imm (.int .i64 t24)))], [((Nm.loc (5 : Nat)), (.blk ty_strings_Builder [(.ptr (Nm.loc (5 : Nat)) 0), (.own ((Nm.loc (5 : Nat)).cell (1 : Nat)))])), ((Nm.sub (21 : Nat) (Nm.loc (1 : Nat))), (.blk ty_int [(.imm (.int .i64 h211_1))])), (((Nm.loc (5 : Nat)).cell (1 : Nat)), (.arr 7 true 1 (h51r ++ byteRows (rS r0))))]⟩)))) : C_section_Print_24 t0k t0r t22k t22r t23 t24 h211_1 h8_1_0 h8_1_1 h8_1_2 h8_1_3 h51r K := cut_rule (envN E0 nt_section_Print) (okE nt_section_Print) 3 24 (cbodyOf 24 ac_section_Print) [0, 5, 6, 22, 23, 24] _ K rfl (cast (by kernel_rfl) h)
theorem C_section_Print_26_of (h51r : List (List IV)) (K : Ex → St → Prop) (h :
 (Req (((↑h51r.length : Int) = (↑h51r.length : Int) ∧ h51r.length ≤ (9223372036854775807 : Nat)) ∧
 ∀ (r : List IV), r ∈ h51r → shOK [.int .u8] r = true)
 (K .ret ⟨[(2, (.imm (.str (List.map (fun r => UInt8.ofNat (gI r (0 : Nat)).toNat) h51r)))), (3, (.imm (.int .i64 ((0 : Int)))))], []⟩))) : C_section_Print_26 h51r K := cut_rule (envN E0 nt_section_Print) (okE nt_section_Print) 3 26 (cbodyOf 26 ac_section_Print) [] _ K rfl (cast (by kernel_rfl) h)
theorem C_section_Print_25_of (t0k : SK) (t0r : List (List IV)) (t22k : SK) (t22r : List (List IV)) (t23 : Int) (t24 : Int) (h211_1 : Int) (h51r : List (List IV)) (K : Ex → St → Prop) (h :
 (K .normal ⟨[(0, (.imm (.sl t0k 4 t0r))), (5, (.ptr (Nm.loc (5 : Nat)) 0)), (6, (.fn 54 [(.ptr (Nm.sub (21 : Nat) (Nm.loc (1 : Nat))) 0)])), (22, (.imm (.sl t22k 4 t22r))), (23, (.imm (.int .i64 t23))), (24, (.imm (.int .i64 (IntKind.i64.wrap (t24 + (1 : Int))))))], [((Nm.loc (5 : Nat)), (.blk ty_strings_Builder [(.ptr (Nm.loc (5 : Nat)) 0), (.own ((Nm.loc (5 : Nat)).cell (1 : Nat)))])), ((Nm.sub (21 : Nat) (Nm.loc (1 : Nat))), (.blk ty_int [(.imm (.int .i64 h211_1))])), (((Nm.loc (5 : Nat)).cell (1 : Nat)), (.arr 7 true 1 h51r))]⟩)) : C_section_Print_25 t0k t0r t22k t22r t23 t24 h211_1 h51r K := cut_rule (envN E0 nt_section_Print) (okE nt_section_Print) 3 25 (cbodyOf 25 ac_section_Print) [0, 5, 6, 22, 23, 24] _ K rfl (cast (by kernel_rfl) h)
theorem C_section_Print_23_of (t0k : SK) (t0r : List (List IV)) (t9 : Int) (t22k : SK) (t22r : List (List IV)) (t23 : Int) (t24 : Int) (h211_1 : Int) (h8_1_0 : Int) (h8_1_1 : Int) (h8_1_2 : Int) (h8_1_3 : Int) (h51r : List (List IV)) (K : Ex → St → Prop) (h :
 (Call E0.P fn_section_head [(.imm (.int .i64 h8_1_0)), (.imm (.int .i64 t9))] [] fun r0 g0 =>
 Req (g0 = [] ∧ r0 = .imm (.str (rS r0)))
 (Req ((h51r.length + (byteRows (rS r0)).length) * (1 : Nat) ≤ (140737488355328 : Nat) ∧
 h51r.length + (byteRows (rS r0)).length ≤ (140737488355328 : Nat))
 (K .normal ⟨[(0, (.imm (.sl t0k 4 t0r))), (5, (.ptr (Nm.loc (5 : Nat)) 0)), (6, (.fn 54 [(.ptr (Nm.sub (21 : Nat) (Nm.loc (1 : Nat))) 0)])), (8, (.ptr (Nm.loc (8 : Nat)) 0)), (22, (.imm (.sl t22k 4 t22r))), (23, (.imm (.int .i64 t23))), (24, (.imm (.int .i64 t24)))], [((Nm.loc (5 : Nat)), (.blk ty_strings_Builder [(.ptr (Nm.loc (5 : Nat)) 0), (.own ((Nm.loc (5 : Nat)).cell (1 : Nat)))])), ((Nm.sub (21 : Nat) (Nm.loc (1 : Nat))), (.blk ty_int [(.imm (.int .i64 h211_1))])), ((Nm.loc (8 : Nat)), (.blk ty_api_Row [(.imm (.int .i64 h8_1_0)), (.imm (.int .i64 h8_1_1)), (.imm (.int .i64 h8_1_2)), (.imm (.int .i64 h8_1_3))])), (((Nm.loc (5 : Nat)).cell (1 : Nat)), (.arr 7 true 1 (h51r ++ byteRows (rS r0))))]⟩)))) : C_section_Print_23 t0k t0r t9 t22k t22r t23 t24 h211_1 h8_1_0 h8_1_1 h8_1_2 h8_1_3 h51r K := cut_rule (envN E0 nt_section_Print) (okE nt_section_Print) 3 23 (cbodyOf 23 ac_section_Print) [0, 5, 6, 8, 22, 23, 24] _ K rfl (cast (by kernel_rfl) h)
theorem K_section_Print_0_x0 (Q : AV → Heap → Prop) (t2 : List UInt8) (t3 : Int) (h :
 (Q (.tup [(.imm (.str t2)), (.imm (.int .i64 t3))]) [])) : K_section_Print_0 Q .ret ⟨[(2, (.imm (.str t2))), (3, (.imm (.int .i64 t3)))], []⟩ := cast (by kernel_rfl) h
theorem K_section_Print_1_x0 (Q : AV → Heap → Prop) (h51r : List (List IV)) (h :
 (C_section_Print_26 h51r (K_section_Print_0 Q))) : K_section_Print_1 Q (.exit 0) ⟨[(5, (.ptr (Nm.loc (5 : Nat)) 0))], [((Nm.loc (5 : Nat)), (.blk ty_strings_Builder [(.ptr (Nm.loc (5 : Nat)) 0), (.own ((Nm.loc (5 : Nat)).cell (1 : Nat)))])), (((Nm.loc (5 : Nat)).cell (1 : Nat)), (.arr 7 true 1 h51r))]⟩ := cast (by kernel_rfl) h
theorem K_section_Print_2_x0 (K : Ex → St → Prop) (t0k : SK) (t0r : List (List IV)) (t22k : SK) (t22r : List (List IV)) (t23 : Int) (t24 : Int) (h211_1 : Int) (h51r : List (List IV)) (h :
 (L_section_Print_12 t0k t0r t22k t22r t23 t24 h211_1 h51r K)) : K_section_Print_2 K .normal ⟨[(0, (.imm (.sl t0k 4 t0r))), (5, (.ptr (Nm.loc (5 : Nat)) 0)), (6, (.fn 54 [(.ptr (Nm.sub (21 : Nat) (Nm.loc (1 : Nat))) 0)])), (22, (.imm (.sl t22k 4 t22r))), (23, (.imm (.int .i64 t23))), (24, (.imm (.int .i64 t24)))], [((Nm.loc (5 : Nat)), (.blk ty_strings_Builder [(.ptr (Nm.loc (5 : Nat)) 0), (.own ((Nm.loc (5 : Nat)).cell (1 : Nat)))])), ((Nm.sub (21 : Nat) (Nm.loc (1 : Nat))), (.blk ty_int [(.imm (.int .i64 h211_1))])), (((Nm.loc (5 : Nat)).cell (1 : Nat)), (.arr 7 true 1 h51r))]⟩ := cast (by kernel_rfl) h
theorem K_section_Print_3_x0 (K : Ex → St → Prop) (t0k : SK) (t0r : List (List IV)) (t22k : SK) (t22r : List (List IV)) (t23 : Int) (t24 : Int) (h211_1 : Int) (h51r : List (List IV)) (h :
 (C_section_Print_25 t0k t0r t22k t22r t23 t24 h211_1 h51r (K_section_Print_2 K))) : K_section_Print_3 K .normal ⟨[(0, (.imm (.sl t0k 4 t0r))), (5, (.ptr (Nm.loc (5 : Nat)) 0)), (6, (.fn 54 [(.ptr (Nm.sub (21 : Nat) (Nm.loc (1 : Nat))) 0)])), (22, (.imm (.sl t22k 4 t22r))), (23, (.imm (.int .i64 t23))), (24, (.imm (.int .i64 t24)))], [((Nm.loc (5 : Nat)), (.blk ty_strings_Builder [(.ptr (Nm.loc (5 : Nat)) 0), (.own ((Nm.loc (5 : Nat)).cell (1 : Nat)))])), ((Nm.sub (21 : Nat) (Nm.loc (1 : Nat))), (.blk ty_int [(.imm (.int .i64 h211_1))])), (((Nm.loc (5 : Nat)).cell (1 : Nat)), (.arr 7 true 1 h51r))]⟩ := cast (by kernel_rfl) h
theorem K_section_Print_4_x0 (K : Ex → St → Prop) (t0k : SK) (t0r : List (List IV)) (t22k : SK) (t22r : List (List IV)) (t23 : Int) (t24 : Int) (h211_1 : Int) (h8_1_0 : Int) (h8_1_1 : Int) (h8_1_2 : Int) (h8_1_3 : Int) (h51r : List (List IV)) (h :
 (C_section_Print_24 t0k t0r t22k t22r t23 t24 h211_1 h8_1_0 h8_1_1 h8_1_2 h8_1_3 h51r (K_section_Print_3 K))) : K_section_Print_4 K .normal ⟨[(0, (.imm (.sl t0k 4 t0r))), (5, (.ptr (Nm.loc (5 : Nat)) 0)), (6, (.fn 54 [(.ptr (Nm.sub (21 : Nat) (Nm.loc (1 : Nat))) 0)])), (8, (.ptr (Nm.loc (8 : Nat)) 0)), (22, (.imm (.sl t22k 4 t22r))), (23, (.imm (.int .i64 t23))), (24, (.imm (.int .i64 t24)))], [((Nm.loc (5 : Nat)), (.blk ty_strings_Builder [(.ptr (Nm.loc (5 : Nat)) 0), (.own ((Nm.loc (5 : Nat)).cell (1 : Nat)))])), ((Nm.sub (21 : Nat) (Nm.loc (1 : Nat))), (.blk ty_int [(.imm (.int .i64 h211_1))])), ((Nm.loc (8 : Nat)), (.blk ty_api_Row [(.imm (.int .i64 h8_1_0)), (.imm (.int .i64 h8_1_1)), (.imm (.int .i64 h8_1_2)), (.imm (.int .i64 h8_1_3))])), (((Nm.loc (5 : Nat)).cell (1 : Nat)), (.arr 7 true 1 h51r))]⟩ := cast (by kernel_rfl) h
theorem K_section_Print_5_x0 (K : Ex → St → Prop) (t0k : SK) (t0r : List (List IV)) (t9 : Int) (t22k : SK) (t22r : List (List IV)) (t23 : Int) (t24 : Int) (h211_1 : Int) (h8_1_0 : Int) (h8_1_1 : Int) (h8_1_2 : Int) (h8_1_3 : Int) (h51r : List (List IV)) (h :
 (C_section_Print_23 t0k t0r t9 t22k t22r t23 t24 h211_1 h8_1_0 h8_1_1 h8_1_2 h8_1_3 h51r (K_section_Print_4 K))) : K_section_Print_5 K (.exit ((2 : Nat))) ⟨[(0, (.imm (.sl t0k 4 t0r))), (5, (.ptr (Nm.loc (5 : Nat)) 0)), (6, (.fn 54 [(.ptr (Nm.sub (21 : Nat) (Nm.loc (1 : Nat))) 0)])), (8, (.ptr (Nm.loc (8 : Nat)) 0)), (9, (.imm (.int .i64 t9))), (22, (.imm (.sl t22k 4 t22r))), (23, (.imm (.int .i64 t23))), (24, (.imm (.int .i64 t24)))], [((Nm.loc (5 : Nat)), (.blk ty_strings_Builder [(.ptr (Nm.loc (5 : Nat)) 0), (.own ((Nm.loc (5 : Nat)).cell (1 : Nat)))])), ((Nm.sub (21 : Nat) (Nm.loc (1 : Nat))), (.blk ty_int [(.imm (.int .i64 h211_1))])), ((Nm.loc (8 : Nat)), (.blk ty_api_Row [(.imm (.int .i64 h8_1_0)), (.imm (.int .i64 h8_1_1)), (.imm (.int .i64 h8_1_2)), (.imm (.int .i64 h8_1_3))])), (((Nm.loc (5 : Nat)).cell (1 : Nat)), (.arr 7 true 1 h51r))]⟩ := cast (by kernel_rfl) h
theorem ok_section_Print : FnOK E0.P 11 ac_section_Print.code nt_section_Print [.tmp 2, .tmp 3] := fn_ok _ _ Tryd.f11 [(12, [0, 5, 6, 22, 23, 24], []), (14, [5], []), (19, [0, 5, 6, 7, 8, 9, 22, 23, 24], []), (21, [0, 5, 6, 8, 9, 22, 23, 24], []), (23, [0, 5, 6, 8, 9, 22, 23, 24], [0, 5, 6, 8, 22, 23, 24]), (24, [0, 5, 6, 8, 22, 23, 24], [0, 5, 6, 22, 23, 24]), (25, [0, 5, 6, 22, 23, 24], [0, 5, 6, 22, 23, 24]), (26, [5], [])] [2, 3] _ 67 Tryd.func11 (by kernel_rfl) (by kernel_rfl) (by kernel_rfl) (by kernel_rfl)
theorem F_section_Print_of (a0k : SK) (a0 : List (List IV)) (Q : AV → Heap → Prop) (h :
 (Call E0.P fn_section_Check [(.imm (.sl a0k 4 a0))] [] fun r0 g0 =>
 Req (g0 = [] ∧ r0 = .imm (.int .i64 (rI r0)))
 (Br (!decide (rI r0 = (0 : Int)))
 (Q (.tup [(.imm (.str [])), (.imm (.int .i64 (rI r0)))]) [])
 (Br (decide ((↑a0.length : Int) = (0 : Int)))
 (Call E0.P fn_section_head [(.imm (.int .i64 ((0 : Int)))), (.imm (.int .i64 ((0 : Int))))] [] fun r1 g1 =>
 Req (g1 = [] ∧ r1 = .imm (.str (rS r1)))
 (Req ((↑((5 : Nat) + (rS r1).length) : Int) ≤ (9223372036854775807 : Int))
 (Q (.tup [(.imm (.str ([(120 : UInt8), (114 : UInt8), (101 : UInt8), (102 : UInt8), (10 : UInt8)] ++ rS r1))), (.imm (.int .i64 ((0 : Int))))]) [])))
 (Req ((5 : Nat) ≤ (140737488355328 : Nat) ∧ (5 : Nat) ≤ (140737488355328 : Nat))
 (L_section_Print_12 a0k a0 a0k a0 ((↑a0.length : Int)) ((0 : Int)) ((-1 : Int)) ([] ++
 [[.int .u8 (↑(120 : Nat) : Int)], [.int .u8 (↑(114 : Nat) : Int)],
 [.int .u8 (↑(101 : Nat) : Int)], [.int .u8 (↑(102 : Nat) : Int)],
 [.int .u8 (↑(10 : Nat) : Int)]]) (K_section_Print_1 Q))))))) : Call E0.P fn_section_Print [(.imm (.sl a0k 4 a0))] [] Q := fun_rule (envN E0 nt_section_Print) (okE nt_section_Print) 3 11 ac_section_Print [.tmp 2, .tmp 3] ok_section_Print _ _ Q rfl rfl (cast (by kernel_rfl) h)
/-! ### r22_Print -/
noncomputable def ac_r22_Print : AC := (annot [(10, [0, 5, 6], []), (12, [5], []), (17, [0, 5, 6, 7, 8], []), (19, [0, 5, 6, 7], []), (22, [0, 5, 6, 7], [0, 5, 6]), (23, [5], [])] [2, 3] (codeOf Tryd.f12) 0).1
abbrev nt_r22_Print : Nat := 57
def L_r22_Print_10 (t0k : SK) (t0r : List (List IV)) (t5 : List UInt8) (t6 : Int) (K : Ex → St → Prop) : Prop := LoopOK 10 E0.P nt_r22_Print (lbodyOf 10 ac_r22_Print).code ⟨[(0, (.imm (.sl t0k 4 t0r))), (5, (.imm (.str t5))), (6, (.imm (.int .i64 t6)))], []⟩ K
def L_r22_Print_17 (t0k : SK) (t0r : List (List IV)) (t5 : List UInt8) (t6 : Int) (t7 : Int) (t8 : Int) (K : Ex → St → Prop) : Prop := LoopOK 17 E0.P nt_r22_Print (lbodyOf 17 ac_r22_Print).code ⟨[(0, (.imm (.sl t0k 4 t0r))), (5, (.imm (.str t5))), (6, (.imm (.int .i64 t6))), (7, (.imm (.int .i64 t7))), (8, (.imm (.int .i64 t8)))], []⟩ K
def C_r22_Print_23 (t5 : List UInt8) (K : Ex → St → Prop) : Prop := CutOK 23 E0.P nt_r22_Print (cbodyOf 23 ac_r22_Print).code ⟨[(5, (.imm (.str t5)))], []⟩ K
def C_r22_Print_22 (t0k : SK) (t0r : List (List IV)) (t5 : List UInt8) (t6 : Int) (t7 : Int) (K : Ex → St → Prop) : Prop := CutOK 22 E0.P nt_r22_Print (cbodyOf 22 ac_r22_Print).code ⟨[(0, (.imm (.sl t0k 4 t0r))), (5, (.imm (.str t5))), (6, (.imm (.int .i64 t6))), (7, (.imm (.int .i64 t7)))], []⟩ K
def K_r22_Print_0 (Q : AV → Heap → Prop) : Ex → St → Prop
 | .normal, st => finish E0.T [.tmp 2, .tmp 3] [] Q st
 | .exit i, st => False
 | .goto i, st => False
 | .ret, st => finish E0.T [.tmp 2, .tmp 3] [] Q st
def K_r22_Print_1 (Q : AV → Heap → Prop) : Ex → St → Prop
 | .normal, st => CutOK 23 E0.P nt_r22_Print (cbodyOf 23 ac_r22_Print).code (mask [(5 : Nat)] st) (K_r22_Print_0 Q)
 | .exit i, st => (match (i.beq (0 : Nat) : Bool) with
 | true => CutOK 23 E0.P nt_r22_Print (cbodyOf 23 ac_r22_Print).code (mask [(5 : Nat)] st) (K_r22_Print_0 Q)
 | false => False)
 | .goto i, st => False
 | .ret, st => finish E0.T [.tmp 2, .tmp 3] [] Q st
def K_r22_Print_2 (K : Ex → St → Prop) : Ex → St → Prop
 | .normal, st => LoopOK 10 E0.P nt_r22_Print (lbodyOf 10 ac_r22_Print).code (mask [(0 : Nat), (5 : Nat), (6 : Nat)] st) K
 | .exit i, st => (match (i.beq (1 : Nat) : Bool) with
 | true => LoopOK 10 E0.P nt_r22_Print (lbodyOf 10 ac_r22_Print).code (mask [(0 : Nat), (5 : Nat), (6 : Nat)] st) K
 | false => K (.exit i) st)
 | .goto i, st => K (.goto i) st
 | .ret, st => K .ret st
def K_r22_Print_3 (K : Ex → St → Prop) : Ex → St → Prop
 | .normal, st => CutOK 22 E0.P nt_r22_Print (cbodyOf 22 ac_r22_Print).code (mask [(0 : Nat), (5 : Nat), (6 : Nat), (7 : Nat)] st) (K_r22_Print_2 K)
 | .exit i, st => (match (i.beq (2 : Nat) : Bool) with
 | true => CutOK 22 E0.P nt_r22_Print (cbodyOf 22 ac_r22_Print).code (mask [(0 : Nat), (5 : Nat), (6 : Nat), (7 : Nat)] st) (K_r22_Print_2 K)
 | false => (match (i.beq (1 : Nat) : Bool) with
 | true => LoopOK 10 E0.P nt_r22_Print (lbodyOf 10 ac_r22_Print).code (mask [(0 : Nat), (5 : Nat), (6 : Nat)] st) K
 | false => K (.exit i) st))
 | .goto i, st => K (.goto i) st
 | .ret, st => K .ret st
theorem L_r22_Print_10_of (t0k : SK) (t0r : List (List IV)) (t5 : List UInt8) (t6 : Int) (K : Ex → St → Prop) (h :
 (Br (decide (t6 < (↑t0r.length : Int)))
 (Call E0.P fn_r22_Part [(.imm (.sl t0k 4 t0r)), (.imm (.int .i64 t6))] [] fun r0 g0 =>
 Req (g0 = [] ∧ r0 = .imm (.int .i64 (rI r0)))
 (Req (((0 : Int) ≤ t6 ∧ t6 < (↑t0r.length : Int)) ∧
 shOK [.int .i64, .int .i64, .int .i64, .int .i64] (t0r.getD t6.toNat []) = true)
 (Call E0.P fn_r02_Put [(.imm (.int .i64 (gI (t0r.getD t6.toNat []) (0 : Nat))))] [] fun r1 g1 =>
 Req (g1 = [] ∧ r1 = .imm (.str (rS r1)))
 (Req ((↑(t5.length + (rS r1).length) : Int) ≤ (9223372036854775807 : Int))
 (Req ((↑((t5 ++ rS r1).length + (1 : Nat)) : Int) ≤ (9223372036854775807 : Int))
 (Call E0.P fn_r02_Put [(.imm (.int .i64 (rI r0)))] [] fun r2 g2 =>
 Req (g2 = [] ∧ r2 = .imm (.str (rS r2)))
 (Req ((↑((t5 ++ rS r1 ++ [(32 : UInt8)]).length + (rS r2).length) : Int) ≤ (9223372036854775807 : Int))
 (Req ((↑((t5 ++ rS r1 ++ [(32 : UInt8)] ++ rS r2).length + (1 : Nat)) : Int) ≤ (9223372036854775807 : Int))
 (L_r22_Print_17 t0k t0r (t5 ++ rS r1 ++ [(32 : UInt8)] ++ rS r2 ++ [(10 : UInt8)]) t6 (rI r0) ((0 : Int)) (K_r22_Print_3 K))))))))))
 (K (.exit 0) ⟨[(5, (.imm (.str t5)))], []⟩))) : L_r22_Print_10 t0k t0r t5 t6 K := loop_rule (envN E0 nt_r22_Print) (okE nt_r22_Print) 3 10 (lbodyOf 10 ac_r22_Print) [0, 5, 6] _ K rfl (cast (by kernel_rfl) h)
theorem L_r22_Print_17_of (t0k : SK) (t0r : List (List IV)) (t5 : List UInt8) (t6 : Int) (t7 : Int) (t8 : Int) (K : Ex → St → Prop) (h :
 (Br (decide (t8 < t7))
 (Req (((0 : Int) ≤ IntKind.i64.wrap (t6 + t8) ∧ IntKind.i64.wrap (t6 + t8) < (↑t0r.length : Int)) ∧
 shOK [.int .i64, .int .i64, .int .i64, .int .i64]
 (t0r.getD (IntKind.i64.wrap (t6 + t8)).toNat []) =
 true)
 (Call E0.P fn_r22_line [(.imm (.agg [(.int .i64 (gI (t0r.getD (IntKind.i64.wrap (t6 + t8)).toNat []) (0 : Nat))), (.int .i64 (gI (t0r.getD (IntKind.i64.wrap (t6 + t8)).toNat []) (1 : Nat))), (.int .i64 (gI (t0r.getD (IntKind.i64.wrap (t6 + t8)).toNat []) (2 : Nat))), (.int .i64 (gI (t0r.getD (IntKind.i64.wrap (t6 + t8)).toNat []) (3 : Nat)))]))] [] fun r0 g0 =>
 Req (g0 = [] ∧ r0 = .imm (.str (rS r0)))
 (Req ((↑(t5.length + (rS r0).length) : Int) ≤ (9223372036854775807 : Int))
 (L_r22_Print_17 t0k t0r (t5 ++ rS r0) t6 t7 (IntKind.i64.wrap (t8 + (1 : Int))) K))))
 (K (.exit ((2 : Nat))) ⟨[(0, (.imm (.sl t0k 4 t0r))), (5, (.imm (.str t5))), (6, (.imm (.int .i64 t6))), (7, (.imm (.int .i64 t7)))], []⟩))) : L_r22_Print_17 t0k t0r t5 t6 t7 t8 K := loop_rule (envN E0 nt_r22_Print) (okE nt_r22_Print) 3 17 (lbodyOf 17 ac_r22_Print) [0, 5, 6, 7, 8] _ K rfl (cast (by kernel_rfl) h)
theorem C_r22_Print_23_of (t5 : List UInt8) (K : Ex → St → Prop) (h :
 (K .ret ⟨[(2, (.imm (.str t5))), (3, (.imm (.int .i64 ((0 : Int)))))], []⟩)) : C_r22_Print_23 t5 K := cut_rule (envN E0 nt_r22_Print) (okE nt_r22_Print) 3 23 (cbodyOf 23 ac_r22_Print) [] _ K rfl (cast (by kernel_rfl) h)
theorem C_r22_Print_22_of (t0k : SK) (t0r : List (List IV)) (t5 : List UInt8) (t6 : Int) (t7 : Int) (K : Ex → St → Prop) (h :
 (K .normal ⟨[(0, (.imm (.sl t0k 4 t0r))), (5, (.imm (.str t5))), (6, (.imm (.int .i64 (IntKind.i64.wrap (t6 + t7)))))], []⟩)) : C_r22_Print_22 t0k t0r t5 t6 t7 K := cut_rule (envN E0 nt_r22_Print) (okE nt_r22_Print) 3 22 (cbodyOf 22 ac_r22_Print) [0, 5, 6] _ K rfl (cast (by kernel_rfl) h)
theorem K_r22_Print_0_x0 (Q : AV → Heap → Prop) (t2 : List UInt8) (t3 : Int) (h :
 (Q (.tup [(.imm (.str t2)), (.imm (.int .i64 t3))]) [])) : K_r22_Print_0 Q .ret ⟨[(2, (.imm (.str t2))), (3, (.imm (.int .i64 t3)))], []⟩ := cast (by kernel_rfl) h
theorem K_r22_Print_1_x0 (Q : AV → Heap → Prop) (t5 : List UInt8) (h :
 (C_r22_Print_23 t5 (K_r22_Print_0 Q))) : K_r22_Print_1 Q (.exit 0) ⟨[(5, (.imm (.str t5)))], []⟩ := cast (by kernel_rfl) h
theorem K_r22_Print_2_x0 (K : Ex → St → Prop) (t0k : SK) (t0r : List (List IV)) (t5 : List UInt8) (t6 : Int) (h :
 (L_r22_Print_10 t0k t0r t5 t6 K)) : K_r22_Print_2 K .normal ⟨[(0, (.imm (.sl t0k 4 t0r))), (5, (.imm (.str t5))), (6, (.imm (.int .i64 t6)))], []⟩ := cast (by kernel_rfl) h
theorem K_r22_Print_3_x0 (K : Ex → St → Prop) (t0k : SK) (t0r : List (List IV)) (t5 : List UInt8) (t6 : Int) (t7 : Int) (h :
 (C_r22_Print_22 t0k t0r t5 t6 t7 (K_r22_Print_2 K))) : K_r22_Print_3 K (.exit ((2 : Nat))) ⟨[(0, (.imm (.sl t0k 4 t0r))), (5, (.imm (.str t5))), (6, (.imm (.int .i64 t6))), (7, (.imm (.int .i64 t7)))], []⟩ := cast (by kernel_rfl) h
theorem ok_r22_Print : FnOK E0.P 12 ac_r22_Print.code nt_r22_Print [.tmp 2, .tmp 3] := fn_ok _ _ Tryd.f12 [(10, [0, 5, 6], []), (12, [5], []), (17, [0, 5, 6, 7, 8], []), (19, [0, 5, 6, 7], []), (22, [0, 5, 6, 7], [0, 5, 6]), (23, [5], [])] [2, 3] _ 57 Tryd.func12 (by kernel_rfl) (by kernel_rfl) (by kernel_rfl) (by kernel_rfl)
theorem F_r22_Print_of (a0k : SK) (a0 : List (List IV)) (Q : AV → Heap → Prop) (h :
 (Call E0.P fn_r22_Check [(.imm (.sl a0k 4 a0))] [] fun r0 g0 =>
 Req (g0 = [] ∧ r0 = .imm (.int .i64 (rI r0)))
 (Br (!decide (rI r0 = (0 : Int)))
 (Q (.tup [(.imm (.str [])), (.imm (.int .i64 (rI r0)))]) [])
 (Br (decide ((↑a0.length : Int) = (0 : Int)))
 (Req ((↑(9 : Nat) : Int) ≤ (9223372036854775807 : Int))
 (Q (.tup [(.imm (.str ([(120 : UInt8), (114 : UInt8), (101 : UInt8), (102 : UInt8), (10 : UInt8)] ++
 [(48 : UInt8), (32 : UInt8), (48 : UInt8), (10 : UInt8)]))), (.imm (.int .i64 ((0 : Int))))]) []))
 (L_r22_Print_10 a0k a0 [(120 : UInt8), (114 : UInt8), (101 : UInt8), (102 : UInt8), (10 : UInt8)] ((0 : Int)) (K_r22_Print_1 Q)))))) : Call E0.P fn_r22_Print [(.imm (.sl a0k 4 a0))] [] Q := fun_rule (envN E0 nt_r22_Print) (okE nt_r22_Print) 3 12 ac_r22_Print [.tmp 2, .tmp 3] ok_r22_Print _ _ Q rfl rfl (cast (by kernel_rfl) h)
/-! ### section_Check -/
noncomputable def ac_section_Check : AC := (annot [(3, [3, 6, 7, 8], []), (5, [], []), (16, [5, 6, 7, 8], [3, 6, 7, 8]), (17, [3, 6, 7, 8], [3, 6, 7, 8]), (18, [], [])] [2] (codeOf Tryd.f13) 0).1
abbrev nt_section_Check : Nat := 46
def L_section_Check_3 (t3 : Int) (t6k : SK) (t6r : List (List IV)) (t7 : Int) (t8 : Int) (K : Ex → St → Prop) : Prop := LoopOK 3 E0.P nt_section_Check (lbodyOf 3 ac_section_Check).code ⟨[(3, (.imm (.int .i64 t3))), (6, (.imm (.sl t6k 4 t6r))), (7, (.imm (.int .i64 t7))), (8, (.imm (.int .i64 t8)))], []⟩ K
def C_section_Check_16 (t6k : SK) (t6r : List (List IV)) (t7 : Int) (t8 : Int) (h5_1_0 : Int) (h5_1_1 : Int) (h5_1_2 : Int) (h5_1_3 : Int) (K : Ex → St → Prop) : Prop := CutOK 16 E0.P nt_section_Check (cbodyOf 16 ac_section_Check).code ⟨[(5, (.ptr (Nm.loc (5 : Nat)) 0)), (6, (.imm (.sl t6k 4 t6r))), (7, (.imm (.int .i64 t7))), (8, (.imm (.int .i64 t8)))], [((Nm.loc (5 : Nat)), (.blk ty_api_Row [(.imm (.int .i64 h5_1_0)), (.imm (.int .i64 h5_1_1)), (.imm (.int .i64 h5_1_2)), (.imm (.int .i64 h5_1_3))]))]⟩ K
def C_section_Check_18 (K : Ex → St → Prop) : Prop := CutOK 18 E0.P nt_section_Check (cbodyOf 18 ac_section_Check).code ⟨[], []⟩ K
def C_section_Check_17 (t3 : Int) (t6k : SK) (t6r : List (List IV)) (t7 : Int) (t8 : Int) (K : Ex → St → Prop) : Prop := CutOK 17 E0.P nt_section_Check (cbodyOf 17 ac_section_Check).code ⟨[(3, (.imm (.int .i64 t3))), (6, (.imm (.sl t6k 4 t6r))), (7, (.imm (.int .i64 t7))), (8, (.imm (.int .i64 t8)))], []⟩ K
def K_section_Check_0 (Q : AV → Heap → Prop) : Ex → St → Prop
 | .normal, st => finish E0.T [.tmp 2] [] Q st
 | .exit i, st => False
 | .goto i, st => False
 | .ret, st => finish E0.T [.tmp 2] [] Q st
def K_section_Check_1 (Q : AV → Heap → Prop) : Ex → St → Prop
 | .normal, st => CutOK 18 E0.P nt_section_Check (cbodyOf 18 ac_section_Check).code (mask [] st) (K_section_Check_0 Q)
 | .exit i, st => (match (i.beq (0 : Nat) : Bool) with
 | true => CutOK 18 E0.P nt_section_Check (cbodyOf 18 ac_section_Check).code (mask [] st) (K_section_Check_0 Q)
 | false => False)
 | .goto i, st => False
 | .ret, st => finish E0.T [.tmp 2] [] Q st
def K_section_Check_2 (K : Ex → St → Prop) : Ex → St → Prop
 | .normal, st => LoopOK 3 E0.P nt_section_Check (lbodyOf 3 ac_section_Check).code (mask [(3 : Nat), (6 : Nat), (7 : Nat), (8 : Nat)] st) K
 | .exit i, st => K (.exit i) st
 | .goto i, st => K (.goto i) st
 | .ret, st => K .ret st
def K_section_Check_3 (K : Ex → St → Prop) : Ex → St → Prop
 | .normal, st => CutOK 17 E0.P nt_section_Check (cbodyOf 17 ac_section_Check).code (mask [(3 : Nat), (6 : Nat), (7 : Nat), (8 : Nat)] st) (K_section_Check_2 K)
 | .exit i, st => (match (i.beq (1 : Nat) : Bool) with
 | true => CutOK 17 E0.P nt_section_Check (cbodyOf 17 ac_section_Check).code (mask [(3 : Nat), (6 : Nat), (7 : Nat), (8 : Nat)] st) (K_section_Check_2 K)
 | false => K (.exit i) st)
 | .goto i, st => K (.goto i) st
 | .ret, st => K .ret st
theorem L_section_Check_3_of (t3 : Int) (t6k : SK) (t6r : List (List IV)) (t7 : Int) (t8 : Int) (K : Ex → St → Prop) (h :
 (Br (decide (t8 < t7))
 (Req (((0 : Int) ≤ t8 ∧ t8 < (↑t6r.length : Int)) ∧
 shOK [.int .i64, .int .i64, .int .i64, .int .i64] (t6r.getD t8.toNat []) = true)
 (Br (decide (gI (t6r.getD t8.toNat []) (0 : Nat) ≤ t3))
 (K .ret ⟨[(2, (.imm (.int .i64 ((15 : Int)))))], []⟩)
 (Br (decide ((8388607 : Int) < gI (t6r.getD t8.toNat []) (0 : Nat)))
 (K .ret ⟨[(2, (.imm (.int .i64 ((3 : Int)))))], []⟩)
 (Let (bif !decide (gI (t6r.getD t8.toNat []) (1 : Nat) = (0 : Int)) then
 !decide (gI (t6r.getD t8.toNat []) (1 : Nat) = (1 : Int))
 else false) fun x0 =>
 Br (x0)
 (K .ret ⟨[(2, (.imm (.int .i64 ((10 : Int)))))], []⟩)
 (Call E0.P fn_section_out [(.imm (.int .i64 (gI (t6r.getD t8.toNat []) (2 : Nat)))), (.imm (.int .i64 ((67108864 : Int))))] [] fun r1 g1 =>
 Req (g1 = [] ∧ r1 = .imm (.bool (rB r1)))
 (Br (rB r1 == false)
 (Call E0.P fn_section_out [(.imm (.int .i64 (gI (t6r.getD t8.toNat []) (3 : Nat)))), (.imm (.int .i64 ((65535 : Int))))] [] fun r2 g2 =>
 Req (g2 = [] ∧ r2 = .imm (.bool (rB r2)))
 (Let (rB r2) fun x3 =>
 Br (x3)
 (K .ret ⟨[(2, (.imm (.int .i64 ((3 : Int)))))], []⟩)
 (C_section_Check_16 t6k t6r t7 t8 (gI (t6r.getD t8.toNat []) (0 : Nat)) (gI (t6r.getD t8.toNat []) (1 : Nat)) (gI (t6r.getD t8.toNat []) (2 : Nat)) (gI (t6r.getD t8.toNat []) (3 : Nat)) (K_section_Check_3 K))))
 (Req ((!false) = true)
 (Let (true) fun x4 =>
 Br (x4)
 (K .ret ⟨[(2, (.imm (.int .i64 ((3 : Int)))))], []⟩)
 (C_section_Check_16 t6k t6r t7 t8 (gI (t6r.getD t8.toNat []) (0 : Nat)) (gI (t6r.getD t8.toNat []) (1 : Nat)) (gI (t6r.getD t8.toNat []) (2 : Nat)) (gI (t6r.getD t8.toNat []) (3 : Nat)) (K_section_Check_3 K))))))))))
 (K (.exit 0) ⟨[], []⟩))) : L_section_Check_3 t3 t6k t6r t7 t8 K := loop_rule (envN E0 nt_section_Check) (okE nt_section_Check) 3 3 (lbodyOf 3 ac_section_Check) [3, 6, 7, 8] _ K rfl (cast (by kernel_rfl) h)
theorem C_section_Check_16_of (t6k : SK) (t6r : List (List IV)) (t7 : Int) (t8 : Int) (h5_1_0 : Int) (h5_1_1 : Int) (h5_1_2 : Int) (h5_1_3 : Int) (K : Ex → St → Prop) (h :
 (K .normal ⟨[(3, (.imm (.int .i64 h5_1_0))), (6, (.imm (.sl t6k 4 t6r))), (7, (.imm (.int .i64 t7))), (8, (.imm (.int .i64 t8)))], []⟩)) : C_section_Check_16 t6k t6r t7 t8 h5_1_0 h5_1_1 h5_1_2 h5_1_3 K := cut_rule (envN E0 nt_section_Check) (okE nt_section_Check) 3 16 (cbodyOf 16 ac_section_Check) [3, 6, 7, 8] _ K rfl (cast (by kernel_rfl) h)
theorem C_section_Check_18_of (K : Ex → St → Prop) (h :
 (K .ret ⟨[(2, (.imm (.int .i64 ((0 : Int)))))], []⟩)) : C_section_Check_18  K := cut_rule (envN E0 nt_section_Check) (okE nt_section_Check) 3 18 (cbodyOf 18 ac_section_Check) [] _ K rfl (cast (by kernel_rfl) h)
theorem C_section_Check_17_of (t3 : Int) (t6k : SK) (t6r : List (List IV)) (t7 : Int) (t8 : Int) (K : Ex → St → Prop) (h :
 (K .normal ⟨[(3, (.imm (.int .i64 t3))), (6, (.imm (.sl t6k 4 t6r))), (7, (.imm (.int .i64 t7))), (8, (.imm (.int .i64 (IntKind.i64.wrap (t8 + (1 : Int))))))], []⟩)) : C_section_Check_17 t3 t6k t6r t7 t8 K := cut_rule (envN E0 nt_section_Check) (okE nt_section_Check) 3 17 (cbodyOf 17 ac_section_Check) [3, 6, 7, 8] _ K rfl (cast (by kernel_rfl) h)
theorem K_section_Check_0_x0 (Q : AV → Heap → Prop) (t2 : Int) (h :
 (Q (.imm (.int .i64 t2)) [])) : K_section_Check_0 Q .ret ⟨[(2, (.imm (.int .i64 t2)))], []⟩ := cast (by kernel_rfl) h
theorem K_section_Check_1_x0 (Q : AV → Heap → Prop) (t2 : Int) (h :
 (Q (.imm (.int .i64 t2)) [])) : K_section_Check_1 Q .ret ⟨[(2, (.imm (.int .i64 t2)))], []⟩ := cast (by kernel_rfl) h
theorem K_section_Check_1_x1 (Q : AV → Heap → Prop) (h :
 (C_section_Check_18  (K_section_Check_0 Q))) : K_section_Check_1 Q (.exit 0) ⟨[], []⟩ := cast (by kernel_rfl) h
theorem K_section_Check_2_x0 (K : Ex → St → Prop) (t3 : Int) (t6k : SK) (t6r : List (List IV)) (t7 : Int) (t8 : Int) (h :
 (L_section_Check_3 t3 t6k t6r t7 t8 K)) : K_section_Check_2 K .normal ⟨[(3, (.imm (.int .i64 t3))), (6, (.imm (.sl t6k 4 t6r))), (7, (.imm (.int .i64 t7))), (8, (.imm (.int .i64 t8)))], []⟩ := cast (by kernel_rfl) h
theorem K_section_Check_3_x0 (K : Ex → St → Prop) (t3 : Int) (t6k : SK) (t6r : List (List IV)) (t7 : Int) (t8 : Int) (h :
 (C_section_Check_17 t3 t6k t6r t7 t8 (K_section_Check_2 K))) : K_section_Check_3 K .normal ⟨[(3, (.imm (.int .i64 t3))), (6, (.imm (.sl t6k 4 t6r))), (7, (.imm (.int .i64 t7))), (8, (.imm (.int .i64 t8)))], []⟩ := cast (by kernel_rfl) h
theorem ok_section_Check : FnOK E0.P 13 ac_section_Check.code nt_section_Check [.tmp 2] := fn_ok _ _ Tryd.f13 [(3, [3, 6, 7, 8], []), (5, [], []), (16, [5, 6, 7, 8], [3, 6, 7, 8]), (17, [3, 6, 7, 8], [3, 6, 7, 8]), (18, [], [])] [2] _ 46 Tryd.func13 (by kernel_rfl) (by kernel_rfl) (by kernel_rfl) (by kernel_rfl)
theorem F_section_Check_of (a0k : SK) (a0 : List (List IV)) (Q : AV → Heap → Prop) (h :
 (L_section_Check_3 ((-1 : Int)) a0k a0 ((↑a0.length : Int)) ((0 : Int)) (K_section_Check_1 Q))) : Call E0.P fn_section_Check [(.imm (.sl a0k 4 a0))] [] Q := fun_rule (envN E0 nt_section_Check) (okE nt_section_Check) 3 13 ac_section_Check [.tmp 2] ok_section_Check _ _ Q rfl rfl (cast (by kernel_rfl) h)
/-! ### r22_Check -/
noncomputable def ac_r22_Check : AC := (annot [(3, [0, 3, 4], []), (5, [], []), (18, [], [])] [2] (codeOf Tryd.f14) 0).1
abbrev nt_r22_Check : Nat := 61
def L_r22_Check_3 (t0k : SK) (t0r : List (List IV)) (t3 : Int) (t4 : Int) (K : Ex → St → Prop) : Prop := LoopOK 3 E0.P nt_r22_Check (lbodyOf 3 ac_r22_Check).code ⟨[(0, (.imm (.sl t0k 4 t0r))), (3, (.imm (.int .i64 t3))), (4, (.imm (.int .i64 t4)))], []⟩ K
def C_r22_Check_18 (K : Ex → St → Prop) : Prop := CutOK 18 E0.P nt_r22_Check (cbodyOf 18 ac_r22_Check).code ⟨[], []⟩ K
def K_r22_Check_0 (Q : AV → Heap → Prop) : Ex → St → Prop
 | .normal, st => finish E0.T [.tmp 2] [] Q st
 | .exit i, st => False
 | .goto i, st => False
 | .ret, st => finish E0.T [.tmp 2] [] Q st
def K_r22_Check_1 (Q : AV → Heap → Prop) : Ex → St → Prop
 | .normal, st => CutOK 18 E0.P nt_r22_Check (cbodyOf 18 ac_r22_Check).code (mask [] st) (K_r22_Check_0 Q)
 | .exit i, st => (match (i.beq (0 : Nat) : Bool) with
 | true => CutOK 18 E0.P nt_r22_Check (cbodyOf 18 ac_r22_Check).code (mask [] st) (K_r22_Check_0 Q)
 | false => False)
 | .goto i, st => False
 | .ret, st => finish E0.T [.tmp 2] [] Q st
theorem L_r22_Check_3_of (t0k : SK) (t0r : List (List IV)) (t3 : Int) (t4 : Int) (K : Ex → St → Prop) (h :
 (Br (decide (t4 < (↑t0r.length : Int)))
 (Req (((0 : Int) ≤ t4 ∧ t4 < (↑t0r.length : Int)) ∧
 shOK [.int .i64, .int .i64, .int .i64, .int .i64] (t0r.getD t4.toNat []) = true)
 (Br (decide (gI (t0r.getD t4.toNat []) (0 : Nat) ≤ t3))
 (K .ret ⟨[(2, (.imm (.int .i64 ((15 : Int)))))], []⟩)
 (Br (decide ((8388607 : Int) < gI (t0r.getD t4.toNat []) (0 : Nat)))
 (K .ret ⟨[(2, (.imm (.int .i64 ((3 : Int)))))], []⟩)
 (Let (bif !decide (gI (t0r.getD t4.toNat []) (1 : Nat) = (0 : Int)) then
 !decide (gI (t0r.getD t4.toNat []) (1 : Nat) = (1 : Int))
 else false) fun x0 =>
 Br (x0)
 (K .ret ⟨[(2, (.imm (.int .i64 ((10 : Int)))))], []⟩)
 (Let (bif decide (gI (t0r.getD t4.toNat []) (2 : Nat) < (0 : Int)) then true
 else decide ((67108864 : Int) < gI (t0r.getD t4.toNat []) (2 : Nat))) fun x1 =>
 Let (bif x1 then true else decide (gI (t0r.getD t4.toNat []) (3 : Nat) < (0 : Int))) fun x2 =>
 Let (bif x2 then true else decide ((65535 : Int) < gI (t0r.getD t4.toNat []) (3 : Nat))) fun x3 =>
 Br (x3)
 (K .ret ⟨[(2, (.imm (.int .i64 ((3 : Int)))))], []⟩)
 (L_r22_Check_3 t0k t0r (gI (t0r.getD t4.toNat []) (0 : Nat)) (IntKind.i64.wrap (t4 + (1 : Int))) K))))))
 (K (.exit 0) ⟨[], []⟩))) : L_r22_Check_3 t0k t0r t3 t4 K := loop_rule (envN E0 nt_r22_Check) (okE nt_r22_Check) 3 3 (lbodyOf 3 ac_r22_Check) [0, 3, 4] _ K rfl (cast (by kernel_rfl) h)
theorem C_r22_Check_18_of (K : Ex → St → Prop) (h :
 (K .ret ⟨[(2, (.imm (.int .i64 ((0 : Int)))))], []⟩)) : C_r22_Check_18  K := cut_rule (envN E0 nt_r22_Check) (okE nt_r22_Check) 3 18 (cbodyOf 18 ac_r22_Check) [] _ K rfl (cast (by kernel_rfl) h)
theorem K_r22_Check_0_x0 (Q : AV → Heap → Prop) (t2 : Int) (h :
 (Q (.imm (.int .i64 t2)) [])) : K_r22_Check_0 Q .ret ⟨[(2, (.imm (.int .i64 t2)))], []⟩ := cast (by kernel_rfl) h
theorem K_r22_Check_1_x0 (Q : AV → Heap → Prop) (t2 : Int) (h :
 (Q (.imm (.int .i64 t2)) [])) : K_r22_Check_1 Q .ret ⟨[(2, (.imm (.int .i64 t2)))], []⟩ := cast (by kernel_rfl) h
theorem K_r22_Check_1_x1 (Q : AV → Heap → Prop) (h :
 (C_r22_Check_18  (K_r22_Check_0 Q))) : K_r22_Check_1 Q (.exit 0) ⟨[], []⟩ := cast (by kernel_rfl) h
theorem ok_r22_Check : FnOK E0.P 14 ac_r22_Check.code nt_r22_Check [.tmp 2] := fn_ok _ _ Tryd.f14 [(3, [0, 3, 4], []), (5, [], []), (18, [], [])] [2] _ 61 Tryd.func14 (by kernel_rfl) (by kernel_rfl) (by kernel_rfl) (by kernel_rfl)
theorem F_r22_Check_of (a0k : SK) (a0 : List (List IV)) (Q : AV → Heap → Prop) (h :
 (L_r22_Check_3 a0k a0 ((-1 : Int)) ((0 : Int)) (K_r22_Check_1 Q))) : Call E0.P fn_r22_Check [(.imm (.sl a0k 4 a0))] [] Q := fun_rule (envN E0 nt_r22_Check) (okE nt_r22_Check) 3 14 ac_r22_Check [.tmp 2] ok_r22_Check _ _ Q rfl rfl (cast (by kernel_rfl) h)
/-! ### section_Read -/
noncomputable def ac_section_Read : AC := (annot [(1, [8, 9], []), (18, [8, 9], [])] [4, 5, 6] (codeOf Tryd.f15) 0).1
abbrev nt_section_Read : Nat := 58
def S_section_Read_1 (h32_1_0 : List UInt8) (h32_1_1 : Int) (h9r : List (List IV)) (K : Ex → St → Prop) : Prop := ScopeOK 1 E0.P nt_section_Read 0 (sbodyOf 1 ac_section_Read).code ⟨[(8, (.ptr (Nm.loc (32 : Nat)) 0)), (9, (.own (Nm.loc (9 : Nat))))], [((Nm.loc (32 : Nat)), (.blk ty_section_reader [(.imm (.str h32_1_0)), (.imm (.int .i64 h32_1_1))])), ((Nm.loc (9 : Nat)), (.arr 55 true 4 h9r))]⟩ K
def K_section_Read_0 (Q : AV → Heap → Prop) : Ex → St → Prop
 | .normal, st => finish E0.T [.tmp 4, .tmp 5, .tmp 6] [] Q st
 | .exit i, st => False
 | .goto i, st => False
 | .ret, st => finish E0.T [.tmp 4, .tmp 5, .tmp 6] [] Q st
theorem S_section_Read_1_of (h32_1_0 : List UInt8) (h32_1_1 : Int) (h9r : List (List IV)) (K : Ex → St → Prop) (h :
 (Call E0.P fn_section_reader_part [(.ptr (Nm.arg (0 : Nat)) 0)] [((Nm.arg (0 : Nat)), (.blk ty_section_reader [(.imm (.str h32_1_0)), (.imm (.int .i64 h32_1_1))]))] fun r0 g0 =>
 Req (g0 =
 [(Nm.arg (0 : Nat),
 Entry.blk (72 : Nat)
 [.imm (.str (rS ((blkOf g0 (Nm.arg (0 : Nat))).getD (0 : Nat) AV.undef))),
 .imm (.int .i64 (rI ((blkOf g0 (Nm.arg (0 : Nat))).getD (1 : Nat) AV.undef)))])] ∧
 r0 =
 .tup
 [.imm (.sl (rK (rT r0 (0 : Nat))) (4 : Nat) (rR (rT r0 (0 : Nat)))),
 .imm (.int .i64 (rI (rT r0 (1 : Nat))))])
 (Br (!decide (rI (rT r0 (1 : Nat)) = (0 : Int)))
 (K .ret ⟨[(4, (.own (Nm.loc (4 : Nat)))), (5, (.imm (.int .i64 ((0 : Int))))), (6, (.imm (.int .i64 (rI (rT r0 (1 : Nat))))))], [((Nm.loc (4 : Nat)), (.arr 55 true 4 []))]⟩)
 (Req ((h9r.length + (rR (rT r0 (0 : Nat))).length) * (32 : Nat) ≤ (140737488355328 : Nat) ∧
 h9r.length + (rR (rT r0 (0 : Nat))).length ≤ (140737488355328 : Nat))
 (Req ((0 : Int) ≤ rI ((blkOf g0 (Nm.arg (0 : Nat))).getD (1 : Nat) AV.undef) ∧
 rI ((blkOf g0 (Nm.arg (0 : Nat))).getD (1 : Nat) AV.undef) ≤
 (↑(rS ((blkOf g0 (Nm.arg (0 : Nat))).getD (0 : Nat) AV.undef)).length : Int))
 (Let (List.drop (rI ((blkOf g0 (Nm.arg (0 : Nat))).getD (1 : Nat) AV.undef)).toNat
 (rS ((blkOf g0 (Nm.arg (0 : Nat))).getD (0 : Nat) AV.undef))) fun x1 =>
 Call E0.P fn_digits_Count [(.imm (.str x1))] [] fun r2 g2 =>
 Req (g2 = [] ∧ r2 = .imm (.int .i64 (rI r2)))
 (Br (decide ((0 : Int) < rI r2))
 (S_section_Read_1 (rS ((blkOf g0 (Nm.arg (0 : Nat))).getD (0 : Nat) AV.undef)) (rI ((blkOf g0 (Nm.arg (0 : Nat))).getD (1 : Nat) AV.undef)) (h9r ++ rR (rT r0 (0 : Nat))) K)
 (Call E0.P fn_section_Check [(.imm (.sl .any 4 (h9r ++ rR (rT r0 (0 : Nat)))))] [] fun r3 g3 =>
 Req (g3 = [] ∧ r3 = .imm (.int .i64 (rI r3)))
 (Br (!decide (rI r3 = (0 : Int)))
 (K .ret ⟨[(4, (.own (Nm.loc (4 : Nat)))), (5, (.imm (.int .i64 ((0 : Int))))), (6, (.imm (.int .i64 (rI r3))))], [((Nm.loc (4 : Nat)), (.arr 55 true 4 []))]⟩)
 (K .ret ⟨[(4, (.own (Nm.loc (9 : Nat)))), (5, (.imm (.int .i64 (rI ((blkOf g0 (Nm.arg (0 : Nat))).getD (1 : Nat) AV.undef))))), (6, (.imm (.int .i64 ((0 : Int)))))], [((Nm.loc (9 : Nat)), (.arr 55 false 4 (h9r ++ rR (rT r0 (0 : Nat)))))]⟩)))))))))) : S_section_Read_1 h32_1_0 h32_1_1 h9r K := scope_rule (envN E0 nt_section_Read) (okE nt_section_Read) 3 1 0 (sbodyOf 1 ac_section_Read) (safterOf 1 0 ac_section_Read) [8, 9] _ K (by kernel_rfl) rfl (cast (by kernel_rfl) h)
theorem K_section_Read_0_x0 (Q : AV → Heap → Prop) (t5 : Int) (t6 : Int) (h4r : List (List IV)) (h :
 (Q (.tup [(.imm (.sl .any 4 h4r)), (.imm (.int .i64 t5)), (.imm (.int .i64 t6))]) [])) : K_section_Read_0 Q .ret ⟨[(4, (.own (Nm.loc (4 : Nat)))), (5, (.imm (.int .i64 t5))), (6, (.imm (.int .i64 t6)))], [((Nm.loc (4 : Nat)), (.arr 55 true 4 h4r))]⟩ := cast (by kernel_rfl) h
theorem K_section_Read_0_x1 (Q : AV → Heap → Prop) (t5 : Int) (t6 : Int) (h9r : List (List IV)) (h :
 (Q (.tup [(.imm (.sl .any 4 h9r)), (.imm (.int .i64 t5)), (.imm (.int .i64 t6))]) [])) : K_section_Read_0 Q .ret ⟨[(4, (.own (Nm.loc (9 : Nat)))), (5, (.imm (.int .i64 t5))), (6, (.imm (.int .i64 t6)))], [((Nm.loc (9 : Nat)), (.arr 55 false 4 h9r))]⟩ := cast (by kernel_rfl) h
theorem ok_section_Read : FnOK E0.P 15 ac_section_Read.code nt_section_Read [.tmp 4, .tmp 5, .tmp 6] := fn_ok _ _ Tryd.f15 [(1, [8, 9], []), (18, [8, 9], [])] [4, 5, 6] _ 58 Tryd.func15 (by kernel_rfl) (by kernel_rfl) (by kernel_rfl) (by kernel_rfl)
theorem F_section_Read_of (a0 : List UInt8) (a1 : Int) (Q : AV → Heap → Prop) (h :
 (Let (bif decide (a1 < (0 : Int)) then true else decide ((↑a0.length : Int) < a1)) fun x0 =>
 Br (x0)
 (Q (.tup [(.imm (.sl .any 4 [])), (.imm (.int .i64 ((0 : Int)))), (.imm (.int .i64 ((2 : Int))))]) [])
 (Req ((0 : Int) ≤ a1 ∧ a1 ≤ (↑a0.length : Int))
 (Let (List.drop a1.toNat a0) fun x1 =>
 Call E0.P fn_section_begins [(.imm (.str x1))] [] fun r2 g2 =>
 Req (g2 = [] ∧ r2 = .imm (.int .i64 (rI r2)))
 (Br (!decide (rI r2 = (0 : Int)))
 (Q (.tup [(.imm (.sl .any 4 [])), (.imm (.int .i64 ((0 : Int)))), (.imm (.int .i64 (rI r2)))]) [])
 (Call E0.P fn_section_reader_part [(.ptr (Nm.arg (0 : Nat)) 0)] [((Nm.arg (0 : Nat)), (.blk ty_section_reader [(.imm (.str a0)), (.imm (.int .i64 (IntKind.i64.wrap (a1 + (5 : Int)))))]))] fun r3 g3 =>
 Req (g3 =
 [(Nm.arg (0 : Nat),
 Entry.blk (72 : Nat)
 [.imm (.str (rS ((blkOf g3 (Nm.arg (0 : Nat))).getD (0 : Nat) AV.undef))),
 .imm (.int .i64 (rI ((blkOf g3 (Nm.arg (0 : Nat))).getD (1 : Nat) AV.undef)))])] ∧
 r3 =
 .tup
 [.imm (.sl (rK (rT r3 (0 : Nat))) (4 : Nat) (rR (rT r3 (0 : Nat)))),
 .imm (.int .i64 (rI (rT r3 (1 : Nat))))])
 (Br (!decide (rI (rT r3 (1 : Nat)) = (0 : Int)))
 (Q (.tup [(.imm (.sl .any 4 [])), (.imm (.int .i64 ((0 : Int)))), (.imm (.int .i64 (rI (rT r3 (1 : Nat)))))]) [])
 (Req (((0 : Nat) + (rR (rT r3 (0 : Nat))).length) * (32 : Nat) ≤ (140737488355328 : Nat) ∧
 (0 : Nat) + (rR (rT r3 (0 : Nat))).length ≤ (140737488355328 : Nat))
 (Req ((0 : Int) ≤ rI ((blkOf g3 (Nm.arg (0 : Nat))).getD (1 : Nat) AV.undef) ∧
 rI ((blkOf g3 (Nm.arg (0 : Nat))).getD (1 : Nat) AV.undef) ≤
 (↑(rS ((blkOf g3 (Nm.arg (0 : Nat))).getD (0 : Nat) AV.undef)).length : Int))
 (Let (List.drop (rI ((blkOf g3 (Nm.arg (0 : Nat))).getD (1 : Nat) AV.undef)).toNat
 (rS ((blkOf g3 (Nm.arg (0 : Nat))).getD (0 : Nat) AV.undef))) fun x4 =>
 Call E0.P fn_digits_Count [(.imm (.str x4))] [] fun r5 g5 =>
 Req (g5 = [] ∧ r5 = .imm (.int .i64 (rI r5)))
 (Br (decide ((0 : Int) < rI r5))
 (S_section_Read_1 (rS ((blkOf g3 (Nm.arg (0 : Nat))).getD (0 : Nat) AV.undef)) (rI ((blkOf g3 (Nm.arg (0 : Nat))).getD (1 : Nat) AV.undef)) ([] ++ rR (rT r3 (0 : Nat))) (K_section_Read_0 Q))
 (Call E0.P fn_section_Check [(.imm (.sl .any 4 ([] ++ rR (rT r3 (0 : Nat)))))] [] fun r6 g6 =>
 Req (g6 = [] ∧ r6 = .imm (.int .i64 (rI r6)))
 (Br (!decide (rI r6 = (0 : Int)))
 (Q (.tup [(.imm (.sl .any 4 [])), (.imm (.int .i64 ((0 : Int)))), (.imm (.int .i64 (rI r6)))]) [])
 (Q (.tup [(.imm (.sl .any 4 ([] ++ rR (rT r3 (0 : Nat))))), (.imm (.int .i64 (rI ((blkOf g3 (Nm.arg (0 : Nat))).getD (1 : Nat) AV.undef)))), (.imm (.int .i64 ((0 : Int))))]) [])))))))))))))) : Call E0.P fn_section_Read [(.imm (.str a0)), (.imm (.int .i64 a1))] [] Q := fun_rule (envN E0 nt_section_Read) (okE nt_section_Read) 3 15 ac_section_Read [.tmp 4, .tmp 5, .tmp 6] ok_section_Read _ _ Q rfl rfl (cast (by kernel_rfl) h)
/-! ### r22_Read -/
noncomputable def ac_r22_Read : AC := (annot [(13, [0, 1, 7, 8], []), (15, [1, 7], []), (16, [0, 1, 7], [0, 1, 7, 8]), (31, [0, 1, 7, 8, 9, 12, 13], []), (33, [0, 1, 7, 8], []), (41, [1, 7], [])] [4, 5, 6] (codeOf Tryd.f16) 0).1
abbrev nt_r22_Read : Nat := 118
def L_r22_Read_13 (t0 : List UInt8) (t1 : Int) (t8 : Bool) (h47r : List (List IV)) (K : Ex → St → Prop) : Prop := LoopOK 13 E0.P nt_r22_Read (lbodyOf 13 ac_r22_Read).code ⟨[(0, (.imm (.str t0))), (1, (.imm (.int .i64 t1))), (7, (.own (Nm.loc (47 : Nat)))), (8, (.imm (.bool t8)))], [((Nm.loc (47 : Nat)), (.arr 0 true 4 h47r))]⟩ K
def C_r22_Read_16 (t0 : List UInt8) (t1 : Int) (h47r : List (List IV)) (K : Ex → St → Prop) : Prop := CutOK 16 E0.P nt_r22_Read (cbodyOf 16 ac_r22_Read).code ⟨[(0, (.imm (.str t0))), (1, (.imm (.int .i64 t1))), (7, (.own (Nm.loc (47 : Nat))))], [((Nm.loc (47 : Nat)), (.arr 0 true 4 h47r))]⟩ K
def L_r22_Read_31 (t0 : List UInt8) (t1 : Int) (t8 : Bool) (t9 : Int) (t12 : Int) (t13 : Int) (h47r : List (List IV)) (K : Ex → St → Prop) : Prop := LoopOK 31 E0.P nt_r22_Read (lbodyOf 31 ac_r22_Read).code ⟨[(0, (.imm (.str t0))), (1, (.imm (.int .i64 t1))), (7, (.own (Nm.loc (47 : Nat)))), (8, (.imm (.bool t8))), (9, (.imm (.int .i64 t9))), (12, (.imm (.int .i64 t12))), (13, (.imm (.int .i64 t13)))], [((Nm.loc (47 : Nat)), (.arr 0 true 4 h47r))]⟩ K
def C_r22_Read_41 (t1 : Int) (h47r : List (List IV)) (K : Ex → St → Prop) : Prop := CutOK 41 E0.P nt_r22_Read (cbodyOf 41 ac_r22_Read).code ⟨[(1, (.imm (.int .i64 t1))), (7, (.own (Nm.loc (47 : Nat))))], [((Nm.loc (47 : Nat)), (.arr 0 true 4 h47r))]⟩ K
def K_r22_Read_0 (Q : AV → Heap → Prop) : Ex → St → Prop
 | .normal, st => finish E0.T [.tmp 4, .tmp 5, .tmp 6] [] Q st
 | .exit i, st => False
 | .goto i, st => False
 | .ret, st => finish E0.T [.tmp 4, .tmp 5, .tmp 6] [] Q st
def K_r22_Read_1 (Q : AV → Heap → Prop) : Ex → St → Prop
 | .normal, st => CutOK 41 E0.P nt_r22_Read (cbodyOf 41 ac_r22_Read).code (mask [(1 : Nat), (7 : Nat)] st) (K_r22_Read_0 Q)
 | .exit i, st => (match (i.beq (0 : Nat) : Bool) with
 | true => CutOK 41 E0.P nt_r22_Read (cbodyOf 41 ac_r22_Read).code (mask [(1 : Nat), (7 : Nat)] st) (K_r22_Read_0 Q)
 | false => False)
 | .goto i, st => False
 | .ret, st => finish E0.T [.tmp 4, .tmp 5, .tmp 6] [] Q st
def K_r22_Read_2 (K : Ex → St → Prop) : Ex → St → Prop
 | .normal, st => LoopOK 13 E0.P nt_r22_Read (lbodyOf 13 ac_r22_Read).code (mask [(0 : Nat), (1 : Nat), (7 : Nat), (8 : Nat)] st) K
 | .exit i, st => K (.exit i) st
 | .goto i, st => K (.goto i) st
 | .ret, st => K .ret st
def K_r22_Read_3 (K : Ex → St → Prop) : Ex → St → Prop
 | .normal, st => K .normal (mask [(0 : Nat), (1 : Nat), (7 : Nat), (8 : Nat)] st)
 | .exit i, st => (match (i.beq (2 : Nat) : Bool) with
 | true => K .normal (mask [(0 : Nat), (1 : Nat), (7 : Nat), (8 : Nat)] st)
 | false => (match (i.beq (1 : Nat) : Bool) with
 | true => K .normal (mask [(0 : Nat), (1 : Nat), (7 : Nat), (8 : Nat)] st)
 | false => K (.exit i) st))
 | .goto i, st => K (.goto i) st
 | .ret, st => K .ret st
theorem L_r22_Read_13_of (t0 : List UInt8) (t1 : Int) (t8 : Bool) (h47r : List (List IV)) (K : Ex → St → Prop) (h :
 (Req (t8 = false → (0 : Int) ≤ t1 ∧ t1 ≤ (↑t0.length : Int))
 (Let (List.drop t1.toNat t0) fun x0 =>
 Br (t8 == false)
 (Call E0.P fn_r02_Count [(.imm (.str x0))] [] fun r1 g1 =>
 Req (g1 = [] ∧ r1 = .imm (.int .i64 (rI r1)))
 (Let (decide ((0 : Int) < rI r1)) fun x2 =>
 Br (x2)
 (C_r22_Read_16 t0 t1 h47r (K_r22_Read_2 K))
 (K (.exit 0) ⟨[(1, (.imm (.int .i64 t1))), (7, (.own (Nm.loc (47 : Nat))))], [((Nm.loc (47 : Nat)), (.arr 0 true 4 h47r))]⟩)))
 (Req ((!false) = true)
 (Let (true) fun x3 =>
 Br (x3)
 (C_r22_Read_16 t0 t1 h47r (K_r22_Read_2 K))
 (K (.exit 0) ⟨[(1, (.imm (.int .i64 t1))), (7, (.own (Nm.loc (47 : Nat))))], [((Nm.loc (47 : Nat)), (.arr 0 true 4 h47r))]⟩)))))) : L_r22_Read_13 t0 t1 t8 h47r K := loop_rule (envN E0 nt_r22_Read) (okE nt_r22_Read) 3 13 (lbodyOf 13 ac_r22_Read) [0, 1, 7, 8] _ K rfl (cast (by kernel_rfl) h)
theorem C_r22_Read_16_of (t0 : List UInt8) (t1 : Int) (h47r : List (List IV)) (K : Ex → St → Prop) (h :
 (Call E0.P fn_r22_number [(.imm (.str t0)), (.imm (.int .i64 t1)), (.imm (.int .u8 ((32 : Int))))] [] fun r0 g0 =>
 Req (g0 = [] ∧
 r0 =
 .tup
 [.imm (.int .i64 (rI (rT r0 (0 : Nat)))), .imm (.int .i64 (rI (rT r0 (1 : Nat)))),
 .imm (.int .i64 (rI (rT r0 (2 : Nat))))])
 (Br (!decide (rI (rT r0 (2 : Nat)) = (0 : Int)))
 (K .ret ⟨[(4, (.own (Nm.loc (4 : Nat)))), (5, (.imm (.int .i64 ((0 : Int))))), (6, (.imm (.int .i64 (rI (rT r0 (2 : Nat))))))], [((Nm.loc (4 : Nat)), (.arr 55 true 4 []))]⟩)
 (Call E0.P fn_r22_number [(.imm (.str t0)), (.imm (.int .i64 (rI (rT r0 (1 : Nat))))), (.imm (.int .u8 ((10 : Int))))] [] fun r1 g1 =>
 Req (g1 = [] ∧
 r1 =
 .tup
 [.imm (.int .i64 (rI (rT r1 (0 : Nat)))), .imm (.int .i64 (rI (rT r1 (1 : Nat)))),
 .imm (.int .i64 (rI (rT r1 (2 : Nat))))])
 (Br (!decide (rI (rT r1 (2 : Nat)) = (0 : Int)))
 (K .ret ⟨[(4, (.own (Nm.loc (4 : Nat)))), (5, (.imm (.int .i64 ((0 : Int))))), (6, (.imm (.int .i64 (rI (rT r1 (2 : Nat))))))], [((Nm.loc (4 : Nat)), (.arr 55 true 4 []))]⟩)
 (Br (decide
 (IntKind.i64.wrap ((↑t0.length : Int) - rI (rT r1 (1 : Nat))) < IntKind.i64.wrap ((20 : Int) * rI (rT r1 (0 : Nat)))))
 (K .ret ⟨[(4, (.own (Nm.loc (4 : Nat)))), (5, (.imm (.int .i64 ((0 : Int))))), (6, (.imm (.int .i64 ((5 : Int)))))], [((Nm.loc (4 : Nat)), (.arr 55 true 4 []))]⟩)
 (L_r22_Read_31 t0 (rI (rT r1 (1 : Nat))) false (rI (rT r0 (0 : Nat))) (rI (rT r1 (0 : Nat))) ((0 : Int)) h47r (K_r22_Read_3 K)))))))) : C_r22_Read_16 t0 t1 h47r K := cut_rule (envN E0 nt_r22_Read) (okE nt_r22_Read) 3 16 (cbodyOf 16 ac_r22_Read) [0, 1, 7, 8] _ K rfl (cast (by kernel_rfl) h)
theorem L_r22_Read_31_of (t0 : List UInt8) (t1 : Int) (t8 : Bool) (t9 : Int) (t12 : Int) (t13 : Int) (h47r : List (List IV)) (K : Ex → St → Prop) (h :
 (Br (decide (t13 < t12))
 (Req ((0 : Int) ≤ t1 ∧ t1 ≤ IntKind.i64.wrap (t1 + (20 : Int)) ∧ IntKind.i64.wrap (t1 + (20 : Int)) ≤ (↑t0.length : Int))
 (Let (List.drop t1.toNat (List.take (IntKind.i64.wrap (t1 + (20 : Int))).toNat t0)) fun x0 =>
 Call E0.P fn_r22_entry [(.imm (.str x0))] [] fun r1 g1 =>
 Req (g1 = [] ∧
 r1 =
 .tup
 [.imm
 (IV.agg
 [.int .i64 (gI (aCells (rT r1 (0 : Nat))) (0 : Nat)),
 .int .i64 (gI (aCells (rT r1 (0 : Nat))) (1 : Nat)),
 .int .i64 (gI (aCells (rT r1 (0 : Nat))) (2 : Nat))]),
 .imm (.int .i64 (rI (rT r1 (1 : Nat))))])
 (Br (!decide (rI (rT r1 (1 : Nat)) = (0 : Int)))
 (K .ret ⟨[(4, (.own (Nm.loc (4 : Nat)))), (5, (.imm (.int .i64 ((0 : Int))))), (6, (.imm (.int .i64 (rI (rT r1 (1 : Nat))))))], [((Nm.loc (4 : Nat)), (.arr 55 true 4 []))]⟩)
 (Req ((h47r.length + (1 : Nat)) * (32 : Nat) ≤ (140737488355328 : Nat) ∧ h47r.length + (1 : Nat) ≤ (140737488355328 : Nat))
 (L_r22_Read_31 t0 (IntKind.i64.wrap (t1 + (20 : Int))) t8 t9 t12 (IntKind.i64.wrap (t13 + (1 : Int))) (h47r ++
 [[.int .i64 (IntKind.i64.wrap (t9 + t13)), .int .i64 (gI (aCells (rT r1 (0 : Nat))) (0 : Nat)),
 .int .i64 (gI (aCells (rT r1 (0 : Nat))) (1 : Nat)),
 .int .i64 (gI (aCells (rT r1 (0 : Nat))) (2 : Nat))]]) K)))))
 (K (.exit ((2 : Nat))) ⟨[(0, (.imm (.str t0))), (1, (.imm (.int .i64 t1))), (7, (.own (Nm.loc (47 : Nat)))), (8, (.imm (.bool t8)))], [((Nm.loc (47 : Nat)), (.arr 0 true 4 h47r))]⟩))) : L_r22_Read_31 t0 t1 t8 t9 t12 t13 h47r K := loop_rule (envN E0 nt_r22_Read) (okE nt_r22_Read) 3 31 (lbodyOf 31 ac_r22_Read) [0, 1, 7, 8, 9, 12, 13] _ K rfl (cast (by kernel_rfl) h)
theorem C_r22_Read_41_of (t1 : Int) (h47r : List (List IV)) (K : Ex → St → Prop) (h :
 (Call E0.P fn_r22_Check [(.imm (.sl .any 4 h47r))] [] fun r0 g0 =>
 Req (g0 = [] ∧ r0 = .imm (.int .i64 (rI r0)))
 (Br (!decide (rI r0 = (0 : Int)))
 (K .ret ⟨[(4, (.own (Nm.loc (4 : Nat)))), (5, (.imm (.int .i64 ((0 : Int))))), (6, (.imm (.int .i64 (rI r0))))], [((Nm.loc (4 : Nat)), (.arr 55 true 4 []))]⟩)
 (K .ret ⟨[(4, (.own (Nm.loc (47 : Nat)))), (5, (.imm (.int .i64 t1))), (6, (.imm (.int .i64 ((0 : Int)))))], [((Nm.loc (47 : Nat)), (.arr 0 false 4 h47r))]⟩)))) : C_r22_Read_41 t1 h47r K := cut_rule (envN E0 nt_r22_Read) (okE nt_r22_Read) 3 41 (cbodyOf 41 ac_r22_Read) [] _ K rfl (cast (by kernel_rfl) h)
theorem K_r22_Read_0_x0 (Q : AV → Heap → Prop) (t5 : Int) (t6 : Int) (h4r : List (List IV)) (h :
 (Q (.tup [(.imm (.sl .any 4 h4r)), (.imm (.int .i64 t5)), (.imm (.int .i64 t6))]) [])) : K_r22_Read_0 Q .ret ⟨[(4, (.own (Nm.loc (4 : Nat)))), (5, (.imm (.int .i64 t5))), (6, (.imm (.int .i64 t6)))], [((Nm.loc (4 : Nat)), (.arr 55 true 4 h4r))]⟩ := cast (by kernel_rfl) h
theorem K_r22_Read_0_x1 (Q : AV → Heap → Prop) (t5 : Int) (t6 : Int) (h47r : List (List IV)) (h :
 (Q (.tup [(.imm (.sl .any 4 h47r)), (.imm (.int .i64 t5)), (.imm (.int .i64 t6))]) [])) : K_r22_Read_0 Q .ret ⟨[(4, (.own (Nm.loc (47 : Nat)))), (5, (.imm (.int .i64 t5))), (6, (.imm (.int .i64 t6)))], [((Nm.loc (47 : Nat)), (.arr 0 false 4 h47r))]⟩ := cast (by kernel_rfl) h
theorem K_r22_Read_1_x0 (Q : AV → Heap → Prop) (t1 : Int) (h47r : List (List IV)) (h :
 (C_r22_Read_41 t1 h47r (K_r22_Read_0 Q))) : K_r22_Read_1 Q (.exit 0) ⟨[(1, (.imm (.int .i64 t1))), (7, (.own (Nm.loc (47 : Nat))))], [((Nm.loc (47 : Nat)), (.arr 0 true 4 h47r))]⟩ := cast (by kernel_rfl) h
theorem K_r22_Read_1_x1 (Q : AV → Heap → Prop) (t5 : Int) (t6 : Int) (h4r : List (List IV)) (h :
 (Q (.tup [(.imm (.sl .any 4 h4r)), (.imm (.int .i64 t5)), (.imm (.int .i64 t6))]) [])) : K_r22_Read_1 Q .ret ⟨[(4, (.own (Nm.loc (4 : Nat)))), (5, (.imm (.int .i64 t5))), (6, (.imm (.int .i64 t6)))], [((Nm.loc (4 : Nat)), (.arr 55 true 4 h4r))]⟩ := cast (by kernel_rfl) h
theorem K_r22_Read_2_x0 (K : Ex → St → Prop) (t5 : Int) (t6 : Int) (h4r : List (List IV)) (h :
 (K .ret ⟨[(4, (.own (Nm.loc (4 : Nat)))), (5, (.imm (.int .i64 t5))), (6, (.imm (.int .i64 t6)))], [((Nm.loc (4 : Nat)), (.arr 55 true 4 h4r))]⟩)) : K_r22_Read_2 K .ret ⟨[(4, (.own (Nm.loc (4 : Nat)))), (5, (.imm (.int .i64 t5))), (6, (.imm (.int .i64 t6)))], [((Nm.loc (4 : Nat)), (.arr 55 true 4 h4r))]⟩ := cast (by kernel_rfl) h
theorem K_r22_Read_2_x1 (K : Ex → St → Prop) (t0 : List UInt8) (t1 : Int) (t8 : Bool) (h47r : List (List IV)) (h :
 (L_r22_Read_13 t0 t1 t8 h47r K)) : K_r22_Read_2 K .normal ⟨[(0, (.imm (.str t0))), (1, (.imm (.int .i64 t1))), (7, (.own (Nm.loc (47 : Nat)))), (8, (.imm (.bool t8)))], [((Nm.loc (47 : Nat)), (.arr 0 true 4 h47r))]⟩ := cast (by kernel_rfl) h
theorem K_r22_Read_3_x0 (K : Ex → St → Prop) (t5 : Int) (t6 : Int) (h4r : List (List IV)) (h :
 (K .ret ⟨[(4, (.own (Nm.loc (4 : Nat)))), (5, (.imm (.int .i64 t5))), (6, (.imm (.int .i64 t6)))], [((Nm.loc (4 : Nat)), (.arr 55 true 4 h4r))]⟩)) : K_r22_Read_3 K .ret ⟨[(4, (.own (Nm.loc (4 : Nat)))), (5, (.imm (.int .i64 t5))), (6, (.imm (.int .i64 t6)))], [((Nm.loc (4 : Nat)), (.arr 55 true 4 h4r))]⟩ := cast (by kernel_rfl) h
theorem K_r22_Read_3_x1 (K : Ex → St → Prop) (t0 : List UInt8) (t1 : Int) (t8 : Bool) (h47r : List (List IV)) (h :
 (K .normal ⟨[(0, (.imm (.str t0))), (1, (.imm (.int .i64 t1))), (7, (.own (Nm.loc (47 : Nat)))), (8, (.imm (.bool t8)))], [((Nm.loc (47 : Nat)), (.arr 0 true 4 h47r))]⟩)) : K_r22_Read_3 K (.exit ((2 : Nat))) ⟨[(0, (.imm (.str t0))), (1, (.imm (.int .i64 t1))), (7, (.own (Nm.loc (47 : Nat)))), (8, (.imm (.bool t8)))], [((Nm.loc (47 : Nat)), (.arr 0 true 4 h47r))]⟩ := cast (by kernel_rfl) h
theorem ok_r22_Read : FnOK E0.P 16 ac_r22_Read.code nt_r22_Read [.tmp 4, .tmp 5, .tmp 6] := fn_ok _ _ Tryd.f16 [(13, [0, 1, 7, 8], []), (15, [1, 7], []), (16, [0, 1, 7], [0, 1, 7, 8]), (31, [0, 1, 7, 8, 9, 12, 13], []), (33, [0, 1, 7, 8], []), (41, [1, 7], [])] [4, 5, 6] _ 118 Tryd.func16 (by kernel_rfl) (by kernel_rfl) (by kernel_rfl) (by kernel_rfl)
theorem F_r22_Read_of (a0 : List UInt8) (a1 : Int) (Q : AV → Heap → Prop) (h :
 (Let (bif decide (a1 < (0 : Int)) then true else decide ((↑a0.length : Int) < a1)) fun x0 =>
 Br (x0)
 (Q (.tup [(.imm (.sl .any 4 [])), (.imm (.int .i64 ((0 : Int)))), (.imm (.int .i64 ((2 : Int))))]) [])
 (Call E0.P fn_r01_Stands [(.imm (.str a0)), (.imm (.int .i64 a1)), (.imm (.str [(120 : UInt8), (114 : UInt8), (101 : UInt8), (102 : UInt8), (10 : UInt8)]))] [] fun r1 g1 =>
 Req (g1 = [] ∧ r1 = .imm (.bool (rB r1)))
 (Br (!rB r1)
 (Req (decide (IntKind.i64.wrap ((↑a0.length : Int) - a1) < (5 : Int)) = true → (0 : Int) ≤ a1 ∧ a1 ≤ (↑a0.length : Int))
 (Let (List.drop a1.toNat a0) fun x2 =>
 Req (decide (IntKind.i64.wrap ((↑a0.length : Int) - a1) < (5 : Int)) = true →
 (0 : Int) ≤ IntKind.i64.wrap ((↑a0.length : Int) - a1) ∧
 IntKind.i64.wrap ((↑a0.length : Int) - a1) ≤ (↑(5 : Nat) : Int))
 (Let (List.take (IntKind.i64.wrap ((↑a0.length : Int) - a1)).toNat
 [(120 : UInt8), (114 : UInt8), (101 : UInt8), (102 : UInt8), (10 : UInt8)]) fun x3 =>
 Let (bif decide (IntKind.i64.wrap ((↑a0.length : Int) - a1) < (5 : Int)) then x2 == x3 else false) fun x4 =>
 Br (x4)
 (Q (.tup [(.imm (.sl .any 4 [])), (.imm (.int .i64 ((0 : Int)))), (.imm (.int .i64 ((5 : Int))))]) [])
 (Q (.tup [(.imm (.sl .any 4 [])), (.imm (.int .i64 ((0 : Int)))), (.imm (.int .i64 ((4 : Int))))]) []))))
 (L_r22_Read_13 a0 (IntKind.i64.wrap (a1 + (5 : Int))) true [] (K_r22_Read_1 Q)))))) : Call E0.P fn_r22_Read [(.imm (.str a0)), (.imm (.int .i64 a1))] [] Q := fun_rule (envN E0 nt_r22_Read) (okE nt_r22_Read) 3 16 ac_r22_Read [.tmp 4, .tmp 5, .tmp 6] ok_r22_Read _ _ Q rfl rfl (cast (by kernel_rfl) h)
/-! ### r21_SameRows -/
noncomputable def ac_r21_SameRows : AC := (annot [(5, [0, 1, 5], []), (7, [], []), (12, [], [])] [4] (codeOf Tryd.f17) 0).1
abbrev nt_r21_SameRows : Nat := 26
def L_r21_SameRows_5 (t0k : SK) (t0r : List (List IV)) (t1k : SK) (t1r : List (List IV)) (t5 : Int) (K : Ex → St → Prop) : Prop := LoopOK 5 E0.P nt_r21_SameRows (lbodyOf 5 ac_r21_SameRows).code ⟨[(0, (.imm (.sl t0k 4 t0r))), (1, (.imm (.sl t1k 4 t1r))), (5, (.imm (.int .i64 t5)))], []⟩ K
def C_r21_SameRows_12 (K : Ex → St → Prop) : Prop := CutOK 12 E0.P nt_r21_SameRows (cbodyOf 12 ac_r21_SameRows).code ⟨[], []⟩ K
def K_r21_SameRows_0 (Q : AV → Heap → Prop) : Ex → St → Prop
 | .normal, st => finish E0.T [.tmp 4] [] Q st
 | .exit i, st => False
 | .goto i, st => False
 | .ret, st => finish E0.T [.tmp 4] [] Q st
def K_r21_SameRows_1 (Q : AV → Heap → Prop) : Ex → St → Prop
 | .normal, st => CutOK 12 E0.P nt_r21_SameRows (cbodyOf 12 ac_r21_SameRows).code (mask [] st) (K_r21_SameRows_0 Q)
 | .exit i, st => (match (i.beq (0 : Nat) : Bool) with
 | true => CutOK 12 E0.P nt_r21_SameRows (cbodyOf 12 ac_r21_SameRows).code (mask [] st) (K_r21_SameRows_0 Q)
 | false => False)
 | .goto i, st => False
 | .ret, st => finish E0.T [.tmp 4] [] Q st
theorem L_r21_SameRows_5_of (t0k : SK) (t0r : List (List IV)) (t1k : SK) (t1r : List (List IV)) (t5 : Int) (K : Ex → St → Prop) (h :
 (Br (decide (t5 < (↑t0r.length : Int)))
 (Req (((0 : Int) ≤ t5 ∧ t5 < (↑t0r.length : Int)) ∧
 shOK [.int .i64, .int .i64, .int .i64, .int .i64] (t0r.getD t5.toNat []) = true)
 (Req (((0 : Int) ≤ t5 ∧ t5 < (↑t1r.length : Int)) ∧
 shOK [.int .i64, .int .i64, .int .i64, .int .i64] (t1r.getD t5.toNat []) = true)
 (Br (!(decide (gI (t0r.getD t5.toNat []) (0 : Nat) = gI (t1r.getD t5.toNat []) (0 : Nat)) &&
 (decide (gI (t0r.getD t5.toNat []) (1 : Nat) = gI (t1r.getD t5.toNat []) (1 : Nat)) &&
 (decide (gI (t0r.getD t5.toNat []) (2 : Nat) = gI (t1r.getD t5.toNat []) (2 : Nat)) &&
 decide (gI (t0r.getD t5.toNat []) (3 : Nat) = gI (t1r.getD t5.toNat []) (3 : Nat))))))
 (K .ret ⟨[(4, (.imm (.bool false)))], []⟩)
 (L_r21_SameRows_5 t0k t0r t1k t1r (IntKind.i64.wrap (t5 + (1 : Int))) K))))
 (K (.exit 0) ⟨[], []⟩))) : L_r21_SameRows_5 t0k t0r t1k t1r t5 K := loop_rule (envN E0 nt_r21_SameRows) (okE nt_r21_SameRows) 3 5 (lbodyOf 5 ac_r21_SameRows) [0, 1, 5] _ K rfl (cast (by kernel_rfl) h)
theorem C_r21_SameRows_12_of (K : Ex → St → Prop) (h :
 (K .ret ⟨[(4, (.imm (.bool true)))], []⟩)) : C_r21_SameRows_12  K := cut_rule (envN E0 nt_r21_SameRows) (okE nt_r21_SameRows) 3 12 (cbodyOf 12 ac_r21_SameRows) [] _ K rfl (cast (by kernel_rfl) h)
theorem K_r21_SameRows_0_x0 (Q : AV → Heap → Prop) (t4 : Bool) (h :
 (Q (.imm (.bool t4)) [])) : K_r21_SameRows_0 Q .ret ⟨[(4, (.imm (.bool t4)))], []⟩ := cast (by kernel_rfl) h
theorem K_r21_SameRows_1_x0 (Q : AV → Heap → Prop) (t4 : Bool) (h :
 (Q (.imm (.bool t4)) [])) : K_r21_SameRows_1 Q .ret ⟨[(4, (.imm (.bool t4)))], []⟩ := cast (by kernel_rfl) h
theorem K_r21_SameRows_1_x1 (Q : AV → Heap → Prop) (h :
 (C_r21_SameRows_12  (K_r21_SameRows_0 Q))) : K_r21_SameRows_1 Q (.exit 0) ⟨[], []⟩ := cast (by kernel_rfl) h
theorem ok_r21_SameRows : FnOK E0.P 17 ac_r21_SameRows.code nt_r21_SameRows [.tmp 4] := fn_ok _ _ Tryd.f17 [(5, [0, 1, 5], []), (7, [], []), (12, [], [])] [4] _ 26 Tryd.func17 (by kernel_rfl) (by kernel_rfl) (by kernel_rfl) (by kernel_rfl)
theorem F_r21_SameRows_of (a0k : SK) (a0 : List (List IV)) (a1k : SK) (a1 : List (List IV)) (Q : AV → Heap → Prop) (h :
 (Br (!decide ((↑a0.length : Int) = (↑a1.length : Int)))
 (Q (.imm (.bool false)) [])
 (L_r21_SameRows_5 a0k a0 a1k a1 ((0 : Int)) (K_r21_SameRows_1 Q)))) : Call E0.P fn_r21_SameRows [(.imm (.sl a0k 4 a0)), (.imm (.sl a1k 4 a1))] [] Q := fun_rule (envN E0 nt_r21_SameRows) (okE nt_r21_SameRows) 3 17 ac_r21_SameRows [.tmp 4] ok_r21_SameRows _ _ Q rfl rfl (cast (by kernel_rfl) h)
/-! ### digits_Pad -/
noncomputable def ac_digits_Pad : AC := (annot [] [4, 5] (codeOf Tryd.f18) 0).1
abbrev nt_digits_Pad : Nat := 30
theorem ok_digits_Pad : FnOK E0.P 18 ac_digits_Pad.code nt_digits_Pad [.tmp 4, .tmp 5] := fn_ok _ _ Tryd.f18 [] [4, 5] _ 30 Tryd.func18 (by kernel_rfl) (by kernel_rfl) (by kernel_rfl) (by kernel_rfl)
theorem F_digits_Pad_of (a0 : Int) (a1 : Int) (Q : AV → Heap → Prop) (h :
 (Let (bif decide (a1 < (1 : Int)) then true else decide ((20 : Int) < a1)) fun x0 =>
 Br (x0)
 (Q (.tup [(.imm (.str [])), (.imm (.int .i64 ((2 : Int))))]) [])
 (Call E0.P fn_digits_Put [(.imm (.int .i64 a0))] [] fun r1 g1 =>
 Req (g1 = [] ∧ r1 = .imm (.str (rS r1)))
 (Let (bif decide (a0 < (0 : Int)) then true else decide (a1 < (↑(rS r1).length : Int))) fun x2 =>
 Br (x2)
 (Q (.tup [(.imm (.str [])), (.imm (.int .i64 ((3 : Int))))]) [])
 (Call E0.P fn_strings_Repeat [(.imm (.str [(48 : UInt8)])), (.imm (.int .i64 (IntKind.i64.wrap (a1 - (↑(rS r1).length : Int)))))] [] fun r3 g3 =>
 Req (g3 = [] ∧ r3 = .imm (.str (rS r3)))
 (Req ((↑((rS r3).length + (rS r1).length) : Int) ≤ (9223372036854775807 : Int))
 (Q (.tup [(.imm (.str (rS r3 ++ rS r1))), (.imm (.int .i64 ((0 : Int))))]) []))))))) : Call E0.P fn_digits_Pad [(.imm (.int .i64 a0)), (.imm (.int .i64 a1))] [] Q := fun_rule (envN E0 nt_digits_Pad) (okE nt_digits_Pad) 3 18 ac_digits_Pad [.tmp 4, .tmp 5] ok_digits_Pad _ _ Q rfl rfl (cast (by kernel_rfl) h)
/-! ### r02_Pad -/
noncomputable def ac_r02_Pad : AC := (annot [(8, [1, 6], []), (10, [6], []), (12, [6], [])] [4, 5] (codeOf Tryd.f19) 0).1
abbrev nt_r02_Pad : Nat := 30
def L_r02_Pad_8 (t1 : Int) (t6 : List UInt8) (K : Ex → St → Prop) : Prop := LoopOK 8 E0.P nt_r02_Pad (lbodyOf 8 ac_r02_Pad).code ⟨[(1, (.imm (.int .i64 t1))), (6, (.imm (.str t6)))], []⟩ K
def C_r02_Pad_12 (t6 : List UInt8) (K : Ex → St → Prop) : Prop := CutOK 12 E0.P nt_r02_Pad (cbodyOf 12 ac_r02_Pad).code ⟨[(6, (.imm (.str t6)))], []⟩ K
def K_r02_Pad_0 (Q : AV → Heap → Prop) : Ex → St → Prop
 | .normal, st => finish E0.T [.tmp 4, .tmp 5] [] Q st
 | .exit i, st => False
 | .goto i, st => False
 | .ret, st => finish E0.T [.tmp 4, .tmp 5] [] Q st
def K_r02_Pad_1 (Q : AV → Heap → Prop) : Ex → St → Prop
 | .normal, st => CutOK 12 E0.P nt_r02_Pad (cbodyOf 12 ac_r02_Pad).code (mask [(6 : Nat)] st) (K_r02_Pad_0 Q)
 | .exit i, st => (match (i.beq (0 : Nat) : Bool) with
 | true => CutOK 12 E0.P nt_r02_Pad (cbodyOf 12 ac_r02_Pad).code (mask [(6 : Nat)] st) (K_r02_Pad_0 Q)
 | false => False)
 | .goto i, st => False
 | .ret, st => finish E0.T [.tmp 4, .tmp 5] [] Q st
theorem L_r02_Pad_8_of (t1 : Int) (t6 : List UInt8) (K : Ex → St → Prop) (h :
 (Br (decide ((↑t6.length : Int) < t1))
 (Req ((↑((1 : Nat) + t6.length) : Int) ≤ (9223372036854775807 : Int))
 (L_r02_Pad_8 t1 ([(48 : UInt8)] ++ t6) K))
 (K (.exit 0) ⟨[(6, (.imm (.str t6)))], []⟩))) : L_r02_Pad_8 t1 t6 K := loop_rule (envN E0 nt_r02_Pad) (okE nt_r02_Pad) 3 8 (lbodyOf 8 ac_r02_Pad) [1, 6] _ K rfl (cast (by kernel_rfl) h)
theorem C_r02_Pad_12_of (t6 : List UInt8) (K : Ex → St → Prop) (h :
 (K .ret ⟨[(4, (.imm (.str t6))), (5, (.imm (.int .i64 ((0 : Int)))))], []⟩)) : C_r02_Pad_12 t6 K := cut_rule (envN E0 nt_r02_Pad) (okE nt_r02_Pad) 3 12 (cbodyOf 12 ac_r02_Pad) [] _ K rfl (cast (by kernel_rfl) h)
theorem K_r02_Pad_0_x0 (Q : AV → Heap → Prop) (t4 : List UInt8) (t5 : Int) (h :
 (Q (.tup [(.imm (.str t4)), (.imm (.int .i64 t5))]) [])) : K_r02_Pad_0 Q .ret ⟨[(4, (.imm (.str t4))), (5, (.imm (.int .i64 t5)))], []⟩ := cast (by kernel_rfl) h
theorem K_r02_Pad_1_x0 (Q : AV → Heap → Prop) (t6 : List UInt8) (h :
 (C_r02_Pad_12 t6 (K_r02_Pad_0 Q))) : K_r02_Pad_1 Q (.exit 0) ⟨[(6, (.imm (.str t6)))], []⟩ := cast (by kernel_rfl) h
theorem ok_r02_Pad : FnOK E0.P 19 ac_r02_Pad.code nt_r02_Pad [.tmp 4, .tmp 5] := fn_ok _ _ Tryd.f19 [(8, [1, 6], []), (10, [6], []), (12, [6], [])] [4, 5] _ 30 Tryd.func19 (by kernel_rfl) (by kernel_rfl) (by kernel_rfl) (by kernel_rfl)
theorem F_r02_Pad_of (a0 : Int) (a1 : Int) (Q : AV → Heap → Prop) (h :
 (Let (bif decide (a1 < (1 : Int)) then true else decide ((20 : Int) < a1)) fun x0 =>
 Br (x0)
 (Q (.tup [(.imm (.str [])), (.imm (.int .i64 ((2 : Int))))]) [])
 (Call E0.P fn_r02_Put [(.imm (.int .i64 a0))] [] fun r1 g1 =>
 Req (g1 = [] ∧ r1 = .imm (.str (rS r1)))
 (Let (bif decide (a0 < (0 : Int)) then true else decide (a1 < (↑(rS r1).length : Int))) fun x2 =>
 Br (x2)
 (Q (.tup [(.imm (.str [])), (.imm (.int .i64 ((3 : Int))))]) [])
 (L_r02_Pad_8 a1 (rS r1) (K_r02_Pad_1 Q)))))) : Call E0.P fn_r02_Pad [(.imm (.int .i64 a0)), (.imm (.int .i64 a1))] [] Q := fun_rule (envN E0 nt_r02_Pad) (okE nt_r02_Pad) 3 19 ac_r02_Pad [.tmp 4, .tmp 5] ok_r02_Pad _ _ Q rfl rfl (cast (by kernel_rfl) h)
/-! ### digits_Put -/
noncomputable def ac_digits_Put : AC := (annot [] [2] (codeOf Tryd.f20) 0).1
abbrev nt_digits_Put : Nat := 5
theorem ok_digits_Put : FnOK E0.P 20 ac_digits_Put.code nt_digits_Put [.tmp 2] := fn_ok _ _ Tryd.f20 [] [2] _ 5 Tryd.func20 (by kernel_rfl) (by kernel_rfl) (by kernel_rfl) (by kernel_rfl)
theorem F_digits_Put_of (a0 : Int) (Q : AV → Heap → Prop) (h :
 (Call E0.P fn_strconv_Itoa [(.imm (.int .i64 a0))] [] fun r0 g0 =>
 Req (g0 = [] ∧ r0 = .imm (.str (rS r0)))
 (Q (.imm (.str (rS r0))) []))) : Call E0.P fn_digits_Put [(.imm (.int .i64 a0))] [] Q := fun_rule (envN E0 nt_digits_Put) (okE nt_digits_Put) 3 20 ac_digits_Put [.tmp 2] ok_digits_Put _ _ Q rfl rfl (cast (by kernel_rfl) h)
/-! ### r02_Put -/
noncomputable def ac_r02_Put : AC := (annot [(10, [0, 3, 4], []), (11, [0, 3, 4], []), (13, [3, 4], []), (16, [3, 4], [])] [2] (codeOf Tryd.f21) 0).1
abbrev nt_r02_Put : Nat := 42
def C_r02_Put_10 (t0 : Int) (t3 : List UInt8) (t4 : List UInt8) (K : Ex → St → Prop) : Prop := CutOK 10 E0.P nt_r02_Put (cbodyOf 10 ac_r02_Put).code ⟨[(0, (.imm (.int .i64 t0))), (3, (.imm (.str t3))), (4, (.imm (.str t4)))], []⟩ K
def L_r02_Put_11 (t0 : Int) (t3 : List UInt8) (t4 : List UInt8) (K : Ex → St → Prop) : Prop := LoopOK 11 E0.P nt_r02_Put (lbodyOf 11 ac_r02_Put).code ⟨[(0, (.imm (.int .i64 t0))), (3, (.imm (.str t3))), (4, (.imm (.str t4)))], []⟩ K
def C_r02_Put_16 (t3 : List UInt8) (t4 : List UInt8) (K : Ex → St → Prop) : Prop := CutOK 16 E0.P nt_r02_Put (cbodyOf 16 ac_r02_Put).code ⟨[(3, (.imm (.str t3))), (4, (.imm (.str t4)))], []⟩ K
def K_r02_Put_0 (Q : AV → Heap → Prop) : Ex → St → Prop
 | .normal, st => finish E0.T [.tmp 2] [] Q st
 | .exit i, st => False
 | .goto i, st => False
 | .ret, st => finish E0.T [.tmp 2] [] Q st
def K_r02_Put_1 (K : Ex → St → Prop) : Ex → St → Prop
 | .normal, st => K .normal (mask [] st)
 | .exit i, st => K (.exit i) st
 | .goto i, st => K (.goto i) st
 | .ret, st => K .ret st
def K_r02_Put_2 (K : Ex → St → Prop) : Ex → St → Prop
 | .normal, st => CutOK 16 E0.P nt_r02_Put (cbodyOf 16 ac_r02_Put).code (mask [(3 : Nat), (4 : Nat)] st) (K_r02_Put_1 K)
 | .exit i, st => (match (i.beq (0 : Nat) : Bool) with
 | true => CutOK 16 E0.P nt_r02_Put (cbodyOf 16 ac_r02_Put).code (mask [(3 : Nat), (4 : Nat)] st) (K_r02_Put_1 K)
 | false => K (.exit i) st)
 | .goto i, st => K (.goto i) st
 | .ret, st => K .ret st
theorem C_r02_Put_10_of (t0 : Int) (t3 : List UInt8) (t4 : List UInt8) (K : Ex → St → Prop) (h :
 (L_r02_Put_11 t0 t3 t4 (K_r02_Put_2 K))) : C_r02_Put_10 t0 t3 t4 K := cut_rule (envN E0 nt_r02_Put) (okE nt_r02_Put) 3 10 (cbodyOf 10 ac_r02_Put) [] _ K rfl (cast (by kernel_rfl) h)
theorem L_r02_Put_11_of (t0 : Int) (t3 : List UInt8) (t4 : List UInt8) (K : Ex → St → Prop) (h :
 (Let (bif decide ((0 : Int) < t0) then true else t3 == []) fun x0 =>
 Br (x0)
 (Req ((10 : Int) ≠ (0 : Int))
 (Req ((10 : Int) ≠ (0 : Int))
 (Req ((0 : Int) ≤ t0.tmod (10 : Int) ∧
 t0.tmod (10 : Int) ≤ IntKind.i64.wrap (t0.tmod (10 : Int) + (1 : Int)) ∧
 IntKind.i64.wrap (t0.tmod (10 : Int) + (1 : Int)) ≤ (↑(10 : Nat) : Int))
 (Let (List.drop (t0.tmod (10 : Int)).toNat
 (List.take (IntKind.i64.wrap (t0.tmod (10 : Int) + (1 : Int))).toNat
 [(48 : UInt8), (49 : UInt8), (50 : UInt8), (51 : UInt8), (52 : UInt8), (53 : UInt8), (54 : UInt8), (55 : UInt8),
 (56 : UInt8), (57 : UInt8)])) fun x1 =>
 Req ((↑(x1.length + t3.length) : Int) ≤ (9223372036854775807 : Int))
 (Req ((10 : Int) ≠ (0 : Int))
 (L_r02_Put_11 (IntKind.i64.wrap (t0.tdiv (10 : Int))) (x1 ++ t3) t4 K))))))
 (K (.exit 0) ⟨[(3, (.imm (.str t3))), (4, (.imm (.str t4)))], []⟩))) : L_r02_Put_11 t0 t3 t4 K := loop_rule (envN E0 nt_r02_Put) (okE nt_r02_Put) 3 11 (lbodyOf 11 ac_r02_Put) [0, 3, 4] _ K rfl (cast (by kernel_rfl) h)
theorem C_r02_Put_16_of (t3 : List UInt8) (t4 : List UInt8) (K : Ex → St → Prop) (h :
 (Req ((↑(t4.length + t3.length) : Int) ≤ (9223372036854775807 : Int))
 (K .ret ⟨[(2, (.imm (.str (t4 ++ t3))))], []⟩))) : C_r02_Put_16 t3 t4 K := cut_rule (envN E0 nt_r02_Put) (okE nt_r02_Put) 3 16 (cbodyOf 16 ac_r02_Put) [] _ K rfl (cast (by kernel_rfl) h)
theorem K_r02_Put_0_x0 (Q : AV → Heap → Prop) (t2 : List UInt8) (h :
 (Q (.imm (.str t2)) [])) : K_r02_Put_0 Q .ret ⟨[(2, (.imm (.str t2)))], []⟩ := cast (by kernel_rfl) h
theorem K_r02_Put_1_x0 (K : Ex → St → Prop) (t2 : List UInt8) (h :
 (K .ret ⟨[(2, (.imm (.str t2)))], []⟩)) : K_r02_Put_1 K .ret ⟨[(2, (.imm (.str t2)))], []⟩ := cast (by kernel_rfl) h
theorem K_r02_Put_2_x0 (K : Ex → St → Prop) (t3 : List UInt8) (t4 : List UInt8) (h :
 (C_r02_Put_16 t3 t4 (K_r02_Put_1 K))) : K_r02_Put_2 K (.exit 0) ⟨[(3, (.imm (.str t3))), (4, (.imm (.str t4)))], []⟩ := cast (by kernel_rfl) h
theorem ok_r02_Put : FnOK E0.P 21 ac_r02_Put.code nt_r02_Put [.tmp 2] := fn_ok _ _ Tryd.f21 [(10, [0, 3, 4], []), (11, [0, 3, 4], []), (13, [3, 4], []), (16, [3, 4], [])] [2] _ 42 Tryd.func21 (by kernel_rfl) (by kernel_rfl) (by kernel_rfl) (by kernel_rfl)
theorem F_r02_Put_of (a0 : Int) (Q : AV → Heap → Prop) (h :
 (Br (decide (a0 < (0 : Int)))
 (Req ((10 : Int) ≠ (0 : Int))
 (Req ((0 : Int) ≤ IntKind.i64.wrap ((0 : Int) - a0.tmod (10 : Int)) ∧
 IntKind.i64.wrap ((0 : Int) - a0.tmod (10 : Int)) ≤ IntKind.i64.wrap ((1 : Int) - a0.tmod (10 : Int)) ∧
 IntKind.i64.wrap ((1 : Int) - a0.tmod (10 : Int)) ≤ (↑(10 : Nat) : Int))
 (Let (List.drop (IntKind.i64.wrap ((0 : Int) - a0.tmod (10 : Int))).toNat
 (List.take (IntKind.i64.wrap ((1 : Int) - a0.tmod (10 : Int))).toNat
 [(48 : UInt8), (49 : UInt8), (50 : UInt8), (51 : UInt8), (52 : UInt8), (53 : UInt8), (54 : UInt8), (55 : UInt8),
 (56 : UInt8), (57 : UInt8)])) fun x0 =>
 Req ((10 : Int) ≠ (0 : Int))
 (Br (decide (IntKind.i64.wrap ((0 : Int) - IntKind.i64.wrap (a0.tdiv (10 : Int))) = (0 : Int)))
 (Req ((↑((1 : Nat) + x0.length) : Int) ≤ (9223372036854775807 : Int))
 (Q (.imm (.str ([(45 : UInt8)] ++ x0))) []))
 (C_r02_Put_10 (IntKind.i64.wrap ((0 : Int) - IntKind.i64.wrap (a0.tdiv (10 : Int)))) x0 [(45 : UInt8)] (K_r02_Put_0 Q))))))
 (C_r02_Put_10 a0 [] [] (K_r02_Put_0 Q)))) : Call E0.P fn_r02_Put [(.imm (.int .i64 a0))] [] Q := fun_rule (envN E0 nt_r02_Put) (okE nt_r02_Put) 3 21 ac_r02_Put [.tmp 2] ok_r02_Put _ _ Q rfl rfl (cast (by kernel_rfl) h)
/-! ### l02_numbers -/
noncomputable def ac_l02_numbers : AC := (annot [] [0] (codeOf Tryd.f22) 0).1
abbrev nt_l02_numbers : Nat := 59
theorem ok_l02_numbers : FnOK E0.P 22 ac_l02_numbers.code nt_l02_numbers [.tmp 0] := fn_ok _ _ Tryd.f22 [] [0] _ 59 Tryd.func22 (by kernel_rfl) (by kernel_rfl) (by kernel_rfl) (by kernel_rfl)
theorem F_l02_numbers_of (Q : AV → Heap → Prop) (h :
 (Call E0.P fn_digits_Pad [(.imm (.int .i64 ((7 : Int)))), (.imm (.int .i64 ((3 : Int))))] [] fun r0 g0 =>
 Req (g0 = [] ∧ r0 = .tup [.imm (.str (rS (rT r0 (0 : Nat)))), .imm (.int .i64 (rI (rT r0 (1 : Nat))))])
 (Call E0.P fn_digits_Loose [(.imm (.str [(43 : UInt8), (48 : UInt8), (48 : UInt8), (55 : UInt8)]))] [] fun r1 g1 =>
 Req (g1 = [] ∧
 r1 = .tup [.imm (.int .i64 (rI (rT r1 (0 : Nat)))), .imm (.int .i64 (rI (rT r1 (1 : Nat))))])
 (Call E0.P fn_digits_Read [(.imm (.str [(48 : UInt8), (48 : UInt8), (55 : UInt8)]))] [] fun r2 g2 =>
 Req (g2 = [] ∧
 r2 = .tup [.imm (.int .i64 (rI (rT r2 (0 : Nat)))), .imm (.int .i64 (rI (rT r2 (1 : Nat))))])
 (Call E0.P fn_digits_Fixed [(.imm (.str [(48 : UInt8), (49 : UInt8), (48 : UInt8)]))] [] fun r3 g3 =>
 Req (g3 = [] ∧
 r3 = .tup [.imm (.int .i64 (rI (rT r3 (0 : Nat)))), .imm (.int .i64 (rI (rT r3 (1 : Nat))))])
 (Let (bif rS (rT r0 (0 : Nat)) == [(48 : UInt8), (48 : UInt8), (55 : UInt8)] then decide (rI (rT r0 (1 : Nat)) = (0 : Int))
 else false) fun x4 =>
 Let (bif x4 then decide (rI (rT r1 (0 : Nat)) = (7 : Int)) else false) fun x5 =>
 Let (bif x5 then decide (rI (rT r1 (1 : Nat)) = (0 : Int)) else false) fun x6 =>
 Let (bif x6 then decide (rI (rT r2 (1 : Nat)) = (4 : Int)) else false) fun x7 =>
 Let (bif x7 then decide (rI (rT r3 (0 : Nat)) = (10 : Int)) else false) fun x8 =>
 Let (bif x8 then decide (rI (rT r3 (1 : Nat)) = (0 : Int)) else false) fun x9 =>
 Br (x9 == true)
 (Call E0.P fn_digits_Put [(.imm (.int .i64 ((-12 : Int))))] [] fun r10 g10 =>
 Req (g10 = [] ∧ r10 = .imm (.str (rS r10)))
 (Let (rS r10 == [(45 : UInt8), (49 : UInt8), (50 : UInt8)]) fun x11 =>
 Br (x11 == true)
 (Call E0.P fn_digits_Count [(.imm (.str [(49 : UInt8), (50 : UInt8), (97 : UInt8)]))] [] fun r12 g12 =>
 Req (g12 = [] ∧ r12 = .imm (.int .i64 (rI r12)))
 (Let (decide (rI r12 = (2 : Int))) fun x13 =>
 Q (.imm (.bool x13)) []))
 (Req ((!true) = false)
 (Let (false) fun x14 =>
 Q (.imm (.bool x14)) []))))
 (Req ((!true) = false)
 (Let (false) fun x15 =>
 Br (x15 == true)
 (Call E0.P fn_digits_Count [(.imm (.str [(49 : UInt8), (50 : UInt8), (97 : UInt8)]))] [] fun r16 g16 =>
 Req (g16 = [] ∧ r16 = .imm (.int .i64 (rI r16)))
 (Let (decide (rI r16 = (2 : Int))) fun x17 =>
 Q (.imm (.bool x17)) []))
 (Req ((!true) = false)
 (Let (false) fun x18 =>
 Q (.imm (.bool x18)) [])))))))))) : Call E0.P fn_l02_numbers [] [] Q := fun_rule (envN E0 nt_l02_numbers) (okE nt_l02_numbers) 3 22 ac_l02_numbers [.tmp 0] ok_l02_numbers _ _ Q rfl rfl (cast (by kernel_rfl) h)
/-! ### digits_Read -/
noncomputable def ac_digits_Read : AC := (annot [(2, [0, 26], [0]), (4, [0], []), (6, [6, 32], [6]), (10, [6], [])] [2, 3] (codeOf Tryd.f23) 0).1
abbrev nt_digits_Read : Nat := 46
def C_digits_Read_2 (t0 : List UInt8) (t26 : Bool) (K : Ex → St → Prop) : Prop := CutOK 2 E0.P nt_digits_Read (cbodyOf 2 ac_digits_Read).code ⟨[(0, (.imm (.str t0))), (26, (.imm (.bool t26)))], []⟩ K
def C_digits_Read_4 (t0 : List UInt8) (K : Ex → St → Prop) : Prop := CutOK 4 E0.P nt_digits_Read (cbodyOf 4 ac_digits_Read).code ⟨[(0, (.imm (.str t0)))], []⟩ K
def C_digits_Read_6 (t6 : Int) (t32 : Bool) (K : Ex → St → Prop) : Prop := CutOK 6 E0.P nt_digits_Read (cbodyOf 6 ac_digits_Read).code ⟨[(6, (.imm (.int .i64 t6))), (32, (.imm (.bool t32)))], []⟩ K
def C_digits_Read_10 (t6 : Int) (K : Ex → St → Prop) : Prop := CutOK 10 E0.P nt_digits_Read (cbodyOf 10 ac_digits_Read).code ⟨[(6, (.imm (.int .i64 t6)))], []⟩ K
def K_digits_Read_0 (Q : AV → Heap → Prop) : Ex → St → Prop
 | .normal, st => finish E0.T [.tmp 2, .tmp 3] [] Q st
 | .exit i, st => False
 | .goto i, st => False
 | .ret, st => finish E0.T [.tmp 2, .tmp 3] [] Q st
def K_digits_Read_1 (Q : AV → Heap → Prop) : Ex → St → Prop
 | .normal, st => CutOK 4 E0.P nt_digits_Read (cbodyOf 4 ac_digits_Read).code (mask [(0 : Nat)] st) (K_digits_Read_0 Q)
 | .exit i, st => False
 | .goto i, st => False
 | .ret, st => finish E0.T [.tmp 2, .tmp 3] [] Q st
def K_digits_Read_2 (K : Ex → St → Prop) : Ex → St → Prop
 | .normal, st => K .normal (mask [] st)
 | .exit i, st => K (.exit i) st
 | .goto i, st => K (.goto i) st
 | .ret, st => K .ret st
def K_digits_Read_3 (K : Ex → St → Prop) : Ex → St → Prop
 | .normal, st => CutOK 10 E0.P nt_digits_Read (cbodyOf 10 ac_digits_Read).code (mask [(6 : Nat)] st) (K_digits_Read_2 K)
 | .exit i, st => (match (i.beq (0 : Nat) : Bool) with
 | true => CutOK 10 E0.P nt_digits_Read (cbodyOf 10 ac_digits_Read).code (mask [(6 : Nat)] st) (K_digits_Read_2 K)
 | false => K (.exit i) st)
 | .goto i, st => K (.goto i) st
 | .ret, st => K .ret st
theorem C_digits_Read_2_of (t0 : List UInt8) (t26 : Bool) (K : Ex → St → Prop) (h :
 (Br (t26)
 (K .ret ⟨[(2, (.imm (.int .i64 ((0 : Int))))), (3, (.imm (.int .i64 ((4 : Int)))))], []⟩)
 (K .normal ⟨[(0, (.imm (.str t0)))], []⟩))) : C_digits_Read_2 t0 t26 K := cut_rule (envN E0 nt_digits_Read) (okE nt_digits_Read) 3 2 (cbodyOf 2 ac_digits_Read) [0] _ K rfl (cast (by kernel_rfl) h)
theorem C_digits_Read_4_of (t0 : List UInt8) (K : Ex → St → Prop) (h :
 (Call E0.P fn_strconv_Atoi [(.imm (.str t0))] [] fun r0 g0 =>
 Req (g0 = [] ∧ r0 = .tup [.imm (.int .i64 (rI (rT r0 (0 : Nat)))), .imm (IV.ifc (rN (rT r0 (1 : Nat))))])
 (Req (rN (rT r0 (1 : Nat)) = true ∨ true = true)
 (Br ((!(rN (rT r0 (1 : Nat)) && true)) == false)
 (Call E0.P fn_digits_Put [(.imm (.int .i64 (rI (rT r0 (0 : Nat)))))] [] fun r1 g1 =>
 Req (g1 = [] ∧ r1 = .imm (.str (rS r1)))
 (Let (!rS r1 == t0) fun x2 =>
 C_digits_Read_6 (rI (rT r0 (0 : Nat))) x2 (K_digits_Read_3 K)))
 (Req ((!false) = true)
 (Let (true) fun x3 =>
 C_digits_Read_6 (rI (rT r0 (0 : Nat))) x3 (K_digits_Read_3 K))))))) : C_digits_Read_4 t0 K := cut_rule (envN E0 nt_digits_Read) (okE nt_digits_Read) 3 4 (cbodyOf 4 ac_digits_Read) [] _ K rfl (cast (by kernel_rfl) h)
theorem C_digits_Read_6_of (t6 : Int) (t32 : Bool) (K : Ex → St → Prop) (h :
 (Br (t32)
 (K .ret ⟨[(2, (.imm (.int .i64 ((0 : Int))))), (3, (.imm (.int .i64 ((4 : Int)))))], []⟩)
 (Call E0.P fn_digits_held [(.imm (.int .i64 t6))] [] fun r0 g0 =>
 Req (g0 = [] ∧ r0 = .imm (.bool (rB r0)))
 (Br (!rB r0)
 (K .ret ⟨[(2, (.imm (.int .i64 ((0 : Int))))), (3, (.imm (.int .i64 ((3 : Int)))))], []⟩)
 (K .normal ⟨[(6, (.imm (.int .i64 t6)))], []⟩))))) : C_digits_Read_6 t6 t32 K := cut_rule (envN E0 nt_digits_Read) (okE nt_digits_Read) 3 6 (cbodyOf 6 ac_digits_Read) [6] _ K rfl (cast (by kernel_rfl) h)
theorem C_digits_Read_10_of (t6 : Int) (K : Ex → St → Prop) (h :
 (K .ret ⟨[(2, (.imm (.int .i64 t6))), (3, (.imm (.int .i64 ((0 : Int)))))], []⟩)) : C_digits_Read_10 t6 K := cut_rule (envN E0 nt_digits_Read) (okE nt_digits_Read) 3 10 (cbodyOf 10 ac_digits_Read) [] _ K rfl (cast (by kernel_rfl) h)
theorem K_digits_Read_0_x0 (Q : AV → Heap → Prop) (t2 : Int) (t3 : Int) (h :
 (Q (.tup [(.imm (.int .i64 t2)), (.imm (.int .i64 t3))]) [])) : K_digits_Read_0 Q .ret ⟨[(2, (.imm (.int .i64 t2))), (3, (.imm (.int .i64 t3)))], []⟩ := cast (by kernel_rfl) h
theorem K_digits_Read_1_x0 (Q : AV → Heap → Prop) (t2 : Int) (t3 : Int) (h :
 (Q (.tup [(.imm (.int .i64 t2)), (.imm (.int .i64 t3))]) [])) : K_digits_Read_1 Q .ret ⟨[(2, (.imm (.int .i64 t2))), (3, (.imm (.int .i64 t3)))], []⟩ := cast (by kernel_rfl) h
theorem K_digits_Read_1_x1 (Q : AV → Heap → Prop) (t0 : List UInt8) (h :
 (C_digits_Read_4 t0 (K_digits_Read_0 Q))) : K_digits_Read_1 Q .normal ⟨[(0, (.imm (.str t0)))], []⟩ := cast (by kernel_rfl) h
theorem K_digits_Read_2_x0 (K : Ex → St → Prop) (t2 : Int) (t3 : Int) (h :
 (K .ret ⟨[(2, (.imm (.int .i64 t2))), (3, (.imm (.int .i64 t3)))], []⟩)) : K_digits_Read_2 K .ret ⟨[(2, (.imm (.int .i64 t2))), (3, (.imm (.int .i64 t3)))], []⟩ := cast (by kernel_rfl) h
theorem K_digits_Read_3_x0 (K : Ex → St → Prop) (t2 : Int) (t3 : Int) (h :
 (K .ret ⟨[(2, (.imm (.int .i64 t2))), (3, (.imm (.int .i64 t3)))], []⟩)) : K_digits_Read_3 K .ret ⟨[(2, (.imm (.int .i64 t2))), (3, (.imm (.int .i64 t3)))], []⟩ := cast (by kernel_rfl) h
theorem K_digits_Read_3_x1 (K : Ex → St → Prop) (t6 : Int) (h :
 (C_digits_Read_10 t6 (K_digits_Read_2 K))) : K_digits_Read_3 K .normal ⟨[(6, (.imm (.int .i64 t6)))], []⟩ := cast (by kernel_rfl) h
theorem ok_digits_Read : FnOK E0.P 23 ac_digits_Read.code nt_digits_Read [.tmp 2, .tmp 3] := fn_ok _ _ Tryd.f23 [(2, [0, 26], [0]), (4, [0], []), (6, [6, 32], [6]), (10, [6], [])] [2, 3] _ 46 Tryd.func23 (by kernel_rfl) (by kernel_rfl) (by kernel_rfl) (by kernel_rfl)
theorem F_digits_Read_of (a0 : List UInt8) (Q : AV → Heap → Prop) (h :
 (Call E0.P fn_digits_signed [(.imm (.str a0)), (.imm (.str [(45 : UInt8)]))] [] fun r0 g0 =>
 Req (g0 = [] ∧ r0 = .tup [.imm (.bool (rB (rT r0 (0 : Nat)))), .imm (.str (rS (rT r0 (1 : Nat))))])
 (Let (bif rS (rT r0 (1 : Nat)) == [] then true else decide ((19 : Int) < (↑(rS (rT r0 (1 : Nat))).length : Int))) fun x1 =>
 Br (x1 == false)
 (Call E0.P fn_digits_Count [(.imm (.str (rS (rT r0 (1 : Nat)))))] [] fun r2 g2 =>
 Req (g2 = [] ∧ r2 = .imm (.int .i64 (rI r2)))
 (Let (!decide (rI r2 = (↑(rS (rT r0 (1 : Nat))).length : Int))) fun x3 =>
 C_digits_Read_2 a0 x3 (K_digits_Read_1 Q)))
 (Req ((!false) = true)
 (Let (true) fun x4 =>
 C_digits_Read_2 a0 x4 (K_digits_Read_1 Q)))))) : Call E0.P fn_digits_Read [(.imm (.str a0))] [] Q := fun_rule (envN E0 nt_digits_Read) (okE nt_digits_Read) 3 23 ac_digits_Read [.tmp 2, .tmp 3] ok_digits_Read _ _ Q rfl rfl (cast (by kernel_rfl) h)
/-! ### r02_Read -/
noncomputable def ac_r02_Read : AC := (annot [(3, [0, 4], []), (4, [0, 37], [0]), (6, [0], [])] [2, 3] (codeOf Tryd.f24) 0).1
abbrev nt_r02_Read : Nat := 42
def C_r02_Read_3 (t0 : List UInt8) (t4 : List UInt8) (K : Ex → St → Prop) : Prop := CutOK 3 E0.P nt_r02_Read (cbodyOf 3 ac_r02_Read).code ⟨[(0, (.imm (.str t0))), (4, (.imm (.str t4)))], []⟩ K
def C_r02_Read_4 (t0 : List UInt8) (t37 : Bool) (K : Ex → St → Prop) : Prop := CutOK 4 E0.P nt_r02_Read (cbodyOf 4 ac_r02_Read).code ⟨[(0, (.imm (.str t0))), (37, (.imm (.bool t37)))], []⟩ K
def C_r02_Read_6 (t0 : List UInt8) (K : Ex → St → Prop) : Prop := CutOK 6 E0.P nt_r02_Read (cbodyOf 6 ac_r02_Read).code ⟨[(0, (.imm (.str t0)))], []⟩ K
def K_r02_Read_0 (Q : AV → Heap → Prop) : Ex → St → Prop
 | .normal, st => finish E0.T [.tmp 2, .tmp 3] [] Q st
 | .exit i, st => False
 | .goto i, st => False
 | .ret, st => finish E0.T [.tmp 2, .tmp 3] [] Q st
def K_r02_Read_1 (K : Ex → St → Prop) : Ex → St → Prop
 | .normal, st => K .normal (mask [] st)
 | .exit i, st => K (.exit i) st
 | .goto i, st => K (.goto i) st
 | .ret, st => K .ret st
def K_r02_Read_2 (K : Ex → St → Prop) : Ex → St → Prop
 | .normal, st => CutOK 6 E0.P nt_r02_Read (cbodyOf 6 ac_r02_Read).code (mask [(0 : Nat)] st) (K_r02_Read_1 K)
 | .exit i, st => K (.exit i) st
 | .goto i, st => K (.goto i) st
 | .ret, st => K .ret st
theorem C_r02_Read_3_of (t0 : List UInt8) (t4 : List UInt8) (K : Ex → St → Prop) (h :
 (Let (bif t4 == [] then true else decide ((19 : Int) < (↑t4.length : Int))) fun x0 =>
 Br (x0 == false)
 (Call E0.P fn_r02_Count [(.imm (.str t4))] [] fun r1 g1 =>
 Req (g1 = [] ∧ r1 = .imm (.int .i64 (rI r1)))
 (Let (!decide (rI r1 = (↑t4.length : Int))) fun x2 =>
 Req (x2 = false → (0 : Int) ≤ (0 : Int) ∧ (0 : Int) < (↑t4.length : Int))
 (Br (x2 == false)
 (Let (bif decide ((↑(t4.getD (0 : Nat) (0 : UInt8)).toNat : Int) = (48 : Int)) then !t0 == [(48 : UInt8)] else false) fun x3 =>
 Let (x3) fun x4 =>
 C_r02_Read_4 t0 x4 (K_r02_Read_2 K))
 (Req ((!false) = true)
 (Let (true) fun x5 =>
 C_r02_Read_4 t0 x5 (K_r02_Read_2 K))))))
 (Req ((!false) = true)
 (Let (true) fun x6 =>
 Req (x6 = false → (0 : Int) ≤ (0 : Int) ∧ (0 : Int) < (↑t4.length : Int))
 (Br (x6 == false)
 (Let (bif decide ((↑(t4.getD (0 : Nat) (0 : UInt8)).toNat : Int) = (48 : Int)) then !t0 == [(48 : UInt8)] else false) fun x7 =>
 Let (x7) fun x8 =>
 C_r02_Read_4 t0 x8 (K_r02_Read_2 K))
 (Req ((!false) = true)
 (Let (true) fun x9 =>
 C_r02_Read_4 t0 x9 (K_r02_Read_2 K)))))))) : C_r02_Read_3 t0 t4 K := cut_rule (envN E0 nt_r02_Read) (okE nt_r02_Read) 3 3 (cbodyOf 3 ac_r02_Read) [] _ K rfl (cast (by kernel_rfl) h)
theorem C_r02_Read_4_of (t0 : List UInt8) (t37 : Bool) (K : Ex → St → Prop) (h :
 (Br (t37)
 (K .ret ⟨[(2, (.imm (.int .i64 ((0 : Int))))), (3, (.imm (.int .i64 ((4 : Int)))))], []⟩)
 (K .normal ⟨[(0, (.imm (.str t0)))], []⟩))) : C_r02_Read_4 t0 t37 K := cut_rule (envN E0 nt_r02_Read) (okE nt_r02_Read) 3 4 (cbodyOf 4 ac_r02_Read) [0] _ K rfl (cast (by kernel_rfl) h)
theorem C_r02_Read_6_of (t0 : List UInt8) (K : Ex → St → Prop) (h :
 (Call E0.P fn_r02_whole [(.imm (.str t0))] [] fun r0 g0 =>
 Req (g0 = [] ∧
 r0 = .tup [.imm (.int .i64 (rI (rT r0 (0 : Nat)))), .imm (.int .i64 (rI (rT r0 (1 : Nat))))])
 (K .ret ⟨[(2, (.imm (.int .i64 (rI (rT r0 (0 : Nat)))))), (3, (.imm (.int .i64 (rI (rT r0 (1 : Nat))))))], []⟩))) : C_r02_Read_6 t0 K := cut_rule (envN E0 nt_r02_Read) (okE nt_r02_Read) 3 6 (cbodyOf 6 ac_r02_Read) [] _ K rfl (cast (by kernel_rfl) h)
theorem K_r02_Read_0_x0 (Q : AV → Heap → Prop) (t2 : Int) (t3 : Int) (h :
 (Q (.tup [(.imm (.int .i64 t2)), (.imm (.int .i64 t3))]) [])) : K_r02_Read_0 Q .ret ⟨[(2, (.imm (.int .i64 t2))), (3, (.imm (.int .i64 t3)))], []⟩ := cast (by kernel_rfl) h
theorem K_r02_Read_1_x0 (K : Ex → St → Prop) (t2 : Int) (t3 : Int) (h :
 (K .ret ⟨[(2, (.imm (.int .i64 t2))), (3, (.imm (.int .i64 t3)))], []⟩)) : K_r02_Read_1 K .ret ⟨[(2, (.imm (.int .i64 t2))), (3, (.imm (.int .i64 t3)))], []⟩ := cast (by kernel_rfl) h
theorem K_r02_Read_2_x0 (K : Ex → St → Prop) (t2 : Int) (t3 : Int) (h :
 (K .ret ⟨[(2, (.imm (.int .i64 t2))), (3, (.imm (.int .i64 t3)))], []⟩)) : K_r02_Read_2 K .ret ⟨[(2, (.imm (.int .i64 t2))), (3, (.imm (.int .i64 t3)))], []⟩ := cast (by kernel_rfl) h
theorem K_r02_Read_2_x1 (K : Ex → St → Prop) (t0 : List UInt8) (h :
 (C_r02_Read_6 t0 (K_r02_Read_1 K))) : K_r02_Read_2 K .normal ⟨[(0, (.imm (.str t0)))], []⟩ := cast (by kernel_rfl) h
theorem ok_r02_Read : FnOK E0.P 24 ac_r02_Read.code nt_r02_Read [.tmp 2, .tmp 3] := fn_ok _ _ Tryd.f24 [(3, [0, 4], []), (4, [0, 37], [0]), (6, [0], [])] [2, 3] _ 42 Tryd.func24 (by kernel_rfl) (by kernel_rfl) (by kernel_rfl) (by kernel_rfl)
theorem F_r02_Read_of (a0 : List UInt8) (Q : AV → Heap → Prop) (h :
 (Req ((!a0 == []) = true → (0 : Int) ≤ (0 : Int) ∧ (0 : Int) < (↑a0.length : Int))
 (Let (bif !a0 == [] then decide ((↑(a0.getD (0 : Nat) (0 : UInt8)).toNat : Int) = (45 : Int)) else false) fun x0 =>
 Br (x0)
 (Req ((0 : Int) ≤ (1 : Int) ∧ (1 : Int) ≤ (↑a0.length : Int))
 (Let (List.drop (1 : Nat) a0) fun x1 =>
 C_r02_Read_3 a0 x1 (K_r02_Read_0 Q)))
 (C_r02_Read_3 a0 a0 (K_r02_Read_0 Q))))) : Call E0.P fn_r02_Read [(.imm (.str a0))] [] Q := fun_rule (envN E0 nt_r02_Read) (okE nt_r02_Read) 3 24 ac_r02_Read [.tmp 2, .tmp 3] ok_r02_Read _ _ Q rfl rfl (cast (by kernel_rfl) h)
/-! ### digits_Loose -/
noncomputable def ac_digits_Loose : AC := (annot [(4, [6, 7], [])] [2, 3] (codeOf Tryd.f25) 0).1
abbrev nt_digits_Loose : Nat := 23
def C_digits_Loose_4 (t6 : Int) (t7 : Int) (K : Ex → St → Prop) : Prop := CutOK 4 E0.P nt_digits_Loose (cbodyOf 4 ac_digits_Loose).code ⟨[(6, (.imm (.int .i64 t6))), (7, (.imm (.int .i64 t7)))], []⟩ K
def K_digits_Loose_0 (Q : AV → Heap → Prop) : Ex → St → Prop
 | .normal, st => finish E0.T [.tmp 2, .tmp 3] [] Q st
 | .exit i, st => False
 | .goto i, st => False
 | .ret, st => finish E0.T [.tmp 2, .tmp 3] [] Q st
theorem C_digits_Loose_4_of (t6 : Int) (t7 : Int) (K : Ex → St → Prop) (h :
 (K .ret ⟨[(2, (.imm (.int .i64 t6))), (3, (.imm (.int .i64 t7)))], []⟩)) : C_digits_Loose_4 t6 t7 K := cut_rule (envN E0 nt_digits_Loose) (okE nt_digits_Loose) 3 4 (cbodyOf 4 ac_digits_Loose) [] _ K rfl (cast (by kernel_rfl) h)
theorem K_digits_Loose_0_x0 (Q : AV → Heap → Prop) (t2 : Int) (t3 : Int) (h :
 (Q (.tup [(.imm (.int .i64 t2)), (.imm (.int .i64 t3))]) [])) : K_digits_Loose_0 Q .ret ⟨[(2, (.imm (.int .i64 t2))), (3, (.imm (.int .i64 t3)))], []⟩ := cast (by kernel_rfl) h
theorem ok_digits_Loose : FnOK E0.P 25 ac_digits_Loose.code nt_digits_Loose [.tmp 2, .tmp 3] := fn_ok _ _ Tryd.f25 [(4, [6, 7], [])] [2, 3] _ 23 Tryd.func25 (by kernel_rfl) (by kernel_rfl) (by kernel_rfl) (by kernel_rfl)
theorem F_digits_Loose_of (a0 : List UInt8) (Q : AV → Heap → Prop) (h :
 (Call E0.P fn_digits_signed [(.imm (.str a0)), (.imm (.str [(43 : UInt8), (45 : UInt8)]))] [] fun r0 g0 =>
 Req (g0 = [] ∧ r0 = .tup [.imm (.bool (rB (rT r0 (0 : Nat)))), .imm (.str (rS (rT r0 (1 : Nat))))])
 (Call E0.P fn_digits_Fixed [(.imm (.str (rS (rT r0 (1 : Nat)))))] [] fun r1 g1 =>
 Req (g1 = [] ∧
 r1 = .tup [.imm (.int .i64 (rI (rT r1 (0 : Nat)))), .imm (.int .i64 (rI (rT r1 (1 : Nat))))])
 (Br (rB (rT r0 (0 : Nat)))
 (C_digits_Loose_4 (IntKind.i64.wrap ((0 : Int) - rI (rT r1 (0 : Nat)))) (rI (rT r1 (1 : Nat))) (K_digits_Loose_0 Q))
 (C_digits_Loose_4 (rI (rT r1 (0 : Nat))) (rI (rT r1 (1 : Nat))) (K_digits_Loose_0 Q)))))) : Call E0.P fn_digits_Loose [(.imm (.str a0))] [] Q := fun_rule (envN E0 nt_digits_Loose) (okE nt_digits_Loose) 3 25 ac_digits_Loose [.tmp 2, .tmp 3] ok_digits_Loose _ _ Q rfl rfl (cast (by kernel_rfl) h)
/-! ### r02_Loose -/
noncomputable def ac_r02_Loose : AC := (annot [(3, [0, 4], []), (6, [5, 6], [])] [2, 3] (codeOf Tryd.f26) 0).1
abbrev nt_r02_Loose : Nat := 38
def C_r02_Loose_3 (t0 : List UInt8) (t4 : Bool) (K : Ex → St → Prop) : Prop := CutOK 3 E0.P nt_r02_Loose (cbodyOf 3 ac_r02_Loose).code ⟨[(0, (.imm (.str t0))), (4, (.imm (.bool t4)))], []⟩ K
def C_r02_Loose_6 (t5 : Int) (t6 : Int) (K : Ex → St → Prop) : Prop := CutOK 6 E0.P nt_r02_Loose (cbodyOf 6 ac_r02_Loose).code ⟨[(5, (.imm (.int .i64 t5))), (6, (.imm (.int .i64 t6)))], []⟩ K
def K_r02_Loose_0 (Q : AV → Heap → Prop) : Ex → St → Prop
 | .normal, st => finish E0.T [.tmp 2, .tmp 3] [] Q st
 | .exit i, st => False
 | .goto i, st => False
 | .ret, st => finish E0.T [.tmp 2, .tmp 3] [] Q st
def K_r02_Loose_1 (K : Ex → St → Prop) : Ex → St → Prop
 | .normal, st => K .normal (mask [] st)
 | .exit i, st => K (.exit i) st
 | .goto i, st => K (.goto i) st
 | .ret, st => K .ret st
theorem C_r02_Loose_3_of (t0 : List UInt8) (t4 : Bool) (K : Ex → St → Prop) (h :
 (Call E0.P fn_r02_Fixed [(.imm (.str t0))] [] fun r0 g0 =>
 Req (g0 = [] ∧
 r0 = .tup [.imm (.int .i64 (rI (rT r0 (0 : Nat)))), .imm (.int .i64 (rI (rT r0 (1 : Nat))))])
 (Br (t4)
 (C_r02_Loose_6 (IntKind.i64.wrap ((0 : Int) - rI (rT r0 (0 : Nat)))) (rI (rT r0 (1 : Nat))) (K_r02_Loose_1 K))
 (C_r02_Loose_6 (rI (rT r0 (0 : Nat))) (rI (rT r0 (1 : Nat))) (K_r02_Loose_1 K))))) : C_r02_Loose_3 t0 t4 K := cut_rule (envN E0 nt_r02_Loose) (okE nt_r02_Loose) 3 3 (cbodyOf 3 ac_r02_Loose) [] _ K rfl (cast (by kernel_rfl) h)
theorem C_r02_Loose_6_of (t5 : Int) (t6 : Int) (K : Ex → St → Prop) (h :
 (K .ret ⟨[(2, (.imm (.int .i64 t5))), (3, (.imm (.int .i64 t6)))], []⟩)) : C_r02_Loose_6 t5 t6 K := cut_rule (envN E0 nt_r02_Loose) (okE nt_r02_Loose) 3 6 (cbodyOf 6 ac_r02_Loose) [] _ K rfl (cast (by kernel_rfl) h)
theorem K_r02_Loose_0_x0 (Q : AV → Heap → Prop) (t2 : Int) (t3 : Int) (h :
 (Q (.tup [(.imm (.int .i64 t2)), (.imm (.int .i64 t3))]) [])) : K_r02_Loose_0 Q .ret ⟨[(2, (.imm (.int .i64 t2))), (3, (.imm (.int .i64 t3)))], []⟩ := cast (by kernel_rfl) h
theorem K_r02_Loose_1_x0 (K : Ex → St → Prop) (t2 : Int) (t3 : Int) (h :
 (K .ret ⟨[(2, (.imm (.int .i64 t2))), (3, (.imm (.int .i64 t3)))], []⟩)) : K_r02_Loose_1 K .ret ⟨[(2, (.imm (.int .i64 t2))), (3, (.imm (.int .i64 t3)))], []⟩ := cast (by kernel_rfl) h
theorem ok_r02_Loose : FnOK E0.P 26 ac_r02_Loose.code nt_r02_Loose [.tmp 2, .tmp 3] := fn_ok _ _ Tryd.f26 [(3, [0, 4], []), (6, [5, 6], [])] [2, 3] _ 38 Tryd.func26 (by kernel_rfl) (by kernel_rfl) (by kernel_rfl) (by kernel_rfl)
theorem F_r02_Loose_of (a0 : List UInt8) (Q : AV → Heap → Prop) (h :
 (Req ((!a0 == []) = true → (0 : Int) ≤ (0 : Int) ∧ (0 : Int) < (↑a0.length : Int))
 (Let (bif !a0 == [] then decide ((↑(a0.getD (0 : Nat) (0 : UInt8)).toNat : Int) = (45 : Int)) else false) fun x0 =>
 Req ((!a0 == []) = true → (0 : Int) ≤ (0 : Int) ∧ (0 : Int) < (↑a0.length : Int))
 (Br ((!a0 == []) == true)
 (Req (decide ((↑(a0.getD (0 : Nat) (0 : UInt8)).toNat : Int) = (43 : Int)) = false →
 (0 : Int) ≤ (0 : Int) ∧ (0 : Int) < (↑a0.length : Int))
 (Let (bif decide ((↑(a0.getD (0 : Nat) (0 : UInt8)).toNat : Int) = (43 : Int)) then true
 else decide ((↑(a0.getD (0 : Nat) (0 : UInt8)).toNat : Int) = (45 : Int))) fun x1 =>
 Let (x1) fun x2 =>
 Br (x2)
 (Req ((0 : Int) ≤ (1 : Int) ∧ (1 : Int) ≤ (↑a0.length : Int))
 (Let (List.drop (1 : Nat) a0) fun x3 =>
 C_r02_Loose_3 x3 x0 (K_r02_Loose_0 Q)))
 (C_r02_Loose_3 a0 x0 (K_r02_Loose_0 Q))))
 (Req ((!true) = false)
 (Let (false) fun x4 =>
 Br (x4)
 (Req ((0 : Int) ≤ (1 : Int) ∧ (1 : Int) ≤ (↑a0.length : Int))
 (Let (List.drop (1 : Nat) a0) fun x5 =>
 C_r02_Loose_3 x5 x0 (K_r02_Loose_0 Q)))
 (C_r02_Loose_3 a0 x0 (K_r02_Loose_0 Q)))))))) : Call E0.P fn_r02_Loose [(.imm (.str a0))] [] Q := fun_rule (envN E0 nt_r02_Loose) (okE nt_r02_Loose) 3 26 ac_r02_Loose [.tmp 2, .tmp 3] ok_r02_Loose _ _ Q rfl rfl (cast (by kernel_rfl) h)
/-! ### digits_Count -/
noncomputable def ac_digits_Count : AC := (annot [(2, [0, 6], []), (4, [0], []), (9, [0], [])] [2] (codeOf Tryd.f27) 0).1
abbrev nt_digits_Count : Nat := 17
def L_digits_Count_2 (t0 : List UInt8) (h6s : List UInt8) (h6p : Nat) (K : Ex → St → Prop) : Prop := LoopOK 2 E0.P nt_digits_Count (lbodyOf 2 ac_digits_Count).code ⟨[(0, (.imm (.str t0))), (6, (.ptr (Nm.loc (6 : Nat)) 0))], [((Nm.loc (6 : Nat)), (.sit h6s h6p))]⟩ K
def C_digits_Count_9 (t0 : List UInt8) (K : Ex → St → Prop) : Prop := CutOK 9 E0.P nt_digits_Count (cbodyOf 9 ac_digits_Count).code ⟨[(0, (.imm (.str t0)))], []⟩ K
def K_digits_Count_0 (Q : AV → Heap → Prop) : Ex → St → Prop
 | .normal, st => finish E0.T [.tmp 2] [] Q st
 | .exit i, st => False
 | .goto i, st => False
 | .ret, st => finish E0.T [.tmp 2] [] Q st
def K_digits_Count_1 (Q : AV → Heap → Prop) : Ex → St → Prop
 | .normal, st => CutOK 9 E0.P nt_digits_Count (cbodyOf 9 ac_digits_Count).code (mask [(0 : Nat)] st) (K_digits_Count_0 Q)
 | .exit i, st => (match (i.beq (0 : Nat) : Bool) with
 | true => CutOK 9 E0.P nt_digits_Count (cbodyOf 9 ac_digits_Count).code (mask [(0 : Nat)] st) (K_digits_Count_0 Q)
 | false => False)
 | .goto i, st => False
 | .ret, st => finish E0.T [.tmp 2] [] Q st
theorem L_digits_Count_2_of (t0 : List UInt8) (h6s : List UInt8) (h6p : Nat) (K : Ex → St → Prop) (h :
 (Br (decide (h6p < h6s.length))
 (Br (true)
 (Call E0.P fn_digits_digit [(.imm (.int .i32 ((↑(decodeAt h6s h6p).fst : Int))))] [] fun r0 g0 =>
 Req (g0 = [] ∧ r0 = .imm (.bool (rB r0)))
 (Br (!rB r0)
 (K .ret ⟨[(2, (.imm (.int .i64 ((↑h6p : Int)))))], []⟩)
 (L_digits_Count_2 t0 h6s (h6p + (decodeAt h6s h6p).snd) K)))
 (K (.exit 0) ⟨[(0, (.imm (.str t0)))], []⟩))
 (Br (false)
 (False)
 (K (.exit 0) ⟨[(0, (.imm (.str t0)))], []⟩)))) : L_digits_Count_2 t0 h6s h6p K := loop_rule (envN E0 nt_digits_Count) (okE nt_digits_Count) 3 2 (lbodyOf 2 ac_digits_Count) [0, 6] _ K rfl (cast (by kernel_rfl) h)
theorem C_digits_Count_9_of (t0 : List UInt8) (K : Ex → St → Prop) (h :
 (K .ret ⟨[(2, (.imm (.int .i64 ((↑t0.length : Int)))))], []⟩)) : C_digits_Count_9 t0 K := cut_rule (envN E0 nt_digits_Count) (okE nt_digits_Count) 3 9 (cbodyOf 9 ac_digits_Count) [] _ K rfl (cast (by kernel_rfl) h)
theorem K_digits_Count_0_x0 (Q : AV → Heap → Prop) (t2 : Int) (h :
 (Q (.imm (.int .i64 t2)) [])) : K_digits_Count_0 Q .ret ⟨[(2, (.imm (.int .i64 t2)))], []⟩ := cast (by kernel_rfl) h
theorem K_digits_Count_1_x0 (Q : AV → Heap → Prop) (t2 : Int) (h :
 (Q (.imm (.int .i64 t2)) [])) : K_digits_Count_1 Q .ret ⟨[(2, (.imm (.int .i64 t2)))], []⟩ := cast (by kernel_rfl) h
theorem K_digits_Count_1_x1 (Q : AV → Heap → Prop) (t0 : List UInt8) (h :
 (C_digits_Count_9 t0 (K_digits_Count_0 Q))) : K_digits_Count_1 Q (.exit 0) ⟨[(0, (.imm (.str t0)))], []⟩ := cast (by kernel_rfl) h
theorem ok_digits_Count : FnOK E0.P 27 ac_digits_Count.code nt_digits_Count [.tmp 2] := fn_ok _ _ Tryd.f27 [(2, [0, 6], []), (4, [0], []), (9, [0], [])] [2] _ 17 Tryd.func27 (by kernel_rfl) (by kernel_rfl) (by kernel_rfl) (by kernel_rfl)
theorem F_digits_Count_of (a0 : List UInt8) (Q : AV → Heap → Prop) (h :
 (L_digits_Count_2 a0 a0 0 (K_digits_Count_1 Q))) : Call E0.P fn_digits_Count [(.imm (.str a0))] [] Q := fun_rule (envN E0 nt_digits_Count) (okE nt_digits_Count) 3 27 ac_digits_Count [.tmp 2] ok_digits_Count _ _ Q rfl rfl (cast (by kernel_rfl) h)
/-! ### r02_Count -/
noncomputable def ac_r02_Count : AC := (annot [(2, [0, 3], []), (4, [3], []), (6, [3], [])] [2] (codeOf Tryd.f28) 0).1
abbrev nt_r02_Count : Nat := 23
def L_r02_Count_2 (t0 : List UInt8) (t3 : Int) (K : Ex → St → Prop) : Prop := LoopOK 2 E0.P nt_r02_Count (lbodyOf 2 ac_r02_Count).code ⟨[(0, (.imm (.str t0))), (3, (.imm (.int .i64 t3)))], []⟩ K
def C_r02_Count_6 (t3 : Int) (K : Ex → St → Prop) : Prop := CutOK 6 E0.P nt_r02_Count (cbodyOf 6 ac_r02_Count).code ⟨[(3, (.imm (.int .i64 t3)))], []⟩ K
def K_r02_Count_0 (Q : AV → Heap → Prop) : Ex → St → Prop
 | .normal, st => finish E0.T [.tmp 2] [] Q st
 | .exit i, st => False
 | .goto i, st => False
 | .ret, st => finish E0.T [.tmp 2] [] Q st
def K_r02_Count_1 (Q : AV → Heap → Prop) : Ex → St → Prop
 | .normal, st => CutOK 6 E0.P nt_r02_Count (cbodyOf 6 ac_r02_Count).code (mask [(3 : Nat)] st) (K_r02_Count_0 Q)
 | .exit i, st => (match (i.beq (0 : Nat) : Bool) with
 | true => CutOK 6 E0.P nt_r02_Count (cbodyOf 6 ac_r02_Count).code (mask [(3 : Nat)] st) (K_r02_Count_0 Q)
 | false => False)
 | .goto i, st => False
 | .ret, st => finish E0.T [.tmp 2] [] Q st
theorem L_r02_Count_2_of (t0 : List UInt8) (t3 : Int) (K : Ex → St → Prop) (h :
 (Req (decide (t3 < (↑t0.length : Int)) = true → (0 : Int) ≤ t3 ∧ t3 < (↑t0.length : Int))
 (Let (bif decide (t3 < (↑t0.length : Int)) then decide ((48 : Int) ≤ (↑(t0.getD t3.toNat (0 : UInt8)).toNat : Int)) else false) fun x0 =>
 Req (x0 = true → (0 : Int) ≤ t3 ∧ t3 < (↑t0.length : Int))
 (Let (bif x0 then decide ((↑(t0.getD t3.toNat (0 : UInt8)).toNat : Int) ≤ (57 : Int)) else false) fun x1 =>
 Br (x1)
 (L_r02_Count_2 t0 (IntKind.i64.wrap (t3 + (1 : Int))) K)
 (K (.exit 0) ⟨[(3, (.imm (.int .i64 t3)))], []⟩))))) : L_r02_Count_2 t0 t3 K := loop_rule (envN E0 nt_r02_Count) (okE nt_r02_Count) 3 2 (lbodyOf 2 ac_r02_Count) [0, 3] _ K rfl (cast (by kernel_rfl) h)
theorem C_r02_Count_6_of (t3 : Int) (K : Ex → St → Prop) (h :
 (K .ret ⟨[(2, (.imm (.int .i64 t3)))], []⟩)) : C_r02_Count_6 t3 K := cut_rule (envN E0 nt_r02_Count) (okE nt_r02_Count) 3 6 (cbodyOf 6 ac_r02_Count) [] _ K rfl (cast (by kernel_rfl) h)
theorem K_r02_Count_0_x0 (Q : AV → Heap → Prop) (t2 : Int) (h :
 (Q (.imm (.int .i64 t2)) [])) : K_r02_Count_0 Q .ret ⟨[(2, (.imm (.int .i64 t2)))], []⟩ := cast (by kernel_rfl) h
theorem K_r02_Count_1_x0 (Q : AV → Heap → Prop) (t3 : Int) (h :
 (C_r02_Count_6 t3 (K_r02_Count_0 Q))) : K_r02_Count_1 Q (.exit 0) ⟨[(3, (.imm (.int .i64 t3)))], []⟩ := cast (by kernel_rfl) h
theorem ok_r02_Count : FnOK E0.P 28 ac_r02_Count.code nt_r02_Count [.tmp 2] := fn_ok _ _ Tryd.f28 [(2, [0, 3], []), (4, [3], []), (6, [3], [])] [2] _ 23 Tryd.func28 (by kernel_rfl) (by kernel_rfl) (by kernel_rfl) (by kernel_rfl)
theorem F_r02_Count_of (a0 : List UInt8) (Q : AV → Heap → Prop) (h :
 (L_r02_Count_2 a0 ((0 : Int)) (K_r02_Count_1 Q))) : Call E0.P fn_r02_Count [(.imm (.str a0))] [] Q := fun_rule (envN E0 nt_r02_Count) (okE nt_r02_Count) 3 28 ac_r02_Count [.tmp 2] ok_r02_Count _ _ Q rfl rfl (cast (by kernel_rfl) h)
/-! ### digits_Fixed -/
noncomputable def ac_digits_Fixed : AC := (annot [(1, [0, 15], [0]), (3, [0], []), (7, [4, 5, 6], []), (9, [5], []), (15, [5], [])] [2, 3] (codeOf Tryd.f29) 0).1
abbrev nt_digits_Fixed : Nat := 31
def C_digits_Fixed_1 (t0 : List UInt8) (t15 : Bool) (K : Ex → St → Prop) : Prop := CutOK 1 E0.P nt_digits_Fixed (cbodyOf 1 ac_digits_Fixed).code ⟨[(0, (.imm (.str t0))), (15, (.imm (.bool t15)))], []⟩ K
def C_digits_Fixed_3 (t0 : List UInt8) (K : Ex → St → Prop) : Prop := CutOK 3 E0.P nt_digits_Fixed (cbodyOf 3 ac_digits_Fixed).code ⟨[(0, (.imm (.str t0)))], []⟩ K
def L_digits_Fixed_7 (t5 : Int) (t6 : Int) (h173_1 : Int) (h171_1 : List UInt8) (K : Ex → St → Prop) : Prop := LoopOK 7 E0.P nt_digits_Fixed (lbodyOf 7 ac_digits_Fixed).code ⟨[(4, (.fn 65 [(.ptr (Nm.sub (17 : Nat) (Nm.loc (3 : Nat))) 0), (.ptr (Nm.sub (17 : Nat) (Nm.loc (1 : Nat))) 0)])), (5, (.imm (.int .i64 t5))), (6, (.imm (.int .i64 t6)))], [((Nm.sub (17 : Nat) (Nm.loc (3 : Nat))), (.blk ty_int [(.imm (.int .i64 h173_1))])), ((Nm.sub (17 : Nat) (Nm.loc (1 : Nat))), (.blk ty_string [(.imm (.str h171_1))]))]⟩ K
def C_digits_Fixed_15 (t5 : Int) (K : Ex → St → Prop) : Prop := CutOK 15 E0.P nt_digits_Fixed (cbodyOf 15 ac_digits_Fixed).code ⟨[(5, (.imm (.int .i64 t5)))], []⟩ K
def K_digits_Fixed_0 (Q : AV → Heap → Prop) : Ex → St → Prop
 | .normal, st => finish E0.T [.tmp 2, .tmp 3] [] Q st
 | .exit i, st => False
 | .goto i, st => False
 | .ret, st => finish E0.T [.tmp 2, .tmp 3] [] Q st
def K_digits_Fixed_1 (Q : AV → Heap → Prop) : Ex → St → Prop
 | .normal, st => CutOK 3 E0.P nt_digits_Fixed (cbodyOf 3 ac_digits_Fixed).code (mask [(0 : Nat)] st) (K_digits_Fixed_0 Q)
 | .exit i, st => False
 | .goto i, st => False
 | .ret, st => finish E0.T [.tmp 2, .tmp 3] [] Q st
def K_digits_Fixed_2 (K : Ex → St → Prop) : Ex → St → Prop
 | .normal, st => K .normal (mask [] st)
 | .exit i, st => K (.exit i) st
 | .goto i, st => K (.goto i) st
 | .ret, st => K .ret st
def K_digits_Fixed_3 (K : Ex → St → Prop) : Ex → St → Prop
 | .normal, st => CutOK 15 E0.P nt_digits_Fixed (cbodyOf 15 ac_digits_Fixed).code (mask [(5 : Nat)] st) (K_digits_Fixed_2 K)
 | .exit i, st => (match (i.beq (0 : Nat) : Bool) with
 | true => CutOK 15 E0.P nt_digits_Fixed (cbodyOf 15 ac_digits_Fixed).code (mask [(5 : Nat)] st) (K_digits_Fixed_2 K)
 | false => K (.exit i) st)
 | .goto i, st => K (.goto i) st
 | .ret, st => K .ret st
theorem C_digits_Fixed_1_of (t0 : List UInt8) (t15 : Bool) (K : Ex → St → Prop) (h :
 (Br (t15)
 (K .ret ⟨[(2, (.imm (.int .i64 ((0 : Int))))), (3, (.imm (.int .i64 ((4 : Int)))))], []⟩)
 (K .normal ⟨[(0, (.imm (.str t0)))], []⟩))) : C_digits_Fixed_1 t0 t15 K := cut_rule (envN E0 nt_digits_Fixed) (okE nt_digits_Fixed) 3 1 (cbodyOf 1 ac_digits_Fixed) [0] _ K rfl (cast (by kernel_rfl) h)
theorem C_digits_Fixed_3_of (t0 : List UInt8) (K : Ex → St → Prop) (h :
 (Req (decide ((↑t0.length : Int) ≤ (0 : Int)) = false → (0 : Int) ≤ (0 : Int) ∧ (0 : Int) < (↑t0.length : Int))
 (Br (decide ((↑t0.length : Int) ≤ (0 : Int)) == false)
 (Call E0.P fn_digits_digit [(.imm (.int .i32 (IntKind.i32.wrap (↑(t0.getD (0 : Nat) (0 : UInt8)).toNat : Int))))] [] fun r0 g0 =>
 Req (g0 = [] ∧ r0 = .imm (.bool (rB r0)))
 (Let (!rB r0) fun x1 =>
 Br (x1)
 (L_digits_Fixed_7 ((0 : Int)) ((-1 : Int)) ((0 : Int)) t0 (K_digits_Fixed_3 K))
 (Req ((0 : Int) ≤ IntKind.i64.wrap (IntKind.i64.wrap ((0 : Int) + (1 : Int)) - (1 : Int)) ∧
 IntKind.i64.wrap (IntKind.i64.wrap ((0 : Int) + (1 : Int)) - (1 : Int)) < (↑t0.length : Int))
 (L_digits_Fixed_7 ((0 : Int)) (IntKind.i64.wrap (IntKind.u8.wrap ((↑(t0.getD (0 : Nat) (0 : UInt8)).toNat : Int) - (48 : Int)))) (IntKind.i64.wrap ((0 : Int) + (1 : Int))) t0 (K_digits_Fixed_3 K)))))
 (Req ((!false) = true)
 (Let (true) fun x2 =>
 Br (x2)
 (L_digits_Fixed_7 ((0 : Int)) ((-1 : Int)) ((0 : Int)) t0 (K_digits_Fixed_3 K))
 (Req ((0 : Int) ≤ IntKind.i64.wrap (IntKind.i64.wrap ((0 : Int) + (1 : Int)) - (1 : Int)) ∧
 IntKind.i64.wrap (IntKind.i64.wrap ((0 : Int) + (1 : Int)) - (1 : Int)) < (↑t0.length : Int))
 (L_digits_Fixed_7 ((0 : Int)) (IntKind.i64.wrap (IntKind.u8.wrap ((↑(t0.getD (0 : Nat) (0 : UInt8)).toNat : Int) - (48 : Int)))) (IntKind.i64.wrap ((0 : Int) + (1 : Int))) t0 (K_digits_Fixed_3 K)))))))) : C_digits_Fixed_3 t0 K := cut_rule (envN E0 nt_digits_Fixed) (okE nt_digits_Fixed) 3 3 (cbodyOf 3 ac_digits_Fixed) [] _ K rfl (cast (by kernel_rfl) h)
theorem L_digits_Fixed_7_of (t5 : Int) (t6 : Int) (h173_1 : Int) (h171_1 : List UInt8) (K : Ex → St → Prop) (h :
 (Br (decide ((0 : Int) ≤ t6))
 (Br (decide ((2147483647 : Int) < IntKind.i64.wrap (IntKind.i64.wrap ((10 : Int) * t5) + t6)))
 (K .ret ⟨[(2, (.imm (.int .i64 ((0 : Int))))), (3, (.imm (.int .i64 ((3 : Int)))))], []⟩)
 (Req (decide ((↑h171_1.length : Int) ≤ h173_1) = false → (0 : Int) ≤ h173_1 ∧ h173_1 < (↑h171_1.length : Int))
 (Br (decide ((↑h171_1.length : Int) ≤ h173_1) == false)
 (Call E0.P fn_digits_digit [(.imm (.int .i32 (IntKind.i32.wrap (↑(h171_1.getD h173_1.toNat (0 : UInt8)).toNat : Int))))] [] fun r0 g0 =>
 Req (g0 = [] ∧ r0 = .imm (.bool (rB r0)))
 (Let (!rB r0) fun x1 =>
 Br (x1)
 (L_digits_Fixed_7 (IntKind.i64.wrap (IntKind.i64.wrap ((10 : Int) * t5) + t6)) ((-1 : Int)) h173_1 h171_1 K)
 (Req ((0 : Int) ≤ IntKind.i64.wrap (IntKind.i64.wrap (h173_1 + (1 : Int)) - (1 : Int)) ∧
 IntKind.i64.wrap (IntKind.i64.wrap (h173_1 + (1 : Int)) - (1 : Int)) < (↑h171_1.length : Int))
 (L_digits_Fixed_7 (IntKind.i64.wrap (IntKind.i64.wrap ((10 : Int) * t5) + t6)) (IntKind.i64.wrap
 (IntKind.u8.wrap
 ((↑(h171_1.getD (IntKind.i64.wrap (IntKind.i64.wrap (h173_1 + (1 : Int)) - (1 : Int))).toNat (0 : UInt8)).toNat :
 Int) -
 (48 : Int)))) (IntKind.i64.wrap (h173_1 + (1 : Int))) h171_1 K))))
 (Req ((!false) = true)
 (Let (true) fun x2 =>
 Br (x2)
 (L_digits_Fixed_7 (IntKind.i64.wrap (IntKind.i64.wrap ((10 : Int) * t5) + t6)) ((-1 : Int)) h173_1 h171_1 K)
 (Req ((0 : Int) ≤ IntKind.i64.wrap (IntKind.i64.wrap (h173_1 + (1 : Int)) - (1 : Int)) ∧
 IntKind.i64.wrap (IntKind.i64.wrap (h173_1 + (1 : Int)) - (1 : Int)) < (↑h171_1.length : Int))
 (L_digits_Fixed_7 (IntKind.i64.wrap (IntKind.i64.wrap ((10 : Int) * t5) + t6)) (IntKind.i64.wrap
 (IntKind.u8.wrap
 ((↑(h171_1.getD (IntKind.i64.wrap (IntKind.i64.wrap (h173_1 + (1 : Int)) - (1 : Int))).toNat (0 : UInt8)).toNat :
 Int) -
 (48 : Int)))) (IntKind.i64.wrap (h173_1 + (1 : Int))) h171_1 K)))))))
 (K (.exit 0) ⟨[(5, (.imm (.int .i64 t5)))], []⟩))) : L_digits_Fixed_7 t5 t6 h173_1 h171_1 K := loop_rule (envN E0 nt_digits_Fixed) (okE nt_digits_Fixed) 3 7 (lbodyOf 7 ac_digits_Fixed) [4, 5, 6] _ K rfl (cast (by kernel_rfl) h)
theorem C_digits_Fixed_15_of (t5 : Int) (K : Ex → St → Prop) (h :
 (K .ret ⟨[(2, (.imm (.int .i64 t5))), (3, (.imm (.int .i64 ((0 : Int)))))], []⟩)) : C_digits_Fixed_15 t5 K := cut_rule (envN E0 nt_digits_Fixed) (okE nt_digits_Fixed) 3 15 (cbodyOf 15 ac_digits_Fixed) [] _ K rfl (cast (by kernel_rfl) h)
theorem K_digits_Fixed_0_x0 (Q : AV → Heap → Prop) (t2 : Int) (t3 : Int) (h :
 (Q (.tup [(.imm (.int .i64 t2)), (.imm (.int .i64 t3))]) [])) : K_digits_Fixed_0 Q .ret ⟨[(2, (.imm (.int .i64 t2))), (3, (.imm (.int .i64 t3)))], []⟩ := cast (by kernel_rfl) h
theorem K_digits_Fixed_1_x0 (Q : AV → Heap → Prop) (t2 : Int) (t3 : Int) (h :
 (Q (.tup [(.imm (.int .i64 t2)), (.imm (.int .i64 t3))]) [])) : K_digits_Fixed_1 Q .ret ⟨[(2, (.imm (.int .i64 t2))), (3, (.imm (.int .i64 t3)))], []⟩ := cast (by kernel_rfl) h
theorem K_digits_Fixed_1_x1 (Q : AV → Heap → Prop) (t0 : List UInt8) (h :
 (C_digits_Fixed_3 t0 (K_digits_Fixed_0 Q))) : K_digits_Fixed_1 Q .normal ⟨[(0, (.imm (.str t0)))], []⟩ := cast (by kernel_rfl) h
theorem K_digits_Fixed_2_x0 (K : Ex → St → Prop) (t2 : Int) (t3 : Int) (h :
 (K .ret ⟨[(2, (.imm (.int .i64 t2))), (3, (.imm (.int .i64 t3)))], []⟩)) : K_digits_Fixed_2 K .ret ⟨[(2, (.imm (.int .i64 t2))), (3, (.imm (.int .i64 t3)))], []⟩ := cast (by kernel_rfl) h
theorem K_digits_Fixed_3_x0 (K : Ex → St → Prop) (t2 : Int) (t3 : Int) (h :
 (K .ret ⟨[(2, (.imm (.int .i64 t2))), (3, (.imm (.int .i64 t3)))], []⟩)) : K_digits_Fixed_3 K .ret ⟨[(2, (.imm (.int .i64 t2))), (3, (.imm (.int .i64 t3)))], []⟩ := cast (by kernel_rfl) h
theorem K_digits_Fixed_3_x1 (K : Ex → St → Prop) (t5 : Int) (h :
 (C_digits_Fixed_15 t5 (K_digits_Fixed_2 K))) : K_digits_Fixed_3 K (.exit 0) ⟨[(5, (.imm (.int .i64 t5)))], []⟩ := cast (by kernel_rfl) h
theorem ok_digits_Fixed : FnOK E0.P 29 ac_digits_Fixed.code nt_digits_Fixed [.tmp 2, .tmp 3] := fn_ok _ _ Tryd.f29 [(1, [0, 15], [0]), (3, [0], []), (7, [4, 5, 6], []), (9, [5], []), (15, [5], [])] [2, 3] _ 31 Tryd.func29 (by kernel_rfl) (by kernel_rfl) (by kernel_rfl) (by kernel_rfl)
theorem F_digits_Fixed_of (a0 : List UInt8) (Q : AV → Heap → Prop) (h :
 (Br ((a0 == []) == false)
 (Call E0.P fn_digits_Count [(.imm (.str a0))] [] fun r0 g0 =>
 Req (g0 = [] ∧ r0 = .imm (.int .i64 (rI r0)))
 (Let (!decide (rI r0 = (↑a0.length : Int))) fun x1 =>
 C_digits_Fixed_1 a0 x1 (K_digits_Fixed_1 Q)))
 (Req ((!false) = true)
 (Let (true) fun x2 =>
 C_digits_Fixed_1 a0 x2 (K_digits_Fixed_1 Q))))) : Call E0.P fn_digits_Fixed [(.imm (.str a0))] [] Q := fun_rule (envN E0 nt_digits_Fixed) (okE nt_digits_Fixed) 3 29 ac_digits_Fixed [.tmp 2, .tmp 3] ok_digits_Fixed _ _ Q rfl rfl (cast (by kernel_rfl) h)
/-! ### r02_Fixed -/
noncomputable def ac_r02_Fixed : AC := (annot [(1, [0, 14], [0]), (3, [0], []), (6, [0, 4, 5], []), (8, [4], []), (14, [4], [])] [2, 3] (codeOf Tryd.f30) 0).1
abbrev nt_r02_Fixed : Nat := 32
def C_r02_Fixed_1 (t0 : List UInt8) (t14 : Bool) (K : Ex → St → Prop) : Prop := CutOK 1 E0.P nt_r02_Fixed (cbodyOf 1 ac_r02_Fixed).code ⟨[(0, (.imm (.str t0))), (14, (.imm (.bool t14)))], []⟩ K
def C_r02_Fixed_3 (t0 : List UInt8) (K : Ex → St → Prop) : Prop := CutOK 3 E0.P nt_r02_Fixed (cbodyOf 3 ac_r02_Fixed).code ⟨[(0, (.imm (.str t0)))], []⟩ K
def L_r02_Fixed_6 (t0 : List UInt8) (t4 : Int) (t5 : Int) (K : Ex → St → Prop) : Prop := LoopOK 6 E0.P nt_r02_Fixed (lbodyOf 6 ac_r02_Fixed).code ⟨[(0, (.imm (.str t0))), (4, (.imm (.int .i64 t4))), (5, (.imm (.int .i64 t5)))], []⟩ K
def C_r02_Fixed_14 (t4 : Int) (K : Ex → St → Prop) : Prop := CutOK 14 E0.P nt_r02_Fixed (cbodyOf 14 ac_r02_Fixed).code ⟨[(4, (.imm (.int .i64 t4)))], []⟩ K
def K_r02_Fixed_0 (Q : AV → Heap → Prop) : Ex → St → Prop
 | .normal, st => finish E0.T [.tmp 2, .tmp 3] [] Q st
 | .exit i, st => False
 | .goto i, st => False
 | .ret, st => finish E0.T [.tmp 2, .tmp 3] [] Q st
def K_r02_Fixed_1 (Q : AV → Heap → Prop) : Ex → St → Prop
 | .normal, st => CutOK 3 E0.P nt_r02_Fixed (cbodyOf 3 ac_r02_Fixed).code (mask [(0 : Nat)] st) (K_r02_Fixed_0 Q)
 | .exit i, st => False
 | .goto i, st => False
 | .ret, st => finish E0.T [.tmp 2, .tmp 3] [] Q st
def K_r02_Fixed_2 (K : Ex → St → Prop) : Ex → St → Prop
 | .normal, st => K .normal (mask [] st)
 | .exit i, st => K (.exit i) st
 | .goto i, st => K (.goto i) st
 | .ret, st => K .ret st
def K_r02_Fixed_3 (K : Ex → St → Prop) : Ex → St → Prop
 | .normal, st => CutOK 14 E0.P nt_r02_Fixed (cbodyOf 14 ac_r02_Fixed).code (mask [(4 : Nat)] st) (K_r02_Fixed_2 K)
 | .exit i, st => (match (i.beq (0 : Nat) : Bool) with
 | true => CutOK 14 E0.P nt_r02_Fixed (cbodyOf 14 ac_r02_Fixed).code (mask [(4 : Nat)] st) (K_r02_Fixed_2 K)
 | false => K (.exit i) st)
 | .goto i, st => K (.goto i) st
 | .ret, st => K .ret st
theorem C_r02_Fixed_1_of (t0 : List UInt8) (t14 : Bool) (K : Ex → St → Prop) (h :
 (Br (t14)
 (K .ret ⟨[(2, (.imm (.int .i64 ((0 : Int))))), (3, (.imm (.int .i64 ((4 : Int)))))], []⟩)
 (K .normal ⟨[(0, (.imm (.str t0)))], []⟩))) : C_r02_Fixed_1 t0 t14 K := cut_rule (envN E0 nt_r02_Fixed) (okE nt_r02_Fixed) 3 1 (cbodyOf 1 ac_r02_Fixed) [0] _ K rfl (cast (by kernel_rfl) h)
theorem C_r02_Fixed_3_of (t0 : List UInt8) (K : Ex → St → Prop) (h :
 (L_r02_Fixed_6 t0 ((0 : Int)) ((0 : Int)) (K_r02_Fixed_3 K))) : C_r02_Fixed_3 t0 K := cut_rule (envN E0 nt_r02_Fixed) (okE nt_r02_Fixed) 3 3 (cbodyOf 3 ac_r02_Fixed) [] _ K rfl (cast (by kernel_rfl) h)
theorem L_r02_Fixed_6_of (t0 : List UInt8) (t4 : Int) (t5 : Int) (K : Ex → St → Prop) (h :
 (Br (decide (t5 < (↑t0.length : Int)))
 (Req ((0 : Int) ≤ t5 ∧ t5 < (↑t0.length : Int))
 (Br (decide
 ((2147483647 : Int) <
 IntKind.i64.wrap
 (IntKind.i64.wrap
 (IntKind.i64.wrap ((10 : Int) * t4) + IntKind.i64.wrap (↑(t0.getD t5.toNat (0 : UInt8)).toNat : Int)) -
 (48 : Int))))
 (K .ret ⟨[(2, (.imm (.int .i64 ((0 : Int))))), (3, (.imm (.int .i64 ((3 : Int)))))], []⟩)
 (L_r02_Fixed_6 t0 (IntKind.i64.wrap
 (IntKind.i64.wrap
 (IntKind.i64.wrap ((10 : Int) * t4) + IntKind.i64.wrap (↑(t0.getD t5.toNat (0 : UInt8)).toNat : Int)) -
 (48 : Int))) (IntKind.i64.wrap (t5 + (1 : Int))) K)))
 (K (.exit 0) ⟨[(4, (.imm (.int .i64 t4)))], []⟩))) : L_r02_Fixed_6 t0 t4 t5 K := loop_rule (envN E0 nt_r02_Fixed) (okE nt_r02_Fixed) 3 6 (lbodyOf 6 ac_r02_Fixed) [0, 4, 5] _ K rfl (cast (by kernel_rfl) h)
theorem C_r02_Fixed_14_of (t4 : Int) (K : Ex → St → Prop) (h :
 (K .ret ⟨[(2, (.imm (.int .i64 t4))), (3, (.imm (.int .i64 ((0 : Int)))))], []⟩)) : C_r02_Fixed_14 t4 K := cut_rule (envN E0 nt_r02_Fixed) (okE nt_r02_Fixed) 3 14 (cbodyOf 14 ac_r02_Fixed) [] _ K rfl (cast (by kernel_rfl) h)
theorem K_r02_Fixed_0_x0 (Q : AV → Heap → Prop) (t2 : Int) (t3 : Int) (h :
 (Q (.tup [(.imm (.int .i64 t2)), (.imm (.int .i64 t3))]) [])) : K_r02_Fixed_0 Q .ret ⟨[(2, (.imm (.int .i64 t2))), (3, (.imm (.int .i64 t3)))], []⟩ := cast (by kernel_rfl) h
theorem K_r02_Fixed_1_x0 (Q : AV → Heap → Prop) (t2 : Int) (t3 : Int) (h :
 (Q (.tup [(.imm (.int .i64 t2)), (.imm (.int .i64 t3))]) [])) : K_r02_Fixed_1 Q .ret ⟨[(2, (.imm (.int .i64 t2))), (3, (.imm (.int .i64 t3)))], []⟩ := cast (by kernel_rfl) h
theorem K_r02_Fixed_1_x1 (Q : AV → Heap → Prop) (t0 : List UInt8) (h :
 (C_r02_Fixed_3 t0 (K_r02_Fixed_0 Q))) : K_r02_Fixed_1 Q .normal ⟨[(0, (.imm (.str t0)))], []⟩ := cast (by kernel_rfl) h
theorem K_r02_Fixed_2_x0 (K : Ex → St → Prop) (t2 : Int) (t3 : Int) (h :
 (K .ret ⟨[(2, (.imm (.int .i64 t2))), (3, (.imm (.int .i64 t3)))], []⟩)) : K_r02_Fixed_2 K .ret ⟨[(2, (.imm (.int .i64 t2))), (3, (.imm (.int .i64 t3)))], []⟩ := cast (by kernel_rfl) h
theorem K_r02_Fixed_3_x0 (K : Ex → St → Prop) (t2 : Int) (t3 : Int) (h :
 (K .ret ⟨[(2, (.imm (.int .i64 t2))), (3, (.imm (.int .i64 t3)))], []⟩)) : K_r02_Fixed_3 K .ret ⟨[(2, (.imm (.int .i64 t2))), (3, (.imm (.int .i64 t3)))], []⟩ := cast (by kernel_rfl) h
theorem K_r02_Fixed_3_x1 (K : Ex → St → Prop) (t4 : Int) (h :
 (C_r02_Fixed_14 t4 (K_r02_Fixed_2 K))) : K_r02_Fixed_3 K (.exit 0) ⟨[(4, (.imm (.int .i64 t4)))], []⟩ := cast (by kernel_rfl) h
theorem ok_r02_Fixed : FnOK E0.P 30 ac_r02_Fixed.code nt_r02_Fixed [.tmp 2, .tmp 3] := fn_ok _ _ Tryd.f30 [(1, [0, 14], [0]), (3, [0], []), (6, [0, 4, 5], []), (8, [4], []), (14, [4], [])] [2, 3] _ 32 Tryd.func30 (by kernel_rfl) (by kernel_rfl) (by kernel_rfl) (by kernel_rfl)
theorem F_r02_Fixed_of (a0 : List UInt8) (Q : AV → Heap → Prop) (h :
 (Br ((a0 == []) == false)
 (Call E0.P fn_r02_Count [(.imm (.str a0))] [] fun r0 g0 =>
 Req (g0 = [] ∧ r0 = .imm (.int .i64 (rI r0)))
 (Let (!decide (rI r0 = (↑a0.length : Int))) fun x1 =>
 C_r02_Fixed_1 a0 x1 (K_r02_Fixed_1 Q)))
 (Req ((!false) = true)
 (Let (true) fun x2 =>
 C_r02_Fixed_1 a0 x2 (K_r02_Fixed_1 Q))))) : Call E0.P fn_r02_Fixed [(.imm (.str a0))] [] Q := fun_rule (envN E0 nt_r02_Fixed) (okE nt_r02_Fixed) 3 30 ac_r02_Fixed [.tmp 2, .tmp 3] ok_r02_Fixed _ _ Q rfl rfl (cast (by kernel_rfl) h)
/-! ### section_head -/
noncomputable def ac_section_head : AC := (annot [] [4] (codeOf Tryd.f31) 0).1
abbrev nt_section_head : Nat := 12
theorem ok_section_head : FnOK E0.P 31 ac_section_head.code nt_section_head [.tmp 4] := fn_ok _ _ Tryd.f31 [] [4] _ 12 Tryd.func31 (by kernel_rfl) (by kernel_rfl) (by kernel_rfl) (by kernel_rfl)
theorem F_section_head_of (a0 : Int) (a1 : Int) (Q : AV → Heap → Prop) (h :
 (Call E0.P fn_digits_Put [(.imm (.int .i64 a0))] [] fun r0 g0 =>
 Req (g0 = [] ∧ r0 = .imm (.str (rS r0)))
 (Req ((↑((rS r0).length + (1 : Nat)) : Int) ≤ (9223372036854775807 : Int))
 (Call E0.P fn_digits_Put [(.imm (.int .i64 a1))] [] fun r1 g1 =>
 Req (g1 = [] ∧ r1 = .imm (.str (rS r1)))
 (Req ((↑((rS r0 ++ [(32 : UInt8)]).length + (rS r1).length) : Int) ≤ (9223372036854775807 : Int))
 (Req ((↑((rS r0 ++ [(32 : UInt8)] ++ rS r1).length + (1 : Nat)) : Int) ≤ (9223372036854775807 : Int))
 (Q (.imm (.str (rS r0 ++ [(32 : UInt8)] ++ rS r1 ++ [(10 : UInt8)]))) []))))))) : Call E0.P fn_section_head [(.imm (.int .i64 a0)), (.imm (.int .i64 a1))] [] Q := fun_rule (envN E0 nt_section_head) (okE nt_section_head) 3 31 ac_section_head [.tmp 4] ok_section_head _ _ Q rfl rfl (cast (by kernel_rfl) h)
/-! ### section_line -/
noncomputable def ac_section_line : AC := (annot [(5, [3, 5, 7], [])] [2] (codeOf Tryd.f34) 0).1
abbrev nt_section_line : Nat := 31
def C_section_line_5 (t3 : List UInt8) (t5 : List UInt8) (t7 : List UInt8) (K : Ex → St → Prop) : Prop := CutOK 5 E0.P nt_section_line (cbodyOf 5 ac_section_line).code ⟨[(3, (.imm (.str t3))), (5, (.imm (.str t5))), (7, (.imm (.str t7)))], []⟩ K
def K_section_line_0 (Q : AV → Heap → Prop) : Ex → St → Prop
 | .normal, st => finish E0.T [.tmp 2] [] Q st
 | .exit i, st => False
 | .goto i, st => False
 | .ret, st => finish E0.T [.tmp 2] [] Q st
theorem C_section_line_5_of (t3 : List UInt8) (t5 : List UInt8) (t7 : List UInt8) (K : Ex → St → Prop) (h :
 (Req ((↑(t3.length + (1 : Nat)) : Int) ≤ (9223372036854775807 : Int))
 (Req ((↑((t3 ++ [(32 : UInt8)]).length + t5.length) : Int) ≤ (9223372036854775807 : Int))
 (Req ((↑((t3 ++ [(32 : UInt8)] ++ t5).length + (1 : Nat)) : Int) ≤ (9223372036854775807 : Int))
 (Req ((↑((t3 ++ [(32 : UInt8)] ++ t5 ++ [(32 : UInt8)]).length + t7.length) : Int) ≤ (9223372036854775807 : Int))
 (Req ((↑((t3 ++ [(32 : UInt8)] ++ t5 ++ [(32 : UInt8)] ++ t7).length + (2 : Nat)) : Int) ≤ (9223372036854775807 : Int))
 (K .ret ⟨[(2, (.imm (.str (t3 ++ [(32 : UInt8)] ++ t5 ++ [(32 : UInt8)] ++ t7 ++ [(32 : UInt8), (10 : UInt8)]))))], []⟩))))))) : C_section_line_5 t3 t5 t7 K := cut_rule (envN E0 nt_section_line) (okE nt_section_line) 3 5 (cbodyOf 5 ac_section_line) [] _ K rfl (cast (by kernel_rfl) h)
theorem K_section_line_0_x0 (Q : AV → Heap → Prop) (t2 : List UInt8) (h :
 (Q (.imm (.str t2)) [])) : K_section_line_0 Q .ret ⟨[(2, (.imm (.str t2)))], []⟩ := cast (by kernel_rfl) h
theorem ok_section_line : FnOK E0.P 34 ac_section_line.code nt_section_line [.tmp 2] := fn_ok _ _ Tryd.f34 [(5, [3, 5, 7], [])] [2] _ 31 Tryd.func34 (by kernel_rfl) (by kernel_rfl) (by kernel_rfl) (by kernel_rfl)
theorem F_section_line_of (a0_0 : Int) (a0_1 : Int) (a0_2 : Int) (Q : AV → Heap → Prop) (h :
 (Call E0.P fn_digits_Pad [(.imm (.int .i64 a0_1)), (.imm (.int .i64 ((10 : Int))))] [] fun r0 g0 =>
 Req (g0 = [] ∧ r0 = .tup [.imm (.str (rS (rT r0 (0 : Nat)))), .imm (.int .i64 (rI (rT r0 (1 : Nat))))])
 (Call E0.P fn_digits_Pad [(.imm (.int .i64 a0_2)), (.imm (.int .i64 ((5 : Int))))] [] fun r1 g1 =>
 Req (g1 = [] ∧ r1 = .tup [.imm (.str (rS (rT r1 (0 : Nat)))), .imm (.int .i64 (rI (rT r1 (1 : Nat))))])
 (Br (decide (a0_0 = (1 : Int)))
 (C_section_line_5 (rS (rT r0 (0 : Nat))) (rS (rT r1 (0 : Nat))) [(110 : UInt8)] (K_section_line_0 Q))
 (C_section_line_5 (rS (rT r0 (0 : Nat))) (rS (rT r1 (0 : Nat))) [(102 : UInt8)] (K_section_line_0 Q)))))) : Call E0.P fn_section_line [(.imm (.agg [(.int .i64 a0_0), (.int .i64 a0_1), (.int .i64 a0_2)]))] [] Q := fun_rule (envN E0 nt_section_line) (okE nt_section_line) 3 34 ac_section_line [.tmp 2] ok_section_line _ _ Q rfl rfl (cast (by kernel_rfl) h)
/-! ### r22_Part -/
noncomputable def ac_r22_Part : AC := (annot [(2, [0, 1, 5], []), (4, [5], []), (6, [5], [])] [4] (codeOf Tryd.f36) 0).1
abbrev nt_r22_Part : Nat := 32
def L_r22_Part_2 (t0k : SK) (t0r : List (List IV)) (t1 : Int) (t5 : Int) (K : Ex → St → Prop) : Prop := LoopOK 2 E0.P nt_r22_Part (lbodyOf 2 ac_r22_Part).code ⟨[(0, (.imm (.sl t0k 4 t0r))), (1, (.imm (.int .i64 t1))), (5, (.imm (.int .i64 t5)))], []⟩ K
def C_r22_Part_6 (t5 : Int) (K : Ex → St → Prop) : Prop := CutOK 6 E0.P nt_r22_Part (cbodyOf 6 ac_r22_Part).code ⟨[(5, (.imm (.int .i64 t5)))], []⟩ K
def K_r22_Part_0 (Q : AV → Heap → Prop) : Ex → St → Prop
 | .normal, st => finish E0.T [.tmp 4] [] Q st
 | .exit i, st => False
 | .goto i, st => False
 | .ret, st => finish E0.T [.tmp 4] [] Q st
def K_r22_Part_1 (Q : AV → Heap → Prop) : Ex → St → Prop
 | .normal, st => CutOK 6 E0.P nt_r22_Part (cbodyOf 6 ac_r22_Part).code (mask [(5 : Nat)] st) (K_r22_Part_0 Q)
 | .exit i, st => (match (i.beq (0 : Nat) : Bool) with
 | true => CutOK 6 E0.P nt_r22_Part (cbodyOf 6 ac_r22_Part).code (mask [(5 : Nat)] st) (K_r22_Part_0 Q)
 | false => False)
 | .goto i, st => False
 | .ret, st => finish E0.T [.tmp 4] [] Q st
theorem L_r22_Part_2_of (t0k : SK) (t0r : List (List IV)) (t1 : Int) (t5 : Int) (K : Ex → St → Prop) (h :
 (Req (decide (IntKind.i64.wrap (t1 + t5) < (↑t0r.length : Int)) = true →
 ((0 : Int) ≤ IntKind.i64.wrap (t1 + t5) ∧ IntKind.i64.wrap (t1 + t5) < (↑t0r.length : Int)) ∧
 shOK [.int .i64, .int .i64, .int .i64, .int .i64]
 (t0r.getD (IntKind.i64.wrap (t1 + t5)).toNat []) =
 true)
 (Req (decide (IntKind.i64.wrap (t1 + t5) < (↑t0r.length : Int)) = true →
 ((0 : Int) ≤ t1 ∧ t1 < (↑t0r.length : Int)) ∧
 shOK [.int .i64, .int .i64, .int .i64, .int .i64] (t0r.getD t1.toNat []) = true)
 (Let (bif decide (IntKind.i64.wrap (t1 + t5) < (↑t0r.length : Int)) then
 decide
 (gI (t0r.getD (IntKind.i64.wrap (t1 + t5)).toNat []) (0 : Nat) =
 IntKind.i64.wrap (gI (t0r.getD t1.toNat []) (0 : Nat) + t5))
 else false) fun x0 =>
 Br (x0)
 (L_r22_Part_2 t0k t0r t1 (IntKind.i64.wrap (t5 + (1 : Int))) K)
 (K (.exit 0) ⟨[(5, (.imm (.int .i64 t5)))], []⟩))))) : L_r22_Part_2 t0k t0r t1 t5 K := loop_rule (envN E0 nt_r22_Part) (okE nt_r22_Part) 3 2 (lbodyOf 2 ac_r22_Part) [0, 1, 5] _ K rfl (cast (by kernel_rfl) h)
theorem C_r22_Part_6_of (t5 : Int) (K : Ex → St → Prop) (h :
 (K .ret ⟨[(4, (.imm (.int .i64 t5)))], []⟩)) : C_r22_Part_6 t5 K := cut_rule (envN E0 nt_r22_Part) (okE nt_r22_Part) 3 6 (cbodyOf 6 ac_r22_Part) [] _ K rfl (cast (by kernel_rfl) h)
theorem K_r22_Part_0_x0 (Q : AV → Heap → Prop) (t4 : Int) (h :
 (Q (.imm (.int .i64 t4)) [])) : K_r22_Part_0 Q .ret ⟨[(4, (.imm (.int .i64 t4)))], []⟩ := cast (by kernel_rfl) h
theorem K_r22_Part_1_x0 (Q : AV → Heap → Prop) (t5 : Int) (h :
 (C_r22_Part_6 t5 (K_r22_Part_0 Q))) : K_r22_Part_1 Q (.exit 0) ⟨[(5, (.imm (.int .i64 t5)))], []⟩ := cast (by kernel_rfl) h
theorem ok_r22_Part : FnOK E0.P 36 ac_r22_Part.code nt_r22_Part [.tmp 4] := fn_ok _ _ Tryd.f36 [(2, [0, 1, 5], []), (4, [5], []), (6, [5], [])] [4] _ 32 Tryd.func36 (by kernel_rfl) (by kernel_rfl) (by kernel_rfl) (by kernel_rfl)
theorem F_r22_Part_of (a0k : SK) (a0 : List (List IV)) (a1 : Int) (Q : AV → Heap → Prop) (h :
 (L_r22_Part_2 a0k a0 a1 ((1 : Int)) (K_r22_Part_1 Q))) : Call E0.P fn_r22_Part [(.imm (.sl a0k 4 a0)), (.imm (.int .i64 a1))] [] Q := fun_rule (envN E0 nt_r22_Part) (okE nt_r22_Part) 3 36 ac_r22_Part [.tmp 4] ok_r22_Part _ _ Q rfl rfl (cast (by kernel_rfl) h)
/-! ### r22_line -/
noncomputable def ac_r22_line : AC := (annot [] [2] (codeOf Tryd.f37) 0).1
abbrev nt_r22_line : Nat := 35
theorem ok_r22_line : FnOK E0.P 37 ac_r22_line.code nt_r22_line [.tmp 2] := fn_ok _ _ Tryd.f37 [] [2] _ 35 Tryd.func37 (by kernel_rfl) (by kernel_rfl) (by kernel_rfl) (by kernel_rfl)
theorem F_r22_line_of (a0_0 : Int) (a0_1 : Int) (a0_2 : Int) (a0_3 : Int) (Q : AV → Heap → Prop) (h :
 (Call E0.P fn_r02_Pad [(.imm (.int .i64 a0_2)), (.imm (.int .i64 ((10 : Int))))] [] fun r0 g0 =>
 Req (g0 = [] ∧ r0 = .tup [.imm (.str (rS (rT r0 (0 : Nat)))), .imm (.int .i64 (rI (rT r0 (1 : Nat))))])
 (Call E0.P fn_r02_Pad [(.imm (.int .i64 a0_3)), (.imm (.int .i64 ((5 : Int))))] [] fun r1 g1 =>
 Req (g1 = [] ∧ r1 = .tup [.imm (.str (rS (rT r1 (0 : Nat)))), .imm (.int .i64 (rI (rT r1 (1 : Nat))))])
 (Br (decide (a0_1 = (1 : Int)))
 (Req ((↑((rS (rT r0 (0 : Nat))).length + (1 : Nat)) : Int) ≤ (9223372036854775807 : Int))
 (Req ((↑((rS (rT r0 (0 : Nat)) ++ [(32 : UInt8)]).length + (rS (rT r1 (0 : Nat))).length) : Int) ≤ (9223372036854775807 : Int))
 (Req ((↑((rS (rT r0 (0 : Nat)) ++ [(32 : UInt8)] ++ rS (rT r1 (0 : Nat))).length + (4 : Nat)) : Int) ≤
 (9223372036854775807 : Int))
 (Q (.imm (.str (rS (rT r0 (0 : Nat)) ++ [(32 : UInt8)] ++ rS (rT r1 (0 : Nat)) ++
 [(32 : UInt8), (110 : UInt8), (32 : UInt8), (10 : UInt8)]))) []))))
 (Req ((↑((rS (rT r0 (0 : Nat))).length + (1 : Nat)) : Int) ≤ (9223372036854775807 : Int))
 (Req ((↑((rS (rT r0 (0 : Nat)) ++ [(32 : UInt8)]).length + (rS (rT r1 (0 : Nat))).length) : Int) ≤ (9223372036854775807 : Int))
 (Req ((↑((rS (rT r0 (0 : Nat)) ++ [(32 : UInt8)] ++ rS (rT r1 (0 : Nat))).length + (4 : Nat)) : Int) ≤
 (9223372036854775807 : Int))
 (Q (.imm (.str (rS (rT r0 (0 : Nat)) ++ [(32 : UInt8)] ++ rS (rT r1 (0 : Nat)) ++
 [(32 : UInt8), (102 : UInt8), (32 : UInt8), (10 : UInt8)]))) [])))))))) : Call E0.P fn_r22_line [(.imm (.agg [(.int .i64 a0_0), (.int .i64 a0_1), (.int .i64 a0_2), (.int .i64 a0_3)]))] [] Q := fun_rule (envN E0 nt_r22_line) (okE nt_r22_line) 3 37 ac_r22_line [.tmp 2] ok_r22_line _ _ Q rfl rfl (cast (by kernel_rfl) h)
/-! ### section_out -/
noncomputable def ac_section_out : AC := (annot [] [4] (codeOf Tryd.f38) 0).1
abbrev nt_section_out : Nat := 12
theorem ok_section_out : FnOK E0.P 38 ac_section_out.code nt_section_out [.tmp 4] := fn_ok _ _ Tryd.f38 [] [4] _ 12 Tryd.func38 (by kernel_rfl) (by kernel_rfl) (by kernel_rfl) (by kernel_rfl)
theorem F_section_out_of (a0 : Int) (a1 : Int) (Q : AV → Heap → Prop) (h :
 (Let (bif decide (a0 < (0 : Int)) then true else decide (a1 < a0)) fun x0 =>
 Q (.imm (.bool x0)) [])) : Call E0.P fn_section_out [(.imm (.int .i64 a0)), (.imm (.int .i64 a1))] [] Q := fun_rule (envN E0 nt_section_out) (okE nt_section_out) 3 38 ac_section_out [.tmp 4] ok_section_out _ _ Q rfl rfl (cast (by kernel_rfl) h)
/-! ### section_begins -/
noncomputable def ac_section_begins : AC := (annot [] [2] (codeOf Tryd.f39) 0).1
abbrev nt_section_begins : Nat := 9
theorem ok_section_begins : FnOK E0.P 39 ac_section_begins.code nt_section_begins [.tmp 2] := fn_ok _ _ Tryd.f39 [] [2] _ 9 Tryd.func39 (by kernel_rfl) (by kernel_rfl) (by kernel_rfl) (by kernel_rfl)
theorem F_section_begins_of (a0 : List UInt8) (Q : AV → Heap → Prop) (h :
 (Call E0.P fn_strings_HasPrefix [(.imm (.str a0)), (.imm (.str [(120 : UInt8), (114 : UInt8), (101 : UInt8), (102 : UInt8), (10 : UInt8)]))] [] fun r0 g0 =>
 Req (g0 = [] ∧ r0 = .imm (.bool (rB r0)))
 (Br (rB r0)
 (Q (.imm (.int .i64 ((0 : Int)))) [])
 (Call E0.P fn_strings_HasPrefix [(.imm (.str [(120 : UInt8), (114 : UInt8), (101 : UInt8), (102 : UInt8), (10 : UInt8)])), (.imm (.str a0))] [] fun r1 g1 =>
 Req (g1 = [] ∧ r1 = .imm (.bool (rB r1)))
 (Br (rB r1)
 (Q (.imm (.int .i64 ((5 : Int)))) [])
 (Q (.imm (.int .i64 ((4 : Int)))) [])))))) : Call E0.P fn_section_begins [(.imm (.str a0))] [] Q := fun_rule (envN E0 nt_section_begins) (okE nt_section_begins) 3 39 ac_section_begins [.tmp 2] ok_section_begins _ _ Q rfl rfl (cast (by kernel_rfl) h)
/-! ### section_reader_part -/
noncomputable def ac_section_reader_part : AC := (annot [(13, [0, 4, 7, 35, 36], []), (15, [7], []), (23, [7], [])] [2, 3] (codeOf Tryd.f40) 0).1
abbrev nt_section_reader_part : Nat := 57
def L_section_reader_part_13 (t4 : Int) (t35 : Int) (t36 : Int) (h0_1_0 : List UInt8) (h0_1_1 : Int) (h7r : List (List IV)) (K : Ex → St → Prop) : Prop := LoopOK 13 E0.P nt_section_reader_part (lbodyOf 13 ac_section_reader_part).code ⟨[(0, (.ptr (Nm.arg (0 : Nat)) 0)), (4, (.imm (.int .i64 t4))), (7, (.own (Nm.loc (7 : Nat)))), (35, (.imm (.int .i64 t35))), (36, (.imm (.int .i64 t36)))], [((Nm.arg (0 : Nat)), (.blk ty_section_reader [(.imm (.str h0_1_0)), (.imm (.int .i64 h0_1_1))])), ((Nm.loc (7 : Nat)), (.arr 55 true 4 h7r))]⟩ K
def C_section_reader_part_23 (h7r : List (List IV)) (h0_1_0 : List UInt8) (h0_1_1 : Int) (K : Ex → St → Prop) : Prop := CutOK 23 E0.P nt_section_reader_part (cbodyOf 23 ac_section_reader_part).code ⟨[(7, (.own (Nm.loc (7 : Nat))))], [((Nm.loc (7 : Nat)), (.arr 55 true 4 h7r)), ((Nm.arg (0 : Nat)), (.blk ty_section_reader [(.imm (.str h0_1_0)), (.imm (.int .i64 h0_1_1))]))]⟩ K
def K_section_reader_part_0 (s : List UInt8) (at_ : Int) (Q : AV → Heap → Prop) : Ex → St → Prop
 | .normal, st => finish E0.T [.tmp 2, .tmp 3] [((Nm.arg (0 : Nat)), (.blk ty_section_reader [(.imm (.str s)), (.imm (.int .i64 at_))]))] Q st
 | .exit i, st => False
 | .goto i, st => False
 | .ret, st => finish E0.T [.tmp 2, .tmp 3] [((Nm.arg (0 : Nat)), (.blk ty_section_reader [(.imm (.str s)), (.imm (.int .i64 at_))]))] Q st
def K_section_reader_part_1 (s : List UInt8) (at_ : Int) (Q : AV → Heap → Prop) : Ex → St → Prop
 | .normal, st => CutOK 23 E0.P nt_section_reader_part (cbodyOf 23 ac_section_reader_part).code (mask [(7 : Nat)] st) (K_section_reader_part_0 s at_ Q)
 | .exit i, st => (match (i.beq (1 : Nat) : Bool) with
 | true => CutOK 23 E0.P nt_section_reader_part (cbodyOf 23 ac_section_reader_part).code (mask [(7 : Nat)] st) (K_section_reader_part_0 s at_ Q)
 | false => False)
 | .goto i, st => False
 | .ret, st => finish E0.T [.tmp 2, .tmp 3] [((Nm.arg (0 : Nat)), (.blk ty_section_reader [(.imm (.str s)), (.imm (.int .i64 at_))]))] Q st
theorem L_section_reader_part_13_of (t4 : Int) (t35 : Int) (t36 : Int) (h0_1_0 : List UInt8) (h0_1_1 : Int) (h7r : List (List IV)) (K : Ex → St → Prop) (h :
 (Br (decide (t36 < t35))
 (Call E0.P fn_section_reader_entry [(.ptr (Nm.arg (0 : Nat)) 0)] [((Nm.arg (0 : Nat)), (.blk ty_section_reader [(.imm (.str h0_1_0)), (.imm (.int .i64 h0_1_1))]))] fun r0 g0 =>
 Req (g0 =
 [(Nm.arg (0 : Nat),
 Entry.blk (72 : Nat)
 [.imm (.str (rS ((blkOf g0 (Nm.arg (0 : Nat))).getD (0 : Nat) AV.undef))),
 .imm (.int .i64 (rI ((blkOf g0 (Nm.arg (0 : Nat))).getD (1 : Nat) AV.undef)))])] ∧
 r0 =
 .tup
 [.imm
 (IV.agg
 [.int .i64 (gI (aCells (rT r0 (0 : Nat))) (0 : Nat)),
 .int .i64 (gI (aCells (rT r0 (0 : Nat))) (1 : Nat)),
 .int .i64 (gI (aCells (rT r0 (0 : Nat))) (2 : Nat))]),
 .imm (.int .i64 (rI (rT r0 (1 : Nat))))])
 (Br (!decide (rI (rT r0 (1 : Nat)) = (0 : Int)))
 (K .ret ⟨[(2, (.own (Nm.loc (2 : Nat)))), (3, (.imm (.int .i64 (rI (rT r0 (1 : Nat))))))], [((Nm.loc (2 : Nat)), (.arr 55 true 4 [])), ((Nm.arg (0 : Nat)), (.blk ty_section_reader [(.imm (.str (rS ((blkOf g0 (Nm.arg (0 : Nat))).getD (0 : Nat) AV.undef)))), (.imm (.int .i64 (rI ((blkOf g0 (Nm.arg (0 : Nat))).getD (1 : Nat) AV.undef))))]))]⟩)
 (Req ((h7r.length + (1 : Nat)) * (32 : Nat) ≤ (140737488355328 : Nat) ∧ h7r.length + (1 : Nat) ≤ (140737488355328 : Nat))
 (L_section_reader_part_13 t4 t35 (IntKind.i64.wrap (t36 + (1 : Int))) (rS ((blkOf g0 (Nm.arg (0 : Nat))).getD (0 : Nat) AV.undef)) (rI ((blkOf g0 (Nm.arg (0 : Nat))).getD (1 : Nat) AV.undef)) (h7r ++
 [[.int .i64 (IntKind.i64.wrap (t4 + t36)), .int .i64 (gI (aCells (rT r0 (0 : Nat))) (0 : Nat)),
 .int .i64 (gI (aCells (rT r0 (0 : Nat))) (1 : Nat)),
 .int .i64 (gI (aCells (rT r0 (0 : Nat))) (2 : Nat))]]) K))))
 (K (.exit ((1 : Nat))) ⟨[(7, (.own (Nm.loc (7 : Nat))))], [((Nm.loc (7 : Nat)), (.arr 55 true 4 h7r)), ((Nm.arg (0 : Nat)), (.blk ty_section_reader [(.imm (.str h0_1_0)), (.imm (.int .i64 h0_1_1))]))]⟩))) : L_section_reader_part_13 t4 t35 t36 h0_1_0 h0_1_1 h7r K := loop_rule (envN E0 nt_section_reader_part) (okE nt_section_reader_part) 3 13 (lbodyOf 13 ac_section_reader_part) [0, 4, 7, 35, 36] _ K rfl (cast (by kernel_rfl) h)
theorem C_section_reader_part_23_of (h7r : List (List IV)) (h0_1_0 : List UInt8) (h0_1_1 : Int) (K : Ex → St → Prop) (h :
 (K .ret ⟨[(2, (.own (Nm.loc (7 : Nat)))), (3, (.imm (.int .i64 ((0 : Int)))))], [((Nm.loc (7 : Nat)), (.arr 55 true 4 h7r)), ((Nm.arg (0 : Nat)), (.blk ty_section_reader [(.imm (.str h0_1_0)), (.imm (.int .i64 h0_1_1))]))]⟩)) : C_section_reader_part_23 h7r h0_1_0 h0_1_1 K := cut_rule (envN E0 nt_section_reader_part) (okE nt_section_reader_part) 3 23 (cbodyOf 23 ac_section_reader_part) [] _ K rfl (cast (by kernel_rfl) h)
theorem K_section_reader_part_0_x0 (s : List UInt8) (at_ : Int) (Q : AV → Heap → Prop) (t3 : Int) (h7r : List (List IV)) (h0_1_0 : List UInt8) (h0_1_1 : Int) (h :
 (Q (.tup [(.imm (.sl .any 4 h7r)), (.imm (.int .i64 t3))]) [((Nm.arg (0 : Nat)), (.blk ty_section_reader [(.imm (.str h0_1_0)), (.imm (.int .i64 h0_1_1))]))])) : K_section_reader_part_0 s at_ Q .ret ⟨[(2, (.own (Nm.loc (7 : Nat)))), (3, (.imm (.int .i64 t3)))], [((Nm.loc (7 : Nat)), (.arr 55 true 4 h7r)), ((Nm.arg (0 : Nat)), (.blk ty_section_reader [(.imm (.str h0_1_0)), (.imm (.int .i64 h0_1_1))]))]⟩ := cast (by kernel_rfl) h
theorem K_section_reader_part_1_x0 (s : List UInt8) (at_ : Int) (Q : AV → Heap → Prop) (t3 : Int) (h2r : List (List IV)) (h0_1_0 : List UInt8) (h0_1_1 : Int) (h :
 (Q (.tup [(.imm (.sl .any 4 h2r)), (.imm (.int .i64 t3))]) [((Nm.arg (0 : Nat)), (.blk ty_section_reader [(.imm (.str h0_1_0)), (.imm (.int .i64 h0_1_1))]))])) : K_section_reader_part_1 s at_ Q .ret ⟨[(2, (.own (Nm.loc (2 : Nat)))), (3, (.imm (.int .i64 t3)))], [((Nm.loc (2 : Nat)), (.arr 55 true 4 h2r)), ((Nm.arg (0 : Nat)), (.blk ty_section_reader [(.imm (.str h0_1_0)), (.imm (.int .i64 h0_1_1))]))]⟩ := cast (by kernel_rfl) h
theorem K_section_reader_part_1_x1 (s : List UInt8) (at_ : Int) (Q : AV → Heap → Prop) (h7r : List (List IV)) (h0_1_0 : List UInt8) (h0_1_1 : Int) (h :
 (C_section_reader_part_23 h7r h0_1_0 h0_1_1 (K_section_reader_part_0 s at_ Q))) : K_section_reader_part_1 s at_ Q (.exit ((1 : Nat))) ⟨[(7, (.own (Nm.loc (7 : Nat))))], [((Nm.loc (7 : Nat)), (.arr 55 true 4 h7r)), ((Nm.arg (0 : Nat)), (.blk ty_section_reader [(.imm (.str h0_1_0)), (.imm (.int .i64 h0_1_1))]))]⟩ := cast (by kernel_rfl) h
theorem ok_section_reader_part : FnOK E0.P 40 ac_section_reader_part.code nt_section_reader_part [.tmp 2, .tmp 3] := fn_ok _ _ Tryd.f40 [(13, [0, 4, 7, 35, 36], []), (15, [7], []), (23, [7], [])] [2, 3] _ 57 Tryd.func40 (by kernel_rfl) (by kernel_rfl) (by kernel_rfl) (by kernel_rfl)
theorem F_section_reader_part_of (s : List UInt8) (at_ : Int) (Q : AV → Heap → Prop) (h :
 (Call E0.P fn_section_reader_number [(.ptr (Nm.arg (0 : Nat)) 0), (.imm (.int .u8 ((32 : Int))))] [((Nm.arg (0 : Nat)), (.blk ty_section_reader [(.imm (.str s)), (.imm (.int .i64 at_))]))] fun r0 g0 =>
 Req (g0 =
 [(Nm.arg (0 : Nat),
 Entry.blk (72 : Nat)
 [.imm (.str (rS ((blkOf g0 (Nm.arg (0 : Nat))).getD (0 : Nat) AV.undef))),
 .imm (.int .i64 (rI ((blkOf g0 (Nm.arg (0 : Nat))).getD (1 : Nat) AV.undef)))])] ∧
 r0 = .tup [.imm (.int .i64 (rI (rT r0 (0 : Nat)))), .imm (.int .i64 (rI (rT r0 (1 : Nat))))])
 (Br (!decide (rI (rT r0 (1 : Nat)) = (0 : Int)))
 (Q (.tup [(.imm (.sl .any 4 [])), (.imm (.int .i64 (rI (rT r0 (1 : Nat)))))]) [((Nm.arg (0 : Nat)), (.blk ty_section_reader [(.imm (.str (rS ((blkOf g0 (Nm.arg (0 : Nat))).getD (0 : Nat) AV.undef)))), (.imm (.int .i64 (rI ((blkOf g0 (Nm.arg (0 : Nat))).getD (1 : Nat) AV.undef))))]))])
 (Call E0.P fn_section_reader_number [(.ptr (Nm.arg (0 : Nat)) 0), (.imm (.int .u8 ((10 : Int))))] [((Nm.arg (0 : Nat)), (.blk ty_section_reader [(.imm (.str (rS ((blkOf g0 (Nm.arg (0 : Nat))).getD (0 : Nat) AV.undef)))), (.imm (.int .i64 (rI ((blkOf g0 (Nm.arg (0 : Nat))).getD (1 : Nat) AV.undef))))]))] fun r1 g1 =>
 Req (g1 =
 [(Nm.arg (0 : Nat),
 Entry.blk (72 : Nat)
 [.imm (.str (rS ((blkOf g1 (Nm.arg (0 : Nat))).getD (0 : Nat) AV.undef))),
 .imm (.int .i64 (rI ((blkOf g1 (Nm.arg (0 : Nat))).getD (1 : Nat) AV.undef)))])] ∧
 r1 = .tup [.imm (.int .i64 (rI (rT r1 (0 : Nat)))), .imm (.int .i64 (rI (rT r1 (1 : Nat))))])
 (Br (!decide (rI (rT r1 (1 : Nat)) = (0 : Int)))
 (Q (.tup [(.imm (.sl .any 4 [])), (.imm (.int .i64 (rI (rT r1 (1 : Nat)))))]) [((Nm.arg (0 : Nat)), (.blk ty_section_reader [(.imm (.str (rS ((blkOf g1 (Nm.arg (0 : Nat))).getD (0 : Nat) AV.undef)))), (.imm (.int .i64 (rI ((blkOf g1 (Nm.arg (0 : Nat))).getD (1 : Nat) AV.undef))))]))])
 (Req ((0 : Int) ≤ rI ((blkOf g1 (Nm.arg (0 : Nat))).getD (1 : Nat) AV.undef) ∧
 rI ((blkOf g1 (Nm.arg (0 : Nat))).getD (1 : Nat) AV.undef) ≤
 (↑(rS ((blkOf g1 (Nm.arg (0 : Nat))).getD (0 : Nat) AV.undef)).length : Int))
 (Let (List.drop (rI ((blkOf g1 (Nm.arg (0 : Nat))).getD (1 : Nat) AV.undef)).toNat
 (rS ((blkOf g1 (Nm.arg (0 : Nat))).getD (0 : Nat) AV.undef))) fun x2 =>
 Req ((20 : Int) ≠ (0 : Int))
 (Br (decide (IntKind.i64.wrap ((↑x2.length : Int).tdiv (20 : Int)) < rI (rT r1 (0 : Nat))))
 (Q (.tup [(.imm (.sl .any 4 [])), (.imm (.int .i64 ((5 : Int))))]) [((Nm.arg (0 : Nat)), (.blk ty_section_reader [(.imm (.str (rS ((blkOf g1 (Nm.arg (0 : Nat))).getD (0 : Nat) AV.undef)))), (.imm (.int .i64 (rI ((blkOf g1 (Nm.arg (0 : Nat))).getD (1 : Nat) AV.undef))))]))])
 (L_section_reader_part_13 (rI (rT r0 (0 : Nat))) (rI (rT r1 (0 : Nat))) ((0 : Int)) (rS ((blkOf g1 (Nm.arg (0 : Nat))).getD (0 : Nat) AV.undef)) (rI ((blkOf g1 (Nm.arg (0 : Nat))).getD (1 : Nat) AV.undef)) [] (K_section_reader_part_1 s at_ Q)))))))))) : Call E0.P fn_section_reader_part [(.ptr (.arg 0) 0)] [(.arg 0, .blk ty_section_reader [.imm (.str s), .imm (.int .i64 at_)])] Q := fun_rule (envN E0 nt_section_reader_part) (okE nt_section_reader_part) 3 40 ac_section_reader_part [.tmp 2, .tmp 3] ok_section_reader_part _ _ Q rfl rfl (cast (by kernel_rfl) h)
/-! ### r01_Stands -/
noncomputable def ac_r01_Stands : AC := (annot [] [6] (codeOf Tryd.f42) 0).1
abbrev nt_r01_Stands : Nat := 35
theorem ok_r01_Stands : FnOK E0.P 42 ac_r01_Stands.code nt_r01_Stands [.tmp 6] := fn_ok _ _ Tryd.f42 [] [6] _ 35 Tryd.func42 (by kernel_rfl) (by kernel_rfl) (by kernel_rfl) (by kernel_rfl)
theorem F_r01_Stands_of (a0 : List UInt8) (a1 : Int) (a2 : List UInt8) (Q : AV → Heap → Prop) (h :
 (Let (bif decide ((0 : Int) ≤ a1) then decide (a1 ≤ (↑a0.length : Int)) else false) fun x0 =>
 Let (bif x0 then decide ((↑a2.length : Int) ≤ IntKind.i64.wrap ((↑a0.length : Int) - a1)) else false) fun x1 =>
 Req (x1 = true →
 (0 : Int) ≤ a1 ∧
 a1 ≤ IntKind.i64.wrap (a1 + (↑a2.length : Int)) ∧ IntKind.i64.wrap (a1 + (↑a2.length : Int)) ≤ (↑a0.length : Int))
 (Let (List.drop a1.toNat (List.take (IntKind.i64.wrap (a1 + (↑a2.length : Int))).toNat a0)) fun x2 =>
 Let (bif x1 then x2 == a2 else false) fun x3 =>
 Q (.imm (.bool x3)) []))) : Call E0.P fn_r01_Stands [(.imm (.str a0)), (.imm (.int .i64 a1)), (.imm (.str a2))] [] Q := fun_rule (envN E0 nt_r01_Stands) (okE nt_r01_Stands) 3 42 ac_r01_Stands [.tmp 6] ok_r01_Stands _ _ Q rfl rfl (cast (by kernel_rfl) h)
/-! ### r22_number -/
noncomputable def ac_r22_number : AC := (annot [] [6, 7, 8] (codeOf Tryd.f43) 0).1
abbrev nt_r22_number : Nat := 78
theorem ok_r22_number : FnOK E0.P 43 ac_r22_number.code nt_r22_number [.tmp 6, .tmp 7, .tmp 8] := fn_ok _ _ Tryd.f43 [] [6, 7, 8] _ 78 Tryd.func43 (by kernel_rfl) (by kernel_rfl) (by kernel_rfl) (by kernel_rfl)
theorem F_r22_number_of (a0 : List UInt8) (a1 : Int) (a2 : Int) (Q : AV → Heap → Prop) (h :
 (Req ((0 : Int) ≤ a1 ∧ a1 ≤ (↑a0.length : Int))
 (Let (List.drop a1.toNat a0) fun x0 =>
 Call E0.P fn_r02_Count [(.imm (.str x0))] [] fun r1 g1 =>
 Req (g1 = [] ∧ r1 = .imm (.int .i64 (rI r1)))
 (Let (bif decide (rI r1 = (0 : Int)) then decide (a1 < (↑a0.length : Int)) else false) fun x2 =>
 Br (x2 == false)
 (Req (decide ((1 : Int) < rI r1) = true → (0 : Int) ≤ a1 ∧ a1 < (↑a0.length : Int))
 (Let (bif decide ((1 : Int) < rI r1) then decide ((↑(a0.getD a1.toNat (0 : UInt8)).toNat : Int) = (48 : Int)) else false) fun x3 =>
 Let (x3) fun x4 =>
 Br (x4 == false)
 (Req (decide (IntKind.i64.wrap (a1 + rI r1) < (↑a0.length : Int)) = true →
 (0 : Int) ≤ IntKind.i64.wrap (a1 + rI r1) ∧ IntKind.i64.wrap (a1 + rI r1) < (↑a0.length : Int))
 (Let (bif decide (IntKind.i64.wrap (a1 + rI r1) < (↑a0.length : Int)) then
 !decide ((↑(a0.getD (IntKind.i64.wrap (a1 + rI r1)).toNat (0 : UInt8)).toNat : Int) = a2)
 else false) fun x5 =>
 Let (x5) fun x6 =>
 Br (x6)
 (Q (.tup [(.imm (.int .i64 ((0 : Int)))), (.imm (.int .i64 ((0 : Int)))), (.imm (.int .i64 ((4 : Int))))]) [])
 (Br (decide ((↑a0.length : Int) ≤ IntKind.i64.wrap (a1 + rI r1)))
 (Q (.tup [(.imm (.int .i64 ((0 : Int)))), (.imm (.int .i64 ((0 : Int)))), (.imm (.int .i64 ((5 : Int))))]) [])
 (Req ((0 : Int) ≤ a1 ∧ a1 ≤ IntKind.i64.wrap (a1 + rI r1) ∧ IntKind.i64.wrap (a1 + rI r1) ≤ (↑a0.length : Int))
 (Let (List.drop a1.toNat (List.take (IntKind.i64.wrap (a1 + rI r1)).toNat a0)) fun x7 =>
 Call E0.P fn_r02_Fixed [(.imm (.str x7))] [] fun r8 g8 =>
 Req (g8 = [] ∧
 r8 = .tup [.imm (.int .i64 (rI (rT r8 (0 : Nat)))), .imm (.int .i64 (rI (rT r8 (1 : Nat))))])
 (Let (bif !decide (rI (rT r8 (1 : Nat)) = (0 : Int)) then true else decide ((8388607 : Int) < rI (rT r8 (0 : Nat)))) fun x9 =>
 Br (x9)
 (Q (.tup [(.imm (.int .i64 ((0 : Int)))), (.imm (.int .i64 ((0 : Int)))), (.imm (.int .i64 ((3 : Int))))]) [])
 (Q (.tup [(.imm (.int .i64 (rI (rT r8 (0 : Nat))))), (.imm (.int .i64 (IntKind.i64.wrap (IntKind.i64.wrap (a1 + rI r1) + (1 : Int))))), (.imm (.int .i64 ((0 : Int))))]) [])))))))
 (Req ((!false) = true)
 (Let (true) fun x10 =>
 Br (x10)
 (Q (.tup [(.imm (.int .i64 ((0 : Int)))), (.imm (.int .i64 ((0 : Int)))), (.imm (.int .i64 ((4 : Int))))]) [])
 (Br (decide ((↑a0.length : Int) ≤ IntKind.i64.wrap (a1 + rI r1)))
 (Q (.tup [(.imm (.int .i64 ((0 : Int)))), (.imm (.int .i64 ((0 : Int)))), (.imm (.int .i64 ((5 : Int))))]) [])
 (Req ((0 : Int) ≤ a1 ∧ a1 ≤ IntKind.i64.wrap (a1 + rI r1) ∧ IntKind.i64.wrap (a1 + rI r1) ≤ (↑a0.length : Int))
 (Let (List.drop a1.toNat (List.take (IntKind.i64.wrap (a1 + rI r1)).toNat a0)) fun x11 =>
 Call E0.P fn_r02_Fixed [(.imm (.str x11))] [] fun r12 g12 =>
 Req (g12 = [] ∧
 r12 =
 .tup [.imm (.int .i64 (rI (rT r12 (0 : Nat)))), .imm (.int .i64 (rI (rT r12 (1 : Nat))))])
 (Let (bif !decide (rI (rT r12 (1 : Nat)) = (0 : Int)) then true else decide ((8388607 : Int) < rI (rT r12 (0 : Nat)))) fun x13 =>
 Br (x13)
 (Q (.tup [(.imm (.int .i64 ((0 : Int)))), (.imm (.int .i64 ((0 : Int)))), (.imm (.int .i64 ((3 : Int))))]) [])
 (Q (.tup [(.imm (.int .i64 (rI (rT r12 (0 : Nat))))), (.imm (.int .i64 (IntKind.i64.wrap (IntKind.i64.wrap (a1 + rI r1) + (1 : Int))))), (.imm (.int .i64 ((0 : Int))))]) [])))))))))
 (Req ((!false) = true)
 (Let (true) fun x14 =>
 Br (x14 == false)
 (Req (decide (IntKind.i64.wrap (a1 + rI r1) < (↑a0.length : Int)) = true →
 (0 : Int) ≤ IntKind.i64.wrap (a1 + rI r1) ∧ IntKind.i64.wrap (a1 + rI r1) < (↑a0.length : Int))
 (Let (bif decide (IntKind.i64.wrap (a1 + rI r1) < (↑a0.length : Int)) then
 !decide ((↑(a0.getD (IntKind.i64.wrap (a1 + rI r1)).toNat (0 : UInt8)).toNat : Int) = a2)
 else false) fun x15 =>
 Let (x15) fun x16 =>
 Br (x16)
 (Q (.tup [(.imm (.int .i64 ((0 : Int)))), (.imm (.int .i64 ((0 : Int)))), (.imm (.int .i64 ((4 : Int))))]) [])
 (Br (decide ((↑a0.length : Int) ≤ IntKind.i64.wrap (a1 + rI r1)))
 (Q (.tup [(.imm (.int .i64 ((0 : Int)))), (.imm (.int .i64 ((0 : Int)))), (.imm (.int .i64 ((5 : Int))))]) [])
 (Req ((0 : Int) ≤ a1 ∧ a1 ≤ IntKind.i64.wrap (a1 + rI r1) ∧ IntKind.i64.wrap (a1 + rI r1) ≤ (↑a0.length : Int))
 (Let (List.drop a1.toNat (List.take (IntKind.i64.wrap (a1 + rI r1)).toNat a0)) fun x17 =>
 Call E0.P fn_r02_Fixed [(.imm (.str x17))] [] fun r18 g18 =>
 Req (g18 = [] ∧
 r18 =
 .tup [.imm (.int .i64 (rI (rT r18 (0 : Nat)))), .imm (.int .i64 (rI (rT r18 (1 : Nat))))])
 (Let (bif !decide (rI (rT r18 (1 : Nat)) = (0 : Int)) then true else decide ((8388607 : Int) < rI (rT r18 (0 : Nat)))) fun x19 =>
 Br (x19)
 (Q (.tup [(.imm (.int .i64 ((0 : Int)))), (.imm (.int .i64 ((0 : Int)))), (.imm (.int .i64 ((3 : Int))))]) [])
 (Q (.tup [(.imm (.int .i64 (rI (rT r18 (0 : Nat))))), (.imm (.int .i64 (IntKind.i64.wrap (IntKind.i64.wrap (a1 + rI r1) + (1 : Int))))), (.imm (.int .i64 ((0 : Int))))]) [])))))))
 (Req ((!false) = true)
 (Let (true) fun x20 =>
 Br (x20)
 (Q (.tup [(.imm (.int .i64 ((0 : Int)))), (.imm (.int .i64 ((0 : Int)))), (.imm (.int .i64 ((4 : Int))))]) [])
 (Br (decide ((↑a0.length : Int) ≤ IntKind.i64.wrap (a1 + rI r1)))
 (Q (.tup [(.imm (.int .i64 ((0 : Int)))), (.imm (.int .i64 ((0 : Int)))), (.imm (.int .i64 ((5 : Int))))]) [])
 (Req ((0 : Int) ≤ a1 ∧ a1 ≤ IntKind.i64.wrap (a1 + rI r1) ∧ IntKind.i64.wrap (a1 + rI r1) ≤ (↑a0.length : Int))
 (Let (List.drop a1.toNat (List.take (IntKind.i64.wrap (a1 + rI r1)).toNat a0)) fun x21 =>
 Call E0.P fn_r02_Fixed [(.imm (.str x21))] [] fun r22 g22 =>
 Req (g22 = [] ∧
 r22 =
 .tup [.imm (.int .i64 (rI (rT r22 (0 : Nat)))), .imm (.int .i64 (rI (rT r22 (1 : Nat))))])
 (Let (bif !decide (rI (rT r22 (1 : Nat)) = (0 : Int)) then true else decide ((8388607 : Int) < rI (rT r22 (0 : Nat)))) fun x23 =>
 Br (x23)
 (Q (.tup [(.imm (.int .i64 ((0 : Int)))), (.imm (.int .i64 ((0 : Int)))), (.imm (.int .i64 ((3 : Int))))]) [])
 (Q (.tup [(.imm (.int .i64 (rI (rT r22 (0 : Nat))))), (.imm (.int .i64 (IntKind.i64.wrap (IntKind.i64.wrap (a1 + rI r1) + (1 : Int))))), (.imm (.int .i64 ((0 : Int))))]) []))))))))))))) : Call E0.P fn_r22_number [(.imm (.str a0)), (.imm (.int .i64 a1)), (.imm (.int .u8 a2))] [] Q := fun_rule (envN E0 nt_r22_number) (okE nt_r22_number) 3 43 ac_r22_number [.tmp 6, .tmp 7, .tmp 8] ok_r22_number _ _ Q rfl rfl (cast (by kernel_rfl) h)
/-! ### r22_entry -/
noncomputable def ac_r22_entry : AC := (annot [(3, [0, 2, 4, 5, 60], [0, 2, 4, 5]), (5, [0, 2, 4, 5], []), (8, [2, 4, 5, 8], []), (12, [2, 8, 9, 11], [])] [2, 3] (codeOf Tryd.f44) 0).1
abbrev nt_r22_entry : Nat := 84
def C_r22_entry_3 (t0 : List UInt8) (t4 : List UInt8) (t5 : List UInt8) (t60 : Bool) (h2_1_0 : Int) (h2_1_1 : Int) (h2_1_2 : Int) (K : Ex → St → Prop) : Prop := CutOK 3 E0.P nt_r22_entry (cbodyOf 3 ac_r22_entry).code ⟨[(0, (.imm (.str t0))), (2, (.ptr (Nm.loc (2 : Nat)) 0)), (4, (.imm (.str t4))), (5, (.imm (.str t5))), (60, (.imm (.bool t60)))], [((Nm.loc (2 : Nat)), (.blk ty_api_Entry [(.imm (.int .i64 h2_1_0)), (.imm (.int .i64 h2_1_1)), (.imm (.int .i64 h2_1_2))]))]⟩ K
def C_r22_entry_5 (t0 : List UInt8) (t4 : List UInt8) (t5 : List UInt8) (h2_1_0 : Int) (h2_1_1 : Int) (h2_1_2 : Int) (K : Ex → St → Prop) : Prop := CutOK 5 E0.P nt_r22_entry (cbodyOf 5 ac_r22_entry).code ⟨[(0, (.imm (.str t0))), (2, (.ptr (Nm.loc (2 : Nat)) 0)), (4, (.imm (.str t4))), (5, (.imm (.str t5)))], [((Nm.loc (2 : Nat)), (.blk ty_api_Entry [(.imm (.int .i64 h2_1_0)), (.imm (.int .i64 h2_1_1)), (.imm (.int .i64 h2_1_2))]))]⟩ K
def C_r22_entry_8 (t4 : List UInt8) (t5 : List UInt8) (h2_1_0 : Int) (h2_1_1 : Int) (h2_1_2 : Int) (h8_1_0 : Int) (h8_1_1 : Int) (h8_1_2 : Int) (K : Ex → St → Prop) : Prop := CutOK 8 E0.P nt_r22_entry (cbodyOf 8 ac_r22_entry).code ⟨[(2, (.ptr (Nm.loc (2 : Nat)) 0)), (4, (.imm (.str t4))), (5, (.imm (.str t5))), (8, (.ptr (Nm.loc (8 : Nat)) 0))], [((Nm.loc (2 : Nat)), (.blk ty_api_Entry [(.imm (.int .i64 h2_1_0)), (.imm (.int .i64 h2_1_1)), (.imm (.int .i64 h2_1_2))])), ((Nm.loc (8 : Nat)), (.blk ty_api_Entry [(.imm (.int .i64 h8_1_0)), (.imm (.int .i64 h8_1_1)), (.imm (.int .i64 h8_1_2))]))]⟩ K
def C_r22_entry_12 (t9 : Int) (t11 : Int) (h2_1_0 : Int) (h2_1_1 : Int) (h2_1_2 : Int) (h8_1_0 : Int) (h8_1_1 : Int) (h8_1_2 : Int) (K : Ex → St → Prop) : Prop := CutOK 12 E0.P nt_r22_entry (cbodyOf 12 ac_r22_entry).code ⟨[(2, (.ptr (Nm.loc (2 : Nat)) 0)), (8, (.ptr (Nm.loc (8 : Nat)) 0)), (9, (.imm (.int .i64 t9))), (11, (.imm (.int .i64 t11)))], [((Nm.loc (2 : Nat)), (.blk ty_api_Entry [(.imm (.int .i64 h2_1_0)), (.imm (.int .i64 h2_1_1)), (.imm (.int .i64 h2_1_2))])), ((Nm.loc (8 : Nat)), (.blk ty_api_Entry [(.imm (.int .i64 h8_1_0)), (.imm (.int .i64 h8_1_1)), (.imm (.int .i64 h8_1_2))]))]⟩ K
def K_r22_entry_0 (Q : AV → Heap → Prop) : Ex → St → Prop
 | .normal, st => finish E0.T [.cell 2 51, .tmp 3] [] Q st
 | .exit i, st => False
 | .goto i, st => False
 | .ret, st => finish E0.T [.cell 2 51, .tmp 3] [] Q st
def K_r22_entry_1 (Q : AV → Heap → Prop) : Ex → St → Prop
 | .normal, st => CutOK 5 E0.P nt_r22_entry (cbodyOf 5 ac_r22_entry).code (mask [(0 : Nat), (2 : Nat), (4 : Nat), (5 : Nat)] st) (K_r22_entry_0 Q)
 | .exit i, st => False
 | .goto i, st => False
 | .ret, st => finish E0.T [.cell 2 51, .tmp 3] [] Q st
def K_r22_entry_2 (K : Ex → St → Prop) : Ex → St → Prop
 | .normal, st => K .normal (mask [] st)
 | .exit i, st => K (.exit i) st
 | .goto i, st => K (.goto i) st
 | .ret, st => K .ret st
theorem C_r22_entry_3_of (t0 : List UInt8) (t4 : List UInt8) (t5 : List UInt8) (t60 : Bool) (h2_1_0 : Int) (h2_1_1 : Int) (h2_1_2 : Int) (K : Ex → St → Prop) (h :
 (Br (t60)
 (K .ret ⟨[(2, (.ptr (Nm.loc (2 : Nat)) 0)), (3, (.imm (.int .i64 ((4 : Int)))))], [((Nm.loc (2 : Nat)), (.blk ty_api_Entry [(.imm (.int .i64 ((0 : Int)))), (.imm (.int .i64 ((0 : Int)))), (.imm (.int .i64 ((0 : Int))))]))]⟩)
 (K .normal ⟨[(0, (.imm (.str t0))), (2, (.ptr (Nm.loc (2 : Nat)) 0)), (4, (.imm (.str t4))), (5, (.imm (.str t5)))], [((Nm.loc (2 : Nat)), (.blk ty_api_Entry [(.imm (.int .i64 h2_1_0)), (.imm (.int .i64 h2_1_1)), (.imm (.int .i64 h2_1_2))]))]⟩))) : C_r22_entry_3 t0 t4 t5 t60 h2_1_0 h2_1_1 h2_1_2 K := cut_rule (envN E0 nt_r22_entry) (okE nt_r22_entry) 3 3 (cbodyOf 3 ac_r22_entry) [0, 2, 4, 5] _ K rfl (cast (by kernel_rfl) h)
theorem C_r22_entry_5_of (t0 : List UInt8) (t4 : List UInt8) (t5 : List UInt8) (h2_1_0 : Int) (h2_1_1 : Int) (h2_1_2 : Int) (K : Ex → St → Prop) (h :
 (Req ((0 : Int) ≤ (17 : Int) ∧ (17 : Int) < (↑t0.length : Int))
 (Br (decide ((↑(t0.getD (17 : Nat) (0 : UInt8)).toNat : Int) = (110 : Int)))
 (C_r22_entry_8 t4 t5 h2_1_0 h2_1_1 h2_1_2 ((1 : Int)) ((0 : Int)) ((0 : Int)) (K_r22_entry_2 K))
 (C_r22_entry_8 t4 t5 h2_1_0 h2_1_1 h2_1_2 ((0 : Int)) ((0 : Int)) ((0 : Int)) (K_r22_entry_2 K))))) : C_r22_entry_5 t0 t4 t5 h2_1_0 h2_1_1 h2_1_2 K := cut_rule (envN E0 nt_r22_entry) (okE nt_r22_entry) 3 5 (cbodyOf 5 ac_r22_entry) [] _ K rfl (cast (by kernel_rfl) h)
theorem C_r22_entry_8_of (t4 : List UInt8) (t5 : List UInt8) (h2_1_0 : Int) (h2_1_1 : Int) (h2_1_2 : Int) (h8_1_0 : Int) (h8_1_1 : Int) (h8_1_2 : Int) (K : Ex → St → Prop) (h :
 (Call E0.P fn_r02_Fixed [(.imm (.str t4))] [] fun r0 g0 =>
 Req (g0 = [] ∧
 r0 = .tup [.imm (.int .i64 (rI (rT r0 (0 : Nat)))), .imm (.int .i64 (rI (rT r0 (1 : Nat))))])
 (Call E0.P fn_r02_Fixed [(.imm (.str t5))] [] fun r1 g1 =>
 Req (g1 = [] ∧
 r1 = .tup [.imm (.int .i64 (rI (rT r1 (0 : Nat)))), .imm (.int .i64 (rI (rT r1 (1 : Nat))))])
 (Br (!decide (rI (rT r0 (1 : Nat)) = (0 : Int)))
 (C_r22_entry_12 ((67108865 : Int)) (rI (rT r1 (0 : Nat))) h2_1_0 h2_1_1 h2_1_2 h8_1_0 h8_1_1 h8_1_2 (K_r22_entry_2 K))
 (C_r22_entry_12 (rI (rT r0 (0 : Nat))) (rI (rT r1 (0 : Nat))) h2_1_0 h2_1_1 h2_1_2 h8_1_0 h8_1_1 h8_1_2 (K_r22_entry_2 K)))))) : C_r22_entry_8 t4 t5 h2_1_0 h2_1_1 h2_1_2 h8_1_0 h8_1_1 h8_1_2 K := cut_rule (envN E0 nt_r22_entry) (okE nt_r22_entry) 3 8 (cbodyOf 8 ac_r22_entry) [] _ K rfl (cast (by kernel_rfl) h)
theorem C_r22_entry_12_of (t9 : Int) (t11 : Int) (h2_1_0 : Int) (h2_1_1 : Int) (h2_1_2 : Int) (h8_1_0 : Int) (h8_1_1 : Int) (h8_1_2 : Int) (K : Ex → St → Prop) (h :
 (K .ret ⟨[(2, (.ptr (Nm.loc (2 : Nat)) 0)), (3, (.imm (.int .i64 ((0 : Int)))))], [((Nm.loc (2 : Nat)), (.blk ty_api_Entry [(.imm (.int .i64 h8_1_0)), (.imm (.int .i64 t9)), (.imm (.int .i64 t11))]))]⟩)) : C_r22_entry_12 t9 t11 h2_1_0 h2_1_1 h2_1_2 h8_1_0 h8_1_1 h8_1_2 K := cut_rule (envN E0 nt_r22_entry) (okE nt_r22_entry) 3 12 (cbodyOf 12 ac_r22_entry) [] _ K rfl (cast (by kernel_rfl) h)
theorem K_r22_entry_0_x0 (Q : AV → Heap → Prop) (t3 : Int) (h2_1_0 : Int) (h2_1_1 : Int) (h2_1_2 : Int) (h :
 (Q (.tup [(.imm (.agg [(.int .i64 h2_1_0), (.int .i64 h2_1_1), (.int .i64 h2_1_2)])), (.imm (.int .i64 t3))]) [])) : K_r22_entry_0 Q .ret ⟨[(2, (.ptr (Nm.loc (2 : Nat)) 0)), (3, (.imm (.int .i64 t3)))], [((Nm.loc (2 : Nat)), (.blk ty_api_Entry [(.imm (.int .i64 h2_1_0)), (.imm (.int .i64 h2_1_1)), (.imm (.int .i64 h2_1_2))]))]⟩ := cast (by kernel_rfl) h
theorem K_r22_entry_1_x0 (Q : AV → Heap → Prop) (t3 : Int) (h2_1_0 : Int) (h2_1_1 : Int) (h2_1_2 : Int) (h :
 (Q (.tup [(.imm (.agg [(.int .i64 h2_1_0), (.int .i64 h2_1_1), (.int .i64 h2_1_2)])), (.imm (.int .i64 t3))]) [])) : K_r22_entry_1 Q .ret ⟨[(2, (.ptr (Nm.loc (2 : Nat)) 0)), (3, (.imm (.int .i64 t3)))], [((Nm.loc (2 : Nat)), (.blk ty_api_Entry [(.imm (.int .i64 h2_1_0)), (.imm (.int .i64 h2_1_1)), (.imm (.int .i64 h2_1_2))]))]⟩ := cast (by kernel_rfl) h
theorem K_r22_entry_1_x1 (Q : AV → Heap → Prop) (t0 : List UInt8) (t4 : List UInt8) (t5 : List UInt8) (h2_1_0 : Int) (h2_1_1 : Int) (h2_1_2 : Int) (h :
 (C_r22_entry_5 t0 t4 t5 h2_1_0 h2_1_1 h2_1_2 (K_r22_entry_0 Q))) : K_r22_entry_1 Q .normal ⟨[(0, (.imm (.str t0))), (2, (.ptr (Nm.loc (2 : Nat)) 0)), (4, (.imm (.str t4))), (5, (.imm (.str t5)))], [((Nm.loc (2 : Nat)), (.blk ty_api_Entry [(.imm (.int .i64 h2_1_0)), (.imm (.int .i64 h2_1_1)), (.imm (.int .i64 h2_1_2))]))]⟩ := cast (by kernel_rfl) h
theorem K_r22_entry_2_x0 (K : Ex → St → Prop) (t3 : Int) (h2_1_0 : Int) (h2_1_1 : Int) (h2_1_2 : Int) (h :
 (K .ret ⟨[(2, (.ptr (Nm.loc (2 : Nat)) 0)), (3, (.imm (.int .i64 t3)))], [((Nm.loc (2 : Nat)), (.blk ty_api_Entry [(.imm (.int .i64 h2_1_0)), (.imm (.int .i64 h2_1_1)), (.imm (.int .i64 h2_1_2))]))]⟩)) : K_r22_entry_2 K .ret ⟨[(2, (.ptr (Nm.loc (2 : Nat)) 0)), (3, (.imm (.int .i64 t3)))], [((Nm.loc (2 : Nat)), (.blk ty_api_Entry [(.imm (.int .i64 h2_1_0)), (.imm (.int .i64 h2_1_1)), (.imm (.int .i64 h2_1_2))]))]⟩ := cast (by kernel_rfl) h
theorem ok_r22_entry : FnOK E0.P 44 ac_r22_entry.code nt_r22_entry [.cell 2 51, .tmp 3] := fn_ok _ _ Tryd.f44 [(3, [0, 2, 4, 5, 60], [0, 2, 4, 5]), (5, [0, 2, 4, 5], []), (8, [2, 4, 5, 8], []), (12, [2, 8, 9, 11], [])] [2, 3] _ 84 Tryd.func44 (by kernel_rfl) (by kernel_rfl) (by kernel_rfl) (by kernel_rfl)
theorem F_r22_entry_of (a0 : List UInt8) (Q : AV → Heap → Prop) (h :
 (Req ((0 : Int) ≤ (10 : Int) ∧ (10 : Int) ≤ (↑a0.length : Int))
 (Let (List.take (10 : Nat) a0) fun x0 =>
 Req ((0 : Int) ≤ (11 : Int) ∧ (11 : Int) ≤ (16 : Int) ∧ (16 : Int) ≤ (↑a0.length : Int))
 (Let (List.drop (11 : Nat) (List.take (16 : Nat) a0)) fun x1 =>
 Req ((0 : Int) ≤ (18 : Int) ∧ (18 : Int) ≤ (↑a0.length : Int))
 (Let (List.drop (18 : Nat) a0) fun x2 =>
 Req ((0 : Int) ≤ (10 : Int) ∧ (10 : Int) < (↑a0.length : Int))
 (Req (decide ((↑(a0.getD (10 : Nat) (0 : UInt8)).toNat : Int) = (32 : Int)) = true →
 (0 : Int) ≤ (16 : Int) ∧ (16 : Int) < (↑a0.length : Int))
 (Let (bif decide ((↑(a0.getD (10 : Nat) (0 : UInt8)).toNat : Int) = (32 : Int)) then
 decide ((↑(a0.getD (16 : Nat) (0 : UInt8)).toNat : Int) = (32 : Int))
 else false) fun x3 =>
 Req (x3 = true → (0 : Int) ≤ (17 : Int) ∧ (17 : Int) < (↑a0.length : Int))
 (Br (x3 == true)
 (Req (decide ((↑(a0.getD (17 : Nat) (0 : UInt8)).toNat : Int) = (110 : Int)) = false →
 (0 : Int) ≤ (17 : Int) ∧ (17 : Int) < (↑a0.length : Int))
 (Let (bif decide ((↑(a0.getD (17 : Nat) (0 : UInt8)).toNat : Int) = (110 : Int)) then true
 else decide ((↑(a0.getD (17 : Nat) (0 : UInt8)).toNat : Int) = (102 : Int))) fun x4 =>
 Let (x4) fun x5 =>
 Br (x5 == true)
 (Let (bif x2 == [(32 : UInt8), (10 : UInt8)] then true else x2 == [(32 : UInt8), (13 : UInt8)]) fun x6 =>
 Let (bif x6 then true else x2 == [(13 : UInt8), (10 : UInt8)]) fun x7 =>
 Let (x7) fun x8 =>
 Br ((!x8) == false)
 (Call E0.P fn_r02_Count [(.imm (.str x0))] [] fun r9 g9 =>
 Req (g9 = [] ∧ r9 = .imm (.int .i64 (rI r9)))
 (Let (!decide (rI r9 = (10 : Int))) fun x10 =>
 Br (x10 == false)
 (Call E0.P fn_r02_Count [(.imm (.str x1))] [] fun r11 g11 =>
 Req (g11 = [] ∧ r11 = .imm (.int .i64 (rI r11)))
 (Let (!decide (rI r11 = (5 : Int))) fun x12 =>
 C_r22_entry_3 a0 x0 x1 x12 ((0 : Int)) ((0 : Int)) ((0 : Int)) (K_r22_entry_1 Q)))
 (Req ((!false) = true)
 (Let (true) fun x13 =>
 C_r22_entry_3 a0 x0 x1 x13 ((0 : Int)) ((0 : Int)) ((0 : Int)) (K_r22_entry_1 Q)))))
 (Req ((!false) = true)
 (Let (true) fun x14 =>
 Br (x14 == false)
 (Call E0.P fn_r02_Count [(.imm (.str x1))] [] fun r15 g15 =>
 Req (g15 = [] ∧ r15 = .imm (.int .i64 (rI r15)))
 (Let (!decide (rI r15 = (5 : Int))) fun x16 =>
 C_r22_entry_3 a0 x0 x1 x16 ((0 : Int)) ((0 : Int)) ((0 : Int)) (K_r22_entry_1 Q)))
 (Req ((!false) = true)
 (Let (true) fun x17 =>
 C_r22_entry_3 a0 x0 x1 x17 ((0 : Int)) ((0 : Int)) ((0 : Int)) (K_r22_entry_1 Q))))))
 (Req ((!true) = false)
 (Let (false) fun x18 =>
 Br ((!x18) == false)
 (Call E0.P fn_r02_Count [(.imm (.str x0))] [] fun r19 g19 =>
 Req (g19 = [] ∧ r19 = .imm (.int .i64 (rI r19)))
 (Let (!decide (rI r19 = (10 : Int))) fun x20 =>
 Br (x20 == false)
 (Call E0.P fn_r02_Count [(.imm (.str x1))] [] fun r21 g21 =>
 Req (g21 = [] ∧ r21 = .imm (.int .i64 (rI r21)))
 (Let (!decide (rI r21 = (5 : Int))) fun x22 =>
 C_r22_entry_3 a0 x0 x1 x22 ((0 : Int)) ((0 : Int)) ((0 : Int)) (K_r22_entry_1 Q)))
 (Req ((!false) = true)
 (Let (true) fun x23 =>
 C_r22_entry_3 a0 x0 x1 x23 ((0 : Int)) ((0 : Int)) ((0 : Int)) (K_r22_entry_1 Q)))))
 (Req ((!false) = true)
 (Let (true) fun x24 =>
 Br (x24 == false)
 (Call E0.P fn_r02_Count [(.imm (.str x1))] [] fun r25 g25 =>
 Req (g25 = [] ∧ r25 = .imm (.int .i64 (rI r25)))
 (Let (!decide (rI r25 = (5 : Int))) fun x26 =>
 C_r22_entry_3 a0 x0 x1 x26 ((0 : Int)) ((0 : Int)) ((0 : Int)) (K_r22_entry_1 Q)))
 (Req ((!false) = true)
 (Let (true) fun x27 =>
 C_r22_entry_3 a0 x0 x1 x27 ((0 : Int)) ((0 : Int)) ((0 : Int)) (K_r22_entry_1 Q)))))))))
 (Req ((!true) = false)
 (Let (false) fun x28 =>
 Br (x28 == true)
 (Let (bif x2 == [(32 : UInt8), (10 : UInt8)] then true else x2 == [(32 : UInt8), (13 : UInt8)]) fun x29 =>
 Let (bif x29 then true else x2 == [(13 : UInt8), (10 : UInt8)]) fun x30 =>
 Let (x30) fun x31 =>
 Br ((!x31) == false)
 (Call E0.P fn_r02_Count [(.imm (.str x0))] [] fun r32 g32 =>
 Req (g32 = [] ∧ r32 = .imm (.int .i64 (rI r32)))
 (Let (!decide (rI r32 = (10 : Int))) fun x33 =>
 Br (x33 == false)
 (Call E0.P fn_r02_Count [(.imm (.str x1))] [] fun r34 g34 =>
 Req (g34 = [] ∧ r34 = .imm (.int .i64 (rI r34)))
 (Let (!decide (rI r34 = (5 : Int))) fun x35 =>
 C_r22_entry_3 a0 x0 x1 x35 ((0 : Int)) ((0 : Int)) ((0 : Int)) (K_r22_entry_1 Q)))
 (Req ((!false) = true)
 (Let (true) fun x36 =>
 C_r22_entry_3 a0 x0 x1 x36 ((0 : Int)) ((0 : Int)) ((0 : Int)) (K_r22_entry_1 Q)))))
 (Req ((!false) = true)
 (Let (true) fun x37 =>
 Br (x37 == false)
 (Call E0.P fn_r02_Count [(.imm (.str x1))] [] fun r38 g38 =>
 Req (g38 = [] ∧ r38 = .imm (.int .i64 (rI r38)))
 (Let (!decide (rI r38 = (5 : Int))) fun x39 =>
 C_r22_entry_3 a0 x0 x1 x39 ((0 : Int)) ((0 : Int)) ((0 : Int)) (K_r22_entry_1 Q)))
 (Req ((!false) = true)
 (Let (true) fun x40 =>
 C_r22_entry_3 a0 x0 x1 x40 ((0 : Int)) ((0 : Int)) ((0 : Int)) (K_r22_entry_1 Q))))))
 (Req ((!true) = false)
 (Let (false) fun x41 =>
 Br ((!x41) == false)
 (Call E0.P fn_r02_Count [(.imm (.str x0))] [] fun r42 g42 =>
 Req (g42 = [] ∧ r42 = .imm (.int .i64 (rI r42)))
 (Let (!decide (rI r42 = (10 : Int))) fun x43 =>
 Br (x43 == false)
 (Call E0.P fn_r02_Count [(.imm (.str x1))] [] fun r44 g44 =>
 Req (g44 = [] ∧ r44 = .imm (.int .i64 (rI r44)))
 (Let (!decide (rI r44 = (5 : Int))) fun x45 =>
 C_r22_entry_3 a0 x0 x1 x45 ((0 : Int)) ((0 : Int)) ((0 : Int)) (K_r22_entry_1 Q)))
 (Req ((!false) = true)
 (Let (true) fun x46 =>
 C_r22_entry_3 a0 x0 x1 x46 ((0 : Int)) ((0 : Int)) ((0 : Int)) (K_r22_entry_1 Q)))))
 (Req ((!false) = true)
 (Let (true) fun x47 =>
 Br (x47 == false)
 (Call E0.P fn_r02_Count [(.imm (.str x1))] [] fun r48 g48 =>
 Req (g48 = [] ∧ r48 = .imm (.int .i64 (rI r48)))
 (Let (!decide (rI r48 = (5 : Int))) fun x49 =>
 C_r22_entry_3 a0 x0 x1 x49 ((0 : Int)) ((0 : Int)) ((0 : Int)) (K_r22_entry_1 Q)))
 (Req ((!false) = true)
 (Let (true) fun x50 =>
 C_r22_entry_3 a0 x0 x1 x50 ((0 : Int)) ((0 : Int)) ((0 : Int)) (K_r22_entry_1 Q))))))))))))))))) : Call E0.P fn_r22_entry [(.imm (.str a0))] [] Q := fun_rule (envN E0 nt_r22_entry) (okE nt_r22_entry) 3 44 ac_r22_entry [.cell 2 51, .tmp 3] ok_r22_entry _ _ Q rfl rfl (cast (by kernel_rfl) h)
/-! ### digits_signed -/
noncomputable def ac_digits_signed : AC := (annot [(1, [0, 14], [0]), (3, [0], [])] [4, 5] (codeOf Tryd.f47) 0).1
abbrev nt_digits_signed : Nat := 21
def C_digits_signed_1 (t0 : List UInt8) (t14 : Bool) (K : Ex → St → Prop) : Prop := CutOK 1 E0.P nt_digits_signed (cbodyOf 1 ac_digits_signed).code ⟨[(0, (.imm (.str t0))), (14, (.imm (.bool t14)))], []⟩ K
def C_digits_signed_3 (t0 : List UInt8) (K : Ex → St → Prop) : Prop := CutOK 3 E0.P nt_digits_signed (cbodyOf 3 ac_digits_signed).code ⟨[(0, (.imm (.str t0)))], []⟩ K
def K_digits_signed_0 (Q : AV → Heap → Prop) : Ex → St → Prop
 | .normal, st => finish E0.T [.tmp 4, .tmp 5] [] Q st
 | .exit i, st => False
 | .goto i, st => False
 | .ret, st => finish E0.T [.tmp 4, .tmp 5] [] Q st
def K_digits_signed_1 (Q : AV → Heap → Prop) : Ex → St → Prop
 | .normal, st => CutOK 3 E0.P nt_digits_signed (cbodyOf 3 ac_digits_signed).code (mask [(0 : Nat)] st) (K_digits_signed_0 Q)
 | .exit i, st => False
 | .goto i, st => False
 | .ret, st => finish E0.T [.tmp 4, .tmp 5] [] Q st
theorem C_digits_signed_1_of (t0 : List UInt8) (t14 : Bool) (K : Ex → St → Prop) (h :
 (Br (t14)
 (K .ret ⟨[(4, (.imm (.bool false))), (5, (.imm (.str t0)))], []⟩)
 (K .normal ⟨[(0, (.imm (.str t0)))], []⟩))) : C_digits_signed_1 t0 t14 K := cut_rule (envN E0 nt_digits_signed) (okE nt_digits_signed) 3 1 (cbodyOf 1 ac_digits_signed) [0] _ K rfl (cast (by kernel_rfl) h)
theorem C_digits_signed_3_of (t0 : List UInt8) (K : Ex → St → Prop) (h :
 (Req ((0 : Int) ≤ (0 : Int) ∧ (0 : Int) < (↑t0.length : Int))
 (Req ((0 : Int) ≤ (1 : Int) ∧ (1 : Int) ≤ (↑t0.length : Int))
 (Let (List.drop (1 : Nat) t0) fun x0 =>
 K .ret ⟨[(4, (.imm (.bool (decide ((↑(t0.getD (0 : Nat) (0 : UInt8)).toNat : Int) = (45 : Int)))))), (5, (.imm (.str x0)))], []⟩)))) : C_digits_signed_3 t0 K := cut_rule (envN E0 nt_digits_signed) (okE nt_digits_signed) 3 3 (cbodyOf 3 ac_digits_signed) [] _ K rfl (cast (by kernel_rfl) h)
theorem K_digits_signed_0_x0 (Q : AV → Heap → Prop) (t4 : Bool) (t5 : List UInt8) (h :
 (Q (.tup [(.imm (.bool t4)), (.imm (.str t5))]) [])) : K_digits_signed_0 Q .ret ⟨[(4, (.imm (.bool t4))), (5, (.imm (.str t5)))], []⟩ := cast (by kernel_rfl) h
theorem K_digits_signed_1_x0 (Q : AV → Heap → Prop) (t4 : Bool) (t5 : List UInt8) (h :
 (Q (.tup [(.imm (.bool t4)), (.imm (.str t5))]) [])) : K_digits_signed_1 Q .ret ⟨[(4, (.imm (.bool t4))), (5, (.imm (.str t5)))], []⟩ := cast (by kernel_rfl) h
theorem K_digits_signed_1_x1 (Q : AV → Heap → Prop) (t0 : List UInt8) (h :
 (C_digits_signed_3 t0 (K_digits_signed_0 Q))) : K_digits_signed_1 Q .normal ⟨[(0, (.imm (.str t0)))], []⟩ := cast (by kernel_rfl) h
theorem ok_digits_signed : FnOK E0.P 47 ac_digits_signed.code nt_digits_signed [.tmp 4, .tmp 5] := fn_ok _ _ Tryd.f47 [(1, [0, 14], [0]), (3, [0], [])] [4, 5] _ 21 Tryd.func47 (by kernel_rfl) (by kernel_rfl) (by kernel_rfl) (by kernel_rfl)
theorem F_digits_signed_of (a0 : List UInt8) (a1 : List UInt8) (Q : AV → Heap → Prop) (h :
 (Req ((a0 == []) = false → (0 : Int) ≤ (1 : Int) ∧ (1 : Int) ≤ (↑a0.length : Int))
 (Let (List.take (1 : Nat) a0) fun x0 =>
 Br ((a0 == []) == false)
 (Call E0.P fn_strings_Contains [(.imm (.str a1)), (.imm (.str x0))] [] fun r1 g1 =>
 Req (g1 = [] ∧ r1 = .imm (.bool (rB r1)))
 (Let (!rB r1) fun x2 =>
 C_digits_signed_1 a0 x2 (K_digits_signed_1 Q)))
 (Req ((!false) = true)
 (Let (true) fun x3 =>
 C_digits_signed_1 a0 x3 (K_digits_signed_1 Q)))))) : Call E0.P fn_digits_signed [(.imm (.str a0)), (.imm (.str a1))] [] Q := fun_rule (envN E0 nt_digits_signed) (okE nt_digits_signed) 3 47 ac_digits_signed [.tmp 4, .tmp 5] ok_digits_signed _ _ Q rfl rfl (cast (by kernel_rfl) h)
/-! ### digits_held -/
noncomputable def ac_digits_held : AC := (annot [] [2] (codeOf Tryd.f49) 0).1
abbrev nt_digits_held : Nat := 9
theorem ok_digits_held : FnOK E0.P 49 ac_digits_held.code nt_digits_held [.tmp 2] := fn_ok _ _ Tryd.f49 [] [2] _ 9 Tryd.func49 (by kernel_rfl) (by kernel_rfl) (by kernel_rfl) (by kernel_rfl)
theorem F_digits_held_of (a0 : Int) (Q : AV → Heap → Prop) (h :
 (Let (bif decide ((-2147483647 : Int) ≤ a0) then decide (a0 ≤ (2147483647 : Int)) else false) fun x0 =>
 Q (.imm (.bool x0)) [])) : Call E0.P fn_digits_held [(.imm (.int .i64 a0))] [] Q := fun_rule (envN E0 nt_digits_held) (okE nt_digits_held) 3 49 ac_digits_held [.tmp 2] ok_digits_held _ _ Q rfl rfl (cast (by kernel_rfl) h)
/-! ### r02_whole -/
noncomputable def ac_r02_whole : AC := (annot [(3, [0, 4], []), (6, [0, 4, 5], [])] [2, 3] (codeOf Tryd.f50) 0).1
abbrev nt_r02_whole : Nat := 27
def C_r02_whole_3 (t0 : List UInt8) (t4 : List UInt8) (K : Ex → St → Prop) : Prop := CutOK 3 E0.P nt_r02_whole (cbodyOf 3 ac_r02_whole).code ⟨[(0, (.imm (.str t0))), (4, (.imm (.str t4)))], []⟩ K
def C_r02_whole_6 (t0 : List UInt8) (t4 : List UInt8) (t5 : List UInt8) (K : Ex → St → Prop) : Prop := CutOK 6 E0.P nt_r02_whole (cbodyOf 6 ac_r02_whole).code ⟨[(0, (.imm (.str t0))), (4, (.imm (.str t4))), (5, (.imm (.str t5)))], []⟩ K
def K_r02_whole_0 (Q : AV → Heap → Prop) : Ex → St → Prop
 | .normal, st => finish E0.T [.tmp 2, .tmp 3] [] Q st
 | .exit i, st => False
 | .goto i, st => False
 | .ret, st => finish E0.T [.tmp 2, .tmp 3] [] Q st
def K_r02_whole_1 (K : Ex → St → Prop) : Ex → St → Prop
 | .normal, st => K .normal (mask [] st)
 | .exit i, st => K (.exit i) st
 | .goto i, st => K (.goto i) st
 | .ret, st => K .ret st
theorem C_r02_whole_3_of (t0 : List UInt8) (t4 : List UInt8) (K : Ex → St → Prop) (h :
 (Req ((0 : Int) ≤ (0 : Int) ∧ (0 : Int) < (↑t0.length : Int))
 (Br (decide ((↑(t0.getD (0 : Nat) (0 : UInt8)).toNat : Int) = (45 : Int)))
 (C_r02_whole_6 t0 t4 [(57 : UInt8), (50 : UInt8), (50 : UInt8), (51 : UInt8), (51 : UInt8), (55 : UInt8), (50 : UInt8), (48 : UInt8),
 (51 : UInt8), (54 : UInt8), (56 : UInt8), (53 : UInt8), (52 : UInt8), (55 : UInt8), (55 : UInt8), (53 : UInt8),
 (56 : UInt8), (48 : UInt8), (56 : UInt8)] (K_r02_whole_1 K))
 (C_r02_whole_6 t0 t4 [(57 : UInt8), (50 : UInt8), (50 : UInt8), (51 : UInt8), (51 : UInt8), (55 : UInt8), (50 : UInt8), (48 : UInt8),
 (51 : UInt8), (54 : UInt8), (56 : UInt8), (53 : UInt8), (52 : UInt8), (55 : UInt8), (55 : UInt8), (53 : UInt8),
 (56 : UInt8), (48 : UInt8), (55 : UInt8)] (K_r02_whole_1 K))))) : C_r02_whole_3 t0 t4 K := cut_rule (envN E0 nt_r02_whole) (okE nt_r02_whole) 3 3 (cbodyOf 3 ac_r02_whole) [] _ K rfl (cast (by kernel_rfl) h)
theorem C_r02_whole_6_of (t0 : List UInt8) (t4 : List UInt8) (t5 : List UInt8) (K : Ex → St → Prop) (h :
 (Let (bif decide ((↑t4.length : Int) = (19 : Int)) then !(Op.bytesLess t4 t5 || t4 == t5) else false) fun x0 =>
 Br (x0)
 (K .ret ⟨[(2, (.imm (.int .i64 ((0 : Int))))), (3, (.imm (.int .i64 ((4 : Int)))))], []⟩)
 (Call E0.P fn_r02_Loose [(.imm (.str t0))] [] fun r1 g1 =>
 Req (g1 = [] ∧
 r1 = .tup [.imm (.int .i64 (rI (rT r1 (0 : Nat)))), .imm (.int .i64 (rI (rT r1 (1 : Nat))))])
 (K .ret ⟨[(2, (.imm (.int .i64 (rI (rT r1 (0 : Nat)))))), (3, (.imm (.int .i64 (rI (rT r1 (1 : Nat))))))], []⟩)))) : C_r02_whole_6 t0 t4 t5 K := cut_rule (envN E0 nt_r02_whole) (okE nt_r02_whole) 3 6 (cbodyOf 6 ac_r02_whole) [] _ K rfl (cast (by kernel_rfl) h)
theorem K_r02_whole_0_x0 (Q : AV → Heap → Prop) (t2 : Int) (t3 : Int) (h :
 (Q (.tup [(.imm (.int .i64 t2)), (.imm (.int .i64 t3))]) [])) : K_r02_whole_0 Q .ret ⟨[(2, (.imm (.int .i64 t2))), (3, (.imm (.int .i64 t3)))], []⟩ := cast (by kernel_rfl) h
theorem K_r02_whole_1_x0 (K : Ex → St → Prop) (t2 : Int) (t3 : Int) (h :
 (K .ret ⟨[(2, (.imm (.int .i64 t2))), (3, (.imm (.int .i64 t3)))], []⟩)) : K_r02_whole_1 K .ret ⟨[(2, (.imm (.int .i64 t2))), (3, (.imm (.int .i64 t3)))], []⟩ := cast (by kernel_rfl) h
theorem ok_r02_whole : FnOK E0.P 50 ac_r02_whole.code nt_r02_whole [.tmp 2, .tmp 3] := fn_ok _ _ Tryd.f50 [(3, [0, 4], []), (6, [0, 4, 5], [])] [2, 3] _ 27 Tryd.func50 (by kernel_rfl) (by kernel_rfl) (by kernel_rfl) (by kernel_rfl)
theorem F_r02_whole_of (a0 : List UInt8) (Q : AV → Heap → Prop) (h :
 (Req ((0 : Int) ≤ (0 : Int) ∧ (0 : Int) < (↑a0.length : Int))
 (Br (decide ((↑(a0.getD (0 : Nat) (0 : UInt8)).toNat : Int) = (45 : Int)))
 (Req ((0 : Int) ≤ (1 : Int) ∧ (1 : Int) ≤ (↑a0.length : Int))
 (Let (List.drop (1 : Nat) a0) fun x0 =>
 C_r02_whole_3 a0 x0 (K_r02_whole_0 Q)))
 (C_r02_whole_3 a0 a0 (K_r02_whole_0 Q))))) : Call E0.P fn_r02_whole [(.imm (.str a0))] [] Q := fun_rule (envN E0 nt_r02_whole) (okE nt_r02_whole) 3 50 ac_r02_whole [.tmp 2, .tmp 3] ok_r02_whole _ _ Q rfl rfl (cast (by kernel_rfl) h)
/-! ### digits_digit -/
noncomputable def ac_digits_digit : AC := (annot [] [2] (codeOf Tryd.f51) 0).1
abbrev nt_digits_digit : Nat := 9
theorem ok_digits_digit : FnOK E0.P 51 ac_digits_digit.code nt_digits_digit [.tmp 2] := fn_ok _ _ Tryd.f51 [] [2] _ 9 Tryd.func51 (by kernel_rfl) (by kernel_rfl) (by kernel_rfl) (by kernel_rfl)
theorem F_digits_digit_of (a0 : Int) (Q : AV → Heap → Prop) (h :
 (Let (bif decide ((48 : Int) ≤ a0) then decide (a0 ≤ (57 : Int)) else false) fun x0 =>
 Q (.imm (.bool x0)) [])) : Call E0.P fn_digits_digit [(.imm (.int .i32 a0))] [] Q := fun_rule (envN E0 nt_digits_digit) (okE nt_digits_digit) 3 51 ac_digits_digit [.tmp 2] ok_digits_digit _ _ Q rfl rfl (cast (by kernel_rfl) h)
/-! ### section_reader_number -/
noncomputable def ac_section_reader_number : AC := (annot [] [4, 5] (codeOf Tryd.f56) 0).1
abbrev nt_section_reader_number : Nat := 63
theorem ok_section_reader_number : FnOK E0.P 56 ac_section_reader_number.code nt_section_reader_number [.tmp 4, .tmp 5] := fn_ok _ _ Tryd.f56 [] [4, 5] _ 63 Tryd.func56 (by kernel_rfl) (by kernel_rfl) (by kernel_rfl) (by kernel_rfl)
theorem F_section_reader_number_of (s : List UInt8) (at_ : Int) (a1 : Int) (Q : AV → Heap → Prop) (h :
 (Req ((0 : Int) ≤ at_ ∧ at_ ≤ (↑s.length : Int))
 (Let (List.drop at_.toNat s) fun x0 =>
 Call E0.P fn_digits_Count [(.imm (.str x0))] [] fun r1 g1 =>
 Req (g1 = [] ∧ r1 = .imm (.int .i64 (rI r1)))
 (Br (x0 == [])
 (Q (.tup [(.imm (.int .i64 ((0 : Int)))), (.imm (.int .i64 ((5 : Int))))]) [((Nm.arg (0 : Nat)), (.blk ty_section_reader [(.imm (.str s)), (.imm (.int .i64 at_))]))])
 (Br (decide (rI r1 = (0 : Int)) == false)
 (Req (decide ((1 : Int) < rI r1) = true → (0 : Int) ≤ (0 : Int) ∧ (0 : Int) < (↑x0.length : Int))
 (Let (bif decide ((1 : Int) < rI r1) then decide ((↑(x0.getD (0 : Nat) (0 : UInt8)).toNat : Int) = (48 : Int)) else false) fun x2 =>
 Let (x2) fun x3 =>
 Br (x3)
 (Q (.tup [(.imm (.int .i64 ((0 : Int)))), (.imm (.int .i64 ((4 : Int))))]) [((Nm.arg (0 : Nat)), (.blk ty_section_reader [(.imm (.str s)), (.imm (.int .i64 at_))]))])
 (Br (decide (rI r1 = (↑x0.length : Int)))
 (Q (.tup [(.imm (.int .i64 ((0 : Int)))), (.imm (.int .i64 ((5 : Int))))]) [((Nm.arg (0 : Nat)), (.blk ty_section_reader [(.imm (.str s)), (.imm (.int .i64 at_))]))])
 (Req ((0 : Int) ≤ rI r1 ∧ rI r1 < (↑x0.length : Int))
 (Br (!decide ((↑(x0.getD (rI r1).toNat (0 : UInt8)).toNat : Int) = a1))
 (Q (.tup [(.imm (.int .i64 ((0 : Int)))), (.imm (.int .i64 ((4 : Int))))]) [((Nm.arg (0 : Nat)), (.blk ty_section_reader [(.imm (.str s)), (.imm (.int .i64 at_))]))])
 (Req ((0 : Int) ≤ rI r1 ∧ rI r1 ≤ (↑x0.length : Int))
 (Let (List.take (rI r1).toNat x0) fun x4 =>
 Call E0.P fn_digits_Fixed [(.imm (.str x4))] [] fun r5 g5 =>
 Req (g5 = [] ∧
 r5 = .tup [.imm (.int .i64 (rI (rT r5 (0 : Nat)))), .imm (.int .i64 (rI (rT r5 (1 : Nat))))])
 (Let (bif !decide (rI (rT r5 (1 : Nat)) = (0 : Int)) then true else decide ((8388607 : Int) < rI (rT r5 (0 : Nat)))) fun x6 =>
 Br (x6)
 (Q (.tup [(.imm (.int .i64 ((0 : Int)))), (.imm (.int .i64 ((3 : Int))))]) [((Nm.arg (0 : Nat)), (.blk ty_section_reader [(.imm (.str s)), (.imm (.int .i64 (IntKind.i64.wrap (at_ + IntKind.i64.wrap (rI r1 + (1 : Int))))))]))])
 (Q (.tup [(.imm (.int .i64 (rI (rT r5 (0 : Nat))))), (.imm (.int .i64 ((0 : Int))))]) [((Nm.arg (0 : Nat)), (.blk ty_section_reader [(.imm (.str s)), (.imm (.int .i64 (IntKind.i64.wrap (at_ + IntKind.i64.wrap (rI r1 + (1 : Int))))))]))])))))))))
 (Req ((!false) = true)
 (Let (true) fun x7 =>
 Br (x7)
 (Q (.tup [(.imm (.int .i64 ((0 : Int)))), (.imm (.int .i64 ((4 : Int))))]) [((Nm.arg (0 : Nat)), (.blk ty_section_reader [(.imm (.str s)), (.imm (.int .i64 at_))]))])
 (Br (decide (rI r1 = (↑x0.length : Int)))
 (Q (.tup [(.imm (.int .i64 ((0 : Int)))), (.imm (.int .i64 ((5 : Int))))]) [((Nm.arg (0 : Nat)), (.blk ty_section_reader [(.imm (.str s)), (.imm (.int .i64 at_))]))])
 (Req ((0 : Int) ≤ rI r1 ∧ rI r1 < (↑x0.length : Int))
 (Br (!decide ((↑(x0.getD (rI r1).toNat (0 : UInt8)).toNat : Int) = a1))
 (Q (.tup [(.imm (.int .i64 ((0 : Int)))), (.imm (.int .i64 ((4 : Int))))]) [((Nm.arg (0 : Nat)), (.blk ty_section_reader [(.imm (.str s)), (.imm (.int .i64 at_))]))])
 (Req ((0 : Int) ≤ rI r1 ∧ rI r1 ≤ (↑x0.length : Int))
 (Let (List.take (rI r1).toNat x0) fun x8 =>
 Call E0.P fn_digits_Fixed [(.imm (.str x8))] [] fun r9 g9 =>
 Req (g9 = [] ∧
 r9 = .tup [.imm (.int .i64 (rI (rT r9 (0 : Nat)))), .imm (.int .i64 (rI (rT r9 (1 : Nat))))])
 (Let (bif !decide (rI (rT r9 (1 : Nat)) = (0 : Int)) then true else decide ((8388607 : Int) < rI (rT r9 (0 : Nat)))) fun x10 =>
 Br (x10)
 (Q (.tup [(.imm (.int .i64 ((0 : Int)))), (.imm (.int .i64 ((3 : Int))))]) [((Nm.arg (0 : Nat)), (.blk ty_section_reader [(.imm (.str s)), (.imm (.int .i64 (IntKind.i64.wrap (at_ + IntKind.i64.wrap (rI r1 + (1 : Int))))))]))])
 (Q (.tup [(.imm (.int .i64 (rI (rT r9 (0 : Nat))))), (.imm (.int .i64 ((0 : Int))))]) [((Nm.arg (0 : Nat)), (.blk ty_section_reader [(.imm (.str s)), (.imm (.int .i64 (IntKind.i64.wrap (at_ + IntKind.i64.wrap (rI r1 + (1 : Int))))))]))])))))))))))))) : Call E0.P fn_section_reader_number [(.ptr (.arg 0) 0), (.imm (.int .u8 a1))] [(.arg 0, .blk ty_section_reader [.imm (.str s), .imm (.int .i64 at_)])] Q := fun_rule (envN E0 nt_section_reader_number) (okE nt_section_reader_number) 3 56 ac_section_reader_number [.tmp 4, .tmp 5] ok_section_reader_number _ _ Q rfl rfl (cast (by kernel_rfl) h)
/-! ### section_reader_entry -/
noncomputable def ac_section_reader_entry : AC := (annot [(2, [0, 2, 4, 58], [0, 2, 4]), (4, [0, 2, 4], []), (8, [2, 4, 5], []), (12, [2, 9], [])] [2, 3] (codeOf Tryd.f57) 0).1
abbrev nt_section_reader_entry : Nat := 89
def C_section_reader_entry_2 (t4 : List UInt8) (t58 : Bool) (h0_1_0 : List UInt8) (h0_1_1 : Int) (h2_1_0 : Int) (h2_1_1 : Int) (h2_1_2 : Int) (K : Ex → St → Prop) : Prop := CutOK 2 E0.P nt_section_reader_entry (cbodyOf 2 ac_section_reader_entry).code ⟨[(0, (.ptr (Nm.arg (0 : Nat)) 0)), (2, (.ptr (Nm.loc (2 : Nat)) 0)), (4, (.imm (.str t4))), (58, (.imm (.bool t58)))], [((Nm.arg (0 : Nat)), (.blk ty_section_reader [(.imm (.str h0_1_0)), (.imm (.int .i64 h0_1_1))])), ((Nm.loc (2 : Nat)), (.blk ty_api_Entry [(.imm (.int .i64 h2_1_0)), (.imm (.int .i64 h2_1_1)), (.imm (.int .i64 h2_1_2))]))]⟩ K
def C_section_reader_entry_4 (t4 : List UInt8) (h0_1_0 : List UInt8) (h0_1_1 : Int) (h2_1_0 : Int) (h2_1_1 : Int) (h2_1_2 : Int) (K : Ex → St → Prop) : Prop := CutOK 4 E0.P nt_section_reader_entry (cbodyOf 4 ac_section_reader_entry).code ⟨[(0, (.ptr (Nm.arg (0 : Nat)) 0)), (2, (.ptr (Nm.loc (2 : Nat)) 0)), (4, (.imm (.str t4)))], [((Nm.arg (0 : Nat)), (.blk ty_section_reader [(.imm (.str h0_1_0)), (.imm (.int .i64 h0_1_1))])), ((Nm.loc (2 : Nat)), (.blk ty_api_Entry [(.imm (.int .i64 h2_1_0)), (.imm (.int .i64 h2_1_1)), (.imm (.int .i64 h2_1_2))]))]⟩ K
def C_section_reader_entry_8 (t4 : List UInt8) (t5 : Int) (h2_1_0 : Int) (h2_1_1 : Int) (h2_1_2 : Int) (h0_1_0 : List UInt8) (h0_1_1 : Int) (K : Ex → St → Prop) : Prop := CutOK 8 E0.P nt_section_reader_entry (cbodyOf 8 ac_section_reader_entry).code ⟨[(2, (.ptr (Nm.loc (2 : Nat)) 0)), (4, (.imm (.str t4))), (5, (.imm (.int .i64 t5)))], [((Nm.loc (2 : Nat)), (.blk ty_api_Entry [(.imm (.int .i64 h2_1_0)), (.imm (.int .i64 h2_1_1)), (.imm (.int .i64 h2_1_2))])), ((Nm.arg (0 : Nat)), (.blk ty_section_reader [(.imm (.str h0_1_0)), (.imm (.int .i64 h0_1_1))]))]⟩ K
def C_section_reader_entry_12 (h2_1_0 : Int) (h2_1_1 : Int) (h2_1_2 : Int) (h9_1_0 : Int) (h9_1_1 : Int) (h9_1_2 : Int) (h0_1_0 : List UInt8) (h0_1_1 : Int) (K : Ex → St → Prop) : Prop := CutOK 12 E0.P nt_section_reader_entry (cbodyOf 12 ac_section_reader_entry).code ⟨[(2, (.ptr (Nm.loc (2 : Nat)) 0)), (9, (.ptr (Nm.loc (9 : Nat)) 0))], [((Nm.loc (2 : Nat)), (.blk ty_api_Entry [(.imm (.int .i64 h2_1_0)), (.imm (.int .i64 h2_1_1)), (.imm (.int .i64 h2_1_2))])), ((Nm.loc (9 : Nat)), (.blk ty_api_Entry [(.imm (.int .i64 h9_1_0)), (.imm (.int .i64 h9_1_1)), (.imm (.int .i64 h9_1_2))])), ((Nm.arg (0 : Nat)), (.blk ty_section_reader [(.imm (.str h0_1_0)), (.imm (.int .i64 h0_1_1))]))]⟩ K
def K_section_reader_entry_0 (s : List UInt8) (at_ : Int) (Q : AV → Heap → Prop) : Ex → St → Prop
 | .normal, st => finish E0.T [.cell 2 51, .tmp 3] [((Nm.arg (0 : Nat)), (.blk ty_section_reader [(.imm (.str s)), (.imm (.int .i64 at_))]))] Q st
 | .exit i, st => False
 | .goto i, st => False
 | .ret, st => finish E0.T [.cell 2 51, .tmp 3] [((Nm.arg (0 : Nat)), (.blk ty_section_reader [(.imm (.str s)), (.imm (.int .i64 at_))]))] Q st
def K_section_reader_entry_1 (s : List UInt8) (at_ : Int) (Q : AV → Heap → Prop) : Ex → St → Prop
 | .normal, st => CutOK 4 E0.P nt_section_reader_entry (cbodyOf 4 ac_section_reader_entry).code (mask [(0 : Nat), (2 : Nat), (4 : Nat)] st) (K_section_reader_entry_0 s at_ Q)
 | .exit i, st => False
 | .goto i, st => False
 | .ret, st => finish E0.T [.cell 2 51, .tmp 3] [((Nm.arg (0 : Nat)), (.blk ty_section_reader [(.imm (.str s)), (.imm (.int .i64 at_))]))] Q st
def K_section_reader_entry_2 (K : Ex → St → Prop) : Ex → St → Prop
 | .normal, st => K .normal (mask [] st)
 | .exit i, st => K (.exit i) st
 | .goto i, st => K (.goto i) st
 | .ret, st => K .ret st
theorem C_section_reader_entry_2_of (t4 : List UInt8) (t58 : Bool) (h0_1_0 : List UInt8) (h0_1_1 : Int) (h2_1_0 : Int) (h2_1_1 : Int) (h2_1_2 : Int) (K : Ex → St → Prop) (h :
 (Br (t58)
 (K .ret ⟨[(2, (.ptr (Nm.loc (2 : Nat)) 0)), (3, (.imm (.int .i64 ((4 : Int)))))], [((Nm.loc (2 : Nat)), (.blk ty_api_Entry [(.imm (.int .i64 ((0 : Int)))), (.imm (.int .i64 ((0 : Int)))), (.imm (.int .i64 ((0 : Int))))])), ((Nm.arg (0 : Nat)), (.blk ty_section_reader [(.imm (.str h0_1_0)), (.imm (.int .i64 h0_1_1))]))]⟩)
 (K .normal ⟨[(0, (.ptr (Nm.arg (0 : Nat)) 0)), (2, (.ptr (Nm.loc (2 : Nat)) 0)), (4, (.imm (.str t4)))], [((Nm.arg (0 : Nat)), (.blk ty_section_reader [(.imm (.str h0_1_0)), (.imm (.int .i64 h0_1_1))])), ((Nm.loc (2 : Nat)), (.blk ty_api_Entry [(.imm (.int .i64 h2_1_0)), (.imm (.int .i64 h2_1_1)), (.imm (.int .i64 h2_1_2))]))]⟩))) : C_section_reader_entry_2 t4 t58 h0_1_0 h0_1_1 h2_1_0 h2_1_1 h2_1_2 K := cut_rule (envN E0 nt_section_reader_entry) (okE nt_section_reader_entry) 3 2 (cbodyOf 2 ac_section_reader_entry) [0, 2, 4] _ K rfl (cast (by kernel_rfl) h)
theorem C_section_reader_entry_4_of (t4 : List UInt8) (h0_1_0 : List UInt8) (h0_1_1 : Int) (h2_1_0 : Int) (h2_1_1 : Int) (h2_1_2 : Int) (K : Ex → St → Prop) (h :
 (Req ((0 : Int) ≤ (10 : Int) ∧ (10 : Int) ≤ (↑t4.length : Int))
 (Let (List.take (10 : Nat) t4) fun x0 =>
 Call E0.P fn_digits_Fixed [(.imm (.str x0))] [] fun r1 g1 =>
 Req (g1 = [] ∧
 r1 = .tup [.imm (.int .i64 (rI (rT r1 (0 : Nat)))), .imm (.int .i64 (rI (rT r1 (1 : Nat))))])
 (Br (!decide (rI (rT r1 (1 : Nat)) = (0 : Int)))
 (C_section_reader_entry_8 t4 ((2147483647 : Int)) h2_1_0 h2_1_1 h2_1_2 h0_1_0 (IntKind.i64.wrap (h0_1_1 + (20 : Int))) (K_section_reader_entry_2 K))
 (C_section_reader_entry_8 t4 (rI (rT r1 (0 : Nat))) h2_1_0 h2_1_1 h2_1_2 h0_1_0 (IntKind.i64.wrap (h0_1_1 + (20 : Int))) (K_section_reader_entry_2 K)))))) : C_section_reader_entry_4 t4 h0_1_0 h0_1_1 h2_1_0 h2_1_1 h2_1_2 K := cut_rule (envN E0 nt_section_reader_entry) (okE nt_section_reader_entry) 3 4 (cbodyOf 4 ac_section_reader_entry) [] _ K rfl (cast (by kernel_rfl) h)
theorem C_section_reader_entry_8_of (t4 : List UInt8) (t5 : Int) (h2_1_0 : Int) (h2_1_1 : Int) (h2_1_2 : Int) (h0_1_0 : List UInt8) (h0_1_1 : Int) (K : Ex → St → Prop) (h :
 (Req ((0 : Int) ≤ (11 : Int) ∧ (11 : Int) ≤ (16 : Int) ∧ (16 : Int) ≤ (↑t4.length : Int))
 (Let (List.drop (11 : Nat) (List.take (16 : Nat) t4)) fun x0 =>
 Call E0.P fn_digits_Fixed [(.imm (.str x0))] [] fun r1 g1 =>
 Req (g1 = [] ∧
 r1 = .tup [.imm (.int .i64 (rI (rT r1 (0 : Nat)))), .imm (.int .i64 (rI (rT r1 (1 : Nat))))])
 (Req ((0 : Int) ≤ (17 : Int) ∧ (17 : Int) < (↑t4.length : Int))
 (Br (decide ((↑(t4.getD (17 : Nat) (0 : UInt8)).toNat : Int) = (110 : Int)))
 (C_section_reader_entry_12 h2_1_0 h2_1_1 h2_1_2 ((1 : Int)) t5 (rI (rT r1 (0 : Nat))) h0_1_0 h0_1_1 (K_section_reader_entry_2 K))
 (C_section_reader_entry_12 h2_1_0 h2_1_1 h2_1_2 ((0 : Int)) t5 (rI (rT r1 (0 : Nat))) h0_1_0 h0_1_1 (K_section_reader_entry_2 K))))))) : C_section_reader_entry_8 t4 t5 h2_1_0 h2_1_1 h2_1_2 h0_1_0 h0_1_1 K := cut_rule (envN E0 nt_section_reader_entry) (okE nt_section_reader_entry) 3 8 (cbodyOf 8 ac_section_reader_entry) [] _ K rfl (cast (by kernel_rfl) h)
theorem C_section_reader_entry_12_of (h2_1_0 : Int) (h2_1_1 : Int) (h2_1_2 : Int) (h9_1_0 : Int) (h9_1_1 : Int) (h9_1_2 : Int) (h0_1_0 : List UInt8) (h0_1_1 : Int) (K : Ex → St → Prop) (h :
 (K .ret ⟨[(2, (.ptr (Nm.loc (2 : Nat)) 0)), (3, (.imm (.int .i64 ((0 : Int)))))], [((Nm.loc (2 : Nat)), (.blk ty_api_Entry [(.imm (.int .i64 h9_1_0)), (.imm (.int .i64 h9_1_1)), (.imm (.int .i64 h9_1_2))])), ((Nm.arg (0 : Nat)), (.blk ty_section_reader [(.imm (.str h0_1_0)), (.imm (.int .i64 h0_1_1))]))]⟩)) : C_section_reader_entry_12 h2_1_0 h2_1_1 h2_1_2 h9_1_0 h9_1_1 h9_1_2 h0_1_0 h0_1_1 K := cut_rule (envN E0 nt_section_reader_entry) (okE nt_section_reader_entry) 3 12 (cbodyOf 12 ac_section_reader_entry) [] _ K rfl (cast (by kernel_rfl) h)
theorem K_section_reader_entry_0_x0 (s : List UInt8) (at_ : Int) (Q : AV → Heap → Prop) (t3 : Int) (h2_1_0 : Int) (h2_1_1 : Int) (h2_1_2 : Int) (h0_1_0 : List UInt8) (h0_1_1 : Int) (h :
 (Q (.tup [(.imm (.agg [(.int .i64 h2_1_0), (.int .i64 h2_1_1), (.int .i64 h2_1_2)])), (.imm (.int .i64 t3))]) [((Nm.arg (0 : Nat)), (.blk ty_section_reader [(.imm (.str h0_1_0)), (.imm (.int .i64 h0_1_1))]))])) : K_section_reader_entry_0 s at_ Q .ret ⟨[(2, (.ptr (Nm.loc (2 : Nat)) 0)), (3, (.imm (.int .i64 t3)))], [((Nm.loc (2 : Nat)), (.blk ty_api_Entry [(.imm (.int .i64 h2_1_0)), (.imm (.int .i64 h2_1_1)), (.imm (.int .i64 h2_1_2))])), ((Nm.arg (0 : Nat)), (.blk ty_section_reader [(.imm (.str h0_1_0)), (.imm (.int .i64 h0_1_1))]))]⟩ := cast (by kernel_rfl) h
theorem K_section_reader_entry_1_x0 (s : List UInt8) (at_ : Int) (Q : AV → Heap → Prop) (t3 : Int) (h2_1_0 : Int) (h2_1_1 : Int) (h2_1_2 : Int) (h0_1_0 : List UInt8) (h0_1_1 : Int) (h :
 (Q (.tup [(.imm (.agg [(.int .i64 h2_1_0), (.int .i64 h2_1_1), (.int .i64 h2_1_2)])), (.imm (.int .i64 t3))]) [((Nm.arg (0 : Nat)), (.blk ty_section_reader [(.imm (.str h0_1_0)), (.imm (.int .i64 h0_1_1))]))])) : K_section_reader_entry_1 s at_ Q .ret ⟨[(2, (.ptr (Nm.loc (2 : Nat)) 0)), (3, (.imm (.int .i64 t3)))], [((Nm.loc (2 : Nat)), (.blk ty_api_Entry [(.imm (.int .i64 h2_1_0)), (.imm (.int .i64 h2_1_1)), (.imm (.int .i64 h2_1_2))])), ((Nm.arg (0 : Nat)), (.blk ty_section_reader [(.imm (.str h0_1_0)), (.imm (.int .i64 h0_1_1))]))]⟩ := cast (by kernel_rfl) h
theorem K_section_reader_entry_1_x1 (s : List UInt8) (at_ : Int) (Q : AV → Heap → Prop) (t4 : List UInt8) (h0_1_0 : List UInt8) (h0_1_1 : Int) (h2_1_0 : Int) (h2_1_1 : Int) (h2_1_2 : Int) (h :
 (C_section_reader_entry_4 t4 h0_1_0 h0_1_1 h2_1_0 h2_1_1 h2_1_2 (K_section_reader_entry_0 s at_ Q))) : K_section_reader_entry_1 s at_ Q .normal ⟨[(0, (.ptr (Nm.arg (0 : Nat)) 0)), (2, (.ptr (Nm.loc (2 : Nat)) 0)), (4, (.imm (.str t4)))], [((Nm.arg (0 : Nat)), (.blk ty_section_reader [(.imm (.str h0_1_0)), (.imm (.int .i64 h0_1_1))])), ((Nm.loc (2 : Nat)), (.blk ty_api_Entry [(.imm (.int .i64 h2_1_0)), (.imm (.int .i64 h2_1_1)), (.imm (.int .i64 h2_1_2))]))]⟩ := cast (by kernel_rfl) h
theorem K_section_reader_entry_2_x0 (K : Ex → St → Prop) (t3 : Int) (h2_1_0 : Int) (h2_1_1 : Int) (h2_1_2 : Int) (h0_1_0 : List UInt8) (h0_1_1 : Int) (h :
 (K .ret ⟨[(2, (.ptr (Nm.loc (2 : Nat)) 0)), (3, (.imm (.int .i64 t3)))], [((Nm.loc (2 : Nat)), (.blk ty_api_Entry [(.imm (.int .i64 h2_1_0)), (.imm (.int .i64 h2_1_1)), (.imm (.int .i64 h2_1_2))])), ((Nm.arg (0 : Nat)), (.blk ty_section_reader [(.imm (.str h0_1_0)), (.imm (.int .i64 h0_1_1))]))]⟩)) : K_section_reader_entry_2 K .ret ⟨[(2, (.ptr (Nm.loc (2 : Nat)) 0)), (3, (.imm (.int .i64 t3)))], [((Nm.loc (2 : Nat)), (.blk ty_api_Entry [(.imm (.int .i64 h2_1_0)), (.imm (.int .i64 h2_1_1)), (.imm (.int .i64 h2_1_2))])), ((Nm.arg (0 : Nat)), (.blk ty_section_reader [(.imm (.str h0_1_0)), (.imm (.int .i64 h0_1_1))]))]⟩ := cast (by kernel_rfl) h
theorem ok_section_reader_entry : FnOK E0.P 57 ac_section_reader_entry.code nt_section_reader_entry [.cell 2 51, .tmp 3] := fn_ok _ _ Tryd.f57 [(2, [0, 2, 4, 58], [0, 2, 4]), (4, [0, 2, 4], []), (8, [2, 4, 5], []), (12, [2, 9], [])] [2, 3] _ 89 Tryd.func57 (by kernel_rfl) (by kernel_rfl) (by kernel_rfl) (by kernel_rfl)
theorem F_section_reader_entry_of (s : List UInt8) (at_ : Int) (Q : AV → Heap → Prop) (h :
 (Req ((0 : Int) ≤ at_ ∧ at_ ≤ IntKind.i64.wrap (at_ + (20 : Int)) ∧ IntKind.i64.wrap (at_ + (20 : Int)) ≤ (↑s.length : Int))
 (Let (List.drop at_.toNat (List.take (IntKind.i64.wrap (at_ + (20 : Int))).toNat s)) fun x0 =>
 Call E0.P fn_digits_Count [(.imm (.str x0))] [] fun r1 g1 =>
 Req (g1 = [] ∧ r1 = .imm (.int .i64 (rI r1)))
 (Req ((!decide (rI r1 = (10 : Int))) = false → (0 : Int) ≤ (10 : Int) ∧ (10 : Int) < (↑x0.length : Int))
 (Let (bif !decide (rI r1 = (10 : Int)) then true else !decide ((↑(x0.getD (10 : Nat) (0 : UInt8)).toNat : Int) = (32 : Int))) fun x2 =>
 Req (x2 = false → (0 : Int) ≤ (11 : Int) ∧ (11 : Int) ≤ (↑x0.length : Int))
 (Let (List.drop (11 : Nat) x0) fun x3 =>
 Br (x2 == false)
 (Call E0.P fn_digits_Count [(.imm (.str x3))] [] fun r4 g4 =>
 Req (g4 = [] ∧ r4 = .imm (.int .i64 (rI r4)))
 (Let (!decide (rI r4 = (5 : Int))) fun x5 =>
 Req (x5 = false → (0 : Int) ≤ (16 : Int) ∧ (16 : Int) < (↑x0.length : Int))
 (Let (bif x5 then true else !decide ((↑(x0.getD (16 : Nat) (0 : UInt8)).toNat : Int) = (32 : Int))) fun x6 =>
 Req (x6 = false → (0 : Int) ≤ (17 : Int) ∧ (17 : Int) < (↑x0.length : Int))
 (Br (x6 == false)
 (Req ((!decide ((↑(x0.getD (17 : Nat) (0 : UInt8)).toNat : Int) = (110 : Int))) = true →
 (0 : Int) ≤ (17 : Int) ∧ (17 : Int) < (↑x0.length : Int))
 (Let (bif !decide ((↑(x0.getD (17 : Nat) (0 : UInt8)).toNat : Int) = (110 : Int)) then
 !decide ((↑(x0.getD (17 : Nat) (0 : UInt8)).toNat : Int) = (102 : Int))
 else false) fun x7 =>
 Let (x7) fun x8 =>
 Req (x8 = false → (0 : Int) ≤ (18 : Int) ∧ (18 : Int) ≤ (↑x0.length : Int))
 (Let (List.drop (18 : Nat) x0) fun x9 =>
 Br (x8 == false)
 (Call E0.P fn_section_ended [(.imm (.str x9))] [] fun r10 g10 =>
 Req (g10 = [] ∧ r10 = .imm (.bool (rB r10)))
 (Let (!rB r10) fun x11 =>
 C_section_reader_entry_2 x0 x11 s at_ ((0 : Int)) ((0 : Int)) ((0 : Int)) (K_section_reader_entry_1 s at_ Q)))
 (Req ((!false) = true)
 (Let (true) fun x12 =>
 C_section_reader_entry_2 x0 x12 s at_ ((0 : Int)) ((0 : Int)) ((0 : Int)) (K_section_reader_entry_1 s at_ Q))))))
 (Req ((!false) = true)
 (Let (true) fun x13 =>
 Req (x13 = false → (0 : Int) ≤ (18 : Int) ∧ (18 : Int) ≤ (↑x0.length : Int))
 (Let (List.drop (18 : Nat) x0) fun x14 =>
 Br (x13 == false)
 (Call E0.P fn_section_ended [(.imm (.str x14))] [] fun r15 g15 =>
 Req (g15 = [] ∧ r15 = .imm (.bool (rB r15)))
 (Let (!rB r15) fun x16 =>
 C_section_reader_entry_2 x0 x16 s at_ ((0 : Int)) ((0 : Int)) ((0 : Int)) (K_section_reader_entry_1 s at_ Q)))
 (Req ((!false) = true)
 (Let (true) fun x17 =>
 C_section_reader_entry_2 x0 x17 s at_ ((0 : Int)) ((0 : Int)) ((0 : Int)) (K_section_reader_entry_1 s at_ Q))))))))))
 (Req ((!false) = true)
 (Let (true) fun x18 =>
 Req (x18 = false → (0 : Int) ≤ (16 : Int) ∧ (16 : Int) < (↑x0.length : Int))
 (Let (bif x18 then true else !decide ((↑(x0.getD (16 : Nat) (0 : UInt8)).toNat : Int) = (32 : Int))) fun x19 =>
 Req (x19 = false → (0 : Int) ≤ (17 : Int) ∧ (17 : Int) < (↑x0.length : Int))
 (Br (x19 == false)
 (Req ((!decide ((↑(x0.getD (17 : Nat) (0 : UInt8)).toNat : Int) = (110 : Int))) = true →
 (0 : Int) ≤ (17 : Int) ∧ (17 : Int) < (↑x0.length : Int))
 (Let (bif !decide ((↑(x0.getD (17 : Nat) (0 : UInt8)).toNat : Int) = (110 : Int)) then
 !decide ((↑(x0.getD (17 : Nat) (0 : UInt8)).toNat : Int) = (102 : Int))
 else false) fun x20 =>
 Let (x20) fun x21 =>
 Req (x21 = false → (0 : Int) ≤ (18 : Int) ∧ (18 : Int) ≤ (↑x0.length : Int))
 (Let (List.drop (18 : Nat) x0) fun x22 =>
 Br (x21 == false)
 (Call E0.P fn_section_ended [(.imm (.str x22))] [] fun r23 g23 =>
 Req (g23 = [] ∧ r23 = .imm (.bool (rB r23)))
 (Let (!rB r23) fun x24 =>
 C_section_reader_entry_2 x0 x24 s at_ ((0 : Int)) ((0 : Int)) ((0 : Int)) (K_section_reader_entry_1 s at_ Q)))
 (Req ((!false) = true)
 (Let (true) fun x25 =>
 C_section_reader_entry_2 x0 x25 s at_ ((0 : Int)) ((0 : Int)) ((0 : Int)) (K_section_reader_entry_1 s at_ Q))))))
 (Req ((!false) = true)
 (Let (true) fun x26 =>
 Req (x26 = false → (0 : Int) ≤ (18 : Int) ∧ (18 : Int) ≤ (↑x0.length : Int))
 (Let (List.drop (18 : Nat) x0) fun x27 =>
 Br (x26 == false)
 (Call E0.P fn_section_ended [(.imm (.str x27))] [] fun r28 g28 =>
 Req (g28 = [] ∧ r28 = .imm (.bool (rB r28)))
 (Let (!rB r28) fun x29 =>
 C_section_reader_entry_2 x0 x29 s at_ ((0 : Int)) ((0 : Int)) ((0 : Int)) (K_section_reader_entry_1 s at_ Q)))
 (Req ((!false) = true)
 (Let (true) fun x30 =>
 C_section_reader_entry_2 x0 x30 s at_ ((0 : Int)) ((0 : Int)) ((0 : Int)) (K_section_reader_entry_1 s at_ Q)))))))))))))))) : Call E0.P fn_section_reader_entry [(.ptr (.arg 0) 0)] [(.arg 0, .blk ty_section_reader [.imm (.str s), .imm (.int .i64 at_)])] Q := fun_rule (envN E0 nt_section_reader_entry) (okE nt_section_reader_entry) 3 57 ac_section_reader_entry [.cell 2 51, .tmp 3] ok_section_reader_entry _ _ Q rfl rfl (cast (by kernel_rfl) h)
/-! ### section_ended -/
noncomputable def ac_section_ended : AC := (annot [] [2] (codeOf Tryd.f68) 0).1
abbrev nt_section_ended : Nat := 13
theorem ok_section_ended : FnOK E0.P 68 ac_section_ended.code nt_section_ended [.tmp 2] := fn_ok _ _ Tryd.f68 [] [2] _ 13 Tryd.func68 (by kernel_rfl) (by kernel_rfl) (by kernel_rfl) (by kernel_rfl)
theorem F_section_ended_of (a0 : List UInt8) (Q : AV → Heap → Prop) (h :
 (Let (bif a0 == [(32 : UInt8), (10 : UInt8)] then true else a0 == [(32 : UInt8), (13 : UInt8)]) fun x0 =>
 Let (bif x0 then true else a0 == [(13 : UInt8), (10 : UInt8)]) fun x1 =>
 Q (.imm (.bool x1)) [])) : Call E0.P fn_section_ended [(.imm (.str a0))] [] Q := fun_rule (envN E0 nt_section_ended) (okE nt_section_ended) 3 68 ac_section_ended [.tmp 2] ok_section_ended _ _ Q rfl rfl (cast (by kernel_rfl) h)
end
end Go.Proofs.Sim.Se

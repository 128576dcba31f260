/- Printed by a program of mine (Gen): per Go function its normal form, held by the kernel. -/
import Derived.Test.YtkdjpnfpmpchnaaDoorSeatBase
set_option linter.unusedVariables false
set_option maxRecDepth 100000
namespace Go.Proofs.Sim.Se
open Go Go.Proofs Go.Proofs.Sim
noncomputable section
/-! ### l02_DigitsPuts -/
noncomputable def ac_l02_DigitsPuts : AC := (annot [] [4] (codeOf Tryd.f6) 0).1
abbrev nt_l02_DigitsPuts : Nat := 39
theorem ok_l02_DigitsPuts : FnOK E0.P 6 ac_l02_DigitsPuts.code nt_l02_DigitsPuts [.tmp 4] := fn_ok _ _ Tryd.f6 [] [4] _ 39 Tryd.func6 (by kernel_rfl) (by kernel_rfl) (by kernel_rfl) (by kernel_rfl)
theorem F_l02_DigitsPuts_of (a0 : Int) (a1 : Int) (Q : AV → Heap → Prop) (h :
 (Call E0.P fn_digits_Pad [(.imm (.int .i64 a0)), (.imm (.int .i64 a1))] [] fun r0 g0 =>
 Req (g0 = [] ∧ r0 = .tup [.imm (.str (rS (rT r0 (0 : Nat)))), .imm (.int .i64 (rI (rT r0 (1 : Nat))))])
 (Call E0.P fn_r02_Pad [(.imm (.int .i64 a0)), (.imm (.int .i64 a1))] [] fun r1 g1 =>
 Req (g1 = [] ∧ r1 = .tup [.imm (.str (rS (rT r1 (0 : Nat)))), .imm (.int .i64 (rI (rT r1 (1 : Nat))))])
 (Call E0.P fn_digits_Put [(.imm (.int .i64 a0))] [] fun r2 g2 =>
 Req (g2 = [] ∧ r2 = .imm (.str (rS r2)))
 (Call E0.P fn_r02_Put [(.imm (.int .i64 a0))] [] fun r3 g3 =>
 Req (g3 = [] ∧ r3 = .imm (.str (rS r3)))
 (Let (bif rS r2 == rS r3 then rS (rT r0 (0 : Nat)) == rS (rT r1 (0 : Nat)) else false) fun x4 =>
 Let (bif x4 then decide (rI (rT r0 (1 : Nat)) = rI (rT r1 (1 : Nat))) else false) fun x5 =>
 Br (x5 == true)
 (Call E0.P fn_l02_numbers [] [] fun r6 g6 =>
 Req (g6 = [] ∧ r6 = .imm (.bool (rB r6)))
 (Let (rB r6) fun x7 =>
 Q (.imm (.bool x7)) []))
 (Req ((!true) = false)
 (Let (false) fun x8 =>
 Q (.imm (.bool x8)) [])))))))) : Call E0.P fn_l02_DigitsPuts [(.imm (.int .i64 a0)), (.imm (.int .i64 a1))] [] Q := fun_rule (envN E0 nt_l02_DigitsPuts) (okE nt_l02_DigitsPuts) 3 6 ac_l02_DigitsPuts [.tmp 4] ok_l02_DigitsPuts _ _ Q rfl rfl (cast (by kernel_rfl) h)
/-! ### l02_DigitsReads -/
noncomputable def ac_l02_DigitsReads : AC := (annot [] [2] (codeOf Tryd.f7) 0).1
abbrev nt_l02_DigitsReads : Nat := 63
theorem ok_l02_DigitsReads : FnOK E0.P 7 ac_l02_DigitsReads.code nt_l02_DigitsReads [.tmp 2] := fn_ok _ _ Tryd.f7 [] [2] _ 63 Tryd.func7 (by kernel_rfl) (by kernel_rfl) (by kernel_rfl) (by kernel_rfl)
theorem F_l02_DigitsReads_of (a0 : List UInt8) (Q : AV → Heap → Prop) (h :
 (Br (decide ((2000 : Int) < (↑a0.length : Int)))
 (Call E0.P fn_l02_numbers [] [] fun r0 g0 =>
 Req (g0 = [] ∧ r0 = .imm (.bool (rB r0)))
 (Q (.imm (.bool (rB r0))) []))
 (Call E0.P fn_digits_Read [(.imm (.str a0))] [] fun r1 g1 =>
 Req (g1 = [] ∧
 r1 = .tup [.imm (.int .i64 (rI (rT r1 (0 : Nat)))), .imm (.int .i64 (rI (rT r1 (1 : Nat))))])
 (Call E0.P fn_r02_Read [(.imm (.str a0))] [] fun r2 g2 =>
 Req (g2 = [] ∧
 r2 = .tup [.imm (.int .i64 (rI (rT r2 (0 : Nat)))), .imm (.int .i64 (rI (rT r2 (1 : Nat))))])
 (Call E0.P fn_digits_Loose [(.imm (.str a0))] [] fun r3 g3 =>
 Req (g3 = [] ∧
 r3 = .tup [.imm (.int .i64 (rI (rT r3 (0 : Nat)))), .imm (.int .i64 (rI (rT r3 (1 : Nat))))])
 (Call E0.P fn_r02_Loose [(.imm (.str a0))] [] fun r4 g4 =>
 Req (g4 = [] ∧
 r4 = .tup [.imm (.int .i64 (rI (rT r4 (0 : Nat)))), .imm (.int .i64 (rI (rT r4 (1 : Nat))))])
 (Let (bif decide (rI (rT r1 (0 : Nat)) = rI (rT r2 (0 : Nat))) then decide (rI (rT r1 (1 : Nat)) = rI (rT r2 (1 : Nat)))
 else false) fun x5 =>
 Let (bif x5 then decide (rI (rT r3 (0 : Nat)) = rI (rT r4 (0 : Nat))) else false) fun x6 =>
 Let (bif x6 then decide (rI (rT r3 (1 : Nat)) = rI (rT r4 (1 : Nat))) else false) fun x7 =>
 Br (x7 == true)
 (Call E0.P fn_digits_Count [(.imm (.str a0))] [] fun r8 g8 =>
 Req (g8 = [] ∧ r8 = .imm (.int .i64 (rI r8)))
 (Call E0.P fn_r02_Count [(.imm (.str a0))] [] fun r9 g9 =>
 Req (g9 = [] ∧ r9 = .imm (.int .i64 (rI r9)))
 (Let (decide (rI r8 = rI r9)) fun x10 =>
 Br (x10 == true)
 (Call E0.P fn_l02_numbers [] [] fun r11 g11 =>
 Req (g11 = [] ∧ r11 = .imm (.bool (rB r11)))
 (Let (rB r11) fun x12 =>
 Q (.imm (.bool x12)) []))
 (Req ((!true) = false)
 (Let (false) fun x13 =>
 Q (.imm (.bool x13)) [])))))
 (Req ((!true) = false)
 (Let (false) fun x14 =>
 Br (x14 == true)
 (Call E0.P fn_l02_numbers [] [] fun r15 g15 =>
 Req (g15 = [] ∧ r15 = .imm (.bool (rB r15)))
 (Let (rB r15) fun x16 =>
 Q (.imm (.bool x16)) []))
 (Req ((!true) = false)
 (Let (false) fun x17 =>
 Q (.imm (.bool x17)) []))))))))))) : Call E0.P fn_l02_DigitsReads [(.imm (.str a0))] [] Q := fun_rule (envN E0 nt_l02_DigitsReads) (okE nt_l02_DigitsReads) 3 7 ac_l02_DigitsReads [.tmp 2] ok_l02_DigitsReads _ _ Q rfl rfl (cast (by kernel_rfl) h)
/-! ### l02_DigitsFixes -/
noncomputable def ac_l02_DigitsFixes : AC := (annot [] [2] (codeOf Tryd.f8) 0).1
abbrev nt_l02_DigitsFixes : Nat := 32
theorem ok_l02_DigitsFixes : FnOK E0.P 8 ac_l02_DigitsFixes.code nt_l02_DigitsFixes [.tmp 2] := fn_ok _ _ Tryd.f8 [] [2] _ 32 Tryd.func8 (by kernel_rfl) (by kernel_rfl) (by kernel_rfl) (by kernel_rfl)
theorem F_l02_DigitsFixes_of (a0 : List UInt8) (Q : AV → Heap → Prop) (h :
 (Br (decide ((2000 : Int) < (↑a0.length : Int)))
 (Call E0.P fn_l02_numbers [] [] fun r0 g0 =>
 Req (g0 = [] ∧ r0 = .imm (.bool (rB r0)))
 (Q (.imm (.bool (rB r0))) []))
 (Call E0.P fn_digits_Fixed [(.imm (.str a0))] [] fun r1 g1 =>
 Req (g1 = [] ∧
 r1 = .tup [.imm (.int .i64 (rI (rT r1 (0 : Nat)))), .imm (.int .i64 (rI (rT r1 (1 : Nat))))])
 (Call E0.P fn_r02_Fixed [(.imm (.str a0))] [] fun r2 g2 =>
 Req (g2 = [] ∧
 r2 = .tup [.imm (.int .i64 (rI (rT r2 (0 : Nat)))), .imm (.int .i64 (rI (rT r2 (1 : Nat))))])
 (Let (bif decide (rI (rT r1 (0 : Nat)) = rI (rT r2 (0 : Nat))) then decide (rI (rT r1 (1 : Nat)) = rI (rT r2 (1 : Nat)))
 else false) fun x3 =>
 Br (x3 == true)
 (Call E0.P fn_l02_numbers [] [] fun r4 g4 =>
 Req (g4 = [] ∧ r4 = .imm (.bool (rB r4)))
 (Let (rB r4) fun x5 =>
 Q (.imm (.bool x5)) []))
 (Req ((!true) = false)
 (Let (false) fun x6 =>
 Q (.imm (.bool x6)) []))))))) : Call E0.P fn_l02_DigitsFixes [(.imm (.str a0))] [] Q := fun_rule (envN E0 nt_l02_DigitsFixes) (okE nt_l02_DigitsFixes) 3 8 ac_l02_DigitsFixes [.tmp 2] ok_l02_DigitsFixes _ _ Q rfl rfl (cast (by kernel_rfl) h)
/-! ### l02_DigitsBack -/
noncomputable def ac_l02_DigitsBack : AC := (annot [] [4] (codeOf Tryd.f9) 0).1
abbrev nt_l02_DigitsBack : Nat := 110
theorem ok_l02_DigitsBack : FnOK E0.P 9 ac_l02_DigitsBack.code nt_l02_DigitsBack [.tmp 4] := fn_ok _ _ Tryd.f9 [] [4] _ 110 Tryd.func9 (by kernel_rfl) (by kernel_rfl) (by kernel_rfl) (by kernel_rfl)
theorem F_l02_DigitsBack_of (a0 : Int) (a1 : Int) (Q : AV → Heap → Prop) (h :
 (Br (decide (IntKind.i64.wrap a0 < (-2147483647 : Int)))
 (Call E0.P fn_l02_numbers [] [] fun r0 g0 =>
 Req (g0 = [] ∧ r0 = .imm (.bool (rB r0)))
 (Q (.imm (.bool (rB r0))) []))
 (Call E0.P fn_digits_Put [(.imm (.int .i64 (IntKind.i64.wrap a0)))] [] fun r1 g1 =>
 Req (g1 = [] ∧ r1 = .imm (.str (rS r1)))
 (Call E0.P fn_digits_Read [(.imm (.str (rS r1)))] [] fun r2 g2 =>
 Req (g2 = [] ∧
 r2 = .tup [.imm (.int .i64 (rI (rT r2 (0 : Nat)))), .imm (.int .i64 (rI (rT r2 (1 : Nat))))])
 (Call E0.P fn_digits_Put [(.imm (.int .i64 (IntKind.i64.wrap a0)))] [] fun r3 g3 =>
 Req (g3 = [] ∧ r3 = .imm (.str (rS r3)))
 (Call E0.P fn_digits_Loose [(.imm (.str (rS r3)))] [] fun r4 g4 =>
 Req (g4 = [] ∧
 r4 = .tup [.imm (.int .i64 (rI (rT r4 (0 : Nat)))), .imm (.int .i64 (rI (rT r4 (1 : Nat))))])
 (Let (bif !decide (rI (rT r2 (0 : Nat)) = IntKind.i64.wrap a0) then true
 else !decide (rI (rT r4 (0 : Nat)) = IntKind.i64.wrap a0)) fun x5 =>
 Let (bif x5 then true else !decide (rI (rT r2 (1 : Nat)) = (0 : Int))) fun x6 =>
 Let (bif x6 then true else !decide (rI (rT r4 (1 : Nat)) = (0 : Int))) fun x7 =>
 Br (x7)
 (Q (.imm (.bool false)) [])
 (Req ((30 : Int) ≠ (0 : Int))
 (Call E0.P fn_digits_Pad [(.imm (.int .i64 (IntKind.i64.wrap a0))), (.imm (.int .i64 (IntKind.i64.wrap (a1.tmod (30 : Int)))))] [] fun r8 g8 =>
 Req (g8 = [] ∧ r8 = .tup [.imm (.str (rS (rT r8 (0 : Nat)))), .imm (.int .i64 (rI (rT r8 (1 : Nat))))])
 (Br (!decide (rI (rT r8 (1 : Nat)) = (0 : Int)))
 (Br ((rS (rT r8 (0 : Nat)) == []) == true)
 (Let (bif decide (IntKind.i64.wrap (a1.tmod (30 : Int)) < (1 : Int)) then true
 else decide ((20 : Int) < IntKind.i64.wrap (a1.tmod (30 : Int)))) fun x9 =>
 Let (bif x9 then true else decide (IntKind.i64.wrap a0 < (0 : Int))) fun x10 =>
 Br (x10 == false)
 (Call E0.P fn_digits_Put [(.imm (.int .i64 (IntKind.i64.wrap a0)))] [] fun r11 g11 =>
 Req (g11 = [] ∧ r11 = .imm (.str (rS r11)))
 (Let (decide (IntKind.i64.wrap (a1.tmod (30 : Int)) < (↑(rS r11).length : Int))) fun x12 =>
 Let (x12) fun x13 =>
 Br (x13 == true)
 (Call E0.P fn_l02_numbers [] [] fun r14 g14 =>
 Req (g14 = [] ∧ r14 = .imm (.bool (rB r14)))
 (Let (rB r14) fun x15 =>
 Q (.imm (.bool x15)) []))
 (Req ((!true) = false)
 (Let (false) fun x16 =>
 Q (.imm (.bool x16)) []))))
 (Req ((!false) = true)
 (Let (true) fun x17 =>
 Let (x17) fun x18 =>
 Br (x18 == true)
 (Call E0.P fn_l02_numbers [] [] fun r19 g19 =>
 Req (g19 = [] ∧ r19 = .imm (.bool (rB r19)))
 (Let (rB r19) fun x20 =>
 Q (.imm (.bool x20)) []))
 (Req ((!true) = false)
 (Let (false) fun x21 =>
 Q (.imm (.bool x21)) [])))))
 (Req ((!true) = false)
 (Let (false) fun x22 =>
 Br (x22 == true)
 (Call E0.P fn_l02_numbers [] [] fun r23 g23 =>
 Req (g23 = [] ∧ r23 = .imm (.bool (rB r23)))
 (Let (rB r23) fun x24 =>
 Q (.imm (.bool x24)) []))
 (Req ((!true) = false)
 (Let (false) fun x25 =>
 Q (.imm (.bool x25)) [])))))
 (Call E0.P fn_digits_Fixed [(.imm (.str (rS (rT r8 (0 : Nat)))))] [] fun r26 g26 =>
 Req (g26 = [] ∧
 r26 =
 .tup [.imm (.int .i64 (rI (rT r26 (0 : Nat)))), .imm (.int .i64 (rI (rT r26 (1 : Nat))))])
 (Let (bif decide ((↑(rS (rT r8 (0 : Nat))).length : Int) = IntKind.i64.wrap (a1.tmod (30 : Int))) then
 decide (rI (rT r26 (0 : Nat)) = IntKind.i64.wrap a0)
 else false) fun x27 =>
 Let (bif x27 then decide (rI (rT r26 (1 : Nat)) = (0 : Int)) else false) fun x28 =>
 Br (x28 == true)
 (Call E0.P fn_digits_Count [(.imm (.str (rS (rT r8 (0 : Nat)))))] [] fun r29 g29 =>
 Req (g29 = [] ∧ r29 = .imm (.int .i64 (rI r29)))
 (Let (decide (rI r29 = IntKind.i64.wrap (a1.tmod (30 : Int)))) fun x30 =>
 Br (x30 == true)
 (Call E0.P fn_l02_numbers [] [] fun r31 g31 =>
 Req (g31 = [] ∧ r31 = .imm (.bool (rB r31)))
 (Let (rB r31) fun x32 =>
 Q (.imm (.bool x32)) []))
 (Req ((!true) = false)
 (Let (false) fun x33 =>
 Q (.imm (.bool x33)) []))))
 (Req ((!true) = false)
 (Let (false) fun x34 =>
 Br (x34 == true)
 (Call E0.P fn_l02_numbers [] [] fun r35 g35 =>
 Req (g35 = [] ∧ r35 = .imm (.bool (rB r35)))
 (Let (rB r35) fun x36 =>
 Q (.imm (.bool x36)) []))
 (Req ((!true) = false)
 (Let (false) fun x37 =>
 Q (.imm (.bool x37)) [])))))))))))))))) : Call E0.P fn_l02_DigitsBack [(.imm (.int .i32 a0)), (.imm (.int .u8 a1))] [] Q := fun_rule (envN E0 nt_l02_DigitsBack) (okE nt_l02_DigitsBack) 3 9 ac_l02_DigitsBack [.tmp 4] ok_l02_DigitsBack _ _ Q rfl rfl (cast (by kernel_rfl) h)
/-! ### digits_Pad -/
noncomputable def ac_digits_Pad : AC := (annot [] [4, 5] (codeOf Tryd.f18) 0).1
abbrev nt_digits_Pad : Nat := 30
theorem ok_digits_Pad : FnOK E0.P 18 ac_digits_Pad.code nt_digits_Pad [.tmp 4, .tmp 5] := fn_ok _ _ Tryd.f18 [] [4, 5] _ 30 Tryd.func18 (by kernel_rfl) (by kernel_rfl) (by kernel_rfl) (by kernel_rfl)
theorem F_digits_Pad_of (a0 : Int) (a1 : Int) (Q : AV → Heap → Prop) (h :
 (Let (bif decide (a1 < (1 : Int)) then true else decide ((20 : Int) < a1)) fun x0 =>
 Br (x0)
 (Q (.tup [(.imm (.str [])), (.imm (.int .i64 ((2 : Int))))]) [])
 (Call E0.P fn_digits_Put [(.imm (.int .i64 a0))] [] fun r1 g1 =>
 Req (g1 = [] ∧ r1 = .imm (.str (rS r1)))
 (Let (bif decide (a0 < (0 : Int)) then true else decide (a1 < (↑(rS r1).length : Int))) fun x2 =>
 Br (x2)
 (Q (.tup [(.imm (.str [])), (.imm (.int .i64 ((3 : Int))))]) [])
 (Call E0.P fn_strings_Repeat [(.imm (.str [(48 : UInt8)])), (.imm (.int .i64 (IntKind.i64.wrap (a1 - (↑(rS r1).length : Int)))))] [] fun r3 g3 =>
 Req (g3 = [] ∧ r3 = .imm (.str (rS r3)))
 (Req ((↑((rS r3).length + (rS r1).length) : Int) ≤ (9223372036854775807 : Int))
 (Q (.tup [(.imm (.str (rS r3 ++ rS r1))), (.imm (.int .i64 ((0 : Int))))]) []))))))) : Call E0.P fn_digits_Pad [(.imm (.int .i64 a0)), (.imm (.int .i64 a1))] [] Q := fun_rule (envN E0 nt_digits_Pad) (okE nt_digits_Pad) 3 18 ac_digits_Pad [.tmp 4, .tmp 5] ok_digits_Pad _ _ Q rfl rfl (cast (by kernel_rfl) h)
/-! ### r02_Pad -/
noncomputable def ac_r02_Pad : AC := (annot [(8, [1, 6], []), (10, [6], []), (12, [6], [])] [4, 5] (codeOf Tryd.f19) 0).1
abbrev nt_r02_Pad : Nat := 30
def L_r02_Pad_8 (t1 : Int) (t6 : List UInt8) (K : Ex → St → Prop) : Prop := LoopOK 8 E0.P nt_r02_Pad (lbodyOf 8 ac_r02_Pad).code ⟨[(1, (.imm (.int .i64 t1))), (6, (.imm (.str t6)))], []⟩ K
def C_r02_Pad_12 (t6 : List UInt8) (K : Ex → St → Prop) : Prop := CutOK 12 E0.P nt_r02_Pad (cbodyOf 12 ac_r02_Pad).code ⟨[(6, (.imm (.str t6)))], []⟩ K
def K_r02_Pad_0 (Q : AV → Heap → Prop) : Ex → St → Prop
 | .normal, st => finish E0.T [.tmp 4, .tmp 5] [] Q st
 | .exit i, st => False
 | .goto i, st => False
 | .ret, st => finish E0.T [.tmp 4, .tmp 5] [] Q st
def K_r02_Pad_1 (Q : AV → Heap → Prop) : Ex → St → Prop
 | .normal, st => CutOK 12 E0.P nt_r02_Pad (cbodyOf 12 ac_r02_Pad).code (mask [(6 : Nat)] st) (K_r02_Pad_0 Q)
 | .exit i, st => (match (i.beq (0 : Nat) : Bool) with
 | true => CutOK 12 E0.P nt_r02_Pad (cbodyOf 12 ac_r02_Pad).code (mask [(6 : Nat)] st) (K_r02_Pad_0 Q)
 | false => False)
 | .goto i, st => False
 | .ret, st => finish E0.T [.tmp 4, .tmp 5] [] Q st
theorem L_r02_Pad_8_of (t1 : Int) (t6 : List UInt8) (K : Ex → St → Prop) (h :
 (Br (decide ((↑t6.length : Int) < t1))
 (Req ((↑((1 : Nat) + t6.length) : Int) ≤ (9223372036854775807 : Int))
 (L_r02_Pad_8 t1 ([(48 : UInt8)] ++ t6) K))
 (K (.exit 0) ⟨[(6, (.imm (.str t6)))], []⟩))) : L_r02_Pad_8 t1 t6 K := loop_rule (envN E0 nt_r02_Pad) (okE nt_r02_Pad) 3 8 (lbodyOf 8 ac_r02_Pad) [1, 6] _ K rfl (cast (by kernel_rfl) h)
theorem C_r02_Pad_12_of (t6 : List UInt8) (K : Ex → St → Prop) (h :
 (K .ret ⟨[(4, (.imm (.str t6))), (5, (.imm (.int .i64 ((0 : Int)))))], []⟩)) : C_r02_Pad_12 t6 K := cut_rule (envN E0 nt_r02_Pad) (okE nt_r02_Pad) 3 12 (cbodyOf 12 ac_r02_Pad) [] _ K rfl (cast (by kernel_rfl) h)
theorem K_r02_Pad_0_x0 (Q : AV → Heap → Prop) (t4 : List UInt8) (t5 : Int) (h :
 (Q (.tup [(.imm (.str t4)), (.imm (.int .i64 t5))]) [])) : K_r02_Pad_0 Q .ret ⟨[(4, (.imm (.str t4))), (5, (.imm (.int .i64 t5)))], []⟩ := cast (by kernel_rfl) h
theorem K_r02_Pad_1_x0 (Q : AV → Heap → Prop) (t6 : List UInt8) (h :
 (C_r02_Pad_12 t6 (K_r02_Pad_0 Q))) : K_r02_Pad_1 Q (.exit 0) ⟨[(6, (.imm (.str t6)))], []⟩ := cast (by kernel_rfl) h
theorem ok_r02_Pad : FnOK E0.P 19 ac_r02_Pad.code nt_r02_Pad [.tmp 4, .tmp 5] := fn_ok _ _ Tryd.f19 [(8, [1, 6], []), (10, [6], []), (12, [6], [])] [4, 5] _ 30 Tryd.func19 (by kernel_rfl) (by kernel_rfl) (by kernel_rfl) (by kernel_rfl)
theorem F_r02_Pad_of (a0 : Int) (a1 : Int) (Q : AV → Heap → Prop) (h :
 (Let (bif decide (a1 < (1 : Int)) then true else decide ((20 : Int) < a1)) fun x0 =>
 Br (x0)
 (Q (.tup [(.imm (.str [])), (.imm (.int .i64 ((2 : Int))))]) [])
 (Call E0.P fn_r02_Put [(.imm (.int .i64 a0))] [] fun r1 g1 =>
 Req (g1 = [] ∧ r1 = .imm (.str (rS r1)))
 (Let (bif decide (a0 < (0 : Int)) then true else decide (a1 < (↑(rS r1).length : Int))) fun x2 =>
 Br (x2)
 (Q (.tup [(.imm (.str [])), (.imm (.int .i64 ((3 : Int))))]) [])
 (L_r02_Pad_8 a1 (rS r1) (K_r02_Pad_1 Q)))))) : Call E0.P fn_r02_Pad [(.imm (.int .i64 a0)), (.imm (.int .i64 a1))] [] Q := fun_rule (envN E0 nt_r02_Pad) (okE nt_r02_Pad) 3 19 ac_r02_Pad [.tmp 4, .tmp 5] ok_r02_Pad _ _ Q rfl rfl (cast (by kernel_rfl) h)
/-! ### digits_Put -/
noncomputable def ac_digits_Put : AC := (annot [] [2] (codeOf Tryd.f20) 0).1
abbrev nt_digits_Put : Nat := 5
theorem ok_digits_Put : FnOK E0.P 20 ac_digits_Put.code nt_digits_Put [.tmp 2] := fn_ok _ _ Tryd.f20 [] [2] _ 5 Tryd.func20 (by kernel_rfl) (by kernel_rfl) (by kernel_rfl) (by kernel_rfl)
theorem F_digits_Put_of (a0 : Int) (Q : AV → Heap → Prop) (h :
 (Call E0.P fn_strconv_Itoa [(.imm (.int .i64 a0))] [] fun r0 g0 =>
 Req (g0 = [] ∧ r0 = .imm (.str (rS r0)))
 (Q (.imm (.str (rS r0))) []))) : Call E0.P fn_digits_Put [(.imm (.int .i64 a0))] [] Q := fun_rule (envN E0 nt_digits_Put) (okE nt_digits_Put) 3 20 ac_digits_Put [.tmp 2] ok_digits_Put _ _ Q rfl rfl (cast (by kernel_rfl) h)
/-! ### r02_Put -/
noncomputable def ac_r02_Put : AC := (annot [(10, [0, 3, 4], []), (11, [0, 3, 4], []), (13, [3, 4], []), (16, [3, 4], [])] [2] (codeOf Tryd.f21) 0).1
abbrev nt_r02_Put : Nat := 42
def C_r02_Put_10 (t0 : Int) (t3 : List UInt8) (t4 : List UInt8) (K : Ex → St → Prop) : Prop := CutOK 10 E0.P nt_r02_Put (cbodyOf 10 ac_r02_Put).code ⟨[(0, (.imm (.int .i64 t0))), (3, (.imm (.str t3))), (4, (.imm (.str t4)))], []⟩ K
def L_r02_Put_11 (t0 : Int) (t3 : List UInt8) (t4 : List UInt8) (K : Ex → St → Prop) : Prop := LoopOK 11 E0.P nt_r02_Put (lbodyOf 11 ac_r02_Put).code ⟨[(0, (.imm (.int .i64 t0))), (3, (.imm (.str t3))), (4, (.imm (.str t4)))], []⟩ K
def C_r02_Put_16 (t3 : List UInt8) (t4 : List UInt8) (K : Ex → St → Prop) : Prop := CutOK 16 E0.P nt_r02_Put (cbodyOf 16 ac_r02_Put).code ⟨[(3, (.imm (.str t3))), (4, (.imm (.str t4)))], []⟩ K
def K_r02_Put_0 (Q : AV → Heap → Prop) : Ex → St → Prop
 | .normal, st => finish E0.T [.tmp 2] [] Q st
 | .exit i, st => False
 | .goto i, st => False
 | .ret, st => finish E0.T [.tmp 2] [] Q st
def K_r02_Put_1 (K : Ex → St → Prop) : Ex → St → Prop
 | .normal, st => K .normal (mask [] st)
 | .exit i, st => K (.exit i) st
 | .goto i, st => K (.goto i) st
 | .ret, st => K .ret st
def K_r02_Put_2 (K : Ex → St → Prop) : Ex → St → Prop
 | .normal, st => CutOK 16 E0.P nt_r02_Put (cbodyOf 16 ac_r02_Put).code (mask [(3 : Nat), (4 : Nat)] st) (K_r02_Put_1 K)
 | .exit i, st => (match (i.beq (0 : Nat) : Bool) with
 | true => CutOK 16 E0.P nt_r02_Put (cbodyOf 16 ac_r02_Put).code (mask [(3 : Nat), (4 : Nat)] st) (K_r02_Put_1 K)
 | false => K (.exit i) st)
 | .goto i, st => K (.goto i) st
 | .ret, st => K .ret st
theorem C_r02_Put_10_of (t0 : Int) (t3 : List UInt8) (t4 : List UInt8) (K : Ex → St → Prop) (h :
 (L_r02_Put_11 t0 t3 t4 (K_r02_Put_2 K))) : C_r02_Put_10 t0 t3 t4 K := cut_rule (envN E0 nt_r02_Put) (okE nt_r02_Put) 3 10 (cbodyOf 10 ac_r02_Put) [] _ K rfl (cast (by kernel_rfl) h)
theorem L_r02_Put_11_of (t0 : Int) (t3 : List UInt8) (t4 : List UInt8) (K : Ex → St → Prop) (h :
 (Let (bif decide ((0 : Int) < t0) then true else t3 == []) fun x0 =>
 Br (x0)
 (Req ((10 : Int) ≠ (0 : Int))
 (Req ((10 : Int) ≠ (0 : Int))
 (Req ((0 : Int) ≤ t0.tmod (10 : Int) ∧
 t0.tmod (10 : Int) ≤ IntKind.i64.wrap (t0.tmod (10 : Int) + (1 : Int)) ∧
 IntKind.i64.wrap (t0.tmod (10 : Int) + (1 : Int)) ≤ (↑(10 : Nat) : Int))
 (Let (List.drop (t0.tmod (10 : Int)).toNat
 (List.take (IntKind.i64.wrap (t0.tmod (10 : Int) + (1 : Int))).toNat
 [(48 : UInt8), (49 : UInt8), (50 : UInt8), (51 : UInt8), (52 : UInt8), (53 : UInt8), (54 : UInt8), (55 : UInt8),
 (56 : UInt8), (57 : UInt8)])) fun x1 =>
 Req ((↑(x1.length + t3.length) : Int) ≤ (9223372036854775807 : Int))
 (Req ((10 : Int) ≠ (0 : Int))
 (L_r02_Put_11 (IntKind.i64.wrap (t0.tdiv (10 : Int))) (x1 ++ t3) t4 K))))))
 (K (.exit 0) ⟨[(3, (.imm (.str t3))), (4, (.imm (.str t4)))], []⟩))) : L_r02_Put_11 t0 t3 t4 K := loop_rule (envN E0 nt_r02_Put) (okE nt_r02_Put) 3 11 (lbodyOf 11 ac_r02_Put) [0, 3, 4] _ K rfl (cast (by kernel_rfl) h)
theorem C_r02_Put_16_of (t3 : List UInt8) (t4 : List UInt8) (K : Ex → St → Prop) (h :
 (Req ((↑(t4.length + t3.length) : Int) ≤ (9223372036854775807 : Int))
 (K .ret ⟨[(2, (.imm (.str (t4 ++ t3))))], []⟩))) : C_r02_Put_16 t3 t4 K := cut_rule (envN E0 nt_r02_Put) (okE nt_r02_Put) 3 16 (cbodyOf 16 ac_r02_Put) [] _ K rfl (cast (by kernel_rfl) h)
theorem K_r02_Put_0_x0 (Q : AV → Heap → Prop) (t2 : List UInt8) (h :
 (Q (.imm (.str t2)) [])) : K_r02_Put_0 Q .ret ⟨[(2, (.imm (.str t2)))], []⟩ := cast (by kernel_rfl) h
theorem K_r02_Put_1_x0 (K : Ex → St → Prop) (t2 : List UInt8) (h :
 (K .ret ⟨[(2, (.imm (.str t2)))], []⟩)) : K_r02_Put_1 K .ret ⟨[(2, (.imm (.str t2)))], []⟩ := cast (by kernel_rfl) h
theorem K_r02_Put_2_x0 (K : Ex → St → Prop) (t3 : List UInt8) (t4 : List UInt8) (h :
 (C_r02_Put_16 t3 t4 (K_r02_Put_1 K))) : K_r02_Put_2 K (.exit 0) ⟨[(3, (.imm (.str t3))), (4, (.imm (.str t4)))], []⟩ := cast (by kernel_rfl) h
theorem ok_r02_Put : FnOK E0.P 21 ac_r02_Put.code nt_r02_Put [.tmp 2] := fn_ok _ _ Tryd.f21 [(10, [0, 3, 4], []), (11, [0, 3, 4], []), (13, [3, 4], []), (16, [3, 4], [])] [2] _ 42 Tryd.func21 (by kernel_rfl) (by kernel_rfl) (by kernel_rfl) (by kernel_rfl)
theorem F_r02_Put_of (a0 : Int) (Q : AV → Heap → Prop) (h :
 (Br (decide (a0 < (0 : Int)))
 (Req ((10 : Int) ≠ (0 : Int))
 (Req ((0 : Int) ≤ IntKind.i64.wrap ((0 : Int) - a0.tmod (10 : Int)) ∧
 IntKind.i64.wrap ((0 : Int) - a0.tmod (10 : Int)) ≤ IntKind.i64.wrap ((1 : Int) - a0.tmod (10 : Int)) ∧
 IntKind.i64.wrap ((1 : Int) - a0.tmod (10 : Int)) ≤ (↑(10 : Nat) : Int))
 (Let (List.drop (IntKind.i64.wrap ((0 : Int) - a0.tmod (10 : Int))).toNat
 (List.take (IntKind.i64.wrap ((1 : Int) - a0.tmod (10 : Int))).toNat
 [(48 : UInt8), (49 : UInt8), (50 : UInt8), (51 : UInt8), (52 : UInt8), (53 : UInt8), (54 : UInt8), (55 : UInt8),
 (56 : UInt8), (57 : UInt8)])) fun x0 =>
 Req ((10 : Int) ≠ (0 : Int))
 (Br (decide (IntKind.i64.wrap ((0 : Int) - IntKind.i64.wrap (a0.tdiv (10 : Int))) = (0 : Int)))
 (Req ((↑((1 : Nat) + x0.length) : Int) ≤ (9223372036854775807 : Int))
 (Q (.imm (.str ([(45 : UInt8)] ++ x0))) []))
 (C_r02_Put_10 (IntKind.i64.wrap ((0 : Int) - IntKind.i64.wrap (a0.tdiv (10 : Int)))) x0 [(45 : UInt8)] (K_r02_Put_0 Q))))))
 (C_r02_Put_10 a0 [] [] (K_r02_Put_0 Q)))) : Call E0.P fn_r02_Put [(.imm (.int .i64 a0))] [] Q := fun_rule (envN E0 nt_r02_Put) (okE nt_r02_Put) 3 21 ac_r02_Put [.tmp 2] ok_r02_Put _ _ Q rfl rfl (cast (by kernel_rfl) h)
/-! ### l02_numbers -/
noncomputable def ac_l02_numbers : AC := (annot [] [0] (codeOf Tryd.f22) 0).1
abbrev nt_l02_numbers : Nat := 59
theorem ok_l02_numbers : FnOK E0.P 22 ac_l02_numbers.code nt_l02_numbers [.tmp 0] := fn_ok _ _ Tryd.f22 [] [0] _ 59 Tryd.func22 (by kernel_rfl) (by kernel_rfl) (by kernel_rfl) (by kernel_rfl)
theorem F_l02_numbers_of (Q : AV → Heap → Prop) (h :
 (Call E0.P fn_digits_Pad [(.imm (.int .i64 ((7 : Int)))), (.imm (.int .i64 ((3 : Int))))] [] fun r0 g0 =>
 Req (g0 = [] ∧ r0 = .tup [.imm (.str (rS (rT r0 (0 : Nat)))), .imm (.int .i64 (rI (rT r0 (1 : Nat))))])
 (Call E0.P fn_digits_Loose [(.imm (.str [(43 : UInt8), (48 : UInt8), (48 : UInt8), (55 : UInt8)]))] [] fun r1 g1 =>
 Req (g1 = [] ∧
 r1 = .tup [.imm (.int .i64 (rI (rT r1 (0 : Nat)))), .imm (.int .i64 (rI (rT r1 (1 : Nat))))])
 (Call E0.P fn_digits_Read [(.imm (.str [(48 : UInt8), (48 : UInt8), (55 : UInt8)]))] [] fun r2 g2 =>
 Req (g2 = [] ∧
 r2 = .tup [.imm (.int .i64 (rI (rT r2 (0 : Nat)))), .imm (.int .i64 (rI (rT r2 (1 : Nat))))])
 (Call E0.P fn_digits_Fixed [(.imm (.str [(48 : UInt8), (49 : UInt8), (48 : UInt8)]))] [] fun r3 g3 =>
 Req (g3 = [] ∧
 r3 = .tup [.imm (.int .i64 (rI (rT r3 (0 : Nat)))), .imm (.int .i64 (rI (rT r3 (1 : Nat))))])
 (Let (bif rS (rT r0 (0 : Nat)) == [(48 : UInt8), (48 : UInt8), (55 : UInt8)] then decide (rI (rT r0 (1 : Nat)) = (0 : Int))
 else false) fun x4 =>
 Let (bif x4 then decide (rI (rT r1 (0 : Nat)) = (7 : Int)) else false) fun x5 =>
 Let (bif x5 then decide (rI (rT r1 (1 : Nat)) = (0 : Int)) else false) fun x6 =>
 Let (bif x6 then decide (rI (rT r2 (1 : Nat)) = (4 : Int)) else false) fun x7 =>
 Let (bif x7 then decide (rI (rT r3 (0 : Nat)) = (10 : Int)) else false) fun x8 =>
 Let (bif x8 then decide (rI (rT r3 (1 : Nat)) = (0 : Int)) else false) fun x9 =>
 Br (x9 == true)
 (Call E0.P fn_digits_Put [(.imm (.int .i64 ((-12 : Int))))] [] fun r10 g10 =>
 Req (g10 = [] ∧ r10 = .imm (.str (rS r10)))
 (Let (rS r10 == [(45 : UInt8), (49 : UInt8), (50 : UInt8)]) fun x11 =>
 Br (x11 == true)
 (Call E0.P fn_digits_Count [(.imm (.str [(49 : UInt8), (50 : UInt8), (97 : UInt8)]))] [] fun r12 g12 =>
 Req (g12 = [] ∧ r12 = .imm (.int .i64 (rI r12)))
 (Let (decide (rI r12 = (2 : Int))) fun x13 =>
 Q (.imm (.bool x13)) []))
 (Req ((!true) = false)
 (Let (false) fun x14 =>
 Q (.imm (.bool x14)) []))))
 (Req ((!true) = false)
 (Let (false) fun x15 =>
 Br (x15 == true)
 (Call E0.P fn_digits_Count [(.imm (.str [(49 : UInt8), (50 : UInt8), (97 : UInt8)]))] [] fun r16 g16 =>
 Req (g16 = [] ∧ r16 = .imm (.int .i64 (rI r16)))
 (Let (decide (rI r16 = (2 : Int))) fun x17 =>
 Q (.imm (.bool x17)) []))
 (Req ((!true) = false)
 (Let (false) fun x18 =>
 Q (.imm (.bool x18)) [])))))))))) : Call E0.P fn_l02_numbers [] [] Q := fun_rule (envN E0 nt_l02_numbers) (okE nt_l02_numbers) 3 22 ac_l02_numbers [.tmp 0] ok_l02_numbers _ _ Q rfl rfl (cast (by kernel_rfl) h)
/-! ### digits_Read -/
noncomputable def ac_digits_Read : AC := (annot [(2, [0, 26], [0]), (4, [0], []), (6, [6, 32], [6]), (10, [6], [])] [2, 3] (codeOf Tryd.f23) 0).1
abbrev nt_digits_Read : Nat := 46
def C_digits_Read_2 (t0 : List UInt8) (t26 : Bool) (K : Ex → St → Prop) : Prop := CutOK 2 E0.P nt_digits_Read (cbodyOf 2 ac_digits_Read).code ⟨[(0, (.imm (.str t0))), (26, (.imm (.bool t26)))], []⟩ K
def C_digits_Read_4 (t0 : List UInt8) (K : Ex → St → Prop) : Prop := CutOK 4 E0.P nt_digits_Read (cbodyOf 4 ac_digits_Read).code ⟨[(0, (.imm (.str t0)))], []⟩ K
def C_digits_Read_6 (t6 : Int) (t32 : Bool) (K : Ex → St → Prop) : Prop := CutOK 6 E0.P nt_digits_Read (cbodyOf 6 ac_digits_Read).code ⟨[(6, (.imm (.int .i64 t6))), (32, (.imm (.bool t32)))], []⟩ K
def C_digits_Read_10 (t6 : Int) (K : Ex → St → Prop) : Prop := CutOK 10 E0.P nt_digits_Read (cbodyOf 10 ac_digits_Read).code ⟨[(6, (.imm (.int .i64 t6)))], []⟩ K
def K_digits_Read_0 (Q : AV → Heap → Prop) : Ex → St → Prop
 | .normal, st => finish E0.T [.tmp 2, .tmp 3] [] Q st
 | .exit i, st => False
 | .goto i, st => False
 | .ret, st => finish E0.T [.tmp 2, .tmp 3] [] Q st
def K_digits_Read_1 (Q : AV → Heap → Prop) : Ex → St → Prop
 | .normal, st => CutOK 4 E0.P nt_digits_Read (cbodyOf 4 ac_digits_Read).code (mask [(0 : Nat)] st) (K_digits_Read_0 Q)
 | .exit i, st => False
 | .goto i, st => False
 | .ret, st => finish E0.T [.tmp 2, .tmp 3] [] Q st
def K_digits_Read_2 (K : Ex → St → Prop) : Ex → St → Prop
 | .normal, st => K .normal (mask [] st)
 | .exit i, st => K (.exit i) st
 | .goto i, st => K (.goto i) st
 | .ret, st => K .ret st
def K_digits_Read_3 (K : Ex → St → Prop) : Ex → St → Prop
 | .normal, st => CutOK 10 E0.P nt_digits_Read (cbodyOf 10 ac_digits_Read).code (mask [(6 : Nat)] st) (K_digits_Read_2 K)
 | .exit i, st => (match (i.beq (0 : Nat) : Bool) with
 | true => CutOK 10 E0.P nt_digits_Read (cbodyOf 10 ac_digits_Read).code (mask [(6 : Nat)] st) (K_digits_Read_2 K)
 | false => K (.exit i) st)
 | .goto i, st => K (.goto i) st
 | .ret, st => K .ret st
theorem C_digits_Read_2_of (t0 : List UInt8) (t26 : Bool) (K : Ex → St → Prop) (h :
 (Br (t26)
 (K .ret ⟨[(2, (.imm (.int .i64 ((0 : Int))))), (3, (.imm (.int .i64 ((4 : Int)))))], []⟩)
 (K .normal ⟨[(0, (.imm (.str t0)))], []⟩))) : C_digits_Read_2 t0 t26 K := cut_rule (envN E0 nt_digits_Read) (okE nt_digits_Read) 3 2 (cbodyOf 2 ac_digits_Read) [0] _ K rfl (cast (by kernel_rfl) h)
theorem C_digits_Read_4_of (t0 : List UInt8) (K : Ex → St → Prop) (h :
 (Call E0.P fn_strconv_Atoi [(.imm (.str t0))] [] fun r0 g0 =>
 Req (g0 = [] ∧ r0 = .tup [.imm (.int .i64 (rI (rT r0 (0 : Nat)))), .imm (IV.ifc (rN (rT r0 (1 : Nat))))])
 (Req (rN (rT r0 (1 : Nat)) = true ∨ true = true)
 (Br ((!(rN (rT r0 (1 : Nat)) && true)) == false)
 (Call E0.P fn_digits_Put [(.imm (.int .i64 (rI (rT r0 (0 : Nat)))))] [] fun r1 g1 =>
 Req (g1 = [] ∧ r1 = .imm (.str (rS r1)))
 (Let (!rS r1 == t0) fun x2 =>
 C_digits_Read_6 (rI (rT r0 (0 : Nat))) x2 (K_digits_Read_3 K)))
 (Req ((!false) = true)
 (Let (true) fun x3 =>
 C_digits_Read_6 (rI (rT r0 (0 : Nat))) x3 (K_digits_Read_3 K))))))) : C_digits_Read_4 t0 K := cut_rule (envN E0 nt_digits_Read) (okE nt_digits_Read) 3 4 (cbodyOf 4 ac_digits_Read) [] _ K rfl (cast (by kernel_rfl) h)
theorem C_digits_Read_6_of (t6 : Int) (t32 : Bool) (K : Ex → St → Prop) (h :
 (Br (t32)
 (K .ret ⟨[(2, (.imm (.int .i64 ((0 : Int))))), (3, (.imm (.int .i64 ((4 : Int)))))], []⟩)
 (Call E0.P fn_digits_held [(.imm (.int .i64 t6))] [] fun r0 g0 =>
 Req (g0 = [] ∧ r0 = .imm (.bool (rB r0)))
 (Br (!rB r0)
 (K .ret ⟨[(2, (.imm (.int .i64 ((0 : Int))))), (3, (.imm (.int .i64 ((3 : Int)))))], []⟩)
 (K .normal ⟨[(6, (.imm (.int .i64 t6)))], []⟩))))) : C_digits_Read_6 t6 t32 K := cut_rule (envN E0 nt_digits_Read) (okE nt_digits_Read) 3 6 (cbodyOf 6 ac_digits_Read) [6] _ K rfl (cast (by kernel_rfl) h)
theorem C_digits_Read_10_of (t6 : Int) (K : Ex → St → Prop) (h :
 (K .ret ⟨[(2, (.imm (.int .i64 t6))), (3, (.imm (.int .i64 ((0 : Int)))))], []⟩)) : C_digits_Read_10 t6 K := cut_rule (envN E0 nt_digits_Read) (okE nt_digits_Read) 3 10 (cbodyOf 10 ac_digits_Read) [] _ K rfl (cast (by kernel_rfl) h)
theorem K_digits_Read_0_x0 (Q : AV → Heap → Prop) (t2 : Int) (t3 : Int) (h :
 (Q (.tup [(.imm (.int .i64 t2)), (.imm (.int .i64 t3))]) [])) : K_digits_Read_0 Q .ret ⟨[(2, (.imm (.int .i64 t2))), (3, (.imm (.int .i64 t3)))], []⟩ := cast (by kernel_rfl) h
theorem K_digits_Read_1_x0 (Q : AV → Heap → Prop) (t2 : Int) (t3 : Int) (h :
 (Q (.tup [(.imm (.int .i64 t2)), (.imm (.int .i64 t3))]) [])) : K_digits_Read_1 Q .ret ⟨[(2, (.imm (.int .i64 t2))), (3, (.imm (.int .i64 t3)))], []⟩ := cast (by kernel_rfl) h
theorem K_digits_Read_1_x1 (Q : AV → Heap → Prop) (t0 : List UInt8) (h :
 (C_digits_Read_4 t0 (K_digits_Read_0 Q))) : K_digits_Read_1 Q .normal ⟨[(0, (.imm (.str t0)))], []⟩ := cast (by kernel_rfl) h
theorem K_digits_Read_2_x0 (K : Ex → St → Prop) (t2 : Int) (t3 : Int) (h :
 (K .ret ⟨[(2, (.imm (.int .i64 t2))), (3, (.imm (.int .i64 t3)))], []⟩)) : K_digits_Read_2 K .ret ⟨[(2, (.imm (.int .i64 t2))), (3, (.imm (.int .i64 t3)))], []⟩ := cast (by kernel_rfl) h
theorem K_digits_Read_3_x0 (K : Ex → St → Prop) (t2 : Int) (t3 : Int) (h :
 (K .ret ⟨[(2, (.imm (.int .i64 t2))), (3, (.imm (.int .i64 t3)))], []⟩)) : K_digits_Read_3 K .ret ⟨[(2, (.imm (.int .i64 t2))), (3, (.imm (.int .i64 t3)))], []⟩ := cast (by kernel_rfl) h
theorem K_digits_Read_3_x1 (K : Ex → St → Prop) (t6 : Int) (h :
 (C_digits_Read_10 t6 (K_digits_Read_2 K))) : K_digits_Read_3 K .normal ⟨[(6, (.imm (.int .i64 t6)))], []⟩ := cast (by kernel_rfl) h
theorem ok_digits_Read : FnOK E0.P 23 ac_digits_Read.code nt_digits_Read [.tmp 2, .tmp 3] := fn_ok _ _ Tryd.f23 [(2, [0, 26], [0]), (4, [0], []), (6, [6, 32], [6]), (10, [6], [])] [2, 3] _ 46 Tryd.func23 (by kernel_rfl) (by kernel_rfl) (by kernel_rfl) (by kernel_rfl)
theorem F_digits_Read_of (a0 : List UInt8) (Q : AV → Heap → Prop) (h :
 (Call E0.P fn_digits_signed [(.imm (.str a0)), (.imm (.str [(45 : UInt8)]))] [] fun r0 g0 =>
 Req (g0 = [] ∧ r0 = .tup [.imm (.bool (rB (rT r0 (0 : Nat)))), .imm (.str (rS (rT r0 (1 : Nat))))])
 (Let (bif rS (rT r0 (1 : Nat)) == [] then true else decide ((19 : Int) < (↑(rS (rT r0 (1 : Nat))).length : Int))) fun x1 =>
 Br (x1 == false)
 (Call E0.P fn_digits_Count [(.imm (.str (rS (rT r0 (1 : Nat)))))] [] fun r2 g2 =>
 Req (g2 = [] ∧ r2 = .imm (.int .i64 (rI r2)))
 (Let (!decide (rI r2 = (↑(rS (rT r0 (1 : Nat))).length : Int))) fun x3 =>
 C_digits_Read_2 a0 x3 (K_digits_Read_1 Q)))
 (Req ((!false) = true)
 (Let (true) fun x4 =>
 C_digits_Read_2 a0 x4 (K_digits_Read_1 Q)))))) : Call E0.P fn_digits_Read [(.imm (.str a0))] [] Q := fun_rule (envN E0 nt_digits_Read) (okE nt_digits_Read) 3 23 ac_digits_Read [.tmp 2, .tmp 3] ok_digits_Read _ _ Q rfl rfl (cast (by kernel_rfl) h)
/-! ### r02_Read -/
noncomputable def ac_r02_Read : AC := (annot [(3, [0, 4], []), (4, [0, 37], [0]), (6, [0], [])] [2, 3] (codeOf Tryd.f24) 0).1
abbrev nt_r02_Read : Nat := 42
def C_r02_Read_3 (t0 : List UInt8) (t4 : List UInt8) (K : Ex → St → Prop) : Prop := CutOK 3 E0.P nt_r02_Read (cbodyOf 3 ac_r02_Read).code ⟨[(0, (.imm (.str t0))), (4, (.imm (.str t4)))], []⟩ K
def C_r02_Read_4 (t0 : List UInt8) (t37 : Bool) (K : Ex → St → Prop) : Prop := CutOK 4 E0.P nt_r02_Read (cbodyOf 4 ac_r02_Read).code ⟨[(0, (.imm (.str t0))), (37, (.imm (.bool t37)))], []⟩ K
def C_r02_Read_6 (t0 : List UInt8) (K : Ex → St → Prop) : Prop := CutOK 6 E0.P nt_r02_Read (cbodyOf 6 ac_r02_Read).code ⟨[(0, (.imm (.str t0)))], []⟩ K
def K_r02_Read_0 (Q : AV → Heap → Prop) : Ex → St → Prop
 | .normal, st => finish E0.T [.tmp 2, .tmp 3] [] Q st
 | .exit i, st => False
 | .goto i, st => False
 | .ret, st => finish E0.T [.tmp 2, .tmp 3] [] Q st
def K_r02_Read_1 (K : Ex → St → Prop) : Ex → St → Prop
 | .normal, st => K .normal (mask [] st)
 | .exit i, st => K (.exit i) st
 | .goto i, st => K (.goto i) st
 | .ret, st => K .ret st
def K_r02_Read_2 (K : Ex → St → Prop) : Ex → St → Prop
 | .normal, st => CutOK 6 E0.P nt_r02_Read (cbodyOf 6 ac_r02_Read).code (mask [(0 : Nat)] st) (K_r02_Read_1 K)
 | .exit i, st => K (.exit i) st
 | .goto i, st => K (.goto i) st
 | .ret, st => K .ret st
theorem C_r02_Read_3_of (t0 : List UInt8) (t4 : List UInt8) (K : Ex → St → Prop) (h :
 (Let (bif t4 == [] then true else decide ((19 : Int) < (↑t4.length : Int))) fun x0 =>
 Br (x0 == false)
 (Call E0.P fn_r02_Count [(.imm (.str t4))] [] fun r1 g1 =>
 Req (g1 = [] ∧ r1 = .imm (.int .i64 (rI r1)))
 (Let (!decide (rI r1 = (↑t4.length : Int))) fun x2 =>
 Req (x2 = false → (0 : Int) ≤ (0 : Int) ∧ (0 : Int) < (↑t4.length : Int))
 (Br (x2 == false)
 (Let (bif decide ((↑(t4.getD (0 : Nat) (0 : UInt8)).toNat : Int) = (48 : Int)) then !t0 == [(48 : UInt8)] else false) fun x3 =>
 Let (x3) fun x4 =>
 C_r02_Read_4 t0 x4 (K_r02_Read_2 K))
 (Req ((!false) = true)
 (Let (true) fun x5 =>
 C_r02_Read_4 t0 x5 (K_r02_Read_2 K))))))
 (Req ((!false) = true)
 (Let (true) fun x6 =>
 Req (x6 = false → (0 : Int) ≤ (0 : Int) ∧ (0 : Int) < (↑t4.length : Int))
 (Br (x6 == false)
 (Let (bif decide ((↑(t4.getD (0 : Nat) (0 : UInt8)).toNat : Int) = (48 : Int)) then !t0 == [(48 : UInt8)] else false) fun x7 =>
 Let (x7) fun x8 =>
 C_r02_Read_4 t0 x8 (K_r02_Read_2 K))
 (Req ((!false) = true)
 (Let (true) fun x9 =>
 C_r02_Read_4 t0 x9 (K_r02_Read_2 K)))))))) : C_r02_Read_3 t0 t4 K := cut_rule (envN E0 nt_r02_Read) (okE nt_r02_Read) 3 3 (cbodyOf 3 ac_r02_Read) [] _ K rfl (cast (by kernel_rfl) h)
theorem C_r02_Read_4_of (t0 : List UInt8) (t37 : Bool) (K : Ex → St → Prop) (h :
 (Br (t37)
 (K .ret ⟨[(2, (.imm (.int .i64 ((0 : Int))))), (3, (.imm (.int .i64 ((4 : Int)))))], []⟩)
 (K .normal ⟨[(0, (.imm (.str t0)))], []⟩))) : C_r02_Read_4 t0 t37 K := cut_rule (envN E0 nt_r02_Read) (okE nt_r02_Read) 3 4 (cbodyOf 4 ac_r02_Read) [0] _ K rfl (cast (by kernel_rfl) h)
theorem C_r02_Read_6_of (t0 : List UInt8) (K : Ex → St → Prop) (h :
 (Call E0.P fn_r02_whole [(.imm (.str t0))] [] fun r0 g0 =>
 Req (g0 = [] ∧
 r0 = .tup [.imm (.int .i64 (rI (rT r0 (0 : Nat)))), .imm (.int .i64 (rI (rT r0 (1 : Nat))))])
 (K .ret ⟨[(2, (.imm (.int .i64 (rI (rT r0 (0 : Nat)))))), (3, (.imm (.int .i64 (rI (rT r0 (1 : Nat))))))], []⟩))) : C_r02_Read_6 t0 K := cut_rule (envN E0 nt_r02_Read) (okE nt_r02_Read) 3 6 (cbodyOf 6 ac_r02_Read) [] _ K rfl (cast (by kernel_rfl) h)
theorem K_r02_Read_0_x0 (Q : AV → Heap → Prop) (t2 : Int) (t3 : Int) (h :
 (Q (.tup [(.imm (.int .i64 t2)), (.imm (.int .i64 t3))]) [])) : K_r02_Read_0 Q .ret ⟨[(2, (.imm (.int .i64 t2))), (3, (.imm (.int .i64 t3)))], []⟩ := cast (by kernel_rfl) h
theorem K_r02_Read_1_x0 (K : Ex → St → Prop) (t2 : Int) (t3 : Int) (h :
 (K .ret ⟨[(2, (.imm (.int .i64 t2))), (3, (.imm (.int .i64 t3)))], []⟩)) : K_r02_Read_1 K .ret ⟨[(2, (.imm (.int .i64 t2))), (3, (.imm (.int .i64 t3)))], []⟩ := cast (by kernel_rfl) h
theorem K_r02_Read_2_x0 (K : Ex → St → Prop) (t2 : Int) (t3 : Int) (h :
 (K .ret ⟨[(2, (.imm (.int .i64 t2))), (3, (.imm (.int .i64 t3)))], []⟩)) : K_r02_Read_2 K .ret ⟨[(2, (.imm (.int .i64 t2))), (3, (.imm (.int .i64 t3)))], []⟩ := cast (by kernel_rfl) h
theorem K_r02_Read_2_x1 (K : Ex → St → Prop) (t0 : List UInt8) (h :
 (C_r02_Read_6 t0 (K_r02_Read_1 K))) : K_r02_Read_2 K .normal ⟨[(0, (.imm (.str t0)))], []⟩ := cast (by kernel_rfl) h
theorem ok_r02_Read : FnOK E0.P 24 ac_r02_Read.code nt_r02_Read [.tmp 2, .tmp 3] := fn_ok _ _ Tryd.f24 [(3, [0, 4], []), (4, [0, 37], [0]), (6, [0], [])] [2, 3] _ 42 Tryd.func24 (by kernel_rfl) (by kernel_rfl) (by kernel_rfl) (by kernel_rfl)
theorem F_r02_Read_of (a0 : List UInt8) (Q : AV → Heap → Prop) (h :
 (Req ((!a0 == []) = true → (0 : Int) ≤ (0 : Int) ∧ (0 : Int) < (↑a0.length : Int))
 (Let (bif !a0 == [] then decide ((↑(a0.getD (0 : Nat) (0 : UInt8)).toNat : Int) = (45 : Int)) else false) fun x0 =>
 Br (x0)
 (Req ((0 : Int) ≤ (1 : Int) ∧ (1 : Int) ≤ (↑a0.length : Int))
 (Let (List.drop (1 : Nat) a0) fun x1 =>
 C_r02_Read_3 a0 x1 (K_r02_Read_0 Q)))
 (C_r02_Read_3 a0 a0 (K_r02_Read_0 Q))))) : Call E0.P fn_r02_Read [(.imm (.str a0))] [] Q := fun_rule (envN E0 nt_r02_Read) (okE nt_r02_Read) 3 24 ac_r02_Read [.tmp 2, .tmp 3] ok_r02_Read _ _ Q rfl rfl (cast (by kernel_rfl) h)
/-! ### digits_Loose -/
noncomputable def ac_digits_Loose : AC := (annot [(4, [6, 7], [])] [2, 3] (codeOf Tryd.f25) 0).1
abbrev nt_digits_Loose : Nat := 23
def C_digits_Loose_4 (t6 : Int) (t7 : Int) (K : Ex → St → Prop) : Prop := CutOK 4 E0.P nt_digits_Loose (cbodyOf 4 ac_digits_Loose).code ⟨[(6, (.imm (.int .i64 t6))), (7, (.imm (.int .i64 t7)))], []⟩ K
def K_digits_Loose_0 (Q : AV → Heap → Prop) : Ex → St → Prop
 | .normal, st => finish E0.T [.tmp 2, .tmp 3] [] Q st
 | .exit i, st => False
 | .goto i, st => False
 | .ret, st => finish E0.T [.tmp 2, .tmp 3] [] Q st
theorem C_digits_Loose_4_of (t6 : Int) (t7 : Int) (K : Ex → St → Prop) (h :
 (K .ret ⟨[(2, (.imm (.int .i64 t6))), (3, (.imm (.int .i64 t7)))], []⟩)) : C_digits_Loose_4 t6 t7 K := cut_rule (envN E0 nt_digits_Loose) (okE nt_digits_Loose) 3 4 (cbodyOf 4 ac_digits_Loose) [] _ K rfl (cast (by kernel_rfl) h)
theorem K_digits_Loose_0_x0 (Q : AV → Heap → Prop) (t2 : Int) (t3 : Int) (h :
 (Q (.tup [(.imm (.int .i64 t2)), (.imm (.int .i64 t3))]) [])) : K_digits_Loose_0 Q .ret ⟨[(2, (.imm (.int .i64 t2))), (3, (.imm (.int .i64 t3)))], []⟩ := cast (by kernel_rfl) h
theorem ok_digits_Loose : FnOK E0.P 25 ac_digits_Loose.code nt_digits_Loose [.tmp 2, .tmp 3] := fn_ok _ _ Tryd.f25 [(4, [6, 7], [])] [2, 3] _ 23 Tryd.func25 (by kernel_rfl) (by kernel_rfl) (by kernel_rfl) (by kernel_rfl)
theorem F_digits_Loose_of (a0 : List UInt8) (Q : AV → Heap → Prop) (h :
 (Call E0.P fn_digits_signed [(.imm (.str a0)), (.imm (.str [(43 : UInt8), (45 : UInt8)]))] [] fun r0 g0 =>
 Req (g0 = [] ∧ r0 = .tup [.imm (.bool (rB (rT r0 (0 : Nat)))), .imm (.str (rS (rT r0 (1 : Nat))))])
 (Call E0.P fn_digits_Fixed [(.imm (.str (rS (rT r0 (1 : Nat)))))] [] fun r1 g1 =>
 Req (g1 = [] ∧
 r1 = .tup [.imm (.int .i64 (rI (rT r1 (0 : Nat)))), .imm (.int .i64 (rI (rT r1 (1 : Nat))))])
 (Br (rB (rT r0 (0 : Nat)))
 (C_digits_Loose_4 (IntKind.i64.wrap ((0 : Int) - rI (rT r1 (0 : Nat)))) (rI (rT r1 (1 : Nat))) (K_digits_Loose_0 Q))
 (C_digits_Loose_4 (rI (rT r1 (0 : Nat))) (rI (rT r1 (1 : Nat))) (K_digits_Loose_0 Q)))))) : Call E0.P fn_digits_Loose [(.imm (.str a0))] [] Q := fun_rule (envN E0 nt_digits_Loose) (okE nt_digits_Loose) 3 25 ac_digits_Loose [.tmp 2, .tmp 3] ok_digits_Loose _ _ Q rfl rfl (cast (by kernel_rfl) h)
/-! ### r02_Loose -/
noncomputable def ac_r02_Loose : AC := (annot [(3, [0, 4], []), (6, [5, 6], [])] [2, 3] (codeOf Tryd.f26) 0).1
abbrev nt_r02_Loose : Nat := 38
def C_r02_Loose_3 (t0 : List UInt8) (t4 : Bool) (K : Ex → St → Prop) : Prop := CutOK 3 E0.P nt_r02_Loose (cbodyOf 3 ac_r02_Loose).code ⟨[(0, (.imm (.str t0))), (4, (.imm (.bool t4)))], []⟩ K
def C_r02_Loose_6 (t5 : Int) (t6 : Int) (K : Ex → St → Prop) : Prop := CutOK 6 E0.P nt_r02_Loose (cbodyOf 6 ac_r02_Loose).code ⟨[(5, (.imm (.int .i64 t5))), (6, (.imm (.int .i64 t6)))], []⟩ K
def K_r02_Loose_0 (Q : AV → Heap → Prop) : Ex → St → Prop
 | .normal, st => finish E0.T [.tmp 2, .tmp 3] [] Q st
 | .exit i, st => False
 | .goto i, st => False
 | .ret, st => finish E0.T [.tmp 2, .tmp 3] [] Q st
def K_r02_Loose_1 (K : Ex → St → Prop) : Ex → St → Prop
 | .normal, st => K .normal (mask [] st)
 | .exit i, st => K (.exit i) st
 | .goto i, st => K (.goto i) st
 | .ret, st => K .ret st
theorem C_r02_Loose_3_of (t0 : List UInt8) (t4 : Bool) (K : Ex → St → Prop) (h :
 (Call E0.P fn_r02_Fixed [(.imm (.str t0))] [] fun r0 g0 =>
 Req (g0 = [] ∧
 r0 = .tup [.imm (.int .i64 (rI (rT r0 (0 : Nat)))), .imm (.int .i64 (rI (rT r0 (1 : Nat))))])
 (Br (t4)
 (C_r02_Loose_6 (IntKind.i64.wrap ((0 : Int) - rI (rT r0 (0 : Nat)))) (rI (rT r0 (1 : Nat))) (K_r02_Loose_1 K))
 (C_r02_Loose_6 (rI (rT r0 (0 : Nat))) (rI (rT r0 (1 : Nat))) (K_r02_Loose_1 K))))) : C_r02_Loose_3 t0 t4 K := cut_rule (envN E0 nt_r02_Loose) (okE nt_r02_Loose) 3 3 (cbodyOf 3 ac_r02_Loose) [] _ K rfl (cast (by kernel_rfl) h)
theorem C_r02_Loose_6_of (t5 : Int) (t6 : Int) (K : Ex → St → Prop) (h :
 (K .ret ⟨[(2, (.imm (.int .i64 t5))), (3, (.imm (.int .i64 t6)))], []⟩)) : C_r02_Loose_6 t5 t6 K := cut_rule (envN E0 nt_r02_Loose) (okE nt_r02_Loose) 3 6 (cbodyOf 6 ac_r02_Loose) [] _ K rfl (cast (by kernel_rfl) h)
theorem K_r02_Loose_0_x0 (Q : AV → Heap → Prop) (t2 : Int) (t3 : Int) (h :
 (Q (.tup [(.imm (.int .i64 t2)), (.imm (.int .i64 t3))]) [])) : K_r02_Loose_0 Q .ret ⟨[(2, (.imm (.int .i64 t2))), (3, (.imm (.int .i64 t3)))], []⟩ := cast (by kernel_rfl) h
theorem K_r02_Loose_1_x0 (K : Ex → St → Prop) (t2 : Int) (t3 : Int) (h :
 (K .ret ⟨[(2, (.imm (.int .i64 t2))), (3, (.imm (.int .i64 t3)))], []⟩)) : K_r02_Loose_1 K .ret ⟨[(2, (.imm (.int .i64 t2))), (3, (.imm (.int .i64 t3)))], []⟩ := cast (by kernel_rfl) h
theorem ok_r02_Loose : FnOK E0.P 26 ac_r02_Loose.code nt_r02_Loose [.tmp 2, .tmp 3] := fn_ok _ _ Tryd.f26 [(3, [0, 4], []), (6, [5, 6], [])] [2, 3] _ 38 Tryd.func26 (by kernel_rfl) (by kernel_rfl) (by kernel_rfl) (by kernel_rfl)
theorem F_r02_Loose_of (a0 : List UInt8) (Q : AV → Heap → Prop) (h :
 (Req ((!a0 == []) = true → (0 : Int) ≤ (0 : Int) ∧ (0 : Int) < (↑a0.length : Int))
 (Let (bif !a0 == [] then decide ((↑(a0.getD (0 : Nat) (0 : UInt8)).toNat : Int) = (45 : Int)) else false) fun x0 =>
 Req ((!a0 == []) = true → (0 : Int) ≤ (0 : Int) ∧ (0 : Int) < (↑a0.length : Int))
 (Br ((!a0 == []) == true)
 (Req (decide ((↑(a0.getD (0 : Nat) (0 : UInt8)).toNat : Int) = (43 : Int)) = false →
 (0 : Int) ≤ (0 : Int) ∧ (0 : Int) < (↑a0.length : Int))
 (Let (bif decide ((↑(a0.getD (0 : Nat) (0 : UInt8)).toNat : Int) = (43 : Int)) then true
 else decide ((↑(a0.getD (0 : Nat) (0 : UInt8)).toNat : Int) = (45 : Int))) fun x1 =>
 Let (x1) fun x2 =>
 Br (x2)
 (Req ((0 : Int) ≤ (1 : Int) ∧ (1 : Int) ≤ (↑a0.length : Int))
 (Let (List.drop (1 : Nat) a0) fun x3 =>
 C_r02_Loose_3 x3 x0 (K_r02_Loose_0 Q)))
 (C_r02_Loose_3 a0 x0 (K_r02_Loose_0 Q))))
 (Req ((!true) = false)
 (Let (false) fun x4 =>
 Br (x4)
 (Req ((0 : Int) ≤ (1 : Int) ∧ (1 : Int) ≤ (↑a0.length : Int))
 (Let (List.drop (1 : Nat) a0) fun x5 =>
 C_r02_Loose_3 x5 x0 (K_r02_Loose_0 Q)))
 (C_r02_Loose_3 a0 x0 (K_r02_Loose_0 Q)))))))) : Call E0.P fn_r02_Loose [(.imm (.str a0))] [] Q := fun_rule (envN E0 nt_r02_Loose) (okE nt_r02_Loose) 3 26 ac_r02_Loose [.tmp 2, .tmp 3] ok_r02_Loose _ _ Q rfl rfl (cast (by kernel_rfl) h)
/-! ### digits_Count -/
noncomputable def ac_digits_Count : AC := (annot [(2, [0, 6], []), (4, [0], []), (9, [0], [])] [2] (codeOf Tryd.f27) 0).1
abbrev nt_digits_Count : Nat := 17
def L_digits_Count_2 (t0 : List UInt8) (h6s : List UInt8) (h6p : Nat) (K : Ex → St → Prop) : Prop := LoopOK 2 E0.P nt_digits_Count (lbodyOf 2 ac_digits_Count).code ⟨[(0, (.imm (.str t0))), (6, (.ptr (Nm.loc (6 : Nat)) 0))], [((Nm.loc (6 : Nat)), (.sit h6s h6p))]⟩ K
def C_digits_Count_9 (t0 : List UInt8) (K : Ex → St → Prop) : Prop := CutOK 9 E0.P nt_digits_Count (cbodyOf 9 ac_digits_Count).code ⟨[(0, (.imm (.str t0)))], []⟩ K
def K_digits_Count_0 (Q : AV → Heap → Prop) : Ex → St → Prop
 | .normal, st => finish E0.T [.tmp 2] [] Q st
 | .exit i, st => False
 | .goto i, st => False
 | .ret, st => finish E0.T [.tmp 2] [] Q st
def K_digits_Count_1 (Q : AV → Heap → Prop) : Ex → St → Prop
 | .normal, st => CutOK 9 E0.P nt_digits_Count (cbodyOf 9 ac_digits_Count).code (mask [(0 : Nat)] st) (K_digits_Count_0 Q)
 | .exit i, st => (match (i.beq (0 : Nat) : Bool) with
 | true => CutOK 9 E0.P nt_digits_Count (cbodyOf 9 ac_digits_Count).code (mask [(0 : Nat)] st) (K_digits_Count_0 Q)
 | false => False)
 | .goto i, st => False
 | .ret, st => finish E0.T [.tmp 2] [] Q st
theorem L_digits_Count_2_of (t0 : List UInt8) (h6s : List UInt8) (h6p : Nat) (K : Ex → St → Prop) (h :
 (Br (decide (h6p < h6s.length))
 (Br (true)
 (Call E0.P fn_digits_digit [(.imm (.int .i32 ((↑(decodeAt h6s h6p).fst : Int))))] [] fun r0 g0 =>
 Req (g0 = [] ∧ r0 = .imm (.bool (rB r0)))
 (Br (!rB r0)
 (K .ret ⟨[(2, (.imm (.int .i64 ((↑h6p : Int)))))], []⟩)
 (L_digits_Count_2 t0 h6s (h6p + (decodeAt h6s h6p).snd) K)))
 (K (.exit 0) ⟨[(0, (.imm (.str t0)))], []⟩))
 (Br (false)
 (False)
 (K (.exit 0) ⟨[(0, (.imm (.str t0)))], []⟩)))) : L_digits_Count_2 t0 h6s h6p K := loop_rule (envN E0 nt_digits_Count) (okE nt_digits_Count) 3 2 (lbodyOf 2 ac_digits_Count) [0, 6] _ K rfl (cast (by kernel_rfl) h)
theorem C_digits_Count_9_of (t0 : List UInt8) (K : Ex → St → Prop) (h :
 (K .ret ⟨[(2, (.imm (.int .i64 ((↑t0.length : Int)))))], []⟩)) : C_digits_Count_9 t0 K := cut_rule (envN E0 nt_digits_Count) (okE nt_digits_Count) 3 9 (cbodyOf 9 ac_digits_Count) [] _ K rfl (cast (by kernel_rfl) h)
theorem K_digits_Count_0_x0 (Q : AV → Heap → Prop) (t2 : Int) (h :
 (Q (.imm (.int .i64 t2)) [])) : K_digits_Count_0 Q .ret ⟨[(2, (.imm (.int .i64 t2)))], []⟩ := cast (by kernel_rfl) h
theorem K_digits_Count_1_x0 (Q : AV → Heap → Prop) (t2 : Int) (h :
 (Q (.imm (.int .i64 t2)) [])) : K_digits_Count_1 Q .ret ⟨[(2, (.imm (.int .i64 t2)))], []⟩ := cast (by kernel_rfl) h
theorem K_digits_Count_1_x1 (Q : AV → Heap → Prop) (t0 : List UInt8) (h :
 (C_digits_Count_9 t0 (K_digits_Count_0 Q))) : K_digits_Count_1 Q (.exit 0) ⟨[(0, (.imm (.str t0)))], []⟩ := cast (by kernel_rfl) h
theorem ok_digits_Count : FnOK E0.P 27 ac_digits_Count.code nt_digits_Count [.tmp 2] := fn_ok _ _ Tryd.f27 [(2, [0, 6], []), (4, [0], []), (9, [0], [])] [2] _ 17 Tryd.func27 (by kernel_rfl) (by kernel_rfl) (by kernel_rfl) (by kernel_rfl)
theorem F_digits_Count_of (a0 : List UInt8) (Q : AV → Heap → Prop) (h :
 (L_digits_Count_2 a0 a0 0 (K_digits_Count_1 Q))) : Call E0.P fn_digits_Count [(.imm (.str a0))] [] Q := fun_rule (envN E0 nt_digits_Count) (okE nt_digits_Count) 3 27 ac_digits_Count [.tmp 2] ok_digits_Count _ _ Q rfl rfl (cast (by kernel_rfl) h)
/-! ### r02_Count -/
noncomputable def ac_r02_Count : AC := (annot [(2, [0, 3], []), (4, [3], []), (6, [3], [])] [2] (codeOf Tryd.f28) 0).1
abbrev nt_r02_Count : Nat := 23
def L_r02_Count_2 (t0 : List UInt8) (t3 : Int) (K : Ex → St → Prop) : Prop := LoopOK 2 E0.P nt_r02_Count (lbodyOf 2 ac_r02_Count).code ⟨[(0, (.imm (.str t0))), (3, (.imm (.int .i64 t3)))], []⟩ K
def C_r02_Count_6 (t3 : Int) (K : Ex → St → Prop) : Prop := CutOK 6 E0.P nt_r02_Count (cbodyOf 6 ac_r02_Count).code ⟨[(3, (.imm (.int .i64 t3)))], []⟩ K
def K_r02_Count_0 (Q : AV → Heap → Prop) : Ex → St → Prop
 | .normal, st => finish E0.T [.tmp 2] [] Q st
 | .exit i, st => False
 | .goto i, st => False
 | .ret, st => finish E0.T [.tmp 2] [] Q st
def K_r02_Count_1 (Q : AV → Heap → Prop) : Ex → St → Prop
 | .normal, st => CutOK 6 E0.P nt_r02_Count (cbodyOf 6 ac_r02_Count).code (mask [(3 : Nat)] st) (K_r02_Count_0 Q)
 | .exit i, st => (match (i.beq (0 : Nat) : Bool) with
 | true => CutOK 6 E0.P nt_r02_Count (cbodyOf 6 ac_r02_Count).code (mask [(3 : Nat)] st) (K_r02_Count_0 Q)
 | false => False)
 | .goto i, st => False
 | .ret, st => finish E0.T [.tmp 2] [] Q st
theorem L_r02_Count_2_of (t0 : List UInt8) (t3 : Int) (K : Ex → St → Prop) (h :
 (Req (decide (t3 < (↑t0.length : Int)) = true → (0 : Int) ≤ t3 ∧ t3 < (↑t0.length : Int))
 (Let (bif decide (t3 < (↑t0.length : Int)) then decide ((48 : Int) ≤ (↑(t0.getD t3.toNat (0 : UInt8)).toNat : Int)) else false) fun x0 =>
 Req (x0 = true → (0 : Int) ≤ t3 ∧ t3 < (↑t0.length : Int))
 (Let (bif x0 then decide ((↑(t0.getD t3.toNat (0 : UInt8)).toNat : Int) ≤ (57 : Int)) else false) fun x1 =>
 Br (x1)
 (L_r02_Count_2 t0 (IntKind.i64.wrap (t3 + (1 : Int))) K)
 (K (.exit 0) ⟨[(3, (.imm (.int .i64 t3)))], []⟩))))) : L_r02_Count_2 t0 t3 K := loop_rule (envN E0 nt_r02_Count) (okE nt_r02_Count) 3 2 (lbodyOf 2 ac_r02_Count) [0, 3] _ K rfl (cast (by kernel_rfl) h)
theorem C_r02_Count_6_of (t3 : Int) (K : Ex → St → Prop) (h :
 (K .ret ⟨[(2, (.imm (.int .i64 t3)))], []⟩)) : C_r02_Count_6 t3 K := cut_rule (envN E0 nt_r02_Count) (okE nt_r02_Count) 3 6 (cbodyOf 6 ac_r02_Count) [] _ K rfl (cast (by kernel_rfl) h)
theorem K_r02_Count_0_x0 (Q : AV → Heap → Prop) (t2 : Int) (h :
 (Q (.imm (.int .i64 t2)) [])) : K_r02_Count_0 Q .ret ⟨[(2, (.imm (.int .i64 t2)))], []⟩ := cast (by kernel_rfl) h
theorem K_r02_Count_1_x0 (Q : AV → Heap → Prop) (t3 : Int) (h :
 (C_r02_Count_6 t3 (K_r02_Count_0 Q))) : K_r02_Count_1 Q (.exit 0) ⟨[(3, (.imm (.int .i64 t3)))], []⟩ := cast (by kernel_rfl) h
theorem ok_r02_Count : FnOK E0.P 28 ac_r02_Count.code nt_r02_Count [.tmp 2] := fn_ok _ _ Tryd.f28 [(2, [0, 3], []), (4, [3], []), (6, [3], [])] [2] _ 23 Tryd.func28 (by kernel_rfl) (by kernel_rfl) (by kernel_rfl) (by kernel_rfl)
theorem F_r02_Count_of (a0 : List UInt8) (Q : AV → Heap → Prop) (h :
 (L_r02_Count_2 a0 ((0 : Int)) (K_r02_Count_1 Q))) : Call E0.P fn_r02_Count [(.imm (.str a0))] [] Q := fun_rule (envN E0 nt_r02_Count) (okE nt_r02_Count) 3 28 ac_r02_Count [.tmp 2] ok_r02_Count _ _ Q rfl rfl (cast (by kernel_rfl) h)
/-! ### digits_Fixed -/
noncomputable def ac_digits_Fixed : AC := (annot [(1, [0, 15], [0]), (3, [0], []), (7, [4, 5, 6], []), (9, [5], []), (15, [5], [])] [2, 3] (codeOf Tryd.f29) 0).1
abbrev nt_digits_Fixed : Nat := 31
def C_digits_Fixed_1 (t0 : List UInt8) (t15 : Bool) (K : Ex → St → Prop) : Prop := CutOK 1 E0.P nt_digits_Fixed (cbodyOf 1 ac_digits_Fixed).code ⟨[(0, (.imm (.str t0))), (15, (.imm (.bool t15)))], []⟩ K
def C_digits_Fixed_3 (t0 : List UInt8) (K : Ex → St → Prop) : Prop := CutOK 3 E0.P nt_digits_Fixed (cbodyOf 3 ac_digits_Fixed).code ⟨[(0, (.imm (.str t0)))], []⟩ K
def L_digits_Fixed_7 (t5 : Int) (t6 : Int) (h173_1 : Int) (h171_1 : List UInt8) (K : Ex → St → Prop) : Prop := LoopOK 7 E0.P nt_digits_Fixed (lbodyOf 7 ac_digits_Fixed).code ⟨[(4, (.fn 65 [(.ptr (Nm.sub (17 : Nat) (Nm.loc (3 : Nat))) 0), (.ptr (Nm.sub (17 : Nat) (Nm.loc (1 : Nat))) 0)])), (5, (.imm (.int .i64 t5))), (6, (.imm (.int .i64 t6)))], [((Nm.sub (17 : Nat) (Nm.loc (3 : Nat))), (.blk ty_int [(.imm (.int .i64 h173_1))])), ((Nm.sub (17 : Nat) (Nm.loc (1 : Nat))), (.blk ty_string [(.imm (.str h171_1))]))]⟩ K
def C_digits_Fixed_15 (t5 : Int) (K : Ex → St → Prop) : Prop := CutOK 15 E0.P nt_digits_Fixed (cbodyOf 15 ac_digits_Fixed).code ⟨[(5, (.imm (.int .i64 t5)))], []⟩ K
def K_digits_Fixed_0 (Q : AV → Heap → Prop) : Ex → St → Prop
 | .normal, st => finish E0.T [.tmp 2, .tmp 3] [] Q st
 | .exit i, st => False
 | .goto i, st => False
 | .ret, st => finish E0.T [.tmp 2, .tmp 3] [] Q st
def K_digits_Fixed_1 (Q : AV → Heap → Prop) : Ex → St → Prop
 | .normal, st => CutOK 3 E0.P nt_digits_Fixed (cbodyOf 3 ac_digits_Fixed).code (mask [(0 : Nat)] st) (K_digits_Fixed_0 Q)
 | .exit i, st => False
 | .goto i, st => False
 | .ret, st => finish E0.T [.tmp 2, .tmp 3] [] Q st
def K_digits_Fixed_2 (K : Ex → St → Prop) : Ex → St → Prop
 | .normal, st => K .normal (mask [] st)
 | .exit i, st => K (.exit i) st
 | .goto i, st => K (.goto i) st
 | .ret, st => K .ret st
def K_digits_Fixed_3 (K : Ex → St → Prop) : Ex → St → Prop
 | .normal, st => CutOK 15 E0.P nt_digits_Fixed (cbodyOf 15 ac_digits_Fixed).code (mask [(5 : Nat)] st) (K_digits_Fixed_2 K)
 | .exit i, st => (match (i.beq (0 : Nat) : Bool) with
 | true => CutOK 15 E0.P nt_digits_Fixed (cbodyOf 15 ac_digits_Fixed).code (mask [(5 : Nat)] st) (K_digits_Fixed_2 K)
 | false => K (.exit i) st)
 | .goto i, st => K (.goto i) st
 | .ret, st => K .ret st
theorem C_digits_Fixed_1_of (t0 : List UInt8) (t15 : Bool) (K : Ex → St → Prop) (h :
 (Br (t15)
 (K .ret ⟨[(2, (.imm (.int .i64 ((0 : Int))))), (3, (.imm (.int .i64 ((4 : Int)))))], []⟩)
 (K .normal ⟨[(0, (.imm (.str t0)))], []⟩))) : C_digits_Fixed_1 t0 t15 K := cut_rule (envN E0 nt_digits_Fixed) (okE nt_digits_Fixed) 3 1 (cbodyOf 1 ac_digits_Fixed) [0] _ K rfl (cast (by kernel_rfl) h)
theorem C_digits_Fixed_3_of (t0 : List UInt8) (K : Ex → St → Prop) (h :
 (Req (decide ((↑t0.length : Int) ≤ (0 : Int)) = false → (0 : Int) ≤ (0 : Int) ∧ (0 : Int) < (↑t0.length : Int))
 (Br (decide ((↑t0.length : Int) ≤ (0 : Int)) == false)
 (Call E0.P fn_digits_digit [(.imm (.int .i32 (IntKind.i32.wrap (↑(t0.getD (0 : Nat) (0 : UInt8)).toNat : Int))))] [] fun r0 g0 =>
 Req (g0 = [] ∧ r0 = .imm (.bool (rB r0)))
 (Let (!rB r0) fun x1 =>
 Br (x1)
 (L_digits_Fixed_7 ((0 : Int)) ((-1 : Int)) ((0 : Int)) t0 (K_digits_Fixed_3 K))
 (Req ((0 : Int) ≤ IntKind.i64.wrap (IntKind.i64.wrap ((0 : Int) + (1 : Int)) - (1 : Int)) ∧
 IntKind.i64.wrap (IntKind.i64.wrap ((0 : Int) + (1 : Int)) - (1 : Int)) < (↑t0.length : Int))
 (L_digits_Fixed_7 ((0 : Int)) (IntKind.i64.wrap (IntKind.u8.wrap ((↑(t0.getD (0 : Nat) (0 : UInt8)).toNat : Int) - (48 : Int)))) (IntKind.i64.wrap ((0 : Int) + (1 : Int))) t0 (K_digits_Fixed_3 K)))))
 (Req ((!false) = true)
 (Let (true) fun x2 =>
 Br (x2)
 (L_digits_Fixed_7 ((0 : Int)) ((-1 : Int)) ((0 : Int)) t0 (K_digits_Fixed_3 K))
 (Req ((0 : Int) ≤ IntKind.i64.wrap (IntKind.i64.wrap ((0 : Int) + (1 : Int)) - (1 : Int)) ∧
 IntKind.i64.wrap (IntKind.i64.wrap ((0 : Int) + (1 : Int)) - (1 : Int)) < (↑t0.length : Int))
 (L_digits_Fixed_7 ((0 : Int)) (IntKind.i64.wrap (IntKind.u8.wrap ((↑(t0.getD (0 : Nat) (0 : UInt8)).toNat : Int) - (48 : Int)))) (IntKind.i64.wrap ((0 : Int) + (1 : Int))) t0 (K_digits_Fixed_3 K)))))))) : C_digits_Fixed_3 t0 K := cut_rule (envN E0 nt_digits_Fixed) (okE nt_digits_Fixed) 3 3 (cbodyOf 3 ac_digits_Fixed) [] _ K rfl (cast (by kernel_rfl) h)
theorem L_digits_Fixed_7_of (t5 : Int) (t6 : Int) (h173_1 : Int) (h171_1 : List UInt8) (K : Ex → St → Prop) (h :
 (Br (decide ((0 : Int) ≤ t6))
 (Br (decide ((2147483647 : Int) < IntKind.i64.wrap (IntKind.i64.wrap ((10 : Int) * t5) + t6)))
 (K .ret ⟨[(2, (.imm (.int .i64 ((0 : Int))))), (3, (.imm (.int .i64 ((3 : Int)))))], []⟩)
 (Req (decide ((↑h171_1.length : Int) ≤ h173_1) = false → (0 : Int) ≤ h173_1 ∧ h173_1 < (↑h171_1.length : Int))
 (Br (decide ((↑h171_1.length : Int) ≤ h173_1) == false)
 (Call E0.P fn_digits_digit [(.imm (.int .i32 (IntKind.i32.wrap (↑(h171_1.getD h173_1.toNat (0 : UInt8)).toNat : Int))))] [] fun r0 g0 =>
 Req (g0 = [] ∧ r0 = .imm (.bool (rB r0)))
 (Let (!rB r0) fun x1 =>
 Br (x1)
 (L_digits_Fixed_7 (IntKind.i64.wrap (IntKind.i64.wrap ((10 : Int) * t5) + t6)) ((-1 : Int)) h173_1 h171_1 K)
 (Req ((0 : Int) ≤ IntKind.i64.wrap (IntKind.i64.wrap (h173_1 + (1 : Int)) - (1 : Int)) ∧
 IntKind.i64.wrap (IntKind.i64.wrap (h173_1 + (1 : Int)) - (1 : Int)) < (↑h171_1.length : Int))
 (L_digits_Fixed_7 (IntKind.i64.wrap (IntKind.i64.wrap ((10 : Int) * t5) + t6)) (IntKind.i64.wrap
 (IntKind.u8.wrap
 ((↑(h171_1.getD (IntKind.i64.wrap (IntKind.i64.wrap (h173_1 + (1 : Int)) - (1 : Int))).toNat (0 : UInt8)).toNat :
 Int) -
 (48 : Int)))) (IntKind.i64.wrap (h173_1 + (1 : Int))) h171_1 K))))
 (Req ((!false) = true)
 (Let (true) fun x2 =>
 Br (x2)
 (L_digits_Fixed_7 (IntKind.i64.wrap (IntKind.i64.wrap ((10 : Int) * t5) + t6)) ((-1 : Int)) h173_1 h171_1 K)
 (Req ((0 : Int) ≤ IntKind.i64.wrap (IntKind.i64.wrap (h173_1 + (1 : Int)) - (1 : Int)) ∧
 IntKind.i64.wrap (IntKind.i64.wrap (h173_1 + (1 : Int)) - (1 : Int)) < (↑h171_1.length : Int))
 (L_digits_Fixed_7 (IntKind.i64.wrap (IntKind.i64.wrap ((10 : Int) * t5) + t6)) (IntKind.i64.wrap
 (IntKind.u8.wrap
 ((↑(h171_1.getD (IntKind.i64.wrap (IntKind.i64.wrap (h173_1 + (1 : Int)) - (1 : Int))).toNat (0 : UInt8)).toNat :
 Int) -
 (48 : Int)))) (IntKind.i64.wrap (h173_1 + (1 : Int))) h171_1 K)))))))
 (K (.exit 0) ⟨[(5, (.imm (.int .i64 t5)))], []⟩))) : L_digits_Fixed_7 t5 t6 h173_1 h171_1 K := loop_rule (envN E0 nt_digits_Fixed) (okE nt_digits_Fixed) 3 7 (lbodyOf 7 ac_digits_Fixed) [4, 5, 6] _ K rfl (cast (by kernel_rfl) h)
theorem C_digits_Fixed_15_of (t5 : Int) (K : Ex → St → Prop) (h :
 (K .ret ⟨[(2, (.imm (.int .i64 t5))), (3, (.imm (.int .i64 ((0 : Int)))))], []⟩)) : C_digits_Fixed_15 t5 K := cut_rule (envN E0 nt_digits_Fixed) (okE nt_digits_Fixed) 3 15 (cbodyOf 15 ac_digits_Fixed) [] _ K rfl (cast (by kernel_rfl) h)
theorem K_digits_Fixed_0_x0 (Q : AV → Heap → Prop) (t2 : Int) (t3 : Int) (h :
 (Q (.tup [(.imm (.int .i64 t2)), (.imm (.int .i64 t3))]) [])) : K_digits_Fixed_0 Q .ret ⟨[(2, (.imm (.int .i64 t2))), (3, (.imm (.int .i64 t3)))], []⟩ := cast (by kernel_rfl) h
theorem K_digits_Fixed_1_x0 (Q : AV → Heap → Prop) (t2 : Int) (t3 : Int) (h :
 (Q (.tup [(.imm (.int .i64 t2)), (.imm (.int .i64 t3))]) [])) : K_digits_Fixed_1 Q .ret ⟨[(2, (.imm (.int .i64 t2))), (3, (.imm (.int .i64 t3)))], []⟩ := cast (by kernel_rfl) h
theorem K_digits_Fixed_1_x1 (Q : AV → Heap → Prop) (t0 : List UInt8) (h :
 (C_digits_Fixed_3 t0 (K_digits_Fixed_0 Q))) : K_digits_Fixed_1 Q .normal ⟨[(0, (.imm (.str t0)))], []⟩ := cast (by kernel_rfl) h
theorem K_digits_Fixed_2_x0 (K : Ex → St → Prop) (t2 : Int) (t3 : Int) (h :
 (K .ret ⟨[(2, (.imm (.int .i64 t2))), (3, (.imm (.int .i64 t3)))], []⟩)) : K_digits_Fixed_2 K .ret ⟨[(2, (.imm (.int .i64 t2))), (3, (.imm (.int .i64 t3)))], []⟩ := cast (by kernel_rfl) h
theorem K_digits_Fixed_3_x0 (K : Ex → St → Prop) (t2 : Int) (t3 : Int) (h :
 (K .ret ⟨[(2, (.imm (.int .i64 t2))), (3, (.imm (.int .i64 t3)))], []⟩)) : K_digits_Fixed_3 K .ret ⟨[(2, (.imm (.int .i64 t2))), (3, (.imm (.int .i64 t3)))], []⟩ := cast (by kernel_rfl) h
theorem K_digits_Fixed_3_x1 (K : Ex → St → Prop) (t5 : Int) (h :
 (C_digits_Fixed_15 t5 (K_digits_Fixed_2 K))) : K_digits_Fixed_3 K (.exit 0) ⟨[(5, (.imm (.int .i64 t5)))], []⟩ := cast (by kernel_rfl) h
theorem ok_digits_Fixed : FnOK E0.P 29 ac_digits_Fixed.code nt_digits_Fixed [.tmp 2, .tmp 3] := fn_ok _ _ Tryd.f29 [(1, [0, 15], [0]), (3, [0], []), (7, [4, 5, 6], []), (9, [5], []), (15, [5], [])] [2, 3] _ 31 Tryd.func29 (by kernel_rfl) (by kernel_rfl) (by kernel_rfl) (by kernel_rfl)
theorem F_digits_Fixed_of (a0 : List UInt8) (Q : AV → Heap → Prop) (h :
 (Br ((a0 == []) == false)
 (Call E0.P fn_digits_Count [(.imm (.str a0))] [] fun r0 g0 =>
 Req (g0 = [] ∧ r0 = .imm (.int .i64 (rI r0)))
 (Let (!decide (rI r0 = (↑a0.length : Int))) fun x1 =>
 C_digits_Fixed_1 a0 x1 (K_digits_Fixed_1 Q)))
 (Req ((!false) = true)
 (Let (true) fun x2 =>
 C_digits_Fixed_1 a0 x2 (K_digits_Fixed_1 Q))))) : Call E0.P fn_digits_Fixed [(.imm (.str a0))] [] Q := fun_rule (envN E0 nt_digits_Fixed) (okE nt_digits_Fixed) 3 29 ac_digits_Fixed [.tmp 2, .tmp 3] ok_digits_Fixed _ _ Q rfl rfl (cast (by kernel_rfl) h)
/-! ### r02_Fixed -/
noncomputable def ac_r02_Fixed : AC := (annot [(1, [0, 14], [0]), (3, [0], []), (6, [0, 4, 5], []), (8, [4], []), (14, [4], [])] [2, 3] (codeOf Tryd.f30) 0).1
abbrev nt_r02_Fixed : Nat := 32
def C_r02_Fixed_1 (t0 : List UInt8) (t14 : Bool) (K : Ex → St → Prop) : Prop := CutOK 1 E0.P nt_r02_Fixed (cbodyOf 1 ac_r02_Fixed).code ⟨[(0, (.imm (.str t0))), (14, (.imm (.bool t14)))], []⟩ K
def C_r02_Fixed_3 (t0 : List UInt8) (K : Ex → St → Prop) : Prop := CutOK 3 E0.P nt_r02_Fixed (cbodyOf 3 ac_r02_Fixed).code ⟨[(0, (.imm (.str t0)))], []⟩ K
def L_r02_Fixed_6 (t0 : List UInt8) (t4 : Int) (t5 : Int) (K : Ex → St → Prop) : Prop := LoopOK 6 E0.P nt_r02_Fixed (lbodyOf 6 ac_r02_Fixed).code ⟨[(0, (.imm (.str t0))), (4, (.imm (.int .i64 t4))), (5, (.imm (.int .i64 t5)))], []⟩ K
def C_r02_Fixed_14 (t4 : Int) (K : Ex → St → Prop) : Prop := CutOK 14 E0.P nt_r02_Fixed (cbodyOf 14 ac_r02_Fixed).code ⟨[(4, (.imm (.int .i64 t4)))], []⟩ K
def K_r02_Fixed_0 (Q : AV → Heap → Prop) : Ex → St → Prop
 | .normal, st => finish E0.T [.tmp 2, .tmp 3] [] Q st
 | .exit i, st => False
 | .goto i, st => False
 | .ret, st => finish E0.T [.tmp 2, .tmp 3] [] Q st
def K_r02_Fixed_1 (Q : AV → Heap → Prop) : Ex → St → Prop
 | .normal, st => CutOK 3 E0.P nt_r02_Fixed (cbodyOf 3 ac_r02_Fixed).code (mask [(0 : Nat)] st) (K_r02_Fixed_0 Q)
 | .exit i, st => False
 | .goto i, st => False
 | .ret, st => finish E0.T [.tmp 2, .tmp 3] [] Q st
def K_r02_Fixed_2 (K : Ex → St → Prop) : Ex → St → Prop
 | .normal, st => K .normal (mask [] st)
 | .exit i, st => K (.exit i) st
 | .goto i, st => K (.goto i) st
 | .ret, st => K .ret st
def K_r02_Fixed_3 (K : Ex → St → Prop) : Ex → St → Prop
 | .normal, st => CutOK 14 E0.P nt_r02_Fixed (cbodyOf 14 ac_r02_Fixed).code (mask [(4 : Nat)] st) (K_r02_Fixed_2 K)
 | .exit i, st => (match (i.beq (0 : Nat) : Bool) with
 | true => CutOK 14 E0.P nt_r02_Fixed (cbodyOf 14 ac_r02_Fixed).code (mask [(4 : Nat)] st) (K_r02_Fixed_2 K)
 | false => K (.exit i) st)
 | .goto i, st => K (.goto i) st
 | .ret, st => K .ret st
theorem C_r02_Fixed_1_of (t0 : List UInt8) (t14 : Bool) (K : Ex → St → Prop) (h :
 (Br (t14)
 (K .ret ⟨[(2, (.imm (.int .i64 ((0 : Int))))), (3, (.imm (.int .i64 ((4 : Int)))))], []⟩)
 (K .normal ⟨[(0, (.imm (.str t0)))], []⟩))) : C_r02_Fixed_1 t0 t14 K := cut_rule (envN E0 nt_r02_Fixed) (okE nt_r02_Fixed) 3 1 (cbodyOf 1 ac_r02_Fixed) [0] _ K rfl (cast (by kernel_rfl) h)
theorem C_r02_Fixed_3_of (t0 : List UInt8) (K : Ex → St → Prop) (h :
 (L_r02_Fixed_6 t0 ((0 : Int)) ((0 : Int)) (K_r02_Fixed_3 K))) : C_r02_Fixed_3 t0 K := cut_rule (envN E0 nt_r02_Fixed) (okE nt_r02_Fixed) 3 3 (cbodyOf 3 ac_r02_Fixed) [] _ K rfl (cast (by kernel_rfl) h)
theorem L_r02_Fixed_6_of (t0 : List UInt8) (t4 : Int) (t5 : Int) (K : Ex → St → Prop) (h :
 (Br (decide (t5 < (↑t0.length : Int)))
 (Req ((0 : Int) ≤ t5 ∧ t5 < (↑t0.length : Int))
 (Br (decide
 ((2147483647 : Int) <
 IntKind.i64.wrap
 (IntKind.i64.wrap
 (IntKind.i64.wrap ((10 : Int) * t4) + IntKind.i64.wrap (↑(t0.getD t5.toNat (0 : UInt8)).toNat : Int)) -
 (48 : Int))))
 (K .ret ⟨[(2, (.imm (.int .i64 ((0 : Int))))), (3, (.imm (.int .i64 ((3 : Int)))))], []⟩)
 (L_r02_Fixed_6 t0 (IntKind.i64.wrap
 (IntKind.i64.wrap
 (IntKind.i64.wrap ((10 : Int) * t4) + IntKind.i64.wrap (↑(t0.getD t5.toNat (0 : UInt8)).toNat : Int)) -
 (48 : Int))) (IntKind.i64.wrap (t5 + (1 : Int))) K)))
 (K (.exit 0) ⟨[(4, (.imm (.int .i64 t4)))], []⟩))) : L_r02_Fixed_6 t0 t4 t5 K := loop_rule (envN E0 nt_r02_Fixed) (okE nt_r02_Fixed) 3 6 (lbodyOf 6 ac_r02_Fixed) [0, 4, 5] _ K rfl (cast (by kernel_rfl) h)
theorem C_r02_Fixed_14_of (t4 : Int) (K : Ex → St → Prop) (h :
 (K .ret ⟨[(2, (.imm (.int .i64 t4))), (3, (.imm (.int .i64 ((0 : Int)))))], []⟩)) : C_r02_Fixed_14 t4 K := cut_rule (envN E0 nt_r02_Fixed) (okE nt_r02_Fixed) 3 14 (cbodyOf 14 ac_r02_Fixed) [] _ K rfl (cast (by kernel_rfl) h)
theorem K_r02_Fixed_0_x0 (Q : AV → Heap → Prop) (t2 : Int) (t3 : Int) (h :
 (Q (.tup [(.imm (.int .i64 t2)), (.imm (.int .i64 t3))]) [])) : K_r02_Fixed_0 Q .ret ⟨[(2, (.imm (.int .i64 t2))), (3, (.imm (.int .i64 t3)))], []⟩ := cast (by kernel_rfl) h
theorem K_r02_Fixed_1_x0 (Q : AV → Heap → Prop) (t2 : Int) (t3 : Int) (h :
 (Q (.tup [(.imm (.int .i64 t2)), (.imm (.int .i64 t3))]) [])) : K_r02_Fixed_1 Q .ret ⟨[(2, (.imm (.int .i64 t2))), (3, (.imm (.int .i64 t3)))], []⟩ := cast (by kernel_rfl) h
theorem K_r02_Fixed_1_x1 (Q : AV → Heap → Prop) (t0 : List UInt8) (h :
 (C_r02_Fixed_3 t0 (K_r02_Fixed_0 Q))) : K_r02_Fixed_1 Q .normal ⟨[(0, (.imm (.str t0)))], []⟩ := cast (by kernel_rfl) h
theorem K_r02_Fixed_2_x0 (K : Ex → St → Prop) (t2 : Int) (t3 : Int) (h :
 (K .ret ⟨[(2, (.imm (.int .i64 t2))), (3, (.imm (.int .i64 t3)))], []⟩)) : K_r02_Fixed_2 K .ret ⟨[(2, (.imm (.int .i64 t2))), (3, (.imm (.int .i64 t3)))], []⟩ := cast (by kernel_rfl) h
theorem K_r02_Fixed_3_x0 (K : Ex → St → Prop) (t2 : Int) (t3 : Int) (h :
 (K .ret ⟨[(2, (.imm (.int .i64 t2))), (3, (.imm (.int .i64 t3)))], []⟩)) : K_r02_Fixed_3 K .ret ⟨[(2, (.imm (.int .i64 t2))), (3, (.imm (.int .i64 t3)))], []⟩ := cast (by kernel_rfl) h
theorem K_r02_Fixed_3_x1 (K : Ex → St → Prop) (t4 : Int) (h :
 (C_r02_Fixed_14 t4 (K_r02_Fixed_2 K))) : K_r02_Fixed_3 K (.exit 0) ⟨[(4, (.imm (.int .i64 t4)))], []⟩ := cast (by kernel_rfl) h
theorem ok_r02_Fixed : FnOK E0.P 30 ac_r02_Fixed.code nt_r02_Fixed [.tmp 2, .tmp 3] := fn_ok _ _ Tryd.f30 [(1, [0, 14], [0]), (3, [0], []), (6, [0, 4, 5], []), (8, [4], []), (14, [4], [])] [2, 3] _ 32 Tryd.func30 (by kernel_rfl) (by kernel_rfl) (by kernel_rfl) (by kernel_rfl)
theorem F_r02_Fixed_of (a0 : List UInt8) (Q : AV → Heap → Prop) (h :
 (Br ((a0 == []) == false)
 (Call E0.P fn_r02_Count [(.imm (.str a0))] [] fun r0 g0 =>
 Req (g0 = [] ∧ r0 = .imm (.int .i64 (rI r0)))
 (Let (!decide (rI r0 = (↑a0.length : Int))) fun x1 =>
 C_r02_Fixed_1 a0 x1 (K_r02_Fixed_1 Q)))
 (Req ((!false) = true)
 (Let (true) fun x2 =>
 C_r02_Fixed_1 a0 x2 (K_r02_Fixed_1 Q))))) : Call E0.P fn_r02_Fixed [(.imm (.str a0))] [] Q := fun_rule (envN E0 nt_r02_Fixed) (okE nt_r02_Fixed) 3 30 ac_r02_Fixed [.tmp 2, .tmp 3] ok_r02_Fixed _ _ Q rfl rfl (cast (by kernel_rfl) h)
/-! ### digits_signed -/
noncomputable def ac_digits_signed : AC := (annot [(1, [0, 14], [0]), (3, [0], [])] [4, 5] (codeOf Tryd.f47) 0).1
abbrev nt_digits_signed : Nat := 21
def C_digits_signed_1 (t0 : List UInt8) (t14 : Bool) (K : Ex → St → Prop) : Prop := CutOK 1 E0.P nt_digits_signed (cbodyOf 1 ac_digits_signed).code ⟨[(0, (.imm (.str t0))), (14, (.imm (.bool t14)))], []⟩ K
def C_digits_signed_3 (t0 : List UInt8) (K : Ex → St → Prop) : Prop := CutOK 3 E0.P nt_digits_signed (cbodyOf 3 ac_digits_signed).code ⟨[(0, (.imm (.str t0)))], []⟩ K
def K_digits_signed_0 (Q : AV → Heap → Prop) : Ex → St → Prop
 | .normal, st => finish E0.T [.tmp 4, .tmp 5] [] Q st
 | .exit i, st => False
 | .goto i, st => False
 | .ret, st => finish E0.T [.tmp 4, .tmp 5] [] Q st
def K_digits_signed_1 (Q : AV → Heap → Prop) : Ex → St → Prop
 | .normal, st => CutOK 3 E0.P nt_digits_signed (cbodyOf 3 ac_digits_signed).code (mask [(0 : Nat)] st) (K_digits_signed_0 Q)
 | .exit i, st => False
 | .goto i, st => False
 | .ret, st => finish E0.T [.tmp 4, .tmp 5] [] Q st
theorem C_digits_signed_1_of (t0 : List UInt8) (t14 : Bool) (K : Ex → St → Prop) (h :
 (Br (t14)
 (K .ret ⟨[(4, (.imm (.bool false))), (5, (.imm (.str t0)))], []⟩)
 (K .normal ⟨[(0, (.imm (.str t0)))], []⟩))) : C_digits_signed_1 t0 t14 K := cut_rule (envN E0 nt_digits_signed) (okE nt_digits_signed) 3 1 (cbodyOf 1 ac_digits_signed) [0] _ K rfl (cast (by kernel_rfl) h)
theorem C_digits_signed_3_of (t0 : List UInt8) (K : Ex → St → Prop) (h :
 (Req ((0 : Int) ≤ (0 : Int) ∧ (0 : Int) < (↑t0.length : Int))
 (Req ((0 : Int) ≤ (1 : Int) ∧ (1 : Int) ≤ (↑t0.length : Int))
 (Let (List.drop (1 : Nat) t0) fun x0 =>
 K .ret ⟨[(4, (.imm (.bool (decide ((↑(t0.getD (0 : Nat) (0 : UInt8)).toNat : Int) = (45 : Int)))))), (5, (.imm (.str x0)))], []⟩)))) : C_digits_signed_3 t0 K := cut_rule (envN E0 nt_digits_signed) (okE nt_digits_signed) 3 3 (cbodyOf 3 ac_digits_signed) [] _ K rfl (cast (by kernel_rfl) h)
theorem K_digits_signed_0_x0 (Q : AV → Heap → Prop) (t4 : Bool) (t5 : List UInt8) (h :
 (Q (.tup [(.imm (.bool t4)), (.imm (.str t5))]) [])) : K_digits_signed_0 Q .ret ⟨[(4, (.imm (.bool t4))), (5, (.imm (.str t5)))], []⟩ := cast (by kernel_rfl) h
theorem K_digits_signed_1_x0 (Q : AV → Heap → Prop) (t4 : Bool) (t5 : List UInt8) (h :
 (Q (.tup [(.imm (.bool t4)), (.imm (.str t5))]) [])) : K_digits_signed_1 Q .ret ⟨[(4, (.imm (.bool t4))), (5, (.imm (.str t5)))], []⟩ := cast (by kernel_rfl) h
theorem K_digits_signed_1_x1 (Q : AV → Heap → Prop) (t0 : List UInt8) (h :
 (C_digits_signed_3 t0 (K_digits_signed_0 Q))) : K_digits_signed_1 Q .normal ⟨[(0, (.imm (.str t0)))], []⟩ := cast (by kernel_rfl) h
theorem ok_digits_signed : FnOK E0.P 47 ac_digits_signed.code nt_digits_signed [.tmp 4, .tmp 5] := fn_ok _ _ Tryd.f47 [(1, [0, 14], [0]), (3, [0], [])] [4, 5] _ 21 Tryd.func47 (by kernel_rfl) (by kernel_rfl) (by kernel_rfl) (by kernel_rfl)
theorem F_digits_signed_of (a0 : List UInt8) (a1 : List UInt8) (Q : AV → Heap → Prop) (h :
 (Req ((a0 == []) = false → (0 : Int) ≤ (1 : Int) ∧ (1 : Int) ≤ (↑a0.length : Int))
 (Let (List.take (1 : Nat) a0) fun x0 =>
 Br ((a0 == []) == false)
 (Call E0.P fn_strings_Contains [(.imm (.str a1)), (.imm (.str x0))] [] fun r1 g1 =>
 Req (g1 = [] ∧ r1 = .imm (.bool (rB r1)))
 (Let (!rB r1) fun x2 =>
 C_digits_signed_1 a0 x2 (K_digits_signed_1 Q)))
 (Req ((!false) = true)
 (Let (true) fun x3 =>
 C_digits_signed_1 a0 x3 (K_digits_signed_1 Q)))))) : Call E0.P fn_digits_signed [(.imm (.str a0)), (.imm (.str a1))] [] Q := fun_rule (envN E0 nt_digits_signed) (okE nt_digits_signed) 3 47 ac_digits_signed [.tmp 4, .tmp 5] ok_digits_signed _ _ Q rfl rfl (cast (by kernel_rfl) h)
/-! ### digits_held -/
noncomputable def ac_digits_held : AC := (annot [] [2] (codeOf Tryd.f49) 0).1
abbrev nt_digits_held : Nat := 9
theorem ok_digits_held : FnOK E0.P 49 ac_digits_held.code nt_digits_held [.tmp 2] := fn_ok _ _ Tryd.f49 [] [2] _ 9 Tryd.func49 (by kernel_rfl) (by kernel_rfl) (by kernel_rfl) (by kernel_rfl)
theorem F_digits_held_of (a0 : Int) (Q : AV → Heap → Prop) (h :
 (Let (bif decide ((-2147483647 : Int) ≤ a0) then decide (a0 ≤ (2147483647 : Int)) else false) fun x0 =>
 Q (.imm (.bool x0)) [])) : Call E0.P fn_digits_held [(.imm (.int .i64 a0))] [] Q := fun_rule (envN E0 nt_digits_held) (okE nt_digits_held) 3 49 ac_digits_held [.tmp 2] ok_digits_held _ _ Q rfl rfl (cast (by kernel_rfl) h)
/-! ### r02_whole -/
noncomputable def ac_r02_whole : AC := (annot [(3, [0, 4], []), (6, [0, 4, 5], [])] [2, 3] (codeOf Tryd.f50) 0).1
abbrev nt_r02_whole : Nat := 27
def C_r02_whole_3 (t0 : List UInt8) (t4 : List UInt8) (K : Ex → St → Prop) : Prop := CutOK 3 E0.P nt_r02_whole (cbodyOf 3 ac_r02_whole).code ⟨[(0, (.imm (.str t0))), (4, (.imm (.str t4)))], []⟩ K
def C_r02_whole_6 (t0 : List UInt8) (t4 : List UInt8) (t5 : List UInt8) (K : Ex → St → Prop) : Prop := CutOK 6 E0.P nt_r02_whole (cbodyOf 6 ac_r02_whole).code ⟨[(0, (.imm (.str t0))), (4, (.imm (.str t4))), (5, (.imm (.str t5)))], []⟩ K
def K_r02_whole_0 (Q : AV → Heap → Prop) : Ex → St → Prop
 | .normal, st => finish E0.T [.tmp 2, .tmp 3] [] Q st
 | .exit i, st => False
 | .goto i, st => False
 | .ret, st => finish E0.T [.tmp 2, .tmp 3] [] Q st
def K_r02_whole_1 (K : Ex → St → Prop) : Ex → St → Prop
 | .normal, st => K .normal (mask [] st)
 | .exit i, st => K (.exit i) st
 | .goto i, st => K (.goto i) st
 | .ret, st => K .ret st
theorem C_r02_whole_3_of (t0 : List UInt8) (t4 : List UInt8) (K : Ex → St → Prop) (h :
 (Req ((0 : Int) ≤ (0 : Int) ∧ (0 : Int) < (↑t0.length : Int))
 (Br (decide ((↑(t0.getD (0 : Nat) (0 : UInt8)).toNat : Int) = (45 : Int)))
 (C_r02_whole_6 t0 t4 [(57 : UInt8), (50 : UInt8), (50 : UInt8), (51 : UInt8), (51 : UInt8), (55 : UInt8), (50 : UInt8), (48 : UInt8),
 (51 : UInt8), (54 : UInt8), (56 : UInt8), (53 : UInt8), (52 : UInt8), (55 : UInt8), (55 : UInt8), (53 : UInt8),
 (56 : UInt8), (48 : UInt8), (56 : UInt8)] (K_r02_whole_1 K))
 (C_r02_whole_6 t0 t4 [(57 : UInt8), (50 : UInt8), (50 : UInt8), (51 : UInt8), (51 : UInt8), (55 : UInt8), (50 : UInt8), (48 : UInt8),
 (51 : UInt8), (54 : UInt8), (56 : UInt8), (53 : UInt8), (52 : UInt8), (55 : UInt8), (55 : UInt8), (53 : UInt8),
 (56 : UInt8), (48 : UInt8), (55 : UInt8)] (K_r02_whole_1 K))))) : C_r02_whole_3 t0 t4 K := cut_rule (envN E0 nt_r02_whole) (okE nt_r02_whole) 3 3 (cbodyOf 3 ac_r02_whole) [] _ K rfl (cast (by kernel_rfl) h)
theorem C_r02_whole_6_of (t0 : List UInt8) (t4 : List UInt8) (t5 : List UInt8) (K : Ex → St → Prop) (h :
 (Let (bif decide ((↑t4.length : Int) = (19 : Int)) then !(Op.bytesLess t4 t5 || t4 == t5) else false) fun x0 =>
 Br (x0)
 (K .ret ⟨[(2, (.imm (.int .i64 ((0 : Int))))), (3, (.imm (.int .i64 ((4 : Int)))))], []⟩)
 (Call E0.P fn_r02_Loose [(.imm (.str t0))] [] fun r1 g1 =>
 Req (g1 = [] ∧
 r1 = .tup [.imm (.int .i64 (rI (rT r1 (0 : Nat)))), .imm (.int .i64 (rI (rT r1 (1 : Nat))))])
 (K .ret ⟨[(2, (.imm (.int .i64 (rI (rT r1 (0 : Nat)))))), (3, (.imm (.int .i64 (rI (rT r1 (1 : Nat))))))], []⟩)))) : C_r02_whole_6 t0 t4 t5 K := cut_rule (envN E0 nt_r02_whole) (okE nt_r02_whole) 3 6 (cbodyOf 6 ac_r02_whole) [] _ K rfl (cast (by kernel_rfl) h)
theorem K_r02_whole_0_x0 (Q : AV → Heap → Prop) (t2 : Int) (t3 : Int) (h :
 (Q (.tup [(.imm (.int .i64 t2)), (.imm (.int .i64 t3))]) [])) : K_r02_whole_0 Q .ret ⟨[(2, (.imm (.int .i64 t2))), (3, (.imm (.int .i64 t3)))], []⟩ := cast (by kernel_rfl) h
theorem K_r02_whole_1_x0 (K : Ex → St → Prop) (t2 : Int) (t3 : Int) (h :
 (K .ret ⟨[(2, (.imm (.int .i64 t2))), (3, (.imm (.int .i64 t3)))], []⟩)) : K_r02_whole_1 K .ret ⟨[(2, (.imm (.int .i64 t2))), (3, (.imm (.int .i64 t3)))], []⟩ := cast (by kernel_rfl) h
theorem ok_r02_whole : FnOK E0.P 50 ac_r02_whole.code nt_r02_whole [.tmp 2, .tmp 3] := fn_ok _ _ Tryd.f50 [(3, [0, 4], []), (6, [0, 4, 5], [])] [2, 3] _ 27 Tryd.func50 (by kernel_rfl) (by kernel_rfl) (by kernel_rfl) (by kernel_rfl)
theorem F_r02_whole_of (a0 : List UInt8) (Q : AV → Heap → Prop) (h :
 (Req ((0 : Int) ≤ (0 : Int) ∧ (0 : Int) < (↑a0.length : Int))
 (Br (decide ((↑(a0.getD (0 : Nat) (0 : UInt8)).toNat : Int) = (45 : Int)))
 (Req ((0 : Int) ≤ (1 : Int) ∧ (1 : Int) ≤ (↑a0.length : Int))
 (Let (List.drop (1 : Nat) a0) fun x0 =>
 C_r02_whole_3 a0 x0 (K_r02_whole_0 Q)))
 (C_r02_whole_3 a0 a0 (K_r02_whole_0 Q))))) : Call E0.P fn_r02_whole [(.imm (.str a0))] [] Q := fun_rule (envN E0 nt_r02_whole) (okE nt_r02_whole) 3 50 ac_r02_whole [.tmp 2, .tmp 3] ok_r02_whole _ _ Q rfl rfl (cast (by kernel_rfl) h)
/-! ### digits_digit -/
noncomputable def ac_digits_digit : AC := (annot [] [2] (codeOf Tryd.f51) 0).1
abbrev nt_digits_digit : Nat := 9
theorem ok_digits_digit : FnOK E0.P 51 ac_digits_digit.code nt_digits_digit [.tmp 2] := fn_ok _ _ Tryd.f51 [] [2] _ 9 Tryd.func51 (by kernel_rfl) (by kernel_rfl) (by kernel_rfl) (by kernel_rfl)
theorem F_digits_digit_of (a0 : Int) (Q : AV → Heap → Prop) (h :
 (Let (bif decide ((48 : Int) ≤ a0) then decide (a0 ≤ (57 : Int)) else false) fun x0 =>
 Q (.imm (.bool x0)) [])) : Call E0.P fn_digits_digit [(.imm (.int .i32 a0))] [] Q := fun_rule (envN E0 nt_digits_digit) (okE nt_digits_digit) 3 51 ac_digits_digit [.tmp 2] ok_digits_digit _ _ Q rfl rfl (cast (by kernel_rfl) h)
end
end Go.Proofs.Sim.Se

import Derived.Test.YtcdjheflchglaaaDoorSeatBase
set_option linter.unusedVariables false
set_option maxRecDepth 100000
namespace Go.Proofs.Sim.Se
open Go Go.Proofs Go.Proofs.Sim
noncomputable section
noncomputable def ac_l17_WriteTells : AC := (annot [] [2] (codeOf Tryd.f4) 0).1
abbrev nt_l17_WriteTells : Nat := 32
theorem ok_l17_WriteTells : FnOK E0.P 4 ac_l17_WriteTells.code nt_l17_WriteTells [.tmp 2] := fn_ok _ _ Tryd.f4 [] [2] _ 32 Tryd.func4 (by kernel_rfl) (by kernel_rfl) (by kernel_rfl) (by kernel_rfl)
theorem F_l17_WriteTells_of (a0_0 a0_1 a0_2 : Int) (a0_3 : List UInt8) (a0_4 a0_5 : LL) (Q : QQ) (h :
 (Call E0.P fn_r16_Few [(.imm (.agg [(.int .i64 a0_0), (.int .i64 a0_1), (.int .i64 a0_2), (.str a0_3), (.sl .any 6 a0_4), (.sl .any 7 a0_5)])), (Ai 500)] [] fun r0 g0 =>
 Req (g0 = [] ∧ r0 = .imm (.bool (rB r0)))
 (Br (!rB r0)
 (Call E0.P fn_l17_written [] [] fun r1 g1 =>
 Req (g1 = [] ∧ r1 = .imm (.bool (rB r1)))
 (Q (Ab (rB r1)) []))
 (Call E0.P fn_write_Text [(.imm (.agg [(.int .i64 a0_0), (.int .i64 a0_1), (.int .i64 a0_2), (.str a0_3), (.sl .any 6 a0_4), (.sl .any 7 a0_5)]))] [] fun r2 g2 =>
 Req (g2 = [] ∧ r2 = .tup [.imm (.str (rS (rT r2 0))), .imm (.int .i64 (rI (rT r2 1)))])
 (Call E0.P fn_r17_Text [(.imm (.agg [(.int .i64 a0_0), (.int .i64 a0_1), (.int .i64 a0_2), (.str a0_3), (.sl .any 6 a0_4), (.sl .any 7 a0_5)]))] [] fun r3 g3 =>
 Req (g3 = [] ∧ r3 = .tup [.imm (.str (rS (rT r3 0))), .imm (.int .i64 (rI (rT r3 1)))])
 (Let (bif rS (rT r2 0) == rS (rT r3 0) then decide (rI (rT r2 1) = rI (rT r3 1)) else false) fun x4 =>
 Br (x4 == true)
 (Call E0.P fn_l17_written [] [] fun r5 g5 =>
 Req (g5 = [] ∧ r5 = .imm (.bool (rB r5)))
 (Let (rB r5) fun x6 =>
 Q (Ab x6) []))
 (Req ((!true) = false)
 (Let (false) fun x7 =>
 Q (Ab x7) [])))))))) : Call E0.P fn_l17_WriteTells [(.imm (.agg [(.int .i64 a0_0), (.int .i64 a0_1), (.int .i64 a0_2), (.str a0_3), (.sl .any 6 a0_4), (.sl .any 7 a0_5)]))] [] Q := fun_rule (envN E0 nt_l17_WriteTells) (okE nt_l17_WriteTells) 3 0 4 ac_l17_WriteTells [.tmp 2] ok_l17_WriteTells _ _ Q rfl rfl (kr (by kernel_rfl) h)
noncomputable def ac_l17_written : AC := (annot [] [0] (codeOf Tryd.f15) 0).1
abbrev nt_l17_written : Nat := 43
theorem ok_l17_written : FnOK E0.P 15 ac_l17_written.code nt_l17_written [.tmp 0] := fn_ok _ _ Tryd.f15 [] [0] _ 43 Tryd.func15 (by kernel_rfl) (by kernel_rfl) (by kernel_rfl) (by kernel_rfl)
theorem F_l17_written_of (Q : QQ) (h :
 (Call E0.P fn_write_Text [(.imm (.agg [(.int .i64 6), (.int .i64 0), (.int .i64 0), (.str []), (.sl .any 6 []), (.sl .any 7 [[IV.str [66], .int .i64 (5 : Int), .int .i64 (0 : Int), .int .i64 (0 : Int),
 .str [],
 .sl SK.any 6
 [[IV.int .i64 (2 : Int), .int .i64 (1 : Int), .int .i64 (0 : Int), .str [],
 .sl SK.any 6 [], .sl SK.any 7 []],
 [.int .i64 (7 : Int), .int .i64 (2 : Int), .int .i64 (0 : Int), .str [],
 .sl SK.any 6 [], .sl SK.any 7 []]],
 .sl SK.any 7 []],
 [.str [65, 35], .int .i64 (4 : Int), .int .i64 (0 : Int),
 .int .i64 (0 : Int), .str [97, 40, 98], .sl SK.any 6 [],
 .sl SK.any 7 []]])]))] [] fun r0 g0 =>
 Req (g0 = [] ∧ r0 = .tup [.imm (.str (rS (rT r0 0))), .imm (.int .i64 (rI (rT r0 1)))])
 (Call E0.P fn_write_Text [(.imm (.agg [(.int .i64 8), (.int .i64 0), (.int .i64 0), (.str []), (.sl .any 6 []), (.sl .any 7 [])]))] [] fun r1 g1 =>
 Req (g1 = [] ∧ r1 = .tup [.imm (.str (rS (rT r1 0))), .imm (.int .i64 (rI (rT r1 1)))])
 (Let (bif
 rS (rT r0 0) ==
 [(60 : UInt8), 60, 47, 65, 35, 50, 51, 32,
 40, 97, 92, 40, 98, 41, 32, 47,
 66, 32, 91, 49, 32, 50, 32, 48,
 32, 82, 93, 62, 62] then
 decide (rI (rT r0 1) = (0 : Int))
 else false) fun x2 =>
 Let (bif x2 then decide (rI (rT r1 1) = (10 : Int)) else false) fun x3 =>
 Br (x3 == true)
 (Call E0.P fn_write_Bytes [(.imm (.str [10]))] [] fun r4 g4 =>
 Req (g4 = [] ∧ r4 = .imm (.str (rS r4)))
 (Let (rS r4 == [(60 : UInt8), 48, 65, 62]) fun x5 =>
 Br (x5 == true)
 (Call E0.P fn_write_Name [(.imm (.str [97, 32, 98]))] [] fun r6 g6 =>
 Req (g6 = [] ∧ r6 = .imm (.str (rS r6)))
 (Let (rS r6 == [(47 : UInt8), 97, 35, 50, 48, 98]) fun x7 =>
 Q (Ab x7) []))
 (Req ((!true) = false)
 (Let (false) fun x8 =>
 Q (Ab x8) []))))
 (Req ((!true) = false)
 (Let (false) fun x9 =>
 Br (x9 == true)
 (Call E0.P fn_write_Name [(.imm (.str [97, 32, 98]))] [] fun r10 g10 =>
 Req (g10 = [] ∧ r10 = .imm (.str (rS r10)))
 (Let (rS r10 == [(47 : UInt8), 97, 35, 50, 48, 98]) fun x11 =>
 Q (Ab x11) []))
 (Req ((!true) = false)
 (Let (false) fun x12 =>
 Q (Ab x12) [])))))))) : Call E0.P fn_l17_written [] [] Q := fun_rule (envN E0 nt_l17_written) (okE nt_l17_written) 3 0 15 ac_l17_written [.tmp 0] ok_l17_written _ _ Q rfl rfl (kr (by kernel_rfl) h)
noncomputable def ac_write_Text : AC := (annot [] [2, 3] (codeOf Tryd.f16) 0).1
abbrev nt_write_Text : Nat := 13
theorem ok_write_Text : FnOK E0.P 16 ac_write_Text.code nt_write_Text [.tmp 2, .tmp 3] := fn_ok _ _ Tryd.f16 [] [2, 3] _ 13 Tryd.func16 (by kernel_rfl) (by kernel_rfl) (by kernel_rfl) (by kernel_rfl)
theorem F_write_Text_of (a0_0 a0_1 a0_2 : Int) (a0_3 : List UInt8) (a0_4 a0_5 : LL) (Q : QQ) (h :
 (Call E0.P fn_value_Check [(.imm (.agg [(.int .i64 a0_0), (.int .i64 a0_1), (.int .i64 a0_2), (.str a0_3), (.sl .any 6 a0_4), (.sl .any 7 a0_5)])), (Ab false)] [] fun r0 g0 =>
 Req (g0 = [] ∧ r0 = .imm (.int .i64 (rI r0)))
 (Br (!decide (rI r0 = (0 : Int)))
 (Q (.tup [(.imm (.str [])), (Ai (rI r0))]) [])
 (Call E0.P fn_value_Plain [(.imm (.agg [(.int .i64 a0_0), (.int .i64 a0_1), (.int .i64 a0_2), (.str a0_3), (.sl .any 6 a0_4), (.sl .any 7 a0_5)]))] [] fun r1 g1 =>
 Req (g1 = [] ∧
 r1 =
 .imm
 (IV.agg
 [.int .i64 (gI (aCells r1) 0), .int .i64 (gI (aCells r1) 1),
 .int .i64 (gI (aCells r1) 2), .str (gS (aCells r1) 3),
 .sl SK.any 6 (gR (aCells r1) 4), .sl SK.any 7 (gR (aCells r1) 5)]))
 (Call E0.P fn_write_plain [(.imm (.agg [(.int .i64 (gI (aCells r1) 0)), (.int .i64 (gI (aCells r1) 1)), (.int .i64 (gI (aCells r1) 2)), (.str (gS (aCells r1) 3)), (.sl .any 6 (gR (aCells r1) 4)), (.sl .any 7 (gR (aCells r1) 5))]))] [] fun r2 g2 =>
 Req (g2 = [] ∧ r2 = .imm (.str (rS r2)))
 (Q (.tup [(As (rS r2)), (Ai 0)]) [])))))) : Call E0.P fn_write_Text [(.imm (.agg [(.int .i64 a0_0), (.int .i64 a0_1), (.int .i64 a0_2), (.str a0_3), (.sl .any 6 a0_4), (.sl .any 7 a0_5)]))] [] Q := fun_rule (envN E0 nt_write_Text) (okE nt_write_Text) 3 0 16 ac_write_Text [.tmp 2, .tmp 3] ok_write_Text _ _ Q rfl rfl (kr (by kernel_rfl) h)
noncomputable def ac_r17_Text : AC := (annot [] [2, 3] (codeOf Tryd.f17) 0).1
abbrev nt_r17_Text : Nat := 13
theorem ok_r17_Text : FnOK E0.P 17 ac_r17_Text.code nt_r17_Text [.tmp 2, .tmp 3] := fn_ok _ _ Tryd.f17 [] [2, 3] _ 13 Tryd.func17 (by kernel_rfl) (by kernel_rfl) (by kernel_rfl) (by kernel_rfl)
theorem F_r17_Text_of (a0_0 a0_1 a0_2 : Int) (a0_3 : List UInt8) (a0_4 a0_5 : LL) (Q : QQ) (h :
 (Call E0.P fn_r16_Check [(.imm (.agg [(.int .i64 a0_0), (.int .i64 a0_1), (.int .i64 a0_2), (.str a0_3), (.sl .any 6 a0_4), (.sl .any 7 a0_5)])), (Ab false)] [] fun r0 g0 =>
 Req (g0 = [] ∧ r0 = .imm (.int .i64 (rI r0)))
 (Br (!decide (rI r0 = (0 : Int)))
 (Q (.tup [(.imm (.str [])), (Ai (rI r0))]) [])
 (Call E0.P fn_r16_Plain [(.imm (.agg [(.int .i64 a0_0), (.int .i64 a0_1), (.int .i64 a0_2), (.str a0_3), (.sl .any 6 a0_4), (.sl .any 7 a0_5)]))] [] fun r1 g1 =>
 Req (g1 = [] ∧
 r1 =
 .imm
 (IV.agg
 [.int .i64 (gI (aCells r1) 0), .int .i64 (gI (aCells r1) 1),
 .int .i64 (gI (aCells r1) 2), .str (gS (aCells r1) 3),
 .sl SK.any 6 (gR (aCells r1) 4), .sl SK.any 7 (gR (aCells r1) 5)]))
 (Call E0.P fn_r17_plain [(.imm (.agg [(.int .i64 (gI (aCells r1) 0)), (.int .i64 (gI (aCells r1) 1)), (.int .i64 (gI (aCells r1) 2)), (.str (gS (aCells r1) 3)), (.sl .any 6 (gR (aCells r1) 4)), (.sl .any 7 (gR (aCells r1) 5))]))] [] fun r2 g2 =>
 Req (g2 = [] ∧ r2 = .imm (.str (rS r2)))
 (Q (.tup [(As (rS r2)), (Ai 0)]) [])))))) : Call E0.P fn_r17_Text [(.imm (.agg [(.int .i64 a0_0), (.int .i64 a0_1), (.int .i64 a0_2), (.str a0_3), (.sl .any 6 a0_4), (.sl .any 7 a0_5)]))] [] Q := fun_rule (envN E0 nt_r17_Text) (okE nt_r17_Text) 3 0 17 ac_r17_Text [.tmp 2, .tmp 3] ok_r17_Text _ _ Q rfl rfl (kr (by kernel_rfl) h)
noncomputable def ac_write_Name : AC := (annot [(4, [0, 3, 8, 9], []), (6, [3], []), (10, [0, 3, 5, 8, 9, 25], [0, 3, 5, 8, 9]), (12, [0, 3, 8, 9], []), (13, [0, 3, 5, 8, 9], [0, 3, 8, 9]), (16, [0, 3, 8, 9], [0, 3, 8, 9]), (17, [3], [])] [2] (codeOf Tryd.f18) 0).1
abbrev nt_write_Name : Nat := 41
def L_write_Name_4 (t0 : List UInt8) (t8 t9 : Int) (h31r : LL) (K : KK) : Prop := LoopOK 4 E0.P nt_write_Name (lbodyOf 4 ac_write_Name).code ⟨[(0, (As t0)), (3, (.ptr (Nm.loc 3) 0)), (8, (Ai t8)), (9, (Ai t9))], [((Nm.loc 3), (.blk ty_strings_Builder [(.self (Nm.loc 3)), (.own ((Nm.loc 3).cell 1))])), (((Nm.loc 3).cell 1), (.arr (ty_uint8 + 2) true 1 h31r))]⟩ K
def C_write_Name_10 (t0 : List UInt8) (t5 t8 t9 : Int) (t25 : Bool) (h31r : LL) (K : KK) : Prop := CutOK 10 E0.P nt_write_Name (cbodyOf 10 ac_write_Name).code ⟨[(0, (As t0)), (3, (.ptr (Nm.loc 3) 0)), (5, (.imm (.int .u8 t5))), (8, (Ai t8)), (9, (Ai t9)), (25, (Ab t25))], [((Nm.loc 3), (.blk ty_strings_Builder [(.self (Nm.loc 3)), (.own ((Nm.loc 3).cell 1))])), (((Nm.loc 3).cell 1), (.arr (ty_uint8 + 2) true 1 h31r))]⟩ K
def C_write_Name_17 (h31r : LL) (K : KK) : Prop := CutOK 17 E0.P nt_write_Name (cbodyOf 17 ac_write_Name).code ⟨[(3, (.ptr (Nm.loc 3) 0))], [((Nm.loc 3), (.blk ty_strings_Builder [(.self (Nm.loc 3)), (.own ((Nm.loc 3).cell 1))])), (((Nm.loc 3).cell 1), (.arr (ty_uint8 + 2) true 1 h31r))]⟩ K
def C_write_Name_16 (t0 : List UInt8) (t8 t9 : Int) (h31r : LL) (K : KK) : Prop := CutOK 16 E0.P nt_write_Name (cbodyOf 16 ac_write_Name).code ⟨[(0, (As t0)), (3, (.ptr (Nm.loc 3) 0)), (8, (Ai t8)), (9, (Ai t9))], [((Nm.loc 3), (.blk ty_strings_Builder [(.self (Nm.loc 3)), (.own ((Nm.loc 3).cell 1))])), (((Nm.loc 3).cell 1), (.arr (ty_uint8 + 2) true 1 h31r))]⟩ K
def C_write_Name_13 (t0 : List UInt8) (t5 t8 t9 : Int) (h31r : LL) (K : KK) : Prop := CutOK 13 E0.P nt_write_Name (cbodyOf 13 ac_write_Name).code ⟨[(0, (As t0)), (3, (.ptr (Nm.loc 3) 0)), (5, (.imm (.int .u8 t5))), (8, (Ai t8)), (9, (Ai t9))], [((Nm.loc 3), (.blk ty_strings_Builder [(.self (Nm.loc 3)), (.own ((Nm.loc 3).cell 1))])), (((Nm.loc 3).cell 1), (.arr (ty_uint8 + 2) true 1 h31r))]⟩ K
def K_write_Name_0 (Q : QQ) : KK := kE fun st => finish 0 E0.T [.tmp 2] [] Q st
def K_write_Name_1 (Q : QQ) : KK := kF 0 (fun st => CutOK 17 E0.P nt_write_Name (cbodyOf 17 ac_write_Name).code (mask [3] st) (K_write_Name_0 Q)) fun st => finish 0 E0.T [.tmp 2] [] Q st
def K_write_Name_2 (K : KK) : Ex → St → Prop
 | .normal, st => LoopOK 4 E0.P nt_write_Name (lbodyOf 4 ac_write_Name).code (mask [0, 3, 8, 9] st) K
 | .exit i, st => K (.exit i) st
 | .goto i, st => K (.goto i) st
 | .ret, st => K .ret st
def K_write_Name_3 (K : KK) : KK := kC 1 (fun st => CutOK 16 E0.P nt_write_Name (cbodyOf 16 ac_write_Name).code (mask [0, 3, 8, 9] st) (K_write_Name_2 K)) K
def K_write_Name_4 (K : KK) : Ex → St → Prop
 | .normal, st => CutOK 13 E0.P nt_write_Name (cbodyOf 13 ac_write_Name).code (mask [0, 3, 5, 8, 9] st) (K_write_Name_3 K)
 | .exit i, st => (match (i.beq 1 : Bool) with
 | true => CutOK 16 E0.P nt_write_Name (cbodyOf 16 ac_write_Name).code (mask [0, 3, 8, 9] st) (K_write_Name_2 K)
 | false => K (.exit i) st)
 | .goto i, st => K (.goto i) st
 | .ret, st => K .ret st
theorem L_write_Name_4_of (t0 : List UInt8) (t8 t9 : Int) (h31r : LL) (K : KK) (h :
 (Br (decide (t9 < t8))
 (Req ((0 : Int) ≤ t9 ∧ t9 < (↑t0.length : Int))
 (Call E0.P fn_write_seen [(.imm (.int .u8 ((↑(t0.getD t9.toNat 0).toNat : Int))))] [] fun r0 g0 =>
 Req (g0 = [] ∧ r0 = .imm (.bool (rB r0)))
 (Br (rB r0 == true)
 (Call E0.P fn_octet_Kind [(.imm (.int .u8 ((↑(t0.getD t9.toNat 0).toNat : Int))))] [] fun r1 g1 =>
 Req (g1 = [] ∧ r1 = .imm (.int .i64 (rI r1)))
 (Let (decide (rI r1 = (2 : Int))) fun x2 =>
 Let (bif x2 then !decide ((↑(t0.getD t9.toNat 0).toNat : Int) = (35 : Int)) else false) fun x3 =>
 C_write_Name_10 t0 ((↑(t0.getD t9.toNat 0).toNat : Int)) t8 t9 x3 h31r (K_write_Name_4 K)))
 (Req ((!true) = false)
 (Let (false) fun x4 =>
 Let (bif x4 then !decide ((↑(t0.getD t9.toNat 0).toNat : Int) = (35 : Int)) else false) fun x5 =>
 C_write_Name_10 t0 ((↑(t0.getD t9.toNat 0).toNat : Int)) t8 t9 x5 h31r (K_write_Name_4 K))))))
 (K (.exit 0) ⟨[(3, (.ptr (Nm.loc 3) 0))], [((Nm.loc 3), (.blk ty_strings_Builder [(.self (Nm.loc 3)), (.own ((Nm.loc 3).cell 1))])), (((Nm.loc 3).cell 1), (.arr (ty_uint8 + 2) true 1 h31r))]⟩))) : L_write_Name_4 t0 t8 t9 h31r K := loop_rule (envN E0 nt_write_Name) (okE nt_write_Name) 3 4 (lbodyOf 4 ac_write_Name) [0, 3, 8, 9] _ K rfl (kr (by kernel_rfl) h)
theorem C_write_Name_10_of (t0 : List UInt8) (t5 t8 t9 : Int) (t25 : Bool) (h31r : LL) (K : KK) (h :
 (Br (t25)
 (Req ((h31r.length + 1) * 1 ≤ 140737488355328 ∧ h31r.length + 1 ≤ 140737488355328)
 (K (.exit (1)) ⟨[(0, (As t0)), (3, (.ptr (Nm.loc 3) 0)), (8, (Ai t8)), (9, (Ai t9))], [((Nm.loc 3), (.blk ty_strings_Builder [(.self (Nm.loc 3)), (.own ((Nm.loc 3).cell 1))])), (((Nm.loc 3).cell 1), (.arr (ty_uint8 + 2) true 1 (h31r ++ [[IV.int .u8 t5]])))]⟩))
 (K .normal ⟨[(0, (As t0)), (3, (.ptr (Nm.loc 3) 0)), (5, (.imm (.int .u8 t5))), (8, (Ai t8)), (9, (Ai t9))], [((Nm.loc 3), (.blk ty_strings_Builder [(.self (Nm.loc 3)), (.own ((Nm.loc 3).cell 1))])), (((Nm.loc 3).cell 1), (.arr (ty_uint8 + 2) true 1 h31r))]⟩))) : C_write_Name_10 t0 t5 t8 t9 t25 h31r K := cut_rule (envN E0 nt_write_Name) (okE nt_write_Name) 3 10 (cbodyOf 10 ac_write_Name) [0, 3, 5, 8, 9] _ K rfl (kr (by kernel_rfl) h)
theorem C_write_Name_17_of (h31r : LL) (K : KK) (h :
 (Req (((↑h31r.length : Int) = (↑h31r.length : Int) ∧ h31r.length ≤ 9223372036854775807) ∧
 ∀ (r : List IV), r ∈ h31r → shOK [.int .u8] r = true)
 (K .ret ⟨[(2, (As (List.map (fun r => UInt8.ofNat (gI r 0).toNat) h31r)))], []⟩))) : C_write_Name_17 h31r K := cut_rule (envN E0 nt_write_Name) (okE nt_write_Name) 3 17 (cbodyOf 17 ac_write_Name) [] _ K rfl (kr (by kernel_rfl) h)
theorem C_write_Name_16_of (t0 : List UInt8) (t8 t9 : Int) (h31r : LL) (K : KK) (h :
 (K .normal ⟨[(0, (As t0)), (3, (.ptr (Nm.loc 3) 0)), (8, (Ai t8)), (9, (Ai (IntKind.i64.wrap (t9 + (1 : Int)))))], [((Nm.loc 3), (.blk ty_strings_Builder [(.self (Nm.loc 3)), (.own ((Nm.loc 3).cell 1))])), (((Nm.loc 3).cell 1), (.arr (ty_uint8 + 2) true 1 h31r))]⟩)) : C_write_Name_16 t0 t8 t9 h31r K := cut_rule (envN E0 nt_write_Name) (okE nt_write_Name) 3 16 (cbodyOf 16 ac_write_Name) [0, 3, 8, 9] _ K rfl (kr (by kernel_rfl) h)
theorem C_write_Name_13_of (t0 : List UInt8) (t5 t8 t9 : Int) (h31r : LL) (K : KK) (h :
 (Req ((h31r.length + 1) * 1 ≤ 140737488355328 ∧ h31r.length + 1 ≤ 140737488355328)
 (Req ((0 : Int) ≤ (4 : Int))
 (Call E0.P fn_octet_Digit [(.imm (.int .i64 (IntKind.i64.wrap (t5.fdiv ((2 : Int) ^ 4)))))] [] fun r0 g0 =>
 Req (g0 = [] ∧ r0 = .imm (.int .u8 (rI r0)))
 (Req (((h31r ++ [[IV.int .u8 (35 : Int)]]).length + 1) * 1 ≤ 140737488355328 ∧
 (h31r ++ [[IV.int .u8 (35 : Int)]]).length + 1 ≤ 140737488355328)
 (Call E0.P fn_octet_Digit [(.imm (.int .i64 (IntKind.i64.wrap (IntKind.u8.wrap (↑(BitVec.ofInt (8 : Nat) t5 &&& BitVec.ofInt (8 : Nat) (15 : Int)).toNat : Int)))))] [] fun r1 g1 =>
 Req (g1 = [] ∧ r1 = .imm (.int .u8 (rI r1)))
 (Req (((h31r ++ [[IV.int .u8 (35 : Int)]] ++ [[IV.int .u8 (rI r0)]]).length + 1) * 1 ≤
 140737488355328 ∧
 (h31r ++ [[IV.int .u8 (35 : Int)]] ++ [[IV.int .u8 (rI r0)]]).length + 1 ≤
 140737488355328)
 (K .normal ⟨[(0, (As t0)), (3, (.ptr (Nm.loc 3) 0)), (8, (Ai t8)), (9, (Ai t9))], [((Nm.loc 3), (.blk ty_strings_Builder [(.self (Nm.loc 3)), (.own ((Nm.loc 3).cell 1))])), (((Nm.loc 3).cell 1), (.arr (ty_uint8 + 2) true 1 (h31r ++ [[IV.int .u8 (35 : Int)]] ++ [[IV.int .u8 (rI r0)]] ++ [[IV.int .u8 (rI r1)]])))]⟩)))))))) : C_write_Name_13 t0 t5 t8 t9 h31r K := cut_rule (envN E0 nt_write_Name) (okE nt_write_Name) 3 13 (cbodyOf 13 ac_write_Name) [0, 3, 8, 9] _ K rfl (kr (by kernel_rfl) h)
theorem K_write_Name_0_x0 (Q : QQ) (t2 : List UInt8) (h :
 (Q (As t2) [])) : K_write_Name_0 Q .ret ⟨[(2, (As t2))], []⟩ := kr (by kernel_rfl) h
theorem K_write_Name_1_x0 (Q : QQ) (h31r : LL) (h :
 (C_write_Name_17 h31r (K_write_Name_0 Q))) : K_write_Name_1 Q (.exit 0) ⟨[(3, (.ptr (Nm.loc 3) 0))], [((Nm.loc 3), (.blk ty_strings_Builder [(.self (Nm.loc 3)), (.own ((Nm.loc 3).cell 1))])), (((Nm.loc 3).cell 1), (.arr (ty_uint8 + 2) true 1 h31r))]⟩ := kr (by kernel_rfl) h
theorem K_write_Name_2_x0 (K : KK) (t0 : List UInt8) (t8 t9 : Int) (h31r : LL) (h :
 (L_write_Name_4 t0 t8 t9 h31r K)) : K_write_Name_2 K .normal ⟨[(0, (As t0)), (3, (.ptr (Nm.loc 3) 0)), (8, (Ai t8)), (9, (Ai t9))], [((Nm.loc 3), (.blk ty_strings_Builder [(.self (Nm.loc 3)), (.own ((Nm.loc 3).cell 1))])), (((Nm.loc 3).cell 1), (.arr (ty_uint8 + 2) true 1 h31r))]⟩ := kr (by kernel_rfl) h
theorem K_write_Name_3_x0 (K : KK) (t0 : List UInt8) (t8 t9 : Int) (h31r : LL) (h :
 (C_write_Name_16 t0 t8 t9 h31r (K_write_Name_2 K))) : K_write_Name_3 K .normal ⟨[(0, (As t0)), (3, (.ptr (Nm.loc 3) 0)), (8, (Ai t8)), (9, (Ai t9))], [((Nm.loc 3), (.blk ty_strings_Builder [(.self (Nm.loc 3)), (.own ((Nm.loc 3).cell 1))])), (((Nm.loc 3).cell 1), (.arr (ty_uint8 + 2) true 1 h31r))]⟩ := kr (by kernel_rfl) h
theorem K_write_Name_4_x0 (K : KK) (t0 : List UInt8) (t8 t9 : Int) (h31r : LL) (h :
 (C_write_Name_16 t0 t8 t9 h31r (K_write_Name_2 K))) : K_write_Name_4 K (.exit (1)) ⟨[(0, (As t0)), (3, (.ptr (Nm.loc 3) 0)), (8, (Ai t8)), (9, (Ai t9))], [((Nm.loc 3), (.blk ty_strings_Builder [(.self (Nm.loc 3)), (.own ((Nm.loc 3).cell 1))])), (((Nm.loc 3).cell 1), (.arr (ty_uint8 + 2) true 1 h31r))]⟩ := kr (by kernel_rfl) h
theorem K_write_Name_4_x1 (K : KK) (t0 : List UInt8) (t5 t8 t9 : Int) (h31r : LL) (h :
 (C_write_Name_13 t0 t5 t8 t9 h31r (K_write_Name_3 K))) : K_write_Name_4 K .normal ⟨[(0, (As t0)), (3, (.ptr (Nm.loc 3) 0)), (5, (.imm (.int .u8 t5))), (8, (Ai t8)), (9, (Ai t9))], [((Nm.loc 3), (.blk ty_strings_Builder [(.self (Nm.loc 3)), (.own ((Nm.loc 3).cell 1))])), (((Nm.loc 3).cell 1), (.arr (ty_uint8 + 2) true 1 h31r))]⟩ := kr (by kernel_rfl) h
theorem ok_write_Name : FnOK E0.P 18 ac_write_Name.code nt_write_Name [.tmp 2] := fn_ok _ _ Tryd.f18 [(4, [0, 3, 8, 9], []), (6, [3], []), (10, [0, 3, 5, 8, 9, 25], [0, 3, 5, 8, 9]), (12, [0, 3, 8, 9], []), (13, [0, 3, 5, 8, 9], [0, 3, 8, 9]), (16, [0, 3, 8, 9], [0, 3, 8, 9]), (17, [3], [])] [2] _ 41 Tryd.func18 (by kernel_rfl) (by kernel_rfl) (by kernel_rfl) (by kernel_rfl)
theorem F_write_Name_of (a0 : List UInt8) (Q : QQ) (h :
 (Req (1 ≤ 140737488355328 ∧ 1 ≤ 140737488355328)
 (L_write_Name_4 a0 ((↑a0.length : Int)) ((0 : Int)) ([] ++ [[IV.int .u8 (47 : Int)]]) (K_write_Name_1 Q)))) : Call E0.P fn_write_Name [(As a0)] [] Q := fun_rule (envN E0 nt_write_Name) (okE nt_write_Name) 3 0 18 ac_write_Name [.tmp 2] ok_write_Name _ _ Q rfl rfl (kr (by kernel_rfl) h)
noncomputable def ac_r17_Name : AC := (annot [(3, [0, 3, 4], []), (5, [3], []), (8, [0, 3, 4, 30], [0, 3, 4]), (10, [0, 3, 4], [0, 3, 4]), (11, [3], [])] [2] (codeOf Tryd.f19) 0).1
abbrev nt_r17_Name : Nat := 50
def L_r17_Name_3 (t0 t3 : List UInt8) (t4 : Int) (K : KK) : Prop := LoopOK 3 E0.P nt_r17_Name (lbodyOf 3 ac_r17_Name).code ⟨[(0, (As t0)), (3, (As t3)), (4, (Ai t4))], []⟩ K
def C_r17_Name_8 (t0 t3 : List UInt8) (t4 : Int) (t30 : Bool) (K : KK) : Prop := CutOK 8 E0.P nt_r17_Name (cbodyOf 8 ac_r17_Name).code ⟨[(0, (As t0)), (3, (As t3)), (4, (Ai t4)), (30, (Ab t30))], []⟩ K
def C_r17_Name_11 (t3 : List UInt8) (K : KK) : Prop := CutOK 11 E0.P nt_r17_Name (cbodyOf 11 ac_r17_Name).code ⟨[(3, (As t3))], []⟩ K
def C_r17_Name_10 (t0 t3 : List UInt8) (t4 : Int) (K : KK) : Prop := CutOK 10 E0.P nt_r17_Name (cbodyOf 10 ac_r17_Name).code ⟨[(0, (As t0)), (3, (As t3)), (4, (Ai t4))], []⟩ K
def K_r17_Name_0 (Q : QQ) : KK := kE fun st => finish 0 E0.T [.tmp 2] [] Q st
def K_r17_Name_1 (Q : QQ) : KK := kF 0 (fun st => CutOK 11 E0.P nt_r17_Name (cbodyOf 11 ac_r17_Name).code (mask [3] st) (K_r17_Name_0 Q)) fun st => finish 0 E0.T [.tmp 2] [] Q st
def K_r17_Name_2 (K : KK) : Ex → St → Prop
 | .normal, st => LoopOK 3 E0.P nt_r17_Name (lbodyOf 3 ac_r17_Name).code (mask [0, 3, 4] st) K
 | .exit i, st => K (.exit i) st
 | .goto i, st => K (.goto i) st
 | .ret, st => K .ret st
def K_r17_Name_3 (K : KK) : KK := kC 1 (fun st => CutOK 10 E0.P nt_r17_Name (cbodyOf 10 ac_r17_Name).code (mask [0, 3, 4] st) (K_r17_Name_2 K)) K
theorem L_r17_Name_3_of (t0 t3 : List UInt8) (t4 : Int) (K : KK) (h :
 (Br (decide (t4 < (↑t0.length : Int)))
 (Req ((0 : Int) ≤ t4 ∧ t4 < (↑t0.length : Int))
 (Let (bif decide ((33 : Int) ≤ (↑(t0.getD t4.toNat 0).toNat : Int)) then
 decide ((↑(t0.getD t4.toNat 0).toNat : Int) ≤ (126 : Int))
 else false) fun x0 =>
 Br (x0 == true)
 (Call E0.P fn_r01_Kind [(.imm (.int .u8 ((↑(t0.getD t4.toNat 0).toNat : Int))))] [] fun r1 g1 =>
 Req (g1 = [] ∧ r1 = .imm (.int .i64 (rI r1)))
 (Let (decide (rI r1 = (2 : Int))) fun x2 =>
 Let (bif x2 then !decide ((↑(t0.getD t4.toNat 0).toNat : Int) = (35 : Int)) else false) fun x3 =>
 C_r17_Name_8 t0 t3 t4 x3 (K_r17_Name_3 K)))
 (Req ((!true) = false)
 (Let (false) fun x4 =>
 Let (bif x4 then !decide ((↑(t0.getD t4.toNat 0).toNat : Int) = (35 : Int)) else false) fun x5 =>
 C_r17_Name_8 t0 t3 t4 x5 (K_r17_Name_3 K)))))
 (K (.exit 0) ⟨[(3, (As t3))], []⟩))) : L_r17_Name_3 t0 t3 t4 K := loop_rule (envN E0 nt_r17_Name) (okE nt_r17_Name) 3 3 (lbodyOf 3 ac_r17_Name) [0, 3, 4] _ K rfl (kr (by kernel_rfl) h)
theorem C_r17_Name_8_of (t0 t3 : List UInt8) (t4 : Int) (t30 : Bool) (K : KK) (h :
 (Br (t30)
 (Req ((0 : Int) ≤ t4 ∧ t4 ≤ IntKind.i64.wrap (t4 + (1 : Int)) ∧ IntKind.i64.wrap (t4 + (1 : Int)) ≤ (↑t0.length : Int))
 (Let (List.drop t4.toNat (List.take (IntKind.i64.wrap (t4 + (1 : Int))).toNat t0)) fun x0 =>
 Req ((↑(t3.length + x0.length) : Int) ≤ (9223372036854775807 : Int))
 (K .normal ⟨[(0, (As t0)), (3, (As (t3 ++ x0))), (4, (Ai t4))], []⟩)))
 (Req ((0 : Int) ≤ t4 ∧ t4 ≤ IntKind.i64.wrap (t4 + (1 : Int)) ∧ IntKind.i64.wrap (t4 + (1 : Int)) ≤ (↑t0.length : Int))
 (Let (List.drop t4.toNat (List.take (IntKind.i64.wrap (t4 + (1 : Int))).toNat t0)) fun x1 =>
 Call E0.P fn_r06_Encode [(As x1)] [] fun r2 g2 =>
 Req (g2 = [] ∧ r2 = .imm (.str (rS r2)))
 (Req ((↑(t3.length + (1 : Nat)) : Int) ≤ (9223372036854775807 : Int))
 (Req ((0 : Int) ≤ (2 : Int) ∧ (2 : Int) ≤ (↑(rS r2).length : Int))
 (Let (List.take 2 (rS r2)) fun x3 =>
 Req ((↑((t3 ++ [(35 : UInt8)]).length + x3.length) : Int) ≤ (9223372036854775807 : Int))
 (K .normal ⟨[(0, (As t0)), (3, (As (t3 ++ [(35 : UInt8)] ++ x3))), (4, (Ai t4))], []⟩)))))))) : C_r17_Name_8 t0 t3 t4 t30 K := cut_rule (envN E0 nt_r17_Name) (okE nt_r17_Name) 3 8 (cbodyOf 8 ac_r17_Name) [0, 3, 4] _ K rfl (kr (by kernel_rfl) h)
theorem C_r17_Name_11_of (t3 : List UInt8) (K : KK) (h :
 (K .ret ⟨[(2, (As t3))], []⟩)) : C_r17_Name_11 t3 K := cut_rule (envN E0 nt_r17_Name) (okE nt_r17_Name) 3 11 (cbodyOf 11 ac_r17_Name) [] _ K rfl (kr (by kernel_rfl) h)
theorem C_r17_Name_10_of (t0 t3 : List UInt8) (t4 : Int) (K : KK) (h :
 (K .normal ⟨[(0, (As t0)), (3, (As t3)), (4, (Ai (IntKind.i64.wrap (t4 + (1 : Int)))))], []⟩)) : C_r17_Name_10 t0 t3 t4 K := cut_rule (envN E0 nt_r17_Name) (okE nt_r17_Name) 3 10 (cbodyOf 10 ac_r17_Name) [0, 3, 4] _ K rfl (kr (by kernel_rfl) h)
theorem K_r17_Name_0_x0 (Q : QQ) (t2 : List UInt8) (h :
 (Q (As t2) [])) : K_r17_Name_0 Q .ret ⟨[(2, (As t2))], []⟩ := kr (by kernel_rfl) h
theorem K_r17_Name_1_x0 (Q : QQ) (t3 : List UInt8) (h :
 (C_r17_Name_11 t3 (K_r17_Name_0 Q))) : K_r17_Name_1 Q (.exit 0) ⟨[(3, (As t3))], []⟩ := kr (by kernel_rfl) h
theorem K_r17_Name_2_x0 (K : KK) (t0 t3 : List UInt8) (t4 : Int) (h :
 (L_r17_Name_3 t0 t3 t4 K)) : K_r17_Name_2 K .normal ⟨[(0, (As t0)), (3, (As t3)), (4, (Ai t4))], []⟩ := kr (by kernel_rfl) h
theorem K_r17_Name_3_x0 (K : KK) (t0 t3 : List UInt8) (t4 : Int) (h :
 (C_r17_Name_10 t0 t3 t4 (K_r17_Name_2 K))) : K_r17_Name_3 K .normal ⟨[(0, (As t0)), (3, (As t3)), (4, (Ai t4))], []⟩ := kr (by kernel_rfl) h
theorem ok_r17_Name : FnOK E0.P 19 ac_r17_Name.code nt_r17_Name [.tmp 2] := fn_ok _ _ Tryd.f19 [(3, [0, 3, 4], []), (5, [3], []), (8, [0, 3, 4, 30], [0, 3, 4]), (10, [0, 3, 4], [0, 3, 4]), (11, [3], [])] [2] _ 50 Tryd.func19 (by kernel_rfl) (by kernel_rfl) (by kernel_rfl) (by kernel_rfl)
theorem F_r17_Name_of (a0 : List UInt8) (Q : QQ) (h :
 (L_r17_Name_3 a0 [(47 : UInt8)] ((0 : Int)) (K_r17_Name_1 Q))) : Call E0.P fn_r17_Name [(As a0)] [] Q := fun_rule (envN E0 nt_r17_Name) (okE nt_r17_Name) 3 0 19 ac_r17_Name [.tmp 2] ok_r17_Name _ _ Q rfl rfl (kr (by kernel_rfl) h)
noncomputable def ac_write_Bytes : AC := (annot [(4, [0, 3, 8, 9], []), (6, [3], []), (16, [3], [])] [2] (codeOf Tryd.f20) 0).1
abbrev nt_write_Bytes : Nat := 37
def L_write_Bytes_4 (t0 : List UInt8) (t8 t9 : Int) (h31r : LL) (K : KK) : Prop := LoopOK 4 E0.P nt_write_Bytes (lbodyOf 4 ac_write_Bytes).code ⟨[(0, (As t0)), (3, (.ptr (Nm.loc 3) 0)), (8, (Ai t8)), (9, (Ai t9))], [((Nm.loc 3), (.blk ty_strings_Builder [(.self (Nm.loc 3)), (.own ((Nm.loc 3).cell 1))])), (((Nm.loc 3).cell 1), (.arr (ty_uint8 + 2) true 1 h31r))]⟩ K
def C_write_Bytes_16 (h31r : LL) (K : KK) : Prop := CutOK 16 E0.P nt_write_Bytes (cbodyOf 16 ac_write_Bytes).code ⟨[(3, (.ptr (Nm.loc 3) 0))], [((Nm.loc 3), (.blk ty_strings_Builder [(.self (Nm.loc 3)), (.own ((Nm.loc 3).cell 1))])), (((Nm.loc 3).cell 1), (.arr (ty_uint8 + 2) true 1 h31r))]⟩ K
def K_write_Bytes_0 (Q : QQ) : KK := kE fun st => finish 0 E0.T [.tmp 2] [] Q st
def K_write_Bytes_1 (Q : QQ) : KK := kF 0 (fun st => CutOK 16 E0.P nt_write_Bytes (cbodyOf 16 ac_write_Bytes).code (mask [3] st) (K_write_Bytes_0 Q)) fun st => finish 0 E0.T [.tmp 2] [] Q st
theorem L_write_Bytes_4_of (t0 : List UInt8) (t8 t9 : Int) (h31r : LL) (K : KK) (h :
 (Br (decide (t9 < t8))
 (Req ((0 : Int) ≤ t9 ∧ t9 < (↑t0.length : Int))
 (Call E0.P fn_write_seen [(.imm (.int .u8 ((↑(t0.getD t9.toNat 0).toNat : Int))))] [] fun r0 g0 =>
 Req (g0 = [] ∧ r0 = .imm (.bool (rB r0)))
 (Br (!rB r0)
 (Call E0.P fn_hexa_Encode [(As t0)] [] fun r1 g1 =>
 Req (g1 = [] ∧ r1 = .imm (.str (rS r1)))
 (Req ((↑((1 : Nat) + (rS r1).length) : Int) ≤ (9223372036854775807 : Int))
 (K .ret ⟨[(2, (As ([(60 : UInt8)] ++ rS r1)))], []⟩)))
 (Let (bif decide ((↑(t0.getD t9.toNat 0).toNat : Int) = (40 : Int)) then true
 else decide ((↑(t0.getD t9.toNat 0).toNat : Int) = (41 : Int))) fun x2 =>
 Let (bif x2 then true else decide ((↑(t0.getD t9.toNat 0).toNat : Int) = (92 : Int))) fun x3 =>
 Br (x3)
 (Req ((h31r.length + 1) * 1 ≤ 140737488355328 ∧ h31r.length + 1 ≤ 140737488355328)
 (Req (((h31r ++ [[IV.int .u8 (92 : Int)]]).length + 1) * 1 ≤ 140737488355328 ∧
 (h31r ++ [[IV.int .u8 (92 : Int)]]).length + 1 ≤ 140737488355328)
 (L_write_Bytes_4 t0 t8 (IntKind.i64.wrap (t9 + (1 : Int))) (h31r ++ [[IV.int .u8 (92 : Int)]] ++ [[IV.int .u8 (↑(t0.getD t9.toNat 0).toNat : Int)]]) K)))
 (Req ((h31r.length + 1) * 1 ≤ 140737488355328 ∧ h31r.length + 1 ≤ 140737488355328)
 (L_write_Bytes_4 t0 t8 (IntKind.i64.wrap (t9 + (1 : Int))) (h31r ++ [[IV.int .u8 (↑(t0.getD t9.toNat 0).toNat : Int)]]) K))))))
 (K (.exit 0) ⟨[(3, (.ptr (Nm.loc 3) 0))], [((Nm.loc 3), (.blk ty_strings_Builder [(.self (Nm.loc 3)), (.own ((Nm.loc 3).cell 1))])), (((Nm.loc 3).cell 1), (.arr (ty_uint8 + 2) true 1 h31r))]⟩))) : L_write_Bytes_4 t0 t8 t9 h31r K := loop_rule (envN E0 nt_write_Bytes) (okE nt_write_Bytes) 3 4 (lbodyOf 4 ac_write_Bytes) [0, 3, 8, 9] _ K rfl (kr (by kernel_rfl) h)
theorem C_write_Bytes_16_of (h31r : LL) (K : KK) (h :
 (Req ((h31r.length + 1) * 1 ≤ 140737488355328 ∧ h31r.length + 1 ≤ 140737488355328)
 (Req (((↑(h31r ++ [[IV.int .u8 (41 : Int)]]).length : Int) =
 (↑(h31r ++ [[IV.int .u8 (41 : Int)]]).length : Int) ∧
 (h31r ++ [[IV.int .u8 (41 : Int)]]).length ≤ 9223372036854775807) ∧
 ∀ (r : List IV), r ∈ h31r ++ [[IV.int .u8 (41 : Int)]] → shOK [.int .u8] r = true)
 (K .ret ⟨[(2, (As (List.map (fun r => UInt8.ofNat (gI r 0).toNat) (h31r ++ [[IV.int .u8 (41 : Int)]]))))], []⟩)))) : C_write_Bytes_16 h31r K := cut_rule (envN E0 nt_write_Bytes) (okE nt_write_Bytes) 3 16 (cbodyOf 16 ac_write_Bytes) [] _ K rfl (kr (by kernel_rfl) h)
theorem K_write_Bytes_0_x0 (Q : QQ) (t2 : List UInt8) (h :
 (Q (As t2) [])) : K_write_Bytes_0 Q .ret ⟨[(2, (As t2))], []⟩ := kr (by kernel_rfl) h
theorem K_write_Bytes_1_x0 (Q : QQ) (t2 : List UInt8) (h :
 (Q (As t2) [])) : K_write_Bytes_1 Q .ret ⟨[(2, (As t2))], []⟩ := kr (by kernel_rfl) h
theorem K_write_Bytes_1_x1 (Q : QQ) (h31r : LL) (h :
 (C_write_Bytes_16 h31r (K_write_Bytes_0 Q))) : K_write_Bytes_1 Q (.exit 0) ⟨[(3, (.ptr (Nm.loc 3) 0))], [((Nm.loc 3), (.blk ty_strings_Builder [(.self (Nm.loc 3)), (.own ((Nm.loc 3).cell 1))])), (((Nm.loc 3).cell 1), (.arr (ty_uint8 + 2) true 1 h31r))]⟩ := kr (by kernel_rfl) h
theorem ok_write_Bytes : FnOK E0.P 20 ac_write_Bytes.code nt_write_Bytes [.tmp 2] := fn_ok _ _ Tryd.f20 [(4, [0, 3, 8, 9], []), (6, [3], []), (16, [3], [])] [2] _ 37 Tryd.func20 (by kernel_rfl) (by kernel_rfl) (by kernel_rfl) (by kernel_rfl)
theorem F_write_Bytes_of (a0 : List UInt8) (Q : QQ) (h :
 (Req (1 ≤ 140737488355328 ∧ 1 ≤ 140737488355328)
 (L_write_Bytes_4 a0 ((↑a0.length : Int)) ((0 : Int)) ([] ++ [[IV.int .u8 (40 : Int)]]) (K_write_Bytes_1 Q)))) : Call E0.P fn_write_Bytes [(As a0)] [] Q := fun_rule (envN E0 nt_write_Bytes) (okE nt_write_Bytes) 3 0 20 ac_write_Bytes [.tmp 2] ok_write_Bytes _ _ Q rfl rfl (kr (by kernel_rfl) h)
noncomputable def ac_r17_Bytes : AC := (annot [(3, [0, 3, 4], []), (5, [3], []), (11, [0, 3, 4], [0, 3, 4]), (12, [0, 3, 4], [0, 3, 4]), (13, [3], [])] [2] (codeOf Tryd.f21) 0).1
abbrev nt_r17_Bytes : Nat := 51
def L_r17_Bytes_3 (t0 t3 : List UInt8) (t4 : Int) (K : KK) : Prop := LoopOK 3 E0.P nt_r17_Bytes (lbodyOf 3 ac_r17_Bytes).code ⟨[(0, (As t0)), (3, (As t3)), (4, (Ai t4))], []⟩ K
def C_r17_Bytes_11 (t0 t3 : List UInt8) (t4 : Int) (K : KK) : Prop := CutOK 11 E0.P nt_r17_Bytes (cbodyOf 11 ac_r17_Bytes).code ⟨[(0, (As t0)), (3, (As t3)), (4, (Ai t4))], []⟩ K
def C_r17_Bytes_13 (t3 : List UInt8) (K : KK) : Prop := CutOK 13 E0.P nt_r17_Bytes (cbodyOf 13 ac_r17_Bytes).code ⟨[(3, (As t3))], []⟩ K
def C_r17_Bytes_12 (t0 t3 : List UInt8) (t4 : Int) (K : KK) : Prop := CutOK 12 E0.P nt_r17_Bytes (cbodyOf 12 ac_r17_Bytes).code ⟨[(0, (As t0)), (3, (As t3)), (4, (Ai t4))], []⟩ K
def K_r17_Bytes_0 (Q : QQ) : KK := kE fun st => finish 0 E0.T [.tmp 2] [] Q st
def K_r17_Bytes_1 (Q : QQ) : KK := kF 0 (fun st => CutOK 13 E0.P nt_r17_Bytes (cbodyOf 13 ac_r17_Bytes).code (mask [3] st) (K_r17_Bytes_0 Q)) fun st => finish 0 E0.T [.tmp 2] [] Q st
def K_r17_Bytes_2 (K : KK) : Ex → St → Prop
 | .normal, st => LoopOK 3 E0.P nt_r17_Bytes (lbodyOf 3 ac_r17_Bytes).code (mask [0, 3, 4] st) K
 | .exit i, st => K (.exit i) st
 | .goto i, st => K (.goto i) st
 | .ret, st => K .ret st
def K_r17_Bytes_3 (K : KK) : KK := kC 1 (fun st => CutOK 12 E0.P nt_r17_Bytes (cbodyOf 12 ac_r17_Bytes).code (mask [0, 3, 4] st) (K_r17_Bytes_2 K)) K
theorem L_r17_Bytes_3_of (t0 t3 : List UInt8) (t4 : Int) (K : KK) (h :
 (Br (decide (t4 < (↑t0.length : Int)))
 (Req ((0 : Int) ≤ t4 ∧ t4 < (↑t0.length : Int))
 (Req (decide ((↑(t0.getD t4.toNat 0).toNat : Int) < (32 : Int)) = false → (0 : Int) ≤ t4 ∧ t4 < (↑t0.length : Int))
 (Let (bif decide ((↑(t0.getD t4.toNat 0).toNat : Int) < (32 : Int)) then true
 else decide ((126 : Int) < (↑(t0.getD t4.toNat 0).toNat : Int))) fun x0 =>
 Br (x0)
 (Call E0.P fn_r06_Encode [(As t0)] [] fun r1 g1 =>
 Req (g1 = [] ∧ r1 = .imm (.str (rS r1)))
 (Req ((↑((1 : Nat) + (rS r1).length) : Int) ≤ (9223372036854775807 : Int))
 (K .ret ⟨[(2, (As ([(60 : UInt8)] ++ rS r1)))], []⟩)))
 (Req ((0 : Int) ≤ t4 ∧ t4 < (↑t0.length : Int))
 (Req (decide ((↑(t0.getD t4.toNat 0).toNat : Int) = (40 : Int)) = false → (0 : Int) ≤ t4 ∧ t4 < (↑t0.length : Int))
 (Let (bif decide ((↑(t0.getD t4.toNat 0).toNat : Int) = (40 : Int)) then true
 else decide ((↑(t0.getD t4.toNat 0).toNat : Int) = (41 : Int))) fun x2 =>
 Req (x2 = false → (0 : Int) ≤ t4 ∧ t4 < (↑t0.length : Int))
 (Let (bif x2 then true else decide ((↑(t0.getD t4.toNat 0).toNat : Int) = (92 : Int))) fun x3 =>
 Br (x3)
 (Req ((↑(t3.length + (1 : Nat)) : Int) ≤ (9223372036854775807 : Int))
 (C_r17_Bytes_11 t0 (t3 ++ [(92 : UInt8)]) t4 (K_r17_Bytes_3 K)))
 (C_r17_Bytes_11 t0 t3 t4 (K_r17_Bytes_3 K)))))))))
 (K (.exit 0) ⟨[(3, (As t3))], []⟩))) : L_r17_Bytes_3 t0 t3 t4 K := loop_rule (envN E0 nt_r17_Bytes) (okE nt_r17_Bytes) 3 3 (lbodyOf 3 ac_r17_Bytes) [0, 3, 4] _ K rfl (kr (by kernel_rfl) h)
theorem C_r17_Bytes_11_of (t0 t3 : List UInt8) (t4 : Int) (K : KK) (h :
 (Req ((0 : Int) ≤ t4 ∧ t4 ≤ IntKind.i64.wrap (t4 + (1 : Int)) ∧ IntKind.i64.wrap (t4 + (1 : Int)) ≤ (↑t0.length : Int))
 (Let (List.drop t4.toNat (List.take (IntKind.i64.wrap (t4 + (1 : Int))).toNat t0)) fun x0 =>
 Req ((↑(t3.length + x0.length) : Int) ≤ (9223372036854775807 : Int))
 (K .normal ⟨[(0, (As t0)), (3, (As (t3 ++ x0))), (4, (Ai t4))], []⟩)))) : C_r17_Bytes_11 t0 t3 t4 K := cut_rule (envN E0 nt_r17_Bytes) (okE nt_r17_Bytes) 3 11 (cbodyOf 11 ac_r17_Bytes) [0, 3, 4] _ K rfl (kr (by kernel_rfl) h)
theorem C_r17_Bytes_13_of (t3 : List UInt8) (K : KK) (h :
 (Req ((↑(t3.length + (1 : Nat)) : Int) ≤ (9223372036854775807 : Int))
 (K .ret ⟨[(2, (As (t3 ++ [(41 : UInt8)])))], []⟩))) : C_r17_Bytes_13 t3 K := cut_rule (envN E0 nt_r17_Bytes) (okE nt_r17_Bytes) 3 13 (cbodyOf 13 ac_r17_Bytes) [] _ K rfl (kr (by kernel_rfl) h)
theorem C_r17_Bytes_12_of (t0 t3 : List UInt8) (t4 : Int) (K : KK) (h :
 (K .normal ⟨[(0, (As t0)), (3, (As t3)), (4, (Ai (IntKind.i64.wrap (t4 + (1 : Int)))))], []⟩)) : C_r17_Bytes_12 t0 t3 t4 K := cut_rule (envN E0 nt_r17_Bytes) (okE nt_r17_Bytes) 3 12 (cbodyOf 12 ac_r17_Bytes) [0, 3, 4] _ K rfl (kr (by kernel_rfl) h)
theorem K_r17_Bytes_0_x0 (Q : QQ) (t2 : List UInt8) (h :
 (Q (As t2) [])) : K_r17_Bytes_0 Q .ret ⟨[(2, (As t2))], []⟩ := kr (by kernel_rfl) h
theorem K_r17_Bytes_1_x0 (Q : QQ) (t2 : List UInt8) (h :
 (Q (As t2) [])) : K_r17_Bytes_1 Q .ret ⟨[(2, (As t2))], []⟩ := kr (by kernel_rfl) h
theorem K_r17_Bytes_1_x1 (Q : QQ) (t3 : List UInt8) (h :
 (C_r17_Bytes_13 t3 (K_r17_Bytes_0 Q))) : K_r17_Bytes_1 Q (.exit 0) ⟨[(3, (As t3))], []⟩ := kr (by kernel_rfl) h
theorem K_r17_Bytes_2_x0 (K : KK) (t0 t3 : List UInt8) (t4 : Int) (h :
 (L_r17_Bytes_3 t0 t3 t4 K)) : K_r17_Bytes_2 K .normal ⟨[(0, (As t0)), (3, (As t3)), (4, (Ai t4))], []⟩ := kr (by kernel_rfl) h
theorem K_r17_Bytes_3_x0 (K : KK) (t0 t3 : List UInt8) (t4 : Int) (h :
 (C_r17_Bytes_12 t0 t3 t4 (K_r17_Bytes_2 K))) : K_r17_Bytes_3 K .normal ⟨[(0, (As t0)), (3, (As t3)), (4, (Ai t4))], []⟩ := kr (by kernel_rfl) h
theorem ok_r17_Bytes : FnOK E0.P 21 ac_r17_Bytes.code nt_r17_Bytes [.tmp 2] := fn_ok _ _ Tryd.f21 [(3, [0, 3, 4], []), (5, [3], []), (11, [0, 3, 4], [0, 3, 4]), (12, [0, 3, 4], [0, 3, 4]), (13, [3], [])] [2] _ 51 Tryd.func21 (by kernel_rfl) (by kernel_rfl) (by kernel_rfl) (by kernel_rfl)
theorem F_r17_Bytes_of (a0 : List UInt8) (Q : QQ) (h :
 (L_r17_Bytes_3 a0 [(40 : UInt8)] ((0 : Int)) (K_r17_Bytes_1 Q))) : Call E0.P fn_r17_Bytes [(As a0)] [] Q := fun_rule (envN E0 nt_r17_Bytes) (okE nt_r17_Bytes) 3 0 21 ac_r17_Bytes [.tmp 2] ok_r17_Bytes _ _ Q rfl rfl (kr (by kernel_rfl) h)
noncomputable def ac_value_Check : AC := (annot [] [4] (codeOf Tryd.f22) 0).1
abbrev nt_value_Check : Nat := 8
theorem ok_value_Check : FnOK E0.P 22 ac_value_Check.code nt_value_Check [.tmp 4] := fn_ok _ _ Tryd.f22 [] [4] _ 8 Tryd.func22 (by kernel_rfl) (by kernel_rfl) (by kernel_rfl) (by kernel_rfl)
theorem F_value_Check_of (a0_0 a0_1 a0_2 : Int) (a0_3 : List UInt8) (a0_4 a0_5 : LL) (a1 : Bool) (Q : QQ) (h :
 (Call E0.P fn_value_check [(.imm (.agg [(.int .i64 a0_0), (.int .i64 a0_1), (.int .i64 a0_2), (.str a0_3), (.sl .any 6 a0_4), (.sl .any 7 a0_5)])), (Ab a1), (Ai 0)] [] fun r0 g0 =>
 Req (g0 = [] ∧ r0 = .imm (.int .i64 (rI r0)))
 (Q (Ai (rI r0)) []))) : Call E0.P fn_value_Check [(.imm (.agg [(.int .i64 a0_0), (.int .i64 a0_1), (.int .i64 a0_2), (.str a0_3), (.sl .any 6 a0_4), (.sl .any 7 a0_5)])), (Ab a1)] [] Q := fun_rule (envN E0 nt_value_Check) (okE nt_value_Check) 3 0 22 ac_value_Check [.tmp 4] ok_value_Check _ _ Q rfl rfl (kr (by kernel_rfl) h)
noncomputable def ac_write_plain : AC := (annot [(13, [1, 3, 33, 34, 35], []), (15, [1, 3], []), (21, [1, 3, 48, 49, 50], []), (23, [1, 3], []), (28, [1, 1000003], [])] [2] (codeOf Tryd.f50) 0).1
abbrev nt_write_plain : Nat := 79
def L_write_plain_13 (t33r : LL) (t34 t35 : Int) (h1_1_0 h1_1_1 h1_1_2 : Int) (h1_1_3 : List UInt8) (h1_1_4r h1_1_5r h3r : LL) (K : KK) : Prop := LoopOK 13 E0.P nt_write_plain (lbodyOf 13 ac_write_plain).code ⟨[(1, (.ptr (Nm.loc 1) 0)), (3, (.own (Nm.loc 3))), (33, (Al 6 t33r)), (34, (Ai t34)), (35, (Ai t35))], [((Nm.loc 1), (.blk ty_api_Value [(Ai h1_1_0), (Ai h1_1_1), (Ai h1_1_2), (As h1_1_3), (Al 6 h1_1_4r), (Al 7 h1_1_5r)])), ((Nm.loc 3), (.arr (ty_string + 2) true 1 h3r))]⟩ K
def L_write_plain_21 (t48r : LL) (t49 t50 : Int) (h1_1_0 h1_1_1 h1_1_2 : Int) (h1_1_3 : List UInt8) (h1_1_4r h1_1_5r h3r : LL) (K : KK) : Prop := LoopOK 21 E0.P nt_write_plain (lbodyOf 21 ac_write_plain).code ⟨[(1, (.ptr (Nm.loc 1) 0)), (3, (.own (Nm.loc 3))), (48, (Al 7 t48r)), (49, (Ai t49)), (50, (Ai t50))], [((Nm.loc 1), (.blk ty_api_Value [(Ai h1_1_0), (Ai h1_1_1), (Ai h1_1_2), (As h1_1_3), (Al 6 h1_1_4r), (Al 7 h1_1_5r)])), ((Nm.loc 3), (.arr (ty_string + 2) true 1 h3r))]⟩ K
def C_write_plain_28 (t3r : LL) (h1_1_0 h1_1_1 h1_1_2 : Int) (h1_1_3 : List UInt8) (h1_1_4r h1_1_5r : LL) (K : KK) : Prop := CutOK 28 E0.P nt_write_plain (cbodyOf 28 ac_write_plain).code ⟨[(1, (.ptr (Nm.loc 1) 0)), (3, (Al 1 t3r))], [((Nm.loc 1), (.blk ty_api_Value [(Ai h1_1_0), (Ai h1_1_1), (Ai h1_1_2), (As h1_1_3), (Al 6 h1_1_4r), (Al 7 h1_1_5r)]))]⟩ K
def K_write_plain_0 (Q : QQ) : KK := kE fun st => finish 0 E0.T [.tmp 2] [] Q st
def K_write_plain_1 (Q : QQ) : Ex → St → Prop
 | .normal, st => CutOK 28 E0.P nt_write_plain (cbodyOf 28 ac_write_plain).code (mask [1, 1000003] st) (K_write_plain_0 Q)
 | .exit i, st => (match (i.beq 1 : Bool) with
 | true => CutOK 28 E0.P nt_write_plain (cbodyOf 28 ac_write_plain).code (mask [1, 1000003] st) (K_write_plain_0 Q)
 | false => (match (i.beq 0 : Bool) with
 | true => CutOK 28 E0.P nt_write_plain (cbodyOf 28 ac_write_plain).code (mask [1, 1000003] st) (K_write_plain_0 Q)
 | false => False))
 | .goto i, st => False
 | .ret, st => finish 0 E0.T [.tmp 2] [] Q st
def K_write_plain_2 (Q : QQ) : Ex → St → Prop
 | .normal, st => CutOK 28 E0.P nt_write_plain (cbodyOf 28 ac_write_plain).code (mask [1, 1000003] st) (K_write_plain_0 Q)
 | .exit i, st => (match (i.beq 3 : Bool) with
 | true => CutOK 28 E0.P nt_write_plain (cbodyOf 28 ac_write_plain).code (mask [1, 1000003] st) (K_write_plain_0 Q)
 | false => (match (i.beq 0 : Bool) with
 | true => CutOK 28 E0.P nt_write_plain (cbodyOf 28 ac_write_plain).code (mask [1, 1000003] st) (K_write_plain_0 Q)
 | false => False))
 | .goto i, st => False
 | .ret, st => finish 0 E0.T [.tmp 2] [] Q st
theorem L_write_plain_13_of (t33r : LL) (t34 t35 : Int) (h1_1_0 h1_1_1 h1_1_2 : Int) (h1_1_3 : List UInt8) (h1_1_4r h1_1_5r h3r : LL) (K : KK) (h :
 (Br (decide (t35 < t34))
 (Req (((0 : Int) ≤ t35 ∧ t35 < (↑t33r.length : Int)) ∧
 shOK
 [.int .i64, .int .i64, .int .i64, .str, .sl 6 ty_api_Value,
 .sl 7 ty_api_Pair]
 (t33r.getD t35.toNat []) =
 true)
 (Call E0.P fn_write_plain [(.imm (.agg [(.int .i64 (gI (t33r.getD t35.toNat []) 0)), (.int .i64 (gI (t33r.getD t35.toNat []) 1)), (.int .i64 (gI (t33r.getD t35.toNat []) 2)), (.str (gS (t33r.getD t35.toNat []) 3)), (.sl .any 6 (gR (t33r.getD t35.toNat []) 4)), (.sl .any 7 (gR (t33r.getD t35.toNat []) 5))]))] [] fun r0 g0 =>
 Req (g0 = [] ∧ r0 = .imm (.str (rS r0)))
 (Req ((h3r.length + 1) * 16 ≤ 140737488355328 ∧ h3r.length + 1 ≤ 140737488355328)
 (L_write_plain_13 t33r t34 (IntKind.i64.wrap (t35 + (1 : Int))) h1_1_0 h1_1_1 h1_1_2 h1_1_3 h1_1_4r h1_1_5r (h3r ++ [[IV.str (rS r0)]]) K))))
 (K (.exit (1)) ⟨[(1, (.ptr (Nm.loc 1) 0)), (3, (.own (Nm.loc 3)))], [((Nm.loc 1), (.blk ty_api_Value [(Ai h1_1_0), (Ai h1_1_1), (Ai h1_1_2), (As h1_1_3), (Al 6 h1_1_4r), (Al 7 h1_1_5r)])), ((Nm.loc 3), (.arr (ty_string + 2) true 1 h3r))]⟩))) : L_write_plain_13 t33r t34 t35 h1_1_0 h1_1_1 h1_1_2 h1_1_3 h1_1_4r h1_1_5r h3r K := loop_rule (envN E0 nt_write_plain) (okE nt_write_plain) 3 13 (lbodyOf 13 ac_write_plain) [1, 3, 33, 34, 35] _ K rfl (kr (by kernel_rfl) h)
theorem L_write_plain_21_of (t48r : LL) (t49 t50 : Int) (h1_1_0 h1_1_1 h1_1_2 : Int) (h1_1_3 : List UInt8) (h1_1_4r h1_1_5r h3r : LL) (K : KK) (h :
 (Br (decide (t50 < t49))
 (Req (((0 : Int) ≤ t50 ∧ t50 < (↑t48r.length : Int)) ∧
 shOK
 [.str, .int .i64, .int .i64, .int .i64, .str, .sl 6 ty_api_Value,
 .sl 7 ty_api_Pair]
 (t48r.getD t50.toNat []) =
 true)
 (Call E0.P fn_write_Name [(As (gS (t48r.getD t50.toNat []) 0))] [] fun r0 g0 =>
 Req (g0 = [] ∧ r0 = .imm (.str (rS r0)))
 (Call E0.P fn_write_plain [(.imm (.agg [(.int .i64 (gI (t48r.getD t50.toNat []) 1)), (.int .i64 (gI (t48r.getD t50.toNat []) 2)), (.int .i64 (gI (t48r.getD t50.toNat []) 3)), (.str (gS (t48r.getD t50.toNat []) 4)), (.sl .any 6 (gR (t48r.getD t50.toNat []) 5)), (.sl .any 7 (gR (t48r.getD t50.toNat []) 6))]))] [] fun r1 g1 =>
 Req (g1 = [] ∧ r1 = .imm (.str (rS r1)))
 (Call E0.P fn_write_spaced [(.imm (.sl .any 1 [[IV.str (rS r0)], [.str (rS r1)]]))] [] fun r2 g2 =>
 Req (g2 = [] ∧ r2 = .imm (.str (rS r2)))
 (Req ((h3r.length + 1) * 16 ≤ 140737488355328 ∧ h3r.length + 1 ≤ 140737488355328)
 (L_write_plain_21 t48r t49 (IntKind.i64.wrap (t50 + (1 : Int))) h1_1_0 h1_1_1 h1_1_2 h1_1_3 h1_1_4r h1_1_5r (h3r ++ [[IV.str (rS r2)]]) K))))))
 (K (.exit (3)) ⟨[(1, (.ptr (Nm.loc 1) 0)), (3, (.own (Nm.loc 3)))], [((Nm.loc 1), (.blk ty_api_Value [(Ai h1_1_0), (Ai h1_1_1), (Ai h1_1_2), (As h1_1_3), (Al 6 h1_1_4r), (Al 7 h1_1_5r)])), ((Nm.loc 3), (.arr (ty_string + 2) true 1 h3r))]⟩))) : L_write_plain_21 t48r t49 t50 h1_1_0 h1_1_1 h1_1_2 h1_1_3 h1_1_4r h1_1_5r h3r K := loop_rule (envN E0 nt_write_plain) (okE nt_write_plain) 3 21 (lbodyOf 21 ac_write_plain) [1, 3, 48, 49, 50] _ K rfl (kr (by kernel_rfl) h)
theorem C_write_plain_28_of (t3r : LL) (h1_1_0 h1_1_1 h1_1_2 : Int) (h1_1_3 : List UInt8) (h1_1_4r h1_1_5r : LL) (K : KK) (h :
 (Call E0.P fn_write_around [(Ai h1_1_0), (Al 1 t3r)] [] fun r0 g0 =>
 Req (g0 = [] ∧ r0 = .imm (.str (rS r0)))
 (K .ret ⟨[(2, (As (rS r0)))], []⟩))) : C_write_plain_28 t3r h1_1_0 h1_1_1 h1_1_2 h1_1_3 h1_1_4r h1_1_5r K := cut_rule (envN E0 nt_write_plain) (okE nt_write_plain) 3 28 (cbodyOf 28 ac_write_plain) [] _ K rfl (kr (by kernel_rfl) h)
theorem K_write_plain_0_x0 (Q : QQ) (t2 : List UInt8) (h :
 (Q (As t2) [])) : K_write_plain_0 Q .ret ⟨[(2, (As t2))], []⟩ := kr (by kernel_rfl) h
theorem K_write_plain_1_x0 (Q : QQ) (h1_1_0 h1_1_1 h1_1_2 : Int) (h1_1_3 : List UInt8) (h1_1_4r h1_1_5r h3r : LL) (h :
 (C_write_plain_28 h3r h1_1_0 h1_1_1 h1_1_2 h1_1_3 h1_1_4r h1_1_5r (K_write_plain_0 Q))) : K_write_plain_1 Q (.exit (1)) ⟨[(1, (.ptr (Nm.loc 1) 0)), (3, (.own (Nm.loc 3)))], [((Nm.loc 1), (.blk ty_api_Value [(Ai h1_1_0), (Ai h1_1_1), (Ai h1_1_2), (As h1_1_3), (Al 6 h1_1_4r), (Al 7 h1_1_5r)])), ((Nm.loc 3), (.arr (ty_string + 2) true 1 h3r))]⟩ := kr (by kernel_rfl) h
theorem K_write_plain_2_x0 (Q : QQ) (h1_1_0 h1_1_1 h1_1_2 : Int) (h1_1_3 : List UInt8) (h1_1_4r h1_1_5r h3r : LL) (h :
 (C_write_plain_28 h3r h1_1_0 h1_1_1 h1_1_2 h1_1_3 h1_1_4r h1_1_5r (K_write_plain_0 Q))) : K_write_plain_2 Q (.exit (3)) ⟨[(1, (.ptr (Nm.loc 1) 0)), (3, (.own (Nm.loc 3)))], [((Nm.loc 1), (.blk ty_api_Value [(Ai h1_1_0), (Ai h1_1_1), (Ai h1_1_2), (As h1_1_3), (Al 6 h1_1_4r), (Al 7 h1_1_5r)])), ((Nm.loc 3), (.arr (ty_string + 2) true 1 h3r))]⟩ := kr (by kernel_rfl) h
theorem ok_write_plain : FnOK E0.P 50 ac_write_plain.code nt_write_plain [.tmp 2] := fn_ok _ _ Tryd.f50 [(13, [1, 3, 33, 34, 35], []), (15, [1, 3], []), (21, [1, 3, 48, 49, 50], []), (23, [1, 3], []), (28, [1, 1000003], [])] [2] _ 79 Tryd.func50 (by kernel_rfl) (by kernel_rfl) (by kernel_rfl) (by kernel_rfl)
theorem F_write_plain_of (a0_0 a0_1 a0_2 : Int) (a0_3 : List UInt8) (a0_4 a0_5 : LL) (Q : QQ) (h :
 (Br (decide (a0_0 = (1 : Int)))
 (Call E0.P fn_write_word [(Ai a0_1)] [] fun r0 g0 =>
 Req (g0 = [] ∧ r0 = .imm (.str (rS r0)))
 (Q (As (rS r0)) []))
 (Br (decide (a0_0 = (2 : Int)))
 (Call E0.P fn_digits_Put [(Ai a0_1)] [] fun r1 g1 =>
 Req (g1 = [] ∧ r1 = .imm (.str (rS r1)))
 (Q (As (rS r1)) []))
 (Br (decide (a0_0 = (3 : Int)))
 (Call E0.P fn_write_Name [(As a0_3)] [] fun r2 g2 =>
 Req (g2 = [] ∧ r2 = .imm (.str (rS r2)))
 (Q (As (rS r2)) []))
 (Br (decide (a0_0 = (4 : Int)))
 (Call E0.P fn_write_Bytes [(As a0_3)] [] fun r3 g3 =>
 Req (g3 = [] ∧ r3 = .imm (.str (rS r3)))
 (Q (As (rS r3)) []))
 (Br (decide (a0_0 = (5 : Int)))
 (L_write_plain_13 a0_4 ((↑a0_4.length : Int)) ((0 : Int)) a0_0 a0_1 a0_2 a0_3 a0_4 a0_5 [] (K_write_plain_1 Q))
 (Br (decide (a0_0 = (6 : Int)))
 (L_write_plain_21 a0_5 ((↑a0_5.length : Int)) ((0 : Int)) a0_0 a0_1 a0_2 a0_3 a0_4 a0_5 [] (K_write_plain_2 Q))
 (Br (decide (a0_0 = (7 : Int)))
 (Call E0.P fn_digits_Put [(Ai a0_1)] [] fun r4 g4 =>
 Req (g4 = [] ∧ r4 = .imm (.str (rS r4)))
 (Call E0.P fn_digits_Put [(Ai a0_2)] [] fun r5 g5 =>
 Req (g5 = [] ∧ r5 = .imm (.str (rS r5)))
 (C_write_plain_28 [[IV.str (rS r4)], [.str (rS r5)]] a0_0 a0_1 a0_2 a0_3 a0_4 a0_5 (K_write_plain_0 Q))))
 (C_write_plain_28 [] a0_0 a0_1 a0_2 a0_3 a0_4 a0_5 (K_write_plain_0 Q)))))))))) : Call E0.P fn_write_plain [(.imm (.agg [(.int .i64 a0_0), (.int .i64 a0_1), (.int .i64 a0_2), (.str a0_3), (.sl .any 6 a0_4), (.sl .any 7 a0_5)]))] [] Q := fun_rule (envN E0 nt_write_plain) (okE nt_write_plain) 3 0 50 ac_write_plain [.tmp 2] ok_write_plain _ _ Q rfl rfl (kr (by kernel_rfl) h)
noncomputable def ac_r16_Check : AC := (annot [] [4] (codeOf Tryd.f51) 0).1
abbrev nt_r16_Check : Nat := 8
theorem ok_r16_Check : FnOK E0.P 51 ac_r16_Check.code nt_r16_Check [.tmp 4] := fn_ok _ _ Tryd.f51 [] [4] _ 8 Tryd.func51 (by kernel_rfl) (by kernel_rfl) (by kernel_rfl) (by kernel_rfl)
theorem F_r16_Check_of (a0_0 a0_1 a0_2 : Int) (a0_3 : List UInt8) (a0_4 a0_5 : LL) (a1 : Bool) (Q : QQ) (h :
 (Call E0.P fn_r16_check [(.imm (.agg [(.int .i64 a0_0), (.int .i64 a0_1), (.int .i64 a0_2), (.str a0_3), (.sl .any 6 a0_4), (.sl .any 7 a0_5)])), (Ab a1), (Ai 0)] [] fun r0 g0 =>
 Req (g0 = [] ∧ r0 = .imm (.int .i64 (rI r0)))
 (Q (Ai (rI r0)) []))) : Call E0.P fn_r16_Check [(.imm (.agg [(.int .i64 a0_0), (.int .i64 a0_1), (.int .i64 a0_2), (.str a0_3), (.sl .any 6 a0_4), (.sl .any 7 a0_5)])), (Ab a1)] [] Q := fun_rule (envN E0 nt_r16_Check) (okE nt_r16_Check) 3 0 51 ac_r16_Check [.tmp 4] ok_r16_Check _ _ Q rfl rfl (kr (by kernel_rfl) h)
noncomputable def ac_r17_plain : AC := (annot [(16, [1, 3, 4], []), (18, [3], []), (21, [1, 3, 4], [1, 3, 4]), (22, [1, 3, 4], [1, 3, 4]), (23, [3], []), (28, [1, 5, 6], []), (30, [5], []), (33, [1, 5, 6], [1, 5, 6]), (34, [1, 5, 6], [1, 5, 6]), (35, [5], []), (39, [], [])] [2] (codeOf Tryd.f52) 0).1
abbrev nt_r17_plain : Nat := 98
def L_r17_plain_16 (t3 : List UInt8) (t4 h1_1_0 : Int) (h1_1_1 h1_1_2 : Int) (h1_1_3 : List UInt8) (h1_1_4r h1_1_5r : LL) (K : KK) : Prop := LoopOK 16 E0.P nt_r17_plain (lbodyOf 16 ac_r17_plain).code ⟨[(1, (.ptr (Nm.loc 1) 0)), (3, (As t3)), (4, (Ai t4))], [((Nm.loc 1), (.blk ty_api_Value [(Ai h1_1_0), (Ai h1_1_1), (Ai h1_1_2), (As h1_1_3), (Al 6 h1_1_4r), (Al 7 h1_1_5r)]))]⟩ K
def L_r17_plain_28 (t5 : List UInt8) (t6 h1_1_0 : Int) (h1_1_1 h1_1_2 : Int) (h1_1_3 : List UInt8) (h1_1_4r h1_1_5r : LL) (K : KK) : Prop := LoopOK 28 E0.P nt_r17_plain (lbodyOf 28 ac_r17_plain).code ⟨[(1, (.ptr (Nm.loc 1) 0)), (5, (As t5)), (6, (Ai t6))], [((Nm.loc 1), (.blk ty_api_Value [(Ai h1_1_0), (Ai h1_1_1), (Ai h1_1_2), (As h1_1_3), (Al 6 h1_1_4r), (Al 7 h1_1_5r)]))]⟩ K
def C_r17_plain_39 (K : KK) : Prop := CutOK 39 E0.P nt_r17_plain (cbodyOf 39 ac_r17_plain).code ⟨[], []⟩ K
def C_r17_plain_21 (t3 : List UInt8) (t4 h1_1_0 : Int) (h1_1_1 h1_1_2 : Int) (h1_1_3 : List UInt8) (h1_1_4r h1_1_5r : LL) (K : KK) : Prop := CutOK 21 E0.P nt_r17_plain (cbodyOf 21 ac_r17_plain).code ⟨[(1, (.ptr (Nm.loc 1) 0)), (3, (As t3)), (4, (Ai t4))], [((Nm.loc 1), (.blk ty_api_Value [(Ai h1_1_0), (Ai h1_1_1), (Ai h1_1_2), (As h1_1_3), (Al 6 h1_1_4r), (Al 7 h1_1_5r)]))]⟩ K
def C_r17_plain_33 (t5 : List UInt8) (t6 h1_1_0 : Int) (h1_1_1 h1_1_2 : Int) (h1_1_3 : List UInt8) (h1_1_4r h1_1_5r : LL) (K : KK) : Prop := CutOK 33 E0.P nt_r17_plain (cbodyOf 33 ac_r17_plain).code ⟨[(1, (.ptr (Nm.loc 1) 0)), (5, (As t5)), (6, (Ai t6))], [((Nm.loc 1), (.blk ty_api_Value [(Ai h1_1_0), (Ai h1_1_1), (Ai h1_1_2), (As h1_1_3), (Al 6 h1_1_4r), (Al 7 h1_1_5r)]))]⟩ K
def C_r17_plain_23 (t3 : List UInt8) (K : KK) : Prop := CutOK 23 E0.P nt_r17_plain (cbodyOf 23 ac_r17_plain).code ⟨[(3, (As t3))], []⟩ K
def C_r17_plain_35 (t5 : List UInt8) (K : KK) : Prop := CutOK 35 E0.P nt_r17_plain (cbodyOf 35 ac_r17_plain).code ⟨[(5, (As t5))], []⟩ K
def C_r17_plain_22 (t3 : List UInt8) (t4 h1_1_0 : Int) (h1_1_1 h1_1_2 : Int) (h1_1_3 : List UInt8) (h1_1_4r h1_1_5r : LL) (K : KK) : Prop := CutOK 22 E0.P nt_r17_plain (cbodyOf 22 ac_r17_plain).code ⟨[(1, (.ptr (Nm.loc 1) 0)), (3, (As t3)), (4, (Ai t4))], [((Nm.loc 1), (.blk ty_api_Value [(Ai h1_1_0), (Ai h1_1_1), (Ai h1_1_2), (As h1_1_3), (Al 6 h1_1_4r), (Al 7 h1_1_5r)]))]⟩ K
def C_r17_plain_34 (t5 : List UInt8) (t6 h1_1_0 : Int) (h1_1_1 h1_1_2 : Int) (h1_1_3 : List UInt8) (h1_1_4r h1_1_5r : LL) (K : KK) : Prop := CutOK 34 E0.P nt_r17_plain (cbodyOf 34 ac_r17_plain).code ⟨[(1, (.ptr (Nm.loc 1) 0)), (5, (As t5)), (6, (Ai t6))], [((Nm.loc 1), (.blk ty_api_Value [(Ai h1_1_0), (Ai h1_1_1), (Ai h1_1_2), (As h1_1_3), (Al 6 h1_1_4r), (Al 7 h1_1_5r)]))]⟩ K
def K_r17_plain_0 (Q : QQ) : KK := kE fun st => finish 0 E0.T [.tmp 2] [] Q st
def K_r17_plain_1 (Q : QQ) : KK := kF 0 (fun st => CutOK 39 E0.P nt_r17_plain (cbodyOf 39 ac_r17_plain).code (mask [] st) (K_r17_plain_0 Q)) fun st => finish 0 E0.T [.tmp 2] [] Q st
def K_r17_plain_2 (Q : QQ) : Ex → St → Prop
 | .normal, st => CutOK 23 E0.P nt_r17_plain (cbodyOf 23 ac_r17_plain).code (mask [3] st) (K_r17_plain_1 Q)
 | .exit i, st => (match (i.beq 1 : Bool) with
 | true => CutOK 23 E0.P nt_r17_plain (cbodyOf 23 ac_r17_plain).code (mask [3] st) (K_r17_plain_1 Q)
 | false => (match (i.beq 0 : Bool) with
 | true => CutOK 39 E0.P nt_r17_plain (cbodyOf 39 ac_r17_plain).code (mask [] st) (K_r17_plain_0 Q)
 | false => False))
 | .goto i, st => False
 | .ret, st => finish 0 E0.T [.tmp 2] [] Q st
def K_r17_plain_3 (Q : QQ) : Ex → St → Prop
 | .normal, st => CutOK 35 E0.P nt_r17_plain (cbodyOf 35 ac_r17_plain).code (mask [5] st) (K_r17_plain_1 Q)
 | .exit i, st => (match (i.beq 3 : Bool) with
 | true => CutOK 35 E0.P nt_r17_plain (cbodyOf 35 ac_r17_plain).code (mask [5] st) (K_r17_plain_1 Q)
 | false => (match (i.beq 0 : Bool) with
 | true => CutOK 39 E0.P nt_r17_plain (cbodyOf 39 ac_r17_plain).code (mask [] st) (K_r17_plain_0 Q)
 | false => False))
 | .goto i, st => False
 | .ret, st => finish 0 E0.T [.tmp 2] [] Q st
def K_r17_plain_4 (K : KK) : Ex → St → Prop
 | .normal, st => LoopOK 16 E0.P nt_r17_plain (lbodyOf 16 ac_r17_plain).code (mask [1, 3, 4] st) K
 | .exit i, st => K (.exit i) st
 | .goto i, st => K (.goto i) st
 | .ret, st => K .ret st
def K_r17_plain_5 (K : KK) : KK := kC 2 (fun st => CutOK 22 E0.P nt_r17_plain (cbodyOf 22 ac_r17_plain).code (mask [1, 3, 4] st) (K_r17_plain_4 K)) K
def K_r17_plain_6 (K : KK) : Ex → St → Prop
 | .normal, st => LoopOK 28 E0.P nt_r17_plain (lbodyOf 28 ac_r17_plain).code (mask [1, 5, 6] st) K
 | .exit i, st => K (.exit i) st
 | .goto i, st => K (.goto i) st
 | .ret, st => K .ret st
def K_r17_plain_7 (K : KK) : KK := kC 4 (fun st => CutOK 34 E0.P nt_r17_plain (cbodyOf 34 ac_r17_plain).code (mask [1, 5, 6] st) (K_r17_plain_6 K)) K
theorem L_r17_plain_16_of (t3 : List UInt8) (t4 h1_1_0 : Int) (h1_1_1 h1_1_2 : Int) (h1_1_3 : List UInt8) (h1_1_4r h1_1_5r : LL) (K : KK) (h :
 (Br (decide (t4 < (↑h1_1_4r.length : Int)))
 (Br (decide ((0 : Int) < t4))
 (Req ((↑(t3.length + (1 : Nat)) : Int) ≤ (9223372036854775807 : Int))
 (C_r17_plain_21 (t3 ++ [(32 : UInt8)]) t4 h1_1_0 h1_1_1 h1_1_2 h1_1_3 h1_1_4r h1_1_5r (K_r17_plain_5 K)))
 (C_r17_plain_21 t3 t4 h1_1_0 h1_1_1 h1_1_2 h1_1_3 h1_1_4r h1_1_5r (K_r17_plain_5 K)))
 (K (.exit (1)) ⟨[(3, (As t3))], []⟩))) : L_r17_plain_16 t3 t4 h1_1_0 h1_1_1 h1_1_2 h1_1_3 h1_1_4r h1_1_5r K := loop_rule (envN E0 nt_r17_plain) (okE nt_r17_plain) 3 16 (lbodyOf 16 ac_r17_plain) [1, 3, 4] _ K rfl (kr (by kernel_rfl) h)
theorem L_r17_plain_28_of (t5 : List UInt8) (t6 h1_1_0 : Int) (h1_1_1 h1_1_2 : Int) (h1_1_3 : List UInt8) (h1_1_4r h1_1_5r : LL) (K : KK) (h :
 (Br (decide (t6 < (↑h1_1_5r.length : Int)))
 (Br (decide ((0 : Int) < t6))
 (Req ((↑(t5.length + (1 : Nat)) : Int) ≤ (9223372036854775807 : Int))
 (C_r17_plain_33 (t5 ++ [(32 : UInt8)]) t6 h1_1_0 h1_1_1 h1_1_2 h1_1_3 h1_1_4r h1_1_5r (K_r17_plain_7 K)))
 (C_r17_plain_33 t5 t6 h1_1_0 h1_1_1 h1_1_2 h1_1_3 h1_1_4r h1_1_5r (K_r17_plain_7 K)))
 (K (.exit (3)) ⟨[(5, (As t5))], []⟩))) : L_r17_plain_28 t5 t6 h1_1_0 h1_1_1 h1_1_2 h1_1_3 h1_1_4r h1_1_5r K := loop_rule (envN E0 nt_r17_plain) (okE nt_r17_plain) 3 28 (lbodyOf 28 ac_r17_plain) [1, 5, 6] _ K rfl (kr (by kernel_rfl) h)
theorem C_r17_plain_39_of (K : KK) (h :
 (K .ret ⟨[(2, (.imm (.str [110, 117, 108, 108])))], []⟩)) : C_r17_plain_39  K := cut_rule (envN E0 nt_r17_plain) (okE nt_r17_plain) 3 39 (cbodyOf 39 ac_r17_plain) [] _ K rfl (kr (by kernel_rfl) h)
theorem C_r17_plain_21_of (t3 : List UInt8) (t4 h1_1_0 : Int) (h1_1_1 h1_1_2 : Int) (h1_1_3 : List UInt8) (h1_1_4r h1_1_5r : LL) (K : KK) (h :
 (Req (((0 : Int) ≤ t4 ∧ t4 < (↑h1_1_4r.length : Int)) ∧
 shOK
 [.int .i64, .int .i64, .int .i64, .str, .sl 6 ty_api_Value,
 .sl 7 ty_api_Pair]
 (h1_1_4r.getD t4.toNat []) =
 true)
 (Call E0.P fn_r17_plain [(.imm (.agg [(.int .i64 (gI (h1_1_4r.getD t4.toNat []) 0)), (.int .i64 (gI (h1_1_4r.getD t4.toNat []) 1)), (.int .i64 (gI (h1_1_4r.getD t4.toNat []) 2)), (.str (gS (h1_1_4r.getD t4.toNat []) 3)), (.sl .any 6 (gR (h1_1_4r.getD t4.toNat []) 4)), (.sl .any 7 (gR (h1_1_4r.getD t4.toNat []) 5))]))] [] fun r0 g0 =>
 Req (g0 = [] ∧ r0 = .imm (.str (rS r0)))
 (Req ((↑(t3.length + (rS r0).length) : Int) ≤ (9223372036854775807 : Int))
 (K .normal ⟨[(1, (.ptr (Nm.loc 1) 0)), (3, (As (t3 ++ rS r0))), (4, (Ai t4))], [((Nm.loc 1), (.blk ty_api_Value [(Ai h1_1_0), (Ai h1_1_1), (Ai h1_1_2), (As h1_1_3), (Al 6 h1_1_4r), (Al 7 h1_1_5r)]))]⟩))))) : C_r17_plain_21 t3 t4 h1_1_0 h1_1_1 h1_1_2 h1_1_3 h1_1_4r h1_1_5r K := cut_rule (envN E0 nt_r17_plain) (okE nt_r17_plain) 3 21 (cbodyOf 21 ac_r17_plain) [1, 3, 4] _ K rfl (kr (by kernel_rfl) h)
theorem C_r17_plain_33_of (t5 : List UInt8) (t6 h1_1_0 : Int) (h1_1_1 h1_1_2 : Int) (h1_1_3 : List UInt8) (h1_1_4r h1_1_5r : LL) (K : KK) (h :
 (Req (((0 : Int) ≤ t6 ∧ t6 < (↑h1_1_5r.length : Int)) ∧
 shOK
 [.str, .int .i64, .int .i64, .int .i64, .str, .sl 6 ty_api_Value,
 .sl 7 ty_api_Pair]
 (h1_1_5r.getD t6.toNat []) =
 true)
 (Req (((0 : Int) ≤ t6 ∧ t6 < (↑h1_1_5r.length : Int)) ∧
 shOK
 [.str, .int .i64, .int .i64, .int .i64, .str, .sl 6 ty_api_Value,
 .sl 7 ty_api_Pair]
 (h1_1_5r.getD t6.toNat []) =
 true)
 (Call E0.P fn_r17_Name [(As (gS (h1_1_5r.getD t6.toNat []) 0))] [] fun r0 g0 =>
 Req (g0 = [] ∧ r0 = .imm (.str (rS r0)))
 (Req ((↑(t5.length + (rS r0).length) : Int) ≤ (9223372036854775807 : Int))
 (Req ((↑((t5 ++ rS r0).length + (1 : Nat)) : Int) ≤ (9223372036854775807 : Int))
 (Call E0.P fn_r17_plain [(.imm (.agg [(.int .i64 (gI (h1_1_5r.getD t6.toNat []) 1)), (.int .i64 (gI (h1_1_5r.getD t6.toNat []) 2)), (.int .i64 (gI (h1_1_5r.getD t6.toNat []) 3)), (.str (gS (h1_1_5r.getD t6.toNat []) 4)), (.sl .any 6 (gR (h1_1_5r.getD t6.toNat []) 5)), (.sl .any 7 (gR (h1_1_5r.getD t6.toNat []) 6))]))] [] fun r1 g1 =>
 Req (g1 = [] ∧ r1 = .imm (.str (rS r1)))
 (Req ((↑((t5 ++ rS r0 ++ [(32 : UInt8)]).length + (rS r1).length) : Int) ≤ (9223372036854775807 : Int))
 (K .normal ⟨[(1, (.ptr (Nm.loc 1) 0)), (5, (As (t5 ++ rS r0 ++ [(32 : UInt8)] ++ rS r1))), (6, (Ai t6))], [((Nm.loc 1), (.blk ty_api_Value [(Ai h1_1_0), (Ai h1_1_1), (Ai h1_1_2), (As h1_1_3), (Al 6 h1_1_4r), (Al 7 h1_1_5r)]))]⟩))))))))) : C_r17_plain_33 t5 t6 h1_1_0 h1_1_1 h1_1_2 h1_1_3 h1_1_4r h1_1_5r K := cut_rule (envN E0 nt_r17_plain) (okE nt_r17_plain) 3 33 (cbodyOf 33 ac_r17_plain) [1, 5, 6] _ K rfl (kr (by kernel_rfl) h)
theorem C_r17_plain_23_of (t3 : List UInt8) (K : KK) (h :
 (Req ((↑((1 : Nat) + t3.length) : Int) ≤ (9223372036854775807 : Int))
 (Req ((↑(([(91 : UInt8)] ++ t3).length + (1 : Nat)) : Int) ≤ (9223372036854775807 : Int))
 (K .ret ⟨[(2, (As ([(91 : UInt8)] ++ t3 ++ [(93 : UInt8)])))], []⟩)))) : C_r17_plain_23 t3 K := cut_rule (envN E0 nt_r17_plain) (okE nt_r17_plain) 3 23 (cbodyOf 23 ac_r17_plain) [] _ K rfl (kr (by kernel_rfl) h)
theorem C_r17_plain_35_of (t5 : List UInt8) (K : KK) (h :
 (Req ((↑((2 : Nat) + t5.length) : Int) ≤ (9223372036854775807 : Int))
 (Req ((↑(([(60 : UInt8), 60] ++ t5).length + (2 : Nat)) : Int) ≤ (9223372036854775807 : Int))
 (K .ret ⟨[(2, (As ([(60 : UInt8), 60] ++ t5 ++ [(62 : UInt8), 62])))], []⟩)))) : C_r17_plain_35 t5 K := cut_rule (envN E0 nt_r17_plain) (okE nt_r17_plain) 3 35 (cbodyOf 35 ac_r17_plain) [] _ K rfl (kr (by kernel_rfl) h)
theorem C_r17_plain_22_of (t3 : List UInt8) (t4 h1_1_0 : Int) (h1_1_1 h1_1_2 : Int) (h1_1_3 : List UInt8) (h1_1_4r h1_1_5r : LL) (K : KK) (h :
 (K .normal ⟨[(1, (.ptr (Nm.loc 1) 0)), (3, (As t3)), (4, (Ai (IntKind.i64.wrap (t4 + (1 : Int)))))], [((Nm.loc 1), (.blk ty_api_Value [(Ai h1_1_0), (Ai h1_1_1), (Ai h1_1_2), (As h1_1_3), (Al 6 h1_1_4r), (Al 7 h1_1_5r)]))]⟩)) : C_r17_plain_22 t3 t4 h1_1_0 h1_1_1 h1_1_2 h1_1_3 h1_1_4r h1_1_5r K := cut_rule (envN E0 nt_r17_plain) (okE nt_r17_plain) 3 22 (cbodyOf 22 ac_r17_plain) [1, 3, 4] _ K rfl (kr (by kernel_rfl) h)
theorem C_r17_plain_34_of (t5 : List UInt8) (t6 h1_1_0 : Int) (h1_1_1 h1_1_2 : Int) (h1_1_3 : List UInt8) (h1_1_4r h1_1_5r : LL) (K : KK) (h :
 (K .normal ⟨[(1, (.ptr (Nm.loc 1) 0)), (5, (As t5)), (6, (Ai (IntKind.i64.wrap (t6 + (1 : Int)))))], [((Nm.loc 1), (.blk ty_api_Value [(Ai h1_1_0), (Ai h1_1_1), (Ai h1_1_2), (As h1_1_3), (Al 6 h1_1_4r), (Al 7 h1_1_5r)]))]⟩)) : C_r17_plain_34 t5 t6 h1_1_0 h1_1_1 h1_1_2 h1_1_3 h1_1_4r h1_1_5r K := cut_rule (envN E0 nt_r17_plain) (okE nt_r17_plain) 3 34 (cbodyOf 34 ac_r17_plain) [1, 5, 6] _ K rfl (kr (by kernel_rfl) h)
theorem K_r17_plain_0_x0 (Q : QQ) (t2 : List UInt8) (h :
 (Q (As t2) [])) : K_r17_plain_0 Q .ret ⟨[(2, (As t2))], []⟩ := kr (by kernel_rfl) h
theorem K_r17_plain_1_x0 (Q : QQ) (t2 : List UInt8) (h :
 (Q (As t2) [])) : K_r17_plain_1 Q .ret ⟨[(2, (As t2))], []⟩ := kr (by kernel_rfl) h
theorem K_r17_plain_2_x0 (Q : QQ) (t3 : List UInt8) (h :
 (C_r17_plain_23 t3 (K_r17_plain_1 Q))) : K_r17_plain_2 Q (.exit (1)) ⟨[(3, (As t3))], []⟩ := kr (by kernel_rfl) h
theorem K_r17_plain_3_x0 (Q : QQ) (t5 : List UInt8) (h :
 (C_r17_plain_35 t5 (K_r17_plain_1 Q))) : K_r17_plain_3 Q (.exit (3)) ⟨[(5, (As t5))], []⟩ := kr (by kernel_rfl) h
theorem K_r17_plain_4_x0 (K : KK) (t3 : List UInt8) (t4 h1_1_0 : Int) (h1_1_1 h1_1_2 : Int) (h1_1_3 : List UInt8) (h1_1_4r h1_1_5r : LL) (h :
 (L_r17_plain_16 t3 t4 h1_1_0 h1_1_1 h1_1_2 h1_1_3 h1_1_4r h1_1_5r K)) : K_r17_plain_4 K .normal ⟨[(1, (.ptr (Nm.loc 1) 0)), (3, (As t3)), (4, (Ai t4))], [((Nm.loc 1), (.blk ty_api_Value [(Ai h1_1_0), (Ai h1_1_1), (Ai h1_1_2), (As h1_1_3), (Al 6 h1_1_4r), (Al 7 h1_1_5r)]))]⟩ := kr (by kernel_rfl) h
theorem K_r17_plain_5_x0 (K : KK) (t3 : List UInt8) (t4 h1_1_0 : Int) (h1_1_1 h1_1_2 : Int) (h1_1_3 : List UInt8) (h1_1_4r h1_1_5r : LL) (h :
 (C_r17_plain_22 t3 t4 h1_1_0 h1_1_1 h1_1_2 h1_1_3 h1_1_4r h1_1_5r (K_r17_plain_4 K))) : K_r17_plain_5 K .normal ⟨[(1, (.ptr (Nm.loc 1) 0)), (3, (As t3)), (4, (Ai t4))], [((Nm.loc 1), (.blk ty_api_Value [(Ai h1_1_0), (Ai h1_1_1), (Ai h1_1_2), (As h1_1_3), (Al 6 h1_1_4r), (Al 7 h1_1_5r)]))]⟩ := kr (by kernel_rfl) h
theorem K_r17_plain_6_x0 (K : KK) (t5 : List UInt8) (t6 h1_1_0 : Int) (h1_1_1 h1_1_2 : Int) (h1_1_3 : List UInt8) (h1_1_4r h1_1_5r : LL) (h :
 (L_r17_plain_28 t5 t6 h1_1_0 h1_1_1 h1_1_2 h1_1_3 h1_1_4r h1_1_5r K)) : K_r17_plain_6 K .normal ⟨[(1, (.ptr (Nm.loc 1) 0)), (5, (As t5)), (6, (Ai t6))], [((Nm.loc 1), (.blk ty_api_Value [(Ai h1_1_0), (Ai h1_1_1), (Ai h1_1_2), (As h1_1_3), (Al 6 h1_1_4r), (Al 7 h1_1_5r)]))]⟩ := kr (by kernel_rfl) h
theorem K_r17_plain_7_x0 (K : KK) (t5 : List UInt8) (t6 h1_1_0 : Int) (h1_1_1 h1_1_2 : Int) (h1_1_3 : List UInt8) (h1_1_4r h1_1_5r : LL) (h :
 (C_r17_plain_34 t5 t6 h1_1_0 h1_1_1 h1_1_2 h1_1_3 h1_1_4r h1_1_5r (K_r17_plain_6 K))) : K_r17_plain_7 K .normal ⟨[(1, (.ptr (Nm.loc 1) 0)), (5, (As t5)), (6, (Ai t6))], [((Nm.loc 1), (.blk ty_api_Value [(Ai h1_1_0), (Ai h1_1_1), (Ai h1_1_2), (As h1_1_3), (Al 6 h1_1_4r), (Al 7 h1_1_5r)]))]⟩ := kr (by kernel_rfl) h
theorem ok_r17_plain : FnOK E0.P 52 ac_r17_plain.code nt_r17_plain [.tmp 2] := fn_ok _ _ Tryd.f52 [(16, [1, 3, 4], []), (18, [3], []), (21, [1, 3, 4], [1, 3, 4]), (22, [1, 3, 4], [1, 3, 4]), (23, [3], []), (28, [1, 5, 6], []), (30, [5], []), (33, [1, 5, 6], [1, 5, 6]), (34, [1, 5, 6], [1, 5, 6]), (35, [5], []), (39, [], [])] [2] _ 98 Tryd.func52 (by kernel_rfl) (by kernel_rfl) (by kernel_rfl) (by kernel_rfl)
theorem F_r17_plain_of (a0_0 a0_1 a0_2 : Int) (a0_3 : List UInt8) (a0_4 a0_5 : LL) (Q : QQ) (h :
 (Br (decide (a0_0 = (1 : Int)))
 (Br (decide (a0_1 = (1 : Int)))
 (Q (.imm (.str [116, 114, 117, 101])) [])
 (Q (.imm (.str [102, 97, 108, 115, 101])) []))
 (Br (decide (a0_0 = (2 : Int)))
 (Call E0.P fn_r02_Put [(Ai a0_1)] [] fun r0 g0 =>
 Req (g0 = [] ∧ r0 = .imm (.str (rS r0)))
 (Q (As (rS r0)) []))
 (Br (decide (a0_0 = (3 : Int)))
 (Call E0.P fn_r17_Name [(As a0_3)] [] fun r1 g1 =>
 Req (g1 = [] ∧ r1 = .imm (.str (rS r1)))
 (Q (As (rS r1)) []))
 (Br (decide (a0_0 = (4 : Int)))
 (Call E0.P fn_r17_Bytes [(As a0_3)] [] fun r2 g2 =>
 Req (g2 = [] ∧ r2 = .imm (.str (rS r2)))
 (Q (As (rS r2)) []))
 (Br (decide (a0_0 = (5 : Int)))
 (L_r17_plain_16 [] ((0 : Int)) a0_0 a0_1 a0_2 a0_3 a0_4 a0_5 (K_r17_plain_2 Q))
 (Br (decide (a0_0 = (6 : Int)))
 (L_r17_plain_28 [] ((0 : Int)) a0_0 a0_1 a0_2 a0_3 a0_4 a0_5 (K_r17_plain_3 Q))
 (Br (decide (a0_0 = (7 : Int)))
 (Call E0.P fn_r02_Put [(Ai a0_1)] [] fun r3 g3 =>
 Req (g3 = [] ∧ r3 = .imm (.str (rS r3)))
 (Req ((↑((rS r3).length + (1 : Nat)) : Int) ≤ (9223372036854775807 : Int))
 (Call E0.P fn_r02_Put [(Ai a0_2)] [] fun r4 g4 =>
 Req (g4 = [] ∧ r4 = .imm (.str (rS r4)))
 (Req ((↑((rS r3 ++ [(32 : UInt8)]).length + (rS r4).length) : Int) ≤ (9223372036854775807 : Int))
 (Req ((↑((rS r3 ++ [(32 : UInt8)] ++ rS r4).length + (2 : Nat)) : Int) ≤ (9223372036854775807 : Int))
 (Q (As (rS r3 ++ [(32 : UInt8)] ++ rS r4 ++ [(32 : UInt8), 82])) []))))))
 (C_r17_plain_39  (K_r17_plain_0 Q)))))))))) : Call E0.P fn_r17_plain [(.imm (.agg [(.int .i64 a0_0), (.int .i64 a0_1), (.int .i64 a0_2), (.str a0_3), (.sl .any 6 a0_4), (.sl .any 7 a0_5)]))] [] Q := fun_rule (envN E0 nt_r17_plain) (okE nt_r17_plain) 3 0 52 ac_r17_plain [.tmp 2] ok_r17_plain _ _ Q rfl rfl (kr (by kernel_rfl) h)
noncomputable def ac_write_seen : AC := (annot [] [2] (codeOf Tryd.f55) 0).1
abbrev nt_write_seen : Nat := 9
theorem ok_write_seen : FnOK E0.P 55 ac_write_seen.code nt_write_seen [.tmp 2] := fn_ok _ _ Tryd.f55 [] [2] _ 9 Tryd.func55 (by kernel_rfl) (by kernel_rfl) (by kernel_rfl) (by kernel_rfl)
theorem F_write_seen_of (a0 : Int) (Q : QQ) (h :
 (Let (bif decide ((32 : Int) ≤ a0) then decide (a0 ≤ (126 : Int)) else false) fun x0 =>
 Q (Ab x0) [])) : Call E0.P fn_write_seen [(.imm (.int .u8 a0))] [] Q := fun_rule (envN E0 nt_write_seen) (okE nt_write_seen) 3 0 55 ac_write_seen [.tmp 2] ok_write_seen _ _ Q rfl rfl (kr (by kernel_rfl) h)
noncomputable def ac_octet_Kind : AC := (annot [(7, [3, 4], []), (20, [], [])] [2] (codeOf Tryd.f56) 0).1
abbrev nt_octet_Kind : Nat := 22
def C_octet_Kind_7 (t3 : Int) (t4 : Bool) (K : KK) : Prop := CutOK 7 E0.P nt_octet_Kind (cbodyOf 7 ac_octet_Kind).code ⟨[(3, (.imm (.int .u8 t3))), (4, (Ab t4))], []⟩ K
def C_octet_Kind_20 (K : KK) : Prop := CutOK 20 E0.P nt_octet_Kind (cbodyOf 20 ac_octet_Kind).code ⟨[], []⟩ K
def K_octet_Kind_0 (Q : QQ) : KK := kE fun st => finish 0 E0.T [.tmp 2] [] Q st
def K_octet_Kind_1 (Q : QQ) : KK := kF 0 (fun st => CutOK 20 E0.P nt_octet_Kind (cbodyOf 20 ac_octet_Kind).code (mask [] st) (K_octet_Kind_0 Q)) fun st => finish 0 E0.T [.tmp 2] [] Q st
theorem C_octet_Kind_7_of (t3 : Int) (t4 : Bool) (K : KK) (h :
 (Br (t4)
 (K .ret ⟨[(2, (Ai 0))], []⟩)
 (Br (decide (t3 = (40 : Int)))
 (Br (decide (t3 = (40 : Int)))
 (K .ret ⟨[(2, (Ai 1))], []⟩)
 (K .normal ⟨[], []⟩))
 (Br (decide (t3 = (41 : Int)))
 (Br (decide (t3 = (41 : Int)))
 (K .ret ⟨[(2, (Ai 1))], []⟩)
 (K .normal ⟨[], []⟩))
 (Br (decide (t3 = (60 : Int)))
 (Br (decide (t3 = (60 : Int)))
 (K .ret ⟨[(2, (Ai 1))], []⟩)
 (K .normal ⟨[], []⟩))
 (Br (decide (t3 = (62 : Int)))
 (Br (decide (t3 = (62 : Int)))
 (K .ret ⟨[(2, (Ai 1))], []⟩)
 (K .normal ⟨[], []⟩))
 (Br (decide (t3 = (91 : Int)))
 (Br (decide (t3 = (91 : Int)))
 (K .ret ⟨[(2, (Ai 1))], []⟩)
 (K .normal ⟨[], []⟩))
 (Br (decide (t3 = (93 : Int)))
 (Br (decide (t3 = (93 : Int)))
 (K .ret ⟨[(2, (Ai 1))], []⟩)
 (K .normal ⟨[], []⟩))
 (Br (decide (t3 = (123 : Int)))
 (Br (decide (t3 = (123 : Int)))
 (K .ret ⟨[(2, (Ai 1))], []⟩)
 (K .normal ⟨[], []⟩))
 (Br (decide (t3 = (125 : Int)))
 (Br (decide (t3 = (125 : Int)))
 (K .ret ⟨[(2, (Ai 1))], []⟩)
 (K .normal ⟨[], []⟩))
 (Br (decide (t3 = (47 : Int)))
 (Br (decide (t3 = (47 : Int)))
 (K .ret ⟨[(2, (Ai 1))], []⟩)
 (K .normal ⟨[], []⟩))
 (Br (decide (t3 = (37 : Int)))
 (K .ret ⟨[(2, (Ai 1))], []⟩)
 (K .normal ⟨[], []⟩))))))))))))) : C_octet_Kind_7 t3 t4 K := cut_rule (envN E0 nt_octet_Kind) (okE nt_octet_Kind) 3 7 (cbodyOf 7 ac_octet_Kind) [] _ K rfl (kr (by kernel_rfl) h)
theorem C_octet_Kind_20_of (K : KK) (h :
 (K .ret ⟨[(2, (Ai 2))], []⟩)) : C_octet_Kind_20  K := cut_rule (envN E0 nt_octet_Kind) (okE nt_octet_Kind) 3 20 (cbodyOf 20 ac_octet_Kind) [] _ K rfl (kr (by kernel_rfl) h)
theorem K_octet_Kind_0_x0 (Q : QQ) (t2 : Int) (h :
 (Q (Ai t2) [])) : K_octet_Kind_0 Q .ret ⟨[(2, (Ai t2))], []⟩ := kr (by kernel_rfl) h
theorem K_octet_Kind_1_x0 (Q : QQ) (t2 : Int) (h :
 (Q (Ai t2) [])) : K_octet_Kind_1 Q .ret ⟨[(2, (Ai t2))], []⟩ := kr (by kernel_rfl) h
theorem K_octet_Kind_1_x1 (Q : QQ) (h :
 (C_octet_Kind_20  (K_octet_Kind_0 Q))) : K_octet_Kind_1 Q .normal ⟨[], []⟩ := kr (by kernel_rfl) h
theorem ok_octet_Kind : FnOK E0.P 56 ac_octet_Kind.code nt_octet_Kind [.tmp 2] := fn_ok _ _ Tryd.f56 [(7, [3, 4], []), (20, [], [])] [2] _ 22 Tryd.func56 (by kernel_rfl) (by kernel_rfl) (by kernel_rfl) (by kernel_rfl)
theorem F_octet_Kind_of (a0 : Int) (Q : QQ) (h :
 (Br (decide (a0 = (0 : Int)))
 (C_octet_Kind_7 a0 (decide (a0 = (0 : Int))) (K_octet_Kind_1 Q))
 (Br (decide (a0 = (9 : Int)))
 (C_octet_Kind_7 a0 (decide (a0 = (9 : Int))) (K_octet_Kind_1 Q))
 (Br (decide (a0 = (10 : Int)))
 (C_octet_Kind_7 a0 (decide (a0 = (10 : Int))) (K_octet_Kind_1 Q))
 (Br (decide (a0 = (12 : Int)))
 (C_octet_Kind_7 a0 (decide (a0 = (12 : Int))) (K_octet_Kind_1 Q))
 (Br (decide (a0 = (13 : Int)))
 (C_octet_Kind_7 a0 (decide (a0 = (13 : Int))) (K_octet_Kind_1 Q))
 (C_octet_Kind_7 a0 (decide (a0 = (32 : Int))) (K_octet_Kind_1 Q)))))))) : Call E0.P fn_octet_Kind [(.imm (.int .u8 a0))] [] Q := fun_rule (envN E0 nt_octet_Kind) (okE nt_octet_Kind) 3 0 56 ac_octet_Kind [.tmp 2] ok_octet_Kind _ _ Q rfl rfl (kr (by kernel_rfl) h)
noncomputable def ac_octet_Digit : AC := (annot [] [2] (codeOf Tryd.f57) 0).1
abbrev nt_octet_Digit : Nat := 20
theorem ok_octet_Digit : FnOK E0.P 57 ac_octet_Digit.code nt_octet_Digit [.tmp 2] := fn_ok _ _ Tryd.f57 [] [2] _ 20 Tryd.func57 (by kernel_rfl) (by kernel_rfl) (by kernel_rfl) (by kernel_rfl)
theorem F_octet_Digit_of (a0 : Int) (Q : QQ) (h :
 (Let (bif decide (a0 < (0 : Int)) then true else decide ((15 : Int) < a0)) fun x0 =>
 Br (x0)
 (Q (.imm (.int .u8 ((0 : Int)))) [])
 (Br (decide (a0 < (10 : Int)))
 (Q (.imm (.int .u8 (IntKind.u8.wrap (IntKind.i64.wrap ((48 : Int) + a0))))) [])
 (Q (.imm (.int .u8 (IntKind.u8.wrap (IntKind.i64.wrap (IntKind.i64.wrap ((65 : Int) + a0) - (10 : Int)))))) [])))) : Call E0.P fn_octet_Digit [(Ai a0)] [] Q := fun_rule (envN E0 nt_octet_Digit) (okE nt_octet_Digit) 3 0 57 ac_octet_Digit [.tmp 2] ok_octet_Digit _ _ Q rfl rfl (kr (by kernel_rfl) h)
noncomputable def ac_r01_Kind : AC := (annot [] [2] (codeOf Tryd.f58) 0).1
abbrev nt_r01_Kind : Nat := 7
theorem ok_r01_Kind : FnOK E0.P 58 ac_r01_Kind.code nt_r01_Kind [.tmp 2] := fn_ok _ _ Tryd.f58 [] [2] _ 7 Tryd.func58 (by kernel_rfl) (by kernel_rfl) (by kernel_rfl) (by kernel_rfl)
theorem F_r01_Kind_of (a0 : Int) (Q : QQ) (h :
 (Call E0.P fn_r01_in [(.imm (.str [0, 9, 10, 12, 13, 32])), (.imm (.int .u8 a0))] [] fun r0 g0 =>
 Req (g0 = [] ∧ r0 = .imm (.bool (rB r0)))
 (Br (rB r0)
 (Q (Ai 0) [])
 (Call E0.P fn_r01_in [(.imm (.str [40, 41, 60, 62, 91, 93, 123, 125,
 47, 37])), (.imm (.int .u8 a0))] [] fun r1 g1 =>
 Req (g1 = [] ∧ r1 = .imm (.bool (rB r1)))
 (Br (rB r1)
 (Q (Ai 1) [])
 (Q (Ai 2) [])))))) : Call E0.P fn_r01_Kind [(.imm (.int .u8 a0))] [] Q := fun_rule (envN E0 nt_r01_Kind) (okE nt_r01_Kind) 3 0 58 ac_r01_Kind [.tmp 2] ok_r01_Kind _ _ Q rfl rfl (kr (by kernel_rfl) h)
noncomputable def ac_r06_Encode : AC := (annot [(3, [0, 3, 4], []), (5, [3], []), (8, [3], [])] [2] (codeOf Tryd.f59) 0).1
abbrev nt_r06_Encode : Nat := 31
def L_r06_Encode_3 (t0 : List UInt8) (t4 : Int) (h5r : LL) (K : KK) : Prop := LoopOK 3 E0.P nt_r06_Encode (lbodyOf 3 ac_r06_Encode).code ⟨[(0, (As t0)), (3, (.own (Nm.loc 5))), (4, (Ai t4))], [((Nm.loc 5), (.arr 0 true 1 h5r))]⟩ K
def C_r06_Encode_8 (h5r : LL) (K : KK) : Prop := CutOK 8 E0.P nt_r06_Encode (cbodyOf 8 ac_r06_Encode).code ⟨[(3, (.own (Nm.loc 5)))], [((Nm.loc 5), (.arr 0 true 1 h5r))]⟩ K
def K_r06_Encode_0 (Q : QQ) : KK := kE fun st => finish 0 E0.T [.tmp 2] [] Q st
def K_r06_Encode_1 (Q : QQ) : KK := kF 0 (fun st => CutOK 8 E0.P nt_r06_Encode (cbodyOf 8 ac_r06_Encode).code (mask [3] st) (K_r06_Encode_0 Q)) fun st => finish 0 E0.T [.tmp 2] [] Q st
theorem L_r06_Encode_3_of (t0 : List UInt8) (t4 : Int) (h5r : LL) (K : KK) (h :
 (Br (decide (t4 < (↑t0.length : Int)))
 (Req ((0 : Int) ≤ t4 ∧ t4 < (↑t0.length : Int))
 (Req ((16 : Int) ≠ (0 : Int))
 (Req ((0 : Int) ≤ t4 ∧ t4 < (↑t0.length : Int))
 (Req ((16 : Int) ≠ (0 : Int))
 (Call E0.P fn_r01_Digit [(.imm (.int .i64 (IntKind.i64.wrap ((IntKind.i64.wrap (↑(t0.getD t4.toNat 0).toNat : Int)).tdiv (16 : Int)))))] [] fun r0 g0 =>
 Req (g0 = [] ∧ r0 = .imm (.int .u8 (rI r0)))
 (Call E0.P fn_r01_Digit [(.imm (.int .i64 ((IntKind.i64.wrap (↑(t0.getD t4.toNat 0).toNat : Int)).tmod (16 : Int))))] [] fun r1 g1 =>
 Req (g1 = [] ∧ r1 = .imm (.int .u8 (rI r1)))
 (Req ((h5r.length + 2) * 1 ≤ 140737488355328 ∧ h5r.length + 2 ≤ 140737488355328)
 (L_r06_Encode_3 t0 (IntKind.i64.wrap (t4 + (1 : Int))) (h5r ++ [[IV.int .u8 (rI r0)], [.int .u8 (rI r1)]]) K))))))))
 (K (.exit 0) ⟨[(3, (.own (Nm.loc 5)))], [((Nm.loc 5), (.arr 0 true 1 h5r))]⟩))) : L_r06_Encode_3 t0 t4 h5r K := loop_rule (envN E0 nt_r06_Encode) (okE nt_r06_Encode) 3 3 (lbodyOf 3 ac_r06_Encode) [0, 3, 4] _ K rfl (kr (by kernel_rfl) h)
theorem C_r06_Encode_8_of (h5r : LL) (K : KK) (h :
 (Req ((h5r.length + 1) * 1 ≤ 140737488355328 ∧ h5r.length + 1 ≤ 140737488355328)
 (Req (∀ (r : List IV), r ∈ h5r ++ [[IV.int .u8 (62 : Int)]] → shOK [.int .u8] r = true)
 (K .ret ⟨[(2, (As (List.map (fun r => UInt8.ofNat (gI r 0).toNat) (h5r ++ [[IV.int .u8 (62 : Int)]]))))], []⟩)))) : C_r06_Encode_8 h5r K := cut_rule (envN E0 nt_r06_Encode) (okE nt_r06_Encode) 3 8 (cbodyOf 8 ac_r06_Encode) [] _ K rfl (kr (by kernel_rfl) h)
theorem K_r06_Encode_0_x0 (Q : QQ) (t2 : List UInt8) (h :
 (Q (As t2) [])) : K_r06_Encode_0 Q .ret ⟨[(2, (As t2))], []⟩ := kr (by kernel_rfl) h
theorem K_r06_Encode_1_x0 (Q : QQ) (h5r : LL) (h :
 (C_r06_Encode_8 h5r (K_r06_Encode_0 Q))) : K_r06_Encode_1 Q (.exit 0) ⟨[(3, (.own (Nm.loc 5)))], [((Nm.loc 5), (.arr 0 true 1 h5r))]⟩ := kr (by kernel_rfl) h
theorem ok_r06_Encode : FnOK E0.P 59 ac_r06_Encode.code nt_r06_Encode [.tmp 2] := fn_ok _ _ Tryd.f59 [(3, [0, 3, 4], []), (5, [3], []), (8, [3], [])] [2] _ 31 Tryd.func59 (by kernel_rfl) (by kernel_rfl) (by kernel_rfl) (by kernel_rfl)
theorem F_r06_Encode_of (a0 : List UInt8) (Q : QQ) (h :
 (L_r06_Encode_3 a0 ((0 : Int)) [] (K_r06_Encode_1 Q))) : Call E0.P fn_r06_Encode [(As a0)] [] Q := fun_rule (envN E0 nt_r06_Encode) (okE nt_r06_Encode) 3 0 59 ac_r06_Encode [.tmp 2] ok_r06_Encode _ _ Q rfl rfl (kr (by kernel_rfl) h)
noncomputable def ac_hexa_Encode : AC := (annot [(3, [0, 3, 6, 7], []), (5, [3], []), (10, [3], [])] [2] (codeOf Tryd.f60) 0).1
abbrev nt_hexa_Encode : Nat := 27
def L_hexa_Encode_3 (t0 : List UInt8) (t6 t7 : Int) (h31r : LL) (K : KK) : Prop := LoopOK 3 E0.P nt_hexa_Encode (lbodyOf 3 ac_hexa_Encode).code ⟨[(0, (As t0)), (3, (.ptr (Nm.loc 3) 0)), (6, (Ai t6)), (7, (Ai t7))], [((Nm.loc 3), (.blk ty_strings_Builder [(.self (Nm.loc 3)), (.own ((Nm.loc 3).cell 1))])), (((Nm.loc 3).cell 1), (.arr (ty_uint8 + 2) true 1 h31r))]⟩ K
def C_hexa_Encode_10 (h31r : LL) (K : KK) : Prop := CutOK 10 E0.P nt_hexa_Encode (cbodyOf 10 ac_hexa_Encode).code ⟨[(3, (.ptr (Nm.loc 3) 0))], [((Nm.loc 3), (.blk ty_strings_Builder [(.self (Nm.loc 3)), (.own ((Nm.loc 3).cell 1))])), (((Nm.loc 3).cell 1), (.arr (ty_uint8 + 2) true 1 h31r))]⟩ K
def K_hexa_Encode_0 (Q : QQ) : KK := kE fun st => finish 0 E0.T [.tmp 2] [] Q st
def K_hexa_Encode_1 (Q : QQ) : KK := kF 0 (fun st => CutOK 10 E0.P nt_hexa_Encode (cbodyOf 10 ac_hexa_Encode).code (mask [3] st) (K_hexa_Encode_0 Q)) fun st => finish 0 E0.T [.tmp 2] [] Q st
theorem L_hexa_Encode_3_of (t0 : List UInt8) (t6 t7 : Int) (h31r : LL) (K : KK) (h :
 (Br (decide (t7 < t6))
 (Req ((0 : Int) ≤ t7 ∧ t7 < (↑t0.length : Int))
 (Req ((0 : Int) ≤ (4 : Int))
 (Call E0.P fn_octet_Digit [(.imm (.int .i64 (IntKind.i64.wrap ((↑(t0.getD t7.toNat 0).toNat : Int).fdiv ((2 : Int) ^ 4)))))] [] fun r0 g0 =>
 Req (g0 = [] ∧ r0 = .imm (.int .u8 (rI r0)))
 (Req ((h31r.length + 1) * 1 ≤ 140737488355328 ∧ h31r.length + 1 ≤ 140737488355328)
 (Req ((0 : Int) ≤ t7 ∧ t7 < (↑t0.length : Int))
 (Call E0.P fn_octet_Digit [(.imm (.int .i64 (IntKind.i64.wrap
 (IntKind.u8.wrap
 (↑(BitVec.ofInt (8 : Nat) (↑(t0.getD t7.toNat 0).toNat : Int) &&&
 BitVec.ofInt (8 : Nat) (15 : Int)).toNat :
 Int)))))] [] fun r1 g1 =>
 Req (g1 = [] ∧ r1 = .imm (.int .u8 (rI r1)))
 (Req (((h31r ++ [[IV.int .u8 (rI r0)]]).length + 1) * 1 ≤ 140737488355328 ∧
 (h31r ++ [[IV.int .u8 (rI r0)]]).length + 1 ≤ 140737488355328)
 (L_hexa_Encode_3 t0 t6 (IntKind.i64.wrap (t7 + (1 : Int))) (h31r ++ [[IV.int .u8 (rI r0)]] ++ [[IV.int .u8 (rI r1)]]) K))))))))
 (K (.exit 0) ⟨[(3, (.ptr (Nm.loc 3) 0))], [((Nm.loc 3), (.blk ty_strings_Builder [(.self (Nm.loc 3)), (.own ((Nm.loc 3).cell 1))])), (((Nm.loc 3).cell 1), (.arr (ty_uint8 + 2) true 1 h31r))]⟩))) : L_hexa_Encode_3 t0 t6 t7 h31r K := loop_rule (envN E0 nt_hexa_Encode) (okE nt_hexa_Encode) 3 3 (lbodyOf 3 ac_hexa_Encode) [0, 3, 6, 7] _ K rfl (kr (by kernel_rfl) h)
theorem C_hexa_Encode_10_of (h31r : LL) (K : KK) (h :
 (Req ((h31r.length + 1) * 1 ≤ 140737488355328 ∧ h31r.length + 1 ≤ 140737488355328)
 (Req (((↑(h31r ++ [[IV.int .u8 (62 : Int)]]).length : Int) =
 (↑(h31r ++ [[IV.int .u8 (62 : Int)]]).length : Int) ∧
 (h31r ++ [[IV.int .u8 (62 : Int)]]).length ≤ 9223372036854775807) ∧
 ∀ (r : List IV), r ∈ h31r ++ [[IV.int .u8 (62 : Int)]] → shOK [.int .u8] r = true)
 (K .ret ⟨[(2, (As (List.map (fun r => UInt8.ofNat (gI r 0).toNat) (h31r ++ [[IV.int .u8 (62 : Int)]]))))], []⟩)))) : C_hexa_Encode_10 h31r K := cut_rule (envN E0 nt_hexa_Encode) (okE nt_hexa_Encode) 3 10 (cbodyOf 10 ac_hexa_Encode) [] _ K rfl (kr (by kernel_rfl) h)
theorem K_hexa_Encode_0_x0 (Q : QQ) (t2 : List UInt8) (h :
 (Q (As t2) [])) : K_hexa_Encode_0 Q .ret ⟨[(2, (As t2))], []⟩ := kr (by kernel_rfl) h
theorem K_hexa_Encode_1_x0 (Q : QQ) (h31r : LL) (h :
 (C_hexa_Encode_10 h31r (K_hexa_Encode_0 Q))) : K_hexa_Encode_1 Q (.exit 0) ⟨[(3, (.ptr (Nm.loc 3) 0))], [((Nm.loc 3), (.blk ty_strings_Builder [(.self (Nm.loc 3)), (.own ((Nm.loc 3).cell 1))])), (((Nm.loc 3).cell 1), (.arr (ty_uint8 + 2) true 1 h31r))]⟩ := kr (by kernel_rfl) h
theorem ok_hexa_Encode : FnOK E0.P 60 ac_hexa_Encode.code nt_hexa_Encode [.tmp 2] := fn_ok _ _ Tryd.f60 [(3, [0, 3, 6, 7], []), (5, [3], []), (10, [3], [])] [2] _ 27 Tryd.func60 (by kernel_rfl) (by kernel_rfl) (by kernel_rfl) (by kernel_rfl)
theorem F_hexa_Encode_of (a0 : List UInt8) (Q : QQ) (h :
 (L_hexa_Encode_3 a0 ((↑a0.length : Int)) ((0 : Int)) [] (K_hexa_Encode_1 Q))) : Call E0.P fn_hexa_Encode [(As a0)] [] Q := fun_rule (envN E0 nt_hexa_Encode) (okE nt_hexa_Encode) 3 0 60 ac_hexa_Encode [.tmp 2] ok_hexa_Encode _ _ Q rfl rfl (kr (by kernel_rfl) h)
noncomputable def ac_value_check : AC := (annot [(6, [2, 3, 23, 24, 25], []), (8, [2, 3], []), (15, [2, 3], []), (18, [2, 11, 39, 40, 41], []), (20, [], []), (25, [2, 11, 13, 39, 40, 41], [2, 11, 39, 40, 41]), (30, [2, 11, 39, 40, 41], [2, 11, 39, 40, 41]), (31, [], [])] [6] (codeOf Tryd.f61) 0).1
abbrev nt_value_check : Nat := 75
def L_value_check_6 (t2 : Int) (t23r : LL) (t24 t25 : Int) (h3_1_0 h3_1_1 h3_1_2 : Int) (h3_1_3 : List UInt8) (h3_1_4r h3_1_5r : LL) (K : KK) : Prop := LoopOK 6 E0.P nt_value_check (lbodyOf 6 ac_value_check).code ⟨[(2, (Ai t2)), (3, (.ptr (Nm.loc 3) 0)), (23, (Al 6 t23r)), (24, (Ai t24)), (25, (Ai t25))], [((Nm.loc 3), (.blk ty_api_Value [(Ai h3_1_0), (Ai h3_1_1), (Ai h3_1_2), (As h3_1_3), (Al 6 h3_1_4r), (Al 7 h3_1_5r)]))]⟩ K
def C_value_check_15 (t2 h3_1_0 : Int) (h3_1_1 h3_1_2 : Int) (h3_1_3 : List UInt8) (h3_1_4r h3_1_5r : LL) (K : KK) : Prop := CutOK 15 E0.P nt_value_check (cbodyOf 15 ac_value_check).code ⟨[(2, (Ai t2)), (3, (.ptr (Nm.loc 3) 0))], [((Nm.loc 3), (.blk ty_api_Value [(Ai h3_1_0), (Ai h3_1_1), (Ai h3_1_2), (As h3_1_3), (Al 6 h3_1_4r), (Al 7 h3_1_5r)]))]⟩ K
def L_value_check_18 (t2 : Int) (t39r : LL) (t40 t41 : Int) (h37r : List (List UInt8 × Int)) (K : KK) : Prop := LoopOK 18 E0.P nt_value_check (lbodyOf 18 ac_value_check).code ⟨[(2, (Ai t2)), (11, (.mp (Nm.loc 37))), (39, (Al 7 t39r)), (40, (Ai t40)), (41, (Ai t41))], [((Nm.loc 37), (.map h37r))]⟩ K
def C_value_check_25 (t2 : Int) (t39r : LL) (t40 t41 : Int) (h37r : List (List UInt8 × Int)) (h13_1_0 : List UInt8) (h13_1_1 h13_1_2 h13_1_3 : Int) (h13_1_4 : List UInt8) (h13_1_5r h13_1_6r : LL) (K : KK) : Prop := CutOK 25 E0.P nt_value_check (cbodyOf 25 ac_value_check).code ⟨[(2, (Ai t2)), (11, (.mp (Nm.loc 37))), (13, (.ptr (Nm.loc 13) 0)), (39, (Al 7 t39r)), (40, (Ai t40)), (41, (Ai t41))], [((Nm.loc 37), (.map h37r)), ((Nm.loc 13), (.blk ty_api_Pair [(As h13_1_0), (Ai h13_1_1), (Ai h13_1_2), (Ai h13_1_3), (As h13_1_4), (Al 6 h13_1_5r), (Al 7 h13_1_6r)]))]⟩ K
def C_value_check_31 (K : KK) : Prop := CutOK 31 E0.P nt_value_check (cbodyOf 31 ac_value_check).code ⟨[], []⟩ K
def C_value_check_30 (t2 : Int) (t39r : LL) (t40 t41 : Int) (h37r : List (List UInt8 × Int)) (K : KK) : Prop := CutOK 30 E0.P nt_value_check (cbodyOf 30 ac_value_check).code ⟨[(2, (Ai t2)), (11, (.mp (Nm.loc 37))), (39, (Al 7 t39r)), (40, (Ai t40)), (41, (Ai t41))], [((Nm.loc 37), (.map h37r))]⟩ K
def K_value_check_0 (Q : QQ) : KK := kE fun st => finish 0 E0.T [.tmp 6] [] Q st
def K_value_check_1 (Q : QQ) : KK := kF 0 (fun st => CutOK 15 E0.P nt_value_check (cbodyOf 15 ac_value_check).code (mask [2, 3] st) (K_value_check_0 Q)) fun st => finish 0 E0.T [.tmp 6] [] Q st
def K_value_check_2 (K : KK) : KK := kP [] K
def K_value_check_3 (K : KK) : KK := kC 2 (fun st => CutOK 31 E0.P nt_value_check (cbodyOf 31 ac_value_check).code (mask [] st) (K_value_check_2 K)) K
def K_value_check_4 (K : KK) : Ex → St → Prop
 | .normal, st => LoopOK 18 E0.P nt_value_check (lbodyOf 18 ac_value_check).code (mask [2, 11, 39, 40, 41] st) K
 | .exit i, st => K (.exit i) st
 | .goto i, st => K (.goto i) st
 | .ret, st => K .ret st
def K_value_check_5 (K : KK) : KK := kC 3 (fun st => CutOK 30 E0.P nt_value_check (cbodyOf 30 ac_value_check).code (mask [2, 11, 39, 40, 41] st) (K_value_check_4 K)) K
theorem L_value_check_6_of (t2 : Int) (t23r : LL) (t24 t25 : Int) (h3_1_0 h3_1_1 h3_1_2 : Int) (h3_1_3 : List UInt8) (h3_1_4r h3_1_5r : LL) (K : KK) (h :
 (Br (decide (t25 < t24))
 (Req (((0 : Int) ≤ t25 ∧ t25 < (↑t23r.length : Int)) ∧
 shOK
 [.int .i64, .int .i64, .int .i64, .str, .sl 6 ty_api_Value,
 .sl 7 ty_api_Pair]
 (t23r.getD t25.toNat []) =
 true)
 (Call E0.P fn_value_check [(.imm (.agg [(.int .i64 (gI (t23r.getD t25.toNat []) 0)), (.int .i64 (gI (t23r.getD t25.toNat []) 1)), (.int .i64 (gI (t23r.getD t25.toNat []) 2)), (.str (gS (t23r.getD t25.toNat []) 3)), (.sl .any 6 (gR (t23r.getD t25.toNat []) 4)), (.sl .any 7 (gR (t23r.getD t25.toNat []) 5))])), (Ab false), (Ai (IntKind.i64.wrap (t2 + (1 : Int))))] [] fun r0 g0 =>
 Req (g0 = [] ∧ r0 = .imm (.int .i64 (rI r0)))
 (Br (!decide (rI r0 = (0 : Int)))
 (K .ret ⟨[(6, (Ai (rI r0)))], []⟩)
 (L_value_check_6 t2 t23r t24 (IntKind.i64.wrap (t25 + (1 : Int))) h3_1_0 h3_1_1 h3_1_2 h3_1_3 h3_1_4r h3_1_5r K))))
 (K (.exit 0) ⟨[(2, (Ai t2)), (3, (.ptr (Nm.loc 3) 0))], [((Nm.loc 3), (.blk ty_api_Value [(Ai h3_1_0), (Ai h3_1_1), (Ai h3_1_2), (As h3_1_3), (Al 6 h3_1_4r), (Al 7 h3_1_5r)]))]⟩))) : L_value_check_6 t2 t23r t24 t25 h3_1_0 h3_1_1 h3_1_2 h3_1_3 h3_1_4r h3_1_5r K := loop_rule (envN E0 nt_value_check) (okE nt_value_check) 3 6 (lbodyOf 6 ac_value_check) [2, 3, 23, 24, 25] _ K rfl (kr (by kernel_rfl) h)
theorem C_value_check_15_of (t2 h3_1_0 : Int) (h3_1_1 h3_1_2 : Int) (h3_1_3 : List UInt8) (h3_1_4r h3_1_5r : LL) (K : KK) (h :
 (L_value_check_18 t2 h3_1_5r ((↑h3_1_5r.length : Int)) ((0 : Int)) [] (K_value_check_3 K))) : C_value_check_15 t2 h3_1_0 h3_1_1 h3_1_2 h3_1_3 h3_1_4r h3_1_5r K := cut_rule (envN E0 nt_value_check) (okE nt_value_check) 3 15 (cbodyOf 15 ac_value_check) [] _ K rfl (kr (by kernel_rfl) h)
theorem L_value_check_18_of (t2 : Int) (t39r : LL) (t40 t41 : Int) (h37r : List (List UInt8 × Int)) (K : KK) (h :
 (Br (decide (t41 < t40))
 (Req (((0 : Int) ≤ t41 ∧ t41 < (↑t39r.length : Int)) ∧
 shOK
 [.str, .int .i64, .int .i64, .int .i64, .str, .sl 6 ty_api_Value,
 .sl 7 ty_api_Pair]
 (t39r.getD t41.toNat []) =
 true)
 (Br (decide ((127 : Int) < (↑(gS (t39r.getD t41.toNat []) (0 : Nat)).length : Int)) == false)
 (Call E0.P fn_value_nul [(As (gS (t39r.getD t41.toNat []) 0))] [] fun r0 g0 =>
 Req (g0 = [] ∧ r0 = .imm (.bool (rB r0)))
 (Let (rB r0) fun x1 =>
 Let (bif x1 then true else decide ((0 : Int) < mLook h37r (gS (t39r.getD t41.toNat []) 0))) fun x2 =>
 Br (x2)
 (K .ret ⟨[(6, (Ai 11))], []⟩)
 (C_value_check_25 t2 t39r t40 t41 h37r (gS (t39r.getD t41.toNat []) 0) (gI (t39r.getD t41.toNat []) 1) (gI (t39r.getD t41.toNat []) 2) (gI (t39r.getD t41.toNat []) 3) (gS (t39r.getD t41.toNat []) 4) (gR (t39r.getD t41.toNat []) 5) (gR (t39r.getD t41.toNat []) 6) (K_value_check_5 K))))
 (Req ((!false) = true)
 (Let (true) fun x3 =>
 Let (bif x3 then true else decide ((0 : Int) < mLook h37r (gS (t39r.getD t41.toNat []) 0))) fun x4 =>
 Br (x4)
 (K .ret ⟨[(6, (Ai 11))], []⟩)
 (C_value_check_25 t2 t39r t40 t41 h37r (gS (t39r.getD t41.toNat []) 0) (gI (t39r.getD t41.toNat []) 1) (gI (t39r.getD t41.toNat []) 2) (gI (t39r.getD t41.toNat []) 3) (gS (t39r.getD t41.toNat []) 4) (gR (t39r.getD t41.toNat []) 5) (gR (t39r.getD t41.toNat []) 6) (K_value_check_5 K))))))
 (K (.exit (2)) ⟨[], []⟩))) : L_value_check_18 t2 t39r t40 t41 h37r K := loop_rule (envN E0 nt_value_check) (okE nt_value_check) 3 18 (lbodyOf 18 ac_value_check) [2, 11, 39, 40, 41] _ K rfl (kr (by kernel_rfl) h)
theorem C_value_check_25_of (t2 : Int) (t39r : LL) (t40 t41 : Int) (h37r : List (List UInt8 × Int)) (h13_1_0 : List UInt8) (h13_1_1 h13_1_2 h13_1_3 : Int) (h13_1_4 : List UInt8) (h13_1_5r h13_1_6r : LL) (K : KK) (h :
 (Call E0.P fn_value_check [(.imm (.agg [(.int .i64 h13_1_1), (.int .i64 h13_1_2), (.int .i64 h13_1_3), (.str h13_1_4), (.sl .any 6 h13_1_5r), (.sl .any 7 h13_1_6r)])), (Ab false), (Ai (IntKind.i64.wrap (t2 + (1 : Int))))] [] fun r0 g0 =>
 Req (g0 = [] ∧ r0 = .imm (.int .i64 (rI r0)))
 (Br (!decide (rI r0 = (0 : Int)))
 (K .ret ⟨[(6, (Ai (rI r0)))], []⟩)
 (K .normal ⟨[(2, (Ai t2)), (11, (.mp (Nm.loc 37))), (39, (Al 7 t39r)), (40, (Ai t40)), (41, (Ai t41))], [((Nm.loc 37), (.map (mUp h37r h13_1_0 (IntKind.i64.wrap (mLook h37r h13_1_0 + (1 : Int))))))]⟩)))) : C_value_check_25 t2 t39r t40 t41 h37r h13_1_0 h13_1_1 h13_1_2 h13_1_3 h13_1_4 h13_1_5r h13_1_6r K := cut_rule (envN E0 nt_value_check) (okE nt_value_check) 3 25 (cbodyOf 25 ac_value_check) [2, 11, 39, 40, 41] _ K rfl (kr (by kernel_rfl) h)
theorem C_value_check_31_of (K : KK) (h :
 (K .ret ⟨[(6, (Ai 0))], []⟩)) : C_value_check_31  K := cut_rule (envN E0 nt_value_check) (okE nt_value_check) 3 31 (cbodyOf 31 ac_value_check) [] _ K rfl (kr (by kernel_rfl) h)
theorem C_value_check_30_of (t2 : Int) (t39r : LL) (t40 t41 : Int) (h37r : List (List UInt8 × Int)) (K : KK) (h :
 (K .normal ⟨[(2, (Ai t2)), (11, (.mp (Nm.loc 37))), (39, (Al 7 t39r)), (40, (Ai t40)), (41, (Ai (IntKind.i64.wrap (t41 + (1 : Int)))))], [((Nm.loc 37), (.map h37r))]⟩)) : C_value_check_30 t2 t39r t40 t41 h37r K := cut_rule (envN E0 nt_value_check) (okE nt_value_check) 3 30 (cbodyOf 30 ac_value_check) [2, 11, 39, 40, 41] _ K rfl (kr (by kernel_rfl) h)
theorem K_value_check_0_x0 (Q : QQ) (t6 : Int) (h :
 (Q (Ai t6) [])) : K_value_check_0 Q .ret ⟨[(6, (Ai t6))], []⟩ := kr (by kernel_rfl) h
theorem K_value_check_1_x0 (Q : QQ) (t6 : Int) (h :
 (Q (Ai t6) [])) : K_value_check_1 Q .ret ⟨[(6, (Ai t6))], []⟩ := kr (by kernel_rfl) h
theorem K_value_check_1_x1 (Q : QQ) (t2 h3_1_0 : Int) (h3_1_1 h3_1_2 : Int) (h3_1_3 : List UInt8) (h3_1_4r h3_1_5r : LL) (h :
 (C_value_check_15 t2 h3_1_0 h3_1_1 h3_1_2 h3_1_3 h3_1_4r h3_1_5r (K_value_check_0 Q))) : K_value_check_1 Q (.exit 0) ⟨[(2, (Ai t2)), (3, (.ptr (Nm.loc 3) 0))], [((Nm.loc 3), (.blk ty_api_Value [(Ai h3_1_0), (Ai h3_1_1), (Ai h3_1_2), (As h3_1_3), (Al 6 h3_1_4r), (Al 7 h3_1_5r)]))]⟩ := kr (by kernel_rfl) h
theorem K_value_check_2_x0 (K : KK) (t6 : Int) (h :
 (K .ret ⟨[(6, (Ai t6))], []⟩)) : K_value_check_2 K .ret ⟨[(6, (Ai t6))], []⟩ := kr (by kernel_rfl) h
theorem K_value_check_3_x0 (K : KK) (t6 : Int) (h :
 (K .ret ⟨[(6, (Ai t6))], []⟩)) : K_value_check_3 K .ret ⟨[(6, (Ai t6))], []⟩ := kr (by kernel_rfl) h
theorem K_value_check_3_x1 (K : KK) (h :
 (C_value_check_31  (K_value_check_2 K))) : K_value_check_3 K (.exit (2)) ⟨[], []⟩ := kr (by kernel_rfl) h
theorem K_value_check_4_x0 (K : KK) (t2 : Int) (t39r : LL) (t40 t41 : Int) (h37r : List (List UInt8 × Int)) (h :
 (L_value_check_18 t2 t39r t40 t41 h37r K)) : K_value_check_4 K .normal ⟨[(2, (Ai t2)), (11, (.mp (Nm.loc 37))), (39, (Al 7 t39r)), (40, (Ai t40)), (41, (Ai t41))], [((Nm.loc 37), (.map h37r))]⟩ := kr (by kernel_rfl) h
theorem K_value_check_5_x0 (K : KK) (t6 : Int) (h :
 (K .ret ⟨[(6, (Ai t6))], []⟩)) : K_value_check_5 K .ret ⟨[(6, (Ai t6))], []⟩ := kr (by kernel_rfl) h
theorem K_value_check_5_x1 (K : KK) (t2 : Int) (t39r : LL) (t40 t41 : Int) (h37r : List (List UInt8 × Int)) (h :
 (C_value_check_30 t2 t39r t40 t41 h37r (K_value_check_4 K))) : K_value_check_5 K .normal ⟨[(2, (Ai t2)), (11, (.mp (Nm.loc 37))), (39, (Al 7 t39r)), (40, (Ai t40)), (41, (Ai t41))], [((Nm.loc 37), (.map h37r))]⟩ := kr (by kernel_rfl) h
theorem ok_value_check : FnOK E0.P 61 ac_value_check.code nt_value_check [.tmp 6] := fn_ok _ _ Tryd.f61 [(6, [2, 3, 23, 24, 25], []), (8, [2, 3], []), (15, [2, 3], []), (18, [2, 11, 39, 40, 41], []), (20, [], []), (25, [2, 11, 13, 39, 40, 41], [2, 11, 39, 40, 41]), (30, [2, 11, 39, 40, 41], [2, 11, 39, 40, 41]), (31, [], [])] [6] _ 75 Tryd.func61 (by kernel_rfl) (by kernel_rfl) (by kernel_rfl) (by kernel_rfl)
theorem F_value_check_of (a0_0 a0_1 a0_2 : Int) (a0_3 : List UInt8) (a0_4 a0_5 : LL) (a1 : Bool) (a2 : Int) (Q : QQ) (h :
 (Call E0.P fn_value_own [(.imm (.agg [(.int .i64 a0_0), (.int .i64 a0_1), (.int .i64 a0_2), (.str a0_3), (.sl .any 6 a0_4), (.sl .any 7 a0_5)])), (Ab a1), (Ai a2)] [] fun r0 g0 =>
 Req (g0 = [] ∧ r0 = .imm (.int .i64 (rI r0)))
 (Br (!decide (rI r0 = (0 : Int)))
 (Q (Ai (rI r0)) [])
 (L_value_check_6 a2 a0_4 ((↑a0_4.length : Int)) ((0 : Int)) a0_0 a0_1 a0_2 a0_3 a0_4 a0_5 (K_value_check_1 Q))))) : Call E0.P fn_value_check [(.imm (.agg [(.int .i64 a0_0), (.int .i64 a0_1), (.int .i64 a0_2), (.str a0_3), (.sl .any 6 a0_4), (.sl .any 7 a0_5)])), (Ab a1), (Ai a2)] [] Q := fun_rule (envN E0 nt_value_check) (okE nt_value_check) 3 0 61 ac_value_check [.tmp 6] ok_value_check _ _ Q rfl rfl (kr (by kernel_rfl) h)
noncomputable def ac_write_word : AC := (annot [] [2] (codeOf Tryd.f83) 0).1
abbrev nt_write_word : Nat := 5
theorem ok_write_word : FnOK E0.P 83 ac_write_word.code nt_write_word [.tmp 2] := fn_ok _ _ Tryd.f83 [] [2] _ 5 Tryd.func83 (by kernel_rfl) (by kernel_rfl) (by kernel_rfl) (by kernel_rfl)
theorem F_write_word_of (a0 : Int) (Q : QQ) (h :
 (Br (decide (a0 = (1 : Int)))
 (Q (.imm (.str [116, 114, 117, 101])) [])
 (Q (.imm (.str [102, 97, 108, 115, 101])) []))) : Call E0.P fn_write_word [(Ai a0)] [] Q := fun_rule (envN E0 nt_write_word) (okE nt_write_word) 3 0 83 ac_write_word [.tmp 2] ok_write_word _ _ Q rfl rfl (kr (by kernel_rfl) h)
noncomputable def ac_write_spaced : AC := (annot [] [2] (codeOf Tryd.f84) 0).1
abbrev nt_write_spaced : Nat := 5
theorem ok_write_spaced : FnOK E0.P 84 ac_write_spaced.code nt_write_spaced [.tmp 2] := fn_ok _ _ Tryd.f84 [] [2] _ 5 Tryd.func84 (by kernel_rfl) (by kernel_rfl) (by kernel_rfl) (by kernel_rfl)
theorem F_write_spaced_of (a0 : LL) (Q : QQ) (h :
 (Call E0.P fn_strings_Join [(Al 1 a0), (.imm (.str [32]))] [] fun r0 g0 =>
 Req (g0 = [] ∧ r0 = .imm (.str (rS r0)))
 (Q (As (rS r0)) []))) : Call E0.P fn_write_spaced [(Al 1 a0)] [] Q := fun_rule (envN E0 nt_write_spaced) (okE nt_write_spaced) 3 0 84 ac_write_spaced [.tmp 2] ok_write_spaced _ _ Q rfl rfl (kr (by kernel_rfl) h)
noncomputable def ac_write_around : AC := (annot [(2, [0, 1, 10, 11], []), (4, [], []), (10, [], [])] [4] (codeOf Tryd.f85) 0).1
abbrev nt_write_around : Nat := 27
def L_write_around_2 (t0 : Int) (t1r : LL) (t10_0 : Int) (t10_1 t10_2 : List UInt8) (t10_3 : Int) (t10_4 t10_5 : List UInt8) (t10_6 : Int) (t10_7 t10_8 : List UInt8) (t11 : Int) (K : KK) : Prop := LoopOK 2 E0.P nt_write_around (lbodyOf 2 ac_write_around).code ⟨[(0, (Ai t0)), (1, (Al 1 t1r)), (10, (.imm (.agg [(.int .i64 t10_0), (.str t10_1), (.str t10_2), (.int .i64 t10_3), (.str t10_4), (.str t10_5), (.int .i64 t10_6), (.str t10_7), (.str t10_8)]))), (11, (Ai t11))], []⟩ K
def C_write_around_10 (K : KK) : Prop := CutOK 10 E0.P nt_write_around (cbodyOf 10 ac_write_around).code ⟨[], []⟩ K
def K_write_around_0 (Q : QQ) : KK := kE fun st => finish 0 E0.T [.tmp 4] [] Q st
def K_write_around_1 (Q : QQ) : KK := kF 0 (fun st => CutOK 10 E0.P nt_write_around (cbodyOf 10 ac_write_around).code (mask [] st) (K_write_around_0 Q)) fun st => finish 0 E0.T [.tmp 4] [] Q st
theorem L_write_around_2_of (t0 : Int) (t1r : LL) (t10_0 : Int) (t10_1 t10_2 : List UInt8) (t10_3 : Int) (t10_4 t10_5 : List UInt8) (t10_6 : Int) (t10_7 t10_8 : List UInt8) (t11 : Int) (K : KK) (h :
 (Br (decide (t11 < (3 : Int)))
 (Req (((0 : Int) ≤ t11 ∧ t11 < (↑(3 : Nat) : Int)) ∧
 shOK [.int .i64, .str, .str]
 (List.take 3
 (List.drop (t11.toNat * 3)
 [.int .i64 t10_0, .str t10_1, .str t10_2, .int .i64 t10_3, .str t10_4, .str t10_5,
 .int .i64 t10_6, .str t10_7, .str t10_8])) =
 true)
 (Br (decide
 (gI
 (List.take 3
 (List.drop (t11.toNat * 3)
 [.int .i64 t10_0, .str t10_1, .str t10_2, .int .i64 t10_3, .str t10_4, .str t10_5,
 .int .i64 t10_6, .str t10_7, .str t10_8]))
 0 =
 t0))
 (Call E0.P fn_write_spaced [(Al 1 t1r)] [] fun r0 g0 =>
 Req (g0 = [] ∧ r0 = .imm (.str (rS r0)))
 (Req ((↑((gS
 (List.take (3 : Nat)
 (List.drop (t11.toNat * (3 : Nat))
 [.int .i64 t10_0, .str t10_1, .str t10_2, .int .i64 t10_3, .str t10_4,
 .str t10_5, .int .i64 t10_6, .str t10_7, .str t10_8]))
 (1 : Nat)).length +
 (rS r0).length) :
 Int) ≤
 (9223372036854775807 : Int))
 (Req ((↑((gS
 (List.take (3 : Nat)
 (List.drop (t11.toNat * (3 : Nat))
 [.int .i64 t10_0, .str t10_1, .str t10_2, .int .i64 t10_3, .str t10_4,
 .str t10_5, .int .i64 t10_6, .str t10_7, .str t10_8]))
 (1 : Nat) ++
 rS r0).length +
 (gS
 (List.take (3 : Nat)
 (List.drop (t11.toNat * (3 : Nat))
 [.int .i64 t10_0, .str t10_1, .str t10_2, .int .i64 t10_3, .str t10_4,
 .str t10_5, .int .i64 t10_6, .str t10_7, .str t10_8]))
 (2 : Nat)).length) :
 Int) ≤
 (9223372036854775807 : Int))
 (K .ret ⟨[(4, (.imm (.str (gS
 (List.take 3
 (List.drop (t11.toNat * 3)
 [.int .i64 t10_0, .str t10_1, .str t10_2, .int .i64 t10_3, .str t10_4, .str t10_5,
 .int .i64 t10_6, .str t10_7, .str t10_8]))
 1 ++
 rS r0 ++
 gS
 (List.take 3
 (List.drop (t11.toNat * 3)
 [.int .i64 t10_0, .str t10_1, .str t10_2, .int .i64 t10_3, .str t10_4, .str t10_5,
 .int .i64 t10_6, .str t10_7, .str t10_8]))
 2))))], []⟩))))
 (L_write_around_2 t0 t1r t10_0 t10_1 t10_2 t10_3 t10_4 t10_5 t10_6 t10_7 t10_8 (IntKind.i64.wrap (t11 + (1 : Int))) K)))
 (K (.exit 0) ⟨[], []⟩))) : L_write_around_2 t0 t1r t10_0 t10_1 t10_2 t10_3 t10_4 t10_5 t10_6 t10_7 t10_8 t11 K := loop_rule (envN E0 nt_write_around) (okE nt_write_around) 3 2 (lbodyOf 2 ac_write_around) [0, 1, 10, 11] _ K rfl (kr (by kernel_rfl) h)
theorem C_write_around_10_of (K : KK) (h :
 (K .ret ⟨[(4, (.imm (.str [110, 117, 108, 108])))], []⟩)) : C_write_around_10  K := cut_rule (envN E0 nt_write_around) (okE nt_write_around) 3 10 (cbodyOf 10 ac_write_around) [] _ K rfl (kr (by kernel_rfl) h)
theorem K_write_around_0_x0 (Q : QQ) (t4 : List UInt8) (h :
 (Q (As t4) [])) : K_write_around_0 Q .ret ⟨[(4, (As t4))], []⟩ := kr (by kernel_rfl) h
theorem K_write_around_1_x0 (Q : QQ) (t4 : List UInt8) (h :
 (Q (As t4) [])) : K_write_around_1 Q .ret ⟨[(4, (As t4))], []⟩ := kr (by kernel_rfl) h
theorem K_write_around_1_x1 (Q : QQ) (h :
 (C_write_around_10  (K_write_around_0 Q))) : K_write_around_1 Q (.exit 0) ⟨[], []⟩ := kr (by kernel_rfl) h
theorem ok_write_around : FnOK E0.P 85 ac_write_around.code nt_write_around [.tmp 4] := fn_ok _ _ Tryd.f85 [(2, [0, 1, 10, 11], []), (4, [], []), (10, [], [])] [4] _ 27 Tryd.func85 (by kernel_rfl) (by kernel_rfl) (by kernel_rfl) (by kernel_rfl)
theorem F_write_around_of (a0 : Int) (a1 : LL) (Q : QQ) (h :
 (L_write_around_2 a0 a1 ((5 : Int)) [(91 : UInt8)] [(93 : UInt8)] ((6 : Int)) [(60 : UInt8), 60] [(62 : UInt8), 62] ((7 : Int)) [] [(32 : UInt8), 82] ((0 : Int)) (K_write_around_1 Q))) : Call E0.P fn_write_around [(Ai a0), (Al 1 a1)] [] Q := fun_rule (envN E0 nt_write_around) (okE nt_write_around) 3 0 85 ac_write_around [.tmp 4] ok_write_around _ _ Q rfl rfl (kr (by kernel_rfl) h)
noncomputable def ac_r16_check : AC := (annot [(6, [2, 3, 8], []), (8, [2, 3], []), (14, [2, 3], []), (16, [2, 3, 10], []), (18, [], []), (28, [], [])] [6] (codeOf Tryd.f86) 0).1
abbrev nt_r16_check : Nat := 64
def L_r16_check_6 (t2 t8 : Int) (h3_1_0 h3_1_1 h3_1_2 : Int) (h3_1_3 : List UInt8) (h3_1_4r h3_1_5r : LL) (K : KK) : Prop := LoopOK 6 E0.P nt_r16_check (lbodyOf 6 ac_r16_check).code ⟨[(2, (Ai t2)), (3, (.ptr (Nm.loc 3) 0)), (8, (Ai t8))], [((Nm.loc 3), (.blk ty_api_Value [(Ai h3_1_0), (Ai h3_1_1), (Ai h3_1_2), (As h3_1_3), (Al 6 h3_1_4r), (Al 7 h3_1_5r)]))]⟩ K
def C_r16_check_14 (t2 h3_1_0 : Int) (h3_1_1 h3_1_2 : Int) (h3_1_3 : List UInt8) (h3_1_4r h3_1_5r : LL) (K : KK) : Prop := CutOK 14 E0.P nt_r16_check (cbodyOf 14 ac_r16_check).code ⟨[(2, (Ai t2)), (3, (.ptr (Nm.loc 3) 0))], [((Nm.loc 3), (.blk ty_api_Value [(Ai h3_1_0), (Ai h3_1_1), (Ai h3_1_2), (As h3_1_3), (Al 6 h3_1_4r), (Al 7 h3_1_5r)]))]⟩ K
def L_r16_check_16 (t2 t10 : Int) (h3_1_0 h3_1_1 h3_1_2 : Int) (h3_1_3 : List UInt8) (h3_1_4r h3_1_5r : LL) (K : KK) : Prop := LoopOK 16 E0.P nt_r16_check (lbodyOf 16 ac_r16_check).code ⟨[(2, (Ai t2)), (3, (.ptr (Nm.loc 3) 0)), (10, (Ai t10))], [((Nm.loc 3), (.blk ty_api_Value [(Ai h3_1_0), (Ai h3_1_1), (Ai h3_1_2), (As h3_1_3), (Al 6 h3_1_4r), (Al 7 h3_1_5r)]))]⟩ K
def C_r16_check_28 (K : KK) : Prop := CutOK 28 E0.P nt_r16_check (cbodyOf 28 ac_r16_check).code ⟨[], []⟩ K
def K_r16_check_0 (Q : QQ) : KK := kE fun st => finish 0 E0.T [.tmp 6] [] Q st
def K_r16_check_1 (Q : QQ) : KK := kF 0 (fun st => CutOK 14 E0.P nt_r16_check (cbodyOf 14 ac_r16_check).code (mask [2, 3] st) (K_r16_check_0 Q)) fun st => finish 0 E0.T [.tmp 6] [] Q st
def K_r16_check_2 (K : KK) : KK := kP [] K
def K_r16_check_3 (K : KK) : KK := kC 2 (fun st => CutOK 28 E0.P nt_r16_check (cbodyOf 28 ac_r16_check).code (mask [] st) (K_r16_check_2 K)) K
theorem L_r16_check_6_of (t2 t8 : Int) (h3_1_0 h3_1_1 h3_1_2 : Int) (h3_1_3 : List UInt8) (h3_1_4r h3_1_5r : LL) (K : KK) (h :
 (Br (decide (t8 < (↑h3_1_4r.length : Int)))
 (Req (((0 : Int) ≤ t8 ∧ t8 < (↑h3_1_4r.length : Int)) ∧
 shOK
 [.int .i64, .int .i64, .int .i64, .str, .sl 6 ty_api_Value,
 .sl 7 ty_api_Pair]
 (h3_1_4r.getD t8.toNat []) =
 true)
 (Call E0.P fn_r16_check [(.imm (.agg [(.int .i64 (gI (h3_1_4r.getD t8.toNat []) 0)), (.int .i64 (gI (h3_1_4r.getD t8.toNat []) 1)), (.int .i64 (gI (h3_1_4r.getD t8.toNat []) 2)), (.str (gS (h3_1_4r.getD t8.toNat []) 3)), (.sl .any 6 (gR (h3_1_4r.getD t8.toNat []) 4)), (.sl .any 7 (gR (h3_1_4r.getD t8.toNat []) 5))])), (Ab false), (Ai (IntKind.i64.wrap (t2 + (1 : Int))))] [] fun r0 g0 =>
 Req (g0 = [] ∧ r0 = .imm (.int .i64 (rI r0)))
 (Br (!decide (rI r0 = (0 : Int)))
 (K .ret ⟨[(6, (Ai (rI r0)))], []⟩)
 (L_r16_check_6 t2 (IntKind.i64.wrap (t8 + (1 : Int))) h3_1_0 h3_1_1 h3_1_2 h3_1_3 h3_1_4r h3_1_5r K))))
 (K (.exit 0) ⟨[(2, (Ai t2)), (3, (.ptr (Nm.loc 3) 0))], [((Nm.loc 3), (.blk ty_api_Value [(Ai h3_1_0), (Ai h3_1_1), (Ai h3_1_2), (As h3_1_3), (Al 6 h3_1_4r), (Al 7 h3_1_5r)]))]⟩))) : L_r16_check_6 t2 t8 h3_1_0 h3_1_1 h3_1_2 h3_1_3 h3_1_4r h3_1_5r K := loop_rule (envN E0 nt_r16_check) (okE nt_r16_check) 3 6 (lbodyOf 6 ac_r16_check) [2, 3, 8] _ K rfl (kr (by kernel_rfl) h)
theorem C_r16_check_14_of (t2 h3_1_0 : Int) (h3_1_1 h3_1_2 : Int) (h3_1_3 : List UInt8) (h3_1_4r h3_1_5r : LL) (K : KK) (h :
 (L_r16_check_16 t2 ((0 : Int)) h3_1_0 h3_1_1 h3_1_2 h3_1_3 h3_1_4r h3_1_5r (K_r16_check_3 K))) : C_r16_check_14 t2 h3_1_0 h3_1_1 h3_1_2 h3_1_3 h3_1_4r h3_1_5r K := cut_rule (envN E0 nt_r16_check) (okE nt_r16_check) 3 14 (cbodyOf 14 ac_r16_check) [] _ K rfl (kr (by kernel_rfl) h)
theorem L_r16_check_16_of (t2 t10 : Int) (h3_1_0 h3_1_1 h3_1_2 : Int) (h3_1_3 : List UInt8) (h3_1_4r h3_1_5r : LL) (K : KK) (h :
 (Br (decide (t10 < (↑h3_1_5r.length : Int)))
 (Call E0.P fn_r16_key [(Al 7 h3_1_5r), (Ai t10)] [] fun r0 g0 =>
 Req (g0 = [] ∧ r0 = .imm (.int .i64 (rI r0)))
 (Br (!decide (rI r0 = (0 : Int)))
 (K .ret ⟨[(6, (Ai (rI r0)))], []⟩)
 (Req (((0 : Int) ≤ t10 ∧ t10 < (↑h3_1_5r.length : Int)) ∧
 shOK
 [.str, .int .i64, .int .i64, .int .i64, .str, .sl 6 ty_api_Value,
 .sl 7 ty_api_Pair]
 (h3_1_5r.getD t10.toNat []) =
 true)
 (Call E0.P fn_r16_check [(.imm (.agg [(.int .i64 (gI (h3_1_5r.getD t10.toNat []) 1)), (.int .i64 (gI (h3_1_5r.getD t10.toNat []) 2)), (.int .i64 (gI (h3_1_5r.getD t10.toNat []) 3)), (.str (gS (h3_1_5r.getD t10.toNat []) 4)), (.sl .any 6 (gR (h3_1_5r.getD t10.toNat []) 5)), (.sl .any 7 (gR (h3_1_5r.getD t10.toNat []) 6))])), (Ab false), (Ai (IntKind.i64.wrap (t2 + (1 : Int))))] [] fun r1 g1 =>
 Req (g1 = [] ∧ r1 = .imm (.int .i64 (rI r1)))
 (Br (!decide (rI r1 = (0 : Int)))
 (K .ret ⟨[(6, (Ai (rI r1)))], []⟩)
 (L_r16_check_16 t2 (IntKind.i64.wrap (t10 + (1 : Int))) h3_1_0 h3_1_1 h3_1_2 h3_1_3 h3_1_4r h3_1_5r K))))))
 (K (.exit (2)) ⟨[], []⟩))) : L_r16_check_16 t2 t10 h3_1_0 h3_1_1 h3_1_2 h3_1_3 h3_1_4r h3_1_5r K := loop_rule (envN E0 nt_r16_check) (okE nt_r16_check) 3 16 (lbodyOf 16 ac_r16_check) [2, 3, 10] _ K rfl (kr (by kernel_rfl) h)
theorem C_r16_check_28_of (K : KK) (h :
 (K .ret ⟨[(6, (Ai 0))], []⟩)) : C_r16_check_28  K := cut_rule (envN E0 nt_r16_check) (okE nt_r16_check) 3 28 (cbodyOf 28 ac_r16_check) [] _ K rfl (kr (by kernel_rfl) h)
theorem K_r16_check_0_x0 (Q : QQ) (t6 : Int) (h :
 (Q (Ai t6) [])) : K_r16_check_0 Q .ret ⟨[(6, (Ai t6))], []⟩ := kr (by kernel_rfl) h
theorem K_r16_check_1_x0 (Q : QQ) (t6 : Int) (h :
 (Q (Ai t6) [])) : K_r16_check_1 Q .ret ⟨[(6, (Ai t6))], []⟩ := kr (by kernel_rfl) h
theorem K_r16_check_1_x1 (Q : QQ) (t2 h3_1_0 : Int) (h3_1_1 h3_1_2 : Int) (h3_1_3 : List UInt8) (h3_1_4r h3_1_5r : LL) (h :
 (C_r16_check_14 t2 h3_1_0 h3_1_1 h3_1_2 h3_1_3 h3_1_4r h3_1_5r (K_r16_check_0 Q))) : K_r16_check_1 Q (.exit 0) ⟨[(2, (Ai t2)), (3, (.ptr (Nm.loc 3) 0))], [((Nm.loc 3), (.blk ty_api_Value [(Ai h3_1_0), (Ai h3_1_1), (Ai h3_1_2), (As h3_1_3), (Al 6 h3_1_4r), (Al 7 h3_1_5r)]))]⟩ := kr (by kernel_rfl) h
theorem K_r16_check_2_x0 (K : KK) (t6 : Int) (h :
 (K .ret ⟨[(6, (Ai t6))], []⟩)) : K_r16_check_2 K .ret ⟨[(6, (Ai t6))], []⟩ := kr (by kernel_rfl) h
theorem K_r16_check_3_x0 (K : KK) (t6 : Int) (h :
 (K .ret ⟨[(6, (Ai t6))], []⟩)) : K_r16_check_3 K .ret ⟨[(6, (Ai t6))], []⟩ := kr (by kernel_rfl) h
theorem K_r16_check_3_x1 (K : KK) (h :
 (C_r16_check_28  (K_r16_check_2 K))) : K_r16_check_3 K (.exit (2)) ⟨[], []⟩ := kr (by kernel_rfl) h
theorem ok_r16_check : FnOK E0.P 86 ac_r16_check.code nt_r16_check [.tmp 6] := fn_ok _ _ Tryd.f86 [(6, [2, 3, 8], []), (8, [2, 3], []), (14, [2, 3], []), (16, [2, 3, 10], []), (18, [], []), (28, [], [])] [6] _ 64 Tryd.func86 (by kernel_rfl) (by kernel_rfl) (by kernel_rfl) (by kernel_rfl)
theorem F_r16_check_of (a0_0 a0_1 a0_2 : Int) (a0_3 : List UInt8) (a0_4 a0_5 : LL) (a1 : Bool) (a2 : Int) (Q : QQ) (h :
 (Call E0.P fn_r16_one [(.imm (.agg [(.int .i64 a0_0), (.int .i64 a0_1), (.int .i64 a0_2), (.str a0_3), (.sl .any 6 a0_4), (.sl .any 7 a0_5)])), (Ab a1), (Ai a2)] [] fun r0 g0 =>
 Req (g0 = [] ∧ r0 = .imm (.int .i64 (rI r0)))
 (Br (!decide (rI r0 = (0 : Int)))
 (Q (Ai (rI r0)) [])
 (L_r16_check_6 a2 ((0 : Int)) a0_0 a0_1 a0_2 a0_3 a0_4 a0_5 (K_r16_check_1 Q))))) : Call E0.P fn_r16_check [(.imm (.agg [(.int .i64 a0_0), (.int .i64 a0_1), (.int .i64 a0_2), (.str a0_3), (.sl .any 6 a0_4), (.sl .any 7 a0_5)])), (Ab a1), (Ai a2)] [] Q := fun_rule (envN E0 nt_r16_check) (okE nt_r16_check) 3 0 86 ac_r16_check [.tmp 6] ok_r16_check _ _ Q rfl rfl (kr (by kernel_rfl) h)
noncomputable def ac_r01_in : AC := (annot [(2, [0, 1, 5], []), (4, [], []), (9, [], [])] [4] (codeOf Tryd.f89) 0).1
abbrev nt_r01_in : Nat := 17
def L_r01_in_2 (t0 : List UInt8) (t1 t5 : Int) (K : KK) : Prop := LoopOK 2 E0.P nt_r01_in (lbodyOf 2 ac_r01_in).code ⟨[(0, (As t0)), (1, (.imm (.int .u8 t1))), (5, (Ai t5))], []⟩ K
def C_r01_in_9 (K : KK) : Prop := CutOK 9 E0.P nt_r01_in (cbodyOf 9 ac_r01_in).code ⟨[], []⟩ K
def K_r01_in_0 (Q : QQ) : KK := kE fun st => finish 0 E0.T [.tmp 4] [] Q st
def K_r01_in_1 (Q : QQ) : KK := kF 0 (fun st => CutOK 9 E0.P nt_r01_in (cbodyOf 9 ac_r01_in).code (mask [] st) (K_r01_in_0 Q)) fun st => finish 0 E0.T [.tmp 4] [] Q st
theorem L_r01_in_2_of (t0 : List UInt8) (t1 t5 : Int) (K : KK) (h :
 (Br (decide (t5 < (↑t0.length : Int)))
 (Req ((0 : Int) ≤ t5 ∧ t5 < (↑t0.length : Int))
 (Br (decide ((↑(t0.getD t5.toNat 0).toNat : Int) = t1))
 (K .ret ⟨[(4, (Ab true))], []⟩)
 (L_r01_in_2 t0 t1 (IntKind.i64.wrap (t5 + (1 : Int))) K)))
 (K (.exit 0) ⟨[], []⟩))) : L_r01_in_2 t0 t1 t5 K := loop_rule (envN E0 nt_r01_in) (okE nt_r01_in) 3 2 (lbodyOf 2 ac_r01_in) [0, 1, 5] _ K rfl (kr (by kernel_rfl) h)
theorem C_r01_in_9_of (K : KK) (h :
 (K .ret ⟨[(4, (Ab false))], []⟩)) : C_r01_in_9  K := cut_rule (envN E0 nt_r01_in) (okE nt_r01_in) 3 9 (cbodyOf 9 ac_r01_in) [] _ K rfl (kr (by kernel_rfl) h)
theorem K_r01_in_0_x0 (Q : QQ) (t4 : Bool) (h :
 (Q (Ab t4) [])) : K_r01_in_0 Q .ret ⟨[(4, (Ab t4))], []⟩ := kr (by kernel_rfl) h
theorem K_r01_in_1_x0 (Q : QQ) (t4 : Bool) (h :
 (Q (Ab t4) [])) : K_r01_in_1 Q .ret ⟨[(4, (Ab t4))], []⟩ := kr (by kernel_rfl) h
theorem K_r01_in_1_x1 (Q : QQ) (h :
 (C_r01_in_9  (K_r01_in_0 Q))) : K_r01_in_1 Q (.exit 0) ⟨[], []⟩ := kr (by kernel_rfl) h
theorem ok_r01_in : FnOK E0.P 89 ac_r01_in.code nt_r01_in [.tmp 4] := fn_ok _ _ Tryd.f89 [(2, [0, 1, 5], []), (4, [], []), (9, [], [])] [4] _ 17 Tryd.func89 (by kernel_rfl) (by kernel_rfl) (by kernel_rfl) (by kernel_rfl)
theorem F_r01_in_of (a0 : List UInt8) (a1 : Int) (Q : QQ) (h :
 (L_r01_in_2 a0 a1 ((0 : Int)) (K_r01_in_1 Q))) : Call E0.P fn_r01_in [(As a0), (.imm (.int .u8 a1))] [] Q := fun_rule (envN E0 nt_r01_in) (okE nt_r01_in) 3 0 89 ac_r01_in [.tmp 4] ok_r01_in _ _ Q rfl rfl (kr (by kernel_rfl) h)
noncomputable def ac_r01_Digit : AC := (annot [] [2] (codeOf Tryd.f90) 0).1
abbrev nt_r01_Digit : Nat := 11
theorem ok_r01_Digit : FnOK E0.P 90 ac_r01_Digit.code nt_r01_Digit [.tmp 2] := fn_ok _ _ Tryd.f90 [] [2] _ 11 Tryd.func90 (by kernel_rfl) (by kernel_rfl) (by kernel_rfl) (by kernel_rfl)
theorem F_r01_Digit_of (a0 : Int) (Q : QQ) (h :
 (Let (bif decide (a0 < (0 : Int)) then true else decide ((15 : Int) < a0)) fun x0 =>
 Br (x0)
 (Q (.imm (.int .u8 ((0 : Int)))) [])
 (Req ((0 : Int) ≤ a0 ∧ a0 < (↑(16 : Nat) : Int))
 (Q (.imm (.int .u8 ((↑([(48 : UInt8), 49, 50, 51, 52, 53, 54, 55,
 56, 57, 65, 66, 67, 68, 69,
 70].getD
 a0.toNat 0).toNat :
 Int)))) [])))) : Call E0.P fn_r01_Digit [(Ai a0)] [] Q := fun_rule (envN E0 nt_r01_Digit) (okE nt_r01_Digit) 3 0 90 ac_r01_Digit [.tmp 2] ok_r01_Digit _ _ Q rfl rfl (kr (by kernel_rfl) h)
noncomputable def ac_value_own : AC := (annot [(4, [2, 3, 7, 27], []), (14, [], [])] [6] (codeOf Tryd.f91) 0).1
abbrev nt_value_own : Nat := 86
def C_value_own_4 (t2 : Int) (t27 : Bool) (h3_1_0 h3_1_1 h3_1_2 : Int) (h3_1_3 : List UInt8) (h3_1_4r h3_1_5r : LL) (h7_1_0 h7_1_1 : Bool) (h7_1_2 h7_1_3 h7_1_4 : Bool) (K : KK) : Prop := CutOK 4 E0.P nt_value_own (cbodyOf 4 ac_value_own).code ⟨[(2, (Ai t2)), (3, (.ptr (Nm.loc 3) 0)), (7, (.ptr (Nm.loc 7) 0)), (27, (Ab t27))], [((Nm.loc 3), (.blk ty_api_Value [(Ai h3_1_0), (Ai h3_1_1), (Ai h3_1_2), (As h3_1_3), (Al 6 h3_1_4r), (Al 7 h3_1_5r)])), ((Nm.loc 7), (.blk ty_value_fieldSet [(Ab h7_1_0), (Ab h7_1_1), (Ab h7_1_2), (Ab h7_1_3), (Ab h7_1_4)]))]⟩ K
def C_value_own_14 (K : KK) : Prop := CutOK 14 E0.P nt_value_own (cbodyOf 14 ac_value_own).code ⟨[], []⟩ K
def K_value_own_0 (Q : QQ) : KK := kE fun st => finish 0 E0.T [.tmp 6] [] Q st
def K_value_own_1 (Q : QQ) : KK := kF 0 (fun st => CutOK 14 E0.P nt_value_own (cbodyOf 14 ac_value_own).code (mask [] st) (K_value_own_0 Q)) fun st => finish 0 E0.T [.tmp 6] [] Q st
theorem C_value_own_4_of (t2 : Int) (t27 : Bool) (h3_1_0 h3_1_1 h3_1_2 : Int) (h3_1_3 : List UInt8) (h3_1_4r h3_1_5r : LL) (h7_1_0 h7_1_1 : Bool) (h7_1_2 h7_1_3 h7_1_4 : Bool) (K : KK) (h :
 (Br (t27)
 (K .ret ⟨[(6, (Ai 4))], []⟩)
 (Call E0.P fn_value_beyond [(.imm (.agg [(.int .i64 h3_1_0), (.int .i64 h3_1_1), (.int .i64 h3_1_2), (.str h3_1_3), (.sl .any 6 h3_1_4r), (.sl .any 7 h3_1_5r)]))] [] fun r0 g0 =>
 Req (g0 = [] ∧ r0 = .imm (.bool (rB r0)))
 (Br (rB r0)
 (K .ret ⟨[(6, (Ai 3))], []⟩)
 (Let (bif decide (h3_1_0 = (3 : Int)) then decide ((127 : Int) < (↑h3_1_3.length : Int)) else false) fun x1 =>
 Br (x1 == false)
 (Let (bif decide (h3_1_0 = (4 : Int)) then decide ((65535 : Int) < (↑h3_1_3.length : Int)) else false) fun x2 =>
 Let (x2) fun x3 =>
 Br (x3)
 (K .ret ⟨[(6, (Ai 8))], []⟩)
 (Let (bif decide (h3_1_0 = (8 : Int)) then decide ((1048576 : Int) < (↑h3_1_3.length : Int)) else false) fun x4 =>
 Br (x4)
 (K .ret ⟨[(6, (Ai 7))], []⟩)
 (Let (bif h7_1_3 then true else h7_1_4) fun x5 =>
 Let (bif x5 then decide ((64 : Int) ≤ t2) else false) fun x6 =>
 Br (x6)
 (K .ret ⟨[(6, (Ai 9))], []⟩)
 (K .normal ⟨[], []⟩))))
 (Req ((!false) = true)
 (Let (true) fun x7 =>
 Br (x7)
 (K .ret ⟨[(6, (Ai 8))], []⟩)
 (Let (bif decide (h3_1_0 = (8 : Int)) then decide ((1048576 : Int) < (↑h3_1_3.length : Int)) else false) fun x8 =>
 Br (x8)
 (K .ret ⟨[(6, (Ai 7))], []⟩)
 (Let (bif h7_1_3 then true else h7_1_4) fun x9 =>
 Let (bif x9 then decide ((64 : Int) ≤ t2) else false) fun x10 =>
 Br (x10)
 (K .ret ⟨[(6, (Ai 9))], []⟩)
 (K .normal ⟨[], []⟩)))))))))) : C_value_own_4 t2 t27 h3_1_0 h3_1_1 h3_1_2 h3_1_3 h3_1_4r h3_1_5r h7_1_0 h7_1_1 h7_1_2 h7_1_3 h7_1_4 K := cut_rule (envN E0 nt_value_own) (okE nt_value_own) 3 4 (cbodyOf 4 ac_value_own) [] _ K rfl (kr (by kernel_rfl) h)
theorem C_value_own_14_of (K : KK) (h :
 (K .ret ⟨[(6, (Ai 0))], []⟩)) : C_value_own_14  K := cut_rule (envN E0 nt_value_own) (okE nt_value_own) 3 14 (cbodyOf 14 ac_value_own) [] _ K rfl (kr (by kernel_rfl) h)
theorem K_value_own_0_x0 (Q : QQ) (t6 : Int) (h :
 (Q (Ai t6) [])) : K_value_own_0 Q .ret ⟨[(6, (Ai t6))], []⟩ := kr (by kernel_rfl) h
theorem K_value_own_1_x0 (Q : QQ) (t6 : Int) (h :
 (Q (Ai t6) [])) : K_value_own_1 Q .ret ⟨[(6, (Ai t6))], []⟩ := kr (by kernel_rfl) h
theorem K_value_own_1_x1 (Q : QQ) (h :
 (C_value_own_14  (K_value_own_0 Q))) : K_value_own_1 Q .normal ⟨[], []⟩ := kr (by kernel_rfl) h
theorem ok_value_own : FnOK E0.P 91 ac_value_own.code nt_value_own [.tmp 6] := fn_ok _ _ Tryd.f91 [(4, [2, 3, 7, 27], []), (14, [], [])] [6] _ 86 Tryd.func91 (by kernel_rfl) (by kernel_rfl) (by kernel_rfl) (by kernel_rfl)
theorem F_value_own_of (a0_0 a0_1 a0_2 : Int) (a0_3 : List UInt8) (a0_4 a0_5 : LL) (a1 : Bool) (a2 : Int) (Q : QQ) (h :
 (Call E0.P fn_value_has [(Ai a0_0)] [] fun r0 g0 =>
 Req (g0 = [] ∧
 r0 =
 .tup
 [.imm
 (IV.agg
 [.bool (gB (aCells (rT r0 0)) 0), .bool (gB (aCells (rT r0 0)) 1),
 .bool (gB (aCells (rT r0 0)) 2), .bool (gB (aCells (rT r0 0)) 3),
 .bool (gB (aCells (rT r0 0)) 4)]),
 .imm (.bool (rB (rT r0 1)))])
 (Br ((!rB (rT r0 1)) == false)
 (Let (bif decide (a0_0 = (8 : Int)) then !a1 else false) fun x1 =>
 Let (x1) fun x2 =>
 Br (x2)
 (Q (Ai 10) [])
 (Call E0.P fn_value_foreign [(.imm (.agg [(.int .i64 a0_0), (.int .i64 a0_1), (.int .i64 a0_2), (.str a0_3), (.sl .any 6 a0_4), (.sl .any 7 a0_5)])), (.imm (.agg [(.bool (gB (aCells (rT r0 0)) 0)), (.bool (gB (aCells (rT r0 0)) 1)), (.bool (gB (aCells (rT r0 0)) 2)), (.bool (gB (aCells (rT r0 0)) 3)), (.bool (gB (aCells (rT r0 0)) 4))]))] [] fun r3 g3 =>
 Req (g3 = [] ∧ r3 = .imm (.bool (rB r3)))
 (Br (rB r3 == false)
 (Br (decide (a0_0 = (3 : Int)) == true)
 (Call E0.P fn_value_nul [(As a0_3)] [] fun r4 g4 =>
 Req (g4 = [] ∧ r4 = .imm (.bool (rB r4)))
 (Let (rB r4) fun x5 =>
 Let (x5) fun x6 =>
 C_value_own_4 a2 x6 a0_0 a0_1 a0_2 a0_3 a0_4 a0_5 (gB (aCells (rT r0 0)) 0) (gB (aCells (rT r0 0)) 1) (gB (aCells (rT r0 0)) 2) (gB (aCells (rT r0 0)) 3) (gB (aCells (rT r0 0)) 4) (K_value_own_1 Q)))
 (Req ((!true) = false)
 (Let (false) fun x7 =>
 Let (x7) fun x8 =>
 C_value_own_4 a2 x8 a0_0 a0_1 a0_2 a0_3 a0_4 a0_5 (gB (aCells (rT r0 0)) 0) (gB (aCells (rT r0 0)) 1) (gB (aCells (rT r0 0)) 2) (gB (aCells (rT r0 0)) 3) (gB (aCells (rT r0 0)) 4) (K_value_own_1 Q))))
 (Req ((!false) = true)
 (Let (true) fun x9 =>
 C_value_own_4 a2 x9 a0_0 a0_1 a0_2 a0_3 a0_4 a0_5 (gB (aCells (rT r0 0)) 0) (gB (aCells (rT r0 0)) 1) (gB (aCells (rT r0 0)) 2) (gB (aCells (rT r0 0)) 3) (gB (aCells (rT r0 0)) 4) (K_value_own_1 Q))))))
 (Req ((!false) = true)
 (Let (true) fun x10 =>
 Br (x10)
 (Q (Ai 10) [])
 (Call E0.P fn_value_foreign [(.imm (.agg [(.int .i64 a0_0), (.int .i64 a0_1), (.int .i64 a0_2), (.str a0_3), (.sl .any 6 a0_4), (.sl .any 7 a0_5)])), (.imm (.agg [(.bool (gB (aCells (rT r0 0)) 0)), (.bool (gB (aCells (rT r0 0)) 1)), (.bool (gB (aCells (rT r0 0)) 2)), (.bool (gB (aCells (rT r0 0)) 3)), (.bool (gB (aCells (rT r0 0)) 4))]))] [] fun r11 g11 =>
 Req (g11 = [] ∧ r11 = .imm (.bool (rB r11)))
 (Br (rB r11 == false)
 (Br (decide (a0_0 = (3 : Int)) == true)
 (Call E0.P fn_value_nul [(As a0_3)] [] fun r12 g12 =>
 Req (g12 = [] ∧ r12 = .imm (.bool (rB r12)))
 (Let (rB r12) fun x13 =>
 Let (x13) fun x14 =>
 C_value_own_4 a2 x14 a0_0 a0_1 a0_2 a0_3 a0_4 a0_5 (gB (aCells (rT r0 0)) 0) (gB (aCells (rT r0 0)) 1) (gB (aCells (rT r0 0)) 2) (gB (aCells (rT r0 0)) 3) (gB (aCells (rT r0 0)) 4) (K_value_own_1 Q)))
 (Req ((!true) = false)
 (Let (false) fun x15 =>
 Let (x15) fun x16 =>
 C_value_own_4 a2 x16 a0_0 a0_1 a0_2 a0_3 a0_4 a0_5 (gB (aCells (rT r0 0)) 0) (gB (aCells (rT r0 0)) 1) (gB (aCells (rT r0 0)) 2) (gB (aCells (rT r0 0)) 3) (gB (aCells (rT r0 0)) 4) (K_value_own_1 Q))))
 (Req ((!false) = true)
 (Let (true) fun x17 =>
 C_value_own_4 a2 x17 a0_0 a0_1 a0_2 a0_3 a0_4 a0_5 (gB (aCells (rT r0 0)) 0) (gB (aCells (rT r0 0)) 1) (gB (aCells (rT r0 0)) 2) (gB (aCells (rT r0 0)) 3) (gB (aCells (rT r0 0)) 4) (K_value_own_1 Q)))))))))) : Call E0.P fn_value_own [(.imm (.agg [(.int .i64 a0_0), (.int .i64 a0_1), (.int .i64 a0_2), (.str a0_3), (.sl .any 6 a0_4), (.sl .any 7 a0_5)])), (Ab a1), (Ai a2)] [] Q := fun_rule (envN E0 nt_value_own) (okE nt_value_own) 3 0 91 ac_value_own [.tmp 6] ok_value_own _ _ Q rfl rfl (kr (by kernel_rfl) h)
noncomputable def ac_value_nul : AC := (annot [] [2] (codeOf Tryd.f92) 0).1
abbrev nt_value_nul : Nat := 6
theorem ok_value_nul : FnOK E0.P 92 ac_value_nul.code nt_value_nul [.tmp 2] := fn_ok _ _ Tryd.f92 [] [2] _ 6 Tryd.func92 (by kernel_rfl) (by kernel_rfl) (by kernel_rfl) (by kernel_rfl)
theorem F_value_nul_of (a0 : List UInt8) (Q : QQ) (h :
 (Call E0.P fn_strings_IndexByte [(As a0), (.imm (.int .u8 ((0 : Int))))] [] fun r0 g0 =>
 Req (g0 = [] ∧ r0 = .imm (.int .i64 (rI r0)))
 (Q (Ab (decide ((0 : Int) ≤ rI r0))) []))) : Call E0.P fn_value_nul [(As a0)] [] Q := fun_rule (envN E0 nt_value_nul) (okE nt_value_nul) 3 0 92 ac_value_nul [.tmp 2] ok_value_nul _ _ Q rfl rfl (kr (by kernel_rfl) h)
noncomputable def ac_r16_one : AC := (annot [(3, [2, 3, 25], []), (13, [], [])] [6] (codeOf Tryd.f112) 0).1
abbrev nt_r16_one : Nat := 80
def C_r16_one_3 (t2 : Int) (t25 : Bool) (h3_1_0 h3_1_1 h3_1_2 : Int) (h3_1_3 : List UInt8) (h3_1_4r h3_1_5r : LL) (K : KK) : Prop := CutOK 3 E0.P nt_r16_one (cbodyOf 3 ac_r16_one).code ⟨[(2, (Ai t2)), (3, (.ptr (Nm.loc 3) 0)), (25, (Ab t25))], [((Nm.loc 3), (.blk ty_api_Value [(Ai h3_1_0), (Ai h3_1_1), (Ai h3_1_2), (As h3_1_3), (Al 6 h3_1_4r), (Al 7 h3_1_5r)]))]⟩ K
def C_r16_one_13 (K : KK) : Prop := CutOK 13 E0.P nt_r16_one (cbodyOf 13 ac_r16_one).code ⟨[], []⟩ K
def K_r16_one_0 (Q : QQ) : KK := kE fun st => finish 0 E0.T [.tmp 6] [] Q st
def K_r16_one_1 (Q : QQ) : KK := kF 0 (fun st => CutOK 13 E0.P nt_r16_one (cbodyOf 13 ac_r16_one).code (mask [] st) (K_r16_one_0 Q)) fun st => finish 0 E0.T [.tmp 6] [] Q st
theorem C_r16_one_3_of (t2 : Int) (t25 : Bool) (h3_1_0 h3_1_1 h3_1_2 : Int) (h3_1_3 : List UInt8) (h3_1_4r h3_1_5r : LL) (K : KK) (h :
 (Br (t25)
 (K .ret ⟨[(6, (Ai 4))], []⟩)
 (Call E0.P fn_r16_out [(.imm (.agg [(.int .i64 h3_1_0), (.int .i64 h3_1_1), (.int .i64 h3_1_2), (.str h3_1_3), (.sl .any 6 h3_1_4r), (.sl .any 7 h3_1_5r)]))] [] fun r0 g0 =>
 Req (g0 = [] ∧ r0 = .imm (.bool (rB r0)))
 (Br (rB r0)
 (K .ret ⟨[(6, (Ai 3))], []⟩)
 (Let (bif decide (h3_1_0 = (3 : Int)) then decide ((127 : Int) < (↑h3_1_3.length : Int)) else false) fun x1 =>
 Br (x1 == false)
 (Let (bif decide (h3_1_0 = (4 : Int)) then decide ((65535 : Int) < (↑h3_1_3.length : Int)) else false) fun x2 =>
 Let (x2) fun x3 =>
 Br (x3)
 (K .ret ⟨[(6, (Ai 8))], []⟩)
 (Let (bif decide (h3_1_0 = (8 : Int)) then decide ((1048576 : Int) < (↑h3_1_3.length : Int)) else false) fun x4 =>
 Br (x4)
 (K .ret ⟨[(6, (Ai 7))], []⟩)
 (Call E0.P fn_r16_holder [(Ai h3_1_0)] [] fun r5 g5 =>
 Req (g5 = [] ∧ r5 = .imm (.bool (rB r5)))
 (Let (bif rB r5 then decide ((64 : Int) ≤ t2) else false) fun x6 =>
 Br (x6)
 (K .ret ⟨[(6, (Ai 9))], []⟩)
 (K .normal ⟨[], []⟩)))))
 (Req ((!false) = true)
 (Let (true) fun x7 =>
 Br (x7)
 (K .ret ⟨[(6, (Ai 8))], []⟩)
 (Let (bif decide (h3_1_0 = (8 : Int)) then decide ((1048576 : Int) < (↑h3_1_3.length : Int)) else false) fun x8 =>
 Br (x8)
 (K .ret ⟨[(6, (Ai 7))], []⟩)
 (Call E0.P fn_r16_holder [(Ai h3_1_0)] [] fun r9 g9 =>
 Req (g9 = [] ∧ r9 = .imm (.bool (rB r9)))
 (Let (bif rB r9 then decide ((64 : Int) ≤ t2) else false) fun x10 =>
 Br (x10)
 (K .ret ⟨[(6, (Ai 9))], []⟩)
 (K .normal ⟨[], []⟩))))))))))) : C_r16_one_3 t2 t25 h3_1_0 h3_1_1 h3_1_2 h3_1_3 h3_1_4r h3_1_5r K := cut_rule (envN E0 nt_r16_one) (okE nt_r16_one) 3 3 (cbodyOf 3 ac_r16_one) [] _ K rfl (kr (by kernel_rfl) h)
theorem C_r16_one_13_of (K : KK) (h :
 (K .ret ⟨[(6, (Ai 0))], []⟩)) : C_r16_one_13  K := cut_rule (envN E0 nt_r16_one) (okE nt_r16_one) 3 13 (cbodyOf 13 ac_r16_one) [] _ K rfl (kr (by kernel_rfl) h)
theorem K_r16_one_0_x0 (Q : QQ) (t6 : Int) (h :
 (Q (Ai t6) [])) : K_r16_one_0 Q .ret ⟨[(6, (Ai t6))], []⟩ := kr (by kernel_rfl) h
theorem K_r16_one_1_x0 (Q : QQ) (t6 : Int) (h :
 (Q (Ai t6) [])) : K_r16_one_1 Q .ret ⟨[(6, (Ai t6))], []⟩ := kr (by kernel_rfl) h
theorem K_r16_one_1_x1 (Q : QQ) (h :
 (C_r16_one_13  (K_r16_one_0 Q))) : K_r16_one_1 Q .normal ⟨[], []⟩ := kr (by kernel_rfl) h
theorem ok_r16_one : FnOK E0.P 112 ac_r16_one.code nt_r16_one [.tmp 6] := fn_ok _ _ Tryd.f112 [(3, [2, 3, 25], []), (13, [], [])] [6] _ 80 Tryd.func112 (by kernel_rfl) (by kernel_rfl) (by kernel_rfl) (by kernel_rfl)
theorem F_r16_one_of (a0_0 a0_1 a0_2 : Int) (a0_3 : List UInt8) (a0_4 a0_5 : LL) (a1 : Bool) (a2 : Int) (Q : QQ) (h :
 (Let (bif decide (a0_0 < (0 : Int)) then true else decide ((8 : Int) < a0_0)) fun x0 =>
 Br (x0 == false)
 (Let (bif decide (a0_0 = (8 : Int)) then !a1 else false) fun x1 =>
 Let (x1) fun x2 =>
 Br (x2)
 (Q (Ai 10) [])
 (Call E0.P fn_r16_extra [(.imm (.agg [(.int .i64 a0_0), (.int .i64 a0_1), (.int .i64 a0_2), (.str a0_3), (.sl .any 6 a0_4), (.sl .any 7 a0_5)]))] [] fun r3 g3 =>
 Req (g3 = [] ∧ r3 = .imm (.bool (rB r3)))
 (Br (rB r3 == false)
 (Br (decide (a0_0 = (3 : Int)) == true)
 (Call E0.P fn_r16_zero [(As a0_3)] [] fun r4 g4 =>
 Req (g4 = [] ∧ r4 = .imm (.bool (rB r4)))
 (Let (rB r4) fun x5 =>
 Let (x5) fun x6 =>
 C_r16_one_3 a2 x6 a0_0 a0_1 a0_2 a0_3 a0_4 a0_5 (K_r16_one_1 Q)))
 (Req ((!true) = false)
 (Let (false) fun x7 =>
 Let (x7) fun x8 =>
 C_r16_one_3 a2 x8 a0_0 a0_1 a0_2 a0_3 a0_4 a0_5 (K_r16_one_1 Q))))
 (Req ((!false) = true)
 (Let (true) fun x9 =>
 C_r16_one_3 a2 x9 a0_0 a0_1 a0_2 a0_3 a0_4 a0_5 (K_r16_one_1 Q))))))
 (Req ((!false) = true)
 (Let (true) fun x10 =>
 Br (x10)
 (Q (Ai 10) [])
 (Call E0.P fn_r16_extra [(.imm (.agg [(.int .i64 a0_0), (.int .i64 a0_1), (.int .i64 a0_2), (.str a0_3), (.sl .any 6 a0_4), (.sl .any 7 a0_5)]))] [] fun r11 g11 =>
 Req (g11 = [] ∧ r11 = .imm (.bool (rB r11)))
 (Br (rB r11 == false)
 (Br (decide (a0_0 = (3 : Int)) == true)
 (Call E0.P fn_r16_zero [(As a0_3)] [] fun r12 g12 =>
 Req (g12 = [] ∧ r12 = .imm (.bool (rB r12)))
 (Let (rB r12) fun x13 =>
 Let (x13) fun x14 =>
 C_r16_one_3 a2 x14 a0_0 a0_1 a0_2 a0_3 a0_4 a0_5 (K_r16_one_1 Q)))
 (Req ((!true) = false)
 (Let (false) fun x15 =>
 Let (x15) fun x16 =>
 C_r16_one_3 a2 x16 a0_0 a0_1 a0_2 a0_3 a0_4 a0_5 (K_r16_one_1 Q))))
 (Req ((!false) = true)
 (Let (true) fun x17 =>
 C_r16_one_3 a2 x17 a0_0 a0_1 a0_2 a0_3 a0_4 a0_5 (K_r16_one_1 Q))))))))) : Call E0.P fn_r16_one [(.imm (.agg [(.int .i64 a0_0), (.int .i64 a0_1), (.int .i64 a0_2), (.str a0_3), (.sl .any 6 a0_4), (.sl .any 7 a0_5)])), (Ab a1), (Ai a2)] [] Q := fun_rule (envN E0 nt_r16_one) (okE nt_r16_one) 3 0 112 ac_r16_one [.tmp 6] ok_r16_one _ _ Q rfl rfl (kr (by kernel_rfl) h)
noncomputable def ac_r16_key : AC := (annot [(4, [0, 1, 5], []), (6, [0, 1, 5, 6], []), (8, [], []), (13, [], [])] [4] (codeOf Tryd.f113) 0).1
abbrev nt_r16_key : Nat := 31
def C_r16_key_4 (t0r : LL) (t1 : Int) (t5 : List UInt8) (K : KK) : Prop := CutOK 4 E0.P nt_r16_key (cbodyOf 4 ac_r16_key).code ⟨[(0, (Al 7 t0r)), (1, (Ai t1)), (5, (As t5))], []⟩ K
def L_r16_key_6 (t0r : LL) (t1 : Int) (t5 : List UInt8) (t6 : Int) (K : KK) : Prop := LoopOK 6 E0.P nt_r16_key (lbodyOf 6 ac_r16_key).code ⟨[(0, (Al 7 t0r)), (1, (Ai t1)), (5, (As t5)), (6, (Ai t6))], []⟩ K
def C_r16_key_13 (K : KK) : Prop := CutOK 13 E0.P nt_r16_key (cbodyOf 13 ac_r16_key).code ⟨[], []⟩ K
def K_r16_key_0 (Q : QQ) : KK := kE fun st => finish 0 E0.T [.tmp 4] [] Q st
def K_r16_key_1 (K : KK) : KK := kP [] K
def K_r16_key_2 (K : KK) : KK := kC 0 (fun st => CutOK 13 E0.P nt_r16_key (cbodyOf 13 ac_r16_key).code (mask [] st) (K_r16_key_1 K)) K
theorem C_r16_key_4_of (t0r : LL) (t1 : Int) (t5 : List UInt8) (K : KK) (h :
 (L_r16_key_6 t0r t1 t5 ((0 : Int)) (K_r16_key_2 K))) : C_r16_key_4 t0r t1 t5 K := cut_rule (envN E0 nt_r16_key) (okE nt_r16_key) 3 4 (cbodyOf 4 ac_r16_key) [] _ K rfl (kr (by kernel_rfl) h)
theorem L_r16_key_6_of (t0r : LL) (t1 : Int) (t5 : List UInt8) (t6 : Int) (K : KK) (h :
 (Br (decide (t6 < t1))
 (Req (((0 : Int) ≤ t6 ∧ t6 < (↑t0r.length : Int)) ∧
 shOK
 [.str, .int .i64, .int .i64, .int .i64, .str, .sl 6 ty_api_Value,
 .sl 7 ty_api_Pair]
 (t0r.getD t6.toNat []) =
 true)
 (Br (gS (t0r.getD t6.toNat []) 0 == t5)
 (K .ret ⟨[(4, (Ai 11))], []⟩)
 (L_r16_key_6 t0r t1 t5 (IntKind.i64.wrap (t6 + (1 : Int))) K)))
 (K (.exit 0) ⟨[], []⟩))) : L_r16_key_6 t0r t1 t5 t6 K := loop_rule (envN E0 nt_r16_key) (okE nt_r16_key) 3 6 (lbodyOf 6 ac_r16_key) [0, 1, 5, 6] _ K rfl (kr (by kernel_rfl) h)
theorem C_r16_key_13_of (K : KK) (h :
 (K .ret ⟨[(4, (Ai 0))], []⟩)) : C_r16_key_13  K := cut_rule (envN E0 nt_r16_key) (okE nt_r16_key) 3 13 (cbodyOf 13 ac_r16_key) [] _ K rfl (kr (by kernel_rfl) h)
theorem K_r16_key_0_x0 (Q : QQ) (t4 : Int) (h :
 (Q (Ai t4) [])) : K_r16_key_0 Q .ret ⟨[(4, (Ai t4))], []⟩ := kr (by kernel_rfl) h
theorem K_r16_key_1_x0 (K : KK) (t4 : Int) (h :
 (K .ret ⟨[(4, (Ai t4))], []⟩)) : K_r16_key_1 K .ret ⟨[(4, (Ai t4))], []⟩ := kr (by kernel_rfl) h
theorem K_r16_key_2_x0 (K : KK) (t4 : Int) (h :
 (K .ret ⟨[(4, (Ai t4))], []⟩)) : K_r16_key_2 K .ret ⟨[(4, (Ai t4))], []⟩ := kr (by kernel_rfl) h
theorem K_r16_key_2_x1 (K : KK) (h :
 (C_r16_key_13  (K_r16_key_1 K))) : K_r16_key_2 K (.exit 0) ⟨[], []⟩ := kr (by kernel_rfl) h
theorem ok_r16_key : FnOK E0.P 113 ac_r16_key.code nt_r16_key [.tmp 4] := fn_ok _ _ Tryd.f113 [(4, [0, 1, 5], []), (6, [0, 1, 5, 6], []), (8, [], []), (13, [], [])] [4] _ 31 Tryd.func113 (by kernel_rfl) (by kernel_rfl) (by kernel_rfl) (by kernel_rfl)
theorem F_r16_key_of (a0 : LL) (a1 : Int) (Q : QQ) (h :
 (Req (((0 : Int) ≤ a1 ∧ a1 < (↑a0.length : Int)) ∧
 shOK
 [.str, .int .i64, .int .i64, .int .i64, .str, .sl 6 ty_api_Value,
 .sl 7 ty_api_Pair]
 (a0.getD a1.toNat []) =
 true)
 (Br (decide ((127 : Int) < (↑(gS (a0.getD a1.toNat []) (0 : Nat)).length : Int)) == false)
 (Call E0.P fn_r16_zero [(As (gS (a0.getD a1.toNat []) 0))] [] fun r0 g0 =>
 Req (g0 = [] ∧ r0 = .imm (.bool (rB r0)))
 (Let (rB r0) fun x1 =>
 Br (x1)
 (Q (Ai 11) [])
 (C_r16_key_4 a0 a1 (gS (a0.getD a1.toNat []) 0) (K_r16_key_0 Q))))
 (Req ((!false) = true)
 (Let (true) fun x2 =>
 Br (x2)
 (Q (Ai 11) [])
 (C_r16_key_4 a0 a1 (gS (a0.getD a1.toNat []) 0) (K_r16_key_0 Q))))))) : Call E0.P fn_r16_key [(Al 7 a0), (Ai a1)] [] Q := fun_rule (envN E0 nt_r16_key) (okE nt_r16_key) 3 0 113 ac_r16_key [.tmp 4] ok_r16_key _ _ Q rfl rfl (kr (by kernel_rfl) h)
noncomputable def ac_value_foreign : AC := (annot [] [4] (codeOf Tryd.f115) 0).1
abbrev nt_value_foreign : Nat := 55
theorem ok_value_foreign : FnOK E0.P 115 ac_value_foreign.code nt_value_foreign [.tmp 4] := fn_ok _ _ Tryd.f115 [] [4] _ 55 Tryd.func115 (by kernel_rfl) (by kernel_rfl) (by kernel_rfl) (by kernel_rfl)
theorem F_value_foreign_of (a0_0 a0_1 a0_2 : Int) (a0_3 : List UInt8) (a0_4 a0_5 : LL) (a1_0 a1_1 : Bool) (a1_2 a1_3 a1_4 : Bool) (Q : QQ) (h :
 (Let (bif !a1_0 then !decide (a0_1 = (0 : Int)) else false) fun x0 =>
 Br (x0 == false)
 (Let (bif !a1_1 then !decide (a0_2 = (0 : Int)) else false) fun x1 =>
 Let (x1) fun x2 =>
 Br (x2 == false)
 (Let (bif !a1_2 then !a0_3 == [] else false) fun x3 =>
 Let (x3) fun x4 =>
 Br (x4 == false)
 (Let (bif !a1_3 then decide ((0 : Int) < (↑a0_4.length : Int)) else false) fun x5 =>
 Let (x5) fun x6 =>
 Br (x6 == false)
 (Let (bif !a1_4 then decide ((0 : Int) < (↑a0_5.length : Int)) else false) fun x7 =>
 Let (x7) fun x8 =>
 Q (Ab x8) [])
 (Req ((!false) = true)
 (Let (true) fun x9 =>
 Q (Ab x9) [])))
 (Req ((!false) = true)
 (Let (true) fun x10 =>
 Br (x10 == false)
 (Let (bif !a1_4 then decide ((0 : Int) < (↑a0_5.length : Int)) else false) fun x11 =>
 Let (x11) fun x12 =>
 Q (Ab x12) [])
 (Req ((!false) = true)
 (Let (true) fun x13 =>
 Q (Ab x13) [])))))
 (Req ((!false) = true)
 (Let (true) fun x14 =>
 Br (x14 == false)
 (Let (bif !a1_3 then decide ((0 : Int) < (↑a0_4.length : Int)) else false) fun x15 =>
 Let (x15) fun x16 =>
 Br (x16 == false)
 (Let (bif !a1_4 then decide ((0 : Int) < (↑a0_5.length : Int)) else false) fun x17 =>
 Let (x17) fun x18 =>
 Q (Ab x18) [])
 (Req ((!false) = true)
 (Let (true) fun x19 =>
 Q (Ab x19) [])))
 (Req ((!false) = true)
 (Let (true) fun x20 =>
 Br (x20 == false)
 (Let (bif !a1_4 then decide ((0 : Int) < (↑a0_5.length : Int)) else false) fun x21 =>
 Let (x21) fun x22 =>
 Q (Ab x22) [])
 (Req ((!false) = true)
 (Let (true) fun x23 =>
 Q (Ab x23) [])))))))
 (Req ((!false) = true)
 (Let (true) fun x24 =>
 Br (x24 == false)
 (Let (bif !a1_2 then !a0_3 == [] else false) fun x25 =>
 Let (x25) fun x26 =>
 Br (x26 == false)
 (Let (bif !a1_3 then decide ((0 : Int) < (↑a0_4.length : Int)) else false) fun x27 =>
 Let (x27) fun x28 =>
 Br (x28 == false)
 (Let (bif !a1_4 then decide ((0 : Int) < (↑a0_5.length : Int)) else false) fun x29 =>
 Let (x29) fun x30 =>
 Q (Ab x30) [])
 (Req ((!false) = true)
 (Let (true) fun x31 =>
 Q (Ab x31) [])))
 (Req ((!false) = true)
 (Let (true) fun x32 =>
 Br (x32 == false)
 (Let (bif !a1_4 then decide ((0 : Int) < (↑a0_5.length : Int)) else false) fun x33 =>
 Let (x33) fun x34 =>
 Q (Ab x34) [])
 (Req ((!false) = true)
 (Let (true) fun x35 =>
 Q (Ab x35) [])))))
 (Req ((!false) = true)
 (Let (true) fun x36 =>
 Br (x36 == false)
 (Let (bif !a1_3 then decide ((0 : Int) < (↑a0_4.length : Int)) else false) fun x37 =>
 Let (x37) fun x38 =>
 Br (x38 == false)
 (Let (bif !a1_4 then decide ((0 : Int) < (↑a0_5.length : Int)) else false) fun x39 =>
 Let (x39) fun x40 =>
 Q (Ab x40) [])
 (Req ((!false) = true)
 (Let (true) fun x41 =>
 Q (Ab x41) [])))
 (Req ((!false) = true)
 (Let (true) fun x42 =>
 Br (x42 == false)
 (Let (bif !a1_4 then decide ((0 : Int) < (↑a0_5.length : Int)) else false) fun x43 =>
 Let (x43) fun x44 =>
 Q (Ab x44) [])
 (Req ((!false) = true)
 (Let (true) fun x45 =>
 Q (Ab x45) [])))))))))) : Call E0.P fn_value_foreign [(.imm (.agg [(.int .i64 a0_0), (.int .i64 a0_1), (.int .i64 a0_2), (.str a0_3), (.sl .any 6 a0_4), (.sl .any 7 a0_5)])), (.imm (.agg [(.bool a1_0), (.bool a1_1), (.bool a1_2), (.bool a1_3), (.bool a1_4)]))] [] Q := fun_rule (envN E0 nt_value_foreign) (okE nt_value_foreign) 3 0 115 ac_value_foreign [.tmp 4] ok_value_foreign _ _ Q rfl rfl (kr (by kernel_rfl) h)
noncomputable def ac_value_beyond : AC := (annot [] [2] (codeOf Tryd.f116) 0).1
abbrev nt_value_beyond : Nat := 41
theorem ok_value_beyond : FnOK E0.P 116 ac_value_beyond.code nt_value_beyond [.tmp 2] := fn_ok _ _ Tryd.f116 [] [2] _ 41 Tryd.func116 (by kernel_rfl) (by kernel_rfl) (by kernel_rfl) (by kernel_rfl)
theorem F_value_beyond_of (a0_0 a0_1 a0_2 : Int) (a0_3 : List UInt8) (a0_4 a0_5 : LL) (Q : QQ) (h :
 (Br (decide (a0_0 = (1 : Int)))
 (Req ((0 : Int) ≤ (1 : Int))
 (Q (.imm (.bool (!decide (a0_1.fdiv ((2 : Int) ^ 1) = (0 : Int))))) []))
 (Br (decide (a0_0 = (2 : Int)))
 (Let (bif decide (a0_1 < (-2147483647 : Int)) then true else decide ((2147483647 : Int) < a0_1)) fun x0 =>
 Q (Ab x0) [])
 (Br (decide (a0_0 = (7 : Int)))
 (Let (bif decide (a0_1 < (1 : Int)) then true else decide ((8388607 : Int) < a0_1)) fun x1 =>
 Let (bif x1 then true else decide (a0_2 < (0 : Int))) fun x2 =>
 Let (bif x2 then true else decide ((65535 : Int) < a0_2)) fun x3 =>
 Q (Ab x3) [])
 (Q (Ab false) []))))) : Call E0.P fn_value_beyond [(.imm (.agg [(.int .i64 a0_0), (.int .i64 a0_1), (.int .i64 a0_2), (.str a0_3), (.sl .any 6 a0_4), (.sl .any 7 a0_5)]))] [] Q := fun_rule (envN E0 nt_value_beyond) (okE nt_value_beyond) 3 0 116 ac_value_beyond [.tmp 2] ok_value_beyond _ _ Q rfl rfl (kr (by kernel_rfl) h)
noncomputable def ac_r16_extra : AC := (annot [] [2] (codeOf Tryd.f126) 0).1
abbrev nt_r16_extra : Nat := 71
theorem ok_r16_extra : FnOK E0.P 126 ac_r16_extra.code nt_r16_extra [.tmp 2] := fn_ok _ _ Tryd.f126 [] [2] _ 71 Tryd.func126 (by kernel_rfl) (by kernel_rfl) (by kernel_rfl) (by kernel_rfl)
theorem F_r16_extra_of (a0_0 a0_1 a0_2 : Int) (a0_3 : List UInt8) (a0_4 a0_5 : LL) (Q : QQ) (h :
 (Let (bif !decide (a0_1 = (0 : Int)) then !decide (a0_0 = (1 : Int)) else false) fun x0 =>
 Let (bif x0 then !decide (a0_0 = (2 : Int)) else false) fun x1 =>
 Let (bif x1 then !decide (a0_0 = (7 : Int)) else false) fun x2 =>
 Br (x2 == false)
 (Let (bif !decide (a0_2 = (0 : Int)) then !decide (a0_0 = (7 : Int)) else false) fun x3 =>
 Let (x3) fun x4 =>
 Br (x4 == false)
 (Let (bif !a0_3 == [] then !decide (a0_0 = (3 : Int)) else false) fun x5 =>
 Let (bif x5 then !decide (a0_0 = (4 : Int)) else false) fun x6 =>
 Let (bif x6 then !decide (a0_0 = (8 : Int)) else false) fun x7 =>
 Let (x7) fun x8 =>
 Br (x8 == false)
 (Let (bif decide ((0 : Int) < (↑a0_4.length : Int)) then !decide (a0_0 = (5 : Int)) else false) fun x9 =>
 Let (x9) fun x10 =>
 Br (x10 == false)
 (Let (bif decide ((0 : Int) < (↑a0_5.length : Int)) then !decide (a0_0 = (6 : Int)) else false) fun x11 =>
 Let (bif x11 then !decide (a0_0 = (8 : Int)) else false) fun x12 =>
 Let (x12) fun x13 =>
 Q (Ab x13) [])
 (Req ((!false) = true)
 (Let (true) fun x14 =>
 Q (Ab x14) [])))
 (Req ((!false) = true)
 (Let (true) fun x15 =>
 Br (x15 == false)
 (Let (bif decide ((0 : Int) < (↑a0_5.length : Int)) then !decide (a0_0 = (6 : Int)) else false) fun x16 =>
 Let (bif x16 then !decide (a0_0 = (8 : Int)) else false) fun x17 =>
 Let (x17) fun x18 =>
 Q (Ab x18) [])
 (Req ((!false) = true)
 (Let (true) fun x19 =>
 Q (Ab x19) [])))))
 (Req ((!false) = true)
 (Let (true) fun x20 =>
 Br (x20 == false)
 (Let (bif decide ((0 : Int) < (↑a0_4.length : Int)) then !decide (a0_0 = (5 : Int)) else false) fun x21 =>
 Let (x21) fun x22 =>
 Br (x22 == false)
 (Let (bif decide ((0 : Int) < (↑a0_5.length : Int)) then !decide (a0_0 = (6 : Int)) else false) fun x23 =>
 Let (bif x23 then !decide (a0_0 = (8 : Int)) else false) fun x24 =>
 Let (x24) fun x25 =>
 Q (Ab x25) [])
 (Req ((!false) = true)
 (Let (true) fun x26 =>
 Q (Ab x26) [])))
 (Req ((!false) = true)
 (Let (true) fun x27 =>
 Br (x27 == false)
 (Let (bif decide ((0 : Int) < (↑a0_5.length : Int)) then !decide (a0_0 = (6 : Int)) else false) fun x28 =>
 Let (bif x28 then !decide (a0_0 = (8 : Int)) else false) fun x29 =>
 Let (x29) fun x30 =>
 Q (Ab x30) [])
 (Req ((!false) = true)
 (Let (true) fun x31 =>
 Q (Ab x31) [])))))))
 (Req ((!false) = true)
 (Let (true) fun x32 =>
 Br (x32 == false)
 (Let (bif !a0_3 == [] then !decide (a0_0 = (3 : Int)) else false) fun x33 =>
 Let (bif x33 then !decide (a0_0 = (4 : Int)) else false) fun x34 =>
 Let (bif x34 then !decide (a0_0 = (8 : Int)) else false) fun x35 =>
 Let (x35) fun x36 =>
 Br (x36 == false)
 (Let (bif decide ((0 : Int) < (↑a0_4.length : Int)) then !decide (a0_0 = (5 : Int)) else false) fun x37 =>
 Let (x37) fun x38 =>
 Br (x38 == false)
 (Let (bif decide ((0 : Int) < (↑a0_5.length : Int)) then !decide (a0_0 = (6 : Int)) else false) fun x39 =>
 Let (bif x39 then !decide (a0_0 = (8 : Int)) else false) fun x40 =>
 Let (x40) fun x41 =>
 Q (Ab x41) [])
 (Req ((!false) = true)
 (Let (true) fun x42 =>
 Q (Ab x42) [])))
 (Req ((!false) = true)
 (Let (true) fun x43 =>
 Br (x43 == false)
 (Let (bif decide ((0 : Int) < (↑a0_5.length : Int)) then !decide (a0_0 = (6 : Int)) else false) fun x44 =>
 Let (bif x44 then !decide (a0_0 = (8 : Int)) else false) fun x45 =>
 Let (x45) fun x46 =>
 Q (Ab x46) [])
 (Req ((!false) = true)
 (Let (true) fun x47 =>
 Q (Ab x47) [])))))
 (Req ((!false) = true)
 (Let (true) fun x48 =>
 Br (x48 == false)
 (Let (bif decide ((0 : Int) < (↑a0_4.length : Int)) then !decide (a0_0 = (5 : Int)) else false) fun x49 =>
 Let (x49) fun x50 =>
 Br (x50 == false)
 (Let (bif decide ((0 : Int) < (↑a0_5.length : Int)) then !decide (a0_0 = (6 : Int)) else false) fun x51 =>
 Let (bif x51 then !decide (a0_0 = (8 : Int)) else false) fun x52 =>
 Let (x52) fun x53 =>
 Q (Ab x53) [])
 (Req ((!false) = true)
 (Let (true) fun x54 =>
 Q (Ab x54) [])))
 (Req ((!false) = true)
 (Let (true) fun x55 =>
 Br (x55 == false)
 (Let (bif decide ((0 : Int) < (↑a0_5.length : Int)) then !decide (a0_0 = (6 : Int)) else false) fun x56 =>
 Let (bif x56 then !decide (a0_0 = (8 : Int)) else false) fun x57 =>
 Let (x57) fun x58 =>
 Q (Ab x58) [])
 (Req ((!false) = true)
 (Let (true) fun x59 =>
 Q (Ab x59) [])))))))))) : Call E0.P fn_r16_extra [(.imm (.agg [(.int .i64 a0_0), (.int .i64 a0_1), (.int .i64 a0_2), (.str a0_3), (.sl .any 6 a0_4), (.sl .any 7 a0_5)]))] [] Q := fun_rule (envN E0 nt_r16_extra) (okE nt_r16_extra) 3 0 126 ac_r16_extra [.tmp 2] ok_r16_extra _ _ Q rfl rfl (kr (by kernel_rfl) h)
noncomputable def ac_r16_zero : AC := (annot [(2, [0, 3], []), (4, [], []), (9, [], [])] [2] (codeOf Tryd.f127) 0).1
abbrev nt_r16_zero : Nat := 14
def L_r16_zero_2 (t0 : List UInt8) (t3 : Int) (K : KK) : Prop := LoopOK 2 E0.P nt_r16_zero (lbodyOf 2 ac_r16_zero).code ⟨[(0, (As t0)), (3, (Ai t3))], []⟩ K
def C_r16_zero_9 (K : KK) : Prop := CutOK 9 E0.P nt_r16_zero (cbodyOf 9 ac_r16_zero).code ⟨[], []⟩ K
def K_r16_zero_0 (Q : QQ) : KK := kE fun st => finish 0 E0.T [.tmp 2] [] Q st
def K_r16_zero_1 (Q : QQ) : KK := kF 0 (fun st => CutOK 9 E0.P nt_r16_zero (cbodyOf 9 ac_r16_zero).code (mask [] st) (K_r16_zero_0 Q)) fun st => finish 0 E0.T [.tmp 2] [] Q st
theorem L_r16_zero_2_of (t0 : List UInt8) (t3 : Int) (K : KK) (h :
 (Br (decide (t3 < (↑t0.length : Int)))
 (Req ((0 : Int) ≤ t3 ∧ t3 < (↑t0.length : Int))
 (Br (decide ((↑(t0.getD t3.toNat 0).toNat : Int) = (0 : Int)))
 (K .ret ⟨[(2, (Ab true))], []⟩)
 (L_r16_zero_2 t0 (IntKind.i64.wrap (t3 + (1 : Int))) K)))
 (K (.exit 0) ⟨[], []⟩))) : L_r16_zero_2 t0 t3 K := loop_rule (envN E0 nt_r16_zero) (okE nt_r16_zero) 3 2 (lbodyOf 2 ac_r16_zero) [0, 3] _ K rfl (kr (by kernel_rfl) h)
theorem C_r16_zero_9_of (K : KK) (h :
 (K .ret ⟨[(2, (Ab false))], []⟩)) : C_r16_zero_9  K := cut_rule (envN E0 nt_r16_zero) (okE nt_r16_zero) 3 9 (cbodyOf 9 ac_r16_zero) [] _ K rfl (kr (by kernel_rfl) h)
theorem K_r16_zero_0_x0 (Q : QQ) (t2 : Bool) (h :
 (Q (Ab t2) [])) : K_r16_zero_0 Q .ret ⟨[(2, (Ab t2))], []⟩ := kr (by kernel_rfl) h
theorem K_r16_zero_1_x0 (Q : QQ) (t2 : Bool) (h :
 (Q (Ab t2) [])) : K_r16_zero_1 Q .ret ⟨[(2, (Ab t2))], []⟩ := kr (by kernel_rfl) h
theorem K_r16_zero_1_x1 (Q : QQ) (h :
 (C_r16_zero_9  (K_r16_zero_0 Q))) : K_r16_zero_1 Q (.exit 0) ⟨[], []⟩ := kr (by kernel_rfl) h
theorem ok_r16_zero : FnOK E0.P 127 ac_r16_zero.code nt_r16_zero [.tmp 2] := fn_ok _ _ Tryd.f127 [(2, [0, 3], []), (4, [], []), (9, [], [])] [2] _ 14 Tryd.func127 (by kernel_rfl) (by kernel_rfl) (by kernel_rfl) (by kernel_rfl)
theorem F_r16_zero_of (a0 : List UInt8) (Q : QQ) (h :
 (L_r16_zero_2 a0 ((0 : Int)) (K_r16_zero_1 Q))) : Call E0.P fn_r16_zero [(As a0)] [] Q := fun_rule (envN E0 nt_r16_zero) (okE nt_r16_zero) 3 0 127 ac_r16_zero [.tmp 2] ok_r16_zero _ _ Q rfl rfl (kr (by kernel_rfl) h)
noncomputable def ac_r16_out : AC := (annot [] [2] (codeOf Tryd.f128) 0).1
abbrev nt_r16_out : Nat := 45
theorem ok_r16_out : FnOK E0.P 128 ac_r16_out.code nt_r16_out [.tmp 2] := fn_ok _ _ Tryd.f128 [] [2] _ 45 Tryd.func128 (by kernel_rfl) (by kernel_rfl) (by kernel_rfl) (by kernel_rfl)
theorem F_r16_out_of (a0_0 a0_1 a0_2 : Int) (a0_3 : List UInt8) (a0_4 a0_5 : LL) (Q : QQ) (h :
 (Br (decide (a0_0 = (1 : Int)))
 (Let (bif !decide (a0_1 = (0 : Int)) then !decide (a0_1 = (1 : Int)) else false) fun x0 =>
 Q (Ab x0) [])
 (Br (decide (a0_0 = (2 : Int)))
 (Let (bif decide (a0_1 < (-2147483647 : Int)) then true else decide ((2147483647 : Int) < a0_1)) fun x1 =>
 Q (Ab x1) [])
 (Br (decide (a0_0 = (7 : Int)))
 (Let (bif decide (a0_1 < (1 : Int)) then true else decide ((8388607 : Int) < a0_1)) fun x2 =>
 Let (bif x2 then true else decide (a0_2 < (0 : Int))) fun x3 =>
 Let (bif x3 then true else decide ((65535 : Int) < a0_2)) fun x4 =>
 Q (Ab x4) [])
 (Q (Ab false) []))))) : Call E0.P fn_r16_out [(.imm (.agg [(.int .i64 a0_0), (.int .i64 a0_1), (.int .i64 a0_2), (.str a0_3), (.sl .any 6 a0_4), (.sl .any 7 a0_5)]))] [] Q := fun_rule (envN E0 nt_r16_out) (okE nt_r16_out) 3 0 128 ac_r16_out [.tmp 2] ok_r16_out _ _ Q rfl rfl (kr (by kernel_rfl) h)
noncomputable def ac_r16_holder : AC := (annot [] [2] (codeOf Tryd.f129) 0).1
abbrev nt_r16_holder : Nat := 13
theorem ok_r16_holder : FnOK E0.P 129 ac_r16_holder.code nt_r16_holder [.tmp 2] := fn_ok _ _ Tryd.f129 [] [2] _ 13 Tryd.func129 (by kernel_rfl) (by kernel_rfl) (by kernel_rfl) (by kernel_rfl)
theorem F_r16_holder_of (a0 : Int) (Q : QQ) (h :
 (Let (bif decide (a0 = (5 : Int)) then true else decide (a0 = (6 : Int))) fun x0 =>
 Let (bif x0 then true else decide (a0 = (8 : Int))) fun x1 =>
 Q (Ab x1) [])) : Call E0.P fn_r16_holder [(Ai a0)] [] Q := fun_rule (envN E0 nt_r16_holder) (okE nt_r16_holder) 3 0 129 ac_r16_holder [.tmp 2] ok_r16_holder _ _ Q rfl rfl (kr (by kernel_rfl) h)
end
end Go.Proofs.Sim.Se

import Derived.Test.YtcdjheflchglaaaDoorSeatBase
set_option linter.unusedVariables false
set_option maxRecDepth 100000
namespace Go.Proofs.Sim.Se
open Go Go.Proofs Go.Proofs.Sim
noncomputable section
noncomputable def ac_section_Print : AC := (annot [(12, [0, 5, 6, 22, 23, 24], []), (14, [5], []), (19, [0, 5, 6, 7, 8, 9, 22, 23, 24], []), (21, [0, 5, 6, 8, 9, 22, 23, 24], []), (23, [0, 5, 6, 8, 9, 22, 23, 24], [0, 5, 6, 8, 22, 23, 24]), (24, [0, 5, 6, 8, 22, 23, 24], [0, 5, 6, 22, 23, 24]), (25, [0, 5, 6, 22, 23, 24], [0, 5, 6, 22, 23, 24]), (26, [5], [])] [2, 3] (codeOf Tryd.f8) 0).1
abbrev nt_section_Print : Nat := 67
def L_section_Print_12 (t0r t22r : LL) (t23 t24 h211_1 : Int) (h51r : LL) (K : KK) : Prop := LoopOK 12 E0.P nt_section_Print (lbodyOf 12 ac_section_Print).code ⟨[(0, (Al 4 t0r)), (5, (.ptr (Nm.loc 5) 0)), (6, (.fn fn_section_parts_1 [(.ptr (Nm.sub 21 (Nm.loc 1)) 0)])), (22, (Al 4 t22r)), (23, (Ai t23)), (24, (Ai t24))], [((Nm.loc 5), (.blk ty_strings_Builder [(.ptr (Nm.loc 5) 0), (.own ((Nm.loc 5).cell 1))])), ((Nm.sub 21 (Nm.loc 1)), (.blk ty_int [(Ai h211_1)])), (((Nm.loc 5).cell 1), (.arr (ty_uint8 + 2) true 1 h51r))]⟩ K
def L_section_Print_19 (t0r : LL) (t7 t9 : Int) (t22r : LL) (t23 t24 : Int) (h211_1 h8_1_0 : Int) (h8_1_1 h8_1_2 h8_1_3 : Int) (h51r : LL) (K : KK) : Prop := LoopOK 19 E0.P nt_section_Print (lbodyOf 19 ac_section_Print).code ⟨[(0, (Al 4 t0r)), (5, (.ptr (Nm.loc 5) 0)), (6, (.fn fn_section_parts_1 [(.ptr (Nm.sub 21 (Nm.loc 1)) 0)])), (7, (Ai t7)), (8, (.ptr (Nm.loc 8) 0)), (9, (Ai t9)), (22, (Al 4 t22r)), (23, (Ai t23)), (24, (Ai t24))], [((Nm.loc 5), (.blk ty_strings_Builder [(.ptr (Nm.loc 5) 0), (.own ((Nm.loc 5).cell 1))])), ((Nm.sub 21 (Nm.loc 1)), (.blk ty_int [(Ai h211_1)])), ((Nm.loc 8), (.blk ty_api_Row [(Ai h8_1_0), (Ai h8_1_1), (Ai h8_1_2), (Ai h8_1_3)])), (((Nm.loc 5).cell 1), (.arr (ty_uint8 + 2) true 1 h51r))]⟩ K
def C_section_Print_24 (t0r t22r : LL) (t23 t24 : Int) (h211_1 h8_1_0 : Int) (h8_1_1 h8_1_2 h8_1_3 : Int) (h51r : LL) (K : KK) : Prop := CutOK 24 E0.P nt_section_Print (cbodyOf 24 ac_section_Print).code ⟨[(0, (Al 4 t0r)), (5, (.ptr (Nm.loc 5) 0)), (6, (.fn fn_section_parts_1 [(.ptr (Nm.sub 21 (Nm.loc 1)) 0)])), (8, (.ptr (Nm.loc 8) 0)), (22, (Al 4 t22r)), (23, (Ai t23)), (24, (Ai t24))], [((Nm.loc 5), (.blk ty_strings_Builder [(.ptr (Nm.loc 5) 0), (.own ((Nm.loc 5).cell 1))])), ((Nm.sub 21 (Nm.loc 1)), (.blk ty_int [(Ai h211_1)])), ((Nm.loc 8), (.blk ty_api_Row [(Ai h8_1_0), (Ai h8_1_1), (Ai h8_1_2), (Ai h8_1_3)])), (((Nm.loc 5).cell 1), (.arr (ty_uint8 + 2) true 1 h51r))]⟩ K
def C_section_Print_26 (h51r : LL) (K : KK) : Prop := CutOK 26 E0.P nt_section_Print (cbodyOf 26 ac_section_Print).code ⟨[(5, (.ptr (Nm.loc 5) 0))], [((Nm.loc 5), (.blk ty_strings_Builder [(.ptr (Nm.loc 5) 0), (.own ((Nm.loc 5).cell 1))])), (((Nm.loc 5).cell 1), (.arr (ty_uint8 + 2) true 1 h51r))]⟩ K
def C_section_Print_25 (t0r t22r : LL) (t23 t24 h211_1 : Int) (h51r : LL) (K : KK) : Prop := CutOK 25 E0.P nt_section_Print (cbodyOf 25 ac_section_Print).code ⟨[(0, (Al 4 t0r)), (5, (.ptr (Nm.loc 5) 0)), (6, (.fn fn_section_parts_1 [(.ptr (Nm.sub 21 (Nm.loc 1)) 0)])), (22, (Al 4 t22r)), (23, (Ai t23)), (24, (Ai t24))], [((Nm.loc 5), (.blk ty_strings_Builder [(.ptr (Nm.loc 5) 0), (.own ((Nm.loc 5).cell 1))])), ((Nm.sub 21 (Nm.loc 1)), (.blk ty_int [(Ai h211_1)])), (((Nm.loc 5).cell 1), (.arr (ty_uint8 + 2) true 1 h51r))]⟩ K
def C_section_Print_23 (t0r : LL) (t9 : Int) (t22r : LL) (t23 t24 : Int) (h211_1 h8_1_0 : Int) (h8_1_1 h8_1_2 h8_1_3 : Int) (h51r : LL) (K : KK) : Prop := CutOK 23 E0.P nt_section_Print (cbodyOf 23 ac_section_Print).code ⟨[(0, (Al 4 t0r)), (5, (.ptr (Nm.loc 5) 0)), (6, (.fn fn_section_parts_1 [(.ptr (Nm.sub 21 (Nm.loc 1)) 0)])), (8, (.ptr (Nm.loc 8) 0)), (9, (Ai t9)), (22, (Al 4 t22r)), (23, (Ai t23)), (24, (Ai t24))], [((Nm.loc 5), (.blk ty_strings_Builder [(.ptr (Nm.loc 5) 0), (.own ((Nm.loc 5).cell 1))])), ((Nm.sub 21 (Nm.loc 1)), (.blk ty_int [(Ai h211_1)])), ((Nm.loc 8), (.blk ty_api_Row [(Ai h8_1_0), (Ai h8_1_1), (Ai h8_1_2), (Ai h8_1_3)])), (((Nm.loc 5).cell 1), (.arr (ty_uint8 + 2) true 1 h51r))]⟩ K
def K_section_Print_0 (Q : QQ) : KK := kE fun st => finish 0 E0.T [.tmp 2, .tmp 3] [] Q st
def K_section_Print_1 (Q : QQ) : KK := kF 0 (fun st => CutOK 26 E0.P nt_section_Print (cbodyOf 26 ac_section_Print).code (mask [5] st) (K_section_Print_0 Q)) fun st => finish 0 E0.T [.tmp 2, .tmp 3] [] Q st
def K_section_Print_2 (K : KK) : Ex → St → Prop
 | .normal, st => LoopOK 12 E0.P nt_section_Print (lbodyOf 12 ac_section_Print).code (mask [0, 5, 6, 22, 23, 24] st) K
 | .exit i, st => K (.exit i) st
 | .goto i, st => K (.goto i) st
 | .ret, st => K .ret st
def K_section_Print_3 (K : KK) : KK := kC 1 (fun st => CutOK 25 E0.P nt_section_Print (cbodyOf 25 ac_section_Print).code (mask [0, 5, 6, 22, 23, 24] st) (K_section_Print_2 K)) K
def K_section_Print_4 (K : KK) : Ex → St → Prop
 | .normal, st => CutOK 24 E0.P nt_section_Print (cbodyOf 24 ac_section_Print).code (mask [0, 5, 6, 8, 22, 23, 24] st) (K_section_Print_3 K)
 | .exit i, st => (match (i.beq 1 : Bool) with
 | true => CutOK 25 E0.P nt_section_Print (cbodyOf 25 ac_section_Print).code (mask [0, 5, 6, 22, 23, 24] st) (K_section_Print_2 K)
 | false => K (.exit i) st)
 | .goto i, st => K (.goto i) st
 | .ret, st => K .ret st
def K_section_Print_5 (K : KK) : Ex → St → Prop
 | .normal, st => CutOK 23 E0.P nt_section_Print (cbodyOf 23 ac_section_Print).code (mask [0, 5, 6, 8, 9, 22, 23, 24] st) (K_section_Print_4 K)
 | .exit i, st => (match (i.beq 2 : Bool) with
 | true => CutOK 23 E0.P nt_section_Print (cbodyOf 23 ac_section_Print).code (mask [0, 5, 6, 8, 9, 22, 23, 24] st) (K_section_Print_4 K)
 | false => (match (i.beq 1 : Bool) with
 | true => CutOK 25 E0.P nt_section_Print (cbodyOf 25 ac_section_Print).code (mask [0, 5, 6, 22, 23, 24] st) (K_section_Print_2 K)
 | false => K (.exit i) st))
 | .goto i, st => K (.goto i) st
 | .ret, st => K .ret st
theorem L_section_Print_12_of (t0r t22r : LL) (t23 t24 h211_1 : Int) (h51r : LL) (K : KK) (h :
 (Br (decide (t24 < t23))
 (Req (((0 : Int) ≤ t24 ∧ t24 < (↑t22r.length : Int)) ∧
 shOK [.int .i64, .int .i64, .int .i64, .int .i64] (t22r.getD t24.toNat []) = true)
 (Br (!decide (gI (t22r.getD t24.toNat []) 0 = h211_1))
 (L_section_Print_19 t0r t24 ((1 : Int)) t22r t23 t24 (IntKind.i64.wrap (gI (t22r.getD t24.toNat []) 0 + (1 : Int))) (gI (t22r.getD t24.toNat []) 0) (gI (t22r.getD t24.toNat []) 1) (gI (t22r.getD t24.toNat []) 2) (gI (t22r.getD t24.toNat []) 3) h51r (K_section_Print_5 K))
 (C_section_Print_24 t0r t22r t23 t24 (IntKind.i64.wrap (gI (t22r.getD t24.toNat []) 0 + (1 : Int))) (gI (t22r.getD t24.toNat []) 0) (gI (t22r.getD t24.toNat []) 1) (gI (t22r.getD t24.toNat []) 2) (gI (t22r.getD t24.toNat []) 3) h51r (K_section_Print_3 K))))
 (K (.exit 0) ⟨[(5, (.ptr (Nm.loc 5) 0))], [((Nm.loc 5), (.blk ty_strings_Builder [(.ptr (Nm.loc 5) 0), (.own ((Nm.loc 5).cell 1))])), (((Nm.loc 5).cell 1), (.arr (ty_uint8 + 2) true 1 h51r))]⟩))) : L_section_Print_12 t0r t22r t23 t24 h211_1 h51r K := loop_rule (envN E0 nt_section_Print) (okE nt_section_Print) 3 12 (lbodyOf 12 ac_section_Print) [0, 5, 6, 22, 23, 24] _ K rfl (kr (by kernel_rfl) h)
theorem L_section_Print_19_of (t0r : LL) (t7 t9 : Int) (t22r : LL) (t23 t24 : Int) (h211_1 h8_1_0 : Int) (h8_1_1 h8_1_2 h8_1_3 : Int) (h51r : LL) (K : KK) (h :
 (Req (decide (IntKind.i64.wrap (t7 + t9) < (↑t0r.length : Int)) = true →
 ((0 : Int) ≤ IntKind.i64.wrap (t7 + t9) ∧ IntKind.i64.wrap (t7 + t9) < (↑t0r.length : Int)) ∧
 shOK [.int .i64, .int .i64, .int .i64, .int .i64]
 (t0r.getD (IntKind.i64.wrap (t7 + t9)).toNat []) =
 true)
 (Let (bif decide (IntKind.i64.wrap (t7 + t9) < (↑t0r.length : Int)) then
 decide (gI (t0r.getD (IntKind.i64.wrap (t7 + t9)).toNat []) 0 = IntKind.i64.wrap (h8_1_0 + t9))
 else false) fun x0 =>
 Br (x0)
 (L_section_Print_19 t0r t7 (IntKind.i64.wrap (t9 + (1 : Int))) t22r t23 t24 h211_1 h8_1_0 h8_1_1 h8_1_2 h8_1_3 h51r K)
 (K (.exit (2)) ⟨[(0, (Al 4 t0r)), (5, (.ptr (Nm.loc 5) 0)), (6, (.fn fn_section_parts_1 [(.ptr (Nm.sub 21 (Nm.loc 1)) 0)])), (8, (.ptr (Nm.loc 8) 0)), (9, (Ai t9)), (22, (Al 4 t22r)), (23, (Ai t23)), (24, (Ai t24))], [((Nm.loc 5), (.blk ty_strings_Builder [(.ptr (Nm.loc 5) 0), (.own ((Nm.loc 5).cell 1))])), ((Nm.sub 21 (Nm.loc 1)), (.blk ty_int [(Ai h211_1)])), ((Nm.loc 8), (.blk ty_api_Row [(Ai h8_1_0), (Ai h8_1_1), (Ai h8_1_2), (Ai h8_1_3)])), (((Nm.loc 5).cell 1), (.arr (ty_uint8 + 2) true 1 h51r))]⟩)))) : L_section_Print_19 t0r t7 t9 t22r t23 t24 h211_1 h8_1_0 h8_1_1 h8_1_2 h8_1_3 h51r K := loop_rule (envN E0 nt_section_Print) (okE nt_section_Print) 3 19 (lbodyOf 19 ac_section_Print) [0, 5, 6, 7, 8, 9, 22, 23, 24] _ K rfl (kr (by kernel_rfl) h)
theorem C_section_Print_24_of (t0r t22r : LL) (t23 t24 : Int) (h211_1 h8_1_0 : Int) (h8_1_1 h8_1_2 h8_1_3 : Int) (h51r : LL) (K : KK) (h :
 (Call E0.P fn_section_line [(.imm (.agg [(.int .i64 h8_1_1), (.int .i64 h8_1_2), (.int .i64 h8_1_3)]))] [] fun r0 g0 =>
 Req (g0 = [] ∧ r0 = .imm (.str (rS r0)))
 (Req ((h51r.length + (byteRows (rS r0)).length) * 1 ≤ 140737488355328 ∧
 h51r.length + (byteRows (rS r0)).length ≤ 140737488355328)
 (K .normal ⟨[(0, (Al 4 t0r)), (5, (.ptr (Nm.loc 5) 0)), (6, (.fn fn_section_parts_1 [(.ptr (Nm.sub 21 (Nm.loc 1)) 0)])), (22, (Al 4 t22r)), (23, (Ai t23)), (24, (Ai t24))], [((Nm.loc 5), (.blk ty_strings_Builder [(.ptr (Nm.loc 5) 0), (.own ((Nm.loc 5).cell 1))])), ((Nm.sub 21 (Nm.loc 1)), (.blk ty_int [(Ai h211_1)])), (((Nm.loc 5).cell 1), (.arr (ty_uint8 + 2) true 1 (h51r ++ byteRows (rS r0))))]⟩)))) : C_section_Print_24 t0r t22r t23 t24 h211_1 h8_1_0 h8_1_1 h8_1_2 h8_1_3 h51r K := cut_rule (envN E0 nt_section_Print) (okE nt_section_Print) 3 24 (cbodyOf 24 ac_section_Print) [0, 5, 6, 22, 23, 24] _ K rfl (kr (by kernel_rfl) h)
theorem C_section_Print_26_of (h51r : LL) (K : KK) (h :
 (Req (((↑h51r.length : Int) = (↑h51r.length : Int) ∧ h51r.length ≤ 9223372036854775807) ∧
 ∀ (r : List IV), r ∈ h51r → shOK [.int .u8] r = true)
 (K .ret ⟨[(2, (As (List.map (fun r => UInt8.ofNat (gI r 0).toNat) h51r))), (3, (Ai 0))], []⟩))) : C_section_Print_26 h51r K := cut_rule (envN E0 nt_section_Print) (okE nt_section_Print) 3 26 (cbodyOf 26 ac_section_Print) [] _ K rfl (kr (by kernel_rfl) h)
theorem C_section_Print_25_of (t0r t22r : LL) (t23 t24 h211_1 : Int) (h51r : LL) (K : KK) (h :
 (K .normal ⟨[(0, (Al 4 t0r)), (5, (.ptr (Nm.loc 5) 0)), (6, (.fn fn_section_parts_1 [(.ptr (Nm.sub 21 (Nm.loc 1)) 0)])), (22, (Al 4 t22r)), (23, (Ai t23)), (24, (Ai (IntKind.i64.wrap (t24 + (1 : Int)))))], [((Nm.loc 5), (.blk ty_strings_Builder [(.ptr (Nm.loc 5) 0), (.own ((Nm.loc 5).cell 1))])), ((Nm.sub 21 (Nm.loc 1)), (.blk ty_int [(Ai h211_1)])), (((Nm.loc 5).cell 1), (.arr (ty_uint8 + 2) true 1 h51r))]⟩)) : C_section_Print_25 t0r t22r t23 t24 h211_1 h51r K := cut_rule (envN E0 nt_section_Print) (okE nt_section_Print) 3 25 (cbodyOf 25 ac_section_Print) [0, 5, 6, 22, 23, 24] _ K rfl (kr (by kernel_rfl) h)
theorem C_section_Print_23_of (t0r : LL) (t9 : Int) (t22r : LL) (t23 t24 : Int) (h211_1 h8_1_0 : Int) (h8_1_1 h8_1_2 h8_1_3 : Int) (h51r : LL) (K : KK) (h :
 (Call E0.P fn_section_head [(Ai h8_1_0), (Ai t9)] [] fun r0 g0 =>
 Req (g0 = [] ∧ r0 = .imm (.str (rS r0)))
 (Req ((h51r.length + (byteRows (rS r0)).length) * 1 ≤ 140737488355328 ∧
 h51r.length + (byteRows (rS r0)).length ≤ 140737488355328)
 (K .normal ⟨[(0, (Al 4 t0r)), (5, (.ptr (Nm.loc 5) 0)), (6, (.fn fn_section_parts_1 [(.ptr (Nm.sub 21 (Nm.loc 1)) 0)])), (8, (.ptr (Nm.loc 8) 0)), (22, (Al 4 t22r)), (23, (Ai t23)), (24, (Ai t24))], [((Nm.loc 5), (.blk ty_strings_Builder [(.ptr (Nm.loc 5) 0), (.own ((Nm.loc 5).cell 1))])), ((Nm.sub 21 (Nm.loc 1)), (.blk ty_int [(Ai h211_1)])), ((Nm.loc 8), (.blk ty_api_Row [(Ai h8_1_0), (Ai h8_1_1), (Ai h8_1_2), (Ai h8_1_3)])), (((Nm.loc 5).cell 1), (.arr (ty_uint8 + 2) true 1 (h51r ++ byteRows (rS r0))))]⟩)))) : C_section_Print_23 t0r t9 t22r t23 t24 h211_1 h8_1_0 h8_1_1 h8_1_2 h8_1_3 h51r K := cut_rule (envN E0 nt_section_Print) (okE nt_section_Print) 3 23 (cbodyOf 23 ac_section_Print) [0, 5, 6, 8, 22, 23, 24] _ K rfl (kr (by kernel_rfl) h)
theorem K_section_Print_0_x0 (Q : QQ) (t2 : List UInt8) (t3 : Int) (h :
 (Q (.tup [(As t2), (Ai t3)]) [])) : K_section_Print_0 Q .ret ⟨[(2, (As t2)), (3, (Ai t3))], []⟩ := kr (by kernel_rfl) h
theorem K_section_Print_1_x0 (Q : QQ) (h51r : LL) (h :
 (C_section_Print_26 h51r (K_section_Print_0 Q))) : K_section_Print_1 Q (.exit 0) ⟨[(5, (.ptr (Nm.loc 5) 0))], [((Nm.loc 5), (.blk ty_strings_Builder [(.ptr (Nm.loc 5) 0), (.own ((Nm.loc 5).cell 1))])), (((Nm.loc 5).cell 1), (.arr (ty_uint8 + 2) true 1 h51r))]⟩ := kr (by kernel_rfl) h
theorem K_section_Print_2_x0 (K : KK) (t0r t22r : LL) (t23 t24 h211_1 : Int) (h51r : LL) (h :
 (L_section_Print_12 t0r t22r t23 t24 h211_1 h51r K)) : K_section_Print_2 K .normal ⟨[(0, (Al 4 t0r)), (5, (.ptr (Nm.loc 5) 0)), (6, (.fn fn_section_parts_1 [(.ptr (Nm.sub 21 (Nm.loc 1)) 0)])), (22, (Al 4 t22r)), (23, (Ai t23)), (24, (Ai t24))], [((Nm.loc 5), (.blk ty_strings_Builder [(.ptr (Nm.loc 5) 0), (.own ((Nm.loc 5).cell 1))])), ((Nm.sub 21 (Nm.loc 1)), (.blk ty_int [(Ai h211_1)])), (((Nm.loc 5).cell 1), (.arr (ty_uint8 + 2) true 1 h51r))]⟩ := kr (by kernel_rfl) h
theorem K_section_Print_3_x0 (K : KK) (t0r t22r : LL) (t23 t24 h211_1 : Int) (h51r : LL) (h :
 (C_section_Print_25 t0r t22r t23 t24 h211_1 h51r (K_section_Print_2 K))) : K_section_Print_3 K .normal ⟨[(0, (Al 4 t0r)), (5, (.ptr (Nm.loc 5) 0)), (6, (.fn fn_section_parts_1 [(.ptr (Nm.sub 21 (Nm.loc 1)) 0)])), (22, (Al 4 t22r)), (23, (Ai t23)), (24, (Ai t24))], [((Nm.loc 5), (.blk ty_strings_Builder [(.ptr (Nm.loc 5) 0), (.own ((Nm.loc 5).cell 1))])), ((Nm.sub 21 (Nm.loc 1)), (.blk ty_int [(Ai h211_1)])), (((Nm.loc 5).cell 1), (.arr (ty_uint8 + 2) true 1 h51r))]⟩ := kr (by kernel_rfl) h
theorem K_section_Print_4_x0 (K : KK) (t0r t22r : LL) (t23 t24 : Int) (h211_1 h8_1_0 : Int) (h8_1_1 h8_1_2 h8_1_3 : Int) (h51r : LL) (h :
 (C_section_Print_24 t0r t22r t23 t24 h211_1 h8_1_0 h8_1_1 h8_1_2 h8_1_3 h51r (K_section_Print_3 K))) : K_section_Print_4 K .normal ⟨[(0, (Al 4 t0r)), (5, (.ptr (Nm.loc 5) 0)), (6, (.fn fn_section_parts_1 [(.ptr (Nm.sub 21 (Nm.loc 1)) 0)])), (8, (.ptr (Nm.loc 8) 0)), (22, (Al 4 t22r)), (23, (Ai t23)), (24, (Ai t24))], [((Nm.loc 5), (.blk ty_strings_Builder [(.ptr (Nm.loc 5) 0), (.own ((Nm.loc 5).cell 1))])), ((Nm.sub 21 (Nm.loc 1)), (.blk ty_int [(Ai h211_1)])), ((Nm.loc 8), (.blk ty_api_Row [(Ai h8_1_0), (Ai h8_1_1), (Ai h8_1_2), (Ai h8_1_3)])), (((Nm.loc 5).cell 1), (.arr (ty_uint8 + 2) true 1 h51r))]⟩ := kr (by kernel_rfl) h
theorem K_section_Print_5_x0 (K : KK) (t0r : LL) (t9 : Int) (t22r : LL) (t23 t24 : Int) (h211_1 h8_1_0 : Int) (h8_1_1 h8_1_2 h8_1_3 : Int) (h51r : LL) (h :
 (C_section_Print_23 t0r t9 t22r t23 t24 h211_1 h8_1_0 h8_1_1 h8_1_2 h8_1_3 h51r (K_section_Print_4 K))) : K_section_Print_5 K (.exit (2)) ⟨[(0, (Al 4 t0r)), (5, (.ptr (Nm.loc 5) 0)), (6, (.fn fn_section_parts_1 [(.ptr (Nm.sub 21 (Nm.loc 1)) 0)])), (8, (.ptr (Nm.loc 8) 0)), (9, (Ai t9)), (22, (Al 4 t22r)), (23, (Ai t23)), (24, (Ai t24))], [((Nm.loc 5), (.blk ty_strings_Builder [(.ptr (Nm.loc 5) 0), (.own ((Nm.loc 5).cell 1))])), ((Nm.sub 21 (Nm.loc 1)), (.blk ty_int [(Ai h211_1)])), ((Nm.loc 8), (.blk ty_api_Row [(Ai h8_1_0), (Ai h8_1_1), (Ai h8_1_2), (Ai h8_1_3)])), (((Nm.loc 5).cell 1), (.arr (ty_uint8 + 2) true 1 h51r))]⟩ := kr (by kernel_rfl) h
theorem ok_section_Print : FnOK E0.P 8 ac_section_Print.code nt_section_Print [.tmp 2, .tmp 3] := fn_ok _ _ Tryd.f8 [(12, [0, 5, 6, 22, 23, 24], []), (14, [5], []), (19, [0, 5, 6, 7, 8, 9, 22, 23, 24], []), (21, [0, 5, 6, 8, 9, 22, 23, 24], []), (23, [0, 5, 6, 8, 9, 22, 23, 24], [0, 5, 6, 8, 22, 23, 24]), (24, [0, 5, 6, 8, 22, 23, 24], [0, 5, 6, 22, 23, 24]), (25, [0, 5, 6, 22, 23, 24], [0, 5, 6, 22, 23, 24]), (26, [5], [])] [2, 3] _ 67 Tryd.func8 (by kernel_rfl) (by kernel_rfl) (by kernel_rfl) (by kernel_rfl)
theorem F_section_Print_of (a0 : LL) (Q : QQ) (h :
 (Call E0.P fn_section_Check [(Al 4 a0)] [] fun r0 g0 =>
 Req (g0 = [] ∧ r0 = .imm (.int .i64 (rI r0)))
 (Br (!decide (rI r0 = (0 : Int)))
 (Q (.tup [(.imm (.str [])), (Ai (rI r0))]) [])
 (Br (decide ((↑a0.length : Int) = (0 : Int)))
 (Call E0.P fn_section_head [(Ai 0), (Ai 0)] [] fun r1 g1 =>
 Req (g1 = [] ∧ r1 = .imm (.str (rS r1)))
 (Req ((↑((5 : Nat) + (rS r1).length) : Int) ≤ (9223372036854775807 : Int))
 (Q (.tup [(As ([120, 114, 101, 102, 10] ++ rS r1)), (Ai 0)]) [])))
 (Req (5 ≤ 140737488355328 ∧ 5 ≤ 140737488355328)
 (L_section_Print_12 a0 a0 ((↑a0.length : Int)) ((0 : Int)) ((-1 : Int)) ([] ++
 [[.int .u8 (↑(120 : Nat) : Int)], [.int .u8 (↑(114 : Nat) : Int)],
 [.int .u8 (↑(101 : Nat) : Int)], [.int .u8 (↑(102 : Nat) : Int)],
 [.int .u8 (↑(10 : Nat) : Int)]]) (K_section_Print_1 Q))))))) : Call E0.P fn_section_Print [(Al 4 a0)] [] Q := fun_rule (envN E0 nt_section_Print) (okE nt_section_Print) 3 0 8 ac_section_Print [.tmp 2, .tmp 3] ok_section_Print _ _ Q rfl rfl (kr (by kernel_rfl) h)
noncomputable def ac_section_Read : AC := (annot [(1, [8, 9], []), (18, [8, 9], [])] [4, 5, 6] (codeOf Tryd.f11) 0).1
abbrev nt_section_Read : Nat := 58
def S_section_Read_1 (h32_1_0 : List UInt8) (h32_1_1 : Int) (h9r : LL) (K : KK) : Prop := ScopeOK 1 E0.P nt_section_Read 0 (sbodyOf 1 ac_section_Read).code ⟨[(8, (.ptr (Nm.loc 32) 0)), (9, (.own (Nm.loc 9)))], [((Nm.loc 32), (.blk ty_section_reader [(As h32_1_0), (Ai h32_1_1)])), ((Nm.loc 9), (.arr (ty_api_Row + 2) true 4 h9r))]⟩ K
def K_section_Read_0 (Q : QQ) : KK := kE fun st => finish 0 E0.T [.tmp 4, .tmp 5, .tmp 6] [] Q st
theorem S_section_Read_1_of (h32_1_0 : List UInt8) (h32_1_1 : Int) (h9r : LL) (K : KK) (h :
 (Call E0.P fn_section_reader_part [(.ptr (Nm.arg 0) 0)] [((Nm.arg 0), (.blk ty_section_reader [(As h32_1_0), (Ai h32_1_1)]))] fun r0 g0 =>
 Req (g0 =
 [(Nm.arg 0,
 Entry.blk 81
 [.imm (.str (rS ((blkOf g0 (Nm.arg 0)).getD 0 AV.undef))),
 .imm (.int .i64 (rI ((blkOf g0 (Nm.arg 0)).getD 1 AV.undef)))])] ∧
 r0 =
 .tup [.imm (.sl SK.any 4 (rR (rT r0 0))), .imm (.int .i64 (rI (rT r0 1)))])
 (Br (!decide (rI (rT r0 1) = (0 : Int)))
 (K .ret ⟨[(4, (.own (Nm.loc 4))), (5, (Ai 0)), (6, (Ai (rI (rT r0 1))))], [((Nm.loc 4), (.arr (ty_api_Row + 2) true 4 []))]⟩)
 (Req ((h9r.length + (rR (rT r0 0)).length) * 32 ≤ 140737488355328 ∧
 h9r.length + (rR (rT r0 0)).length ≤ 140737488355328)
 (Req ((0 : Int) ≤ rI ((blkOf g0 (Nm.arg 0)).getD 1 AV.undef) ∧
 rI ((blkOf g0 (Nm.arg 0)).getD 1 AV.undef) ≤
 (↑(rS ((blkOf g0 (Nm.arg (0 : Nat))).getD (0 : Nat) AV.undef)).length : Int))
 (Let (List.drop (rI ((blkOf g0 (Nm.arg 0)).getD 1 AV.undef)).toNat
 (rS ((blkOf g0 (Nm.arg 0)).getD 0 AV.undef))) fun x1 =>
 Call E0.P fn_digits_Count [(As x1)] [] fun r2 g2 =>
 Req (g2 = [] ∧ r2 = .imm (.int .i64 (rI r2)))
 (Br (decide ((0 : Int) < rI r2))
 (S_section_Read_1 (rS ((blkOf g0 (Nm.arg 0)).getD 0 AV.undef)) (rI ((blkOf g0 (Nm.arg 0)).getD 1 AV.undef)) (h9r ++ rR (rT r0 0)) K)
 (Call E0.P fn_section_Check [(Al 4 (h9r ++ rR (rT r0 0)))] [] fun r3 g3 =>
 Req (g3 = [] ∧ r3 = .imm (.int .i64 (rI r3)))
 (Br (!decide (rI r3 = (0 : Int)))
 (K .ret ⟨[(4, (.own (Nm.loc 4))), (5, (Ai 0)), (6, (Ai (rI r3)))], [((Nm.loc 4), (.arr (ty_api_Row + 2) true 4 []))]⟩)
 (K .ret ⟨[(4, (.own (Nm.loc 9))), (5, (.imm (.int .i64 (rI ((blkOf g0 (Nm.arg 0)).getD 1 AV.undef))))), (6, (Ai 0))], [((Nm.loc 9), (.arr (ty_api_Row + 2) false 4 (h9r ++ rR (rT r0 0))))]⟩)))))))))) : S_section_Read_1 h32_1_0 h32_1_1 h9r K := scope_rule (envN E0 nt_section_Read) (okE nt_section_Read) 3 1 0 (sbodyOf 1 ac_section_Read) (safterOf 1 0 ac_section_Read) [8, 9] _ K (by kernel_rfl) rfl (kr (by kernel_rfl) h)
theorem K_section_Read_0_x0 (Q : QQ) (t5 t6 : Int) (h4r : LL) (h :
 (Q (.tup [(Al 4 h4r), (Ai t5), (Ai t6)]) [])) : K_section_Read_0 Q .ret ⟨[(4, (.own (Nm.loc 4))), (5, (Ai t5)), (6, (Ai t6))], [((Nm.loc 4), (.arr (ty_api_Row + 2) true 4 h4r))]⟩ := kr (by kernel_rfl) h
theorem K_section_Read_0_x1 (Q : QQ) (t5 t6 : Int) (h9r : LL) (h :
 (Q (.tup [(Al 4 h9r), (Ai t5), (Ai t6)]) [])) : K_section_Read_0 Q .ret ⟨[(4, (.own (Nm.loc 9))), (5, (Ai t5)), (6, (Ai t6))], [((Nm.loc 9), (.arr (ty_api_Row + 2) false 4 h9r))]⟩ := kr (by kernel_rfl) h
theorem ok_section_Read : FnOK E0.P 11 ac_section_Read.code nt_section_Read [.tmp 4, .tmp 5, .tmp 6] := fn_ok _ _ Tryd.f11 [(1, [8, 9], []), (18, [8, 9], [])] [4, 5, 6] _ 58 Tryd.func11 (by kernel_rfl) (by kernel_rfl) (by kernel_rfl) (by kernel_rfl)
theorem F_section_Read_of (a0 : List UInt8) (a1 : Int) (Q : QQ) (h :
 (Let (bif decide (a1 < (0 : Int)) then true else decide ((↑a0.length : Int) < a1)) fun x0 =>
 Br (x0)
 (Q (.tup [(.imm (.sl .any 4 [])), (Ai 0), (Ai 2)]) [])
 (Req ((0 : Int) ≤ a1 ∧ a1 ≤ (↑a0.length : Int))
 (Let (List.drop a1.toNat a0) fun x1 =>
 Call E0.P fn_section_begins [(As x1)] [] fun r2 g2 =>
 Req (g2 = [] ∧ r2 = .imm (.int .i64 (rI r2)))
 (Br (!decide (rI r2 = (0 : Int)))
 (Q (.tup [(.imm (.sl .any 4 [])), (Ai 0), (Ai (rI r2))]) [])
 (Call E0.P fn_section_reader_part [(.ptr (Nm.arg 0) 0)] [((Nm.arg 0), (.blk ty_section_reader [(As a0), (Ai (IntKind.i64.wrap (a1 + (5 : Int))))]))] fun r3 g3 =>
 Req (g3 =
 [(Nm.arg 0,
 Entry.blk 81
 [.imm (.str (rS ((blkOf g3 (Nm.arg 0)).getD 0 AV.undef))),
 .imm (.int .i64 (rI ((blkOf g3 (Nm.arg 0)).getD 1 AV.undef)))])] ∧
 r3 =
 .tup [.imm (.sl SK.any 4 (rR (rT r3 0))), .imm (.int .i64 (rI (rT r3 1)))])
 (Br (!decide (rI (rT r3 1) = (0 : Int)))
 (Q (.tup [(.imm (.sl .any 4 [])), (Ai 0), (Ai (rI (rT r3 1)))]) [])
 (Req ((0 + (rR (rT r3 0)).length) * 32 ≤ 140737488355328 ∧
 0 + (rR (rT r3 0)).length ≤ 140737488355328)
 (Req ((0 : Int) ≤ rI ((blkOf g3 (Nm.arg 0)).getD 1 AV.undef) ∧
 rI ((blkOf g3 (Nm.arg 0)).getD 1 AV.undef) ≤
 (↑(rS ((blkOf g3 (Nm.arg (0 : Nat))).getD (0 : Nat) AV.undef)).length : Int))
 (Let (List.drop (rI ((blkOf g3 (Nm.arg 0)).getD 1 AV.undef)).toNat
 (rS ((blkOf g3 (Nm.arg 0)).getD 0 AV.undef))) fun x4 =>
 Call E0.P fn_digits_Count [(As x4)] [] fun r5 g5 =>
 Req (g5 = [] ∧ r5 = .imm (.int .i64 (rI r5)))
 (Br (decide ((0 : Int) < rI r5))
 (S_section_Read_1 (rS ((blkOf g3 (Nm.arg 0)).getD 0 AV.undef)) (rI ((blkOf g3 (Nm.arg 0)).getD 1 AV.undef)) ([] ++ rR (rT r3 0)) (K_section_Read_0 Q))
 (Call E0.P fn_section_Check [(Al 4 ([] ++ rR (rT r3 0)))] [] fun r6 g6 =>
 Req (g6 = [] ∧ r6 = .imm (.int .i64 (rI r6)))
 (Br (!decide (rI r6 = (0 : Int)))
 (Q (.tup [(.imm (.sl .any 4 [])), (Ai 0), (Ai (rI r6))]) [])
 (Q (.tup [(Al 4 ([] ++ rR (rT r3 0))), (.imm (.int .i64 (rI ((blkOf g3 (Nm.arg 0)).getD 1 AV.undef)))), (Ai 0)]) [])))))))))))))) : Call E0.P fn_section_Read [(As a0), (Ai a1)] [] Q := fun_rule (envN E0 nt_section_Read) (okE nt_section_Read) 3 0 11 ac_section_Read [.tmp 4, .tmp 5, .tmp 6] ok_section_Read _ _ Q rfl rfl (kr (by kernel_rfl) h)
noncomputable def ac_section_Check : AC := (annot [(3, [3, 6, 7, 8], []), (5, [], []), (16, [5, 6, 7, 8], [3, 6, 7, 8]), (17, [3, 6, 7, 8], [3, 6, 7, 8]), (18, [], [])] [2] (codeOf Tryd.f29) 0).1
abbrev nt_section_Check : Nat := 46
def L_section_Check_3 (t3 : Int) (t6r : LL) (t7 t8 : Int) (K : KK) : Prop := LoopOK 3 E0.P nt_section_Check (lbodyOf 3 ac_section_Check).code ⟨[(3, (Ai t3)), (6, (Al 4 t6r)), (7, (Ai t7)), (8, (Ai t8))], []⟩ K
def C_section_Check_16 (t6r : LL) (t7 t8 : Int) (h5_1_0 h5_1_1 : Int) (h5_1_2 h5_1_3 : Int) (K : KK) : Prop := CutOK 16 E0.P nt_section_Check (cbodyOf 16 ac_section_Check).code ⟨[(5, (.ptr (Nm.loc 5) 0)), (6, (Al 4 t6r)), (7, (Ai t7)), (8, (Ai t8))], [((Nm.loc 5), (.blk ty_api_Row [(Ai h5_1_0), (Ai h5_1_1), (Ai h5_1_2), (Ai h5_1_3)]))]⟩ K
def C_section_Check_18 (K : KK) : Prop := CutOK 18 E0.P nt_section_Check (cbodyOf 18 ac_section_Check).code ⟨[], []⟩ K
def C_section_Check_17 (t3 : Int) (t6r : LL) (t7 t8 : Int) (K : KK) : Prop := CutOK 17 E0.P nt_section_Check (cbodyOf 17 ac_section_Check).code ⟨[(3, (Ai t3)), (6, (Al 4 t6r)), (7, (Ai t7)), (8, (Ai t8))], []⟩ K
def K_section_Check_0 (Q : QQ) : KK := kE fun st => finish 0 E0.T [.tmp 2] [] Q st
def K_section_Check_1 (Q : QQ) : KK := kF 0 (fun st => CutOK 18 E0.P nt_section_Check (cbodyOf 18 ac_section_Check).code (mask [] st) (K_section_Check_0 Q)) fun st => finish 0 E0.T [.tmp 2] [] Q st
def K_section_Check_2 (K : KK) : Ex → St → Prop
 | .normal, st => LoopOK 3 E0.P nt_section_Check (lbodyOf 3 ac_section_Check).code (mask [3, 6, 7, 8] st) K
 | .exit i, st => K (.exit i) st
 | .goto i, st => K (.goto i) st
 | .ret, st => K .ret st
def K_section_Check_3 (K : KK) : KK := kC 1 (fun st => CutOK 17 E0.P nt_section_Check (cbodyOf 17 ac_section_Check).code (mask [3, 6, 7, 8] st) (K_section_Check_2 K)) K
theorem L_section_Check_3_of (t3 : Int) (t6r : LL) (t7 t8 : Int) (K : KK) (h :
 (Br (decide (t8 < t7))
 (Req (((0 : Int) ≤ t8 ∧ t8 < (↑t6r.length : Int)) ∧
 shOK [.int .i64, .int .i64, .int .i64, .int .i64] (t6r.getD t8.toNat []) = true)
 (Br (decide (gI (t6r.getD t8.toNat []) 0 ≤ t3))
 (K .ret ⟨[(2, (Ai 15))], []⟩)
 (Br (decide ((8388607 : Int) < gI (t6r.getD t8.toNat []) 0))
 (K .ret ⟨[(2, (Ai 3))], []⟩)
 (Let (bif !decide (gI (t6r.getD t8.toNat []) 1 = (0 : Int)) then
 !decide (gI (t6r.getD t8.toNat []) 1 = (1 : Int))
 else false) fun x0 =>
 Br (x0)
 (K .ret ⟨[(2, (Ai 10))], []⟩)
 (Call E0.P fn_section_out [(Ai (gI (t6r.getD t8.toNat []) 2)), (Ai 67108864)] [] fun r1 g1 =>
 Req (g1 = [] ∧ r1 = .imm (.bool (rB r1)))
 (Br (rB r1 == false)
 (Call E0.P fn_section_out [(Ai (gI (t6r.getD t8.toNat []) 3)), (Ai 65535)] [] fun r2 g2 =>
 Req (g2 = [] ∧ r2 = .imm (.bool (rB r2)))
 (Let (rB r2) fun x3 =>
 Br (x3)
 (K .ret ⟨[(2, (Ai 3))], []⟩)
 (C_section_Check_16 t6r t7 t8 (gI (t6r.getD t8.toNat []) 0) (gI (t6r.getD t8.toNat []) 1) (gI (t6r.getD t8.toNat []) 2) (gI (t6r.getD t8.toNat []) 3) (K_section_Check_3 K))))
 (Req ((!false) = true)
 (Let (true) fun x4 =>
 Br (x4)
 (K .ret ⟨[(2, (Ai 3))], []⟩)
 (C_section_Check_16 t6r t7 t8 (gI (t6r.getD t8.toNat []) 0) (gI (t6r.getD t8.toNat []) 1) (gI (t6r.getD t8.toNat []) 2) (gI (t6r.getD t8.toNat []) 3) (K_section_Check_3 K))))))))))
 (K (.exit 0) ⟨[], []⟩))) : L_section_Check_3 t3 t6r t7 t8 K := loop_rule (envN E0 nt_section_Check) (okE nt_section_Check) 3 3 (lbodyOf 3 ac_section_Check) [3, 6, 7, 8] _ K rfl (kr (by kernel_rfl) h)
theorem C_section_Check_16_of (t6r : LL) (t7 t8 : Int) (h5_1_0 h5_1_1 : Int) (h5_1_2 h5_1_3 : Int) (K : KK) (h :
 (K .normal ⟨[(3, (Ai h5_1_0)), (6, (Al 4 t6r)), (7, (Ai t7)), (8, (Ai t8))], []⟩)) : C_section_Check_16 t6r t7 t8 h5_1_0 h5_1_1 h5_1_2 h5_1_3 K := cut_rule (envN E0 nt_section_Check) (okE nt_section_Check) 3 16 (cbodyOf 16 ac_section_Check) [3, 6, 7, 8] _ K rfl (kr (by kernel_rfl) h)
theorem C_section_Check_18_of (K : KK) (h :
 (K .ret ⟨[(2, (Ai 0))], []⟩)) : C_section_Check_18  K := cut_rule (envN E0 nt_section_Check) (okE nt_section_Check) 3 18 (cbodyOf 18 ac_section_Check) [] _ K rfl (kr (by kernel_rfl) h)
theorem C_section_Check_17_of (t3 : Int) (t6r : LL) (t7 t8 : Int) (K : KK) (h :
 (K .normal ⟨[(3, (Ai t3)), (6, (Al 4 t6r)), (7, (Ai t7)), (8, (Ai (IntKind.i64.wrap (t8 + (1 : Int)))))], []⟩)) : C_section_Check_17 t3 t6r t7 t8 K := cut_rule (envN E0 nt_section_Check) (okE nt_section_Check) 3 17 (cbodyOf 17 ac_section_Check) [3, 6, 7, 8] _ K rfl (kr (by kernel_rfl) h)
theorem K_section_Check_0_x0 (Q : QQ) (t2 : Int) (h :
 (Q (Ai t2) [])) : K_section_Check_0 Q .ret ⟨[(2, (Ai t2))], []⟩ := kr (by kernel_rfl) h
theorem K_section_Check_1_x0 (Q : QQ) (t2 : Int) (h :
 (Q (Ai t2) [])) : K_section_Check_1 Q .ret ⟨[(2, (Ai t2))], []⟩ := kr (by kernel_rfl) h
theorem K_section_Check_1_x1 (Q : QQ) (h :
 (C_section_Check_18  (K_section_Check_0 Q))) : K_section_Check_1 Q (.exit 0) ⟨[], []⟩ := kr (by kernel_rfl) h
theorem K_section_Check_2_x0 (K : KK) (t3 : Int) (t6r : LL) (t7 t8 : Int) (h :
 (L_section_Check_3 t3 t6r t7 t8 K)) : K_section_Check_2 K .normal ⟨[(3, (Ai t3)), (6, (Al 4 t6r)), (7, (Ai t7)), (8, (Ai t8))], []⟩ := kr (by kernel_rfl) h
theorem K_section_Check_3_x0 (K : KK) (t3 : Int) (t6r : LL) (t7 t8 : Int) (h :
 (C_section_Check_17 t3 t6r t7 t8 (K_section_Check_2 K))) : K_section_Check_3 K .normal ⟨[(3, (Ai t3)), (6, (Al 4 t6r)), (7, (Ai t7)), (8, (Ai t8))], []⟩ := kr (by kernel_rfl) h
theorem ok_section_Check : FnOK E0.P 29 ac_section_Check.code nt_section_Check [.tmp 2] := fn_ok _ _ Tryd.f29 [(3, [3, 6, 7, 8], []), (5, [], []), (16, [5, 6, 7, 8], [3, 6, 7, 8]), (17, [3, 6, 7, 8], [3, 6, 7, 8]), (18, [], [])] [2] _ 46 Tryd.func29 (by kernel_rfl) (by kernel_rfl) (by kernel_rfl) (by kernel_rfl)
theorem F_section_Check_of (a0 : LL) (Q : QQ) (h :
 (L_section_Check_3 ((-1 : Int)) a0 ((↑a0.length : Int)) ((0 : Int)) (K_section_Check_1 Q))) : Call E0.P fn_section_Check [(Al 4 a0)] [] Q := fun_rule (envN E0 nt_section_Check) (okE nt_section_Check) 3 0 29 ac_section_Check [.tmp 2] ok_section_Check _ _ Q rfl rfl (kr (by kernel_rfl) h)
noncomputable def ac_section_head : AC := (annot [] [4] (codeOf Tryd.f30) 0).1
abbrev nt_section_head : Nat := 12
theorem ok_section_head : FnOK E0.P 30 ac_section_head.code nt_section_head [.tmp 4] := fn_ok _ _ Tryd.f30 [] [4] _ 12 Tryd.func30 (by kernel_rfl) (by kernel_rfl) (by kernel_rfl) (by kernel_rfl)
theorem F_section_head_of (a0 a1 : Int) (Q : QQ) (h :
 (Call E0.P fn_digits_Put [(Ai a0)] [] fun r0 g0 =>
 Req (g0 = [] ∧ r0 = .imm (.str (rS r0)))
 (Req ((↑((rS r0).length + (1 : Nat)) : Int) ≤ (9223372036854775807 : Int))
 (Call E0.P fn_digits_Put [(Ai a1)] [] fun r1 g1 =>
 Req (g1 = [] ∧ r1 = .imm (.str (rS r1)))
 (Req ((↑((rS r0 ++ [32]).length + (rS r1).length) : Int) ≤ (9223372036854775807 : Int))
 (Req ((↑((rS r0 ++ [32] ++ rS r1).length + (1 : Nat)) : Int) ≤ (9223372036854775807 : Int))
 (Q (As (rS r0 ++ [32] ++ rS r1 ++ [10])) []))))))) : Call E0.P fn_section_head [(Ai a0), (Ai a1)] [] Q := fun_rule (envN E0 nt_section_head) (okE nt_section_head) 3 0 30 ac_section_head [.tmp 4] ok_section_head _ _ Q rfl rfl (kr (by kernel_rfl) h)
noncomputable def ac_section_line : AC := (annot [(5, [3, 5, 7], [])] [2] (codeOf Tryd.f33) 0).1
abbrev nt_section_line : Nat := 31
def C_section_line_5 (t3 t5 t7 : List UInt8) (K : KK) : Prop := CutOK 5 E0.P nt_section_line (cbodyOf 5 ac_section_line).code ⟨[(3, (As t3)), (5, (As t5)), (7, (As t7))], []⟩ K
def K_section_line_0 (Q : QQ) : KK := kE fun st => finish 0 E0.T [.tmp 2] [] Q st
theorem C_section_line_5_of (t3 t5 t7 : List UInt8) (K : KK) (h :
 (Req ((↑(t3.length + (1 : Nat)) : Int) ≤ (9223372036854775807 : Int))
 (Req ((↑((t3 ++ [32]).length + t5.length) : Int) ≤ (9223372036854775807 : Int))
 (Req ((↑((t3 ++ [32] ++ t5).length + (1 : Nat)) : Int) ≤ (9223372036854775807 : Int))
 (Req ((↑((t3 ++ [32] ++ t5 ++ [32]).length + t7.length) : Int) ≤ (9223372036854775807 : Int))
 (Req ((↑((t3 ++ [32] ++ t5 ++ [32] ++ t7).length + (2 : Nat)) : Int) ≤ (9223372036854775807 : Int))
 (K .ret ⟨[(2, (As (t3 ++ [32] ++ t5 ++ [32] ++ t7 ++ [32, 10])))], []⟩))))))) : C_section_line_5 t3 t5 t7 K := cut_rule (envN E0 nt_section_line) (okE nt_section_line) 3 5 (cbodyOf 5 ac_section_line) [] _ K rfl (kr (by kernel_rfl) h)
theorem K_section_line_0_x0 (Q : QQ) (t2 : List UInt8) (h :
 (Q (As t2) [])) : K_section_line_0 Q .ret ⟨[(2, (As t2))], []⟩ := kr (by kernel_rfl) h
theorem ok_section_line : FnOK E0.P 33 ac_section_line.code nt_section_line [.tmp 2] := fn_ok _ _ Tryd.f33 [(5, [3, 5, 7], [])] [2] _ 31 Tryd.func33 (by kernel_rfl) (by kernel_rfl) (by kernel_rfl) (by kernel_rfl)
theorem F_section_line_of (a0_0 a0_1 a0_2 : Int) (Q : QQ) (h :
 (Call E0.P fn_digits_Pad [(Ai a0_1), (Ai 10)] [] fun r0 g0 =>
 Req (g0 = [] ∧ r0 = .tup [.imm (.str (rS (rT r0 0))), .imm (.int .i64 (rI (rT r0 1)))])
 (Call E0.P fn_digits_Pad [(Ai a0_2), (Ai 5)] [] fun r1 g1 =>
 Req (g1 = [] ∧ r1 = .tup [.imm (.str (rS (rT r1 0))), .imm (.int .i64 (rI (rT r1 1)))])
 (Br (decide (a0_0 = (1 : Int)))
 (C_section_line_5 (rS (rT r0 0)) (rS (rT r1 0)) [110] (K_section_line_0 Q))
 (C_section_line_5 (rS (rT r0 0)) (rS (rT r1 0)) [102] (K_section_line_0 Q)))))) : Call E0.P fn_section_line [(.imm (.agg [(.int .i64 a0_0), (.int .i64 a0_1), (.int .i64 a0_2)]))] [] Q := fun_rule (envN E0 nt_section_line) (okE nt_section_line) 3 0 33 ac_section_line [.tmp 2] ok_section_line _ _ Q rfl rfl (kr (by kernel_rfl) h)
noncomputable def ac_section_begins : AC := (annot [] [2] (codeOf Tryd.f39) 0).1
abbrev nt_section_begins : Nat := 9
theorem ok_section_begins : FnOK E0.P 39 ac_section_begins.code nt_section_begins [.tmp 2] := fn_ok _ _ Tryd.f39 [] [2] _ 9 Tryd.func39 (by kernel_rfl) (by kernel_rfl) (by kernel_rfl) (by kernel_rfl)
theorem F_section_begins_of (a0 : List UInt8) (Q : QQ) (h :
 (Call E0.P fn_strings_HasPrefix [(As a0), (.imm (.str [120, 114, 101, 102, 10]))] [] fun r0 g0 =>
 Req (g0 = [] ∧ r0 = .imm (.bool (rB r0)))
 (Br (rB r0)
 (Q (Ai 0) [])
 (Call E0.P fn_strings_HasPrefix [(.imm (.str [120, 114, 101, 102, 10])), (As a0)] [] fun r1 g1 =>
 Req (g1 = [] ∧ r1 = .imm (.bool (rB r1)))
 (Br (rB r1)
 (Q (Ai 5) [])
 (Q (Ai 4) [])))))) : Call E0.P fn_section_begins [(As a0)] [] Q := fun_rule (envN E0 nt_section_begins) (okE nt_section_begins) 3 0 39 ac_section_begins [.tmp 2] ok_section_begins _ _ Q rfl rfl (kr (by kernel_rfl) h)
noncomputable def ac_section_reader_part : AC := (annot [(13, [0, 4, 7, 35, 36], []), (15, [7], []), (23, [7], [])] [2, 3] (codeOf Tryd.f40) 0).1
abbrev nt_section_reader_part : Nat := 57
def L_section_reader_part_13 (t4 t35 t36 : Int) (h0_1_0 : List UInt8) (h0_1_1 : Int) (h7r : LL) (K : KK) : Prop := LoopOK 13 E0.P nt_section_reader_part (lbodyOf 13 ac_section_reader_part).code ⟨[(0, (.ptr (Nm.arg 0) 0)), (4, (Ai t4)), (7, (.own (Nm.loc 7))), (35, (Ai t35)), (36, (Ai t36))], [((Nm.arg 0), (.blk ty_section_reader [(As h0_1_0), (Ai h0_1_1)])), ((Nm.loc 7), (.arr (ty_api_Row + 2) true 4 h7r))]⟩ K
def C_section_reader_part_23 (h7r : LL) (h0_1_0 : List UInt8) (h0_1_1 : Int) (K : KK) : Prop := CutOK 23 E0.P nt_section_reader_part (cbodyOf 23 ac_section_reader_part).code ⟨[(7, (.own (Nm.loc 7)))], [((Nm.loc 7), (.arr (ty_api_Row + 2) true 4 h7r)), ((Nm.arg 0), (.blk ty_section_reader [(As h0_1_0), (Ai h0_1_1)]))]⟩ K
def K_section_reader_part_0 (s : List UInt8) (at_ : Int) (Q : QQ) : KK := kE fun st => finish 0 E0.T [.tmp 2, .tmp 3] [((Nm.arg 0), (.blk ty_section_reader [(As s), (Ai at_)]))] Q st
def K_section_reader_part_1 (s : List UInt8) (at_ : Int) (Q : QQ) : KK := kF 1 (fun st => CutOK 23 E0.P nt_section_reader_part (cbodyOf 23 ac_section_reader_part).code (mask [7] st) (K_section_reader_part_0 s at_ Q)) fun st => finish 0 E0.T [.tmp 2, .tmp 3] [((Nm.arg 0), (.blk ty_section_reader [(As s), (Ai at_)]))] Q st
theorem L_section_reader_part_13_of (t4 t35 t36 : Int) (h0_1_0 : List UInt8) (h0_1_1 : Int) (h7r : LL) (K : KK) (h :
 (Br (decide (t36 < t35))
 (Call E0.P fn_section_reader_entry [(.ptr (Nm.arg 0) 0)] [((Nm.arg 0), (.blk ty_section_reader [(As h0_1_0), (Ai h0_1_1)]))] fun r0 g0 =>
 Req (g0 =
 [(Nm.arg 0,
 Entry.blk 81
 [.imm (.str (rS ((blkOf g0 (Nm.arg 0)).getD 0 AV.undef))),
 .imm (.int .i64 (rI ((blkOf g0 (Nm.arg 0)).getD 1 AV.undef)))])] ∧
 r0 =
 .tup
 [.imm
 (IV.agg
 [.int .i64 (gI (aCells (rT r0 0)) 0),
 .int .i64 (gI (aCells (rT r0 0)) 1),
 .int .i64 (gI (aCells (rT r0 0)) 2)]),
 .imm (.int .i64 (rI (rT r0 1)))])
 (Br (!decide (rI (rT r0 1) = (0 : Int)))
 (K .ret ⟨[(2, (.own (Nm.loc 2))), (3, (Ai (rI (rT r0 1))))], [((Nm.loc 2), (.arr (ty_api_Row + 2) true 4 [])), ((Nm.arg 0), (.blk ty_section_reader [(.imm (.str (rS ((blkOf g0 (Nm.arg 0)).getD 0 AV.undef)))), (.imm (.int .i64 (rI ((blkOf g0 (Nm.arg 0)).getD 1 AV.undef))))]))]⟩)
 (Req ((h7r.length + 1) * 32 ≤ 140737488355328 ∧ h7r.length + 1 ≤ 140737488355328)
 (L_section_reader_part_13 t4 t35 (IntKind.i64.wrap (t36 + (1 : Int))) (rS ((blkOf g0 (Nm.arg 0)).getD 0 AV.undef)) (rI ((blkOf g0 (Nm.arg 0)).getD 1 AV.undef)) (h7r ++
 [[.int .i64 (IntKind.i64.wrap (t4 + t36)), .int .i64 (gI (aCells (rT r0 0)) 0),
 .int .i64 (gI (aCells (rT r0 0)) 1),
 .int .i64 (gI (aCells (rT r0 0)) 2)]]) K))))
 (K (.exit (1)) ⟨[(7, (.own (Nm.loc 7)))], [((Nm.loc 7), (.arr (ty_api_Row + 2) true 4 h7r)), ((Nm.arg 0), (.blk ty_section_reader [(As h0_1_0), (Ai h0_1_1)]))]⟩))) : L_section_reader_part_13 t4 t35 t36 h0_1_0 h0_1_1 h7r K := loop_rule (envN E0 nt_section_reader_part) (okE nt_section_reader_part) 3 13 (lbodyOf 13 ac_section_reader_part) [0, 4, 7, 35, 36] _ K rfl (kr (by kernel_rfl) h)
theorem C_section_reader_part_23_of (h7r : LL) (h0_1_0 : List UInt8) (h0_1_1 : Int) (K : KK) (h :
 (K .ret ⟨[(2, (.own (Nm.loc 7))), (3, (Ai 0))], [((Nm.loc 7), (.arr (ty_api_Row + 2) true 4 h7r)), ((Nm.arg 0), (.blk ty_section_reader [(As h0_1_0), (Ai h0_1_1)]))]⟩)) : C_section_reader_part_23 h7r h0_1_0 h0_1_1 K := cut_rule (envN E0 nt_section_reader_part) (okE nt_section_reader_part) 3 23 (cbodyOf 23 ac_section_reader_part) [] _ K rfl (kr (by kernel_rfl) h)
theorem K_section_reader_part_0_x0 (s : List UInt8) (at_ : Int) (Q : QQ) (t3 : Int) (h7r : LL) (h0_1_0 : List UInt8) (h0_1_1 : Int) (h :
 (Q (.tup [(Al 4 h7r), (Ai t3)]) [((Nm.arg 0), (.blk ty_section_reader [(As h0_1_0), (Ai h0_1_1)]))])) : K_section_reader_part_0 s at_ Q .ret ⟨[(2, (.own (Nm.loc 7))), (3, (Ai t3))], [((Nm.loc 7), (.arr (ty_api_Row + 2) true 4 h7r)), ((Nm.arg 0), (.blk ty_section_reader [(As h0_1_0), (Ai h0_1_1)]))]⟩ := kr (by kernel_rfl) h
theorem K_section_reader_part_1_x0 (s : List UInt8) (at_ : Int) (Q : QQ) (t3 : Int) (h2r : LL) (h0_1_0 : List UInt8) (h0_1_1 : Int) (h :
 (Q (.tup [(Al 4 h2r), (Ai t3)]) [((Nm.arg 0), (.blk ty_section_reader [(As h0_1_0), (Ai h0_1_1)]))])) : K_section_reader_part_1 s at_ Q .ret ⟨[(2, (.own (Nm.loc 2))), (3, (Ai t3))], [((Nm.loc 2), (.arr (ty_api_Row + 2) true 4 h2r)), ((Nm.arg 0), (.blk ty_section_reader [(As h0_1_0), (Ai h0_1_1)]))]⟩ := kr (by kernel_rfl) h
theorem K_section_reader_part_1_x1 (s : List UInt8) (at_ : Int) (Q : QQ) (h7r : LL) (h0_1_0 : List UInt8) (h0_1_1 : Int) (h :
 (C_section_reader_part_23 h7r h0_1_0 h0_1_1 (K_section_reader_part_0 s at_ Q))) : K_section_reader_part_1 s at_ Q (.exit (1)) ⟨[(7, (.own (Nm.loc 7)))], [((Nm.loc 7), (.arr (ty_api_Row + 2) true 4 h7r)), ((Nm.arg 0), (.blk ty_section_reader [(As h0_1_0), (Ai h0_1_1)]))]⟩ := kr (by kernel_rfl) h
theorem ok_section_reader_part : FnOK E0.P 40 ac_section_reader_part.code nt_section_reader_part [.tmp 2, .tmp 3] := fn_ok _ _ Tryd.f40 [(13, [0, 4, 7, 35, 36], []), (15, [7], []), (23, [7], [])] [2, 3] _ 57 Tryd.func40 (by kernel_rfl) (by kernel_rfl) (by kernel_rfl) (by kernel_rfl)
theorem F_section_reader_part_of (s : List UInt8) (at_ : Int) (Q : QQ) (h :
 (Call E0.P fn_section_reader_number [(.ptr (Nm.arg 0) 0), (.imm (.int .u8 ((32 : Int))))] [((Nm.arg 0), (.blk ty_section_reader [(As s), (Ai at_)]))] fun r0 g0 =>
 Req (g0 =
 [(Nm.arg 0,
 Entry.blk 81
 [.imm (.str (rS ((blkOf g0 (Nm.arg 0)).getD 0 AV.undef))),
 .imm (.int .i64 (rI ((blkOf g0 (Nm.arg 0)).getD 1 AV.undef)))])] ∧
 r0 = .tup [.imm (.int .i64 (rI (rT r0 0))), .imm (.int .i64 (rI (rT r0 1)))])
 (Br (!decide (rI (rT r0 1) = (0 : Int)))
 (Q (.tup [(.imm (.sl .any 4 [])), (Ai (rI (rT r0 1)))]) [((Nm.arg 0), (.blk ty_section_reader [(.imm (.str (rS ((blkOf g0 (Nm.arg 0)).getD 0 AV.undef)))), (.imm (.int .i64 (rI ((blkOf g0 (Nm.arg 0)).getD 1 AV.undef))))]))])
 (Call E0.P fn_section_reader_number [(.ptr (Nm.arg 0) 0), (.imm (.int .u8 ((10 : Int))))] [((Nm.arg 0), (.blk ty_section_reader [(.imm (.str (rS ((blkOf g0 (Nm.arg 0)).getD 0 AV.undef)))), (.imm (.int .i64 (rI ((blkOf g0 (Nm.arg 0)).getD 1 AV.undef))))]))] fun r1 g1 =>
 Req (g1 =
 [(Nm.arg 0,
 Entry.blk 81
 [.imm (.str (rS ((blkOf g1 (Nm.arg 0)).getD 0 AV.undef))),
 .imm (.int .i64 (rI ((blkOf g1 (Nm.arg 0)).getD 1 AV.undef)))])] ∧
 r1 = .tup [.imm (.int .i64 (rI (rT r1 0))), .imm (.int .i64 (rI (rT r1 1)))])
 (Br (!decide (rI (rT r1 1) = (0 : Int)))
 (Q (.tup [(.imm (.sl .any 4 [])), (Ai (rI (rT r1 1)))]) [((Nm.arg 0), (.blk ty_section_reader [(.imm (.str (rS ((blkOf g1 (Nm.arg 0)).getD 0 AV.undef)))), (.imm (.int .i64 (rI ((blkOf g1 (Nm.arg 0)).getD 1 AV.undef))))]))])
 (Req ((0 : Int) ≤ rI ((blkOf g1 (Nm.arg 0)).getD 1 AV.undef) ∧
 rI ((blkOf g1 (Nm.arg 0)).getD 1 AV.undef) ≤
 (↑(rS ((blkOf g1 (Nm.arg (0 : Nat))).getD (0 : Nat) AV.undef)).length : Int))
 (Let (List.drop (rI ((blkOf g1 (Nm.arg 0)).getD 1 AV.undef)).toNat
 (rS ((blkOf g1 (Nm.arg 0)).getD 0 AV.undef))) fun x2 =>
 Req ((20 : Int) ≠ (0 : Int))
 (Br (decide (IntKind.i64.wrap ((↑x2.length : Int).tdiv (20 : Int)) < rI (rT r1 0)))
 (Q (.tup [(.imm (.sl .any 4 [])), (Ai 5)]) [((Nm.arg 0), (.blk ty_section_reader [(.imm (.str (rS ((blkOf g1 (Nm.arg 0)).getD 0 AV.undef)))), (.imm (.int .i64 (rI ((blkOf g1 (Nm.arg 0)).getD 1 AV.undef))))]))])
 (L_section_reader_part_13 (rI (rT r0 0)) (rI (rT r1 0)) ((0 : Int)) (rS ((blkOf g1 (Nm.arg 0)).getD 0 AV.undef)) (rI ((blkOf g1 (Nm.arg 0)).getD 1 AV.undef)) [] (K_section_reader_part_1 s at_ Q)))))))))) : Call E0.P fn_section_reader_part [(.ptr (.arg 0) 0)] [(.arg 0, .blk ty_section_reader [.imm (.str s), .imm (.int .i64 at_)])] Q := fun_rule (envN E0 nt_section_reader_part) (okE nt_section_reader_part) 3 0 40 ac_section_reader_part [.tmp 2, .tmp 3] ok_section_reader_part _ _ Q rfl rfl (kr (by kernel_rfl) h)
noncomputable def ac_section_reader_number : AC := (annot [] [4, 5] (codeOf Tryd.f76) 0).1
abbrev nt_section_reader_number : Nat := 63
theorem ok_section_reader_number : FnOK E0.P 76 ac_section_reader_number.code nt_section_reader_number [.tmp 4, .tmp 5] := fn_ok _ _ Tryd.f76 [] [4, 5] _ 63 Tryd.func76 (by kernel_rfl) (by kernel_rfl) (by kernel_rfl) (by kernel_rfl)
theorem F_section_reader_number_of (s : List UInt8) (at_ a1 : Int) (Q : QQ) (h :
 (Req ((0 : Int) ≤ at_ ∧ at_ ≤ (↑s.length : Int))
 (Let (List.drop at_.toNat s) fun x0 =>
 Call E0.P fn_digits_Count [(As x0)] [] fun r1 g1 =>
 Req (g1 = [] ∧ r1 = .imm (.int .i64 (rI r1)))
 (Br (x0 == [])
 (Q (.tup [(Ai 0), (Ai 5)]) [((Nm.arg 0), (.blk ty_section_reader [(As s), (Ai at_)]))])
 (Br (decide (rI r1 = (0 : Int)) == false)
 (Req (decide ((1 : Int) < rI r1) = true → (0 : Int) ≤ (0 : Int) ∧ (0 : Int) < (↑x0.length : Int))
 (Let (bif decide ((1 : Int) < rI r1) then decide ((↑(x0.getD (0 : Nat) 0).toNat : Int) = (48 : Int)) else false) fun x2 =>
 Let (x2) fun x3 =>
 Br (x3)
 (Q (.tup [(Ai 0), (Ai 4)]) [((Nm.arg 0), (.blk ty_section_reader [(As s), (Ai at_)]))])
 (Br (decide (rI r1 = (↑x0.length : Int)))
 (Q (.tup [(Ai 0), (Ai 5)]) [((Nm.arg 0), (.blk ty_section_reader [(As s), (Ai at_)]))])
 (Req ((0 : Int) ≤ rI r1 ∧ rI r1 < (↑x0.length : Int))
 (Br (!decide ((↑(x0.getD (rI r1).toNat 0).toNat : Int) = a1))
 (Q (.tup [(Ai 0), (Ai 4)]) [((Nm.arg 0), (.blk ty_section_reader [(As s), (Ai at_)]))])
 (Req ((0 : Int) ≤ rI r1 ∧ rI r1 ≤ (↑x0.length : Int))
 (Let (List.take (rI r1).toNat x0) fun x4 =>
 Call E0.P fn_digits_Fixed [(As x4)] [] fun r5 g5 =>
 Req (g5 = [] ∧
 r5 = .tup [.imm (.int .i64 (rI (rT r5 0))), .imm (.int .i64 (rI (rT r5 1)))])
 (Let (bif !decide (rI (rT r5 1) = (0 : Int)) then true else decide ((8388607 : Int) < rI (rT r5 0))) fun x6 =>
 Br (x6)
 (Q (.tup [(Ai 0), (Ai 3)]) [((Nm.arg 0), (.blk ty_section_reader [(As s), (.imm (.int .i64 (IntKind.i64.wrap (at_ + IntKind.i64.wrap (rI r1 + (1 : Int))))))]))])
 (Q (.tup [(Ai (rI (rT r5 0))), (Ai 0)]) [((Nm.arg 0), (.blk ty_section_reader [(As s), (.imm (.int .i64 (IntKind.i64.wrap (at_ + IntKind.i64.wrap (rI r1 + (1 : Int))))))]))])))))))))
 (Req ((!false) = true)
 (Let (true) fun x7 =>
 Br (x7)
 (Q (.tup [(Ai 0), (Ai 4)]) [((Nm.arg 0), (.blk ty_section_reader [(As s), (Ai at_)]))])
 (Br (decide (rI r1 = (↑x0.length : Int)))
 (Q (.tup [(Ai 0), (Ai 5)]) [((Nm.arg 0), (.blk ty_section_reader [(As s), (Ai at_)]))])
 (Req ((0 : Int) ≤ rI r1 ∧ rI r1 < (↑x0.length : Int))
 (Br (!decide ((↑(x0.getD (rI r1).toNat 0).toNat : Int) = a1))
 (Q (.tup [(Ai 0), (Ai 4)]) [((Nm.arg 0), (.blk ty_section_reader [(As s), (Ai at_)]))])
 (Req ((0 : Int) ≤ rI r1 ∧ rI r1 ≤ (↑x0.length : Int))
 (Let (List.take (rI r1).toNat x0) fun x8 =>
 Call E0.P fn_digits_Fixed [(As x8)] [] fun r9 g9 =>
 Req (g9 = [] ∧
 r9 = .tup [.imm (.int .i64 (rI (rT r9 0))), .imm (.int .i64 (rI (rT r9 1)))])
 (Let (bif !decide (rI (rT r9 1) = (0 : Int)) then true else decide ((8388607 : Int) < rI (rT r9 0))) fun x10 =>
 Br (x10)
 (Q (.tup [(Ai 0), (Ai 3)]) [((Nm.arg 0), (.blk ty_section_reader [(As s), (.imm (.int .i64 (IntKind.i64.wrap (at_ + IntKind.i64.wrap (rI r1 + (1 : Int))))))]))])
 (Q (.tup [(Ai (rI (rT r9 0))), (Ai 0)]) [((Nm.arg 0), (.blk ty_section_reader [(As s), (.imm (.int .i64 (IntKind.i64.wrap (at_ + IntKind.i64.wrap (rI r1 + (1 : Int))))))]))])))))))))))))) : Call E0.P fn_section_reader_number [(.ptr (.arg 0) 0), (.imm (.int .u8 a1))] [(.arg 0, .blk ty_section_reader [.imm (.str s), .imm (.int .i64 at_)])] Q := fun_rule (envN E0 nt_section_reader_number) (okE nt_section_reader_number) 3 0 76 ac_section_reader_number [.tmp 4, .tmp 5] ok_section_reader_number _ _ Q rfl rfl (kr (by kernel_rfl) h)
noncomputable def ac_section_reader_entry : AC := (annot [(2, [0, 2, 4, 58], [0, 2, 4]), (4, [0, 2, 4], []), (8, [2, 4, 5], []), (12, [2, 9], [])] [2, 3] (codeOf Tryd.f77) 0).1
abbrev nt_section_reader_entry : Nat := 89
def C_section_reader_entry_2 (t4 : List UInt8) (t58 : Bool) (h0_1_0 : List UInt8) (h0_1_1 h2_1_0 : Int) (h2_1_1 h2_1_2 : Int) (K : KK) : Prop := CutOK 2 E0.P nt_section_reader_entry (cbodyOf 2 ac_section_reader_entry).code ⟨[(0, (.ptr (Nm.arg 0) 0)), (2, (.ptr (Nm.loc 2) 0)), (4, (As t4)), (58, (Ab t58))], [((Nm.arg 0), (.blk ty_section_reader [(As h0_1_0), (Ai h0_1_1)])), ((Nm.loc 2), (.blk ty_api_Entry [(Ai h2_1_0), (Ai h2_1_1), (Ai h2_1_2)]))]⟩ K
def C_section_reader_entry_4 (t4 h0_1_0 : List UInt8) (h0_1_1 h2_1_0 : Int) (h2_1_1 h2_1_2 : Int) (K : KK) : Prop := CutOK 4 E0.P nt_section_reader_entry (cbodyOf 4 ac_section_reader_entry).code ⟨[(0, (.ptr (Nm.arg 0) 0)), (2, (.ptr (Nm.loc 2) 0)), (4, (As t4))], [((Nm.arg 0), (.blk ty_section_reader [(As h0_1_0), (Ai h0_1_1)])), ((Nm.loc 2), (.blk ty_api_Entry [(Ai h2_1_0), (Ai h2_1_1), (Ai h2_1_2)]))]⟩ K
def C_section_reader_entry_8 (t4 : List UInt8) (t5 h2_1_0 : Int) (h2_1_1 h2_1_2 : Int) (h0_1_0 : List UInt8) (h0_1_1 : Int) (K : KK) : Prop := CutOK 8 E0.P nt_section_reader_entry (cbodyOf 8 ac_section_reader_entry).code ⟨[(2, (.ptr (Nm.loc 2) 0)), (4, (As t4)), (5, (Ai t5))], [((Nm.loc 2), (.blk ty_api_Entry [(Ai h2_1_0), (Ai h2_1_1), (Ai h2_1_2)])), ((Nm.arg 0), (.blk ty_section_reader [(As h0_1_0), (Ai h0_1_1)]))]⟩ K
def C_section_reader_entry_12 (h2_1_0 h2_1_1 : Int) (h2_1_2 h9_1_0 : Int) (h9_1_1 h9_1_2 : Int) (h0_1_0 : List UInt8) (h0_1_1 : Int) (K : KK) : Prop := CutOK 12 E0.P nt_section_reader_entry (cbodyOf 12 ac_section_reader_entry).code ⟨[(2, (.ptr (Nm.loc 2) 0)), (9, (.ptr (Nm.loc 9) 0))], [((Nm.loc 2), (.blk ty_api_Entry [(Ai h2_1_0), (Ai h2_1_1), (Ai h2_1_2)])), ((Nm.loc 9), (.blk ty_api_Entry [(Ai h9_1_0), (Ai h9_1_1), (Ai h9_1_2)])), ((Nm.arg 0), (.blk ty_section_reader [(As h0_1_0), (Ai h0_1_1)]))]⟩ K
def K_section_reader_entry_0 (s : List UInt8) (at_ : Int) (Q : QQ) : KK := kE fun st => finish 0 E0.T [.cell 2 51, .tmp 3] [((Nm.arg 0), (.blk ty_section_reader [(As s), (Ai at_)]))] Q st
def K_section_reader_entry_1 (s : List UInt8) (at_ : Int) (Q : QQ) : Ex → St → Prop
 | .normal, st => CutOK 4 E0.P nt_section_reader_entry (cbodyOf 4 ac_section_reader_entry).code (mask [0, 2, 4] st) (K_section_reader_entry_0 s at_ Q)
 | .exit i, st => False
 | .goto i, st => False
 | .ret, st => finish 0 E0.T [.cell 2 51, .tmp 3] [((Nm.arg 0), (.blk ty_section_reader [(As s), (Ai at_)]))] Q st
def K_section_reader_entry_2 (K : KK) : KK := kP [] K
theorem C_section_reader_entry_2_of (t4 : List UInt8) (t58 : Bool) (h0_1_0 : List UInt8) (h0_1_1 h2_1_0 : Int) (h2_1_1 h2_1_2 : Int) (K : KK) (h :
 (Br (t58)
 (K .ret ⟨[(2, (.ptr (Nm.loc 2) 0)), (3, (Ai 4))], [((Nm.loc 2), (.blk ty_api_Entry [(Ai 0), (Ai 0), (Ai 0)])), ((Nm.arg 0), (.blk ty_section_reader [(As h0_1_0), (Ai h0_1_1)]))]⟩)
 (K .normal ⟨[(0, (.ptr (Nm.arg 0) 0)), (2, (.ptr (Nm.loc 2) 0)), (4, (As t4))], [((Nm.arg 0), (.blk ty_section_reader [(As h0_1_0), (Ai h0_1_1)])), ((Nm.loc 2), (.blk ty_api_Entry [(Ai h2_1_0), (Ai h2_1_1), (Ai h2_1_2)]))]⟩))) : C_section_reader_entry_2 t4 t58 h0_1_0 h0_1_1 h2_1_0 h2_1_1 h2_1_2 K := cut_rule (envN E0 nt_section_reader_entry) (okE nt_section_reader_entry) 3 2 (cbodyOf 2 ac_section_reader_entry) [0, 2, 4] _ K rfl (kr (by kernel_rfl) h)
theorem C_section_reader_entry_4_of (t4 h0_1_0 : List UInt8) (h0_1_1 h2_1_0 : Int) (h2_1_1 h2_1_2 : Int) (K : KK) (h :
 (Req ((0 : Int) ≤ (10 : Int) ∧ (10 : Int) ≤ (↑t4.length : Int))
 (Let (List.take 10 t4) fun x0 =>
 Call E0.P fn_digits_Fixed [(As x0)] [] fun r1 g1 =>
 Req (g1 = [] ∧
 r1 = .tup [.imm (.int .i64 (rI (rT r1 0))), .imm (.int .i64 (rI (rT r1 1)))])
 (Br (!decide (rI (rT r1 1) = (0 : Int)))
 (C_section_reader_entry_8 t4 ((2147483647 : Int)) h2_1_0 h2_1_1 h2_1_2 h0_1_0 (IntKind.i64.wrap (h0_1_1 + (20 : Int))) (K_section_reader_entry_2 K))
 (C_section_reader_entry_8 t4 (rI (rT r1 0)) h2_1_0 h2_1_1 h2_1_2 h0_1_0 (IntKind.i64.wrap (h0_1_1 + (20 : Int))) (K_section_reader_entry_2 K)))))) : C_section_reader_entry_4 t4 h0_1_0 h0_1_1 h2_1_0 h2_1_1 h2_1_2 K := cut_rule (envN E0 nt_section_reader_entry) (okE nt_section_reader_entry) 3 4 (cbodyOf 4 ac_section_reader_entry) [] _ K rfl (kr (by kernel_rfl) h)
theorem C_section_reader_entry_8_of (t4 : List UInt8) (t5 h2_1_0 : Int) (h2_1_1 h2_1_2 : Int) (h0_1_0 : List UInt8) (h0_1_1 : Int) (K : KK) (h :
 (Req ((0 : Int) ≤ (11 : Int) ∧ (11 : Int) ≤ (16 : Int) ∧ (16 : Int) ≤ (↑t4.length : Int))
 (Let (List.drop 11 (List.take 16 t4)) fun x0 =>
 Call E0.P fn_digits_Fixed [(As x0)] [] fun r1 g1 =>
 Req (g1 = [] ∧
 r1 = .tup [.imm (.int .i64 (rI (rT r1 0))), .imm (.int .i64 (rI (rT r1 1)))])
 (Req ((0 : Int) ≤ (17 : Int) ∧ (17 : Int) < (↑t4.length : Int))
 (Br (decide ((↑(t4.getD (17 : Nat) 0).toNat : Int) = (110 : Int)))
 (C_section_reader_entry_12 h2_1_0 h2_1_1 h2_1_2 ((1 : Int)) t5 (rI (rT r1 0)) h0_1_0 h0_1_1 (K_section_reader_entry_2 K))
 (C_section_reader_entry_12 h2_1_0 h2_1_1 h2_1_2 ((0 : Int)) t5 (rI (rT r1 0)) h0_1_0 h0_1_1 (K_section_reader_entry_2 K))))))) : C_section_reader_entry_8 t4 t5 h2_1_0 h2_1_1 h2_1_2 h0_1_0 h0_1_1 K := cut_rule (envN E0 nt_section_reader_entry) (okE nt_section_reader_entry) 3 8 (cbodyOf 8 ac_section_reader_entry) [] _ K rfl (kr (by kernel_rfl) h)
theorem C_section_reader_entry_12_of (h2_1_0 h2_1_1 : Int) (h2_1_2 h9_1_0 : Int) (h9_1_1 h9_1_2 : Int) (h0_1_0 : List UInt8) (h0_1_1 : Int) (K : KK) (h :
 (K .ret ⟨[(2, (.ptr (Nm.loc 2) 0)), (3, (Ai 0))], [((Nm.loc 2), (.blk ty_api_Entry [(Ai h9_1_0), (Ai h9_1_1), (Ai h9_1_2)])), ((Nm.arg 0), (.blk ty_section_reader [(As h0_1_0), (Ai h0_1_1)]))]⟩)) : C_section_reader_entry_12 h2_1_0 h2_1_1 h2_1_2 h9_1_0 h9_1_1 h9_1_2 h0_1_0 h0_1_1 K := cut_rule (envN E0 nt_section_reader_entry) (okE nt_section_reader_entry) 3 12 (cbodyOf 12 ac_section_reader_entry) [] _ K rfl (kr (by kernel_rfl) h)
theorem K_section_reader_entry_0_x0 (s : List UInt8) (at_ : Int) (Q : QQ) (t3 h2_1_0 : Int) (h2_1_1 h2_1_2 : Int) (h0_1_0 : List UInt8) (h0_1_1 : Int) (h :
 (Q (.tup [(.imm (.agg [(.int .i64 h2_1_0), (.int .i64 h2_1_1), (.int .i64 h2_1_2)])), (Ai t3)]) [((Nm.arg 0), (.blk ty_section_reader [(As h0_1_0), (Ai h0_1_1)]))])) : K_section_reader_entry_0 s at_ Q .ret ⟨[(2, (.ptr (Nm.loc 2) 0)), (3, (Ai t3))], [((Nm.loc 2), (.blk ty_api_Entry [(Ai h2_1_0), (Ai h2_1_1), (Ai h2_1_2)])), ((Nm.arg 0), (.blk ty_section_reader [(As h0_1_0), (Ai h0_1_1)]))]⟩ := kr (by kernel_rfl) h
theorem K_section_reader_entry_1_x0 (s : List UInt8) (at_ : Int) (Q : QQ) (t3 h2_1_0 : Int) (h2_1_1 h2_1_2 : Int) (h0_1_0 : List UInt8) (h0_1_1 : Int) (h :
 (Q (.tup [(.imm (.agg [(.int .i64 h2_1_0), (.int .i64 h2_1_1), (.int .i64 h2_1_2)])), (Ai t3)]) [((Nm.arg 0), (.blk ty_section_reader [(As h0_1_0), (Ai h0_1_1)]))])) : K_section_reader_entry_1 s at_ Q .ret ⟨[(2, (.ptr (Nm.loc 2) 0)), (3, (Ai t3))], [((Nm.loc 2), (.blk ty_api_Entry [(Ai h2_1_0), (Ai h2_1_1), (Ai h2_1_2)])), ((Nm.arg 0), (.blk ty_section_reader [(As h0_1_0), (Ai h0_1_1)]))]⟩ := kr (by kernel_rfl) h
theorem K_section_reader_entry_1_x1 (s : List UInt8) (at_ : Int) (Q : QQ) (t4 h0_1_0 : List UInt8) (h0_1_1 h2_1_0 : Int) (h2_1_1 h2_1_2 : Int) (h :
 (C_section_reader_entry_4 t4 h0_1_0 h0_1_1 h2_1_0 h2_1_1 h2_1_2 (K_section_reader_entry_0 s at_ Q))) : K_section_reader_entry_1 s at_ Q .normal ⟨[(0, (.ptr (Nm.arg 0) 0)), (2, (.ptr (Nm.loc 2) 0)), (4, (As t4))], [((Nm.arg 0), (.blk ty_section_reader [(As h0_1_0), (Ai h0_1_1)])), ((Nm.loc 2), (.blk ty_api_Entry [(Ai h2_1_0), (Ai h2_1_1), (Ai h2_1_2)]))]⟩ := kr (by kernel_rfl) h
theorem K_section_reader_entry_2_x0 (K : KK) (t3 h2_1_0 : Int) (h2_1_1 h2_1_2 : Int) (h0_1_0 : List UInt8) (h0_1_1 : Int) (h :
 (K .ret ⟨[(2, (.ptr (Nm.loc 2) 0)), (3, (Ai t3))], [((Nm.loc 2), (.blk ty_api_Entry [(Ai h2_1_0), (Ai h2_1_1), (Ai h2_1_2)])), ((Nm.arg 0), (.blk ty_section_reader [(As h0_1_0), (Ai h0_1_1)]))]⟩)) : K_section_reader_entry_2 K .ret ⟨[(2, (.ptr (Nm.loc 2) 0)), (3, (Ai t3))], [((Nm.loc 2), (.blk ty_api_Entry [(Ai h2_1_0), (Ai h2_1_1), (Ai h2_1_2)])), ((Nm.arg 0), (.blk ty_section_reader [(As h0_1_0), (Ai h0_1_1)]))]⟩ := kr (by kernel_rfl) h
theorem ok_section_reader_entry : FnOK E0.P 77 ac_section_reader_entry.code nt_section_reader_entry [.cell 2 51, .tmp 3] := fn_ok _ _ Tryd.f77 [(2, [0, 2, 4, 58], [0, 2, 4]), (4, [0, 2, 4], []), (8, [2, 4, 5], []), (12, [2, 9], [])] [2, 3] _ 89 Tryd.func77 (by kernel_rfl) (by kernel_rfl) (by kernel_rfl) (by kernel_rfl)
theorem F_section_reader_entry_of (s : List UInt8) (at_ : Int) (Q : QQ) (h :
 (Req ((0 : Int) ≤ at_ ∧ at_ ≤ IntKind.i64.wrap (at_ + (20 : Int)) ∧ IntKind.i64.wrap (at_ + (20 : Int)) ≤ (↑s.length : Int))
 (Let (List.drop at_.toNat (List.take (IntKind.i64.wrap (at_ + (20 : Int))).toNat s)) fun x0 =>
 Call E0.P fn_digits_Count [(As x0)] [] fun r1 g1 =>
 Req (g1 = [] ∧ r1 = .imm (.int .i64 (rI r1)))
 (Req ((!decide (rI r1 = (10 : Int))) = false → (0 : Int) ≤ (10 : Int) ∧ (10 : Int) < (↑x0.length : Int))
 (Let (bif !decide (rI r1 = (10 : Int)) then true else !decide ((↑(x0.getD (10 : Nat) 0).toNat : Int) = (32 : Int))) fun x2 =>
 Req (x2 = false → (0 : Int) ≤ (11 : Int) ∧ (11 : Int) ≤ (↑x0.length : Int))
 (Let (List.drop 11 x0) fun x3 =>
 Br (x2 == false)
 (Call E0.P fn_digits_Count [(As x3)] [] fun r4 g4 =>
 Req (g4 = [] ∧ r4 = .imm (.int .i64 (rI r4)))
 (Let (!decide (rI r4 = (5 : Int))) fun x5 =>
 Req (x5 = false → (0 : Int) ≤ (16 : Int) ∧ (16 : Int) < (↑x0.length : Int))
 (Let (bif x5 then true else !decide ((↑(x0.getD (16 : Nat) 0).toNat : Int) = (32 : Int))) fun x6 =>
 Req (x6 = false → (0 : Int) ≤ (17 : Int) ∧ (17 : Int) < (↑x0.length : Int))
 (Br (x6 == false)
 (Req ((!decide ((↑(x0.getD (17 : Nat) 0).toNat : Int) = (110 : Int))) = true →
 (0 : Int) ≤ (17 : Int) ∧ (17 : Int) < (↑x0.length : Int))
 (Let (bif !decide ((↑(x0.getD (17 : Nat) 0).toNat : Int) = (110 : Int)) then
 !decide ((↑(x0.getD (17 : Nat) 0).toNat : Int) = (102 : Int))
 else false) fun x7 =>
 Let (x7) fun x8 =>
 Req (x8 = false → (0 : Int) ≤ (18 : Int) ∧ (18 : Int) ≤ (↑x0.length : Int))
 (Let (List.drop 18 x0) fun x9 =>
 Br (x8 == false)
 (Call E0.P fn_section_ended [(As x9)] [] fun r10 g10 =>
 Req (g10 = [] ∧ r10 = .imm (.bool (rB r10)))
 (Let (!rB r10) fun x11 =>
 C_section_reader_entry_2 x0 x11 s at_ ((0 : Int)) ((0 : Int)) ((0 : Int)) (K_section_reader_entry_1 s at_ Q)))
 (Req ((!false) = true)
 (Let (true) fun x12 =>
 C_section_reader_entry_2 x0 x12 s at_ ((0 : Int)) ((0 : Int)) ((0 : Int)) (K_section_reader_entry_1 s at_ Q))))))
 (Req ((!false) = true)
 (Let (true) fun x13 =>
 Req (x13 = false → (0 : Int) ≤ (18 : Int) ∧ (18 : Int) ≤ (↑x0.length : Int))
 (Let (List.drop 18 x0) fun x14 =>
 Br (x13 == false)
 (Call E0.P fn_section_ended [(As x14)] [] fun r15 g15 =>
 Req (g15 = [] ∧ r15 = .imm (.bool (rB r15)))
 (Let (!rB r15) fun x16 =>
 C_section_reader_entry_2 x0 x16 s at_ ((0 : Int)) ((0 : Int)) ((0 : Int)) (K_section_reader_entry_1 s at_ Q)))
 (Req ((!false) = true)
 (Let (true) fun x17 =>
 C_section_reader_entry_2 x0 x17 s at_ ((0 : Int)) ((0 : Int)) ((0 : Int)) (K_section_reader_entry_1 s at_ Q))))))))))
 (Req ((!false) = true)
 (Let (true) fun x18 =>
 Req (x18 = false → (0 : Int) ≤ (16 : Int) ∧ (16 : Int) < (↑x0.length : Int))
 (Let (bif x18 then true else !decide ((↑(x0.getD (16 : Nat) 0).toNat : Int) = (32 : Int))) fun x19 =>
 Req (x19 = false → (0 : Int) ≤ (17 : Int) ∧ (17 : Int) < (↑x0.length : Int))
 (Br (x19 == false)
 (Req ((!decide ((↑(x0.getD (17 : Nat) 0).toNat : Int) = (110 : Int))) = true →
 (0 : Int) ≤ (17 : Int) ∧ (17 : Int) < (↑x0.length : Int))
 (Let (bif !decide ((↑(x0.getD (17 : Nat) 0).toNat : Int) = (110 : Int)) then
 !decide ((↑(x0.getD (17 : Nat) 0).toNat : Int) = (102 : Int))
 else false) fun x20 =>
 Let (x20) fun x21 =>
 Req (x21 = false → (0 : Int) ≤ (18 : Int) ∧ (18 : Int) ≤ (↑x0.length : Int))
 (Let (List.drop 18 x0) fun x22 =>
 Br (x21 == false)
 (Call E0.P fn_section_ended [(As x22)] [] fun r23 g23 =>
 Req (g23 = [] ∧ r23 = .imm (.bool (rB r23)))
 (Let (!rB r23) fun x24 =>
 C_section_reader_entry_2 x0 x24 s at_ ((0 : Int)) ((0 : Int)) ((0 : Int)) (K_section_reader_entry_1 s at_ Q)))
 (Req ((!false) = true)
 (Let (true) fun x25 =>
 C_section_reader_entry_2 x0 x25 s at_ ((0 : Int)) ((0 : Int)) ((0 : Int)) (K_section_reader_entry_1 s at_ Q))))))
 (Req ((!false) = true)
 (Let (true) fun x26 =>
 Req (x26 = false → (0 : Int) ≤ (18 : Int) ∧ (18 : Int) ≤ (↑x0.length : Int))
 (Let (List.drop 18 x0) fun x27 =>
 Br (x26 == false)
 (Call E0.P fn_section_ended [(As x27)] [] fun r28 g28 =>
 Req (g28 = [] ∧ r28 = .imm (.bool (rB r28)))
 (Let (!rB r28) fun x29 =>
 C_section_reader_entry_2 x0 x29 s at_ ((0 : Int)) ((0 : Int)) ((0 : Int)) (K_section_reader_entry_1 s at_ Q)))
 (Req ((!false) = true)
 (Let (true) fun x30 =>
 C_section_reader_entry_2 x0 x30 s at_ ((0 : Int)) ((0 : Int)) ((0 : Int)) (K_section_reader_entry_1 s at_ Q)))))))))))))))) : Call E0.P fn_section_reader_entry [(.ptr (.arg 0) 0)] [(.arg 0, .blk ty_section_reader [.imm (.str s), .imm (.int .i64 at_)])] Q := fun_rule (envN E0 nt_section_reader_entry) (okE nt_section_reader_entry) 3 0 77 ac_section_reader_entry [.cell 2 51, .tmp 3] ok_section_reader_entry _ _ Q rfl rfl (kr (by kernel_rfl) h)
noncomputable def ac_section_out : AC := (annot [] [4] (codeOf Tryd.f66) 0).1
abbrev nt_section_out : Nat := 12
theorem ok_section_out : FnOK E0.P 66 ac_section_out.code nt_section_out [.tmp 4] := fn_ok _ _ Tryd.f66 [] [4] _ 12 Tryd.func66 (by kernel_rfl) (by kernel_rfl) (by kernel_rfl) (by kernel_rfl)
theorem F_section_out_of (a0 a1 : Int) (Q : QQ) (h :
 (Let (bif decide (a0 < (0 : Int)) then true else decide (a1 < a0)) fun x0 =>
 Q (Ab x0) [])) : Call E0.P fn_section_out [(Ai a0), (Ai a1)] [] Q := fun_rule (envN E0 nt_section_out) (okE nt_section_out) 3 0 66 ac_section_out [.tmp 4] ok_section_out _ _ Q rfl rfl (kr (by kernel_rfl) h)
noncomputable def ac_section_ended : AC := (annot [] [2] (codeOf Tryd.f108) 0).1
abbrev nt_section_ended : Nat := 13
theorem ok_section_ended : FnOK E0.P 108 ac_section_ended.code nt_section_ended [.tmp 2] := fn_ok _ _ Tryd.f108 [] [2] _ 13 Tryd.func108 (by kernel_rfl) (by kernel_rfl) (by kernel_rfl) (by kernel_rfl)
theorem F_section_ended_of (a0 : List UInt8) (Q : QQ) (h :
 (Let (bif a0 == [32, 10] then true else a0 == [32, 13]) fun x0 =>
 Let (bif x0 then true else a0 == [13, 10]) fun x1 =>
 Q (Ab x1) [])) : Call E0.P fn_section_ended [(As a0)] [] Q := fun_rule (envN E0 nt_section_ended) (okE nt_section_ended) 3 0 108 ac_section_ended [.tmp 2] ok_section_ended _ _ Q rfl rfl (kr (by kernel_rfl) h)
noncomputable def ac_digits_Count : AC := (annot [(2, [0, 6], []), (4, [0], []), (9, [0], [])] [2] (codeOf Tryd.f41) 0).1
abbrev nt_digits_Count : Nat := 17
def L_digits_Count_2 (t0 h6s : List UInt8) (h6p : Nat) (K : KK) : Prop := LoopOK 2 E0.P nt_digits_Count (lbodyOf 2 ac_digits_Count).code ⟨[(0, (As t0)), (6, (.ptr (Nm.loc 6) 0))], [((Nm.loc 6), (.sit h6s h6p))]⟩ K
def C_digits_Count_9 (t0 : List UInt8) (K : KK) : Prop := CutOK 9 E0.P nt_digits_Count (cbodyOf 9 ac_digits_Count).code ⟨[(0, (As t0))], []⟩ K
def K_digits_Count_0 (Q : QQ) : KK := kE fun st => finish 0 E0.T [.tmp 2] [] Q st
def K_digits_Count_1 (Q : QQ) : KK := kF 0 (fun st => CutOK 9 E0.P nt_digits_Count (cbodyOf 9 ac_digits_Count).code (mask [0] st) (K_digits_Count_0 Q)) fun st => finish 0 E0.T [.tmp 2] [] Q st
theorem L_digits_Count_2_of (t0 h6s : List UInt8) (h6p : Nat) (K : KK) (h :
 (Br (decide (h6p < h6s.length))
 (Br (true)
 (Call E0.P fn_digits_digit [(.imm (.int .i32 ((↑(decodeAt h6s h6p).fst : Int))))] [] fun r0 g0 =>
 Req (g0 = [] ∧ r0 = .imm (.bool (rB r0)))
 (Br (!rB r0)
 (K .ret ⟨[(2, (Ai ((↑h6p : Int))))], []⟩)
 (L_digits_Count_2 t0 h6s (h6p + (decodeAt h6s h6p).snd) K)))
 (K (.exit 0) ⟨[(0, (As t0))], []⟩))
 (Br (false)
 (False)
 (K (.exit 0) ⟨[(0, (As t0))], []⟩)))) : L_digits_Count_2 t0 h6s h6p K := loop_rule (envN E0 nt_digits_Count) (okE nt_digits_Count) 3 2 (lbodyOf 2 ac_digits_Count) [0, 6] _ K rfl (kr (by kernel_rfl) h)
theorem C_digits_Count_9_of (t0 : List UInt8) (K : KK) (h :
 (K .ret ⟨[(2, (Ai ((↑t0.length : Int))))], []⟩)) : C_digits_Count_9 t0 K := cut_rule (envN E0 nt_digits_Count) (okE nt_digits_Count) 3 9 (cbodyOf 9 ac_digits_Count) [] _ K rfl (kr (by kernel_rfl) h)
theorem K_digits_Count_0_x0 (Q : QQ) (t2 : Int) (h :
 (Q (Ai t2) [])) : K_digits_Count_0 Q .ret ⟨[(2, (Ai t2))], []⟩ := kr (by kernel_rfl) h
theorem K_digits_Count_1_x0 (Q : QQ) (t2 : Int) (h :
 (Q (Ai t2) [])) : K_digits_Count_1 Q .ret ⟨[(2, (Ai t2))], []⟩ := kr (by kernel_rfl) h
theorem K_digits_Count_1_x1 (Q : QQ) (t0 : List UInt8) (h :
 (C_digits_Count_9 t0 (K_digits_Count_0 Q))) : K_digits_Count_1 Q (.exit 0) ⟨[(0, (As t0))], []⟩ := kr (by kernel_rfl) h
theorem ok_digits_Count : FnOK E0.P 41 ac_digits_Count.code nt_digits_Count [.tmp 2] := fn_ok _ _ Tryd.f41 [(2, [0, 6], []), (4, [0], []), (9, [0], [])] [2] _ 17 Tryd.func41 (by kernel_rfl) (by kernel_rfl) (by kernel_rfl) (by kernel_rfl)
theorem F_digits_Count_of (a0 : List UInt8) (Q : QQ) (h :
 (L_digits_Count_2 a0 a0 0 (K_digits_Count_1 Q))) : Call E0.P fn_digits_Count [(As a0)] [] Q := fun_rule (envN E0 nt_digits_Count) (okE nt_digits_Count) 3 0 41 ac_digits_Count [.tmp 2] ok_digits_Count _ _ Q rfl rfl (kr (by kernel_rfl) h)
noncomputable def ac_digits_Put : AC := (annot [] [2] (codeOf Tryd.f67) 0).1
abbrev nt_digits_Put : Nat := 5
theorem ok_digits_Put : FnOK E0.P 67 ac_digits_Put.code nt_digits_Put [.tmp 2] := fn_ok _ _ Tryd.f67 [] [2] _ 5 Tryd.func67 (by kernel_rfl) (by kernel_rfl) (by kernel_rfl) (by kernel_rfl)
theorem F_digits_Put_of (a0 : Int) (Q : QQ) (h :
 (Call E0.P fn_strconv_Itoa [(Ai a0)] [] fun r0 g0 =>
 Req (g0 = [] ∧ r0 = .imm (.str (rS r0)))
 (Q (As (rS r0)) []))) : Call E0.P fn_digits_Put [(Ai a0)] [] Q := fun_rule (envN E0 nt_digits_Put) (okE nt_digits_Put) 3 0 67 ac_digits_Put [.tmp 2] ok_digits_Put _ _ Q rfl rfl (kr (by kernel_rfl) h)
noncomputable def ac_digits_Pad : AC := (annot [] [4, 5] (codeOf Tryd.f70) 0).1
abbrev nt_digits_Pad : Nat := 30
theorem ok_digits_Pad : FnOK E0.P 70 ac_digits_Pad.code nt_digits_Pad [.tmp 4, .tmp 5] := fn_ok _ _ Tryd.f70 [] [4, 5] _ 30 Tryd.func70 (by kernel_rfl) (by kernel_rfl) (by kernel_rfl) (by kernel_rfl)
theorem F_digits_Pad_of (a0 a1 : Int) (Q : QQ) (h :
 (Let (bif decide (a1 < (1 : Int)) then true else decide ((20 : Int) < a1)) fun x0 =>
 Br (x0)
 (Q (.tup [(.imm (.str [])), (Ai 2)]) [])
 (Call E0.P fn_digits_Put [(Ai a0)] [] fun r1 g1 =>
 Req (g1 = [] ∧ r1 = .imm (.str (rS r1)))
 (Let (bif decide (a0 < (0 : Int)) then true else decide (a1 < (↑(rS r1).length : Int))) fun x2 =>
 Br (x2)
 (Q (.tup [(.imm (.str [])), (Ai 3)]) [])
 (Call E0.P fn_strings_Repeat [(.imm (.str [48])), (.imm (.int .i64 (IntKind.i64.wrap (a1 - (↑(rS r1).length : Int)))))] [] fun r3 g3 =>
 Req (g3 = [] ∧ r3 = .imm (.str (rS r3)))
 (Req ((↑((rS r3).length + (rS r1).length) : Int) ≤ (9223372036854775807 : Int))
 (Q (.tup [(As (rS r3 ++ rS r1)), (Ai 0)]) []))))))) : Call E0.P fn_digits_Pad [(Ai a0), (Ai a1)] [] Q := fun_rule (envN E0 nt_digits_Pad) (okE nt_digits_Pad) 3 0 70 ac_digits_Pad [.tmp 4, .tmp 5] ok_digits_Pad _ _ Q rfl rfl (kr (by kernel_rfl) h)
noncomputable def ac_digits_Fixed : AC := (annot [(1, [0, 15], [0]), (3, [0], []), (7, [4, 5, 6], []), (9, [5], []), (15, [5], [])] [2, 3] (codeOf Tryd.f107) 0).1
abbrev nt_digits_Fixed : Nat := 31
def C_digits_Fixed_1 (t0 : List UInt8) (t15 : Bool) (K : KK) : Prop := CutOK 1 E0.P nt_digits_Fixed (cbodyOf 1 ac_digits_Fixed).code ⟨[(0, (As t0)), (15, (Ab t15))], []⟩ K
def C_digits_Fixed_3 (t0 : List UInt8) (K : KK) : Prop := CutOK 3 E0.P nt_digits_Fixed (cbodyOf 3 ac_digits_Fixed).code ⟨[(0, (As t0))], []⟩ K
def L_digits_Fixed_7 (t5 t6 h173_1 : Int) (h171_1 : List UInt8) (K : KK) : Prop := LoopOK 7 E0.P nt_digits_Fixed (lbodyOf 7 ac_digits_Fixed).code ⟨[(4, (.fn fn_digits_taker_1 [(.ptr (Nm.sub 17 (Nm.loc 3)) 0), (.ptr (Nm.sub 17 (Nm.loc 1)) 0)])), (5, (Ai t5)), (6, (Ai t6))], [((Nm.sub 17 (Nm.loc 3)), (.blk ty_int [(Ai h173_1)])), ((Nm.sub 17 (Nm.loc 1)), (.blk ty_string [(As h171_1)]))]⟩ K
def C_digits_Fixed_15 (t5 : Int) (K : KK) : Prop := CutOK 15 E0.P nt_digits_Fixed (cbodyOf 15 ac_digits_Fixed).code ⟨[(5, (Ai t5))], []⟩ K
def K_digits_Fixed_0 (Q : QQ) : KK := kE fun st => finish 0 E0.T [.tmp 2, .tmp 3] [] Q st
def K_digits_Fixed_1 (Q : QQ) : Ex → St → Prop
 | .normal, st => CutOK 3 E0.P nt_digits_Fixed (cbodyOf 3 ac_digits_Fixed).code (mask [0] st) (K_digits_Fixed_0 Q)
 | .exit i, st => False
 | .goto i, st => False
 | .ret, st => finish 0 E0.T [.tmp 2, .tmp 3] [] Q st
def K_digits_Fixed_2 (K : KK) : KK := kP [] K
def K_digits_Fixed_3 (K : KK) : KK := kC 0 (fun st => CutOK 15 E0.P nt_digits_Fixed (cbodyOf 15 ac_digits_Fixed).code (mask [5] st) (K_digits_Fixed_2 K)) K
theorem C_digits_Fixed_1_of (t0 : List UInt8) (t15 : Bool) (K : KK) (h :
 (Br (t15)
 (K .ret ⟨[(2, (Ai 0)), (3, (Ai 4))], []⟩)
 (K .normal ⟨[(0, (As t0))], []⟩))) : C_digits_Fixed_1 t0 t15 K := cut_rule (envN E0 nt_digits_Fixed) (okE nt_digits_Fixed) 3 1 (cbodyOf 1 ac_digits_Fixed) [0] _ K rfl (kr (by kernel_rfl) h)
theorem C_digits_Fixed_3_of (t0 : List UInt8) (K : KK) (h :
 (Req (decide ((↑t0.length : Int) ≤ (0 : Int)) = false → (0 : Int) ≤ (0 : Int) ∧ (0 : Int) < (↑t0.length : Int))
 (Br (decide ((↑t0.length : Int) ≤ (0 : Int)) == false)
 (Call E0.P fn_digits_digit [(.imm (.int .i32 (IntKind.i32.wrap (↑(t0.getD (0 : Nat) 0).toNat : Int))))] [] fun r0 g0 =>
 Req (g0 = [] ∧ r0 = .imm (.bool (rB r0)))
 (Let (!rB r0) fun x1 =>
 Br (x1)
 (L_digits_Fixed_7 ((0 : Int)) ((-1 : Int)) ((0 : Int)) t0 (K_digits_Fixed_3 K))
 (Req ((0 : Int) ≤ IntKind.i64.wrap (IntKind.i64.wrap ((0 : Int) + (1 : Int)) - (1 : Int)) ∧
 IntKind.i64.wrap (IntKind.i64.wrap ((0 : Int) + (1 : Int)) - (1 : Int)) < (↑t0.length : Int))
 (L_digits_Fixed_7 ((0 : Int)) (IntKind.i64.wrap (IntKind.u8.wrap ((↑(t0.getD (0 : Nat) 0).toNat : Int) - (48 : Int)))) (IntKind.i64.wrap ((0 : Int) + (1 : Int))) t0 (K_digits_Fixed_3 K)))))
 (Req ((!false) = true)
 (Let (true) fun x2 =>
 Br (x2)
 (L_digits_Fixed_7 ((0 : Int)) ((-1 : Int)) ((0 : Int)) t0 (K_digits_Fixed_3 K))
 (Req ((0 : Int) ≤ IntKind.i64.wrap (IntKind.i64.wrap ((0 : Int) + (1 : Int)) - (1 : Int)) ∧
 IntKind.i64.wrap (IntKind.i64.wrap ((0 : Int) + (1 : Int)) - (1 : Int)) < (↑t0.length : Int))
 (L_digits_Fixed_7 ((0 : Int)) (IntKind.i64.wrap (IntKind.u8.wrap ((↑(t0.getD (0 : Nat) 0).toNat : Int) - (48 : Int)))) (IntKind.i64.wrap ((0 : Int) + (1 : Int))) t0 (K_digits_Fixed_3 K)))))))) : C_digits_Fixed_3 t0 K := cut_rule (envN E0 nt_digits_Fixed) (okE nt_digits_Fixed) 3 3 (cbodyOf 3 ac_digits_Fixed) [] _ K rfl (kr (by kernel_rfl) h)
theorem L_digits_Fixed_7_of (t5 t6 h173_1 : Int) (h171_1 : List UInt8) (K : KK) (h :
 (Br (decide ((0 : Int) ≤ t6))
 (Br (decide ((2147483647 : Int) < IntKind.i64.wrap (IntKind.i64.wrap ((10 : Int) * t5) + t6)))
 (K .ret ⟨[(2, (Ai 0)), (3, (Ai 3))], []⟩)
 (Req (decide ((↑h171_1.length : Int) ≤ h173_1) = false → (0 : Int) ≤ h173_1 ∧ h173_1 < (↑h171_1.length : Int))
 (Br (decide ((↑h171_1.length : Int) ≤ h173_1) == false)
 (Call E0.P fn_digits_digit [(.imm (.int .i32 (IntKind.i32.wrap (↑(h171_1.getD h173_1.toNat 0).toNat : Int))))] [] fun r0 g0 =>
 Req (g0 = [] ∧ r0 = .imm (.bool (rB r0)))
 (Let (!rB r0) fun x1 =>
 Br (x1)
 (L_digits_Fixed_7 (IntKind.i64.wrap (IntKind.i64.wrap ((10 : Int) * t5) + t6)) ((-1 : Int)) h173_1 h171_1 K)
 (Req ((0 : Int) ≤ IntKind.i64.wrap (IntKind.i64.wrap (h173_1 + (1 : Int)) - (1 : Int)) ∧
 IntKind.i64.wrap (IntKind.i64.wrap (h173_1 + (1 : Int)) - (1 : Int)) < (↑h171_1.length : Int))
 (L_digits_Fixed_7 (IntKind.i64.wrap (IntKind.i64.wrap ((10 : Int) * t5) + t6)) (IntKind.i64.wrap
 (IntKind.u8.wrap
 ((↑(h171_1.getD (IntKind.i64.wrap (IntKind.i64.wrap (h173_1 + (1 : Int)) - (1 : Int))).toNat 0).toNat :
 Int) -
 (48 : Int)))) (IntKind.i64.wrap (h173_1 + (1 : Int))) h171_1 K))))
 (Req ((!false) = true)
 (Let (true) fun x2 =>
 Br (x2)
 (L_digits_Fixed_7 (IntKind.i64.wrap (IntKind.i64.wrap ((10 : Int) * t5) + t6)) ((-1 : Int)) h173_1 h171_1 K)
 (Req ((0 : Int) ≤ IntKind.i64.wrap (IntKind.i64.wrap (h173_1 + (1 : Int)) - (1 : Int)) ∧
 IntKind.i64.wrap (IntKind.i64.wrap (h173_1 + (1 : Int)) - (1 : Int)) < (↑h171_1.length : Int))
 (L_digits_Fixed_7 (IntKind.i64.wrap (IntKind.i64.wrap ((10 : Int) * t5) + t6)) (IntKind.i64.wrap
 (IntKind.u8.wrap
 ((↑(h171_1.getD (IntKind.i64.wrap (IntKind.i64.wrap (h173_1 + (1 : Int)) - (1 : Int))).toNat 0).toNat :
 Int) -
 (48 : Int)))) (IntKind.i64.wrap (h173_1 + (1 : Int))) h171_1 K)))))))
 (K (.exit 0) ⟨[(5, (Ai t5))], []⟩))) : L_digits_Fixed_7 t5 t6 h173_1 h171_1 K := loop_rule (envN E0 nt_digits_Fixed) (okE nt_digits_Fixed) 3 7 (lbodyOf 7 ac_digits_Fixed) [4, 5, 6] _ K rfl (kr (by kernel_rfl) h)
theorem C_digits_Fixed_15_of (t5 : Int) (K : KK) (h :
 (K .ret ⟨[(2, (Ai t5)), (3, (Ai 0))], []⟩)) : C_digits_Fixed_15 t5 K := cut_rule (envN E0 nt_digits_Fixed) (okE nt_digits_Fixed) 3 15 (cbodyOf 15 ac_digits_Fixed) [] _ K rfl (kr (by kernel_rfl) h)
theorem K_digits_Fixed_0_x0 (Q : QQ) (t2 t3 : Int) (h :
 (Q (.tup [(Ai t2), (Ai t3)]) [])) : K_digits_Fixed_0 Q .ret ⟨[(2, (Ai t2)), (3, (Ai t3))], []⟩ := kr (by kernel_rfl) h
theorem K_digits_Fixed_1_x0 (Q : QQ) (t2 t3 : Int) (h :
 (Q (.tup [(Ai t2), (Ai t3)]) [])) : K_digits_Fixed_1 Q .ret ⟨[(2, (Ai t2)), (3, (Ai t3))], []⟩ := kr (by kernel_rfl) h
theorem K_digits_Fixed_1_x1 (Q : QQ) (t0 : List UInt8) (h :
 (C_digits_Fixed_3 t0 (K_digits_Fixed_0 Q))) : K_digits_Fixed_1 Q .normal ⟨[(0, (As t0))], []⟩ := kr (by kernel_rfl) h
theorem K_digits_Fixed_2_x0 (K : KK) (t2 t3 : Int) (h :
 (K .ret ⟨[(2, (Ai t2)), (3, (Ai t3))], []⟩)) : K_digits_Fixed_2 K .ret ⟨[(2, (Ai t2)), (3, (Ai t3))], []⟩ := kr (by kernel_rfl) h
theorem K_digits_Fixed_3_x0 (K : KK) (t2 t3 : Int) (h :
 (K .ret ⟨[(2, (Ai t2)), (3, (Ai t3))], []⟩)) : K_digits_Fixed_3 K .ret ⟨[(2, (Ai t2)), (3, (Ai t3))], []⟩ := kr (by kernel_rfl) h
theorem K_digits_Fixed_3_x1 (K : KK) (t5 : Int) (h :
 (C_digits_Fixed_15 t5 (K_digits_Fixed_2 K))) : K_digits_Fixed_3 K (.exit 0) ⟨[(5, (Ai t5))], []⟩ := kr (by kernel_rfl) h
theorem ok_digits_Fixed : FnOK E0.P 107 ac_digits_Fixed.code nt_digits_Fixed [.tmp 2, .tmp 3] := fn_ok _ _ Tryd.f107 [(1, [0, 15], [0]), (3, [0], []), (7, [4, 5, 6], []), (9, [5], []), (15, [5], [])] [2, 3] _ 31 Tryd.func107 (by kernel_rfl) (by kernel_rfl) (by kernel_rfl) (by kernel_rfl)
theorem F_digits_Fixed_of (a0 : List UInt8) (Q : QQ) (h :
 (Br ((a0 == []) == false)
 (Call E0.P fn_digits_Count [(As a0)] [] fun r0 g0 =>
 Req (g0 = [] ∧ r0 = .imm (.int .i64 (rI r0)))
 (Let (!decide (rI r0 = (↑a0.length : Int))) fun x1 =>
 C_digits_Fixed_1 a0 x1 (K_digits_Fixed_1 Q)))
 (Req ((!false) = true)
 (Let (true) fun x2 =>
 C_digits_Fixed_1 a0 x2 (K_digits_Fixed_1 Q))))) : Call E0.P fn_digits_Fixed [(As a0)] [] Q := fun_rule (envN E0 nt_digits_Fixed) (okE nt_digits_Fixed) 3 0 107 ac_digits_Fixed [.tmp 2, .tmp 3] ok_digits_Fixed _ _ Q rfl rfl (kr (by kernel_rfl) h)
noncomputable def ac_digits_digit : AC := (annot [] [2] (codeOf Tryd.f78) 0).1
abbrev nt_digits_digit : Nat := 9
theorem ok_digits_digit : FnOK E0.P 78 ac_digits_digit.code nt_digits_digit [.tmp 2] := fn_ok _ _ Tryd.f78 [] [2] _ 9 Tryd.func78 (by kernel_rfl) (by kernel_rfl) (by kernel_rfl) (by kernel_rfl)
theorem F_digits_digit_of (a0 : Int) (Q : QQ) (h :
 (Let (bif decide ((48 : Int) ≤ a0) then decide (a0 ≤ (57 : Int)) else false) fun x0 =>
 Q (Ab x0) [])) : Call E0.P fn_digits_digit [(.imm (.int .i32 a0))] [] Q := fun_rule (envN E0 nt_digits_digit) (okE nt_digits_digit) 3 0 78 ac_digits_digit [.tmp 2] ok_digits_digit _ _ Q rfl rfl (kr (by kernel_rfl) h)
end
end Go.Proofs.Sim.Se

import Derived.Test.YtcdjheflchglaaaDoorSeatBase
set_option linter.unusedVariables false
set_option maxRecDepth 100000
namespace Go.Proofs.Sim.Se
open Go Go.Proofs Go.Proofs.Sim
noncomputable section
noncomputable def ac_crossing_Check : AC := (annot [(3, [3, 7, 8, 9], []), (5, [], []), (19, [], [])] [2] (codeOf Tryd.f10) 0).1
abbrev nt_crossing_Check : Nat := 60
def L_crossing_Check_3 (t3 : Int) (t7r : LL) (t8 t9 : Int) (K : KK) : Prop := LoopOK 3 E0.P nt_crossing_Check (lbodyOf 3 ac_crossing_Check).code ⟨[(3, (Ai t3)), (7, (Al 4 t7r)), (8, (Ai t8)), (9, (Ai t9))], []⟩ K
def C_crossing_Check_19 (K : KK) : Prop := CutOK 19 E0.P nt_crossing_Check (cbodyOf 19 ac_crossing_Check).code ⟨[], []⟩ K
def K_crossing_Check_0 (Q : QQ) : KK := kE fun st => finish 0 E0.T [.tmp 2] [] Q st
def K_crossing_Check_1 (Q : QQ) : KK := kF 0 (fun st => CutOK 19 E0.P nt_crossing_Check (cbodyOf 19 ac_crossing_Check).code (mask [] st) (K_crossing_Check_0 Q)) fun st => finish 0 E0.T [.tmp 2] [] Q st
theorem L_crossing_Check_3_of (t3 : Int) (t7r : LL) (t8 t9 : Int) (K : KK) (h :
 (Br (decide (t9 < t8))
 (Req (((0 : Int) ≤ t9 ∧ t9 < (↑t7r.length : Int)) ∧
 shOK [.int .i64, .int .i64, .int .i64, .int .i64] (t7r.getD t9.toNat []) = true)
 (Br (decide (gI (t7r.getD t9.toNat []) 0 ≤ t3))
 (K .ret ⟨[(2, (Ai 15))], []⟩)
 (Br (decide ((8388607 : Int) < gI (t7r.getD t9.toNat []) 0))
 (K .ret ⟨[(2, (Ai 3))], []⟩)
 (Let (bif !decide (gI (t7r.getD t9.toNat []) 1 = (0 : Int)) then
 !decide (gI (t7r.getD t9.toNat []) 1 = (1 : Int))
 else false) fun x0 =>
 Let (bif x0 then !decide (gI (t7r.getD t9.toNat []) 1 = (2 : Int)) else false) fun x1 =>
 Br (x1)
 (K .ret ⟨[(2, (Ai 10))], []⟩)
 (Let (bif decide (gI (t7r.getD t9.toNat []) 2 < (0 : Int)) then true
 else decide ((67108864 : Int) < gI (t7r.getD t9.toNat []) 2)) fun x2 =>
 Let (bif x2 then true else decide (gI (t7r.getD t9.toNat []) 3 < (0 : Int))) fun x3 =>
 Let (bif x3 then true else decide ((65535 : Int) < gI (t7r.getD t9.toNat []) 3)) fun x4 =>
 Br (x4)
 (K .ret ⟨[(2, (Ai 3))], []⟩)
 (L_crossing_Check_3 (gI (t7r.getD t9.toNat []) 0) t7r t8 (IntKind.i64.wrap (t9 + (1 : Int))) K))))))
 (K (.exit 0) ⟨[], []⟩))) : L_crossing_Check_3 t3 t7r t8 t9 K := loop_rule (envN E0 nt_crossing_Check) (okE nt_crossing_Check) 3 3 (lbodyOf 3 ac_crossing_Check) [3, 7, 8, 9] _ K rfl (kr (by kernel_rfl) h)
theorem C_crossing_Check_19_of (K : KK) (h :
 (K .ret ⟨[(2, (Ai 0))], []⟩)) : C_crossing_Check_19  K := cut_rule (envN E0 nt_crossing_Check) (okE nt_crossing_Check) 3 19 (cbodyOf 19 ac_crossing_Check) [] _ K rfl (kr (by kernel_rfl) h)
theorem K_crossing_Check_0_x0 (Q : QQ) (t2 : Int) (h :
 (Q (Ai t2) [])) : K_crossing_Check_0 Q .ret ⟨[(2, (Ai t2))], []⟩ := kr (by kernel_rfl) h
theorem K_crossing_Check_1_x0 (Q : QQ) (t2 : Int) (h :
 (Q (Ai t2) [])) : K_crossing_Check_1 Q .ret ⟨[(2, (Ai t2))], []⟩ := kr (by kernel_rfl) h
theorem K_crossing_Check_1_x1 (Q : QQ) (h :
 (C_crossing_Check_19  (K_crossing_Check_0 Q))) : K_crossing_Check_1 Q (.exit 0) ⟨[], []⟩ := kr (by kernel_rfl) h
theorem ok_crossing_Check : FnOK E0.P 10 ac_crossing_Check.code nt_crossing_Check [.tmp 2] := fn_ok _ _ Tryd.f10 [(3, [3, 7, 8, 9], []), (5, [], []), (19, [], [])] [2] _ 60 Tryd.func10 (by kernel_rfl) (by kernel_rfl) (by kernel_rfl) (by kernel_rfl)
theorem F_crossing_Check_of (a0 : LL) (Q : QQ) (h :
 (L_crossing_Check_3 ((-1 : Int)) a0 ((↑a0.length : Int)) ((0 : Int)) (K_crossing_Check_1 Q))) : Call E0.P fn_crossing_Check [(Al 4 a0)] [] Q := fun_rule (envN E0 nt_crossing_Check) (okE nt_crossing_Check) 3 0 10 ac_crossing_Check [.tmp 2] ok_crossing_Check _ _ Q rfl rfl (kr (by kernel_rfl) h)
noncomputable def ac_crossing_Decode : AC := (annot [(13, [6, 7, 11, 12, 55, 56, 57], []), (15, [12], []), (24, [6, 7, 11, 12, 14, 16, 55, 56, 57], [6, 7, 11, 12, 55, 56, 57]), (25, [6, 7, 11, 12, 55, 56, 57], [6, 7, 11, 12, 55, 56, 57]), (26, [12], [])] [4, 5] (codeOf Tryd.f12) 0).1
abbrev nt_crossing_Decode : Nat := 111
def L_crossing_Decode_13 (t6r : LL) (t7 : Int) (t55r : LL) (t56 t57 : Int) (h54w : Bool) (h54r h12r : LL) (K : KK) : Prop := LoopOK 13 E0.P nt_crossing_Decode (lbodyOf 13 ac_crossing_Decode).code ⟨[(6, (Al 1 t6r)), (7, (Ai t7)), (11, (.own (Nm.loc 54))), (12, (.own (Nm.loc 12))), (55, (Al 1 t55r)), (56, (Ai t56)), (57, (Ai t57))], [((Nm.loc 54), (.arr 0 h54w 1 h54r)), ((Nm.loc 12), (.arr (ty_api_Row + 2) true 4 h12r))]⟩ K
def C_crossing_Decode_24 (t6r : LL) (t7 t14 : Int) (t55r : LL) (t56 t57 : Int) (h54r h12r h770r : LL) (K : KK) : Prop := CutOK 24 E0.P nt_crossing_Decode (cbodyOf 24 ac_crossing_Decode).code ⟨[(6, (Al 1 t6r)), (7, (Ai t7)), (11, (.own (Nm.loc 54))), (12, (.own (Nm.loc 12))), (14, (Ai t14)), (16, (.own (Nm.sub 77 (Nm.loc 0)))), (55, (Al 1 t55r)), (56, (Ai t56)), (57, (Ai t57))], [((Nm.loc 54), (.arr 0 false 1 h54r)), ((Nm.loc 12), (.arr (ty_api_Row + 2) true 4 h12r)), ((Nm.sub 77 (Nm.loc 0)), (.arr 0 true 1 h770r))]⟩ K
def C_crossing_Decode_26 (h12r : LL) (K : KK) : Prop := CutOK 26 E0.P nt_crossing_Decode (cbodyOf 26 ac_crossing_Decode).code ⟨[(12, (.own (Nm.loc 12)))], [((Nm.loc 12), (.arr (ty_api_Row + 2) true 4 h12r))]⟩ K
def C_crossing_Decode_25 (t6r : LL) (t7 : Int) (t55r : LL) (t56 t57 : Int) (h54r h12r : LL) (K : KK) : Prop := CutOK 25 E0.P nt_crossing_Decode (cbodyOf 25 ac_crossing_Decode).code ⟨[(6, (Al 1 t6r)), (7, (Ai t7)), (11, (.own (Nm.loc 54))), (12, (.own (Nm.loc 12))), (55, (Al 1 t55r)), (56, (Ai t56)), (57, (Ai t57))], [((Nm.loc 54), (.arr 0 false 1 h54r)), ((Nm.loc 12), (.arr (ty_api_Row + 2) true 4 h12r))]⟩ K
def K_crossing_Decode_0 (Q : QQ) : KK := kE fun st => finish 0 E0.T [.tmp 4, .tmp 5] [] Q st
def K_crossing_Decode_1 (Q : QQ) : KK := kF 0 (fun st => CutOK 26 E0.P nt_crossing_Decode (cbodyOf 26 ac_crossing_Decode).code (mask [12] st) (K_crossing_Decode_0 Q)) fun st => finish 0 E0.T [.tmp 4, .tmp 5] [] Q st
def K_crossing_Decode_2 (K : KK) : Ex → St → Prop
 | .normal, st => LoopOK 13 E0.P nt_crossing_Decode (lbodyOf 13 ac_crossing_Decode).code (mask [6, 7, 11, 12, 55, 56, 57] st) K
 | .exit i, st => K (.exit i) st
 | .goto i, st => K (.goto i) st
 | .ret, st => K .ret st
def K_crossing_Decode_3 (K : KK) : KK := kC 1 (fun st => CutOK 25 E0.P nt_crossing_Decode (cbodyOf 25 ac_crossing_Decode).code (mask [6, 7, 11, 12, 55, 56, 57] st) (K_crossing_Decode_2 K)) K
theorem L_crossing_Decode_13_of (t6r : LL) (t7 : Int) (t55r : LL) (t56 t57 : Int) (h54w : Bool) (h54r h12r : LL) (K : KK) (h :
 (Br (decide (t57 < t56))
 (Req (((0 : Int) ≤ t57 ∧ t57 < (↑t55r.length : Int)) ∧ shOK [.int .i64] (t55r.getD t57.toNat []) = true)
 (Req ((0 : Int) ≤ IntKind.i64.wrap (t57 * t7) ∧
 IntKind.i64.wrap (t57 * t7) ≤ IntKind.i64.wrap (IntKind.i64.wrap (t57 * t7) + t7) ∧
 IntKind.i64.wrap (IntKind.i64.wrap (t57 * t7) + t7) ≤ IntKind.i64.wrap (IntKind.i64.wrap (t57 * t7) + t7) ∧
 IntKind.i64.wrap (IntKind.i64.wrap (t57 * t7) + t7) ≤ (↑h54r.length : Int))
 (Req (∀ (r : List IV),
 r ∈
 List.drop (IntKind.i64.wrap (t57 * t7)).toNat
 (List.take (IntKind.i64.wrap (IntKind.i64.wrap (t57 * t7) + t7)).toNat h54r) →
 shOK [.int .u8] r = true)
 (Call E0.P fn_fields_Cut [(.imm (.str (List.map (fun r => UInt8.ofNat (gI r 0).toNat)
 (List.drop (IntKind.i64.wrap (t57 * t7)).toNat
 (List.take (IntKind.i64.wrap (IntKind.i64.wrap (t57 * t7) + t7)).toNat h54r))))), (Al 1 t6r)] [] fun r0 g0 =>
 Req (g0 = [] ++ [(Nm.loc 0, Entry.arr 0 true 1 (arrRows g0 (Nm.loc 0)))] ∧
 r0 = .tup [AV.own (Nm.loc 0), .imm (.int .i64 (rI (rT r0 1)))])
 (Br (!decide (rI (rT r0 1) = (0 : Int)))
 (K .ret ⟨[(4, (.own (Nm.loc 4))), (5, (Ai (rI (rT r0 1))))], [((Nm.loc 4), (.arr (ty_api_Row + 2) true 4 []))]⟩)
 (Req (((0 : Int) ≤ (0 : Int) ∧ (0 : Int) < (↑t6r.length : Int)) ∧ shOK [.int .i64] (t6r.getD 0 []) = true)
 (Br (decide (gI (t6r.getD 0 []) 0 = (0 : Int)))
 (Req ((0 : Int) ≤ (0 : Int) ∧ (0 : Int) < (↑(arrRows g0 (Nm.loc (0 : Nat))).length : Int))
 (Req (0 < (arrRows g0 (Nm.loc 0)).length)
 (C_crossing_Decode_24 t6r t7 (gI (t55r.getD t57.toNat []) 0) t55r t56 t57 h54r h12r ((arrRows g0 (Nm.loc 0)).set 0 [.int .i64 (1 : Int)]) (K_crossing_Decode_3 K))))
 (C_crossing_Decode_24 t6r t7 (gI (t55r.getD t57.toNat []) 0) t55r t56 t57 h54r h12r (arrRows g0 (Nm.loc 0)) (K_crossing_Decode_3 K)))))))))
 (K (.exit 0) ⟨[(12, (.own (Nm.loc 12)))], [((Nm.loc 12), (.arr (ty_api_Row + 2) true 4 h12r))]⟩))) : L_crossing_Decode_13 t6r t7 t55r t56 t57 h54w h54r h12r K := loop_rule (envN E0 nt_crossing_Decode) (okE nt_crossing_Decode) 3 13 (lbodyOf 13 ac_crossing_Decode) [6, 7, 11, 12, 55, 56, 57] _ K rfl (kr (by kernel_rfl) h)
theorem C_crossing_Decode_24_of (t6r : LL) (t7 t14 : Int) (t55r : LL) (t56 t57 : Int) (h54r h12r h770r : LL) (K : KK) (h :
 (Req ((0 : Int) ≤ (0 : Int) ∧ (0 : Int) < (↑h770r.length : Int))
 (Req (0 < h770r.length ∧
 shOK [.int .i64] (List.take 1 (List.drop 0 (h770r.getD 0 []))) = true)
 (Req ((0 : Int) ≤ (1 : Int) ∧ (1 : Int) < (↑h770r.length : Int))
 (Req (1 < h770r.length ∧
 shOK [.int .i64] (List.take 1 (List.drop 0 (h770r.getD 1 []))) = true)
 (Req ((0 : Int) ≤ (2 : Int) ∧ (2 : Int) < (↑h770r.length : Int))
 (Req (2 < h770r.length ∧
 shOK [.int .i64] (List.take 1 (List.drop 0 (h770r.getD 2 []))) = true)
 (Req ((h12r.length + 1) * 32 ≤ 140737488355328 ∧ h12r.length + 1 ≤ 140737488355328)
 (K .normal ⟨[(6, (Al 1 t6r)), (7, (Ai t7)), (11, (.own (Nm.loc 54))), (12, (.own (Nm.loc 12))), (55, (Al 1 t55r)), (56, (Ai t56)), (57, (Ai t57))], [((Nm.loc 54), (.arr 0 false 1 h54r)), ((Nm.loc 12), (.arr (ty_api_Row + 2) true 4 (h12r ++
 [[.int .i64 t14,
 .int .i64 (gI (List.take 1 (List.drop 0 (h770r.getD 0 []))) 0),
 .int .i64 (gI (List.take 1 (List.drop 0 (h770r.getD 1 []))) 0),
 .int .i64 (gI (List.take 1 (List.drop 0 (h770r.getD 2 []))) 0)]])))]⟩))))))))) : C_crossing_Decode_24 t6r t7 t14 t55r t56 t57 h54r h12r h770r K := cut_rule (envN E0 nt_crossing_Decode) (okE nt_crossing_Decode) 3 24 (cbodyOf 24 ac_crossing_Decode) [6, 7, 11, 12, 55, 56, 57] _ K rfl (kr (by kernel_rfl) h)
theorem C_crossing_Decode_26_of (h12r : LL) (K : KK) (h :
 (Call E0.P fn_crossing_Check [(Al 4 h12r)] [] fun r0 g0 =>
 Req (g0 = [] ∧ r0 = .imm (.int .i64 (rI r0)))
 (Br (!decide (rI r0 = (0 : Int)))
 (K .ret ⟨[(4, (.own (Nm.loc 4))), (5, (Ai (rI r0)))], [((Nm.loc 4), (.arr (ty_api_Row + 2) true 4 []))]⟩)
 (K .ret ⟨[(4, (.own (Nm.loc 12))), (5, (Ai 0))], [((Nm.loc 12), (.arr (ty_api_Row + 2) false 4 h12r))]⟩)))) : C_crossing_Decode_26 h12r K := cut_rule (envN E0 nt_crossing_Decode) (okE nt_crossing_Decode) 3 26 (cbodyOf 26 ac_crossing_Decode) [] _ K rfl (kr (by kernel_rfl) h)
theorem C_crossing_Decode_25_of (t6r : LL) (t7 : Int) (t55r : LL) (t56 t57 : Int) (h54r h12r : LL) (K : KK) (h :
 (K .normal ⟨[(6, (Al 1 t6r)), (7, (Ai t7)), (11, (.own (Nm.loc 54))), (12, (.own (Nm.loc 12))), (55, (Al 1 t55r)), (56, (Ai t56)), (57, (Ai (IntKind.i64.wrap (t57 + (1 : Int)))))], [((Nm.loc 54), (.arr 0 false 1 h54r)), ((Nm.loc 12), (.arr (ty_api_Row + 2) true 4 h12r))]⟩)) : C_crossing_Decode_25 t6r t7 t55r t56 t57 h54r h12r K := cut_rule (envN E0 nt_crossing_Decode) (okE nt_crossing_Decode) 3 25 (cbodyOf 25 ac_crossing_Decode) [6, 7, 11, 12, 55, 56, 57] _ K rfl (kr (by kernel_rfl) h)
theorem K_crossing_Decode_0_x0 (Q : QQ) (t5 : Int) (h4r : LL) (h :
 (Q (.tup [(Al 4 h4r), (Ai t5)]) [])) : K_crossing_Decode_0 Q .ret ⟨[(4, (.own (Nm.loc 4))), (5, (Ai t5))], [((Nm.loc 4), (.arr (ty_api_Row + 2) true 4 h4r))]⟩ := kr (by kernel_rfl) h
theorem K_crossing_Decode_0_x1 (Q : QQ) (t5 : Int) (h12r : LL) (h :
 (Q (.tup [(Al 4 h12r), (Ai t5)]) [])) : K_crossing_Decode_0 Q .ret ⟨[(4, (.own (Nm.loc 12))), (5, (Ai t5))], [((Nm.loc 12), (.arr (ty_api_Row + 2) false 4 h12r))]⟩ := kr (by kernel_rfl) h
theorem K_crossing_Decode_1_x0 (Q : QQ) (t5 : Int) (h4r : LL) (h :
 (Q (.tup [(Al 4 h4r), (Ai t5)]) [])) : K_crossing_Decode_1 Q .ret ⟨[(4, (.own (Nm.loc 4))), (5, (Ai t5))], [((Nm.loc 4), (.arr (ty_api_Row + 2) true 4 h4r))]⟩ := kr (by kernel_rfl) h
theorem K_crossing_Decode_1_x1 (Q : QQ) (h12r : LL) (h :
 (C_crossing_Decode_26 h12r (K_crossing_Decode_0 Q))) : K_crossing_Decode_1 Q (.exit 0) ⟨[(12, (.own (Nm.loc 12)))], [((Nm.loc 12), (.arr (ty_api_Row + 2) true 4 h12r))]⟩ := kr (by kernel_rfl) h
theorem K_crossing_Decode_2_x0 (K : KK) (t6r : LL) (t7 : Int) (t55r : LL) (t56 t57 : Int) (h54r h12r : LL) (h :
 (L_crossing_Decode_13 t6r t7 t55r t56 t57 false h54r h12r K)) : K_crossing_Decode_2 K .normal ⟨[(6, (Al 1 t6r)), (7, (Ai t7)), (11, (.own (Nm.loc 54))), (12, (.own (Nm.loc 12))), (55, (Al 1 t55r)), (56, (Ai t56)), (57, (Ai t57))], [((Nm.loc 54), (.arr 0 false 1 h54r)), ((Nm.loc 12), (.arr (ty_api_Row + 2) true 4 h12r))]⟩ := kr (by kernel_rfl) h
theorem K_crossing_Decode_3_x0 (K : KK) (t6r : LL) (t7 : Int) (t55r : LL) (t56 t57 : Int) (h54r h12r : LL) (h :
 (C_crossing_Decode_25 t6r t7 t55r t56 t57 h54r h12r (K_crossing_Decode_2 K))) : K_crossing_Decode_3 K .normal ⟨[(6, (Al 1 t6r)), (7, (Ai t7)), (11, (.own (Nm.loc 54))), (12, (.own (Nm.loc 12))), (55, (Al 1 t55r)), (56, (Ai t56)), (57, (Ai t57))], [((Nm.loc 54), (.arr 0 false 1 h54r)), ((Nm.loc 12), (.arr (ty_api_Row + 2) true 4 h12r))]⟩ := kr (by kernel_rfl) h
theorem ok_crossing_Decode : FnOK E0.P 12 ac_crossing_Decode.code nt_crossing_Decode [.tmp 4, .tmp 5] := fn_ok _ _ Tryd.f12 [(13, [6, 7, 11, 12, 55, 56, 57], []), (15, [12], []), (24, [6, 7, 11, 12, 14, 16, 55, 56, 57], [6, 7, 11, 12, 55, 56, 57]), (25, [6, 7, 11, 12, 55, 56, 57], [6, 7, 11, 12, 55, 56, 57]), (26, [12], [])] [4, 5] _ 111 Tryd.func12 (by kernel_rfl) (by kernel_rfl) (by kernel_rfl) (by kernel_rfl)
theorem F_crossing_Decode_of (a0 : LL) (a1 : List UInt8) (Q : QQ) (h :
 (Call E0.P fn_crossing_widths [(Al 7 a0)] [] fun r0 g0 =>
 Req (g0 = [] ∧
 r0 =
 .tup [.imm (.sl SK.any 1 (rR (rT r0 0))), .imm (.int .i64 (rI (rT r0 1)))])
 (Call E0.P fn_crossing_spans [(Al 7 a0)] [] fun r1 g1 =>
 Req (g1 = [] ∧ r1 = .tup [.imm (.sl SK.any 1 (rR (rT r1 0))), .imm (.bool (rB (rT r1 1)))])
 (Let (bif decide (rI (rT r0 1) = (0 : Int)) then true else !rB (rT r1 1)) fun x2 =>
 Br (x2)
 (Q (.tup [(.imm (.sl .any 4 [])), (Ai 11)]) [])
 (Req (rI (rT r0 1) ≠ (0 : Int))
 (Call E0.P fn_crossing_numbers [(Al 1 (rR (rT r1 0))), (.imm (.int .i64 (IntKind.i64.wrap ((↑a1.length : Int).tdiv (rI (rT r0 1))))))] [] fun r3 g3 =>
 Req (g3 = [] ∧ r3 = .tup [.imm (.sl SK.any 1 (rR (rT r3 0))), .imm (.bool (rB (rT r3 1)))])
 (Req ((!rB (rT r3 1)) = false → rI (rT r0 1) ≠ (0 : Int))
 (Let (bif !rB (rT r3 1) then true else !decide ((↑a1.length : Int).tmod (rI (rT r0 1)) = (0 : Int))) fun x4 =>
 Br (x4)
 (Q (.tup [(.imm (.sl .any 4 [])), (Ai 4)]) [])
 (Req (a1.length ≤ 140737488355328)
 (L_crossing_Decode_13 (rR (rT r0 0)) (rI (rT r0 1)) (rR (rT r3 0)) ((↑(rR (rT r3 (0 : Nat))).length : Int)) ((0 : Int)) true (byteRows a1) [] (K_crossing_Decode_1 Q))))))))))) : Call E0.P fn_crossing_Decode [(Al 7 a0), (As a1)] [] Q := fun_rule (envN E0 nt_crossing_Decode) (okE nt_crossing_Decode) 3 0 12 ac_crossing_Decode [.tmp 4, .tmp 5] ok_crossing_Decode _ _ Q rfl rfl (kr (by kernel_rfl) h)
noncomputable def ac_crossing_Encode : AC := (annot [(7, [0, 6, 19, 20, 21], []), (9, [0, 6], []), (14, [0, 1000006], []), (17, [0, 9, 10, 53, 54, 55, 1000006], []), (19, [0, 10, 1000006], []), (23, [0, 10, 1000006], [])] [2, 3, 4] (codeOf Tryd.f9) 0).1
abbrev nt_crossing_Encode : Nat := 74
def L_crossing_Encode_7 (t0r t19r : LL) (t20 t21 : Int) (h18r : LL) (K : KK) : Prop := LoopOK 7 E0.P nt_crossing_Encode (lbodyOf 7 ac_crossing_Encode).code ⟨[(0, (Al 4 t0r)), (6, (.own (Nm.loc 18))), (19, (Al 4 t19r)), (20, (Ai t20)), (21, (Ai t21))], [((Nm.loc 18), (.arr (ty_int + 2) true 1 h18r))]⟩ K
def C_crossing_Encode_14 (t0r t6r : LL) (K : KK) : Prop := CutOK 14 E0.P nt_crossing_Encode (cbodyOf 14 ac_crossing_Encode).code ⟨[(0, (Al 4 t0r)), (6, (Al 1 t6r))], []⟩ K
def L_crossing_Encode_17 (t0r t53r : LL) (t54 t55 : Int) (t6r h501_1r h5040r : LL) (K : KK) : Prop := LoopOK 17 E0.P nt_crossing_Encode (lbodyOf 17 ac_crossing_Encode).code ⟨[(0, (Al 4 t0r)), (9, (.fn fn_crossing_putter_1 [(.ptr (Nm.sub 50 (Nm.loc 1)) 0), (.ptr (Nm.sub 50 (Nm.loc 4)) 0)])), (10, (.fn fn_crossing_putter_2 [(.ptr (Nm.sub 50 (Nm.loc 4)) 0)])), (53, (Al 4 t53r)), (54, (Ai t54)), (55, (Ai t55)), (6, (Al 1 t6r))], [((Nm.sub 50 (Nm.loc 1)), (.blk 72 [(Al 1 h501_1r)])), ((Nm.sub 50 (Nm.loc 4)), (.blk 61 [(.own (Nm.sub 50 ((Nm.loc 4).cell 0)))])), ((Nm.sub 50 ((Nm.loc 4).cell 0)), (.arr (ty_uint8 + 2) true 1 h5040r))]⟩ K
def C_crossing_Encode_23 (t0r t6r h5040r : LL) (K : KK) : Prop := CutOK 23 E0.P nt_crossing_Encode (cbodyOf 23 ac_crossing_Encode).code ⟨[(0, (Al 4 t0r)), (10, (.fn fn_crossing_putter_2 [(.ptr (Nm.sub 50 (Nm.loc 4)) 0)])), (6, (Al 1 t6r))], [((Nm.sub 50 (Nm.loc 4)), (.blk 61 [(.own (Nm.sub 50 ((Nm.loc 4).cell 0)))])), ((Nm.sub 50 ((Nm.loc 4).cell 0)), (.arr (ty_uint8 + 2) true 1 h5040r))]⟩ K
def K_crossing_Encode_0 (Q : QQ) : KK := kE fun st => finish 0 E0.T [.tmp 2, .tmp 3, .tmp 4] [] Q st
def K_crossing_Encode_1 (Q : QQ) : KK := kF 0 (fun st => CutOK 14 E0.P nt_crossing_Encode (cbodyOf 14 ac_crossing_Encode).code (mask [0, 1000006] st) (K_crossing_Encode_0 Q)) fun st => finish 0 E0.T [.tmp 2, .tmp 3, .tmp 4] [] Q st
def K_crossing_Encode_2 (K : KK) : KK := kP [] K
def K_crossing_Encode_3 (K : KK) : KK := kC 2 (fun st => CutOK 23 E0.P nt_crossing_Encode (cbodyOf 23 ac_crossing_Encode).code (mask [0, 10, 1000006] st) (K_crossing_Encode_2 K)) K
theorem L_crossing_Encode_7_of (t0r t19r : LL) (t20 t21 : Int) (h18r : LL) (K : KK) (h :
 (Br (decide (t21 < t20))
 (Req (((0 : Int) ≤ t21 ∧ t21 < (↑t19r.length : Int)) ∧
 shOK [.int .i64, .int .i64, .int .i64, .int .i64] (t19r.getD t21.toNat []) = true)
 (Req ((0 : Int) ≤ (1 : Int) ∧ (1 : Int) < (↑h18r.length : Int))
 (Req (1 < h18r.length ∧
 shOK [.int .i64] (List.take 1 (List.drop 0 (h18r.getD 1 []))) = true)
 (Call E0.P fn_fields_Need [(.imm (.sl .any 1 [[.int .i64 (gI (t19r.getD t21.toNat []) 2)]]))] [] fun r0 g0 =>
 Req (g0 = [] ∧ r0 = .imm (.int .i64 (rI r0)))
 (Req ((0 : Int) ≤ (1 : Int) ∧ (1 : Int) < (↑h18r.length : Int))
 (Req (1 < h18r.length)
 (Req ((0 : Int) ≤ (2 : Int) ∧
 (2 : Int) <
 (↑(h18r.set (1 : Nat)
 [.int .i64
 (if rI r0 > gI (List.take (1 : Nat) (List.drop (0 : Nat) (h18r.getD (1 : Nat) []))) (0 : Nat) then rI r0
 else gI (List.take (1 : Nat) (List.drop (0 : Nat) (h18r.getD (1 : Nat) []))) (0 : Nat))]).length :
 Int))
 (Req (2 <
 (h18r.set 1
 [.int .i64
 (if rI r0 > gI (List.take 1 (List.drop 0 (h18r.getD 1 []))) 0 then rI r0
 else gI (List.take 1 (List.drop 0 (h18r.getD 1 []))) 0)]).length ∧
 shOK [.int .i64]
 (List.take 1
 (List.drop 0
 ((h18r.set 1
 [.int .i64
 (if rI r0 > gI (List.take 1 (List.drop 0 (h18r.getD 1 []))) 0 then
 rI r0
 else gI (List.take 1 (List.drop 0 (h18r.getD 1 []))) 0)]).getD
 2 []))) =
 true)
 (Call E0.P fn_fields_Need [(.imm (.sl .any 1 [[.int .i64 (gI (t19r.getD t21.toNat []) 3)]]))] [] fun r1 g1 =>
 Req (g1 = [] ∧ r1 = .imm (.int .i64 (rI r1)))
 (Req ((0 : Int) ≤ (2 : Int) ∧
 (2 : Int) <
 (↑(h18r.set (1 : Nat)
 [.int .i64
 (if rI r0 > gI (List.take (1 : Nat) (List.drop (0 : Nat) (h18r.getD (1 : Nat) []))) (0 : Nat) then rI r0
 else gI (List.take (1 : Nat) (List.drop (0 : Nat) (h18r.getD (1 : Nat) []))) (0 : Nat))]).length :
 Int))
 (Req (2 <
 (h18r.set 1
 [.int .i64
 (if rI r0 > gI (List.take 1 (List.drop 0 (h18r.getD 1 []))) 0 then rI r0
 else gI (List.take 1 (List.drop 0 (h18r.getD 1 []))) 0)]).length)
 (L_crossing_Encode_7 t0r t19r t20 (IntKind.i64.wrap (t21 + (1 : Int))) ((h18r.set 1
 [.int .i64
 (if rI r0 > gI (List.take 1 (List.drop 0 (h18r.getD 1 []))) 0 then rI r0
 else gI (List.take 1 (List.drop 0 (h18r.getD 1 []))) 0)]).set
 2
 [.int .i64
 (if
 rI r1 >
 gI
 (List.take 1
 (List.drop 0
 ((h18r.set 1
 [.int .i64
 (if
 rI r0 >
 gI (List.take 1 (List.drop 0 (h18r.getD 1 []))) 0 then
 rI r0
 else
 gI (List.take 1 (List.drop 0 (h18r.getD 1 []))) 0)]).getD
 2 [])))
 0 then
 rI r1
 else
 gI
 (List.take 1
 (List.drop 0
 ((h18r.set 1
 [.int .i64
 (if
 rI r0 >
 gI (List.take 1 (List.drop 0 (h18r.getD 1 []))) 0 then
 rI r0
 else gI (List.take 1 (List.drop 0 (h18r.getD 1 []))) 0)]).getD
 2 [])))
 0)]) K))))))))))))
 (K (.exit 0) ⟨[(0, (Al 4 t0r)), (6, (.own (Nm.loc 18)))], [((Nm.loc 18), (.arr (ty_int + 2) true 1 h18r))]⟩))) : L_crossing_Encode_7 t0r t19r t20 t21 h18r K := loop_rule (envN E0 nt_crossing_Encode) (okE nt_crossing_Encode) 3 7 (lbodyOf 7 ac_crossing_Encode) [0, 6, 19, 20, 21] _ K rfl (kr (by kernel_rfl) h)
theorem C_crossing_Encode_14_of (t0r t6r : LL) (K : KK) (h :
 (L_crossing_Encode_17 t0r t0r ((↑t0r.length : Int)) ((0 : Int)) t6r t6r [] (K_crossing_Encode_3 K))) : C_crossing_Encode_14 t0r t6r K := cut_rule (envN E0 nt_crossing_Encode) (okE nt_crossing_Encode) 3 14 (cbodyOf 14 ac_crossing_Encode) [] _ K rfl (kr (by kernel_rfl) h)
theorem L_crossing_Encode_17_of (t0r t53r : LL) (t54 t55 : Int) (t6r h501_1r h5040r : LL) (K : KK) (h :
 (Br (decide (t55 < t54))
 (Req (((0 : Int) ≤ t55 ∧ t55 < (↑t53r.length : Int)) ∧
 shOK [.int .i64, .int .i64, .int .i64, .int .i64] (t53r.getD t55.toNat []) = true)
 (Call E0.P fn_fields_Row [(.imm (.sl .any 1 [[.int .i64 (gI (t53r.getD t55.toNat []) 1)],
 [.int .i64 (gI (t53r.getD t55.toNat []) 2)],
 [.int .i64 (gI (t53r.getD t55.toNat []) 3)]])), (Al 1 h501_1r)] [] fun r0 g0 =>
 Req (g0 = [] ∧ r0 = .tup [.imm (.str (rS (rT r0 0))), .imm (.int .i64 (rI (rT r0 1)))])
 (Req ((h5040r.length + (byteRows (rS (rT r0 0))).length) * 1 ≤ 140737488355328 ∧
 h5040r.length + (byteRows (rS (rT r0 0))).length ≤ 140737488355328)
 (L_crossing_Encode_17 t0r t53r t54 (IntKind.i64.wrap (t55 + (1 : Int))) t6r h501_1r (h5040r ++ byteRows (rS (rT r0 0))) K))))
 (K (.exit (2)) ⟨[(0, (Al 4 t0r)), (10, (.fn fn_crossing_putter_2 [(.ptr (Nm.sub 50 (Nm.loc 4)) 0)])), (6, (Al 1 t6r))], [((Nm.sub 50 (Nm.loc 4)), (.blk 61 [(.own (Nm.sub 50 ((Nm.loc 4).cell 0)))])), ((Nm.sub 50 ((Nm.loc 4).cell 0)), (.arr (ty_uint8 + 2) true 1 h5040r))]⟩))) : L_crossing_Encode_17 t0r t53r t54 t55 t6r h501_1r h5040r K := loop_rule (envN E0 nt_crossing_Encode) (okE nt_crossing_Encode) 3 17 (lbodyOf 17 ac_crossing_Encode) [0, 9, 10, 53, 54, 55, 1000006] _ K rfl (kr (by kernel_rfl) h)
theorem C_crossing_Encode_23_of (t0r t6r h5040r : LL) (K : KK) (h :
 (Call E0.P fn_crossing_parts [(Al 4 t0r)] [] fun r0 g0 =>
 Req (g0 = [] ∧ r0 = .imm (.sl SK.any 1 (rR r0)))
 (Call E0.P fn_crossing_list [(Al 1 (rR r0))] [] fun r1 g1 =>
 Req (g1 = [] ∧
 r1 =
 .imm
 (IV.agg
 [.int .i64 (gI (aCells r1) 0), .int .i64 (gI (aCells r1) 1),
 .int .i64 (gI (aCells r1) 2), .str (gS (aCells r1) 3),
 .sl SK.any 6 (gR (aCells r1) 4), .sl SK.any 7 (gR (aCells r1) 5)]))
 (Call E0.P fn_crossing_list [(Al 1 t6r)] [] fun r2 g2 =>
 Req (g2 = [] ∧
 r2 =
 .imm
 (IV.agg
 [.int .i64 (gI (aCells r2) 0), .int .i64 (gI (aCells r2) 1),
 .int .i64 (gI (aCells r2) 2), .str (gS (aCells r2) 3),
 .sl SK.any 6 (gR (aCells r2) 4), .sl SK.any 7 (gR (aCells r2) 5)]))
 (Req (∀ (r : List IV), r ∈ h5040r → shOK [.int .u8] r = true)
 (K .ret ⟨[(2, (.own (Nm.loc 71))), (3, (As (List.map (fun r => UInt8.ofNat (gI r 0).toNat) h5040r))), (4, (Ai 0))], [((Nm.loc 71), (.arr (ty_api_Pair + 2) true 7 [[.str [73, 110, 100, 101, 120],
 .int .i64 (gI (aCells r1) 0), .int .i64 (gI (aCells r1) 1),
 .int .i64 (gI (aCells r1) 2), .str (gS (aCells r1) 3),
 .sl SK.any 6 (gR (aCells r1) 4), .sl SK.any 7 (gR (aCells r1) 5)],
 [.str [87], .int .i64 (gI (aCells r2) 0), .int .i64 (gI (aCells r2) 1),
 .int .i64 (gI (aCells r2) 2), .str (gS (aCells r2) 3),
 .sl SK.any 6 (gR (aCells r2) 4), .sl SK.any 7 (gR (aCells r2) 5)]]))]⟩)))))) : C_crossing_Encode_23 t0r t6r h5040r K := cut_rule (envN E0 nt_crossing_Encode) (okE nt_crossing_Encode) 3 23 (cbodyOf 23 ac_crossing_Encode) [] _ K rfl (kr (by kernel_rfl) h)
theorem K_crossing_Encode_0_x0 (Q : QQ) (t3 : List UInt8) (t4 : Int) (h71r : LL) (h :
 (Q (.tup [(Al 7 h71r), (As t3), (Ai t4)]) [])) : K_crossing_Encode_0 Q .ret ⟨[(2, (.own (Nm.loc 71))), (3, (As t3)), (4, (Ai t4))], [((Nm.loc 71), (.arr (ty_api_Pair + 2) true 7 h71r))]⟩ := kr (by kernel_rfl) h
theorem K_crossing_Encode_1_x0 (Q : QQ) (t0r h18r : LL) (h :
 (C_crossing_Encode_14 t0r h18r (K_crossing_Encode_0 Q))) : K_crossing_Encode_1 Q (.exit 0) ⟨[(0, (Al 4 t0r)), (6, (.own (Nm.loc 18)))], [((Nm.loc 18), (.arr (ty_int + 2) true 1 h18r))]⟩ := kr (by kernel_rfl) h
theorem K_crossing_Encode_2_x0 (K : KK) (t3 : List UInt8) (t4 : Int) (h71r : LL) (h :
 (K .ret ⟨[(2, (.own (Nm.loc 71))), (3, (As t3)), (4, (Ai t4))], [((Nm.loc 71), (.arr (ty_api_Pair + 2) true 7 h71r))]⟩)) : K_crossing_Encode_2 K .ret ⟨[(2, (.own (Nm.loc 71))), (3, (As t3)), (4, (Ai t4))], [((Nm.loc 71), (.arr (ty_api_Pair + 2) true 7 h71r))]⟩ := kr (by kernel_rfl) h
theorem K_crossing_Encode_3_x0 (K : KK) (t0r t6r h5040r : LL) (h :
 (C_crossing_Encode_23 t0r t6r h5040r (K_crossing_Encode_2 K))) : K_crossing_Encode_3 K (.exit (2)) ⟨[(0, (Al 4 t0r)), (10, (.fn fn_crossing_putter_2 [(.ptr (Nm.sub 50 (Nm.loc 4)) 0)])), (6, (Al 1 t6r))], [((Nm.sub 50 (Nm.loc 4)), (.blk 61 [(.own (Nm.sub 50 ((Nm.loc 4).cell 0)))])), ((Nm.sub 50 ((Nm.loc 4).cell 0)), (.arr (ty_uint8 + 2) true 1 h5040r))]⟩ := kr (by kernel_rfl) h
theorem ok_crossing_Encode : FnOK E0.P 9 ac_crossing_Encode.code nt_crossing_Encode [.tmp 2, .tmp 3, .tmp 4] := fn_ok _ _ Tryd.f9 [(7, [0, 6, 19, 20, 21], []), (9, [0, 6], []), (14, [0, 1000006], []), (17, [0, 9, 10, 53, 54, 55, 1000006], []), (19, [0, 10, 1000006], []), (23, [0, 10, 1000006], [])] [2, 3, 4] _ 74 Tryd.func9 (by kernel_rfl) (by kernel_rfl) (by kernel_rfl) (by kernel_rfl)
theorem F_crossing_Encode_of (a0 : LL) (Q : QQ) (h :
 (Call E0.P fn_crossing_Check [(Al 4 a0)] [] fun r0 g0 =>
 Req (g0 = [] ∧ r0 = .imm (.int .i64 (rI r0)))
 (Br (!decide (rI r0 = (0 : Int)))
 (Q (.tup [(.imm (.sl .any 7 [])), (.imm (.str [])), (Ai (rI r0))]) [])
 (L_crossing_Encode_7 a0 a0 ((↑a0.length : Int)) ((0 : Int)) [[.int .i64 (1 : Int)], [.int .i64 (0 : Int)], [.int .i64 (0 : Int)]] (K_crossing_Encode_1 Q))))) : Call E0.P fn_crossing_Encode [(Al 4 a0)] [] Q := fun_rule (envN E0 nt_crossing_Encode) (okE nt_crossing_Encode) 3 0 9 ac_crossing_Encode [.tmp 2, .tmp 3, .tmp 4] ok_crossing_Encode _ _ Q rfl rfl (kr (by kernel_rfl) h)
noncomputable def ac_crossing_Wide : AC := (annot [] [2] (codeOf Tryd.f28) 0).1
abbrev nt_crossing_Wide : Nat := 11
theorem ok_crossing_Wide : FnOK E0.P 28 ac_crossing_Wide.code nt_crossing_Wide [.tmp 2] := fn_ok _ _ Tryd.f28 [] [2] _ 11 Tryd.func28 (by kernel_rfl) (by kernel_rfl) (by kernel_rfl) (by kernel_rfl)
theorem F_crossing_Wide_of (a0 : LL) (Q : QQ) (h :
 (Call E0.P fn_crossing_widths [(Al 7 a0)] [] fun r0 g0 =>
 Req (g0 = [] ∧
 r0 =
 .tup [.imm (.sl SK.any 1 (rR (rT r0 0))), .imm (.int .i64 (rI (rT r0 1)))])
 (Q (Ai (rI (rT r0 1))) []))) : Call E0.P fn_crossing_Wide [(Al 7 a0)] [] Q := fun_rule (envN E0 nt_crossing_Wide) (okE nt_crossing_Wide) 3 0 28 ac_crossing_Wide [.tmp 2] ok_crossing_Wide _ _ Q rfl rfl (kr (by kernel_rfl) h)
noncomputable def ac_crossing_get : AC := (annot [] [4, 5] (codeOf Tryd.f79) 0).1
abbrev nt_crossing_get : Nat := 12
theorem ok_crossing_get : FnOK E0.P 79 ac_crossing_get.code nt_crossing_get [.cell 4 39, .tmp 5] := fn_ok _ _ Tryd.f79 [] [4, 5] _ 12 Tryd.func79 (by kernel_rfl) (by kernel_rfl) (by kernel_rfl) (by kernel_rfl)
theorem F_crossing_get_of (a0 : LL) (a1 : List UInt8) (Q : QQ) (h :
 (Call E0.P fn_value_Get [(.imm (.agg [(.int .i64 6), (.int .i64 0), (.int .i64 0), (.str []), (.sl .any 6 []), (.sl .any 7 a0)])), (As a1)] [] fun r0 g0 =>
 Req (g0 = [] ∧
 r0 =
 .tup
 [.imm
 (IV.agg
 [.int .i64 (gI (aCells (rT r0 0)) 0),
 .int .i64 (gI (aCells (rT r0 0)) 1),
 .int .i64 (gI (aCells (rT r0 0)) 2),
 .str (gS (aCells (rT r0 0)) 3),
 .sl SK.any 6 (gR (aCells (rT r0 0)) 4),
 .sl SK.any 7 (gR (aCells (rT r0 0)) 5)]),
 .imm (.bool (rB (rT r0 1)))])
 (Q (.tup [(.imm (.agg [(.int .i64 (gI (aCells (rT r0 0)) 0)), (.int .i64 (gI (aCells (rT r0 0)) 1)), (.int .i64 (gI (aCells (rT r0 0)) 2)), (.str (gS (aCells (rT r0 0)) 3)), (.sl .any 6 (gR (aCells (rT r0 0)) 4)), (.sl .any 7 (gR (aCells (rT r0 0)) 5))])), (Ab (rB (rT r0 1)))]) []))) : Call E0.P fn_crossing_get [(Al 7 a0), (As a1)] [] Q := fun_rule (envN E0 nt_crossing_get) (okE nt_crossing_get) 3 0 79 ac_crossing_get [.cell 4 39, .tmp 5] ok_crossing_get _ _ Q rfl rfl (kr (by kernel_rfl) h)
noncomputable def ac_crossing_ints : AC := (annot [(6, [1, 6, 13, 14, 15], []), (8, [6], []), (15, [6], [])] [4, 5] (codeOf Tryd.f80) 0).1
abbrev nt_crossing_ints : Nat := 40
def L_crossing_ints_6 (t1 : Int) (t13r : LL) (t14 t15 : Int) (h6r : LL) (K : KK) : Prop := LoopOK 6 E0.P nt_crossing_ints (lbodyOf 6 ac_crossing_ints).code ⟨[(1, (Ai t1)), (6, (.own (Nm.loc 6))), (13, (Al 6 t13r)), (14, (Ai t14)), (15, (Ai t15))], [((Nm.loc 6), (.arr (ty_int + 2) true 1 h6r))]⟩ K
def C_crossing_ints_15 (h6r : LL) (K : KK) : Prop := CutOK 15 E0.P nt_crossing_ints (cbodyOf 15 ac_crossing_ints).code ⟨[(6, (.own (Nm.loc 6)))], [((Nm.loc 6), (.arr (ty_int + 2) true 1 h6r))]⟩ K
def K_crossing_ints_0 (Q : QQ) : KK := kE fun st => finish 0 E0.T [.tmp 4, .tmp 5] [] Q st
def K_crossing_ints_1 (Q : QQ) : KK := kF 0 (fun st => CutOK 15 E0.P nt_crossing_ints (cbodyOf 15 ac_crossing_ints).code (mask [6] st) (K_crossing_ints_0 Q)) fun st => finish 0 E0.T [.tmp 4, .tmp 5] [] Q st
theorem L_crossing_ints_6_of (t1 : Int) (t13r : LL) (t14 t15 : Int) (h6r : LL) (K : KK) (h :
 (Br (decide (t15 < t14))
 (Req (((0 : Int) ≤ t15 ∧ t15 < (↑t13r.length : Int)) ∧
 shOK
 [.int .i64, .int .i64, .int .i64, .str, .sl 6 ty_api_Value,
 .sl 7 ty_api_Pair]
 (t13r.getD t15.toNat []) =
 true)
 (Let (bif !decide (gI (t13r.getD t15.toNat []) 0 = (2 : Int)) then true
 else decide (gI (t13r.getD t15.toNat []) 1 < (0 : Int))) fun x0 =>
 Let (bif x0 then true else decide (t1 < gI (t13r.getD t15.toNat []) 1)) fun x1 =>
 Br (x1)
 (K .ret ⟨[(4, (.own (Nm.loc 4))), (5, (Ab false))], [((Nm.loc 4), (.arr (ty_int + 2) true 1 []))]⟩)
 (Req ((h6r.length + 1) * 8 ≤ 140737488355328 ∧ h6r.length + 1 ≤ 140737488355328)
 (L_crossing_ints_6 t1 t13r t14 (IntKind.i64.wrap (t15 + (1 : Int))) (h6r ++ [[.int .i64 (gI (t13r.getD t15.toNat []) 1)]]) K))))
 (K (.exit 0) ⟨[(6, (.own (Nm.loc 6)))], [((Nm.loc 6), (.arr (ty_int + 2) true 1 h6r))]⟩))) : L_crossing_ints_6 t1 t13r t14 t15 h6r K := loop_rule (envN E0 nt_crossing_ints) (okE nt_crossing_ints) 3 6 (lbodyOf 6 ac_crossing_ints) [1, 6, 13, 14, 15] _ K rfl (kr (by kernel_rfl) h)
theorem C_crossing_ints_15_of (h6r : LL) (K : KK) (h :
 (K .ret ⟨[(4, (.own (Nm.loc 6))), (5, (Ab true))], [((Nm.loc 6), (.arr (ty_int + 2) true 1 h6r))]⟩)) : C_crossing_ints_15 h6r K := cut_rule (envN E0 nt_crossing_ints) (okE nt_crossing_ints) 3 15 (cbodyOf 15 ac_crossing_ints) [] _ K rfl (kr (by kernel_rfl) h)
theorem K_crossing_ints_0_x0 (Q : QQ) (t5 : Bool) (h6r : LL) (h :
 (Q (.tup [(Al 1 h6r), (Ab t5)]) [])) : K_crossing_ints_0 Q .ret ⟨[(4, (.own (Nm.loc 6))), (5, (Ab t5))], [((Nm.loc 6), (.arr (ty_int + 2) true 1 h6r))]⟩ := kr (by kernel_rfl) h
theorem K_crossing_ints_1_x0 (Q : QQ) (t5 : Bool) (h4r : LL) (h :
 (Q (.tup [(Al 1 h4r), (Ab t5)]) [])) : K_crossing_ints_1 Q .ret ⟨[(4, (.own (Nm.loc 4))), (5, (Ab t5))], [((Nm.loc 4), (.arr (ty_int + 2) true 1 h4r))]⟩ := kr (by kernel_rfl) h
theorem K_crossing_ints_1_x1 (Q : QQ) (h6r : LL) (h :
 (C_crossing_ints_15 h6r (K_crossing_ints_0 Q))) : K_crossing_ints_1 Q (.exit 0) ⟨[(6, (.own (Nm.loc 6)))], [((Nm.loc 6), (.arr (ty_int + 2) true 1 h6r))]⟩ := kr (by kernel_rfl) h
theorem ok_crossing_ints : FnOK E0.P 80 ac_crossing_ints.code nt_crossing_ints [.tmp 4, .tmp 5] := fn_ok _ _ Tryd.f80 [(6, [1, 6, 13, 14, 15], []), (8, [6], []), (15, [6], [])] [4, 5] _ 40 Tryd.func80 (by kernel_rfl) (by kernel_rfl) (by kernel_rfl) (by kernel_rfl)
theorem F_crossing_ints_of (a0_0 a0_1 a0_2 : Int) (a0_3 : List UInt8) (a0_4 a0_5 : LL) (a1 : Int) (Q : QQ) (h :
 (Br (!decide (a0_0 = (5 : Int)))
 (Q (.tup [(.imm (.sl .any 1 [])), (Ab false)]) [])
 (L_crossing_ints_6 a1 a0_4 ((↑a0_4.length : Int)) ((0 : Int)) [] (K_crossing_ints_1 Q)))) : Call E0.P fn_crossing_ints [(.imm (.agg [(.int .i64 a0_0), (.int .i64 a0_1), (.int .i64 a0_2), (.str a0_3), (.sl .any 6 a0_4), (.sl .any 7 a0_5)])), (Ai a1)] [] Q := fun_rule (envN E0 nt_crossing_ints) (okE nt_crossing_ints) 3 0 80 ac_crossing_ints [.tmp 4, .tmp 5] ok_crossing_ints _ _ Q rfl rfl (kr (by kernel_rfl) h)
noncomputable def ac_crossing_list : AC := (annot [(3, [2, 3, 7, 8, 9], []), (5, [2, 3], []), (9, [2, 3], [])] [2] (codeOf Tryd.f37) 0).1
abbrev nt_crossing_list : Nat := 22
def L_crossing_list_3 (t7r : LL) (t8 t9 : Int) (h2_1_0 h2_1_1 h2_1_2 : Int) (h2_1_3 : List UInt8) (h3_1_0 h3_1_1 h3_1_2 : Int) (h3_1_3 : List UInt8) (h24r h25r : LL) (h34r h35r : LL) (K : KK) : Prop := LoopOK 3 E0.P nt_crossing_list (lbodyOf 3 ac_crossing_list).code ⟨[(2, (.ptr (Nm.loc 2) 0)), (3, (.ptr (Nm.loc 3) 0)), (7, (Al 1 t7r)), (8, (Ai t8)), (9, (Ai t9))], [((Nm.loc 2), (.blk ty_api_Value [(Ai h2_1_0), (Ai h2_1_1), (Ai h2_1_2), (As h2_1_3), (.own ((Nm.loc 2).cell 4)), (.own ((Nm.loc 2).cell 5))])), ((Nm.loc 3), (.blk ty_api_Value [(Ai h3_1_0), (Ai h3_1_1), (Ai h3_1_2), (As h3_1_3), (.own ((Nm.loc 3).cell 4)), (.own ((Nm.loc 3).cell 5))])), (((Nm.loc 2).cell 4), (.arr (ty_api_Value + 2) true 6 h24r)), (((Nm.loc 2).cell 5), (.arr (ty_api_Pair + 2) true 7 h25r)), (((Nm.loc 3).cell 4), (.arr (ty_api_Value + 2) true 6 h34r)), (((Nm.loc 3).cell 5), (.arr (ty_api_Pair + 2) true 7 h35r))]⟩ K
def C_crossing_list_9 (h2_1_0 h2_1_1 h2_1_2 : Int) (h2_1_3 : List UInt8) (h3_1_0 h3_1_1 h3_1_2 : Int) (h3_1_3 : List UInt8) (h24r h25r : LL) (h34r h35r : LL) (K : KK) : Prop := CutOK 9 E0.P nt_crossing_list (cbodyOf 9 ac_crossing_list).code ⟨[(2, (.ptr (Nm.loc 2) 0)), (3, (.ptr (Nm.loc 3) 0))], [((Nm.loc 2), (.blk ty_api_Value [(Ai h2_1_0), (Ai h2_1_1), (Ai h2_1_2), (As h2_1_3), (.own ((Nm.loc 2).cell 4)), (.own ((Nm.loc 2).cell 5))])), ((Nm.loc 3), (.blk ty_api_Value [(Ai h3_1_0), (Ai h3_1_1), (Ai h3_1_2), (As h3_1_3), (.own ((Nm.loc 3).cell 4)), (.own ((Nm.loc 3).cell 5))])), (((Nm.loc 2).cell 4), (.arr (ty_api_Value + 2) true 6 h24r)), (((Nm.loc 2).cell 5), (.arr (ty_api_Pair + 2) true 7 h25r)), (((Nm.loc 3).cell 4), (.arr (ty_api_Value + 2) true 6 h34r)), (((Nm.loc 3).cell 5), (.arr (ty_api_Pair + 2) true 7 h35r))]⟩ K
def K_crossing_list_0 (Q : QQ) : KK := kE fun st => finish 0 E0.T [.cell 2 39] [] Q st
def K_crossing_list_1 (Q : QQ) : KK := kF 0 (fun st => CutOK 9 E0.P nt_crossing_list (cbodyOf 9 ac_crossing_list).code (mask [2, 3] st) (K_crossing_list_0 Q)) fun st => finish 0 E0.T [.cell 2 39] [] Q st
theorem L_crossing_list_3_of (t7r : LL) (t8 t9 : Int) (h2_1_0 h2_1_1 h2_1_2 : Int) (h2_1_3 : List UInt8) (h3_1_0 h3_1_1 h3_1_2 : Int) (h3_1_3 : List UInt8) (h24r h25r : LL) (h34r h35r : LL) (K : KK) (h :
 (Br (decide (t9 < t8))
 (Req (((0 : Int) ≤ t9 ∧ t9 < (↑t7r.length : Int)) ∧ shOK [.int .i64] (t7r.getD t9.toNat []) = true)
 (Req ((h34r.length + 1) * 88 ≤ 140737488355328 ∧ h34r.length + 1 ≤ 140737488355328)
 (L_crossing_list_3 t7r t8 (IntKind.i64.wrap (t9 + (1 : Int))) h2_1_0 h2_1_1 h2_1_2 h2_1_3 h3_1_0 h3_1_1 h3_1_2 h3_1_3 h24r h25r (h34r ++
 [[.int .i64 (2 : Int), .int .i64 (gI (t7r.getD t9.toNat []) 0),
 .int .i64 (0 : Int), .str [], .sl SK.any 6 [], .sl SK.any 7 []]]) h35r K)))
 (K (.exit 0) ⟨[(2, (.ptr (Nm.loc 2) 0)), (3, (.ptr (Nm.loc 3) 0))], [((Nm.loc 2), (.blk ty_api_Value [(Ai h2_1_0), (Ai h2_1_1), (Ai h2_1_2), (As h2_1_3), (.own ((Nm.loc 2).cell 4)), (.own ((Nm.loc 2).cell 5))])), ((Nm.loc 3), (.blk ty_api_Value [(Ai h3_1_0), (Ai h3_1_1), (Ai h3_1_2), (As h3_1_3), (.own ((Nm.loc 3).cell 4)), (.own ((Nm.loc 3).cell 5))])), (((Nm.loc 2).cell 4), (.arr (ty_api_Value + 2) true 6 h24r)), (((Nm.loc 2).cell 5), (.arr (ty_api_Pair + 2) true 7 h25r)), (((Nm.loc 3).cell 4), (.arr (ty_api_Value + 2) true 6 h34r)), (((Nm.loc 3).cell 5), (.arr (ty_api_Pair + 2) true 7 h35r))]⟩))) : L_crossing_list_3 t7r t8 t9 h2_1_0 h2_1_1 h2_1_2 h2_1_3 h3_1_0 h3_1_1 h3_1_2 h3_1_3 h24r h25r h34r h35r K := loop_rule (envN E0 nt_crossing_list) (okE nt_crossing_list) 3 3 (lbodyOf 3 ac_crossing_list) [2, 3, 7, 8, 9] _ K rfl (kr (by kernel_rfl) h)
theorem C_crossing_list_9_of (h2_1_0 h2_1_1 h2_1_2 : Int) (h2_1_3 : List UInt8) (h3_1_0 h3_1_1 h3_1_2 : Int) (h3_1_3 : List UInt8) (h24r h25r : LL) (h34r h35r : LL) (K : KK) (h :
 (K .ret ⟨[(2, (.ptr (Nm.loc 2) 0))], [((Nm.loc 2), (.blk ty_api_Value [(Ai h3_1_0), (Ai h3_1_1), (Ai h3_1_2), (As h3_1_3), (.own ((Nm.loc 3).cell 4)), (.own ((Nm.loc 3).cell 5))])), (((Nm.loc 3).cell 4), (.arr (ty_api_Value + 2) true 6 h34r)), (((Nm.loc 3).cell 5), (.arr (ty_api_Pair + 2) true 7 h35r))]⟩)) : C_crossing_list_9 h2_1_0 h2_1_1 h2_1_2 h2_1_3 h3_1_0 h3_1_1 h3_1_2 h3_1_3 h24r h25r h34r h35r K := cut_rule (envN E0 nt_crossing_list) (okE nt_crossing_list) 3 9 (cbodyOf 9 ac_crossing_list) [] _ K rfl (kr (by kernel_rfl) h)
theorem K_crossing_list_0_x0 (Q : QQ) (h2_1_0 h2_1_1 h2_1_2 : Int) (h2_1_3 : List UInt8) (h34r h35r : LL) (h :
 (Q (.imm (.agg [(.int .i64 h2_1_0), (.int .i64 h2_1_1), (.int .i64 h2_1_2), (.str h2_1_3), (.sl .any 6 h34r), (.sl .any 7 h35r)])) [])) : K_crossing_list_0 Q .ret ⟨[(2, (.ptr (Nm.loc 2) 0))], [((Nm.loc 2), (.blk ty_api_Value [(Ai h2_1_0), (Ai h2_1_1), (Ai h2_1_2), (As h2_1_3), (.own ((Nm.loc 3).cell 4)), (.own ((Nm.loc 3).cell 5))])), (((Nm.loc 3).cell 4), (.arr (ty_api_Value + 2) true 6 h34r)), (((Nm.loc 3).cell 5), (.arr (ty_api_Pair + 2) true 7 h35r))]⟩ := kr (by kernel_rfl) h
theorem K_crossing_list_1_x0 (Q : QQ) (h2_1_0 h2_1_1 h2_1_2 : Int) (h2_1_3 : List UInt8) (h3_1_0 h3_1_1 h3_1_2 : Int) (h3_1_3 : List UInt8) (h24r h25r : LL) (h34r h35r : LL) (h :
 (C_crossing_list_9 h2_1_0 h2_1_1 h2_1_2 h2_1_3 h3_1_0 h3_1_1 h3_1_2 h3_1_3 h24r h25r h34r h35r (K_crossing_list_0 Q))) : K_crossing_list_1 Q (.exit 0) ⟨[(2, (.ptr (Nm.loc 2) 0)), (3, (.ptr (Nm.loc 3) 0))], [((Nm.loc 2), (.blk ty_api_Value [(Ai h2_1_0), (Ai h2_1_1), (Ai h2_1_2), (As h2_1_3), (.own ((Nm.loc 2).cell 4)), (.own ((Nm.loc 2).cell 5))])), ((Nm.loc 3), (.blk ty_api_Value [(Ai h3_1_0), (Ai h3_1_1), (Ai h3_1_2), (As h3_1_3), (.own ((Nm.loc 3).cell 4)), (.own ((Nm.loc 3).cell 5))])), (((Nm.loc 2).cell 4), (.arr (ty_api_Value + 2) true 6 h24r)), (((Nm.loc 2).cell 5), (.arr (ty_api_Pair + 2) true 7 h25r)), (((Nm.loc 3).cell 4), (.arr (ty_api_Value + 2) true 6 h34r)), (((Nm.loc 3).cell 5), (.arr (ty_api_Pair + 2) true 7 h35r))]⟩ := kr (by kernel_rfl) h
theorem ok_crossing_list : FnOK E0.P 37 ac_crossing_list.code nt_crossing_list [.cell 2 39] := fn_ok _ _ Tryd.f37 [(3, [2, 3, 7, 8, 9], []), (5, [2, 3], []), (9, [2, 3], [])] [2] _ 22 Tryd.func37 (by kernel_rfl) (by kernel_rfl) (by kernel_rfl) (by kernel_rfl)
theorem F_crossing_list_of (a0 : LL) (Q : QQ) (h :
 (L_crossing_list_3 a0 ((↑a0.length : Int)) ((0 : Int)) ((0 : Int)) ((0 : Int)) ((0 : Int)) [] ((5 : Int)) ((0 : Int)) ((0 : Int)) [] [] [] [] [] (K_crossing_list_1 Q))) : Call E0.P fn_crossing_list [(Al 1 a0)] [] Q := fun_rule (envN E0 nt_crossing_list) (okE nt_crossing_list) 3 0 37 ac_crossing_list [.cell 2 39] ok_crossing_list _ _ Q rfl rfl (kr (by kernel_rfl) h)
noncomputable def ac_crossing_numbers : AC := (annot [(3, [0, 1, 6, 7], []), (5, [0, 1, 6], []), (8, [0, 1, 6], []), (14, [0, 8, 9], []), (16, [8], []), (19, [0, 8, 9, 36, 37], []), (21, [0, 8, 9], []), (25, [0, 8, 9], [0, 8, 9]), (26, [8], [])] [4, 5] (codeOf Tryd.f45) 0).1
abbrev nt_crossing_numbers : Nat := 51
def L_crossing_numbers_3 (t0r : LL) (t1 t6 t7 : Int) (K : KK) : Prop := LoopOK 3 E0.P nt_crossing_numbers (lbodyOf 3 ac_crossing_numbers).code ⟨[(0, (Al 1 t0r)), (1, (Ai t1)), (6, (Ai t6)), (7, (Ai t7))], []⟩ K
def C_crossing_numbers_8 (t0r : LL) (t1 t6 : Int) (K : KK) : Prop := CutOK 8 E0.P nt_crossing_numbers (cbodyOf 8 ac_crossing_numbers).code ⟨[(0, (Al 1 t0r)), (1, (Ai t1)), (6, (Ai t6))], []⟩ K
def L_crossing_numbers_14 (t0r : LL) (t9 : Int) (h8r : LL) (K : KK) : Prop := LoopOK 14 E0.P nt_crossing_numbers (lbodyOf 14 ac_crossing_numbers).code ⟨[(0, (Al 1 t0r)), (8, (.own (Nm.loc 8))), (9, (Ai t9))], [((Nm.loc 8), (.arr (ty_int + 2) true 1 h8r))]⟩ K
def L_crossing_numbers_19 (t0r : LL) (t9 t36 t37 : Int) (h8r : LL) (K : KK) : Prop := LoopOK 19 E0.P nt_crossing_numbers (lbodyOf 19 ac_crossing_numbers).code ⟨[(0, (Al 1 t0r)), (8, (.own (Nm.loc 8))), (9, (Ai t9)), (36, (Ai t36)), (37, (Ai t37))], [((Nm.loc 8), (.arr (ty_int + 2) true 1 h8r))]⟩ K
def C_crossing_numbers_26 (h8r : LL) (K : KK) : Prop := CutOK 26 E0.P nt_crossing_numbers (cbodyOf 26 ac_crossing_numbers).code ⟨[(8, (.own (Nm.loc 8)))], [((Nm.loc 8), (.arr (ty_int + 2) true 1 h8r))]⟩ K
def C_crossing_numbers_25 (t0r : LL) (t9 : Int) (h8r : LL) (K : KK) : Prop := CutOK 25 E0.P nt_crossing_numbers (cbodyOf 25 ac_crossing_numbers).code ⟨[(0, (Al 1 t0r)), (8, (.own (Nm.loc 8))), (9, (Ai t9))], [((Nm.loc 8), (.arr (ty_int + 2) true 1 h8r))]⟩ K
def K_crossing_numbers_0 (Q : QQ) : KK := kE fun st => finish 0 E0.T [.tmp 4, .tmp 5] [] Q st
def K_crossing_numbers_1 (Q : QQ) : KK := kF 0 (fun st => CutOK 8 E0.P nt_crossing_numbers (cbodyOf 8 ac_crossing_numbers).code (mask [0, 1, 6] st) (K_crossing_numbers_0 Q)) fun st => finish 0 E0.T [.tmp 4, .tmp 5] [] Q st
def K_crossing_numbers_2 (K : KK) : KK := kP [] K
def K_crossing_numbers_3 (K : KK) : KK := kC 2 (fun st => CutOK 26 E0.P nt_crossing_numbers (cbodyOf 26 ac_crossing_numbers).code (mask [8] st) (K_crossing_numbers_2 K)) K
def K_crossing_numbers_4 (K : KK) : Ex → St → Prop
 | .normal, st => LoopOK 14 E0.P nt_crossing_numbers (lbodyOf 14 ac_crossing_numbers).code (mask [0, 8, 9] st) K
 | .exit i, st => K (.exit i) st
 | .goto i, st => K (.goto i) st
 | .ret, st => K .ret st
def K_crossing_numbers_5 (K : KK) : Ex → St → Prop
 | .normal, st => CutOK 25 E0.P nt_crossing_numbers (cbodyOf 25 ac_crossing_numbers).code (mask [0, 8, 9] st) (K_crossing_numbers_4 K)
 | .exit i, st => (match (i.beq 4 : Bool) with
 | true => CutOK 25 E0.P nt_crossing_numbers (cbodyOf 25 ac_crossing_numbers).code (mask [0, 8, 9] st) (K_crossing_numbers_4 K)
 | false => (match (i.beq 3 : Bool) with
 | true => CutOK 25 E0.P nt_crossing_numbers (cbodyOf 25 ac_crossing_numbers).code (mask [0, 8, 9] st) (K_crossing_numbers_4 K)
 | false => K (.exit i) st))
 | .goto i, st => K (.goto i) st
 | .ret, st => K .ret st
theorem L_crossing_numbers_3_of (t0r : LL) (t1 t6 t7 : Int) (K : KK) (h :
 (Br (decide (t7 < (↑t0r.length : Int)))
 (Req (((0 : Int) ≤ t7 ∧ t7 < (↑t0r.length : Int)) ∧ shOK [.int .i64] (t0r.getD t7.toNat []) = true)
 (L_crossing_numbers_3 t0r t1 (IntKind.i64.wrap (t6 + gI (t0r.getD t7.toNat []) 0)) (IntKind.i64.wrap (t7 + (2 : Int))) K))
 (K (.exit 0) ⟨[(0, (Al 1 t0r)), (1, (Ai t1)), (6, (Ai t6))], []⟩))) : L_crossing_numbers_3 t0r t1 t6 t7 K := loop_rule (envN E0 nt_crossing_numbers) (okE nt_crossing_numbers) 3 3 (lbodyOf 3 ac_crossing_numbers) [0, 1, 6, 7] _ K rfl (kr (by kernel_rfl) h)
theorem C_crossing_numbers_8_of (t0r : LL) (t1 t6 : Int) (K : KK) (h :
 (Br (!decide (t6 = t1))
 (K .ret ⟨[(4, (.own (Nm.loc 4))), (5, (Ab false))], [((Nm.loc 4), (.arr (ty_int + 2) true 1 []))]⟩)
 (L_crossing_numbers_14 t0r ((0 : Int)) [] (K_crossing_numbers_3 K)))) : C_crossing_numbers_8 t0r t1 t6 K := cut_rule (envN E0 nt_crossing_numbers) (okE nt_crossing_numbers) 3 8 (cbodyOf 8 ac_crossing_numbers) [] _ K rfl (kr (by kernel_rfl) h)
theorem L_crossing_numbers_14_of (t0r : LL) (t9 : Int) (h8r : LL) (K : KK) (h :
 (Br (decide (t9 < (↑t0r.length : Int)))
 (Req (((0 : Int) ≤ IntKind.i64.wrap (t9 + (1 : Int)) ∧ IntKind.i64.wrap (t9 + (1 : Int)) < (↑t0r.length : Int)) ∧
 shOK [.int .i64] (t0r.getD (IntKind.i64.wrap (t9 + (1 : Int))).toNat []) = true)
 (L_crossing_numbers_19 t0r t9 (gI (t0r.getD (IntKind.i64.wrap (t9 + (1 : Int))).toNat []) 0) ((0 : Int)) h8r (K_crossing_numbers_5 K)))
 (K (.exit (2)) ⟨[(8, (.own (Nm.loc 8)))], [((Nm.loc 8), (.arr (ty_int + 2) true 1 h8r))]⟩))) : L_crossing_numbers_14 t0r t9 h8r K := loop_rule (envN E0 nt_crossing_numbers) (okE nt_crossing_numbers) 3 14 (lbodyOf 14 ac_crossing_numbers) [0, 8, 9] _ K rfl (kr (by kernel_rfl) h)
theorem L_crossing_numbers_19_of (t0r : LL) (t9 t36 t37 : Int) (h8r : LL) (K : KK) (h :
 (Br (decide (t37 < t36))
 (Req (((0 : Int) ≤ t9 ∧ t9 < (↑t0r.length : Int)) ∧ shOK [.int .i64] (t0r.getD t9.toNat []) = true)
 (Req ((h8r.length + 1) * 8 ≤ 140737488355328 ∧ h8r.length + 1 ≤ 140737488355328)
 (L_crossing_numbers_19 t0r t9 t36 (IntKind.i64.wrap (t37 + (1 : Int))) (h8r ++ [[.int .i64 (IntKind.i64.wrap (gI (t0r.getD t9.toNat []) 0 + t37))]]) K)))
 (K (.exit (4)) ⟨[(0, (Al 1 t0r)), (8, (.own (Nm.loc 8))), (9, (Ai t9))], [((Nm.loc 8), (.arr (ty_int + 2) true 1 h8r))]⟩))) : L_crossing_numbers_19 t0r t9 t36 t37 h8r K := loop_rule (envN E0 nt_crossing_numbers) (okE nt_crossing_numbers) 3 19 (lbodyOf 19 ac_crossing_numbers) [0, 8, 9, 36, 37] _ K rfl (kr (by kernel_rfl) h)
theorem C_crossing_numbers_26_of (h8r : LL) (K : KK) (h :
 (K .ret ⟨[(4, (.own (Nm.loc 8))), (5, (Ab true))], [((Nm.loc 8), (.arr (ty_int + 2) true 1 h8r))]⟩)) : C_crossing_numbers_26 h8r K := cut_rule (envN E0 nt_crossing_numbers) (okE nt_crossing_numbers) 3 26 (cbodyOf 26 ac_crossing_numbers) [] _ K rfl (kr (by kernel_rfl) h)
theorem C_crossing_numbers_25_of (t0r : LL) (t9 : Int) (h8r : LL) (K : KK) (h :
 (K .normal ⟨[(0, (Al 1 t0r)), (8, (.own (Nm.loc 8))), (9, (Ai (IntKind.i64.wrap (t9 + (2 : Int)))))], [((Nm.loc 8), (.arr (ty_int + 2) true 1 h8r))]⟩)) : C_crossing_numbers_25 t0r t9 h8r K := cut_rule (envN E0 nt_crossing_numbers) (okE nt_crossing_numbers) 3 25 (cbodyOf 25 ac_crossing_numbers) [0, 8, 9] _ K rfl (kr (by kernel_rfl) h)
theorem K_crossing_numbers_0_x0 (Q : QQ) (t5 : Bool) (h4r : LL) (h :
 (Q (.tup [(Al 1 h4r), (Ab t5)]) [])) : K_crossing_numbers_0 Q .ret ⟨[(4, (.own (Nm.loc 4))), (5, (Ab t5))], [((Nm.loc 4), (.arr (ty_int + 2) true 1 h4r))]⟩ := kr (by kernel_rfl) h
theorem K_crossing_numbers_0_x1 (Q : QQ) (t5 : Bool) (h8r : LL) (h :
 (Q (.tup [(Al 1 h8r), (Ab t5)]) [])) : K_crossing_numbers_0 Q .ret ⟨[(4, (.own (Nm.loc 8))), (5, (Ab t5))], [((Nm.loc 8), (.arr (ty_int + 2) true 1 h8r))]⟩ := kr (by kernel_rfl) h
theorem K_crossing_numbers_1_x0 (Q : QQ) (t0r : LL) (t1 t6 : Int) (h :
 (C_crossing_numbers_8 t0r t1 t6 (K_crossing_numbers_0 Q))) : K_crossing_numbers_1 Q (.exit 0) ⟨[(0, (Al 1 t0r)), (1, (Ai t1)), (6, (Ai t6))], []⟩ := kr (by kernel_rfl) h
theorem K_crossing_numbers_2_x0 (K : KK) (t5 : Bool) (h8r : LL) (h :
 (K .ret ⟨[(4, (.own (Nm.loc 8))), (5, (Ab t5))], [((Nm.loc 8), (.arr (ty_int + 2) true 1 h8r))]⟩)) : K_crossing_numbers_2 K .ret ⟨[(4, (.own (Nm.loc 8))), (5, (Ab t5))], [((Nm.loc 8), (.arr (ty_int + 2) true 1 h8r))]⟩ := kr (by kernel_rfl) h
theorem K_crossing_numbers_3_x0 (K : KK) (h8r : LL) (h :
 (C_crossing_numbers_26 h8r (K_crossing_numbers_2 K))) : K_crossing_numbers_3 K (.exit (2)) ⟨[(8, (.own (Nm.loc 8)))], [((Nm.loc 8), (.arr (ty_int + 2) true 1 h8r))]⟩ := kr (by kernel_rfl) h
theorem K_crossing_numbers_4_x0 (K : KK) (t0r : LL) (t9 : Int) (h8r : LL) (h :
 (L_crossing_numbers_14 t0r t9 h8r K)) : K_crossing_numbers_4 K .normal ⟨[(0, (Al 1 t0r)), (8, (.own (Nm.loc 8))), (9, (Ai t9))], [((Nm.loc 8), (.arr (ty_int + 2) true 1 h8r))]⟩ := kr (by kernel_rfl) h
theorem K_crossing_numbers_5_x0 (K : KK) (t0r : LL) (t9 : Int) (h8r : LL) (h :
 (C_crossing_numbers_25 t0r t9 h8r (K_crossing_numbers_4 K))) : K_crossing_numbers_5 K (.exit (4)) ⟨[(0, (Al 1 t0r)), (8, (.own (Nm.loc 8))), (9, (Ai t9))], [((Nm.loc 8), (.arr (ty_int + 2) true 1 h8r))]⟩ := kr (by kernel_rfl) h
theorem ok_crossing_numbers : FnOK E0.P 45 ac_crossing_numbers.code nt_crossing_numbers [.tmp 4, .tmp 5] := fn_ok _ _ Tryd.f45 [(3, [0, 1, 6, 7], []), (5, [0, 1, 6], []), (8, [0, 1, 6], []), (14, [0, 8, 9], []), (16, [8], []), (19, [0, 8, 9, 36, 37], []), (21, [0, 8, 9], []), (25, [0, 8, 9], [0, 8, 9]), (26, [8], [])] [4, 5] _ 51 Tryd.func45 (by kernel_rfl) (by kernel_rfl) (by kernel_rfl) (by kernel_rfl)
theorem F_crossing_numbers_of (a0 : LL) (a1 : Int) (Q : QQ) (h :
 (L_crossing_numbers_3 a0 a1 ((0 : Int)) ((1 : Int)) (K_crossing_numbers_1 Q))) : Call E0.P fn_crossing_numbers [(Al 1 a0), (Ai a1)] [] Q := fun_rule (envN E0 nt_crossing_numbers) (okE nt_crossing_numbers) 3 0 45 ac_crossing_numbers [.tmp 4, .tmp 5] ok_crossing_numbers _ _ Q rfl rfl (kr (by kernel_rfl) h)
noncomputable def ac_crossing_parts : AC := (annot [(3, [0, 3, 6, 7, 8], []), (5, [3], []), (10, [0, 3, 6, 7, 8], []), (13, [3], [])] [2] (codeOf Tryd.f38) 0).1
abbrev nt_crossing_parts : Nat := 42
def L_crossing_parts_3 (t0r t6r : LL) (t7 t8 : Int) (h3r : LL) (K : KK) : Prop := LoopOK 3 E0.P nt_crossing_parts (lbodyOf 3 ac_crossing_parts).code ⟨[(0, (Al 4 t0r)), (3, (.own (Nm.loc 3))), (6, (Al 4 t6r)), (7, (Ai t7)), (8, (Ai t8))], [((Nm.loc 3), (.arr (ty_int + 2) true 1 h3r))]⟩ K
def C_crossing_parts_13 (h3r : LL) (K : KK) : Prop := CutOK 13 E0.P nt_crossing_parts (cbodyOf 13 ac_crossing_parts).code ⟨[(3, (.own (Nm.loc 3)))], [((Nm.loc 3), (.arr (ty_int + 2) true 1 h3r))]⟩ K
def K_crossing_parts_0 (Q : QQ) : KK := kE fun st => finish 0 E0.T [.tmp 2] [] Q st
def K_crossing_parts_1 (Q : QQ) : KK := kF 0 (fun st => CutOK 13 E0.P nt_crossing_parts (cbodyOf 13 ac_crossing_parts).code (mask [3] st) (K_crossing_parts_0 Q)) fun st => finish 0 E0.T [.tmp 2] [] Q st
theorem L_crossing_parts_3_of (t0r t6r : LL) (t7 t8 : Int) (h3r : LL) (K : KK) (h :
 (Br (decide (t8 < t7))
 (Req (((0 : Int) ≤ t8 ∧ t8 < (↑t6r.length : Int)) ∧
 shOK [.int .i64, .int .i64, .int .i64, .int .i64] (t6r.getD t8.toNat []) = true)
 (Req (decide ((0 : Int) < t8) = true →
 ((0 : Int) ≤ IntKind.i64.wrap (t8 - (1 : Int)) ∧ IntKind.i64.wrap (t8 - (1 : Int)) < (↑t0r.length : Int)) ∧
 shOK [.int .i64, .int .i64, .int .i64, .int .i64]
 (t0r.getD (IntKind.i64.wrap (t8 - (1 : Int))).toNat []) =
 true)
 (Let (bif decide ((0 : Int) < t8) then
 decide
 (gI (t0r.getD (IntKind.i64.wrap (t8 - (1 : Int))).toNat []) 0 =
 IntKind.i64.wrap (gI (t6r.getD t8.toNat []) 0 - (1 : Int)))
 else false) fun x0 =>
 Br (x0)
 (Req ((0 : Int) ≤ IntKind.i64.wrap ((↑h3r.length : Int) - (1 : Int)) ∧
 IntKind.i64.wrap ((↑h3r.length : Int) - (1 : Int)) < (↑h3r.length : Int))
 (Req ((IntKind.i64.wrap ((↑h3r.length : Int) - (1 : Int))).toNat < h3r.length ∧
 shOK [.int .i64]
 (List.take 1
 (List.drop 0 (h3r.getD (IntKind.i64.wrap ((↑h3r.length : Int) - (1 : Int))).toNat []))) =
 true)
 (Req ((0 : Int) ≤ IntKind.i64.wrap ((↑h3r.length : Int) - (1 : Int)) ∧
 IntKind.i64.wrap ((↑h3r.length : Int) - (1 : Int)) < (↑h3r.length : Int))
 (Req ((IntKind.i64.wrap ((↑h3r.length : Int) - (1 : Int))).toNat < h3r.length)
 (L_crossing_parts_3 t0r t6r t7 (IntKind.i64.wrap (t8 + (1 : Int))) (h3r.set (IntKind.i64.wrap ((↑h3r.length : Int) - (1 : Int))).toNat
 [.int .i64
 (IntKind.i64.wrap
 (gI
 (List.take 1
 (List.drop 0 (h3r.getD (IntKind.i64.wrap ((↑h3r.length : Int) - (1 : Int))).toNat [])))
 0 +
 (1 : Int)))]) K)))))
 (Req ((h3r.length + 2) * 8 ≤ 140737488355328 ∧ h3r.length + 2 ≤ 140737488355328)
 (L_crossing_parts_3 t0r t6r t7 (IntKind.i64.wrap (t8 + (1 : Int))) (h3r ++ [[.int .i64 (gI (t6r.getD t8.toNat []) 0)], [.int .i64 (1 : Int)]]) K)))))
 (K (.exit 0) ⟨[(3, (.own (Nm.loc 3)))], [((Nm.loc 3), (.arr (ty_int + 2) true 1 h3r))]⟩))) : L_crossing_parts_3 t0r t6r t7 t8 h3r K := loop_rule (envN E0 nt_crossing_parts) (okE nt_crossing_parts) 3 3 (lbodyOf 3 ac_crossing_parts) [0, 3, 6, 7, 8] _ K rfl (kr (by kernel_rfl) h)
theorem C_crossing_parts_13_of (h3r : LL) (K : KK) (h :
 (K .ret ⟨[(2, (.own (Nm.loc 3)))], [((Nm.loc 3), (.arr (ty_int + 2) true 1 h3r))]⟩)) : C_crossing_parts_13 h3r K := cut_rule (envN E0 nt_crossing_parts) (okE nt_crossing_parts) 3 13 (cbodyOf 13 ac_crossing_parts) [] _ K rfl (kr (by kernel_rfl) h)
theorem K_crossing_parts_0_x0 (Q : QQ) (h3r : LL) (h :
 (Q (Al 1 h3r) [])) : K_crossing_parts_0 Q .ret ⟨[(2, (.own (Nm.loc 3)))], [((Nm.loc 3), (.arr (ty_int + 2) true 1 h3r))]⟩ := kr (by kernel_rfl) h
theorem K_crossing_parts_1_x0 (Q : QQ) (h3r : LL) (h :
 (C_crossing_parts_13 h3r (K_crossing_parts_0 Q))) : K_crossing_parts_1 Q (.exit 0) ⟨[(3, (.own (Nm.loc 3)))], [((Nm.loc 3), (.arr (ty_int + 2) true 1 h3r))]⟩ := kr (by kernel_rfl) h
theorem ok_crossing_parts : FnOK E0.P 38 ac_crossing_parts.code nt_crossing_parts [.tmp 2] := fn_ok _ _ Tryd.f38 [(3, [0, 3, 6, 7, 8], []), (5, [3], []), (10, [0, 3, 6, 7, 8], []), (13, [3], [])] [2] _ 42 Tryd.func38 (by kernel_rfl) (by kernel_rfl) (by kernel_rfl) (by kernel_rfl)
theorem F_crossing_parts_of (a0 : LL) (Q : QQ) (h :
 (L_crossing_parts_3 a0 a0 ((↑a0.length : Int)) ((0 : Int)) [] (K_crossing_parts_1 Q))) : Call E0.P fn_crossing_parts [(Al 4 a0)] [] Q := fun_rule (envN E0 nt_crossing_parts) (okE nt_crossing_parts) 3 0 38 ac_crossing_parts [.tmp 2] ok_crossing_parts _ _ Q rfl rfl (kr (by kernel_rfl) h)
noncomputable def ac_crossing_spans : AC := (annot [(4, [1000004], [])] [2, 3] (codeOf Tryd.f44) 0).1
abbrev nt_crossing_spans : Nat := 38
def C_crossing_spans_4 (h4_1_0 h4_1_1 h4_1_2 : Int) (h4_1_3 : List UInt8) (h4_1_4r h4_1_5r : LL) (K : KK) : Prop := CutOK 4 E0.P nt_crossing_spans (cbodyOf 4 ac_crossing_spans).code ⟨[(4, (.ptr (Nm.loc 4) 0))], [((Nm.loc 4), (.blk ty_api_Value [(Ai h4_1_0), (Ai h4_1_1), (Ai h4_1_2), (As h4_1_3), (Al 6 h4_1_4r), (Al 7 h4_1_5r)]))]⟩ K
def K_crossing_spans_0 (Q : QQ) : KK := kE fun st => finish 0 E0.T [.tmp 2, .tmp 3] [] Q st
theorem C_crossing_spans_4_of (h4_1_0 h4_1_1 h4_1_2 : Int) (h4_1_3 : List UInt8) (h4_1_4r h4_1_5r : LL) (K : KK) (h :
 (Call E0.P fn_crossing_ints [(.imm (.agg [(.int .i64 h4_1_0), (.int .i64 h4_1_1), (.int .i64 h4_1_2), (.str h4_1_3), (.sl .any 6 h4_1_4r), (.sl .any 7 h4_1_5r)])), (Ai 8388608)] [] fun r0 g0 =>
 Req (g0 = [] ∧ r0 = .tup [.imm (.sl SK.any 1 (rR (rT r0 0))), .imm (.bool (rB (rT r0 1)))])
 (Req (rB (rT r0 1) = true → (2 : Int) ≠ (0 : Int))
 (Let (bif rB (rT r0 1) then decide ((↑(rR (rT r0 (0 : Nat))).length : Int).tmod (2 : Int) = (0 : Int)) else false) fun x1 =>
 K .ret ⟨[(2, (Al 1 (rR (rT r0 0)))), (3, (Ab x1))], []⟩)))) : C_crossing_spans_4 h4_1_0 h4_1_1 h4_1_2 h4_1_3 h4_1_4r h4_1_5r K := cut_rule (envN E0 nt_crossing_spans) (okE nt_crossing_spans) 3 4 (cbodyOf 4 ac_crossing_spans) [] _ K rfl (kr (by kernel_rfl) h)
theorem K_crossing_spans_0_x0 (Q : QQ) (t2r : LL) (t3 : Bool) (h :
 (Q (.tup [(Al 1 t2r), (Ab t3)]) [])) : K_crossing_spans_0 Q .ret ⟨[(2, (Al 1 t2r)), (3, (Ab t3))], []⟩ := kr (by kernel_rfl) h
theorem ok_crossing_spans : FnOK E0.P 44 ac_crossing_spans.code nt_crossing_spans [.tmp 2, .tmp 3] := fn_ok _ _ Tryd.f44 [(4, [1000004], [])] [2, 3] _ 38 Tryd.func44 (by kernel_rfl) (by kernel_rfl) (by kernel_rfl) (by kernel_rfl)
theorem F_crossing_spans_of (a0 : LL) (Q : QQ) (h :
 (Call E0.P fn_crossing_get [(Al 7 a0), (.imm (.str [73, 110, 100, 101, 120]))] [] fun r0 g0 =>
 Req (g0 = [] ∧
 r0 =
 .tup
 [.imm
 (IV.agg
 [.int .i64 (gI (aCells (rT r0 0)) 0),
 .int .i64 (gI (aCells (rT r0 0)) 1),
 .int .i64 (gI (aCells (rT r0 0)) 2),
 .str (gS (aCells (rT r0 0)) 3),
 .sl SK.any 6 (gR (aCells (rT r0 0)) 4),
 .sl SK.any 7 (gR (aCells (rT r0 0)) 5)]),
 .imm (.bool (rB (rT r0 1)))])
 (Br (!rB (rT r0 1))
 (Call E0.P fn_crossing_get [(Al 7 a0), (.imm (.str [83, 105, 122, 101]))] [] fun r1 g1 =>
 Req (g1 = [] ∧
 r1 =
 .tup
 [.imm
 (IV.agg
 [.int .i64 (gI (aCells (rT r1 0)) 0),
 .int .i64 (gI (aCells (rT r1 0)) 1),
 .int .i64 (gI (aCells (rT r1 0)) 2),
 .str (gS (aCells (rT r1 0)) 3),
 .sl SK.any 6 (gR (aCells (rT r1 0)) 4),
 .sl SK.any 7 (gR (aCells (rT r1 0)) 5)]),
 .imm (.bool (rB (rT r1 1)))])
 (C_crossing_spans_4 ((5 : Int)) ((0 : Int)) ((0 : Int)) [] [[.int .i64 (2 : Int), .int .i64 (0 : Int), .int .i64 (0 : Int), .str [],
 .sl SK.any 6 [], .sl SK.any 7 []],
 [.int .i64 (gI (aCells (rT r1 0)) 0),
 .int .i64 (gI (aCells (rT r1 0)) 1),
 .int .i64 (gI (aCells (rT r1 0)) 2), .str (gS (aCells (rT r1 0)) 3),
 .sl SK.any 6 (gR (aCells (rT r1 0)) 4),
 .sl SK.any 7 (gR (aCells (rT r1 0)) 5)]] [] (K_crossing_spans_0 Q)))
 (C_crossing_spans_4 (gI (aCells (rT r0 0)) 0) (gI (aCells (rT r0 0)) 1) (gI (aCells (rT r0 0)) 2) (gS (aCells (rT r0 0)) 3) (gR (aCells (rT r0 0)) 4) (gR (aCells (rT r0 0)) 5) (K_crossing_spans_0 Q))))) : Call E0.P fn_crossing_spans [(Al 7 a0)] [] Q := fun_rule (envN E0 nt_crossing_spans) (okE nt_crossing_spans) 3 0 44 ac_crossing_spans [.tmp 2, .tmp 3] ok_crossing_spans _ _ Q rfl rfl (kr (by kernel_rfl) h)
noncomputable def ac_crossing_widths : AC := (annot [] [2, 3] (codeOf Tryd.f43) 0).1
abbrev nt_crossing_widths : Nat := 37
theorem ok_crossing_widths : FnOK E0.P 43 ac_crossing_widths.code nt_crossing_widths [.tmp 2, .tmp 3] := fn_ok _ _ Tryd.f43 [] [2, 3] _ 37 Tryd.func43 (by kernel_rfl) (by kernel_rfl) (by kernel_rfl) (by kernel_rfl)
theorem F_crossing_widths_of (a0 : LL) (Q : QQ) (h :
 (Call E0.P fn_crossing_get [(Al 7 a0), (.imm (.str [87]))] [] fun r0 g0 =>
 Req (g0 = [] ∧
 r0 =
 .tup
 [.imm
 (IV.agg
 [.int .i64 (gI (aCells (rT r0 0)) 0),
 .int .i64 (gI (aCells (rT r0 0)) 1),
 .int .i64 (gI (aCells (rT r0 0)) 2),
 .str (gS (aCells (rT r0 0)) 3),
 .sl SK.any 6 (gR (aCells (rT r0 0)) 4),
 .sl SK.any 7 (gR (aCells (rT r0 0)) 5)]),
 .imm (.bool (rB (rT r0 1)))])
 (Call E0.P fn_crossing_ints [(.imm (.agg [(.int .i64 (gI (aCells (rT r0 0)) 0)), (.int .i64 (gI (aCells (rT r0 0)) 1)), (.int .i64 (gI (aCells (rT r0 0)) 2)), (.str (gS (aCells (rT r0 0)) 3)), (.sl .any 6 (gR (aCells (rT r0 0)) 4)), (.sl .any 7 (gR (aCells (rT r0 0)) 5))])), (Ai 8)] [] fun r1 g1 =>
 Req (g1 = [] ∧ r1 = .tup [.imm (.sl SK.any 1 (rR (rT r1 0))), .imm (.bool (rB (rT r1 1)))])
 (Let (bif !rB (rT r1 1) then true else !decide ((↑(rR (rT r1 (0 : Nat))).length : Int) = (3 : Int))) fun x2 =>
 Br (x2)
 (Q (.tup [(.imm (.sl .any 1 [])), (Ai 0)]) [])
 (Req (((0 : Int) ≤ (0 : Int) ∧ (0 : Int) < (↑(rR (rT r1 (0 : Nat))).length : Int)) ∧
 shOK [.int .i64] ((rR (rT r1 0)).getD 0 []) = true)
 (Req (((0 : Int) ≤ (1 : Int) ∧ (1 : Int) < (↑(rR (rT r1 (0 : Nat))).length : Int)) ∧
 shOK [.int .i64] ((rR (rT r1 0)).getD 1 []) = true)
 (Req (((0 : Int) ≤ (2 : Int) ∧ (2 : Int) < (↑(rR (rT r1 (0 : Nat))).length : Int)) ∧
 shOK [.int .i64] ((rR (rT r1 0)).getD 2 []) = true)
 (Q (.tup [(Al 1 (rR (rT r1 0))), (.imm (.int .i64 (IntKind.i64.wrap
 (IntKind.i64.wrap
 (gI ((rR (rT r1 0)).getD 0 []) 0 +
 gI ((rR (rT r1 0)).getD 1 []) 0) +
 gI ((rR (rT r1 0)).getD 2 []) 0))))]) [])))))))) : Call E0.P fn_crossing_widths [(Al 7 a0)] [] Q := fun_rule (envN E0 nt_crossing_widths) (okE nt_crossing_widths) 3 0 43 ac_crossing_widths [.tmp 2, .tmp 3] ok_crossing_widths _ _ Q rfl rfl (kr (by kernel_rfl) h)
noncomputable def ac_fields_Cut : AC := (annot [(12, [0, 8, 29, 30, 31], []), (14, [8], []), (22, [8], [])] [4, 5] (codeOf Tryd.f46) 0).1
abbrev nt_fields_Cut : Nat := 54
def L_fields_Cut_12 (t0 : List UInt8) (t29r : LL) (t30 t31 : Int) (h8r : LL) (K : KK) : Prop := LoopOK 12 E0.P nt_fields_Cut (lbodyOf 12 ac_fields_Cut).code ⟨[(0, (As t0)), (8, (.own (Nm.loc 8))), (29, (Al 1 t29r)), (30, (Ai t30)), (31, (Ai t31))], [((Nm.loc 8), (.arr (ty_int + 2) true 1 h8r))]⟩ K
def C_fields_Cut_22 (h8r : LL) (K : KK) : Prop := CutOK 22 E0.P nt_fields_Cut (cbodyOf 22 ac_fields_Cut).code ⟨[(8, (.own (Nm.loc 8)))], [((Nm.loc 8), (.arr (ty_int + 2) true 1 h8r))]⟩ K
def K_fields_Cut_0 (Q : QQ) : KK := kE fun st => finish (2) E0.T [.tmp 4, .tmp 5] [] Q st
def K_fields_Cut_1 (Q : QQ) : KK := kF 1 (fun st => CutOK 22 E0.P nt_fields_Cut (cbodyOf 22 ac_fields_Cut).code (mask [8] st) (K_fields_Cut_0 Q)) fun st => finish (2) E0.T [.tmp 4, .tmp 5] [] Q st
theorem L_fields_Cut_12_of (t0 : List UInt8) (t29r : LL) (t30 t31 : Int) (h8r : LL) (K : KK) (h :
 (Br (decide (t31 < t30))
 (Req (((0 : Int) ≤ t31 ∧ t31 < (↑t29r.length : Int)) ∧ shOK [.int .i64] (t29r.getD t31.toNat []) = true)
 (Req ((0 : Int) ≤ gI (t29r.getD t31.toNat []) 0 ∧ gI (t29r.getD t31.toNat []) 0 ≤ (↑t0.length : Int))
 (Let (List.take (gI (t29r.getD t31.toNat []) 0).toNat t0) fun x0 =>
 Call E0.P fn_fields_Get [(As x0)] [] fun r1 g1 =>
 Req (g1 = [] ∧
 r1 = .tup [.imm (.int .i64 (rI (rT r1 0))), .imm (.int .i64 (rI (rT r1 1)))])
 (Br (!decide (rI (rT r1 1) = (0 : Int)))
 (K .ret ⟨[(4, (.own (Nm.loc 4))), (5, (Ai (rI (rT r1 1))))], [((Nm.loc 4), (.arr (ty_int + 2) true 1 []))]⟩)
 (Req ((0 : Int) ≤ gI (t29r.getD t31.toNat []) 0 ∧ gI (t29r.getD t31.toNat []) 0 ≤ (↑t0.length : Int))
 (Let (List.drop (gI (t29r.getD t31.toNat []) 0).toNat t0) fun x2 =>
 Req ((h8r.length + 1) * 8 ≤ 140737488355328 ∧ h8r.length + 1 ≤ 140737488355328)
 (L_fields_Cut_12 x2 t29r t30 (IntKind.i64.wrap (t31 + (1 : Int))) (h8r ++ [[.int .i64 (rI (rT r1 0))]]) K)))))))
 (K (.exit (1)) ⟨[(8, (.own (Nm.loc 8)))], [((Nm.loc 8), (.arr (ty_int + 2) true 1 h8r))]⟩))) : L_fields_Cut_12 t0 t29r t30 t31 h8r K := loop_rule (envN E0 nt_fields_Cut) (okE nt_fields_Cut) 3 12 (lbodyOf 12 ac_fields_Cut) [0, 8, 29, 30, 31] _ K rfl (kr (by kernel_rfl) h)
theorem C_fields_Cut_22_of (h8r : LL) (K : KK) (h :
 (K .ret ⟨[(4, (.own (Nm.loc 8))), (5, (Ai 0))], [((Nm.loc 8), (.arr (ty_int + 2) true 1 h8r))]⟩)) : C_fields_Cut_22 h8r K := cut_rule (envN E0 nt_fields_Cut) (okE nt_fields_Cut) 3 22 (cbodyOf 22 ac_fields_Cut) [] _ K rfl (kr (by kernel_rfl) h)
theorem K_fields_Cut_0_x0 (Q : QQ) (t5 : Int) (h8r : LL) (h :
 (Q (.tup [(.own (Nm.loc 0)), (Ai t5)]) ([] ++ [(Nm.loc 0, Entry.arr 0 true 1 h8r)]))) : K_fields_Cut_0 Q .ret ⟨[(4, (.own (Nm.loc 8))), (5, (Ai t5))], [((Nm.loc 8), (.arr (ty_int + 2) true 1 h8r))]⟩ := kr (by kernel_rfl) h
theorem K_fields_Cut_1_x0 (Q : QQ) (t5 : Int) (h4r : LL) (h :
 (Q (.tup [(.own (Nm.loc 0)), (Ai t5)]) ([] ++ [(Nm.loc 0, Entry.arr 0 true 1 h4r)]))) : K_fields_Cut_1 Q .ret ⟨[(4, (.own (Nm.loc 4))), (5, (Ai t5))], [((Nm.loc 4), (.arr (ty_int + 2) true 1 h4r))]⟩ := kr (by kernel_rfl) h
theorem K_fields_Cut_1_x1 (Q : QQ) (h8r : LL) (h :
 (C_fields_Cut_22 h8r (K_fields_Cut_0 Q))) : K_fields_Cut_1 Q (.exit (1)) ⟨[(8, (.own (Nm.loc 8)))], [((Nm.loc 8), (.arr (ty_int + 2) true 1 h8r))]⟩ := kr (by kernel_rfl) h
theorem ok_fields_Cut : FnOK E0.P 46 ac_fields_Cut.code nt_fields_Cut [.tmp 4, .tmp 5] := fn_ok _ _ Tryd.f46 [(12, [0, 8, 29, 30, 31], []), (14, [8], []), (22, [8], [])] [4, 5] _ 54 Tryd.func46 (by kernel_rfl) (by kernel_rfl) (by kernel_rfl) (by kernel_rfl)
theorem F_fields_Cut_of (a0 : List UInt8) (a1 : LL) (Q : QQ) (h :
 (Br (decide ((16 : Int) < (↑a1.length : Int)))
 (Q (.tup [(.own (Nm.loc 0)), (Ai 2)]) ([] ++ [(Nm.loc 0, Entry.arr 0 true 1 [])]))
 (Call E0.P fn_fields_together [(Al 1 a1)] [] fun r0 g0 =>
 Req (g0 = [] ∧ r0 = .tup [.imm (.int .i64 (rI (rT r0 0))), .imm (.bool (rB (rT r0 1)))])
 (Br (!rB (rT r0 1))
 (Q (.tup [(.own (Nm.loc 0)), (Ai 2)]) ([] ++ [(Nm.loc 0, Entry.arr 0 true 1 [])]))
 (Br (!decide (rI (rT r0 0) = (↑a0.length : Int)))
 (Q (.tup [(.own (Nm.loc 0)), (Ai 4)]) ([] ++ [(Nm.loc 0, Entry.arr 0 true 1 [])]))
 (L_fields_Cut_12 a0 a1 ((↑a1.length : Int)) ((0 : Int)) [] (K_fields_Cut_1 Q))))))) : Call E0.P fn_fields_Cut [(As a0), (Al 1 a1)] [] Q := fun_rule (envN E0 nt_fields_Cut) (okE nt_fields_Cut) 3 2 46 ac_fields_Cut [.tmp 4, .tmp 5] ok_fields_Cut _ _ Q rfl rfl (kr (by kernel_rfl) h)
noncomputable def ac_fields_Get : AC := (annot [(6, [0, 4, 10, 11], []), (8, [4], []), (12, [4], [])] [2, 3] (codeOf Tryd.f82) 0).1
abbrev nt_fields_Get : Nat := 27
def L_fields_Get_6 (t0 : List UInt8) (t4 t10 t11 : Int) (K : KK) : Prop := LoopOK 6 E0.P nt_fields_Get (lbodyOf 6 ac_fields_Get).code ⟨[(0, (As t0)), (4, (.imm (.int .u64 t4))), (10, (Ai t10)), (11, (Ai t11))], []⟩ K
def C_fields_Get_12 (t4 : Int) (K : KK) : Prop := CutOK 12 E0.P nt_fields_Get (cbodyOf 12 ac_fields_Get).code ⟨[(4, (.imm (.int .u64 t4)))], []⟩ K
def K_fields_Get_0 (Q : QQ) : KK := kE fun st => finish 0 E0.T [.tmp 2, .tmp 3] [] Q st
def K_fields_Get_1 (Q : QQ) : KK := kF 0 (fun st => CutOK 12 E0.P nt_fields_Get (cbodyOf 12 ac_fields_Get).code (mask [4] st) (K_fields_Get_0 Q)) fun st => finish 0 E0.T [.tmp 2, .tmp 3] [] Q st
theorem L_fields_Get_6_of (t0 : List UInt8) (t4 t10 t11 : Int) (K : KK) (h :
 (Br (decide (t11 < t10))
 (Req ((0 : Int) ≤ (8 : Int))
 (Req ((0 : Int) ≤ t11 ∧ t11 < (↑t0.length : Int))
 (L_fields_Get_6 t0 (IntKind.u64.wrap
 (↑(BitVec.ofInt (64 : Nat) (IntKind.u64.wrap (t4 * (2 : Int) ^ (8 : Nat))) |||
 BitVec.ofInt (64 : Nat) (IntKind.u64.wrap (↑(t0.getD t11.toNat 0).toNat : Int))).toNat :
 Int)) t10 (IntKind.i64.wrap (t11 + (1 : Int))) K)))
 (K (.exit 0) ⟨[(4, (.imm (.int .u64 t4)))], []⟩))) : L_fields_Get_6 t0 t4 t10 t11 K := loop_rule (envN E0 nt_fields_Get) (okE nt_fields_Get) 3 6 (lbodyOf 6 ac_fields_Get) [0, 4, 10, 11] _ K rfl (kr (by kernel_rfl) h)
theorem C_fields_Get_12_of (t4 : Int) (K : KK) (h :
 (Req ((0 : Int) ≤ (63 : Int))
 (Br (!decide (t4.fdiv ((2 : Int) ^ 63) = (0 : Int)))
 (K .ret ⟨[(2, (Ai 0)), (3, (Ai 3))], []⟩)
 (K .ret ⟨[(2, (Ai (IntKind.i64.wrap t4))), (3, (Ai 0))], []⟩)))) : C_fields_Get_12 t4 K := cut_rule (envN E0 nt_fields_Get) (okE nt_fields_Get) 3 12 (cbodyOf 12 ac_fields_Get) [] _ K rfl (kr (by kernel_rfl) h)
theorem K_fields_Get_0_x0 (Q : QQ) (t2 t3 : Int) (h :
 (Q (.tup [(Ai t2), (Ai t3)]) [])) : K_fields_Get_0 Q .ret ⟨[(2, (Ai t2)), (3, (Ai t3))], []⟩ := kr (by kernel_rfl) h
theorem K_fields_Get_1_x0 (Q : QQ) (t4 : Int) (h :
 (C_fields_Get_12 t4 (K_fields_Get_0 Q))) : K_fields_Get_1 Q (.exit 0) ⟨[(4, (.imm (.int .u64 t4)))], []⟩ := kr (by kernel_rfl) h
theorem ok_fields_Get : FnOK E0.P 82 ac_fields_Get.code nt_fields_Get [.tmp 2, .tmp 3] := fn_ok _ _ Tryd.f82 [(6, [0, 4, 10, 11], []), (8, [4], []), (12, [4], [])] [2, 3] _ 27 Tryd.func82 (by kernel_rfl) (by kernel_rfl) (by kernel_rfl) (by kernel_rfl)
theorem F_fields_Get_of (a0 : List UInt8) (Q : QQ) (h :
 (Br (decide ((8 : Int) < (↑a0.length : Int)))
 (Q (.tup [(Ai 0), (Ai 2)]) [])
 (L_fields_Get_6 a0 ((0 : Int)) ((↑a0.length : Int)) ((0 : Int)) (K_fields_Get_1 Q)))) : Call E0.P fn_fields_Get [(As a0)] [] Q := fun_rule (envN E0 nt_fields_Get) (okE nt_fields_Get) 3 0 82 ac_fields_Get [.tmp 2, .tmp 3] ok_fields_Get _ _ Q rfl rfl (kr (by kernel_rfl) h)
noncomputable def ac_fields_Need : AC := (annot [(3, [3, 8, 9, 10], []), (5, [3], []), (13, [3, 6, 8, 9, 10, 18], []), (15, [3, 8, 9, 10], []), (20, [3, 8, 9, 10], []), (22, [3, 8, 9, 10], [3, 8, 9, 10]), (23, [3], [])] [2] (codeOf Tryd.f35) 0).1
abbrev nt_fields_Need : Nat := 32
def L_fields_Need_3 (t3 : Int) (t8r : LL) (t9 t10 : Int) (K : KK) : Prop := LoopOK 3 E0.P nt_fields_Need (lbodyOf 3 ac_fields_Need).code ⟨[(3, (Ai t3)), (8, (Al 1 t8r)), (9, (Ai t9)), (10, (Ai t10))], []⟩ K
def L_fields_Need_13 (t3 : Int) (t8r : LL) (t9 t10 t18 : Int) (h6r : LL) (K : KK) : Prop := LoopOK 13 E0.P nt_fields_Need (lbodyOf 13 ac_fields_Need).code ⟨[(3, (Ai t3)), (6, (.ptr (Nm.loc 6) 0)), (8, (Al 1 t8r)), (9, (Ai t9)), (10, (Ai t10)), (18, (Ai t18))], [((Nm.loc 6), (.arr 1 true 1 h6r))]⟩ K
def C_fields_Need_23 (t3 : Int) (K : KK) : Prop := CutOK 23 E0.P nt_fields_Need (cbodyOf 23 ac_fields_Need).code ⟨[(3, (Ai t3))], []⟩ K
def C_fields_Need_22 (t3 : Int) (t8r : LL) (t9 t10 : Int) (K : KK) : Prop := CutOK 22 E0.P nt_fields_Need (cbodyOf 22 ac_fields_Need).code ⟨[(3, (Ai t3)), (8, (Al 1 t8r)), (9, (Ai t9)), (10, (Ai t10))], []⟩ K
def K_fields_Need_0 (Q : QQ) : KK := kE fun st => finish 0 E0.T [.tmp 2] [] Q st
def K_fields_Need_1 (Q : QQ) : KK := kF 0 (fun st => CutOK 23 E0.P nt_fields_Need (cbodyOf 23 ac_fields_Need).code (mask [3] st) (K_fields_Need_0 Q)) fun st => finish 0 E0.T [.tmp 2] [] Q st
def K_fields_Need_2 (K : KK) : Ex → St → Prop
 | .normal, st => LoopOK 3 E0.P nt_fields_Need (lbodyOf 3 ac_fields_Need).code (mask [3, 8, 9, 10] st) K
 | .exit i, st => K (.exit i) st
 | .goto i, st => K (.goto i) st
 | .ret, st => K .ret st
def K_fields_Need_3 (K : KK) : Ex → St → Prop
 | .normal, st => CutOK 22 E0.P nt_fields_Need (cbodyOf 22 ac_fields_Need).code (mask [3, 8, 9, 10] st) (K_fields_Need_2 K)
 | .exit i, st => (match (i.beq 2 : Bool) with
 | true => CutOK 22 E0.P nt_fields_Need (cbodyOf 22 ac_fields_Need).code (mask [3, 8, 9, 10] st) (K_fields_Need_2 K)
 | false => (match (i.beq 1 : Bool) with
 | true => CutOK 22 E0.P nt_fields_Need (cbodyOf 22 ac_fields_Need).code (mask [3, 8, 9, 10] st) (K_fields_Need_2 K)
 | false => K (.exit i) st))
 | .goto i, st => K (.goto i) st
 | .ret, st => K .ret st
theorem L_fields_Need_3_of (t3 : Int) (t8r : LL) (t9 t10 : Int) (K : KK) (h :
 (Br (decide (t10 < t9))
 (Req (((0 : Int) ≤ t10 ∧ t10 < (↑t8r.length : Int)) ∧ shOK [.int .i64] (t8r.getD t10.toNat []) = true)
 (Br (decide (gI (t8r.getD t10.toNat []) 0 < (0 : Int)))
 (K .ret ⟨[(2, (Ai (-1)))], []⟩)
 (Call E0.P fn_fields_whole [(Ai (gI (t8r.getD t10.toNat []) 0))] [] fun r0 g0 =>
 Req (g0 = [] ∧
 r0 =
 .imm
 (IV.agg
 [.int .u8 (gI (aCells r0) 0), .int .u8 (gI (aCells r0) 1),
 .int .u8 (gI (aCells r0) 2), .int .u8 (gI (aCells r0) 3),
 .int .u8 (gI (aCells r0) 4), .int .u8 (gI (aCells r0) 5),
 .int .u8 (gI (aCells r0) 6), .int .u8 (gI (aCells r0) 7)]))
 (Req (8 = 8)
 (L_fields_Need_13 t3 t8r t9 t10 ((0 : Int)) [[.int .u8 (gI (aCells r0) 0)], [.int .u8 (gI (aCells r0) 1)],
 [.int .u8 (gI (aCells r0) 2)], [.int .u8 (gI (aCells r0) 3)],
 [.int .u8 (gI (aCells r0) 4)], [.int .u8 (gI (aCells r0) 5)],
 [.int .u8 (gI (aCells r0) 6)], [.int .u8 (gI (aCells r0) 7)]] (K_fields_Need_3 K))))))
 (K (.exit 0) ⟨[(3, (Ai t3))], []⟩))) : L_fields_Need_3 t3 t8r t9 t10 K := loop_rule (envN E0 nt_fields_Need) (okE nt_fields_Need) 3 3 (lbodyOf 3 ac_fields_Need) [3, 8, 9, 10] _ K rfl (kr (by kernel_rfl) h)
theorem L_fields_Need_13_of (t3 : Int) (t8r : LL) (t9 t10 t18 : Int) (h6r : LL) (K : KK) (h :
 (Br (decide (t18 < (8 : Int)))
 (Req ((0 : Int) ≤ t18 ∧ t18 < (↑(8 : Nat) : Int))
 (Req (t18.toNat < h6r.length ∧
 shOK [.int .u8] (List.take 1 (List.drop 0 (h6r.getD t18.toNat []))) = true)
 (Br (!decide (gI (List.take 1 (List.drop 0 (h6r.getD t18.toNat []))) 0 = (0 : Int)))
 (K (.exit (2)) ⟨[(3, (Ai (if IntKind.i64.wrap ((8 : Int) - t18) > t3 then IntKind.i64.wrap ((8 : Int) - t18) else t3))), (8, (Al 1 t8r)), (9, (Ai t9)), (10, (Ai t10))], []⟩)
 (L_fields_Need_13 t3 t8r t9 t10 (IntKind.i64.wrap (t18 + (1 : Int))) h6r K))))
 (K (.exit (2)) ⟨[(3, (Ai t3)), (8, (Al 1 t8r)), (9, (Ai t9)), (10, (Ai t10))], []⟩))) : L_fields_Need_13 t3 t8r t9 t10 t18 h6r K := loop_rule (envN E0 nt_fields_Need) (okE nt_fields_Need) 3 13 (lbodyOf 13 ac_fields_Need) [3, 6, 8, 9, 10, 18] _ K rfl (kr (by kernel_rfl) h)
theorem C_fields_Need_23_of (t3 : Int) (K : KK) (h :
 (K .ret ⟨[(2, (Ai t3))], []⟩)) : C_fields_Need_23 t3 K := cut_rule (envN E0 nt_fields_Need) (okE nt_fields_Need) 3 23 (cbodyOf 23 ac_fields_Need) [] _ K rfl (kr (by kernel_rfl) h)
theorem C_fields_Need_22_of (t3 : Int) (t8r : LL) (t9 t10 : Int) (K : KK) (h :
 (K .normal ⟨[(3, (Ai t3)), (8, (Al 1 t8r)), (9, (Ai t9)), (10, (Ai (IntKind.i64.wrap (t10 + (1 : Int)))))], []⟩)) : C_fields_Need_22 t3 t8r t9 t10 K := cut_rule (envN E0 nt_fields_Need) (okE nt_fields_Need) 3 22 (cbodyOf 22 ac_fields_Need) [3, 8, 9, 10] _ K rfl (kr (by kernel_rfl) h)
theorem K_fields_Need_0_x0 (Q : QQ) (t2 : Int) (h :
 (Q (Ai t2) [])) : K_fields_Need_0 Q .ret ⟨[(2, (Ai t2))], []⟩ := kr (by kernel_rfl) h
theorem K_fields_Need_1_x1 (Q : QQ) (t3 : Int) (h :
 (C_fields_Need_23 t3 (K_fields_Need_0 Q))) : K_fields_Need_1 Q (.exit 0) ⟨[(3, (Ai t3))], []⟩ := kr (by kernel_rfl) h
theorem K_fields_Need_2_x0 (K : KK) (t3 : Int) (t8r : LL) (t9 t10 : Int) (h :
 (L_fields_Need_3 t3 t8r t9 t10 K)) : K_fields_Need_2 K .normal ⟨[(3, (Ai t3)), (8, (Al 1 t8r)), (9, (Ai t9)), (10, (Ai t10))], []⟩ := kr (by kernel_rfl) h
theorem K_fields_Need_3_x0 (K : KK) (t3 : Int) (t8r : LL) (t9 t10 : Int) (h :
 (C_fields_Need_22 t3 t8r t9 t10 (K_fields_Need_2 K))) : K_fields_Need_3 K (.exit (2)) ⟨[(3, (Ai t3)), (8, (Al 1 t8r)), (9, (Ai t9)), (10, (Ai t10))], []⟩ := kr (by kernel_rfl) h
theorem ok_fields_Need : FnOK E0.P 35 ac_fields_Need.code nt_fields_Need [.tmp 2] := fn_ok _ _ Tryd.f35 [(3, [3, 8, 9, 10], []), (5, [3], []), (13, [3, 6, 8, 9, 10, 18], []), (15, [3, 8, 9, 10], []), (20, [3, 8, 9, 10], []), (22, [3, 8, 9, 10], [3, 8, 9, 10]), (23, [3], [])] [2] _ 32 Tryd.func35 (by kernel_rfl) (by kernel_rfl) (by kernel_rfl) (by kernel_rfl)
theorem F_fields_Need_of (a0 : LL) (Q : QQ) (h :
 (L_fields_Need_3 ((0 : Int)) a0 ((↑a0.length : Int)) ((0 : Int)) (K_fields_Need_1 Q))) : Call E0.P fn_fields_Need [(Al 1 a0)] [] Q := fun_rule (envN E0 nt_fields_Need) (okE nt_fields_Need) 3 0 35 ac_fields_Need [.tmp 2] ok_fields_Need _ _ Q rfl rfl (kr (by kernel_rfl) h)
noncomputable def ac_fields_Put : AC := (annot [] [4, 5] (codeOf Tryd.f105) 0).1
abbrev nt_fields_Put : Nat := 27
theorem ok_fields_Put : FnOK E0.P 105 ac_fields_Put.code nt_fields_Put [.tmp 4, .tmp 5] := fn_ok _ _ Tryd.f105 [] [4, 5] _ 27 Tryd.func105 (by kernel_rfl) (by kernel_rfl) (by kernel_rfl) (by kernel_rfl)
theorem F_fields_Put_of (a0 a1 : Int) (Q : QQ) (h :
 (Call E0.P fn_fields_fits [(Ai a1)] [] fun r0 g0 =>
 Req (g0 = [] ∧ r0 = .imm (.bool (rB r0)))
 (Br (!rB r0)
 (Q (.tup [(.imm (.str [])), (Ai 2)]) [])
 (Call E0.P fn_fields_Need [(.imm (.sl .any 1 [[.int .i64 a0]]))] [] fun r1 g1 =>
 Req (g1 = [] ∧ r1 = .imm (.int .i64 (rI r1)))
 (Let (bif decide (rI r1 < (0 : Int)) then true else decide (a1 < rI r1)) fun x2 =>
 Br (x2)
 (Q (.tup [(.imm (.str [])), (Ai 3)]) [])
 (Call E0.P fn_fields_whole [(Ai a0)] [] fun r3 g3 =>
 Req (g3 = [] ∧
 r3 =
 .imm
 (IV.agg
 [.int .u8 (gI (aCells r3) 0), .int .u8 (gI (aCells r3) 1),
 .int .u8 (gI (aCells r3) 2), .int .u8 (gI (aCells r3) 3),
 .int .u8 (gI (aCells r3) 4), .int .u8 (gI (aCells r3) 5),
 .int .u8 (gI (aCells r3) 6), .int .u8 (gI (aCells r3) 7)]))
 (Req (8 = 8)
 (Req (((0 : Int) ≤ IntKind.i64.wrap ((8 : Int) - a1) ∧ IntKind.i64.wrap ((8 : Int) - a1) ≤ (↑(8 : Nat) : Int)) ∧
 8 = 8)
 (Req (∀ (r : List IV),
 r ∈
 List.take (8 - (IntKind.i64.wrap ((8 : Int) - a1)).toNat)
 (List.drop (IntKind.i64.wrap ((8 : Int) - a1)).toNat
 [[.int .u8 (gI (aCells r3) 0)], [.int .u8 (gI (aCells r3) 1)],
 [.int .u8 (gI (aCells r3) 2)], [.int .u8 (gI (aCells r3) 3)],
 [.int .u8 (gI (aCells r3) 4)], [.int .u8 (gI (aCells r3) 5)],
 [.int .u8 (gI (aCells r3) 6)], [.int .u8 (gI (aCells r3) 7)]]) →
 shOK [.int .u8] r = true)
 (Q (.tup [(.imm (.str (List.map (fun r => UInt8.ofNat (gI r 0).toNat)
 (List.take (8 - (IntKind.i64.wrap ((8 : Int) - a1)).toNat)
 (List.drop (IntKind.i64.wrap ((8 : Int) - a1)).toNat
 [[.int .u8 (gI (aCells r3) 0)], [.int .u8 (gI (aCells r3) 1)],
 [.int .u8 (gI (aCells r3) 2)], [.int .u8 (gI (aCells r3) 3)],
 [.int .u8 (gI (aCells r3) 4)], [.int .u8 (gI (aCells r3) 5)],
 [.int .u8 (gI (aCells r3) 6)], [.int .u8 (gI (aCells r3) 7)]]))))), (Ai 0)]) [])))))))))) : Call E0.P fn_fields_Put [(Ai a0), (Ai a1)] [] Q := fun_rule (envN E0 nt_fields_Put) (okE nt_fields_Put) 3 0 105 ac_fields_Put [.tmp 4, .tmp 5] ok_fields_Put _ _ Q rfl rfl (kr (by kernel_rfl) h)
noncomputable def ac_fields_Row : AC := (annot [(6, [1, 6, 21, 22, 23], []), (8, [6], []), (16, [6], [])] [4, 5] (codeOf Tryd.f73) 0).1
abbrev nt_fields_Row : Nat := 46
def L_fields_Row_6 (t1r t21r : LL) (t22 t23 : Int) (h6r : LL) (K : KK) : Prop := LoopOK 6 E0.P nt_fields_Row (lbodyOf 6 ac_fields_Row).code ⟨[(1, (Al 1 t1r)), (6, (.own (Nm.loc 6))), (21, (Al 1 t21r)), (22, (Ai t22)), (23, (Ai t23))], [((Nm.loc 6), (.arr (ty_uint8 + 2) true 1 h6r))]⟩ K
def C_fields_Row_16 (h6r : LL) (K : KK) : Prop := CutOK 16 E0.P nt_fields_Row (cbodyOf 16 ac_fields_Row).code ⟨[(6, (.own (Nm.loc 6)))], [((Nm.loc 6), (.arr (ty_uint8 + 2) true 1 h6r))]⟩ K
def K_fields_Row_0 (Q : QQ) : KK := kE fun st => finish 0 E0.T [.tmp 4, .tmp 5] [] Q st
def K_fields_Row_1 (Q : QQ) : KK := kF 0 (fun st => CutOK 16 E0.P nt_fields_Row (cbodyOf 16 ac_fields_Row).code (mask [6] st) (K_fields_Row_0 Q)) fun st => finish 0 E0.T [.tmp 4, .tmp 5] [] Q st
theorem L_fields_Row_6_of (t1r t21r : LL) (t22 t23 : Int) (h6r : LL) (K : KK) (h :
 (Br (decide (t23 < t22))
 (Req (((0 : Int) ≤ t23 ∧ t23 < (↑t21r.length : Int)) ∧ shOK [.int .i64] (t21r.getD t23.toNat []) = true)
 (Req (((0 : Int) ≤ t23 ∧ t23 < (↑t1r.length : Int)) ∧ shOK [.int .i64] (t1r.getD t23.toNat []) = true)
 (Call E0.P fn_fields_Put [(Ai (gI (t21r.getD t23.toNat []) 0)), (Ai (gI (t1r.getD t23.toNat []) 0))] [] fun r0 g0 =>
 Req (g0 = [] ∧ r0 = .tup [.imm (.str (rS (rT r0 0))), .imm (.int .i64 (rI (rT r0 1)))])
 (Br (!decide (rI (rT r0 1) = (0 : Int)))
 (K .ret ⟨[(4, (.imm (.str []))), (5, (Ai (rI (rT r0 1))))], []⟩)
 (Req ((h6r.length + (byteRows (rS (rT r0 0))).length) * 1 ≤ 140737488355328 ∧
 h6r.length + (byteRows (rS (rT r0 0))).length ≤ 140737488355328)
 (L_fields_Row_6 t1r t21r t22 (IntKind.i64.wrap (t23 + (1 : Int))) (h6r ++ byteRows (rS (rT r0 0))) K))))))
 (K (.exit 0) ⟨[(6, (.own (Nm.loc 6)))], [((Nm.loc 6), (.arr (ty_uint8 + 2) true 1 h6r))]⟩))) : L_fields_Row_6 t1r t21r t22 t23 h6r K := loop_rule (envN E0 nt_fields_Row) (okE nt_fields_Row) 3 6 (lbodyOf 6 ac_fields_Row) [1, 6, 21, 22, 23] _ K rfl (kr (by kernel_rfl) h)
theorem C_fields_Row_16_of (h6r : LL) (K : KK) (h :
 (Req (∀ (r : List IV), r ∈ h6r → shOK [.int .u8] r = true)
 (K .ret ⟨[(4, (As (List.map (fun r => UInt8.ofNat (gI r 0).toNat) h6r))), (5, (Ai 0))], []⟩))) : C_fields_Row_16 h6r K := cut_rule (envN E0 nt_fields_Row) (okE nt_fields_Row) 3 16 (cbodyOf 16 ac_fields_Row) [] _ K rfl (kr (by kernel_rfl) h)
theorem K_fields_Row_0_x0 (Q : QQ) (t4 : List UInt8) (t5 : Int) (h :
 (Q (.tup [(As t4), (Ai t5)]) [])) : K_fields_Row_0 Q .ret ⟨[(4, (As t4)), (5, (Ai t5))], []⟩ := kr (by kernel_rfl) h
theorem K_fields_Row_1_x1 (Q : QQ) (h6r : LL) (h :
 (C_fields_Row_16 h6r (K_fields_Row_0 Q))) : K_fields_Row_1 Q (.exit 0) ⟨[(6, (.own (Nm.loc 6)))], [((Nm.loc 6), (.arr (ty_uint8 + 2) true 1 h6r))]⟩ := kr (by kernel_rfl) h
theorem ok_fields_Row : FnOK E0.P 73 ac_fields_Row.code nt_fields_Row [.tmp 4, .tmp 5] := fn_ok _ _ Tryd.f73 [(6, [1, 6, 21, 22, 23], []), (8, [6], []), (16, [6], [])] [4, 5] _ 46 Tryd.func73 (by kernel_rfl) (by kernel_rfl) (by kernel_rfl) (by kernel_rfl)
theorem F_fields_Row_of (a0 a1 : LL) (Q : QQ) (h :
 (Let (bif !decide ((↑a0.length : Int) = (↑a1.length : Int)) then true else decide ((16 : Int) < (↑a0.length : Int))) fun x0 =>
 Br (x0)
 (Q (.tup [(.imm (.str [])), (Ai 2)]) [])
 (L_fields_Row_6 a1 a0 ((↑a0.length : Int)) ((0 : Int)) [] (K_fields_Row_1 Q)))) : Call E0.P fn_fields_Row [(Al 1 a0), (Al 1 a1)] [] Q := fun_rule (envN E0 nt_fields_Row) (okE nt_fields_Row) 3 0 73 ac_fields_Row [.tmp 4, .tmp 5] ok_fields_Row _ _ Q rfl rfl (kr (by kernel_rfl) h)
noncomputable def ac_fields_fits : AC := (annot [] [2] (codeOf Tryd.f110) 0).1
abbrev nt_fields_fits : Nat := 9
theorem ok_fields_fits : FnOK E0.P 110 ac_fields_fits.code nt_fields_fits [.tmp 2] := fn_ok _ _ Tryd.f110 [] [2] _ 9 Tryd.func110 (by kernel_rfl) (by kernel_rfl) (by kernel_rfl) (by kernel_rfl)
theorem F_fields_fits_of (a0 : Int) (Q : QQ) (h :
 (Let (bif decide ((0 : Int) ≤ a0) then decide (a0 ≤ (8 : Int)) else false) fun x0 =>
 Q (Ab x0) [])) : Call E0.P fn_fields_fits [(Ai a0)] [] Q := fun_rule (envN E0 nt_fields_fits) (okE nt_fields_fits) 3 0 110 ac_fields_fits [.tmp 2] ok_fields_fits _ _ Q rfl rfl (kr (by kernel_rfl) h)
noncomputable def ac_fields_together : AC := (annot [(3, [4, 7, 8, 9], []), (5, [4], []), (12, [4], [])] [2, 3] (codeOf Tryd.f81) 0).1
abbrev nt_fields_together : Nat := 21
def L_fields_together_3 (t4 : Int) (t7r : LL) (t8 t9 : Int) (K : KK) : Prop := LoopOK 3 E0.P nt_fields_together (lbodyOf 3 ac_fields_together).code ⟨[(4, (Ai t4)), (7, (Al 1 t7r)), (8, (Ai t8)), (9, (Ai t9))], []⟩ K
def C_fields_together_12 (t4 : Int) (K : KK) : Prop := CutOK 12 E0.P nt_fields_together (cbodyOf 12 ac_fields_together).code ⟨[(4, (Ai t4))], []⟩ K
def K_fields_together_0 (Q : QQ) : KK := kE fun st => finish 0 E0.T [.tmp 2, .tmp 3] [] Q st
def K_fields_together_1 (Q : QQ) : KK := kF 0 (fun st => CutOK 12 E0.P nt_fields_together (cbodyOf 12 ac_fields_together).code (mask [4] st) (K_fields_together_0 Q)) fun st => finish 0 E0.T [.tmp 2, .tmp 3] [] Q st
theorem L_fields_together_3_of (t4 : Int) (t7r : LL) (t8 t9 : Int) (K : KK) (h :
 (Br (decide (t9 < t8))
 (Req (((0 : Int) ≤ t9 ∧ t9 < (↑t7r.length : Int)) ∧ shOK [.int .i64] (t7r.getD t9.toNat []) = true)
 (Call E0.P fn_fields_fits [(Ai (gI (t7r.getD t9.toNat []) 0))] [] fun r0 g0 =>
 Req (g0 = [] ∧ r0 = .imm (.bool (rB r0)))
 (Br (!rB r0)
 (K .ret ⟨[(2, (Ai 0)), (3, (Ab false))], []⟩)
 (L_fields_together_3 (IntKind.i64.wrap (t4 + gI (t7r.getD t9.toNat []) 0)) t7r t8 (IntKind.i64.wrap (t9 + (1 : Int))) K))))
 (K (.exit 0) ⟨[(4, (Ai t4))], []⟩))) : L_fields_together_3 t4 t7r t8 t9 K := loop_rule (envN E0 nt_fields_together) (okE nt_fields_together) 3 3 (lbodyOf 3 ac_fields_together) [4, 7, 8, 9] _ K rfl (kr (by kernel_rfl) h)
theorem C_fields_together_12_of (t4 : Int) (K : KK) (h :
 (K .ret ⟨[(2, (Ai t4)), (3, (Ab true))], []⟩)) : C_fields_together_12 t4 K := cut_rule (envN E0 nt_fields_together) (okE nt_fields_together) 3 12 (cbodyOf 12 ac_fields_together) [] _ K rfl (kr (by kernel_rfl) h)
theorem K_fields_together_0_x0 (Q : QQ) (t2 : Int) (t3 : Bool) (h :
 (Q (.tup [(Ai t2), (Ab t3)]) [])) : K_fields_together_0 Q .ret ⟨[(2, (Ai t2)), (3, (Ab t3))], []⟩ := kr (by kernel_rfl) h
theorem K_fields_together_1_x1 (Q : QQ) (t4 : Int) (h :
 (C_fields_together_12 t4 (K_fields_together_0 Q))) : K_fields_together_1 Q (.exit 0) ⟨[(4, (Ai t4))], []⟩ := kr (by kernel_rfl) h
theorem ok_fields_together : FnOK E0.P 81 ac_fields_together.code nt_fields_together [.tmp 2, .tmp 3] := fn_ok _ _ Tryd.f81 [(3, [4, 7, 8, 9], []), (5, [4], []), (12, [4], [])] [2, 3] _ 21 Tryd.func81 (by kernel_rfl) (by kernel_rfl) (by kernel_rfl) (by kernel_rfl)
theorem F_fields_together_of (a0 : LL) (Q : QQ) (h :
 (L_fields_together_3 ((0 : Int)) a0 ((↑a0.length : Int)) ((0 : Int)) (K_fields_together_1 Q))) : Call E0.P fn_fields_together [(Al 1 a0)] [] Q := fun_rule (envN E0 nt_fields_together) (okE nt_fields_together) 3 0 81 ac_fields_together [.tmp 2, .tmp 3] ok_fields_together _ _ Q rfl rfl (kr (by kernel_rfl) h)
noncomputable def ac_fields_whole : AC := (annot [(3, [0, 2, 3, 5], []), (5, [2, 3], []), (9, [2, 3], [])] [2] (codeOf Tryd.f71) 0).1
abbrev nt_fields_whole : Nat := 18
def L_fields_whole_3 (t0 t5 : Int) (h2r h3r : LL) (K : KK) : Prop := LoopOK 3 E0.P nt_fields_whole (lbodyOf 3 ac_fields_whole).code ⟨[(0, (Ai t0)), (2, (.ptr (Nm.loc 2) 0)), (3, (.ptr (Nm.loc 3) 0)), (5, (Ai t5))], [((Nm.loc 2), (.arr 1 true 1 h2r)), ((Nm.loc 3), (.arr 1 true 1 h3r))]⟩ K
def C_fields_whole_9 (h2r h3r : LL) (K : KK) : Prop := CutOK 9 E0.P nt_fields_whole (cbodyOf 9 ac_fields_whole).code ⟨[(2, (.ptr (Nm.loc 2) 0)), (3, (.ptr (Nm.loc 3) 0))], [((Nm.loc 2), (.arr 1 true 1 h2r)), ((Nm.loc 3), (.arr 1 true 1 h3r))]⟩ K
def K_fields_whole_0 (Q : QQ) : KK := kE fun st => finish 0 E0.T [.cell 2 109] [] Q st
def K_fields_whole_1 (Q : QQ) : KK := kF 0 (fun st => CutOK 9 E0.P nt_fields_whole (cbodyOf 9 ac_fields_whole).code (mask [2, 3] st) (K_fields_whole_0 Q)) fun st => finish 0 E0.T [.cell 2 109] [] Q st
theorem L_fields_whole_3_of (t0 t5 : Int) (h2r h3r : LL) (K : KK) (h :
 (Br (decide (t5 < (8 : Int)))
 (Req ((0 : Int) ≤ IntKind.i64.wrap ((8 : Int) * t5))
 (Req ((0 : Int) ≤ IntKind.i64.wrap ((7 : Int) - t5) ∧ IntKind.i64.wrap ((7 : Int) - t5) < (↑(8 : Nat) : Int))
 (Req ((IntKind.i64.wrap ((7 : Int) - t5)).toNat < h3r.length)
 (L_fields_whole_3 t0 (IntKind.i64.wrap (t5 + (1 : Int))) h2r (h3r.set (IntKind.i64.wrap ((7 : Int) - t5)).toNat
 [.int .u8 (IntKind.u8.wrap (t0.fdiv ((2 : Int) ^ min (IntKind.i64.wrap ((8 : Int) * t5)).toNat 64)))]) K))))
 (K (.exit 0) ⟨[(2, (.ptr (Nm.loc 2) 0)), (3, (.ptr (Nm.loc 3) 0))], [((Nm.loc 2), (.arr 1 true 1 h2r)), ((Nm.loc 3), (.arr 1 true 1 h3r))]⟩))) : L_fields_whole_3 t0 t5 h2r h3r K := loop_rule (envN E0 nt_fields_whole) (okE nt_fields_whole) 3 3 (lbodyOf 3 ac_fields_whole) [0, 2, 3, 5] _ K rfl (kr (by kernel_rfl) h)
theorem C_fields_whole_9_of (h2r h3r : LL) (K : KK) (h :
 (Req (h3r.length = 8 ∧
 shOK
 [.int .u8, .int .u8, .int .u8, .int .u8, .int .u8, .int .u8,
 .int .u8, .int .u8]
 h3r.flatten =
 true)
 (Req (h2r.length = 8)
 (K .ret ⟨[(2, (.ptr (Nm.loc 2) 0))], [((Nm.loc 2), (.arr 1 true 1 [[.int .u8 (gI h3r.flatten 0)], [.int .u8 (gI h3r.flatten 1)],
 [.int .u8 (gI h3r.flatten 2)], [.int .u8 (gI h3r.flatten 3)],
 [.int .u8 (gI h3r.flatten 4)], [.int .u8 (gI h3r.flatten 5)],
 [.int .u8 (gI h3r.flatten 6)], [.int .u8 (gI h3r.flatten 7)]]))]⟩)))) : C_fields_whole_9 h2r h3r K := cut_rule (envN E0 nt_fields_whole) (okE nt_fields_whole) 3 9 (cbodyOf 9 ac_fields_whole) [] _ K rfl (kr (by kernel_rfl) h)
theorem K_fields_whole_0_x0 (Q : QQ) (h2r : LL) (h :
 (Req (h2r.length = 8 ∧
 shOK
 [.int .u8, .int .u8, .int .u8, .int .u8, .int .u8, .int .u8,
 .int .u8, .int .u8]
 h2r.flatten =
 true)
 (Q (.imm (.agg [(.int .u8 (gI h2r.flatten 0)), (.int .u8 (gI h2r.flatten 1)), (.int .u8 (gI h2r.flatten 2)), (.int .u8 (gI h2r.flatten 3)), (.int .u8 (gI h2r.flatten 4)), (.int .u8 (gI h2r.flatten 5)), (.int .u8 (gI h2r.flatten 6)), (.int .u8 (gI h2r.flatten 7))])) []))) : K_fields_whole_0 Q .ret ⟨[(2, (.ptr (Nm.loc 2) 0))], [((Nm.loc 2), (.arr 1 true 1 h2r))]⟩ := kr (by kernel_rfl) h
theorem K_fields_whole_1_x0 (Q : QQ) (h2r h3r : LL) (h :
 (C_fields_whole_9 h2r h3r (K_fields_whole_0 Q))) : K_fields_whole_1 Q (.exit 0) ⟨[(2, (.ptr (Nm.loc 2) 0)), (3, (.ptr (Nm.loc 3) 0))], [((Nm.loc 2), (.arr 1 true 1 h2r)), ((Nm.loc 3), (.arr 1 true 1 h3r))]⟩ := kr (by kernel_rfl) h
theorem ok_fields_whole : FnOK E0.P 71 ac_fields_whole.code nt_fields_whole [.cell 2 109] := fn_ok _ _ Tryd.f71 [(3, [0, 2, 3, 5], []), (5, [2, 3], []), (9, [2, 3], [])] [2] _ 18 Tryd.func71 (by kernel_rfl) (by kernel_rfl) (by kernel_rfl) (by kernel_rfl)
theorem F_fields_whole_of (a0 : Int) (Q : QQ) (h :
 (L_fields_whole_3 a0 ((0 : Int)) [[.int .u8 (0 : Int)], [.int .u8 (0 : Int)], [.int .u8 (0 : Int)],
 [.int .u8 (0 : Int)], [.int .u8 (0 : Int)], [.int .u8 (0 : Int)],
 [.int .u8 (0 : Int)], [.int .u8 (0 : Int)]] [[.int .u8 (0 : Int)], [.int .u8 (0 : Int)], [.int .u8 (0 : Int)],
 [.int .u8 (0 : Int)], [.int .u8 (0 : Int)], [.int .u8 (0 : Int)],
 [.int .u8 (0 : Int)], [.int .u8 (0 : Int)]] (K_fields_whole_1 Q))) : Call E0.P fn_fields_whole [(Ai a0)] [] Q := fun_rule (envN E0 nt_fields_whole) (okE nt_fields_whole) 3 0 71 ac_fields_whole [.cell 2 109] ok_fields_whole _ _ Q rfl rfl (kr (by kernel_rfl) h)
noncomputable def ac_l23_CrossingBoth : AC := (annot [] [2] (codeOf Tryd.f3) 0).1
abbrev nt_l23_CrossingBoth : Nat := 78
theorem ok_l23_CrossingBoth : FnOK E0.P 3 ac_l23_CrossingBoth.code nt_l23_CrossingBoth [.tmp 2] := fn_ok _ _ Tryd.f3 [] [2] _ 78 Tryd.func3 (by kernel_rfl) (by kernel_rfl) (by kernel_rfl) (by kernel_rfl)
theorem F_l23_CrossingBoth_of (a0 : LL) (Q : QQ) (h :
 (Br (decide ((300 : Int) < (↑a0.length : Int)))
 (Call E0.P fn_l23_crossings [] [] fun r0 g0 =>
 Req (g0 = [] ∧ r0 = .imm (.bool (rB r0)))
 (Q (Ab (rB r0)) []))
 (Call E0.P fn_section_Print [(Al 4 a0)] [] fun r1 g1 =>
 Req (g1 = [] ∧ r1 = .tup [.imm (.str (rS (rT r1 0))), .imm (.int .i64 (rI (rT r1 1)))])
 (Call E0.P fn_crossing_Encode [(Al 4 a0)] [] fun r2 g2 =>
 Req (g2 = [] ∧
 r2 =
 .tup
 [.imm (.sl SK.any 7 (rR (rT r2 0))), .imm (.str (rS (rT r2 1))),
 .imm (.int .i64 (rI (rT r2 2)))])
 (Br (!decide (rI (rT r1 1) = (0 : Int)))
 (Br (decide (rI (rT r1 1) = (10 : Int)) == true)
 (Call E0.P fn_crossing_Check [(Al 4 a0)] [] fun r3 g3 =>
 Req (g3 = [] ∧ r3 = .imm (.int .i64 (rI r3)))
 (Let (decide (rI r3 = (0 : Int))) fun x4 =>
 Br ((decide (rI (rT r2 2) = (0 : Int)) == x4) == true)
 (Call E0.P fn_l23_crossings [] [] fun r5 g5 =>
 Req (g5 = [] ∧ r5 = .imm (.bool (rB r5)))
 (Let (rB r5) fun x6 =>
 Q (Ab x6) []))
 (Req ((!true) = false)
 (Let (false) fun x7 =>
 Q (Ab x7) []))))
 (Req ((!true) = false)
 (Let (false) fun x8 =>
 Br ((decide (rI (rT r2 2) = (0 : Int)) == x8) == true)
 (Call E0.P fn_l23_crossings [] [] fun r9 g9 =>
 Req (g9 = [] ∧ r9 = .imm (.bool (rB r9)))
 (Let (rB r9) fun x10 =>
 Q (Ab x10) []))
 (Req ((!true) = false)
 (Let (false) fun x11 =>
 Q (Ab x11) [])))))
 (Call E0.P fn_section_Read [(As (rS (rT r1 0))), (Ai 0)] [] fun r12 g12 =>
 Req (g12 = [] ∧
 r12 =
 .tup
 [.imm (.sl SK.any 4 (rR (rT r12 0))), .imm (.int .i64 (rI (rT r12 1))),
 .imm (.int .i64 (rI (rT r12 2)))])
 (Call E0.P fn_crossing_Decode [(Al 7 (rR (rT r2 0))), (As (rS (rT r2 1)))] [] fun r13 g13 =>
 Req (g13 = [] ∧
 r13 =
 .tup
 [.imm (.sl SK.any 4 (rR (rT r13 0))), .imm (.int .i64 (rI (rT r13 1)))])
 (Let (bif decide (rI (rT r2 2) = (0 : Int)) then decide (rI (rT r12 2) = (0 : Int)) else false) fun x14 =>
 Let (bif x14 then decide (rI (rT r13 1) = (0 : Int)) else false) fun x15 =>
 Br (x15 == true)
 (Call E0.P fn_r21_SameRows [(Al 4 (rR (rT r12 0))), (Al 4 (rR (rT r13 0)))] [] fun r16 g16 =>
 Req (g16 = [] ∧ r16 = .imm (.bool (rB r16)))
 (Let (rB r16) fun x17 =>
 Br (x17 == true)
 (Call E0.P fn_r21_SameRows [(Al 4 (rR (rT r12 0))), (Al 4 a0)] [] fun r18 g18 =>
 Req (g18 = [] ∧ r18 = .imm (.bool (rB r18)))
 (Let (rB r18) fun x19 =>
 Br (x19 == true)
 (Call E0.P fn_l23_crossings [] [] fun r20 g20 =>
 Req (g20 = [] ∧ r20 = .imm (.bool (rB r20)))
 (Let (rB r20) fun x21 =>
 Q (Ab x21) []))
 (Req ((!true) = false)
 (Let (false) fun x22 =>
 Q (Ab x22) []))))
 (Req ((!true) = false)
 (Let (false) fun x23 =>
 Br (x23 == true)
 (Call E0.P fn_l23_crossings [] [] fun r24 g24 =>
 Req (g24 = [] ∧ r24 = .imm (.bool (rB r24)))
 (Let (rB r24) fun x25 =>
 Q (Ab x25) []))
 (Req ((!true) = false)
 (Let (false) fun x26 =>
 Q (Ab x26) []))))))
 (Req ((!true) = false)
 (Let (false) fun x27 =>
 Br (x27 == true)
 (Call E0.P fn_r21_SameRows [(Al 4 (rR (rT r12 0))), (Al 4 a0)] [] fun r28 g28 =>
 Req (g28 = [] ∧ r28 = .imm (.bool (rB r28)))
 (Let (rB r28) fun x29 =>
 Br (x29 == true)
 (Call E0.P fn_l23_crossings [] [] fun r30 g30 =>
 Req (g30 = [] ∧ r30 = .imm (.bool (rB r30)))
 (Let (rB r30) fun x31 =>
 Q (Ab x31) []))
 (Req ((!true) = false)
 (Let (false) fun x32 =>
 Q (Ab x32) []))))
 (Req ((!true) = false)
 (Let (false) fun x33 =>
 Br (x33 == true)
 (Call E0.P fn_l23_crossings [] [] fun r34 g34 =>
 Req (g34 = [] ∧ r34 = .imm (.bool (rB r34)))
 (Let (rB r34) fun x35 =>
 Q (Ab x35) []))
 (Req ((!true) = false)
 (Let (false) fun x36 =>
 Q (Ab x36) [])))))))))))))) : Call E0.P fn_l23_CrossingBoth [(Al 4 a0)] [] Q := fun_rule (envN E0 nt_l23_CrossingBoth) (okE nt_l23_CrossingBoth) 3 0 3 ac_l23_CrossingBoth [.tmp 2] ok_l23_CrossingBoth _ _ Q rfl rfl (kr (by kernel_rfl) h)
noncomputable def ac_l23_Pairs : AC := (annot [] [4] (codeOf Tryd.f27) 0).1
abbrev nt_l23_Pairs : Nat := 10
theorem ok_l23_Pairs : FnOK E0.P 27 ac_l23_Pairs.code nt_l23_Pairs [.tmp 4] := fn_ok _ _ Tryd.f27 [] [4] _ 10 Tryd.func27 (by kernel_rfl) (by kernel_rfl) (by kernel_rfl) (by kernel_rfl)
theorem F_l23_Pairs_of (a0 a1 : LL) (Q : QQ) (h :
 (Call E0.P fn_r16_Equal [(.imm (.agg [(.int .i64 6), (.int .i64 0), (.int .i64 0), (.str []), (.sl .any 6 []), (.sl .any 7 a0)])), (.imm (.agg [(.int .i64 6), (.int .i64 0), (.int .i64 0), (.str []), (.sl .any 6 []), (.sl .any 7 a1)]))] [] fun r0 g0 =>
 Req (g0 = [] ∧ r0 = .imm (.bool (rB r0)))
 (Q (Ab (rB r0)) []))) : Call E0.P fn_l23_Pairs [(Al 7 a0), (Al 7 a1)] [] Q := fun_rule (envN E0 nt_l23_Pairs) (okE nt_l23_Pairs) 3 0 27 ac_l23_Pairs [.tmp 4] ok_l23_Pairs _ _ Q rfl rfl (kr (by kernel_rfl) h)
noncomputable def ac_l23_crossings : AC := (annot [] [0] (codeOf Tryd.f7) 0).1
abbrev nt_l23_crossings : Nat := 76
theorem ok_l23_crossings : FnOK E0.P 7 ac_l23_crossings.code nt_l23_crossings [.tmp 0] := fn_ok _ _ Tryd.f7 [] [0] _ 76 Tryd.func7 (by kernel_rfl) (by kernel_rfl) (by kernel_rfl) (by kernel_rfl)
theorem F_l23_crossings_of (Q : QQ) (h :
 (Call E0.P fn_crossing_Encode [(.imm (.sl .any 4 [[.int .i64 (0 : Int), .int .i64 (0 : Int), .int .i64 (0 : Int),
 .int .i64 (65535 : Int)],
 [.int .i64 (3 : Int), .int .i64 (1 : Int), .int .i64 (17 : Int),
 .int .i64 (0 : Int)]]))] [] fun r0 g0 =>
 Req (g0 = [] ∧
 r0 =
 .tup
 [.imm (.sl SK.any 7 (rR (rT r0 0))), .imm (.str (rS (rT r0 1))),
 .imm (.int .i64 (rI (rT r0 2)))])
 (Call E0.P fn_crossing_Decode [(Al 7 (rR (rT r0 0))), (As (rS (rT r0 1)))] [] fun r1 g1 =>
 Req (g1 = [] ∧
 r1 =
 .tup [.imm (.sl SK.any 4 (rR (rT r1 0))), .imm (.int .i64 (rI (rT r1 1)))])
 (Call E0.P fn_crossing_Decode [(.imm (.sl .any 7 [])), (.imm (.str []))] [] fun r2 g2 =>
 Req (g2 = [] ∧
 r2 =
 .tup [.imm (.sl SK.any 4 (rR (rT r2 0))), .imm (.int .i64 (rI (rT r2 1)))])
 (Call E0.P fn_l23_ints [(.imm (.sl .any 1 [[.int .i64 (0 : Int)], [.int .i64 (1 : Int)], [.int .i64 (3 : Int)],
 [.int .i64 (1 : Int)]]))] [] fun r3 g3 =>
 Req (g3 = [] ∧
 r3 =
 .imm
 (IV.agg
 [.int .i64 (gI (aCells r3) 0), .int .i64 (gI (aCells r3) 1),
 .int .i64 (gI (aCells r3) 2), .str (gS (aCells r3) 3),
 .sl SK.any 6 (gR (aCells r3) 4), .sl SK.any 7 (gR (aCells r3) 5)]))
 (Call E0.P fn_l23_ints [(.imm (.sl .any 1 [[.int .i64 (1 : Int)], [.int .i64 (1 : Int)], [.int .i64 (2 : Int)]]))] [] fun r4 g4 =>
 Req (g4 = [] ∧
 r4 =
 .imm
 (IV.agg
 [.int .i64 (gI (aCells r4) 0), .int .i64 (gI (aCells r4) 1),
 .int .i64 (gI (aCells r4) 2), .str (gS (aCells r4) 3),
 .sl SK.any 6 (gR (aCells r4) 4), .sl SK.any 7 (gR (aCells r4) 5)]))
 (Call E0.P fn_l23_Pairs [(Al 7 (rR (rT r0 0))), (.imm (.sl .any 7 [[.str [73, 110, 100, 101, 120],
 .int .i64 (gI (aCells r3) 0), .int .i64 (gI (aCells r3) 1),
 .int .i64 (gI (aCells r3) 2), .str (gS (aCells r3) 3),
 .sl SK.any 6 (gR (aCells r3) 4), .sl SK.any 7 (gR (aCells r3) 5)],
 [.str [87], .int .i64 (gI (aCells r4) 0), .int .i64 (gI (aCells r4) 1),
 .int .i64 (gI (aCells r4) 2), .str (gS (aCells r4) 3),
 .sl SK.any 6 (gR (aCells r4) 4), .sl SK.any 7 (gR (aCells r4) 5)]]))] [] fun r5 g5 =>
 Req (g5 = [] ∧ r5 = .imm (.bool (rB r5)))
 (Let (bif rB r5 then
 rS (rT r0 1) ==
 [0, 0, 255, 255, 1, 17, 0, 0]
 else false) fun x6 =>
 Let (bif x6 then decide (rI (rT r0 2) = (0 : Int)) else false) fun x7 =>
 Br (x7 == true)
 (Call E0.P fn_r21_SameRows [(.imm (.sl .any 4 [[.int .i64 (0 : Int), .int .i64 (0 : Int), .int .i64 (0 : Int),
 .int .i64 (65535 : Int)],
 [.int .i64 (3 : Int), .int .i64 (1 : Int), .int .i64 (17 : Int),
 .int .i64 (0 : Int)]])), (Al 4 (rR (rT r1 0)))] [] fun r8 g8 =>
 Req (g8 = [] ∧ r8 = .imm (.bool (rB r8)))
 (Let (rB r8) fun x9 =>
 Let (bif x9 then decide (rI (rT r1 1) = (0 : Int)) else false) fun x10 =>
 Let (bif x10 then decide (rI (rT r2 1) = (11 : Int)) else false) fun x11 =>
 Br (x11 == true)
 (Call E0.P fn_crossing_Wide [(Al 7 (rR (rT r0 0)))] [] fun r12 g12 =>
 Req (g12 = [] ∧ r12 = .imm (.int .i64 (rI r12)))
 (Let (decide (rI r12 = (4 : Int))) fun x13 =>
 Br (x13 == true)
 (Call E0.P fn_crossing_Wide [(.imm (.sl .any 7 []))] [] fun r14 g14 =>
 Req (g14 = [] ∧ r14 = .imm (.int .i64 (rI r14)))
 (Let (decide (rI r14 = (0 : Int))) fun x15 =>
 Br (x15 == true)
 (Call E0.P fn_crossing_Check [(.imm (.sl .any 4 [[.int .i64 (0 : Int), .int .i64 (0 : Int), .int .i64 (0 : Int),
 .int .i64 (65535 : Int)],
 [.int .i64 (3 : Int), .int .i64 (1 : Int), .int .i64 (17 : Int),
 .int .i64 (0 : Int)]]))] [] fun r16 g16 =>
 Req (g16 = [] ∧ r16 = .imm (.int .i64 (rI r16)))
 (Let (decide (rI r16 = (0 : Int))) fun x17 =>
 Q (Ab x17) []))
 (Req ((!true) = false)
 (Let (false) fun x18 =>
 Q (Ab x18) []))))
 (Req ((!true) = false)
 (Let (false) fun x19 =>
 Br (x19 == true)
 (Call E0.P fn_crossing_Check [(.imm (.sl .any 4 [[.int .i64 (0 : Int), .int .i64 (0 : Int), .int .i64 (0 : Int),
 .int .i64 (65535 : Int)],
 [.int .i64 (3 : Int), .int .i64 (1 : Int), .int .i64 (17 : Int),
 .int .i64 (0 : Int)]]))] [] fun r20 g20 =>
 Req (g20 = [] ∧ r20 = .imm (.int .i64 (rI r20)))
 (Let (decide (rI r20 = (0 : Int))) fun x21 =>
 Q (Ab x21) []))
 (Req ((!true) = false)
 (Let (false) fun x22 =>
 Q (Ab x22) []))))))
 (Req ((!true) = false)
 (Let (false) fun x23 =>
 Br (x23 == true)
 (Call E0.P fn_crossing_Wide [(.imm (.sl .any 7 []))] [] fun r24 g24 =>
 Req (g24 = [] ∧ r24 = .imm (.int .i64 (rI r24)))
 (Let (decide (rI r24 = (0 : Int))) fun x25 =>
 Br (x25 == true)
 (Call E0.P fn_crossing_Check [(.imm (.sl .any 4 [[.int .i64 (0 : Int), .int .i64 (0 : Int), .int .i64 (0 : Int),
 .int .i64 (65535 : Int)],
 [.int .i64 (3 : Int), .int .i64 (1 : Int), .int .i64 (17 : Int),
 .int .i64 (0 : Int)]]))] [] fun r26 g26 =>
 Req (g26 = [] ∧ r26 = .imm (.int .i64 (rI r26)))
 (Let (decide (rI r26 = (0 : Int))) fun x27 =>
 Q (Ab x27) []))
 (Req ((!true) = false)
 (Let (false) fun x28 =>
 Q (Ab x28) []))))
 (Req ((!true) = false)
 (Let (false) fun x29 =>
 Br (x29 == true)
 (Call E0.P fn_crossing_Check [(.imm (.sl .any 4 [[.int .i64 (0 : Int), .int .i64 (0 : Int), .int .i64 (0 : Int),
 .int .i64 (65535 : Int)],
 [.int .i64 (3 : Int), .int .i64 (1 : Int), .int .i64 (17 : Int),
 .int .i64 (0 : Int)]]))] [] fun r30 g30 =>
 Req (g30 = [] ∧ r30 = .imm (.int .i64 (rI r30)))
 (Let (decide (rI r30 = (0 : Int))) fun x31 =>
 Q (Ab x31) []))
 (Req ((!true) = false)
 (Let (false) fun x32 =>
 Q (Ab x32) []))))))))
 (Req ((!true) = false)
 (Let (false) fun x33 =>
 Let (bif x33 then decide (rI (rT r1 1) = (0 : Int)) else false) fun x34 =>
 Let (bif x34 then decide (rI (rT r2 1) = (11 : Int)) else false) fun x35 =>
 Br (x35 == true)
 (Call E0.P fn_crossing_Wide [(Al 7 (rR (rT r0 0)))] [] fun r36 g36 =>
 Req (g36 = [] ∧ r36 = .imm (.int .i64 (rI r36)))
 (Let (decide (rI r36 = (4 : Int))) fun x37 =>
 Br (x37 == true)
 (Call E0.P fn_crossing_Wide [(.imm (.sl .any 7 []))] [] fun r38 g38 =>
 Req (g38 = [] ∧ r38 = .imm (.int .i64 (rI r38)))
 (Let (decide (rI r38 = (0 : Int))) fun x39 =>
 Br (x39 == true)
 (Call E0.P fn_crossing_Check [(.imm (.sl .any 4 [[.int .i64 (0 : Int), .int .i64 (0 : Int), .int .i64 (0 : Int),
 .int .i64 (65535 : Int)],
 [.int .i64 (3 : Int), .int .i64 (1 : Int), .int .i64 (17 : Int),
 .int .i64 (0 : Int)]]))] [] fun r40 g40 =>
 Req (g40 = [] ∧ r40 = .imm (.int .i64 (rI r40)))
 (Let (decide (rI r40 = (0 : Int))) fun x41 =>
 Q (Ab x41) []))
 (Req ((!true) = false)
 (Let (false) fun x42 =>
 Q (Ab x42) []))))
 (Req ((!true) = false)
 (Let (false) fun x43 =>
 Br (x43 == true)
 (Call E0.P fn_crossing_Check [(.imm (.sl .any 4 [[.int .i64 (0 : Int), .int .i64 (0 : Int), .int .i64 (0 : Int),
 .int .i64 (65535 : Int)],
 [.int .i64 (3 : Int), .int .i64 (1 : Int), .int .i64 (17 : Int),
 .int .i64 (0 : Int)]]))] [] fun r44 g44 =>
 Req (g44 = [] ∧ r44 = .imm (.int .i64 (rI r44)))
 (Let (decide (rI r44 = (0 : Int))) fun x45 =>
 Q (Ab x45) []))
 (Req ((!true) = false)
 (Let (false) fun x46 =>
 Q (Ab x46) []))))))
 (Req ((!true) = false)
 (Let (false) fun x47 =>
 Br (x47 == true)
 (Call E0.P fn_crossing_Wide [(.imm (.sl .any 7 []))] [] fun r48 g48 =>
 Req (g48 = [] ∧ r48 = .imm (.int .i64 (rI r48)))
 (Let (decide (rI r48 = (0 : Int))) fun x49 =>
 Br (x49 == true)
 (Call E0.P fn_crossing_Check [(.imm (.sl .any 4 [[.int .i64 (0 : Int), .int .i64 (0 : Int), .int .i64 (0 : Int),
 .int .i64 (65535 : Int)],
 [.int .i64 (3 : Int), .int .i64 (1 : Int), .int .i64 (17 : Int),
 .int .i64 (0 : Int)]]))] [] fun r50 g50 =>
 Req (g50 = [] ∧ r50 = .imm (.int .i64 (rI r50)))
 (Let (decide (rI r50 = (0 : Int))) fun x51 =>
 Q (Ab x51) []))
 (Req ((!true) = false)
 (Let (false) fun x52 =>
 Q (Ab x52) []))))
 (Req ((!true) = false)
 (Let (false) fun x53 =>
 Br (x53 == true)
 (Call E0.P fn_crossing_Check [(.imm (.sl .any 4 [[.int .i64 (0 : Int), .int .i64 (0 : Int), .int .i64 (0 : Int),
 .int .i64 (65535 : Int)],
 [.int .i64 (3 : Int), .int .i64 (1 : Int), .int .i64 (17 : Int),
 .int .i64 (0 : Int)]]))] [] fun r54 g54 =>
 Req (g54 = [] ∧ r54 = .imm (.int .i64 (rI r54)))
 (Let (decide (rI r54 = (0 : Int))) fun x55 =>
 Q (Ab x55) []))
 (Req ((!true) = false)
 (Let (false) fun x56 =>
 Q (Ab x56) [])))))))))))))))) : Call E0.P fn_l23_crossings [] [] Q := fun_rule (envN E0 nt_l23_crossings) (okE nt_l23_crossings) 3 0 7 ac_l23_crossings [.tmp 0] ok_l23_crossings _ _ Q rfl rfl (kr (by kernel_rfl) h)
noncomputable def ac_l23_ints : AC := (annot [(3, [0, 2, 3, 4], []), (5, [2, 3], []), (8, [2, 3], [])] [2] (codeOf Tryd.f26) 0).1
abbrev nt_l23_ints : Nat := 23
def L_l23_ints_3 (t0r : LL) (t4 h2_1_0 : Int) (h2_1_1 h2_1_2 : Int) (h2_1_3 : List UInt8) (h3_1_0 h3_1_1 h3_1_2 : Int) (h3_1_3 : List UInt8) (h24r h25r : LL) (h34r h35r : LL) (K : KK) : Prop := LoopOK 3 E0.P nt_l23_ints (lbodyOf 3 ac_l23_ints).code ⟨[(0, (Al 1 t0r)), (2, (.ptr (Nm.loc 2) 0)), (3, (.ptr (Nm.loc 3) 0)), (4, (Ai t4))], [((Nm.loc 2), (.blk ty_api_Value [(Ai h2_1_0), (Ai h2_1_1), (Ai h2_1_2), (As h2_1_3), (.own ((Nm.loc 2).cell 4)), (.own ((Nm.loc 2).cell 5))])), ((Nm.loc 3), (.blk ty_api_Value [(Ai h3_1_0), (Ai h3_1_1), (Ai h3_1_2), (As h3_1_3), (.own ((Nm.loc 3).cell 4)), (.own ((Nm.loc 3).cell 5))])), (((Nm.loc 2).cell 4), (.arr (ty_api_Value + 2) true 6 h24r)), (((Nm.loc 2).cell 5), (.arr (ty_api_Pair + 2) true 7 h25r)), (((Nm.loc 3).cell 4), (.arr (ty_api_Value + 2) true 6 h34r)), (((Nm.loc 3).cell 5), (.arr (ty_api_Pair + 2) true 7 h35r))]⟩ K
def C_l23_ints_8 (h2_1_0 h2_1_1 h2_1_2 : Int) (h2_1_3 : List UInt8) (h3_1_0 h3_1_1 h3_1_2 : Int) (h3_1_3 : List UInt8) (h24r h25r : LL) (h34r h35r : LL) (K : KK) : Prop := CutOK 8 E0.P nt_l23_ints (cbodyOf 8 ac_l23_ints).code ⟨[(2, (.ptr (Nm.loc 2) 0)), (3, (.ptr (Nm.loc 3) 0))], [((Nm.loc 2), (.blk ty_api_Value [(Ai h2_1_0), (Ai h2_1_1), (Ai h2_1_2), (As h2_1_3), (.own ((Nm.loc 2).cell 4)), (.own ((Nm.loc 2).cell 5))])), ((Nm.loc 3), (.blk ty_api_Value [(Ai h3_1_0), (Ai h3_1_1), (Ai h3_1_2), (As h3_1_3), (.own ((Nm.loc 3).cell 4)), (.own ((Nm.loc 3).cell 5))])), (((Nm.loc 2).cell 4), (.arr (ty_api_Value + 2) true 6 h24r)), (((Nm.loc 2).cell 5), (.arr (ty_api_Pair + 2) true 7 h25r)), (((Nm.loc 3).cell 4), (.arr (ty_api_Value + 2) true 6 h34r)), (((Nm.loc 3).cell 5), (.arr (ty_api_Pair + 2) true 7 h35r))]⟩ K
def K_l23_ints_0 (Q : QQ) : KK := kE fun st => finish 0 E0.T [.cell 2 39] [] Q st
def K_l23_ints_1 (Q : QQ) : KK := kF 0 (fun st => CutOK 8 E0.P nt_l23_ints (cbodyOf 8 ac_l23_ints).code (mask [2, 3] st) (K_l23_ints_0 Q)) fun st => finish 0 E0.T [.cell 2 39] [] Q st
theorem L_l23_ints_3_of (t0r : LL) (t4 h2_1_0 : Int) (h2_1_1 h2_1_2 : Int) (h2_1_3 : List UInt8) (h3_1_0 h3_1_1 h3_1_2 : Int) (h3_1_3 : List UInt8) (h24r h25r : LL) (h34r h35r : LL) (K : KK) (h :
 (Br (decide (t4 < (↑t0r.length : Int)))
 (Req (((0 : Int) ≤ t4 ∧ t4 < (↑t0r.length : Int)) ∧ shOK [.int .i64] (t0r.getD t4.toNat []) = true)
 (Req ((h34r.length + 1) * 88 ≤ 140737488355328 ∧ h34r.length + 1 ≤ 140737488355328)
 (L_l23_ints_3 t0r (IntKind.i64.wrap (t4 + (1 : Int))) h2_1_0 h2_1_1 h2_1_2 h2_1_3 h3_1_0 h3_1_1 h3_1_2 h3_1_3 h24r h25r (h34r ++
 [[.int .i64 (2 : Int), .int .i64 (gI (t0r.getD t4.toNat []) 0),
 .int .i64 (0 : Int), .str [], .sl SK.any 6 [], .sl SK.any 7 []]]) h35r K)))
 (K (.exit 0) ⟨[(2, (.ptr (Nm.loc 2) 0)), (3, (.ptr (Nm.loc 3) 0))], [((Nm.loc 2), (.blk ty_api_Value [(Ai h2_1_0), (Ai h2_1_1), (Ai h2_1_2), (As h2_1_3), (.own ((Nm.loc 2).cell 4)), (.own ((Nm.loc 2).cell 5))])), ((Nm.loc 3), (.blk ty_api_Value [(Ai h3_1_0), (Ai h3_1_1), (Ai h3_1_2), (As h3_1_3), (.own ((Nm.loc 3).cell 4)), (.own ((Nm.loc 3).cell 5))])), (((Nm.loc 2).cell 4), (.arr (ty_api_Value + 2) true 6 h24r)), (((Nm.loc 2).cell 5), (.arr (ty_api_Pair + 2) true 7 h25r)), (((Nm.loc 3).cell 4), (.arr (ty_api_Value + 2) true 6 h34r)), (((Nm.loc 3).cell 5), (.arr (ty_api_Pair + 2) true 7 h35r))]⟩))) : L_l23_ints_3 t0r t4 h2_1_0 h2_1_1 h2_1_2 h2_1_3 h3_1_0 h3_1_1 h3_1_2 h3_1_3 h24r h25r h34r h35r K := loop_rule (envN E0 nt_l23_ints) (okE nt_l23_ints) 3 3 (lbodyOf 3 ac_l23_ints) [0, 2, 3, 4] _ K rfl (kr (by kernel_rfl) h)
theorem C_l23_ints_8_of (h2_1_0 h2_1_1 h2_1_2 : Int) (h2_1_3 : List UInt8) (h3_1_0 h3_1_1 h3_1_2 : Int) (h3_1_3 : List UInt8) (h24r h25r : LL) (h34r h35r : LL) (K : KK) (h :
 (K .ret ⟨[(2, (.ptr (Nm.loc 2) 0))], [((Nm.loc 2), (.blk ty_api_Value [(Ai h3_1_0), (Ai h3_1_1), (Ai h3_1_2), (As h3_1_3), (.own ((Nm.loc 3).cell 4)), (.own ((Nm.loc 3).cell 5))])), (((Nm.loc 3).cell 4), (.arr (ty_api_Value + 2) true 6 h34r)), (((Nm.loc 3).cell 5), (.arr (ty_api_Pair + 2) true 7 h35r))]⟩)) : C_l23_ints_8 h2_1_0 h2_1_1 h2_1_2 h2_1_3 h3_1_0 h3_1_1 h3_1_2 h3_1_3 h24r h25r h34r h35r K := cut_rule (envN E0 nt_l23_ints) (okE nt_l23_ints) 3 8 (cbodyOf 8 ac_l23_ints) [] _ K rfl (kr (by kernel_rfl) h)
theorem K_l23_ints_0_x0 (Q : QQ) (h2_1_0 h2_1_1 h2_1_2 : Int) (h2_1_3 : List UInt8) (h34r h35r : LL) (h :
 (Q (.imm (.agg [(.int .i64 h2_1_0), (.int .i64 h2_1_1), (.int .i64 h2_1_2), (.str h2_1_3), (.sl .any 6 h34r), (.sl .any 7 h35r)])) [])) : K_l23_ints_0 Q .ret ⟨[(2, (.ptr (Nm.loc 2) 0))], [((Nm.loc 2), (.blk ty_api_Value [(Ai h2_1_0), (Ai h2_1_1), (Ai h2_1_2), (As h2_1_3), (.own ((Nm.loc 3).cell 4)), (.own ((Nm.loc 3).cell 5))])), (((Nm.loc 3).cell 4), (.arr (ty_api_Value + 2) true 6 h34r)), (((Nm.loc 3).cell 5), (.arr (ty_api_Pair + 2) true 7 h35r))]⟩ := kr (by kernel_rfl) h
theorem K_l23_ints_1_x0 (Q : QQ) (h2_1_0 h2_1_1 h2_1_2 : Int) (h2_1_3 : List UInt8) (h3_1_0 h3_1_1 h3_1_2 : Int) (h3_1_3 : List UInt8) (h24r h25r : LL) (h34r h35r : LL) (h :
 (C_l23_ints_8 h2_1_0 h2_1_1 h2_1_2 h2_1_3 h3_1_0 h3_1_1 h3_1_2 h3_1_3 h24r h25r h34r h35r (K_l23_ints_0 Q))) : K_l23_ints_1 Q (.exit 0) ⟨[(2, (.ptr (Nm.loc 2) 0)), (3, (.ptr (Nm.loc 3) 0))], [((Nm.loc 2), (.blk ty_api_Value [(Ai h2_1_0), (Ai h2_1_1), (Ai h2_1_2), (As h2_1_3), (.own ((Nm.loc 2).cell 4)), (.own ((Nm.loc 2).cell 5))])), ((Nm.loc 3), (.blk ty_api_Value [(Ai h3_1_0), (Ai h3_1_1), (Ai h3_1_2), (As h3_1_3), (.own ((Nm.loc 3).cell 4)), (.own ((Nm.loc 3).cell 5))])), (((Nm.loc 2).cell 4), (.arr (ty_api_Value + 2) true 6 h24r)), (((Nm.loc 2).cell 5), (.arr (ty_api_Pair + 2) true 7 h25r)), (((Nm.loc 3).cell 4), (.arr (ty_api_Value + 2) true 6 h34r)), (((Nm.loc 3).cell 5), (.arr (ty_api_Pair + 2) true 7 h35r))]⟩ := kr (by kernel_rfl) h
theorem ok_l23_ints : FnOK E0.P 26 ac_l23_ints.code nt_l23_ints [.cell 2 39] := fn_ok _ _ Tryd.f26 [(3, [0, 2, 3, 4], []), (5, [2, 3], []), (8, [2, 3], [])] [2] _ 23 Tryd.func26 (by kernel_rfl) (by kernel_rfl) (by kernel_rfl) (by kernel_rfl)
theorem F_l23_ints_of (a0 : LL) (Q : QQ) (h :
 (L_l23_ints_3 a0 ((0 : Int)) ((0 : Int)) ((0 : Int)) ((0 : Int)) [] ((5 : Int)) ((0 : Int)) ((0 : Int)) [] [] [] [] [] (K_l23_ints_1 Q))) : Call E0.P fn_l23_ints [(Al 1 a0)] [] Q := fun_rule (envN E0 nt_l23_ints) (okE nt_l23_ints) 3 0 26 ac_l23_ints [.cell 2 39] ok_l23_ints _ _ Q rfl rfl (kr (by kernel_rfl) h)
noncomputable def ac_r21_SameRows : AC := (annot [(5, [0, 1, 5], []), (7, [], []), (12, [], [])] [4] (codeOf Tryd.f13) 0).1
abbrev nt_r21_SameRows : Nat := 26
def L_r21_SameRows_5 (t0r t1r : LL) (t5 : Int) (K : KK) : Prop := LoopOK 5 E0.P nt_r21_SameRows (lbodyOf 5 ac_r21_SameRows).code ⟨[(0, (Al 4 t0r)), (1, (Al 4 t1r)), (5, (Ai t5))], []⟩ K
def C_r21_SameRows_12 (K : KK) : Prop := CutOK 12 E0.P nt_r21_SameRows (cbodyOf 12 ac_r21_SameRows).code ⟨[], []⟩ K
def K_r21_SameRows_0 (Q : QQ) : KK := kE fun st => finish 0 E0.T [.tmp 4] [] Q st
def K_r21_SameRows_1 (Q : QQ) : KK := kF 0 (fun st => CutOK 12 E0.P nt_r21_SameRows (cbodyOf 12 ac_r21_SameRows).code (mask [] st) (K_r21_SameRows_0 Q)) fun st => finish 0 E0.T [.tmp 4] [] Q st
theorem L_r21_SameRows_5_of (t0r t1r : LL) (t5 : Int) (K : KK) (h :
 (Br (decide (t5 < (↑t0r.length : Int)))
 (Req (((0 : Int) ≤ t5 ∧ t5 < (↑t0r.length : Int)) ∧
 shOK [.int .i64, .int .i64, .int .i64, .int .i64] (t0r.getD t5.toNat []) = true)
 (Req (((0 : Int) ≤ t5 ∧ t5 < (↑t1r.length : Int)) ∧
 shOK [.int .i64, .int .i64, .int .i64, .int .i64] (t1r.getD t5.toNat []) = true)
 (Br (!(decide (gI (t0r.getD t5.toNat []) 0 = gI (t1r.getD t5.toNat []) 0) &&
 (decide (gI (t0r.getD t5.toNat []) 1 = gI (t1r.getD t5.toNat []) 1) &&
 (decide (gI (t0r.getD t5.toNat []) 2 = gI (t1r.getD t5.toNat []) 2) &&
 decide (gI (t0r.getD t5.toNat []) 3 = gI (t1r.getD t5.toNat []) 3)))))
 (K .ret ⟨[(4, (Ab false))], []⟩)
 (L_r21_SameRows_5 t0r t1r (IntKind.i64.wrap (t5 + (1 : Int))) K))))
 (K (.exit 0) ⟨[], []⟩))) : L_r21_SameRows_5 t0r t1r t5 K := loop_rule (envN E0 nt_r21_SameRows) (okE nt_r21_SameRows) 3 5 (lbodyOf 5 ac_r21_SameRows) [0, 1, 5] _ K rfl (kr (by kernel_rfl) h)
theorem C_r21_SameRows_12_of (K : KK) (h :
 (K .ret ⟨[(4, (Ab true))], []⟩)) : C_r21_SameRows_12  K := cut_rule (envN E0 nt_r21_SameRows) (okE nt_r21_SameRows) 3 12 (cbodyOf 12 ac_r21_SameRows) [] _ K rfl (kr (by kernel_rfl) h)
theorem K_r21_SameRows_0_x0 (Q : QQ) (t4 : Bool) (h :
 (Q (Ab t4) [])) : K_r21_SameRows_0 Q .ret ⟨[(4, (Ab t4))], []⟩ := kr (by kernel_rfl) h
theorem K_r21_SameRows_1_x1 (Q : QQ) (h :
 (C_r21_SameRows_12  (K_r21_SameRows_0 Q))) : K_r21_SameRows_1 Q (.exit 0) ⟨[], []⟩ := kr (by kernel_rfl) h
theorem ok_r21_SameRows : FnOK E0.P 13 ac_r21_SameRows.code nt_r21_SameRows [.tmp 4] := fn_ok _ _ Tryd.f13 [(5, [0, 1, 5], []), (7, [], []), (12, [], [])] [4] _ 26 Tryd.func13 (by kernel_rfl) (by kernel_rfl) (by kernel_rfl) (by kernel_rfl)
theorem F_r21_SameRows_of (a0 a1 : LL) (Q : QQ) (h :
 (Br (!decide ((↑a0.length : Int) = (↑a1.length : Int)))
 (Q (Ab false) [])
 (L_r21_SameRows_5 a0 a1 ((0 : Int)) (K_r21_SameRows_1 Q)))) : Call E0.P fn_r21_SameRows [(Al 4 a0), (Al 4 a1)] [] Q := fun_rule (envN E0 nt_r21_SameRows) (okE nt_r21_SameRows) 3 0 13 ac_r21_SameRows [.tmp 4] ok_r21_SameRows _ _ Q rfl rfl (kr (by kernel_rfl) h)
end
end Go.Proofs.Sim.Se

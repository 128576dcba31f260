import Derived.Test.YtcdjheflchglaaaSeatBase
set_option maxRecDepth 100000
set_option maxHeartbeats 4000000
namespace Go.Proofs.Sim.Se
open Go Go.Proofs Go.Proofs.Sim
noncomputable section
abbrev qV0 (G : Heap) (R : AV) : Prop := G = [] ∧ R = .imm (.bool (rB R))
abbrev qV1 (G : Heap) (R : AV) : Prop := G = [] ∧ R = .imm (.int .i64 (rI R))
abbrev qV2 (G : Heap) (R : AV) : Prop := G = [(Nm.arg 0, Entry.arr 1 true 7 (arrRows G nA0))] ∧ R = .tup []
abbrev qV3 (G : Heap) (R : AV) : Prop := G = [] ∧ R = .imm (IV.agg [.int .i64 (gI (aCells R) 0), .int .i64 (gI (aCells R) 1), .int .i64 (gI (aCells R) 2), .str (gS (aCells R) 3), .sl SK.any 6 (gR (aCells R) 4), .sl SK.any 7 (gR (aCells R) 5)])
abbrev qV4 (G : Heap) (R : AV) : Prop := G = [] ∧ R = .imm (.sl SK.any 7 (rR R))
noncomputable def ac_cmp_isNaN_string : AC := (annot [] [2] (codeOf Try.f118) 0).1
abbrev nt_cmp_isNaN_string : Nat := 6
theorem ok_cmp_isNaN_string : FnOK E0.P 118 ac_cmp_isNaN_string.code nt_cmp_isNaN_string [.tmp 2] := fn_ok _ _ Try.f118 [] [2] _ 6 Try.func118 (by kernel_rfl) (by kernel_rfl) (by kernel_rfl) (by kernel_rfl)
theorem F_cmp_isNaN_string_of (a0 : LB) (Q : QQ) (h :
 (Q (Ab (!a0 == a0)) [])) : Call E0.P fn_cmp_isNaN_string [(As a0)] [] Q := fun_rule (envN E0 nt_cmp_isNaN_string) (okE nt_cmp_isNaN_string) 3 0 118 ac_cmp_isNaN_string [.tmp 2] ok_cmp_isNaN_string _ _ Q rfl rfl (kr (by kernel_rfl) h)
noncomputable def ac_cmp_Compare_string : AC := (annot [] [4] (codeOf Try.f97) 0).1
abbrev nt_cmp_Compare_string : Nat := 20
theorem ok_cmp_Compare_string : FnOK E0.P 97 ac_cmp_Compare_string.code nt_cmp_Compare_string [.tmp 4] := fn_ok _ _ Try.f97 [] [4] _ 20 Try.func97 (by kernel_rfl) (by kernel_rfl) (by kernel_rfl) (by kernel_rfl)
theorem F_cmp_Compare_string_of (a0 a1 : LB) (Q : QQ) (h :
 (Call E0.P fn_cmp_isNaN_string [(As a0)] [] fun r0 g0 =>
 Req (qV0 g0 r0)
 (Call E0.P fn_cmp_isNaN_string [(As a1)] [] fun r1 g1 =>
 Req (qV0 g1 r1)
 (Br (rB r0)
 (Br (rB r1)
 (Q (Ai 0) [])
 (Q (Ai (-1)) []))
 (Br (rB r1)
 (Q (Ai 1) [])
 (Br (Op.bytesLess a0 a1)
 (Q (Ai (-1)) [])
 (Br (!(Op.bytesLess a0 a1 || a0 == a1))
 (Q (Ai 1) [])
 (Q (Ai 0) [])))))))) : Call E0.P fn_cmp_Compare_string [(As a0), (As a1)] [] Q := fun_rule (envN E0 nt_cmp_Compare_string) (okE nt_cmp_Compare_string) 3 0 97 ac_cmp_Compare_string [.tmp 4] ok_cmp_Compare_string _ _ Q rfl rfl (kr (by kernel_rfl) h)
noncomputable def ac_value_plainPairs_1 : AC := (annot [] [4] (codeOf Try.f96) 0).1
abbrev nt_value_plainPairs_1 : Nat := 10
theorem ok_value_plainPairs_1 : FnOK E0.P 96 ac_value_plainPairs_1.code nt_value_plainPairs_1 [.tmp 4] := fn_ok _ _ Try.f96 [] [4] _ 10 Try.func96 (by kernel_rfl) (by kernel_rfl) (by kernel_rfl) (by kernel_rfl)
theorem F_value_plainPairs_1_of (a0_0 : LB) (a0_1 a0_2 a0_3 : Int) (a0_4 : LB) (a0_5 a0_6 : LL) (a1_0 : LB) (a1_1 a1_2 a1_3 : Int) (a1_4 : LB) (a1_5 a1_6 : LL) (Q : QQ) (h :
 (Call E0.P fn_cmp_Compare_string [(As a0_0), (As a1_0)] [] fun r0 g0 =>
 Req (qV1 g0 r0)
 (Q (Ai (rI r0)) []))) : Call E0.P fn_value_plainPairs_1 [(.imm (.agg [(.str a0_0), (.int .i64 a0_1), (.int .i64 a0_2), (.int .i64 a0_3), (.str a0_4), (.sl .any 6 a0_5), (.sl .any 7 a0_6)])), (.imm (.agg [(.str a1_0), (.int .i64 a1_1), (.int .i64 a1_2), (.int .i64 a1_3), (.str a1_4), (.sl .any 6 a1_5), (.sl .any 7 a1_6)]))] [] Q := fun_rule (envN E0 nt_value_plainPairs_1) (okE nt_value_plainPairs_1) 3 0 96 ac_value_plainPairs_1 [.tmp 4] ok_value_plainPairs_1 _ _ Q rfl rfl (kr (by kernel_rfl) h)
noncomputable def ac_value_plainPairs_2 : AC := (annot [] [4] (codeOf Try.f99) 0).1
abbrev nt_value_plainPairs_2 : Nat := 10
theorem ok_value_plainPairs_2 : FnOK E0.P 99 ac_value_plainPairs_2.code nt_value_plainPairs_2 [.tmp 4] := fn_ok _ _ Try.f99 [] [4] _ 10 Try.func99 (by kernel_rfl) (by kernel_rfl) (by kernel_rfl) (by kernel_rfl)
theorem F_value_plainPairs_2_of (a0_0 : LB) (a0_1 a0_2 a0_3 : Int) (a0_4 : LB) (a0_5 a0_6 : LL) (a1_0 : LB) (a1_1 a1_2 a1_3 : Int) (a1_4 : LB) (a1_5 a1_6 : LL) (Q : QQ) (h :
 (Q (Ab (a0_0 == a1_0)) [])) : Call E0.P fn_value_plainPairs_2 [(.imm (.agg [(.str a0_0), (.int .i64 a0_1), (.int .i64 a0_2), (.int .i64 a0_3), (.str a0_4), (.sl .any 6 a0_5), (.sl .any 7 a0_6)])), (.imm (.agg [(.str a1_0), (.int .i64 a1_1), (.int .i64 a1_2), (.int .i64 a1_3), (.str a1_4), (.sl .any 6 a1_5), (.sl .any 7 a1_6)]))] [] Q := fun_rule (envN E0 nt_value_plainPairs_2) (okE nt_value_plainPairs_2) 3 0 99 ac_value_plainPairs_2 [.tmp 4] ok_value_plainPairs_2 _ _ Q rfl rfl (kr (by kernel_rfl) h)
noncomputable def ac_slices_insertionSortCmpFunc_Pair : AC := (annot [(1, [0, 1, 2, 3, 8], []), (3, [], []), (6, [0, 1, 2, 3, 8, 9], []), (8, [0, 1, 2, 3, 8], []), (9, [0, 1, 2, 3, 8, 9], [0, 1, 2, 3, 8, 9]), (11, [0, 1, 2, 3, 8], [0, 1, 2, 3, 8])] [] (codeOf Try.f131) 0).1
abbrev nt_slices_insertionSortCmpFunc_Pair : Nat := 53
def L_slices_insertionSortCmpFunc_Pair_1 (t1 t2 t8 : Int) (u0 : LL) (K : KK) : Prop := LoopOK 1 E0.P nt_slices_insertionSortCmpFunc_Pair (lbodyOf 1 ac_slices_insertionSortCmpFunc_Pair).code ⟨[(0, .own nA0), (1, (Ai t1)), (2, (Ai t2)), (3, .fn fn_value_plainPairs_1 []), (8, (Ai t8))], [(nA0, .arr 1 true 7 u0)]⟩ K
def L_slices_insertionSortCmpFunc_Pair_6 (t1 t2 : Int) (t8 t9 : Int) (u0 : LL) (K : KK) : Prop := LoopOK 6 E0.P nt_slices_insertionSortCmpFunc_Pair (lbodyOf 6 ac_slices_insertionSortCmpFunc_Pair).code ⟨[(0, .own nA0), (1, (Ai t1)), (2, (Ai t2)), (3, .fn fn_value_plainPairs_1 []), (8, (Ai t8)), (9, (Ai t9))], [(nA0, .arr 1 true 7 u0)]⟩ K
def C_slices_insertionSortCmpFunc_Pair_9 (t1 t2 : Int) (t8 t9 : Int) (u0 : LL) (K : KK) : Prop := CutOK 9 E0.P nt_slices_insertionSortCmpFunc_Pair (cbodyOf 9 ac_slices_insertionSortCmpFunc_Pair).code ⟨[(0, .own nA0), (1, (Ai t1)), (2, (Ai t2)), (3, .fn fn_value_plainPairs_1 []), (8, (Ai t8)), (9, (Ai t9))], [(nA0, .arr 1 true 7 u0)]⟩ K
def C_slices_insertionSortCmpFunc_Pair_11 (t1 t2 t8 : Int) (u0 : LL) (K : KK) : Prop := CutOK 11 E0.P nt_slices_insertionSortCmpFunc_Pair (cbodyOf 11 ac_slices_insertionSortCmpFunc_Pair).code ⟨[(0, .own nA0), (1, (Ai t1)), (2, (Ai t2)), (3, .fn fn_value_plainPairs_1 []), (8, (Ai t8))], [(nA0, .arr 1 true 7 u0)]⟩ K
def K_slices_insertionSortCmpFunc_Pair_0 (rows : LL) (Q : QQ) : KK := kF 0 (fun st => finish (1) E0.T [] [(nA0, .arr 1 true 7 rows)] Q st) fun st => finish (1) E0.T [] [(nA0, .arr 1 true 7 rows)] Q st
def K_slices_insertionSortCmpFunc_Pair_1 (K : KK) : Ex → St → Prop
 | .normal, st => LoopOK 1 E0.P nt_slices_insertionSortCmpFunc_Pair (lbodyOf 1 ac_slices_insertionSortCmpFunc_Pair).code (mask [0, 1, 2, 3, 8] st) K
 | .exit i, st => K (.exit i) st
 | .goto i, st => K (.goto i) st
 | .ret, st => K .ret st
def K_slices_insertionSortCmpFunc_Pair_2 (K : KK) : Ex → St → Prop
 | .normal, st => CutOK 11 E0.P nt_slices_insertionSortCmpFunc_Pair (cbodyOf 11 ac_slices_insertionSortCmpFunc_Pair).code (mask [0, 1, 2, 3, 8] st) (K_slices_insertionSortCmpFunc_Pair_1 K)
 | .exit i, st => (match (i.beq 2 : Bool) with
 | true => CutOK 11 E0.P nt_slices_insertionSortCmpFunc_Pair (cbodyOf 11 ac_slices_insertionSortCmpFunc_Pair).code (mask [0, 1, 2, 3, 8] st) (K_slices_insertionSortCmpFunc_Pair_1 K)
 | false => (match (i.beq 1 : Bool) with
 | true => CutOK 11 E0.P nt_slices_insertionSortCmpFunc_Pair (cbodyOf 11 ac_slices_insertionSortCmpFunc_Pair).code (mask [0, 1, 2, 3, 8] st) (K_slices_insertionSortCmpFunc_Pair_1 K)
 | false => K (.exit i) st))
 | .goto i, st => K (.goto i) st
 | .ret, st => K .ret st
def K_slices_insertionSortCmpFunc_Pair_3 (K : KK) : Ex → St → Prop
 | .normal, st => LoopOK 6 E0.P nt_slices_insertionSortCmpFunc_Pair (lbodyOf 6 ac_slices_insertionSortCmpFunc_Pair).code (mask [0, 1, 2, 3, 8, 9] st) K
 | .exit i, st => K (.exit i) st
 | .goto i, st => K (.goto i) st
 | .ret, st => K .ret st
theorem L_slices_insertionSortCmpFunc_Pair_1_of (t1 t2 t8 : Int) (u0 : LL) (K : KK) (h :
 (Br (decide (t8 < t2))
 (L_slices_insertionSortCmpFunc_Pair_6 t1 t2 t8 t8 u0 (K_slices_insertionSortCmpFunc_Pair_2 K))
 (K (.exit 0) ⟨[], [(nA0, .arr 1 true 7 u0)]⟩))) : L_slices_insertionSortCmpFunc_Pair_1 t1 t2 t8 u0 K := loop_rule (envN E0 nt_slices_insertionSortCmpFunc_Pair) (okE nt_slices_insertionSortCmpFunc_Pair) 3 1 (lbodyOf 1 ac_slices_insertionSortCmpFunc_Pair) [0, 1, 2, 3, 8] _ K rfl (kr (by kernel_rfl) h)
theorem L_slices_insertionSortCmpFunc_Pair_6_of (t1 t2 : Int) (t8 t9 : Int) (u0 : LL) (K : KK) (h :
 (Req (decide (t1 < t9) = true → (0 : Int) ≤ t9 ∧ t9 < (↑u0.length : Int))
 (Req (decide (t1 < t9) = true →
 t9.toNat < u0.length ∧
 shOK
 [.str, .int .i64, .int .i64, .int .i64, .str, .sl 6 ty_api_Value,
 .sl 7 ty_api_Pair]
 (List.take 7 (List.drop 0 (u0.getD t9.toNat []))) =
 true)
 (Req (decide (t1 < t9) = true →
 (0 : Int) ≤ IntKind.i64.wrap (t9 - (1 : Int)) ∧ IntKind.i64.wrap (t9 - (1 : Int)) < (↑u0.length : Int))
 (Req (decide (t1 < t9) = true →
 (IntKind.i64.wrap (t9 - (1 : Int))).toNat < u0.length ∧
 shOK
 [.str, .int .i64, .int .i64, .int .i64, .str, .sl 6 ty_api_Value,
 .sl 7 ty_api_Pair]
 (List.take 7 (List.drop 0 (u0.getD (IntKind.i64.wrap (t9 - (1 : Int))).toNat []))) =
 true)
 (Br (decide (t1 < t9) == true)
 (Call E0.P fn_value_plainPairs_1 [(.imm (.agg [(.str (gS (List.take 7 (List.drop 0 (u0.getD t9.toNat []))) 0)), (.int .i64 (gI (List.take 7 (List.drop 0 (u0.getD t9.toNat []))) 1)), (.int .i64 (gI (List.take 7 (List.drop 0 (u0.getD t9.toNat []))) 2)), (.int .i64 (gI (List.take 7 (List.drop 0 (u0.getD t9.toNat []))) 3)), (.str (gS (List.take 7 (List.drop 0 (u0.getD t9.toNat []))) 4)), (.sl .any 6 (gR (List.take 7 (List.drop 0 (u0.getD t9.toNat []))) 5)), (.sl .any 7 (gR (List.take 7 (List.drop 0 (u0.getD t9.toNat []))) 6))])), (.imm (.agg [(.str (gS (List.take 7 (List.drop 0 (u0.getD (IntKind.i64.wrap (t9 - (1 : Int))).toNat []))) 0)), (.int .i64 (gI (List.take 7 (List.drop 0 (u0.getD (IntKind.i64.wrap (t9 - (1 : Int))).toNat []))) 1)), (.int .i64 (gI (List.take 7 (List.drop 0 (u0.getD (IntKind.i64.wrap (t9 - (1 : Int))).toNat []))) 2)), (.int .i64 (gI (List.take 7 (List.drop 0 (u0.getD (IntKind.i64.wrap (t9 - (1 : Int))).toNat []))) 3)), (.str (gS (List.take 7 (List.drop 0 (u0.getD (IntKind.i64.wrap (t9 - (1 : Int))).toNat []))) 4)), (.sl .any 6 (gR (List.take 7 (List.drop 0 (u0.getD (IntKind.i64.wrap (t9 - (1 : Int))).toNat []))) 5)), (.sl .any 7 (gR (List.take 7 (List.drop 0 (u0.getD (IntKind.i64.wrap (t9 - (1 : Int))).toNat []))) 6))]))] [] fun r0 g0 =>
 Req (qV1 g0 r0)
 (Let (decide (rI r0 < (0 : Int))) fun x1 =>
 Br (x1)
 (C_slices_insertionSortCmpFunc_Pair_9 t1 t2 t8 t9 u0 (K_slices_insertionSortCmpFunc_Pair_3 K))
 (K (.exit (2)) ⟨[(0, .own nA0), (1, (Ai t1)), (2, (Ai t2)), (3, .fn fn_value_plainPairs_1 []), (8, (Ai t8))], [(nA0, .arr 1 true 7 u0)]⟩)))
 (Req ((!true) = false)
 (Let (false) fun x2 =>
 Br (x2)
 (C_slices_insertionSortCmpFunc_Pair_9 t1 t2 t8 t9 u0 (K_slices_insertionSortCmpFunc_Pair_3 K))
 (K (.exit (2)) ⟨[(0, .own nA0), (1, (Ai t1)), (2, (Ai t2)), (3, .fn fn_value_plainPairs_1 []), (8, (Ai t8))], [(nA0, .arr 1 true 7 u0)]⟩))))))))) : L_slices_insertionSortCmpFunc_Pair_6 t1 t2 t8 t9 u0 K := loop_rule (envN E0 nt_slices_insertionSortCmpFunc_Pair) (okE nt_slices_insertionSortCmpFunc_Pair) 3 6 (lbodyOf 6 ac_slices_insertionSortCmpFunc_Pair) [0, 1, 2, 3, 8, 9] _ K rfl (kr (by kernel_rfl) h)
theorem C_slices_insertionSortCmpFunc_Pair_9_of (t1 t2 : Int) (t8 t9 : Int) (u0 : LL) (K : KK) (h :
 (Req ((0 : Int) ≤ IntKind.i64.wrap (t9 - (1 : Int)) ∧ IntKind.i64.wrap (t9 - (1 : Int)) < (↑u0.length : Int))
 (Req ((IntKind.i64.wrap (t9 - (1 : Int))).toNat < u0.length ∧
 shOK
 [.str, .int .i64, .int .i64, .int .i64, .str, .sl 6 ty_api_Value,
 .sl 7 ty_api_Pair]
 (List.take 7 (List.drop 0 (u0.getD (IntKind.i64.wrap (t9 - (1 : Int))).toNat []))) =
 true)
 (Req ((0 : Int) ≤ t9 ∧ t9 < (↑u0.length : Int))
 (Req (t9.toNat < u0.length ∧
 shOK
 [.str, .int .i64, .int .i64, .int .i64, .str, .sl 6 ty_api_Value,
 .sl 7 ty_api_Pair]
 (List.take 7 (List.drop 0 (u0.getD t9.toNat []))) =
 true)
 (Req ((0 : Int) ≤ t9 ∧ t9 < (↑u0.length : Int))
 (Req (t9.toNat < u0.length)
 (Req ((0 : Int) ≤ IntKind.i64.wrap (t9 - (1 : Int)) ∧
 IntKind.i64.wrap (t9 - (1 : Int)) <
 (↑(u0.set t9.toNat
 [.str
 (gS (List.take (7 : Nat) (List.drop (0 : Nat) (u0.getD (IntKind.i64.wrap (t9 - (1 : Int))).toNat [])))
 (0 : Nat)),
 .int .i64
 (gI (List.take (7 : Nat) (List.drop (0 : Nat) (u0.getD (IntKind.i64.wrap (t9 - (1 : Int))).toNat [])))
 (1 : Nat)),
 .int .i64
 (gI (List.take (7 : Nat) (List.drop (0 : Nat) (u0.getD (IntKind.i64.wrap (t9 - (1 : Int))).toNat [])))
 (2 : Nat)),
 .int .i64
 (gI (List.take (7 : Nat) (List.drop (0 : Nat) (u0.getD (IntKind.i64.wrap (t9 - (1 : Int))).toNat [])))
 (3 : Nat)),
 .str
 (gS (List.take (7 : Nat) (List.drop (0 : Nat) (u0.getD (IntKind.i64.wrap (t9 - (1 : Int))).toNat [])))
 (4 : Nat)),
 .sl SK.any (6 : Nat)
 (gR (List.take (7 : Nat) (List.drop (0 : Nat) (u0.getD (IntKind.i64.wrap (t9 - (1 : Int))).toNat [])))
 (5 : Nat)),
 .sl SK.any (7 : Nat)
 (gR (List.take (7 : Nat) (List.drop (0 : Nat) (u0.getD (IntKind.i64.wrap (t9 - (1 : Int))).toNat [])))
 (6 : Nat))]).length :
 Int))
 (Req ((IntKind.i64.wrap (t9 - (1 : Int))).toNat <
 (u0.set t9.toNat
 [.str
 (gS (List.take 7 (List.drop 0 (u0.getD (IntKind.i64.wrap (t9 - (1 : Int))).toNat [])))
 0),
 .int .i64
 (gI (List.take 7 (List.drop 0 (u0.getD (IntKind.i64.wrap (t9 - (1 : Int))).toNat [])))
 1),
 .int .i64
 (gI (List.take 7 (List.drop 0 (u0.getD (IntKind.i64.wrap (t9 - (1 : Int))).toNat [])))
 2),
 .int .i64
 (gI (List.take 7 (List.drop 0 (u0.getD (IntKind.i64.wrap (t9 - (1 : Int))).toNat [])))
 3),
 .str
 (gS (List.take 7 (List.drop 0 (u0.getD (IntKind.i64.wrap (t9 - (1 : Int))).toNat [])))
 4),
 .sl SK.any 6
 (gR (List.take 7 (List.drop 0 (u0.getD (IntKind.i64.wrap (t9 - (1 : Int))).toNat [])))
 5),
 .sl SK.any 7
 (gR (List.take 7 (List.drop 0 (u0.getD (IntKind.i64.wrap (t9 - (1 : Int))).toNat [])))
 6)]).length)
 (K .normal ⟨[(0, .own nA0), (1, (Ai t1)), (2, (Ai t2)), (3, .fn fn_value_plainPairs_1 []), (8, (Ai t8)), (9, (Ai (IntKind.i64.wrap (t9 - (1 : Int)))))], [(nA0, .arr 1 true 7 ((u0.set t9.toNat
 [.str
 (gS (List.take 7 (List.drop 0 (u0.getD (IntKind.i64.wrap (t9 - (1 : Int))).toNat [])))
 0),
 .int .i64
 (gI (List.take 7 (List.drop 0 (u0.getD (IntKind.i64.wrap (t9 - (1 : Int))).toNat [])))
 1),
 .int .i64
 (gI (List.take 7 (List.drop 0 (u0.getD (IntKind.i64.wrap (t9 - (1 : Int))).toNat [])))
 2),
 .int .i64
 (gI (List.take 7 (List.drop 0 (u0.getD (IntKind.i64.wrap (t9 - (1 : Int))).toNat [])))
 3),
 .str
 (gS (List.take 7 (List.drop 0 (u0.getD (IntKind.i64.wrap (t9 - (1 : Int))).toNat [])))
 4),
 .sl SK.any 6
 (gR (List.take 7 (List.drop 0 (u0.getD (IntKind.i64.wrap (t9 - (1 : Int))).toNat [])))
 5),
 .sl SK.any 7
 (gR (List.take 7 (List.drop 0 (u0.getD (IntKind.i64.wrap (t9 - (1 : Int))).toNat [])))
 6)]).set
 (IntKind.i64.wrap (t9 - (1 : Int))).toNat
 [.str (gS (List.take 7 (List.drop 0 (u0.getD t9.toNat []))) 0),
 .int .i64 (gI (List.take 7 (List.drop 0 (u0.getD t9.toNat []))) 1),
 .int .i64 (gI (List.take 7 (List.drop 0 (u0.getD t9.toNat []))) 2),
 .int .i64 (gI (List.take 7 (List.drop 0 (u0.getD t9.toNat []))) 3),
 .str (gS (List.take 7 (List.drop 0 (u0.getD t9.toNat []))) 4),
 .sl SK.any 6 (gR (List.take 7 (List.drop 0 (u0.getD t9.toNat []))) 5),
 .sl SK.any 7 (gR (List.take 7 (List.drop 0 (u0.getD t9.toNat []))) 6)]))]⟩)))))))))) : C_slices_insertionSortCmpFunc_Pair_9 t1 t2 t8 t9 u0 K := cut_rule (envN E0 nt_slices_insertionSortCmpFunc_Pair) (okE nt_slices_insertionSortCmpFunc_Pair) 3 9 (cbodyOf 9 ac_slices_insertionSortCmpFunc_Pair) [0, 1, 2, 3, 8, 9] _ K rfl (kr (by kernel_rfl) h)
theorem C_slices_insertionSortCmpFunc_Pair_11_of (t1 t2 t8 : Int) (u0 : LL) (K : KK) (h :
 (K .normal ⟨[(0, .own nA0), (1, (Ai t1)), (2, (Ai t2)), (3, .fn fn_value_plainPairs_1 []), (8, (Ai (IntKind.i64.wrap (t8 + (1 : Int)))))], [(nA0, .arr 1 true 7 u0)]⟩)) : C_slices_insertionSortCmpFunc_Pair_11 t1 t2 t8 u0 K := cut_rule (envN E0 nt_slices_insertionSortCmpFunc_Pair) (okE nt_slices_insertionSortCmpFunc_Pair) 3 11 (cbodyOf 11 ac_slices_insertionSortCmpFunc_Pair) [0, 1, 2, 3, 8] _ K rfl (kr (by kernel_rfl) h)
theorem K_slices_insertionSortCmpFunc_Pair_0_x0 (rows : LL) (Q : QQ) (u0 : LL) (h :
 (Q (.tup []) [(nA0, .arr 1 true 7 u0)])) : K_slices_insertionSortCmpFunc_Pair_0 rows Q (.exit 0) ⟨[], [(nA0, .arr 1 true 7 u0)]⟩ := kr (by kernel_rfl) h
theorem K_slices_insertionSortCmpFunc_Pair_1_x0 (K : KK) (t1 t2 t8 : Int) (u0 : LL) (h :
 (L_slices_insertionSortCmpFunc_Pair_1 t1 t2 t8 u0 K)) : K_slices_insertionSortCmpFunc_Pair_1 K .normal ⟨[(0, .own nA0), (1, (Ai t1)), (2, (Ai t2)), (3, .fn fn_value_plainPairs_1 []), (8, (Ai t8))], [(nA0, .arr 1 true 7 u0)]⟩ := kr (by kernel_rfl) h
theorem K_slices_insertionSortCmpFunc_Pair_2_x0 (K : KK) (t1 t2 t8 : Int) (u0 : LL) (h :
 (C_slices_insertionSortCmpFunc_Pair_11 t1 t2 t8 u0 (K_slices_insertionSortCmpFunc_Pair_1 K))) : K_slices_insertionSortCmpFunc_Pair_2 K (.exit (2)) ⟨[(0, .own nA0), (1, (Ai t1)), (2, (Ai t2)), (3, .fn fn_value_plainPairs_1 []), (8, (Ai t8))], [(nA0, .arr 1 true 7 u0)]⟩ := kr (by kernel_rfl) h
theorem K_slices_insertionSortCmpFunc_Pair_3_x0 (K : KK) (t1 t2 : Int) (t8 t9 : Int) (u0 : LL) (h :
 (L_slices_insertionSortCmpFunc_Pair_6 t1 t2 t8 t9 u0 K)) : K_slices_insertionSortCmpFunc_Pair_3 K .normal ⟨[(0, .own nA0), (1, (Ai t1)), (2, (Ai t2)), (3, .fn fn_value_plainPairs_1 []), (8, (Ai t8)), (9, (Ai t9))], [(nA0, .arr 1 true 7 u0)]⟩ := kr (by kernel_rfl) h
theorem ok_slices_insertionSortCmpFunc_Pair : FnOK E0.P 131 ac_slices_insertionSortCmpFunc_Pair.code nt_slices_insertionSortCmpFunc_Pair [] := fn_ok _ _ Try.f131 [(1, [0, 1, 2, 3, 8], []), (3, [], []), (6, [0, 1, 2, 3, 8, 9], []), (8, [0, 1, 2, 3, 8], []), (9, [0, 1, 2, 3, 8, 9], [0, 1, 2, 3, 8, 9]), (11, [0, 1, 2, 3, 8], [0, 1, 2, 3, 8])] [] _ 53 Try.func131 (by kernel_rfl) (by kernel_rfl) (by kernel_rfl) (by kernel_rfl)
theorem F_slices_insertionSortCmpFunc_Pair_of (rows : LL) (a1 a2 : Int) (Q : QQ) (h :
 (L_slices_insertionSortCmpFunc_Pair_1 a1 a2 (IntKind.i64.wrap (a1 + (1 : Int))) rows (K_slices_insertionSortCmpFunc_Pair_0 rows Q))) : Call E0.P fn_slices_insertionSortCmpFunc_Pair [.own (.arg 0), (Ai a1), (Ai a2), .fn fn_value_plainPairs_1 []] [(.arg 0, .arr 1 true 7 rows)] Q := fun_rule (envN E0 nt_slices_insertionSortCmpFunc_Pair) (okE nt_slices_insertionSortCmpFunc_Pair) 3 1 131 ac_slices_insertionSortCmpFunc_Pair [] ok_slices_insertionSortCmpFunc_Pair _ _ Q rfl rfl (kr (by kernel_rfl) h)
noncomputable def ac_slices_swapRangeCmpFunc_Pair : AC := (annot [(1, [0, 1, 2, 3, 10], []), (3, [], [])] [] (codeOf Try.f141) 0).1
abbrev nt_slices_swapRangeCmpFunc_Pair : Nat := 38
def L_slices_swapRangeCmpFunc_Pair_1 (t1 t2 : Int) (t3 t10 : Int) (u0 : LL) (K : KK) : Prop := LoopOK 1 E0.P nt_slices_swapRangeCmpFunc_Pair (lbodyOf 1 ac_slices_swapRangeCmpFunc_Pair).code ⟨[(0, .own nA0), (1, (Ai t1)), (2, (Ai t2)), (3, (Ai t3)), (10, (Ai t10))], [(nA0, .arr 1 true 7 u0)]⟩ K
def K_slices_swapRangeCmpFunc_Pair_0 (rows : LL) (Q : QQ) : KK := kF 0 (fun st => finish (1) E0.T [] [(nA0, .arr 1 true 7 rows)] Q st) fun st => finish (1) E0.T [] [(nA0, .arr 1 true 7 rows)] Q st
theorem L_slices_swapRangeCmpFunc_Pair_1_of (t1 t2 : Int) (t3 t10 : Int) (u0 : LL) (K : KK) (h :
 (Br (decide (t10 < t3))
 (Req ((0 : Int) ≤ IntKind.i64.wrap (t2 + t10) ∧ IntKind.i64.wrap (t2 + t10) < (↑u0.length : Int))
 (Req ((IntKind.i64.wrap (t2 + t10)).toNat < u0.length ∧
 shOK
 [.str, .int .i64, .int .i64, .int .i64, .str, .sl 6 ty_api_Value,
 .sl 7 ty_api_Pair]
 (List.take 7 (List.drop 0 (u0.getD (IntKind.i64.wrap (t2 + t10)).toNat []))) =
 true)
 (Req ((0 : Int) ≤ IntKind.i64.wrap (t1 + t10) ∧ IntKind.i64.wrap (t1 + t10) < (↑u0.length : Int))
 (Req ((IntKind.i64.wrap (t1 + t10)).toNat < u0.length ∧
 shOK
 [.str, .int .i64, .int .i64, .int .i64, .str, .sl 6 ty_api_Value,
 .sl 7 ty_api_Pair]
 (List.take 7 (List.drop 0 (u0.getD (IntKind.i64.wrap (t1 + t10)).toNat []))) =
 true)
 (Req ((0 : Int) ≤ IntKind.i64.wrap (t1 + t10) ∧ IntKind.i64.wrap (t1 + t10) < (↑u0.length : Int))
 (Req ((IntKind.i64.wrap (t1 + t10)).toNat < u0.length)
 (Req ((0 : Int) ≤ IntKind.i64.wrap (t2 + t10) ∧
 IntKind.i64.wrap (t2 + t10) <
 (↑(u0.set (IntKind.i64.wrap (t1 + t10)).toNat
 [.str
 (gS (List.take (7 : Nat) (List.drop (0 : Nat) (u0.getD (IntKind.i64.wrap (t2 + t10)).toNat [])))
 (0 : Nat)),
 .int .i64
 (gI (List.take (7 : Nat) (List.drop (0 : Nat) (u0.getD (IntKind.i64.wrap (t2 + t10)).toNat [])))
 (1 : Nat)),
 .int .i64
 (gI (List.take (7 : Nat) (List.drop (0 : Nat) (u0.getD (IntKind.i64.wrap (t2 + t10)).toNat [])))
 (2 : Nat)),
 .int .i64
 (gI (List.take (7 : Nat) (List.drop (0 : Nat) (u0.getD (IntKind.i64.wrap (t2 + t10)).toNat [])))
 (3 : Nat)),
 .str
 (gS (List.take (7 : Nat) (List.drop (0 : Nat) (u0.getD (IntKind.i64.wrap (t2 + t10)).toNat [])))
 (4 : Nat)),
 .sl SK.any (6 : Nat)
 (gR (List.take (7 : Nat) (List.drop (0 : Nat) (u0.getD (IntKind.i64.wrap (t2 + t10)).toNat [])))
 (5 : Nat)),
 .sl SK.any (7 : Nat)
 (gR (List.take (7 : Nat) (List.drop (0 : Nat) (u0.getD (IntKind.i64.wrap (t2 + t10)).toNat [])))
 (6 : Nat))]).length :
 Int))
 (Req ((IntKind.i64.wrap (t2 + t10)).toNat <
 (u0.set (IntKind.i64.wrap (t1 + t10)).toNat
 [.str
 (gS (List.take 7 (List.drop 0 (u0.getD (IntKind.i64.wrap (t2 + t10)).toNat []))) 0),
 .int .i64
 (gI (List.take 7 (List.drop 0 (u0.getD (IntKind.i64.wrap (t2 + t10)).toNat []))) 1),
 .int .i64
 (gI (List.take 7 (List.drop 0 (u0.getD (IntKind.i64.wrap (t2 + t10)).toNat []))) 2),
 .int .i64
 (gI (List.take 7 (List.drop 0 (u0.getD (IntKind.i64.wrap (t2 + t10)).toNat []))) 3),
 .str
 (gS (List.take 7 (List.drop 0 (u0.getD (IntKind.i64.wrap (t2 + t10)).toNat []))) 4),
 .sl SK.any 6
 (gR (List.take 7 (List.drop 0 (u0.getD (IntKind.i64.wrap (t2 + t10)).toNat []))) 5),
 .sl SK.any 7
 (gR (List.take 7 (List.drop 0 (u0.getD (IntKind.i64.wrap (t2 + t10)).toNat [])))
 6)]).length)
 (L_slices_swapRangeCmpFunc_Pair_1 t1 t2 t3 (IntKind.i64.wrap (t10 + (1 : Int))) ((u0.set (IntKind.i64.wrap (t1 + t10)).toNat
 [.str
 (gS (List.take 7 (List.drop 0 (u0.getD (IntKind.i64.wrap (t2 + t10)).toNat []))) 0),
 .int .i64
 (gI (List.take 7 (List.drop 0 (u0.getD (IntKind.i64.wrap (t2 + t10)).toNat []))) 1),
 .int .i64
 (gI (List.take 7 (List.drop 0 (u0.getD (IntKind.i64.wrap (t2 + t10)).toNat []))) 2),
 .int .i64
 (gI (List.take 7 (List.drop 0 (u0.getD (IntKind.i64.wrap (t2 + t10)).toNat []))) 3),
 .str
 (gS (List.take 7 (List.drop 0 (u0.getD (IntKind.i64.wrap (t2 + t10)).toNat []))) 4),
 .sl SK.any 6
 (gR (List.take 7 (List.drop 0 (u0.getD (IntKind.i64.wrap (t2 + t10)).toNat []))) 5),
 .sl SK.any 7
 (gR (List.take 7 (List.drop 0 (u0.getD (IntKind.i64.wrap (t2 + t10)).toNat [])))
 6)]).set
 (IntKind.i64.wrap (t2 + t10)).toNat
 [.str (gS (List.take 7 (List.drop 0 (u0.getD (IntKind.i64.wrap (t1 + t10)).toNat []))) 0),
 .int .i64
 (gI (List.take 7 (List.drop 0 (u0.getD (IntKind.i64.wrap (t1 + t10)).toNat []))) 1),
 .int .i64
 (gI (List.take 7 (List.drop 0 (u0.getD (IntKind.i64.wrap (t1 + t10)).toNat []))) 2),
 .int .i64
 (gI (List.take 7 (List.drop 0 (u0.getD (IntKind.i64.wrap (t1 + t10)).toNat []))) 3),
 .str (gS (List.take 7 (List.drop 0 (u0.getD (IntKind.i64.wrap (t1 + t10)).toNat []))) 4),
 .sl SK.any 6
 (gR (List.take 7 (List.drop 0 (u0.getD (IntKind.i64.wrap (t1 + t10)).toNat []))) 5),
 .sl SK.any 7
 (gR (List.take 7 (List.drop 0 (u0.getD (IntKind.i64.wrap (t1 + t10)).toNat []))) 6)]) K)))))))))
 (K (.exit 0) ⟨[], [(nA0, .arr 1 true 7 u0)]⟩))) : L_slices_swapRangeCmpFunc_Pair_1 t1 t2 t3 t10 u0 K := loop_rule (envN E0 nt_slices_swapRangeCmpFunc_Pair) (okE nt_slices_swapRangeCmpFunc_Pair) 3 1 (lbodyOf 1 ac_slices_swapRangeCmpFunc_Pair) [0, 1, 2, 3, 10] _ K rfl (kr (by kernel_rfl) h)
theorem K_slices_swapRangeCmpFunc_Pair_0_x0 (rows : LL) (Q : QQ) (u0 : LL) (h :
 (Q (.tup []) [(nA0, .arr 1 true 7 u0)])) : K_slices_swapRangeCmpFunc_Pair_0 rows Q (.exit 0) ⟨[], [(nA0, .arr 1 true 7 u0)]⟩ := kr (by kernel_rfl) h
theorem ok_slices_swapRangeCmpFunc_Pair : FnOK E0.P 141 ac_slices_swapRangeCmpFunc_Pair.code nt_slices_swapRangeCmpFunc_Pair [] := fn_ok _ _ Try.f141 [(1, [0, 1, 2, 3, 10], []), (3, [], [])] [] _ 38 Try.func141 (by kernel_rfl) (by kernel_rfl) (by kernel_rfl) (by kernel_rfl)
theorem F_slices_swapRangeCmpFunc_Pair_of (rows : LL) (a1 a2 a3 : Int) (Q : QQ) (h :
 (L_slices_swapRangeCmpFunc_Pair_1 a1 a2 a3 ((0 : Int)) rows (K_slices_swapRangeCmpFunc_Pair_0 rows Q))) : Call E0.P fn_slices_swapRangeCmpFunc_Pair [.own (.arg 0), (Ai a1), (Ai a2), (Ai a3), .fn fn_value_plainPairs_1 []] [(.arg 0, .arr 1 true 7 rows)] Q := fun_rule (envN E0 nt_slices_swapRangeCmpFunc_Pair) (okE nt_slices_swapRangeCmpFunc_Pair) 3 1 141 ac_slices_swapRangeCmpFunc_Pair [] ok_slices_swapRangeCmpFunc_Pair _ _ Q rfl rfl (kr (by kernel_rfl) h)
noncomputable def ac_slices_rotateCmpFunc_Pair : AC := (annot [(2, [0, 2, 4, 10, 11], []), (4, [0, 2, 4, 10], []), (9, [0, 2, 4, 10], [])] [] (codeOf Try.f137) 0).1
abbrev nt_slices_rotateCmpFunc_Pair : Nat := 58
def L_slices_rotateCmpFunc_Pair_2 (t2 t10 t11 : Int) (u0 : LL) (K : KK) : Prop := LoopOK 2 E0.P nt_slices_rotateCmpFunc_Pair (lbodyOf 2 ac_slices_rotateCmpFunc_Pair).code ⟨[(0, .own nA0), (2, (Ai t2)), (4, .fn fn_value_plainPairs_1 []), (10, (Ai t10)), (11, (Ai t11))], [(nA0, .arr 1 true 7 u0)]⟩ K
def C_slices_rotateCmpFunc_Pair_9 (t2 t10 : Int) (u0 : LL) (K : KK) : Prop := CutOK 9 E0.P nt_slices_rotateCmpFunc_Pair (cbodyOf 9 ac_slices_rotateCmpFunc_Pair).code ⟨[(0, .own nA0), (2, (Ai t2)), (4, .fn fn_value_plainPairs_1 []), (10, (Ai t10))], [(nA0, .arr 1 true 7 u0)]⟩ K
def K_slices_rotateCmpFunc_Pair_0 (rows : LL) (Q : QQ) : KK := kE fun st => finish (1) E0.T [] [(nA0, .arr 1 true 7 rows)] Q st
def K_slices_rotateCmpFunc_Pair_1 (rows : LL) (Q : QQ) : KK := kF 0 (fun st => CutOK 9 E0.P nt_slices_rotateCmpFunc_Pair (cbodyOf 9 ac_slices_rotateCmpFunc_Pair).code (mask [0, 2, 4, 10] st) (K_slices_rotateCmpFunc_Pair_0 rows Q)) fun st => finish (1) E0.T [] [(nA0, .arr 1 true 7 rows)] Q st
theorem L_slices_rotateCmpFunc_Pair_2_of (t2 t10 t11 : Int) (u0 : LL) (K : KK) (h :
 (Br (!decide (t10 = t11))
 (Br (decide (t11 < t10))
 (Call E0.P fn_slices_swapRangeCmpFunc_Pair [(.own nA0), (Ai (IntKind.i64.wrap (t2 - t10))), (Ai t2), (Ai t11), (.fn fn_value_plainPairs_1 [])] [(nA0, .arr 1 true 7 u0)] fun r0 g0 =>
 Req (qV2 g0 r0)
 (L_slices_rotateCmpFunc_Pair_2 t2 (IntKind.i64.wrap (t10 - t11)) t11 (arrRows g0 nA0) K))
 (Call E0.P fn_slices_swapRangeCmpFunc_Pair [(.own nA0), (Ai (IntKind.i64.wrap (t2 - t10))), (Ai (IntKind.i64.wrap (IntKind.i64.wrap (t2 + t11) - t10))), (Ai t10), (.fn fn_value_plainPairs_1 [])] [(nA0, .arr 1 true 7 u0)] fun r1 g1 =>
 Req (qV2 g1 r1)
 (L_slices_rotateCmpFunc_Pair_2 t2 t10 (IntKind.i64.wrap (t11 - t10)) (arrRows g1 nA0) K)))
 (K (.exit 0) ⟨[(0, .own nA0), (2, (Ai t2)), (4, .fn fn_value_plainPairs_1 []), (10, (Ai t10))], [(nA0, .arr 1 true 7 u0)]⟩))) : L_slices_rotateCmpFunc_Pair_2 t2 t10 t11 u0 K := loop_rule (envN E0 nt_slices_rotateCmpFunc_Pair) (okE nt_slices_rotateCmpFunc_Pair) 3 2 (lbodyOf 2 ac_slices_rotateCmpFunc_Pair) [0, 2, 4, 10, 11] _ K rfl (kr (by kernel_rfl) h)
theorem C_slices_rotateCmpFunc_Pair_9_of (t2 t10 : Int) (u0 : LL) (K : KK) (h :
 (Call E0.P fn_slices_swapRangeCmpFunc_Pair [(.own nA0), (Ai (IntKind.i64.wrap (t2 - t10))), (Ai t2), (Ai t10), (.fn fn_value_plainPairs_1 [])] [(nA0, .arr 1 true 7 u0)] fun r0 g0 =>
 Req (qV2 g0 r0)
 (K .normal ⟨[], [(nA0, .arr 1 true 7 (arrRows g0 nA0))]⟩))) : C_slices_rotateCmpFunc_Pair_9 t2 t10 u0 K := cut_rule (envN E0 nt_slices_rotateCmpFunc_Pair) (okE nt_slices_rotateCmpFunc_Pair) 3 9 (cbodyOf 9 ac_slices_rotateCmpFunc_Pair) [] _ K rfl (kr (by kernel_rfl) h)
theorem K_slices_rotateCmpFunc_Pair_0_x0 (rows : LL) (Q : QQ) (u0 : LL) (h :
 (Q (.tup []) [(nA0, .arr 1 true 7 u0)])) : K_slices_rotateCmpFunc_Pair_0 rows Q .normal ⟨[], [(nA0, .arr 1 true 7 u0)]⟩ := kr (by kernel_rfl) h
theorem K_slices_rotateCmpFunc_Pair_1_x0 (rows : LL) (Q : QQ) (t2 t10 : Int) (u0 : LL) (h :
 (C_slices_rotateCmpFunc_Pair_9 t2 t10 u0 (K_slices_rotateCmpFunc_Pair_0 rows Q))) : K_slices_rotateCmpFunc_Pair_1 rows Q (.exit 0) ⟨[(0, .own nA0), (2, (Ai t2)), (4, .fn fn_value_plainPairs_1 []), (10, (Ai t10))], [(nA0, .arr 1 true 7 u0)]⟩ := kr (by kernel_rfl) h
theorem ok_slices_rotateCmpFunc_Pair : FnOK E0.P 137 ac_slices_rotateCmpFunc_Pair.code nt_slices_rotateCmpFunc_Pair [] := fn_ok _ _ Try.f137 [(2, [0, 2, 4, 10, 11], []), (4, [0, 2, 4, 10], []), (9, [0, 2, 4, 10], [])] [] _ 58 Try.func137 (by kernel_rfl) (by kernel_rfl) (by kernel_rfl) (by kernel_rfl)
theorem F_slices_rotateCmpFunc_Pair_of (rows : LL) (a1 a2 a3 : Int) (Q : QQ) (h :
 (L_slices_rotateCmpFunc_Pair_2 a2 (IntKind.i64.wrap (a2 - a1)) (IntKind.i64.wrap (a3 - a2)) rows (K_slices_rotateCmpFunc_Pair_1 rows Q))) : Call E0.P fn_slices_rotateCmpFunc_Pair [.own (.arg 0), (Ai a1), (Ai a2), (Ai a3), .fn fn_value_plainPairs_1 []] [(.arg 0, .arr 1 true 7 rows)] Q := fun_rule (envN E0 nt_slices_rotateCmpFunc_Pair) (okE nt_slices_rotateCmpFunc_Pair) 3 1 137 ac_slices_rotateCmpFunc_Pair [] ok_slices_rotateCmpFunc_Pair _ _ Q rfl rfl (kr (by kernel_rfl) h)
noncomputable def ac_slices_symMergeCmpFunc_Pair : AC := (annot [(3, [0, 1, 4, 10, 11], []), (5, [0, 1, 10], []), (9, [0, 1, 10], [0, 1, 2, 3, 4]), (11, [0, 10, 13], []), (13, [], []), (16, [], [0, 1, 2, 3, 4]), (17, [0, 1, 2, 3, 4], []), (21, [0, 2, 4, 14, 15], []), (23, [0, 2, 14], []), (27, [0, 2, 14], [0, 1, 2, 3, 4]), (29, [0, 14, 17], []), (31, [], []), (34, [], [0, 1, 2, 3, 4]), (35, [0, 1, 2, 3, 4], []), (42, [0, 1, 2, 3, 4, 18, 19, 20, 21], []), (44, [0, 1, 2, 3, 4, 18, 19, 20, 21, 22], []), (46, [0, 1, 2, 3, 4, 18, 19, 20], []), (50, [0, 1, 2, 3, 4, 18, 19, 20], []), (53, [0, 1, 3, 4, 18, 20, 24], []), (55, [0, 3, 4, 18, 24], [])] [] (codeOf Try.f132) 0).1
abbrev nt_slices_symMergeCmpFunc_Pair : Nat := 220
def L_slices_symMergeCmpFunc_Pair_3 (t1 t10 t11 : Int) (u0 : LL) (K : KK) : Prop := LoopOK 3 E0.P nt_slices_symMergeCmpFunc_Pair (lbodyOf 3 ac_slices_symMergeCmpFunc_Pair).code ⟨[(0, .own nA0), (1, (Ai t1)), (4, .fn fn_value_plainPairs_1 []), (10, (Ai t10)), (11, (Ai t11))], [(nA0, .arr 1 true 7 u0)]⟩ K
def C_slices_symMergeCmpFunc_Pair_17 (t1 t2 t3 : Int) (u0 : LL) (K : KK) : Prop := CutOK 17 E0.P nt_slices_symMergeCmpFunc_Pair (cbodyOf 17 ac_slices_symMergeCmpFunc_Pair).code ⟨[(0, .own nA0), (1, (Ai t1)), (2, (Ai t2)), (3, (Ai t3)), (4, .fn fn_value_plainPairs_1 [])], [(nA0, .arr 1 true 7 u0)]⟩ K
def L_slices_symMergeCmpFunc_Pair_21 (t2 t14 t15 : Int) (u0 : LL) (K : KK) : Prop := LoopOK 21 E0.P nt_slices_symMergeCmpFunc_Pair (lbodyOf 21 ac_slices_symMergeCmpFunc_Pair).code ⟨[(0, .own nA0), (2, (Ai t2)), (4, .fn fn_value_plainPairs_1 []), (14, (Ai t14)), (15, (Ai t15))], [(nA0, .arr 1 true 7 u0)]⟩ K
def C_slices_symMergeCmpFunc_Pair_35 (t1 t2 t3 : Int) (u0 : LL) (K : KK) : Prop := CutOK 35 E0.P nt_slices_symMergeCmpFunc_Pair (cbodyOf 35 ac_slices_symMergeCmpFunc_Pair).code ⟨[(0, .own nA0), (1, (Ai t1)), (2, (Ai t2)), (3, (Ai t3)), (4, .fn fn_value_plainPairs_1 [])], [(nA0, .arr 1 true 7 u0)]⟩ K
def C_slices_symMergeCmpFunc_Pair_42 (t1 t2 : Int) (t3 t18 : Int) (t19 t20 t21 : Int) (u0 : LL) (K : KK) : Prop := CutOK 42 E0.P nt_slices_symMergeCmpFunc_Pair (cbodyOf 42 ac_slices_symMergeCmpFunc_Pair).code ⟨[(0, .own nA0), (1, (Ai t1)), (2, (Ai t2)), (3, (Ai t3)), (4, .fn fn_value_plainPairs_1 []), (18, (Ai t18)), (19, (Ai t19)), (20, (Ai t20)), (21, (Ai t21))], [(nA0, .arr 1 true 7 u0)]⟩ K
def L_slices_symMergeCmpFunc_Pair_44 (t1 t2 : Int) (t3 t18 : Int) (t19 t20 : Int) (t21 t22 : Int) (u0 : LL) (K : KK) : Prop := LoopOK 44 E0.P nt_slices_symMergeCmpFunc_Pair (lbodyOf 44 ac_slices_symMergeCmpFunc_Pair).code ⟨[(0, .own nA0), (1, (Ai t1)), (2, (Ai t2)), (3, (Ai t3)), (4, .fn fn_value_plainPairs_1 []), (18, (Ai t18)), (19, (Ai t19)), (20, (Ai t20)), (21, (Ai t21)), (22, (Ai t22))], [(nA0, .arr 1 true 7 u0)]⟩ K
def C_slices_symMergeCmpFunc_Pair_9 (t1 t10 : Int) (u0 : LL) (K : KK) : Prop := CutOK 9 E0.P nt_slices_symMergeCmpFunc_Pair (cbodyOf 9 ac_slices_symMergeCmpFunc_Pair).code ⟨[(0, .own nA0), (1, (Ai t1)), (10, (Ai t10))], [(nA0, .arr 1 true 7 u0)]⟩ K
def C_slices_symMergeCmpFunc_Pair_27 (t2 t14 : Int) (u0 : LL) (K : KK) : Prop := CutOK 27 E0.P nt_slices_symMergeCmpFunc_Pair (cbodyOf 27 ac_slices_symMergeCmpFunc_Pair).code ⟨[(0, .own nA0), (2, (Ai t2)), (14, (Ai t14))], [(nA0, .arr 1 true 7 u0)]⟩ K
def C_slices_symMergeCmpFunc_Pair_50 (t1 t2 : Int) (t3 t18 : Int) (t19 t20 : Int) (u0 : LL) (K : KK) : Prop := CutOK 50 E0.P nt_slices_symMergeCmpFunc_Pair (cbodyOf 50 ac_slices_symMergeCmpFunc_Pair).code ⟨[(0, .own nA0), (1, (Ai t1)), (2, (Ai t2)), (3, (Ai t3)), (4, .fn fn_value_plainPairs_1 []), (18, (Ai t18)), (19, (Ai t19)), (20, (Ai t20))], [(nA0, .arr 1 true 7 u0)]⟩ K
def L_slices_symMergeCmpFunc_Pair_11 (t10 t13 : Int) (u0 : LL) (K : KK) : Prop := LoopOK 11 E0.P nt_slices_symMergeCmpFunc_Pair (lbodyOf 11 ac_slices_symMergeCmpFunc_Pair).code ⟨[(0, .own nA0), (10, (Ai t10)), (13, (Ai t13))], [(nA0, .arr 1 true 7 u0)]⟩ K
def L_slices_symMergeCmpFunc_Pair_29 (t14 t17 : Int) (u0 : LL) (K : KK) : Prop := LoopOK 29 E0.P nt_slices_symMergeCmpFunc_Pair (lbodyOf 29 ac_slices_symMergeCmpFunc_Pair).code ⟨[(0, .own nA0), (14, (Ai t14)), (17, (Ai t17))], [(nA0, .arr 1 true 7 u0)]⟩ K
def C_slices_symMergeCmpFunc_Pair_53 (t1 t3 : Int) (t18 t20 t24 : Int) (u0 : LL) (K : KK) : Prop := CutOK 53 E0.P nt_slices_symMergeCmpFunc_Pair (cbodyOf 53 ac_slices_symMergeCmpFunc_Pair).code ⟨[(0, .own nA0), (1, (Ai t1)), (3, (Ai t3)), (4, .fn fn_value_plainPairs_1 []), (18, (Ai t18)), (20, (Ai t20)), (24, (Ai t24))], [(nA0, .arr 1 true 7 u0)]⟩ K
def C_slices_symMergeCmpFunc_Pair_55 (t3 t18 t24 : Int) (u0 : LL) (K : KK) : Prop := CutOK 55 E0.P nt_slices_symMergeCmpFunc_Pair (cbodyOf 55 ac_slices_symMergeCmpFunc_Pair).code ⟨[(0, .own nA0), (3, (Ai t3)), (4, .fn fn_value_plainPairs_1 []), (18, (Ai t18)), (24, (Ai t24))], [(nA0, .arr 1 true 7 u0)]⟩ K
def C_slices_symMergeCmpFunc_Pair_16 (u0 : LL) (K : KK) : Prop := CutOK 16 E0.P nt_slices_symMergeCmpFunc_Pair (cbodyOf 16 ac_slices_symMergeCmpFunc_Pair).code ⟨[], [(nA0, .arr 1 true 7 u0)]⟩ K
def C_slices_symMergeCmpFunc_Pair_34 (u0 : LL) (K : KK) : Prop := CutOK 34 E0.P nt_slices_symMergeCmpFunc_Pair (cbodyOf 34 ac_slices_symMergeCmpFunc_Pair).code ⟨[], [(nA0, .arr 1 true 7 u0)]⟩ K
def K_slices_symMergeCmpFunc_Pair_0 (rows : LL) (Q : QQ) : KK := kE fun st => finish (1) E0.T [] [(nA0, .arr 1 true 7 rows)] Q st
def K_slices_symMergeCmpFunc_Pair_1 (rows : LL) (Q : QQ) : Ex → St → Prop
 | .normal, st => CutOK 17 E0.P nt_slices_symMergeCmpFunc_Pair (cbodyOf 17 ac_slices_symMergeCmpFunc_Pair).code (mask [0, 1, 2, 3, 4] st) (K_slices_symMergeCmpFunc_Pair_0 rows Q)
 | .exit i, st => False
 | .goto i, st => False
 | .ret, st => finish (1) E0.T [] [(nA0, .arr 1 true 7 rows)] Q st
def K_slices_symMergeCmpFunc_Pair_2 (rows : LL) (Q : QQ) : KK := kF 0 (fun st => CutOK 9 E0.P nt_slices_symMergeCmpFunc_Pair (cbodyOf 9 ac_slices_symMergeCmpFunc_Pair).code (mask [0, 1, 10] st) (K_slices_symMergeCmpFunc_Pair_1 rows Q)) fun st => finish (1) E0.T [] [(nA0, .arr 1 true 7 rows)] Q st
def K_slices_symMergeCmpFunc_Pair_3 (K : KK) : KK := kP [] K
def K_slices_symMergeCmpFunc_Pair_4 (K : KK) : Ex → St → Prop
 | .normal, st => CutOK 35 E0.P nt_slices_symMergeCmpFunc_Pair (cbodyOf 35 ac_slices_symMergeCmpFunc_Pair).code (mask [0, 1, 2, 3, 4] st) (K_slices_symMergeCmpFunc_Pair_3 K)
 | .exit i, st => K (.exit i) st
 | .goto i, st => K (.goto i) st
 | .ret, st => K .ret st
def K_slices_symMergeCmpFunc_Pair_5 (K : KK) : KK := kC 4 (fun st => CutOK 27 E0.P nt_slices_symMergeCmpFunc_Pair (cbodyOf 27 ac_slices_symMergeCmpFunc_Pair).code (mask [0, 2, 14] st) (K_slices_symMergeCmpFunc_Pair_4 K)) K
def K_slices_symMergeCmpFunc_Pair_6 (K : KK) : KK := kC 8 (fun st => CutOK 50 E0.P nt_slices_symMergeCmpFunc_Pair (cbodyOf 50 ac_slices_symMergeCmpFunc_Pair).code (mask [0, 1, 2, 3, 4, 18, 19, 20] st) (K_slices_symMergeCmpFunc_Pair_3 K)) K
def K_slices_symMergeCmpFunc_Pair_7 (K : KK) : KK := kP [0, 1, 2, 3, 4] K
def K_slices_symMergeCmpFunc_Pair_8 (K : KK) : KK := kC 2 (fun st => CutOK 16 E0.P nt_slices_symMergeCmpFunc_Pair (cbodyOf 16 ac_slices_symMergeCmpFunc_Pair).code (mask [] st) (K_slices_symMergeCmpFunc_Pair_7 K)) K
def K_slices_symMergeCmpFunc_Pair_9 (K : KK) : KK := kC 6 (fun st => CutOK 34 E0.P nt_slices_symMergeCmpFunc_Pair (cbodyOf 34 ac_slices_symMergeCmpFunc_Pair).code (mask [] st) (K_slices_symMergeCmpFunc_Pair_7 K)) K
theorem L_slices_symMergeCmpFunc_Pair_3_of (t1 t10 t11 : Int) (u0 : LL) (K : KK) (h :
 (Br (decide (t10 < t11))
 (Req ((0 : Int) ≤ (1 : Int))
 (Req ((0 : Int) ≤ IntKind.i64.wrap ((IntKind.u64.wrap (IntKind.i64.wrap (t10 + t11))).fdiv ((2 : Int) ^ 1)) ∧
 IntKind.i64.wrap ((IntKind.u64.wrap (IntKind.i64.wrap (t10 + t11))).fdiv ((2 : Int) ^ 1)) <
 (↑u0.length : Int))
 (Req ((IntKind.i64.wrap ((IntKind.u64.wrap (IntKind.i64.wrap (t10 + t11))).fdiv ((2 : Int) ^ 1))).toNat < u0.length ∧
 shOK
 [.str, .int .i64, .int .i64, .int .i64, .str, .sl 6 ty_api_Value,
 .sl 7 ty_api_Pair]
 (List.take 7
 (List.drop 0
 (u0.getD
 (IntKind.i64.wrap ((IntKind.u64.wrap (IntKind.i64.wrap (t10 + t11))).fdiv ((2 : Int) ^ 1))).toNat
 []))) =
 true)
 (Req ((0 : Int) ≤ t1 ∧ t1 < (↑u0.length : Int))
 (Req (t1.toNat < u0.length ∧
 shOK
 [.str, .int .i64, .int .i64, .int .i64, .str, .sl 6 ty_api_Value,
 .sl 7 ty_api_Pair]
 (List.take 7 (List.drop 0 (u0.getD t1.toNat []))) =
 true)
 (Call E0.P fn_value_plainPairs_1 [(.imm (.agg [(.str (gS
 (List.take 7
 (List.drop 0
 (u0.getD
 (IntKind.i64.wrap ((IntKind.u64.wrap (IntKind.i64.wrap (t10 + t11))).fdiv ((2 : Int) ^ 1))).toNat [])))
 0)), (.int .i64 (gI
 (List.take 7
 (List.drop 0
 (u0.getD
 (IntKind.i64.wrap ((IntKind.u64.wrap (IntKind.i64.wrap (t10 + t11))).fdiv ((2 : Int) ^ 1))).toNat [])))
 1)), (.int .i64 (gI
 (List.take 7
 (List.drop 0
 (u0.getD
 (IntKind.i64.wrap ((IntKind.u64.wrap (IntKind.i64.wrap (t10 + t11))).fdiv ((2 : Int) ^ 1))).toNat [])))
 2)), (.int .i64 (gI
 (List.take 7
 (List.drop 0
 (u0.getD
 (IntKind.i64.wrap ((IntKind.u64.wrap (IntKind.i64.wrap (t10 + t11))).fdiv ((2 : Int) ^ 1))).toNat [])))
 3)), (.str (gS
 (List.take 7
 (List.drop 0
 (u0.getD
 (IntKind.i64.wrap ((IntKind.u64.wrap (IntKind.i64.wrap (t10 + t11))).fdiv ((2 : Int) ^ 1))).toNat [])))
 4)), (.sl .any 6 (gR
 (List.take 7
 (List.drop 0
 (u0.getD
 (IntKind.i64.wrap ((IntKind.u64.wrap (IntKind.i64.wrap (t10 + t11))).fdiv ((2 : Int) ^ 1))).toNat [])))
 5)), (.sl .any 7 (gR
 (List.take 7
 (List.drop 0
 (u0.getD
 (IntKind.i64.wrap ((IntKind.u64.wrap (IntKind.i64.wrap (t10 + t11))).fdiv ((2 : Int) ^ 1))).toNat [])))
 6))])), (.imm (.agg [(.str (gS (List.take 7 (List.drop 0 (u0.getD t1.toNat []))) 0)), (.int .i64 (gI (List.take 7 (List.drop 0 (u0.getD t1.toNat []))) 1)), (.int .i64 (gI (List.take 7 (List.drop 0 (u0.getD t1.toNat []))) 2)), (.int .i64 (gI (List.take 7 (List.drop 0 (u0.getD t1.toNat []))) 3)), (.str (gS (List.take 7 (List.drop 0 (u0.getD t1.toNat []))) 4)), (.sl .any 6 (gR (List.take 7 (List.drop 0 (u0.getD t1.toNat []))) 5)), (.sl .any 7 (gR (List.take 7 (List.drop 0 (u0.getD t1.toNat []))) 6))]))] [] fun r0 g0 =>
 Req (qV1 g0 r0)
 (Br (decide (rI r0 < (0 : Int)))
 (L_slices_symMergeCmpFunc_Pair_3 t1 (IntKind.i64.wrap
 (IntKind.i64.wrap ((IntKind.u64.wrap (IntKind.i64.wrap (t10 + t11))).fdiv ((2 : Int) ^ 1)) + (1 : Int))) t11 u0 K)
 (L_slices_symMergeCmpFunc_Pair_3 t1 t10 (IntKind.i64.wrap ((IntKind.u64.wrap (IntKind.i64.wrap (t10 + t11))).fdiv ((2 : Int) ^ 1))) u0 K))))))))
 (K (.exit 0) ⟨[(0, .own nA0), (1, (Ai t1)), (10, (Ai t10))], [(nA0, .arr 1 true 7 u0)]⟩))) : L_slices_symMergeCmpFunc_Pair_3 t1 t10 t11 u0 K := loop_rule (envN E0 nt_slices_symMergeCmpFunc_Pair) (okE nt_slices_symMergeCmpFunc_Pair) 3 3 (lbodyOf 3 ac_slices_symMergeCmpFunc_Pair) [0, 1, 4, 10, 11] _ K rfl (kr (by kernel_rfl) h)
theorem C_slices_symMergeCmpFunc_Pair_17_of (t1 t2 t3 : Int) (u0 : LL) (K : KK) (h :
 (Br (decide (IntKind.i64.wrap (t3 - t2) = (1 : Int)))
 (L_slices_symMergeCmpFunc_Pair_21 t2 t1 t2 u0 (K_slices_symMergeCmpFunc_Pair_5 K))
 (C_slices_symMergeCmpFunc_Pair_35 t1 t2 t3 u0 (K_slices_symMergeCmpFunc_Pair_3 K)))) : C_slices_symMergeCmpFunc_Pair_17 t1 t2 t3 u0 K := cut_rule (envN E0 nt_slices_symMergeCmpFunc_Pair) (okE nt_slices_symMergeCmpFunc_Pair) 3 17 (cbodyOf 17 ac_slices_symMergeCmpFunc_Pair) [] _ K rfl (kr (by kernel_rfl) h)
theorem L_slices_symMergeCmpFunc_Pair_21_of (t2 t14 t15 : Int) (u0 : LL) (K : KK) (h :
 (Br (decide (t14 < t15))
 (Req ((0 : Int) ≤ (1 : Int))
 (Req ((0 : Int) ≤ t2 ∧ t2 < (↑u0.length : Int))
 (Req (t2.toNat < u0.length ∧
 shOK
 [.str, .int .i64, .int .i64, .int .i64, .str, .sl 6 ty_api_Value,
 .sl 7 ty_api_Pair]
 (List.take 7 (List.drop 0 (u0.getD t2.toNat []))) =
 true)
 (Req ((0 : Int) ≤ IntKind.i64.wrap ((IntKind.u64.wrap (IntKind.i64.wrap (t14 + t15))).fdiv ((2 : Int) ^ 1)) ∧
 IntKind.i64.wrap ((IntKind.u64.wrap (IntKind.i64.wrap (t14 + t15))).fdiv ((2 : Int) ^ 1)) <
 (↑u0.length : Int))
 (Req ((IntKind.i64.wrap ((IntKind.u64.wrap (IntKind.i64.wrap (t14 + t15))).fdiv ((2 : Int) ^ 1))).toNat < u0.length ∧
 shOK
 [.str, .int .i64, .int .i64, .int .i64, .str, .sl 6 ty_api_Value,
 .sl 7 ty_api_Pair]
 (List.take 7
 (List.drop 0
 (u0.getD
 (IntKind.i64.wrap ((IntKind.u64.wrap (IntKind.i64.wrap (t14 + t15))).fdiv ((2 : Int) ^ 1))).toNat
 []))) =
 true)
 (Call E0.P fn_value_plainPairs_1 [(.imm (.agg [(.str (gS (List.take 7 (List.drop 0 (u0.getD t2.toNat []))) 0)), (.int .i64 (gI (List.take 7 (List.drop 0 (u0.getD t2.toNat []))) 1)), (.int .i64 (gI (List.take 7 (List.drop 0 (u0.getD t2.toNat []))) 2)), (.int .i64 (gI (List.take 7 (List.drop 0 (u0.getD t2.toNat []))) 3)), (.str (gS (List.take 7 (List.drop 0 (u0.getD t2.toNat []))) 4)), (.sl .any 6 (gR (List.take 7 (List.drop 0 (u0.getD t2.toNat []))) 5)), (.sl .any 7 (gR (List.take 7 (List.drop 0 (u0.getD t2.toNat []))) 6))])), (.imm (.agg [(.str (gS
 (List.take 7
 (List.drop 0
 (u0.getD
 (IntKind.i64.wrap ((IntKind.u64.wrap (IntKind.i64.wrap (t14 + t15))).fdiv ((2 : Int) ^ 1))).toNat [])))
 0)), (.int .i64 (gI
 (List.take 7
 (List.drop 0
 (u0.getD
 (IntKind.i64.wrap ((IntKind.u64.wrap (IntKind.i64.wrap (t14 + t15))).fdiv ((2 : Int) ^ 1))).toNat [])))
 1)), (.int .i64 (gI
 (List.take 7
 (List.drop 0
 (u0.getD
 (IntKind.i64.wrap ((IntKind.u64.wrap (IntKind.i64.wrap (t14 + t15))).fdiv ((2 : Int) ^ 1))).toNat [])))
 2)), (.int .i64 (gI
 (List.take 7
 (List.drop 0
 (u0.getD
 (IntKind.i64.wrap ((IntKind.u64.wrap (IntKind.i64.wrap (t14 + t15))).fdiv ((2 : Int) ^ 1))).toNat [])))
 3)), (.str (gS
 (List.take 7
 (List.drop 0
 (u0.getD
 (IntKind.i64.wrap ((IntKind.u64.wrap (IntKind.i64.wrap (t14 + t15))).fdiv ((2 : Int) ^ 1))).toNat [])))
 4)), (.sl .any 6 (gR
 (List.take 7
 (List.drop 0
 (u0.getD
 (IntKind.i64.wrap ((IntKind.u64.wrap (IntKind.i64.wrap (t14 + t15))).fdiv ((2 : Int) ^ 1))).toNat [])))
 5)), (.sl .any 7 (gR
 (List.take 7
 (List.drop 0
 (u0.getD
 (IntKind.i64.wrap ((IntKind.u64.wrap (IntKind.i64.wrap (t14 + t15))).fdiv ((2 : Int) ^ 1))).toNat [])))
 6))]))] [] fun r0 g0 =>
 Req (qV1 g0 r0)
 (Br (!decide (rI r0 < (0 : Int)))
 (L_slices_symMergeCmpFunc_Pair_21 t2 (IntKind.i64.wrap
 (IntKind.i64.wrap ((IntKind.u64.wrap (IntKind.i64.wrap (t14 + t15))).fdiv ((2 : Int) ^ 1)) + (1 : Int))) t15 u0 K)
 (L_slices_symMergeCmpFunc_Pair_21 t2 t14 (IntKind.i64.wrap ((IntKind.u64.wrap (IntKind.i64.wrap (t14 + t15))).fdiv ((2 : Int) ^ 1))) u0 K))))))))
 (K (.exit (4)) ⟨[(0, .own nA0), (2, (Ai t2)), (14, (Ai t14))], [(nA0, .arr 1 true 7 u0)]⟩))) : L_slices_symMergeCmpFunc_Pair_21 t2 t14 t15 u0 K := loop_rule (envN E0 nt_slices_symMergeCmpFunc_Pair) (okE nt_slices_symMergeCmpFunc_Pair) 3 21 (lbodyOf 21 ac_slices_symMergeCmpFunc_Pair) [0, 2, 4, 14, 15] _ K rfl (kr (by kernel_rfl) h)
theorem C_slices_symMergeCmpFunc_Pair_35_of (t1 t2 t3 : Int) (u0 : LL) (K : KK) (h :
 (Req ((0 : Int) ≤ (1 : Int))
 (Br (decide (IntKind.i64.wrap ((IntKind.u64.wrap (IntKind.i64.wrap (t1 + t3))).fdiv ((2 : Int) ^ 1)) < t2))
 (C_slices_symMergeCmpFunc_Pair_42 t1 t2 t3 (IntKind.i64.wrap ((IntKind.u64.wrap (IntKind.i64.wrap (t1 + t3))).fdiv ((2 : Int) ^ 1))) (IntKind.i64.wrap (IntKind.i64.wrap ((IntKind.u64.wrap (IntKind.i64.wrap (t1 + t3))).fdiv ((2 : Int) ^ 1)) + t2)) (IntKind.i64.wrap
 (IntKind.i64.wrap
 (IntKind.i64.wrap ((IntKind.u64.wrap (IntKind.i64.wrap (t1 + t3))).fdiv ((2 : Int) ^ 1)) + t2) -
 t3)) (IntKind.i64.wrap ((IntKind.u64.wrap (IntKind.i64.wrap (t1 + t3))).fdiv ((2 : Int) ^ 1))) u0 (K_slices_symMergeCmpFunc_Pair_3 K))
 (C_slices_symMergeCmpFunc_Pair_42 t1 t2 t3 (IntKind.i64.wrap ((IntKind.u64.wrap (IntKind.i64.wrap (t1 + t3))).fdiv ((2 : Int) ^ 1))) (IntKind.i64.wrap (IntKind.i64.wrap ((IntKind.u64.wrap (IntKind.i64.wrap (t1 + t3))).fdiv ((2 : Int) ^ 1)) + t2)) t1 t2 u0 (K_slices_symMergeCmpFunc_Pair_3 K))))) : C_slices_symMergeCmpFunc_Pair_35 t1 t2 t3 u0 K := cut_rule (envN E0 nt_slices_symMergeCmpFunc_Pair) (okE nt_slices_symMergeCmpFunc_Pair) 3 35 (cbodyOf 35 ac_slices_symMergeCmpFunc_Pair) [] _ K rfl (kr (by kernel_rfl) h)
theorem C_slices_symMergeCmpFunc_Pair_42_of (t1 t2 : Int) (t3 t18 : Int) (t19 t20 t21 : Int) (u0 : LL) (K : KK) (h :
 (L_slices_symMergeCmpFunc_Pair_44 t1 t2 t3 t18 t19 t20 t21 (IntKind.i64.wrap (t19 - (1 : Int))) u0 (K_slices_symMergeCmpFunc_Pair_6 K))) : C_slices_symMergeCmpFunc_Pair_42 t1 t2 t3 t18 t19 t20 t21 u0 K := cut_rule (envN E0 nt_slices_symMergeCmpFunc_Pair) (okE nt_slices_symMergeCmpFunc_Pair) 3 42 (cbodyOf 42 ac_slices_symMergeCmpFunc_Pair) [] _ K rfl (kr (by kernel_rfl) h)
theorem L_slices_symMergeCmpFunc_Pair_44_of (t1 t2 : Int) (t3 t18 : Int) (t19 t20 : Int) (t21 t22 : Int) (u0 : LL) (K : KK) (h :
 (Br (decide (t20 < t21))
 (Req ((0 : Int) ≤ (1 : Int))
 (Req ((0 : Int) ≤
 IntKind.i64.wrap
 (t22 - IntKind.i64.wrap ((IntKind.u64.wrap (IntKind.i64.wrap (t20 + t21))).fdiv ((2 : Int) ^ 1))) ∧
 IntKind.i64.wrap
 (t22 - IntKind.i64.wrap ((IntKind.u64.wrap (IntKind.i64.wrap (t20 + t21))).fdiv ((2 : Int) ^ 1))) <
 (↑u0.length : Int))
 (Req ((IntKind.i64.wrap
 (t22 -
 IntKind.i64.wrap ((IntKind.u64.wrap (IntKind.i64.wrap (t20 + t21))).fdiv ((2 : Int) ^ 1)))).toNat <
 u0.length ∧
 shOK
 [.str, .int .i64, .int .i64, .int .i64, .str, .sl 6 ty_api_Value,
 .sl 7 ty_api_Pair]
 (List.take 7
 (List.drop 0
 (u0.getD
 (IntKind.i64.wrap
 (t22 -
 IntKind.i64.wrap
 ((IntKind.u64.wrap (IntKind.i64.wrap (t20 + t21))).fdiv ((2 : Int) ^ 1)))).toNat
 []))) =
 true)
 (Req ((0 : Int) ≤ IntKind.i64.wrap ((IntKind.u64.wrap (IntKind.i64.wrap (t20 + t21))).fdiv ((2 : Int) ^ 1)) ∧
 IntKind.i64.wrap ((IntKind.u64.wrap (IntKind.i64.wrap (t20 + t21))).fdiv ((2 : Int) ^ 1)) <
 (↑u0.length : Int))
 (Req ((IntKind.i64.wrap ((IntKind.u64.wrap (IntKind.i64.wrap (t20 + t21))).fdiv ((2 : Int) ^ 1))).toNat < u0.length ∧
 shOK
 [.str, .int .i64, .int .i64, .int .i64, .str, .sl 6 ty_api_Value,
 .sl 7 ty_api_Pair]
 (List.take 7
 (List.drop 0
 (u0.getD
 (IntKind.i64.wrap ((IntKind.u64.wrap (IntKind.i64.wrap (t20 + t21))).fdiv ((2 : Int) ^ 1))).toNat
 []))) =
 true)
 (Call E0.P fn_value_plainPairs_1 [(.imm (.agg [(.str (gS
 (List.take 7
 (List.drop 0
 (u0.getD
 (IntKind.i64.wrap
 (t22 -
 IntKind.i64.wrap ((IntKind.u64.wrap (IntKind.i64.wrap (t20 + t21))).fdiv ((2 : Int) ^ 1)))).toNat
 [])))
 0)), (.int .i64 (gI
 (List.take 7
 (List.drop 0
 (u0.getD
 (IntKind.i64.wrap
 (t22 -
 IntKind.i64.wrap ((IntKind.u64.wrap (IntKind.i64.wrap (t20 + t21))).fdiv ((2 : Int) ^ 1)))).toNat
 [])))
 1)), (.int .i64 (gI
 (List.take 7
 (List.drop 0
 (u0.getD
 (IntKind.i64.wrap
 (t22 -
 IntKind.i64.wrap ((IntKind.u64.wrap (IntKind.i64.wrap (t20 + t21))).fdiv ((2 : Int) ^ 1)))).toNat
 [])))
 2)), (.int .i64 (gI
 (List.take 7
 (List.drop 0
 (u0.getD
 (IntKind.i64.wrap
 (t22 -
 IntKind.i64.wrap ((IntKind.u64.wrap (IntKind.i64.wrap (t20 + t21))).fdiv ((2 : Int) ^ 1)))).toNat
 [])))
 3)), (.str (gS
 (List.take 7
 (List.drop 0
 (u0.getD
 (IntKind.i64.wrap
 (t22 -
 IntKind.i64.wrap ((IntKind.u64.wrap (IntKind.i64.wrap (t20 + t21))).fdiv ((2 : Int) ^ 1)))).toNat
 [])))
 4)), (.sl .any 6 (gR
 (List.take 7
 (List.drop 0
 (u0.getD
 (IntKind.i64.wrap
 (t22 -
 IntKind.i64.wrap ((IntKind.u64.wrap (IntKind.i64.wrap (t20 + t21))).fdiv ((2 : Int) ^ 1)))).toNat
 [])))
 5)), (.sl .any 7 (gR
 (List.take 7
 (List.drop 0
 (u0.getD
 (IntKind.i64.wrap
 (t22 -
 IntKind.i64.wrap ((IntKind.u64.wrap (IntKind.i64.wrap (t20 + t21))).fdiv ((2 : Int) ^ 1)))).toNat
 [])))
 6))])), (.imm (.agg [(.str (gS
 (List.take 7
 (List.drop 0
 (u0.getD
 (IntKind.i64.wrap ((IntKind.u64.wrap (IntKind.i64.wrap (t20 + t21))).fdiv ((2 : Int) ^ 1))).toNat [])))
 0)), (.int .i64 (gI
 (List.take 7
 (List.drop 0
 (u0.getD
 (IntKind.i64.wrap ((IntKind.u64.wrap (IntKind.i64.wrap (t20 + t21))).fdiv ((2 : Int) ^ 1))).toNat [])))
 1)), (.int .i64 (gI
 (List.take 7
 (List.drop 0
 (u0.getD
 (IntKind.i64.wrap ((IntKind.u64.wrap (IntKind.i64.wrap (t20 + t21))).fdiv ((2 : Int) ^ 1))).toNat [])))
 2)), (.int .i64 (gI
 (List.take 7
 (List.drop 0
 (u0.getD
 (IntKind.i64.wrap ((IntKind.u64.wrap (IntKind.i64.wrap (t20 + t21))).fdiv ((2 : Int) ^ 1))).toNat [])))
 3)), (.str (gS
 (List.take 7
 (List.drop 0
 (u0.getD
 (IntKind.i64.wrap ((IntKind.u64.wrap (IntKind.i64.wrap (t20 + t21))).fdiv ((2 : Int) ^ 1))).toNat [])))
 4)), (.sl .any 6 (gR
 (List.take 7
 (List.drop 0
 (u0.getD
 (IntKind.i64.wrap ((IntKind.u64.wrap (IntKind.i64.wrap (t20 + t21))).fdiv ((2 : Int) ^ 1))).toNat [])))
 5)), (.sl .any 7 (gR
 (List.take 7
 (List.drop 0
 (u0.getD
 (IntKind.i64.wrap ((IntKind.u64.wrap (IntKind.i64.wrap (t20 + t21))).fdiv ((2 : Int) ^ 1))).toNat [])))
 6))]))] [] fun r0 g0 =>
 Req (qV1 g0 r0)
 (Br (!decide (rI r0 < (0 : Int)))
 (L_slices_symMergeCmpFunc_Pair_44 t1 t2 t3 t18 t19 (IntKind.i64.wrap
 (IntKind.i64.wrap ((IntKind.u64.wrap (IntKind.i64.wrap (t20 + t21))).fdiv ((2 : Int) ^ 1)) + (1 : Int))) t21 t22 u0 K)
 (L_slices_symMergeCmpFunc_Pair_44 t1 t2 t3 t18 t19 t20 (IntKind.i64.wrap ((IntKind.u64.wrap (IntKind.i64.wrap (t20 + t21))).fdiv ((2 : Int) ^ 1))) t22 u0 K))))))))
 (K (.exit (8)) ⟨[(0, .own nA0), (1, (Ai t1)), (2, (Ai t2)), (3, (Ai t3)), (4, .fn fn_value_plainPairs_1 []), (18, (Ai t18)), (19, (Ai t19)), (20, (Ai t20))], [(nA0, .arr 1 true 7 u0)]⟩))) : L_slices_symMergeCmpFunc_Pair_44 t1 t2 t3 t18 t19 t20 t21 t22 u0 K := loop_rule (envN E0 nt_slices_symMergeCmpFunc_Pair) (okE nt_slices_symMergeCmpFunc_Pair) 3 44 (lbodyOf 44 ac_slices_symMergeCmpFunc_Pair) [0, 1, 2, 3, 4, 18, 19, 20, 21, 22] _ K rfl (kr (by kernel_rfl) h)
theorem C_slices_symMergeCmpFunc_Pair_9_of (t1 t10 : Int) (u0 : LL) (K : KK) (h :
 (L_slices_symMergeCmpFunc_Pair_11 t10 t1 u0 (K_slices_symMergeCmpFunc_Pair_8 K))) : C_slices_symMergeCmpFunc_Pair_9 t1 t10 u0 K := cut_rule (envN E0 nt_slices_symMergeCmpFunc_Pair) (okE nt_slices_symMergeCmpFunc_Pair) 3 9 (cbodyOf 9 ac_slices_symMergeCmpFunc_Pair) [0, 1, 2, 3, 4] _ K rfl (kr (by kernel_rfl) h)
theorem C_slices_symMergeCmpFunc_Pair_27_of (t2 t14 : Int) (u0 : LL) (K : KK) (h :
 (L_slices_symMergeCmpFunc_Pair_29 t14 t2 u0 (K_slices_symMergeCmpFunc_Pair_9 K))) : C_slices_symMergeCmpFunc_Pair_27 t2 t14 u0 K := cut_rule (envN E0 nt_slices_symMergeCmpFunc_Pair) (okE nt_slices_symMergeCmpFunc_Pair) 3 27 (cbodyOf 27 ac_slices_symMergeCmpFunc_Pair) [0, 1, 2, 3, 4] _ K rfl (kr (by kernel_rfl) h)
theorem C_slices_symMergeCmpFunc_Pair_50_of (t1 t2 : Int) (t3 t18 : Int) (t19 t20 : Int) (u0 : LL) (K : KK) (h :
 (Let (bif decide (t20 < t2) then decide (t2 < IntKind.i64.wrap (t19 - t20)) else false) fun x0 =>
 Br (x0)
 (Call E0.P fn_slices_rotateCmpFunc_Pair [(.own nA0), (Ai t20), (Ai t2), (Ai (IntKind.i64.wrap (t19 - t20))), (.fn fn_value_plainPairs_1 [])] [(nA0, .arr 1 true 7 u0)] fun r1 g1 =>
 Req (qV2 g1 r1)
 (C_slices_symMergeCmpFunc_Pair_53 t1 t3 t18 t20 (IntKind.i64.wrap (t19 - t20)) (arrRows g1 nA0) (K_slices_symMergeCmpFunc_Pair_3 K)))
 (C_slices_symMergeCmpFunc_Pair_53 t1 t3 t18 t20 (IntKind.i64.wrap (t19 - t20)) u0 (K_slices_symMergeCmpFunc_Pair_3 K)))) : C_slices_symMergeCmpFunc_Pair_50 t1 t2 t3 t18 t19 t20 u0 K := cut_rule (envN E0 nt_slices_symMergeCmpFunc_Pair) (okE nt_slices_symMergeCmpFunc_Pair) 3 50 (cbodyOf 50 ac_slices_symMergeCmpFunc_Pair) [] _ K rfl (kr (by kernel_rfl) h)
theorem L_slices_symMergeCmpFunc_Pair_11_of (t10 t13 : Int) (u0 : LL) (K : KK) (h :
 (Br (decide (t13 < IntKind.i64.wrap (t10 - (1 : Int))))
 (Req ((0 : Int) ≤ IntKind.i64.wrap (t13 + (1 : Int)) ∧ IntKind.i64.wrap (t13 + (1 : Int)) < (↑u0.length : Int))
 (Req ((IntKind.i64.wrap (t13 + (1 : Int))).toNat < u0.length ∧
 shOK
 [.str, .int .i64, .int .i64, .int .i64, .str, .sl 6 ty_api_Value,
 .sl 7 ty_api_Pair]
 (List.take 7 (List.drop 0 (u0.getD (IntKind.i64.wrap (t13 + (1 : Int))).toNat []))) =
 true)
 (Req ((0 : Int) ≤ t13 ∧ t13 < (↑u0.length : Int))
 (Req (t13.toNat < u0.length ∧
 shOK
 [.str, .int .i64, .int .i64, .int .i64, .str, .sl 6 ty_api_Value,
 .sl 7 ty_api_Pair]
 (List.take 7 (List.drop 0 (u0.getD t13.toNat []))) =
 true)
 (Req ((0 : Int) ≤ t13 ∧ t13 < (↑u0.length : Int))
 (Req (t13.toNat < u0.length)
 (Req ((0 : Int) ≤ IntKind.i64.wrap (t13 + (1 : Int)) ∧
 IntKind.i64.wrap (t13 + (1 : Int)) <
 (↑(u0.set t13.toNat
 [.str
 (gS (List.take (7 : Nat) (List.drop (0 : Nat) (u0.getD (IntKind.i64.wrap (t13 + (1 : Int))).toNat [])))
 (0 : Nat)),
 .int .i64
 (gI (List.take (7 : Nat) (List.drop (0 : Nat) (u0.getD (IntKind.i64.wrap (t13 + (1 : Int))).toNat [])))
 (1 : Nat)),
 .int .i64
 (gI (List.take (7 : Nat) (List.drop (0 : Nat) (u0.getD (IntKind.i64.wrap (t13 + (1 : Int))).toNat [])))
 (2 : Nat)),
 .int .i64
 (gI (List.take (7 : Nat) (List.drop (0 : Nat) (u0.getD (IntKind.i64.wrap (t13 + (1 : Int))).toNat [])))
 (3 : Nat)),
 .str
 (gS (List.take (7 : Nat) (List.drop (0 : Nat) (u0.getD (IntKind.i64.wrap (t13 + (1 : Int))).toNat [])))
 (4 : Nat)),
 .sl SK.any (6 : Nat)
 (gR (List.take (7 : Nat) (List.drop (0 : Nat) (u0.getD (IntKind.i64.wrap (t13 + (1 : Int))).toNat [])))
 (5 : Nat)),
 .sl SK.any (7 : Nat)
 (gR (List.take (7 : Nat) (List.drop (0 : Nat) (u0.getD (IntKind.i64.wrap (t13 + (1 : Int))).toNat [])))
 (6 : Nat))]).length :
 Int))
 (Req ((IntKind.i64.wrap (t13 + (1 : Int))).toNat <
 (u0.set t13.toNat
 [.str
 (gS (List.take 7 (List.drop 0 (u0.getD (IntKind.i64.wrap (t13 + (1 : Int))).toNat [])))
 0),
 .int .i64
 (gI (List.take 7 (List.drop 0 (u0.getD (IntKind.i64.wrap (t13 + (1 : Int))).toNat [])))
 1),
 .int .i64
 (gI (List.take 7 (List.drop 0 (u0.getD (IntKind.i64.wrap (t13 + (1 : Int))).toNat [])))
 2),
 .int .i64
 (gI (List.take 7 (List.drop 0 (u0.getD (IntKind.i64.wrap (t13 + (1 : Int))).toNat [])))
 3),
 .str
 (gS (List.take 7 (List.drop 0 (u0.getD (IntKind.i64.wrap (t13 + (1 : Int))).toNat [])))
 4),
 .sl SK.any 6
 (gR (List.take 7 (List.drop 0 (u0.getD (IntKind.i64.wrap (t13 + (1 : Int))).toNat [])))
 5),
 .sl SK.any 7
 (gR (List.take 7 (List.drop 0 (u0.getD (IntKind.i64.wrap (t13 + (1 : Int))).toNat [])))
 6)]).length)
 (L_slices_symMergeCmpFunc_Pair_11 t10 (IntKind.i64.wrap (t13 + (1 : Int))) ((u0.set t13.toNat
 [.str
 (gS (List.take 7 (List.drop 0 (u0.getD (IntKind.i64.wrap (t13 + (1 : Int))).toNat [])))
 0),
 .int .i64
 (gI (List.take 7 (List.drop 0 (u0.getD (IntKind.i64.wrap (t13 + (1 : Int))).toNat [])))
 1),
 .int .i64
 (gI (List.take 7 (List.drop 0 (u0.getD (IntKind.i64.wrap (t13 + (1 : Int))).toNat [])))
 2),
 .int .i64
 (gI (List.take 7 (List.drop 0 (u0.getD (IntKind.i64.wrap (t13 + (1 : Int))).toNat [])))
 3),
 .str
 (gS (List.take 7 (List.drop 0 (u0.getD (IntKind.i64.wrap (t13 + (1 : Int))).toNat [])))
 4),
 .sl SK.any 6
 (gR (List.take 7 (List.drop 0 (u0.getD (IntKind.i64.wrap (t13 + (1 : Int))).toNat [])))
 5),
 .sl SK.any 7
 (gR (List.take 7 (List.drop 0 (u0.getD (IntKind.i64.wrap (t13 + (1 : Int))).toNat [])))
 6)]).set
 (IntKind.i64.wrap (t13 + (1 : Int))).toNat
 [.str (gS (List.take 7 (List.drop 0 (u0.getD t13.toNat []))) 0),
 .int .i64 (gI (List.take 7 (List.drop 0 (u0.getD t13.toNat []))) 1),
 .int .i64 (gI (List.take 7 (List.drop 0 (u0.getD t13.toNat []))) 2),
 .int .i64 (gI (List.take 7 (List.drop 0 (u0.getD t13.toNat []))) 3),
 .str (gS (List.take 7 (List.drop 0 (u0.getD t13.toNat []))) 4),
 .sl SK.any 6 (gR (List.take 7 (List.drop 0 (u0.getD t13.toNat []))) 5),
 .sl SK.any 7 (gR (List.take 7 (List.drop 0 (u0.getD t13.toNat []))) 6)]) K)))))))))
 (K (.exit (2)) ⟨[], [(nA0, .arr 1 true 7 u0)]⟩))) : L_slices_symMergeCmpFunc_Pair_11 t10 t13 u0 K := loop_rule (envN E0 nt_slices_symMergeCmpFunc_Pair) (okE nt_slices_symMergeCmpFunc_Pair) 3 11 (lbodyOf 11 ac_slices_symMergeCmpFunc_Pair) [0, 10, 13] _ K rfl (kr (by kernel_rfl) h)
theorem L_slices_symMergeCmpFunc_Pair_29_of (t14 t17 : Int) (u0 : LL) (K : KK) (h :
 (Br (decide (t14 < t17))
 (Req ((0 : Int) ≤ IntKind.i64.wrap (t17 - (1 : Int)) ∧ IntKind.i64.wrap (t17 - (1 : Int)) < (↑u0.length : Int))
 (Req ((IntKind.i64.wrap (t17 - (1 : Int))).toNat < u0.length ∧
 shOK
 [.str, .int .i64, .int .i64, .int .i64, .str, .sl 6 ty_api_Value,
 .sl 7 ty_api_Pair]
 (List.take 7 (List.drop 0 (u0.getD (IntKind.i64.wrap (t17 - (1 : Int))).toNat []))) =
 true)
 (Req ((0 : Int) ≤ t17 ∧ t17 < (↑u0.length : Int))
 (Req (t17.toNat < u0.length ∧
 shOK
 [.str, .int .i64, .int .i64, .int .i64, .str, .sl 6 ty_api_Value,
 .sl 7 ty_api_Pair]
 (List.take 7 (List.drop 0 (u0.getD t17.toNat []))) =
 true)
 (Req ((0 : Int) ≤ t17 ∧ t17 < (↑u0.length : Int))
 (Req (t17.toNat < u0.length)
 (Req ((0 : Int) ≤ IntKind.i64.wrap (t17 - (1 : Int)) ∧
 IntKind.i64.wrap (t17 - (1 : Int)) <
 (↑(u0.set t17.toNat
 [.str
 (gS (List.take (7 : Nat) (List.drop (0 : Nat) (u0.getD (IntKind.i64.wrap (t17 - (1 : Int))).toNat [])))
 (0 : Nat)),
 .int .i64
 (gI (List.take (7 : Nat) (List.drop (0 : Nat) (u0.getD (IntKind.i64.wrap (t17 - (1 : Int))).toNat [])))
 (1 : Nat)),
 .int .i64
 (gI (List.take (7 : Nat) (List.drop (0 : Nat) (u0.getD (IntKind.i64.wrap (t17 - (1 : Int))).toNat [])))
 (2 : Nat)),
 .int .i64
 (gI (List.take (7 : Nat) (List.drop (0 : Nat) (u0.getD (IntKind.i64.wrap (t17 - (1 : Int))).toNat [])))
 (3 : Nat)),
 .str
 (gS (List.take (7 : Nat) (List.drop (0 : Nat) (u0.getD (IntKind.i64.wrap (t17 - (1 : Int))).toNat [])))
 (4 : Nat)),
 .sl SK.any (6 : Nat)
 (gR (List.take (7 : Nat) (List.drop (0 : Nat) (u0.getD (IntKind.i64.wrap (t17 - (1 : Int))).toNat [])))
 (5 : Nat)),
 .sl SK.any (7 : Nat)
 (gR (List.take (7 : Nat) (List.drop (0 : Nat) (u0.getD (IntKind.i64.wrap (t17 - (1 : Int))).toNat [])))
 (6 : Nat))]).length :
 Int))
 (Req ((IntKind.i64.wrap (t17 - (1 : Int))).toNat <
 (u0.set t17.toNat
 [.str
 (gS (List.take 7 (List.drop 0 (u0.getD (IntKind.i64.wrap (t17 - (1 : Int))).toNat [])))
 0),
 .int .i64
 (gI (List.take 7 (List.drop 0 (u0.getD (IntKind.i64.wrap (t17 - (1 : Int))).toNat [])))
 1),
 .int .i64
 (gI (List.take 7 (List.drop 0 (u0.getD (IntKind.i64.wrap (t17 - (1 : Int))).toNat [])))
 2),
 .int .i64
 (gI (List.take 7 (List.drop 0 (u0.getD (IntKind.i64.wrap (t17 - (1 : Int))).toNat [])))
 3),
 .str
 (gS (List.take 7 (List.drop 0 (u0.getD (IntKind.i64.wrap (t17 - (1 : Int))).toNat [])))
 4),
 .sl SK.any 6
 (gR (List.take 7 (List.drop 0 (u0.getD (IntKind.i64.wrap (t17 - (1 : Int))).toNat [])))
 5),
 .sl SK.any 7
 (gR (List.take 7 (List.drop 0 (u0.getD (IntKind.i64.wrap (t17 - (1 : Int))).toNat [])))
 6)]).length)
 (L_slices_symMergeCmpFunc_Pair_29 t14 (IntKind.i64.wrap (t17 - (1 : Int))) ((u0.set t17.toNat
 [.str
 (gS (List.take 7 (List.drop 0 (u0.getD (IntKind.i64.wrap (t17 - (1 : Int))).toNat [])))
 0),
 .int .i64
 (gI (List.take 7 (List.drop 0 (u0.getD (IntKind.i64.wrap (t17 - (1 : Int))).toNat [])))
 1),
 .int .i64
 (gI (List.take 7 (List.drop 0 (u0.getD (IntKind.i64.wrap (t17 - (1 : Int))).toNat [])))
 2),
 .int .i64
 (gI (List.take 7 (List.drop 0 (u0.getD (IntKind.i64.wrap (t17 - (1 : Int))).toNat [])))
 3),
 .str
 (gS (List.take 7 (List.drop 0 (u0.getD (IntKind.i64.wrap (t17 - (1 : Int))).toNat [])))
 4),
 .sl SK.any 6
 (gR (List.take 7 (List.drop 0 (u0.getD (IntKind.i64.wrap (t17 - (1 : Int))).toNat [])))
 5),
 .sl SK.any 7
 (gR (List.take 7 (List.drop 0 (u0.getD (IntKind.i64.wrap (t17 - (1 : Int))).toNat [])))
 6)]).set
 (IntKind.i64.wrap (t17 - (1 : Int))).toNat
 [.str (gS (List.take 7 (List.drop 0 (u0.getD t17.toNat []))) 0),
 .int .i64 (gI (List.take 7 (List.drop 0 (u0.getD t17.toNat []))) 1),
 .int .i64 (gI (List.take 7 (List.drop 0 (u0.getD t17.toNat []))) 2),
 .int .i64 (gI (List.take 7 (List.drop 0 (u0.getD t17.toNat []))) 3),
 .str (gS (List.take 7 (List.drop 0 (u0.getD t17.toNat []))) 4),
 .sl SK.any 6 (gR (List.take 7 (List.drop 0 (u0.getD t17.toNat []))) 5),
 .sl SK.any 7 (gR (List.take 7 (List.drop 0 (u0.getD t17.toNat []))) 6)]) K)))))))))
 (K (.exit (6)) ⟨[], [(nA0, .arr 1 true 7 u0)]⟩))) : L_slices_symMergeCmpFunc_Pair_29 t14 t17 u0 K := loop_rule (envN E0 nt_slices_symMergeCmpFunc_Pair) (okE nt_slices_symMergeCmpFunc_Pair) 3 29 (lbodyOf 29 ac_slices_symMergeCmpFunc_Pair) [0, 14, 17] _ K rfl (kr (by kernel_rfl) h)
theorem C_slices_symMergeCmpFunc_Pair_53_of (t1 t3 : Int) (t18 t20 t24 : Int) (u0 : LL) (K : KK) (h :
 (Let (bif decide (t1 < t20) then decide (t20 < t18) else false) fun x0 =>
 Br (x0)
 (Call E0.P fn_slices_symMergeCmpFunc_Pair [(.own nA0), (Ai t1), (Ai t20), (Ai t18), (.fn fn_value_plainPairs_1 [])] [(nA0, .arr 1 true 7 u0)] fun r1 g1 =>
 Req (qV2 g1 r1)
 (C_slices_symMergeCmpFunc_Pair_55 t3 t18 t24 (arrRows g1 nA0) (K_slices_symMergeCmpFunc_Pair_3 K)))
 (C_slices_symMergeCmpFunc_Pair_55 t3 t18 t24 u0 (K_slices_symMergeCmpFunc_Pair_3 K)))) : C_slices_symMergeCmpFunc_Pair_53 t1 t3 t18 t20 t24 u0 K := cut_rule (envN E0 nt_slices_symMergeCmpFunc_Pair) (okE nt_slices_symMergeCmpFunc_Pair) 3 53 (cbodyOf 53 ac_slices_symMergeCmpFunc_Pair) [] _ K rfl (kr (by kernel_rfl) h)
theorem C_slices_symMergeCmpFunc_Pair_55_of (t3 t18 t24 : Int) (u0 : LL) (K : KK) (h :
 (Let (bif decide (t18 < t24) then decide (t24 < t3) else false) fun x0 =>
 Br (x0)
 (Call E0.P fn_slices_symMergeCmpFunc_Pair [(.own nA0), (Ai t18), (Ai t24), (Ai t3), (.fn fn_value_plainPairs_1 [])] [(nA0, .arr 1 true 7 u0)] fun r1 g1 =>
 Req (qV2 g1 r1)
 (K .normal ⟨[], [(nA0, .arr 1 true 7 (arrRows g1 nA0))]⟩))
 (K .normal ⟨[], [(nA0, .arr 1 true 7 u0)]⟩))) : C_slices_symMergeCmpFunc_Pair_55 t3 t18 t24 u0 K := cut_rule (envN E0 nt_slices_symMergeCmpFunc_Pair) (okE nt_slices_symMergeCmpFunc_Pair) 3 55 (cbodyOf 55 ac_slices_symMergeCmpFunc_Pair) [] _ K rfl (kr (by kernel_rfl) h)
theorem C_slices_symMergeCmpFunc_Pair_16_of (u0 : LL) (K : KK) (h :
 (K .ret ⟨[], [(nA0, .arr 1 true 7 u0)]⟩)) : C_slices_symMergeCmpFunc_Pair_16 u0 K := cut_rule (envN E0 nt_slices_symMergeCmpFunc_Pair) (okE nt_slices_symMergeCmpFunc_Pair) 3 16 (cbodyOf 16 ac_slices_symMergeCmpFunc_Pair) [0, 1, 2, 3, 4] _ K rfl (kr (by kernel_rfl) h)
theorem C_slices_symMergeCmpFunc_Pair_34_of (u0 : LL) (K : KK) (h :
 (K .ret ⟨[], [(nA0, .arr 1 true 7 u0)]⟩)) : C_slices_symMergeCmpFunc_Pair_34 u0 K := cut_rule (envN E0 nt_slices_symMergeCmpFunc_Pair) (okE nt_slices_symMergeCmpFunc_Pair) 3 34 (cbodyOf 34 ac_slices_symMergeCmpFunc_Pair) [0, 1, 2, 3, 4] _ K rfl (kr (by kernel_rfl) h)
theorem K_slices_symMergeCmpFunc_Pair_0_x0 (rows : LL) (Q : QQ) (u0 : LL) (h :
 (Q (.tup []) [(nA0, .arr 1 true 7 u0)])) : K_slices_symMergeCmpFunc_Pair_0 rows Q .ret ⟨[], [(nA0, .arr 1 true 7 u0)]⟩ := kr (by kernel_rfl) h
theorem K_slices_symMergeCmpFunc_Pair_0_x1 (rows : LL) (Q : QQ) (u0 : LL) (h :
 (Q (.tup []) [(nA0, .arr 1 true 7 u0)])) : K_slices_symMergeCmpFunc_Pair_0 rows Q .normal ⟨[], [(nA0, .arr 1 true 7 u0)]⟩ := kr (by kernel_rfl) h
theorem K_slices_symMergeCmpFunc_Pair_1_x0 (rows : LL) (Q : QQ) (u0 : LL) (h :
 (Q (.tup []) [(nA0, .arr 1 true 7 u0)])) : K_slices_symMergeCmpFunc_Pair_1 rows Q .ret ⟨[], [(nA0, .arr 1 true 7 u0)]⟩ := kr (by kernel_rfl) h
theorem K_slices_symMergeCmpFunc_Pair_2_x0 (rows : LL) (Q : QQ) (t1 t10 : Int) (u0 : LL) (h :
 (C_slices_symMergeCmpFunc_Pair_9 t1 t10 u0 (K_slices_symMergeCmpFunc_Pair_1 rows Q))) : K_slices_symMergeCmpFunc_Pair_2 rows Q (.exit 0) ⟨[(0, .own nA0), (1, (Ai t1)), (10, (Ai t10))], [(nA0, .arr 1 true 7 u0)]⟩ := kr (by kernel_rfl) h
theorem K_slices_symMergeCmpFunc_Pair_3_x0 (K : KK) (u0 : LL) (h :
 (K .normal ⟨[], [(nA0, .arr 1 true 7 u0)]⟩)) : K_slices_symMergeCmpFunc_Pair_3 K .normal ⟨[], [(nA0, .arr 1 true 7 u0)]⟩ := kr (by kernel_rfl) h
theorem K_slices_symMergeCmpFunc_Pair_4_x0 (K : KK) (u0 : LL) (h :
 (K .ret ⟨[], [(nA0, .arr 1 true 7 u0)]⟩)) : K_slices_symMergeCmpFunc_Pair_4 K .ret ⟨[], [(nA0, .arr 1 true 7 u0)]⟩ := kr (by kernel_rfl) h
theorem K_slices_symMergeCmpFunc_Pair_5_x0 (K : KK) (t2 t14 : Int) (u0 : LL) (h :
 (C_slices_symMergeCmpFunc_Pair_27 t2 t14 u0 (K_slices_symMergeCmpFunc_Pair_4 K))) : K_slices_symMergeCmpFunc_Pair_5 K (.exit (4)) ⟨[(0, .own nA0), (2, (Ai t2)), (14, (Ai t14))], [(nA0, .arr 1 true 7 u0)]⟩ := kr (by kernel_rfl) h
theorem K_slices_symMergeCmpFunc_Pair_6_x0 (K : KK) (t1 t2 : Int) (t3 t18 : Int) (t19 t20 : Int) (u0 : LL) (h :
 (C_slices_symMergeCmpFunc_Pair_50 t1 t2 t3 t18 t19 t20 u0 (K_slices_symMergeCmpFunc_Pair_3 K))) : K_slices_symMergeCmpFunc_Pair_6 K (.exit (8)) ⟨[(0, .own nA0), (1, (Ai t1)), (2, (Ai t2)), (3, (Ai t3)), (4, .fn fn_value_plainPairs_1 []), (18, (Ai t18)), (19, (Ai t19)), (20, (Ai t20))], [(nA0, .arr 1 true 7 u0)]⟩ := kr (by kernel_rfl) h
theorem K_slices_symMergeCmpFunc_Pair_7_x0 (K : KK) (u0 : LL) (h :
 (K .ret ⟨[], [(nA0, .arr 1 true 7 u0)]⟩)) : K_slices_symMergeCmpFunc_Pair_7 K .ret ⟨[], [(nA0, .arr 1 true 7 u0)]⟩ := kr (by kernel_rfl) h
theorem K_slices_symMergeCmpFunc_Pair_8_x0 (K : KK) (u0 : LL) (h :
 (C_slices_symMergeCmpFunc_Pair_16 u0 (K_slices_symMergeCmpFunc_Pair_7 K))) : K_slices_symMergeCmpFunc_Pair_8 K (.exit (2)) ⟨[], [(nA0, .arr 1 true 7 u0)]⟩ := kr (by kernel_rfl) h
theorem K_slices_symMergeCmpFunc_Pair_9_x0 (K : KK) (u0 : LL) (h :
 (C_slices_symMergeCmpFunc_Pair_34 u0 (K_slices_symMergeCmpFunc_Pair_7 K))) : K_slices_symMergeCmpFunc_Pair_9 K (.exit (6)) ⟨[], [(nA0, .arr 1 true 7 u0)]⟩ := kr (by kernel_rfl) h
theorem ok_slices_symMergeCmpFunc_Pair : FnOK E0.P 132 ac_slices_symMergeCmpFunc_Pair.code nt_slices_symMergeCmpFunc_Pair [] := fn_ok _ _ Try.f132 [(3, [0, 1, 4, 10, 11], []), (5, [0, 1, 10], []), (9, [0, 1, 10], [0, 1, 2, 3, 4]), (11, [0, 10, 13], []), (13, [], []), (16, [], [0, 1, 2, 3, 4]), (17, [0, 1, 2, 3, 4], []), (21, [0, 2, 4, 14, 15], []), (23, [0, 2, 14], []), (27, [0, 2, 14], [0, 1, 2, 3, 4]), (29, [0, 14, 17], []), (31, [], []), (34, [], [0, 1, 2, 3, 4]), (35, [0, 1, 2, 3, 4], []), (42, [0, 1, 2, 3, 4, 18, 19, 20, 21], []), (44, [0, 1, 2, 3, 4, 18, 19, 20, 21, 22], []), (46, [0, 1, 2, 3, 4, 18, 19, 20], []), (50, [0, 1, 2, 3, 4, 18, 19, 20], []), (53, [0, 1, 3, 4, 18, 20, 24], []), (55, [0, 3, 4, 18, 24], [])] [] _ 220 Try.func132 (by kernel_rfl) (by kernel_rfl) (by kernel_rfl) (by kernel_rfl)
theorem F_slices_symMergeCmpFunc_Pair_of (rows : LL) (a1 a2 a3 : Int) (Q : QQ) (h :
 (Br (decide (IntKind.i64.wrap (a2 - a1) = (1 : Int)))
 (L_slices_symMergeCmpFunc_Pair_3 a1 a2 a3 rows (K_slices_symMergeCmpFunc_Pair_2 rows Q))
 (C_slices_symMergeCmpFunc_Pair_17 a1 a2 a3 rows (K_slices_symMergeCmpFunc_Pair_0 rows Q)))) : Call E0.P fn_slices_symMergeCmpFunc_Pair [.own (.arg 0), (Ai a1), (Ai a2), (Ai a3), .fn fn_value_plainPairs_1 []] [(.arg 0, .arr 1 true 7 rows)] Q := fun_rule (envN E0 nt_slices_symMergeCmpFunc_Pair) (okE nt_slices_symMergeCmpFunc_Pair) 3 1 132 ac_slices_symMergeCmpFunc_Pair [] ok_slices_symMergeCmpFunc_Pair _ _ Q rfl rfl (kr (by kernel_rfl) h)
noncomputable def ac_slices_stableCmpFunc_Pair : AC := (annot [(2, [0, 1, 2, 6, 7, 8], []), (4, [0, 1, 2, 6, 7], []), (8, [0, 1, 2, 6, 7], []), (10, [0, 1, 2, 6], []), (12, [], []), (15, [0, 1, 2, 6, 7, 8], []), (17, [0, 1, 2, 6, 7], []), (21, [0, 1, 2, 6, 7], [0, 1, 2, 6]), (24, [0, 1, 2, 6], [0, 1, 2, 6])] [] (codeOf Try.f117) 0).1
abbrev nt_slices_stableCmpFunc_Pair : Nat := 63
def L_slices_stableCmpFunc_Pair_2 (t1 t6 : Int) (t7 t8 : Int) (u0 : LL) (K : KK) : Prop := LoopOK 2 E0.P nt_slices_stableCmpFunc_Pair (lbodyOf 2 ac_slices_stableCmpFunc_Pair).code ⟨[(0, .own nA0), (1, (Ai t1)), (2, .fn fn_value_plainPairs_1 []), (6, (Ai t6)), (7, (Ai t7)), (8, (Ai t8))], [(nA0, .arr 1 true 7 u0)]⟩ K
def C_slices_stableCmpFunc_Pair_8 (t1 t6 t7 : Int) (u0 : LL) (K : KK) : Prop := CutOK 8 E0.P nt_slices_stableCmpFunc_Pair (cbodyOf 8 ac_slices_stableCmpFunc_Pair).code ⟨[(0, .own nA0), (1, (Ai t1)), (2, .fn fn_value_plainPairs_1 []), (6, (Ai t6)), (7, (Ai t7))], [(nA0, .arr 1 true 7 u0)]⟩ K
def L_slices_stableCmpFunc_Pair_10 (t1 t6 : Int) (u0 : LL) (K : KK) : Prop := LoopOK 10 E0.P nt_slices_stableCmpFunc_Pair (lbodyOf 10 ac_slices_stableCmpFunc_Pair).code ⟨[(0, .own nA0), (1, (Ai t1)), (2, .fn fn_value_plainPairs_1 []), (6, (Ai t6))], [(nA0, .arr 1 true 7 u0)]⟩ K
def L_slices_stableCmpFunc_Pair_15 (t1 t6 : Int) (t7 t8 : Int) (u0 : LL) (K : KK) : Prop := LoopOK 15 E0.P nt_slices_stableCmpFunc_Pair (lbodyOf 15 ac_slices_stableCmpFunc_Pair).code ⟨[(0, .own nA0), (1, (Ai t1)), (2, .fn fn_value_plainPairs_1 []), (6, (Ai t6)), (7, (Ai t7)), (8, (Ai t8))], [(nA0, .arr 1 true 7 u0)]⟩ K
def C_slices_stableCmpFunc_Pair_21 (t1 t6 t7 : Int) (u0 : LL) (K : KK) : Prop := CutOK 21 E0.P nt_slices_stableCmpFunc_Pair (cbodyOf 21 ac_slices_stableCmpFunc_Pair).code ⟨[(0, .own nA0), (1, (Ai t1)), (2, .fn fn_value_plainPairs_1 []), (6, (Ai t6)), (7, (Ai t7))], [(nA0, .arr 1 true 7 u0)]⟩ K
def C_slices_stableCmpFunc_Pair_24 (t1 t6 : Int) (u0 : LL) (K : KK) : Prop := CutOK 24 E0.P nt_slices_stableCmpFunc_Pair (cbodyOf 24 ac_slices_stableCmpFunc_Pair).code ⟨[(0, .own nA0), (1, (Ai t1)), (2, .fn fn_value_plainPairs_1 []), (6, (Ai t6))], [(nA0, .arr 1 true 7 u0)]⟩ K
def K_slices_stableCmpFunc_Pair_0 (rows : LL) (Q : QQ) : KK := kE fun st => finish (1) E0.T [] [(nA0, .arr 1 true 7 rows)] Q st
def K_slices_stableCmpFunc_Pair_1 (rows : LL) (Q : QQ) : KK := kF 0 (fun st => CutOK 8 E0.P nt_slices_stableCmpFunc_Pair (cbodyOf 8 ac_slices_stableCmpFunc_Pair).code (mask [0, 1, 2, 6, 7] st) (K_slices_stableCmpFunc_Pair_0 rows Q)) fun st => finish (1) E0.T [] [(nA0, .arr 1 true 7 rows)] Q st
def K_slices_stableCmpFunc_Pair_2 (K : KK) : KK := kC 2 (fun st => K .normal (mask [] st)) K
def K_slices_stableCmpFunc_Pair_3 (K : KK) : KK := kC 3 (fun st => LoopOK 10 E0.P nt_slices_stableCmpFunc_Pair (lbodyOf 10 ac_slices_stableCmpFunc_Pair).code (mask [0, 1, 2, 6] st) K) K
def K_slices_stableCmpFunc_Pair_4 (K : KK) : Ex → St → Prop
 | .normal, st => CutOK 21 E0.P nt_slices_stableCmpFunc_Pair (cbodyOf 21 ac_slices_stableCmpFunc_Pair).code (mask [0, 1, 2, 6, 7] st) (K_slices_stableCmpFunc_Pair_3 K)
 | .exit i, st => (match (i.beq 4 : Bool) with
 | true => CutOK 21 E0.P nt_slices_stableCmpFunc_Pair (cbodyOf 21 ac_slices_stableCmpFunc_Pair).code (mask [0, 1, 2, 6, 7] st) (K_slices_stableCmpFunc_Pair_3 K)
 | false => (match (i.beq 3 : Bool) with
 | true => LoopOK 10 E0.P nt_slices_stableCmpFunc_Pair (lbodyOf 10 ac_slices_stableCmpFunc_Pair).code (mask [0, 1, 2, 6] st) K
 | false => K (.exit i) st))
 | .goto i, st => K (.goto i) st
 | .ret, st => K .ret st
def K_slices_stableCmpFunc_Pair_5 (K : KK) : KK := kP [0, 1, 2, 6] K
theorem L_slices_stableCmpFunc_Pair_2_of (t1 t6 : Int) (t7 t8 : Int) (u0 : LL) (K : KK) (h :
 (Br (decide (t8 ≤ t1))
 (Call E0.P fn_slices_insertionSortCmpFunc_Pair [(.own nA0), (Ai t7), (Ai t8), (.fn fn_value_plainPairs_1 [])] [(nA0, .arr 1 true 7 u0)] fun r0 g0 =>
 Req (qV2 g0 r0)
 (L_slices_stableCmpFunc_Pair_2 t1 t6 t8 (IntKind.i64.wrap (t8 + t6)) (arrRows g0 nA0) K))
 (K (.exit 0) ⟨[(0, .own nA0), (1, (Ai t1)), (2, .fn fn_value_plainPairs_1 []), (6, (Ai t6)), (7, (Ai t7))], [(nA0, .arr 1 true 7 u0)]⟩))) : L_slices_stableCmpFunc_Pair_2 t1 t6 t7 t8 u0 K := loop_rule (envN E0 nt_slices_stableCmpFunc_Pair) (okE nt_slices_stableCmpFunc_Pair) 3 2 (lbodyOf 2 ac_slices_stableCmpFunc_Pair) [0, 1, 2, 6, 7, 8] _ K rfl (kr (by kernel_rfl) h)
theorem C_slices_stableCmpFunc_Pair_8_of (t1 t6 t7 : Int) (u0 : LL) (K : KK) (h :
 (Call E0.P fn_slices_insertionSortCmpFunc_Pair [(.own nA0), (Ai t7), (Ai t1), (.fn fn_value_plainPairs_1 [])] [(nA0, .arr 1 true 7 u0)] fun r0 g0 =>
 Req (qV2 g0 r0)
 (L_slices_stableCmpFunc_Pair_10 t1 t6 (arrRows g0 nA0) (K_slices_stableCmpFunc_Pair_2 K)))) : C_slices_stableCmpFunc_Pair_8 t1 t6 t7 u0 K := cut_rule (envN E0 nt_slices_stableCmpFunc_Pair) (okE nt_slices_stableCmpFunc_Pair) 3 8 (cbodyOf 8 ac_slices_stableCmpFunc_Pair) [] _ K rfl (kr (by kernel_rfl) h)
theorem L_slices_stableCmpFunc_Pair_10_of (t1 t6 : Int) (u0 : LL) (K : KK) (h :
 (Br (decide (t6 < t1))
 (L_slices_stableCmpFunc_Pair_15 t1 t6 ((0 : Int)) (IntKind.i64.wrap ((2 : Int) * t6)) u0 (K_slices_stableCmpFunc_Pair_4 K))
 (K (.exit (2)) ⟨[], [(nA0, .arr 1 true 7 u0)]⟩))) : L_slices_stableCmpFunc_Pair_10 t1 t6 u0 K := loop_rule (envN E0 nt_slices_stableCmpFunc_Pair) (okE nt_slices_stableCmpFunc_Pair) 3 10 (lbodyOf 10 ac_slices_stableCmpFunc_Pair) [0, 1, 2, 6] _ K rfl (kr (by kernel_rfl) h)
theorem L_slices_stableCmpFunc_Pair_15_of (t1 t6 : Int) (t7 t8 : Int) (u0 : LL) (K : KK) (h :
 (Br (decide (t8 ≤ t1))
 (Call E0.P fn_slices_symMergeCmpFunc_Pair [(.own nA0), (Ai t7), (Ai (IntKind.i64.wrap (t7 + t6))), (Ai t8), (.fn fn_value_plainPairs_1 [])] [(nA0, .arr 1 true 7 u0)] fun r0 g0 =>
 Req (qV2 g0 r0)
 (L_slices_stableCmpFunc_Pair_15 t1 t6 t8 (IntKind.i64.wrap (t8 + IntKind.i64.wrap ((2 : Int) * t6))) (arrRows g0 nA0) K))
 (K (.exit (4)) ⟨[(0, .own nA0), (1, (Ai t1)), (2, .fn fn_value_plainPairs_1 []), (6, (Ai t6)), (7, (Ai t7))], [(nA0, .arr 1 true 7 u0)]⟩))) : L_slices_stableCmpFunc_Pair_15 t1 t6 t7 t8 u0 K := loop_rule (envN E0 nt_slices_stableCmpFunc_Pair) (okE nt_slices_stableCmpFunc_Pair) 3 15 (lbodyOf 15 ac_slices_stableCmpFunc_Pair) [0, 1, 2, 6, 7, 8] _ K rfl (kr (by kernel_rfl) h)
theorem C_slices_stableCmpFunc_Pair_21_of (t1 t6 t7 : Int) (u0 : LL) (K : KK) (h :
 (Br (decide (IntKind.i64.wrap (t7 + t6) < t1))
 (Call E0.P fn_slices_symMergeCmpFunc_Pair [(.own nA0), (Ai t7), (Ai (IntKind.i64.wrap (t7 + t6))), (Ai t1), (.fn fn_value_plainPairs_1 [])] [(nA0, .arr 1 true 7 u0)] fun r0 g0 =>
 Req (qV2 g0 r0)
 (C_slices_stableCmpFunc_Pair_24 t1 t6 (arrRows g0 nA0) (K_slices_stableCmpFunc_Pair_5 K)))
 (C_slices_stableCmpFunc_Pair_24 t1 t6 u0 (K_slices_stableCmpFunc_Pair_5 K)))) : C_slices_stableCmpFunc_Pair_21 t1 t6 t7 u0 K := cut_rule (envN E0 nt_slices_stableCmpFunc_Pair) (okE nt_slices_stableCmpFunc_Pair) 3 21 (cbodyOf 21 ac_slices_stableCmpFunc_Pair) [0, 1, 2, 6] _ K rfl (kr (by kernel_rfl) h)
theorem C_slices_stableCmpFunc_Pair_24_of (t1 t6 : Int) (u0 : LL) (K : KK) (h :
 (K .normal ⟨[(0, .own nA0), (1, (Ai t1)), (2, .fn fn_value_plainPairs_1 []), (6, (Ai (IntKind.i64.wrap (t6 * (2 : Int)))))], [(nA0, .arr 1 true 7 u0)]⟩)) : C_slices_stableCmpFunc_Pair_24 t1 t6 u0 K := cut_rule (envN E0 nt_slices_stableCmpFunc_Pair) (okE nt_slices_stableCmpFunc_Pair) 3 24 (cbodyOf 24 ac_slices_stableCmpFunc_Pair) [0, 1, 2, 6] _ K rfl (kr (by kernel_rfl) h)
theorem K_slices_stableCmpFunc_Pair_0_x0 (rows : LL) (Q : QQ) (u0 : LL) (h :
 (Q (.tup []) [(nA0, .arr 1 true 7 u0)])) : K_slices_stableCmpFunc_Pair_0 rows Q .normal ⟨[], [(nA0, .arr 1 true 7 u0)]⟩ := kr (by kernel_rfl) h
theorem K_slices_stableCmpFunc_Pair_1_x0 (rows : LL) (Q : QQ) (t1 t6 t7 : Int) (u0 : LL) (h :
 (C_slices_stableCmpFunc_Pair_8 t1 t6 t7 u0 (K_slices_stableCmpFunc_Pair_0 rows Q))) : K_slices_stableCmpFunc_Pair_1 rows Q (.exit 0) ⟨[(0, .own nA0), (1, (Ai t1)), (2, .fn fn_value_plainPairs_1 []), (6, (Ai t6)), (7, (Ai t7))], [(nA0, .arr 1 true 7 u0)]⟩ := kr (by kernel_rfl) h
theorem K_slices_stableCmpFunc_Pair_2_x0 (K : KK) (u0 : LL) (h :
 (K .normal ⟨[], [(nA0, .arr 1 true 7 u0)]⟩)) : K_slices_stableCmpFunc_Pair_2 K (.exit (2)) ⟨[], [(nA0, .arr 1 true 7 u0)]⟩ := kr (by kernel_rfl) h
theorem K_slices_stableCmpFunc_Pair_3_x0 (K : KK) (t1 t6 : Int) (u0 : LL) (h :
 (L_slices_stableCmpFunc_Pair_10 t1 t6 u0 K)) : K_slices_stableCmpFunc_Pair_3 K .normal ⟨[(0, .own nA0), (1, (Ai t1)), (2, .fn fn_value_plainPairs_1 []), (6, (Ai t6))], [(nA0, .arr 1 true 7 u0)]⟩ := kr (by kernel_rfl) h
theorem K_slices_stableCmpFunc_Pair_4_x0 (K : KK) (t1 t6 t7 : Int) (u0 : LL) (h :
 (C_slices_stableCmpFunc_Pair_21 t1 t6 t7 u0 (K_slices_stableCmpFunc_Pair_3 K))) : K_slices_stableCmpFunc_Pair_4 K (.exit (4)) ⟨[(0, .own nA0), (1, (Ai t1)), (2, .fn fn_value_plainPairs_1 []), (6, (Ai t6)), (7, (Ai t7))], [(nA0, .arr 1 true 7 u0)]⟩ := kr (by kernel_rfl) h
theorem K_slices_stableCmpFunc_Pair_5_x0 (K : KK) (t1 t6 : Int) (u0 : LL) (h :
 (K .normal ⟨[(0, .own nA0), (1, (Ai t1)), (2, .fn fn_value_plainPairs_1 []), (6, (Ai t6))], [(nA0, .arr 1 true 7 u0)]⟩)) : K_slices_stableCmpFunc_Pair_5 K .normal ⟨[(0, .own nA0), (1, (Ai t1)), (2, .fn fn_value_plainPairs_1 []), (6, (Ai t6))], [(nA0, .arr 1 true 7 u0)]⟩ := kr (by kernel_rfl) h
theorem ok_slices_stableCmpFunc_Pair : FnOK E0.P 117 ac_slices_stableCmpFunc_Pair.code nt_slices_stableCmpFunc_Pair [] := fn_ok _ _ Try.f117 [(2, [0, 1, 2, 6, 7, 8], []), (4, [0, 1, 2, 6, 7], []), (8, [0, 1, 2, 6, 7], []), (10, [0, 1, 2, 6], []), (12, [], []), (15, [0, 1, 2, 6, 7, 8], []), (17, [0, 1, 2, 6, 7], []), (21, [0, 1, 2, 6, 7], [0, 1, 2, 6]), (24, [0, 1, 2, 6], [0, 1, 2, 6])] [] _ 63 Try.func117 (by kernel_rfl) (by kernel_rfl) (by kernel_rfl) (by kernel_rfl)
theorem F_slices_stableCmpFunc_Pair_of (rows : LL) (a1 : Int) (Q : QQ) (h :
 (L_slices_stableCmpFunc_Pair_2 a1 ((20 : Int)) ((0 : Int)) ((20 : Int)) rows (K_slices_stableCmpFunc_Pair_1 rows Q))) : Call E0.P fn_slices_stableCmpFunc_Pair [.own (.arg 0), (Ai a1), .fn fn_value_plainPairs_1 []] [(.arg 0, .arr 1 true 7 rows)] Q := fun_rule (envN E0 nt_slices_stableCmpFunc_Pair) (okE nt_slices_stableCmpFunc_Pair) 3 1 117 ac_slices_stableCmpFunc_Pair [] ok_slices_stableCmpFunc_Pair _ _ Q rfl rfl (kr (by kernel_rfl) h)
noncomputable def ac_slices_SortStableFunc_Pair : AC := (annot [] [] (codeOf Try.f95) 0).1
abbrev nt_slices_SortStableFunc_Pair : Nat := 9
theorem ok_slices_SortStableFunc_Pair : FnOK E0.P 95 ac_slices_SortStableFunc_Pair.code nt_slices_SortStableFunc_Pair [] := fn_ok _ _ Try.f95 [] [] _ 9 Try.func95 (by kernel_rfl) (by kernel_rfl) (by kernel_rfl) (by kernel_rfl)
theorem F_slices_SortStableFunc_Pair_of (rows : LL) (Q : QQ) (h :
 (Call E0.P fn_slices_stableCmpFunc_Pair [(.own nA0), (Ai ((↑rows.length : Int))), (.fn fn_value_plainPairs_1 [])] [(nA0, .arr 1 true 7 rows)] fun r0 g0 =>
 Req (qV2 g0 r0)
 (Q (.tup []) [(nA0, .arr 1 true 7 (arrRows g0 nA0))]))) : Call E0.P fn_slices_SortStableFunc_Pair [.own (.arg 0), .fn fn_value_plainPairs_1 []] [(.arg 0, .arr 1 true 7 rows)] Q := fun_rule (envN E0 nt_slices_SortStableFunc_Pair) (okE nt_slices_SortStableFunc_Pair) 3 1 95 ac_slices_SortStableFunc_Pair [] ok_slices_SortStableFunc_Pair _ _ Q rfl rfl (kr (by kernel_rfl) h)
noncomputable def ac_slices_Clone_Pair : AC := (annot [] [2] (codeOf Try.f94) 0).1
abbrev nt_slices_Clone_Pair : Nat := 8
theorem ok_slices_Clone_Pair : FnOK E0.P 94 ac_slices_Clone_Pair.code nt_slices_Clone_Pair [.tmp 2] := fn_ok _ _ Try.f94 [] [2] _ 8 Try.func94 (by kernel_rfl) (by kernel_rfl) (by kernel_rfl) (by kernel_rfl)
theorem F_slices_Clone_Pair_of (a0 : LL) (Q : QQ) (h :
 (Poss (a0 = [])
 (Br (!false)
 (Q (.own nL0) ([] ++ [(Nm.loc 0, Entry.arr 0 true 7 [])]))
 (Req ((0 + a0.length) * 104 ≤ 140737488355328 ∧ 0 + a0.length ≤ 140737488355328)
 (Q (.own nL0) ([] ++ [(Nm.loc 0, Entry.arr 0 true 7 ([] ++ a0))]))))
 (Br (false)
 (Q (.own nL0) ([] ++ [(Nm.loc 0, Entry.arr 0 true 7 [])]))
 (Req ((0 + a0.length) * 104 ≤ 140737488355328 ∧ 0 + a0.length ≤ 140737488355328)
 (Q (.own nL0) ([] ++ [(Nm.loc 0, Entry.arr 0 true 7 ([] ++ a0))])))))) : Call E0.P fn_slices_Clone_Pair [(Al 7 a0)] [] Q := fun_rule (envN E0 nt_slices_Clone_Pair) (okE nt_slices_Clone_Pair) 3 2 94 ac_slices_Clone_Pair [.tmp 2] ok_slices_Clone_Pair _ _ Q rfl rfl (kr (by kernel_rfl) h)
noncomputable def ac_slices_CompactFunc_Pair : AC := (annot [(5, [0, 1, 5], []), (7, [0], []), (12, [0, 1, 5, 6, 7], []), (14, [0, 5], []), (18, [0, 1, 5, 6, 7], [0, 1, 5, 6, 7]), (19, [0, 5], [0, 1, 5]), (22, [0, 1, 5], [0, 1, 5]), (23, [0], [])] [4] (codeOf Try.f98) 0).1
abbrev nt_slices_CompactFunc_Pair : Nat := 66
def L_slices_CompactFunc_Pair_5 (t5 : Int) (u0 : LL) (K : KK) : Prop := LoopOK 5 E0.P nt_slices_CompactFunc_Pair (lbodyOf 5 ac_slices_CompactFunc_Pair).code ⟨[(0, .own nA0), (1, .fn fn_value_plainPairs_2 []), (5, (Ai t5))], [(nA0, .arr 1 true 7 u0)]⟩ K
def L_slices_CompactFunc_Pair_12 (t5 : Int) (t6_2 t6_3 : Nat) (t7 : Int) (u0 : LL) (K : KK) : Prop := LoopOK 12 E0.P nt_slices_CompactFunc_Pair (lbodyOf 12 ac_slices_CompactFunc_Pair).code ⟨[(0, .own nA0), (1, .fn fn_value_plainPairs_2 []), (5, (Ai t5)), (6, .win nA0 7 t6_2 t6_3), (7, (Ai t7))], [(nA0, .arr 1 true 7 u0)]⟩ K
def C_slices_CompactFunc_Pair_22 (t5 : Int) (u0 : LL) (K : KK) : Prop := CutOK 22 E0.P nt_slices_CompactFunc_Pair (cbodyOf 22 ac_slices_CompactFunc_Pair).code ⟨[(0, .own nA0), (1, .fn fn_value_plainPairs_2 []), (5, (Ai t5))], [(nA0, .arr 1 true 7 u0)]⟩ K
def C_slices_CompactFunc_Pair_18 (t5 : Int) (t6_2 t6_3 : Nat) (t7 : Int) (u0 : LL) (K : KK) : Prop := CutOK 18 E0.P nt_slices_CompactFunc_Pair (cbodyOf 18 ac_slices_CompactFunc_Pair).code ⟨[(0, .own nA0), (1, .fn fn_value_plainPairs_2 []), (5, (Ai t5)), (6, .win nA0 7 t6_2 t6_3), (7, (Ai t7))], [(nA0, .arr 1 true 7 u0)]⟩ K
def C_slices_CompactFunc_Pair_23 (u0 : LL) (K : KK) : Prop := CutOK 23 E0.P nt_slices_CompactFunc_Pair (cbodyOf 23 ac_slices_CompactFunc_Pair).code ⟨[(0, .own nA0)], [(nA0, .arr 1 true 7 u0)]⟩ K
def C_slices_CompactFunc_Pair_19 (t5 : Int) (u0 : LL) (K : KK) : Prop := CutOK 19 E0.P nt_slices_CompactFunc_Pair (cbodyOf 19 ac_slices_CompactFunc_Pair).code ⟨[(0, .own nA0), (5, (Ai t5))], [(nA0, .arr 1 true 7 u0)]⟩ K
def K_slices_CompactFunc_Pair_0 (rows : LL) (Q : QQ) : KK := kE fun st => finish (1) E0.T [.tmp 4] [(nA0, .arr 1 true 7 rows)] Q st
def K_slices_CompactFunc_Pair_1 (rows : LL) (Q : QQ) : KK := kF 0 (fun st => CutOK 23 E0.P nt_slices_CompactFunc_Pair (cbodyOf 23 ac_slices_CompactFunc_Pair).code (mask [0] st) (K_slices_CompactFunc_Pair_0 rows Q)) fun st => finish (1) E0.T [.tmp 4] [(nA0, .arr 1 true 7 rows)] Q st
def K_slices_CompactFunc_Pair_2 (K : KK) : Ex → St → Prop
 | .normal, st => LoopOK 5 E0.P nt_slices_CompactFunc_Pair (lbodyOf 5 ac_slices_CompactFunc_Pair).code (mask [0, 1, 5] st) K
 | .exit i, st => K (.exit i) st
 | .goto i, st => K (.goto i) st
 | .ret, st => K .ret st
def K_slices_CompactFunc_Pair_3 (K : KK) : KK := kC 1 (fun st => CutOK 22 E0.P nt_slices_CompactFunc_Pair (cbodyOf 22 ac_slices_CompactFunc_Pair).code (mask [0, 1, 5] st) (K_slices_CompactFunc_Pair_2 K)) K
def K_slices_CompactFunc_Pair_4 (K : KK) : Ex → St → Prop
 | .normal, st => CutOK 19 E0.P nt_slices_CompactFunc_Pair (cbodyOf 19 ac_slices_CompactFunc_Pair).code (mask [0, 5] st) (K_slices_CompactFunc_Pair_3 K)
 | .exit i, st => (match (i.beq 2 : Bool) with
 | true => CutOK 19 E0.P nt_slices_CompactFunc_Pair (cbodyOf 19 ac_slices_CompactFunc_Pair).code (mask [0, 5] st) (K_slices_CompactFunc_Pair_3 K)
 | false => (match (i.beq 1 : Bool) with
 | true => CutOK 22 E0.P nt_slices_CompactFunc_Pair (cbodyOf 22 ac_slices_CompactFunc_Pair).code (mask [0, 1, 5] st) (K_slices_CompactFunc_Pair_2 K)
 | false => K (.exit i) st))
 | .goto i, st => K (.goto i) st
 | .ret, st => K .ret st
def K_slices_CompactFunc_Pair_5 (K : KK) : Ex → St → Prop
 | .normal, st => LoopOK 12 E0.P nt_slices_CompactFunc_Pair (lbodyOf 12 ac_slices_CompactFunc_Pair).code (mask [0, 1, 5, 6, 7] st) K
 | .exit i, st => K (.exit i) st
 | .goto i, st => K (.goto i) st
 | .ret, st => K .ret st
theorem L_slices_CompactFunc_Pair_5_of (t5 : Int) (u0 : LL) (K : KK) (h :
 (Br (decide (t5 < (↑u0.length : Int)))
 (Req ((0 : Int) ≤ t5 ∧ t5 < (↑u0.length : Int))
 (Req (t5.toNat < u0.length ∧
 shOK
 [.str, .int .i64, .int .i64, .int .i64, .str, .sl 6 ty_api_Value,
 .sl 7 ty_api_Pair]
 (List.take 7 (List.drop 0 (u0.getD t5.toNat []))) =
 true)
 (Req ((0 : Int) ≤ IntKind.i64.wrap (t5 - (1 : Int)) ∧ IntKind.i64.wrap (t5 - (1 : Int)) < (↑u0.length : Int))
 (Req ((IntKind.i64.wrap (t5 - (1 : Int))).toNat < u0.length ∧
 shOK
 [.str, .int .i64, .int .i64, .int .i64, .str, .sl 6 ty_api_Value,
 .sl 7 ty_api_Pair]
 (List.take 7 (List.drop 0 (u0.getD (IntKind.i64.wrap (t5 - (1 : Int))).toNat []))) =
 true)
 (Call E0.P fn_value_plainPairs_2 [(.imm (.agg [(.str (gS (List.take 7 (List.drop 0 (u0.getD t5.toNat []))) 0)), (.int .i64 (gI (List.take 7 (List.drop 0 (u0.getD t5.toNat []))) 1)), (.int .i64 (gI (List.take 7 (List.drop 0 (u0.getD t5.toNat []))) 2)), (.int .i64 (gI (List.take 7 (List.drop 0 (u0.getD t5.toNat []))) 3)), (.str (gS (List.take 7 (List.drop 0 (u0.getD t5.toNat []))) 4)), (.sl .any 6 (gR (List.take 7 (List.drop 0 (u0.getD t5.toNat []))) 5)), (.sl .any 7 (gR (List.take 7 (List.drop 0 (u0.getD t5.toNat []))) 6))])), (.imm (.agg [(.str (gS (List.take 7 (List.drop 0 (u0.getD (IntKind.i64.wrap (t5 - (1 : Int))).toNat []))) 0)), (.int .i64 (gI (List.take 7 (List.drop 0 (u0.getD (IntKind.i64.wrap (t5 - (1 : Int))).toNat []))) 1)), (.int .i64 (gI (List.take 7 (List.drop 0 (u0.getD (IntKind.i64.wrap (t5 - (1 : Int))).toNat []))) 2)), (.int .i64 (gI (List.take 7 (List.drop 0 (u0.getD (IntKind.i64.wrap (t5 - (1 : Int))).toNat []))) 3)), (.str (gS (List.take 7 (List.drop 0 (u0.getD (IntKind.i64.wrap (t5 - (1 : Int))).toNat []))) 4)), (.sl .any 6 (gR (List.take 7 (List.drop 0 (u0.getD (IntKind.i64.wrap (t5 - (1 : Int))).toNat []))) 5)), (.sl .any 7 (gR (List.take 7 (List.drop 0 (u0.getD (IntKind.i64.wrap (t5 - (1 : Int))).toNat []))) 6))]))] [] fun r0 g0 =>
 Req (qV0 g0 r0)
 (Br (rB r0)
 (Req ((0 : Int) ≤ t5 ∧ t5 ≤ (↑u0.length : Int))
 (L_slices_CompactFunc_Pair_12 t5 t5.toNat (u0.length - t5.toNat) ((1 : Int)) u0 (K_slices_CompactFunc_Pair_4 K)))
 (C_slices_CompactFunc_Pair_22 t5 u0 (K_slices_CompactFunc_Pair_2 K))))))))
 (K (.exit 0) ⟨[(0, .own nA0)], [(nA0, .arr 1 true 7 u0)]⟩))) : L_slices_CompactFunc_Pair_5 t5 u0 K := loop_rule (envN E0 nt_slices_CompactFunc_Pair) (okE nt_slices_CompactFunc_Pair) 3 5 (lbodyOf 5 ac_slices_CompactFunc_Pair) [0, 1, 5] _ K rfl (kr (by kernel_rfl) h)
theorem L_slices_CompactFunc_Pair_12_of (t5 : Int) (t6_2 t6_3 : Nat) (t7 : Int) (u0 : LL) (K : KK) (h :
 (Br (decide (t7 < (↑t6_3 : Int)))
 (Req ((0 : Int) ≤ t7 ∧ t7 < (↑t6_3 : Int))
 (Req (addN t6_2 t7.toNat < u0.length ∧
 shOK
 [.str, .int .i64, .int .i64, .int .i64, .str, .sl 6 ty_api_Value,
 .sl 7 ty_api_Pair]
 (List.take 7 (List.drop 0 (u0.getD (addN t6_2 t7.toNat) []))) =
 true)
 (Req ((0 : Int) ≤ IntKind.i64.wrap (t7 - (1 : Int)) ∧ IntKind.i64.wrap (t7 - (1 : Int)) < (↑t6_3 : Int))
 (Req (addN t6_2 (IntKind.i64.wrap (t7 - (1 : Int))).toNat < u0.length ∧
 shOK
 [.str, .int .i64, .int .i64, .int .i64, .str, .sl 6 ty_api_Value,
 .sl 7 ty_api_Pair]
 (List.take 7 (List.drop 0 (u0.getD (addN t6_2 (IntKind.i64.wrap (t7 - (1 : Int))).toNat) []))) =
 true)
 (Call E0.P fn_value_plainPairs_2 [(.imm (.agg [(.str (gS (List.take 7 (List.drop 0 (u0.getD (addN t6_2 t7.toNat) []))) 0)), (.int .i64 (gI (List.take 7 (List.drop 0 (u0.getD (addN t6_2 t7.toNat) []))) 1)), (.int .i64 (gI (List.take 7 (List.drop 0 (u0.getD (addN t6_2 t7.toNat) []))) 2)), (.int .i64 (gI (List.take 7 (List.drop 0 (u0.getD (addN t6_2 t7.toNat) []))) 3)), (.str (gS (List.take 7 (List.drop 0 (u0.getD (addN t6_2 t7.toNat) []))) 4)), (.sl .any 6 (gR (List.take 7 (List.drop 0 (u0.getD (addN t6_2 t7.toNat) []))) 5)), (.sl .any 7 (gR (List.take 7 (List.drop 0 (u0.getD (addN t6_2 t7.toNat) []))) 6))])), (.imm (.agg [(.str (gS (List.take 7 (List.drop 0 (u0.getD (addN t6_2 (IntKind.i64.wrap (t7 - (1 : Int))).toNat) [])))
 0)), (.int .i64 (gI (List.take 7 (List.drop 0 (u0.getD (addN t6_2 (IntKind.i64.wrap (t7 - (1 : Int))).toNat) [])))
 1)), (.int .i64 (gI (List.take 7 (List.drop 0 (u0.getD (addN t6_2 (IntKind.i64.wrap (t7 - (1 : Int))).toNat) [])))
 2)), (.int .i64 (gI (List.take 7 (List.drop 0 (u0.getD (addN t6_2 (IntKind.i64.wrap (t7 - (1 : Int))).toNat) [])))
 3)), (.str (gS (List.take 7 (List.drop 0 (u0.getD (addN t6_2 (IntKind.i64.wrap (t7 - (1 : Int))).toNat) [])))
 4)), (.sl .any 6 (gR (List.take 7 (List.drop 0 (u0.getD (addN t6_2 (IntKind.i64.wrap (t7 - (1 : Int))).toNat) [])))
 5)), (.sl .any 7 (gR (List.take 7 (List.drop 0 (u0.getD (addN t6_2 (IntKind.i64.wrap (t7 - (1 : Int))).toNat) [])))
 6))]))] [] fun r0 g0 =>
 Req (qV0 g0 r0)
 (Br (!rB r0)
 (Req ((0 : Int) ≤ t7 ∧ t7 < (↑t6_3 : Int))
 (Req (addN t6_2 t7.toNat < u0.length ∧
 shOK
 [.str, .int .i64, .int .i64, .int .i64, .str, .sl 6 ty_api_Value,
 .sl 7 ty_api_Pair]
 (List.take 7 (List.drop 0 (u0.getD (addN t6_2 t7.toNat) []))) =
 true)
 (Req ((0 : Int) ≤ t5 ∧ t5 < (↑u0.length : Int))
 (Req (t5.toNat < u0.length)
 (C_slices_CompactFunc_Pair_18 (IntKind.i64.wrap (t5 + (1 : Int))) t6_2 t6_3 t7 (u0.set t5.toNat
 [.str (gS (List.take 7 (List.drop 0 (u0.getD (addN t6_2 t7.toNat) []))) 0),
 .int .i64 (gI (List.take 7 (List.drop 0 (u0.getD (addN t6_2 t7.toNat) []))) 1),
 .int .i64 (gI (List.take 7 (List.drop 0 (u0.getD (addN t6_2 t7.toNat) []))) 2),
 .int .i64 (gI (List.take 7 (List.drop 0 (u0.getD (addN t6_2 t7.toNat) []))) 3),
 .str (gS (List.take 7 (List.drop 0 (u0.getD (addN t6_2 t7.toNat) []))) 4),
 .sl SK.any 6
 (gR (List.take 7 (List.drop 0 (u0.getD (addN t6_2 t7.toNat) []))) 5),
 .sl SK.any 7
 (gR (List.take 7 (List.drop 0 (u0.getD (addN t6_2 t7.toNat) []))) 6)]) (K_slices_CompactFunc_Pair_5 K))))))
 (C_slices_CompactFunc_Pair_18 t5 t6_2 t6_3 t7 u0 (K_slices_CompactFunc_Pair_5 K))))))))
 (K (.exit (2)) ⟨[(0, .own nA0), (5, (Ai t5))], [(nA0, .arr 1 true 7 u0)]⟩))) : L_slices_CompactFunc_Pair_12 t5 t6_2 t6_3 t7 u0 K := loop_rule (envN E0 nt_slices_CompactFunc_Pair) (okE nt_slices_CompactFunc_Pair) 3 12 (lbodyOf 12 ac_slices_CompactFunc_Pair) [0, 1, 5, 6, 7] _ K rfl (kr (by kernel_rfl) h)
theorem C_slices_CompactFunc_Pair_22_of (t5 : Int) (u0 : LL) (K : KK) (h :
 (K .normal ⟨[(0, .own nA0), (1, .fn fn_value_plainPairs_2 []), (5, (Ai (IntKind.i64.wrap (t5 + (1 : Int)))))], [(nA0, .arr 1 true 7 u0)]⟩)) : C_slices_CompactFunc_Pair_22 t5 u0 K := cut_rule (envN E0 nt_slices_CompactFunc_Pair) (okE nt_slices_CompactFunc_Pair) 3 22 (cbodyOf 22 ac_slices_CompactFunc_Pair) [0, 1, 5] _ K rfl (kr (by kernel_rfl) h)
theorem C_slices_CompactFunc_Pair_18_of (t5 : Int) (t6_2 t6_3 : Nat) (t7 : Int) (u0 : LL) (K : KK) (h :
 (K .normal ⟨[(0, .own nA0), (1, .fn fn_value_plainPairs_2 []), (5, (Ai t5)), (6, .win nA0 7 t6_2 t6_3), (7, (Ai (IntKind.i64.wrap (t7 + (1 : Int)))))], [(nA0, .arr 1 true 7 u0)]⟩)) : C_slices_CompactFunc_Pair_18 t5 t6_2 t6_3 t7 u0 K := cut_rule (envN E0 nt_slices_CompactFunc_Pair) (okE nt_slices_CompactFunc_Pair) 3 18 (cbodyOf 18 ac_slices_CompactFunc_Pair) [0, 1, 5, 6, 7] _ K rfl (kr (by kernel_rfl) h)
theorem C_slices_CompactFunc_Pair_23_of (u0 : LL) (K : KK) (h :
 (K .ret ⟨[(4, .own nA0)], [(nA0, .arr 1 true 7 u0)]⟩)) : C_slices_CompactFunc_Pair_23 u0 K := cut_rule (envN E0 nt_slices_CompactFunc_Pair) (okE nt_slices_CompactFunc_Pair) 3 23 (cbodyOf 23 ac_slices_CompactFunc_Pair) [] _ K rfl (kr (by kernel_rfl) h)
theorem C_slices_CompactFunc_Pair_19_of (t5 : Int) (u0 : LL) (K : KK) (h :
 (Req ((0 : Int) ≤ t5 ∧ t5 ≤ (↑u0.length : Int))
 (Req ((0 : Int) ≤ t5 ∧
 t5 ≤
 (↑(clearRows
 [.str [], .int .i64 (0 : Int), .int .i64 (0 : Int), .int .i64 (0 : Int),
 .str [], .sl SK.nil (6 : Nat) [], .sl SK.nil (7 : Nat) []]
 t5.toNat (u0.length - t5.toNat) u0).length :
 Int))
 (K .ret ⟨[(4, .win nA0 7 0 (t5.toNat - 0))], [(nA0, .arr 1 true 7 (clearRows
 [.str [], .int .i64 (0 : Int), .int .i64 (0 : Int), .int .i64 (0 : Int), .str [],
 .sl SK.nil 6 [], .sl SK.nil 7 []]
 t5.toNat (u0.length - t5.toNat) u0))]⟩)))) : C_slices_CompactFunc_Pair_19 t5 u0 K := cut_rule (envN E0 nt_slices_CompactFunc_Pair) (okE nt_slices_CompactFunc_Pair) 3 19 (cbodyOf 19 ac_slices_CompactFunc_Pair) [0, 1, 5] _ K rfl (kr (by kernel_rfl) h)
theorem K_slices_CompactFunc_Pair_0_x0 (rows : LL) (Q : QQ) (u0 : LL) (h :
 (Q (.win nA0 7 0 u0.length) [(nA0, .arr 1 true 7 u0)])) : K_slices_CompactFunc_Pair_0 rows Q .ret ⟨[(4, .own nA0)], [(nA0, .arr 1 true 7 u0)]⟩ := kr (by kernel_rfl) h
theorem K_slices_CompactFunc_Pair_1_x0 (rows : LL) (Q : QQ) (u0 : LL) (h :
 (C_slices_CompactFunc_Pair_23 u0 (K_slices_CompactFunc_Pair_0 rows Q))) : K_slices_CompactFunc_Pair_1 rows Q (.exit 0) ⟨[(0, .own nA0)], [(nA0, .arr 1 true 7 u0)]⟩ := kr (by kernel_rfl) h
theorem K_slices_CompactFunc_Pair_1_x1 (rows : LL) (Q : QQ) (t4_2 t4_3 : Nat) (u0 : LL) (h :
 (Q (.win nA0 7 t4_2 t4_3) [(nA0, .arr 1 true 7 u0)])) : K_slices_CompactFunc_Pair_1 rows Q .ret ⟨[(4, .win nA0 7 t4_2 t4_3)], [(nA0, .arr 1 true 7 u0)]⟩ := kr (by kernel_rfl) h
theorem K_slices_CompactFunc_Pair_2_x0 (K : KK) (t5 : Int) (u0 : LL) (h :
 (L_slices_CompactFunc_Pair_5 t5 u0 K)) : K_slices_CompactFunc_Pair_2 K .normal ⟨[(0, .own nA0), (1, .fn fn_value_plainPairs_2 []), (5, (Ai t5))], [(nA0, .arr 1 true 7 u0)]⟩ := kr (by kernel_rfl) h
theorem K_slices_CompactFunc_Pair_3_x0 (K : KK) (t4_2 t4_3 : Nat) (u0 : LL) (h :
 (K .ret ⟨[(4, .win nA0 7 t4_2 t4_3)], [(nA0, .arr 1 true 7 u0)]⟩)) : K_slices_CompactFunc_Pair_3 K .ret ⟨[(4, .win nA0 7 t4_2 t4_3)], [(nA0, .arr 1 true 7 u0)]⟩ := kr (by kernel_rfl) h
theorem K_slices_CompactFunc_Pair_4_x0 (K : KK) (t5 : Int) (u0 : LL) (h :
 (C_slices_CompactFunc_Pair_19 t5 u0 (K_slices_CompactFunc_Pair_3 K))) : K_slices_CompactFunc_Pair_4 K (.exit (2)) ⟨[(0, .own nA0), (5, (Ai t5))], [(nA0, .arr 1 true 7 u0)]⟩ := kr (by kernel_rfl) h
theorem K_slices_CompactFunc_Pair_5_x0 (K : KK) (t5 : Int) (t6_2 t6_3 : Nat) (t7 : Int) (u0 : LL) (h :
 (L_slices_CompactFunc_Pair_12 t5 t6_2 t6_3 t7 u0 K)) : K_slices_CompactFunc_Pair_5 K .normal ⟨[(0, .own nA0), (1, .fn fn_value_plainPairs_2 []), (5, (Ai t5)), (6, .win nA0 7 t6_2 t6_3), (7, (Ai t7))], [(nA0, .arr 1 true 7 u0)]⟩ := kr (by kernel_rfl) h
theorem ok_slices_CompactFunc_Pair : FnOK E0.P 98 ac_slices_CompactFunc_Pair.code nt_slices_CompactFunc_Pair [.tmp 4] := fn_ok _ _ Try.f98 [(5, [0, 1, 5], []), (7, [0], []), (12, [0, 1, 5, 6, 7], []), (14, [0, 5], []), (18, [0, 1, 5, 6, 7], [0, 1, 5, 6, 7]), (19, [0, 5], [0, 1, 5]), (22, [0, 1, 5], [0, 1, 5]), (23, [0], [])] [4] _ 66 Try.func98 (by kernel_rfl) (by kernel_rfl) (by kernel_rfl) (by kernel_rfl)
theorem F_slices_CompactFunc_Pair_of (rows : LL) (Q : QQ) (h :
 (Br (decide ((↑rows.length : Int) < (2 : Int)))
 (Q (.win nA0 7 0 rows.length) [(nA0, .arr 1 true 7 rows)])
 (L_slices_CompactFunc_Pair_5 ((1 : Int)) rows (K_slices_CompactFunc_Pair_1 rows Q)))) : Call E0.P fn_slices_CompactFunc_Pair [.own (.arg 0), .fn fn_value_plainPairs_2 []] [(.arg 0, .arr 1 true 7 rows)] Q := fun_rule (envN E0 nt_slices_CompactFunc_Pair) (okE nt_slices_CompactFunc_Pair) 3 1 98 ac_slices_CompactFunc_Pair [.tmp 4] ok_slices_CompactFunc_Pair _ _ Q rfl rfl (kr (by kernel_rfl) h)
noncomputable def ac_value_has : AC := (annot [(5, [2, 4, 8], [2]), (8, [2, 4, 12], [2]), (18, [2], [])] [2, 3] (codeOf Try.f70) 0).1
abbrev nt_value_has : Nat := 29
def C_value_has_5 (t4 : Int) (t8 u0 : Bool) (u1 u2 : Bool) (u3 u4 : Bool) (K : KK) : Prop := CutOK 5 E0.P nt_value_has (cbodyOf 5 ac_value_has).code ⟨[(2, .ptr nL2 0), (4, (Ai t4)), (8, (Ab t8))], [(nL2, .blk ty_value_fieldSet [(Ab u0), (Ab u1), (Ab u2), (Ab u3), (Ab u4)])]⟩ K
def C_value_has_8 (t4 : Int) (t12 u0 : Bool) (u1 u2 : Bool) (u3 u4 : Bool) (K : KK) : Prop := CutOK 8 E0.P nt_value_has (cbodyOf 8 ac_value_has).code ⟨[(2, .ptr nL2 0), (4, (Ai t4)), (12, (Ab t12))], [(nL2, .blk ty_value_fieldSet [(Ab u0), (Ab u1), (Ab u2), (Ab u3), (Ab u4)])]⟩ K
def C_value_has_18 (u0 u1 : Bool) (u2 u3 u4 : Bool) (K : KK) : Prop := CutOK 18 E0.P nt_value_has (cbodyOf 18 ac_value_has).code ⟨[(2, .ptr nL2 0)], [(nL2, .blk ty_value_fieldSet [(Ab u0), (Ab u1), (Ab u2), (Ab u3), (Ab u4)])]⟩ K
def K_value_has_0 (Q : QQ) : KK := kE fun st => finish 0 E0.T [.cell 2 119, .tmp 3] [] Q st
def K_value_has_1 (Q : QQ) : KK := kF 0 (fun st => CutOK 18 E0.P nt_value_has (cbodyOf 18 ac_value_has).code (mask [2] st) (K_value_has_0 Q)) fun st => finish 0 E0.T [.cell 2 119, .tmp 3] [] Q st
def K_value_has_2 (K : KK) : KK := kP [2] K
theorem C_value_has_5_of (t4 : Int) (t8 u0 : Bool) (u1 u2 : Bool) (u3 u4 : Bool) (K : KK) (h :
 (Br (t8)
 (K .ret ⟨[(2, .ptr nL2 0), (3, (Ab true))], [(nL2, .blk ty_value_fieldSet [(Ab true), (Ab false), (Ab false), (Ab false), (Ab false)])]⟩)
 (Br (decide (t4 = (3 : Int)))
 (C_value_has_8 t4 (decide (t4 = (3 : Int))) u0 u1 u2 u3 u4 (K_value_has_2 K))
 (C_value_has_8 t4 (decide (t4 = (4 : Int))) u0 u1 u2 u3 u4 (K_value_has_2 K))))) : C_value_has_5 t4 t8 u0 u1 u2 u3 u4 K := cut_rule (envN E0 nt_value_has) (okE nt_value_has) 3 5 (cbodyOf 5 ac_value_has) [2] _ K rfl (kr (by kernel_rfl) h)
theorem C_value_has_8_of (t4 : Int) (t12 u0 : Bool) (u1 u2 : Bool) (u3 u4 : Bool) (K : KK) (h :
 (Br (t12)
 (K .ret ⟨[(2, .ptr nL2 0), (3, (Ab true))], [(nL2, .blk ty_value_fieldSet [(Ab false), (Ab false), (Ab true), (Ab false), (Ab false)])]⟩)
 (Br (decide (t4 = (5 : Int)))
 (K .ret ⟨[(2, .ptr nL2 0), (3, (Ab true))], [(nL2, .blk ty_value_fieldSet [(Ab false), (Ab false), (Ab false), (Ab true), (Ab false)])]⟩)
 (Br (decide (t4 = (6 : Int)))
 (K .ret ⟨[(2, .ptr nL2 0), (3, (Ab true))], [(nL2, .blk ty_value_fieldSet [(Ab false), (Ab false), (Ab false), (Ab false), (Ab true)])]⟩)
 (Br (decide (t4 = (7 : Int)))
 (K .ret ⟨[(2, .ptr nL2 0), (3, (Ab true))], [(nL2, .blk ty_value_fieldSet [(Ab true), (Ab true), (Ab false), (Ab false), (Ab false)])]⟩)
 (Br (decide (t4 = (8 : Int)))
 (K .ret ⟨[(2, .ptr nL2 0), (3, (Ab true))], [(nL2, .blk ty_value_fieldSet [(Ab false), (Ab false), (Ab true), (Ab false), (Ab true)])]⟩)
 (K .normal ⟨[(2, .ptr nL2 0)], [(nL2, .blk ty_value_fieldSet [(Ab u0), (Ab u1), (Ab u2), (Ab u3), (Ab u4)])]⟩))))))) : C_value_has_8 t4 t12 u0 u1 u2 u3 u4 K := cut_rule (envN E0 nt_value_has) (okE nt_value_has) 3 8 (cbodyOf 8 ac_value_has) [2] _ K rfl (kr (by kernel_rfl) h)
theorem C_value_has_18_of (u0 u1 : Bool) (u2 u3 u4 : Bool) (K : KK) (h :
 (K .ret ⟨[(2, .ptr nL2 0), (3, (Ab false))], [(nL2, .blk ty_value_fieldSet [(Ab false), (Ab false), (Ab false), (Ab false), (Ab false)])]⟩)) : C_value_has_18 u0 u1 u2 u3 u4 K := cut_rule (envN E0 nt_value_has) (okE nt_value_has) 3 18 (cbodyOf 18 ac_value_has) [] _ K rfl (kr (by kernel_rfl) h)
theorem K_value_has_0_x0 (Q : QQ) (t3 u0 : Bool) (u1 u2 : Bool) (u3 u4 : Bool) (h :
 (Q (.tup [(.imm (.agg [(.bool u0), (.bool u1), (.bool u2), (.bool u3), (.bool u4)])), (Ab t3)]) [])) : K_value_has_0 Q .ret ⟨[(2, .ptr nL2 0), (3, (Ab t3))], [(nL2, .blk ty_value_fieldSet [(Ab u0), (Ab u1), (Ab u2), (Ab u3), (Ab u4)])]⟩ := kr (by kernel_rfl) h
theorem K_value_has_1_x0 (Q : QQ) (t3 u0 : Bool) (u1 u2 : Bool) (u3 u4 : Bool) (h :
 (Q (.tup [(.imm (.agg [(.bool u0), (.bool u1), (.bool u2), (.bool u3), (.bool u4)])), (Ab t3)]) [])) : K_value_has_1 Q .ret ⟨[(2, .ptr nL2 0), (3, (Ab t3))], [(nL2, .blk ty_value_fieldSet [(Ab u0), (Ab u1), (Ab u2), (Ab u3), (Ab u4)])]⟩ := kr (by kernel_rfl) h
theorem K_value_has_1_x1 (Q : QQ) (u0 u1 : Bool) (u2 u3 u4 : Bool) (h :
 (C_value_has_18 u0 u1 u2 u3 u4 (K_value_has_0 Q))) : K_value_has_1 Q .normal ⟨[(2, .ptr nL2 0)], [(nL2, .blk ty_value_fieldSet [(Ab u0), (Ab u1), (Ab u2), (Ab u3), (Ab u4)])]⟩ := kr (by kernel_rfl) h
theorem K_value_has_2_x0 (K : KK) (t3 u0 : Bool) (u1 u2 : Bool) (u3 u4 : Bool) (h :
 (K .ret ⟨[(2, .ptr nL2 0), (3, (Ab t3))], [(nL2, .blk ty_value_fieldSet [(Ab u0), (Ab u1), (Ab u2), (Ab u3), (Ab u4)])]⟩)) : K_value_has_2 K .ret ⟨[(2, .ptr nL2 0), (3, (Ab t3))], [(nL2, .blk ty_value_fieldSet [(Ab u0), (Ab u1), (Ab u2), (Ab u3), (Ab u4)])]⟩ := kr (by kernel_rfl) h
theorem K_value_has_2_x1 (K : KK) (u0 u1 : Bool) (u2 u3 u4 : Bool) (h :
 (K .normal ⟨[(2, .ptr nL2 0)], [(nL2, .blk ty_value_fieldSet [(Ab u0), (Ab u1), (Ab u2), (Ab u3), (Ab u4)])]⟩)) : K_value_has_2 K .normal ⟨[(2, .ptr nL2 0)], [(nL2, .blk ty_value_fieldSet [(Ab u0), (Ab u1), (Ab u2), (Ab u3), (Ab u4)])]⟩ := kr (by kernel_rfl) h
theorem ok_value_has : FnOK E0.P 70 ac_value_has.code nt_value_has [.cell 2 119, .tmp 3] := fn_ok _ _ Try.f70 [(5, [2, 4, 8], [2]), (8, [2, 4, 12], [2]), (18, [2], [])] [2, 3] _ 29 Try.func70 (by kernel_rfl) (by kernel_rfl) (by kernel_rfl) (by kernel_rfl)
theorem F_value_has_of (a0 : Int) (Q : QQ) (h :
 (Br (decide (a0 = (0 : Int)))
 (Q (.tup [(.imm (.agg [(.bool false), (.bool false), (.bool false), (.bool false), (.bool false)])), (Ab true)]) [])
 (Br (decide (a0 = (1 : Int)))
 (C_value_has_5 a0 (decide (a0 = (1 : Int))) false false false false false (K_value_has_1 Q))
 (C_value_has_5 a0 (decide (a0 = (2 : Int))) false false false false false (K_value_has_1 Q))))) : Call E0.P fn_value_has [(Ai a0)] [] Q := fun_rule (envN E0 nt_value_has) (okE nt_value_has) 3 0 70 ac_value_has [.cell 2 119, .tmp 3] ok_value_has _ _ Q rfl rfl (kr (by kernel_rfl) h)
noncomputable def ac_value_plainPairs : AC := (annot [(6, [4, 14, 15, 16], []), (8, [4], []), (14, [4], [])] [2] (codeOf Try.f71) 0).1
abbrev nt_value_plainPairs : Nat := 35
def L_value_plainPairs_6 (t14_2 t14_3 : Nat) (t15 t16 : Int) (u0 u1 : LL) (K : KK) : Prop := LoopOK 6 E0.P nt_value_plainPairs (lbodyOf 6 ac_value_plainPairs).code ⟨[(4, .own nL4), (14, .win (Nm.sub 9 nL0) 7 t14_2 t14_3), (15, (Ai t15)), (16, (Ai t16))], [(nL4, .arr (ty_api_Pair + 2) true 7 u0), ((Nm.sub 9 nL0), .arr 1 true 7 u1)]⟩ K
def C_value_plainPairs_14 (u0 : LL) (K : KK) : Prop := CutOK 14 E0.P nt_value_plainPairs (cbodyOf 14 ac_value_plainPairs).code ⟨[(4, .own nL4)], [(nL4, .arr (ty_api_Pair + 2) true 7 u0)]⟩ K
def K_value_plainPairs_0 (Q : QQ) : KK := kE fun st => finish 0 E0.T [.tmp 2] [] Q st
def K_value_plainPairs_1 (Q : QQ) : KK := kF 0 (fun st => CutOK 14 E0.P nt_value_plainPairs (cbodyOf 14 ac_value_plainPairs).code (mask [4] st) (K_value_plainPairs_0 Q)) fun st => finish 0 E0.T [.tmp 2] [] Q st
theorem L_value_plainPairs_6_of (t14_2 t14_3 : Nat) (t15 t16 : Int) (u0 u1 : LL) (K : KK) (h :
 (Br (decide (t16 < t15))
 (Req ((0 : Int) ≤ t16 ∧ t16 < (↑t14_3 : Int))
 (Req (addN t14_2 t16.toNat < u1.length ∧
 shOK
 [.str, .int .i64, .int .i64, .int .i64, .str, .sl 6 ty_api_Value,
 .sl 7 ty_api_Pair]
 (List.take 7 (List.drop 0 (u1.getD (addN t14_2 t16.toNat) []))) =
 true)
 (Call E0.P fn_value_Plain [(.imm (.agg [(.int .i64 (gI (List.take 7 (List.drop 0 (u1.getD (addN t14_2 t16.toNat) []))) 1)), (.int .i64 (gI (List.take 7 (List.drop 0 (u1.getD (addN t14_2 t16.toNat) []))) 2)), (.int .i64 (gI (List.take 7 (List.drop 0 (u1.getD (addN t14_2 t16.toNat) []))) 3)), (.str (gS (List.take 7 (List.drop 0 (u1.getD (addN t14_2 t16.toNat) []))) 4)), (.sl .any 6 (gR (List.take 7 (List.drop 0 (u1.getD (addN t14_2 t16.toNat) []))) 5)), (.sl .any 7 (gR (List.take 7 (List.drop 0 (u1.getD (addN t14_2 t16.toNat) []))) 6))]))] [] fun r0 g0 =>
 Req (qV3 g0 r0)
 (Br (!decide (gI (aCells r0) 0 = (0 : Int)))
 (Req ((u0.length + 1) * 104 ≤ 140737488355328 ∧ u0.length + 1 ≤ 140737488355328)
 (L_value_plainPairs_6 t14_2 t14_3 t15 (IntKind.i64.wrap (t16 + (1 : Int))) (u0 ++
 [[IV.str (gS (List.take 7 (List.drop 0 (u1.getD (addN t14_2 t16.toNat) []))) 0),
 .int .i64 (gI (aCells r0) 0), .int .i64 (gI (aCells r0) 1),
 .int .i64 (gI (aCells r0) 2), .str (gS (aCells r0) 3),
 .sl SK.any 6 (gR (aCells r0) 4), .sl SK.any 7 (gR (aCells r0) 5)]]) u1 K))
 (L_value_plainPairs_6 t14_2 t14_3 t15 (IntKind.i64.wrap (t16 + (1 : Int))) u0 u1 K)))))
 (K (.exit 0) ⟨[(4, .own nL4)], [(nL4, .arr (ty_api_Pair + 2) true 7 u0)]⟩))) : L_value_plainPairs_6 t14_2 t14_3 t15 t16 u0 u1 K := loop_rule (envN E0 nt_value_plainPairs) (okE nt_value_plainPairs) 3 6 (lbodyOf 6 ac_value_plainPairs) [4, 14, 15, 16] _ K rfl (kr (by kernel_rfl) h)
theorem C_value_plainPairs_14_of (u0 : LL) (K : KK) (h :
 (K .ret ⟨[(2, .own nL4)], [(nL4, .arr (ty_api_Pair + 2) true 7 u0)]⟩)) : C_value_plainPairs_14 u0 K := cut_rule (envN E0 nt_value_plainPairs) (okE nt_value_plainPairs) 3 14 (cbodyOf 14 ac_value_plainPairs) [] _ K rfl (kr (by kernel_rfl) h)
theorem K_value_plainPairs_0_x0 (Q : QQ) (u0 : LL) (h :
 (Q (Al 7 u0) [])) : K_value_plainPairs_0 Q .ret ⟨[(2, .own nL4)], [(nL4, .arr (ty_api_Pair + 2) true 7 u0)]⟩ := kr (by kernel_rfl) h
theorem K_value_plainPairs_1_x0 (Q : QQ) (u0 : LL) (h :
 (C_value_plainPairs_14 u0 (K_value_plainPairs_0 Q))) : K_value_plainPairs_1 Q (.exit 0) ⟨[(4, .own nL4)], [(nL4, .arr (ty_api_Pair + 2) true 7 u0)]⟩ := kr (by kernel_rfl) h
theorem ok_value_plainPairs : FnOK E0.P 71 ac_value_plainPairs.code nt_value_plainPairs [.tmp 2] := fn_ok _ _ Try.f71 [(6, [4, 14, 15, 16], []), (8, [4], []), (14, [4], [])] [2] _ 35 Try.func71 (by kernel_rfl) (by kernel_rfl) (by kernel_rfl) (by kernel_rfl)
theorem F_value_plainPairs_of (a0 : LL) (Q : QQ) (h :
 (Call E0.P fn_slices_Clone_Pair [(Al 7 a0)] [] fun r0 g0 =>
 Req (g0 = [] ++ [(Nm.loc 0, Entry.arr 0 true 7 (arrRows g0 nL0))] ∧
 r0 = AV.own nL0)
 (Call E0.P fn_slices_SortStableFunc_Pair [(.own nA0), (.fn fn_value_plainPairs_1 [])] [(nA0, .arr 1 true 7 (arrRows g0 nL0))] fun r1 g1 =>
 Req (qV2 g1 r1)
 (Call E0.P fn_slices_CompactFunc_Pair [(.own nA0), (.fn fn_value_plainPairs_2 [])] [(nA0, .arr 1 true 7 (arrRows g1 nA0))] fun r2 g2 =>
 Req (g2 = [(Nm.arg 0, Entry.arr 1 true 7 (arrRows g2 nA0))] ∧
 r2 = AV.win nA0 7 (rWo r2) (rWl r2))
 (L_value_plainPairs_6 (rWo r2) (rWl r2) ((↑(rWl r2) : Int)) ((0 : Int)) [] (arrRows g2 nA0) (K_value_plainPairs_1 Q)))))) : Call E0.P fn_value_plainPairs [(Al 7 a0)] [] Q := fun_rule (envN E0 nt_value_plainPairs) (okE nt_value_plainPairs) 3 0 71 ac_value_plainPairs [.tmp 2] ok_value_plainPairs _ _ Q rfl rfl (kr (by kernel_rfl) h)
noncomputable def ac_value_Plain : AC := (annot [(7, [1, 2, 3, 5], []), (9, [1, 2, 3, 5], []), (11, [1, 2, 3, 5], []), (14, [1, 2, 3, 5, 38, 39, 40], []), (16, [1, 2, 3, 5], []), (20, [1, 2, 3, 5], [])] [2] (codeOf Try.f46) 0).1
abbrev nt_value_Plain : Nat := 59
def C_value_Plain_7 (u0 u1 u2 : Int) (u3 : LB) (u4 u5 : LL) (u6 u7 u8 : Int) (u9 : LB) (v0 v1 : Bool) (v2 v3 v4 : Bool) (v5 v6 v7 : Int) (v8 : LB) (v9 w0 : LL) (w1 w2 : LL) (K : KK) : Prop := CutOK 7 E0.P nt_value_Plain (cbodyOf 7 ac_value_Plain).code ⟨[(1, .ptr nL1 0), (2, .ptr nL2 0), (3, .ptr nL3 0), (5, .ptr nL5 0)], [(nL1, .blk ty_api_Value [(Ai u0), (Ai u1), (Ai u2), (As u3), (Al 6 u4), (Al 7 u5)]), (nL2, .blk ty_api_Value [(Ai u6), (Ai u7), (Ai u8), (As u9), (.own (nL2.cell 4)), (.own (nL2.cell 5))]), (nL3, .blk ty_value_fieldSet [(Ab v0), (Ab v1), (Ab v2), (Ab v3), (Ab v4)]), (nL5, .blk ty_api_Value [(Ai v5), (Ai v6), (Ai v7), (As v8), (.own (nL5.cell 4)), (.own (nL5.cell 5))]), ((nL2.cell 4), .arr (ty_api_Value + 2) true 6 v9), ((nL2.cell 5), .arr (ty_api_Pair + 2) true 7 w0), ((nL5.cell 4), .arr (ty_api_Value + 2) true 6 w1), ((nL5.cell 5), .arr (ty_api_Pair + 2) true 7 w2)]⟩ K
def C_value_Plain_9 (u0 u1 u2 : Int) (u3 : LB) (u4 u5 : LL) (u6 u7 u8 : Int) (u9 : LB) (v0 v1 : Bool) (v2 v3 v4 : Bool) (v5 v6 v7 : Int) (v8 : LB) (v9 w0 : LL) (w1 w2 : LL) (K : KK) : Prop := CutOK 9 E0.P nt_value_Plain (cbodyOf 9 ac_value_Plain).code ⟨[(1, .ptr nL1 0), (2, .ptr nL2 0), (3, .ptr nL3 0), (5, .ptr nL5 0)], [(nL1, .blk ty_api_Value [(Ai u0), (Ai u1), (Ai u2), (As u3), (Al 6 u4), (Al 7 u5)]), (nL2, .blk ty_api_Value [(Ai u6), (Ai u7), (Ai u8), (As u9), (.own (nL2.cell 4)), (.own (nL2.cell 5))]), (nL3, .blk ty_value_fieldSet [(Ab v0), (Ab v1), (Ab v2), (Ab v3), (Ab v4)]), (nL5, .blk ty_api_Value [(Ai v5), (Ai v6), (Ai v7), (As v8), (.own (nL5.cell 4)), (.own (nL5.cell 5))]), ((nL2.cell 4), .arr (ty_api_Value + 2) true 6 v9), ((nL2.cell 5), .arr (ty_api_Pair + 2) true 7 w0), ((nL5.cell 4), .arr (ty_api_Value + 2) true 6 w1), ((nL5.cell 5), .arr (ty_api_Pair + 2) true 7 w2)]⟩ K
def C_value_Plain_11 (u0 u1 u2 : Int) (u3 : LB) (u4 u5 : LL) (u6 u7 u8 : Int) (u9 : LB) (v0 v1 : Bool) (v2 v3 v4 : Bool) (v5 v6 v7 : Int) (v8 : LB) (v9 w0 : LL) (w1 w2 : LL) (K : KK) : Prop := CutOK 11 E0.P nt_value_Plain (cbodyOf 11 ac_value_Plain).code ⟨[(1, .ptr nL1 0), (2, .ptr nL2 0), (3, .ptr nL3 0), (5, .ptr nL5 0)], [(nL1, .blk ty_api_Value [(Ai u0), (Ai u1), (Ai u2), (As u3), (Al 6 u4), (Al 7 u5)]), (nL2, .blk ty_api_Value [(Ai u6), (Ai u7), (Ai u8), (As u9), (.own (nL2.cell 4)), (.own (nL2.cell 5))]), (nL3, .blk ty_value_fieldSet [(Ab v0), (Ab v1), (Ab v2), (Ab v3), (Ab v4)]), (nL5, .blk ty_api_Value [(Ai v5), (Ai v6), (Ai v7), (As v8), (.own (nL5.cell 4)), (.own (nL5.cell 5))]), ((nL2.cell 4), .arr (ty_api_Value + 2) true 6 v9), ((nL2.cell 5), .arr (ty_api_Pair + 2) true 7 w0), ((nL5.cell 4), .arr (ty_api_Value + 2) true 6 w1), ((nL5.cell 5), .arr (ty_api_Pair + 2) true 7 w2)]⟩ K
def L_value_Plain_14 (t38r : LL) (t39 t40 : Int) (u0 u1 u2 : Int) (u3 : LB) (u4 u5 : LL) (u6 u7 u8 : Int) (u9 : LB) (v0 v1 : Bool) (v2 v3 v4 : Bool) (v5 v6 v7 : Int) (v8 : LB) (v9 w0 : LL) (w1 w2 : LL) (K : KK) : Prop := LoopOK 14 E0.P nt_value_Plain (lbodyOf 14 ac_value_Plain).code ⟨[(1, .ptr nL1 0), (2, .ptr nL2 0), (3, .ptr nL3 0), (5, .ptr nL5 0), (38, (Al 6 t38r)), (39, (Ai t39)), (40, (Ai t40))], [(nL1, .blk ty_api_Value [(Ai u0), (Ai u1), (Ai u2), (As u3), (Al 6 u4), (Al 7 u5)]), (nL2, .blk ty_api_Value [(Ai u6), (Ai u7), (Ai u8), (As u9), (.own (nL2.cell 4)), (.own (nL2.cell 5))]), (nL3, .blk ty_value_fieldSet [(Ab v0), (Ab v1), (Ab v2), (Ab v3), (Ab v4)]), (nL5, .blk ty_api_Value [(Ai v5), (Ai v6), (Ai v7), (As v8), (.own (nL5.cell 4)), (.own (nL5.cell 5))]), ((nL2.cell 4), .arr (ty_api_Value + 2) true 6 v9), ((nL2.cell 5), .arr (ty_api_Pair + 2) true 7 w0), ((nL5.cell 4), .arr (ty_api_Value + 2) true 6 w1), ((nL5.cell 5), .arr (ty_api_Pair + 2) true 7 w2)]⟩ K
def C_value_Plain_20 (u0 u1 u2 : Int) (u3 : LB) (u4 u5 : LL) (u6 u7 u8 : Int) (u9 : LB) (v0 v1 : Bool) (v2 v3 v4 : Bool) (v5 v6 v7 : Int) (v8 : LB) (v9 w0 : LL) (w1 w2 : LL) (K : KK) : Prop := CutOK 20 E0.P nt_value_Plain (cbodyOf 20 ac_value_Plain).code ⟨[(1, .ptr nL1 0), (2, .ptr nL2 0), (3, .ptr nL3 0), (5, .ptr nL5 0)], [(nL1, .blk ty_api_Value [(Ai u0), (Ai u1), (Ai u2), (As u3), (Al 6 u4), (Al 7 u5)]), (nL2, .blk ty_api_Value [(Ai u6), (Ai u7), (Ai u8), (As u9), (.own (nL2.cell 4)), (.own (nL2.cell 5))]), (nL3, .blk ty_value_fieldSet [(Ab v0), (Ab v1), (Ab v2), (Ab v3), (Ab v4)]), (nL5, .blk ty_api_Value [(Ai v5), (Ai v6), (Ai v7), (As v8), (.own (nL5.cell 4)), (.own (nL5.cell 5))]), ((nL2.cell 4), .arr (ty_api_Value + 2) true 6 v9), ((nL2.cell 5), .arr (ty_api_Pair + 2) true 7 w0), ((nL5.cell 4), .arr (ty_api_Value + 2) true 6 w1), ((nL5.cell 5), .arr (ty_api_Pair + 2) true 7 w2)]⟩ K
def K_value_Plain_0 (Q : QQ) : KK := kE fun st => finish 0 E0.T [.cell 2 37] [] Q st
def K_value_Plain_1 (K : KK) : KK := kP [] K
def K_value_Plain_2 (K : KK) : KK := kC 0 (fun st => CutOK 20 E0.P nt_value_Plain (cbodyOf 20 ac_value_Plain).code (mask [1, 2, 3, 5] st) (K_value_Plain_1 K)) K
theorem C_value_Plain_7_of (u0 u1 u2 : Int) (u3 : LB) (u4 u5 : LL) (u6 u7 u8 : Int) (u9 : LB) (v0 v1 : Bool) (v2 v3 v4 : Bool) (v5 v6 v7 : Int) (v8 : LB) (v9 w0 : LL) (w1 w2 : LL) (K : KK) (h :
 (Br (v1)
 (C_value_Plain_9 u0 u1 u2 u3 u4 u5 u6 u7 u8 u9 v0 v1 v2 v3 v4 v5 v6 u2 v8 v9 w0 w1 w2 (K_value_Plain_1 K))
 (C_value_Plain_9 u0 u1 u2 u3 u4 u5 u6 u7 u8 u9 v0 v1 v2 v3 v4 v5 v6 v7 v8 v9 w0 w1 w2 (K_value_Plain_1 K)))) : C_value_Plain_7 u0 u1 u2 u3 u4 u5 u6 u7 u8 u9 v0 v1 v2 v3 v4 v5 v6 v7 v8 v9 w0 w1 w2 K := cut_rule (envN E0 nt_value_Plain) (okE nt_value_Plain) 3 7 (cbodyOf 7 ac_value_Plain) [] _ K rfl (kr (by kernel_rfl) h)
theorem C_value_Plain_9_of (u0 u1 u2 : Int) (u3 : LB) (u4 u5 : LL) (u6 u7 u8 : Int) (u9 : LB) (v0 v1 : Bool) (v2 v3 v4 : Bool) (v5 v6 v7 : Int) (v8 : LB) (v9 w0 : LL) (w1 w2 : LL) (K : KK) (h :
 (Br (v2)
 (C_value_Plain_11 u0 u1 u2 u3 u4 u5 u6 u7 u8 u9 v0 v1 v2 v3 v4 v5 v6 v7 u3 v9 w0 w1 w2 (K_value_Plain_1 K))
 (C_value_Plain_11 u0 u1 u2 u3 u4 u5 u6 u7 u8 u9 v0 v1 v2 v3 v4 v5 v6 v7 v8 v9 w0 w1 w2 (K_value_Plain_1 K)))) : C_value_Plain_9 u0 u1 u2 u3 u4 u5 u6 u7 u8 u9 v0 v1 v2 v3 v4 v5 v6 v7 v8 v9 w0 w1 w2 K := cut_rule (envN E0 nt_value_Plain) (okE nt_value_Plain) 3 9 (cbodyOf 9 ac_value_Plain) [] _ K rfl (kr (by kernel_rfl) h)
theorem C_value_Plain_11_of (u0 u1 u2 : Int) (u3 : LB) (u4 u5 : LL) (u6 u7 u8 : Int) (u9 : LB) (v0 v1 : Bool) (v2 v3 v4 : Bool) (v5 v6 v7 : Int) (v8 : LB) (v9 w0 : LL) (w1 w2 : LL) (K : KK) (h :
 (Br (v3)
 (L_value_Plain_14 u4 ((↑u4.length : Int)) ((0 : Int)) u0 u1 u2 u3 u4 u5 u6 u7 u8 u9 v0 v1 v2 v3 v4 v5 v6 v7 v8 v9 w0 w1 w2 (K_value_Plain_2 K))
 (C_value_Plain_20 u0 u1 u2 u3 u4 u5 u6 u7 u8 u9 v0 v1 v2 v3 v4 v5 v6 v7 v8 v9 w0 w1 w2 (K_value_Plain_1 K)))) : C_value_Plain_11 u0 u1 u2 u3 u4 u5 u6 u7 u8 u9 v0 v1 v2 v3 v4 v5 v6 v7 v8 v9 w0 w1 w2 K := cut_rule (envN E0 nt_value_Plain) (okE nt_value_Plain) 3 11 (cbodyOf 11 ac_value_Plain) [] _ K rfl (kr (by kernel_rfl) h)
theorem L_value_Plain_14_of (t38r : LL) (t39 t40 : Int) (u0 u1 u2 : Int) (u3 : LB) (u4 u5 : LL) (u6 u7 u8 : Int) (u9 : LB) (v0 v1 : Bool) (v2 v3 v4 : Bool) (v5 v6 v7 : Int) (v8 : LB) (v9 w0 : LL) (w1 w2 : LL) (K : KK) (h :
 (Br (decide (t40 < t39))
 (Req (((0 : Int) ≤ t40 ∧ t40 < (↑t38r.length : Int)) ∧
 shOK
 [.int .i64, .int .i64, .int .i64, .str, .sl 6 ty_api_Value,
 .sl 7 ty_api_Pair]
 (t38r.getD t40.toNat []) =
 true)
 (Call E0.P fn_value_Plain [(.imm (.agg [(.int .i64 (gI (t38r.getD t40.toNat []) 0)), (.int .i64 (gI (t38r.getD t40.toNat []) 1)), (.int .i64 (gI (t38r.getD t40.toNat []) 2)), (.str (gS (t38r.getD t40.toNat []) 3)), (.sl .any 6 (gR (t38r.getD t40.toNat []) 4)), (.sl .any 7 (gR (t38r.getD t40.toNat []) 5))]))] [] fun r0 g0 =>
 Req (qV3 g0 r0)
 (Req ((w1.length + 1) * 88 ≤ 140737488355328 ∧ w1.length + 1 ≤ 140737488355328)
 (L_value_Plain_14 t38r t39 (IntKind.i64.wrap (t40 + (1 : Int))) u0 u1 u2 u3 u4 u5 u6 u7 u8 u9 v0 v1 v2 v3 v4 v5 v6 v7 v8 v9 w0 (w1 ++
 [[IV.int .i64 (gI (aCells r0) 0), .int .i64 (gI (aCells r0) 1),
 .int .i64 (gI (aCells r0) 2), .str (gS (aCells r0) 3),
 .sl SK.any 6 (gR (aCells r0) 4), .sl SK.any 7 (gR (aCells r0) 5)]]) w2 K))))
 (K (.exit 0) ⟨[(1, .ptr nL1 0), (2, .ptr nL2 0), (3, .ptr nL3 0), (5, .ptr nL5 0)], [(nL1, .blk ty_api_Value [(Ai u0), (Ai u1), (Ai u2), (As u3), (Al 6 u4), (Al 7 u5)]), (nL2, .blk ty_api_Value [(Ai u6), (Ai u7), (Ai u8), (As u9), (.own (nL2.cell 4)), (.own (nL2.cell 5))]), (nL3, .blk ty_value_fieldSet [(Ab v0), (Ab v1), (Ab v2), (Ab v3), (Ab v4)]), (nL5, .blk ty_api_Value [(Ai v5), (Ai v6), (Ai v7), (As v8), (.own (nL5.cell 4)), (.own (nL5.cell 5))]), ((nL2.cell 4), .arr (ty_api_Value + 2) true 6 v9), ((nL2.cell 5), .arr (ty_api_Pair + 2) true 7 w0), ((nL5.cell 4), .arr (ty_api_Value + 2) true 6 w1), ((nL5.cell 5), .arr (ty_api_Pair + 2) true 7 w2)]⟩))) : L_value_Plain_14 t38r t39 t40 u0 u1 u2 u3 u4 u5 u6 u7 u8 u9 v0 v1 v2 v3 v4 v5 v6 v7 v8 v9 w0 w1 w2 K := loop_rule (envN E0 nt_value_Plain) (okE nt_value_Plain) 3 14 (lbodyOf 14 ac_value_Plain) [1, 2, 3, 5, 38, 39, 40] _ K rfl (kr (by kernel_rfl) h)
theorem C_value_Plain_20_of (u0 u1 u2 : Int) (u3 : LB) (u4 u5 : LL) (u6 u7 u8 : Int) (u9 : LB) (v0 v1 : Bool) (v2 v3 v4 : Bool) (v5 v6 v7 : Int) (v8 : LB) (v9 w0 : LL) (w1 w2 : LL) (K : KK) (h :
 (Br (v4)
 (Call E0.P fn_value_plainPairs [(Al 7 u5)] [] fun r0 g0 =>
 Req (qV4 g0 r0)
 (K .ret ⟨[(2, .ptr nL2 0)], [(nL2, .blk ty_api_Value [(Ai v5), (Ai v6), (Ai v7), (As v8), (.own (nL5.cell 4)), (Al 7 (rR r0))]), ((nL5.cell 4), .arr (ty_api_Value + 2) true 6 w1)]⟩))
 (K .ret ⟨[(2, .ptr nL2 0)], [(nL2, .blk ty_api_Value [(Ai v5), (Ai v6), (Ai v7), (As v8), (.own (nL5.cell 4)), (.own (nL5.cell 5))]), ((nL5.cell 4), .arr (ty_api_Value + 2) true 6 w1), ((nL5.cell 5), .arr (ty_api_Pair + 2) true 7 w2)]⟩))) : C_value_Plain_20 u0 u1 u2 u3 u4 u5 u6 u7 u8 u9 v0 v1 v2 v3 v4 v5 v6 v7 v8 v9 w0 w1 w2 K := cut_rule (envN E0 nt_value_Plain) (okE nt_value_Plain) 3 20 (cbodyOf 20 ac_value_Plain) [] _ K rfl (kr (by kernel_rfl) h)
theorem K_value_Plain_0_x0 (Q : QQ) (u0 u1 u2 : Int) (u3 : LB) (u4 u5 : LL) (h :
 (Q (.imm (.agg [(.int .i64 u0), (.int .i64 u1), (.int .i64 u2), (.str u3), (.sl .any 6 u5), (.sl .any 7 u4)])) [])) : K_value_Plain_0 Q .ret ⟨[(2, .ptr nL2 0)], [(nL2, .blk ty_api_Value [(Ai u0), (Ai u1), (Ai u2), (As u3), (.own (nL5.cell 4)), (Al 7 u4)]), ((nL5.cell 4), .arr (ty_api_Value + 2) true 6 u5)]⟩ := kr (by kernel_rfl) h
theorem K_value_Plain_0_x1 (Q : QQ) (u0 u1 u2 : Int) (u3 : LB) (u4 u5 : LL) (h :
 (Q (.imm (.agg [(.int .i64 u0), (.int .i64 u1), (.int .i64 u2), (.str u3), (.sl .any 6 u4), (.sl .any 7 u5)])) [])) : K_value_Plain_0 Q .ret ⟨[(2, .ptr nL2 0)], [(nL2, .blk ty_api_Value [(Ai u0), (Ai u1), (Ai u2), (As u3), (.own (nL5.cell 4)), (.own (nL5.cell 5))]), ((nL5.cell 4), .arr (ty_api_Value + 2) true 6 u4), ((nL5.cell 5), .arr (ty_api_Pair + 2) true 7 u5)]⟩ := kr (by kernel_rfl) h
theorem K_value_Plain_1_x0 (K : KK) (u0 u1 u2 : Int) (u3 : LB) (u4 u5 : LL) (h :
 (K .ret ⟨[(2, .ptr nL2 0)], [(nL2, .blk ty_api_Value [(Ai u0), (Ai u1), (Ai u2), (As u3), (.own (nL5.cell 4)), (Al 7 u4)]), ((nL5.cell 4), .arr (ty_api_Value + 2) true 6 u5)]⟩)) : K_value_Plain_1 K .ret ⟨[(2, .ptr nL2 0)], [(nL2, .blk ty_api_Value [(Ai u0), (Ai u1), (Ai u2), (As u3), (.own (nL5.cell 4)), (Al 7 u4)]), ((nL5.cell 4), .arr (ty_api_Value + 2) true 6 u5)]⟩ := kr (by kernel_rfl) h
theorem K_value_Plain_1_x1 (K : KK) (u0 u1 u2 : Int) (u3 : LB) (u4 u5 : LL) (h :
 (K .ret ⟨[(2, .ptr nL2 0)], [(nL2, .blk ty_api_Value [(Ai u0), (Ai u1), (Ai u2), (As u3), (.own (nL5.cell 4)), (.own (nL5.cell 5))]), ((nL5.cell 4), .arr (ty_api_Value + 2) true 6 u4), ((nL5.cell 5), .arr (ty_api_Pair + 2) true 7 u5)]⟩)) : K_value_Plain_1 K .ret ⟨[(2, .ptr nL2 0)], [(nL2, .blk ty_api_Value [(Ai u0), (Ai u1), (Ai u2), (As u3), (.own (nL5.cell 4)), (.own (nL5.cell 5))]), ((nL5.cell 4), .arr (ty_api_Value + 2) true 6 u4), ((nL5.cell 5), .arr (ty_api_Pair + 2) true 7 u5)]⟩ := kr (by kernel_rfl) h
theorem K_value_Plain_2_x0 (K : KK) (u0 u1 u2 : Int) (u3 : LB) (u4 u5 : LL) (u6 u7 u8 : Int) (u9 : LB) (v0 v1 : Bool) (v2 v3 v4 : Bool) (v5 v6 v7 : Int) (v8 : LB) (v9 w0 : LL) (w1 w2 : LL) (h :
 (C_value_Plain_20 u0 u1 u2 u3 u4 u5 u6 u7 u8 u9 v0 v1 v2 v3 v4 v5 v6 v7 v8 v9 w0 w1 w2 (K_value_Plain_1 K))) : K_value_Plain_2 K (.exit 0) ⟨[(1, .ptr nL1 0), (2, .ptr nL2 0), (3, .ptr nL3 0), (5, .ptr nL5 0)], [(nL1, .blk ty_api_Value [(Ai u0), (Ai u1), (Ai u2), (As u3), (Al 6 u4), (Al 7 u5)]), (nL2, .blk ty_api_Value [(Ai u6), (Ai u7), (Ai u8), (As u9), (.own (nL2.cell 4)), (.own (nL2.cell 5))]), (nL3, .blk ty_value_fieldSet [(Ab v0), (Ab v1), (Ab v2), (Ab v3), (Ab v4)]), (nL5, .blk ty_api_Value [(Ai v5), (Ai v6), (Ai v7), (As v8), (.own (nL5.cell 4)), (.own (nL5.cell 5))]), ((nL2.cell 4), .arr (ty_api_Value + 2) true 6 v9), ((nL2.cell 5), .arr (ty_api_Pair + 2) true 7 w0), ((nL5.cell 4), .arr (ty_api_Value + 2) true 6 w1), ((nL5.cell 5), .arr (ty_api_Pair + 2) true 7 w2)]⟩ := kr (by kernel_rfl) h
theorem ok_value_Plain : FnOK E0.P 46 ac_value_Plain.code nt_value_Plain [.cell 2 37] := fn_ok _ _ Try.f46 [(7, [1, 2, 3, 5], []), (9, [1, 2, 3, 5], []), (11, [1, 2, 3, 5], []), (14, [1, 2, 3, 5, 38, 39, 40], []), (16, [1, 2, 3, 5], []), (20, [1, 2, 3, 5], [])] [2] _ 59 Try.func46 (by kernel_rfl) (by kernel_rfl) (by kernel_rfl) (by kernel_rfl)
theorem F_value_Plain_of (a0_0 a0_1 a0_2 : Int) (a0_3 : LB) (a0_4 a0_5 : LL) (Q : QQ) (h :
 (Call E0.P fn_value_has [(Ai a0_0)] [] fun r0 g0 =>
 Req (g0 = [] ∧
 r0 =
 .tup
 [.imm
 (IV.agg
 [.bool (gB (aCells (rT r0 0)) 0), .bool (gB (aCells (rT r0 0)) 1),
 .bool (gB (aCells (rT r0 0)) 2), .bool (gB (aCells (rT r0 0)) 3),
 .bool (gB (aCells (rT r0 0)) 4)]),
 .imm (.bool (rB (rT r0 1)))])
 (Br (!rB (rT r0 1))
 (Q (.imm (.agg [(.int .i64 0), (.int .i64 0), (.int .i64 0), (.str []), (.sl .any 6 []), (.sl .any 7 [])])) [])
 (Br (gB (aCells (rT r0 0)) 0)
 (C_value_Plain_7 a0_0 a0_1 a0_2 a0_3 a0_4 a0_5 ((0 : Int)) ((0 : Int)) ((0 : Int)) [] (gB (aCells (rT r0 0)) 0) (gB (aCells (rT r0 0)) 1) (gB (aCells (rT r0 0)) 2) (gB (aCells (rT r0 0)) 3) (gB (aCells (rT r0 0)) 4) a0_0 a0_1 ((0 : Int)) [] [] [] [] [] (K_value_Plain_0 Q))
 (C_value_Plain_7 a0_0 a0_1 a0_2 a0_3 a0_4 a0_5 ((0 : Int)) ((0 : Int)) ((0 : Int)) [] (gB (aCells (rT r0 0)) 0) (gB (aCells (rT r0 0)) 1) (gB (aCells (rT r0 0)) 2) (gB (aCells (rT r0 0)) 3) (gB (aCells (rT r0 0)) 4) a0_0 ((0 : Int)) ((0 : Int)) [] [] [] [] [] (K_value_Plain_0 Q)))))) : Call E0.P fn_value_Plain [(.imm (.agg [(.int .i64 a0_0), (.int .i64 a0_1), (.int .i64 a0_2), (.str a0_3), (.sl .any 6 a0_4), (.sl .any 7 a0_5)]))] [] Q := fun_rule (envN E0 nt_value_Plain) (okE nt_value_Plain) 3 0 46 ac_value_Plain [.cell 2 37] ok_value_Plain _ _ Q rfl rfl (kr (by kernel_rfl) h)
noncomputable def ac_r16_put : AC := (annot [(4, [0, 3, 5, 6, 7], []), (6, [3, 5, 6], []), (13, [0, 3, 5, 6, 7], [0, 3, 5, 6, 7]), (14, [0, 3, 5, 6, 7], [0, 3, 5, 6, 7]), (15, [3, 5, 6], [])] [4] (codeOf Try.f101) 0).1
abbrev nt_r16_put : Nat := 54
def L_r16_put_4 (t0r : LL) (t6 : Bool) (t7 : Int) (u0 : LB) (u1 u2 u3 : Int) (u4 : LB) (u5 u6 u7 : LL) (K : KK) : Prop := LoopOK 4 E0.P nt_r16_put (lbodyOf 4 ac_r16_put).code ⟨[(0, (Al 7 t0r)), (3, .ptr nL3 0), (5, .own nL8), (6, (Ab t6)), (7, (Ai t7))], [(nL3, .blk ty_api_Pair [(As u0), (Ai u1), (Ai u2), (Ai u3), (As u4), (Al 6 u5), (Al 7 u6)]), (nL8, .arr 0 true 7 u7)]⟩ K
def C_r16_put_13 (t0r : LL) (t6 : Bool) (t7 : Int) (u0 : LB) (u1 u2 u3 : Int) (u4 : LB) (u5 u6 u7 : LL) (K : KK) : Prop := CutOK 13 E0.P nt_r16_put (cbodyOf 13 ac_r16_put).code ⟨[(0, (Al 7 t0r)), (3, .ptr nL3 0), (5, .own nL8), (6, (Ab t6)), (7, (Ai t7))], [(nL3, .blk ty_api_Pair [(As u0), (Ai u1), (Ai u2), (Ai u3), (As u4), (Al 6 u5), (Al 7 u6)]), (nL8, .arr 0 true 7 u7)]⟩ K
def C_r16_put_15 (t6 : Bool) (u0 : LB) (u1 u2 u3 : Int) (u4 : LB) (u5 u6 u7 : LL) (K : KK) : Prop := CutOK 15 E0.P nt_r16_put (cbodyOf 15 ac_r16_put).code ⟨[(3, .ptr nL3 0), (5, .own nL8), (6, (Ab t6))], [(nL3, .blk ty_api_Pair [(As u0), (Ai u1), (Ai u2), (Ai u3), (As u4), (Al 6 u5), (Al 7 u6)]), (nL8, .arr 0 true 7 u7)]⟩ K
def C_r16_put_14 (t0r : LL) (t6 : Bool) (t7 : Int) (u0 : LB) (u1 u2 u3 : Int) (u4 : LB) (u5 u6 u7 : LL) (K : KK) : Prop := CutOK 14 E0.P nt_r16_put (cbodyOf 14 ac_r16_put).code ⟨[(0, (Al 7 t0r)), (3, .ptr nL3 0), (5, .own nL8), (6, (Ab t6)), (7, (Ai t7))], [(nL3, .blk ty_api_Pair [(As u0), (Ai u1), (Ai u2), (Ai u3), (As u4), (Al 6 u5), (Al 7 u6)]), (nL8, .arr 0 true 7 u7)]⟩ K
def K_r16_put_0 (Q : QQ) : KK := kE fun st => finish 0 E0.T [.tmp 4] [] Q st
def K_r16_put_1 (Q : QQ) : KK := kF 0 (fun st => CutOK 15 E0.P nt_r16_put (cbodyOf 15 ac_r16_put).code (mask [3, 5, 6] st) (K_r16_put_0 Q)) fun st => finish 0 E0.T [.tmp 4] [] Q st
def K_r16_put_2 (K : KK) : Ex → St → Prop
 | .normal, st => LoopOK 4 E0.P nt_r16_put (lbodyOf 4 ac_r16_put).code (mask [0, 3, 5, 6, 7] st) K
 | .exit i, st => K (.exit i) st
 | .goto i, st => K (.goto i) st
 | .ret, st => K .ret st
def K_r16_put_3 (K : KK) : KK := kC 1 (fun st => CutOK 14 E0.P nt_r16_put (cbodyOf 14 ac_r16_put).code (mask [0, 3, 5, 6, 7] st) (K_r16_put_2 K)) K
theorem L_r16_put_4_of (t0r : LL) (t6 : Bool) (t7 : Int) (u0 : LB) (u1 u2 u3 : Int) (u4 : LB) (u5 u6 u7 : LL) (K : KK) (h :
 (Br (decide (t7 < (↑t0r.length : Int)))
 (Req (((0 : Int) ≤ t7 ∧ t7 < (↑t0r.length : Int)) ∧
 shOK
 [.str, .int .i64, .int .i64, .int .i64, .str, .sl 6 ty_api_Value,
 .sl 7 ty_api_Pair]
 (t0r.getD t7.toNat []) =
 true)
 (Br (gS (t0r.getD t7.toNat []) 0 == u0)
 (K .ret ⟨[(4, (Al 7 t0r))], []⟩)
 (Req ((!t6) = true →
 ((0 : Int) ≤ t7 ∧ t7 < (↑t0r.length : Int)) ∧
 shOK
 [.str, .int .i64, .int .i64, .int .i64, .str, .sl 6 ty_api_Value,
 .sl 7 ty_api_Pair]
 (t0r.getD t7.toNat []) =
 true)
 (Let (bif !t6 then Op.bytesLess u0 (gS (t0r.getD t7.toNat []) 0) else false) fun x0 =>
 Br (x0)
 (Req ((u7.length + 1) * 104 ≤ 140737488355328 ∧ u7.length + 1 ≤ 140737488355328)
 (C_r16_put_13 t0r true t7 u0 u1 u2 u3 u4 u5 u6 (u7 ++
 [[IV.str u0, .int .i64 u1, .int .i64 u2, .int .i64 u3, .str u4,
 .sl SK.any 6 u5, .sl SK.any 7 u6]]) (K_r16_put_3 K)))
 (C_r16_put_13 t0r t6 t7 u0 u1 u2 u3 u4 u5 u6 u7 (K_r16_put_3 K))))))
 (K (.exit 0) ⟨[(3, .ptr nL3 0), (5, .own nL8), (6, (Ab t6))], [(nL3, .blk ty_api_Pair [(As u0), (Ai u1), (Ai u2), (Ai u3), (As u4), (Al 6 u5), (Al 7 u6)]), (nL8, .arr 0 true 7 u7)]⟩))) : L_r16_put_4 t0r t6 t7 u0 u1 u2 u3 u4 u5 u6 u7 K := loop_rule (envN E0 nt_r16_put) (okE nt_r16_put) 3 4 (lbodyOf 4 ac_r16_put) [0, 3, 5, 6, 7] _ K rfl (kr (by kernel_rfl) h)
theorem C_r16_put_13_of (t0r : LL) (t6 : Bool) (t7 : Int) (u0 : LB) (u1 u2 u3 : Int) (u4 : LB) (u5 u6 u7 : LL) (K : KK) (h :
 (Req (((0 : Int) ≤ t7 ∧ t7 < (↑t0r.length : Int)) ∧
 shOK
 [.str, .int .i64, .int .i64, .int .i64, .str, .sl 6 ty_api_Value,
 .sl 7 ty_api_Pair]
 (t0r.getD t7.toNat []) =
 true)
 (Req ((u7.length + 1) * 104 ≤ 140737488355328 ∧ u7.length + 1 ≤ 140737488355328)
 (K .normal ⟨[(0, (Al 7 t0r)), (3, .ptr nL3 0), (5, .own nL8), (6, (Ab t6)), (7, (Ai t7))], [(nL3, .blk ty_api_Pair [(As u0), (Ai u1), (Ai u2), (Ai u3), (As u4), (Al 6 u5), (Al 7 u6)]), (nL8, .arr 0 true 7 (u7 ++
 [[IV.str (gS (t0r.getD t7.toNat []) 0), .int .i64 (gI (t0r.getD t7.toNat []) 1),
 .int .i64 (gI (t0r.getD t7.toNat []) 2),
 .int .i64 (gI (t0r.getD t7.toNat []) 3), .str (gS (t0r.getD t7.toNat []) 4),
 .sl SK.any 6 (gR (t0r.getD t7.toNat []) 5),
 .sl SK.any 7 (gR (t0r.getD t7.toNat []) 6)]]))]⟩)))) : C_r16_put_13 t0r t6 t7 u0 u1 u2 u3 u4 u5 u6 u7 K := cut_rule (envN E0 nt_r16_put) (okE nt_r16_put) 3 13 (cbodyOf 13 ac_r16_put) [0, 3, 5, 6, 7] _ K rfl (kr (by kernel_rfl) h)
theorem C_r16_put_15_of (t6 : Bool) (u0 : LB) (u1 u2 u3 : Int) (u4 : LB) (u5 u6 u7 : LL) (K : KK) (h :
 (Br (!t6)
 (Req ((u7.length + 1) * 104 ≤ 140737488355328 ∧ u7.length + 1 ≤ 140737488355328)
 (K .ret ⟨[(4, .own nL8)], [(nL8, .arr 0 true 7 (u7 ++
 [[IV.str u0, .int .i64 u1, .int .i64 u2, .int .i64 u3, .str u4,
 .sl SK.any 6 u5, .sl SK.any 7 u6]]))]⟩))
 (K .ret ⟨[(4, .own nL8)], [(nL8, .arr 0 true 7 u7)]⟩))) : C_r16_put_15 t6 u0 u1 u2 u3 u4 u5 u6 u7 K := cut_rule (envN E0 nt_r16_put) (okE nt_r16_put) 3 15 (cbodyOf 15 ac_r16_put) [] _ K rfl (kr (by kernel_rfl) h)
theorem C_r16_put_14_of (t0r : LL) (t6 : Bool) (t7 : Int) (u0 : LB) (u1 u2 u3 : Int) (u4 : LB) (u5 u6 u7 : LL) (K : KK) (h :
 (K .normal ⟨[(0, (Al 7 t0r)), (3, .ptr nL3 0), (5, .own nL8), (6, (Ab t6)), (7, (Ai (IntKind.i64.wrap (t7 + (1 : Int)))))], [(nL3, .blk ty_api_Pair [(As u0), (Ai u1), (Ai u2), (Ai u3), (As u4), (Al 6 u5), (Al 7 u6)]), (nL8, .arr 0 true 7 u7)]⟩)) : C_r16_put_14 t0r t6 t7 u0 u1 u2 u3 u4 u5 u6 u7 K := cut_rule (envN E0 nt_r16_put) (okE nt_r16_put) 3 14 (cbodyOf 14 ac_r16_put) [0, 3, 5, 6, 7] _ K rfl (kr (by kernel_rfl) h)
theorem K_r16_put_0_x0 (Q : QQ) (u0 : LL) (h :
 (Q (Al 7 u0) [])) : K_r16_put_0 Q .ret ⟨[(4, .own nL8)], [(nL8, .arr 0 true 7 u0)]⟩ := kr (by kernel_rfl) h
theorem K_r16_put_1_x0 (Q : QQ) (t4r : LL) (h :
 (Q (Al 7 t4r) [])) : K_r16_put_1 Q .ret ⟨[(4, (Al 7 t4r))], []⟩ := kr (by kernel_rfl) h
theorem K_r16_put_1_x1 (Q : QQ) (t6 : Bool) (u0 : LB) (u1 u2 u3 : Int) (u4 : LB) (u5 u6 u7 : LL) (h :
 (C_r16_put_15 t6 u0 u1 u2 u3 u4 u5 u6 u7 (K_r16_put_0 Q))) : K_r16_put_1 Q (.exit 0) ⟨[(3, .ptr nL3 0), (5, .own nL8), (6, (Ab t6))], [(nL3, .blk ty_api_Pair [(As u0), (Ai u1), (Ai u2), (Ai u3), (As u4), (Al 6 u5), (Al 7 u6)]), (nL8, .arr 0 true 7 u7)]⟩ := kr (by kernel_rfl) h
theorem K_r16_put_2_x0 (K : KK) (t0r : LL) (t6 : Bool) (t7 : Int) (u0 : LB) (u1 u2 u3 : Int) (u4 : LB) (u5 u6 u7 : LL) (h :
 (L_r16_put_4 t0r t6 t7 u0 u1 u2 u3 u4 u5 u6 u7 K)) : K_r16_put_2 K .normal ⟨[(0, (Al 7 t0r)), (3, .ptr nL3 0), (5, .own nL8), (6, (Ab t6)), (7, (Ai t7))], [(nL3, .blk ty_api_Pair [(As u0), (Ai u1), (Ai u2), (Ai u3), (As u4), (Al 6 u5), (Al 7 u6)]), (nL8, .arr 0 true 7 u7)]⟩ := kr (by kernel_rfl) h
theorem K_r16_put_3_x0 (K : KK) (t0r : LL) (t6 : Bool) (t7 : Int) (u0 : LB) (u1 u2 u3 : Int) (u4 : LB) (u5 u6 u7 : LL) (h :
 (C_r16_put_14 t0r t6 t7 u0 u1 u2 u3 u4 u5 u6 u7 (K_r16_put_2 K))) : K_r16_put_3 K .normal ⟨[(0, (Al 7 t0r)), (3, .ptr nL3 0), (5, .own nL8), (6, (Ab t6)), (7, (Ai t7))], [(nL3, .blk ty_api_Pair [(As u0), (Ai u1), (Ai u2), (Ai u3), (As u4), (Al 6 u5), (Al 7 u6)]), (nL8, .arr 0 true 7 u7)]⟩ := kr (by kernel_rfl) h
theorem ok_r16_put : FnOK E0.P 101 ac_r16_put.code nt_r16_put [.tmp 4] := fn_ok _ _ Try.f101 [(4, [0, 3, 5, 6, 7], []), (6, [3, 5, 6], []), (13, [0, 3, 5, 6, 7], [0, 3, 5, 6, 7]), (14, [0, 3, 5, 6, 7], [0, 3, 5, 6, 7]), (15, [3, 5, 6], [])] [4] _ 54 Try.func101 (by kernel_rfl) (by kernel_rfl) (by kernel_rfl) (by kernel_rfl)
theorem F_r16_put_of (a0 : LL) (a1_0 : LB) (a1_1 a1_2 a1_3 : Int) (a1_4 : LB) (a1_5 a1_6 : LL) (Q : QQ) (h :
 (L_r16_put_4 a0 false ((0 : Int)) a1_0 a1_1 a1_2 a1_3 a1_4 a1_5 a1_6 [] (K_r16_put_1 Q))) : Call E0.P fn_r16_put [(Al 7 a0), (.imm (.agg [(.str a1_0), (.int .i64 a1_1), (.int .i64 a1_2), (.int .i64 a1_3), (.str a1_4), (.sl .any 6 a1_5), (.sl .any 7 a1_6)]))] [] Q := fun_rule (envN E0 nt_r16_put) (okE nt_r16_put) 3 0 101 ac_r16_put [.tmp 4] ok_r16_put _ _ Q rfl rfl (kr (by kernel_rfl) h)
noncomputable def ac_r16_pairs : AC := (annot [(3, [0, 4, 1000003], []), (5, [1000003], []), (8, [1000003], []), (11, [5, 6, 1000003], []), (13, [5], []), (16, [5, 6, 1000003], [5, 6, 1000003]), (17, [5], [])] [2] (codeOf Try.f76) 0).1
abbrev nt_r16_pairs : Nat := 50
def L_r16_pairs_3 (t0r : LL) (t4 : Int) (t3r : LL) (K : KK) : Prop := LoopOK 3 E0.P nt_r16_pairs (lbodyOf 3 ac_r16_pairs).code ⟨[(0, (Al 7 t0r)), (4, (Ai t4)), (3, (Al 7 t3r))], []⟩ K
def C_r16_pairs_8 (t3r : LL) (K : KK) : Prop := CutOK 8 E0.P nt_r16_pairs (cbodyOf 8 ac_r16_pairs).code ⟨[(3, (Al 7 t3r))], []⟩ K
def L_r16_pairs_11 (t6 : Int) (t3r u0 : LL) (K : KK) : Prop := LoopOK 11 E0.P nt_r16_pairs (lbodyOf 11 ac_r16_pairs).code ⟨[(5, .own nL28), (6, (Ai t6)), (3, (Al 7 t3r))], [(nL28, .arr 0 true 7 u0)]⟩ K
def C_r16_pairs_16 (t6 : Int) (t3r u0 : LL) (K : KK) : Prop := CutOK 16 E0.P nt_r16_pairs (cbodyOf 16 ac_r16_pairs).code ⟨[(5, .own nL28), (6, (Ai t6)), (3, (Al 7 t3r))], [(nL28, .arr 0 true 7 u0)]⟩ K
def C_r16_pairs_17 (u0 : LL) (K : KK) : Prop := CutOK 17 E0.P nt_r16_pairs (cbodyOf 17 ac_r16_pairs).code ⟨[(5, .own nL28)], [(nL28, .arr 0 true 7 u0)]⟩ K
def K_r16_pairs_0 (Q : QQ) : KK := kE fun st => finish 0 E0.T [.tmp 2] [] Q st
def K_r16_pairs_1 (Q : QQ) : KK := kF 0 (fun st => CutOK 8 E0.P nt_r16_pairs (cbodyOf 8 ac_r16_pairs).code (mask [1000003] st) (K_r16_pairs_0 Q)) fun st => finish 0 E0.T [.tmp 2] [] Q st
def K_r16_pairs_2 (K : KK) : KK := kP [] K
def K_r16_pairs_3 (K : KK) : KK := kC 2 (fun st => CutOK 17 E0.P nt_r16_pairs (cbodyOf 17 ac_r16_pairs).code (mask [5] st) (K_r16_pairs_2 K)) K
def K_r16_pairs_4 (K : KK) : Ex → St → Prop
 | .normal, st => LoopOK 11 E0.P nt_r16_pairs (lbodyOf 11 ac_r16_pairs).code (mask [5, 6, 1000003] st) K
 | .exit i, st => K (.exit i) st
 | .goto i, st => K (.goto i) st
 | .ret, st => K .ret st
theorem L_r16_pairs_3_of (t0r : LL) (t4 : Int) (t3r : LL) (K : KK) (h :
 (Br (decide (t4 < (↑t0r.length : Int)))
 (Req (((0 : Int) ≤ t4 ∧ t4 < (↑t0r.length : Int)) ∧
 shOK
 [.str, .int .i64, .int .i64, .int .i64, .str, .sl 6 ty_api_Value,
 .sl 7 ty_api_Pair]
 (t0r.getD t4.toNat []) =
 true)
 (Req (((0 : Int) ≤ t4 ∧ t4 < (↑t0r.length : Int)) ∧
 shOK
 [.str, .int .i64, .int .i64, .int .i64, .str, .sl 6 ty_api_Value,
 .sl 7 ty_api_Pair]
 (t0r.getD t4.toNat []) =
 true)
 (Call E0.P fn_r16_Plain [(.imm (.agg [(.int .i64 (gI (t0r.getD t4.toNat []) 1)), (.int .i64 (gI (t0r.getD t4.toNat []) 2)), (.int .i64 (gI (t0r.getD t4.toNat []) 3)), (.str (gS (t0r.getD t4.toNat []) 4)), (.sl .any 6 (gR (t0r.getD t4.toNat []) 5)), (.sl .any 7 (gR (t0r.getD t4.toNat []) 6))]))] [] fun r0 g0 =>
 Req (qV3 g0 r0)
 (Call E0.P fn_r16_put [(Al 7 t3r), (.imm (.agg [(.str (gS (t0r.getD t4.toNat []) 0)), (.int .i64 (gI (aCells r0) 0)), (.int .i64 (gI (aCells r0) 1)), (.int .i64 (gI (aCells r0) 2)), (.str (gS (aCells r0) 3)), (.sl .any 6 (gR (aCells r0) 4)), (.sl .any 7 (gR (aCells r0) 5))]))] [] fun r1 g1 =>
 Req (qV4 g1 r1)
 (L_r16_pairs_3 t0r (IntKind.i64.wrap (t4 + (1 : Int))) (rR r1) K)))))
 (K (.exit 0) ⟨[(3, (Al 7 t3r))], []⟩))) : L_r16_pairs_3 t0r t4 t3r K := loop_rule (envN E0 nt_r16_pairs) (okE nt_r16_pairs) 3 3 (lbodyOf 3 ac_r16_pairs) [0, 4, 1000003] _ K rfl (kr (by kernel_rfl) h)
theorem C_r16_pairs_8_of (t3r : LL) (K : KK) (h :
 (L_r16_pairs_11 ((0 : Int)) t3r [] (K_r16_pairs_3 K))) : C_r16_pairs_8 t3r K := cut_rule (envN E0 nt_r16_pairs) (okE nt_r16_pairs) 3 8 (cbodyOf 8 ac_r16_pairs) [] _ K rfl (kr (by kernel_rfl) h)
theorem L_r16_pairs_11_of (t6 : Int) (t3r u0 : LL) (K : KK) (h :
 (Br (decide (t6 < (↑t3r.length : Int)))
 (Req (((0 : Int) ≤ t6 ∧ t6 < (↑t3r.length : Int)) ∧
 shOK
 [.str, .int .i64, .int .i64, .int .i64, .str, .sl 6 ty_api_Value,
 .sl 7 ty_api_Pair]
 (t3r.getD t6.toNat []) =
 true)
 (Br (!decide (gI (t3r.getD t6.toNat []) 1 = (0 : Int)))
 (Req (((0 : Int) ≤ t6 ∧ t6 < (↑t3r.length : Int)) ∧
 shOK
 [.str, .int .i64, .int .i64, .int .i64, .str, .sl 6 ty_api_Value,
 .sl 7 ty_api_Pair]
 (t3r.getD t6.toNat []) =
 true)
 (Req ((u0.length + 1) * 104 ≤ 140737488355328 ∧ u0.length + 1 ≤ 140737488355328)
 (C_r16_pairs_16 t6 t3r (u0 ++
 [[IV.str (gS (t3r.getD t6.toNat []) 0), .int .i64 (gI (t3r.getD t6.toNat []) 1),
 .int .i64 (gI (t3r.getD t6.toNat []) 2),
 .int .i64 (gI (t3r.getD t6.toNat []) 3), .str (gS (t3r.getD t6.toNat []) 4),
 .sl SK.any 6 (gR (t3r.getD t6.toNat []) 5),
 .sl SK.any 7 (gR (t3r.getD t6.toNat []) 6)]]) (K_r16_pairs_4 K))))
 (C_r16_pairs_16 t6 t3r u0 (K_r16_pairs_4 K))))
 (K (.exit (2)) ⟨[(5, .own nL28)], [(nL28, .arr 0 true 7 u0)]⟩))) : L_r16_pairs_11 t6 t3r u0 K := loop_rule (envN E0 nt_r16_pairs) (okE nt_r16_pairs) 3 11 (lbodyOf 11 ac_r16_pairs) [5, 6, 1000003] _ K rfl (kr (by kernel_rfl) h)
theorem C_r16_pairs_16_of (t6 : Int) (t3r u0 : LL) (K : KK) (h :
 (K .normal ⟨[(5, .own nL28), (6, (Ai (IntKind.i64.wrap (t6 + (1 : Int))))), (3, (Al 7 t3r))], [(nL28, .arr 0 true 7 u0)]⟩)) : C_r16_pairs_16 t6 t3r u0 K := cut_rule (envN E0 nt_r16_pairs) (okE nt_r16_pairs) 3 16 (cbodyOf 16 ac_r16_pairs) [5, 6, 1000003] _ K rfl (kr (by kernel_rfl) h)
theorem C_r16_pairs_17_of (u0 : LL) (K : KK) (h :
 (K .ret ⟨[(2, .own nL28)], [(nL28, .arr 0 true 7 u0)]⟩)) : C_r16_pairs_17 u0 K := cut_rule (envN E0 nt_r16_pairs) (okE nt_r16_pairs) 3 17 (cbodyOf 17 ac_r16_pairs) [] _ K rfl (kr (by kernel_rfl) h)
theorem K_r16_pairs_0_x0 (Q : QQ) (u0 : LL) (h :
 (Q (Al 7 u0) [])) : K_r16_pairs_0 Q .ret ⟨[(2, .own nL28)], [(nL28, .arr 0 true 7 u0)]⟩ := kr (by kernel_rfl) h
theorem K_r16_pairs_1_x0 (Q : QQ) (t3r : LL) (h :
 (C_r16_pairs_8 t3r (K_r16_pairs_0 Q))) : K_r16_pairs_1 Q (.exit 0) ⟨[(3, (Al 7 t3r))], []⟩ := kr (by kernel_rfl) h
theorem K_r16_pairs_2_x0 (K : KK) (u0 : LL) (h :
 (K .ret ⟨[(2, .own nL28)], [(nL28, .arr 0 true 7 u0)]⟩)) : K_r16_pairs_2 K .ret ⟨[(2, .own nL28)], [(nL28, .arr 0 true 7 u0)]⟩ := kr (by kernel_rfl) h
theorem K_r16_pairs_3_x0 (K : KK) (u0 : LL) (h :
 (C_r16_pairs_17 u0 (K_r16_pairs_2 K))) : K_r16_pairs_3 K (.exit (2)) ⟨[(5, .own nL28)], [(nL28, .arr 0 true 7 u0)]⟩ := kr (by kernel_rfl) h
theorem K_r16_pairs_4_x0 (K : KK) (t6 : Int) (t3r u0 : LL) (h :
 (L_r16_pairs_11 t6 t3r u0 K)) : K_r16_pairs_4 K .normal ⟨[(5, .own nL28), (6, (Ai t6)), (3, (Al 7 t3r))], [(nL28, .arr 0 true 7 u0)]⟩ := kr (by kernel_rfl) h
theorem ok_r16_pairs : FnOK E0.P 76 ac_r16_pairs.code nt_r16_pairs [.tmp 2] := fn_ok _ _ Try.f76 [(3, [0, 4, 1000003], []), (5, [1000003], []), (8, [1000003], []), (11, [5, 6, 1000003], []), (13, [5], []), (16, [5, 6, 1000003], [5, 6, 1000003]), (17, [5], [])] [2] _ 50 Try.func76 (by kernel_rfl) (by kernel_rfl) (by kernel_rfl) (by kernel_rfl)
theorem F_r16_pairs_of (a0 : LL) (Q : QQ) (h :
 (L_r16_pairs_3 a0 ((0 : Int)) [] (K_r16_pairs_1 Q))) : Call E0.P fn_r16_pairs [(Al 7 a0)] [] Q := fun_rule (envN E0 nt_r16_pairs) (okE nt_r16_pairs) 3 0 76 ac_r16_pairs [.tmp 2] ok_r16_pairs _ _ Q rfl rfl (kr (by kernel_rfl) h)
noncomputable def ac_r16_Plain : AC := (annot [(4, [1, 2, 10, 12, 1000003], [2, 1000003]), (6, [1, 2, 10, 18, 1000003], [2, 1000003]), (10, [1, 2, 4, 5, 1000003], []), (12, [2, 4, 1000003], []), (15, [2, 4, 1000003], [2, 1000003]), (20, [2, 1000003], [])] [2] (codeOf Try.f48) 0).1
abbrev nt_r16_Plain : Nat := 69
def C_r16_Plain_4 (t10 : Int) (t12 : Bool) (u0 u1 u2 : Int) (u3 : LB) (u4 u5 : LL) (u6 u7 u8 : Int) (u9 : LB) (v0 v1 v2 : Int) (v3 : LB) (v4 v5 : LL) (v6 v7 : LL) (K : KK) : Prop := CutOK 4 E0.P nt_r16_Plain (cbodyOf 4 ac_r16_Plain).code ⟨[(1, .ptr nL1 0), (2, .ptr nL2 0), (10, (Ai t10)), (12, (Ab t12)), (3, .ptr nL3 0)], [(nL1, .blk ty_api_Value [(Ai u0), (Ai u1), (Ai u2), (As u3), (Al 6 u4), (Al 7 u5)]), (nL2, .blk ty_api_Value [(Ai u6), (Ai u7), (Ai u8), (As u9), (.own (nL2.cell 4)), (.own (nL2.cell 5))]), (nL3, .blk ty_api_Value [(Ai v0), (Ai v1), (Ai v2), (As v3), (Al 6 v4), (Al 7 v5)]), ((nL2.cell 4), .arr (ty_api_Value + 2) true 6 v6), ((nL2.cell 5), .arr (ty_api_Pair + 2) true 7 v7)]⟩ K
def C_r16_Plain_6 (t10 : Int) (t18 : Bool) (u0 u1 u2 : Int) (u3 : LB) (u4 u5 : LL) (u6 u7 u8 : Int) (u9 : LB) (v0 v1 v2 : Int) (v3 : LB) (v4 v5 : LL) (v6 v7 : LL) (K : KK) : Prop := CutOK 6 E0.P nt_r16_Plain (cbodyOf 6 ac_r16_Plain).code ⟨[(1, .ptr nL1 0), (2, .ptr nL2 0), (10, (Ai t10)), (18, (Ab t18)), (3, .ptr nL3 0)], [(nL1, .blk ty_api_Value [(Ai u0), (Ai u1), (Ai u2), (As u3), (Al 6 u4), (Al 7 u5)]), (nL2, .blk ty_api_Value [(Ai u6), (Ai u7), (Ai u8), (As u9), (.own (nL2.cell 4)), (.own (nL2.cell 5))]), (nL3, .blk ty_api_Value [(Ai v0), (Ai v1), (Ai v2), (As v3), (Al 6 v4), (Al 7 v5)]), ((nL2.cell 4), .arr (ty_api_Value + 2) true 6 v6), ((nL2.cell 5), .arr (ty_api_Pair + 2) true 7 v7)]⟩ K
def L_r16_Plain_10 (t5 u0 : Int) (u1 u2 : Int) (u3 : LB) (u4 u5 : LL) (u6 u7 u8 : Int) (u9 : LB) (v0 : LL) (v1 v2 v3 : Int) (v4 : LB) (v5 v6 : LL) (v7 v8 : LL) (K : KK) : Prop := LoopOK 10 E0.P nt_r16_Plain (lbodyOf 10 ac_r16_Plain).code ⟨[(1, .ptr nL1 0), (2, .ptr nL2 0), (4, .own nL26), (5, (Ai t5)), (3, .ptr nL3 0)], [(nL1, .blk ty_api_Value [(Ai u0), (Ai u1), (Ai u2), (As u3), (Al 6 u4), (Al 7 u5)]), (nL2, .blk ty_api_Value [(Ai u6), (Ai u7), (Ai u8), (As u9), (.own (nL2.cell 4)), (.own (nL2.cell 5))]), (nL26, .arr 0 true 6 v0), (nL3, .blk ty_api_Value [(Ai v1), (Ai v2), (Ai v3), (As v4), (Al 6 v5), (Al 7 v6)]), ((nL2.cell 4), .arr (ty_api_Value + 2) true 6 v7), ((nL2.cell 5), .arr (ty_api_Pair + 2) true 7 v8)]⟩ K
def C_r16_Plain_20 (u0 u1 u2 : Int) (u3 : LB) (u4 u5 u6 : Int) (u7 : LB) (u8 u9 : LL) (v0 v1 : LL) (K : KK) : Prop := CutOK 20 E0.P nt_r16_Plain (cbodyOf 20 ac_r16_Plain).code ⟨[(2, .ptr nL2 0), (3, .ptr nL3 0)], [(nL2, .blk ty_api_Value [(Ai u0), (Ai u1), (Ai u2), (As u3), (.own (nL2.cell 4)), (.own (nL2.cell 5))]), (nL3, .blk ty_api_Value [(Ai u4), (Ai u5), (Ai u6), (As u7), (Al 6 u8), (Al 7 u9)]), ((nL2.cell 4), .arr (ty_api_Value + 2) true 6 v0), ((nL2.cell 5), .arr (ty_api_Pair + 2) true 7 v1)]⟩ K
def C_r16_Plain_15 (u0 u1 u2 : Int) (u3 : LB) (u4 : LL) (u5 u6 u7 : Int) (u8 : LB) (u9 v0 : LL) (v1 v2 : LL) (K : KK) : Prop := CutOK 15 E0.P nt_r16_Plain (cbodyOf 15 ac_r16_Plain).code ⟨[(2, .ptr nL2 0), (4, .own nL26), (3, .ptr nL3 0)], [(nL2, .blk ty_api_Value [(Ai u0), (Ai u1), (Ai u2), (As u3), (.own (nL2.cell 4)), (.own (nL2.cell 5))]), (nL26, .arr 0 true 6 u4), (nL3, .blk ty_api_Value [(Ai u5), (Ai u6), (Ai u7), (As u8), (Al 6 u9), (Al 7 v0)]), ((nL2.cell 4), .arr (ty_api_Value + 2) true 6 v1), ((nL2.cell 5), .arr (ty_api_Pair + 2) true 7 v2)]⟩ K
def K_r16_Plain_0 (Q : QQ) : KK := kE fun st => finish 0 E0.T [.cell 2 37] [] Q st
def K_r16_Plain_1 (Q : QQ) : KK := kF 0 (fun st => CutOK 20 E0.P nt_r16_Plain (cbodyOf 20 ac_r16_Plain).code (mask [2, 1000003] st) (K_r16_Plain_0 Q)) fun st => finish 0 E0.T [.cell 2 37] [] Q st
def K_r16_Plain_2 (K : KK) : KK := kP [2, 1000003] K
def K_r16_Plain_3 (K : KK) : KK := kC 1 (fun st => CutOK 15 E0.P nt_r16_Plain (cbodyOf 15 ac_r16_Plain).code (mask [2, 4, 1000003] st) (K_r16_Plain_2 K)) K
theorem C_r16_Plain_4_of (t10 : Int) (t12 : Bool) (u0 u1 u2 : Int) (u3 : LB) (u4 u5 : LL) (u6 u7 u8 : Int) (u9 : LB) (v0 v1 v2 : Int) (v3 : LB) (v4 v5 : LL) (v6 v7 : LL) (K : KK) (h :
 (Br (t12)
 (K .normal ⟨[(2, .ptr nL2 0), (3, .ptr nL3 0)], [(nL2, .blk ty_api_Value [(Ai u6), (Ai u7), (Ai u8), (As u9), (.own (nL2.cell 4)), (.own (nL2.cell 5))]), (nL3, .blk ty_api_Value [(Ai v0), (Ai u1), (Ai v2), (As v3), (Al 6 v4), (Al 7 v5)]), ((nL2.cell 4), .arr (ty_api_Value + 2) true 6 v6), ((nL2.cell 5), .arr (ty_api_Pair + 2) true 7 v7)]⟩)
 (Br (decide (t10 = (3 : Int)))
 (C_r16_Plain_6 t10 (decide (t10 = (3 : Int))) u0 u1 u2 u3 u4 u5 u6 u7 u8 u9 v0 v1 v2 v3 v4 v5 v6 v7 (K_r16_Plain_2 K))
 (C_r16_Plain_6 t10 (decide (t10 = (4 : Int))) u0 u1 u2 u3 u4 u5 u6 u7 u8 u9 v0 v1 v2 v3 v4 v5 v6 v7 (K_r16_Plain_2 K))))) : C_r16_Plain_4 t10 t12 u0 u1 u2 u3 u4 u5 u6 u7 u8 u9 v0 v1 v2 v3 v4 v5 v6 v7 K := cut_rule (envN E0 nt_r16_Plain) (okE nt_r16_Plain) 3 4 (cbodyOf 4 ac_r16_Plain) [2, 1000003] _ K rfl (kr (by kernel_rfl) h)
theorem C_r16_Plain_6_of (t10 : Int) (t18 : Bool) (u0 u1 u2 : Int) (u3 : LB) (u4 u5 : LL) (u6 u7 u8 : Int) (u9 : LB) (v0 v1 v2 : Int) (v3 : LB) (v4 v5 : LL) (v6 v7 : LL) (K : KK) (h :
 (Br (t18)
 (K .normal ⟨[(2, .ptr nL2 0), (3, .ptr nL3 0)], [(nL2, .blk ty_api_Value [(Ai u6), (Ai u7), (Ai u8), (As u9), (.own (nL2.cell 4)), (.own (nL2.cell 5))]), (nL3, .blk ty_api_Value [(Ai v0), (Ai v1), (Ai v2), (As u3), (Al 6 v4), (Al 7 v5)]), ((nL2.cell 4), .arr (ty_api_Value + 2) true 6 v6), ((nL2.cell 5), .arr (ty_api_Pair + 2) true 7 v7)]⟩)
 (Br (decide (t10 = (5 : Int)))
 (L_r16_Plain_10 ((0 : Int)) u0 u1 u2 u3 u4 u5 u6 u7 u8 u9 [] v0 v1 v2 v3 v4 v5 v6 v7 (K_r16_Plain_3 K))
 (Br (decide (t10 = (6 : Int)))
 (Call E0.P fn_r16_pairs [(Al 7 u5)] [] fun r0 g0 =>
 Req (qV4 g0 r0)
 (K .normal ⟨[(2, .ptr nL2 0), (3, .ptr nL3 0)], [(nL2, .blk ty_api_Value [(Ai u6), (Ai u7), (Ai u8), (As u9), (.own (nL2.cell 4)), (.own (nL2.cell 5))]), (nL3, .blk ty_api_Value [(Ai v0), (Ai v1), (Ai v2), (As v3), (Al 6 v4), (Al 7 (rR r0))]), ((nL2.cell 4), .arr (ty_api_Value + 2) true 6 v6), ((nL2.cell 5), .arr (ty_api_Pair + 2) true 7 v7)]⟩))
 (Br (decide (t10 = (7 : Int)))
 (K .normal ⟨[(2, .ptr nL2 0), (3, .ptr nL3 0)], [(nL2, .blk ty_api_Value [(Ai u6), (Ai u7), (Ai u8), (As u9), (.own (nL2.cell 4)), (.own (nL2.cell 5))]), (nL3, .blk ty_api_Value [(Ai v0), (Ai u1), (Ai u2), (As v3), (Al 6 v4), (Al 7 v5)]), ((nL2.cell 4), .arr (ty_api_Value + 2) true 6 v6), ((nL2.cell 5), .arr (ty_api_Pair + 2) true 7 v7)]⟩)
 (Br (decide (t10 = (8 : Int)))
 (Call E0.P fn_r16_pairs [(Al 7 u5)] [] fun r1 g1 =>
 Req (qV4 g1 r1)
 (K .normal ⟨[(2, .ptr nL2 0), (3, .ptr nL3 0)], [(nL2, .blk ty_api_Value [(Ai u6), (Ai u7), (Ai u8), (As u9), (.own (nL2.cell 4)), (.own (nL2.cell 5))]), (nL3, .blk ty_api_Value [(Ai v0), (Ai v1), (Ai v2), (As u3), (Al 6 v4), (Al 7 (rR r1))]), ((nL2.cell 4), .arr (ty_api_Value + 2) true 6 v6), ((nL2.cell 5), .arr (ty_api_Pair + 2) true 7 v7)]⟩))
 (K .ret ⟨[(2, .ptr nL2 0)], [(nL2, .blk ty_api_Value [(Ai 0), (Ai 0), (Ai 0), (.imm (.str [])), (.own (nL2.cell 4)), (.own (nL2.cell 5))]), ((nL2.cell 4), .arr (ty_api_Value + 2) true 6 []), ((nL2.cell 5), .arr (ty_api_Pair + 2) true 7 [])]⟩))))))) : C_r16_Plain_6 t10 t18 u0 u1 u2 u3 u4 u5 u6 u7 u8 u9 v0 v1 v2 v3 v4 v5 v6 v7 K := cut_rule (envN E0 nt_r16_Plain) (okE nt_r16_Plain) 3 6 (cbodyOf 6 ac_r16_Plain) [2, 1000003] _ K rfl (kr (by kernel_rfl) h)
theorem L_r16_Plain_10_of (t5 u0 : Int) (u1 u2 : Int) (u3 : LB) (u4 u5 : LL) (u6 u7 u8 : Int) (u9 : LB) (v0 : LL) (v1 v2 v3 : Int) (v4 : LB) (v5 v6 : LL) (v7 v8 : LL) (K : KK) (h :
 (Br (decide (t5 < (↑u4.length : Int)))
 (Req (((0 : Int) ≤ t5 ∧ t5 < (↑u4.length : Int)) ∧
 shOK
 [.int .i64, .int .i64, .int .i64, .str, .sl 6 ty_api_Value,
 .sl 7 ty_api_Pair]
 (u4.getD t5.toNat []) =
 true)
 (Call E0.P fn_r16_Plain [(.imm (.agg [(.int .i64 (gI (u4.getD t5.toNat []) 0)), (.int .i64 (gI (u4.getD t5.toNat []) 1)), (.int .i64 (gI (u4.getD t5.toNat []) 2)), (.str (gS (u4.getD t5.toNat []) 3)), (.sl .any 6 (gR (u4.getD t5.toNat []) 4)), (.sl .any 7 (gR (u4.getD t5.toNat []) 5))]))] [] fun r0 g0 =>
 Req (qV3 g0 r0)
 (Req ((v0.length + 1) * 88 ≤ 140737488355328 ∧ v0.length + 1 ≤ 140737488355328)
 (L_r16_Plain_10 (IntKind.i64.wrap (t5 + (1 : Int))) u0 u1 u2 u3 u4 u5 u6 u7 u8 u9 (v0 ++
 [[IV.int .i64 (gI (aCells r0) 0), .int .i64 (gI (aCells r0) 1),
 .int .i64 (gI (aCells r0) 2), .str (gS (aCells r0) 3),
 .sl SK.any 6 (gR (aCells r0) 4), .sl SK.any 7 (gR (aCells r0) 5)]]) v1 v2 v3 v4 v5 v6 v7 v8 K))))
 (K (.exit (1)) ⟨[(2, .ptr nL2 0), (4, .own nL26), (3, .ptr nL3 0)], [(nL2, .blk ty_api_Value [(Ai u6), (Ai u7), (Ai u8), (As u9), (.own (nL2.cell 4)), (.own (nL2.cell 5))]), (nL26, .arr 0 true 6 v0), (nL3, .blk ty_api_Value [(Ai v1), (Ai v2), (Ai v3), (As v4), (Al 6 v5), (Al 7 v6)]), ((nL2.cell 4), .arr (ty_api_Value + 2) true 6 v7), ((nL2.cell 5), .arr (ty_api_Pair + 2) true 7 v8)]⟩))) : L_r16_Plain_10 t5 u0 u1 u2 u3 u4 u5 u6 u7 u8 u9 v0 v1 v2 v3 v4 v5 v6 v7 v8 K := loop_rule (envN E0 nt_r16_Plain) (okE nt_r16_Plain) 3 10 (lbodyOf 10 ac_r16_Plain) [1, 2, 4, 5, 1000003] _ K rfl (kr (by kernel_rfl) h)
theorem C_r16_Plain_20_of (u0 u1 u2 : Int) (u3 : LB) (u4 u5 u6 : Int) (u7 : LB) (u8 u9 : LL) (v0 v1 : LL) (K : KK) (h :
 (K .ret ⟨[(2, .ptr nL2 0)], [(nL2, .blk ty_api_Value [(Ai u4), (Ai u5), (Ai u6), (As u7), (Al 6 u8), (Al 7 u9)])]⟩)) : C_r16_Plain_20 u0 u1 u2 u3 u4 u5 u6 u7 u8 u9 v0 v1 K := cut_rule (envN E0 nt_r16_Plain) (okE nt_r16_Plain) 3 20 (cbodyOf 20 ac_r16_Plain) [] _ K rfl (kr (by kernel_rfl) h)
theorem C_r16_Plain_15_of (u0 u1 u2 : Int) (u3 : LB) (u4 : LL) (u5 u6 u7 : Int) (u8 : LB) (u9 v0 : LL) (v1 v2 : LL) (K : KK) (h :
 (K .normal ⟨[(2, .ptr nL2 0), (3, .ptr nL3 0)], [(nL2, .blk ty_api_Value [(Ai u0), (Ai u1), (Ai u2), (As u3), (.own (nL2.cell 4)), (.own (nL2.cell 5))]), (nL3, .blk ty_api_Value [(Ai u5), (Ai u6), (Ai u7), (As u8), (Al 6 u4), (Al 7 v0)]), ((nL2.cell 4), .arr (ty_api_Value + 2) true 6 v1), ((nL2.cell 5), .arr (ty_api_Pair + 2) true 7 v2)]⟩)) : C_r16_Plain_15 u0 u1 u2 u3 u4 u5 u6 u7 u8 u9 v0 v1 v2 K := cut_rule (envN E0 nt_r16_Plain) (okE nt_r16_Plain) 3 15 (cbodyOf 15 ac_r16_Plain) [2, 1000003] _ K rfl (kr (by kernel_rfl) h)
theorem K_r16_Plain_0_x0 (Q : QQ) (u0 u1 u2 : Int) (u3 : LB) (u4 u5 : LL) (h :
 (Q (.imm (.agg [(.int .i64 u0), (.int .i64 u1), (.int .i64 u2), (.str u3), (.sl .any 6 u4), (.sl .any 7 u5)])) [])) : K_r16_Plain_0 Q .ret ⟨[(2, .ptr nL2 0)], [(nL2, .blk ty_api_Value [(Ai u0), (Ai u1), (Ai u2), (As u3), (Al 6 u4), (Al 7 u5)])]⟩ := kr (by kernel_rfl) h
theorem K_r16_Plain_1_x0 (Q : QQ) (u0 u1 u2 : Int) (u3 : LB) (u4 u5 u6 : Int) (u7 : LB) (u8 u9 : LL) (v0 v1 : LL) (h :
 (C_r16_Plain_20 u0 u1 u2 u3 u4 u5 u6 u7 u8 u9 v0 v1 (K_r16_Plain_0 Q))) : K_r16_Plain_1 Q .normal ⟨[(2, .ptr nL2 0), (3, .ptr nL3 0)], [(nL2, .blk ty_api_Value [(Ai u0), (Ai u1), (Ai u2), (As u3), (.own (nL2.cell 4)), (.own (nL2.cell 5))]), (nL3, .blk ty_api_Value [(Ai u4), (Ai u5), (Ai u6), (As u7), (Al 6 u8), (Al 7 u9)]), ((nL2.cell 4), .arr (ty_api_Value + 2) true 6 v0), ((nL2.cell 5), .arr (ty_api_Pair + 2) true 7 v1)]⟩ := kr (by kernel_rfl) h
theorem K_r16_Plain_1_x1 (Q : QQ) (u0 u1 u2 : Int) (u3 : LB) (u4 u5 : LL) (h :
 (Q (.imm (.agg [(.int .i64 u0), (.int .i64 u1), (.int .i64 u2), (.str u3), (.sl .any 6 u4), (.sl .any 7 u5)])) [])) : K_r16_Plain_1 Q .ret ⟨[(2, .ptr nL2 0)], [(nL2, .blk ty_api_Value [(Ai u0), (Ai u1), (Ai u2), (As u3), (.own (nL2.cell 4)), (.own (nL2.cell 5))]), ((nL2.cell 4), .arr (ty_api_Value + 2) true 6 u4), ((nL2.cell 5), .arr (ty_api_Pair + 2) true 7 u5)]⟩ := kr (by kernel_rfl) h
theorem K_r16_Plain_2_x0 (K : KK) (u0 u1 u2 : Int) (u3 : LB) (u4 u5 u6 : Int) (u7 : LB) (u8 u9 : LL) (v0 v1 : LL) (h :
 (K .normal ⟨[(2, .ptr nL2 0), (3, .ptr nL3 0)], [(nL2, .blk ty_api_Value [(Ai u0), (Ai u1), (Ai u2), (As u3), (.own (nL2.cell 4)), (.own (nL2.cell 5))]), (nL3, .blk ty_api_Value [(Ai u4), (Ai u5), (Ai u6), (As u7), (Al 6 u8), (Al 7 u9)]), ((nL2.cell 4), .arr (ty_api_Value + 2) true 6 v0), ((nL2.cell 5), .arr (ty_api_Pair + 2) true 7 v1)]⟩)) : K_r16_Plain_2 K .normal ⟨[(2, .ptr nL2 0), (3, .ptr nL3 0)], [(nL2, .blk ty_api_Value [(Ai u0), (Ai u1), (Ai u2), (As u3), (.own (nL2.cell 4)), (.own (nL2.cell 5))]), (nL3, .blk ty_api_Value [(Ai u4), (Ai u5), (Ai u6), (As u7), (Al 6 u8), (Al 7 u9)]), ((nL2.cell 4), .arr (ty_api_Value + 2) true 6 v0), ((nL2.cell 5), .arr (ty_api_Pair + 2) true 7 v1)]⟩ := kr (by kernel_rfl) h
theorem K_r16_Plain_2_x1 (K : KK) (u0 u1 u2 : Int) (u3 : LB) (u4 u5 : LL) (h :
 (K .ret ⟨[(2, .ptr nL2 0)], [(nL2, .blk ty_api_Value [(Ai u0), (Ai u1), (Ai u2), (As u3), (.own (nL2.cell 4)), (.own (nL2.cell 5))]), ((nL2.cell 4), .arr (ty_api_Value + 2) true 6 u4), ((nL2.cell 5), .arr (ty_api_Pair + 2) true 7 u5)]⟩)) : K_r16_Plain_2 K .ret ⟨[(2, .ptr nL2 0)], [(nL2, .blk ty_api_Value [(Ai u0), (Ai u1), (Ai u2), (As u3), (.own (nL2.cell 4)), (.own (nL2.cell 5))]), ((nL2.cell 4), .arr (ty_api_Value + 2) true 6 u4), ((nL2.cell 5), .arr (ty_api_Pair + 2) true 7 u5)]⟩ := kr (by kernel_rfl) h
theorem K_r16_Plain_3_x0 (K : KK) (u0 u1 u2 : Int) (u3 : LB) (u4 : LL) (u5 u6 u7 : Int) (u8 : LB) (u9 v0 : LL) (v1 v2 : LL) (h :
 (C_r16_Plain_15 u0 u1 u2 u3 u4 u5 u6 u7 u8 u9 v0 v1 v2 (K_r16_Plain_2 K))) : K_r16_Plain_3 K (.exit (1)) ⟨[(2, .ptr nL2 0), (4, .own nL26), (3, .ptr nL3 0)], [(nL2, .blk ty_api_Value [(Ai u0), (Ai u1), (Ai u2), (As u3), (.own (nL2.cell 4)), (.own (nL2.cell 5))]), (nL26, .arr 0 true 6 u4), (nL3, .blk ty_api_Value [(Ai u5), (Ai u6), (Ai u7), (As u8), (Al 6 u9), (Al 7 v0)]), ((nL2.cell 4), .arr (ty_api_Value + 2) true 6 v1), ((nL2.cell 5), .arr (ty_api_Pair + 2) true 7 v2)]⟩ := kr (by kernel_rfl) h
theorem ok_r16_Plain : FnOK E0.P 48 ac_r16_Plain.code nt_r16_Plain [.cell 2 37] := fn_ok _ _ Try.f48 [(4, [1, 2, 10, 12, 1000003], [2, 1000003]), (6, [1, 2, 10, 18, 1000003], [2, 1000003]), (10, [1, 2, 4, 5, 1000003], []), (12, [2, 4, 1000003], []), (15, [2, 4, 1000003], [2, 1000003]), (20, [2, 1000003], [])] [2] _ 69 Try.func48 (by kernel_rfl) (by kernel_rfl) (by kernel_rfl) (by kernel_rfl)
theorem F_r16_Plain_of (a0_0 a0_1 a0_2 : Int) (a0_3 : LB) (a0_4 a0_5 : LL) (Q : QQ) (h :
 (Br (decide (a0_0 = (1 : Int)))
 (C_r16_Plain_4 a0_0 (decide (a0_0 = (1 : Int))) a0_0 a0_1 a0_2 a0_3 a0_4 a0_5 ((0 : Int)) ((0 : Int)) ((0 : Int)) [] a0_0 ((0 : Int)) ((0 : Int)) [] [] [] [] [] (K_r16_Plain_1 Q))
 (C_r16_Plain_4 a0_0 (decide (a0_0 = (2 : Int))) a0_0 a0_1 a0_2 a0_3 a0_4 a0_5 ((0 : Int)) ((0 : Int)) ((0 : Int)) [] a0_0 ((0 : Int)) ((0 : Int)) [] [] [] [] [] (K_r16_Plain_1 Q)))) : Call E0.P fn_r16_Plain [(.imm (.agg [(.int .i64 a0_0), (.int .i64 a0_1), (.int .i64 a0_2), (.str a0_3), (.sl .any 6 a0_4), (.sl .any 7 a0_5)]))] [] Q := fun_rule (envN E0 nt_r16_Plain) (okE nt_r16_Plain) 3 0 48 ac_r16_Plain [.cell 2 37] ok_r16_Plain _ _ Q rfl rfl (kr (by kernel_rfl) h)
noncomputable def ac_r16_Equal : AC := (annot [(5, [2, 3, 5], []), (7, [2, 3], []), (12, [2, 3], []), (14, [2, 3, 6], []), (16, [], []), (20, [2, 3, 6], [2, 3, 6]), (21, [], [])] [4] (codeOf Try.f23) 0).1
abbrev nt_r16_Equal : Nat := 106
def L_r16_Equal_5 (t5 u0 : Int) (u1 u2 : Int) (u3 : LB) (u4 u5 : LL) (u6 u7 u8 : Int) (u9 : LB) (v0 v1 : LL) (K : KK) : Prop := LoopOK 5 E0.P nt_r16_Equal (lbodyOf 5 ac_r16_Equal).code ⟨[(2, .ptr nL2 0), (3, .ptr nL3 0), (5, (Ai t5))], [(nL2, .blk ty_api_Value [(Ai u0), (Ai u1), (Ai u2), (As u3), (Al 6 u4), (Al 7 u5)]), (nL3, .blk ty_api_Value [(Ai u6), (Ai u7), (Ai u8), (As u9), (Al 6 v0), (Al 7 v1)])]⟩ K
def C_r16_Equal_12 (u0 u1 u2 : Int) (u3 : LB) (u4 u5 : LL) (u6 u7 u8 : Int) (u9 : LB) (v0 v1 : LL) (K : KK) : Prop := CutOK 12 E0.P nt_r16_Equal (cbodyOf 12 ac_r16_Equal).code ⟨[(2, .ptr nL2 0), (3, .ptr nL3 0)], [(nL2, .blk ty_api_Value [(Ai u0), (Ai u1), (Ai u2), (As u3), (Al 6 u4), (Al 7 u5)]), (nL3, .blk ty_api_Value [(Ai u6), (Ai u7), (Ai u8), (As u9), (Al 6 v0), (Al 7 v1)])]⟩ K
def L_r16_Equal_14 (t6 u0 : Int) (u1 u2 : Int) (u3 : LB) (u4 u5 : LL) (u6 u7 u8 : Int) (u9 : LB) (v0 v1 : LL) (K : KK) : Prop := LoopOK 14 E0.P nt_r16_Equal (lbodyOf 14 ac_r16_Equal).code ⟨[(2, .ptr nL2 0), (3, .ptr nL3 0), (6, (Ai t6))], [(nL2, .blk ty_api_Value [(Ai u0), (Ai u1), (Ai u2), (As u3), (Al 6 u4), (Al 7 u5)]), (nL3, .blk ty_api_Value [(Ai u6), (Ai u7), (Ai u8), (As u9), (Al 6 v0), (Al 7 v1)])]⟩ K
def C_r16_Equal_20 (t6 u0 : Int) (u1 u2 : Int) (u3 : LB) (u4 u5 : LL) (u6 u7 u8 : Int) (u9 : LB) (v0 v1 : LL) (K : KK) : Prop := CutOK 20 E0.P nt_r16_Equal (cbodyOf 20 ac_r16_Equal).code ⟨[(2, .ptr nL2 0), (3, .ptr nL3 0), (6, (Ai t6))], [(nL2, .blk ty_api_Value [(Ai u0), (Ai u1), (Ai u2), (As u3), (Al 6 u4), (Al 7 u5)]), (nL3, .blk ty_api_Value [(Ai u6), (Ai u7), (Ai u8), (As u9), (Al 6 v0), (Al 7 v1)])]⟩ K
def C_r16_Equal_21 (K : KK) : Prop := CutOK 21 E0.P nt_r16_Equal (cbodyOf 21 ac_r16_Equal).code ⟨[], []⟩ K
def K_r16_Equal_0 (Q : QQ) : KK := kE fun st => finish 0 E0.T [.tmp 4] [] Q st
def K_r16_Equal_1 (Q : QQ) : KK := kF 0 (fun st => CutOK 12 E0.P nt_r16_Equal (cbodyOf 12 ac_r16_Equal).code (mask [2, 3] st) (K_r16_Equal_0 Q)) fun st => finish 0 E0.T [.tmp 4] [] Q st
def K_r16_Equal_2 (K : KK) : KK := kP [] K
def K_r16_Equal_3 (K : KK) : KK := kC 2 (fun st => CutOK 21 E0.P nt_r16_Equal (cbodyOf 21 ac_r16_Equal).code (mask [] st) (K_r16_Equal_2 K)) K
def K_r16_Equal_4 (K : KK) : Ex → St → Prop
 | .normal, st => LoopOK 14 E0.P nt_r16_Equal (lbodyOf 14 ac_r16_Equal).code (mask [2, 3, 6] st) K
 | .exit i, st => K (.exit i) st
 | .goto i, st => K (.goto i) st
 | .ret, st => K .ret st
theorem L_r16_Equal_5_of (t5 u0 : Int) (u1 u2 : Int) (u3 : LB) (u4 u5 : LL) (u6 u7 u8 : Int) (u9 : LB) (v0 v1 : LL) (K : KK) (h :
 (Br (decide (t5 < (↑u4.length : Int)))
 (Req (((0 : Int) ≤ t5 ∧ t5 < (↑u4.length : Int)) ∧
 shOK
 [.int .i64, .int .i64, .int .i64, .str, .sl 6 ty_api_Value,
 .sl 7 ty_api_Pair]
 (u4.getD t5.toNat []) =
 true)
 (Req (((0 : Int) ≤ t5 ∧ t5 < (↑v0.length : Int)) ∧
 shOK
 [.int .i64, .int .i64, .int .i64, .str, .sl 6 ty_api_Value,
 .sl 7 ty_api_Pair]
 (v0.getD t5.toNat []) =
 true)
 (Call E0.P fn_r16_Equal [(.imm (.agg [(.int .i64 (gI (u4.getD t5.toNat []) 0)), (.int .i64 (gI (u4.getD t5.toNat []) 1)), (.int .i64 (gI (u4.getD t5.toNat []) 2)), (.str (gS (u4.getD t5.toNat []) 3)), (.sl .any 6 (gR (u4.getD t5.toNat []) 4)), (.sl .any 7 (gR (u4.getD t5.toNat []) 5))])), (.imm (.agg [(.int .i64 (gI (v0.getD t5.toNat []) 0)), (.int .i64 (gI (v0.getD t5.toNat []) 1)), (.int .i64 (gI (v0.getD t5.toNat []) 2)), (.str (gS (v0.getD t5.toNat []) 3)), (.sl .any 6 (gR (v0.getD t5.toNat []) 4)), (.sl .any 7 (gR (v0.getD t5.toNat []) 5))]))] [] fun r0 g0 =>
 Req (qV0 g0 r0)
 (Br (!rB r0)
 (K .ret ⟨[(4, (Ab false))], []⟩)
 (L_r16_Equal_5 (IntKind.i64.wrap (t5 + (1 : Int))) u0 u1 u2 u3 u4 u5 u6 u7 u8 u9 v0 v1 K)))))
 (K (.exit 0) ⟨[(2, .ptr nL2 0), (3, .ptr nL3 0)], [(nL2, .blk ty_api_Value [(Ai u0), (Ai u1), (Ai u2), (As u3), (Al 6 u4), (Al 7 u5)]), (nL3, .blk ty_api_Value [(Ai u6), (Ai u7), (Ai u8), (As u9), (Al 6 v0), (Al 7 v1)])]⟩))) : L_r16_Equal_5 t5 u0 u1 u2 u3 u4 u5 u6 u7 u8 u9 v0 v1 K := loop_rule (envN E0 nt_r16_Equal) (okE nt_r16_Equal) 3 5 (lbodyOf 5 ac_r16_Equal) [2, 3, 5] _ K rfl (kr (by kernel_rfl) h)
theorem C_r16_Equal_12_of (u0 u1 u2 : Int) (u3 : LB) (u4 u5 : LL) (u6 u7 u8 : Int) (u9 : LB) (v0 v1 : LL) (K : KK) (h :
 (L_r16_Equal_14 ((0 : Int)) u0 u1 u2 u3 u4 u5 u6 u7 u8 u9 v0 v1 (K_r16_Equal_3 K))) : C_r16_Equal_12 u0 u1 u2 u3 u4 u5 u6 u7 u8 u9 v0 v1 K := cut_rule (envN E0 nt_r16_Equal) (okE nt_r16_Equal) 3 12 (cbodyOf 12 ac_r16_Equal) [] _ K rfl (kr (by kernel_rfl) h)
theorem L_r16_Equal_14_of (t6 u0 : Int) (u1 u2 : Int) (u3 : LB) (u4 u5 : LL) (u6 u7 u8 : Int) (u9 : LB) (v0 v1 : LL) (K : KK) (h :
 (Br (decide (t6 < (↑u5.length : Int)))
 (Req (((0 : Int) ≤ t6 ∧ t6 < (↑u5.length : Int)) ∧
 shOK
 [.str, .int .i64, .int .i64, .int .i64, .str, .sl 6 ty_api_Value,
 .sl 7 ty_api_Pair]
 (u5.getD t6.toNat []) =
 true)
 (Req (((0 : Int) ≤ t6 ∧ t6 < (↑v1.length : Int)) ∧
 shOK
 [.str, .int .i64, .int .i64, .int .i64, .str, .sl 6 ty_api_Value,
 .sl 7 ty_api_Pair]
 (v1.getD t6.toNat []) =
 true)
 (Req ((!gS (u5.getD t6.toNat []) 0 == gS (v1.getD t6.toNat []) 0) = false →
 ((0 : Int) ≤ t6 ∧ t6 < (↑u5.length : Int)) ∧
 shOK
 [.str, .int .i64, .int .i64, .int .i64, .str, .sl 6 ty_api_Value,
 .sl 7 ty_api_Pair]
 (u5.getD t6.toNat []) =
 true)
 (Req ((!gS (u5.getD t6.toNat []) 0 == gS (v1.getD t6.toNat []) 0) = false →
 ((0 : Int) ≤ t6 ∧ t6 < (↑v1.length : Int)) ∧
 shOK
 [.str, .int .i64, .int .i64, .int .i64, .str, .sl 6 ty_api_Value,
 .sl 7 ty_api_Pair]
 (v1.getD t6.toNat []) =
 true)
 (Br ((!gS (u5.getD t6.toNat []) 0 == gS (v1.getD t6.toNat []) 0) == false)
 (Call E0.P fn_r16_Equal [(.imm (.agg [(.int .i64 (gI (u5.getD t6.toNat []) 1)), (.int .i64 (gI (u5.getD t6.toNat []) 2)), (.int .i64 (gI (u5.getD t6.toNat []) 3)), (.str (gS (u5.getD t6.toNat []) 4)), (.sl .any 6 (gR (u5.getD t6.toNat []) 5)), (.sl .any 7 (gR (u5.getD t6.toNat []) 6))])), (.imm (.agg [(.int .i64 (gI (v1.getD t6.toNat []) 1)), (.int .i64 (gI (v1.getD t6.toNat []) 2)), (.int .i64 (gI (v1.getD t6.toNat []) 3)), (.str (gS (v1.getD t6.toNat []) 4)), (.sl .any 6 (gR (v1.getD t6.toNat []) 5)), (.sl .any 7 (gR (v1.getD t6.toNat []) 6))]))] [] fun r0 g0 =>
 Req (qV0 g0 r0)
 (Let (!rB r0) fun x1 =>
 Br (x1)
 (K .ret ⟨[(4, (Ab false))], []⟩)
 (C_r16_Equal_20 t6 u0 u1 u2 u3 u4 u5 u6 u7 u8 u9 v0 v1 (K_r16_Equal_4 K))))
 (Req ((!false) = true)
 (Let (true) fun x2 =>
 Br (x2)
 (K .ret ⟨[(4, (Ab false))], []⟩)
 (C_r16_Equal_20 t6 u0 u1 u2 u3 u4 u5 u6 u7 u8 u9 v0 v1 (K_r16_Equal_4 K)))))))))
 (K (.exit (2)) ⟨[], []⟩))) : L_r16_Equal_14 t6 u0 u1 u2 u3 u4 u5 u6 u7 u8 u9 v0 v1 K := loop_rule (envN E0 nt_r16_Equal) (okE nt_r16_Equal) 3 14 (lbodyOf 14 ac_r16_Equal) [2, 3, 6] _ K rfl (kr (by kernel_rfl) h)
theorem C_r16_Equal_20_of (t6 u0 : Int) (u1 u2 : Int) (u3 : LB) (u4 u5 : LL) (u6 u7 u8 : Int) (u9 : LB) (v0 v1 : LL) (K : KK) (h :
 (K .normal ⟨[(2, .ptr nL2 0), (3, .ptr nL3 0), (6, (Ai (IntKind.i64.wrap (t6 + (1 : Int)))))], [(nL2, .blk ty_api_Value [(Ai u0), (Ai u1), (Ai u2), (As u3), (Al 6 u4), (Al 7 u5)]), (nL3, .blk ty_api_Value [(Ai u6), (Ai u7), (Ai u8), (As u9), (Al 6 v0), (Al 7 v1)])]⟩)) : C_r16_Equal_20 t6 u0 u1 u2 u3 u4 u5 u6 u7 u8 u9 v0 v1 K := cut_rule (envN E0 nt_r16_Equal) (okE nt_r16_Equal) 3 20 (cbodyOf 20 ac_r16_Equal) [2, 3, 6] _ K rfl (kr (by kernel_rfl) h)
theorem C_r16_Equal_21_of (K : KK) (h :
 (K .ret ⟨[(4, (Ab true))], []⟩)) : C_r16_Equal_21  K := cut_rule (envN E0 nt_r16_Equal) (okE nt_r16_Equal) 3 21 (cbodyOf 21 ac_r16_Equal) [] _ K rfl (kr (by kernel_rfl) h)
theorem K_r16_Equal_0_x0 (Q : QQ) (t4 : Bool) (h :
 (Q (Ab t4) [])) : K_r16_Equal_0 Q .ret ⟨[(4, (Ab t4))], []⟩ := kr (by kernel_rfl) h
theorem K_r16_Equal_1_x0 (Q : QQ) (t4 : Bool) (h :
 (Q (Ab t4) [])) : K_r16_Equal_1 Q .ret ⟨[(4, (Ab t4))], []⟩ := kr (by kernel_rfl) h
theorem K_r16_Equal_1_x1 (Q : QQ) (u0 u1 u2 : Int) (u3 : LB) (u4 u5 : LL) (u6 u7 u8 : Int) (u9 : LB) (v0 v1 : LL) (h :
 (C_r16_Equal_12 u0 u1 u2 u3 u4 u5 u6 u7 u8 u9 v0 v1 (K_r16_Equal_0 Q))) : K_r16_Equal_1 Q (.exit 0) ⟨[(2, .ptr nL2 0), (3, .ptr nL3 0)], [(nL2, .blk ty_api_Value [(Ai u0), (Ai u1), (Ai u2), (As u3), (Al 6 u4), (Al 7 u5)]), (nL3, .blk ty_api_Value [(Ai u6), (Ai u7), (Ai u8), (As u9), (Al 6 v0), (Al 7 v1)])]⟩ := kr (by kernel_rfl) h
theorem K_r16_Equal_2_x0 (K : KK) (t4 : Bool) (h :
 (K .ret ⟨[(4, (Ab t4))], []⟩)) : K_r16_Equal_2 K .ret ⟨[(4, (Ab t4))], []⟩ := kr (by kernel_rfl) h
theorem K_r16_Equal_3_x0 (K : KK) (t4 : Bool) (h :
 (K .ret ⟨[(4, (Ab t4))], []⟩)) : K_r16_Equal_3 K .ret ⟨[(4, (Ab t4))], []⟩ := kr (by kernel_rfl) h
theorem K_r16_Equal_3_x1 (K : KK) (h :
 (C_r16_Equal_21  (K_r16_Equal_2 K))) : K_r16_Equal_3 K (.exit (2)) ⟨[], []⟩ := kr (by kernel_rfl) h
theorem K_r16_Equal_4_x0 (K : KK) (t6 u0 : Int) (u1 u2 : Int) (u3 : LB) (u4 u5 : LL) (u6 u7 u8 : Int) (u9 : LB) (v0 v1 : LL) (h :
 (L_r16_Equal_14 t6 u0 u1 u2 u3 u4 u5 u6 u7 u8 u9 v0 v1 K)) : K_r16_Equal_4 K .normal ⟨[(2, .ptr nL2 0), (3, .ptr nL3 0), (6, (Ai t6))], [(nL2, .blk ty_api_Value [(Ai u0), (Ai u1), (Ai u2), (As u3), (Al 6 u4), (Al 7 u5)]), (nL3, .blk ty_api_Value [(Ai u6), (Ai u7), (Ai u8), (As u9), (Al 6 v0), (Al 7 v1)])]⟩ := kr (by kernel_rfl) h
theorem ok_r16_Equal : FnOK E0.P 23 ac_r16_Equal.code nt_r16_Equal [.tmp 4] := fn_ok _ _ Try.f23 [(5, [2, 3, 5], []), (7, [2, 3], []), (12, [2, 3], []), (14, [2, 3, 6], []), (16, [], []), (20, [2, 3, 6], [2, 3, 6]), (21, [], [])] [4] _ 106 Try.func23 (by kernel_rfl) (by kernel_rfl) (by kernel_rfl) (by kernel_rfl)
theorem F_r16_Equal_of (a0_0 a0_1 a0_2 : Int) (a0_3 : LB) (a0_4 a0_5 : LL) (a1_0 a1_1 a1_2 : Int) (a1_3 : LB) (a1_4 a1_5 : LL) (Q : QQ) (h :
 (Let (bif !decide (a0_0 = a1_0) then true else !decide (a0_1 = a1_1)) fun x0 =>
 Let (bif x0 then true else !decide (a0_2 = a1_2)) fun x1 =>
 Let (bif x1 then true else !a0_3 == a1_3) fun x2 =>
 Let (bif x2 then true else !decide ((↑a0_4.length : Int) = (↑a1_4.length : Int))) fun x3 =>
 Let (bif x3 then true else !decide ((↑a0_5.length : Int) = (↑a1_5.length : Int))) fun x4 =>
 Br (x4)
 (Q (Ab false) [])
 (L_r16_Equal_5 ((0 : Int)) a0_0 a0_1 a0_2 a0_3 a0_4 a0_5 a1_0 a1_1 a1_2 a1_3 a1_4 a1_5 (K_r16_Equal_1 Q)))) : Call E0.P fn_r16_Equal [(.imm (.agg [(.int .i64 a0_0), (.int .i64 a0_1), (.int .i64 a0_2), (.str a0_3), (.sl .any 6 a0_4), (.sl .any 7 a0_5)])), (.imm (.agg [(.int .i64 a1_0), (.int .i64 a1_1), (.int .i64 a1_2), (.str a1_3), (.sl .any 6 a1_4), (.sl .any 7 a1_5)]))] [] Q := fun_rule (envN E0 nt_r16_Equal) (okE nt_r16_Equal) 3 0 23 ac_r16_Equal [.tmp 4] ok_r16_Equal _ _ Q rfl rfl (kr (by kernel_rfl) h)
end
end Go.Proofs.Sim.Se

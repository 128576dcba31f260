import Derived.Test.YtcdjheflchglaaaSeatBase
set_option maxRecDepth 100000
set_option maxHeartbeats 4000000
namespace Go.Proofs.Sim.Se
open Go Go.Proofs Go.Proofs.Sim
noncomputable section
abbrev qP0 (G : Heap) (R : AV) : Prop := G = [] ∧ R = .imm (.bool (rB R))
abbrev qP1 (G : Heap) (R : AV) : Prop := G = [] ∧ R = .tup [.imm (IV.agg [.int .i64 (gI (aCells (rT R 0)) 0), .int .i64 (gI (aCells (rT R 0)) 1), .int .i64 (gI (aCells (rT R 0)) 2), .str (gS (aCells (rT R 0)) 3), .sl SK.any 6 (gR (aCells (rT R 0)) 4), .sl SK.any 7 (gR (aCells (rT R 0)) 5)]), .imm (.int .i64 (rI (rT R 1))), .imm (.int .i64 (rI (rT R 2)))]
abbrev qP2 (G : Heap) (R : AV) : Prop := G = [] ∧ R = .tup [.imm (IV.agg [.int .i64 (gI (aCells (rT R 0)) 0), .int .i64 (gI (aCells (rT R 0)) 1), .int .i64 (gI (aCells (rT R 0)) 2), .str (gS (aCells (rT R 0)) 3), .sl SK.any 6 (gR (aCells (rT R 0)) 4), .sl SK.any 7 (gR (aCells (rT R 0)) 5)]), .imm (.int .i64 (rI (rT R 1)))]
abbrev qP3 (G : Heap) (R : AV) : Prop := G = [(Nm.arg 0, Entry.blk 89 [.imm (.str (rS ((blkOf G nA0).getD 0 AV.undef))), .imm (.int .i64 (rI ((blkOf G nA0).getD 1 AV.undef))), .imm (.int .i64 (rI ((blkOf G nA0).getD 2 AV.undef)))])] ∧ R = .tup [.imm (IV.agg [.int .i64 (gI (aCells (rT R 0)) 0), .int .i64 (gI (aCells (rT R 0)) 1), .int .i64 (gI (aCells (rT R 0)) 2), .str (gS (aCells (rT R 0)) 3), .sl SK.any 6 (gR (aCells (rT R 0)) 4), .sl SK.any 7 (gR (aCells (rT R 0)) 5)]), .imm (.int .i64 (rI (rT R 1)))]
abbrev qP4 (G : Heap) (R : AV) : Prop := G = [] ∧ R = .imm (IV.agg [.int .i64 (gI (aCells R) 0), .int .i64 (gI (aCells R) 1), .int .i64 (gI (aCells R) 2), .str (gS (aCells R) 3), .sl SK.any 6 (gR (aCells R) 4), .sl SK.any 7 (gR (aCells R) 5)])
abbrev qP5 (G : Heap) (R : AV) : Prop := G = [] ∧ R = .tup [.imm (IV.agg [.int .i64 (gI (aCells (rT R 0)) 0), .int .i64 (gI (aCells (rT R 0)) 1), .str (gS (aCells (rT R 0)) 2), .int .i64 (gI (aCells (rT R 0)) 3), .int .i64 (gI (aCells (rT R 0)) 4)]), .imm (.int .i64 (rI (rT R 1)))]
abbrev qP6 (G : Heap) (R : AV) : Prop := G = [(Nm.arg 0, Entry.blk 89 [.imm (.str (rS ((blkOf G nA0).getD 0 AV.undef))), .imm (.int .i64 (rI ((blkOf G nA0).getD 1 AV.undef))), .imm (.int .i64 (rI ((blkOf G nA0).getD 2 AV.undef)))])] ∧ R = .tup [.imm (IV.agg [.int .i64 (gI (aCells (rT R 0)) 0), .int .i64 (gI (aCells (rT R 0)) 1), .str (gS (aCells (rT R 0)) 2), .int .i64 (gI (aCells (rT R 0)) 3), .int .i64 (gI (aCells (rT R 0)) 4)]), .imm (.int .i64 (rI (rT R 1)))]
abbrev qP7 (G : Heap) (R : AV) : Prop := G = [] ∧ R = .imm (.int .i64 (rI R))
abbrev qP8 (G : Heap) (R : AV) : Prop := G = [(Nm.arg 0, Entry.blk 128 [.imm (.str (rS ((blkOf G nA0).getD 0 AV.undef))), .imm (.int .i64 (rI ((blkOf G nA0).getD 1 AV.undef))), AV.own nA1]), (Nm.arg 1, Entry.arr 7 true 1 (arrRows G nA1))] ∧ R = .tup [.imm (IV.agg [.int .i64 (gI (aCells (rT R 0)) 0), .int .i64 (gI (aCells (rT R 0)) 1), .str (gS (aCells (rT R 0)) 2), .int .i64 (gI (aCells (rT R 0)) 3), .int .i64 (gI (aCells (rT R 0)) 4)]), .imm (.int .i64 (rI (rT R 1)))]
abbrev qP9 (G : Heap) (R : AV) : Prop := G = [] ∧ R = .tup [.imm (.str (rS (rT R 0))), .imm (.int .i64 (rI (rT R 1))), .imm (.int .i64 (rI (rT R 2)))]
abbrev qP10 (G : Heap) (R : AV) : Prop := G = [] ∧ R = .tup [.imm (.int .i64 (rI (rT R 0))), .imm (.int .i64 (rI (rT R 1)))]
abbrev qP11 (G : Heap) (R : AV) : Prop := G = [(Nm.arg 0, Entry.blk 128 [.imm (.str (rS ((blkOf G nA0).getD 0 AV.undef))), .imm (.int .i64 (rI ((blkOf G nA0).getD 1 AV.undef))), AV.own nA1])] ∧ R = .imm (.int .u8 (rI R))
noncomputable def ac_l18_ParseTells : AC := (annot [] [4] (codeOf Try.f6) 0).1
abbrev nt_l18_ParseTells : Nat := 45
theorem ok_l18_ParseTells : FnOK E0.P 6 ac_l18_ParseTells.code nt_l18_ParseTells [.tmp 4] := fn_ok _ _ Try.f6 [] [4] _ 45 Try.func6 (by kernel_rfl) (by kernel_rfl) (by kernel_rfl) (by kernel_rfl)
theorem F_l18_ParseTells_of (a0 : LB) (a1 : Int) (Q : QQ) (h :
 (Br (decide ((1000 : Int) < (↑a0.length : Int)))
 (Call E0.P fn_l18_parsed [] [] fun r0 g0 =>
 Req (qP0 g0 r0)
 (Q (Ab (rB r0)) []))
 (Call E0.P fn_parse_Value [(As a0), (Ai a1)] [] fun r1 g1 =>
 Req (qP1 g1 r1)
 (Call E0.P fn_r18_Value [(As a0), (Ai a1)] [] fun r2 g2 =>
 Req (qP1 g2 r2)
 (Call E0.P fn_r16_Equal [(.imm (.agg [(.int .i64 (gI (aCells (rT r1 0)) 0)), (.int .i64 (gI (aCells (rT r1 0)) 1)), (.int .i64 (gI (aCells (rT r1 0)) 2)), (.str (gS (aCells (rT r1 0)) 3)), (.sl .any 6 (gR (aCells (rT r1 0)) 4)), (.sl .any 7 (gR (aCells (rT r1 0)) 5))])), (.imm (.agg [(.int .i64 (gI (aCells (rT r2 0)) 0)), (.int .i64 (gI (aCells (rT r2 0)) 1)), (.int .i64 (gI (aCells (rT r2 0)) 2)), (.str (gS (aCells (rT r2 0)) 3)), (.sl .any 6 (gR (aCells (rT r2 0)) 4)), (.sl .any 7 (gR (aCells (rT r2 0)) 5))]))] [] fun r3 g3 =>
 Req (qP0 g3 r3)
 (Let (bif rB r3 then decide (rI (rT r1 1) = rI (rT r2 1)) else false) fun x4 =>
 Let (bif x4 then decide (rI (rT r1 2) = rI (rT r2 2)) else false) fun x5 =>
 Br (x5 == true)
 (Call E0.P fn_l18_parsed [] [] fun r6 g6 =>
 Req (qP0 g6 r6)
 (Let (rB r6) fun x7 =>
 Q (Ab x7) []))
 (Req ((!true) = false)
 (Let (false) fun x8 =>
 Q (Ab x8) [])))))))) : Call E0.P fn_l18_ParseTells [(As a0), (Ai a1)] [] Q := fun_rule (envN E0 nt_l18_ParseTells) (okE nt_l18_ParseTells) 3 0 6 ac_l18_ParseTells [.tmp 4] ok_l18_ParseTells _ _ Q rfl rfl (kr (by kernel_rfl) h)
noncomputable def ac_l18_parsed : AC := (annot [] [0] (codeOf Try.f20) 0).1
abbrev nt_l18_parsed : Nat := 58
theorem ok_l18_parsed : FnOK E0.P 20 ac_l18_parsed.code nt_l18_parsed [.tmp 0] := fn_ok _ _ Try.f20 [] [0] _ 58 Try.func20 (by kernel_rfl) (by kernel_rfl) (by kernel_rfl) (by kernel_rfl)
theorem F_l18_parsed_of (Q : QQ) (h :
 (Call E0.P fn_parse_Whole [(.imm (.str [60, 60, 47, 65, 32, 91, 49, 32,
 50, 32, 48, 32, 82, 93, 32, 47,
 66, 32, 110, 117, 108, 108, 62, 62]))] [] fun r0 g0 =>
 Req (qP2 g0 r0)
 (Call E0.P fn_parse_Value [(.imm (.str [120, 32, 49, 50, 32, 93])), (Ai 1)] [] fun r1 g1 =>
 Req (qP1 g1 r1)
 (Call E0.P fn_parse_Whole [(.imm (.str [91, 49]))] [] fun r2 g2 =>
 Req (qP2 g2 r2)
 (Call E0.P fn_parse_Whole [(.imm (.str [49, 32, 49]))] [] fun r3 g3 =>
 Req (qP2 g3 r3)
 (Call E0.P fn_r16_Equal [(.imm (.agg [(.int .i64 (gI (aCells (rT r0 0)) 0)), (.int .i64 (gI (aCells (rT r0 0)) 1)), (.int .i64 (gI (aCells (rT r0 0)) 2)), (.str (gS (aCells (rT r0 0)) 3)), (.sl .any 6 (gR (aCells (rT r0 0)) 4)), (.sl .any 7 (gR (aCells (rT r0 0)) 5))])), (.imm (.agg [(.int .i64 6), (.int .i64 0), (.int .i64 0), (.str []), (.sl .any 6 []), (.sl .any 7 [[IV.str [65], .int .i64 (5 : Int), .int .i64 (0 : Int), .int .i64 (0 : Int),
 .str [],
 .sl SK.any 6
 [[IV.int .i64 (2 : Int), .int .i64 (1 : Int), .int .i64 (0 : Int), .str [],
 .sl SK.any 6 [], .sl SK.any 7 []],
 [.int .i64 (7 : Int), .int .i64 (2 : Int), .int .i64 (0 : Int), .str [],
 .sl SK.any 6 [], .sl SK.any 7 []]],
 .sl SK.any 7 []]])]))] [] fun r4 g4 =>
 Req (qP0 g4 r4)
 (Let (bif rB r4 then decide (rI (rT r0 1) = (0 : Int)) else false) fun x5 =>
 Let (bif x5 then decide (rI (rT r1 1) = (4 : Int)) else false) fun x6 =>
 Let (bif x6 then decide (rI (rT r1 2) = (0 : Int)) else false) fun x7 =>
 Let (bif x7 then decide (rI (rT r2 1) = (5 : Int)) else false) fun x8 =>
 Let (bif x8 then decide (rI (rT r3 1) = (4 : Int)) else false) fun x9 =>
 Q (Ab x9) []))))))) : Call E0.P fn_l18_parsed [] [] Q := fun_rule (envN E0 nt_l18_parsed) (okE nt_l18_parsed) 3 0 20 ac_l18_parsed [.tmp 0] ok_l18_parsed _ _ Q rfl rfl (kr (by kernel_rfl) h)
noncomputable def ac_parse_Value : AC := (annot [] [4, 5, 6] (codeOf Try.f21) 0).1
abbrev nt_parse_Value : Nat := 31
theorem ok_parse_Value : FnOK E0.P 21 ac_parse_Value.code nt_parse_Value [.cell 4 37, .tmp 5, .tmp 6] := fn_ok _ _ Try.f21 [] [4, 5, 6] _ 31 Try.func21 (by kernel_rfl) (by kernel_rfl) (by kernel_rfl) (by kernel_rfl)
theorem F_parse_Value_of (a0 : LB) (a1 : Int) (Q : QQ) (h :
 (Call E0.P fn_parse_reader_value [(.ptr nA0 0)] [(nA0, .blk ty_parse_reader [(As a0), (Ai a1), (Ai 0)])] fun r0 g0 =>
 Req (qP3 g0 r0)
 (Br (!decide (rI (rT r0 1) = (0 : Int)))
 (Q (.tup [(.imm (.agg [(.int .i64 0), (.int .i64 0), (.int .i64 0), (.str []), (.sl .any 6 []), (.sl .any 7 [])])), (Ai 0), (Ai (rI (rT r0 1)))]) [])
 (Call E0.P fn_value_Plain [(.imm (.agg [(.int .i64 (gI (aCells (rT r0 0)) 0)), (.int .i64 (gI (aCells (rT r0 0)) 1)), (.int .i64 (gI (aCells (rT r0 0)) 2)), (.str (gS (aCells (rT r0 0)) 3)), (.sl .any 6 (gR (aCells (rT r0 0)) 4)), (.sl .any 7 (gR (aCells (rT r0 0)) 5))]))] [] fun r1 g1 =>
 Req (qP4 g1 r1)
 (Q (.tup [(.imm (.agg [(.int .i64 (gI (aCells r1) 0)), (.int .i64 (gI (aCells r1) 1)), (.int .i64 (gI (aCells r1) 2)), (.str (gS (aCells r1) 3)), (.sl .any 6 (gR (aCells r1) 4)), (.sl .any 7 (gR (aCells r1) 5))])), (.imm (.int .i64 (rI ((blkOf g0 nA0).getD 1 AV.undef)))), (Ai 0)]) []))))) : Call E0.P fn_parse_Value [(As a0), (Ai a1)] [] Q := fun_rule (envN E0 nt_parse_Value) (okE nt_parse_Value) 3 0 21 ac_parse_Value [.cell 4 37, .tmp 5, .tmp 6] ok_parse_Value _ _ Q rfl rfl (kr (by kernel_rfl) h)
noncomputable def ac_r18_Value : AC := (annot [] [4, 5, 6] (codeOf Try.f22) 0).1
abbrev nt_r18_Value : Nat := 24
theorem ok_r18_Value : FnOK E0.P 22 ac_r18_Value.code nt_r18_Value [.cell 4 37, .tmp 5, .tmp 6] := fn_ok _ _ Try.f22 [] [4, 5, 6] _ 24 Try.func22 (by kernel_rfl) (by kernel_rfl) (by kernel_rfl) (by kernel_rfl)
theorem F_r18_Value_of (a0 : LB) (a1 : Int) (Q : QQ) (h :
 (Call E0.P fn_r18_read [(As a0), (Ai a1), (Ai 0)] [] fun r0 g0 =>
 Req (qP1 g0 r0)
 (Br (!decide (rI (rT r0 2) = (0 : Int)))
 (Q (.tup [(.imm (.agg [(.int .i64 0), (.int .i64 0), (.int .i64 0), (.str []), (.sl .any 6 []), (.sl .any 7 [])])), (Ai 0), (Ai (rI (rT r0 2)))]) [])
 (Call E0.P fn_r16_Plain [(.imm (.agg [(.int .i64 (gI (aCells (rT r0 0)) 0)), (.int .i64 (gI (aCells (rT r0 0)) 1)), (.int .i64 (gI (aCells (rT r0 0)) 2)), (.str (gS (aCells (rT r0 0)) 3)), (.sl .any 6 (gR (aCells (rT r0 0)) 4)), (.sl .any 7 (gR (aCells (rT r0 0)) 5))]))] [] fun r1 g1 =>
 Req (qP4 g1 r1)
 (Q (.tup [(.imm (.agg [(.int .i64 (gI (aCells r1) 0)), (.int .i64 (gI (aCells r1) 1)), (.int .i64 (gI (aCells r1) 2)), (.str (gS (aCells r1) 3)), (.sl .any 6 (gR (aCells r1) 4)), (.sl .any 7 (gR (aCells r1) 5))])), (Ai (rI (rT r0 1))), (Ai 0)]) []))))) : Call E0.P fn_r18_Value [(As a0), (Ai a1)] [] Q := fun_rule (envN E0 nt_r18_Value) (okE nt_r18_Value) 3 0 22 ac_r18_Value [.cell 4 37, .tmp 5, .tmp 6] ok_r18_Value _ _ Q rfl rfl (kr (by kernel_rfl) h)
noncomputable def ac_parse_Whole : AC := (annot [] [2, 3] (codeOf Try.f24) 0).1
abbrev nt_parse_Whole : Nat := 41
theorem ok_parse_Whole : FnOK E0.P 24 ac_parse_Whole.code nt_parse_Whole [.cell 2 37, .tmp 3] := fn_ok _ _ Try.f24 [] [2, 3] _ 41 Try.func24 (by kernel_rfl) (by kernel_rfl) (by kernel_rfl) (by kernel_rfl)
theorem F_parse_Whole_of (a0 : LB) (Q : QQ) (h :
 (Call E0.P fn_parse_Value [(As a0), (Ai 0)] [] fun r0 g0 =>
 Req (qP1 g0 r0)
 (Br (!decide (rI (rT r0 2) = (0 : Int)))
 (Q (.tup [(.imm (.agg [(.int .i64 0), (.int .i64 0), (.int .i64 0), (.str []), (.sl .any 6 []), (.sl .any 7 [])])), (Ai (rI (rT r0 2)))]) [])
 (Call E0.P fn_token_Next [(As a0), (Ai (rI (rT r0 1)))] [] fun r1 g1 =>
 Req (qP5 g1 r1)
 (Br (!decide (rI (rT r1 1) = (0 : Int)))
 (Q (.tup [(.imm (.agg [(.int .i64 0), (.int .i64 0), (.int .i64 0), (.str []), (.sl .any 6 []), (.sl .any 7 [])])), (Ai (rI (rT r1 1)))]) [])
 (Br (!decide (gI (aCells (rT r1 0)) 0 = (0 : Int)))
 (Q (.tup [(.imm (.agg [(.int .i64 0), (.int .i64 0), (.int .i64 0), (.str []), (.sl .any 6 []), (.sl .any 7 [])])), (Ai 4)]) [])
 (Q (.tup [(.imm (.agg [(.int .i64 (gI (aCells (rT r0 0)) 0)), (.int .i64 (gI (aCells (rT r0 0)) 1)), (.int .i64 (gI (aCells (rT r0 0)) 2)), (.str (gS (aCells (rT r0 0)) 3)), (.sl .any 6 (gR (aCells (rT r0 0)) 4)), (.sl .any 7 (gR (aCells (rT r0 0)) 5))])), (Ai 0)]) []))))))) : Call E0.P fn_parse_Whole [(As a0)] [] Q := fun_rule (envN E0 nt_parse_Whole) (okE nt_parse_Whole) 3 0 24 ac_parse_Whole [.cell 2 37, .tmp 3] ok_parse_Whole _ _ Q rfl rfl (kr (by kernel_rfl) h)
noncomputable def ac_parse_reader_value : AC := (annot [] [2, 3] (codeOf Try.f45) 0).1
abbrev nt_parse_reader_value : Nat := 70
theorem ok_parse_reader_value : FnOK E0.P 45 ac_parse_reader_value.code nt_parse_reader_value [.cell 2 37, .tmp 3] := fn_ok _ _ Try.f45 [] [2, 3] _ 70 Try.func45 (by kernel_rfl) (by kernel_rfl) (by kernel_rfl) (by kernel_rfl)
theorem F_parse_reader_value_of (s : LB) (at_ win : Int) (Q : QQ) (h :
 (Call E0.P fn_parse_cursor_take [(.ptr nA0 0)] [(nA0, .blk ty_parse_reader [(As s), (Ai at_), (Ai win)])] fun r0 g0 =>
 Req (qP6 g0 r0)
 (Br (!decide (rI (rT r0 1) = (0 : Int)))
 (Q (.tup [(.imm (.agg [(.int .i64 0), (.int .i64 0), (.int .i64 0), (.str []), (.sl .any 6 []), (.sl .any 7 [])])), (Ai (rI (rT r0 1)))]) [(nA0, .blk ty_parse_reader [(.imm (.str (rS ((blkOf g0 nA0).getD 0 AV.undef)))), (.imm (.int .i64 (rI ((blkOf g0 nA0).getD 1 AV.undef)))), (.imm (.int .i64 (rI ((blkOf g0 nA0).getD 2 AV.undef))))])])
 (Br (decide (gI (aCells (rT r0 0)) 0 = (0 : Int)))
 (Q (.tup [(.imm (.agg [(.int .i64 0), (.int .i64 0), (.int .i64 0), (.str []), (.sl .any 6 []), (.sl .any 7 [])])), (Ai 5)]) [(nA0, .blk ty_parse_reader [(.imm (.str (rS ((blkOf g0 nA0).getD 0 AV.undef)))), (.imm (.int .i64 (rI ((blkOf g0 nA0).getD 1 AV.undef)))), (.imm (.int .i64 (rI ((blkOf g0 nA0).getD 2 AV.undef))))])])
 (Br (decide (gI (aCells (rT r0 0)) 0 = (1 : Int)))
 (Call E0.P fn_parse_reader_number [(.ptr nA0 0), (Ai (gI (aCells (rT r0 0)) 1))] [(nA0, .blk ty_parse_reader [(.imm (.str (rS ((blkOf g0 nA0).getD 0 AV.undef)))), (.imm (.int .i64 (rI ((blkOf g0 nA0).getD 1 AV.undef)))), (.imm (.int .i64 (rI ((blkOf g0 nA0).getD 2 AV.undef))))])] fun r1 g1 =>
 Req (qP3 g1 r1)
 (Q (.tup [(.imm (.agg [(.int .i64 (gI (aCells (rT r1 0)) 0)), (.int .i64 (gI (aCells (rT r1 0)) 1)), (.int .i64 (gI (aCells (rT r1 0)) 2)), (.str (gS (aCells (rT r1 0)) 3)), (.sl .any 6 (gR (aCells (rT r1 0)) 4)), (.sl .any 7 (gR (aCells (rT r1 0)) 5))])), (Ai (rI (rT r1 1)))]) [(nA0, .blk ty_parse_reader [(.imm (.str (rS ((blkOf g1 nA0).getD 0 AV.undef)))), (.imm (.int .i64 (rI ((blkOf g1 nA0).getD 1 AV.undef)))), (.imm (.int .i64 (rI ((blkOf g1 nA0).getD 2 AV.undef))))])]))
 (Br (decide (gI (aCells (rT r0 0)) 0 = (2 : Int)))
 (Q (.tup [(.imm (.agg [(.int .i64 3), (.int .i64 0), (.int .i64 0), (.str (gS (aCells (rT r0 0)) 2)), (.sl .any 6 []), (.sl .any 7 [])])), (Ai 0)]) [(nA0, .blk ty_parse_reader [(.imm (.str (rS ((blkOf g0 nA0).getD 0 AV.undef)))), (.imm (.int .i64 (rI ((blkOf g0 nA0).getD 1 AV.undef)))), (.imm (.int .i64 (rI ((blkOf g0 nA0).getD 2 AV.undef))))])])
 (Br (decide (gI (aCells (rT r0 0)) 0 = (3 : Int)))
 (Q (.tup [(.imm (.agg [(.int .i64 4), (.int .i64 0), (.int .i64 0), (.str (gS (aCells (rT r0 0)) 2)), (.sl .any 6 []), (.sl .any 7 [])])), (Ai 0)]) [(nA0, .blk ty_parse_reader [(.imm (.str (rS ((blkOf g0 nA0).getD 0 AV.undef)))), (.imm (.int .i64 (rI ((blkOf g0 nA0).getD 1 AV.undef)))), (.imm (.int .i64 (rI ((blkOf g0 nA0).getD 2 AV.undef))))])])
 (Br (decide (gI (aCells (rT r0 0)) 0 = (8 : Int)))
 (Call E0.P fn_parse_word [(As (gS (aCells (rT r0 0)) 2))] [] fun r2 g2 =>
 Req (qP2 g2 r2)
 (Q (.tup [(.imm (.agg [(.int .i64 (gI (aCells (rT r2 0)) 0)), (.int .i64 (gI (aCells (rT r2 0)) 1)), (.int .i64 (gI (aCells (rT r2 0)) 2)), (.str (gS (aCells (rT r2 0)) 3)), (.sl .any 6 (gR (aCells (rT r2 0)) 4)), (.sl .any 7 (gR (aCells (rT r2 0)) 5))])), (Ai (rI (rT r2 1)))]) [(nA0, .blk ty_parse_reader [(.imm (.str (rS ((blkOf g0 nA0).getD 0 AV.undef)))), (.imm (.int .i64 (rI ((blkOf g0 nA0).getD 1 AV.undef)))), (.imm (.int .i64 (rI ((blkOf g0 nA0).getD 2 AV.undef))))])]))
 (Br (decide (gI (aCells (rT r0 0)) 0 = (4 : Int)))
 (Br (decide ((64 : Int) ≤ rI ((blkOf g0 nA0).getD 2 AV.undef)))
 (Q (.tup [(.imm (.agg [(.int .i64 0), (.int .i64 0), (.int .i64 0), (.str []), (.sl .any 6 []), (.sl .any 7 [])])), (Ai 9)]) [(nA0, .blk ty_parse_reader [(.imm (.str (rS ((blkOf g0 nA0).getD 0 AV.undef)))), (.imm (.int .i64 (rI ((blkOf g0 nA0).getD 1 AV.undef)))), (.imm (.int .i64 (rI ((blkOf g0 nA0).getD 2 AV.undef))))])])
 (Call E0.P fn_parse_reader_list [(.ptr nA0 0)] [(nA0, .blk ty_parse_reader [(.imm (.str (rS ((blkOf g0 nA0).getD 0 AV.undef)))), (.imm (.int .i64 (rI ((blkOf g0 nA0).getD 1 AV.undef)))), (.imm (.int .i64 (IntKind.i64.wrap (rI ((blkOf g0 nA0).getD 2 AV.undef) + (1 : Int)))))])] fun r3 g3 =>
 Req (qP3 g3 r3)
 (Q (.tup [(.imm (.agg [(.int .i64 (gI (aCells (rT r3 0)) 0)), (.int .i64 (gI (aCells (rT r3 0)) 1)), (.int .i64 (gI (aCells (rT r3 0)) 2)), (.str (gS (aCells (rT r3 0)) 3)), (.sl .any 6 (gR (aCells (rT r3 0)) 4)), (.sl .any 7 (gR (aCells (rT r3 0)) 5))])), (Ai (rI (rT r3 1)))]) [(nA0, .blk ty_parse_reader [(.imm (.str (rS ((blkOf g3 nA0).getD 0 AV.undef)))), (.imm (.int .i64 (rI ((blkOf g3 nA0).getD 1 AV.undef)))), (.imm (.int .i64 (IntKind.i64.wrap (rI ((blkOf g3 nA0).getD 2 AV.undef) - (1 : Int)))))])])))
 (Br (decide (gI (aCells (rT r0 0)) 0 = (6 : Int)))
 (Br (decide ((64 : Int) ≤ rI ((blkOf g0 nA0).getD 2 AV.undef)))
 (Q (.tup [(.imm (.agg [(.int .i64 0), (.int .i64 0), (.int .i64 0), (.str []), (.sl .any 6 []), (.sl .any 7 [])])), (Ai 9)]) [(nA0, .blk ty_parse_reader [(.imm (.str (rS ((blkOf g0 nA0).getD 0 AV.undef)))), (.imm (.int .i64 (rI ((blkOf g0 nA0).getD 1 AV.undef)))), (.imm (.int .i64 (rI ((blkOf g0 nA0).getD 2 AV.undef))))])])
 (Call E0.P fn_parse_reader_dict [(.ptr nA0 0)] [(nA0, .blk ty_parse_reader [(.imm (.str (rS ((blkOf g0 nA0).getD 0 AV.undef)))), (.imm (.int .i64 (rI ((blkOf g0 nA0).getD 1 AV.undef)))), (.imm (.int .i64 (IntKind.i64.wrap (rI ((blkOf g0 nA0).getD 2 AV.undef) + (1 : Int)))))])] fun r4 g4 =>
 Req (qP3 g4 r4)
 (Q (.tup [(.imm (.agg [(.int .i64 (gI (aCells (rT r4 0)) 0)), (.int .i64 (gI (aCells (rT r4 0)) 1)), (.int .i64 (gI (aCells (rT r4 0)) 2)), (.str (gS (aCells (rT r4 0)) 3)), (.sl .any 6 (gR (aCells (rT r4 0)) 4)), (.sl .any 7 (gR (aCells (rT r4 0)) 5))])), (Ai (rI (rT r4 1)))]) [(nA0, .blk ty_parse_reader [(.imm (.str (rS ((blkOf g4 nA0).getD 0 AV.undef)))), (.imm (.int .i64 (rI ((blkOf g4 nA0).getD 1 AV.undef)))), (.imm (.int .i64 (IntKind.i64.wrap (rI ((blkOf g4 nA0).getD 2 AV.undef) - (1 : Int)))))])])))
 (Q (.tup [(.imm (.agg [(.int .i64 0), (.int .i64 0), (.int .i64 0), (.str []), (.sl .any 6 []), (.sl .any 7 [])])), (Ai 4)]) [(nA0, .blk ty_parse_reader [(.imm (.str (rS ((blkOf g0 nA0).getD 0 AV.undef)))), (.imm (.int .i64 (rI ((blkOf g0 nA0).getD 1 AV.undef)))), (.imm (.int .i64 (rI ((blkOf g0 nA0).getD 2 AV.undef))))])]))))))))))) : Call E0.P fn_parse_reader_value [(.ptr (.arg 0) 0)] [(.arg 0, .blk ty_parse_reader [.imm (.str s), .imm (.int .i64 at_), .imm (.int .i64 win)])] Q := fun_rule (envN E0 nt_parse_reader_value) (okE nt_parse_reader_value) 3 0 45 ac_parse_reader_value [.cell 2 37, .tmp 3] ok_parse_reader_value _ _ Q rfl rfl (kr (by kernel_rfl) h)
noncomputable def ac_r18_read : AC := (annot [(17, [0, 2, 6, 9, 55], [0, 2, 6, 9]), (19, [0, 2, 6, 9], [])] [6, 7, 8] (codeOf Try.f47) 0).1
abbrev nt_r18_read : Nat := 83
def C_r18_read_17 (t0 : LB) (t2 : Int) (t55 : Bool) (u0 u1 u2 : Int) (u3 : LB) (u4 u5 : Int) (u6 : LB) (u7 u8 : Int) (u9 v0 : LL) (K : KK) : Prop := CutOK 17 E0.P nt_r18_read (cbodyOf 17 ac_r18_read).code ⟨[(0, (As t0)), (2, (Ai t2)), (6, .ptr nL6 0), (9, .ptr nL9 0), (55, (Ab t55))], [(nL6, .blk ty_api_Value [(Ai u0), (Ai u1), (Ai u2), (As u3), (.own (nL6.cell 4)), (.own (nL6.cell 5))]), (nL9, .blk ty_api_Token [(Ai u4), (Ai u5), (As u6), (Ai u7), (Ai u8)]), ((nL6.cell 4), .arr (ty_api_Value + 2) true 6 u9), ((nL6.cell 5), .arr (ty_api_Pair + 2) true 7 v0)]⟩ K
def C_r18_read_19 (t0 : LB) (t2 u0 : Int) (u1 u2 : Int) (u3 : LB) (u4 u5 : Int) (u6 : LB) (u7 u8 : Int) (u9 v0 : LL) (K : KK) : Prop := CutOK 19 E0.P nt_r18_read (cbodyOf 19 ac_r18_read).code ⟨[(0, (As t0)), (2, (Ai t2)), (6, .ptr nL6 0), (9, .ptr nL9 0)], [(nL6, .blk ty_api_Value [(Ai u0), (Ai u1), (Ai u2), (As u3), (.own (nL6.cell 4)), (.own (nL6.cell 5))]), (nL9, .blk ty_api_Token [(Ai u4), (Ai u5), (As u6), (Ai u7), (Ai u8)]), ((nL6.cell 4), .arr (ty_api_Value + 2) true 6 u9), ((nL6.cell 5), .arr (ty_api_Pair + 2) true 7 v0)]⟩ K
def K_r18_read_0 (Q : QQ) : KK := kE fun st => finish 0 E0.T [.cell 6 37, .tmp 7, .tmp 8] [] Q st
def K_r18_read_1 (Q : QQ) : KK := kF 0 (fun st => CutOK 19 E0.P nt_r18_read (cbodyOf 19 ac_r18_read).code (mask [0, 2, 6, 9] st) (K_r18_read_0 Q)) fun st => finish 0 E0.T [.cell 6 37, .tmp 7, .tmp 8] [] Q st
theorem C_r18_read_17_of (t0 : LB) (t2 : Int) (t55 : Bool) (u0 u1 u2 : Int) (u3 : LB) (u4 u5 : Int) (u6 : LB) (u7 u8 : Int) (u9 v0 : LL) (K : KK) (h :
 (Br (t55)
 (K .ret ⟨[(6, .ptr nL6 0), (7, (Ai 0)), (8, (Ai 4))], [(nL6, .blk ty_api_Value [(Ai 0), (Ai 0), (Ai 0), (.imm (.str [])), (.own (nL6.cell 4)), (.own (nL6.cell 5))]), ((nL6.cell 4), .arr (ty_api_Value + 2) true 6 []), ((nL6.cell 5), .arr (ty_api_Pair + 2) true 7 [])]⟩)
 (K .normal ⟨[(0, (As t0)), (2, (Ai t2)), (6, .ptr nL6 0), (9, .ptr nL9 0)], [(nL6, .blk ty_api_Value [(Ai u0), (Ai u1), (Ai u2), (As u3), (.own (nL6.cell 4)), (.own (nL6.cell 5))]), (nL9, .blk ty_api_Token [(Ai u4), (Ai u5), (As u6), (Ai u7), (Ai u8)]), ((nL6.cell 4), .arr (ty_api_Value + 2) true 6 u9), ((nL6.cell 5), .arr (ty_api_Pair + 2) true 7 v0)]⟩))) : C_r18_read_17 t0 t2 t55 u0 u1 u2 u3 u4 u5 u6 u7 u8 u9 v0 K := cut_rule (envN E0 nt_r18_read) (okE nt_r18_read) 3 17 (cbodyOf 17 ac_r18_read) [0, 2, 6, 9] _ K rfl (kr (by kernel_rfl) h)
theorem C_r18_read_19_of (t0 : LB) (t2 u0 : Int) (u1 u2 : Int) (u3 : LB) (u4 u5 : Int) (u6 : LB) (u7 u8 : Int) (u9 v0 : LL) (K : KK) (h :
 (Br (decide ((64 : Int) ≤ t2))
 (K .ret ⟨[(6, .ptr nL6 0), (7, (Ai 0)), (8, (Ai 9))], [(nL6, .blk ty_api_Value [(Ai 0), (Ai 0), (Ai 0), (.imm (.str [])), (.own (nL6.cell 4)), (.own (nL6.cell 5))]), ((nL6.cell 4), .arr (ty_api_Value + 2) true 6 []), ((nL6.cell 5), .arr (ty_api_Pair + 2) true 7 [])]⟩)
 (Br (decide (u4 = (4 : Int)))
 (Call E0.P fn_r18_list [(As t0), (Ai u8), (Ai (IntKind.i64.wrap (t2 + (1 : Int))))] [] fun r0 g0 =>
 Req (qP1 g0 r0)
 (K .ret ⟨[(6, .ptr nL6 0), (7, (Ai (rI (rT r0 1)))), (8, (Ai (rI (rT r0 2))))], [(nL6, .blk ty_api_Value [(Ai (gI (aCells (rT r0 0)) 0)), (Ai (gI (aCells (rT r0 0)) 1)), (Ai (gI (aCells (rT r0 0)) 2)), (As (gS (aCells (rT r0 0)) 3)), (Al 6 (gR (aCells (rT r0 0)) 4)), (Al 7 (gR (aCells (rT r0 0)) 5))])]⟩))
 (Call E0.P fn_r18_dict [(As t0), (Ai u8), (Ai (IntKind.i64.wrap (t2 + (1 : Int))))] [] fun r1 g1 =>
 Req (qP1 g1 r1)
 (K .ret ⟨[(6, .ptr nL6 0), (7, (Ai (rI (rT r1 1)))), (8, (Ai (rI (rT r1 2))))], [(nL6, .blk ty_api_Value [(Ai (gI (aCells (rT r1 0)) 0)), (Ai (gI (aCells (rT r1 0)) 1)), (Ai (gI (aCells (rT r1 0)) 2)), (As (gS (aCells (rT r1 0)) 3)), (Al 6 (gR (aCells (rT r1 0)) 4)), (Al 7 (gR (aCells (rT r1 0)) 5))])]⟩))))) : C_r18_read_19 t0 t2 u0 u1 u2 u3 u4 u5 u6 u7 u8 u9 v0 K := cut_rule (envN E0 nt_r18_read) (okE nt_r18_read) 3 19 (cbodyOf 19 ac_r18_read) [] _ K rfl (kr (by kernel_rfl) h)
theorem K_r18_read_0_x0 (Q : QQ) (t7 t8 : Int) (u0 u1 u2 : Int) (u3 : LB) (u4 u5 : LL) (h :
 (Q (.tup [(.imm (.agg [(.int .i64 u0), (.int .i64 u1), (.int .i64 u2), (.str u3), (.sl .any 6 u4), (.sl .any 7 u5)])), (Ai t7), (Ai t8)]) [])) : K_r18_read_0 Q .ret ⟨[(6, .ptr nL6 0), (7, (Ai t7)), (8, (Ai t8))], [(nL6, .blk ty_api_Value [(Ai u0), (Ai u1), (Ai u2), (As u3), (.own (nL6.cell 4)), (.own (nL6.cell 5))]), ((nL6.cell 4), .arr (ty_api_Value + 2) true 6 u4), ((nL6.cell 5), .arr (ty_api_Pair + 2) true 7 u5)]⟩ := kr (by kernel_rfl) h
theorem K_r18_read_0_x1 (Q : QQ) (t7 t8 : Int) (u0 u1 u2 : Int) (u3 : LB) (u4 u5 : LL) (h :
 (Q (.tup [(.imm (.agg [(.int .i64 u0), (.int .i64 u1), (.int .i64 u2), (.str u3), (.sl .any 6 u4), (.sl .any 7 u5)])), (Ai t7), (Ai t8)]) [])) : K_r18_read_0 Q .ret ⟨[(6, .ptr nL6 0), (7, (Ai t7)), (8, (Ai t8))], [(nL6, .blk ty_api_Value [(Ai u0), (Ai u1), (Ai u2), (As u3), (Al 6 u4), (Al 7 u5)])]⟩ := kr (by kernel_rfl) h
theorem K_r18_read_1_x0 (Q : QQ) (t7 t8 : Int) (u0 u1 u2 : Int) (u3 : LB) (u4 u5 : LL) (h :
 (Q (.tup [(.imm (.agg [(.int .i64 u0), (.int .i64 u1), (.int .i64 u2), (.str u3), (.sl .any 6 u4), (.sl .any 7 u5)])), (Ai t7), (Ai t8)]) [])) : K_r18_read_1 Q .ret ⟨[(6, .ptr nL6 0), (7, (Ai t7)), (8, (Ai t8))], [(nL6, .blk ty_api_Value [(Ai u0), (Ai u1), (Ai u2), (As u3), (.own (nL6.cell 4)), (.own (nL6.cell 5))]), ((nL6.cell 4), .arr (ty_api_Value + 2) true 6 u4), ((nL6.cell 5), .arr (ty_api_Pair + 2) true 7 u5)]⟩ := kr (by kernel_rfl) h
theorem K_r18_read_1_x1 (Q : QQ) (t0 : LB) (t2 u0 : Int) (u1 u2 : Int) (u3 : LB) (u4 u5 : Int) (u6 : LB) (u7 u8 : Int) (u9 v0 : LL) (h :
 (C_r18_read_19 t0 t2 u0 u1 u2 u3 u4 u5 u6 u7 u8 u9 v0 (K_r18_read_0 Q))) : K_r18_read_1 Q .normal ⟨[(0, (As t0)), (2, (Ai t2)), (6, .ptr nL6 0), (9, .ptr nL9 0)], [(nL6, .blk ty_api_Value [(Ai u0), (Ai u1), (Ai u2), (As u3), (.own (nL6.cell 4)), (.own (nL6.cell 5))]), (nL9, .blk ty_api_Token [(Ai u4), (Ai u5), (As u6), (Ai u7), (Ai u8)]), ((nL6.cell 4), .arr (ty_api_Value + 2) true 6 u9), ((nL6.cell 5), .arr (ty_api_Pair + 2) true 7 v0)]⟩ := kr (by kernel_rfl) h
theorem ok_r18_read : FnOK E0.P 47 ac_r18_read.code nt_r18_read [.cell 6 37, .tmp 7, .tmp 8] := fn_ok _ _ Try.f47 [(17, [0, 2, 6, 9, 55], [0, 2, 6, 9]), (19, [0, 2, 6, 9], [])] [6, 7, 8] _ 83 Try.func47 (by kernel_rfl) (by kernel_rfl) (by kernel_rfl) (by kernel_rfl)
theorem F_r18_read_of (a0 : LB) (a1 a2 : Int) (Q : QQ) (h :
 (Call E0.P fn_r15_Next [(As a0), (Ai a1)] [] fun r0 g0 =>
 Req (qP5 g0 r0)
 (Br (!decide (rI (rT r0 1) = (0 : Int)))
 (Q (.tup [(.imm (.agg [(.int .i64 0), (.int .i64 0), (.int .i64 0), (.str []), (.sl .any 6 []), (.sl .any 7 [])])), (Ai 0), (Ai (rI (rT r0 1)))]) [])
 (Br (decide (gI (aCells (rT r0 0)) 0 = (0 : Int)))
 (Q (.tup [(.imm (.agg [(.int .i64 0), (.int .i64 0), (.int .i64 0), (.str []), (.sl .any 6 []), (.sl .any 7 [])])), (Ai 0), (Ai 5)]) [])
 (Br (decide (gI (aCells (rT r0 0)) 0 = (1 : Int)))
 (Call E0.P fn_r18_number [(As a0), (.imm (.agg [(.int .i64 (gI (aCells (rT r0 0)) 0)), (.int .i64 (gI (aCells (rT r0 0)) 1)), (.str (gS (aCells (rT r0 0)) 2)), (.int .i64 (gI (aCells (rT r0 0)) 3)), (.int .i64 (gI (aCells (rT r0 0)) 4))]))] [] fun r1 g1 =>
 Req (qP1 g1 r1)
 (Q (.tup [(.imm (.agg [(.int .i64 (gI (aCells (rT r1 0)) 0)), (.int .i64 (gI (aCells (rT r1 0)) 1)), (.int .i64 (gI (aCells (rT r1 0)) 2)), (.str (gS (aCells (rT r1 0)) 3)), (.sl .any 6 (gR (aCells (rT r1 0)) 4)), (.sl .any 7 (gR (aCells (rT r1 0)) 5))])), (Ai (rI (rT r1 1))), (Ai (rI (rT r1 2)))]) []))
 (Br (decide (gI (aCells (rT r0 0)) 0 = (2 : Int)))
 (Q (.tup [(.imm (.agg [(.int .i64 3), (.int .i64 0), (.int .i64 0), (.str (gS (aCells (rT r0 0)) 2)), (.sl .any 6 []), (.sl .any 7 [])])), (Ai (gI (aCells (rT r0 0)) 4)), (Ai 0)]) [])
 (Br (decide (gI (aCells (rT r0 0)) 0 = (3 : Int)))
 (Q (.tup [(.imm (.agg [(.int .i64 4), (.int .i64 0), (.int .i64 0), (.str (gS (aCells (rT r0 0)) 2)), (.sl .any 6 []), (.sl .any 7 [])])), (Ai (gI (aCells (rT r0 0)) 4)), (Ai 0)]) [])
 (Br (decide (gI (aCells (rT r0 0)) 0 = (8 : Int)))
 (Call E0.P fn_r18_word [(.imm (.agg [(.int .i64 (gI (aCells (rT r0 0)) 0)), (.int .i64 (gI (aCells (rT r0 0)) 1)), (.str (gS (aCells (rT r0 0)) 2)), (.int .i64 (gI (aCells (rT r0 0)) 3)), (.int .i64 (gI (aCells (rT r0 0)) 4))]))] [] fun r2 g2 =>
 Req (qP1 g2 r2)
 (Q (.tup [(.imm (.agg [(.int .i64 (gI (aCells (rT r2 0)) 0)), (.int .i64 (gI (aCells (rT r2 0)) 1)), (.int .i64 (gI (aCells (rT r2 0)) 2)), (.str (gS (aCells (rT r2 0)) 3)), (.sl .any 6 (gR (aCells (rT r2 0)) 4)), (.sl .any 7 (gR (aCells (rT r2 0)) 5))])), (Ai (rI (rT r2 1))), (Ai (rI (rT r2 2)))]) []))
 (Br (decide (gI (aCells (rT r0 0)) 0 = (5 : Int)))
 (C_r18_read_17 a0 a2 (decide (gI (aCells (rT r0 0)) 0 = (5 : Int))) ((0 : Int)) ((0 : Int)) ((0 : Int)) [] (gI (aCells (rT r0 0)) 0) (gI (aCells (rT r0 0)) 1) (gS (aCells (rT r0 0)) 2) (gI (aCells (rT r0 0)) 3) (gI (aCells (rT r0 0)) 4) [] [] (K_r18_read_1 Q))
 (C_r18_read_17 a0 a2 (decide (gI (aCells (rT r0 0)) 0 = (7 : Int))) ((0 : Int)) ((0 : Int)) ((0 : Int)) [] (gI (aCells (rT r0 0)) 0) (gI (aCells (rT r0 0)) 1) (gS (aCells (rT r0 0)) 2) (gI (aCells (rT r0 0)) 3) (gI (aCells (rT r0 0)) 4) [] [] (K_r18_read_1 Q))))))))))) : Call E0.P fn_r18_read [(As a0), (Ai a1), (Ai a2)] [] Q := fun_rule (envN E0 nt_r18_read) (okE nt_r18_read) 3 0 47 ac_r18_read [.cell 6 37, .tmp 7, .tmp 8] ok_r18_read _ _ Q rfl rfl (kr (by kernel_rfl) h)
noncomputable def ac_token_Next : AC := (annot [] [4, 5] (codeOf Try.f50) 0).1
abbrev nt_token_Next : Nat := 42
theorem ok_token_Next : FnOK E0.P 50 ac_token_Next.code nt_token_Next [.cell 4 95, .tmp 5] := fn_ok _ _ Try.f50 [] [4, 5] _ 42 Try.func50 (by kernel_rfl) (by kernel_rfl) (by kernel_rfl) (by kernel_rfl)
theorem F_token_Next_of (a0 : LB) (a1 : Int) (Q : QQ) (h :
 (Call E0.P fn_token_Skip [(As a0), (Ai a1)] [] fun r0 g0 =>
 Req (qP7 g0 r0)
 (Br (decide (rI r0 = (↑a0.length : Int)))
 (Q (.tup [(.imm (.agg [(.int .i64 0), (.int .i64 0), (.str []), (.int .i64 (rI r0)), (.int .i64 (rI r0))])), (Ai 0)]) [])
 (Call E0.P fn_token_scanner_token [(.ptr nA0 0)] [(nA0, .blk ty_token_scanner [(As a0), (Ai (rI r0)), (.own nA1)]), (nA1, .arr (ty_uint8 + 2) true 1 [])] fun r1 g1 =>
 Req (qP8 g1 r1)
 (Br (!decide (rI (rT r1 1) = (0 : Int)))
 (Q (.tup [(.imm (.agg [(.int .i64 0), (.int .i64 0), (.str []), (.int .i64 0), (.int .i64 0)])), (Ai (rI (rT r1 1)))]) [])
 (Q (.tup [(.imm (.agg [(.int .i64 (gI (aCells (rT r1 0)) 0)), (.int .i64 (gI (aCells (rT r1 0)) 1)), (.str (gS (aCells (rT r1 0)) 2)), (.int .i64 (rI r0)), (.int .i64 (rI ((blkOf g1 nA0).getD 1 AV.undef)))])), (Ai 0)]) [])))))) : Call E0.P fn_token_Next [(As a0), (Ai a1)] [] Q := fun_rule (envN E0 nt_token_Next) (okE nt_token_Next) 3 0 50 ac_token_Next [.cell 4 95, .tmp 5] ok_token_Next _ _ Q rfl rfl (kr (by kernel_rfl) h)
noncomputable def ac_r15_Next : AC := (annot [] [4, 5] (codeOf Try.f51) 0).1
abbrev nt_r15_Next : Nat := 138
theorem ok_r15_Next : FnOK E0.P 51 ac_r15_Next.code nt_r15_Next [.cell 4 95, .tmp 5] := fn_ok _ _ Try.f51 [] [4, 5] _ 138 Try.func51 (by kernel_rfl) (by kernel_rfl) (by kernel_rfl) (by kernel_rfl)
theorem F_r15_Next_of (a0 : LB) (a1 : Int) (Q : QQ) (h :
 (Call E0.P fn_r15_Skip [(As a0), (Ai a1)] [] fun r0 g0 =>
 Req (qP7 g0 r0)
 (Br (decide (rI r0 = (↑a0.length : Int)))
 (Q (.tup [(.imm (.agg [(.int .i64 0), (.int .i64 0), (.str []), (.int .i64 (rI r0)), (.int .i64 (rI r0))])), (Ai 0)]) [])
 (Req ((0 : Int) ≤ rI r0 ∧
 (rI r0 ≤
 if IntKind.i64.wrap (rI r0 + (2 : Int)) < (↑a0.length : Int) then IntKind.i64.wrap (rI r0 + (2 : Int))
 else (↑a0.length : Int)) ∧
 (if IntKind.i64.wrap (rI r0 + (2 : Int)) < (↑a0.length : Int) then IntKind.i64.wrap (rI r0 + (2 : Int))
 else (↑a0.length : Int)) ≤
 (↑a0.length : Int))
 (Let (List.drop (rI r0).toNat
 (List.take
 (if IntKind.i64.wrap (rI r0 + (2 : Int)) < (↑a0.length : Int) then IntKind.i64.wrap (rI r0 + (2 : Int))
 else (↑a0.length : Int)).toNat
 a0)) fun x1 =>
 Req ((0 : Int) ≤ rI r0 ∧ rI r0 < (↑a0.length : Int))
 (Br (decide ((↑(a0.getD (rI r0).toNat 0).toNat : Int) = (91 : Int)))
 (Q (.tup [(.imm (.agg [(.int .i64 4), (.int .i64 0), (.str []), (.int .i64 (rI r0)), (.int .i64 (IntKind.i64.wrap (rI r0 + (1 : Int))))])), (Ai 0)]) [])
 (Req ((0 : Int) ≤ rI r0 ∧ rI r0 < (↑a0.length : Int))
 (Br (decide ((↑(a0.getD (rI r0).toNat 0).toNat : Int) = (93 : Int)))
 (Q (.tup [(.imm (.agg [(.int .i64 5), (.int .i64 0), (.str []), (.int .i64 (rI r0)), (.int .i64 (IntKind.i64.wrap (rI r0 + (1 : Int))))])), (Ai 0)]) [])
 (Br (x1 == [(60 : UInt8), 60])
 (Q (.tup [(.imm (.agg [(.int .i64 6), (.int .i64 0), (.str []), (.int .i64 (rI r0)), (.int .i64 (IntKind.i64.wrap (rI r0 + (2 : Int))))])), (Ai 0)]) [])
 (Br (x1 == [(62 : UInt8), 62])
 (Q (.tup [(.imm (.agg [(.int .i64 7), (.int .i64 0), (.str []), (.int .i64 (rI r0)), (.int .i64 (IntKind.i64.wrap (rI r0 + (2 : Int))))])), (Ai 0)]) [])
 (Req ((0 : Int) ≤ rI r0 ∧ rI r0 < (↑a0.length : Int))
 (Br (decide ((↑(a0.getD (rI r0).toNat 0).toNat : Int) = (47 : Int)))
 (Call E0.P fn_r15_name [(As a0), (Ai (IntKind.i64.wrap (rI r0 + (1 : Int))))] [] fun r2 g2 =>
 Req (qP9 g2 r2)
 (Call E0.P fn_r15_sign [(Ai 2), (Ai (rI r0)), (As (rS (rT r2 0))), (Ai (rI (rT r2 1))), (Ai (rI (rT r2 2)))] [] fun r3 g3 =>
 Req (qP5 g3 r3)
 (Q (.tup [(.imm (.agg [(.int .i64 (gI (aCells (rT r3 0)) 0)), (.int .i64 (gI (aCells (rT r3 0)) 1)), (.str (gS (aCells (rT r3 0)) 2)), (.int .i64 (gI (aCells (rT r3 0)) 3)), (.int .i64 (gI (aCells (rT r3 0)) 4))])), (Ai (rI (rT r3 1)))]) [])))
 (Req ((0 : Int) ≤ rI r0 ∧ rI r0 < (↑a0.length : Int))
 (Br (decide ((↑(a0.getD (rI r0).toNat 0).toNat : Int) = (40 : Int)))
 (Call E0.P fn_r15_plain [(As a0), (Ai (IntKind.i64.wrap (rI r0 + (1 : Int))))] [] fun r4 g4 =>
 Req (qP9 g4 r4)
 (Call E0.P fn_r15_sign [(Ai 3), (Ai (rI r0)), (As (rS (rT r4 0))), (Ai (rI (rT r4 1))), (Ai (rI (rT r4 2)))] [] fun r5 g5 =>
 Req (qP5 g5 r5)
 (Q (.tup [(.imm (.agg [(.int .i64 (gI (aCells (rT r5 0)) 0)), (.int .i64 (gI (aCells (rT r5 0)) 1)), (.str (gS (aCells (rT r5 0)) 2)), (.int .i64 (gI (aCells (rT r5 0)) 3)), (.int .i64 (gI (aCells (rT r5 0)) 4))])), (Ai (rI (rT r5 1)))]) [])))
 (Req ((0 : Int) ≤ rI r0 ∧ rI r0 < (↑a0.length : Int))
 (Br (decide ((↑(a0.getD (rI r0).toNat 0).toNat : Int) = (60 : Int)))
 (Call E0.P fn_r15_hex [(As a0), (Ai (IntKind.i64.wrap (rI r0 + (1 : Int))))] [] fun r6 g6 =>
 Req (qP9 g6 r6)
 (Call E0.P fn_r15_sign [(Ai 3), (Ai (rI r0)), (As (rS (rT r6 0))), (Ai (rI (rT r6 1))), (Ai (rI (rT r6 2)))] [] fun r7 g7 =>
 Req (qP5 g7 r7)
 (Q (.tup [(.imm (.agg [(.int .i64 (gI (aCells (rT r7 0)) 0)), (.int .i64 (gI (aCells (rT r7 0)) 1)), (.str (gS (aCells (rT r7 0)) 2)), (.int .i64 (gI (aCells (rT r7 0)) 3)), (.int .i64 (gI (aCells (rT r7 0)) 4))])), (Ai (rI (rT r7 1)))]) [])))
 (Req ((0 : Int) ≤ rI r0 ∧ rI r0 < (↑a0.length : Int))
 (Call E0.P fn_r01_Kind [(.imm (.int .u8 ((↑(a0.getD (rI r0).toNat 0).toNat : Int))))] [] fun r8 g8 =>
 Req (qP7 g8 r8)
 (Br (decide (rI r8 = (1 : Int)))
 (Q (.tup [(.imm (.agg [(.int .i64 0), (.int .i64 0), (.str []), (.int .i64 0), (.int .i64 0)])), (Ai 4)]) [])
 (Call E0.P fn_r15_word [(As a0), (Ai (rI r0))] [] fun r9 g9 =>
 Req (qP5 g9 r9)
 (Q (.tup [(.imm (.agg [(.int .i64 (gI (aCells (rT r9 0)) 0)), (.int .i64 (gI (aCells (rT r9 0)) 1)), (.str (gS (aCells (rT r9 0)) 2)), (.int .i64 (gI (aCells (rT r9 0)) 3)), (.int .i64 (gI (aCells (rT r9 0)) 4))])), (Ai (rI (rT r9 1)))]) []))))))))))))))))))))) : Call E0.P fn_r15_Next [(As a0), (Ai a1)] [] Q := fun_rule (envN E0 nt_r15_Next) (okE nt_r15_Next) 3 0 51 ac_r15_Next [.cell 4 95, .tmp 5] ok_r15_Next _ _ Q rfl rfl (kr (by kernel_rfl) h)
noncomputable def ac_parse_cursor_take : AC := (annot [(3, [2, 4, 5], [])] [2, 3] (codeOf Try.f64) 0).1
abbrev nt_parse_cursor_take : Nat := 20
def C_parse_cursor_take_3 (t5 u0 u1 : Int) (u2 : LB) (u3 u4 : Int) (u5 u6 : Int) (u7 : LB) (u8 u9 : Int) (v0 : LB) (v1 v2 : Int) (K : KK) : Prop := CutOK 3 E0.P nt_parse_cursor_take (cbodyOf 3 ac_parse_cursor_take).code ⟨[(2, .ptr nL2 0), (4, .ptr nL4 0), (5, (Ai t5))], [(nL2, .blk ty_api_Token [(Ai u0), (Ai u1), (As u2), (Ai u3), (Ai u4)]), (nL4, .blk ty_api_Token [(Ai u5), (Ai u6), (As u7), (Ai u8), (Ai u9)]), (nA0, .blk ty_parse_reader [(As v0), (Ai v1), (Ai v2)])]⟩ K
def K_parse_cursor_take_0 (s : LB) (at_ win : Int) (Q : QQ) : KK := kE fun st => finish 0 E0.T [.cell 2 95, .tmp 3] [(nA0, .blk ty_parse_reader [(As s), (Ai at_), (Ai win)])] Q st
theorem C_parse_cursor_take_3_of (t5 u0 u1 : Int) (u2 : LB) (u3 u4 : Int) (u5 u6 : Int) (u7 : LB) (u8 u9 : Int) (v0 : LB) (v1 v2 : Int) (K : KK) (h :
 (K .ret ⟨[(2, .ptr nL2 0), (3, (Ai t5))], [(nL2, .blk ty_api_Token [(Ai u5), (Ai u6), (As u7), (Ai u8), (Ai u9)]), (nA0, .blk ty_parse_reader [(As v0), (Ai v1), (Ai v2)])]⟩)) : C_parse_cursor_take_3 t5 u0 u1 u2 u3 u4 u5 u6 u7 u8 u9 v0 v1 v2 K := cut_rule (envN E0 nt_parse_cursor_take) (okE nt_parse_cursor_take) 3 3 (cbodyOf 3 ac_parse_cursor_take) [] _ K rfl (kr (by kernel_rfl) h)
theorem K_parse_cursor_take_0_x0 (s : LB) (at_ win : Int) (Q : QQ) (t3 u0 u1 : Int) (u2 : LB) (u3 u4 : Int) (u5 : LB) (u6 u7 : Int) (h :
 (Q (.tup [(.imm (.agg [(.int .i64 u0), (.int .i64 u1), (.str u2), (.int .i64 u3), (.int .i64 u4)])), (Ai t3)]) [(nA0, .blk ty_parse_reader [(As u5), (Ai u6), (Ai u7)])])) : K_parse_cursor_take_0 s at_ win Q .ret ⟨[(2, .ptr nL2 0), (3, (Ai t3))], [(nL2, .blk ty_api_Token [(Ai u0), (Ai u1), (As u2), (Ai u3), (Ai u4)]), (nA0, .blk ty_parse_reader [(As u5), (Ai u6), (Ai u7)])]⟩ := kr (by kernel_rfl) h
theorem ok_parse_cursor_take : FnOK E0.P 64 ac_parse_cursor_take.code nt_parse_cursor_take [.cell 2 95, .tmp 3] := fn_ok _ _ Try.f64 [(3, [2, 4, 5], [])] [2, 3] _ 20 Try.func64 (by kernel_rfl) (by kernel_rfl) (by kernel_rfl) (by kernel_rfl)
theorem F_parse_cursor_take_of (s : LB) (at_ win : Int) (Q : QQ) (h :
 (Call E0.P fn_token_Next [(As s), (Ai at_)] [] fun r0 g0 =>
 Req (qP5 g0 r0)
 (Br (decide (rI (rT r0 1) = (0 : Int)))
 (C_parse_cursor_take_3 (rI (rT r0 1)) ((0 : Int)) ((0 : Int)) [] ((0 : Int)) ((0 : Int)) (gI (aCells (rT r0 0)) 0) (gI (aCells (rT r0 0)) 1) (gS (aCells (rT r0 0)) 2) (gI (aCells (rT r0 0)) 3) (gI (aCells (rT r0 0)) 4) s (gI (aCells (rT r0 0)) 4) win (K_parse_cursor_take_0 s at_ win Q))
 (C_parse_cursor_take_3 (rI (rT r0 1)) ((0 : Int)) ((0 : Int)) [] ((0 : Int)) ((0 : Int)) (gI (aCells (rT r0 0)) 0) (gI (aCells (rT r0 0)) 1) (gS (aCells (rT r0 0)) 2) (gI (aCells (rT r0 0)) 3) (gI (aCells (rT r0 0)) 4) s at_ win (K_parse_cursor_take_0 s at_ win Q))))) : Call E0.P fn_parse_cursor_take [(.ptr (.arg 0) 0)] [(.arg 0, .blk ty_parse_reader [.imm (.str s), .imm (.int .i64 at_), .imm (.int .i64 win)])] Q := fun_rule (envN E0 nt_parse_cursor_take) (okE nt_parse_cursor_take) 3 0 64 ac_parse_cursor_take [.cell 2 95, .tmp 3] ok_parse_cursor_take _ _ Q rfl rfl (kr (by kernel_rfl) h)
noncomputable def ac_parse_reader_number : AC := (annot [] [4, 5] (codeOf Try.f65) 0).1
abbrev nt_parse_reader_number : Nat := 39
theorem ok_parse_reader_number : FnOK E0.P 65 ac_parse_reader_number.code nt_parse_reader_number [.cell 4 37, .tmp 5] := fn_ok _ _ Try.f65 [] [4, 5] _ 39 Try.func65 (by kernel_rfl) (by kernel_rfl) (by kernel_rfl) (by kernel_rfl)
theorem F_parse_reader_number_of (s : LB) (at_ win a1 : Int) (Q : QQ) (h :
 (Call E0.P fn_parse_reader_link [(.ptr nA0 0)] [(nA0, .blk ty_parse_reader [(As s), (Ai at_), (Ai win)])] fun r0 g0 =>
 Req (g0 =
 [(Nm.arg 0,
 Entry.blk 89
 [.imm (.str (rS ((blkOf g0 nA0).getD 0 AV.undef))),
 .imm (.int .i64 (rI ((blkOf g0 nA0).getD 1 AV.undef))),
 .imm (.int .i64 (rI ((blkOf g0 nA0).getD 2 AV.undef)))])] ∧
 r0 = .tup [.imm (.int .i64 (rI (rT r0 0))), .imm (.bool (rB (rT r0 1)))])
 (Br (!rB (rT r0 1))
 (Q (.tup [(.imm (.agg [(.int .i64 2), (.int .i64 a1), (.int .i64 0), (.str []), (.sl .any 6 []), (.sl .any 7 [])])), (Ai 0)]) [(nA0, .blk ty_parse_reader [(.imm (.str (rS ((blkOf g0 nA0).getD 0 AV.undef)))), (.imm (.int .i64 (rI ((blkOf g0 nA0).getD 1 AV.undef)))), (.imm (.int .i64 (rI ((blkOf g0 nA0).getD 2 AV.undef))))])])
 (Let (bif decide (a1 < (1 : Int)) then true else decide ((8388607 : Int) < a1)) fun x1 =>
 Let (bif x1 then true else decide (rI (rT r0 0) < (0 : Int))) fun x2 =>
 Let (bif x2 then true else decide ((65535 : Int) < rI (rT r0 0))) fun x3 =>
 Br (x3)
 (Q (.tup [(.imm (.agg [(.int .i64 0), (.int .i64 0), (.int .i64 0), (.str []), (.sl .any 6 []), (.sl .any 7 [])])), (Ai 3)]) [(nA0, .blk ty_parse_reader [(.imm (.str (rS ((blkOf g0 nA0).getD 0 AV.undef)))), (.imm (.int .i64 (rI ((blkOf g0 nA0).getD 1 AV.undef)))), (.imm (.int .i64 (rI ((blkOf g0 nA0).getD 2 AV.undef))))])])
 (Q (.tup [(.imm (.agg [(.int .i64 7), (.int .i64 a1), (.int .i64 (rI (rT r0 0))), (.str []), (.sl .any 6 []), (.sl .any 7 [])])), (Ai 0)]) [(nA0, .blk ty_parse_reader [(.imm (.str (rS ((blkOf g0 nA0).getD 0 AV.undef)))), (.imm (.int .i64 (rI ((blkOf g0 nA0).getD 1 AV.undef)))), (.imm (.int .i64 (rI ((blkOf g0 nA0).getD 2 AV.undef))))])]))))) : Call E0.P fn_parse_reader_number [(.ptr (.arg 0) 0), (Ai a1)] [(.arg 0, .blk ty_parse_reader [.imm (.str s), .imm (.int .i64 at_), .imm (.int .i64 win)])] Q := fun_rule (envN E0 nt_parse_reader_number) (okE nt_parse_reader_number) 3 0 65 ac_parse_reader_number [.cell 4 37, .tmp 5] ok_parse_reader_number _ _ Q rfl rfl (kr (by kernel_rfl) h)
noncomputable def ac_parse_word : AC := (annot [] [2, 3] (codeOf Try.f66) 0).1
abbrev nt_parse_word : Nat := 17
theorem ok_parse_word : FnOK E0.P 66 ac_parse_word.code nt_parse_word [.cell 2 37, .tmp 3] := fn_ok _ _ Try.f66 [] [2, 3] _ 17 Try.func66 (by kernel_rfl) (by kernel_rfl) (by kernel_rfl) (by kernel_rfl)
theorem F_parse_word_of (a0 : LB) (Q : QQ) (h :
 (Br (a0 == [(116 : UInt8), 114, 117, 101])
 (Q (.tup [(.imm (.agg [(.int .i64 1), (.int .i64 1), (.int .i64 0), (.str []), (.sl .any 6 []), (.sl .any 7 [])])), (Ai 0)]) [])
 (Br (a0 == [(102 : UInt8), 97, 108, 115, 101])
 (Q (.tup [(.imm (.agg [(.int .i64 1), (.int .i64 0), (.int .i64 0), (.str []), (.sl .any 6 []), (.sl .any 7 [])])), (Ai 0)]) [])
 (Br (a0 == [(110 : UInt8), 117, 108, 108])
 (Q (.tup [(.imm (.agg [(.int .i64 0), (.int .i64 0), (.int .i64 0), (.str []), (.sl .any 6 []), (.sl .any 7 [])])), (Ai 0)]) [])
 (Q (.tup [(.imm (.agg [(.int .i64 0), (.int .i64 0), (.int .i64 0), (.str []), (.sl .any 6 []), (.sl .any 7 [])])), (Ai 4)]) []))))) : Call E0.P fn_parse_word [(As a0)] [] Q := fun_rule (envN E0 nt_parse_word) (okE nt_parse_word) 3 0 66 ac_parse_word [.cell 2 37, .tmp 3] ok_parse_word _ _ Q rfl rfl (kr (by kernel_rfl) h)
noncomputable def ac_parse_reader_list : AC := (annot [(1, [0, 2, 4], []), (4, [0, 2, 4], []), (10, [2, 4], []), (16, [2, 4], [])] [2, 3] (codeOf Try.f68) 0).1
abbrev nt_parse_reader_list : Nat := 49
def L_parse_reader_list_4 (u0 : LB) (u1 u2 : Int) (u3 u4 u5 : Int) (u6 : LB) (u7 u8 u9 : Int) (v0 : LB) (v1 v2 : LL) (v3 v4 : LL) (K : KK) : Prop := LoopOK 4 E0.P nt_parse_reader_list (lbodyOf 4 ac_parse_reader_list).code ⟨[(0, .ptr nA0 0), (2, .ptr nL2 0), (4, .ptr nL4 0)], [(nA0, .blk ty_parse_reader [(As u0), (Ai u1), (Ai u2)]), (nL2, .blk ty_api_Value [(Ai u3), (Ai u4), (Ai u5), (As u6), (.own (nL2.cell 4)), (.own (nL2.cell 5))]), (nL4, .blk ty_api_Value [(Ai u7), (Ai u8), (Ai u9), (As v0), (.own (nL4.cell 4)), (.own (nL4.cell 5))]), ((nL2.cell 4), .arr (ty_api_Value + 2) true 6 v1), ((nL2.cell 5), .arr (ty_api_Pair + 2) true 7 v2), ((nL4.cell 4), .arr (ty_api_Value + 2) true 6 v3), ((nL4.cell 5), .arr (ty_api_Pair + 2) true 7 v4)]⟩ K
def C_parse_reader_list_16 (u0 u1 u2 : Int) (u3 : LB) (u4 u5 u6 : Int) (u7 u8 : LB) (u9 v0 : Int) (v1 v2 : LL) (v3 v4 : LL) (K : KK) : Prop := CutOK 16 E0.P nt_parse_reader_list (cbodyOf 16 ac_parse_reader_list).code ⟨[(2, .ptr nL2 0), (4, .ptr nL4 0)], [(nL2, .blk ty_api_Value [(Ai u0), (Ai u1), (Ai u2), (As u3), (.own (nL2.cell 4)), (.own (nL2.cell 5))]), (nL4, .blk ty_api_Value [(Ai u4), (Ai u5), (Ai u6), (As u7), (.own (nL4.cell 4)), (.own (nL4.cell 5))]), (nA0, .blk ty_parse_reader [(As u8), (Ai u9), (Ai v0)]), ((nL2.cell 4), .arr (ty_api_Value + 2) true 6 v1), ((nL2.cell 5), .arr (ty_api_Pair + 2) true 7 v2), ((nL4.cell 4), .arr (ty_api_Value + 2) true 6 v3), ((nL4.cell 5), .arr (ty_api_Pair + 2) true 7 v4)]⟩ K
def K_parse_reader_list_0 (s : LB) (at_ win : Int) (Q : QQ) : KK := kE fun st => finish 0 E0.T [.cell 2 37, .tmp 3] [(nA0, .blk ty_parse_reader [(As s), (Ai at_), (Ai win)])] Q st
def K_parse_reader_list_1 (s : LB) (at_ win : Int) (Q : QQ) : Ex → St → Prop
 | .normal, st => finish 0 E0.T [.cell 2 37, .tmp 3] [(nA0, .blk ty_parse_reader [(As s), (Ai at_), (Ai win)])] Q st
 | .exit i, st => False
 | .goto i, st => ScopeOK 1 E0.P nt_parse_reader_list i (sbodyOf 1 ac_parse_reader_list).code (mask [0, 2, 4] st) (K_parse_reader_list_0 s at_ win Q)
 | .ret, st => finish 0 E0.T [.cell 2 37, .tmp 3] [(nA0, .blk ty_parse_reader [(As s), (Ai at_), (Ai win)])] Q st
def K_parse_reader_list_2 (s : LB) (at_ win : Int) (Q : QQ) : Ex → St → Prop
 | .normal, st => CutOK 16 E0.P nt_parse_reader_list (cbodyOf 16 ac_parse_reader_list).code (mask [2, 4] st) (K_parse_reader_list_1 s at_ win Q)
 | .exit i, st => (match (i.beq 0 : Bool) with
 | true => CutOK 16 E0.P nt_parse_reader_list (cbodyOf 16 ac_parse_reader_list).code (mask [2, 4] st) (K_parse_reader_list_1 s at_ win Q)
 | false => False)
 | .goto i, st => ScopeOK 1 E0.P nt_parse_reader_list i (sbodyOf 1 ac_parse_reader_list).code (mask [0, 2, 4] st) (K_parse_reader_list_0 s at_ win Q)
 | .ret, st => finish 0 E0.T [.cell 2 37, .tmp 3] [(nA0, .blk ty_parse_reader [(As s), (Ai at_), (Ai win)])] Q st
theorem L_parse_reader_list_4_of (u0 : LB) (u1 u2 : Int) (u3 u4 u5 : Int) (u6 : LB) (u7 u8 u9 : Int) (v0 : LB) (v1 v2 : LL) (v3 v4 : LL) (K : KK) (h :
 (Call E0.P fn_token_Next [(As u0), (Ai u1)] [] fun r0 g0 =>
 Req (qP5 g0 r0)
 (Br (!decide (rI (rT r0 1) = (0 : Int)))
 (K .ret ⟨[(2, .ptr nL2 0), (3, (Ai (rI (rT r0 1))))], [(nL2, .blk ty_api_Value [(Ai 0), (Ai 0), (Ai 0), (.imm (.str [])), (.own (Nm.sub 20 (nL2.cell 4))), (.own (Nm.sub 20 (nL2.cell 5)))]), (nA0, .blk ty_parse_reader [(As u0), (Ai u1), (Ai u2)]), ((Nm.sub 20 (nL2.cell 4)), (.arr (ty_api_Value + 2) true 6 [])), ((Nm.sub 20 (nL2.cell 5)), (.arr (ty_api_Pair + 2) true 7 []))]⟩)
 (Br (decide (gI (aCells (rT r0 0)) 0 = (5 : Int)))
 (Call E0.P fn_parse_cursor_take [(.ptr nA0 0)] [(nA0, .blk ty_parse_reader [(As u0), (Ai u1), (Ai u2)])] fun r1 g1 =>
 Req (qP6 g1 r1)
 (K (.exit 0) ⟨[(2, .ptr nL2 0), (4, .ptr nL4 0)], [(nL2, .blk ty_api_Value [(Ai u3), (Ai u4), (Ai u5), (As u6), (.own (nL2.cell 4)), (.own (nL2.cell 5))]), (nL4, .blk ty_api_Value [(Ai u7), (Ai u8), (Ai u9), (As v0), (.own (nL4.cell 4)), (.own (nL4.cell 5))]), (nA0, .blk ty_parse_reader [(.imm (.str (rS ((blkOf g1 nA0).getD 0 AV.undef)))), (.imm (.int .i64 (rI ((blkOf g1 nA0).getD 1 AV.undef)))), (.imm (.int .i64 (rI ((blkOf g1 nA0).getD 2 AV.undef))))]), ((nL2.cell 4), .arr (ty_api_Value + 2) true 6 v1), ((nL2.cell 5), .arr (ty_api_Pair + 2) true 7 v2), ((nL4.cell 4), .arr (ty_api_Value + 2) true 6 v3), ((nL4.cell 5), .arr (ty_api_Pair + 2) true 7 v4)]⟩))
 (Call E0.P fn_parse_reader_value [(.ptr nA0 0)] [(nA0, .blk ty_parse_reader [(As u0), (Ai u1), (Ai u2)])] fun r2 g2 =>
 Req (qP3 g2 r2)
 (Br (!decide (rI (rT r2 1) = (0 : Int)))
 (K .ret ⟨[(2, .ptr nL2 0), (3, (Ai (rI (rT r2 1))))], [(nL2, .blk ty_api_Value [(Ai 0), (Ai 0), (Ai 0), (.imm (.str [])), (.own (Nm.sub 39 (nL2.cell 4))), (.own (Nm.sub 39 (nL2.cell 5)))]), (nA0, .blk ty_parse_reader [(.imm (.str (rS ((blkOf g2 nA0).getD 0 AV.undef)))), (.imm (.int .i64 (rI ((blkOf g2 nA0).getD 1 AV.undef)))), (.imm (.int .i64 (rI ((blkOf g2 nA0).getD 2 AV.undef))))]), ((Nm.sub 39 (nL2.cell 4)), (.arr (ty_api_Value + 2) true 6 [])), ((Nm.sub 39 (nL2.cell 5)), (.arr (ty_api_Pair + 2) true 7 []))]⟩)
 (Req ((v3.length + 1) * 88 ≤ 140737488355328 ∧ v3.length + 1 ≤ 140737488355328)
 (L_parse_reader_list_4 (rS ((blkOf g2 nA0).getD 0 AV.undef)) (rI ((blkOf g2 nA0).getD 1 AV.undef)) (rI ((blkOf g2 nA0).getD 2 AV.undef)) u3 u4 u5 u6 u7 u8 u9 v0 v1 v2 (v3 ++
 [[IV.int .i64 (gI (aCells (rT r2 0)) 0),
 .int .i64 (gI (aCells (rT r2 0)) 1),
 .int .i64 (gI (aCells (rT r2 0)) 2), .str (gS (aCells (rT r2 0)) 3),
 .sl SK.any 6 (gR (aCells (rT r2 0)) 4),
 .sl SK.any 7 (gR (aCells (rT r2 0)) 5)]]) v4 K)))))))) : L_parse_reader_list_4 u0 u1 u2 u3 u4 u5 u6 u7 u8 u9 v0 v1 v2 v3 v4 K := loop_rule (envN E0 nt_parse_reader_list) (okE nt_parse_reader_list) 3 4 (lbodyOf 4 ac_parse_reader_list) [0, 2, 4] _ K rfl (kr (by kernel_rfl) h)
theorem C_parse_reader_list_16_of (u0 u1 u2 : Int) (u3 : LB) (u4 u5 u6 : Int) (u7 u8 : LB) (u9 v0 : Int) (v1 v2 : LL) (v3 v4 : LL) (K : KK) (h :
 (K .ret ⟨[(2, .ptr nL2 0), (3, (Ai 0))], [(nL2, .blk ty_api_Value [(Ai u4), (Ai u5), (Ai u6), (As u7), (.own (nL4.cell 4)), (.own (nL4.cell 5))]), (nA0, .blk ty_parse_reader [(As u8), (Ai u9), (Ai v0)]), ((nL4.cell 4), .arr (ty_api_Value + 2) true 6 v3), ((nL4.cell 5), .arr (ty_api_Pair + 2) true 7 v4)]⟩)) : C_parse_reader_list_16 u0 u1 u2 u3 u4 u5 u6 u7 u8 u9 v0 v1 v2 v3 v4 K := cut_rule (envN E0 nt_parse_reader_list) (okE nt_parse_reader_list) 3 16 (cbodyOf 16 ac_parse_reader_list) [] _ K rfl (kr (by kernel_rfl) h)
theorem K_parse_reader_list_1_x0 (s : LB) (at_ win : Int) (Q : QQ) (t3 u0 : Int) (u1 u2 : Int) (u3 u4 : LB) (u5 u6 : Int) (u7 u8 : LL) (h :
 (Q (.tup [(.imm (.agg [(.int .i64 u0), (.int .i64 u1), (.int .i64 u2), (.str u3), (.sl .any 6 u7), (.sl .any 7 u8)])), (Ai t3)]) [(nA0, .blk ty_parse_reader [(As u4), (Ai u5), (Ai u6)])])) : K_parse_reader_list_1 s at_ win Q .ret ⟨[(2, .ptr nL2 0), (3, (Ai t3))], [(nL2, .blk ty_api_Value [(Ai u0), (Ai u1), (Ai u2), (As u3), (.own (nL4.cell 4)), (.own (nL4.cell 5))]), (nA0, .blk ty_parse_reader [(As u4), (Ai u5), (Ai u6)]), ((nL4.cell 4), .arr (ty_api_Value + 2) true 6 u7), ((nL4.cell 5), .arr (ty_api_Pair + 2) true 7 u8)]⟩ := kr (by kernel_rfl) h
theorem K_parse_reader_list_2_x0 (s : LB) (at_ win : Int) (Q : QQ) (t3 u0 : Int) (u1 u2 : Int) (u3 u4 : LB) (u5 u6 : Int) (u7 u8 : LL) (h :
 (Q (.tup [(.imm (.agg [(.int .i64 u0), (.int .i64 u1), (.int .i64 u2), (.str u3), (.sl .any 6 u7), (.sl .any 7 u8)])), (Ai t3)]) [(nA0, .blk ty_parse_reader [(As u4), (Ai u5), (Ai u6)])])) : K_parse_reader_list_2 s at_ win Q .ret ⟨[(2, .ptr nL2 0), (3, (Ai t3))], [(nL2, .blk ty_api_Value [(Ai u0), (Ai u1), (Ai u2), (As u3), (.own (Nm.sub 20 (nL2.cell 4))), (.own (Nm.sub 20 (nL2.cell 5)))]), (nA0, .blk ty_parse_reader [(As u4), (Ai u5), (Ai u6)]), ((Nm.sub 20 (nL2.cell 4)), (.arr (ty_api_Value + 2) true 6 u7)), ((Nm.sub 20 (nL2.cell 5)), (.arr (ty_api_Pair + 2) true 7 u8))]⟩ := kr (by kernel_rfl) h
theorem K_parse_reader_list_2_x1 (s : LB) (at_ win : Int) (Q : QQ) (u0 u1 u2 : Int) (u3 : LB) (u4 u5 u6 : Int) (u7 u8 : LB) (u9 v0 : Int) (v1 v2 : LL) (v3 v4 : LL) (h :
 (C_parse_reader_list_16 u0 u1 u2 u3 u4 u5 u6 u7 u8 u9 v0 v1 v2 v3 v4 (K_parse_reader_list_1 s at_ win Q))) : K_parse_reader_list_2 s at_ win Q (.exit 0) ⟨[(2, .ptr nL2 0), (4, .ptr nL4 0)], [(nL2, .blk ty_api_Value [(Ai u0), (Ai u1), (Ai u2), (As u3), (.own (nL2.cell 4)), (.own (nL2.cell 5))]), (nL4, .blk ty_api_Value [(Ai u4), (Ai u5), (Ai u6), (As u7), (.own (nL4.cell 4)), (.own (nL4.cell 5))]), (nA0, .blk ty_parse_reader [(As u8), (Ai u9), (Ai v0)]), ((nL2.cell 4), .arr (ty_api_Value + 2) true 6 v1), ((nL2.cell 5), .arr (ty_api_Pair + 2) true 7 v2), ((nL4.cell 4), .arr (ty_api_Value + 2) true 6 v3), ((nL4.cell 5), .arr (ty_api_Pair + 2) true 7 v4)]⟩ := kr (by kernel_rfl) h
theorem K_parse_reader_list_2_x2 (s : LB) (at_ win : Int) (Q : QQ) (t3 u0 : Int) (u1 u2 : Int) (u3 u4 : LB) (u5 u6 : Int) (u7 u8 : LL) (h :
 (Q (.tup [(.imm (.agg [(.int .i64 u0), (.int .i64 u1), (.int .i64 u2), (.str u3), (.sl .any 6 u7), (.sl .any 7 u8)])), (Ai t3)]) [(nA0, .blk ty_parse_reader [(As u4), (Ai u5), (Ai u6)])])) : K_parse_reader_list_2 s at_ win Q .ret ⟨[(2, .ptr nL2 0), (3, (Ai t3))], [(nL2, .blk ty_api_Value [(Ai u0), (Ai u1), (Ai u2), (As u3), (.own (Nm.sub 39 (nL2.cell 4))), (.own (Nm.sub 39 (nL2.cell 5)))]), (nA0, .blk ty_parse_reader [(As u4), (Ai u5), (Ai u6)]), ((Nm.sub 39 (nL2.cell 4)), (.arr (ty_api_Value + 2) true 6 u7)), ((Nm.sub 39 (nL2.cell 5)), (.arr (ty_api_Pair + 2) true 7 u8))]⟩ := kr (by kernel_rfl) h
theorem ok_parse_reader_list : FnOK E0.P 68 ac_parse_reader_list.code nt_parse_reader_list [.cell 2 37, .tmp 3] := fn_ok _ _ Try.f68 [(1, [0, 2, 4], []), (4, [0, 2, 4], []), (10, [2, 4], []), (16, [2, 4], [])] [2, 3] _ 49 Try.func68 (by kernel_rfl) (by kernel_rfl) (by kernel_rfl) (by kernel_rfl)
theorem F_parse_reader_list_of (s : LB) (at_ win : Int) (Q : QQ) (h :
 (L_parse_reader_list_4 s at_ win ((0 : Int)) ((0 : Int)) ((0 : Int)) [] ((5 : Int)) ((0 : Int)) ((0 : Int)) [] [] [] [] [] (K_parse_reader_list_2 s at_ win Q))) : Call E0.P fn_parse_reader_list [(.ptr (.arg 0) 0)] [(.arg 0, .blk ty_parse_reader [.imm (.str s), .imm (.int .i64 at_), .imm (.int .i64 win)])] Q := fun_rule (envN E0 nt_parse_reader_list) (okE nt_parse_reader_list) 3 0 68 ac_parse_reader_list [.cell 2 37, .tmp 3] ok_parse_reader_list _ _ Q rfl rfl (kr (by kernel_rfl) h)
noncomputable def ac_parse_reader_dict : AC := (annot [(3, [0, 2, 4, 5], [])] [2, 3] (codeOf Try.f69) 0).1
abbrev nt_parse_reader_dict : Nat := 47
def L_parse_reader_dict_3 (u0 : LB) (u1 u2 : Int) (u3 u4 u5 : Int) (u6 : LB) (u7 u8 u9 : Int) (v0 : LB) (v1 : List (List UInt8 × Int)) (v2 v3 : LL) (v4 v5 : LL) (K : KK) : Prop := LoopOK 3 E0.P nt_parse_reader_dict (lbodyOf 3 ac_parse_reader_dict).code ⟨[(0, .ptr nA0 0), (2, .ptr nL2 0), (4, .ptr nL4 0), (5, .mp nL11)], [(nA0, .blk ty_parse_reader [(As u0), (Ai u1), (Ai u2)]), (nL2, .blk ty_api_Value [(Ai u3), (Ai u4), (Ai u5), (As u6), (.own (nL2.cell 4)), (.own (nL2.cell 5))]), (nL4, .blk ty_api_Value [(Ai u7), (Ai u8), (Ai u9), (As v0), (.own (nL4.cell 4)), (.own (nL4.cell 5))]), (nL11, .map v1), ((nL2.cell 4), .arr (ty_api_Value + 2) true 6 v2), ((nL2.cell 5), .arr (ty_api_Pair + 2) true 7 v3), ((nL4.cell 4), .arr (ty_api_Value + 2) true 6 v4), ((nL4.cell 5), .arr (ty_api_Pair + 2) true 7 v5)]⟩ K
def K_parse_reader_dict_0 (s : LB) (at_ win : Int) (Q : QQ) : KK := kF 0 (fun st => finish 0 E0.T [.cell 2 37, .tmp 3] [(nA0, .blk ty_parse_reader [(As s), (Ai at_), (Ai win)])] Q st) fun st => finish 0 E0.T [.cell 2 37, .tmp 3] [(nA0, .blk ty_parse_reader [(As s), (Ai at_), (Ai win)])] Q st
theorem L_parse_reader_dict_3_of (u0 : LB) (u1 u2 : Int) (u3 u4 u5 : Int) (u6 : LB) (u7 u8 u9 : Int) (v0 : LB) (v1 : List (List UInt8 × Int)) (v2 v3 : LL) (v4 v5 : LL) (K : KK) (h :
 (Call E0.P fn_parse_reader_key [(.ptr nA0 0), (.mp nA1)] [(nA0, .blk ty_parse_reader [(As u0), (Ai u1), (Ai u2)]), (nA1, .map v1)] fun r0 g0 =>
 Req (g0 =
 [(Nm.arg 0,
 Entry.blk 89
 [.imm (.str (rS ((blkOf g0 nA0).getD 0 AV.undef))),
 .imm (.int .i64 (rI ((blkOf g0 nA0).getD 1 AV.undef))),
 .imm (.int .i64 (rI ((blkOf g0 nA0).getD 2 AV.undef)))]),
 (Nm.arg 1, Entry.map (mapOf g0 nA1))] ∧
 r0 =
 .tup
 [.imm (.str (rS (rT r0 0))), .imm (.bool (rB (rT r0 1))),
 .imm (.int .i64 (rI (rT r0 2)))])
 (Br (!decide (rI (rT r0 2) = (0 : Int)))
 (K .ret ⟨[(2, .ptr nL2 0), (3, (Ai (rI (rT r0 2))))], [(nL2, .blk ty_api_Value [(Ai 0), (Ai 0), (Ai 0), (.imm (.str [])), (.own (Nm.sub 22 (nL2.cell 4))), (.own (Nm.sub 22 (nL2.cell 5)))]), (nA0, .blk ty_parse_reader [(.imm (.str (rS ((blkOf g0 nA0).getD 0 AV.undef)))), (.imm (.int .i64 (rI ((blkOf g0 nA0).getD 1 AV.undef)))), (.imm (.int .i64 (rI ((blkOf g0 nA0).getD 2 AV.undef))))]), ((Nm.sub 22 (nL2.cell 4)), (.arr (ty_api_Value + 2) true 6 [])), ((Nm.sub 22 (nL2.cell 5)), (.arr (ty_api_Pair + 2) true 7 []))]⟩)
 (Br (!rB (rT r0 1))
 (K .ret ⟨[(2, .ptr nL2 0), (3, (Ai 0))], [(nL2, .blk ty_api_Value [(Ai u7), (Ai u8), (Ai u9), (As v0), (.own (nL4.cell 4)), (.own (nL4.cell 5))]), (nA0, .blk ty_parse_reader [(.imm (.str (rS ((blkOf g0 nA0).getD 0 AV.undef)))), (.imm (.int .i64 (rI ((blkOf g0 nA0).getD 1 AV.undef)))), (.imm (.int .i64 (rI ((blkOf g0 nA0).getD 2 AV.undef))))]), ((nL4.cell 4), .arr (ty_api_Value + 2) true 6 v4), ((nL4.cell 5), .arr (ty_api_Pair + 2) true 7 v5)]⟩)
 (Call E0.P fn_parse_reader_value [(.ptr nA0 0)] [(nA0, .blk ty_parse_reader [(.imm (.str (rS ((blkOf g0 nA0).getD 0 AV.undef)))), (.imm (.int .i64 (rI ((blkOf g0 nA0).getD 1 AV.undef)))), (.imm (.int .i64 (rI ((blkOf g0 nA0).getD 2 AV.undef))))])] fun r1 g1 =>
 Req (qP3 g1 r1)
 (Br (!decide (rI (rT r1 1) = (0 : Int)))
 (K .ret ⟨[(2, .ptr nL2 0), (3, (Ai (rI (rT r1 1))))], [(nL2, .blk ty_api_Value [(Ai 0), (Ai 0), (Ai 0), (.imm (.str [])), (.own (Nm.sub 36 (nL2.cell 4))), (.own (Nm.sub 36 (nL2.cell 5)))]), (nA0, .blk ty_parse_reader [(.imm (.str (rS ((blkOf g1 nA0).getD 0 AV.undef)))), (.imm (.int .i64 (rI ((blkOf g1 nA0).getD 1 AV.undef)))), (.imm (.int .i64 (rI ((blkOf g1 nA0).getD 2 AV.undef))))]), ((Nm.sub 36 (nL2.cell 4)), (.arr (ty_api_Value + 2) true 6 [])), ((Nm.sub 36 (nL2.cell 5)), (.arr (ty_api_Pair + 2) true 7 []))]⟩)
 (Req ((v5.length + 1) * 104 ≤ 140737488355328 ∧ v5.length + 1 ≤ 140737488355328)
 (L_parse_reader_dict_3 (rS ((blkOf g1 nA0).getD 0 AV.undef)) (rI ((blkOf g1 nA0).getD 1 AV.undef)) (rI ((blkOf g1 nA0).getD 2 AV.undef)) u3 u4 u5 u6 u7 u8 u9 v0 (mapOf g0 nA1) v2 v3 v4 (v5 ++
 [[IV.str (rS (rT r0 0)), .int .i64 (gI (aCells (rT r1 0)) 0),
 .int .i64 (gI (aCells (rT r1 0)) 1),
 .int .i64 (gI (aCells (rT r1 0)) 2), .str (gS (aCells (rT r1 0)) 3),
 .sl SK.any 6 (gR (aCells (rT r1 0)) 4),
 .sl SK.any 7 (gR (aCells (rT r1 0)) 5)]]) K)))))))) : L_parse_reader_dict_3 u0 u1 u2 u3 u4 u5 u6 u7 u8 u9 v0 v1 v2 v3 v4 v5 K := loop_rule (envN E0 nt_parse_reader_dict) (okE nt_parse_reader_dict) 3 3 (lbodyOf 3 ac_parse_reader_dict) [0, 2, 4, 5] _ K rfl (kr (by kernel_rfl) h)
theorem K_parse_reader_dict_0_x0 (s : LB) (at_ win : Int) (Q : QQ) (t3 u0 : Int) (u1 u2 : Int) (u3 u4 : LB) (u5 u6 : Int) (u7 u8 : LL) (h :
 (Q (.tup [(.imm (.agg [(.int .i64 u0), (.int .i64 u1), (.int .i64 u2), (.str u3), (.sl .any 6 u7), (.sl .any 7 u8)])), (Ai t3)]) [(nA0, .blk ty_parse_reader [(As u4), (Ai u5), (Ai u6)])])) : K_parse_reader_dict_0 s at_ win Q .ret ⟨[(2, .ptr nL2 0), (3, (Ai t3))], [(nL2, .blk ty_api_Value [(Ai u0), (Ai u1), (Ai u2), (As u3), (.own (Nm.sub 22 (nL2.cell 4))), (.own (Nm.sub 22 (nL2.cell 5)))]), (nA0, .blk ty_parse_reader [(As u4), (Ai u5), (Ai u6)]), ((Nm.sub 22 (nL2.cell 4)), (.arr (ty_api_Value + 2) true 6 u7)), ((Nm.sub 22 (nL2.cell 5)), (.arr (ty_api_Pair + 2) true 7 u8))]⟩ := kr (by kernel_rfl) h
theorem K_parse_reader_dict_0_x1 (s : LB) (at_ win : Int) (Q : QQ) (t3 u0 : Int) (u1 u2 : Int) (u3 u4 : LB) (u5 u6 : Int) (u7 u8 : LL) (h :
 (Q (.tup [(.imm (.agg [(.int .i64 u0), (.int .i64 u1), (.int .i64 u2), (.str u3), (.sl .any 6 u7), (.sl .any 7 u8)])), (Ai t3)]) [(nA0, .blk ty_parse_reader [(As u4), (Ai u5), (Ai u6)])])) : K_parse_reader_dict_0 s at_ win Q .ret ⟨[(2, .ptr nL2 0), (3, (Ai t3))], [(nL2, .blk ty_api_Value [(Ai u0), (Ai u1), (Ai u2), (As u3), (.own (nL4.cell 4)), (.own (nL4.cell 5))]), (nA0, .blk ty_parse_reader [(As u4), (Ai u5), (Ai u6)]), ((nL4.cell 4), .arr (ty_api_Value + 2) true 6 u7), ((nL4.cell 5), .arr (ty_api_Pair + 2) true 7 u8)]⟩ := kr (by kernel_rfl) h
theorem K_parse_reader_dict_0_x2 (s : LB) (at_ win : Int) (Q : QQ) (t3 u0 : Int) (u1 u2 : Int) (u3 u4 : LB) (u5 u6 : Int) (u7 u8 : LL) (h :
 (Q (.tup [(.imm (.agg [(.int .i64 u0), (.int .i64 u1), (.int .i64 u2), (.str u3), (.sl .any 6 u7), (.sl .any 7 u8)])), (Ai t3)]) [(nA0, .blk ty_parse_reader [(As u4), (Ai u5), (Ai u6)])])) : K_parse_reader_dict_0 s at_ win Q .ret ⟨[(2, .ptr nL2 0), (3, (Ai t3))], [(nL2, .blk ty_api_Value [(Ai u0), (Ai u1), (Ai u2), (As u3), (.own (Nm.sub 36 (nL2.cell 4))), (.own (Nm.sub 36 (nL2.cell 5)))]), (nA0, .blk ty_parse_reader [(As u4), (Ai u5), (Ai u6)]), ((Nm.sub 36 (nL2.cell 4)), (.arr (ty_api_Value + 2) true 6 u7)), ((Nm.sub 36 (nL2.cell 5)), (.arr (ty_api_Pair + 2) true 7 u8))]⟩ := kr (by kernel_rfl) h
theorem ok_parse_reader_dict : FnOK E0.P 69 ac_parse_reader_dict.code nt_parse_reader_dict [.cell 2 37, .tmp 3] := fn_ok _ _ Try.f69 [(3, [0, 2, 4, 5], [])] [2, 3] _ 47 Try.func69 (by kernel_rfl) (by kernel_rfl) (by kernel_rfl) (by kernel_rfl)
theorem F_parse_reader_dict_of (s : LB) (at_ win : Int) (Q : QQ) (h :
 (L_parse_reader_dict_3 s at_ win ((0 : Int)) ((0 : Int)) ((0 : Int)) [] ((6 : Int)) ((0 : Int)) ((0 : Int)) [] [] [] [] [] [] (K_parse_reader_dict_0 s at_ win Q))) : Call E0.P fn_parse_reader_dict [(.ptr (.arg 0) 0)] [(.arg 0, .blk ty_parse_reader [.imm (.str s), .imm (.int .i64 at_), .imm (.int .i64 win)])] Q := fun_rule (envN E0 nt_parse_reader_dict) (okE nt_parse_reader_dict) 3 0 69 ac_parse_reader_dict [.cell 2 37, .tmp 3] ok_parse_reader_dict _ _ Q rfl rfl (kr (by kernel_rfl) h)
noncomputable def ac_r18_number : AC := (annot [] [4, 5, 6] (codeOf Try.f72) 0).1
abbrev nt_r18_number : Nat := 45
theorem ok_r18_number : FnOK E0.P 72 ac_r18_number.code nt_r18_number [.cell 4 37, .tmp 5, .tmp 6] := fn_ok _ _ Try.f72 [] [4, 5, 6] _ 45 Try.func72 (by kernel_rfl) (by kernel_rfl) (by kernel_rfl) (by kernel_rfl)
theorem F_r18_number_of (a0 : LB) (a1_0 a1_1 : Int) (a1_2 : LB) (a1_3 a1_4 : Int) (Q : QQ) (h :
 (Call E0.P fn_r18_link [(As a0), (.imm (.agg [(.int .i64 a1_0), (.int .i64 a1_1), (.str a1_2), (.int .i64 a1_3), (.int .i64 a1_4)]))] [] fun r0 g0 =>
 Req (g0 = [] ∧
 r0 =
 .tup
 [.imm
 (IV.agg
 [.int .i64 (gI (aCells (rT r0 0)) 0),
 .int .i64 (gI (aCells (rT r0 0)) 1),
 .int .i64 (gI (aCells (rT r0 0)) 2),
 .str (gS (aCells (rT r0 0)) 3),
 .sl SK.any 6 (gR (aCells (rT r0 0)) 4),
 .sl SK.any 7 (gR (aCells (rT r0 0)) 5)]),
 .imm (.int .i64 (rI (rT r0 1))), .imm (.bool (rB (rT r0 2)))])
 (Br (!rB (rT r0 2))
 (Q (.tup [(.imm (.agg [(.int .i64 2), (.int .i64 a1_1), (.int .i64 0), (.str []), (.sl .any 6 []), (.sl .any 7 [])])), (Ai a1_4), (Ai 0)]) [])
 (Let (bif decide (gI (aCells (rT r0 0)) 1 < (1 : Int)) then true
 else decide ((8388607 : Int) < gI (aCells (rT r0 0)) 1)) fun x1 =>
 Let (bif x1 then true else decide (gI (aCells (rT r0 0)) 2 < (0 : Int))) fun x2 =>
 Let (bif x2 then true else decide ((65535 : Int) < gI (aCells (rT r0 0)) 2)) fun x3 =>
 Br (x3)
 (Q (.tup [(.imm (.agg [(.int .i64 0), (.int .i64 0), (.int .i64 0), (.str []), (.sl .any 6 []), (.sl .any 7 [])])), (Ai 0), (Ai 3)]) [])
 (Q (.tup [(.imm (.agg [(.int .i64 (gI (aCells (rT r0 0)) 0)), (.int .i64 (gI (aCells (rT r0 0)) 1)), (.int .i64 (gI (aCells (rT r0 0)) 2)), (.str (gS (aCells (rT r0 0)) 3)), (.sl .any 6 (gR (aCells (rT r0 0)) 4)), (.sl .any 7 (gR (aCells (rT r0 0)) 5))])), (Ai (rI (rT r0 1))), (Ai 0)]) []))))) : Call E0.P fn_r18_number [(As a0), (.imm (.agg [(.int .i64 a1_0), (.int .i64 a1_1), (.str a1_2), (.int .i64 a1_3), (.int .i64 a1_4)]))] [] Q := fun_rule (envN E0 nt_r18_number) (okE nt_r18_number) 3 0 72 ac_r18_number [.cell 4 37, .tmp 5, .tmp 6] ok_r18_number _ _ Q rfl rfl (kr (by kernel_rfl) h)
noncomputable def ac_r18_word : AC := (annot [] [2, 3, 4] (codeOf Try.f73) 0).1
abbrev nt_r18_word : Nat := 23
theorem ok_r18_word : FnOK E0.P 73 ac_r18_word.code nt_r18_word [.cell 2 37, .tmp 3, .tmp 4] := fn_ok _ _ Try.f73 [] [2, 3, 4] _ 23 Try.func73 (by kernel_rfl) (by kernel_rfl) (by kernel_rfl) (by kernel_rfl)
theorem F_r18_word_of (a0_0 a0_1 : Int) (a0_2 : LB) (a0_3 a0_4 : Int) (Q : QQ) (h :
 (Br (a0_2 == [(116 : UInt8), 114, 117, 101])
 (Q (.tup [(.imm (.agg [(.int .i64 1), (.int .i64 1), (.int .i64 0), (.str []), (.sl .any 6 []), (.sl .any 7 [])])), (Ai a0_4), (Ai 0)]) [])
 (Br (a0_2 == [(102 : UInt8), 97, 108, 115, 101])
 (Q (.tup [(.imm (.agg [(.int .i64 1), (.int .i64 0), (.int .i64 0), (.str []), (.sl .any 6 []), (.sl .any 7 [])])), (Ai a0_4), (Ai 0)]) [])
 (Br (a0_2 == [(110 : UInt8), 117, 108, 108])
 (Q (.tup [(.imm (.agg [(.int .i64 0), (.int .i64 0), (.int .i64 0), (.str []), (.sl .any 6 []), (.sl .any 7 [])])), (Ai a0_4), (Ai 0)]) [])
 (Q (.tup [(.imm (.agg [(.int .i64 0), (.int .i64 0), (.int .i64 0), (.str []), (.sl .any 6 []), (.sl .any 7 [])])), (Ai 0), (Ai 4)]) []))))) : Call E0.P fn_r18_word [(.imm (.agg [(.int .i64 a0_0), (.int .i64 a0_1), (.str a0_2), (.int .i64 a0_3), (.int .i64 a0_4)]))] [] Q := fun_rule (envN E0 nt_r18_word) (okE nt_r18_word) 3 0 73 ac_r18_word [.cell 2 37, .tmp 3, .tmp 4] ok_r18_word _ _ Q rfl rfl (kr (by kernel_rfl) h)
noncomputable def ac_r18_list : AC := (annot [(2, [0, 1, 2, 6, 9], [])] [6, 7, 8] (codeOf Try.f74) 0).1
abbrev nt_r18_list : Nat := 50
def L_r18_list_2 (t0 : LB) (t1 t2 : Int) (u0 u1 u2 : Int) (u3 : LB) (u4 u5 u6 : LL) (K : KK) : Prop := LoopOK 2 E0.P nt_r18_list (lbodyOf 2 ac_r18_list).code ⟨[(0, (As t0)), (1, (Ai t1)), (2, (Ai t2)), (6, .ptr nL6 0), (9, .own nL15)], [(nL6, .blk ty_api_Value [(Ai u0), (Ai u1), (Ai u2), (As u3), (.own (nL6.cell 4)), (.own (nL6.cell 5))]), (nL15, .arr 0 true 6 u4), ((nL6.cell 4), .arr (ty_api_Value + 2) true 6 u5), ((nL6.cell 5), .arr (ty_api_Pair + 2) true 7 u6)]⟩ K
def K_r18_list_0 (Q : QQ) : KK := kF 0 (fun st => finish 0 E0.T [.cell 6 37, .tmp 7, .tmp 8] [] Q st) fun st => finish 0 E0.T [.cell 6 37, .tmp 7, .tmp 8] [] Q st
theorem L_r18_list_2_of (t0 : LB) (t1 t2 : Int) (u0 u1 u2 : Int) (u3 : LB) (u4 u5 u6 : LL) (K : KK) (h :
 (Call E0.P fn_r15_Next [(As t0), (Ai t1)] [] fun r0 g0 =>
 Req (qP5 g0 r0)
 (Br (!decide (rI (rT r0 1) = (0 : Int)))
 (K .ret ⟨[(6, .ptr nL6 0), (7, (Ai 0)), (8, (Ai (rI (rT r0 1))))], [(nL6, .blk ty_api_Value [(Ai 0), (Ai 0), (Ai 0), (.imm (.str [])), (.own (nL6.cell 4)), (.own (nL6.cell 5))]), ((nL6.cell 4), .arr (ty_api_Value + 2) true 6 []), ((nL6.cell 5), .arr (ty_api_Pair + 2) true 7 [])]⟩)
 (Br (decide (gI (aCells (rT r0 0)) 0 = (5 : Int)))
 (K .ret ⟨[(6, .ptr nL6 0), (7, (Ai (gI (aCells (rT r0 0)) 4))), (8, (Ai 0))], [(nL6, .blk ty_api_Value [(Ai 5), (Ai 0), (Ai 0), (.imm (.str [])), (.own nL15), (.own (nL6.cell 5))]), (nL15, .arr 0 true 6 u4), ((nL6.cell 5), .arr (ty_api_Pair + 2) true 7 [])]⟩)
 (Call E0.P fn_r18_read [(As t0), (Ai t1), (Ai t2)] [] fun r1 g1 =>
 Req (qP1 g1 r1)
 (Br (!decide (rI (rT r1 2) = (0 : Int)))
 (K .ret ⟨[(6, .ptr nL6 0), (7, (Ai 0)), (8, (Ai (rI (rT r1 2))))], [(nL6, .blk ty_api_Value [(Ai 0), (Ai 0), (Ai 0), (.imm (.str [])), (.own (nL6.cell 4)), (.own (nL6.cell 5))]), ((nL6.cell 4), .arr (ty_api_Value + 2) true 6 []), ((nL6.cell 5), .arr (ty_api_Pair + 2) true 7 [])]⟩)
 (Req ((u4.length + 1) * 88 ≤ 140737488355328 ∧ u4.length + 1 ≤ 140737488355328)
 (L_r18_list_2 t0 (rI (rT r1 1)) t2 u0 u1 u2 u3 (u4 ++
 [[IV.int .i64 (gI (aCells (rT r1 0)) 0),
 .int .i64 (gI (aCells (rT r1 0)) 1),
 .int .i64 (gI (aCells (rT r1 0)) 2), .str (gS (aCells (rT r1 0)) 3),
 .sl SK.any 6 (gR (aCells (rT r1 0)) 4),
 .sl SK.any 7 (gR (aCells (rT r1 0)) 5)]]) u5 u6 K)))))))) : L_r18_list_2 t0 t1 t2 u0 u1 u2 u3 u4 u5 u6 K := loop_rule (envN E0 nt_r18_list) (okE nt_r18_list) 3 2 (lbodyOf 2 ac_r18_list) [0, 1, 2, 6, 9] _ K rfl (kr (by kernel_rfl) h)
theorem K_r18_list_0_x0 (Q : QQ) (t7 t8 : Int) (u0 u1 u2 : Int) (u3 : LB) (u4 u5 : LL) (h :
 (Q (.tup [(.imm (.agg [(.int .i64 u0), (.int .i64 u1), (.int .i64 u2), (.str u3), (.sl .any 6 u4), (.sl .any 7 u5)])), (Ai t7), (Ai t8)]) [])) : K_r18_list_0 Q .ret ⟨[(6, .ptr nL6 0), (7, (Ai t7)), (8, (Ai t8))], [(nL6, .blk ty_api_Value [(Ai u0), (Ai u1), (Ai u2), (As u3), (.own (nL6.cell 4)), (.own (nL6.cell 5))]), ((nL6.cell 4), .arr (ty_api_Value + 2) true 6 u4), ((nL6.cell 5), .arr (ty_api_Pair + 2) true 7 u5)]⟩ := kr (by kernel_rfl) h
theorem K_r18_list_0_x1 (Q : QQ) (t7 t8 : Int) (u0 u1 u2 : Int) (u3 : LB) (u4 u5 : LL) (h :
 (Q (.tup [(.imm (.agg [(.int .i64 u0), (.int .i64 u1), (.int .i64 u2), (.str u3), (.sl .any 6 u4), (.sl .any 7 u5)])), (Ai t7), (Ai t8)]) [])) : K_r18_list_0 Q .ret ⟨[(6, .ptr nL6 0), (7, (Ai t7)), (8, (Ai t8))], [(nL6, .blk ty_api_Value [(Ai u0), (Ai u1), (Ai u2), (As u3), (.own nL15), (.own (nL6.cell 5))]), (nL15, .arr 0 true 6 u4), ((nL6.cell 5), .arr (ty_api_Pair + 2) true 7 u5)]⟩ := kr (by kernel_rfl) h
theorem ok_r18_list : FnOK E0.P 74 ac_r18_list.code nt_r18_list [.cell 6 37, .tmp 7, .tmp 8] := fn_ok _ _ Try.f74 [(2, [0, 1, 2, 6, 9], [])] [6, 7, 8] _ 50 Try.func74 (by kernel_rfl) (by kernel_rfl) (by kernel_rfl) (by kernel_rfl)
theorem F_r18_list_of (a0 : LB) (a1 a2 : Int) (Q : QQ) (h :
 (L_r18_list_2 a0 a1 a2 ((0 : Int)) ((0 : Int)) ((0 : Int)) [] [] [] [] (K_r18_list_0 Q))) : Call E0.P fn_r18_list [(As a0), (Ai a1), (Ai a2)] [] Q := fun_rule (envN E0 nt_r18_list) (okE nt_r18_list) 3 0 74 ac_r18_list [.cell 6 37, .tmp 7, .tmp 8] ok_r18_list _ _ Q rfl rfl (kr (by kernel_rfl) h)
noncomputable def ac_r18_dict : AC := (annot [(2, [0, 1, 2, 6, 9], []), (14, [0, 2, 6, 9, 10, 12], []), (16, [0, 2, 6, 9, 10], []), (21, [0, 2, 6, 9, 10], [0, 1, 2, 6, 9])] [6, 7, 8] (codeOf Try.f75) 0).1
abbrev nt_r18_dict : Nat := 82
def L_r18_dict_2 (t0 : LB) (t1 t2 : Int) (u0 u1 u2 : Int) (u3 : LB) (u4 u5 u6 : LL) (K : KK) : Prop := LoopOK 2 E0.P nt_r18_dict (lbodyOf 2 ac_r18_dict).code ⟨[(0, (As t0)), (1, (Ai t1)), (2, (Ai t2)), (6, .ptr nL6 0), (9, .own nL16)], [(nL6, .blk ty_api_Value [(Ai u0), (Ai u1), (Ai u2), (As u3), (.own (nL6.cell 4)), (.own (nL6.cell 5))]), (nL16, .arr 0 true 7 u4), ((nL6.cell 4), .arr (ty_api_Value + 2) true 6 u5), ((nL6.cell 5), .arr (ty_api_Pair + 2) true 7 u6)]⟩ K
def L_r18_dict_14 (t0 : LB) (t2 t12 : Int) (u0 u1 u2 : Int) (u3 : LB) (u4 : LL) (u5 u6 : Int) (u7 : LB) (u8 u9 : Int) (v0 v1 : LL) (K : KK) : Prop := LoopOK 14 E0.P nt_r18_dict (lbodyOf 14 ac_r18_dict).code ⟨[(0, (As t0)), (2, (Ai t2)), (6, .ptr nL6 0), (9, .own nL16), (10, .ptr nL10 0), (12, (Ai t12))], [(nL6, .blk ty_api_Value [(Ai u0), (Ai u1), (Ai u2), (As u3), (.own (nL6.cell 4)), (.own (nL6.cell 5))]), (nL16, .arr 0 true 7 u4), (nL10, .blk ty_api_Token [(Ai u5), (Ai u6), (As u7), (Ai u8), (Ai u9)]), ((nL6.cell 4), .arr (ty_api_Value + 2) true 6 v0), ((nL6.cell 5), .arr (ty_api_Pair + 2) true 7 v1)]⟩ K
def C_r18_dict_21 (t0 : LB) (t2 u0 : Int) (u1 u2 : Int) (u3 : LB) (u4 : LL) (u5 u6 : Int) (u7 : LB) (u8 u9 : Int) (v0 v1 : LL) (K : KK) : Prop := CutOK 21 E0.P nt_r18_dict (cbodyOf 21 ac_r18_dict).code ⟨[(0, (As t0)), (2, (Ai t2)), (6, .ptr nL6 0), (9, .own nL16), (10, .ptr nL10 0)], [(nL6, .blk ty_api_Value [(Ai u0), (Ai u1), (Ai u2), (As u3), (.own (nL6.cell 4)), (.own (nL6.cell 5))]), (nL16, .arr 0 true 7 u4), (nL10, .blk ty_api_Token [(Ai u5), (Ai u6), (As u7), (Ai u8), (Ai u9)]), ((nL6.cell 4), .arr (ty_api_Value + 2) true 6 v0), ((nL6.cell 5), .arr (ty_api_Pair + 2) true 7 v1)]⟩ K
def K_r18_dict_0 (Q : QQ) : KK := kF 0 (fun st => finish 0 E0.T [.cell 6 37, .tmp 7, .tmp 8] [] Q st) fun st => finish 0 E0.T [.cell 6 37, .tmp 7, .tmp 8] [] Q st
def K_r18_dict_1 (K : KK) : KK := kC 1 (fun st => LoopOK 2 E0.P nt_r18_dict (lbodyOf 2 ac_r18_dict).code (mask [0, 1, 2, 6, 9] st) K) K
def K_r18_dict_2 (K : KK) : Ex → St → Prop
 | .normal, st => CutOK 21 E0.P nt_r18_dict (cbodyOf 21 ac_r18_dict).code (mask [0, 2, 6, 9, 10] st) (K_r18_dict_1 K)
 | .exit i, st => (match (i.beq 3 : Bool) with
 | true => CutOK 21 E0.P nt_r18_dict (cbodyOf 21 ac_r18_dict).code (mask [0, 2, 6, 9, 10] st) (K_r18_dict_1 K)
 | false => (match (i.beq 1 : Bool) with
 | true => LoopOK 2 E0.P nt_r18_dict (lbodyOf 2 ac_r18_dict).code (mask [0, 1, 2, 6, 9] st) K
 | false => K (.exit i) st))
 | .goto i, st => K (.goto i) st
 | .ret, st => K .ret st
theorem L_r18_dict_2_of (t0 : LB) (t1 t2 : Int) (u0 u1 u2 : Int) (u3 : LB) (u4 u5 u6 : LL) (K : KK) (h :
 (Call E0.P fn_r15_Next [(As t0), (Ai t1)] [] fun r0 g0 =>
 Req (qP5 g0 r0)
 (Br (!decide (rI (rT r0 1) = (0 : Int)))
 (K .ret ⟨[(6, .ptr nL6 0), (7, (Ai 0)), (8, (Ai (rI (rT r0 1))))], [(nL6, .blk ty_api_Value [(Ai 0), (Ai 0), (Ai 0), (.imm (.str [])), (.own (nL6.cell 4)), (.own (nL6.cell 5))]), ((nL6.cell 4), .arr (ty_api_Value + 2) true 6 []), ((nL6.cell 5), .arr (ty_api_Pair + 2) true 7 [])]⟩)
 (Br (decide (gI (aCells (rT r0 0)) 0 = (7 : Int)))
 (K .ret ⟨[(6, .ptr nL6 0), (7, (Ai (gI (aCells (rT r0 0)) 4))), (8, (Ai 0))], [(nL6, .blk ty_api_Value [(Ai 6), (Ai 0), (Ai 0), (.imm (.str [])), (.own (nL6.cell 4)), (.own nL16)]), ((nL6.cell 4), .arr (ty_api_Value + 2) true 6 []), (nL16, .arr 0 true 7 u4)]⟩)
 (Br (decide (gI (aCells (rT r0 0)) 0 = (0 : Int)))
 (K .ret ⟨[(6, .ptr nL6 0), (7, (Ai 0)), (8, (Ai 5))], [(nL6, .blk ty_api_Value [(Ai 0), (Ai 0), (Ai 0), (.imm (.str [])), (.own (nL6.cell 4)), (.own (nL6.cell 5))]), ((nL6.cell 4), .arr (ty_api_Value + 2) true 6 []), ((nL6.cell 5), .arr (ty_api_Pair + 2) true 7 [])]⟩)
 (Br (!decide (gI (aCells (rT r0 0)) 0 = (2 : Int)))
 (K .ret ⟨[(6, .ptr nL6 0), (7, (Ai 0)), (8, (Ai 4))], [(nL6, .blk ty_api_Value [(Ai 0), (Ai 0), (Ai 0), (.imm (.str [])), (.own (nL6.cell 4)), (.own (nL6.cell 5))]), ((nL6.cell 4), .arr (ty_api_Value + 2) true 6 []), ((nL6.cell 5), .arr (ty_api_Pair + 2) true 7 [])]⟩)
 (L_r18_dict_14 t0 t2 ((0 : Int)) u0 u1 u2 u3 u4 (gI (aCells (rT r0 0)) 0) (gI (aCells (rT r0 0)) 1) (gS (aCells (rT r0 0)) 2) (gI (aCells (rT r0 0)) 3) (gI (aCells (rT r0 0)) 4) u5 u6 (K_r18_dict_2 K)))))))) : L_r18_dict_2 t0 t1 t2 u0 u1 u2 u3 u4 u5 u6 K := loop_rule (envN E0 nt_r18_dict) (okE nt_r18_dict) 3 2 (lbodyOf 2 ac_r18_dict) [0, 1, 2, 6, 9] _ K rfl (kr (by kernel_rfl) h)
theorem L_r18_dict_14_of (t0 : LB) (t2 t12 : Int) (u0 u1 u2 : Int) (u3 : LB) (u4 : LL) (u5 u6 : Int) (u7 : LB) (u8 u9 : Int) (v0 v1 : LL) (K : KK) (h :
 (Br (decide (t12 < (↑u4.length : Int)))
 (Req ((0 : Int) ≤ t12 ∧ t12 < (↑u4.length : Int))
 (Req (t12.toNat < u4.length ∧ shOK [.str] (List.take 1 (List.drop 0 (u4.getD t12.toNat []))) = true)
 (Br (gS (List.take 1 (List.drop 0 (u4.getD t12.toNat []))) 0 == u7)
 (K .ret ⟨[(6, .ptr nL6 0), (7, (Ai 0)), (8, (Ai 11))], [(nL6, .blk ty_api_Value [(Ai 0), (Ai 0), (Ai 0), (.imm (.str [])), (.own (nL6.cell 4)), (.own (nL6.cell 5))]), ((nL6.cell 4), .arr (ty_api_Value + 2) true 6 []), ((nL6.cell 5), .arr (ty_api_Pair + 2) true 7 [])]⟩)
 (L_r18_dict_14 t0 t2 (IntKind.i64.wrap (t12 + (1 : Int))) u0 u1 u2 u3 u4 u5 u6 u7 u8 u9 v0 v1 K))))
 (K (.exit (3)) ⟨[(0, (As t0)), (2, (Ai t2)), (6, .ptr nL6 0), (9, .own nL16), (10, .ptr nL10 0)], [(nL6, .blk ty_api_Value [(Ai u0), (Ai u1), (Ai u2), (As u3), (.own (nL6.cell 4)), (.own (nL6.cell 5))]), (nL16, .arr 0 true 7 u4), (nL10, .blk ty_api_Token [(Ai u5), (Ai u6), (As u7), (Ai u8), (Ai u9)]), ((nL6.cell 4), .arr (ty_api_Value + 2) true 6 v0), ((nL6.cell 5), .arr (ty_api_Pair + 2) true 7 v1)]⟩))) : L_r18_dict_14 t0 t2 t12 u0 u1 u2 u3 u4 u5 u6 u7 u8 u9 v0 v1 K := loop_rule (envN E0 nt_r18_dict) (okE nt_r18_dict) 3 14 (lbodyOf 14 ac_r18_dict) [0, 2, 6, 9, 10, 12] _ K rfl (kr (by kernel_rfl) h)
theorem C_r18_dict_21_of (t0 : LB) (t2 u0 : Int) (u1 u2 : Int) (u3 : LB) (u4 : LL) (u5 u6 : Int) (u7 : LB) (u8 u9 : Int) (v0 v1 : LL) (K : KK) (h :
 (Call E0.P fn_r18_read [(As t0), (Ai u9), (Ai t2)] [] fun r0 g0 =>
 Req (qP1 g0 r0)
 (Br (!decide (rI (rT r0 2) = (0 : Int)))
 (K .ret ⟨[(6, .ptr nL6 0), (7, (Ai 0)), (8, (Ai (rI (rT r0 2))))], [(nL6, .blk ty_api_Value [(Ai 0), (Ai 0), (Ai 0), (.imm (.str [])), (.own (nL6.cell 4)), (.own (nL6.cell 5))]), ((nL6.cell 4), .arr (ty_api_Value + 2) true 6 []), ((nL6.cell 5), .arr (ty_api_Pair + 2) true 7 [])]⟩)
 (Req ((u4.length + 1) * 104 ≤ 140737488355328 ∧ u4.length + 1 ≤ 140737488355328)
 (K .normal ⟨[(0, (As t0)), (1, (Ai (rI (rT r0 1)))), (2, (Ai t2)), (6, .ptr nL6 0), (9, .own nL16)], [(nL6, .blk ty_api_Value [(Ai u0), (Ai u1), (Ai u2), (As u3), (.own (nL6.cell 4)), (.own (nL6.cell 5))]), (nL16, .arr 0 true 7 (u4 ++
 [[IV.str u7, .int .i64 (gI (aCells (rT r0 0)) 0),
 .int .i64 (gI (aCells (rT r0 0)) 1),
 .int .i64 (gI (aCells (rT r0 0)) 2), .str (gS (aCells (rT r0 0)) 3),
 .sl SK.any 6 (gR (aCells (rT r0 0)) 4),
 .sl SK.any 7 (gR (aCells (rT r0 0)) 5)]])), ((nL6.cell 4), .arr (ty_api_Value + 2) true 6 v0), ((nL6.cell 5), .arr (ty_api_Pair + 2) true 7 v1)]⟩))))) : C_r18_dict_21 t0 t2 u0 u1 u2 u3 u4 u5 u6 u7 u8 u9 v0 v1 K := cut_rule (envN E0 nt_r18_dict) (okE nt_r18_dict) 3 21 (cbodyOf 21 ac_r18_dict) [0, 1, 2, 6, 9] _ K rfl (kr (by kernel_rfl) h)
theorem K_r18_dict_0_x0 (Q : QQ) (t7 t8 : Int) (u0 u1 u2 : Int) (u3 : LB) (u4 u5 : LL) (h :
 (Q (.tup [(.imm (.agg [(.int .i64 u0), (.int .i64 u1), (.int .i64 u2), (.str u3), (.sl .any 6 u4), (.sl .any 7 u5)])), (Ai t7), (Ai t8)]) [])) : K_r18_dict_0 Q .ret ⟨[(6, .ptr nL6 0), (7, (Ai t7)), (8, (Ai t8))], [(nL6, .blk ty_api_Value [(Ai u0), (Ai u1), (Ai u2), (As u3), (.own (nL6.cell 4)), (.own (nL6.cell 5))]), ((nL6.cell 4), .arr (ty_api_Value + 2) true 6 u4), ((nL6.cell 5), .arr (ty_api_Pair + 2) true 7 u5)]⟩ := kr (by kernel_rfl) h
theorem K_r18_dict_0_x1 (Q : QQ) (t7 t8 : Int) (u0 u1 u2 : Int) (u3 : LB) (u4 u5 : LL) (h :
 (Q (.tup [(.imm (.agg [(.int .i64 u0), (.int .i64 u1), (.int .i64 u2), (.str u3), (.sl .any 6 u4), (.sl .any 7 u5)])), (Ai t7), (Ai t8)]) [])) : K_r18_dict_0 Q .ret ⟨[(6, .ptr nL6 0), (7, (Ai t7)), (8, (Ai t8))], [(nL6, .blk ty_api_Value [(Ai u0), (Ai u1), (Ai u2), (As u3), (.own (nL6.cell 4)), (.own nL16)]), ((nL6.cell 4), .arr (ty_api_Value + 2) true 6 u4), (nL16, .arr 0 true 7 u5)]⟩ := kr (by kernel_rfl) h
theorem K_r18_dict_1_x0 (K : KK) (t7 t8 : Int) (u0 u1 u2 : Int) (u3 : LB) (u4 u5 : LL) (h :
 (K .ret ⟨[(6, .ptr nL6 0), (7, (Ai t7)), (8, (Ai t8))], [(nL6, .blk ty_api_Value [(Ai u0), (Ai u1), (Ai u2), (As u3), (.own (nL6.cell 4)), (.own (nL6.cell 5))]), ((nL6.cell 4), .arr (ty_api_Value + 2) true 6 u4), ((nL6.cell 5), .arr (ty_api_Pair + 2) true 7 u5)]⟩)) : K_r18_dict_1 K .ret ⟨[(6, .ptr nL6 0), (7, (Ai t7)), (8, (Ai t8))], [(nL6, .blk ty_api_Value [(Ai u0), (Ai u1), (Ai u2), (As u3), (.own (nL6.cell 4)), (.own (nL6.cell 5))]), ((nL6.cell 4), .arr (ty_api_Value + 2) true 6 u4), ((nL6.cell 5), .arr (ty_api_Pair + 2) true 7 u5)]⟩ := kr (by kernel_rfl) h
theorem K_r18_dict_1_x1 (K : KK) (t0 : LB) (t1 t2 : Int) (u0 u1 u2 : Int) (u3 : LB) (u4 u5 u6 : LL) (h :
 (L_r18_dict_2 t0 t1 t2 u0 u1 u2 u3 u4 u5 u6 K)) : K_r18_dict_1 K .normal ⟨[(0, (As t0)), (1, (Ai t1)), (2, (Ai t2)), (6, .ptr nL6 0), (9, .own nL16)], [(nL6, .blk ty_api_Value [(Ai u0), (Ai u1), (Ai u2), (As u3), (.own (nL6.cell 4)), (.own (nL6.cell 5))]), (nL16, .arr 0 true 7 u4), ((nL6.cell 4), .arr (ty_api_Value + 2) true 6 u5), ((nL6.cell 5), .arr (ty_api_Pair + 2) true 7 u6)]⟩ := kr (by kernel_rfl) h
theorem K_r18_dict_2_x0 (K : KK) (t7 t8 : Int) (u0 u1 u2 : Int) (u3 : LB) (u4 u5 : LL) (h :
 (K .ret ⟨[(6, .ptr nL6 0), (7, (Ai t7)), (8, (Ai t8))], [(nL6, .blk ty_api_Value [(Ai u0), (Ai u1), (Ai u2), (As u3), (.own (nL6.cell 4)), (.own (nL6.cell 5))]), ((nL6.cell 4), .arr (ty_api_Value + 2) true 6 u4), ((nL6.cell 5), .arr (ty_api_Pair + 2) true 7 u5)]⟩)) : K_r18_dict_2 K .ret ⟨[(6, .ptr nL6 0), (7, (Ai t7)), (8, (Ai t8))], [(nL6, .blk ty_api_Value [(Ai u0), (Ai u1), (Ai u2), (As u3), (.own (nL6.cell 4)), (.own (nL6.cell 5))]), ((nL6.cell 4), .arr (ty_api_Value + 2) true 6 u4), ((nL6.cell 5), .arr (ty_api_Pair + 2) true 7 u5)]⟩ := kr (by kernel_rfl) h
theorem K_r18_dict_2_x1 (K : KK) (t0 : LB) (t2 u0 : Int) (u1 u2 : Int) (u3 : LB) (u4 : LL) (u5 u6 : Int) (u7 : LB) (u8 u9 : Int) (v0 v1 : LL) (h :
 (C_r18_dict_21 t0 t2 u0 u1 u2 u3 u4 u5 u6 u7 u8 u9 v0 v1 (K_r18_dict_1 K))) : K_r18_dict_2 K (.exit (3)) ⟨[(0, (As t0)), (2, (Ai t2)), (6, .ptr nL6 0), (9, .own nL16), (10, .ptr nL10 0)], [(nL6, .blk ty_api_Value [(Ai u0), (Ai u1), (Ai u2), (As u3), (.own (nL6.cell 4)), (.own (nL6.cell 5))]), (nL16, .arr 0 true 7 u4), (nL10, .blk ty_api_Token [(Ai u5), (Ai u6), (As u7), (Ai u8), (Ai u9)]), ((nL6.cell 4), .arr (ty_api_Value + 2) true 6 v0), ((nL6.cell 5), .arr (ty_api_Pair + 2) true 7 v1)]⟩ := kr (by kernel_rfl) h
theorem ok_r18_dict : FnOK E0.P 75 ac_r18_dict.code nt_r18_dict [.cell 6 37, .tmp 7, .tmp 8] := fn_ok _ _ Try.f75 [(2, [0, 1, 2, 6, 9], []), (14, [0, 2, 6, 9, 10, 12], []), (16, [0, 2, 6, 9, 10], []), (21, [0, 2, 6, 9, 10], [0, 1, 2, 6, 9])] [6, 7, 8] _ 82 Try.func75 (by kernel_rfl) (by kernel_rfl) (by kernel_rfl) (by kernel_rfl)
theorem F_r18_dict_of (a0 : LB) (a1 a2 : Int) (Q : QQ) (h :
 (L_r18_dict_2 a0 a1 a2 ((0 : Int)) ((0 : Int)) ((0 : Int)) [] [] [] [] (K_r18_dict_0 Q))) : Call E0.P fn_r18_dict [(As a0), (Ai a1), (Ai a2)] [] Q := fun_rule (envN E0 nt_r18_dict) (okE nt_r18_dict) 3 0 75 ac_r18_dict [.cell 6 37, .tmp 7, .tmp 8] ok_r18_dict _ _ Q rfl rfl (kr (by kernel_rfl) h)
noncomputable def ac_token_Skip : AC := (annot [(1, [0, 1], []), (6, [0, 1], []), (8, [0, 1], []), (9, [0, 1], [0, 1]), (10, [0, 1], [1]), (11, [0, 1], []), (12, [1], [])] [4] (codeOf Try.f77) 0).1
abbrev nt_token_Skip : Nat := 39
def L_token_Skip_6 (t0 : LB) (t1 : Int) (K : KK) : Prop := LoopOK 6 E0.P nt_token_Skip (lbodyOf 6 ac_token_Skip).code ⟨[(0, (As t0)), (1, (Ai t1))], []⟩ K
def C_token_Skip_12 (t1 : Int) (K : KK) : Prop := CutOK 12 E0.P nt_token_Skip (cbodyOf 12 ac_token_Skip).code ⟨[(1, (Ai t1))], []⟩ K
def C_token_Skip_9 (t0 : LB) (t1 : Int) (K : KK) : Prop := CutOK 9 E0.P nt_token_Skip (cbodyOf 9 ac_token_Skip).code ⟨[(0, (As t0)), (1, (Ai t1))], []⟩ K
def C_token_Skip_10 (t0 : LB) (t1 : Int) (K : KK) : Prop := CutOK 10 E0.P nt_token_Skip (cbodyOf 10 ac_token_Skip).code ⟨[(0, (As t0)), (1, (Ai t1))], []⟩ K
def S_token_Skip_1 (t0 : LB) (t1 : Int) (K : KK) : Prop := ScopeOK 1 E0.P nt_token_Skip 0 (sbodyOf 1 ac_token_Skip).code ⟨[(0, (As t0)), (1, (Ai t1))], []⟩ K
def K_token_Skip_0 (Q : QQ) : KK := kE fun st => finish 0 E0.T [.tmp 4] [] Q st
def K_token_Skip_1 (Q : QQ) : Ex → St → Prop
 | .normal, st => finish 0 E0.T [.tmp 4] [] Q st
 | .exit i, st => False
 | .goto i, st => ScopeOK 1 E0.P nt_token_Skip i (sbodyOf 1 ac_token_Skip).code (mask [0, 1] st) (K_token_Skip_0 Q)
 | .ret, st => finish 0 E0.T [.tmp 4] [] Q st
def K_token_Skip_2 (Q : QQ) : Ex → St → Prop
 | .normal, st => CutOK 12 E0.P nt_token_Skip (cbodyOf 12 ac_token_Skip).code (mask [1] st) (K_token_Skip_1 Q)
 | .exit i, st => False
 | .goto i, st => ScopeOK 1 E0.P nt_token_Skip i (sbodyOf 1 ac_token_Skip).code (mask [0, 1] st) (K_token_Skip_0 Q)
 | .ret, st => finish 0 E0.T [.tmp 4] [] Q st
def K_token_Skip_3 (Q : QQ) : Ex → St → Prop
 | .normal, st => CutOK 10 E0.P nt_token_Skip (cbodyOf 10 ac_token_Skip).code (mask [0, 1] st) (K_token_Skip_2 Q)
 | .exit i, st => (match (i.beq 0 : Bool) with
 | true => CutOK 10 E0.P nt_token_Skip (cbodyOf 10 ac_token_Skip).code (mask [0, 1] st) (K_token_Skip_2 Q)
 | false => False)
 | .goto i, st => ScopeOK 1 E0.P nt_token_Skip i (sbodyOf 1 ac_token_Skip).code (mask [0, 1] st) (K_token_Skip_0 Q)
 | .ret, st => finish 0 E0.T [.tmp 4] [] Q st
def K_token_Skip_4 (K : KK) : Ex → St → Prop
 | .normal, st => LoopOK 6 E0.P nt_token_Skip (lbodyOf 6 ac_token_Skip).code (mask [0, 1] st) K
 | .exit i, st => K (.exit i) st
 | .goto i, st => K (.goto i) st
 | .ret, st => K .ret st
def K_token_Skip_5 (K : KK) : Ex → St → Prop
 | .normal, st => K .normal st
 | .exit i, st => K (.exit i) st
 | .goto i, st => ScopeOK 1 E0.P nt_token_Skip i (sbodyOf 1 ac_token_Skip).code (mask [0, 1] st) K
 | .ret, st => K .ret st
def K_token_Skip_6 (K : KK) : Ex → St → Prop
 | .normal, st => CutOK 12 E0.P nt_token_Skip (cbodyOf 12 ac_token_Skip).code (mask [1] st) (K_token_Skip_5 K)
 | .exit i, st => K (.exit i) st
 | .goto i, st => ScopeOK 1 E0.P nt_token_Skip i (sbodyOf 1 ac_token_Skip).code (mask [0, 1] st) K
 | .ret, st => K .ret st
def K_token_Skip_7 (K : KK) : Ex → St → Prop
 | .normal, st => CutOK 10 E0.P nt_token_Skip (cbodyOf 10 ac_token_Skip).code (mask [0, 1] st) (K_token_Skip_6 K)
 | .exit i, st => (match (i.beq 0 : Bool) with
 | true => CutOK 10 E0.P nt_token_Skip (cbodyOf 10 ac_token_Skip).code (mask [0, 1] st) (K_token_Skip_6 K)
 | false => K (.exit i) st)
 | .goto i, st => ScopeOK 1 E0.P nt_token_Skip i (sbodyOf 1 ac_token_Skip).code (mask [0, 1] st) K
 | .ret, st => K .ret st
theorem L_token_Skip_6_of (t0 : LB) (t1 : Int) (K : KK) (h :
 (Br (decide (t1 < (↑t0.length : Int)) == true)
 (Call E0.P fn_octet_Ends [(As t0), (Ai t1)] [] fun r0 g0 =>
 Req (qP7 g0 r0)
 (Let (decide (rI r0 = (0 : Int))) fun x1 =>
 Br (x1)
 (C_token_Skip_9 t0 t1 (K_token_Skip_4 K))
 (K (.exit 0) ⟨[(0, (As t0)), (1, (Ai t1))], []⟩)))
 (Req ((!true) = false)
 (Let (false) fun x2 =>
 Br (x2)
 (C_token_Skip_9 t0 t1 (K_token_Skip_4 K))
 (K (.exit 0) ⟨[(0, (As t0)), (1, (Ai t1))], []⟩))))) : L_token_Skip_6 t0 t1 K := loop_rule (envN E0 nt_token_Skip) (okE nt_token_Skip) 3 6 (lbodyOf 6 ac_token_Skip) [0, 1] _ K rfl (kr (by kernel_rfl) h)
theorem C_token_Skip_12_of (t1 : Int) (K : KK) (h :
 (K .ret ⟨[(4, (Ai t1))], []⟩)) : C_token_Skip_12 t1 K := cut_rule (envN E0 nt_token_Skip) (okE nt_token_Skip) 3 12 (cbodyOf 12 ac_token_Skip) [] _ K rfl (kr (by kernel_rfl) h)
theorem C_token_Skip_9_of (t0 : LB) (t1 : Int) (K : KK) (h :
 (K .normal ⟨[(0, (As t0)), (1, (Ai (IntKind.i64.wrap (t1 + (1 : Int)))))], []⟩)) : C_token_Skip_9 t0 t1 K := cut_rule (envN E0 nt_token_Skip) (okE nt_token_Skip) 3 9 (cbodyOf 9 ac_token_Skip) [0, 1] _ K rfl (kr (by kernel_rfl) h)
theorem C_token_Skip_10_of (t0 : LB) (t1 : Int) (K : KK) (h :
 (K (.goto 0) ⟨[(0, (As t0)), (1, (Ai t1))], []⟩)) : C_token_Skip_10 t0 t1 K := cut_rule (envN E0 nt_token_Skip) (okE nt_token_Skip) 3 10 (cbodyOf 10 ac_token_Skip) [1] _ K rfl (kr (by kernel_rfl) h)
theorem S_token_Skip_1_of (t0 : LB) (t1 : Int) (K : KK) (h :
 (Call E0.P fn_octet_Span [(As t0), (Ai t1), (.imm (.sl .any 1 [[IV.int .i64 (0 : Int)]]))] [] fun r0 g0 =>
 Req (qP7 g0 r0)
 (Req (decide (IntKind.i64.wrap (t1 + rI r0) < (↑t0.length : Int)) = true →
 (0 : Int) ≤ IntKind.i64.wrap (t1 + rI r0) ∧ IntKind.i64.wrap (t1 + rI r0) < (↑t0.length : Int))
 (Let (bif decide (IntKind.i64.wrap (t1 + rI r0) < (↑t0.length : Int)) then
 decide ((↑(t0.getD (IntKind.i64.wrap (t1 + rI r0)).toNat 0).toNat : Int) = (37 : Int))
 else false) fun x1 =>
 Br (x1)
 (L_token_Skip_6 t0 (IntKind.i64.wrap (t1 + rI r0)) (K_token_Skip_7 K))
 (C_token_Skip_12 (IntKind.i64.wrap (t1 + rI r0)) (K_token_Skip_5 K)))))) : S_token_Skip_1 t0 t1 K := scope_rule (envN E0 nt_token_Skip) (okE nt_token_Skip) 3 1 0 (sbodyOf 1 ac_token_Skip) (safterOf 1 0 ac_token_Skip) [0, 1] _ K (by kernel_rfl) rfl (kr (by kernel_rfl) h)
theorem K_token_Skip_0_x0 (Q : QQ) (t4 : Int) (h :
 (Q (Ai t4) [])) : K_token_Skip_0 Q .ret ⟨[(4, (Ai t4))], []⟩ := kr (by kernel_rfl) h
theorem K_token_Skip_1_x0 (Q : QQ) (t4 : Int) (h :
 (Q (Ai t4) [])) : K_token_Skip_1 Q .ret ⟨[(4, (Ai t4))], []⟩ := kr (by kernel_rfl) h
theorem K_token_Skip_2_x0 (Q : QQ) (t0 : LB) (t1 : Int) (h :
 (S_token_Skip_1 t0 t1 (K_token_Skip_0 Q))) : K_token_Skip_2 Q (.goto 0) ⟨[(0, (As t0)), (1, (Ai t1))], []⟩ := kr (by kernel_rfl) h
theorem K_token_Skip_3_x0 (Q : QQ) (t0 : LB) (t1 : Int) (h :
 (C_token_Skip_10 t0 t1 (K_token_Skip_2 Q))) : K_token_Skip_3 Q (.exit 0) ⟨[(0, (As t0)), (1, (Ai t1))], []⟩ := kr (by kernel_rfl) h
theorem K_token_Skip_4_x0 (K : KK) (t0 : LB) (t1 : Int) (h :
 (L_token_Skip_6 t0 t1 K)) : K_token_Skip_4 K .normal ⟨[(0, (As t0)), (1, (Ai t1))], []⟩ := kr (by kernel_rfl) h
theorem K_token_Skip_5_x0 (K : KK) (t4 : Int) (h :
 (K .ret ⟨[(4, (Ai t4))], []⟩)) : K_token_Skip_5 K .ret ⟨[(4, (Ai t4))], []⟩ := kr (by kernel_rfl) h
theorem K_token_Skip_6_x0 (K : KK) (t0 : LB) (t1 : Int) (h :
 (S_token_Skip_1 t0 t1 K)) : K_token_Skip_6 K (.goto 0) ⟨[(0, (As t0)), (1, (Ai t1))], []⟩ := kr (by kernel_rfl) h
theorem K_token_Skip_7_x0 (K : KK) (t0 : LB) (t1 : Int) (h :
 (C_token_Skip_10 t0 t1 (K_token_Skip_6 K))) : K_token_Skip_7 K (.exit 0) ⟨[(0, (As t0)), (1, (Ai t1))], []⟩ := kr (by kernel_rfl) h
theorem ok_token_Skip : FnOK E0.P 77 ac_token_Skip.code nt_token_Skip [.tmp 4] := fn_ok _ _ Try.f77 [(1, [0, 1], []), (6, [0, 1], []), (8, [0, 1], []), (9, [0, 1], [0, 1]), (10, [0, 1], [1]), (11, [0, 1], []), (12, [1], [])] [4] _ 39 Try.func77 (by kernel_rfl) (by kernel_rfl) (by kernel_rfl) (by kernel_rfl)
theorem F_token_Skip_of (a0 : LB) (a1 : Int) (Q : QQ) (h :
 (Call E0.P fn_octet_Span [(As a0), (Ai (if (if (↑a0.length : Int) < a1 then (↑a0.length : Int) else a1) > (0 : Int) then
 if (↑a0.length : Int) < a1 then (↑a0.length : Int) else a1
 else (0 : Int))), (.imm (.sl .any 1 [[IV.int .i64 (0 : Int)]]))] [] fun r0 g0 =>
 Req (qP7 g0 r0)
 (Req (decide
 (IntKind.i64.wrap
 ((if (if (↑a0.length : Int) < a1 then (↑a0.length : Int) else a1) > (0 : Int) then
 if (↑a0.length : Int) < a1 then (↑a0.length : Int) else a1
 else (0 : Int)) +
 rI r0) <
 (↑a0.length : Int)) =
 true →
 (0 : Int) ≤
 IntKind.i64.wrap
 ((if (if (↑a0.length : Int) < a1 then (↑a0.length : Int) else a1) > (0 : Int) then
 if (↑a0.length : Int) < a1 then (↑a0.length : Int) else a1
 else (0 : Int)) +
 rI r0) ∧
 IntKind.i64.wrap
 ((if (if (↑a0.length : Int) < a1 then (↑a0.length : Int) else a1) > (0 : Int) then
 if (↑a0.length : Int) < a1 then (↑a0.length : Int) else a1
 else (0 : Int)) +
 rI r0) <
 (↑a0.length : Int))
 (Let (bif
 decide
 (IntKind.i64.wrap
 ((if (if (↑a0.length : Int) < a1 then (↑a0.length : Int) else a1) > (0 : Int) then
 if (↑a0.length : Int) < a1 then (↑a0.length : Int) else a1
 else (0 : Int)) +
 rI r0) <
 (↑a0.length : Int)) then
 decide
 ((↑(a0.getD
 (IntKind.i64.wrap
 ((if (if (↑a0.length : Int) < a1 then (↑a0.length : Int) else a1) > (0 : Int) then
 if (↑a0.length : Int) < a1 then (↑a0.length : Int) else a1
 else (0 : Int)) +
 rI r0)).toNat
 0).toNat :
 Int) =
 (37 : Int))
 else false) fun x1 =>
 Br (x1)
 (L_token_Skip_6 a0 (IntKind.i64.wrap
 ((if (if (↑a0.length : Int) < a1 then (↑a0.length : Int) else a1) > (0 : Int) then
 if (↑a0.length : Int) < a1 then (↑a0.length : Int) else a1
 else (0 : Int)) +
 rI r0)) (K_token_Skip_3 Q))
 (C_token_Skip_12 (IntKind.i64.wrap
 ((if (if (↑a0.length : Int) < a1 then (↑a0.length : Int) else a1) > (0 : Int) then
 if (↑a0.length : Int) < a1 then (↑a0.length : Int) else a1
 else (0 : Int)) +
 rI r0)) (K_token_Skip_1 Q)))))) : Call E0.P fn_token_Skip [(As a0), (Ai a1)] [] Q := fun_rule (envN E0 nt_token_Skip) (okE nt_token_Skip) 3 0 77 ac_token_Skip [.tmp 4] ok_token_Skip _ _ Q rfl rfl (kr (by kernel_rfl) h)
noncomputable def ac_token_scanner_token : AC := (annot [(22, [0, 2, 60], [0, 2]), (24, [0, 2], [])] [2, 3] (codeOf Try.f78) 0).1
abbrev nt_token_scanner_token : Nat := 71
def C_token_scanner_token_22 (t60 : Bool) (u0 : LB) (u1 u2 u3 : Int) (u4 : LB) (u5 u6 : Int) (u7 : LL) (K : KK) : Prop := CutOK 22 E0.P nt_token_scanner_token (cbodyOf 22 ac_token_scanner_token).code ⟨[(0, .ptr nA0 0), (2, .ptr nL2 0), (60, (Ab t60))], [(nA0, .blk ty_token_scanner [(As u0), (Ai u1), (.own nA1)]), (nL2, .blk ty_api_Token [(Ai u2), (Ai u3), (As u4), (Ai u5), (Ai u6)]), (nA1, .arr (ty_uint8 + 2) true 1 u7)]⟩ K
def C_token_scanner_token_24 (u0 : LB) (u1 u2 u3 : Int) (u4 : LB) (u5 u6 : Int) (u7 : LL) (K : KK) : Prop := CutOK 24 E0.P nt_token_scanner_token (cbodyOf 24 ac_token_scanner_token).code ⟨[(0, .ptr nA0 0), (2, .ptr nL2 0)], [(nA0, .blk ty_token_scanner [(As u0), (Ai u1), (.own nA1)]), (nL2, .blk ty_api_Token [(Ai u2), (Ai u3), (As u4), (Ai u5), (Ai u6)]), (nA1, .arr (ty_uint8 + 2) true 1 u7)]⟩ K
def K_token_scanner_token_0 (s : LB) (at_ : Int) (out : LL) (Q : QQ) : KK := kE fun st => finish 0 E0.T [.cell 2 95, .tmp 3] [(nA0, .blk ty_token_scanner [(As s), (Ai at_), (.own nA1)]), (nA1, .arr (ty_uint8 + 2) true 1 out)] Q st
def K_token_scanner_token_1 (s : LB) (at_ : Int) (out : LL) (Q : QQ) : KK := kF 0 (fun st => CutOK 24 E0.P nt_token_scanner_token (cbodyOf 24 ac_token_scanner_token).code (mask [0, 2] st) (K_token_scanner_token_0 s at_ out Q)) fun st => finish 0 E0.T [.cell 2 95, .tmp 3] [(nA0, .blk ty_token_scanner [(As s), (Ai at_), (.own nA1)]), (nA1, .arr (ty_uint8 + 2) true 1 out)] Q st
theorem C_token_scanner_token_22_of (t60 : Bool) (u0 : LB) (u1 u2 u3 : Int) (u4 : LB) (u5 u6 : Int) (u7 : LL) (K : KK) (h :
 (Br (t60)
 (K .ret ⟨[(2, .ptr nL2 0), (3, (Ai 4))], [(nL2, .blk ty_api_Token [(Ai 0), (Ai 0), (.imm (.str [])), (Ai 0), (Ai 0)]), (nA0, .blk ty_token_scanner [(As u0), (Ai u1), (.own nA1)]), (nA1, .arr (ty_uint8 + 2) true 1 u7)]⟩)
 (K .normal ⟨[(0, .ptr nA0 0), (2, .ptr nL2 0)], [(nA0, .blk ty_token_scanner [(As u0), (Ai u1), (.own nA1)]), (nL2, .blk ty_api_Token [(Ai u2), (Ai u3), (As u4), (Ai u5), (Ai u6)]), (nA1, .arr (ty_uint8 + 2) true 1 u7)]⟩))) : C_token_scanner_token_22 t60 u0 u1 u2 u3 u4 u5 u6 u7 K := cut_rule (envN E0 nt_token_scanner_token) (okE nt_token_scanner_token) 3 22 (cbodyOf 22 ac_token_scanner_token) [0, 2] _ K rfl (kr (by kernel_rfl) h)
theorem C_token_scanner_token_24_of (u0 : LB) (u1 u2 u3 : Int) (u4 : LB) (u5 u6 : Int) (u7 : LL) (K : KK) (h :
 (Call E0.P fn_token_scanner_word [(.ptr nA0 0)] [(nA0, .blk ty_token_scanner [(As u0), (Ai u1), (.own nA1)]), (nA1, .arr (ty_uint8 + 2) true 1 u7)] fun r0 g0 =>
 Req (qP8 g0 r0)
 (K .ret ⟨[(2, .ptr nL2 0), (3, (Ai (rI (rT r0 1))))], [(nL2, .blk ty_api_Token [(Ai (gI (aCells (rT r0 0)) 0)), (Ai (gI (aCells (rT r0 0)) 1)), (As (gS (aCells (rT r0 0)) 2)), (Ai (gI (aCells (rT r0 0)) 3)), (Ai (gI (aCells (rT r0 0)) 4))]), (nA0, .blk ty_token_scanner [(.imm (.str (rS ((blkOf g0 nA0).getD 0 AV.undef)))), (.imm (.int .i64 (rI ((blkOf g0 nA0).getD 1 AV.undef)))), (.own nA1)]), (nA1, .arr (ty_uint8 + 2) true 1 (arrRows g0 nA1))]⟩))) : C_token_scanner_token_24 u0 u1 u2 u3 u4 u5 u6 u7 K := cut_rule (envN E0 nt_token_scanner_token) (okE nt_token_scanner_token) 3 24 (cbodyOf 24 ac_token_scanner_token) [] _ K rfl (kr (by kernel_rfl) h)
theorem K_token_scanner_token_0_x0 (s : LB) (at_ : Int) (out : LL) (Q : QQ) (t3 u0 u1 : Int) (u2 : LB) (u3 u4 : Int) (u5 : LB) (u6 : Int) (u7 : LL) (h :
 (Q (.tup [(.imm (.agg [(.int .i64 u0), (.int .i64 u1), (.str u2), (.int .i64 u3), (.int .i64 u4)])), (Ai t3)]) [(nA0, .blk ty_token_scanner [(As u5), (Ai u6), (.own nA1)]), (nA1, .arr (ty_uint8 + 2) true 1 u7)])) : K_token_scanner_token_0 s at_ out Q .ret ⟨[(2, .ptr nL2 0), (3, (Ai t3))], [(nL2, .blk ty_api_Token [(Ai u0), (Ai u1), (As u2), (Ai u3), (Ai u4)]), (nA0, .blk ty_token_scanner [(As u5), (Ai u6), (.own nA1)]), (nA1, .arr (ty_uint8 + 2) true 1 u7)]⟩ := kr (by kernel_rfl) h
theorem K_token_scanner_token_1_x0 (s : LB) (at_ : Int) (out : LL) (Q : QQ) (t3 u0 u1 : Int) (u2 : LB) (u3 u4 : Int) (u5 : LB) (u6 : Int) (u7 : LL) (h :
 (Q (.tup [(.imm (.agg [(.int .i64 u0), (.int .i64 u1), (.str u2), (.int .i64 u3), (.int .i64 u4)])), (Ai t3)]) [(nA0, .blk ty_token_scanner [(As u5), (Ai u6), (.own nA1)]), (nA1, .arr (ty_uint8 + 2) true 1 u7)])) : K_token_scanner_token_1 s at_ out Q .ret ⟨[(2, .ptr nL2 0), (3, (Ai t3))], [(nL2, .blk ty_api_Token [(Ai u0), (Ai u1), (As u2), (Ai u3), (Ai u4)]), (nA0, .blk ty_token_scanner [(As u5), (Ai u6), (.own nA1)]), (nA1, .arr (ty_uint8 + 2) true 1 u7)]⟩ := kr (by kernel_rfl) h
theorem K_token_scanner_token_1_x1 (s : LB) (at_ : Int) (out : LL) (Q : QQ) (u0 : LB) (u1 u2 u3 : Int) (u4 : LB) (u5 u6 : Int) (u7 : LL) (h :
 (C_token_scanner_token_24 u0 u1 u2 u3 u4 u5 u6 u7 (K_token_scanner_token_0 s at_ out Q))) : K_token_scanner_token_1 s at_ out Q .normal ⟨[(0, .ptr nA0 0), (2, .ptr nL2 0)], [(nA0, .blk ty_token_scanner [(As u0), (Ai u1), (.own nA1)]), (nL2, .blk ty_api_Token [(Ai u2), (Ai u3), (As u4), (Ai u5), (Ai u6)]), (nA1, .arr (ty_uint8 + 2) true 1 u7)]⟩ := kr (by kernel_rfl) h
theorem ok_token_scanner_token : FnOK E0.P 78 ac_token_scanner_token.code nt_token_scanner_token [.cell 2 95, .tmp 3] := fn_ok _ _ Try.f78 [(22, [0, 2, 60], [0, 2]), (24, [0, 2], [])] [2, 3] _ 71 Try.func78 (by kernel_rfl) (by kernel_rfl) (by kernel_rfl) (by kernel_rfl)
theorem F_token_scanner_token_of (s : LB) (at_ : Int) (out : LL) (Q : QQ) (h :
 (Req ((0 : Int) ≤ at_ ∧ at_ < (↑s.length : Int))
 (Br (decide ((↑(s.getD at_.toNat 0).toNat : Int) = (91 : Int)))
 (Q (.tup [(.imm (.agg [(.int .i64 4), (.int .i64 0), (.str []), (.int .i64 0), (.int .i64 0)])), (Ai 0)]) [(nA0, .blk ty_token_scanner [(As s), (Ai (IntKind.i64.wrap (at_ + (1 : Int)))), (.own nA1)]), (nA1, .arr (ty_uint8 + 2) true 1 out)])
 (Br (decide ((↑(s.getD at_.toNat 0).toNat : Int) = (93 : Int)))
 (Q (.tup [(.imm (.agg [(.int .i64 5), (.int .i64 0), (.str []), (.int .i64 0), (.int .i64 0)])), (Ai 0)]) [(nA0, .blk ty_token_scanner [(As s), (Ai (IntKind.i64.wrap (at_ + (1 : Int)))), (.own nA1)]), (nA1, .arr (ty_uint8 + 2) true 1 out)])
 (Br (decide ((↑(s.getD at_.toNat 0).toNat : Int) = (47 : Int)))
 (Call E0.P fn_token_scanner_name [(.ptr nA0 0)] [(nA0, .blk ty_token_scanner [(As s), (Ai at_), (.own nA1)]), (nA1, .arr (ty_uint8 + 2) true 1 out)] fun r0 g0 =>
 Req (qP8 g0 r0)
 (Q (.tup [(.imm (.agg [(.int .i64 (gI (aCells (rT r0 0)) 0)), (.int .i64 (gI (aCells (rT r0 0)) 1)), (.str (gS (aCells (rT r0 0)) 2)), (.int .i64 (gI (aCells (rT r0 0)) 3)), (.int .i64 (gI (aCells (rT r0 0)) 4))])), (Ai (rI (rT r0 1)))]) [(nA0, .blk ty_token_scanner [(.imm (.str (rS ((blkOf g0 nA0).getD 0 AV.undef)))), (.imm (.int .i64 (rI ((blkOf g0 nA0).getD 1 AV.undef)))), (.own nA1)]), (nA1, .arr (ty_uint8 + 2) true 1 (arrRows g0 nA1))]))
 (Br (decide ((↑(s.getD at_.toNat 0).toNat : Int) = (40 : Int)))
 (Call E0.P fn_token_scanner_text [(.ptr nA0 0)] [(nA0, .blk ty_token_scanner [(As s), (Ai at_), (.own nA1)]), (nA1, .arr (ty_uint8 + 2) true 1 out)] fun r1 g1 =>
 Req (qP8 g1 r1)
 (Q (.tup [(.imm (.agg [(.int .i64 (gI (aCells (rT r1 0)) 0)), (.int .i64 (gI (aCells (rT r1 0)) 1)), (.str (gS (aCells (rT r1 0)) 2)), (.int .i64 (gI (aCells (rT r1 0)) 3)), (.int .i64 (gI (aCells (rT r1 0)) 4))])), (Ai (rI (rT r1 1)))]) [(nA0, .blk ty_token_scanner [(.imm (.str (rS ((blkOf g1 nA0).getD 0 AV.undef)))), (.imm (.int .i64 (rI ((blkOf g1 nA0).getD 1 AV.undef)))), (.own nA1)]), (nA1, .arr (ty_uint8 + 2) true 1 (arrRows g1 nA1))]))
 (Br (decide ((↑(s.getD at_.toNat 0).toNat : Int) = (60 : Int)))
 (Req (decide (IntKind.i64.wrap (at_ + (1 : Int)) < (↑s.length : Int)) = true →
 (0 : Int) ≤ IntKind.i64.wrap (at_ + (1 : Int)) ∧ IntKind.i64.wrap (at_ + (1 : Int)) < (↑s.length : Int))
 (Req (decide (IntKind.i64.wrap (at_ + (1 : Int)) < (↑s.length : Int)) = true → (0 : Int) ≤ at_ ∧ at_ < (↑s.length : Int))
 (Let (bif decide (IntKind.i64.wrap (at_ + (1 : Int)) < (↑s.length : Int)) then
 decide
 ((↑(s.getD (IntKind.i64.wrap (at_ + (1 : Int))).toNat 0).toNat : Int) =
 (↑(s.getD at_.toNat 0).toNat : Int))
 else false) fun x2 =>
 Br (x2)
 (Q (.tup [(.imm (.agg [(.int .i64 6), (.int .i64 0), (.str []), (.int .i64 0), (.int .i64 0)])), (Ai 0)]) [(nA0, .blk ty_token_scanner [(As s), (Ai (IntKind.i64.wrap (at_ + (2 : Int)))), (.own nA1)]), (nA1, .arr (ty_uint8 + 2) true 1 out)])
 (Call E0.P fn_token_scanner_hex [(.ptr nA0 0)] [(nA0, .blk ty_token_scanner [(As s), (Ai at_), (.own nA1)]), (nA1, .arr (ty_uint8 + 2) true 1 out)] fun r3 g3 =>
 Req (qP8 g3 r3)
 (Q (.tup [(.imm (.agg [(.int .i64 (gI (aCells (rT r3 0)) 0)), (.int .i64 (gI (aCells (rT r3 0)) 1)), (.str (gS (aCells (rT r3 0)) 2)), (.int .i64 (gI (aCells (rT r3 0)) 3)), (.int .i64 (gI (aCells (rT r3 0)) 4))])), (Ai (rI (rT r3 1)))]) [(nA0, .blk ty_token_scanner [(.imm (.str (rS ((blkOf g3 nA0).getD 0 AV.undef)))), (.imm (.int .i64 (rI ((blkOf g3 nA0).getD 1 AV.undef)))), (.own nA1)]), (nA1, .arr (ty_uint8 + 2) true 1 (arrRows g3 nA1))])))))
 (Br (decide ((↑(s.getD at_.toNat 0).toNat : Int) = (62 : Int)))
 (Req (decide (IntKind.i64.wrap (at_ + (1 : Int)) < (↑s.length : Int)) = true →
 (0 : Int) ≤ IntKind.i64.wrap (at_ + (1 : Int)) ∧ IntKind.i64.wrap (at_ + (1 : Int)) < (↑s.length : Int))
 (Req (decide (IntKind.i64.wrap (at_ + (1 : Int)) < (↑s.length : Int)) = true → (0 : Int) ≤ at_ ∧ at_ < (↑s.length : Int))
 (Let (bif decide (IntKind.i64.wrap (at_ + (1 : Int)) < (↑s.length : Int)) then
 decide
 ((↑(s.getD (IntKind.i64.wrap (at_ + (1 : Int))).toNat 0).toNat : Int) =
 (↑(s.getD at_.toNat 0).toNat : Int))
 else false) fun x4 =>
 Br (x4)
 (Q (.tup [(.imm (.agg [(.int .i64 7), (.int .i64 0), (.str []), (.int .i64 0), (.int .i64 0)])), (Ai 0)]) [(nA0, .blk ty_token_scanner [(As s), (Ai (IntKind.i64.wrap (at_ + (2 : Int)))), (.own nA1)]), (nA1, .arr (ty_uint8 + 2) true 1 out)])
 (Q (.tup [(.imm (.agg [(.int .i64 0), (.int .i64 0), (.str []), (.int .i64 0), (.int .i64 0)])), (Ai 4)]) [(nA0, .blk ty_token_scanner [(As s), (Ai at_), (.own nA1)]), (nA1, .arr (ty_uint8 + 2) true 1 out)]))))
 (Br (decide ((↑(s.getD at_.toNat 0).toNat : Int) = (41 : Int)))
 (C_token_scanner_token_22 (decide ((↑(s.getD at_.toNat 0).toNat : Int) = (41 : Int))) s at_ ((0 : Int)) ((0 : Int)) [] ((0 : Int)) ((0 : Int)) out (K_token_scanner_token_1 s at_ out Q))
 (Br (decide ((↑(s.getD at_.toNat 0).toNat : Int) = (123 : Int)))
 (C_token_scanner_token_22 (decide ((↑(s.getD at_.toNat 0).toNat : Int) = (123 : Int))) s at_ ((0 : Int)) ((0 : Int)) [] ((0 : Int)) ((0 : Int)) out (K_token_scanner_token_1 s at_ out Q))
 (C_token_scanner_token_22 (decide ((↑(s.getD at_.toNat 0).toNat : Int) = (125 : Int))) s at_ ((0 : Int)) ((0 : Int)) [] ((0 : Int)) ((0 : Int)) out (K_token_scanner_token_1 s at_ out Q)))))))))))) : Call E0.P fn_token_scanner_token [(.ptr (.arg 0) 0)] [(.arg 0, .blk ty_token_scanner [.imm (.str s), .imm (.int .i64 at_), .own (.arg 1)]), (.arg 1, .arr (ty_uint8 + 2) true 1 out)] Q := fun_rule (envN E0 nt_token_scanner_token) (okE nt_token_scanner_token) 3 0 78 ac_token_scanner_token [.cell 2 95, .tmp 3] ok_token_scanner_token _ _ Q rfl rfl (kr (by kernel_rfl) h)
noncomputable def ac_r15_Skip : AC := (annot [(3, [0, 5, 6], []), (5, [0], []), (9, [0, 5, 6], [0, 5, 6]), (10, [0, 5, 6, 37], [0, 5, 6]), (12, [0, 5, 6], [0, 5, 6]), (13, [0], [])] [4] (codeOf Try.f80) 0).1
abbrev nt_r15_Skip : Nat := 41
def L_r15_Skip_3 (t0 : LB) (t5 : Bool) (t6 : Int) (K : KK) : Prop := LoopOK 3 E0.P nt_r15_Skip (lbodyOf 3 ac_r15_Skip).code ⟨[(0, (As t0)), (5, (Ab t5)), (6, (Ai t6))], []⟩ K
def C_r15_Skip_9 (t0 : LB) (t5 : Bool) (t6 : Int) (K : KK) : Prop := CutOK 9 E0.P nt_r15_Skip (cbodyOf 9 ac_r15_Skip).code ⟨[(0, (As t0)), (5, (Ab t5)), (6, (Ai t6))], []⟩ K
def C_r15_Skip_10 (t0 : LB) (t5 : Bool) (t6 : Int) (t37 : Bool) (K : KK) : Prop := CutOK 10 E0.P nt_r15_Skip (cbodyOf 10 ac_r15_Skip).code ⟨[(0, (As t0)), (5, (Ab t5)), (6, (Ai t6)), (37, (Ab t37))], []⟩ K
def C_r15_Skip_13 (t0 : LB) (K : KK) : Prop := CutOK 13 E0.P nt_r15_Skip (cbodyOf 13 ac_r15_Skip).code ⟨[(0, (As t0))], []⟩ K
def C_r15_Skip_12 (t0 : LB) (t5 : Bool) (t6 : Int) (K : KK) : Prop := CutOK 12 E0.P nt_r15_Skip (cbodyOf 12 ac_r15_Skip).code ⟨[(0, (As t0)), (5, (Ab t5)), (6, (Ai t6))], []⟩ K
def K_r15_Skip_0 (Q : QQ) : KK := kE fun st => finish 0 E0.T [.tmp 4] [] Q st
def K_r15_Skip_1 (Q : QQ) : KK := kF 0 (fun st => CutOK 13 E0.P nt_r15_Skip (cbodyOf 13 ac_r15_Skip).code (mask [0] st) (K_r15_Skip_0 Q)) fun st => finish 0 E0.T [.tmp 4] [] Q st
def K_r15_Skip_2 (K : KK) : Ex → St → Prop
 | .normal, st => LoopOK 3 E0.P nt_r15_Skip (lbodyOf 3 ac_r15_Skip).code (mask [0, 5, 6] st) K
 | .exit i, st => K (.exit i) st
 | .goto i, st => K (.goto i) st
 | .ret, st => K .ret st
def K_r15_Skip_3 (K : KK) : KK := kC 1 (fun st => CutOK 12 E0.P nt_r15_Skip (cbodyOf 12 ac_r15_Skip).code (mask [0, 5, 6] st) (K_r15_Skip_2 K)) K
def K_r15_Skip_4 (K : KK) : KK := kP [0, 5, 6] K
theorem L_r15_Skip_3_of (t0 : LB) (t5 : Bool) (t6 : Int) (K : KK) (h :
 (Br (decide (t6 < (↑t0.length : Int)))
 (Req ((0 : Int) ≤ t6 ∧ t6 < (↑t0.length : Int))
 (Req (decide ((↑(t0.getD t6.toNat 0).toNat : Int) = (10 : Int)) = false → (0 : Int) ≤ t6 ∧ t6 < (↑t0.length : Int))
 (Let (bif decide ((↑(t0.getD t6.toNat 0).toNat : Int) = (10 : Int)) then true
 else decide ((↑(t0.getD t6.toNat 0).toNat : Int) = (13 : Int))) fun x0 =>
 Br (x0)
 (C_r15_Skip_9 t0 false t6 (K_r15_Skip_3 K))
 (Req ((0 : Int) ≤ t6 ∧ t6 < (↑t0.length : Int))
 (Br (decide ((↑(t0.getD t6.toNat 0).toNat : Int) = (37 : Int)))
 (C_r15_Skip_9 t0 true t6 (K_r15_Skip_3 K))
 (C_r15_Skip_9 t0 t5 t6 (K_r15_Skip_3 K)))))))
 (K (.exit 0) ⟨[(0, (As t0))], []⟩))) : L_r15_Skip_3 t0 t5 t6 K := loop_rule (envN E0 nt_r15_Skip) (okE nt_r15_Skip) 3 3 (lbodyOf 3 ac_r15_Skip) [0, 5, 6] _ K rfl (kr (by kernel_rfl) h)
theorem C_r15_Skip_9_of (t0 : LB) (t5 : Bool) (t6 : Int) (K : KK) (h :
 (Req ((!t5) = true → (0 : Int) ≤ t6 ∧ t6 < (↑t0.length : Int))
 (Br ((!t5) == true)
 (Call E0.P fn_r01_Kind [(.imm (.int .u8 ((↑(t0.getD t6.toNat 0).toNat : Int))))] [] fun r0 g0 =>
 Req (qP7 g0 r0)
 (Let (!decide (rI r0 = (0 : Int))) fun x1 =>
 C_r15_Skip_10 t0 t5 t6 x1 (K_r15_Skip_4 K)))
 (Req ((!true) = false)
 (Let (false) fun x2 =>
 C_r15_Skip_10 t0 t5 t6 x2 (K_r15_Skip_4 K)))))) : C_r15_Skip_9 t0 t5 t6 K := cut_rule (envN E0 nt_r15_Skip) (okE nt_r15_Skip) 3 9 (cbodyOf 9 ac_r15_Skip) [0, 5, 6] _ K rfl (kr (by kernel_rfl) h)
theorem C_r15_Skip_10_of (t0 : LB) (t5 : Bool) (t6 : Int) (t37 : Bool) (K : KK) (h :
 (Br (t37)
 (K .ret ⟨[(4, (Ai t6))], []⟩)
 (K .normal ⟨[(0, (As t0)), (5, (Ab t5)), (6, (Ai t6))], []⟩))) : C_r15_Skip_10 t0 t5 t6 t37 K := cut_rule (envN E0 nt_r15_Skip) (okE nt_r15_Skip) 3 10 (cbodyOf 10 ac_r15_Skip) [0, 5, 6] _ K rfl (kr (by kernel_rfl) h)
theorem C_r15_Skip_13_of (t0 : LB) (K : KK) (h :
 (K .ret ⟨[(4, (Ai ((↑t0.length : Int))))], []⟩)) : C_r15_Skip_13 t0 K := cut_rule (envN E0 nt_r15_Skip) (okE nt_r15_Skip) 3 13 (cbodyOf 13 ac_r15_Skip) [] _ K rfl (kr (by kernel_rfl) h)
theorem C_r15_Skip_12_of (t0 : LB) (t5 : Bool) (t6 : Int) (K : KK) (h :
 (K .normal ⟨[(0, (As t0)), (5, (Ab t5)), (6, (Ai (IntKind.i64.wrap (t6 + (1 : Int)))))], []⟩)) : C_r15_Skip_12 t0 t5 t6 K := cut_rule (envN E0 nt_r15_Skip) (okE nt_r15_Skip) 3 12 (cbodyOf 12 ac_r15_Skip) [0, 5, 6] _ K rfl (kr (by kernel_rfl) h)
theorem K_r15_Skip_0_x0 (Q : QQ) (t4 : Int) (h :
 (Q (Ai t4) [])) : K_r15_Skip_0 Q .ret ⟨[(4, (Ai t4))], []⟩ := kr (by kernel_rfl) h
theorem K_r15_Skip_1_x0 (Q : QQ) (t0 : LB) (h :
 (C_r15_Skip_13 t0 (K_r15_Skip_0 Q))) : K_r15_Skip_1 Q (.exit 0) ⟨[(0, (As t0))], []⟩ := kr (by kernel_rfl) h
theorem K_r15_Skip_1_x1 (Q : QQ) (t4 : Int) (h :
 (Q (Ai t4) [])) : K_r15_Skip_1 Q .ret ⟨[(4, (Ai t4))], []⟩ := kr (by kernel_rfl) h
theorem K_r15_Skip_2_x0 (K : KK) (t0 : LB) (t5 : Bool) (t6 : Int) (h :
 (L_r15_Skip_3 t0 t5 t6 K)) : K_r15_Skip_2 K .normal ⟨[(0, (As t0)), (5, (Ab t5)), (6, (Ai t6))], []⟩ := kr (by kernel_rfl) h
theorem K_r15_Skip_3_x0 (K : KK) (t4 : Int) (h :
 (K .ret ⟨[(4, (Ai t4))], []⟩)) : K_r15_Skip_3 K .ret ⟨[(4, (Ai t4))], []⟩ := kr (by kernel_rfl) h
theorem K_r15_Skip_3_x1 (K : KK) (t0 : LB) (t5 : Bool) (t6 : Int) (h :
 (C_r15_Skip_12 t0 t5 t6 (K_r15_Skip_2 K))) : K_r15_Skip_3 K .normal ⟨[(0, (As t0)), (5, (Ab t5)), (6, (Ai t6))], []⟩ := kr (by kernel_rfl) h
theorem K_r15_Skip_4_x0 (K : KK) (t4 : Int) (h :
 (K .ret ⟨[(4, (Ai t4))], []⟩)) : K_r15_Skip_4 K .ret ⟨[(4, (Ai t4))], []⟩ := kr (by kernel_rfl) h
theorem K_r15_Skip_4_x1 (K : KK) (t0 : LB) (t5 : Bool) (t6 : Int) (h :
 (K .normal ⟨[(0, (As t0)), (5, (Ab t5)), (6, (Ai t6))], []⟩)) : K_r15_Skip_4 K .normal ⟨[(0, (As t0)), (5, (Ab t5)), (6, (Ai t6))], []⟩ := kr (by kernel_rfl) h
theorem ok_r15_Skip : FnOK E0.P 80 ac_r15_Skip.code nt_r15_Skip [.tmp 4] := fn_ok _ _ Try.f80 [(3, [0, 5, 6], []), (5, [0], []), (9, [0, 5, 6], [0, 5, 6]), (10, [0, 5, 6, 37], [0, 5, 6]), (12, [0, 5, 6], [0, 5, 6]), (13, [0], [])] [4] _ 41 Try.func80 (by kernel_rfl) (by kernel_rfl) (by kernel_rfl) (by kernel_rfl)
theorem F_r15_Skip_of (a0 : LB) (a1 : Int) (Q : QQ) (h :
 (L_r15_Skip_3 a0 false (if a1 > (0 : Int) then a1 else (0 : Int)) (K_r15_Skip_1 Q))) : Call E0.P fn_r15_Skip [(As a0), (Ai a1)] [] Q := fun_rule (envN E0 nt_r15_Skip) (okE nt_r15_Skip) 3 0 80 ac_r15_Skip [.tmp 4] ok_r15_Skip _ _ Q rfl rfl (kr (by kernel_rfl) h)
noncomputable def ac_r15_name : AC := (annot [(2, [0, 1, 7], []), (4, [1, 7], []), (5, [0, 1, 7], [0, 1, 7]), (9, [0, 1, 7, 55], [0, 1, 7]), (11, [0, 1, 7], [0, 1, 7, 8]), (13, [0, 1, 7, 8], [0, 1, 7]), (17, [1, 7], [])] [4, 5, 6] (codeOf Try.f81) 0).1
abbrev nt_r15_name : Nat := 80
def L_r15_name_2 (t0 : LB) (t1 : Int) (u0 : LL) (K : KK) : Prop := LoopOK 2 E0.P nt_r15_name (lbodyOf 2 ac_r15_name).code ⟨[(0, (As t0)), (1, (Ai t1)), (7, .own nL9)], [(nL9, .arr 0 true 1 u0)]⟩ K
def C_r15_name_5 (t0 : LB) (t1 : Int) (u0 : LL) (K : KK) : Prop := CutOK 5 E0.P nt_r15_name (cbodyOf 5 ac_r15_name).code ⟨[(0, (As t0)), (1, (Ai t1)), (7, .own nL9)], [(nL9, .arr 0 true 1 u0)]⟩ K
def C_r15_name_9 (t0 : LB) (t1 : Int) (t55 : Bool) (u0 : LL) (K : KK) : Prop := CutOK 9 E0.P nt_r15_name (cbodyOf 9 ac_r15_name).code ⟨[(0, (As t0)), (1, (Ai t1)), (7, .own nL9), (55, (Ab t55))], [(nL9, .arr 0 true 1 u0)]⟩ K
def C_r15_name_13 (t0 : LB) (t1 t8 : Int) (u0 : LL) (K : KK) : Prop := CutOK 13 E0.P nt_r15_name (cbodyOf 13 ac_r15_name).code ⟨[(0, (As t0)), (1, (Ai t1)), (7, .own nL9), (8, .imm (.int .u8 t8))], [(nL9, .arr 0 true 1 u0)]⟩ K
def C_r15_name_17 (t1 : Int) (u0 : LL) (K : KK) : Prop := CutOK 17 E0.P nt_r15_name (cbodyOf 17 ac_r15_name).code ⟨[(1, (Ai t1)), (7, .own nL9)], [(nL9, .arr 0 true 1 u0)]⟩ K
def C_r15_name_11 (t0 : LB) (t1 : Int) (u0 : LL) (K : KK) : Prop := CutOK 11 E0.P nt_r15_name (cbodyOf 11 ac_r15_name).code ⟨[(0, (As t0)), (1, (Ai t1)), (7, .own nL9)], [(nL9, .arr 0 true 1 u0)]⟩ K
def K_r15_name_0 (Q : QQ) : KK := kE fun st => finish 0 E0.T [.tmp 4, .tmp 5, .tmp 6] [] Q st
def K_r15_name_1 (Q : QQ) : KK := kF 0 (fun st => CutOK 17 E0.P nt_r15_name (cbodyOf 17 ac_r15_name).code (mask [1, 7] st) (K_r15_name_0 Q)) fun st => finish 0 E0.T [.tmp 4, .tmp 5, .tmp 6] [] Q st
def K_r15_name_2 (K : KK) : Ex → St → Prop
 | .normal, st => LoopOK 2 E0.P nt_r15_name (lbodyOf 2 ac_r15_name).code (mask [0, 1, 7] st) K
 | .exit i, st => K (.exit i) st
 | .goto i, st => K (.goto i) st
 | .ret, st => K .ret st
def K_r15_name_3 (K : KK) : KK := kC 1 (fun st => K .normal (mask [0, 1, 7] st)) K
def K_r15_name_4 (K : KK) : Ex → St → Prop
 | .normal, st => CutOK 13 E0.P nt_r15_name (cbodyOf 13 ac_r15_name).code (mask [0, 1, 7, 8] st) (K_r15_name_3 K)
 | .exit i, st => (match (i.beq 1 : Bool) with
 | true => K .normal (mask [0, 1, 7] st)
 | false => K (.exit i) st)
 | .goto i, st => K (.goto i) st
 | .ret, st => K .ret st
def K_r15_name_5 (K : KK) : Ex → St → Prop
 | .normal, st => CutOK 11 E0.P nt_r15_name (cbodyOf 11 ac_r15_name).code (mask [0, 1, 7] st) (K_r15_name_4 K)
 | .exit i, st => (match (i.beq 1 : Bool) with
 | true => K .normal (mask [0, 1, 7] st)
 | false => K (.exit i) st)
 | .goto i, st => K (.goto i) st
 | .ret, st => K .ret st
theorem L_r15_name_2_of (t0 : LB) (t1 : Int) (u0 : LL) (K : KK) (h :
 (Req (decide (t1 < (↑t0.length : Int)) = true → (0 : Int) ≤ t1 ∧ t1 < (↑t0.length : Int))
 (Br (decide (t1 < (↑t0.length : Int)) == true)
 (Call E0.P fn_r01_Kind [(.imm (.int .u8 ((↑(t0.getD t1.toNat 0).toNat : Int))))] [] fun r0 g0 =>
 Req (qP7 g0 r0)
 (Let (decide (rI r0 = (2 : Int))) fun x1 =>
 Br (x1)
 (C_r15_name_5 t0 t1 u0 (K_r15_name_2 K))
 (K (.exit 0) ⟨[(1, (Ai t1)), (7, .own nL9)], [(nL9, .arr 0 true 1 u0)]⟩)))
 (Req ((!true) = false)
 (Let (false) fun x2 =>
 Br (x2)
 (C_r15_name_5 t0 t1 u0 (K_r15_name_2 K))
 (K (.exit 0) ⟨[(1, (Ai t1)), (7, .own nL9)], [(nL9, .arr 0 true 1 u0)]⟩)))))) : L_r15_name_2 t0 t1 u0 K := loop_rule (envN E0 nt_r15_name) (okE nt_r15_name) 3 2 (lbodyOf 2 ac_r15_name) [0, 1, 7] _ K rfl (kr (by kernel_rfl) h)
theorem C_r15_name_5_of (t0 : LB) (t1 : Int) (u0 : LL) (K : KK) (h :
 (Req ((0 : Int) ≤ t1 ∧ t1 < (↑t0.length : Int))
 (Br (decide ((↑(t0.getD t1.toNat 0).toNat : Int) = (35 : Int)))
 (Req (decide ((↑t0.length : Int) ≤ IntKind.i64.wrap (IntKind.i64.wrap (t1 + (1 : Int)) + (1 : Int))) = false →
 (0 : Int) ≤ IntKind.i64.wrap (t1 + (1 : Int)) ∧ IntKind.i64.wrap (t1 + (1 : Int)) < (↑t0.length : Int))
 (Br (decide ((↑t0.length : Int) ≤ IntKind.i64.wrap (IntKind.i64.wrap (t1 + (1 : Int)) + (1 : Int))) == false)
 (Call E0.P fn_r01_Hex [(.imm (.int .u8 ((↑(t0.getD (IntKind.i64.wrap (t1 + (1 : Int))).toNat 0).toNat : Int))))] [] fun r0 g0 =>
 Req (qP7 g0 r0)
 (Let (decide (rI r0 < (0 : Int))) fun x1 =>
 Req (x1 = false →
 (0 : Int) ≤ IntKind.i64.wrap (IntKind.i64.wrap (t1 + (1 : Int)) + (1 : Int)) ∧
 IntKind.i64.wrap (IntKind.i64.wrap (t1 + (1 : Int)) + (1 : Int)) < (↑t0.length : Int))
 (Br (x1 == false)
 (Call E0.P fn_r01_Hex [(.imm (.int .u8 ((↑(t0.getD (IntKind.i64.wrap (IntKind.i64.wrap (t1 + (1 : Int)) + (1 : Int))).toNat 0).toNat : Int))))] [] fun r2 g2 =>
 Req (qP7 g2 r2)
 (Let (decide (rI r2 < (0 : Int))) fun x3 =>
 Req (x3 = false →
 (0 : Int) ≤ IntKind.i64.wrap (t1 + (1 : Int)) ∧
 IntKind.i64.wrap (t1 + (1 : Int)) ≤ IntKind.i64.wrap (IntKind.i64.wrap (t1 + (1 : Int)) + (2 : Int)) ∧
 IntKind.i64.wrap (IntKind.i64.wrap (t1 + (1 : Int)) + (2 : Int)) ≤ (↑t0.length : Int))
 (Let (List.drop (IntKind.i64.wrap (t1 + (1 : Int))).toNat
 (List.take (IntKind.i64.wrap (IntKind.i64.wrap (t1 + (1 : Int)) + (2 : Int))).toNat t0)) fun x4 =>
 Let (bif x3 then true else x4 == [(48 : UInt8), 48]) fun x5 =>
 C_r15_name_9 t0 (IntKind.i64.wrap (t1 + (1 : Int))) x5 u0 (K_r15_name_5 K))))
 (Req ((!false) = true)
 (Let (true) fun x6 =>
 Req (x6 = false →
 (0 : Int) ≤ IntKind.i64.wrap (t1 + (1 : Int)) ∧
 IntKind.i64.wrap (t1 + (1 : Int)) ≤ IntKind.i64.wrap (IntKind.i64.wrap (t1 + (1 : Int)) + (2 : Int)) ∧
 IntKind.i64.wrap (IntKind.i64.wrap (t1 + (1 : Int)) + (2 : Int)) ≤ (↑t0.length : Int))
 (Let (List.drop (IntKind.i64.wrap (t1 + (1 : Int))).toNat
 (List.take (IntKind.i64.wrap (IntKind.i64.wrap (t1 + (1 : Int)) + (2 : Int))).toNat t0)) fun x7 =>
 Let (bif x6 then true else x7 == [(48 : UInt8), 48]) fun x8 =>
 C_r15_name_9 t0 (IntKind.i64.wrap (t1 + (1 : Int))) x8 u0 (K_r15_name_5 K)))))))
 (Req ((!false) = true)
 (Let (true) fun x9 =>
 Req (x9 = false →
 (0 : Int) ≤ IntKind.i64.wrap (IntKind.i64.wrap (t1 + (1 : Int)) + (1 : Int)) ∧
 IntKind.i64.wrap (IntKind.i64.wrap (t1 + (1 : Int)) + (1 : Int)) < (↑t0.length : Int))
 (Br (x9 == false)
 (Call E0.P fn_r01_Hex [(.imm (.int .u8 ((↑(t0.getD (IntKind.i64.wrap (IntKind.i64.wrap (t1 + (1 : Int)) + (1 : Int))).toNat 0).toNat : Int))))] [] fun r10 g10 =>
 Req (qP7 g10 r10)
 (Let (decide (rI r10 < (0 : Int))) fun x11 =>
 Req (x11 = false →
 (0 : Int) ≤ IntKind.i64.wrap (t1 + (1 : Int)) ∧
 IntKind.i64.wrap (t1 + (1 : Int)) ≤ IntKind.i64.wrap (IntKind.i64.wrap (t1 + (1 : Int)) + (2 : Int)) ∧
 IntKind.i64.wrap (IntKind.i64.wrap (t1 + (1 : Int)) + (2 : Int)) ≤ (↑t0.length : Int))
 (Let (List.drop (IntKind.i64.wrap (t1 + (1 : Int))).toNat
 (List.take (IntKind.i64.wrap (IntKind.i64.wrap (t1 + (1 : Int)) + (2 : Int))).toNat t0)) fun x12 =>
 Let (bif x11 then true else x12 == [(48 : UInt8), 48]) fun x13 =>
 C_r15_name_9 t0 (IntKind.i64.wrap (t1 + (1 : Int))) x13 u0 (K_r15_name_5 K))))
 (Req ((!false) = true)
 (Let (true) fun x14 =>
 Req (x14 = false →
 (0 : Int) ≤ IntKind.i64.wrap (t1 + (1 : Int)) ∧
 IntKind.i64.wrap (t1 + (1 : Int)) ≤ IntKind.i64.wrap (IntKind.i64.wrap (t1 + (1 : Int)) + (2 : Int)) ∧
 IntKind.i64.wrap (IntKind.i64.wrap (t1 + (1 : Int)) + (2 : Int)) ≤ (↑t0.length : Int))
 (Let (List.drop (IntKind.i64.wrap (t1 + (1 : Int))).toNat
 (List.take (IntKind.i64.wrap (IntKind.i64.wrap (t1 + (1 : Int)) + (2 : Int))).toNat t0)) fun x15 =>
 Let (bif x14 then true else x15 == [(48 : UInt8), 48]) fun x16 =>
 C_r15_name_9 t0 (IntKind.i64.wrap (t1 + (1 : Int))) x16 u0 (K_r15_name_5 K)))))))))
 (C_r15_name_13 t0 (IntKind.i64.wrap (t1 + (1 : Int))) ((↑(t0.getD t1.toNat 0).toNat : Int)) u0 (K_r15_name_3 K))))) : C_r15_name_5 t0 t1 u0 K := cut_rule (envN E0 nt_r15_name) (okE nt_r15_name) 3 5 (cbodyOf 5 ac_r15_name) [0, 1, 7] _ K rfl (kr (by kernel_rfl) h)
theorem C_r15_name_9_of (t0 : LB) (t1 : Int) (t55 : Bool) (u0 : LL) (K : KK) (h :
 (Br (t55)
 (K .ret ⟨[(4, .imm (.str [])), (5, (Ai 0)), (6, (Ai 4))], []⟩)
 (K .normal ⟨[(0, (As t0)), (1, (Ai t1)), (7, .own nL9)], [(nL9, .arr 0 true 1 u0)]⟩))) : C_r15_name_9 t0 t1 t55 u0 K := cut_rule (envN E0 nt_r15_name) (okE nt_r15_name) 3 9 (cbodyOf 9 ac_r15_name) [0, 1, 7] _ K rfl (kr (by kernel_rfl) h)
theorem C_r15_name_13_of (t0 : LB) (t1 t8 : Int) (u0 : LL) (K : KK) (h :
 (Req ((u0.length + 1) * 1 ≤ 140737488355328 ∧ u0.length + 1 ≤ 140737488355328)
 (Br (decide ((127 : Int) < (↑(u0 ++ [[IV.int .u8 t8]]).length : Int)))
 (K .ret ⟨[(4, .imm (.str [])), (5, (Ai 0)), (6, (Ai 8))], []⟩)
 (K .normal ⟨[(0, (As t0)), (1, (Ai t1)), (7, .own nL9)], [(nL9, .arr 0 true 1 (u0 ++ [[IV.int .u8 t8]]))]⟩)))) : C_r15_name_13 t0 t1 t8 u0 K := cut_rule (envN E0 nt_r15_name) (okE nt_r15_name) 3 13 (cbodyOf 13 ac_r15_name) [0, 1, 7] _ K rfl (kr (by kernel_rfl) h)
theorem C_r15_name_17_of (t1 : Int) (u0 : LL) (K : KK) (h :
 (Req (∀ (r : List IV), r ∈ u0 → shOK [.int .u8] r = true)
 (K .ret ⟨[(4, (As (List.map (fun r => UInt8.ofNat (gI r 0).toNat) u0))), (5, (Ai t1)), (6, (Ai 0))], []⟩))) : C_r15_name_17 t1 u0 K := cut_rule (envN E0 nt_r15_name) (okE nt_r15_name) 3 17 (cbodyOf 17 ac_r15_name) [] _ K rfl (kr (by kernel_rfl) h)
theorem C_r15_name_11_of (t0 : LB) (t1 : Int) (u0 : LL) (K : KK) (h :
 (Req ((0 : Int) ≤ t1 ∧ t1 < (↑t0.length : Int))
 (Req ((0 : Int) ≤ IntKind.i64.wrap (t1 + (1 : Int)) ∧ IntKind.i64.wrap (t1 + (1 : Int)) < (↑t0.length : Int))
 (Call E0.P fn_r01_Hex [(.imm (.int .u8 ((↑(t0.getD t1.toNat 0).toNat : Int))))] [] fun r0 g0 =>
 Req (qP7 g0 r0)
 (Call E0.P fn_r01_Hex [(.imm (.int .u8 ((↑(t0.getD (IntKind.i64.wrap (t1 + (1 : Int))).toNat 0).toNat : Int))))] [] fun r1 g1 =>
 Req (qP7 g1 r1)
 (K .normal ⟨[(0, (As t0)), (1, (Ai (IntKind.i64.wrap (t1 + (2 : Int))))), (7, .own nL9), (8, .imm (.int .u8 (IntKind.u8.wrap (IntKind.i64.wrap (IntKind.i64.wrap ((16 : Int) * rI r0) + rI r1)))))], [(nL9, .arr 0 true 1 u0)]⟩)))))) : C_r15_name_11 t0 t1 u0 K := cut_rule (envN E0 nt_r15_name) (okE nt_r15_name) 3 11 (cbodyOf 11 ac_r15_name) [0, 1, 7, 8] _ K rfl (kr (by kernel_rfl) h)
theorem K_r15_name_0_x0 (Q : QQ) (t4 : LB) (t5 t6 : Int) (h :
 (Q (.tup [(As t4), (Ai t5), (Ai t6)]) [])) : K_r15_name_0 Q .ret ⟨[(4, (As t4)), (5, (Ai t5)), (6, (Ai t6))], []⟩ := kr (by kernel_rfl) h
theorem K_r15_name_1_x0 (Q : QQ) (t1 : Int) (u0 : LL) (h :
 (C_r15_name_17 t1 u0 (K_r15_name_0 Q))) : K_r15_name_1 Q (.exit 0) ⟨[(1, (Ai t1)), (7, .own nL9)], [(nL9, .arr 0 true 1 u0)]⟩ := kr (by kernel_rfl) h
theorem K_r15_name_1_x1 (Q : QQ) (t4 : LB) (t5 t6 : Int) (h :
 (Q (.tup [(As t4), (Ai t5), (Ai t6)]) [])) : K_r15_name_1 Q .ret ⟨[(4, (As t4)), (5, (Ai t5)), (6, (Ai t6))], []⟩ := kr (by kernel_rfl) h
theorem K_r15_name_2_x0 (K : KK) (t4 : LB) (t5 t6 : Int) (h :
 (K .ret ⟨[(4, (As t4)), (5, (Ai t5)), (6, (Ai t6))], []⟩)) : K_r15_name_2 K .ret ⟨[(4, (As t4)), (5, (Ai t5)), (6, (Ai t6))], []⟩ := kr (by kernel_rfl) h
theorem K_r15_name_2_x1 (K : KK) (t0 : LB) (t1 : Int) (u0 : LL) (h :
 (L_r15_name_2 t0 t1 u0 K)) : K_r15_name_2 K .normal ⟨[(0, (As t0)), (1, (Ai t1)), (7, .own nL9)], [(nL9, .arr 0 true 1 u0)]⟩ := kr (by kernel_rfl) h
theorem K_r15_name_3_x0 (K : KK) (t4 : LB) (t5 t6 : Int) (h :
 (K .ret ⟨[(4, (As t4)), (5, (Ai t5)), (6, (Ai t6))], []⟩)) : K_r15_name_3 K .ret ⟨[(4, (As t4)), (5, (Ai t5)), (6, (Ai t6))], []⟩ := kr (by kernel_rfl) h
theorem K_r15_name_3_x1 (K : KK) (t0 : LB) (t1 : Int) (u0 : LL) (h :
 (K .normal ⟨[(0, (As t0)), (1, (Ai t1)), (7, .own nL9)], [(nL9, .arr 0 true 1 u0)]⟩)) : K_r15_name_3 K .normal ⟨[(0, (As t0)), (1, (Ai t1)), (7, .own nL9)], [(nL9, .arr 0 true 1 u0)]⟩ := kr (by kernel_rfl) h
theorem K_r15_name_4_x0 (K : KK) (t0 : LB) (t1 t8 : Int) (u0 : LL) (h :
 (C_r15_name_13 t0 t1 t8 u0 (K_r15_name_3 K))) : K_r15_name_4 K .normal ⟨[(0, (As t0)), (1, (Ai t1)), (7, .own nL9), (8, .imm (.int .u8 t8))], [(nL9, .arr 0 true 1 u0)]⟩ := kr (by kernel_rfl) h
theorem K_r15_name_5_x0 (K : KK) (t4 : LB) (t5 t6 : Int) (h :
 (K .ret ⟨[(4, (As t4)), (5, (Ai t5)), (6, (Ai t6))], []⟩)) : K_r15_name_5 K .ret ⟨[(4, (As t4)), (5, (Ai t5)), (6, (Ai t6))], []⟩ := kr (by kernel_rfl) h
theorem K_r15_name_5_x1 (K : KK) (t0 : LB) (t1 : Int) (u0 : LL) (h :
 (C_r15_name_11 t0 t1 u0 (K_r15_name_4 K))) : K_r15_name_5 K .normal ⟨[(0, (As t0)), (1, (Ai t1)), (7, .own nL9)], [(nL9, .arr 0 true 1 u0)]⟩ := kr (by kernel_rfl) h
theorem ok_r15_name : FnOK E0.P 81 ac_r15_name.code nt_r15_name [.tmp 4, .tmp 5, .tmp 6] := fn_ok _ _ Try.f81 [(2, [0, 1, 7], []), (4, [1, 7], []), (5, [0, 1, 7], [0, 1, 7]), (9, [0, 1, 7, 55], [0, 1, 7]), (11, [0, 1, 7], [0, 1, 7, 8]), (13, [0, 1, 7, 8], [0, 1, 7]), (17, [1, 7], [])] [4, 5, 6] _ 80 Try.func81 (by kernel_rfl) (by kernel_rfl) (by kernel_rfl) (by kernel_rfl)
theorem F_r15_name_of (a0 : LB) (a1 : Int) (Q : QQ) (h :
 (L_r15_name_2 a0 a1 [] (K_r15_name_1 Q))) : Call E0.P fn_r15_name [(As a0), (Ai a1)] [] Q := fun_rule (envN E0 nt_r15_name) (okE nt_r15_name) 3 0 81 ac_r15_name [.tmp 4, .tmp 5, .tmp 6] ok_r15_name _ _ Q rfl rfl (kr (by kernel_rfl) h)
noncomputable def ac_r15_sign : AC := (annot [] [10, 11] (codeOf Try.f82) 0).1
abbrev nt_r15_sign : Nat := 21
theorem ok_r15_sign : FnOK E0.P 82 ac_r15_sign.code nt_r15_sign [.cell 10 95, .tmp 11] := fn_ok _ _ Try.f82 [] [10, 11] _ 21 Try.func82 (by kernel_rfl) (by kernel_rfl) (by kernel_rfl) (by kernel_rfl)
theorem F_r15_sign_of (a0 a1 : Int) (a2 : LB) (a3 a4 : Int) (Q : QQ) (h :
 (Br (!decide (a4 = (0 : Int)))
 (Q (.tup [(.imm (.agg [(.int .i64 0), (.int .i64 0), (.str []), (.int .i64 0), (.int .i64 0)])), (Ai a4)]) [])
 (Q (.tup [(.imm (.agg [(.int .i64 a0), (.int .i64 0), (.str a2), (.int .i64 a1), (.int .i64 a3)])), (Ai 0)]) []))) : Call E0.P fn_r15_sign [(Ai a0), (Ai a1), (As a2), (Ai a3), (Ai a4)] [] Q := fun_rule (envN E0 nt_r15_sign) (okE nt_r15_sign) 3 0 82 ac_r15_sign [.cell 10 95, .tmp 11] ok_r15_sign _ _ Q rfl rfl (kr (by kernel_rfl) h)
noncomputable def ac_r15_plain : AC := (annot [(3, [0, 1, 7, 8], []), (5, [], []), (16, [0, 7, 8, 9, 10], [0, 1, 7, 8]), (24, [], [])] [4, 5, 6] (codeOf Try.f83) 0).1
abbrev nt_r15_plain : Nat := 67
def L_r15_plain_3 (t0 : LB) (t1 : Int) (t7 : LB) (t8 : Int) (K : KK) : Prop := LoopOK 3 E0.P nt_r15_plain (lbodyOf 3 ac_r15_plain).code ⟨[(0, (As t0)), (1, (Ai t1)), (7, (As t7)), (8, (Ai t8))], []⟩ K
def C_r15_plain_16 (t0 t7 : LB) (t8 : Int) (t9 : LB) (t10 : Int) (K : KK) : Prop := CutOK 16 E0.P nt_r15_plain (cbodyOf 16 ac_r15_plain).code ⟨[(0, (As t0)), (7, (As t7)), (8, (Ai t8)), (9, (As t9)), (10, (Ai t10))], []⟩ K
def C_r15_plain_24 (K : KK) : Prop := CutOK 24 E0.P nt_r15_plain (cbodyOf 24 ac_r15_plain).code ⟨[], []⟩ K
def K_r15_plain_0 (Q : QQ) : KK := kE fun st => finish 0 E0.T [.tmp 4, .tmp 5, .tmp 6] [] Q st
def K_r15_plain_1 (Q : QQ) : KK := kF 0 (fun st => CutOK 24 E0.P nt_r15_plain (cbodyOf 24 ac_r15_plain).code (mask [] st) (K_r15_plain_0 Q)) fun st => finish 0 E0.T [.tmp 4, .tmp 5, .tmp 6] [] Q st
def K_r15_plain_2 (K : KK) : KK := kC 1 (fun st => LoopOK 3 E0.P nt_r15_plain (lbodyOf 3 ac_r15_plain).code (mask [0, 1, 7, 8] st) K) K
theorem L_r15_plain_3_of (t0 : LB) (t1 : Int) (t7 : LB) (t8 : Int) (K : KK) (h :
 (Br (decide (t1 < (↑t0.length : Int)))
 (Req ((0 : Int) ≤ t1 ∧ t1 ≤ IntKind.i64.wrap (t1 + (1 : Int)) ∧ IntKind.i64.wrap (t1 + (1 : Int)) ≤ (↑t0.length : Int))
 (Let (List.drop t1.toNat (List.take (IntKind.i64.wrap (t1 + (1 : Int))).toNat t0)) fun x0 =>
 Call E0.P fn_r01_Ends [(As t0), (Ai t1)] [] fun r1 g1 =>
 Req (qP7 g1 r1)
 (Br (decide ((0 : Int) < rI r1))
 (C_r15_plain_16 t0 t7 t8 [(10 : UInt8)] (IntKind.i64.wrap (t1 + rI r1)) (K_r15_plain_2 K))
 (Req ((0 : Int) ≤ t1 ∧ t1 < (↑t0.length : Int))
 (Br (decide ((↑(t0.getD t1.toNat 0).toNat : Int) = (92 : Int)))
 (Call E0.P fn_r15_meant [(As t0), (Ai (IntKind.i64.wrap (t1 + (1 : Int))))] [] fun r2 g2 =>
 Req (g2 = [] ∧ r2 = .tup [.imm (.str (rS (rT r2 0))), .imm (.int .i64 (rI (rT r2 1)))])
 (Br (decide (rI (rT r2 1) < (0 : Int)))
 (K .ret ⟨[(4, .imm (.str [])), (5, (Ai 0)), (6, (Ai 5))], []⟩)
 (C_r15_plain_16 t0 t7 t8 (rS (rT r2 0)) (rI (rT r2 1)) (K_r15_plain_2 K))))
 (Req ((0 : Int) ≤ t1 ∧ t1 < (↑t0.length : Int))
 (Br (decide ((↑(t0.getD t1.toNat 0).toNat : Int) = (40 : Int)))
 (C_r15_plain_16 t0 t7 (IntKind.i64.wrap (t8 + (1 : Int))) x0 (IntKind.i64.wrap (t1 + (1 : Int))) (K_r15_plain_2 K))
 (Req ((0 : Int) ≤ t1 ∧ t1 < (↑t0.length : Int))
 (Br (decide ((↑(t0.getD t1.toNat 0).toNat : Int) = (41 : Int)))
 (C_r15_plain_16 t0 t7 (IntKind.i64.wrap (t8 - (1 : Int))) x0 (IntKind.i64.wrap (t1 + (1 : Int))) (K_r15_plain_2 K))
 (C_r15_plain_16 t0 t7 t8 x0 (IntKind.i64.wrap (t1 + (1 : Int))) (K_r15_plain_2 K)))))))))))
 (K (.exit 0) ⟨[], []⟩))) : L_r15_plain_3 t0 t1 t7 t8 K := loop_rule (envN E0 nt_r15_plain) (okE nt_r15_plain) 3 3 (lbodyOf 3 ac_r15_plain) [0, 1, 7, 8] _ K rfl (kr (by kernel_rfl) h)
theorem C_r15_plain_16_of (t0 t7 : LB) (t8 : Int) (t9 : LB) (t10 : Int) (K : KK) (h :
 (Br (decide (t8 = (0 : Int)))
 (K .ret ⟨[(4, (As t7)), (5, (Ai t10)), (6, (Ai 0))], []⟩)
 (Req ((↑(t7.length + t9.length) : Int) ≤ (9223372036854775807 : Int))
 (Br (decide ((65535 : Int) < (↑(t7 ++ t9).length : Int)))
 (K .ret ⟨[(4, .imm (.str [])), (5, (Ai 0)), (6, (Ai 8))], []⟩)
 (K .normal ⟨[(0, (As t0)), (1, (Ai t10)), (7, (As (t7 ++ t9))), (8, (Ai t8))], []⟩))))) : C_r15_plain_16 t0 t7 t8 t9 t10 K := cut_rule (envN E0 nt_r15_plain) (okE nt_r15_plain) 3 16 (cbodyOf 16 ac_r15_plain) [0, 1, 7, 8] _ K rfl (kr (by kernel_rfl) h)
theorem C_r15_plain_24_of (K : KK) (h :
 (K .ret ⟨[(4, .imm (.str [])), (5, (Ai 0)), (6, (Ai 5))], []⟩)) : C_r15_plain_24  K := cut_rule (envN E0 nt_r15_plain) (okE nt_r15_plain) 3 24 (cbodyOf 24 ac_r15_plain) [] _ K rfl (kr (by kernel_rfl) h)
theorem K_r15_plain_0_x0 (Q : QQ) (t4 : LB) (t5 t6 : Int) (h :
 (Q (.tup [(As t4), (Ai t5), (Ai t6)]) [])) : K_r15_plain_0 Q .ret ⟨[(4, (As t4)), (5, (Ai t5)), (6, (Ai t6))], []⟩ := kr (by kernel_rfl) h
theorem K_r15_plain_1_x0 (Q : QQ) (t4 : LB) (t5 t6 : Int) (h :
 (Q (.tup [(As t4), (Ai t5), (Ai t6)]) [])) : K_r15_plain_1 Q .ret ⟨[(4, (As t4)), (5, (Ai t5)), (6, (Ai t6))], []⟩ := kr (by kernel_rfl) h
theorem K_r15_plain_1_x1 (Q : QQ) (h :
 (C_r15_plain_24  (K_r15_plain_0 Q))) : K_r15_plain_1 Q (.exit 0) ⟨[], []⟩ := kr (by kernel_rfl) h
theorem K_r15_plain_2_x0 (K : KK) (t4 : LB) (t5 t6 : Int) (h :
 (K .ret ⟨[(4, (As t4)), (5, (Ai t5)), (6, (Ai t6))], []⟩)) : K_r15_plain_2 K .ret ⟨[(4, (As t4)), (5, (Ai t5)), (6, (Ai t6))], []⟩ := kr (by kernel_rfl) h
theorem K_r15_plain_2_x1 (K : KK) (t0 : LB) (t1 : Int) (t7 : LB) (t8 : Int) (h :
 (L_r15_plain_3 t0 t1 t7 t8 K)) : K_r15_plain_2 K .normal ⟨[(0, (As t0)), (1, (Ai t1)), (7, (As t7)), (8, (Ai t8))], []⟩ := kr (by kernel_rfl) h
theorem ok_r15_plain : FnOK E0.P 83 ac_r15_plain.code nt_r15_plain [.tmp 4, .tmp 5, .tmp 6] := fn_ok _ _ Try.f83 [(3, [0, 1, 7, 8], []), (5, [], []), (16, [0, 7, 8, 9, 10], [0, 1, 7, 8]), (24, [], [])] [4, 5, 6] _ 67 Try.func83 (by kernel_rfl) (by kernel_rfl) (by kernel_rfl) (by kernel_rfl)
theorem F_r15_plain_of (a0 : LB) (a1 : Int) (Q : QQ) (h :
 (L_r15_plain_3 a0 a1 [] ((1 : Int)) (K_r15_plain_1 Q))) : Call E0.P fn_r15_plain [(As a0), (Ai a1)] [] Q := fun_rule (envN E0 nt_r15_plain) (okE nt_r15_plain) 3 0 83 ac_r15_plain [.tmp 4, .tmp 5, .tmp 6] ok_r15_plain _ _ Q rfl rfl (kr (by kernel_rfl) h)
noncomputable def ac_r15_hex : AC := (annot [(3, [0, 1, 7, 8], []), (5, [], []), (14, [0, 1, 7, 8, 9, 10, 40], [0, 1, 7, 8, 9, 10]), (16, [0, 1, 7, 8, 9, 10], [0, 1, 7, 8]), (20, [0, 1, 7, 8, 9], [0, 1, 7, 8]), (26, [], [])] [4, 5, 6] (codeOf Try.f84) 0).1
abbrev nt_r15_hex : Nat := 66
def L_r15_hex_3 (t0 : LB) (t1 t8 : Int) (u0 : LL) (K : KK) : Prop := LoopOK 3 E0.P nt_r15_hex (lbodyOf 3 ac_r15_hex).code ⟨[(0, (As t0)), (1, (Ai t1)), (7, .own nL11), (8, (Ai t8))], [(nL11, .arr 0 true 1 u0)]⟩ K
def C_r15_hex_16 (t0 : LB) (t1 t8 : Int) (t9 t10 : Int) (u0 : LL) (K : KK) : Prop := CutOK 16 E0.P nt_r15_hex (cbodyOf 16 ac_r15_hex).code ⟨[(0, (As t0)), (1, (Ai t1)), (7, .own nL11), (8, (Ai t8)), (9, .imm (.int .u8 t9)), (10, (Ai t10))], [(nL11, .arr 0 true 1 u0)]⟩ K
def C_r15_hex_14 (t0 : LB) (t1 t8 : Int) (t9 t10 : Int) (t40 : Bool) (u0 : LL) (K : KK) : Prop := CutOK 14 E0.P nt_r15_hex (cbodyOf 14 ac_r15_hex).code ⟨[(0, (As t0)), (1, (Ai t1)), (7, .own nL11), (8, (Ai t8)), (9, .imm (.int .u8 t9)), (10, (Ai t10)), (40, (Ab t40))], [(nL11, .arr 0 true 1 u0)]⟩ K
def C_r15_hex_20 (t0 : LB) (t1 t8 t9 : Int) (u0 : LL) (K : KK) : Prop := CutOK 20 E0.P nt_r15_hex (cbodyOf 20 ac_r15_hex).code ⟨[(0, (As t0)), (1, (Ai t1)), (7, .own nL11), (8, (Ai t8)), (9, .imm (.int .u8 t9))], [(nL11, .arr 0 true 1 u0)]⟩ K
def C_r15_hex_26 (K : KK) : Prop := CutOK 26 E0.P nt_r15_hex (cbodyOf 26 ac_r15_hex).code ⟨[], []⟩ K
def K_r15_hex_0 (Q : QQ) : KK := kE fun st => finish 0 E0.T [.tmp 4, .tmp 5, .tmp 6] [] Q st
def K_r15_hex_1 (Q : QQ) : KK := kF 0 (fun st => CutOK 26 E0.P nt_r15_hex (cbodyOf 26 ac_r15_hex).code (mask [] st) (K_r15_hex_0 Q)) fun st => finish 0 E0.T [.tmp 4, .tmp 5, .tmp 6] [] Q st
def K_r15_hex_2 (K : KK) : KK := kC 1 (fun st => LoopOK 3 E0.P nt_r15_hex (lbodyOf 3 ac_r15_hex).code (mask [0, 1, 7, 8] st) K) K
def K_r15_hex_3 (K : KK) : Ex → St → Prop
 | .normal, st => CutOK 16 E0.P nt_r15_hex (cbodyOf 16 ac_r15_hex).code (mask [0, 1, 7, 8, 9, 10] st) (K_r15_hex_2 K)
 | .exit i, st => (match (i.beq 1 : Bool) with
 | true => LoopOK 3 E0.P nt_r15_hex (lbodyOf 3 ac_r15_hex).code (mask [0, 1, 7, 8] st) K
 | false => K (.exit i) st)
 | .goto i, st => K (.goto i) st
 | .ret, st => K .ret st
def K_r15_hex_4 (K : KK) : KK := kP [0, 1, 7, 8] K
theorem L_r15_hex_3_of (t0 : LB) (t1 t8 : Int) (u0 : LL) (K : KK) (h :
 (Br (decide (t1 < (↑t0.length : Int)))
 (Req ((0 : Int) ≤ t1 ∧ t1 < (↑t0.length : Int))
 (Call E0.P fn_r01_Hex [(.imm (.int .u8 ((↑(t0.getD t1.toNat 0).toNat : Int))))] [] fun r0 g0 =>
 Req (qP7 g0 r0)
 (Let (bif decide ((↑(t0.getD t1.toNat 0).toNat : Int) = (62 : Int)) then decide (t8 < (0 : Int)) else false) fun x1 =>
 Br (x1)
 (Req (∀ (r : List IV), r ∈ u0 → shOK [.int .u8] r = true)
 (K .ret ⟨[(4, (As (List.map (fun r => UInt8.ofNat (gI r 0).toNat) u0))), (5, (Ai (IntKind.i64.wrap (t1 + (1 : Int))))), (6, (Ai 0))], []⟩))
 (Br (decide ((↑(t0.getD t1.toNat 0).toNat : Int) = (62 : Int)))
 (C_r15_hex_16 t0 (IntKind.i64.wrap (t1 + (1 : Int))) t8 ((↑(t0.getD t1.toNat 0).toNat : Int)) ((0 : Int)) u0 (K_r15_hex_2 K))
 (Br (decide (rI r0 < (0 : Int)) == true)
 (Call E0.P fn_r01_Kind [(.imm (.int .u8 ((↑(t0.getD t1.toNat 0).toNat : Int))))] [] fun r2 g2 =>
 Req (qP7 g2 r2)
 (Let (!decide (rI r2 = (0 : Int))) fun x3 =>
 C_r15_hex_14 t0 (IntKind.i64.wrap (t1 + (1 : Int))) t8 ((↑(t0.getD t1.toNat 0).toNat : Int)) (rI r0) x3 u0 (K_r15_hex_3 K)))
 (Req ((!true) = false)
 (Let (false) fun x4 =>
 C_r15_hex_14 t0 (IntKind.i64.wrap (t1 + (1 : Int))) t8 ((↑(t0.getD t1.toNat 0).toNat : Int)) (rI r0) x4 u0 (K_r15_hex_3 K))))))))
 (K (.exit 0) ⟨[], []⟩))) : L_r15_hex_3 t0 t1 t8 u0 K := loop_rule (envN E0 nt_r15_hex) (okE nt_r15_hex) 3 3 (lbodyOf 3 ac_r15_hex) [0, 1, 7, 8] _ K rfl (kr (by kernel_rfl) h)
theorem C_r15_hex_16_of (t0 : LB) (t1 t8 : Int) (t9 t10 : Int) (u0 : LL) (K : KK) (h :
 (Let (bif decide ((0 : Int) ≤ t10) then decide (t8 < (0 : Int)) else false) fun x0 =>
 Br (x0)
 (C_r15_hex_20 t0 t1 t10 t9 u0 (K_r15_hex_4 K))
 (Br (decide ((0 : Int) ≤ t10))
 (Req ((u0.length + 1) * 1 ≤ 140737488355328 ∧ u0.length + 1 ≤ 140737488355328)
 (C_r15_hex_20 t0 t1 ((-1 : Int)) t9 (u0 ++ [[IV.int .u8 (IntKind.u8.wrap (IntKind.i64.wrap (IntKind.i64.wrap ((16 : Int) * t8) + t10)))]]) (K_r15_hex_4 K)))
 (C_r15_hex_20 t0 t1 t8 t9 u0 (K_r15_hex_4 K))))) : C_r15_hex_16 t0 t1 t8 t9 t10 u0 K := cut_rule (envN E0 nt_r15_hex) (okE nt_r15_hex) 3 16 (cbodyOf 16 ac_r15_hex) [0, 1, 7, 8] _ K rfl (kr (by kernel_rfl) h)
theorem C_r15_hex_14_of (t0 : LB) (t1 t8 : Int) (t9 t10 : Int) (t40 : Bool) (u0 : LL) (K : KK) (h :
 (Br (t40)
 (K .ret ⟨[(4, .imm (.str [])), (5, (Ai 0)), (6, (Ai 4))], []⟩)
 (K .normal ⟨[(0, (As t0)), (1, (Ai t1)), (7, .own nL11), (8, (Ai t8)), (9, .imm (.int .u8 t9)), (10, (Ai t10))], [(nL11, .arr 0 true 1 u0)]⟩))) : C_r15_hex_14 t0 t1 t8 t9 t10 t40 u0 K := cut_rule (envN E0 nt_r15_hex) (okE nt_r15_hex) 3 14 (cbodyOf 14 ac_r15_hex) [0, 1, 7, 8, 9, 10] _ K rfl (kr (by kernel_rfl) h)
theorem C_r15_hex_20_of (t0 : LB) (t1 t8 t9 : Int) (u0 : LL) (K : KK) (h :
 (Br (decide ((65535 : Int) < (↑u0.length : Int)))
 (K .ret ⟨[(4, .imm (.str [])), (5, (Ai 0)), (6, (Ai 8))], []⟩)
 (Br (decide (t9 = (62 : Int)))
 (Req (∀ (r : List IV), r ∈ u0 → shOK [.int .u8] r = true)
 (K .ret ⟨[(4, (As (List.map (fun r => UInt8.ofNat (gI r 0).toNat) u0))), (5, (Ai t1)), (6, (Ai 0))], []⟩))
 (K .normal ⟨[(0, (As t0)), (1, (Ai t1)), (7, .own nL11), (8, (Ai t8))], [(nL11, .arr 0 true 1 u0)]⟩)))) : C_r15_hex_20 t0 t1 t8 t9 u0 K := cut_rule (envN E0 nt_r15_hex) (okE nt_r15_hex) 3 20 (cbodyOf 20 ac_r15_hex) [0, 1, 7, 8] _ K rfl (kr (by kernel_rfl) h)
theorem C_r15_hex_26_of (K : KK) (h :
 (K .ret ⟨[(4, .imm (.str [])), (5, (Ai 0)), (6, (Ai 5))], []⟩)) : C_r15_hex_26  K := cut_rule (envN E0 nt_r15_hex) (okE nt_r15_hex) 3 26 (cbodyOf 26 ac_r15_hex) [] _ K rfl (kr (by kernel_rfl) h)
theorem K_r15_hex_0_x0 (Q : QQ) (t4 : LB) (t5 t6 : Int) (h :
 (Q (.tup [(As t4), (Ai t5), (Ai t6)]) [])) : K_r15_hex_0 Q .ret ⟨[(4, (As t4)), (5, (Ai t5)), (6, (Ai t6))], []⟩ := kr (by kernel_rfl) h
theorem K_r15_hex_1_x0 (Q : QQ) (t4 : LB) (t5 t6 : Int) (h :
 (Q (.tup [(As t4), (Ai t5), (Ai t6)]) [])) : K_r15_hex_1 Q .ret ⟨[(4, (As t4)), (5, (Ai t5)), (6, (Ai t6))], []⟩ := kr (by kernel_rfl) h
theorem K_r15_hex_1_x1 (Q : QQ) (h :
 (C_r15_hex_26  (K_r15_hex_0 Q))) : K_r15_hex_1 Q (.exit 0) ⟨[], []⟩ := kr (by kernel_rfl) h
theorem K_r15_hex_2_x0 (K : KK) (t4 : LB) (t5 t6 : Int) (h :
 (K .ret ⟨[(4, (As t4)), (5, (Ai t5)), (6, (Ai t6))], []⟩)) : K_r15_hex_2 K .ret ⟨[(4, (As t4)), (5, (Ai t5)), (6, (Ai t6))], []⟩ := kr (by kernel_rfl) h
theorem K_r15_hex_2_x1 (K : KK) (t0 : LB) (t1 t8 : Int) (u0 : LL) (h :
 (L_r15_hex_3 t0 t1 t8 u0 K)) : K_r15_hex_2 K .normal ⟨[(0, (As t0)), (1, (Ai t1)), (7, .own nL11), (8, (Ai t8))], [(nL11, .arr 0 true 1 u0)]⟩ := kr (by kernel_rfl) h
theorem K_r15_hex_3_x0 (K : KK) (t4 : LB) (t5 t6 : Int) (h :
 (K .ret ⟨[(4, (As t4)), (5, (Ai t5)), (6, (Ai t6))], []⟩)) : K_r15_hex_3 K .ret ⟨[(4, (As t4)), (5, (Ai t5)), (6, (Ai t6))], []⟩ := kr (by kernel_rfl) h
theorem K_r15_hex_3_x1 (K : KK) (t0 : LB) (t1 t8 : Int) (t9 t10 : Int) (u0 : LL) (h :
 (C_r15_hex_16 t0 t1 t8 t9 t10 u0 (K_r15_hex_2 K))) : K_r15_hex_3 K .normal ⟨[(0, (As t0)), (1, (Ai t1)), (7, .own nL11), (8, (Ai t8)), (9, .imm (.int .u8 t9)), (10, (Ai t10))], [(nL11, .arr 0 true 1 u0)]⟩ := kr (by kernel_rfl) h
theorem K_r15_hex_4_x0 (K : KK) (t4 : LB) (t5 t6 : Int) (h :
 (K .ret ⟨[(4, (As t4)), (5, (Ai t5)), (6, (Ai t6))], []⟩)) : K_r15_hex_4 K .ret ⟨[(4, (As t4)), (5, (Ai t5)), (6, (Ai t6))], []⟩ := kr (by kernel_rfl) h
theorem K_r15_hex_4_x1 (K : KK) (t0 : LB) (t1 t8 : Int) (u0 : LL) (h :
 (K .normal ⟨[(0, (As t0)), (1, (Ai t1)), (7, .own nL11), (8, (Ai t8))], [(nL11, .arr 0 true 1 u0)]⟩)) : K_r15_hex_4 K .normal ⟨[(0, (As t0)), (1, (Ai t1)), (7, .own nL11), (8, (Ai t8))], [(nL11, .arr 0 true 1 u0)]⟩ := kr (by kernel_rfl) h
theorem ok_r15_hex : FnOK E0.P 84 ac_r15_hex.code nt_r15_hex [.tmp 4, .tmp 5, .tmp 6] := fn_ok _ _ Try.f84 [(3, [0, 1, 7, 8], []), (5, [], []), (14, [0, 1, 7, 8, 9, 10, 40], [0, 1, 7, 8, 9, 10]), (16, [0, 1, 7, 8, 9, 10], [0, 1, 7, 8]), (20, [0, 1, 7, 8, 9], [0, 1, 7, 8]), (26, [], [])] [4, 5, 6] _ 66 Try.func84 (by kernel_rfl) (by kernel_rfl) (by kernel_rfl) (by kernel_rfl)
theorem F_r15_hex_of (a0 : LB) (a1 : Int) (Q : QQ) (h :
 (L_r15_hex_3 a0 a1 ((-1 : Int)) [] (K_r15_hex_1 Q))) : Call E0.P fn_r15_hex [(As a0), (Ai a1)] [] Q := fun_rule (envN E0 nt_r15_hex) (okE nt_r15_hex) 3 0 84 ac_r15_hex [.tmp 4, .tmp 5, .tmp 6] ok_r15_hex _ _ Q rfl rfl (kr (by kernel_rfl) h)
noncomputable def ac_r01_Kind : AC := (annot [] [2] (codeOf Try.f85) 0).1
abbrev nt_r01_Kind : Nat := 7
theorem ok_r01_Kind : FnOK E0.P 85 ac_r01_Kind.code nt_r01_Kind [.tmp 2] := fn_ok _ _ Try.f85 [] [2] _ 7 Try.func85 (by kernel_rfl) (by kernel_rfl) (by kernel_rfl) (by kernel_rfl)
theorem F_r01_Kind_of (a0 : Int) (Q : QQ) (h :
 (Call E0.P fn_r01_in [(.imm (.str [0, 9, 10, 12, 13, 32])), (.imm (.int .u8 a0))] [] fun r0 g0 =>
 Req (qP0 g0 r0)
 (Br (rB r0)
 (Q (Ai 0) [])
 (Call E0.P fn_r01_in [(.imm (.str [40, 41, 60, 62, 91, 93, 123, 125,
 47, 37])), (.imm (.int .u8 a0))] [] fun r1 g1 =>
 Req (qP0 g1 r1)
 (Br (rB r1)
 (Q (Ai 1) [])
 (Q (Ai 2) [])))))) : Call E0.P fn_r01_Kind [(.imm (.int .u8 a0))] [] Q := fun_rule (envN E0 nt_r01_Kind) (okE nt_r01_Kind) 3 0 85 ac_r01_Kind [.tmp 2] ok_r01_Kind _ _ Q rfl rfl (kr (by kernel_rfl) h)
noncomputable def ac_r15_word : AC := (annot [] [4, 5] (codeOf Try.f86) 0).1
abbrev nt_r15_word : Nat := 45
theorem ok_r15_word : FnOK E0.P 86 ac_r15_word.code nt_r15_word [.cell 4 95, .tmp 5] := fn_ok _ _ Try.f86 [] [4, 5] _ 45 Try.func86 (by kernel_rfl) (by kernel_rfl) (by kernel_rfl) (by kernel_rfl)
theorem F_r15_word_of (a0 : LB) (a1 : Int) (Q : QQ) (h :
 (Call E0.P fn_r01_Span [(As a0), (Ai a1), (.imm (.sl .any 1 [[IV.int .i64 (2 : Int)]]))] [] fun r0 g0 =>
 Req (qP7 g0 r0)
 (Req ((0 : Int) ≤ a1 ∧ a1 ≤ IntKind.i64.wrap (a1 + rI r0) ∧ IntKind.i64.wrap (a1 + rI r0) ≤ (↑a0.length : Int))
 (Let (List.drop a1.toNat (List.take (IntKind.i64.wrap (a1 + rI r0)).toNat a0)) fun x1 =>
 Call E0.P fn_r02_Loose [(As x1)] [] fun r2 g2 =>
 Req (qP10 g2 r2)
 (Br (decide (rI (rT r2 1) = (0 : Int)))
 (Q (.tup [(.imm (.agg [(.int .i64 1), (.int .i64 (rI (rT r2 0))), (.str []), (.int .i64 a1), (.int .i64 (IntKind.i64.wrap (a1 + rI r0)))])), (Ai 0)]) [])
 (Br (decide (rI (rT r2 1) = (3 : Int)))
 (Q (.tup [(.imm (.agg [(.int .i64 0), (.int .i64 0), (.str []), (.int .i64 0), (.int .i64 0)])), (Ai 3)]) [])
 (Br (decide ((127 : Int) < rI r0))
 (Q (.tup [(.imm (.agg [(.int .i64 0), (.int .i64 0), (.str []), (.int .i64 0), (.int .i64 0)])), (Ai 8)]) [])
 (Q (.tup [(.imm (.agg [(.int .i64 8), (.int .i64 0), (.str x1), (.int .i64 a1), (.int .i64 (IntKind.i64.wrap (a1 + rI r0)))])), (Ai 0)]) [])))))))) : Call E0.P fn_r15_word [(As a0), (Ai a1)] [] Q := fun_rule (envN E0 nt_r15_word) (okE nt_r15_word) 3 0 86 ac_r15_word [.cell 4 95, .tmp 5] ok_r15_word _ _ Q rfl rfl (kr (by kernel_rfl) h)
noncomputable def ac_parse_reader_link : AC := (annot [(7, [0, 4], [])] [2, 3] (codeOf Try.f92) 0).1
abbrev nt_parse_reader_link : Nat := 52
def C_parse_reader_link_7 (u0 : LB) (u1 u2 : Int) (u3 : LB) (u4 : Int) (K : KK) : Prop := CutOK 7 E0.P nt_parse_reader_link (cbodyOf 7 ac_parse_reader_link).code ⟨[(0, .ptr nA0 0), (4, .ptr nL4 0)], [(nA0, .blk ty_parse_reader [(As u0), (Ai u1), (Ai u2)]), (nL4, .blk ty_parse_cursor [(As u3), (Ai u4)])]⟩ K
def K_parse_reader_link_0 (s : LB) (at_ win : Int) (Q : QQ) : KK := kE fun st => finish 0 E0.T [.tmp 2, .tmp 3] [(nA0, .blk ty_parse_reader [(As s), (Ai at_), (Ai win)])] Q st
theorem C_parse_reader_link_7_of (u0 : LB) (u1 u2 : Int) (u3 : LB) (u4 : Int) (K : KK) (h :
 (K .ret ⟨[(2, (Ai 0)), (3, (Ab false))], [(nA0, .blk ty_parse_reader [(As u3), (Ai u4), (Ai u2)])]⟩)) : C_parse_reader_link_7 u0 u1 u2 u3 u4 K := cut_rule (envN E0 nt_parse_reader_link) (okE nt_parse_reader_link) 3 7 (cbodyOf 7 ac_parse_reader_link) [] _ K rfl (kr (by kernel_rfl) h)
theorem K_parse_reader_link_0_x0 (s : LB) (at_ win : Int) (Q : QQ) (t2 : Int) (t3 : Bool) (u0 : LB) (u1 u2 : Int) (h :
 (Q (.tup [(Ai t2), (Ab t3)]) [(nA0, .blk ty_parse_reader [(As u0), (Ai u1), (Ai u2)])])) : K_parse_reader_link_0 s at_ win Q .ret ⟨[(2, (Ai t2)), (3, (Ab t3))], [(nA0, .blk ty_parse_reader [(As u0), (Ai u1), (Ai u2)])]⟩ := kr (by kernel_rfl) h
theorem ok_parse_reader_link : FnOK E0.P 92 ac_parse_reader_link.code nt_parse_reader_link [.tmp 2, .tmp 3] := fn_ok _ _ Try.f92 [(7, [0, 4], [])] [2, 3] _ 52 Try.func92 (by kernel_rfl) (by kernel_rfl) (by kernel_rfl) (by kernel_rfl)
theorem F_parse_reader_link_of (s : LB) (at_ win : Int) (Q : QQ) (h :
 (Call E0.P fn_parse_cursor_take [(.ptr nA0 0)] [(nA0, .blk ty_parse_reader [(As s), (Ai at_), (Ai win)])] fun r0 g0 =>
 Req (qP6 g0 r0)
 (Let (bif decide (rI (rT r0 1) = (0 : Int)) then decide (gI (aCells (rT r0 0)) 0 = (1 : Int))
 else false) fun x1 =>
 Br (x1)
 (Call E0.P fn_parse_cursor_take [(.ptr nA0 0)] [(nA0, .blk ty_parse_reader [(.imm (.str (rS ((blkOf g0 nA0).getD 0 AV.undef)))), (.imm (.int .i64 (rI ((blkOf g0 nA0).getD 1 AV.undef)))), (.imm (.int .i64 (rI ((blkOf g0 nA0).getD 2 AV.undef))))])] fun r2 g2 =>
 Req (qP6 g2 r2)
 (Let (bif decide (rI (rT r2 1) = (0 : Int)) then decide (gI (aCells (rT r2 0)) 0 = (8 : Int))
 else false) fun x3 =>
 Let (bif x3 then gS (aCells (rT r2 0)) 2 == [(82 : UInt8)] else false) fun x4 =>
 Br (x4)
 (Q (.tup [(Ai (gI (aCells (rT r0 0)) 1)), (Ab true)]) [(nA0, .blk ty_parse_reader [(.imm (.str (rS ((blkOf g2 nA0).getD 0 AV.undef)))), (.imm (.int .i64 (rI ((blkOf g2 nA0).getD 1 AV.undef)))), (.imm (.int .i64 (rI ((blkOf g2 nA0).getD 2 AV.undef))))])])
 (C_parse_reader_link_7 (rS ((blkOf g2 nA0).getD 0 AV.undef)) (rI ((blkOf g2 nA0).getD 1 AV.undef)) (rI ((blkOf g2 nA0).getD 2 AV.undef)) s at_ (K_parse_reader_link_0 s at_ win Q))))
 (C_parse_reader_link_7 (rS ((blkOf g0 nA0).getD 0 AV.undef)) (rI ((blkOf g0 nA0).getD 1 AV.undef)) (rI ((blkOf g0 nA0).getD 2 AV.undef)) s at_ (K_parse_reader_link_0 s at_ win Q))))) : Call E0.P fn_parse_reader_link [(.ptr (.arg 0) 0)] [(.arg 0, .blk ty_parse_reader [.imm (.str s), .imm (.int .i64 at_), .imm (.int .i64 win)])] Q := fun_rule (envN E0 nt_parse_reader_link) (okE nt_parse_reader_link) 3 0 92 ac_parse_reader_link [.tmp 2, .tmp 3] ok_parse_reader_link _ _ Q rfl rfl (kr (by kernel_rfl) h)
noncomputable def ac_parse_reader_key : AC := (annot [] [4, 5, 6] (codeOf Try.f93) 0).1
abbrev nt_parse_reader_key : Nat := 45
theorem ok_parse_reader_key : FnOK E0.P 93 ac_parse_reader_key.code nt_parse_reader_key [.tmp 4, .tmp 5, .tmp 6] := fn_ok _ _ Try.f93 [] [4, 5, 6] _ 45 Try.func93 (by kernel_rfl) (by kernel_rfl) (by kernel_rfl) (by kernel_rfl)
theorem F_parse_reader_key_of (s : LB) (at_ win : Int) (m : List (List UInt8 × Int)) (Q : QQ) (h :
 (Call E0.P fn_parse_cursor_take [(.ptr nA0 0)] [(nA0, .blk ty_parse_reader [(As s), (Ai at_), (Ai win)])] fun r0 g0 =>
 Req (qP6 g0 r0)
 (Br (!decide (rI (rT r0 1) = (0 : Int)))
 (Q (.tup [(.imm (.str [])), (Ab false), (Ai (rI (rT r0 1)))]) [(nA0, .blk ty_parse_reader [(.imm (.str (rS ((blkOf g0 nA0).getD 0 AV.undef)))), (.imm (.int .i64 (rI ((blkOf g0 nA0).getD 1 AV.undef)))), (.imm (.int .i64 (rI ((blkOf g0 nA0).getD 2 AV.undef))))]), (nA1, .map m)])
 (Br (decide (gI (aCells (rT r0 0)) 0 = (0 : Int)))
 (Q (.tup [(.imm (.str [])), (Ab false), (Ai 5)]) [(nA0, .blk ty_parse_reader [(.imm (.str (rS ((blkOf g0 nA0).getD 0 AV.undef)))), (.imm (.int .i64 (rI ((blkOf g0 nA0).getD 1 AV.undef)))), (.imm (.int .i64 (rI ((blkOf g0 nA0).getD 2 AV.undef))))]), (nA1, .map m)])
 (Br (decide (gI (aCells (rT r0 0)) 0 = (7 : Int)))
 (Q (.tup [(.imm (.str [])), (Ab false), (Ai 0)]) [(nA0, .blk ty_parse_reader [(.imm (.str (rS ((blkOf g0 nA0).getD 0 AV.undef)))), (.imm (.int .i64 (rI ((blkOf g0 nA0).getD 1 AV.undef)))), (.imm (.int .i64 (rI ((blkOf g0 nA0).getD 2 AV.undef))))]), (nA1, .map m)])
 (Br (!decide (gI (aCells (rT r0 0)) 0 = (2 : Int)))
 (Q (.tup [(.imm (.str [])), (Ab false), (Ai 4)]) [(nA0, .blk ty_parse_reader [(.imm (.str (rS ((blkOf g0 nA0).getD 0 AV.undef)))), (.imm (.int .i64 (rI ((blkOf g0 nA0).getD 1 AV.undef)))), (.imm (.int .i64 (rI ((blkOf g0 nA0).getD 2 AV.undef))))]), (nA1, .map m)])
 (Br (decide ((0 : Int) < mLook m (gS (aCells (rT r0 0)) 2)))
 (Q (.tup [(.imm (.str [])), (Ab false), (Ai 11)]) [(nA0, .blk ty_parse_reader [(.imm (.str (rS ((blkOf g0 nA0).getD 0 AV.undef)))), (.imm (.int .i64 (rI ((blkOf g0 nA0).getD 1 AV.undef)))), (.imm (.int .i64 (rI ((blkOf g0 nA0).getD 2 AV.undef))))]), (nA1, .map m)])
 (Q (.tup [(As (gS (aCells (rT r0 0)) 2)), (Ab true), (Ai 0)]) [(nA0, .blk ty_parse_reader [(.imm (.str (rS ((blkOf g0 nA0).getD 0 AV.undef)))), (.imm (.int .i64 (rI ((blkOf g0 nA0).getD 1 AV.undef)))), (.imm (.int .i64 (rI ((blkOf g0 nA0).getD 2 AV.undef))))]), (nA1, .map (mUp m (gS (aCells (rT r0 0)) 2)
 (IntKind.i64.wrap (mLook m (gS (aCells (rT r0 0)) 2) + (1 : Int)))))])))))))) : Call E0.P fn_parse_reader_key [(.ptr (.arg 0) 0), (.mp (.arg 1))] [(.arg 0, .blk ty_parse_reader [.imm (.str s), .imm (.int .i64 at_), .imm (.int .i64 win)]), (.arg 1, .map m)] Q := fun_rule (envN E0 nt_parse_reader_key) (okE nt_parse_reader_key) 3 0 93 ac_parse_reader_key [.tmp 4, .tmp 5, .tmp 6] ok_parse_reader_key _ _ Q rfl rfl (kr (by kernel_rfl) h)
noncomputable def ac_r18_link : AC := (annot [] [4, 5, 6] (codeOf Try.f100) 0).1
abbrev nt_r18_link : Nat := 53
theorem ok_r18_link : FnOK E0.P 100 ac_r18_link.code nt_r18_link [.cell 4 37, .tmp 5, .tmp 6] := fn_ok _ _ Try.f100 [] [4, 5, 6] _ 53 Try.func100 (by kernel_rfl) (by kernel_rfl) (by kernel_rfl) (by kernel_rfl)
theorem F_r18_link_of (a0 : LB) (a1_0 a1_1 : Int) (a1_2 : LB) (a1_3 a1_4 : Int) (Q : QQ) (h :
 (Call E0.P fn_r15_Next [(As a0), (Ai a1_4)] [] fun r0 g0 =>
 Req (qP5 g0 r0)
 (Let (bif !decide (rI (rT r0 1) = (0 : Int)) then true
 else !decide (gI (aCells (rT r0 0)) 0 = (1 : Int))) fun x1 =>
 Br (x1)
 (Q (.tup [(.imm (.agg [(.int .i64 0), (.int .i64 0), (.int .i64 0), (.str []), (.sl .any 6 []), (.sl .any 7 [])])), (Ai 0), (Ab false)]) [])
 (Call E0.P fn_r15_Next [(As a0), (Ai (gI (aCells (rT r0 0)) 4))] [] fun r2 g2 =>
 Req (qP5 g2 r2)
 (Let (bif !decide (rI (rT r2 1) = (0 : Int)) then true
 else !decide (gI (aCells (rT r2 0)) 0 = (8 : Int))) fun x3 =>
 Let (bif x3 then true else !gS (aCells (rT r2 0)) 2 == [(82 : UInt8)]) fun x4 =>
 Br (x4)
 (Q (.tup [(.imm (.agg [(.int .i64 0), (.int .i64 0), (.int .i64 0), (.str []), (.sl .any 6 []), (.sl .any 7 [])])), (Ai 0), (Ab false)]) [])
 (Q (.tup [(.imm (.agg [(.int .i64 7), (.int .i64 a1_1), (.int .i64 (gI (aCells (rT r0 0)) 1)), (.str []), (.sl .any 6 []), (.sl .any 7 [])])), (Ai (gI (aCells (rT r2 0)) 4)), (Ab true)]) [])))))) : Call E0.P fn_r18_link [(As a0), (.imm (.agg [(.int .i64 a1_0), (.int .i64 a1_1), (.str a1_2), (.int .i64 a1_3), (.int .i64 a1_4)]))] [] Q := fun_rule (envN E0 nt_r18_link) (okE nt_r18_link) 3 0 100 ac_r18_link [.cell 4 37, .tmp 5, .tmp 6] ok_r18_link _ _ Q rfl rfl (kr (by kernel_rfl) h)
noncomputable def ac_octet_Span : AC := (annot [(1, [0, 1, 2, 7], []), (7, [0, 1, 2, 7], []), (9, [7], []), (12, [0, 1, 2, 7, 22, 23, 24], []), (14, [7], []), (18, [0, 1, 2, 7], []), (20, [7], [0, 1, 2, 7]), (21, [7], []), (22, [0, 1, 2, 7], [0, 1, 2, 7]), (23, [7], [])] [6] (codeOf Try.f102) 0).1
abbrev nt_octet_Span : Nat := 38
def L_octet_Span_7 (t0 : LB) (t1 : Int) (t2r : LL) (t7 : Int) (K : KK) : Prop := LoopOK 7 E0.P nt_octet_Span (lbodyOf 7 ac_octet_Span).code ⟨[(0, (As t0)), (1, (Ai t1)), (2, (Al 1 t2r)), (7, (Ai t7))], []⟩ K
def L_octet_Span_12 (t0 : LB) (t1 : Int) (t2r : LL) (t7 : Int) (t22r : LL) (t23 t24 : Int) (K : KK) : Prop := LoopOK 12 E0.P nt_octet_Span (lbodyOf 12 ac_octet_Span).code ⟨[(0, (As t0)), (1, (Ai t1)), (2, (Al 1 t2r)), (7, (Ai t7)), (22, (Al 1 t22r)), (23, (Ai t23)), (24, (Ai t24))], []⟩ K
def C_octet_Span_23 (t7 : Int) (K : KK) : Prop := CutOK 23 E0.P nt_octet_Span (cbodyOf 23 ac_octet_Span).code ⟨[(7, (Ai t7))], []⟩ K
def C_octet_Span_22 (t0 : LB) (t1 : Int) (t2r : LL) (t7 : Int) (K : KK) : Prop := CutOK 22 E0.P nt_octet_Span (cbodyOf 22 ac_octet_Span).code ⟨[(0, (As t0)), (1, (Ai t1)), (2, (Al 1 t2r)), (7, (Ai t7))], []⟩ K
def C_octet_Span_20 (t7 : Int) (K : KK) : Prop := CutOK 20 E0.P nt_octet_Span (cbodyOf 20 ac_octet_Span).code ⟨[(7, (Ai t7))], []⟩ K
def K_octet_Span_0 (Q : QQ) : KK := kE fun st => finish 0 E0.T [.tmp 6] [] Q st
def K_octet_Span_1 (Q : QQ) : Ex → St → Prop
 | .normal, st => finish 0 E0.T [.tmp 6] [] Q st
 | .exit i, st => False
 | .goto i, st => ScopeOK 1 E0.P nt_octet_Span i (sbodyOf 1 ac_octet_Span).code (mask [0, 1, 2, 7] st) (K_octet_Span_0 Q)
 | .ret, st => finish 0 E0.T [.tmp 6] [] Q st
def K_octet_Span_2 (Q : QQ) : Ex → St → Prop
 | .normal, st => CutOK 23 E0.P nt_octet_Span (cbodyOf 23 ac_octet_Span).code (mask [7] st) (K_octet_Span_1 Q)
 | .exit i, st => (match (i.beq 0 : Bool) with
 | true => CutOK 23 E0.P nt_octet_Span (cbodyOf 23 ac_octet_Span).code (mask [7] st) (K_octet_Span_1 Q)
 | false => False)
 | .goto i, st => ScopeOK 1 E0.P nt_octet_Span i (sbodyOf 1 ac_octet_Span).code (mask [0, 1, 2, 7] st) (K_octet_Span_0 Q)
 | .ret, st => finish 0 E0.T [.tmp 6] [] Q st
def K_octet_Span_3 (K : KK) : Ex → St → Prop
 | .normal, st => LoopOK 7 E0.P nt_octet_Span (lbodyOf 7 ac_octet_Span).code (mask [0, 1, 2, 7] st) K
 | .exit i, st => K (.exit i) st
 | .goto i, st => K (.goto i) st
 | .ret, st => K .ret st
def K_octet_Span_4 (K : KK) : KK := kC 1 (fun st => CutOK 22 E0.P nt_octet_Span (cbodyOf 22 ac_octet_Span).code (mask [0, 1, 2, 7] st) (K_octet_Span_3 K)) K
def K_octet_Span_5 (K : KK) : Ex → St → Prop
 | .normal, st => CutOK 20 E0.P nt_octet_Span (cbodyOf 20 ac_octet_Span).code (mask [7] st) (K_octet_Span_4 K)
 | .exit i, st => (match (i.beq 2 : Bool) with
 | true => CutOK 20 E0.P nt_octet_Span (cbodyOf 20 ac_octet_Span).code (mask [7] st) (K_octet_Span_4 K)
 | false => (match (i.beq 1 : Bool) with
 | true => CutOK 22 E0.P nt_octet_Span (cbodyOf 22 ac_octet_Span).code (mask [0, 1, 2, 7] st) (K_octet_Span_3 K)
 | false => K (.exit i) st))
 | .goto i, st => K (.goto i) st
 | .ret, st => K .ret st
theorem L_octet_Span_7_of (t0 : LB) (t1 : Int) (t2r : LL) (t7 : Int) (K : KK) (h :
 (Br (decide (t7 < IntKind.i64.wrap ((↑t0.length : Int) - t1)))
 (L_octet_Span_12 t0 t1 t2r t7 t2r ((↑t2r.length : Int)) ((0 : Int)) (K_octet_Span_5 K))
 (K (.exit 0) ⟨[(7, (Ai t7))], []⟩))) : L_octet_Span_7 t0 t1 t2r t7 K := loop_rule (envN E0 nt_octet_Span) (okE nt_octet_Span) 3 7 (lbodyOf 7 ac_octet_Span) [0, 1, 2, 7] _ K rfl (kr (by kernel_rfl) h)
theorem L_octet_Span_12_of (t0 : LB) (t1 : Int) (t2r : LL) (t7 : Int) (t22r : LL) (t23 t24 : Int) (K : KK) (h :
 (Br (decide (t24 < t23))
 (Req (((0 : Int) ≤ t24 ∧ t24 < (↑t22r.length : Int)) ∧ shOK [.int .i64] (t22r.getD t24.toNat []) = true)
 (Req ((0 : Int) ≤ IntKind.i64.wrap (t1 + t7) ∧ IntKind.i64.wrap (t1 + t7) < (↑t0.length : Int))
 (Call E0.P fn_octet_Kind [(.imm (.int .u8 ((↑(t0.getD (IntKind.i64.wrap (t1 + t7)).toNat 0).toNat : Int))))] [] fun r0 g0 =>
 Req (qP7 g0 r0)
 (Br (decide (rI r0 = gI (t22r.getD t24.toNat []) 0))
 (K (.exit (1)) ⟨[(0, (As t0)), (1, (Ai t1)), (2, (Al 1 t2r)), (7, (Ai t7))], []⟩)
 (L_octet_Span_12 t0 t1 t2r t7 t22r t23 (IntKind.i64.wrap (t24 + (1 : Int))) K)))))
 (K (.exit (2)) ⟨[(7, (Ai t7))], []⟩))) : L_octet_Span_12 t0 t1 t2r t7 t22r t23 t24 K := loop_rule (envN E0 nt_octet_Span) (okE nt_octet_Span) 3 12 (lbodyOf 12 ac_octet_Span) [0, 1, 2, 7, 22, 23, 24] _ K rfl (kr (by kernel_rfl) h)
theorem C_octet_Span_23_of (t7 : Int) (K : KK) (h :
 (K .ret ⟨[(6, (Ai t7))], []⟩)) : C_octet_Span_23 t7 K := cut_rule (envN E0 nt_octet_Span) (okE nt_octet_Span) 3 23 (cbodyOf 23 ac_octet_Span) [] _ K rfl (kr (by kernel_rfl) h)
theorem C_octet_Span_22_of (t0 : LB) (t1 : Int) (t2r : LL) (t7 : Int) (K : KK) (h :
 (K .normal ⟨[(0, (As t0)), (1, (Ai t1)), (2, (Al 1 t2r)), (7, (Ai (IntKind.i64.wrap (t7 + (1 : Int)))))], []⟩)) : C_octet_Span_22 t0 t1 t2r t7 K := cut_rule (envN E0 nt_octet_Span) (okE nt_octet_Span) 3 22 (cbodyOf 22 ac_octet_Span) [0, 1, 2, 7] _ K rfl (kr (by kernel_rfl) h)
theorem C_octet_Span_20_of (t7 : Int) (K : KK) (h :
 (K (.exit 0) ⟨[(7, (Ai t7))], []⟩)) : C_octet_Span_20 t7 K := cut_rule (envN E0 nt_octet_Span) (okE nt_octet_Span) 3 20 (cbodyOf 20 ac_octet_Span) [0, 1, 2, 7] _ K rfl (kr (by kernel_rfl) h)
theorem K_octet_Span_1_x0 (Q : QQ) (t6 : Int) (h :
 (Q (Ai t6) [])) : K_octet_Span_1 Q .ret ⟨[(6, (Ai t6))], []⟩ := kr (by kernel_rfl) h
theorem K_octet_Span_2_x0 (Q : QQ) (t7 : Int) (h :
 (C_octet_Span_23 t7 (K_octet_Span_1 Q))) : K_octet_Span_2 Q (.exit 0) ⟨[(7, (Ai t7))], []⟩ := kr (by kernel_rfl) h
theorem K_octet_Span_3_x0 (K : KK) (t0 : LB) (t1 : Int) (t2r : LL) (t7 : Int) (h :
 (L_octet_Span_7 t0 t1 t2r t7 K)) : K_octet_Span_3 K .normal ⟨[(0, (As t0)), (1, (Ai t1)), (2, (Al 1 t2r)), (7, (Ai t7))], []⟩ := kr (by kernel_rfl) h
theorem K_octet_Span_4_x0 (K : KK) (t7 : Int) (h :
 (K (.exit 0) ⟨[(7, (Ai t7))], []⟩)) : K_octet_Span_4 K (.exit 0) ⟨[(7, (Ai t7))], []⟩ := kr (by kernel_rfl) h
theorem K_octet_Span_5_x0 (K : KK) (t0 : LB) (t1 : Int) (t2r : LL) (t7 : Int) (h :
 (C_octet_Span_22 t0 t1 t2r t7 (K_octet_Span_3 K))) : K_octet_Span_5 K (.exit (1)) ⟨[(0, (As t0)), (1, (Ai t1)), (2, (Al 1 t2r)), (7, (Ai t7))], []⟩ := kr (by kernel_rfl) h
theorem K_octet_Span_5_x1 (K : KK) (t7 : Int) (h :
 (C_octet_Span_20 t7 (K_octet_Span_4 K))) : K_octet_Span_5 K (.exit (2)) ⟨[(7, (Ai t7))], []⟩ := kr (by kernel_rfl) h
theorem ok_octet_Span : FnOK E0.P 102 ac_octet_Span.code nt_octet_Span [.tmp 6] := fn_ok _ _ Try.f102 [(1, [0, 1, 2, 7], []), (7, [0, 1, 2, 7], []), (9, [7], []), (12, [0, 1, 2, 7, 22, 23, 24], []), (14, [7], []), (18, [0, 1, 2, 7], []), (20, [7], [0, 1, 2, 7]), (21, [7], []), (22, [0, 1, 2, 7], [0, 1, 2, 7]), (23, [7], [])] [6] _ 38 Try.func102 (by kernel_rfl) (by kernel_rfl) (by kernel_rfl) (by kernel_rfl)
theorem F_octet_Span_of (a0 : LB) (a1 : Int) (a2 : LL) (Q : QQ) (h :
 (Call E0.P fn_octet_within [(As a0), (Ai a1)] [] fun r0 g0 =>
 Req (qP0 g0 r0)
 (Br (!rB r0)
 (Q (Ai 0) [])
 (L_octet_Span_7 a0 a1 a2 ((0 : Int)) (K_octet_Span_2 Q))))) : Call E0.P fn_octet_Span [(As a0), (Ai a1), (Al 1 a2)] [] Q := fun_rule (envN E0 nt_octet_Span) (okE nt_octet_Span) 3 0 102 ac_octet_Span [.tmp 6] ok_octet_Span _ _ Q rfl rfl (kr (by kernel_rfl) h)
noncomputable def ac_octet_Ends : AC := (annot [] [4] (codeOf Try.f103) 0).1
abbrev nt_octet_Ends : Nat := 33
theorem ok_octet_Ends : FnOK E0.P 103 ac_octet_Ends.code nt_octet_Ends [.tmp 4] := fn_ok _ _ Try.f103 [] [4] _ 33 Try.func103 (by kernel_rfl) (by kernel_rfl) (by kernel_rfl) (by kernel_rfl)
theorem F_octet_Ends_of (a0 : LB) (a1 : Int) (Q : QQ) (h :
 (Call E0.P fn_octet_within [(As a0), (Ai a1)] [] fun r0 g0 =>
 Req (qP0 g0 r0)
 (Br (!rB r0)
 (Q (Ai 0) [])
 (Req ((0 : Int) ≤ a1 ∧ a1 < (↑a0.length : Int))
 (Br (decide ((↑(a0.getD a1.toNat 0).toNat : Int) = (10 : Int)))
 (Q (Ai 1) [])
 (Req ((0 : Int) ≤ a1 ∧ a1 < (↑a0.length : Int))
 (Br (!decide ((↑(a0.getD a1.toNat 0).toNat : Int) = (13 : Int)))
 (Q (Ai 0) [])
 (Req (decide (IntKind.i64.wrap (a1 + (1 : Int)) < (↑a0.length : Int)) = true →
 (0 : Int) ≤ IntKind.i64.wrap (a1 + (1 : Int)) ∧ IntKind.i64.wrap (a1 + (1 : Int)) < (↑a0.length : Int))
 (Let (bif decide (IntKind.i64.wrap (a1 + (1 : Int)) < (↑a0.length : Int)) then
 decide ((↑(a0.getD (IntKind.i64.wrap (a1 + (1 : Int))).toNat 0).toNat : Int) = (10 : Int))
 else false) fun x1 =>
 Br (x1)
 (Q (Ai 2) [])
 (Q (Ai 1) [])))))))))) : Call E0.P fn_octet_Ends [(As a0), (Ai a1)] [] Q := fun_rule (envN E0 nt_octet_Ends) (okE nt_octet_Ends) 3 0 103 ac_octet_Ends [.tmp 4] ok_octet_Ends _ _ Q rfl rfl (kr (by kernel_rfl) h)
noncomputable def ac_token_scanner_name : AC := (annot [(3, [0, 2, 4, 5], []), (5, [0, 2], []), (6, [0, 2, 4], [0, 2, 4, 5]), (12, [0, 2, 4], [0, 2]), (16, [0, 2], [0, 2, 4, 5]), (17, [0, 2], [])] [2, 3] (codeOf Try.f105) 0).1
abbrev nt_token_scanner_name : Nat := 71
def L_token_scanner_name_3 (t4 : Int) (t5 : Bool) (u0 : LB) (u1 u2 u3 : Int) (u4 : LB) (u5 u6 : Int) (u7 : LL) (K : KK) : Prop := LoopOK 3 E0.P nt_token_scanner_name (lbodyOf 3 ac_token_scanner_name).code ⟨[(0, .ptr nA0 0), (2, .ptr nL2 0), (4, .imm (.int .u8 t4)), (5, (Ab t5))], [(nA0, .blk ty_token_scanner [(As u0), (Ai u1), (.own nA1)]), (nL2, .blk ty_api_Token [(Ai u2), (Ai u3), (As u4), (Ai u5), (Ai u6)]), (nA1, .arr (ty_uint8 + 2) true 1 u7)]⟩ K
def C_token_scanner_name_6 (t4 : Int) (u0 : LB) (u1 u2 u3 : Int) (u4 : LB) (u5 u6 : Int) (u7 : LL) (K : KK) : Prop := CutOK 6 E0.P nt_token_scanner_name (cbodyOf 6 ac_token_scanner_name).code ⟨[(0, .ptr nA0 0), (2, .ptr nL2 0), (4, .imm (.int .u8 t4))], [(nA0, .blk ty_token_scanner [(As u0), (Ai u1), (.own nA1)]), (nL2, .blk ty_api_Token [(Ai u2), (Ai u3), (As u4), (Ai u5), (Ai u6)]), (nA1, .arr (ty_uint8 + 2) true 1 u7)]⟩ K
def C_token_scanner_name_12 (t4 : Int) (u0 : LB) (u1 u2 u3 : Int) (u4 : LB) (u5 u6 : Int) (u7 : LL) (K : KK) : Prop := CutOK 12 E0.P nt_token_scanner_name (cbodyOf 12 ac_token_scanner_name).code ⟨[(0, .ptr nA0 0), (2, .ptr nL2 0), (4, .imm (.int .u8 t4))], [(nA0, .blk ty_token_scanner [(As u0), (Ai u1), (.own nA1)]), (nL2, .blk ty_api_Token [(Ai u2), (Ai u3), (As u4), (Ai u5), (Ai u6)]), (nA1, .arr (ty_uint8 + 2) true 1 u7)]⟩ K
def C_token_scanner_name_17 (u0 : LB) (u1 u2 u3 : Int) (u4 : LB) (u5 u6 : Int) (u7 : LL) (K : KK) : Prop := CutOK 17 E0.P nt_token_scanner_name (cbodyOf 17 ac_token_scanner_name).code ⟨[(0, .ptr nA0 0), (2, .ptr nL2 0)], [(nA0, .blk ty_token_scanner [(As u0), (Ai u1), (.own nA1)]), (nL2, .blk ty_api_Token [(Ai u2), (Ai u3), (As u4), (Ai u5), (Ai u6)]), (nA1, .arr (ty_uint8 + 2) true 1 u7)]⟩ K
def C_token_scanner_name_16 (u0 : LB) (u1 u2 u3 : Int) (u4 : LB) (u5 u6 : Int) (u7 : LL) (K : KK) : Prop := CutOK 16 E0.P nt_token_scanner_name (cbodyOf 16 ac_token_scanner_name).code ⟨[(0, .ptr nA0 0), (2, .ptr nL2 0)], [(nA0, .blk ty_token_scanner [(As u0), (Ai u1), (.own nA1)]), (nL2, .blk ty_api_Token [(Ai u2), (Ai u3), (As u4), (Ai u5), (Ai u6)]), (nA1, .arr (ty_uint8 + 2) true 1 u7)]⟩ K
def K_token_scanner_name_0 (s : LB) (at_ : Int) (out : LL) (Q : QQ) : KK := kE fun st => finish 0 E0.T [.cell 2 95, .tmp 3] [(nA0, .blk ty_token_scanner [(As s), (Ai at_), (.own nA1)]), (nA1, .arr (ty_uint8 + 2) true 1 out)] Q st
def K_token_scanner_name_1 (s : LB) (at_ : Int) (out : LL) (Q : QQ) : KK := kF 0 (fun st => CutOK 17 E0.P nt_token_scanner_name (cbodyOf 17 ac_token_scanner_name).code (mask [0, 2] st) (K_token_scanner_name_0 s at_ out Q)) fun st => finish 0 E0.T [.cell 2 95, .tmp 3] [(nA0, .blk ty_token_scanner [(As s), (Ai at_), (.own nA1)]), (nA1, .arr (ty_uint8 + 2) true 1 out)] Q st
def K_token_scanner_name_2 (K : KK) : Ex → St → Prop
 | .normal, st => LoopOK 3 E0.P nt_token_scanner_name (lbodyOf 3 ac_token_scanner_name).code (mask [0, 2, 4, 5] st) K
 | .exit i, st => K (.exit i) st
 | .goto i, st => K (.goto i) st
 | .ret, st => K .ret st
def K_token_scanner_name_3 (K : KK) : KK := kP [0, 2, 4, 5] K
def K_token_scanner_name_4 (K : KK) : KK := kC 1 (fun st => CutOK 16 E0.P nt_token_scanner_name (cbodyOf 16 ac_token_scanner_name).code (mask [0, 2] st) (K_token_scanner_name_3 K)) K
theorem L_token_scanner_name_3_of (t4 : Int) (t5 : Bool) (u0 : LB) (u1 u2 u3 : Int) (u4 : LB) (u5 u6 : Int) (u7 : LL) (K : KK) (h :
 (Br (t5 == true)
 (Call E0.P fn_octet_Kind [(.imm (.int .u8 t4))] [] fun r0 g0 =>
 Req (qP7 g0 r0)
 (Let (decide (rI r0 = (2 : Int))) fun x1 =>
 Br (x1)
 (C_token_scanner_name_6 t4 u0 u1 u2 u3 u4 u5 u6 u7 (K_token_scanner_name_2 K))
 (K (.exit 0) ⟨[(0, .ptr nA0 0), (2, .ptr nL2 0)], [(nA0, .blk ty_token_scanner [(As u0), (Ai u1), (.own nA1)]), (nL2, .blk ty_api_Token [(Ai u2), (Ai u3), (As u4), (Ai u5), (Ai u6)]), (nA1, .arr (ty_uint8 + 2) true 1 u7)]⟩)))
 (Req ((!true) = false)
 (Let (false) fun x2 =>
 Br (x2)
 (C_token_scanner_name_6 t4 u0 u1 u2 u3 u4 u5 u6 u7 (K_token_scanner_name_2 K))
 (K (.exit 0) ⟨[(0, .ptr nA0 0), (2, .ptr nL2 0)], [(nA0, .blk ty_token_scanner [(As u0), (Ai u1), (.own nA1)]), (nL2, .blk ty_api_Token [(Ai u2), (Ai u3), (As u4), (Ai u5), (Ai u6)]), (nA1, .arr (ty_uint8 + 2) true 1 u7)]⟩))))) : L_token_scanner_name_3 t4 t5 u0 u1 u2 u3 u4 u5 u6 u7 K := loop_rule (envN E0 nt_token_scanner_name) (okE nt_token_scanner_name) 3 3 (lbodyOf 3 ac_token_scanner_name) [0, 2, 4, 5] _ K rfl (kr (by kernel_rfl) h)
theorem C_token_scanner_name_6_of (t4 : Int) (u0 : LB) (u1 u2 u3 : Int) (u4 : LB) (u5 u6 : Int) (u7 : LL) (K : KK) (h :
 (Br (decide (t4 = (35 : Int)))
 (Call E0.P fn_token_scanner_escaped [(.ptr nA0 0)] [(nA0, .blk ty_token_scanner [(As u0), (Ai (IntKind.i64.wrap (u1 + (1 : Int)))), (.own nA1)]), (nA1, .arr (ty_uint8 + 2) true 1 u7)] fun r0 g0 =>
 Req (g0 =
 [(Nm.arg 0,
 Entry.blk 128
 [.imm (.str (rS ((blkOf g0 nA0).getD 0 AV.undef))),
 .imm (.int .i64 (rI ((blkOf g0 nA0).getD 1 AV.undef))),
 AV.own nA1]),
 (Nm.arg 1, Entry.arr 7 true 1 (arrRows g0 nA1))] ∧
 r0 = .tup [.imm (.int .u8 (rI (rT r0 0))), .imm (.bool (rB (rT r0 1)))])
 (Br (!rB (rT r0 1))
 (K .ret ⟨[(2, .ptr nL2 0), (3, (Ai 4))], [(nL2, .blk ty_api_Token [(Ai 0), (Ai 0), (.imm (.str [])), (Ai 0), (Ai 0)]), (nA0, .blk ty_token_scanner [(.imm (.str (rS ((blkOf g0 nA0).getD 0 AV.undef)))), (.imm (.int .i64 (rI ((blkOf g0 nA0).getD 1 AV.undef)))), (.own nA1)]), (nA1, .arr (ty_uint8 + 2) true 1 (arrRows g0 nA1))]⟩)
 (C_token_scanner_name_12 (rI (rT r0 0)) (rS ((blkOf g0 nA0).getD 0 AV.undef)) (rI ((blkOf g0 nA0).getD 1 AV.undef)) u2 u3 u4 u5 u6 (arrRows g0 nA1) (K_token_scanner_name_4 K))))
 (C_token_scanner_name_12 t4 u0 (IntKind.i64.wrap (u1 + (1 : Int))) u2 u3 u4 u5 u6 u7 (K_token_scanner_name_4 K)))) : C_token_scanner_name_6 t4 u0 u1 u2 u3 u4 u5 u6 u7 K := cut_rule (envN E0 nt_token_scanner_name) (okE nt_token_scanner_name) 3 6 (cbodyOf 6 ac_token_scanner_name) [0, 2, 4, 5] _ K rfl (kr (by kernel_rfl) h)
theorem C_token_scanner_name_12_of (t4 : Int) (u0 : LB) (u1 u2 u3 : Int) (u4 : LB) (u5 u6 : Int) (u7 : LL) (K : KK) (h :
 (Req ((u7.length + 1) * 1 ≤ 140737488355328 ∧ u7.length + 1 ≤ 140737488355328)
 (Br (decide ((127 : Int) < (↑(u7 ++ [[IV.int .u8 t4]]).length : Int)))
 (K .ret ⟨[(2, .ptr nL2 0), (3, (Ai 8))], [(nL2, .blk ty_api_Token [(Ai 0), (Ai 0), (.imm (.str [])), (Ai 0), (Ai 0)]), (nA0, .blk ty_token_scanner [(As u0), (Ai u1), (.own nA1)]), (nA1, .arr (ty_uint8 + 2) true 1 (u7 ++ [[IV.int .u8 t4]]))]⟩)
 (K .normal ⟨[(0, .ptr nA0 0), (2, .ptr nL2 0)], [(nA0, .blk ty_token_scanner [(As u0), (Ai u1), (.own nA1)]), (nL2, .blk ty_api_Token [(Ai u2), (Ai u3), (As u4), (Ai u5), (Ai u6)]), (nA1, .arr (ty_uint8 + 2) true 1 (u7 ++ [[IV.int .u8 t4]]))]⟩)))) : C_token_scanner_name_12 t4 u0 u1 u2 u3 u4 u5 u6 u7 K := cut_rule (envN E0 nt_token_scanner_name) (okE nt_token_scanner_name) 3 12 (cbodyOf 12 ac_token_scanner_name) [0, 2] _ K rfl (kr (by kernel_rfl) h)
theorem C_token_scanner_name_17_of (u0 : LB) (u1 u2 u3 : Int) (u4 : LB) (u5 u6 : Int) (u7 : LL) (K : KK) (h :
 (Req (∀ (r : List IV), r ∈ u7 → shOK [.int .u8] r = true)
 (K .ret ⟨[(2, .ptr nL2 0), (3, (Ai 0))], [(nL2, .blk ty_api_Token [(Ai 2), (Ai 0), (As (List.map (fun r => UInt8.ofNat (gI r 0).toNat) u7)), (Ai 0), (Ai 0)]), (nA0, .blk ty_token_scanner [(As u0), (Ai u1), (.own nA1)]), (nA1, .arr (ty_uint8 + 2) true 1 u7)]⟩))) : C_token_scanner_name_17 u0 u1 u2 u3 u4 u5 u6 u7 K := cut_rule (envN E0 nt_token_scanner_name) (okE nt_token_scanner_name) 3 17 (cbodyOf 17 ac_token_scanner_name) [] _ K rfl (kr (by kernel_rfl) h)
theorem C_token_scanner_name_16_of (u0 : LB) (u1 u2 u3 : Int) (u4 : LB) (u5 u6 : Int) (u7 : LL) (K : KK) (h :
 (Br (decide ((↑u0.length : Int) ≤ u1))
 (K .normal ⟨[(0, .ptr nA0 0), (2, .ptr nL2 0), (4, .imm (.int .u8 ((0 : Int)))), (5, (Ab false))], [(nA0, .blk ty_token_scanner [(As u0), (Ai u1), (.own nA1)]), (nL2, .blk ty_api_Token [(Ai u2), (Ai u3), (As u4), (Ai u5), (Ai u6)]), (nA1, .arr (ty_uint8 + 2) true 1 u7)]⟩)
 (Req ((0 : Int) ≤ u1 ∧ u1 < (↑u0.length : Int))
 (K .normal ⟨[(0, .ptr nA0 0), (2, .ptr nL2 0), (4, .imm (.int .u8 ((↑(u0.getD u1.toNat 0).toNat : Int)))), (5, (Ab true))], [(nA0, .blk ty_token_scanner [(As u0), (Ai u1), (.own nA1)]), (nL2, .blk ty_api_Token [(Ai u2), (Ai u3), (As u4), (Ai u5), (Ai u6)]), (nA1, .arr (ty_uint8 + 2) true 1 u7)]⟩)))) : C_token_scanner_name_16 u0 u1 u2 u3 u4 u5 u6 u7 K := cut_rule (envN E0 nt_token_scanner_name) (okE nt_token_scanner_name) 3 16 (cbodyOf 16 ac_token_scanner_name) [0, 2, 4, 5] _ K rfl (kr (by kernel_rfl) h)
theorem K_token_scanner_name_0_x0 (s : LB) (at_ : Int) (out : LL) (Q : QQ) (t3 u0 u1 : Int) (u2 : LB) (u3 u4 : Int) (u5 : LB) (u6 : Int) (u7 : LL) (h :
 (Q (.tup [(.imm (.agg [(.int .i64 u0), (.int .i64 u1), (.str u2), (.int .i64 u3), (.int .i64 u4)])), (Ai t3)]) [(nA0, .blk ty_token_scanner [(As u5), (Ai u6), (.own nA1)]), (nA1, .arr (ty_uint8 + 2) true 1 u7)])) : K_token_scanner_name_0 s at_ out Q .ret ⟨[(2, .ptr nL2 0), (3, (Ai t3))], [(nL2, .blk ty_api_Token [(Ai u0), (Ai u1), (As u2), (Ai u3), (Ai u4)]), (nA0, .blk ty_token_scanner [(As u5), (Ai u6), (.own nA1)]), (nA1, .arr (ty_uint8 + 2) true 1 u7)]⟩ := kr (by kernel_rfl) h
theorem K_token_scanner_name_1_x0 (s : LB) (at_ : Int) (out : LL) (Q : QQ) (u0 : LB) (u1 u2 u3 : Int) (u4 : LB) (u5 u6 : Int) (u7 : LL) (h :
 (C_token_scanner_name_17 u0 u1 u2 u3 u4 u5 u6 u7 (K_token_scanner_name_0 s at_ out Q))) : K_token_scanner_name_1 s at_ out Q (.exit 0) ⟨[(0, .ptr nA0 0), (2, .ptr nL2 0)], [(nA0, .blk ty_token_scanner [(As u0), (Ai u1), (.own nA1)]), (nL2, .blk ty_api_Token [(Ai u2), (Ai u3), (As u4), (Ai u5), (Ai u6)]), (nA1, .arr (ty_uint8 + 2) true 1 u7)]⟩ := kr (by kernel_rfl) h
theorem K_token_scanner_name_1_x1 (s : LB) (at_ : Int) (out : LL) (Q : QQ) (t3 u0 u1 : Int) (u2 : LB) (u3 u4 : Int) (u5 : LB) (u6 : Int) (u7 : LL) (h :
 (Q (.tup [(.imm (.agg [(.int .i64 u0), (.int .i64 u1), (.str u2), (.int .i64 u3), (.int .i64 u4)])), (Ai t3)]) [(nA0, .blk ty_token_scanner [(As u5), (Ai u6), (.own nA1)]), (nA1, .arr (ty_uint8 + 2) true 1 u7)])) : K_token_scanner_name_1 s at_ out Q .ret ⟨[(2, .ptr nL2 0), (3, (Ai t3))], [(nL2, .blk ty_api_Token [(Ai u0), (Ai u1), (As u2), (Ai u3), (Ai u4)]), (nA0, .blk ty_token_scanner [(As u5), (Ai u6), (.own nA1)]), (nA1, .arr (ty_uint8 + 2) true 1 u7)]⟩ := kr (by kernel_rfl) h
theorem K_token_scanner_name_2_x0 (K : KK) (t3 u0 u1 : Int) (u2 : LB) (u3 u4 : Int) (u5 : LB) (u6 : Int) (u7 : LL) (h :
 (K .ret ⟨[(2, .ptr nL2 0), (3, (Ai t3))], [(nL2, .blk ty_api_Token [(Ai u0), (Ai u1), (As u2), (Ai u3), (Ai u4)]), (nA0, .blk ty_token_scanner [(As u5), (Ai u6), (.own nA1)]), (nA1, .arr (ty_uint8 + 2) true 1 u7)]⟩)) : K_token_scanner_name_2 K .ret ⟨[(2, .ptr nL2 0), (3, (Ai t3))], [(nL2, .blk ty_api_Token [(Ai u0), (Ai u1), (As u2), (Ai u3), (Ai u4)]), (nA0, .blk ty_token_scanner [(As u5), (Ai u6), (.own nA1)]), (nA1, .arr (ty_uint8 + 2) true 1 u7)]⟩ := kr (by kernel_rfl) h
theorem K_token_scanner_name_2_x1 (K : KK) (t4 : Int) (t5 : Bool) (u0 : LB) (u1 u2 u3 : Int) (u4 : LB) (u5 u6 : Int) (u7 : LL) (h :
 (L_token_scanner_name_3 t4 t5 u0 u1 u2 u3 u4 u5 u6 u7 K)) : K_token_scanner_name_2 K .normal ⟨[(0, .ptr nA0 0), (2, .ptr nL2 0), (4, .imm (.int .u8 t4)), (5, (Ab t5))], [(nA0, .blk ty_token_scanner [(As u0), (Ai u1), (.own nA1)]), (nL2, .blk ty_api_Token [(Ai u2), (Ai u3), (As u4), (Ai u5), (Ai u6)]), (nA1, .arr (ty_uint8 + 2) true 1 u7)]⟩ := kr (by kernel_rfl) h
theorem K_token_scanner_name_3_x0 (K : KK) (t4 : Int) (t5 : Bool) (u0 : LB) (u1 u2 u3 : Int) (u4 : LB) (u5 u6 : Int) (u7 : LL) (h :
 (K .normal ⟨[(0, .ptr nA0 0), (2, .ptr nL2 0), (4, .imm (.int .u8 t4)), (5, (Ab t5))], [(nA0, .blk ty_token_scanner [(As u0), (Ai u1), (.own nA1)]), (nL2, .blk ty_api_Token [(Ai u2), (Ai u3), (As u4), (Ai u5), (Ai u6)]), (nA1, .arr (ty_uint8 + 2) true 1 u7)]⟩)) : K_token_scanner_name_3 K .normal ⟨[(0, .ptr nA0 0), (2, .ptr nL2 0), (4, .imm (.int .u8 t4)), (5, (Ab t5))], [(nA0, .blk ty_token_scanner [(As u0), (Ai u1), (.own nA1)]), (nL2, .blk ty_api_Token [(Ai u2), (Ai u3), (As u4), (Ai u5), (Ai u6)]), (nA1, .arr (ty_uint8 + 2) true 1 u7)]⟩ := kr (by kernel_rfl) h
theorem K_token_scanner_name_4_x0 (K : KK) (t3 u0 u1 : Int) (u2 : LB) (u3 u4 : Int) (u5 : LB) (u6 : Int) (u7 : LL) (h :
 (K .ret ⟨[(2, .ptr nL2 0), (3, (Ai t3))], [(nL2, .blk ty_api_Token [(Ai u0), (Ai u1), (As u2), (Ai u3), (Ai u4)]), (nA0, .blk ty_token_scanner [(As u5), (Ai u6), (.own nA1)]), (nA1, .arr (ty_uint8 + 2) true 1 u7)]⟩)) : K_token_scanner_name_4 K .ret ⟨[(2, .ptr nL2 0), (3, (Ai t3))], [(nL2, .blk ty_api_Token [(Ai u0), (Ai u1), (As u2), (Ai u3), (Ai u4)]), (nA0, .blk ty_token_scanner [(As u5), (Ai u6), (.own nA1)]), (nA1, .arr (ty_uint8 + 2) true 1 u7)]⟩ := kr (by kernel_rfl) h
theorem K_token_scanner_name_4_x1 (K : KK) (u0 : LB) (u1 u2 u3 : Int) (u4 : LB) (u5 u6 : Int) (u7 : LL) (h :
 (C_token_scanner_name_16 u0 u1 u2 u3 u4 u5 u6 u7 (K_token_scanner_name_3 K))) : K_token_scanner_name_4 K .normal ⟨[(0, .ptr nA0 0), (2, .ptr nL2 0)], [(nA0, .blk ty_token_scanner [(As u0), (Ai u1), (.own nA1)]), (nL2, .blk ty_api_Token [(Ai u2), (Ai u3), (As u4), (Ai u5), (Ai u6)]), (nA1, .arr (ty_uint8 + 2) true 1 u7)]⟩ := kr (by kernel_rfl) h
theorem ok_token_scanner_name : FnOK E0.P 105 ac_token_scanner_name.code nt_token_scanner_name [.cell 2 95, .tmp 3] := fn_ok _ _ Try.f105 [(3, [0, 2, 4, 5], []), (5, [0, 2], []), (6, [0, 2, 4], [0, 2, 4, 5]), (12, [0, 2, 4], [0, 2]), (16, [0, 2], [0, 2, 4, 5]), (17, [0, 2], [])] [2, 3] _ 71 Try.func105 (by kernel_rfl) (by kernel_rfl) (by kernel_rfl) (by kernel_rfl)
theorem F_token_scanner_name_of (s : LB) (at_ : Int) (out : LL) (Q : QQ) (h :
 (Br (decide ((↑s.length : Int) ≤ IntKind.i64.wrap (at_ + (1 : Int))))
 (L_token_scanner_name_3 ((0 : Int)) false s (IntKind.i64.wrap (at_ + (1 : Int))) ((0 : Int)) ((0 : Int)) [] ((0 : Int)) ((0 : Int)) out (K_token_scanner_name_1 s at_ out Q))
 (Req ((0 : Int) ≤ IntKind.i64.wrap (at_ + (1 : Int)) ∧ IntKind.i64.wrap (at_ + (1 : Int)) < (↑s.length : Int))
 (L_token_scanner_name_3 ((↑(s.getD (IntKind.i64.wrap (at_ + (1 : Int))).toNat 0).toNat : Int)) true s (IntKind.i64.wrap (at_ + (1 : Int))) ((0 : Int)) ((0 : Int)) [] ((0 : Int)) ((0 : Int)) out (K_token_scanner_name_1 s at_ out Q))))) : Call E0.P fn_token_scanner_name [(.ptr (.arg 0) 0)] [(.arg 0, .blk ty_token_scanner [.imm (.str s), .imm (.int .i64 at_), .own (.arg 1)]), (.arg 1, .arr (ty_uint8 + 2) true 1 out)] Q := fun_rule (envN E0 nt_token_scanner_name) (okE nt_token_scanner_name) 3 0 105 ac_token_scanner_name [.cell 2 95, .tmp 3] ok_token_scanner_name _ _ Q rfl rfl (kr (by kernel_rfl) h)
noncomputable def ac_token_scanner_text : AC := (annot [(1, [0, 2, 4], []), (5, [0, 2, 4], []), (7, [2], []), (15, [2], []), (20, [0, 2, 4], []), (23, [0, 2, 4, 5], [0, 2, 4]), (30, [2], [])] [2, 3] (codeOf Try.f106) 0).1
abbrev nt_token_scanner_text : Nat := 107
def L_token_scanner_text_5 (t4 : Int) (u0 : LB) (u1 u2 u3 : Int) (u4 : LB) (u5 u6 : Int) (u7 : LL) (K : KK) : Prop := LoopOK 5 E0.P nt_token_scanner_text (lbodyOf 5 ac_token_scanner_text).code ⟨[(0, .ptr nA0 0), (2, .ptr nL2 0), (4, (Ai t4))], [(nA0, .blk ty_token_scanner [(As u0), (Ai u1), (.own nA1)]), (nL2, .blk ty_api_Token [(Ai u2), (Ai u3), (As u4), (Ai u5), (Ai u6)]), (nA1, .arr (ty_uint8 + 2) true 1 u7)]⟩ K
def C_token_scanner_text_23 (t4 t5 : Int) (u0 : LB) (u1 u2 u3 : Int) (u4 : LB) (u5 u6 : Int) (u7 : LL) (K : KK) : Prop := CutOK 23 E0.P nt_token_scanner_text (cbodyOf 23 ac_token_scanner_text).code ⟨[(0, .ptr nA0 0), (2, .ptr nL2 0), (4, (Ai t4)), (5, .imm (.int .u8 t5))], [(nA0, .blk ty_token_scanner [(As u0), (Ai u1), (.own nA1)]), (nL2, .blk ty_api_Token [(Ai u2), (Ai u3), (As u4), (Ai u5), (Ai u6)]), (nA1, .arr (ty_uint8 + 2) true 1 u7)]⟩ K
def C_token_scanner_text_30 (u0 u1 : Int) (u2 : LB) (u3 u4 : Int) (u5 : LB) (u6 : Int) (u7 : LL) (K : KK) : Prop := CutOK 30 E0.P nt_token_scanner_text (cbodyOf 30 ac_token_scanner_text).code ⟨[(2, .ptr nL2 0)], [(nL2, .blk ty_api_Token [(Ai u0), (Ai u1), (As u2), (Ai u3), (Ai u4)]), (nA0, .blk ty_token_scanner [(As u5), (Ai u6), (.own nA1)]), (nA1, .arr (ty_uint8 + 2) true 1 u7)]⟩ K
def K_token_scanner_text_0 (s : LB) (at_ : Int) (out : LL) (Q : QQ) : KK := kE fun st => finish 0 E0.T [.cell 2 95, .tmp 3] [(nA0, .blk ty_token_scanner [(As s), (Ai at_), (.own nA1)]), (nA1, .arr (ty_uint8 + 2) true 1 out)] Q st
def K_token_scanner_text_1 (s : LB) (at_ : Int) (out : LL) (Q : QQ) : Ex → St → Prop
 | .normal, st => finish 0 E0.T [.cell 2 95, .tmp 3] [(nA0, .blk ty_token_scanner [(As s), (Ai at_), (.own nA1)]), (nA1, .arr (ty_uint8 + 2) true 1 out)] Q st
 | .exit i, st => False
 | .goto i, st => ScopeOK 1 E0.P nt_token_scanner_text i (sbodyOf 1 ac_token_scanner_text).code (mask [0, 2, 4] st) (K_token_scanner_text_0 s at_ out Q)
 | .ret, st => finish 0 E0.T [.cell 2 95, .tmp 3] [(nA0, .blk ty_token_scanner [(As s), (Ai at_), (.own nA1)]), (nA1, .arr (ty_uint8 + 2) true 1 out)] Q st
def K_token_scanner_text_2 (s : LB) (at_ : Int) (out : LL) (Q : QQ) : Ex → St → Prop
 | .normal, st => CutOK 30 E0.P nt_token_scanner_text (cbodyOf 30 ac_token_scanner_text).code (mask [2] st) (K_token_scanner_text_1 s at_ out Q)
 | .exit i, st => (match (i.beq 0 : Bool) with
 | true => CutOK 30 E0.P nt_token_scanner_text (cbodyOf 30 ac_token_scanner_text).code (mask [2] st) (K_token_scanner_text_1 s at_ out Q)
 | false => False)
 | .goto i, st => ScopeOK 1 E0.P nt_token_scanner_text i (sbodyOf 1 ac_token_scanner_text).code (mask [0, 2, 4] st) (K_token_scanner_text_0 s at_ out Q)
 | .ret, st => finish 0 E0.T [.cell 2 95, .tmp 3] [(nA0, .blk ty_token_scanner [(As s), (Ai at_), (.own nA1)]), (nA1, .arr (ty_uint8 + 2) true 1 out)] Q st
def K_token_scanner_text_3 (K : KK) : KK := kC 1 (fun st => LoopOK 5 E0.P nt_token_scanner_text (lbodyOf 5 ac_token_scanner_text).code (mask [0, 2, 4] st) K) K
theorem L_token_scanner_text_5_of (t4 : Int) (u0 : LB) (u1 u2 u3 : Int) (u4 : LB) (u5 u6 : Int) (u7 : LL) (K : KK) (h :
 (Br (decide (u1 < (↑u0.length : Int)))
 (Req ((0 : Int) ≤ u1 ∧ u1 < (↑u0.length : Int))
 (Call E0.P fn_octet_Ends [(As u0), (Ai u1)] [] fun r0 g0 =>
 Req (qP7 g0 r0)
 (Br (decide ((0 : Int) < rI r0))
 (C_token_scanner_text_23 t4 ((10 : Int)) u0 (IntKind.i64.wrap (u1 + if rI r0 > (1 : Int) then rI r0 else (1 : Int))) u2 u3 u4 u5 u6 u7 (K_token_scanner_text_3 K))
 (Br (decide ((↑(u0.getD u1.toNat 0).toNat : Int) = (92 : Int)))
 (Call E0.P fn_token_scanner_escape [(.ptr nA0 0)] [(nA0, .blk ty_token_scanner [(As u0), (Ai (IntKind.i64.wrap (u1 + if rI r0 > (1 : Int) then rI r0 else (1 : Int)))), (.own nA1)]), (nA1, .arr (ty_uint8 + 2) true 1 u7)] fun r1 g1 =>
 Req (g1 =
 [(Nm.arg 0,
 Entry.blk 128
 [.imm (.str (rS ((blkOf g1 nA0).getD 0 AV.undef))),
 .imm (.int .i64 (rI ((blkOf g1 nA0).getD 1 AV.undef))),
 AV.own nA1]),
 (Nm.arg 1, Entry.arr 7 true 1 (arrRows g1 nA1))] ∧
 r1 = .imm (.bool (rB r1)))
 (Br (!rB r1)
 (K (.exit 0) ⟨[(2, .ptr nL2 0)], [(nL2, .blk ty_api_Token [(Ai u2), (Ai u3), (As u4), (Ai u5), (Ai u6)]), (nA0, .blk ty_token_scanner [(.imm (.str (rS ((blkOf g1 nA0).getD 0 AV.undef)))), (.imm (.int .i64 (rI ((blkOf g1 nA0).getD 1 AV.undef)))), (.own nA1)]), (nA1, .arr (ty_uint8 + 2) true 1 (arrRows g1 nA1))]⟩)
 (Br (decide ((65535 : Int) < (↑(arrRows g1 nA1).length : Int)))
 (K .ret ⟨[(2, .ptr nL2 0), (3, (Ai 8))], [(nL2, .blk ty_api_Token [(Ai 0), (Ai 0), (.imm (.str [])), (Ai 0), (Ai 0)]), (nA0, .blk ty_token_scanner [(.imm (.str (rS ((blkOf g1 nA0).getD 0 AV.undef)))), (.imm (.int .i64 (rI ((blkOf g1 nA0).getD 1 AV.undef)))), (.own nA1)]), (nA1, .arr (ty_uint8 + 2) true 1 (arrRows g1 nA1))]⟩)
 (L_token_scanner_text_5 t4 (rS ((blkOf g1 nA0).getD 0 AV.undef)) (rI ((blkOf g1 nA0).getD 1 AV.undef)) u2 u3 u4 u5 u6 (arrRows g1 nA1) K))))
 (Br (decide ((↑(u0.getD u1.toNat 0).toNat : Int) = (40 : Int)))
 (C_token_scanner_text_23 (IntKind.i64.wrap (t4 + (1 : Int))) ((↑(u0.getD u1.toNat 0).toNat : Int)) u0 (IntKind.i64.wrap (u1 + if rI r0 > (1 : Int) then rI r0 else (1 : Int))) u2 u3 u4 u5 u6 u7 (K_token_scanner_text_3 K))
 (Br (decide ((↑(u0.getD u1.toNat 0).toNat : Int) = (41 : Int)))
 (C_token_scanner_text_23 (IntKind.i64.wrap (t4 - (1 : Int))) ((↑(u0.getD u1.toNat 0).toNat : Int)) u0 (IntKind.i64.wrap (u1 + if rI r0 > (1 : Int) then rI r0 else (1 : Int))) u2 u3 u4 u5 u6 u7 (K_token_scanner_text_3 K))
 (C_token_scanner_text_23 t4 ((↑(u0.getD u1.toNat 0).toNat : Int)) u0 (IntKind.i64.wrap (u1 + if rI r0 > (1 : Int) then rI r0 else (1 : Int))) u2 u3 u4 u5 u6 u7 (K_token_scanner_text_3 K))))))))
 (K (.exit 0) ⟨[(2, .ptr nL2 0)], [(nL2, .blk ty_api_Token [(Ai u2), (Ai u3), (As u4), (Ai u5), (Ai u6)]), (nA0, .blk ty_token_scanner [(As u0), (Ai u1), (.own nA1)]), (nA1, .arr (ty_uint8 + 2) true 1 u7)]⟩))) : L_token_scanner_text_5 t4 u0 u1 u2 u3 u4 u5 u6 u7 K := loop_rule (envN E0 nt_token_scanner_text) (okE nt_token_scanner_text) 3 5 (lbodyOf 5 ac_token_scanner_text) [0, 2, 4] _ K rfl (kr (by kernel_rfl) h)
theorem C_token_scanner_text_23_of (t4 t5 : Int) (u0 : LB) (u1 u2 u3 : Int) (u4 : LB) (u5 u6 : Int) (u7 : LL) (K : KK) (h :
 (Br (decide (t4 = (0 : Int)))
 (Req (∀ (r : List IV), r ∈ u7 → shOK [.int .u8] r = true)
 (K .ret ⟨[(2, .ptr nL2 0), (3, (Ai 0))], [(nL2, .blk ty_api_Token [(Ai 3), (Ai 0), (As (List.map (fun r => UInt8.ofNat (gI r 0).toNat) u7)), (Ai 0), (Ai 0)]), (nA0, .blk ty_token_scanner [(As u0), (Ai u1), (.own nA1)]), (nA1, .arr (ty_uint8 + 2) true 1 u7)]⟩))
 (Req ((u7.length + 1) * 1 ≤ 140737488355328 ∧ u7.length + 1 ≤ 140737488355328)
 (Br (decide ((65535 : Int) < (↑(u7 ++ [[IV.int .u8 t5]]).length : Int)))
 (K .ret ⟨[(2, .ptr nL2 0), (3, (Ai 8))], [(nL2, .blk ty_api_Token [(Ai 0), (Ai 0), (.imm (.str [])), (Ai 0), (Ai 0)]), (nA0, .blk ty_token_scanner [(As u0), (Ai u1), (.own nA1)]), (nA1, .arr (ty_uint8 + 2) true 1 (u7 ++ [[IV.int .u8 t5]]))]⟩)
 (K .normal ⟨[(0, .ptr nA0 0), (2, .ptr nL2 0), (4, (Ai t4))], [(nA0, .blk ty_token_scanner [(As u0), (Ai u1), (.own nA1)]), (nL2, .blk ty_api_Token [(Ai u2), (Ai u3), (As u4), (Ai u5), (Ai u6)]), (nA1, .arr (ty_uint8 + 2) true 1 (u7 ++ [[IV.int .u8 t5]]))]⟩))))) : C_token_scanner_text_23 t4 t5 u0 u1 u2 u3 u4 u5 u6 u7 K := cut_rule (envN E0 nt_token_scanner_text) (okE nt_token_scanner_text) 3 23 (cbodyOf 23 ac_token_scanner_text) [0, 2, 4] _ K rfl (kr (by kernel_rfl) h)
theorem C_token_scanner_text_30_of (u0 u1 : Int) (u2 : LB) (u3 u4 : Int) (u5 : LB) (u6 : Int) (u7 : LL) (K : KK) (h :
 (K .ret ⟨[(2, .ptr nL2 0), (3, (Ai 5))], [(nL2, .blk ty_api_Token [(Ai 0), (Ai 0), (.imm (.str [])), (Ai 0), (Ai 0)]), (nA0, .blk ty_token_scanner [(As u5), (Ai u6), (.own nA1)]), (nA1, .arr (ty_uint8 + 2) true 1 u7)]⟩)) : C_token_scanner_text_30 u0 u1 u2 u3 u4 u5 u6 u7 K := cut_rule (envN E0 nt_token_scanner_text) (okE nt_token_scanner_text) 3 30 (cbodyOf 30 ac_token_scanner_text) [] _ K rfl (kr (by kernel_rfl) h)
theorem K_token_scanner_text_1_x0 (s : LB) (at_ : Int) (out : LL) (Q : QQ) (t3 u0 u1 : Int) (u2 : LB) (u3 u4 : Int) (u5 : LB) (u6 : Int) (u7 : LL) (h :
 (Q (.tup [(.imm (.agg [(.int .i64 u0), (.int .i64 u1), (.str u2), (.int .i64 u3), (.int .i64 u4)])), (Ai t3)]) [(nA0, .blk ty_token_scanner [(As u5), (Ai u6), (.own nA1)]), (nA1, .arr (ty_uint8 + 2) true 1 u7)])) : K_token_scanner_text_1 s at_ out Q .ret ⟨[(2, .ptr nL2 0), (3, (Ai t3))], [(nL2, .blk ty_api_Token [(Ai u0), (Ai u1), (As u2), (Ai u3), (Ai u4)]), (nA0, .blk ty_token_scanner [(As u5), (Ai u6), (.own nA1)]), (nA1, .arr (ty_uint8 + 2) true 1 u7)]⟩ := kr (by kernel_rfl) h
theorem K_token_scanner_text_2_x0 (s : LB) (at_ : Int) (out : LL) (Q : QQ) (u0 u1 : Int) (u2 : LB) (u3 u4 : Int) (u5 : LB) (u6 : Int) (u7 : LL) (h :
 (C_token_scanner_text_30 u0 u1 u2 u3 u4 u5 u6 u7 (K_token_scanner_text_1 s at_ out Q))) : K_token_scanner_text_2 s at_ out Q (.exit 0) ⟨[(2, .ptr nL2 0)], [(nL2, .blk ty_api_Token [(Ai u0), (Ai u1), (As u2), (Ai u3), (Ai u4)]), (nA0, .blk ty_token_scanner [(As u5), (Ai u6), (.own nA1)]), (nA1, .arr (ty_uint8 + 2) true 1 u7)]⟩ := kr (by kernel_rfl) h
theorem K_token_scanner_text_2_x1 (s : LB) (at_ : Int) (out : LL) (Q : QQ) (t3 u0 u1 : Int) (u2 : LB) (u3 u4 : Int) (u5 : LB) (u6 : Int) (u7 : LL) (h :
 (Q (.tup [(.imm (.agg [(.int .i64 u0), (.int .i64 u1), (.str u2), (.int .i64 u3), (.int .i64 u4)])), (Ai t3)]) [(nA0, .blk ty_token_scanner [(As u5), (Ai u6), (.own nA1)]), (nA1, .arr (ty_uint8 + 2) true 1 u7)])) : K_token_scanner_text_2 s at_ out Q .ret ⟨[(2, .ptr nL2 0), (3, (Ai t3))], [(nL2, .blk ty_api_Token [(Ai u0), (Ai u1), (As u2), (Ai u3), (Ai u4)]), (nA0, .blk ty_token_scanner [(As u5), (Ai u6), (.own nA1)]), (nA1, .arr (ty_uint8 + 2) true 1 u7)]⟩ := kr (by kernel_rfl) h
theorem K_token_scanner_text_3_x0 (K : KK) (t3 u0 u1 : Int) (u2 : LB) (u3 u4 : Int) (u5 : LB) (u6 : Int) (u7 : LL) (h :
 (K .ret ⟨[(2, .ptr nL2 0), (3, (Ai t3))], [(nL2, .blk ty_api_Token [(Ai u0), (Ai u1), (As u2), (Ai u3), (Ai u4)]), (nA0, .blk ty_token_scanner [(As u5), (Ai u6), (.own nA1)]), (nA1, .arr (ty_uint8 + 2) true 1 u7)]⟩)) : K_token_scanner_text_3 K .ret ⟨[(2, .ptr nL2 0), (3, (Ai t3))], [(nL2, .blk ty_api_Token [(Ai u0), (Ai u1), (As u2), (Ai u3), (Ai u4)]), (nA0, .blk ty_token_scanner [(As u5), (Ai u6), (.own nA1)]), (nA1, .arr (ty_uint8 + 2) true 1 u7)]⟩ := kr (by kernel_rfl) h
theorem K_token_scanner_text_3_x1 (K : KK) (t4 : Int) (u0 : LB) (u1 u2 u3 : Int) (u4 : LB) (u5 u6 : Int) (u7 : LL) (h :
 (L_token_scanner_text_5 t4 u0 u1 u2 u3 u4 u5 u6 u7 K)) : K_token_scanner_text_3 K .normal ⟨[(0, .ptr nA0 0), (2, .ptr nL2 0), (4, (Ai t4))], [(nA0, .blk ty_token_scanner [(As u0), (Ai u1), (.own nA1)]), (nL2, .blk ty_api_Token [(Ai u2), (Ai u3), (As u4), (Ai u5), (Ai u6)]), (nA1, .arr (ty_uint8 + 2) true 1 u7)]⟩ := kr (by kernel_rfl) h
theorem ok_token_scanner_text : FnOK E0.P 106 ac_token_scanner_text.code nt_token_scanner_text [.cell 2 95, .tmp 3] := fn_ok _ _ Try.f106 [(1, [0, 2, 4], []), (5, [0, 2, 4], []), (7, [2], []), (15, [2], []), (20, [0, 2, 4], []), (23, [0, 2, 4, 5], [0, 2, 4]), (30, [2], [])] [2, 3] _ 107 Try.func106 (by kernel_rfl) (by kernel_rfl) (by kernel_rfl) (by kernel_rfl)
theorem F_token_scanner_text_of (s : LB) (at_ : Int) (out : LL) (Q : QQ) (h :
 (L_token_scanner_text_5 ((1 : Int)) s (IntKind.i64.wrap (at_ + (1 : Int))) ((0 : Int)) ((0 : Int)) [] ((0 : Int)) ((0 : Int)) out (K_token_scanner_text_2 s at_ out Q))) : Call E0.P fn_token_scanner_text [(.ptr (.arg 0) 0)] [(.arg 0, .blk ty_token_scanner [.imm (.str s), .imm (.int .i64 at_), .own (.arg 1)]), (.arg 1, .arr (ty_uint8 + 2) true 1 out)] Q := fun_rule (envN E0 nt_token_scanner_text) (okE nt_token_scanner_text) 3 0 106 ac_token_scanner_text [.cell 2 95, .tmp 3] ok_token_scanner_text _ _ Q rfl rfl (kr (by kernel_rfl) h)
noncomputable def ac_token_scanner_hex : AC := (annot [(5, [1, 2, 4, 5, 6, 7], []), (7, [2], []), (19, [1, 2, 4, 5], [1, 2, 4, 5]), (22, [1, 2, 4, 5], [1, 2, 4, 5, 6, 7]), (23, [2], [])] [2, 3] (codeOf Try.f108) 0).1
abbrev nt_token_scanner_hex : Nat := 75
def L_token_scanner_hex_5 (t6 : Int) (t7 : Bool) (u0 u1 : Int) (u2 : LB) (u3 u4 u5 : Int) (u6 : LB) (u7 : Int) (u8 : LL) (K : KK) : Prop := LoopOK 5 E0.P nt_token_scanner_hex (lbodyOf 5 ac_token_scanner_hex).code ⟨[(1, .ptr nL1 0), (2, .ptr nL2 0), (4, .ptr nL4 0), (5, .fn fn_token_scanner_hex_1 [(.ptr nL4 0), (.ptr nL1 0)]), (6, .imm (.int .u8 t6)), (7, (Ab t7))], [(nL1, .blk 126 [(.ptr nA0 0)]), (nL2, .blk ty_api_Token [(Ai u0), (Ai u1), (As u2), (Ai u3), (Ai u4)]), (nL4, .blk ty_int [(Ai u5)]), (nA0, .blk ty_token_scanner [(As u6), (Ai u7), (.own nA1)]), (nA1, .arr (ty_uint8 + 2) true 1 u8)]⟩ K
def C_token_scanner_hex_19 (u0 u1 : Int) (u2 : LB) (u3 u4 u5 : Int) (u6 : LB) (u7 : Int) (u8 : LL) (K : KK) : Prop := CutOK 19 E0.P nt_token_scanner_hex (cbodyOf 19 ac_token_scanner_hex).code ⟨[(1, .ptr nL1 0), (2, .ptr nL2 0), (4, .ptr nL4 0), (5, .fn fn_token_scanner_hex_1 [(.ptr nL4 0), (.ptr nL1 0)])], [(nL1, .blk 126 [(.ptr nA0 0)]), (nL2, .blk ty_api_Token [(Ai u0), (Ai u1), (As u2), (Ai u3), (Ai u4)]), (nL4, .blk ty_int [(Ai u5)]), (nA0, .blk ty_token_scanner [(As u6), (Ai u7), (.own nA1)]), (nA1, .arr (ty_uint8 + 2) true 1 u8)]⟩ K
def C_token_scanner_hex_23 (u0 u1 : Int) (u2 : LB) (u3 u4 : Int) (u5 : LB) (u6 : Int) (u7 : LL) (K : KK) : Prop := CutOK 23 E0.P nt_token_scanner_hex (cbodyOf 23 ac_token_scanner_hex).code ⟨[(2, .ptr nL2 0)], [(nL2, .blk ty_api_Token [(Ai u0), (Ai u1), (As u2), (Ai u3), (Ai u4)]), (nA0, .blk ty_token_scanner [(As u5), (Ai u6), (.own nA1)]), (nA1, .arr (ty_uint8 + 2) true 1 u7)]⟩ K
def C_token_scanner_hex_22 (u0 u1 : Int) (u2 : LB) (u3 u4 u5 : Int) (u6 : LB) (u7 : Int) (u8 : LL) (K : KK) : Prop := CutOK 22 E0.P nt_token_scanner_hex (cbodyOf 22 ac_token_scanner_hex).code ⟨[(1, .ptr nL1 0), (2, .ptr nL2 0), (4, .ptr nL4 0), (5, .fn fn_token_scanner_hex_1 [(.ptr nL4 0), (.ptr nL1 0)])], [(nL1, .blk 126 [(.ptr nA0 0)]), (nL2, .blk ty_api_Token [(Ai u0), (Ai u1), (As u2), (Ai u3), (Ai u4)]), (nL4, .blk ty_int [(Ai u5)]), (nA0, .blk ty_token_scanner [(As u6), (Ai u7), (.own nA1)]), (nA1, .arr (ty_uint8 + 2) true 1 u8)]⟩ K
def K_token_scanner_hex_0 (s : LB) (at_ : Int) (out : LL) (Q : QQ) : KK := kE fun st => finish 0 E0.T [.cell 2 95, .tmp 3] [(nA0, .blk ty_token_scanner [(As s), (Ai at_), (.own nA1)]), (nA1, .arr (ty_uint8 + 2) true 1 out)] Q st
def K_token_scanner_hex_1 (s : LB) (at_ : Int) (out : LL) (Q : QQ) : KK := kF 0 (fun st => CutOK 23 E0.P nt_token_scanner_hex (cbodyOf 23 ac_token_scanner_hex).code (mask [2] st) (K_token_scanner_hex_0 s at_ out Q)) fun st => finish 0 E0.T [.cell 2 95, .tmp 3] [(nA0, .blk ty_token_scanner [(As s), (Ai at_), (.own nA1)]), (nA1, .arr (ty_uint8 + 2) true 1 out)] Q st
def K_token_scanner_hex_2 (K : KK) : Ex → St → Prop
 | .normal, st => LoopOK 5 E0.P nt_token_scanner_hex (lbodyOf 5 ac_token_scanner_hex).code (mask [1, 2, 4, 5, 6, 7] st) K
 | .exit i, st => K (.exit i) st
 | .goto i, st => K (.goto i) st
 | .ret, st => K .ret st
def K_token_scanner_hex_3 (K : KK) : KK := kC 1 (fun st => CutOK 22 E0.P nt_token_scanner_hex (cbodyOf 22 ac_token_scanner_hex).code (mask [1, 2, 4, 5] st) (K_token_scanner_hex_2 K)) K
theorem L_token_scanner_hex_5_of (t6 : Int) (t7 : Bool) (u0 u1 : Int) (u2 : LB) (u3 u4 u5 : Int) (u6 : LB) (u7 : Int) (u8 : LL) (K : KK) (h :
 (Br (t7)
 (Call E0.P fn_octet_Hex [(.imm (.int .u8 t6))] [] fun r0 g0 =>
 Req (qP7 g0 r0)
 (Br (decide (t6 = (62 : Int)))
 (Br (decide ((65535 : Int) < (↑u8.length : Int)))
 (K .ret ⟨[(2, .ptr nL2 0), (3, (Ai 8))], [(nL2, .blk ty_api_Token [(Ai 0), (Ai 0), (.imm (.str [])), (Ai 0), (Ai 0)]), (nA0, .blk ty_token_scanner [(As u6), (Ai (IntKind.i64.wrap (u7 + (1 : Int)))), (.own nA1)]), (nA1, .arr (ty_uint8 + 2) true 1 u8)]⟩)
 (Req (∀ (r : List IV), r ∈ u8 → shOK [.int .u8] r = true)
 (K .ret ⟨[(2, .ptr nL2 0), (3, (Ai 0))], [(nL2, .blk ty_api_Token [(Ai 3), (Ai 0), (As (List.map (fun r => UInt8.ofNat (gI r 0).toNat) u8)), (Ai 0), (Ai 0)]), (nA0, .blk ty_token_scanner [(As u6), (Ai (IntKind.i64.wrap (u7 + (1 : Int)))), (.own nA1)]), (nA1, .arr (ty_uint8 + 2) true 1 u8)]⟩)))
 (Br (decide ((0 : Int) ≤ rI r0))
 (Req ((2 : Int) ≠ (0 : Int))
 (Br (decide ((IntKind.i64.wrap (u5 + (1 : Int))).tmod (2 : Int) = (1 : Int)))
 (Req ((0 : Int) ≤ (4 : Int))
 ((Req ((u8.length + 1) * 1 ≤ 140737488355328 ∧ u8.length + 1 ≤ 140737488355328)
 (C_token_scanner_hex_19 u0 u1 u2 u3 u4 (IntKind.i64.wrap (u5 + (1 : Int))) u6 (IntKind.i64.wrap (u7 + (1 : Int))) (u8 ++ [[IV.int .u8 (IntKind.u8.wrap (IntKind.i64.wrap (rI r0 * (2 : Int) ^ 4)))]]) (K_token_scanner_hex_3 K))) ∧
 ((Req ((u8.length + 1) * 1 ≤ 140737488355328 ∧ u8.length + 1 ≤ 140737488355328)
 (C_token_scanner_hex_19 u0 u1 u2 u3 u4 (IntKind.i64.wrap (u5 + (1 : Int))) u6 (IntKind.i64.wrap (u7 + (1 : Int))) (u8 ++ [[IV.int .u8 (IntKind.u8.wrap (IntKind.i64.wrap (rI r0 * (2 : Int) ^ 4)))]]) (K_token_scanner_hex_3 K))) ∧
 (Req ((u8.length + 1) * 1 ≤ 140737488355328 ∧ u8.length + 1 ≤ 140737488355328)
 (C_token_scanner_hex_19 u0 u1 u2 u3 u4 (IntKind.i64.wrap (u5 + (1 : Int))) u6 (IntKind.i64.wrap (u7 + (1 : Int))) (u8 ++ [[IV.int .u8 (IntKind.u8.wrap (IntKind.i64.wrap (rI r0 * (2 : Int) ^ 4)))]]) (K_token_scanner_hex_3 K))))))
 (Req ((0 : Int) ≤ IntKind.i64.wrap ((↑u8.length : Int) - (1 : Int)) ∧
 IntKind.i64.wrap ((↑u8.length : Int) - (1 : Int)) < (↑u8.length : Int))
 (Req ((IntKind.i64.wrap ((↑u8.length : Int) - (1 : Int))).toNat < u8.length ∧
 shOK [.int .u8]
 (List.take 1
 (List.drop 0 (u8.getD (IntKind.i64.wrap ((↑u8.length : Int) - (1 : Int))).toNat []))) =
 true)
 (Req ((0 : Int) ≤ IntKind.i64.wrap ((↑u8.length : Int) - (1 : Int)) ∧
 IntKind.i64.wrap ((↑u8.length : Int) - (1 : Int)) < (↑u8.length : Int))
 (Req ((IntKind.i64.wrap ((↑u8.length : Int) - (1 : Int))).toNat < u8.length)
 (C_token_scanner_hex_19 u0 u1 u2 u3 u4 (IntKind.i64.wrap (u5 + (1 : Int))) u6 (IntKind.i64.wrap (u7 + (1 : Int))) (u8.set (IntKind.i64.wrap ((↑u8.length : Int) - (1 : Int))).toNat
 [.int .u8
 (IntKind.u8.wrap
 (↑(BitVec.ofInt (8 : Nat)
 (gI
 (List.take (1 : Nat)
 (List.drop (0 : Nat) (u8.getD (IntKind.i64.wrap ((↑u8.length : Int) - (1 : Int))).toNat [])))
 (0 : Nat)) |||
 BitVec.ofInt (8 : Nat) (IntKind.u8.wrap (rI r0))).toNat :
 Int))]) (K_token_scanner_hex_3 K))))))))
 (Call E0.P fn_octet_Kind [(.imm (.int .u8 t6))] [] fun r1 g1 =>
 Req (qP7 g1 r1)
 (Br (!decide (rI r1 = (0 : Int)))
 (K .ret ⟨[(2, .ptr nL2 0), (3, (Ai 4))], [(nL2, .blk ty_api_Token [(Ai 0), (Ai 0), (.imm (.str [])), (Ai 0), (Ai 0)]), (nA0, .blk ty_token_scanner [(As u6), (Ai (IntKind.i64.wrap (u7 + (1 : Int)))), (.own nA1)]), (nA1, .arr (ty_uint8 + 2) true 1 u8)]⟩)
 (C_token_scanner_hex_19 u0 u1 u2 u3 u4 u5 u6 (IntKind.i64.wrap (u7 + (1 : Int))) u8 (K_token_scanner_hex_3 K)))))))
 (K (.exit 0) ⟨[(2, .ptr nL2 0)], [(nL2, .blk ty_api_Token [(Ai u0), (Ai u1), (As u2), (Ai u3), (Ai u4)]), (nA0, .blk ty_token_scanner [(As u6), (Ai u7), (.own nA1)]), (nA1, .arr (ty_uint8 + 2) true 1 u8)]⟩))) : L_token_scanner_hex_5 t6 t7 u0 u1 u2 u3 u4 u5 u6 u7 u8 K := loop_rule (envN E0 nt_token_scanner_hex) (okE nt_token_scanner_hex) 3 5 (lbodyOf 5 ac_token_scanner_hex) [1, 2, 4, 5, 6, 7] _ K rfl (kr (by kernel_rfl) h)
theorem C_token_scanner_hex_19_of (u0 u1 : Int) (u2 : LB) (u3 u4 u5 : Int) (u6 : LB) (u7 : Int) (u8 : LL) (K : KK) (h :
 (Req ((2 : Int) ≠ (0 : Int))
 (Br (decide ((65535 : Int) < IntKind.i64.wrap (u5.tdiv (2 : Int))))
 (K .ret ⟨[(2, .ptr nL2 0), (3, (Ai 8))], [(nL2, .blk ty_api_Token [(Ai 0), (Ai 0), (.imm (.str [])), (Ai 0), (Ai 0)]), (nA0, .blk ty_token_scanner [(As u6), (Ai u7), (.own nA1)]), (nA1, .arr (ty_uint8 + 2) true 1 u8)]⟩)
 (K .normal ⟨[(1, .ptr nL1 0), (2, .ptr nL2 0), (4, .ptr nL4 0), (5, .fn fn_token_scanner_hex_1 [(.ptr nL4 0), (.ptr nL1 0)])], [(nL1, .blk 126 [(.ptr nA0 0)]), (nL2, .blk ty_api_Token [(Ai u0), (Ai u1), (As u2), (Ai u3), (Ai u4)]), (nL4, .blk ty_int [(Ai u5)]), (nA0, .blk ty_token_scanner [(As u6), (Ai u7), (.own nA1)]), (nA1, .arr (ty_uint8 + 2) true 1 u8)]⟩)))) : C_token_scanner_hex_19 u0 u1 u2 u3 u4 u5 u6 u7 u8 K := cut_rule (envN E0 nt_token_scanner_hex) (okE nt_token_scanner_hex) 3 19 (cbodyOf 19 ac_token_scanner_hex) [1, 2, 4, 5] _ K rfl (kr (by kernel_rfl) h)
theorem C_token_scanner_hex_23_of (u0 u1 : Int) (u2 : LB) (u3 u4 : Int) (u5 : LB) (u6 : Int) (u7 : LL) (K : KK) (h :
 (K .ret ⟨[(2, .ptr nL2 0), (3, (Ai 5))], [(nL2, .blk ty_api_Token [(Ai 0), (Ai 0), (.imm (.str [])), (Ai 0), (Ai 0)]), (nA0, .blk ty_token_scanner [(As u5), (Ai u6), (.own nA1)]), (nA1, .arr (ty_uint8 + 2) true 1 u7)]⟩)) : C_token_scanner_hex_23 u0 u1 u2 u3 u4 u5 u6 u7 K := cut_rule (envN E0 nt_token_scanner_hex) (okE nt_token_scanner_hex) 3 23 (cbodyOf 23 ac_token_scanner_hex) [] _ K rfl (kr (by kernel_rfl) h)
theorem C_token_scanner_hex_22_of (u0 u1 : Int) (u2 : LB) (u3 u4 u5 : Int) (u6 : LB) (u7 : Int) (u8 : LL) (K : KK) (h :
 (Br (decide ((↑u6.length : Int) ≤ u7))
 (K .normal ⟨[(1, .ptr nL1 0), (2, .ptr nL2 0), (4, .ptr nL4 0), (5, .fn fn_token_scanner_hex_1 [(.ptr nL4 0), (.ptr nL1 0)]), (6, .imm (.int .u8 ((0 : Int)))), (7, (Ab false))], [(nL1, .blk 126 [(.ptr nA0 0)]), (nL2, .blk ty_api_Token [(Ai u0), (Ai u1), (As u2), (Ai u3), (Ai u4)]), (nL4, .blk ty_int [(Ai u5)]), (nA0, .blk ty_token_scanner [(As u6), (Ai u7), (.own nA1)]), (nA1, .arr (ty_uint8 + 2) true 1 u8)]⟩)
 (Req ((0 : Int) ≤ u7 ∧ u7 < (↑u6.length : Int))
 (K .normal ⟨[(1, .ptr nL1 0), (2, .ptr nL2 0), (4, .ptr nL4 0), (5, .fn fn_token_scanner_hex_1 [(.ptr nL4 0), (.ptr nL1 0)]), (6, .imm (.int .u8 ((↑(u6.getD u7.toNat 0).toNat : Int)))), (7, (Ab true))], [(nL1, .blk 126 [(.ptr nA0 0)]), (nL2, .blk ty_api_Token [(Ai u0), (Ai u1), (As u2), (Ai u3), (Ai u4)]), (nL4, .blk ty_int [(Ai u5)]), (nA0, .blk ty_token_scanner [(As u6), (Ai u7), (.own nA1)]), (nA1, .arr (ty_uint8 + 2) true 1 u8)]⟩)))) : C_token_scanner_hex_22 u0 u1 u2 u3 u4 u5 u6 u7 u8 K := cut_rule (envN E0 nt_token_scanner_hex) (okE nt_token_scanner_hex) 3 22 (cbodyOf 22 ac_token_scanner_hex) [1, 2, 4, 5, 6, 7] _ K rfl (kr (by kernel_rfl) h)
theorem K_token_scanner_hex_0_x0 (s : LB) (at_ : Int) (out : LL) (Q : QQ) (t3 u0 u1 : Int) (u2 : LB) (u3 u4 : Int) (u5 : LB) (u6 : Int) (u7 : LL) (h :
 (Q (.tup [(.imm (.agg [(.int .i64 u0), (.int .i64 u1), (.str u2), (.int .i64 u3), (.int .i64 u4)])), (Ai t3)]) [(nA0, .blk ty_token_scanner [(As u5), (Ai u6), (.own nA1)]), (nA1, .arr (ty_uint8 + 2) true 1 u7)])) : K_token_scanner_hex_0 s at_ out Q .ret ⟨[(2, .ptr nL2 0), (3, (Ai t3))], [(nL2, .blk ty_api_Token [(Ai u0), (Ai u1), (As u2), (Ai u3), (Ai u4)]), (nA0, .blk ty_token_scanner [(As u5), (Ai u6), (.own nA1)]), (nA1, .arr (ty_uint8 + 2) true 1 u7)]⟩ := kr (by kernel_rfl) h
theorem K_token_scanner_hex_1_x0 (s : LB) (at_ : Int) (out : LL) (Q : QQ) (t3 u0 u1 : Int) (u2 : LB) (u3 u4 : Int) (u5 : LB) (u6 : Int) (u7 : LL) (h :
 (Q (.tup [(.imm (.agg [(.int .i64 u0), (.int .i64 u1), (.str u2), (.int .i64 u3), (.int .i64 u4)])), (Ai t3)]) [(nA0, .blk ty_token_scanner [(As u5), (Ai u6), (.own nA1)]), (nA1, .arr (ty_uint8 + 2) true 1 u7)])) : K_token_scanner_hex_1 s at_ out Q .ret ⟨[(2, .ptr nL2 0), (3, (Ai t3))], [(nL2, .blk ty_api_Token [(Ai u0), (Ai u1), (As u2), (Ai u3), (Ai u4)]), (nA0, .blk ty_token_scanner [(As u5), (Ai u6), (.own nA1)]), (nA1, .arr (ty_uint8 + 2) true 1 u7)]⟩ := kr (by kernel_rfl) h
theorem K_token_scanner_hex_1_x1 (s : LB) (at_ : Int) (out : LL) (Q : QQ) (u0 u1 : Int) (u2 : LB) (u3 u4 : Int) (u5 : LB) (u6 : Int) (u7 : LL) (h :
 (C_token_scanner_hex_23 u0 u1 u2 u3 u4 u5 u6 u7 (K_token_scanner_hex_0 s at_ out Q))) : K_token_scanner_hex_1 s at_ out Q (.exit 0) ⟨[(2, .ptr nL2 0)], [(nL2, .blk ty_api_Token [(Ai u0), (Ai u1), (As u2), (Ai u3), (Ai u4)]), (nA0, .blk ty_token_scanner [(As u5), (Ai u6), (.own nA1)]), (nA1, .arr (ty_uint8 + 2) true 1 u7)]⟩ := kr (by kernel_rfl) h
theorem K_token_scanner_hex_2_x0 (K : KK) (t6 : Int) (t7 : Bool) (u0 u1 : Int) (u2 : LB) (u3 u4 u5 : Int) (u6 : LB) (u7 : Int) (u8 : LL) (h :
 (L_token_scanner_hex_5 t6 t7 u0 u1 u2 u3 u4 u5 u6 u7 u8 K)) : K_token_scanner_hex_2 K .normal ⟨[(1, .ptr nL1 0), (2, .ptr nL2 0), (4, .ptr nL4 0), (5, .fn fn_token_scanner_hex_1 [(.ptr nL4 0), (.ptr nL1 0)]), (6, .imm (.int .u8 t6)), (7, (Ab t7))], [(nL1, .blk 126 [(.ptr nA0 0)]), (nL2, .blk ty_api_Token [(Ai u0), (Ai u1), (As u2), (Ai u3), (Ai u4)]), (nL4, .blk ty_int [(Ai u5)]), (nA0, .blk ty_token_scanner [(As u6), (Ai u7), (.own nA1)]), (nA1, .arr (ty_uint8 + 2) true 1 u8)]⟩ := kr (by kernel_rfl) h
theorem K_token_scanner_hex_3_x1 (K : KK) (u0 u1 : Int) (u2 : LB) (u3 u4 u5 : Int) (u6 : LB) (u7 : Int) (u8 : LL) (h :
 (C_token_scanner_hex_22 u0 u1 u2 u3 u4 u5 u6 u7 u8 (K_token_scanner_hex_2 K))) : K_token_scanner_hex_3 K .normal ⟨[(1, .ptr nL1 0), (2, .ptr nL2 0), (4, .ptr nL4 0), (5, .fn fn_token_scanner_hex_1 [(.ptr nL4 0), (.ptr nL1 0)])], [(nL1, .blk 126 [(.ptr nA0 0)]), (nL2, .blk ty_api_Token [(Ai u0), (Ai u1), (As u2), (Ai u3), (Ai u4)]), (nL4, .blk ty_int [(Ai u5)]), (nA0, .blk ty_token_scanner [(As u6), (Ai u7), (.own nA1)]), (nA1, .arr (ty_uint8 + 2) true 1 u8)]⟩ := kr (by kernel_rfl) h
theorem ok_token_scanner_hex : FnOK E0.P 108 ac_token_scanner_hex.code nt_token_scanner_hex [.cell 2 95, .tmp 3] := fn_ok _ _ Try.f108 [(5, [1, 2, 4, 5, 6, 7], []), (7, [2], []), (19, [1, 2, 4, 5], [1, 2, 4, 5]), (22, [1, 2, 4, 5], [1, 2, 4, 5, 6, 7]), (23, [2], [])] [2, 3] _ 75 Try.func108 (by kernel_rfl) (by kernel_rfl) (by kernel_rfl) (by kernel_rfl)
theorem F_token_scanner_hex_of (s : LB) (at_ : Int) (out : LL) (Q : QQ) (h :
 (Br (decide ((↑s.length : Int) ≤ IntKind.i64.wrap (at_ + (1 : Int))))
 (L_token_scanner_hex_5 ((0 : Int)) false ((0 : Int)) ((0 : Int)) [] ((0 : Int)) ((0 : Int)) ((0 : Int)) s (IntKind.i64.wrap (at_ + (1 : Int))) out (K_token_scanner_hex_1 s at_ out Q))
 (Req ((0 : Int) ≤ IntKind.i64.wrap (at_ + (1 : Int)) ∧ IntKind.i64.wrap (at_ + (1 : Int)) < (↑s.length : Int))
 (L_token_scanner_hex_5 ((↑(s.getD (IntKind.i64.wrap (at_ + (1 : Int))).toNat 0).toNat : Int)) true ((0 : Int)) ((0 : Int)) [] ((0 : Int)) ((0 : Int)) ((0 : Int)) s (IntKind.i64.wrap (at_ + (1 : Int))) out (K_token_scanner_hex_1 s at_ out Q))))) : Call E0.P fn_token_scanner_hex [(.ptr (.arg 0) 0)] [(.arg 0, .blk ty_token_scanner [.imm (.str s), .imm (.int .i64 at_), .own (.arg 1)]), (.arg 1, .arr (ty_uint8 + 2) true 1 out)] Q := fun_rule (envN E0 nt_token_scanner_hex) (okE nt_token_scanner_hex) 3 0 108 ac_token_scanner_hex [.cell 2 95, .tmp 3] ok_token_scanner_hex _ _ Q rfl rfl (kr (by kernel_rfl) h)
noncomputable def ac_token_scanner_word : AC := (annot [] [2, 3] (codeOf Try.f109) 0).1
abbrev nt_token_scanner_word : Nat := 66
theorem ok_token_scanner_word : FnOK E0.P 109 ac_token_scanner_word.code nt_token_scanner_word [.cell 2 95, .tmp 3] := fn_ok _ _ Try.f109 [] [2, 3] _ 66 Try.func109 (by kernel_rfl) (by kernel_rfl) (by kernel_rfl) (by kernel_rfl)
theorem F_token_scanner_word_of (s : LB) (at_ : Int) (out : LL) (Q : QQ) (h :
 (Call E0.P fn_octet_Span [(As s), (Ai at_), (.imm (.sl .any 1 [[IV.int .i64 (2 : Int)]]))] [] fun r0 g0 =>
 Req (qP7 g0 r0)
 (Req ((0 : Int) ≤ at_ ∧ at_ ≤ IntKind.i64.wrap (at_ + rI r0) ∧ IntKind.i64.wrap (at_ + rI r0) ≤ (↑s.length : Int))
 (Let (List.drop at_.toNat (List.take (IntKind.i64.wrap (at_ + rI r0)).toNat s)) fun x1 =>
 Call E0.P fn_digits_Loose [(As x1)] [] fun r2 g2 =>
 Req (qP10 g2 r2)
 (Br (decide (rI (rT r2 1) = (0 : Int)))
 (Q (.tup [(.imm (.agg [(.int .i64 1), (.int .i64 (rI (rT r2 0))), (.str []), (.int .i64 0), (.int .i64 0)])), (Ai 0)]) [(nA0, .blk ty_token_scanner [(As s), (Ai (IntKind.i64.wrap (at_ + (↑x1.length : Int)))), (.own nA1)]), (nA1, .arr (ty_uint8 + 2) true 1 out)])
 (Br (decide (rI (rT r2 1) = (3 : Int)))
 (Q (.tup [(.imm (.agg [(.int .i64 0), (.int .i64 0), (.str []), (.int .i64 0), (.int .i64 0)])), (Ai (rI (rT r2 1)))]) [(nA0, .blk ty_token_scanner [(As s), (Ai (IntKind.i64.wrap (at_ + (↑x1.length : Int)))), (.own nA1)]), (nA1, .arr (ty_uint8 + 2) true 1 out)])
 (Br (decide ((127 : Int) < (↑x1.length : Int)))
 (Q (.tup [(.imm (.agg [(.int .i64 0), (.int .i64 0), (.str []), (.int .i64 0), (.int .i64 0)])), (Ai 8)]) [(nA0, .blk ty_token_scanner [(As s), (Ai (IntKind.i64.wrap (at_ + (↑x1.length : Int)))), (.own nA1)]), (nA1, .arr (ty_uint8 + 2) true 1 out)])
 (Q (.tup [(.imm (.agg [(.int .i64 8), (.int .i64 0), (.str x1), (.int .i64 0), (.int .i64 0)])), (Ai 0)]) [(nA0, .blk ty_token_scanner [(As s), (Ai (IntKind.i64.wrap (at_ + (↑x1.length : Int)))), (.own nA1)]), (nA1, .arr (ty_uint8 + 2) true 1 out)])))))))) : Call E0.P fn_token_scanner_word [(.ptr (.arg 0) 0)] [(.arg 0, .blk ty_token_scanner [.imm (.str s), .imm (.int .i64 at_), .own (.arg 1)]), (.arg 1, .arr (ty_uint8 + 2) true 1 out)] Q := fun_rule (envN E0 nt_token_scanner_word) (okE nt_token_scanner_word) 3 0 109 ac_token_scanner_word [.cell 2 95, .tmp 3] ok_token_scanner_word _ _ Q rfl rfl (kr (by kernel_rfl) h)
noncomputable def ac_r01_Hex : AC := (annot [(4, [0, 3, 4, 5], []), (6, [], []), (11, [], [])] [2] (codeOf Try.f110) 0).1
abbrev nt_r01_Hex : Nat := 23
def L_r01_Hex_4 (t0 : Int) (t3 t4 : LB) (t5 : Int) (K : KK) : Prop := LoopOK 4 E0.P nt_r01_Hex (lbodyOf 4 ac_r01_Hex).code ⟨[(0, .imm (.int .u8 t0)), (3, (As t3)), (4, (As t4)), (5, (Ai t5))], []⟩ K
def C_r01_Hex_11 (K : KK) : Prop := CutOK 11 E0.P nt_r01_Hex (cbodyOf 11 ac_r01_Hex).code ⟨[], []⟩ K
def K_r01_Hex_0 (Q : QQ) : KK := kE fun st => finish 0 E0.T [.tmp 2] [] Q st
def K_r01_Hex_1 (Q : QQ) : KK := kF 0 (fun st => CutOK 11 E0.P nt_r01_Hex (cbodyOf 11 ac_r01_Hex).code (mask [] st) (K_r01_Hex_0 Q)) fun st => finish 0 E0.T [.tmp 2] [] Q st
theorem L_r01_Hex_4_of (t0 : Int) (t3 t4 : LB) (t5 : Int) (K : KK) (h :
 (Br (decide (t5 < (16 : Int)))
 (Req ((0 : Int) ≤ t5 ∧ t5 < (↑t3.length : Int))
 (Req (decide ((↑(t3.getD t5.toNat 0).toNat : Int) = t0) = false → (0 : Int) ≤ t5 ∧ t5 < (↑t4.length : Int))
 (Let (bif decide ((↑(t3.getD t5.toNat 0).toNat : Int) = t0) then true
 else decide ((↑(t4.getD t5.toNat 0).toNat : Int) = t0)) fun x0 =>
 Br (x0)
 (K .ret ⟨[(2, (Ai t5))], []⟩)
 (L_r01_Hex_4 t0 t3 t4 (IntKind.i64.wrap (t5 + (1 : Int))) K))))
 (K (.exit 0) ⟨[], []⟩))) : L_r01_Hex_4 t0 t3 t4 t5 K := loop_rule (envN E0 nt_r01_Hex) (okE nt_r01_Hex) 3 4 (lbodyOf 4 ac_r01_Hex) [0, 3, 4, 5] _ K rfl (kr (by kernel_rfl) h)
theorem C_r01_Hex_11_of (K : KK) (h :
 (K .ret ⟨[(2, (Ai (-1)))], []⟩)) : C_r01_Hex_11  K := cut_rule (envN E0 nt_r01_Hex) (okE nt_r01_Hex) 3 11 (cbodyOf 11 ac_r01_Hex) [] _ K rfl (kr (by kernel_rfl) h)
theorem K_r01_Hex_0_x0 (Q : QQ) (t2 : Int) (h :
 (Q (Ai t2) [])) : K_r01_Hex_0 Q .ret ⟨[(2, (Ai t2))], []⟩ := kr (by kernel_rfl) h
theorem K_r01_Hex_1_x0 (Q : QQ) (t2 : Int) (h :
 (Q (Ai t2) [])) : K_r01_Hex_1 Q .ret ⟨[(2, (Ai t2))], []⟩ := kr (by kernel_rfl) h
theorem K_r01_Hex_1_x1 (Q : QQ) (h :
 (C_r01_Hex_11  (K_r01_Hex_0 Q))) : K_r01_Hex_1 Q (.exit 0) ⟨[], []⟩ := kr (by kernel_rfl) h
theorem ok_r01_Hex : FnOK E0.P 110 ac_r01_Hex.code nt_r01_Hex [.tmp 2] := fn_ok _ _ Try.f110 [(4, [0, 3, 4, 5], []), (6, [], []), (11, [], [])] [2] _ 23 Try.func110 (by kernel_rfl) (by kernel_rfl) (by kernel_rfl) (by kernel_rfl)
theorem F_r01_Hex_of (a0 : Int) (Q : QQ) (h :
 (L_r01_Hex_4 a0 [(48 : UInt8), 49, 50, 51, 52, 53, 54, 55,
 56, 57, 65, 66, 67, 68, 69, 70] [(48 : UInt8), 49, 50, 51, 52, 53, 54, 55,
 56, 57, 97, 98, 99, 100, 101, 102] ((0 : Int)) (K_r01_Hex_1 Q))) : Call E0.P fn_r01_Hex [(.imm (.int .u8 a0))] [] Q := fun_rule (envN E0 nt_r01_Hex) (okE nt_r01_Hex) 3 0 110 ac_r01_Hex [.tmp 2] ok_r01_Hex _ _ Q rfl rfl (kr (by kernel_rfl) h)
noncomputable def ac_r01_Ends : AC := (annot [] [4] (codeOf Try.f111) 0).1
abbrev nt_r01_Ends : Nat := 28
theorem ok_r01_Ends : FnOK E0.P 111 ac_r01_Ends.code nt_r01_Ends [.tmp 4] := fn_ok _ _ Try.f111 [] [4] _ 28 Try.func111 (by kernel_rfl) (by kernel_rfl) (by kernel_rfl) (by kernel_rfl)
theorem F_r01_Ends_of (a0 : LB) (a1 : Int) (Q : QQ) (h :
 (Let (bif decide (a1 < (0 : Int)) then true else decide ((↑a0.length : Int) ≤ a1)) fun x0 =>
 Br (x0)
 (Q (Ai 0) [])
 (Req ((0 : Int) ≤ a1 ∧ a1 ≤ (↑a0.length : Int))
 (Let (List.drop a1.toNat a0) fun x1 =>
 Req (decide ((1 : Int) < (↑x1.length : Int)) = true → (0 : Int) ≤ (2 : Int) ∧ (2 : Int) ≤ (↑x1.length : Int))
 (Let (List.take 2 x1) fun x2 =>
 Let (bif decide ((1 : Int) < (↑x1.length : Int)) then x2 == [(13 : UInt8), 10] else false) fun x3 =>
 Br (x3)
 (Q (Ai 2) [])
 (Req ((0 : Int) ≤ (0 : Int) ∧ (0 : Int) < (↑x1.length : Int))
 (Call E0.P fn_r01_in [(.imm (.str [13, 10])), (.imm (.int .u8 ((↑(x1.getD (0 : Nat) 0).toNat : Int))))] [] fun r4 g4 =>
 Req (qP0 g4 r4)
 (Br (rB r4)
 (Q (Ai 1) [])
 (Q (Ai 0) []))))))))) : Call E0.P fn_r01_Ends [(As a0), (Ai a1)] [] Q := fun_rule (envN E0 nt_r01_Ends) (okE nt_r01_Ends) 3 0 111 ac_r01_Ends [.tmp 4] ok_r01_Ends _ _ Q rfl rfl (kr (by kernel_rfl) h)
noncomputable def ac_r15_meant : AC := (annot [(11, [0, 1, 7, 8, 9], []), (13, [0, 1], []), (18, [0, 1], []), (20, [0, 1, 10, 11], []), (22, [0, 1, 10, 11], []), (25, [0, 1, 10, 11], [])] [4, 5] (codeOf Try.f112) 0).1
abbrev nt_r15_meant : Nat := 99
def L_r15_meant_11 (t0 : LB) (t1 : Int) (t7 t8 : LB) (t9 : Int) (K : KK) : Prop := LoopOK 11 E0.P nt_r15_meant (lbodyOf 11 ac_r15_meant).code ⟨[(0, (As t0)), (1, (Ai t1)), (7, (As t7)), (8, (As t8)), (9, (Ai t9))], []⟩ K
def C_r15_meant_18 (t0 : LB) (t1 : Int) (K : KK) : Prop := CutOK 18 E0.P nt_r15_meant (cbodyOf 18 ac_r15_meant).code ⟨[(0, (As t0)), (1, (Ai t1))], []⟩ K
def L_r15_meant_20 (t0 : LB) (t1 t10 t11 : Int) (K : KK) : Prop := LoopOK 20 E0.P nt_r15_meant (lbodyOf 20 ac_r15_meant).code ⟨[(0, (As t0)), (1, (Ai t1)), (10, (Ai t10)), (11, (Ai t11))], []⟩ K
def C_r15_meant_25 (t0 : LB) (t1 t10 t11 : Int) (K : KK) : Prop := CutOK 25 E0.P nt_r15_meant (cbodyOf 25 ac_r15_meant).code ⟨[(0, (As t0)), (1, (Ai t1)), (10, (Ai t10)), (11, (Ai t11))], []⟩ K
def K_r15_meant_0 (Q : QQ) : KK := kE fun st => finish 0 E0.T [.tmp 4, .tmp 5] [] Q st
def K_r15_meant_1 (Q : QQ) : KK := kF 0 (fun st => CutOK 18 E0.P nt_r15_meant (cbodyOf 18 ac_r15_meant).code (mask [0, 1] st) (K_r15_meant_0 Q)) fun st => finish 0 E0.T [.tmp 4, .tmp 5] [] Q st
def K_r15_meant_2 (K : KK) : KK := kP [] K
def K_r15_meant_3 (K : KK) : KK := kC 2 (fun st => CutOK 25 E0.P nt_r15_meant (cbodyOf 25 ac_r15_meant).code (mask [0, 1, 10, 11] st) (K_r15_meant_2 K)) K
theorem L_r15_meant_11_of (t0 : LB) (t1 : Int) (t7 t8 : LB) (t9 : Int) (K : KK) (h :
 (Br (decide (t9 < (↑t7.length : Int)))
 (Req ((0 : Int) ≤ t1 ∧ t1 < (↑t0.length : Int))
 (Req ((0 : Int) ≤ t9 ∧ t9 < (↑t7.length : Int))
 (Br (decide ((↑(t0.getD t1.toNat 0).toNat : Int) = (↑(t7.getD t9.toNat 0).toNat : Int)))
 (Req ((0 : Int) ≤ t9 ∧ t9 ≤ IntKind.i64.wrap (t9 + (1 : Int)) ∧ IntKind.i64.wrap (t9 + (1 : Int)) ≤ (↑t8.length : Int))
 (Let (List.drop t9.toNat (List.take (IntKind.i64.wrap (t9 + (1 : Int))).toNat t8)) fun x0 =>
 K .ret ⟨[(4, (As x0)), (5, (Ai (IntKind.i64.wrap (t1 + (1 : Int)))))], []⟩))
 (L_r15_meant_11 t0 t1 t7 t8 (IntKind.i64.wrap (t9 + (1 : Int))) K))))
 (K (.exit 0) ⟨[(0, (As t0)), (1, (Ai t1))], []⟩))) : L_r15_meant_11 t0 t1 t7 t8 t9 K := loop_rule (envN E0 nt_r15_meant) (okE nt_r15_meant) 3 11 (lbodyOf 11 ac_r15_meant) [0, 1, 7, 8, 9] _ K rfl (kr (by kernel_rfl) h)
theorem C_r15_meant_18_of (t0 : LB) (t1 : Int) (K : KK) (h :
 (L_r15_meant_20 t0 t1 ((0 : Int)) ((0 : Int)) (K_r15_meant_3 K))) : C_r15_meant_18 t0 t1 K := cut_rule (envN E0 nt_r15_meant) (okE nt_r15_meant) 3 18 (cbodyOf 18 ac_r15_meant) [] _ K rfl (kr (by kernel_rfl) h)
theorem L_r15_meant_20_of (t0 : LB) (t1 t10 t11 : Int) (K : KK) (h :
 (Let (bif decide (t11 < (3 : Int)) then decide (IntKind.i64.wrap (t1 + t11) < (↑t0.length : Int)) else false) fun x0 =>
 Req (x0 = true → (0 : Int) ≤ IntKind.i64.wrap (t1 + t11) ∧ IntKind.i64.wrap (t1 + t11) < (↑t0.length : Int))
 (Let (bif x0 then decide ((48 : Int) ≤ (↑(t0.getD (IntKind.i64.wrap (t1 + t11)).toNat 0).toNat : Int)) else false) fun x1 =>
 Req (x1 = true → (0 : Int) ≤ IntKind.i64.wrap (t1 + t11) ∧ IntKind.i64.wrap (t1 + t11) < (↑t0.length : Int))
 (Let (bif x1 then decide ((↑(t0.getD (IntKind.i64.wrap (t1 + t11)).toNat 0).toNat : Int) ≤ (55 : Int)) else false) fun x2 =>
 Br (x2)
 (Req ((0 : Int) ≤ IntKind.i64.wrap (t1 + t11) ∧ IntKind.i64.wrap (t1 + t11) < (↑t0.length : Int))
 (L_r15_meant_20 t0 t1 (IntKind.i64.wrap
 (IntKind.i64.wrap
 (IntKind.i64.wrap ((8 : Int) * t10) +
 IntKind.i64.wrap (↑(t0.getD (IntKind.i64.wrap (t1 + t11)).toNat 0).toNat : Int)) -
 (48 : Int))) (IntKind.i64.wrap (t11 + (1 : Int))) K))
 (K (.exit (2)) ⟨[(0, (As t0)), (1, (Ai t1)), (10, (Ai t10)), (11, (Ai t11))], []⟩))))) : L_r15_meant_20 t0 t1 t10 t11 K := loop_rule (envN E0 nt_r15_meant) (okE nt_r15_meant) 3 20 (lbodyOf 20 ac_r15_meant) [0, 1, 10, 11] _ K rfl (kr (by kernel_rfl) h)
theorem C_r15_meant_25_of (t0 : LB) (t1 t10 t11 : Int) (K : KK) (h :
 (Br (decide ((0 : Int) < t11))
 (Req ((256 : Int) ≠ (0 : Int))
 (Req (∀ (r : List IV), r ∈ [[IV.int .u8 (IntKind.u8.wrap (t10.tmod (256 : Int)))]] → shOK [.int .u8] r = true)
 (K .ret ⟨[(4, .imm (.str [UInt8.ofNat (gI [.int .u8 (IntKind.u8.wrap (t10.tmod (256 : Int)))] 0).toNat])), (5, (Ai (IntKind.i64.wrap (t1 + t11))))], []⟩)))
 (Req ((0 : Int) ≤ t1 ∧ t1 ≤ IntKind.i64.wrap (t1 + (1 : Int)) ∧ IntKind.i64.wrap (t1 + (1 : Int)) ≤ (↑t0.length : Int))
 (Let (List.drop t1.toNat (List.take (IntKind.i64.wrap (t1 + (1 : Int))).toNat t0)) fun x0 =>
 K .ret ⟨[(4, (As x0)), (5, (Ai (IntKind.i64.wrap (t1 + (1 : Int)))))], []⟩)))) : C_r15_meant_25 t0 t1 t10 t11 K := cut_rule (envN E0 nt_r15_meant) (okE nt_r15_meant) 3 25 (cbodyOf 25 ac_r15_meant) [] _ K rfl (kr (by kernel_rfl) h)
theorem K_r15_meant_0_x0 (Q : QQ) (t4 : LB) (t5 : Int) (h :
 (Q (.tup [(As t4), (Ai t5)]) [])) : K_r15_meant_0 Q .ret ⟨[(4, (As t4)), (5, (Ai t5))], []⟩ := kr (by kernel_rfl) h
theorem K_r15_meant_1_x0 (Q : QQ) (t4 : LB) (t5 : Int) (h :
 (Q (.tup [(As t4), (Ai t5)]) [])) : K_r15_meant_1 Q .ret ⟨[(4, (As t4)), (5, (Ai t5))], []⟩ := kr (by kernel_rfl) h
theorem K_r15_meant_1_x1 (Q : QQ) (t0 : LB) (t1 : Int) (h :
 (C_r15_meant_18 t0 t1 (K_r15_meant_0 Q))) : K_r15_meant_1 Q (.exit 0) ⟨[(0, (As t0)), (1, (Ai t1))], []⟩ := kr (by kernel_rfl) h
theorem K_r15_meant_2_x0 (K : KK) (t4 : LB) (t5 : Int) (h :
 (K .ret ⟨[(4, (As t4)), (5, (Ai t5))], []⟩)) : K_r15_meant_2 K .ret ⟨[(4, (As t4)), (5, (Ai t5))], []⟩ := kr (by kernel_rfl) h
theorem K_r15_meant_3_x0 (K : KK) (t0 : LB) (t1 t10 t11 : Int) (h :
 (C_r15_meant_25 t0 t1 t10 t11 (K_r15_meant_2 K))) : K_r15_meant_3 K (.exit (2)) ⟨[(0, (As t0)), (1, (Ai t1)), (10, (Ai t10)), (11, (Ai t11))], []⟩ := kr (by kernel_rfl) h
theorem ok_r15_meant : FnOK E0.P 112 ac_r15_meant.code nt_r15_meant [.tmp 4, .tmp 5] := fn_ok _ _ Try.f112 [(11, [0, 1, 7, 8, 9], []), (13, [0, 1], []), (18, [0, 1], []), (20, [0, 1, 10, 11], []), (22, [0, 1, 10, 11], []), (25, [0, 1, 10, 11], [])] [4, 5] _ 99 Try.func112 (by kernel_rfl) (by kernel_rfl) (by kernel_rfl) (by kernel_rfl)
theorem F_r15_meant_of (a0 : LB) (a1 : Int) (Q : QQ) (h :
 (Br (decide ((↑a0.length : Int) ≤ a1))
 (Q (.tup [(.imm (.str [])), (Ai (-1))]) [])
 (Call E0.P fn_r01_Ends [(As a0), (Ai a1)] [] fun r0 g0 =>
 Req (qP7 g0 r0)
 (Br (decide ((0 : Int) < rI r0))
 (Q (.tup [(.imm (.str [])), (Ai (IntKind.i64.wrap (a1 + rI r0)))]) [])
 (L_r15_meant_11 a0 a1 [(110 : UInt8), 114, 116, 98, 102] [(10 : UInt8), 13, 9, 8, 12] ((0 : Int)) (K_r15_meant_1 Q)))))) : Call E0.P fn_r15_meant [(As a0), (Ai a1)] [] Q := fun_rule (envN E0 nt_r15_meant) (okE nt_r15_meant) 3 0 112 ac_r15_meant [.tmp 4, .tmp 5] ok_r15_meant _ _ Q rfl rfl (kr (by kernel_rfl) h)
noncomputable def ac_r01_in : AC := (annot [(2, [0, 1, 5], []), (4, [], []), (9, [], [])] [4] (codeOf Try.f113) 0).1
abbrev nt_r01_in : Nat := 17
def L_r01_in_2 (t0 : LB) (t1 t5 : Int) (K : KK) : Prop := LoopOK 2 E0.P nt_r01_in (lbodyOf 2 ac_r01_in).code ⟨[(0, (As t0)), (1, .imm (.int .u8 t1)), (5, (Ai t5))], []⟩ K
def C_r01_in_9 (K : KK) : Prop := CutOK 9 E0.P nt_r01_in (cbodyOf 9 ac_r01_in).code ⟨[], []⟩ K
def K_r01_in_0 (Q : QQ) : KK := kE fun st => finish 0 E0.T [.tmp 4] [] Q st
def K_r01_in_1 (Q : QQ) : KK := kF 0 (fun st => CutOK 9 E0.P nt_r01_in (cbodyOf 9 ac_r01_in).code (mask [] st) (K_r01_in_0 Q)) fun st => finish 0 E0.T [.tmp 4] [] Q st
theorem L_r01_in_2_of (t0 : LB) (t1 t5 : Int) (K : KK) (h :
 (Br (decide (t5 < (↑t0.length : Int)))
 (Req ((0 : Int) ≤ t5 ∧ t5 < (↑t0.length : Int))
 (Br (decide ((↑(t0.getD t5.toNat 0).toNat : Int) = t1))
 (K .ret ⟨[(4, (Ab true))], []⟩)
 (L_r01_in_2 t0 t1 (IntKind.i64.wrap (t5 + (1 : Int))) K)))
 (K (.exit 0) ⟨[], []⟩))) : L_r01_in_2 t0 t1 t5 K := loop_rule (envN E0 nt_r01_in) (okE nt_r01_in) 3 2 (lbodyOf 2 ac_r01_in) [0, 1, 5] _ K rfl (kr (by kernel_rfl) h)
theorem C_r01_in_9_of (K : KK) (h :
 (K .ret ⟨[(4, (Ab false))], []⟩)) : C_r01_in_9  K := cut_rule (envN E0 nt_r01_in) (okE nt_r01_in) 3 9 (cbodyOf 9 ac_r01_in) [] _ K rfl (kr (by kernel_rfl) h)
theorem K_r01_in_0_x0 (Q : QQ) (t4 : Bool) (h :
 (Q (Ab t4) [])) : K_r01_in_0 Q .ret ⟨[(4, (Ab t4))], []⟩ := kr (by kernel_rfl) h
theorem K_r01_in_1_x0 (Q : QQ) (t4 : Bool) (h :
 (Q (Ab t4) [])) : K_r01_in_1 Q .ret ⟨[(4, (Ab t4))], []⟩ := kr (by kernel_rfl) h
theorem K_r01_in_1_x1 (Q : QQ) (h :
 (C_r01_in_9  (K_r01_in_0 Q))) : K_r01_in_1 Q (.exit 0) ⟨[], []⟩ := kr (by kernel_rfl) h
theorem ok_r01_in : FnOK E0.P 113 ac_r01_in.code nt_r01_in [.tmp 4] := fn_ok _ _ Try.f113 [(2, [0, 1, 5], []), (4, [], []), (9, [], [])] [4] _ 17 Try.func113 (by kernel_rfl) (by kernel_rfl) (by kernel_rfl) (by kernel_rfl)
theorem F_r01_in_of (a0 : LB) (a1 : Int) (Q : QQ) (h :
 (L_r01_in_2 a0 a1 ((0 : Int)) (K_r01_in_1 Q))) : Call E0.P fn_r01_in [(As a0), (.imm (.int .u8 a1))] [] Q := fun_rule (envN E0 nt_r01_in) (okE nt_r01_in) 3 0 113 ac_r01_in [.tmp 4] ok_r01_in _ _ Q rfl rfl (kr (by kernel_rfl) h)
noncomputable def ac_r01_Span : AC := (annot [(6, [0, 2, 7, 8], []), (8, [7], []), (12, [0, 2, 7, 8, 9, 10], []), (14, [0, 2, 7, 8, 9], []), (16, [0, 2, 7, 8, 9, 10], [0, 2, 7, 8, 9, 10]), (17, [0, 2, 7, 8, 9], [0, 2, 7, 8]), (21, [0, 2, 7, 8], [0, 2, 7, 8]), (22, [7], [])] [6] (codeOf Try.f114) 0).1
abbrev nt_r01_Span : Nat := 44
def L_r01_Span_6 (t0 : LB) (t2r : LL) (t7 t8 : Int) (K : KK) : Prop := LoopOK 6 E0.P nt_r01_Span (lbodyOf 6 ac_r01_Span).code ⟨[(0, (As t0)), (2, (Al 1 t2r)), (7, (Ai t7)), (8, (Ai t8))], []⟩ K
def L_r01_Span_12 (t0 : LB) (t2r : LL) (t7 t8 : Int) (t9 : Bool) (t10 : Int) (K : KK) : Prop := LoopOK 12 E0.P nt_r01_Span (lbodyOf 12 ac_r01_Span).code ⟨[(0, (As t0)), (2, (Al 1 t2r)), (7, (Ai t7)), (8, (Ai t8)), (9, (Ab t9)), (10, (Ai t10))], []⟩ K
def C_r01_Span_16 (t0 : LB) (t2r : LL) (t7 t8 : Int) (t9 : Bool) (t10 : Int) (K : KK) : Prop := CutOK 16 E0.P nt_r01_Span (cbodyOf 16 ac_r01_Span).code ⟨[(0, (As t0)), (2, (Al 1 t2r)), (7, (Ai t7)), (8, (Ai t8)), (9, (Ab t9)), (10, (Ai t10))], []⟩ K
def C_r01_Span_22 (t7 : Int) (K : KK) : Prop := CutOK 22 E0.P nt_r01_Span (cbodyOf 22 ac_r01_Span).code ⟨[(7, (Ai t7))], []⟩ K
def C_r01_Span_17 (t0 : LB) (t2r : LL) (t7 t8 : Int) (t9 : Bool) (K : KK) : Prop := CutOK 17 E0.P nt_r01_Span (cbodyOf 17 ac_r01_Span).code ⟨[(0, (As t0)), (2, (Al 1 t2r)), (7, (Ai t7)), (8, (Ai t8)), (9, (Ab t9))], []⟩ K
def C_r01_Span_21 (t0 : LB) (t2r : LL) (t7 t8 : Int) (K : KK) : Prop := CutOK 21 E0.P nt_r01_Span (cbodyOf 21 ac_r01_Span).code ⟨[(0, (As t0)), (2, (Al 1 t2r)), (7, (Ai t7)), (8, (Ai t8))], []⟩ K
def K_r01_Span_0 (Q : QQ) : KK := kE fun st => finish 0 E0.T [.tmp 6] [] Q st
def K_r01_Span_1 (Q : QQ) : KK := kF 0 (fun st => CutOK 22 E0.P nt_r01_Span (cbodyOf 22 ac_r01_Span).code (mask [7] st) (K_r01_Span_0 Q)) fun st => finish 0 E0.T [.tmp 6] [] Q st
def K_r01_Span_2 (K : KK) : Ex → St → Prop
 | .normal, st => LoopOK 6 E0.P nt_r01_Span (lbodyOf 6 ac_r01_Span).code (mask [0, 2, 7, 8] st) K
 | .exit i, st => K (.exit i) st
 | .goto i, st => K (.goto i) st
 | .ret, st => K .ret st
def K_r01_Span_3 (K : KK) : KK := kC 1 (fun st => CutOK 21 E0.P nt_r01_Span (cbodyOf 21 ac_r01_Span).code (mask [0, 2, 7, 8] st) (K_r01_Span_2 K)) K
def K_r01_Span_4 (K : KK) : Ex → St → Prop
 | .normal, st => CutOK 17 E0.P nt_r01_Span (cbodyOf 17 ac_r01_Span).code (mask [0, 2, 7, 8, 9] st) (K_r01_Span_3 K)
 | .exit i, st => (match (i.beq 2 : Bool) with
 | true => CutOK 17 E0.P nt_r01_Span (cbodyOf 17 ac_r01_Span).code (mask [0, 2, 7, 8, 9] st) (K_r01_Span_3 K)
 | false => (match (i.beq 1 : Bool) with
 | true => CutOK 21 E0.P nt_r01_Span (cbodyOf 21 ac_r01_Span).code (mask [0, 2, 7, 8] st) (K_r01_Span_2 K)
 | false => K (.exit i) st))
 | .goto i, st => K (.goto i) st
 | .ret, st => K .ret st
def K_r01_Span_5 (K : KK) : Ex → St → Prop
 | .normal, st => LoopOK 12 E0.P nt_r01_Span (lbodyOf 12 ac_r01_Span).code (mask [0, 2, 7, 8, 9, 10] st) K
 | .exit i, st => K (.exit i) st
 | .goto i, st => K (.goto i) st
 | .ret, st => K .ret st
theorem L_r01_Span_6_of (t0 : LB) (t2r : LL) (t7 t8 : Int) (K : KK) (h :
 (Br (decide (t8 < (↑t0.length : Int)))
 (L_r01_Span_12 t0 t2r t7 t8 false ((0 : Int)) (K_r01_Span_4 K))
 (K (.exit 0) ⟨[(7, (Ai t7))], []⟩))) : L_r01_Span_6 t0 t2r t7 t8 K := loop_rule (envN E0 nt_r01_Span) (okE nt_r01_Span) 3 6 (lbodyOf 6 ac_r01_Span) [0, 2, 7, 8] _ K rfl (kr (by kernel_rfl) h)
theorem L_r01_Span_12_of (t0 : LB) (t2r : LL) (t7 t8 : Int) (t9 : Bool) (t10 : Int) (K : KK) (h :
 (Br (decide (t10 < (↑t2r.length : Int)))
 (Br (t9)
 (Req (true = true)
 (Let (true) fun x0 =>
 C_r01_Span_16 t0 t2r t7 t8 x0 t10 (K_r01_Span_5 K)))
 (Req ((0 : Int) ≤ t8 ∧ t8 < (↑t0.length : Int))
 (Req (((0 : Int) ≤ t10 ∧ t10 < (↑t2r.length : Int)) ∧ shOK [.int .i64] (t2r.getD t10.toNat []) = true)
 (Call E0.P fn_r01_Kind [(.imm (.int .u8 ((↑(t0.getD t8.toNat 0).toNat : Int))))] [] fun r1 g1 =>
 Req (qP7 g1 r1)
 (Let (decide (rI r1 = gI (t2r.getD t10.toNat []) 0)) fun x2 =>
 C_r01_Span_16 t0 t2r t7 t8 x2 t10 (K_r01_Span_5 K))))))
 (K (.exit (2)) ⟨[(0, (As t0)), (2, (Al 1 t2r)), (7, (Ai t7)), (8, (Ai t8)), (9, (Ab t9))], []⟩))) : L_r01_Span_12 t0 t2r t7 t8 t9 t10 K := loop_rule (envN E0 nt_r01_Span) (okE nt_r01_Span) 3 12 (lbodyOf 12 ac_r01_Span) [0, 2, 7, 8, 9, 10] _ K rfl (kr (by kernel_rfl) h)
theorem C_r01_Span_16_of (t0 : LB) (t2r : LL) (t7 t8 : Int) (t9 : Bool) (t10 : Int) (K : KK) (h :
 (K .normal ⟨[(0, (As t0)), (2, (Al 1 t2r)), (7, (Ai t7)), (8, (Ai t8)), (9, (Ab t9)), (10, (Ai (IntKind.i64.wrap (t10 + (1 : Int)))))], []⟩)) : C_r01_Span_16 t0 t2r t7 t8 t9 t10 K := cut_rule (envN E0 nt_r01_Span) (okE nt_r01_Span) 3 16 (cbodyOf 16 ac_r01_Span) [0, 2, 7, 8, 9, 10] _ K rfl (kr (by kernel_rfl) h)
theorem C_r01_Span_22_of (t7 : Int) (K : KK) (h :
 (K .ret ⟨[(6, (Ai t7))], []⟩)) : C_r01_Span_22 t7 K := cut_rule (envN E0 nt_r01_Span) (okE nt_r01_Span) 3 22 (cbodyOf 22 ac_r01_Span) [] _ K rfl (kr (by kernel_rfl) h)
theorem C_r01_Span_17_of (t0 : LB) (t2r : LL) (t7 t8 : Int) (t9 : Bool) (K : KK) (h :
 (Br (!t9)
 (K .ret ⟨[(6, (Ai t7))], []⟩)
 (K .normal ⟨[(0, (As t0)), (2, (Al 1 t2r)), (7, (Ai (IntKind.i64.wrap (t7 + (1 : Int))))), (8, (Ai t8))], []⟩))) : C_r01_Span_17 t0 t2r t7 t8 t9 K := cut_rule (envN E0 nt_r01_Span) (okE nt_r01_Span) 3 17 (cbodyOf 17 ac_r01_Span) [0, 2, 7, 8] _ K rfl (kr (by kernel_rfl) h)
theorem C_r01_Span_21_of (t0 : LB) (t2r : LL) (t7 t8 : Int) (K : KK) (h :
 (K .normal ⟨[(0, (As t0)), (2, (Al 1 t2r)), (7, (Ai t7)), (8, (Ai (IntKind.i64.wrap (t8 + (1 : Int)))))], []⟩)) : C_r01_Span_21 t0 t2r t7 t8 K := cut_rule (envN E0 nt_r01_Span) (okE nt_r01_Span) 3 21 (cbodyOf 21 ac_r01_Span) [0, 2, 7, 8] _ K rfl (kr (by kernel_rfl) h)
theorem K_r01_Span_0_x0 (Q : QQ) (t6 : Int) (h :
 (Q (Ai t6) [])) : K_r01_Span_0 Q .ret ⟨[(6, (Ai t6))], []⟩ := kr (by kernel_rfl) h
theorem K_r01_Span_1_x0 (Q : QQ) (t7 : Int) (h :
 (C_r01_Span_22 t7 (K_r01_Span_0 Q))) : K_r01_Span_1 Q (.exit 0) ⟨[(7, (Ai t7))], []⟩ := kr (by kernel_rfl) h
theorem K_r01_Span_1_x1 (Q : QQ) (t6 : Int) (h :
 (Q (Ai t6) [])) : K_r01_Span_1 Q .ret ⟨[(6, (Ai t6))], []⟩ := kr (by kernel_rfl) h
theorem K_r01_Span_2_x0 (K : KK) (t0 : LB) (t2r : LL) (t7 t8 : Int) (h :
 (L_r01_Span_6 t0 t2r t7 t8 K)) : K_r01_Span_2 K .normal ⟨[(0, (As t0)), (2, (Al 1 t2r)), (7, (Ai t7)), (8, (Ai t8))], []⟩ := kr (by kernel_rfl) h
theorem K_r01_Span_3_x0 (K : KK) (t6 : Int) (h :
 (K .ret ⟨[(6, (Ai t6))], []⟩)) : K_r01_Span_3 K .ret ⟨[(6, (Ai t6))], []⟩ := kr (by kernel_rfl) h
theorem K_r01_Span_3_x1 (K : KK) (t0 : LB) (t2r : LL) (t7 t8 : Int) (h :
 (C_r01_Span_21 t0 t2r t7 t8 (K_r01_Span_2 K))) : K_r01_Span_3 K .normal ⟨[(0, (As t0)), (2, (Al 1 t2r)), (7, (Ai t7)), (8, (Ai t8))], []⟩ := kr (by kernel_rfl) h
theorem K_r01_Span_4_x0 (K : KK) (t0 : LB) (t2r : LL) (t7 t8 : Int) (t9 : Bool) (h :
 (C_r01_Span_17 t0 t2r t7 t8 t9 (K_r01_Span_3 K))) : K_r01_Span_4 K (.exit (2)) ⟨[(0, (As t0)), (2, (Al 1 t2r)), (7, (Ai t7)), (8, (Ai t8)), (9, (Ab t9))], []⟩ := kr (by kernel_rfl) h
theorem K_r01_Span_5_x0 (K : KK) (t0 : LB) (t2r : LL) (t7 t8 : Int) (t9 : Bool) (t10 : Int) (h :
 (L_r01_Span_12 t0 t2r t7 t8 t9 t10 K)) : K_r01_Span_5 K .normal ⟨[(0, (As t0)), (2, (Al 1 t2r)), (7, (Ai t7)), (8, (Ai t8)), (9, (Ab t9)), (10, (Ai t10))], []⟩ := kr (by kernel_rfl) h
theorem ok_r01_Span : FnOK E0.P 114 ac_r01_Span.code nt_r01_Span [.tmp 6] := fn_ok _ _ Try.f114 [(6, [0, 2, 7, 8], []), (8, [7], []), (12, [0, 2, 7, 8, 9, 10], []), (14, [0, 2, 7, 8, 9], []), (16, [0, 2, 7, 8, 9, 10], [0, 2, 7, 8, 9, 10]), (17, [0, 2, 7, 8, 9], [0, 2, 7, 8]), (21, [0, 2, 7, 8], [0, 2, 7, 8]), (22, [7], [])] [6] _ 44 Try.func114 (by kernel_rfl) (by kernel_rfl) (by kernel_rfl) (by kernel_rfl)
theorem F_r01_Span_of (a0 : LB) (a1 : Int) (a2 : LL) (Q : QQ) (h :
 (Br (decide (a1 < (0 : Int)))
 (Q (Ai 0) [])
 (L_r01_Span_6 a0 a2 ((0 : Int)) a1 (K_r01_Span_1 Q)))) : Call E0.P fn_r01_Span [(As a0), (Ai a1), (Al 1 a2)] [] Q := fun_rule (envN E0 nt_r01_Span) (okE nt_r01_Span) 3 0 114 ac_r01_Span [.tmp 6] ok_r01_Span _ _ Q rfl rfl (kr (by kernel_rfl) h)
noncomputable def ac_r02_Loose : AC := (annot [(3, [0, 4], []), (6, [5, 6], [])] [2, 3] (codeOf Try.f115) 0).1
abbrev nt_r02_Loose : Nat := 38
def C_r02_Loose_3 (t0 : LB) (t4 : Bool) (K : KK) : Prop := CutOK 3 E0.P nt_r02_Loose (cbodyOf 3 ac_r02_Loose).code ⟨[(0, (As t0)), (4, (Ab t4))], []⟩ K
def C_r02_Loose_6 (t5 t6 : Int) (K : KK) : Prop := CutOK 6 E0.P nt_r02_Loose (cbodyOf 6 ac_r02_Loose).code ⟨[(5, (Ai t5)), (6, (Ai t6))], []⟩ K
def K_r02_Loose_0 (Q : QQ) : KK := kE fun st => finish 0 E0.T [.tmp 2, .tmp 3] [] Q st
def K_r02_Loose_1 (K : KK) : KK := kP [] K
theorem C_r02_Loose_3_of (t0 : LB) (t4 : Bool) (K : KK) (h :
 (Call E0.P fn_r02_Fixed [(As t0)] [] fun r0 g0 =>
 Req (qP10 g0 r0)
 (Br (t4)
 (C_r02_Loose_6 (IntKind.i64.wrap ((0 : Int) - rI (rT r0 0))) (rI (rT r0 1)) (K_r02_Loose_1 K))
 (C_r02_Loose_6 (rI (rT r0 0)) (rI (rT r0 1)) (K_r02_Loose_1 K))))) : C_r02_Loose_3 t0 t4 K := cut_rule (envN E0 nt_r02_Loose) (okE nt_r02_Loose) 3 3 (cbodyOf 3 ac_r02_Loose) [] _ K rfl (kr (by kernel_rfl) h)
theorem C_r02_Loose_6_of (t5 t6 : Int) (K : KK) (h :
 (K .ret ⟨[(2, (Ai t5)), (3, (Ai t6))], []⟩)) : C_r02_Loose_6 t5 t6 K := cut_rule (envN E0 nt_r02_Loose) (okE nt_r02_Loose) 3 6 (cbodyOf 6 ac_r02_Loose) [] _ K rfl (kr (by kernel_rfl) h)
theorem K_r02_Loose_0_x0 (Q : QQ) (t2 t3 : Int) (h :
 (Q (.tup [(Ai t2), (Ai t3)]) [])) : K_r02_Loose_0 Q .ret ⟨[(2, (Ai t2)), (3, (Ai t3))], []⟩ := kr (by kernel_rfl) h
theorem K_r02_Loose_1_x0 (K : KK) (t2 t3 : Int) (h :
 (K .ret ⟨[(2, (Ai t2)), (3, (Ai t3))], []⟩)) : K_r02_Loose_1 K .ret ⟨[(2, (Ai t2)), (3, (Ai t3))], []⟩ := kr (by kernel_rfl) h
theorem ok_r02_Loose : FnOK E0.P 115 ac_r02_Loose.code nt_r02_Loose [.tmp 2, .tmp 3] := fn_ok _ _ Try.f115 [(3, [0, 4], []), (6, [5, 6], [])] [2, 3] _ 38 Try.func115 (by kernel_rfl) (by kernel_rfl) (by kernel_rfl) (by kernel_rfl)
theorem F_r02_Loose_of (a0 : LB) (Q : QQ) (h :
 (Req ((!a0 == []) = true → (0 : Int) ≤ (0 : Int) ∧ (0 : Int) < (↑a0.length : Int))
 (Let (bif !a0 == [] then decide ((↑(a0.getD (0 : Nat) 0).toNat : Int) = (45 : Int)) else false) fun x0 =>
 Req ((!a0 == []) = true → (0 : Int) ≤ (0 : Int) ∧ (0 : Int) < (↑a0.length : Int))
 (Br ((!a0 == []) == true)
 (Req (decide ((↑(a0.getD (0 : Nat) 0).toNat : Int) = (43 : Int)) = false →
 (0 : Int) ≤ (0 : Int) ∧ (0 : Int) < (↑a0.length : Int))
 (Let (bif decide ((↑(a0.getD (0 : Nat) 0).toNat : Int) = (43 : Int)) then true
 else decide ((↑(a0.getD (0 : Nat) 0).toNat : Int) = (45 : Int))) fun x1 =>
 Let (x1) fun x2 =>
 Br (x2)
 (Req ((0 : Int) ≤ (1 : Int) ∧ (1 : Int) ≤ (↑a0.length : Int))
 (Let (List.drop 1 a0) fun x3 =>
 C_r02_Loose_3 x3 x0 (K_r02_Loose_0 Q)))
 (C_r02_Loose_3 a0 x0 (K_r02_Loose_0 Q))))
 (Req ((!true) = false)
 (Let (false) fun x4 =>
 Br (x4)
 (Req ((0 : Int) ≤ (1 : Int) ∧ (1 : Int) ≤ (↑a0.length : Int))
 (Let (List.drop 1 a0) fun x5 =>
 C_r02_Loose_3 x5 x0 (K_r02_Loose_0 Q)))
 (C_r02_Loose_3 a0 x0 (K_r02_Loose_0 Q)))))))) : Call E0.P fn_r02_Loose [(As a0)] [] Q := fun_rule (envN E0 nt_r02_Loose) (okE nt_r02_Loose) 3 0 115 ac_r02_Loose [.tmp 2, .tmp 3] ok_r02_Loose _ _ Q rfl rfl (kr (by kernel_rfl) h)
noncomputable def ac_octet_within : AC := (annot [] [4] (codeOf Try.f119) 0).1
abbrev nt_octet_within : Nat := 13
theorem ok_octet_within : FnOK E0.P 119 ac_octet_within.code nt_octet_within [.tmp 4] := fn_ok _ _ Try.f119 [] [4] _ 13 Try.func119 (by kernel_rfl) (by kernel_rfl) (by kernel_rfl) (by kernel_rfl)
theorem F_octet_within_of (a0 : LB) (a1 : Int) (Q : QQ) (h :
 (Let (bif decide ((0 : Int) ≤ a1) then decide (a1 < (↑a0.length : Int)) else false) fun x0 =>
 Q (Ab x0) [])) : Call E0.P fn_octet_within [(As a0), (Ai a1)] [] Q := fun_rule (envN E0 nt_octet_within) (okE nt_octet_within) 3 0 119 ac_octet_within [.tmp 4] ok_octet_within _ _ Q rfl rfl (kr (by kernel_rfl) h)
noncomputable def ac_octet_Kind : AC := (annot [(7, [3, 4], []), (20, [], [])] [2] (codeOf Try.f120) 0).1
abbrev nt_octet_Kind : Nat := 22
def C_octet_Kind_7 (t3 : Int) (t4 : Bool) (K : KK) : Prop := CutOK 7 E0.P nt_octet_Kind (cbodyOf 7 ac_octet_Kind).code ⟨[(3, .imm (.int .u8 t3)), (4, (Ab t4))], []⟩ K
def C_octet_Kind_20 (K : KK) : Prop := CutOK 20 E0.P nt_octet_Kind (cbodyOf 20 ac_octet_Kind).code ⟨[], []⟩ K
def K_octet_Kind_0 (Q : QQ) : KK := kE fun st => finish 0 E0.T [.tmp 2] [] Q st
def K_octet_Kind_1 (Q : QQ) : KK := kF 0 (fun st => CutOK 20 E0.P nt_octet_Kind (cbodyOf 20 ac_octet_Kind).code (mask [] st) (K_octet_Kind_0 Q)) fun st => finish 0 E0.T [.tmp 2] [] Q st
theorem C_octet_Kind_7_of (t3 : Int) (t4 : Bool) (K : KK) (h :
 (Br (t4)
 (K .ret ⟨[(2, (Ai 0))], []⟩)
 (Br (decide (t3 = (40 : Int)))
 (Br (decide (t3 = (40 : Int)))
 (K .ret ⟨[(2, (Ai 1))], []⟩)
 (K .normal ⟨[], []⟩))
 (Br (decide (t3 = (41 : Int)))
 (Br (decide (t3 = (41 : Int)))
 (K .ret ⟨[(2, (Ai 1))], []⟩)
 (K .normal ⟨[], []⟩))
 (Br (decide (t3 = (60 : Int)))
 (Br (decide (t3 = (60 : Int)))
 (K .ret ⟨[(2, (Ai 1))], []⟩)
 (K .normal ⟨[], []⟩))
 (Br (decide (t3 = (62 : Int)))
 (Br (decide (t3 = (62 : Int)))
 (K .ret ⟨[(2, (Ai 1))], []⟩)
 (K .normal ⟨[], []⟩))
 (Br (decide (t3 = (91 : Int)))
 (Br (decide (t3 = (91 : Int)))
 (K .ret ⟨[(2, (Ai 1))], []⟩)
 (K .normal ⟨[], []⟩))
 (Br (decide (t3 = (93 : Int)))
 (Br (decide (t3 = (93 : Int)))
 (K .ret ⟨[(2, (Ai 1))], []⟩)
 (K .normal ⟨[], []⟩))
 (Br (decide (t3 = (123 : Int)))
 (Br (decide (t3 = (123 : Int)))
 (K .ret ⟨[(2, (Ai 1))], []⟩)
 (K .normal ⟨[], []⟩))
 (Br (decide (t3 = (125 : Int)))
 (Br (decide (t3 = (125 : Int)))
 (K .ret ⟨[(2, (Ai 1))], []⟩)
 (K .normal ⟨[], []⟩))
 (Br (decide (t3 = (47 : Int)))
 (Br (decide (t3 = (47 : Int)))
 (K .ret ⟨[(2, (Ai 1))], []⟩)
 (K .normal ⟨[], []⟩))
 (Br (decide (t3 = (37 : Int)))
 (K .ret ⟨[(2, (Ai 1))], []⟩)
 (K .normal ⟨[], []⟩))))))))))))) : C_octet_Kind_7 t3 t4 K := cut_rule (envN E0 nt_octet_Kind) (okE nt_octet_Kind) 3 7 (cbodyOf 7 ac_octet_Kind) [] _ K rfl (kr (by kernel_rfl) h)
theorem C_octet_Kind_20_of (K : KK) (h :
 (K .ret ⟨[(2, (Ai 2))], []⟩)) : C_octet_Kind_20  K := cut_rule (envN E0 nt_octet_Kind) (okE nt_octet_Kind) 3 20 (cbodyOf 20 ac_octet_Kind) [] _ K rfl (kr (by kernel_rfl) h)
theorem K_octet_Kind_0_x0 (Q : QQ) (t2 : Int) (h :
 (Q (Ai t2) [])) : K_octet_Kind_0 Q .ret ⟨[(2, (Ai t2))], []⟩ := kr (by kernel_rfl) h
theorem K_octet_Kind_1_x0 (Q : QQ) (t2 : Int) (h :
 (Q (Ai t2) [])) : K_octet_Kind_1 Q .ret ⟨[(2, (Ai t2))], []⟩ := kr (by kernel_rfl) h
theorem K_octet_Kind_1_x1 (Q : QQ) (h :
 (C_octet_Kind_20  (K_octet_Kind_0 Q))) : K_octet_Kind_1 Q .normal ⟨[], []⟩ := kr (by kernel_rfl) h
theorem ok_octet_Kind : FnOK E0.P 120 ac_octet_Kind.code nt_octet_Kind [.tmp 2] := fn_ok _ _ Try.f120 [(7, [3, 4], []), (20, [], [])] [2] _ 22 Try.func120 (by kernel_rfl) (by kernel_rfl) (by kernel_rfl) (by kernel_rfl)
theorem F_octet_Kind_of (a0 : Int) (Q : QQ) (h :
 (Br (decide (a0 = (0 : Int)))
 (C_octet_Kind_7 a0 (decide (a0 = (0 : Int))) (K_octet_Kind_1 Q))
 (Br (decide (a0 = (9 : Int)))
 (C_octet_Kind_7 a0 (decide (a0 = (9 : Int))) (K_octet_Kind_1 Q))
 (Br (decide (a0 = (10 : Int)))
 (C_octet_Kind_7 a0 (decide (a0 = (10 : Int))) (K_octet_Kind_1 Q))
 (Br (decide (a0 = (12 : Int)))
 (C_octet_Kind_7 a0 (decide (a0 = (12 : Int))) (K_octet_Kind_1 Q))
 (Br (decide (a0 = (13 : Int)))
 (C_octet_Kind_7 a0 (decide (a0 = (13 : Int))) (K_octet_Kind_1 Q))
 (C_octet_Kind_7 a0 (decide (a0 = (32 : Int))) (K_octet_Kind_1 Q)))))))) : Call E0.P fn_octet_Kind [(.imm (.int .u8 a0))] [] Q := fun_rule (envN E0 nt_octet_Kind) (okE nt_octet_Kind) 3 0 120 ac_octet_Kind [.tmp 2] ok_octet_Kind _ _ Q rfl rfl (kr (by kernel_rfl) h)
noncomputable def ac_token_scanner_escaped : AC := (annot [] [2, 3] (codeOf Try.f122) 0).1
abbrev nt_token_scanner_escaped : Nat := 62
theorem ok_token_scanner_escaped : FnOK E0.P 122 ac_token_scanner_escaped.code nt_token_scanner_escaped [.tmp 2, .tmp 3] := fn_ok _ _ Try.f122 [] [2, 3] _ 62 Try.func122 (by kernel_rfl) (by kernel_rfl) (by kernel_rfl) (by kernel_rfl)
theorem F_token_scanner_escaped_of (s : LB) (at_ : Int) (out : LL) (Q : QQ) (h :
 (Br (decide (IntKind.i64.wrap ((↑s.length : Int) - at_) < (2 : Int)))
 (Q (.tup [(.imm (.int .u8 ((0 : Int)))), (Ab false)]) [(nA0, .blk ty_token_scanner [(As s), (Ai at_), (.own nA1)]), (nA1, .arr (ty_uint8 + 2) true 1 out)])
 (Req ((0 : Int) ≤ at_ ∧ at_ < (↑s.length : Int))
 (Req ((0 : Int) ≤ IntKind.i64.wrap (at_ + (1 : Int)) ∧ IntKind.i64.wrap (at_ + (1 : Int)) < (↑s.length : Int))
 (Call E0.P fn_octet_Hex [(.imm (.int .u8 ((↑(s.getD at_.toNat 0).toNat : Int))))] [] fun r0 g0 =>
 Req (qP7 g0 r0)
 (Call E0.P fn_octet_Hex [(.imm (.int .u8 ((↑(s.getD (IntKind.i64.wrap (at_ + (1 : Int))).toNat 0).toNat : Int))))] [] fun r1 g1 =>
 Req (qP7 g1 r1)
 (Let (bif decide (rI r0 < (0 : Int)) then true else decide (rI r1 < (0 : Int))) fun x2 =>
 Let (bif x2 then true else decide (IntKind.i64.wrap (rI r0 + rI r1) = (0 : Int))) fun x3 =>
 Br (x3)
 (Q (.tup [(.imm (.int .u8 ((0 : Int)))), (Ab false)]) [(nA0, .blk ty_token_scanner [(As s), (Ai (IntKind.i64.wrap (at_ + (2 : Int)))), (.own nA1)]), (nA1, .arr (ty_uint8 + 2) true 1 out)])
 (Req ((0 : Int) ≤ (4 : Int))
 (Q (.tup [(.imm (.int .u8 (IntKind.u8.wrap
 (IntKind.i64.wrap
 (↑(BitVec.ofInt (64 : Nat) (IntKind.i64.wrap (rI r0 * (2 : Int) ^ (4 : Nat))) |||
 BitVec.ofInt (64 : Nat) (rI r1)).toNat :
 Int))))), (Ab true)]) [(nA0, .blk ty_token_scanner [(As s), (Ai (IntKind.i64.wrap (at_ + (2 : Int)))), (.own nA1)]), (nA1, .arr (ty_uint8 + 2) true 1 out)]))))))))) : Call E0.P fn_token_scanner_escaped [(.ptr (.arg 0) 0)] [(.arg 0, .blk ty_token_scanner [.imm (.str s), .imm (.int .i64 at_), .own (.arg 1)]), (.arg 1, .arr (ty_uint8 + 2) true 1 out)] Q := fun_rule (envN E0 nt_token_scanner_escaped) (okE nt_token_scanner_escaped) 3 0 122 ac_token_scanner_escaped [.tmp 2, .tmp 3] ok_token_scanner_escaped _ _ Q rfl rfl (kr (by kernel_rfl) h)
noncomputable def ac_token_scanner_escape : AC := (annot [(21, [0, 3], [])] [2] (codeOf Try.f124) 0).1
abbrev nt_token_scanner_escape : Nat := 77
def C_token_scanner_escape_21 (t3 : Int) (u0 : LB) (u1 : Int) (u2 : LL) (K : KK) : Prop := CutOK 21 E0.P nt_token_scanner_escape (cbodyOf 21 ac_token_scanner_escape).code ⟨[(0, .ptr nA0 0), (3, .imm (.int .u8 t3))], [(nA0, .blk ty_token_scanner [(As u0), (Ai u1), (.own nA1)]), (nA1, .arr (ty_uint8 + 2) true 1 u2)]⟩ K
def K_token_scanner_escape_0 (s : LB) (at_ : Int) (out : LL) (Q : QQ) : KK := kE fun st => finish 0 E0.T [.tmp 2] [(nA0, .blk ty_token_scanner [(As s), (Ai at_), (.own nA1)]), (nA1, .arr (ty_uint8 + 2) true 1 out)] Q st
theorem C_token_scanner_escape_21_of (t3 : Int) (u0 : LB) (u1 : Int) (u2 : LL) (K : KK) (h :
 (Req ((u2.length + 1) * 1 ≤ 140737488355328 ∧ u2.length + 1 ≤ 140737488355328)
 (K .ret ⟨[(2, (Ab true))], [(nA0, .blk ty_token_scanner [(As u0), (Ai u1), (.own nA1)]), (nA1, .arr (ty_uint8 + 2) true 1 (u2 ++ [[IV.int .u8 t3]]))]⟩))) : C_token_scanner_escape_21 t3 u0 u1 u2 K := cut_rule (envN E0 nt_token_scanner_escape) (okE nt_token_scanner_escape) 3 21 (cbodyOf 21 ac_token_scanner_escape) [] _ K rfl (kr (by kernel_rfl) h)
theorem K_token_scanner_escape_0_x0 (s : LB) (at_ : Int) (out : LL) (Q : QQ) (t2 : Bool) (u0 : LB) (u1 : Int) (u2 : LL) (h :
 (Q (Ab t2) [(nA0, .blk ty_token_scanner [(As u0), (Ai u1), (.own nA1)]), (nA1, .arr (ty_uint8 + 2) true 1 u2)])) : K_token_scanner_escape_0 s at_ out Q .ret ⟨[(2, (Ab t2))], [(nA0, .blk ty_token_scanner [(As u0), (Ai u1), (.own nA1)]), (nA1, .arr (ty_uint8 + 2) true 1 u2)]⟩ := kr (by kernel_rfl) h
theorem ok_token_scanner_escape : FnOK E0.P 124 ac_token_scanner_escape.code nt_token_scanner_escape [.tmp 2] := fn_ok _ _ Try.f124 [(21, [0, 3], [])] [2] _ 77 Try.func124 (by kernel_rfl) (by kernel_rfl) (by kernel_rfl) (by kernel_rfl)
theorem F_token_scanner_escape_of (s : LB) (at_ : Int) (out : LL) (Q : QQ) (h :
 (Br (decide ((↑s.length : Int) ≤ at_))
 (Br (!false)
 (Q (Ab false) [(nA0, .blk ty_token_scanner [(As s), (Ai at_), (.own nA1)]), (nA1, .arr (ty_uint8 + 2) true 1 out)])
 (Call E0.P fn_octet_Ends [(As s), (Ai at_)] [] fun r0 g0 =>
 Req (qP7 g0 r0)
 (Br (decide ((0 : Int) < rI r0))
 (Q (Ab true) [(nA0, .blk ty_token_scanner [(As s), (Ai (IntKind.i64.wrap (at_ + rI r0))), (.own nA1)]), (nA1, .arr (ty_uint8 + 2) true 1 out)])
 (Let (bif decide ((48 : Int) ≤ (0 : Int)) then decide ((0 : Int) ≤ (55 : Int)) else false) fun x1 =>
 Br (x1)
 (((Call E0.P fn_token_scanner_octal [(.ptr nA0 0)] [(nA0, .blk ty_token_scanner [(As s), (Ai at_), (.own nA1)])] fun r2 g2 =>
 Req (qP11 g2 r2)
 (Req ((out.length + 1) * 1 ≤ 140737488355328 ∧ out.length + 1 ≤ 140737488355328)
 (Q (Ab true) [(nA0, .blk ty_token_scanner [(.imm (.str (rS ((blkOf g2 nA0).getD 0 AV.undef)))), (.imm (.int .i64 (rI ((blkOf g2 nA0).getD 1 AV.undef)))), (.own nA1)]), (nA1, .arr (ty_uint8 + 2) true 1 (out ++ [[IV.int .u8 (rI r2)]]))]))) ∧
 (Call E0.P fn_token_scanner_octal [(.ptr nA0 0)] [(nA0, .blk ty_token_scanner [(As s), (Ai at_), (.own nA1)])] fun r3 g3 =>
 Req (qP11 g3 r3)
 ((Req ((out.length + 1) * 1 ≤ 140737488355328 ∧ out.length + 1 ≤ 140737488355328)
 (Q (Ab true) [(nA0, .blk ty_token_scanner [(.imm (.str (rS ((blkOf g3 nA0).getD 0 AV.undef)))), (.imm (.int .i64 (rI ((blkOf g3 nA0).getD 1 AV.undef)))), (.own nA1)]), (nA1, .arr (ty_uint8 + 2) true 1 (out ++ [[IV.int .u8 (rI r3)]]))])) ∧
 (Req ((out.length + 1) * 1 ≤ 140737488355328 ∧ out.length + 1 ≤ 140737488355328)
 (Q (Ab true) [(nA0, .blk ty_token_scanner [(.imm (.str (rS ((blkOf g3 nA0).getD 0 AV.undef)))), (.imm (.int .i64 (rI ((blkOf g3 nA0).getD 1 AV.undef)))), (.own nA1)]), (nA1, .arr (ty_uint8 + 2) true 1 (out ++ [[IV.int .u8 (rI r3)]]))]))))) ∧
 (Call E0.P fn_token_scanner_octal [(.ptr nA0 0)] [(nA0, .blk ty_token_scanner [(As s), (Ai at_), (.own nA1)])] fun r4 g4 =>
 Req (qP11 g4 r4)
 (((Req ((out.length + 1) * 1 ≤ 140737488355328 ∧ out.length + 1 ≤ 140737488355328)
 (Q (Ab true) [(nA0, .blk ty_token_scanner [(.imm (.str (rS ((blkOf g4 nA0).getD 0 AV.undef)))), (.imm (.int .i64 (rI ((blkOf g4 nA0).getD 1 AV.undef)))), (.own nA1)]), (nA1, .arr (ty_uint8 + 2) true 1 (out ++ [[IV.int .u8 (rI r4)]]))])) ∧
 (Req ((out.length + 1) * 1 ≤ 140737488355328 ∧ out.length + 1 ≤ 140737488355328)
 (Q (Ab true) [(nA0, .blk ty_token_scanner [(.imm (.str (rS ((blkOf g4 nA0).getD 0 AV.undef)))), (.imm (.int .i64 (rI ((blkOf g4 nA0).getD 1 AV.undef)))), (.own nA1)]), (nA1, .arr (ty_uint8 + 2) true 1 (out ++ [[IV.int .u8 (rI r4)]]))]))) ∧
 (Req ((out.length + 1) * 1 ≤ 140737488355328 ∧ out.length + 1 ≤ 140737488355328)
 (Q (Ab true) [(nA0, .blk ty_token_scanner [(.imm (.str (rS ((blkOf g4 nA0).getD 0 AV.undef)))), (.imm (.int .i64 (rI ((blkOf g4 nA0).getD 1 AV.undef)))), (.own nA1)]), (nA1, .arr (ty_uint8 + 2) true 1 (out ++ [[IV.int .u8 (rI r4)]]))])))))
 (Br (decide ((0 : Int) = (110 : Int)))
 (C_token_scanner_escape_21 ((10 : Int)) s (IntKind.i64.wrap (at_ + (1 : Int))) out (K_token_scanner_escape_0 s at_ out Q))
 (Br (decide ((0 : Int) = (114 : Int)))
 (C_token_scanner_escape_21 ((13 : Int)) s (IntKind.i64.wrap (at_ + (1 : Int))) out (K_token_scanner_escape_0 s at_ out Q))
 (Br (decide ((0 : Int) = (116 : Int)))
 (C_token_scanner_escape_21 ((9 : Int)) s (IntKind.i64.wrap (at_ + (1 : Int))) out (K_token_scanner_escape_0 s at_ out Q))
 (Br (decide ((0 : Int) = (98 : Int)))
 (C_token_scanner_escape_21 ((8 : Int)) s (IntKind.i64.wrap (at_ + (1 : Int))) out (K_token_scanner_escape_0 s at_ out Q))
 (Br (decide ((0 : Int) = (102 : Int)))
 (C_token_scanner_escape_21 ((12 : Int)) s (IntKind.i64.wrap (at_ + (1 : Int))) out (K_token_scanner_escape_0 s at_ out Q))
 (C_token_scanner_escape_21 ((0 : Int)) s (IntKind.i64.wrap (at_ + (1 : Int))) out (K_token_scanner_escape_0 s at_ out Q)))))))))))
 (Req ((0 : Int) ≤ at_ ∧ at_ < (↑s.length : Int))
 (Br (!true)
 (Q (Ab false) [(nA0, .blk ty_token_scanner [(As s), (Ai at_), (.own nA1)]), (nA1, .arr (ty_uint8 + 2) true 1 out)])
 (Call E0.P fn_octet_Ends [(As s), (Ai at_)] [] fun r5 g5 =>
 Req (qP7 g5 r5)
 (Br (decide ((0 : Int) < rI r5))
 (Q (Ab true) [(nA0, .blk ty_token_scanner [(As s), (Ai (IntKind.i64.wrap (at_ + rI r5))), (.own nA1)]), (nA1, .arr (ty_uint8 + 2) true 1 out)])
 (Let (bif decide ((48 : Int) ≤ (↑(s.getD at_.toNat 0).toNat : Int)) then
 decide ((↑(s.getD at_.toNat 0).toNat : Int) ≤ (55 : Int))
 else false) fun x6 =>
 Br (x6)
 (((Call E0.P fn_token_scanner_octal [(.ptr nA0 0)] [(nA0, .blk ty_token_scanner [(As s), (Ai at_), (.own nA1)])] fun r7 g7 =>
 Req (qP11 g7 r7)
 (Req ((out.length + 1) * 1 ≤ 140737488355328 ∧ out.length + 1 ≤ 140737488355328)
 (Q (Ab true) [(nA0, .blk ty_token_scanner [(.imm (.str (rS ((blkOf g7 nA0).getD 0 AV.undef)))), (.imm (.int .i64 (rI ((blkOf g7 nA0).getD 1 AV.undef)))), (.own nA1)]), (nA1, .arr (ty_uint8 + 2) true 1 (out ++ [[IV.int .u8 (rI r7)]]))]))) ∧
 (Call E0.P fn_token_scanner_octal [(.ptr nA0 0)] [(nA0, .blk ty_token_scanner [(As s), (Ai at_), (.own nA1)])] fun r8 g8 =>
 Req (qP11 g8 r8)
 ((Req ((out.length + 1) * 1 ≤ 140737488355328 ∧ out.length + 1 ≤ 140737488355328)
 (Q (Ab true) [(nA0, .blk ty_token_scanner [(.imm (.str (rS ((blkOf g8 nA0).getD 0 AV.undef)))), (.imm (.int .i64 (rI ((blkOf g8 nA0).getD 1 AV.undef)))), (.own nA1)]), (nA1, .arr (ty_uint8 + 2) true 1 (out ++ [[IV.int .u8 (rI r8)]]))])) ∧
 (Req ((out.length + 1) * 1 ≤ 140737488355328 ∧ out.length + 1 ≤ 140737488355328)
 (Q (Ab true) [(nA0, .blk ty_token_scanner [(.imm (.str (rS ((blkOf g8 nA0).getD 0 AV.undef)))), (.imm (.int .i64 (rI ((blkOf g8 nA0).getD 1 AV.undef)))), (.own nA1)]), (nA1, .arr (ty_uint8 + 2) true 1 (out ++ [[IV.int .u8 (rI r8)]]))]))))) ∧
 (Call E0.P fn_token_scanner_octal [(.ptr nA0 0)] [(nA0, .blk ty_token_scanner [(As s), (Ai at_), (.own nA1)])] fun r9 g9 =>
 Req (qP11 g9 r9)
 (((Req ((out.length + 1) * 1 ≤ 140737488355328 ∧ out.length + 1 ≤ 140737488355328)
 (Q (Ab true) [(nA0, .blk ty_token_scanner [(.imm (.str (rS ((blkOf g9 nA0).getD 0 AV.undef)))), (.imm (.int .i64 (rI ((blkOf g9 nA0).getD 1 AV.undef)))), (.own nA1)]), (nA1, .arr (ty_uint8 + 2) true 1 (out ++ [[IV.int .u8 (rI r9)]]))])) ∧
 (Req ((out.length + 1) * 1 ≤ 140737488355328 ∧ out.length + 1 ≤ 140737488355328)
 (Q (Ab true) [(nA0, .blk ty_token_scanner [(.imm (.str (rS ((blkOf g9 nA0).getD 0 AV.undef)))), (.imm (.int .i64 (rI ((blkOf g9 nA0).getD 1 AV.undef)))), (.own nA1)]), (nA1, .arr (ty_uint8 + 2) true 1 (out ++ [[IV.int .u8 (rI r9)]]))]))) ∧
 (Req ((out.length + 1) * 1 ≤ 140737488355328 ∧ out.length + 1 ≤ 140737488355328)
 (Q (Ab true) [(nA0, .blk ty_token_scanner [(.imm (.str (rS ((blkOf g9 nA0).getD 0 AV.undef)))), (.imm (.int .i64 (rI ((blkOf g9 nA0).getD 1 AV.undef)))), (.own nA1)]), (nA1, .arr (ty_uint8 + 2) true 1 (out ++ [[IV.int .u8 (rI r9)]]))])))))
 (Br (decide ((↑(s.getD at_.toNat 0).toNat : Int) = (110 : Int)))
 (C_token_scanner_escape_21 ((10 : Int)) s (IntKind.i64.wrap (at_ + (1 : Int))) out (K_token_scanner_escape_0 s at_ out Q))
 (Br (decide ((↑(s.getD at_.toNat 0).toNat : Int) = (114 : Int)))
 (C_token_scanner_escape_21 ((13 : Int)) s (IntKind.i64.wrap (at_ + (1 : Int))) out (K_token_scanner_escape_0 s at_ out Q))
 (Br (decide ((↑(s.getD at_.toNat 0).toNat : Int) = (116 : Int)))
 (C_token_scanner_escape_21 ((9 : Int)) s (IntKind.i64.wrap (at_ + (1 : Int))) out (K_token_scanner_escape_0 s at_ out Q))
 (Br (decide ((↑(s.getD at_.toNat 0).toNat : Int) = (98 : Int)))
 (C_token_scanner_escape_21 ((8 : Int)) s (IntKind.i64.wrap (at_ + (1 : Int))) out (K_token_scanner_escape_0 s at_ out Q))
 (Br (decide ((↑(s.getD at_.toNat 0).toNat : Int) = (102 : Int)))
 (C_token_scanner_escape_21 ((12 : Int)) s (IntKind.i64.wrap (at_ + (1 : Int))) out (K_token_scanner_escape_0 s at_ out Q))
 (C_token_scanner_escape_21 ((↑(s.getD at_.toNat 0).toNat : Int)) s (IntKind.i64.wrap (at_ + (1 : Int))) out (K_token_scanner_escape_0 s at_ out Q)))))))))))))) : Call E0.P fn_token_scanner_escape [(.ptr (.arg 0) 0)] [(.arg 0, .blk ty_token_scanner [.imm (.str s), .imm (.int .i64 at_), .own (.arg 1)]), (.arg 1, .arr (ty_uint8 + 2) true 1 out)] Q := fun_rule (envN E0 nt_token_scanner_escape) (okE nt_token_scanner_escape) 3 0 124 ac_token_scanner_escape [.tmp 2] ok_token_scanner_escape _ _ Q rfl rfl (kr (by kernel_rfl) h)
noncomputable def ac_octet_Hex : AC := (annot [] [2] (codeOf Try.f126) 0).1
abbrev nt_octet_Hex : Nat := 35
theorem ok_octet_Hex : FnOK E0.P 126 ac_octet_Hex.code nt_octet_Hex [.tmp 2] := fn_ok _ _ Try.f126 [] [2] _ 35 Try.func126 (by kernel_rfl) (by kernel_rfl) (by kernel_rfl) (by kernel_rfl)
theorem F_octet_Hex_of (a0 : Int) (Q : QQ) (h :
 (Let (bif decide ((48 : Int) ≤ a0) then decide (a0 ≤ (57 : Int)) else false) fun x0 =>
 Br (x0)
 (Q (.imm (.int .i64 (IntKind.i64.wrap (IntKind.u8.wrap (a0 - (48 : Int)))))) [])
 (Let (bif decide ((65 : Int) ≤ a0) then decide (a0 ≤ (70 : Int)) else false) fun x1 =>
 Br (x1)
 (Q (.imm (.int .i64 (IntKind.i64.wrap (IntKind.i64.wrap (IntKind.u8.wrap (a0 - (65 : Int))) + (10 : Int))))) [])
 (Let (bif decide ((97 : Int) ≤ a0) then decide (a0 ≤ (102 : Int)) else false) fun x2 =>
 Br (x2)
 (Q (.imm (.int .i64 (IntKind.i64.wrap (IntKind.i64.wrap (IntKind.u8.wrap (a0 - (97 : Int))) + (10 : Int))))) [])
 (Q (Ai (-1)) []))))) : Call E0.P fn_octet_Hex [(.imm (.int .u8 a0))] [] Q := fun_rule (envN E0 nt_octet_Hex) (okE nt_octet_Hex) 3 0 126 ac_octet_Hex [.tmp 2] ok_octet_Hex _ _ Q rfl rfl (kr (by kernel_rfl) h)
noncomputable def ac_digits_Loose : AC := (annot [(4, [6, 7], [])] [2, 3] (codeOf Try.f127) 0).1
abbrev nt_digits_Loose : Nat := 23
def C_digits_Loose_4 (t6 t7 : Int) (K : KK) : Prop := CutOK 4 E0.P nt_digits_Loose (cbodyOf 4 ac_digits_Loose).code ⟨[(6, (Ai t6)), (7, (Ai t7))], []⟩ K
def K_digits_Loose_0 (Q : QQ) : KK := kE fun st => finish 0 E0.T [.tmp 2, .tmp 3] [] Q st
theorem C_digits_Loose_4_of (t6 t7 : Int) (K : KK) (h :
 (K .ret ⟨[(2, (Ai t6)), (3, (Ai t7))], []⟩)) : C_digits_Loose_4 t6 t7 K := cut_rule (envN E0 nt_digits_Loose) (okE nt_digits_Loose) 3 4 (cbodyOf 4 ac_digits_Loose) [] _ K rfl (kr (by kernel_rfl) h)
theorem K_digits_Loose_0_x0 (Q : QQ) (t2 t3 : Int) (h :
 (Q (.tup [(Ai t2), (Ai t3)]) [])) : K_digits_Loose_0 Q .ret ⟨[(2, (Ai t2)), (3, (Ai t3))], []⟩ := kr (by kernel_rfl) h
theorem ok_digits_Loose : FnOK E0.P 127 ac_digits_Loose.code nt_digits_Loose [.tmp 2, .tmp 3] := fn_ok _ _ Try.f127 [(4, [6, 7], [])] [2, 3] _ 23 Try.func127 (by kernel_rfl) (by kernel_rfl) (by kernel_rfl) (by kernel_rfl)
theorem F_digits_Loose_of (a0 : LB) (Q : QQ) (h :
 (Call E0.P fn_digits_signed [(As a0), (.imm (.str [43, 45]))] [] fun r0 g0 =>
 Req (g0 = [] ∧ r0 = .tup [.imm (.bool (rB (rT r0 0))), .imm (.str (rS (rT r0 1)))])
 (Call E0.P fn_digits_Fixed [(As (rS (rT r0 1)))] [] fun r1 g1 =>
 Req (qP10 g1 r1)
 (Br (rB (rT r0 0))
 (C_digits_Loose_4 (IntKind.i64.wrap ((0 : Int) - rI (rT r1 0))) (rI (rT r1 1)) (K_digits_Loose_0 Q))
 (C_digits_Loose_4 (rI (rT r1 0)) (rI (rT r1 1)) (K_digits_Loose_0 Q)))))) : Call E0.P fn_digits_Loose [(As a0)] [] Q := fun_rule (envN E0 nt_digits_Loose) (okE nt_digits_Loose) 3 0 127 ac_digits_Loose [.tmp 2, .tmp 3] ok_digits_Loose _ _ Q rfl rfl (kr (by kernel_rfl) h)
noncomputable def ac_r02_Fixed : AC := (annot [(1, [0, 14], [0]), (3, [0], []), (6, [0, 4, 5], []), (8, [4], []), (14, [4], [])] [2, 3] (codeOf Try.f128) 0).1
abbrev nt_r02_Fixed : Nat := 32
def C_r02_Fixed_1 (t0 : LB) (t14 : Bool) (K : KK) : Prop := CutOK 1 E0.P nt_r02_Fixed (cbodyOf 1 ac_r02_Fixed).code ⟨[(0, (As t0)), (14, (Ab t14))], []⟩ K
def C_r02_Fixed_3 (t0 : LB) (K : KK) : Prop := CutOK 3 E0.P nt_r02_Fixed (cbodyOf 3 ac_r02_Fixed).code ⟨[(0, (As t0))], []⟩ K
def L_r02_Fixed_6 (t0 : LB) (t4 t5 : Int) (K : KK) : Prop := LoopOK 6 E0.P nt_r02_Fixed (lbodyOf 6 ac_r02_Fixed).code ⟨[(0, (As t0)), (4, (Ai t4)), (5, (Ai t5))], []⟩ K
def C_r02_Fixed_14 (t4 : Int) (K : KK) : Prop := CutOK 14 E0.P nt_r02_Fixed (cbodyOf 14 ac_r02_Fixed).code ⟨[(4, (Ai t4))], []⟩ K
def K_r02_Fixed_0 (Q : QQ) : KK := kE fun st => finish 0 E0.T [.tmp 2, .tmp 3] [] Q st
def K_r02_Fixed_1 (Q : QQ) : Ex → St → Prop
 | .normal, st => CutOK 3 E0.P nt_r02_Fixed (cbodyOf 3 ac_r02_Fixed).code (mask [0] st) (K_r02_Fixed_0 Q)
 | .exit i, st => False
 | .goto i, st => False
 | .ret, st => finish 0 E0.T [.tmp 2, .tmp 3] [] Q st
def K_r02_Fixed_2 (K : KK) : KK := kP [] K
def K_r02_Fixed_3 (K : KK) : KK := kC 0 (fun st => CutOK 14 E0.P nt_r02_Fixed (cbodyOf 14 ac_r02_Fixed).code (mask [4] st) (K_r02_Fixed_2 K)) K
theorem C_r02_Fixed_1_of (t0 : LB) (t14 : Bool) (K : KK) (h :
 (Br (t14)
 (K .ret ⟨[(2, (Ai 0)), (3, (Ai 4))], []⟩)
 (K .normal ⟨[(0, (As t0))], []⟩))) : C_r02_Fixed_1 t0 t14 K := cut_rule (envN E0 nt_r02_Fixed) (okE nt_r02_Fixed) 3 1 (cbodyOf 1 ac_r02_Fixed) [0] _ K rfl (kr (by kernel_rfl) h)
theorem C_r02_Fixed_3_of (t0 : LB) (K : KK) (h :
 (L_r02_Fixed_6 t0 ((0 : Int)) ((0 : Int)) (K_r02_Fixed_3 K))) : C_r02_Fixed_3 t0 K := cut_rule (envN E0 nt_r02_Fixed) (okE nt_r02_Fixed) 3 3 (cbodyOf 3 ac_r02_Fixed) [] _ K rfl (kr (by kernel_rfl) h)
theorem L_r02_Fixed_6_of (t0 : LB) (t4 t5 : Int) (K : KK) (h :
 (Br (decide (t5 < (↑t0.length : Int)))
 (Req ((0 : Int) ≤ t5 ∧ t5 < (↑t0.length : Int))
 (Br (decide
 ((2147483647 : Int) <
 IntKind.i64.wrap
 (IntKind.i64.wrap
 (IntKind.i64.wrap ((10 : Int) * t4) + IntKind.i64.wrap (↑(t0.getD t5.toNat 0).toNat : Int)) -
 (48 : Int))))
 (K .ret ⟨[(2, (Ai 0)), (3, (Ai 3))], []⟩)
 (L_r02_Fixed_6 t0 (IntKind.i64.wrap
 (IntKind.i64.wrap
 (IntKind.i64.wrap ((10 : Int) * t4) + IntKind.i64.wrap (↑(t0.getD t5.toNat 0).toNat : Int)) -
 (48 : Int))) (IntKind.i64.wrap (t5 + (1 : Int))) K)))
 (K (.exit 0) ⟨[(4, (Ai t4))], []⟩))) : L_r02_Fixed_6 t0 t4 t5 K := loop_rule (envN E0 nt_r02_Fixed) (okE nt_r02_Fixed) 3 6 (lbodyOf 6 ac_r02_Fixed) [0, 4, 5] _ K rfl (kr (by kernel_rfl) h)
theorem C_r02_Fixed_14_of (t4 : Int) (K : KK) (h :
 (K .ret ⟨[(2, (Ai t4)), (3, (Ai 0))], []⟩)) : C_r02_Fixed_14 t4 K := cut_rule (envN E0 nt_r02_Fixed) (okE nt_r02_Fixed) 3 14 (cbodyOf 14 ac_r02_Fixed) [] _ K rfl (kr (by kernel_rfl) h)
theorem K_r02_Fixed_0_x0 (Q : QQ) (t2 t3 : Int) (h :
 (Q (.tup [(Ai t2), (Ai t3)]) [])) : K_r02_Fixed_0 Q .ret ⟨[(2, (Ai t2)), (3, (Ai t3))], []⟩ := kr (by kernel_rfl) h
theorem K_r02_Fixed_1_x0 (Q : QQ) (t2 t3 : Int) (h :
 (Q (.tup [(Ai t2), (Ai t3)]) [])) : K_r02_Fixed_1 Q .ret ⟨[(2, (Ai t2)), (3, (Ai t3))], []⟩ := kr (by kernel_rfl) h
theorem K_r02_Fixed_1_x1 (Q : QQ) (t0 : LB) (h :
 (C_r02_Fixed_3 t0 (K_r02_Fixed_0 Q))) : K_r02_Fixed_1 Q .normal ⟨[(0, (As t0))], []⟩ := kr (by kernel_rfl) h
theorem K_r02_Fixed_2_x0 (K : KK) (t2 t3 : Int) (h :
 (K .ret ⟨[(2, (Ai t2)), (3, (Ai t3))], []⟩)) : K_r02_Fixed_2 K .ret ⟨[(2, (Ai t2)), (3, (Ai t3))], []⟩ := kr (by kernel_rfl) h
theorem K_r02_Fixed_3_x0 (K : KK) (t2 t3 : Int) (h :
 (K .ret ⟨[(2, (Ai t2)), (3, (Ai t3))], []⟩)) : K_r02_Fixed_3 K .ret ⟨[(2, (Ai t2)), (3, (Ai t3))], []⟩ := kr (by kernel_rfl) h
theorem K_r02_Fixed_3_x1 (K : KK) (t4 : Int) (h :
 (C_r02_Fixed_14 t4 (K_r02_Fixed_2 K))) : K_r02_Fixed_3 K (.exit 0) ⟨[(4, (Ai t4))], []⟩ := kr (by kernel_rfl) h
theorem ok_r02_Fixed : FnOK E0.P 128 ac_r02_Fixed.code nt_r02_Fixed [.tmp 2, .tmp 3] := fn_ok _ _ Try.f128 [(1, [0, 14], [0]), (3, [0], []), (6, [0, 4, 5], []), (8, [4], []), (14, [4], [])] [2, 3] _ 32 Try.func128 (by kernel_rfl) (by kernel_rfl) (by kernel_rfl) (by kernel_rfl)
theorem F_r02_Fixed_of (a0 : LB) (Q : QQ) (h :
 (Br ((a0 == []) == false)
 (Call E0.P fn_r02_Count [(As a0)] [] fun r0 g0 =>
 Req (qP7 g0 r0)
 (Let (!decide (rI r0 = (↑a0.length : Int))) fun x1 =>
 C_r02_Fixed_1 a0 x1 (K_r02_Fixed_1 Q)))
 (Req ((!false) = true)
 (Let (true) fun x2 =>
 C_r02_Fixed_1 a0 x2 (K_r02_Fixed_1 Q))))) : Call E0.P fn_r02_Fixed [(As a0)] [] Q := fun_rule (envN E0 nt_r02_Fixed) (okE nt_r02_Fixed) 3 0 128 ac_r02_Fixed [.tmp 2, .tmp 3] ok_r02_Fixed _ _ Q rfl rfl (kr (by kernel_rfl) h)
noncomputable def ac_token_scanner_octal : AC := (annot [(3, [0, 3, 6], []), (5, [3], []), (9, [3], []), (13, [3], [])] [2] (codeOf Try.f133) 0).1
abbrev nt_token_scanner_octal : Nat := 39
def L_token_scanner_octal_3 (t3 t6 : Int) (u0 : LB) (u1 : Int) (K : KK) : Prop := LoopOK 3 E0.P nt_token_scanner_octal (lbodyOf 3 ac_token_scanner_octal).code ⟨[(0, .ptr nA0 0), (3, (Ai t3)), (6, (Ai t6))], [(nA0, .blk ty_token_scanner [(As u0), (Ai u1), (.own nA1)])]⟩ K
def C_token_scanner_octal_13 (t3 : Int) (u0 : LB) (u1 : Int) (K : KK) : Prop := CutOK 13 E0.P nt_token_scanner_octal (cbodyOf 13 ac_token_scanner_octal).code ⟨[(3, (Ai t3))], [(nA0, .blk ty_token_scanner [(As u0), (Ai u1), (.own nA1)])]⟩ K
def K_token_scanner_octal_0 (s : LB) (at_ : Int) (Q : QQ) : KK := kE fun st => finish (4) E0.T [.tmp 2] [(nA0, .blk ty_token_scanner [(As s), (Ai at_), (.own nA1)])] Q st
def K_token_scanner_octal_1 (s : LB) (at_ : Int) (Q : QQ) : KK := kF 0 (fun st => CutOK 13 E0.P nt_token_scanner_octal (cbodyOf 13 ac_token_scanner_octal).code (mask [3] st) (K_token_scanner_octal_0 s at_ Q)) fun st => finish (4) E0.T [.tmp 2] [(nA0, .blk ty_token_scanner [(As s), (Ai at_), (.own nA1)])] Q st
theorem L_token_scanner_octal_3_of (t3 t6 : Int) (u0 : LB) (u1 : Int) (K : KK) (h :
 (Br (decide (t6 < (3 : Int)))
 (Br (decide ((↑u0.length : Int) ≤ u1))
 (Let (bif !false then true else decide ((0 : Int) < (48 : Int))) fun x0 =>
 Let (bif x0 then true else decide ((55 : Int) < (0 : Int))) fun x1 =>
 Br (x1)
 (K (.exit 0) ⟨[(3, (Ai t3))], [(nA0, .blk ty_token_scanner [(As u0), (Ai u1), (.own nA1)])]⟩)
 (Req ((0 : Int) ≤ (3 : Int))
 (L_token_scanner_octal_3 (IntKind.i64.wrap
 (↑(BitVec.ofInt (64 : Nat) (IntKind.i64.wrap (t3 * (2 : Int) ^ (3 : Nat))) |||
 BitVec.ofInt (64 : Nat) (IntKind.i64.wrap (IntKind.u8.wrap ((0 : Int) - (48 : Int))))).toNat :
 Int)) (IntKind.i64.wrap (t6 + (1 : Int))) u0 (IntKind.i64.wrap (u1 + (1 : Int))) K)))
 (Req ((0 : Int) ≤ u1 ∧ u1 < (↑u0.length : Int))
 (Let (bif !true then true else decide ((↑(u0.getD u1.toNat 0).toNat : Int) < (48 : Int))) fun x2 =>
 Let (bif x2 then true else decide ((55 : Int) < (↑(u0.getD u1.toNat 0).toNat : Int))) fun x3 =>
 Br (x3)
 (K (.exit 0) ⟨[(3, (Ai t3))], [(nA0, .blk ty_token_scanner [(As u0), (Ai u1), (.own nA1)])]⟩)
 (Req ((0 : Int) ≤ (3 : Int))
 (L_token_scanner_octal_3 (IntKind.i64.wrap
 (↑(BitVec.ofInt (64 : Nat) (IntKind.i64.wrap (t3 * (2 : Int) ^ (3 : Nat))) |||
 BitVec.ofInt (64 : Nat)
 (IntKind.i64.wrap
 (IntKind.u8.wrap ((↑(u0.getD u1.toNat 0).toNat : Int) - (48 : Int))))).toNat :
 Int)) (IntKind.i64.wrap (t6 + (1 : Int))) u0 (IntKind.i64.wrap (u1 + (1 : Int))) K)))))
 (K (.exit 0) ⟨[(3, (Ai t3))], [(nA0, .blk ty_token_scanner [(As u0), (Ai u1), (.own nA1)])]⟩))) : L_token_scanner_octal_3 t3 t6 u0 u1 K := loop_rule (envN E0 nt_token_scanner_octal) (okE nt_token_scanner_octal) 3 3 (lbodyOf 3 ac_token_scanner_octal) [0, 3, 6] _ K rfl (kr (by kernel_rfl) h)
theorem C_token_scanner_octal_13_of (t3 : Int) (u0 : LB) (u1 : Int) (K : KK) (h :
 (K .ret ⟨[(2, .imm (.int .u8 (IntKind.u8.wrap t3)))], [(nA0, .blk ty_token_scanner [(As u0), (Ai u1), (.own nA1)])]⟩)) : C_token_scanner_octal_13 t3 u0 u1 K := cut_rule (envN E0 nt_token_scanner_octal) (okE nt_token_scanner_octal) 3 13 (cbodyOf 13 ac_token_scanner_octal) [] _ K rfl (kr (by kernel_rfl) h)
theorem K_token_scanner_octal_0_x0 (s : LB) (at_ : Int) (Q : QQ) (t2 : Int) (u0 : LB) (u1 : Int) (h :
 (Q (.imm (.int .u8 t2)) [(nA0, .blk ty_token_scanner [(As u0), (Ai u1), (.own nA1)])])) : K_token_scanner_octal_0 s at_ Q .ret ⟨[(2, .imm (.int .u8 t2))], [(nA0, .blk ty_token_scanner [(As u0), (Ai u1), (.own nA1)])]⟩ := kr (by kernel_rfl) h
theorem K_token_scanner_octal_1_x0 (s : LB) (at_ : Int) (Q : QQ) (t3 : Int) (u0 : LB) (u1 : Int) (h :
 (C_token_scanner_octal_13 t3 u0 u1 (K_token_scanner_octal_0 s at_ Q))) : K_token_scanner_octal_1 s at_ Q (.exit 0) ⟨[(3, (Ai t3))], [(nA0, .blk ty_token_scanner [(As u0), (Ai u1), (.own nA1)])]⟩ := kr (by kernel_rfl) h
theorem ok_token_scanner_octal : FnOK E0.P 133 ac_token_scanner_octal.code nt_token_scanner_octal [.tmp 2] := fn_ok _ _ Try.f133 [(3, [0, 3, 6], []), (5, [3], []), (9, [3], []), (13, [3], [])] [2] _ 39 Try.func133 (by kernel_rfl) (by kernel_rfl) (by kernel_rfl) (by kernel_rfl)
theorem F_token_scanner_octal_of (s : LB) (at_ : Int) (Q : QQ) (h :
 (L_token_scanner_octal_3 ((0 : Int)) ((0 : Int)) s at_ (K_token_scanner_octal_1 s at_ Q))) : Call E0.P fn_token_scanner_octal [(.ptr (.arg 0) 0)] [(.arg 0, .blk ty_token_scanner [.imm (.str s), .imm (.int .i64 at_), .own (.arg 1)])] Q := fun_rule (envN E0 nt_token_scanner_octal) (okE nt_token_scanner_octal) 3 4 133 ac_token_scanner_octal [.tmp 2] ok_token_scanner_octal _ _ Q rfl rfl (kr (by kernel_rfl) h)
noncomputable def ac_digits_signed : AC := (annot [(1, [0, 14], [0]), (3, [0], [])] [4, 5] (codeOf Try.f134) 0).1
abbrev nt_digits_signed : Nat := 21
def C_digits_signed_1 (t0 : LB) (t14 : Bool) (K : KK) : Prop := CutOK 1 E0.P nt_digits_signed (cbodyOf 1 ac_digits_signed).code ⟨[(0, (As t0)), (14, (Ab t14))], []⟩ K
def C_digits_signed_3 (t0 : LB) (K : KK) : Prop := CutOK 3 E0.P nt_digits_signed (cbodyOf 3 ac_digits_signed).code ⟨[(0, (As t0))], []⟩ K
def K_digits_signed_0 (Q : QQ) : KK := kE fun st => finish 0 E0.T [.tmp 4, .tmp 5] [] Q st
def K_digits_signed_1 (Q : QQ) : Ex → St → Prop
 | .normal, st => CutOK 3 E0.P nt_digits_signed (cbodyOf 3 ac_digits_signed).code (mask [0] st) (K_digits_signed_0 Q)
 | .exit i, st => False
 | .goto i, st => False
 | .ret, st => finish 0 E0.T [.tmp 4, .tmp 5] [] Q st
theorem C_digits_signed_1_of (t0 : LB) (t14 : Bool) (K : KK) (h :
 (Br (t14)
 (K .ret ⟨[(4, (Ab false)), (5, (As t0))], []⟩)
 (K .normal ⟨[(0, (As t0))], []⟩))) : C_digits_signed_1 t0 t14 K := cut_rule (envN E0 nt_digits_signed) (okE nt_digits_signed) 3 1 (cbodyOf 1 ac_digits_signed) [0] _ K rfl (kr (by kernel_rfl) h)
theorem C_digits_signed_3_of (t0 : LB) (K : KK) (h :
 (Req ((0 : Int) ≤ (0 : Int) ∧ (0 : Int) < (↑t0.length : Int))
 (Req ((0 : Int) ≤ (1 : Int) ∧ (1 : Int) ≤ (↑t0.length : Int))
 (Let (List.drop 1 t0) fun x0 =>
 K .ret ⟨[(4, .imm (.bool (decide ((↑(t0.getD (0 : Nat) 0).toNat : Int) = (45 : Int))))), (5, (As x0))], []⟩)))) : C_digits_signed_3 t0 K := cut_rule (envN E0 nt_digits_signed) (okE nt_digits_signed) 3 3 (cbodyOf 3 ac_digits_signed) [] _ K rfl (kr (by kernel_rfl) h)
theorem K_digits_signed_0_x0 (Q : QQ) (t4 : Bool) (t5 : LB) (h :
 (Q (.tup [(Ab t4), (As t5)]) [])) : K_digits_signed_0 Q .ret ⟨[(4, (Ab t4)), (5, (As t5))], []⟩ := kr (by kernel_rfl) h
theorem K_digits_signed_1_x0 (Q : QQ) (t4 : Bool) (t5 : LB) (h :
 (Q (.tup [(Ab t4), (As t5)]) [])) : K_digits_signed_1 Q .ret ⟨[(4, (Ab t4)), (5, (As t5))], []⟩ := kr (by kernel_rfl) h
theorem K_digits_signed_1_x1 (Q : QQ) (t0 : LB) (h :
 (C_digits_signed_3 t0 (K_digits_signed_0 Q))) : K_digits_signed_1 Q .normal ⟨[(0, (As t0))], []⟩ := kr (by kernel_rfl) h
theorem ok_digits_signed : FnOK E0.P 134 ac_digits_signed.code nt_digits_signed [.tmp 4, .tmp 5] := fn_ok _ _ Try.f134 [(1, [0, 14], [0]), (3, [0], [])] [4, 5] _ 21 Try.func134 (by kernel_rfl) (by kernel_rfl) (by kernel_rfl) (by kernel_rfl)
theorem F_digits_signed_of (a0 a1 : LB) (Q : QQ) (h :
 (Req ((a0 == []) = false → (0 : Int) ≤ (1 : Int) ∧ (1 : Int) ≤ (↑a0.length : Int))
 (Let (List.take 1 a0) fun x0 =>
 Br ((a0 == []) == false)
 (Call E0.P fn_strings_Contains [(As a1), (As x0)] [] fun r1 g1 =>
 Req (qP0 g1 r1)
 (Let (!rB r1) fun x2 =>
 C_digits_signed_1 a0 x2 (K_digits_signed_1 Q)))
 (Req ((!false) = true)
 (Let (true) fun x3 =>
 C_digits_signed_1 a0 x3 (K_digits_signed_1 Q)))))) : Call E0.P fn_digits_signed [(As a0), (As a1)] [] Q := fun_rule (envN E0 nt_digits_signed) (okE nt_digits_signed) 3 0 134 ac_digits_signed [.tmp 4, .tmp 5] ok_digits_signed _ _ Q rfl rfl (kr (by kernel_rfl) h)
noncomputable def ac_digits_Fixed : AC := (annot [(1, [0, 15], [0]), (3, [0], []), (7, [4, 5, 6], []), (9, [5], []), (15, [5], [])] [2, 3] (codeOf Try.f135) 0).1
abbrev nt_digits_Fixed : Nat := 31
def C_digits_Fixed_1 (t0 : LB) (t15 : Bool) (K : KK) : Prop := CutOK 1 E0.P nt_digits_Fixed (cbodyOf 1 ac_digits_Fixed).code ⟨[(0, (As t0)), (15, (Ab t15))], []⟩ K
def C_digits_Fixed_3 (t0 : LB) (K : KK) : Prop := CutOK 3 E0.P nt_digits_Fixed (cbodyOf 3 ac_digits_Fixed).code ⟨[(0, (As t0))], []⟩ K
def L_digits_Fixed_7 (t5 t6 u0 : Int) (u1 : LB) (K : KK) : Prop := LoopOK 7 E0.P nt_digits_Fixed (lbodyOf 7 ac_digits_Fixed).code ⟨[(4, .fn fn_digits_taker_1 [(.ptr (Nm.sub 17 nL3) 0), (.ptr (Nm.sub 17 nL1) 0)]), (5, (Ai t5)), (6, (Ai t6))], [((Nm.sub 17 nL3), .blk ty_int [(Ai u0)]), ((Nm.sub 17 nL1), .blk ty_string [(As u1)])]⟩ K
def C_digits_Fixed_15 (t5 : Int) (K : KK) : Prop := CutOK 15 E0.P nt_digits_Fixed (cbodyOf 15 ac_digits_Fixed).code ⟨[(5, (Ai t5))], []⟩ K
def K_digits_Fixed_0 (Q : QQ) : KK := kE fun st => finish 0 E0.T [.tmp 2, .tmp 3] [] Q st
def K_digits_Fixed_1 (Q : QQ) : Ex → St → Prop
 | .normal, st => CutOK 3 E0.P nt_digits_Fixed (cbodyOf 3 ac_digits_Fixed).code (mask [0] st) (K_digits_Fixed_0 Q)
 | .exit i, st => False
 | .goto i, st => False
 | .ret, st => finish 0 E0.T [.tmp 2, .tmp 3] [] Q st
def K_digits_Fixed_2 (K : KK) : KK := kP [] K
def K_digits_Fixed_3 (K : KK) : KK := kC 0 (fun st => CutOK 15 E0.P nt_digits_Fixed (cbodyOf 15 ac_digits_Fixed).code (mask [5] st) (K_digits_Fixed_2 K)) K
theorem C_digits_Fixed_1_of (t0 : LB) (t15 : Bool) (K : KK) (h :
 (Br (t15)
 (K .ret ⟨[(2, (Ai 0)), (3, (Ai 4))], []⟩)
 (K .normal ⟨[(0, (As t0))], []⟩))) : C_digits_Fixed_1 t0 t15 K := cut_rule (envN E0 nt_digits_Fixed) (okE nt_digits_Fixed) 3 1 (cbodyOf 1 ac_digits_Fixed) [0] _ K rfl (kr (by kernel_rfl) h)
theorem C_digits_Fixed_3_of (t0 : LB) (K : KK) (h :
 (Req (decide ((↑t0.length : Int) ≤ (0 : Int)) = false → (0 : Int) ≤ (0 : Int) ∧ (0 : Int) < (↑t0.length : Int))
 (Br (decide ((↑t0.length : Int) ≤ (0 : Int)) == false)
 (Call E0.P fn_digits_digit [(.imm (.int .i32 (IntKind.i32.wrap (↑(t0.getD (0 : Nat) 0).toNat : Int))))] [] fun r0 g0 =>
 Req (qP0 g0 r0)
 (Let (!rB r0) fun x1 =>
 Br (x1)
 (L_digits_Fixed_7 ((0 : Int)) ((-1 : Int)) ((0 : Int)) t0 (K_digits_Fixed_3 K))
 (Req ((0 : Int) ≤ IntKind.i64.wrap (IntKind.i64.wrap ((0 : Int) + (1 : Int)) - (1 : Int)) ∧
 IntKind.i64.wrap (IntKind.i64.wrap ((0 : Int) + (1 : Int)) - (1 : Int)) < (↑t0.length : Int))
 (L_digits_Fixed_7 ((0 : Int)) (IntKind.i64.wrap (IntKind.u8.wrap ((↑(t0.getD (0 : Nat) 0).toNat : Int) - (48 : Int)))) (IntKind.i64.wrap ((0 : Int) + (1 : Int))) t0 (K_digits_Fixed_3 K)))))
 (Req ((!false) = true)
 (Let (true) fun x2 =>
 Br (x2)
 (L_digits_Fixed_7 ((0 : Int)) ((-1 : Int)) ((0 : Int)) t0 (K_digits_Fixed_3 K))
 (Req ((0 : Int) ≤ IntKind.i64.wrap (IntKind.i64.wrap ((0 : Int) + (1 : Int)) - (1 : Int)) ∧
 IntKind.i64.wrap (IntKind.i64.wrap ((0 : Int) + (1 : Int)) - (1 : Int)) < (↑t0.length : Int))
 (L_digits_Fixed_7 ((0 : Int)) (IntKind.i64.wrap (IntKind.u8.wrap ((↑(t0.getD (0 : Nat) 0).toNat : Int) - (48 : Int)))) (IntKind.i64.wrap ((0 : Int) + (1 : Int))) t0 (K_digits_Fixed_3 K)))))))) : C_digits_Fixed_3 t0 K := cut_rule (envN E0 nt_digits_Fixed) (okE nt_digits_Fixed) 3 3 (cbodyOf 3 ac_digits_Fixed) [] _ K rfl (kr (by kernel_rfl) h)
theorem L_digits_Fixed_7_of (t5 t6 u0 : Int) (u1 : LB) (K : KK) (h :
 (Br (decide ((0 : Int) ≤ t6))
 (Br (decide ((2147483647 : Int) < IntKind.i64.wrap (IntKind.i64.wrap ((10 : Int) * t5) + t6)))
 (K .ret ⟨[(2, (Ai 0)), (3, (Ai 3))], []⟩)
 (Req (decide ((↑u1.length : Int) ≤ u0) = false → (0 : Int) ≤ u0 ∧ u0 < (↑u1.length : Int))
 (Br (decide ((↑u1.length : Int) ≤ u0) == false)
 (Call E0.P fn_digits_digit [(.imm (.int .i32 (IntKind.i32.wrap (↑(u1.getD u0.toNat 0).toNat : Int))))] [] fun r0 g0 =>
 Req (qP0 g0 r0)
 (Let (!rB r0) fun x1 =>
 Br (x1)
 (L_digits_Fixed_7 (IntKind.i64.wrap (IntKind.i64.wrap ((10 : Int) * t5) + t6)) ((-1 : Int)) u0 u1 K)
 (Req ((0 : Int) ≤ IntKind.i64.wrap (IntKind.i64.wrap (u0 + (1 : Int)) - (1 : Int)) ∧
 IntKind.i64.wrap (IntKind.i64.wrap (u0 + (1 : Int)) - (1 : Int)) < (↑u1.length : Int))
 (L_digits_Fixed_7 (IntKind.i64.wrap (IntKind.i64.wrap ((10 : Int) * t5) + t6)) (IntKind.i64.wrap
 (IntKind.u8.wrap
 ((↑(u1.getD (IntKind.i64.wrap (IntKind.i64.wrap (u0 + (1 : Int)) - (1 : Int))).toNat 0).toNat :
 Int) -
 (48 : Int)))) (IntKind.i64.wrap (u0 + (1 : Int))) u1 K))))
 (Req ((!false) = true)
 (Let (true) fun x2 =>
 Br (x2)
 (L_digits_Fixed_7 (IntKind.i64.wrap (IntKind.i64.wrap ((10 : Int) * t5) + t6)) ((-1 : Int)) u0 u1 K)
 (Req ((0 : Int) ≤ IntKind.i64.wrap (IntKind.i64.wrap (u0 + (1 : Int)) - (1 : Int)) ∧
 IntKind.i64.wrap (IntKind.i64.wrap (u0 + (1 : Int)) - (1 : Int)) < (↑u1.length : Int))
 (L_digits_Fixed_7 (IntKind.i64.wrap (IntKind.i64.wrap ((10 : Int) * t5) + t6)) (IntKind.i64.wrap
 (IntKind.u8.wrap
 ((↑(u1.getD (IntKind.i64.wrap (IntKind.i64.wrap (u0 + (1 : Int)) - (1 : Int))).toNat 0).toNat :
 Int) -
 (48 : Int)))) (IntKind.i64.wrap (u0 + (1 : Int))) u1 K)))))))
 (K (.exit 0) ⟨[(5, (Ai t5))], []⟩))) : L_digits_Fixed_7 t5 t6 u0 u1 K := loop_rule (envN E0 nt_digits_Fixed) (okE nt_digits_Fixed) 3 7 (lbodyOf 7 ac_digits_Fixed) [4, 5, 6] _ K rfl (kr (by kernel_rfl) h)
theorem C_digits_Fixed_15_of (t5 : Int) (K : KK) (h :
 (K .ret ⟨[(2, (Ai t5)), (3, (Ai 0))], []⟩)) : C_digits_Fixed_15 t5 K := cut_rule (envN E0 nt_digits_Fixed) (okE nt_digits_Fixed) 3 15 (cbodyOf 15 ac_digits_Fixed) [] _ K rfl (kr (by kernel_rfl) h)
theorem K_digits_Fixed_0_x0 (Q : QQ) (t2 t3 : Int) (h :
 (Q (.tup [(Ai t2), (Ai t3)]) [])) : K_digits_Fixed_0 Q .ret ⟨[(2, (Ai t2)), (3, (Ai t3))], []⟩ := kr (by kernel_rfl) h
theorem K_digits_Fixed_1_x0 (Q : QQ) (t2 t3 : Int) (h :
 (Q (.tup [(Ai t2), (Ai t3)]) [])) : K_digits_Fixed_1 Q .ret ⟨[(2, (Ai t2)), (3, (Ai t3))], []⟩ := kr (by kernel_rfl) h
theorem K_digits_Fixed_1_x1 (Q : QQ) (t0 : LB) (h :
 (C_digits_Fixed_3 t0 (K_digits_Fixed_0 Q))) : K_digits_Fixed_1 Q .normal ⟨[(0, (As t0))], []⟩ := kr (by kernel_rfl) h
theorem K_digits_Fixed_2_x0 (K : KK) (t2 t3 : Int) (h :
 (K .ret ⟨[(2, (Ai t2)), (3, (Ai t3))], []⟩)) : K_digits_Fixed_2 K .ret ⟨[(2, (Ai t2)), (3, (Ai t3))], []⟩ := kr (by kernel_rfl) h
theorem K_digits_Fixed_3_x0 (K : KK) (t2 t3 : Int) (h :
 (K .ret ⟨[(2, (Ai t2)), (3, (Ai t3))], []⟩)) : K_digits_Fixed_3 K .ret ⟨[(2, (Ai t2)), (3, (Ai t3))], []⟩ := kr (by kernel_rfl) h
theorem K_digits_Fixed_3_x1 (K : KK) (t5 : Int) (h :
 (C_digits_Fixed_15 t5 (K_digits_Fixed_2 K))) : K_digits_Fixed_3 K (.exit 0) ⟨[(5, (Ai t5))], []⟩ := kr (by kernel_rfl) h
theorem ok_digits_Fixed : FnOK E0.P 135 ac_digits_Fixed.code nt_digits_Fixed [.tmp 2, .tmp 3] := fn_ok _ _ Try.f135 [(1, [0, 15], [0]), (3, [0], []), (7, [4, 5, 6], []), (9, [5], []), (15, [5], [])] [2, 3] _ 31 Try.func135 (by kernel_rfl) (by kernel_rfl) (by kernel_rfl) (by kernel_rfl)
theorem F_digits_Fixed_of (a0 : LB) (Q : QQ) (h :
 (Br ((a0 == []) == false)
 (Call E0.P fn_digits_Count [(As a0)] [] fun r0 g0 =>
 Req (qP7 g0 r0)
 (Let (!decide (rI r0 = (↑a0.length : Int))) fun x1 =>
 C_digits_Fixed_1 a0 x1 (K_digits_Fixed_1 Q)))
 (Req ((!false) = true)
 (Let (true) fun x2 =>
 C_digits_Fixed_1 a0 x2 (K_digits_Fixed_1 Q))))) : Call E0.P fn_digits_Fixed [(As a0)] [] Q := fun_rule (envN E0 nt_digits_Fixed) (okE nt_digits_Fixed) 3 0 135 ac_digits_Fixed [.tmp 2, .tmp 3] ok_digits_Fixed _ _ Q rfl rfl (kr (by kernel_rfl) h)
noncomputable def ac_r02_Count : AC := (annot [(2, [0, 3], []), (4, [3], []), (6, [3], [])] [2] (codeOf Try.f136) 0).1
abbrev nt_r02_Count : Nat := 23
def L_r02_Count_2 (t0 : LB) (t3 : Int) (K : KK) : Prop := LoopOK 2 E0.P nt_r02_Count (lbodyOf 2 ac_r02_Count).code ⟨[(0, (As t0)), (3, (Ai t3))], []⟩ K
def C_r02_Count_6 (t3 : Int) (K : KK) : Prop := CutOK 6 E0.P nt_r02_Count (cbodyOf 6 ac_r02_Count).code ⟨[(3, (Ai t3))], []⟩ K
def K_r02_Count_0 (Q : QQ) : KK := kE fun st => finish 0 E0.T [.tmp 2] [] Q st
def K_r02_Count_1 (Q : QQ) : KK := kF 0 (fun st => CutOK 6 E0.P nt_r02_Count (cbodyOf 6 ac_r02_Count).code (mask [3] st) (K_r02_Count_0 Q)) fun st => finish 0 E0.T [.tmp 2] [] Q st
theorem L_r02_Count_2_of (t0 : LB) (t3 : Int) (K : KK) (h :
 (Req (decide (t3 < (↑t0.length : Int)) = true → (0 : Int) ≤ t3 ∧ t3 < (↑t0.length : Int))
 (Let (bif decide (t3 < (↑t0.length : Int)) then decide ((48 : Int) ≤ (↑(t0.getD t3.toNat 0).toNat : Int)) else false) fun x0 =>
 Req (x0 = true → (0 : Int) ≤ t3 ∧ t3 < (↑t0.length : Int))
 (Let (bif x0 then decide ((↑(t0.getD t3.toNat 0).toNat : Int) ≤ (57 : Int)) else false) fun x1 =>
 Br (x1)
 (L_r02_Count_2 t0 (IntKind.i64.wrap (t3 + (1 : Int))) K)
 (K (.exit 0) ⟨[(3, (Ai t3))], []⟩))))) : L_r02_Count_2 t0 t3 K := loop_rule (envN E0 nt_r02_Count) (okE nt_r02_Count) 3 2 (lbodyOf 2 ac_r02_Count) [0, 3] _ K rfl (kr (by kernel_rfl) h)
theorem C_r02_Count_6_of (t3 : Int) (K : KK) (h :
 (K .ret ⟨[(2, (Ai t3))], []⟩)) : C_r02_Count_6 t3 K := cut_rule (envN E0 nt_r02_Count) (okE nt_r02_Count) 3 6 (cbodyOf 6 ac_r02_Count) [] _ K rfl (kr (by kernel_rfl) h)
theorem K_r02_Count_0_x0 (Q : QQ) (t2 : Int) (h :
 (Q (Ai t2) [])) : K_r02_Count_0 Q .ret ⟨[(2, (Ai t2))], []⟩ := kr (by kernel_rfl) h
theorem K_r02_Count_1_x0 (Q : QQ) (t3 : Int) (h :
 (C_r02_Count_6 t3 (K_r02_Count_0 Q))) : K_r02_Count_1 Q (.exit 0) ⟨[(3, (Ai t3))], []⟩ := kr (by kernel_rfl) h
theorem ok_r02_Count : FnOK E0.P 136 ac_r02_Count.code nt_r02_Count [.tmp 2] := fn_ok _ _ Try.f136 [(2, [0, 3], []), (4, [3], []), (6, [3], [])] [2] _ 23 Try.func136 (by kernel_rfl) (by kernel_rfl) (by kernel_rfl) (by kernel_rfl)
theorem F_r02_Count_of (a0 : LB) (Q : QQ) (h :
 (L_r02_Count_2 a0 ((0 : Int)) (K_r02_Count_1 Q))) : Call E0.P fn_r02_Count [(As a0)] [] Q := fun_rule (envN E0 nt_r02_Count) (okE nt_r02_Count) 3 0 136 ac_r02_Count [.tmp 2] ok_r02_Count _ _ Q rfl rfl (kr (by kernel_rfl) h)
noncomputable def ac_digits_Count : AC := (annot [(2, [0, 6], []), (4, [0], []), (9, [0], [])] [2] (codeOf Try.f139) 0).1
abbrev nt_digits_Count : Nat := 17
def L_digits_Count_2 (t0 h6s : LB) (h6p : Nat) (K : KK) : Prop := LoopOK 2 E0.P nt_digits_Count (lbodyOf 2 ac_digits_Count).code ⟨[(0, (As t0)), (6, .ptr nL6 0)], [(nL6, .sit h6s h6p)]⟩ K
def C_digits_Count_9 (t0 : LB) (K : KK) : Prop := CutOK 9 E0.P nt_digits_Count (cbodyOf 9 ac_digits_Count).code ⟨[(0, (As t0))], []⟩ K
def K_digits_Count_0 (Q : QQ) : KK := kE fun st => finish 0 E0.T [.tmp 2] [] Q st
def K_digits_Count_1 (Q : QQ) : KK := kF 0 (fun st => CutOK 9 E0.P nt_digits_Count (cbodyOf 9 ac_digits_Count).code (mask [0] st) (K_digits_Count_0 Q)) fun st => finish 0 E0.T [.tmp 2] [] Q st
theorem L_digits_Count_2_of (t0 h6s : LB) (h6p : Nat) (K : KK) (h :
 (Br (decide (h6p < h6s.length))
 (Br (true)
 (Call E0.P fn_digits_digit [(.imm (.int .i32 ((↑(decodeAt h6s h6p).fst : Int))))] [] fun r0 g0 =>
 Req (qP0 g0 r0)
 (Br (!rB r0)
 (K .ret ⟨[(2, (Ai ((↑h6p : Int))))], []⟩)
 (L_digits_Count_2 t0 h6s (h6p + (decodeAt h6s h6p).snd) K)))
 (K (.exit 0) ⟨[(0, (As t0))], []⟩))
 (Br (false)
 (False)
 (K (.exit 0) ⟨[(0, (As t0))], []⟩)))) : L_digits_Count_2 t0 h6s h6p K := loop_rule (envN E0 nt_digits_Count) (okE nt_digits_Count) 3 2 (lbodyOf 2 ac_digits_Count) [0, 6] _ K rfl (kr (by kernel_rfl) h)
theorem C_digits_Count_9_of (t0 : LB) (K : KK) (h :
 (K .ret ⟨[(2, (Ai ((↑t0.length : Int))))], []⟩)) : C_digits_Count_9 t0 K := cut_rule (envN E0 nt_digits_Count) (okE nt_digits_Count) 3 9 (cbodyOf 9 ac_digits_Count) [] _ K rfl (kr (by kernel_rfl) h)
theorem K_digits_Count_0_x0 (Q : QQ) (t2 : Int) (h :
 (Q (Ai t2) [])) : K_digits_Count_0 Q .ret ⟨[(2, (Ai t2))], []⟩ := kr (by kernel_rfl) h
theorem K_digits_Count_1_x0 (Q : QQ) (t2 : Int) (h :
 (Q (Ai t2) [])) : K_digits_Count_1 Q .ret ⟨[(2, (Ai t2))], []⟩ := kr (by kernel_rfl) h
theorem K_digits_Count_1_x1 (Q : QQ) (t0 : LB) (h :
 (C_digits_Count_9 t0 (K_digits_Count_0 Q))) : K_digits_Count_1 Q (.exit 0) ⟨[(0, (As t0))], []⟩ := kr (by kernel_rfl) h
theorem ok_digits_Count : FnOK E0.P 139 ac_digits_Count.code nt_digits_Count [.tmp 2] := fn_ok _ _ Try.f139 [(2, [0, 6], []), (4, [0], []), (9, [0], [])] [2] _ 17 Try.func139 (by kernel_rfl) (by kernel_rfl) (by kernel_rfl) (by kernel_rfl)
theorem F_digits_Count_of (a0 : LB) (Q : QQ) (h :
 (L_digits_Count_2 a0 a0 0 (K_digits_Count_1 Q))) : Call E0.P fn_digits_Count [(As a0)] [] Q := fun_rule (envN E0 nt_digits_Count) (okE nt_digits_Count) 3 0 139 ac_digits_Count [.tmp 2] ok_digits_Count _ _ Q rfl rfl (kr (by kernel_rfl) h)
noncomputable def ac_digits_digit : AC := (annot [] [2] (codeOf Try.f143) 0).1
abbrev nt_digits_digit : Nat := 9
theorem ok_digits_digit : FnOK E0.P 143 ac_digits_digit.code nt_digits_digit [.tmp 2] := fn_ok _ _ Try.f143 [] [2] _ 9 Try.func143 (by kernel_rfl) (by kernel_rfl) (by kernel_rfl) (by kernel_rfl)
theorem F_digits_digit_of (a0 : Int) (Q : QQ) (h :
 (Let (bif decide ((48 : Int) ≤ a0) then decide (a0 ≤ (57 : Int)) else false) fun x0 =>
 Q (Ab x0) [])) : Call E0.P fn_digits_digit [(.imm (.int .i32 a0))] [] Q := fun_rule (envN E0 nt_digits_digit) (okE nt_digits_digit) 3 0 143 ac_digits_digit [.tmp 2] ok_digits_digit _ _ Q rfl rfl (kr (by kernel_rfl) h)
end
end Go.Proofs.Sim.Se

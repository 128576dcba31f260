import Derived.Test.YtaggabcajidnnaaGreatDoorSeatBase
set_option maxRecDepth 100000
set_option maxHeartbeats 4000000
namespace Go.Proofs.Sim.Se
open Go Go.Proofs Go.Proofs.Sim
noncomputable section
abbrev qP0(G:Heap)(R:AV):Prop:=G=[(Nm.arg 0,Entry.blk 127 [.imm (.str (rS ((A7 G Af).getD 0 AV.undef))), .imm (.int .i64 (rI ((A7 G Af).getD 1 AV.undef))), .imm (.int .i64 (rI ((A7 G Af).getD 2 AV.undef)))])]∧R= .tup [.imm (IV.agg [.int .i64 (gI (Ae (rT R 0)) 0), .int .i64 (gI (Ae (rT R 0)) 1), .int .i64 (gI (Ae (rT R 0)) 2), .str (gS (Ae (rT R 0)) 3), .sl SK.any 6 (gR (Ae (rT R 0)) 4), .sl SK.any 7 (gR (Ae (rT R 0)) 5)]), .imm (.int .i64 (rI (rT R 1)))]
abbrev qP1(G:Heap)(R:AV):Prop:=G=[]∧R= .imm (IV.agg [.int .i64 (gI (Ae R) 0), .int .i64 (gI (Ae R) 1), .int .i64 (gI (Ae R) 2), .str (gS (Ae R) 3), .sl SK.any 6 (gR (Ae R) 4), .sl SK.any 7 (gR (Ae R) 5)])
abbrev qP2(G:Heap)(R:AV):Prop:=G=[]∧R= .tup [.imm (IV.agg [.int .i64 (gI (Ae (rT R 0)) 0), .int .i64 (gI (Ae (rT R 0)) 1), .int .i64 (gI (Ae (rT R 0)) 2), .str (gS (Ae (rT R 0)) 3), .sl SK.any 6 (gR (Ae (rT R 0)) 4), .sl SK.any 7 (gR (Ae (rT R 0)) 5)]), .imm (.int .i64 (rI (rT R 1))), .imm (.int .i64 (rI (rT R 2)))]
abbrev qP3(G:Heap)(R:AV):Prop:=G=[]∧R= .tup [.imm (IV.agg [.int .i64 (gI (Ae (rT R 0)) 0), .int .i64 (gI (Ae (rT R 0)) 1), .str (gS (Ae (rT R 0)) 2), .int .i64 (gI (Ae (rT R 0)) 3), .int .i64 (gI (Ae (rT R 0)) 4)]), .imm (.int .i64 (rI (rT R 1)))]
abbrev qP4(G:Heap)(R:AV):Prop:=G=[(Nm.arg 0,Entry.blk 127 [.imm (.str (rS ((A7 G Af).getD 0 AV.undef))), .imm (.int .i64 (rI ((A7 G Af).getD 1 AV.undef))), .imm (.int .i64 (rI ((A7 G Af).getD 2 AV.undef)))])]∧R= .tup [.imm (IV.agg [.int .i64 (gI (Ae (rT R 0)) 0), .int .i64 (gI (Ae (rT R 0)) 1), .str (gS (Ae (rT R 0)) 2), .int .i64 (gI (Ae (rT R 0)) 3), .int .i64 (gI (Ae (rT R 0)) 4)]), .imm (.int .i64 (rI (rT R 1)))]
abbrev qP5(G:Heap)(R:AV):Prop:=G=[]∧R= .imm (.int .i64 (rI R))
abbrev qP6(G:Heap)(R:AV):Prop:=G=[(Nm.arg 0,Entry.blk 101 [.imm (.str (rS ((A7 G Af).getD 0 AV.undef))), .imm (.int .i64 (rI ((A7 G Af).getD 1 AV.undef))),AV.own Ay]),(Nm.arg 1,Entry.arr 7 true 1 (Dk G Ay))]∧R= .tup [.imm (IV.agg [.int .i64 (gI (Ae (rT R 0)) 0), .int .i64 (gI (Ae (rT R 0)) 1), .str (gS (Ae (rT R 0)) 2), .int .i64 (gI (Ae (rT R 0)) 3), .int .i64 (gI (Ae (rT R 0)) 4)]), .imm (.int .i64 (rI (rT R 1)))]
abbrev qP8(G:Heap)(R:AV):Prop:=G=[]∧R= .imm (.bool (rB R))
abbrev qP9(G:Heap)(R:AV):Prop:=G=[]∧R= .tup [.imm (.int .i64 (rI (rT R 0))), .imm (.int .i64 (rI (rT R 1)))]
abbrev A8z(G:Heap)(R:AV):Prop:=G=[(Nm.arg 0,Entry.blk 101 [.imm (.str (rS ((A7 G Af).getD 0 AV.undef))), .imm (.int .i64 (rI ((A7 G Af).getD 1 AV.undef))),AV.own Ay])]∧R= .imm (.int .u8 (rI R))
noncomputable def ac_parse_Value:AC:=(Bf [] [4,5,6] (codeOf Tryz.f64) 0).1
abbrev Af4:Nat:=31
theorem A8k:Bo E0.P 64 ac_parse_Value.code Af4 [.cell 4 28, .tmp 5, .tmp 6]:=Bh _ _ Tryz.f64 [] [4,5,6] _ 31 Tryz.func64 (by kernel_rfl) (by kernel_rfl) (by kernel_rfl) (by kernel_rfl)
theorem A06(a0:LB)(a1:Int)(Q:QQ)(h:
 (Call E0.P Jz [.ptr Af 0] [(Af, .blk Ap [As a0,Ai a1,Ai 0])] fun r0 g0=>
 Ah (qP0 g0 r0)
 (Br (!decide (rI (rT r0 1)=(0:Int)))
 (Q (.tup [.imm (.agg [.int .i64 0, .int .i64 0, .int .i64 0, .str [], .sl .any 6 [], .sl .any 7 []]),Ai 0,Ai (rI (rT r0 1))]) [])
 (Call E0.P Ho [.imm (.agg [.int .i64 (gI (Ae (rT r0 0)) 0), .int .i64 (gI (Ae (rT r0 0)) 1), .int .i64 (gI (Ae (rT r0 0)) 2), .str (gS (Ae (rT r0 0)) 3), .sl .any 6 (gR (Ae (rT r0 0)) 4), .sl .any 7 (gR (Ae (rT r0 0)) 5)])] [] fun r1 g1=>
 Ah (qP1 g1 r1)
 (Q (.tup [.imm (.agg [.int .i64 (gI (Ae r1) 0), .int .i64 (gI (Ae r1) 1), .int .i64 (gI (Ae r1) 2), .str (gS (Ae r1) 3), .sl .any 6 (gR (Ae r1) 4), .sl .any 7 (gR (Ae r1) 5)]), .imm (.int .i64 (rI ((A7 g0 Af).getD 1 AV.undef))),Ai 0]) []))))):Call E0.P Afq [As a0,Ai a1] [] Q:=A8 (Ar E0 Af4) (Az Af4) 3 0 64 ac_parse_Value [.cell 4 28, .tmp 5, .tmp 6] A8k _ _ Q rfl rfl (kr (by kernel_rfl) h)
noncomputable def ac_parse_Whole:AC:=(Bf [] [2,3] (codeOf Tryz.f42) 0).1
abbrev Af5:Nat:=41
theorem A8l:Bo E0.P 42 ac_parse_Whole.code Af5 [.cell 2 28, .tmp 3]:=Bh _ _ Tryz.f42 [] [2,3] _ 41 Tryz.func42 (by kernel_rfl) (by kernel_rfl) (by kernel_rfl) (by kernel_rfl)
theorem A07(a0:LB)(Q:QQ)(h:
 (Call E0.P Afq [As a0,Ai 0] [] fun r0 g0=>
 Ah (qP2 g0 r0)
 (Br (!decide (rI (rT r0 2)=(0:Int)))
 (Q (.tup [.imm (.agg [.int .i64 0, .int .i64 0, .int .i64 0, .str [], .sl .any 6 [], .sl .any 7 []]),Ai (rI (rT r0 2))]) [])
 (Call E0.P Qq [As a0,Ai (rI (rT r0 1))] [] fun r1 g1=>
 Ah (qP3 g1 r1)
 (Br (!decide (rI (rT r1 1)=(0:Int)))
 (Q (.tup [.imm (.agg [.int .i64 0, .int .i64 0, .int .i64 0, .str [], .sl .any 6 [], .sl .any 7 []]),Ai (rI (rT r1 1))]) [])
 (Br (!decide (gI (Ae (rT r1 0)) 0=(0:Int)))
 (Q (.tup [.imm (.agg [.int .i64 0, .int .i64 0, .int .i64 0, .str [], .sl .any 6 [], .sl .any 7 []]),Ai 4]) [])
 (Q (.tup [.imm (.agg [.int .i64 (gI (Ae (rT r0 0)) 0), .int .i64 (gI (Ae (rT r0 0)) 1), .int .i64 (gI (Ae (rT r0 0)) 2), .str (gS (Ae (rT r0 0)) 3), .sl .any 6 (gR (Ae (rT r0 0)) 4), .sl .any 7 (gR (Ae (rT r0 0)) 5)]),Ai 0]) []))))))):Call E0.P Afr [As a0] [] Q:=A8 (Ar E0 Af5) (Az Af5) 3 0 42 ac_parse_Whole [.cell 2 28, .tmp 3] A8l _ _ Q rfl rfl (kr (by kernel_rfl) h)
noncomputable def ac_parse_reader_value:AC:=(Bf [] [2,3] (codeOf Tryz.f97) 0).1
abbrev Tx:Nat:=70
theorem Aq9:Bo E0.P 97 ac_parse_reader_value.code Tx [.cell 2 28, .tmp 3]:=Bh _ _ Tryz.f97 [] [2,3] _ 70 Tryz.func97 (by kernel_rfl) (by kernel_rfl) (by kernel_rfl) (by kernel_rfl)
theorem Ane(s:LB)(at_ win:Int)(Q:QQ)(h:
 (Call E0.P G8 [.ptr Af 0] [(Af, .blk Ap [As s,Ai at_,Ai win])] fun r0 g0=>
 Ah (qP4 g0 r0)
 (Br (!decide (rI (rT r0 1)=(0:Int)))
 (Q (.tup [.imm (.agg [.int .i64 0, .int .i64 0, .int .i64 0, .str [], .sl .any 6 [], .sl .any 7 []]),Ai (rI (rT r0 1))]) [(Af, .blk Ap [.imm (.str (rS ((A7 g0 Af).getD 0 AV.undef))), .imm (.int .i64 (rI ((A7 g0 Af).getD 1 AV.undef))), .imm (.int .i64 (rI ((A7 g0 Af).getD 2 AV.undef)))])])
 (Br (decide (gI (Ae (rT r0 0)) 0=(0:Int)))
 (Q (.tup [.imm (.agg [.int .i64 0, .int .i64 0, .int .i64 0, .str [], .sl .any 6 [], .sl .any 7 []]),Ai 5]) [(Af, .blk Ap [.imm (.str (rS ((A7 g0 Af).getD 0 AV.undef))), .imm (.int .i64 (rI ((A7 g0 Af).getD 1 AV.undef))), .imm (.int .i64 (rI ((A7 g0 Af).getD 2 AV.undef)))])])
 (Br (decide (gI (Ae (rT r0 0)) 0=(1:Int)))
 (Call E0.P Rp [.ptr Af 0,Ai (gI (Ae (rT r0 0)) 1)] [(Af, .blk Ap [.imm (.str (rS ((A7 g0 Af).getD 0 AV.undef))), .imm (.int .i64 (rI ((A7 g0 Af).getD 1 AV.undef))), .imm (.int .i64 (rI ((A7 g0 Af).getD 2 AV.undef)))])] fun r1 g1=>
 Ah (qP0 g1 r1)
 (Q (.tup [.imm (.agg [.int .i64 (gI (Ae (rT r1 0)) 0), .int .i64 (gI (Ae (rT r1 0)) 1), .int .i64 (gI (Ae (rT r1 0)) 2), .str (gS (Ae (rT r1 0)) 3), .sl .any 6 (gR (Ae (rT r1 0)) 4), .sl .any 7 (gR (Ae (rT r1 0)) 5)]),Ai (rI (rT r1 1))]) [(Af, .blk Ap [.imm (.str (rS ((A7 g1 Af).getD 0 AV.undef))), .imm (.int .i64 (rI ((A7 g1 Af).getD 1 AV.undef))), .imm (.int .i64 (rI ((A7 g1 Af).getD 2 AV.undef)))])]))
 (Br (decide (gI (Ae (rT r0 0)) 0=(2:Int)))
 (Q (.tup [.imm (.agg [.int .i64 3, .int .i64 0, .int .i64 0, .str (gS (Ae (rT r0 0)) 2), .sl .any 6 [], .sl .any 7 []]),Ai 0]) [(Af, .blk Ap [.imm (.str (rS ((A7 g0 Af).getD 0 AV.undef))), .imm (.int .i64 (rI ((A7 g0 Af).getD 1 AV.undef))), .imm (.int .i64 (rI ((A7 g0 Af).getD 2 AV.undef)))])])
 (Br (decide (gI (Ae (rT r0 0)) 0=(3:Int)))
 (Q (.tup [.imm (.agg [.int .i64 4, .int .i64 0, .int .i64 0, .str (gS (Ae (rT r0 0)) 2), .sl .any 6 [], .sl .any 7 []]),Ai 0]) [(Af, .blk Ap [.imm (.str (rS ((A7 g0 Af).getD 0 AV.undef))), .imm (.int .i64 (rI ((A7 g0 Af).getD 1 AV.undef))), .imm (.int .i64 (rI ((A7 g0 Af).getD 2 AV.undef)))])])
 (Br (decide (gI (Ae (rT r0 0)) 0=(8:Int)))
 (Call E0.P Aiw [As (gS (Ae (rT r0 0)) 2)] [] fun r2 g2=>
 Ah (g2=[]∧
 r2=
 .tup
 [.imm
 (IV.agg
 [.int .i64 (gI (Ae (rT r2 0)) 0),
 .int .i64 (gI (Ae (rT r2 0)) 1),
 .int .i64 (gI (Ae (rT r2 0)) 2),
 .str (gS (Ae (rT r2 0)) 3),
 .sl SK.any 6 (gR (Ae (rT r2 0)) 4),
 .sl SK.any 7 (gR (Ae (rT r2 0)) 5)]),
 .imm (.int .i64 (rI (rT r2 1)))])
 (Q (.tup [.imm (.agg [.int .i64 (gI (Ae (rT r2 0)) 0), .int .i64 (gI (Ae (rT r2 0)) 1), .int .i64 (gI (Ae (rT r2 0)) 2), .str (gS (Ae (rT r2 0)) 3), .sl .any 6 (gR (Ae (rT r2 0)) 4), .sl .any 7 (gR (Ae (rT r2 0)) 5)]),Ai (rI (rT r2 1))]) [(Af, .blk Ap [.imm (.str (rS ((A7 g0 Af).getD 0 AV.undef))), .imm (.int .i64 (rI ((A7 g0 Af).getD 1 AV.undef))), .imm (.int .i64 (rI ((A7 g0 Af).getD 2 AV.undef)))])]))
 (Br (decide (gI (Ae (rT r0 0)) 0=(4:Int)))
 (Br (decide ((64:Int)≤rI ((A7 g0 Af).getD 2 AV.undef)))
 (Q (.tup [.imm (.agg [.int .i64 0, .int .i64 0, .int .i64 0, .str [], .sl .any 6 [], .sl .any 7 []]),Ai 9]) [(Af, .blk Ap [.imm (.str (rS ((A7 g0 Af).getD 0 AV.undef))), .imm (.int .i64 (rI ((A7 g0 Af).getD 1 AV.undef))), .imm (.int .i64 (rI ((A7 g0 Af).getD 2 AV.undef)))])])
 (Call E0.P Vb [.ptr Af 0] [(Af, .blk Ap [.imm (.str (rS ((A7 g0 Af).getD 0 AV.undef))), .imm (.int .i64 (rI ((A7 g0 Af).getD 1 AV.undef))), .imm (.int .i64 (IntKind.i64.wrap (rI ((A7 g0 Af).getD 2 AV.undef)+(1:Int))))])] fun r3 g3=>
 Ah (qP0 g3 r3)
 (Q (.tup [.imm (.agg [.int .i64 (gI (Ae (rT r3 0)) 0), .int .i64 (gI (Ae (rT r3 0)) 1), .int .i64 (gI (Ae (rT r3 0)) 2), .str (gS (Ae (rT r3 0)) 3), .sl .any 6 (gR (Ae (rT r3 0)) 4), .sl .any 7 (gR (Ae (rT r3 0)) 5)]),Ai (rI (rT r3 1))]) [(Af, .blk Ap [.imm (.str (rS ((A7 g3 Af).getD 0 AV.undef))), .imm (.int .i64 (rI ((A7 g3 Af).getD 1 AV.undef))), .imm (.int .i64 (IntKind.i64.wrap (rI ((A7 g3 Af).getD 2 AV.undef) - (1:Int))))])])))
 (Br (decide (gI (Ae (rT r0 0)) 0=(6:Int)))
 (Br (decide ((64:Int)≤rI ((A7 g0 Af).getD 2 AV.undef)))
 (Q (.tup [.imm (.agg [.int .i64 0, .int .i64 0, .int .i64 0, .str [], .sl .any 6 [], .sl .any 7 []]),Ai 9]) [(Af, .blk Ap [.imm (.str (rS ((A7 g0 Af).getD 0 AV.undef))), .imm (.int .i64 (rI ((A7 g0 Af).getD 1 AV.undef))), .imm (.int .i64 (rI ((A7 g0 Af).getD 2 AV.undef)))])])
 (Call E0.P U9 [.ptr Af 0] [(Af, .blk Ap [.imm (.str (rS ((A7 g0 Af).getD 0 AV.undef))), .imm (.int .i64 (rI ((A7 g0 Af).getD 1 AV.undef))), .imm (.int .i64 (IntKind.i64.wrap (rI ((A7 g0 Af).getD 2 AV.undef)+(1:Int))))])] fun r4 g4=>
 Ah (qP0 g4 r4)
 (Q (.tup [.imm (.agg [.int .i64 (gI (Ae (rT r4 0)) 0), .int .i64 (gI (Ae (rT r4 0)) 1), .int .i64 (gI (Ae (rT r4 0)) 2), .str (gS (Ae (rT r4 0)) 3), .sl .any 6 (gR (Ae (rT r4 0)) 4), .sl .any 7 (gR (Ae (rT r4 0)) 5)]),Ai (rI (rT r4 1))]) [(Af, .blk Ap [.imm (.str (rS ((A7 g4 Af).getD 0 AV.undef))), .imm (.int .i64 (rI ((A7 g4 Af).getD 1 AV.undef))), .imm (.int .i64 (IntKind.i64.wrap (rI ((A7 g4 Af).getD 2 AV.undef) - (1:Int))))])])))
 (Q (.tup [.imm (.agg [.int .i64 0, .int .i64 0, .int .i64 0, .str [], .sl .any 6 [], .sl .any 7 []]),Ai 4]) [(Af, .blk Ap [.imm (.str (rS ((A7 g0 Af).getD 0 AV.undef))), .imm (.int .i64 (rI ((A7 g0 Af).getD 1 AV.undef))), .imm (.int .i64 (rI ((A7 g0 Af).getD 2 AV.undef)))])]))))))))))):Call E0.P Jz [.ptr (.arg 0) 0] [(.arg 0, .blk Ap [.imm (.str s), .imm (.int .i64 at_), .imm (.int .i64 win)])] Q:=A8 (Ar E0 Tx) (Az Tx) 3 0 97 ac_parse_reader_value [.cell 2 28, .tmp 3] Aq9 _ _ Q rfl rfl (kr (by kernel_rfl) h)
noncomputable def ac_token_Next:AC:=(Bf [] [4,5] (codeOf Tryz.f41) 0).1
abbrev Ai4:Nat:=42
theorem Ba5:Bo E0.P 41 ac_token_Next.code Ai4 [.cell 4 78, .tmp 5]:=Bh _ _ Tryz.f41 [] [4,5] _ 42 Tryz.func41 (by kernel_rfl) (by kernel_rfl) (by kernel_rfl) (by kernel_rfl)
theorem A4b(a0:LB)(a1:Int)(Q:QQ)(h:
 (Call E0.P Aix [As a0,Ai a1] [] fun r0 g0=>
 Ah (qP5 g0 r0)
 (Br (decide (rI r0=(↑a0.length:Int)))
 (Q (.tup [.imm (.agg [.int .i64 0, .int .i64 0, .str [], .int .i64 (rI r0), .int .i64 (rI r0)]),Ai 0]) [])
 (Call E0.P Rq [.ptr Af 0] [(Af, .blk Ad [As a0,Ai (rI r0), .own Ay]),(Ay, .arr (Am+2) true 1 [])] fun r1 g1=>
 Ah (qP6 g1 r1)
 (Br (!decide (rI (rT r1 1)=(0:Int)))
 (Q (.tup [.imm (.agg [.int .i64 0, .int .i64 0, .str [], .int .i64 0, .int .i64 0]),Ai (rI (rT r1 1))]) [])
 (Q (.tup [.imm (.agg [.int .i64 (gI (Ae (rT r1 0)) 0), .int .i64 (gI (Ae (rT r1 0)) 1), .str (gS (Ae (rT r1 0)) 2), .int .i64 (rI r0), .int .i64 (rI ((A7 g1 Af).getD 1 AV.undef))]),Ai 0]) [])))))):Call E0.P Qq [As a0,Ai a1] [] Q:=A8 (Ar E0 Ai4) (Az Ai4) 3 0 41 ac_token_Next [.cell 4 78, .tmp 5] Ba5 _ _ Q rfl rfl (kr (by kernel_rfl) h)
noncomputable def ac_parse_cursor_take:AC:=(Bf [(3,[2,4,5],[])] [2,3] (codeOf Tryz.f132) 0).1
abbrev Iz:Nat:=20
def M3(t5 u0 u1:Int)(u2:LB)(u3 u4:Int)(u5 u6:Int)(u7:LB)(u8 u9:Int)(v0:LB)(v1 v2:Int)(K:KK):Prop:=Aq 3 E0.P Iz (Ac 3 ac_parse_cursor_take).code ⟨[(2, .ptr nL2 0),(4, .ptr nL4 0),(5,Ai t5)],[(nL2, .blk Aw [Ai u0,Ai u1,As u2,Ai u3,Ai u4]),(nL4, .blk Aw [Ai u5,Ai u6,As u7,Ai u8,Ai u9]),(Af, .blk Ap [As v0,Ai v1,Ai v2])]⟩ K
def M6(s:LB)(at_ win:Int)(Q:QQ):KK:=kE fun st=>finish 0 E0.T [.cell 2 78, .tmp 3] [(Af, .blk Ap [As s,Ai at_,Ai win])] Q st
theorem Ala(t5 u0 u1:Int)(u2:LB)(u3 u4:Int)(u5 u6:Int)(u7:LB)(u8 u9:Int)(v0:LB)(v1 v2:Int)(K:KK)(h:
 (K .ret ⟨[(2, .ptr nL2 0),(3,Ai t5)],[(nL2, .blk Aw [Ai u5,Ai u6,As u7,Ai u8,Ai u9]),(Af, .blk Ap [As v0,Ai v1,Ai v2])]⟩)):M3 t5 u0 u1 u2 u3 u4 u5 u6 u7 u8 u9 v0 v1 v2 K:=Av (Ar E0 Iz) (Az Iz) 3 3 (Ac 3 ac_parse_cursor_take) [] _ K rfl (kr (by kernel_rfl) h)
theorem Alk(s:LB)(at_ win:Int)(Q:QQ)(t3 u0 u1:Int)(u2:LB)(u3 u4:Int)(u5:LB)(u6 u7:Int)(h:
 (Q (.tup [.imm (.agg [.int .i64 u0, .int .i64 u1, .str u2, .int .i64 u3, .int .i64 u4]),Ai t3]) [(Af, .blk Ap [As u5,Ai u6,Ai u7])])):M6 s at_ win Q .ret ⟨[(2, .ptr nL2 0),(3,Ai t3)],[(nL2, .blk Aw [Ai u0,Ai u1,As u2,Ai u3,Ai u4]),(Af, .blk Ap [As u5,Ai u6,Ai u7])]⟩:=kr (by kernel_rfl) h
theorem Ata:Bo E0.P 132 ac_parse_cursor_take.code Iz [.cell 2 78, .tmp 3]:=Bh _ _ Tryz.f132 [(3,[2,4,5],[])] [2,3] _ 20 Tryz.func132 (by kernel_rfl) (by kernel_rfl) (by kernel_rfl) (by kernel_rfl)
theorem Aom(s:LB)(at_ win:Int)(Q:QQ)(h:
 (Call E0.P Qq [As s,Ai at_] [] fun r0 g0=>
 Ah (qP3 g0 r0)
 (Br (decide (rI (rT r0 1)=(0:Int)))
 (M3 (rI (rT r0 1)) ((0:Int)) ((0:Int)) [] ((0:Int)) ((0:Int)) (gI (Ae (rT r0 0)) 0) (gI (Ae (rT r0 0)) 1) (gS (Ae (rT r0 0)) 2) (gI (Ae (rT r0 0)) 3) (gI (Ae (rT r0 0)) 4) s (gI (Ae (rT r0 0)) 4) win (M6 s at_ win Q))
 (M3 (rI (rT r0 1)) ((0:Int)) ((0:Int)) [] ((0:Int)) ((0:Int)) (gI (Ae (rT r0 0)) 0) (gI (Ae (rT r0 0)) 1) (gS (Ae (rT r0 0)) 2) (gI (Ae (rT r0 0)) 3) (gI (Ae (rT r0 0)) 4) s at_ win (M6 s at_ win Q))))):Call E0.P G8 [.ptr (.arg 0) 0] [(.arg 0, .blk Ap [.imm (.str s), .imm (.int .i64 at_), .imm (.int .i64 win)])] Q:=A8 (Ar E0 Iz) (Az Iz) 3 0 132 ac_parse_cursor_take [.cell 2 78, .tmp 3] Ata _ _ Q rfl rfl (kr (by kernel_rfl) h)
noncomputable def ac_parse_reader_number:AC:=(Bf [] [4,5] (codeOf Tryz.f133) 0).1
abbrev Rv:Nat:=39
theorem Api:Bo E0.P 133 ac_parse_reader_number.code Rv [.cell 4 28, .tmp 5]:=Bh _ _ Tryz.f133 [] [4,5] _ 39 Tryz.func133 (by kernel_rfl) (by kernel_rfl) (by kernel_rfl) (by kernel_rfl)
theorem Xl(s:LB)(at_ win a1:Int)(Q:QQ)(h:
 (Call E0.P Om [.ptr Af 0] [(Af, .blk Ap [As s,Ai at_,Ai win])] fun r0 g0=>
 Ah (g0=
 [(Nm.arg 0,
 Entry.blk 127
 [.imm (.str (rS ((A7 g0 Af).getD 0 AV.undef))),
 .imm (.int .i64 (rI ((A7 g0 Af).getD 1 AV.undef))),
 .imm (.int .i64 (rI ((A7 g0 Af).getD 2 AV.undef)))])]∧
 r0= .tup [.imm (.int .i64 (rI (rT r0 0))), .imm (.bool (rB (rT r0 1)))])
 (Br (!rB (rT r0 1))
 (Q (.tup [.imm (.agg [.int .i64 2, .int .i64 a1, .int .i64 0, .str [], .sl .any 6 [], .sl .any 7 []]),Ai 0]) [(Af, .blk Ap [.imm (.str (rS ((A7 g0 Af).getD 0 AV.undef))), .imm (.int .i64 (rI ((A7 g0 Af).getD 1 AV.undef))), .imm (.int .i64 (rI ((A7 g0 Af).getD 2 AV.undef)))])])
 (Let (bif decide (a1<(1:Int))then true else decide ((8388607:Int)<a1)) fun x1=>
 Let (bif x1 then true else decide (rI (rT r0 0)<(0:Int))) fun x2=>
 Let (bif x2 then true else decide ((65535:Int)<rI (rT r0 0))) fun x3=>
 Br (x3)
 (Q (.tup [.imm (.agg [.int .i64 0, .int .i64 0, .int .i64 0, .str [], .sl .any 6 [], .sl .any 7 []]),Ai 3]) [(Af, .blk Ap [.imm (.str (rS ((A7 g0 Af).getD 0 AV.undef))), .imm (.int .i64 (rI ((A7 g0 Af).getD 1 AV.undef))), .imm (.int .i64 (rI ((A7 g0 Af).getD 2 AV.undef)))])])
 (Q (.tup [.imm (.agg [.int .i64 7, .int .i64 a1, .int .i64 (rI (rT r0 0)), .str [], .sl .any 6 [], .sl .any 7 []]),Ai 0]) [(Af, .blk Ap [.imm (.str (rS ((A7 g0 Af).getD 0 AV.undef))), .imm (.int .i64 (rI ((A7 g0 Af).getD 1 AV.undef))), .imm (.int .i64 (rI ((A7 g0 Af).getD 2 AV.undef)))])]))))):Call E0.P Rp [.ptr (.arg 0) 0,Ai a1] [(.arg 0, .blk Ap [.imm (.str s), .imm (.int .i64 at_), .imm (.int .i64 win)])] Q:=A8 (Ar E0 Rv) (Az Rv) 3 0 133 ac_parse_reader_number [.cell 4 28, .tmp 5] Api _ _ Q rfl rfl (kr (by kernel_rfl) h)
noncomputable def ac_parse_word:AC:=(Bf [] [2,3] (codeOf Tryz.f134) 0).1
abbrev Ai2:Nat:=17
theorem Ba2:Bo E0.P 134 ac_parse_word.code Ai2 [.cell 2 28, .tmp 3]:=Bh _ _ Tryz.f134 [] [2,3] _ 17 Tryz.func134 (by kernel_rfl) (by kernel_rfl) (by kernel_rfl) (by kernel_rfl)
theorem A38(a0:LB)(Q:QQ)(h:
 (Br (a0 == [(116:UInt8),114,117,101])
 (Q (.tup [.imm (.agg [.int .i64 1, .int .i64 1, .int .i64 0, .str [], .sl .any 6 [], .sl .any 7 []]),Ai 0]) [])
 (Br (a0 == [(102:UInt8),97,108,115,101])
 (Q (.tup [.imm (.agg [.int .i64 1, .int .i64 0, .int .i64 0, .str [], .sl .any 6 [], .sl .any 7 []]),Ai 0]) [])
 (Br (a0 == [(110:UInt8),117,108,108])
 (Q (.tup [.imm (.agg [.int .i64 0, .int .i64 0, .int .i64 0, .str [], .sl .any 6 [], .sl .any 7 []]),Ai 0]) [])
 (Q (.tup [.imm (.agg [.int .i64 0, .int .i64 0, .int .i64 0, .str [], .sl .any 6 [], .sl .any 7 []]),Ai 4]) []))))):Call E0.P Aiw [As a0] [] Q:=A8 (Ar E0 Ai2) (Az Ai2) 3 0 134 ac_parse_word [.cell 2 28, .tmp 3] Ba2 _ _ Q rfl rfl (kr (by kernel_rfl) h)
noncomputable def ac_parse_reader_list:AC:=(Bf [(1,[0,2,4],[]),(4,[0,2,4],[]),(10,[2,4],[]),(16,[2,4],[])] [2,3] (codeOf Tryz.f136) 0).1
abbrev Cx:Nat:=49
def Ju(u0:LB)(u1 u2:Int)(u3 u4 u5:Int)(u6:LB)(u7 u8 u9:Int)(v0:LB)(v1 v2:LL)(v3 v4:LL)(K:KK):Prop:=Bi 4 E0.P Cx (Au 4 ac_parse_reader_list).code ⟨[(0, .ptr Af 0),(2, .ptr nL2 0),(4, .ptr nL4 0)],[(Af, .blk Ap [As u0,Ai u1,Ai u2]),(nL2, .blk Aa [Ai u3,Ai u4,Ai u5,As u6, .own (nL2.cell 4), .own (nL2.cell 5)]),(nL4, .blk Aa [Ai u7,Ai u8,Ai u9,As v0, .own (nL4.cell 4), .own (nL4.cell 5)]),((nL2.cell 4), .arr (Aa+2) true 6 v1),((nL2.cell 5), .arr (Ag+2) true 7 v2),((nL4.cell 4), .arr (Aa+2) true 6 v3),((nL4.cell 5), .arr (Ag+2) true 7 v4)]⟩ K
def Z9(u0 u1 u2:Int)(u3:LB)(u4 u5 u6:Int)(u7 u8:LB)(u9 v0:Int)(v1 v2:LL)(v3 v4:LL)(K:KK):Prop:=Aq 16 E0.P Cx (Ac 16 ac_parse_reader_list).code ⟨[(2, .ptr nL2 0),(4, .ptr nL4 0)],[(nL2, .blk Aa [Ai u0,Ai u1,Ai u2,As u3, .own (nL2.cell 4), .own (nL2.cell 5)]),(nL4, .blk Aa [Ai u4,Ai u5,Ai u6,As u7, .own (nL4.cell 4), .own (nL4.cell 5)]),(Af, .blk Ap [As u8,Ai u9,Ai v0]),((nL2.cell 4), .arr (Aa+2) true 6 v1),((nL2.cell 5), .arr (Ag+2) true 7 v2),((nL4.cell 4), .arr (Aa+2) true 6 v3),((nL4.cell 5), .arr (Ag+2) true 7 v4)]⟩ K
def Aci(s:LB)(at_ win:Int)(Q:QQ):KK:=kE fun st=>finish 0 E0.T [.cell 2 28, .tmp 3] [(Af, .blk Ap [As s,Ai at_,Ai win])] Q st
def M8(s:LB)(at_ win:Int)(Q:QQ):Ex→St→Prop
 | .normal,st=>finish 0 E0.T [.cell 2 28, .tmp 3] [(Af, .blk Ap [As s,Ai at_,Ai win])] Q st
 | .exit _,_=>False
 | .goto i,st=>Jw 1 E0.P Cx i (K5 1 ac_parse_reader_list).code (mask [0,2,4] st) (Aci s at_ win Q)
 | .ret,st=>finish 0 E0.T [.cell 2 28, .tmp 3] [(Af, .blk Ap [As s,Ai at_,Ai win])] Q st
def Jr(s:LB)(at_ win:Int)(Q:QQ):Ex→St→Prop
 | .normal,st=>Aq 16 E0.P Cx (Ac 16 ac_parse_reader_list).code (mask [2,4] st) (M8 s at_ win Q)
 | .exit i,st=>(match (i.beq 0:Bool)with
 |true=>Aq 16 E0.P Cx (Ac 16 ac_parse_reader_list).code (mask [2,4] st) (M8 s at_ win Q)
 |false=>False)
 | .goto i,st=>Jw 1 E0.P Cx i (K5 1 ac_parse_reader_list).code (mask [0,2,4] st) (Aci s at_ win Q)
 | .ret,st=>finish 0 E0.T [.cell 2 28, .tmp 3] [(Af, .blk Ap [As s,Ai at_,Ai win])] Q st
theorem Ame(u0:LB)(u1 u2:Int)(u3 u4 u5:Int)(u6:LB)(u7 u8 u9:Int)(v0:LB)(v1 v2:LL)(v3 v4:LL)(K:KK)(h:
 (Call E0.P Qq [As u0,Ai u1] [] fun r0 g0=>
 Ah (qP3 g0 r0)
 (Br (!decide (rI (rT r0 1)=(0:Int)))
 (K .ret ⟨[(2, .ptr nL2 0),(3,Ai (rI (rT r0 1)))],[(nL2, .blk Aa [Ai 0,Ai 0,Ai 0, .imm (.str []), .own (Nm.sub 20 (nL2.cell 4)), .own (Nm.sub 20 (nL2.cell 5))]),(Af, .blk Ap [As u0,Ai u1,Ai u2]),((Nm.sub 20 (nL2.cell 4)), .arr (Aa+2) true 6 []),((Nm.sub 20 (nL2.cell 5)), .arr (Ag+2) true 7 [])]⟩)
 (Br (decide (gI (Ae (rT r0 0)) 0=(5:Int)))
 (Call E0.P G8 [.ptr Af 0] [(Af, .blk Ap [As u0,Ai u1,Ai u2])] fun r1 g1=>
 Ah (qP4 g1 r1)
 (K (.exit 0) ⟨[(2, .ptr nL2 0),(4, .ptr nL4 0)],[(nL2, .blk Aa [Ai u3,Ai u4,Ai u5,As u6, .own (nL2.cell 4), .own (nL2.cell 5)]),(nL4, .blk Aa [Ai u7,Ai u8,Ai u9,As v0, .own (nL4.cell 4), .own (nL4.cell 5)]),(Af, .blk Ap [.imm (.str (rS ((A7 g1 Af).getD 0 AV.undef))), .imm (.int .i64 (rI ((A7 g1 Af).getD 1 AV.undef))), .imm (.int .i64 (rI ((A7 g1 Af).getD 2 AV.undef)))]),((nL2.cell 4), .arr (Aa+2) true 6 v1),((nL2.cell 5), .arr (Ag+2) true 7 v2),((nL4.cell 4), .arr (Aa+2) true 6 v3),((nL4.cell 5), .arr (Ag+2) true 7 v4)]⟩))
 (Call E0.P Jz [.ptr Af 0] [(Af, .blk Ap [As u0,Ai u1,Ai u2])] fun r2 g2=>
 Ah (qP0 g2 r2)
 (Br (!decide (rI (rT r2 1)=(0:Int)))
 (K .ret ⟨[(2, .ptr nL2 0),(3,Ai (rI (rT r2 1)))],[(nL2, .blk Aa [Ai 0,Ai 0,Ai 0, .imm (.str []), .own (Nm.sub 39 (nL2.cell 4)), .own (Nm.sub 39 (nL2.cell 5))]),(Af, .blk Ap [.imm (.str (rS ((A7 g2 Af).getD 0 AV.undef))), .imm (.int .i64 (rI ((A7 g2 Af).getD 1 AV.undef))), .imm (.int .i64 (rI ((A7 g2 Af).getD 2 AV.undef)))]),((Nm.sub 39 (nL2.cell 4)), .arr (Aa+2) true 6 []),((Nm.sub 39 (nL2.cell 5)), .arr (Ag+2) true 7 [])]⟩)
 (Ah ((v3.length+1)*88≤140737488355328∧v3.length+1≤140737488355328)
 (Ju (rS ((A7 g2 Af).getD 0 AV.undef)) (rI ((A7 g2 Af).getD 1 AV.undef)) (rI ((A7 g2 Af).getD 2 AV.undef)) u3 u4 u5 u6 u7 u8 u9 v0 v1 v2 (v3++
 [[IV.int .i64 (gI (Ae (rT r2 0)) 0),
 .int .i64 (gI (Ae (rT r2 0)) 1),
 .int .i64 (gI (Ae (rT r2 0)) 2), .str (gS (Ae (rT r2 0)) 3),
 .sl SK.any 6 (gR (Ae (rT r2 0)) 4),
 .sl SK.any 7 (gR (Ae (rT r2 0)) 5)]]) v4 K)))))))):Ju u0 u1 u2 u3 u4 u5 u6 u7 u8 u9 v0 v1 v2 v3 v4 K:=Bg (Ar E0 Cx) (Az Cx) 3 4 (Au 4 ac_parse_reader_list) [0,2,4] _ K rfl (kr (by kernel_rfl) h)
theorem Ajy(u0 u1 u2:Int)(u3:LB)(u4 u5 u6:Int)(u7 u8:LB)(u9 v0:Int)(v1 v2:LL)(v3 v4:LL)(K:KK)(h:
 (K .ret ⟨[(2, .ptr nL2 0),(3,Ai 0)],[(nL2, .blk Aa [Ai u4,Ai u5,Ai u6,As u7, .own (nL4.cell 4), .own (nL4.cell 5)]),(Af, .blk Ap [As u8,Ai u9,Ai v0]),((nL4.cell 4), .arr (Aa+2) true 6 v3),((nL4.cell 5), .arr (Ag+2) true 7 v4)]⟩)):Z9 u0 u1 u2 u3 u4 u5 u6 u7 u8 u9 v0 v1 v2 v3 v4 K:=Av (Ar E0 Cx) (Az Cx) 3 16 (Ac 16 ac_parse_reader_list) [] _ K rfl (kr (by kernel_rfl) h)
theorem Alq(s:LB)(at_ win:Int)(Q:QQ)(t3 u0:Int)(u1 u2:Int)(u3 u4:LB)(u5 u6:Int)(u7 u8:LL)(h:
 (Q (.tup [.imm (.agg [.int .i64 u0, .int .i64 u1, .int .i64 u2, .str u3, .sl .any 6 u7, .sl .any 7 u8]),Ai t3]) [(Af, .blk Ap [As u4,Ai u5,Ai u6])])):M8 s at_ win Q .ret ⟨[(2, .ptr nL2 0),(3,Ai t3)],[(nL2, .blk Aa [Ai u0,Ai u1,Ai u2,As u3, .own (nL4.cell 4), .own (nL4.cell 5)]),(Af, .blk Ap [As u4,Ai u5,Ai u6]),((nL4.cell 4), .arr (Aa+2) true 6 u7),((nL4.cell 5), .arr (Ag+2) true 7 u8)]⟩:=kr (by kernel_rfl) h
theorem Alr(s:LB)(at_ win:Int)(Q:QQ)(t3 u0:Int)(u1 u2:Int)(u3 u4:LB)(u5 u6:Int)(u7 u8:LL)(h:
 (Q (.tup [.imm (.agg [.int .i64 u0, .int .i64 u1, .int .i64 u2, .str u3, .sl .any 6 u7, .sl .any 7 u8]),Ai t3]) [(Af, .blk Ap [As u4,Ai u5,Ai u6])])):Jr s at_ win Q .ret ⟨[(2, .ptr nL2 0),(3,Ai t3)],[(nL2, .blk Aa [Ai u0,Ai u1,Ai u2,As u3, .own (Nm.sub 20 (nL2.cell 4)), .own (Nm.sub 20 (nL2.cell 5))]),(Af, .blk Ap [As u4,Ai u5,Ai u6]),((Nm.sub 20 (nL2.cell 4)), .arr (Aa+2) true 6 u7),((Nm.sub 20 (nL2.cell 5)), .arr (Ag+2) true 7 u8)]⟩:=kr (by kernel_rfl) h
theorem Als(s:LB)(at_ win:Int)(Q:QQ)(u0 u1 u2:Int)(u3:LB)(u4 u5 u6:Int)(u7 u8:LB)(u9 v0:Int)(v1 v2:LL)(v3 v4:LL)(h:
 (Z9 u0 u1 u2 u3 u4 u5 u6 u7 u8 u9 v0 v1 v2 v3 v4 (M8 s at_ win Q))):Jr s at_ win Q (.exit 0) ⟨[(2, .ptr nL2 0),(4, .ptr nL4 0)],[(nL2, .blk Aa [Ai u0,Ai u1,Ai u2,As u3, .own (nL2.cell 4), .own (nL2.cell 5)]),(nL4, .blk Aa [Ai u4,Ai u5,Ai u6,As u7, .own (nL4.cell 4), .own (nL4.cell 5)]),(Af, .blk Ap [As u8,Ai u9,Ai v0]),((nL2.cell 4), .arr (Aa+2) true 6 v1),((nL2.cell 5), .arr (Ag+2) true 7 v2),((nL4.cell 4), .arr (Aa+2) true 6 v3),((nL4.cell 5), .arr (Ag+2) true 7 v4)]⟩:=kr (by kernel_rfl) h
theorem Alt(s:LB)(at_ win:Int)(Q:QQ)(t3 u0:Int)(u1 u2:Int)(u3 u4:LB)(u5 u6:Int)(u7 u8:LL)(h:
 (Q (.tup [.imm (.agg [.int .i64 u0, .int .i64 u1, .int .i64 u2, .str u3, .sl .any 6 u7, .sl .any 7 u8]),Ai t3]) [(Af, .blk Ap [As u4,Ai u5,Ai u6])])):Jr s at_ win Q .ret ⟨[(2, .ptr nL2 0),(3,Ai t3)],[(nL2, .blk Aa [Ai u0,Ai u1,Ai u2,As u3, .own (Nm.sub 39 (nL2.cell 4)), .own (Nm.sub 39 (nL2.cell 5))]),(Af, .blk Ap [As u4,Ai u5,Ai u6]),((Nm.sub 39 (nL2.cell 4)), .arr (Aa+2) true 6 u7),((Nm.sub 39 (nL2.cell 5)), .arr (Ag+2) true 7 u8)]⟩:=kr (by kernel_rfl) h
theorem Atd:Bo E0.P 136 ac_parse_reader_list.code Cx [.cell 2 28, .tmp 3]:=Bh _ _ Tryz.f136 [(1,[0,2,4],[]),(4,[0,2,4],[]),(10,[2,4],[]),(16,[2,4],[])] [2,3] _ 49 Tryz.func136 (by kernel_rfl) (by kernel_rfl) (by kernel_rfl) (by kernel_rfl)
theorem Aoo(s:LB)(at_ win:Int)(Q:QQ)(h:
 (Ju s at_ win ((0:Int)) ((0:Int)) ((0:Int)) [] ((5:Int)) ((0:Int)) ((0:Int)) [] [] [] [] [] (Jr s at_ win Q))):Call E0.P Vb [.ptr (.arg 0) 0] [(.arg 0, .blk Ap [.imm (.str s), .imm (.int .i64 at_), .imm (.int .i64 win)])] Q:=A8 (Ar E0 Cx) (Az Cx) 3 0 136 ac_parse_reader_list [.cell 2 28, .tmp 3] Atd _ _ Q rfl rfl (kr (by kernel_rfl) h)
noncomputable def ac_parse_reader_dict:AC:=(Bf [(3,[0,2,4,5],[])] [2,3] (codeOf Tryz.f137) 0).1
abbrev I1:Nat:=47
def Jt(u0:LB)(u1 u2:Int)(u3 u4 u5:Int)(u6:LB)(u7 u8 u9:Int)(v0:LB)(v1:List (List UInt8 × Int))(v2 v3:LL)(v4 v5:LL)(K:KK):Prop:=Bi 3 E0.P I1 (Au 3 ac_parse_reader_dict).code ⟨[(0, .ptr Af 0),(2, .ptr nL2 0),(4, .ptr nL4 0),(5, .mp Bui)],[(Af, .blk Ap [As u0,Ai u1,Ai u2]),(nL2, .blk Aa [Ai u3,Ai u4,Ai u5,As u6, .own (nL2.cell 4), .own (nL2.cell 5)]),(nL4, .blk Aa [Ai u7,Ai u8,Ai u9,As v0, .own (nL4.cell 4), .own (nL4.cell 5)]),(Bui, .map v1),((nL2.cell 4), .arr (Aa+2) true 6 v2),((nL2.cell 5), .arr (Ag+2) true 7 v3),((nL4.cell 4), .arr (Aa+2) true 6 v4),((nL4.cell 5), .arr (Ag+2) true 7 v5)]⟩ K
def H9(s:LB)(at_ win:Int)(Q:QQ):KK:=kF 0 (fun st=>finish 0 E0.T [.cell 2 28, .tmp 3] [(Af, .blk Ap [As s,Ai at_,Ai win])] Q st) fun st=>finish 0 E0.T [.cell 2 28, .tmp 3] [(Af, .blk Ap [As s,Ai at_,Ai win])] Q st
theorem Amd(u0:LB)(u1 u2:Int)(u3 u4 u5:Int)(u6:LB)(u7 u8 u9:Int)(v0:LB)(v1:List (List UInt8 × Int))(v2 v3:LL)(v4 v5:LL)(K:KK)(h:
 (Call E0.P Wd [.ptr Af 0, .mp Ay] [(Af, .blk Ap [As u0,Ai u1,Ai u2]),(Ay, .map v1)] fun r0 g0=>
 Ah (g0=
 [(Nm.arg 0,
 Entry.blk 127
 [.imm (.str (rS ((A7 g0 Af).getD 0 AV.undef))),
 .imm (.int .i64 (rI ((A7 g0 Af).getD 1 AV.undef))),
 .imm (.int .i64 (rI ((A7 g0 Af).getD 2 AV.undef)))]),
 (Nm.arg 1,Entry.map (mapOf g0 Ay))]∧
 r0=
 .tup
 [.imm (.str (rS (rT r0 0))), .imm (.bool (rB (rT r0 1))),
 .imm (.int .i64 (rI (rT r0 2)))])
 (Br (!decide (rI (rT r0 2)=(0:Int)))
 (K .ret ⟨[(2, .ptr nL2 0),(3,Ai (rI (rT r0 2)))],[(nL2, .blk Aa [Ai 0,Ai 0,Ai 0, .imm (.str []), .own (Nm.sub 22 (nL2.cell 4)), .own (Nm.sub 22 (nL2.cell 5))]),(Af, .blk Ap [.imm (.str (rS ((A7 g0 Af).getD 0 AV.undef))), .imm (.int .i64 (rI ((A7 g0 Af).getD 1 AV.undef))), .imm (.int .i64 (rI ((A7 g0 Af).getD 2 AV.undef)))]),((Nm.sub 22 (nL2.cell 4)), .arr (Aa+2) true 6 []),((Nm.sub 22 (nL2.cell 5)), .arr (Ag+2) true 7 [])]⟩)
 (Br (!rB (rT r0 1))
 (K .ret ⟨[(2, .ptr nL2 0),(3,Ai 0)],[(nL2, .blk Aa [Ai u7,Ai u8,Ai u9,As v0, .own (nL4.cell 4), .own (nL4.cell 5)]),(Af, .blk Ap [.imm (.str (rS ((A7 g0 Af).getD 0 AV.undef))), .imm (.int .i64 (rI ((A7 g0 Af).getD 1 AV.undef))), .imm (.int .i64 (rI ((A7 g0 Af).getD 2 AV.undef)))]),((nL4.cell 4), .arr (Aa+2) true 6 v4),((nL4.cell 5), .arr (Ag+2) true 7 v5)]⟩)
 (Call E0.P Jz [.ptr Af 0] [(Af, .blk Ap [.imm (.str (rS ((A7 g0 Af).getD 0 AV.undef))), .imm (.int .i64 (rI ((A7 g0 Af).getD 1 AV.undef))), .imm (.int .i64 (rI ((A7 g0 Af).getD 2 AV.undef)))])] fun r1 g1=>
 Ah (qP0 g1 r1)
 (Br (!decide (rI (rT r1 1)=(0:Int)))
 (K .ret ⟨[(2, .ptr nL2 0),(3,Ai (rI (rT r1 1)))],[(nL2, .blk Aa [Ai 0,Ai 0,Ai 0, .imm (.str []), .own (Nm.sub 36 (nL2.cell 4)), .own (Nm.sub 36 (nL2.cell 5))]),(Af, .blk Ap [.imm (.str (rS ((A7 g1 Af).getD 0 AV.undef))), .imm (.int .i64 (rI ((A7 g1 Af).getD 1 AV.undef))), .imm (.int .i64 (rI ((A7 g1 Af).getD 2 AV.undef)))]),((Nm.sub 36 (nL2.cell 4)), .arr (Aa+2) true 6 []),((Nm.sub 36 (nL2.cell 5)), .arr (Ag+2) true 7 [])]⟩)
 (Ah ((v5.length+1)*104≤140737488355328∧v5.length+1≤140737488355328)
 (Jt (rS ((A7 g1 Af).getD 0 AV.undef)) (rI ((A7 g1 Af).getD 1 AV.undef)) (rI ((A7 g1 Af).getD 2 AV.undef)) u3 u4 u5 u6 u7 u8 u9 v0 (mapOf g0 Ay) v2 v3 v4 (v5++
 [[IV.str (rS (rT r0 0)), .int .i64 (gI (Ae (rT r1 0)) 0),
 .int .i64 (gI (Ae (rT r1 0)) 1),
 .int .i64 (gI (Ae (rT r1 0)) 2), .str (gS (Ae (rT r1 0)) 3),
 .sl SK.any 6 (gR (Ae (rT r1 0)) 4),
 .sl SK.any 7 (gR (Ae (rT r1 0)) 5)]]) K)))))))):Jt u0 u1 u2 u3 u4 u5 u6 u7 u8 u9 v0 v1 v2 v3 v4 v5 K:=Bg (Ar E0 I1) (Az I1) 3 3 (Au 3 ac_parse_reader_dict) [0,2,4,5] _ K rfl (kr (by kernel_rfl) h)
theorem Alm(s:LB)(at_ win:Int)(Q:QQ)(t3 u0:Int)(u1 u2:Int)(u3 u4:LB)(u5 u6:Int)(u7 u8:LL)(h:
 (Q (.tup [.imm (.agg [.int .i64 u0, .int .i64 u1, .int .i64 u2, .str u3, .sl .any 6 u7, .sl .any 7 u8]),Ai t3]) [(Af, .blk Ap [As u4,Ai u5,Ai u6])])):H9 s at_ win Q .ret ⟨[(2, .ptr nL2 0),(3,Ai t3)],[(nL2, .blk Aa [Ai u0,Ai u1,Ai u2,As u3, .own (Nm.sub 22 (nL2.cell 4)), .own (Nm.sub 22 (nL2.cell 5))]),(Af, .blk Ap [As u4,Ai u5,Ai u6]),((Nm.sub 22 (nL2.cell 4)), .arr (Aa+2) true 6 u7),((Nm.sub 22 (nL2.cell 5)), .arr (Ag+2) true 7 u8)]⟩:=kr (by kernel_rfl) h
theorem Aln(s:LB)(at_ win:Int)(Q:QQ)(t3 u0:Int)(u1 u2:Int)(u3 u4:LB)(u5 u6:Int)(u7 u8:LL)(h:
 (Q (.tup [.imm (.agg [.int .i64 u0, .int .i64 u1, .int .i64 u2, .str u3, .sl .any 6 u7, .sl .any 7 u8]),Ai t3]) [(Af, .blk Ap [As u4,Ai u5,Ai u6])])):H9 s at_ win Q .ret ⟨[(2, .ptr nL2 0),(3,Ai t3)],[(nL2, .blk Aa [Ai u0,Ai u1,Ai u2,As u3, .own (nL4.cell 4), .own (nL4.cell 5)]),(Af, .blk Ap [As u4,Ai u5,Ai u6]),((nL4.cell 4), .arr (Aa+2) true 6 u7),((nL4.cell 5), .arr (Ag+2) true 7 u8)]⟩:=kr (by kernel_rfl) h
theorem Alo(s:LB)(at_ win:Int)(Q:QQ)(t3 u0:Int)(u1 u2:Int)(u3 u4:LB)(u5 u6:Int)(u7 u8:LL)(h:
 (Q (.tup [.imm (.agg [.int .i64 u0, .int .i64 u1, .int .i64 u2, .str u3, .sl .any 6 u7, .sl .any 7 u8]),Ai t3]) [(Af, .blk Ap [As u4,Ai u5,Ai u6])])):H9 s at_ win Q .ret ⟨[(2, .ptr nL2 0),(3,Ai t3)],[(nL2, .blk Aa [Ai u0,Ai u1,Ai u2,As u3, .own (Nm.sub 36 (nL2.cell 4)), .own (Nm.sub 36 (nL2.cell 5))]),(Af, .blk Ap [As u4,Ai u5,Ai u6]),((Nm.sub 36 (nL2.cell 4)), .arr (Aa+2) true 6 u7),((Nm.sub 36 (nL2.cell 5)), .arr (Ag+2) true 7 u8)]⟩:=kr (by kernel_rfl) h
theorem Atb:Bo E0.P 137 ac_parse_reader_dict.code I1 [.cell 2 28, .tmp 3]:=Bh _ _ Tryz.f137 [(3,[0,2,4,5],[])] [2,3] _ 47 Tryz.func137 (by kernel_rfl) (by kernel_rfl) (by kernel_rfl) (by kernel_rfl)
theorem Aon(s:LB)(at_ win:Int)(Q:QQ)(h:
 (Jt s at_ win ((0:Int)) ((0:Int)) ((0:Int)) [] ((6:Int)) ((0:Int)) ((0:Int)) [] [] [] [] [] [] (H9 s at_ win Q))):Call E0.P U9 [.ptr (.arg 0) 0] [(.arg 0, .blk Ap [.imm (.str s), .imm (.int .i64 at_), .imm (.int .i64 win)])] Q:=A8 (Ar E0 I1) (Az I1) 3 0 137 ac_parse_reader_dict [.cell 2 28, .tmp 3] Atb _ _ Q rfl rfl (kr (by kernel_rfl) h)
noncomputable def ac_token_Skip:AC:=(Bf [(1,[0,1],[]),(6,[0,1],[]),(8,[0,1],[]),(9,[0,1],[0,1]),(10,[0,1],[1]),(11,[0,1],[]),(12,[1],[])] [4] (codeOf Tryz.f61) 0).1
abbrev Cc:Nat:=39
def S9(t0:LB)(t1:Int)(K:KK):Prop:=Bi 6 E0.P Cc (Au 6 ac_token_Skip).code ⟨[(0,As t0),(1,Ai t1)],[]⟩ K
def Ac1(t1:Int)(K:KK):Prop:=Aq 12 E0.P Cc (Ac 12 ac_token_Skip).code ⟨[(1,Ai t1)],[]⟩ K
def Ae5(t0:LB)(t1:Int)(K:KK):Prop:=Aq 9 E0.P Cc (Ac 9 ac_token_Skip).code ⟨[(0,As t0),(1,Ai t1)],[]⟩ K
def Ac0(t0:LB)(t1:Int)(K:KK):Prop:=Aq 10 E0.P Cc (Ac 10 ac_token_Skip).code ⟨[(0,As t0),(1,Ai t1)],[]⟩ K
def Y5(t0:LB)(t1:Int)(K:KK):Prop:=Jw 1 E0.P Cc 0 (K5 1 ac_token_Skip).code ⟨[(0,As t0),(1,Ai t1)],[]⟩ K
def O1(Q:QQ):KK:=kE fun st=>finish 0 E0.T [.tmp 4] [] Q st
def Afc(Q:QQ):Ex→St→Prop
 | .normal,st=>finish 0 E0.T [.tmp 4] [] Q st
 | .exit _,_=>False
 | .goto i,st=>Jw 1 E0.P Cc i (K5 1 ac_token_Skip).code (mask [0,1] st) (O1 Q)
 | .ret,st=>finish 0 E0.T [.tmp 4] [] Q st
def Yr(Q:QQ):Ex→St→Prop
 | .normal,st=>Aq 12 E0.P Cc (Ac 12 ac_token_Skip).code (mask [1] st) (Afc Q)
 | .exit _,_=>False
 | .goto i,st=>Jw 1 E0.P Cc i (K5 1 ac_token_Skip).code (mask [0,1] st) (O1 Q)
 | .ret,st=>finish 0 E0.T [.tmp 4] [] Q st
def Aqo(Q:QQ):Ex→St→Prop
 | .normal,st=>Aq 10 E0.P Cc (Ac 10 ac_token_Skip).code (mask [0,1] st) (Yr Q)
 | .exit i,st=>(match (i.beq 0:Bool)with
 |true=>Aq 10 E0.P Cc (Ac 10 ac_token_Skip).code (mask [0,1] st) (Yr Q)
 |false=>False)
 | .goto i,st=>Jw 1 E0.P Cc i (K5 1 ac_token_Skip).code (mask [0,1] st) (O1 Q)
 | .ret,st=>finish 0 E0.T [.tmp 4] [] Q st
def Afd(K:KK):Ex→St→Prop
 | .normal,st=>Bi 6 E0.P Cc (Au 6 ac_token_Skip).code (mask [0,1] st) K
 | .exit i,st=>K (.exit i) st
 | .goto i,st=>K (.goto i) st
 | .ret,st=>K .ret st
def Afe(K:KK):Ex→St→Prop
 | .normal,st=>K .normal st
 | .exit i,st=>K (.exit i) st
 | .goto i,st=>Jw 1 E0.P Cc i (K5 1 ac_token_Skip).code (mask [0,1] st) K
 | .ret,st=>K .ret st
def Yt(K:KK):Ex→St→Prop
 | .normal,st=>Aq 12 E0.P Cc (Ac 12 ac_token_Skip).code (mask [1] st) (Afe K)
 | .exit i,st=>K (.exit i) st
 | .goto i,st=>Jw 1 E0.P Cc i (K5 1 ac_token_Skip).code (mask [0,1] st) K
 | .ret,st=>K .ret st
def Aqp(K:KK):Ex→St→Prop
 | .normal,st=>Aq 10 E0.P Cc (Ac 10 ac_token_Skip).code (mask [0,1] st) (Yt K)
 | .exit i,st=>(match (i.beq 0:Bool)with
 |true=>Aq 10 E0.P Cc (Ac 10 ac_token_Skip).code (mask [0,1] st) (Yt K)
 |false=>K (.exit i) st)
 | .goto i,st=>Jw 1 E0.P Cc i (K5 1 ac_token_Skip).code (mask [0,1] st) K
 | .ret,st=>K .ret st
theorem Ajv(t0:LB)(t1:Int)(K:KK)(h:
 (Br (decide (t1<(↑t0.length:Int)) == true)
 (Call E0.P Qp [As t0,Ai t1] [] fun r0 g0=>
 Ah (qP5 g0 r0)
 (Let (decide (rI r0=(0:Int))) fun x1=>
 Br (x1)
 (Ae5 t0 t1 (Afd K))
 (K (.exit 0) ⟨[(0,As t0),(1,Ai t1)],[]⟩)))
 (Ah ((!true)=false)
 (Let (false) fun x2=>
 Br (x2)
 (Ae5 t0 t1 (Afd K))
 (K (.exit 0) ⟨[(0,As t0),(1,Ai t1)],[]⟩))))):S9 t0 t1 K:=Bg (Ar E0 Cc) (Az Cc) 3 6 (Au 6 ac_token_Skip) [0,1] _ K rfl (kr (by kernel_rfl) h)
theorem Xh(t1:Int)(K:KK)(h:
 (K .ret ⟨[(4,Ai t1)],[]⟩)):Ac1 t1 K:=Av (Ar E0 Cc) (Az Cc) 3 12 (Ac 12 ac_token_Skip) [] _ K rfl (kr (by kernel_rfl) h)
theorem Azc(t0:LB)(t1:Int)(K:KK)(h:
 (K .normal ⟨[(0,As t0),(1,Ai (IntKind.i64.wrap (t1+(1:Int))))],[]⟩)):Ae5 t0 t1 K:=Av (Ar E0 Cc) (Az Cc) 3 9 (Ac 9 ac_token_Skip) [0,1] _ K rfl (kr (by kernel_rfl) h)
theorem Ag3(t0:LB)(t1:Int)(K:KK)(h:
 (K (.goto 0) ⟨[(0,As t0),(1,Ai t1)],[]⟩)):Ac0 t0 t1 K:=Av (Ar E0 Cc) (Az Cc) 3 10 (Ac 10 ac_token_Skip) [1] _ K rfl (kr (by kernel_rfl) h)
theorem Ajx(t0:LB)(t1:Int)(K:KK)(h:
 (Call E0.P Vy [As t0,Ai t1, .imm (.sl .any 1 [[IV.int .i64 (0:Int)]])] [] fun r0 g0=>
 Ah (qP5 g0 r0)
 (Ah (decide (IntKind.i64.wrap (t1+rI r0)<(↑t0.length:Int))=true→
 (0:Int)≤IntKind.i64.wrap (t1+rI r0)∧IntKind.i64.wrap (t1+rI r0)<(↑t0.length:Int))
 (Let (bif decide (IntKind.i64.wrap (t1+rI r0)<(↑t0.length:Int))then
 decide ((↑(t0.getD (IntKind.i64.wrap (t1+rI r0)).toNat 0).toNat:Int)=(37:Int))
 else false) fun x1=>
 Br (x1)
 (S9 t0 (IntKind.i64.wrap (t1+rI r0)) (Aqp K))
 (Ac1 (IntKind.i64.wrap (t1+rI r0)) (Afe K)))))):Y5 t0 t1 K:=Bi8 (Ar E0 Cc) (Az Cc) 3 1 0 (K5 1 ac_token_Skip) (Bo4 1 0 ac_token_Skip) [0,1] _ K (by kernel_rfl) rfl (kr (by kernel_rfl) h)
theorem Ajk(Q:QQ)(t4:Int)(h:
 (Q (Ai t4) [])):O1 Q .ret ⟨[(4,Ai t4)],[]⟩:=kr (by kernel_rfl) h
theorem Azw(Q:QQ)(t4:Int)(h:
 (Q (Ai t4) [])):Afc Q .ret ⟨[(4,Ai t4)],[]⟩:=kr (by kernel_rfl) h
theorem Azx(Q:QQ)(t0:LB)(t1:Int)(h:
 (Y5 t0 t1 (O1 Q))):Yr Q (.goto 0) ⟨[(0,As t0),(1,Ai t1)],[]⟩:=kr (by kernel_rfl) h
theorem Azy(Q:QQ)(t0:LB)(t1:Int)(h:
 (Ac0 t0 t1 (Yr Q))):Aqo Q (.exit 0) ⟨[(0,As t0),(1,Ai t1)],[]⟩:=kr (by kernel_rfl) h
theorem Azz(K:KK)(t0:LB)(t1:Int)(h:
 (S9 t0 t1 K)):Afd K .normal ⟨[(0,As t0),(1,Ai t1)],[]⟩:=kr (by kernel_rfl) h
theorem Ajl(K:KK)(t4:Int)(h:
 (K .ret ⟨[(4,Ai t4)],[]⟩)):Afe K .ret ⟨[(4,Ai t4)],[]⟩:=kr (by kernel_rfl) h
theorem Az0(K:KK)(t0:LB)(t1:Int)(h:
 (Y5 t0 t1 K)):Yt K (.goto 0) ⟨[(0,As t0),(1,Ai t1)],[]⟩:=kr (by kernel_rfl) h
theorem Az1(K:KK)(t0:LB)(t1:Int)(h:
 (Ac0 t0 t1 (Yt K))):Aqp K (.exit 0) ⟨[(0,As t0),(1,Ai t1)],[]⟩:=kr (by kernel_rfl) h
theorem Ba6:Bo E0.P 61 ac_token_Skip.code Cc [.tmp 4]:=Bh _ _ Tryz.f61 [(1,[0,1],[]),(6,[0,1],[]),(8,[0,1],[]),(9,[0,1],[0,1]),(10,[0,1],[1]),(11,[0,1],[]),(12,[1],[])] [4] _ 39 Tryz.func61 (by kernel_rfl) (by kernel_rfl) (by kernel_rfl) (by kernel_rfl)
theorem A4c(a0:LB)(a1:Int)(Q:QQ)(h:
 (Call E0.P Vy [As a0,Ai (if(if(↑a0.length:Int)<a1 then(↑a0.length:Int)else a1)>(0:Int)then
 if(↑a0.length:Int)<a1 then(↑a0.length:Int)else a1
 else(0:Int)), .imm (.sl .any 1 [[IV.int .i64 (0:Int)]])] [] fun r0 g0=>
 Ah (qP5 g0 r0)
 (Ah (decide
 (IntKind.i64.wrap
 ((if(if(↑a0.length:Int)<a1 then(↑a0.length:Int)else a1)>(0:Int)then
 if(↑a0.length:Int)<a1 then(↑a0.length:Int)else a1
 else(0:Int))+
 rI r0)<
 (↑a0.length:Int))=
 true→
 (0:Int)≤
 IntKind.i64.wrap
 ((if(if(↑a0.length:Int)<a1 then(↑a0.length:Int)else a1)>(0:Int)then
 if(↑a0.length:Int)<a1 then(↑a0.length:Int)else a1
 else(0:Int))+
 rI r0)∧
 IntKind.i64.wrap
 ((if(if(↑a0.length:Int)<a1 then(↑a0.length:Int)else a1)>(0:Int)then
 if(↑a0.length:Int)<a1 then(↑a0.length:Int)else a1
 else(0:Int))+
 rI r0)<
 (↑a0.length:Int))
 (Let (bif
 decide
 (IntKind.i64.wrap
 ((if(if(↑a0.length:Int)<a1 then(↑a0.length:Int)else a1)>(0:Int)then
 if(↑a0.length:Int)<a1 then(↑a0.length:Int)else a1
 else(0:Int))+
 rI r0)<
 (↑a0.length:Int))then
 decide
 ((↑(a0.getD
 (IntKind.i64.wrap
 ((if(if(↑a0.length:Int)<a1 then(↑a0.length:Int)else a1)>(0:Int)then
 if(↑a0.length:Int)<a1 then(↑a0.length:Int)else a1
 else(0:Int))+
 rI r0)).toNat
 0).toNat:
 Int)=
 (37:Int))
 else false) fun x1=>
 Br (x1)
 (S9 a0 (IntKind.i64.wrap
 ((if(if(↑a0.length:Int)<a1 then(↑a0.length:Int)else a1)>(0:Int)then
 if(↑a0.length:Int)<a1 then(↑a0.length:Int)else a1
 else(0:Int))+
 rI r0)) (Aqo Q))
 (Ac1 (IntKind.i64.wrap
 ((if(if(↑a0.length:Int)<a1 then(↑a0.length:Int)else a1)>(0:Int)then
 if(↑a0.length:Int)<a1 then(↑a0.length:Int)else a1
 else(0:Int))+
 rI r0)) (Afc Q)))))):Call E0.P Aix [As a0,Ai a1] [] Q:=A8 (Ar E0 Cc) (Az Cc) 3 0 61 ac_token_Skip [.tmp 4] Ba6 _ _ Q rfl rfl (kr (by kernel_rfl) h)
noncomputable def ac_token_scanner_token:AC:=(Bf [(22,[0,2,60],[0,2]),(24,[0,2],[])] [2,3] (codeOf Tryz.f62) 0).1
abbrev Dn:Nat:=71
def Ig(t60:Bool)(u0:LB)(u1 u2 u3:Int)(u4:LB)(u5 u6:Int)(u7:LL)(K:KK):Prop:=Aq 22 E0.P Dn (Ac 22 ac_token_scanner_token).code ⟨[(0, .ptr Af 0),(2, .ptr nL2 0),(60,Ab t60)],[(Af, .blk Ad [As u0,Ai u1, .own Ay]),(nL2, .blk Aw [Ai u2,Ai u3,As u4,Ai u5,Ai u6]),(Ay, .arr (Am+2) true 1 u7)]⟩ K
def Xj(u0:LB)(u1 u2 u3:Int)(u4:LB)(u5 u6:Int)(u7:LL)(K:KK):Prop:=Aq 24 E0.P Dn (Ac 24 ac_token_scanner_token).code ⟨[(0, .ptr Af 0),(2, .ptr nL2 0)],[(Af, .blk Ad [As u0,Ai u1, .own Ay]),(nL2, .blk Aw [Ai u2,Ai u3,As u4,Ai u5,Ai u6]),(Ay, .arr (Am+2) true 1 u7)]⟩ K
def Qj(s:LB)(at_:Int)(out:LL)(Q:QQ):KK:=kE fun st=>finish 0 E0.T [.cell 2 78, .tmp 3] [(Af, .blk Ad [As s,Ai at_, .own Ay]),(Ay, .arr (Am+2) true 1 out)] Q st
def Gu(s:LB)(at_:Int)(out:LL)(Q:QQ):KK:=kF 0 (fun st=>Aq 24 E0.P Dn (Ac 24 ac_token_scanner_token).code (mask [0,2] st) (Qj s at_ out Q)) fun st=>finish 0 E0.T [.cell 2 78, .tmp 3] [(Af, .blk Ad [As s,Ai at_, .own Ay]),(Ay, .arr (Am+2) true 1 out)] Q st
theorem Ag5(t60:Bool)(u0:LB)(u1 u2 u3:Int)(u4:LB)(u5 u6:Int)(u7:LL)(K:KK)(h:
 (Br (t60)
 (K .ret ⟨[(2, .ptr nL2 0),(3,Ai 4)],[(nL2, .blk Aw [Ai 0,Ai 0, .imm (.str []),Ai 0,Ai 0]),(Af, .blk Ad [As u0,Ai u1, .own Ay]),(Ay, .arr (Am+2) true 1 u7)]⟩)
 (K .normal ⟨[(0, .ptr Af 0),(2, .ptr nL2 0)],[(Af, .blk Ad [As u0,Ai u1, .own Ay]),(nL2, .blk Aw [Ai u2,Ai u3,As u4,Ai u5,Ai u6]),(Ay, .arr (Am+2) true 1 u7)]⟩))):Ig t60 u0 u1 u2 u3 u4 u5 u6 u7 K:=Av (Ar E0 Dn) (Az Dn) 3 22 (Ac 22 ac_token_scanner_token) [0,2] _ K rfl (kr (by kernel_rfl) h)
theorem Ag6(u0:LB)(u1 u2 u3:Int)(u4:LB)(u5 u6:Int)(u7:LL)(K:KK)(h:
 (Call E0.P Tn [.ptr Af 0] [(Af, .blk Ad [As u0,Ai u1, .own Ay]),(Ay, .arr (Am+2) true 1 u7)] fun r0 g0=>
 Ah (qP6 g0 r0)
 (K .ret ⟨[(2, .ptr nL2 0),(3,Ai (rI (rT r0 1)))],[(nL2, .blk Aw [Ai (gI (Ae (rT r0 0)) 0),Ai (gI (Ae (rT r0 0)) 1),As (gS (Ae (rT r0 0)) 2),Ai (gI (Ae (rT r0 0)) 3),Ai (gI (Ae (rT r0 0)) 4)]),(Af, .blk Ad [.imm (.str (rS ((A7 g0 Af).getD 0 AV.undef))), .imm (.int .i64 (rI ((A7 g0 Af).getD 1 AV.undef))), .own Ay]),(Ay, .arr (Am+2) true 1 (Dk g0 Ay))]⟩))):Xj u0 u1 u2 u3 u4 u5 u6 u7 K:=Av (Ar E0 Dn) (Az Dn) 3 24 (Ac 24 ac_token_scanner_token) [] _ K rfl (kr (by kernel_rfl) h)
theorem Aip(s:LB)(at_:Int)(out:LL)(Q:QQ)(t3 u0 u1:Int)(u2:LB)(u3 u4:Int)(u5:LB)(u6:Int)(u7:LL)(h:
 (Q (.tup [.imm (.agg [.int .i64 u0, .int .i64 u1, .str u2, .int .i64 u3, .int .i64 u4]),Ai t3]) [(Af, .blk Ad [As u5,Ai u6, .own Ay]),(Ay, .arr (Am+2) true 1 u7)])):Qj s at_ out Q .ret ⟨[(2, .ptr nL2 0),(3,Ai t3)],[(nL2, .blk Aw [Ai u0,Ai u1,As u2,Ai u3,Ai u4]),(Af, .blk Ad [As u5,Ai u6, .own Ay]),(Ay, .arr (Am+2) true 1 u7)]⟩:=kr (by kernel_rfl) h
theorem Aiq(s:LB)(at_:Int)(out:LL)(Q:QQ)(t3 u0 u1:Int)(u2:LB)(u3 u4:Int)(u5:LB)(u6:Int)(u7:LL)(h:
 (Q (.tup [.imm (.agg [.int .i64 u0, .int .i64 u1, .str u2, .int .i64 u3, .int .i64 u4]),Ai t3]) [(Af, .blk Ad [As u5,Ai u6, .own Ay]),(Ay, .arr (Am+2) true 1 u7)])):Gu s at_ out Q .ret ⟨[(2, .ptr nL2 0),(3,Ai t3)],[(nL2, .blk Aw [Ai u0,Ai u1,As u2,Ai u3,Ai u4]),(Af, .blk Ad [As u5,Ai u6, .own Ay]),(Ay, .arr (Am+2) true 1 u7)]⟩:=kr (by kernel_rfl) h
theorem Air(s:LB)(at_:Int)(out:LL)(Q:QQ)(u0:LB)(u1 u2 u3:Int)(u4:LB)(u5 u6:Int)(u7:LL)(h:
 (Xj u0 u1 u2 u3 u4 u5 u6 u7 (Qj s at_ out Q))):Gu s at_ out Q .normal ⟨[(0, .ptr Af 0),(2, .ptr nL2 0)],[(Af, .blk Ad [As u0,Ai u1, .own Ay]),(nL2, .blk Aw [Ai u2,Ai u3,As u4,Ai u5,Ai u6]),(Ay, .arr (Am+2) true 1 u7)]⟩:=kr (by kernel_rfl) h
theorem Apk:Bo E0.P 62 ac_token_scanner_token.code Dn [.cell 2 78, .tmp 3]:=Bh _ _ Tryz.f62 [(22,[0,2,60],[0,2]),(24,[0,2],[])] [2,3] _ 71 Tryz.func62 (by kernel_rfl) (by kernel_rfl) (by kernel_rfl) (by kernel_rfl)
theorem Alj(s:LB)(at_:Int)(out:LL)(Q:QQ)(h:
 (Ah ((0:Int)≤at_∧at_<(↑s.length:Int))
 (Br (decide ((↑(s.getD at_.toNat 0).toNat:Int)=(91:Int)))
 (Q (.tup [.imm (.agg [.int .i64 4, .int .i64 0, .str [], .int .i64 0, .int .i64 0]),Ai 0]) [(Af, .blk Ad [As s,Ai (IntKind.i64.wrap (at_+(1:Int))), .own Ay]),(Ay, .arr (Am+2) true 1 out)])
 (Br (decide ((↑(s.getD at_.toNat 0).toNat:Int)=(93:Int)))
 (Q (.tup [.imm (.agg [.int .i64 5, .int .i64 0, .str [], .int .i64 0, .int .i64 0]),Ai 0]) [(Af, .blk Ad [As s,Ai (IntKind.i64.wrap (at_+(1:Int))), .own Ay]),(Ay, .arr (Am+2) true 1 out)])
 (Br (decide ((↑(s.getD at_.toNat 0).toNat:Int)=(47:Int)))
 (Call E0.P Tj [.ptr Af 0] [(Af, .blk Ad [As s,Ai at_, .own Ay]),(Ay, .arr (Am+2) true 1 out)] fun r0 g0=>
 Ah (qP6 g0 r0)
 (Q (.tup [.imm (.agg [.int .i64 (gI (Ae (rT r0 0)) 0), .int .i64 (gI (Ae (rT r0 0)) 1), .str (gS (Ae (rT r0 0)) 2), .int .i64 (gI (Ae (rT r0 0)) 3), .int .i64 (gI (Ae (rT r0 0)) 4)]),Ai (rI (rT r0 1))]) [(Af, .blk Ad [.imm (.str (rS ((A7 g0 Af).getD 0 AV.undef))), .imm (.int .i64 (rI ((A7 g0 Af).getD 1 AV.undef))), .own Ay]),(Ay, .arr (Am+2) true 1 (Dk g0 Ay))]))
 (Br (decide ((↑(s.getD at_.toNat 0).toNat:Int)=(40:Int)))
 (Call E0.P Tm [.ptr Af 0] [(Af, .blk Ad [As s,Ai at_, .own Ay]),(Ay, .arr (Am+2) true 1 out)] fun r1 g1=>
 Ah (qP6 g1 r1)
 (Q (.tup [.imm (.agg [.int .i64 (gI (Ae (rT r1 0)) 0), .int .i64 (gI (Ae (rT r1 0)) 1), .str (gS (Ae (rT r1 0)) 2), .int .i64 (gI (Ae (rT r1 0)) 3), .int .i64 (gI (Ae (rT r1 0)) 4)]),Ai (rI (rT r1 1))]) [(Af, .blk Ad [.imm (.str (rS ((A7 g1 Af).getD 0 AV.undef))), .imm (.int .i64 (rI ((A7 g1 Af).getD 1 AV.undef))), .own Ay]),(Ay, .arr (Am+2) true 1 (Dk g1 Ay))]))
 (Br (decide ((↑(s.getD at_.toNat 0).toNat:Int)=(60:Int)))
 (Ah (decide (IntKind.i64.wrap (at_+(1:Int))<(↑s.length:Int))=true→
 (0:Int)≤IntKind.i64.wrap (at_+(1:Int))∧IntKind.i64.wrap (at_+(1:Int))<(↑s.length:Int))
 (Ah (decide (IntKind.i64.wrap (at_+(1:Int))<(↑s.length:Int))=true→(0:Int)≤at_∧at_<(↑s.length:Int))
 (Let (bif decide (IntKind.i64.wrap (at_+(1:Int))<(↑s.length:Int))then
 decide
 ((↑(s.getD (IntKind.i64.wrap (at_+(1:Int))).toNat 0).toNat:Int)=
 (↑(s.getD at_.toNat 0).toNat:Int))
 else false) fun x2=>
 Br (x2)
 (Q (.tup [.imm (.agg [.int .i64 6, .int .i64 0, .str [], .int .i64 0, .int .i64 0]),Ai 0]) [(Af, .blk Ad [As s,Ai (IntKind.i64.wrap (at_+(2:Int))), .own Ay]),(Ay, .arr (Am+2) true 1 out)])
 (Call E0.P Vf [.ptr Af 0] [(Af, .blk Ad [As s,Ai at_, .own Ay]),(Ay, .arr (Am+2) true 1 out)] fun r3 g3=>
 Ah (qP6 g3 r3)
 (Q (.tup [.imm (.agg [.int .i64 (gI (Ae (rT r3 0)) 0), .int .i64 (gI (Ae (rT r3 0)) 1), .str (gS (Ae (rT r3 0)) 2), .int .i64 (gI (Ae (rT r3 0)) 3), .int .i64 (gI (Ae (rT r3 0)) 4)]),Ai (rI (rT r3 1))]) [(Af, .blk Ad [.imm (.str (rS ((A7 g3 Af).getD 0 AV.undef))), .imm (.int .i64 (rI ((A7 g3 Af).getD 1 AV.undef))), .own Ay]),(Ay, .arr (Am+2) true 1 (Dk g3 Ay))])))))
 (Br (decide ((↑(s.getD at_.toNat 0).toNat:Int)=(62:Int)))
 (Ah (decide (IntKind.i64.wrap (at_+(1:Int))<(↑s.length:Int))=true→
 (0:Int)≤IntKind.i64.wrap (at_+(1:Int))∧IntKind.i64.wrap (at_+(1:Int))<(↑s.length:Int))
 (Ah (decide (IntKind.i64.wrap (at_+(1:Int))<(↑s.length:Int))=true→(0:Int)≤at_∧at_<(↑s.length:Int))
 (Let (bif decide (IntKind.i64.wrap (at_+(1:Int))<(↑s.length:Int))then
 decide
 ((↑(s.getD (IntKind.i64.wrap (at_+(1:Int))).toNat 0).toNat:Int)=
 (↑(s.getD at_.toNat 0).toNat:Int))
 else false) fun x4=>
 Br (x4)
 (Q (.tup [.imm (.agg [.int .i64 7, .int .i64 0, .str [], .int .i64 0, .int .i64 0]),Ai 0]) [(Af, .blk Ad [As s,Ai (IntKind.i64.wrap (at_+(2:Int))), .own Ay]),(Ay, .arr (Am+2) true 1 out)])
 (Q (.tup [.imm (.agg [.int .i64 0, .int .i64 0, .str [], .int .i64 0, .int .i64 0]),Ai 4]) [(Af, .blk Ad [As s,Ai at_, .own Ay]),(Ay, .arr (Am+2) true 1 out)]))))
 (Br (decide ((↑(s.getD at_.toNat 0).toNat:Int)=(41:Int)))
 (Ig (decide ((↑(s.getD at_.toNat 0).toNat:Int)=(41:Int))) s at_ ((0:Int)) ((0:Int)) [] ((0:Int)) ((0:Int)) out (Gu s at_ out Q))
 (Br (decide ((↑(s.getD at_.toNat 0).toNat:Int)=(123:Int)))
 (Ig (decide ((↑(s.getD at_.toNat 0).toNat:Int)=(123:Int))) s at_ ((0:Int)) ((0:Int)) [] ((0:Int)) ((0:Int)) out (Gu s at_ out Q))
 (Ig (decide ((↑(s.getD at_.toNat 0).toNat:Int)=(125:Int))) s at_ ((0:Int)) ((0:Int)) [] ((0:Int)) ((0:Int)) out (Gu s at_ out Q)))))))))))):Call E0.P Rq [.ptr (.arg 0) 0] [(.arg 0, .blk Ad [.imm (.str s), .imm (.int .i64 at_), .own (.arg 1)]),(.arg 1, .arr (Am+2) true 1 out)] Q:=A8 (Ar E0 Dn) (Az Dn) 3 0 62 ac_token_scanner_token [.cell 2 78, .tmp 3] Apk _ _ Q rfl rfl (kr (by kernel_rfl) h)
noncomputable def ac_r01_Kind:AC:=(Bf [] [2] (codeOf Tryz.f71) 0).1
abbrev Apg:Nat:=7
theorem Bf2:Bo E0.P 71 ac_r01_Kind.code Apg [.tmp 2]:=Bh _ _ Tryz.f71 [] [2] _ 7 Tryz.func71 (by kernel_rfl) (by kernel_rfl) (by kernel_rfl) (by kernel_rfl)
theorem Bak(a0:Int)(Q:QQ)(h:
 (Call E0.P Aoa [.imm (.str [0,9,10,12,13,32]), .imm (.int .u8 a0)] [] fun r0 g0=>
 Ah (qP8 g0 r0)
 (Br (rB r0)
 (Q (Ai 0) [])
 (Call E0.P Aoa [.imm (.str [40,41,60,62,91,93,123,125,
 47,37]), .imm (.int .u8 a0)] [] fun r1 g1=>
 Ah (qP8 g1 r1)
 (Br (rB r1)
 (Q (Ai 1) [])
 (Q (Ai 2) [])))))):Call E0.P Apa [.imm (.int .u8 a0)] [] Q:=A8 (Ar E0 Apg) (Az Apg) 3 0 71 ac_r01_Kind [.tmp 2] Bf2 _ _ Q rfl rfl (kr (by kernel_rfl) h)
noncomputable def ac_parse_reader_link:AC:=(Bf [(7,[0,4],[])] [2,3] (codeOf Tryz.f153) 0).1
abbrev I4:Nat:=52
def M4(u0:LB)(u1 u2:Int)(u3:LB)(u4:Int)(K:KK):Prop:=Aq 7 E0.P I4 (Ac 7 ac_parse_reader_link).code ⟨[(0, .ptr Af 0),(4, .ptr nL4 0)],[(Af, .blk Ap [As u0,Ai u1,Ai u2]),(nL4, .blk A6f [As u3,Ai u4])]⟩ K
def M7(s:LB)(at_ win:Int)(Q:QQ):KK:=kE fun st=>finish 0 E0.T [.tmp 2, .tmp 3] [(Af, .blk Ap [As s,Ai at_,Ai win])] Q st
theorem Alb(u0:LB)(u1 u2:Int)(u3:LB)(u4:Int)(K:KK)(h:
 (K .ret ⟨[(2,Ai 0),(3,Ab false)],[(Af, .blk Ap [As u3,Ai u4,Ai u2])]⟩)):M4 u0 u1 u2 u3 u4 K:=Av (Ar E0 I4) (Az I4) 3 7 (Ac 7 ac_parse_reader_link) [] _ K rfl (kr (by kernel_rfl) h)
theorem Alp(s:LB)(at_ win:Int)(Q:QQ)(t2:Int)(t3:Bool)(u0:LB)(u1 u2:Int)(h:
 (Q (.tup [Ai t2,Ab t3]) [(Af, .blk Ap [As u0,Ai u1,Ai u2])])):M7 s at_ win Q .ret ⟨[(2,Ai t2),(3,Ab t3)],[(Af, .blk Ap [As u0,Ai u1,Ai u2])]⟩:=kr (by kernel_rfl) h
theorem Atc:Bo E0.P 153 ac_parse_reader_link.code I4 [.tmp 2, .tmp 3]:=Bh _ _ Tryz.f153 [(7,[0,4],[])] [2,3] _ 52 Tryz.func153 (by kernel_rfl) (by kernel_rfl) (by kernel_rfl) (by kernel_rfl)
theorem Aae(s:LB)(at_ win:Int)(Q:QQ)(h:
 (Call E0.P G8 [.ptr Af 0] [(Af, .blk Ap [As s,Ai at_,Ai win])] fun r0 g0=>
 Ah (qP4 g0 r0)
 (Let (bif decide (rI (rT r0 1)=(0:Int))then decide (gI (Ae (rT r0 0)) 0=(1:Int))
 else false) fun x1=>
 Br (x1)
 (Call E0.P G8 [.ptr Af 0] [(Af, .blk Ap [.imm (.str (rS ((A7 g0 Af).getD 0 AV.undef))), .imm (.int .i64 (rI ((A7 g0 Af).getD 1 AV.undef))), .imm (.int .i64 (rI ((A7 g0 Af).getD 2 AV.undef)))])] fun r2 g2=>
 Ah (qP4 g2 r2)
 (Let (bif decide (rI (rT r2 1)=(0:Int))then decide (gI (Ae (rT r2 0)) 0=(8:Int))
 else false) fun x3=>
 Let (bif x3 then gS (Ae (rT r2 0)) 2 == [(82:UInt8)]else false) fun x4=>
 Br (x4)
 (Q (.tup [Ai (gI (Ae (rT r0 0)) 1),Ab true]) [(Af, .blk Ap [.imm (.str (rS ((A7 g2 Af).getD 0 AV.undef))), .imm (.int .i64 (rI ((A7 g2 Af).getD 1 AV.undef))), .imm (.int .i64 (rI ((A7 g2 Af).getD 2 AV.undef)))])])
 (M4 (rS ((A7 g2 Af).getD 0 AV.undef)) (rI ((A7 g2 Af).getD 1 AV.undef)) (rI ((A7 g2 Af).getD 2 AV.undef)) s at_ (M7 s at_ win Q))))
 (M4 (rS ((A7 g0 Af).getD 0 AV.undef)) (rI ((A7 g0 Af).getD 1 AV.undef)) (rI ((A7 g0 Af).getD 2 AV.undef)) s at_ (M7 s at_ win Q))))):Call E0.P Om [.ptr (.arg 0) 0] [(.arg 0, .blk Ap [.imm (.str s), .imm (.int .i64 at_), .imm (.int .i64 win)])] Q:=A8 (Ar E0 I4) (Az I4) 3 0 153 ac_parse_reader_link [.tmp 2, .tmp 3] Atc _ _ Q rfl rfl (kr (by kernel_rfl) h)
noncomputable def ac_parse_reader_key:AC:=(Bf [] [4,5,6] (codeOf Tryz.f154) 0).1
abbrev Wi:Nat:=45
theorem Au7:Bo E0.P 154 ac_parse_reader_key.code Wi [.tmp 4, .tmp 5, .tmp 6]:=Bh _ _ Tryz.f154 [] [4,5,6] _ 45 Tryz.func154 (by kernel_rfl) (by kernel_rfl) (by kernel_rfl) (by kernel_rfl)
theorem Aqd(s:LB)(at_ win:Int)(m:List (List UInt8 × Int))(Q:QQ)(h:
 (Call E0.P G8 [.ptr Af 0] [(Af, .blk Ap [As s,Ai at_,Ai win])] fun r0 g0=>
 Ah (qP4 g0 r0)
 (Br (!decide (rI (rT r0 1)=(0:Int)))
 (Q (.tup [.imm (.str []),Ab false,Ai (rI (rT r0 1))]) [(Af, .blk Ap [.imm (.str (rS ((A7 g0 Af).getD 0 AV.undef))), .imm (.int .i64 (rI ((A7 g0 Af).getD 1 AV.undef))), .imm (.int .i64 (rI ((A7 g0 Af).getD 2 AV.undef)))]),(Ay, .map m)])
 (Br (decide (gI (Ae (rT r0 0)) 0=(0:Int)))
 (Q (.tup [.imm (.str []),Ab false,Ai 5]) [(Af, .blk Ap [.imm (.str (rS ((A7 g0 Af).getD 0 AV.undef))), .imm (.int .i64 (rI ((A7 g0 Af).getD 1 AV.undef))), .imm (.int .i64 (rI ((A7 g0 Af).getD 2 AV.undef)))]),(Ay, .map m)])
 (Br (decide (gI (Ae (rT r0 0)) 0=(7:Int)))
 (Q (.tup [.imm (.str []),Ab false,Ai 0]) [(Af, .blk Ap [.imm (.str (rS ((A7 g0 Af).getD 0 AV.undef))), .imm (.int .i64 (rI ((A7 g0 Af).getD 1 AV.undef))), .imm (.int .i64 (rI ((A7 g0 Af).getD 2 AV.undef)))]),(Ay, .map m)])
 (Br (!decide (gI (Ae (rT r0 0)) 0=(2:Int)))
 (Q (.tup [.imm (.str []),Ab false,Ai 4]) [(Af, .blk Ap [.imm (.str (rS ((A7 g0 Af).getD 0 AV.undef))), .imm (.int .i64 (rI ((A7 g0 Af).getD 1 AV.undef))), .imm (.int .i64 (rI ((A7 g0 Af).getD 2 AV.undef)))]),(Ay, .map m)])
 (Br (decide ((0:Int)<Dz m (gS (Ae (rT r0 0)) 2)))
 (Q (.tup [.imm (.str []),Ab false,Ai 11]) [(Af, .blk Ap [.imm (.str (rS ((A7 g0 Af).getD 0 AV.undef))), .imm (.int .i64 (rI ((A7 g0 Af).getD 1 AV.undef))), .imm (.int .i64 (rI ((A7 g0 Af).getD 2 AV.undef)))]),(Ay, .map m)])
 (Q (.tup [As (gS (Ae (rT r0 0)) 2),Ab true,Ai 0]) [(Af, .blk Ap [.imm (.str (rS ((A7 g0 Af).getD 0 AV.undef))), .imm (.int .i64 (rI ((A7 g0 Af).getD 1 AV.undef))), .imm (.int .i64 (rI ((A7 g0 Af).getD 2 AV.undef)))]),(Ay, .map (Zk m (gS (Ae (rT r0 0)) 2)
 (IntKind.i64.wrap (Dz m (gS (Ae (rT r0 0)) 2)+(1:Int)))))])))))))):Call E0.P Wd [.ptr (.arg 0) 0, .mp (.arg 1)] [(.arg 0, .blk Ap [.imm (.str s), .imm (.int .i64 at_), .imm (.int .i64 win)]),(.arg 1, .map m)] Q:=A8 (Ar E0 Wi) (Az Wi) 3 0 154 ac_parse_reader_key [.tmp 4, .tmp 5, .tmp 6] Au7 _ _ Q rfl rfl (kr (by kernel_rfl) h)
noncomputable def ac_octet_Span:AC:=(Bf [(1,[0,1,2,7],[]),(7,[0,1,2,7],[]),(9,[7],[]),(12,[0,1,2,7,22,23,24],[]),(14,[7],[]),(18,[0,1,2,7],[]),(20,[7],[0,1,2,7]),(21,[7],[]),(22,[0,1,2,7],[0,1,2,7]),(23,[7],[])] [6] (codeOf Tryz.f89) 0).1
abbrev Ci:Nat:=38
def Yu(t0:LB)(t1:Int)(t2r:LL)(t7:Int)(K:KK):Prop:=Bi 7 E0.P Ci (Au 7 ac_octet_Span).code ⟨[(0,As t0),(1,Ai t1),(2,Al 1 t2r),(7,Ai t7)],[]⟩ K
def Adm(t0:LB)(t1:Int)(t2r:LL)(t7:Int)(t22r:LL)(t23 t24:Int)(K:KK):Prop:=Bi 12 E0.P Ci (Au 12 ac_octet_Span).code ⟨[(0,As t0),(1,Ai t1),(2,Al 1 t2r),(7,Ai t7),(22,Al 1 t22r),(23,Ai t23),(24,Ai t24)],[]⟩ K
def Anu(t7:Int)(K:KK):Prop:=Aq 23 E0.P Ci (Ac 23 ac_octet_Span).code ⟨[(7,Ai t7)],[]⟩ K
def Ant(t0:LB)(t1:Int)(t2r:LL)(t7:Int)(K:KK):Prop:=Aq 22 E0.P Ci (Ac 22 ac_octet_Span).code ⟨[(0,As t0),(1,Ai t1),(2,Al 1 t2r),(7,Ai t7)],[]⟩ K
def Anr(t7:Int)(K:KK):Prop:=Aq 20 E0.P Ci (Ac 20 ac_octet_Span).code ⟨[(7,Ai t7)],[]⟩ K
def Aqg(Q:QQ):KK:=kE fun st=>finish 0 E0.T [.tmp 6] [] Q st
def Yn(Q:QQ):Ex→St→Prop
 | .normal,st=>finish 0 E0.T [.tmp 6] [] Q st
 | .exit _,_=>False
 | .goto i,st=>Jw 1 E0.P Ci i (K5 1 ac_octet_Span).code (mask [0,1,2,7] st) (Aqg Q)
 | .ret,st=>finish 0 E0.T [.tmp 6] [] Q st
def Ae9(Q:QQ):Ex→St→Prop
 | .normal,st=>Aq 23 E0.P Ci (Ac 23 ac_octet_Span).code (mask [7] st) (Yn Q)
 | .exit i,st=>(match (i.beq 0:Bool)with
 |true=>Aq 23 E0.P Ci (Ac 23 ac_octet_Span).code (mask [7] st) (Yn Q)
 |false=>False)
 | .goto i,st=>Jw 1 E0.P Ci i (K5 1 ac_octet_Span).code (mask [0,1,2,7] st) (Aqg Q)
 | .ret,st=>finish 0 E0.T [.tmp 6] [] Q st
def Yo(K:KK):Ex→St→Prop
 | .normal,st=>Bi 7 E0.P Ci (Au 7 ac_octet_Span).code (mask [0,1,2,7] st) K
 | .exit i,st=>K (.exit i) st
 | .goto i,st=>K (.goto i) st
 | .ret,st=>K .ret st
def Yp(K:KK):KK:=kC 1 (fun st=>Aq 22 E0.P Ci (Ac 22 ac_octet_Span).code (mask [0,1,2,7] st) (Yo K)) K
def Afa(K:KK):Ex→St→Prop
 | .normal,st=>Aq 20 E0.P Ci (Ac 20 ac_octet_Span).code (mask [7] st) (Yp K)
 | .exit i,st=>(match (i.beq 2:Bool)with
 |true=>Aq 20 E0.P Ci (Ac 20 ac_octet_Span).code (mask [7] st) (Yp K)
 |false=>(match (i.beq 1:Bool)with
 |true=>Aq 22 E0.P Ci (Ac 22 ac_octet_Span).code (mask [0,1,2,7] st) (Yo K)
 |false=>K (.exit i) st))
 | .goto i,st=>K (.goto i) st
 | .ret,st=>K .ret st
theorem Ajm(t0:LB)(t1:Int)(t2r:LL)(t7:Int)(K:KK)(h:
 (Br (decide (t7<IntKind.i64.wrap ((↑t0.length:Int) - t1)))
 (Adm t0 t1 t2r t7 t2r ((↑t2r.length:Int)) ((0:Int)) (Afa K))
 (K (.exit 0) ⟨[(7,Ai t7)],[]⟩))):Yu t0 t1 t2r t7 K:=Bg (Ar E0 Ci) (Az Ci) 3 7 (Au 7 ac_octet_Span) [0,1,2,7] _ K rfl (kr (by kernel_rfl) h)
theorem Ahd(t0:LB)(t1:Int)(t2r:LL)(t7:Int)(t22r:LL)(t23 t24:Int)(K:KK)(h:
 (Br (decide (t24<t23))
 (Ah (((0:Int)≤t24∧t24<(↑t22r.length:Int))∧Bt [.int .i64] (t22r.getD t24.toNat [])=true)
 (Ah ((0:Int)≤IntKind.i64.wrap (t1+t7)∧IntKind.i64.wrap (t1+t7)<(↑t0.length:Int))
 (Call E0.P Ny [.imm (.int .u8 ((↑(t0.getD (IntKind.i64.wrap (t1+t7)).toNat 0).toNat:Int)))] [] fun r0 g0=>
 Ah (qP5 g0 r0)
 (Br (decide (rI r0=gI (t22r.getD t24.toNat []) 0))
 (K (.exit (1)) ⟨[(0,As t0),(1,Ai t1),(2,Al 1 t2r),(7,Ai t7)],[]⟩)
 (Adm t0 t1 t2r t7 t22r t23 (IntKind.i64.wrap (t24+(1:Int))) K)))))
 (K (.exit (2)) ⟨[(7,Ai t7)],[]⟩))):Adm t0 t1 t2r t7 t22r t23 t24 K:=Bg (Ar E0 Ci) (Az Ci) 3 12 (Au 12 ac_octet_Span) [0,1,2,7,22,23,24] _ K rfl (kr (by kernel_rfl) h)
theorem Ag2(t7:Int)(K:KK)(h:
 (K .ret ⟨[(6,Ai t7)],[]⟩)):Anu t7 K:=Av (Ar E0 Ci) (Az Ci) 3 23 (Ac 23 ac_octet_Span) [] _ K rfl (kr (by kernel_rfl) h)
theorem Avc(t0:LB)(t1:Int)(t2r:LL)(t7:Int)(K:KK)(h:
 (K .normal ⟨[(0,As t0),(1,Ai t1),(2,Al 1 t2r),(7,Ai (IntKind.i64.wrap (t7+(1:Int))))],[]⟩)):Ant t0 t1 t2r t7 K:=Av (Ar E0 Ci) (Az Ci) 3 22 (Ac 22 ac_octet_Span) [0,1,2,7] _ K rfl (kr (by kernel_rfl) h)
theorem Avb(t7:Int)(K:KK)(h:
 (K (.exit 0) ⟨[(7,Ai t7)],[]⟩)):Anr t7 K:=Av (Ar E0 Ci) (Az Ci) 3 20 (Ac 20 ac_octet_Span) [0,1,2,7] _ K rfl (kr (by kernel_rfl) h)
theorem Aji(Q:QQ)(t6:Int)(h:
 (Q (Ai t6) [])):Yn Q .ret ⟨[(6,Ai t6)],[]⟩:=kr (by kernel_rfl) h
theorem Ajj(Q:QQ)(t7:Int)(h:
 (Anu t7 (Yn Q))):Ae9 Q (.exit 0) ⟨[(7,Ai t7)],[]⟩:=kr (by kernel_rfl) h
theorem Azq(K:KK)(t0:LB)(t1:Int)(t2r:LL)(t7:Int)(h:
 (Yu t0 t1 t2r t7 K)):Yo K .normal ⟨[(0,As t0),(1,Ai t1),(2,Al 1 t2r),(7,Ai t7)],[]⟩:=kr (by kernel_rfl) h
theorem Azr(K:KK)(t7:Int)(h:
 (K (.exit 0) ⟨[(7,Ai t7)],[]⟩)):Yp K (.exit 0) ⟨[(7,Ai t7)],[]⟩:=kr (by kernel_rfl) h
theorem Azs(K:KK)(t0:LB)(t1:Int)(t2r:LL)(t7:Int)(h:
 (Ant t0 t1 t2r t7 (Yo K))):Afa K (.exit (1)) ⟨[(0,As t0),(1,Ai t1),(2,Al 1 t2r),(7,Ai t7)],[]⟩:=kr (by kernel_rfl) h
theorem Azt(K:KK)(t7:Int)(h:
 (Anr t7 (Yp K))):Afa K (.exit (2)) ⟨[(7,Ai t7)],[]⟩:=kr (by kernel_rfl) h
theorem Ba1:Bo E0.P 89 ac_octet_Span.code Ci [.tmp 6]:=Bh _ _ Tryz.f89 [(1,[0,1,2,7],[]),(7,[0,1,2,7],[]),(9,[7],[]),(12,[0,1,2,7,22,23,24],[]),(14,[7],[]),(18,[0,1,2,7],[]),(20,[7],[0,1,2,7]),(21,[7],[]),(22,[0,1,2,7],[0,1,2,7]),(23,[7],[])] [6] _ 38 Tryz.func89 (by kernel_rfl) (by kernel_rfl) (by kernel_rfl) (by kernel_rfl)
theorem A37(a0:LB)(a1:Int)(a2:LL)(Q:QQ)(h:
 (Call E0.P Xb [As a0,Ai a1] [] fun r0 g0=>
 Ah (qP8 g0 r0)
 (Br (!rB r0)
 (Q (Ai 0) [])
 (Yu a0 a1 a2 ((0:Int)) (Ae9 Q))))):Call E0.P Vy [As a0,Ai a1,Al 1 a2] [] Q:=A8 (Ar E0 Ci) (Az Ci) 3 0 89 ac_octet_Span [.tmp 6] Ba1 _ _ Q rfl rfl (kr (by kernel_rfl) h)
noncomputable def ac_octet_Ends:AC:=(Bf [] [4] (codeOf Tryz.f90) 0).1
abbrev Ai1:Nat:=33
theorem Baz:Bo E0.P 90 ac_octet_Ends.code Ai1 [.tmp 4]:=Bh _ _ Tryz.f90 [] [4] _ 33 Tryz.func90 (by kernel_rfl) (by kernel_rfl) (by kernel_rfl) (by kernel_rfl)
theorem A35(a0:LB)(a1:Int)(Q:QQ)(h:
 (Call E0.P Xb [As a0,Ai a1] [] fun r0 g0=>
 Ah (qP8 g0 r0)
 (Br (!rB r0)
 (Q (Ai 0) [])
 (Ah ((0:Int)≤a1∧a1<(↑a0.length:Int))
 (Br (decide ((↑(a0.getD a1.toNat 0).toNat:Int)=(10:Int)))
 (Q (Ai 1) [])
 (Ah ((0:Int)≤a1∧a1<(↑a0.length:Int))
 (Br (!decide ((↑(a0.getD a1.toNat 0).toNat:Int)=(13:Int)))
 (Q (Ai 0) [])
 (Ah (decide (IntKind.i64.wrap (a1+(1:Int))<(↑a0.length:Int))=true→
 (0:Int)≤IntKind.i64.wrap (a1+(1:Int))∧IntKind.i64.wrap (a1+(1:Int))<(↑a0.length:Int))
 (Let (bif decide (IntKind.i64.wrap (a1+(1:Int))<(↑a0.length:Int))then
 decide ((↑(a0.getD (IntKind.i64.wrap (a1+(1:Int))).toNat 0).toNat:Int)=(10:Int))
 else false) fun x1=>
 Br (x1)
 (Q (Ai 2) [])
 (Q (Ai 1) [])))))))))):Call E0.P Qp [As a0,Ai a1] [] Q:=A8 (Ar E0 Ai1) (Az Ai1) 3 0 90 ac_octet_Ends [.tmp 4] Baz _ _ Q rfl rfl (kr (by kernel_rfl) h)
noncomputable def ac_token_scanner_name:AC:=(Bf [(3,[0,2,4,5],[]),(5,[0,2],[]),(6,[0,2,4],[0,2,4,5]),(12,[0,2,4],[0,2]),(16,[0,2],[0,2,4,5]),(17,[0,2],[])] [2,3] (codeOf Tryz.f92) 0).1
abbrev Bv:Nat:=71
def F3(t4:Int)(t5:Bool)(u0:LB)(u1 u2 u3:Int)(u4:LB)(u5 u6:Int)(u7:LL)(K:KK):Prop:=Bi 3 E0.P Bv (Au 3 ac_token_scanner_name).code ⟨[(0, .ptr Af 0),(2, .ptr nL2 0),(4, .imm (.int .u8 t4)),(5,Ab t5)],[(Af, .blk Ad [As u0,Ai u1, .own Ay]),(nL2, .blk Aw [Ai u2,Ai u3,As u4,Ai u5,Ai u6]),(Ay, .arr (Am+2) true 1 u7)]⟩ K
def Rm(t4:Int)(u0:LB)(u1 u2 u3:Int)(u4:LB)(u5 u6:Int)(u7:LL)(K:KK):Prop:=Aq 6 E0.P Bv (Ac 6 ac_token_scanner_name).code ⟨[(0, .ptr Af 0),(2, .ptr nL2 0),(4, .imm (.int .u8 t4))],[(Af, .blk Ad [As u0,Ai u1, .own Ay]),(nL2, .blk Aw [Ai u2,Ai u3,As u4,Ai u5,Ai u6]),(Ay, .arr (Am+2) true 1 u7)]⟩ K
def Ls(t4:Int)(u0:LB)(u1 u2 u3:Int)(u4:LB)(u5 u6:Int)(u7:LL)(K:KK):Prop:=Aq 12 E0.P Bv (Ac 12 ac_token_scanner_name).code ⟨[(0, .ptr Af 0),(2, .ptr nL2 0),(4, .imm (.int .u8 t4))],[(Af, .blk Ad [As u0,Ai u1, .own Ay]),(nL2, .blk Aw [Ai u2,Ai u3,As u4,Ai u5,Ai u6]),(Ay, .arr (Am+2) true 1 u7)]⟩ K
def Zf(u0:LB)(u1 u2 u3:Int)(u4:LB)(u5 u6:Int)(u7:LL)(K:KK):Prop:=Aq 17 E0.P Bv (Ac 17 ac_token_scanner_name).code ⟨[(0, .ptr Af 0),(2, .ptr nL2 0)],[(Af, .blk Ad [As u0,Ai u1, .own Ay]),(nL2, .blk Aw [Ai u2,Ai u3,As u4,Ai u5,Ai u6]),(Ay, .arr (Am+2) true 1 u7)]⟩ K
def Qh(u0:LB)(u1 u2 u3:Int)(u4:LB)(u5 u6:Int)(u7:LL)(K:KK):Prop:=Aq 16 E0.P Bv (Ac 16 ac_token_scanner_name).code ⟨[(0, .ptr Af 0),(2, .ptr nL2 0)],[(Af, .blk Ad [As u0,Ai u1, .own Ay]),(nL2, .blk Aw [Ai u2,Ai u3,As u4,Ai u5,Ai u6]),(Ay, .arr (Am+2) true 1 u7)]⟩ K
def Rn(s:LB)(at_:Int)(out:LL)(Q:QQ):KK:=kE fun st=>finish 0 E0.T [.cell 2 78, .tmp 3] [(Af, .blk Ad [As s,Ai at_, .own Ay]),(Ay, .arr (Am+2) true 1 out)] Q st
def D7(s:LB)(at_:Int)(out:LL)(Q:QQ):KK:=kF 0 (fun st=>Aq 17 E0.P Bv (Ac 17 ac_token_scanner_name).code (mask [0,2] st) (Rn s at_ out Q)) fun st=>finish 0 E0.T [.cell 2 78, .tmp 3] [(Af, .blk Ad [As s,Ai at_, .own Ay]),(Ay, .arr (Am+2) true 1 out)] Q st
def Hl(K:KK):Ex→St→Prop
 | .normal,st=>Bi 3 E0.P Bv (Au 3 ac_token_scanner_name).code (mask [0,2,4,5] st) K
 | .exit i,st=>K (.exit i) st
 | .goto i,st=>K (.goto i) st
 | .ret,st=>K .ret st
def Ml(K:KK):KK:=kP [0,2,4,5] K
def Jg(K:KK):KK:=kC 1 (fun st=>Aq 16 E0.P Bv (Ac 16 ac_token_scanner_name).code (mask [0,2] st) (Ml K)) K
theorem Wy(t4:Int)(t5:Bool)(u0:LB)(u1 u2 u3:Int)(u4:LB)(u5 u6:Int)(u7:LL)(K:KK)(h:
 (Br (t5 == true)
 (Call E0.P Ny [.imm (.int .u8 t4)] [] fun r0 g0=>
 Ah (qP5 g0 r0)
 (Let (decide (rI r0=(2:Int))) fun x1=>
 Br (x1)
 (Rm t4 u0 u1 u2 u3 u4 u5 u6 u7 (Hl K))
 (K (.exit 0) ⟨[(0, .ptr Af 0),(2, .ptr nL2 0)],[(Af, .blk Ad [As u0,Ai u1, .own Ay]),(nL2, .blk Aw [Ai u2,Ai u3,As u4,Ai u5,Ai u6]),(Ay, .arr (Am+2) true 1 u7)]⟩)))
 (Ah ((!true)=false)
 (Let (false) fun x2=>
 Br (x2)
 (Rm t4 u0 u1 u2 u3 u4 u5 u6 u7 (Hl K))
 (K (.exit 0) ⟨[(0, .ptr Af 0),(2, .ptr nL2 0)],[(Af, .blk Ad [As u0,Ai u1, .own Ay]),(nL2, .blk Aw [Ai u2,Ai u3,As u4,Ai u5,Ai u6]),(Ay, .arr (Am+2) true 1 u7)]⟩))))):F3 t4 t5 u0 u1 u2 u3 u4 u5 u6 u7 K:=Bg (Ar E0 Bv) (Az Bv) 3 3 (Au 3 ac_token_scanner_name) [0,2,4,5] _ K rfl (kr (by kernel_rfl) h)
theorem Aj2(t4:Int)(u0:LB)(u1 u2 u3:Int)(u4:LB)(u5 u6:Int)(u7:LL)(K:KK)(h:
 (Br (decide (t4=(35:Int)))
 (Call E0.P Il [.ptr Af 0] [(Af, .blk Ad [As u0,Ai (IntKind.i64.wrap (u1+(1:Int))), .own Ay]),(Ay, .arr (Am+2) true 1 u7)] fun r0 g0=>
 Ah (g0=
 [(Nm.arg 0,
 Entry.blk 101
 [.imm (.str (rS ((A7 g0 Af).getD 0 AV.undef))),
 .imm (.int .i64 (rI ((A7 g0 Af).getD 1 AV.undef))),
 AV.own Ay]),
 (Nm.arg 1,Entry.arr 7 true 1 (Dk g0 Ay))]∧
 r0= .tup [.imm (.int .u8 (rI (rT r0 0))), .imm (.bool (rB (rT r0 1)))])
 (Br (!rB (rT r0 1))
 (K .ret ⟨[(2, .ptr nL2 0),(3,Ai 4)],[(nL2, .blk Aw [Ai 0,Ai 0, .imm (.str []),Ai 0,Ai 0]),(Af, .blk Ad [.imm (.str (rS ((A7 g0 Af).getD 0 AV.undef))), .imm (.int .i64 (rI ((A7 g0 Af).getD 1 AV.undef))), .own Ay]),(Ay, .arr (Am+2) true 1 (Dk g0 Ay))]⟩)
 (Ls (rI (rT r0 0)) (rS ((A7 g0 Af).getD 0 AV.undef)) (rI ((A7 g0 Af).getD 1 AV.undef)) u2 u3 u4 u5 u6 (Dk g0 Ay) (Jg K))))
 (Ls t4 u0 (IntKind.i64.wrap (u1+(1:Int))) u2 u3 u4 u5 u6 u7 (Jg K)))):Rm t4 u0 u1 u2 u3 u4 u5 u6 u7 K:=Av (Ar E0 Bv) (Az Bv) 3 6 (Ac 6 ac_token_scanner_name) [0,2,4,5] _ K rfl (kr (by kernel_rfl) h)
theorem Ahy(t4:Int)(u0:LB)(u1 u2 u3:Int)(u4:LB)(u5 u6:Int)(u7:LL)(K:KK)(h:
 (Ah ((u7.length+1)*1≤140737488355328∧u7.length+1≤140737488355328)
 (Br (decide ((127:Int)<(↑(u7++[[IV.int .u8 t4]]).length:Int)))
 (K .ret ⟨[(2, .ptr nL2 0),(3,Ai 8)],[(nL2, .blk Aw [Ai 0,Ai 0, .imm (.str []),Ai 0,Ai 0]),(Af, .blk Ad [As u0,Ai u1, .own Ay]),(Ay, .arr (Am+2) true 1 (u7++[[IV.int .u8 t4]]))]⟩)
 (K .normal ⟨[(0, .ptr Af 0),(2, .ptr nL2 0)],[(Af, .blk Ad [As u0,Ai u1, .own Ay]),(nL2, .blk Aw [Ai u2,Ai u3,As u4,Ai u5,Ai u6]),(Ay, .arr (Am+2) true 1 (u7++[[IV.int .u8 t4]]))]⟩)))):Ls t4 u0 u1 u2 u3 u4 u5 u6 u7 K:=Av (Ar E0 Bv) (Az Bv) 3 12 (Ac 12 ac_token_scanner_name) [0,2] _ K rfl (kr (by kernel_rfl) h)
theorem Ah0(u0:LB)(u1 u2 u3:Int)(u4:LB)(u5 u6:Int)(u7:LL)(K:KK)(h:
 (Ah (∀(r:List IV),r∈u7→Bt [.int .u8] r=true)
 (K .ret ⟨[(2, .ptr nL2 0),(3,Ai 0)],[(nL2, .blk Aw [Ai 2,Ai 0,As (List.map (fun r=>UInt8.ofNat (gI r 0).toNat) u7),Ai 0,Ai 0]),(Af, .blk Ad [As u0,Ai u1, .own Ay]),(Ay, .arr (Am+2) true 1 u7)]⟩))):Zf u0 u1 u2 u3 u4 u5 u6 u7 K:=Av (Ar E0 Bv) (Az Bv) 3 17 (Ac 17 ac_token_scanner_name) [] _ K rfl (kr (by kernel_rfl) h)
theorem Ahz(u0:LB)(u1 u2 u3:Int)(u4:LB)(u5 u6:Int)(u7:LL)(K:KK)(h:
 (Br (decide ((↑u0.length:Int)≤u1))
 (K .normal ⟨[(0, .ptr Af 0),(2, .ptr nL2 0),(4, .imm (.int .u8 ((0:Int)))),(5,Ab false)],[(Af, .blk Ad [As u0,Ai u1, .own Ay]),(nL2, .blk Aw [Ai u2,Ai u3,As u4,Ai u5,Ai u6]),(Ay, .arr (Am+2) true 1 u7)]⟩)
 (Ah ((0:Int)≤u1∧u1<(↑u0.length:Int))
 (K .normal ⟨[(0, .ptr Af 0),(2, .ptr nL2 0),(4, .imm (.int .u8 ((↑(u0.getD u1.toNat 0).toNat:Int)))),(5,Ab true)],[(Af, .blk Ad [As u0,Ai u1, .own Ay]),(nL2, .blk Aw [Ai u2,Ai u3,As u4,Ai u5,Ai u6]),(Ay, .arr (Am+2) true 1 u7)]⟩)))):Qh u0 u1 u2 u3 u4 u5 u6 u7 K:=Av (Ar E0 Bv) (Az Bv) 3 16 (Ac 16 ac_token_scanner_name) [0,2,4,5] _ K rfl (kr (by kernel_rfl) h)
theorem Aj5(s:LB)(at_:Int)(out:LL)(Q:QQ)(t3 u0 u1:Int)(u2:LB)(u3 u4:Int)(u5:LB)(u6:Int)(u7:LL)(h:
 (Q (.tup [.imm (.agg [.int .i64 u0, .int .i64 u1, .str u2, .int .i64 u3, .int .i64 u4]),Ai t3]) [(Af, .blk Ad [As u5,Ai u6, .own Ay]),(Ay, .arr (Am+2) true 1 u7)])):Rn s at_ out Q .ret ⟨[(2, .ptr nL2 0),(3,Ai t3)],[(nL2, .blk Aw [Ai u0,Ai u1,As u2,Ai u3,Ai u4]),(Af, .blk Ad [As u5,Ai u6, .own Ay]),(Ay, .arr (Am+2) true 1 u7)]⟩:=kr (by kernel_rfl) h
theorem Aj6(s:LB)(at_:Int)(out:LL)(Q:QQ)(u0:LB)(u1 u2 u3:Int)(u4:LB)(u5 u6:Int)(u7:LL)(h:
 (Zf u0 u1 u2 u3 u4 u5 u6 u7 (Rn s at_ out Q))):D7 s at_ out Q (.exit 0) ⟨[(0, .ptr Af 0),(2, .ptr nL2 0)],[(Af, .blk Ad [As u0,Ai u1, .own Ay]),(nL2, .blk Aw [Ai u2,Ai u3,As u4,Ai u5,Ai u6]),(Ay, .arr (Am+2) true 1 u7)]⟩:=kr (by kernel_rfl) h
theorem Aj7(s:LB)(at_:Int)(out:LL)(Q:QQ)(t3 u0 u1:Int)(u2:LB)(u3 u4:Int)(u5:LB)(u6:Int)(u7:LL)(h:
 (Q (.tup [.imm (.agg [.int .i64 u0, .int .i64 u1, .str u2, .int .i64 u3, .int .i64 u4]),Ai t3]) [(Af, .blk Ad [As u5,Ai u6, .own Ay]),(Ay, .arr (Am+2) true 1 u7)])):D7 s at_ out Q .ret ⟨[(2, .ptr nL2 0),(3,Ai t3)],[(nL2, .blk Aw [Ai u0,Ai u1,As u2,Ai u3,Ai u4]),(Af, .blk Ad [As u5,Ai u6, .own Ay]),(Ay, .arr (Am+2) true 1 u7)]⟩:=kr (by kernel_rfl) h
theorem Og(K:KK)(t3 u0 u1:Int)(u2:LB)(u3 u4:Int)(u5:LB)(u6:Int)(u7:LL)(h:
 (K .ret ⟨[(2, .ptr nL2 0),(3,Ai t3)],[(nL2, .blk Aw [Ai u0,Ai u1,As u2,Ai u3,Ai u4]),(Af, .blk Ad [As u5,Ai u6, .own Ay]),(Ay, .arr (Am+2) true 1 u7)]⟩)):Hl K .ret ⟨[(2, .ptr nL2 0),(3,Ai t3)],[(nL2, .blk Aw [Ai u0,Ai u1,As u2,Ai u3,Ai u4]),(Af, .blk Ad [As u5,Ai u6, .own Ay]),(Ay, .arr (Am+2) true 1 u7)]⟩:=kr (by kernel_rfl) h
theorem Wt(K:KK)(t4:Int)(t5:Bool)(u0:LB)(u1 u2 u3:Int)(u4:LB)(u5 u6:Int)(u7:LL)(h:
 (F3 t4 t5 u0 u1 u2 u3 u4 u5 u6 u7 K)):Hl K .normal ⟨[(0, .ptr Af 0),(2, .ptr nL2 0),(4, .imm (.int .u8 t4)),(5,Ab t5)],[(Af, .blk Ad [As u0,Ai u1, .own Ay]),(nL2, .blk Aw [Ai u2,Ai u3,As u4,Ai u5,Ai u6]),(Ay, .arr (Am+2) true 1 u7)]⟩:=kr (by kernel_rfl) h
theorem Wu(K:KK)(t4:Int)(t5:Bool)(u0:LB)(u1 u2 u3:Int)(u4:LB)(u5 u6:Int)(u7:LL)(h:
 (K .normal ⟨[(0, .ptr Af 0),(2, .ptr nL2 0),(4, .imm (.int .u8 t4)),(5,Ab t5)],[(Af, .blk Ad [As u0,Ai u1, .own Ay]),(nL2, .blk Aw [Ai u2,Ai u3,As u4,Ai u5,Ai u6]),(Ay, .arr (Am+2) true 1 u7)]⟩)):Ml K .normal ⟨[(0, .ptr Af 0),(2, .ptr nL2 0),(4, .imm (.int .u8 t4)),(5,Ab t5)],[(Af, .blk Ad [As u0,Ai u1, .own Ay]),(nL2, .blk Aw [Ai u2,Ai u3,As u4,Ai u5,Ai u6]),(Ay, .arr (Am+2) true 1 u7)]⟩:=kr (by kernel_rfl) h
theorem Aj8(K:KK)(t3 u0 u1:Int)(u2:LB)(u3 u4:Int)(u5:LB)(u6:Int)(u7:LL)(h:
 (K .ret ⟨[(2, .ptr nL2 0),(3,Ai t3)],[(nL2, .blk Aw [Ai u0,Ai u1,As u2,Ai u3,Ai u4]),(Af, .blk Ad [As u5,Ai u6, .own Ay]),(Ay, .arr (Am+2) true 1 u7)]⟩)):Jg K .ret ⟨[(2, .ptr nL2 0),(3,Ai t3)],[(nL2, .blk Aw [Ai u0,Ai u1,As u2,Ai u3,Ai u4]),(Af, .blk Ad [As u5,Ai u6, .own Ay]),(Ay, .arr (Am+2) true 1 u7)]⟩:=kr (by kernel_rfl) h
theorem Aj9(K:KK)(u0:LB)(u1 u2 u3:Int)(u4:LB)(u5 u6:Int)(u7:LL)(h:
 (Qh u0 u1 u2 u3 u4 u5 u6 u7 (Ml K))):Jg K .normal ⟨[(0, .ptr Af 0),(2, .ptr nL2 0)],[(Af, .blk Ad [As u0,Ai u1, .own Ay]),(nL2, .blk Aw [Ai u2,Ai u3,As u4,Ai u5,Ai u6]),(Ay, .arr (Am+2) true 1 u7)]⟩:=kr (by kernel_rfl) h
theorem Ara:Bo E0.P 92 ac_token_scanner_name.code Bv [.cell 2 78, .tmp 3]:=Bh _ _ Tryz.f92 [(3,[0,2,4,5],[]),(5,[0,2],[]),(6,[0,2,4],[0,2,4,5]),(12,[0,2,4],[0,2]),(16,[0,2],[0,2,4,5]),(17,[0,2],[])] [2,3] _ 71 Tryz.func92 (by kernel_rfl) (by kernel_rfl) (by kernel_rfl) (by kernel_rfl)
theorem Anf(s:LB)(at_:Int)(out:LL)(Q:QQ)(h:
 (Br (decide ((↑s.length:Int)≤IntKind.i64.wrap (at_+(1:Int))))
 (F3 ((0:Int)) false s (IntKind.i64.wrap (at_+(1:Int))) ((0:Int)) ((0:Int)) [] ((0:Int)) ((0:Int)) out (D7 s at_ out Q))
 (Ah ((0:Int)≤IntKind.i64.wrap (at_+(1:Int))∧IntKind.i64.wrap (at_+(1:Int))<(↑s.length:Int))
 (F3 ((↑(s.getD (IntKind.i64.wrap (at_+(1:Int))).toNat 0).toNat:Int)) true s (IntKind.i64.wrap (at_+(1:Int))) ((0:Int)) ((0:Int)) [] ((0:Int)) ((0:Int)) out (D7 s at_ out Q))))):Call E0.P Tj [.ptr (.arg 0) 0] [(.arg 0, .blk Ad [.imm (.str s), .imm (.int .i64 at_), .own (.arg 1)]),(.arg 1, .arr (Am+2) true 1 out)] Q:=A8 (Ar E0 Bv) (Az Bv) 3 0 92 ac_token_scanner_name [.cell 2 78, .tmp 3] Ara _ _ Q rfl rfl (kr (by kernel_rfl) h)
noncomputable def ac_token_scanner_text:AC:=(Bf [(1,[0,2,4],[]),(5,[0,2,4],[]),(7,[2],[]),(15,[2],[]),(20,[0,2,4],[]),(23,[0,2,4,5],[0,2,4]),(30,[2],[])] [2,3] (codeOf Tryz.f93) 0).1
abbrev Cg:Nat:=107
def Jh(t4:Int)(u0:LB)(u1 u2 u3:Int)(u4:LB)(u5 u6:Int)(u7:LL)(K:KK):Prop:=Bi 5 E0.P Cg (Au 5 ac_token_scanner_text).code ⟨[(0, .ptr Af 0),(2, .ptr nL2 0),(4,Ai t4)],[(Af, .blk Ad [As u0,Ai u1, .own Ay]),(nL2, .blk Aw [Ai u2,Ai u3,As u4,Ai u5,Ai u6]),(Ay, .arr (Am+2) true 1 u7)]⟩ K
def Gt(t4 t5:Int)(u0:LB)(u1 u2 u3:Int)(u4:LB)(u5 u6:Int)(u7:LL)(K:KK):Prop:=Aq 23 E0.P Cg (Ac 23 ac_token_scanner_text).code ⟨[(0, .ptr Af 0),(2, .ptr nL2 0),(4,Ai t4),(5, .imm (.int .u8 t5))],[(Af, .blk Ad [As u0,Ai u1, .own Ay]),(nL2, .blk Aw [Ai u2,Ai u3,As u4,Ai u5,Ai u6]),(Ay, .arr (Am+2) true 1 u7)]⟩ K
def Zg(u0 u1:Int)(u2:LB)(u3 u4:Int)(u5:LB)(u6:Int)(u7:LL)(K:KK):Prop:=Aq 30 E0.P Cg (Ac 30 ac_token_scanner_text).code ⟨[(2, .ptr nL2 0)],[(nL2, .blk Aw [Ai u0,Ai u1,As u2,Ai u3,Ai u4]),(Af, .blk Ad [As u5,Ai u6, .own Ay]),(Ay, .arr (Am+2) true 1 u7)]⟩ K
def Aah(s:LB)(at_:Int)(out:LL)(Q:QQ):KK:=kE fun st=>finish 0 E0.T [.cell 2 78, .tmp 3] [(Af, .blk Ad [As s,Ai at_, .own Ay]),(Ay, .arr (Am+2) true 1 out)] Q st
def Mm(s:LB)(at_:Int)(out:LL)(Q:QQ):Ex→St→Prop
 | .normal,st=>finish 0 E0.T [.cell 2 78, .tmp 3] [(Af, .blk Ad [As s,Ai at_, .own Ay]),(Ay, .arr (Am+2) true 1 out)] Q st
 | .exit _,_=>False
 | .goto i,st=>Jw 1 E0.P Cg i (K5 1 ac_token_scanner_text).code (mask [0,2,4] st) (Aah s at_ out Q)
 | .ret,st=>finish 0 E0.T [.cell 2 78, .tmp 3] [(Af, .blk Ad [As s,Ai at_, .own Ay]),(Ay, .arr (Am+2) true 1 out)] Q st
def Hm(s:LB)(at_:Int)(out:LL)(Q:QQ):Ex→St→Prop
 | .normal,st=>Aq 30 E0.P Cg (Ac 30 ac_token_scanner_text).code (mask [2] st) (Mm s at_ out Q)
 | .exit i,st=>(match (i.beq 0:Bool)with
 |true=>Aq 30 E0.P Cg (Ac 30 ac_token_scanner_text).code (mask [2] st) (Mm s at_ out Q)
 |false=>False)
 | .goto i,st=>Jw 1 E0.P Cg i (K5 1 ac_token_scanner_text).code (mask [0,2,4] st) (Aah s at_ out Q)
 | .ret,st=>finish 0 E0.T [.cell 2 78, .tmp 3] [(Af, .blk Ad [As s,Ai at_, .own Ay]),(Ay, .arr (Am+2) true 1 out)] Q st
def Fz(K:KK):KK:=kC 1 (fun st=>Bi 5 E0.P Cg (Au 5 ac_token_scanner_text).code (mask [0,2,4] st) K) K
theorem Wz(t4:Int)(u0:LB)(u1 u2 u3:Int)(u4:LB)(u5 u6:Int)(u7:LL)(K:KK)(h:
 (Br (decide (u1<(↑u0.length:Int)))
 (Ah ((0:Int)≤u1∧u1<(↑u0.length:Int))
 (Call E0.P Qp [As u0,Ai u1] [] fun r0 g0=>
 Ah (qP5 g0 r0)
 (Br (decide ((0:Int)<rI r0))
 (Gt t4 ((10:Int)) u0 (IntKind.i64.wrap (u1+if rI r0>(1:Int)then rI r0 else(1:Int))) u2 u3 u4 u5 u6 u7 (Fz K))
 (Br (decide ((↑(u0.getD u1.toNat 0).toNat:Int)=(92:Int)))
 (Call E0.P Lt [.ptr Af 0] [(Af, .blk Ad [As u0,Ai (IntKind.i64.wrap (u1+if rI r0>(1:Int)then rI r0 else(1:Int))), .own Ay]),(Ay, .arr (Am+2) true 1 u7)] fun r1 g1=>
 Ah (g1=
 [(Nm.arg 0,
 Entry.blk 101
 [.imm (.str (rS ((A7 g1 Af).getD 0 AV.undef))),
 .imm (.int .i64 (rI ((A7 g1 Af).getD 1 AV.undef))),
 AV.own Ay]),
 (Nm.arg 1,Entry.arr 7 true 1 (Dk g1 Ay))]∧
 r1= .imm (.bool (rB r1)))
 (Br (!rB r1)
 (K (.exit 0) ⟨[(2, .ptr nL2 0)],[(nL2, .blk Aw [Ai u2,Ai u3,As u4,Ai u5,Ai u6]),(Af, .blk Ad [.imm (.str (rS ((A7 g1 Af).getD 0 AV.undef))), .imm (.int .i64 (rI ((A7 g1 Af).getD 1 AV.undef))), .own Ay]),(Ay, .arr (Am+2) true 1 (Dk g1 Ay))]⟩)
 (Br (decide ((65535:Int)<(↑(Dk g1 Ay).length:Int)))
 (K .ret ⟨[(2, .ptr nL2 0),(3,Ai 8)],[(nL2, .blk Aw [Ai 0,Ai 0, .imm (.str []),Ai 0,Ai 0]),(Af, .blk Ad [.imm (.str (rS ((A7 g1 Af).getD 0 AV.undef))), .imm (.int .i64 (rI ((A7 g1 Af).getD 1 AV.undef))), .own Ay]),(Ay, .arr (Am+2) true 1 (Dk g1 Ay))]⟩)
 (Jh t4 (rS ((A7 g1 Af).getD 0 AV.undef)) (rI ((A7 g1 Af).getD 1 AV.undef)) u2 u3 u4 u5 u6 (Dk g1 Ay) K))))
 (Br (decide ((↑(u0.getD u1.toNat 0).toNat:Int)=(40:Int)))
 (Gt (IntKind.i64.wrap (t4+(1:Int))) ((↑(u0.getD u1.toNat 0).toNat:Int)) u0 (IntKind.i64.wrap (u1+if rI r0>(1:Int)then rI r0 else(1:Int))) u2 u3 u4 u5 u6 u7 (Fz K))
 (Br (decide ((↑(u0.getD u1.toNat 0).toNat:Int)=(41:Int)))
 (Gt (IntKind.i64.wrap (t4 - (1:Int))) ((↑(u0.getD u1.toNat 0).toNat:Int)) u0 (IntKind.i64.wrap (u1+if rI r0>(1:Int)then rI r0 else(1:Int))) u2 u3 u4 u5 u6 u7 (Fz K))
 (Gt t4 ((↑(u0.getD u1.toNat 0).toNat:Int)) u0 (IntKind.i64.wrap (u1+if rI r0>(1:Int)then rI r0 else(1:Int))) u2 u3 u4 u5 u6 u7 (Fz K))))))))
 (K (.exit 0) ⟨[(2, .ptr nL2 0)],[(nL2, .blk Aw [Ai u2,Ai u3,As u4,Ai u5,Ai u6]),(Af, .blk Ad [As u0,Ai u1, .own Ay]),(Ay, .arr (Am+2) true 1 u7)]⟩))):Jh t4 u0 u1 u2 u3 u4 u5 u6 u7 K:=Bg (Ar E0 Cg) (Az Cg) 3 5 (Au 5 ac_token_scanner_text) [0,2,4] _ K rfl (kr (by kernel_rfl) h)
theorem Vm(t4 t5:Int)(u0:LB)(u1 u2 u3:Int)(u4:LB)(u5 u6:Int)(u7:LL)(K:KK)(h:
 (Br (decide (t4=(0:Int)))
 (Ah (∀(r:List IV),r∈u7→Bt [.int .u8] r=true)
 (K .ret ⟨[(2, .ptr nL2 0),(3,Ai 0)],[(nL2, .blk Aw [Ai 3,Ai 0,As (List.map (fun r=>UInt8.ofNat (gI r 0).toNat) u7),Ai 0,Ai 0]),(Af, .blk Ad [As u0,Ai u1, .own Ay]),(Ay, .arr (Am+2) true 1 u7)]⟩))
 (Ah ((u7.length+1)*1≤140737488355328∧u7.length+1≤140737488355328)
 (Br (decide ((65535:Int)<(↑(u7++[[IV.int .u8 t5]]).length:Int)))
 (K .ret ⟨[(2, .ptr nL2 0),(3,Ai 8)],[(nL2, .blk Aw [Ai 0,Ai 0, .imm (.str []),Ai 0,Ai 0]),(Af, .blk Ad [As u0,Ai u1, .own Ay]),(Ay, .arr (Am+2) true 1 (u7++[[IV.int .u8 t5]]))]⟩)
 (K .normal ⟨[(0, .ptr Af 0),(2, .ptr nL2 0),(4,Ai t4)],[(Af, .blk Ad [As u0,Ai u1, .own Ay]),(nL2, .blk Aw [Ai u2,Ai u3,As u4,Ai u5,Ai u6]),(Ay, .arr (Am+2) true 1 (u7++[[IV.int .u8 t5]]))]⟩))))):Gt t4 t5 u0 u1 u2 u3 u4 u5 u6 u7 K:=Av (Ar E0 Cg) (Az Cg) 3 23 (Ac 23 ac_token_scanner_text) [0,2,4] _ K rfl (kr (by kernel_rfl) h)
theorem Ah1(u0 u1:Int)(u2:LB)(u3 u4:Int)(u5:LB)(u6:Int)(u7:LL)(K:KK)(h:
 (K .ret ⟨[(2, .ptr nL2 0),(3,Ai 5)],[(nL2, .blk Aw [Ai 0,Ai 0, .imm (.str []),Ai 0,Ai 0]),(Af, .blk Ad [As u5,Ai u6, .own Ay]),(Ay, .arr (Am+2) true 1 u7)]⟩)):Zg u0 u1 u2 u3 u4 u5 u6 u7 K:=Av (Ar E0 Cg) (Az Cg) 3 30 (Ac 30 ac_token_scanner_text) [] _ K rfl (kr (by kernel_rfl) h)
theorem Aka(s:LB)(at_:Int)(out:LL)(Q:QQ)(t3 u0 u1:Int)(u2:LB)(u3 u4:Int)(u5:LB)(u6:Int)(u7:LL)(h:
 (Q (.tup [.imm (.agg [.int .i64 u0, .int .i64 u1, .str u2, .int .i64 u3, .int .i64 u4]),Ai t3]) [(Af, .blk Ad [As u5,Ai u6, .own Ay]),(Ay, .arr (Am+2) true 1 u7)])):Mm s at_ out Q .ret ⟨[(2, .ptr nL2 0),(3,Ai t3)],[(nL2, .blk Aw [Ai u0,Ai u1,As u2,Ai u3,Ai u4]),(Af, .blk Ad [As u5,Ai u6, .own Ay]),(Ay, .arr (Am+2) true 1 u7)]⟩:=kr (by kernel_rfl) h
theorem Akb(s:LB)(at_:Int)(out:LL)(Q:QQ)(u0 u1:Int)(u2:LB)(u3 u4:Int)(u5:LB)(u6:Int)(u7:LL)(h:
 (Zg u0 u1 u2 u3 u4 u5 u6 u7 (Mm s at_ out Q))):Hm s at_ out Q (.exit 0) ⟨[(2, .ptr nL2 0)],[(nL2, .blk Aw [Ai u0,Ai u1,As u2,Ai u3,Ai u4]),(Af, .blk Ad [As u5,Ai u6, .own Ay]),(Ay, .arr (Am+2) true 1 u7)]⟩:=kr (by kernel_rfl) h
theorem Oh(s:LB)(at_:Int)(out:LL)(Q:QQ)(t3 u0 u1:Int)(u2:LB)(u3 u4:Int)(u5:LB)(u6:Int)(u7:LL)(h:
 (Q (.tup [.imm (.agg [.int .i64 u0, .int .i64 u1, .str u2, .int .i64 u3, .int .i64 u4]),Ai t3]) [(Af, .blk Ad [As u5,Ai u6, .own Ay]),(Ay, .arr (Am+2) true 1 u7)])):Hm s at_ out Q .ret ⟨[(2, .ptr nL2 0),(3,Ai t3)],[(nL2, .blk Aw [Ai u0,Ai u1,As u2,Ai u3,Ai u4]),(Af, .blk Ad [As u5,Ai u6, .own Ay]),(Ay, .arr (Am+2) true 1 u7)]⟩:=kr (by kernel_rfl) h
theorem Wv(K:KK)(t3 u0 u1:Int)(u2:LB)(u3 u4:Int)(u5:LB)(u6:Int)(u7:LL)(h:
 (K .ret ⟨[(2, .ptr nL2 0),(3,Ai t3)],[(nL2, .blk Aw [Ai u0,Ai u1,As u2,Ai u3,Ai u4]),(Af, .blk Ad [As u5,Ai u6, .own Ay]),(Ay, .arr (Am+2) true 1 u7)]⟩)):Fz K .ret ⟨[(2, .ptr nL2 0),(3,Ai t3)],[(nL2, .blk Aw [Ai u0,Ai u1,As u2,Ai u3,Ai u4]),(Af, .blk Ad [As u5,Ai u6, .own Ay]),(Ay, .arr (Am+2) true 1 u7)]⟩:=kr (by kernel_rfl) h
theorem Akc(K:KK)(t4:Int)(u0:LB)(u1 u2 u3:Int)(u4:LB)(u5 u6:Int)(u7:LL)(h:
 (Jh t4 u0 u1 u2 u3 u4 u5 u6 u7 K)):Fz K .normal ⟨[(0, .ptr Af 0),(2, .ptr nL2 0),(4,Ai t4)],[(Af, .blk Ad [As u0,Ai u1, .own Ay]),(nL2, .blk Aw [Ai u2,Ai u3,As u4,Ai u5,Ai u6]),(Ay, .arr (Am+2) true 1 u7)]⟩:=kr (by kernel_rfl) h
theorem Arb:Bo E0.P 93 ac_token_scanner_text.code Cg [.cell 2 78, .tmp 3]:=Bh _ _ Tryz.f93 [(1,[0,2,4],[]),(5,[0,2,4],[]),(7,[2],[]),(15,[2],[]),(20,[0,2,4],[]),(23,[0,2,4,5],[0,2,4]),(30,[2],[])] [2,3] _ 107 Tryz.func93 (by kernel_rfl) (by kernel_rfl) (by kernel_rfl) (by kernel_rfl)
theorem Ang(s:LB)(at_:Int)(out:LL)(Q:QQ)(h:
 (Jh ((1:Int)) s (IntKind.i64.wrap (at_+(1:Int))) ((0:Int)) ((0:Int)) [] ((0:Int)) ((0:Int)) out (Hm s at_ out Q))):Call E0.P Tm [.ptr (.arg 0) 0] [(.arg 0, .blk Ad [.imm (.str s), .imm (.int .i64 at_), .own (.arg 1)]),(.arg 1, .arr (Am+2) true 1 out)] Q:=A8 (Ar E0 Cg) (Az Cg) 3 0 93 ac_token_scanner_text [.cell 2 78, .tmp 3] Arb _ _ Q rfl rfl (kr (by kernel_rfl) h)
noncomputable def ac_token_scanner_hex:AC:=(Bf [(5,[1,2,4,5,6,7],[]),(7,[2],[]),(19,[1,2,4,5],[1,2,4,5]),(22,[1,2,4,5],[1,2,4,5,6,7]),(23,[2],[])] [2,3] (codeOf Tryz.f95) 0).1
abbrev Cf:Nat:=75
def Gf(t6:Int)(t7:Bool)(u0 u1:Int)(u2:LB)(u3 u4 u5:Int)(u6:LB)(u7:Int)(u8:LL)(K:KK):Prop:=Bi 5 E0.P Cf (Au 5 ac_token_scanner_hex).code ⟨[(1, .ptr Dc 0),(2, .ptr nL2 0),(4, .ptr nL4 0),(5, .fn Ew [.ptr nL4 0, .ptr Dc 0]),(6, .imm (.int .u8 t6)),(7,Ab t7)],[(Dc, .blk 98 [.ptr Af 0]),(nL2, .blk Aw [Ai u0,Ai u1,As u2,Ai u3,Ai u4]),(nL4, .blk Hg [Ai u5]),(Af, .blk Ad [As u6,Ai u7, .own Ay]),(Ay, .arr (Am+2) true 1 u8)]⟩ K
def Ev(u0 u1:Int)(u2:LB)(u3 u4 u5:Int)(u6:LB)(u7:Int)(u8:LL)(K:KK):Prop:=Aq 19 E0.P Cf (Ac 19 ac_token_scanner_hex).code ⟨[(1, .ptr Dc 0),(2, .ptr nL2 0),(4, .ptr nL4 0),(5, .fn Ew [.ptr nL4 0, .ptr Dc 0])],[(Dc, .blk 98 [.ptr Af 0]),(nL2, .blk Aw [Ai u0,Ai u1,As u2,Ai u3,Ai u4]),(nL4, .blk Hg [Ai u5]),(Af, .blk Ad [As u6,Ai u7, .own Ay]),(Ay, .arr (Am+2) true 1 u8)]⟩ K
def Aad(u0 u1:Int)(u2:LB)(u3 u4:Int)(u5:LB)(u6:Int)(u7:LL)(K:KK):Prop:=Aq 23 E0.P Cf (Ac 23 ac_token_scanner_hex).code ⟨[(2, .ptr nL2 0)],[(nL2, .blk Aw [Ai u0,Ai u1,As u2,Ai u3,Ai u4]),(Af, .blk Ad [As u5,Ai u6, .own Ay]),(Ay, .arr (Am+2) true 1 u7)]⟩ K
def Aac(u0 u1:Int)(u2:LB)(u3 u4 u5:Int)(u6:LB)(u7:Int)(u8:LL)(K:KK):Prop:=Aq 22 E0.P Cf (Ac 22 ac_token_scanner_hex).code ⟨[(1, .ptr Dc 0),(2, .ptr nL2 0),(4, .ptr nL4 0),(5, .fn Ew [.ptr nL4 0, .ptr Dc 0])],[(Dc, .blk 98 [.ptr Af 0]),(nL2, .blk Aw [Ai u0,Ai u1,As u2,Ai u3,Ai u4]),(nL4, .blk Hg [Ai u5]),(Af, .blk Ad [As u6,Ai u7, .own Ay]),(Ay, .arr (Am+2) true 1 u8)]⟩ K
def Sv(s:LB)(at_:Int)(out:LL)(Q:QQ):KK:=kE fun st=>finish 0 E0.T [.cell 2 78, .tmp 3] [(Af, .blk Ad [As s,Ai at_, .own Ay]),(Ay, .arr (Am+2) true 1 out)] Q st
def Ed(s:LB)(at_:Int)(out:LL)(Q:QQ):KK:=kF 0 (fun st=>Aq 23 E0.P Cf (Ac 23 ac_token_scanner_hex).code (mask [2] st) (Sv s at_ out Q)) fun st=>finish 0 E0.T [.cell 2 78, .tmp 3] [(Af, .blk Ad [As s,Ai at_, .own Ay]),(Ay, .arr (Am+2) true 1 out)] Q st
def Sw(K:KK):Ex→St→Prop
 | .normal,st=>Bi 5 E0.P Cf (Au 5 ac_token_scanner_hex).code (mask [1,2,4,5,6,7] st) K
 | .exit i,st=>K (.exit i) st
 | .goto i,st=>K (.goto i) st
 | .ret,st=>K .ret st
def Dv(K:KK):KK:=kC 1 (fun st=>Aq 22 E0.P Cf (Ac 22 ac_token_scanner_hex).code (mask [1,2,4,5] st) (Sw K)) K
theorem Xp(t6:Int)(t7:Bool)(u0 u1:Int)(u2:LB)(u3 u4 u5:Int)(u6:LB)(u7:Int)(u8:LL)(K:KK)(h:
 (Br (t7)
 (Call E0.P Xz [.imm (.int .u8 t6)] [] fun r0 g0=>
 Ah (qP5 g0 r0)
 (Br (decide (t6=(62:Int)))
 (Br (decide ((65535:Int)<(↑u8.length:Int)))
 (K .ret ⟨[(2, .ptr nL2 0),(3,Ai 8)],[(nL2, .blk Aw [Ai 0,Ai 0, .imm (.str []),Ai 0,Ai 0]),(Af, .blk Ad [As u6,Ai (IntKind.i64.wrap (u7+(1:Int))), .own Ay]),(Ay, .arr (Am+2) true 1 u8)]⟩)
 (Ah (∀(r:List IV),r∈u8→Bt [.int .u8] r=true)
 (K .ret ⟨[(2, .ptr nL2 0),(3,Ai 0)],[(nL2, .blk Aw [Ai 3,Ai 0,As (List.map (fun r=>UInt8.ofNat (gI r 0).toNat) u8),Ai 0,Ai 0]),(Af, .blk Ad [As u6,Ai (IntKind.i64.wrap (u7+(1:Int))), .own Ay]),(Ay, .arr (Am+2) true 1 u8)]⟩)))
 (Br (decide ((0:Int)≤rI r0))
 (Ah ((2:Int)≠(0:Int))
 (Br (decide ((IntKind.i64.wrap (u5+(1:Int))).tmod (2:Int)=(1:Int)))
 (Ah ((0:Int)≤(4:Int))
 ((Ah ((u8.length+1)*1≤140737488355328∧u8.length+1≤140737488355328)
 (Ev u0 u1 u2 u3 u4 (IntKind.i64.wrap (u5+(1:Int))) u6 (IntKind.i64.wrap (u7+(1:Int))) (u8++[[IV.int .u8 (IntKind.u8.wrap (IntKind.i64.wrap (rI r0*(2:Int) ^ 4)))]]) (Dv K)))∧
 ((Ah ((u8.length+1)*1≤140737488355328∧u8.length+1≤140737488355328)
 (Ev u0 u1 u2 u3 u4 (IntKind.i64.wrap (u5+(1:Int))) u6 (IntKind.i64.wrap (u7+(1:Int))) (u8++[[IV.int .u8 (IntKind.u8.wrap (IntKind.i64.wrap (rI r0*(2:Int) ^ 4)))]]) (Dv K)))∧
 (Ah ((u8.length+1)*1≤140737488355328∧u8.length+1≤140737488355328)
 (Ev u0 u1 u2 u3 u4 (IntKind.i64.wrap (u5+(1:Int))) u6 (IntKind.i64.wrap (u7+(1:Int))) (u8++[[IV.int .u8 (IntKind.u8.wrap (IntKind.i64.wrap (rI r0*(2:Int) ^ 4)))]]) (Dv K))))))
 (Ah ((0:Int)≤IntKind.i64.wrap ((↑u8.length:Int) - (1:Int))∧
 IntKind.i64.wrap ((↑u8.length:Int) - (1:Int))<(↑u8.length:Int))
 (Ah ((IntKind.i64.wrap ((↑u8.length:Int) - (1:Int))).toNat<u8.length∧
 Bt [.int .u8]
 (List.take 1
 (List.drop 0 (u8.getD (IntKind.i64.wrap ((↑u8.length:Int) - (1:Int))).toNat [])))=
 true)
 (Ah ((0:Int)≤IntKind.i64.wrap ((↑u8.length:Int) - (1:Int))∧
 IntKind.i64.wrap ((↑u8.length:Int) - (1:Int))<(↑u8.length:Int))
 (Ah ((IntKind.i64.wrap ((↑u8.length:Int) - (1:Int))).toNat<u8.length)
 (Ev u0 u1 u2 u3 u4 (IntKind.i64.wrap (u5+(1:Int))) u6 (IntKind.i64.wrap (u7+(1:Int))) (u8.set (IntKind.i64.wrap ((↑u8.length:Int) - (1:Int))).toNat
 [.int .u8
 (IntKind.u8.wrap
 (↑(BitVec.ofInt (8:Nat)
 (gI
 (List.take (1:Nat)
 (List.drop (0:Nat) (u8.getD (IntKind.i64.wrap ((↑u8.length:Int) - (1:Int))).toNat [])))
 (0:Nat)) |||
 BitVec.ofInt (8:Nat) (IntKind.u8.wrap (rI r0))).toNat:
 Int))]) (Dv K))))))))
 (Call E0.P Ny [.imm (.int .u8 t6)] [] fun r1 g1=>
 Ah (qP5 g1 r1)
 (Br (!decide (rI r1=(0:Int)))
 (K .ret ⟨[(2, .ptr nL2 0),(3,Ai 4)],[(nL2, .blk Aw [Ai 0,Ai 0, .imm (.str []),Ai 0,Ai 0]),(Af, .blk Ad [As u6,Ai (IntKind.i64.wrap (u7+(1:Int))), .own Ay]),(Ay, .arr (Am+2) true 1 u8)]⟩)
 (Ev u0 u1 u2 u3 u4 u5 u6 (IntKind.i64.wrap (u7+(1:Int))) u8 (Dv K)))))))
 (K (.exit 0) ⟨[(2, .ptr nL2 0)],[(nL2, .blk Aw [Ai u0,Ai u1,As u2,Ai u3,Ai u4]),(Af, .blk Ad [As u6,Ai u7, .own Ay]),(Ay, .arr (Am+2) true 1 u8)]⟩))):Gf t6 t7 u0 u1 u2 u3 u4 u5 u6 u7 u8 K:=Bg (Ar E0 Cf) (Az Cf) 3 5 (Au 5 ac_token_scanner_hex) [1,2,4,5,6,7] _ K rfl (kr (by kernel_rfl) h)
theorem Ajz(u0 u1:Int)(u2:LB)(u3 u4 u5:Int)(u6:LB)(u7:Int)(u8:LL)(K:KK)(h:
 (Ah ((2:Int)≠(0:Int))
 (Br (decide ((65535:Int)<IntKind.i64.wrap (u5.tdiv (2:Int))))
 (K .ret ⟨[(2, .ptr nL2 0),(3,Ai 8)],[(nL2, .blk Aw [Ai 0,Ai 0, .imm (.str []),Ai 0,Ai 0]),(Af, .blk Ad [As u6,Ai u7, .own Ay]),(Ay, .arr (Am+2) true 1 u8)]⟩)
 (K .normal ⟨[(1, .ptr Dc 0),(2, .ptr nL2 0),(4, .ptr nL4 0),(5, .fn Ew [.ptr nL4 0, .ptr Dc 0])],[(Dc, .blk 98 [.ptr Af 0]),(nL2, .blk Aw [Ai u0,Ai u1,As u2,Ai u3,Ai u4]),(nL4, .blk Hg [Ai u5]),(Af, .blk Ad [As u6,Ai u7, .own Ay]),(Ay, .arr (Am+2) true 1 u8)]⟩)))):Ev u0 u1 u2 u3 u4 u5 u6 u7 u8 K:=Av (Ar E0 Cf) (Az Cf) 3 19 (Ac 19 ac_token_scanner_hex) [1,2,4,5] _ K rfl (kr (by kernel_rfl) h)
theorem Aj1(u0 u1:Int)(u2:LB)(u3 u4:Int)(u5:LB)(u6:Int)(u7:LL)(K:KK)(h:
 (K .ret ⟨[(2, .ptr nL2 0),(3,Ai 5)],[(nL2, .blk Aw [Ai 0,Ai 0, .imm (.str []),Ai 0,Ai 0]),(Af, .blk Ad [As u5,Ai u6, .own Ay]),(Ay, .arr (Am+2) true 1 u7)]⟩)):Aad u0 u1 u2 u3 u4 u5 u6 u7 K:=Av (Ar E0 Cf) (Az Cf) 3 23 (Ac 23 ac_token_scanner_hex) [] _ K rfl (kr (by kernel_rfl) h)
theorem Aj0(u0 u1:Int)(u2:LB)(u3 u4 u5:Int)(u6:LB)(u7:Int)(u8:LL)(K:KK)(h:
 (Br (decide ((↑u6.length:Int)≤u7))
 (K .normal ⟨[(1, .ptr Dc 0),(2, .ptr nL2 0),(4, .ptr nL4 0),(5, .fn Ew [.ptr nL4 0, .ptr Dc 0]),(6, .imm (.int .u8 ((0:Int)))),(7,Ab false)],[(Dc, .blk 98 [.ptr Af 0]),(nL2, .blk Aw [Ai u0,Ai u1,As u2,Ai u3,Ai u4]),(nL4, .blk Hg [Ai u5]),(Af, .blk Ad [As u6,Ai u7, .own Ay]),(Ay, .arr (Am+2) true 1 u8)]⟩)
 (Ah ((0:Int)≤u7∧u7<(↑u6.length:Int))
 (K .normal ⟨[(1, .ptr Dc 0),(2, .ptr nL2 0),(4, .ptr nL4 0),(5, .fn Ew [.ptr nL4 0, .ptr Dc 0]),(6, .imm (.int .u8 ((↑(u6.getD u7.toNat 0).toNat:Int)))),(7,Ab true)],[(Dc, .blk 98 [.ptr Af 0]),(nL2, .blk Aw [Ai u0,Ai u1,As u2,Ai u3,Ai u4]),(nL4, .blk Hg [Ai u5]),(Af, .blk Ad [As u6,Ai u7, .own Ay]),(Ay, .arr (Am+2) true 1 u8)]⟩)))):Aac u0 u1 u2 u3 u4 u5 u6 u7 u8 K:=Av (Ar E0 Cf) (Az Cf) 3 22 (Ac 22 ac_token_scanner_hex) [1,2,4,5,6,7] _ K rfl (kr (by kernel_rfl) h)
theorem Al9(s:LB)(at_:Int)(out:LL)(Q:QQ)(t3 u0 u1:Int)(u2:LB)(u3 u4:Int)(u5:LB)(u6:Int)(u7:LL)(h:
 (Q (.tup [.imm (.agg [.int .i64 u0, .int .i64 u1, .str u2, .int .i64 u3, .int .i64 u4]),Ai t3]) [(Af, .blk Ad [As u5,Ai u6, .own Ay]),(Ay, .arr (Am+2) true 1 u7)])):Sv s at_ out Q .ret ⟨[(2, .ptr nL2 0),(3,Ai t3)],[(nL2, .blk Aw [Ai u0,Ai u1,As u2,Ai u3,Ai u4]),(Af, .blk Ad [As u5,Ai u6, .own Ay]),(Ay, .arr (Am+2) true 1 u7)]⟩:=kr (by kernel_rfl) h
theorem Pg(s:LB)(at_:Int)(out:LL)(Q:QQ)(t3 u0 u1:Int)(u2:LB)(u3 u4:Int)(u5:LB)(u6:Int)(u7:LL)(h:
 (Q (.tup [.imm (.agg [.int .i64 u0, .int .i64 u1, .str u2, .int .i64 u3, .int .i64 u4]),Ai t3]) [(Af, .blk Ad [As u5,Ai u6, .own Ay]),(Ay, .arr (Am+2) true 1 u7)])):Ed s at_ out Q .ret ⟨[(2, .ptr nL2 0),(3,Ai t3)],[(nL2, .blk Aw [Ai u0,Ai u1,As u2,Ai u3,Ai u4]),(Af, .blk Ad [As u5,Ai u6, .own Ay]),(Ay, .arr (Am+2) true 1 u7)]⟩:=kr (by kernel_rfl) h
theorem Ama(s:LB)(at_:Int)(out:LL)(Q:QQ)(u0 u1:Int)(u2:LB)(u3 u4:Int)(u5:LB)(u6:Int)(u7:LL)(h:
 (Aad u0 u1 u2 u3 u4 u5 u6 u7 (Sv s at_ out Q))):Ed s at_ out Q (.exit 0) ⟨[(2, .ptr nL2 0)],[(nL2, .blk Aw [Ai u0,Ai u1,As u2,Ai u3,Ai u4]),(Af, .blk Ad [As u5,Ai u6, .own Ay]),(Ay, .arr (Am+2) true 1 u7)]⟩:=kr (by kernel_rfl) h
theorem Xn(K:KK)(t6:Int)(t7:Bool)(u0 u1:Int)(u2:LB)(u3 u4 u5:Int)(u6:LB)(u7:Int)(u8:LL)(h:
 (Gf t6 t7 u0 u1 u2 u3 u4 u5 u6 u7 u8 K)):Sw K .normal ⟨[(1, .ptr Dc 0),(2, .ptr nL2 0),(4, .ptr nL4 0),(5, .fn Ew [.ptr nL4 0, .ptr Dc 0]),(6, .imm (.int .u8 t6)),(7,Ab t7)],[(Dc, .blk 98 [.ptr Af 0]),(nL2, .blk Aw [Ai u0,Ai u1,As u2,Ai u3,Ai u4]),(nL4, .blk Hg [Ai u5]),(Af, .blk Ad [As u6,Ai u7, .own Ay]),(Ay, .arr (Am+2) true 1 u8)]⟩:=kr (by kernel_rfl) h
theorem Amb(K:KK)(t3 u0 u1:Int)(u2:LB)(u3 u4:Int)(u5:LB)(u6:Int)(u7:LL)(h:
 (K .ret ⟨[(2, .ptr nL2 0),(3,Ai t3)],[(nL2, .blk Aw [Ai u0,Ai u1,As u2,Ai u3,Ai u4]),(Af, .blk Ad [As u5,Ai u6, .own Ay]),(Ay, .arr (Am+2) true 1 u7)]⟩)):Dv K .ret ⟨[(2, .ptr nL2 0),(3,Ai t3)],[(nL2, .blk Aw [Ai u0,Ai u1,As u2,Ai u3,Ai u4]),(Af, .blk Ad [As u5,Ai u6, .own Ay]),(Ay, .arr (Am+2) true 1 u7)]⟩:=kr (by kernel_rfl) h
theorem Amc(K:KK)(u0 u1:Int)(u2:LB)(u3 u4 u5:Int)(u6:LB)(u7:Int)(u8:LL)(h:
 (Aac u0 u1 u2 u3 u4 u5 u6 u7 u8 (Sw K))):Dv K .normal ⟨[(1, .ptr Dc 0),(2, .ptr nL2 0),(4, .ptr nL4 0),(5, .fn Ew [.ptr nL4 0, .ptr Dc 0])],[(Dc, .blk 98 [.ptr Af 0]),(nL2, .blk Aw [Ai u0,Ai u1,As u2,Ai u3,Ai u4]),(nL4, .blk Hg [Ai u5]),(Af, .blk Ad [As u6,Ai u7, .own Ay]),(Ay, .arr (Am+2) true 1 u8)]⟩:=kr (by kernel_rfl) h
theorem Atf:Bo E0.P 95 ac_token_scanner_hex.code Cf [.cell 2 78, .tmp 3]:=Bh _ _ Tryz.f95 [(5,[1,2,4,5,6,7],[]),(7,[2],[]),(19,[1,2,4,5],[1,2,4,5]),(22,[1,2,4,5],[1,2,4,5,6,7]),(23,[2],[])] [2,3] _ 75 Tryz.func95 (by kernel_rfl) (by kernel_rfl) (by kernel_rfl) (by kernel_rfl)
theorem Aoq(s:LB)(at_:Int)(out:LL)(Q:QQ)(h:
 (Br (decide ((↑s.length:Int)≤IntKind.i64.wrap (at_+(1:Int))))
 (Gf ((0:Int)) false ((0:Int)) ((0:Int)) [] ((0:Int)) ((0:Int)) ((0:Int)) s (IntKind.i64.wrap (at_+(1:Int))) out (Ed s at_ out Q))
 (Ah ((0:Int)≤IntKind.i64.wrap (at_+(1:Int))∧IntKind.i64.wrap (at_+(1:Int))<(↑s.length:Int))
 (Gf ((↑(s.getD (IntKind.i64.wrap (at_+(1:Int))).toNat 0).toNat:Int)) true ((0:Int)) ((0:Int)) [] ((0:Int)) ((0:Int)) ((0:Int)) s (IntKind.i64.wrap (at_+(1:Int))) out (Ed s at_ out Q))))):Call E0.P Vf [.ptr (.arg 0) 0] [(.arg 0, .blk Ad [.imm (.str s), .imm (.int .i64 at_), .own (.arg 1)]),(.arg 1, .arr (Am+2) true 1 out)] Q:=A8 (Ar E0 Cf) (Az Cf) 3 0 95 ac_token_scanner_hex [.cell 2 78, .tmp 3] Atf _ _ Q rfl rfl (kr (by kernel_rfl) h)
noncomputable def ac_token_scanner_word:AC:=(Bf [] [2,3] (codeOf Tryz.f96) 0).1
abbrev Tz:Nat:=66
theorem Arc:Bo E0.P 96 ac_token_scanner_word.code Tz [.cell 2 78, .tmp 3]:=Bh _ _ Tryz.f96 [] [2,3] _ 66 Tryz.func96 (by kernel_rfl) (by kernel_rfl) (by kernel_rfl) (by kernel_rfl)
theorem Anh(s:LB)(at_:Int)(out:LL)(Q:QQ)(h:
 (Call E0.P Vy [As s,Ai at_, .imm (.sl .any 1 [[IV.int .i64 (2:Int)]])] [] fun r0 g0=>
 Ah (qP5 g0 r0)
 (Ah ((0:Int)≤at_∧at_≤IntKind.i64.wrap (at_+rI r0)∧IntKind.i64.wrap (at_+rI r0)≤(↑s.length:Int))
 (Let (List.drop at_.toNat (List.take (IntKind.i64.wrap (at_+rI r0)).toNat s)) fun x1=>
 Call E0.P Ad5 [As x1] [] fun r2 g2=>
 Ah (qP9 g2 r2)
 (Br (decide (rI (rT r2 1)=(0:Int)))
 (Q (.tup [.imm (.agg [.int .i64 1, .int .i64 (rI (rT r2 0)), .str [], .int .i64 0, .int .i64 0]),Ai 0]) [(Af, .blk Ad [As s,Ai (IntKind.i64.wrap (at_+(↑x1.length:Int))), .own Ay]),(Ay, .arr (Am+2) true 1 out)])
 (Br (decide (rI (rT r2 1)=(3:Int)))
 (Q (.tup [.imm (.agg [.int .i64 0, .int .i64 0, .str [], .int .i64 0, .int .i64 0]),Ai (rI (rT r2 1))]) [(Af, .blk Ad [As s,Ai (IntKind.i64.wrap (at_+(↑x1.length:Int))), .own Ay]),(Ay, .arr (Am+2) true 1 out)])
 (Br (decide ((127:Int)<(↑x1.length:Int)))
 (Q (.tup [.imm (.agg [.int .i64 0, .int .i64 0, .str [], .int .i64 0, .int .i64 0]),Ai 8]) [(Af, .blk Ad [As s,Ai (IntKind.i64.wrap (at_+(↑x1.length:Int))), .own Ay]),(Ay, .arr (Am+2) true 1 out)])
 (Q (.tup [.imm (.agg [.int .i64 8, .int .i64 0, .str x1, .int .i64 0, .int .i64 0]),Ai 0]) [(Af, .blk Ad [As s,Ai (IntKind.i64.wrap (at_+(↑x1.length:Int))), .own Ay]),(Ay, .arr (Am+2) true 1 out)])))))))):Call E0.P Tn [.ptr (.arg 0) 0] [(.arg 0, .blk Ad [.imm (.str s), .imm (.int .i64 at_), .own (.arg 1)]),(.arg 1, .arr (Am+2) true 1 out)] Q:=A8 (Ar E0 Tz) (Az Tz) 3 0 96 ac_token_scanner_word [.cell 2 78, .tmp 3] Arc _ _ Q rfl rfl (kr (by kernel_rfl) h)
noncomputable def ac_r01_in:AC:=(Bf [(2,[0,1,5],[]),(4,[],[]),(9,[],[])] [4] (codeOf Tryz.f101) 0).1
abbrev O0:Nat:=17
def Akd(t0:LB)(t1 t5:Int)(K:KK):Prop:=Bi 2 E0.P O0 (Au 2 ac_r01_in).code ⟨[(0,As t0),(1, .imm (.int .u8 t1)),(5,Ai t5)],[]⟩ K
def A3t(K:KK):Prop:=Aq 9 E0.P O0 (Ac 9 ac_r01_in).code ⟨[],[]⟩ K
def Ar7(Q:QQ):KK:=kE fun st=>finish 0 E0.T [.tmp 4] [] Q st
def Aj4(Q:QQ):KK:=kF 0 (fun st=>Aq 9 E0.P O0 (Ac 9 ac_r01_in).code (mask [] st) (Ar7 Q)) fun st=>finish 0 E0.T [.tmp 4] [] Q st
theorem At4(t0:LB)(t1 t5:Int)(K:KK)(h:
 (Br (decide (t5<(↑t0.length:Int)))
 (Ah ((0:Int)≤t5∧t5<(↑t0.length:Int))
 (Br (decide ((↑(t0.getD t5.toNat 0).toNat:Int)=t1))
 (K .ret ⟨[(4,Ab true)],[]⟩)
 (Akd t0 t1 (IntKind.i64.wrap (t5+(1:Int))) K)))
 (K (.exit 0) ⟨[],[]⟩))):Akd t0 t1 t5 K:=Bg (Ar E0 O0) (Az O0) 3 2 (Au 2 ac_r01_in) [0,1,5] _ K rfl (kr (by kernel_rfl) h)
theorem Baj(K:KK)(h:
 (K .ret ⟨[(4,Ab false)],[]⟩)):A3t K:=Av (Ar E0 O0) (Az O0) 3 9 (Ac 9 ac_r01_in) [] _ K rfl (kr (by kernel_rfl) h)
theorem Bar(Q:QQ)(t4:Bool)(h:
 (Q (Ab t4) [])):Ar7 Q .ret ⟨[(4,Ab t4)],[]⟩:=kr (by kernel_rfl) h
theorem Bas(Q:QQ)(t4:Bool)(h:
 (Q (Ab t4) [])):Aj4 Q .ret ⟨[(4,Ab t4)],[]⟩:=kr (by kernel_rfl) h
theorem Bat(Q:QQ)(h:
 (A3t (Ar7 Q))):Aj4 Q (.exit 0) ⟨[],[]⟩:=kr (by kernel_rfl) h
theorem Blo:Bo E0.P 101 ac_r01_in.code O0 [.tmp 4]:=Bh _ _ Tryz.f101 [(2,[0,1,5],[]),(4,[],[]),(9,[],[])] [4] _ 17 Tryz.func101 (by kernel_rfl) (by kernel_rfl) (by kernel_rfl) (by kernel_rfl)
theorem Bfm(a0:LB)(a1:Int)(Q:QQ)(h:
 (Akd a0 a1 ((0:Int)) (Aj4 Q))):Call E0.P Aoa [As a0, .imm (.int .u8 a1)] [] Q:=A8 (Ar E0 O0) (Az O0) 3 0 101 ac_r01_in [.tmp 4] Blo _ _ Q rfl rfl (kr (by kernel_rfl) h)
noncomputable def ac_octet_within:AC:=(Bf [] [4] (codeOf Tryz.f124) 0).1
abbrev Aej:Nat:=13
theorem A5x:Bo E0.P 124 ac_octet_within.code Aej [.tmp 4]:=Bh _ _ Tryz.f124 [] [4] _ 13 Tryz.func124 (by kernel_rfl) (by kernel_rfl) (by kernel_rfl) (by kernel_rfl)
theorem Azk(a0:LB)(a1:Int)(Q:QQ)(h:
 (Let (bif decide ((0:Int)≤a1)then decide (a1<(↑a0.length:Int))else false) fun x0=>
 Q (Ab x0) [])):Call E0.P Xb [As a0,Ai a1] [] Q:=A8 (Ar E0 Aej) (Az Aej) 3 0 124 ac_octet_within [.tmp 4] A5x _ _ Q rfl rfl (kr (by kernel_rfl) h)
noncomputable def ac_octet_Kind:AC:=(Bf [(7,[3,4],[]),(20,[],[])] [2] (codeOf Tryz.f113) 0).1
abbrev Iq:Nat:=22
def Iw(t3:Int)(t4:Bool)(K:KK):Prop:=Aq 7 E0.P Iq (Ac 7 ac_octet_Kind).code ⟨[(3, .imm (.int .u8 t3)),(4,Ab t4)],[]⟩ K
def Anq(K:KK):Prop:=Aq 20 E0.P Iq (Ac 20 ac_octet_Kind).code ⟨[],[]⟩ K
def Ae8(Q:QQ):KK:=kE fun st=>finish 0 E0.T [.tmp 2] [] Q st
def Fq(Q:QQ):KK:=kF 0 (fun st=>Aq 20 E0.P Iq (Ac 20 ac_octet_Kind).code (mask [] st) (Ae8 Q)) fun st=>finish 0 E0.T [.tmp 2] [] Q st
theorem Ayp(t3:Int)(t4:Bool)(K:KK)(h:
 (Br (t4)
 (K .ret ⟨[(2,Ai 0)],[]⟩)
 (Br (decide (t3=(40:Int)))
 (Br (decide (t3=(40:Int)))
 (K .ret ⟨[(2,Ai 1)],[]⟩)
 (K .normal ⟨[],[]⟩))
 (Br (decide (t3=(41:Int)))
 (Br (decide (t3=(41:Int)))
 (K .ret ⟨[(2,Ai 1)],[]⟩)
 (K .normal ⟨[],[]⟩))
 (Br (decide (t3=(60:Int)))
 (Br (decide (t3=(60:Int)))
 (K .ret ⟨[(2,Ai 1)],[]⟩)
 (K .normal ⟨[],[]⟩))
 (Br (decide (t3=(62:Int)))
 (Br (decide (t3=(62:Int)))
 (K .ret ⟨[(2,Ai 1)],[]⟩)
 (K .normal ⟨[],[]⟩))
 (Br (decide (t3=(91:Int)))
 (Br (decide (t3=(91:Int)))
 (K .ret ⟨[(2,Ai 1)],[]⟩)
 (K .normal ⟨[],[]⟩))
 (Br (decide (t3=(93:Int)))
 (Br (decide (t3=(93:Int)))
 (K .ret ⟨[(2,Ai 1)],[]⟩)
 (K .normal ⟨[],[]⟩))
 (Br (decide (t3=(123:Int)))
 (Br (decide (t3=(123:Int)))
 (K .ret ⟨[(2,Ai 1)],[]⟩)
 (K .normal ⟨[],[]⟩))
 (Br (decide (t3=(125:Int)))
 (Br (decide (t3=(125:Int)))
 (K .ret ⟨[(2,Ai 1)],[]⟩)
 (K .normal ⟨[],[]⟩))
 (Br (decide (t3=(47:Int)))
 (Br (decide (t3=(47:Int)))
 (K .ret ⟨[(2,Ai 1)],[]⟩)
 (K .normal ⟨[],[]⟩))
 (Br (decide (t3=(37:Int)))
 (K .ret ⟨[(2,Ai 1)],[]⟩)
 (K .normal ⟨[],[]⟩))))))))))))):Iw t3 t4 K:=Av (Ar E0 Iq) (Az Iq) 3 7 (Ac 7 ac_octet_Kind) [] _ K rfl (kr (by kernel_rfl) h)
theorem Ava(K:KK)(h:
 (K .ret ⟨[(2,Ai 2)],[]⟩)):Anq K:=Av (Ar E0 Iq) (Az Iq) 3 20 (Ac 20 ac_octet_Kind) [] _ K rfl (kr (by kernel_rfl) h)
theorem Azo(Q:QQ)(t2:Int)(h:
 (Q (Ai t2) [])):Ae8 Q .ret ⟨[(2,Ai t2)],[]⟩:=kr (by kernel_rfl) h
theorem Zq(Q:QQ)(t2:Int)(h:
 (Q (Ai t2) [])):Fq Q .ret ⟨[(2,Ai t2)],[]⟩:=kr (by kernel_rfl) h
theorem Azp(Q:QQ)(h:
 (Anq (Ae8 Q))):Fq Q .normal ⟨[],[]⟩:=kr (by kernel_rfl) h
theorem Ba0:Bo E0.P 113 ac_octet_Kind.code Iq [.tmp 2]:=Bh _ _ Tryz.f113 [(7,[3,4],[]),(20,[],[])] [2] _ 22 Tryz.func113 (by kernel_rfl) (by kernel_rfl) (by kernel_rfl) (by kernel_rfl)
theorem A36(a0:Int)(Q:QQ)(h:
 (Br (decide (a0=(0:Int)))
 (Iw a0 (decide (a0=(0:Int))) (Fq Q))
 (Br (decide (a0=(9:Int)))
 (Iw a0 (decide (a0=(9:Int))) (Fq Q))
 (Br (decide (a0=(10:Int)))
 (Iw a0 (decide (a0=(10:Int))) (Fq Q))
 (Br (decide (a0=(12:Int)))
 (Iw a0 (decide (a0=(12:Int))) (Fq Q))
 (Br (decide (a0=(13:Int)))
 (Iw a0 (decide (a0=(13:Int))) (Fq Q))
 (Iw a0 (decide (a0=(32:Int))) (Fq Q)))))))):Call E0.P Ny [.imm (.int .u8 a0)] [] Q:=A8 (Ar E0 Iq) (Az Iq) 3 0 113 ac_octet_Kind [.tmp 2] Ba0 _ _ Q rfl rfl (kr (by kernel_rfl) h)
noncomputable def ac_token_scanner_escaped:AC:=(Bf [] [2,3] (codeOf Tryz.f126) 0).1
abbrev Pt:Nat:=62
theorem Am5:Bo E0.P 126 ac_token_scanner_escaped.code Pt [.tmp 2, .tmp 3]:=Bh _ _ Tryz.f126 [] [2,3] _ 62 Tryz.func126 (by kernel_rfl) (by kernel_rfl) (by kernel_rfl) (by kernel_rfl)
theorem Nr(s:LB)(at_:Int)(out:LL)(Q:QQ)(h:
 (Br (decide (IntKind.i64.wrap ((↑s.length:Int) - at_)<(2:Int)))
 (Q (.tup [.imm (.int .u8 ((0:Int))),Ab false]) [(Af, .blk Ad [As s,Ai at_, .own Ay]),(Ay, .arr (Am+2) true 1 out)])
 (Ah ((0:Int)≤at_∧at_<(↑s.length:Int))
 (Ah ((0:Int)≤IntKind.i64.wrap (at_+(1:Int))∧IntKind.i64.wrap (at_+(1:Int))<(↑s.length:Int))
 (Call E0.P Xz [.imm (.int .u8 ((↑(s.getD at_.toNat 0).toNat:Int)))] [] fun r0 g0=>
 Ah (qP5 g0 r0)
 (Call E0.P Xz [.imm (.int .u8 ((↑(s.getD (IntKind.i64.wrap (at_+(1:Int))).toNat 0).toNat:Int)))] [] fun r1 g1=>
 Ah (qP5 g1 r1)
 (Let (bif decide (rI r0<(0:Int))then true else decide (rI r1<(0:Int))) fun x2=>
 Let (bif x2 then true else decide (IntKind.i64.wrap (rI r0+rI r1)=(0:Int))) fun x3=>
 Br (x3)
 (Q (.tup [.imm (.int .u8 ((0:Int))),Ab false]) [(Af, .blk Ad [As s,Ai (IntKind.i64.wrap (at_+(2:Int))), .own Ay]),(Ay, .arr (Am+2) true 1 out)])
 (Ah ((0:Int)≤(4:Int))
 (Q (.tup [.imm (.int .u8 (IntKind.u8.wrap
 (IntKind.i64.wrap
 (↑(BitVec.ofInt (64:Nat) (IntKind.i64.wrap (rI r0*(2:Int) ^ (4:Nat))) |||
 BitVec.ofInt (64:Nat) (rI r1)).toNat:
 Int)))),Ab true]) [(Af, .blk Ad [As s,Ai (IntKind.i64.wrap (at_+(2:Int))), .own Ay]),(Ay, .arr (Am+2) true 1 out)]))))))))):Call E0.P Il [.ptr (.arg 0) 0] [(.arg 0, .blk Ad [.imm (.str s), .imm (.int .i64 at_), .own (.arg 1)]),(.arg 1, .arr (Am+2) true 1 out)] Q:=A8 (Ar E0 Pt) (Az Pt) 3 0 126 ac_token_scanner_escaped [.tmp 2, .tmp 3] Am5 _ _ Q rfl rfl (kr (by kernel_rfl) h)
noncomputable def ac_token_scanner_escape:AC:=(Bf [(21,[0,3],[])] [2] (codeOf Tryz.f128) 0).1
abbrev Gw:Nat:=77
def Ch(t3:Int)(u0:LB)(u1:Int)(u2:LL)(K:KK):Prop:=Aq 21 E0.P Gw (Ac 21 ac_token_scanner_escape).code ⟨[(0, .ptr Af 0),(3, .imm (.int .u8 t3))],[(Af, .blk Ad [As u0,Ai u1, .own Ay]),(Ay, .arr (Am+2) true 1 u2)]⟩ K
def Ck(s:LB)(at_:Int)(out:LL)(Q:QQ):KK:=kE fun st=>finish 0 E0.T [.tmp 2] [(Af, .blk Ad [As s,Ai at_, .own Ay]),(Ay, .arr (Am+2) true 1 out)] Q st
theorem Ae6(t3:Int)(u0:LB)(u1:Int)(u2:LL)(K:KK)(h:
 (Ah ((u2.length+1)*1≤140737488355328∧u2.length+1≤140737488355328)
 (K .ret ⟨[(2,Ab true)],[(Af, .blk Ad [As u0,Ai u1, .own Ay]),(Ay, .arr (Am+2) true 1 (u2++[[IV.int .u8 t3]]))]⟩))):Ch t3 u0 u1 u2 K:=Av (Ar E0 Gw) (Az Gw) 3 21 (Ac 21 ac_token_scanner_escape) [] _ K rfl (kr (by kernel_rfl) h)
theorem Ag9(s:LB)(at_:Int)(out:LL)(Q:QQ)(t2:Bool)(u0:LB)(u1:Int)(u2:LL)(h:
 (Q (Ab t2) [(Af, .blk Ad [As u0,Ai u1, .own Ay]),(Ay, .arr (Am+2) true 1 u2)])):Ck s at_ out Q .ret ⟨[(2,Ab t2)],[(Af, .blk Ad [As u0,Ai u1, .own Ay]),(Ay, .arr (Am+2) true 1 u2)]⟩:=kr (by kernel_rfl) h
theorem Anm:Bo E0.P 128 ac_token_scanner_escape.code Gw [.tmp 2]:=Bh _ _ Tryz.f128 [(21,[0,3],[])] [2] _ 77 Tryz.func128 (by kernel_rfl) (by kernel_rfl) (by kernel_rfl) (by kernel_rfl)
theorem Wp(s:LB)(at_:Int)(out:LL)(Q:QQ)(h:
 (Br (decide ((↑s.length:Int)≤at_))
 (Br (!false)
 (Q (Ab false) [(Af, .blk Ad [As s,Ai at_, .own Ay]),(Ay, .arr (Am+2) true 1 out)])
 (Call E0.P Qp [As s,Ai at_] [] fun r0 g0=>
 Ah (qP5 g0 r0)
 (Br (decide ((0:Int)<rI r0))
 (Q (Ab true) [(Af, .blk Ad [As s,Ai (IntKind.i64.wrap (at_+rI r0)), .own Ay]),(Ay, .arr (Am+2) true 1 out)])
 (Let (bif decide ((48:Int)≤(0:Int))then decide ((0:Int)≤(55:Int))else false) fun x1=>
 Br (x1)
 (((Call E0.P Ey [.ptr Af 0] [(Af, .blk Ad [As s,Ai at_, .own Ay])] fun r2 g2=>
 Ah (A8z g2 r2)
 (Ah ((out.length+1)*1≤140737488355328∧out.length+1≤140737488355328)
 (Q (Ab true) [(Af, .blk Ad [.imm (.str (rS ((A7 g2 Af).getD 0 AV.undef))), .imm (.int .i64 (rI ((A7 g2 Af).getD 1 AV.undef))), .own Ay]),(Ay, .arr (Am+2) true 1 (out++[[IV.int .u8 (rI r2)]]))])))∧
 (Call E0.P Ey [.ptr Af 0] [(Af, .blk Ad [As s,Ai at_, .own Ay])] fun r3 g3=>
 Ah (A8z g3 r3)
 ((Ah ((out.length+1)*1≤140737488355328∧out.length+1≤140737488355328)
 (Q (Ab true) [(Af, .blk Ad [.imm (.str (rS ((A7 g3 Af).getD 0 AV.undef))), .imm (.int .i64 (rI ((A7 g3 Af).getD 1 AV.undef))), .own Ay]),(Ay, .arr (Am+2) true 1 (out++[[IV.int .u8 (rI r3)]]))]))∧
 (Ah ((out.length+1)*1≤140737488355328∧out.length+1≤140737488355328)
 (Q (Ab true) [(Af, .blk Ad [.imm (.str (rS ((A7 g3 Af).getD 0 AV.undef))), .imm (.int .i64 (rI ((A7 g3 Af).getD 1 AV.undef))), .own Ay]),(Ay, .arr (Am+2) true 1 (out++[[IV.int .u8 (rI r3)]]))])))))∧
 (Call E0.P Ey [.ptr Af 0] [(Af, .blk Ad [As s,Ai at_, .own Ay])] fun r4 g4=>
 Ah (A8z g4 r4)
 (((Ah ((out.length+1)*1≤140737488355328∧out.length+1≤140737488355328)
 (Q (Ab true) [(Af, .blk Ad [.imm (.str (rS ((A7 g4 Af).getD 0 AV.undef))), .imm (.int .i64 (rI ((A7 g4 Af).getD 1 AV.undef))), .own Ay]),(Ay, .arr (Am+2) true 1 (out++[[IV.int .u8 (rI r4)]]))]))∧
 (Ah ((out.length+1)*1≤140737488355328∧out.length+1≤140737488355328)
 (Q (Ab true) [(Af, .blk Ad [.imm (.str (rS ((A7 g4 Af).getD 0 AV.undef))), .imm (.int .i64 (rI ((A7 g4 Af).getD 1 AV.undef))), .own Ay]),(Ay, .arr (Am+2) true 1 (out++[[IV.int .u8 (rI r4)]]))])))∧
 (Ah ((out.length+1)*1≤140737488355328∧out.length+1≤140737488355328)
 (Q (Ab true) [(Af, .blk Ad [.imm (.str (rS ((A7 g4 Af).getD 0 AV.undef))), .imm (.int .i64 (rI ((A7 g4 Af).getD 1 AV.undef))), .own Ay]),(Ay, .arr (Am+2) true 1 (out++[[IV.int .u8 (rI r4)]]))])))))
 (Br (decide ((0:Int)=(110:Int)))
 (Ch ((10:Int)) s (IntKind.i64.wrap (at_+(1:Int))) out (Ck s at_ out Q))
 (Br (decide ((0:Int)=(114:Int)))
 (Ch ((13:Int)) s (IntKind.i64.wrap (at_+(1:Int))) out (Ck s at_ out Q))
 (Br (decide ((0:Int)=(116:Int)))
 (Ch ((9:Int)) s (IntKind.i64.wrap (at_+(1:Int))) out (Ck s at_ out Q))
 (Br (decide ((0:Int)=(98:Int)))
 (Ch ((8:Int)) s (IntKind.i64.wrap (at_+(1:Int))) out (Ck s at_ out Q))
 (Br (decide ((0:Int)=(102:Int)))
 (Ch ((12:Int)) s (IntKind.i64.wrap (at_+(1:Int))) out (Ck s at_ out Q))
 (Ch ((0:Int)) s (IntKind.i64.wrap (at_+(1:Int))) out (Ck s at_ out Q)))))))))))
 (Ah ((0:Int)≤at_∧at_<(↑s.length:Int))
 (Br (!true)
 (Q (Ab false) [(Af, .blk Ad [As s,Ai at_, .own Ay]),(Ay, .arr (Am+2) true 1 out)])
 (Call E0.P Qp [As s,Ai at_] [] fun r5 g5=>
 Ah (qP5 g5 r5)
 (Br (decide ((0:Int)<rI r5))
 (Q (Ab true) [(Af, .blk Ad [As s,Ai (IntKind.i64.wrap (at_+rI r5)), .own Ay]),(Ay, .arr (Am+2) true 1 out)])
 (Let (bif decide ((48:Int)≤(↑(s.getD at_.toNat 0).toNat:Int))then
 decide ((↑(s.getD at_.toNat 0).toNat:Int)≤(55:Int))
 else false) fun x6=>
 Br (x6)
 (((Call E0.P Ey [.ptr Af 0] [(Af, .blk Ad [As s,Ai at_, .own Ay])] fun r7 g7=>
 Ah (A8z g7 r7)
 (Ah ((out.length+1)*1≤140737488355328∧out.length+1≤140737488355328)
 (Q (Ab true) [(Af, .blk Ad [.imm (.str (rS ((A7 g7 Af).getD 0 AV.undef))), .imm (.int .i64 (rI ((A7 g7 Af).getD 1 AV.undef))), .own Ay]),(Ay, .arr (Am+2) true 1 (out++[[IV.int .u8 (rI r7)]]))])))∧
 (Call E0.P Ey [.ptr Af 0] [(Af, .blk Ad [As s,Ai at_, .own Ay])] fun r8 g8=>
 Ah (A8z g8 r8)
 ((Ah ((out.length+1)*1≤140737488355328∧out.length+1≤140737488355328)
 (Q (Ab true) [(Af, .blk Ad [.imm (.str (rS ((A7 g8 Af).getD 0 AV.undef))), .imm (.int .i64 (rI ((A7 g8 Af).getD 1 AV.undef))), .own Ay]),(Ay, .arr (Am+2) true 1 (out++[[IV.int .u8 (rI r8)]]))]))∧
 (Ah ((out.length+1)*1≤140737488355328∧out.length+1≤140737488355328)
 (Q (Ab true) [(Af, .blk Ad [.imm (.str (rS ((A7 g8 Af).getD 0 AV.undef))), .imm (.int .i64 (rI ((A7 g8 Af).getD 1 AV.undef))), .own Ay]),(Ay, .arr (Am+2) true 1 (out++[[IV.int .u8 (rI r8)]]))])))))∧
 (Call E0.P Ey [.ptr Af 0] [(Af, .blk Ad [As s,Ai at_, .own Ay])] fun r9 g9=>
 Ah (A8z g9 r9)
 (((Ah ((out.length+1)*1≤140737488355328∧out.length+1≤140737488355328)
 (Q (Ab true) [(Af, .blk Ad [.imm (.str (rS ((A7 g9 Af).getD 0 AV.undef))), .imm (.int .i64 (rI ((A7 g9 Af).getD 1 AV.undef))), .own Ay]),(Ay, .arr (Am+2) true 1 (out++[[IV.int .u8 (rI r9)]]))]))∧
 (Ah ((out.length+1)*1≤140737488355328∧out.length+1≤140737488355328)
 (Q (Ab true) [(Af, .blk Ad [.imm (.str (rS ((A7 g9 Af).getD 0 AV.undef))), .imm (.int .i64 (rI ((A7 g9 Af).getD 1 AV.undef))), .own Ay]),(Ay, .arr (Am+2) true 1 (out++[[IV.int .u8 (rI r9)]]))])))∧
 (Ah ((out.length+1)*1≤140737488355328∧out.length+1≤140737488355328)
 (Q (Ab true) [(Af, .blk Ad [.imm (.str (rS ((A7 g9 Af).getD 0 AV.undef))), .imm (.int .i64 (rI ((A7 g9 Af).getD 1 AV.undef))), .own Ay]),(Ay, .arr (Am+2) true 1 (out++[[IV.int .u8 (rI r9)]]))])))))
 (Br (decide ((↑(s.getD at_.toNat 0).toNat:Int)=(110:Int)))
 (Ch ((10:Int)) s (IntKind.i64.wrap (at_+(1:Int))) out (Ck s at_ out Q))
 (Br (decide ((↑(s.getD at_.toNat 0).toNat:Int)=(114:Int)))
 (Ch ((13:Int)) s (IntKind.i64.wrap (at_+(1:Int))) out (Ck s at_ out Q))
 (Br (decide ((↑(s.getD at_.toNat 0).toNat:Int)=(116:Int)))
 (Ch ((9:Int)) s (IntKind.i64.wrap (at_+(1:Int))) out (Ck s at_ out Q))
 (Br (decide ((↑(s.getD at_.toNat 0).toNat:Int)=(98:Int)))
 (Ch ((8:Int)) s (IntKind.i64.wrap (at_+(1:Int))) out (Ck s at_ out Q))
 (Br (decide ((↑(s.getD at_.toNat 0).toNat:Int)=(102:Int)))
 (Ch ((12:Int)) s (IntKind.i64.wrap (at_+(1:Int))) out (Ck s at_ out Q))
 (Ch ((↑(s.getD at_.toNat 0).toNat:Int)) s (IntKind.i64.wrap (at_+(1:Int))) out (Ck s at_ out Q)))))))))))))):Call E0.P Lt [.ptr (.arg 0) 0] [(.arg 0, .blk Ad [.imm (.str s), .imm (.int .i64 at_), .own (.arg 1)]),(.arg 1, .arr (Am+2) true 1 out)] Q:=A8 (Ar E0 Gw) (Az Gw) 3 0 128 ac_token_scanner_escape [.tmp 2] Anm _ _ Q rfl rfl (kr (by kernel_rfl) h)
noncomputable def ac_octet_Hex:AC:=(Bf [] [2] (codeOf Tryz.f130) 0).1
abbrev Amz:Nat:=35
theorem Bd9:Bo E0.P 130 ac_octet_Hex.code Amz [.tmp 2]:=Bh _ _ Tryz.f130 [] [2] _ 35 Tryz.func130 (by kernel_rfl) (by kernel_rfl) (by kernel_rfl) (by kernel_rfl)
theorem A6m(a0:Int)(Q:QQ)(h:
 (Let (bif decide ((48:Int)≤a0)then decide (a0≤(57:Int))else false) fun x0=>
 Br (x0)
 (Q (.imm (.int .i64 (IntKind.i64.wrap (IntKind.u8.wrap (a0 - (48:Int)))))) [])
 (Let (bif decide ((65:Int)≤a0)then decide (a0≤(70:Int))else false) fun x1=>
 Br (x1)
 (Q (.imm (.int .i64 (IntKind.i64.wrap (IntKind.i64.wrap (IntKind.u8.wrap (a0 - (65:Int)))+(10:Int))))) [])
 (Let (bif decide ((97:Int)≤a0)then decide (a0≤(102:Int))else false) fun x2=>
 Br (x2)
 (Q (.imm (.int .i64 (IntKind.i64.wrap (IntKind.i64.wrap (IntKind.u8.wrap (a0 - (97:Int)))+(10:Int))))) [])
 (Q (Ai (-1)) []))))):Call E0.P Xz [.imm (.int .u8 a0)] [] Q:=A8 (Ar E0 Amz) (Az Amz) 3 0 130 ac_octet_Hex [.tmp 2] Bd9 _ _ Q rfl rfl (kr (by kernel_rfl) h)
noncomputable def ac_digits_Loose:AC:=(Bf [(4,[6,7],[])] [2,3] (codeOf Tryz.f131) 0).1
abbrev Nk:Nat:=23
def Ul(t6 t7:Int)(K:KK):Prop:=Aq 4 E0.P Nk (Ac 4 ac_digits_Loose).code ⟨[(6,Ai t6),(7,Ai t7)],[]⟩ K
def Abo(Q:QQ):KK:=kE fun st=>finish 0 E0.T [.tmp 2, .tmp 3] [] Q st
theorem Aue(t6 t7:Int)(K:KK)(h:
 (K .ret ⟨[(2,Ai t6),(3,Ai t7)],[]⟩)):Ul t6 t7 K:=Av (Ar E0 Nk) (Az Nk) 3 4 (Ac 4 ac_digits_Loose) [] _ K rfl (kr (by kernel_rfl) h)
theorem Au1(Q:QQ)(t2 t3:Int)(h:
 (Q (.tup [Ai t2,Ai t3]) [])):Abo Q .ret ⟨[(2,Ai t2),(3,Ai t3)],[]⟩:=kr (by kernel_rfl) h
theorem A5v:Bo E0.P 131 ac_digits_Loose.code Nk [.tmp 2, .tmp 3]:=Bh _ _ Tryz.f131 [(4,[6,7],[])] [2,3] _ 23 Tryz.func131 (by kernel_rfl) (by kernel_rfl) (by kernel_rfl) (by kernel_rfl)
theorem Azi(a0:LB)(Q:QQ)(h:
 (Call E0.P Po [As a0, .imm (.str [43,45])] [] fun r0 g0=>
 Ah (g0=[]∧r0= .tup [.imm (.bool (rB (rT r0 0))), .imm (.str (rS (rT r0 1)))])
 (Call E0.P Ad4 [As (rS (rT r0 1))] [] fun r1 g1=>
 Ah (qP9 g1 r1)
 (Br (rB (rT r0 0))
 (Ul (IntKind.i64.wrap ((0:Int) - rI (rT r1 0))) (rI (rT r1 1)) (Abo Q))
 (Ul (rI (rT r1 0)) (rI (rT r1 1)) (Abo Q)))))):Call E0.P Ad5 [As a0] [] Q:=A8 (Ar E0 Nk) (Az Nk) 3 0 131 ac_digits_Loose [.tmp 2, .tmp 3] A5v _ _ Q rfl rfl (kr (by kernel_rfl) h)
noncomputable def ac_token_scanner_octal:AC:=(Bf [(3,[0,3,6],[]),(5,[3],[]),(9,[3],[]),(13,[3],[])] [2] (codeOf Tryz.f149) 0).1
abbrev Dm:Nat:=39
def I8(t3 t6:Int)(u0:LB)(u1:Int)(K:KK):Prop:=Bi 3 E0.P Dm (Au 3 ac_token_scanner_octal).code ⟨[(0, .ptr Af 0),(3,Ai t3),(6,Ai t6)],[(Af, .blk Ad [As u0,Ai u1, .own Ay])]⟩ K
def Xi(t3:Int)(u0:LB)(u1:Int)(K:KK):Prop:=Aq 13 E0.P Dm (Ac 13 ac_token_scanner_octal).code ⟨[(3,Ai t3)],[(Af, .blk Ad [As u0,Ai u1, .own Ay])]⟩ K
def Qi(s:LB)(at_:Int)(Q:QQ):KK:=kE fun st=>finish (4) E0.T [.tmp 2] [(Af, .blk Ad [As s,Ai at_, .own Ay])] Q st
def Zh(s:LB)(at_:Int)(Q:QQ):KK:=kF 0 (fun st=>Aq 13 E0.P Dm (Ac 13 ac_token_scanner_octal).code (mask [3] st) (Qi s at_ Q)) fun st=>finish (4) E0.T [.tmp 2] [(Af, .blk Ad [As s,Ai at_, .own Ay])] Q st
theorem Vv(t3 t6:Int)(u0:LB)(u1:Int)(K:KK)(h:
 (Br (decide (t6<(3:Int)))
 (Br (decide ((↑u0.length:Int)≤u1))
 (Let (bif !false then true else decide ((0:Int)<(48:Int))) fun x0=>
 Let (bif x0 then true else decide ((55:Int)<(0:Int))) fun x1=>
 Br (x1)
 (K (.exit 0) ⟨[(3,Ai t3)],[(Af, .blk Ad [As u0,Ai u1, .own Ay])]⟩)
 (Ah ((0:Int)≤(3:Int))
 (I8 (IntKind.i64.wrap
 (↑(BitVec.ofInt (64:Nat) (IntKind.i64.wrap (t3*(2:Int) ^ (3:Nat))) |||
 BitVec.ofInt (64:Nat) (IntKind.i64.wrap (IntKind.u8.wrap ((0:Int) - (48:Int))))).toNat:
 Int)) (IntKind.i64.wrap (t6+(1:Int))) u0 (IntKind.i64.wrap (u1+(1:Int))) K)))
 (Ah ((0:Int)≤u1∧u1<(↑u0.length:Int))
 (Let (bif !true then true else decide ((↑(u0.getD u1.toNat 0).toNat:Int)<(48:Int))) fun x2=>
 Let (bif x2 then true else decide ((55:Int)<(↑(u0.getD u1.toNat 0).toNat:Int))) fun x3=>
 Br (x3)
 (K (.exit 0) ⟨[(3,Ai t3)],[(Af, .blk Ad [As u0,Ai u1, .own Ay])]⟩)
 (Ah ((0:Int)≤(3:Int))
 (I8 (IntKind.i64.wrap
 (↑(BitVec.ofInt (64:Nat) (IntKind.i64.wrap (t3*(2:Int) ^ (3:Nat))) |||
 BitVec.ofInt (64:Nat)
 (IntKind.i64.wrap
 (IntKind.u8.wrap ((↑(u0.getD u1.toNat 0).toNat:Int) - (48:Int))))).toNat:
 Int)) (IntKind.i64.wrap (t6+(1:Int))) u0 (IntKind.i64.wrap (u1+(1:Int))) K)))))
 (K (.exit 0) ⟨[(3,Ai t3)],[(Af, .blk Ad [As u0,Ai u1, .own Ay])]⟩))):I8 t3 t6 u0 u1 K:=Bg (Ar E0 Dm) (Az Dm) 3 3 (Au 3 ac_token_scanner_octal) [0,3,6] _ K rfl (kr (by kernel_rfl) h)
theorem Ag4(t3:Int)(u0:LB)(u1:Int)(K:KK)(h:
 (K .ret ⟨[(2, .imm (.int .u8 (IntKind.u8.wrap t3)))],[(Af, .blk Ad [As u0,Ai u1, .own Ay])]⟩)):Xi t3 u0 u1 K:=Av (Ar E0 Dm) (Az Dm) 3 13 (Ac 13 ac_token_scanner_octal) [] _ K rfl (kr (by kernel_rfl) h)
theorem Ain(s:LB)(at_:Int)(Q:QQ)(t2:Int)(u0:LB)(u1:Int)(h:
 (Q (.imm (.int .u8 t2)) [(Af, .blk Ad [As u0,Ai u1, .own Ay])])):Qi s at_ Q .ret ⟨[(2, .imm (.int .u8 t2))],[(Af, .blk Ad [As u0,Ai u1, .own Ay])]⟩:=kr (by kernel_rfl) h
theorem Aio(s:LB)(at_:Int)(Q:QQ)(t3:Int)(u0:LB)(u1:Int)(h:
 (Xi t3 u0 u1 (Qi s at_ Q))):Zh s at_ Q (.exit 0) ⟨[(3,Ai t3)],[(Af, .blk Ad [As u0,Ai u1, .own Ay])]⟩:=kr (by kernel_rfl) h
theorem Apj:Bo E0.P 149 ac_token_scanner_octal.code Dm [.tmp 2]:=Bh _ _ Tryz.f149 [(3,[0,3,6],[]),(5,[3],[]),(9,[3],[]),(13,[3],[])] [2] _ 39 Tryz.func149 (by kernel_rfl) (by kernel_rfl) (by kernel_rfl) (by kernel_rfl)
theorem Ali(s:LB)(at_:Int)(Q:QQ)(h:
 (I8 ((0:Int)) ((0:Int)) s at_ (Zh s at_ Q))):Call E0.P Ey [.ptr (.arg 0) 0] [(.arg 0, .blk Ad [.imm (.str s), .imm (.int .i64 at_), .own (.arg 1)])] Q:=A8 (Ar E0 Dm) (Az Dm) 3 4 149 ac_token_scanner_octal [.tmp 2] Apj _ _ Q rfl rfl (kr (by kernel_rfl) h)
noncomputable def ac_digits_signed:AC:=(Bf [(1,[0,14],[0]),(3,[0],[])] [4,5] (codeOf Tryz.f150) 0).1
abbrev F5:Nat:=21
def Zl(t0:LB)(t14:Bool)(K:KK):Prop:=Aq 1 E0.P F5 (Ac 1 ac_digits_signed).code ⟨[(0,As t0),(14,Ab t14)],[]⟩ K
def Aje(t0:LB)(K:KK):Prop:=Aq 3 E0.P F5 (Ac 3 ac_digits_signed).code ⟨[(0,As t0)],[]⟩ K
def Zp(Q:QQ):KK:=kE fun st=>finish 0 E0.T [.tmp 4, .tmp 5] [] Q st
def R7(Q:QQ):Ex→St→Prop
 | .normal,st=>Aq 3 E0.P F5 (Ac 3 ac_digits_signed).code (mask [0] st) (Zp Q)
 | .exit _,_=>False
 | .goto _,_=>False
 | .ret,st=>finish 0 E0.T [.tmp 4, .tmp 5] [] Q st
theorem Acx(t0:LB)(t14:Bool)(K:KK)(h:
 (Br (t14)
 (K .ret ⟨[(4,Ab false),(5,As t0)],[]⟩)
 (K .normal ⟨[(0,As t0)],[]⟩))):Zl t0 t14 K:=Av (Ar E0 F5) (Az F5) 3 1 (Ac 1 ac_digits_signed) [0] _ K rfl (kr (by kernel_rfl) h)
theorem Arx(t0:LB)(K:KK)(h:
 (Ah ((0:Int)≤(0:Int)∧(0:Int)<(↑t0.length:Int))
 (Ah ((0:Int)≤(1:Int)∧(1:Int)≤(↑t0.length:Int))
 (Let (List.drop 1 t0) fun x0=>
 K .ret ⟨[(4, .imm (.bool (decide ((↑(t0.getD (0:Nat) 0).toNat:Int)=(45:Int))))),(5,As x0)],[]⟩)))):Aje t0 K:=Av (Ar E0 F5) (Az F5) 3 3 (Ac 3 ac_digits_signed) [] _ K rfl (kr (by kernel_rfl) h)
theorem Ar5(Q:QQ)(t4:Bool)(t5:LB)(h:
 (Q (.tup [Ab t4,As t5]) [])):Zp Q .ret ⟨[(4,Ab t4),(5,As t5)],[]⟩:=kr (by kernel_rfl) h
theorem Ac4(Q:QQ)(t4:Bool)(t5:LB)(h:
 (Q (.tup [Ab t4,As t5]) [])):R7 Q .ret ⟨[(4,Ab t4),(5,As t5)],[]⟩:=kr (by kernel_rfl) h
theorem Ar6(Q:QQ)(t0:LB)(h:
 (Aje t0 (Zp Q))):R7 Q .normal ⟨[(0,As t0)],[]⟩:=kr (by kernel_rfl) h
theorem A29:Bo E0.P 150 ac_digits_signed.code F5 [.tmp 4, .tmp 5]:=Bh _ _ Tryz.f150 [(1,[0,14],[0]),(3,[0],[])] [4,5] _ 21 Tryz.func150 (by kernel_rfl) (by kernel_rfl) (by kernel_rfl) (by kernel_rfl)
theorem Ag7(a0 a1:LB)(Q:QQ)(h:
 (Ah ((a0 == [])=false→(0:Int)≤(1:Int)∧(1:Int)≤(↑a0.length:Int))
 (Let (List.take 1 a0) fun x0=>
 Br ((a0 == []) == false)
 (Call E0.P Ae2 [As a1,As x0] [] fun r1 g1=>
 Ah (qP8 g1 r1)
 (Let (!rB r1) fun x2=>
 Zl a0 x2 (R7 Q)))
 (Ah ((!false)=true)
 (Let (true) fun x3=>
 Zl a0 x3 (R7 Q)))))):Call E0.P Po [As a0,As a1] [] Q:=A8 (Ar E0 F5) (Az F5) 3 0 150 ac_digits_signed [.tmp 4, .tmp 5] A29 _ _ Q rfl rfl (kr (by kernel_rfl) h)
noncomputable def ac_digits_Fixed:AC:=(Bf [(1,[0,15],[0]),(3,[0],[]),(7,[4,5,6],[]),(9,[5],[]),(15,[5],[])] [2,3] (codeOf Tryz.f151) 0).1
abbrev Da:Nat:=31
def Abe(t0:LB)(t15:Bool)(K:KK):Prop:=Aq 1 E0.P Da (Ac 1 ac_digits_Fixed).code ⟨[(0,As t0),(15,Ab t15)],[]⟩ K
def Ak8(t0:LB)(K:KK):Prop:=Aq 3 E0.P Da (Ac 3 ac_digits_Fixed).code ⟨[(0,As t0)],[]⟩ K
def Fa(t5 t6 u0:Int)(u1:LB)(K:KK):Prop:=Bi 7 E0.P Da (Au 7 ac_digits_Fixed).code ⟨[(4, .fn Az8 [.ptr (Nm.sub 17 nL3) 0, .ptr (Nm.sub 17 Dc) 0]),(5,Ai t5),(6,Ai t6)],[((Nm.sub 17 nL3), .blk Hg [Ai u0]),((Nm.sub 17 Dc), .blk Rk [As u1])]⟩ K
def Ajd(t5:Int)(K:KK):Prop:=Aq 15 E0.P Da (Ac 15 ac_digits_Fixed).code ⟨[(5,Ai t5)],[]⟩ K
def Abm(Q:QQ):KK:=kE fun st=>finish 0 E0.T [.tmp 2, .tmp 3] [] Q st
def Us(Q:QQ):Ex→St→Prop
 | .normal,st=>Aq 3 E0.P Da (Ac 3 ac_digits_Fixed).code (mask [0] st) (Abm Q)
 | .exit _,_=>False
 | .goto _,_=>False
 | .ret,st=>finish 0 E0.T [.tmp 2, .tmp 3] [] Q st
def Abn(K:KK):KK:=kP [] K
def Lx(K:KK):KK:=kC 0 (fun st=>Aq 15 E0.P Da (Ac 15 ac_digits_Fixed).code (mask [5] st) (Abn K)) K
theorem Aet(t0:LB)(t15:Bool)(K:KK)(h:
 (Br (t15)
 (K .ret ⟨[(2,Ai 0),(3,Ai 4)],[]⟩)
 (K .normal ⟨[(0,As t0)],[]⟩))):Abe t0 t15 K:=Av (Ar E0 Da) (Az Da) 3 1 (Ac 1 ac_digits_Fixed) [0] _ K rfl (kr (by kernel_rfl) h)
theorem Aud(t0:LB)(K:KK)(h:
 (Ah (decide ((↑t0.length:Int)≤(0:Int))=false→(0:Int)≤(0:Int)∧(0:Int)<(↑t0.length:Int))
 (Br (decide ((↑t0.length:Int)≤(0:Int)) == false)
 (Call E0.P Rc [.imm (.int .i32 (IntKind.i32.wrap (↑(t0.getD (0:Nat) 0).toNat:Int)))] [] fun r0 g0=>
 Ah (qP8 g0 r0)
 (Let (!rB r0) fun x1=>
 Br (x1)
 (Fa ((0:Int)) ((-1:Int)) ((0:Int)) t0 (Lx K))
 (Ah ((0:Int)≤IntKind.i64.wrap (IntKind.i64.wrap ((0:Int)+(1:Int)) - (1:Int))∧
 IntKind.i64.wrap (IntKind.i64.wrap ((0:Int)+(1:Int)) - (1:Int))<(↑t0.length:Int))
 (Fa ((0:Int)) (IntKind.i64.wrap (IntKind.u8.wrap ((↑(t0.getD (0:Nat) 0).toNat:Int) - (48:Int)))) (IntKind.i64.wrap ((0:Int)+(1:Int))) t0 (Lx K)))))
 (Ah ((!false)=true)
 (Let (true) fun x2=>
 Br (x2)
 (Fa ((0:Int)) ((-1:Int)) ((0:Int)) t0 (Lx K))
 (Ah ((0:Int)≤IntKind.i64.wrap (IntKind.i64.wrap ((0:Int)+(1:Int)) - (1:Int))∧
 IntKind.i64.wrap (IntKind.i64.wrap ((0:Int)+(1:Int)) - (1:Int))<(↑t0.length:Int))
 (Fa ((0:Int)) (IntKind.i64.wrap (IntKind.u8.wrap ((↑(t0.getD (0:Nat) 0).toNat:Int) - (48:Int)))) (IntKind.i64.wrap ((0:Int)+(1:Int))) t0 (Lx K)))))))):Ak8 t0 K:=Av (Ar E0 Da) (Az Da) 3 3 (Ac 3 ac_digits_Fixed) [] _ K rfl (kr (by kernel_rfl) h)
theorem Aex(t5 t6 u0:Int)(u1:LB)(K:KK)(h:
 (Br (decide ((0:Int)≤t6))
 (Br (decide ((2147483647:Int)<IntKind.i64.wrap (IntKind.i64.wrap ((10:Int)*t5)+t6)))
 (K .ret ⟨[(2,Ai 0),(3,Ai 3)],[]⟩)
 (Ah (decide ((↑u1.length:Int)≤u0)=false→(0:Int)≤u0∧u0<(↑u1.length:Int))
 (Br (decide ((↑u1.length:Int)≤u0) == false)
 (Call E0.P Rc [.imm (.int .i32 (IntKind.i32.wrap (↑(u1.getD u0.toNat 0).toNat:Int)))] [] fun r0 g0=>
 Ah (qP8 g0 r0)
 (Let (!rB r0) fun x1=>
 Br (x1)
 (Fa (IntKind.i64.wrap (IntKind.i64.wrap ((10:Int)*t5)+t6)) ((-1:Int)) u0 u1 K)
 (Ah ((0:Int)≤IntKind.i64.wrap (IntKind.i64.wrap (u0+(1:Int)) - (1:Int))∧
 IntKind.i64.wrap (IntKind.i64.wrap (u0+(1:Int)) - (1:Int))<(↑u1.length:Int))
 (Fa (IntKind.i64.wrap (IntKind.i64.wrap ((10:Int)*t5)+t6)) (IntKind.i64.wrap
 (IntKind.u8.wrap
 ((↑(u1.getD (IntKind.i64.wrap (IntKind.i64.wrap (u0+(1:Int)) - (1:Int))).toNat 0).toNat:
 Int) -
 (48:Int)))) (IntKind.i64.wrap (u0+(1:Int))) u1 K))))
 (Ah ((!false)=true)
 (Let (true) fun x2=>
 Br (x2)
 (Fa (IntKind.i64.wrap (IntKind.i64.wrap ((10:Int)*t5)+t6)) ((-1:Int)) u0 u1 K)
 (Ah ((0:Int)≤IntKind.i64.wrap (IntKind.i64.wrap (u0+(1:Int)) - (1:Int))∧
 IntKind.i64.wrap (IntKind.i64.wrap (u0+(1:Int)) - (1:Int))<(↑u1.length:Int))
 (Fa (IntKind.i64.wrap (IntKind.i64.wrap ((10:Int)*t5)+t6)) (IntKind.i64.wrap
 (IntKind.u8.wrap
 ((↑(u1.getD (IntKind.i64.wrap (IntKind.i64.wrap (u0+(1:Int)) - (1:Int))).toNat 0).toNat:
 Int) -
 (48:Int)))) (IntKind.i64.wrap (u0+(1:Int))) u1 K)))))))
 (K (.exit 0) ⟨[(5,Ai t5)],[]⟩))):Fa t5 t6 u0 u1 K:=Bg (Ar E0 Da) (Az Da) 3 7 (Au 7 ac_digits_Fixed) [4,5,6] _ K rfl (kr (by kernel_rfl) h)
theorem Arw(t5:Int)(K:KK)(h:
 (K .ret ⟨[(2,Ai t5),(3,Ai 0)],[]⟩)):Ajd t5 K:=Av (Ar E0 Da) (Az Da) 3 15 (Ac 15 ac_digits_Fixed) [] _ K rfl (kr (by kernel_rfl) h)
theorem Aeu(Q:QQ)(t2 t3:Int)(h:
 (Q (.tup [Ai t2,Ai t3]) [])):Abm Q .ret ⟨[(2,Ai t2),(3,Ai t3)],[]⟩:=kr (by kernel_rfl) h
theorem Aev(Q:QQ)(t2 t3:Int)(h:
 (Q (.tup [Ai t2,Ai t3]) [])):Us Q .ret ⟨[(2,Ai t2),(3,Ai t3)],[]⟩:=kr (by kernel_rfl) h
theorem Aux(Q:QQ)(t0:LB)(h:
 (Ak8 t0 (Abm Q))):Us Q .normal ⟨[(0,As t0)],[]⟩:=kr (by kernel_rfl) h
theorem Auy(K:KK)(t2 t3:Int)(h:
 (K .ret ⟨[(2,Ai t2),(3,Ai t3)],[]⟩)):Abn K .ret ⟨[(2,Ai t2),(3,Ai t3)],[]⟩:=kr (by kernel_rfl) h
theorem Auz(K:KK)(t2 t3:Int)(h:
 (K .ret ⟨[(2,Ai t2),(3,Ai t3)],[]⟩)):Lx K .ret ⟨[(2,Ai t2),(3,Ai t3)],[]⟩:=kr (by kernel_rfl) h
theorem Au0(K:KK)(t5:Int)(h:
 (Ajd t5 (Abn K))):Lx K (.exit 0) ⟨[(5,Ai t5)],[]⟩:=kr (by kernel_rfl) h
theorem A5u:Bo E0.P 151 ac_digits_Fixed.code Da [.tmp 2, .tmp 3]:=Bh _ _ Tryz.f151 [(1,[0,15],[0]),(3,[0],[]),(7,[4,5,6],[]),(9,[5],[]),(15,[5],[])] [2,3] _ 31 Tryz.func151 (by kernel_rfl) (by kernel_rfl) (by kernel_rfl) (by kernel_rfl)
theorem Azh(a0:LB)(Q:QQ)(h:
 (Br ((a0 == []) == false)
 (Call E0.P Ad3 [As a0] [] fun r0 g0=>
 Ah (qP5 g0 r0)
 (Let (!decide (rI r0=(↑a0.length:Int))) fun x1=>
 Abe a0 x1 (Us Q)))
 (Ah ((!false)=true)
 (Let (true) fun x2=>
 Abe a0 x2 (Us Q))))):Call E0.P Ad4 [As a0] [] Q:=A8 (Ar E0 Da) (Az Da) 3 0 151 ac_digits_Fixed [.tmp 2, .tmp 3] A5u _ _ Q rfl rfl (kr (by kernel_rfl) h)
noncomputable def ac_digits_Count:AC:=(Bf [(2,[0,6],[]),(4,[0],[]),(9,[0],[])] [2] (codeOf Tryz.f165) 0).1
abbrev Gn:Nat:=17
def Ux(t0 h6s:LB)(h6p:Nat)(K:KK):Prop:=Bi 2 E0.P Gn (Au 2 ac_digits_Count).code ⟨[(0,As t0),(6, .ptr Oz 0)],[(Oz, .sit h6s h6p)]⟩ K
def Ak7(t0:LB)(K:KK):Prop:=Aq 9 E0.P Gn (Ac 9 ac_digits_Count).code ⟨[(0,As t0)],[]⟩ K
def Abk(Q:QQ):KK:=kE fun st=>finish 0 E0.T [.tmp 2] [] Q st
def Abl(Q:QQ):KK:=kF 0 (fun st=>Aq 9 E0.P Gn (Ac 9 ac_digits_Count).code (mask [0] st) (Abk Q)) fun st=>finish 0 E0.T [.tmp 2] [] Q st
theorem Au4(t0 h6s:LB)(h6p:Nat)(K:KK)(h:
 (Br (decide (h6p<h6s.length))
 (Br (true)
 (Call E0.P Rc [.imm (.int .i32 ((↑(Hu h6s h6p).fst:Int)))] [] fun r0 g0=>
 Ah (qP8 g0 r0)
 (Br (!rB r0)
 (K .ret ⟨[(2,Ai ((↑h6p:Int)))],[]⟩)
 (Ux t0 h6s (h6p+(Hu h6s h6p).snd) K)))
 (K (.exit 0) ⟨[(0,As t0)],[]⟩))
 (Br (false)
 (False)
 (K (.exit 0) ⟨[(0,As t0)],[]⟩)))):Ux t0 h6s h6p K:=Bg (Ar E0 Gn) (Az Gn) 3 2 (Au 2 ac_digits_Count) [0,6] _ K rfl (kr (by kernel_rfl) h)
theorem Auc(t0:LB)(K:KK)(h:
 (K .ret ⟨[(2,Ai ((↑t0.length:Int)))],[]⟩)):Ak7 t0 K:=Av (Ar E0 Gn) (Az Gn) 3 9 (Ac 9 ac_digits_Count) [] _ K rfl (kr (by kernel_rfl) h)
theorem Auu(Q:QQ)(t2:Int)(h:
 (Q (Ai t2) [])):Abk Q .ret ⟨[(2,Ai t2)],[]⟩:=kr (by kernel_rfl) h
theorem Auv(Q:QQ)(t2:Int)(h:
 (Q (Ai t2) [])):Abl Q .ret ⟨[(2,Ai t2)],[]⟩:=kr (by kernel_rfl) h
theorem Auw(Q:QQ)(t0:LB)(h:
 (Ak7 t0 (Abk Q))):Abl Q (.exit 0) ⟨[(0,As t0)],[]⟩:=kr (by kernel_rfl) h
theorem A5t:Bo E0.P 165 ac_digits_Count.code Gn [.tmp 2]:=Bh _ _ Tryz.f165 [(2,[0,6],[]),(4,[0],[]),(9,[0],[])] [2] _ 17 Tryz.func165 (by kernel_rfl) (by kernel_rfl) (by kernel_rfl) (by kernel_rfl)
theorem Azg(a0:LB)(Q:QQ)(h:
 (Ux a0 a0 0 (Abl Q))):Call E0.P Ad3 [As a0] [] Q:=A8 (Ar E0 Gn) (Az Gn) 3 0 165 ac_digits_Count [.tmp 2] A5t _ _ Q rfl rfl (kr (by kernel_rfl) h)
noncomputable def ac_digits_digit:AC:=(Bf [] [2] (codeOf Tryz.f171) 0).1
abbrev Aei:Nat:=9
theorem A5w:Bo E0.P 171 ac_digits_digit.code Aei [.tmp 2]:=Bh _ _ Tryz.f171 [] [2] _ 9 Tryz.func171 (by kernel_rfl) (by kernel_rfl) (by kernel_rfl) (by kernel_rfl)
theorem Azj(a0:Int)(Q:QQ)(h:
 (Let (bif decide ((48:Int)≤a0)then decide (a0≤(57:Int))else false) fun x0=>
 Q (Ab x0) [])):Call E0.P Rc [.imm (.int .i32 a0)] [] Q:=A8 (Ar E0 Aei) (Az Aei) 3 0 171 ac_digits_digit [.tmp 2] A5w _ _ Q rfl rfl (kr (by kernel_rfl) h)
end
end Go.Proofs.Sim.Se

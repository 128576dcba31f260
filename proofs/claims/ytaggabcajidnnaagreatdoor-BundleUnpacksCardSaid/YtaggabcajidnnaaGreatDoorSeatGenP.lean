import Derived.Test.YtaggabcajidnnaaGreatDoorSeatBase
set_option maxRecDepth 100000
set_option maxHeartbeats 4000000
namespace Go.Proofs.Sim.Se
open Go Go.Proofs Go.Proofs.Sim Go.IntKind
noncomputable section
abbrev qP0(G:Heap)(R:AV):Prop:=G=[(Nm.arg 0,Entry.blk 127 [.imm (.str (rS ((Au G Af).getD 0 AV.undef))), .imm (.int .i64 (rI ((Au G Af).getD 1 AV.undef))), .imm (.int .i64 (rI ((Au G Af).getD 2 AV.undef)))])]∧R= .tup [.imm (IV.agg [.int .i64 (gI (Ac (rT R 0)) 0), .int .i64 (gI (Ac (rT R 0)) 1), .int .i64 (gI (Ac (rT R 0)) 2), .str (gS (Ac (rT R 0)) 3), .sl SK.any 6 (gR (Ac (rT R 0)) 4), .sl SK.any 7 (gR (Ac (rT R 0)) 5)]), .imm (.int .i64 (rI (rT R 1)))]
abbrev qP1(G:Heap)(R:AV):Prop:=G=[]∧R= .imm (IV.agg [.int .i64 (gI (Ac R) 0), .int .i64 (gI (Ac R) 1), .int .i64 (gI (Ac R) 2), .str (gS (Ac R) 3), .sl SK.any 6 (gR (Ac R) 4), .sl SK.any 7 (gR (Ac R) 5)])
abbrev qP2(G:Heap)(R:AV):Prop:=G=[]∧R= .tup [.imm (IV.agg [.int .i64 (gI (Ac (rT R 0)) 0), .int .i64 (gI (Ac (rT R 0)) 1), .int .i64 (gI (Ac (rT R 0)) 2), .str (gS (Ac (rT R 0)) 3), .sl SK.any 6 (gR (Ac (rT R 0)) 4), .sl SK.any 7 (gR (Ac (rT R 0)) 5)]), .imm (.int .i64 (rI (rT R 1))), .imm (.int .i64 (rI (rT R 2)))]
abbrev qP3(G:Heap)(R:AV):Prop:=G=[]∧R= .tup [.imm (IV.agg [.int .i64 (gI (Ac (rT R 0)) 0), .int .i64 (gI (Ac (rT R 0)) 1), .str (gS (Ac (rT R 0)) 2), .int .i64 (gI (Ac (rT R 0)) 3), .int .i64 (gI (Ac (rT R 0)) 4)]), .imm (.int .i64 (rI (rT R 1)))]
abbrev qP4(G:Heap)(R:AV):Prop:=G=[(Nm.arg 0,Entry.blk 127 [.imm (.str (rS ((Au G Af).getD 0 AV.undef))), .imm (.int .i64 (rI ((Au G Af).getD 1 AV.undef))), .imm (.int .i64 (rI ((Au G Af).getD 2 AV.undef)))])]∧R= .tup [.imm (IV.agg [.int .i64 (gI (Ac (rT R 0)) 0), .int .i64 (gI (Ac (rT R 0)) 1), .str (gS (Ac (rT R 0)) 2), .int .i64 (gI (Ac (rT R 0)) 3), .int .i64 (gI (Ac (rT R 0)) 4)]), .imm (.int .i64 (rI (rT R 1)))]
abbrev Pj(G:Heap)(R:AV):Prop:=G=[]∧R= .imm (.int .i64 (rI R))
abbrev qP6(G:Heap)(R:AV):Prop:=G=[(Nm.arg 0,Entry.blk 101 [.imm (.str (rS ((Au G Af).getD 0 AV.undef))), .imm (.int .i64 (rI ((Au G Af).getD 1 AV.undef))),AV.own Ar]),(Nm.arg 1,Entry.arr 7 true 1 (Cq G Ar))]∧R= .tup [.imm (IV.agg [.int .i64 (gI (Ac (rT R 0)) 0), .int .i64 (gI (Ac (rT R 0)) 1), .str (gS (Ac (rT R 0)) 2), .int .i64 (gI (Ac (rT R 0)) 3), .int .i64 (gI (Ac (rT R 0)) 4)]), .imm (.int .i64 (rI (rT R 1)))]
abbrev qP7(G:Heap)(R:AV):Prop:=G=[]∧R= .tup [.imm (.str (rS (rT R 0))), .imm (.int .i64 (rI (rT R 1))), .imm (.int .i64 (rI (rT R 2)))]
abbrev qP8(G:Heap)(R:AV):Prop:=G=[]∧R= .imm (.bool (rB R))
abbrev qP9(G:Heap)(R:AV):Prop:=G=[]∧R= .tup [.imm (.int .i64 (rI (rT R 0))), .imm (.int .i64 (rI (rT R 1)))]
abbrev Bcn(G:Heap)(R:AV):Prop:=G=[(Nm.arg 0,Entry.blk 101 [.imm (.str (rS ((Au G Af).getD 0 AV.undef))), .imm (.int .i64 (rI ((Au G Af).getD 1 AV.undef))),AV.own Ar])]∧R= .imm (.int .u8 (rI R))
noncomputable def Ba4:AC:=(A7 [] [4,5,6] (codeOf Tryz.f64) 0).1
abbrev Bbw:Nat:=31
theorem Bb8:Bd E0.P 64 Ba4.code Bbw [.cell 4 28, .tmp 5, .tmp 6]:=fq Tryz.func64
theorem A3i(a0:LB)(a1:Int)(Q:QQ)(h:
 (Call E0.P I9 [.ptr Af 0] [(Af, .blk Ap [As a0,Ai a1,Ai 0])] fun r0 g0=>
 Ag (qP0 g0 r0)
 (Br (!decide (rI (rT r0 1)=(0:Int)))
 (Q (.tup [.imm (.agg [.int .i64 0, .int .i64 0, .int .i64 0, .str [], .sl .any 6 [], .sl .any 7 []]),Ai 0,Ai (rI (rT r0 1))]) [])
 (Call E0.P Gq [.imm (.agg [.int .i64 (gI (Ac (rT r0 0)) 0), .int .i64 (gI (Ac (rT r0 0)) 1), .int .i64 (gI (Ac (rT r0 0)) 2), .str (gS (Ac (rT r0 0)) 3), .sl .any 6 (gR (Ac (rT r0 0)) 4), .sl .any 7 (gR (Ac (rT r0 0)) 5)])] [] fun r1 g1=>
 Ag (qP1 g1 r1)
 (Q (.tup [.imm (.agg [.int .i64 (gI (Ac r1) 0), .int .i64 (gI (Ac r1) 1), .int .i64 (gI (Ac r1) 2), .str (gS (Ac r1) 3), .sl .any 6 (gR (Ac r1) 4), .sl .any 7 (gR (Ac r1) 5)]), .imm (.int .i64 (rI ((Au g0 Af).getD 1 AV.undef))),Ai 0]) []))))):Call E0.P Ag3 [As a0,Ai a1] [] Q:=fR 0 Bb8 h
noncomputable def Bgd:AC:=(A7 [] [4,5,6] (codeOf Tryz.f44) 0).1
abbrev Bh2:Nat:=24
theorem Bii:Bd E0.P 44 Bgd.code Bh2 [.cell 4 28, .tmp 5, .tmp 6]:=fq Tryz.func44
theorem A9z(a0:LB)(a1:Int)(Q:QQ)(h:
 (Call E0.P Abf [As a0,Ai a1,Ai 0] [] fun r0 g0=>
 Ag (qP2 g0 r0)
 (Br (!decide (rI (rT r0 2)=(0:Int)))
 (Q (.tup [.imm (.agg [.int .i64 0, .int .i64 0, .int .i64 0, .str [], .sl .any 6 [], .sl .any 7 []]),Ai 0,Ai (rI (rT r0 2))]) [])
 (Call E0.P Jt [.imm (.agg [.int .i64 (gI (Ac (rT r0 0)) 0), .int .i64 (gI (Ac (rT r0 0)) 1), .int .i64 (gI (Ac (rT r0 0)) 2), .str (gS (Ac (rT r0 0)) 3), .sl .any 6 (gR (Ac (rT r0 0)) 4), .sl .any 7 (gR (Ac (rT r0 0)) 5)])] [] fun r1 g1=>
 Ag (qP1 g1 r1)
 (Q (.tup [.imm (.agg [.int .i64 (gI (Ac r1) 0), .int .i64 (gI (Ac r1) 1), .int .i64 (gI (Ac r1) 2), .str (gS (Ac r1) 3), .sl .any 6 (gR (Ac r1) 4), .sl .any 7 (gR (Ac r1) 5)]),Ai (rI (rT r0 1)),Ai 0]) []))))):Call E0.P Aok [As a0,Ai a1] [] Q:=fR 0 Bii h
noncomputable def Ba5:AC:=(A7 [] [2,3] (codeOf Tryz.f42) 0).1
abbrev Bbx:Nat:=41
theorem Bb9:Bd E0.P 42 Ba5.code Bbx [.cell 2 28, .tmp 3]:=fq Tryz.func42
theorem A3j(a0:LB)(Q:QQ)(h:
 (Call E0.P Ag3 [As a0,Ai 0] [] fun r0 g0=>
 Ag (qP2 g0 r0)
 (Br (!decide (rI (rT r0 2)=(0:Int)))
 (Q (.tup [.imm (.agg [.int .i64 0, .int .i64 0, .int .i64 0, .str [], .sl .any 6 [], .sl .any 7 []]),Ai (rI (rT r0 2))]) [])
 (Call E0.P Qr [As a0,Ai (rI (rT r0 1))] [] fun r1 g1=>
 Ag (qP3 g1 r1)
 (Br (!decide (rI (rT r1 1)=(0:Int)))
 (Q (.tup [.imm (.agg [.int .i64 0, .int .i64 0, .int .i64 0, .str [], .sl .any 6 [], .sl .any 7 []]),Ai (rI (rT r1 1))]) [])
 (Br (!decide (gI (Ac (rT r1 0)) 0=(0:Int)))
 (Q (.tup [.imm (.agg [.int .i64 0, .int .i64 0, .int .i64 0, .str [], .sl .any 6 [], .sl .any 7 []]),Ai 4]) [])
 (Q (.tup [.imm (.agg [.int .i64 (gI (Ac (rT r0 0)) 0), .int .i64 (gI (Ac (rT r0 0)) 1), .int .i64 (gI (Ac (rT r0 0)) 2), .str (gS (Ac (rT r0 0)) 3), .sl .any 6 (gR (Ac (rT r0 0)) 4), .sl .any 7 (gR (Ac (rT r0 0)) 5)]),Ai 0]) []))))))):Call E0.P Ag4 [As a0] [] Q:=fR 0 Bb9 h
noncomputable def Bge:AC:=(A7 [] [2,3] (codeOf Tryz.f31) 0).1
abbrev Bh3:Nat:=34
theorem Bij:Bd E0.P 31 Bge.code Bh3 [.cell 2 28, .tmp 3]:=fq Tryz.func31
theorem A90(a0:LB)(Q:QQ)(h:
 (Call E0.P Aok [As a0,Ai 0] [] fun r0 g0=>
 Ag (qP2 g0 r0)
 (Br (!decide (rI (rT r0 2)=(0:Int)))
 (Q (.tup [.imm (.agg [.int .i64 0, .int .i64 0, .int .i64 0, .str [], .sl .any 6 [], .sl .any 7 []]),Ai (rI (rT r0 2))]) [])
 (Call E0.P L8 [As a0,Ai (rI (rT r0 1))] [] fun r1 g1=>
 Ag (qP3 g1 r1)
 (Br (!decide (rI (rT r1 1)=(0:Int)))
 (Q (.tup [.imm (.agg [.int .i64 0, .int .i64 0, .int .i64 0, .str [], .sl .any 6 [], .sl .any 7 []]),Ai (rI (rT r1 1))]) [])
 (Br (!decide (gI (Ac (rT r1 0)) 0=(0:Int)))
 (Q (.tup [.imm (.agg [.int .i64 0, .int .i64 0, .int .i64 0, .str [], .sl .any 6 [], .sl .any 7 []]),Ai 4]) [])
 (Q (.tup [.imm (.agg [.int .i64 (gI (Ac (rT r0 0)) 0), .int .i64 (gI (Ac (rT r0 0)) 1), .int .i64 (gI (Ac (rT r0 0)) 2), .str (gS (Ac (rT r0 0)) 3), .sl .any 6 (gR (Ac (rT r0 0)) 4), .sl .any 7 (gR (Ac (rT r0 0)) 5)]),Ai 0]) []))))))):Call E0.P Aol [As a0] [] Q:=fR 0 Bij h
noncomputable def Asu:AC:=(A7 [] [2,3] (codeOf Tryz.f97) 0).1
abbrev Atd:Nat:=70
theorem Atk:Bd E0.P 97 Asu.code Atd [.cell 2 28, .tmp 3]:=fq Tryz.func97
theorem Ao6(s:LB)(at_ win:Int)(Q:QQ)(h:
 (Call E0.P F9 [.ptr Af 0] [(Af, .blk Ap [As s,Ai at_,Ai win])] fun r0 g0=>
 Ag (qP4 g0 r0)
 (Br (!decide (rI (rT r0 1)=(0:Int)))
 (Q (.tup [.imm (.agg [.int .i64 0, .int .i64 0, .int .i64 0, .str [], .sl .any 6 [], .sl .any 7 []]),Ai (rI (rT r0 1))]) [(Af, .blk Ap [.imm (.str (rS ((Au g0 Af).getD 0 AV.undef))), .imm (.int .i64 (rI ((Au g0 Af).getD 1 AV.undef))), .imm (.int .i64 (rI ((Au g0 Af).getD 2 AV.undef)))])])
 (Br (decide (gI (Ac (rT r0 0)) 0=(0:Int)))
 (Q (.tup [.imm (.agg [.int .i64 0, .int .i64 0, .int .i64 0, .str [], .sl .any 6 [], .sl .any 7 []]),Ai 5]) [(Af, .blk Ap [.imm (.str (rS ((Au g0 Af).getD 0 AV.undef))), .imm (.int .i64 (rI ((Au g0 Af).getD 1 AV.undef))), .imm (.int .i64 (rI ((Au g0 Af).getD 2 AV.undef)))])])
 (Br (decide (gI (Ac (rT r0 0)) 0=(1:Int)))
 (Call E0.P Rv [.ptr Af 0,Ai (gI (Ac (rT r0 0)) 1)] [(Af, .blk Ap [.imm (.str (rS ((Au g0 Af).getD 0 AV.undef))), .imm (.int .i64 (rI ((Au g0 Af).getD 1 AV.undef))), .imm (.int .i64 (rI ((Au g0 Af).getD 2 AV.undef)))])] fun r1 g1=>
 Ag (qP0 g1 r1)
 (Q (.tup [.imm (.agg [.int .i64 (gI (Ac (rT r1 0)) 0), .int .i64 (gI (Ac (rT r1 0)) 1), .int .i64 (gI (Ac (rT r1 0)) 2), .str (gS (Ac (rT r1 0)) 3), .sl .any 6 (gR (Ac (rT r1 0)) 4), .sl .any 7 (gR (Ac (rT r1 0)) 5)]),Ai (rI (rT r1 1))]) [(Af, .blk Ap [.imm (.str (rS ((Au g1 Af).getD 0 AV.undef))), .imm (.int .i64 (rI ((Au g1 Af).getD 1 AV.undef))), .imm (.int .i64 (rI ((Au g1 Af).getD 2 AV.undef)))])]))
 (Br (decide (gI (Ac (rT r0 0)) 0=(2:Int)))
 (Q (.tup [.imm (.agg [.int .i64 3, .int .i64 0, .int .i64 0, .str (gS (Ac (rT r0 0)) 2), .sl .any 6 [], .sl .any 7 []]),Ai 0]) [(Af, .blk Ap [.imm (.str (rS ((Au g0 Af).getD 0 AV.undef))), .imm (.int .i64 (rI ((Au g0 Af).getD 1 AV.undef))), .imm (.int .i64 (rI ((Au g0 Af).getD 2 AV.undef)))])])
 (Br (decide (gI (Ac (rT r0 0)) 0=(3:Int)))
 (Q (.tup [.imm (.agg [.int .i64 4, .int .i64 0, .int .i64 0, .str (gS (Ac (rT r0 0)) 2), .sl .any 6 [], .sl .any 7 []]),Ai 0]) [(Af, .blk Ap [.imm (.str (rS ((Au g0 Af).getD 0 AV.undef))), .imm (.int .i64 (rI ((Au g0 Af).getD 1 AV.undef))), .imm (.int .i64 (rI ((Au g0 Af).getD 2 AV.undef)))])])
 (Br (decide (gI (Ac (rT r0 0)) 0=(8:Int)))
 (Call E0.P Aka [As (gS (Ac (rT r0 0)) 2)] [] fun r2 g2=>
 Ag (g2=[]∧
 r2=
 .tup
 [.imm
 (IV.agg
 [.int .i64 (gI (Ac (rT r2 0)) 0),
 .int .i64 (gI (Ac (rT r2 0)) 1),
 .int .i64 (gI (Ac (rT r2 0)) 2),
 .str (gS (Ac (rT r2 0)) 3),
 .sl SK.any 6 (gR (Ac (rT r2 0)) 4),
 .sl SK.any 7 (gR (Ac (rT r2 0)) 5)]),
 .imm (.int .i64 (rI (rT r2 1)))])
 (Q (.tup [.imm (.agg [.int .i64 (gI (Ac (rT r2 0)) 0), .int .i64 (gI (Ac (rT r2 0)) 1), .int .i64 (gI (Ac (rT r2 0)) 2), .str (gS (Ac (rT r2 0)) 3), .sl .any 6 (gR (Ac (rT r2 0)) 4), .sl .any 7 (gR (Ac (rT r2 0)) 5)]),Ai (rI (rT r2 1))]) [(Af, .blk Ap [.imm (.str (rS ((Au g0 Af).getD 0 AV.undef))), .imm (.int .i64 (rI ((Au g0 Af).getD 1 AV.undef))), .imm (.int .i64 (rI ((Au g0 Af).getD 2 AV.undef)))])]))
 (Br (decide (gI (Ac (rT r0 0)) 0=(4:Int)))
 (Br (decide ((64:Int)≤rI ((Au g0 Af).getD 2 AV.undef)))
 (Q (.tup [.imm (.agg [.int .i64 0, .int .i64 0, .int .i64 0, .str [], .sl .any 6 [], .sl .any 7 []]),Ai 9]) [(Af, .blk Ap [.imm (.str (rS ((Au g0 Af).getD 0 AV.undef))), .imm (.int .i64 (rI ((Au g0 Af).getD 1 AV.undef))), .imm (.int .i64 (rI ((Au g0 Af).getD 2 AV.undef)))])])
 (Call E0.P U9 [.ptr Af 0] [(Af, .blk Ap [.imm (.str (rS ((Au g0 Af).getD 0 AV.undef))), .imm (.int .i64 (rI ((Au g0 Af).getD 1 AV.undef))), .imm (.int .i64 (i64.wrap (rI ((Au g0 Af).getD 2 AV.undef)+(1:Int))))])] fun r3 g3=>
 Ag (qP0 g3 r3)
 (Q (.tup [.imm (.agg [.int .i64 (gI (Ac (rT r3 0)) 0), .int .i64 (gI (Ac (rT r3 0)) 1), .int .i64 (gI (Ac (rT r3 0)) 2), .str (gS (Ac (rT r3 0)) 3), .sl .any 6 (gR (Ac (rT r3 0)) 4), .sl .any 7 (gR (Ac (rT r3 0)) 5)]),Ai (rI (rT r3 1))]) [(Af, .blk Ap [.imm (.str (rS ((Au g3 Af).getD 0 AV.undef))), .imm (.int .i64 (rI ((Au g3 Af).getD 1 AV.undef))), .imm (.int .i64 (i64.wrap (rI ((Au g3 Af).getD 2 AV.undef) - (1:Int))))])])))
 (Br (decide (gI (Ac (rT r0 0)) 0=(6:Int)))
 (Br (decide ((64:Int)≤rI ((Au g0 Af).getD 2 AV.undef)))
 (Q (.tup [.imm (.agg [.int .i64 0, .int .i64 0, .int .i64 0, .str [], .sl .any 6 [], .sl .any 7 []]),Ai 9]) [(Af, .blk Ap [.imm (.str (rS ((Au g0 Af).getD 0 AV.undef))), .imm (.int .i64 (rI ((Au g0 Af).getD 1 AV.undef))), .imm (.int .i64 (rI ((Au g0 Af).getD 2 AV.undef)))])])
 (Call E0.P U8 [.ptr Af 0] [(Af, .blk Ap [.imm (.str (rS ((Au g0 Af).getD 0 AV.undef))), .imm (.int .i64 (rI ((Au g0 Af).getD 1 AV.undef))), .imm (.int .i64 (i64.wrap (rI ((Au g0 Af).getD 2 AV.undef)+(1:Int))))])] fun r4 g4=>
 Ag (qP0 g4 r4)
 (Q (.tup [.imm (.agg [.int .i64 (gI (Ac (rT r4 0)) 0), .int .i64 (gI (Ac (rT r4 0)) 1), .int .i64 (gI (Ac (rT r4 0)) 2), .str (gS (Ac (rT r4 0)) 3), .sl .any 6 (gR (Ac (rT r4 0)) 4), .sl .any 7 (gR (Ac (rT r4 0)) 5)]),Ai (rI (rT r4 1))]) [(Af, .blk Ap [.imm (.str (rS ((Au g4 Af).getD 0 AV.undef))), .imm (.int .i64 (rI ((Au g4 Af).getD 1 AV.undef))), .imm (.int .i64 (i64.wrap (rI ((Au g4 Af).getD 2 AV.undef) - (1:Int))))])])))
 (Q (.tup [.imm (.agg [.int .i64 0, .int .i64 0, .int .i64 0, .str [], .sl .any 6 [], .sl .any 7 []]),Ai 4]) [(Af, .blk Ap [.imm (.str (rS ((Au g0 Af).getD 0 AV.undef))), .imm (.int .i64 (rI ((Au g0 Af).getD 1 AV.undef))), .imm (.int .i64 (rI ((Au g0 Af).getD 2 AV.undef)))])]))))))))))):Call E0.P I9 [.ptr (.arg 0) 0] [(.arg 0, .blk Ap [.imm (.str s), .imm (.int .i64 at_), .imm (.int .i64 win)])] Q:=fR 0 Atk h
noncomputable def Ahw:AC:=(A7 [(17,[0,2,6,9,55],[0,2,6,9]),(19,[0,2,6,9],[])] [6,7,8] (codeOf Tryz.f73) 0).1
abbrev Ah6:Nat:=83
def Abn(t0:LB)(t2:Int)(t55:Bool)(u0 u1 u2:Int)(u3:LB)(u4 u5:Int)(u6:LB)(u7 u8:Int)(u9 v0:LL)(K:KK):Prop:=Ao 17 E0.P Ah6 (Ah 17 Ahw).code ⟨[(0,As t0),(2,Ai t2),(6, .ptr nL6 0),(9, .ptr Ip 0),(55,Ab t55)],[(nL6, .blk Aa [Ai u0,Ai u1,Ai u2,As u3, .own (nL6.cell 4), .own (nL6.cell 5)]),(Ip, .blk Aq [Ai u4,Ai u5,As u6,Ai u7,Ai u8]),((nL6.cell 4), .arr (Aa+2) true 6 u9),((nL6.cell 5), .arr (Ae+2) true 7 v0)]⟩ K
def Av4(t0:LB)(t2 u0:Int)(u1 u2:Int)(u3:LB)(u4 u5:Int)(u6:LB)(u7 u8:Int)(u9 v0:LL)(K:KK):Prop:=Ao 19 E0.P Ah6 (Ah 19 Ahw).code ⟨[(0,As t0),(2,Ai t2),(6, .ptr nL6 0),(9, .ptr Ip 0)],[(nL6, .blk Aa [Ai u0,Ai u1,Ai u2,As u3, .own (nL6.cell 4), .own (nL6.cell 5)]),(Ip, .blk Aq [Ai u4,Ai u5,As u6,Ai u7,Ai u8]),((nL6.cell 4), .arr (Aa+2) true 6 u9),((nL6.cell 5), .arr (Ae+2) true 7 v0)]⟩ K
def Ad6(Q:QQ):KK:=kE fun st=>finish 0 E0.T [.cell 6 28, .tmp 7, .tmp 8] [] Q st
def X3(Q:QQ):KK:=kF 0 (fun st=>Ao 19 E0.P Ah6 (Ah 19 Ahw).code (mask [0,2,6,9] st) (Ad6 Q)) fun st=>finish 0 E0.T [.cell 6 28, .tmp 7, .tmp 8] [] Q st
theorem A26(t0:LB)(t2:Int)(t55:Bool)(u0 u1 u2:Int)(u3:LB)(u4 u5:Int)(u6:LB)(u7 u8:Int)(u9 v0:LL)(K:KK)(h:
 (Br (t55)
 (K .ret ⟨[(6, .ptr nL6 0),(7,Ai 0),(8,Ai 4)],[(nL6, .blk Aa [Ai 0,Ai 0,Ai 0, .imm (.str []), .own (nL6.cell 4), .own (nL6.cell 5)]),((nL6.cell 4), .arr (Aa+2) true 6 []),((nL6.cell 5), .arr (Ae+2) true 7 [])]⟩)
 (K .normal ⟨[(0,As t0),(2,Ai t2),(6, .ptr nL6 0),(9, .ptr Ip 0)],[(nL6, .blk Aa [Ai u0,Ai u1,Ai u2,As u3, .own (nL6.cell 4), .own (nL6.cell 5)]),(Ip, .blk Aq [Ai u4,Ai u5,As u6,Ai u7,Ai u8]),((nL6.cell 4), .arr (Aa+2) true 6 u9),((nL6.cell 5), .arr (Ae+2) true 7 v0)]⟩))):Abn t0 t2 t55 u0 u1 u2 u3 u4 u5 u6 u7 u8 u9 v0 K:=cR [0,2,6,9] h
theorem A27(t0:LB)(t2 u0:Int)(u1 u2:Int)(u3:LB)(u4 u5:Int)(u6:LB)(u7 u8:Int)(u9 v0:LL)(K:KK)(h:
 (Br (decide ((64:Int)≤t2))
 (K .ret ⟨[(6, .ptr nL6 0),(7,Ai 0),(8,Ai 9)],[(nL6, .blk Aa [Ai 0,Ai 0,Ai 0, .imm (.str []), .own (nL6.cell 4), .own (nL6.cell 5)]),((nL6.cell 4), .arr (Aa+2) true 6 []),((nL6.cell 5), .arr (Ae+2) true 7 [])]⟩)
 (Br (decide (u4=(4:Int)))
 (Call E0.P Arf [As t0,Ai u8,Ai (i64.wrap (t2+(1:Int)))] [] fun r0 g0=>
 Ag (qP2 g0 r0)
 (K .ret ⟨[(6, .ptr nL6 0),(7,Ai (rI (rT r0 1))),(8,Ai (rI (rT r0 2)))],[(nL6, .blk Aa [Ai (gI (Ac (rT r0 0)) 0),Ai (gI (Ac (rT r0 0)) 1),Ai (gI (Ac (rT r0 0)) 2),As (gS (Ac (rT r0 0)) 3),Al 6 (gR (Ac (rT r0 0)) 4),Al 7 (gR (Ac (rT r0 0)) 5)])]⟩))
 (Call E0.P Ard [As t0,Ai u8,Ai (i64.wrap (t2+(1:Int)))] [] fun r1 g1=>
 Ag (qP2 g1 r1)
 (K .ret ⟨[(6, .ptr nL6 0),(7,Ai (rI (rT r1 1))),(8,Ai (rI (rT r1 2)))],[(nL6, .blk Aa [Ai (gI (Ac (rT r1 0)) 0),Ai (gI (Ac (rT r1 0)) 1),Ai (gI (Ac (rT r1 0)) 2),As (gS (Ac (rT r1 0)) 3),Al 6 (gR (Ac (rT r1 0)) 4),Al 7 (gR (Ac (rT r1 0)) 5)])]⟩))))):Av4 t0 t2 u0 u1 u2 u3 u4 u5 u6 u7 u8 u9 v0 K:=cR [] h
theorem A7y(Q:QQ)(t7 t8:Int)(u0 u1 u2:Int)(u3:LB)(u4 u5:LL)(h:
 (Q (.tup [.imm (.agg [.int .i64 u0, .int .i64 u1, .int .i64 u2, .str u3, .sl .any 6 u4, .sl .any 7 u5]),Ai t7,Ai t8]) [])):Ad6 Q .ret ⟨[(6, .ptr nL6 0),(7,Ai t7),(8,Ai t8)],[(nL6, .blk Aa [Ai u0,Ai u1,Ai u2,As u3, .own (nL6.cell 4), .own (nL6.cell 5)]),((nL6.cell 4), .arr (Aa+2) true 6 u4),((nL6.cell 5), .arr (Ae+2) true 7 u5)]⟩:=kq h
theorem Apz(Q:QQ)(t7 t8:Int)(u0 u1 u2:Int)(u3:LB)(u4 u5:LL)(h:
 (Q (.tup [.imm (.agg [.int .i64 u0, .int .i64 u1, .int .i64 u2, .str u3, .sl .any 6 u4, .sl .any 7 u5]),Ai t7,Ai t8]) [])):Ad6 Q .ret ⟨[(6, .ptr nL6 0),(7,Ai t7),(8,Ai t8)],[(nL6, .blk Aa [Ai u0,Ai u1,Ai u2,As u3,Al 6 u4,Al 7 u5])]⟩:=kq h
theorem A7z(Q:QQ)(t7 t8:Int)(u0 u1 u2:Int)(u3:LB)(u4 u5:LL)(h:
 (Q (.tup [.imm (.agg [.int .i64 u0, .int .i64 u1, .int .i64 u2, .str u3, .sl .any 6 u4, .sl .any 7 u5]),Ai t7,Ai t8]) [])):X3 Q .ret ⟨[(6, .ptr nL6 0),(7,Ai t7),(8,Ai t8)],[(nL6, .blk Aa [Ai u0,Ai u1,Ai u2,As u3, .own (nL6.cell 4), .own (nL6.cell 5)]),((nL6.cell 4), .arr (Aa+2) true 6 u4),((nL6.cell 5), .arr (Ae+2) true 7 u5)]⟩:=kq h
theorem A70(Q:QQ)(t0:LB)(t2 u0:Int)(u1 u2:Int)(u3:LB)(u4 u5:Int)(u6:LB)(u7 u8:Int)(u9 v0:LL)(h:
 (Av4 t0 t2 u0 u1 u2 u3 u4 u5 u6 u7 u8 u9 v0 (Ad6 Q))):X3 Q .normal ⟨[(0,As t0),(2,Ai t2),(6, .ptr nL6 0),(9, .ptr Ip 0)],[(nL6, .blk Aa [Ai u0,Ai u1,Ai u2,As u3, .own (nL6.cell 4), .own (nL6.cell 5)]),(Ip, .blk Aq [Ai u4,Ai u5,As u6,Ai u7,Ai u8]),((nL6.cell 4), .arr (Aa+2) true 6 u9),((nL6.cell 5), .arr (Ae+2) true 7 v0)]⟩:=kq h
theorem Bkn:Bd E0.P 73 Ahw.code Ah6 [.cell 6 28, .tmp 7, .tmp 8]:=fq Tryz.func73
theorem Bd2(a0:LB)(a1 a2:Int)(Q:QQ)(h:
 (Call E0.P L8 [As a0,Ai a1] [] fun r0 g0=>
 Ag (qP3 g0 r0)
 (Br (!decide (rI (rT r0 1)=(0:Int)))
 (Q (.tup [.imm (.agg [.int .i64 0, .int .i64 0, .int .i64 0, .str [], .sl .any 6 [], .sl .any 7 []]),Ai 0,Ai (rI (rT r0 1))]) [])
 (Br (decide (gI (Ac (rT r0 0)) 0=(0:Int)))
 (Q (.tup [.imm (.agg [.int .i64 0, .int .i64 0, .int .i64 0, .str [], .sl .any 6 [], .sl .any 7 []]),Ai 0,Ai 5]) [])
 (Br (decide (gI (Ac (rT r0 0)) 0=(1:Int)))
 (Call E0.P Akb [As a0, .imm (.agg [.int .i64 (gI (Ac (rT r0 0)) 0), .int .i64 (gI (Ac (rT r0 0)) 1), .str (gS (Ac (rT r0 0)) 2), .int .i64 (gI (Ac (rT r0 0)) 3), .int .i64 (gI (Ac (rT r0 0)) 4)])] [] fun r1 g1=>
 Ag (qP2 g1 r1)
 (Q (.tup [.imm (.agg [.int .i64 (gI (Ac (rT r1 0)) 0), .int .i64 (gI (Ac (rT r1 0)) 1), .int .i64 (gI (Ac (rT r1 0)) 2), .str (gS (Ac (rT r1 0)) 3), .sl .any 6 (gR (Ac (rT r1 0)) 4), .sl .any 7 (gR (Ac (rT r1 0)) 5)]),Ai (rI (rT r1 1)),Ai (rI (rT r1 2))]) []))
 (Br (decide (gI (Ac (rT r0 0)) 0=(2:Int)))
 (Q (.tup [.imm (.agg [.int .i64 3, .int .i64 0, .int .i64 0, .str (gS (Ac (rT r0 0)) 2), .sl .any 6 [], .sl .any 7 []]),Ai (gI (Ac (rT r0 0)) 4),Ai 0]) [])
 (Br (decide (gI (Ac (rT r0 0)) 0=(3:Int)))
 (Q (.tup [.imm (.agg [.int .i64 4, .int .i64 0, .int .i64 0, .str (gS (Ac (rT r0 0)) 2), .sl .any 6 [], .sl .any 7 []]),Ai (gI (Ac (rT r0 0)) 4),Ai 0]) [])
 (Br (decide (gI (Ac (rT r0 0)) 0=(8:Int)))
 (Call E0.P Arh [.imm (.agg [.int .i64 (gI (Ac (rT r0 0)) 0), .int .i64 (gI (Ac (rT r0 0)) 1), .str (gS (Ac (rT r0 0)) 2), .int .i64 (gI (Ac (rT r0 0)) 3), .int .i64 (gI (Ac (rT r0 0)) 4)])] [] fun r2 g2=>
 Ag (qP2 g2 r2)
 (Q (.tup [.imm (.agg [.int .i64 (gI (Ac (rT r2 0)) 0), .int .i64 (gI (Ac (rT r2 0)) 1), .int .i64 (gI (Ac (rT r2 0)) 2), .str (gS (Ac (rT r2 0)) 3), .sl .any 6 (gR (Ac (rT r2 0)) 4), .sl .any 7 (gR (Ac (rT r2 0)) 5)]),Ai (rI (rT r2 1)),Ai (rI (rT r2 2))]) []))
 (Br (decide (gI (Ac (rT r0 0)) 0=(5:Int)))
 (Abn a0 a2 (decide (gI (Ac (rT r0 0)) 0=(5:Int))) ((0:Int)) ((0:Int)) ((0:Int)) [] (gI (Ac (rT r0 0)) 0) (gI (Ac (rT r0 0)) 1) (gS (Ac (rT r0 0)) 2) (gI (Ac (rT r0 0)) 3) (gI (Ac (rT r0 0)) 4) [] [] (X3 Q))
 (Abn a0 a2 (decide (gI (Ac (rT r0 0)) 0=(7:Int))) ((0:Int)) ((0:Int)) ((0:Int)) [] (gI (Ac (rT r0 0)) 0) (gI (Ac (rT r0 0)) 1) (gS (Ac (rT r0 0)) 2) (gI (Ac (rT r0 0)) 3) (gI (Ac (rT r0 0)) 4) [] [] (X3 Q))))))))))):Call E0.P Abf [As a0,Ai a1,Ai a2] [] Q:=fR 0 Bkn h
noncomputable def Bef:AC:=(A7 [] [4,5] (codeOf Tryz.f41) 0).1
abbrev Beo:Nat:=42
theorem Bez:Bd E0.P 41 Bef.code Beo [.cell 4 78, .tmp 5]:=fq Tryz.func41
theorem A6w(a0:LB)(a1:Int)(Q:QQ)(h:
 (Call E0.P Akd [As a0,Ai a1] [] fun r0 g0=>
 Ag (Pj g0 r0)
 (Br (decide (rI r0=(↑a0.length:Int)))
 (Q (.tup [.imm (.agg [.int .i64 0, .int .i64 0, .str [], .int .i64 (rI r0), .int .i64 (rI r0)]),Ai 0]) [])
 (Call E0.P Rw [.ptr Af 0] [(Af, .blk Ad [As a0,Ai (rI r0), .own Ar]),(Ar, .arr (Am+2) true 1 [])] fun r1 g1=>
 Ag (qP6 g1 r1)
 (Br (!decide (rI (rT r1 1)=(0:Int)))
 (Q (.tup [.imm (.agg [.int .i64 0, .int .i64 0, .str [], .int .i64 0, .int .i64 0]),Ai (rI (rT r1 1))]) [])
 (Q (.tup [.imm (.agg [.int .i64 (gI (Ac (rT r1 0)) 0), .int .i64 (gI (Ac (rT r1 0)) 1), .str (gS (Ac (rT r1 0)) 2), .int .i64 (rI r0), .int .i64 (rI ((Au g1 Af).getD 1 AV.undef))]),Ai 0]) [])))))):Call E0.P Qr [As a0,Ai a1] [] Q:=fR 0 Bez h
noncomputable def Bjp:AC:=(A7 [] [4,5] (codeOf Tryz.f43) 0).1
abbrev Bj6:Nat:=138
theorem Bke:Bd E0.P 43 Bjp.code Bj6 [.cell 4 78, .tmp 5]:=fq Tryz.func43
theorem Bdu(a0:LB)(a1:Int)(Q:QQ)(h:
 (Call E0.P Ara [As a0,Ai a1] [] fun r0 g0=>
 Ag (Pj g0 r0)
 (Br (decide (rI r0=(↑a0.length:Int)))
 (Q (.tup [.imm (.agg [.int .i64 0, .int .i64 0, .str [], .int .i64 (rI r0), .int .i64 (rI r0)]),Ai 0]) [])
 (Ag ((0:Int)≤rI r0∧
 (rI r0≤
 if i64.wrap (rI r0+(2:Int))<(↑a0.length:Int)then i64.wrap (rI r0+(2:Int))
 else(↑a0.length:Int))∧
 (if i64.wrap (rI r0+(2:Int))<(↑a0.length:Int)then i64.wrap (rI r0+(2:Int))
 else(↑a0.length:Int))≤
 (↑a0.length:Int))
 (Let (List.drop (rI r0).toNat
 (List.take
 (if i64.wrap (rI r0+(2:Int))<(↑a0.length:Int)then i64.wrap (rI r0+(2:Int))
 else(↑a0.length:Int)).toNat
 a0)) fun x1=>
 Ag ((0:Int)≤rI r0∧rI r0<(↑a0.length:Int))
 (Br (decide ((↑(a0.getD (rI r0).toNat 0).toNat:Int)=(91:Int)))
 (Q (.tup [.imm (.agg [.int .i64 4, .int .i64 0, .str [], .int .i64 (rI r0), .int .i64 (i64.wrap (rI r0+(1:Int)))]),Ai 0]) [])
 (Ag ((0:Int)≤rI r0∧rI r0<(↑a0.length:Int))
 (Br (decide ((↑(a0.getD (rI r0).toNat 0).toNat:Int)=(93:Int)))
 (Q (.tup [.imm (.agg [.int .i64 5, .int .i64 0, .str [], .int .i64 (rI r0), .int .i64 (i64.wrap (rI r0+(1:Int)))]),Ai 0]) [])
 (Br (x1 == [(60:UInt8),60])
 (Q (.tup [.imm (.agg [.int .i64 6, .int .i64 0, .str [], .int .i64 (rI r0), .int .i64 (i64.wrap (rI r0+(2:Int)))]),Ai 0]) [])
 (Br (x1 == [(62:UInt8),62])
 (Q (.tup [.imm (.agg [.int .i64 7, .int .i64 0, .str [], .int .i64 (rI r0), .int .i64 (i64.wrap (rI r0+(2:Int)))]),Ai 0]) [])
 (Ag ((0:Int)≤rI r0∧rI r0<(↑a0.length:Int))
 (Br (decide ((↑(a0.getD (rI r0).toNat 0).toNat:Int)=(47:Int)))
 (Call E0.P Arb [As a0,Ai (i64.wrap (rI r0+(1:Int)))] [] fun r2 g2=>
 Ag (qP7 g2 r2)
 (Call E0.P Abd [Ai 2,Ai (rI r0),As (rS (rT r2 0)),Ai (rI (rT r2 1)),Ai (rI (rT r2 2))] [] fun r3 g3=>
 Ag (qP3 g3 r3)
 (Q (.tup [.imm (.agg [.int .i64 (gI (Ac (rT r3 0)) 0), .int .i64 (gI (Ac (rT r3 0)) 1), .str (gS (Ac (rT r3 0)) 2), .int .i64 (gI (Ac (rT r3 0)) 3), .int .i64 (gI (Ac (rT r3 0)) 4)]),Ai (rI (rT r3 1))]) [])))
 (Ag ((0:Int)≤rI r0∧rI r0<(↑a0.length:Int))
 (Br (decide ((↑(a0.getD (rI r0).toNat 0).toNat:Int)=(40:Int)))
 (Call E0.P Aoj [As a0,Ai (i64.wrap (rI r0+(1:Int)))] [] fun r4 g4=>
 Ag (qP7 g4 r4)
 (Call E0.P Abd [Ai 3,Ai (rI r0),As (rS (rT r4 0)),Ai (rI (rT r4 1)),Ai (rI (rT r4 2))] [] fun r5 g5=>
 Ag (qP3 g5 r5)
 (Q (.tup [.imm (.agg [.int .i64 (gI (Ac (rT r5 0)) 0), .int .i64 (gI (Ac (rT r5 0)) 1), .str (gS (Ac (rT r5 0)) 2), .int .i64 (gI (Ac (rT r5 0)) 3), .int .i64 (gI (Ac (rT r5 0)) 4)]),Ai (rI (rT r5 1))]) [])))
 (Ag ((0:Int)≤rI r0∧rI r0<(↑a0.length:Int))
 (Br (decide ((↑(a0.getD (rI r0).toNat 0).toNat:Int)=(60:Int)))
 (Call E0.P Aus [As a0,Ai (i64.wrap (rI r0+(1:Int)))] [] fun r6 g6=>
 Ag (qP7 g6 r6)
 (Call E0.P Abd [Ai 3,Ai (rI r0),As (rS (rT r6 0)),Ai (rI (rT r6 1)),Ai (rI (rT r6 2))] [] fun r7 g7=>
 Ag (qP3 g7 r7)
 (Q (.tup [.imm (.agg [.int .i64 (gI (Ac (rT r7 0)) 0), .int .i64 (gI (Ac (rT r7 0)) 1), .str (gS (Ac (rT r7 0)) 2), .int .i64 (gI (Ac (rT r7 0)) 3), .int .i64 (gI (Ac (rT r7 0)) 4)]),Ai (rI (rT r7 1))]) [])))
 (Ag ((0:Int)≤rI r0∧rI r0<(↑a0.length:Int))
 (Call E0.P Og [.imm (.int .u8 ((↑(a0.getD (rI r0).toNat 0).toNat:Int)))] [] fun r8 g8=>
 Ag (Pj g8 r8)
 (Br (decide (rI r8=(1:Int)))
 (Q (.tup [.imm (.agg [.int .i64 0, .int .i64 0, .str [], .int .i64 0, .int .i64 0]),Ai 4]) [])
 (Call E0.P Arc [As a0,Ai (rI r0)] [] fun r9 g9=>
 Ag (qP3 g9 r9)
 (Q (.tup [.imm (.agg [.int .i64 (gI (Ac (rT r9 0)) 0), .int .i64 (gI (Ac (rT r9 0)) 1), .str (gS (Ac (rT r9 0)) 2), .int .i64 (gI (Ac (rT r9 0)) 3), .int .i64 (gI (Ac (rT r9 0)) 4)]),Ai (rI (rT r9 1))]) []))))))))))))))))))))):Call E0.P L8 [As a0,Ai a1] [] Q:=fR 0 Bke h
noncomputable def Aer:AC:=(A7 [(3,[2,4,5],[])] [2,3] (codeOf Tryz.f132) 0).1
abbrev Afp:Nat:=20
def Mo(t5 u0 u1:Int)(u2:LB)(u3 u4:Int)(u5 u6:Int)(u7:LB)(u8 u9:Int)(v0:LB)(v1 v2:Int)(K:KK):Prop:=Ao 3 E0.P Afp (Ah 3 Aer).code ⟨[(2, .ptr nL2 0),(4, .ptr nL4 0),(5,Ai t5)],[(nL2, .blk Aq [Ai u0,Ai u1,As u2,Ai u3,Ai u4]),(nL4, .blk Aq [Ai u5,Ai u6,As u7,Ai u8,Ai u9]),(Af, .blk Ap [As v0,Ai v1,Ai v2])]⟩ K
def Mt(s:LB)(at_ win:Int)(Q:QQ):KK:=kE fun st=>finish 0 E0.T [.cell 2 78, .tmp 3] [(Af, .blk Ap [As s,Ai at_,Ai win])] Q st
theorem Amh(t5 u0 u1:Int)(u2:LB)(u3 u4:Int)(u5 u6:Int)(u7:LB)(u8 u9:Int)(v0:LB)(v1 v2:Int)(K:KK)(h:
 (K .ret ⟨[(2, .ptr nL2 0),(3,Ai t5)],[(nL2, .blk Aq [Ai u5,Ai u6,As u7,Ai u8,Ai u9]),(Af, .blk Ap [As v0,Ai v1,Ai v2])]⟩)):Mo t5 u0 u1 u2 u3 u4 u5 u6 u7 u8 u9 v0 v1 v2 K:=cR [] h
theorem Amw(s:LB)(at_ win:Int)(Q:QQ)(t3 u0 u1:Int)(u2:LB)(u3 u4:Int)(u5:LB)(u6 u7:Int)(h:
 (Q (.tup [.imm (.agg [.int .i64 u0, .int .i64 u1, .str u2, .int .i64 u3, .int .i64 u4]),Ai t3]) [(Af, .blk Ap [As u5,Ai u6,Ai u7])])):Mt s at_ win Q .ret ⟨[(2, .ptr nL2 0),(3,Ai t3)],[(nL2, .blk Aq [Ai u0,Ai u1,As u2,Ai u3,Ai u4]),(Af, .blk Ap [As u5,Ai u6,Ai u7])]⟩:=kq h
theorem Au7:Bd E0.P 132 Aer.code Afp [.cell 2 78, .tmp 3]:=fq Tryz.func132
theorem Aqm(s:LB)(at_ win:Int)(Q:QQ)(h:
 (Call E0.P Qr [As s,Ai at_] [] fun r0 g0=>
 Ag (qP3 g0 r0)
 (Br (decide (rI (rT r0 1)=(0:Int)))
 (Mo (rI (rT r0 1)) ((0:Int)) ((0:Int)) [] ((0:Int)) ((0:Int)) (gI (Ac (rT r0 0)) 0) (gI (Ac (rT r0 0)) 1) (gS (Ac (rT r0 0)) 2) (gI (Ac (rT r0 0)) 3) (gI (Ac (rT r0 0)) 4) s (gI (Ac (rT r0 0)) 4) win (Mt s at_ win Q))
 (Mo (rI (rT r0 1)) ((0:Int)) ((0:Int)) [] ((0:Int)) ((0:Int)) (gI (Ac (rT r0 0)) 0) (gI (Ac (rT r0 0)) 1) (gS (Ac (rT r0 0)) 2) (gI (Ac (rT r0 0)) 3) (gI (Ac (rT r0 0)) 4) s at_ win (Mt s at_ win Q))))):Call E0.P F9 [.ptr (.arg 0) 0] [(.arg 0, .blk Ap [.imm (.str s), .imm (.int .i64 at_), .imm (.int .i64 win)])] Q:=fR 0 Au7 h
noncomputable def Aq1:AC:=(A7 [] [4,5] (codeOf Tryz.f133) 0).1
abbrev Arl:Nat:=39
theorem Arm:Bd E0.P 133 Aq1.code Arl [.cell 4 28, .tmp 5]:=fq Tryz.func133
theorem Xw(s:LB)(at_ win a1:Int)(Q:QQ)(h:
 (Call E0.P N9 [.ptr Af 0] [(Af, .blk Ap [As s,Ai at_,Ai win])] fun r0 g0=>
 Ag (g0=
 [(Nm.arg 0,
 Entry.blk 127
 [.imm (.str (rS ((Au g0 Af).getD 0 AV.undef))),
 .imm (.int .i64 (rI ((Au g0 Af).getD 1 AV.undef))),
 .imm (.int .i64 (rI ((Au g0 Af).getD 2 AV.undef)))])]∧
 r0= .tup [.imm (.int .i64 (rI (rT r0 0))), .imm (.bool (rB (rT r0 1)))])
 (Br (!rB (rT r0 1))
 (Q (.tup [.imm (.agg [.int .i64 2, .int .i64 a1, .int .i64 0, .str [], .sl .any 6 [], .sl .any 7 []]),Ai 0]) [(Af, .blk Ap [.imm (.str (rS ((Au g0 Af).getD 0 AV.undef))), .imm (.int .i64 (rI ((Au g0 Af).getD 1 AV.undef))), .imm (.int .i64 (rI ((Au g0 Af).getD 2 AV.undef)))])])
 (Let (bif decide (a1<(1:Int))then true else decide ((8388607:Int)<a1)) fun x1=>
 Let (bif x1 then true else decide (rI (rT r0 0)<(0:Int))) fun x2=>
 Let (bif x2 then true else decide ((65535:Int)<rI (rT r0 0))) fun x3=>
 Br (x3)
 (Q (.tup [.imm (.agg [.int .i64 0, .int .i64 0, .int .i64 0, .str [], .sl .any 6 [], .sl .any 7 []]),Ai 3]) [(Af, .blk Ap [.imm (.str (rS ((Au g0 Af).getD 0 AV.undef))), .imm (.int .i64 (rI ((Au g0 Af).getD 1 AV.undef))), .imm (.int .i64 (rI ((Au g0 Af).getD 2 AV.undef)))])])
 (Q (.tup [.imm (.agg [.int .i64 7, .int .i64 a1, .int .i64 (rI (rT r0 0)), .str [], .sl .any 6 [], .sl .any 7 []]),Ai 0]) [(Af, .blk Ap [.imm (.str (rS ((Au g0 Af).getD 0 AV.undef))), .imm (.int .i64 (rI ((Au g0 Af).getD 1 AV.undef))), .imm (.int .i64 (rI ((Au g0 Af).getD 2 AV.undef)))])]))))):Call E0.P Rv [.ptr (.arg 0) 0,Ai a1] [(.arg 0, .blk Ap [.imm (.str s), .imm (.int .i64 at_), .imm (.int .i64 win)])] Q:=fR 0 Arm h
noncomputable def Bed:AC:=(A7 [] [2,3] (codeOf Tryz.f134) 0).1
abbrev Bem:Nat:=17
theorem Bew:Bd E0.P 134 Bed.code Bem [.cell 2 28, .tmp 3]:=fq Tryz.func134
theorem A6u(a0:LB)(Q:QQ)(h:
 (Br (a0 == [(116:UInt8),114,117,101])
 (Q (.tup [.imm (.agg [.int .i64 1, .int .i64 1, .int .i64 0, .str [], .sl .any 6 [], .sl .any 7 []]),Ai 0]) [])
 (Br (a0 == [(102:UInt8),97,108,115,101])
 (Q (.tup [.imm (.agg [.int .i64 1, .int .i64 0, .int .i64 0, .str [], .sl .any 6 [], .sl .any 7 []]),Ai 0]) [])
 (Br (a0 == [(110:UInt8),117,108,108])
 (Q (.tup [.imm (.agg [.int .i64 0, .int .i64 0, .int .i64 0, .str [], .sl .any 6 [], .sl .any 7 []]),Ai 0]) [])
 (Q (.tup [.imm (.agg [.int .i64 0, .int .i64 0, .int .i64 0, .str [], .sl .any 6 [], .sl .any 7 []]),Ai 4]) []))))):Call E0.P Aka [As a0] [] Q:=fR 0 Bew h
noncomputable def F8:AC:=(A7 [(1,[0,2,4],[]),(4,[0,2,4],[]),(10,[2,4],[]),(16,[2,4],[])] [2,3] (codeOf Tryz.f136) 0).1
abbrev Ga:Nat:=49
def I4(u0:LB)(u1 u2:Int)(u3 u4 u5:Int)(u6:LB)(u7 u8 u9:Int)(v0:LB)(v1 v2:LL)(v3 v4:LL)(K:KK):Prop:=Ba 4 E0.P Ga (A9 4 F8).code ⟨[(0, .ptr Af 0),(2, .ptr nL2 0),(4, .ptr nL4 0)],[(Af, .blk Ap [As u0,Ai u1,Ai u2]),(nL2, .blk Aa [Ai u3,Ai u4,Ai u5,As u6, .own (nL2.cell 4), .own (nL2.cell 5)]),(nL4, .blk Aa [Ai u7,Ai u8,Ai u9,As v0, .own (nL4.cell 4), .own (nL4.cell 5)]),((nL2.cell 4), .arr (Aa+2) true 6 v1),((nL2.cell 5), .arr (Ae+2) true 7 v2),((nL4.cell 4), .arr (Aa+2) true 6 v3),((nL4.cell 5), .arr (Ae+2) true 7 v4)]⟩ K
def Aaw(u0 u1 u2:Int)(u3:LB)(u4 u5 u6:Int)(u7 u8:LB)(u9 v0:Int)(v1 v2:LL)(v3 v4:LL)(K:KK):Prop:=Ao 16 E0.P Ga (Ah 16 F8).code ⟨[(2, .ptr nL2 0),(4, .ptr nL4 0)],[(nL2, .blk Aa [Ai u0,Ai u1,Ai u2,As u3, .own (nL2.cell 4), .own (nL2.cell 5)]),(nL4, .blk Aa [Ai u4,Ai u5,Ai u6,As u7, .own (nL4.cell 4), .own (nL4.cell 5)]),(Af, .blk Ap [As u8,Ai u9,Ai v0]),((nL2.cell 4), .arr (Aa+2) true 6 v1),((nL2.cell 5), .arr (Ae+2) true 7 v2),((nL4.cell 4), .arr (Aa+2) true 6 v3),((nL4.cell 5), .arr (Ae+2) true 7 v4)]⟩ K
def Ac9(s:LB)(at_ win:Int)(Q:QQ):KK:=kE fun st=>finish 0 E0.T [.cell 2 28, .tmp 3] [(Af, .blk Ap [As s,Ai at_,Ai win])] Q st
def Mw(s:LB)(at_ win:Int)(Q:QQ):Ex→St→Prop
 | .normal,st=>finish 0 E0.T [.cell 2 28, .tmp 3] [(Af, .blk Ap [As s,Ai at_,Ai win])] Q st
 | .exit _,_=>False
 | .goto i,st=>I6 1 E0.P Ga i (J8 1 F8).code (mask [0,2,4] st) (Ac9 s at_ win Q)
 | .ret,st=>finish 0 E0.T [.cell 2 28, .tmp 3] [(Af, .blk Ap [As s,Ai at_,Ai win])] Q st
def Iy(s:LB)(at_ win:Int)(Q:QQ):Ex→St→Prop
 | .normal,st=>Ao 16 E0.P Ga (Ah 16 F8).code (mask [2,4] st) (Mw s at_ win Q)
 | .exit i,st=>(match (i.beq 0:Bool)with
 |true=>Ao 16 E0.P Ga (Ah 16 F8).code (mask [2,4] st) (Mw s at_ win Q)
 |false=>False)
 | .goto i,st=>I6 1 E0.P Ga i (J8 1 F8).code (mask [0,2,4] st) (Ac9 s at_ win Q)
 | .ret,st=>finish 0 E0.T [.cell 2 28, .tmp 3] [(Af, .blk Ap [As s,Ai at_,Ai win])] Q st
theorem Anx(u0:LB)(u1 u2:Int)(u3 u4 u5:Int)(u6:LB)(u7 u8 u9:Int)(v0:LB)(v1 v2:LL)(v3 v4:LL)(K:KK)(h:
 (Call E0.P Qr [As u0,Ai u1] [] fun r0 g0=>
 Ag (qP3 g0 r0)
 (Br (!decide (rI (rT r0 1)=(0:Int)))
 (K .ret ⟨[(2, .ptr nL2 0),(3,Ai (rI (rT r0 1)))],[(nL2, .blk Aa [Ai 0,Ai 0,Ai 0, .imm (.str []), .own (Nm.sub 20 (nL2.cell 4)), .own (Nm.sub 20 (nL2.cell 5))]),(Af, .blk Ap [As u0,Ai u1,Ai u2]),((Nm.sub 20 (nL2.cell 4)), .arr (Aa+2) true 6 []),((Nm.sub 20 (nL2.cell 5)), .arr (Ae+2) true 7 [])]⟩)
 (Br (decide (gI (Ac (rT r0 0)) 0=(5:Int)))
 (Call E0.P F9 [.ptr Af 0] [(Af, .blk Ap [As u0,Ai u1,Ai u2])] fun r1 g1=>
 Ag (qP4 g1 r1)
 (K (.exit 0) ⟨[(2, .ptr nL2 0),(4, .ptr nL4 0)],[(nL2, .blk Aa [Ai u3,Ai u4,Ai u5,As u6, .own (nL2.cell 4), .own (nL2.cell 5)]),(nL4, .blk Aa [Ai u7,Ai u8,Ai u9,As v0, .own (nL4.cell 4), .own (nL4.cell 5)]),(Af, .blk Ap [.imm (.str (rS ((Au g1 Af).getD 0 AV.undef))), .imm (.int .i64 (rI ((Au g1 Af).getD 1 AV.undef))), .imm (.int .i64 (rI ((Au g1 Af).getD 2 AV.undef)))]),((nL2.cell 4), .arr (Aa+2) true 6 v1),((nL2.cell 5), .arr (Ae+2) true 7 v2),((nL4.cell 4), .arr (Aa+2) true 6 v3),((nL4.cell 5), .arr (Ae+2) true 7 v4)]⟩))
 (Call E0.P I9 [.ptr Af 0] [(Af, .blk Ap [As u0,Ai u1,Ai u2])] fun r2 g2=>
 Ag (qP0 g2 r2)
 (Br (!decide (rI (rT r2 1)=(0:Int)))
 (K .ret ⟨[(2, .ptr nL2 0),(3,Ai (rI (rT r2 1)))],[(nL2, .blk Aa [Ai 0,Ai 0,Ai 0, .imm (.str []), .own (Nm.sub 39 (nL2.cell 4)), .own (Nm.sub 39 (nL2.cell 5))]),(Af, .blk Ap [.imm (.str (rS ((Au g2 Af).getD 0 AV.undef))), .imm (.int .i64 (rI ((Au g2 Af).getD 1 AV.undef))), .imm (.int .i64 (rI ((Au g2 Af).getD 2 AV.undef)))]),((Nm.sub 39 (nL2.cell 4)), .arr (Aa+2) true 6 []),((Nm.sub 39 (nL2.cell 5)), .arr (Ae+2) true 7 [])]⟩)
 (Ag ((v3.length+1)*88≤140737488355328∧v3.length+1≤140737488355328)
 (I4 (rS ((Au g2 Af).getD 0 AV.undef)) (rI ((Au g2 Af).getD 1 AV.undef)) (rI ((Au g2 Af).getD 2 AV.undef)) u3 u4 u5 u6 u7 u8 u9 v0 v1 v2 (v3++
 [[IV.int .i64 (gI (Ac (rT r2 0)) 0),
 .int .i64 (gI (Ac (rT r2 0)) 1),
 .int .i64 (gI (Ac (rT r2 0)) 2), .str (gS (Ac (rT r2 0)) 3),
 .sl SK.any 6 (gR (Ac (rT r2 0)) 4),
 .sl SK.any 7 (gR (Ac (rT r2 0)) 5)]]) v4 K)))))))):I4 u0 u1 u2 u3 u4 u5 u6 u7 u8 u9 v0 v1 v2 v3 v4 K:=lR [0,2,4] h
theorem Ak6(u0 u1 u2:Int)(u3:LB)(u4 u5 u6:Int)(u7 u8:LB)(u9 v0:Int)(v1 v2:LL)(v3 v4:LL)(K:KK)(h:
 (K .ret ⟨[(2, .ptr nL2 0),(3,Ai 0)],[(nL2, .blk Aa [Ai u4,Ai u5,Ai u6,As u7, .own (nL4.cell 4), .own (nL4.cell 5)]),(Af, .blk Ap [As u8,Ai u9,Ai v0]),((nL4.cell 4), .arr (Aa+2) true 6 v3),((nL4.cell 5), .arr (Ae+2) true 7 v4)]⟩)):Aaw u0 u1 u2 u3 u4 u5 u6 u7 u8 u9 v0 v1 v2 v3 v4 K:=cR [] h
theorem Am1(s:LB)(at_ win:Int)(Q:QQ)(t3 u0:Int)(u1 u2:Int)(u3 u4:LB)(u5 u6:Int)(u7 u8:LL)(h:
 (Q (.tup [.imm (.agg [.int .i64 u0, .int .i64 u1, .int .i64 u2, .str u3, .sl .any 6 u7, .sl .any 7 u8]),Ai t3]) [(Af, .blk Ap [As u4,Ai u5,Ai u6])])):Mw s at_ win Q .ret ⟨[(2, .ptr nL2 0),(3,Ai t3)],[(nL2, .blk Aa [Ai u0,Ai u1,Ai u2,As u3, .own (nL4.cell 4), .own (nL4.cell 5)]),(Af, .blk Ap [As u4,Ai u5,Ai u6]),((nL4.cell 4), .arr (Aa+2) true 6 u7),((nL4.cell 5), .arr (Ae+2) true 7 u8)]⟩:=kq h
theorem Am2(s:LB)(at_ win:Int)(Q:QQ)(t3 u0:Int)(u1 u2:Int)(u3 u4:LB)(u5 u6:Int)(u7 u8:LL)(h:
 (Q (.tup [.imm (.agg [.int .i64 u0, .int .i64 u1, .int .i64 u2, .str u3, .sl .any 6 u7, .sl .any 7 u8]),Ai t3]) [(Af, .blk Ap [As u4,Ai u5,Ai u6])])):Iy s at_ win Q .ret ⟨[(2, .ptr nL2 0),(3,Ai t3)],[(nL2, .blk Aa [Ai u0,Ai u1,Ai u2,As u3, .own (Nm.sub 20 (nL2.cell 4)), .own (Nm.sub 20 (nL2.cell 5))]),(Af, .blk Ap [As u4,Ai u5,Ai u6]),((Nm.sub 20 (nL2.cell 4)), .arr (Aa+2) true 6 u7),((Nm.sub 20 (nL2.cell 5)), .arr (Ae+2) true 7 u8)]⟩:=kq h
theorem Am3(s:LB)(at_ win:Int)(Q:QQ)(u0 u1 u2:Int)(u3:LB)(u4 u5 u6:Int)(u7 u8:LB)(u9 v0:Int)(v1 v2:LL)(v3 v4:LL)(h:
 (Aaw u0 u1 u2 u3 u4 u5 u6 u7 u8 u9 v0 v1 v2 v3 v4 (Mw s at_ win Q))):Iy s at_ win Q (.exit 0) ⟨[(2, .ptr nL2 0),(4, .ptr nL4 0)],[(nL2, .blk Aa [Ai u0,Ai u1,Ai u2,As u3, .own (nL2.cell 4), .own (nL2.cell 5)]),(nL4, .blk Aa [Ai u4,Ai u5,Ai u6,As u7, .own (nL4.cell 4), .own (nL4.cell 5)]),(Af, .blk Ap [As u8,Ai u9,Ai v0]),((nL2.cell 4), .arr (Aa+2) true 6 v1),((nL2.cell 5), .arr (Ae+2) true 7 v2),((nL4.cell 4), .arr (Aa+2) true 6 v3),((nL4.cell 5), .arr (Ae+2) true 7 v4)]⟩:=kq h
theorem Am4(s:LB)(at_ win:Int)(Q:QQ)(t3 u0:Int)(u1 u2:Int)(u3 u4:LB)(u5 u6:Int)(u7 u8:LL)(h:
 (Q (.tup [.imm (.agg [.int .i64 u0, .int .i64 u1, .int .i64 u2, .str u3, .sl .any 6 u7, .sl .any 7 u8]),Ai t3]) [(Af, .blk Ap [As u4,Ai u5,Ai u6])])):Iy s at_ win Q .ret ⟨[(2, .ptr nL2 0),(3,Ai t3)],[(nL2, .blk Aa [Ai u0,Ai u1,Ai u2,As u3, .own (Nm.sub 39 (nL2.cell 4)), .own (Nm.sub 39 (nL2.cell 5))]),(Af, .blk Ap [As u4,Ai u5,Ai u6]),((Nm.sub 39 (nL2.cell 4)), .arr (Aa+2) true 6 u7),((Nm.sub 39 (nL2.cell 5)), .arr (Ae+2) true 7 u8)]⟩:=kq h
theorem Ava:Bd E0.P 136 F8.code Ga [.cell 2 28, .tmp 3]:=fq Tryz.func136
theorem Aqo(s:LB)(at_ win:Int)(Q:QQ)(h:
 (I4 s at_ win ((0:Int)) ((0:Int)) ((0:Int)) [] ((5:Int)) ((0:Int)) ((0:Int)) [] [] [] [] [] (Iy s at_ win Q))):Call E0.P U9 [.ptr (.arg 0) 0] [(.arg 0, .blk Ap [.imm (.str s), .imm (.int .i64 at_), .imm (.int .i64 win)])] Q:=fR 0 Ava h
noncomputable def Aes:AC:=(A7 [(3,[0,2,4,5],[])] [2,3] (codeOf Tryz.f137) 0).1
abbrev Afq:Nat:=47
def I1(u0:LB)(u1 u2:Int)(u3 u4 u5:Int)(u6:LB)(u7 u8 u9:Int)(v0:LB)(v1:List (List UInt8 × Int))(v2 v3:LL)(v4 v5:LL)(K:KK):Prop:=Ba 3 E0.P Afq (A9 3 Aes).code ⟨[(0, .ptr Af 0),(2, .ptr nL2 0),(4, .ptr nL4 0),(5, .mp Qi)],[(Af, .blk Ap [As u0,Ai u1,Ai u2]),(nL2, .blk Aa [Ai u3,Ai u4,Ai u5,As u6, .own (nL2.cell 4), .own (nL2.cell 5)]),(nL4, .blk Aa [Ai u7,Ai u8,Ai u9,As v0, .own (nL4.cell 4), .own (nL4.cell 5)]),(Qi, .map v1),((nL2.cell 4), .arr (Aa+2) true 6 v2),((nL2.cell 5), .arr (Ae+2) true 7 v3),((nL4.cell 4), .arr (Aa+2) true 6 v4),((nL4.cell 5), .arr (Ae+2) true 7 v5)]⟩ K
def G6(s:LB)(at_ win:Int)(Q:QQ):KK:=kF 0 (fun st=>finish 0 E0.T [.cell 2 28, .tmp 3] [(Af, .blk Ap [As s,Ai at_,Ai win])] Q st) fun st=>finish 0 E0.T [.cell 2 28, .tmp 3] [(Af, .blk Ap [As s,Ai at_,Ai win])] Q st
theorem Anw(u0:LB)(u1 u2:Int)(u3 u4 u5:Int)(u6:LB)(u7 u8 u9:Int)(v0:LB)(v1:List (List UInt8 × Int))(v2 v3:LL)(v4 v5:LL)(K:KK)(h:
 (Call E0.P Wj [.ptr Af 0, .mp Ar] [(Af, .blk Ap [As u0,Ai u1,Ai u2]),(Ar, .map v1)] fun r0 g0=>
 Ag (g0=
 [(Nm.arg 0,
 Entry.blk 127
 [.imm (.str (rS ((Au g0 Af).getD 0 AV.undef))),
 .imm (.int .i64 (rI ((Au g0 Af).getD 1 AV.undef))),
 .imm (.int .i64 (rI ((Au g0 Af).getD 2 AV.undef)))]),
 (Nm.arg 1,Entry.map (mapOf g0 Ar))]∧
 r0=
 .tup
 [.imm (.str (rS (rT r0 0))), .imm (.bool (rB (rT r0 1))),
 .imm (.int .i64 (rI (rT r0 2)))])
 (Br (!decide (rI (rT r0 2)=(0:Int)))
 (K .ret ⟨[(2, .ptr nL2 0),(3,Ai (rI (rT r0 2)))],[(nL2, .blk Aa [Ai 0,Ai 0,Ai 0, .imm (.str []), .own (Nm.sub 22 (nL2.cell 4)), .own (Nm.sub 22 (nL2.cell 5))]),(Af, .blk Ap [.imm (.str (rS ((Au g0 Af).getD 0 AV.undef))), .imm (.int .i64 (rI ((Au g0 Af).getD 1 AV.undef))), .imm (.int .i64 (rI ((Au g0 Af).getD 2 AV.undef)))]),((Nm.sub 22 (nL2.cell 4)), .arr (Aa+2) true 6 []),((Nm.sub 22 (nL2.cell 5)), .arr (Ae+2) true 7 [])]⟩)
 (Br (!rB (rT r0 1))
 (K .ret ⟨[(2, .ptr nL2 0),(3,Ai 0)],[(nL2, .blk Aa [Ai u7,Ai u8,Ai u9,As v0, .own (nL4.cell 4), .own (nL4.cell 5)]),(Af, .blk Ap [.imm (.str (rS ((Au g0 Af).getD 0 AV.undef))), .imm (.int .i64 (rI ((Au g0 Af).getD 1 AV.undef))), .imm (.int .i64 (rI ((Au g0 Af).getD 2 AV.undef)))]),((nL4.cell 4), .arr (Aa+2) true 6 v4),((nL4.cell 5), .arr (Ae+2) true 7 v5)]⟩)
 (Call E0.P I9 [.ptr Af 0] [(Af, .blk Ap [.imm (.str (rS ((Au g0 Af).getD 0 AV.undef))), .imm (.int .i64 (rI ((Au g0 Af).getD 1 AV.undef))), .imm (.int .i64 (rI ((Au g0 Af).getD 2 AV.undef)))])] fun r1 g1=>
 Ag (qP0 g1 r1)
 (Br (!decide (rI (rT r1 1)=(0:Int)))
 (K .ret ⟨[(2, .ptr nL2 0),(3,Ai (rI (rT r1 1)))],[(nL2, .blk Aa [Ai 0,Ai 0,Ai 0, .imm (.str []), .own (Nm.sub 36 (nL2.cell 4)), .own (Nm.sub 36 (nL2.cell 5))]),(Af, .blk Ap [.imm (.str (rS ((Au g1 Af).getD 0 AV.undef))), .imm (.int .i64 (rI ((Au g1 Af).getD 1 AV.undef))), .imm (.int .i64 (rI ((Au g1 Af).getD 2 AV.undef)))]),((Nm.sub 36 (nL2.cell 4)), .arr (Aa+2) true 6 []),((Nm.sub 36 (nL2.cell 5)), .arr (Ae+2) true 7 [])]⟩)
 (Ag ((v5.length+1)*104≤140737488355328∧v5.length+1≤140737488355328)
 (I1 (rS ((Au g1 Af).getD 0 AV.undef)) (rI ((Au g1 Af).getD 1 AV.undef)) (rI ((Au g1 Af).getD 2 AV.undef)) u3 u4 u5 u6 u7 u8 u9 v0 (mapOf g0 Ar) v2 v3 v4 (v5++
 [[IV.str (rS (rT r0 0)), .int .i64 (gI (Ac (rT r1 0)) 0),
 .int .i64 (gI (Ac (rT r1 0)) 1),
 .int .i64 (gI (Ac (rT r1 0)) 2), .str (gS (Ac (rT r1 0)) 3),
 .sl SK.any 6 (gR (Ac (rT r1 0)) 4),
 .sl SK.any 7 (gR (Ac (rT r1 0)) 5)]]) K)))))))):I1 u0 u1 u2 u3 u4 u5 u6 u7 u8 u9 v0 v1 v2 v3 v4 v5 K:=lR [0,2,4,5] h
theorem Amx(s:LB)(at_ win:Int)(Q:QQ)(t3 u0:Int)(u1 u2:Int)(u3 u4:LB)(u5 u6:Int)(u7 u8:LL)(h:
 (Q (.tup [.imm (.agg [.int .i64 u0, .int .i64 u1, .int .i64 u2, .str u3, .sl .any 6 u7, .sl .any 7 u8]),Ai t3]) [(Af, .blk Ap [As u4,Ai u5,Ai u6])])):G6 s at_ win Q .ret ⟨[(2, .ptr nL2 0),(3,Ai t3)],[(nL2, .blk Aa [Ai u0,Ai u1,Ai u2,As u3, .own (Nm.sub 22 (nL2.cell 4)), .own (Nm.sub 22 (nL2.cell 5))]),(Af, .blk Ap [As u4,Ai u5,Ai u6]),((Nm.sub 22 (nL2.cell 4)), .arr (Aa+2) true 6 u7),((Nm.sub 22 (nL2.cell 5)), .arr (Ae+2) true 7 u8)]⟩:=kq h
theorem Amy(s:LB)(at_ win:Int)(Q:QQ)(t3 u0:Int)(u1 u2:Int)(u3 u4:LB)(u5 u6:Int)(u7 u8:LL)(h:
 (Q (.tup [.imm (.agg [.int .i64 u0, .int .i64 u1, .int .i64 u2, .str u3, .sl .any 6 u7, .sl .any 7 u8]),Ai t3]) [(Af, .blk Ap [As u4,Ai u5,Ai u6])])):G6 s at_ win Q .ret ⟨[(2, .ptr nL2 0),(3,Ai t3)],[(nL2, .blk Aa [Ai u0,Ai u1,Ai u2,As u3, .own (nL4.cell 4), .own (nL4.cell 5)]),(Af, .blk Ap [As u4,Ai u5,Ai u6]),((nL4.cell 4), .arr (Aa+2) true 6 u7),((nL4.cell 5), .arr (Ae+2) true 7 u8)]⟩:=kq h
theorem Amz(s:LB)(at_ win:Int)(Q:QQ)(t3 u0:Int)(u1 u2:Int)(u3 u4:LB)(u5 u6:Int)(u7 u8:LL)(h:
 (Q (.tup [.imm (.agg [.int .i64 u0, .int .i64 u1, .int .i64 u2, .str u3, .sl .any 6 u7, .sl .any 7 u8]),Ai t3]) [(Af, .blk Ap [As u4,Ai u5,Ai u6])])):G6 s at_ win Q .ret ⟨[(2, .ptr nL2 0),(3,Ai t3)],[(nL2, .blk Aa [Ai u0,Ai u1,Ai u2,As u3, .own (Nm.sub 36 (nL2.cell 4)), .own (Nm.sub 36 (nL2.cell 5))]),(Af, .blk Ap [As u4,Ai u5,Ai u6]),((Nm.sub 36 (nL2.cell 4)), .arr (Aa+2) true 6 u7),((Nm.sub 36 (nL2.cell 5)), .arr (Ae+2) true 7 u8)]⟩:=kq h
theorem Au8:Bd E0.P 137 Aes.code Afq [.cell 2 28, .tmp 3]:=fq Tryz.func137
theorem Aqn(s:LB)(at_ win:Int)(Q:QQ)(h:
 (I1 s at_ win ((0:Int)) ((0:Int)) ((0:Int)) [] ((6:Int)) ((0:Int)) ((0:Int)) [] [] [] [] [] [] (G6 s at_ win Q))):Call E0.P U8 [.ptr (.arg 0) 0] [(.arg 0, .blk Ap [.imm (.str s), .imm (.int .i64 at_), .imm (.int .i64 win)])] Q:=fR 0 Au8 h
noncomputable def Bee:AC:=(A7 [] [4,5,6] (codeOf Tryz.f104) 0).1
abbrev Ben:Nat:=45
theorem Bex:Bd E0.P 104 Bee.code Ben [.cell 4 28, .tmp 5, .tmp 6]:=fq Tryz.func104
theorem Apt(a0:LB)(a1_0 a1_1:Int)(a1_2:LB)(a1_3 a1_4:Int)(Q:QQ)(h:
 (Call E0.P Ah1 [As a0, .imm (.agg [.int .i64 a1_0, .int .i64 a1_1, .str a1_2, .int .i64 a1_3, .int .i64 a1_4])] [] fun r0 g0=>
 Ag (g0=[]∧
 r0=
 .tup
 [.imm
 (IV.agg
 [.int .i64 (gI (Ac (rT r0 0)) 0),
 .int .i64 (gI (Ac (rT r0 0)) 1),
 .int .i64 (gI (Ac (rT r0 0)) 2),
 .str (gS (Ac (rT r0 0)) 3),
 .sl SK.any 6 (gR (Ac (rT r0 0)) 4),
 .sl SK.any 7 (gR (Ac (rT r0 0)) 5)]),
 .imm (.int .i64 (rI (rT r0 1))), .imm (.bool (rB (rT r0 2)))])
 (Br (!rB (rT r0 2))
 (Q (.tup [.imm (.agg [.int .i64 2, .int .i64 a1_1, .int .i64 0, .str [], .sl .any 6 [], .sl .any 7 []]),Ai a1_4,Ai 0]) [])
 (Let (bif decide (gI (Ac (rT r0 0)) 1<(1:Int))then true
 else decide ((8388607:Int)<gI (Ac (rT r0 0)) 1)) fun x1=>
 Let (bif x1 then true else decide (gI (Ac (rT r0 0)) 2<(0:Int))) fun x2=>
 Let (bif x2 then true else decide ((65535:Int)<gI (Ac (rT r0 0)) 2)) fun x3=>
 Br (x3)
 (Q (.tup [.imm (.agg [.int .i64 0, .int .i64 0, .int .i64 0, .str [], .sl .any 6 [], .sl .any 7 []]),Ai 0,Ai 3]) [])
 (Q (.tup [.imm (.agg [.int .i64 (gI (Ac (rT r0 0)) 0), .int .i64 (gI (Ac (rT r0 0)) 1), .int .i64 (gI (Ac (rT r0 0)) 2), .str (gS (Ac (rT r0 0)) 3), .sl .any 6 (gR (Ac (rT r0 0)) 4), .sl .any 7 (gR (Ac (rT r0 0)) 5)]),Ai (rI (rT r0 1)),Ai 0]) []))))):Call E0.P Akb [As a0, .imm (.agg [.int .i64 a1_0, .int .i64 a1_1, .str a1_2, .int .i64 a1_3, .int .i64 a1_4])] [] Q:=fR 0 Bex h
noncomputable def Bjt:AC:=(A7 [] [2,3,4] (codeOf Tryz.f105) 0).1
abbrev Bka:Nat:=23
theorem Bko:Bd E0.P 105 Bjt.code Bka [.cell 2 28, .tmp 3, .tmp 4]:=fq Tryz.func105
theorem Bd3(a0_0 a0_1:Int)(a0_2:LB)(a0_3 a0_4:Int)(Q:QQ)(h:
 (Br (a0_2 == [(116:UInt8),114,117,101])
 (Q (.tup [.imm (.agg [.int .i64 1, .int .i64 1, .int .i64 0, .str [], .sl .any 6 [], .sl .any 7 []]),Ai a0_4,Ai 0]) [])
 (Br (a0_2 == [(102:UInt8),97,108,115,101])
 (Q (.tup [.imm (.agg [.int .i64 1, .int .i64 0, .int .i64 0, .str [], .sl .any 6 [], .sl .any 7 []]),Ai a0_4,Ai 0]) [])
 (Br (a0_2 == [(110:UInt8),117,108,108])
 (Q (.tup [.imm (.agg [.int .i64 0, .int .i64 0, .int .i64 0, .str [], .sl .any 6 [], .sl .any 7 []]),Ai a0_4,Ai 0]) [])
 (Q (.tup [.imm (.agg [.int .i64 0, .int .i64 0, .int .i64 0, .str [], .sl .any 6 [], .sl .any 7 []]),Ai 0,Ai 4]) []))))):Call E0.P Arh [.imm (.agg [.int .i64 a0_0, .int .i64 a0_1, .str a0_2, .int .i64 a0_3, .int .i64 a0_4])] [] Q:=fR 0 Bko h
noncomputable def A2c:AC:=(A7 [(2,[0,1,2,6,9],[])] [6,7,8] (codeOf Tryz.f106) 0).1
abbrev A2j:Nat:=50
def X9(t0:LB)(t1 t2:Int)(u0 u1 u2:Int)(u3:LB)(u4 u5 u6:LL)(K:KK):Prop:=Ba 2 E0.P A2j (A9 2 A2c).code ⟨[(0,As t0),(1,Ai t1),(2,Ai t2),(6, .ptr nL6 0),(9, .own Bbq)],[(nL6, .blk Aa [Ai u0,Ai u1,Ai u2,As u3, .own (nL6.cell 4), .own (nL6.cell 5)]),(Bbq, .arr 0 true 6 u4),((nL6.cell 4), .arr (Aa+2) true 6 u5),((nL6.cell 5), .arr (Ae+2) true 7 u6)]⟩ K
def Ad5(Q:QQ):KK:=kF 0 (fun st=>finish 0 E0.T [.cell 6 28, .tmp 7, .tmp 8] [] Q st) fun st=>finish 0 E0.T [.cell 6 28, .tmp 7, .tmp 8] [] Q st
theorem A75(t0:LB)(t1 t2:Int)(u0 u1 u2:Int)(u3:LB)(u4 u5 u6:LL)(K:KK)(h:
 (Call E0.P L8 [As t0,Ai t1] [] fun r0 g0=>
 Ag (qP3 g0 r0)
 (Br (!decide (rI (rT r0 1)=(0:Int)))
 (K .ret ⟨[(6, .ptr nL6 0),(7,Ai 0),(8,Ai (rI (rT r0 1)))],[(nL6, .blk Aa [Ai 0,Ai 0,Ai 0, .imm (.str []), .own (nL6.cell 4), .own (nL6.cell 5)]),((nL6.cell 4), .arr (Aa+2) true 6 []),((nL6.cell 5), .arr (Ae+2) true 7 [])]⟩)
 (Br (decide (gI (Ac (rT r0 0)) 0=(5:Int)))
 (K .ret ⟨[(6, .ptr nL6 0),(7,Ai (gI (Ac (rT r0 0)) 4)),(8,Ai 0)],[(nL6, .blk Aa [Ai 5,Ai 0,Ai 0, .imm (.str []), .own Bbq, .own (nL6.cell 5)]),(Bbq, .arr 0 true 6 u4),((nL6.cell 5), .arr (Ae+2) true 7 [])]⟩)
 (Call E0.P Abf [As t0,Ai t1,Ai t2] [] fun r1 g1=>
 Ag (qP2 g1 r1)
 (Br (!decide (rI (rT r1 2)=(0:Int)))
 (K .ret ⟨[(6, .ptr nL6 0),(7,Ai 0),(8,Ai (rI (rT r1 2)))],[(nL6, .blk Aa [Ai 0,Ai 0,Ai 0, .imm (.str []), .own (nL6.cell 4), .own (nL6.cell 5)]),((nL6.cell 4), .arr (Aa+2) true 6 []),((nL6.cell 5), .arr (Ae+2) true 7 [])]⟩)
 (Ag ((u4.length+1)*88≤140737488355328∧u4.length+1≤140737488355328)
 (X9 t0 (rI (rT r1 1)) t2 u0 u1 u2 u3 (u4++
 [[IV.int .i64 (gI (Ac (rT r1 0)) 0),
 .int .i64 (gI (Ac (rT r1 0)) 1),
 .int .i64 (gI (Ac (rT r1 0)) 2), .str (gS (Ac (rT r1 0)) 3),
 .sl SK.any 6 (gR (Ac (rT r1 0)) 4),
 .sl SK.any 7 (gR (Ac (rT r1 0)) 5)]]) u5 u6 K)))))))):X9 t0 t1 t2 u0 u1 u2 u3 u4 u5 u6 K:=lR [0,1,2,6,9] h
theorem Apy(Q:QQ)(t7 t8:Int)(u0 u1 u2:Int)(u3:LB)(u4 u5:LL)(h:
 (Q (.tup [.imm (.agg [.int .i64 u0, .int .i64 u1, .int .i64 u2, .str u3, .sl .any 6 u4, .sl .any 7 u5]),Ai t7,Ai t8]) [])):Ad5 Q .ret ⟨[(6, .ptr nL6 0),(7,Ai t7),(8,Ai t8)],[(nL6, .blk Aa [Ai u0,Ai u1,Ai u2,As u3, .own (nL6.cell 4), .own (nL6.cell 5)]),((nL6.cell 4), .arr (Aa+2) true 6 u4),((nL6.cell 5), .arr (Ae+2) true 7 u5)]⟩:=kq h
theorem A7x(Q:QQ)(t7 t8:Int)(u0 u1 u2:Int)(u3:LB)(u4 u5:LL)(h:
 (Q (.tup [.imm (.agg [.int .i64 u0, .int .i64 u1, .int .i64 u2, .str u3, .sl .any 6 u4, .sl .any 7 u5]),Ai t7,Ai t8]) [])):Ad5 Q .ret ⟨[(6, .ptr nL6 0),(7,Ai t7),(8,Ai t8)],[(nL6, .blk Aa [Ai u0,Ai u1,Ai u2,As u3, .own Bbq, .own (nL6.cell 5)]),(Bbq, .arr 0 true 6 u4),((nL6.cell 5), .arr (Ae+2) true 7 u5)]⟩:=kq h
theorem Bkm:Bd E0.P 106 A2c.code A2j [.cell 6 28, .tmp 7, .tmp 8]:=fq Tryz.func106
theorem Bd1(a0:LB)(a1 a2:Int)(Q:QQ)(h:
 (X9 a0 a1 a2 ((0:Int)) ((0:Int)) ((0:Int)) [] [] [] [] (Ad5 Q))):Call E0.P Arf [As a0,Ai a1,Ai a2] [] Q:=fR 0 Bkm h
noncomputable def Oe:AC:=(A7 [(2,[0,1,2,6,9],[]),(14,[0,2,6,9,10,12],[]),(16,[0,2,6,9,10],[]),(21,[0,2,6,9,10],[0,1,2,6,9])] [6,7,8] (codeOf Tryz.f107) 0).1
abbrev Oj:Nat:=82
def X8(t0:LB)(t1 t2:Int)(u0 u1 u2:Int)(u3:LB)(u4 u5 u6:LL)(K:KK):Prop:=Ba 2 E0.P Oj (A9 2 Oe).code ⟨[(0,As t0),(1,Ai t1),(2,Ai t2),(6, .ptr nL6 0),(9, .own Wm)],[(nL6, .blk Aa [Ai u0,Ai u1,Ai u2,As u3, .own (nL6.cell 4), .own (nL6.cell 5)]),(Wm, .arr 0 true 7 u4),((nL6.cell 4), .arr (Aa+2) true 6 u5),((nL6.cell 5), .arr (Ae+2) true 7 u6)]⟩ K
def Ab0(t0:LB)(t2 t12:Int)(u0 u1 u2:Int)(u3:LB)(u4:LL)(u5 u6:Int)(u7:LB)(u8 u9:Int)(v0 v1:LL)(K:KK):Prop:=Ba 14 E0.P Oj (A9 14 Oe).code ⟨[(0,As t0),(2,Ai t2),(6, .ptr nL6 0),(9, .own Wm),(10, .ptr Afl 0),(12,Ai t12)],[(nL6, .blk Aa [Ai u0,Ai u1,Ai u2,As u3, .own (nL6.cell 4), .own (nL6.cell 5)]),(Wm, .arr 0 true 7 u4),(Afl, .blk Aq [Ai u5,Ai u6,As u7,Ai u8,Ai u9]),((nL6.cell 4), .arr (Aa+2) true 6 v0),((nL6.cell 5), .arr (Ae+2) true 7 v1)]⟩ K
def Ai8(t0:LB)(t2 u0:Int)(u1 u2:Int)(u3:LB)(u4:LL)(u5 u6:Int)(u7:LB)(u8 u9:Int)(v0 v1:LL)(K:KK):Prop:=Ao 21 E0.P Oj (Ah 21 Oe).code ⟨[(0,As t0),(2,Ai t2),(6, .ptr nL6 0),(9, .own Wm),(10, .ptr Afl 0)],[(nL6, .blk Aa [Ai u0,Ai u1,Ai u2,As u3, .own (nL6.cell 4), .own (nL6.cell 5)]),(Wm, .arr 0 true 7 u4),(Afl, .blk Aq [Ai u5,Ai u6,As u7,Ai u8,Ai u9]),((nL6.cell 4), .arr (Aa+2) true 6 v0),((nL6.cell 5), .arr (Ae+2) true 7 v1)]⟩ K
def X0(Q:QQ):KK:=kF 0 (fun st=>finish 0 E0.T [.cell 6 28, .tmp 7, .tmp 8] [] Q st) fun st=>finish 0 E0.T [.cell 6 28, .tmp 7, .tmp 8] [] Q st
def Su(K:KK):KK:=kC 1 (fun st=>Ba 2 E0.P Oj (A9 2 Oe).code (mask [0,1,2,6,9] st) K) K
def Ad4(K:KK):Ex→St→Prop
 | .normal,st=>Ao 21 E0.P Oj (Ah 21 Oe).code (mask [0,2,6,9,10] st) (Su K)
 | .exit i,st=>(match (i.beq 3:Bool)with
 |true=>Ao 21 E0.P Oj (Ah 21 Oe).code (mask [0,2,6,9,10] st) (Su K)
 |false=>(match (i.beq 1:Bool)with
 |true=>Ba 2 E0.P Oj (A9 2 Oe).code (mask [0,1,2,6,9] st) K
 |false=>K (.exit i) st))
 | .goto i,st=>K (.goto i) st
 | .ret,st=>K .ret st
theorem A74(t0:LB)(t1 t2:Int)(u0 u1 u2:Int)(u3:LB)(u4 u5 u6:LL)(K:KK)(h:
 (Call E0.P L8 [As t0,Ai t1] [] fun r0 g0=>
 Ag (qP3 g0 r0)
 (Br (!decide (rI (rT r0 1)=(0:Int)))
 (K .ret ⟨[(6, .ptr nL6 0),(7,Ai 0),(8,Ai (rI (rT r0 1)))],[(nL6, .blk Aa [Ai 0,Ai 0,Ai 0, .imm (.str []), .own (nL6.cell 4), .own (nL6.cell 5)]),((nL6.cell 4), .arr (Aa+2) true 6 []),((nL6.cell 5), .arr (Ae+2) true 7 [])]⟩)
 (Br (decide (gI (Ac (rT r0 0)) 0=(7:Int)))
 (K .ret ⟨[(6, .ptr nL6 0),(7,Ai (gI (Ac (rT r0 0)) 4)),(8,Ai 0)],[(nL6, .blk Aa [Ai 6,Ai 0,Ai 0, .imm (.str []), .own (nL6.cell 4), .own Wm]),((nL6.cell 4), .arr (Aa+2) true 6 []),(Wm, .arr 0 true 7 u4)]⟩)
 (Br (decide (gI (Ac (rT r0 0)) 0=(0:Int)))
 (K .ret ⟨[(6, .ptr nL6 0),(7,Ai 0),(8,Ai 5)],[(nL6, .blk Aa [Ai 0,Ai 0,Ai 0, .imm (.str []), .own (nL6.cell 4), .own (nL6.cell 5)]),((nL6.cell 4), .arr (Aa+2) true 6 []),((nL6.cell 5), .arr (Ae+2) true 7 [])]⟩)
 (Br (!decide (gI (Ac (rT r0 0)) 0=(2:Int)))
 (K .ret ⟨[(6, .ptr nL6 0),(7,Ai 0),(8,Ai 4)],[(nL6, .blk Aa [Ai 0,Ai 0,Ai 0, .imm (.str []), .own (nL6.cell 4), .own (nL6.cell 5)]),((nL6.cell 4), .arr (Aa+2) true 6 []),((nL6.cell 5), .arr (Ae+2) true 7 [])]⟩)
 (Ab0 t0 t2 ((0:Int)) u0 u1 u2 u3 u4 (gI (Ac (rT r0 0)) 0) (gI (Ac (rT r0 0)) 1) (gS (Ac (rT r0 0)) 2) (gI (Ac (rT r0 0)) 3) (gI (Ac (rT r0 0)) 4) u5 u6 (Ad4 K)))))))):X8 t0 t1 t2 u0 u1 u2 u3 u4 u5 u6 K:=lR [0,1,2,6,9] h
theorem An5(t0:LB)(t2 t12:Int)(u0 u1 u2:Int)(u3:LB)(u4:LL)(u5 u6:Int)(u7:LB)(u8 u9:Int)(v0 v1:LL)(K:KK)(h:
 (Br (decide (t12<(↑u4.length:Int)))
 (Ag ((0:Int)≤t12∧t12<(↑u4.length:Int))
 (Ag (t12.toNat<u4.length∧Be [.str] (List.take 1 (List.drop 0 (u4.getD t12.toNat [])))=true)
 (Br (gS (List.take 1 (List.drop 0 (u4.getD t12.toNat []))) 0 == u7)
 (K .ret ⟨[(6, .ptr nL6 0),(7,Ai 0),(8,Ai 11)],[(nL6, .blk Aa [Ai 0,Ai 0,Ai 0, .imm (.str []), .own (nL6.cell 4), .own (nL6.cell 5)]),((nL6.cell 4), .arr (Aa+2) true 6 []),((nL6.cell 5), .arr (Ae+2) true 7 [])]⟩)
 (Ab0 t0 t2 (i64.wrap (t12+(1:Int))) u0 u1 u2 u3 u4 u5 u6 u7 u8 u9 v0 v1 K))))
 (K (.exit (3)) ⟨[(0,As t0),(2,Ai t2),(6, .ptr nL6 0),(9, .own Wm),(10, .ptr Afl 0)],[(nL6, .blk Aa [Ai u0,Ai u1,Ai u2,As u3, .own (nL6.cell 4), .own (nL6.cell 5)]),(Wm, .arr 0 true 7 u4),(Afl, .blk Aq [Ai u5,Ai u6,As u7,Ai u8,Ai u9]),((nL6.cell 4), .arr (Aa+2) true 6 v0),((nL6.cell 5), .arr (Ae+2) true 7 v1)]⟩))):Ab0 t0 t2 t12 u0 u1 u2 u3 u4 u5 u6 u7 u8 u9 v0 v1 K:=lR [0,2,6,9,10,12] h
theorem A25(t0:LB)(t2 u0:Int)(u1 u2:Int)(u3:LB)(u4:LL)(u5 u6:Int)(u7:LB)(u8 u9:Int)(v0 v1:LL)(K:KK)(h:
 (Call E0.P Abf [As t0,Ai u9,Ai t2] [] fun r0 g0=>
 Ag (qP2 g0 r0)
 (Br (!decide (rI (rT r0 2)=(0:Int)))
 (K .ret ⟨[(6, .ptr nL6 0),(7,Ai 0),(8,Ai (rI (rT r0 2)))],[(nL6, .blk Aa [Ai 0,Ai 0,Ai 0, .imm (.str []), .own (nL6.cell 4), .own (nL6.cell 5)]),((nL6.cell 4), .arr (Aa+2) true 6 []),((nL6.cell 5), .arr (Ae+2) true 7 [])]⟩)
 (Ag ((u4.length+1)*104≤140737488355328∧u4.length+1≤140737488355328)
 (K .normal ⟨[(0,As t0),(1,Ai (rI (rT r0 1))),(2,Ai t2),(6, .ptr nL6 0),(9, .own Wm)],[(nL6, .blk Aa [Ai u0,Ai u1,Ai u2,As u3, .own (nL6.cell 4), .own (nL6.cell 5)]),(Wm, .arr 0 true 7 (u4++
 [[IV.str u7, .int .i64 (gI (Ac (rT r0 0)) 0),
 .int .i64 (gI (Ac (rT r0 0)) 1),
 .int .i64 (gI (Ac (rT r0 0)) 2), .str (gS (Ac (rT r0 0)) 3),
 .sl SK.any 6 (gR (Ac (rT r0 0)) 4),
 .sl SK.any 7 (gR (Ac (rT r0 0)) 5)]])),((nL6.cell 4), .arr (Aa+2) true 6 v0),((nL6.cell 5), .arr (Ae+2) true 7 v1)]⟩))))):Ai8 t0 t2 u0 u1 u2 u3 u4 u5 u6 u7 u8 u9 v0 v1 K:=cR [0,1,2,6,9] h
theorem Qz(Q:QQ)(t7 t8:Int)(u0 u1 u2:Int)(u3:LB)(u4 u5:LL)(h:
 (Q (.tup [.imm (.agg [.int .i64 u0, .int .i64 u1, .int .i64 u2, .str u3, .sl .any 6 u4, .sl .any 7 u5]),Ai t7,Ai t8]) [])):X0 Q .ret ⟨[(6, .ptr nL6 0),(7,Ai t7),(8,Ai t8)],[(nL6, .blk Aa [Ai u0,Ai u1,Ai u2,As u3, .own (nL6.cell 4), .own (nL6.cell 5)]),((nL6.cell 4), .arr (Aa+2) true 6 u4),((nL6.cell 5), .arr (Ae+2) true 7 u5)]⟩:=kq h
theorem A7s(Q:QQ)(t7 t8:Int)(u0 u1 u2:Int)(u3:LB)(u4 u5:LL)(h:
 (Q (.tup [.imm (.agg [.int .i64 u0, .int .i64 u1, .int .i64 u2, .str u3, .sl .any 6 u4, .sl .any 7 u5]),Ai t7,Ai t8]) [])):X0 Q .ret ⟨[(6, .ptr nL6 0),(7,Ai t7),(8,Ai t8)],[(nL6, .blk Aa [Ai u0,Ai u1,Ai u2,As u3, .own (nL6.cell 4), .own Wm]),((nL6.cell 4), .arr (Aa+2) true 6 u4),(Wm, .arr 0 true 7 u5)]⟩:=kq h
theorem A7t(K:KK)(t7 t8:Int)(u0 u1 u2:Int)(u3:LB)(u4 u5:LL)(h:
 (K .ret ⟨[(6, .ptr nL6 0),(7,Ai t7),(8,Ai t8)],[(nL6, .blk Aa [Ai u0,Ai u1,Ai u2,As u3, .own (nL6.cell 4), .own (nL6.cell 5)]),((nL6.cell 4), .arr (Aa+2) true 6 u4),((nL6.cell 5), .arr (Ae+2) true 7 u5)]⟩)):Su K .ret ⟨[(6, .ptr nL6 0),(7,Ai t7),(8,Ai t8)],[(nL6, .blk Aa [Ai u0,Ai u1,Ai u2,As u3, .own (nL6.cell 4), .own (nL6.cell 5)]),((nL6.cell 4), .arr (Aa+2) true 6 u4),((nL6.cell 5), .arr (Ae+2) true 7 u5)]⟩:=kq h
theorem A7u(K:KK)(t0:LB)(t1 t2:Int)(u0 u1 u2:Int)(u3:LB)(u4 u5 u6:LL)(h:
 (X8 t0 t1 t2 u0 u1 u2 u3 u4 u5 u6 K)):Su K .normal ⟨[(0,As t0),(1,Ai t1),(2,Ai t2),(6, .ptr nL6 0),(9, .own Wm)],[(nL6, .blk Aa [Ai u0,Ai u1,Ai u2,As u3, .own (nL6.cell 4), .own (nL6.cell 5)]),(Wm, .arr 0 true 7 u4),((nL6.cell 4), .arr (Aa+2) true 6 u5),((nL6.cell 5), .arr (Ae+2) true 7 u6)]⟩:=kq h
theorem A7v(K:KK)(t7 t8:Int)(u0 u1 u2:Int)(u3:LB)(u4 u5:LL)(h:
 (K .ret ⟨[(6, .ptr nL6 0),(7,Ai t7),(8,Ai t8)],[(nL6, .blk Aa [Ai u0,Ai u1,Ai u2,As u3, .own (nL6.cell 4), .own (nL6.cell 5)]),((nL6.cell 4), .arr (Aa+2) true 6 u4),((nL6.cell 5), .arr (Ae+2) true 7 u5)]⟩)):Ad4 K .ret ⟨[(6, .ptr nL6 0),(7,Ai t7),(8,Ai t8)],[(nL6, .blk Aa [Ai u0,Ai u1,Ai u2,As u3, .own (nL6.cell 4), .own (nL6.cell 5)]),((nL6.cell 4), .arr (Aa+2) true 6 u4),((nL6.cell 5), .arr (Ae+2) true 7 u5)]⟩:=kq h
theorem A7w(K:KK)(t0:LB)(t2 u0:Int)(u1 u2:Int)(u3:LB)(u4:LL)(u5 u6:Int)(u7:LB)(u8 u9:Int)(v0 v1:LL)(h:
 (Ai8 t0 t2 u0 u1 u2 u3 u4 u5 u6 u7 u8 u9 v0 v1 (Su K))):Ad4 K (.exit (3)) ⟨[(0,As t0),(2,Ai t2),(6, .ptr nL6 0),(9, .own Wm),(10, .ptr Afl 0)],[(nL6, .blk Aa [Ai u0,Ai u1,Ai u2,As u3, .own (nL6.cell 4), .own (nL6.cell 5)]),(Wm, .arr 0 true 7 u4),(Afl, .blk Aq [Ai u5,Ai u6,As u7,Ai u8,Ai u9]),((nL6.cell 4), .arr (Aa+2) true 6 v0),((nL6.cell 5), .arr (Ae+2) true 7 v1)]⟩:=kq h
theorem Bkk:Bd E0.P 107 Oe.code Oj [.cell 6 28, .tmp 7, .tmp 8]:=fq Tryz.func107
theorem Bd0(a0:LB)(a1 a2:Int)(Q:QQ)(h:
 (X8 a0 a1 a2 ((0:Int)) ((0:Int)) ((0:Int)) [] [] [] [] (X0 Q))):Call E0.P Ard [As a0,Ai a1,Ai a2] [] Q:=fR 0 Bkk h
noncomputable def Ci:AC:=(A7 [(1,[0,1],[]),(6,[0,1],[]),(8,[0,1],[]),(9,[0,1],[0,1]),(10,[0,1],[1]),(11,[0,1],[]),(12,[1],[])] [4] (codeOf Tryz.f61) 0).1
abbrev Cj:Nat:=39
def Ta(t0:LB)(t1:Int)(K:KK):Prop:=Ba 6 E0.P Cj (A9 6 Ci).code ⟨[(0,As t0),(1,Ai t1)],[]⟩ K
def Adx(t1:Int)(K:KK):Prop:=Ao 12 E0.P Cj (Ah 12 Ci).code ⟨[(1,Ai t1)],[]⟩ K
def Agi(t0:LB)(t1:Int)(K:KK):Prop:=Ao 9 E0.P Cj (Ah 9 Ci).code ⟨[(0,As t0),(1,Ai t1)],[]⟩ K
def Adw(t0:LB)(t1:Int)(K:KK):Prop:=Ao 10 E0.P Cj (Ah 10 Ci).code ⟨[(0,As t0),(1,Ai t1)],[]⟩ K
def Zg(t0:LB)(t1:Int)(K:KK):Prop:=I6 1 E0.P Cj 0 (J8 1 Ci).code ⟨[(0,As t0),(1,Ai t1)],[]⟩ K
def Ol(Q:QQ):KK:=kE fun st=>finish 0 E0.T [.tmp 4] [] Q st
def Agr(Q:QQ):Ex→St→Prop
 | .normal,st=>finish 0 E0.T [.tmp 4] [] Q st
 | .exit _,_=>False
 | .goto i,st=>I6 1 E0.P Cj i (J8 1 Ci).code (mask [0,1] st) (Ol Q)
 | .ret,st=>finish 0 E0.T [.tmp 4] [] Q st
def Y6(Q:QQ):Ex→St→Prop
 | .normal,st=>Ao 12 E0.P Cj (Ah 12 Ci).code (mask [1] st) (Agr Q)
 | .exit _,_=>False
 | .goto i,st=>I6 1 E0.P Cj i (J8 1 Ci).code (mask [0,1] st) (Ol Q)
 | .ret,st=>finish 0 E0.T [.tmp 4] [] Q st
def Asi(Q:QQ):Ex→St→Prop
 | .normal,st=>Ao 10 E0.P Cj (Ah 10 Ci).code (mask [0,1] st) (Y6 Q)
 | .exit i,st=>(match (i.beq 0:Bool)with
 |true=>Ao 10 E0.P Cj (Ah 10 Ci).code (mask [0,1] st) (Y6 Q)
 |false=>False)
 | .goto i,st=>I6 1 E0.P Cj i (J8 1 Ci).code (mask [0,1] st) (Ol Q)
 | .ret,st=>finish 0 E0.T [.tmp 4] [] Q st
def Ags(K:KK):Ex→St→Prop
 | .normal,st=>Ba 6 E0.P Cj (A9 6 Ci).code (mask [0,1] st) K
 | .exit i,st=>K (.exit i) st
 | .goto i,st=>K (.goto i) st
 | .ret,st=>K .ret st
def Agt(K:KK):Ex→St→Prop
 | .normal,st=>K .normal st
 | .exit i,st=>K (.exit i) st
 | .goto i,st=>I6 1 E0.P Cj i (J8 1 Ci).code (mask [0,1] st) K
 | .ret,st=>K .ret st
def Y7(K:KK):Ex→St→Prop
 | .normal,st=>Ao 12 E0.P Cj (Ah 12 Ci).code (mask [1] st) (Agt K)
 | .exit i,st=>K (.exit i) st
 | .goto i,st=>I6 1 E0.P Cj i (J8 1 Ci).code (mask [0,1] st) K
 | .ret,st=>K .ret st
def Asj(K:KK):Ex→St→Prop
 | .normal,st=>Ao 10 E0.P Cj (Ah 10 Ci).code (mask [0,1] st) (Y7 K)
 | .exit i,st=>(match (i.beq 0:Bool)with
 |true=>Ao 10 E0.P Cj (Ah 10 Ci).code (mask [0,1] st) (Y7 K)
 |false=>K (.exit i) st)
 | .goto i,st=>I6 1 E0.P Cj i (J8 1 Ci).code (mask [0,1] st) K
 | .ret,st=>K .ret st
theorem Ak2(t0:LB)(t1:Int)(K:KK)(h:
 (Br (decide (t1<(↑t0.length:Int)) == true)
 (Call E0.P Qq [As t0,Ai t1] [] fun r0 g0=>
 Ag (Pj g0 r0)
 (Let (decide (rI r0=(0:Int))) fun x1=>
 Br (x1)
 (Agi t0 t1 (Ags K))
 (K (.exit 0) ⟨[(0,As t0),(1,Ai t1)],[]⟩)))
 (Ag ((!true)=false)
 (Let (false) fun x2=>
 Br (x2)
 (Agi t0 t1 (Ags K))
 (K (.exit 0) ⟨[(0,As t0),(1,Ai t1)],[]⟩))))):Ta t0 t1 K:=lR [0,1] h
theorem Xr(t1:Int)(K:KK)(h:
 (K .ret ⟨[(4,Ai t1)],[]⟩)):Adx t1 K:=cR [] h
theorem A1b(t0:LB)(t1:Int)(K:KK)(h:
 (K .normal ⟨[(0,As t0),(1,Ai (i64.wrap (t1+(1:Int))))],[]⟩)):Agi t0 t1 K:=cR [0,1] h
theorem Aid(t0:LB)(t1:Int)(K:KK)(h:
 (K (.goto 0) ⟨[(0,As t0),(1,Ai t1)],[]⟩)):Adw t0 t1 K:=cR [1] h
theorem Ak4(t0:LB)(t1:Int)(K:KK)(h:
 (Call E0.P Vx [As t0,Ai t1, .imm (.sl .any 1 [[IV.int .i64 (0:Int)]])] [] fun r0 g0=>
 Ag (Pj g0 r0)
 (Ag (decide (i64.wrap (t1+rI r0)<(↑t0.length:Int))=true→
 (0:Int)≤i64.wrap (t1+rI r0)∧i64.wrap (t1+rI r0)<(↑t0.length:Int))
 (Let (bif decide (i64.wrap (t1+rI r0)<(↑t0.length:Int))then
 decide ((↑(t0.getD (i64.wrap (t1+rI r0)).toNat 0).toNat:Int)=(37:Int))
 else false) fun x1=>
 Br (x1)
 (Ta t0 (i64.wrap (t1+rI r0)) (Asj K))
 (Adx (i64.wrap (t1+rI r0)) (Agt K)))))):Zg t0 t1 K:=Bnn (Aq5 E0 Cj) (okE Cj) 3 1 0 (J8 1 Ci) (Bs4 1 0 Ci) [0,1] _ K (by kernel_rfl) rfl (kr (by kernel_rfl) h)
theorem Akt(Q:QQ)(t4:Int)(h:
 (Q (Ai t4) [])):Ol Q .ret ⟨[(4,Ai t4)],[]⟩:=kq h
theorem A1y(Q:QQ)(t4:Int)(h:
 (Q (Ai t4) [])):Agr Q .ret ⟨[(4,Ai t4)],[]⟩:=kq h
theorem A1z(Q:QQ)(t0:LB)(t1:Int)(h:
 (Zg t0 t1 (Ol Q))):Y6 Q (.goto 0) ⟨[(0,As t0),(1,Ai t1)],[]⟩:=kq h
theorem A10(Q:QQ)(t0:LB)(t1:Int)(h:
 (Adw t0 t1 (Y6 Q))):Asi Q (.exit 0) ⟨[(0,As t0),(1,Ai t1)],[]⟩:=kq h
theorem A11(K:KK)(t0:LB)(t1:Int)(h:
 (Ta t0 t1 K)):Ags K .normal ⟨[(0,As t0),(1,Ai t1)],[]⟩:=kq h
theorem Aku(K:KK)(t4:Int)(h:
 (K .ret ⟨[(4,Ai t4)],[]⟩)):Agt K .ret ⟨[(4,Ai t4)],[]⟩:=kq h
theorem A12(K:KK)(t0:LB)(t1:Int)(h:
 (Zg t0 t1 K)):Y7 K (.goto 0) ⟨[(0,As t0),(1,Ai t1)],[]⟩:=kq h
theorem A13(K:KK)(t0:LB)(t1:Int)(h:
 (Adw t0 t1 (Y7 K))):Asj K (.exit 0) ⟨[(0,As t0),(1,Ai t1)],[]⟩:=kq h
theorem Be0:Bd E0.P 61 Ci.code Cj [.tmp 4]:=fq Tryz.func61
theorem A6x(a0:LB)(a1:Int)(Q:QQ)(h:
 (Call E0.P Vx [As a0,Ai (if(if(↑a0.length:Int)<a1 then(↑a0.length:Int)else a1)>(0:Int)then
 if(↑a0.length:Int)<a1 then(↑a0.length:Int)else a1
 else(0:Int)), .imm (.sl .any 1 [[IV.int .i64 (0:Int)]])] [] fun r0 g0=>
 Ag (Pj g0 r0)
 (Ag (decide
 (i64.wrap
 ((if(if(↑a0.length:Int)<a1 then(↑a0.length:Int)else a1)>(0:Int)then
 if(↑a0.length:Int)<a1 then(↑a0.length:Int)else a1
 else(0:Int))+
 rI r0)<
 (↑a0.length:Int))=
 true→
 (0:Int)≤
 i64.wrap
 ((if(if(↑a0.length:Int)<a1 then(↑a0.length:Int)else a1)>(0:Int)then
 if(↑a0.length:Int)<a1 then(↑a0.length:Int)else a1
 else(0:Int))+
 rI r0)∧
 i64.wrap
 ((if(if(↑a0.length:Int)<a1 then(↑a0.length:Int)else a1)>(0:Int)then
 if(↑a0.length:Int)<a1 then(↑a0.length:Int)else a1
 else(0:Int))+
 rI r0)<
 (↑a0.length:Int))
 (Let (bif
 decide
 (i64.wrap
 ((if(if(↑a0.length:Int)<a1 then(↑a0.length:Int)else a1)>(0:Int)then
 if(↑a0.length:Int)<a1 then(↑a0.length:Int)else a1
 else(0:Int))+
 rI r0)<
 (↑a0.length:Int))then
 decide
 ((↑(a0.getD
 (i64.wrap
 ((if(if(↑a0.length:Int)<a1 then(↑a0.length:Int)else a1)>(0:Int)then
 if(↑a0.length:Int)<a1 then(↑a0.length:Int)else a1
 else(0:Int))+
 rI r0)).toNat
 0).toNat:
 Int)=
 (37:Int))
 else false) fun x1=>
 Br (x1)
 (Ta a0 (i64.wrap
 ((if(if(↑a0.length:Int)<a1 then(↑a0.length:Int)else a1)>(0:Int)then
 if(↑a0.length:Int)<a1 then(↑a0.length:Int)else a1
 else(0:Int))+
 rI r0)) (Asi Q))
 (Adx (i64.wrap
 ((if(if(↑a0.length:Int)<a1 then(↑a0.length:Int)else a1)>(0:Int)then
 if(↑a0.length:Int)<a1 then(↑a0.length:Int)else a1
 else(0:Int))+
 rI r0)) (Agr Q)))))):Call E0.P Akd [As a0,Ai a1] [] Q:=fR 0 Be0 h
noncomputable def Lx:AC:=(A7 [(22,[0,2,60],[0,2]),(24,[0,2],[])] [2,3] (codeOf Tryz.f62) 0).1
abbrev Md:Nat:=71
def Hd(t60:Bool)(u0:LB)(u1 u2 u3:Int)(u4:LB)(u5 u6:Int)(u7:LL)(K:KK):Prop:=Ao 22 E0.P Md (Ah 22 Lx).code ⟨[(0, .ptr Af 0),(2, .ptr nL2 0),(60,Ab t60)],[(Af, .blk Ad [As u0,Ai u1, .own Ar]),(nL2, .blk Aq [Ai u2,Ai u3,As u4,Ai u5,Ai u6]),(Ar, .arr (Am+2) true 1 u7)]⟩ K
def Xu(u0:LB)(u1 u2 u3:Int)(u4:LB)(u5 u6:Int)(u7:LL)(K:KK):Prop:=Ao 24 E0.P Md (Ah 24 Lx).code ⟨[(0, .ptr Af 0),(2, .ptr nL2 0)],[(Af, .blk Ad [As u0,Ai u1, .own Ar]),(nL2, .blk Aq [Ai u2,Ai u3,As u4,Ai u5,Ai u6]),(Ar, .arr (Am+2) true 1 u7)]⟩ K
def Qf(s:LB)(at_:Int)(out:LL)(Q:QQ):KK:=kE fun st=>finish 0 E0.T [.cell 2 78, .tmp 3] [(Af, .blk Ad [As s,Ai at_, .own Ar]),(Ar, .arr (Am+2) true 1 out)] Q st
def Fw(s:LB)(at_:Int)(out:LL)(Q:QQ):KK:=kF 0 (fun st=>Ao 24 E0.P Md (Ah 24 Lx).code (mask [0,2] st) (Qf s at_ out Q)) fun st=>finish 0 E0.T [.cell 2 78, .tmp 3] [(Af, .blk Ad [As s,Ai at_, .own Ar]),(Ar, .arr (Am+2) true 1 out)] Q st
theorem Aif(t60:Bool)(u0:LB)(u1 u2 u3:Int)(u4:LB)(u5 u6:Int)(u7:LL)(K:KK)(h:
 (Br (t60)
 (K .ret ⟨[(2, .ptr nL2 0),(3,Ai 4)],[(nL2, .blk Aq [Ai 0,Ai 0, .imm (.str []),Ai 0,Ai 0]),(Af, .blk Ad [As u0,Ai u1, .own Ar]),(Ar, .arr (Am+2) true 1 u7)]⟩)
 (K .normal ⟨[(0, .ptr Af 0),(2, .ptr nL2 0)],[(Af, .blk Ad [As u0,Ai u1, .own Ar]),(nL2, .blk Aq [Ai u2,Ai u3,As u4,Ai u5,Ai u6]),(Ar, .arr (Am+2) true 1 u7)]⟩))):Hd t60 u0 u1 u2 u3 u4 u5 u6 u7 K:=cR [0,2] h
theorem Aig(u0:LB)(u1 u2 u3:Int)(u4:LB)(u5 u6:Int)(u7:LL)(K:KK)(h:
 (Call E0.P Tq [.ptr Af 0] [(Af, .blk Ad [As u0,Ai u1, .own Ar]),(Ar, .arr (Am+2) true 1 u7)] fun r0 g0=>
 Ag (qP6 g0 r0)
 (K .ret ⟨[(2, .ptr nL2 0),(3,Ai (rI (rT r0 1)))],[(nL2, .blk Aq [Ai (gI (Ac (rT r0 0)) 0),Ai (gI (Ac (rT r0 0)) 1),As (gS (Ac (rT r0 0)) 2),Ai (gI (Ac (rT r0 0)) 3),Ai (gI (Ac (rT r0 0)) 4)]),(Af, .blk Ad [.imm (.str (rS ((Au g0 Af).getD 0 AV.undef))), .imm (.int .i64 (rI ((Au g0 Af).getD 1 AV.undef))), .own Ar]),(Ar, .arr (Am+2) true 1 (Cq g0 Ar))]⟩))):Xu u0 u1 u2 u3 u4 u5 u6 u7 K:=cR [] h
theorem Aj2(s:LB)(at_:Int)(out:LL)(Q:QQ)(t3 u0 u1:Int)(u2:LB)(u3 u4:Int)(u5:LB)(u6:Int)(u7:LL)(h:
 (Q (.tup [.imm (.agg [.int .i64 u0, .int .i64 u1, .str u2, .int .i64 u3, .int .i64 u4]),Ai t3]) [(Af, .blk Ad [As u5,Ai u6, .own Ar]),(Ar, .arr (Am+2) true 1 u7)])):Qf s at_ out Q .ret ⟨[(2, .ptr nL2 0),(3,Ai t3)],[(nL2, .blk Aq [Ai u0,Ai u1,As u2,Ai u3,Ai u4]),(Af, .blk Ad [As u5,Ai u6, .own Ar]),(Ar, .arr (Am+2) true 1 u7)]⟩:=kq h
theorem Aj3(s:LB)(at_:Int)(out:LL)(Q:QQ)(t3 u0 u1:Int)(u2:LB)(u3 u4:Int)(u5:LB)(u6:Int)(u7:LL)(h:
 (Q (.tup [.imm (.agg [.int .i64 u0, .int .i64 u1, .str u2, .int .i64 u3, .int .i64 u4]),Ai t3]) [(Af, .blk Ad [As u5,Ai u6, .own Ar]),(Ar, .arr (Am+2) true 1 u7)])):Fw s at_ out Q .ret ⟨[(2, .ptr nL2 0),(3,Ai t3)],[(nL2, .blk Aq [Ai u0,Ai u1,As u2,Ai u3,Ai u4]),(Af, .blk Ad [As u5,Ai u6, .own Ar]),(Ar, .arr (Am+2) true 1 u7)]⟩:=kq h
theorem Aj4(s:LB)(at_:Int)(out:LL)(Q:QQ)(u0:LB)(u1 u2 u3:Int)(u4:LB)(u5 u6:Int)(u7:LL)(h:
 (Xu u0 u1 u2 u3 u4 u5 u6 u7 (Qf s at_ out Q))):Fw s at_ out Q .normal ⟨[(0, .ptr Af 0),(2, .ptr nL2 0)],[(Af, .blk Ad [As u0,Ai u1, .own Ar]),(nL2, .blk Aq [Ai u2,Ai u3,As u4,Ai u5,Ai u6]),(Ar, .arr (Am+2) true 1 u7)]⟩:=kq h
theorem Aro:Bd E0.P 62 Lx.code Md [.cell 2 78, .tmp 3]:=fq Tryz.func62
theorem Amv(s:LB)(at_:Int)(out:LL)(Q:QQ)(h:
 (Ag ((0:Int)≤at_∧at_<(↑s.length:Int))
 (Br (decide ((↑(s.getD at_.toNat 0).toNat:Int)=(91:Int)))
 (Q (.tup [.imm (.agg [.int .i64 4, .int .i64 0, .str [], .int .i64 0, .int .i64 0]),Ai 0]) [(Af, .blk Ad [As s,Ai (i64.wrap (at_+(1:Int))), .own Ar]),(Ar, .arr (Am+2) true 1 out)])
 (Br (decide ((↑(s.getD at_.toNat 0).toNat:Int)=(93:Int)))
 (Q (.tup [.imm (.agg [.int .i64 5, .int .i64 0, .str [], .int .i64 0, .int .i64 0]),Ai 0]) [(Af, .blk Ad [As s,Ai (i64.wrap (at_+(1:Int))), .own Ar]),(Ar, .arr (Am+2) true 1 out)])
 (Br (decide ((↑(s.getD at_.toNat 0).toNat:Int)=(47:Int)))
 (Call E0.P Tn [.ptr Af 0] [(Af, .blk Ad [As s,Ai at_, .own Ar]),(Ar, .arr (Am+2) true 1 out)] fun r0 g0=>
 Ag (qP6 g0 r0)
 (Q (.tup [.imm (.agg [.int .i64 (gI (Ac (rT r0 0)) 0), .int .i64 (gI (Ac (rT r0 0)) 1), .str (gS (Ac (rT r0 0)) 2), .int .i64 (gI (Ac (rT r0 0)) 3), .int .i64 (gI (Ac (rT r0 0)) 4)]),Ai (rI (rT r0 1))]) [(Af, .blk Ad [.imm (.str (rS ((Au g0 Af).getD 0 AV.undef))), .imm (.int .i64 (rI ((Au g0 Af).getD 1 AV.undef))), .own Ar]),(Ar, .arr (Am+2) true 1 (Cq g0 Ar))]))
 (Br (decide ((↑(s.getD at_.toNat 0).toNat:Int)=(40:Int)))
 (Call E0.P Tp [.ptr Af 0] [(Af, .blk Ad [As s,Ai at_, .own Ar]),(Ar, .arr (Am+2) true 1 out)] fun r1 g1=>
 Ag (qP6 g1 r1)
 (Q (.tup [.imm (.agg [.int .i64 (gI (Ac (rT r1 0)) 0), .int .i64 (gI (Ac (rT r1 0)) 1), .str (gS (Ac (rT r1 0)) 2), .int .i64 (gI (Ac (rT r1 0)) 3), .int .i64 (gI (Ac (rT r1 0)) 4)]),Ai (rI (rT r1 1))]) [(Af, .blk Ad [.imm (.str (rS ((Au g1 Af).getD 0 AV.undef))), .imm (.int .i64 (rI ((Au g1 Af).getD 1 AV.undef))), .own Ar]),(Ar, .arr (Am+2) true 1 (Cq g1 Ar))]))
 (Br (decide ((↑(s.getD at_.toNat 0).toNat:Int)=(60:Int)))
 (Ag (decide (i64.wrap (at_+(1:Int))<(↑s.length:Int))=true→
 (0:Int)≤i64.wrap (at_+(1:Int))∧i64.wrap (at_+(1:Int))<(↑s.length:Int))
 (Ag (decide (i64.wrap (at_+(1:Int))<(↑s.length:Int))=true→(0:Int)≤at_∧at_<(↑s.length:Int))
 (Let (bif decide (i64.wrap (at_+(1:Int))<(↑s.length:Int))then
 decide
 ((↑(s.getD (i64.wrap (at_+(1:Int))).toNat 0).toNat:Int)=
 (↑(s.getD at_.toNat 0).toNat:Int))
 else false) fun x2=>
 Br (x2)
 (Q (.tup [.imm (.agg [.int .i64 6, .int .i64 0, .str [], .int .i64 0, .int .i64 0]),Ai 0]) [(Af, .blk Ad [As s,Ai (i64.wrap (at_+(2:Int))), .own Ar]),(Ar, .arr (Am+2) true 1 out)])
 (Call E0.P Vd [.ptr Af 0] [(Af, .blk Ad [As s,Ai at_, .own Ar]),(Ar, .arr (Am+2) true 1 out)] fun r3 g3=>
 Ag (qP6 g3 r3)
 (Q (.tup [.imm (.agg [.int .i64 (gI (Ac (rT r3 0)) 0), .int .i64 (gI (Ac (rT r3 0)) 1), .str (gS (Ac (rT r3 0)) 2), .int .i64 (gI (Ac (rT r3 0)) 3), .int .i64 (gI (Ac (rT r3 0)) 4)]),Ai (rI (rT r3 1))]) [(Af, .blk Ad [.imm (.str (rS ((Au g3 Af).getD 0 AV.undef))), .imm (.int .i64 (rI ((Au g3 Af).getD 1 AV.undef))), .own Ar]),(Ar, .arr (Am+2) true 1 (Cq g3 Ar))])))))
 (Br (decide ((↑(s.getD at_.toNat 0).toNat:Int)=(62:Int)))
 (Ag (decide (i64.wrap (at_+(1:Int))<(↑s.length:Int))=true→
 (0:Int)≤i64.wrap (at_+(1:Int))∧i64.wrap (at_+(1:Int))<(↑s.length:Int))
 (Ag (decide (i64.wrap (at_+(1:Int))<(↑s.length:Int))=true→(0:Int)≤at_∧at_<(↑s.length:Int))
 (Let (bif decide (i64.wrap (at_+(1:Int))<(↑s.length:Int))then
 decide
 ((↑(s.getD (i64.wrap (at_+(1:Int))).toNat 0).toNat:Int)=
 (↑(s.getD at_.toNat 0).toNat:Int))
 else false) fun x4=>
 Br (x4)
 (Q (.tup [.imm (.agg [.int .i64 7, .int .i64 0, .str [], .int .i64 0, .int .i64 0]),Ai 0]) [(Af, .blk Ad [As s,Ai (i64.wrap (at_+(2:Int))), .own Ar]),(Ar, .arr (Am+2) true 1 out)])
 (Q (.tup [.imm (.agg [.int .i64 0, .int .i64 0, .str [], .int .i64 0, .int .i64 0]),Ai 4]) [(Af, .blk Ad [As s,Ai at_, .own Ar]),(Ar, .arr (Am+2) true 1 out)]))))
 (Br (decide ((↑(s.getD at_.toNat 0).toNat:Int)=(41:Int)))
 (Hd (decide ((↑(s.getD at_.toNat 0).toNat:Int)=(41:Int))) s at_ ((0:Int)) ((0:Int)) [] ((0:Int)) ((0:Int)) out (Fw s at_ out Q))
 (Br (decide ((↑(s.getD at_.toNat 0).toNat:Int)=(123:Int)))
 (Hd (decide ((↑(s.getD at_.toNat 0).toNat:Int)=(123:Int))) s at_ ((0:Int)) ((0:Int)) [] ((0:Int)) ((0:Int)) out (Fw s at_ out Q))
 (Hd (decide ((↑(s.getD at_.toNat 0).toNat:Int)=(125:Int))) s at_ ((0:Int)) ((0:Int)) [] ((0:Int)) ((0:Int)) out (Fw s at_ out Q)))))))))))):Call E0.P Rw [.ptr (.arg 0) 0] [(.arg 0, .blk Ad [.imm (.str s), .imm (.int .i64 at_), .own (.arg 1)]),(.arg 1, .arr (Am+2) true 1 out)] Q:=fR 0 Aro h
noncomputable def Lt:AC:=(A7 [(3,[0,5,6],[]),(5,[0],[]),(9,[0,5,6],[0,5,6]),(10,[0,5,6,37],[0,5,6]),(12,[0,5,6],[0,5,6]),(13,[0],[])] [4] (codeOf Tryz.f66) 0).1
abbrev L9:Nat:=41
def X5(t0:LB)(t5:Bool)(t6:Int)(K:KK):Prop:=Ba 3 E0.P L9 (A9 3 Lt).code ⟨[(0,As t0),(5,Ab t5),(6,Ai t6)],[]⟩ K
def Xp(t0:LB)(t5:Bool)(t6:Int)(K:KK):Prop:=Ao 9 E0.P L9 (Ah 9 Lt).code ⟨[(0,As t0),(5,Ab t5),(6,Ai t6)],[]⟩ K
def Abj(t0:LB)(t5:Bool)(t6:Int)(t37:Bool)(K:KK):Prop:=Ao 10 E0.P L9 (Ah 10 Lt).code ⟨[(0,As t0),(5,Ab t5),(6,Ai t6),(37,Ab t37)],[]⟩ K
def Avz(t0:LB)(K:KK):Prop:=Ao 13 E0.P L9 (Ah 13 Lt).code ⟨[(0,As t0)],[]⟩ K
def Avy(t0:LB)(t5:Bool)(t6:Int)(K:KK):Prop:=Ao 12 E0.P L9 (Ah 12 Lt).code ⟨[(0,As t0),(5,Ab t5),(6,Ai t6)],[]⟩ K
def Ana(Q:QQ):KK:=kE fun st=>finish 0 E0.T [.tmp 4] [] Q st
def O1(Q:QQ):KK:=kF 0 (fun st=>Ao 13 E0.P L9 (Ah 13 Lt).code (mask [0] st) (Ana Q)) fun st=>finish 0 E0.T [.tmp 4] [] Q st
def Anb(K:KK):Ex→St→Prop
 | .normal,st=>Ba 3 E0.P L9 (A9 3 Lt).code (mask [0,5,6] st) K
 | .exit i,st=>K (.exit i) st
 | .goto i,st=>K (.goto i) st
 | .ret,st=>K .ret st
def O3(K:KK):KK:=kC 1 (fun st=>Ao 12 E0.P L9 (Ah 12 Lt).code (mask [0,5,6] st) (Anb K)) K
def Xz(K:KK):KK:=kP [0,5,6] K
theorem Aem(t0:LB)(t5:Bool)(t6:Int)(K:KK)(h:
 (Br (decide (t6<(↑t0.length:Int)))
 (Ag ((0:Int)≤t6∧t6<(↑t0.length:Int))
 (Ag (decide ((↑(t0.getD t6.toNat 0).toNat:Int)=(10:Int))=false→(0:Int)≤t6∧t6<(↑t0.length:Int))
 (Let (bif decide ((↑(t0.getD t6.toNat 0).toNat:Int)=(10:Int))then true
 else decide ((↑(t0.getD t6.toNat 0).toNat:Int)=(13:Int))) fun x0=>
 Br (x0)
 (Xp t0 false t6 (O3 K))
 (Ag ((0:Int)≤t6∧t6<(↑t0.length:Int))
 (Br (decide ((↑(t0.getD t6.toNat 0).toNat:Int)=(37:Int)))
 (Xp t0 true t6 (O3 K))
 (Xp t0 t5 t6 (O3 K)))))))
 (K (.exit 0) ⟨[(0,As t0)],[]⟩))):X5 t0 t5 t6 K:=lR [0,5,6] h
theorem A6g(t0:LB)(t5:Bool)(t6:Int)(K:KK)(h:
 (Ag ((!t5)=true→(0:Int)≤t6∧t6<(↑t0.length:Int))
 (Br ((!t5) == true)
 (Call E0.P Og [.imm (.int .u8 ((↑(t0.getD t6.toNat 0).toNat:Int)))] [] fun r0 g0=>
 Ag (Pj g0 r0)
 (Let (!decide (rI r0=(0:Int))) fun x1=>
 Abj t0 t5 t6 x1 (Xz K)))
 (Ag ((!true)=false)
 (Let (false) fun x2=>
 Abj t0 t5 t6 x2 (Xz K)))))):Xp t0 t5 t6 K:=cR [0,5,6] h
theorem Amk(t0:LB)(t5:Bool)(t6:Int)(t37:Bool)(K:KK)(h:
 (Br (t37)
 (K .ret ⟨[(4,Ai t6)],[]⟩)
 (K .normal ⟨[(0,As t0),(5,Ab t5),(6,Ai t6)],[]⟩))):Abj t0 t5 t6 t37 K:=cR [0,5,6] h
theorem Aml(t0:LB)(K:KK)(h:
 (K .ret ⟨[(4,Ai ((↑t0.length:Int)))],[]⟩)):Avz t0 K:=cR [] h
theorem A2x(t0:LB)(t5:Bool)(t6:Int)(K:KK)(h:
 (K .normal ⟨[(0,As t0),(5,Ab t5),(6,Ai (i64.wrap (t6+(1:Int))))],[]⟩)):Avy t0 t5 t6 K:=cR [0,5,6] h
theorem Apv(Q:QQ)(t4:Int)(h:
 (Q (Ai t4) [])):Ana Q .ret ⟨[(4,Ai t4)],[]⟩:=kq h
theorem Apw(Q:QQ)(t0:LB)(h:
 (Avz t0 (Ana Q))):O1 Q (.exit 0) ⟨[(0,As t0)],[]⟩:=kq h
theorem A7a(Q:QQ)(t4:Int)(h:
 (Q (Ai t4) [])):O1 Q .ret ⟨[(4,Ai t4)],[]⟩:=kq h
theorem A7b(K:KK)(t0:LB)(t5:Bool)(t6:Int)(h:
 (X5 t0 t5 t6 K)):Anb K .normal ⟨[(0,As t0),(5,Ab t5),(6,Ai t6)],[]⟩:=kq h
theorem A7c(K:KK)(t4:Int)(h:
 (K .ret ⟨[(4,Ai t4)],[]⟩)):O3 K .ret ⟨[(4,Ai t4)],[]⟩:=kq h
theorem A7d(K:KK)(t0:LB)(t5:Bool)(t6:Int)(h:
 (Avy t0 t5 t6 (Anb K))):O3 K .normal ⟨[(0,As t0),(5,Ab t5),(6,Ai t6)],[]⟩:=kq h
theorem A7e(K:KK)(t4:Int)(h:
 (K .ret ⟨[(4,Ai t4)],[]⟩)):Xz K .ret ⟨[(4,Ai t4)],[]⟩:=kq h
theorem A7f(K:KK)(t0:LB)(t5:Bool)(t6:Int)(h:
 (K .normal ⟨[(0,As t0),(5,Ab t5),(6,Ai t6)],[]⟩)):Xz K .normal ⟨[(0,As t0),(5,Ab t5),(6,Ai t6)],[]⟩:=kq h
theorem Bkf:Bd E0.P 66 Lt.code L9 [.tmp 4]:=fq Tryz.func66
theorem Bdv(a0:LB)(a1:Int)(Q:QQ)(h:
 (X5 a0 false (if a1>(0:Int)then a1 else(0:Int)) (O1 Q))):Call E0.P Ara [As a0,Ai a1] [] Q:=fR 0 Bkf h
noncomputable def Ih:AC:=(A7 [(2,[0,1,7],[]),(4,[1,7],[]),(5,[0,1,7],[0,1,7]),(9,[0,1,7,55],[0,1,7]),(11,[0,1,7],[0,1,7,8]),(13,[0,1,7,8],[0,1,7]),(17,[1,7],[])] [4,5,6] (codeOf Tryz.f67) 0).1
abbrev Ij:Nat:=80
def X6(t0:LB)(t1:Int)(u0:LL)(K:KK):Prop:=Ba 2 E0.P Ij (A9 2 Ih).code ⟨[(0,As t0),(1,Ai t1),(7, .own Ip)],[(Ip, .arr 0 true 1 u0)]⟩ K
def Amn(t0:LB)(t1:Int)(u0:LL)(K:KK):Prop:=Ao 5 E0.P Ij (Ah 5 Ih).code ⟨[(0,As t0),(1,Ai t1),(7, .own Ip)],[(Ip, .arr 0 true 1 u0)]⟩ K
def Sg(t0:LB)(t1:Int)(t55:Bool)(u0:LL)(K:KK):Prop:=Ao 9 E0.P Ij (Ah 9 Ih).code ⟨[(0,As t0),(1,Ai t1),(7, .own Ip),(55,Ab t55)],[(Ip, .arr 0 true 1 u0)]⟩ K
def Abk(t0:LB)(t1 t8:Int)(u0:LL)(K:KK):Prop:=Ao 13 E0.P Ij (Ah 13 Ih).code ⟨[(0,As t0),(1,Ai t1),(7, .own Ip),(8, .imm (.int .u8 t8))],[(Ip, .arr 0 true 1 u0)]⟩ K
def Av1(t1:Int)(u0:LL)(K:KK):Prop:=Ao 17 E0.P Ij (Ah 17 Ih).code ⟨[(1,Ai t1),(7, .own Ip)],[(Ip, .arr 0 true 1 u0)]⟩ K
def Av0(t0:LB)(t1:Int)(u0:LL)(K:KK):Prop:=Ao 11 E0.P Ij (Ah 11 Ih).code ⟨[(0,As t0),(1,Ai t1),(7, .own Ip)],[(Ip, .arr 0 true 1 u0)]⟩ K
def Anf(Q:QQ):KK:=kE fun st=>finish 0 E0.T [.tmp 4, .tmp 5, .tmp 6] [] Q st
def Jl(Q:QQ):KK:=kF 0 (fun st=>Ao 17 E0.P Ij (Ah 17 Ih).code (mask [1,7] st) (Anf Q)) fun st=>finish 0 E0.T [.tmp 4, .tmp 5, .tmp 6] [] Q st
def Sq(K:KK):Ex→St→Prop
 | .normal,st=>Ba 2 E0.P Ij (A9 2 Ih).code (mask [0,1,7] st) K
 | .exit i,st=>K (.exit i) st
 | .goto i,st=>K (.goto i) st
 | .ret,st=>K .ret st
def Sr(K:KK):KK:=kC 1 (fun st=>K .normal (mask [0,1,7] st)) K
def Ang(K:KK):Ex→St→Prop
 | .normal,st=>Ao 13 E0.P Ij (Ah 13 Ih).code (mask [0,1,7,8] st) (Sr K)
 | .exit i,st=>(match (i.beq 1:Bool)with
 |true=>K .normal (mask [0,1,7] st)
 |false=>K (.exit i) st)
 | .goto i,st=>K (.goto i) st
 | .ret,st=>K .ret st
def O4(K:KK):Ex→St→Prop
 | .normal,st=>Ao 11 E0.P Ij (Ah 11 Ih).code (mask [0,1,7] st) (Ang K)
 | .exit i,st=>(match (i.beq 1:Bool)with
 |true=>K .normal (mask [0,1,7] st)
 |false=>K (.exit i) st)
 | .goto i,st=>K (.goto i) st
 | .ret,st=>K .ret st
theorem Ap3(t0:LB)(t1:Int)(u0:LL)(K:KK)(h:
 (Ag (decide (t1<(↑t0.length:Int))=true→(0:Int)≤t1∧t1<(↑t0.length:Int))
 (Br (decide (t1<(↑t0.length:Int)) == true)
 (Call E0.P Og [.imm (.int .u8 ((↑(t0.getD t1.toNat 0).toNat:Int)))] [] fun r0 g0=>
 Ag (Pj g0 r0)
 (Let (decide (rI r0=(2:Int))) fun x1=>
 Br (x1)
 (Amn t0 t1 u0 (Sq K))
 (K (.exit 0) ⟨[(1,Ai t1),(7, .own Ip)],[(Ip, .arr 0 true 1 u0)]⟩)))
 (Ag ((!true)=false)
 (Let (false) fun x2=>
 Br (x2)
 (Amn t0 t1 u0 (Sq K))
 (K (.exit 0) ⟨[(1,Ai t1),(7, .own Ip)],[(Ip, .arr 0 true 1 u0)]⟩)))))):X6 t0 t1 u0 K:=lR [0,1,7] h
theorem A6i(t0:LB)(t1:Int)(u0:LL)(K:KK)(h:
 (Ag ((0:Int)≤t1∧t1<(↑t0.length:Int))
 (Br (decide ((↑(t0.getD t1.toNat 0).toNat:Int)=(35:Int)))
 (Ag (decide ((↑t0.length:Int)≤i64.wrap (i64.wrap (t1+(1:Int))+(1:Int)))=false→
 (0:Int)≤i64.wrap (t1+(1:Int))∧i64.wrap (t1+(1:Int))<(↑t0.length:Int))
 (Br (decide ((↑t0.length:Int)≤i64.wrap (i64.wrap (t1+(1:Int))+(1:Int))) == false)
 (Call E0.P Rh [.imm (.int .u8 ((↑(t0.getD (i64.wrap (t1+(1:Int))).toNat 0).toNat:Int)))] [] fun r0 g0=>
 Ag (Pj g0 r0)
 (Let (decide (rI r0<(0:Int))) fun x1=>
 Ag (x1=false→
 (0:Int)≤i64.wrap (i64.wrap (t1+(1:Int))+(1:Int))∧
 i64.wrap (i64.wrap (t1+(1:Int))+(1:Int))<(↑t0.length:Int))
 (Br (x1 == false)
 (Call E0.P Rh [.imm (.int .u8 ((↑(t0.getD (i64.wrap (i64.wrap (t1+(1:Int))+(1:Int))).toNat 0).toNat:Int)))] [] fun r2 g2=>
 Ag (Pj g2 r2)
 (Let (decide (rI r2<(0:Int))) fun x3=>
 Ag (x3=false→
 (0:Int)≤i64.wrap (t1+(1:Int))∧
 i64.wrap (t1+(1:Int))≤i64.wrap (i64.wrap (t1+(1:Int))+(2:Int))∧
 i64.wrap (i64.wrap (t1+(1:Int))+(2:Int))≤(↑t0.length:Int))
 (Let (List.drop (i64.wrap (t1+(1:Int))).toNat
 (List.take (i64.wrap (i64.wrap (t1+(1:Int))+(2:Int))).toNat t0)) fun x4=>
 Let (bif x3 then true else x4 == [(48:UInt8),48]) fun x5=>
 Sg t0 (i64.wrap (t1+(1:Int))) x5 u0 (O4 K))))
 (Ag ((!false)=true)
 (Let (true) fun x6=>
 Ag (x6=false→
 (0:Int)≤i64.wrap (t1+(1:Int))∧
 i64.wrap (t1+(1:Int))≤i64.wrap (i64.wrap (t1+(1:Int))+(2:Int))∧
 i64.wrap (i64.wrap (t1+(1:Int))+(2:Int))≤(↑t0.length:Int))
 (Let (List.drop (i64.wrap (t1+(1:Int))).toNat
 (List.take (i64.wrap (i64.wrap (t1+(1:Int))+(2:Int))).toNat t0)) fun x7=>
 Let (bif x6 then true else x7 == [(48:UInt8),48]) fun x8=>
 Sg t0 (i64.wrap (t1+(1:Int))) x8 u0 (O4 K)))))))
 (Ag ((!false)=true)
 (Let (true) fun x9=>
 Ag (x9=false→
 (0:Int)≤i64.wrap (i64.wrap (t1+(1:Int))+(1:Int))∧
 i64.wrap (i64.wrap (t1+(1:Int))+(1:Int))<(↑t0.length:Int))
 (Br (x9 == false)
 (Call E0.P Rh [.imm (.int .u8 ((↑(t0.getD (i64.wrap (i64.wrap (t1+(1:Int))+(1:Int))).toNat 0).toNat:Int)))] [] fun r10 g10=>
 Ag (Pj g10 r10)
 (Let (decide (rI r10<(0:Int))) fun x11=>
 Ag (x11=false→
 (0:Int)≤i64.wrap (t1+(1:Int))∧
 i64.wrap (t1+(1:Int))≤i64.wrap (i64.wrap (t1+(1:Int))+(2:Int))∧
 i64.wrap (i64.wrap (t1+(1:Int))+(2:Int))≤(↑t0.length:Int))
 (Let (List.drop (i64.wrap (t1+(1:Int))).toNat
 (List.take (i64.wrap (i64.wrap (t1+(1:Int))+(2:Int))).toNat t0)) fun x12=>
 Let (bif x11 then true else x12 == [(48:UInt8),48]) fun x13=>
 Sg t0 (i64.wrap (t1+(1:Int))) x13 u0 (O4 K))))
 (Ag ((!false)=true)
 (Let (true) fun x14=>
 Ag (x14=false→
 (0:Int)≤i64.wrap (t1+(1:Int))∧
 i64.wrap (t1+(1:Int))≤i64.wrap (i64.wrap (t1+(1:Int))+(2:Int))∧
 i64.wrap (i64.wrap (t1+(1:Int))+(2:Int))≤(↑t0.length:Int))
 (Let (List.drop (i64.wrap (t1+(1:Int))).toNat
 (List.take (i64.wrap (i64.wrap (t1+(1:Int))+(2:Int))).toNat t0)) fun x15=>
 Let (bif x14 then true else x15 == [(48:UInt8),48]) fun x16=>
 Sg t0 (i64.wrap (t1+(1:Int))) x16 u0 (O4 K)))))))))
 (Abk t0 (i64.wrap (t1+(1:Int))) ((↑(t0.getD t1.toNat 0).toNat:Int)) u0 (Sr K))))):Amn t0 t1 u0 K:=cR [0,1,7] h
theorem Apo(t0:LB)(t1:Int)(t55:Bool)(u0:LL)(K:KK)(h:
 (Br (t55)
 (K .ret ⟨[(4, .imm (.str [])),(5,Ai 0),(6,Ai 4)],[]⟩)
 (K .normal ⟨[(0,As t0),(1,Ai t1),(7, .own Ip)],[(Ip, .arr 0 true 1 u0)]⟩))):Sg t0 t1 t55 u0 K:=cR [0,1,7] h
theorem A2z(t0:LB)(t1 t8:Int)(u0:LL)(K:KK)(h:
 (Ag ((u0.length+1)*1≤140737488355328∧u0.length+1≤140737488355328)
 (Br (decide ((127:Int)<(↑(u0++[[IV.int .u8 t8]]).length:Int)))
 (K .ret ⟨[(4, .imm (.str [])),(5,Ai 0),(6,Ai 8)],[]⟩)
 (K .normal ⟨[(0,As t0),(1,Ai t1),(7, .own Ip)],[(Ip, .arr 0 true 1 (u0++[[IV.int .u8 t8]]))]⟩)))):Abk t0 t1 t8 u0 K:=cR [0,1,7] h
theorem A20(t1:Int)(u0:LL)(K:KK)(h:
 (Ag (∀(r:List IV),r∈u0→Be [.int .u8] r=true)
 (K .ret ⟨[(4,As (List.map (fun r=>UInt8.ofNat (gI r 0).toNat) u0)),(5,Ai t1),(6,Ai 0)],[]⟩))):Av1 t1 u0 K:=cR [] h
theorem A2y(t0:LB)(t1:Int)(u0:LL)(K:KK)(h:
 (Ag ((0:Int)≤t1∧t1<(↑t0.length:Int))
 (Ag ((0:Int)≤i64.wrap (t1+(1:Int))∧i64.wrap (t1+(1:Int))<(↑t0.length:Int))
 (Call E0.P Rh [.imm (.int .u8 ((↑(t0.getD t1.toNat 0).toNat:Int)))] [] fun r0 g0=>
 Ag (Pj g0 r0)
 (Call E0.P Rh [.imm (.int .u8 ((↑(t0.getD (i64.wrap (t1+(1:Int))).toNat 0).toNat:Int)))] [] fun r1 g1=>
 Ag (Pj g1 r1)
 (K .normal ⟨[(0,As t0),(1,Ai (i64.wrap (t1+(2:Int)))),(7, .own Ip),(8, .imm (.int .u8 (IntKind.u8.wrap (i64.wrap (i64.wrap ((16:Int)*rI r0)+rI r1)))))],[(Ip, .arr 0 true 1 u0)]⟩)))))):Av0 t0 t1 u0 K:=cR [0,1,7,8] h
theorem A7g(Q:QQ)(t4:LB)(t5 t6:Int)(h:
 (Q (.tup [As t4,Ai t5,Ai t6]) [])):Anf Q .ret ⟨[(4,As t4),(5,Ai t5),(6,Ai t6)],[]⟩:=kq h
theorem A7h(Q:QQ)(t1:Int)(u0:LL)(h:
 (Av1 t1 u0 (Anf Q))):Jl Q (.exit 0) ⟨[(1,Ai t1),(7, .own Ip)],[(Ip, .arr 0 true 1 u0)]⟩:=kq h
theorem A7i(Q:QQ)(t4:LB)(t5 t6:Int)(h:
 (Q (.tup [As t4,Ai t5,Ai t6]) [])):Jl Q .ret ⟨[(4,As t4),(5,Ai t5),(6,Ai t6)],[]⟩:=kq h
theorem Ad3(K:KK)(t4:LB)(t5 t6:Int)(h:
 (K .ret ⟨[(4,As t4),(5,Ai t5),(6,Ai t6)],[]⟩)):Sq K .ret ⟨[(4,As t4),(5,Ai t5),(6,Ai t6)],[]⟩:=kq h
theorem A7j(K:KK)(t0:LB)(t1:Int)(u0:LL)(h:
 (X6 t0 t1 u0 K)):Sq K .normal ⟨[(0,As t0),(1,Ai t1),(7, .own Ip)],[(Ip, .arr 0 true 1 u0)]⟩:=kq h
theorem A7k(K:KK)(t4:LB)(t5 t6:Int)(h:
 (K .ret ⟨[(4,As t4),(5,Ai t5),(6,Ai t6)],[]⟩)):Sr K .ret ⟨[(4,As t4),(5,Ai t5),(6,Ai t6)],[]⟩:=kq h
theorem A7l(K:KK)(t0:LB)(t1:Int)(u0:LL)(h:
 (K .normal ⟨[(0,As t0),(1,Ai t1),(7, .own Ip)],[(Ip, .arr 0 true 1 u0)]⟩)):Sr K .normal ⟨[(0,As t0),(1,Ai t1),(7, .own Ip)],[(Ip, .arr 0 true 1 u0)]⟩:=kq h
theorem A7m(K:KK)(t0:LB)(t1 t8:Int)(u0:LL)(h:
 (Abk t0 t1 t8 u0 (Sr K))):Ang K .normal ⟨[(0,As t0),(1,Ai t1),(7, .own Ip),(8, .imm (.int .u8 t8))],[(Ip, .arr 0 true 1 u0)]⟩:=kq h
theorem Apx(K:KK)(t4:LB)(t5 t6:Int)(h:
 (K .ret ⟨[(4,As t4),(5,Ai t5),(6,Ai t6)],[]⟩)):O4 K .ret ⟨[(4,As t4),(5,Ai t5),(6,Ai t6)],[]⟩:=kq h
theorem A7n(K:KK)(t0:LB)(t1:Int)(u0:LL)(h:
 (Av0 t0 t1 u0 (Ang K))):O4 K .normal ⟨[(0,As t0),(1,Ai t1),(7, .own Ip)],[(Ip, .arr 0 true 1 u0)]⟩:=kq h
theorem Bkg:Bd E0.P 67 Ih.code Ij [.tmp 4, .tmp 5, .tmp 6]:=fq Tryz.func67
theorem Bdw(a0:LB)(a1:Int)(Q:QQ)(h:
 (X6 a0 a1 [] (Jl Q))):Call E0.P Arb [As a0,Ai a1] [] Q:=fR 0 Bkg h
noncomputable def Bjq:AC:=(A7 [] [10,11] (codeOf Tryz.f68) 0).1
abbrev Bj7:Nat:=21
theorem Bkh:Bd E0.P 68 Bjq.code Bj7 [.cell 10 78, .tmp 11]:=fq Tryz.func68
theorem Bdx(a0 a1:Int)(a2:LB)(a3 a4:Int)(Q:QQ)(h:
 (Br (!decide (a4=(0:Int)))
 (Q (.tup [.imm (.agg [.int .i64 0, .int .i64 0, .str [], .int .i64 0, .int .i64 0]),Ai a4]) [])
 (Q (.tup [.imm (.agg [.int .i64 a0, .int .i64 0, .str a2, .int .i64 a1, .int .i64 a3]),Ai 0]) []))):Call E0.P Abd [Ai a0,Ai a1,As a2,Ai a3,Ai a4] [] Q:=fR 0 Bkh h
noncomputable def Tc:AC:=(A7 [(3,[0,1,7,8],[]),(5,[],[]),(16,[0,7,8,9,10],[0,1,7,8]),(24,[],[])] [4,5,6] (codeOf Tryz.f69) 0).1
abbrev Tx:Nat:=67
def Abw(t0:LB)(t1:Int)(t7:LB)(t8:Int)(K:KK):Prop:=Ba 3 E0.P Tx (A9 3 Tc).code ⟨[(0,As t0),(1,Ai t1),(7,As t7),(8,Ai t8)],[]⟩ K
def Iw(t0 t7:LB)(t8:Int)(t9:LB)(t10:Int)(K:KK):Prop:=Ao 16 E0.P Tx (Ah 16 Tc).code ⟨[(0,As t0),(7,As t7),(8,Ai t8),(9,As t9),(10,Ai t10)],[]⟩ K
def Ary(K:KK):Prop:=Ao 24 E0.P Tx (Ah 24 Tc).code ⟨[],[]⟩ K
def Ajl(Q:QQ):KK:=kE fun st=>finish 0 E0.T [.tmp 4, .tmp 5, .tmp 6] [] Q st
def Ni(Q:QQ):KK:=kF 0 (fun st=>Ao 24 E0.P Tx (Ah 24 Tc).code (mask [] st) (Ajl Q)) fun st=>finish 0 E0.T [.tmp 4, .tmp 5, .tmp 6] [] Q st
def Im(K:KK):KK:=kC 1 (fun st=>Ba 3 E0.P Tx (A9 3 Tc).code (mask [0,1,7,8] st) K) K
theorem An0(t0:LB)(t1:Int)(t7:LB)(t8:Int)(K:KK)(h:
 (Br (decide (t1<(↑t0.length:Int)))
 (Ag ((0:Int)≤t1∧t1≤i64.wrap (t1+(1:Int))∧i64.wrap (t1+(1:Int))≤(↑t0.length:Int))
 (Let (List.drop t1.toNat (List.take (i64.wrap (t1+(1:Int))).toNat t0)) fun x0=>
 Call E0.P Ah0 [As t0,Ai t1] [] fun r1 g1=>
 Ag (Pj g1 r1)
 (Br (decide ((0:Int)<rI r1))
 (Iw t0 t7 t8 [(10:UInt8)] (i64.wrap (t1+rI r1)) (Im K))
 (Ag ((0:Int)≤t1∧t1<(↑t0.length:Int))
 (Br (decide ((↑(t0.getD t1.toNat 0).toNat:Int)=(92:Int)))
 (Call E0.P Afb [As t0,Ai (i64.wrap (t1+(1:Int)))] [] fun r2 g2=>
 Ag (g2=[]∧r2= .tup [.imm (.str (rS (rT r2 0))), .imm (.int .i64 (rI (rT r2 1)))])
 (Br (decide (rI (rT r2 1)<(0:Int)))
 (K .ret ⟨[(4, .imm (.str [])),(5,Ai 0),(6,Ai 5)],[]⟩)
 (Iw t0 t7 t8 (rS (rT r2 0)) (rI (rT r2 1)) (Im K))))
 (Ag ((0:Int)≤t1∧t1<(↑t0.length:Int))
 (Br (decide ((↑(t0.getD t1.toNat 0).toNat:Int)=(40:Int)))
 (Iw t0 t7 (i64.wrap (t8+(1:Int))) x0 (i64.wrap (t1+(1:Int))) (Im K))
 (Ag ((0:Int)≤t1∧t1<(↑t0.length:Int))
 (Br (decide ((↑(t0.getD t1.toNat 0).toNat:Int)=(41:Int)))
 (Iw t0 t7 (i64.wrap (t8 - (1:Int))) x0 (i64.wrap (t1+(1:Int))) (Im K))
 (Iw t0 t7 t8 x0 (i64.wrap (t1+(1:Int))) (Im K)))))))))))
 (K (.exit 0) ⟨[],[]⟩))):Abw t0 t1 t7 t8 K:=lR [0,1,7,8] h
theorem Akn(t0 t7:LB)(t8:Int)(t9:LB)(t10:Int)(K:KK)(h:
 (Br (decide (t8=(0:Int)))
 (K .ret ⟨[(4,As t7),(5,Ai t10),(6,Ai 0)],[]⟩)
 (Ag ((↑(t7.length+t9.length):Int)≤(9223372036854775807:Int))
 (Br (decide ((65535:Int)<(↑(t7++t9).length:Int)))
 (K .ret ⟨[(4, .imm (.str [])),(5,Ai 0),(6,Ai 8)],[]⟩)
 (K .normal ⟨[(0,As t0),(1,Ai t10),(7,As (t7++t9)),(8,Ai t8)],[]⟩))))):Iw t0 t7 t8 t9 t10 K:=cR [0,1,7,8] h
theorem A01(K:KK)(h:
 (K .ret ⟨[(4, .imm (.str [])),(5,Ai 0),(6,Ai 5)],[]⟩)):Ary K:=cR [] h
theorem A32(Q:QQ)(t4:LB)(t5 t6:Int)(h:
 (Q (.tup [As t4,Ai t5,Ai t6]) [])):Ajl Q .ret ⟨[(4,As t4),(5,Ai t5),(6,Ai t6)],[]⟩:=kq h
theorem Anh(Q:QQ)(t4:LB)(t5 t6:Int)(h:
 (Q (.tup [As t4,Ai t5,Ai t6]) [])):Ni Q .ret ⟨[(4,As t4),(5,Ai t5),(6,Ai t6)],[]⟩:=kq h
theorem A33(Q:QQ)(h:
 (Ary (Ajl Q))):Ni Q (.exit 0) ⟨[],[]⟩:=kq h
theorem Ani(K:KK)(t4:LB)(t5 t6:Int)(h:
 (K .ret ⟨[(4,As t4),(5,Ai t5),(6,Ai t6)],[]⟩)):Im K .ret ⟨[(4,As t4),(5,Ai t5),(6,Ai t6)],[]⟩:=kq h
theorem A34(K:KK)(t0:LB)(t1:Int)(t7:LB)(t8:Int)(h:
 (Abw t0 t1 t7 t8 K)):Im K .normal ⟨[(0,As t0),(1,Ai t1),(7,As t7),(8,Ai t8)],[]⟩:=kq h
theorem Bic:Bd E0.P 69 Tc.code Tx [.tmp 4, .tmp 5, .tmp 6]:=fq Tryz.func69
theorem A9u(a0:LB)(a1:Int)(Q:QQ)(h:
 (Abw a0 a1 [] ((1:Int)) (Ni Q))):Call E0.P Aoj [As a0,Ai a1] [] Q:=fR 0 Bic h
noncomputable def Lu:AC:=(A7 [(3,[0,1,7,8],[]),(5,[],[]),(14,[0,1,7,8,9,10,40],[0,1,7,8,9,10]),(16,[0,1,7,8,9,10],[0,1,7,8]),(20,[0,1,7,8,9],[0,1,7,8]),(26,[],[])] [4,5,6] (codeOf Tryz.f70) 0).1
abbrev Ma:Nat:=66
def Aa5(t0:LB)(t1 t8:Int)(u0:LL)(K:KK):Prop:=Ba 3 E0.P Ma (A9 3 Lu).code ⟨[(0,As t0),(1,Ai t1),(7, .own Qi),(8,Ai t8)],[(Qi, .arr 0 true 1 u0)]⟩ K
def Amm(t0:LB)(t1 t8:Int)(t9 t10:Int)(u0:LL)(K:KK):Prop:=Ao 16 E0.P Ma (Ah 16 Lu).code ⟨[(0,As t0),(1,Ai t1),(7, .own Qi),(8,Ai t8),(9, .imm (.int .u8 t9)),(10,Ai t10)],[(Qi, .arr 0 true 1 u0)]⟩ K
def Adt(t0:LB)(t1 t8:Int)(t9 t10:Int)(t40:Bool)(u0:LL)(K:KK):Prop:=Ao 14 E0.P Ma (Ah 14 Lu).code ⟨[(0,As t0),(1,Ai t1),(7, .own Qi),(8,Ai t8),(9, .imm (.int .u8 t9)),(10,Ai t10),(40,Ab t40)],[(Qi, .arr 0 true 1 u0)]⟩ K
def Xq(t0:LB)(t1 t8 t9:Int)(u0:LL)(K:KK):Prop:=Ao 20 E0.P Ma (Ah 20 Lu).code ⟨[(0,As t0),(1,Ai t1),(7, .own Qi),(8,Ai t8),(9, .imm (.int .u8 t9))],[(Qi, .arr 0 true 1 u0)]⟩ K
def Axp(K:KK):Prop:=Ao 26 E0.P Ma (Ah 26 Lu).code ⟨[],[]⟩ K
def Aqs(Q:QQ):KK:=kE fun st=>finish 0 E0.T [.tmp 4, .tmp 5, .tmp 6] [] Q st
def Rp(Q:QQ):KK:=kF 0 (fun st=>Ao 26 E0.P Ma (Ah 26 Lu).code (mask [] st) (Aqs Q)) fun st=>finish 0 E0.T [.tmp 4, .tmp 5, .tmp 6] [] Q st
def V4(K:KK):KK:=kC 1 (fun st=>Ba 3 E0.P Ma (A9 3 Lu).code (mask [0,1,7,8] st) K) K
def Aa3(K:KK):Ex→St→Prop
 | .normal,st=>Ao 16 E0.P Ma (Ah 16 Lu).code (mask [0,1,7,8,9,10] st) (V4 K)
 | .exit i,st=>(match (i.beq 1:Bool)with
 |true=>Ba 3 E0.P Ma (A9 3 Lu).code (mask [0,1,7,8] st) K
 |false=>K (.exit i) st)
 | .goto i,st=>K (.goto i) st
 | .ret,st=>K .ret st
def V5(K:KK):KK:=kP [0,1,7,8] K
theorem Aso(t0:LB)(t1 t8:Int)(u0:LL)(K:KK)(h:
 (Br (decide (t1<(↑t0.length:Int)))
 (Ag ((0:Int)≤t1∧t1<(↑t0.length:Int))
 (Call E0.P Rh [.imm (.int .u8 ((↑(t0.getD t1.toNat 0).toNat:Int)))] [] fun r0 g0=>
 Ag (Pj g0 r0)
 (Let (bif decide ((↑(t0.getD t1.toNat 0).toNat:Int)=(62:Int))then decide (t8<(0:Int))else false) fun x1=>
 Br (x1)
 (Ag (∀(r:List IV),r∈u0→Be [.int .u8] r=true)
 (K .ret ⟨[(4,As (List.map (fun r=>UInt8.ofNat (gI r 0).toNat) u0)),(5,Ai (i64.wrap (t1+(1:Int)))),(6,Ai 0)],[]⟩))
 (Br (decide ((↑(t0.getD t1.toNat 0).toNat:Int)=(62:Int)))
 (Amm t0 (i64.wrap (t1+(1:Int))) t8 ((↑(t0.getD t1.toNat 0).toNat:Int)) ((0:Int)) u0 (V4 K))
 (Br (decide (rI r0<(0:Int)) == true)
 (Call E0.P Og [.imm (.int .u8 ((↑(t0.getD t1.toNat 0).toNat:Int)))] [] fun r2 g2=>
 Ag (Pj g2 r2)
 (Let (!decide (rI r2=(0:Int))) fun x3=>
 Adt t0 (i64.wrap (t1+(1:Int))) t8 ((↑(t0.getD t1.toNat 0).toNat:Int)) (rI r0) x3 u0 (Aa3 K)))
 (Ag ((!true)=false)
 (Let (false) fun x4=>
 Adt t0 (i64.wrap (t1+(1:Int))) t8 ((↑(t0.getD t1.toNat 0).toNat:Int)) (rI r0) x4 u0 (Aa3 K))))))))
 (K (.exit 0) ⟨[],[]⟩))):Aa5 t0 t1 t8 u0 K:=lR [0,1,7,8] h
theorem Apn(t0:LB)(t1 t8:Int)(t9 t10:Int)(u0:LL)(K:KK)(h:
 (Let (bif decide ((0:Int)≤t10)then decide (t8<(0:Int))else false) fun x0=>
 Br (x0)
 (Xq t0 t1 t10 t9 u0 (V5 K))
 (Br (decide ((0:Int)≤t10))
 (Ag ((u0.length+1)*1≤140737488355328∧u0.length+1≤140737488355328)
 (Xq t0 t1 ((-1:Int)) t9 (u0++[[IV.int .u8 (IntKind.u8.wrap (i64.wrap (i64.wrap ((16:Int)*t8)+t10)))]]) (V5 K)))
 (Xq t0 t1 t8 t9 u0 (V5 K))))):Amm t0 t1 t8 t9 t10 u0 K:=cR [0,1,7,8] h
theorem Apm(t0:LB)(t1 t8:Int)(t9 t10:Int)(t40:Bool)(u0:LL)(K:KK)(h:
 (Br (t40)
 (K .ret ⟨[(4, .imm (.str [])),(5,Ai 0),(6,Ai 4)],[]⟩)
 (K .normal ⟨[(0,As t0),(1,Ai t1),(7, .own Qi),(8,Ai t8),(9, .imm (.int .u8 t9)),(10,Ai t10)],[(Qi, .arr 0 true 1 u0)]⟩))):Adt t0 t1 t8 t9 t10 t40 u0 K:=cR [0,1,7,8,9,10] h
theorem Adu(t0:LB)(t1 t8 t9:Int)(u0:LL)(K:KK)(h:
 (Br (decide ((65535:Int)<(↑u0.length:Int)))
 (K .ret ⟨[(4, .imm (.str [])),(5,Ai 0),(6,Ai 8)],[]⟩)
 (Br (decide (t9=(62:Int)))
 (Ag (∀(r:List IV),r∈u0→Be [.int .u8] r=true)
 (K .ret ⟨[(4,As (List.map (fun r=>UInt8.ofNat (gI r 0).toNat) u0)),(5,Ai t1),(6,Ai 0)],[]⟩))
 (K .normal ⟨[(0,As t0),(1,Ai t1),(7, .own Qi),(8,Ai t8)],[(Qi, .arr 0 true 1 u0)]⟩)))):Xq t0 t1 t8 t9 u0 K:=cR [0,1,7,8] h
theorem A6h(K:KK)(h:
 (K .ret ⟨[(4, .imm (.str [])),(5,Ai 0),(6,Ai 5)],[]⟩)):Axp K:=cR [] h
theorem A99(Q:QQ)(t4:LB)(t5 t6:Int)(h:
 (Q (.tup [As t4,Ai t5,Ai t6]) [])):Aqs Q .ret ⟨[(4,As t4),(5,Ai t5),(6,Ai t6)],[]⟩:=kq h
theorem Sn(Q:QQ)(t4:LB)(t5 t6:Int)(h:
 (Q (.tup [As t4,Ai t5,Ai t6]) [])):Rp Q .ret ⟨[(4,As t4),(5,Ai t5),(6,Ai t6)],[]⟩:=kq h
theorem Baa(Q:QQ)(h:
 (Axp (Aqs Q))):Rp Q (.exit 0) ⟨[],[]⟩:=kq h
theorem Asf(K:KK)(t4:LB)(t5 t6:Int)(h:
 (K .ret ⟨[(4,As t4),(5,Ai t5),(6,Ai t6)],[]⟩)):V4 K .ret ⟨[(4,As t4),(5,Ai t5),(6,Ai t6)],[]⟩:=kq h
theorem Bab(K:KK)(t0:LB)(t1 t8:Int)(u0:LL)(h:
 (Aa5 t0 t1 t8 u0 K)):V4 K .normal ⟨[(0,As t0),(1,Ai t1),(7, .own Qi),(8,Ai t8)],[(Qi, .arr 0 true 1 u0)]⟩:=kq h
theorem Bac(K:KK)(t4:LB)(t5 t6:Int)(h:
 (K .ret ⟨[(4,As t4),(5,Ai t5),(6,Ai t6)],[]⟩)):Aa3 K .ret ⟨[(4,As t4),(5,Ai t5),(6,Ai t6)],[]⟩:=kq h
theorem Bad(K:KK)(t0:LB)(t1 t8:Int)(t9 t10:Int)(u0:LL)(h:
 (Amm t0 t1 t8 t9 t10 u0 (V4 K))):Aa3 K .normal ⟨[(0,As t0),(1,Ai t1),(7, .own Qi),(8,Ai t8),(9, .imm (.int .u8 t9)),(10,Ai t10)],[(Qi, .arr 0 true 1 u0)]⟩:=kq h
theorem Ago(K:KK)(t4:LB)(t5 t6:Int)(h:
 (K .ret ⟨[(4,As t4),(5,Ai t5),(6,Ai t6)],[]⟩)):V5 K .ret ⟨[(4,As t4),(5,Ai t5),(6,Ai t6)],[]⟩:=kq h
theorem Bae(K:KK)(t0:LB)(t1 t8:Int)(u0:LL)(h:
 (K .normal ⟨[(0,As t0),(1,Ai t1),(7, .own Qi),(8,Ai t8)],[(Qi, .arr 0 true 1 u0)]⟩)):V5 K .normal ⟨[(0,As t0),(1,Ai t1),(7, .own Qi),(8,Ai t8)],[(Qi, .arr 0 true 1 u0)]⟩:=kq h
theorem Bnb:Bd E0.P 70 Lu.code Ma [.tmp 4, .tmp 5, .tmp 6]:=fq Tryz.func70
theorem Bfq(a0:LB)(a1:Int)(Q:QQ)(h:
 (Aa5 a0 a1 ((-1:Int)) [] (Rp Q))):Call E0.P Aus [As a0,Ai a1] [] Q:=fR 0 Bnb h
noncomputable def Bjo:AC:=(A7 [] [2] (codeOf Tryz.f71) 0).1
abbrev Bj5:Nat:=7
theorem Bkc:Bd E0.P 71 Bjo.code Bj5 [.tmp 2]:=fq Tryz.func71
theorem Bds(a0:Int)(Q:QQ)(h:
 (Call E0.P Aiy [.imm (.str [0,9,10,12,13,32]), .imm (.int .u8 a0)] [] fun r0 g0=>
 Ag (qP8 g0 r0)
 (Br (rB r0)
 (Q (Ai 0) [])
 (Call E0.P Aiy [.imm (.str [40,41,60,62,91,93,123,125,
 47,37]), .imm (.int .u8 a0)] [] fun r1 g1=>
 Ag (qP8 g1 r1)
 (Br (rB r1)
 (Q (Ai 1) [])
 (Q (Ai 2) [])))))):Call E0.P Og [.imm (.int .u8 a0)] [] Q:=fR 0 Bkc h
noncomputable def Bjr:AC:=(A7 [] [4,5] (codeOf Tryz.f72) 0).1
abbrev Bj8:Nat:=45
theorem Bki:Bd E0.P 72 Bjr.code Bj8 [.cell 4 78, .tmp 5]:=fq Tryz.func72
theorem Bdy(a0:LB)(a1:Int)(Q:QQ)(h:
 (Call E0.P Aq9 [As a0,Ai a1, .imm (.sl .any 1 [[IV.int .i64 (2:Int)]])] [] fun r0 g0=>
 Ag (Pj g0 r0)
 (Ag ((0:Int)≤a1∧a1≤i64.wrap (a1+rI r0)∧i64.wrap (a1+rI r0)≤(↑a0.length:Int))
 (Let (List.drop a1.toNat (List.take (i64.wrap (a1+rI r0)).toNat a0)) fun x1=>
 Call E0.P Aoi [As x1] [] fun r2 g2=>
 Ag (qP9 g2 r2)
 (Br (decide (rI (rT r2 1)=(0:Int)))
 (Q (.tup [.imm (.agg [.int .i64 1, .int .i64 (rI (rT r2 0)), .str [], .int .i64 a1, .int .i64 (i64.wrap (a1+rI r0))]),Ai 0]) [])
 (Br (decide (rI (rT r2 1)=(3:Int)))
 (Q (.tup [.imm (.agg [.int .i64 0, .int .i64 0, .str [], .int .i64 0, .int .i64 0]),Ai 3]) [])
 (Br (decide ((127:Int)<rI r0))
 (Q (.tup [.imm (.agg [.int .i64 0, .int .i64 0, .str [], .int .i64 0, .int .i64 0]),Ai 8]) [])
 (Q (.tup [.imm (.agg [.int .i64 8, .int .i64 0, .str x1, .int .i64 a1, .int .i64 (i64.wrap (a1+rI r0))]),Ai 0]) [])))))))):Call E0.P Arc [As a0,Ai a1] [] Q:=fR 0 Bki h
noncomputable def Aet:AC:=(A7 [(7,[0,4],[])] [2,3] (codeOf Tryz.f153) 0).1
abbrev Afr:Nat:=52
def Mq(u0:LB)(u1 u2:Int)(u3:LB)(u4:Int)(K:KK):Prop:=Ao 7 E0.P Afr (Ah 7 Aet).code ⟨[(0, .ptr Af 0),(4, .ptr nL4 0)],[(Af, .blk Ap [As u0,Ai u1,Ai u2]),(nL4, .blk A9m [As u3,Ai u4])]⟩ K
def Mv(s:LB)(at_ win:Int)(Q:QQ):KK:=kE fun st=>finish 0 E0.T [.tmp 2, .tmp 3] [(Af, .blk Ap [As s,Ai at_,Ai win])] Q st
theorem Ami(u0:LB)(u1 u2:Int)(u3:LB)(u4:Int)(K:KK)(h:
 (K .ret ⟨[(2,Ai 0),(3,Ab false)],[(Af, .blk Ap [As u3,Ai u4,Ai u2])]⟩)):Mq u0 u1 u2 u3 u4 K:=cR [] h
theorem Am0(s:LB)(at_ win:Int)(Q:QQ)(t2:Int)(t3:Bool)(u0:LB)(u1 u2:Int)(h:
 (Q (.tup [Ai t2,Ab t3]) [(Af, .blk Ap [As u0,Ai u1,Ai u2])])):Mv s at_ win Q .ret ⟨[(2,Ai t2),(3,Ab t3)],[(Af, .blk Ap [As u0,Ai u1,Ai u2])]⟩:=kq h
theorem Au9:Bd E0.P 153 Aet.code Afr [.tmp 2, .tmp 3]:=fq Tryz.func153
theorem Aa1(s:LB)(at_ win:Int)(Q:QQ)(h:
 (Call E0.P F9 [.ptr Af 0] [(Af, .blk Ap [As s,Ai at_,Ai win])] fun r0 g0=>
 Ag (qP4 g0 r0)
 (Let (bif decide (rI (rT r0 1)=(0:Int))then decide (gI (Ac (rT r0 0)) 0=(1:Int))
 else false) fun x1=>
 Br (x1)
 (Call E0.P F9 [.ptr Af 0] [(Af, .blk Ap [.imm (.str (rS ((Au g0 Af).getD 0 AV.undef))), .imm (.int .i64 (rI ((Au g0 Af).getD 1 AV.undef))), .imm (.int .i64 (rI ((Au g0 Af).getD 2 AV.undef)))])] fun r2 g2=>
 Ag (qP4 g2 r2)
 (Let (bif decide (rI (rT r2 1)=(0:Int))then decide (gI (Ac (rT r2 0)) 0=(8:Int))
 else false) fun x3=>
 Let (bif x3 then gS (Ac (rT r2 0)) 2 == [(82:UInt8)]else false) fun x4=>
 Br (x4)
 (Q (.tup [Ai (gI (Ac (rT r0 0)) 1),Ab true]) [(Af, .blk Ap [.imm (.str (rS ((Au g2 Af).getD 0 AV.undef))), .imm (.int .i64 (rI ((Au g2 Af).getD 1 AV.undef))), .imm (.int .i64 (rI ((Au g2 Af).getD 2 AV.undef)))])])
 (Mq (rS ((Au g2 Af).getD 0 AV.undef)) (rI ((Au g2 Af).getD 1 AV.undef)) (rI ((Au g2 Af).getD 2 AV.undef)) s at_ (Mv s at_ win Q))))
 (Mq (rS ((Au g0 Af).getD 0 AV.undef)) (rI ((Au g0 Af).getD 1 AV.undef)) (rI ((Au g0 Af).getD 2 AV.undef)) s at_ (Mv s at_ win Q))))):Call E0.P N9 [.ptr (.arg 0) 0] [(.arg 0, .blk Ap [.imm (.str s), .imm (.int .i64 at_), .imm (.int .i64 win)])] Q:=fR 0 Au9 h
noncomputable def Axf:AC:=(A7 [] [4,5,6] (codeOf Tryz.f154) 0).1
abbrev Axh:Nat:=45
theorem Axj:Bd E0.P 154 Axf.code Axh [.tmp 4, .tmp 5, .tmp 6]:=fq Tryz.func154
theorem Ar9(s:LB)(at_ win:Int)(m:List (List UInt8 × Int))(Q:QQ)(h:
 (Call E0.P F9 [.ptr Af 0] [(Af, .blk Ap [As s,Ai at_,Ai win])] fun r0 g0=>
 Ag (qP4 g0 r0)
 (Br (!decide (rI (rT r0 1)=(0:Int)))
 (Q (.tup [.imm (.str []),Ab false,Ai (rI (rT r0 1))]) [(Af, .blk Ap [.imm (.str (rS ((Au g0 Af).getD 0 AV.undef))), .imm (.int .i64 (rI ((Au g0 Af).getD 1 AV.undef))), .imm (.int .i64 (rI ((Au g0 Af).getD 2 AV.undef)))]),(Ar, .map m)])
 (Br (decide (gI (Ac (rT r0 0)) 0=(0:Int)))
 (Q (.tup [.imm (.str []),Ab false,Ai 5]) [(Af, .blk Ap [.imm (.str (rS ((Au g0 Af).getD 0 AV.undef))), .imm (.int .i64 (rI ((Au g0 Af).getD 1 AV.undef))), .imm (.int .i64 (rI ((Au g0 Af).getD 2 AV.undef)))]),(Ar, .map m)])
 (Br (decide (gI (Ac (rT r0 0)) 0=(7:Int)))
 (Q (.tup [.imm (.str []),Ab false,Ai 0]) [(Af, .blk Ap [.imm (.str (rS ((Au g0 Af).getD 0 AV.undef))), .imm (.int .i64 (rI ((Au g0 Af).getD 1 AV.undef))), .imm (.int .i64 (rI ((Au g0 Af).getD 2 AV.undef)))]),(Ar, .map m)])
 (Br (!decide (gI (Ac (rT r0 0)) 0=(2:Int)))
 (Q (.tup [.imm (.str []),Ab false,Ai 4]) [(Af, .blk Ap [.imm (.str (rS ((Au g0 Af).getD 0 AV.undef))), .imm (.int .i64 (rI ((Au g0 Af).getD 1 AV.undef))), .imm (.int .i64 (rI ((Au g0 Af).getD 2 AV.undef)))]),(Ar, .map m)])
 (Br (decide ((0:Int)<Cy m (gS (Ac (rT r0 0)) 2)))
 (Q (.tup [.imm (.str []),Ab false,Ai 11]) [(Af, .blk Ap [.imm (.str (rS ((Au g0 Af).getD 0 AV.undef))), .imm (.int .i64 (rI ((Au g0 Af).getD 1 AV.undef))), .imm (.int .i64 (rI ((Au g0 Af).getD 2 AV.undef)))]),(Ar, .map m)])
 (Q (.tup [As (gS (Ac (rT r0 0)) 2),Ab true,Ai 0]) [(Af, .blk Ap [.imm (.str (rS ((Au g0 Af).getD 0 AV.undef))), .imm (.int .i64 (rI ((Au g0 Af).getD 1 AV.undef))), .imm (.int .i64 (rI ((Au g0 Af).getD 2 AV.undef)))]),(Ar, .map (mUp m (gS (Ac (rT r0 0)) 2)
 (i64.wrap (Cy m (gS (Ac (rT r0 0)) 2)+(1:Int)))))])))))))):Call E0.P Wj [.ptr (.arg 0) 0, .mp (.arg 1)] [(.arg 0, .blk Ap [.imm (.str s), .imm (.int .i64 at_), .imm (.int .i64 win)]),(.arg 1, .map m)] Q:=fR 0 Axj h
noncomputable def Bjs:AC:=(A7 [] [4,5,6] (codeOf Tryz.f139) 0).1
abbrev Bj9:Nat:=53
theorem Bkl:Bd E0.P 139 Bjs.code Bj9 [.cell 4 28, .tmp 5, .tmp 6]:=fq Tryz.func139
theorem Av6(a0:LB)(a1_0 a1_1:Int)(a1_2:LB)(a1_3 a1_4:Int)(Q:QQ)(h:
 (Call E0.P L8 [As a0,Ai a1_4] [] fun r0 g0=>
 Ag (qP3 g0 r0)
 (Let (bif !decide (rI (rT r0 1)=(0:Int))then true
 else !decide (gI (Ac (rT r0 0)) 0=(1:Int))) fun x1=>
 Br (x1)
 (Q (.tup [.imm (.agg [.int .i64 0, .int .i64 0, .int .i64 0, .str [], .sl .any 6 [], .sl .any 7 []]),Ai 0,Ab false]) [])
 (Call E0.P L8 [As a0,Ai (gI (Ac (rT r0 0)) 4)] [] fun r2 g2=>
 Ag (qP3 g2 r2)
 (Let (bif !decide (rI (rT r2 1)=(0:Int))then true
 else !decide (gI (Ac (rT r2 0)) 0=(8:Int))) fun x3=>
 Let (bif x3 then true else !gS (Ac (rT r2 0)) 2 == [(82:UInt8)]) fun x4=>
 Br (x4)
 (Q (.tup [.imm (.agg [.int .i64 0, .int .i64 0, .int .i64 0, .str [], .sl .any 6 [], .sl .any 7 []]),Ai 0,Ab false]) [])
 (Q (.tup [.imm (.agg [.int .i64 7, .int .i64 a1_1, .int .i64 (gI (Ac (rT r0 0)) 1), .str [], .sl .any 6 [], .sl .any 7 []]),Ai (gI (Ac (rT r2 0)) 4),Ab true]) [])))))):Call E0.P Ah1 [As a0, .imm (.agg [.int .i64 a1_0, .int .i64 a1_1, .str a1_2, .int .i64 a1_3, .int .i64 a1_4])] [] Q:=fR 0 Bkl h
noncomputable def Dr:AC:=(A7 [(1,[0,1,2,7],[]),(7,[0,1,2,7],[]),(9,[7],[]),(12,[0,1,2,7,22,23,24],[]),(14,[7],[]),(18,[0,1,2,7],[]),(20,[7],[0,1,2,7]),(21,[7],[]),(22,[0,1,2,7],[0,1,2,7]),(23,[7],[])] [6] (codeOf Tryz.f89) 0).1
abbrev Du:Nat:=38
def Y8(t0:LB)(t1:Int)(t2r:LL)(t7:Int)(K:KK):Prop:=Ba 7 E0.P Du (A9 7 Dr).code ⟨[(0,As t0),(1,Ai t1),(2,Al 1 t2r),(7,Ai t7)],[]⟩ K
def Aek(t0:LB)(t1:Int)(t2r:LL)(t7:Int)(t22r:LL)(t23 t24:Int)(K:KK):Prop:=Ba 12 E0.P Du (A9 12 Dr).code ⟨[(0,As t0),(1,Ai t1),(2,Al 1 t2r),(7,Ai t7),(22,Al 1 t22r),(23,Ai t23),(24,Ai t24)],[]⟩ K
def Apl(t7:Int)(K:KK):Prop:=Ao 23 E0.P Du (Ah 23 Dr).code ⟨[(7,Ai t7)],[]⟩ K
def Apk(t0:LB)(t1:Int)(t2r:LL)(t7:Int)(K:KK):Prop:=Ao 22 E0.P Du (Ah 22 Dr).code ⟨[(0,As t0),(1,Ai t1),(2,Al 1 t2r),(7,Ai t7)],[]⟩ K
def Apj(t7:Int)(K:KK):Prop:=Ao 20 E0.P Du (Ah 20 Dr).code ⟨[(7,Ai t7)],[]⟩ K
def Ase(Q:QQ):KK:=kE fun st=>finish 0 E0.T [.tmp 6] [] Q st
def Y0(Q:QQ):Ex→St→Prop
 | .normal,st=>finish 0 E0.T [.tmp 6] [] Q st
 | .exit _,_=>False
 | .goto i,st=>I6 1 E0.P Du i (J8 1 Dr).code (mask [0,1,2,7] st) (Ase Q)
 | .ret,st=>finish 0 E0.T [.tmp 6] [] Q st
def Agm(Q:QQ):Ex→St→Prop
 | .normal,st=>Ao 23 E0.P Du (Ah 23 Dr).code (mask [7] st) (Y0 Q)
 | .exit i,st=>(match (i.beq 0:Bool)with
 |true=>Ao 23 E0.P Du (Ah 23 Dr).code (mask [7] st) (Y0 Q)
 |false=>False)
 | .goto i,st=>I6 1 E0.P Du i (J8 1 Dr).code (mask [0,1,2,7] st) (Ase Q)
 | .ret,st=>finish 0 E0.T [.tmp 6] [] Q st
def Y3(K:KK):Ex→St→Prop
 | .normal,st=>Ba 7 E0.P Du (A9 7 Dr).code (mask [0,1,2,7] st) K
 | .exit i,st=>K (.exit i) st
 | .goto i,st=>K (.goto i) st
 | .ret,st=>K .ret st
def Y4(K:KK):KK:=kC 1 (fun st=>Ao 22 E0.P Du (Ah 22 Dr).code (mask [0,1,2,7] st) (Y3 K)) K
def Agn(K:KK):Ex→St→Prop
 | .normal,st=>Ao 20 E0.P Du (Ah 20 Dr).code (mask [7] st) (Y4 K)
 | .exit i,st=>(match (i.beq 2:Bool)with
 |true=>Ao 20 E0.P Du (Ah 20 Dr).code (mask [7] st) (Y4 K)
 |false=>(match (i.beq 1:Bool)with
 |true=>Ao 22 E0.P Du (Ah 22 Dr).code (mask [0,1,2,7] st) (Y3 K)
 |false=>K (.exit i) st))
 | .goto i,st=>K (.goto i) st
 | .ret,st=>K .ret st
theorem Akv(t0:LB)(t1:Int)(t2r:LL)(t7:Int)(K:KK)(h:
 (Br (decide (t7<i64.wrap ((↑t0.length:Int) - t1)))
 (Aek t0 t1 t2r t7 t2r ((↑t2r.length:Int)) ((0:Int)) (Agn K))
 (K (.exit 0) ⟨[(7,Ai t7)],[]⟩))):Y8 t0 t1 t2r t7 K:=lR [0,1,2,7] h
theorem Aio(t0:LB)(t1:Int)(t2r:LL)(t7:Int)(t22r:LL)(t23 t24:Int)(K:KK)(h:
 (Br (decide (t24<t23))
 (Ag (((0:Int)≤t24∧t24<(↑t22r.length:Int))∧Be [.int .i64] (t22r.getD t24.toNat [])=true)
 (Ag ((0:Int)≤i64.wrap (t1+t7)∧i64.wrap (t1+t7)<(↑t0.length:Int))
 (Call E0.P Nn [.imm (.int .u8 ((↑(t0.getD (i64.wrap (t1+t7)).toNat 0).toNat:Int)))] [] fun r0 g0=>
 Ag (Pj g0 r0)
 (Br (decide (rI r0=gI (t22r.getD t24.toNat []) 0))
 (K (.exit (1)) ⟨[(0,As t0),(1,Ai t1),(2,Al 1 t2r),(7,Ai t7)],[]⟩)
 (Aek t0 t1 t2r t7 t22r t23 (i64.wrap (t24+(1:Int))) K)))))
 (K (.exit (2)) ⟨[(7,Ai t7)],[]⟩))):Aek t0 t1 t2r t7 t22r t23 t24 K:=lR [0,1,2,7,22,23,24] h
theorem Aic(t7:Int)(K:KK)(h:
 (K .ret ⟨[(6,Ai t7)],[]⟩)):Apl t7 K:=cR [] h
theorem Axn(t0:LB)(t1:Int)(t2r:LL)(t7:Int)(K:KK)(h:
 (K .normal ⟨[(0,As t0),(1,Ai t1),(2,Al 1 t2r),(7,Ai (i64.wrap (t7+(1:Int))))],[]⟩)):Apk t0 t1 t2r t7 K:=cR [0,1,2,7] h
theorem Axm(t7:Int)(K:KK)(h:
 (K (.exit 0) ⟨[(7,Ai t7)],[]⟩)):Apj t7 K:=cR [0,1,2,7] h
theorem Akr(Q:QQ)(t6:Int)(h:
 (Q (Ai t6) [])):Y0 Q .ret ⟨[(6,Ai t6)],[]⟩:=kq h
theorem Aks(Q:QQ)(t7:Int)(h:
 (Apl t7 (Y0 Q))):Agm Q (.exit 0) ⟨[(7,Ai t7)],[]⟩:=kq h
theorem A1p(K:KK)(t0:LB)(t1:Int)(t2r:LL)(t7:Int)(h:
 (Y8 t0 t1 t2r t7 K)):Y3 K .normal ⟨[(0,As t0),(1,Ai t1),(2,Al 1 t2r),(7,Ai t7)],[]⟩:=kq h
theorem A1q(K:KK)(t7:Int)(h:
 (K (.exit 0) ⟨[(7,Ai t7)],[]⟩)):Y4 K (.exit 0) ⟨[(7,Ai t7)],[]⟩:=kq h
theorem A1r(K:KK)(t0:LB)(t1:Int)(t2r:LL)(t7:Int)(h:
 (Apk t0 t1 t2r t7 (Y3 K))):Agn K (.exit (1)) ⟨[(0,As t0),(1,Ai t1),(2,Al 1 t2r),(7,Ai t7)],[]⟩:=kq h
theorem A1s(K:KK)(t7:Int)(h:
 (Apj t7 (Y4 K))):Agn K (.exit (2)) ⟨[(7,Ai t7)],[]⟩:=kq h
theorem Bev:Bd E0.P 89 Dr.code Du [.tmp 6]:=fq Tryz.func89
theorem A6t(a0:LB)(a1:Int)(a2:LL)(Q:QQ)(h:
 (Call E0.P Xj [As a0,Ai a1] [] fun r0 g0=>
 Ag (qP8 g0 r0)
 (Br (!rB r0)
 (Q (Ai 0) [])
 (Y8 a0 a1 a2 ((0:Int)) (Agm Q))))):Call E0.P Vx [As a0,Ai a1,Al 1 a2] [] Q:=fR 0 Bev h
noncomputable def Bec:AC:=(A7 [] [4] (codeOf Tryz.f90) 0).1
abbrev Bel:Nat:=33
theorem Bet:Bd E0.P 90 Bec.code Bel [.tmp 4]:=fq Tryz.func90
theorem A6r(a0:LB)(a1:Int)(Q:QQ)(h:
 (Call E0.P Xj [As a0,Ai a1] [] fun r0 g0=>
 Ag (qP8 g0 r0)
 (Br (!rB r0)
 (Q (Ai 0) [])
 (Ag ((0:Int)≤a1∧a1<(↑a0.length:Int))
 (Br (decide ((↑(a0.getD a1.toNat 0).toNat:Int)=(10:Int)))
 (Q (Ai 1) [])
 (Ag ((0:Int)≤a1∧a1<(↑a0.length:Int))
 (Br (!decide ((↑(a0.getD a1.toNat 0).toNat:Int)=(13:Int)))
 (Q (Ai 0) [])
 (Ag (decide (i64.wrap (a1+(1:Int))<(↑a0.length:Int))=true→
 (0:Int)≤i64.wrap (a1+(1:Int))∧i64.wrap (a1+(1:Int))<(↑a0.length:Int))
 (Let (bif decide (i64.wrap (a1+(1:Int))<(↑a0.length:Int))then
 decide ((↑(a0.getD (i64.wrap (a1+(1:Int))).toNat 0).toNat:Int)=(10:Int))
 else false) fun x1=>
 Br (x1)
 (Q (Ai 2) [])
 (Q (Ai 1) [])))))))))):Call E0.P Qq [As a0,Ai a1] [] Q:=fR 0 Bet h
noncomputable def Dj:AC:=(A7 [(3,[0,2,4,5],[]),(5,[0,2],[]),(6,[0,2,4],[0,2,4,5]),(12,[0,2,4],[0,2]),(16,[0,2],[0,2,4,5]),(17,[0,2],[])] [2,3] (codeOf Tryz.f92) 0).1
abbrev Dm:Nat:=71
def Ev(t4:Int)(t5:Bool)(u0:LB)(u1 u2 u3:Int)(u4:LB)(u5 u6:Int)(u7:LL)(K:KK):Prop:=Ba 3 E0.P Dm (A9 3 Dj).code ⟨[(0, .ptr Af 0),(2, .ptr nL2 0),(4, .imm (.int .u8 t4)),(5,Ab t5)],[(Af, .blk Ad [As u0,Ai u1, .own Ar]),(nL2, .blk Aq [Ai u2,Ai u3,As u4,Ai u5,Ai u6]),(Ar, .arr (Am+2) true 1 u7)]⟩ K
def Ro(t4:Int)(u0:LB)(u1 u2 u3:Int)(u4:LB)(u5 u6:Int)(u7:LL)(K:KK):Prop:=Ao 6 E0.P Dm (Ah 6 Dj).code ⟨[(0, .ptr Af 0),(2, .ptr nL2 0),(4, .imm (.int .u8 t4))],[(Af, .blk Ad [As u0,Ai u1, .own Ar]),(nL2, .blk Aq [Ai u2,Ai u3,As u4,Ai u5,Ai u6]),(Ar, .arr (Am+2) true 1 u7)]⟩ K
def Kv(t4:Int)(u0:LB)(u1 u2 u3:Int)(u4:LB)(u5 u6:Int)(u7:LL)(K:KK):Prop:=Ao 12 E0.P Dm (Ah 12 Dj).code ⟨[(0, .ptr Af 0),(2, .ptr nL2 0),(4, .imm (.int .u8 t4))],[(Af, .blk Ad [As u0,Ai u1, .own Ar]),(nL2, .blk Aq [Ai u2,Ai u3,As u4,Ai u5,Ai u6]),(Ar, .arr (Am+2) true 1 u7)]⟩ K
def Z6(u0:LB)(u1 u2 u3:Int)(u4:LB)(u5 u6:Int)(u7:LL)(K:KK):Prop:=Ao 17 E0.P Dm (Ah 17 Dj).code ⟨[(0, .ptr Af 0),(2, .ptr nL2 0)],[(Af, .blk Ad [As u0,Ai u1, .own Ar]),(nL2, .blk Aq [Ai u2,Ai u3,As u4,Ai u5,Ai u6]),(Ar, .arr (Am+2) true 1 u7)]⟩ K
def Qd(u0:LB)(u1 u2 u3:Int)(u4:LB)(u5 u6:Int)(u7:LL)(K:KK):Prop:=Ao 16 E0.P Dm (Ah 16 Dj).code ⟨[(0, .ptr Af 0),(2, .ptr nL2 0)],[(Af, .blk Ad [As u0,Ai u1, .own Ar]),(nL2, .blk Aq [Ai u2,Ai u3,As u4,Ai u5,Ai u6]),(Ar, .arr (Am+2) true 1 u7)]⟩ K
def Rq(s:LB)(at_:Int)(out:LL)(Q:QQ):KK:=kE fun st=>finish 0 E0.T [.cell 2 78, .tmp 3] [(Af, .blk Ad [As s,Ai at_, .own Ar]),(Ar, .arr (Am+2) true 1 out)] Q st
def Da(s:LB)(at_:Int)(out:LL)(Q:QQ):KK:=kF 0 (fun st=>Ao 17 E0.P Dm (Ah 17 Dj).code (mask [0,2] st) (Rq s at_ out Q)) fun st=>finish 0 E0.T [.cell 2 78, .tmp 3] [(Af, .blk Ad [As s,Ai at_, .own Ar]),(Ar, .arr (Am+2) true 1 out)] Q st
def Gm(K:KK):Ex→St→Prop
 | .normal,st=>Ba 3 E0.P Dm (A9 3 Dj).code (mask [0,2,4,5] st) K
 | .exit i,st=>K (.exit i) st
 | .goto i,st=>K (.goto i) st
 | .ret,st=>K .ret st
def Lr(K:KK):KK:=kP [0,2,4,5] K
def Ie(K:KK):KK:=kC 1 (fun st=>Ao 16 E0.P Dm (Ah 16 Dj).code (mask [0,2] st) (Lr K)) K
theorem Xd(t4:Int)(t5:Bool)(u0:LB)(u1 u2 u3:Int)(u4:LB)(u5 u6:Int)(u7:LL)(K:KK)(h:
 (Br (t5 == true)
 (Call E0.P Nn [.imm (.int .u8 t4)] [] fun r0 g0=>
 Ag (Pj g0 r0)
 (Let (decide (rI r0=(2:Int))) fun x1=>
 Br (x1)
 (Ro t4 u0 u1 u2 u3 u4 u5 u6 u7 (Gm K))
 (K (.exit 0) ⟨[(0, .ptr Af 0),(2, .ptr nL2 0)],[(Af, .blk Ad [As u0,Ai u1, .own Ar]),(nL2, .blk Aq [Ai u2,Ai u3,As u4,Ai u5,Ai u6]),(Ar, .arr (Am+2) true 1 u7)]⟩)))
 (Ag ((!true)=false)
 (Let (false) fun x2=>
 Br (x2)
 (Ro t4 u0 u1 u2 u3 u4 u5 u6 u7 (Gm K))
 (K (.exit 0) ⟨[(0, .ptr Af 0),(2, .ptr nL2 0)],[(Af, .blk Ad [As u0,Ai u1, .own Ar]),(nL2, .blk Aq [Ai u2,Ai u3,As u4,Ai u5,Ai u6]),(Ar, .arr (Am+2) true 1 u7)]⟩))))):Ev t4 t5 u0 u1 u2 u3 u4 u5 u6 u7 K:=lR [0,2,4,5] h
theorem Ala(t4:Int)(u0:LB)(u1 u2 u3:Int)(u4:LB)(u5 u6:Int)(u7:LL)(K:KK)(h:
 (Br (decide (t4=(35:Int)))
 (Call E0.P Ho [.ptr Af 0] [(Af, .blk Ad [As u0,Ai (i64.wrap (u1+(1:Int))), .own Ar]),(Ar, .arr (Am+2) true 1 u7)] fun r0 g0=>
 Ag (g0=
 [(Nm.arg 0,
 Entry.blk 101
 [.imm (.str (rS ((Au g0 Af).getD 0 AV.undef))),
 .imm (.int .i64 (rI ((Au g0 Af).getD 1 AV.undef))),
 AV.own Ar]),
 (Nm.arg 1,Entry.arr 7 true 1 (Cq g0 Ar))]∧
 r0= .tup [.imm (.int .u8 (rI (rT r0 0))), .imm (.bool (rB (rT r0 1)))])
 (Br (!rB (rT r0 1))
 (K .ret ⟨[(2, .ptr nL2 0),(3,Ai 4)],[(nL2, .blk Aq [Ai 0,Ai 0, .imm (.str []),Ai 0,Ai 0]),(Af, .blk Ad [.imm (.str (rS ((Au g0 Af).getD 0 AV.undef))), .imm (.int .i64 (rI ((Au g0 Af).getD 1 AV.undef))), .own Ar]),(Ar, .arr (Am+2) true 1 (Cq g0 Ar))]⟩)
 (Kv (rI (rT r0 0)) (rS ((Au g0 Af).getD 0 AV.undef)) (rI ((Au g0 Af).getD 1 AV.undef)) u2 u3 u4 u5 u6 (Cq g0 Ar) (Ie K))))
 (Kv t4 u0 (i64.wrap (u1+(1:Int))) u2 u3 u4 u5 u6 u7 (Ie K)))):Ro t4 u0 u1 u2 u3 u4 u5 u6 u7 K:=cR [0,2,4,5] h
theorem Aja(t4:Int)(u0:LB)(u1 u2 u3:Int)(u4:LB)(u5 u6:Int)(u7:LL)(K:KK)(h:
 (Ag ((u7.length+1)*1≤140737488355328∧u7.length+1≤140737488355328)
 (Br (decide ((127:Int)<(↑(u7++[[IV.int .u8 t4]]).length:Int)))
 (K .ret ⟨[(2, .ptr nL2 0),(3,Ai 8)],[(nL2, .blk Aq [Ai 0,Ai 0, .imm (.str []),Ai 0,Ai 0]),(Af, .blk Ad [As u0,Ai u1, .own Ar]),(Ar, .arr (Am+2) true 1 (u7++[[IV.int .u8 t4]]))]⟩)
 (K .normal ⟨[(0, .ptr Af 0),(2, .ptr nL2 0)],[(Af, .blk Ad [As u0,Ai u1, .own Ar]),(nL2, .blk Aq [Ai u2,Ai u3,As u4,Ai u5,Ai u6]),(Ar, .arr (Am+2) true 1 (u7++[[IV.int .u8 t4]]))]⟩)))):Kv t4 u0 u1 u2 u3 u4 u5 u6 u7 K:=cR [0,2] h
theorem Ajc(u0:LB)(u1 u2 u3:Int)(u4:LB)(u5 u6:Int)(u7:LL)(K:KK)(h:
 (Ag (∀(r:List IV),r∈u7→Be [.int .u8] r=true)
 (K .ret ⟨[(2, .ptr nL2 0),(3,Ai 0)],[(nL2, .blk Aq [Ai 2,Ai 0,As (List.map (fun r=>UInt8.ofNat (gI r 0).toNat) u7),Ai 0,Ai 0]),(Af, .blk Ad [As u0,Ai u1, .own Ar]),(Ar, .arr (Am+2) true 1 u7)]⟩))):Z6 u0 u1 u2 u3 u4 u5 u6 u7 K:=cR [] h
theorem Ajb(u0:LB)(u1 u2 u3:Int)(u4:LB)(u5 u6:Int)(u7:LL)(K:KK)(h:
 (Br (decide ((↑u0.length:Int)≤u1))
 (K .normal ⟨[(0, .ptr Af 0),(2, .ptr nL2 0),(4, .imm (.int .u8 ((0:Int)))),(5,Ab false)],[(Af, .blk Ad [As u0,Ai u1, .own Ar]),(nL2, .blk Aq [Ai u2,Ai u3,As u4,Ai u5,Ai u6]),(Ar, .arr (Am+2) true 1 u7)]⟩)
 (Ag ((0:Int)≤u1∧u1<(↑u0.length:Int))
 (K .normal ⟨[(0, .ptr Af 0),(2, .ptr nL2 0),(4, .imm (.int .u8 ((↑(u0.getD u1.toNat 0).toNat:Int)))),(5,Ab true)],[(Af, .blk Ad [As u0,Ai u1, .own Ar]),(nL2, .blk Aq [Ai u2,Ai u3,As u4,Ai u5,Ai u6]),(Ar, .arr (Am+2) true 1 u7)]⟩)))):Qd u0 u1 u2 u3 u4 u5 u6 u7 K:=cR [0,2,4,5] h
theorem Ald(s:LB)(at_:Int)(out:LL)(Q:QQ)(t3 u0 u1:Int)(u2:LB)(u3 u4:Int)(u5:LB)(u6:Int)(u7:LL)(h:
 (Q (.tup [.imm (.agg [.int .i64 u0, .int .i64 u1, .str u2, .int .i64 u3, .int .i64 u4]),Ai t3]) [(Af, .blk Ad [As u5,Ai u6, .own Ar]),(Ar, .arr (Am+2) true 1 u7)])):Rq s at_ out Q .ret ⟨[(2, .ptr nL2 0),(3,Ai t3)],[(nL2, .blk Aq [Ai u0,Ai u1,As u2,Ai u3,Ai u4]),(Af, .blk Ad [As u5,Ai u6, .own Ar]),(Ar, .arr (Am+2) true 1 u7)]⟩:=kq h
theorem Ale(s:LB)(at_:Int)(out:LL)(Q:QQ)(u0:LB)(u1 u2 u3:Int)(u4:LB)(u5 u6:Int)(u7:LL)(h:
 (Z6 u0 u1 u2 u3 u4 u5 u6 u7 (Rq s at_ out Q))):Da s at_ out Q (.exit 0) ⟨[(0, .ptr Af 0),(2, .ptr nL2 0)],[(Af, .blk Ad [As u0,Ai u1, .own Ar]),(nL2, .blk Aq [Ai u2,Ai u3,As u4,Ai u5,Ai u6]),(Ar, .arr (Am+2) true 1 u7)]⟩:=kq h
theorem Alf(s:LB)(at_:Int)(out:LL)(Q:QQ)(t3 u0 u1:Int)(u2:LB)(u3 u4:Int)(u5:LB)(u6:Int)(u7:LL)(h:
 (Q (.tup [.imm (.agg [.int .i64 u0, .int .i64 u1, .str u2, .int .i64 u3, .int .i64 u4]),Ai t3]) [(Af, .blk Ad [As u5,Ai u6, .own Ar]),(Ar, .arr (Am+2) true 1 u7)])):Da s at_ out Q .ret ⟨[(2, .ptr nL2 0),(3,Ai t3)],[(nL2, .blk Aq [Ai u0,Ai u1,As u2,Ai u3,Ai u4]),(Af, .blk Ad [As u5,Ai u6, .own Ar]),(Ar, .arr (Am+2) true 1 u7)]⟩:=kq h
theorem Ny(K:KK)(t3 u0 u1:Int)(u2:LB)(u3 u4:Int)(u5:LB)(u6:Int)(u7:LL)(h:
 (K .ret ⟨[(2, .ptr nL2 0),(3,Ai t3)],[(nL2, .blk Aq [Ai u0,Ai u1,As u2,Ai u3,Ai u4]),(Af, .blk Ad [As u5,Ai u6, .own Ar]),(Ar, .arr (Am+2) true 1 u7)]⟩)):Gm K .ret ⟨[(2, .ptr nL2 0),(3,Ai t3)],[(nL2, .blk Aq [Ai u0,Ai u1,As u2,Ai u3,Ai u4]),(Af, .blk Ad [As u5,Ai u6, .own Ar]),(Ar, .arr (Am+2) true 1 u7)]⟩:=kq h
theorem Wx(K:KK)(t4:Int)(t5:Bool)(u0:LB)(u1 u2 u3:Int)(u4:LB)(u5 u6:Int)(u7:LL)(h:
 (Ev t4 t5 u0 u1 u2 u3 u4 u5 u6 u7 K)):Gm K .normal ⟨[(0, .ptr Af 0),(2, .ptr nL2 0),(4, .imm (.int .u8 t4)),(5,Ab t5)],[(Af, .blk Ad [As u0,Ai u1, .own Ar]),(nL2, .blk Aq [Ai u2,Ai u3,As u4,Ai u5,Ai u6]),(Ar, .arr (Am+2) true 1 u7)]⟩:=kq h
theorem Wy(K:KK)(t4:Int)(t5:Bool)(u0:LB)(u1 u2 u3:Int)(u4:LB)(u5 u6:Int)(u7:LL)(h:
 (K .normal ⟨[(0, .ptr Af 0),(2, .ptr nL2 0),(4, .imm (.int .u8 t4)),(5,Ab t5)],[(Af, .blk Ad [As u0,Ai u1, .own Ar]),(nL2, .blk Aq [Ai u2,Ai u3,As u4,Ai u5,Ai u6]),(Ar, .arr (Am+2) true 1 u7)]⟩)):Lr K .normal ⟨[(0, .ptr Af 0),(2, .ptr nL2 0),(4, .imm (.int .u8 t4)),(5,Ab t5)],[(Af, .blk Ad [As u0,Ai u1, .own Ar]),(nL2, .blk Aq [Ai u2,Ai u3,As u4,Ai u5,Ai u6]),(Ar, .arr (Am+2) true 1 u7)]⟩:=kq h
theorem Alg(K:KK)(t3 u0 u1:Int)(u2:LB)(u3 u4:Int)(u5:LB)(u6:Int)(u7:LL)(h:
 (K .ret ⟨[(2, .ptr nL2 0),(3,Ai t3)],[(nL2, .blk Aq [Ai u0,Ai u1,As u2,Ai u3,Ai u4]),(Af, .blk Ad [As u5,Ai u6, .own Ar]),(Ar, .arr (Am+2) true 1 u7)]⟩)):Ie K .ret ⟨[(2, .ptr nL2 0),(3,Ai t3)],[(nL2, .blk Aq [Ai u0,Ai u1,As u2,Ai u3,Ai u4]),(Af, .blk Ad [As u5,Ai u6, .own Ar]),(Ar, .arr (Am+2) true 1 u7)]⟩:=kq h
theorem Alh(K:KK)(u0:LB)(u1 u2 u3:Int)(u4:LB)(u5 u6:Int)(u7:LL)(h:
 (Qd u0 u1 u2 u3 u4 u5 u6 u7 (Lr K))):Ie K .normal ⟨[(0, .ptr Af 0),(2, .ptr nL2 0)],[(Af, .blk Ad [As u0,Ai u1, .own Ar]),(nL2, .blk Aq [Ai u2,Ai u3,As u4,Ai u5,Ai u6]),(Ar, .arr (Am+2) true 1 u7)]⟩:=kq h
theorem Atl:Bd E0.P 92 Dj.code Dm [.cell 2 78, .tmp 3]:=fq Tryz.func92
theorem Ao7(s:LB)(at_:Int)(out:LL)(Q:QQ)(h:
 (Br (decide ((↑s.length:Int)≤i64.wrap (at_+(1:Int))))
 (Ev ((0:Int)) false s (i64.wrap (at_+(1:Int))) ((0:Int)) ((0:Int)) [] ((0:Int)) ((0:Int)) out (Da s at_ out Q))
 (Ag ((0:Int)≤i64.wrap (at_+(1:Int))∧i64.wrap (at_+(1:Int))<(↑s.length:Int))
 (Ev ((↑(s.getD (i64.wrap (at_+(1:Int))).toNat 0).toNat:Int)) true s (i64.wrap (at_+(1:Int))) ((0:Int)) ((0:Int)) [] ((0:Int)) ((0:Int)) out (Da s at_ out Q))))):Call E0.P Tn [.ptr (.arg 0) 0] [(.arg 0, .blk Ad [.imm (.str s), .imm (.int .i64 at_), .own (.arg 1)]),(.arg 1, .arr (Am+2) true 1 out)] Q:=fR 0 Atl h
noncomputable def Dk:AC:=(A7 [(1,[0,2,4],[]),(5,[0,2,4],[]),(7,[2],[]),(15,[2],[]),(20,[0,2,4],[]),(23,[0,2,4,5],[0,2,4]),(30,[2],[])] [2,3] (codeOf Tryz.f93) 0).1
abbrev Dn:Nat:=107
def Ig(t4:Int)(u0:LB)(u1 u2 u3:Int)(u4:LB)(u5 u6:Int)(u7:LL)(K:KK):Prop:=Ba 5 E0.P Dn (A9 5 Dk).code ⟨[(0, .ptr Af 0),(2, .ptr nL2 0),(4,Ai t4)],[(Af, .blk Ad [As u0,Ai u1, .own Ar]),(nL2, .blk Aq [Ai u2,Ai u3,As u4,Ai u5,Ai u6]),(Ar, .arr (Am+2) true 1 u7)]⟩ K
def Fv(t4 t5:Int)(u0:LB)(u1 u2 u3:Int)(u4:LB)(u5 u6:Int)(u7:LL)(K:KK):Prop:=Ao 23 E0.P Dn (Ah 23 Dk).code ⟨[(0, .ptr Af 0),(2, .ptr nL2 0),(4,Ai t4),(5, .imm (.int .u8 t5))],[(Af, .blk Ad [As u0,Ai u1, .own Ar]),(nL2, .blk Aq [Ai u2,Ai u3,As u4,Ai u5,Ai u6]),(Ar, .arr (Am+2) true 1 u7)]⟩ K
def Z7(u0 u1:Int)(u2:LB)(u3 u4:Int)(u5:LB)(u6:Int)(u7:LL)(K:KK):Prop:=Ao 30 E0.P Dn (Ah 30 Dk).code ⟨[(2, .ptr nL2 0)],[(nL2, .blk Aq [Ai u0,Ai u1,As u2,Ai u3,Ai u4]),(Af, .blk Ad [As u5,Ai u6, .own Ar]),(Ar, .arr (Am+2) true 1 u7)]⟩ K
def Aa4(s:LB)(at_:Int)(out:LL)(Q:QQ):KK:=kE fun st=>finish 0 E0.T [.cell 2 78, .tmp 3] [(Af, .blk Ad [As s,Ai at_, .own Ar]),(Ar, .arr (Am+2) true 1 out)] Q st
def Ls(s:LB)(at_:Int)(out:LL)(Q:QQ):Ex→St→Prop
 | .normal,st=>finish 0 E0.T [.cell 2 78, .tmp 3] [(Af, .blk Ad [As s,Ai at_, .own Ar]),(Ar, .arr (Am+2) true 1 out)] Q st
 | .exit _,_=>False
 | .goto i,st=>I6 1 E0.P Dn i (J8 1 Dk).code (mask [0,2,4] st) (Aa4 s at_ out Q)
 | .ret,st=>finish 0 E0.T [.cell 2 78, .tmp 3] [(Af, .blk Ad [As s,Ai at_, .own Ar]),(Ar, .arr (Am+2) true 1 out)] Q st
def Gn(s:LB)(at_:Int)(out:LL)(Q:QQ):Ex→St→Prop
 | .normal,st=>Ao 30 E0.P Dn (Ah 30 Dk).code (mask [2] st) (Ls s at_ out Q)
 | .exit i,st=>(match (i.beq 0:Bool)with
 |true=>Ao 30 E0.P Dn (Ah 30 Dk).code (mask [2] st) (Ls s at_ out Q)
 |false=>False)
 | .goto i,st=>I6 1 E0.P Dn i (J8 1 Dk).code (mask [0,2,4] st) (Aa4 s at_ out Q)
 | .ret,st=>finish 0 E0.T [.cell 2 78, .tmp 3] [(Af, .blk Ad [As s,Ai at_, .own Ar]),(Ar, .arr (Am+2) true 1 out)] Q st
def Eu(K:KK):KK:=kC 1 (fun st=>Ba 5 E0.P Dn (A9 5 Dk).code (mask [0,2,4] st) K) K
theorem Xe(t4:Int)(u0:LB)(u1 u2 u3:Int)(u4:LB)(u5 u6:Int)(u7:LL)(K:KK)(h:
 (Br (decide (u1<(↑u0.length:Int)))
 (Ag ((0:Int)≤u1∧u1<(↑u0.length:Int))
 (Call E0.P Qq [As u0,Ai u1] [] fun r0 g0=>
 Ag (Pj g0 r0)
 (Br (decide ((0:Int)<rI r0))
 (Fv t4 ((10:Int)) u0 (i64.wrap (u1+if rI r0>(1:Int)then rI r0 else(1:Int))) u2 u3 u4 u5 u6 u7 (Eu K))
 (Br (decide ((↑(u0.getD u1.toNat 0).toNat:Int)=(92:Int)))
 (Call E0.P Kw [.ptr Af 0] [(Af, .blk Ad [As u0,Ai (i64.wrap (u1+if rI r0>(1:Int)then rI r0 else(1:Int))), .own Ar]),(Ar, .arr (Am+2) true 1 u7)] fun r1 g1=>
 Ag (g1=
 [(Nm.arg 0,
 Entry.blk 101
 [.imm (.str (rS ((Au g1 Af).getD 0 AV.undef))),
 .imm (.int .i64 (rI ((Au g1 Af).getD 1 AV.undef))),
 AV.own Ar]),
 (Nm.arg 1,Entry.arr 7 true 1 (Cq g1 Ar))]∧
 r1= .imm (.bool (rB r1)))
 (Br (!rB r1)
 (K (.exit 0) ⟨[(2, .ptr nL2 0)],[(nL2, .blk Aq [Ai u2,Ai u3,As u4,Ai u5,Ai u6]),(Af, .blk Ad [.imm (.str (rS ((Au g1 Af).getD 0 AV.undef))), .imm (.int .i64 (rI ((Au g1 Af).getD 1 AV.undef))), .own Ar]),(Ar, .arr (Am+2) true 1 (Cq g1 Ar))]⟩)
 (Br (decide ((65535:Int)<(↑(Cq g1 Ar).length:Int)))
 (K .ret ⟨[(2, .ptr nL2 0),(3,Ai 8)],[(nL2, .blk Aq [Ai 0,Ai 0, .imm (.str []),Ai 0,Ai 0]),(Af, .blk Ad [.imm (.str (rS ((Au g1 Af).getD 0 AV.undef))), .imm (.int .i64 (rI ((Au g1 Af).getD 1 AV.undef))), .own Ar]),(Ar, .arr (Am+2) true 1 (Cq g1 Ar))]⟩)
 (Ig t4 (rS ((Au g1 Af).getD 0 AV.undef)) (rI ((Au g1 Af).getD 1 AV.undef)) u2 u3 u4 u5 u6 (Cq g1 Ar) K))))
 (Br (decide ((↑(u0.getD u1.toNat 0).toNat:Int)=(40:Int)))
 (Fv (i64.wrap (t4+(1:Int))) ((↑(u0.getD u1.toNat 0).toNat:Int)) u0 (i64.wrap (u1+if rI r0>(1:Int)then rI r0 else(1:Int))) u2 u3 u4 u5 u6 u7 (Eu K))
 (Br (decide ((↑(u0.getD u1.toNat 0).toNat:Int)=(41:Int)))
 (Fv (i64.wrap (t4 - (1:Int))) ((↑(u0.getD u1.toNat 0).toNat:Int)) u0 (i64.wrap (u1+if rI r0>(1:Int)then rI r0 else(1:Int))) u2 u3 u4 u5 u6 u7 (Eu K))
 (Fv t4 ((↑(u0.getD u1.toNat 0).toNat:Int)) u0 (i64.wrap (u1+if rI r0>(1:Int)then rI r0 else(1:Int))) u2 u3 u4 u5 u6 u7 (Eu K))))))))
 (K (.exit 0) ⟨[(2, .ptr nL2 0)],[(nL2, .blk Aq [Ai u2,Ai u3,As u4,Ai u5,Ai u6]),(Af, .blk Ad [As u0,Ai u1, .own Ar]),(Ar, .arr (Am+2) true 1 u7)]⟩))):Ig t4 u0 u1 u2 u3 u4 u5 u6 u7 K:=lR [0,2,4] h
theorem Vn(t4 t5:Int)(u0:LB)(u1 u2 u3:Int)(u4:LB)(u5 u6:Int)(u7:LL)(K:KK)(h:
 (Br (decide (t4=(0:Int)))
 (Ag (∀(r:List IV),r∈u7→Be [.int .u8] r=true)
 (K .ret ⟨[(2, .ptr nL2 0),(3,Ai 0)],[(nL2, .blk Aq [Ai 3,Ai 0,As (List.map (fun r=>UInt8.ofNat (gI r 0).toNat) u7),Ai 0,Ai 0]),(Af, .blk Ad [As u0,Ai u1, .own Ar]),(Ar, .arr (Am+2) true 1 u7)]⟩))
 (Ag ((u7.length+1)*1≤140737488355328∧u7.length+1≤140737488355328)
 (Br (decide ((65535:Int)<(↑(u7++[[IV.int .u8 t5]]).length:Int)))
 (K .ret ⟨[(2, .ptr nL2 0),(3,Ai 8)],[(nL2, .blk Aq [Ai 0,Ai 0, .imm (.str []),Ai 0,Ai 0]),(Af, .blk Ad [As u0,Ai u1, .own Ar]),(Ar, .arr (Am+2) true 1 (u7++[[IV.int .u8 t5]]))]⟩)
 (K .normal ⟨[(0, .ptr Af 0),(2, .ptr nL2 0),(4,Ai t4)],[(Af, .blk Ad [As u0,Ai u1, .own Ar]),(nL2, .blk Aq [Ai u2,Ai u3,As u4,Ai u5,Ai u6]),(Ar, .arr (Am+2) true 1 (u7++[[IV.int .u8 t5]]))]⟩))))):Fv t4 t5 u0 u1 u2 u3 u4 u5 u6 u7 K:=cR [0,2,4] h
theorem Ajd(u0 u1:Int)(u2:LB)(u3 u4:Int)(u5:LB)(u6:Int)(u7:LL)(K:KK)(h:
 (K .ret ⟨[(2, .ptr nL2 0),(3,Ai 5)],[(nL2, .blk Aq [Ai 0,Ai 0, .imm (.str []),Ai 0,Ai 0]),(Af, .blk Ad [As u5,Ai u6, .own Ar]),(Ar, .arr (Am+2) true 1 u7)]⟩)):Z7 u0 u1 u2 u3 u4 u5 u6 u7 K:=cR [] h
theorem Ali(s:LB)(at_:Int)(out:LL)(Q:QQ)(t3 u0 u1:Int)(u2:LB)(u3 u4:Int)(u5:LB)(u6:Int)(u7:LL)(h:
 (Q (.tup [.imm (.agg [.int .i64 u0, .int .i64 u1, .str u2, .int .i64 u3, .int .i64 u4]),Ai t3]) [(Af, .blk Ad [As u5,Ai u6, .own Ar]),(Ar, .arr (Am+2) true 1 u7)])):Ls s at_ out Q .ret ⟨[(2, .ptr nL2 0),(3,Ai t3)],[(nL2, .blk Aq [Ai u0,Ai u1,As u2,Ai u3,Ai u4]),(Af, .blk Ad [As u5,Ai u6, .own Ar]),(Ar, .arr (Am+2) true 1 u7)]⟩:=kq h
theorem Alj(s:LB)(at_:Int)(out:LL)(Q:QQ)(u0 u1:Int)(u2:LB)(u3 u4:Int)(u5:LB)(u6:Int)(u7:LL)(h:
 (Z7 u0 u1 u2 u3 u4 u5 u6 u7 (Ls s at_ out Q))):Gn s at_ out Q (.exit 0) ⟨[(2, .ptr nL2 0)],[(nL2, .blk Aq [Ai u0,Ai u1,As u2,Ai u3,Ai u4]),(Af, .blk Ad [As u5,Ai u6, .own Ar]),(Ar, .arr (Am+2) true 1 u7)]⟩:=kq h
theorem Nz(s:LB)(at_:Int)(out:LL)(Q:QQ)(t3 u0 u1:Int)(u2:LB)(u3 u4:Int)(u5:LB)(u6:Int)(u7:LL)(h:
 (Q (.tup [.imm (.agg [.int .i64 u0, .int .i64 u1, .str u2, .int .i64 u3, .int .i64 u4]),Ai t3]) [(Af, .blk Ad [As u5,Ai u6, .own Ar]),(Ar, .arr (Am+2) true 1 u7)])):Gn s at_ out Q .ret ⟨[(2, .ptr nL2 0),(3,Ai t3)],[(nL2, .blk Aq [Ai u0,Ai u1,As u2,Ai u3,Ai u4]),(Af, .blk Ad [As u5,Ai u6, .own Ar]),(Ar, .arr (Am+2) true 1 u7)]⟩:=kq h
theorem Wz(K:KK)(t3 u0 u1:Int)(u2:LB)(u3 u4:Int)(u5:LB)(u6:Int)(u7:LL)(h:
 (K .ret ⟨[(2, .ptr nL2 0),(3,Ai t3)],[(nL2, .blk Aq [Ai u0,Ai u1,As u2,Ai u3,Ai u4]),(Af, .blk Ad [As u5,Ai u6, .own Ar]),(Ar, .arr (Am+2) true 1 u7)]⟩)):Eu K .ret ⟨[(2, .ptr nL2 0),(3,Ai t3)],[(nL2, .blk Aq [Ai u0,Ai u1,As u2,Ai u3,Ai u4]),(Af, .blk Ad [As u5,Ai u6, .own Ar]),(Ar, .arr (Am+2) true 1 u7)]⟩:=kq h
theorem Alk(K:KK)(t4:Int)(u0:LB)(u1 u2 u3:Int)(u4:LB)(u5 u6:Int)(u7:LL)(h:
 (Ig t4 u0 u1 u2 u3 u4 u5 u6 u7 K)):Eu K .normal ⟨[(0, .ptr Af 0),(2, .ptr nL2 0),(4,Ai t4)],[(Af, .blk Ad [As u0,Ai u1, .own Ar]),(nL2, .blk Aq [Ai u2,Ai u3,As u4,Ai u5,Ai u6]),(Ar, .arr (Am+2) true 1 u7)]⟩:=kq h
theorem Atm:Bd E0.P 93 Dk.code Dn [.cell 2 78, .tmp 3]:=fq Tryz.func93
theorem Ao8(s:LB)(at_:Int)(out:LL)(Q:QQ)(h:
 (Ig ((1:Int)) s (i64.wrap (at_+(1:Int))) ((0:Int)) ((0:Int)) [] ((0:Int)) ((0:Int)) out (Gn s at_ out Q))):Call E0.P Tp [.ptr (.arg 0) 0] [(.arg 0, .blk Ad [.imm (.str s), .imm (.int .i64 at_), .own (.arg 1)]),(.arg 1, .arr (Am+2) true 1 out)] Q:=fR 0 Atm h
noncomputable def Er:AC:=(A7 [(5,[1,2,4,5,6,7],[]),(7,[2],[]),(19,[1,2,4,5],[1,2,4,5]),(22,[1,2,4,5],[1,2,4,5,6,7]),(23,[2],[])] [2,3] (codeOf Tryz.f95) 0).1
abbrev Es:Nat:=75
def Fa(t6:Int)(t7:Bool)(u0 u1:Int)(u2:LB)(u3 u4 u5:Int)(u6:LB)(u7:Int)(u8:LL)(K:KK):Prop:=Ba 5 E0.P Es (A9 5 Er).code ⟨[(1, .ptr Ej 0),(2, .ptr nL2 0),(4, .ptr nL4 0),(5, .fn D5 [.ptr nL4 0, .ptr Ej 0]),(6, .imm (.int .u8 t6)),(7,Ab t7)],[(Ej, .blk 98 [.ptr Af 0]),(nL2, .blk Aq [Ai u0,Ai u1,As u2,Ai u3,Ai u4]),(nL4, .blk Fu [Ai u5]),(Af, .blk Ad [As u6,Ai u7, .own Ar]),(Ar, .arr (Am+2) true 1 u8)]⟩ K
def Dy(u0 u1:Int)(u2:LB)(u3 u4 u5:Int)(u6:LB)(u7:Int)(u8:LL)(K:KK):Prop:=Ao 19 E0.P Es (Ah 19 Er).code ⟨[(1, .ptr Ej 0),(2, .ptr nL2 0),(4, .ptr nL4 0),(5, .fn D5 [.ptr nL4 0, .ptr Ej 0])],[(Ej, .blk 98 [.ptr Af 0]),(nL2, .blk Aq [Ai u0,Ai u1,As u2,Ai u3,Ai u4]),(nL4, .blk Fu [Ai u5]),(Af, .blk Ad [As u6,Ai u7, .own Ar]),(Ar, .arr (Am+2) true 1 u8)]⟩ K
def Aa0(u0 u1:Int)(u2:LB)(u3 u4:Int)(u5:LB)(u6:Int)(u7:LL)(K:KK):Prop:=Ao 23 E0.P Es (Ah 23 Er).code ⟨[(2, .ptr nL2 0)],[(nL2, .blk Aq [Ai u0,Ai u1,As u2,Ai u3,Ai u4]),(Af, .blk Ad [As u5,Ai u6, .own Ar]),(Ar, .arr (Am+2) true 1 u7)]⟩ K
def Aaz(u0 u1:Int)(u2:LB)(u3 u4 u5:Int)(u6:LB)(u7:Int)(u8:LL)(K:KK):Prop:=Ao 22 E0.P Es (Ah 22 Er).code ⟨[(1, .ptr Ej 0),(2, .ptr nL2 0),(4, .ptr nL4 0),(5, .fn D5 [.ptr nL4 0, .ptr Ej 0])],[(Ej, .blk 98 [.ptr Af 0]),(nL2, .blk Aq [Ai u0,Ai u1,As u2,Ai u3,Ai u4]),(nL4, .blk Fu [Ai u5]),(Af, .blk Ad [As u6,Ai u7, .own Ar]),(Ar, .arr (Am+2) true 1 u8)]⟩ K
def Sy(s:LB)(at_:Int)(out:LL)(Q:QQ):KK:=kE fun st=>finish 0 E0.T [.cell 2 78, .tmp 3] [(Af, .blk Ad [As s,Ai at_, .own Ar]),(Ar, .arr (Am+2) true 1 out)] Q st
def Df(s:LB)(at_:Int)(out:LL)(Q:QQ):KK:=kF 0 (fun st=>Ao 23 E0.P Es (Ah 23 Er).code (mask [2] st) (Sy s at_ out Q)) fun st=>finish 0 E0.T [.cell 2 78, .tmp 3] [(Af, .blk Ad [As s,Ai at_, .own Ar]),(Ar, .arr (Am+2) true 1 out)] Q st
def Sz(K:KK):Ex→St→Prop
 | .normal,st=>Ba 5 E0.P Es (A9 5 Er).code (mask [1,2,4,5,6,7] st) K
 | .exit i,st=>K (.exit i) st
 | .goto i,st=>K (.goto i) st
 | .ret,st=>K .ret st
def Cu(K:KK):KK:=kC 1 (fun st=>Ao 22 E0.P Es (Ah 22 Er).code (mask [1,2,4,5] st) (Sz K)) K
theorem Ya(t6:Int)(t7:Bool)(u0 u1:Int)(u2:LB)(u3 u4 u5:Int)(u6:LB)(u7:Int)(u8:LL)(K:KK)(h:
 (Br (t7)
 (Call E0.P Yg [.imm (.int .u8 t6)] [] fun r0 g0=>
 Ag (Pj g0 r0)
 (Br (decide (t6=(62:Int)))
 (Br (decide ((65535:Int)<(↑u8.length:Int)))
 (K .ret ⟨[(2, .ptr nL2 0),(3,Ai 8)],[(nL2, .blk Aq [Ai 0,Ai 0, .imm (.str []),Ai 0,Ai 0]),(Af, .blk Ad [As u6,Ai (i64.wrap (u7+(1:Int))), .own Ar]),(Ar, .arr (Am+2) true 1 u8)]⟩)
 (Ag (∀(r:List IV),r∈u8→Be [.int .u8] r=true)
 (K .ret ⟨[(2, .ptr nL2 0),(3,Ai 0)],[(nL2, .blk Aq [Ai 3,Ai 0,As (List.map (fun r=>UInt8.ofNat (gI r 0).toNat) u8),Ai 0,Ai 0]),(Af, .blk Ad [As u6,Ai (i64.wrap (u7+(1:Int))), .own Ar]),(Ar, .arr (Am+2) true 1 u8)]⟩)))
 (Br (decide ((0:Int)≤rI r0))
 (Ag ((2:Int)≠(0:Int))
 (Br (decide ((i64.wrap (u5+(1:Int))).tmod (2:Int)=(1:Int)))
 (Ag ((0:Int)≤(4:Int))
 ((Ag ((u8.length+1)*1≤140737488355328∧u8.length+1≤140737488355328)
 (Dy u0 u1 u2 u3 u4 (i64.wrap (u5+(1:Int))) u6 (i64.wrap (u7+(1:Int))) (u8++[[IV.int .u8 (IntKind.u8.wrap (i64.wrap (rI r0*(2:Int) ^ 4)))]]) (Cu K)))∧
 ((Ag ((u8.length+1)*1≤140737488355328∧u8.length+1≤140737488355328)
 (Dy u0 u1 u2 u3 u4 (i64.wrap (u5+(1:Int))) u6 (i64.wrap (u7+(1:Int))) (u8++[[IV.int .u8 (IntKind.u8.wrap (i64.wrap (rI r0*(2:Int) ^ 4)))]]) (Cu K)))∧
 (Ag ((u8.length+1)*1≤140737488355328∧u8.length+1≤140737488355328)
 (Dy u0 u1 u2 u3 u4 (i64.wrap (u5+(1:Int))) u6 (i64.wrap (u7+(1:Int))) (u8++[[IV.int .u8 (IntKind.u8.wrap (i64.wrap (rI r0*(2:Int) ^ 4)))]]) (Cu K))))))
 (Ag ((0:Int)≤i64.wrap ((↑u8.length:Int) - (1:Int))∧
 i64.wrap ((↑u8.length:Int) - (1:Int))<(↑u8.length:Int))
 (Ag ((i64.wrap ((↑u8.length:Int) - (1:Int))).toNat<u8.length∧
 Be [.int .u8]
 (List.take 1
 (List.drop 0 (u8.getD (i64.wrap ((↑u8.length:Int) - (1:Int))).toNat [])))=
 true)
 (Ag ((0:Int)≤i64.wrap ((↑u8.length:Int) - (1:Int))∧
 i64.wrap ((↑u8.length:Int) - (1:Int))<(↑u8.length:Int))
 (Ag ((i64.wrap ((↑u8.length:Int) - (1:Int))).toNat<u8.length)
 (Dy u0 u1 u2 u3 u4 (i64.wrap (u5+(1:Int))) u6 (i64.wrap (u7+(1:Int))) (u8.set (i64.wrap ((↑u8.length:Int) - (1:Int))).toNat
 [.int .u8
 (IntKind.u8.wrap
 (↑(BitVec.ofInt (8:Nat)
 (gI
 (List.take (1:Nat)
 (List.drop (0:Nat) (u8.getD (i64.wrap ((↑u8.length:Int) - (1:Int))).toNat [])))
 (0:Nat)) |||
 BitVec.ofInt (8:Nat) (IntKind.u8.wrap (rI r0))).toNat:
 Int))]) (Cu K))))))))
 (Call E0.P Nn [.imm (.int .u8 t6)] [] fun r1 g1=>
 Ag (Pj g1 r1)
 (Br (!decide (rI r1=(0:Int)))
 (K .ret ⟨[(2, .ptr nL2 0),(3,Ai 4)],[(nL2, .blk Aq [Ai 0,Ai 0, .imm (.str []),Ai 0,Ai 0]),(Af, .blk Ad [As u6,Ai (i64.wrap (u7+(1:Int))), .own Ar]),(Ar, .arr (Am+2) true 1 u8)]⟩)
 (Dy u0 u1 u2 u3 u4 u5 u6 (i64.wrap (u7+(1:Int))) u8 (Cu K)))))))
 (K (.exit 0) ⟨[(2, .ptr nL2 0)],[(nL2, .blk Aq [Ai u0,Ai u1,As u2,Ai u3,Ai u4]),(Af, .blk Ad [As u6,Ai u7, .own Ar]),(Ar, .arr (Am+2) true 1 u8)]⟩))):Fa t6 t7 u0 u1 u2 u3 u4 u5 u6 u7 u8 K:=lR [1,2,4,5,6,7] h
theorem Ak7(u0 u1:Int)(u2:LB)(u3 u4 u5:Int)(u6:LB)(u7:Int)(u8:LL)(K:KK)(h:
 (Ag ((2:Int)≠(0:Int))
 (Br (decide ((65535:Int)<i64.wrap (u5.tdiv (2:Int))))
 (K .ret ⟨[(2, .ptr nL2 0),(3,Ai 8)],[(nL2, .blk Aq [Ai 0,Ai 0, .imm (.str []),Ai 0,Ai 0]),(Af, .blk Ad [As u6,Ai u7, .own Ar]),(Ar, .arr (Am+2) true 1 u8)]⟩)
 (K .normal ⟨[(1, .ptr Ej 0),(2, .ptr nL2 0),(4, .ptr nL4 0),(5, .fn D5 [.ptr nL4 0, .ptr Ej 0])],[(Ej, .blk 98 [.ptr Af 0]),(nL2, .blk Aq [Ai u0,Ai u1,As u2,Ai u3,Ai u4]),(nL4, .blk Fu [Ai u5]),(Af, .blk Ad [As u6,Ai u7, .own Ar]),(Ar, .arr (Am+2) true 1 u8)]⟩)))):Dy u0 u1 u2 u3 u4 u5 u6 u7 u8 K:=cR [1,2,4,5] h
theorem Ak9(u0 u1:Int)(u2:LB)(u3 u4:Int)(u5:LB)(u6:Int)(u7:LL)(K:KK)(h:
 (K .ret ⟨[(2, .ptr nL2 0),(3,Ai 5)],[(nL2, .blk Aq [Ai 0,Ai 0, .imm (.str []),Ai 0,Ai 0]),(Af, .blk Ad [As u5,Ai u6, .own Ar]),(Ar, .arr (Am+2) true 1 u7)]⟩)):Aa0 u0 u1 u2 u3 u4 u5 u6 u7 K:=cR [] h
theorem Ak8(u0 u1:Int)(u2:LB)(u3 u4 u5:Int)(u6:LB)(u7:Int)(u8:LL)(K:KK)(h:
 (Br (decide ((↑u6.length:Int)≤u7))
 (K .normal ⟨[(1, .ptr Ej 0),(2, .ptr nL2 0),(4, .ptr nL4 0),(5, .fn D5 [.ptr nL4 0, .ptr Ej 0]),(6, .imm (.int .u8 ((0:Int)))),(7,Ab false)],[(Ej, .blk 98 [.ptr Af 0]),(nL2, .blk Aq [Ai u0,Ai u1,As u2,Ai u3,Ai u4]),(nL4, .blk Fu [Ai u5]),(Af, .blk Ad [As u6,Ai u7, .own Ar]),(Ar, .arr (Am+2) true 1 u8)]⟩)
 (Ag ((0:Int)≤u7∧u7<(↑u6.length:Int))
 (K .normal ⟨[(1, .ptr Ej 0),(2, .ptr nL2 0),(4, .ptr nL4 0),(5, .fn D5 [.ptr nL4 0, .ptr Ej 0]),(6, .imm (.int .u8 ((↑(u6.getD u7.toNat 0).toNat:Int)))),(7,Ab true)],[(Ej, .blk 98 [.ptr Af 0]),(nL2, .blk Aq [Ai u0,Ai u1,As u2,Ai u3,Ai u4]),(nL4, .blk Fu [Ai u5]),(Af, .blk Ad [As u6,Ai u7, .own Ar]),(Ar, .arr (Am+2) true 1 u8)]⟩)))):Aaz u0 u1 u2 u3 u4 u5 u6 u7 u8 K:=cR [1,2,4,5,6,7] h
theorem Anr(s:LB)(at_:Int)(out:LL)(Q:QQ)(t3 u0 u1:Int)(u2:LB)(u3 u4:Int)(u5:LB)(u6:Int)(u7:LL)(h:
 (Q (.tup [.imm (.agg [.int .i64 u0, .int .i64 u1, .str u2, .int .i64 u3, .int .i64 u4]),Ai t3]) [(Af, .blk Ad [As u5,Ai u6, .own Ar]),(Ar, .arr (Am+2) true 1 u7)])):Sy s at_ out Q .ret ⟨[(2, .ptr nL2 0),(3,Ai t3)],[(nL2, .blk Aq [Ai u0,Ai u1,As u2,Ai u3,Ai u4]),(Af, .blk Ad [As u5,Ai u6, .own Ar]),(Ar, .arr (Am+2) true 1 u7)]⟩:=kq h
theorem O6(s:LB)(at_:Int)(out:LL)(Q:QQ)(t3 u0 u1:Int)(u2:LB)(u3 u4:Int)(u5:LB)(u6:Int)(u7:LL)(h:
 (Q (.tup [.imm (.agg [.int .i64 u0, .int .i64 u1, .str u2, .int .i64 u3, .int .i64 u4]),Ai t3]) [(Af, .blk Ad [As u5,Ai u6, .own Ar]),(Ar, .arr (Am+2) true 1 u7)])):Df s at_ out Q .ret ⟨[(2, .ptr nL2 0),(3,Ai t3)],[(nL2, .blk Aq [Ai u0,Ai u1,As u2,Ai u3,Ai u4]),(Af, .blk Ad [As u5,Ai u6, .own Ar]),(Ar, .arr (Am+2) true 1 u7)]⟩:=kq h
theorem Ant(s:LB)(at_:Int)(out:LL)(Q:QQ)(u0 u1:Int)(u2:LB)(u3 u4:Int)(u5:LB)(u6:Int)(u7:LL)(h:
 (Aa0 u0 u1 u2 u3 u4 u5 u6 u7 (Sy s at_ out Q))):Df s at_ out Q (.exit 0) ⟨[(2, .ptr nL2 0)],[(nL2, .blk Aq [Ai u0,Ai u1,As u2,Ai u3,Ai u4]),(Af, .blk Ad [As u5,Ai u6, .own Ar]),(Ar, .arr (Am+2) true 1 u7)]⟩:=kq h
theorem X4(K:KK)(t6:Int)(t7:Bool)(u0 u1:Int)(u2:LB)(u3 u4 u5:Int)(u6:LB)(u7:Int)(u8:LL)(h:
 (Fa t6 t7 u0 u1 u2 u3 u4 u5 u6 u7 u8 K)):Sz K .normal ⟨[(1, .ptr Ej 0),(2, .ptr nL2 0),(4, .ptr nL4 0),(5, .fn D5 [.ptr nL4 0, .ptr Ej 0]),(6, .imm (.int .u8 t6)),(7,Ab t7)],[(Ej, .blk 98 [.ptr Af 0]),(nL2, .blk Aq [Ai u0,Ai u1,As u2,Ai u3,Ai u4]),(nL4, .blk Fu [Ai u5]),(Af, .blk Ad [As u6,Ai u7, .own Ar]),(Ar, .arr (Am+2) true 1 u8)]⟩:=kq h
theorem Anu(K:KK)(t3 u0 u1:Int)(u2:LB)(u3 u4:Int)(u5:LB)(u6:Int)(u7:LL)(h:
 (K .ret ⟨[(2, .ptr nL2 0),(3,Ai t3)],[(nL2, .blk Aq [Ai u0,Ai u1,As u2,Ai u3,Ai u4]),(Af, .blk Ad [As u5,Ai u6, .own Ar]),(Ar, .arr (Am+2) true 1 u7)]⟩)):Cu K .ret ⟨[(2, .ptr nL2 0),(3,Ai t3)],[(nL2, .blk Aq [Ai u0,Ai u1,As u2,Ai u3,Ai u4]),(Af, .blk Ad [As u5,Ai u6, .own Ar]),(Ar, .arr (Am+2) true 1 u7)]⟩:=kq h
theorem Anv(K:KK)(u0 u1:Int)(u2:LB)(u3 u4 u5:Int)(u6:LB)(u7:Int)(u8:LL)(h:
 (Aaz u0 u1 u2 u3 u4 u5 u6 u7 u8 (Sz K))):Cu K .normal ⟨[(1, .ptr Ej 0),(2, .ptr nL2 0),(4, .ptr nL4 0),(5, .fn D5 [.ptr nL4 0, .ptr Ej 0])],[(Ej, .blk 98 [.ptr Af 0]),(nL2, .blk Aq [Ai u0,Ai u1,As u2,Ai u3,Ai u4]),(nL4, .blk Fu [Ai u5]),(Af, .blk Ad [As u6,Ai u7, .own Ar]),(Ar, .arr (Am+2) true 1 u8)]⟩:=kq h
theorem Avc:Bd E0.P 95 Er.code Es [.cell 2 78, .tmp 3]:=fq Tryz.func95
theorem Aqq(s:LB)(at_:Int)(out:LL)(Q:QQ)(h:
 (Br (decide ((↑s.length:Int)≤i64.wrap (at_+(1:Int))))
 (Fa ((0:Int)) false ((0:Int)) ((0:Int)) [] ((0:Int)) ((0:Int)) ((0:Int)) s (i64.wrap (at_+(1:Int))) out (Df s at_ out Q))
 (Ag ((0:Int)≤i64.wrap (at_+(1:Int))∧i64.wrap (at_+(1:Int))<(↑s.length:Int))
 (Fa ((↑(s.getD (i64.wrap (at_+(1:Int))).toNat 0).toNat:Int)) true ((0:Int)) ((0:Int)) [] ((0:Int)) ((0:Int)) ((0:Int)) s (i64.wrap (at_+(1:Int))) out (Df s at_ out Q))))):Call E0.P Vd [.ptr (.arg 0) 0] [(.arg 0, .blk Ad [.imm (.str s), .imm (.int .i64 at_), .own (.arg 1)]),(.arg 1, .arr (Am+2) true 1 out)] Q:=fR 0 Avc h
noncomputable def Asw:AC:=(A7 [] [2,3] (codeOf Tryz.f96) 0).1
abbrev Atf:Nat:=66
theorem Atn:Bd E0.P 96 Asw.code Atf [.cell 2 78, .tmp 3]:=fq Tryz.func96
theorem Ao9(s:LB)(at_:Int)(out:LL)(Q:QQ)(h:
 (Call E0.P Vx [As s,Ai at_, .imm (.sl .any 1 [[IV.int .i64 (2:Int)]])] [] fun r0 g0=>
 Ag (Pj g0 r0)
 (Ag ((0:Int)≤at_∧at_≤i64.wrap (at_+rI r0)∧i64.wrap (at_+rI r0)≤(↑s.length:Int))
 (Let (List.drop at_.toNat (List.take (i64.wrap (at_+rI r0)).toNat s)) fun x1=>
 Call E0.P Ae8 [As x1] [] fun r2 g2=>
 Ag (qP9 g2 r2)
 (Br (decide (rI (rT r2 1)=(0:Int)))
 (Q (.tup [.imm (.agg [.int .i64 1, .int .i64 (rI (rT r2 0)), .str [], .int .i64 0, .int .i64 0]),Ai 0]) [(Af, .blk Ad [As s,Ai (i64.wrap (at_+(↑x1.length:Int))), .own Ar]),(Ar, .arr (Am+2) true 1 out)])
 (Br (decide (rI (rT r2 1)=(3:Int)))
 (Q (.tup [.imm (.agg [.int .i64 0, .int .i64 0, .str [], .int .i64 0, .int .i64 0]),Ai (rI (rT r2 1))]) [(Af, .blk Ad [As s,Ai (i64.wrap (at_+(↑x1.length:Int))), .own Ar]),(Ar, .arr (Am+2) true 1 out)])
 (Br (decide ((127:Int)<(↑x1.length:Int)))
 (Q (.tup [.imm (.agg [.int .i64 0, .int .i64 0, .str [], .int .i64 0, .int .i64 0]),Ai 8]) [(Af, .blk Ad [As s,Ai (i64.wrap (at_+(↑x1.length:Int))), .own Ar]),(Ar, .arr (Am+2) true 1 out)])
 (Q (.tup [.imm (.agg [.int .i64 8, .int .i64 0, .str x1, .int .i64 0, .int .i64 0]),Ai 0]) [(Af, .blk Ad [As s,Ai (i64.wrap (at_+(↑x1.length:Int))), .own Ar]),(Ar, .arr (Am+2) true 1 out)])))))))):Call E0.P Tq [.ptr (.arg 0) 0] [(.arg 0, .blk Ad [.imm (.str s), .imm (.int .i64 at_), .own (.arg 1)]),(.arg 1, .arr (Am+2) true 1 out)] Q:=fR 0 Atn h
noncomputable def Aln:AC:=(A7 [(4,[0,3,4,5],[]),(6,[],[]),(11,[],[])] [2] (codeOf Tryz.f98) 0).1
abbrev Alw:Nat:=23
def Ahr(t0:Int)(t3 t4:LB)(t5:Int)(K:KK):Prop:=Ba 4 E0.P Alw (A9 4 Aln).code ⟨[(0, .imm (.int .u8 t0)),(3,As t3),(4,As t4),(5,Ai t5)],[]⟩ K
def Axo(K:KK):Prop:=Ao 11 E0.P Alw (Ah 11 Aln).code ⟨[],[]⟩ K
def Aqr(Q:QQ):KK:=kE fun st=>finish 0 E0.T [.tmp 2] [] Q st
def Aho(Q:QQ):KK:=kF 0 (fun st=>Ao 11 E0.P Alw (Ah 11 Aln).code (mask [] st) (Aqr Q)) fun st=>finish 0 E0.T [.tmp 2] [] Q st
theorem Asn(t0:Int)(t3 t4:LB)(t5:Int)(K:KK)(h:
 (Br (decide (t5<(16:Int)))
 (Ag ((0:Int)≤t5∧t5<(↑t3.length:Int))
 (Ag (decide ((↑(t3.getD t5.toNat 0).toNat:Int)=t0)=false→(0:Int)≤t5∧t5<(↑t4.length:Int))
 (Let (bif decide ((↑(t3.getD t5.toNat 0).toNat:Int)=t0)then true
 else decide ((↑(t4.getD t5.toNat 0).toNat:Int)=t0)) fun x0=>
 Br (x0)
 (K .ret ⟨[(2,Ai t5)],[]⟩)
 (Ahr t0 t3 t4 (i64.wrap (t5+(1:Int))) K))))
 (K (.exit 0) ⟨[],[]⟩))):Ahr t0 t3 t4 t5 K:=lR [0,3,4,5] h
theorem A6e(K:KK)(h:
 (K .ret ⟨[(2,Ai (-1))],[]⟩)):Axo K:=cR [] h
theorem A96(Q:QQ)(t2:Int)(h:
 (Q (Ai t2) [])):Aqr Q .ret ⟨[(2,Ai t2)],[]⟩:=kq h
theorem A97(Q:QQ)(t2:Int)(h:
 (Q (Ai t2) [])):Aho Q .ret ⟨[(2,Ai t2)],[]⟩:=kq h
theorem A98(Q:QQ)(h:
 (Axo (Aqr Q))):Aho Q (.exit 0) ⟨[],[]⟩:=kq h
theorem Bna:Bd E0.P 98 Aln.code Alw [.tmp 2]:=fq Tryz.func98
theorem Bfp(a0:Int)(Q:QQ)(h:
 (Ahr a0 [(48:UInt8),49,50,51,52,53,54,55,
 56,57,65,66,67,68,69,70] [(48:UInt8),49,50,51,52,53,54,55,
 56,57,97,98,99,100,101,102] ((0:Int)) (Aho Q))):Call E0.P Rh [.imm (.int .u8 a0)] [] Q:=fR 0 Bna h
noncomputable def Bjn:AC:=(A7 [] [4] (codeOf Tryz.f99) 0).1
abbrev Bj4:Nat:=28
theorem Bkb:Bd E0.P 99 Bjn.code Bj4 [.tmp 4]:=fq Tryz.func99
theorem Bdr(a0:LB)(a1:Int)(Q:QQ)(h:
 (Let (bif decide (a1<(0:Int))then true else decide ((↑a0.length:Int)≤a1)) fun x0=>
 Br (x0)
 (Q (Ai 0) [])
 (Ag ((0:Int)≤a1∧a1≤(↑a0.length:Int))
 (Let (List.drop a1.toNat a0) fun x1=>
 Ag (decide ((1:Int)<(↑x1.length:Int))=true→(0:Int)≤(2:Int)∧(2:Int)≤(↑x1.length:Int))
 (Let (List.take 2 x1) fun x2=>
 Let (bif decide ((1:Int)<(↑x1.length:Int))then x2 == [(13:UInt8),10]else false) fun x3=>
 Br (x3)
 (Q (Ai 2) [])
 (Ag ((0:Int)≤(0:Int)∧(0:Int)<(↑x1.length:Int))
 (Call E0.P Aiy [.imm (.str [13,10]), .imm (.int .u8 ((↑(x1.getD (0:Nat) 0).toNat:Int)))] [] fun r4 g4=>
 Ag (qP8 g4 r4)
 (Br (rB r4)
 (Q (Ai 1) [])
 (Q (Ai 0) []))))))))):Call E0.P Ah0 [As a0,Ai a1] [] Q:=fR 0 Bkb h
noncomputable def O9:AC:=(A7 [(11,[0,1,7,8,9],[]),(13,[0,1],[]),(18,[0,1],[]),(20,[0,1,10,11],[]),(22,[0,1,10,11],[]),(25,[0,1,10,11],[])] [4,5] (codeOf Tryz.f100) 0).1
abbrev Ph:Nat:=99
def Y9(t0:LB)(t1:Int)(t7 t8:LB)(t9:Int)(K:KK):Prop:=Ba 11 E0.P Ph (A9 11 O9).code ⟨[(0,As t0),(1,Ai t1),(7,As t7),(8,As t8),(9,Ai t9)],[]⟩ K
def Arw(t0:LB)(t1:Int)(K:KK):Prop:=Ao 18 E0.P Ph (Ah 18 O9).code ⟨[(0,As t0),(1,Ai t1)],[]⟩ K
def Za(t0:LB)(t1 t10 t11:Int)(K:KK):Prop:=Ba 20 E0.P Ph (A9 20 O9).code ⟨[(0,As t0),(1,Ai t1),(10,Ai t10),(11,Ai t11)],[]⟩ K
def Arx(t0:LB)(t1 t10 t11:Int)(K:KK):Prop:=Ao 25 E0.P Ph (Ah 25 O9).code ⟨[(0,As t0),(1,Ai t1),(10,Ai t10),(11,Ai t11)],[]⟩ K
def Ajj(Q:QQ):KK:=kE fun st=>finish 0 E0.T [.tmp 4, .tmp 5] [] Q st
def Abr(Q:QQ):KK:=kF 0 (fun st=>Ao 18 E0.P Ph (Ah 18 O9).code (mask [0,1] st) (Ajj Q)) fun st=>finish 0 E0.T [.tmp 4, .tmp 5] [] Q st
def Ajk(K:KK):KK:=kP [] K
def Av8(K:KK):KK:=kC 2 (fun st=>Ao 25 E0.P Ph (Ah 25 O9).code (mask [0,1,10,11] st) (Ajk K)) K
theorem Akw(t0:LB)(t1:Int)(t7 t8:LB)(t9:Int)(K:KK)(h:
 (Br (decide (t9<(↑t7.length:Int)))
 (Ag ((0:Int)≤t1∧t1<(↑t0.length:Int))
 (Ag ((0:Int)≤t9∧t9<(↑t7.length:Int))
 (Br (decide ((↑(t0.getD t1.toNat 0).toNat:Int)=(↑(t7.getD t9.toNat 0).toNat:Int)))
 (Ag ((0:Int)≤t9∧t9≤i64.wrap (t9+(1:Int))∧i64.wrap (t9+(1:Int))≤(↑t8.length:Int))
 (Let (List.drop t9.toNat (List.take (i64.wrap (t9+(1:Int))).toNat t8)) fun x0=>
 K .ret ⟨[(4,As x0),(5,Ai (i64.wrap (t1+(1:Int))))],[]⟩))
 (Y9 t0 t1 t7 t8 (i64.wrap (t9+(1:Int))) K))))
 (K (.exit 0) ⟨[(0,As t0),(1,Ai t1)],[]⟩))):Y9 t0 t1 t7 t8 t9 K:=lR [0,1,7,8,9] h
theorem A0z(t0:LB)(t1:Int)(K:KK)(h:
 (Za t0 t1 ((0:Int)) ((0:Int)) (Av8 K))):Arw t0 t1 K:=cR [] h
theorem Akx(t0:LB)(t1 t10 t11:Int)(K:KK)(h:
 (Let (bif decide (t11<(3:Int))then decide (i64.wrap (t1+t11)<(↑t0.length:Int))else false) fun x0=>
 Ag (x0=true→(0:Int)≤i64.wrap (t1+t11)∧i64.wrap (t1+t11)<(↑t0.length:Int))
 (Let (bif x0 then decide ((48:Int)≤(↑(t0.getD (i64.wrap (t1+t11)).toNat 0).toNat:Int))else false) fun x1=>
 Ag (x1=true→(0:Int)≤i64.wrap (t1+t11)∧i64.wrap (t1+t11)<(↑t0.length:Int))
 (Let (bif x1 then decide ((↑(t0.getD (i64.wrap (t1+t11)).toNat 0).toNat:Int)≤(55:Int))else false) fun x2=>
 Br (x2)
 (Ag ((0:Int)≤i64.wrap (t1+t11)∧i64.wrap (t1+t11)<(↑t0.length:Int))
 (Za t0 t1 (i64.wrap
 (i64.wrap
 (i64.wrap ((8:Int)*t10)+
 i64.wrap (↑(t0.getD (i64.wrap (t1+t11)).toNat 0).toNat:Int)) -
 (48:Int))) (i64.wrap (t11+(1:Int))) K))
 (K (.exit (2)) ⟨[(0,As t0),(1,Ai t1),(10,Ai t10),(11,Ai t11)],[]⟩))))):Za t0 t1 t10 t11 K:=lR [0,1,10,11] h
theorem A00(t0:LB)(t1 t10 t11:Int)(K:KK)(h:
 (Br (decide ((0:Int)<t11))
 (Ag ((256:Int)≠(0:Int))
 (Ag (∀(r:List IV),r∈ [[IV.int .u8 (IntKind.u8.wrap (t10.tmod (256:Int)))]]→Be [.int .u8] r=true)
 (K .ret ⟨[(4, .imm (.str [UInt8.ofNat (gI [.int .u8 (IntKind.u8.wrap (t10.tmod (256:Int)))] 0).toNat])),(5,Ai (i64.wrap (t1+t11)))],[]⟩)))
 (Ag ((0:Int)≤t1∧t1≤i64.wrap (t1+(1:Int))∧i64.wrap (t1+(1:Int))≤(↑t0.length:Int))
 (Let (List.drop t1.toNat (List.take (i64.wrap (t1+(1:Int))).toNat t0)) fun x0=>
 K .ret ⟨[(4,As x0),(5,Ai (i64.wrap (t1+(1:Int))))],[]⟩)))):Arx t0 t1 t10 t11 K:=cR [] h
theorem Anc(Q:QQ)(t4:LB)(t5:Int)(h:
 (Q (.tup [As t4,Ai t5]) [])):Ajj Q .ret ⟨[(4,As t4),(5,Ai t5)],[]⟩:=kq h
theorem A3z(Q:QQ)(t4:LB)(t5:Int)(h:
 (Q (.tup [As t4,Ai t5]) [])):Abr Q .ret ⟨[(4,As t4),(5,Ai t5)],[]⟩:=kq h
theorem A30(Q:QQ)(t0:LB)(t1:Int)(h:
 (Arw t0 t1 (Ajj Q))):Abr Q (.exit 0) ⟨[(0,As t0),(1,Ai t1)],[]⟩:=kq h
theorem Ane(K:KK)(t4:LB)(t5:Int)(h:
 (K .ret ⟨[(4,As t4),(5,Ai t5)],[]⟩)):Ajk K .ret ⟨[(4,As t4),(5,Ai t5)],[]⟩:=kq h
theorem A31(K:KK)(t0:LB)(t1 t10 t11:Int)(h:
 (Arx t0 t1 t10 t11 (Ajk K))):Av8 K (.exit (2)) ⟨[(0,As t0),(1,Ai t1),(10,Ai t10),(11,Ai t11)],[]⟩:=kq h
theorem Bib:Bd E0.P 100 O9.code Ph [.tmp 4, .tmp 5]:=fq Tryz.func100
theorem Asa(a0:LB)(a1:Int)(Q:QQ)(h:
 (Br (decide ((↑a0.length:Int)≤a1))
 (Q (.tup [.imm (.str []),Ai (-1)]) [])
 (Call E0.P Ah0 [As a0,Ai a1] [] fun r0 g0=>
 Ag (Pj g0 r0)
 (Br (decide ((0:Int)<rI r0))
 (Q (.tup [.imm (.str []),Ai (i64.wrap (a1+rI r0))]) [])
 (Y9 a0 a1 [(110:UInt8),114,116,98,102] [(10:UInt8),13,9,8,12] ((0:Int)) (Abr Q)))))):Call E0.P Afb [As a0,Ai a1] [] Q:=fR 0 Bib h
noncomputable def Ap8:AC:=(A7 [(2,[0,1,5],[]),(4,[],[]),(9,[],[])] [4] (codeOf Tryz.f101) 0).1
abbrev Aqg:Nat:=17
def Alm(t0:LB)(t1 t5:Int)(K:KK):Prop:=Ba 2 E0.P Aqg (A9 2 Ap8).code ⟨[(0,As t0),(1, .imm (.int .u8 t1)),(5,Ai t5)],[]⟩ K
def A6f(K:KK):Prop:=Ao 9 E0.P Aqg (Ah 9 Ap8).code ⟨[],[]⟩ K
def Aud(Q:QQ):KK:=kE fun st=>finish 0 E0.T [.tmp 4] [] Q st
def Alc(Q:QQ):KK:=kF 0 (fun st=>Ao 9 E0.P Aqg (Ah 9 Ap8).code (mask [] st) (Aud Q)) fun st=>finish 0 E0.T [.tmp 4] [] Q st
theorem Awb(t0:LB)(t1 t5:Int)(K:KK)(h:
 (Br (decide (t5<(↑t0.length:Int)))
 (Ag ((0:Int)≤t5∧t5<(↑t0.length:Int))
 (Br (decide ((↑(t0.getD t5.toNat 0).toNat:Int)=t1))
 (K .ret ⟨[(4,Ab true)],[]⟩)
 (Alm t0 t1 (i64.wrap (t5+(1:Int))) K)))
 (K (.exit 0) ⟨[],[]⟩))):Alm t0 t1 t5 K:=lR [0,1,5] h
theorem Bdq(K:KK)(h:
 (K .ret ⟨[(4,Ab false)],[]⟩)):A6f K:=cR [] h
theorem Bd5(Q:QQ)(t4:Bool)(h:
 (Q (Ab t4) [])):Aud Q .ret ⟨[(4,Ab t4)],[]⟩:=kq h
theorem Bd6(Q:QQ)(t4:Bool)(h:
 (Q (Ab t4) [])):Alc Q .ret ⟨[(4,Ab t4)],[]⟩:=kq h
theorem Bd7(Q:QQ)(h:
 (A6f (Aud Q))):Alc Q (.exit 0) ⟨[],[]⟩:=kq h
theorem Bp0:Bd E0.P 101 Ap8.code Aqg [.tmp 4]:=fq Tryz.func101
theorem Bje(a0:LB)(a1:Int)(Q:QQ)(h:
 (Alm a0 a1 ((0:Int)) (Alc Q))):Call E0.P Aiy [As a0, .imm (.int .u8 a1)] [] Q:=fR 0 Bp0 h
noncomputable def Fp:AC:=(A7 [(6,[0,2,7,8],[]),(8,[7],[]),(12,[0,2,7,8,9,10],[]),(14,[0,2,7,8,9],[]),(16,[0,2,7,8,9,10],[0,2,7,8,9,10]),(17,[0,2,7,8,9],[0,2,7,8]),(21,[0,2,7,8],[0,2,7,8]),(22,[7],[])] [6] (codeOf Tryz.f102) 0).1
abbrev Fq:Nat:=44
def Ael(t0:LB)(t2r:LL)(t7 t8:Int)(K:KK):Prop:=Ba 6 E0.P Fq (A9 6 Fp).code ⟨[(0,As t0),(2,Al 1 t2r),(7,Ai t7),(8,Ai t8)],[]⟩ K
def Abt(t0:LB)(t2r:LL)(t7 t8:Int)(t9:Bool)(t10:Int)(K:KK):Prop:=Ba 12 E0.P Fq (A9 12 Fp).code ⟨[(0,As t0),(2,Al 1 t2r),(7,Ai t7),(8,Ai t8),(9,Ab t9),(10,Ai t10)],[]⟩ K
def Ai6(t0:LB)(t2r:LL)(t7 t8:Int)(t9:Bool)(t10:Int)(K:KK):Prop:=Ao 16 E0.P Fq (Ah 16 Fp).code ⟨[(0,As t0),(2,Al 1 t2r),(7,Ai t7),(8,Ai t8),(9,Ab t9),(10,Ai t10)],[]⟩ K
def Avv(t7:Int)(K:KK):Prop:=Ao 22 E0.P Fq (Ah 22 Fp).code ⟨[(7,Ai t7)],[]⟩ K
def Avt(t0:LB)(t2r:LL)(t7 t8:Int)(t9:Bool)(K:KK):Prop:=Ao 17 E0.P Fq (Ah 17 Fp).code ⟨[(0,As t0),(2,Al 1 t2r),(7,Ai t7),(8,Ai t8),(9,Ab t9)],[]⟩ K
def Avu(t0:LB)(t2r:LL)(t7 t8:Int)(K:KK):Prop:=Ao 21 E0.P Fq (Ah 21 Fp).code ⟨[(0,As t0),(2,Al 1 t2r),(7,Ai t7),(8,Ai t8)],[]⟩ K
def Am5(Q:QQ):KK:=kE fun st=>finish 0 E0.T [.tmp 6] [] Q st
def Xx(Q:QQ):KK:=kF 0 (fun st=>Ao 22 E0.P Fq (Ah 22 Fp).code (mask [7] st) (Am5 Q)) fun st=>finish 0 E0.T [.tmp 6] [] Q st
def Ad2(K:KK):Ex→St→Prop
 | .normal,st=>Ba 6 E0.P Fq (A9 6 Fp).code (mask [0,2,7,8] st) K
 | .exit i,st=>K (.exit i) st
 | .goto i,st=>K (.goto i) st
 | .ret,st=>K .ret st
def Xy(K:KK):KK:=kC 1 (fun st=>Ao 21 E0.P Fq (Ah 21 Fp).code (mask [0,2,7,8] st) (Ad2 K)) K
def Am6(K:KK):Ex→St→Prop
 | .normal,st=>Ao 17 E0.P Fq (Ah 17 Fp).code (mask [0,2,7,8,9] st) (Xy K)
 | .exit i,st=>(match (i.beq 2:Bool)with
 |true=>Ao 17 E0.P Fq (Ah 17 Fp).code (mask [0,2,7,8,9] st) (Xy K)
 |false=>(match (i.beq 1:Bool)with
 |true=>Ao 21 E0.P Fq (Ah 21 Fp).code (mask [0,2,7,8] st) (Ad2 K)
 |false=>K (.exit i) st))
 | .goto i,st=>K (.goto i) st
 | .ret,st=>K .ret st
def Am7(K:KK):Ex→St→Prop
 | .normal,st=>Ba 12 E0.P Fq (A9 12 Fp).code (mask [0,2,7,8,9,10] st) K
 | .exit i,st=>K (.exit i) st
 | .goto i,st=>K (.goto i) st
 | .ret,st=>K .ret st
theorem Ap2(t0:LB)(t2r:LL)(t7 t8:Int)(K:KK)(h:
 (Br (decide (t8<(↑t0.length:Int)))
 (Abt t0 t2r t7 t8 false ((0:Int)) (Am6 K))
 (K (.exit 0) ⟨[(7,Ai t7)],[]⟩))):Ael t0 t2r t7 t8 K:=lR [0,2,7,8] h
theorem Anz(t0:LB)(t2r:LL)(t7 t8:Int)(t9:Bool)(t10:Int)(K:KK)(h:
 (Br (decide (t10<(↑t2r.length:Int)))
 (Br (t9)
 (Ag (true=true)
 (Let (true) fun x0=>
 Ai6 t0 t2r t7 t8 x0 t10 (Am7 K)))
 (Ag ((0:Int)≤t8∧t8<(↑t0.length:Int))
 (Ag (((0:Int)≤t10∧t10<(↑t2r.length:Int))∧Be [.int .i64] (t2r.getD t10.toNat [])=true)
 (Call E0.P Og [.imm (.int .u8 ((↑(t0.getD t8.toNat 0).toNat:Int)))] [] fun r1 g1=>
 Ag (Pj g1 r1)
 (Let (decide (rI r1=gI (t2r.getD t10.toNat []) 0)) fun x2=>
 Ai6 t0 t2r t7 t8 x2 t10 (Am7 K))))))
 (K (.exit (2)) ⟨[(0,As t0),(2,Al 1 t2r),(7,Ai t7),(8,Ai t8),(9,Ab t9)],[]⟩))):Abt t0 t2r t7 t8 t9 t10 K:=lR [0,2,7,8,9,10] h
theorem A2p(t0:LB)(t2r:LL)(t7 t8:Int)(t9:Bool)(t10:Int)(K:KK)(h:
 (K .normal ⟨[(0,As t0),(2,Al 1 t2r),(7,Ai t7),(8,Ai t8),(9,Ab t9),(10,Ai (i64.wrap (t10+(1:Int))))],[]⟩)):Ai6 t0 t2r t7 t8 t9 t10 K:=cR [0,2,7,8,9,10] h
theorem A2s(t7:Int)(K:KK)(h:
 (K .ret ⟨[(6,Ai t7)],[]⟩)):Avv t7 K:=cR [] h
theorem A2q(t0:LB)(t2r:LL)(t7 t8:Int)(t9:Bool)(K:KK)(h:
 (Br (!t9)
 (K .ret ⟨[(6,Ai t7)],[]⟩)
 (K .normal ⟨[(0,As t0),(2,Al 1 t2r),(7,Ai (i64.wrap (t7+(1:Int)))),(8,Ai t8)],[]⟩))):Avt t0 t2r t7 t8 t9 K:=cR [0,2,7,8] h
theorem A2r(t0:LB)(t2r:LL)(t7 t8:Int)(K:KK)(h:
 (K .normal ⟨[(0,As t0),(2,Al 1 t2r),(7,Ai t7),(8,Ai (i64.wrap (t8+(1:Int))))],[]⟩)):Avu t0 t2r t7 t8 K:=cR [0,2,7,8] h
theorem A62(Q:QQ)(t6:Int)(h:
 (Q (Ai t6) [])):Am5 Q .ret ⟨[(6,Ai t6)],[]⟩:=kq h
theorem A63(Q:QQ)(t7:Int)(h:
 (Avv t7 (Am5 Q))):Xx Q (.exit 0) ⟨[(7,Ai t7)],[]⟩:=kq h
theorem A64(Q:QQ)(t6:Int)(h:
 (Q (Ai t6) [])):Xx Q .ret ⟨[(6,Ai t6)],[]⟩:=kq h
theorem A65(K:KK)(t0:LB)(t2r:LL)(t7 t8:Int)(h:
 (Ael t0 t2r t7 t8 K)):Ad2 K .normal ⟨[(0,As t0),(2,Al 1 t2r),(7,Ai t7),(8,Ai t8)],[]⟩:=kq h
theorem A66(K:KK)(t6:Int)(h:
 (K .ret ⟨[(6,Ai t6)],[]⟩)):Xy K .ret ⟨[(6,Ai t6)],[]⟩:=kq h
theorem A67(K:KK)(t0:LB)(t2r:LL)(t7 t8:Int)(h:
 (Avu t0 t2r t7 t8 (Ad2 K))):Xy K .normal ⟨[(0,As t0),(2,Al 1 t2r),(7,Ai t7),(8,Ai t8)],[]⟩:=kq h
theorem A68(K:KK)(t0:LB)(t2r:LL)(t7 t8:Int)(t9:Bool)(h:
 (Avt t0 t2r t7 t8 t9 (Xy K))):Am6 K (.exit (2)) ⟨[(0,As t0),(2,Al 1 t2r),(7,Ai t7),(8,Ai t8),(9,Ab t9)],[]⟩:=kq h
theorem A69(K:KK)(t0:LB)(t2r:LL)(t7 t8:Int)(t9:Bool)(t10:Int)(h:
 (Abt t0 t2r t7 t8 t9 t10 K)):Am7 K .normal ⟨[(0,As t0),(2,Al 1 t2r),(7,Ai t7),(8,Ai t8),(9,Ab t9),(10,Ai t10)],[]⟩:=kq h
theorem Bkd:Bd E0.P 102 Fp.code Fq [.tmp 6]:=fq Tryz.func102
theorem Bdt(a0:LB)(a1:Int)(a2:LL)(Q:QQ)(h:
 (Br (decide (a1<(0:Int)))
 (Q (Ai 0) [])
 (Ael a0 a2 ((0:Int)) a1 (Xx Q)))):Call E0.P Aq9 [As a0,Ai a1,Al 1 a2] [] Q:=fR 0 Bkd h
noncomputable def An9:AC:=(A7 [(3,[0,4],[]),(6,[5,6],[])] [2,3] (codeOf Tryz.f103) 0).1
abbrev Aov:Nat:=38
def Qm(t0:LB)(t4:Bool)(K:KK):Prop:=Ao 3 E0.P Aov (Ah 3 An9).code ⟨[(0,As t0),(4,Ab t4)],[]⟩ K
def Abi(t5 t6:Int)(K:KK):Prop:=Ao 6 E0.P Aov (Ah 6 An9).code ⟨[(5,Ai t5),(6,Ai t6)],[]⟩ K
def Qn(Q:QQ):KK:=kE fun st=>finish 0 E0.T [.tmp 2, .tmp 3] [] Q st
def Aji(K:KK):KK:=kP [] K
theorem A2v(t0:LB)(t4:Bool)(K:KK)(h:
 (Call E0.P Afa [As t0] [] fun r0 g0=>
 Ag (qP9 g0 r0)
 (Br (t4)
 (Abi (i64.wrap ((0:Int) - rI (rT r0 0))) (rI (rT r0 1)) (Aji K))
 (Abi (rI (rT r0 0)) (rI (rT r0 1)) (Aji K))))):Qm t0 t4 K:=cR [] h
theorem A2w(t5 t6:Int)(K:KK)(h:
 (K .ret ⟨[(2,Ai t5),(3,Ai t6)],[]⟩)):Abi t5 t6 K:=cR [] h
theorem A3x(Q:QQ)(t2 t3:Int)(h:
 (Q (.tup [Ai t2,Ai t3]) [])):Qn Q .ret ⟨[(2,Ai t2),(3,Ai t3)],[]⟩:=kq h
theorem A3y(K:KK)(t2 t3:Int)(h:
 (K .ret ⟨[(2,Ai t2),(3,Ai t3)],[]⟩)):Aji K .ret ⟨[(2,Ai t2),(3,Ai t3)],[]⟩:=kq h
theorem Bia:Bd E0.P 103 An9.code Aov [.tmp 2, .tmp 3]:=fq Tryz.func103
theorem A9t(a0:LB)(Q:QQ)(h:
 (Ag ((!a0 == [])=true→(0:Int)≤(0:Int)∧(0:Int)<(↑a0.length:Int))
 (Let (bif !a0 == []then decide ((↑(a0.getD (0:Nat) 0).toNat:Int)=(45:Int))else false) fun x0=>
 Ag ((!a0 == [])=true→(0:Int)≤(0:Int)∧(0:Int)<(↑a0.length:Int))
 (Br ((!a0 == []) == true)
 (Ag (decide ((↑(a0.getD (0:Nat) 0).toNat:Int)=(43:Int))=false→
 (0:Int)≤(0:Int)∧(0:Int)<(↑a0.length:Int))
 (Let (bif decide ((↑(a0.getD (0:Nat) 0).toNat:Int)=(43:Int))then true
 else decide ((↑(a0.getD (0:Nat) 0).toNat:Int)=(45:Int))) fun x1=>
 Let (x1) fun x2=>
 Br (x2)
 (Ag ((0:Int)≤(1:Int)∧(1:Int)≤(↑a0.length:Int))
 (Let (List.drop 1 a0) fun x3=>
 Qm x3 x0 (Qn Q)))
 (Qm a0 x0 (Qn Q))))
 (Ag ((!true)=false)
 (Let (false) fun x4=>
 Br (x4)
 (Ag ((0:Int)≤(1:Int)∧(1:Int)≤(↑a0.length:Int))
 (Let (List.drop 1 a0) fun x5=>
 Qm x5 x0 (Qn Q)))
 (Qm a0 x0 (Qn Q)))))))):Call E0.P Aoi [As a0] [] Q:=fR 0 Bia h
noncomputable def A8d:AC:=(A7 [] [4] (codeOf Tryz.f124) 0).1
abbrev A8z:Nat:=13
theorem A88:Bd E0.P 124 A8d.code A8z [.tmp 4]:=fq Tryz.func124
theorem A1j(a0:LB)(a1:Int)(Q:QQ)(h:
 (Let (bif decide ((0:Int)≤a1)then decide (a1<(↑a0.length:Int))else false) fun x0=>
 Q (Ab x0) [])):Call E0.P Xj [As a0,Ai a1] [] Q:=fR 0 A88 h
noncomputable def Ab2:AC:=(A7 [(7,[3,4],[]),(20,[],[])] [2] (codeOf Tryz.f113) 0).1
abbrev Ab9:Nat:=22
def Ht(t3:Int)(t4:Bool)(K:KK):Prop:=Ao 7 E0.P Ab9 (Ah 7 Ab2).code ⟨[(3, .imm (.int .u8 t3)),(4,Ab t4)],[]⟩ K
def Api(K:KK):Prop:=Ao 20 E0.P Ab9 (Ah 20 Ab2).code ⟨[],[]⟩ K
def Agl(Q:QQ):KK:=kE fun st=>finish 0 E0.T [.tmp 2] [] Q st
def El(Q:QQ):KK:=kF 0 (fun st=>Ao 20 E0.P Ab9 (Ah 20 Ab2).code (mask [] st) (Agl Q)) fun st=>finish 0 E0.T [.tmp 2] [] Q st
theorem A0x(t3:Int)(t4:Bool)(K:KK)(h:
 (Br (t4)
 (K .ret ⟨[(2,Ai 0)],[]⟩)
 (Br (decide (t3=(40:Int)))
 (Br (decide (t3=(40:Int)))
 (K .ret ⟨[(2,Ai 1)],[]⟩)
 (K .normal ⟨[],[]⟩))
 (Br (decide (t3=(41:Int)))
 (Br (decide (t3=(41:Int)))
 (K .ret ⟨[(2,Ai 1)],[]⟩)
 (K .normal ⟨[],[]⟩))
 (Br (decide (t3=(60:Int)))
 (Br (decide (t3=(60:Int)))
 (K .ret ⟨[(2,Ai 1)],[]⟩)
 (K .normal ⟨[],[]⟩))
 (Br (decide (t3=(62:Int)))
 (Br (decide (t3=(62:Int)))
 (K .ret ⟨[(2,Ai 1)],[]⟩)
 (K .normal ⟨[],[]⟩))
 (Br (decide (t3=(91:Int)))
 (Br (decide (t3=(91:Int)))
 (K .ret ⟨[(2,Ai 1)],[]⟩)
 (K .normal ⟨[],[]⟩))
 (Br (decide (t3=(93:Int)))
 (Br (decide (t3=(93:Int)))
 (K .ret ⟨[(2,Ai 1)],[]⟩)
 (K .normal ⟨[],[]⟩))
 (Br (decide (t3=(123:Int)))
 (Br (decide (t3=(123:Int)))
 (K .ret ⟨[(2,Ai 1)],[]⟩)
 (K .normal ⟨[],[]⟩))
 (Br (decide (t3=(125:Int)))
 (Br (decide (t3=(125:Int)))
 (K .ret ⟨[(2,Ai 1)],[]⟩)
 (K .normal ⟨[],[]⟩))
 (Br (decide (t3=(47:Int)))
 (Br (decide (t3=(47:Int)))
 (K .ret ⟨[(2,Ai 1)],[]⟩)
 (K .normal ⟨[],[]⟩))
 (Br (decide (t3=(37:Int)))
 (K .ret ⟨[(2,Ai 1)],[]⟩)
 (K .normal ⟨[],[]⟩))))))))))))):Ht t3 t4 K:=cR [] h
theorem Axl(K:KK)(h:
 (K .ret ⟨[(2,Ai 2)],[]⟩)):Api K:=cR [] h
theorem A1n(Q:QQ)(t2:Int)(h:
 (Q (Ai t2) [])):Agl Q .ret ⟨[(2,Ai t2)],[]⟩:=kq h
theorem Aai(Q:QQ)(t2:Int)(h:
 (Q (Ai t2) [])):El Q .ret ⟨[(2,Ai t2)],[]⟩:=kq h
theorem A1o(Q:QQ)(h:
 (Api (Agl Q))):El Q .normal ⟨[],[]⟩:=kq h
theorem Beu:Bd E0.P 113 Ab2.code Ab9 [.tmp 2]:=fq Tryz.func113
theorem A6s(a0:Int)(Q:QQ)(h:
 (Br (decide (a0=(0:Int)))
 (Ht a0 (decide (a0=(0:Int))) (El Q))
 (Br (decide (a0=(9:Int)))
 (Ht a0 (decide (a0=(9:Int))) (El Q))
 (Br (decide (a0=(10:Int)))
 (Ht a0 (decide (a0=(10:Int))) (El Q))
 (Br (decide (a0=(12:Int)))
 (Ht a0 (decide (a0=(12:Int))) (El Q))
 (Br (decide (a0=(13:Int)))
 (Ht a0 (decide (a0=(13:Int))) (El Q))
 (Ht a0 (decide (a0=(32:Int))) (El Q)))))))):Call E0.P Nn [.imm (.int .u8 a0)] [] Q:=fR 0 Beu h
noncomputable def Aoa:AC:=(A7 [] [2,3] (codeOf Tryz.f126) 0).1
abbrev Aow:Nat:=62
theorem Aox:Bd E0.P 126 Aoa.code Aow [.tmp 2, .tmp 3]:=fq Tryz.func126
theorem Nh(s:LB)(at_:Int)(out:LL)(Q:QQ)(h:
 (Br (decide (i64.wrap ((↑s.length:Int) - at_)<(2:Int)))
 (Q (.tup [.imm (.int .u8 ((0:Int))),Ab false]) [(Af, .blk Ad [As s,Ai at_, .own Ar]),(Ar, .arr (Am+2) true 1 out)])
 (Ag ((0:Int)≤at_∧at_<(↑s.length:Int))
 (Ag ((0:Int)≤i64.wrap (at_+(1:Int))∧i64.wrap (at_+(1:Int))<(↑s.length:Int))
 (Call E0.P Yg [.imm (.int .u8 ((↑(s.getD at_.toNat 0).toNat:Int)))] [] fun r0 g0=>
 Ag (Pj g0 r0)
 (Call E0.P Yg [.imm (.int .u8 ((↑(s.getD (i64.wrap (at_+(1:Int))).toNat 0).toNat:Int)))] [] fun r1 g1=>
 Ag (Pj g1 r1)
 (Let (bif decide (rI r0<(0:Int))then true else decide (rI r1<(0:Int))) fun x2=>
 Let (bif x2 then true else decide (i64.wrap (rI r0+rI r1)=(0:Int))) fun x3=>
 Br (x3)
 (Q (.tup [.imm (.int .u8 ((0:Int))),Ab false]) [(Af, .blk Ad [As s,Ai (i64.wrap (at_+(2:Int))), .own Ar]),(Ar, .arr (Am+2) true 1 out)])
 (Ag ((0:Int)≤(4:Int))
 (Q (.tup [.imm (.int .u8 (IntKind.u8.wrap
 (i64.wrap
 (↑(BitVec.ofInt (64:Nat) (i64.wrap (rI r0*(2:Int) ^ (4:Nat))) |||
 BitVec.ofInt (64:Nat) (rI r1)).toNat:
 Int)))),Ab true]) [(Af, .blk Ad [As s,Ai (i64.wrap (at_+(2:Int))), .own Ar]),(Ar, .arr (Am+2) true 1 out)]))))))))):Call E0.P Ho [.ptr (.arg 0) 0] [(.arg 0, .blk Ad [.imm (.str s), .imm (.int .i64 at_), .own (.arg 1)]),(.arg 1, .arr (Am+2) true 1 out)] Q:=fR 0 Aox h
noncomputable def Aab:AC:=(A7 [(21,[0,3],[])] [2] (codeOf Tryz.f128) 0).1
abbrev Aac:Nat:=77
def Bt(t3:Int)(u0:LB)(u1:Int)(u2:LL)(K:KK):Prop:=Ao 21 E0.P Aac (Ah 21 Aab).code ⟨[(0, .ptr Af 0),(3, .imm (.int .u8 t3))],[(Af, .blk Ad [As u0,Ai u1, .own Ar]),(Ar, .arr (Am+2) true 1 u2)]⟩ K
def Bz(s:LB)(at_:Int)(out:LL)(Q:QQ):KK:=kE fun st=>finish 0 E0.T [.tmp 2] [(Af, .blk Ad [As s,Ai at_, .own Ar]),(Ar, .arr (Am+2) true 1 out)] Q st
theorem Agj(t3:Int)(u0:LB)(u1:Int)(u2:LL)(K:KK)(h:
 (Ag ((u2.length+1)*1≤140737488355328∧u2.length+1≤140737488355328)
 (K .ret ⟨[(2,Ab true)],[(Af, .blk Ad [As u0,Ai u1, .own Ar]),(Ar, .arr (Am+2) true 1 (u2++[[IV.int .u8 t3]]))]⟩))):Bt t3 u0 u1 u2 K:=cR [] h
theorem Aik(s:LB)(at_:Int)(out:LL)(Q:QQ)(t2:Bool)(u0:LB)(u1:Int)(u2:LL)(h:
 (Q (Ab t2) [(Af, .blk Ad [As u0,Ai u1, .own Ar]),(Ar, .arr (Am+2) true 1 u2)])):Bz s at_ out Q .ret ⟨[(2,Ab t2)],[(Af, .blk Ad [As u0,Ai u1, .own Ar]),(Ar, .arr (Am+2) true 1 u2)]⟩:=kq h
theorem Ape:Bd E0.P 128 Aab.code Aac [.tmp 2]:=fq Tryz.func128
theorem Wt(s:LB)(at_:Int)(out:LL)(Q:QQ)(h:
 (Br (decide ((↑s.length:Int)≤at_))
 (Br (!false)
 (Q (Ab false) [(Af, .blk Ad [As s,Ai at_, .own Ar]),(Ar, .arr (Am+2) true 1 out)])
 (Call E0.P Qq [As s,Ai at_] [] fun r0 g0=>
 Ag (Pj g0 r0)
 (Br (decide ((0:Int)<rI r0))
 (Q (Ab true) [(Af, .blk Ad [As s,Ai (i64.wrap (at_+rI r0)), .own Ar]),(Ar, .arr (Am+2) true 1 out)])
 (Let (bif decide ((48:Int)≤(0:Int))then decide ((0:Int)≤(55:Int))else false) fun x1=>
 Br (x1)
 (((Call E0.P D6 [.ptr Af 0] [(Af, .blk Ad [As s,Ai at_, .own Ar])] fun r2 g2=>
 Ag (Bcn g2 r2)
 (Ag ((out.length+1)*1≤140737488355328∧out.length+1≤140737488355328)
 (Q (Ab true) [(Af, .blk Ad [.imm (.str (rS ((Au g2 Af).getD 0 AV.undef))), .imm (.int .i64 (rI ((Au g2 Af).getD 1 AV.undef))), .own Ar]),(Ar, .arr (Am+2) true 1 (out++[[IV.int .u8 (rI r2)]]))])))∧
 (Call E0.P D6 [.ptr Af 0] [(Af, .blk Ad [As s,Ai at_, .own Ar])] fun r3 g3=>
 Ag (Bcn g3 r3)
 ((Ag ((out.length+1)*1≤140737488355328∧out.length+1≤140737488355328)
 (Q (Ab true) [(Af, .blk Ad [.imm (.str (rS ((Au g3 Af).getD 0 AV.undef))), .imm (.int .i64 (rI ((Au g3 Af).getD 1 AV.undef))), .own Ar]),(Ar, .arr (Am+2) true 1 (out++[[IV.int .u8 (rI r3)]]))]))∧
 (Ag ((out.length+1)*1≤140737488355328∧out.length+1≤140737488355328)
 (Q (Ab true) [(Af, .blk Ad [.imm (.str (rS ((Au g3 Af).getD 0 AV.undef))), .imm (.int .i64 (rI ((Au g3 Af).getD 1 AV.undef))), .own Ar]),(Ar, .arr (Am+2) true 1 (out++[[IV.int .u8 (rI r3)]]))])))))∧
 (Call E0.P D6 [.ptr Af 0] [(Af, .blk Ad [As s,Ai at_, .own Ar])] fun r4 g4=>
 Ag (Bcn g4 r4)
 (((Ag ((out.length+1)*1≤140737488355328∧out.length+1≤140737488355328)
 (Q (Ab true) [(Af, .blk Ad [.imm (.str (rS ((Au g4 Af).getD 0 AV.undef))), .imm (.int .i64 (rI ((Au g4 Af).getD 1 AV.undef))), .own Ar]),(Ar, .arr (Am+2) true 1 (out++[[IV.int .u8 (rI r4)]]))]))∧
 (Ag ((out.length+1)*1≤140737488355328∧out.length+1≤140737488355328)
 (Q (Ab true) [(Af, .blk Ad [.imm (.str (rS ((Au g4 Af).getD 0 AV.undef))), .imm (.int .i64 (rI ((Au g4 Af).getD 1 AV.undef))), .own Ar]),(Ar, .arr (Am+2) true 1 (out++[[IV.int .u8 (rI r4)]]))])))∧
 (Ag ((out.length+1)*1≤140737488355328∧out.length+1≤140737488355328)
 (Q (Ab true) [(Af, .blk Ad [.imm (.str (rS ((Au g4 Af).getD 0 AV.undef))), .imm (.int .i64 (rI ((Au g4 Af).getD 1 AV.undef))), .own Ar]),(Ar, .arr (Am+2) true 1 (out++[[IV.int .u8 (rI r4)]]))])))))
 (Br (decide ((0:Int)=(110:Int)))
 (Bt ((10:Int)) s (i64.wrap (at_+(1:Int))) out (Bz s at_ out Q))
 (Br (decide ((0:Int)=(114:Int)))
 (Bt ((13:Int)) s (i64.wrap (at_+(1:Int))) out (Bz s at_ out Q))
 (Br (decide ((0:Int)=(116:Int)))
 (Bt ((9:Int)) s (i64.wrap (at_+(1:Int))) out (Bz s at_ out Q))
 (Br (decide ((0:Int)=(98:Int)))
 (Bt ((8:Int)) s (i64.wrap (at_+(1:Int))) out (Bz s at_ out Q))
 (Br (decide ((0:Int)=(102:Int)))
 (Bt ((12:Int)) s (i64.wrap (at_+(1:Int))) out (Bz s at_ out Q))
 (Bt ((0:Int)) s (i64.wrap (at_+(1:Int))) out (Bz s at_ out Q)))))))))))
 (Ag ((0:Int)≤at_∧at_<(↑s.length:Int))
 (Br (!true)
 (Q (Ab false) [(Af, .blk Ad [As s,Ai at_, .own Ar]),(Ar, .arr (Am+2) true 1 out)])
 (Call E0.P Qq [As s,Ai at_] [] fun r5 g5=>
 Ag (Pj g5 r5)
 (Br (decide ((0:Int)<rI r5))
 (Q (Ab true) [(Af, .blk Ad [As s,Ai (i64.wrap (at_+rI r5)), .own Ar]),(Ar, .arr (Am+2) true 1 out)])
 (Let (bif decide ((48:Int)≤(↑(s.getD at_.toNat 0).toNat:Int))then
 decide ((↑(s.getD at_.toNat 0).toNat:Int)≤(55:Int))
 else false) fun x6=>
 Br (x6)
 (((Call E0.P D6 [.ptr Af 0] [(Af, .blk Ad [As s,Ai at_, .own Ar])] fun r7 g7=>
 Ag (Bcn g7 r7)
 (Ag ((out.length+1)*1≤140737488355328∧out.length+1≤140737488355328)
 (Q (Ab true) [(Af, .blk Ad [.imm (.str (rS ((Au g7 Af).getD 0 AV.undef))), .imm (.int .i64 (rI ((Au g7 Af).getD 1 AV.undef))), .own Ar]),(Ar, .arr (Am+2) true 1 (out++[[IV.int .u8 (rI r7)]]))])))∧
 (Call E0.P D6 [.ptr Af 0] [(Af, .blk Ad [As s,Ai at_, .own Ar])] fun r8 g8=>
 Ag (Bcn g8 r8)
 ((Ag ((out.length+1)*1≤140737488355328∧out.length+1≤140737488355328)
 (Q (Ab true) [(Af, .blk Ad [.imm (.str (rS ((Au g8 Af).getD 0 AV.undef))), .imm (.int .i64 (rI ((Au g8 Af).getD 1 AV.undef))), .own Ar]),(Ar, .arr (Am+2) true 1 (out++[[IV.int .u8 (rI r8)]]))]))∧
 (Ag ((out.length+1)*1≤140737488355328∧out.length+1≤140737488355328)
 (Q (Ab true) [(Af, .blk Ad [.imm (.str (rS ((Au g8 Af).getD 0 AV.undef))), .imm (.int .i64 (rI ((Au g8 Af).getD 1 AV.undef))), .own Ar]),(Ar, .arr (Am+2) true 1 (out++[[IV.int .u8 (rI r8)]]))])))))∧
 (Call E0.P D6 [.ptr Af 0] [(Af, .blk Ad [As s,Ai at_, .own Ar])] fun r9 g9=>
 Ag (Bcn g9 r9)
 (((Ag ((out.length+1)*1≤140737488355328∧out.length+1≤140737488355328)
 (Q (Ab true) [(Af, .blk Ad [.imm (.str (rS ((Au g9 Af).getD 0 AV.undef))), .imm (.int .i64 (rI ((Au g9 Af).getD 1 AV.undef))), .own Ar]),(Ar, .arr (Am+2) true 1 (out++[[IV.int .u8 (rI r9)]]))]))∧
 (Ag ((out.length+1)*1≤140737488355328∧out.length+1≤140737488355328)
 (Q (Ab true) [(Af, .blk Ad [.imm (.str (rS ((Au g9 Af).getD 0 AV.undef))), .imm (.int .i64 (rI ((Au g9 Af).getD 1 AV.undef))), .own Ar]),(Ar, .arr (Am+2) true 1 (out++[[IV.int .u8 (rI r9)]]))])))∧
 (Ag ((out.length+1)*1≤140737488355328∧out.length+1≤140737488355328)
 (Q (Ab true) [(Af, .blk Ad [.imm (.str (rS ((Au g9 Af).getD 0 AV.undef))), .imm (.int .i64 (rI ((Au g9 Af).getD 1 AV.undef))), .own Ar]),(Ar, .arr (Am+2) true 1 (out++[[IV.int .u8 (rI r9)]]))])))))
 (Br (decide ((↑(s.getD at_.toNat 0).toNat:Int)=(110:Int)))
 (Bt ((10:Int)) s (i64.wrap (at_+(1:Int))) out (Bz s at_ out Q))
 (Br (decide ((↑(s.getD at_.toNat 0).toNat:Int)=(114:Int)))
 (Bt ((13:Int)) s (i64.wrap (at_+(1:Int))) out (Bz s at_ out Q))
 (Br (decide ((↑(s.getD at_.toNat 0).toNat:Int)=(116:Int)))
 (Bt ((9:Int)) s (i64.wrap (at_+(1:Int))) out (Bz s at_ out Q))
 (Br (decide ((↑(s.getD at_.toNat 0).toNat:Int)=(98:Int)))
 (Bt ((8:Int)) s (i64.wrap (at_+(1:Int))) out (Bz s at_ out Q))
 (Br (decide ((↑(s.getD at_.toNat 0).toNat:Int)=(102:Int)))
 (Bt ((12:Int)) s (i64.wrap (at_+(1:Int))) out (Bz s at_ out Q))
 (Bt ((↑(s.getD at_.toNat 0).toNat:Int)) s (i64.wrap (at_+(1:Int))) out (Bz s at_ out Q)))))))))))))):Call E0.P Kw [.ptr (.arg 0) 0] [(.arg 0, .blk Ad [.imm (.str s), .imm (.int .i64 at_), .own (.arg 1)]),(.arg 1, .arr (Am+2) true 1 out)] Q:=fR 0 Ape h
noncomputable def Bgc:AC:=(A7 [] [2] (codeOf Tryz.f130) 0).1
abbrev Bh1:Nat:=35
theorem Bh7:Bd E0.P 130 Bgc.code Bh1 [.tmp 2]:=fq Tryz.func130
theorem A9q(a0:Int)(Q:QQ)(h:
 (Let (bif decide ((48:Int)≤a0)then decide (a0≤(57:Int))else false) fun x0=>
 Br (x0)
 (Q (.imm (.int .i64 (i64.wrap (IntKind.u8.wrap (a0 - (48:Int)))))) [])
 (Let (bif decide ((65:Int)≤a0)then decide (a0≤(70:Int))else false) fun x1=>
 Br (x1)
 (Q (.imm (.int .i64 (i64.wrap (i64.wrap (IntKind.u8.wrap (a0 - (65:Int)))+(10:Int))))) [])
 (Let (bif decide ((97:Int)≤a0)then decide (a0≤(102:Int))else false) fun x2=>
 Br (x2)
 (Q (.imm (.int .i64 (i64.wrap (i64.wrap (IntKind.u8.wrap (a0 - (97:Int)))+(10:Int))))) [])
 (Q (Ai (-1)) []))))):Call E0.P Yg [.imm (.int .u8 a0)] [] Q:=fR 0 Bh7 h
noncomputable def Ap7:AC:=(A7 [(4,[6,7],[])] [2,3] (codeOf Tryz.f131) 0).1
abbrev Aqf:Nat:=23
def Uf(t6 t7:Int)(K:KK):Prop:=Ao 4 E0.P Aqf (Ah 4 Ap7).code ⟨[(6,Ai t6),(7,Ai t7)],[]⟩ K
def Aco(Q:QQ):KK:=kE fun st=>finish 0 E0.T [.tmp 2, .tmp 3] [] Q st
theorem Awm(t6 t7:Int)(K:KK)(h:
 (K .ret ⟨[(2,Ai t6),(3,Ai t7)],[]⟩)):Uf t6 t7 K:=cR [] h
theorem Aw9(Q:QQ)(t2 t3:Int)(h:
 (Q (.tup [Ai t2,Ai t3]) [])):Aco Q .ret ⟨[(2,Ai t2),(3,Ai t3)],[]⟩:=kq h
theorem A86:Bd E0.P 131 Ap7.code Aqf [.tmp 2, .tmp 3]:=fq Tryz.func131
theorem A1h(a0:LB)(Q:QQ)(h:
 (Call E0.P Pe [As a0, .imm (.str [43,45])] [] fun r0 g0=>
 Ag (g0=[]∧r0= .tup [.imm (.bool (rB (rT r0 0))), .imm (.str (rS (rT r0 1)))])
 (Call E0.P Ae7 [As (rS (rT r0 1))] [] fun r1 g1=>
 Ag (qP9 g1 r1)
 (Br (rB (rT r0 0))
 (Uf (i64.wrap ((0:Int) - rI (rT r1 0))) (rI (rT r1 1)) (Aco Q))
 (Uf (rI (rT r1 0)) (rI (rT r1 1)) (Aco Q)))))):Call E0.P Ae8 [As a0] [] Q:=fR 0 A86 h
noncomputable def O8:AC:=(A7 [(1,[0,14],[0]),(3,[0],[]),(6,[0,4,5],[]),(8,[4],[]),(14,[4],[])] [2,3] (codeOf Tryz.f138) 0).1
abbrev Pg:Nat:=32
def Ai7(t0:LB)(t14:Bool)(K:KK):Prop:=Ao 1 E0.P Pg (Ah 1 O8).code ⟨[(0,As t0),(14,Ab t14)],[]⟩ K
def Avx(t0:LB)(K:KK):Prop:=Ao 3 E0.P Pg (Ah 3 O8).code ⟨[(0,As t0)],[]⟩ K
def Abv(t0:LB)(t4 t5:Int)(K:KK):Prop:=Ba 6 E0.P Pg (A9 6 O8).code ⟨[(0,As t0),(4,Ai t4),(5,Ai t5)],[]⟩ K
def Arv(t4:Int)(K:KK):Prop:=Ao 14 E0.P Pg (Ah 14 O8).code ⟨[(4,Ai t4)],[]⟩ K
def Ajf(Q:QQ):KK:=kE fun st=>finish 0 E0.T [.tmp 2, .tmp 3] [] Q st
def Abq(Q:QQ):Ex→St→Prop
 | .normal,st=>Ao 3 E0.P Pg (Ah 3 O8).code (mask [0] st) (Ajf Q)
 | .exit _,_=>False
 | .goto _,_=>False
 | .ret,st=>finish 0 E0.T [.tmp 2, .tmp 3] [] Q st
def Ajg(K:KK):KK:=kP [] K
def Ajh(K:KK):KK:=kC 0 (fun st=>Ao 14 E0.P Pg (Ah 14 O8).code (mask [4] st) (Ajg K)) K
theorem Amj(t0:LB)(t14:Bool)(K:KK)(h:
 (Br (t14)
 (K .ret ⟨[(2,Ai 0),(3,Ai 4)],[]⟩)
 (K .normal ⟨[(0,As t0)],[]⟩))):Ai7 t0 t14 K:=cR [0] h
theorem A2u(t0:LB)(K:KK)(h:
 (Abv t0 ((0:Int)) ((0:Int)) (Ajh K))):Avx t0 K:=cR [] h
theorem A4y(t0:LB)(t4 t5:Int)(K:KK)(h:
 (Br (decide (t5<(↑t0.length:Int)))
 (Ag ((0:Int)≤t5∧t5<(↑t0.length:Int))
 (Br (decide
 ((2147483647:Int)<
 i64.wrap
 (i64.wrap
 (i64.wrap ((10:Int)*t4)+i64.wrap (↑(t0.getD t5.toNat 0).toNat:Int)) -
 (48:Int))))
 (K .ret ⟨[(2,Ai 0),(3,Ai 3)],[]⟩)
 (Abv t0 (i64.wrap
 (i64.wrap
 (i64.wrap ((10:Int)*t4)+i64.wrap (↑(t0.getD t5.toNat 0).toNat:Int)) -
 (48:Int))) (i64.wrap (t5+(1:Int))) K)))
 (K (.exit 0) ⟨[(4,Ai t4)],[]⟩))):Abv t0 t4 t5 K:=lR [0,4,5] h
theorem A0y(t4:Int)(K:KK)(h:
 (K .ret ⟨[(2,Ai t4),(3,Ai 0)],[]⟩)):Arv t4 K:=cR [] h
theorem Am8(Q:QQ)(t2 t3:Int)(h:
 (Q (.tup [Ai t2,Ai t3]) [])):Ajf Q .ret ⟨[(2,Ai t2),(3,Ai t3)],[]⟩:=kq h
theorem Am9(Q:QQ)(t2 t3:Int)(h:
 (Q (.tup [Ai t2,Ai t3]) [])):Abq Q .ret ⟨[(2,Ai t2),(3,Ai t3)],[]⟩:=kq h
theorem A3t(Q:QQ)(t0:LB)(h:
 (Avx t0 (Ajf Q))):Abq Q .normal ⟨[(0,As t0)],[]⟩:=kq h
theorem A3u(K:KK)(t2 t3:Int)(h:
 (K .ret ⟨[(2,Ai t2),(3,Ai t3)],[]⟩)):Ajg K .ret ⟨[(2,Ai t2),(3,Ai t3)],[]⟩:=kq h
theorem A3v(K:KK)(t2 t3:Int)(h:
 (K .ret ⟨[(2,Ai t2),(3,Ai t3)],[]⟩)):Ajh K .ret ⟨[(2,Ai t2),(3,Ai t3)],[]⟩:=kq h
theorem A3w(K:KK)(t4:Int)(h:
 (Arv t4 (Ajg K))):Ajh K (.exit 0) ⟨[(4,Ai t4)],[]⟩:=kq h
theorem Bh9:Bd E0.P 138 O8.code Pg [.tmp 2, .tmp 3]:=fq Tryz.func138
theorem A9s(a0:LB)(Q:QQ)(h:
 (Br ((a0 == []) == false)
 (Call E0.P Aoh [As a0] [] fun r0 g0=>
 Ag (Pj g0 r0)
 (Let (!decide (rI r0=(↑a0.length:Int))) fun x1=>
 Ai7 a0 x1 (Abq Q)))
 (Ag ((!false)=true)
 (Let (true) fun x2=>
 Ai7 a0 x2 (Abq Q))))):Call E0.P Afa [As a0] [] Q:=fR 0 Bh9 h
noncomputable def Lv:AC:=(A7 [(3,[0,3,6],[]),(5,[3],[]),(9,[3],[]),(13,[3],[])] [2] (codeOf Tryz.f149) 0).1
abbrev Mc:Nat:=39
def Hz(t3 t6:Int)(u0:LB)(u1:Int)(K:KK):Prop:=Ba 3 E0.P Mc (A9 3 Lv).code ⟨[(0, .ptr Af 0),(3,Ai t3),(6,Ai t6)],[(Af, .blk Ad [As u0,Ai u1, .own Ar])]⟩ K
def Xt(t3:Int)(u0:LB)(u1:Int)(K:KK):Prop:=Ao 13 E0.P Mc (Ah 13 Lv).code ⟨[(3,Ai t3)],[(Af, .blk Ad [As u0,Ai u1, .own Ar])]⟩ K
def Qe(s:LB)(at_:Int)(Q:QQ):KK:=kE fun st=>finish (4) E0.T [.tmp 2] [(Af, .blk Ad [As s,Ai at_, .own Ar])] Q st
def Z9(s:LB)(at_:Int)(Q:QQ):KK:=kF 0 (fun st=>Ao 13 E0.P Mc (Ah 13 Lv).code (mask [3] st) (Qe s at_ Q)) fun st=>finish (4) E0.T [.tmp 2] [(Af, .blk Ad [As s,Ai at_, .own Ar])] Q st
theorem Vt(t3 t6:Int)(u0:LB)(u1:Int)(K:KK)(h:
 (Br (decide (t6<(3:Int)))
 (Br (decide ((↑u0.length:Int)≤u1))
 (Let (bif !false then true else decide ((0:Int)<(48:Int))) fun x0=>
 Let (bif x0 then true else decide ((55:Int)<(0:Int))) fun x1=>
 Br (x1)
 (K (.exit 0) ⟨[(3,Ai t3)],[(Af, .blk Ad [As u0,Ai u1, .own Ar])]⟩)
 (Ag ((0:Int)≤(3:Int))
 (Hz (i64.wrap
 (↑(BitVec.ofInt (64:Nat) (i64.wrap (t3*(2:Int) ^ (3:Nat))) |||
 BitVec.ofInt (64:Nat) (i64.wrap (IntKind.u8.wrap ((0:Int) - (48:Int))))).toNat:
 Int)) (i64.wrap (t6+(1:Int))) u0 (i64.wrap (u1+(1:Int))) K)))
 (Ag ((0:Int)≤u1∧u1<(↑u0.length:Int))
 (Let (bif !true then true else decide ((↑(u0.getD u1.toNat 0).toNat:Int)<(48:Int))) fun x2=>
 Let (bif x2 then true else decide ((55:Int)<(↑(u0.getD u1.toNat 0).toNat:Int))) fun x3=>
 Br (x3)
 (K (.exit 0) ⟨[(3,Ai t3)],[(Af, .blk Ad [As u0,Ai u1, .own Ar])]⟩)
 (Ag ((0:Int)≤(3:Int))
 (Hz (i64.wrap
 (↑(BitVec.ofInt (64:Nat) (i64.wrap (t3*(2:Int) ^ (3:Nat))) |||
 BitVec.ofInt (64:Nat)
 (i64.wrap
 (IntKind.u8.wrap ((↑(u0.getD u1.toNat 0).toNat:Int) - (48:Int))))).toNat:
 Int)) (i64.wrap (t6+(1:Int))) u0 (i64.wrap (u1+(1:Int))) K)))))
 (K (.exit 0) ⟨[(3,Ai t3)],[(Af, .blk Ad [As u0,Ai u1, .own Ar])]⟩))):Hz t3 t6 u0 u1 K:=lR [0,3,6] h
theorem Aie(t3:Int)(u0:LB)(u1:Int)(K:KK)(h:
 (K .ret ⟨[(2, .imm (.int .u8 (IntKind.u8.wrap t3)))],[(Af, .blk Ad [As u0,Ai u1, .own Ar])]⟩)):Xt t3 u0 u1 K:=cR [] h
theorem Aj0(s:LB)(at_:Int)(Q:QQ)(t2:Int)(u0:LB)(u1:Int)(h:
 (Q (.imm (.int .u8 t2)) [(Af, .blk Ad [As u0,Ai u1, .own Ar])])):Qe s at_ Q .ret ⟨[(2, .imm (.int .u8 t2))],[(Af, .blk Ad [As u0,Ai u1, .own Ar])]⟩:=kq h
theorem Aj1(s:LB)(at_:Int)(Q:QQ)(t3:Int)(u0:LB)(u1:Int)(h:
 (Xt t3 u0 u1 (Qe s at_ Q))):Z9 s at_ Q (.exit 0) ⟨[(3,Ai t3)],[(Af, .blk Ad [As u0,Ai u1, .own Ar])]⟩:=kq h
theorem Arn:Bd E0.P 149 Lv.code Mc [.tmp 2]:=fq Tryz.func149
theorem Amu(s:LB)(at_:Int)(Q:QQ)(h:
 (Hz ((0:Int)) ((0:Int)) s at_ (Z9 s at_ Q))):Call E0.P D6 [.ptr (.arg 0) 0] [(.arg 0, .blk Ad [.imm (.str s), .imm (.int .i64 at_), .own (.arg 1)])] Q:=fR 4 Arn h
noncomputable def Ux:AC:=(A7 [(1,[0,14],[0]),(3,[0],[])] [4,5] (codeOf Tryz.f150) 0).1
abbrev Vj:Nat:=21
def Aad(t0:LB)(t14:Bool)(K:KK):Prop:=Ao 1 E0.P Vj (Ah 1 Ux).code ⟨[(0,As t0),(14,Ab t14)],[]⟩ K
def Akm(t0:LB)(K:KK):Prop:=Ao 3 E0.P Vj (Ah 3 Ux).code ⟨[(0,As t0)],[]⟩ K
def Aah(Q:QQ):KK:=kE fun st=>finish 0 E0.T [.tmp 4, .tmp 5] [] Q st
def R8(Q:QQ):Ex→St→Prop
 | .normal,st=>Ao 3 E0.P Vj (Ah 3 Ux).code (mask [0] st) (Aah Q)
 | .exit _,_=>False
 | .goto _,_=>False
 | .ret,st=>finish 0 E0.T [.tmp 4, .tmp 5] [] Q st
theorem Ads(t0:LB)(t14:Bool)(K:KK)(h:
 (Br (t14)
 (K .ret ⟨[(4,Ab false),(5,As t0)],[]⟩)
 (K .normal ⟨[(0,As t0)],[]⟩))):Aad t0 t14 K:=cR [0] h
theorem At4(t0:LB)(K:KK)(h:
 (Ag ((0:Int)≤(0:Int)∧(0:Int)<(↑t0.length:Int))
 (Ag ((0:Int)≤(1:Int)∧(1:Int)≤(↑t0.length:Int))
 (Let (List.drop 1 t0) fun x0=>
 K .ret ⟨[(4, .imm (.bool (decide ((↑(t0.getD (0:Nat) 0).toNat:Int)=(45:Int))))),(5,As x0)],[]⟩)))):Akm t0 K:=cR [] h
theorem Aub(Q:QQ)(t4:Bool)(t5:LB)(h:
 (Q (.tup [Ab t4,As t5]) [])):Aah Q .ret ⟨[(4,Ab t4),(5,As t5)],[]⟩:=kq h
theorem Ad0(Q:QQ)(t4:Bool)(t5:LB)(h:
 (Q (.tup [Ab t4,As t5]) [])):R8 Q .ret ⟨[(4,Ab t4),(5,As t5)],[]⟩:=kq h
theorem Auc(Q:QQ)(t0:LB)(h:
 (Akm t0 (Aah Q))):R8 Q .normal ⟨[(0,As t0)],[]⟩:=kq h
theorem A5v:Bd E0.P 150 Ux.code Vj [.tmp 4, .tmp 5]:=fq Tryz.func150
theorem Aih(a0 a1:LB)(Q:QQ)(h:
 (Ag ((a0 == [])=false→(0:Int)≤(1:Int)∧(1:Int)≤(↑a0.length:Int))
 (Let (List.take 1 a0) fun x0=>
 Br ((a0 == []) == false)
 (Call E0.P Agf [As a1,As x0] [] fun r1 g1=>
 Ag (qP8 g1 r1)
 (Let (!rB r1) fun x2=>
 Aad a0 x2 (R8 Q)))
 (Ag ((!false)=true)
 (Let (true) fun x3=>
 Aad a0 x3 (R8 Q)))))):Call E0.P Pe [As a0,As a1] [] Q:=fR 0 A5v h
noncomputable def Jn:AC:=(A7 [(1,[0,15],[0]),(3,[0],[]),(7,[4,5,6],[]),(9,[5],[]),(15,[5],[])] [2,3] (codeOf Tryz.f151) 0).1
abbrev Jw:Nat:=31
def Ace(t0:LB)(t15:Bool)(K:KK):Prop:=Ao 1 E0.P Jw (Ah 1 Jn).code ⟨[(0,As t0),(15,Ab t15)],[]⟩ K
def Amf(t0:LB)(K:KK):Prop:=Ao 3 E0.P Jw (Ah 3 Jn).code ⟨[(0,As t0)],[]⟩ K
def Eb(t5 t6 u0:Int)(u1:LB)(K:KK):Prop:=Ba 7 E0.P Jw (A9 7 Jn).code ⟨[(4, .fn A2a [.ptr (Nm.sub 17 nL3) 0, .ptr (Nm.sub 17 Ej) 0]),(5,Ai t5),(6,Ai t6)],[((Nm.sub 17 nL3), .blk Fu [Ai u0]),((Nm.sub 17 Ej), .blk Rn [As u1])]⟩ K
def Akl(t5:Int)(K:KK):Prop:=Ao 15 E0.P Jw (Ah 15 Jn).code ⟨[(5,Ai t5)],[]⟩ K
def Acm(Q:QQ):KK:=kE fun st=>finish 0 E0.T [.tmp 2, .tmp 3] [] Q st
def Ul(Q:QQ):Ex→St→Prop
 | .normal,st=>Ao 3 E0.P Jw (Ah 3 Jn).code (mask [0] st) (Acm Q)
 | .exit _,_=>False
 | .goto _,_=>False
 | .ret,st=>finish 0 E0.T [.tmp 2, .tmp 3] [] Q st
def Acn(K:KK):KK:=kP [] K
def K6(K:KK):KK:=kC 0 (fun st=>Ao 15 E0.P Jw (Ah 15 Jn).code (mask [5] st) (Acn K)) K
theorem Af5(t0:LB)(t15:Bool)(K:KK)(h:
 (Br (t15)
 (K .ret ⟨[(2,Ai 0),(3,Ai 4)],[]⟩)
 (K .normal ⟨[(0,As t0)],[]⟩))):Ace t0 t15 K:=cR [0] h
theorem Awl(t0:LB)(K:KK)(h:
 (Ag (decide ((↑t0.length:Int)≤(0:Int))=false→(0:Int)≤(0:Int)∧(0:Int)<(↑t0.length:Int))
 (Br (decide ((↑t0.length:Int)≤(0:Int)) == false)
 (Call E0.P Rf [.imm (.int .i32 (IntKind.i32.wrap (↑(t0.getD (0:Nat) 0).toNat:Int)))] [] fun r0 g0=>
 Ag (qP8 g0 r0)
 (Let (!rB r0) fun x1=>
 Br (x1)
 (Eb ((0:Int)) ((-1:Int)) ((0:Int)) t0 (K6 K))
 (Ag ((0:Int)≤i64.wrap (i64.wrap ((0:Int)+(1:Int)) - (1:Int))∧
 i64.wrap (i64.wrap ((0:Int)+(1:Int)) - (1:Int))<(↑t0.length:Int))
 (Eb ((0:Int)) (i64.wrap (IntKind.u8.wrap ((↑(t0.getD (0:Nat) 0).toNat:Int) - (48:Int)))) (i64.wrap ((0:Int)+(1:Int))) t0 (K6 K)))))
 (Ag ((!false)=true)
 (Let (true) fun x2=>
 Br (x2)
 (Eb ((0:Int)) ((-1:Int)) ((0:Int)) t0 (K6 K))
 (Ag ((0:Int)≤i64.wrap (i64.wrap ((0:Int)+(1:Int)) - (1:Int))∧
 i64.wrap (i64.wrap ((0:Int)+(1:Int)) - (1:Int))<(↑t0.length:Int))
 (Eb ((0:Int)) (i64.wrap (IntKind.u8.wrap ((↑(t0.getD (0:Nat) 0).toNat:Int) - (48:Int)))) (i64.wrap ((0:Int)+(1:Int))) t0 (K6 K)))))))):Amf t0 K:=cR [] h
theorem Af9(t5 t6 u0:Int)(u1:LB)(K:KK)(h:
 (Br (decide ((0:Int)≤t6))
 (Br (decide ((2147483647:Int)<i64.wrap (i64.wrap ((10:Int)*t5)+t6)))
 (K .ret ⟨[(2,Ai 0),(3,Ai 3)],[]⟩)
 (Ag (decide ((↑u1.length:Int)≤u0)=false→(0:Int)≤u0∧u0<(↑u1.length:Int))
 (Br (decide ((↑u1.length:Int)≤u0) == false)
 (Call E0.P Rf [.imm (.int .i32 (IntKind.i32.wrap (↑(u1.getD u0.toNat 0).toNat:Int)))] [] fun r0 g0=>
 Ag (qP8 g0 r0)
 (Let (!rB r0) fun x1=>
 Br (x1)
 (Eb (i64.wrap (i64.wrap ((10:Int)*t5)+t6)) ((-1:Int)) u0 u1 K)
 (Ag ((0:Int)≤i64.wrap (i64.wrap (u0+(1:Int)) - (1:Int))∧
 i64.wrap (i64.wrap (u0+(1:Int)) - (1:Int))<(↑u1.length:Int))
 (Eb (i64.wrap (i64.wrap ((10:Int)*t5)+t6)) (i64.wrap
 (IntKind.u8.wrap
 ((↑(u1.getD (i64.wrap (i64.wrap (u0+(1:Int)) - (1:Int))).toNat 0).toNat:
 Int) -
 (48:Int)))) (i64.wrap (u0+(1:Int))) u1 K))))
 (Ag ((!false)=true)
 (Let (true) fun x2=>
 Br (x2)
 (Eb (i64.wrap (i64.wrap ((10:Int)*t5)+t6)) ((-1:Int)) u0 u1 K)
 (Ag ((0:Int)≤i64.wrap (i64.wrap (u0+(1:Int)) - (1:Int))∧
 i64.wrap (i64.wrap (u0+(1:Int)) - (1:Int))<(↑u1.length:Int))
 (Eb (i64.wrap (i64.wrap ((10:Int)*t5)+t6)) (i64.wrap
 (IntKind.u8.wrap
 ((↑(u1.getD (i64.wrap (i64.wrap (u0+(1:Int)) - (1:Int))).toNat 0).toNat:
 Int) -
 (48:Int)))) (i64.wrap (u0+(1:Int))) u1 K)))))))
 (K (.exit 0) ⟨[(5,Ai t5)],[]⟩))):Eb t5 t6 u0 u1 K:=lR [4,5,6] h
theorem At3(t5:Int)(K:KK)(h:
 (K .ret ⟨[(2,Ai t5),(3,Ai 0)],[]⟩)):Akl t5 K:=cR [] h
theorem Af6(Q:QQ)(t2 t3:Int)(h:
 (Q (.tup [Ai t2,Ai t3]) [])):Acm Q .ret ⟨[(2,Ai t2),(3,Ai t3)],[]⟩:=kq h
theorem Af7(Q:QQ)(t2 t3:Int)(h:
 (Q (.tup [Ai t2,Ai t3]) [])):Ul Q .ret ⟨[(2,Ai t2),(3,Ai t3)],[]⟩:=kq h
theorem Aw5(Q:QQ)(t0:LB)(h:
 (Amf t0 (Acm Q))):Ul Q .normal ⟨[(0,As t0)],[]⟩:=kq h
theorem Aw6(K:KK)(t2 t3:Int)(h:
 (K .ret ⟨[(2,Ai t2),(3,Ai t3)],[]⟩)):Acn K .ret ⟨[(2,Ai t2),(3,Ai t3)],[]⟩:=kq h
theorem Aw7(K:KK)(t2 t3:Int)(h:
 (K .ret ⟨[(2,Ai t2),(3,Ai t3)],[]⟩)):K6 K .ret ⟨[(2,Ai t2),(3,Ai t3)],[]⟩:=kq h
theorem Aw8(K:KK)(t5:Int)(h:
 (Akl t5 (Acn K))):K6 K (.exit 0) ⟨[(5,Ai t5)],[]⟩:=kq h
theorem A85:Bd E0.P 151 Jn.code Jw [.tmp 2, .tmp 3]:=fq Tryz.func151
theorem A1g(a0:LB)(Q:QQ)(h:
 (Br ((a0 == []) == false)
 (Call E0.P Ae6 [As a0] [] fun r0 g0=>
 Ag (Pj g0 r0)
 (Let (!decide (rI r0=(↑a0.length:Int))) fun x1=>
 Ace a0 x1 (Ul Q)))
 (Ag ((!false)=true)
 (Let (true) fun x2=>
 Ace a0 x2 (Ul Q))))):Call E0.P Ae7 [As a0] [] Q:=fR 0 A85 h
noncomputable def Aeu:AC:=(A7 [(2,[0,3],[]),(4,[3],[]),(6,[3],[])] [2] (codeOf Tryz.f155) 0).1
abbrev Afs:Nat:=23
def Abu(t0:LB)(t3:Int)(K:KK):Prop:=Ba 2 E0.P Afs (A9 2 Aeu).code ⟨[(0,As t0),(3,Ai t3)],[]⟩ K
def Avw(t3:Int)(K:KK):Prop:=Ao 6 E0.P Afs (Ah 6 Aeu).code ⟨[(3,Ai t3)],[]⟩ K
def Aje(Q:QQ):KK:=kE fun st=>finish 0 E0.T [.tmp 2] [] Q st
def Av7(Q:QQ):KK:=kF 0 (fun st=>Ao 6 E0.P Afs (Ah 6 Aeu).code (mask [3] st) (Aje Q)) fun st=>finish 0 E0.T [.tmp 2] [] Q st
theorem A4x(t0:LB)(t3:Int)(K:KK)(h:
 (Ag (decide (t3<(↑t0.length:Int))=true→(0:Int)≤t3∧t3<(↑t0.length:Int))
 (Let (bif decide (t3<(↑t0.length:Int))then decide ((48:Int)≤(↑(t0.getD t3.toNat 0).toNat:Int))else false) fun x0=>
 Ag (x0=true→(0:Int)≤t3∧t3<(↑t0.length:Int))
 (Let (bif x0 then decide ((↑(t0.getD t3.toNat 0).toNat:Int)≤(57:Int))else false) fun x1=>
 Br (x1)
 (Abu t0 (i64.wrap (t3+(1:Int))) K)
 (K (.exit 0) ⟨[(3,Ai t3)],[]⟩))))):Abu t0 t3 K:=lR [0,3] h
theorem A2t(t3:Int)(K:KK)(h:
 (K .ret ⟨[(2,Ai t3)],[]⟩)):Avw t3 K:=cR [] h
theorem A3r(Q:QQ)(t2:Int)(h:
 (Q (Ai t2) [])):Aje Q .ret ⟨[(2,Ai t2)],[]⟩:=kq h
theorem A3s(Q:QQ)(t3:Int)(h:
 (Avw t3 (Aje Q))):Av7 Q (.exit 0) ⟨[(3,Ai t3)],[]⟩:=kq h
theorem Bh8:Bd E0.P 155 Aeu.code Afs [.tmp 2]:=fq Tryz.func155
theorem A9r(a0:LB)(Q:QQ)(h:
 (Abu a0 ((0:Int)) (Av7 Q))):Call E0.P Aoh [As a0] [] Q:=fR 0 Bh8 h
noncomputable def Xg:AC:=(A7 [(2,[0,6],[]),(4,[0],[]),(9,[0],[])] [2] (codeOf Tryz.f165) 0).1
abbrev Xl:Nat:=17
def Ur(t0 h6s:LB)(h6p:Nat)(K:KK):Prop:=Ba 2 E0.P Xl (A9 2 Xg).code ⟨[(0,As t0),(6, .ptr nL6 0)],[(nL6, .sit h6s h6p)]⟩ K
def Ame(t0:LB)(K:KK):Prop:=Ao 9 E0.P Xl (Ah 9 Xg).code ⟨[(0,As t0)],[]⟩ K
def Ack(Q:QQ):KK:=kE fun st=>finish 0 E0.T [.tmp 2] [] Q st
def Acl(Q:QQ):KK:=kF 0 (fun st=>Ao 9 E0.P Xl (Ah 9 Xg).code (mask [0] st) (Ack Q)) fun st=>finish 0 E0.T [.tmp 2] [] Q st
theorem Axc(t0 h6s:LB)(h6p:Nat)(K:KK)(h:
 (Br (decide (h6p<h6s.length))
 (Br (true)
 (Call E0.P Rf [.imm (.int .i32 ((↑(Gt h6s h6p).fst:Int)))] [] fun r0 g0=>
 Ag (qP8 g0 r0)
 (Br (!rB r0)
 (K .ret ⟨[(2,Ai ((↑h6p:Int)))],[]⟩)
 (Ur t0 h6s (h6p+(Gt h6s h6p).snd) K)))
 (K (.exit 0) ⟨[(0,As t0)],[]⟩))
 (Br (false)
 (False)
 (K (.exit 0) ⟨[(0,As t0)],[]⟩)))):Ur t0 h6s h6p K:=lR [0,6] h
theorem Awk(t0:LB)(K:KK)(h:
 (K .ret ⟨[(2,Ai ((↑t0.length:Int)))],[]⟩)):Ame t0 K:=cR [] h
theorem Aw2(Q:QQ)(t2:Int)(h:
 (Q (Ai t2) [])):Ack Q .ret ⟨[(2,Ai t2)],[]⟩:=kq h
theorem Aw3(Q:QQ)(t2:Int)(h:
 (Q (Ai t2) [])):Acl Q .ret ⟨[(2,Ai t2)],[]⟩:=kq h
theorem Aw4(Q:QQ)(t0:LB)(h:
 (Ame t0 (Ack Q))):Acl Q (.exit 0) ⟨[(0,As t0)],[]⟩:=kq h
theorem A84:Bd E0.P 165 Xg.code Xl [.tmp 2]:=fq Tryz.func165
theorem A1f(a0:LB)(Q:QQ)(h:
 (Ur a0 a0 0 (Acl Q))):Call E0.P Ae6 [As a0] [] Q:=fR 0 A84 h
noncomputable def A8c:AC:=(A7 [] [2] (codeOf Tryz.f171) 0).1
abbrev A8y:Nat:=9
theorem A87:Bd E0.P 171 A8c.code A8y [.tmp 2]:=fq Tryz.func171
theorem A1i(a0:Int)(Q:QQ)(h:
 (Let (bif decide ((48:Int)≤a0)then decide (a0≤(57:Int))else false) fun x0=>
 Q (Ab x0) [])):Call E0.P Rf [.imm (.int .i32 a0)] [] Q:=fR 0 A87 h
end
end Go.Proofs.Sim.Se

import Derived.Test.YtaggabcajidnnaaGreatDoorSeatBase
set_option maxRecDepth 100000
set_option maxHeartbeats 4000000
namespace Go.Proofs.Sim.Se
open Go Go.Proofs Go.Proofs.Sim Go.IntKind
noncomputable section
abbrev qP0(G:Heap)(R:AV):Prop:=G=[(Nm.arg 0,Entry.blk 127 [.imm (.str (rS ((Au G Ae).getD 0 AV.undef))), .imm (.int .i64 (rI ((Au G Ae).getD 1 AV.undef))), .imm (.int .i64 (rI ((Au G Ae).getD 2 AV.undef)))])]∧R= .tup [.imm (IV.agg [.int .i64 (gI (Ad (rT R 0)) 0), .int .i64 (gI (Ad (rT R 0)) 1), .int .i64 (gI (Ad (rT R 0)) 2), .str (gS (Ad (rT R 0)) 3), .sl SK.any 6 (gR (Ad (rT R 0)) 4), .sl SK.any 7 (gR (Ad (rT R 0)) 5)]), .imm (.int .i64 (rI (rT R 1)))]
abbrev qP1(G:Heap)(R:AV):Prop:=G=[]∧R= .imm (IV.agg [.int .i64 (gI (Ad R) 0), .int .i64 (gI (Ad R) 1), .int .i64 (gI (Ad R) 2), .str (gS (Ad R) 3), .sl SK.any 6 (gR (Ad R) 4), .sl SK.any 7 (gR (Ad R) 5)])
abbrev qP2(G:Heap)(R:AV):Prop:=G=[]∧R= .tup [.imm (IV.agg [.int .i64 (gI (Ad (rT R 0)) 0), .int .i64 (gI (Ad (rT R 0)) 1), .int .i64 (gI (Ad (rT R 0)) 2), .str (gS (Ad (rT R 0)) 3), .sl SK.any 6 (gR (Ad (rT R 0)) 4), .sl SK.any 7 (gR (Ad (rT R 0)) 5)]), .imm (.int .i64 (rI (rT R 1))), .imm (.int .i64 (rI (rT R 2)))]
abbrev qP3(G:Heap)(R:AV):Prop:=G=[]∧R= .tup [.imm (IV.agg [.int .i64 (gI (Ad (rT R 0)) 0), .int .i64 (gI (Ad (rT R 0)) 1), .str (gS (Ad (rT R 0)) 2), .int .i64 (gI (Ad (rT R 0)) 3), .int .i64 (gI (Ad (rT R 0)) 4)]), .imm (.int .i64 (rI (rT R 1)))]
abbrev qP4(G:Heap)(R:AV):Prop:=G=[(Nm.arg 0,Entry.blk 127 [.imm (.str (rS ((Au G Ae).getD 0 AV.undef))), .imm (.int .i64 (rI ((Au G Ae).getD 1 AV.undef))), .imm (.int .i64 (rI ((Au G Ae).getD 2 AV.undef)))])]∧R= .tup [.imm (IV.agg [.int .i64 (gI (Ad (rT R 0)) 0), .int .i64 (gI (Ad (rT R 0)) 1), .str (gS (Ad (rT R 0)) 2), .int .i64 (gI (Ad (rT R 0)) 3), .int .i64 (gI (Ad (rT R 0)) 4)]), .imm (.int .i64 (rI (rT R 1)))]
abbrev qP5(G:Heap)(R:AV):Prop:=G=[]∧R= .imm (.int .i64 (rI R))
abbrev qP6(G:Heap)(R:AV):Prop:=G=[(Nm.arg 0,Entry.blk 101 [.imm (.str (rS ((Au G Ae).getD 0 AV.undef))), .imm (.int .i64 (rI ((Au G Ae).getD 1 AV.undef))),AV.own Ar]),(Nm.arg 1,Entry.arr 7 true 1 (Cn G Ar))]∧R= .tup [.imm (IV.agg [.int .i64 (gI (Ad (rT R 0)) 0), .int .i64 (gI (Ad (rT R 0)) 1), .str (gS (Ad (rT R 0)) 2), .int .i64 (gI (Ad (rT R 0)) 3), .int .i64 (gI (Ad (rT R 0)) 4)]), .imm (.int .i64 (rI (rT R 1)))]
abbrev qP8(G:Heap)(R:AV):Prop:=G=[]∧R= .imm (.bool (rB R))
abbrev qP9(G:Heap)(R:AV):Prop:=G=[]∧R= .tup [.imm (.int .i64 (rI (rT R 0))), .imm (.int .i64 (rI (rT R 1)))]
abbrev A3c(G:Heap)(R:AV):Prop:=G=[(Nm.arg 0,Entry.blk 101 [.imm (.str (rS ((Au G Ae).getD 0 AV.undef))), .imm (.int .i64 (rI ((Au G Ae).getD 1 AV.undef))),AV.own Ar])]∧R= .imm (.int .u8 (rI R))
noncomputable def A1z:AC:=(A8 [] [4,5,6] (codeOf Tryz.f64) 0).1
abbrev A2p:Nat:=31
theorem A2z:Be E0.P 64 A1z.code A2p [.cell 4 28, .tmp 5, .tmp 6]:=fq Tryz.func64
theorem Awq(a0:LB)(a1:Int)(Q:QQ)(h:
 (Call E0.P I6 [.ptr Ae 0] [(Ae, .blk Ao [As a0,Ai a1,Ai 0])] fun r0 g0=>
 Ag (qP0 g0 r0)
 (Br (!decide (rI (rT r0 1)=(0:Int)))
 (Q (.tup [.imm (.agg [.int .i64 0, .int .i64 0, .int .i64 0, .str [], .sl .any 6 [], .sl .any 7 []]),Ai 0,Ai (rI (rT r0 1))]) [])
 (Call E0.P El [.imm (.agg [.int .i64 (gI (Ad (rT r0 0)) 0), .int .i64 (gI (Ad (rT r0 0)) 1), .int .i64 (gI (Ad (rT r0 0)) 2), .str (gS (Ad (rT r0 0)) 3), .sl .any 6 (gR (Ad (rT r0 0)) 4), .sl .any 7 (gR (Ad (rT r0 0)) 5)])] [] fun r1 g1=>
 Ag (qP1 g1 r1)
 (Q (.tup [.imm (.agg [.int .i64 (gI (Ad r1) 0), .int .i64 (gI (Ad r1) 1), .int .i64 (gI (Ad r1) 2), .str (gS (Ad r1) 3), .sl .any 6 (gR (Ad r1) 4), .sl .any 7 (gR (Ad r1) 5)]), .imm (.int .i64 (rI ((Au g0 Ae).getD 1 AV.undef))),Ai 0]) []))))):Call E0.P Aej [As a0,Ai a1] [] Q:=fR 0 A2z h
noncomputable def A10:AC:=(A8 [] [2,3] (codeOf Tryz.f42) 0).1
abbrev A2q:Nat:=41
theorem A20:Be E0.P 42 A10.code A2q [.cell 2 28, .tmp 3]:=fq Tryz.func42
theorem Awr(a0:LB)(Q:QQ)(h:
 (Call E0.P Aej [As a0,Ai 0] [] fun r0 g0=>
 Ag (qP2 g0 r0)
 (Br (!decide (rI (rT r0 2)=(0:Int)))
 (Q (.tup [.imm (.agg [.int .i64 0, .int .i64 0, .int .i64 0, .str [], .sl .any 6 [], .sl .any 7 []]),Ai (rI (rT r0 2))]) [])
 (Call E0.P Pi [As a0,Ai (rI (rT r0 1))] [] fun r1 g1=>
 Ag (qP3 g1 r1)
 (Br (!decide (rI (rT r1 1)=(0:Int)))
 (Q (.tup [.imm (.agg [.int .i64 0, .int .i64 0, .int .i64 0, .str [], .sl .any 6 [], .sl .any 7 []]),Ai (rI (rT r1 1))]) [])
 (Br (!decide (gI (Ad (rT r1 0)) 0=(0:Int)))
 (Q (.tup [.imm (.agg [.int .i64 0, .int .i64 0, .int .i64 0, .str [], .sl .any 6 [], .sl .any 7 []]),Ai 4]) [])
 (Q (.tup [.imm (.agg [.int .i64 (gI (Ad (rT r0 0)) 0), .int .i64 (gI (Ad (rT r0 0)) 1), .int .i64 (gI (Ad (rT r0 0)) 2), .str (gS (Ad (rT r0 0)) 3), .sl .any 6 (gR (Ad (rT r0 0)) 4), .sl .any 7 (gR (Ad (rT r0 0)) 5)]),Ai 0]) []))))))):Call E0.P Aek [As a0] [] Q:=fR 0 A20 h
noncomputable def Ang:AC:=(A8 [] [2,3] (codeOf Tryz.f97) 0).1
abbrev Anz:Nat:=70
theorem An5:Be E0.P 97 Ang.code Anz [.cell 2 28, .tmp 3]:=fq Tryz.func97
theorem Akn(s:LB)(at_ win:Int)(Q:QQ)(h:
 (Call E0.P F5 [.ptr Ae 0] [(Ae, .blk Ao [As s,Ai at_,Ai win])] fun r0 g0=>
 Ag (qP4 g0 r0)
 (Br (!decide (rI (rT r0 1)=(0:Int)))
 (Q (.tup [.imm (.agg [.int .i64 0, .int .i64 0, .int .i64 0, .str [], .sl .any 6 [], .sl .any 7 []]),Ai (rI (rT r0 1))]) [(Ae, .blk Ao [.imm (.str (rS ((Au g0 Ae).getD 0 AV.undef))), .imm (.int .i64 (rI ((Au g0 Ae).getD 1 AV.undef))), .imm (.int .i64 (rI ((Au g0 Ae).getD 2 AV.undef)))])])
 (Br (decide (gI (Ad (rT r0 0)) 0=(0:Int)))
 (Q (.tup [.imm (.agg [.int .i64 0, .int .i64 0, .int .i64 0, .str [], .sl .any 6 [], .sl .any 7 []]),Ai 5]) [(Ae, .blk Ao [.imm (.str (rS ((Au g0 Ae).getD 0 AV.undef))), .imm (.int .i64 (rI ((Au g0 Ae).getD 1 AV.undef))), .imm (.int .i64 (rI ((Au g0 Ae).getD 2 AV.undef)))])])
 (Br (decide (gI (Ad (rT r0 0)) 0=(1:Int)))
 (Call E0.P Qp [.ptr Ae 0,Ai (gI (Ad (rT r0 0)) 1)] [(Ae, .blk Ao [.imm (.str (rS ((Au g0 Ae).getD 0 AV.undef))), .imm (.int .i64 (rI ((Au g0 Ae).getD 1 AV.undef))), .imm (.int .i64 (rI ((Au g0 Ae).getD 2 AV.undef)))])] fun r1 g1=>
 Ag (qP0 g1 r1)
 (Q (.tup [.imm (.agg [.int .i64 (gI (Ad (rT r1 0)) 0), .int .i64 (gI (Ad (rT r1 0)) 1), .int .i64 (gI (Ad (rT r1 0)) 2), .str (gS (Ad (rT r1 0)) 3), .sl .any 6 (gR (Ad (rT r1 0)) 4), .sl .any 7 (gR (Ad (rT r1 0)) 5)]),Ai (rI (rT r1 1))]) [(Ae, .blk Ao [.imm (.str (rS ((Au g1 Ae).getD 0 AV.undef))), .imm (.int .i64 (rI ((Au g1 Ae).getD 1 AV.undef))), .imm (.int .i64 (rI ((Au g1 Ae).getD 2 AV.undef)))])]))
 (Br (decide (gI (Ad (rT r0 0)) 0=(2:Int)))
 (Q (.tup [.imm (.agg [.int .i64 3, .int .i64 0, .int .i64 0, .str (gS (Ad (rT r0 0)) 2), .sl .any 6 [], .sl .any 7 []]),Ai 0]) [(Ae, .blk Ao [.imm (.str (rS ((Au g0 Ae).getD 0 AV.undef))), .imm (.int .i64 (rI ((Au g0 Ae).getD 1 AV.undef))), .imm (.int .i64 (rI ((Au g0 Ae).getD 2 AV.undef)))])])
 (Br (decide (gI (Ad (rT r0 0)) 0=(3:Int)))
 (Q (.tup [.imm (.agg [.int .i64 4, .int .i64 0, .int .i64 0, .str (gS (Ad (rT r0 0)) 2), .sl .any 6 [], .sl .any 7 []]),Ai 0]) [(Ae, .blk Ao [.imm (.str (rS ((Au g0 Ae).getD 0 AV.undef))), .imm (.int .i64 (rI ((Au g0 Ae).getD 1 AV.undef))), .imm (.int .i64 (rI ((Au g0 Ae).getD 2 AV.undef)))])])
 (Br (decide (gI (Ad (rT r0 0)) 0=(8:Int)))
 (Call E0.P Agy [As (gS (Ad (rT r0 0)) 2)] [] fun r2 g2=>
 Ag (g2=[]∧
 r2=
 .tup
 [.imm
 (IV.agg
 [.int .i64 (gI (Ad (rT r2 0)) 0),
 .int .i64 (gI (Ad (rT r2 0)) 1),
 .int .i64 (gI (Ad (rT r2 0)) 2),
 .str (gS (Ad (rT r2 0)) 3),
 .sl SK.any 6 (gR (Ad (rT r2 0)) 4),
 .sl SK.any 7 (gR (Ad (rT r2 0)) 5)]),
 .imm (.int .i64 (rI (rT r2 1)))])
 (Q (.tup [.imm (.agg [.int .i64 (gI (Ad (rT r2 0)) 0), .int .i64 (gI (Ad (rT r2 0)) 1), .int .i64 (gI (Ad (rT r2 0)) 2), .str (gS (Ad (rT r2 0)) 3), .sl .any 6 (gR (Ad (rT r2 0)) 4), .sl .any 7 (gR (Ad (rT r2 0)) 5)]),Ai (rI (rT r2 1))]) [(Ae, .blk Ao [.imm (.str (rS ((Au g0 Ae).getD 0 AV.undef))), .imm (.int .i64 (rI ((Au g0 Ae).getD 1 AV.undef))), .imm (.int .i64 (rI ((Au g0 Ae).getD 2 AV.undef)))])]))
 (Br (decide (gI (Ad (rT r0 0)) 0=(4:Int)))
 (Br (decide ((64:Int)≤rI ((Au g0 Ae).getD 2 AV.undef)))
 (Q (.tup [.imm (.agg [.int .i64 0, .int .i64 0, .int .i64 0, .str [], .sl .any 6 [], .sl .any 7 []]),Ai 9]) [(Ae, .blk Ao [.imm (.str (rS ((Au g0 Ae).getD 0 AV.undef))), .imm (.int .i64 (rI ((Au g0 Ae).getD 1 AV.undef))), .imm (.int .i64 (rI ((Au g0 Ae).getD 2 AV.undef)))])])
 (Call E0.P Tz [.ptr Ae 0] [(Ae, .blk Ao [.imm (.str (rS ((Au g0 Ae).getD 0 AV.undef))), .imm (.int .i64 (rI ((Au g0 Ae).getD 1 AV.undef))), .imm (.int .i64 (i64.wrap (rI ((Au g0 Ae).getD 2 AV.undef)+(1:Int))))])] fun r3 g3=>
 Ag (qP0 g3 r3)
 (Q (.tup [.imm (.agg [.int .i64 (gI (Ad (rT r3 0)) 0), .int .i64 (gI (Ad (rT r3 0)) 1), .int .i64 (gI (Ad (rT r3 0)) 2), .str (gS (Ad (rT r3 0)) 3), .sl .any 6 (gR (Ad (rT r3 0)) 4), .sl .any 7 (gR (Ad (rT r3 0)) 5)]),Ai (rI (rT r3 1))]) [(Ae, .blk Ao [.imm (.str (rS ((Au g3 Ae).getD 0 AV.undef))), .imm (.int .i64 (rI ((Au g3 Ae).getD 1 AV.undef))), .imm (.int .i64 (i64.wrap (rI ((Au g3 Ae).getD 2 AV.undef) - (1:Int))))])])))
 (Br (decide (gI (Ad (rT r0 0)) 0=(6:Int)))
 (Br (decide ((64:Int)≤rI ((Au g0 Ae).getD 2 AV.undef)))
 (Q (.tup [.imm (.agg [.int .i64 0, .int .i64 0, .int .i64 0, .str [], .sl .any 6 [], .sl .any 7 []]),Ai 9]) [(Ae, .blk Ao [.imm (.str (rS ((Au g0 Ae).getD 0 AV.undef))), .imm (.int .i64 (rI ((Au g0 Ae).getD 1 AV.undef))), .imm (.int .i64 (rI ((Au g0 Ae).getD 2 AV.undef)))])])
 (Call E0.P Tx [.ptr Ae 0] [(Ae, .blk Ao [.imm (.str (rS ((Au g0 Ae).getD 0 AV.undef))), .imm (.int .i64 (rI ((Au g0 Ae).getD 1 AV.undef))), .imm (.int .i64 (i64.wrap (rI ((Au g0 Ae).getD 2 AV.undef)+(1:Int))))])] fun r4 g4=>
 Ag (qP0 g4 r4)
 (Q (.tup [.imm (.agg [.int .i64 (gI (Ad (rT r4 0)) 0), .int .i64 (gI (Ad (rT r4 0)) 1), .int .i64 (gI (Ad (rT r4 0)) 2), .str (gS (Ad (rT r4 0)) 3), .sl .any 6 (gR (Ad (rT r4 0)) 4), .sl .any 7 (gR (Ad (rT r4 0)) 5)]),Ai (rI (rT r4 1))]) [(Ae, .blk Ao [.imm (.str (rS ((Au g4 Ae).getD 0 AV.undef))), .imm (.int .i64 (rI ((Au g4 Ae).getD 1 AV.undef))), .imm (.int .i64 (i64.wrap (rI ((Au g4 Ae).getD 2 AV.undef) - (1:Int))))])])))
 (Q (.tup [.imm (.agg [.int .i64 0, .int .i64 0, .int .i64 0, .str [], .sl .any 6 [], .sl .any 7 []]),Ai 4]) [(Ae, .blk Ao [.imm (.str (rS ((Au g0 Ae).getD 0 AV.undef))), .imm (.int .i64 (rI ((Au g0 Ae).getD 1 AV.undef))), .imm (.int .i64 (rI ((Au g0 Ae).getD 2 AV.undef)))])]))))))))))):Call E0.P I6 [.ptr (.arg 0) 0] [(.arg 0, .blk Ao [.imm (.str s), .imm (.int .i64 at_), .imm (.int .i64 win)])] Q:=fR 0 An5 h
noncomputable def A4y:AC:=(A8 [] [4,5] (codeOf Tryz.f41) 0).1
abbrev A46:Nat:=42
theorem A5f:Be E0.P 41 A4y.code A46 [.cell 4 78, .tmp 5]:=fq Tryz.func41
theorem Ay3(a0:LB)(a1:Int)(Q:QQ)(h:
 (Call E0.P Agz [As a0,Ai a1] [] fun r0 g0=>
 Ag (qP5 g0 r0)
 (Br (decide (rI r0=(↑a0.length:Int)))
 (Q (.tup [.imm (.agg [.int .i64 0, .int .i64 0, .str [], .int .i64 (rI r0), .int .i64 (rI r0)]),Ai 0]) [])
 (Call E0.P Qq [.ptr Ae 0] [(Ae, .blk Ac [As a0,Ai (rI r0), .own Ar]),(Ar, .arr (Aj+2) true 1 [])] fun r1 g1=>
 Ag (qP6 g1 r1)
 (Br (!decide (rI (rT r1 1)=(0:Int)))
 (Q (.tup [.imm (.agg [.int .i64 0, .int .i64 0, .str [], .int .i64 0, .int .i64 0]),Ai (rI (rT r1 1))]) [])
 (Q (.tup [.imm (.agg [.int .i64 (gI (Ad (rT r1 0)) 0), .int .i64 (gI (Ad (rT r1 0)) 1), .str (gS (Ad (rT r1 0)) 2), .int .i64 (rI r0), .int .i64 (rI ((Au g1 Ae).getD 1 AV.undef))]),Ai 0]) [])))))):Call E0.P Pi [As a0,Ai a1] [] Q:=fR 0 A5f h
noncomputable def Acl:AC:=(A8 [(3,[2,4,5],[])] [2,3] (codeOf Tryz.f132) 0).1
abbrev Adc:Nat:=20
def Lx(t5 u0 u1:Int)(u2:LB)(u3 u4:Int)(u5 u6:Int)(u7:LB)(u8 u9:Int)(v0:LB)(v1 v2:Int)(K:KK):Prop:=Aq 3 E0.P Adc (Am 3 Acl).code ⟨[(2, .ptr nL2 0),(4, .ptr nL4 0),(5,Ai t5)],[(nL2, .blk Ap [Ai u0,Ai u1,As u2,Ai u3,Ai u4]),(nL4, .blk Ap [Ai u5,Ai u6,As u7,Ai u8,Ai u9]),(Ae, .blk Ao [As v0,Ai v1,Ai v2])]⟩ K
def L9(s:LB)(at_ win:Int)(Q:QQ):KK:=kE fun st=>finish 0 E0.T [.cell 2 78, .tmp 3] [(Ae, .blk Ao [As s,Ai at_,Ai win])] Q st
theorem Ai1(t5 u0 u1:Int)(u2:LB)(u3 u4:Int)(u5 u6:Int)(u7:LB)(u8 u9:Int)(v0:LB)(v1 v2:Int)(K:KK)(h:
 (K .ret ⟨[(2, .ptr nL2 0),(3,Ai t5)],[(nL2, .blk Ap [Ai u5,Ai u6,As u7,Ai u8,Ai u9]),(Ae, .blk Ao [As v0,Ai v1,Ai v2])]⟩)):Lx t5 u0 u1 u2 u3 u4 u5 u6 u7 u8 u9 v0 v1 v2 K:=cR [] h
theorem Aja(s:LB)(at_ win:Int)(Q:QQ)(t3 u0 u1:Int)(u2:LB)(u3 u4:Int)(u5:LB)(u6 u7:Int)(h:
 (Q (.tup [.imm (.agg [.int .i64 u0, .int .i64 u1, .str u2, .int .i64 u3, .int .i64 u4]),Ai t3]) [(Ae, .blk Ao [As u5,Ai u6,Ai u7])])):L9 s at_ win Q .ret ⟨[(2, .ptr nL2 0),(3,Ai t3)],[(nL2, .blk Ap [Ai u0,Ai u1,As u2,Ai u3,Ai u4]),(Ae, .blk Ao [As u5,Ai u6,Ai u7])]⟩:=kq h
theorem Aps:Be E0.P 132 Acl.code Adc [.cell 2 78, .tmp 3]:=fq Tryz.func132
theorem Als(s:LB)(at_ win:Int)(Q:QQ)(h:
 (Call E0.P Pi [As s,Ai at_] [] fun r0 g0=>
 Ag (qP3 g0 r0)
 (Br (decide (rI (rT r0 1)=(0:Int)))
 (Lx (rI (rT r0 1)) ((0:Int)) ((0:Int)) [] ((0:Int)) ((0:Int)) (gI (Ad (rT r0 0)) 0) (gI (Ad (rT r0 0)) 1) (gS (Ad (rT r0 0)) 2) (gI (Ad (rT r0 0)) 3) (gI (Ad (rT r0 0)) 4) s (gI (Ad (rT r0 0)) 4) win (L9 s at_ win Q))
 (Lx (rI (rT r0 1)) ((0:Int)) ((0:Int)) [] ((0:Int)) ((0:Int)) (gI (Ad (rT r0 0)) 0) (gI (Ad (rT r0 0)) 1) (gS (Ad (rT r0 0)) 2) (gI (Ad (rT r0 0)) 3) (gI (Ad (rT r0 0)) 4) s at_ win (L9 s at_ win Q))))):Call E0.P F5 [.ptr (.arg 0) 0] [(.arg 0, .blk Ao [.imm (.str s), .imm (.int .i64 at_), .imm (.int .i64 win)])] Q:=fR 0 Aps h
noncomputable def Al2:AC:=(A8 [] [4,5] (codeOf Tryz.f133) 0).1
abbrev Ame:Nat:=39
theorem Amf:Be E0.P 133 Al2.code Ame [.cell 4 28, .tmp 5]:=fq Tryz.func133
theorem V9(s:LB)(at_ win a1:Int)(Q:QQ)(h:
 (Call E0.P M8 [.ptr Ae 0] [(Ae, .blk Ao [As s,Ai at_,Ai win])] fun r0 g0=>
 Ag (g0=
 [(Nm.arg 0,
 Entry.blk 127
 [.imm (.str (rS ((Au g0 Ae).getD 0 AV.undef))),
 .imm (.int .i64 (rI ((Au g0 Ae).getD 1 AV.undef))),
 .imm (.int .i64 (rI ((Au g0 Ae).getD 2 AV.undef)))])]∧
 r0= .tup [.imm (.int .i64 (rI (rT r0 0))), .imm (.bool (rB (rT r0 1)))])
 (Br (!rB (rT r0 1))
 (Q (.tup [.imm (.agg [.int .i64 2, .int .i64 a1, .int .i64 0, .str [], .sl .any 6 [], .sl .any 7 []]),Ai 0]) [(Ae, .blk Ao [.imm (.str (rS ((Au g0 Ae).getD 0 AV.undef))), .imm (.int .i64 (rI ((Au g0 Ae).getD 1 AV.undef))), .imm (.int .i64 (rI ((Au g0 Ae).getD 2 AV.undef)))])])
 (Let (bif decide (a1<(1:Int))then true else decide ((8388607:Int)<a1)) fun x1=>
 Let (bif x1 then true else decide (rI (rT r0 0)<(0:Int))) fun x2=>
 Let (bif x2 then true else decide ((65535:Int)<rI (rT r0 0))) fun x3=>
 Br (x3)
 (Q (.tup [.imm (.agg [.int .i64 0, .int .i64 0, .int .i64 0, .str [], .sl .any 6 [], .sl .any 7 []]),Ai 3]) [(Ae, .blk Ao [.imm (.str (rS ((Au g0 Ae).getD 0 AV.undef))), .imm (.int .i64 (rI ((Au g0 Ae).getD 1 AV.undef))), .imm (.int .i64 (rI ((Au g0 Ae).getD 2 AV.undef)))])])
 (Q (.tup [.imm (.agg [.int .i64 7, .int .i64 a1, .int .i64 (rI (rT r0 0)), .str [], .sl .any 6 [], .sl .any 7 []]),Ai 0]) [(Ae, .blk Ao [.imm (.str (rS ((Au g0 Ae).getD 0 AV.undef))), .imm (.int .i64 (rI ((Au g0 Ae).getD 1 AV.undef))), .imm (.int .i64 (rI ((Au g0 Ae).getD 2 AV.undef)))])]))))):Call E0.P Qp [.ptr (.arg 0) 0,Ai a1] [(.arg 0, .blk Ao [.imm (.str s), .imm (.int .i64 at_), .imm (.int .i64 win)])] Q:=fR 0 Amf h
noncomputable def A4x:AC:=(A8 [] [2,3] (codeOf Tryz.f134) 0).1
abbrev A45:Nat:=17
theorem A5e:Be E0.P 134 A4x.code A45 [.cell 2 28, .tmp 3]:=fq Tryz.func134
theorem Ay2(a0:LB)(Q:QQ)(h:
 (Br (a0 == [(116:UInt8),114,117,101])
 (Q (.tup [.imm (.agg [.int .i64 1, .int .i64 1, .int .i64 0, .str [], .sl .any 6 [], .sl .any 7 []]),Ai 0]) [])
 (Br (a0 == [(102:UInt8),97,108,115,101])
 (Q (.tup [.imm (.agg [.int .i64 1, .int .i64 0, .int .i64 0, .str [], .sl .any 6 [], .sl .any 7 []]),Ai 0]) [])
 (Br (a0 == [(110:UInt8),117,108,108])
 (Q (.tup [.imm (.agg [.int .i64 0, .int .i64 0, .int .i64 0, .str [], .sl .any 6 [], .sl .any 7 []]),Ai 0]) [])
 (Q (.tup [.imm (.agg [.int .i64 0, .int .i64 0, .int .i64 0, .str [], .sl .any 6 [], .sl .any 7 []]),Ai 4]) []))))):Call E0.P Agy [As a0] [] Q:=fR 0 A5e h
noncomputable def F4:AC:=(A8 [(1,[0,2,4],[]),(4,[0,2,4],[]),(10,[2,4],[]),(16,[2,4],[])] [2,3] (codeOf Tryz.f136) 0).1
abbrev F6:Nat:=49
def Iz(u0:LB)(u1 u2:Int)(u3 u4 u5:Int)(u6:LB)(u7 u8 u9:Int)(v0:LB)(v1 v2:LL)(v3 v4:LL)(K:KK):Prop:=Bc 4 E0.P F6 (A9 4 F4).code ⟨[(0, .ptr Ae 0),(2, .ptr nL2 0),(4, .ptr nL4 0)],[(Ae, .blk Ao [As u0,Ai u1,Ai u2]),(nL2, .blk Aa [Ai u3,Ai u4,Ai u5,As u6, .own (nL2.cell 4), .own (nL2.cell 5)]),(nL4, .blk Aa [Ai u7,Ai u8,Ai u9,As v0, .own (nL4.cell 4), .own (nL4.cell 5)]),((nL2.cell 4), .arr (Aa+2) true 6 v1),((nL2.cell 5), .arr (Ah+2) true 7 v2),((nL4.cell 4), .arr (Aa+2) true 6 v3),((nL4.cell 5), .arr (Ah+2) true 7 v4)]⟩ K
def Za(u0 u1 u2:Int)(u3:LB)(u4 u5 u6:Int)(u7 u8:LB)(u9 v0:Int)(v1 v2:LL)(v3 v4:LL)(K:KK):Prop:=Aq 16 E0.P F6 (Am 16 F4).code ⟨[(2, .ptr nL2 0),(4, .ptr nL4 0)],[(nL2, .blk Aa [Ai u0,Ai u1,Ai u2,As u3, .own (nL2.cell 4), .own (nL2.cell 5)]),(nL4, .blk Aa [Ai u4,Ai u5,Ai u6,As u7, .own (nL4.cell 4), .own (nL4.cell 5)]),(Ae, .blk Ao [As u8,Ai u9,Ai v0]),((nL2.cell 4), .arr (Aa+2) true 6 v1),((nL2.cell 5), .arr (Ah+2) true 7 v2),((nL4.cell 4), .arr (Aa+2) true 6 v3),((nL4.cell 5), .arr (Ah+2) true 7 v4)]⟩ K
def Abe(s:LB)(at_ win:Int)(Q:QQ):KK:=kE fun st=>finish 0 E0.T [.cell 2 28, .tmp 3] [(Ae, .blk Ao [As s,Ai at_,Ai win])] Q st
def Mc(s:LB)(at_ win:Int)(Q:QQ):Ex→St→Prop
 | .normal,st=>finish 0 E0.T [.cell 2 28, .tmp 3] [(Ae, .blk Ao [As s,Ai at_,Ai win])] Q st
 | .exit _,_=>False
 | .goto i,st=>I4 1 E0.P F6 i (J4 1 F4).code (mask [0,2,4] st) (Abe s at_ win Q)
 | .ret,st=>finish 0 E0.T [.cell 2 28, .tmp 3] [(Ae, .blk Ao [As s,Ai at_,Ai win])] Q st
def Iu(s:LB)(at_ win:Int)(Q:QQ):Ex→St→Prop
 | .normal,st=>Aq 16 E0.P F6 (Am 16 F4).code (mask [2,4] st) (Mc s at_ win Q)
 | .exit i,st=>(match (i.beq 0:Bool)with
 |true=>Aq 16 E0.P F6 (Am 16 F4).code (mask [2,4] st) (Mc s at_ win Q)
 |false=>False)
 | .goto i,st=>I4 1 E0.P F6 i (J4 1 F4).code (mask [0,2,4] st) (Abe s at_ win Q)
 | .ret,st=>finish 0 E0.T [.cell 2 28, .tmp 3] [(Ae, .blk Ao [As s,Ai at_,Ai win])] Q st
theorem Ajv(u0:LB)(u1 u2:Int)(u3 u4 u5:Int)(u6:LB)(u7 u8 u9:Int)(v0:LB)(v1 v2:LL)(v3 v4:LL)(K:KK)(h:
 (Call E0.P Pi [As u0,Ai u1] [] fun r0 g0=>
 Ag (qP3 g0 r0)
 (Br (!decide (rI (rT r0 1)=(0:Int)))
 (K .ret ⟨[(2, .ptr nL2 0),(3,Ai (rI (rT r0 1)))],[(nL2, .blk Aa [Ai 0,Ai 0,Ai 0, .imm (.str []), .own (Nm.sub 20 (nL2.cell 4)), .own (Nm.sub 20 (nL2.cell 5))]),(Ae, .blk Ao [As u0,Ai u1,Ai u2]),((Nm.sub 20 (nL2.cell 4)), .arr (Aa+2) true 6 []),((Nm.sub 20 (nL2.cell 5)), .arr (Ah+2) true 7 [])]⟩)
 (Br (decide (gI (Ad (rT r0 0)) 0=(5:Int)))
 (Call E0.P F5 [.ptr Ae 0] [(Ae, .blk Ao [As u0,Ai u1,Ai u2])] fun r1 g1=>
 Ag (qP4 g1 r1)
 (K (.exit 0) ⟨[(2, .ptr nL2 0),(4, .ptr nL4 0)],[(nL2, .blk Aa [Ai u3,Ai u4,Ai u5,As u6, .own (nL2.cell 4), .own (nL2.cell 5)]),(nL4, .blk Aa [Ai u7,Ai u8,Ai u9,As v0, .own (nL4.cell 4), .own (nL4.cell 5)]),(Ae, .blk Ao [.imm (.str (rS ((Au g1 Ae).getD 0 AV.undef))), .imm (.int .i64 (rI ((Au g1 Ae).getD 1 AV.undef))), .imm (.int .i64 (rI ((Au g1 Ae).getD 2 AV.undef)))]),((nL2.cell 4), .arr (Aa+2) true 6 v1),((nL2.cell 5), .arr (Ah+2) true 7 v2),((nL4.cell 4), .arr (Aa+2) true 6 v3),((nL4.cell 5), .arr (Ah+2) true 7 v4)]⟩))
 (Call E0.P I6 [.ptr Ae 0] [(Ae, .blk Ao [As u0,Ai u1,Ai u2])] fun r2 g2=>
 Ag (qP0 g2 r2)
 (Br (!decide (rI (rT r2 1)=(0:Int)))
 (K .ret ⟨[(2, .ptr nL2 0),(3,Ai (rI (rT r2 1)))],[(nL2, .blk Aa [Ai 0,Ai 0,Ai 0, .imm (.str []), .own (Nm.sub 39 (nL2.cell 4)), .own (Nm.sub 39 (nL2.cell 5))]),(Ae, .blk Ao [.imm (.str (rS ((Au g2 Ae).getD 0 AV.undef))), .imm (.int .i64 (rI ((Au g2 Ae).getD 1 AV.undef))), .imm (.int .i64 (rI ((Au g2 Ae).getD 2 AV.undef)))]),((Nm.sub 39 (nL2.cell 4)), .arr (Aa+2) true 6 []),((Nm.sub 39 (nL2.cell 5)), .arr (Ah+2) true 7 [])]⟩)
 (Ag ((v3.length+1)*88≤140737488355328∧v3.length+1≤140737488355328)
 (Iz (rS ((Au g2 Ae).getD 0 AV.undef)) (rI ((Au g2 Ae).getD 1 AV.undef)) (rI ((Au g2 Ae).getD 2 AV.undef)) u3 u4 u5 u6 u7 u8 u9 v0 v1 v2 (v3++
 [[IV.int .i64 (gI (Ad (rT r2 0)) 0),
 .int .i64 (gI (Ad (rT r2 0)) 1),
 .int .i64 (gI (Ad (rT r2 0)) 2), .str (gS (Ad (rT r2 0)) 3),
 .sl SK.any 6 (gR (Ad (rT r2 0)) 4),
 .sl SK.any 7 (gR (Ad (rT r2 0)) 5)]]) v4 K)))))))):Iz u0 u1 u2 u3 u4 u5 u6 u7 u8 u9 v0 v1 v2 v3 v4 K:=lR [0,2,4] h
theorem Ahn(u0 u1 u2:Int)(u3:LB)(u4 u5 u6:Int)(u7 u8:LB)(u9 v0:Int)(v1 v2:LL)(v3 v4:LL)(K:KK)(h:
 (K .ret ⟨[(2, .ptr nL2 0),(3,Ai 0)],[(nL2, .blk Aa [Ai u4,Ai u5,Ai u6,As u7, .own (nL4.cell 4), .own (nL4.cell 5)]),(Ae, .blk Ao [As u8,Ai u9,Ai v0]),((nL4.cell 4), .arr (Aa+2) true 6 v3),((nL4.cell 5), .arr (Ah+2) true 7 v4)]⟩)):Za u0 u1 u2 u3 u4 u5 u6 u7 u8 u9 v0 v1 v2 v3 v4 K:=cR [] h
theorem Ajf(s:LB)(at_ win:Int)(Q:QQ)(t3 u0:Int)(u1 u2:Int)(u3 u4:LB)(u5 u6:Int)(u7 u8:LL)(h:
 (Q (.tup [.imm (.agg [.int .i64 u0, .int .i64 u1, .int .i64 u2, .str u3, .sl .any 6 u7, .sl .any 7 u8]),Ai t3]) [(Ae, .blk Ao [As u4,Ai u5,Ai u6])])):Mc s at_ win Q .ret ⟨[(2, .ptr nL2 0),(3,Ai t3)],[(nL2, .blk Aa [Ai u0,Ai u1,Ai u2,As u3, .own (nL4.cell 4), .own (nL4.cell 5)]),(Ae, .blk Ao [As u4,Ai u5,Ai u6]),((nL4.cell 4), .arr (Aa+2) true 6 u7),((nL4.cell 5), .arr (Ah+2) true 7 u8)]⟩:=kq h
theorem Ajg(s:LB)(at_ win:Int)(Q:QQ)(t3 u0:Int)(u1 u2:Int)(u3 u4:LB)(u5 u6:Int)(u7 u8:LL)(h:
 (Q (.tup [.imm (.agg [.int .i64 u0, .int .i64 u1, .int .i64 u2, .str u3, .sl .any 6 u7, .sl .any 7 u8]),Ai t3]) [(Ae, .blk Ao [As u4,Ai u5,Ai u6])])):Iu s at_ win Q .ret ⟨[(2, .ptr nL2 0),(3,Ai t3)],[(nL2, .blk Aa [Ai u0,Ai u1,Ai u2,As u3, .own (Nm.sub 20 (nL2.cell 4)), .own (Nm.sub 20 (nL2.cell 5))]),(Ae, .blk Ao [As u4,Ai u5,Ai u6]),((Nm.sub 20 (nL2.cell 4)), .arr (Aa+2) true 6 u7),((Nm.sub 20 (nL2.cell 5)), .arr (Ah+2) true 7 u8)]⟩:=kq h
theorem Ajh(s:LB)(at_ win:Int)(Q:QQ)(u0 u1 u2:Int)(u3:LB)(u4 u5 u6:Int)(u7 u8:LB)(u9 v0:Int)(v1 v2:LL)(v3 v4:LL)(h:
 (Za u0 u1 u2 u3 u4 u5 u6 u7 u8 u9 v0 v1 v2 v3 v4 (Mc s at_ win Q))):Iu s at_ win Q (.exit 0) ⟨[(2, .ptr nL2 0),(4, .ptr nL4 0)],[(nL2, .blk Aa [Ai u0,Ai u1,Ai u2,As u3, .own (nL2.cell 4), .own (nL2.cell 5)]),(nL4, .blk Aa [Ai u4,Ai u5,Ai u6,As u7, .own (nL4.cell 4), .own (nL4.cell 5)]),(Ae, .blk Ao [As u8,Ai u9,Ai v0]),((nL2.cell 4), .arr (Aa+2) true 6 v1),((nL2.cell 5), .arr (Ah+2) true 7 v2),((nL4.cell 4), .arr (Aa+2) true 6 v3),((nL4.cell 5), .arr (Ah+2) true 7 v4)]⟩:=kq h
theorem Aji(s:LB)(at_ win:Int)(Q:QQ)(t3 u0:Int)(u1 u2:Int)(u3 u4:LB)(u5 u6:Int)(u7 u8:LL)(h:
 (Q (.tup [.imm (.agg [.int .i64 u0, .int .i64 u1, .int .i64 u2, .str u3, .sl .any 6 u7, .sl .any 7 u8]),Ai t3]) [(Ae, .blk Ao [As u4,Ai u5,Ai u6])])):Iu s at_ win Q .ret ⟨[(2, .ptr nL2 0),(3,Ai t3)],[(nL2, .blk Aa [Ai u0,Ai u1,Ai u2,As u3, .own (Nm.sub 39 (nL2.cell 4)), .own (Nm.sub 39 (nL2.cell 5))]),(Ae, .blk Ao [As u4,Ai u5,Ai u6]),((Nm.sub 39 (nL2.cell 4)), .arr (Aa+2) true 6 u7),((Nm.sub 39 (nL2.cell 5)), .arr (Ah+2) true 7 u8)]⟩:=kq h
theorem Apv:Be E0.P 136 F4.code F6 [.cell 2 28, .tmp 3]:=fq Tryz.func136
theorem Alu(s:LB)(at_ win:Int)(Q:QQ)(h:
 (Iz s at_ win ((0:Int)) ((0:Int)) ((0:Int)) [] ((5:Int)) ((0:Int)) ((0:Int)) [] [] [] [] [] (Iu s at_ win Q))):Call E0.P Tz [.ptr (.arg 0) 0] [(.arg 0, .blk Ao [.imm (.str s), .imm (.int .i64 at_), .imm (.int .i64 win)])] Q:=fR 0 Apv h
noncomputable def Acm:AC:=(A8 [(3,[0,2,4,5],[])] [2,3] (codeOf Tryz.f137) 0).1
abbrev Ade:Nat:=47
def Iy(u0:LB)(u1 u2:Int)(u3 u4 u5:Int)(u6:LB)(u7 u8 u9:Int)(v0:LB)(v1:List (List UInt8 × Int))(v2 v3:LL)(v4 v5:LL)(K:KK):Prop:=Bc 3 E0.P Ade (A9 3 Acm).code ⟨[(0, .ptr Ae 0),(2, .ptr nL2 0),(4, .ptr nL4 0),(5, .mp Bns)],[(Ae, .blk Ao [As u0,Ai u1,Ai u2]),(nL2, .blk Aa [Ai u3,Ai u4,Ai u5,As u6, .own (nL2.cell 4), .own (nL2.cell 5)]),(nL4, .blk Aa [Ai u7,Ai u8,Ai u9,As v0, .own (nL4.cell 4), .own (nL4.cell 5)]),(Bns, .map v1),((nL2.cell 4), .arr (Aa+2) true 6 v2),((nL2.cell 5), .arr (Ah+2) true 7 v3),((nL4.cell 4), .arr (Aa+2) true 6 v4),((nL4.cell 5), .arr (Ah+2) true 7 v5)]⟩ K
def Gw(s:LB)(at_ win:Int)(Q:QQ):KK:=kF 0 (fun st=>finish 0 E0.T [.cell 2 28, .tmp 3] [(Ae, .blk Ao [As s,Ai at_,Ai win])] Q st) fun st=>finish 0 E0.T [.cell 2 28, .tmp 3] [(Ae, .blk Ao [As s,Ai at_,Ai win])] Q st
theorem Aju(u0:LB)(u1 u2:Int)(u3 u4 u5:Int)(u6:LB)(u7 u8 u9:Int)(v0:LB)(v1:List (List UInt8 × Int))(v2 v3:LL)(v4 v5:LL)(K:KK)(h:
 (Call E0.P U5 [.ptr Ae 0, .mp Ar] [(Ae, .blk Ao [As u0,Ai u1,Ai u2]),(Ar, .map v1)] fun r0 g0=>
 Ag (g0=
 [(Nm.arg 0,
 Entry.blk 127
 [.imm (.str (rS ((Au g0 Ae).getD 0 AV.undef))),
 .imm (.int .i64 (rI ((Au g0 Ae).getD 1 AV.undef))),
 .imm (.int .i64 (rI ((Au g0 Ae).getD 2 AV.undef)))]),
 (Nm.arg 1,Entry.map (mapOf g0 Ar))]∧
 r0=
 .tup
 [.imm (.str (rS (rT r0 0))), .imm (.bool (rB (rT r0 1))),
 .imm (.int .i64 (rI (rT r0 2)))])
 (Br (!decide (rI (rT r0 2)=(0:Int)))
 (K .ret ⟨[(2, .ptr nL2 0),(3,Ai (rI (rT r0 2)))],[(nL2, .blk Aa [Ai 0,Ai 0,Ai 0, .imm (.str []), .own (Nm.sub 22 (nL2.cell 4)), .own (Nm.sub 22 (nL2.cell 5))]),(Ae, .blk Ao [.imm (.str (rS ((Au g0 Ae).getD 0 AV.undef))), .imm (.int .i64 (rI ((Au g0 Ae).getD 1 AV.undef))), .imm (.int .i64 (rI ((Au g0 Ae).getD 2 AV.undef)))]),((Nm.sub 22 (nL2.cell 4)), .arr (Aa+2) true 6 []),((Nm.sub 22 (nL2.cell 5)), .arr (Ah+2) true 7 [])]⟩)
 (Br (!rB (rT r0 1))
 (K .ret ⟨[(2, .ptr nL2 0),(3,Ai 0)],[(nL2, .blk Aa [Ai u7,Ai u8,Ai u9,As v0, .own (nL4.cell 4), .own (nL4.cell 5)]),(Ae, .blk Ao [.imm (.str (rS ((Au g0 Ae).getD 0 AV.undef))), .imm (.int .i64 (rI ((Au g0 Ae).getD 1 AV.undef))), .imm (.int .i64 (rI ((Au g0 Ae).getD 2 AV.undef)))]),((nL4.cell 4), .arr (Aa+2) true 6 v4),((nL4.cell 5), .arr (Ah+2) true 7 v5)]⟩)
 (Call E0.P I6 [.ptr Ae 0] [(Ae, .blk Ao [.imm (.str (rS ((Au g0 Ae).getD 0 AV.undef))), .imm (.int .i64 (rI ((Au g0 Ae).getD 1 AV.undef))), .imm (.int .i64 (rI ((Au g0 Ae).getD 2 AV.undef)))])] fun r1 g1=>
 Ag (qP0 g1 r1)
 (Br (!decide (rI (rT r1 1)=(0:Int)))
 (K .ret ⟨[(2, .ptr nL2 0),(3,Ai (rI (rT r1 1)))],[(nL2, .blk Aa [Ai 0,Ai 0,Ai 0, .imm (.str []), .own (Nm.sub 36 (nL2.cell 4)), .own (Nm.sub 36 (nL2.cell 5))]),(Ae, .blk Ao [.imm (.str (rS ((Au g1 Ae).getD 0 AV.undef))), .imm (.int .i64 (rI ((Au g1 Ae).getD 1 AV.undef))), .imm (.int .i64 (rI ((Au g1 Ae).getD 2 AV.undef)))]),((Nm.sub 36 (nL2.cell 4)), .arr (Aa+2) true 6 []),((Nm.sub 36 (nL2.cell 5)), .arr (Ah+2) true 7 [])]⟩)
 (Ag ((v5.length+1)*104≤140737488355328∧v5.length+1≤140737488355328)
 (Iy (rS ((Au g1 Ae).getD 0 AV.undef)) (rI ((Au g1 Ae).getD 1 AV.undef)) (rI ((Au g1 Ae).getD 2 AV.undef)) u3 u4 u5 u6 u7 u8 u9 v0 (mapOf g0 Ar) v2 v3 v4 (v5++
 [[IV.str (rS (rT r0 0)), .int .i64 (gI (Ad (rT r1 0)) 0),
 .int .i64 (gI (Ad (rT r1 0)) 1),
 .int .i64 (gI (Ad (rT r1 0)) 2), .str (gS (Ad (rT r1 0)) 3),
 .sl SK.any 6 (gR (Ad (rT r1 0)) 4),
 .sl SK.any 7 (gR (Ad (rT r1 0)) 5)]]) K)))))))):Iy u0 u1 u2 u3 u4 u5 u6 u7 u8 u9 v0 v1 v2 v3 v4 v5 K:=lR [0,2,4,5] h
theorem Ajb(s:LB)(at_ win:Int)(Q:QQ)(t3 u0:Int)(u1 u2:Int)(u3 u4:LB)(u5 u6:Int)(u7 u8:LL)(h:
 (Q (.tup [.imm (.agg [.int .i64 u0, .int .i64 u1, .int .i64 u2, .str u3, .sl .any 6 u7, .sl .any 7 u8]),Ai t3]) [(Ae, .blk Ao [As u4,Ai u5,Ai u6])])):Gw s at_ win Q .ret ⟨[(2, .ptr nL2 0),(3,Ai t3)],[(nL2, .blk Aa [Ai u0,Ai u1,Ai u2,As u3, .own (Nm.sub 22 (nL2.cell 4)), .own (Nm.sub 22 (nL2.cell 5))]),(Ae, .blk Ao [As u4,Ai u5,Ai u6]),((Nm.sub 22 (nL2.cell 4)), .arr (Aa+2) true 6 u7),((Nm.sub 22 (nL2.cell 5)), .arr (Ah+2) true 7 u8)]⟩:=kq h
theorem Ajc(s:LB)(at_ win:Int)(Q:QQ)(t3 u0:Int)(u1 u2:Int)(u3 u4:LB)(u5 u6:Int)(u7 u8:LL)(h:
 (Q (.tup [.imm (.agg [.int .i64 u0, .int .i64 u1, .int .i64 u2, .str u3, .sl .any 6 u7, .sl .any 7 u8]),Ai t3]) [(Ae, .blk Ao [As u4,Ai u5,Ai u6])])):Gw s at_ win Q .ret ⟨[(2, .ptr nL2 0),(3,Ai t3)],[(nL2, .blk Aa [Ai u0,Ai u1,Ai u2,As u3, .own (nL4.cell 4), .own (nL4.cell 5)]),(Ae, .blk Ao [As u4,Ai u5,Ai u6]),((nL4.cell 4), .arr (Aa+2) true 6 u7),((nL4.cell 5), .arr (Ah+2) true 7 u8)]⟩:=kq h
theorem Ajd(s:LB)(at_ win:Int)(Q:QQ)(t3 u0:Int)(u1 u2:Int)(u3 u4:LB)(u5 u6:Int)(u7 u8:LL)(h:
 (Q (.tup [.imm (.agg [.int .i64 u0, .int .i64 u1, .int .i64 u2, .str u3, .sl .any 6 u7, .sl .any 7 u8]),Ai t3]) [(Ae, .blk Ao [As u4,Ai u5,Ai u6])])):Gw s at_ win Q .ret ⟨[(2, .ptr nL2 0),(3,Ai t3)],[(nL2, .blk Aa [Ai u0,Ai u1,Ai u2,As u3, .own (Nm.sub 36 (nL2.cell 4)), .own (Nm.sub 36 (nL2.cell 5))]),(Ae, .blk Ao [As u4,Ai u5,Ai u6]),((Nm.sub 36 (nL2.cell 4)), .arr (Aa+2) true 6 u7),((Nm.sub 36 (nL2.cell 5)), .arr (Ah+2) true 7 u8)]⟩:=kq h
theorem Apt:Be E0.P 137 Acm.code Ade [.cell 2 28, .tmp 3]:=fq Tryz.func137
theorem Alt(s:LB)(at_ win:Int)(Q:QQ)(h:
 (Iy s at_ win ((0:Int)) ((0:Int)) ((0:Int)) [] ((6:Int)) ((0:Int)) ((0:Int)) [] [] [] [] [] [] (Gw s at_ win Q))):Call E0.P Tx [.ptr (.arg 0) 0] [(.arg 0, .blk Ao [.imm (.str s), .imm (.int .i64 at_), .imm (.int .i64 win)])] Q:=fR 0 Apt h
noncomputable def Cf:AC:=(A8 [(1,[0,1],[]),(6,[0,1],[]),(8,[0,1],[]),(9,[0,1],[0,1]),(10,[0,1],[1]),(11,[0,1],[]),(12,[1],[])] [4] (codeOf Tryz.f61) 0).1
abbrev Cg:Nat:=39
def Rm(t0:LB)(t1:Int)(K:KK):Prop:=Bc 6 E0.P Cg (A9 6 Cf).code ⟨[(0,As t0),(1,Ai t1)],[]⟩ K
def Aby(t1:Int)(K:KK):Prop:=Aq 12 E0.P Cg (Am 12 Cf).code ⟨[(1,Ai t1)],[]⟩ K
def Ad0(t0:LB)(t1:Int)(K:KK):Prop:=Aq 9 E0.P Cg (Am 9 Cf).code ⟨[(0,As t0),(1,Ai t1)],[]⟩ K
def Abx(t0:LB)(t1:Int)(K:KK):Prop:=Aq 10 E0.P Cg (Am 10 Cf).code ⟨[(0,As t0),(1,Ai t1)],[]⟩ K
def Xr(t0:LB)(t1:Int)(K:KK):Prop:=I4 1 E0.P Cg 0 (J4 1 Cf).code ⟨[(0,As t0),(1,Ai t1)],[]⟩ K
def Nj(Q:QQ):KK:=kE fun st=>finish 0 E0.T [.tmp 4] [] Q st
def Ad6(Q:QQ):Ex→St→Prop
 | .normal,st=>finish 0 E0.T [.tmp 4] [] Q st
 | .exit _,_=>False
 | .goto i,st=>I4 1 E0.P Cg i (J4 1 Cf).code (mask [0,1] st) (Nj Q)
 | .ret,st=>finish 0 E0.T [.tmp 4] [] Q st
def Xm(Q:QQ):Ex→St→Prop
 | .normal,st=>Aq 12 E0.P Cg (Am 12 Cf).code (mask [1] st) (Ad6 Q)
 | .exit _,_=>False
 | .goto i,st=>I4 1 E0.P Cg i (J4 1 Cf).code (mask [0,1] st) (Nj Q)
 | .ret,st=>finish 0 E0.T [.tmp 4] [] Q st
def Am8(Q:QQ):Ex→St→Prop
 | .normal,st=>Aq 10 E0.P Cg (Am 10 Cf).code (mask [0,1] st) (Xm Q)
 | .exit i,st=>(match (i.beq 0:Bool)with
 |true=>Aq 10 E0.P Cg (Am 10 Cf).code (mask [0,1] st) (Xm Q)
 |false=>False)
 | .goto i,st=>I4 1 E0.P Cg i (J4 1 Cf).code (mask [0,1] st) (Nj Q)
 | .ret,st=>finish 0 E0.T [.tmp 4] [] Q st
def Ad7(K:KK):Ex→St→Prop
 | .normal,st=>Bc 6 E0.P Cg (A9 6 Cf).code (mask [0,1] st) K
 | .exit i,st=>K (.exit i) st
 | .goto i,st=>K (.goto i) st
 | .ret,st=>K .ret st
def Ad8(K:KK):Ex→St→Prop
 | .normal,st=>K .normal st
 | .exit i,st=>K (.exit i) st
 | .goto i,st=>I4 1 E0.P Cg i (J4 1 Cf).code (mask [0,1] st) K
 | .ret,st=>K .ret st
def Xn(K:KK):Ex→St→Prop
 | .normal,st=>Aq 12 E0.P Cg (Am 12 Cf).code (mask [1] st) (Ad8 K)
 | .exit i,st=>K (.exit i) st
 | .goto i,st=>I4 1 E0.P Cg i (J4 1 Cf).code (mask [0,1] st) K
 | .ret,st=>K .ret st
def Am9(K:KK):Ex→St→Prop
 | .normal,st=>Aq 10 E0.P Cg (Am 10 Cf).code (mask [0,1] st) (Xn K)
 | .exit i,st=>(match (i.beq 0:Bool)with
 |true=>Aq 10 E0.P Cg (Am 10 Cf).code (mask [0,1] st) (Xn K)
 |false=>K (.exit i) st)
 | .goto i,st=>I4 1 E0.P Cg i (J4 1 Cf).code (mask [0,1] st) K
 | .ret,st=>K .ret st
theorem Ahi(t0:LB)(t1:Int)(K:KK)(h:
 (Br (decide (t1<(↑t0.length:Int)) == true)
 (Call E0.P Ph [As t0,Ai t1] [] fun r0 g0=>
 Ag (qP5 g0 r0)
 (Let (decide (rI r0=(0:Int))) fun x1=>
 Br (x1)
 (Ad0 t0 t1 (Ad7 K))
 (K (.exit 0) ⟨[(0,As t0),(1,Ai t1)],[]⟩)))
 (Ag ((!true)=false)
 (Let (false) fun x2=>
 Br (x2)
 (Ad0 t0 t1 (Ad7 K))
 (K (.exit 0) ⟨[(0,As t0),(1,Ai t1)],[]⟩))))):Rm t0 t1 K:=lR [0,1] h
theorem V5(t1:Int)(K:KK)(h:
 (K .ret ⟨[(4,Ai t1)],[]⟩)):Aby t1 K:=cR [] h
theorem Au8(t0:LB)(t1:Int)(K:KK)(h:
 (K .normal ⟨[(0,As t0),(1,Ai (i64.wrap (t1+(1:Int))))],[]⟩)):Ad0 t0 t1 K:=cR [0,1] h
theorem Afi(t0:LB)(t1:Int)(K:KK)(h:
 (K (.goto 0) ⟨[(0,As t0),(1,Ai t1)],[]⟩)):Abx t0 t1 K:=cR [1] h
theorem Ahk(t0:LB)(t1:Int)(K:KK)(h:
 (Call E0.P Ur [As t0,Ai t1, .imm (.sl .any 1 [[IV.int .i64 (0:Int)]])] [] fun r0 g0=>
 Ag (qP5 g0 r0)
 (Ag (decide (i64.wrap (t1+rI r0)<(↑t0.length:Int))=true→
 (0:Int)≤i64.wrap (t1+rI r0)∧i64.wrap (t1+rI r0)<(↑t0.length:Int))
 (Let (bif decide (i64.wrap (t1+rI r0)<(↑t0.length:Int))then
 decide ((↑(t0.getD (i64.wrap (t1+rI r0)).toNat 0).toNat:Int)=(37:Int))
 else false) fun x1=>
 Br (x1)
 (Rm t0 (i64.wrap (t1+rI r0)) (Am9 K))
 (Aby (i64.wrap (t1+rI r0)) (Ad8 K)))))):Xr t0 t1 K:=Bcl (Al5 E0 Cg) (okE Cg) 3 1 0 (J4 1 Cf) (Bid 1 0 Cf) [0,1] _ K (by kernel_rfl) rfl (kr (by kernel_rfl) h)
theorem Ahd(Q:QQ)(t4:Int)(h:
 (Q (Ai t4) [])):Nj Q .ret ⟨[(4,Ai t4)],[]⟩:=kq h
theorem Avq(Q:QQ)(t4:Int)(h:
 (Q (Ai t4) [])):Ad6 Q .ret ⟨[(4,Ai t4)],[]⟩:=kq h
theorem Avr(Q:QQ)(t0:LB)(t1:Int)(h:
 (Xr t0 t1 (Nj Q))):Xm Q (.goto 0) ⟨[(0,As t0),(1,Ai t1)],[]⟩:=kq h
theorem Avs(Q:QQ)(t0:LB)(t1:Int)(h:
 (Abx t0 t1 (Xm Q))):Am8 Q (.exit 0) ⟨[(0,As t0),(1,Ai t1)],[]⟩:=kq h
theorem Avt(K:KK)(t0:LB)(t1:Int)(h:
 (Rm t0 t1 K)):Ad7 K .normal ⟨[(0,As t0),(1,Ai t1)],[]⟩:=kq h
theorem Ahe(K:KK)(t4:Int)(h:
 (K .ret ⟨[(4,Ai t4)],[]⟩)):Ad8 K .ret ⟨[(4,Ai t4)],[]⟩:=kq h
theorem Avu(K:KK)(t0:LB)(t1:Int)(h:
 (Xr t0 t1 K)):Xn K (.goto 0) ⟨[(0,As t0),(1,Ai t1)],[]⟩:=kq h
theorem Avv(K:KK)(t0:LB)(t1:Int)(h:
 (Abx t0 t1 (Xn K))):Am9 K (.exit 0) ⟨[(0,As t0),(1,Ai t1)],[]⟩:=kq h
theorem A5g:Be E0.P 61 Cf.code Cg [.tmp 4]:=fq Tryz.func61
theorem Ay4(a0:LB)(a1:Int)(Q:QQ)(h:
 (Call E0.P Ur [As a0,Ai (if(if(↑a0.length:Int)<a1 then(↑a0.length:Int)else a1)>(0:Int)then
 if(↑a0.length:Int)<a1 then(↑a0.length:Int)else a1
 else(0:Int)), .imm (.sl .any 1 [[IV.int .i64 (0:Int)]])] [] fun r0 g0=>
 Ag (qP5 g0 r0)
 (Ag (decide
 (i64.wrap
 ((if(if(↑a0.length:Int)<a1 then(↑a0.length:Int)else a1)>(0:Int)then
 if(↑a0.length:Int)<a1 then(↑a0.length:Int)else a1
 else(0:Int))+
 rI r0)<
 (↑a0.length:Int))=
 true→
 (0:Int)≤
 i64.wrap
 ((if(if(↑a0.length:Int)<a1 then(↑a0.length:Int)else a1)>(0:Int)then
 if(↑a0.length:Int)<a1 then(↑a0.length:Int)else a1
 else(0:Int))+
 rI r0)∧
 i64.wrap
 ((if(if(↑a0.length:Int)<a1 then(↑a0.length:Int)else a1)>(0:Int)then
 if(↑a0.length:Int)<a1 then(↑a0.length:Int)else a1
 else(0:Int))+
 rI r0)<
 (↑a0.length:Int))
 (Let (bif
 decide
 (i64.wrap
 ((if(if(↑a0.length:Int)<a1 then(↑a0.length:Int)else a1)>(0:Int)then
 if(↑a0.length:Int)<a1 then(↑a0.length:Int)else a1
 else(0:Int))+
 rI r0)<
 (↑a0.length:Int))then
 decide
 ((↑(a0.getD
 (i64.wrap
 ((if(if(↑a0.length:Int)<a1 then(↑a0.length:Int)else a1)>(0:Int)then
 if(↑a0.length:Int)<a1 then(↑a0.length:Int)else a1
 else(0:Int))+
 rI r0)).toNat
 0).toNat:
 Int)=
 (37:Int))
 else false) fun x1=>
 Br (x1)
 (Rm a0 (i64.wrap
 ((if(if(↑a0.length:Int)<a1 then(↑a0.length:Int)else a1)>(0:Int)then
 if(↑a0.length:Int)<a1 then(↑a0.length:Int)else a1
 else(0:Int))+
 rI r0)) (Am8 Q))
 (Aby (i64.wrap
 ((if(if(↑a0.length:Int)<a1 then(↑a0.length:Int)else a1)>(0:Int)then
 if(↑a0.length:Int)<a1 then(↑a0.length:Int)else a1
 else(0:Int))+
 rI r0)) (Ad6 Q)))))):Call E0.P Agz [As a0,Ai a1] [] Q:=fR 0 A5g h
noncomputable def Li:AC:=(A8 [(22,[0,2,60],[0,2]),(24,[0,2],[])] [2,3] (codeOf Tryz.f62) 0).1
abbrev Lm:Nat:=71
def G6(t60:Bool)(u0:LB)(u1 u2 u3:Int)(u4:LB)(u5 u6:Int)(u7:LL)(K:KK):Prop:=Aq 22 E0.P Lm (Am 22 Li).code ⟨[(0, .ptr Ae 0),(2, .ptr nL2 0),(60,Ab t60)],[(Ae, .blk Ac [As u0,Ai u1, .own Ar]),(nL2, .blk Ap [Ai u2,Ai u3,As u4,Ai u5,Ai u6]),(Ar, .arr (Aj+2) true 1 u7)]⟩ K
def V7(u0:LB)(u1 u2 u3:Int)(u4:LB)(u5 u6:Int)(u7:LL)(K:KK):Prop:=Aq 24 E0.P Lm (Am 24 Li).code ⟨[(0, .ptr Ae 0),(2, .ptr nL2 0)],[(Ae, .blk Ac [As u0,Ai u1, .own Ar]),(nL2, .blk Ap [Ai u2,Ai u3,As u4,Ai u5,Ai u6]),(Ar, .arr (Aj+2) true 1 u7)]⟩ K
def Pd(s:LB)(at_:Int)(out:LL)(Q:QQ):KK:=kE fun st=>finish 0 E0.T [.cell 2 78, .tmp 3] [(Ae, .blk Ac [As s,Ai at_, .own Ar]),(Ar, .arr (Aj+2) true 1 out)] Q st
def Fs(s:LB)(at_:Int)(out:LL)(Q:QQ):KK:=kF 0 (fun st=>Aq 24 E0.P Lm (Am 24 Li).code (mask [0,2] st) (Pd s at_ out Q)) fun st=>finish 0 E0.T [.cell 2 78, .tmp 3] [(Ae, .blk Ac [As s,Ai at_, .own Ar]),(Ar, .arr (Aj+2) true 1 out)] Q st
theorem Afk(t60:Bool)(u0:LB)(u1 u2 u3:Int)(u4:LB)(u5 u6:Int)(u7:LL)(K:KK)(h:
 (Br (t60)
 (K .ret ⟨[(2, .ptr nL2 0),(3,Ai 4)],[(nL2, .blk Ap [Ai 0,Ai 0, .imm (.str []),Ai 0,Ai 0]),(Ae, .blk Ac [As u0,Ai u1, .own Ar]),(Ar, .arr (Aj+2) true 1 u7)]⟩)
 (K .normal ⟨[(0, .ptr Ae 0),(2, .ptr nL2 0)],[(Ae, .blk Ac [As u0,Ai u1, .own Ar]),(nL2, .blk Ap [Ai u2,Ai u3,As u4,Ai u5,Ai u6]),(Ar, .arr (Aj+2) true 1 u7)]⟩))):G6 t60 u0 u1 u2 u3 u4 u5 u6 u7 K:=cR [0,2] h
theorem Afl(u0:LB)(u1 u2 u3:Int)(u4:LB)(u5 u6:Int)(u7:LL)(K:KK)(h:
 (Call E0.P R3 [.ptr Ae 0] [(Ae, .blk Ac [As u0,Ai u1, .own Ar]),(Ar, .arr (Aj+2) true 1 u7)] fun r0 g0=>
 Ag (qP6 g0 r0)
 (K .ret ⟨[(2, .ptr nL2 0),(3,Ai (rI (rT r0 1)))],[(nL2, .blk Ap [Ai (gI (Ad (rT r0 0)) 0),Ai (gI (Ad (rT r0 0)) 1),As (gS (Ad (rT r0 0)) 2),Ai (gI (Ad (rT r0 0)) 3),Ai (gI (Ad (rT r0 0)) 4)]),(Ae, .blk Ac [.imm (.str (rS ((Au g0 Ae).getD 0 AV.undef))), .imm (.int .i64 (rI ((Au g0 Ae).getD 1 AV.undef))), .own Ar]),(Ar, .arr (Aj+2) true 1 (Cn g0 Ar))]⟩))):V7 u0 u1 u2 u3 u4 u5 u6 u7 K:=cR [] h
theorem Agq(s:LB)(at_:Int)(out:LL)(Q:QQ)(t3 u0 u1:Int)(u2:LB)(u3 u4:Int)(u5:LB)(u6:Int)(u7:LL)(h:
 (Q (.tup [.imm (.agg [.int .i64 u0, .int .i64 u1, .str u2, .int .i64 u3, .int .i64 u4]),Ai t3]) [(Ae, .blk Ac [As u5,Ai u6, .own Ar]),(Ar, .arr (Aj+2) true 1 u7)])):Pd s at_ out Q .ret ⟨[(2, .ptr nL2 0),(3,Ai t3)],[(nL2, .blk Ap [Ai u0,Ai u1,As u2,Ai u3,Ai u4]),(Ae, .blk Ac [As u5,Ai u6, .own Ar]),(Ar, .arr (Aj+2) true 1 u7)]⟩:=kq h
theorem Agr(s:LB)(at_:Int)(out:LL)(Q:QQ)(t3 u0 u1:Int)(u2:LB)(u3 u4:Int)(u5:LB)(u6:Int)(u7:LL)(h:
 (Q (.tup [.imm (.agg [.int .i64 u0, .int .i64 u1, .str u2, .int .i64 u3, .int .i64 u4]),Ai t3]) [(Ae, .blk Ac [As u5,Ai u6, .own Ar]),(Ar, .arr (Aj+2) true 1 u7)])):Fs s at_ out Q .ret ⟨[(2, .ptr nL2 0),(3,Ai t3)],[(nL2, .blk Ap [Ai u0,Ai u1,As u2,Ai u3,Ai u4]),(Ae, .blk Ac [As u5,Ai u6, .own Ar]),(Ar, .arr (Aj+2) true 1 u7)]⟩:=kq h
theorem Ags(s:LB)(at_:Int)(out:LL)(Q:QQ)(u0:LB)(u1 u2 u3:Int)(u4:LB)(u5 u6:Int)(u7:LL)(h:
 (V7 u0 u1 u2 u3 u4 u5 u6 u7 (Pd s at_ out Q))):Fs s at_ out Q .normal ⟨[(0, .ptr Ae 0),(2, .ptr nL2 0)],[(Ae, .blk Ac [As u0,Ai u1, .own Ar]),(nL2, .blk Ap [Ai u2,Ai u3,As u4,Ai u5,Ai u6]),(Ar, .arr (Aj+2) true 1 u7)]⟩:=kq h
theorem Amh:Be E0.P 62 Li.code Lm [.cell 2 78, .tmp 3]:=fq Tryz.func62
theorem Ai9(s:LB)(at_:Int)(out:LL)(Q:QQ)(h:
 (Ag ((0:Int)≤at_∧at_<(↑s.length:Int))
 (Br (decide ((↑(s.getD at_.toNat 0).toNat:Int)=(91:Int)))
 (Q (.tup [.imm (.agg [.int .i64 4, .int .i64 0, .str [], .int .i64 0, .int .i64 0]),Ai 0]) [(Ae, .blk Ac [As s,Ai (i64.wrap (at_+(1:Int))), .own Ar]),(Ar, .arr (Aj+2) true 1 out)])
 (Br (decide ((↑(s.getD at_.toNat 0).toNat:Int)=(93:Int)))
 (Q (.tup [.imm (.agg [.int .i64 5, .int .i64 0, .str [], .int .i64 0, .int .i64 0]),Ai 0]) [(Ae, .blk Ac [As s,Ai (i64.wrap (at_+(1:Int))), .own Ar]),(Ar, .arr (Aj+2) true 1 out)])
 (Br (decide ((↑(s.getD at_.toNat 0).toNat:Int)=(47:Int)))
 (Call E0.P Ry [.ptr Ae 0] [(Ae, .blk Ac [As s,Ai at_, .own Ar]),(Ar, .arr (Aj+2) true 1 out)] fun r0 g0=>
 Ag (qP6 g0 r0)
 (Q (.tup [.imm (.agg [.int .i64 (gI (Ad (rT r0 0)) 0), .int .i64 (gI (Ad (rT r0 0)) 1), .str (gS (Ad (rT r0 0)) 2), .int .i64 (gI (Ad (rT r0 0)) 3), .int .i64 (gI (Ad (rT r0 0)) 4)]),Ai (rI (rT r0 1))]) [(Ae, .blk Ac [.imm (.str (rS ((Au g0 Ae).getD 0 AV.undef))), .imm (.int .i64 (rI ((Au g0 Ae).getD 1 AV.undef))), .own Ar]),(Ar, .arr (Aj+2) true 1 (Cn g0 Ar))]))
 (Br (decide ((↑(s.getD at_.toNat 0).toNat:Int)=(40:Int)))
 (Call E0.P Rz [.ptr Ae 0] [(Ae, .blk Ac [As s,Ai at_, .own Ar]),(Ar, .arr (Aj+2) true 1 out)] fun r1 g1=>
 Ag (qP6 g1 r1)
 (Q (.tup [.imm (.agg [.int .i64 (gI (Ad (rT r1 0)) 0), .int .i64 (gI (Ad (rT r1 0)) 1), .str (gS (Ad (rT r1 0)) 2), .int .i64 (gI (Ad (rT r1 0)) 3), .int .i64 (gI (Ad (rT r1 0)) 4)]),Ai (rI (rT r1 1))]) [(Ae, .blk Ac [.imm (.str (rS ((Au g1 Ae).getD 0 AV.undef))), .imm (.int .i64 (rI ((Au g1 Ae).getD 1 AV.undef))), .own Ar]),(Ar, .arr (Aj+2) true 1 (Cn g1 Ar))]))
 (Br (decide ((↑(s.getD at_.toNat 0).toNat:Int)=(60:Int)))
 (Ag (decide (i64.wrap (at_+(1:Int))<(↑s.length:Int))=true→
 (0:Int)≤i64.wrap (at_+(1:Int))∧i64.wrap (at_+(1:Int))<(↑s.length:Int))
 (Ag (decide (i64.wrap (at_+(1:Int))<(↑s.length:Int))=true→(0:Int)≤at_∧at_<(↑s.length:Int))
 (Let (bif decide (i64.wrap (at_+(1:Int))<(↑s.length:Int))then
 decide
 ((↑(s.getD (i64.wrap (at_+(1:Int))).toNat 0).toNat:Int)=
 (↑(s.getD at_.toNat 0).toNat:Int))
 else false) fun x2=>
 Br (x2)
 (Q (.tup [.imm (.agg [.int .i64 6, .int .i64 0, .str [], .int .i64 0, .int .i64 0]),Ai 0]) [(Ae, .blk Ac [As s,Ai (i64.wrap (at_+(2:Int))), .own Ar]),(Ar, .arr (Aj+2) true 1 out)])
 (Call E0.P Ua [.ptr Ae 0] [(Ae, .blk Ac [As s,Ai at_, .own Ar]),(Ar, .arr (Aj+2) true 1 out)] fun r3 g3=>
 Ag (qP6 g3 r3)
 (Q (.tup [.imm (.agg [.int .i64 (gI (Ad (rT r3 0)) 0), .int .i64 (gI (Ad (rT r3 0)) 1), .str (gS (Ad (rT r3 0)) 2), .int .i64 (gI (Ad (rT r3 0)) 3), .int .i64 (gI (Ad (rT r3 0)) 4)]),Ai (rI (rT r3 1))]) [(Ae, .blk Ac [.imm (.str (rS ((Au g3 Ae).getD 0 AV.undef))), .imm (.int .i64 (rI ((Au g3 Ae).getD 1 AV.undef))), .own Ar]),(Ar, .arr (Aj+2) true 1 (Cn g3 Ar))])))))
 (Br (decide ((↑(s.getD at_.toNat 0).toNat:Int)=(62:Int)))
 (Ag (decide (i64.wrap (at_+(1:Int))<(↑s.length:Int))=true→
 (0:Int)≤i64.wrap (at_+(1:Int))∧i64.wrap (at_+(1:Int))<(↑s.length:Int))
 (Ag (decide (i64.wrap (at_+(1:Int))<(↑s.length:Int))=true→(0:Int)≤at_∧at_<(↑s.length:Int))
 (Let (bif decide (i64.wrap (at_+(1:Int))<(↑s.length:Int))then
 decide
 ((↑(s.getD (i64.wrap (at_+(1:Int))).toNat 0).toNat:Int)=
 (↑(s.getD at_.toNat 0).toNat:Int))
 else false) fun x4=>
 Br (x4)
 (Q (.tup [.imm (.agg [.int .i64 7, .int .i64 0, .str [], .int .i64 0, .int .i64 0]),Ai 0]) [(Ae, .blk Ac [As s,Ai (i64.wrap (at_+(2:Int))), .own Ar]),(Ar, .arr (Aj+2) true 1 out)])
 (Q (.tup [.imm (.agg [.int .i64 0, .int .i64 0, .str [], .int .i64 0, .int .i64 0]),Ai 4]) [(Ae, .blk Ac [As s,Ai at_, .own Ar]),(Ar, .arr (Aj+2) true 1 out)]))))
 (Br (decide ((↑(s.getD at_.toNat 0).toNat:Int)=(41:Int)))
 (G6 (decide ((↑(s.getD at_.toNat 0).toNat:Int)=(41:Int))) s at_ ((0:Int)) ((0:Int)) [] ((0:Int)) ((0:Int)) out (Fs s at_ out Q))
 (Br (decide ((↑(s.getD at_.toNat 0).toNat:Int)=(123:Int)))
 (G6 (decide ((↑(s.getD at_.toNat 0).toNat:Int)=(123:Int))) s at_ ((0:Int)) ((0:Int)) [] ((0:Int)) ((0:Int)) out (Fs s at_ out Q))
 (G6 (decide ((↑(s.getD at_.toNat 0).toNat:Int)=(125:Int))) s at_ ((0:Int)) ((0:Int)) [] ((0:Int)) ((0:Int)) out (Fs s at_ out Q)))))))))))):Call E0.P Qq [.ptr (.arg 0) 0] [(.arg 0, .blk Ac [.imm (.str s), .imm (.int .i64 at_), .own (.arg 1)]),(.arg 1, .arr (Aj+2) true 1 out)] Q:=fR 0 Amh h
noncomputable def Acn:AC:=(A8 [(7,[0,4],[])] [2,3] (codeOf Tryz.f153) 0).1
abbrev Adf:Nat:=52
def L6(u0:LB)(u1 u2:Int)(u3:LB)(u4:Int)(K:KK):Prop:=Aq 7 E0.P Adf (Am 7 Acn).code ⟨[(0, .ptr Ae 0),(4, .ptr nL4 0)],[(Ae, .blk Ao [As u0,Ai u1,Ai u2]),(nL4, .blk A04 [As u3,Ai u4])]⟩ K
def Ma(s:LB)(at_ win:Int)(Q:QQ):KK:=kE fun st=>finish 0 E0.T [.tmp 2, .tmp 3] [(Ae, .blk Ao [As s,Ai at_,Ai win])] Q st
theorem Ai2(u0:LB)(u1 u2:Int)(u3:LB)(u4:Int)(K:KK)(h:
 (K .ret ⟨[(2,Ai 0),(3,Ab false)],[(Ae, .blk Ao [As u3,Ai u4,Ai u2])]⟩)):L6 u0 u1 u2 u3 u4 K:=cR [] h
theorem Aje(s:LB)(at_ win:Int)(Q:QQ)(t2:Int)(t3:Bool)(u0:LB)(u1 u2:Int)(h:
 (Q (.tup [Ai t2,Ab t3]) [(Ae, .blk Ao [As u0,Ai u1,Ai u2])])):Ma s at_ win Q .ret ⟨[(2,Ai t2),(3,Ab t3)],[(Ae, .blk Ao [As u0,Ai u1,Ai u2])]⟩:=kq h
theorem Apu:Be E0.P 153 Acn.code Adf [.tmp 2, .tmp 3]:=fq Tryz.func153
theorem Zf(s:LB)(at_ win:Int)(Q:QQ)(h:
 (Call E0.P F5 [.ptr Ae 0] [(Ae, .blk Ao [As s,Ai at_,Ai win])] fun r0 g0=>
 Ag (qP4 g0 r0)
 (Let (bif decide (rI (rT r0 1)=(0:Int))then decide (gI (Ad (rT r0 0)) 0=(1:Int))
 else false) fun x1=>
 Br (x1)
 (Call E0.P F5 [.ptr Ae 0] [(Ae, .blk Ao [.imm (.str (rS ((Au g0 Ae).getD 0 AV.undef))), .imm (.int .i64 (rI ((Au g0 Ae).getD 1 AV.undef))), .imm (.int .i64 (rI ((Au g0 Ae).getD 2 AV.undef)))])] fun r2 g2=>
 Ag (qP4 g2 r2)
 (Let (bif decide (rI (rT r2 1)=(0:Int))then decide (gI (Ad (rT r2 0)) 0=(8:Int))
 else false) fun x3=>
 Let (bif x3 then gS (Ad (rT r2 0)) 2 == [(82:UInt8)]else false) fun x4=>
 Br (x4)
 (Q (.tup [Ai (gI (Ad (rT r0 0)) 1),Ab true]) [(Ae, .blk Ao [.imm (.str (rS ((Au g2 Ae).getD 0 AV.undef))), .imm (.int .i64 (rI ((Au g2 Ae).getD 1 AV.undef))), .imm (.int .i64 (rI ((Au g2 Ae).getD 2 AV.undef)))])])
 (L6 (rS ((Au g2 Ae).getD 0 AV.undef)) (rI ((Au g2 Ae).getD 1 AV.undef)) (rI ((Au g2 Ae).getD 2 AV.undef)) s at_ (Ma s at_ win Q))))
 (L6 (rS ((Au g0 Ae).getD 0 AV.undef)) (rI ((Au g0 Ae).getD 1 AV.undef)) (rI ((Au g0 Ae).getD 2 AV.undef)) s at_ (Ma s at_ win Q))))):Call E0.P M8 [.ptr (.arg 0) 0] [(.arg 0, .blk Ao [.imm (.str s), .imm (.int .i64 at_), .imm (.int .i64 win)])] Q:=fR 0 Apu h
noncomputable def Ark:AC:=(A8 [] [4,5,6] (codeOf Tryz.f154) 0).1
abbrev Arm:Nat:=45
theorem Aro:Be E0.P 154 Ark.code Arm [.tmp 4, .tmp 5, .tmp 6]:=fq Tryz.func154
theorem Amz(s:LB)(at_ win:Int)(m:List (List UInt8 × Int))(Q:QQ)(h:
 (Call E0.P F5 [.ptr Ae 0] [(Ae, .blk Ao [As s,Ai at_,Ai win])] fun r0 g0=>
 Ag (qP4 g0 r0)
 (Br (!decide (rI (rT r0 1)=(0:Int)))
 (Q (.tup [.imm (.str []),Ab false,Ai (rI (rT r0 1))]) [(Ae, .blk Ao [.imm (.str (rS ((Au g0 Ae).getD 0 AV.undef))), .imm (.int .i64 (rI ((Au g0 Ae).getD 1 AV.undef))), .imm (.int .i64 (rI ((Au g0 Ae).getD 2 AV.undef)))]),(Ar, .map m)])
 (Br (decide (gI (Ad (rT r0 0)) 0=(0:Int)))
 (Q (.tup [.imm (.str []),Ab false,Ai 5]) [(Ae, .blk Ao [.imm (.str (rS ((Au g0 Ae).getD 0 AV.undef))), .imm (.int .i64 (rI ((Au g0 Ae).getD 1 AV.undef))), .imm (.int .i64 (rI ((Au g0 Ae).getD 2 AV.undef)))]),(Ar, .map m)])
 (Br (decide (gI (Ad (rT r0 0)) 0=(7:Int)))
 (Q (.tup [.imm (.str []),Ab false,Ai 0]) [(Ae, .blk Ao [.imm (.str (rS ((Au g0 Ae).getD 0 AV.undef))), .imm (.int .i64 (rI ((Au g0 Ae).getD 1 AV.undef))), .imm (.int .i64 (rI ((Au g0 Ae).getD 2 AV.undef)))]),(Ar, .map m)])
 (Br (!decide (gI (Ad (rT r0 0)) 0=(2:Int)))
 (Q (.tup [.imm (.str []),Ab false,Ai 4]) [(Ae, .blk Ao [.imm (.str (rS ((Au g0 Ae).getD 0 AV.undef))), .imm (.int .i64 (rI ((Au g0 Ae).getD 1 AV.undef))), .imm (.int .i64 (rI ((Au g0 Ae).getD 2 AV.undef)))]),(Ar, .map m)])
 (Br (decide ((0:Int)<Cx m (gS (Ad (rT r0 0)) 2)))
 (Q (.tup [.imm (.str []),Ab false,Ai 11]) [(Ae, .blk Ao [.imm (.str (rS ((Au g0 Ae).getD 0 AV.undef))), .imm (.int .i64 (rI ((Au g0 Ae).getD 1 AV.undef))), .imm (.int .i64 (rI ((Au g0 Ae).getD 2 AV.undef)))]),(Ar, .map m)])
 (Q (.tup [As (gS (Ad (rT r0 0)) 2),Ab true,Ai 0]) [(Ae, .blk Ao [.imm (.str (rS ((Au g0 Ae).getD 0 AV.undef))), .imm (.int .i64 (rI ((Au g0 Ae).getD 1 AV.undef))), .imm (.int .i64 (rI ((Au g0 Ae).getD 2 AV.undef)))]),(Ar, .map (Yi m (gS (Ad (rT r0 0)) 2)
 (i64.wrap (Cx m (gS (Ad (rT r0 0)) 2)+(1:Int)))))])))))))):Call E0.P U5 [.ptr (.arg 0) 0, .mp (.arg 1)] [(.arg 0, .blk Ao [.imm (.str s), .imm (.int .i64 at_), .imm (.int .i64 win)]),(.arg 1, .map m)] Q:=fR 0 Aro h
noncomputable def Dn:AC:=(A8 [(1,[0,1,2,7],[]),(7,[0,1,2,7],[]),(9,[7],[]),(12,[0,1,2,7,22,23,24],[]),(14,[7],[]),(18,[0,1,2,7],[]),(20,[7],[0,1,2,7]),(21,[7],[]),(22,[0,1,2,7],[0,1,2,7]),(23,[7],[])] [6] (codeOf Tryz.f89) 0).1
abbrev Dq:Nat:=38
def Xo(t0:LB)(t1:Int)(t2r:LL)(t7:Int)(K:KK):Prop:=Bc 7 E0.P Dq (A9 7 Dn).code ⟨[(0,As t0),(1,Ai t1),(2,Al 1 t2r),(7,Ai t7)],[]⟩ K
def Acg(t0:LB)(t1:Int)(t2r:LL)(t7:Int)(t22r:LL)(t23 t24:Int)(K:KK):Prop:=Bc 12 E0.P Dq (A9 12 Dn).code ⟨[(0,As t0),(1,Ai t1),(2,Al 1 t2r),(7,Ai t7),(22,Al 1 t22r),(23,Ai t23),(24,Ai t24)],[]⟩ K
def Ak2(t7:Int)(K:KK):Prop:=Aq 23 E0.P Dq (Am 23 Dn).code ⟨[(7,Ai t7)],[]⟩ K
def Ak1(t0:LB)(t1:Int)(t2r:LL)(t7:Int)(K:KK):Prop:=Aq 22 E0.P Dq (Am 22 Dn).code ⟨[(0,As t0),(1,Ai t1),(2,Al 1 t2r),(7,Ai t7)],[]⟩ K
def Ak0(t7:Int)(K:KK):Prop:=Aq 20 E0.P Dq (Am 20 Dn).code ⟨[(7,Ai t7)],[]⟩ K
def Am6(Q:QQ):KK:=kE fun st=>finish 0 E0.T [.tmp 6] [] Q st
def Xi(Q:QQ):Ex→St→Prop
 | .normal,st=>finish 0 E0.T [.tmp 6] [] Q st
 | .exit _,_=>False
 | .goto i,st=>I4 1 E0.P Dq i (J4 1 Dn).code (mask [0,1,2,7] st) (Am6 Q)
 | .ret,st=>finish 0 E0.T [.tmp 6] [] Q st
def Ad4(Q:QQ):Ex→St→Prop
 | .normal,st=>Aq 23 E0.P Dq (Am 23 Dn).code (mask [7] st) (Xi Q)
 | .exit i,st=>(match (i.beq 0:Bool)with
 |true=>Aq 23 E0.P Dq (Am 23 Dn).code (mask [7] st) (Xi Q)
 |false=>False)
 | .goto i,st=>I4 1 E0.P Dq i (J4 1 Dn).code (mask [0,1,2,7] st) (Am6 Q)
 | .ret,st=>finish 0 E0.T [.tmp 6] [] Q st
def Xj(K:KK):Ex→St→Prop
 | .normal,st=>Bc 7 E0.P Dq (A9 7 Dn).code (mask [0,1,2,7] st) K
 | .exit i,st=>K (.exit i) st
 | .goto i,st=>K (.goto i) st
 | .ret,st=>K .ret st
def Xk(K:KK):KK:=kC 1 (fun st=>Aq 22 E0.P Dq (Am 22 Dn).code (mask [0,1,2,7] st) (Xj K)) K
def Ad5(K:KK):Ex→St→Prop
 | .normal,st=>Aq 20 E0.P Dq (Am 20 Dn).code (mask [7] st) (Xk K)
 | .exit i,st=>(match (i.beq 2:Bool)with
 |true=>Aq 20 E0.P Dq (Am 20 Dn).code (mask [7] st) (Xk K)
 |false=>(match (i.beq 1:Bool)with
 |true=>Aq 22 E0.P Dq (Am 22 Dn).code (mask [0,1,2,7] st) (Xj K)
 |false=>K (.exit i) st))
 | .goto i,st=>K (.goto i) st
 | .ret,st=>K .ret st
theorem Ahf(t0:LB)(t1:Int)(t2r:LL)(t7:Int)(K:KK)(h:
 (Br (decide (t7<i64.wrap ((↑t0.length:Int) - t1)))
 (Acg t0 t1 t2r t7 t2r ((↑t2r.length:Int)) ((0:Int)) (Ad5 K))
 (K (.exit 0) ⟨[(7,Ai t7)],[]⟩))):Xo t0 t1 t2r t7 K:=lR [0,1,2,7] h
theorem Afs(t0:LB)(t1:Int)(t2r:LL)(t7:Int)(t22r:LL)(t23 t24:Int)(K:KK)(h:
 (Br (decide (t24<t23))
 (Ag (((0:Int)≤t24∧t24<(↑t22r.length:Int))∧Bg [.int .i64] (t22r.getD t24.toNat [])=true)
 (Ag ((0:Int)≤i64.wrap (t1+t7)∧i64.wrap (t1+t7)<(↑t0.length:Int))
 (Call E0.P Ms [.imm (.int .u8 ((↑(t0.getD (i64.wrap (t1+t7)).toNat 0).toNat:Int)))] [] fun r0 g0=>
 Ag (qP5 g0 r0)
 (Br (decide (rI r0=gI (t22r.getD t24.toNat []) 0))
 (K (.exit (1)) ⟨[(0,As t0),(1,Ai t1),(2,Al 1 t2r),(7,Ai t7)],[]⟩)
 (Acg t0 t1 t2r t7 t22r t23 (i64.wrap (t24+(1:Int))) K)))))
 (K (.exit (2)) ⟨[(7,Ai t7)],[]⟩))):Acg t0 t1 t2r t7 t22r t23 t24 K:=lR [0,1,2,7,22,23,24] h
theorem Afh(t7:Int)(K:KK)(h:
 (K .ret ⟨[(6,Ai t7)],[]⟩)):Ak2 t7 K:=cR [] h
theorem Art(t0:LB)(t1:Int)(t2r:LL)(t7:Int)(K:KK)(h:
 (K .normal ⟨[(0,As t0),(1,Ai t1),(2,Al 1 t2r),(7,Ai (i64.wrap (t7+(1:Int))))],[]⟩)):Ak1 t0 t1 t2r t7 K:=cR [0,1,2,7] h
theorem Ars(t7:Int)(K:KK)(h:
 (K (.exit 0) ⟨[(7,Ai t7)],[]⟩)):Ak0 t7 K:=cR [0,1,2,7] h
theorem Ahb(Q:QQ)(t6:Int)(h:
 (Q (Ai t6) [])):Xi Q .ret ⟨[(6,Ai t6)],[]⟩:=kq h
theorem Ahc(Q:QQ)(t7:Int)(h:
 (Ak2 t7 (Xi Q))):Ad4 Q (.exit 0) ⟨[(7,Ai t7)],[]⟩:=kq h
theorem Avm(K:KK)(t0:LB)(t1:Int)(t2r:LL)(t7:Int)(h:
 (Xo t0 t1 t2r t7 K)):Xj K .normal ⟨[(0,As t0),(1,Ai t1),(2,Al 1 t2r),(7,Ai t7)],[]⟩:=kq h
theorem Avn(K:KK)(t7:Int)(h:
 (K (.exit 0) ⟨[(7,Ai t7)],[]⟩)):Xk K (.exit 0) ⟨[(7,Ai t7)],[]⟩:=kq h
theorem Avo(K:KK)(t0:LB)(t1:Int)(t2r:LL)(t7:Int)(h:
 (Ak1 t0 t1 t2r t7 (Xj K))):Ad5 K (.exit (1)) ⟨[(0,As t0),(1,Ai t1),(2,Al 1 t2r),(7,Ai t7)],[]⟩:=kq h
theorem Avp(K:KK)(t7:Int)(h:
 (Ak0 t7 (Xk K))):Ad5 K (.exit (2)) ⟨[(7,Ai t7)],[]⟩:=kq h
theorem A5d:Be E0.P 89 Dn.code Dq [.tmp 6]:=fq Tryz.func89
theorem Ay1(a0:LB)(a1:Int)(a2:LL)(Q:QQ)(h:
 (Call E0.P Vs [As a0,Ai a1] [] fun r0 g0=>
 Ag (qP8 g0 r0)
 (Br (!rB r0)
 (Q (Ai 0) [])
 (Xo a0 a1 a2 ((0:Int)) (Ad4 Q))))):Call E0.P Ur [As a0,Ai a1,Al 1 a2] [] Q:=fR 0 A5d h
noncomputable def A4w:AC:=(A8 [] [4] (codeOf Tryz.f90) 0).1
abbrev A44:Nat:=33
theorem A5b:Be E0.P 90 A4w.code A44 [.tmp 4]:=fq Tryz.func90
theorem Ayz(a0:LB)(a1:Int)(Q:QQ)(h:
 (Call E0.P Vs [As a0,Ai a1] [] fun r0 g0=>
 Ag (qP8 g0 r0)
 (Br (!rB r0)
 (Q (Ai 0) [])
 (Ag ((0:Int)≤a1∧a1<(↑a0.length:Int))
 (Br (decide ((↑(a0.getD a1.toNat 0).toNat:Int)=(10:Int)))
 (Q (Ai 1) [])
 (Ag ((0:Int)≤a1∧a1<(↑a0.length:Int))
 (Br (!decide ((↑(a0.getD a1.toNat 0).toNat:Int)=(13:Int)))
 (Q (Ai 0) [])
 (Ag (decide (i64.wrap (a1+(1:Int))<(↑a0.length:Int))=true→
 (0:Int)≤i64.wrap (a1+(1:Int))∧i64.wrap (a1+(1:Int))<(↑a0.length:Int))
 (Let (bif decide (i64.wrap (a1+(1:Int))<(↑a0.length:Int))then
 decide ((↑(a0.getD (i64.wrap (a1+(1:Int))).toNat 0).toNat:Int)=(10:Int))
 else false) fun x1=>
 Br (x1)
 (Q (Ai 2) [])
 (Q (Ai 1) [])))))))))):Call E0.P Ph [As a0,Ai a1] [] Q:=fR 0 A5b h
noncomputable def De:AC:=(A8 [(3,[0,2,4,5],[]),(5,[0,2],[]),(6,[0,2,4],[0,2,4,5]),(12,[0,2,4],[0,2]),(16,[0,2],[0,2,4,5]),(17,[0,2],[])] [2,3] (codeOf Tryz.f92) 0).1
abbrev Di:Nat:=71
def Et(t4:Int)(t5:Bool)(u0:LB)(u1 u2 u3:Int)(u4:LB)(u5 u6:Int)(u7:LL)(K:KK):Prop:=Bc 3 E0.P Di (A9 3 De).code ⟨[(0, .ptr Ae 0),(2, .ptr nL2 0),(4, .imm (.int .u8 t4)),(5,Ab t5)],[(Ae, .blk Ac [As u0,Ai u1, .own Ar]),(nL2, .blk Ap [Ai u2,Ai u3,As u4,Ai u5,Ai u6]),(Ar, .arr (Aj+2) true 1 u7)]⟩ K
def Ql(t4:Int)(u0:LB)(u1 u2 u3:Int)(u4:LB)(u5 u6:Int)(u7:LL)(K:KK):Prop:=Aq 6 E0.P Di (Am 6 De).code ⟨[(0, .ptr Ae 0),(2, .ptr nL2 0),(4, .imm (.int .u8 t4))],[(Ae, .blk Ac [As u0,Ai u1, .own Ar]),(nL2, .blk Ap [Ai u2,Ai u3,As u4,Ai u5,Ai u6]),(Ar, .arr (Aj+2) true 1 u7)]⟩ K
def Km(t4:Int)(u0:LB)(u1 u2 u3:Int)(u4:LB)(u5 u6:Int)(u7:LL)(K:KK):Prop:=Aq 12 E0.P Di (Am 12 De).code ⟨[(0, .ptr Ae 0),(2, .ptr nL2 0),(4, .imm (.int .u8 t4))],[(Ae, .blk Ac [As u0,Ai u1, .own Ar]),(nL2, .blk Ap [Ai u2,Ai u3,As u4,Ai u5,Ai u6]),(Ar, .arr (Aj+2) true 1 u7)]⟩ K
def Ya(u0:LB)(u1 u2 u3:Int)(u4:LB)(u5 u6:Int)(u7:LL)(K:KK):Prop:=Aq 17 E0.P Di (Am 17 De).code ⟨[(0, .ptr Ae 0),(2, .ptr nL2 0)],[(Ae, .blk Ac [As u0,Ai u1, .own Ar]),(nL2, .blk Ap [Ai u2,Ai u3,As u4,Ai u5,Ai u6]),(Ar, .arr (Aj+2) true 1 u7)]⟩ K
def O9(u0:LB)(u1 u2 u3:Int)(u4:LB)(u5 u6:Int)(u7:LL)(K:KK):Prop:=Aq 16 E0.P Di (Am 16 De).code ⟨[(0, .ptr Ae 0),(2, .ptr nL2 0)],[(Ae, .blk Ac [As u0,Ai u1, .own Ar]),(nL2, .blk Ap [Ai u2,Ai u3,As u4,Ai u5,Ai u6]),(Ar, .arr (Aj+2) true 1 u7)]⟩ K
def Qm(s:LB)(at_:Int)(out:LL)(Q:QQ):KK:=kE fun st=>finish 0 E0.T [.cell 2 78, .tmp 3] [(Ae, .blk Ac [As s,Ai at_, .own Ar]),(Ar, .arr (Aj+2) true 1 out)] Q st
def Cz(s:LB)(at_:Int)(out:LL)(Q:QQ):KK:=kF 0 (fun st=>Aq 17 E0.P Di (Am 17 De).code (mask [0,2] st) (Qm s at_ out Q)) fun st=>finish 0 E0.T [.cell 2 78, .tmp 3] [(Ae, .blk Ac [As s,Ai at_, .own Ar]),(Ar, .arr (Aj+2) true 1 out)] Q st
def Gh(K:KK):Ex→St→Prop
 | .normal,st=>Bc 3 E0.P Di (A9 3 De).code (mask [0,2,4,5] st) K
 | .exit i,st=>K (.exit i) st
 | .goto i,st=>K (.goto i) st
 | .ret,st=>K .ret st
def Lf(K:KK):KK:=kP [0,2,4,5] K
def Ih(K:KK):KK:=kC 1 (fun st=>Aq 16 E0.P Di (Am 16 De).code (mask [0,2] st) (Lf K)) K
theorem Vm(t4:Int)(t5:Bool)(u0:LB)(u1 u2 u3:Int)(u4:LB)(u5 u6:Int)(u7:LL)(K:KK)(h:
 (Br (t5 == true)
 (Call E0.P Ms [.imm (.int .u8 t4)] [] fun r0 g0=>
 Ag (qP5 g0 r0)
 (Let (decide (rI r0=(2:Int))) fun x1=>
 Br (x1)
 (Ql t4 u0 u1 u2 u3 u4 u5 u6 u7 (Gh K))
 (K (.exit 0) ⟨[(0, .ptr Ae 0),(2, .ptr nL2 0)],[(Ae, .blk Ac [As u0,Ai u1, .own Ar]),(nL2, .blk Ap [Ai u2,Ai u3,As u4,Ai u5,Ai u6]),(Ar, .arr (Aj+2) true 1 u7)]⟩)))
 (Ag ((!true)=false)
 (Let (false) fun x2=>
 Br (x2)
 (Ql t4 u0 u1 u2 u3 u4 u5 u6 u7 (Gh K))
 (K (.exit 0) ⟨[(0, .ptr Ae 0),(2, .ptr nL2 0)],[(Ae, .blk Ac [As u0,Ai u1, .own Ar]),(nL2, .blk Ap [Ai u2,Ai u3,As u4,Ai u5,Ai u6]),(Ar, .arr (Aj+2) true 1 u7)]⟩))))):Et t4 t5 u0 u1 u2 u3 u4 u5 u6 u7 K:=lR [0,2,4,5] h
theorem Ahr(t4:Int)(u0:LB)(u1 u2 u3:Int)(u4:LB)(u5 u6:Int)(u7:LL)(K:KK)(h:
 (Br (decide (t4=(35:Int)))
 (Call E0.P Hg [.ptr Ae 0] [(Ae, .blk Ac [As u0,Ai (i64.wrap (u1+(1:Int))), .own Ar]),(Ar, .arr (Aj+2) true 1 u7)] fun r0 g0=>
 Ag (g0=
 [(Nm.arg 0,
 Entry.blk 101
 [.imm (.str (rS ((Au g0 Ae).getD 0 AV.undef))),
 .imm (.int .i64 (rI ((Au g0 Ae).getD 1 AV.undef))),
 AV.own Ar]),
 (Nm.arg 1,Entry.arr 7 true 1 (Cn g0 Ar))]∧
 r0= .tup [.imm (.int .u8 (rI (rT r0 0))), .imm (.bool (rB (rT r0 1)))])
 (Br (!rB (rT r0 1))
 (K .ret ⟨[(2, .ptr nL2 0),(3,Ai 4)],[(nL2, .blk Ap [Ai 0,Ai 0, .imm (.str []),Ai 0,Ai 0]),(Ae, .blk Ac [.imm (.str (rS ((Au g0 Ae).getD 0 AV.undef))), .imm (.int .i64 (rI ((Au g0 Ae).getD 1 AV.undef))), .own Ar]),(Ar, .arr (Aj+2) true 1 (Cn g0 Ar))]⟩)
 (Km (rI (rT r0 0)) (rS ((Au g0 Ae).getD 0 AV.undef)) (rI ((Au g0 Ae).getD 1 AV.undef)) u2 u3 u4 u5 u6 (Cn g0 Ar) (Ih K))))
 (Km t4 u0 (i64.wrap (u1+(1:Int))) u2 u3 u4 u5 u6 u7 (Ih K)))):Ql t4 u0 u1 u2 u3 u4 u5 u6 u7 K:=cR [0,2,4,5] h
theorem Aga(t4:Int)(u0:LB)(u1 u2 u3:Int)(u4:LB)(u5 u6:Int)(u7:LL)(K:KK)(h:
 (Ag ((u7.length+1)*1≤140737488355328∧u7.length+1≤140737488355328)
 (Br (decide ((127:Int)<(↑(u7++[[IV.int .u8 t4]]).length:Int)))
 (K .ret ⟨[(2, .ptr nL2 0),(3,Ai 8)],[(nL2, .blk Ap [Ai 0,Ai 0, .imm (.str []),Ai 0,Ai 0]),(Ae, .blk Ac [As u0,Ai u1, .own Ar]),(Ar, .arr (Aj+2) true 1 (u7++[[IV.int .u8 t4]]))]⟩)
 (K .normal ⟨[(0, .ptr Ae 0),(2, .ptr nL2 0)],[(Ae, .blk Ac [As u0,Ai u1, .own Ar]),(nL2, .blk Ap [Ai u2,Ai u3,As u4,Ai u5,Ai u6]),(Ar, .arr (Aj+2) true 1 (u7++[[IV.int .u8 t4]]))]⟩)))):Km t4 u0 u1 u2 u3 u4 u5 u6 u7 K:=cR [0,2] h
theorem Agc(u0:LB)(u1 u2 u3:Int)(u4:LB)(u5 u6:Int)(u7:LL)(K:KK)(h:
 (Ag (∀(r:List IV),r∈u7→Bg [.int .u8] r=true)
 (K .ret ⟨[(2, .ptr nL2 0),(3,Ai 0)],[(nL2, .blk Ap [Ai 2,Ai 0,As (List.map (fun r=>UInt8.ofNat (gI r 0).toNat) u7),Ai 0,Ai 0]),(Ae, .blk Ac [As u0,Ai u1, .own Ar]),(Ar, .arr (Aj+2) true 1 u7)]⟩))):Ya u0 u1 u2 u3 u4 u5 u6 u7 K:=cR [] h
theorem Agb(u0:LB)(u1 u2 u3:Int)(u4:LB)(u5 u6:Int)(u7:LL)(K:KK)(h:
 (Br (decide ((↑u0.length:Int)≤u1))
 (K .normal ⟨[(0, .ptr Ae 0),(2, .ptr nL2 0),(4, .imm (.int .u8 ((0:Int)))),(5,Ab false)],[(Ae, .blk Ac [As u0,Ai u1, .own Ar]),(nL2, .blk Ap [Ai u2,Ai u3,As u4,Ai u5,Ai u6]),(Ar, .arr (Aj+2) true 1 u7)]⟩)
 (Ag ((0:Int)≤u1∧u1<(↑u0.length:Int))
 (K .normal ⟨[(0, .ptr Ae 0),(2, .ptr nL2 0),(4, .imm (.int .u8 ((↑(u0.getD u1.toNat 0).toNat:Int)))),(5,Ab true)],[(Ae, .blk Ac [As u0,Ai u1, .own Ar]),(nL2, .blk Ap [Ai u2,Ai u3,As u4,Ai u5,Ai u6]),(Ar, .arr (Aj+2) true 1 u7)]⟩)))):O9 u0 u1 u2 u3 u4 u5 u6 u7 K:=cR [0,2,4,5] h
theorem Aht(s:LB)(at_:Int)(out:LL)(Q:QQ)(t3 u0 u1:Int)(u2:LB)(u3 u4:Int)(u5:LB)(u6:Int)(u7:LL)(h:
 (Q (.tup [.imm (.agg [.int .i64 u0, .int .i64 u1, .str u2, .int .i64 u3, .int .i64 u4]),Ai t3]) [(Ae, .blk Ac [As u5,Ai u6, .own Ar]),(Ar, .arr (Aj+2) true 1 u7)])):Qm s at_ out Q .ret ⟨[(2, .ptr nL2 0),(3,Ai t3)],[(nL2, .blk Ap [Ai u0,Ai u1,As u2,Ai u3,Ai u4]),(Ae, .blk Ac [As u5,Ai u6, .own Ar]),(Ar, .arr (Aj+2) true 1 u7)]⟩:=kq h
theorem Ahu(s:LB)(at_:Int)(out:LL)(Q:QQ)(u0:LB)(u1 u2 u3:Int)(u4:LB)(u5 u6:Int)(u7:LL)(h:
 (Ya u0 u1 u2 u3 u4 u5 u6 u7 (Qm s at_ out Q))):Cz s at_ out Q (.exit 0) ⟨[(0, .ptr Ae 0),(2, .ptr nL2 0)],[(Ae, .blk Ac [As u0,Ai u1, .own Ar]),(nL2, .blk Ap [Ai u2,Ai u3,As u4,Ai u5,Ai u6]),(Ar, .arr (Aj+2) true 1 u7)]⟩:=kq h
theorem Ahv(s:LB)(at_:Int)(out:LL)(Q:QQ)(t3 u0 u1:Int)(u2:LB)(u3 u4:Int)(u5:LB)(u6:Int)(u7:LL)(h:
 (Q (.tup [.imm (.agg [.int .i64 u0, .int .i64 u1, .str u2, .int .i64 u3, .int .i64 u4]),Ai t3]) [(Ae, .blk Ac [As u5,Ai u6, .own Ar]),(Ar, .arr (Aj+2) true 1 u7)])):Cz s at_ out Q .ret ⟨[(2, .ptr nL2 0),(3,Ai t3)],[(nL2, .blk Ap [Ai u0,Ai u1,As u2,Ai u3,Ai u4]),(Ae, .blk Ac [As u5,Ai u6, .own Ar]),(Ar, .arr (Aj+2) true 1 u7)]⟩:=kq h
theorem M4(K:KK)(t3 u0 u1:Int)(u2:LB)(u3 u4:Int)(u5:LB)(u6:Int)(u7:LL)(h:
 (K .ret ⟨[(2, .ptr nL2 0),(3,Ai t3)],[(nL2, .blk Ap [Ai u0,Ai u1,As u2,Ai u3,Ai u4]),(Ae, .blk Ac [As u5,Ai u6, .own Ar]),(Ar, .arr (Aj+2) true 1 u7)]⟩)):Gh K .ret ⟨[(2, .ptr nL2 0),(3,Ai t3)],[(nL2, .blk Ap [Ai u0,Ai u1,As u2,Ai u3,Ai u4]),(Ae, .blk Ac [As u5,Ai u6, .own Ar]),(Ar, .arr (Aj+2) true 1 u7)]⟩:=kq h
theorem Vh(K:KK)(t4:Int)(t5:Bool)(u0:LB)(u1 u2 u3:Int)(u4:LB)(u5 u6:Int)(u7:LL)(h:
 (Et t4 t5 u0 u1 u2 u3 u4 u5 u6 u7 K)):Gh K .normal ⟨[(0, .ptr Ae 0),(2, .ptr nL2 0),(4, .imm (.int .u8 t4)),(5,Ab t5)],[(Ae, .blk Ac [As u0,Ai u1, .own Ar]),(nL2, .blk Ap [Ai u2,Ai u3,As u4,Ai u5,Ai u6]),(Ar, .arr (Aj+2) true 1 u7)]⟩:=kq h
theorem Vi(K:KK)(t4:Int)(t5:Bool)(u0:LB)(u1 u2 u3:Int)(u4:LB)(u5 u6:Int)(u7:LL)(h:
 (K .normal ⟨[(0, .ptr Ae 0),(2, .ptr nL2 0),(4, .imm (.int .u8 t4)),(5,Ab t5)],[(Ae, .blk Ac [As u0,Ai u1, .own Ar]),(nL2, .blk Ap [Ai u2,Ai u3,As u4,Ai u5,Ai u6]),(Ar, .arr (Aj+2) true 1 u7)]⟩)):Lf K .normal ⟨[(0, .ptr Ae 0),(2, .ptr nL2 0),(4, .imm (.int .u8 t4)),(5,Ab t5)],[(Ae, .blk Ac [As u0,Ai u1, .own Ar]),(nL2, .blk Ap [Ai u2,Ai u3,As u4,Ai u5,Ai u6]),(Ar, .arr (Aj+2) true 1 u7)]⟩:=kq h
theorem Ahw(K:KK)(t3 u0 u1:Int)(u2:LB)(u3 u4:Int)(u5:LB)(u6:Int)(u7:LL)(h:
 (K .ret ⟨[(2, .ptr nL2 0),(3,Ai t3)],[(nL2, .blk Ap [Ai u0,Ai u1,As u2,Ai u3,Ai u4]),(Ae, .blk Ac [As u5,Ai u6, .own Ar]),(Ar, .arr (Aj+2) true 1 u7)]⟩)):Ih K .ret ⟨[(2, .ptr nL2 0),(3,Ai t3)],[(nL2, .blk Ap [Ai u0,Ai u1,As u2,Ai u3,Ai u4]),(Ae, .blk Ac [As u5,Ai u6, .own Ar]),(Ar, .arr (Aj+2) true 1 u7)]⟩:=kq h
theorem Ahx(K:KK)(u0:LB)(u1 u2 u3:Int)(u4:LB)(u5 u6:Int)(u7:LL)(h:
 (O9 u0 u1 u2 u3 u4 u5 u6 u7 (Lf K))):Ih K .normal ⟨[(0, .ptr Ae 0),(2, .ptr nL2 0)],[(Ae, .blk Ac [As u0,Ai u1, .own Ar]),(nL2, .blk Ap [Ai u2,Ai u3,As u4,Ai u5,Ai u6]),(Ar, .arr (Aj+2) true 1 u7)]⟩:=kq h
theorem An6:Be E0.P 92 De.code Di [.cell 2 78, .tmp 3]:=fq Tryz.func92
theorem Ako(s:LB)(at_:Int)(out:LL)(Q:QQ)(h:
 (Br (decide ((↑s.length:Int)≤i64.wrap (at_+(1:Int))))
 (Et ((0:Int)) false s (i64.wrap (at_+(1:Int))) ((0:Int)) ((0:Int)) [] ((0:Int)) ((0:Int)) out (Cz s at_ out Q))
 (Ag ((0:Int)≤i64.wrap (at_+(1:Int))∧i64.wrap (at_+(1:Int))<(↑s.length:Int))
 (Et ((↑(s.getD (i64.wrap (at_+(1:Int))).toNat 0).toNat:Int)) true s (i64.wrap (at_+(1:Int))) ((0:Int)) ((0:Int)) [] ((0:Int)) ((0:Int)) out (Cz s at_ out Q))))):Call E0.P Ry [.ptr (.arg 0) 0] [(.arg 0, .blk Ac [.imm (.str s), .imm (.int .i64 at_), .own (.arg 1)]),(.arg 1, .arr (Aj+2) true 1 out)] Q:=fR 0 An6 h
noncomputable def Df:AC:=(A8 [(1,[0,2,4],[]),(5,[0,2,4],[]),(7,[2],[]),(15,[2],[]),(20,[0,2,4],[]),(23,[0,2,4,5],[0,2,4]),(30,[2],[])] [2,3] (codeOf Tryz.f93) 0).1
abbrev Dj:Nat:=107
def Ii(t4:Int)(u0:LB)(u1 u2 u3:Int)(u4:LB)(u5 u6:Int)(u7:LL)(K:KK):Prop:=Bc 5 E0.P Dj (A9 5 Df).code ⟨[(0, .ptr Ae 0),(2, .ptr nL2 0),(4,Ai t4)],[(Ae, .blk Ac [As u0,Ai u1, .own Ar]),(nL2, .blk Ap [Ai u2,Ai u3,As u4,Ai u5,Ai u6]),(Ar, .arr (Aj+2) true 1 u7)]⟩ K
def Fq(t4 t5:Int)(u0:LB)(u1 u2 u3:Int)(u4:LB)(u5 u6:Int)(u7:LL)(K:KK):Prop:=Aq 23 E0.P Dj (Am 23 Df).code ⟨[(0, .ptr Ae 0),(2, .ptr nL2 0),(4,Ai t4),(5, .imm (.int .u8 t5))],[(Ae, .blk Ac [As u0,Ai u1, .own Ar]),(nL2, .blk Ap [Ai u2,Ai u3,As u4,Ai u5,Ai u6]),(Ar, .arr (Aj+2) true 1 u7)]⟩ K
def Yb(u0 u1:Int)(u2:LB)(u3 u4:Int)(u5:LB)(u6:Int)(u7:LL)(K:KK):Prop:=Aq 30 E0.P Dj (Am 30 Df).code ⟨[(2, .ptr nL2 0)],[(nL2, .blk Ap [Ai u0,Ai u1,As u2,Ai u3,Ai u4]),(Ae, .blk Ac [As u5,Ai u6, .own Ar]),(Ar, .arr (Aj+2) true 1 u7)]⟩ K
def Zh(s:LB)(at_:Int)(out:LL)(Q:QQ):KK:=kE fun st=>finish 0 E0.T [.cell 2 78, .tmp 3] [(Ae, .blk Ac [As s,Ai at_, .own Ar]),(Ar, .arr (Aj+2) true 1 out)] Q st
def Lg(s:LB)(at_:Int)(out:LL)(Q:QQ):Ex→St→Prop
 | .normal,st=>finish 0 E0.T [.cell 2 78, .tmp 3] [(Ae, .blk Ac [As s,Ai at_, .own Ar]),(Ar, .arr (Aj+2) true 1 out)] Q st
 | .exit _,_=>False
 | .goto i,st=>I4 1 E0.P Dj i (J4 1 Df).code (mask [0,2,4] st) (Zh s at_ out Q)
 | .ret,st=>finish 0 E0.T [.cell 2 78, .tmp 3] [(Ae, .blk Ac [As s,Ai at_, .own Ar]),(Ar, .arr (Aj+2) true 1 out)] Q st
def Gi(s:LB)(at_:Int)(out:LL)(Q:QQ):Ex→St→Prop
 | .normal,st=>Aq 30 E0.P Dj (Am 30 Df).code (mask [2] st) (Lg s at_ out Q)
 | .exit i,st=>(match (i.beq 0:Bool)with
 |true=>Aq 30 E0.P Dj (Am 30 Df).code (mask [2] st) (Lg s at_ out Q)
 |false=>False)
 | .goto i,st=>I4 1 E0.P Dj i (J4 1 Df).code (mask [0,2,4] st) (Zh s at_ out Q)
 | .ret,st=>finish 0 E0.T [.cell 2 78, .tmp 3] [(Ae, .blk Ac [As s,Ai at_, .own Ar]),(Ar, .arr (Aj+2) true 1 out)] Q st
def Es(K:KK):KK:=kC 1 (fun st=>Bc 5 E0.P Dj (A9 5 Df).code (mask [0,2,4] st) K) K
theorem Vn(t4:Int)(u0:LB)(u1 u2 u3:Int)(u4:LB)(u5 u6:Int)(u7:LL)(K:KK)(h:
 (Br (decide (u1<(↑u0.length:Int)))
 (Ag ((0:Int)≤u1∧u1<(↑u0.length:Int))
 (Call E0.P Ph [As u0,Ai u1] [] fun r0 g0=>
 Ag (qP5 g0 r0)
 (Br (decide ((0:Int)<rI r0))
 (Fq t4 ((10:Int)) u0 (i64.wrap (u1+if rI r0>(1:Int)then rI r0 else(1:Int))) u2 u3 u4 u5 u6 u7 (Es K))
 (Br (decide ((↑(u0.getD u1.toNat 0).toNat:Int)=(92:Int)))
 (Call E0.P Kn [.ptr Ae 0] [(Ae, .blk Ac [As u0,Ai (i64.wrap (u1+if rI r0>(1:Int)then rI r0 else(1:Int))), .own Ar]),(Ar, .arr (Aj+2) true 1 u7)] fun r1 g1=>
 Ag (g1=
 [(Nm.arg 0,
 Entry.blk 101
 [.imm (.str (rS ((Au g1 Ae).getD 0 AV.undef))),
 .imm (.int .i64 (rI ((Au g1 Ae).getD 1 AV.undef))),
 AV.own Ar]),
 (Nm.arg 1,Entry.arr 7 true 1 (Cn g1 Ar))]∧
 r1= .imm (.bool (rB r1)))
 (Br (!rB r1)
 (K (.exit 0) ⟨[(2, .ptr nL2 0)],[(nL2, .blk Ap [Ai u2,Ai u3,As u4,Ai u5,Ai u6]),(Ae, .blk Ac [.imm (.str (rS ((Au g1 Ae).getD 0 AV.undef))), .imm (.int .i64 (rI ((Au g1 Ae).getD 1 AV.undef))), .own Ar]),(Ar, .arr (Aj+2) true 1 (Cn g1 Ar))]⟩)
 (Br (decide ((65535:Int)<(↑(Cn g1 Ar).length:Int)))
 (K .ret ⟨[(2, .ptr nL2 0),(3,Ai 8)],[(nL2, .blk Ap [Ai 0,Ai 0, .imm (.str []),Ai 0,Ai 0]),(Ae, .blk Ac [.imm (.str (rS ((Au g1 Ae).getD 0 AV.undef))), .imm (.int .i64 (rI ((Au g1 Ae).getD 1 AV.undef))), .own Ar]),(Ar, .arr (Aj+2) true 1 (Cn g1 Ar))]⟩)
 (Ii t4 (rS ((Au g1 Ae).getD 0 AV.undef)) (rI ((Au g1 Ae).getD 1 AV.undef)) u2 u3 u4 u5 u6 (Cn g1 Ar) K))))
 (Br (decide ((↑(u0.getD u1.toNat 0).toNat:Int)=(40:Int)))
 (Fq (i64.wrap (t4+(1:Int))) ((↑(u0.getD u1.toNat 0).toNat:Int)) u0 (i64.wrap (u1+if rI r0>(1:Int)then rI r0 else(1:Int))) u2 u3 u4 u5 u6 u7 (Es K))
 (Br (decide ((↑(u0.getD u1.toNat 0).toNat:Int)=(41:Int)))
 (Fq (i64.wrap (t4 - (1:Int))) ((↑(u0.getD u1.toNat 0).toNat:Int)) u0 (i64.wrap (u1+if rI r0>(1:Int)then rI r0 else(1:Int))) u2 u3 u4 u5 u6 u7 (Es K))
 (Fq t4 ((↑(u0.getD u1.toNat 0).toNat:Int)) u0 (i64.wrap (u1+if rI r0>(1:Int)then rI r0 else(1:Int))) u2 u3 u4 u5 u6 u7 (Es K))))))))
 (K (.exit 0) ⟨[(2, .ptr nL2 0)],[(nL2, .blk Ap [Ai u2,Ai u3,As u4,Ai u5,Ai u6]),(Ae, .blk Ac [As u0,Ai u1, .own Ar]),(Ar, .arr (Aj+2) true 1 u7)]⟩))):Ii t4 u0 u1 u2 u3 u4 u5 u6 u7 K:=lR [0,2,4] h
theorem Ui(t4 t5:Int)(u0:LB)(u1 u2 u3:Int)(u4:LB)(u5 u6:Int)(u7:LL)(K:KK)(h:
 (Br (decide (t4=(0:Int)))
 (Ag (∀(r:List IV),r∈u7→Bg [.int .u8] r=true)
 (K .ret ⟨[(2, .ptr nL2 0),(3,Ai 0)],[(nL2, .blk Ap [Ai 3,Ai 0,As (List.map (fun r=>UInt8.ofNat (gI r 0).toNat) u7),Ai 0,Ai 0]),(Ae, .blk Ac [As u0,Ai u1, .own Ar]),(Ar, .arr (Aj+2) true 1 u7)]⟩))
 (Ag ((u7.length+1)*1≤140737488355328∧u7.length+1≤140737488355328)
 (Br (decide ((65535:Int)<(↑(u7++[[IV.int .u8 t5]]).length:Int)))
 (K .ret ⟨[(2, .ptr nL2 0),(3,Ai 8)],[(nL2, .blk Ap [Ai 0,Ai 0, .imm (.str []),Ai 0,Ai 0]),(Ae, .blk Ac [As u0,Ai u1, .own Ar]),(Ar, .arr (Aj+2) true 1 (u7++[[IV.int .u8 t5]]))]⟩)
 (K .normal ⟨[(0, .ptr Ae 0),(2, .ptr nL2 0),(4,Ai t4)],[(Ae, .blk Ac [As u0,Ai u1, .own Ar]),(nL2, .blk Ap [Ai u2,Ai u3,As u4,Ai u5,Ai u6]),(Ar, .arr (Aj+2) true 1 (u7++[[IV.int .u8 t5]]))]⟩))))):Fq t4 t5 u0 u1 u2 u3 u4 u5 u6 u7 K:=cR [0,2,4] h
theorem Agd(u0 u1:Int)(u2:LB)(u3 u4:Int)(u5:LB)(u6:Int)(u7:LL)(K:KK)(h:
 (K .ret ⟨[(2, .ptr nL2 0),(3,Ai 5)],[(nL2, .blk Ap [Ai 0,Ai 0, .imm (.str []),Ai 0,Ai 0]),(Ae, .blk Ac [As u5,Ai u6, .own Ar]),(Ar, .arr (Aj+2) true 1 u7)]⟩)):Yb u0 u1 u2 u3 u4 u5 u6 u7 K:=cR [] h
theorem Ahy(s:LB)(at_:Int)(out:LL)(Q:QQ)(t3 u0 u1:Int)(u2:LB)(u3 u4:Int)(u5:LB)(u6:Int)(u7:LL)(h:
 (Q (.tup [.imm (.agg [.int .i64 u0, .int .i64 u1, .str u2, .int .i64 u3, .int .i64 u4]),Ai t3]) [(Ae, .blk Ac [As u5,Ai u6, .own Ar]),(Ar, .arr (Aj+2) true 1 u7)])):Lg s at_ out Q .ret ⟨[(2, .ptr nL2 0),(3,Ai t3)],[(nL2, .blk Ap [Ai u0,Ai u1,As u2,Ai u3,Ai u4]),(Ae, .blk Ac [As u5,Ai u6, .own Ar]),(Ar, .arr (Aj+2) true 1 u7)]⟩:=kq h
theorem Ahz(s:LB)(at_:Int)(out:LL)(Q:QQ)(u0 u1:Int)(u2:LB)(u3 u4:Int)(u5:LB)(u6:Int)(u7:LL)(h:
 (Yb u0 u1 u2 u3 u4 u5 u6 u7 (Lg s at_ out Q))):Gi s at_ out Q (.exit 0) ⟨[(2, .ptr nL2 0)],[(nL2, .blk Ap [Ai u0,Ai u1,As u2,Ai u3,Ai u4]),(Ae, .blk Ac [As u5,Ai u6, .own Ar]),(Ar, .arr (Aj+2) true 1 u7)]⟩:=kq h
theorem M5(s:LB)(at_:Int)(out:LL)(Q:QQ)(t3 u0 u1:Int)(u2:LB)(u3 u4:Int)(u5:LB)(u6:Int)(u7:LL)(h:
 (Q (.tup [.imm (.agg [.int .i64 u0, .int .i64 u1, .str u2, .int .i64 u3, .int .i64 u4]),Ai t3]) [(Ae, .blk Ac [As u5,Ai u6, .own Ar]),(Ar, .arr (Aj+2) true 1 u7)])):Gi s at_ out Q .ret ⟨[(2, .ptr nL2 0),(3,Ai t3)],[(nL2, .blk Ap [Ai u0,Ai u1,As u2,Ai u3,Ai u4]),(Ae, .blk Ac [As u5,Ai u6, .own Ar]),(Ar, .arr (Aj+2) true 1 u7)]⟩:=kq h
theorem Vj(K:KK)(t3 u0 u1:Int)(u2:LB)(u3 u4:Int)(u5:LB)(u6:Int)(u7:LL)(h:
 (K .ret ⟨[(2, .ptr nL2 0),(3,Ai t3)],[(nL2, .blk Ap [Ai u0,Ai u1,As u2,Ai u3,Ai u4]),(Ae, .blk Ac [As u5,Ai u6, .own Ar]),(Ar, .arr (Aj+2) true 1 u7)]⟩)):Es K .ret ⟨[(2, .ptr nL2 0),(3,Ai t3)],[(nL2, .blk Ap [Ai u0,Ai u1,As u2,Ai u3,Ai u4]),(Ae, .blk Ac [As u5,Ai u6, .own Ar]),(Ar, .arr (Aj+2) true 1 u7)]⟩:=kq h
theorem Ah0(K:KK)(t4:Int)(u0:LB)(u1 u2 u3:Int)(u4:LB)(u5 u6:Int)(u7:LL)(h:
 (Ii t4 u0 u1 u2 u3 u4 u5 u6 u7 K)):Es K .normal ⟨[(0, .ptr Ae 0),(2, .ptr nL2 0),(4,Ai t4)],[(Ae, .blk Ac [As u0,Ai u1, .own Ar]),(nL2, .blk Ap [Ai u2,Ai u3,As u4,Ai u5,Ai u6]),(Ar, .arr (Aj+2) true 1 u7)]⟩:=kq h
theorem An7:Be E0.P 93 Df.code Dj [.cell 2 78, .tmp 3]:=fq Tryz.func93
theorem Akp(s:LB)(at_:Int)(out:LL)(Q:QQ)(h:
 (Ii ((1:Int)) s (i64.wrap (at_+(1:Int))) ((0:Int)) ((0:Int)) [] ((0:Int)) ((0:Int)) out (Gi s at_ out Q))):Call E0.P Rz [.ptr (.arg 0) 0] [(.arg 0, .blk Ac [.imm (.str s), .imm (.int .i64 at_), .own (.arg 1)]),(.arg 1, .arr (Aj+2) true 1 out)] Q:=fR 0 An7 h
noncomputable def Ep:AC:=(A8 [(5,[1,2,4,5,6,7],[]),(7,[2],[]),(19,[1,2,4,5],[1,2,4,5]),(22,[1,2,4,5],[1,2,4,5,6,7]),(23,[2],[])] [2,3] (codeOf Tryz.f95) 0).1
abbrev Er:Nat:=75
def E8(t6:Int)(t7:Bool)(u0 u1:Int)(u2:LB)(u3 u4 u5:Int)(u6:LB)(u7:Int)(u8:LL)(K:KK):Prop:=Bc 5 E0.P Er (A9 5 Ep).code ⟨[(1, .ptr Fh 0),(2, .ptr nL2 0),(4, .ptr nL4 0),(5, .fn Dx [.ptr nL4 0, .ptr Fh 0]),(6, .imm (.int .u8 t6)),(7,Ab t7)],[(Fh, .blk 98 [.ptr Ae 0]),(nL2, .blk Ap [Ai u0,Ai u1,As u2,Ai u3,Ai u4]),(nL4, .blk Gg [Ai u5]),(Ae, .blk Ac [As u6,Ai u7, .own Ar]),(Ar, .arr (Aj+2) true 1 u8)]⟩ K
def Dw(u0 u1:Int)(u2:LB)(u3 u4 u5:Int)(u6:LB)(u7:Int)(u8:LL)(K:KK):Prop:=Aq 19 E0.P Er (Am 19 Ep).code ⟨[(1, .ptr Fh 0),(2, .ptr nL2 0),(4, .ptr nL4 0),(5, .fn Dx [.ptr nL4 0, .ptr Fh 0])],[(Fh, .blk 98 [.ptr Ae 0]),(nL2, .blk Ap [Ai u0,Ai u1,As u2,Ai u3,Ai u4]),(nL4, .blk Gg [Ai u5]),(Ae, .blk Ac [As u6,Ai u7, .own Ar]),(Ar, .arr (Aj+2) true 1 u8)]⟩ K
def Ze(u0 u1:Int)(u2:LB)(u3 u4:Int)(u5:LB)(u6:Int)(u7:LL)(K:KK):Prop:=Aq 23 E0.P Er (Am 23 Ep).code ⟨[(2, .ptr nL2 0)],[(nL2, .blk Ap [Ai u0,Ai u1,As u2,Ai u3,Ai u4]),(Ae, .blk Ac [As u5,Ai u6, .own Ar]),(Ar, .arr (Aj+2) true 1 u7)]⟩ K
def Zd(u0 u1:Int)(u2:LB)(u3 u4 u5:Int)(u6:LB)(u7:Int)(u8:LL)(K:KK):Prop:=Aq 22 E0.P Er (Am 22 Ep).code ⟨[(1, .ptr Fh 0),(2, .ptr nL2 0),(4, .ptr nL4 0),(5, .fn Dx [.ptr nL4 0, .ptr Fh 0])],[(Fh, .blk 98 [.ptr Ae 0]),(nL2, .blk Ap [Ai u0,Ai u1,As u2,Ai u3,Ai u4]),(nL4, .blk Gg [Ai u5]),(Ae, .blk Ac [As u6,Ai u7, .own Ar]),(Ar, .arr (Aj+2) true 1 u8)]⟩ K
def Rj(s:LB)(at_:Int)(out:LL)(Q:QQ):KK:=kE fun st=>finish 0 E0.T [.cell 2 78, .tmp 3] [(Ae, .blk Ac [As s,Ai at_, .own Ar]),(Ar, .arr (Aj+2) true 1 out)] Q st
def Da(s:LB)(at_:Int)(out:LL)(Q:QQ):KK:=kF 0 (fun st=>Aq 23 E0.P Er (Am 23 Ep).code (mask [2] st) (Rj s at_ out Q)) fun st=>finish 0 E0.T [.cell 2 78, .tmp 3] [(Ae, .blk Ac [As s,Ai at_, .own Ar]),(Ar, .arr (Aj+2) true 1 out)] Q st
def Rk(K:KK):Ex→St→Prop
 | .normal,st=>Bc 5 E0.P Er (A9 5 Ep).code (mask [1,2,4,5,6,7] st) K
 | .exit i,st=>K (.exit i) st
 | .goto i,st=>K (.goto i) st
 | .ret,st=>K .ret st
def Cu(K:KK):KK:=kC 1 (fun st=>Aq 22 E0.P Er (Am 22 Ep).code (mask [1,2,4,5] st) (Rk K)) K
theorem Wj(t6:Int)(t7:Bool)(u0 u1:Int)(u2:LB)(u3 u4 u5:Int)(u6:LB)(u7:Int)(u8:LL)(K:KK)(h:
 (Br (t7)
 (Call E0.P Ws [.imm (.int .u8 t6)] [] fun r0 g0=>
 Ag (qP5 g0 r0)
 (Br (decide (t6=(62:Int)))
 (Br (decide ((65535:Int)<(↑u8.length:Int)))
 (K .ret ⟨[(2, .ptr nL2 0),(3,Ai 8)],[(nL2, .blk Ap [Ai 0,Ai 0, .imm (.str []),Ai 0,Ai 0]),(Ae, .blk Ac [As u6,Ai (i64.wrap (u7+(1:Int))), .own Ar]),(Ar, .arr (Aj+2) true 1 u8)]⟩)
 (Ag (∀(r:List IV),r∈u8→Bg [.int .u8] r=true)
 (K .ret ⟨[(2, .ptr nL2 0),(3,Ai 0)],[(nL2, .blk Ap [Ai 3,Ai 0,As (List.map (fun r=>UInt8.ofNat (gI r 0).toNat) u8),Ai 0,Ai 0]),(Ae, .blk Ac [As u6,Ai (i64.wrap (u7+(1:Int))), .own Ar]),(Ar, .arr (Aj+2) true 1 u8)]⟩)))
 (Br (decide ((0:Int)≤rI r0))
 (Ag ((2:Int)≠(0:Int))
 (Br (decide ((i64.wrap (u5+(1:Int))).tmod (2:Int)=(1:Int)))
 (Ag ((0:Int)≤(4:Int))
 ((Ag ((u8.length+1)*1≤140737488355328∧u8.length+1≤140737488355328)
 (Dw u0 u1 u2 u3 u4 (i64.wrap (u5+(1:Int))) u6 (i64.wrap (u7+(1:Int))) (u8++[[IV.int .u8 (IntKind.u8.wrap (i64.wrap (rI r0*(2:Int) ^ 4)))]]) (Cu K)))∧
 ((Ag ((u8.length+1)*1≤140737488355328∧u8.length+1≤140737488355328)
 (Dw u0 u1 u2 u3 u4 (i64.wrap (u5+(1:Int))) u6 (i64.wrap (u7+(1:Int))) (u8++[[IV.int .u8 (IntKind.u8.wrap (i64.wrap (rI r0*(2:Int) ^ 4)))]]) (Cu K)))∧
 (Ag ((u8.length+1)*1≤140737488355328∧u8.length+1≤140737488355328)
 (Dw u0 u1 u2 u3 u4 (i64.wrap (u5+(1:Int))) u6 (i64.wrap (u7+(1:Int))) (u8++[[IV.int .u8 (IntKind.u8.wrap (i64.wrap (rI r0*(2:Int) ^ 4)))]]) (Cu K))))))
 (Ag ((0:Int)≤i64.wrap ((↑u8.length:Int) - (1:Int))∧
 i64.wrap ((↑u8.length:Int) - (1:Int))<(↑u8.length:Int))
 (Ag ((i64.wrap ((↑u8.length:Int) - (1:Int))).toNat<u8.length∧
 Bg [.int .u8]
 (List.take 1
 (List.drop 0 (u8.getD (i64.wrap ((↑u8.length:Int) - (1:Int))).toNat [])))=
 true)
 (Ag ((0:Int)≤i64.wrap ((↑u8.length:Int) - (1:Int))∧
 i64.wrap ((↑u8.length:Int) - (1:Int))<(↑u8.length:Int))
 (Ag ((i64.wrap ((↑u8.length:Int) - (1:Int))).toNat<u8.length)
 (Dw u0 u1 u2 u3 u4 (i64.wrap (u5+(1:Int))) u6 (i64.wrap (u7+(1:Int))) (u8.set (i64.wrap ((↑u8.length:Int) - (1:Int))).toNat
 [.int .u8
 (IntKind.u8.wrap
 (↑(BitVec.ofInt (8:Nat)
 (gI
 (List.take (1:Nat)
 (List.drop (0:Nat) (u8.getD (i64.wrap ((↑u8.length:Int) - (1:Int))).toNat [])))
 (0:Nat)) |||
 BitVec.ofInt (8:Nat) (IntKind.u8.wrap (rI r0))).toNat:
 Int))]) (Cu K))))))))
 (Call E0.P Ms [.imm (.int .u8 t6)] [] fun r1 g1=>
 Ag (qP5 g1 r1)
 (Br (!decide (rI r1=(0:Int)))
 (K .ret ⟨[(2, .ptr nL2 0),(3,Ai 4)],[(nL2, .blk Ap [Ai 0,Ai 0, .imm (.str []),Ai 0,Ai 0]),(Ae, .blk Ac [As u6,Ai (i64.wrap (u7+(1:Int))), .own Ar]),(Ar, .arr (Aj+2) true 1 u8)]⟩)
 (Dw u0 u1 u2 u3 u4 u5 u6 (i64.wrap (u7+(1:Int))) u8 (Cu K)))))))
 (K (.exit 0) ⟨[(2, .ptr nL2 0)],[(nL2, .blk Ap [Ai u0,Ai u1,As u2,Ai u3,Ai u4]),(Ae, .blk Ac [As u6,Ai u7, .own Ar]),(Ar, .arr (Aj+2) true 1 u8)]⟩))):E8 t6 t7 u0 u1 u2 u3 u4 u5 u6 u7 u8 K:=lR [1,2,4,5,6,7] h
theorem Aho(u0 u1:Int)(u2:LB)(u3 u4 u5:Int)(u6:LB)(u7:Int)(u8:LL)(K:KK)(h:
 (Ag ((2:Int)≠(0:Int))
 (Br (decide ((65535:Int)<i64.wrap (u5.tdiv (2:Int))))
 (K .ret ⟨[(2, .ptr nL2 0),(3,Ai 8)],[(nL2, .blk Ap [Ai 0,Ai 0, .imm (.str []),Ai 0,Ai 0]),(Ae, .blk Ac [As u6,Ai u7, .own Ar]),(Ar, .arr (Aj+2) true 1 u8)]⟩)
 (K .normal ⟨[(1, .ptr Fh 0),(2, .ptr nL2 0),(4, .ptr nL4 0),(5, .fn Dx [.ptr nL4 0, .ptr Fh 0])],[(Fh, .blk 98 [.ptr Ae 0]),(nL2, .blk Ap [Ai u0,Ai u1,As u2,Ai u3,Ai u4]),(nL4, .blk Gg [Ai u5]),(Ae, .blk Ac [As u6,Ai u7, .own Ar]),(Ar, .arr (Aj+2) true 1 u8)]⟩)))):Dw u0 u1 u2 u3 u4 u5 u6 u7 u8 K:=cR [1,2,4,5] h
theorem Ahq(u0 u1:Int)(u2:LB)(u3 u4:Int)(u5:LB)(u6:Int)(u7:LL)(K:KK)(h:
 (K .ret ⟨[(2, .ptr nL2 0),(3,Ai 5)],[(nL2, .blk Ap [Ai 0,Ai 0, .imm (.str []),Ai 0,Ai 0]),(Ae, .blk Ac [As u5,Ai u6, .own Ar]),(Ar, .arr (Aj+2) true 1 u7)]⟩)):Ze u0 u1 u2 u3 u4 u5 u6 u7 K:=cR [] h
theorem Ahp(u0 u1:Int)(u2:LB)(u3 u4 u5:Int)(u6:LB)(u7:Int)(u8:LL)(K:KK)(h:
 (Br (decide ((↑u6.length:Int)≤u7))
 (K .normal ⟨[(1, .ptr Fh 0),(2, .ptr nL2 0),(4, .ptr nL4 0),(5, .fn Dx [.ptr nL4 0, .ptr Fh 0]),(6, .imm (.int .u8 ((0:Int)))),(7,Ab false)],[(Fh, .blk 98 [.ptr Ae 0]),(nL2, .blk Ap [Ai u0,Ai u1,As u2,Ai u3,Ai u4]),(nL4, .blk Gg [Ai u5]),(Ae, .blk Ac [As u6,Ai u7, .own Ar]),(Ar, .arr (Aj+2) true 1 u8)]⟩)
 (Ag ((0:Int)≤u7∧u7<(↑u6.length:Int))
 (K .normal ⟨[(1, .ptr Fh 0),(2, .ptr nL2 0),(4, .ptr nL4 0),(5, .fn Dx [.ptr nL4 0, .ptr Fh 0]),(6, .imm (.int .u8 ((↑(u6.getD u7.toNat 0).toNat:Int)))),(7,Ab true)],[(Fh, .blk 98 [.ptr Ae 0]),(nL2, .blk Ap [Ai u0,Ai u1,As u2,Ai u3,Ai u4]),(nL4, .blk Gg [Ai u5]),(Ae, .blk Ac [As u6,Ai u7, .own Ar]),(Ar, .arr (Aj+2) true 1 u8)]⟩)))):Zd u0 u1 u2 u3 u4 u5 u6 u7 u8 K:=cR [1,2,4,5,6,7] h
theorem Ajq(s:LB)(at_:Int)(out:LL)(Q:QQ)(t3 u0 u1:Int)(u2:LB)(u3 u4:Int)(u5:LB)(u6:Int)(u7:LL)(h:
 (Q (.tup [.imm (.agg [.int .i64 u0, .int .i64 u1, .str u2, .int .i64 u3, .int .i64 u4]),Ai t3]) [(Ae, .blk Ac [As u5,Ai u6, .own Ar]),(Ar, .arr (Aj+2) true 1 u7)])):Rj s at_ out Q .ret ⟨[(2, .ptr nL2 0),(3,Ai t3)],[(nL2, .blk Ap [Ai u0,Ai u1,As u2,Ai u3,Ai u4]),(Ae, .blk Ac [As u5,Ai u6, .own Ar]),(Ar, .arr (Aj+2) true 1 u7)]⟩:=kq h
theorem Nz(s:LB)(at_:Int)(out:LL)(Q:QQ)(t3 u0 u1:Int)(u2:LB)(u3 u4:Int)(u5:LB)(u6:Int)(u7:LL)(h:
 (Q (.tup [.imm (.agg [.int .i64 u0, .int .i64 u1, .str u2, .int .i64 u3, .int .i64 u4]),Ai t3]) [(Ae, .blk Ac [As u5,Ai u6, .own Ar]),(Ar, .arr (Aj+2) true 1 u7)])):Da s at_ out Q .ret ⟨[(2, .ptr nL2 0),(3,Ai t3)],[(nL2, .blk Ap [Ai u0,Ai u1,As u2,Ai u3,Ai u4]),(Ae, .blk Ac [As u5,Ai u6, .own Ar]),(Ar, .arr (Aj+2) true 1 u7)]⟩:=kq h
theorem Ajr(s:LB)(at_:Int)(out:LL)(Q:QQ)(u0 u1:Int)(u2:LB)(u3 u4:Int)(u5:LB)(u6:Int)(u7:LL)(h:
 (Ze u0 u1 u2 u3 u4 u5 u6 u7 (Rj s at_ out Q))):Da s at_ out Q (.exit 0) ⟨[(2, .ptr nL2 0)],[(nL2, .blk Ap [Ai u0,Ai u1,As u2,Ai u3,Ai u4]),(Ae, .blk Ac [As u5,Ai u6, .own Ar]),(Ar, .arr (Aj+2) true 1 u7)]⟩:=kq h
theorem Wh(K:KK)(t6:Int)(t7:Bool)(u0 u1:Int)(u2:LB)(u3 u4 u5:Int)(u6:LB)(u7:Int)(u8:LL)(h:
 (E8 t6 t7 u0 u1 u2 u3 u4 u5 u6 u7 u8 K)):Rk K .normal ⟨[(1, .ptr Fh 0),(2, .ptr nL2 0),(4, .ptr nL4 0),(5, .fn Dx [.ptr nL4 0, .ptr Fh 0]),(6, .imm (.int .u8 t6)),(7,Ab t7)],[(Fh, .blk 98 [.ptr Ae 0]),(nL2, .blk Ap [Ai u0,Ai u1,As u2,Ai u3,Ai u4]),(nL4, .blk Gg [Ai u5]),(Ae, .blk Ac [As u6,Ai u7, .own Ar]),(Ar, .arr (Aj+2) true 1 u8)]⟩:=kq h
theorem Ajs(K:KK)(t3 u0 u1:Int)(u2:LB)(u3 u4:Int)(u5:LB)(u6:Int)(u7:LL)(h:
 (K .ret ⟨[(2, .ptr nL2 0),(3,Ai t3)],[(nL2, .blk Ap [Ai u0,Ai u1,As u2,Ai u3,Ai u4]),(Ae, .blk Ac [As u5,Ai u6, .own Ar]),(Ar, .arr (Aj+2) true 1 u7)]⟩)):Cu K .ret ⟨[(2, .ptr nL2 0),(3,Ai t3)],[(nL2, .blk Ap [Ai u0,Ai u1,As u2,Ai u3,Ai u4]),(Ae, .blk Ac [As u5,Ai u6, .own Ar]),(Ar, .arr (Aj+2) true 1 u7)]⟩:=kq h
theorem Ajt(K:KK)(u0 u1:Int)(u2:LB)(u3 u4 u5:Int)(u6:LB)(u7:Int)(u8:LL)(h:
 (Zd u0 u1 u2 u3 u4 u5 u6 u7 u8 (Rk K))):Cu K .normal ⟨[(1, .ptr Fh 0),(2, .ptr nL2 0),(4, .ptr nL4 0),(5, .fn Dx [.ptr nL4 0, .ptr Fh 0])],[(Fh, .blk 98 [.ptr Ae 0]),(nL2, .blk Ap [Ai u0,Ai u1,As u2,Ai u3,Ai u4]),(nL4, .blk Gg [Ai u5]),(Ae, .blk Ac [As u6,Ai u7, .own Ar]),(Ar, .arr (Aj+2) true 1 u8)]⟩:=kq h
theorem Apx:Be E0.P 95 Ep.code Er [.cell 2 78, .tmp 3]:=fq Tryz.func95
theorem Alw(s:LB)(at_:Int)(out:LL)(Q:QQ)(h:
 (Br (decide ((↑s.length:Int)≤i64.wrap (at_+(1:Int))))
 (E8 ((0:Int)) false ((0:Int)) ((0:Int)) [] ((0:Int)) ((0:Int)) ((0:Int)) s (i64.wrap (at_+(1:Int))) out (Da s at_ out Q))
 (Ag ((0:Int)≤i64.wrap (at_+(1:Int))∧i64.wrap (at_+(1:Int))<(↑s.length:Int))
 (E8 ((↑(s.getD (i64.wrap (at_+(1:Int))).toNat 0).toNat:Int)) true ((0:Int)) ((0:Int)) [] ((0:Int)) ((0:Int)) ((0:Int)) s (i64.wrap (at_+(1:Int))) out (Da s at_ out Q))))):Call E0.P Ua [.ptr (.arg 0) 0] [(.arg 0, .blk Ac [.imm (.str s), .imm (.int .i64 at_), .own (.arg 1)]),(.arg 1, .arr (Aj+2) true 1 out)] Q:=fR 0 Apx h
noncomputable def Anh:AC:=(A8 [] [2,3] (codeOf Tryz.f96) 0).1
abbrev An0:Nat:=66
theorem An8:Be E0.P 96 Anh.code An0 [.cell 2 78, .tmp 3]:=fq Tryz.func96
theorem Akq(s:LB)(at_:Int)(out:LL)(Q:QQ)(h:
 (Call E0.P Ur [As s,Ai at_, .imm (.sl .any 1 [[IV.int .i64 (2:Int)]])] [] fun r0 g0=>
 Ag (qP5 g0 r0)
 (Ag ((0:Int)≤at_∧at_≤i64.wrap (at_+rI r0)∧i64.wrap (at_+rI r0)≤(↑s.length:Int))
 (Let (List.drop at_.toNat (List.take (i64.wrap (at_+rI r0)).toNat s)) fun x1=>
 Call E0.P Ac3 [As x1] [] fun r2 g2=>
 Ag (qP9 g2 r2)
 (Br (decide (rI (rT r2 1)=(0:Int)))
 (Q (.tup [.imm (.agg [.int .i64 1, .int .i64 (rI (rT r2 0)), .str [], .int .i64 0, .int .i64 0]),Ai 0]) [(Ae, .blk Ac [As s,Ai (i64.wrap (at_+(↑x1.length:Int))), .own Ar]),(Ar, .arr (Aj+2) true 1 out)])
 (Br (decide (rI (rT r2 1)=(3:Int)))
 (Q (.tup [.imm (.agg [.int .i64 0, .int .i64 0, .str [], .int .i64 0, .int .i64 0]),Ai (rI (rT r2 1))]) [(Ae, .blk Ac [As s,Ai (i64.wrap (at_+(↑x1.length:Int))), .own Ar]),(Ar, .arr (Aj+2) true 1 out)])
 (Br (decide ((127:Int)<(↑x1.length:Int)))
 (Q (.tup [.imm (.agg [.int .i64 0, .int .i64 0, .str [], .int .i64 0, .int .i64 0]),Ai 8]) [(Ae, .blk Ac [As s,Ai (i64.wrap (at_+(↑x1.length:Int))), .own Ar]),(Ar, .arr (Aj+2) true 1 out)])
 (Q (.tup [.imm (.agg [.int .i64 8, .int .i64 0, .str x1, .int .i64 0, .int .i64 0]),Ai 0]) [(Ae, .blk Ac [As s,Ai (i64.wrap (at_+(↑x1.length:Int))), .own Ar]),(Ar, .arr (Aj+2) true 1 out)])))))))):Call E0.P R3 [.ptr (.arg 0) 0] [(.arg 0, .blk Ac [.imm (.str s), .imm (.int .i64 at_), .own (.arg 1)]),(.arg 1, .arr (Aj+2) true 1 out)] Q:=fR 0 An8 h
noncomputable def Azl:AC:=(A8 [] [4] (codeOf Tryz.f124) 0).1
abbrev A0c:Nat:=13
theorem A0l:Be E0.P 124 Azl.code A0c [.tmp 4]:=fq Tryz.func124
theorem Avg(a0:LB)(a1:Int)(Q:QQ)(h:
 (Let (bif decide ((0:Int)≤a1)then decide (a1<(↑a0.length:Int))else false) fun x0=>
 Q (Ab x0) [])):Call E0.P Vs [As a0,Ai a1] [] Q:=fR 0 A0l h
noncomputable def Z4:AC:=(A8 [(7,[3,4],[]),(20,[],[])] [2] (codeOf Tryz.f113) 0).1
abbrev Aab:Nat:=22
def Hq(t3:Int)(t4:Bool)(K:KK):Prop:=Aq 7 E0.P Aab (Am 7 Z4).code ⟨[(3, .imm (.int .u8 t3)),(4,Ab t4)],[]⟩ K
def Akz(K:KK):Prop:=Aq 20 E0.P Aab (Am 20 Z4).code ⟨[],[]⟩ K
def Ad3(Q:QQ):KK:=kE fun st=>finish 0 E0.T [.tmp 2] [] Q st
def Ej(Q:QQ):KK:=kF 0 (fun st=>Aq 20 E0.P Aab (Am 20 Z4).code (mask [] st) (Ad3 Q)) fun st=>finish 0 E0.T [.tmp 2] [] Q st
theorem Au1(t3:Int)(t4:Bool)(K:KK)(h:
 (Br (t4)
 (K .ret ⟨[(2,Ai 0)],[]⟩)
 (Br (decide (t3=(40:Int)))
 (Br (decide (t3=(40:Int)))
 (K .ret ⟨[(2,Ai 1)],[]⟩)
 (K .normal ⟨[],[]⟩))
 (Br (decide (t3=(41:Int)))
 (Br (decide (t3=(41:Int)))
 (K .ret ⟨[(2,Ai 1)],[]⟩)
 (K .normal ⟨[],[]⟩))
 (Br (decide (t3=(60:Int)))
 (Br (decide (t3=(60:Int)))
 (K .ret ⟨[(2,Ai 1)],[]⟩)
 (K .normal ⟨[],[]⟩))
 (Br (decide (t3=(62:Int)))
 (Br (decide (t3=(62:Int)))
 (K .ret ⟨[(2,Ai 1)],[]⟩)
 (K .normal ⟨[],[]⟩))
 (Br (decide (t3=(91:Int)))
 (Br (decide (t3=(91:Int)))
 (K .ret ⟨[(2,Ai 1)],[]⟩)
 (K .normal ⟨[],[]⟩))
 (Br (decide (t3=(93:Int)))
 (Br (decide (t3=(93:Int)))
 (K .ret ⟨[(2,Ai 1)],[]⟩)
 (K .normal ⟨[],[]⟩))
 (Br (decide (t3=(123:Int)))
 (Br (decide (t3=(123:Int)))
 (K .ret ⟨[(2,Ai 1)],[]⟩)
 (K .normal ⟨[],[]⟩))
 (Br (decide (t3=(125:Int)))
 (Br (decide (t3=(125:Int)))
 (K .ret ⟨[(2,Ai 1)],[]⟩)
 (K .normal ⟨[],[]⟩))
 (Br (decide (t3=(47:Int)))
 (Br (decide (t3=(47:Int)))
 (K .ret ⟨[(2,Ai 1)],[]⟩)
 (K .normal ⟨[],[]⟩))
 (Br (decide (t3=(37:Int)))
 (K .ret ⟨[(2,Ai 1)],[]⟩)
 (K .normal ⟨[],[]⟩))))))))))))):Hq t3 t4 K:=cR [] h
theorem Arr(K:KK)(h:
 (K .ret ⟨[(2,Ai 2)],[]⟩)):Akz K:=cR [] h
theorem Avk(Q:QQ)(t2:Int)(h:
 (Q (Ai t2) [])):Ad3 Q .ret ⟨[(2,Ai t2)],[]⟩:=kq h
theorem Yp(Q:QQ)(t2:Int)(h:
 (Q (Ai t2) [])):Ej Q .ret ⟨[(2,Ai t2)],[]⟩:=kq h
theorem Avl(Q:QQ)(h:
 (Akz (Ad3 Q))):Ej Q .normal ⟨[],[]⟩:=kq h
theorem A5c:Be E0.P 113 Z4.code Aab [.tmp 2]:=fq Tryz.func113
theorem Ay0(a0:Int)(Q:QQ)(h:
 (Br (decide (a0=(0:Int)))
 (Hq a0 (decide (a0=(0:Int))) (Ej Q))
 (Br (decide (a0=(9:Int)))
 (Hq a0 (decide (a0=(9:Int))) (Ej Q))
 (Br (decide (a0=(10:Int)))
 (Hq a0 (decide (a0=(10:Int))) (Ej Q))
 (Br (decide (a0=(12:Int)))
 (Hq a0 (decide (a0=(12:Int))) (Ej Q))
 (Br (decide (a0=(13:Int)))
 (Hq a0 (decide (a0=(13:Int))) (Ej Q))
 (Hq a0 (decide (a0=(32:Int))) (Ej Q)))))))):Call E0.P Ms [.imm (.int .u8 a0)] [] Q:=fR 0 A5c h
noncomputable def Aj2:AC:=(A8 [] [2,3] (codeOf Tryz.f126) 0).1
abbrev Akf:Nat:=62
theorem Akg:Be E0.P 126 Aj2.code Akf [.tmp 2, .tmp 3]:=fq Tryz.func126
theorem Mq(s:LB)(at_:Int)(out:LL)(Q:QQ)(h:
 (Br (decide (i64.wrap ((↑s.length:Int) - at_)<(2:Int)))
 (Q (.tup [.imm (.int .u8 ((0:Int))),Ab false]) [(Ae, .blk Ac [As s,Ai at_, .own Ar]),(Ar, .arr (Aj+2) true 1 out)])
 (Ag ((0:Int)≤at_∧at_<(↑s.length:Int))
 (Ag ((0:Int)≤i64.wrap (at_+(1:Int))∧i64.wrap (at_+(1:Int))<(↑s.length:Int))
 (Call E0.P Ws [.imm (.int .u8 ((↑(s.getD at_.toNat 0).toNat:Int)))] [] fun r0 g0=>
 Ag (qP5 g0 r0)
 (Call E0.P Ws [.imm (.int .u8 ((↑(s.getD (i64.wrap (at_+(1:Int))).toNat 0).toNat:Int)))] [] fun r1 g1=>
 Ag (qP5 g1 r1)
 (Let (bif decide (rI r0<(0:Int))then true else decide (rI r1<(0:Int))) fun x2=>
 Let (bif x2 then true else decide (i64.wrap (rI r0+rI r1)=(0:Int))) fun x3=>
 Br (x3)
 (Q (.tup [.imm (.int .u8 ((0:Int))),Ab false]) [(Ae, .blk Ac [As s,Ai (i64.wrap (at_+(2:Int))), .own Ar]),(Ar, .arr (Aj+2) true 1 out)])
 (Ag ((0:Int)≤(4:Int))
 (Q (.tup [.imm (.int .u8 (IntKind.u8.wrap
 (i64.wrap
 (↑(BitVec.ofInt (64:Nat) (i64.wrap (rI r0*(2:Int) ^ (4:Nat))) |||
 BitVec.ofInt (64:Nat) (rI r1)).toNat:
 Int)))),Ab true]) [(Ae, .blk Ac [As s,Ai (i64.wrap (at_+(2:Int))), .own Ar]),(Ar, .arr (Aj+2) true 1 out)]))))))))):Call E0.P Hg [.ptr (.arg 0) 0] [(.arg 0, .blk Ac [.imm (.str s), .imm (.int .i64 at_), .own (.arg 1)]),(.arg 1, .arr (Aj+2) true 1 out)] Q:=fR 0 Akg h
noncomputable def Ye:AC:=(A8 [(21,[0,3],[])] [2] (codeOf Tryz.f128) 0).1
abbrev Yj:Nat:=77
def Bq(t3:Int)(u0:LB)(u1:Int)(u2:LL)(K:KK):Prop:=Aq 21 E0.P Yj (Am 21 Ye).code ⟨[(0, .ptr Ae 0),(3, .imm (.int .u8 t3))],[(Ae, .blk Ac [As u0,Ai u1, .own Ar]),(Ar, .arr (Aj+2) true 1 u2)]⟩ K
def Bw(s:LB)(at_:Int)(out:LL)(Q:QQ):KK:=kE fun st=>finish 0 E0.T [.tmp 2] [(Ae, .blk Ac [As s,Ai at_, .own Ar]),(Ar, .arr (Aj+2) true 1 out)] Q st
theorem Ad1(t3:Int)(u0:LB)(u1:Int)(u2:LL)(K:KK)(h:
 (Ag ((u2.length+1)*1≤140737488355328∧u2.length+1≤140737488355328)
 (K .ret ⟨[(2,Ab true)],[(Ae, .blk Ac [As u0,Ai u1, .own Ar]),(Ar, .arr (Aj+2) true 1 (u2++[[IV.int .u8 t3]]))]⟩))):Bq t3 u0 u1 u2 K:=cR [] h
theorem Afo(s:LB)(at_:Int)(out:LL)(Q:QQ)(t2:Bool)(u0:LB)(u1:Int)(u2:LL)(h:
 (Q (Ab t2) [(Ae, .blk Ac [As u0,Ai u1, .own Ar]),(Ar, .arr (Aj+2) true 1 u2)])):Bw s at_ out Q .ret ⟨[(2,Ab t2)],[(Ae, .blk Ac [As u0,Ai u1, .own Ar]),(Ar, .arr (Aj+2) true 1 u2)]⟩:=kq h
theorem Akv:Be E0.P 128 Ye.code Yj [.tmp 2]:=fq Tryz.func128
theorem Ve(s:LB)(at_:Int)(out:LL)(Q:QQ)(h:
 (Br (decide ((↑s.length:Int)≤at_))
 (Br (!false)
 (Q (Ab false) [(Ae, .blk Ac [As s,Ai at_, .own Ar]),(Ar, .arr (Aj+2) true 1 out)])
 (Call E0.P Ph [As s,Ai at_] [] fun r0 g0=>
 Ag (qP5 g0 r0)
 (Br (decide ((0:Int)<rI r0))
 (Q (Ab true) [(Ae, .blk Ac [As s,Ai (i64.wrap (at_+rI r0)), .own Ar]),(Ar, .arr (Aj+2) true 1 out)])
 (Let (bif decide ((48:Int)≤(0:Int))then decide ((0:Int)≤(55:Int))else false) fun x1=>
 Br (x1)
 (((Call E0.P Dy [.ptr Ae 0] [(Ae, .blk Ac [As s,Ai at_, .own Ar])] fun r2 g2=>
 Ag (A3c g2 r2)
 (Ag ((out.length+1)*1≤140737488355328∧out.length+1≤140737488355328)
 (Q (Ab true) [(Ae, .blk Ac [.imm (.str (rS ((Au g2 Ae).getD 0 AV.undef))), .imm (.int .i64 (rI ((Au g2 Ae).getD 1 AV.undef))), .own Ar]),(Ar, .arr (Aj+2) true 1 (out++[[IV.int .u8 (rI r2)]]))])))∧
 (Call E0.P Dy [.ptr Ae 0] [(Ae, .blk Ac [As s,Ai at_, .own Ar])] fun r3 g3=>
 Ag (A3c g3 r3)
 ((Ag ((out.length+1)*1≤140737488355328∧out.length+1≤140737488355328)
 (Q (Ab true) [(Ae, .blk Ac [.imm (.str (rS ((Au g3 Ae).getD 0 AV.undef))), .imm (.int .i64 (rI ((Au g3 Ae).getD 1 AV.undef))), .own Ar]),(Ar, .arr (Aj+2) true 1 (out++[[IV.int .u8 (rI r3)]]))]))∧
 (Ag ((out.length+1)*1≤140737488355328∧out.length+1≤140737488355328)
 (Q (Ab true) [(Ae, .blk Ac [.imm (.str (rS ((Au g3 Ae).getD 0 AV.undef))), .imm (.int .i64 (rI ((Au g3 Ae).getD 1 AV.undef))), .own Ar]),(Ar, .arr (Aj+2) true 1 (out++[[IV.int .u8 (rI r3)]]))])))))∧
 (Call E0.P Dy [.ptr Ae 0] [(Ae, .blk Ac [As s,Ai at_, .own Ar])] fun r4 g4=>
 Ag (A3c g4 r4)
 (((Ag ((out.length+1)*1≤140737488355328∧out.length+1≤140737488355328)
 (Q (Ab true) [(Ae, .blk Ac [.imm (.str (rS ((Au g4 Ae).getD 0 AV.undef))), .imm (.int .i64 (rI ((Au g4 Ae).getD 1 AV.undef))), .own Ar]),(Ar, .arr (Aj+2) true 1 (out++[[IV.int .u8 (rI r4)]]))]))∧
 (Ag ((out.length+1)*1≤140737488355328∧out.length+1≤140737488355328)
 (Q (Ab true) [(Ae, .blk Ac [.imm (.str (rS ((Au g4 Ae).getD 0 AV.undef))), .imm (.int .i64 (rI ((Au g4 Ae).getD 1 AV.undef))), .own Ar]),(Ar, .arr (Aj+2) true 1 (out++[[IV.int .u8 (rI r4)]]))])))∧
 (Ag ((out.length+1)*1≤140737488355328∧out.length+1≤140737488355328)
 (Q (Ab true) [(Ae, .blk Ac [.imm (.str (rS ((Au g4 Ae).getD 0 AV.undef))), .imm (.int .i64 (rI ((Au g4 Ae).getD 1 AV.undef))), .own Ar]),(Ar, .arr (Aj+2) true 1 (out++[[IV.int .u8 (rI r4)]]))])))))
 (Br (decide ((0:Int)=(110:Int)))
 (Bq ((10:Int)) s (i64.wrap (at_+(1:Int))) out (Bw s at_ out Q))
 (Br (decide ((0:Int)=(114:Int)))
 (Bq ((13:Int)) s (i64.wrap (at_+(1:Int))) out (Bw s at_ out Q))
 (Br (decide ((0:Int)=(116:Int)))
 (Bq ((9:Int)) s (i64.wrap (at_+(1:Int))) out (Bw s at_ out Q))
 (Br (decide ((0:Int)=(98:Int)))
 (Bq ((8:Int)) s (i64.wrap (at_+(1:Int))) out (Bw s at_ out Q))
 (Br (decide ((0:Int)=(102:Int)))
 (Bq ((12:Int)) s (i64.wrap (at_+(1:Int))) out (Bw s at_ out Q))
 (Bq ((0:Int)) s (i64.wrap (at_+(1:Int))) out (Bw s at_ out Q)))))))))))
 (Ag ((0:Int)≤at_∧at_<(↑s.length:Int))
 (Br (!true)
 (Q (Ab false) [(Ae, .blk Ac [As s,Ai at_, .own Ar]),(Ar, .arr (Aj+2) true 1 out)])
 (Call E0.P Ph [As s,Ai at_] [] fun r5 g5=>
 Ag (qP5 g5 r5)
 (Br (decide ((0:Int)<rI r5))
 (Q (Ab true) [(Ae, .blk Ac [As s,Ai (i64.wrap (at_+rI r5)), .own Ar]),(Ar, .arr (Aj+2) true 1 out)])
 (Let (bif decide ((48:Int)≤(↑(s.getD at_.toNat 0).toNat:Int))then
 decide ((↑(s.getD at_.toNat 0).toNat:Int)≤(55:Int))
 else false) fun x6=>
 Br (x6)
 (((Call E0.P Dy [.ptr Ae 0] [(Ae, .blk Ac [As s,Ai at_, .own Ar])] fun r7 g7=>
 Ag (A3c g7 r7)
 (Ag ((out.length+1)*1≤140737488355328∧out.length+1≤140737488355328)
 (Q (Ab true) [(Ae, .blk Ac [.imm (.str (rS ((Au g7 Ae).getD 0 AV.undef))), .imm (.int .i64 (rI ((Au g7 Ae).getD 1 AV.undef))), .own Ar]),(Ar, .arr (Aj+2) true 1 (out++[[IV.int .u8 (rI r7)]]))])))∧
 (Call E0.P Dy [.ptr Ae 0] [(Ae, .blk Ac [As s,Ai at_, .own Ar])] fun r8 g8=>
 Ag (A3c g8 r8)
 ((Ag ((out.length+1)*1≤140737488355328∧out.length+1≤140737488355328)
 (Q (Ab true) [(Ae, .blk Ac [.imm (.str (rS ((Au g8 Ae).getD 0 AV.undef))), .imm (.int .i64 (rI ((Au g8 Ae).getD 1 AV.undef))), .own Ar]),(Ar, .arr (Aj+2) true 1 (out++[[IV.int .u8 (rI r8)]]))]))∧
 (Ag ((out.length+1)*1≤140737488355328∧out.length+1≤140737488355328)
 (Q (Ab true) [(Ae, .blk Ac [.imm (.str (rS ((Au g8 Ae).getD 0 AV.undef))), .imm (.int .i64 (rI ((Au g8 Ae).getD 1 AV.undef))), .own Ar]),(Ar, .arr (Aj+2) true 1 (out++[[IV.int .u8 (rI r8)]]))])))))∧
 (Call E0.P Dy [.ptr Ae 0] [(Ae, .blk Ac [As s,Ai at_, .own Ar])] fun r9 g9=>
 Ag (A3c g9 r9)
 (((Ag ((out.length+1)*1≤140737488355328∧out.length+1≤140737488355328)
 (Q (Ab true) [(Ae, .blk Ac [.imm (.str (rS ((Au g9 Ae).getD 0 AV.undef))), .imm (.int .i64 (rI ((Au g9 Ae).getD 1 AV.undef))), .own Ar]),(Ar, .arr (Aj+2) true 1 (out++[[IV.int .u8 (rI r9)]]))]))∧
 (Ag ((out.length+1)*1≤140737488355328∧out.length+1≤140737488355328)
 (Q (Ab true) [(Ae, .blk Ac [.imm (.str (rS ((Au g9 Ae).getD 0 AV.undef))), .imm (.int .i64 (rI ((Au g9 Ae).getD 1 AV.undef))), .own Ar]),(Ar, .arr (Aj+2) true 1 (out++[[IV.int .u8 (rI r9)]]))])))∧
 (Ag ((out.length+1)*1≤140737488355328∧out.length+1≤140737488355328)
 (Q (Ab true) [(Ae, .blk Ac [.imm (.str (rS ((Au g9 Ae).getD 0 AV.undef))), .imm (.int .i64 (rI ((Au g9 Ae).getD 1 AV.undef))), .own Ar]),(Ar, .arr (Aj+2) true 1 (out++[[IV.int .u8 (rI r9)]]))])))))
 (Br (decide ((↑(s.getD at_.toNat 0).toNat:Int)=(110:Int)))
 (Bq ((10:Int)) s (i64.wrap (at_+(1:Int))) out (Bw s at_ out Q))
 (Br (decide ((↑(s.getD at_.toNat 0).toNat:Int)=(114:Int)))
 (Bq ((13:Int)) s (i64.wrap (at_+(1:Int))) out (Bw s at_ out Q))
 (Br (decide ((↑(s.getD at_.toNat 0).toNat:Int)=(116:Int)))
 (Bq ((9:Int)) s (i64.wrap (at_+(1:Int))) out (Bw s at_ out Q))
 (Br (decide ((↑(s.getD at_.toNat 0).toNat:Int)=(98:Int)))
 (Bq ((8:Int)) s (i64.wrap (at_+(1:Int))) out (Bw s at_ out Q))
 (Br (decide ((↑(s.getD at_.toNat 0).toNat:Int)=(102:Int)))
 (Bq ((12:Int)) s (i64.wrap (at_+(1:Int))) out (Bw s at_ out Q))
 (Bq ((↑(s.getD at_.toNat 0).toNat:Int)) s (i64.wrap (at_+(1:Int))) out (Bw s at_ out Q)))))))))))))):Call E0.P Kn [.ptr (.arg 0) 0] [(.arg 0, .blk Ac [.imm (.str s), .imm (.int .i64 at_), .own (.arg 1)]),(.arg 1, .arr (Aj+2) true 1 out)] Q:=fR 0 Akv h
noncomputable def A6l:AC:=(A8 [] [2] (codeOf Tryz.f130) 0).1
abbrev A8c:Nat:=35
theorem A8g:Be E0.P 130 A6l.code A8c [.tmp 2]:=fq Tryz.func130
theorem A08(a0:Int)(Q:QQ)(h:
 (Let (bif decide ((48:Int)≤a0)then decide (a0≤(57:Int))else false) fun x0=>
 Br (x0)
 (Q (.imm (.int .i64 (i64.wrap (IntKind.u8.wrap (a0 - (48:Int)))))) [])
 (Let (bif decide ((65:Int)≤a0)then decide (a0≤(70:Int))else false) fun x1=>
 Br (x1)
 (Q (.imm (.int .i64 (i64.wrap (i64.wrap (IntKind.u8.wrap (a0 - (65:Int)))+(10:Int))))) [])
 (Let (bif decide ((97:Int)≤a0)then decide (a0≤(102:Int))else false) fun x2=>
 Br (x2)
 (Q (.imm (.int .i64 (i64.wrap (i64.wrap (IntKind.u8.wrap (a0 - (97:Int)))+(10:Int))))) [])
 (Q (Ai (-1)) []))))):Call E0.P Ws [.imm (.int .u8 a0)] [] Q:=fR 0 A8g h
noncomputable def Alb:AC:=(A8 [(4,[6,7],[])] [2,3] (codeOf Tryz.f131) 0).1
abbrev Ali:Nat:=23
def Sk(t6 t7:Int)(K:KK):Prop:=Aq 4 E0.P Ali (Am 4 Alb).code ⟨[(6,Ai t6),(7,Ai t7)],[]⟩ K
def Aat(Q:QQ):KK:=kE fun st=>finish 0 E0.T [.tmp 2, .tmp 3] [] Q st
theorem Aqo(t6 t7:Int)(K:KK)(h:
 (K .ret ⟨[(2,Ai t6),(3,Ai t7)],[]⟩)):Sk t6 t7 K:=cR [] h
theorem Arc(Q:QQ)(t2 t3:Int)(h:
 (Q (.tup [Ai t2,Ai t3]) [])):Aat Q .ret ⟨[(2,Ai t2),(3,Ai t3)],[]⟩:=kq h
theorem A0j:Be E0.P 131 Alb.code Ali [.tmp 2, .tmp 3]:=fq Tryz.func131
theorem Ave(a0:LB)(Q:QQ)(h:
 (Call E0.P Og [As a0, .imm (.str [43,45])] [] fun r0 g0=>
 Ag (g0=[]∧r0= .tup [.imm (.bool (rB (rT r0 0))), .imm (.str (rS (rT r0 1)))])
 (Call E0.P Ac2 [As (rS (rT r0 1))] [] fun r1 g1=>
 Ag (qP9 g1 r1)
 (Br (rB (rT r0 0))
 (Sk (i64.wrap ((0:Int) - rI (rT r1 0))) (rI (rT r1 1)) (Aat Q))
 (Sk (rI (rT r1 0)) (rI (rT r1 1)) (Aat Q)))))):Call E0.P Ac3 [As a0] [] Q:=fR 0 A0j h
noncomputable def Lh:AC:=(A8 [(3,[0,3,6],[]),(5,[3],[]),(9,[3],[]),(13,[3],[])] [2] (codeOf Tryz.f149) 0).1
abbrev Ll:Nat:=39
def Hy(t3 t6:Int)(u0:LB)(u1:Int)(K:KK):Prop:=Bc 3 E0.P Ll (A9 3 Lh).code ⟨[(0, .ptr Ae 0),(3,Ai t3),(6,Ai t6)],[(Ae, .blk Ac [As u0,Ai u1, .own Ar])]⟩ K
def V6(t3:Int)(u0:LB)(u1:Int)(K:KK):Prop:=Aq 13 E0.P Ll (Am 13 Lh).code ⟨[(3,Ai t3)],[(Ae, .blk Ac [As u0,Ai u1, .own Ar])]⟩ K
def Pb(s:LB)(at_:Int)(Q:QQ):KK:=kE fun st=>finish (4) E0.T [.tmp 2] [(Ae, .blk Ac [As s,Ai at_, .own Ar])] Q st
def Yc(s:LB)(at_:Int)(Q:QQ):KK:=kF 0 (fun st=>Aq 13 E0.P Ll (Am 13 Lh).code (mask [3] st) (Pb s at_ Q)) fun st=>finish (4) E0.T [.tmp 2] [(Ae, .blk Ac [As s,Ai at_, .own Ar])] Q st
theorem Uo(t3 t6:Int)(u0:LB)(u1:Int)(K:KK)(h:
 (Br (decide (t6<(3:Int)))
 (Br (decide ((↑u0.length:Int)≤u1))
 (Let (bif !false then true else decide ((0:Int)<(48:Int))) fun x0=>
 Let (bif x0 then true else decide ((55:Int)<(0:Int))) fun x1=>
 Br (x1)
 (K (.exit 0) ⟨[(3,Ai t3)],[(Ae, .blk Ac [As u0,Ai u1, .own Ar])]⟩)
 (Ag ((0:Int)≤(3:Int))
 (Hy (i64.wrap
 (↑(BitVec.ofInt (64:Nat) (i64.wrap (t3*(2:Int) ^ (3:Nat))) |||
 BitVec.ofInt (64:Nat) (i64.wrap (IntKind.u8.wrap ((0:Int) - (48:Int))))).toNat:
 Int)) (i64.wrap (t6+(1:Int))) u0 (i64.wrap (u1+(1:Int))) K)))
 (Ag ((0:Int)≤u1∧u1<(↑u0.length:Int))
 (Let (bif !true then true else decide ((↑(u0.getD u1.toNat 0).toNat:Int)<(48:Int))) fun x2=>
 Let (bif x2 then true else decide ((55:Int)<(↑(u0.getD u1.toNat 0).toNat:Int))) fun x3=>
 Br (x3)
 (K (.exit 0) ⟨[(3,Ai t3)],[(Ae, .blk Ac [As u0,Ai u1, .own Ar])]⟩)
 (Ag ((0:Int)≤(3:Int))
 (Hy (i64.wrap
 (↑(BitVec.ofInt (64:Nat) (i64.wrap (t3*(2:Int) ^ (3:Nat))) |||
 BitVec.ofInt (64:Nat)
 (i64.wrap
 (IntKind.u8.wrap ((↑(u0.getD u1.toNat 0).toNat:Int) - (48:Int))))).toNat:
 Int)) (i64.wrap (t6+(1:Int))) u0 (i64.wrap (u1+(1:Int))) K)))))
 (K (.exit 0) ⟨[(3,Ai t3)],[(Ae, .blk Ac [As u0,Ai u1, .own Ar])]⟩))):Hy t3 t6 u0 u1 K:=lR [0,3,6] h
theorem Afj(t3:Int)(u0:LB)(u1:Int)(K:KK)(h:
 (K .ret ⟨[(2, .imm (.int .u8 (IntKind.u8.wrap t3)))],[(Ae, .blk Ac [As u0,Ai u1, .own Ar])]⟩)):V6 t3 u0 u1 K:=cR [] h
theorem Ago(s:LB)(at_:Int)(Q:QQ)(t2:Int)(u0:LB)(u1:Int)(h:
 (Q (.imm (.int .u8 t2)) [(Ae, .blk Ac [As u0,Ai u1, .own Ar])])):Pb s at_ Q .ret ⟨[(2, .imm (.int .u8 t2))],[(Ae, .blk Ac [As u0,Ai u1, .own Ar])]⟩:=kq h
theorem Agp(s:LB)(at_:Int)(Q:QQ)(t3:Int)(u0:LB)(u1:Int)(h:
 (V6 t3 u0 u1 (Pb s at_ Q))):Yc s at_ Q (.exit 0) ⟨[(3,Ai t3)],[(Ae, .blk Ac [As u0,Ai u1, .own Ar])]⟩:=kq h
theorem Amg:Be E0.P 149 Lh.code Ll [.tmp 2]:=fq Tryz.func149
theorem Ai8(s:LB)(at_:Int)(Q:QQ)(h:
 (Hy ((0:Int)) ((0:Int)) s at_ (Yc s at_ Q))):Call E0.P Dy [.ptr (.arg 0) 0] [(.arg 0, .blk Ac [.imm (.str s), .imm (.int .i64 at_), .own (.arg 1)])] Q:=fR 4 Amg h
noncomputable def Ti:AC:=(A8 [(1,[0,14],[0]),(3,[0],[])] [4,5] (codeOf Tryz.f150) 0).1
abbrev Uf:Nat:=21
def Yk(t0:LB)(t14:Bool)(K:KK):Prop:=Aq 1 E0.P Uf (Am 1 Ti).code ⟨[(0,As t0),(14,Ab t14)],[]⟩ K
def Ag8(t0:LB)(K:KK):Prop:=Aq 3 E0.P Uf (Am 3 Ti).code ⟨[(0,As t0)],[]⟩ K
def Yo(Q:QQ):KK:=kE fun st=>finish 0 E0.T [.tmp 4, .tmp 5] [] Q st
def Q4(Q:QQ):Ex→St→Prop
 | .normal,st=>Aq 3 E0.P Uf (Am 3 Ti).code (mask [0] st) (Yo Q)
 | .exit _,_=>False
 | .goto _,_=>False
 | .ret,st=>finish 0 E0.T [.tmp 4, .tmp 5] [] Q st
theorem Abw(t0:LB)(t14:Bool)(K:KK)(h:
 (Br (t14)
 (K .ret ⟨[(4,Ab false),(5,As t0)],[]⟩)
 (K .normal ⟨[(0,As t0)],[]⟩))):Yk t0 t14 K:=cR [0] h
theorem Aor(t0:LB)(K:KK)(h:
 (Ag ((0:Int)≤(0:Int)∧(0:Int)<(↑t0.length:Int))
 (Ag ((0:Int)≤(1:Int)∧(1:Int)≤(↑t0.length:Int))
 (Let (List.drop 1 t0) fun x0=>
 K .ret ⟨[(4, .imm (.bool (decide ((↑(t0.getD (0:Nat) 0).toNat:Int)=(45:Int))))),(5,As x0)],[]⟩)))):Ag8 t0 K:=cR [] h
theorem Aoy(Q:QQ)(t4:Bool)(t5:LB)(h:
 (Q (.tup [Ab t4,As t5]) [])):Yo Q .ret ⟨[(4,Ab t4),(5,As t5)],[]⟩:=kq h
theorem Ab1(Q:QQ)(t4:Bool)(t5:LB)(h:
 (Q (.tup [Ab t4,As t5]) [])):Q4 Q .ret ⟨[(4,Ab t4),(5,As t5)],[]⟩:=kq h
theorem Aoz(Q:QQ)(t0:LB)(h:
 (Ag8 t0 (Yo Q))):Q4 Q .normal ⟨[(0,As t0)],[]⟩:=kq h
theorem Ayd:Be E0.P 150 Ti.code Uf [.tmp 4, .tmp 5]:=fq Tryz.func150
theorem Afm(a0 a1:LB)(Q:QQ)(h:
 (Ag ((a0 == [])=false→(0:Int)≤(1:Int)∧(1:Int)≤(↑a0.length:Int))
 (Let (List.take 1 a0) fun x0=>
 Br ((a0 == []) == false)
 (Call E0.P Ady [As a1,As x0] [] fun r1 g1=>
 Ag (qP8 g1 r1)
 (Let (!rB r1) fun x2=>
 Yk a0 x2 (Q4 Q)))
 (Ag ((!false)=true)
 (Let (true) fun x3=>
 Yk a0 x3 (Q4 Q)))))):Call E0.P Og [As a0,As a1] [] Q:=fR 0 Ayd h
noncomputable def Jj:AC:=(A8 [(1,[0,15],[0]),(3,[0],[]),(7,[4,5,6],[]),(9,[5],[]),(15,[5],[])] [2,3] (codeOf Tryz.f151) 0).1
abbrev Jr:Nat:=31
def Aaj(t0:LB)(t15:Bool)(K:KK):Prop:=Aq 1 E0.P Jr (Am 1 Jj).code ⟨[(0,As t0),(15,Ab t15)],[]⟩ K
def Aiz(t0:LB)(K:KK):Prop:=Aq 3 E0.P Jr (Am 3 Jj).code ⟨[(0,As t0)],[]⟩ K
def D8(t5 t6 u0:Int)(u1:LB)(K:KK):Prop:=Bc 7 E0.P Jr (A9 7 Jj).code ⟨[(4, .fn Av2 [.ptr (Nm.sub 17 nL3) 0, .ptr (Nm.sub 17 Fh) 0]),(5,Ai t5),(6,Ai t6)],[((Nm.sub 17 nL3), .blk Gg [Ai u0]),((Nm.sub 17 Fh), .blk Qj [As u1])]⟩ K
def Ag7(t5:Int)(K:KK):Prop:=Aq 15 E0.P Jr (Am 15 Jj).code ⟨[(5,Ai t5)],[]⟩ K
def Aar(Q:QQ):KK:=kE fun st=>finish 0 E0.T [.tmp 2, .tmp 3] [] Q st
def Sv(Q:QQ):Ex→St→Prop
 | .normal,st=>Aq 3 E0.P Jr (Am 3 Jj).code (mask [0] st) (Aar Q)
 | .exit _,_=>False
 | .goto _,_=>False
 | .ret,st=>finish 0 E0.T [.tmp 2, .tmp 3] [] Q st
def Aas(K:KK):KK:=kP [] K
def Kv(K:KK):KK:=kC 0 (fun st=>Aq 15 E0.P Jr (Am 15 Jj).code (mask [5] st) (Aas K)) K
theorem Ado(t0:LB)(t15:Bool)(K:KK)(h:
 (Br (t15)
 (K .ret ⟨[(2,Ai 0),(3,Ai 4)],[]⟩)
 (K .normal ⟨[(0,As t0)],[]⟩))):Aaj t0 t15 K:=cR [0] h
theorem Aqn(t0:LB)(K:KK)(h:
 (Ag (decide ((↑t0.length:Int)≤(0:Int))=false→(0:Int)≤(0:Int)∧(0:Int)<(↑t0.length:Int))
 (Br (decide ((↑t0.length:Int)≤(0:Int)) == false)
 (Call E0.P Qc [.imm (.int .i32 (IntKind.i32.wrap (↑(t0.getD (0:Nat) 0).toNat:Int)))] [] fun r0 g0=>
 Ag (qP8 g0 r0)
 (Let (!rB r0) fun x1=>
 Br (x1)
 (D8 ((0:Int)) ((-1:Int)) ((0:Int)) t0 (Kv K))
 (Ag ((0:Int)≤i64.wrap (i64.wrap ((0:Int)+(1:Int)) - (1:Int))∧
 i64.wrap (i64.wrap ((0:Int)+(1:Int)) - (1:Int))<(↑t0.length:Int))
 (D8 ((0:Int)) (i64.wrap (IntKind.u8.wrap ((↑(t0.getD (0:Nat) 0).toNat:Int) - (48:Int)))) (i64.wrap ((0:Int)+(1:Int))) t0 (Kv K)))))
 (Ag ((!false)=true)
 (Let (true) fun x2=>
 Br (x2)
 (D8 ((0:Int)) ((-1:Int)) ((0:Int)) t0 (Kv K))
 (Ag ((0:Int)≤i64.wrap (i64.wrap ((0:Int)+(1:Int)) - (1:Int))∧
 i64.wrap (i64.wrap ((0:Int)+(1:Int)) - (1:Int))<(↑t0.length:Int))
 (D8 ((0:Int)) (i64.wrap (IntKind.u8.wrap ((↑(t0.getD (0:Nat) 0).toNat:Int) - (48:Int)))) (i64.wrap ((0:Int)+(1:Int))) t0 (Kv K)))))))):Aiz t0 K:=cR [] h
theorem Adt(t5 t6 u0:Int)(u1:LB)(K:KK)(h:
 (Br (decide ((0:Int)≤t6))
 (Br (decide ((2147483647:Int)<i64.wrap (i64.wrap ((10:Int)*t5)+t6)))
 (K .ret ⟨[(2,Ai 0),(3,Ai 3)],[]⟩)
 (Ag (decide ((↑u1.length:Int)≤u0)=false→(0:Int)≤u0∧u0<(↑u1.length:Int))
 (Br (decide ((↑u1.length:Int)≤u0) == false)
 (Call E0.P Qc [.imm (.int .i32 (IntKind.i32.wrap (↑(u1.getD u0.toNat 0).toNat:Int)))] [] fun r0 g0=>
 Ag (qP8 g0 r0)
 (Let (!rB r0) fun x1=>
 Br (x1)
 (D8 (i64.wrap (i64.wrap ((10:Int)*t5)+t6)) ((-1:Int)) u0 u1 K)
 (Ag ((0:Int)≤i64.wrap (i64.wrap (u0+(1:Int)) - (1:Int))∧
 i64.wrap (i64.wrap (u0+(1:Int)) - (1:Int))<(↑u1.length:Int))
 (D8 (i64.wrap (i64.wrap ((10:Int)*t5)+t6)) (i64.wrap
 (IntKind.u8.wrap
 ((↑(u1.getD (i64.wrap (i64.wrap (u0+(1:Int)) - (1:Int))).toNat 0).toNat:
 Int) -
 (48:Int)))) (i64.wrap (u0+(1:Int))) u1 K))))
 (Ag ((!false)=true)
 (Let (true) fun x2=>
 Br (x2)
 (D8 (i64.wrap (i64.wrap ((10:Int)*t5)+t6)) ((-1:Int)) u0 u1 K)
 (Ag ((0:Int)≤i64.wrap (i64.wrap (u0+(1:Int)) - (1:Int))∧
 i64.wrap (i64.wrap (u0+(1:Int)) - (1:Int))<(↑u1.length:Int))
 (D8 (i64.wrap (i64.wrap ((10:Int)*t5)+t6)) (i64.wrap
 (IntKind.u8.wrap
 ((↑(u1.getD (i64.wrap (i64.wrap (u0+(1:Int)) - (1:Int))).toNat 0).toNat:
 Int) -
 (48:Int)))) (i64.wrap (u0+(1:Int))) u1 K)))))))
 (K (.exit 0) ⟨[(5,Ai t5)],[]⟩))):D8 t5 t6 u0 u1 K:=lR [4,5,6] h
theorem Aoq(t5:Int)(K:KK)(h:
 (K .ret ⟨[(2,Ai t5),(3,Ai 0)],[]⟩)):Ag7 t5 K:=cR [] h
theorem Adq(Q:QQ)(t2 t3:Int)(h:
 (Q (.tup [Ai t2,Ai t3]) [])):Aar Q .ret ⟨[(2,Ai t2),(3,Ai t3)],[]⟩:=kq h
theorem Adr(Q:QQ)(t2 t3:Int)(h:
 (Q (.tup [Ai t2,Ai t3]) [])):Sv Q .ret ⟨[(2,Ai t2),(3,Ai t3)],[]⟩:=kq h
theorem Aq8(Q:QQ)(t0:LB)(h:
 (Aiz t0 (Aar Q))):Sv Q .normal ⟨[(0,As t0)],[]⟩:=kq h
theorem Aq9(K:KK)(t2 t3:Int)(h:
 (K .ret ⟨[(2,Ai t2),(3,Ai t3)],[]⟩)):Aas K .ret ⟨[(2,Ai t2),(3,Ai t3)],[]⟩:=kq h
theorem Ara(K:KK)(t2 t3:Int)(h:
 (K .ret ⟨[(2,Ai t2),(3,Ai t3)],[]⟩)):Kv K .ret ⟨[(2,Ai t2),(3,Ai t3)],[]⟩:=kq h
theorem Arb(K:KK)(t5:Int)(h:
 (Ag7 t5 (Aas K))):Kv K (.exit 0) ⟨[(5,Ai t5)],[]⟩:=kq h
theorem A0i:Be E0.P 151 Jj.code Jr [.tmp 2, .tmp 3]:=fq Tryz.func151
theorem Avd(a0:LB)(Q:QQ)(h:
 (Br ((a0 == []) == false)
 (Call E0.P Ac1 [As a0] [] fun r0 g0=>
 Ag (qP5 g0 r0)
 (Let (!decide (rI r0=(↑a0.length:Int))) fun x1=>
 Aaj a0 x1 (Sv Q)))
 (Ag ((!false)=true)
 (Let (true) fun x2=>
 Aaj a0 x2 (Sv Q))))):Call E0.P Ac2 [As a0] [] Q:=fR 0 A0i h
noncomputable def Vp:AC:=(A8 [(2,[0,6],[]),(4,[0],[]),(9,[0],[])] [2] (codeOf Tryz.f165) 0).1
abbrev Vv:Nat:=17
def Ta(t0 h6s:LB)(h6p:Nat)(K:KK):Prop:=Bc 2 E0.P Vv (A9 2 Vp).code ⟨[(0,As t0),(6, .ptr Ng 0)],[(Ng, .sit h6s h6p)]⟩ K
def Aiy(t0:LB)(K:KK):Prop:=Aq 9 E0.P Vv (Am 9 Vp).code ⟨[(0,As t0)],[]⟩ K
def Aap(Q:QQ):KK:=kE fun st=>finish 0 E0.T [.tmp 2] [] Q st
def Aaq(Q:QQ):KK:=kF 0 (fun st=>Aq 9 E0.P Vv (Am 9 Vp).code (mask [0] st) (Aap Q)) fun st=>finish 0 E0.T [.tmp 2] [] Q st
theorem Arh(t0 h6s:LB)(h6p:Nat)(K:KK)(h:
 (Br (decide (h6p<h6s.length))
 (Br (true)
 (Call E0.P Qc [.imm (.int .i32 ((↑(Gn h6s h6p).fst:Int)))] [] fun r0 g0=>
 Ag (qP8 g0 r0)
 (Br (!rB r0)
 (K .ret ⟨[(2,Ai ((↑h6p:Int)))],[]⟩)
 (Ta t0 h6s (h6p+(Gn h6s h6p).snd) K)))
 (K (.exit 0) ⟨[(0,As t0)],[]⟩))
 (Br (false)
 (False)
 (K (.exit 0) ⟨[(0,As t0)],[]⟩)))):Ta t0 h6s h6p K:=lR [0,6] h
theorem Aqm(t0:LB)(K:KK)(h:
 (K .ret ⟨[(2,Ai ((↑t0.length:Int)))],[]⟩)):Aiy t0 K:=cR [] h
theorem Aq5(Q:QQ)(t2:Int)(h:
 (Q (Ai t2) [])):Aap Q .ret ⟨[(2,Ai t2)],[]⟩:=kq h
theorem Aq6(Q:QQ)(t2:Int)(h:
 (Q (Ai t2) [])):Aaq Q .ret ⟨[(2,Ai t2)],[]⟩:=kq h
theorem Aq7(Q:QQ)(t0:LB)(h:
 (Aiy t0 (Aap Q))):Aaq Q (.exit 0) ⟨[(0,As t0)],[]⟩:=kq h
theorem A0h:Be E0.P 165 Vp.code Vv [.tmp 2]:=fq Tryz.func165
theorem Avc(a0:LB)(Q:QQ)(h:
 (Ta a0 a0 0 (Aaq Q))):Call E0.P Ac1 [As a0] [] Q:=fR 0 A0h h
noncomputable def Azk:AC:=(A8 [] [2] (codeOf Tryz.f171) 0).1
abbrev A0b:Nat:=9
theorem A0k:Be E0.P 171 Azk.code A0b [.tmp 2]:=fq Tryz.func171
theorem Avf(a0:Int)(Q:QQ)(h:
 (Let (bif decide ((48:Int)≤a0)then decide (a0≤(57:Int))else false) fun x0=>
 Q (Ab x0) [])):Call E0.P Qc [.imm (.int .i32 a0)] [] Q:=fR 0 A0k h
end
end Go.Proofs.Sim.Se

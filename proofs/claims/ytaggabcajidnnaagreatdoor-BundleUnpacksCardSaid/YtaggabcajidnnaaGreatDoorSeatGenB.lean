import Derived.Test.YtaggabcajidnnaaGreatDoorSeatBase
set_option maxRecDepth 100000
set_option maxHeartbeats 4000000
namespace Go.Proofs.Sim.Se
open Go Go.Proofs Go.Proofs.Sim Go.IntKind
noncomputable section
abbrev qB0(G:Heap)(R:AV):Prop:=G=[]∧R= .imm (.bool (rB R))
abbrev qB1(G:Heap)(R:AV):Prop:=G=[]∧R= .tup [.imm (IV.agg [.int .i64 (gI (Ac (rT R 0)) 0), .int .i64 (gI (Ac (rT R 0)) 1), .int .i64 (gI (Ac (rT R 0)) 2), .str (gS (Ac (rT R 0)) 3), .sl SK.any 6 (gR (Ac (rT R 0)) 4), .sl SK.any 7 (gR (Ac (rT R 0)) 5)]), .imm (.int .i64 (rI (rT R 1)))]
abbrev qB2(G:Heap)(R:AV):Prop:=G=[]∧R= .tup [.imm (.sl SK.any 8 (rR (rT R 0))), .imm (.int .i64 (rI (rT R 1)))]
abbrev qB3(G:Heap)(R:AV):Prop:=G=[]∧R= .tup [.imm (IV.agg [.int .i64 (gI (Ac (rT R 0)) 0), .int .i64 (gI (Ac (rT R 0)) 1), .int .i64 (gI (Ac (rT R 0)) 2), .str (gS (Ac (rT R 0)) 3), .sl SK.any 6 (gR (Ac (rT R 0)) 4), .sl SK.any 7 (gR (Ac (rT R 0)) 5)]), .imm (.bool (rB (rT R 1)))]
abbrev qB4(G:Heap)(R:AV):Prop:=G=[]∧R= .tup [.imm (.str (rS (rT R 0))), .imm (.int .i64 (rI (rT R 1)))]
abbrev qB5(G:Heap)(R:AV):Prop:=G=[]∧R= .imm (IV.agg [.str (gS (Ac R) 0), .int .i64 (gI (Ac R) 1), .int .i64 (gI (Ac R) 2), .int .i64 (gI (Ac R) 3), .str (gS (Ac R) 4), .sl SK.any 6 (gR (Ac R) 5), .sl SK.any 7 (gR (Ac R) 6)])
abbrev qB6(G:Heap)(R:AV):Prop:=G=[]∧R= .tup [.imm (.sl SK.any 1 (rR (rT R 0))), .imm (.int .i64 (rI (rT R 1)))]
abbrev qB7(G:Heap)(R:AV):Prop:=G=[]∧R= .tup [.imm (IV.agg [.int .i64 (gI (Ac (rT R 0)) 0), .int .i64 (gI (Ac (rT R 0)) 1), .str (gS (Ac (rT R 0)) 2), .int .i64 (gI (Ac (rT R 0)) 3), .int .i64 (gI (Ac (rT R 0)) 4)]), .imm (.int .i64 (rI (rT R 1)))]
noncomputable def Auh:AC:=(A7 [] [2] (codeOf Tryz.f4) 0).1
abbrev Au4:Nat:=32
theorem Au6:Bd E0.P 4 Auh.code Au4 [.tmp 2]:=fq Tryz.func4
theorem Aql(a0_0 a0_1 a0_2:Int)(a0_3:LB)(a0_4 a0_5:LL)(Q:QQ)(h:
 (Call E0.P Aut [.imm (.agg [.int .i64 a0_0, .int .i64 a0_1, .int .i64 a0_2, .str a0_3, .sl .any 6 a0_4, .sl .any 7 a0_5]),Ai 300] [] fun r0 g0=>
 Ag (qB0 g0 r0)
 (Br (!rB r0)
 (Call E0.P Zn [] [] fun r1 g1=>
 Ag (qB0 g1 r1)
 (Q (Ab (rB r1)) []))
 (Call E0.P Ld [.imm (.agg [.int .i64 a0_0, .int .i64 a0_1, .int .i64 a0_2, .str a0_3, .sl .any 6 a0_4, .sl .any 7 a0_5])] [] fun r2 g2=>
 Ag (qB2 g2 r2)
 (Call E0.P Akc [.imm (.agg [.int .i64 a0_0, .int .i64 a0_1, .int .i64 a0_2, .str a0_3, .sl .any 6 a0_4, .sl .any 7 a0_5])] [] fun r3 g3=>
 Ag (qB2 g3 r3)
 (Call E0.P Abg [Al 8 (rR (rT r2 0)),Al 8 (rR (rT r3 0))] [] fun r4 g4=>
 Ag (qB0 g4 r4)
 (Let (bif rB r4 then decide (rI (rT r2 1)=rI (rT r3 1))else false) fun x5=>
 Br (x5 == true)
 (Call E0.P Zn [] [] fun r6 g6=>
 Ag (qB0 g6 r6)
 (Let (rB r6) fun x7=>
 Q (Ab x7) []))
 (Ag ((!true)=false)
 (Let (false) fun x8=>
 Q (Ab x8) []))))))))):Call E0.P Ae9 [.imm (.agg [.int .i64 a0_0, .int .i64 a0_1, .int .i64 a0_2, .str a0_3, .sl .any 6 a0_4, .sl .any 7 a0_5])] [] Q:=fR 0 Au6 h
noncomputable def Ba2:AC:=(A7 [] [0] (codeOf Tryz.f7) 0).1
abbrev Bbu:Nat:=77
theorem Bb6:Bd E0.P 7 Ba2.code Bbu [.tmp 0]:=fq Tryz.func7
theorem A3g(Q:QQ)(h:
 (Call E0.P Zm [.imm (.sl .any 8 [[IV.int .i64 (3:Int), .int .i64 (0:Int), .int .i64 (1:Int),
 .int .i64 (1:Int), .int .i64 (0:Int), .str [], .sl SK.any 6 [],
 .sl SK.any 7 []],
 [.int .i64 (5:Int), .int .i64 (0:Int), .int .i64 (2:Int),
 .int .i64 (7:Int), .int .i64 (0:Int), .str [], .sl SK.any 6 [],
 .sl SK.any 7 []]])] [] fun r0 g0=>
 Ag (qB1 g0 r0)
 (Call E0.P Ld [.imm (.agg [.int .i64 (gI (Ac (rT r0 0)) 0), .int .i64 (gI (Ac (rT r0 0)) 1), .int .i64 (gI (Ac (rT r0 0)) 2), .str (gS (Ac (rT r0 0)) 3), .sl .any 6 (gR (Ac (rT r0 0)) 4), .sl .any 7 (gR (Ac (rT r0 0)) 5)])] [] fun r1 g1=>
 Ag (qB2 g1 r1)
 (Call E0.P Zm [.imm (.sl .any 8 [])] [] fun r2 g2=>
 Ag (qB1 g2 r2)
 (Call E0.P Ld [.imm (.agg [.int .i64 0, .int .i64 0, .int .i64 0, .str [], .sl .any 6 [], .sl .any 7 []])] [] fun r3 g3=>
 Ag (qB2 g3 r3)
 (Call E0.P Tt [.imm (.agg [.int .i64 (gI (Ac (rT r0 0)) 0), .int .i64 (gI (Ac (rT r0 0)) 1), .int .i64 (gI (Ac (rT r0 0)) 2), .str (gS (Ac (rT r0 0)) 3), .sl .any 6 (gR (Ac (rT r0 0)) 4), .sl .any 7 (gR (Ac (rT r0 0)) 5)]), .imm (.str [70,105,114,115,116])] [] fun r4 g4=>
 Ag (qB3 g4 r4)
 (Let (bif
 gS (Ac (rT r0 0)) 3 ==
 [(51:UInt8),32,48,32,53,32,53,10,
 116,114,117,101,10,55,10]then
 decide (rI (rT r0 1)=(0:Int))
 else false) fun x5=>
 Br (x5 == true)
 (Call E0.P Abg [.imm (.sl .any 8 [[IV.int .i64 (3:Int), .int .i64 (0:Int), .int .i64 (1:Int),
 .int .i64 (1:Int), .int .i64 (0:Int), .str [], .sl SK.any 6 [],
 .sl SK.any 7 []],
 [.int .i64 (5:Int), .int .i64 (0:Int), .int .i64 (2:Int),
 .int .i64 (7:Int), .int .i64 (0:Int), .str [], .sl SK.any 6 [],
 .sl SK.any 7 []]]),Al 8 (rR (rT r1 0))] [] fun r6 g6=>
 Ag (qB0 g6 r6)
 (Let (rB r6) fun x7=>
 Let (bif x7 then decide (rI (rT r1 1)=(0:Int))else false) fun x8=>
 Let (bif x8 then decide (rI (rT r2 1)=(8:Int))else false) fun x9=>
 Let (bif x9 then decide (rI (rT r3 1)=(10:Int))else false) fun x10=>
 Let (bif x10 then rB (rT r4 1)else false) fun x11=>
 Let (bif x11 then decide (gI (Ac (rT r4 0)) 1=(8:Int))else false) fun x12=>
 Let (bif x12 then true else false) fun x13=>
 Let (bif x13 then true else false) fun x14=>
 Q (Ab x14) []))
 (Ag ((!true)=false)
 (Let (false) fun x15=>
 Let (bif x15 then decide (rI (rT r1 1)=(0:Int))else false) fun x16=>
 Let (bif x16 then decide (rI (rT r2 1)=(8:Int))else false) fun x17=>
 Let (bif x17 then decide (rI (rT r3 1)=(10:Int))else false) fun x18=>
 Let (bif x18 then rB (rT r4 1)else false) fun x19=>
 Let (bif x19 then decide (gI (Ac (rT r4 0)) 1=(8:Int))else false) fun x20=>
 Let (bif x20 then true else false) fun x21=>
 Let (bif x21 then true else false) fun x22=>
 Q (Ab x22) []))))))))):Call E0.P Zn [] [] Q:=fR 0 Bb6 h
noncomputable def Zh:AC:=(A7 [(7,[0,2,4,5,21,22,23],[]),(9,[0,2,4,5],[]),(21,[0,2,4,5],[])] [2,3] (codeOf Tryz.f8) 0).1
abbrev Zu:Nat:=79
def W9(t0r:LL)(t5:LB)(t21r:LL)(t22 t23:Int)(u0 u1 u2:Int)(u3:LB)(u4 u5 u6:LL)(K:KK):Prop:=Ba 7 E0.P Zu (A9 7 Zh).code ⟨[(0,Al 8 t0r),(2, .ptr nL2 0),(4, .own nL4),(5,As t5),(21,Al 8 t21r),(22,Ai t22),(23,Ai t23)],[(nL2, .blk Aa [Ai u0,Ai u1,Ai u2,As u3, .own (nL2.cell 4), .own (nL2.cell 5)]),(nL4, .arr (Fu+2) true 1 u4),((nL2.cell 4), .arr (Aa+2) true 6 u5),((nL2.cell 5), .arr (Ae+2) true 7 u6)]⟩ K
def Acd(t0r:LL)(t5:LB)(u0 u1 u2:Int)(u3:LB)(u4 u5 u6:LL)(K:KK):Prop:=Ao 21 E0.P Zu (Ah 21 Zh).code ⟨[(0,Al 8 t0r),(2, .ptr nL2 0),(4, .own nL4),(5,As t5)],[(nL2, .blk Aa [Ai u0,Ai u1,Ai u2,As u3, .own (nL2.cell 4), .own (nL2.cell 5)]),(nL4, .arr (Fu+2) true 1 u4),((nL2.cell 4), .arr (Aa+2) true 6 u5),((nL2.cell 5), .arr (Ae+2) true 7 u6)]⟩ K
def Wu(Q:QQ):KK:=kE fun st=>finish 0 E0.T [.cell 2 28, .tmp 3] [] Q st
def Wv(Q:QQ):KK:=kF 0 (fun st=>Ao 21 E0.P Zu (Ah 21 Zh).code (mask [0,2,4,5] st) (Wu Q)) fun st=>finish 0 E0.T [.cell 2 28, .tmp 3] [] Q st
theorem Aim(t0r:LL)(t5:LB)(t21r:LL)(t22 t23:Int)(u0 u1 u2:Int)(u3:LB)(u4 u5 u6:LL)(K:KK)(h:
 (Br (decide (t23<t22))
 (Ag (((0:Int)≤t23∧t23<(↑t21r.length:Int))∧
 Be
 [.int .i64, .int .i64, .int .i64, .int .i64, .int .i64, .str,
 .sl 6 Aa, .sl 7 Ae]
 (t21r.getD t23.toNat [])=
 true)
 (Ag (decide ((0:Int)<t23)=true→
 ((0:Int)≤i64.wrap (t23 - (1:Int))∧i64.wrap (t23 - (1:Int))<(↑t0r.length:Int))∧
 Be
 [.int .i64, .int .i64, .int .i64, .int .i64, .int .i64, .str,
 .sl 6 Aa, .sl 7 Ae]
 (t0r.getD (i64.wrap (t23 - (1:Int))).toNat [])=
 true)
 (Let (bif decide ((0:Int)<t23)then
 decide (gI (t21r.getD t23.toNat []) 0≤gI (t0r.getD (i64.wrap (t23 - (1:Int))).toNat []) 0)
 else false) fun x0=>
 Br (x0)
 (K .ret ⟨[(2, .ptr nL2 0),(3,Ai 15)],[(nL2, .blk Aa [Ai 0,Ai 0,Ai 0, .imm (.str []), .own (nL2.cell 4), .own (nL2.cell 5)]),((nL2.cell 4), .arr (Aa+2) true 6 []),((nL2.cell 5), .arr (Ae+2) true 7 [])]⟩)
 (Call E0.P Ag1 [.imm (.agg [.int .i64 (gI (t21r.getD t23.toNat []) 0), .int .i64 (gI (t21r.getD t23.toNat []) 1), .int .i64 (gI (t21r.getD t23.toNat []) 2), .int .i64 (gI (t21r.getD t23.toNat []) 3), .int .i64 (gI (t21r.getD t23.toNat []) 4), .str (gS (t21r.getD t23.toNat []) 5), .sl .any 6 (gR (t21r.getD t23.toNat []) 6), .sl .any 7 (gR (t21r.getD t23.toNat []) 7)])] [] fun r1 g1=>
 Ag (qB4 g1 r1)
 (Br (!decide (rI (rT r1 1)=(0:Int)))
 (K .ret ⟨[(2, .ptr nL2 0),(3,Ai (rI (rT r1 1)))],[(nL2, .blk Aa [Ai 0,Ai 0,Ai 0, .imm (.str []), .own (nL2.cell 4), .own (nL2.cell 5)]),((nL2.cell 4), .arr (Aa+2) true 6 []),((nL2.cell 5), .arr (Ae+2) true 7 [])]⟩)
 (Ag ((u4.length+2)*8≤140737488355328∧u4.length+2≤140737488355328)
 (Ag ((↑(t5.length+(rS (rT r1 (0:Nat))).length):Int)≤(9223372036854775807:Int))
 (W9 t0r (t5++rS (rT r1 0)) t21r t22 (i64.wrap (t23+(1:Int))) u0 u1 u2 u3 (u4++[[IV.int .i64 (gI (t21r.getD t23.toNat []) 0)],[.int .i64 (↑t5.length:Int)]]) u5 u6 K))))))))
 (K (.exit 0) ⟨[(0,Al 8 t0r),(2, .ptr nL2 0),(4, .own nL4),(5,As t5)],[(nL2, .blk Aa [Ai u0,Ai u1,Ai u2,As u3, .own (nL2.cell 4), .own (nL2.cell 5)]),(nL4, .arr (Fu+2) true 1 u4),((nL2.cell 4), .arr (Aa+2) true 6 u5),((nL2.cell 5), .arr (Ae+2) true 7 u6)]⟩))):W9 t0r t5 t21r t22 t23 u0 u1 u2 u3 u4 u5 u6 K:=lR [0,2,4,5,21,22,23] h
theorem Awj(t0r:LL)(t5:LB)(u0 u1 u2:Int)(u3:LB)(u4 u5 u6:LL)(K:KK)(h:
 (Call E0.P Ac5 [Al 1 u4] [] fun r0 g0=>
 Ag (g0=[]∧r0= .imm (.str (rS r0)))
 (Ag ((↑((rS r0).length+(1:Nat)):Int)≤(9223372036854775807:Int))
 (Call E0.P U5 [.imm (.str [70,105,114,115,116]), .imm (.int .i64 ((↑(rS r0++[(10:UInt8)]).length:Int)))] [] fun r1 g1=>
 Ag (qB5 g1 r1)
 (Call E0.P U5 [.imm (.str [78]),Ai ((↑t0r.length:Int))] [] fun r2 g2=>
 Ag (qB5 g2 r2)
 (Ag ((↑((rS r0++[(10:UInt8)]).length+t5.length):Int)≤(9223372036854775807:Int))
 (K .ret ⟨[(2, .ptr nL2 0),(3,Ai 0)],[(nL2, .blk Aa [Ai 8,Ai 0,Ai 0,As (rS r0++[(10:UInt8)]++t5), .own (nL2.cell 4), .own Bm4]),((nL2.cell 4), .arr (Aa+2) true 6 []),(Bm4, .arr (Ae+2) true 7 [[IV.str (gS (Ac r1) 0), .int .i64 (gI (Ac r1) 1),
 .int .i64 (gI (Ac r1) 2), .int .i64 (gI (Ac r1) 3),
 .str (gS (Ac r1) 4), .sl SK.any 6 (gR (Ac r1) 5),
 .sl SK.any 7 (gR (Ac r1) 6)],
 [.str (gS (Ac r2) 0), .int .i64 (gI (Ac r2) 1),
 .int .i64 (gI (Ac r2) 2), .int .i64 (gI (Ac r2) 3),
 .str (gS (Ac r2) 4), .sl SK.any 6 (gR (Ac r2) 5),
 .sl SK.any 7 (gR (Ac r2) 6)],
 [.str [84,121,112,101], .int .i64 (3:Int),
 .int .i64 (0:Int), .int .i64 (0:Int),
 .str [79,98,106,83,116,109],
 .sl SK.any 6 [], .sl SK.any 7 []]])]⟩))))))):Acd t0r t5 u0 u1 u2 u3 u4 u5 u6 K:=cR [] h
theorem Ayb(Q:QQ)(t3 u0:Int)(u1 u2:Int)(u3:LB)(u4 u5:LL)(h:
 (Q (.tup [.imm (.agg [.int .i64 u0, .int .i64 u1, .int .i64 u2, .str u3, .sl .any 6 u4, .sl .any 7 u5]),Ai t3]) [])):Wu Q .ret ⟨[(2, .ptr nL2 0),(3,Ai t3)],[(nL2, .blk Aa [Ai u0,Ai u1,Ai u2,As u3, .own (nL2.cell 4), .own Bm4]),((nL2.cell 4), .arr (Aa+2) true 6 u4),(Bm4, .arr (Ae+2) true 7 u5)]⟩:=kq h
theorem Aii(Q:QQ)(t3 u0:Int)(u1 u2:Int)(u3:LB)(u4 u5:LL)(h:
 (Q (.tup [.imm (.agg [.int .i64 u0, .int .i64 u1, .int .i64 u2, .str u3, .sl .any 6 u4, .sl .any 7 u5]),Ai t3]) [])):Wv Q .ret ⟨[(2, .ptr nL2 0),(3,Ai t3)],[(nL2, .blk Aa [Ai u0,Ai u1,Ai u2,As u3, .own (nL2.cell 4), .own (nL2.cell 5)]),((nL2.cell 4), .arr (Aa+2) true 6 u4),((nL2.cell 5), .arr (Ae+2) true 7 u5)]⟩:=kq h
theorem Ayc(Q:QQ)(t0r:LL)(t5:LB)(u0 u1 u2:Int)(u3:LB)(u4 u5 u6:LL)(h:
 (Acd t0r t5 u0 u1 u2 u3 u4 u5 u6 (Wu Q))):Wv Q (.exit 0) ⟨[(0,Al 8 t0r),(2, .ptr nL2 0),(4, .own nL4),(5,As t5)],[(nL2, .blk Aa [Ai u0,Ai u1,Ai u2,As u3, .own (nL2.cell 4), .own (nL2.cell 5)]),(nL4, .arr (Fu+2) true 1 u4),((nL2.cell 4), .arr (Aa+2) true 6 u5),((nL2.cell 5), .arr (Ae+2) true 7 u6)]⟩:=kq h
theorem Bb3:Bd E0.P 8 Zh.code Zu [.cell 2 28, .tmp 3]:=fq Tryz.func8
theorem A3d(a0:LL)(Q:QQ)(h:
 (Let (bif decide ((↑a0.length:Int)=(0:Int))then true else decide ((100:Int)<(↑a0.length:Int))) fun x0=>
 Br (x0)
 (Q (.tup [.imm (.agg [.int .i64 0, .int .i64 0, .int .i64 0, .str [], .sl .any 6 [], .sl .any 7 []]),Ai 8]) [])
 (W9 a0 [] a0 ((↑a0.length:Int)) ((0:Int)) ((0:Int)) ((0:Int)) ((0:Int)) [] [] [] [] (Wv Q)))):Call E0.P Zm [Al 8 a0] [] Q:=fR 0 Bb3 h
noncomputable def A41:AC:=(A7 [] [2,3] (codeOf Tryz.f12) 0).1
abbrev A5l:Nat:=70
theorem A5r:Bd E0.P 12 A41.code A5l [.tmp 2, .tmp 3]:=fq Tryz.func12
theorem Ax5(a0_0 a0_1 a0_2:Int)(a0_3:LB)(a0_4 a0_5:LL)(Q:QQ)(h:
 (Call E0.P Tt [.imm (.agg [.int .i64 a0_0, .int .i64 a0_1, .int .i64 a0_2, .str a0_3, .sl .any 6 a0_4, .sl .any 7 a0_5]), .imm (.str [84,121,112,101])] [] fun r0 g0=>
 Ag (qB3 g0 r0)
 (Let (bif !decide (a0_0=(8:Int))then true else !decide (gI (Ac (rT r0 0)) 0=(3:Int))) fun x1=>
 Let (bif x1 then true
 else
 !gS (Ac (rT r0 0)) 3 ==
 [(79:UInt8),98,106,83,116,109]) fun x2=>
 Br (x2)
 (Q (.tup [.imm (.sl .any 8 []),Ai 10]) [])
 (Call E0.P U6 [.imm (.agg [.int .i64 a0_0, .int .i64 a0_1, .int .i64 a0_2, .str a0_3, .sl .any 6 a0_4, .sl .any 7 a0_5]), .imm (.str [78]),Ai 1,Ai 100] [] fun r3 g3=>
 Ag (g3=[]∧r3= .tup [.imm (.int .i64 (rI (rT r3 0))), .imm (.bool (rB (rT r3 1)))])
 (Call E0.P U6 [.imm (.agg [.int .i64 a0_0, .int .i64 a0_1, .int .i64 a0_2, .str a0_3, .sl .any 6 a0_4, .sl .any 7 a0_5]), .imm (.str [70,105,114,115,116]),Ai 0,Ai ((↑a0_3.length:Int))] [] fun r4 g4=>
 Ag (g4=[]∧r4= .tup [.imm (.int .i64 (rI (rT r4 0))), .imm (.bool (rB (rT r4 1)))])
 (Let (bif !rB (rT r3 1)then true else !rB (rT r4 1)) fun x5=>
 Br (x5)
 (Q (.tup [.imm (.sl .any 8 []),Ai 11]) [])
 (Ag ((0:Int)≤rI (rT r4 0)∧rI (rT r4 0)≤(↑a0_3.length:Int))
 (Let (List.take (rI (rT r4 0)).toNat a0_3) fun x6=>
 Call E0.P Sa [As x6,Ai (i64.wrap ((2:Int)*rI (rT r3 0)))] [] fun r7 g7=>
 Ag (qB6 g7 r7)
 (Br (!decide (rI (rT r7 1)=(0:Int)))
 (Q (.tup [.imm (.sl .any 8 []),Ai (rI (rT r7 1))]) [])
 (Ag ((0:Int)≤rI (rT r4 0)∧rI (rT r4 0)≤(↑a0_3.length:Int))
 (Let (List.drop (rI (rT r4 0)).toNat a0_3) fun x8=>
 Call E0.P Ae5 [Al 1 (rR (rT r7 0)),As x8] [] fun r9 g9=>
 Ag (qB2 g9 r9)
 (Q (.tup [Al 8 (rR (rT r9 0)),Ai (rI (rT r9 1))]) [])))))))))))):Call E0.P Ld [.imm (.agg [.int .i64 a0_0, .int .i64 a0_1, .int .i64 a0_2, .str a0_3, .sl .any 6 a0_4, .sl .any 7 a0_5])] [] Q:=fR 0 A5r h
noncomputable def Ba1:AC:=(A7 [] [2,3] (codeOf Tryz.f18) 0).1
abbrev Bbt:Nat:=35
theorem Bb4:Bd E0.P 18 Ba1.code Bbt [.tmp 2, .tmp 3]:=fq Tryz.func18
theorem A3e(a0_0 a0_1:Int)(a0_2 a0_3 a0_4:Int)(a0_5:LB)(a0_6 a0_7:LL)(Q:QQ)(h:
 (Let (bif decide (a0_0<(1:Int))then true else decide ((8388607:Int)<a0_0)) fun x0=>
 Br (x0)
 (Q (.tup [.imm (.str []),Ai 3]) [])
 (Br (!decide (a0_1=(0:Int)))
 (Q (.tup [.imm (.str []),Ai 2]) [])
 (Call E0.P Ake [.imm (.agg [.int .i64 a0_2, .int .i64 a0_3, .int .i64 a0_4, .str a0_5, .sl .any 6 a0_6, .sl .any 7 a0_7])] [] fun r1 g1=>
 Ag (qB4 g1 r1)
 (Br (!decide (rI (rT r1 1)=(0:Int)))
 (Q (.tup [.imm (.str []),Ai (rI (rT r1 1))]) [])
 (Br (decide ((4096:Int)<(↑(rS (rT r1 (0:Nat))).length:Int)))
 (Q (.tup [.imm (.str []),Ai 7]) [])
 (Ag ((↑((rS (rT r1 (0:Nat))).length+(1:Nat)):Int)≤(9223372036854775807:Int))
 (Q (.tup [As (rS (rT r1 0)++[(10:UInt8)]),Ai 0]) [])))))))):Call E0.P Ag1 [.imm (.agg [.int .i64 a0_0, .int .i64 a0_1, .int .i64 a0_2, .int .i64 a0_3, .int .i64 a0_4, .str a0_5, .sl .any 6 a0_6, .sl .any 7 a0_7])] [] Q:=fR 0 Bb4 h
noncomputable def Hg:AC:=(A7 [(3,[3,6,7,8],[]),(5,[3],[]),(9,[3,5,6,7,8],[3,6,7,8]),(10,[3,6,7,8],[3,6,7,8]),(11,[3],[])] [2] (codeOf Tryz.f19) 0).1
abbrev Hq:Nat:=23
def R9(t3:LB)(t6r:LL)(t7 t8:Int)(K:KK):Prop:=Ba 3 E0.P Hq (A9 3 Hg).code ⟨[(3,As t3),(6,Al 1 t6r),(7,Ai t7),(8,Ai t8)],[]⟩ K
def R6(t3:LB)(t5:Int)(t6r:LL)(t7 t8:Int)(K:KK):Prop:=Ao 9 E0.P Hq (Ah 9 Hg).code ⟨[(3,As t3),(5,Ai t5),(6,Al 1 t6r),(7,Ai t7),(8,Ai t8)],[]⟩ K
def Aib(t3:LB)(K:KK):Prop:=Ao 11 E0.P Hq (Ah 11 Hg).code ⟨[(3,As t3)],[]⟩ K
def Aia(t3:LB)(t6r:LL)(t7 t8:Int)(K:KK):Prop:=Ao 10 E0.P Hq (Ah 10 Hg).code ⟨[(3,As t3),(6,Al 1 t6r),(7,Ai t7),(8,Ai t8)],[]⟩ K
def Aaf(Q:QQ):KK:=kE fun st=>finish 0 E0.T [.tmp 2] [] Q st
def Akq(Q:QQ):KK:=kF 0 (fun st=>Ao 11 E0.P Hq (Ah 11 Hg).code (mask [3] st) (Aaf Q)) fun st=>finish 0 E0.T [.tmp 2] [] Q st
def Aag(K:KK):Ex→St→Prop
 | .normal,st=>Ba 3 E0.P Hq (A9 3 Hg).code (mask [3,6,7,8] st) K
 | .exit i,st=>K (.exit i) st
 | .goto i,st=>K (.goto i) st
 | .ret,st=>K .ret st
def R7(K:KK):KK:=kC 1 (fun st=>Ao 10 E0.P Hq (Ah 10 Hg).code (mask [3,6,7,8] st) (Aag K)) K
theorem Aej(t3:LB)(t6r:LL)(t7 t8:Int)(K:KK)(h:
 (Br (decide (t8<t7))
 (Ag (((0:Int)≤t8∧t8<(↑t6r.length:Int))∧Be [.int .i64] (t6r.getD t8.toNat [])=true)
 (Br (decide ((0:Int)<t8))
 (Ag ((↑(t3.length+(1:Nat)):Int)≤(9223372036854775807:Int))
 (R6 (t3++[(32:UInt8)]) (gI (t6r.getD t8.toNat []) 0) t6r t7 t8 (R7 K)))
 (R6 t3 (gI (t6r.getD t8.toNat []) 0) t6r t7 t8 (R7 K))))
 (K (.exit 0) ⟨[(3,As t3)],[]⟩))):R9 t3 t6r t7 t8 K:=lR [3,6,7,8] h
theorem At2(t3:LB)(t5:Int)(t6r:LL)(t7 t8:Int)(K:KK)(h:
 (Call E0.P Qp [Ai t5] [] fun r0 g0=>
 Ag (g0=[]∧r0= .imm (.str (rS r0)))
 (Ag ((↑(t3.length+(rS r0).length):Int)≤(9223372036854775807:Int))
 (K .normal ⟨[(3,As (t3++rS r0)),(6,Al 1 t6r),(7,Ai t7),(8,Ai t8)],[]⟩)))):R6 t3 t5 t6r t7 t8 K:=cR [3,6,7,8] h
theorem Aru(t3:LB)(K:KK)(h:
 (K .ret ⟨[(2,As t3)],[]⟩)):Aib t3 K:=cR [] h
theorem Art(t3:LB)(t6r:LL)(t7 t8:Int)(K:KK)(h:
 (K .normal ⟨[(3,As t3),(6,Al 1 t6r),(7,Ai t7),(8,Ai (i64.wrap (t8+(1:Int))))],[]⟩)):Aia t3 t6r t7 t8 K:=cR [3,6,7,8] h
theorem At7(Q:QQ)(t2:LB)(h:
 (Q (As t2) [])):Aaf Q .ret ⟨[(2,As t2)],[]⟩:=kq h
theorem At8(Q:QQ)(t3:LB)(h:
 (Aib t3 (Aaf Q))):Akq Q (.exit 0) ⟨[(3,As t3)],[]⟩:=kq h
theorem At9(K:KK)(t3:LB)(t6r:LL)(t7 t8:Int)(h:
 (R9 t3 t6r t7 t8 K)):Aag K .normal ⟨[(3,As t3),(6,Al 1 t6r),(7,Ai t7),(8,Ai t8)],[]⟩:=kq h
theorem Aua(K:KK)(t3:LB)(t6r:LL)(t7 t8:Int)(h:
 (Aia t3 t6r t7 t8 (Aag K))):R7 K .normal ⟨[(3,As t3),(6,Al 1 t6r),(7,Ai t7),(8,Ai t8)],[]⟩:=kq h
theorem A5t:Bd E0.P 19 Hg.code Hq [.tmp 2]:=fq Tryz.func19
theorem Ax7(a0:LL)(Q:QQ)(h:
 (R9 [] a0 ((↑a0.length:Int)) ((0:Int)) (Akq Q))):Call E0.P Ac5 [Al 1 a0] [] Q:=fR 0 A5t h
noncomputable def A42:AC:=(A7 [] [4] (codeOf Tryz.f20) 0).1
abbrev A5m:Nat:=9
theorem A5s:Bd E0.P 20 A42.code A5m [.cell 4 53]:=fq Tryz.func20
theorem Ax6(a0:LB)(a1:Int)(Q:QQ)(h:
 (Q (.imm (.agg [.str a0, .int .i64 2, .int .i64 a1, .int .i64 0, .str [], .sl .any 6 [], .sl .any 7 []])) [])):Call E0.P U5 [As a0,Ai a1] [] Q:=fR 0 A5s h
noncomputable def A43:AC:=(A7 [] [8,9] (codeOf Tryz.f26) 0).1
abbrev A5n:Nat:=35
theorem A5u:Bd E0.P 26 A43.code A5n [.tmp 8, .tmp 9]:=fq Tryz.func26
theorem Ax8(a0_0 a0_1 a0_2:Int)(a0_3:LB)(a0_4 a0_5:LL)(a1:LB)(a2 a3:Int)(Q:QQ)(h:
 (Call E0.P Tt [.imm (.agg [.int .i64 a0_0, .int .i64 a0_1, .int .i64 a0_2, .str a0_3, .sl .any 6 a0_4, .sl .any 7 a0_5]),As a1] [] fun r0 g0=>
 Ag (qB3 g0 r0)
 (Let (bif decide (gI (Ac (rT r0 0)) 0=(2:Int))then
 decide (a2≤gI (Ac (rT r0 0)) 1)
 else false) fun x1=>
 Let (bif x1 then decide (gI (Ac (rT r0 0)) 1≤a3)else false) fun x2=>
 Q (.tup [Ai (gI (Ac (rT r0 0)) 1),Ab x2]) []))):Call E0.P U6 [.imm (.agg [.int .i64 a0_0, .int .i64 a0_1, .int .i64 a0_2, .str a0_3, .sl .any 6 a0_4, .sl .any 7 a0_5]),As a1,Ai a2,Ai a3] [] Q:=fR 0 A5u h
noncomputable def Aat:AC:=(A7 [(1,[0,1,6,7],[]),(5,[0,1,6,7],[]),(12,[0,1,6,7],[])] [4,5] (codeOf Tryz.f27) 0).1
abbrev Aav:Nat:=48
def Q6(t0:LB)(t1 t7:Int)(u0:LL)(K:KK):Prop:=Ba 5 E0.P Aav (A9 5 Aat).code ⟨[(0,As t0),(1,Ai t1),(6, .own nL6),(7,Ai t7)],[(nL6, .arr (Fu+2) true 1 u0)]⟩ K
def Ayd(Q:QQ):KK:=kE fun st=>finish 0 E0.T [.tmp 4, .tmp 5] [] Q st
def Qy(Q:QQ):Ex→St→Prop
 | .normal,st=>finish 0 E0.T [.tmp 4, .tmp 5] [] Q st
 | .exit i,st=>(match (i.beq 0:Bool)with
 |true=>finish 0 E0.T [.tmp 4, .tmp 5] [] Q st
 |false=>False)
 | .goto i,st=>I6 1 E0.P Aav i (J8 1 Aat).code (mask [0,1,6,7] st) (Ayd Q)
 | .ret,st=>finish 0 E0.T [.tmp 4, .tmp 5] [] Q st
theorem Asm(t0:LB)(t1 t7:Int)(u0:LL)(K:KK)(h:
 (Call E0.P Qr [As t0,Ai t7] [] fun r0 g0=>
 Ag (qB7 g0 r0)
 (Br (!decide (rI (rT r0 1)=(0:Int)))
 (K .ret ⟨[(4, .own nL4),(5,Ai (rI (rT r0 1)))],[(nL4, .arr (Fu+2) true 1 [])]⟩)
 (Let (bif decide ((↑u0.length:Int)<t1)then decide (gI (Ac (rT r0 0)) 0=(1:Int))else false) fun x1=>
 Br (x1)
 (Ag ((u0.length+1)*8≤140737488355328∧u0.length+1≤140737488355328)
 (Q6 t0 t1 (gI (Ac (rT r0 0)) 4) (u0++[[IV.int .i64 (gI (Ac (rT r0 0)) 1)]]) K))
 (Let (bif decide ((↑u0.length:Int)<t1)then true else !decide (gI (Ac (rT r0 0)) 0=(0:Int))) fun x2=>
 Br (x2)
 (K .ret ⟨[(4, .own nL4),(5,Ai 4)],[(nL4, .arr (Fu+2) true 1 [])]⟩)
 (K .ret ⟨[(4, .own nL6),(5,Ai 0)],[(nL6, .arr (Fu+2) true 1 u0)]⟩)))))):Q6 t0 t1 t7 u0 K:=lR [0,1,6,7] h
theorem Ac8(Q:QQ)(t5:Int)(u0:LL)(h:
 (Q (.tup [Al 1 u0,Ai t5]) [])):Qy Q .ret ⟨[(4, .own nL4),(5,Ai t5)],[(nL4, .arr (Fu+2) true 1 u0)]⟩:=kq h
theorem Asd(Q:QQ)(t5:Int)(u0:LL)(h:
 (Q (.tup [Al 1 u0,Ai t5]) [])):Qy Q .ret ⟨[(4, .own nL6),(5,Ai t5)],[(nL6, .arr (Fu+2) true 1 u0)]⟩:=kq h
theorem A2b:Bd E0.P 27 Aat.code Aav [.tmp 4, .tmp 5]:=fq Tryz.func27
theorem Aww(a0:LB)(a1:Int)(Q:QQ)(h:
 (Q6 a0 a1 ((0:Int)) [] (Qy Q))):Call E0.P Sa [As a0,Ai a1] [] Q:=fR 0 A2b h
noncomputable def Ia:AC:=(A7 [(4,[0,1,6,7,8,9],[]),(6,[6],[]),(19,[0,1,6,7,8,9,10,11,12],[0,1,6,7,8,9]),(24,[0,1,6,7,8,9],[0,1,6,7,8,9]),(25,[6],[])] [4,5] (codeOf Tryz.f28) 0).1
abbrev Ib:Nat:=106
def Uq(t0r:LL)(t1:LB)(t7 t8 t9:Int)(u0:LL)(K:KK):Prop:=Ba 4 E0.P Ib (A9 4 Ia).code ⟨[(0,Al 1 t0r),(1,As t1),(6, .own nL6),(7,Ai t7),(8,Ai t8),(9,Ai t9)],[(nL6, .arr (Bw+2) true 8 u0)]⟩ K
def R5(t0r:LL)(t1:LB)(t7 t8:Int)(t9 t10:Int)(t11 t12:Int)(u0:LL)(K:KK):Prop:=Ao 19 E0.P Ib (Ah 19 Ia).code ⟨[(0,Al 1 t0r),(1,As t1),(6, .own nL6),(7,Ai t7),(8,Ai t8),(9,Ai t9),(10,Ai t10),(11,Ai t11),(12,Ai t12)],[(nL6, .arr (Bw+2) true 8 u0)]⟩ K
def Akk(u0:LL)(K:KK):Prop:=Ao 25 E0.P Ib (Ah 25 Ia).code ⟨[(6, .own nL6)],[(nL6, .arr (Bw+2) true 8 u0)]⟩ K
def Akj(t0r:LL)(t1:LB)(t7 t8 t9:Int)(u0:LL)(K:KK):Prop:=Ao 24 E0.P Ib (Ah 24 Ia).code ⟨[(0,Al 1 t0r),(1,As t1),(6, .own nL6),(7,Ai t7),(8,Ai t8),(9,Ai t9)],[(nL6, .arr (Bw+2) true 8 u0)]⟩ K
def Aci(Q:QQ):KK:=kE fun st=>finish 0 E0.T [.tmp 4, .tmp 5] [] Q st
def Oz(Q:QQ):KK:=kF 0 (fun st=>Ao 25 E0.P Ib (Ah 25 Ia).code (mask [6] st) (Aci Q)) fun st=>finish 0 E0.T [.tmp 4, .tmp 5] [] Q st
def Acj(K:KK):Ex→St→Prop
 | .normal,st=>Ba 4 E0.P Ib (A9 4 Ia).code (mask [0,1,6,7,8,9] st) K
 | .exit i,st=>K (.exit i) st
 | .goto i,st=>K (.goto i) st
 | .ret,st=>K .ret st
def O0(K:KK):KK:=kC 1 (fun st=>Ao 24 E0.P Ib (Ah 24 Ia).code (mask [0,1,6,7,8,9] st) (Acj K)) K
theorem Af8(t0r:LL)(t1:LB)(t7 t8 t9:Int)(u0:LL)(K:KK)(h:
 (Br (decide (t9<(↑t0r.length:Int)))
 (Ag (((0:Int)≤t9∧t9<(↑t0r.length:Int))∧Be [.int .i64] (t0r.getD t9.toNat [])=true)
 (Ag (((0:Int)≤i64.wrap (t9+(1:Int))∧i64.wrap (t9+(1:Int))<(↑t0r.length:Int))∧
 Be [.int .i64] (t0r.getD (i64.wrap (t9+(1:Int))).toNat [])=true)
 (Let (bif decide ((0:Int)<t9)then decide (gI (t0r.getD t9.toNat []) 0≤t7)else false) fun x0=>
 Br (x0)
 (K .ret ⟨[(4, .own nL4),(5,Ai 15)],[(nL4, .arr (Bw+2) true 8 [])]⟩)
 (Let (bif decide (gI (t0r.getD t9.toNat []) 0<(1:Int))then true
 else decide ((8388607:Int)<gI (t0r.getD t9.toNat []) 0)) fun x1=>
 Br (x1)
 (K .ret ⟨[(4, .own nL4),(5,Ai 3)],[(nL4, .arr (Bw+2) true 8 [])]⟩)
 (Let (bif decide (t9=(0:Int))then
 !decide (gI (t0r.getD (i64.wrap (t9+(1:Int))).toNat []) 0=(0:Int))
 else false) fun x2=>
 Let (bif x2 then true else decide (gI (t0r.getD (i64.wrap (t9+(1:Int))).toNat []) 0≤t8)) fun x3=>
 Let (bif x3 then true else decide ((↑t1.length:Int)<gI (t0r.getD (i64.wrap (t9+(1:Int))).toNat []) 0)) fun x4=>
 Br (x4)
 (K .ret ⟨[(4, .own nL4),(5,Ai 4)],[(nL4, .arr (Bw+2) true 8 [])]⟩)
 (Ag (decide (i64.wrap (t9+(3:Int))<(↑t0r.length:Int))=true→
 ((0:Int)≤i64.wrap (t9+(3:Int))∧i64.wrap (t9+(3:Int))<(↑t0r.length:Int))∧
 Be [.int .i64] (t0r.getD (i64.wrap (t9+(3:Int))).toNat [])=true)
 (Let (bif decide (i64.wrap (t9+(3:Int))<(↑t0r.length:Int))then
 decide
 (gI (t0r.getD (i64.wrap (t9+(1:Int))).toNat []) 0≤
 gI (t0r.getD (i64.wrap (t9+(3:Int))).toNat []) 0)
 else false) fun x5=>
 Br (x5)
 (Ag (((0:Int)≤i64.wrap (t9+(3:Int))∧i64.wrap (t9+(3:Int))<(↑t0r.length:Int))∧
 Be [.int .i64] (t0r.getD (i64.wrap (t9+(3:Int))).toNat [])=true)
 (R5 t0r t1 (gI (t0r.getD t9.toNat []) 0) (gI (t0r.getD (i64.wrap (t9+(1:Int))).toNat []) 0) t9 (gI (t0r.getD t9.toNat []) 0) (gI (t0r.getD (i64.wrap (t9+(1:Int))).toNat []) 0) (if gI (t0r.getD (i64.wrap (t9+(3:Int))).toNat []) 0<(↑t1.length:Int)then
 gI (t0r.getD (i64.wrap (t9+(3:Int))).toNat []) 0
 else(↑t1.length:Int)) u0 (O0 K)))
 (R5 t0r t1 (gI (t0r.getD t9.toNat []) 0) (gI (t0r.getD (i64.wrap (t9+(1:Int))).toNat []) 0) t9 (gI (t0r.getD t9.toNat []) 0) (gI (t0r.getD (i64.wrap (t9+(1:Int))).toNat []) 0) ((↑t1.length:Int)) u0 (O0 K)))))))))
 (K (.exit 0) ⟨[(6, .own nL6)],[(nL6, .arr (Bw+2) true 8 u0)]⟩))):Uq t0r t1 t7 t8 t9 u0 K:=lR [0,1,6,7,8,9] h
theorem Atz(t0r:LL)(t1:LB)(t7 t8:Int)(t9 t10:Int)(t11 t12:Int)(u0:LL)(K:KK)(h:
 (Ag ((0:Int)≤t11∧t11≤t12∧t12≤(↑t1.length:Int))
 (Let (List.drop t11.toNat (List.take t12.toNat t1)) fun x0=>
 Call E0.P Ag4 [As x0] [] fun r1 g1=>
 Ag (qB1 g1 r1)
 (Br (!decide (rI (rT r1 1)=(0:Int)))
 (K .ret ⟨[(4, .own nL4),(5,Ai (rI (rT r1 1)))],[(nL4, .arr (Bw+2) true 8 [])]⟩)
 (Ag ((u0.length+1)*104≤140737488355328∧u0.length+1≤140737488355328)
 (K .normal ⟨[(0,Al 1 t0r),(1,As t1),(6, .own nL6),(7,Ai t7),(8,Ai t8),(9,Ai t9)],[(nL6, .arr (Bw+2) true 8 (u0++
 [[IV.int .i64 t10, .int .i64 (0:Int), .int .i64 (gI (Ac (rT r1 0)) 0),
 .int .i64 (gI (Ac (rT r1 0)) 1),
 .int .i64 (gI (Ac (rT r1 0)) 2), .str (gS (Ac (rT r1 0)) 3),
 .sl SK.any 6 (gR (Ac (rT r1 0)) 4),
 .sl SK.any 7 (gR (Ac (rT r1 0)) 5)]]))]⟩)))))):R5 t0r t1 t7 t8 t9 t10 t11 t12 u0 K:=cR [0,1,6,7,8,9] h
theorem At1(u0:LL)(K:KK)(h:
 (K .ret ⟨[(4, .own nL6),(5,Ai 0)],[(nL6, .arr (Bw+2) true 8 u0)]⟩)):Akk u0 K:=cR [] h
theorem At0(t0r:LL)(t1:LB)(t7 t8 t9:Int)(u0:LL)(K:KK)(h:
 (K .normal ⟨[(0,Al 1 t0r),(1,As t1),(6, .own nL6),(7,Ai t7),(8,Ai t8),(9,Ai (i64.wrap (t9+(2:Int))))],[(nL6, .arr (Bw+2) true 8 u0)]⟩)):Akj t0r t1 t7 t8 t9 u0 K:=cR [0,1,6,7,8,9] h
theorem Awx(Q:QQ)(t5:Int)(u0:LL)(h:
 (Q (.tup [Al 8 u0,Ai t5]) [])):Aci Q .ret ⟨[(4, .own nL6),(5,Ai t5)],[(nL6, .arr (Bw+2) true 8 u0)]⟩:=kq h
theorem Po(Q:QQ)(t5:Int)(u0:LL)(h:
 (Q (.tup [Al 8 u0,Ai t5]) [])):Oz Q .ret ⟨[(4, .own nL4),(5,Ai t5)],[(nL4, .arr (Bw+2) true 8 u0)]⟩:=kq h
theorem Awy(Q:QQ)(u0:LL)(h:
 (Akk u0 (Aci Q))):Oz Q (.exit 0) ⟨[(6, .own nL6)],[(nL6, .arr (Bw+2) true 8 u0)]⟩:=kq h
theorem Awz(K:KK)(t0r:LL)(t1:LB)(t7 t8 t9:Int)(u0:LL)(h:
 (Uq t0r t1 t7 t8 t9 u0 K)):Acj K .normal ⟨[(0,Al 1 t0r),(1,As t1),(6, .own nL6),(7,Ai t7),(8,Ai t8),(9,Ai t9)],[(nL6, .arr (Bw+2) true 8 u0)]⟩:=kq h
theorem Aw0(K:KK)(t5:Int)(u0:LL)(h:
 (K .ret ⟨[(4, .own nL4),(5,Ai t5)],[(nL4, .arr (Bw+2) true 8 u0)]⟩)):O0 K .ret ⟨[(4, .own nL4),(5,Ai t5)],[(nL4, .arr (Bw+2) true 8 u0)]⟩:=kq h
theorem Aw1(K:KK)(t0r:LL)(t1:LB)(t7 t8 t9:Int)(u0:LL)(h:
 (Akj t0r t1 t7 t8 t9 u0 (Acj K))):O0 K .normal ⟨[(0,Al 1 t0r),(1,As t1),(6, .own nL6),(7,Ai t7),(8,Ai t8),(9,Ai t9)],[(nL6, .arr (Bw+2) true 8 u0)]⟩:=kq h
theorem A83:Bd E0.P 28 Ia.code Ib [.tmp 4, .tmp 5]:=fq Tryz.func28
theorem A1e(a0:LL)(a1:LB)(Q:QQ)(h:
 (Uq a0 a1 ((0:Int)) ((-1:Int)) ((0:Int)) [] (Oz Q))):Call E0.P Ae5 [Al 1 a0,As a1] [] Q:=fR 0 A83 h
noncomputable def Kh:AC:=(A7 [(17,[6,10,12,13,14],[]),(19,[13],[]),(32,[6,10,12,13,14,15,16,17],[6,10,12,13,14]),(37,[6,10,12,13,14],[6,10,12,13,14]),(38,[13],[])] [2,3] (codeOf Tryz.f13) 0).1
abbrev Kl:Nat:=212
def Xb(t10r:LL)(t12:LB)(t14 u0:Int)(u1 u2:Int)(u3:LB)(u4 u5 u6:LL)(K:KK):Prop:=Ba 17 E0.P Kl (A9 17 Kh).code ⟨[(6, .ptr nL6 0),(10,Al 1 t10r),(12,As t12),(13, .own Oa),(14,Ai t14)],[(nL6, .blk Aa [Ai u0,Ai u1,Ai u2,As u3,Al 6 u4,Al 7 u5]),(Oa, .arr 0 true 8 u6)]⟩ K
def Mr(t10r:LL)(t12:LB)(t14 t15:Int)(t16 t17:Int)(u0 u1 u2:Int)(u3:LB)(u4 u5 u6:LL)(K:KK):Prop:=Ao 32 E0.P Kl (Ah 32 Kh).code ⟨[(6, .ptr nL6 0),(10,Al 1 t10r),(12,As t12),(13, .own Oa),(14,Ai t14),(15,Ai t15),(16,Ai t16),(17,Ai t17)],[(nL6, .blk Aa [Ai u0,Ai u1,Ai u2,As u3,Al 6 u4,Al 7 u5]),(Oa, .arr 0 true 8 u6)]⟩ K
def Apq(u0:LL)(K:KK):Prop:=Ao 38 E0.P Kl (Ah 38 Kh).code ⟨[(13, .own Oa)],[(Oa, .arr 0 true 8 u0)]⟩ K
def App(t10r:LL)(t12:LB)(t14 u0:Int)(u1 u2:Int)(u3:LB)(u4 u5 u6:LL)(K:KK):Prop:=Ao 37 E0.P Kl (Ah 37 Kh).code ⟨[(6, .ptr nL6 0),(10,Al 1 t10r),(12,As t12),(13, .own Oa),(14,Ai t14)],[(nL6, .blk Aa [Ai u0,Ai u1,Ai u2,As u3,Al 6 u4,Al 7 u5]),(Oa, .arr 0 true 8 u6)]⟩ K
def Agp(Q:QQ):KK:=kE fun st=>finish 0 E0.T [.tmp 2, .tmp 3] [] Q st
def Sv(Q:QQ):KK:=kF 0 (fun st=>Ao 38 E0.P Kl (Ah 38 Kh).code (mask [13] st) (Agp Q)) fun st=>finish 0 E0.T [.tmp 2, .tmp 3] [] Q st
def Agq(K:KK):Ex→St→Prop
 | .normal,st=>Ba 17 E0.P Kl (A9 17 Kh).code (mask [6,10,12,13,14] st) K
 | .exit i,st=>K (.exit i) st
 | .goto i,st=>K (.goto i) st
 | .ret,st=>K .ret st
def K7(K:KK):KK:=kC 1 (fun st=>Ao 37 E0.P Kl (Ah 37 Kh).code (mask [6,10,12,13,14] st) (Agq K)) K
theorem Aip(t10r:LL)(t12:LB)(t14 u0:Int)(u1 u2:Int)(u3:LB)(u4 u5 u6:LL)(K:KK)(h:
 (Br (decide (t14<u1))
 (Ag (((0:Int)≤i64.wrap ((2:Int)*t14)∧i64.wrap ((2:Int)*t14)<(↑t10r.length:Int))∧
 Be [.int .i64] (t10r.getD (i64.wrap ((2:Int)*t14)).toNat [])=true)
 (Ag (((0:Int)≤i64.wrap (i64.wrap ((2:Int)*t14)+(1:Int))∧
 i64.wrap (i64.wrap ((2:Int)*t14)+(1:Int))<(↑t10r.length:Int))∧
 Be [.int .i64] (t10r.getD (i64.wrap (i64.wrap ((2:Int)*t14)+(1:Int))).toNat [])=
 true)
 (Ag (decide ((0:Int)<t14)=true→
 ((0:Int)≤i64.wrap (i64.wrap ((2:Int)*t14) - (2:Int))∧
 i64.wrap (i64.wrap ((2:Int)*t14) - (2:Int))<(↑t10r.length:Int))∧
 Be [.int .i64] (t10r.getD (i64.wrap (i64.wrap ((2:Int)*t14) - (2:Int))).toNat [])=
 true)
 (Let (bif decide ((0:Int)<t14)then
 decide
 (gI (t10r.getD (i64.wrap ((2:Int)*t14)).toNat []) 0≤
 gI (t10r.getD (i64.wrap (i64.wrap ((2:Int)*t14) - (2:Int))).toNat []) 0)
 else false) fun x0=>
 Br (x0)
 (K .ret ⟨[(2, .own nL2),(3,Ai 15)],[(nL2, .arr (Bw+2) true 8 [])]⟩)
 (Let (bif decide (gI (t10r.getD (i64.wrap ((2:Int)*t14)).toNat []) 0<(1:Int))then true
 else decide ((8388607:Int)<gI (t10r.getD (i64.wrap ((2:Int)*t14)).toNat []) 0)) fun x1=>
 Br (x1)
 (K .ret ⟨[(2, .own nL2),(3,Ai 3)],[(nL2, .arr (Bw+2) true 8 [])]⟩)
 (Let (bif decide (t14=(0:Int))then
 !decide
 (gI (t10r.getD (i64.wrap (i64.wrap ((2:Int)*t14)+(1:Int))).toNat []) 0=
 (0:Int))
 else false) fun x2=>
 Br (x2 == false)
 (Ag (decide ((0:Int)<t14)=true→
 ((0:Int)≤i64.wrap (i64.wrap ((2:Int)*t14) - (1:Int))∧
 i64.wrap (i64.wrap ((2:Int)*t14) - (1:Int))<(↑t10r.length:Int))∧
 Be [.int .i64] (t10r.getD (i64.wrap (i64.wrap ((2:Int)*t14) - (1:Int))).toNat [])=
 true)
 (Let (bif decide ((0:Int)<t14)then
 decide
 (gI (t10r.getD (i64.wrap (i64.wrap ((2:Int)*t14)+(1:Int))).toNat []) 0≤
 gI (t10r.getD (i64.wrap (i64.wrap ((2:Int)*t14) - (1:Int))).toNat []) 0)
 else false) fun x3=>
 Let (x3) fun x4=>
 Let (bif x4 then true
 else
 decide
 ((↑t12.length:Int)<
 gI (t10r.getD (i64.wrap (i64.wrap ((2:Int)*t14)+(1:Int))).toNat []) 0)) fun x5=>
 Br (x5)
 (K .ret ⟨[(2, .own nL2),(3,Ai 4)],[(nL2, .arr (Bw+2) true 8 [])]⟩)
 (Ag (decide (i64.wrap (t14+(1:Int))<u1)=true→
 ((0:Int)≤i64.wrap (i64.wrap ((2:Int)*t14)+(3:Int))∧
 i64.wrap (i64.wrap ((2:Int)*t14)+(3:Int))<(↑t10r.length:Int))∧
 Be [.int .i64] (t10r.getD (i64.wrap (i64.wrap ((2:Int)*t14)+(3:Int))).toNat [])=
 true)
 (Let (bif decide (i64.wrap (t14+(1:Int))<u1)then
 decide
 (gI (t10r.getD (i64.wrap (i64.wrap ((2:Int)*t14)+(1:Int))).toNat []) 0≤
 gI (t10r.getD (i64.wrap (i64.wrap ((2:Int)*t14)+(3:Int))).toNat []) 0)
 else false) fun x6=>
 Ag (x6=true→
 ((0:Int)≤i64.wrap (i64.wrap ((2:Int)*t14)+(3:Int))∧
 i64.wrap (i64.wrap ((2:Int)*t14)+(3:Int))<(↑t10r.length:Int))∧
 Be [.int .i64] (t10r.getD (i64.wrap (i64.wrap ((2:Int)*t14)+(3:Int))).toNat [])=
 true)
 (Let (bif x6 then
 decide
 (gI (t10r.getD (i64.wrap (i64.wrap ((2:Int)*t14)+(3:Int))).toNat []) 0<
 (↑t12.length:Int))
 else false) fun x7=>
 Br (x7)
 (Ag (((0:Int)≤i64.wrap (i64.wrap ((2:Int)*t14)+(3:Int))∧
 i64.wrap (i64.wrap ((2:Int)*t14)+(3:Int))<(↑t10r.length:Int))∧
 Be [.int .i64] (t10r.getD (i64.wrap (i64.wrap ((2:Int)*t14)+(3:Int))).toNat [])=
 true)
 (Mr t10r t12 t14 (gI (t10r.getD (i64.wrap ((2:Int)*t14)).toNat []) 0) (gI (t10r.getD (i64.wrap (i64.wrap ((2:Int)*t14)+(1:Int))).toNat []) 0) (gI (t10r.getD (i64.wrap (i64.wrap ((2:Int)*t14)+(3:Int))).toNat []) 0) u0 u1 u2 u3 u4 u5 u6 (K7 K)))
 (Mr t10r t12 t14 (gI (t10r.getD (i64.wrap ((2:Int)*t14)).toNat []) 0) (gI (t10r.getD (i64.wrap (i64.wrap ((2:Int)*t14)+(1:Int))).toNat []) 0) ((↑t12.length:Int)) u0 u1 u2 u3 u4 u5 u6 (K7 K)))))))
 (Ag ((!false)=true)
 (Let (true) fun x8=>
 Let (bif x8 then true
 else
 decide
 ((↑t12.length:Int)<
 gI (t10r.getD (i64.wrap (i64.wrap ((2:Int)*t14)+(1:Int))).toNat []) 0)) fun x9=>
 Br (x9)
 (K .ret ⟨[(2, .own nL2),(3,Ai 4)],[(nL2, .arr (Bw+2) true 8 [])]⟩)
 (Ag (decide (i64.wrap (t14+(1:Int))<u1)=true→
 ((0:Int)≤i64.wrap (i64.wrap ((2:Int)*t14)+(3:Int))∧
 i64.wrap (i64.wrap ((2:Int)*t14)+(3:Int))<(↑t10r.length:Int))∧
 Be [.int .i64] (t10r.getD (i64.wrap (i64.wrap ((2:Int)*t14)+(3:Int))).toNat [])=
 true)
 (Let (bif decide (i64.wrap (t14+(1:Int))<u1)then
 decide
 (gI (t10r.getD (i64.wrap (i64.wrap ((2:Int)*t14)+(1:Int))).toNat []) 0≤
 gI (t10r.getD (i64.wrap (i64.wrap ((2:Int)*t14)+(3:Int))).toNat []) 0)
 else false) fun x10=>
 Ag (x10=true→
 ((0:Int)≤i64.wrap (i64.wrap ((2:Int)*t14)+(3:Int))∧
 i64.wrap (i64.wrap ((2:Int)*t14)+(3:Int))<(↑t10r.length:Int))∧
 Be [.int .i64] (t10r.getD (i64.wrap (i64.wrap ((2:Int)*t14)+(3:Int))).toNat [])=
 true)
 (Let (bif x10 then
 decide
 (gI (t10r.getD (i64.wrap (i64.wrap ((2:Int)*t14)+(3:Int))).toNat []) 0<
 (↑t12.length:Int))
 else false) fun x11=>
 Br (x11)
 (Ag (((0:Int)≤i64.wrap (i64.wrap ((2:Int)*t14)+(3:Int))∧
 i64.wrap (i64.wrap ((2:Int)*t14)+(3:Int))<(↑t10r.length:Int))∧
 Be [.int .i64] (t10r.getD (i64.wrap (i64.wrap ((2:Int)*t14)+(3:Int))).toNat [])=
 true)
 (Mr t10r t12 t14 (gI (t10r.getD (i64.wrap ((2:Int)*t14)).toNat []) 0) (gI (t10r.getD (i64.wrap (i64.wrap ((2:Int)*t14)+(1:Int))).toNat []) 0) (gI (t10r.getD (i64.wrap (i64.wrap ((2:Int)*t14)+(3:Int))).toNat []) 0) u0 u1 u2 u3 u4 u5 u6 (K7 K)))
 (Mr t10r t12 t14 (gI (t10r.getD (i64.wrap ((2:Int)*t14)).toNat []) 0) (gI (t10r.getD (i64.wrap (i64.wrap ((2:Int)*t14)+(1:Int))).toNat []) 0) ((↑t12.length:Int)) u0 u1 u2 u3 u4 u5 u6 (K7 K)))))))))))))
 (K (.exit 0) ⟨[(13, .own Oa)],[(Oa, .arr 0 true 8 u6)]⟩))):Xb t10r t12 t14 u0 u1 u2 u3 u4 u5 u6 K:=lR [6,10,12,13,14] h
theorem Axw(t10r:LL)(t12:LB)(t14 t15:Int)(t16 t17:Int)(u0 u1 u2:Int)(u3:LB)(u4 u5 u6:LL)(K:KK)(h:
 (Ag ((0:Int)≤t16∧t16≤t17∧t17≤(↑t12.length:Int))
 (Let (List.drop t16.toNat (List.take t17.toNat t12)) fun x0=>
 Call E0.P Aol [As x0] [] fun r1 g1=>
 Ag (qB1 g1 r1)
 (Br (!decide (rI (rT r1 1)=(0:Int)))
 (K .ret ⟨[(2, .own nL2),(3,Ai (rI (rT r1 1)))],[(nL2, .arr (Bw+2) true 8 [])]⟩)
 (Ag ((u6.length+1)*104≤140737488355328∧u6.length+1≤140737488355328)
 (K .normal ⟨[(6, .ptr nL6 0),(10,Al 1 t10r),(12,As t12),(13, .own Oa),(14,Ai t14)],[(nL6, .blk Aa [Ai u0,Ai u1,Ai u2,As u3,Al 6 u4,Al 7 u5]),(Oa, .arr 0 true 8 (u6++
 [[IV.int .i64 t15, .int .i64 (0:Int), .int .i64 (gI (Ac (rT r1 0)) 0),
 .int .i64 (gI (Ac (rT r1 0)) 1),
 .int .i64 (gI (Ac (rT r1 0)) 2), .str (gS (Ac (rT r1 0)) 3),
 .sl SK.any 6 (gR (Ac (rT r1 0)) 4),
 .sl SK.any 7 (gR (Ac (rT r1 0)) 5)]]))]⟩)))))):Mr t10r t12 t14 t15 t16 t17 u0 u1 u2 u3 u4 u5 u6 K:=cR [6,10,12,13,14] h
theorem Axy(u0:LL)(K:KK)(h:
 (K .ret ⟨[(2, .own Oa),(3,Ai 0)],[(Oa, .arr 0 true 8 u0)]⟩)):Apq u0 K:=cR [] h
theorem Axx(t10r:LL)(t12:LB)(t14 u0:Int)(u1 u2:Int)(u3:LB)(u4 u5 u6:LL)(K:KK)(h:
 (K .normal ⟨[(6, .ptr nL6 0),(10,Al 1 t10r),(12,As t12),(13, .own Oa),(14,Ai (i64.wrap (t14+(1:Int))))],[(nL6, .blk Aa [Ai u0,Ai u1,Ai u2,As u3,Al 6 u4,Al 7 u5]),(Oa, .arr 0 true 8 u6)]⟩)):App t10r t12 t14 u0 u1 u2 u3 u4 u5 u6 K:=cR [6,10,12,13,14] h
theorem A1t(Q:QQ)(t3:Int)(u0:LL)(h:
 (Q (.tup [Al 8 u0,Ai t3]) [])):Agp Q .ret ⟨[(2, .own Oa),(3,Ai t3)],[(Oa, .arr 0 true 8 u0)]⟩:=kq h
theorem Ns(Q:QQ)(t3:Int)(u0:LL)(h:
 (Q (.tup [Al 8 u0,Ai t3]) [])):Sv Q .ret ⟨[(2, .own nL2),(3,Ai t3)],[(nL2, .arr (Bw+2) true 8 u0)]⟩:=kq h
theorem A1u(Q:QQ)(u0:LL)(h:
 (Apq u0 (Agp Q))):Sv Q (.exit 0) ⟨[(13, .own Oa)],[(Oa, .arr 0 true 8 u0)]⟩:=kq h
theorem A1v(K:KK)(t10r:LL)(t12:LB)(t14 u0:Int)(u1 u2:Int)(u3:LB)(u4 u5 u6:LL)(h:
 (Xb t10r t12 t14 u0 u1 u2 u3 u4 u5 u6 K)):Agq K .normal ⟨[(6, .ptr nL6 0),(10,Al 1 t10r),(12,As t12),(13, .own Oa),(14,Ai t14)],[(nL6, .blk Aa [Ai u0,Ai u1,Ai u2,As u3,Al 6 u4,Al 7 u5]),(Oa, .arr 0 true 8 u6)]⟩:=kq h
theorem A1w(K:KK)(t3:Int)(u0:LL)(h:
 (K .ret ⟨[(2, .own nL2),(3,Ai t3)],[(nL2, .arr (Bw+2) true 8 u0)]⟩)):K7 K .ret ⟨[(2, .own nL2),(3,Ai t3)],[(nL2, .arr (Bw+2) true 8 u0)]⟩:=kq h
theorem A1x(K:KK)(t10r:LL)(t12:LB)(t14 u0:Int)(u1 u2:Int)(u3:LB)(u4 u5 u6:LL)(h:
 (App t10r t12 t14 u0 u1 u2 u3 u4 u5 u6 (Agq K))):K7 K .normal ⟨[(6, .ptr nL6 0),(10,Al 1 t10r),(12,As t12),(13, .own Oa),(14,Ai t14)],[(nL6, .blk Aa [Ai u0,Ai u1,Ai u2,As u3,Al 6 u4,Al 7 u5]),(Oa, .arr 0 true 8 u6)]⟩:=kq h
theorem Bey:Bd E0.P 13 Kh.code Kl [.tmp 2, .tmp 3]:=fq Tryz.func13
theorem A6v(a0_0 a0_1 a0_2:Int)(a0_3:LB)(a0_4 a0_5:LL)(Q:QQ)(h:
 (Call E0.P Afc [.imm (.agg [.int .i64 a0_0, .int .i64 a0_1, .int .i64 a0_2, .str a0_3, .sl .any 6 a0_4, .sl .any 7 a0_5]), .imm (.str [84,121,112,101])] [] fun r0 g0=>
 Ag (qB3 g0 r0)
 (Let (bif !decide (a0_0=(8:Int))then true else !decide (gI (Ac (rT r0 0)) 0=(3:Int))) fun x1=>
 Let (bif x1 then true
 else
 !gS (Ac (rT r0 0)) 3 ==
 [(79:UInt8),98,106,83,116,109]) fun x2=>
 Br (x2)
 (Q (.tup [.imm (.sl .any 8 []),Ai 10]) [])
 (Call E0.P Afc [.imm (.agg [.int .i64 a0_0, .int .i64 a0_1, .int .i64 a0_2, .str a0_3, .sl .any 6 a0_4, .sl .any 7 a0_5]), .imm (.str [78])] [] fun r3 g3=>
 Ag (qB3 g3 r3)
 (Call E0.P Afc [.imm (.agg [.int .i64 a0_0, .int .i64 a0_1, .int .i64 a0_2, .str a0_3, .sl .any 6 a0_4, .sl .any 7 a0_5]), .imm (.str [70,105,114,115,116])] [] fun r4 g4=>
 Ag (qB3 g4 r4)
 (Let (bif !decide (gI (Ac (rT r3 0)) 0=(2:Int))then true
 else decide (gI (Ac (rT r3 0)) 1<(1:Int))) fun x5=>
 Let (bif x5 then true else decide ((100:Int)<gI (Ac (rT r3 0)) 1)) fun x6=>
 Let (bif x6 then true else !decide (gI (Ac (rT r4 0)) 0=(2:Int))) fun x7=>
 Let (bif x7 then true else decide (gI (Ac (rT r4 0)) 1<(0:Int))) fun x8=>
 Let (bif x8 then true else decide ((↑a0_3.length:Int)<gI (Ac (rT r4 0)) 1)) fun x9=>
 Br (x9)
 (Q (.tup [.imm (.sl .any 8 []),Ai 11]) [])
 (Ag ((0:Int)≤gI (Ac (rT r4 0)) 1∧gI (Ac (rT r4 0)) 1≤(↑a0_3.length:Int))
 (Let (List.take (gI (Ac (rT r4 0)) 1).toNat a0_3) fun x10=>
 Call E0.P Ag5 [As x10, .imm (.int .i64 (i64.wrap ((2:Int)*gI (Ac (rT r3 0)) 1)))] [] fun r11 g11=>
 Ag (qB6 g11 r11)
 (Br (!decide (rI (rT r11 1)=(0:Int)))
 (Q (.tup [.imm (.sl .any 8 []),Ai (rI (rT r11 1))]) [])
 (Ag ((0:Int)≤gI (Ac (rT r4 0)) 1∧gI (Ac (rT r4 0)) 1≤(↑a0_3.length:Int))
 (Let (List.drop (gI (Ac (rT r4 0)) 1).toNat a0_3) fun x12=>
 Xb (rR (rT r11 0)) x12 ((0:Int)) (gI (Ac (rT r3 0)) 0) (gI (Ac (rT r3 0)) 1) (gI (Ac (rT r3 0)) 2) (gS (Ac (rT r3 0)) 3) (gR (Ac (rT r3 0)) 4) (gR (Ac (rT r3 0)) 5) [] (Sv Q)))))))))))):Call E0.P Akc [.imm (.agg [.int .i64 a0_0, .int .i64 a0_1, .int .i64 a0_2, .str a0_3, .sl .any 6 a0_4, .sl .any 7 a0_5])] [] Q:=fR 0 Bey h
noncomputable def Asv:AC:=(A7 [(3,[0,1,6,7],[])] [4,5] (codeOf Tryz.f30) 0).1
abbrev Ate:Nat:=46
def Xc(t0:LB)(t1 t7:Int)(u0:LL)(K:KK):Prop:=Ba 3 E0.P Ate (A9 3 Asv).code ⟨[(0,As t0),(1,Ai t1),(6, .own Afl),(7,Ai t7)],[(Afl, .arr 0 true 1 u0)]⟩ K
def Ww(Q:QQ):KK:=kF 0 (fun st=>finish 0 E0.T [.tmp 4, .tmp 5] [] Q st) fun st=>finish 0 E0.T [.tmp 4, .tmp 5] [] Q st
theorem Ay3(t0:LB)(t1 t7:Int)(u0:LL)(K:KK)(h:
 (Call E0.P L8 [As t0,Ai t7] [] fun r0 g0=>
 Ag (qB7 g0 r0)
 (Br (!decide (rI (rT r0 1)=(0:Int)))
 (K .ret ⟨[(4, .own nL4),(5,Ai (rI (rT r0 1)))],[(nL4, .arr (Fu+2) true 1 [])]⟩)
 (Let (bif decide ((↑u0.length:Int)=t1)then decide (gI (Ac (rT r0 0)) 0=(0:Int))else false) fun x1=>
 Br (x1)
 (K .ret ⟨[(4, .own Afl),(5,Ai 0)],[(Afl, .arr 0 true 1 u0)]⟩)
 (Let (bif decide ((↑u0.length:Int)=t1)then true else !decide (gI (Ac (rT r0 0)) 0=(1:Int))) fun x2=>
 Br (x2)
 (K .ret ⟨[(4, .own nL4),(5,Ai 4)],[(nL4, .arr (Fu+2) true 1 [])]⟩)
 (Ag ((u0.length+1)*8≤140737488355328∧u0.length+1≤140737488355328)
 (Xc t0 t1 (gI (Ac (rT r0 0)) 4) (u0++[[IV.int .i64 (gI (Ac (rT r0 0)) 1)]]) K))))))):Xc t0 t1 t7 u0 K:=lR [0,1,6,7] h
theorem Aij(Q:QQ)(t5:Int)(u0:LL)(h:
 (Q (.tup [Al 1 u0,Ai t5]) [])):Ww Q .ret ⟨[(4, .own nL4),(5,Ai t5)],[(nL4, .arr (Fu+2) true 1 u0)]⟩:=kq h
theorem Ayi(Q:QQ)(t5:Int)(u0:LL)(h:
 (Q (.tup [Al 1 u0,Ai t5]) [])):Ww Q .ret ⟨[(4, .own Afl),(5,Ai t5)],[(Afl, .arr 0 true 1 u0)]⟩:=kq h
theorem Bca:Bd E0.P 30 Asv.code Ate [.tmp 4, .tmp 5]:=fq Tryz.func30
theorem A3k(a0:LB)(a1:Int)(Q:QQ)(h:
 (Xc a0 a1 ((0:Int)) [] (Ww Q))):Call E0.P Ag5 [As a0,Ai a1] [] Q:=fR 0 Bca h
noncomputable def V6:AC:=(A7 [(5,[0,1,5],[]),(7,[],[]),(11,[0,1,5],[0,1,5]),(12,[],[])] [4] (codeOf Tryz.f14) 0).1
abbrev V9:Nat:=55
def Aeo(t0r t1r:LL)(t5:Int)(K:KK):Prop:=Ba 5 E0.P V9 (A9 5 V6).code ⟨[(0,Al 8 t0r),(1,Al 8 t1r),(5,Ai t5)],[]⟩ K
def Ai9(t0r t1r:LL)(t5:Int)(K:KK):Prop:=Ao 11 E0.P V9 (Ah 11 V6).code ⟨[(0,Al 8 t0r),(1,Al 8 t1r),(5,Ai t5)],[]⟩ K
def Av5(K:KK):Prop:=Ao 12 E0.P V9 (Ah 12 V6).code ⟨[],[]⟩ K
def Ano(Q:QQ):KK:=kE fun st=>finish 0 E0.T [.tmp 4] [] Q st
def Anp(Q:QQ):KK:=kF 0 (fun st=>Ao 12 E0.P V9 (Ah 12 V6).code (mask [] st) (Ano Q)) fun st=>finish 0 E0.T [.tmp 4] [] Q st
def Anq(K:KK):Ex→St→Prop
 | .normal,st=>Ba 5 E0.P V9 (A9 5 V6).code (mask [0,1,5] st) K
 | .exit i,st=>K (.exit i) st
 | .goto i,st=>K (.goto i) st
 | .ret,st=>K .ret st
theorem Ap6(t0r t1r:LL)(t5:Int)(K:KK)(h:
 (Br (decide (t5<(↑t0r.length:Int)))
 (Ag (((0:Int)≤t5∧t5<(↑t0r.length:Int))∧
 Be
 [.int .i64, .int .i64, .int .i64, .int .i64, .int .i64, .str,
 .sl 6 Aa, .sl 7 Ae]
 (t0r.getD t5.toNat [])=
 true)
 (Ag (((0:Int)≤t5∧t5<(↑t1r.length:Int))∧
 Be
 [.int .i64, .int .i64, .int .i64, .int .i64, .int .i64, .str,
 .sl 6 Aa, .sl 7 Ae]
 (t1r.getD t5.toNat [])=
 true)
 (Ag ((!decide (gI (t0r.getD t5.toNat []) 0=gI (t1r.getD t5.toNat []) 0))=false→
 ((0:Int)≤t5∧t5<(↑t0r.length:Int))∧
 Be
 [.int .i64, .int .i64, .int .i64, .int .i64, .int .i64, .str,
 .sl 6 Aa, .sl 7 Ae]
 (t0r.getD t5.toNat [])=
 true)
 (Ag ((!decide (gI (t0r.getD t5.toNat []) 0=gI (t1r.getD t5.toNat []) 0))=false→
 ((0:Int)≤t5∧t5<(↑t1r.length:Int))∧
 Be
 [.int .i64, .int .i64, .int .i64, .int .i64, .int .i64, .str,
 .sl 6 Aa, .sl 7 Ae]
 (t1r.getD t5.toNat [])=
 true)
 (Let (bif !decide (gI (t0r.getD t5.toNat []) 0=gI (t1r.getD t5.toNat []) 0)then true
 else !decide (gI (t0r.getD t5.toNat []) 1=gI (t1r.getD t5.toNat []) 1)) fun x0=>
 Ag (x0=false→
 ((0:Int)≤t5∧t5<(↑t0r.length:Int))∧
 Be
 [.int .i64, .int .i64, .int .i64, .int .i64, .int .i64, .str,
 .sl 6 Aa, .sl 7 Ae]
 (t0r.getD t5.toNat [])=
 true)
 (Ag (x0=false→
 ((0:Int)≤t5∧t5<(↑t1r.length:Int))∧
 Be
 [.int .i64, .int .i64, .int .i64, .int .i64, .int .i64, .str,
 .sl 6 Aa, .sl 7 Ae]
 (t1r.getD t5.toNat [])=
 true)
 (Br (x0 == false)
 (Call E0.P Ti [.imm (.agg [.int .i64 (gI (t0r.getD t5.toNat []) 2), .int .i64 (gI (t0r.getD t5.toNat []) 3), .int .i64 (gI (t0r.getD t5.toNat []) 4), .str (gS (t0r.getD t5.toNat []) 5), .sl .any 6 (gR (t0r.getD t5.toNat []) 6), .sl .any 7 (gR (t0r.getD t5.toNat []) 7)]), .imm (.agg [.int .i64 (gI (t1r.getD t5.toNat []) 2), .int .i64 (gI (t1r.getD t5.toNat []) 3), .int .i64 (gI (t1r.getD t5.toNat []) 4), .str (gS (t1r.getD t5.toNat []) 5), .sl .any 6 (gR (t1r.getD t5.toNat []) 6), .sl .any 7 (gR (t1r.getD t5.toNat []) 7)])] [] fun r1 g1=>
 Ag (qB0 g1 r1)
 (Let (!rB r1) fun x2=>
 Br (x2)
 (K .ret ⟨[(4,Ab false)],[]⟩)
 (Ai9 t0r t1r t5 (Anq K))))
 (Ag ((!false)=true)
 (Let (true) fun x3=>
 Br (x3)
 (K .ret ⟨[(4,Ab false)],[]⟩)
 (Ai9 t0r t1r t5 (Anq K)))))))))))
 (K (.exit 0) ⟨[],[]⟩))):Aeo t0r t1r t5 K:=lR [0,1,5] h
theorem A28(t0r t1r:LL)(t5:Int)(K:KK)(h:
 (K .normal ⟨[(0,Al 8 t0r),(1,Al 8 t1r),(5,Ai (i64.wrap (t5+(1:Int))))],[]⟩)):Ai9 t0r t1r t5 K:=cR [0,1,5] h
theorem A29(K:KK)(h:
 (K .ret ⟨[(4,Ab true)],[]⟩)):Av5 K:=cR [] h
theorem A71(Q:QQ)(t4:Bool)(h:
 (Q (Ab t4) [])):Ano Q .ret ⟨[(4,Ab t4)],[]⟩:=kq h
theorem A72(Q:QQ)(h:
 (Av5 (Ano Q))):Anp Q (.exit 0) ⟨[],[]⟩:=kq h
theorem A73(K:KK)(t0r t1r:LL)(t5:Int)(h:
 (Aeo t0r t1r t5 K)):Anq K .normal ⟨[(0,Al 8 t0r),(1,Al 8 t1r),(5,Ai t5)],[]⟩:=kq h
theorem Bkp:Bd E0.P 14 V6.code V9 [.tmp 4]:=fq Tryz.func14
theorem Bd4(a0 a1:LL)(Q:QQ)(h:
 (Br (!decide ((↑a0.length:Int)=(↑a1.length:Int)))
 (Q (Ab false) [])
 (Aeo a0 a1 ((0:Int)) (Anp Q)))):Call E0.P Abg [Al 8 a0,Al 8 a1] [] Q:=fR 0 Bkp h
end
end Go.Proofs.Sim.Se

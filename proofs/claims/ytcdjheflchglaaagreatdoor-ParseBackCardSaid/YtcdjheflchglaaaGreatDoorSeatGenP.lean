import Derived.Test.YtcdjheflchglaaaGreatDoorSeatBase
set_option maxRecDepth 100000
set_option maxHeartbeats 4000000
namespace Go.Proofs.Sim.Se
open Go Go.Proofs Go.Proofs.Sim
noncomputable section
abbrev Ob(G:Heap)(R:AV):Prop:=G=[]∧R= .imm (.bool (rB R))
abbrev qP1(G:Heap)(R:AV):Prop:=G=[]∧R= .tup [.imm (IV.agg [.int .i64 (gI (Ae (rT R 0)) 0), .int .i64 (gI (Ae (rT R 0)) 1), .int .i64 (gI (Ae (rT R 0)) 2), .str (gS (Ae (rT R 0)) 3), .sl SK.any 6 (gR (Ae (rT R 0)) 4), .sl SK.any 7 (gR (Ae (rT R 0)) 5)]), .imm (.int .i64 (rI (rT R 1)))]
abbrev qP2(G:Heap)(R:AV):Prop:=G=[]∧R= .tup [.imm (IV.agg [.int .i64 (gI (Ae (rT R 0)) 0), .int .i64 (gI (Ae (rT R 0)) 1), .int .i64 (gI (Ae (rT R 0)) 2), .str (gS (Ae (rT R 0)) 3), .sl SK.any 6 (gR (Ae (rT R 0)) 4), .sl SK.any 7 (gR (Ae (rT R 0)) 5)]), .imm (.int .i64 (rI (rT R 1))), .imm (.int .i64 (rI (rT R 2)))]
abbrev qP3(G:Heap)(R:AV):Prop:=G=[]∧R= .imm (IV.agg [.int .i64 (gI (Ae R) 0), .int .i64 (gI (Ae R) 1), .int .i64 (gI (Ae R) 2), .str (gS (Ae R) 3), .sl SK.any 6 (gR (Ae R) 4), .sl SK.any 7 (gR (Ae R) 5)])
abbrev qP4(G:Heap)(R:AV):Prop:=G=[]∧R= .imm (.int .i64 (rI R))
abbrev qP5(G:Heap)(R:AV):Prop:=G=[(Nm.arg 0,Entry.blk 53 [.imm (.str (rS ((Au G Ad).getD 0 AV.undef))), .imm (.int .i64 (rI ((Au G Ad).getD 1 AV.undef))), .imm (.int .i64 (rI ((Au G Ad).getD 2 AV.undef)))])]∧R= .tup [.imm (IV.agg [.int .i64 (gI (Ae (rT R 0)) 0), .int .i64 (gI (Ae (rT R 0)) 1), .int .i64 (gI (Ae (rT R 0)) 2), .str (gS (Ae (rT R 0)) 3), .sl SK.any 6 (gR (Ae (rT R 0)) 4), .sl SK.any 7 (gR (Ae (rT R 0)) 5)]), .imm (.int .i64 (rI (rT R 1)))]
abbrev qP6(G:Heap)(R:AV):Prop:=G=[]∧R= .tup [.imm (IV.agg [.int .i64 (gI (Ae (rT R 0)) 0), .int .i64 (gI (Ae (rT R 0)) 1), .str (gS (Ae (rT R 0)) 2), .int .i64 (gI (Ae (rT R 0)) 3), .int .i64 (gI (Ae (rT R 0)) 4)]), .imm (.int .i64 (rI (rT R 1)))]
abbrev qP7(G:Heap)(R:AV):Prop:=G=[(Nm.arg 0,Entry.blk 53 [.imm (.str (rS ((Au G Ad).getD 0 AV.undef))), .imm (.int .i64 (rI ((Au G Ad).getD 1 AV.undef))), .imm (.int .i64 (rI ((Au G Ad).getD 2 AV.undef)))])]∧R= .tup [.imm (IV.agg [.int .i64 (gI (Ae (rT R 0)) 0), .int .i64 (gI (Ae (rT R 0)) 1), .str (gS (Ae (rT R 0)) 2), .int .i64 (gI (Ae (rT R 0)) 3), .int .i64 (gI (Ae (rT R 0)) 4)]), .imm (.int .i64 (rI (rT R 1)))]
abbrev qP8(G:Heap)(R:AV):Prop:=G=[(Nm.arg 0,Entry.blk 70 [.imm (.str (rS ((Au G Ad).getD 0 AV.undef))), .imm (.int .i64 (rI ((Au G Ad).getD 1 AV.undef))),AV.own Ar]),(Nm.arg 1,Entry.arr 7 true 1 (Da G Ar))]∧R= .tup [.imm (IV.agg [.int .i64 (gI (Ae (rT R 0)) 0), .int .i64 (gI (Ae (rT R 0)) 1), .str (gS (Ae (rT R 0)) 2), .int .i64 (gI (Ae (rT R 0)) 3), .int .i64 (gI (Ae (rT R 0)) 4)]), .imm (.int .i64 (rI (rT R 1)))]
abbrev qP9(G:Heap)(R:AV):Prop:=G=[(Nm.arg 0,Entry.blk 70 [.imm (.str (rS ((Au G Ad).getD 0 AV.undef))), .imm (.int .i64 (rI ((Au G Ad).getD 1 AV.undef))),AV.own Ar])]∧R= .imm (.int .u8 (rI R))
noncomputable def ac_l18_ParseBack:AC:=(Bf [] [4] (codeOf Tryz.f3) 0).1
abbrev X8:Nat:=78
theorem Aqw:Ca E0.P 3 ac_l18_ParseBack.code X8 [.tmp 4]:=Bl _ _ Tryz.f3 [] [4] _ 78 Tryz.func3 (by kernel_rfl) (by kernel_rfl) (by kernel_rfl) (by kernel_rfl)
theorem Amn(a0:LB)(a1_0 a1_1 a1_2:Int)(a1_3:LB)(a1_4 a1_5:LL)(Q:QQ)(h:
 (Call E0.P Ala [.imm (.agg [.int .i64 a1_0, .int .i64 a1_1, .int .i64 a1_2, .str a1_3, .sl .any 6 a1_4, .sl .any 7 a1_5]),Ai 500] [] fun r0 g0=>
 Ak (Ob g0 r0)
 (Let (bif !rB r0 then true else decide ((1000:Int)<(↑a0.length:Int))) fun x1=>
 Br (x1)
 (Call E0.P Cq [] [] fun r2 g2=>
 Ak (Ob g2 r2)
 (Q (Ab (rB r2)) []))
 (Call E0.P Adr [.imm (.agg [.int .i64 a1_0, .int .i64 a1_1, .int .i64 a1_2, .str a1_3, .sl .any 6 a1_4, .sl .any 7 a1_5])] [] fun r3 g3=>
 Ak (g3=[]∧r3= .tup [.imm (.str (rS (rT r3 0))), .imm (.int .i64 (rI (rT r3 1)))])
 (Br (!decide (rI (rT r3 1)=(0:Int)))
 (Br ((rS (rT r3 0) == []) == true)
 (Call E0.P Cq [] [] fun r4 g4=>
 Ak (Ob g4 r4)
 (Let (rB r4) fun x5=>
 Q (Ab x5) []))
 (Ak ((!true)=false)
 (Let (false) fun x6=>
 Q (Ab x6) [])))
 (Call E0.P Mi [As (rS (rT r3 0))] [] fun r7 g7=>
 Ak (qP1 g7 r7)
 (Ak ((↑(a0.length+(rS (rT r3 (0:Nat))).length):Int)≤(9223372036854775807:Int))
 (Ak ((↑((a0++rS (rT r3 (0:Nat))).length+(2:Nat)):Int)≤(9223372036854775807:Int))
 (Call E0.P Pp [As (a0++rS (rT r3 0)++[(32:UInt8),93]),Ai ((↑a0.length:Int))] [] fun r8 g8=>
 Ak (qP2 g8 r8)
 (Call E0.P Ht [.imm (.agg [.int .i64 a1_0, .int .i64 a1_1, .int .i64 a1_2, .str a1_3, .sl .any 6 a1_4, .sl .any 7 a1_5])] [] fun r9 g9=>
 Ak (qP3 g9 r9)
 (Call E0.P He [.imm (.agg [.int .i64 (gI (Ae (rT r7 0)) 0), .int .i64 (gI (Ae (rT r7 0)) 1), .int .i64 (gI (Ae (rT r7 0)) 2), .str (gS (Ae (rT r7 0)) 3), .sl .any 6 (gR (Ae (rT r7 0)) 4), .sl .any 7 (gR (Ae (rT r7 0)) 5)]), .imm (.agg [.int .i64 (gI (Ae r9) 0), .int .i64 (gI (Ae r9) 1), .int .i64 (gI (Ae r9) 2), .str (gS (Ae r9) 3), .sl .any 6 (gR (Ae r9) 4), .sl .any 7 (gR (Ae r9) 5)])] [] fun r10 g10=>
 Ak (Ob g10 r10)
 (Br (rB r10)
 (Let (decide (rI (rT r7 1)=(0:Int))) fun x11=>
 Br (x11)
 (Call E0.P He [.imm (.agg [.int .i64 (gI (Ae (rT r8 0)) 0), .int .i64 (gI (Ae (rT r8 0)) 1), .int .i64 (gI (Ae (rT r8 0)) 2), .str (gS (Ae (rT r8 0)) 3), .sl .any 6 (gR (Ae (rT r8 0)) 4), .sl .any 7 (gR (Ae (rT r8 0)) 5)]), .imm (.agg [.int .i64 (gI (Ae (rT r7 0)) 0), .int .i64 (gI (Ae (rT r7 0)) 1), .int .i64 (gI (Ae (rT r7 0)) 2), .str (gS (Ae (rT r7 0)) 3), .sl .any 6 (gR (Ae (rT r7 0)) 4), .sl .any 7 (gR (Ae (rT r7 0)) 5)])] [] fun r12 g12=>
 Ak (Ob g12 r12)
 (Let (rB r12) fun x13=>
 Br (x13)
 (Let (decide (rI (rT r8 1)=IntKind.i64.wrap ((↑a0.length:Int)+(↑(rS (rT r3 (0:Nat))).length:Int)))) fun x14=>
 Br (x14)
 (Let (decide (rI (rT r8 2)=(0:Int))) fun x15=>
 Br (x15)
 (Call E0.P Cq [] [] fun r16 g16=>
 Ak (Ob g16 r16)
 (Let (rB r16) fun x17=>
 Q (Ab x17) []))
 (Ak (false=false)
 (Let (false) fun x18=>
 Q (Ab x18) [])))
 (Ak (false=false)
 (Let (false) fun x19=>
 Br (x19)
 (Call E0.P Cq [] [] fun r20 g20=>
 Ak (Ob g20 r20)
 (Let (rB r20) fun x21=>
 Q (Ab x21) []))
 (Ak (false=false)
 (Let (false) fun x22=>
 Q (Ab x22) [])))))
 (Ak (false=false)
 (Let (false) fun x23=>
 Br (x23)
 (Let (decide (rI (rT r8 2)=(0:Int))) fun x24=>
 Br (x24)
 (Call E0.P Cq [] [] fun r25 g25=>
 Ak (Ob g25 r25)
 (Let (rB r25) fun x26=>
 Q (Ab x26) []))
 (Ak (false=false)
 (Let (false) fun x27=>
 Q (Ab x27) [])))
 (Ak (false=false)
 (Let (false) fun x28=>
 Br (x28)
 (Call E0.P Cq [] [] fun r29 g29=>
 Ak (Ob g29 r29)
 (Let (rB r29) fun x30=>
 Q (Ab x30) []))
 (Ak (false=false)
 (Let (false) fun x31=>
 Q (Ab x31) []))))))))
 (Ak (false=false)
 (Let (false) fun x32=>
 Br (x32)
 (Let (decide (rI (rT r8 1)=IntKind.i64.wrap ((↑a0.length:Int)+(↑(rS (rT r3 (0:Nat))).length:Int)))) fun x33=>
 Br (x33)
 (Let (decide (rI (rT r8 2)=(0:Int))) fun x34=>
 Br (x34)
 (Call E0.P Cq [] [] fun r35 g35=>
 Ak (Ob g35 r35)
 (Let (rB r35) fun x36=>
 Q (Ab x36) []))
 (Ak (false=false)
 (Let (false) fun x37=>
 Q (Ab x37) [])))
 (Ak (false=false)
 (Let (false) fun x38=>
 Br (x38)
 (Call E0.P Cq [] [] fun r39 g39=>
 Ak (Ob g39 r39)
 (Let (rB r39) fun x40=>
 Q (Ab x40) []))
 (Ak (false=false)
 (Let (false) fun x41=>
 Q (Ab x41) [])))))
 (Ak (false=false)
 (Let (false) fun x42=>
 Br (x42)
 (Let (decide (rI (rT r8 2)=(0:Int))) fun x43=>
 Br (x43)
 (Call E0.P Cq [] [] fun r44 g44=>
 Ak (Ob g44 r44)
 (Let (rB r44) fun x45=>
 Q (Ab x45) []))
 (Ak (false=false)
 (Let (false) fun x46=>
 Q (Ab x46) [])))
 (Ak (false=false)
 (Let (false) fun x47=>
 Br (x47)
 (Call E0.P Cq [] [] fun r48 g48=>
 Ak (Ob g48 r48)
 (Let (rB r48) fun x49=>
 Q (Ab x49) []))
 (Ak (false=false)
 (Let (false) fun x50=>
 Q (Ab x50) [])))))))))
 (Ak (false=false)
 (Let (false) fun x51=>
 Br (x51)
 (Call E0.P He [.imm (.agg [.int .i64 (gI (Ae (rT r8 0)) 0), .int .i64 (gI (Ae (rT r8 0)) 1), .int .i64 (gI (Ae (rT r8 0)) 2), .str (gS (Ae (rT r8 0)) 3), .sl .any 6 (gR (Ae (rT r8 0)) 4), .sl .any 7 (gR (Ae (rT r8 0)) 5)]), .imm (.agg [.int .i64 (gI (Ae (rT r7 0)) 0), .int .i64 (gI (Ae (rT r7 0)) 1), .int .i64 (gI (Ae (rT r7 0)) 2), .str (gS (Ae (rT r7 0)) 3), .sl .any 6 (gR (Ae (rT r7 0)) 4), .sl .any 7 (gR (Ae (rT r7 0)) 5)])] [] fun r52 g52=>
 Ak (Ob g52 r52)
 (Let (rB r52) fun x53=>
 Br (x53)
 (Let (decide (rI (rT r8 1)=IntKind.i64.wrap ((↑a0.length:Int)+(↑(rS (rT r3 (0:Nat))).length:Int)))) fun x54=>
 Br (x54)
 (Let (decide (rI (rT r8 2)=(0:Int))) fun x55=>
 Br (x55)
 (Call E0.P Cq [] [] fun r56 g56=>
 Ak (Ob g56 r56)
 (Let (rB r56) fun x57=>
 Q (Ab x57) []))
 (Ak (false=false)
 (Let (false) fun x58=>
 Q (Ab x58) [])))
 (Ak (false=false)
 (Let (false) fun x59=>
 Br (x59)
 (Call E0.P Cq [] [] fun r60 g60=>
 Ak (Ob g60 r60)
 (Let (rB r60) fun x61=>
 Q (Ab x61) []))
 (Ak (false=false)
 (Let (false) fun x62=>
 Q (Ab x62) [])))))
 (Ak (false=false)
 (Let (false) fun x63=>
 Br (x63)
 (Let (decide (rI (rT r8 2)=(0:Int))) fun x64=>
 Br (x64)
 (Call E0.P Cq [] [] fun r65 g65=>
 Ak (Ob g65 r65)
 (Let (rB r65) fun x66=>
 Q (Ab x66) []))
 (Ak (false=false)
 (Let (false) fun x67=>
 Q (Ab x67) [])))
 (Ak (false=false)
 (Let (false) fun x68=>
 Br (x68)
 (Call E0.P Cq [] [] fun r69 g69=>
 Ak (Ob g69 r69)
 (Let (rB r69) fun x70=>
 Q (Ab x70) []))
 (Ak (false=false)
 (Let (false) fun x71=>
 Q (Ab x71) []))))))))
 (Ak (false=false)
 (Let (false) fun x72=>
 Br (x72)
 (Let (decide (rI (rT r8 1)=IntKind.i64.wrap ((↑a0.length:Int)+(↑(rS (rT r3 (0:Nat))).length:Int)))) fun x73=>
 Br (x73)
 (Let (decide (rI (rT r8 2)=(0:Int))) fun x74=>
 Br (x74)
 (Call E0.P Cq [] [] fun r75 g75=>
 Ak (Ob g75 r75)
 (Let (rB r75) fun x76=>
 Q (Ab x76) []))
 (Ak (false=false)
 (Let (false) fun x77=>
 Q (Ab x77) [])))
 (Ak (false=false)
 (Let (false) fun x78=>
 Br (x78)
 (Call E0.P Cq [] [] fun r79 g79=>
 Ak (Ob g79 r79)
 (Let (rB r79) fun x80=>
 Q (Ab x80) []))
 (Ak (false=false)
 (Let (false) fun x81=>
 Q (Ab x81) [])))))
 (Ak (false=false)
 (Let (false) fun x82=>
 Br (x82)
 (Let (decide (rI (rT r8 2)=(0:Int))) fun x83=>
 Br (x83)
 (Call E0.P Cq [] [] fun r84 g84=>
 Ak (Ob g84 r84)
 (Let (rB r84) fun x85=>
 Q (Ab x85) []))
 (Ak (false=false)
 (Let (false) fun x86=>
 Q (Ab x86) [])))
 (Ak (false=false)
 (Let (false) fun x87=>
 Br (x87)
 (Call E0.P Cq [] [] fun r88 g88=>
 Ak (Ob g88 r88)
 (Let (rB r88) fun x89=>
 Q (Ab x89) []))
 (Ak (false=false)
 (Let (false) fun x90=>
 Q (Ab x90) [])))))))))))))))))))))):Call E0.P Aff [As a0, .imm (.agg [.int .i64 a1_0, .int .i64 a1_1, .int .i64 a1_2, .str a1_3, .sl .any 6 a1_4, .sl .any 7 a1_5])] [] Q:=Be (Aw E0 X8) (Bd X8) 3 0 3 ac_l18_ParseBack [.tmp 4] Aqw _ _ Q rfl rfl (kr (by kernel_rfl) h)
noncomputable def ac_l18_parsed:AC:=(Bf [] [0] (codeOf Tryz.f6) 0).1
abbrev Ac2:Nat:=58
theorem Axp:Ca E0.P 6 ac_l18_parsed.code Ac2 [.tmp 0]:=Bl _ _ Tryz.f6 [] [0] _ 58 Tryz.func6 (by kernel_rfl) (by kernel_rfl) (by kernel_rfl) (by kernel_rfl)
theorem As8(Q:QQ)(h:
 (Call E0.P Mi [.imm (.str [60,60,47,65,32,91,49,32,
 50,32,48,32,82,93,32,47,
 66,32,110,117,108,108,62,62])] [] fun r0 g0=>
 Ak (qP1 g0 r0)
 (Call E0.P Pp [.imm (.str [120,32,49,50,32,93]),Ai 1] [] fun r1 g1=>
 Ak (qP2 g1 r1)
 (Call E0.P Mi [.imm (.str [91,49])] [] fun r2 g2=>
 Ak (qP1 g2 r2)
 (Call E0.P Mi [.imm (.str [49,32,49])] [] fun r3 g3=>
 Ak (qP1 g3 r3)
 (Call E0.P He [.imm (.agg [.int .i64 (gI (Ae (rT r0 0)) 0), .int .i64 (gI (Ae (rT r0 0)) 1), .int .i64 (gI (Ae (rT r0 0)) 2), .str (gS (Ae (rT r0 0)) 3), .sl .any 6 (gR (Ae (rT r0 0)) 4), .sl .any 7 (gR (Ae (rT r0 0)) 5)]), .imm (.agg [.int .i64 6, .int .i64 0, .int .i64 0, .str [], .sl .any 6 [], .sl .any 7 [[IV.str [65], .int .i64 (5:Int), .int .i64 (0:Int), .int .i64 (0:Int),
 .str [],
 .sl SK.any 6
 [[IV.int .i64 (2:Int), .int .i64 (1:Int), .int .i64 (0:Int), .str [],
 .sl SK.any 6 [], .sl SK.any 7 []],
 [.int .i64 (7:Int), .int .i64 (2:Int), .int .i64 (0:Int), .str [],
 .sl SK.any 6 [], .sl SK.any 7 []]],
 .sl SK.any 7 []]]])] [] fun r4 g4=>
 Ak (Ob g4 r4)
 (Let (bif rB r4 then decide (rI (rT r0 1)=(0:Int))else false) fun x5=>
 Let (bif x5 then decide (rI (rT r1 1)=(4:Int))else false) fun x6=>
 Let (bif x6 then decide (rI (rT r1 2)=(0:Int))else false) fun x7=>
 Let (bif x7 then decide (rI (rT r2 1)=(5:Int))else false) fun x8=>
 Let (bif x8 then decide (rI (rT r3 1)=(4:Int))else false) fun x9=>
 Q (Ab x9) []))))))):Call E0.P Cq [] [] Q:=Be (Aw E0 Ac2) (Bd Ac2) 3 0 6 ac_l18_parsed [.tmp 0] Axp _ _ Q rfl rfl (kr (by kernel_rfl) h)
noncomputable def ac_parse_Value:AC:=(Bf [] [4,5,6] (codeOf Tryz.f9) 0).1
abbrev Abj:Nat:=31
theorem Au0:Ca E0.P 9 ac_parse_Value.code Abj [.cell 4 25, .tmp 5, .tmp 6]:=Bl _ _ Tryz.f9 [] [4,5,6] _ 31 Tryz.func9 (by kernel_rfl) (by kernel_rfl) (by kernel_rfl) (by kernel_rfl)
theorem Aqs(a0:LB)(a1:Int)(Q:QQ)(h:
 (Call E0.P Im [.ptr Ad 0] [(Ad, .blk Am [As a0,Ai a1,Ai 0])] fun r0 g0=>
 Ak (qP5 g0 r0)
 (Br (!decide (rI (rT r0 1)=(0:Int)))
 (Q (.tup [.imm (.agg [.int .i64 0, .int .i64 0, .int .i64 0, .str [], .sl .any 6 [], .sl .any 7 []]),Ai 0,Ai (rI (rT r0 1))]) [])
 (Call E0.P Ht [.imm (.agg [.int .i64 (gI (Ae (rT r0 0)) 0), .int .i64 (gI (Ae (rT r0 0)) 1), .int .i64 (gI (Ae (rT r0 0)) 2), .str (gS (Ae (rT r0 0)) 3), .sl .any 6 (gR (Ae (rT r0 0)) 4), .sl .any 7 (gR (Ae (rT r0 0)) 5)])] [] fun r1 g1=>
 Ak (qP3 g1 r1)
 (Q (.tup [.imm (.agg [.int .i64 (gI (Ae r1) 0), .int .i64 (gI (Ae r1) 1), .int .i64 (gI (Ae r1) 2), .str (gS (Ae r1) 3), .sl .any 6 (gR (Ae r1) 4), .sl .any 7 (gR (Ae r1) 5)]), .imm (.int .i64 (rI ((Au g0 Ad).getD 1 AV.undef))),Ai 0]) []))))):Call E0.P Pp [As a0,Ai a1] [] Q:=Be (Aw E0 Abj) (Bd Abj) 3 0 9 ac_parse_Value [.cell 4 25, .tmp 5, .tmp 6] Au0 _ _ Q rfl rfl (kr (by kernel_rfl) h)
noncomputable def ac_parse_Whole:AC:=(Bf [] [2,3] (codeOf Tryz.f8) 0).1
abbrev Aa9:Nat:=41
theorem Avi:Ca E0.P 8 ac_parse_Whole.code Aa9 [.cell 2 25, .tmp 3]:=Bl _ _ Tryz.f8 [] [2,3] _ 41 Tryz.func8 (by kernel_rfl) (by kernel_rfl) (by kernel_rfl) (by kernel_rfl)
theorem Ard(a0:LB)(Q:QQ)(h:
 (Call E0.P Pp [As a0,Ai 0] [] fun r0 g0=>
 Ak (qP2 g0 r0)
 (Br (!decide (rI (rT r0 2)=(0:Int)))
 (Q (.tup [.imm (.agg [.int .i64 0, .int .i64 0, .int .i64 0, .str [], .sl .any 6 [], .sl .any 7 []]),Ai (rI (rT r0 2))]) [])
 (Call E0.P Rz [As a0,Ai (rI (rT r0 1))] [] fun r1 g1=>
 Ak (qP6 g1 r1)
 (Br (!decide (rI (rT r1 1)=(0:Int)))
 (Q (.tup [.imm (.agg [.int .i64 0, .int .i64 0, .int .i64 0, .str [], .sl .any 6 [], .sl .any 7 []]),Ai (rI (rT r1 1))]) [])
 (Br (!decide (gI (Ae (rT r1 0)) 0=(0:Int)))
 (Q (.tup [.imm (.agg [.int .i64 0, .int .i64 0, .int .i64 0, .str [], .sl .any 6 [], .sl .any 7 []]),Ai 4]) [])
 (Q (.tup [.imm (.agg [.int .i64 (gI (Ae (rT r0 0)) 0), .int .i64 (gI (Ae (rT r0 0)) 1), .int .i64 (gI (Ae (rT r0 0)) 2), .str (gS (Ae (rT r0 0)) 3), .sl .any 6 (gR (Ae (rT r0 0)) 4), .sl .any 7 (gR (Ae (rT r0 0)) 5)]),Ai 0]) []))))))):Call E0.P Mi [As a0] [] Q:=Be (Aw E0 Aa9) (Bd Aa9) 3 0 8 ac_parse_Whole [.cell 2 25, .tmp 3] Avi _ _ Q rfl rfl (kr (by kernel_rfl) h)
noncomputable def ac_parse_reader_value:AC:=(Bf [] [2,3] (codeOf Tryz.f19) 0).1
abbrev Pm:Nat:=70
theorem Aju:Ca E0.P 19 ac_parse_reader_value.code Pm [.cell 2 25, .tmp 3]:=Bl _ _ Tryz.f19 [] [2,3] _ 70 Tryz.func19 (by kernel_rfl) (by kernel_rfl) (by kernel_rfl) (by kernel_rfl)
theorem Ag9(s:LB)(at_ win:Int)(Q:QQ)(h:
 (Call E0.P F9 [.ptr Ad 0] [(Ad, .blk Am [As s,Ai at_,Ai win])] fun r0 g0=>
 Ak (qP7 g0 r0)
 (Br (!decide (rI (rT r0 1)=(0:Int)))
 (Q (.tup [.imm (.agg [.int .i64 0, .int .i64 0, .int .i64 0, .str [], .sl .any 6 [], .sl .any 7 []]),Ai (rI (rT r0 1))]) [(Ad, .blk Am [.imm (.str (rS ((Au g0 Ad).getD 0 AV.undef))), .imm (.int .i64 (rI ((Au g0 Ad).getD 1 AV.undef))), .imm (.int .i64 (rI ((Au g0 Ad).getD 2 AV.undef)))])])
 (Br (decide (gI (Ae (rT r0 0)) 0=(0:Int)))
 (Q (.tup [.imm (.agg [.int .i64 0, .int .i64 0, .int .i64 0, .str [], .sl .any 6 [], .sl .any 7 []]),Ai 5]) [(Ad, .blk Am [.imm (.str (rS ((Au g0 Ad).getD 0 AV.undef))), .imm (.int .i64 (rI ((Au g0 Ad).getD 1 AV.undef))), .imm (.int .i64 (rI ((Au g0 Ad).getD 2 AV.undef)))])])
 (Br (decide (gI (Ae (rT r0 0)) 0=(1:Int)))
 (Call E0.P O0 [.ptr Ad 0,Ai (gI (Ae (rT r0 0)) 1)] [(Ad, .blk Am [.imm (.str (rS ((Au g0 Ad).getD 0 AV.undef))), .imm (.int .i64 (rI ((Au g0 Ad).getD 1 AV.undef))), .imm (.int .i64 (rI ((Au g0 Ad).getD 2 AV.undef)))])] fun r1 g1=>
 Ak (qP5 g1 r1)
 (Q (.tup [.imm (.agg [.int .i64 (gI (Ae (rT r1 0)) 0), .int .i64 (gI (Ae (rT r1 0)) 1), .int .i64 (gI (Ae (rT r1 0)) 2), .str (gS (Ae (rT r1 0)) 3), .sl .any 6 (gR (Ae (rT r1 0)) 4), .sl .any 7 (gR (Ae (rT r1 0)) 5)]),Ai (rI (rT r1 1))]) [(Ad, .blk Am [.imm (.str (rS ((Au g1 Ad).getD 0 AV.undef))), .imm (.int .i64 (rI ((Au g1 Ad).getD 1 AV.undef))), .imm (.int .i64 (rI ((Au g1 Ad).getD 2 AV.undef)))])]))
 (Br (decide (gI (Ae (rT r0 0)) 0=(2:Int)))
 (Q (.tup [.imm (.agg [.int .i64 3, .int .i64 0, .int .i64 0, .str (gS (Ae (rT r0 0)) 2), .sl .any 6 [], .sl .any 7 []]),Ai 0]) [(Ad, .blk Am [.imm (.str (rS ((Au g0 Ad).getD 0 AV.undef))), .imm (.int .i64 (rI ((Au g0 Ad).getD 1 AV.undef))), .imm (.int .i64 (rI ((Au g0 Ad).getD 2 AV.undef)))])])
 (Br (decide (gI (Ae (rT r0 0)) 0=(3:Int)))
 (Q (.tup [.imm (.agg [.int .i64 4, .int .i64 0, .int .i64 0, .str (gS (Ae (rT r0 0)) 2), .sl .any 6 [], .sl .any 7 []]),Ai 0]) [(Ad, .blk Am [.imm (.str (rS ((Au g0 Ad).getD 0 AV.undef))), .imm (.int .i64 (rI ((Au g0 Ad).getD 1 AV.undef))), .imm (.int .i64 (rI ((Au g0 Ad).getD 2 AV.undef)))])])
 (Br (decide (gI (Ae (rT r0 0)) 0=(8:Int)))
 (Call E0.P Ac4 [As (gS (Ae (rT r0 0)) 2)] [] fun r2 g2=>
 Ak (qP1 g2 r2)
 (Q (.tup [.imm (.agg [.int .i64 (gI (Ae (rT r2 0)) 0), .int .i64 (gI (Ae (rT r2 0)) 1), .int .i64 (gI (Ae (rT r2 0)) 2), .str (gS (Ae (rT r2 0)) 3), .sl .any 6 (gR (Ae (rT r2 0)) 4), .sl .any 7 (gR (Ae (rT r2 0)) 5)]),Ai (rI (rT r2 1))]) [(Ad, .blk Am [.imm (.str (rS ((Au g0 Ad).getD 0 AV.undef))), .imm (.int .i64 (rI ((Au g0 Ad).getD 1 AV.undef))), .imm (.int .i64 (rI ((Au g0 Ad).getD 2 AV.undef)))])]))
 (Br (decide (gI (Ae (rT r0 0)) 0=(4:Int)))
 (Br (decide ((64:Int)≤rI ((Au g0 Ad).getD 2 AV.undef)))
 (Q (.tup [.imm (.agg [.int .i64 0, .int .i64 0, .int .i64 0, .str [], .sl .any 6 [], .sl .any 7 []]),Ai 9]) [(Ad, .blk Am [.imm (.str (rS ((Au g0 Ad).getD 0 AV.undef))), .imm (.int .i64 (rI ((Au g0 Ad).getD 1 AV.undef))), .imm (.int .i64 (rI ((Au g0 Ad).getD 2 AV.undef)))])])
 (Call E0.P Q9 [.ptr Ad 0] [(Ad, .blk Am [.imm (.str (rS ((Au g0 Ad).getD 0 AV.undef))), .imm (.int .i64 (rI ((Au g0 Ad).getD 1 AV.undef))), .imm (.int .i64 (IntKind.i64.wrap (rI ((Au g0 Ad).getD 2 AV.undef)+(1:Int))))])] fun r3 g3=>
 Ak (qP5 g3 r3)
 (Q (.tup [.imm (.agg [.int .i64 (gI (Ae (rT r3 0)) 0), .int .i64 (gI (Ae (rT r3 0)) 1), .int .i64 (gI (Ae (rT r3 0)) 2), .str (gS (Ae (rT r3 0)) 3), .sl .any 6 (gR (Ae (rT r3 0)) 4), .sl .any 7 (gR (Ae (rT r3 0)) 5)]),Ai (rI (rT r3 1))]) [(Ad, .blk Am [.imm (.str (rS ((Au g3 Ad).getD 0 AV.undef))), .imm (.int .i64 (rI ((Au g3 Ad).getD 1 AV.undef))), .imm (.int .i64 (IntKind.i64.wrap (rI ((Au g3 Ad).getD 2 AV.undef) - (1:Int))))])])))
 (Br (decide (gI (Ae (rT r0 0)) 0=(6:Int)))
 (Br (decide ((64:Int)≤rI ((Au g0 Ad).getD 2 AV.undef)))
 (Q (.tup [.imm (.agg [.int .i64 0, .int .i64 0, .int .i64 0, .str [], .sl .any 6 [], .sl .any 7 []]),Ai 9]) [(Ad, .blk Am [.imm (.str (rS ((Au g0 Ad).getD 0 AV.undef))), .imm (.int .i64 (rI ((Au g0 Ad).getD 1 AV.undef))), .imm (.int .i64 (rI ((Au g0 Ad).getD 2 AV.undef)))])])
 (Call E0.P Rk [.ptr Ad 0] [(Ad, .blk Am [.imm (.str (rS ((Au g0 Ad).getD 0 AV.undef))), .imm (.int .i64 (rI ((Au g0 Ad).getD 1 AV.undef))), .imm (.int .i64 (IntKind.i64.wrap (rI ((Au g0 Ad).getD 2 AV.undef)+(1:Int))))])] fun r4 g4=>
 Ak (qP5 g4 r4)
 (Q (.tup [.imm (.agg [.int .i64 (gI (Ae (rT r4 0)) 0), .int .i64 (gI (Ae (rT r4 0)) 1), .int .i64 (gI (Ae (rT r4 0)) 2), .str (gS (Ae (rT r4 0)) 3), .sl .any 6 (gR (Ae (rT r4 0)) 4), .sl .any 7 (gR (Ae (rT r4 0)) 5)]),Ai (rI (rT r4 1))]) [(Ad, .blk Am [.imm (.str (rS ((Au g4 Ad).getD 0 AV.undef))), .imm (.int .i64 (rI ((Au g4 Ad).getD 1 AV.undef))), .imm (.int .i64 (IntKind.i64.wrap (rI ((Au g4 Ad).getD 2 AV.undef) - (1:Int))))])])))
 (Q (.tup [.imm (.agg [.int .i64 0, .int .i64 0, .int .i64 0, .str [], .sl .any 6 [], .sl .any 7 []]),Ai 4]) [(Ad, .blk Am [.imm (.str (rS ((Au g0 Ad).getD 0 AV.undef))), .imm (.int .i64 (rI ((Au g0 Ad).getD 1 AV.undef))), .imm (.int .i64 (rI ((Au g0 Ad).getD 2 AV.undef)))])]))))))))))):Call E0.P Im [.ptr (.arg 0) 0] [(.arg 0, .blk Am [.imm (.str s), .imm (.int .i64 at_), .imm (.int .i64 win)])] Q:=Be (Aw E0 Pm) (Bd Pm) 3 0 19 ac_parse_reader_value [.cell 2 25, .tmp 3] Aju _ _ Q rfl rfl (kr (by kernel_rfl) h)
noncomputable def ac_token_Next:AC:=(Bf [] [4,5] (codeOf Tryz.f18) 0).1
abbrev Acz:Nat:=42
theorem Axi:Ca E0.P 18 ac_token_Next.code Acz [.cell 4 46, .tmp 5]:=Bl _ _ Tryz.f18 [] [4,5] _ 42 Tryz.func18 (by kernel_rfl) (by kernel_rfl) (by kernel_rfl) (by kernel_rfl)
theorem As2(a0:LB)(a1:Int)(Q:QQ)(h:
 (Call E0.P Adj [As a0,Ai a1] [] fun r0 g0=>
 Ak (qP4 g0 r0)
 (Br (decide (rI r0=(↑a0.length:Int)))
 (Q (.tup [.imm (.agg [.int .i64 0, .int .i64 0, .str [], .int .i64 (rI r0), .int .i64 (rI r0)]),Ai 0]) [])
 (Call E0.P O5 [.ptr Ad 0] [(Ad, .blk Aa [As a0,Ai (rI r0), .own Ar]),(Ar, .arr (Aj+2) true 1 [])] fun r1 g1=>
 Ak (qP8 g1 r1)
 (Br (!decide (rI (rT r1 1)=(0:Int)))
 (Q (.tup [.imm (.agg [.int .i64 0, .int .i64 0, .str [], .int .i64 0, .int .i64 0]),Ai (rI (rT r1 1))]) [])
 (Q (.tup [.imm (.agg [.int .i64 (gI (Ae (rT r1 0)) 0), .int .i64 (gI (Ae (rT r1 0)) 1), .str (gS (Ae (rT r1 0)) 2), .int .i64 (rI r0), .int .i64 (rI ((Au g1 Ad).getD 1 AV.undef))]),Ai 0]) [])))))):Call E0.P Rz [As a0,Ai a1] [] Q:=Be (Aw E0 Acz) (Bd Acz) 3 0 18 ac_token_Next [.cell 4 46, .tmp 5] Axi _ _ Q rfl rfl (kr (by kernel_rfl) h)
noncomputable def ac_parse_cursor_take:AC:=(Bf [(3,[2,4,5],[])] [2,3] (codeOf Tryz.f32) 0).1
abbrev Hl:Nat:=20
def Kt(t5 u0 u1:Int)(u2:LB)(u3 u4:Int)(u5 u6:Int)(u7:LB)(u8 u9:Int)(v0:LB)(v1 v2:Int)(K:KK):Prop:=Av 3 E0.P Hl (Af 3 ac_parse_cursor_take).code ⟨[(2, .ptr nL2 0),(4, .ptr nL4 0),(5,Ai t5)],[(nL2, .blk Aq [Ai u0,Ai u1,As u2,Ai u3,Ai u4]),(nL4, .blk Aq [Ai u5,Ai u6,As u7,Ai u8,Ai u9]),(Ad, .blk Am [As v0,Ai v1,Ai v2])]⟩ K
def Lc(s:LB)(at_ win:Int)(Q:QQ):KK:=kE fun st=>finish 0 E0.T [.cell 2 46, .tmp 3] [(Ad, .blk Am [As s,Ai at_,Ai win])] Q st
theorem Afn(t5 u0 u1:Int)(u2:LB)(u3 u4:Int)(u5 u6:Int)(u7:LB)(u8 u9:Int)(v0:LB)(v1 v2:Int)(K:KK)(h:
 (K .ret ⟨[(2, .ptr nL2 0),(3,Ai t5)],[(nL2, .blk Aq [Ai u5,Ai u6,As u7,Ai u8,Ai u9]),(Ad, .blk Am [As v0,Ai v1,Ai v2])]⟩)):Kt t5 u0 u1 u2 u3 u4 u5 u6 u7 u8 u9 v0 v1 v2 K:=A9 (Aw E0 Hl) (Bd Hl) 3 3 (Af 3 ac_parse_cursor_take) [] _ K rfl (kr (by kernel_rfl) h)
theorem Af8(s:LB)(at_ win:Int)(Q:QQ)(t3 u0 u1:Int)(u2:LB)(u3 u4:Int)(u5:LB)(u6 u7:Int)(h:
 (Q (.tup [.imm (.agg [.int .i64 u0, .int .i64 u1, .str u2, .int .i64 u3, .int .i64 u4]),Ai t3]) [(Ad, .blk Am [As u5,Ai u6,Ai u7])])):Lc s at_ win Q .ret ⟨[(2, .ptr nL2 0),(3,Ai t3)],[(nL2, .blk Aq [Ai u0,Ai u1,As u2,Ai u3,Ai u4]),(Ad, .blk Am [As u5,Ai u6,Ai u7])]⟩:=kr (by kernel_rfl) h
theorem Akz:Ca E0.P 32 ac_parse_cursor_take.code Hl [.cell 2 46, .tmp 3]:=Bl _ _ Tryz.f32 [(3,[2,4,5],[])] [2,3] _ 20 Tryz.func32 (by kernel_rfl) (by kernel_rfl) (by kernel_rfl) (by kernel_rfl)
theorem Aif(s:LB)(at_ win:Int)(Q:QQ)(h:
 (Call E0.P Rz [As s,Ai at_] [] fun r0 g0=>
 Ak (qP6 g0 r0)
 (Br (decide (rI (rT r0 1)=(0:Int)))
 (Kt (rI (rT r0 1)) ((0:Int)) ((0:Int)) [] ((0:Int)) ((0:Int)) (gI (Ae (rT r0 0)) 0) (gI (Ae (rT r0 0)) 1) (gS (Ae (rT r0 0)) 2) (gI (Ae (rT r0 0)) 3) (gI (Ae (rT r0 0)) 4) s (gI (Ae (rT r0 0)) 4) win (Lc s at_ win Q))
 (Kt (rI (rT r0 1)) ((0:Int)) ((0:Int)) [] ((0:Int)) ((0:Int)) (gI (Ae (rT r0 0)) 0) (gI (Ae (rT r0 0)) 1) (gS (Ae (rT r0 0)) 2) (gI (Ae (rT r0 0)) 3) (gI (Ae (rT r0 0)) 4) s at_ win (Lc s at_ win Q))))):Call E0.P F9 [.ptr (.arg 0) 0] [(.arg 0, .blk Am [.imm (.str s), .imm (.int .i64 at_), .imm (.int .i64 win)])] Q:=Be (Aw E0 Hl) (Bd Hl) 3 0 32 ac_parse_cursor_take [.cell 2 46, .tmp 3] Akz _ _ Q rfl rfl (kr (by kernel_rfl) h)
noncomputable def ac_parse_reader_number:AC:=(Bf [] [4,5] (codeOf Tryz.f33) 0).1
abbrev Pb:Nat:=39
theorem Ah1:Ca E0.P 33 ac_parse_reader_number.code Pb [.cell 4 25, .tmp 5]:=Bl _ _ Tryz.f33 [] [4,5] _ 39 Tryz.func33 (by kernel_rfl) (by kernel_rfl) (by kernel_rfl) (by kernel_rfl)
theorem T9(s:LB)(at_ win a1:Int)(Q:QQ)(h:
 (Call E0.P Lv [.ptr Ad 0] [(Ad, .blk Am [As s,Ai at_,Ai win])] fun r0 g0=>
 Ak (g0=
 [(Nm.arg 0,
 Entry.blk 53
 [.imm (.str (rS ((Au g0 Ad).getD 0 AV.undef))),
 .imm (.int .i64 (rI ((Au g0 Ad).getD 1 AV.undef))),
 .imm (.int .i64 (rI ((Au g0 Ad).getD 2 AV.undef)))])]∧
 r0= .tup [.imm (.int .i64 (rI (rT r0 0))), .imm (.bool (rB (rT r0 1)))])
 (Br (!rB (rT r0 1))
 (Q (.tup [.imm (.agg [.int .i64 2, .int .i64 a1, .int .i64 0, .str [], .sl .any 6 [], .sl .any 7 []]),Ai 0]) [(Ad, .blk Am [.imm (.str (rS ((Au g0 Ad).getD 0 AV.undef))), .imm (.int .i64 (rI ((Au g0 Ad).getD 1 AV.undef))), .imm (.int .i64 (rI ((Au g0 Ad).getD 2 AV.undef)))])])
 (Let (bif decide (a1<(1:Int))then true else decide ((8388607:Int)<a1)) fun x1=>
 Let (bif x1 then true else decide (rI (rT r0 0)<(0:Int))) fun x2=>
 Let (bif x2 then true else decide ((65535:Int)<rI (rT r0 0))) fun x3=>
 Br (x3)
 (Q (.tup [.imm (.agg [.int .i64 0, .int .i64 0, .int .i64 0, .str [], .sl .any 6 [], .sl .any 7 []]),Ai 3]) [(Ad, .blk Am [.imm (.str (rS ((Au g0 Ad).getD 0 AV.undef))), .imm (.int .i64 (rI ((Au g0 Ad).getD 1 AV.undef))), .imm (.int .i64 (rI ((Au g0 Ad).getD 2 AV.undef)))])])
 (Q (.tup [.imm (.agg [.int .i64 7, .int .i64 a1, .int .i64 (rI (rT r0 0)), .str [], .sl .any 6 [], .sl .any 7 []]),Ai 0]) [(Ad, .blk Am [.imm (.str (rS ((Au g0 Ad).getD 0 AV.undef))), .imm (.int .i64 (rI ((Au g0 Ad).getD 1 AV.undef))), .imm (.int .i64 (rI ((Au g0 Ad).getD 2 AV.undef)))])]))))):Call E0.P O0 [.ptr (.arg 0) 0,Ai a1] [(.arg 0, .blk Am [.imm (.str s), .imm (.int .i64 at_), .imm (.int .i64 win)])] Q:=Be (Aw E0 Pb) (Bd Pb) 3 0 33 ac_parse_reader_number [.cell 4 25, .tmp 5] Ah1 _ _ Q rfl rfl (kr (by kernel_rfl) h)
noncomputable def ac_parse_word:AC:=(Bf [] [2,3] (codeOf Tryz.f34) 0).1
abbrev Adk:Nat:=17
theorem Axv:Ca E0.P 34 ac_parse_word.code Adk [.cell 2 25, .tmp 3]:=Bl _ _ Tryz.f34 [] [2,3] _ 17 Tryz.func34 (by kernel_rfl) (by kernel_rfl) (by kernel_rfl) (by kernel_rfl)
theorem Ata(a0:LB)(Q:QQ)(h:
 (Br (a0 == [(116:UInt8),114,117,101])
 (Q (.tup [.imm (.agg [.int .i64 1, .int .i64 1, .int .i64 0, .str [], .sl .any 6 [], .sl .any 7 []]),Ai 0]) [])
 (Br (a0 == [(102:UInt8),97,108,115,101])
 (Q (.tup [.imm (.agg [.int .i64 1, .int .i64 0, .int .i64 0, .str [], .sl .any 6 [], .sl .any 7 []]),Ai 0]) [])
 (Br (a0 == [(110:UInt8),117,108,108])
 (Q (.tup [.imm (.agg [.int .i64 0, .int .i64 0, .int .i64 0, .str [], .sl .any 6 [], .sl .any 7 []]),Ai 0]) [])
 (Q (.tup [.imm (.agg [.int .i64 0, .int .i64 0, .int .i64 0, .str [], .sl .any 6 [], .sl .any 7 []]),Ai 4]) []))))):Call E0.P Ac4 [As a0] [] Q:=Be (Aw E0 Adk) (Bd Adk) 3 0 34 ac_parse_word [.cell 2 25, .tmp 3] Axv _ _ Q rfl rfl (kr (by kernel_rfl) h)
noncomputable def ac_parse_reader_list:AC:=(Bf [(1,[0,2,4],[]),(4,[0,2,4],[]),(10,[2,4],[]),(16,[2,4],[])] [2,3] (codeOf Tryz.f36) 0).1
abbrev Cr:Nat:=49
def Il(u0:LB)(u1 u2:Int)(u3 u4 u5:Int)(u6:LB)(u7 u8 u9:Int)(v0:LB)(v1 v2:LL)(v3 v4:LL)(K:KK):Prop:=Bu 4 E0.P Cr (A8 4 ac_parse_reader_list).code ⟨[(0, .ptr Ad 0),(2, .ptr nL2 0),(4, .ptr nL4 0)],[(Ad, .blk Am [As u0,Ai u1,Ai u2]),(nL2, .blk Ac [Ai u3,Ai u4,Ai u5,As u6, .own (nL2.cell 4), .own (nL2.cell 5)]),(nL4, .blk Ac [Ai u7,Ai u8,Ai u9,As v0, .own (nL4.cell 4), .own (nL4.cell 5)]),((nL2.cell 4), .arr (Ac+2) true 6 v1),((nL2.cell 5), .arr (Ap+2) true 7 v2),((nL4.cell 4), .arr (Ac+2) true 6 v3),((nL4.cell 5), .arr (Ap+2) true 7 v4)]⟩ K
def Wp(u0 u1 u2:Int)(u3:LB)(u4 u5 u6:Int)(u7 u8:LB)(u9 v0:Int)(v1 v2:LL)(v3 v4:LL)(K:KK):Prop:=Av 16 E0.P Cr (Af 16 ac_parse_reader_list).code ⟨[(2, .ptr nL2 0),(4, .ptr nL4 0)],[(nL2, .blk Ac [Ai u0,Ai u1,Ai u2,As u3, .own (nL2.cell 4), .own (nL2.cell 5)]),(nL4, .blk Ac [Ai u4,Ai u5,Ai u6,As u7, .own (nL4.cell 4), .own (nL4.cell 5)]),(Ad, .blk Am [As u8,Ai u9,Ai v0]),((nL2.cell 4), .arr (Ac+2) true 6 v1),((nL2.cell 5), .arr (Ap+2) true 7 v2),((nL4.cell 4), .arr (Ac+2) true 6 v3),((nL4.cell 5), .arr (Ap+2) true 7 v4)]⟩ K
def Ym(s:LB)(at_ win:Int)(Q:QQ):KK:=kE fun st=>finish 0 E0.T [.cell 2 25, .tmp 3] [(Ad, .blk Am [As s,Ai at_,Ai win])] Q st
def K9(s:LB)(at_ win:Int)(Q:QQ):Ex→St→Prop
 | .normal,st=>finish 0 E0.T [.cell 2 25, .tmp 3] [(Ad, .blk Am [As s,Ai at_,Ai win])] Q st
 | .exit _,_=>False
 | .goto i,st=>Jh 1 E0.P Cr i (Ka 1 ac_parse_reader_list).code (mask [0,2,4] st) (Ym s at_ win Q)
 | .ret,st=>finish 0 E0.T [.cell 2 25, .tmp 3] [(Ad, .blk Am [As s,Ai at_,Ai win])] Q st
def Ik(s:LB)(at_ win:Int)(Q:QQ):Ex→St→Prop
 | .normal,st=>Av 16 E0.P Cr (Af 16 ac_parse_reader_list).code (mask [2,4] st) (K9 s at_ win Q)
 | .exit i,st=>(match (i.beq 0:Bool)with
 |true=>Av 16 E0.P Cr (Af 16 ac_parse_reader_list).code (mask [2,4] st) (K9 s at_ win Q)
 |false=>False)
 | .goto i,st=>Jh 1 E0.P Cr i (Ka 1 ac_parse_reader_list).code (mask [0,2,4] st) (Ym s at_ win Q)
 | .ret,st=>finish 0 E0.T [.cell 2 25, .tmp 3] [(Ad, .blk Am [As s,Ai at_,Ai win])] Q st
theorem Afu(u0:LB)(u1 u2:Int)(u3 u4 u5:Int)(u6:LB)(u7 u8 u9:Int)(v0:LB)(v1 v2:LL)(v3 v4:LL)(K:KK)(h:
 (Call E0.P Rz [As u0,Ai u1] [] fun r0 g0=>
 Ak (qP6 g0 r0)
 (Br (!decide (rI (rT r0 1)=(0:Int)))
 (K .ret ⟨[(2, .ptr nL2 0),(3,Ai (rI (rT r0 1)))],[(nL2, .blk Ac [Ai 0,Ai 0,Ai 0, .imm (.str []), .own (Nm.sub 20 (nL2.cell 4)), .own (Nm.sub 20 (nL2.cell 5))]),(Ad, .blk Am [As u0,Ai u1,Ai u2]),((Nm.sub 20 (nL2.cell 4)), .arr (Ac+2) true 6 []),((Nm.sub 20 (nL2.cell 5)), .arr (Ap+2) true 7 [])]⟩)
 (Br (decide (gI (Ae (rT r0 0)) 0=(5:Int)))
 (Call E0.P F9 [.ptr Ad 0] [(Ad, .blk Am [As u0,Ai u1,Ai u2])] fun r1 g1=>
 Ak (qP7 g1 r1)
 (K (.exit 0) ⟨[(2, .ptr nL2 0),(4, .ptr nL4 0)],[(nL2, .blk Ac [Ai u3,Ai u4,Ai u5,As u6, .own (nL2.cell 4), .own (nL2.cell 5)]),(nL4, .blk Ac [Ai u7,Ai u8,Ai u9,As v0, .own (nL4.cell 4), .own (nL4.cell 5)]),(Ad, .blk Am [.imm (.str (rS ((Au g1 Ad).getD 0 AV.undef))), .imm (.int .i64 (rI ((Au g1 Ad).getD 1 AV.undef))), .imm (.int .i64 (rI ((Au g1 Ad).getD 2 AV.undef)))]),((nL2.cell 4), .arr (Ac+2) true 6 v1),((nL2.cell 5), .arr (Ap+2) true 7 v2),((nL4.cell 4), .arr (Ac+2) true 6 v3),((nL4.cell 5), .arr (Ap+2) true 7 v4)]⟩))
 (Call E0.P Im [.ptr Ad 0] [(Ad, .blk Am [As u0,Ai u1,Ai u2])] fun r2 g2=>
 Ak (qP5 g2 r2)
 (Br (!decide (rI (rT r2 1)=(0:Int)))
 (K .ret ⟨[(2, .ptr nL2 0),(3,Ai (rI (rT r2 1)))],[(nL2, .blk Ac [Ai 0,Ai 0,Ai 0, .imm (.str []), .own (Nm.sub 39 (nL2.cell 4)), .own (Nm.sub 39 (nL2.cell 5))]),(Ad, .blk Am [.imm (.str (rS ((Au g2 Ad).getD 0 AV.undef))), .imm (.int .i64 (rI ((Au g2 Ad).getD 1 AV.undef))), .imm (.int .i64 (rI ((Au g2 Ad).getD 2 AV.undef)))]),((Nm.sub 39 (nL2.cell 4)), .arr (Ac+2) true 6 []),((Nm.sub 39 (nL2.cell 5)), .arr (Ap+2) true 7 [])]⟩)
 (Ak ((v3.length+1)*88≤140737488355328∧v3.length+1≤140737488355328)
 (Il (rS ((Au g2 Ad).getD 0 AV.undef)) (rI ((Au g2 Ad).getD 1 AV.undef)) (rI ((Au g2 Ad).getD 2 AV.undef)) u3 u4 u5 u6 u7 u8 u9 v0 v1 v2 (v3++
 [[IV.int .i64 (gI (Ae (rT r2 0)) 0),
 .int .i64 (gI (Ae (rT r2 0)) 1),
 .int .i64 (gI (Ae (rT r2 0)) 2), .str (gS (Ae (rT r2 0)) 3),
 .sl SK.any 6 (gR (Ae (rT r2 0)) 4),
 .sl SK.any 7 (gR (Ae (rT r2 0)) 5)]]) v4 K)))))))):Il u0 u1 u2 u3 u4 u5 u6 u7 u8 u9 v0 v1 v2 v3 v4 K:=Bo (Aw E0 Cr) (Bd Cr) 3 4 (A8 4 ac_parse_reader_list) [0,2,4] _ K rfl (kr (by kernel_rfl) h)
theorem Aeu(u0 u1 u2:Int)(u3:LB)(u4 u5 u6:Int)(u7 u8:LB)(u9 v0:Int)(v1 v2:LL)(v3 v4:LL)(K:KK)(h:
 (K .ret ⟨[(2, .ptr nL2 0),(3,Ai 0)],[(nL2, .blk Ac [Ai u4,Ai u5,Ai u6,As u7, .own (nL4.cell 4), .own (nL4.cell 5)]),(Ad, .blk Am [As u8,Ai u9,Ai v0]),((nL4.cell 4), .arr (Ac+2) true 6 v3),((nL4.cell 5), .arr (Ap+2) true 7 v4)]⟩)):Wp u0 u1 u2 u3 u4 u5 u6 u7 u8 u9 v0 v1 v2 v3 v4 K:=A9 (Aw E0 Cr) (Bd Cr) 3 16 (Af 16 ac_parse_reader_list) [] _ K rfl (kr (by kernel_rfl) h)
theorem Af1(s:LB)(at_ win:Int)(Q:QQ)(t3 u0:Int)(u1 u2:Int)(u3 u4:LB)(u5 u6:Int)(u7 u8:LL)(h:
 (Q (.tup [.imm (.agg [.int .i64 u0, .int .i64 u1, .int .i64 u2, .str u3, .sl .any 6 u7, .sl .any 7 u8]),Ai t3]) [(Ad, .blk Am [As u4,Ai u5,Ai u6])])):K9 s at_ win Q .ret ⟨[(2, .ptr nL2 0),(3,Ai t3)],[(nL2, .blk Ac [Ai u0,Ai u1,Ai u2,As u3, .own (nL4.cell 4), .own (nL4.cell 5)]),(Ad, .blk Am [As u4,Ai u5,Ai u6]),((nL4.cell 4), .arr (Ac+2) true 6 u7),((nL4.cell 5), .arr (Ap+2) true 7 u8)]⟩:=kr (by kernel_rfl) h
theorem Afk(s:LB)(at_ win:Int)(Q:QQ)(t3 u0:Int)(u1 u2:Int)(u3 u4:LB)(u5 u6:Int)(u7 u8:LL)(h:
 (Q (.tup [.imm (.agg [.int .i64 u0, .int .i64 u1, .int .i64 u2, .str u3, .sl .any 6 u7, .sl .any 7 u8]),Ai t3]) [(Ad, .blk Am [As u4,Ai u5,Ai u6])])):Ik s at_ win Q .ret ⟨[(2, .ptr nL2 0),(3,Ai t3)],[(nL2, .blk Ac [Ai u0,Ai u1,Ai u2,As u3, .own (Nm.sub 20 (nL2.cell 4)), .own (Nm.sub 20 (nL2.cell 5))]),(Ad, .blk Am [As u4,Ai u5,Ai u6]),((Nm.sub 20 (nL2.cell 4)), .arr (Ac+2) true 6 u7),((Nm.sub 20 (nL2.cell 5)), .arr (Ap+2) true 7 u8)]⟩:=kr (by kernel_rfl) h
theorem Agl(s:LB)(at_ win:Int)(Q:QQ)(u0 u1 u2:Int)(u3:LB)(u4 u5 u6:Int)(u7 u8:LB)(u9 v0:Int)(v1 v2:LL)(v3 v4:LL)(h:
 (Wp u0 u1 u2 u3 u4 u5 u6 u7 u8 u9 v0 v1 v2 v3 v4 (K9 s at_ win Q))):Ik s at_ win Q (.exit 0) ⟨[(2, .ptr nL2 0),(4, .ptr nL4 0)],[(nL2, .blk Ac [Ai u0,Ai u1,Ai u2,As u3, .own (nL2.cell 4), .own (nL2.cell 5)]),(nL4, .blk Ac [Ai u4,Ai u5,Ai u6,As u7, .own (nL4.cell 4), .own (nL4.cell 5)]),(Ad, .blk Am [As u8,Ai u9,Ai v0]),((nL2.cell 4), .arr (Ac+2) true 6 v1),((nL2.cell 5), .arr (Ap+2) true 7 v2),((nL4.cell 4), .arr (Ac+2) true 6 v3),((nL4.cell 5), .arr (Ap+2) true 7 v4)]⟩:=kr (by kernel_rfl) h
theorem Agh(s:LB)(at_ win:Int)(Q:QQ)(t3 u0:Int)(u1 u2:Int)(u3 u4:LB)(u5 u6:Int)(u7 u8:LL)(h:
 (Q (.tup [.imm (.agg [.int .i64 u0, .int .i64 u1, .int .i64 u2, .str u3, .sl .any 6 u7, .sl .any 7 u8]),Ai t3]) [(Ad, .blk Am [As u4,Ai u5,Ai u6])])):Ik s at_ win Q .ret ⟨[(2, .ptr nL2 0),(3,Ai t3)],[(nL2, .blk Ac [Ai u0,Ai u1,Ai u2,As u3, .own (Nm.sub 39 (nL2.cell 4)), .own (Nm.sub 39 (nL2.cell 5))]),(Ad, .blk Am [As u4,Ai u5,Ai u6]),((Nm.sub 39 (nL2.cell 4)), .arr (Ac+2) true 6 u7),((Nm.sub 39 (nL2.cell 5)), .arr (Ap+2) true 7 u8)]⟩:=kr (by kernel_rfl) h
theorem Ak3:Ca E0.P 36 ac_parse_reader_list.code Cr [.cell 2 25, .tmp 3]:=Bl _ _ Tryz.f36 [(1,[0,2,4],[]),(4,[0,2,4],[]),(10,[2,4],[]),(16,[2,4],[])] [2,3] _ 49 Tryz.func36 (by kernel_rfl) (by kernel_rfl) (by kernel_rfl) (by kernel_rfl)
theorem Ahv(s:LB)(at_ win:Int)(Q:QQ)(h:
 (Il s at_ win ((0:Int)) ((0:Int)) ((0:Int)) [] ((5:Int)) ((0:Int)) ((0:Int)) [] [] [] [] [] (Ik s at_ win Q))):Call E0.P Q9 [.ptr (.arg 0) 0] [(.arg 0, .blk Am [.imm (.str s), .imm (.int .i64 at_), .imm (.int .i64 win)])] Q:=Be (Aw E0 Cr) (Bd Cr) 3 0 36 ac_parse_reader_list [.cell 2 25, .tmp 3] Ak3 _ _ Q rfl rfl (kr (by kernel_rfl) h)
noncomputable def ac_parse_reader_dict:AC:=(Bf [(3,[0,2,4,5],[])] [2,3] (codeOf Tryz.f37) 0).1
abbrev Hm:Nat:=47
def Ij(u0:LB)(u1 u2:Int)(u3 u4 u5:Int)(u6:LB)(u7 u8 u9:Int)(v0:LB)(v1:List (List UInt8 × Int))(v2 v3:LL)(v4 v5:LL)(K:KK):Prop:=Bu 3 E0.P Hm (A8 3 ac_parse_reader_dict).code ⟨[(0, .ptr Ad 0),(2, .ptr nL2 0),(4, .ptr nL4 0),(5, .mp Beb)],[(Ad, .blk Am [As u0,Ai u1,Ai u2]),(nL2, .blk Ac [Ai u3,Ai u4,Ai u5,As u6, .own (nL2.cell 4), .own (nL2.cell 5)]),(nL4, .blk Ac [Ai u7,Ai u8,Ai u9,As v0, .own (nL4.cell 4), .own (nL4.cell 5)]),(Beb, .map v1),((nL2.cell 4), .arr (Ac+2) true 6 v2),((nL2.cell 5), .arr (Ap+2) true 7 v3),((nL4.cell 4), .arr (Ac+2) true 6 v4),((nL4.cell 5), .arr (Ap+2) true 7 v5)]⟩ K
def Gv(s:LB)(at_ win:Int)(Q:QQ):KK:=kF 0 (fun st=>finish 0 E0.T [.cell 2 25, .tmp 3] [(Ad, .blk Am [As s,Ai at_,Ai win])] Q st) fun st=>finish 0 E0.T [.cell 2 25, .tmp 3] [(Ad, .blk Am [As s,Ai at_,Ai win])] Q st
theorem Agv(u0:LB)(u1 u2:Int)(u3 u4 u5:Int)(u6:LB)(u7 u8 u9:Int)(v0:LB)(v1:List (List UInt8 × Int))(v2 v3:LL)(v4 v5:LL)(K:KK)(h:
 (Call E0.P Sl [.ptr Ad 0, .mp Ar] [(Ad, .blk Am [As u0,Ai u1,Ai u2]),(Ar, .map v1)] fun r0 g0=>
 Ak (g0=
 [(Nm.arg 0,
 Entry.blk 53
 [.imm (.str (rS ((Au g0 Ad).getD 0 AV.undef))),
 .imm (.int .i64 (rI ((Au g0 Ad).getD 1 AV.undef))),
 .imm (.int .i64 (rI ((Au g0 Ad).getD 2 AV.undef)))]),
 (Nm.arg 1,Entry.map (mapOf g0 Ar))]∧
 r0=
 .tup
 [.imm (.str (rS (rT r0 0))), .imm (.bool (rB (rT r0 1))),
 .imm (.int .i64 (rI (rT r0 2)))])
 (Br (!decide (rI (rT r0 2)=(0:Int)))
 (K .ret ⟨[(2, .ptr nL2 0),(3,Ai (rI (rT r0 2)))],[(nL2, .blk Ac [Ai 0,Ai 0,Ai 0, .imm (.str []), .own (Nm.sub 22 (nL2.cell 4)), .own (Nm.sub 22 (nL2.cell 5))]),(Ad, .blk Am [.imm (.str (rS ((Au g0 Ad).getD 0 AV.undef))), .imm (.int .i64 (rI ((Au g0 Ad).getD 1 AV.undef))), .imm (.int .i64 (rI ((Au g0 Ad).getD 2 AV.undef)))]),((Nm.sub 22 (nL2.cell 4)), .arr (Ac+2) true 6 []),((Nm.sub 22 (nL2.cell 5)), .arr (Ap+2) true 7 [])]⟩)
 (Br (!rB (rT r0 1))
 (K .ret ⟨[(2, .ptr nL2 0),(3,Ai 0)],[(nL2, .blk Ac [Ai u7,Ai u8,Ai u9,As v0, .own (nL4.cell 4), .own (nL4.cell 5)]),(Ad, .blk Am [.imm (.str (rS ((Au g0 Ad).getD 0 AV.undef))), .imm (.int .i64 (rI ((Au g0 Ad).getD 1 AV.undef))), .imm (.int .i64 (rI ((Au g0 Ad).getD 2 AV.undef)))]),((nL4.cell 4), .arr (Ac+2) true 6 v4),((nL4.cell 5), .arr (Ap+2) true 7 v5)]⟩)
 (Call E0.P Im [.ptr Ad 0] [(Ad, .blk Am [.imm (.str (rS ((Au g0 Ad).getD 0 AV.undef))), .imm (.int .i64 (rI ((Au g0 Ad).getD 1 AV.undef))), .imm (.int .i64 (rI ((Au g0 Ad).getD 2 AV.undef)))])] fun r1 g1=>
 Ak (qP5 g1 r1)
 (Br (!decide (rI (rT r1 1)=(0:Int)))
 (K .ret ⟨[(2, .ptr nL2 0),(3,Ai (rI (rT r1 1)))],[(nL2, .blk Ac [Ai 0,Ai 0,Ai 0, .imm (.str []), .own (Nm.sub 36 (nL2.cell 4)), .own (Nm.sub 36 (nL2.cell 5))]),(Ad, .blk Am [.imm (.str (rS ((Au g1 Ad).getD 0 AV.undef))), .imm (.int .i64 (rI ((Au g1 Ad).getD 1 AV.undef))), .imm (.int .i64 (rI ((Au g1 Ad).getD 2 AV.undef)))]),((Nm.sub 36 (nL2.cell 4)), .arr (Ac+2) true 6 []),((Nm.sub 36 (nL2.cell 5)), .arr (Ap+2) true 7 [])]⟩)
 (Ak ((v5.length+1)*104≤140737488355328∧v5.length+1≤140737488355328)
 (Ij (rS ((Au g1 Ad).getD 0 AV.undef)) (rI ((Au g1 Ad).getD 1 AV.undef)) (rI ((Au g1 Ad).getD 2 AV.undef)) u3 u4 u5 u6 u7 u8 u9 v0 (mapOf g0 Ar) v2 v3 v4 (v5++
 [[IV.str (rS (rT r0 0)), .int .i64 (gI (Ae (rT r1 0)) 0),
 .int .i64 (gI (Ae (rT r1 0)) 1),
 .int .i64 (gI (Ae (rT r1 0)) 2), .str (gS (Ae (rT r1 0)) 3),
 .sl SK.any 6 (gR (Ae (rT r1 0)) 4),
 .sl SK.any 7 (gR (Ae (rT r1 0)) 5)]]) K)))))))):Ij u0 u1 u2 u3 u4 u5 u6 u7 u8 u9 v0 v1 v2 v3 v4 v5 K:=Bo (Aw E0 Hm) (Bd Hm) 3 3 (A8 3 ac_parse_reader_dict) [0,2,4,5] _ K rfl (kr (by kernel_rfl) h)
theorem Aga(s:LB)(at_ win:Int)(Q:QQ)(t3 u0:Int)(u1 u2:Int)(u3 u4:LB)(u5 u6:Int)(u7 u8:LL)(h:
 (Q (.tup [.imm (.agg [.int .i64 u0, .int .i64 u1, .int .i64 u2, .str u3, .sl .any 6 u7, .sl .any 7 u8]),Ai t3]) [(Ad, .blk Am [As u4,Ai u5,Ai u6])])):Gv s at_ win Q .ret ⟨[(2, .ptr nL2 0),(3,Ai t3)],[(nL2, .blk Ac [Ai u0,Ai u1,Ai u2,As u3, .own (Nm.sub 22 (nL2.cell 4)), .own (Nm.sub 22 (nL2.cell 5))]),(Ad, .blk Am [As u4,Ai u5,Ai u6]),((Nm.sub 22 (nL2.cell 4)), .arr (Ac+2) true 6 u7),((Nm.sub 22 (nL2.cell 5)), .arr (Ap+2) true 7 u8)]⟩:=kr (by kernel_rfl) h
theorem Af5(s:LB)(at_ win:Int)(Q:QQ)(t3 u0:Int)(u1 u2:Int)(u3 u4:LB)(u5 u6:Int)(u7 u8:LL)(h:
 (Q (.tup [.imm (.agg [.int .i64 u0, .int .i64 u1, .int .i64 u2, .str u3, .sl .any 6 u7, .sl .any 7 u8]),Ai t3]) [(Ad, .blk Am [As u4,Ai u5,Ai u6])])):Gv s at_ win Q .ret ⟨[(2, .ptr nL2 0),(3,Ai t3)],[(nL2, .blk Ac [Ai u0,Ai u1,Ai u2,As u3, .own (nL4.cell 4), .own (nL4.cell 5)]),(Ad, .blk Am [As u4,Ai u5,Ai u6]),((nL4.cell 4), .arr (Ac+2) true 6 u7),((nL4.cell 5), .arr (Ap+2) true 7 u8)]⟩:=kr (by kernel_rfl) h
theorem Afy(s:LB)(at_ win:Int)(Q:QQ)(t3 u0:Int)(u1 u2:Int)(u3 u4:LB)(u5 u6:Int)(u7 u8:LL)(h:
 (Q (.tup [.imm (.agg [.int .i64 u0, .int .i64 u1, .int .i64 u2, .str u3, .sl .any 6 u7, .sl .any 7 u8]),Ai t3]) [(Ad, .blk Am [As u4,Ai u5,Ai u6])])):Gv s at_ win Q .ret ⟨[(2, .ptr nL2 0),(3,Ai t3)],[(nL2, .blk Ac [Ai u0,Ai u1,Ai u2,As u3, .own (Nm.sub 36 (nL2.cell 4)), .own (Nm.sub 36 (nL2.cell 5))]),(Ad, .blk Am [As u4,Ai u5,Ai u6]),((Nm.sub 36 (nL2.cell 4)), .arr (Ac+2) true 6 u7),((Nm.sub 36 (nL2.cell 5)), .arr (Ap+2) true 7 u8)]⟩:=kr (by kernel_rfl) h
theorem Ajv:Ca E0.P 37 ac_parse_reader_dict.code Hm [.cell 2 25, .tmp 3]:=Bl _ _ Tryz.f37 [(3,[0,2,4,5],[])] [2,3] _ 47 Tryz.func37 (by kernel_rfl) (by kernel_rfl) (by kernel_rfl) (by kernel_rfl)
theorem Ah6(s:LB)(at_ win:Int)(Q:QQ)(h:
 (Ij s at_ win ((0:Int)) ((0:Int)) ((0:Int)) [] ((6:Int)) ((0:Int)) ((0:Int)) [] [] [] [] [] [] (Gv s at_ win Q))):Call E0.P Rk [.ptr (.arg 0) 0] [(.arg 0, .blk Am [.imm (.str s), .imm (.int .i64 at_), .imm (.int .i64 win)])] Q:=Be (Aw E0 Hm) (Bd Hm) 3 0 37 ac_parse_reader_dict [.cell 2 25, .tmp 3] Ajv _ _ Q rfl rfl (kr (by kernel_rfl) h)
noncomputable def ac_token_Skip:AC:=(Bf [(1,[0,1],[]),(6,[0,1],[]),(8,[0,1],[]),(9,[0,1],[0,1]),(10,[0,1],[1]),(11,[0,1],[]),(12,[1],[])] [4] (codeOf Tryz.f29) 0).1
abbrev Bn:Nat:=39
def Px(t0:LB)(t1:Int)(K:KK):Prop:=Bu 6 E0.P Bn (A8 6 ac_token_Skip).code ⟨[(0,As t0),(1,Ai t1)],[]⟩ K
def Z4(t1:Int)(K:KK):Prop:=Av 12 E0.P Bn (Af 12 ac_token_Skip).code ⟨[(1,Ai t1)],[]⟩ K
def Abl(t0:LB)(t1:Int)(K:KK):Prop:=Av 9 E0.P Bn (Af 9 ac_token_Skip).code ⟨[(0,As t0),(1,Ai t1)],[]⟩ K
def Zi(t0:LB)(t1:Int)(K:KK):Prop:=Av 10 E0.P Bn (Af 10 ac_token_Skip).code ⟨[(0,As t0),(1,Ai t1)],[]⟩ K
def U7(t0:LB)(t1:Int)(K:KK):Prop:=Jh 1 E0.P Bn 0 (Ka 1 ac_token_Skip).code ⟨[(0,As t0),(1,Ai t1)],[]⟩ K
def Mk(Q:QQ):KK:=kE fun st=>finish 0 E0.T [.tmp 4] [] Q st
def Abn(Q:QQ):Ex→St→Prop
 | .normal,st=>finish 0 E0.T [.tmp 4] [] Q st
 | .exit _,_=>False
 | .goto i,st=>Jh 1 E0.P Bn i (Ka 1 ac_token_Skip).code (mask [0,1] st) (Mk Q)
 | .ret,st=>finish 0 E0.T [.tmp 4] [] Q st
def Um(Q:QQ):Ex→St→Prop
 | .normal,st=>Av 12 E0.P Bn (Af 12 ac_token_Skip).code (mask [1] st) (Abn Q)
 | .exit _,_=>False
 | .goto i,st=>Jh 1 E0.P Bn i (Ka 1 ac_token_Skip).code (mask [0,1] st) (Mk Q)
 | .ret,st=>finish 0 E0.T [.tmp 4] [] Q st
def Aiz(Q:QQ):Ex→St→Prop
 | .normal,st=>Av 10 E0.P Bn (Af 10 ac_token_Skip).code (mask [0,1] st) (Um Q)
 | .exit i,st=>(match (i.beq 0:Bool)with
 |true=>Av 10 E0.P Bn (Af 10 ac_token_Skip).code (mask [0,1] st) (Um Q)
 |false=>False)
 | .goto i,st=>Jh 1 E0.P Bn i (Ka 1 ac_token_Skip).code (mask [0,1] st) (Mk Q)
 | .ret,st=>finish 0 E0.T [.tmp 4] [] Q st
def Aax(K:KK):Ex→St→Prop
 | .normal,st=>Bu 6 E0.P Bn (A8 6 ac_token_Skip).code (mask [0,1] st) K
 | .exit i,st=>K (.exit i) st
 | .goto i,st=>K (.goto i) st
 | .ret,st=>K .ret st
def Aa4(K:KK):Ex→St→Prop
 | .normal,st=>K .normal st
 | .exit i,st=>K (.exit i) st
 | .goto i,st=>Jh 1 E0.P Bn i (Ka 1 ac_token_Skip).code (mask [0,1] st) K
 | .ret,st=>K .ret st
def Uu(K:KK):Ex→St→Prop
 | .normal,st=>Av 12 E0.P Bn (Af 12 ac_token_Skip).code (mask [1] st) (Aa4 K)
 | .exit i,st=>K (.exit i) st
 | .goto i,st=>Jh 1 E0.P Bn i (Ka 1 ac_token_Skip).code (mask [0,1] st) K
 | .ret,st=>K .ret st
def Ajq(K:KK):Ex→St→Prop
 | .normal,st=>Av 10 E0.P Bn (Af 10 ac_token_Skip).code (mask [0,1] st) (Uu K)
 | .exit i,st=>(match (i.beq 0:Bool)with
 |true=>Av 10 E0.P Bn (Af 10 ac_token_Skip).code (mask [0,1] st) (Uu K)
 |false=>K (.exit i) st)
 | .goto i,st=>Jh 1 E0.P Bn i (Ka 1 ac_token_Skip).code (mask [0,1] st) K
 | .ret,st=>K .ret st
theorem Adx(t0:LB)(t1:Int)(K:KK)(h:
 (Br (decide (t1<(↑t0.length:Int)) == true)
 (Call E0.P Nz [As t0,Ai t1] [] fun r0 g0=>
 Ak (qP4 g0 r0)
 (Let (decide (rI r0=(0:Int))) fun x1=>
 Br (x1)
 (Abl t0 t1 (Aax K))
 (K (.exit 0) ⟨[(0,As t0),(1,Ai t1)],[]⟩)))
 (Ak ((!true)=false)
 (Let (false) fun x2=>
 Br (x2)
 (Abl t0 t1 (Aax K))
 (K (.exit 0) ⟨[(0,As t0),(1,Ai t1)],[]⟩))))):Px t0 t1 K:=Bo (Aw E0 Bn) (Bd Bn) 3 6 (A8 6 ac_token_Skip) [0,1] _ K rfl (kr (by kernel_rfl) h)
theorem Ud(t1:Int)(K:KK)(h:
 (K .ret ⟨[(4,Ai t1)],[]⟩)):Z4 t1 K:=A9 (Aw E0 Bn) (Bd Bn) 3 12 (Af 12 ac_token_Skip) [] _ K rfl (kr (by kernel_rfl) h)
theorem Apx(t0:LB)(t1:Int)(K:KK)(h:
 (K .normal ⟨[(0,As t0),(1,Ai (IntKind.i64.wrap (t1+(1:Int))))],[]⟩)):Abl t0 t1 K:=A9 (Aw E0 Bn) (Bd Bn) 3 9 (Af 9 ac_token_Skip) [0,1] _ K rfl (kr (by kernel_rfl) h)
theorem Acp(t0:LB)(t1:Int)(K:KK)(h:
 (K (.goto 0) ⟨[(0,As t0),(1,Ai t1)],[]⟩)):Zi t0 t1 K:=A9 (Aw E0 Bn) (Bd Bn) 3 10 (Af 10 ac_token_Skip) [1] _ K rfl (kr (by kernel_rfl) h)
theorem Ad0(t0:LB)(t1:Int)(K:KK)(h:
 (Call E0.P Rw [As t0,Ai t1, .imm (.sl .any 1 [[IV.int .i64 (0:Int)]])] [] fun r0 g0=>
 Ak (qP4 g0 r0)
 (Ak (decide (IntKind.i64.wrap (t1+rI r0)<(↑t0.length:Int))=true→
 (0:Int)≤IntKind.i64.wrap (t1+rI r0)∧IntKind.i64.wrap (t1+rI r0)<(↑t0.length:Int))
 (Let (bif decide (IntKind.i64.wrap (t1+rI r0)<(↑t0.length:Int))then
 decide ((↑(t0.getD (IntKind.i64.wrap (t1+rI r0)).toNat 0).toNat:Int)=(37:Int))
 else false) fun x1=>
 Br (x1)
 (Px t0 (IntKind.i64.wrap (t1+rI r0)) (Ajq K))
 (Z4 (IntKind.i64.wrap (t1+rI r0)) (Aa4 K)))))):U7 t0 t1 K:=A4b (Aw E0 Bn) (Bd Bn) 3 1 0 (Ka 1 ac_token_Skip) (A7v 1 0 ac_token_Skip) [0,1] _ K (by kernel_rfl) rfl (kr (by kernel_rfl) h)
theorem Ady(Q:QQ)(t4:Int)(h:
 (Q (Ai t4) [])):Mk Q .ret ⟨[(4,Ai t4)],[]⟩:=kr (by kernel_rfl) h
theorem Apn(Q:QQ)(t4:Int)(h:
 (Q (Ai t4) [])):Abn Q .ret ⟨[(4,Ai t4)],[]⟩:=kr (by kernel_rfl) h
theorem Apg(Q:QQ)(t0:LB)(t1:Int)(h:
 (U7 t0 t1 (Mk Q))):Um Q (.goto 0) ⟨[(0,As t0),(1,Ai t1)],[]⟩:=kr (by kernel_rfl) h
theorem Ap4(Q:QQ)(t0:LB)(t1:Int)(h:
 (Zi t0 t1 (Um Q))):Aiz Q (.exit 0) ⟨[(0,As t0),(1,Ai t1)],[]⟩:=kr (by kernel_rfl) h
theorem Apy(K:KK)(t0:LB)(t1:Int)(h:
 (Px t0 t1 K)):Aax K .normal ⟨[(0,As t0),(1,Ai t1)],[]⟩:=kr (by kernel_rfl) h
theorem Ad5(K:KK)(t4:Int)(h:
 (K .ret ⟨[(4,Ai t4)],[]⟩)):Aa4 K .ret ⟨[(4,Ai t4)],[]⟩:=kr (by kernel_rfl) h
theorem Apv(K:KK)(t0:LB)(t1:Int)(h:
 (U7 t0 t1 K)):Uu K (.goto 0) ⟨[(0,As t0),(1,Ai t1)],[]⟩:=kr (by kernel_rfl) h
theorem Apt(K:KK)(t0:LB)(t1:Int)(h:
 (Zi t0 t1 (Uu K))):Ajq K (.exit 0) ⟨[(0,As t0),(1,Ai t1)],[]⟩:=kr (by kernel_rfl) h
theorem Axn:Ca E0.P 29 ac_token_Skip.code Bn [.tmp 4]:=Bl _ _ Tryz.f29 [(1,[0,1],[]),(6,[0,1],[]),(8,[0,1],[]),(9,[0,1],[0,1]),(10,[0,1],[1]),(11,[0,1],[]),(12,[1],[])] [4] _ 39 Tryz.func29 (by kernel_rfl) (by kernel_rfl) (by kernel_rfl) (by kernel_rfl)
theorem Auj(a0:LB)(a1:Int)(Q:QQ)(h:
 (Call E0.P Rw [As a0,Ai (if(if(↑a0.length:Int)<a1 then(↑a0.length:Int)else a1)>(0:Int)then
 if(↑a0.length:Int)<a1 then(↑a0.length:Int)else a1
 else(0:Int)), .imm (.sl .any 1 [[IV.int .i64 (0:Int)]])] [] fun r0 g0=>
 Ak (qP4 g0 r0)
 (Ak (decide
 (IntKind.i64.wrap
 ((if(if(↑a0.length:Int)<a1 then(↑a0.length:Int)else a1)>(0:Int)then
 if(↑a0.length:Int)<a1 then(↑a0.length:Int)else a1
 else(0:Int))+
 rI r0)<
 (↑a0.length:Int))=
 true→
 (0:Int)≤
 IntKind.i64.wrap
 ((if(if(↑a0.length:Int)<a1 then(↑a0.length:Int)else a1)>(0:Int)then
 if(↑a0.length:Int)<a1 then(↑a0.length:Int)else a1
 else(0:Int))+
 rI r0)∧
 IntKind.i64.wrap
 ((if(if(↑a0.length:Int)<a1 then(↑a0.length:Int)else a1)>(0:Int)then
 if(↑a0.length:Int)<a1 then(↑a0.length:Int)else a1
 else(0:Int))+
 rI r0)<
 (↑a0.length:Int))
 (Let (bif
 decide
 (IntKind.i64.wrap
 ((if(if(↑a0.length:Int)<a1 then(↑a0.length:Int)else a1)>(0:Int)then
 if(↑a0.length:Int)<a1 then(↑a0.length:Int)else a1
 else(0:Int))+
 rI r0)<
 (↑a0.length:Int))then
 decide
 ((↑(a0.getD
 (IntKind.i64.wrap
 ((if(if(↑a0.length:Int)<a1 then(↑a0.length:Int)else a1)>(0:Int)then
 if(↑a0.length:Int)<a1 then(↑a0.length:Int)else a1
 else(0:Int))+
 rI r0)).toNat
 0).toNat:
 Int)=
 (37:Int))
 else false) fun x1=>
 Br (x1)
 (Px a0 (IntKind.i64.wrap
 ((if(if(↑a0.length:Int)<a1 then(↑a0.length:Int)else a1)>(0:Int)then
 if(↑a0.length:Int)<a1 then(↑a0.length:Int)else a1
 else(0:Int))+
 rI r0)) (Aiz Q))
 (Z4 (IntKind.i64.wrap
 ((if(if(↑a0.length:Int)<a1 then(↑a0.length:Int)else a1)>(0:Int)then
 if(↑a0.length:Int)<a1 then(↑a0.length:Int)else a1
 else(0:Int))+
 rI r0)) (Abn Q)))))):Call E0.P Adj [As a0,Ai a1] [] Q:=Be (Aw E0 Bn) (Bd Bn) 3 0 29 ac_token_Skip [.tmp 4] Axn _ _ Q rfl rfl (kr (by kernel_rfl) h)
noncomputable def ac_token_scanner_token:AC:=(Bf [(22,[0,2,60],[0,2]),(24,[0,2],[])] [2,3] (codeOf Tryz.f30) 0).1
abbrev Dc:Nat:=71
def G7(t60:Bool)(u0:LB)(u1 u2 u3:Int)(u4:LB)(u5 u6:Int)(u7:LL)(K:KK):Prop:=Av 22 E0.P Dc (Af 22 ac_token_scanner_token).code ⟨[(0, .ptr Ad 0),(2, .ptr nL2 0),(60,Ab t60)],[(Ad, .blk Aa [As u0,Ai u1, .own Ar]),(nL2, .blk Aq [Ai u2,Ai u3,As u4,Ai u5,Ai u6]),(Ar, .arr (Aj+2) true 1 u7)]⟩ K
def Ub(u0:LB)(u1 u2 u3:Int)(u4:LB)(u5 u6:Int)(u7:LL)(K:KK):Prop:=Av 24 E0.P Dc (Af 24 ac_token_scanner_token).code ⟨[(0, .ptr Ad 0),(2, .ptr nL2 0)],[(Ad, .blk Aa [As u0,Ai u1, .own Ar]),(nL2, .blk Aq [Ai u2,Ai u3,As u4,Ai u5,Ai u6]),(Ar, .arr (Aj+2) true 1 u7)]⟩ K
def Nu(s:LB)(at_:Int)(out:LL)(Q:QQ):KK:=kE fun st=>finish 0 E0.T [.cell 2 46, .tmp 3] [(Ad, .blk Aa [As s,Ai at_, .own Ar]),(Ar, .arr (Aj+2) true 1 out)] Q st
def F3(s:LB)(at_:Int)(out:LL)(Q:QQ):KK:=kF 0 (fun st=>Av 24 E0.P Dc (Af 24 ac_token_scanner_token).code (mask [0,2] st) (Nu s at_ out Q)) fun st=>finish 0 E0.T [.cell 2 46, .tmp 3] [(Ad, .blk Aa [As s,Ai at_, .own Ar]),(Ar, .arr (Aj+2) true 1 out)] Q st
theorem Ab8(t60:Bool)(u0:LB)(u1 u2 u3:Int)(u4:LB)(u5 u6:Int)(u7:LL)(K:KK)(h:
 (Br (t60)
 (K .ret ⟨[(2, .ptr nL2 0),(3,Ai 4)],[(nL2, .blk Aq [Ai 0,Ai 0, .imm (.str []),Ai 0,Ai 0]),(Ad, .blk Aa [As u0,Ai u1, .own Ar]),(Ar, .arr (Aj+2) true 1 u7)]⟩)
 (K .normal ⟨[(0, .ptr Ad 0),(2, .ptr nL2 0)],[(Ad, .blk Aa [As u0,Ai u1, .own Ar]),(nL2, .blk Aq [Ai u2,Ai u3,As u4,Ai u5,Ai u6]),(Ar, .arr (Aj+2) true 1 u7)]⟩))):G7 t60 u0 u1 u2 u3 u4 u5 u6 u7 K:=A9 (Aw E0 Dc) (Bd Dc) 3 22 (Af 22 ac_token_scanner_token) [0,2] _ K rfl (kr (by kernel_rfl) h)
theorem Acg(u0:LB)(u1 u2 u3:Int)(u4:LB)(u5 u6:Int)(u7:LL)(K:KK)(h:
 (Call E0.P Qf [.ptr Ad 0] [(Ad, .blk Aa [As u0,Ai u1, .own Ar]),(Ar, .arr (Aj+2) true 1 u7)] fun r0 g0=>
 Ak (qP8 g0 r0)
 (K .ret ⟨[(2, .ptr nL2 0),(3,Ai (rI (rT r0 1)))],[(nL2, .blk Aq [Ai (gI (Ae (rT r0 0)) 0),Ai (gI (Ae (rT r0 0)) 1),As (gS (Ae (rT r0 0)) 2),Ai (gI (Ae (rT r0 0)) 3),Ai (gI (Ae (rT r0 0)) 4)]),(Ad, .blk Aa [.imm (.str (rS ((Au g0 Ad).getD 0 AV.undef))), .imm (.int .i64 (rI ((Au g0 Ad).getD 1 AV.undef))), .own Ar]),(Ar, .arr (Aj+2) true 1 (Da g0 Ar))]⟩))):Ub u0 u1 u2 u3 u4 u5 u6 u7 K:=A9 (Aw E0 Dc) (Bd Dc) 3 24 (Af 24 ac_token_scanner_token) [] _ K rfl (kr (by kernel_rfl) h)
theorem Ac6(s:LB)(at_:Int)(out:LL)(Q:QQ)(t3 u0 u1:Int)(u2:LB)(u3 u4:Int)(u5:LB)(u6:Int)(u7:LL)(h:
 (Q (.tup [.imm (.agg [.int .i64 u0, .int .i64 u1, .str u2, .int .i64 u3, .int .i64 u4]),Ai t3]) [(Ad, .blk Aa [As u5,Ai u6, .own Ar]),(Ar, .arr (Aj+2) true 1 u7)])):Nu s at_ out Q .ret ⟨[(2, .ptr nL2 0),(3,Ai t3)],[(nL2, .blk Aq [Ai u0,Ai u1,As u2,Ai u3,Ai u4]),(Ad, .blk Aa [As u5,Ai u6, .own Ar]),(Ar, .arr (Aj+2) true 1 u7)]⟩:=kr (by kernel_rfl) h
theorem Adf(s:LB)(at_:Int)(out:LL)(Q:QQ)(t3 u0 u1:Int)(u2:LB)(u3 u4:Int)(u5:LB)(u6:Int)(u7:LL)(h:
 (Q (.tup [.imm (.agg [.int .i64 u0, .int .i64 u1, .str u2, .int .i64 u3, .int .i64 u4]),Ai t3]) [(Ad, .blk Aa [As u5,Ai u6, .own Ar]),(Ar, .arr (Aj+2) true 1 u7)])):F3 s at_ out Q .ret ⟨[(2, .ptr nL2 0),(3,Ai t3)],[(nL2, .blk Aq [Ai u0,Ai u1,As u2,Ai u3,Ai u4]),(Ad, .blk Aa [As u5,Ai u6, .own Ar]),(Ar, .arr (Aj+2) true 1 u7)]⟩:=kr (by kernel_rfl) h
theorem Ac0(s:LB)(at_:Int)(out:LL)(Q:QQ)(u0:LB)(u1 u2 u3:Int)(u4:LB)(u5 u6:Int)(u7:LL)(h:
 (Ub u0 u1 u2 u3 u4 u5 u6 u7 (Nu s at_ out Q))):F3 s at_ out Q .normal ⟨[(0, .ptr Ad 0),(2, .ptr nL2 0)],[(Ad, .blk Aa [As u0,Ai u1, .own Ar]),(nL2, .blk Aq [Ai u2,Ai u3,As u4,Ai u5,Ai u6]),(Ar, .arr (Aj+2) true 1 u7)]⟩:=kr (by kernel_rfl) h
theorem Aid:Ca E0.P 30 ac_token_scanner_token.code Dc [.cell 2 46, .tmp 3]:=Bl _ _ Tryz.f30 [(22,[0,2,60],[0,2]),(24,[0,2],[])] [2,3] _ 71 Tryz.func30 (by kernel_rfl) (by kernel_rfl) (by kernel_rfl) (by kernel_rfl)
theorem Afh(s:LB)(at_:Int)(out:LL)(Q:QQ)(h:
 (Ak ((0:Int)≤at_∧at_<(↑s.length:Int))
 (Br (decide ((↑(s.getD at_.toNat 0).toNat:Int)=(91:Int)))
 (Q (.tup [.imm (.agg [.int .i64 4, .int .i64 0, .str [], .int .i64 0, .int .i64 0]),Ai 0]) [(Ad, .blk Aa [As s,Ai (IntKind.i64.wrap (at_+(1:Int))), .own Ar]),(Ar, .arr (Aj+2) true 1 out)])
 (Br (decide ((↑(s.getD at_.toNat 0).toNat:Int)=(93:Int)))
 (Q (.tup [.imm (.agg [.int .i64 5, .int .i64 0, .str [], .int .i64 0, .int .i64 0]),Ai 0]) [(Ad, .blk Aa [As s,Ai (IntKind.i64.wrap (at_+(1:Int))), .own Ar]),(Ar, .arr (Aj+2) true 1 out)])
 (Br (decide ((↑(s.getD at_.toNat 0).toNat:Int)=(47:Int)))
 (Call E0.P P8 [.ptr Ad 0] [(Ad, .blk Aa [As s,Ai at_, .own Ar]),(Ar, .arr (Aj+2) true 1 out)] fun r0 g0=>
 Ak (qP8 g0 r0)
 (Q (.tup [.imm (.agg [.int .i64 (gI (Ae (rT r0 0)) 0), .int .i64 (gI (Ae (rT r0 0)) 1), .str (gS (Ae (rT r0 0)) 2), .int .i64 (gI (Ae (rT r0 0)) 3), .int .i64 (gI (Ae (rT r0 0)) 4)]),Ai (rI (rT r0 1))]) [(Ad, .blk Aa [.imm (.str (rS ((Au g0 Ad).getD 0 AV.undef))), .imm (.int .i64 (rI ((Au g0 Ad).getD 1 AV.undef))), .own Ar]),(Ar, .arr (Aj+2) true 1 (Da g0 Ar))]))
 (Br (decide ((↑(s.getD at_.toNat 0).toNat:Int)=(40:Int)))
 (Call E0.P P5 [.ptr Ad 0] [(Ad, .blk Aa [As s,Ai at_, .own Ar]),(Ar, .arr (Aj+2) true 1 out)] fun r1 g1=>
 Ak (qP8 g1 r1)
 (Q (.tup [.imm (.agg [.int .i64 (gI (Ae (rT r1 0)) 0), .int .i64 (gI (Ae (rT r1 0)) 1), .str (gS (Ae (rT r1 0)) 2), .int .i64 (gI (Ae (rT r1 0)) 3), .int .i64 (gI (Ae (rT r1 0)) 4)]),Ai (rI (rT r1 1))]) [(Ad, .blk Aa [.imm (.str (rS ((Au g1 Ad).getD 0 AV.undef))), .imm (.int .i64 (rI ((Au g1 Ad).getD 1 AV.undef))), .own Ar]),(Ar, .arr (Aj+2) true 1 (Da g1 Ar))]))
 (Br (decide ((↑(s.getD at_.toNat 0).toNat:Int)=(60:Int)))
 (Ak (decide (IntKind.i64.wrap (at_+(1:Int))<(↑s.length:Int))=true→
 (0:Int)≤IntKind.i64.wrap (at_+(1:Int))∧IntKind.i64.wrap (at_+(1:Int))<(↑s.length:Int))
 (Ak (decide (IntKind.i64.wrap (at_+(1:Int))<(↑s.length:Int))=true→(0:Int)≤at_∧at_<(↑s.length:Int))
 (Let (bif decide (IntKind.i64.wrap (at_+(1:Int))<(↑s.length:Int))then
 decide
 ((↑(s.getD (IntKind.i64.wrap (at_+(1:Int))).toNat 0).toNat:Int)=
 (↑(s.getD at_.toNat 0).toNat:Int))
 else false) fun x2=>
 Br (x2)
 (Q (.tup [.imm (.agg [.int .i64 6, .int .i64 0, .str [], .int .i64 0, .int .i64 0]),Ai 0]) [(Ad, .blk Aa [As s,Ai (IntKind.i64.wrap (at_+(2:Int))), .own Ar]),(Ar, .arr (Aj+2) true 1 out)])
 (Call E0.P Qw [.ptr Ad 0] [(Ad, .blk Aa [As s,Ai at_, .own Ar]),(Ar, .arr (Aj+2) true 1 out)] fun r3 g3=>
 Ak (qP8 g3 r3)
 (Q (.tup [.imm (.agg [.int .i64 (gI (Ae (rT r3 0)) 0), .int .i64 (gI (Ae (rT r3 0)) 1), .str (gS (Ae (rT r3 0)) 2), .int .i64 (gI (Ae (rT r3 0)) 3), .int .i64 (gI (Ae (rT r3 0)) 4)]),Ai (rI (rT r3 1))]) [(Ad, .blk Aa [.imm (.str (rS ((Au g3 Ad).getD 0 AV.undef))), .imm (.int .i64 (rI ((Au g3 Ad).getD 1 AV.undef))), .own Ar]),(Ar, .arr (Aj+2) true 1 (Da g3 Ar))])))))
 (Br (decide ((↑(s.getD at_.toNat 0).toNat:Int)=(62:Int)))
 (Ak (decide (IntKind.i64.wrap (at_+(1:Int))<(↑s.length:Int))=true→
 (0:Int)≤IntKind.i64.wrap (at_+(1:Int))∧IntKind.i64.wrap (at_+(1:Int))<(↑s.length:Int))
 (Ak (decide (IntKind.i64.wrap (at_+(1:Int))<(↑s.length:Int))=true→(0:Int)≤at_∧at_<(↑s.length:Int))
 (Let (bif decide (IntKind.i64.wrap (at_+(1:Int))<(↑s.length:Int))then
 decide
 ((↑(s.getD (IntKind.i64.wrap (at_+(1:Int))).toNat 0).toNat:Int)=
 (↑(s.getD at_.toNat 0).toNat:Int))
 else false) fun x4=>
 Br (x4)
 (Q (.tup [.imm (.agg [.int .i64 7, .int .i64 0, .str [], .int .i64 0, .int .i64 0]),Ai 0]) [(Ad, .blk Aa [As s,Ai (IntKind.i64.wrap (at_+(2:Int))), .own Ar]),(Ar, .arr (Aj+2) true 1 out)])
 (Q (.tup [.imm (.agg [.int .i64 0, .int .i64 0, .str [], .int .i64 0, .int .i64 0]),Ai 4]) [(Ad, .blk Aa [As s,Ai at_, .own Ar]),(Ar, .arr (Aj+2) true 1 out)]))))
 (Br (decide ((↑(s.getD at_.toNat 0).toNat:Int)=(41:Int)))
 (G7 (decide ((↑(s.getD at_.toNat 0).toNat:Int)=(41:Int))) s at_ ((0:Int)) ((0:Int)) [] ((0:Int)) ((0:Int)) out (F3 s at_ out Q))
 (Br (decide ((↑(s.getD at_.toNat 0).toNat:Int)=(123:Int)))
 (G7 (decide ((↑(s.getD at_.toNat 0).toNat:Int)=(123:Int))) s at_ ((0:Int)) ((0:Int)) [] ((0:Int)) ((0:Int)) out (F3 s at_ out Q))
 (G7 (decide ((↑(s.getD at_.toNat 0).toNat:Int)=(125:Int))) s at_ ((0:Int)) ((0:Int)) [] ((0:Int)) ((0:Int)) out (F3 s at_ out Q)))))))))))):Call E0.P O5 [.ptr (.arg 0) 0] [(.arg 0, .blk Aa [.imm (.str s), .imm (.int .i64 at_), .own (.arg 1)]),(.arg 1, .arr (Aj+2) true 1 out)] Q:=Be (Aw E0 Dc) (Bd Dc) 3 0 30 ac_token_scanner_token [.cell 2 46, .tmp 3] Aid _ _ Q rfl rfl (kr (by kernel_rfl) h)
noncomputable def ac_parse_reader_link:AC:=(Bf [(7,[0,4],[])] [2,3] (codeOf Tryz.f63) 0).1
abbrev Ho:Nat:=52
def Kw(u0:LB)(u1 u2:Int)(u3:LB)(u4:Int)(K:KK):Prop:=Av 7 E0.P Ho (Af 7 ac_parse_reader_link).code ⟨[(0, .ptr Ad 0),(4, .ptr nL4 0)],[(Ad, .blk Am [As u0,Ai u1,Ai u2]),(nL4, .blk Asy [As u3,Ai u4])]⟩ K
def K5(s:LB)(at_ win:Int)(Q:QQ):KK:=kE fun st=>finish 0 E0.T [.tmp 2, .tmp 3] [(Ad, .blk Am [As s,Ai at_,Ai win])] Q st
theorem Agp(u0:LB)(u1 u2:Int)(u3:LB)(u4:Int)(K:KK)(h:
 (K .ret ⟨[(2,Ai 0),(3,Ab false)],[(Ad, .blk Am [As u3,Ai u4,Ai u2])]⟩)):Kw u0 u1 u2 u3 u4 K:=A9 (Aw E0 Ho) (Bd Ho) 3 7 (Af 7 ac_parse_reader_link) [] _ K rfl (kr (by kernel_rfl) h)
theorem Agi(s:LB)(at_ win:Int)(Q:QQ)(t2:Int)(t3:Bool)(u0:LB)(u1 u2:Int)(h:
 (Q (.tup [Ai t2,Ab t3]) [(Ad, .blk Am [As u0,Ai u1,Ai u2])])):K5 s at_ win Q .ret ⟨[(2,Ai t2),(3,Ab t3)],[(Ad, .blk Am [As u0,Ai u1,Ai u2])]⟩:=kr (by kernel_rfl) h
theorem Akm:Ca E0.P 63 ac_parse_reader_link.code Ho [.tmp 2, .tmp 3]:=Bl _ _ Tryz.f63 [(7,[0,4],[])] [2,3] _ 52 Tryz.func63 (by kernel_rfl) (by kernel_rfl) (by kernel_rfl) (by kernel_rfl)
theorem Wm(s:LB)(at_ win:Int)(Q:QQ)(h:
 (Call E0.P F9 [.ptr Ad 0] [(Ad, .blk Am [As s,Ai at_,Ai win])] fun r0 g0=>
 Ak (qP7 g0 r0)
 (Let (bif decide (rI (rT r0 1)=(0:Int))then decide (gI (Ae (rT r0 0)) 0=(1:Int))
 else false) fun x1=>
 Br (x1)
 (Call E0.P F9 [.ptr Ad 0] [(Ad, .blk Am [.imm (.str (rS ((Au g0 Ad).getD 0 AV.undef))), .imm (.int .i64 (rI ((Au g0 Ad).getD 1 AV.undef))), .imm (.int .i64 (rI ((Au g0 Ad).getD 2 AV.undef)))])] fun r2 g2=>
 Ak (qP7 g2 r2)
 (Let (bif decide (rI (rT r2 1)=(0:Int))then decide (gI (Ae (rT r2 0)) 0=(8:Int))
 else false) fun x3=>
 Let (bif x3 then gS (Ae (rT r2 0)) 2 == [(82:UInt8)]else false) fun x4=>
 Br (x4)
 (Q (.tup [Ai (gI (Ae (rT r0 0)) 1),Ab true]) [(Ad, .blk Am [.imm (.str (rS ((Au g2 Ad).getD 0 AV.undef))), .imm (.int .i64 (rI ((Au g2 Ad).getD 1 AV.undef))), .imm (.int .i64 (rI ((Au g2 Ad).getD 2 AV.undef)))])])
 (Kw (rS ((Au g2 Ad).getD 0 AV.undef)) (rI ((Au g2 Ad).getD 1 AV.undef)) (rI ((Au g2 Ad).getD 2 AV.undef)) s at_ (K5 s at_ win Q))))
 (Kw (rS ((Au g0 Ad).getD 0 AV.undef)) (rI ((Au g0 Ad).getD 1 AV.undef)) (rI ((Au g0 Ad).getD 2 AV.undef)) s at_ (K5 s at_ win Q))))):Call E0.P Lv [.ptr (.arg 0) 0] [(.arg 0, .blk Am [.imm (.str s), .imm (.int .i64 at_), .imm (.int .i64 win)])] Q:=Be (Aw E0 Ho) (Bd Ho) 3 0 63 ac_parse_reader_link [.tmp 2, .tmp 3] Akm _ _ Q rfl rfl (kr (by kernel_rfl) h)
noncomputable def ac_parse_reader_key:AC:=(Bf [] [4,5,6] (codeOf Tryz.f64) 0).1
abbrev Sk:Nat:=45
theorem Alw:Ca E0.P 64 ac_parse_reader_key.code Sk [.tmp 4, .tmp 5, .tmp 6]:=Bl _ _ Tryz.f64 [] [4,5,6] _ 45 Tryz.func64 (by kernel_rfl) (by kernel_rfl) (by kernel_rfl) (by kernel_rfl)
theorem Ajb(s:LB)(at_ win:Int)(m:List (List UInt8 × Int))(Q:QQ)(h:
 (Call E0.P F9 [.ptr Ad 0] [(Ad, .blk Am [As s,Ai at_,Ai win])] fun r0 g0=>
 Ak (qP7 g0 r0)
 (Br (!decide (rI (rT r0 1)=(0:Int)))
 (Q (.tup [.imm (.str []),Ab false,Ai (rI (rT r0 1))]) [(Ad, .blk Am [.imm (.str (rS ((Au g0 Ad).getD 0 AV.undef))), .imm (.int .i64 (rI ((Au g0 Ad).getD 1 AV.undef))), .imm (.int .i64 (rI ((Au g0 Ad).getD 2 AV.undef)))]),(Ar, .map m)])
 (Br (decide (gI (Ae (rT r0 0)) 0=(0:Int)))
 (Q (.tup [.imm (.str []),Ab false,Ai 5]) [(Ad, .blk Am [.imm (.str (rS ((Au g0 Ad).getD 0 AV.undef))), .imm (.int .i64 (rI ((Au g0 Ad).getD 1 AV.undef))), .imm (.int .i64 (rI ((Au g0 Ad).getD 2 AV.undef)))]),(Ar, .map m)])
 (Br (decide (gI (Ae (rT r0 0)) 0=(7:Int)))
 (Q (.tup [.imm (.str []),Ab false,Ai 0]) [(Ad, .blk Am [.imm (.str (rS ((Au g0 Ad).getD 0 AV.undef))), .imm (.int .i64 (rI ((Au g0 Ad).getD 1 AV.undef))), .imm (.int .i64 (rI ((Au g0 Ad).getD 2 AV.undef)))]),(Ar, .map m)])
 (Br (!decide (gI (Ae (rT r0 0)) 0=(2:Int)))
 (Q (.tup [.imm (.str []),Ab false,Ai 4]) [(Ad, .blk Am [.imm (.str (rS ((Au g0 Ad).getD 0 AV.undef))), .imm (.int .i64 (rI ((Au g0 Ad).getD 1 AV.undef))), .imm (.int .i64 (rI ((Au g0 Ad).getD 2 AV.undef)))]),(Ar, .map m)])
 (Br (decide ((0:Int)<Dl m (gS (Ae (rT r0 0)) 2)))
 (Q (.tup [.imm (.str []),Ab false,Ai 11]) [(Ad, .blk Am [.imm (.str (rS ((Au g0 Ad).getD 0 AV.undef))), .imm (.int .i64 (rI ((Au g0 Ad).getD 1 AV.undef))), .imm (.int .i64 (rI ((Au g0 Ad).getD 2 AV.undef)))]),(Ar, .map m)])
 (Q (.tup [As (gS (Ae (rT r0 0)) 2),Ab true,Ai 0]) [(Ad, .blk Am [.imm (.str (rS ((Au g0 Ad).getD 0 AV.undef))), .imm (.int .i64 (rI ((Au g0 Ad).getD 1 AV.undef))), .imm (.int .i64 (rI ((Au g0 Ad).getD 2 AV.undef)))]),(Ar, .map (Vm m (gS (Ae (rT r0 0)) 2)
 (IntKind.i64.wrap (Dl m (gS (Ae (rT r0 0)) 2)+(1:Int)))))])))))))):Call E0.P Sl [.ptr (.arg 0) 0, .mp (.arg 1)] [(.arg 0, .blk Am [.imm (.str s), .imm (.int .i64 at_), .imm (.int .i64 win)]),(.arg 1, .map m)] Q:=Be (Aw E0 Sk) (Bd Sk) 3 0 64 ac_parse_reader_key [.tmp 4, .tmp 5, .tmp 6] Alw _ _ Q rfl rfl (kr (by kernel_rfl) h)
noncomputable def ac_octet_Span:AC:=(Bf [(1,[0,1,2,7],[]),(7,[0,1,2,7],[]),(9,[7],[]),(12,[0,1,2,7,22,23,24],[]),(14,[7],[]),(18,[0,1,2,7],[]),(20,[7],[0,1,2,7]),(21,[7],[]),(22,[0,1,2,7],[0,1,2,7]),(23,[7],[])] [6] (codeOf Tryz.f54) 0).1
abbrev Bz:Nat:=38
def U2(t0:LB)(t1:Int)(t2r:LL)(t7:Int)(K:KK):Prop:=Bu 7 E0.P Bz (A8 7 ac_octet_Span).code ⟨[(0,As t0),(1,Ai t1),(2,Al 1 t2r),(7,Ai t7)],[]⟩ K
def Zz(t0:LB)(t1:Int)(t2r:LL)(t7:Int)(t22r:LL)(t23 t24:Int)(K:KK):Prop:=Bu 12 E0.P Bz (A8 12 ac_octet_Span).code ⟨[(0,As t0),(1,Ai t1),(2,Al 1 t2r),(7,Ai t7),(22,Al 1 t22r),(23,Ai t23),(24,Ai t24)],[]⟩ K
def Ahm(t7:Int)(K:KK):Prop:=Av 23 E0.P Bz (Af 23 ac_octet_Span).code ⟨[(7,Ai t7)],[]⟩ K
def Ahu(t0:LB)(t1:Int)(t2r:LL)(t7:Int)(K:KK):Prop:=Av 22 E0.P Bz (Af 22 ac_octet_Span).code ⟨[(0,As t0),(1,Ai t1),(2,Al 1 t2r),(7,Ai t7)],[]⟩ K
def Ahp(t7:Int)(K:KK):Prop:=Av 20 E0.P Bz (Af 20 ac_octet_Span).code ⟨[(7,Ai t7)],[]⟩ K
def Ajc(Q:QQ):KK:=kE fun st=>finish 0 E0.T [.tmp 6] [] Q st
def Uz(Q:QQ):Ex→St→Prop
 | .normal,st=>finish 0 E0.T [.tmp 6] [] Q st
 | .exit _,_=>False
 | .goto i,st=>Jh 1 E0.P Bz i (Ka 1 ac_octet_Span).code (mask [0,1,2,7] st) (Ajc Q)
 | .ret,st=>finish 0 E0.T [.tmp 6] [] Q st
def Aa7(Q:QQ):Ex→St→Prop
 | .normal,st=>Av 23 E0.P Bz (Af 23 ac_octet_Span).code (mask [7] st) (Uz Q)
 | .exit i,st=>(match (i.beq 0:Bool)with
 |true=>Av 23 E0.P Bz (Af 23 ac_octet_Span).code (mask [7] st) (Uz Q)
 |false=>False)
 | .goto i,st=>Jh 1 E0.P Bz i (Ka 1 ac_octet_Span).code (mask [0,1,2,7] st) (Ajc Q)
 | .ret,st=>finish 0 E0.T [.tmp 6] [] Q st
def U1(K:KK):Ex→St→Prop
 | .normal,st=>Bu 7 E0.P Bz (A8 7 ac_octet_Span).code (mask [0,1,2,7] st) K
 | .exit i,st=>K (.exit i) st
 | .goto i,st=>K (.goto i) st
 | .ret,st=>K .ret st
def Uy(K:KK):KK:=kC 1 (fun st=>Av 22 E0.P Bz (Af 22 ac_octet_Span).code (mask [0,1,2,7] st) (U1 K)) K
def Aa6(K:KK):Ex→St→Prop
 | .normal,st=>Av 20 E0.P Bz (Af 20 ac_octet_Span).code (mask [7] st) (Uy K)
 | .exit i,st=>(match (i.beq 2:Bool)with
 |true=>Av 20 E0.P Bz (Af 20 ac_octet_Span).code (mask [7] st) (Uy K)
 |false=>(match (i.beq 1:Bool)with
 |true=>Av 22 E0.P Bz (Af 22 ac_octet_Span).code (mask [0,1,2,7] st) (U1 K)
 |false=>K (.exit i) st))
 | .goto i,st=>K (.goto i) st
 | .ret,st=>K .ret st
theorem Adv(t0:LB)(t1:Int)(t2r:LL)(t7:Int)(K:KK)(h:
 (Br (decide (t7<IntKind.i64.wrap ((↑t0.length:Int) - t1)))
 (Zz t0 t1 t2r t7 t2r ((↑t2r.length:Int)) ((0:Int)) (Aa6 K))
 (K (.exit 0) ⟨[(7,Ai t7)],[]⟩))):U2 t0 t1 t2r t7 K:=Bo (Aw E0 Bz) (Bd Bz) 3 7 (A8 7 ac_octet_Span) [0,1,2,7] _ K rfl (kr (by kernel_rfl) h)
theorem Acn(t0:LB)(t1:Int)(t2r:LL)(t7:Int)(t22r:LL)(t23 t24:Int)(K:KK)(h:
 (Br (decide (t24<t23))
 (Ak (((0:Int)≤t24∧t24<(↑t22r.length:Int))∧Ck [.int .i64] (t22r.getD t24.toNat [])=true)
 (Ak ((0:Int)≤IntKind.i64.wrap (t1+t7)∧IntKind.i64.wrap (t1+t7)<(↑t0.length:Int))
 (Call E0.P Lg [.imm (.int .u8 ((↑(t0.getD (IntKind.i64.wrap (t1+t7)).toNat 0).toNat:Int)))] [] fun r0 g0=>
 Ak (qP4 g0 r0)
 (Br (decide (rI r0=gI (t22r.getD t24.toNat []) 0))
 (K (.exit (1)) ⟨[(0,As t0),(1,Ai t1),(2,Al 1 t2r),(7,Ai t7)],[]⟩)
 (Zz t0 t1 t2r t7 t22r t23 (IntKind.i64.wrap (t24+(1:Int))) K)))))
 (K (.exit (2)) ⟨[(7,Ai t7)],[]⟩))):Zz t0 t1 t2r t7 t22r t23 t24 K:=Bo (Aw E0 Bz) (Bd Bz) 3 12 (A8 12 ac_octet_Span) [0,1,2,7,22,23,24] _ K rfl (kr (by kernel_rfl) h)
theorem Acr(t7:Int)(K:KK)(h:
 (K .ret ⟨[(6,Ai t7)],[]⟩)):Ahm t7 K:=A9 (Aw E0 Bz) (Bd Bz) 3 23 (Af 23 ac_octet_Span) [] _ K rfl (kr (by kernel_rfl) h)
theorem Aoh(t0:LB)(t1:Int)(t2r:LL)(t7:Int)(K:KK)(h:
 (K .normal ⟨[(0,As t0),(1,Ai t1),(2,Al 1 t2r),(7,Ai (IntKind.i64.wrap (t7+(1:Int))))],[]⟩)):Ahu t0 t1 t2r t7 K:=A9 (Aw E0 Bz) (Bd Bz) 3 22 (Af 22 ac_octet_Span) [0,1,2,7] _ K rfl (kr (by kernel_rfl) h)
theorem Amx(t7:Int)(K:KK)(h:
 (K (.exit 0) ⟨[(7,Ai t7)],[]⟩)):Ahp t7 K:=A9 (Aw E0 Bz) (Bd Bz) 3 20 (Af 20 ac_octet_Span) [0,1,2,7] _ K rfl (kr (by kernel_rfl) h)
theorem Adw(Q:QQ)(t6:Int)(h:
 (Q (Ai t6) [])):Uz Q .ret ⟨[(6,Ai t6)],[]⟩:=kr (by kernel_rfl) h
theorem Ad1(Q:QQ)(t7:Int)(h:
 (Ahm t7 (Uz Q))):Aa7 Q (.exit 0) ⟨[(7,Ai t7)],[]⟩:=kr (by kernel_rfl) h
theorem Ap9(K:KK)(t0:LB)(t1:Int)(t2r:LL)(t7:Int)(h:
 (U2 t0 t1 t2r t7 K)):U1 K .normal ⟨[(0,As t0),(1,Ai t1),(2,Al 1 t2r),(7,Ai t7)],[]⟩:=kr (by kernel_rfl) h
theorem Ape(K:KK)(t7:Int)(h:
 (K (.exit 0) ⟨[(7,Ai t7)],[]⟩)):Uy K (.exit 0) ⟨[(7,Ai t7)],[]⟩:=kr (by kernel_rfl) h
theorem Aqa(K:KK)(t0:LB)(t1:Int)(t2r:LL)(t7:Int)(h:
 (Ahu t0 t1 t2r t7 (U1 K))):Aa6 K (.exit (1)) ⟨[(0,As t0),(1,Ai t1),(2,Al 1 t2r),(7,Ai t7)],[]⟩:=kr (by kernel_rfl) h
theorem Apl(K:KK)(t7:Int)(h:
 (Ahp t7 (Uy K))):Aa6 K (.exit (2)) ⟨[(7,Ai t7)],[]⟩:=kr (by kernel_rfl) h
theorem Axe:Ca E0.P 54 ac_octet_Span.code Bz [.tmp 6]:=Bl _ _ Tryz.f54 [(1,[0,1,2,7],[]),(7,[0,1,2,7],[]),(9,[7],[]),(12,[0,1,2,7,22,23,24],[]),(14,[7],[]),(18,[0,1,2,7],[]),(20,[7],[0,1,2,7]),(21,[7],[]),(22,[0,1,2,7],[0,1,2,7]),(23,[7],[])] [6] _ 38 Tryz.func54 (by kernel_rfl) (by kernel_rfl) (by kernel_rfl) (by kernel_rfl)
theorem As1(a0:LB)(a1:Int)(a2:LL)(Q:QQ)(h:
 (Call E0.P Sy [As a0,Ai a1] [] fun r0 g0=>
 Ak (Ob g0 r0)
 (Br (!rB r0)
 (Q (Ai 0) [])
 (U2 a0 a1 a2 ((0:Int)) (Aa7 Q))))):Call E0.P Rw [As a0,Ai a1,Al 1 a2] [] Q:=Be (Aw E0 Bz) (Bd Bz) 3 0 54 ac_octet_Span [.tmp 6] Axe _ _ Q rfl rfl (kr (by kernel_rfl) h)
noncomputable def ac_octet_Ends:AC:=(Bf [] [4] (codeOf Tryz.f55) 0).1
abbrev Ac9:Nat:=33
theorem Axg:Ca E0.P 55 ac_octet_Ends.code Ac9 [.tmp 4]:=Bl _ _ Tryz.f55 [] [4] _ 33 Tryz.func55 (by kernel_rfl) (by kernel_rfl) (by kernel_rfl) (by kernel_rfl)
theorem Aui(a0:LB)(a1:Int)(Q:QQ)(h:
 (Call E0.P Sy [As a0,Ai a1] [] fun r0 g0=>
 Ak (Ob g0 r0)
 (Br (!rB r0)
 (Q (Ai 0) [])
 (Ak ((0:Int)≤a1∧a1<(↑a0.length:Int))
 (Br (decide ((↑(a0.getD a1.toNat 0).toNat:Int)=(10:Int)))
 (Q (Ai 1) [])
 (Ak ((0:Int)≤a1∧a1<(↑a0.length:Int))
 (Br (!decide ((↑(a0.getD a1.toNat 0).toNat:Int)=(13:Int)))
 (Q (Ai 0) [])
 (Ak (decide (IntKind.i64.wrap (a1+(1:Int))<(↑a0.length:Int))=true→
 (0:Int)≤IntKind.i64.wrap (a1+(1:Int))∧IntKind.i64.wrap (a1+(1:Int))<(↑a0.length:Int))
 (Let (bif decide (IntKind.i64.wrap (a1+(1:Int))<(↑a0.length:Int))then
 decide ((↑(a0.getD (IntKind.i64.wrap (a1+(1:Int))).toNat 0).toNat:Int)=(10:Int))
 else false) fun x1=>
 Br (x1)
 (Q (Ai 2) [])
 (Q (Ai 1) [])))))))))):Call E0.P Nz [As a0,Ai a1] [] Q:=Be (Aw E0 Ac9) (Bd Ac9) 3 0 55 ac_octet_Ends [.tmp 4] Axg _ _ Q rfl rfl (kr (by kernel_rfl) h)
noncomputable def ac_token_scanner_name:AC:=(Bf [(3,[0,2,4,5],[]),(5,[0,2],[]),(6,[0,2,4],[0,2,4,5]),(12,[0,2,4],[0,2]),(16,[0,2],[0,2,4,5]),(17,[0,2],[])] [2,3] (codeOf Tryz.f57) 0).1
abbrev Bh:Nat:=71
def Ev(t4:Int)(t5:Bool)(u0:LB)(u1 u2 u3:Int)(u4:LB)(u5 u6:Int)(u7:LL)(K:KK):Prop:=Bu 3 E0.P Bh (A8 3 ac_token_scanner_name).code ⟨[(0, .ptr Ad 0),(2, .ptr nL2 0),(4, .imm (.int .u8 t4)),(5,Ab t5)],[(Ad, .blk Aa [As u0,Ai u1, .own Ar]),(nL2, .blk Aq [Ai u2,Ai u3,As u4,Ai u5,Ai u6]),(Ar, .arr (Aj+2) true 1 u7)]⟩ K
def O6(t4:Int)(u0:LB)(u1 u2 u3:Int)(u4:LB)(u5 u6:Int)(u7:LL)(K:KK):Prop:=Av 6 E0.P Bh (Af 6 ac_token_scanner_name).code ⟨[(0, .ptr Ad 0),(2, .ptr nL2 0),(4, .imm (.int .u8 t4))],[(Ad, .blk Aa [As u0,Ai u1, .own Ar]),(nL2, .blk Aq [Ai u2,Ai u3,As u4,Ai u5,Ai u6]),(Ar, .arr (Aj+2) true 1 u7)]⟩ K
def Jy(t4:Int)(u0:LB)(u1 u2 u3:Int)(u4:LB)(u5 u6:Int)(u7:LL)(K:KK):Prop:=Av 12 E0.P Bh (Af 12 ac_token_scanner_name).code ⟨[(0, .ptr Ad 0),(2, .ptr nL2 0),(4, .imm (.int .u8 t4))],[(Ad, .blk Aa [As u0,Ai u1, .own Ar]),(nL2, .blk Aq [Ai u2,Ai u3,As u4,Ai u5,Ai u6]),(Ar, .arr (Aj+2) true 1 u7)]⟩ K
def Vl(u0:LB)(u1 u2 u3:Int)(u4:LB)(u5 u6:Int)(u7:LL)(K:KK):Prop:=Av 17 E0.P Bh (Af 17 ac_token_scanner_name).code ⟨[(0, .ptr Ad 0),(2, .ptr nL2 0)],[(Ad, .blk Aa [As u0,Ai u1, .own Ar]),(nL2, .blk Aq [Ai u2,Ai u3,As u4,Ai u5,Ai u6]),(Ar, .arr (Aj+2) true 1 u7)]⟩ K
def Nt(u0:LB)(u1 u2 u3:Int)(u4:LB)(u5 u6:Int)(u7:LL)(K:KK):Prop:=Av 16 E0.P Bh (Af 16 ac_token_scanner_name).code ⟨[(0, .ptr Ad 0),(2, .ptr nL2 0)],[(Ad, .blk Aa [As u0,Ai u1, .own Ar]),(nL2, .blk Aq [Ai u2,Ai u3,As u4,Ai u5,Ai u6]),(Ar, .arr (Aj+2) true 1 u7)]⟩ K
def O7(s:LB)(at_:Int)(out:LL)(Q:QQ):KK:=kE fun st=>finish 0 E0.T [.cell 2 46, .tmp 3] [(Ad, .blk Aa [As s,Ai at_, .own Ar]),(Ar, .arr (Aj+2) true 1 out)] Q st
def Dn(s:LB)(at_:Int)(out:LL)(Q:QQ):KK:=kF 0 (fun st=>Av 17 E0.P Bh (Af 17 ac_token_scanner_name).code (mask [0,2] st) (O7 s at_ out Q)) fun st=>finish 0 E0.T [.cell 2 46, .tmp 3] [(Ad, .blk Aa [As s,Ai at_, .own Ar]),(Ar, .arr (Aj+2) true 1 out)] Q st
def Gl(K:KK):Ex→St→Prop
 | .normal,st=>Bu 3 E0.P Bh (A8 3 ac_token_scanner_name).code (mask [0,2,4,5] st) K
 | .exit i,st=>K (.exit i) st
 | .goto i,st=>K (.goto i) st
 | .ret,st=>K .ret st
def Kk(K:KK):KK:=kP [0,2,4,5] K
def Ib(K:KK):KK:=kC 1 (fun st=>Av 16 E0.P Bh (Af 16 ac_token_scanner_name).code (mask [0,2] st) (Kk K)) K
theorem Su(t4:Int)(t5:Bool)(u0:LB)(u1 u2 u3:Int)(u4:LB)(u5 u6:Int)(u7:LL)(K:KK)(h:
 (Br (t5 == true)
 (Call E0.P Lg [.imm (.int .u8 t4)] [] fun r0 g0=>
 Ak (qP4 g0 r0)
 (Let (decide (rI r0=(2:Int))) fun x1=>
 Br (x1)
 (O6 t4 u0 u1 u2 u3 u4 u5 u6 u7 (Gl K))
 (K (.exit 0) ⟨[(0, .ptr Ad 0),(2, .ptr nL2 0)],[(Ad, .blk Aa [As u0,Ai u1, .own Ar]),(nL2, .blk Aq [Ai u2,Ai u3,As u4,Ai u5,Ai u6]),(Ar, .arr (Aj+2) true 1 u7)]⟩)))
 (Ak ((!true)=false)
 (Let (false) fun x2=>
 Br (x2)
 (O6 t4 u0 u1 u2 u3 u4 u5 u6 u7 (Gl K))
 (K (.exit 0) ⟨[(0, .ptr Ad 0),(2, .ptr nL2 0)],[(Ad, .blk Aa [As u0,Ai u1, .own Ar]),(nL2, .blk Aq [Ai u2,Ai u3,As u4,Ai u5,Ai u6]),(Ar, .arr (Aj+2) true 1 u7)]⟩))))):Ev t4 t5 u0 u1 u2 u3 u4 u5 u6 u7 K:=Bo (Aw E0 Bh) (Bd Bh) 3 3 (A8 3 ac_token_scanner_name) [0,2,4,5] _ K rfl (kr (by kernel_rfl) h)
theorem Ael(t4:Int)(u0:LB)(u1 u2 u3:Int)(u4:LB)(u5 u6:Int)(u7:LL)(K:KK)(h:
 (Br (decide (t4=(35:Int)))
 (Call E0.P G8 [.ptr Ad 0] [(Ad, .blk Aa [As u0,Ai (IntKind.i64.wrap (u1+(1:Int))), .own Ar]),(Ar, .arr (Aj+2) true 1 u7)] fun r0 g0=>
 Ak (g0=
 [(Nm.arg 0,
 Entry.blk 70
 [.imm (.str (rS ((Au g0 Ad).getD 0 AV.undef))),
 .imm (.int .i64 (rI ((Au g0 Ad).getD 1 AV.undef))),
 AV.own Ar]),
 (Nm.arg 1,Entry.arr 7 true 1 (Da g0 Ar))]∧
 r0= .tup [.imm (.int .u8 (rI (rT r0 0))), .imm (.bool (rB (rT r0 1)))])
 (Br (!rB (rT r0 1))
 (K .ret ⟨[(2, .ptr nL2 0),(3,Ai 4)],[(nL2, .blk Aq [Ai 0,Ai 0, .imm (.str []),Ai 0,Ai 0]),(Ad, .blk Aa [.imm (.str (rS ((Au g0 Ad).getD 0 AV.undef))), .imm (.int .i64 (rI ((Au g0 Ad).getD 1 AV.undef))), .own Ar]),(Ar, .arr (Aj+2) true 1 (Da g0 Ar))]⟩)
 (Jy (rI (rT r0 0)) (rS ((Au g0 Ad).getD 0 AV.undef)) (rI ((Au g0 Ad).getD 1 AV.undef)) u2 u3 u4 u5 u6 (Da g0 Ar) (Ib K))))
 (Jy t4 u0 (IntKind.i64.wrap (u1+(1:Int))) u2 u3 u4 u5 u6 u7 (Ib K)))):O6 t4 u0 u1 u2 u3 u4 u5 u6 u7 K:=A9 (Aw E0 Bh) (Bd Bh) 3 6 (Af 6 ac_token_scanner_name) [0,2,4,5] _ K rfl (kr (by kernel_rfl) h)
theorem Adn(t4:Int)(u0:LB)(u1 u2 u3:Int)(u4:LB)(u5 u6:Int)(u7:LL)(K:KK)(h:
 (Ak ((u7.length+1)*1≤140737488355328∧u7.length+1≤140737488355328)
 (Br (decide ((127:Int)<(↑(u7++[[IV.int .u8 t4]]).length:Int)))
 (K .ret ⟨[(2, .ptr nL2 0),(3,Ai 8)],[(nL2, .blk Aq [Ai 0,Ai 0, .imm (.str []),Ai 0,Ai 0]),(Ad, .blk Aa [As u0,Ai u1, .own Ar]),(Ar, .arr (Aj+2) true 1 (u7++[[IV.int .u8 t4]]))]⟩)
 (K .normal ⟨[(0, .ptr Ad 0),(2, .ptr nL2 0)],[(Ad, .blk Aa [As u0,Ai u1, .own Ar]),(nL2, .blk Aq [Ai u2,Ai u3,As u4,Ai u5,Ai u6]),(Ar, .arr (Aj+2) true 1 (u7++[[IV.int .u8 t4]]))]⟩)))):Jy t4 u0 u1 u2 u3 u4 u5 u6 u7 K:=A9 (Aw E0 Bh) (Bd Bh) 3 12 (Af 12 ac_token_scanner_name) [0,2] _ K rfl (kr (by kernel_rfl) h)
theorem Acy(u0:LB)(u1 u2 u3:Int)(u4:LB)(u5 u6:Int)(u7:LL)(K:KK)(h:
 (Ak (∀(r:List IV),r∈u7→Ck [.int .u8] r=true)
 (K .ret ⟨[(2, .ptr nL2 0),(3,Ai 0)],[(nL2, .blk Aq [Ai 2,Ai 0,As (List.map (fun r=>UInt8.ofNat (gI r 0).toNat) u7),Ai 0,Ai 0]),(Ad, .blk Aa [As u0,Ai u1, .own Ar]),(Ar, .arr (Aj+2) true 1 u7)]⟩))):Vl u0 u1 u2 u3 u4 u5 u6 u7 K:=A9 (Aw E0 Bh) (Bd Bh) 3 17 (Af 17 ac_token_scanner_name) [] _ K rfl (kr (by kernel_rfl) h)
theorem Adh(u0:LB)(u1 u2 u3:Int)(u4:LB)(u5 u6:Int)(u7:LL)(K:KK)(h:
 (Br (decide ((↑u0.length:Int)≤u1))
 (K .normal ⟨[(0, .ptr Ad 0),(2, .ptr nL2 0),(4, .imm (.int .u8 ((0:Int)))),(5,Ab false)],[(Ad, .blk Aa [As u0,Ai u1, .own Ar]),(nL2, .blk Aq [Ai u2,Ai u3,As u4,Ai u5,Ai u6]),(Ar, .arr (Aj+2) true 1 u7)]⟩)
 (Ak ((0:Int)≤u1∧u1<(↑u0.length:Int))
 (K .normal ⟨[(0, .ptr Ad 0),(2, .ptr nL2 0),(4, .imm (.int .u8 ((↑(u0.getD u1.toNat 0).toNat:Int)))),(5,Ab true)],[(Ad, .blk Aa [As u0,Ai u1, .own Ar]),(nL2, .blk Aq [Ai u2,Ai u3,As u4,Ai u5,Ai u6]),(Ar, .arr (Aj+2) true 1 u7)]⟩)))):Nt u0 u1 u2 u3 u4 u5 u6 u7 K:=A9 (Aw E0 Bh) (Bd Bh) 3 16 (Af 16 ac_token_scanner_name) [0,2,4,5] _ K rfl (kr (by kernel_rfl) h)
theorem Aeh(s:LB)(at_:Int)(out:LL)(Q:QQ)(t3 u0 u1:Int)(u2:LB)(u3 u4:Int)(u5:LB)(u6:Int)(u7:LL)(h:
 (Q (.tup [.imm (.agg [.int .i64 u0, .int .i64 u1, .str u2, .int .i64 u3, .int .i64 u4]),Ai t3]) [(Ad, .blk Aa [As u5,Ai u6, .own Ar]),(Ar, .arr (Aj+2) true 1 u7)])):O7 s at_ out Q .ret ⟨[(2, .ptr nL2 0),(3,Ai t3)],[(nL2, .blk Aq [Ai u0,Ai u1,As u2,Ai u3,Ai u4]),(Ad, .blk Aa [As u5,Ai u6, .own Ar]),(Ar, .arr (Aj+2) true 1 u7)]⟩:=kr (by kernel_rfl) h
theorem Aec(s:LB)(at_:Int)(out:LL)(Q:QQ)(u0:LB)(u1 u2 u3:Int)(u4:LB)(u5 u6:Int)(u7:LL)(h:
 (Vl u0 u1 u2 u3 u4 u5 u6 u7 (O7 s at_ out Q))):Dn s at_ out Q (.exit 0) ⟨[(0, .ptr Ad 0),(2, .ptr nL2 0)],[(Ad, .blk Aa [As u0,Ai u1, .own Ar]),(nL2, .blk Aq [Ai u2,Ai u3,As u4,Ai u5,Ai u6]),(Ar, .arr (Aj+2) true 1 u7)]⟩:=kr (by kernel_rfl) h
theorem Aen(s:LB)(at_:Int)(out:LL)(Q:QQ)(t3 u0 u1:Int)(u2:LB)(u3 u4:Int)(u5:LB)(u6:Int)(u7:LL)(h:
 (Q (.tup [.imm (.agg [.int .i64 u0, .int .i64 u1, .str u2, .int .i64 u3, .int .i64 u4]),Ai t3]) [(Ad, .blk Aa [As u5,Ai u6, .own Ar]),(Ar, .arr (Aj+2) true 1 u7)])):Dn s at_ out Q .ret ⟨[(2, .ptr nL2 0),(3,Ai t3)],[(nL2, .blk Aq [Ai u0,Ai u1,As u2,Ai u3,Ai u4]),(Ad, .blk Aa [As u5,Ai u6, .own Ar]),(Ar, .arr (Aj+2) true 1 u7)]⟩:=kr (by kernel_rfl) h
theorem L6(K:KK)(t3 u0 u1:Int)(u2:LB)(u3 u4:Int)(u5:LB)(u6:Int)(u7:LL)(h:
 (K .ret ⟨[(2, .ptr nL2 0),(3,Ai t3)],[(nL2, .blk Aq [Ai u0,Ai u1,As u2,Ai u3,Ai u4]),(Ad, .blk Aa [As u5,Ai u6, .own Ar]),(Ar, .arr (Aj+2) true 1 u7)]⟩)):Gl K .ret ⟨[(2, .ptr nL2 0),(3,Ai t3)],[(nL2, .blk Aq [Ai u0,Ai u1,As u2,Ai u3,Ai u4]),(Ad, .blk Aa [As u5,Ai u6, .own Ar]),(Ar, .arr (Aj+2) true 1 u7)]⟩:=kr (by kernel_rfl) h
theorem Tq(K:KK)(t4:Int)(t5:Bool)(u0:LB)(u1 u2 u3:Int)(u4:LB)(u5 u6:Int)(u7:LL)(h:
 (Ev t4 t5 u0 u1 u2 u3 u4 u5 u6 u7 K)):Gl K .normal ⟨[(0, .ptr Ad 0),(2, .ptr nL2 0),(4, .imm (.int .u8 t4)),(5,Ab t5)],[(Ad, .blk Aa [As u0,Ai u1, .own Ar]),(nL2, .blk Aq [Ai u2,Ai u3,As u4,Ai u5,Ai u6]),(Ar, .arr (Aj+2) true 1 u7)]⟩:=kr (by kernel_rfl) h
theorem Tm(K:KK)(t4:Int)(t5:Bool)(u0:LB)(u1 u2 u3:Int)(u4:LB)(u5 u6:Int)(u7:LL)(h:
 (K .normal ⟨[(0, .ptr Ad 0),(2, .ptr nL2 0),(4, .imm (.int .u8 t4)),(5,Ab t5)],[(Ad, .blk Aa [As u0,Ai u1, .own Ar]),(nL2, .blk Aq [Ai u2,Ai u3,As u4,Ai u5,Ai u6]),(Ar, .arr (Aj+2) true 1 u7)]⟩)):Kk K .normal ⟨[(0, .ptr Ad 0),(2, .ptr nL2 0),(4, .imm (.int .u8 t4)),(5,Ab t5)],[(Ad, .blk Aa [As u0,Ai u1, .own Ar]),(nL2, .blk Aq [Ai u2,Ai u3,As u4,Ai u5,Ai u6]),(Ar, .arr (Aj+2) true 1 u7)]⟩:=kr (by kernel_rfl) h
theorem Aes(K:KK)(t3 u0 u1:Int)(u2:LB)(u3 u4:Int)(u5:LB)(u6:Int)(u7:LL)(h:
 (K .ret ⟨[(2, .ptr nL2 0),(3,Ai t3)],[(nL2, .blk Aq [Ai u0,Ai u1,As u2,Ai u3,Ai u4]),(Ad, .blk Aa [As u5,Ai u6, .own Ar]),(Ar, .arr (Aj+2) true 1 u7)]⟩)):Ib K .ret ⟨[(2, .ptr nL2 0),(3,Ai t3)],[(nL2, .blk Aq [Ai u0,Ai u1,As u2,Ai u3,Ai u4]),(Ad, .blk Aa [As u5,Ai u6, .own Ar]),(Ar, .arr (Aj+2) true 1 u7)]⟩:=kr (by kernel_rfl) h
theorem Aej(K:KK)(u0:LB)(u1 u2 u3:Int)(u4:LB)(u5 u6:Int)(u7:LL)(h:
 (Nt u0 u1 u2 u3 u4 u5 u6 u7 (Kk K))):Ib K .normal ⟨[(0, .ptr Ad 0),(2, .ptr nL2 0)],[(Ad, .blk Aa [As u0,Ai u1, .own Ar]),(nL2, .blk Aq [Ai u2,Ai u3,As u4,Ai u5,Ai u6]),(Ar, .arr (Aj+2) true 1 u7)]⟩:=kr (by kernel_rfl) h
theorem Ain:Ca E0.P 57 ac_token_scanner_name.code Bh [.cell 2 46, .tmp 3]:=Bl _ _ Tryz.f57 [(3,[0,2,4,5],[]),(5,[0,2],[]),(6,[0,2,4],[0,2,4,5]),(12,[0,2,4],[0,2]),(16,[0,2],[0,2,4,5]),(17,[0,2],[])] [2,3] _ 71 Tryz.func57 (by kernel_rfl) (by kernel_rfl) (by kernel_rfl) (by kernel_rfl)
theorem Ag8(s:LB)(at_:Int)(out:LL)(Q:QQ)(h:
 (Br (decide ((↑s.length:Int)≤IntKind.i64.wrap (at_+(1:Int))))
 (Ev ((0:Int)) false s (IntKind.i64.wrap (at_+(1:Int))) ((0:Int)) ((0:Int)) [] ((0:Int)) ((0:Int)) out (Dn s at_ out Q))
 (Ak ((0:Int)≤IntKind.i64.wrap (at_+(1:Int))∧IntKind.i64.wrap (at_+(1:Int))<(↑s.length:Int))
 (Ev ((↑(s.getD (IntKind.i64.wrap (at_+(1:Int))).toNat 0).toNat:Int)) true s (IntKind.i64.wrap (at_+(1:Int))) ((0:Int)) ((0:Int)) [] ((0:Int)) ((0:Int)) out (Dn s at_ out Q))))):Call E0.P P8 [.ptr (.arg 0) 0] [(.arg 0, .blk Aa [.imm (.str s), .imm (.int .i64 at_), .own (.arg 1)]),(.arg 1, .arr (Aj+2) true 1 out)] Q:=Be (Aw E0 Bh) (Bd Bh) 3 0 57 ac_token_scanner_name [.cell 2 46, .tmp 3] Ain _ _ Q rfl rfl (kr (by kernel_rfl) h)
noncomputable def ac_token_scanner_text:AC:=(Bf [(1,[0,2,4],[]),(5,[0,2,4],[]),(7,[2],[]),(15,[2],[]),(20,[0,2,4],[]),(23,[0,2,4,5],[0,2,4]),(30,[2],[])] [2,3] (codeOf Tryz.f58) 0).1
abbrev Bq:Nat:=107
def Ia(t4:Int)(u0:LB)(u1 u2 u3:Int)(u4:LB)(u5 u6:Int)(u7:LL)(K:KK):Prop:=Bu 5 E0.P Bq (A8 5 ac_token_scanner_text).code ⟨[(0, .ptr Ad 0),(2, .ptr nL2 0),(4,Ai t4)],[(Ad, .blk Aa [As u0,Ai u1, .own Ar]),(nL2, .blk Aq [Ai u2,Ai u3,As u4,Ai u5,Ai u6]),(Ar, .arr (Aj+2) true 1 u7)]⟩ K
def F5(t4 t5:Int)(u0:LB)(u1 u2 u3:Int)(u4:LB)(u5 u6:Int)(u7:LL)(K:KK):Prop:=Av 23 E0.P Bq (Af 23 ac_token_scanner_text).code ⟨[(0, .ptr Ad 0),(2, .ptr nL2 0),(4,Ai t4),(5, .imm (.int .u8 t5))],[(Ad, .blk Aa [As u0,Ai u1, .own Ar]),(nL2, .blk Aq [Ai u2,Ai u3,As u4,Ai u5,Ai u6]),(Ar, .arr (Aj+2) true 1 u7)]⟩ K
def Vi(u0 u1:Int)(u2:LB)(u3 u4:Int)(u5:LB)(u6:Int)(u7:LL)(K:KK):Prop:=Av 30 E0.P Bq (Af 30 ac_token_scanner_text).code ⟨[(2, .ptr nL2 0)],[(nL2, .blk Aq [Ai u0,Ai u1,As u2,Ai u3,Ai u4]),(Ad, .blk Aa [As u5,Ai u6, .own Ar]),(Ar, .arr (Aj+2) true 1 u7)]⟩ K
def V8(s:LB)(at_:Int)(out:LL)(Q:QQ):KK:=kE fun st=>finish 0 E0.T [.cell 2 46, .tmp 3] [(Ad, .blk Aa [As s,Ai at_, .own Ar]),(Ar, .arr (Aj+2) true 1 out)] Q st
def Kj(s:LB)(at_:Int)(out:LL)(Q:QQ):Ex→St→Prop
 | .normal,st=>finish 0 E0.T [.cell 2 46, .tmp 3] [(Ad, .blk Aa [As s,Ai at_, .own Ar]),(Ar, .arr (Aj+2) true 1 out)] Q st
 | .exit _,_=>False
 | .goto i,st=>Jh 1 E0.P Bq i (Ka 1 ac_token_scanner_text).code (mask [0,2,4] st) (V8 s at_ out Q)
 | .ret,st=>finish 0 E0.T [.cell 2 46, .tmp 3] [(Ad, .blk Aa [As s,Ai at_, .own Ar]),(Ar, .arr (Aj+2) true 1 out)] Q st
def Gm(s:LB)(at_:Int)(out:LL)(Q:QQ):Ex→St→Prop
 | .normal,st=>Av 30 E0.P Bq (Af 30 ac_token_scanner_text).code (mask [2] st) (Kj s at_ out Q)
 | .exit i,st=>(match (i.beq 0:Bool)with
 |true=>Av 30 E0.P Bq (Af 30 ac_token_scanner_text).code (mask [2] st) (Kj s at_ out Q)
 |false=>False)
 | .goto i,st=>Jh 1 E0.P Bq i (Ka 1 ac_token_scanner_text).code (mask [0,2,4] st) (V8 s at_ out Q)
 | .ret,st=>finish 0 E0.T [.cell 2 46, .tmp 3] [(Ad, .blk Aa [As s,Ai at_, .own Ar]),(Ar, .arr (Aj+2) true 1 out)] Q st
def Eu(K:KK):KK:=kC 1 (fun st=>Bu 5 E0.P Bq (A8 5 ac_token_scanner_text).code (mask [0,2,4] st) K) K
theorem Sz(t4:Int)(u0:LB)(u1 u2 u3:Int)(u4:LB)(u5 u6:Int)(u7:LL)(K:KK)(h:
 (Br (decide (u1<(↑u0.length:Int)))
 (Ak ((0:Int)≤u1∧u1<(↑u0.length:Int))
 (Call E0.P Nz [As u0,Ai u1] [] fun r0 g0=>
 Ak (qP4 g0 r0)
 (Br (decide ((0:Int)<rI r0))
 (F5 t4 ((10:Int)) u0 (IntKind.i64.wrap (u1+if rI r0>(1:Int)then rI r0 else(1:Int))) u2 u3 u4 u5 u6 u7 (Eu K))
 (Br (decide ((↑(u0.getD u1.toNat 0).toNat:Int)=(92:Int)))
 (Call E0.P Jw [.ptr Ad 0] [(Ad, .blk Aa [As u0,Ai (IntKind.i64.wrap (u1+if rI r0>(1:Int)then rI r0 else(1:Int))), .own Ar]),(Ar, .arr (Aj+2) true 1 u7)] fun r1 g1=>
 Ak (g1=
 [(Nm.arg 0,
 Entry.blk 70
 [.imm (.str (rS ((Au g1 Ad).getD 0 AV.undef))),
 .imm (.int .i64 (rI ((Au g1 Ad).getD 1 AV.undef))),
 AV.own Ar]),
 (Nm.arg 1,Entry.arr 7 true 1 (Da g1 Ar))]∧
 r1= .imm (.bool (rB r1)))
 (Br (!rB r1)
 (K (.exit 0) ⟨[(2, .ptr nL2 0)],[(nL2, .blk Aq [Ai u2,Ai u3,As u4,Ai u5,Ai u6]),(Ad, .blk Aa [.imm (.str (rS ((Au g1 Ad).getD 0 AV.undef))), .imm (.int .i64 (rI ((Au g1 Ad).getD 1 AV.undef))), .own Ar]),(Ar, .arr (Aj+2) true 1 (Da g1 Ar))]⟩)
 (Br (decide ((65535:Int)<(↑(Da g1 Ar).length:Int)))
 (K .ret ⟨[(2, .ptr nL2 0),(3,Ai 8)],[(nL2, .blk Aq [Ai 0,Ai 0, .imm (.str []),Ai 0,Ai 0]),(Ad, .blk Aa [.imm (.str (rS ((Au g1 Ad).getD 0 AV.undef))), .imm (.int .i64 (rI ((Au g1 Ad).getD 1 AV.undef))), .own Ar]),(Ar, .arr (Aj+2) true 1 (Da g1 Ar))]⟩)
 (Ia t4 (rS ((Au g1 Ad).getD 0 AV.undef)) (rI ((Au g1 Ad).getD 1 AV.undef)) u2 u3 u4 u5 u6 (Da g1 Ar) K))))
 (Br (decide ((↑(u0.getD u1.toNat 0).toNat:Int)=(40:Int)))
 (F5 (IntKind.i64.wrap (t4+(1:Int))) ((↑(u0.getD u1.toNat 0).toNat:Int)) u0 (IntKind.i64.wrap (u1+if rI r0>(1:Int)then rI r0 else(1:Int))) u2 u3 u4 u5 u6 u7 (Eu K))
 (Br (decide ((↑(u0.getD u1.toNat 0).toNat:Int)=(41:Int)))
 (F5 (IntKind.i64.wrap (t4 - (1:Int))) ((↑(u0.getD u1.toNat 0).toNat:Int)) u0 (IntKind.i64.wrap (u1+if rI r0>(1:Int)then rI r0 else(1:Int))) u2 u3 u4 u5 u6 u7 (Eu K))
 (F5 t4 ((↑(u0.getD u1.toNat 0).toNat:Int)) u0 (IntKind.i64.wrap (u1+if rI r0>(1:Int)then rI r0 else(1:Int))) u2 u3 u4 u5 u6 u7 (Eu K))))))))
 (K (.exit 0) ⟨[(2, .ptr nL2 0)],[(nL2, .blk Aq [Ai u2,Ai u3,As u4,Ai u5,Ai u6]),(Ad, .blk Aa [As u0,Ai u1, .own Ar]),(Ar, .arr (Aj+2) true 1 u7)]⟩))):Ia t4 u0 u1 u2 u3 u4 u5 u6 u7 K:=Bo (Aw E0 Bq) (Bd Bq) 3 5 (A8 5 ac_token_scanner_text) [0,2,4] _ K rfl (kr (by kernel_rfl) h)
theorem R7(t4 t5:Int)(u0:LB)(u1 u2 u3:Int)(u4:LB)(u5 u6:Int)(u7:LL)(K:KK)(h:
 (Br (decide (t4=(0:Int)))
 (Ak (∀(r:List IV),r∈u7→Ck [.int .u8] r=true)
 (K .ret ⟨[(2, .ptr nL2 0),(3,Ai 0)],[(nL2, .blk Aq [Ai 3,Ai 0,As (List.map (fun r=>UInt8.ofNat (gI r 0).toNat) u7),Ai 0,Ai 0]),(Ad, .blk Aa [As u0,Ai u1, .own Ar]),(Ar, .arr (Aj+2) true 1 u7)]⟩))
 (Ak ((u7.length+1)*1≤140737488355328∧u7.length+1≤140737488355328)
 (Br (decide ((65535:Int)<(↑(u7++[[IV.int .u8 t5]]).length:Int)))
 (K .ret ⟨[(2, .ptr nL2 0),(3,Ai 8)],[(nL2, .blk Aq [Ai 0,Ai 0, .imm (.str []),Ai 0,Ai 0]),(Ad, .blk Aa [As u0,Ai u1, .own Ar]),(Ar, .arr (Aj+2) true 1 (u7++[[IV.int .u8 t5]]))]⟩)
 (K .normal ⟨[(0, .ptr Ad 0),(2, .ptr nL2 0),(4,Ai t4)],[(Ad, .blk Aa [As u0,Ai u1, .own Ar]),(nL2, .blk Aq [Ai u2,Ai u3,As u4,Ai u5,Ai u6]),(Ar, .arr (Aj+2) true 1 (u7++[[IV.int .u8 t5]]))]⟩))))):F5 t4 t5 u0 u1 u2 u3 u4 u5 u6 u7 K:=A9 (Aw E0 Bq) (Bd Bq) 3 23 (Af 23 ac_token_scanner_text) [0,2,4] _ K rfl (kr (by kernel_rfl) h)
theorem Ade(u0 u1:Int)(u2:LB)(u3 u4:Int)(u5:LB)(u6:Int)(u7:LL)(K:KK)(h:
 (K .ret ⟨[(2, .ptr nL2 0),(3,Ai 5)],[(nL2, .blk Aq [Ai 0,Ai 0, .imm (.str []),Ai 0,Ai 0]),(Ad, .blk Aa [As u5,Ai u6, .own Ar]),(Ar, .arr (Aj+2) true 1 u7)]⟩)):Vi u0 u1 u2 u3 u4 u5 u6 u7 K:=A9 (Aw E0 Bq) (Bd Bq) 3 30 (Af 30 ac_token_scanner_text) [] _ K rfl (kr (by kernel_rfl) h)
theorem Aei(s:LB)(at_:Int)(out:LL)(Q:QQ)(t3 u0 u1:Int)(u2:LB)(u3 u4:Int)(u5:LB)(u6:Int)(u7:LL)(h:
 (Q (.tup [.imm (.agg [.int .i64 u0, .int .i64 u1, .str u2, .int .i64 u3, .int .i64 u4]),Ai t3]) [(Ad, .blk Aa [As u5,Ai u6, .own Ar]),(Ar, .arr (Aj+2) true 1 u7)])):Kj s at_ out Q .ret ⟨[(2, .ptr nL2 0),(3,Ai t3)],[(nL2, .blk Aq [Ai u0,Ai u1,As u2,Ai u3,Ai u4]),(Ad, .blk Aa [As u5,Ai u6, .own Ar]),(Ar, .arr (Aj+2) true 1 u7)]⟩:=kr (by kernel_rfl) h
theorem Aeo(s:LB)(at_:Int)(out:LL)(Q:QQ)(u0 u1:Int)(u2:LB)(u3 u4:Int)(u5:LB)(u6:Int)(u7:LL)(h:
 (Vi u0 u1 u2 u3 u4 u5 u6 u7 (Kj s at_ out Q))):Gm s at_ out Q (.exit 0) ⟨[(2, .ptr nL2 0)],[(nL2, .blk Aq [Ai u0,Ai u1,As u2,Ai u3,Ai u4]),(Ad, .blk Aa [As u5,Ai u6, .own Ar]),(Ar, .arr (Aj+2) true 1 u7)]⟩:=kr (by kernel_rfl) h
theorem Lu(s:LB)(at_:Int)(out:LL)(Q:QQ)(t3 u0 u1:Int)(u2:LB)(u3 u4:Int)(u5:LB)(u6:Int)(u7:LL)(h:
 (Q (.tup [.imm (.agg [.int .i64 u0, .int .i64 u1, .str u2, .int .i64 u3, .int .i64 u4]),Ai t3]) [(Ad, .blk Aa [As u5,Ai u6, .own Ar]),(Ar, .arr (Aj+2) true 1 u7)])):Gm s at_ out Q .ret ⟨[(2, .ptr nL2 0),(3,Ai t3)],[(nL2, .blk Aq [Ai u0,Ai u1,As u2,Ai u3,Ai u4]),(Ad, .blk Aa [As u5,Ai u6, .own Ar]),(Ar, .arr (Aj+2) true 1 u7)]⟩:=kr (by kernel_rfl) h
theorem Sw(K:KK)(t3 u0 u1:Int)(u2:LB)(u3 u4:Int)(u5:LB)(u6:Int)(u7:LL)(h:
 (K .ret ⟨[(2, .ptr nL2 0),(3,Ai t3)],[(nL2, .blk Aq [Ai u0,Ai u1,As u2,Ai u3,Ai u4]),(Ad, .blk Aa [As u5,Ai u6, .own Ar]),(Ar, .arr (Aj+2) true 1 u7)]⟩)):Eu K .ret ⟨[(2, .ptr nL2 0),(3,Ai t3)],[(nL2, .blk Aq [Ai u0,Ai u1,As u2,Ai u3,Ai u4]),(Ad, .blk Aa [As u5,Ai u6, .own Ar]),(Ar, .arr (Aj+2) true 1 u7)]⟩:=kr (by kernel_rfl) h
theorem Ae0(K:KK)(t4:Int)(u0:LB)(u1 u2 u3:Int)(u4:LB)(u5 u6:Int)(u7:LL)(h:
 (Ia t4 u0 u1 u2 u3 u4 u5 u6 u7 K)):Eu K .normal ⟨[(0, .ptr Ad 0),(2, .ptr nL2 0),(4,Ai t4)],[(Ad, .blk Aa [As u0,Ai u1, .own Ar]),(nL2, .blk Aq [Ai u2,Ai u3,As u4,Ai u5,Ai u6]),(Ar, .arr (Aj+2) true 1 u7)]⟩:=kr (by kernel_rfl) h
theorem Ai8:Ca E0.P 58 ac_token_scanner_text.code Bq [.cell 2 46, .tmp 3]:=Bl _ _ Tryz.f58 [(1,[0,2,4],[]),(5,[0,2,4],[]),(7,[2],[]),(15,[2],[]),(20,[0,2,4],[]),(23,[0,2,4,5],[0,2,4]),(30,[2],[])] [2,3] _ 107 Tryz.func58 (by kernel_rfl) (by kernel_rfl) (by kernel_rfl) (by kernel_rfl)
theorem Ag7(s:LB)(at_:Int)(out:LL)(Q:QQ)(h:
 (Ia ((1:Int)) s (IntKind.i64.wrap (at_+(1:Int))) ((0:Int)) ((0:Int)) [] ((0:Int)) ((0:Int)) out (Gm s at_ out Q))):Call E0.P P5 [.ptr (.arg 0) 0] [(.arg 0, .blk Aa [.imm (.str s), .imm (.int .i64 at_), .own (.arg 1)]),(.arg 1, .arr (Aj+2) true 1 out)] Q:=Be (Aw E0 Bq) (Bd Bq) 3 0 58 ac_token_scanner_text [.cell 2 46, .tmp 3] Ai8 _ _ Q rfl rfl (kr (by kernel_rfl) h)
noncomputable def ac_token_scanner_hex:AC:=(Bf [(5,[1,2,4,5,6,7],[]),(7,[2],[]),(19,[1,2,4,5],[1,2,4,5]),(22,[1,2,4,5],[1,2,4,5,6,7]),(23,[2],[])] [2,3] (codeOf Tryz.f60) 0).1
abbrev Bp:Nat:=75
def Fg(t6:Int)(t7:Bool)(u0 u1:Int)(u2:LB)(u3 u4 u5:Int)(u6:LB)(u7:Int)(u8:LL)(K:KK):Prop:=Bu 5 E0.P Bp (A8 5 ac_token_scanner_hex).code ⟨[(1, .ptr Fv 0),(2, .ptr nL2 0),(4, .ptr nL4 0),(5, .fn D9 [.ptr nL4 0, .ptr Fv 0]),(6, .imm (.int .u8 t6)),(7,Ab t7)],[(Fv, .blk 67 [.ptr Ad 0]),(nL2, .blk Aq [Ai u0,Ai u1,As u2,Ai u3,Ai u4]),(nL4, .blk Po [Ai u5]),(Ad, .blk Aa [As u6,Ai u7, .own Ar]),(Ar, .arr (Aj+2) true 1 u8)]⟩ K
def D8(u0 u1:Int)(u2:LB)(u3 u4 u5:Int)(u6:LB)(u7:Int)(u8:LL)(K:KK):Prop:=Av 19 E0.P Bp (Af 19 ac_token_scanner_hex).code ⟨[(1, .ptr Fv 0),(2, .ptr nL2 0),(4, .ptr nL4 0),(5, .fn D9 [.ptr nL4 0, .ptr Fv 0])],[(Fv, .blk 67 [.ptr Ad 0]),(nL2, .blk Aq [Ai u0,Ai u1,As u2,Ai u3,Ai u4]),(nL4, .blk Po [Ai u5]),(Ad, .blk Aa [As u6,Ai u7, .own Ar]),(Ar, .arr (Aj+2) true 1 u8)]⟩ K
def Wj(u0 u1:Int)(u2:LB)(u3 u4:Int)(u5:LB)(u6:Int)(u7:LL)(K:KK):Prop:=Av 23 E0.P Bp (Af 23 ac_token_scanner_hex).code ⟨[(2, .ptr nL2 0)],[(nL2, .blk Aq [Ai u0,Ai u1,As u2,Ai u3,Ai u4]),(Ad, .blk Aa [As u5,Ai u6, .own Ar]),(Ar, .arr (Aj+2) true 1 u7)]⟩ K
def V7(u0 u1:Int)(u2:LB)(u3 u4 u5:Int)(u6:LB)(u7:Int)(u8:LL)(K:KK):Prop:=Av 22 E0.P Bp (Af 22 ac_token_scanner_hex).code ⟨[(1, .ptr Fv 0),(2, .ptr nL2 0),(4, .ptr nL4 0),(5, .fn D9 [.ptr nL4 0, .ptr Fv 0])],[(Fv, .blk 67 [.ptr Ad 0]),(nL2, .blk Aq [Ai u0,Ai u1,As u2,Ai u3,Ai u4]),(nL4, .blk Po [Ai u5]),(Ad, .blk Aa [As u6,Ai u7, .own Ar]),(Ar, .arr (Aj+2) true 1 u8)]⟩ K
def Qj(s:LB)(at_:Int)(out:LL)(Q:QQ):KK:=kE fun st=>finish 0 E0.T [.cell 2 46, .tmp 3] [(Ad, .blk Aa [As s,Ai at_, .own Ar]),(Ar, .arr (Aj+2) true 1 out)] Q st
def Dv(s:LB)(at_:Int)(out:LL)(Q:QQ):KK:=kF 0 (fun st=>Av 23 E0.P Bp (Af 23 ac_token_scanner_hex).code (mask [2] st) (Qj s at_ out Q)) fun st=>finish 0 E0.T [.cell 2 46, .tmp 3] [(Ad, .blk Aa [As s,Ai at_, .own Ar]),(Ar, .arr (Aj+2) true 1 out)] Q st
def P9(K:KK):Ex→St→Prop
 | .normal,st=>Bu 5 E0.P Bp (A8 5 ac_token_scanner_hex).code (mask [1,2,4,5,6,7] st) K
 | .exit i,st=>K (.exit i) st
 | .goto i,st=>K (.goto i) st
 | .ret,st=>K .ret st
def Dk(K:KK):KK:=kC 1 (fun st=>Av 22 E0.P Bp (Af 22 ac_token_scanner_hex).code (mask [1,2,4,5] st) (P9 K)) K
theorem Uf(t6:Int)(t7:Bool)(u0 u1:Int)(u2:LB)(u3 u4 u5:Int)(u6:LB)(u7:Int)(u8:LL)(K:KK)(h:
 (Br (t7)
 (Call E0.P Ua [.imm (.int .u8 t6)] [] fun r0 g0=>
 Ak (qP4 g0 r0)
 (Br (decide (t6=(62:Int)))
 (Br (decide ((65535:Int)<(↑u8.length:Int)))
 (K .ret ⟨[(2, .ptr nL2 0),(3,Ai 8)],[(nL2, .blk Aq [Ai 0,Ai 0, .imm (.str []),Ai 0,Ai 0]),(Ad, .blk Aa [As u6,Ai (IntKind.i64.wrap (u7+(1:Int))), .own Ar]),(Ar, .arr (Aj+2) true 1 u8)]⟩)
 (Ak (∀(r:List IV),r∈u8→Ck [.int .u8] r=true)
 (K .ret ⟨[(2, .ptr nL2 0),(3,Ai 0)],[(nL2, .blk Aq [Ai 3,Ai 0,As (List.map (fun r=>UInt8.ofNat (gI r 0).toNat) u8),Ai 0,Ai 0]),(Ad, .blk Aa [As u6,Ai (IntKind.i64.wrap (u7+(1:Int))), .own Ar]),(Ar, .arr (Aj+2) true 1 u8)]⟩)))
 (Br (decide ((0:Int)≤rI r0))
 (Ak ((2:Int)≠(0:Int))
 (Br (decide ((IntKind.i64.wrap (u5+(1:Int))).tmod (2:Int)=(1:Int)))
 (Ak ((0:Int)≤(4:Int))
 ((Ak ((u8.length+1)*1≤140737488355328∧u8.length+1≤140737488355328)
 (D8 u0 u1 u2 u3 u4 (IntKind.i64.wrap (u5+(1:Int))) u6 (IntKind.i64.wrap (u7+(1:Int))) (u8++[[IV.int .u8 (IntKind.u8.wrap (IntKind.i64.wrap (rI r0*(2:Int) ^ 4)))]]) (Dk K)))∧
 ((Ak ((u8.length+1)*1≤140737488355328∧u8.length+1≤140737488355328)
 (D8 u0 u1 u2 u3 u4 (IntKind.i64.wrap (u5+(1:Int))) u6 (IntKind.i64.wrap (u7+(1:Int))) (u8++[[IV.int .u8 (IntKind.u8.wrap (IntKind.i64.wrap (rI r0*(2:Int) ^ 4)))]]) (Dk K)))∧
 (Ak ((u8.length+1)*1≤140737488355328∧u8.length+1≤140737488355328)
 (D8 u0 u1 u2 u3 u4 (IntKind.i64.wrap (u5+(1:Int))) u6 (IntKind.i64.wrap (u7+(1:Int))) (u8++[[IV.int .u8 (IntKind.u8.wrap (IntKind.i64.wrap (rI r0*(2:Int) ^ 4)))]]) (Dk K))))))
 (Ak ((0:Int)≤IntKind.i64.wrap ((↑u8.length:Int) - (1:Int))∧
 IntKind.i64.wrap ((↑u8.length:Int) - (1:Int))<(↑u8.length:Int))
 (Ak ((IntKind.i64.wrap ((↑u8.length:Int) - (1:Int))).toNat<u8.length∧
 Ck [.int .u8]
 (List.take 1
 (List.drop 0 (u8.getD (IntKind.i64.wrap ((↑u8.length:Int) - (1:Int))).toNat [])))=
 true)
 (Ak ((0:Int)≤IntKind.i64.wrap ((↑u8.length:Int) - (1:Int))∧
 IntKind.i64.wrap ((↑u8.length:Int) - (1:Int))<(↑u8.length:Int))
 (Ak ((IntKind.i64.wrap ((↑u8.length:Int) - (1:Int))).toNat<u8.length)
 (D8 u0 u1 u2 u3 u4 (IntKind.i64.wrap (u5+(1:Int))) u6 (IntKind.i64.wrap (u7+(1:Int))) (u8.set (IntKind.i64.wrap ((↑u8.length:Int) - (1:Int))).toNat
 [.int .u8
 (IntKind.u8.wrap
 (↑(BitVec.ofInt (8:Nat)
 (gI
 (List.take (1:Nat)
 (List.drop (0:Nat) (u8.getD (IntKind.i64.wrap ((↑u8.length:Int) - (1:Int))).toNat [])))
 (0:Nat)) |||
 BitVec.ofInt (8:Nat) (IntKind.u8.wrap (rI r0))).toNat:
 Int))]) (Dk K))))))))
 (Call E0.P Lg [.imm (.int .u8 t6)] [] fun r1 g1=>
 Ak (qP4 g1 r1)
 (Br (!decide (rI r1=(0:Int)))
 (K .ret ⟨[(2, .ptr nL2 0),(3,Ai 4)],[(nL2, .blk Aq [Ai 0,Ai 0, .imm (.str []),Ai 0,Ai 0]),(Ad, .blk Aa [As u6,Ai (IntKind.i64.wrap (u7+(1:Int))), .own Ar]),(Ar, .arr (Aj+2) true 1 u8)]⟩)
 (D8 u0 u1 u2 u3 u4 u5 u6 (IntKind.i64.wrap (u7+(1:Int))) u8 (Dk K)))))))
 (K (.exit 0) ⟨[(2, .ptr nL2 0)],[(nL2, .blk Aq [Ai u0,Ai u1,As u2,Ai u3,Ai u4]),(Ad, .blk Aa [As u6,Ai u7, .own Ar]),(Ar, .arr (Aj+2) true 1 u8)]⟩))):Fg t6 t7 u0 u1 u2 u3 u4 u5 u6 u7 u8 K:=Bo (Aw E0 Bp) (Bd Bp) 3 5 (A8 5 ac_token_scanner_hex) [1,2,4,5,6,7] _ K rfl (kr (by kernel_rfl) h)
theorem Aee(u0 u1:Int)(u2:LB)(u3 u4 u5:Int)(u6:LB)(u7:Int)(u8:LL)(K:KK)(h:
 (Ak ((2:Int)≠(0:Int))
 (Br (decide ((65535:Int)<IntKind.i64.wrap (u5.tdiv (2:Int))))
 (K .ret ⟨[(2, .ptr nL2 0),(3,Ai 8)],[(nL2, .blk Aq [Ai 0,Ai 0, .imm (.str []),Ai 0,Ai 0]),(Ad, .blk Aa [As u6,Ai u7, .own Ar]),(Ar, .arr (Aj+2) true 1 u8)]⟩)
 (K .normal ⟨[(1, .ptr Fv 0),(2, .ptr nL2 0),(4, .ptr nL4 0),(5, .fn D9 [.ptr nL4 0, .ptr Fv 0])],[(Fv, .blk 67 [.ptr Ad 0]),(nL2, .blk Aq [Ai u0,Ai u1,As u2,Ai u3,Ai u4]),(nL4, .blk Po [Ai u5]),(Ad, .blk Aa [As u6,Ai u7, .own Ar]),(Ar, .arr (Aj+2) true 1 u8)]⟩)))):D8 u0 u1 u2 u3 u4 u5 u6 u7 u8 K:=A9 (Aw E0 Bp) (Bd Bp) 3 19 (Af 19 ac_token_scanner_hex) [1,2,4,5] _ K rfl (kr (by kernel_rfl) h)
theorem Ad8(u0 u1:Int)(u2:LB)(u3 u4:Int)(u5:LB)(u6:Int)(u7:LL)(K:KK)(h:
 (K .ret ⟨[(2, .ptr nL2 0),(3,Ai 5)],[(nL2, .blk Aq [Ai 0,Ai 0, .imm (.str []),Ai 0,Ai 0]),(Ad, .blk Aa [As u5,Ai u6, .own Ar]),(Ar, .arr (Aj+2) true 1 u7)]⟩)):Wj u0 u1 u2 u3 u4 u5 u6 u7 K:=A9 (Aw E0 Bp) (Bd Bp) 3 23 (Af 23 ac_token_scanner_hex) [] _ K rfl (kr (by kernel_rfl) h)
theorem Aem(u0 u1:Int)(u2:LB)(u3 u4 u5:Int)(u6:LB)(u7:Int)(u8:LL)(K:KK)(h:
 (Br (decide ((↑u6.length:Int)≤u7))
 (K .normal ⟨[(1, .ptr Fv 0),(2, .ptr nL2 0),(4, .ptr nL4 0),(5, .fn D9 [.ptr nL4 0, .ptr Fv 0]),(6, .imm (.int .u8 ((0:Int)))),(7,Ab false)],[(Fv, .blk 67 [.ptr Ad 0]),(nL2, .blk Aq [Ai u0,Ai u1,As u2,Ai u3,Ai u4]),(nL4, .blk Po [Ai u5]),(Ad, .blk Aa [As u6,Ai u7, .own Ar]),(Ar, .arr (Aj+2) true 1 u8)]⟩)
 (Ak ((0:Int)≤u7∧u7<(↑u6.length:Int))
 (K .normal ⟨[(1, .ptr Fv 0),(2, .ptr nL2 0),(4, .ptr nL4 0),(5, .fn D9 [.ptr nL4 0, .ptr Fv 0]),(6, .imm (.int .u8 ((↑(u6.getD u7.toNat 0).toNat:Int)))),(7,Ab true)],[(Fv, .blk 67 [.ptr Ad 0]),(nL2, .blk Aq [Ai u0,Ai u1,As u2,Ai u3,Ai u4]),(nL4, .blk Po [Ai u5]),(Ad, .blk Aa [As u6,Ai u7, .own Ar]),(Ar, .arr (Aj+2) true 1 u8)]⟩)))):V7 u0 u1 u2 u3 u4 u5 u6 u7 u8 K:=A9 (Aw E0 Bp) (Bd Bp) 3 22 (Af 22 ac_token_scanner_hex) [1,2,4,5,6,7] _ K rfl (kr (by kernel_rfl) h)
theorem Agm(s:LB)(at_:Int)(out:LL)(Q:QQ)(t3 u0 u1:Int)(u2:LB)(u3 u4:Int)(u5:LB)(u6:Int)(u7:LL)(h:
 (Q (.tup [.imm (.agg [.int .i64 u0, .int .i64 u1, .str u2, .int .i64 u3, .int .i64 u4]),Ai t3]) [(Ad, .blk Aa [As u5,Ai u6, .own Ar]),(Ar, .arr (Aj+2) true 1 u7)])):Qj s at_ out Q .ret ⟨[(2, .ptr nL2 0),(3,Ai t3)],[(nL2, .blk Aq [Ai u0,Ai u1,As u2,Ai u3,Ai u4]),(Ad, .blk Aa [As u5,Ai u6, .own Ar]),(Ar, .arr (Aj+2) true 1 u7)]⟩:=kr (by kernel_rfl) h
theorem M9(s:LB)(at_:Int)(out:LL)(Q:QQ)(t3 u0 u1:Int)(u2:LB)(u3 u4:Int)(u5:LB)(u6:Int)(u7:LL)(h:
 (Q (.tup [.imm (.agg [.int .i64 u0, .int .i64 u1, .str u2, .int .i64 u3, .int .i64 u4]),Ai t3]) [(Ad, .blk Aa [As u5,Ai u6, .own Ar]),(Ar, .arr (Aj+2) true 1 u7)])):Dv s at_ out Q .ret ⟨[(2, .ptr nL2 0),(3,Ai t3)],[(nL2, .blk Aq [Ai u0,Ai u1,As u2,Ai u3,Ai u4]),(Ad, .blk Aa [As u5,Ai u6, .own Ar]),(Ar, .arr (Aj+2) true 1 u7)]⟩:=kr (by kernel_rfl) h
theorem Agj(s:LB)(at_:Int)(out:LL)(Q:QQ)(u0 u1:Int)(u2:LB)(u3 u4:Int)(u5:LB)(u6:Int)(u7:LL)(h:
 (Wj u0 u1 u2 u3 u4 u5 u6 u7 (Qj s at_ out Q))):Dv s at_ out Q (.exit 0) ⟨[(2, .ptr nL2 0)],[(nL2, .blk Aq [Ai u0,Ai u1,As u2,Ai u3,Ai u4]),(Ad, .blk Aa [As u5,Ai u6, .own Ar]),(Ar, .arr (Aj+2) true 1 u7)]⟩:=kr (by kernel_rfl) h
theorem Ue(K:KK)(t6:Int)(t7:Bool)(u0 u1:Int)(u2:LB)(u3 u4 u5:Int)(u6:LB)(u7:Int)(u8:LL)(h:
 (Fg t6 t7 u0 u1 u2 u3 u4 u5 u6 u7 u8 K)):P9 K .normal ⟨[(1, .ptr Fv 0),(2, .ptr nL2 0),(4, .ptr nL4 0),(5, .fn D9 [.ptr nL4 0, .ptr Fv 0]),(6, .imm (.int .u8 t6)),(7,Ab t7)],[(Fv, .blk 67 [.ptr Ad 0]),(nL2, .blk Aq [Ai u0,Ai u1,As u2,Ai u3,Ai u4]),(nL4, .blk Po [Ai u5]),(Ad, .blk Aa [As u6,Ai u7, .own Ar]),(Ar, .arr (Aj+2) true 1 u8)]⟩:=kr (by kernel_rfl) h
theorem Agb(K:KK)(t3 u0 u1:Int)(u2:LB)(u3 u4:Int)(u5:LB)(u6:Int)(u7:LL)(h:
 (K .ret ⟨[(2, .ptr nL2 0),(3,Ai t3)],[(nL2, .blk Aq [Ai u0,Ai u1,As u2,Ai u3,Ai u4]),(Ad, .blk Aa [As u5,Ai u6, .own Ar]),(Ar, .arr (Aj+2) true 1 u7)]⟩)):Dk K .ret ⟨[(2, .ptr nL2 0),(3,Ai t3)],[(nL2, .blk Aq [Ai u0,Ai u1,As u2,Ai u3,Ai u4]),(Ad, .blk Aa [As u5,Ai u6, .own Ar]),(Ar, .arr (Aj+2) true 1 u7)]⟩:=kr (by kernel_rfl) h
theorem Agx(K:KK)(u0 u1:Int)(u2:LB)(u3 u4 u5:Int)(u6:LB)(u7:Int)(u8:LL)(h:
 (V7 u0 u1 u2 u3 u4 u5 u6 u7 u8 (P9 K))):Dk K .normal ⟨[(1, .ptr Fv 0),(2, .ptr nL2 0),(4, .ptr nL4 0),(5, .fn D9 [.ptr nL4 0, .ptr Fv 0])],[(Fv, .blk 67 [.ptr Ad 0]),(nL2, .blk Aq [Ai u0,Ai u1,As u2,Ai u3,Ai u4]),(nL4, .blk Po [Ai u5]),(Ad, .blk Aa [As u6,Ai u7, .own Ar]),(Ar, .arr (Aj+2) true 1 u8)]⟩:=kr (by kernel_rfl) h
theorem Ald:Ca E0.P 60 ac_token_scanner_hex.code Bp [.cell 2 46, .tmp 3]:=Bl _ _ Tryz.f60 [(5,[1,2,4,5,6,7],[]),(7,[2],[]),(19,[1,2,4,5],[1,2,4,5]),(22,[1,2,4,5],[1,2,4,5,6,7]),(23,[2],[])] [2,3] _ 75 Tryz.func60 (by kernel_rfl) (by kernel_rfl) (by kernel_rfl) (by kernel_rfl)
theorem Aia(s:LB)(at_:Int)(out:LL)(Q:QQ)(h:
 (Br (decide ((↑s.length:Int)≤IntKind.i64.wrap (at_+(1:Int))))
 (Fg ((0:Int)) false ((0:Int)) ((0:Int)) [] ((0:Int)) ((0:Int)) ((0:Int)) s (IntKind.i64.wrap (at_+(1:Int))) out (Dv s at_ out Q))
 (Ak ((0:Int)≤IntKind.i64.wrap (at_+(1:Int))∧IntKind.i64.wrap (at_+(1:Int))<(↑s.length:Int))
 (Fg ((↑(s.getD (IntKind.i64.wrap (at_+(1:Int))).toNat 0).toNat:Int)) true ((0:Int)) ((0:Int)) [] ((0:Int)) ((0:Int)) ((0:Int)) s (IntKind.i64.wrap (at_+(1:Int))) out (Dv s at_ out Q))))):Call E0.P Qw [.ptr (.arg 0) 0] [(.arg 0, .blk Aa [.imm (.str s), .imm (.int .i64 at_), .own (.arg 1)]),(.arg 1, .arr (Aj+2) true 1 out)] Q:=Be (Aw E0 Bp) (Bd Bp) 3 0 60 ac_token_scanner_hex [.cell 2 46, .tmp 3] Ald _ _ Q rfl rfl (kr (by kernel_rfl) h)
noncomputable def ac_token_scanner_word:AC:=(Bf [] [2,3] (codeOf Tryz.f61) 0).1
abbrev Pz:Nat:=66
theorem Ai2:Ca E0.P 61 ac_token_scanner_word.code Pz [.cell 2 46, .tmp 3]:=Bl _ _ Tryz.f61 [] [2,3] _ 66 Tryz.func61 (by kernel_rfl) (by kernel_rfl) (by kernel_rfl) (by kernel_rfl)
theorem Ahb(s:LB)(at_:Int)(out:LL)(Q:QQ)(h:
 (Call E0.P Rw [As s,Ai at_, .imm (.sl .any 1 [[IV.int .i64 (2:Int)]])] [] fun r0 g0=>
 Ak (qP4 g0 r0)
 (Ak ((0:Int)≤at_∧at_≤IntKind.i64.wrap (at_+rI r0)∧IntKind.i64.wrap (at_+rI r0)≤(↑s.length:Int))
 (Let (List.drop at_.toNat (List.take (IntKind.i64.wrap (at_+rI r0)).toNat s)) fun x1=>
 Call E0.P Zv [As x1] [] fun r2 g2=>
 Ak (g2=[]∧
 r2= .tup [.imm (.int .i64 (rI (rT r2 0))), .imm (.int .i64 (rI (rT r2 1)))])
 (Br (decide (rI (rT r2 1)=(0:Int)))
 (Q (.tup [.imm (.agg [.int .i64 1, .int .i64 (rI (rT r2 0)), .str [], .int .i64 0, .int .i64 0]),Ai 0]) [(Ad, .blk Aa [As s,Ai (IntKind.i64.wrap (at_+(↑x1.length:Int))), .own Ar]),(Ar, .arr (Aj+2) true 1 out)])
 (Br (decide (rI (rT r2 1)=(3:Int)))
 (Q (.tup [.imm (.agg [.int .i64 0, .int .i64 0, .str [], .int .i64 0, .int .i64 0]),Ai (rI (rT r2 1))]) [(Ad, .blk Aa [As s,Ai (IntKind.i64.wrap (at_+(↑x1.length:Int))), .own Ar]),(Ar, .arr (Aj+2) true 1 out)])
 (Br (decide ((127:Int)<(↑x1.length:Int)))
 (Q (.tup [.imm (.agg [.int .i64 0, .int .i64 0, .str [], .int .i64 0, .int .i64 0]),Ai 8]) [(Ad, .blk Aa [As s,Ai (IntKind.i64.wrap (at_+(↑x1.length:Int))), .own Ar]),(Ar, .arr (Aj+2) true 1 out)])
 (Q (.tup [.imm (.agg [.int .i64 8, .int .i64 0, .str x1, .int .i64 0, .int .i64 0]),Ai 0]) [(Ad, .blk Aa [As s,Ai (IntKind.i64.wrap (at_+(↑x1.length:Int))), .own Ar]),(Ar, .arr (Aj+2) true 1 out)])))))))):Call E0.P Qf [.ptr (.arg 0) 0] [(.arg 0, .blk Aa [.imm (.str s), .imm (.int .i64 at_), .own (.arg 1)]),(.arg 1, .arr (Aj+2) true 1 out)] Q:=Be (Aw E0 Pz) (Bd Pz) 3 0 61 ac_token_scanner_word [.cell 2 46, .tmp 3] Ai2 _ _ Q rfl rfl (kr (by kernel_rfl) h)
noncomputable def ac_octet_within:AC:=(Bf [] [4] (codeOf Tryz.f74) 0).1
abbrev Y9:Nat:=13
theorem Ati:Ca E0.P 74 ac_octet_within.code Y9 [.tmp 4]:=Bl _ _ Tryz.f74 [] [4] _ 13 Tryz.func74 (by kernel_rfl) (by kernel_rfl) (by kernel_rfl) (by kernel_rfl)
theorem Ap5(a0:LB)(a1:Int)(Q:QQ)(h:
 (Let (bif decide ((0:Int)≤a1)then decide (a1<(↑a0.length:Int))else false) fun x0=>
 Q (Ab x0) [])):Call E0.P Sy [As a0,Ai a1] [] Q:=Be (Aw E0 Y9) (Bd Y9) 3 0 74 ac_octet_within [.tmp 4] Ati _ _ Q rfl rfl (kr (by kernel_rfl) h)
noncomputable def ac_octet_Kind:AC:=(Bf [(7,[3,4],[]),(20,[],[])] [2] (codeOf Tryz.f49) 0).1
abbrev Hg:Nat:=22
def Hq(t3:Int)(t4:Bool)(K:KK):Prop:=Av 7 E0.P Hg (Af 7 ac_octet_Kind).code ⟨[(3, .imm (.int .u8 t3)),(4,Ab t4)],[]⟩ K
def Ahe(K:KK):Prop:=Av 20 E0.P Hg (Af 20 ac_octet_Kind).code ⟨[],[]⟩ K
def Abk(Q:QQ):KK:=kE fun st=>finish 0 E0.T [.tmp 2] [] Q st
def Em(Q:QQ):KK:=kF 0 (fun st=>Av 20 E0.P Hg (Af 20 ac_octet_Kind).code (mask [] st) (Abk Q)) fun st=>finish 0 E0.T [.tmp 2] [] Q st
theorem Aqd(t3:Int)(t4:Bool)(K:KK)(h:
 (Br (t4)
 (K .ret ⟨[(2,Ai 0)],[]⟩)
 (Br (decide (t3=(40:Int)))
 (Br (decide (t3=(40:Int)))
 (K .ret ⟨[(2,Ai 1)],[]⟩)
 (K .normal ⟨[],[]⟩))
 (Br (decide (t3=(41:Int)))
 (Br (decide (t3=(41:Int)))
 (K .ret ⟨[(2,Ai 1)],[]⟩)
 (K .normal ⟨[],[]⟩))
 (Br (decide (t3=(60:Int)))
 (Br (decide (t3=(60:Int)))
 (K .ret ⟨[(2,Ai 1)],[]⟩)
 (K .normal ⟨[],[]⟩))
 (Br (decide (t3=(62:Int)))
 (Br (decide (t3=(62:Int)))
 (K .ret ⟨[(2,Ai 1)],[]⟩)
 (K .normal ⟨[],[]⟩))
 (Br (decide (t3=(91:Int)))
 (Br (decide (t3=(91:Int)))
 (K .ret ⟨[(2,Ai 1)],[]⟩)
 (K .normal ⟨[],[]⟩))
 (Br (decide (t3=(93:Int)))
 (Br (decide (t3=(93:Int)))
 (K .ret ⟨[(2,Ai 1)],[]⟩)
 (K .normal ⟨[],[]⟩))
 (Br (decide (t3=(123:Int)))
 (Br (decide (t3=(123:Int)))
 (K .ret ⟨[(2,Ai 1)],[]⟩)
 (K .normal ⟨[],[]⟩))
 (Br (decide (t3=(125:Int)))
 (Br (decide (t3=(125:Int)))
 (K .ret ⟨[(2,Ai 1)],[]⟩)
 (K .normal ⟨[],[]⟩))
 (Br (decide (t3=(47:Int)))
 (Br (decide (t3=(47:Int)))
 (K .ret ⟨[(2,Ai 1)],[]⟩)
 (K .normal ⟨[],[]⟩))
 (Br (decide (t3=(37:Int)))
 (K .ret ⟨[(2,Ai 1)],[]⟩)
 (K .normal ⟨[],[]⟩))))))))))))):Hq t3 t4 K:=A9 (Aw E0 Hg) (Bd Hg) 3 7 (Af 7 ac_octet_Kind) [] _ K rfl (kr (by kernel_rfl) h)
theorem Am8(K:KK)(h:
 (K .ret ⟨[(2,Ai 2)],[]⟩)):Ahe K:=A9 (Aw E0 Hg) (Bd Hg) 3 20 (Af 20 ac_octet_Kind) [] _ K rfl (kr (by kernel_rfl) h)
theorem Apo(Q:QQ)(t2:Int)(h:
 (Q (Ai t2) [])):Abk Q .ret ⟨[(2,Ai t2)],[]⟩:=kr (by kernel_rfl) h
theorem Vw(Q:QQ)(t2:Int)(h:
 (Q (Ai t2) [])):Em Q .ret ⟨[(2,Ai t2)],[]⟩:=kr (by kernel_rfl) h
theorem Ap3(Q:QQ)(h:
 (Ahe (Abk Q))):Em Q .normal ⟨[],[]⟩:=kr (by kernel_rfl) h
theorem Axl:Ca E0.P 49 ac_octet_Kind.code Hg [.tmp 2]:=Bl _ _ Tryz.f49 [(7,[3,4],[]),(20,[],[])] [2] _ 22 Tryz.func49 (by kernel_rfl) (by kernel_rfl) (by kernel_rfl) (by kernel_rfl)
theorem Aub(a0:Int)(Q:QQ)(h:
 (Br (decide (a0=(0:Int)))
 (Hq a0 (decide (a0=(0:Int))) (Em Q))
 (Br (decide (a0=(9:Int)))
 (Hq a0 (decide (a0=(9:Int))) (Em Q))
 (Br (decide (a0=(10:Int)))
 (Hq a0 (decide (a0=(10:Int))) (Em Q))
 (Br (decide (a0=(12:Int)))
 (Hq a0 (decide (a0=(12:Int))) (Em Q))
 (Br (decide (a0=(13:Int)))
 (Hq a0 (decide (a0=(13:Int))) (Em Q))
 (Hq a0 (decide (a0=(32:Int))) (Em Q)))))))):Call E0.P Lg [.imm (.int .u8 a0)] [] Q:=Be (Aw E0 Hg) (Bd Hg) 3 0 49 ac_octet_Kind [.tmp 2] Axl _ _ Q rfl rfl (kr (by kernel_rfl) h)
noncomputable def ac_token_scanner_escaped:AC:=(Bf [] [2,3] (codeOf Tryz.f76) 0).1
abbrev Nb:Nat:=62
theorem Afr:Ca E0.P 76 ac_token_scanner_escaped.code Nb [.tmp 2, .tmp 3]:=Bl _ _ Tryz.f76 [] [2,3] _ 62 Tryz.func76 (by kernel_rfl) (by kernel_rfl) (by kernel_rfl) (by kernel_rfl)
theorem Le(s:LB)(at_:Int)(out:LL)(Q:QQ)(h:
 (Br (decide (IntKind.i64.wrap ((↑s.length:Int) - at_)<(2:Int)))
 (Q (.tup [.imm (.int .u8 ((0:Int))),Ab false]) [(Ad, .blk Aa [As s,Ai at_, .own Ar]),(Ar, .arr (Aj+2) true 1 out)])
 (Ak ((0:Int)≤at_∧at_<(↑s.length:Int))
 (Ak ((0:Int)≤IntKind.i64.wrap (at_+(1:Int))∧IntKind.i64.wrap (at_+(1:Int))<(↑s.length:Int))
 (Call E0.P Ua [.imm (.int .u8 ((↑(s.getD at_.toNat 0).toNat:Int)))] [] fun r0 g0=>
 Ak (qP4 g0 r0)
 (Call E0.P Ua [.imm (.int .u8 ((↑(s.getD (IntKind.i64.wrap (at_+(1:Int))).toNat 0).toNat:Int)))] [] fun r1 g1=>
 Ak (qP4 g1 r1)
 (Let (bif decide (rI r0<(0:Int))then true else decide (rI r1<(0:Int))) fun x2=>
 Let (bif x2 then true else decide (IntKind.i64.wrap (rI r0+rI r1)=(0:Int))) fun x3=>
 Br (x3)
 (Q (.tup [.imm (.int .u8 ((0:Int))),Ab false]) [(Ad, .blk Aa [As s,Ai (IntKind.i64.wrap (at_+(2:Int))), .own Ar]),(Ar, .arr (Aj+2) true 1 out)])
 (Ak ((0:Int)≤(4:Int))
 (Q (.tup [.imm (.int .u8 (IntKind.u8.wrap
 (IntKind.i64.wrap
 (↑(BitVec.ofInt (64:Nat) (IntKind.i64.wrap (rI r0*(2:Int) ^ (4:Nat))) |||
 BitVec.ofInt (64:Nat) (rI r1)).toNat:
 Int)))),Ab true]) [(Ad, .blk Aa [As s,Ai (IntKind.i64.wrap (at_+(2:Int))), .own Ar]),(Ar, .arr (Aj+2) true 1 out)]))))))))):Call E0.P G8 [.ptr (.arg 0) 0] [(.arg 0, .blk Aa [.imm (.str s), .imm (.int .i64 at_), .own (.arg 1)]),(.arg 1, .arr (Aj+2) true 1 out)] Q:=Be (Aw E0 Nb) (Bd Nb) 3 0 76 ac_token_scanner_escaped [.tmp 2, .tmp 3] Afr _ _ Q rfl rfl (kr (by kernel_rfl) h)
noncomputable def ac_token_scanner_escape:AC:=(Bf [(21,[0,3],[])] [2] (codeOf Tryz.f78) 0).1
abbrev F4:Nat:=77
def Bt(t3:Int)(u0:LB)(u1:Int)(u2:LL)(K:KK):Prop:=Av 21 E0.P F4 (Af 21 ac_token_scanner_escape).code ⟨[(0, .ptr Ad 0),(3, .imm (.int .u8 t3))],[(Ad, .blk Aa [As u0,Ai u1, .own Ar]),(Ar, .arr (Aj+2) true 1 u2)]⟩ K
def Cb(s:LB)(at_:Int)(out:LL)(Q:QQ):KK:=kE fun st=>finish 0 E0.T [.tmp 2] [(Ad, .blk Aa [As s,Ai at_, .own Ar]),(Ar, .arr (Aj+2) true 1 out)] Q st
theorem Aa1(t3:Int)(u0:LB)(u1:Int)(u2:LL)(K:KK)(h:
 (Ak ((u2.length+1)*1≤140737488355328∧u2.length+1≤140737488355328)
 (K .ret ⟨[(2,Ab true)],[(Ad, .blk Aa [As u0,Ai u1, .own Ar]),(Ar, .arr (Aj+2) true 1 (u2++[[IV.int .u8 t3]]))]⟩))):Bt t3 u0 u1 u2 K:=A9 (Aw E0 F4) (Bd F4) 3 21 (Af 21 ac_token_scanner_escape) [] _ K rfl (kr (by kernel_rfl) h)
theorem Acb(s:LB)(at_:Int)(out:LL)(Q:QQ)(t2:Bool)(u0:LB)(u1:Int)(u2:LL)(h:
 (Q (Ab t2) [(Ad, .blk Aa [As u0,Ai u1, .own Ar]),(Ar, .arr (Aj+2) true 1 u2)])):Cb s at_ out Q .ret ⟨[(2,Ab t2)],[(Ad, .blk Aa [As u0,Ai u1, .own Ar]),(Ar, .arr (Aj+2) true 1 u2)]⟩:=kr (by kernel_rfl) h
theorem Ag3:Ca E0.P 78 ac_token_scanner_escape.code F4 [.tmp 2]:=Bl _ _ Tryz.f78 [(21,[0,3],[])] [2] _ 77 Tryz.func78 (by kernel_rfl) (by kernel_rfl) (by kernel_rfl) (by kernel_rfl)
theorem Sv(s:LB)(at_:Int)(out:LL)(Q:QQ)(h:
 (Br (decide ((↑s.length:Int)≤at_))
 (Br (!false)
 (Q (Ab false) [(Ad, .blk Aa [As s,Ai at_, .own Ar]),(Ar, .arr (Aj+2) true 1 out)])
 (Call E0.P Nz [As s,Ai at_] [] fun r0 g0=>
 Ak (qP4 g0 r0)
 (Br (decide ((0:Int)<rI r0))
 (Q (Ab true) [(Ad, .blk Aa [As s,Ai (IntKind.i64.wrap (at_+rI r0)), .own Ar]),(Ar, .arr (Aj+2) true 1 out)])
 (Let (bif decide ((48:Int)≤(0:Int))then decide ((0:Int)≤(55:Int))else false) fun x1=>
 Br (x1)
 (((Call E0.P Ea [.ptr Ad 0] [(Ad, .blk Aa [As s,Ai at_, .own Ar])] fun r2 g2=>
 Ak (qP9 g2 r2)
 (Ak ((out.length+1)*1≤140737488355328∧out.length+1≤140737488355328)
 (Q (Ab true) [(Ad, .blk Aa [.imm (.str (rS ((Au g2 Ad).getD 0 AV.undef))), .imm (.int .i64 (rI ((Au g2 Ad).getD 1 AV.undef))), .own Ar]),(Ar, .arr (Aj+2) true 1 (out++[[IV.int .u8 (rI r2)]]))])))∧
 (Call E0.P Ea [.ptr Ad 0] [(Ad, .blk Aa [As s,Ai at_, .own Ar])] fun r3 g3=>
 Ak (qP9 g3 r3)
 ((Ak ((out.length+1)*1≤140737488355328∧out.length+1≤140737488355328)
 (Q (Ab true) [(Ad, .blk Aa [.imm (.str (rS ((Au g3 Ad).getD 0 AV.undef))), .imm (.int .i64 (rI ((Au g3 Ad).getD 1 AV.undef))), .own Ar]),(Ar, .arr (Aj+2) true 1 (out++[[IV.int .u8 (rI r3)]]))]))∧
 (Ak ((out.length+1)*1≤140737488355328∧out.length+1≤140737488355328)
 (Q (Ab true) [(Ad, .blk Aa [.imm (.str (rS ((Au g3 Ad).getD 0 AV.undef))), .imm (.int .i64 (rI ((Au g3 Ad).getD 1 AV.undef))), .own Ar]),(Ar, .arr (Aj+2) true 1 (out++[[IV.int .u8 (rI r3)]]))])))))∧
 (Call E0.P Ea [.ptr Ad 0] [(Ad, .blk Aa [As s,Ai at_, .own Ar])] fun r4 g4=>
 Ak (qP9 g4 r4)
 (((Ak ((out.length+1)*1≤140737488355328∧out.length+1≤140737488355328)
 (Q (Ab true) [(Ad, .blk Aa [.imm (.str (rS ((Au g4 Ad).getD 0 AV.undef))), .imm (.int .i64 (rI ((Au g4 Ad).getD 1 AV.undef))), .own Ar]),(Ar, .arr (Aj+2) true 1 (out++[[IV.int .u8 (rI r4)]]))]))∧
 (Ak ((out.length+1)*1≤140737488355328∧out.length+1≤140737488355328)
 (Q (Ab true) [(Ad, .blk Aa [.imm (.str (rS ((Au g4 Ad).getD 0 AV.undef))), .imm (.int .i64 (rI ((Au g4 Ad).getD 1 AV.undef))), .own Ar]),(Ar, .arr (Aj+2) true 1 (out++[[IV.int .u8 (rI r4)]]))])))∧
 (Ak ((out.length+1)*1≤140737488355328∧out.length+1≤140737488355328)
 (Q (Ab true) [(Ad, .blk Aa [.imm (.str (rS ((Au g4 Ad).getD 0 AV.undef))), .imm (.int .i64 (rI ((Au g4 Ad).getD 1 AV.undef))), .own Ar]),(Ar, .arr (Aj+2) true 1 (out++[[IV.int .u8 (rI r4)]]))])))))
 (Br (decide ((0:Int)=(110:Int)))
 (Bt ((10:Int)) s (IntKind.i64.wrap (at_+(1:Int))) out (Cb s at_ out Q))
 (Br (decide ((0:Int)=(114:Int)))
 (Bt ((13:Int)) s (IntKind.i64.wrap (at_+(1:Int))) out (Cb s at_ out Q))
 (Br (decide ((0:Int)=(116:Int)))
 (Bt ((9:Int)) s (IntKind.i64.wrap (at_+(1:Int))) out (Cb s at_ out Q))
 (Br (decide ((0:Int)=(98:Int)))
 (Bt ((8:Int)) s (IntKind.i64.wrap (at_+(1:Int))) out (Cb s at_ out Q))
 (Br (decide ((0:Int)=(102:Int)))
 (Bt ((12:Int)) s (IntKind.i64.wrap (at_+(1:Int))) out (Cb s at_ out Q))
 (Bt ((0:Int)) s (IntKind.i64.wrap (at_+(1:Int))) out (Cb s at_ out Q)))))))))))
 (Ak ((0:Int)≤at_∧at_<(↑s.length:Int))
 (Br (!true)
 (Q (Ab false) [(Ad, .blk Aa [As s,Ai at_, .own Ar]),(Ar, .arr (Aj+2) true 1 out)])
 (Call E0.P Nz [As s,Ai at_] [] fun r5 g5=>
 Ak (qP4 g5 r5)
 (Br (decide ((0:Int)<rI r5))
 (Q (Ab true) [(Ad, .blk Aa [As s,Ai (IntKind.i64.wrap (at_+rI r5)), .own Ar]),(Ar, .arr (Aj+2) true 1 out)])
 (Let (bif decide ((48:Int)≤(↑(s.getD at_.toNat 0).toNat:Int))then
 decide ((↑(s.getD at_.toNat 0).toNat:Int)≤(55:Int))
 else false) fun x6=>
 Br (x6)
 (((Call E0.P Ea [.ptr Ad 0] [(Ad, .blk Aa [As s,Ai at_, .own Ar])] fun r7 g7=>
 Ak (qP9 g7 r7)
 (Ak ((out.length+1)*1≤140737488355328∧out.length+1≤140737488355328)
 (Q (Ab true) [(Ad, .blk Aa [.imm (.str (rS ((Au g7 Ad).getD 0 AV.undef))), .imm (.int .i64 (rI ((Au g7 Ad).getD 1 AV.undef))), .own Ar]),(Ar, .arr (Aj+2) true 1 (out++[[IV.int .u8 (rI r7)]]))])))∧
 (Call E0.P Ea [.ptr Ad 0] [(Ad, .blk Aa [As s,Ai at_, .own Ar])] fun r8 g8=>
 Ak (qP9 g8 r8)
 ((Ak ((out.length+1)*1≤140737488355328∧out.length+1≤140737488355328)
 (Q (Ab true) [(Ad, .blk Aa [.imm (.str (rS ((Au g8 Ad).getD 0 AV.undef))), .imm (.int .i64 (rI ((Au g8 Ad).getD 1 AV.undef))), .own Ar]),(Ar, .arr (Aj+2) true 1 (out++[[IV.int .u8 (rI r8)]]))]))∧
 (Ak ((out.length+1)*1≤140737488355328∧out.length+1≤140737488355328)
 (Q (Ab true) [(Ad, .blk Aa [.imm (.str (rS ((Au g8 Ad).getD 0 AV.undef))), .imm (.int .i64 (rI ((Au g8 Ad).getD 1 AV.undef))), .own Ar]),(Ar, .arr (Aj+2) true 1 (out++[[IV.int .u8 (rI r8)]]))])))))∧
 (Call E0.P Ea [.ptr Ad 0] [(Ad, .blk Aa [As s,Ai at_, .own Ar])] fun r9 g9=>
 Ak (qP9 g9 r9)
 (((Ak ((out.length+1)*1≤140737488355328∧out.length+1≤140737488355328)
 (Q (Ab true) [(Ad, .blk Aa [.imm (.str (rS ((Au g9 Ad).getD 0 AV.undef))), .imm (.int .i64 (rI ((Au g9 Ad).getD 1 AV.undef))), .own Ar]),(Ar, .arr (Aj+2) true 1 (out++[[IV.int .u8 (rI r9)]]))]))∧
 (Ak ((out.length+1)*1≤140737488355328∧out.length+1≤140737488355328)
 (Q (Ab true) [(Ad, .blk Aa [.imm (.str (rS ((Au g9 Ad).getD 0 AV.undef))), .imm (.int .i64 (rI ((Au g9 Ad).getD 1 AV.undef))), .own Ar]),(Ar, .arr (Aj+2) true 1 (out++[[IV.int .u8 (rI r9)]]))])))∧
 (Ak ((out.length+1)*1≤140737488355328∧out.length+1≤140737488355328)
 (Q (Ab true) [(Ad, .blk Aa [.imm (.str (rS ((Au g9 Ad).getD 0 AV.undef))), .imm (.int .i64 (rI ((Au g9 Ad).getD 1 AV.undef))), .own Ar]),(Ar, .arr (Aj+2) true 1 (out++[[IV.int .u8 (rI r9)]]))])))))
 (Br (decide ((↑(s.getD at_.toNat 0).toNat:Int)=(110:Int)))
 (Bt ((10:Int)) s (IntKind.i64.wrap (at_+(1:Int))) out (Cb s at_ out Q))
 (Br (decide ((↑(s.getD at_.toNat 0).toNat:Int)=(114:Int)))
 (Bt ((13:Int)) s (IntKind.i64.wrap (at_+(1:Int))) out (Cb s at_ out Q))
 (Br (decide ((↑(s.getD at_.toNat 0).toNat:Int)=(116:Int)))
 (Bt ((9:Int)) s (IntKind.i64.wrap (at_+(1:Int))) out (Cb s at_ out Q))
 (Br (decide ((↑(s.getD at_.toNat 0).toNat:Int)=(98:Int)))
 (Bt ((8:Int)) s (IntKind.i64.wrap (at_+(1:Int))) out (Cb s at_ out Q))
 (Br (decide ((↑(s.getD at_.toNat 0).toNat:Int)=(102:Int)))
 (Bt ((12:Int)) s (IntKind.i64.wrap (at_+(1:Int))) out (Cb s at_ out Q))
 (Bt ((↑(s.getD at_.toNat 0).toNat:Int)) s (IntKind.i64.wrap (at_+(1:Int))) out (Cb s at_ out Q)))))))))))))):Call E0.P Jw [.ptr (.arg 0) 0] [(.arg 0, .blk Aa [.imm (.str s), .imm (.int .i64 at_), .own (.arg 1)]),(.arg 1, .arr (Aj+2) true 1 out)] Q:=Be (Aw E0 F4) (Bd F4) 3 0 78 ac_token_scanner_escape [.tmp 2] Ag3 _ _ Q rfl rfl (kr (by kernel_rfl) h)
noncomputable def ac_octet_Hex:AC:=(Bf [] [2] (codeOf Tryz.f80) 0).1
abbrev Agn:Nat:=35
theorem Az8:Ca E0.P 80 ac_octet_Hex.code Agn [.tmp 2]:=Bl _ _ Tryz.f80 [] [2] _ 35 Tryz.func80 (by kernel_rfl) (by kernel_rfl) (by kernel_rfl) (by kernel_rfl)
theorem Avr(a0:Int)(Q:QQ)(h:
 (Let (bif decide ((48:Int)≤a0)then decide (a0≤(57:Int))else false) fun x0=>
 Br (x0)
 (Q (.imm (.int .i64 (IntKind.i64.wrap (IntKind.u8.wrap (a0 - (48:Int)))))) [])
 (Let (bif decide ((65:Int)≤a0)then decide (a0≤(70:Int))else false) fun x1=>
 Br (x1)
 (Q (.imm (.int .i64 (IntKind.i64.wrap (IntKind.i64.wrap (IntKind.u8.wrap (a0 - (65:Int)))+(10:Int))))) [])
 (Let (bif decide ((97:Int)≤a0)then decide (a0≤(102:Int))else false) fun x2=>
 Br (x2)
 (Q (.imm (.int .i64 (IntKind.i64.wrap (IntKind.i64.wrap (IntKind.u8.wrap (a0 - (97:Int)))+(10:Int))))) [])
 (Q (Ai (-1)) []))))):Call E0.P Ua [.imm (.int .u8 a0)] [] Q:=Be (Aw E0 Agn) (Bd Agn) 3 0 80 ac_octet_Hex [.tmp 2] Az8 _ _ Q rfl rfl (kr (by kernel_rfl) h)
noncomputable def ac_digits_Loose:AC:=(Bf [(4,[6,7],[])] [2,3] (codeOf Tryz.f81) 0).1
abbrev K8:Nat:=23
def Qu(t6 t7:Int)(K:KK):Prop:=Av 4 E0.P K8 (Af 4 ac_digits_Loose).code ⟨[(6,Ai t6),(7,Ai t7)],[]⟩ K
def X0(Q:QQ):KK:=kE fun st=>finish 0 E0.T [.tmp 2, .tmp 3] [] Q st
theorem Alo(t6 t7:Int)(K:KK)(h:
 (K .ret ⟨[(2,Ai t6),(3,Ai t7)],[]⟩)):Qu t6 t7 K:=A9 (Aw E0 K8) (Bd K8) 3 4 (Af 4 ac_digits_Loose) [] _ K rfl (kr (by kernel_rfl) h)
theorem Alr(Q:QQ)(t2 t3:Int)(h:
 (Q (.tup [Ai t2,Ai t3]) [])):X0 Q .ret ⟨[(2,Ai t2),(3,Ai t3)],[]⟩:=kr (by kernel_rfl) h
theorem Atx:Ca E0.P 81 ac_digits_Loose.code K8 [.tmp 2, .tmp 3]:=Bl _ _ Tryz.f81 [(4,[6,7],[])] [2,3] _ 23 Tryz.func81 (by kernel_rfl) (by kernel_rfl) (by kernel_rfl) (by kernel_rfl)
theorem Aqc(a0:LB)(Q:QQ)(h:
 (Call E0.P Mq [As a0, .imm (.str [43,45])] [] fun r0 g0=>
 Ak (g0=[]∧r0= .tup [.imm (.bool (rB (rT r0 0))), .imm (.str (rS (rT r0 1)))])
 (Call E0.P Yx [As (rS (rT r0 1))] [] fun r1 g1=>
 Ak (g1=[]∧
 r1= .tup [.imm (.int .i64 (rI (rT r1 0))), .imm (.int .i64 (rI (rT r1 1)))])
 (Br (rB (rT r0 0))
 (Qu (IntKind.i64.wrap ((0:Int) - rI (rT r1 0))) (rI (rT r1 1)) (X0 Q))
 (Qu (rI (rT r1 0)) (rI (rT r1 1)) (X0 Q)))))):Call E0.P Zv [As a0] [] Q:=Be (Aw E0 K8) (Bd K8) 3 0 81 ac_digits_Loose [.tmp 2, .tmp 3] Atx _ _ Q rfl rfl (kr (by kernel_rfl) h)
noncomputable def ac_token_scanner_octal:AC:=(Bf [(3,[0,3,6],[]),(5,[3],[]),(9,[3],[]),(13,[3],[])] [2] (codeOf Tryz.f88) 0).1
abbrev Db:Nat:=39
def Hw(t3 t6:Int)(u0:LB)(u1:Int)(K:KK):Prop:=Bu 3 E0.P Db (A8 3 ac_token_scanner_octal).code ⟨[(0, .ptr Ad 0),(3,Ai t3),(6,Ai t6)],[(Ad, .blk Aa [As u0,Ai u1, .own Ar])]⟩ K
def Tz(t3:Int)(u0:LB)(u1:Int)(K:KK):Prop:=Av 13 E0.P Db (Af 13 ac_token_scanner_octal).code ⟨[(3,Ai t3)],[(Ad, .blk Aa [As u0,Ai u1, .own Ar])]⟩ K
def Nv(s:LB)(at_:Int)(Q:QQ):KK:=kE fun st=>finish (4) E0.T [.tmp 2] [(Ad, .blk Aa [As s,Ai at_, .own Ar])] Q st
def Vg(s:LB)(at_:Int)(Q:QQ):KK:=kF 0 (fun st=>Av 13 E0.P Db (Af 13 ac_token_scanner_octal).code (mask [3] st) (Nv s at_ Q)) fun st=>finish (4) E0.T [.tmp 2] [(Ad, .blk Aa [As s,Ai at_, .own Ar])] Q st
theorem R5(t3 t6:Int)(u0:LB)(u1:Int)(K:KK)(h:
 (Br (decide (t6<(3:Int)))
 (Br (decide ((↑u0.length:Int)≤u1))
 (Let (bif !false then true else decide ((0:Int)<(48:Int))) fun x0=>
 Let (bif x0 then true else decide ((55:Int)<(0:Int))) fun x1=>
 Br (x1)
 (K (.exit 0) ⟨[(3,Ai t3)],[(Ad, .blk Aa [As u0,Ai u1, .own Ar])]⟩)
 (Ak ((0:Int)≤(3:Int))
 (Hw (IntKind.i64.wrap
 (↑(BitVec.ofInt (64:Nat) (IntKind.i64.wrap (t3*(2:Int) ^ (3:Nat))) |||
 BitVec.ofInt (64:Nat) (IntKind.i64.wrap (IntKind.u8.wrap ((0:Int) - (48:Int))))).toNat:
 Int)) (IntKind.i64.wrap (t6+(1:Int))) u0 (IntKind.i64.wrap (u1+(1:Int))) K)))
 (Ak ((0:Int)≤u1∧u1<(↑u0.length:Int))
 (Let (bif !true then true else decide ((↑(u0.getD u1.toNat 0).toNat:Int)<(48:Int))) fun x2=>
 Let (bif x2 then true else decide ((55:Int)<(↑(u0.getD u1.toNat 0).toNat:Int))) fun x3=>
 Br (x3)
 (K (.exit 0) ⟨[(3,Ai t3)],[(Ad, .blk Aa [As u0,Ai u1, .own Ar])]⟩)
 (Ak ((0:Int)≤(3:Int))
 (Hw (IntKind.i64.wrap
 (↑(BitVec.ofInt (64:Nat) (IntKind.i64.wrap (t3*(2:Int) ^ (3:Nat))) |||
 BitVec.ofInt (64:Nat)
 (IntKind.i64.wrap
 (IntKind.u8.wrap ((↑(u0.getD u1.toNat 0).toNat:Int) - (48:Int))))).toNat:
 Int)) (IntKind.i64.wrap (t6+(1:Int))) u0 (IntKind.i64.wrap (u1+(1:Int))) K)))))
 (K (.exit 0) ⟨[(3,Ai t3)],[(Ad, .blk Aa [As u0,Ai u1, .own Ar])]⟩))):Hw t3 t6 u0 u1 K:=Bo (Aw E0 Db) (Bd Db) 3 3 (A8 3 ac_token_scanner_octal) [0,3,6] _ K rfl (kr (by kernel_rfl) h)
theorem Ab5(t3:Int)(u0:LB)(u1:Int)(K:KK)(h:
 (K .ret ⟨[(2, .imm (.int .u8 (IntKind.u8.wrap t3)))],[(Ad, .blk Aa [As u0,Ai u1, .own Ar])]⟩)):Tz t3 u0 u1 K:=A9 (Aw E0 Db) (Bd Db) 3 13 (Af 13 ac_token_scanner_octal) [] _ K rfl (kr (by kernel_rfl) h)
theorem Adb(s:LB)(at_:Int)(Q:QQ)(t2:Int)(u0:LB)(u1:Int)(h:
 (Q (.imm (.int .u8 t2)) [(Ad, .blk Aa [As u0,Ai u1, .own Ar])])):Nv s at_ Q .ret ⟨[(2, .imm (.int .u8 t2))],[(Ad, .blk Aa [As u0,Ai u1, .own Ar])]⟩:=kr (by kernel_rfl) h
theorem Adq(s:LB)(at_:Int)(Q:QQ)(t3:Int)(u0:LB)(u1:Int)(h:
 (Tz t3 u0 u1 (Nv s at_ Q))):Vg s at_ Q (.exit 0) ⟨[(3,Ai t3)],[(Ad, .blk Aa [As u0,Ai u1, .own Ar])]⟩:=kr (by kernel_rfl) h
theorem Aij:Ca E0.P 88 ac_token_scanner_octal.code Db [.tmp 2]:=Bl _ _ Tryz.f88 [(3,[0,3,6],[]),(5,[3],[]),(9,[3],[]),(13,[3],[])] [2] _ 39 Tryz.func88 (by kernel_rfl) (by kernel_rfl) (by kernel_rfl) (by kernel_rfl)
theorem Agc(s:LB)(at_:Int)(Q:QQ)(h:
 (Hw ((0:Int)) ((0:Int)) s at_ (Vg s at_ Q))):Call E0.P Ea [.ptr (.arg 0) 0] [(.arg 0, .blk Aa [.imm (.str s), .imm (.int .i64 at_), .own (.arg 1)])] Q:=Be (Aw E0 Db) (Bd Db) 3 4 88 ac_token_scanner_octal [.tmp 2] Aij _ _ Q rfl rfl (kr (by kernel_rfl) h)
noncomputable def ac_digits_signed:AC:=(Bf [(1,[0,14],[0]),(3,[0],[])] [4,5] (codeOf Tryz.f89) 0).1
abbrev Ew:Nat:=21
def Vo(t0:LB)(t14:Bool)(K:KK):Prop:=Av 1 E0.P Ew (Af 1 ac_digits_signed).code ⟨[(0,As t0),(14,Ab t14)],[]⟩ K
def Ad3(t0:LB)(K:KK):Prop:=Av 3 E0.P Ew (Af 3 ac_digits_signed).code ⟨[(0,As t0)],[]⟩ K
def V3(Q:QQ):KK:=kE fun st=>finish 0 E0.T [.tmp 4, .tmp 5] [] Q st
def Pg(Q:QQ):Ex→St→Prop
 | .normal,st=>Av 3 E0.P Ew (Af 3 ac_digits_signed).code (mask [0] st) (V3 Q)
 | .exit _,_=>False
 | .goto _,_=>False
 | .ret,st=>finish 0 E0.T [.tmp 4, .tmp 5] [] Q st
theorem Zr(t0:LB)(t14:Bool)(K:KK)(h:
 (Br (t14)
 (K .ret ⟨[(4,Ab false),(5,As t0)],[]⟩)
 (K .normal ⟨[(0,As t0)],[]⟩))):Vo t0 t14 K:=A9 (Aw E0 Ew) (Bd Ew) 3 1 (Af 1 ac_digits_signed) [0] _ K rfl (kr (by kernel_rfl) h)
theorem Aj3(t0:LB)(K:KK)(h:
 (Ak ((0:Int)≤(0:Int)∧(0:Int)<(↑t0.length:Int))
 (Ak ((0:Int)≤(1:Int)∧(1:Int)≤(↑t0.length:Int))
 (Let (List.drop 1 t0) fun x0=>
 K .ret ⟨[(4, .imm (.bool (decide ((↑(t0.getD (0:Nat) 0).toNat:Int)=(45:Int))))),(5,As x0)],[]⟩)))):Ad3 t0 K:=A9 (Aw E0 Ew) (Bd Ew) 3 3 (Af 3 ac_digits_signed) [] _ K rfl (kr (by kernel_rfl) h)
theorem Ak9(Q:QQ)(t4:Bool)(t5:LB)(h:
 (Q (.tup [Ab t4,As t5]) [])):V3 Q .ret ⟨[(4,Ab t4),(5,As t5)],[]⟩:=kr (by kernel_rfl) h
theorem Aaa(Q:QQ)(t4:Bool)(t5:LB)(h:
 (Q (.tup [Ab t4,As t5]) [])):Pg Q .ret ⟨[(4,Ab t4),(5,As t5)],[]⟩:=kr (by kernel_rfl) h
theorem Akb(Q:QQ)(t0:LB)(h:
 (Ad3 t0 (V3 Q))):Pg Q .normal ⟨[(0,As t0)],[]⟩:=kr (by kernel_rfl) h
theorem Arr:Ca E0.P 89 ac_digits_signed.code Ew [.tmp 4, .tmp 5]:=Bl _ _ Tryz.f89 [(1,[0,14],[0]),(3,[0],[])] [4,5] _ 21 Tryz.func89 (by kernel_rfl) (by kernel_rfl) (by kernel_rfl) (by kernel_rfl)
theorem Acc(a0 a1:LB)(Q:QQ)(h:
 (Ak ((a0 == [])=false→(0:Int)≤(1:Int)∧(1:Int)≤(↑a0.length:Int))
 (Let (List.take 1 a0) fun x0=>
 Br ((a0 == []) == false)
 (Call E0.P Aak [As a1,As x0] [] fun r1 g1=>
 Ak (Ob g1 r1)
 (Let (!rB r1) fun x2=>
 Vo a0 x2 (Pg Q)))
 (Ak ((!false)=true)
 (Let (true) fun x3=>
 Vo a0 x3 (Pg Q)))))):Call E0.P Mq [As a0,As a1] [] Q:=Be (Aw E0 Ew) (Bd Ew) 3 0 89 ac_digits_signed [.tmp 4, .tmp 5] Arr _ _ Q rfl rfl (kr (by kernel_rfl) h)
noncomputable def ac_digits_Fixed:AC:=(Bf [(1,[0,15],[0]),(3,[0],[]),(7,[4,5,6],[]),(9,[5],[]),(15,[5],[])] [2,3] (codeOf Tryz.f90) 0).1
abbrev Cw:Nat:=31
def Xp(t0:LB)(t15:Bool)(K:KK):Prop:=Av 1 E0.P Cw (Af 1 ac_digits_Fixed).code ⟨[(0,As t0),(15,Ab t15)],[]⟩ K
def Afz(t0:LB)(K:KK):Prop:=Av 3 E0.P Cw (Af 3 ac_digits_Fixed).code ⟨[(0,As t0)],[]⟩ K
def Eg(t5 t6 u0:Int)(u1:LB)(K:KK):Prop:=Bu 7 E0.P Cw (A8 7 ac_digits_Fixed).code ⟨[(4, .fn Aps [.ptr (Nm.sub 17 nL3) 0, .ptr (Nm.sub 17 Fv) 0]),(5,Ai t5),(6,Ai t6)],[((Nm.sub 17 nL3), .blk Po [Ai u0]),((Nm.sub 17 Fv), .blk Oz [As u1])]⟩ K
def Ad2(t5:Int)(K:KK):Prop:=Av 15 E0.P Cw (Af 15 ac_digits_Fixed).code ⟨[(5,Ai t5)],[]⟩ K
def X3(Q:QQ):KK:=kE fun st=>finish 0 E0.T [.tmp 2, .tmp 3] [] Q st
def Rf(Q:QQ):Ex→St→Prop
 | .normal,st=>Av 3 E0.P Cw (Af 3 ac_digits_Fixed).code (mask [0] st) (X3 Q)
 | .exit _,_=>False
 | .goto _,_=>False
 | .ret,st=>finish 0 E0.T [.tmp 2, .tmp 3] [] Q st
def X4(K:KK):KK:=kP [] K
def J4(K:KK):KK:=kC 0 (fun st=>Av 15 E0.P Cw (Af 15 ac_digits_Fixed).code (mask [5] st) (X4 K)) K
theorem Aam(t0:LB)(t15:Bool)(K:KK)(h:
 (Br (t15)
 (K .ret ⟨[(2,Ai 0),(3,Ai 4)],[]⟩)
 (K .normal ⟨[(0,As t0)],[]⟩))):Xp t0 t15 K:=A9 (Aw E0 Cw) (Bd Cw) 3 1 (Af 1 ac_digits_Fixed) [0] _ K rfl (kr (by kernel_rfl) h)
theorem Ame(t0:LB)(K:KK)(h:
 (Ak (decide ((↑t0.length:Int)≤(0:Int))=false→(0:Int)≤(0:Int)∧(0:Int)<(↑t0.length:Int))
 (Br (decide ((↑t0.length:Int)≤(0:Int)) == false)
 (Call E0.P Ox [.imm (.int .i32 (IntKind.i32.wrap (↑(t0.getD (0:Nat) 0).toNat:Int)))] [] fun r0 g0=>
 Ak (Ob g0 r0)
 (Let (!rB r0) fun x1=>
 Br (x1)
 (Eg ((0:Int)) ((-1:Int)) ((0:Int)) t0 (J4 K))
 (Ak ((0:Int)≤IntKind.i64.wrap (IntKind.i64.wrap ((0:Int)+(1:Int)) - (1:Int))∧
 IntKind.i64.wrap (IntKind.i64.wrap ((0:Int)+(1:Int)) - (1:Int))<(↑t0.length:Int))
 (Eg ((0:Int)) (IntKind.i64.wrap (IntKind.u8.wrap ((↑(t0.getD (0:Nat) 0).toNat:Int) - (48:Int)))) (IntKind.i64.wrap ((0:Int)+(1:Int))) t0 (J4 K)))))
 (Ak ((!false)=true)
 (Let (true) fun x2=>
 Br (x2)
 (Eg ((0:Int)) ((-1:Int)) ((0:Int)) t0 (J4 K))
 (Ak ((0:Int)≤IntKind.i64.wrap (IntKind.i64.wrap ((0:Int)+(1:Int)) - (1:Int))∧
 IntKind.i64.wrap (IntKind.i64.wrap ((0:Int)+(1:Int)) - (1:Int))<(↑t0.length:Int))
 (Eg ((0:Int)) (IntKind.i64.wrap (IntKind.u8.wrap ((↑(t0.getD (0:Nat) 0).toNat:Int) - (48:Int)))) (IntKind.i64.wrap ((0:Int)+(1:Int))) t0 (J4 K)))))))):Afz t0 K:=A9 (Aw E0 Cw) (Bd Cw) 3 3 (Af 3 ac_digits_Fixed) [] _ K rfl (kr (by kernel_rfl) h)
theorem Aaq(t5 t6 u0:Int)(u1:LB)(K:KK)(h:
 (Br (decide ((0:Int)≤t6))
 (Br (decide ((2147483647:Int)<IntKind.i64.wrap (IntKind.i64.wrap ((10:Int)*t5)+t6)))
 (K .ret ⟨[(2,Ai 0),(3,Ai 3)],[]⟩)
 (Ak (decide ((↑u1.length:Int)≤u0)=false→(0:Int)≤u0∧u0<(↑u1.length:Int))
 (Br (decide ((↑u1.length:Int)≤u0) == false)
 (Call E0.P Ox [.imm (.int .i32 (IntKind.i32.wrap (↑(u1.getD u0.toNat 0).toNat:Int)))] [] fun r0 g0=>
 Ak (Ob g0 r0)
 (Let (!rB r0) fun x1=>
 Br (x1)
 (Eg (IntKind.i64.wrap (IntKind.i64.wrap ((10:Int)*t5)+t6)) ((-1:Int)) u0 u1 K)
 (Ak ((0:Int)≤IntKind.i64.wrap (IntKind.i64.wrap (u0+(1:Int)) - (1:Int))∧
 IntKind.i64.wrap (IntKind.i64.wrap (u0+(1:Int)) - (1:Int))<(↑u1.length:Int))
 (Eg (IntKind.i64.wrap (IntKind.i64.wrap ((10:Int)*t5)+t6)) (IntKind.i64.wrap
 (IntKind.u8.wrap
 ((↑(u1.getD (IntKind.i64.wrap (IntKind.i64.wrap (u0+(1:Int)) - (1:Int))).toNat 0).toNat:
 Int) -
 (48:Int)))) (IntKind.i64.wrap (u0+(1:Int))) u1 K))))
 (Ak ((!false)=true)
 (Let (true) fun x2=>
 Br (x2)
 (Eg (IntKind.i64.wrap (IntKind.i64.wrap ((10:Int)*t5)+t6)) ((-1:Int)) u0 u1 K)
 (Ak ((0:Int)≤IntKind.i64.wrap (IntKind.i64.wrap (u0+(1:Int)) - (1:Int))∧
 IntKind.i64.wrap (IntKind.i64.wrap (u0+(1:Int)) - (1:Int))<(↑u1.length:Int))
 (Eg (IntKind.i64.wrap (IntKind.i64.wrap ((10:Int)*t5)+t6)) (IntKind.i64.wrap
 (IntKind.u8.wrap
 ((↑(u1.getD (IntKind.i64.wrap (IntKind.i64.wrap (u0+(1:Int)) - (1:Int))).toNat 0).toNat:
 Int) -
 (48:Int)))) (IntKind.i64.wrap (u0+(1:Int))) u1 K)))))))
 (K (.exit 0) ⟨[(5,Ai t5)],[]⟩))):Eg t5 t6 u0 u1 K:=Bo (Aw E0 Cw) (Bd Cw) 3 7 (A8 7 ac_digits_Fixed) [4,5,6] _ K rfl (kr (by kernel_rfl) h)
theorem Aks(t5:Int)(K:KK)(h:
 (K .ret ⟨[(2,Ai t5),(3,Ai 0)],[]⟩)):Ad2 t5 K:=A9 (Aw E0 Cw) (Bd Cw) 3 15 (Af 15 ac_digits_Fixed) [] _ K rfl (kr (by kernel_rfl) h)
theorem Aar(Q:QQ)(t2 t3:Int)(h:
 (Q (.tup [Ai t2,Ai t3]) [])):X3 Q .ret ⟨[(2,Ai t2),(3,Ai t3)],[]⟩:=kr (by kernel_rfl) h
theorem Aap(Q:QQ)(t2 t3:Int)(h:
 (Q (.tup [Ai t2,Ai t3]) [])):Rf Q .ret ⟨[(2,Ai t2),(3,Ai t3)],[]⟩:=kr (by kernel_rfl) h
theorem Al1(Q:QQ)(t0:LB)(h:
 (Afz t0 (X3 Q))):Rf Q .normal ⟨[(0,As t0)],[]⟩:=kr (by kernel_rfl) h
theorem Alt(K:KK)(t2 t3:Int)(h:
 (K .ret ⟨[(2,Ai t2),(3,Ai t3)],[]⟩)):X4 K .ret ⟨[(2,Ai t2),(3,Ai t3)],[]⟩:=kr (by kernel_rfl) h
theorem Als(K:KK)(t2 t3:Int)(h:
 (K .ret ⟨[(2,Ai t2),(3,Ai t3)],[]⟩)):J4 K .ret ⟨[(2,Ai t2),(3,Ai t3)],[]⟩:=kr (by kernel_rfl) h
theorem Al9(K:KK)(t5:Int)(h:
 (Ad2 t5 (X4 K))):J4 K (.exit 0) ⟨[(5,Ai t5)],[]⟩:=kr (by kernel_rfl) h
theorem Aua:Ca E0.P 90 ac_digits_Fixed.code Cw [.tmp 2, .tmp 3]:=Bl _ _ Tryz.f90 [(1,[0,15],[0]),(3,[0],[]),(7,[4,5,6],[]),(9,[5],[]),(15,[5],[])] [2,3] _ 31 Tryz.func90 (by kernel_rfl) (by kernel_rfl) (by kernel_rfl) (by kernel_rfl)
theorem Apm(a0:LB)(Q:QQ)(h:
 (Br ((a0 == []) == false)
 (Call E0.P Zc [As a0] [] fun r0 g0=>
 Ak (qP4 g0 r0)
 (Let (!decide (rI r0=(↑a0.length:Int))) fun x1=>
 Xp a0 x1 (Rf Q)))
 (Ak ((!false)=true)
 (Let (true) fun x2=>
 Xp a0 x2 (Rf Q))))):Call E0.P Yx [As a0] [] Q:=Be (Aw E0 Cw) (Bd Cw) 3 0 90 ac_digits_Fixed [.tmp 2, .tmp 3] Aua _ _ Q rfl rfl (kr (by kernel_rfl) h)
noncomputable def ac_digits_Count:AC:=(Bf [(2,[0,6],[]),(4,[0],[]),(9,[0],[])] [2] (codeOf Tryz.f99) 0).1
abbrev Fx:Nat:=17
def Q4(t0 h6s:LB)(h6p:Nat)(K:KK):Prop:=Bu 2 E0.P Fx (A8 2 ac_digits_Count).code ⟨[(0,As t0),(6, .ptr nL6 0)],[(nL6, .sit h6s h6p)]⟩ K
def Afx(t0:LB)(K:KK):Prop:=Av 9 E0.P Fx (Af 9 ac_digits_Count).code ⟨[(0,As t0)],[]⟩ K
def Ya(Q:QQ):KK:=kE fun st=>finish 0 E0.T [.tmp 2] [] Q st
def Xo(Q:QQ):KK:=kF 0 (fun st=>Av 9 E0.P Fx (Af 9 ac_digits_Count).code (mask [0] st) (Ya Q)) fun st=>finish 0 E0.T [.tmp 2] [] Q st
theorem Al6(t0 h6s:LB)(h6p:Nat)(K:KK)(h:
 (Br (decide (h6p<h6s.length))
 (Br (true)
 (Call E0.P Ox [.imm (.int .i32 ((↑(Gp h6s h6p).fst:Int)))] [] fun r0 g0=>
 Ak (Ob g0 r0)
 (Br (!rB r0)
 (K .ret ⟨[(2,Ai ((↑h6p:Int)))],[]⟩)
 (Q4 t0 h6s (h6p+(Gp h6s h6p).snd) K)))
 (K (.exit 0) ⟨[(0,As t0)],[]⟩))
 (Br (false)
 (False)
 (K (.exit 0) ⟨[(0,As t0)],[]⟩)))):Q4 t0 h6s h6p K:=Bo (Aw E0 Fx) (Bd Fx) 3 2 (A8 2 ac_digits_Count) [0,6] _ K rfl (kr (by kernel_rfl) h)
theorem Amd(t0:LB)(K:KK)(h:
 (K .ret ⟨[(2,Ai ((↑t0.length:Int)))],[]⟩)):Afx t0 K:=A9 (Aw E0 Fx) (Bd Fx) 3 9 (Af 9 ac_digits_Count) [] _ K rfl (kr (by kernel_rfl) h)
theorem Al7(Q:QQ)(t2:Int)(h:
 (Q (Ai t2) [])):Ya Q .ret ⟨[(2,Ai t2)],[]⟩:=kr (by kernel_rfl) h
theorem Al2(Q:QQ)(t2:Int)(h:
 (Q (Ai t2) [])):Xo Q .ret ⟨[(2,Ai t2)],[]⟩:=kr (by kernel_rfl) h
theorem Alq(Q:QQ)(t0:LB)(h:
 (Afx t0 (Ya Q))):Xo Q (.exit 0) ⟨[(0,As t0)],[]⟩:=kr (by kernel_rfl) h
theorem As3:Ca E0.P 99 ac_digits_Count.code Fx [.tmp 2]:=Bl _ _ Tryz.f99 [(2,[0,6],[]),(4,[0],[]),(9,[0],[])] [2] _ 17 Tryz.func99 (by kernel_rfl) (by kernel_rfl) (by kernel_rfl) (by kernel_rfl)
theorem Apk(a0:LB)(Q:QQ)(h:
 (Q4 a0 a0 0 (Xo Q))):Call E0.P Zc [As a0] [] Q:=Be (Aw E0 Fx) (Bd Fx) 3 0 99 ac_digits_Count [.tmp 2] As3 _ _ Q rfl rfl (kr (by kernel_rfl) h)
noncomputable def ac_digits_digit:AC:=(Bf [] [2] (codeOf Tryz.f108) 0).1
abbrev Y5:Nat:=9
theorem Atu:Ca E0.P 108 ac_digits_digit.code Y5 [.tmp 2]:=Bl _ _ Tryz.f108 [] [2] _ 9 Tryz.func108 (by kernel_rfl) (by kernel_rfl) (by kernel_rfl) (by kernel_rfl)
theorem Ap8(a0:Int)(Q:QQ)(h:
 (Let (bif decide ((48:Int)≤a0)then decide (a0≤(57:Int))else false) fun x0=>
 Q (Ab x0) [])):Call E0.P Ox [.imm (.int .i32 a0)] [] Q:=Be (Aw E0 Y5) (Bd Y5) 3 0 108 ac_digits_digit [.tmp 2] Atu _ _ Q rfl rfl (kr (by kernel_rfl) h)
end
end Go.Proofs.Sim.Se

import Derived.Test.YtcdjheflchglaaaGreatDoorSeatBase
set_option maxRecDepth 100000
set_option maxHeartbeats 4000000
namespace Go.Proofs.Sim.Se
open Go Go.Proofs Go.Proofs.Sim
noncomputable section
abbrev Kq(G:Heap)(R:AV):Prop:=G=[]∧R= .imm (.bool (rB R))
abbrev qP1(G:Heap)(R:AV):Prop:=G=[]∧R= .tup [.imm (IV.agg [.int .i64 (gI (Ac (rT R 0)) 0), .int .i64 (gI (Ac (rT R 0)) 1), .int .i64 (gI (Ac (rT R 0)) 2), .str (gS (Ac (rT R 0)) 3), .sl SK.any 6 (gR (Ac (rT R 0)) 4), .sl SK.any 7 (gR (Ac (rT R 0)) 5)]), .imm (.int .i64 (rI (rT R 1)))]
abbrev qP2(G:Heap)(R:AV):Prop:=G=[]∧R= .tup [.imm (IV.agg [.int .i64 (gI (Ac (rT R 0)) 0), .int .i64 (gI (Ac (rT R 0)) 1), .int .i64 (gI (Ac (rT R 0)) 2), .str (gS (Ac (rT R 0)) 3), .sl SK.any 6 (gR (Ac (rT R 0)) 4), .sl SK.any 7 (gR (Ac (rT R 0)) 5)]), .imm (.int .i64 (rI (rT R 1))), .imm (.int .i64 (rI (rT R 2)))]
abbrev qP3(G:Heap)(R:AV):Prop:=G=[]∧R= .imm (IV.agg [.int .i64 (gI (Ac R) 0), .int .i64 (gI (Ac R) 1), .int .i64 (gI (Ac R) 2), .str (gS (Ac R) 3), .sl SK.any 6 (gR (Ac R) 4), .sl SK.any 7 (gR (Ac R) 5)])
abbrev qP4(G:Heap)(R:AV):Prop:=G=[]∧R= .imm (.int .i64 (rI R))
abbrev qP5(G:Heap)(R:AV):Prop:=G=[(Nm.arg 0,Entry.blk 53 [.imm (.str (rS ((Au G Ad).getD 0 AV.undef))), .imm (.int .i64 (rI ((Au G Ad).getD 1 AV.undef))), .imm (.int .i64 (rI ((Au G Ad).getD 2 AV.undef)))])]∧R= .tup [.imm (IV.agg [.int .i64 (gI (Ac (rT R 0)) 0), .int .i64 (gI (Ac (rT R 0)) 1), .int .i64 (gI (Ac (rT R 0)) 2), .str (gS (Ac (rT R 0)) 3), .sl SK.any 6 (gR (Ac (rT R 0)) 4), .sl SK.any 7 (gR (Ac (rT R 0)) 5)]), .imm (.int .i64 (rI (rT R 1)))]
abbrev qP6(G:Heap)(R:AV):Prop:=G=[]∧R= .tup [.imm (IV.agg [.int .i64 (gI (Ac (rT R 0)) 0), .int .i64 (gI (Ac (rT R 0)) 1), .str (gS (Ac (rT R 0)) 2), .int .i64 (gI (Ac (rT R 0)) 3), .int .i64 (gI (Ac (rT R 0)) 4)]), .imm (.int .i64 (rI (rT R 1)))]
abbrev qP7(G:Heap)(R:AV):Prop:=G=[(Nm.arg 0,Entry.blk 53 [.imm (.str (rS ((Au G Ad).getD 0 AV.undef))), .imm (.int .i64 (rI ((Au G Ad).getD 1 AV.undef))), .imm (.int .i64 (rI ((Au G Ad).getD 2 AV.undef)))])]∧R= .tup [.imm (IV.agg [.int .i64 (gI (Ac (rT R 0)) 0), .int .i64 (gI (Ac (rT R 0)) 1), .str (gS (Ac (rT R 0)) 2), .int .i64 (gI (Ac (rT R 0)) 3), .int .i64 (gI (Ac (rT R 0)) 4)]), .imm (.int .i64 (rI (rT R 1)))]
abbrev qP8(G:Heap)(R:AV):Prop:=G=[(Nm.arg 0,Entry.blk 70 [.imm (.str (rS ((Au G Ad).getD 0 AV.undef))), .imm (.int .i64 (rI ((Au G Ad).getD 1 AV.undef))),AV.own Ar]),(Nm.arg 1,Entry.arr 7 true 1 (C8 G Ar))]∧R= .tup [.imm (IV.agg [.int .i64 (gI (Ac (rT R 0)) 0), .int .i64 (gI (Ac (rT R 0)) 1), .str (gS (Ac (rT R 0)) 2), .int .i64 (gI (Ac (rT R 0)) 3), .int .i64 (gI (Ac (rT R 0)) 4)]), .imm (.int .i64 (rI (rT R 1)))]
abbrev qP9(G:Heap)(R:AV):Prop:=G=[(Nm.arg 0,Entry.blk 70 [.imm (.str (rS ((Au G Ad).getD 0 AV.undef))), .imm (.int .i64 (rI ((Au G Ad).getD 1 AV.undef))),AV.own Ar])]∧R= .imm (.int .u8 (rI R))
noncomputable def ac_l18_ParseAgain:AC:=(Bf [] [2] (codeOf Tryz.f4) 0).1
abbrev Vy:Nat:=63
theorem Ao1:Bw E0.P 4 ac_l18_ParseAgain.code Vy [.tmp 2]:=Bn _ _ Tryz.f4 [] [2] _ 63 Tryz.func4 (by kernel_rfl) (by kernel_rfl) (by kernel_rfl) (by kernel_rfl)
theorem Aks(a0:LB)(Q:QQ)(h:
 (Br (decide ((1000:Int)<(↑a0.length:Int)))
 (Call E0.P Co [] [] fun r0 g0=>
 Am (Kq g0 r0)
 (Q (Ab (rB r0)) []))
 (Call E0.P J7 [As a0] [] fun r1 g1=>
 Am (qP1 g1 r1)
 (Br (!decide (rI (rT r1 1)=(0:Int)))
 (Call E0.P Dc [.imm (.agg [.int .i64 (gI (Ac (rT r1 0)) 0), .int .i64 (gI (Ac (rT r1 0)) 1), .int .i64 (gI (Ac (rT r1 0)) 2), .str (gS (Ac (rT r1 0)) 3), .sl .any 6 (gR (Ac (rT r1 0)) 4), .sl .any 7 (gR (Ac (rT r1 0)) 5)]), .imm (.agg [.int .i64 0, .int .i64 0, .int .i64 0, .str [], .sl .any 6 [], .sl .any 7 []])] [] fun r2 g2=>
 Am (Kq g2 r2)
 (Br (rB r2 == true)
 (Call E0.P Co [] [] fun r3 g3=>
 Am (Kq g3 r3)
 (Let (rB r3) fun x4=>
 Q (Ab x4) []))
 (Am ((!true)=false)
 (Let (false) fun x5=>
 Q (Ab x5) []))))
 (Call E0.P Acz [.imm (.agg [.int .i64 (gI (Ac (rT r1 0)) 0), .int .i64 (gI (Ac (rT r1 0)) 1), .int .i64 (gI (Ac (rT r1 0)) 2), .str (gS (Ac (rT r1 0)) 3), .sl .any 6 (gR (Ac (rT r1 0)) 4), .sl .any 7 (gR (Ac (rT r1 0)) 5)])] [] fun r6 g6=>
 Am (g6=[]∧r6= .tup [.imm (.str (rS (rT r6 0))), .imm (.int .i64 (rI (rT r6 1)))])
 (Am ((↑((10:Nat)+(rS (rT r6 (0:Nat))).length):Int)≤(9223372036854775807:Int))
 (Am ((↑(([(32:UInt8),37,32,97,32,110,111,116,
 101,10]++
 rS (rT r6 (0:Nat))).length+
 (1:Nat)):
 Int)≤
 (9223372036854775807:Int))
 (Call E0.P J7 [As ([(32:UInt8),37,32,97,32,110,111,116,
 101,10]++
 rS (rT r6 0)++
 [(32:UInt8)])] [] fun r7 g7=>
 Am (qP1 g7 r7)
 (Call E0.P U1 [.imm (.agg [.int .i64 (gI (Ac (rT r1 0)) 0), .int .i64 (gI (Ac (rT r1 0)) 1), .int .i64 (gI (Ac (rT r1 0)) 2), .str (gS (Ac (rT r1 0)) 3), .sl .any 6 (gR (Ac (rT r1 0)) 4), .sl .any 7 (gR (Ac (rT r1 0)) 5)]),Ab false] [] fun r8 g8=>
 Am (qP4 g8 r8)
 (Br (decide (rI r8=(0:Int)))
 (Call E0.P Gh [.imm (.agg [.int .i64 (gI (Ac (rT r1 0)) 0), .int .i64 (gI (Ac (rT r1 0)) 1), .int .i64 (gI (Ac (rT r1 0)) 2), .str (gS (Ac (rT r1 0)) 3), .sl .any 6 (gR (Ac (rT r1 0)) 4), .sl .any 7 (gR (Ac (rT r1 0)) 5)])] [] fun r9 g9=>
 Am (qP3 g9 r9)
 (Call E0.P Dc [.imm (.agg [.int .i64 (gI (Ac r9) 0), .int .i64 (gI (Ac r9) 1), .int .i64 (gI (Ac r9) 2), .str (gS (Ac r9) 3), .sl .any 6 (gR (Ac r9) 4), .sl .any 7 (gR (Ac r9) 5)]), .imm (.agg [.int .i64 (gI (Ac (rT r1 0)) 0), .int .i64 (gI (Ac (rT r1 0)) 1), .int .i64 (gI (Ac (rT r1 0)) 2), .str (gS (Ac (rT r1 0)) 3), .sl .any 6 (gR (Ac (rT r1 0)) 4), .sl .any 7 (gR (Ac (rT r1 0)) 5)])] [] fun r10 g10=>
 Am (Kq g10 r10)
 (Let (rB r10) fun x11=>
 Br (x11)
 (Let (decide (rI (rT r6 1)=(0:Int))) fun x12=>
 Br (x12)
 (Let (decide (rI (rT r7 1)=(0:Int))) fun x13=>
 Br (x13)
 (Call E0.P Dc [.imm (.agg [.int .i64 (gI (Ac (rT r1 0)) 0), .int .i64 (gI (Ac (rT r1 0)) 1), .int .i64 (gI (Ac (rT r1 0)) 2), .str (gS (Ac (rT r1 0)) 3), .sl .any 6 (gR (Ac (rT r1 0)) 4), .sl .any 7 (gR (Ac (rT r1 0)) 5)]), .imm (.agg [.int .i64 (gI (Ac (rT r7 0)) 0), .int .i64 (gI (Ac (rT r7 0)) 1), .int .i64 (gI (Ac (rT r7 0)) 2), .str (gS (Ac (rT r7 0)) 3), .sl .any 6 (gR (Ac (rT r7 0)) 4), .sl .any 7 (gR (Ac (rT r7 0)) 5)])] [] fun r14 g14=>
 Am (Kq g14 r14)
 (Let (rB r14) fun x15=>
 Br (x15)
 (Call E0.P Co [] [] fun r16 g16=>
 Am (Kq g16 r16)
 (Let (rB r16) fun x17=>
 Q (Ab x17) []))
 (Am (false=false)
 (Let (false) fun x18=>
 Q (Ab x18) []))))
 (Am (false=false)
 (Let (false) fun x19=>
 Br (x19)
 (Call E0.P Co [] [] fun r20 g20=>
 Am (Kq g20 r20)
 (Let (rB r20) fun x21=>
 Q (Ab x21) []))
 (Am (false=false)
 (Let (false) fun x22=>
 Q (Ab x22) [])))))
 (Am (false=false)
 (Let (false) fun x23=>
 Br (x23)
 (Call E0.P Dc [.imm (.agg [.int .i64 (gI (Ac (rT r1 0)) 0), .int .i64 (gI (Ac (rT r1 0)) 1), .int .i64 (gI (Ac (rT r1 0)) 2), .str (gS (Ac (rT r1 0)) 3), .sl .any 6 (gR (Ac (rT r1 0)) 4), .sl .any 7 (gR (Ac (rT r1 0)) 5)]), .imm (.agg [.int .i64 (gI (Ac (rT r7 0)) 0), .int .i64 (gI (Ac (rT r7 0)) 1), .int .i64 (gI (Ac (rT r7 0)) 2), .str (gS (Ac (rT r7 0)) 3), .sl .any 6 (gR (Ac (rT r7 0)) 4), .sl .any 7 (gR (Ac (rT r7 0)) 5)])] [] fun r24 g24=>
 Am (Kq g24 r24)
 (Let (rB r24) fun x25=>
 Br (x25)
 (Call E0.P Co [] [] fun r26 g26=>
 Am (Kq g26 r26)
 (Let (rB r26) fun x27=>
 Q (Ab x27) []))
 (Am (false=false)
 (Let (false) fun x28=>
 Q (Ab x28) []))))
 (Am (false=false)
 (Let (false) fun x29=>
 Br (x29)
 (Call E0.P Co [] [] fun r30 g30=>
 Am (Kq g30 r30)
 (Let (rB r30) fun x31=>
 Q (Ab x31) []))
 (Am (false=false)
 (Let (false) fun x32=>
 Q (Ab x32) [])))))))
 (Am (false=false)
 (Let (false) fun x33=>
 Br (x33)
 (Let (decide (rI (rT r7 1)=(0:Int))) fun x34=>
 Br (x34)
 (Call E0.P Dc [.imm (.agg [.int .i64 (gI (Ac (rT r1 0)) 0), .int .i64 (gI (Ac (rT r1 0)) 1), .int .i64 (gI (Ac (rT r1 0)) 2), .str (gS (Ac (rT r1 0)) 3), .sl .any 6 (gR (Ac (rT r1 0)) 4), .sl .any 7 (gR (Ac (rT r1 0)) 5)]), .imm (.agg [.int .i64 (gI (Ac (rT r7 0)) 0), .int .i64 (gI (Ac (rT r7 0)) 1), .int .i64 (gI (Ac (rT r7 0)) 2), .str (gS (Ac (rT r7 0)) 3), .sl .any 6 (gR (Ac (rT r7 0)) 4), .sl .any 7 (gR (Ac (rT r7 0)) 5)])] [] fun r35 g35=>
 Am (Kq g35 r35)
 (Let (rB r35) fun x36=>
 Br (x36)
 (Call E0.P Co [] [] fun r37 g37=>
 Am (Kq g37 r37)
 (Let (rB r37) fun x38=>
 Q (Ab x38) []))
 (Am (false=false)
 (Let (false) fun x39=>
 Q (Ab x39) []))))
 (Am (false=false)
 (Let (false) fun x40=>
 Br (x40)
 (Call E0.P Co [] [] fun r41 g41=>
 Am (Kq g41 r41)
 (Let (rB r41) fun x42=>
 Q (Ab x42) []))
 (Am (false=false)
 (Let (false) fun x43=>
 Q (Ab x43) [])))))
 (Am (false=false)
 (Let (false) fun x44=>
 Br (x44)
 (Call E0.P Dc [.imm (.agg [.int .i64 (gI (Ac (rT r1 0)) 0), .int .i64 (gI (Ac (rT r1 0)) 1), .int .i64 (gI (Ac (rT r1 0)) 2), .str (gS (Ac (rT r1 0)) 3), .sl .any 6 (gR (Ac (rT r1 0)) 4), .sl .any 7 (gR (Ac (rT r1 0)) 5)]), .imm (.agg [.int .i64 (gI (Ac (rT r7 0)) 0), .int .i64 (gI (Ac (rT r7 0)) 1), .int .i64 (gI (Ac (rT r7 0)) 2), .str (gS (Ac (rT r7 0)) 3), .sl .any 6 (gR (Ac (rT r7 0)) 4), .sl .any 7 (gR (Ac (rT r7 0)) 5)])] [] fun r45 g45=>
 Am (Kq g45 r45)
 (Let (rB r45) fun x46=>
 Br (x46)
 (Call E0.P Co [] [] fun r47 g47=>
 Am (Kq g47 r47)
 (Let (rB r47) fun x48=>
 Q (Ab x48) []))
 (Am (false=false)
 (Let (false) fun x49=>
 Q (Ab x49) []))))
 (Am (false=false)
 (Let (false) fun x50=>
 Br (x50)
 (Call E0.P Co [] [] fun r51 g51=>
 Am (Kq g51 r51)
 (Let (rB r51) fun x52=>
 Q (Ab x52) []))
 (Am (false=false)
 (Let (false) fun x53=>
 Q (Ab x53) [])))))))))))
 (Am (false=false)
 (Let (false) fun x54=>
 Br (x54)
 (Let (decide (rI (rT r6 1)=(0:Int))) fun x55=>
 Br (x55)
 (Let (decide (rI (rT r7 1)=(0:Int))) fun x56=>
 Br (x56)
 (Call E0.P Dc [.imm (.agg [.int .i64 (gI (Ac (rT r1 0)) 0), .int .i64 (gI (Ac (rT r1 0)) 1), .int .i64 (gI (Ac (rT r1 0)) 2), .str (gS (Ac (rT r1 0)) 3), .sl .any 6 (gR (Ac (rT r1 0)) 4), .sl .any 7 (gR (Ac (rT r1 0)) 5)]), .imm (.agg [.int .i64 (gI (Ac (rT r7 0)) 0), .int .i64 (gI (Ac (rT r7 0)) 1), .int .i64 (gI (Ac (rT r7 0)) 2), .str (gS (Ac (rT r7 0)) 3), .sl .any 6 (gR (Ac (rT r7 0)) 4), .sl .any 7 (gR (Ac (rT r7 0)) 5)])] [] fun r57 g57=>
 Am (Kq g57 r57)
 (Let (rB r57) fun x58=>
 Br (x58)
 (Call E0.P Co [] [] fun r59 g59=>
 Am (Kq g59 r59)
 (Let (rB r59) fun x60=>
 Q (Ab x60) []))
 (Am (false=false)
 (Let (false) fun x61=>
 Q (Ab x61) []))))
 (Am (false=false)
 (Let (false) fun x62=>
 Br (x62)
 (Call E0.P Co [] [] fun r63 g63=>
 Am (Kq g63 r63)
 (Let (rB r63) fun x64=>
 Q (Ab x64) []))
 (Am (false=false)
 (Let (false) fun x65=>
 Q (Ab x65) [])))))
 (Am (false=false)
 (Let (false) fun x66=>
 Br (x66)
 (Call E0.P Dc [.imm (.agg [.int .i64 (gI (Ac (rT r1 0)) 0), .int .i64 (gI (Ac (rT r1 0)) 1), .int .i64 (gI (Ac (rT r1 0)) 2), .str (gS (Ac (rT r1 0)) 3), .sl .any 6 (gR (Ac (rT r1 0)) 4), .sl .any 7 (gR (Ac (rT r1 0)) 5)]), .imm (.agg [.int .i64 (gI (Ac (rT r7 0)) 0), .int .i64 (gI (Ac (rT r7 0)) 1), .int .i64 (gI (Ac (rT r7 0)) 2), .str (gS (Ac (rT r7 0)) 3), .sl .any 6 (gR (Ac (rT r7 0)) 4), .sl .any 7 (gR (Ac (rT r7 0)) 5)])] [] fun r67 g67=>
 Am (Kq g67 r67)
 (Let (rB r67) fun x68=>
 Br (x68)
 (Call E0.P Co [] [] fun r69 g69=>
 Am (Kq g69 r69)
 (Let (rB r69) fun x70=>
 Q (Ab x70) []))
 (Am (false=false)
 (Let (false) fun x71=>
 Q (Ab x71) []))))
 (Am (false=false)
 (Let (false) fun x72=>
 Br (x72)
 (Call E0.P Co [] [] fun r73 g73=>
 Am (Kq g73 r73)
 (Let (rB r73) fun x74=>
 Q (Ab x74) []))
 (Am (false=false)
 (Let (false) fun x75=>
 Q (Ab x75) [])))))))
 (Am (false=false)
 (Let (false) fun x76=>
 Br (x76)
 (Let (decide (rI (rT r7 1)=(0:Int))) fun x77=>
 Br (x77)
 (Call E0.P Dc [.imm (.agg [.int .i64 (gI (Ac (rT r1 0)) 0), .int .i64 (gI (Ac (rT r1 0)) 1), .int .i64 (gI (Ac (rT r1 0)) 2), .str (gS (Ac (rT r1 0)) 3), .sl .any 6 (gR (Ac (rT r1 0)) 4), .sl .any 7 (gR (Ac (rT r1 0)) 5)]), .imm (.agg [.int .i64 (gI (Ac (rT r7 0)) 0), .int .i64 (gI (Ac (rT r7 0)) 1), .int .i64 (gI (Ac (rT r7 0)) 2), .str (gS (Ac (rT r7 0)) 3), .sl .any 6 (gR (Ac (rT r7 0)) 4), .sl .any 7 (gR (Ac (rT r7 0)) 5)])] [] fun r78 g78=>
 Am (Kq g78 r78)
 (Let (rB r78) fun x79=>
 Br (x79)
 (Call E0.P Co [] [] fun r80 g80=>
 Am (Kq g80 r80)
 (Let (rB r80) fun x81=>
 Q (Ab x81) []))
 (Am (false=false)
 (Let (false) fun x82=>
 Q (Ab x82) []))))
 (Am (false=false)
 (Let (false) fun x83=>
 Br (x83)
 (Call E0.P Co [] [] fun r84 g84=>
 Am (Kq g84 r84)
 (Let (rB r84) fun x85=>
 Q (Ab x85) []))
 (Am (false=false)
 (Let (false) fun x86=>
 Q (Ab x86) [])))))
 (Am (false=false)
 (Let (false) fun x87=>
 Br (x87)
 (Call E0.P Dc [.imm (.agg [.int .i64 (gI (Ac (rT r1 0)) 0), .int .i64 (gI (Ac (rT r1 0)) 1), .int .i64 (gI (Ac (rT r1 0)) 2), .str (gS (Ac (rT r1 0)) 3), .sl .any 6 (gR (Ac (rT r1 0)) 4), .sl .any 7 (gR (Ac (rT r1 0)) 5)]), .imm (.agg [.int .i64 (gI (Ac (rT r7 0)) 0), .int .i64 (gI (Ac (rT r7 0)) 1), .int .i64 (gI (Ac (rT r7 0)) 2), .str (gS (Ac (rT r7 0)) 3), .sl .any 6 (gR (Ac (rT r7 0)) 4), .sl .any 7 (gR (Ac (rT r7 0)) 5)])] [] fun r88 g88=>
 Am (Kq g88 r88)
 (Let (rB r88) fun x89=>
 Br (x89)
 (Call E0.P Co [] [] fun r90 g90=>
 Am (Kq g90 r90)
 (Let (rB r90) fun x91=>
 Q (Ab x91) []))
 (Am (false=false)
 (Let (false) fun x92=>
 Q (Ab x92) []))))
 (Am (false=false)
 (Let (false) fun x93=>
 Br (x93)
 (Call E0.P Co [] [] fun r94 g94=>
 Am (Kq g94 r94)
 (Let (rB r94) fun x95=>
 Q (Ab x95) []))
 (Am (false=false)
 (Let (false) fun x96=>
 Q (Ab x96) [])))))))))))))))))))):Call E0.P Ado [As a0] [] Q:=Bd (A7 E0 Vy) (Bb Vy) 3 0 4 ac_l18_ParseAgain [.tmp 2] Ao1 _ _ Q rfl rfl (kr (by kernel_rfl) h)
noncomputable def ac_l18_parsed:AC:=(Bf [] [0] (codeOf Tryz.f6) 0).1
abbrev Ac2:Nat:=58
theorem Avd:Bw E0.P 6 ac_l18_parsed.code Ac2 [.tmp 0]:=Bn _ _ Tryz.f6 [] [0] _ 58 Tryz.func6 (by kernel_rfl) (by kernel_rfl) (by kernel_rfl) (by kernel_rfl)
theorem Aqv(Q:QQ)(h:
 (Call E0.P J7 [.imm (.str [60,60,47,65,32,91,49,32,
 50,32,48,32,82,93,32,47,
 66,32,110,117,108,108,62,62])] [] fun r0 g0=>
 Am (qP1 g0 r0)
 (Call E0.P U0 [.imm (.str [120,32,49,50,32,93]),Ai 1] [] fun r1 g1=>
 Am (qP2 g1 r1)
 (Call E0.P J7 [.imm (.str [91,49])] [] fun r2 g2=>
 Am (qP1 g2 r2)
 (Call E0.P J7 [.imm (.str [49,32,49])] [] fun r3 g3=>
 Am (qP1 g3 r3)
 (Call E0.P Dc [.imm (.agg [.int .i64 (gI (Ac (rT r0 0)) 0), .int .i64 (gI (Ac (rT r0 0)) 1), .int .i64 (gI (Ac (rT r0 0)) 2), .str (gS (Ac (rT r0 0)) 3), .sl .any 6 (gR (Ac (rT r0 0)) 4), .sl .any 7 (gR (Ac (rT r0 0)) 5)]), .imm (.agg [.int .i64 6, .int .i64 0, .int .i64 0, .str [], .sl .any 6 [], .sl .any 7 [[IV.str [65], .int .i64 (5:Int), .int .i64 (0:Int), .int .i64 (0:Int),
 .str [],
 .sl SK.any 6
 [[IV.int .i64 (2:Int), .int .i64 (1:Int), .int .i64 (0:Int), .str [],
 .sl SK.any 6 [], .sl SK.any 7 []],
 [.int .i64 (7:Int), .int .i64 (2:Int), .int .i64 (0:Int), .str [],
 .sl SK.any 6 [], .sl SK.any 7 []]],
 .sl SK.any 7 []]]])] [] fun r4 g4=>
 Am (Kq g4 r4)
 (Let (bif rB r4 then decide (rI (rT r0 1)=(0:Int))else false) fun x5=>
 Let (bif x5 then decide (rI (rT r1 1)=(4:Int))else false) fun x6=>
 Let (bif x6 then decide (rI (rT r1 2)=(0:Int))else false) fun x7=>
 Let (bif x7 then decide (rI (rT r2 1)=(5:Int))else false) fun x8=>
 Let (bif x8 then decide (rI (rT r3 1)=(4:Int))else false) fun x9=>
 Q (Ab x9) []))))))):Call E0.P Co [] [] Q:=Bd (A7 E0 Ac2) (Bb Ac2) 3 0 6 ac_l18_parsed [.tmp 0] Avd _ _ Q rfl rfl (kr (by kernel_rfl) h)
noncomputable def ac_parse_Value:AC:=(Bf [] [4,5,6] (codeOf Tryz.f9) 0).1
abbrev Aa7:Nat:=31
theorem Ato:Bw E0.P 9 ac_parse_Value.code Aa7 [.cell 4 25, .tmp 5, .tmp 6]:=Bn _ _ Tryz.f9 [] [4,5,6] _ 31 Tryz.func9 (by kernel_rfl) (by kernel_rfl) (by kernel_rfl) (by kernel_rfl)
theorem Api(a0:LB)(a1:Int)(Q:QQ)(h:
 (Call E0.P Il [.ptr Ad 0] [(Ad, .blk Ao [As a0,Ai a1,Ai 0])] fun r0 g0=>
 Am (qP5 g0 r0)
 (Br (!decide (rI (rT r0 1)=(0:Int)))
 (Q (.tup [.imm (.agg [.int .i64 0, .int .i64 0, .int .i64 0, .str [], .sl .any 6 [], .sl .any 7 []]),Ai 0,Ai (rI (rT r0 1))]) [])
 (Call E0.P Gh [.imm (.agg [.int .i64 (gI (Ac (rT r0 0)) 0), .int .i64 (gI (Ac (rT r0 0)) 1), .int .i64 (gI (Ac (rT r0 0)) 2), .str (gS (Ac (rT r0 0)) 3), .sl .any 6 (gR (Ac (rT r0 0)) 4), .sl .any 7 (gR (Ac (rT r0 0)) 5)])] [] fun r1 g1=>
 Am (qP3 g1 r1)
 (Q (.tup [.imm (.agg [.int .i64 (gI (Ac r1) 0), .int .i64 (gI (Ac r1) 1), .int .i64 (gI (Ac r1) 2), .str (gS (Ac r1) 3), .sl .any 6 (gR (Ac r1) 4), .sl .any 7 (gR (Ac r1) 5)]), .imm (.int .i64 (rI ((Au g0 Ad).getD 1 AV.undef))),Ai 0]) []))))):Call E0.P U0 [As a0,Ai a1] [] Q:=Bd (A7 E0 Aa7) (Bb Aa7) 3 0 9 ac_parse_Value [.cell 4 25, .tmp 5, .tmp 6] Ato _ _ Q rfl rfl (kr (by kernel_rfl) h)
noncomputable def ac_parse_Whole:AC:=(Bf [] [2,3] (codeOf Tryz.f8) 0).1
abbrev Aa8:Nat:=41
theorem Atp:Bw E0.P 8 ac_parse_Whole.code Aa8 [.cell 2 25, .tmp 3]:=Bn _ _ Tryz.f8 [] [2,3] _ 41 Tryz.func8 (by kernel_rfl) (by kernel_rfl) (by kernel_rfl) (by kernel_rfl)
theorem Apj(a0:LB)(Q:QQ)(h:
 (Call E0.P U0 [As a0,Ai 0] [] fun r0 g0=>
 Am (qP2 g0 r0)
 (Br (!decide (rI (rT r0 2)=(0:Int)))
 (Q (.tup [.imm (.agg [.int .i64 0, .int .i64 0, .int .i64 0, .str [], .sl .any 6 [], .sl .any 7 []]),Ai (rI (rT r0 2))]) [])
 (Call E0.P Ru [As a0,Ai (rI (rT r0 1))] [] fun r1 g1=>
 Am (qP6 g1 r1)
 (Br (!decide (rI (rT r1 1)=(0:Int)))
 (Q (.tup [.imm (.agg [.int .i64 0, .int .i64 0, .int .i64 0, .str [], .sl .any 6 [], .sl .any 7 []]),Ai (rI (rT r1 1))]) [])
 (Br (!decide (gI (Ac (rT r1 0)) 0=(0:Int)))
 (Q (.tup [.imm (.agg [.int .i64 0, .int .i64 0, .int .i64 0, .str [], .sl .any 6 [], .sl .any 7 []]),Ai 4]) [])
 (Q (.tup [.imm (.agg [.int .i64 (gI (Ac (rT r0 0)) 0), .int .i64 (gI (Ac (rT r0 0)) 1), .int .i64 (gI (Ac (rT r0 0)) 2), .str (gS (Ac (rT r0 0)) 3), .sl .any 6 (gR (Ac (rT r0 0)) 4), .sl .any 7 (gR (Ac (rT r0 0)) 5)]),Ai 0]) []))))))):Call E0.P J7 [As a0] [] Q:=Bd (A7 E0 Aa8) (Bb Aa8) 3 0 8 ac_parse_Whole [.cell 2 25, .tmp 3] Atp _ _ Q rfl rfl (kr (by kernel_rfl) h)
noncomputable def ac_parse_reader_value:AC:=(Bf [] [2,3] (codeOf Tryz.f19) 0).1
abbrev P9:Nat:=70
theorem Aic:Bw E0.P 19 ac_parse_reader_value.code P9 [.cell 2 25, .tmp 3]:=Bn _ _ Tryz.f19 [] [2,3] _ 70 Tryz.func19 (by kernel_rfl) (by kernel_rfl) (by kernel_rfl) (by kernel_rfl)
theorem Aga(s:LB)(at_ win:Int)(Q:QQ)(h:
 (Call E0.P F9 [.ptr Ad 0] [(Ad, .blk Ao [As s,Ai at_,Ai win])] fun r0 g0=>
 Am (qP7 g0 r0)
 (Br (!decide (rI (rT r0 1)=(0:Int)))
 (Q (.tup [.imm (.agg [.int .i64 0, .int .i64 0, .int .i64 0, .str [], .sl .any 6 [], .sl .any 7 []]),Ai (rI (rT r0 1))]) [(Ad, .blk Ao [.imm (.str (rS ((Au g0 Ad).getD 0 AV.undef))), .imm (.int .i64 (rI ((Au g0 Ad).getD 1 AV.undef))), .imm (.int .i64 (rI ((Au g0 Ad).getD 2 AV.undef)))])])
 (Br (decide (gI (Ac (rT r0 0)) 0=(0:Int)))
 (Q (.tup [.imm (.agg [.int .i64 0, .int .i64 0, .int .i64 0, .str [], .sl .any 6 [], .sl .any 7 []]),Ai 5]) [(Ad, .blk Ao [.imm (.str (rS ((Au g0 Ad).getD 0 AV.undef))), .imm (.int .i64 (rI ((Au g0 Ad).getD 1 AV.undef))), .imm (.int .i64 (rI ((Au g0 Ad).getD 2 AV.undef)))])])
 (Br (decide (gI (Ac (rT r0 0)) 0=(1:Int)))
 (Call E0.P O3 [.ptr Ad 0,Ai (gI (Ac (rT r0 0)) 1)] [(Ad, .blk Ao [.imm (.str (rS ((Au g0 Ad).getD 0 AV.undef))), .imm (.int .i64 (rI ((Au g0 Ad).getD 1 AV.undef))), .imm (.int .i64 (rI ((Au g0 Ad).getD 2 AV.undef)))])] fun r1 g1=>
 Am (qP5 g1 r1)
 (Q (.tup [.imm (.agg [.int .i64 (gI (Ac (rT r1 0)) 0), .int .i64 (gI (Ac (rT r1 0)) 1), .int .i64 (gI (Ac (rT r1 0)) 2), .str (gS (Ac (rT r1 0)) 3), .sl .any 6 (gR (Ac (rT r1 0)) 4), .sl .any 7 (gR (Ac (rT r1 0)) 5)]),Ai (rI (rT r1 1))]) [(Ad, .blk Ao [.imm (.str (rS ((Au g1 Ad).getD 0 AV.undef))), .imm (.int .i64 (rI ((Au g1 Ad).getD 1 AV.undef))), .imm (.int .i64 (rI ((Au g1 Ad).getD 2 AV.undef)))])]))
 (Br (decide (gI (Ac (rT r0 0)) 0=(2:Int)))
 (Q (.tup [.imm (.agg [.int .i64 3, .int .i64 0, .int .i64 0, .str (gS (Ac (rT r0 0)) 2), .sl .any 6 [], .sl .any 7 []]),Ai 0]) [(Ad, .blk Ao [.imm (.str (rS ((Au g0 Ad).getD 0 AV.undef))), .imm (.int .i64 (rI ((Au g0 Ad).getD 1 AV.undef))), .imm (.int .i64 (rI ((Au g0 Ad).getD 2 AV.undef)))])])
 (Br (decide (gI (Ac (rT r0 0)) 0=(3:Int)))
 (Q (.tup [.imm (.agg [.int .i64 4, .int .i64 0, .int .i64 0, .str (gS (Ac (rT r0 0)) 2), .sl .any 6 [], .sl .any 7 []]),Ai 0]) [(Ad, .blk Ao [.imm (.str (rS ((Au g0 Ad).getD 0 AV.undef))), .imm (.int .i64 (rI ((Au g0 Ad).getD 1 AV.undef))), .imm (.int .i64 (rI ((Au g0 Ad).getD 2 AV.undef)))])])
 (Br (decide (gI (Ac (rT r0 0)) 0=(8:Int)))
 (Call E0.P Acx [As (gS (Ac (rT r0 0)) 2)] [] fun r2 g2=>
 Am (qP1 g2 r2)
 (Q (.tup [.imm (.agg [.int .i64 (gI (Ac (rT r2 0)) 0), .int .i64 (gI (Ac (rT r2 0)) 1), .int .i64 (gI (Ac (rT r2 0)) 2), .str (gS (Ac (rT r2 0)) 3), .sl .any 6 (gR (Ac (rT r2 0)) 4), .sl .any 7 (gR (Ac (rT r2 0)) 5)]),Ai (rI (rT r2 1))]) [(Ad, .blk Ao [.imm (.str (rS ((Au g0 Ad).getD 0 AV.undef))), .imm (.int .i64 (rI ((Au g0 Ad).getD 1 AV.undef))), .imm (.int .i64 (rI ((Au g0 Ad).getD 2 AV.undef)))])]))
 (Br (decide (gI (Ac (rT r0 0)) 0=(4:Int)))
 (Br (decide ((64:Int)≤rI ((Au g0 Ad).getD 2 AV.undef)))
 (Q (.tup [.imm (.agg [.int .i64 0, .int .i64 0, .int .i64 0, .str [], .sl .any 6 [], .sl .any 7 []]),Ai 9]) [(Ad, .blk Ao [.imm (.str (rS ((Au g0 Ad).getD 0 AV.undef))), .imm (.int .i64 (rI ((Au g0 Ad).getD 1 AV.undef))), .imm (.int .i64 (rI ((Au g0 Ad).getD 2 AV.undef)))])])
 (Call E0.P Q7 [.ptr Ad 0] [(Ad, .blk Ao [.imm (.str (rS ((Au g0 Ad).getD 0 AV.undef))), .imm (.int .i64 (rI ((Au g0 Ad).getD 1 AV.undef))), .imm (.int .i64 (IntKind.i64.wrap (rI ((Au g0 Ad).getD 2 AV.undef)+(1:Int))))])] fun r3 g3=>
 Am (qP5 g3 r3)
 (Q (.tup [.imm (.agg [.int .i64 (gI (Ac (rT r3 0)) 0), .int .i64 (gI (Ac (rT r3 0)) 1), .int .i64 (gI (Ac (rT r3 0)) 2), .str (gS (Ac (rT r3 0)) 3), .sl .any 6 (gR (Ac (rT r3 0)) 4), .sl .any 7 (gR (Ac (rT r3 0)) 5)]),Ai (rI (rT r3 1))]) [(Ad, .blk Ao [.imm (.str (rS ((Au g3 Ad).getD 0 AV.undef))), .imm (.int .i64 (rI ((Au g3 Ad).getD 1 AV.undef))), .imm (.int .i64 (IntKind.i64.wrap (rI ((Au g3 Ad).getD 2 AV.undef) - (1:Int))))])])))
 (Br (decide (gI (Ac (rT r0 0)) 0=(6:Int)))
 (Br (decide ((64:Int)≤rI ((Au g0 Ad).getD 2 AV.undef)))
 (Q (.tup [.imm (.agg [.int .i64 0, .int .i64 0, .int .i64 0, .str [], .sl .any 6 [], .sl .any 7 []]),Ai 9]) [(Ad, .blk Ao [.imm (.str (rS ((Au g0 Ad).getD 0 AV.undef))), .imm (.int .i64 (rI ((Au g0 Ad).getD 1 AV.undef))), .imm (.int .i64 (rI ((Au g0 Ad).getD 2 AV.undef)))])])
 (Call E0.P Q6 [.ptr Ad 0] [(Ad, .blk Ao [.imm (.str (rS ((Au g0 Ad).getD 0 AV.undef))), .imm (.int .i64 (rI ((Au g0 Ad).getD 1 AV.undef))), .imm (.int .i64 (IntKind.i64.wrap (rI ((Au g0 Ad).getD 2 AV.undef)+(1:Int))))])] fun r4 g4=>
 Am (qP5 g4 r4)
 (Q (.tup [.imm (.agg [.int .i64 (gI (Ac (rT r4 0)) 0), .int .i64 (gI (Ac (rT r4 0)) 1), .int .i64 (gI (Ac (rT r4 0)) 2), .str (gS (Ac (rT r4 0)) 3), .sl .any 6 (gR (Ac (rT r4 0)) 4), .sl .any 7 (gR (Ac (rT r4 0)) 5)]),Ai (rI (rT r4 1))]) [(Ad, .blk Ao [.imm (.str (rS ((Au g4 Ad).getD 0 AV.undef))), .imm (.int .i64 (rI ((Au g4 Ad).getD 1 AV.undef))), .imm (.int .i64 (IntKind.i64.wrap (rI ((Au g4 Ad).getD 2 AV.undef) - (1:Int))))])])))
 (Q (.tup [.imm (.agg [.int .i64 0, .int .i64 0, .int .i64 0, .str [], .sl .any 6 [], .sl .any 7 []]),Ai 4]) [(Ad, .blk Ao [.imm (.str (rS ((Au g0 Ad).getD 0 AV.undef))), .imm (.int .i64 (rI ((Au g0 Ad).getD 1 AV.undef))), .imm (.int .i64 (rI ((Au g0 Ad).getD 2 AV.undef)))])]))))))))))):Call E0.P Il [.ptr (.arg 0) 0] [(.arg 0, .blk Ao [.imm (.str s), .imm (.int .i64 at_), .imm (.int .i64 win)])] Q:=Bd (A7 E0 P9) (Bb P9) 3 0 19 ac_parse_reader_value [.cell 2 25, .tmp 3] Aic _ _ Q rfl rfl (kr (by kernel_rfl) h)
noncomputable def ac_token_Next:AC:=(Bf [] [4,5] (codeOf Tryz.f18) 0).1
abbrev Ac5:Nat:=42
theorem Avi:Bw E0.P 18 ac_token_Next.code Ac5 [.cell 4 46, .tmp 5]:=Bn _ _ Tryz.f18 [] [4,5] _ 42 Tryz.func18 (by kernel_rfl) (by kernel_rfl) (by kernel_rfl) (by kernel_rfl)
theorem Aq0(a0:LB)(a1:Int)(Q:QQ)(h:
 (Call E0.P Acy [As a0,Ai a1] [] fun r0 g0=>
 Am (qP4 g0 r0)
 (Br (decide (rI r0=(↑a0.length:Int)))
 (Q (.tup [.imm (.agg [.int .i64 0, .int .i64 0, .str [], .int .i64 (rI r0), .int .i64 (rI r0)]),Ai 0]) [])
 (Call E0.P O4 [.ptr Ad 0] [(Ad, .blk Aa [As a0,Ai (rI r0), .own Ar]),(Ar, .arr (Ak+2) true 1 [])] fun r1 g1=>
 Am (qP8 g1 r1)
 (Br (!decide (rI (rT r1 1)=(0:Int)))
 (Q (.tup [.imm (.agg [.int .i64 0, .int .i64 0, .str [], .int .i64 0, .int .i64 0]),Ai (rI (rT r1 1))]) [])
 (Q (.tup [.imm (.agg [.int .i64 (gI (Ac (rT r1 0)) 0), .int .i64 (gI (Ac (rT r1 0)) 1), .str (gS (Ac (rT r1 0)) 2), .int .i64 (rI r0), .int .i64 (rI ((Au g1 Ad).getD 1 AV.undef))]),Ai 0]) [])))))):Call E0.P Ru [As a0,Ai a1] [] Q:=Bd (A7 E0 Ac5) (Bb Ac5) 3 0 18 ac_token_Next [.cell 4 46, .tmp 5] Avi _ _ Q rfl rfl (kr (by kernel_rfl) h)
noncomputable def ac_parse_cursor_take:AC:=(Bf [(3,[2,4,5],[])] [2,3] (codeOf Tryz.f32) 0).1
abbrev Hl:Nat:=20
def Kr(t5 u0 u1:Int)(u2:LB)(u3 u4:Int)(u5 u6:Int)(u7:LB)(u8 u9:Int)(v0:LB)(v1 v2:Int)(K:KK):Prop:=Ay 3 E0.P Hl (Ag 3 ac_parse_cursor_take).code ⟨[(2, .ptr nL2 0),(4, .ptr nL4 0),(5,Ai t5)],[(nL2, .blk Ap [Ai u0,Ai u1,As u2,Ai u3,Ai u4]),(nL4, .blk Ap [Ai u5,Ai u6,As u7,Ai u8,Ai u9]),(Ad, .blk Ao [As v0,Ai v1,Ai v2])]⟩ K
def Kv(s:LB)(at_ win:Int)(Q:QQ):KK:=kE fun st=>finish 0 E0.T [.cell 2 46, .tmp 3] [(Ad, .blk Ao [As s,Ai at_,Ai win])] Q st
theorem Aex(t5 u0 u1:Int)(u2:LB)(u3 u4:Int)(u5 u6:Int)(u7:LB)(u8 u9:Int)(v0:LB)(v1 v2:Int)(K:KK)(h:
 (K .ret ⟨[(2, .ptr nL2 0),(3,Ai t5)],[(nL2, .blk Ap [Ai u5,Ai u6,As u7,Ai u8,Ai u9]),(Ad, .blk Ao [As v0,Ai v1,Ai v2])]⟩)):Kr t5 u0 u1 u2 u3 u4 u5 u6 u7 u8 u9 v0 v1 v2 K:=Ba (A7 E0 Hl) (Bb Hl) 3 3 (Ag 3 ac_parse_cursor_take) [] _ K rfl (kr (by kernel_rfl) h)
theorem Ae6(s:LB)(at_ win:Int)(Q:QQ)(t3 u0 u1:Int)(u2:LB)(u3 u4:Int)(u5:LB)(u6 u7:Int)(h:
 (Q (.tup [.imm (.agg [.int .i64 u0, .int .i64 u1, .str u2, .int .i64 u3, .int .i64 u4]),Ai t3]) [(Ad, .blk Ao [As u5,Ai u6,Ai u7])])):Kv s at_ win Q .ret ⟨[(2, .ptr nL2 0),(3,Ai t3)],[(nL2, .blk Ap [Ai u0,Ai u1,As u2,Ai u3,Ai u4]),(Ad, .blk Ao [As u5,Ai u6,Ai u7])]⟩:=kr (by kernel_rfl) h
theorem Ajq:Bw E0.P 32 ac_parse_cursor_take.code Hl [.cell 2 46, .tmp 3]:=Bn _ _ Tryz.f32 [(3,[2,4,5],[])] [2,3] _ 20 Tryz.func32 (by kernel_rfl) (by kernel_rfl) (by kernel_rfl) (by kernel_rfl)
theorem Ag3(s:LB)(at_ win:Int)(Q:QQ)(h:
 (Call E0.P Ru [As s,Ai at_] [] fun r0 g0=>
 Am (qP6 g0 r0)
 (Br (decide (rI (rT r0 1)=(0:Int)))
 (Kr (rI (rT r0 1)) ((0:Int)) ((0:Int)) [] ((0:Int)) ((0:Int)) (gI (Ac (rT r0 0)) 0) (gI (Ac (rT r0 0)) 1) (gS (Ac (rT r0 0)) 2) (gI (Ac (rT r0 0)) 3) (gI (Ac (rT r0 0)) 4) s (gI (Ac (rT r0 0)) 4) win (Kv s at_ win Q))
 (Kr (rI (rT r0 1)) ((0:Int)) ((0:Int)) [] ((0:Int)) ((0:Int)) (gI (Ac (rT r0 0)) 0) (gI (Ac (rT r0 0)) 1) (gS (Ac (rT r0 0)) 2) (gI (Ac (rT r0 0)) 3) (gI (Ac (rT r0 0)) 4) s at_ win (Kv s at_ win Q))))):Call E0.P F9 [.ptr (.arg 0) 0] [(.arg 0, .blk Ao [.imm (.str s), .imm (.int .i64 at_), .imm (.int .i64 win)])] Q:=Bd (A7 E0 Hl) (Bb Hl) 3 0 32 ac_parse_cursor_take [.cell 2 46, .tmp 3] Ajq _ _ Q rfl rfl (kr (by kernel_rfl) h)
noncomputable def ac_parse_reader_number:AC:=(Bf [] [4,5] (codeOf Tryz.f33) 0).1
abbrev O5:Nat:=39
theorem Ahh:Bw E0.P 33 ac_parse_reader_number.code O5 [.cell 4 25, .tmp 5]:=Bn _ _ Tryz.f33 [] [4,5] _ 39 Tryz.func33 (by kernel_rfl) (by kernel_rfl) (by kernel_rfl) (by kernel_rfl)
theorem Tn(s:LB)(at_ win a1:Int)(Q:QQ)(h:
 (Call E0.P Lv [.ptr Ad 0] [(Ad, .blk Ao [As s,Ai at_,Ai win])] fun r0 g0=>
 Am (g0=
 [(Nm.arg 0,
 Entry.blk 53
 [.imm (.str (rS ((Au g0 Ad).getD 0 AV.undef))),
 .imm (.int .i64 (rI ((Au g0 Ad).getD 1 AV.undef))),
 .imm (.int .i64 (rI ((Au g0 Ad).getD 2 AV.undef)))])]∧
 r0= .tup [.imm (.int .i64 (rI (rT r0 0))), .imm (.bool (rB (rT r0 1)))])
 (Br (!rB (rT r0 1))
 (Q (.tup [.imm (.agg [.int .i64 2, .int .i64 a1, .int .i64 0, .str [], .sl .any 6 [], .sl .any 7 []]),Ai 0]) [(Ad, .blk Ao [.imm (.str (rS ((Au g0 Ad).getD 0 AV.undef))), .imm (.int .i64 (rI ((Au g0 Ad).getD 1 AV.undef))), .imm (.int .i64 (rI ((Au g0 Ad).getD 2 AV.undef)))])])
 (Let (bif decide (a1<(1:Int))then true else decide ((8388607:Int)<a1)) fun x1=>
 Let (bif x1 then true else decide (rI (rT r0 0)<(0:Int))) fun x2=>
 Let (bif x2 then true else decide ((65535:Int)<rI (rT r0 0))) fun x3=>
 Br (x3)
 (Q (.tup [.imm (.agg [.int .i64 0, .int .i64 0, .int .i64 0, .str [], .sl .any 6 [], .sl .any 7 []]),Ai 3]) [(Ad, .blk Ao [.imm (.str (rS ((Au g0 Ad).getD 0 AV.undef))), .imm (.int .i64 (rI ((Au g0 Ad).getD 1 AV.undef))), .imm (.int .i64 (rI ((Au g0 Ad).getD 2 AV.undef)))])])
 (Q (.tup [.imm (.agg [.int .i64 7, .int .i64 a1, .int .i64 (rI (rT r0 0)), .str [], .sl .any 6 [], .sl .any 7 []]),Ai 0]) [(Ad, .blk Ao [.imm (.str (rS ((Au g0 Ad).getD 0 AV.undef))), .imm (.int .i64 (rI ((Au g0 Ad).getD 1 AV.undef))), .imm (.int .i64 (rI ((Au g0 Ad).getD 2 AV.undef)))])]))))):Call E0.P O3 [.ptr (.arg 0) 0,Ai a1] [(.arg 0, .blk Ao [.imm (.str s), .imm (.int .i64 at_), .imm (.int .i64 win)])] Q:=Bd (A7 E0 O5) (Bb O5) 3 0 33 ac_parse_reader_number [.cell 4 25, .tmp 5] Ahh _ _ Q rfl rfl (kr (by kernel_rfl) h)
noncomputable def ac_parse_word:AC:=(Bf [] [2,3] (codeOf Tryz.f34) 0).1
abbrev Ac4:Nat:=17
theorem Avh:Bw E0.P 34 ac_parse_word.code Ac4 [.cell 2 25, .tmp 3]:=Bn _ _ Tryz.f34 [] [2,3] _ 17 Tryz.func34 (by kernel_rfl) (by kernel_rfl) (by kernel_rfl) (by kernel_rfl)
theorem Aqz(a0:LB)(Q:QQ)(h:
 (Br (a0 == [(116:UInt8),114,117,101])
 (Q (.tup [.imm (.agg [.int .i64 1, .int .i64 1, .int .i64 0, .str [], .sl .any 6 [], .sl .any 7 []]),Ai 0]) [])
 (Br (a0 == [(102:UInt8),97,108,115,101])
 (Q (.tup [.imm (.agg [.int .i64 1, .int .i64 0, .int .i64 0, .str [], .sl .any 6 [], .sl .any 7 []]),Ai 0]) [])
 (Br (a0 == [(110:UInt8),117,108,108])
 (Q (.tup [.imm (.agg [.int .i64 0, .int .i64 0, .int .i64 0, .str [], .sl .any 6 [], .sl .any 7 []]),Ai 0]) [])
 (Q (.tup [.imm (.agg [.int .i64 0, .int .i64 0, .int .i64 0, .str [], .sl .any 6 [], .sl .any 7 []]),Ai 4]) []))))):Call E0.P Acx [As a0] [] Q:=Bd (A7 E0 Ac4) (Bb Ac4) 3 0 34 ac_parse_word [.cell 2 25, .tmp 3] Avh _ _ Q rfl rfl (kr (by kernel_rfl) h)
noncomputable def ac_parse_reader_list:AC:=(Bf [(1,[0,2,4],[]),(4,[0,2,4],[]),(10,[2,4],[]),(16,[2,4],[])] [2,3] (codeOf Tryz.f36) 0).1
abbrev Cr:Nat:=49
def Ih(u0:LB)(u1 u2:Int)(u3 u4 u5:Int)(u6:LB)(u7 u8 u9:Int)(v0:LB)(v1 v2:LL)(v3 v4:LL)(K:KK):Prop:=Cc 4 E0.P Cr (A9 4 ac_parse_reader_list).code ⟨[(0, .ptr Ad 0),(2, .ptr nL2 0),(4, .ptr nL4 0)],[(Ad, .blk Ao [As u0,Ai u1,Ai u2]),(nL2, .blk Ae [Ai u3,Ai u4,Ai u5,As u6, .own (nL2.cell 4), .own (nL2.cell 5)]),(nL4, .blk Ae [Ai u7,Ai u8,Ai u9,As v0, .own (nL4.cell 4), .own (nL4.cell 5)]),((nL2.cell 4), .arr (Ae+2) true 6 v1),((nL2.cell 5), .arr (Aq+2) true 7 v2),((nL4.cell 4), .arr (Ae+2) true 6 v3),((nL4.cell 5), .arr (Aq+2) true 7 v4)]⟩ K
def V3(u0 u1 u2:Int)(u3:LB)(u4 u5 u6:Int)(u7 u8:LB)(u9 v0:Int)(v1 v2:LL)(v3 v4:LL)(K:KK):Prop:=Ay 16 E0.P Cr (Ag 16 ac_parse_reader_list).code ⟨[(2, .ptr nL2 0),(4, .ptr nL4 0)],[(nL2, .blk Ae [Ai u0,Ai u1,Ai u2,As u3, .own (nL2.cell 4), .own (nL2.cell 5)]),(nL4, .blk Ae [Ai u4,Ai u5,Ai u6,As u7, .own (nL4.cell 4), .own (nL4.cell 5)]),(Ad, .blk Ao [As u8,Ai u9,Ai v0]),((nL2.cell 4), .arr (Ae+2) true 6 v1),((nL2.cell 5), .arr (Aq+2) true 7 v2),((nL4.cell 4), .arr (Ae+2) true 6 v3),((nL4.cell 5), .arr (Aq+2) true 7 v4)]⟩ K
def Yb(s:LB)(at_ win:Int)(Q:QQ):KK:=kE fun st=>finish 0 E0.T [.cell 2 25, .tmp 3] [(Ad, .blk Ao [As s,Ai at_,Ai win])] Q st
def Kz(s:LB)(at_ win:Int)(Q:QQ):Ex→St→Prop
 | .normal,st=>finish 0 E0.T [.cell 2 25, .tmp 3] [(Ad, .blk Ao [As s,Ai at_,Ai win])] Q st
 | .exit _,_=>False
 | .goto i,st=>Jg 1 E0.P Cr i (Ke 1 ac_parse_reader_list).code (mask [0,2,4] st) (Yb s at_ win Q)
 | .ret,st=>finish 0 E0.T [.cell 2 25, .tmp 3] [(Ad, .blk Ao [As s,Ai at_,Ai win])] Q st
def Ie(s:LB)(at_ win:Int)(Q:QQ):Ex→St→Prop
 | .normal,st=>Ay 16 E0.P Cr (Ag 16 ac_parse_reader_list).code (mask [2,4] st) (Kz s at_ win Q)
 | .exit i,st=>(match (i.beq 0:Bool)with
 |true=>Ay 16 E0.P Cr (Ag 16 ac_parse_reader_list).code (mask [2,4] st) (Kz s at_ win Q)
 |false=>False)
 | .goto i,st=>Jg 1 E0.P Cr i (Ke 1 ac_parse_reader_list).code (mask [0,2,4] st) (Yb s at_ win Q)
 | .ret,st=>finish 0 E0.T [.cell 2 25, .tmp 3] [(Ad, .blk Ao [As s,Ai at_,Ai win])] Q st
theorem Afl(u0:LB)(u1 u2:Int)(u3 u4 u5:Int)(u6:LB)(u7 u8 u9:Int)(v0:LB)(v1 v2:LL)(v3 v4:LL)(K:KK)(h:
 (Call E0.P Ru [As u0,Ai u1] [] fun r0 g0=>
 Am (qP6 g0 r0)
 (Br (!decide (rI (rT r0 1)=(0:Int)))
 (K .ret ⟨[(2, .ptr nL2 0),(3,Ai (rI (rT r0 1)))],[(nL2, .blk Ae [Ai 0,Ai 0,Ai 0, .imm (.str []), .own (Nm.sub 20 (nL2.cell 4)), .own (Nm.sub 20 (nL2.cell 5))]),(Ad, .blk Ao [As u0,Ai u1,Ai u2]),((Nm.sub 20 (nL2.cell 4)), .arr (Ae+2) true 6 []),((Nm.sub 20 (nL2.cell 5)), .arr (Aq+2) true 7 [])]⟩)
 (Br (decide (gI (Ac (rT r0 0)) 0=(5:Int)))
 (Call E0.P F9 [.ptr Ad 0] [(Ad, .blk Ao [As u0,Ai u1,Ai u2])] fun r1 g1=>
 Am (qP7 g1 r1)
 (K (.exit 0) ⟨[(2, .ptr nL2 0),(4, .ptr nL4 0)],[(nL2, .blk Ae [Ai u3,Ai u4,Ai u5,As u6, .own (nL2.cell 4), .own (nL2.cell 5)]),(nL4, .blk Ae [Ai u7,Ai u8,Ai u9,As v0, .own (nL4.cell 4), .own (nL4.cell 5)]),(Ad, .blk Ao [.imm (.str (rS ((Au g1 Ad).getD 0 AV.undef))), .imm (.int .i64 (rI ((Au g1 Ad).getD 1 AV.undef))), .imm (.int .i64 (rI ((Au g1 Ad).getD 2 AV.undef)))]),((nL2.cell 4), .arr (Ae+2) true 6 v1),((nL2.cell 5), .arr (Aq+2) true 7 v2),((nL4.cell 4), .arr (Ae+2) true 6 v3),((nL4.cell 5), .arr (Aq+2) true 7 v4)]⟩))
 (Call E0.P Il [.ptr Ad 0] [(Ad, .blk Ao [As u0,Ai u1,Ai u2])] fun r2 g2=>
 Am (qP5 g2 r2)
 (Br (!decide (rI (rT r2 1)=(0:Int)))
 (K .ret ⟨[(2, .ptr nL2 0),(3,Ai (rI (rT r2 1)))],[(nL2, .blk Ae [Ai 0,Ai 0,Ai 0, .imm (.str []), .own (Nm.sub 39 (nL2.cell 4)), .own (Nm.sub 39 (nL2.cell 5))]),(Ad, .blk Ao [.imm (.str (rS ((Au g2 Ad).getD 0 AV.undef))), .imm (.int .i64 (rI ((Au g2 Ad).getD 1 AV.undef))), .imm (.int .i64 (rI ((Au g2 Ad).getD 2 AV.undef)))]),((Nm.sub 39 (nL2.cell 4)), .arr (Ae+2) true 6 []),((Nm.sub 39 (nL2.cell 5)), .arr (Aq+2) true 7 [])]⟩)
 (Am ((v3.length+1)*88≤140737488355328∧v3.length+1≤140737488355328)
 (Ih (rS ((Au g2 Ad).getD 0 AV.undef)) (rI ((Au g2 Ad).getD 1 AV.undef)) (rI ((Au g2 Ad).getD 2 AV.undef)) u3 u4 u5 u6 u7 u8 u9 v0 v1 v2 (v3++
 [[IV.int .i64 (gI (Ac (rT r2 0)) 0),
 .int .i64 (gI (Ac (rT r2 0)) 1),
 .int .i64 (gI (Ac (rT r2 0)) 2), .str (gS (Ac (rT r2 0)) 3),
 .sl SK.any 6 (gR (Ac (rT r2 0)) 4),
 .sl SK.any 7 (gR (Ac (rT r2 0)) 5)]]) v4 K)))))))):Ih u0 u1 u2 u3 u4 u5 u6 u7 u8 u9 v0 v1 v2 v3 v4 K:=Ca (A7 E0 Cr) (Bb Cr) 3 4 (A9 4 ac_parse_reader_list) [0,2,4] _ K rfl (kr (by kernel_rfl) h)
theorem Adp(u0 u1 u2:Int)(u3:LB)(u4 u5 u6:Int)(u7 u8:LB)(u9 v0:Int)(v1 v2:LL)(v3 v4:LL)(K:KK)(h:
 (K .ret ⟨[(2, .ptr nL2 0),(3,Ai 0)],[(nL2, .blk Ae [Ai u4,Ai u5,Ai u6,As u7, .own (nL4.cell 4), .own (nL4.cell 5)]),(Ad, .blk Ao [As u8,Ai u9,Ai v0]),((nL4.cell 4), .arr (Ae+2) true 6 v3),((nL4.cell 5), .arr (Aq+2) true 7 v4)]⟩)):V3 u0 u1 u2 u3 u4 u5 u6 u7 u8 u9 v0 v1 v2 v3 v4 K:=Ba (A7 E0 Cr) (Bb Cr) 3 16 (Ag 16 ac_parse_reader_list) [] _ K rfl (kr (by kernel_rfl) h)
theorem Afb(s:LB)(at_ win:Int)(Q:QQ)(t3 u0:Int)(u1 u2:Int)(u3 u4:LB)(u5 u6:Int)(u7 u8:LL)(h:
 (Q (.tup [.imm (.agg [.int .i64 u0, .int .i64 u1, .int .i64 u2, .str u3, .sl .any 6 u7, .sl .any 7 u8]),Ai t3]) [(Ad, .blk Ao [As u4,Ai u5,Ai u6])])):Kz s at_ win Q .ret ⟨[(2, .ptr nL2 0),(3,Ai t3)],[(nL2, .blk Ae [Ai u0,Ai u1,Ai u2,As u3, .own (nL4.cell 4), .own (nL4.cell 5)]),(Ad, .blk Ao [As u4,Ai u5,Ai u6]),((nL4.cell 4), .arr (Ae+2) true 6 u7),((nL4.cell 5), .arr (Aq+2) true 7 u8)]⟩:=kr (by kernel_rfl) h
theorem Afc(s:LB)(at_ win:Int)(Q:QQ)(t3 u0:Int)(u1 u2:Int)(u3 u4:LB)(u5 u6:Int)(u7 u8:LL)(h:
 (Q (.tup [.imm (.agg [.int .i64 u0, .int .i64 u1, .int .i64 u2, .str u3, .sl .any 6 u7, .sl .any 7 u8]),Ai t3]) [(Ad, .blk Ao [As u4,Ai u5,Ai u6])])):Ie s at_ win Q .ret ⟨[(2, .ptr nL2 0),(3,Ai t3)],[(nL2, .blk Ae [Ai u0,Ai u1,Ai u2,As u3, .own (Nm.sub 20 (nL2.cell 4)), .own (Nm.sub 20 (nL2.cell 5))]),(Ad, .blk Ao [As u4,Ai u5,Ai u6]),((Nm.sub 20 (nL2.cell 4)), .arr (Ae+2) true 6 u7),((Nm.sub 20 (nL2.cell 5)), .arr (Aq+2) true 7 u8)]⟩:=kr (by kernel_rfl) h
theorem Afd(s:LB)(at_ win:Int)(Q:QQ)(u0 u1 u2:Int)(u3:LB)(u4 u5 u6:Int)(u7 u8:LB)(u9 v0:Int)(v1 v2:LL)(v3 v4:LL)(h:
 (V3 u0 u1 u2 u3 u4 u5 u6 u7 u8 u9 v0 v1 v2 v3 v4 (Kz s at_ win Q))):Ie s at_ win Q (.exit 0) ⟨[(2, .ptr nL2 0),(4, .ptr nL4 0)],[(nL2, .blk Ae [Ai u0,Ai u1,Ai u2,As u3, .own (nL2.cell 4), .own (nL2.cell 5)]),(nL4, .blk Ae [Ai u4,Ai u5,Ai u6,As u7, .own (nL4.cell 4), .own (nL4.cell 5)]),(Ad, .blk Ao [As u8,Ai u9,Ai v0]),((nL2.cell 4), .arr (Ae+2) true 6 v1),((nL2.cell 5), .arr (Aq+2) true 7 v2),((nL4.cell 4), .arr (Ae+2) true 6 v3),((nL4.cell 5), .arr (Aq+2) true 7 v4)]⟩:=kr (by kernel_rfl) h
theorem Afe(s:LB)(at_ win:Int)(Q:QQ)(t3 u0:Int)(u1 u2:Int)(u3 u4:LB)(u5 u6:Int)(u7 u8:LL)(h:
 (Q (.tup [.imm (.agg [.int .i64 u0, .int .i64 u1, .int .i64 u2, .str u3, .sl .any 6 u7, .sl .any 7 u8]),Ai t3]) [(Ad, .blk Ao [As u4,Ai u5,Ai u6])])):Ie s at_ win Q .ret ⟨[(2, .ptr nL2 0),(3,Ai t3)],[(nL2, .blk Ae [Ai u0,Ai u1,Ai u2,As u3, .own (Nm.sub 39 (nL2.cell 4)), .own (Nm.sub 39 (nL2.cell 5))]),(Ad, .blk Ao [As u4,Ai u5,Ai u6]),((Nm.sub 39 (nL2.cell 4)), .arr (Ae+2) true 6 u7),((Nm.sub 39 (nL2.cell 5)), .arr (Aq+2) true 7 u8)]⟩:=kr (by kernel_rfl) h
theorem Ajt:Bw E0.P 36 ac_parse_reader_list.code Cr [.cell 2 25, .tmp 3]:=Bn _ _ Tryz.f36 [(1,[0,2,4],[]),(4,[0,2,4],[]),(10,[2,4],[]),(16,[2,4],[])] [2,3] _ 49 Tryz.func36 (by kernel_rfl) (by kernel_rfl) (by kernel_rfl) (by kernel_rfl)
theorem Ag5(s:LB)(at_ win:Int)(Q:QQ)(h:
 (Ih s at_ win ((0:Int)) ((0:Int)) ((0:Int)) [] ((5:Int)) ((0:Int)) ((0:Int)) [] [] [] [] [] (Ie s at_ win Q))):Call E0.P Q7 [.ptr (.arg 0) 0] [(.arg 0, .blk Ao [.imm (.str s), .imm (.int .i64 at_), .imm (.int .i64 win)])] Q:=Bd (A7 E0 Cr) (Bb Cr) 3 0 36 ac_parse_reader_list [.cell 2 25, .tmp 3] Ajt _ _ Q rfl rfl (kr (by kernel_rfl) h)
noncomputable def ac_parse_reader_dict:AC:=(Bf [(3,[0,2,4,5],[])] [2,3] (codeOf Tryz.f37) 0).1
abbrev Hm:Nat:=47
def Ig(u0:LB)(u1 u2:Int)(u3 u4 u5:Int)(u6:LB)(u7 u8 u9:Int)(v0:LB)(v1:List (List UInt8 × Int))(v2 v3:LL)(v4 v5:LL)(K:KK):Prop:=Cc 3 E0.P Hm (A9 3 ac_parse_reader_dict).code ⟨[(0, .ptr Ad 0),(2, .ptr nL2 0),(4, .ptr nL4 0),(5, .mp Bbn)],[(Ad, .blk Ao [As u0,Ai u1,Ai u2]),(nL2, .blk Ae [Ai u3,Ai u4,Ai u5,As u6, .own (nL2.cell 4), .own (nL2.cell 5)]),(nL4, .blk Ae [Ai u7,Ai u8,Ai u9,As v0, .own (nL4.cell 4), .own (nL4.cell 5)]),(Bbn, .map v1),((nL2.cell 4), .arr (Ae+2) true 6 v2),((nL2.cell 5), .arr (Aq+2) true 7 v3),((nL4.cell 4), .arr (Ae+2) true 6 v4),((nL4.cell 5), .arr (Aq+2) true 7 v5)]⟩ K
def Gs(s:LB)(at_ win:Int)(Q:QQ):KK:=kF 0 (fun st=>finish 0 E0.T [.cell 2 25, .tmp 3] [(Ad, .blk Ao [As s,Ai at_,Ai win])] Q st) fun st=>finish 0 E0.T [.cell 2 25, .tmp 3] [(Ad, .blk Ao [As s,Ai at_,Ai win])] Q st
theorem Afk(u0:LB)(u1 u2:Int)(u3 u4 u5:Int)(u6:LB)(u7 u8 u9:Int)(v0:LB)(v1:List (List UInt8 × Int))(v2 v3:LL)(v4 v5:LL)(K:KK)(h:
 (Call E0.P R8 [.ptr Ad 0, .mp Ar] [(Ad, .blk Ao [As u0,Ai u1,Ai u2]),(Ar, .map v1)] fun r0 g0=>
 Am (g0=
 [(Nm.arg 0,
 Entry.blk 53
 [.imm (.str (rS ((Au g0 Ad).getD 0 AV.undef))),
 .imm (.int .i64 (rI ((Au g0 Ad).getD 1 AV.undef))),
 .imm (.int .i64 (rI ((Au g0 Ad).getD 2 AV.undef)))]),
 (Nm.arg 1,Entry.map (mapOf g0 Ar))]∧
 r0=
 .tup
 [.imm (.str (rS (rT r0 0))), .imm (.bool (rB (rT r0 1))),
 .imm (.int .i64 (rI (rT r0 2)))])
 (Br (!decide (rI (rT r0 2)=(0:Int)))
 (K .ret ⟨[(2, .ptr nL2 0),(3,Ai (rI (rT r0 2)))],[(nL2, .blk Ae [Ai 0,Ai 0,Ai 0, .imm (.str []), .own (Nm.sub 22 (nL2.cell 4)), .own (Nm.sub 22 (nL2.cell 5))]),(Ad, .blk Ao [.imm (.str (rS ((Au g0 Ad).getD 0 AV.undef))), .imm (.int .i64 (rI ((Au g0 Ad).getD 1 AV.undef))), .imm (.int .i64 (rI ((Au g0 Ad).getD 2 AV.undef)))]),((Nm.sub 22 (nL2.cell 4)), .arr (Ae+2) true 6 []),((Nm.sub 22 (nL2.cell 5)), .arr (Aq+2) true 7 [])]⟩)
 (Br (!rB (rT r0 1))
 (K .ret ⟨[(2, .ptr nL2 0),(3,Ai 0)],[(nL2, .blk Ae [Ai u7,Ai u8,Ai u9,As v0, .own (nL4.cell 4), .own (nL4.cell 5)]),(Ad, .blk Ao [.imm (.str (rS ((Au g0 Ad).getD 0 AV.undef))), .imm (.int .i64 (rI ((Au g0 Ad).getD 1 AV.undef))), .imm (.int .i64 (rI ((Au g0 Ad).getD 2 AV.undef)))]),((nL4.cell 4), .arr (Ae+2) true 6 v4),((nL4.cell 5), .arr (Aq+2) true 7 v5)]⟩)
 (Call E0.P Il [.ptr Ad 0] [(Ad, .blk Ao [.imm (.str (rS ((Au g0 Ad).getD 0 AV.undef))), .imm (.int .i64 (rI ((Au g0 Ad).getD 1 AV.undef))), .imm (.int .i64 (rI ((Au g0 Ad).getD 2 AV.undef)))])] fun r1 g1=>
 Am (qP5 g1 r1)
 (Br (!decide (rI (rT r1 1)=(0:Int)))
 (K .ret ⟨[(2, .ptr nL2 0),(3,Ai (rI (rT r1 1)))],[(nL2, .blk Ae [Ai 0,Ai 0,Ai 0, .imm (.str []), .own (Nm.sub 36 (nL2.cell 4)), .own (Nm.sub 36 (nL2.cell 5))]),(Ad, .blk Ao [.imm (.str (rS ((Au g1 Ad).getD 0 AV.undef))), .imm (.int .i64 (rI ((Au g1 Ad).getD 1 AV.undef))), .imm (.int .i64 (rI ((Au g1 Ad).getD 2 AV.undef)))]),((Nm.sub 36 (nL2.cell 4)), .arr (Ae+2) true 6 []),((Nm.sub 36 (nL2.cell 5)), .arr (Aq+2) true 7 [])]⟩)
 (Am ((v5.length+1)*104≤140737488355328∧v5.length+1≤140737488355328)
 (Ig (rS ((Au g1 Ad).getD 0 AV.undef)) (rI ((Au g1 Ad).getD 1 AV.undef)) (rI ((Au g1 Ad).getD 2 AV.undef)) u3 u4 u5 u6 u7 u8 u9 v0 (mapOf g0 Ar) v2 v3 v4 (v5++
 [[IV.str (rS (rT r0 0)), .int .i64 (gI (Ac (rT r1 0)) 0),
 .int .i64 (gI (Ac (rT r1 0)) 1),
 .int .i64 (gI (Ac (rT r1 0)) 2), .str (gS (Ac (rT r1 0)) 3),
 .sl SK.any 6 (gR (Ac (rT r1 0)) 4),
 .sl SK.any 7 (gR (Ac (rT r1 0)) 5)]]) K)))))))):Ig u0 u1 u2 u3 u4 u5 u6 u7 u8 u9 v0 v1 v2 v3 v4 v5 K:=Ca (A7 E0 Hm) (Bb Hm) 3 3 (A9 3 ac_parse_reader_dict) [0,2,4,5] _ K rfl (kr (by kernel_rfl) h)
theorem Ae7(s:LB)(at_ win:Int)(Q:QQ)(t3 u0:Int)(u1 u2:Int)(u3 u4:LB)(u5 u6:Int)(u7 u8:LL)(h:
 (Q (.tup [.imm (.agg [.int .i64 u0, .int .i64 u1, .int .i64 u2, .str u3, .sl .any 6 u7, .sl .any 7 u8]),Ai t3]) [(Ad, .blk Ao [As u4,Ai u5,Ai u6])])):Gs s at_ win Q .ret ⟨[(2, .ptr nL2 0),(3,Ai t3)],[(nL2, .blk Ae [Ai u0,Ai u1,Ai u2,As u3, .own (Nm.sub 22 (nL2.cell 4)), .own (Nm.sub 22 (nL2.cell 5))]),(Ad, .blk Ao [As u4,Ai u5,Ai u6]),((Nm.sub 22 (nL2.cell 4)), .arr (Ae+2) true 6 u7),((Nm.sub 22 (nL2.cell 5)), .arr (Aq+2) true 7 u8)]⟩:=kr (by kernel_rfl) h
theorem Ae8(s:LB)(at_ win:Int)(Q:QQ)(t3 u0:Int)(u1 u2:Int)(u3 u4:LB)(u5 u6:Int)(u7 u8:LL)(h:
 (Q (.tup [.imm (.agg [.int .i64 u0, .int .i64 u1, .int .i64 u2, .str u3, .sl .any 6 u7, .sl .any 7 u8]),Ai t3]) [(Ad, .blk Ao [As u4,Ai u5,Ai u6])])):Gs s at_ win Q .ret ⟨[(2, .ptr nL2 0),(3,Ai t3)],[(nL2, .blk Ae [Ai u0,Ai u1,Ai u2,As u3, .own (nL4.cell 4), .own (nL4.cell 5)]),(Ad, .blk Ao [As u4,Ai u5,Ai u6]),((nL4.cell 4), .arr (Ae+2) true 6 u7),((nL4.cell 5), .arr (Aq+2) true 7 u8)]⟩:=kr (by kernel_rfl) h
theorem Ae9(s:LB)(at_ win:Int)(Q:QQ)(t3 u0:Int)(u1 u2:Int)(u3 u4:LB)(u5 u6:Int)(u7 u8:LL)(h:
 (Q (.tup [.imm (.agg [.int .i64 u0, .int .i64 u1, .int .i64 u2, .str u3, .sl .any 6 u7, .sl .any 7 u8]),Ai t3]) [(Ad, .blk Ao [As u4,Ai u5,Ai u6])])):Gs s at_ win Q .ret ⟨[(2, .ptr nL2 0),(3,Ai t3)],[(nL2, .blk Ae [Ai u0,Ai u1,Ai u2,As u3, .own (Nm.sub 36 (nL2.cell 4)), .own (Nm.sub 36 (nL2.cell 5))]),(Ad, .blk Ao [As u4,Ai u5,Ai u6]),((Nm.sub 36 (nL2.cell 4)), .arr (Ae+2) true 6 u7),((Nm.sub 36 (nL2.cell 5)), .arr (Aq+2) true 7 u8)]⟩:=kr (by kernel_rfl) h
theorem Ajr:Bw E0.P 37 ac_parse_reader_dict.code Hm [.cell 2 25, .tmp 3]:=Bn _ _ Tryz.f37 [(3,[0,2,4,5],[])] [2,3] _ 47 Tryz.func37 (by kernel_rfl) (by kernel_rfl) (by kernel_rfl) (by kernel_rfl)
theorem Ag4(s:LB)(at_ win:Int)(Q:QQ)(h:
 (Ig s at_ win ((0:Int)) ((0:Int)) ((0:Int)) [] ((6:Int)) ((0:Int)) ((0:Int)) [] [] [] [] [] [] (Gs s at_ win Q))):Call E0.P Q6 [.ptr (.arg 0) 0] [(.arg 0, .blk Ao [.imm (.str s), .imm (.int .i64 at_), .imm (.int .i64 win)])] Q:=Bd (A7 E0 Hm) (Bb Hm) 3 0 37 ac_parse_reader_dict [.cell 2 25, .tmp 3] Ajr _ _ Q rfl rfl (kr (by kernel_rfl) h)
noncomputable def ac_token_Skip:AC:=(Bf [(1,[0,1],[]),(6,[0,1],[]),(8,[0,1],[]),(9,[0,1],[0,1]),(10,[0,1],[1]),(11,[0,1],[]),(12,[1],[])] [4] (codeOf Tryz.f29) 0).1
abbrev Bl:Nat:=39
def Pn(t0:LB)(t1:Int)(K:KK):Prop:=Cc 6 E0.P Bl (A9 6 ac_token_Skip).code ⟨[(0,As t0),(1,Ai t1)],[]⟩ K
def Yq(t1:Int)(K:KK):Prop:=Ay 12 E0.P Bl (Ag 12 ac_token_Skip).code ⟨[(1,Ai t1)],[]⟩ K
def Aaj(t0:LB)(t1:Int)(K:KK):Prop:=Ay 9 E0.P Bl (Ag 9 ac_token_Skip).code ⟨[(0,As t0),(1,Ai t1)],[]⟩ K
def Yp(t0:LB)(t1:Int)(K:KK):Prop:=Ay 10 E0.P Bl (Ag 10 ac_token_Skip).code ⟨[(0,As t0),(1,Ai t1)],[]⟩ K
def Uy(t0:LB)(t1:Int)(K:KK):Prop:=Jg 1 E0.P Bl 0 (Ke 1 ac_token_Skip).code ⟨[(0,As t0),(1,Ai t1)],[]⟩ K
def Me(Q:QQ):KK:=kE fun st=>finish 0 E0.T [.tmp 4] [] Q st
def Aap(Q:QQ):Ex→St→Prop
 | .normal,st=>finish 0 E0.T [.tmp 4] [] Q st
 | .exit _,_=>False
 | .goto i,st=>Jg 1 E0.P Bl i (Ke 1 ac_token_Skip).code (mask [0,1] st) (Me Q)
 | .ret,st=>finish 0 E0.T [.tmp 4] [] Q st
def Uu(Q:QQ):Ex→St→Prop
 | .normal,st=>Ay 12 E0.P Bl (Ag 12 ac_token_Skip).code (mask [1] st) (Aap Q)
 | .exit _,_=>False
 | .goto i,st=>Jg 1 E0.P Bl i (Ke 1 ac_token_Skip).code (mask [0,1] st) (Me Q)
 | .ret,st=>finish 0 E0.T [.tmp 4] [] Q st
def Ahw(Q:QQ):Ex→St→Prop
 | .normal,st=>Ay 10 E0.P Bl (Ag 10 ac_token_Skip).code (mask [0,1] st) (Uu Q)
 | .exit i,st=>(match (i.beq 0:Bool)with
 |true=>Ay 10 E0.P Bl (Ag 10 ac_token_Skip).code (mask [0,1] st) (Uu Q)
 |false=>False)
 | .goto i,st=>Jg 1 E0.P Bl i (Ke 1 ac_token_Skip).code (mask [0,1] st) (Me Q)
 | .ret,st=>finish 0 E0.T [.tmp 4] [] Q st
def Aaq(K:KK):Ex→St→Prop
 | .normal,st=>Cc 6 E0.P Bl (A9 6 ac_token_Skip).code (mask [0,1] st) K
 | .exit i,st=>K (.exit i) st
 | .goto i,st=>K (.goto i) st
 | .ret,st=>K .ret st
def Aar(K:KK):Ex→St→Prop
 | .normal,st=>K .normal st
 | .exit i,st=>K (.exit i) st
 | .goto i,st=>Jg 1 E0.P Bl i (Ke 1 ac_token_Skip).code (mask [0,1] st) K
 | .ret,st=>K .ret st
def Uv(K:KK):Ex→St→Prop
 | .normal,st=>Ay 12 E0.P Bl (Ag 12 ac_token_Skip).code (mask [1] st) (Aar K)
 | .exit i,st=>K (.exit i) st
 | .goto i,st=>Jg 1 E0.P Bl i (Ke 1 ac_token_Skip).code (mask [0,1] st) K
 | .ret,st=>K .ret st
def Ahx(K:KK):Ex→St→Prop
 | .normal,st=>Ay 10 E0.P Bl (Ag 10 ac_token_Skip).code (mask [0,1] st) (Uv K)
 | .exit i,st=>(match (i.beq 0:Bool)with
 |true=>Ay 10 E0.P Bl (Ag 10 ac_token_Skip).code (mask [0,1] st) (Uv K)
 |false=>K (.exit i) st)
 | .goto i,st=>Jg 1 E0.P Bl i (Ke 1 ac_token_Skip).code (mask [0,1] st) K
 | .ret,st=>K .ret st
theorem Adl(t0:LB)(t1:Int)(K:KK)(h:
 (Br (decide (t1<(↑t0.length:Int)) == true)
 (Call E0.P Nv [As t0,Ai t1] [] fun r0 g0=>
 Am (qP4 g0 r0)
 (Let (decide (rI r0=(0:Int))) fun x1=>
 Br (x1)
 (Aaj t0 t1 (Aaq K))
 (K (.exit 0) ⟨[(0,As t0),(1,Ai t1)],[]⟩)))
 (Am ((!true)=false)
 (Let (false) fun x2=>
 Br (x2)
 (Aaj t0 t1 (Aaq K))
 (K (.exit 0) ⟨[(0,As t0),(1,Ai t1)],[]⟩))))):Pn t0 t1 K:=Ca (A7 E0 Bl) (Bb Bl) 3 6 (A9 6 ac_token_Skip) [0,1] _ K rfl (kr (by kernel_rfl) h)
theorem Ti(t1:Int)(K:KK)(h:
 (K .ret ⟨[(4,Ai t1)],[]⟩)):Yq t1 K:=Ba (A7 E0 Bl) (Bb Bl) 3 12 (Ag 12 ac_token_Skip) [] _ K rfl (kr (by kernel_rfl) h)
theorem An7(t0:LB)(t1:Int)(K:KK)(h:
 (K .normal ⟨[(0,As t0),(1,Ai (IntKind.i64.wrap (t1+(1:Int))))],[]⟩)):Aaj t0 t1 K:=Ba (A7 E0 Bl) (Bb Bl) 3 9 (Ag 9 ac_token_Skip) [0,1] _ K rfl (kr (by kernel_rfl) h)
theorem Abq(t0:LB)(t1:Int)(K:KK)(h:
 (K (.goto 0) ⟨[(0,As t0),(1,Ai t1)],[]⟩)):Yp t0 t1 K:=Ba (A7 E0 Bl) (Bb Bl) 3 10 (Ag 10 ac_token_Skip) [1] _ K rfl (kr (by kernel_rfl) h)
theorem Adn(t0:LB)(t1:Int)(K:KK)(h:
 (Call E0.P Rs [As t0,Ai t1, .imm (.sl .any 1 [[IV.int .i64 (0:Int)]])] [] fun r0 g0=>
 Am (qP4 g0 r0)
 (Am (decide (IntKind.i64.wrap (t1+rI r0)<(↑t0.length:Int))=true→
 (0:Int)≤IntKind.i64.wrap (t1+rI r0)∧IntKind.i64.wrap (t1+rI r0)<(↑t0.length:Int))
 (Let (bif decide (IntKind.i64.wrap (t1+rI r0)<(↑t0.length:Int))then
 decide ((↑(t0.getD (IntKind.i64.wrap (t1+rI r0)).toNat 0).toNat:Int)=(37:Int))
 else false) fun x1=>
 Br (x1)
 (Pn t0 (IntKind.i64.wrap (t1+rI r0)) (Ahx K))
 (Yq (IntKind.i64.wrap (t1+rI r0)) (Aar K)))))):Uy t0 t1 K:=A1q (A7 E0 Bl) (Bb Bl) 3 1 0 (Ke 1 ac_token_Skip) (A6v 1 0 ac_token_Skip) [0,1] _ K (by kernel_rfl) rfl (kr (by kernel_rfl) h)
theorem Adh(Q:QQ)(t4:Int)(h:
 (Q (Ai t4) [])):Me Q .ret ⟨[(4,Ai t4)],[]⟩:=kr (by kernel_rfl) h
theorem Aoo(Q:QQ)(t4:Int)(h:
 (Q (Ai t4) [])):Aap Q .ret ⟨[(4,Ai t4)],[]⟩:=kr (by kernel_rfl) h
theorem Aop(Q:QQ)(t0:LB)(t1:Int)(h:
 (Uy t0 t1 (Me Q))):Uu Q (.goto 0) ⟨[(0,As t0),(1,Ai t1)],[]⟩:=kr (by kernel_rfl) h
theorem Aoq(Q:QQ)(t0:LB)(t1:Int)(h:
 (Yp t0 t1 (Uu Q))):Ahw Q (.exit 0) ⟨[(0,As t0),(1,Ai t1)],[]⟩:=kr (by kernel_rfl) h
theorem Aor(K:KK)(t0:LB)(t1:Int)(h:
 (Pn t0 t1 K)):Aaq K .normal ⟨[(0,As t0),(1,Ai t1)],[]⟩:=kr (by kernel_rfl) h
theorem Adi(K:KK)(t4:Int)(h:
 (K .ret ⟨[(4,Ai t4)],[]⟩)):Aar K .ret ⟨[(4,Ai t4)],[]⟩:=kr (by kernel_rfl) h
theorem Aos(K:KK)(t0:LB)(t1:Int)(h:
 (Uy t0 t1 K)):Uv K (.goto 0) ⟨[(0,As t0),(1,Ai t1)],[]⟩:=kr (by kernel_rfl) h
theorem Aot(K:KK)(t0:LB)(t1:Int)(h:
 (Yp t0 t1 (Uv K))):Ahx K (.exit 0) ⟨[(0,As t0),(1,Ai t1)],[]⟩:=kr (by kernel_rfl) h
theorem Avj:Bw E0.P 29 ac_token_Skip.code Bl [.tmp 4]:=Bn _ _ Tryz.f29 [(1,[0,1],[]),(6,[0,1],[]),(8,[0,1],[]),(9,[0,1],[0,1]),(10,[0,1],[1]),(11,[0,1],[]),(12,[1],[])] [4] _ 39 Tryz.func29 (by kernel_rfl) (by kernel_rfl) (by kernel_rfl) (by kernel_rfl)
theorem Aq1(a0:LB)(a1:Int)(Q:QQ)(h:
 (Call E0.P Rs [As a0,Ai (if(if(↑a0.length:Int)<a1 then(↑a0.length:Int)else a1)>(0:Int)then
 if(↑a0.length:Int)<a1 then(↑a0.length:Int)else a1
 else(0:Int)), .imm (.sl .any 1 [[IV.int .i64 (0:Int)]])] [] fun r0 g0=>
 Am (qP4 g0 r0)
 (Am (decide
 (IntKind.i64.wrap
 ((if(if(↑a0.length:Int)<a1 then(↑a0.length:Int)else a1)>(0:Int)then
 if(↑a0.length:Int)<a1 then(↑a0.length:Int)else a1
 else(0:Int))+
 rI r0)<
 (↑a0.length:Int))=
 true→
 (0:Int)≤
 IntKind.i64.wrap
 ((if(if(↑a0.length:Int)<a1 then(↑a0.length:Int)else a1)>(0:Int)then
 if(↑a0.length:Int)<a1 then(↑a0.length:Int)else a1
 else(0:Int))+
 rI r0)∧
 IntKind.i64.wrap
 ((if(if(↑a0.length:Int)<a1 then(↑a0.length:Int)else a1)>(0:Int)then
 if(↑a0.length:Int)<a1 then(↑a0.length:Int)else a1
 else(0:Int))+
 rI r0)<
 (↑a0.length:Int))
 (Let (bif
 decide
 (IntKind.i64.wrap
 ((if(if(↑a0.length:Int)<a1 then(↑a0.length:Int)else a1)>(0:Int)then
 if(↑a0.length:Int)<a1 then(↑a0.length:Int)else a1
 else(0:Int))+
 rI r0)<
 (↑a0.length:Int))then
 decide
 ((↑(a0.getD
 (IntKind.i64.wrap
 ((if(if(↑a0.length:Int)<a1 then(↑a0.length:Int)else a1)>(0:Int)then
 if(↑a0.length:Int)<a1 then(↑a0.length:Int)else a1
 else(0:Int))+
 rI r0)).toNat
 0).toNat:
 Int)=
 (37:Int))
 else false) fun x1=>
 Br (x1)
 (Pn a0 (IntKind.i64.wrap
 ((if(if(↑a0.length:Int)<a1 then(↑a0.length:Int)else a1)>(0:Int)then
 if(↑a0.length:Int)<a1 then(↑a0.length:Int)else a1
 else(0:Int))+
 rI r0)) (Ahw Q))
 (Yq (IntKind.i64.wrap
 ((if(if(↑a0.length:Int)<a1 then(↑a0.length:Int)else a1)>(0:Int)then
 if(↑a0.length:Int)<a1 then(↑a0.length:Int)else a1
 else(0:Int))+
 rI r0)) (Aap Q)))))):Call E0.P Acy [As a0,Ai a1] [] Q:=Bd (A7 E0 Bl) (Bb Bl) 3 0 29 ac_token_Skip [.tmp 4] Avj _ _ Q rfl rfl (kr (by kernel_rfl) h)
noncomputable def ac_token_scanner_token:AC:=(Bf [(22,[0,2,60],[0,2]),(24,[0,2],[])] [2,3] (codeOf Tryz.f30) 0).1
abbrev Db:Nat:=71
def Gy(t60:Bool)(u0:LB)(u1 u2 u3:Int)(u4:LB)(u5 u6:Int)(u7:LL)(K:KK):Prop:=Ay 22 E0.P Db (Ag 22 ac_token_scanner_token).code ⟨[(0, .ptr Ad 0),(2, .ptr nL2 0),(60,Ab t60)],[(Ad, .blk Aa [As u0,Ai u1, .own Ar]),(nL2, .blk Ap [Ai u2,Ai u3,As u4,Ai u5,Ai u6]),(Ar, .arr (Ak+2) true 1 u7)]⟩ K
def Tm(u0:LB)(u1 u2 u3:Int)(u4:LB)(u5 u6:Int)(u7:LL)(K:KK):Prop:=Ay 24 E0.P Db (Ag 24 ac_token_scanner_token).code ⟨[(0, .ptr Ad 0),(2, .ptr nL2 0)],[(Ad, .blk Aa [As u0,Ai u1, .own Ar]),(nL2, .blk Ap [Ai u2,Ai u3,As u4,Ai u5,Ai u6]),(Ar, .arr (Ak+2) true 1 u7)]⟩ K
def Nr(s:LB)(at_:Int)(out:LL)(Q:QQ):KK:=kE fun st=>finish 0 E0.T [.cell 2 46, .tmp 3] [(Ad, .blk Aa [As s,Ai at_, .own Ar]),(Ar, .arr (Ak+2) true 1 out)] Q st
def Fx(s:LB)(at_:Int)(out:LL)(Q:QQ):KK:=kF 0 (fun st=>Ay 24 E0.P Db (Ag 24 ac_token_scanner_token).code (mask [0,2] st) (Nr s at_ out Q)) fun st=>finish 0 E0.T [.cell 2 46, .tmp 3] [(Ad, .blk Aa [As s,Ai at_, .own Ar]),(Ar, .arr (Ak+2) true 1 out)] Q st
theorem Abs(t60:Bool)(u0:LB)(u1 u2 u3:Int)(u4:LB)(u5 u6:Int)(u7:LL)(K:KK)(h:
 (Br (t60)
 (K .ret ⟨[(2, .ptr nL2 0),(3,Ai 4)],[(nL2, .blk Ap [Ai 0,Ai 0, .imm (.str []),Ai 0,Ai 0]),(Ad, .blk Aa [As u0,Ai u1, .own Ar]),(Ar, .arr (Ak+2) true 1 u7)]⟩)
 (K .normal ⟨[(0, .ptr Ad 0),(2, .ptr nL2 0)],[(Ad, .blk Aa [As u0,Ai u1, .own Ar]),(nL2, .blk Ap [Ai u2,Ai u3,As u4,Ai u5,Ai u6]),(Ar, .arr (Ak+2) true 1 u7)]⟩))):Gy t60 u0 u1 u2 u3 u4 u5 u6 u7 K:=Ba (A7 E0 Db) (Bb Db) 3 22 (Ag 22 ac_token_scanner_token) [0,2] _ K rfl (kr (by kernel_rfl) h)
theorem Abt(u0:LB)(u1 u2 u3:Int)(u4:LB)(u5 u6:Int)(u7:LL)(K:KK)(h:
 (Call E0.P Pz [.ptr Ad 0] [(Ad, .blk Aa [As u0,Ai u1, .own Ar]),(Ar, .arr (Ak+2) true 1 u7)] fun r0 g0=>
 Am (qP8 g0 r0)
 (K .ret ⟨[(2, .ptr nL2 0),(3,Ai (rI (rT r0 1)))],[(nL2, .blk Ap [Ai (gI (Ac (rT r0 0)) 0),Ai (gI (Ac (rT r0 0)) 1),As (gS (Ac (rT r0 0)) 2),Ai (gI (Ac (rT r0 0)) 3),Ai (gI (Ac (rT r0 0)) 4)]),(Ad, .blk Aa [.imm (.str (rS ((Au g0 Ad).getD 0 AV.undef))), .imm (.int .i64 (rI ((Au g0 Ad).getD 1 AV.undef))), .own Ar]),(Ar, .arr (Ak+2) true 1 (C8 g0 Ar))]⟩))):Tm u0 u1 u2 u3 u4 u5 u6 u7 K:=Ba (A7 E0 Db) (Bb Db) 3 24 (Ag 24 ac_token_scanner_token) [] _ K rfl (kr (by kernel_rfl) h)
theorem Aco(s:LB)(at_:Int)(out:LL)(Q:QQ)(t3 u0 u1:Int)(u2:LB)(u3 u4:Int)(u5:LB)(u6:Int)(u7:LL)(h:
 (Q (.tup [.imm (.agg [.int .i64 u0, .int .i64 u1, .str u2, .int .i64 u3, .int .i64 u4]),Ai t3]) [(Ad, .blk Aa [As u5,Ai u6, .own Ar]),(Ar, .arr (Ak+2) true 1 u7)])):Nr s at_ out Q .ret ⟨[(2, .ptr nL2 0),(3,Ai t3)],[(nL2, .blk Ap [Ai u0,Ai u1,As u2,Ai u3,Ai u4]),(Ad, .blk Aa [As u5,Ai u6, .own Ar]),(Ar, .arr (Ak+2) true 1 u7)]⟩:=kr (by kernel_rfl) h
theorem Acp(s:LB)(at_:Int)(out:LL)(Q:QQ)(t3 u0 u1:Int)(u2:LB)(u3 u4:Int)(u5:LB)(u6:Int)(u7:LL)(h:
 (Q (.tup [.imm (.agg [.int .i64 u0, .int .i64 u1, .str u2, .int .i64 u3, .int .i64 u4]),Ai t3]) [(Ad, .blk Aa [As u5,Ai u6, .own Ar]),(Ar, .arr (Ak+2) true 1 u7)])):Fx s at_ out Q .ret ⟨[(2, .ptr nL2 0),(3,Ai t3)],[(nL2, .blk Ap [Ai u0,Ai u1,As u2,Ai u3,Ai u4]),(Ad, .blk Aa [As u5,Ai u6, .own Ar]),(Ar, .arr (Ak+2) true 1 u7)]⟩:=kr (by kernel_rfl) h
theorem Acr(s:LB)(at_:Int)(out:LL)(Q:QQ)(u0:LB)(u1 u2 u3:Int)(u4:LB)(u5 u6:Int)(u7:LL)(h:
 (Tm u0 u1 u2 u3 u4 u5 u6 u7 (Nr s at_ out Q))):Fx s at_ out Q .normal ⟨[(0, .ptr Ad 0),(2, .ptr nL2 0)],[(Ad, .blk Aa [As u0,Ai u1, .own Ar]),(nL2, .blk Ap [Ai u2,Ai u3,As u4,Ai u5,Ai u6]),(Ar, .arr (Ak+2) true 1 u7)]⟩:=kr (by kernel_rfl) h
theorem Ahj:Bw E0.P 30 ac_token_scanner_token.code Db [.cell 2 46, .tmp 3]:=Bn _ _ Tryz.f30 [(22,[0,2,60],[0,2]),(24,[0,2],[])] [2,3] _ 71 Tryz.func30 (by kernel_rfl) (by kernel_rfl) (by kernel_rfl) (by kernel_rfl)
theorem Ae5(s:LB)(at_:Int)(out:LL)(Q:QQ)(h:
 (Am ((0:Int)≤at_∧at_<(↑s.length:Int))
 (Br (decide ((↑(s.getD at_.toNat 0).toNat:Int)=(91:Int)))
 (Q (.tup [.imm (.agg [.int .i64 4, .int .i64 0, .str [], .int .i64 0, .int .i64 0]),Ai 0]) [(Ad, .blk Aa [As s,Ai (IntKind.i64.wrap (at_+(1:Int))), .own Ar]),(Ar, .arr (Ak+2) true 1 out)])
 (Br (decide ((↑(s.getD at_.toNat 0).toNat:Int)=(93:Int)))
 (Q (.tup [.imm (.agg [.int .i64 5, .int .i64 0, .str [], .int .i64 0, .int .i64 0]),Ai 0]) [(Ad, .blk Aa [As s,Ai (IntKind.i64.wrap (at_+(1:Int))), .own Ar]),(Ar, .arr (Ak+2) true 1 out)])
 (Br (decide ((↑(s.getD at_.toNat 0).toNat:Int)=(47:Int)))
 (Call E0.P Px [.ptr Ad 0] [(Ad, .blk Aa [As s,Ai at_, .own Ar]),(Ar, .arr (Ak+2) true 1 out)] fun r0 g0=>
 Am (qP8 g0 r0)
 (Q (.tup [.imm (.agg [.int .i64 (gI (Ac (rT r0 0)) 0), .int .i64 (gI (Ac (rT r0 0)) 1), .str (gS (Ac (rT r0 0)) 2), .int .i64 (gI (Ac (rT r0 0)) 3), .int .i64 (gI (Ac (rT r0 0)) 4)]),Ai (rI (rT r0 1))]) [(Ad, .blk Aa [.imm (.str (rS ((Au g0 Ad).getD 0 AV.undef))), .imm (.int .i64 (rI ((Au g0 Ad).getD 1 AV.undef))), .own Ar]),(Ar, .arr (Ak+2) true 1 (C8 g0 Ar))]))
 (Br (decide ((↑(s.getD at_.toNat 0).toNat:Int)=(40:Int)))
 (Call E0.P Py [.ptr Ad 0] [(Ad, .blk Aa [As s,Ai at_, .own Ar]),(Ar, .arr (Ak+2) true 1 out)] fun r1 g1=>
 Am (qP8 g1 r1)
 (Q (.tup [.imm (.agg [.int .i64 (gI (Ac (rT r1 0)) 0), .int .i64 (gI (Ac (rT r1 0)) 1), .str (gS (Ac (rT r1 0)) 2), .int .i64 (gI (Ac (rT r1 0)) 3), .int .i64 (gI (Ac (rT r1 0)) 4)]),Ai (rI (rT r1 1))]) [(Ad, .blk Aa [.imm (.str (rS ((Au g1 Ad).getD 0 AV.undef))), .imm (.int .i64 (rI ((Au g1 Ad).getD 1 AV.undef))), .own Ar]),(Ar, .arr (Ak+2) true 1 (C8 g1 Ar))]))
 (Br (decide ((↑(s.getD at_.toNat 0).toNat:Int)=(60:Int)))
 (Am (decide (IntKind.i64.wrap (at_+(1:Int))<(↑s.length:Int))=true→
 (0:Int)≤IntKind.i64.wrap (at_+(1:Int))∧IntKind.i64.wrap (at_+(1:Int))<(↑s.length:Int))
 (Am (decide (IntKind.i64.wrap (at_+(1:Int))<(↑s.length:Int))=true→(0:Int)≤at_∧at_<(↑s.length:Int))
 (Let (bif decide (IntKind.i64.wrap (at_+(1:Int))<(↑s.length:Int))then
 decide
 ((↑(s.getD (IntKind.i64.wrap (at_+(1:Int))).toNat 0).toNat:Int)=
 (↑(s.getD at_.toNat 0).toNat:Int))
 else false) fun x2=>
 Br (x2)
 (Q (.tup [.imm (.agg [.int .i64 6, .int .i64 0, .str [], .int .i64 0, .int .i64 0]),Ai 0]) [(Ad, .blk Aa [As s,Ai (IntKind.i64.wrap (at_+(2:Int))), .own Ar]),(Ar, .arr (Ak+2) true 1 out)])
 (Call E0.P Q9 [.ptr Ad 0] [(Ad, .blk Aa [As s,Ai at_, .own Ar]),(Ar, .arr (Ak+2) true 1 out)] fun r3 g3=>
 Am (qP8 g3 r3)
 (Q (.tup [.imm (.agg [.int .i64 (gI (Ac (rT r3 0)) 0), .int .i64 (gI (Ac (rT r3 0)) 1), .str (gS (Ac (rT r3 0)) 2), .int .i64 (gI (Ac (rT r3 0)) 3), .int .i64 (gI (Ac (rT r3 0)) 4)]),Ai (rI (rT r3 1))]) [(Ad, .blk Aa [.imm (.str (rS ((Au g3 Ad).getD 0 AV.undef))), .imm (.int .i64 (rI ((Au g3 Ad).getD 1 AV.undef))), .own Ar]),(Ar, .arr (Ak+2) true 1 (C8 g3 Ar))])))))
 (Br (decide ((↑(s.getD at_.toNat 0).toNat:Int)=(62:Int)))
 (Am (decide (IntKind.i64.wrap (at_+(1:Int))<(↑s.length:Int))=true→
 (0:Int)≤IntKind.i64.wrap (at_+(1:Int))∧IntKind.i64.wrap (at_+(1:Int))<(↑s.length:Int))
 (Am (decide (IntKind.i64.wrap (at_+(1:Int))<(↑s.length:Int))=true→(0:Int)≤at_∧at_<(↑s.length:Int))
 (Let (bif decide (IntKind.i64.wrap (at_+(1:Int))<(↑s.length:Int))then
 decide
 ((↑(s.getD (IntKind.i64.wrap (at_+(1:Int))).toNat 0).toNat:Int)=
 (↑(s.getD at_.toNat 0).toNat:Int))
 else false) fun x4=>
 Br (x4)
 (Q (.tup [.imm (.agg [.int .i64 7, .int .i64 0, .str [], .int .i64 0, .int .i64 0]),Ai 0]) [(Ad, .blk Aa [As s,Ai (IntKind.i64.wrap (at_+(2:Int))), .own Ar]),(Ar, .arr (Ak+2) true 1 out)])
 (Q (.tup [.imm (.agg [.int .i64 0, .int .i64 0, .str [], .int .i64 0, .int .i64 0]),Ai 4]) [(Ad, .blk Aa [As s,Ai at_, .own Ar]),(Ar, .arr (Ak+2) true 1 out)]))))
 (Br (decide ((↑(s.getD at_.toNat 0).toNat:Int)=(41:Int)))
 (Gy (decide ((↑(s.getD at_.toNat 0).toNat:Int)=(41:Int))) s at_ ((0:Int)) ((0:Int)) [] ((0:Int)) ((0:Int)) out (Fx s at_ out Q))
 (Br (decide ((↑(s.getD at_.toNat 0).toNat:Int)=(123:Int)))
 (Gy (decide ((↑(s.getD at_.toNat 0).toNat:Int)=(123:Int))) s at_ ((0:Int)) ((0:Int)) [] ((0:Int)) ((0:Int)) out (Fx s at_ out Q))
 (Gy (decide ((↑(s.getD at_.toNat 0).toNat:Int)=(125:Int))) s at_ ((0:Int)) ((0:Int)) [] ((0:Int)) ((0:Int)) out (Fx s at_ out Q)))))))))))):Call E0.P O4 [.ptr (.arg 0) 0] [(.arg 0, .blk Aa [.imm (.str s), .imm (.int .i64 at_), .own (.arg 1)]),(.arg 1, .arr (Ak+2) true 1 out)] Q:=Bd (A7 E0 Db) (Bb Db) 3 0 30 ac_token_scanner_token [.cell 2 46, .tmp 3] Ahj _ _ Q rfl rfl (kr (by kernel_rfl) h)
noncomputable def ac_parse_reader_link:AC:=(Bf [(7,[0,4],[])] [2,3] (codeOf Tryz.f63) 0).1
abbrev Ho:Nat:=52
def Kt(u0:LB)(u1 u2:Int)(u3:LB)(u4:Int)(K:KK):Prop:=Ay 7 E0.P Ho (Ag 7 ac_parse_reader_link).code ⟨[(0, .ptr Ad 0),(4, .ptr nL4 0)],[(Ad, .blk Ao [As u0,Ai u1,Ai u2]),(nL4, .blk Asj [As u3,Ai u4])]⟩ K
def Kw(s:LB)(at_ win:Int)(Q:QQ):KK:=kE fun st=>finish 0 E0.T [.tmp 2, .tmp 3] [(Ad, .blk Ao [As s,Ai at_,Ai win])] Q st
theorem Aey(u0:LB)(u1 u2:Int)(u3:LB)(u4:Int)(K:KK)(h:
 (K .ret ⟨[(2,Ai 0),(3,Ab false)],[(Ad, .blk Ao [As u3,Ai u4,Ai u2])]⟩)):Kt u0 u1 u2 u3 u4 K:=Ba (A7 E0 Ho) (Bb Ho) 3 7 (Ag 7 ac_parse_reader_link) [] _ K rfl (kr (by kernel_rfl) h)
theorem Afa(s:LB)(at_ win:Int)(Q:QQ)(t2:Int)(t3:Bool)(u0:LB)(u1 u2:Int)(h:
 (Q (.tup [Ai t2,Ab t3]) [(Ad, .blk Ao [As u0,Ai u1,Ai u2])])):Kw s at_ win Q .ret ⟨[(2,Ai t2),(3,Ab t3)],[(Ad, .blk Ao [As u0,Ai u1,Ai u2])]⟩:=kr (by kernel_rfl) h
theorem Ajs:Bw E0.P 63 ac_parse_reader_link.code Ho [.tmp 2, .tmp 3]:=Bn _ _ Tryz.f63 [(7,[0,4],[])] [2,3] _ 52 Tryz.func63 (by kernel_rfl) (by kernel_rfl) (by kernel_rfl) (by kernel_rfl)
theorem V8(s:LB)(at_ win:Int)(Q:QQ)(h:
 (Call E0.P F9 [.ptr Ad 0] [(Ad, .blk Ao [As s,Ai at_,Ai win])] fun r0 g0=>
 Am (qP7 g0 r0)
 (Let (bif decide (rI (rT r0 1)=(0:Int))then decide (gI (Ac (rT r0 0)) 0=(1:Int))
 else false) fun x1=>
 Br (x1)
 (Call E0.P F9 [.ptr Ad 0] [(Ad, .blk Ao [.imm (.str (rS ((Au g0 Ad).getD 0 AV.undef))), .imm (.int .i64 (rI ((Au g0 Ad).getD 1 AV.undef))), .imm (.int .i64 (rI ((Au g0 Ad).getD 2 AV.undef)))])] fun r2 g2=>
 Am (qP7 g2 r2)
 (Let (bif decide (rI (rT r2 1)=(0:Int))then decide (gI (Ac (rT r2 0)) 0=(8:Int))
 else false) fun x3=>
 Let (bif x3 then gS (Ac (rT r2 0)) 2 == [(82:UInt8)]else false) fun x4=>
 Br (x4)
 (Q (.tup [Ai (gI (Ac (rT r0 0)) 1),Ab true]) [(Ad, .blk Ao [.imm (.str (rS ((Au g2 Ad).getD 0 AV.undef))), .imm (.int .i64 (rI ((Au g2 Ad).getD 1 AV.undef))), .imm (.int .i64 (rI ((Au g2 Ad).getD 2 AV.undef)))])])
 (Kt (rS ((Au g2 Ad).getD 0 AV.undef)) (rI ((Au g2 Ad).getD 1 AV.undef)) (rI ((Au g2 Ad).getD 2 AV.undef)) s at_ (Kw s at_ win Q))))
 (Kt (rS ((Au g0 Ad).getD 0 AV.undef)) (rI ((Au g0 Ad).getD 1 AV.undef)) (rI ((Au g0 Ad).getD 2 AV.undef)) s at_ (Kw s at_ win Q))))):Call E0.P Lv [.ptr (.arg 0) 0] [(.arg 0, .blk Ao [.imm (.str s), .imm (.int .i64 at_), .imm (.int .i64 win)])] Q:=Bd (A7 E0 Ho) (Bb Ho) 3 0 63 ac_parse_reader_link [.tmp 2, .tmp 3] Ajs _ _ Q rfl rfl (kr (by kernel_rfl) h)
noncomputable def ac_parse_reader_key:AC:=(Bf [] [4,5,6] (codeOf Tryz.f64) 0).1
abbrev Sb:Nat:=45
theorem Ak6:Bw E0.P 64 ac_parse_reader_key.code Sb [.tmp 4, .tmp 5, .tmp 6]:=Bn _ _ Tryz.f64 [] [4,5,6] _ 45 Tryz.func64 (by kernel_rfl) (by kernel_rfl) (by kernel_rfl) (by kernel_rfl)
theorem Aht(s:LB)(at_ win:Int)(m:List (List UInt8 × Int))(Q:QQ)(h:
 (Call E0.P F9 [.ptr Ad 0] [(Ad, .blk Ao [As s,Ai at_,Ai win])] fun r0 g0=>
 Am (qP7 g0 r0)
 (Br (!decide (rI (rT r0 1)=(0:Int)))
 (Q (.tup [.imm (.str []),Ab false,Ai (rI (rT r0 1))]) [(Ad, .blk Ao [.imm (.str (rS ((Au g0 Ad).getD 0 AV.undef))), .imm (.int .i64 (rI ((Au g0 Ad).getD 1 AV.undef))), .imm (.int .i64 (rI ((Au g0 Ad).getD 2 AV.undef)))]),(Ar, .map m)])
 (Br (decide (gI (Ac (rT r0 0)) 0=(0:Int)))
 (Q (.tup [.imm (.str []),Ab false,Ai 5]) [(Ad, .blk Ao [.imm (.str (rS ((Au g0 Ad).getD 0 AV.undef))), .imm (.int .i64 (rI ((Au g0 Ad).getD 1 AV.undef))), .imm (.int .i64 (rI ((Au g0 Ad).getD 2 AV.undef)))]),(Ar, .map m)])
 (Br (decide (gI (Ac (rT r0 0)) 0=(7:Int)))
 (Q (.tup [.imm (.str []),Ab false,Ai 0]) [(Ad, .blk Ao [.imm (.str (rS ((Au g0 Ad).getD 0 AV.undef))), .imm (.int .i64 (rI ((Au g0 Ad).getD 1 AV.undef))), .imm (.int .i64 (rI ((Au g0 Ad).getD 2 AV.undef)))]),(Ar, .map m)])
 (Br (!decide (gI (Ac (rT r0 0)) 0=(2:Int)))
 (Q (.tup [.imm (.str []),Ab false,Ai 4]) [(Ad, .blk Ao [.imm (.str (rS ((Au g0 Ad).getD 0 AV.undef))), .imm (.int .i64 (rI ((Au g0 Ad).getD 1 AV.undef))), .imm (.int .i64 (rI ((Au g0 Ad).getD 2 AV.undef)))]),(Ar, .map m)])
 (Br (decide ((0:Int)<Dm m (gS (Ac (rT r0 0)) 2)))
 (Q (.tup [.imm (.str []),Ab false,Ai 11]) [(Ad, .blk Ao [.imm (.str (rS ((Au g0 Ad).getD 0 AV.undef))), .imm (.int .i64 (rI ((Au g0 Ad).getD 1 AV.undef))), .imm (.int .i64 (rI ((Au g0 Ad).getD 2 AV.undef)))]),(Ar, .map m)])
 (Q (.tup [As (gS (Ac (rT r0 0)) 2),Ab true,Ai 0]) [(Ad, .blk Ao [.imm (.str (rS ((Au g0 Ad).getD 0 AV.undef))), .imm (.int .i64 (rI ((Au g0 Ad).getD 1 AV.undef))), .imm (.int .i64 (rI ((Au g0 Ad).getD 2 AV.undef)))]),(Ar, .map (Vi m (gS (Ac (rT r0 0)) 2)
 (IntKind.i64.wrap (Dm m (gS (Ac (rT r0 0)) 2)+(1:Int)))))])))))))):Call E0.P R8 [.ptr (.arg 0) 0, .mp (.arg 1)] [(.arg 0, .blk Ao [.imm (.str s), .imm (.int .i64 at_), .imm (.int .i64 win)]),(.arg 1, .map m)] Q:=Bd (A7 E0 Sb) (Bb Sb) 3 0 64 ac_parse_reader_key [.tmp 4, .tmp 5, .tmp 6] Ak6 _ _ Q rfl rfl (kr (by kernel_rfl) h)
noncomputable def ac_octet_Span:AC:=(Bf [(1,[0,1,2,7],[]),(7,[0,1,2,7],[]),(9,[7],[]),(12,[0,1,2,7,22,23,24],[]),(14,[7],[]),(18,[0,1,2,7],[]),(20,[7],[0,1,2,7]),(21,[7],[]),(22,[0,1,2,7],[0,1,2,7]),(23,[7],[])] [6] (codeOf Tryz.f54) 0).1
abbrev Bt:Nat:=38
def Uw(t0:LB)(t1:Int)(t2r:LL)(t7:Int)(K:KK):Prop:=Cc 7 E0.P Bt (A9 7 ac_octet_Span).code ⟨[(0,As t0),(1,Ai t1),(2,Al 1 t2r),(7,Ai t7)],[]⟩ K
def Za(t0:LB)(t1:Int)(t2r:LL)(t7:Int)(t22r:LL)(t23 t24:Int)(K:KK):Prop:=Cc 12 E0.P Bt (A9 12 ac_octet_Span).code ⟨[(0,As t0),(1,Ai t1),(2,Al 1 t2r),(7,Ai t7),(22,Al 1 t22r),(23,Ai t23),(24,Ai t24)],[]⟩ K
def Agq(t7:Int)(K:KK):Prop:=Ay 23 E0.P Bt (Ag 23 ac_octet_Span).code ⟨[(7,Ai t7)],[]⟩ K
def Agp(t0:LB)(t1:Int)(t2r:LL)(t7:Int)(K:KK):Prop:=Ay 22 E0.P Bt (Ag 22 ac_octet_Span).code ⟨[(0,As t0),(1,Ai t1),(2,Al 1 t2r),(7,Ai t7)],[]⟩ K
def Ago(t7:Int)(K:KK):Prop:=Ay 20 E0.P Bt (Ag 20 ac_octet_Span).code ⟨[(7,Ai t7)],[]⟩ K
def Ahv(Q:QQ):KK:=kE fun st=>finish 0 E0.T [.tmp 6] [] Q st
def Uq(Q:QQ):Ex→St→Prop
 | .normal,st=>finish 0 E0.T [.tmp 6] [] Q st
 | .exit _,_=>False
 | .goto i,st=>Jg 1 E0.P Bt i (Ke 1 ac_octet_Span).code (mask [0,1,2,7] st) (Ahv Q)
 | .ret,st=>finish 0 E0.T [.tmp 6] [] Q st
def Aan(Q:QQ):Ex→St→Prop
 | .normal,st=>Ay 23 E0.P Bt (Ag 23 ac_octet_Span).code (mask [7] st) (Uq Q)
 | .exit i,st=>(match (i.beq 0:Bool)with
 |true=>Ay 23 E0.P Bt (Ag 23 ac_octet_Span).code (mask [7] st) (Uq Q)
 |false=>False)
 | .goto i,st=>Jg 1 E0.P Bt i (Ke 1 ac_octet_Span).code (mask [0,1,2,7] st) (Ahv Q)
 | .ret,st=>finish 0 E0.T [.tmp 6] [] Q st
def Ur(K:KK):Ex→St→Prop
 | .normal,st=>Cc 7 E0.P Bt (A9 7 ac_octet_Span).code (mask [0,1,2,7] st) K
 | .exit i,st=>K (.exit i) st
 | .goto i,st=>K (.goto i) st
 | .ret,st=>K .ret st
def Us(K:KK):KK:=kC 1 (fun st=>Ay 22 E0.P Bt (Ag 22 ac_octet_Span).code (mask [0,1,2,7] st) (Ur K)) K
def Aao(K:KK):Ex→St→Prop
 | .normal,st=>Ay 20 E0.P Bt (Ag 20 ac_octet_Span).code (mask [7] st) (Us K)
 | .exit i,st=>(match (i.beq 2:Bool)with
 |true=>Ay 20 E0.P Bt (Ag 20 ac_octet_Span).code (mask [7] st) (Us K)
 |false=>(match (i.beq 1:Bool)with
 |true=>Ay 22 E0.P Bt (Ag 22 ac_octet_Span).code (mask [0,1,2,7] st) (Ur K)
 |false=>K (.exit i) st))
 | .goto i,st=>K (.goto i) st
 | .ret,st=>K .ret st
theorem Adj(t0:LB)(t1:Int)(t2r:LL)(t7:Int)(K:KK)(h:
 (Br (decide (t7<IntKind.i64.wrap ((↑t0.length:Int) - t1)))
 (Za t0 t1 t2r t7 t2r ((↑t2r.length:Int)) ((0:Int)) (Aao K))
 (K (.exit 0) ⟨[(7,Ai t7)],[]⟩))):Uw t0 t1 t2r t7 K:=Ca (A7 E0 Bt) (Bb Bt) 3 7 (A9 7 ac_octet_Span) [0,1,2,7] _ K rfl (kr (by kernel_rfl) h)
theorem Aby(t0:LB)(t1:Int)(t2r:LL)(t7:Int)(t22r:LL)(t23 t24:Int)(K:KK)(h:
 (Br (decide (t24<t23))
 (Am (((0:Int)≤t24∧t24<(↑t22r.length:Int))∧Cu [.int .i64] (t22r.getD t24.toNat [])=true)
 (Am ((0:Int)≤IntKind.i64.wrap (t1+t7)∧IntKind.i64.wrap (t1+t7)<(↑t0.length:Int))
 (Call E0.P Lg [.imm (.int .u8 ((↑(t0.getD (IntKind.i64.wrap (t1+t7)).toNat 0).toNat:Int)))] [] fun r0 g0=>
 Am (qP4 g0 r0)
 (Br (decide (rI r0=gI (t22r.getD t24.toNat []) 0))
 (K (.exit (1)) ⟨[(0,As t0),(1,Ai t1),(2,Al 1 t2r),(7,Ai t7)],[]⟩)
 (Za t0 t1 t2r t7 t22r t23 (IntKind.i64.wrap (t24+(1:Int))) K)))))
 (K (.exit (2)) ⟨[(7,Ai t7)],[]⟩))):Za t0 t1 t2r t7 t22r t23 t24 K:=Ca (A7 E0 Bt) (Bb Bt) 3 12 (A9 12 ac_octet_Span) [0,1,2,7,22,23,24] _ K rfl (kr (by kernel_rfl) h)
theorem Abp(t7:Int)(K:KK)(h:
 (K .ret ⟨[(6,Ai t7)],[]⟩)):Agq t7 K:=Ba (A7 E0 Bt) (Bb Bt) 3 23 (Ag 23 ac_octet_Span) [] _ K rfl (kr (by kernel_rfl) h)
theorem Ala(t0:LB)(t1:Int)(t2r:LL)(t7:Int)(K:KK)(h:
 (K .normal ⟨[(0,As t0),(1,Ai t1),(2,Al 1 t2r),(7,Ai (IntKind.i64.wrap (t7+(1:Int))))],[]⟩)):Agp t0 t1 t2r t7 K:=Ba (A7 E0 Bt) (Bb Bt) 3 22 (Ag 22 ac_octet_Span) [0,1,2,7] _ K rfl (kr (by kernel_rfl) h)
theorem Ak9(t7:Int)(K:KK)(h:
 (K (.exit 0) ⟨[(7,Ai t7)],[]⟩)):Ago t7 K:=Ba (A7 E0 Bt) (Bb Bt) 3 20 (Ag 20 ac_octet_Span) [0,1,2,7] _ K rfl (kr (by kernel_rfl) h)
theorem Adf(Q:QQ)(t6:Int)(h:
 (Q (Ai t6) [])):Uq Q .ret ⟨[(6,Ai t6)],[]⟩:=kr (by kernel_rfl) h
theorem Adg(Q:QQ)(t7:Int)(h:
 (Agq t7 (Uq Q))):Aan Q (.exit 0) ⟨[(7,Ai t7)],[]⟩:=kr (by kernel_rfl) h
theorem Aok(K:KK)(t0:LB)(t1:Int)(t2r:LL)(t7:Int)(h:
 (Uw t0 t1 t2r t7 K)):Ur K .normal ⟨[(0,As t0),(1,Ai t1),(2,Al 1 t2r),(7,Ai t7)],[]⟩:=kr (by kernel_rfl) h
theorem Aol(K:KK)(t7:Int)(h:
 (K (.exit 0) ⟨[(7,Ai t7)],[]⟩)):Us K (.exit 0) ⟨[(7,Ai t7)],[]⟩:=kr (by kernel_rfl) h
theorem Aom(K:KK)(t0:LB)(t1:Int)(t2r:LL)(t7:Int)(h:
 (Agp t0 t1 t2r t7 (Ur K))):Aao K (.exit (1)) ⟨[(0,As t0),(1,Ai t1),(2,Al 1 t2r),(7,Ai t7)],[]⟩:=kr (by kernel_rfl) h
theorem Aon(K:KK)(t7:Int)(h:
 (Ago t7 (Us K))):Aao K (.exit (2)) ⟨[(7,Ai t7)],[]⟩:=kr (by kernel_rfl) h
theorem Avg:Bw E0.P 54 ac_octet_Span.code Bt [.tmp 6]:=Bn _ _ Tryz.f54 [(1,[0,1,2,7],[]),(7,[0,1,2,7],[]),(9,[7],[]),(12,[0,1,2,7,22,23,24],[]),(14,[7],[]),(18,[0,1,2,7],[]),(20,[7],[0,1,2,7]),(21,[7],[]),(22,[0,1,2,7],[0,1,2,7]),(23,[7],[])] [6] _ 38 Tryz.func54 (by kernel_rfl) (by kernel_rfl) (by kernel_rfl) (by kernel_rfl)
theorem Aqy(a0:LB)(a1:Int)(a2:LL)(Q:QQ)(h:
 (Call E0.P Sw [As a0,Ai a1] [] fun r0 g0=>
 Am (Kq g0 r0)
 (Br (!rB r0)
 (Q (Ai 0) [])
 (Uw a0 a1 a2 ((0:Int)) (Aan Q))))):Call E0.P Rs [As a0,Ai a1,Al 1 a2] [] Q:=Bd (A7 E0 Bt) (Bb Bt) 3 0 54 ac_octet_Span [.tmp 6] Avg _ _ Q rfl rfl (kr (by kernel_rfl) h)
noncomputable def ac_octet_Ends:AC:=(Bf [] [4] (codeOf Tryz.f55) 0).1
abbrev Ac3:Nat:=33
theorem Ave:Bw E0.P 55 ac_octet_Ends.code Ac3 [.tmp 4]:=Bn _ _ Tryz.f55 [] [4] _ 33 Tryz.func55 (by kernel_rfl) (by kernel_rfl) (by kernel_rfl) (by kernel_rfl)
theorem Aqw(a0:LB)(a1:Int)(Q:QQ)(h:
 (Call E0.P Sw [As a0,Ai a1] [] fun r0 g0=>
 Am (Kq g0 r0)
 (Br (!rB r0)
 (Q (Ai 0) [])
 (Am ((0:Int)≤a1∧a1<(↑a0.length:Int))
 (Br (decide ((↑(a0.getD a1.toNat 0).toNat:Int)=(10:Int)))
 (Q (Ai 1) [])
 (Am ((0:Int)≤a1∧a1<(↑a0.length:Int))
 (Br (!decide ((↑(a0.getD a1.toNat 0).toNat:Int)=(13:Int)))
 (Q (Ai 0) [])
 (Am (decide (IntKind.i64.wrap (a1+(1:Int))<(↑a0.length:Int))=true→
 (0:Int)≤IntKind.i64.wrap (a1+(1:Int))∧IntKind.i64.wrap (a1+(1:Int))<(↑a0.length:Int))
 (Let (bif decide (IntKind.i64.wrap (a1+(1:Int))<(↑a0.length:Int))then
 decide ((↑(a0.getD (IntKind.i64.wrap (a1+(1:Int))).toNat 0).toNat:Int)=(10:Int))
 else false) fun x1=>
 Br (x1)
 (Q (Ai 2) [])
 (Q (Ai 1) [])))))))))):Call E0.P Nv [As a0,Ai a1] [] Q:=Bd (A7 E0 Ac3) (Bb Ac3) 3 0 55 ac_octet_Ends [.tmp 4] Ave _ _ Q rfl rfl (kr (by kernel_rfl) h)
noncomputable def ac_token_scanner_name:AC:=(Bf [(3,[0,2,4,5],[]),(5,[0,2],[]),(6,[0,2,4],[0,2,4,5]),(12,[0,2,4],[0,2]),(16,[0,2],[0,2,4,5]),(17,[0,2],[])] [2,3] (codeOf Tryz.f57) 0).1
abbrev Bh:Nat:=71
def Es(t4:Int)(t5:Bool)(u0:LB)(u1 u2 u3:Int)(u4:LB)(u5 u6:Int)(u7:LL)(K:KK):Prop:=Cc 3 E0.P Bh (A9 3 ac_token_scanner_name).code ⟨[(0, .ptr Ad 0),(2, .ptr nL2 0),(4, .imm (.int .u8 t4)),(5,Ab t5)],[(Ad, .blk Aa [As u0,Ai u1, .own Ar]),(nL2, .blk Ap [Ai u2,Ai u3,As u4,Ai u5,Ai u6]),(Ar, .arr (Ak+2) true 1 u7)]⟩ K
def Ox(t4:Int)(u0:LB)(u1 u2 u3:Int)(u4:LB)(u5 u6:Int)(u7:LL)(K:KK):Prop:=Ay 6 E0.P Bh (Ag 6 ac_token_scanner_name).code ⟨[(0, .ptr Ad 0),(2, .ptr nL2 0),(4, .imm (.int .u8 t4))],[(Ad, .blk Aa [As u0,Ai u1, .own Ar]),(nL2, .blk Ap [Ai u2,Ai u3,As u4,Ai u5,Ai u6]),(Ar, .arr (Ak+2) true 1 u7)]⟩ K
def Ju(t4:Int)(u0:LB)(u1 u2 u3:Int)(u4:LB)(u5 u6:Int)(u7:LL)(K:KK):Prop:=Ay 12 E0.P Bh (Ag 12 ac_token_scanner_name).code ⟨[(0, .ptr Ad 0),(2, .ptr nL2 0),(4, .imm (.int .u8 t4))],[(Ad, .blk Aa [As u0,Ai u1, .own Ar]),(nL2, .blk Ap [Ai u2,Ai u3,As u4,Ai u5,Ai u6]),(Ar, .arr (Ak+2) true 1 u7)]⟩ K
def Vb(u0:LB)(u1 u2 u3:Int)(u4:LB)(u5 u6:Int)(u7:LL)(K:KK):Prop:=Ay 17 E0.P Bh (Ag 17 ac_token_scanner_name).code ⟨[(0, .ptr Ad 0),(2, .ptr nL2 0)],[(Ad, .blk Aa [As u0,Ai u1, .own Ar]),(nL2, .blk Ap [Ai u2,Ai u3,As u4,Ai u5,Ai u6]),(Ar, .arr (Ak+2) true 1 u7)]⟩ K
def Np(u0:LB)(u1 u2 u3:Int)(u4:LB)(u5 u6:Int)(u7:LL)(K:KK):Prop:=Ay 16 E0.P Bh (Ag 16 ac_token_scanner_name).code ⟨[(0, .ptr Ad 0),(2, .ptr nL2 0)],[(Ad, .blk Aa [As u0,Ai u1, .own Ar]),(nL2, .blk Ap [Ai u2,Ai u3,As u4,Ai u5,Ai u6]),(Ar, .arr (Ak+2) true 1 u7)]⟩ K
def Oy(s:LB)(at_:Int)(out:LL)(Q:QQ):KK:=kE fun st=>finish 0 E0.T [.cell 2 46, .tmp 3] [(Ad, .blk Aa [As s,Ai at_, .own Ar]),(Ar, .arr (Ak+2) true 1 out)] Q st
def Dp(s:LB)(at_:Int)(out:LL)(Q:QQ):KK:=kF 0 (fun st=>Ay 17 E0.P Bh (Ag 17 ac_token_scanner_name).code (mask [0,2] st) (Oy s at_ out Q)) fun st=>finish 0 E0.T [.cell 2 46, .tmp 3] [(Ad, .blk Aa [As s,Ai at_, .own Ar]),(Ar, .arr (Ak+2) true 1 out)] Q st
def Gf(K:KK):Ex→St→Prop
 | .normal,st=>Cc 3 E0.P Bh (A9 3 ac_token_scanner_name).code (mask [0,2,4,5] st) K
 | .exit i,st=>K (.exit i) st
 | .goto i,st=>K (.goto i) st
 | .ret,st=>K .ret st
def Kh(K:KK):KK:=kP [0,2,4,5] K
def Hz(K:KK):KK:=kC 1 (fun st=>Ay 16 E0.P Bh (Ag 16 ac_token_scanner_name).code (mask [0,2] st) (Kh K)) K
theorem Sr(t4:Int)(t5:Bool)(u0:LB)(u1 u2 u3:Int)(u4:LB)(u5 u6:Int)(u7:LL)(K:KK)(h:
 (Br (t5 == true)
 (Call E0.P Lg [.imm (.int .u8 t4)] [] fun r0 g0=>
 Am (qP4 g0 r0)
 (Let (decide (rI r0=(2:Int))) fun x1=>
 Br (x1)
 (Ox t4 u0 u1 u2 u3 u4 u5 u6 u7 (Gf K))
 (K (.exit 0) ⟨[(0, .ptr Ad 0),(2, .ptr nL2 0)],[(Ad, .blk Aa [As u0,Ai u1, .own Ar]),(nL2, .blk Ap [Ai u2,Ai u3,As u4,Ai u5,Ai u6]),(Ar, .arr (Ak+2) true 1 u7)]⟩)))
 (Am ((!true)=false)
 (Let (false) fun x2=>
 Br (x2)
 (Ox t4 u0 u1 u2 u3 u4 u5 u6 u7 (Gf K))
 (K (.exit 0) ⟨[(0, .ptr Ad 0),(2, .ptr nL2 0)],[(Ad, .blk Aa [As u0,Ai u1, .own Ar]),(nL2, .blk Ap [Ai u2,Ai u3,As u4,Ai u5,Ai u6]),(Ar, .arr (Ak+2) true 1 u7)]⟩))))):Es t4 t5 u0 u1 u2 u3 u4 u5 u6 u7 K:=Ca (A7 E0 Bh) (Bb Bh) 3 3 (A9 3 ac_token_scanner_name) [0,2,4,5] _ K rfl (kr (by kernel_rfl) h)
theorem Adt(t4:Int)(u0:LB)(u1 u2 u3:Int)(u4:LB)(u5 u6:Int)(u7:LL)(K:KK)(h:
 (Br (decide (t4=(35:Int)))
 (Call E0.P G8 [.ptr Ad 0] [(Ad, .blk Aa [As u0,Ai (IntKind.i64.wrap (u1+(1:Int))), .own Ar]),(Ar, .arr (Ak+2) true 1 u7)] fun r0 g0=>
 Am (g0=
 [(Nm.arg 0,
 Entry.blk 70
 [.imm (.str (rS ((Au g0 Ad).getD 0 AV.undef))),
 .imm (.int .i64 (rI ((Au g0 Ad).getD 1 AV.undef))),
 AV.own Ar]),
 (Nm.arg 1,Entry.arr 7 true 1 (C8 g0 Ar))]∧
 r0= .tup [.imm (.int .u8 (rI (rT r0 0))), .imm (.bool (rB (rT r0 1)))])
 (Br (!rB (rT r0 1))
 (K .ret ⟨[(2, .ptr nL2 0),(3,Ai 4)],[(nL2, .blk Ap [Ai 0,Ai 0, .imm (.str []),Ai 0,Ai 0]),(Ad, .blk Aa [.imm (.str (rS ((Au g0 Ad).getD 0 AV.undef))), .imm (.int .i64 (rI ((Au g0 Ad).getD 1 AV.undef))), .own Ar]),(Ar, .arr (Ak+2) true 1 (C8 g0 Ar))]⟩)
 (Ju (rI (rT r0 0)) (rS ((Au g0 Ad).getD 0 AV.undef)) (rI ((Au g0 Ad).getD 1 AV.undef)) u2 u3 u4 u5 u6 (C8 g0 Ar) (Hz K))))
 (Ju t4 u0 (IntKind.i64.wrap (u1+(1:Int))) u2 u3 u4 u5 u6 u7 (Hz K)))):Ox t4 u0 u1 u2 u3 u4 u5 u6 u7 K:=Ba (A7 E0 Bh) (Bb Bh) 3 6 (Ag 6 ac_token_scanner_name) [0,2,4,5] _ K rfl (kr (by kernel_rfl) h)
theorem Ace(t4:Int)(u0:LB)(u1 u2 u3:Int)(u4:LB)(u5 u6:Int)(u7:LL)(K:KK)(h:
 (Am ((u7.length+1)*1≤140737488355328∧u7.length+1≤140737488355328)
 (Br (decide ((127:Int)<(↑(u7++[[IV.int .u8 t4]]).length:Int)))
 (K .ret ⟨[(2, .ptr nL2 0),(3,Ai 8)],[(nL2, .blk Ap [Ai 0,Ai 0, .imm (.str []),Ai 0,Ai 0]),(Ad, .blk Aa [As u0,Ai u1, .own Ar]),(Ar, .arr (Ak+2) true 1 (u7++[[IV.int .u8 t4]]))]⟩)
 (K .normal ⟨[(0, .ptr Ad 0),(2, .ptr nL2 0)],[(Ad, .blk Aa [As u0,Ai u1, .own Ar]),(nL2, .blk Ap [Ai u2,Ai u3,As u4,Ai u5,Ai u6]),(Ar, .arr (Ak+2) true 1 (u7++[[IV.int .u8 t4]]))]⟩)))):Ju t4 u0 u1 u2 u3 u4 u5 u6 u7 K:=Ba (A7 E0 Bh) (Bb Bh) 3 12 (Ag 12 ac_token_scanner_name) [0,2] _ K rfl (kr (by kernel_rfl) h)
theorem Acg(u0:LB)(u1 u2 u3:Int)(u4:LB)(u5 u6:Int)(u7:LL)(K:KK)(h:
 (Am (∀(r:List IV),r∈u7→Cu [.int .u8] r=true)
 (K .ret ⟨[(2, .ptr nL2 0),(3,Ai 0)],[(nL2, .blk Ap [Ai 2,Ai 0,As (List.map (fun r=>UInt8.ofNat (gI r 0).toNat) u7),Ai 0,Ai 0]),(Ad, .blk Aa [As u0,Ai u1, .own Ar]),(Ar, .arr (Ak+2) true 1 u7)]⟩))):Vb u0 u1 u2 u3 u4 u5 u6 u7 K:=Ba (A7 E0 Bh) (Bb Bh) 3 17 (Ag 17 ac_token_scanner_name) [] _ K rfl (kr (by kernel_rfl) h)
theorem Acf(u0:LB)(u1 u2 u3:Int)(u4:LB)(u5 u6:Int)(u7:LL)(K:KK)(h:
 (Br (decide ((↑u0.length:Int)≤u1))
 (K .normal ⟨[(0, .ptr Ad 0),(2, .ptr nL2 0),(4, .imm (.int .u8 ((0:Int)))),(5,Ab false)],[(Ad, .blk Aa [As u0,Ai u1, .own Ar]),(nL2, .blk Ap [Ai u2,Ai u3,As u4,Ai u5,Ai u6]),(Ar, .arr (Ak+2) true 1 u7)]⟩)
 (Am ((0:Int)≤u1∧u1<(↑u0.length:Int))
 (K .normal ⟨[(0, .ptr Ad 0),(2, .ptr nL2 0),(4, .imm (.int .u8 ((↑(u0.getD u1.toNat 0).toNat:Int)))),(5,Ab true)],[(Ad, .blk Aa [As u0,Ai u1, .own Ar]),(nL2, .blk Ap [Ai u2,Ai u3,As u4,Ai u5,Ai u6]),(Ar, .arr (Ak+2) true 1 u7)]⟩)))):Np u0 u1 u2 u3 u4 u5 u6 u7 K:=Ba (A7 E0 Bh) (Bb Bh) 3 16 (Ag 16 ac_token_scanner_name) [0,2,4,5] _ K rfl (kr (by kernel_rfl) h)
theorem Adv(s:LB)(at_:Int)(out:LL)(Q:QQ)(t3 u0 u1:Int)(u2:LB)(u3 u4:Int)(u5:LB)(u6:Int)(u7:LL)(h:
 (Q (.tup [.imm (.agg [.int .i64 u0, .int .i64 u1, .str u2, .int .i64 u3, .int .i64 u4]),Ai t3]) [(Ad, .blk Aa [As u5,Ai u6, .own Ar]),(Ar, .arr (Ak+2) true 1 u7)])):Oy s at_ out Q .ret ⟨[(2, .ptr nL2 0),(3,Ai t3)],[(nL2, .blk Ap [Ai u0,Ai u1,As u2,Ai u3,Ai u4]),(Ad, .blk Aa [As u5,Ai u6, .own Ar]),(Ar, .arr (Ak+2) true 1 u7)]⟩:=kr (by kernel_rfl) h
theorem Adw(s:LB)(at_:Int)(out:LL)(Q:QQ)(u0:LB)(u1 u2 u3:Int)(u4:LB)(u5 u6:Int)(u7:LL)(h:
 (Vb u0 u1 u2 u3 u4 u5 u6 u7 (Oy s at_ out Q))):Dp s at_ out Q (.exit 0) ⟨[(0, .ptr Ad 0),(2, .ptr nL2 0)],[(Ad, .blk Aa [As u0,Ai u1, .own Ar]),(nL2, .blk Ap [Ai u2,Ai u3,As u4,Ai u5,Ai u6]),(Ar, .arr (Ak+2) true 1 u7)]⟩:=kr (by kernel_rfl) h
theorem Adx(s:LB)(at_:Int)(out:LL)(Q:QQ)(t3 u0 u1:Int)(u2:LB)(u3 u4:Int)(u5:LB)(u6:Int)(u7:LL)(h:
 (Q (.tup [.imm (.agg [.int .i64 u0, .int .i64 u1, .str u2, .int .i64 u3, .int .i64 u4]),Ai t3]) [(Ad, .blk Aa [As u5,Ai u6, .own Ar]),(Ar, .arr (Ak+2) true 1 u7)])):Dp s at_ out Q .ret ⟨[(2, .ptr nL2 0),(3,Ai t3)],[(nL2, .blk Ap [Ai u0,Ai u1,As u2,Ai u3,Ai u4]),(Ad, .blk Aa [As u5,Ai u6, .own Ar]),(Ar, .arr (Ak+2) true 1 u7)]⟩:=kr (by kernel_rfl) h
theorem Ls(K:KK)(t3 u0 u1:Int)(u2:LB)(u3 u4:Int)(u5:LB)(u6:Int)(u7:LL)(h:
 (K .ret ⟨[(2, .ptr nL2 0),(3,Ai t3)],[(nL2, .blk Ap [Ai u0,Ai u1,As u2,Ai u3,Ai u4]),(Ad, .blk Aa [As u5,Ai u6, .own Ar]),(Ar, .arr (Ak+2) true 1 u7)]⟩)):Gf K .ret ⟨[(2, .ptr nL2 0),(3,Ai t3)],[(nL2, .blk Ap [Ai u0,Ai u1,As u2,Ai u3,Ai u4]),(Ad, .blk Aa [As u5,Ai u6, .own Ar]),(Ar, .arr (Ak+2) true 1 u7)]⟩:=kr (by kernel_rfl) h
theorem Sk(K:KK)(t4:Int)(t5:Bool)(u0:LB)(u1 u2 u3:Int)(u4:LB)(u5 u6:Int)(u7:LL)(h:
 (Es t4 t5 u0 u1 u2 u3 u4 u5 u6 u7 K)):Gf K .normal ⟨[(0, .ptr Ad 0),(2, .ptr nL2 0),(4, .imm (.int .u8 t4)),(5,Ab t5)],[(Ad, .blk Aa [As u0,Ai u1, .own Ar]),(nL2, .blk Ap [Ai u2,Ai u3,As u4,Ai u5,Ai u6]),(Ar, .arr (Ak+2) true 1 u7)]⟩:=kr (by kernel_rfl) h
theorem Sl(K:KK)(t4:Int)(t5:Bool)(u0:LB)(u1 u2 u3:Int)(u4:LB)(u5 u6:Int)(u7:LL)(h:
 (K .normal ⟨[(0, .ptr Ad 0),(2, .ptr nL2 0),(4, .imm (.int .u8 t4)),(5,Ab t5)],[(Ad, .blk Aa [As u0,Ai u1, .own Ar]),(nL2, .blk Ap [Ai u2,Ai u3,As u4,Ai u5,Ai u6]),(Ar, .arr (Ak+2) true 1 u7)]⟩)):Kh K .normal ⟨[(0, .ptr Ad 0),(2, .ptr nL2 0),(4, .imm (.int .u8 t4)),(5,Ab t5)],[(Ad, .blk Aa [As u0,Ai u1, .own Ar]),(nL2, .blk Ap [Ai u2,Ai u3,As u4,Ai u5,Ai u6]),(Ar, .arr (Ak+2) true 1 u7)]⟩:=kr (by kernel_rfl) h
theorem Ady(K:KK)(t3 u0 u1:Int)(u2:LB)(u3 u4:Int)(u5:LB)(u6:Int)(u7:LL)(h:
 (K .ret ⟨[(2, .ptr nL2 0),(3,Ai t3)],[(nL2, .blk Ap [Ai u0,Ai u1,As u2,Ai u3,Ai u4]),(Ad, .blk Aa [As u5,Ai u6, .own Ar]),(Ar, .arr (Ak+2) true 1 u7)]⟩)):Hz K .ret ⟨[(2, .ptr nL2 0),(3,Ai t3)],[(nL2, .blk Ap [Ai u0,Ai u1,As u2,Ai u3,Ai u4]),(Ad, .blk Aa [As u5,Ai u6, .own Ar]),(Ar, .arr (Ak+2) true 1 u7)]⟩:=kr (by kernel_rfl) h
theorem Adz(K:KK)(u0:LB)(u1 u2 u3:Int)(u4:LB)(u5 u6:Int)(u7:LL)(h:
 (Np u0 u1 u2 u3 u4 u5 u6 u7 (Kh K))):Hz K .normal ⟨[(0, .ptr Ad 0),(2, .ptr nL2 0)],[(Ad, .blk Aa [As u0,Ai u1, .own Ar]),(nL2, .blk Ap [Ai u2,Ai u3,As u4,Ai u5,Ai u6]),(Ar, .arr (Ak+2) true 1 u7)]⟩:=kr (by kernel_rfl) h
theorem Aid:Bw E0.P 57 ac_token_scanner_name.code Bh [.cell 2 46, .tmp 3]:=Bn _ _ Tryz.f57 [(3,[0,2,4,5],[]),(5,[0,2],[]),(6,[0,2,4],[0,2,4,5]),(12,[0,2,4],[0,2]),(16,[0,2],[0,2,4,5]),(17,[0,2],[])] [2,3] _ 71 Tryz.func57 (by kernel_rfl) (by kernel_rfl) (by kernel_rfl) (by kernel_rfl)
theorem Agb(s:LB)(at_:Int)(out:LL)(Q:QQ)(h:
 (Br (decide ((↑s.length:Int)≤IntKind.i64.wrap (at_+(1:Int))))
 (Es ((0:Int)) false s (IntKind.i64.wrap (at_+(1:Int))) ((0:Int)) ((0:Int)) [] ((0:Int)) ((0:Int)) out (Dp s at_ out Q))
 (Am ((0:Int)≤IntKind.i64.wrap (at_+(1:Int))∧IntKind.i64.wrap (at_+(1:Int))<(↑s.length:Int))
 (Es ((↑(s.getD (IntKind.i64.wrap (at_+(1:Int))).toNat 0).toNat:Int)) true s (IntKind.i64.wrap (at_+(1:Int))) ((0:Int)) ((0:Int)) [] ((0:Int)) ((0:Int)) out (Dp s at_ out Q))))):Call E0.P Px [.ptr (.arg 0) 0] [(.arg 0, .blk Aa [.imm (.str s), .imm (.int .i64 at_), .own (.arg 1)]),(.arg 1, .arr (Ak+2) true 1 out)] Q:=Bd (A7 E0 Bh) (Bb Bh) 3 0 57 ac_token_scanner_name [.cell 2 46, .tmp 3] Aid _ _ Q rfl rfl (kr (by kernel_rfl) h)
noncomputable def ac_token_scanner_text:AC:=(Bf [(1,[0,2,4],[]),(5,[0,2,4],[]),(7,[2],[]),(15,[2],[]),(20,[0,2,4],[]),(23,[0,2,4,5],[0,2,4]),(30,[2],[])] [2,3] (codeOf Tryz.f58) 0).1
abbrev Bp:Nat:=107
def H5(t4:Int)(u0:LB)(u1 u2 u3:Int)(u4:LB)(u5 u6:Int)(u7:LL)(K:KK):Prop:=Cc 5 E0.P Bp (A9 5 ac_token_scanner_text).code ⟨[(0, .ptr Ad 0),(2, .ptr nL2 0),(4,Ai t4)],[(Ad, .blk Aa [As u0,Ai u1, .own Ar]),(nL2, .blk Ap [Ai u2,Ai u3,As u4,Ai u5,Ai u6]),(Ar, .arr (Ak+2) true 1 u7)]⟩ K
def Fw(t4 t5:Int)(u0:LB)(u1 u2 u3:Int)(u4:LB)(u5 u6:Int)(u7:LL)(K:KK):Prop:=Ay 23 E0.P Bp (Ag 23 ac_token_scanner_text).code ⟨[(0, .ptr Ad 0),(2, .ptr nL2 0),(4,Ai t4),(5, .imm (.int .u8 t5))],[(Ad, .blk Aa [As u0,Ai u1, .own Ar]),(nL2, .blk Ap [Ai u2,Ai u3,As u4,Ai u5,Ai u6]),(Ar, .arr (Ak+2) true 1 u7)]⟩ K
def Vd(u0 u1:Int)(u2:LB)(u3 u4:Int)(u5:LB)(u6:Int)(u7:LL)(K:KK):Prop:=Ay 30 E0.P Bp (Ag 30 ac_token_scanner_text).code ⟨[(2, .ptr nL2 0)],[(nL2, .blk Ap [Ai u0,Ai u1,As u2,Ai u3,Ai u4]),(Ad, .blk Aa [As u5,Ai u6, .own Ar]),(Ar, .arr (Ak+2) true 1 u7)]⟩ K
def Wd(s:LB)(at_:Int)(out:LL)(Q:QQ):KK:=kE fun st=>finish 0 E0.T [.cell 2 46, .tmp 3] [(Ad, .blk Aa [As s,Ai at_, .own Ar]),(Ar, .arr (Ak+2) true 1 out)] Q st
def Ki(s:LB)(at_:Int)(out:LL)(Q:QQ):Ex→St→Prop
 | .normal,st=>finish 0 E0.T [.cell 2 46, .tmp 3] [(Ad, .blk Aa [As s,Ai at_, .own Ar]),(Ar, .arr (Ak+2) true 1 out)] Q st
 | .exit _,_=>False
 | .goto i,st=>Jg 1 E0.P Bp i (Ke 1 ac_token_scanner_text).code (mask [0,2,4] st) (Wd s at_ out Q)
 | .ret,st=>finish 0 E0.T [.cell 2 46, .tmp 3] [(Ad, .blk Aa [As s,Ai at_, .own Ar]),(Ar, .arr (Ak+2) true 1 out)] Q st
def Gg(s:LB)(at_:Int)(out:LL)(Q:QQ):Ex→St→Prop
 | .normal,st=>Ay 30 E0.P Bp (Ag 30 ac_token_scanner_text).code (mask [2] st) (Ki s at_ out Q)
 | .exit i,st=>(match (i.beq 0:Bool)with
 |true=>Ay 30 E0.P Bp (Ag 30 ac_token_scanner_text).code (mask [2] st) (Ki s at_ out Q)
 |false=>False)
 | .goto i,st=>Jg 1 E0.P Bp i (Ke 1 ac_token_scanner_text).code (mask [0,2,4] st) (Wd s at_ out Q)
 | .ret,st=>finish 0 E0.T [.cell 2 46, .tmp 3] [(Ad, .blk Aa [As s,Ai at_, .own Ar]),(Ar, .arr (Ak+2) true 1 out)] Q st
def Er(K:KK):KK:=kC 1 (fun st=>Cc 5 E0.P Bp (A9 5 ac_token_scanner_text).code (mask [0,2,4] st) K) K
theorem Su(t4:Int)(u0:LB)(u1 u2 u3:Int)(u4:LB)(u5 u6:Int)(u7:LL)(K:KK)(h:
 (Br (decide (u1<(↑u0.length:Int)))
 (Am ((0:Int)≤u1∧u1<(↑u0.length:Int))
 (Call E0.P Nv [As u0,Ai u1] [] fun r0 g0=>
 Am (qP4 g0 r0)
 (Br (decide ((0:Int)<rI r0))
 (Fw t4 ((10:Int)) u0 (IntKind.i64.wrap (u1+if rI r0>(1:Int)then rI r0 else(1:Int))) u2 u3 u4 u5 u6 u7 (Er K))
 (Br (decide ((↑(u0.getD u1.toNat 0).toNat:Int)=(92:Int)))
 (Call E0.P Jv [.ptr Ad 0] [(Ad, .blk Aa [As u0,Ai (IntKind.i64.wrap (u1+if rI r0>(1:Int)then rI r0 else(1:Int))), .own Ar]),(Ar, .arr (Ak+2) true 1 u7)] fun r1 g1=>
 Am (g1=
 [(Nm.arg 0,
 Entry.blk 70
 [.imm (.str (rS ((Au g1 Ad).getD 0 AV.undef))),
 .imm (.int .i64 (rI ((Au g1 Ad).getD 1 AV.undef))),
 AV.own Ar]),
 (Nm.arg 1,Entry.arr 7 true 1 (C8 g1 Ar))]∧
 r1= .imm (.bool (rB r1)))
 (Br (!rB r1)
 (K (.exit 0) ⟨[(2, .ptr nL2 0)],[(nL2, .blk Ap [Ai u2,Ai u3,As u4,Ai u5,Ai u6]),(Ad, .blk Aa [.imm (.str (rS ((Au g1 Ad).getD 0 AV.undef))), .imm (.int .i64 (rI ((Au g1 Ad).getD 1 AV.undef))), .own Ar]),(Ar, .arr (Ak+2) true 1 (C8 g1 Ar))]⟩)
 (Br (decide ((65535:Int)<(↑(C8 g1 Ar).length:Int)))
 (K .ret ⟨[(2, .ptr nL2 0),(3,Ai 8)],[(nL2, .blk Ap [Ai 0,Ai 0, .imm (.str []),Ai 0,Ai 0]),(Ad, .blk Aa [.imm (.str (rS ((Au g1 Ad).getD 0 AV.undef))), .imm (.int .i64 (rI ((Au g1 Ad).getD 1 AV.undef))), .own Ar]),(Ar, .arr (Ak+2) true 1 (C8 g1 Ar))]⟩)
 (H5 t4 (rS ((Au g1 Ad).getD 0 AV.undef)) (rI ((Au g1 Ad).getD 1 AV.undef)) u2 u3 u4 u5 u6 (C8 g1 Ar) K))))
 (Br (decide ((↑(u0.getD u1.toNat 0).toNat:Int)=(40:Int)))
 (Fw (IntKind.i64.wrap (t4+(1:Int))) ((↑(u0.getD u1.toNat 0).toNat:Int)) u0 (IntKind.i64.wrap (u1+if rI r0>(1:Int)then rI r0 else(1:Int))) u2 u3 u4 u5 u6 u7 (Er K))
 (Br (decide ((↑(u0.getD u1.toNat 0).toNat:Int)=(41:Int)))
 (Fw (IntKind.i64.wrap (t4 - (1:Int))) ((↑(u0.getD u1.toNat 0).toNat:Int)) u0 (IntKind.i64.wrap (u1+if rI r0>(1:Int)then rI r0 else(1:Int))) u2 u3 u4 u5 u6 u7 (Er K))
 (Fw t4 ((↑(u0.getD u1.toNat 0).toNat:Int)) u0 (IntKind.i64.wrap (u1+if rI r0>(1:Int)then rI r0 else(1:Int))) u2 u3 u4 u5 u6 u7 (Er K))))))))
 (K (.exit 0) ⟨[(2, .ptr nL2 0)],[(nL2, .blk Ap [Ai u2,Ai u3,As u4,Ai u5,Ai u6]),(Ad, .blk Aa [As u0,Ai u1, .own Ar]),(Ar, .arr (Ak+2) true 1 u7)]⟩))):H5 t4 u0 u1 u2 u3 u4 u5 u6 u7 K:=Ca (A7 E0 Bp) (Bb Bp) 3 5 (A9 5 ac_token_scanner_text) [0,2,4] _ K rfl (kr (by kernel_rfl) h)
theorem Rj(t4 t5:Int)(u0:LB)(u1 u2 u3:Int)(u4:LB)(u5 u6:Int)(u7:LL)(K:KK)(h:
 (Br (decide (t4=(0:Int)))
 (Am (∀(r:List IV),r∈u7→Cu [.int .u8] r=true)
 (K .ret ⟨[(2, .ptr nL2 0),(3,Ai 0)],[(nL2, .blk Ap [Ai 3,Ai 0,As (List.map (fun r=>UInt8.ofNat (gI r 0).toNat) u7),Ai 0,Ai 0]),(Ad, .blk Aa [As u0,Ai u1, .own Ar]),(Ar, .arr (Ak+2) true 1 u7)]⟩))
 (Am ((u7.length+1)*1≤140737488355328∧u7.length+1≤140737488355328)
 (Br (decide ((65535:Int)<(↑(u7++[[IV.int .u8 t5]]).length:Int)))
 (K .ret ⟨[(2, .ptr nL2 0),(3,Ai 8)],[(nL2, .blk Ap [Ai 0,Ai 0, .imm (.str []),Ai 0,Ai 0]),(Ad, .blk Aa [As u0,Ai u1, .own Ar]),(Ar, .arr (Ak+2) true 1 (u7++[[IV.int .u8 t5]]))]⟩)
 (K .normal ⟨[(0, .ptr Ad 0),(2, .ptr nL2 0),(4,Ai t4)],[(Ad, .blk Aa [As u0,Ai u1, .own Ar]),(nL2, .blk Ap [Ai u2,Ai u3,As u4,Ai u5,Ai u6]),(Ar, .arr (Ak+2) true 1 (u7++[[IV.int .u8 t5]]))]⟩))))):Fw t4 t5 u0 u1 u2 u3 u4 u5 u6 u7 K:=Ba (A7 E0 Bp) (Bb Bp) 3 23 (Ag 23 ac_token_scanner_text) [0,2,4] _ K rfl (kr (by kernel_rfl) h)
theorem Ach(u0 u1:Int)(u2:LB)(u3 u4:Int)(u5:LB)(u6:Int)(u7:LL)(K:KK)(h:
 (K .ret ⟨[(2, .ptr nL2 0),(3,Ai 5)],[(nL2, .blk Ap [Ai 0,Ai 0, .imm (.str []),Ai 0,Ai 0]),(Ad, .blk Aa [As u5,Ai u6, .own Ar]),(Ar, .arr (Ak+2) true 1 u7)]⟩)):Vd u0 u1 u2 u3 u4 u5 u6 u7 K:=Ba (A7 E0 Bp) (Bb Bp) 3 30 (Ag 30 ac_token_scanner_text) [] _ K rfl (kr (by kernel_rfl) h)
theorem Ad0(s:LB)(at_:Int)(out:LL)(Q:QQ)(t3 u0 u1:Int)(u2:LB)(u3 u4:Int)(u5:LB)(u6:Int)(u7:LL)(h:
 (Q (.tup [.imm (.agg [.int .i64 u0, .int .i64 u1, .str u2, .int .i64 u3, .int .i64 u4]),Ai t3]) [(Ad, .blk Aa [As u5,Ai u6, .own Ar]),(Ar, .arr (Ak+2) true 1 u7)])):Ki s at_ out Q .ret ⟨[(2, .ptr nL2 0),(3,Ai t3)],[(nL2, .blk Ap [Ai u0,Ai u1,As u2,Ai u3,Ai u4]),(Ad, .blk Aa [As u5,Ai u6, .own Ar]),(Ar, .arr (Ak+2) true 1 u7)]⟩:=kr (by kernel_rfl) h
theorem Ad1(s:LB)(at_:Int)(out:LL)(Q:QQ)(u0 u1:Int)(u2:LB)(u3 u4:Int)(u5:LB)(u6:Int)(u7:LL)(h:
 (Vd u0 u1 u2 u3 u4 u5 u6 u7 (Ki s at_ out Q))):Gg s at_ out Q (.exit 0) ⟨[(2, .ptr nL2 0)],[(nL2, .blk Ap [Ai u0,Ai u1,As u2,Ai u3,Ai u4]),(Ad, .blk Aa [As u5,Ai u6, .own Ar]),(Ar, .arr (Ak+2) true 1 u7)]⟩:=kr (by kernel_rfl) h
theorem Lt(s:LB)(at_:Int)(out:LL)(Q:QQ)(t3 u0 u1:Int)(u2:LB)(u3 u4:Int)(u5:LB)(u6:Int)(u7:LL)(h:
 (Q (.tup [.imm (.agg [.int .i64 u0, .int .i64 u1, .str u2, .int .i64 u3, .int .i64 u4]),Ai t3]) [(Ad, .blk Aa [As u5,Ai u6, .own Ar]),(Ar, .arr (Ak+2) true 1 u7)])):Gg s at_ out Q .ret ⟨[(2, .ptr nL2 0),(3,Ai t3)],[(nL2, .blk Ap [Ai u0,Ai u1,As u2,Ai u3,Ai u4]),(Ad, .blk Aa [As u5,Ai u6, .own Ar]),(Ar, .arr (Ak+2) true 1 u7)]⟩:=kr (by kernel_rfl) h
theorem Sn(K:KK)(t3 u0 u1:Int)(u2:LB)(u3 u4:Int)(u5:LB)(u6:Int)(u7:LL)(h:
 (K .ret ⟨[(2, .ptr nL2 0),(3,Ai t3)],[(nL2, .blk Ap [Ai u0,Ai u1,As u2,Ai u3,Ai u4]),(Ad, .blk Aa [As u5,Ai u6, .own Ar]),(Ar, .arr (Ak+2) true 1 u7)]⟩)):Er K .ret ⟨[(2, .ptr nL2 0),(3,Ai t3)],[(nL2, .blk Ap [Ai u0,Ai u1,As u2,Ai u3,Ai u4]),(Ad, .blk Aa [As u5,Ai u6, .own Ar]),(Ar, .arr (Ak+2) true 1 u7)]⟩:=kr (by kernel_rfl) h
theorem Ad2(K:KK)(t4:Int)(u0:LB)(u1 u2 u3:Int)(u4:LB)(u5 u6:Int)(u7:LL)(h:
 (H5 t4 u0 u1 u2 u3 u4 u5 u6 u7 K)):Er K .normal ⟨[(0, .ptr Ad 0),(2, .ptr nL2 0),(4,Ai t4)],[(Ad, .blk Aa [As u0,Ai u1, .own Ar]),(nL2, .blk Ap [Ai u2,Ai u3,As u4,Ai u5,Ai u6]),(Ar, .arr (Ak+2) true 1 u7)]⟩:=kr (by kernel_rfl) h
theorem Aie:Bw E0.P 58 ac_token_scanner_text.code Bp [.cell 2 46, .tmp 3]:=Bn _ _ Tryz.f58 [(1,[0,2,4],[]),(5,[0,2,4],[]),(7,[2],[]),(15,[2],[]),(20,[0,2,4],[]),(23,[0,2,4,5],[0,2,4]),(30,[2],[])] [2,3] _ 107 Tryz.func58 (by kernel_rfl) (by kernel_rfl) (by kernel_rfl) (by kernel_rfl)
theorem Agc(s:LB)(at_:Int)(out:LL)(Q:QQ)(h:
 (H5 ((1:Int)) s (IntKind.i64.wrap (at_+(1:Int))) ((0:Int)) ((0:Int)) [] ((0:Int)) ((0:Int)) out (Gg s at_ out Q))):Call E0.P Py [.ptr (.arg 0) 0] [(.arg 0, .blk Aa [.imm (.str s), .imm (.int .i64 at_), .own (.arg 1)]),(.arg 1, .arr (Ak+2) true 1 out)] Q:=Bd (A7 E0 Bp) (Bb Bp) 3 0 58 ac_token_scanner_text [.cell 2 46, .tmp 3] Aie _ _ Q rfl rfl (kr (by kernel_rfl) h)
noncomputable def ac_token_scanner_hex:AC:=(Bf [(5,[1,2,4,5,6,7],[]),(7,[2],[]),(19,[1,2,4,5],[1,2,4,5]),(22,[1,2,4,5],[1,2,4,5,6,7]),(23,[2],[])] [2,3] (codeOf Tryz.f60) 0).1
abbrev Bo:Nat:=75
def E9(t6:Int)(t7:Bool)(u0 u1:Int)(u2:LB)(u3 u4 u5:Int)(u6:LB)(u7:Int)(u8:LL)(K:KK):Prop:=Cc 5 E0.P Bo (A9 5 ac_token_scanner_hex).code ⟨[(1, .ptr Fp 0),(2, .ptr nL2 0),(4, .ptr nL4 0),(5, .fn D9 [.ptr nL4 0, .ptr Fp 0]),(6, .imm (.int .u8 t6)),(7,Ab t7)],[(Fp, .blk 67 [.ptr Ad 0]),(nL2, .blk Ap [Ai u0,Ai u1,As u2,Ai u3,Ai u4]),(nL4, .blk Wo [Ai u5]),(Ad, .blk Aa [As u6,Ai u7, .own Ar]),(Ar, .arr (Ak+2) true 1 u8)]⟩ K
def D8(u0 u1:Int)(u2:LB)(u3 u4 u5:Int)(u6:LB)(u7:Int)(u8:LL)(K:KK):Prop:=Ay 19 E0.P Bo (Ag 19 ac_token_scanner_hex).code ⟨[(1, .ptr Fp 0),(2, .ptr nL2 0),(4, .ptr nL4 0),(5, .fn D9 [.ptr nL4 0, .ptr Fp 0])],[(Fp, .blk 67 [.ptr Ad 0]),(nL2, .blk Ap [Ai u0,Ai u1,As u2,Ai u3,Ai u4]),(nL4, .blk Wo [Ai u5]),(Ad, .blk Aa [As u6,Ai u7, .own Ar]),(Ar, .arr (Ak+2) true 1 u8)]⟩ K
def V7(u0 u1:Int)(u2:LB)(u3 u4:Int)(u5:LB)(u6:Int)(u7:LL)(K:KK):Prop:=Ay 23 E0.P Bo (Ag 23 ac_token_scanner_hex).code ⟨[(2, .ptr nL2 0)],[(nL2, .blk Ap [Ai u0,Ai u1,As u2,Ai u3,Ai u4]),(Ad, .blk Aa [As u5,Ai u6, .own Ar]),(Ar, .arr (Ak+2) true 1 u7)]⟩ K
def V6(u0 u1:Int)(u2:LB)(u3 u4 u5:Int)(u6:LB)(u7:Int)(u8:LL)(K:KK):Prop:=Ay 22 E0.P Bo (Ag 22 ac_token_scanner_hex).code ⟨[(1, .ptr Fp 0),(2, .ptr nL2 0),(4, .ptr nL4 0),(5, .fn D9 [.ptr nL4 0, .ptr Fp 0])],[(Fp, .blk 67 [.ptr Ad 0]),(nL2, .blk Ap [Ai u0,Ai u1,As u2,Ai u3,Ai u4]),(nL4, .blk Wo [Ai u5]),(Ad, .blk Aa [As u6,Ai u7, .own Ar]),(Ar, .arr (Ak+2) true 1 u8)]⟩ K
def Pj(s:LB)(at_:Int)(out:LL)(Q:QQ):KK:=kE fun st=>finish 0 E0.T [.cell 2 46, .tmp 3] [(Ad, .blk Aa [As s,Ai at_, .own Ar]),(Ar, .arr (Ak+2) true 1 out)] Q st
def Du(s:LB)(at_:Int)(out:LL)(Q:QQ):KK:=kF 0 (fun st=>Ay 23 E0.P Bo (Ag 23 ac_token_scanner_hex).code (mask [2] st) (Pj s at_ out Q)) fun st=>finish 0 E0.T [.cell 2 46, .tmp 3] [(Ad, .blk Aa [As s,Ai at_, .own Ar]),(Ar, .arr (Ak+2) true 1 out)] Q st
def Pk(K:KK):Ex→St→Prop
 | .normal,st=>Cc 5 E0.P Bo (A9 5 ac_token_scanner_hex).code (mask [1,2,4,5,6,7] st) K
 | .exit i,st=>K (.exit i) st
 | .goto i,st=>K (.goto i) st
 | .ret,st=>K .ret st
def Di(K:KK):KK:=kC 1 (fun st=>Ay 22 E0.P Bo (Ag 22 ac_token_scanner_hex).code (mask [1,2,4,5] st) (Pk K)) K
theorem Tq(t6:Int)(t7:Bool)(u0 u1:Int)(u2:LB)(u3 u4 u5:Int)(u6:LB)(u7:Int)(u8:LL)(K:KK)(h:
 (Br (t7)
 (Call E0.P T9 [.imm (.int .u8 t6)] [] fun r0 g0=>
 Am (qP4 g0 r0)
 (Br (decide (t6=(62:Int)))
 (Br (decide ((65535:Int)<(↑u8.length:Int)))
 (K .ret ⟨[(2, .ptr nL2 0),(3,Ai 8)],[(nL2, .blk Ap [Ai 0,Ai 0, .imm (.str []),Ai 0,Ai 0]),(Ad, .blk Aa [As u6,Ai (IntKind.i64.wrap (u7+(1:Int))), .own Ar]),(Ar, .arr (Ak+2) true 1 u8)]⟩)
 (Am (∀(r:List IV),r∈u8→Cu [.int .u8] r=true)
 (K .ret ⟨[(2, .ptr nL2 0),(3,Ai 0)],[(nL2, .blk Ap [Ai 3,Ai 0,As (List.map (fun r=>UInt8.ofNat (gI r 0).toNat) u8),Ai 0,Ai 0]),(Ad, .blk Aa [As u6,Ai (IntKind.i64.wrap (u7+(1:Int))), .own Ar]),(Ar, .arr (Ak+2) true 1 u8)]⟩)))
 (Br (decide ((0:Int)≤rI r0))
 (Am ((2:Int)≠(0:Int))
 (Br (decide ((IntKind.i64.wrap (u5+(1:Int))).tmod (2:Int)=(1:Int)))
 (Am ((0:Int)≤(4:Int))
 ((Am ((u8.length+1)*1≤140737488355328∧u8.length+1≤140737488355328)
 (D8 u0 u1 u2 u3 u4 (IntKind.i64.wrap (u5+(1:Int))) u6 (IntKind.i64.wrap (u7+(1:Int))) (u8++[[IV.int .u8 (IntKind.u8.wrap (IntKind.i64.wrap (rI r0*(2:Int) ^ 4)))]]) (Di K)))∧
 ((Am ((u8.length+1)*1≤140737488355328∧u8.length+1≤140737488355328)
 (D8 u0 u1 u2 u3 u4 (IntKind.i64.wrap (u5+(1:Int))) u6 (IntKind.i64.wrap (u7+(1:Int))) (u8++[[IV.int .u8 (IntKind.u8.wrap (IntKind.i64.wrap (rI r0*(2:Int) ^ 4)))]]) (Di K)))∧
 (Am ((u8.length+1)*1≤140737488355328∧u8.length+1≤140737488355328)
 (D8 u0 u1 u2 u3 u4 (IntKind.i64.wrap (u5+(1:Int))) u6 (IntKind.i64.wrap (u7+(1:Int))) (u8++[[IV.int .u8 (IntKind.u8.wrap (IntKind.i64.wrap (rI r0*(2:Int) ^ 4)))]]) (Di K))))))
 (Am ((0:Int)≤IntKind.i64.wrap ((↑u8.length:Int) - (1:Int))∧
 IntKind.i64.wrap ((↑u8.length:Int) - (1:Int))<(↑u8.length:Int))
 (Am ((IntKind.i64.wrap ((↑u8.length:Int) - (1:Int))).toNat<u8.length∧
 Cu [.int .u8]
 (List.take 1
 (List.drop 0 (u8.getD (IntKind.i64.wrap ((↑u8.length:Int) - (1:Int))).toNat [])))=
 true)
 (Am ((0:Int)≤IntKind.i64.wrap ((↑u8.length:Int) - (1:Int))∧
 IntKind.i64.wrap ((↑u8.length:Int) - (1:Int))<(↑u8.length:Int))
 (Am ((IntKind.i64.wrap ((↑u8.length:Int) - (1:Int))).toNat<u8.length)
 (D8 u0 u1 u2 u3 u4 (IntKind.i64.wrap (u5+(1:Int))) u6 (IntKind.i64.wrap (u7+(1:Int))) (u8.set (IntKind.i64.wrap ((↑u8.length:Int) - (1:Int))).toNat
 [.int .u8
 (IntKind.u8.wrap
 (↑(BitVec.ofInt (8:Nat)
 (gI
 (List.take (1:Nat)
 (List.drop (0:Nat) (u8.getD (IntKind.i64.wrap ((↑u8.length:Int) - (1:Int))).toNat [])))
 (0:Nat)) |||
 BitVec.ofInt (8:Nat) (IntKind.u8.wrap (rI r0))).toNat:
 Int))]) (Di K))))))))
 (Call E0.P Lg [.imm (.int .u8 t6)] [] fun r1 g1=>
 Am (qP4 g1 r1)
 (Br (!decide (rI r1=(0:Int)))
 (K .ret ⟨[(2, .ptr nL2 0),(3,Ai 4)],[(nL2, .blk Ap [Ai 0,Ai 0, .imm (.str []),Ai 0,Ai 0]),(Ad, .blk Aa [As u6,Ai (IntKind.i64.wrap (u7+(1:Int))), .own Ar]),(Ar, .arr (Ak+2) true 1 u8)]⟩)
 (D8 u0 u1 u2 u3 u4 u5 u6 (IntKind.i64.wrap (u7+(1:Int))) u8 (Di K)))))))
 (K (.exit 0) ⟨[(2, .ptr nL2 0)],[(nL2, .blk Ap [Ai u0,Ai u1,As u2,Ai u3,Ai u4]),(Ad, .blk Aa [As u6,Ai u7, .own Ar]),(Ar, .arr (Ak+2) true 1 u8)]⟩))):E9 t6 t7 u0 u1 u2 u3 u4 u5 u6 u7 u8 K:=Ca (A7 E0 Bo) (Bb Bo) 3 5 (A9 5 ac_token_scanner_hex) [1,2,4,5,6,7] _ K rfl (kr (by kernel_rfl) h)
theorem Adq(u0 u1:Int)(u2:LB)(u3 u4 u5:Int)(u6:LB)(u7:Int)(u8:LL)(K:KK)(h:
 (Am ((2:Int)≠(0:Int))
 (Br (decide ((65535:Int)<IntKind.i64.wrap (u5.tdiv (2:Int))))
 (K .ret ⟨[(2, .ptr nL2 0),(3,Ai 8)],[(nL2, .blk Ap [Ai 0,Ai 0, .imm (.str []),Ai 0,Ai 0]),(Ad, .blk Aa [As u6,Ai u7, .own Ar]),(Ar, .arr (Ak+2) true 1 u8)]⟩)
 (K .normal ⟨[(1, .ptr Fp 0),(2, .ptr nL2 0),(4, .ptr nL4 0),(5, .fn D9 [.ptr nL4 0, .ptr Fp 0])],[(Fp, .blk 67 [.ptr Ad 0]),(nL2, .blk Ap [Ai u0,Ai u1,As u2,Ai u3,Ai u4]),(nL4, .blk Wo [Ai u5]),(Ad, .blk Aa [As u6,Ai u7, .own Ar]),(Ar, .arr (Ak+2) true 1 u8)]⟩)))):D8 u0 u1 u2 u3 u4 u5 u6 u7 u8 K:=Ba (A7 E0 Bo) (Bb Bo) 3 19 (Ag 19 ac_token_scanner_hex) [1,2,4,5] _ K rfl (kr (by kernel_rfl) h)
theorem Ads(u0 u1:Int)(u2:LB)(u3 u4:Int)(u5:LB)(u6:Int)(u7:LL)(K:KK)(h:
 (K .ret ⟨[(2, .ptr nL2 0),(3,Ai 5)],[(nL2, .blk Ap [Ai 0,Ai 0, .imm (.str []),Ai 0,Ai 0]),(Ad, .blk Aa [As u5,Ai u6, .own Ar]),(Ar, .arr (Ak+2) true 1 u7)]⟩)):V7 u0 u1 u2 u3 u4 u5 u6 u7 K:=Ba (A7 E0 Bo) (Bb Bo) 3 23 (Ag 23 ac_token_scanner_hex) [] _ K rfl (kr (by kernel_rfl) h)
theorem Adr(u0 u1:Int)(u2:LB)(u3 u4 u5:Int)(u6:LB)(u7:Int)(u8:LL)(K:KK)(h:
 (Br (decide ((↑u6.length:Int)≤u7))
 (K .normal ⟨[(1, .ptr Fp 0),(2, .ptr nL2 0),(4, .ptr nL4 0),(5, .fn D9 [.ptr nL4 0, .ptr Fp 0]),(6, .imm (.int .u8 ((0:Int)))),(7,Ab false)],[(Fp, .blk 67 [.ptr Ad 0]),(nL2, .blk Ap [Ai u0,Ai u1,As u2,Ai u3,Ai u4]),(nL4, .blk Wo [Ai u5]),(Ad, .blk Aa [As u6,Ai u7, .own Ar]),(Ar, .arr (Ak+2) true 1 u8)]⟩)
 (Am ((0:Int)≤u7∧u7<(↑u6.length:Int))
 (K .normal ⟨[(1, .ptr Fp 0),(2, .ptr nL2 0),(4, .ptr nL4 0),(5, .fn D9 [.ptr nL4 0, .ptr Fp 0]),(6, .imm (.int .u8 ((↑(u6.getD u7.toNat 0).toNat:Int)))),(7,Ab true)],[(Fp, .blk 67 [.ptr Ad 0]),(nL2, .blk Ap [Ai u0,Ai u1,As u2,Ai u3,Ai u4]),(nL4, .blk Wo [Ai u5]),(Ad, .blk Aa [As u6,Ai u7, .own Ar]),(Ar, .arr (Ak+2) true 1 u8)]⟩)))):V6 u0 u1 u2 u3 u4 u5 u6 u7 u8 K:=Ba (A7 E0 Bo) (Bb Bo) 3 22 (Ag 22 ac_token_scanner_hex) [1,2,4,5,6,7] _ K rfl (kr (by kernel_rfl) h)
theorem Afg(s:LB)(at_:Int)(out:LL)(Q:QQ)(t3 u0 u1:Int)(u2:LB)(u3 u4:Int)(u5:LB)(u6:Int)(u7:LL)(h:
 (Q (.tup [.imm (.agg [.int .i64 u0, .int .i64 u1, .str u2, .int .i64 u3, .int .i64 u4]),Ai t3]) [(Ad, .blk Aa [As u5,Ai u6, .own Ar]),(Ar, .arr (Ak+2) true 1 u7)])):Pj s at_ out Q .ret ⟨[(2, .ptr nL2 0),(3,Ai t3)],[(nL2, .blk Ap [Ai u0,Ai u1,As u2,Ai u3,Ai u4]),(Ad, .blk Aa [As u5,Ai u6, .own Ar]),(Ar, .arr (Ak+2) true 1 u7)]⟩:=kr (by kernel_rfl) h
theorem Mr(s:LB)(at_:Int)(out:LL)(Q:QQ)(t3 u0 u1:Int)(u2:LB)(u3 u4:Int)(u5:LB)(u6:Int)(u7:LL)(h:
 (Q (.tup [.imm (.agg [.int .i64 u0, .int .i64 u1, .str u2, .int .i64 u3, .int .i64 u4]),Ai t3]) [(Ad, .blk Aa [As u5,Ai u6, .own Ar]),(Ar, .arr (Ak+2) true 1 u7)])):Du s at_ out Q .ret ⟨[(2, .ptr nL2 0),(3,Ai t3)],[(nL2, .blk Ap [Ai u0,Ai u1,As u2,Ai u3,Ai u4]),(Ad, .blk Aa [As u5,Ai u6, .own Ar]),(Ar, .arr (Ak+2) true 1 u7)]⟩:=kr (by kernel_rfl) h
theorem Afh(s:LB)(at_:Int)(out:LL)(Q:QQ)(u0 u1:Int)(u2:LB)(u3 u4:Int)(u5:LB)(u6:Int)(u7:LL)(h:
 (V7 u0 u1 u2 u3 u4 u5 u6 u7 (Pj s at_ out Q))):Du s at_ out Q (.exit 0) ⟨[(2, .ptr nL2 0)],[(nL2, .blk Ap [Ai u0,Ai u1,As u2,Ai u3,Ai u4]),(Ad, .blk Aa [As u5,Ai u6, .own Ar]),(Ar, .arr (Ak+2) true 1 u7)]⟩:=kr (by kernel_rfl) h
theorem Tp(K:KK)(t6:Int)(t7:Bool)(u0 u1:Int)(u2:LB)(u3 u4 u5:Int)(u6:LB)(u7:Int)(u8:LL)(h:
 (E9 t6 t7 u0 u1 u2 u3 u4 u5 u6 u7 u8 K)):Pk K .normal ⟨[(1, .ptr Fp 0),(2, .ptr nL2 0),(4, .ptr nL4 0),(5, .fn D9 [.ptr nL4 0, .ptr Fp 0]),(6, .imm (.int .u8 t6)),(7,Ab t7)],[(Fp, .blk 67 [.ptr Ad 0]),(nL2, .blk Ap [Ai u0,Ai u1,As u2,Ai u3,Ai u4]),(nL4, .blk Wo [Ai u5]),(Ad, .blk Aa [As u6,Ai u7, .own Ar]),(Ar, .arr (Ak+2) true 1 u8)]⟩:=kr (by kernel_rfl) h
theorem Afi(K:KK)(t3 u0 u1:Int)(u2:LB)(u3 u4:Int)(u5:LB)(u6:Int)(u7:LL)(h:
 (K .ret ⟨[(2, .ptr nL2 0),(3,Ai t3)],[(nL2, .blk Ap [Ai u0,Ai u1,As u2,Ai u3,Ai u4]),(Ad, .blk Aa [As u5,Ai u6, .own Ar]),(Ar, .arr (Ak+2) true 1 u7)]⟩)):Di K .ret ⟨[(2, .ptr nL2 0),(3,Ai t3)],[(nL2, .blk Ap [Ai u0,Ai u1,As u2,Ai u3,Ai u4]),(Ad, .blk Aa [As u5,Ai u6, .own Ar]),(Ar, .arr (Ak+2) true 1 u7)]⟩:=kr (by kernel_rfl) h
theorem Afj(K:KK)(u0 u1:Int)(u2:LB)(u3 u4 u5:Int)(u6:LB)(u7:Int)(u8:LL)(h:
 (V6 u0 u1 u2 u3 u4 u5 u6 u7 u8 (Pk K))):Di K .normal ⟨[(1, .ptr Fp 0),(2, .ptr nL2 0),(4, .ptr nL4 0),(5, .fn D9 [.ptr nL4 0, .ptr Fp 0])],[(Fp, .blk 67 [.ptr Ad 0]),(nL2, .blk Ap [Ai u0,Ai u1,As u2,Ai u3,Ai u4]),(nL4, .blk Wo [Ai u5]),(Ad, .blk Aa [As u6,Ai u7, .own Ar]),(Ar, .arr (Ak+2) true 1 u8)]⟩:=kr (by kernel_rfl) h
theorem Ajv:Bw E0.P 60 ac_token_scanner_hex.code Bo [.cell 2 46, .tmp 3]:=Bn _ _ Tryz.f60 [(5,[1,2,4,5,6,7],[]),(7,[2],[]),(19,[1,2,4,5],[1,2,4,5]),(22,[1,2,4,5],[1,2,4,5,6,7]),(23,[2],[])] [2,3] _ 75 Tryz.func60 (by kernel_rfl) (by kernel_rfl) (by kernel_rfl) (by kernel_rfl)
theorem Ag7(s:LB)(at_:Int)(out:LL)(Q:QQ)(h:
 (Br (decide ((↑s.length:Int)≤IntKind.i64.wrap (at_+(1:Int))))
 (E9 ((0:Int)) false ((0:Int)) ((0:Int)) [] ((0:Int)) ((0:Int)) ((0:Int)) s (IntKind.i64.wrap (at_+(1:Int))) out (Du s at_ out Q))
 (Am ((0:Int)≤IntKind.i64.wrap (at_+(1:Int))∧IntKind.i64.wrap (at_+(1:Int))<(↑s.length:Int))
 (E9 ((↑(s.getD (IntKind.i64.wrap (at_+(1:Int))).toNat 0).toNat:Int)) true ((0:Int)) ((0:Int)) [] ((0:Int)) ((0:Int)) ((0:Int)) s (IntKind.i64.wrap (at_+(1:Int))) out (Du s at_ out Q))))):Call E0.P Q9 [.ptr (.arg 0) 0] [(.arg 0, .blk Aa [.imm (.str s), .imm (.int .i64 at_), .own (.arg 1)]),(.arg 1, .arr (Ak+2) true 1 out)] Q:=Bd (A7 E0 Bo) (Bb Bo) 3 0 60 ac_token_scanner_hex [.cell 2 46, .tmp 3] Ajv _ _ Q rfl rfl (kr (by kernel_rfl) h)
noncomputable def ac_token_scanner_word:AC:=(Bf [] [2,3] (codeOf Tryz.f61) 0).1
abbrev Qa:Nat:=66
theorem Aif:Bw E0.P 61 ac_token_scanner_word.code Qa [.cell 2 46, .tmp 3]:=Bn _ _ Tryz.f61 [] [2,3] _ 66 Tryz.func61 (by kernel_rfl) (by kernel_rfl) (by kernel_rfl) (by kernel_rfl)
theorem Agd(s:LB)(at_:Int)(out:LL)(Q:QQ)(h:
 (Call E0.P Rs [As s,Ai at_, .imm (.sl .any 1 [[IV.int .i64 (2:Int)]])] [] fun r0 g0=>
 Am (qP4 g0 r0)
 (Am ((0:Int)≤at_∧at_≤IntKind.i64.wrap (at_+rI r0)∧IntKind.i64.wrap (at_+rI r0)≤(↑s.length:Int))
 (Let (List.drop at_.toNat (List.take (IntKind.i64.wrap (at_+rI r0)).toNat s)) fun x1=>
 Call E0.P Zm [As x1] [] fun r2 g2=>
 Am (g2=[]∧
 r2= .tup [.imm (.int .i64 (rI (rT r2 0))), .imm (.int .i64 (rI (rT r2 1)))])
 (Br (decide (rI (rT r2 1)=(0:Int)))
 (Q (.tup [.imm (.agg [.int .i64 1, .int .i64 (rI (rT r2 0)), .str [], .int .i64 0, .int .i64 0]),Ai 0]) [(Ad, .blk Aa [As s,Ai (IntKind.i64.wrap (at_+(↑x1.length:Int))), .own Ar]),(Ar, .arr (Ak+2) true 1 out)])
 (Br (decide (rI (rT r2 1)=(3:Int)))
 (Q (.tup [.imm (.agg [.int .i64 0, .int .i64 0, .str [], .int .i64 0, .int .i64 0]),Ai (rI (rT r2 1))]) [(Ad, .blk Aa [As s,Ai (IntKind.i64.wrap (at_+(↑x1.length:Int))), .own Ar]),(Ar, .arr (Ak+2) true 1 out)])
 (Br (decide ((127:Int)<(↑x1.length:Int)))
 (Q (.tup [.imm (.agg [.int .i64 0, .int .i64 0, .str [], .int .i64 0, .int .i64 0]),Ai 8]) [(Ad, .blk Aa [As s,Ai (IntKind.i64.wrap (at_+(↑x1.length:Int))), .own Ar]),(Ar, .arr (Ak+2) true 1 out)])
 (Q (.tup [.imm (.agg [.int .i64 8, .int .i64 0, .str x1, .int .i64 0, .int .i64 0]),Ai 0]) [(Ad, .blk Aa [As s,Ai (IntKind.i64.wrap (at_+(↑x1.length:Int))), .own Ar]),(Ar, .arr (Ak+2) true 1 out)])))))))):Call E0.P Pz [.ptr (.arg 0) 0] [(.arg 0, .blk Aa [.imm (.str s), .imm (.int .i64 at_), .own (.arg 1)]),(.arg 1, .arr (Ak+2) true 1 out)] Q:=Bd (A7 E0 Qa) (Bb Qa) 3 0 61 ac_token_scanner_word [.cell 2 46, .tmp 3] Aif _ _ Q rfl rfl (kr (by kernel_rfl) h)
noncomputable def ac_octet_within:AC:=(Bf [] [4] (codeOf Tryz.f74) 0).1
abbrev Zw:Nat:=13
theorem Ar1:Bw E0.P 74 ac_octet_within.code Zw [.tmp 4]:=Bn _ _ Tryz.f74 [] [4] _ 13 Tryz.func74 (by kernel_rfl) (by kernel_rfl) (by kernel_rfl) (by kernel_rfl)
theorem Aoe(a0:LB)(a1:Int)(Q:QQ)(h:
 (Let (bif decide ((0:Int)≤a1)then decide (a1<(↑a0.length:Int))else false) fun x0=>
 Q (Ab x0) [])):Call E0.P Sw [As a0,Ai a1] [] Q:=Bd (A7 E0 Zw) (Bb Zw) 3 0 74 ac_octet_within [.tmp 4] Ar1 _ _ Q rfl rfl (kr (by kernel_rfl) h)
noncomputable def ac_octet_Kind:AC:=(Bf [(7,[3,4],[]),(20,[],[])] [2] (codeOf Tryz.f49) 0).1
abbrev He:Nat:=22
def Hf(t3:Int)(t4:Bool)(K:KK):Prop:=Ay 7 E0.P He (Ag 7 ac_octet_Kind).code ⟨[(3, .imm (.int .u8 t3)),(4,Ab t4)],[]⟩ K
def Agn(K:KK):Prop:=Ay 20 E0.P He (Ag 20 ac_octet_Kind).code ⟨[],[]⟩ K
def Aam(Q:QQ):KK:=kE fun st=>finish 0 E0.T [.tmp 2] [] Q st
def Em(Q:QQ):KK:=kF 0 (fun st=>Ay 20 E0.P He (Ag 20 ac_octet_Kind).code (mask [] st) (Aam Q)) fun st=>finish 0 E0.T [.tmp 2] [] Q st
theorem An3(t3:Int)(t4:Bool)(K:KK)(h:
 (Br (t4)
 (K .ret ⟨[(2,Ai 0)],[]⟩)
 (Br (decide (t3=(40:Int)))
 (Br (decide (t3=(40:Int)))
 (K .ret ⟨[(2,Ai 1)],[]⟩)
 (K .normal ⟨[],[]⟩))
 (Br (decide (t3=(41:Int)))
 (Br (decide (t3=(41:Int)))
 (K .ret ⟨[(2,Ai 1)],[]⟩)
 (K .normal ⟨[],[]⟩))
 (Br (decide (t3=(60:Int)))
 (Br (decide (t3=(60:Int)))
 (K .ret ⟨[(2,Ai 1)],[]⟩)
 (K .normal ⟨[],[]⟩))
 (Br (decide (t3=(62:Int)))
 (Br (decide (t3=(62:Int)))
 (K .ret ⟨[(2,Ai 1)],[]⟩)
 (K .normal ⟨[],[]⟩))
 (Br (decide (t3=(91:Int)))
 (Br (decide (t3=(91:Int)))
 (K .ret ⟨[(2,Ai 1)],[]⟩)
 (K .normal ⟨[],[]⟩))
 (Br (decide (t3=(93:Int)))
 (Br (decide (t3=(93:Int)))
 (K .ret ⟨[(2,Ai 1)],[]⟩)
 (K .normal ⟨[],[]⟩))
 (Br (decide (t3=(123:Int)))
 (Br (decide (t3=(123:Int)))
 (K .ret ⟨[(2,Ai 1)],[]⟩)
 (K .normal ⟨[],[]⟩))
 (Br (decide (t3=(125:Int)))
 (Br (decide (t3=(125:Int)))
 (K .ret ⟨[(2,Ai 1)],[]⟩)
 (K .normal ⟨[],[]⟩))
 (Br (decide (t3=(47:Int)))
 (Br (decide (t3=(47:Int)))
 (K .ret ⟨[(2,Ai 1)],[]⟩)
 (K .normal ⟨[],[]⟩))
 (Br (decide (t3=(37:Int)))
 (K .ret ⟨[(2,Ai 1)],[]⟩)
 (K .normal ⟨[],[]⟩))))))))))))):Hf t3 t4 K:=Ba (A7 E0 He) (Bb He) 3 7 (Ag 7 ac_octet_Kind) [] _ K rfl (kr (by kernel_rfl) h)
theorem Ak8(K:KK)(h:
 (K .ret ⟨[(2,Ai 2)],[]⟩)):Agn K:=Ba (A7 E0 He) (Bb He) 3 20 (Ag 20 ac_octet_Kind) [] _ K rfl (kr (by kernel_rfl) h)
theorem Aoi(Q:QQ)(t2:Int)(h:
 (Q (Ai t2) [])):Aam Q .ret ⟨[(2,Ai t2)],[]⟩:=kr (by kernel_rfl) h
theorem Vm(Q:QQ)(t2:Int)(h:
 (Q (Ai t2) [])):Em Q .ret ⟨[(2,Ai t2)],[]⟩:=kr (by kernel_rfl) h
theorem Aoj(Q:QQ)(h:
 (Agn (Aam Q))):Em Q .normal ⟨[],[]⟩:=kr (by kernel_rfl) h
theorem Avf:Bw E0.P 49 ac_octet_Kind.code He [.tmp 2]:=Bn _ _ Tryz.f49 [(7,[3,4],[]),(20,[],[])] [2] _ 22 Tryz.func49 (by kernel_rfl) (by kernel_rfl) (by kernel_rfl) (by kernel_rfl)
theorem Aqx(a0:Int)(Q:QQ)(h:
 (Br (decide (a0=(0:Int)))
 (Hf a0 (decide (a0=(0:Int))) (Em Q))
 (Br (decide (a0=(9:Int)))
 (Hf a0 (decide (a0=(9:Int))) (Em Q))
 (Br (decide (a0=(10:Int)))
 (Hf a0 (decide (a0=(10:Int))) (Em Q))
 (Br (decide (a0=(12:Int)))
 (Hf a0 (decide (a0=(12:Int))) (Em Q))
 (Br (decide (a0=(13:Int)))
 (Hf a0 (decide (a0=(13:Int))) (Em Q))
 (Hf a0 (decide (a0=(32:Int))) (Em Q)))))))):Call E0.P Lg [.imm (.int .u8 a0)] [] Q:=Bd (A7 E0 He) (Bb He) 3 0 49 ac_octet_Kind [.tmp 2] Avf _ _ Q rfl rfl (kr (by kernel_rfl) h)
noncomputable def ac_token_scanner_escaped:AC:=(Bf [] [2,3] (codeOf Tryz.f76) 0).1
abbrev M4:Nat:=62
theorem Af3:Bw E0.P 76 ac_token_scanner_escaped.code M4 [.tmp 2, .tmp 3]:=Bn _ _ Tryz.f76 [] [2,3] _ 62 Tryz.func76 (by kernel_rfl) (by kernel_rfl) (by kernel_rfl) (by kernel_rfl)
theorem Le(s:LB)(at_:Int)(out:LL)(Q:QQ)(h:
 (Br (decide (IntKind.i64.wrap ((↑s.length:Int) - at_)<(2:Int)))
 (Q (.tup [.imm (.int .u8 ((0:Int))),Ab false]) [(Ad, .blk Aa [As s,Ai at_, .own Ar]),(Ar, .arr (Ak+2) true 1 out)])
 (Am ((0:Int)≤at_∧at_<(↑s.length:Int))
 (Am ((0:Int)≤IntKind.i64.wrap (at_+(1:Int))∧IntKind.i64.wrap (at_+(1:Int))<(↑s.length:Int))
 (Call E0.P T9 [.imm (.int .u8 ((↑(s.getD at_.toNat 0).toNat:Int)))] [] fun r0 g0=>
 Am (qP4 g0 r0)
 (Call E0.P T9 [.imm (.int .u8 ((↑(s.getD (IntKind.i64.wrap (at_+(1:Int))).toNat 0).toNat:Int)))] [] fun r1 g1=>
 Am (qP4 g1 r1)
 (Let (bif decide (rI r0<(0:Int))then true else decide (rI r1<(0:Int))) fun x2=>
 Let (bif x2 then true else decide (IntKind.i64.wrap (rI r0+rI r1)=(0:Int))) fun x3=>
 Br (x3)
 (Q (.tup [.imm (.int .u8 ((0:Int))),Ab false]) [(Ad, .blk Aa [As s,Ai (IntKind.i64.wrap (at_+(2:Int))), .own Ar]),(Ar, .arr (Ak+2) true 1 out)])
 (Am ((0:Int)≤(4:Int))
 (Q (.tup [.imm (.int .u8 (IntKind.u8.wrap
 (IntKind.i64.wrap
 (↑(BitVec.ofInt (64:Nat) (IntKind.i64.wrap (rI r0*(2:Int) ^ (4:Nat))) |||
 BitVec.ofInt (64:Nat) (rI r1)).toNat:
 Int)))),Ab true]) [(Ad, .blk Aa [As s,Ai (IntKind.i64.wrap (at_+(2:Int))), .own Ar]),(Ar, .arr (Ak+2) true 1 out)]))))))))):Call E0.P G8 [.ptr (.arg 0) 0] [(.arg 0, .blk Aa [.imm (.str s), .imm (.int .i64 at_), .own (.arg 1)]),(.arg 1, .arr (Ak+2) true 1 out)] Q:=Bd (A7 E0 M4) (Bb M4) 3 0 76 ac_token_scanner_escaped [.tmp 2, .tmp 3] Af3 _ _ Q rfl rfl (kr (by kernel_rfl) h)
noncomputable def ac_token_scanner_escape:AC:=(Bf [(21,[0,3],[])] [2] (codeOf Tryz.f78) 0).1
abbrev Fz:Nat:=77
def Bq(t3:Int)(u0:LB)(u1:Int)(u2:LL)(K:KK):Prop:=Ay 21 E0.P Fz (Ag 21 ac_token_scanner_escape).code ⟨[(0, .ptr Ad 0),(3, .imm (.int .u8 t3))],[(Ad, .blk Aa [As u0,Ai u1, .own Ar]),(Ar, .arr (Ak+2) true 1 u2)]⟩ K
def Bv(s:LB)(at_:Int)(out:LL)(Q:QQ):KK:=kE fun st=>finish 0 E0.T [.tmp 2] [(Ad, .blk Aa [As s,Ai at_, .own Ar]),(Ar, .arr (Ak+2) true 1 out)] Q st
theorem Aak(t3:Int)(u0:LB)(u1:Int)(u2:LL)(K:KK)(h:
 (Am ((u2.length+1)*1≤140737488355328∧u2.length+1≤140737488355328)
 (K .ret ⟨[(2,Ab true)],[(Ad, .blk Aa [As u0,Ai u1, .own Ar]),(Ar, .arr (Ak+2) true 1 (u2++[[IV.int .u8 t3]]))]⟩))):Bq t3 u0 u1 u2 K:=Ba (A7 E0 Fz) (Bb Fz) 3 21 (Ag 21 ac_token_scanner_escape) [] _ K rfl (kr (by kernel_rfl) h)
theorem Abv(s:LB)(at_:Int)(out:LL)(Q:QQ)(t2:Bool)(u0:LB)(u1:Int)(u2:LL)(h:
 (Q (Ab t2) [(Ad, .blk Aa [As u0,Ai u1, .own Ar]),(Ar, .arr (Ak+2) true 1 u2)])):Bv s at_ out Q .ret ⟨[(2,Ab t2)],[(Ad, .blk Aa [As u0,Ai u1, .own Ar]),(Ar, .arr (Ak+2) true 1 u2)]⟩:=kr (by kernel_rfl) h
theorem Agj:Bw E0.P 78 ac_token_scanner_escape.code Fz [.tmp 2]:=Bn _ _ Tryz.f78 [(21,[0,3],[])] [2] _ 77 Tryz.func78 (by kernel_rfl) (by kernel_rfl) (by kernel_rfl) (by kernel_rfl)
theorem Sj(s:LB)(at_:Int)(out:LL)(Q:QQ)(h:
 (Br (decide ((↑s.length:Int)≤at_))
 (Br (!false)
 (Q (Ab false) [(Ad, .blk Aa [As s,Ai at_, .own Ar]),(Ar, .arr (Ak+2) true 1 out)])
 (Call E0.P Nv [As s,Ai at_] [] fun r0 g0=>
 Am (qP4 g0 r0)
 (Br (decide ((0:Int)<rI r0))
 (Q (Ab true) [(Ad, .blk Aa [As s,Ai (IntKind.i64.wrap (at_+rI r0)), .own Ar]),(Ar, .arr (Ak+2) true 1 out)])
 (Let (bif decide ((48:Int)≤(0:Int))then decide ((0:Int)≤(55:Int))else false) fun x1=>
 Br (x1)
 (((Call E0.P Ea [.ptr Ad 0] [(Ad, .blk Aa [As s,Ai at_, .own Ar])] fun r2 g2=>
 Am (qP9 g2 r2)
 (Am ((out.length+1)*1≤140737488355328∧out.length+1≤140737488355328)
 (Q (Ab true) [(Ad, .blk Aa [.imm (.str (rS ((Au g2 Ad).getD 0 AV.undef))), .imm (.int .i64 (rI ((Au g2 Ad).getD 1 AV.undef))), .own Ar]),(Ar, .arr (Ak+2) true 1 (out++[[IV.int .u8 (rI r2)]]))])))∧
 (Call E0.P Ea [.ptr Ad 0] [(Ad, .blk Aa [As s,Ai at_, .own Ar])] fun r3 g3=>
 Am (qP9 g3 r3)
 ((Am ((out.length+1)*1≤140737488355328∧out.length+1≤140737488355328)
 (Q (Ab true) [(Ad, .blk Aa [.imm (.str (rS ((Au g3 Ad).getD 0 AV.undef))), .imm (.int .i64 (rI ((Au g3 Ad).getD 1 AV.undef))), .own Ar]),(Ar, .arr (Ak+2) true 1 (out++[[IV.int .u8 (rI r3)]]))]))∧
 (Am ((out.length+1)*1≤140737488355328∧out.length+1≤140737488355328)
 (Q (Ab true) [(Ad, .blk Aa [.imm (.str (rS ((Au g3 Ad).getD 0 AV.undef))), .imm (.int .i64 (rI ((Au g3 Ad).getD 1 AV.undef))), .own Ar]),(Ar, .arr (Ak+2) true 1 (out++[[IV.int .u8 (rI r3)]]))])))))∧
 (Call E0.P Ea [.ptr Ad 0] [(Ad, .blk Aa [As s,Ai at_, .own Ar])] fun r4 g4=>
 Am (qP9 g4 r4)
 (((Am ((out.length+1)*1≤140737488355328∧out.length+1≤140737488355328)
 (Q (Ab true) [(Ad, .blk Aa [.imm (.str (rS ((Au g4 Ad).getD 0 AV.undef))), .imm (.int .i64 (rI ((Au g4 Ad).getD 1 AV.undef))), .own Ar]),(Ar, .arr (Ak+2) true 1 (out++[[IV.int .u8 (rI r4)]]))]))∧
 (Am ((out.length+1)*1≤140737488355328∧out.length+1≤140737488355328)
 (Q (Ab true) [(Ad, .blk Aa [.imm (.str (rS ((Au g4 Ad).getD 0 AV.undef))), .imm (.int .i64 (rI ((Au g4 Ad).getD 1 AV.undef))), .own Ar]),(Ar, .arr (Ak+2) true 1 (out++[[IV.int .u8 (rI r4)]]))])))∧
 (Am ((out.length+1)*1≤140737488355328∧out.length+1≤140737488355328)
 (Q (Ab true) [(Ad, .blk Aa [.imm (.str (rS ((Au g4 Ad).getD 0 AV.undef))), .imm (.int .i64 (rI ((Au g4 Ad).getD 1 AV.undef))), .own Ar]),(Ar, .arr (Ak+2) true 1 (out++[[IV.int .u8 (rI r4)]]))])))))
 (Br (decide ((0:Int)=(110:Int)))
 (Bq ((10:Int)) s (IntKind.i64.wrap (at_+(1:Int))) out (Bv s at_ out Q))
 (Br (decide ((0:Int)=(114:Int)))
 (Bq ((13:Int)) s (IntKind.i64.wrap (at_+(1:Int))) out (Bv s at_ out Q))
 (Br (decide ((0:Int)=(116:Int)))
 (Bq ((9:Int)) s (IntKind.i64.wrap (at_+(1:Int))) out (Bv s at_ out Q))
 (Br (decide ((0:Int)=(98:Int)))
 (Bq ((8:Int)) s (IntKind.i64.wrap (at_+(1:Int))) out (Bv s at_ out Q))
 (Br (decide ((0:Int)=(102:Int)))
 (Bq ((12:Int)) s (IntKind.i64.wrap (at_+(1:Int))) out (Bv s at_ out Q))
 (Bq ((0:Int)) s (IntKind.i64.wrap (at_+(1:Int))) out (Bv s at_ out Q)))))))))))
 (Am ((0:Int)≤at_∧at_<(↑s.length:Int))
 (Br (!true)
 (Q (Ab false) [(Ad, .blk Aa [As s,Ai at_, .own Ar]),(Ar, .arr (Ak+2) true 1 out)])
 (Call E0.P Nv [As s,Ai at_] [] fun r5 g5=>
 Am (qP4 g5 r5)
 (Br (decide ((0:Int)<rI r5))
 (Q (Ab true) [(Ad, .blk Aa [As s,Ai (IntKind.i64.wrap (at_+rI r5)), .own Ar]),(Ar, .arr (Ak+2) true 1 out)])
 (Let (bif decide ((48:Int)≤(↑(s.getD at_.toNat 0).toNat:Int))then
 decide ((↑(s.getD at_.toNat 0).toNat:Int)≤(55:Int))
 else false) fun x6=>
 Br (x6)
 (((Call E0.P Ea [.ptr Ad 0] [(Ad, .blk Aa [As s,Ai at_, .own Ar])] fun r7 g7=>
 Am (qP9 g7 r7)
 (Am ((out.length+1)*1≤140737488355328∧out.length+1≤140737488355328)
 (Q (Ab true) [(Ad, .blk Aa [.imm (.str (rS ((Au g7 Ad).getD 0 AV.undef))), .imm (.int .i64 (rI ((Au g7 Ad).getD 1 AV.undef))), .own Ar]),(Ar, .arr (Ak+2) true 1 (out++[[IV.int .u8 (rI r7)]]))])))∧
 (Call E0.P Ea [.ptr Ad 0] [(Ad, .blk Aa [As s,Ai at_, .own Ar])] fun r8 g8=>
 Am (qP9 g8 r8)
 ((Am ((out.length+1)*1≤140737488355328∧out.length+1≤140737488355328)
 (Q (Ab true) [(Ad, .blk Aa [.imm (.str (rS ((Au g8 Ad).getD 0 AV.undef))), .imm (.int .i64 (rI ((Au g8 Ad).getD 1 AV.undef))), .own Ar]),(Ar, .arr (Ak+2) true 1 (out++[[IV.int .u8 (rI r8)]]))]))∧
 (Am ((out.length+1)*1≤140737488355328∧out.length+1≤140737488355328)
 (Q (Ab true) [(Ad, .blk Aa [.imm (.str (rS ((Au g8 Ad).getD 0 AV.undef))), .imm (.int .i64 (rI ((Au g8 Ad).getD 1 AV.undef))), .own Ar]),(Ar, .arr (Ak+2) true 1 (out++[[IV.int .u8 (rI r8)]]))])))))∧
 (Call E0.P Ea [.ptr Ad 0] [(Ad, .blk Aa [As s,Ai at_, .own Ar])] fun r9 g9=>
 Am (qP9 g9 r9)
 (((Am ((out.length+1)*1≤140737488355328∧out.length+1≤140737488355328)
 (Q (Ab true) [(Ad, .blk Aa [.imm (.str (rS ((Au g9 Ad).getD 0 AV.undef))), .imm (.int .i64 (rI ((Au g9 Ad).getD 1 AV.undef))), .own Ar]),(Ar, .arr (Ak+2) true 1 (out++[[IV.int .u8 (rI r9)]]))]))∧
 (Am ((out.length+1)*1≤140737488355328∧out.length+1≤140737488355328)
 (Q (Ab true) [(Ad, .blk Aa [.imm (.str (rS ((Au g9 Ad).getD 0 AV.undef))), .imm (.int .i64 (rI ((Au g9 Ad).getD 1 AV.undef))), .own Ar]),(Ar, .arr (Ak+2) true 1 (out++[[IV.int .u8 (rI r9)]]))])))∧
 (Am ((out.length+1)*1≤140737488355328∧out.length+1≤140737488355328)
 (Q (Ab true) [(Ad, .blk Aa [.imm (.str (rS ((Au g9 Ad).getD 0 AV.undef))), .imm (.int .i64 (rI ((Au g9 Ad).getD 1 AV.undef))), .own Ar]),(Ar, .arr (Ak+2) true 1 (out++[[IV.int .u8 (rI r9)]]))])))))
 (Br (decide ((↑(s.getD at_.toNat 0).toNat:Int)=(110:Int)))
 (Bq ((10:Int)) s (IntKind.i64.wrap (at_+(1:Int))) out (Bv s at_ out Q))
 (Br (decide ((↑(s.getD at_.toNat 0).toNat:Int)=(114:Int)))
 (Bq ((13:Int)) s (IntKind.i64.wrap (at_+(1:Int))) out (Bv s at_ out Q))
 (Br (decide ((↑(s.getD at_.toNat 0).toNat:Int)=(116:Int)))
 (Bq ((9:Int)) s (IntKind.i64.wrap (at_+(1:Int))) out (Bv s at_ out Q))
 (Br (decide ((↑(s.getD at_.toNat 0).toNat:Int)=(98:Int)))
 (Bq ((8:Int)) s (IntKind.i64.wrap (at_+(1:Int))) out (Bv s at_ out Q))
 (Br (decide ((↑(s.getD at_.toNat 0).toNat:Int)=(102:Int)))
 (Bq ((12:Int)) s (IntKind.i64.wrap (at_+(1:Int))) out (Bv s at_ out Q))
 (Bq ((↑(s.getD at_.toNat 0).toNat:Int)) s (IntKind.i64.wrap (at_+(1:Int))) out (Bv s at_ out Q)))))))))))))):Call E0.P Jv [.ptr (.arg 0) 0] [(.arg 0, .blk Aa [.imm (.str s), .imm (.int .i64 at_), .own (.arg 1)]),(.arg 1, .arr (Ak+2) true 1 out)] Q:=Bd (A7 E0 Fz) (Bb Fz) 3 0 78 ac_token_scanner_escape [.tmp 2] Agj _ _ Q rfl rfl (kr (by kernel_rfl) h)
noncomputable def ac_octet_Hex:AC:=(Bf [] [2] (codeOf Tryz.f80) 0).1
abbrev Af1:Nat:=35
theorem Ax3:Bw E0.P 80 ac_octet_Hex.code Af1 [.tmp 2]:=Bn _ _ Tryz.f80 [] [2] _ 35 Tryz.func80 (by kernel_rfl) (by kernel_rfl) (by kernel_rfl) (by kernel_rfl)
theorem Aso(a0:Int)(Q:QQ)(h:
 (Let (bif decide ((48:Int)≤a0)then decide (a0≤(57:Int))else false) fun x0=>
 Br (x0)
 (Q (.imm (.int .i64 (IntKind.i64.wrap (IntKind.u8.wrap (a0 - (48:Int)))))) [])
 (Let (bif decide ((65:Int)≤a0)then decide (a0≤(70:Int))else false) fun x1=>
 Br (x1)
 (Q (.imm (.int .i64 (IntKind.i64.wrap (IntKind.i64.wrap (IntKind.u8.wrap (a0 - (65:Int)))+(10:Int))))) [])
 (Let (bif decide ((97:Int)≤a0)then decide (a0≤(102:Int))else false) fun x2=>
 Br (x2)
 (Q (.imm (.int .i64 (IntKind.i64.wrap (IntKind.i64.wrap (IntKind.u8.wrap (a0 - (97:Int)))+(10:Int))))) [])
 (Q (Ai (-1)) []))))):Call E0.P T9 [.imm (.int .u8 a0)] [] Q:=Bd (A7 E0 Af1) (Bb Af1) 3 0 80 ac_octet_Hex [.tmp 2] Ax3 _ _ Q rfl rfl (kr (by kernel_rfl) h)
noncomputable def ac_digits_Loose:AC:=(Bf [(4,[6,7],[])] [2,3] (codeOf Tryz.f81) 0).1
abbrev La:Nat:=23
def Qj(t6 t7:Int)(K:KK):Prop:=Ay 4 E0.P La (Ag 4 ac_digits_Loose).code ⟨[(6,Ai t6),(7,Ai t7)],[]⟩ K
def Xn(Q:QQ):KK:=kE fun st=>finish 0 E0.T [.tmp 2, .tmp 3] [] Q st
theorem Aki(t6 t7:Int)(K:KK)(h:
 (K .ret ⟨[(2,Ai t6),(3,Ai t7)],[]⟩)):Qj t6 t7 K:=Ba (A7 E0 La) (Bb La) 3 4 (Ag 4 ac_digits_Loose) [] _ K rfl (kr (by kernel_rfl) h)
theorem Ak0(Q:QQ)(t2 t3:Int)(h:
 (Q (.tup [Ai t2,Ai t3]) [])):Xn Q .ret ⟨[(2,Ai t2),(3,Ai t3)],[]⟩:=kr (by kernel_rfl) h
theorem Arz:Bw E0.P 81 ac_digits_Loose.code La [.tmp 2, .tmp 3]:=Bn _ _ Tryz.f81 [(4,[6,7],[])] [2,3] _ 23 Tryz.func81 (by kernel_rfl) (by kernel_rfl) (by kernel_rfl) (by kernel_rfl)
theorem Aoc(a0:LB)(Q:QQ)(h:
 (Call E0.P M0 [As a0, .imm (.str [43,45])] [] fun r0 g0=>
 Am (g0=[]∧r0= .tup [.imm (.bool (rB (rT r0 0))), .imm (.str (rS (rT r0 1)))])
 (Call E0.P Zl [As (rS (rT r0 1))] [] fun r1 g1=>
 Am (g1=[]∧
 r1= .tup [.imm (.int .i64 (rI (rT r1 0))), .imm (.int .i64 (rI (rT r1 1)))])
 (Br (rB (rT r0 0))
 (Qj (IntKind.i64.wrap ((0:Int) - rI (rT r1 0))) (rI (rT r1 1)) (Xn Q))
 (Qj (rI (rT r1 0)) (rI (rT r1 1)) (Xn Q)))))):Call E0.P Zm [As a0] [] Q:=Bd (A7 E0 La) (Bb La) 3 0 81 ac_digits_Loose [.tmp 2, .tmp 3] Arz _ _ Q rfl rfl (kr (by kernel_rfl) h)
noncomputable def ac_token_scanner_octal:AC:=(Bf [(3,[0,3,6],[]),(5,[3],[]),(9,[3],[]),(13,[3],[])] [2] (codeOf Tryz.f88) 0).1
abbrev Da:Nat:=39
def Hq(t3 t6:Int)(u0:LB)(u1:Int)(K:KK):Prop:=Cc 3 E0.P Da (A9 3 ac_token_scanner_octal).code ⟨[(0, .ptr Ad 0),(3,Ai t3),(6,Ai t6)],[(Ad, .blk Aa [As u0,Ai u1, .own Ar])]⟩ K
def Tj(t3:Int)(u0:LB)(u1:Int)(K:KK):Prop:=Ay 13 E0.P Da (Ag 13 ac_token_scanner_octal).code ⟨[(3,Ai t3)],[(Ad, .blk Aa [As u0,Ai u1, .own Ar])]⟩ K
def Nq(s:LB)(at_:Int)(Q:QQ):KK:=kE fun st=>finish (4) E0.T [.tmp 2] [(Ad, .blk Aa [As s,Ai at_, .own Ar])] Q st
def Ve(s:LB)(at_:Int)(Q:QQ):KK:=kF 0 (fun st=>Ay 13 E0.P Da (Ag 13 ac_token_scanner_octal).code (mask [3] st) (Nq s at_ Q)) fun st=>finish (4) E0.T [.tmp 2] [(Ad, .blk Aa [As s,Ai at_, .own Ar])] Q st
theorem Ro(t3 t6:Int)(u0:LB)(u1:Int)(K:KK)(h:
 (Br (decide (t6<(3:Int)))
 (Br (decide ((↑u0.length:Int)≤u1))
 (Let (bif !false then true else decide ((0:Int)<(48:Int))) fun x0=>
 Let (bif x0 then true else decide ((55:Int)<(0:Int))) fun x1=>
 Br (x1)
 (K (.exit 0) ⟨[(3,Ai t3)],[(Ad, .blk Aa [As u0,Ai u1, .own Ar])]⟩)
 (Am ((0:Int)≤(3:Int))
 (Hq (IntKind.i64.wrap
 (↑(BitVec.ofInt (64:Nat) (IntKind.i64.wrap (t3*(2:Int) ^ (3:Nat))) |||
 BitVec.ofInt (64:Nat) (IntKind.i64.wrap (IntKind.u8.wrap ((0:Int) - (48:Int))))).toNat:
 Int)) (IntKind.i64.wrap (t6+(1:Int))) u0 (IntKind.i64.wrap (u1+(1:Int))) K)))
 (Am ((0:Int)≤u1∧u1<(↑u0.length:Int))
 (Let (bif !true then true else decide ((↑(u0.getD u1.toNat 0).toNat:Int)<(48:Int))) fun x2=>
 Let (bif x2 then true else decide ((55:Int)<(↑(u0.getD u1.toNat 0).toNat:Int))) fun x3=>
 Br (x3)
 (K (.exit 0) ⟨[(3,Ai t3)],[(Ad, .blk Aa [As u0,Ai u1, .own Ar])]⟩)
 (Am ((0:Int)≤(3:Int))
 (Hq (IntKind.i64.wrap
 (↑(BitVec.ofInt (64:Nat) (IntKind.i64.wrap (t3*(2:Int) ^ (3:Nat))) |||
 BitVec.ofInt (64:Nat)
 (IntKind.i64.wrap
 (IntKind.u8.wrap ((↑(u0.getD u1.toNat 0).toNat:Int) - (48:Int))))).toNat:
 Int)) (IntKind.i64.wrap (t6+(1:Int))) u0 (IntKind.i64.wrap (u1+(1:Int))) K)))))
 (K (.exit 0) ⟨[(3,Ai t3)],[(Ad, .blk Aa [As u0,Ai u1, .own Ar])]⟩))):Hq t3 t6 u0 u1 K:=Ca (A7 E0 Da) (Bb Da) 3 3 (A9 3 ac_token_scanner_octal) [0,3,6] _ K rfl (kr (by kernel_rfl) h)
theorem Abr(t3:Int)(u0:LB)(u1:Int)(K:KK)(h:
 (K .ret ⟨[(2, .imm (.int .u8 (IntKind.u8.wrap t3)))],[(Ad, .blk Aa [As u0,Ai u1, .own Ar])]⟩)):Tj t3 u0 u1 K:=Ba (A7 E0 Da) (Bb Da) 3 13 (Ag 13 ac_token_scanner_octal) [] _ K rfl (kr (by kernel_rfl) h)
theorem Acm(s:LB)(at_:Int)(Q:QQ)(t2:Int)(u0:LB)(u1:Int)(h:
 (Q (.imm (.int .u8 t2)) [(Ad, .blk Aa [As u0,Ai u1, .own Ar])])):Nq s at_ Q .ret ⟨[(2, .imm (.int .u8 t2))],[(Ad, .blk Aa [As u0,Ai u1, .own Ar])]⟩:=kr (by kernel_rfl) h
theorem Acn(s:LB)(at_:Int)(Q:QQ)(t3:Int)(u0:LB)(u1:Int)(h:
 (Tj t3 u0 u1 (Nq s at_ Q))):Ve s at_ Q (.exit 0) ⟨[(3,Ai t3)],[(Ad, .blk Aa [As u0,Ai u1, .own Ar])]⟩:=kr (by kernel_rfl) h
theorem Ahi:Bw E0.P 88 ac_token_scanner_octal.code Da [.tmp 2]:=Bn _ _ Tryz.f88 [(3,[0,3,6],[]),(5,[3],[]),(9,[3],[]),(13,[3],[])] [2] _ 39 Tryz.func88 (by kernel_rfl) (by kernel_rfl) (by kernel_rfl) (by kernel_rfl)
theorem Ae4(s:LB)(at_:Int)(Q:QQ)(h:
 (Hq ((0:Int)) ((0:Int)) s at_ (Ve s at_ Q))):Call E0.P Ea [.ptr (.arg 0) 0] [(.arg 0, .blk Aa [.imm (.str s), .imm (.int .i64 at_), .own (.arg 1)])] Q:=Bd (A7 E0 Da) (Bb Da) 3 4 88 ac_token_scanner_octal [.tmp 2] Ahi _ _ Q rfl rfl (kr (by kernel_rfl) h)
noncomputable def ac_digits_signed:AC:=(Bf [(1,[0,14],[0]),(3,[0],[])] [4,5] (codeOf Tryz.f89) 0).1
abbrev Eu:Nat:=21
def Vj(t0:LB)(t14:Bool)(K:KK):Prop:=Ay 1 E0.P Eu (Ag 1 ac_digits_signed).code ⟨[(0,As t0),(14,Ab t14)],[]⟩ K
def Adc(t0:LB)(K:KK):Prop:=Ay 3 E0.P Eu (Ag 3 ac_digits_signed).code ⟨[(0,As t0)],[]⟩ K
def Vl(Q:QQ):KK:=kE fun st=>finish 0 E0.T [.tmp 4, .tmp 5] [] Q st
def Pb(Q:QQ):Ex→St→Prop
 | .normal,st=>Ay 3 E0.P Eu (Ag 3 ac_digits_signed).code (mask [0] st) (Vl Q)
 | .exit _,_=>False
 | .goto _,_=>False
 | .ret,st=>finish 0 E0.T [.tmp 4, .tmp 5] [] Q st
theorem Yo(t0:LB)(t14:Bool)(K:KK)(h:
 (Br (t14)
 (K .ret ⟨[(4,Ab false),(5,As t0)],[]⟩)
 (K .normal ⟨[(0,As t0)],[]⟩))):Vj t0 t14 K:=Ba (A7 E0 Eu) (Bb Eu) 3 1 (Ag 1 ac_digits_signed) [0] _ K rfl (kr (by kernel_rfl) h)
theorem Aiu(t0:LB)(K:KK)(h:
 (Am ((0:Int)≤(0:Int)∧(0:Int)<(↑t0.length:Int))
 (Am ((0:Int)≤(1:Int)∧(1:Int)≤(↑t0.length:Int))
 (Let (List.drop 1 t0) fun x0=>
 K .ret ⟨[(4, .imm (.bool (decide ((↑(t0.getD (0:Nat) 0).toNat:Int)=(45:Int))))),(5,As x0)],[]⟩)))):Adc t0 K:=Ba (A7 E0 Eu) (Bb Eu) 3 3 (Ag 3 ac_digits_signed) [] _ K rfl (kr (by kernel_rfl) h)
theorem Aix(Q:QQ)(t4:Bool)(t5:LB)(h:
 (Q (.tup [Ab t4,As t5]) [])):Vl Q .ret ⟨[(4,Ab t4),(5,As t5)],[]⟩:=kr (by kernel_rfl) h
theorem Yu(Q:QQ)(t4:Bool)(t5:LB)(h:
 (Q (.tup [Ab t4,As t5]) [])):Pb Q .ret ⟨[(4,Ab t4),(5,As t5)],[]⟩:=kr (by kernel_rfl) h
theorem Aiy(Q:QQ)(t0:LB)(h:
 (Adc t0 (Vl Q))):Pb Q .normal ⟨[(0,As t0)],[]⟩:=kr (by kernel_rfl) h
theorem Aqg:Bw E0.P 89 ac_digits_signed.code Eu [.tmp 4, .tmp 5]:=Bn _ _ Tryz.f89 [(1,[0,14],[0]),(3,[0],[])] [4,5] _ 21 Tryz.func89 (by kernel_rfl) (by kernel_rfl) (by kernel_rfl) (by kernel_rfl)
theorem Abu(a0 a1:LB)(Q:QQ)(h:
 (Am ((a0 == [])=false→(0:Int)≤(1:Int)∧(1:Int)≤(↑a0.length:Int))
 (Let (List.take 1 a0) fun x0=>
 Br ((a0 == []) == false)
 (Call E0.P Aai [As a1,As x0] [] fun r1 g1=>
 Am (Kq g1 r1)
 (Let (!rB r1) fun x2=>
 Vj a0 x2 (Pb Q)))
 (Am ((!false)=true)
 (Let (true) fun x3=>
 Vj a0 x3 (Pb Q)))))):Call E0.P M0 [As a0,As a1] [] Q:=Bd (A7 E0 Eu) (Bb Eu) 3 0 89 ac_digits_signed [.tmp 4, .tmp 5] Aqg _ _ Q rfl rfl (kr (by kernel_rfl) h)
noncomputable def ac_digits_Fixed:AC:=(Bf [(1,[0,15],[0]),(3,[0],[]),(7,[4,5,6],[]),(9,[5],[]),(15,[5],[])] [2,3] (codeOf Tryz.f90) 0).1
abbrev Cw:Nat:=31
def Xf(t0:LB)(t15:Bool)(K:KK):Prop:=Ay 1 E0.P Cw (Ag 1 ac_digits_Fixed).code ⟨[(0,As t0),(15,Ab t15)],[]⟩ K
def Aev(t0:LB)(K:KK):Prop:=Ay 3 E0.P Cw (Ag 3 ac_digits_Fixed).code ⟨[(0,As t0)],[]⟩ K
def Ee(t5 t6 u0:Int)(u1:LB)(K:KK):Prop:=Cc 7 E0.P Cw (A9 7 ac_digits_Fixed).code ⟨[(4, .fn Ao0 [.ptr (Nm.sub 17 nL3) 0, .ptr (Nm.sub 17 Fp) 0]),(5,Ai t5),(6,Ai t6)],[((Nm.sub 17 nL3), .blk Wo [Ai u0]),((Nm.sub 17 Fp), .blk Ov [As u1])]⟩ K
def Adb(t5:Int)(K:KK):Prop:=Ay 15 E0.P Cw (Ag 15 ac_digits_Fixed).code ⟨[(5,Ai t5)],[]⟩ K
def Xl(Q:QQ):KK:=kE fun st=>finish 0 E0.T [.tmp 2, .tmp 3] [] Q st
def Qo(Q:QQ):Ex→St→Prop
 | .normal,st=>Ay 3 E0.P Cw (Ag 3 ac_digits_Fixed).code (mask [0] st) (Xl Q)
 | .exit _,_=>False
 | .goto _,_=>False
 | .ret,st=>finish 0 E0.T [.tmp 2, .tmp 3] [] Q st
def Xm(K:KK):KK:=kP [] K
def Jz(K:KK):KK:=kC 0 (fun st=>Ay 15 E0.P Cw (Ag 15 ac_digits_Fixed).code (mask [5] st) (Xm K)) K
theorem Aaa(t0:LB)(t15:Bool)(K:KK)(h:
 (Br (t15)
 (K .ret ⟨[(2,Ai 0),(3,Ai 4)],[]⟩)
 (K .normal ⟨[(0,As t0)],[]⟩))):Xf t0 t15 K:=Ba (A7 E0 Cw) (Bb Cw) 3 1 (Ag 1 ac_digits_Fixed) [0] _ K rfl (kr (by kernel_rfl) h)
theorem Akh(t0:LB)(K:KK)(h:
 (Am (decide ((↑t0.length:Int)≤(0:Int))=false→(0:Int)≤(0:Int)∧(0:Int)<(↑t0.length:Int))
 (Br (decide ((↑t0.length:Int)≤(0:Int)) == false)
 (Call E0.P Oj [.imm (.int .i32 (IntKind.i32.wrap (↑(t0.getD (0:Nat) 0).toNat:Int)))] [] fun r0 g0=>
 Am (Kq g0 r0)
 (Let (!rB r0) fun x1=>
 Br (x1)
 (Ee ((0:Int)) ((-1:Int)) ((0:Int)) t0 (Jz K))
 (Am ((0:Int)≤IntKind.i64.wrap (IntKind.i64.wrap ((0:Int)+(1:Int)) - (1:Int))∧
 IntKind.i64.wrap (IntKind.i64.wrap ((0:Int)+(1:Int)) - (1:Int))<(↑t0.length:Int))
 (Ee ((0:Int)) (IntKind.i64.wrap (IntKind.u8.wrap ((↑(t0.getD (0:Nat) 0).toNat:Int) - (48:Int)))) (IntKind.i64.wrap ((0:Int)+(1:Int))) t0 (Jz K)))))
 (Am ((!false)=true)
 (Let (true) fun x2=>
 Br (x2)
 (Ee ((0:Int)) ((-1:Int)) ((0:Int)) t0 (Jz K))
 (Am ((0:Int)≤IntKind.i64.wrap (IntKind.i64.wrap ((0:Int)+(1:Int)) - (1:Int))∧
 IntKind.i64.wrap (IntKind.i64.wrap ((0:Int)+(1:Int)) - (1:Int))<(↑t0.length:Int))
 (Ee ((0:Int)) (IntKind.i64.wrap (IntKind.u8.wrap ((↑(t0.getD (0:Nat) 0).toNat:Int) - (48:Int)))) (IntKind.i64.wrap ((0:Int)+(1:Int))) t0 (Jz K)))))))):Aev t0 K:=Ba (A7 E0 Cw) (Bb Cw) 3 3 (Ag 3 ac_digits_Fixed) [] _ K rfl (kr (by kernel_rfl) h)
theorem Aad(t5 t6 u0:Int)(u1:LB)(K:KK)(h:
 (Br (decide ((0:Int)≤t6))
 (Br (decide ((2147483647:Int)<IntKind.i64.wrap (IntKind.i64.wrap ((10:Int)*t5)+t6)))
 (K .ret ⟨[(2,Ai 0),(3,Ai 3)],[]⟩)
 (Am (decide ((↑u1.length:Int)≤u0)=false→(0:Int)≤u0∧u0<(↑u1.length:Int))
 (Br (decide ((↑u1.length:Int)≤u0) == false)
 (Call E0.P Oj [.imm (.int .i32 (IntKind.i32.wrap (↑(u1.getD u0.toNat 0).toNat:Int)))] [] fun r0 g0=>
 Am (Kq g0 r0)
 (Let (!rB r0) fun x1=>
 Br (x1)
 (Ee (IntKind.i64.wrap (IntKind.i64.wrap ((10:Int)*t5)+t6)) ((-1:Int)) u0 u1 K)
 (Am ((0:Int)≤IntKind.i64.wrap (IntKind.i64.wrap (u0+(1:Int)) - (1:Int))∧
 IntKind.i64.wrap (IntKind.i64.wrap (u0+(1:Int)) - (1:Int))<(↑u1.length:Int))
 (Ee (IntKind.i64.wrap (IntKind.i64.wrap ((10:Int)*t5)+t6)) (IntKind.i64.wrap
 (IntKind.u8.wrap
 ((↑(u1.getD (IntKind.i64.wrap (IntKind.i64.wrap (u0+(1:Int)) - (1:Int))).toNat 0).toNat:
 Int) -
 (48:Int)))) (IntKind.i64.wrap (u0+(1:Int))) u1 K))))
 (Am ((!false)=true)
 (Let (true) fun x2=>
 Br (x2)
 (Ee (IntKind.i64.wrap (IntKind.i64.wrap ((10:Int)*t5)+t6)) ((-1:Int)) u0 u1 K)
 (Am ((0:Int)≤IntKind.i64.wrap (IntKind.i64.wrap (u0+(1:Int)) - (1:Int))∧
 IntKind.i64.wrap (IntKind.i64.wrap (u0+(1:Int)) - (1:Int))<(↑u1.length:Int))
 (Ee (IntKind.i64.wrap (IntKind.i64.wrap ((10:Int)*t5)+t6)) (IntKind.i64.wrap
 (IntKind.u8.wrap
 ((↑(u1.getD (IntKind.i64.wrap (IntKind.i64.wrap (u0+(1:Int)) - (1:Int))).toNat 0).toNat:
 Int) -
 (48:Int)))) (IntKind.i64.wrap (u0+(1:Int))) u1 K)))))))
 (K (.exit 0) ⟨[(5,Ai t5)],[]⟩))):Ee t5 t6 u0 u1 K:=Ca (A7 E0 Cw) (Bb Cw) 3 7 (A9 7 ac_digits_Fixed) [4,5,6] _ K rfl (kr (by kernel_rfl) h)
theorem Ait(t5:Int)(K:KK)(h:
 (K .ret ⟨[(2,Ai t5),(3,Ai 0)],[]⟩)):Adb t5 K:=Ba (A7 E0 Cw) (Bb Cw) 3 15 (Ag 15 ac_digits_Fixed) [] _ K rfl (kr (by kernel_rfl) h)
theorem Aab(Q:QQ)(t2 t3:Int)(h:
 (Q (.tup [Ai t2,Ai t3]) [])):Xl Q .ret ⟨[(2,Ai t2),(3,Ai t3)],[]⟩:=kr (by kernel_rfl) h
theorem Aac(Q:QQ)(t2 t3:Int)(h:
 (Q (.tup [Ai t2,Ai t3]) [])):Qo Q .ret ⟨[(2,Ai t2),(3,Ai t3)],[]⟩:=kr (by kernel_rfl) h
theorem Akw(Q:QQ)(t0:LB)(h:
 (Aev t0 (Xl Q))):Qo Q .normal ⟨[(0,As t0)],[]⟩:=kr (by kernel_rfl) h
theorem Akx(K:KK)(t2 t3:Int)(h:
 (K .ret ⟨[(2,Ai t2),(3,Ai t3)],[]⟩)):Xm K .ret ⟨[(2,Ai t2),(3,Ai t3)],[]⟩:=kr (by kernel_rfl) h
theorem Aky(K:KK)(t2 t3:Int)(h:
 (K .ret ⟨[(2,Ai t2),(3,Ai t3)],[]⟩)):Jz K .ret ⟨[(2,Ai t2),(3,Ai t3)],[]⟩:=kr (by kernel_rfl) h
theorem Akz(K:KK)(t5:Int)(h:
 (Adb t5 (Xm K))):Jz K (.exit 0) ⟨[(5,Ai t5)],[]⟩:=kr (by kernel_rfl) h
theorem Ary:Bw E0.P 90 ac_digits_Fixed.code Cw [.tmp 2, .tmp 3]:=Bn _ _ Tryz.f90 [(1,[0,15],[0]),(3,[0],[]),(7,[4,5,6],[]),(9,[5],[]),(15,[5],[])] [2,3] _ 31 Tryz.func90 (by kernel_rfl) (by kernel_rfl) (by kernel_rfl) (by kernel_rfl)
theorem Aob(a0:LB)(Q:QQ)(h:
 (Br ((a0 == []) == false)
 (Call E0.P Zk [As a0] [] fun r0 g0=>
 Am (qP4 g0 r0)
 (Let (!decide (rI r0=(↑a0.length:Int))) fun x1=>
 Xf a0 x1 (Qo Q)))
 (Am ((!false)=true)
 (Let (true) fun x2=>
 Xf a0 x2 (Qo Q))))):Call E0.P Zl [As a0] [] Q:=Bd (A7 E0 Cw) (Bb Cw) 3 0 90 ac_digits_Fixed [.tmp 2, .tmp 3] Ary _ _ Q rfl rfl (kr (by kernel_rfl) h)
noncomputable def ac_digits_Count:AC:=(Bf [(2,[0,6],[]),(4,[0],[]),(9,[0],[])] [2] (codeOf Tryz.f99) 0).1
abbrev Fq:Nat:=17
def Qt(t0 h6s:LB)(h6p:Nat)(K:KK):Prop:=Cc 2 E0.P Fq (A9 2 ac_digits_Count).code ⟨[(0,As t0),(6, .ptr nL6 0)],[(nL6, .sit h6s h6p)]⟩ K
def Aeu(t0:LB)(K:KK):Prop:=Ay 9 E0.P Fq (Ag 9 ac_digits_Count).code ⟨[(0,As t0)],[]⟩ K
def Xj(Q:QQ):KK:=kE fun st=>finish 0 E0.T [.tmp 2] [] Q st
def Xk(Q:QQ):KK:=kF 0 (fun st=>Ay 9 E0.P Fq (Ag 9 ac_digits_Count).code (mask [0] st) (Xj Q)) fun st=>finish 0 E0.T [.tmp 2] [] Q st
theorem Ak3(t0 h6s:LB)(h6p:Nat)(K:KK)(h:
 (Br (decide (h6p<h6s.length))
 (Br (true)
 (Call E0.P Oj [.imm (.int .i32 ((↑(Gl h6s h6p).fst:Int)))] [] fun r0 g0=>
 Am (Kq g0 r0)
 (Br (!rB r0)
 (K .ret ⟨[(2,Ai ((↑h6p:Int)))],[]⟩)
 (Qt t0 h6s (h6p+(Gl h6s h6p).snd) K)))
 (K (.exit 0) ⟨[(0,As t0)],[]⟩))
 (Br (false)
 (False)
 (K (.exit 0) ⟨[(0,As t0)],[]⟩)))):Qt t0 h6s h6p K:=Ca (A7 E0 Fq) (Bb Fq) 3 2 (A9 2 ac_digits_Count) [0,6] _ K rfl (kr (by kernel_rfl) h)
theorem Akg(t0:LB)(K:KK)(h:
 (K .ret ⟨[(2,Ai ((↑t0.length:Int)))],[]⟩)):Aeu t0 K:=Ba (A7 E0 Fq) (Bb Fq) 3 9 (Ag 9 ac_digits_Count) [] _ K rfl (kr (by kernel_rfl) h)
theorem Akt(Q:QQ)(t2:Int)(h:
 (Q (Ai t2) [])):Xj Q .ret ⟨[(2,Ai t2)],[]⟩:=kr (by kernel_rfl) h
theorem Aku(Q:QQ)(t2:Int)(h:
 (Q (Ai t2) [])):Xk Q .ret ⟨[(2,Ai t2)],[]⟩:=kr (by kernel_rfl) h
theorem Akv(Q:QQ)(t0:LB)(h:
 (Aeu t0 (Xj Q))):Xk Q (.exit 0) ⟨[(0,As t0)],[]⟩:=kr (by kernel_rfl) h
theorem Arx:Bw E0.P 99 ac_digits_Count.code Fq [.tmp 2]:=Bn _ _ Tryz.f99 [(2,[0,6],[]),(4,[0],[]),(9,[0],[])] [2] _ 17 Tryz.func99 (by kernel_rfl) (by kernel_rfl) (by kernel_rfl) (by kernel_rfl)
theorem Aoa(a0:LB)(Q:QQ)(h:
 (Qt a0 a0 0 (Xk Q))):Call E0.P Zk [As a0] [] Q:=Bd (A7 E0 Fq) (Bb Fq) 3 0 99 ac_digits_Count [.tmp 2] Arx _ _ Q rfl rfl (kr (by kernel_rfl) h)
noncomputable def ac_digits_digit:AC:=(Bf [] [2] (codeOf Tryz.f108) 0).1
abbrev Zv:Nat:=9
theorem Ar0:Bw E0.P 108 ac_digits_digit.code Zv [.tmp 2]:=Bn _ _ Tryz.f108 [] [2] _ 9 Tryz.func108 (by kernel_rfl) (by kernel_rfl) (by kernel_rfl) (by kernel_rfl)
theorem Aod(a0:Int)(Q:QQ)(h:
 (Let (bif decide ((48:Int)≤a0)then decide (a0≤(57:Int))else false) fun x0=>
 Q (Ab x0) [])):Call E0.P Oj [.imm (.int .i32 a0)] [] Q:=Bd (A7 E0 Zv) (Bb Zv) 3 0 108 ac_digits_digit [.tmp 2] Ar0 _ _ Q rfl rfl (kr (by kernel_rfl) h)
end
end Go.Proofs.Sim.Se

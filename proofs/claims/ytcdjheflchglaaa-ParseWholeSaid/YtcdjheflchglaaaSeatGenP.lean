import Derived.Test.YtcdjheflchglaaaSeatBase
set_option maxRecDepth 100000
set_option maxHeartbeats 4000000
namespace Go.Proofs.Sim.Se
open Go Go.Proofs Go.Proofs.Sim
noncomputable section
abbrev qP0(G:Heap)(R:AV):Prop:=G=[]∧R= .imm (.bool (rB R))
abbrev qP1(G:Heap)(R:AV):Prop:=G=[]∧R= .tup [.imm (IV.agg [.int .i64 (gI (Ad (rT R 0)) 0), .int .i64 (gI (Ad (rT R 0)) 1), .int .i64 (gI (Ad (rT R 0)) 2), .str (gS (Ad (rT R 0)) 3), .sl SK.any 6 (gR (Ad (rT R 0)) 4), .sl SK.any 7 (gR (Ad (rT R 0)) 5)]), .imm (.int .i64 (rI (rT R 1))), .imm (.int .i64 (rI (rT R 2)))]
abbrev qP2(G:Heap)(R:AV):Prop:=G=[]∧R= .tup [.imm (IV.agg [.int .i64 (gI (Ad (rT R 0)) 0), .int .i64 (gI (Ad (rT R 0)) 1), .int .i64 (gI (Ad (rT R 0)) 2), .str (gS (Ad (rT R 0)) 3), .sl SK.any 6 (gR (Ad (rT R 0)) 4), .sl SK.any 7 (gR (Ad (rT R 0)) 5)]), .imm (.int .i64 (rI (rT R 1)))]
abbrev qP3(G:Heap)(R:AV):Prop:=G=[(Nm.arg 0,Entry.blk 89 [.imm (.str (rS ((Aw G Ae).getD 0 AV.undef))), .imm (.int .i64 (rI ((Aw G Ae).getD 1 AV.undef))), .imm (.int .i64 (rI ((Aw G Ae).getD 2 AV.undef)))])]∧R= .tup [.imm (IV.agg [.int .i64 (gI (Ad (rT R 0)) 0), .int .i64 (gI (Ad (rT R 0)) 1), .int .i64 (gI (Ad (rT R 0)) 2), .str (gS (Ad (rT R 0)) 3), .sl SK.any 6 (gR (Ad (rT R 0)) 4), .sl SK.any 7 (gR (Ad (rT R 0)) 5)]), .imm (.int .i64 (rI (rT R 1)))]
abbrev qP4(G:Heap)(R:AV):Prop:=G=[]∧R= .imm (IV.agg [.int .i64 (gI (Ad R) 0), .int .i64 (gI (Ad R) 1), .int .i64 (gI (Ad R) 2), .str (gS (Ad R) 3), .sl SK.any 6 (gR (Ad R) 4), .sl SK.any 7 (gR (Ad R) 5)])
abbrev qP5(G:Heap)(R:AV):Prop:=G=[]∧R= .tup [.imm (IV.agg [.int .i64 (gI (Ad (rT R 0)) 0), .int .i64 (gI (Ad (rT R 0)) 1), .str (gS (Ad (rT R 0)) 2), .int .i64 (gI (Ad (rT R 0)) 3), .int .i64 (gI (Ad (rT R 0)) 4)]), .imm (.int .i64 (rI (rT R 1)))]
abbrev qP6(G:Heap)(R:AV):Prop:=G=[(Nm.arg 0,Entry.blk 89 [.imm (.str (rS ((Aw G Ae).getD 0 AV.undef))), .imm (.int .i64 (rI ((Aw G Ae).getD 1 AV.undef))), .imm (.int .i64 (rI ((Aw G Ae).getD 2 AV.undef)))])]∧R= .tup [.imm (IV.agg [.int .i64 (gI (Ad (rT R 0)) 0), .int .i64 (gI (Ad (rT R 0)) 1), .str (gS (Ad (rT R 0)) 2), .int .i64 (gI (Ad (rT R 0)) 3), .int .i64 (gI (Ad (rT R 0)) 4)]), .imm (.int .i64 (rI (rT R 1)))]
abbrev Mv(G:Heap)(R:AV):Prop:=G=[]∧R= .imm (.int .i64 (rI R))
abbrev qP8(G:Heap)(R:AV):Prop:=G=[(Nm.arg 0,Entry.blk 128 [.imm (.str (rS ((Aw G Ae).getD 0 AV.undef))), .imm (.int .i64 (rI ((Aw G Ae).getD 1 AV.undef))),AV.own Av]),(Nm.arg 1,Entry.arr 7 true 1 (Cz G Av))]∧R= .tup [.imm (IV.agg [.int .i64 (gI (Ad (rT R 0)) 0), .int .i64 (gI (Ad (rT R 0)) 1), .str (gS (Ad (rT R 0)) 2), .int .i64 (gI (Ad (rT R 0)) 3), .int .i64 (gI (Ad (rT R 0)) 4)]), .imm (.int .i64 (rI (rT R 1)))]
abbrev qP9(G:Heap)(R:AV):Prop:=G=[]∧R= .tup [.imm (.str (rS (rT R 0))), .imm (.int .i64 (rI (rT R 1))), .imm (.int .i64 (rI (rT R 2)))]
abbrev A4q(G:Heap)(R:AV):Prop:=G=[]∧R= .tup [.imm (.int .i64 (rI (rT R 0))), .imm (.int .i64 (rI (rT R 1)))]
abbrev Awe(G:Heap)(R:AV):Prop:=G=[(Nm.arg 0,Entry.blk 128 [.imm (.str (rS ((Aw G Ae).getD 0 AV.undef))), .imm (.int .i64 (rI ((Aw G Ae).getD 1 AV.undef))),AV.own Av])]∧R= .imm (.int .u8 (rI R))
noncomputable def ac_l18_ParseWhole:AC:=(Bf [] [2] (codeOf Try.f7) 0).1
abbrev Vp:Nat:=32
theorem Apv:Bt E0.P 7 ac_l18_ParseWhole.code Vp [.tmp 2]:=Bl _ _ Try.f7 [] [2] _ 32 Try.func7 (by kernel_rfl) (by kernel_rfl) (by kernel_rfl) (by kernel_rfl)
theorem Amf(a0:LB)(Q:QQ)(h:
 (Br (decide ((1000:Int)<(↑a0.length:Int)))
 (Call E0.P Xa [] [] fun r0 g0=>
 Ao (qP0 g0 r0)
 (Q (Ab (rB r0)) []))
 (Call E0.P Mg [As a0] [] fun r1 g1=>
 Ao (qP2 g1 r1)
 (Call E0.P Agj [As a0] [] fun r2 g2=>
 Ao (qP2 g2 r2)
 (Call E0.P Iz [.imm (.agg [.int .i64 (gI (Ad (rT r1 0)) 0), .int .i64 (gI (Ad (rT r1 0)) 1), .int .i64 (gI (Ad (rT r1 0)) 2), .str (gS (Ad (rT r1 0)) 3), .sl .any 6 (gR (Ad (rT r1 0)) 4), .sl .any 7 (gR (Ad (rT r1 0)) 5)]), .imm (.agg [.int .i64 (gI (Ad (rT r2 0)) 0), .int .i64 (gI (Ad (rT r2 0)) 1), .int .i64 (gI (Ad (rT r2 0)) 2), .str (gS (Ad (rT r2 0)) 3), .sl .any 6 (gR (Ad (rT r2 0)) 4), .sl .any 7 (gR (Ad (rT r2 0)) 5)])] [] fun r3 g3=>
 Ao (qP0 g3 r3)
 (Let (bif rB r3 then decide (rI (rT r1 1)=rI (rT r2 1))else false) fun x4=>
 Br (x4 == true)
 (Call E0.P Xa [] [] fun r5 g5=>
 Ao (qP0 g5 r5)
 (Let (rB r5) fun x6=>
 Q (Ab x6) []))
 (Ao ((!true)=false)
 (Let (false) fun x7=>
 Q (Ab x7) [])))))))):Call E0.P Adx [As a0] [] Q:=Bd (Au E0 Vp) (Ba Vp) 3 0 7 ac_l18_ParseWhole [.tmp 2] Apv _ _ Q rfl rfl (kr (by kernel_rfl) h)
noncomputable def ac_l18_parsed:AC:=(Bf [] [0] (codeOf Try.f20) 0).1
abbrev Ade:Nat:=58
theorem Ax8:Bt E0.P 20 ac_l18_parsed.code Ade [.tmp 0]:=Bl _ _ Try.f20 [] [0] _ 58 Try.func20 (by kernel_rfl) (by kernel_rfl) (by kernel_rfl) (by kernel_rfl)
theorem As6(Q:QQ)(h:
 (Call E0.P Mg [.imm (.str [60,60,47,65,32,91,49,32,
 50,32,48,32,82,93,32,47,
 66,32,110,117,108,108,62,62])] [] fun r0 g0=>
 Ao (qP2 g0 r0)
 (Call E0.P Ut [.imm (.str [120,32,49,50,32,93]),Ai 1] [] fun r1 g1=>
 Ao (qP1 g1 r1)
 (Call E0.P Mg [.imm (.str [91,49])] [] fun r2 g2=>
 Ao (qP2 g2 r2)
 (Call E0.P Mg [.imm (.str [49,32,49])] [] fun r3 g3=>
 Ao (qP2 g3 r3)
 (Call E0.P Iz [.imm (.agg [.int .i64 (gI (Ad (rT r0 0)) 0), .int .i64 (gI (Ad (rT r0 0)) 1), .int .i64 (gI (Ad (rT r0 0)) 2), .str (gS (Ad (rT r0 0)) 3), .sl .any 6 (gR (Ad (rT r0 0)) 4), .sl .any 7 (gR (Ad (rT r0 0)) 5)]), .imm (.agg [.int .i64 6, .int .i64 0, .int .i64 0, .str [], .sl .any 6 [], .sl .any 7 [[IV.str [65], .int .i64 (5:Int), .int .i64 (0:Int), .int .i64 (0:Int),
 .str [],
 .sl SK.any 6
 [[IV.int .i64 (2:Int), .int .i64 (1:Int), .int .i64 (0:Int), .str [],
 .sl SK.any 6 [], .sl SK.any 7 []],
 [.int .i64 (7:Int), .int .i64 (2:Int), .int .i64 (0:Int), .str [],
 .sl SK.any 6 [], .sl SK.any 7 []]],
 .sl SK.any 7 []]]])] [] fun r4 g4=>
 Ao (qP0 g4 r4)
 (Let (bif rB r4 then decide (rI (rT r0 1)=(0:Int))else false) fun x5=>
 Let (bif x5 then decide (rI (rT r1 1)=(4:Int))else false) fun x6=>
 Let (bif x6 then decide (rI (rT r1 2)=(0:Int))else false) fun x7=>
 Let (bif x7 then decide (rI (rT r2 1)=(5:Int))else false) fun x8=>
 Let (bif x8 then decide (rI (rT r3 1)=(4:Int))else false) fun x9=>
 Q (Ab x9) []))))))):Call E0.P Xa [] [] Q:=Bd (Au E0 Ade) (Ba Ade) 3 0 20 ac_l18_parsed [.tmp 0] Ax8 _ _ Q rfl rfl (kr (by kernel_rfl) h)
noncomputable def ac_parse_Value:AC:=(Bf [] [4,5,6] (codeOf Try.f21) 0).1
abbrev Aat:Nat:=31
theorem Awb:Bt E0.P 21 ac_parse_Value.code Aat [.cell 4 37, .tmp 5, .tmp 6]:=Bl _ _ Try.f21 [] [4,5,6] _ 31 Try.func21 (by kernel_rfl) (by kernel_rfl) (by kernel_rfl) (by kernel_rfl)
theorem Aro(a0:LB)(a1:Int)(Q:QQ)(h:
 (Call E0.P Ic [.ptr Ae 0] [(Ae, .blk Am [As a0,Ai a1,Ai 0])] fun r0 g0=>
 Ao (qP3 g0 r0)
 (Br (!decide (rI (rT r0 1)=(0:Int)))
 (Q (.tup [.imm (.agg [.int .i64 0, .int .i64 0, .int .i64 0, .str [], .sl .any 6 [], .sl .any 7 []]),Ai 0,Ai (rI (rT r0 1))]) [])
 (Call E0.P J6 [.imm (.agg [.int .i64 (gI (Ad (rT r0 0)) 0), .int .i64 (gI (Ad (rT r0 0)) 1), .int .i64 (gI (Ad (rT r0 0)) 2), .str (gS (Ad (rT r0 0)) 3), .sl .any 6 (gR (Ad (rT r0 0)) 4), .sl .any 7 (gR (Ad (rT r0 0)) 5)])] [] fun r1 g1=>
 Ao (qP4 g1 r1)
 (Q (.tup [.imm (.agg [.int .i64 (gI (Ad r1) 0), .int .i64 (gI (Ad r1) 1), .int .i64 (gI (Ad r1) 2), .str (gS (Ad r1) 3), .sl .any 6 (gR (Ad r1) 4), .sl .any 7 (gR (Ad r1) 5)]), .imm (.int .i64 (rI ((Aw g0 Ae).getD 1 AV.undef))),Ai 0]) []))))):Call E0.P Ut [As a0,Ai a1] [] Q:=Bd (Au E0 Aat) (Ba Aat) 3 0 21 ac_parse_Value [.cell 4 37, .tmp 5, .tmp 6] Awb _ _ Q rfl rfl (kr (by kernel_rfl) h)
noncomputable def ac_r18_Value:AC:=(Bf [] [4,5,6] (codeOf Try.f22) 0).1
abbrev Af3:Nat:=24
theorem Azm:Bt E0.P 22 ac_r18_Value.code Af3 [.cell 4 37, .tmp 5, .tmp 6]:=Bl _ _ Try.f22 [] [4,5,6] _ 24 Try.func22 (by kernel_rfl) (by kernel_rfl) (by kernel_rfl) (by kernel_rfl)
theorem Awf(a0:LB)(a1:Int)(Q:QQ)(h:
 (Call E0.P V3 [As a0,Ai a1,Ai 0] [] fun r0 g0=>
 Ao (qP1 g0 r0)
 (Br (!decide (rI (rT r0 2)=(0:Int)))
 (Q (.tup [.imm (.agg [.int .i64 0, .int .i64 0, .int .i64 0, .str [], .sl .any 6 [], .sl .any 7 []]),Ai 0,Ai (rI (rT r0 2))]) [])
 (Call E0.P M9 [.imm (.agg [.int .i64 (gI (Ad (rT r0 0)) 0), .int .i64 (gI (Ad (rT r0 0)) 1), .int .i64 (gI (Ad (rT r0 0)) 2), .str (gS (Ad (rT r0 0)) 3), .sl .any 6 (gR (Ad (rT r0 0)) 4), .sl .any 7 (gR (Ad (rT r0 0)) 5)])] [] fun r1 g1=>
 Ao (qP4 g1 r1)
 (Q (.tup [.imm (.agg [.int .i64 (gI (Ad r1) 0), .int .i64 (gI (Ad r1) 1), .int .i64 (gI (Ad r1) 2), .str (gS (Ad r1) 3), .sl .any 6 (gR (Ad r1) 4), .sl .any 7 (gR (Ad r1) 5)]),Ai (rI (rT r0 1)),Ai 0]) []))))):Call E0.P Afn [As a0,Ai a1] [] Q:=Bd (Au E0 Af3) (Ba Af3) 3 0 22 ac_r18_Value [.cell 4 37, .tmp 5, .tmp 6] Azm _ _ Q rfl rfl (kr (by kernel_rfl) h)
noncomputable def ac_parse_Whole:AC:=(Bf [] [2,3] (codeOf Try.f24) 0).1
abbrev Aav:Nat:=41
theorem Avn:Bt E0.P 24 ac_parse_Whole.code Aav [.cell 2 37, .tmp 3]:=Bl _ _ Try.f24 [] [2,3] _ 41 Try.func24 (by kernel_rfl) (by kernel_rfl) (by kernel_rfl) (by kernel_rfl)
theorem Aq9(a0:LB)(Q:QQ)(h:
 (Call E0.P Ut [As a0,Ai 0] [] fun r0 g0=>
 Ao (qP1 g0 r0)
 (Br (!decide (rI (rT r0 2)=(0:Int)))
 (Q (.tup [.imm (.agg [.int .i64 0, .int .i64 0, .int .i64 0, .str [], .sl .any 6 [], .sl .any 7 []]),Ai (rI (rT r0 2))]) [])
 (Call E0.P Rf [As a0,Ai (rI (rT r0 1))] [] fun r1 g1=>
 Ao (qP5 g1 r1)
 (Br (!decide (rI (rT r1 1)=(0:Int)))
 (Q (.tup [.imm (.agg [.int .i64 0, .int .i64 0, .int .i64 0, .str [], .sl .any 6 [], .sl .any 7 []]),Ai (rI (rT r1 1))]) [])
 (Br (!decide (gI (Ad (rT r1 0)) 0=(0:Int)))
 (Q (.tup [.imm (.agg [.int .i64 0, .int .i64 0, .int .i64 0, .str [], .sl .any 6 [], .sl .any 7 []]),Ai 4]) [])
 (Q (.tup [.imm (.agg [.int .i64 (gI (Ad (rT r0 0)) 0), .int .i64 (gI (Ad (rT r0 0)) 1), .int .i64 (gI (Ad (rT r0 0)) 2), .str (gS (Ad (rT r0 0)) 3), .sl .any 6 (gR (Ad (rT r0 0)) 4), .sl .any 7 (gR (Ad (rT r0 0)) 5)]),Ai 0]) []))))))):Call E0.P Mg [As a0] [] Q:=Bd (Au E0 Aav) (Ba Aav) 3 0 24 ac_parse_Whole [.cell 2 37, .tmp 3] Avn _ _ Q rfl rfl (kr (by kernel_rfl) h)
noncomputable def ac_r18_Whole:AC:=(Bf [] [2,3] (codeOf Try.f25) 0).1
abbrev Afl:Nat:=34
theorem A0o:Bt E0.P 25 ac_r18_Whole.code Afl [.cell 2 37, .tmp 3]:=Bl _ _ Try.f25 [] [2,3] _ 34 Try.func25 (by kernel_rfl) (by kernel_rfl) (by kernel_rfl) (by kernel_rfl)
theorem Avo(a0:LB)(Q:QQ)(h:
 (Call E0.P Afn [As a0,Ai 0] [] fun r0 g0=>
 Ao (qP1 g0 r0)
 (Br (!decide (rI (rT r0 2)=(0:Int)))
 (Q (.tup [.imm (.agg [.int .i64 0, .int .i64 0, .int .i64 0, .str [], .sl .any 6 [], .sl .any 7 []]),Ai (rI (rT r0 2))]) [])
 (Call E0.P Me [As a0,Ai (rI (rT r0 1))] [] fun r1 g1=>
 Ao (qP5 g1 r1)
 (Br (!decide (rI (rT r1 1)=(0:Int)))
 (Q (.tup [.imm (.agg [.int .i64 0, .int .i64 0, .int .i64 0, .str [], .sl .any 6 [], .sl .any 7 []]),Ai (rI (rT r1 1))]) [])
 (Br (!decide (gI (Ad (rT r1 0)) 0=(0:Int)))
 (Q (.tup [.imm (.agg [.int .i64 0, .int .i64 0, .int .i64 0, .str [], .sl .any 6 [], .sl .any 7 []]),Ai 4]) [])
 (Q (.tup [.imm (.agg [.int .i64 (gI (Ad (rT r0 0)) 0), .int .i64 (gI (Ad (rT r0 0)) 1), .int .i64 (gI (Ad (rT r0 0)) 2), .str (gS (Ad (rT r0 0)) 3), .sl .any 6 (gR (Ad (rT r0 0)) 4), .sl .any 7 (gR (Ad (rT r0 0)) 5)]),Ai 0]) []))))))):Call E0.P Agj [As a0] [] Q:=Bd (Au E0 Afl) (Ba Afl) 3 0 25 ac_r18_Whole [.cell 2 37, .tmp 3] A0o _ _ Q rfl rfl (kr (by kernel_rfl) h)
noncomputable def ac_parse_reader_value:AC:=(Bf [] [2,3] (codeOf Try.f45) 0).1
abbrev Qf:Nat:=70
theorem Ai8:Bt E0.P 45 ac_parse_reader_value.code Qf [.cell 2 37, .tmp 3]:=Bl _ _ Try.f45 [] [2,3] _ 70 Try.func45 (by kernel_rfl) (by kernel_rfl) (by kernel_rfl) (by kernel_rfl)
theorem Ag4(s:LB)(at_ win:Int)(Q:QQ)(h:
 (Call E0.P F4 [.ptr Ae 0] [(Ae, .blk Am [As s,Ai at_,Ai win])] fun r0 g0=>
 Ao (qP6 g0 r0)
 (Br (!decide (rI (rT r0 1)=(0:Int)))
 (Q (.tup [.imm (.agg [.int .i64 0, .int .i64 0, .int .i64 0, .str [], .sl .any 6 [], .sl .any 7 []]),Ai (rI (rT r0 1))]) [(Ae, .blk Am [.imm (.str (rS ((Aw g0 Ae).getD 0 AV.undef))), .imm (.int .i64 (rI ((Aw g0 Ae).getD 1 AV.undef))), .imm (.int .i64 (rI ((Aw g0 Ae).getD 2 AV.undef)))])])
 (Br (decide (gI (Ad (rT r0 0)) 0=(0:Int)))
 (Q (.tup [.imm (.agg [.int .i64 0, .int .i64 0, .int .i64 0, .str [], .sl .any 6 [], .sl .any 7 []]),Ai 5]) [(Ae, .blk Am [.imm (.str (rS ((Aw g0 Ae).getD 0 AV.undef))), .imm (.int .i64 (rI ((Aw g0 Ae).getD 1 AV.undef))), .imm (.int .i64 (rI ((Aw g0 Ae).getD 2 AV.undef)))])])
 (Br (decide (gI (Ad (rT r0 0)) 0=(1:Int)))
 (Call E0.P O6 [.ptr Ae 0,Ai (gI (Ad (rT r0 0)) 1)] [(Ae, .blk Am [.imm (.str (rS ((Aw g0 Ae).getD 0 AV.undef))), .imm (.int .i64 (rI ((Aw g0 Ae).getD 1 AV.undef))), .imm (.int .i64 (rI ((Aw g0 Ae).getD 2 AV.undef)))])] fun r1 g1=>
 Ao (qP3 g1 r1)
 (Q (.tup [.imm (.agg [.int .i64 (gI (Ad (rT r1 0)) 0), .int .i64 (gI (Ad (rT r1 0)) 1), .int .i64 (gI (Ad (rT r1 0)) 2), .str (gS (Ad (rT r1 0)) 3), .sl .any 6 (gR (Ad (rT r1 0)) 4), .sl .any 7 (gR (Ad (rT r1 0)) 5)]),Ai (rI (rT r1 1))]) [(Ae, .blk Am [.imm (.str (rS ((Aw g1 Ae).getD 0 AV.undef))), .imm (.int .i64 (rI ((Aw g1 Ae).getD 1 AV.undef))), .imm (.int .i64 (rI ((Aw g1 Ae).getD 2 AV.undef)))])]))
 (Br (decide (gI (Ad (rT r0 0)) 0=(2:Int)))
 (Q (.tup [.imm (.agg [.int .i64 3, .int .i64 0, .int .i64 0, .str (gS (Ad (rT r0 0)) 2), .sl .any 6 [], .sl .any 7 []]),Ai 0]) [(Ae, .blk Am [.imm (.str (rS ((Aw g0 Ae).getD 0 AV.undef))), .imm (.int .i64 (rI ((Aw g0 Ae).getD 1 AV.undef))), .imm (.int .i64 (rI ((Aw g0 Ae).getD 2 AV.undef)))])])
 (Br (decide (gI (Ad (rT r0 0)) 0=(3:Int)))
 (Q (.tup [.imm (.agg [.int .i64 4, .int .i64 0, .int .i64 0, .str (gS (Ad (rT r0 0)) 2), .sl .any 6 [], .sl .any 7 []]),Ai 0]) [(Ae, .blk Am [.imm (.str (rS ((Aw g0 Ae).getD 0 AV.undef))), .imm (.int .i64 (rI ((Aw g0 Ae).getD 1 AV.undef))), .imm (.int .i64 (rI ((Aw g0 Ae).getD 2 AV.undef)))])])
 (Br (decide (gI (Ad (rT r0 0)) 0=(8:Int)))
 (Call E0.P Ada [As (gS (Ad (rT r0 0)) 2)] [] fun r2 g2=>
 Ao (qP2 g2 r2)
 (Q (.tup [.imm (.agg [.int .i64 (gI (Ad (rT r2 0)) 0), .int .i64 (gI (Ad (rT r2 0)) 1), .int .i64 (gI (Ad (rT r2 0)) 2), .str (gS (Ad (rT r2 0)) 3), .sl .any 6 (gR (Ad (rT r2 0)) 4), .sl .any 7 (gR (Ad (rT r2 0)) 5)]),Ai (rI (rT r2 1))]) [(Ae, .blk Am [.imm (.str (rS ((Aw g0 Ae).getD 0 AV.undef))), .imm (.int .i64 (rI ((Aw g0 Ae).getD 1 AV.undef))), .imm (.int .i64 (rI ((Aw g0 Ae).getD 2 AV.undef)))])]))
 (Br (decide (gI (Ad (rT r0 0)) 0=(4:Int)))
 (Br (decide ((64:Int)≤rI ((Aw g0 Ae).getD 2 AV.undef)))
 (Q (.tup [.imm (.agg [.int .i64 0, .int .i64 0, .int .i64 0, .str [], .sl .any 6 [], .sl .any 7 []]),Ai 9]) [(Ae, .blk Am [.imm (.str (rS ((Aw g0 Ae).getD 0 AV.undef))), .imm (.int .i64 (rI ((Aw g0 Ae).getD 1 AV.undef))), .imm (.int .i64 (rI ((Aw g0 Ae).getD 2 AV.undef)))])])
 (Call E0.P Q5 [.ptr Ae 0] [(Ae, .blk Am [.imm (.str (rS ((Aw g0 Ae).getD 0 AV.undef))), .imm (.int .i64 (rI ((Aw g0 Ae).getD 1 AV.undef))), .imm (.int .i64 (IntKind.i64.wrap (rI ((Aw g0 Ae).getD 2 AV.undef)+(1:Int))))])] fun r3 g3=>
 Ao (qP3 g3 r3)
 (Q (.tup [.imm (.agg [.int .i64 (gI (Ad (rT r3 0)) 0), .int .i64 (gI (Ad (rT r3 0)) 1), .int .i64 (gI (Ad (rT r3 0)) 2), .str (gS (Ad (rT r3 0)) 3), .sl .any 6 (gR (Ad (rT r3 0)) 4), .sl .any 7 (gR (Ad (rT r3 0)) 5)]),Ai (rI (rT r3 1))]) [(Ae, .blk Am [.imm (.str (rS ((Aw g3 Ae).getD 0 AV.undef))), .imm (.int .i64 (rI ((Aw g3 Ae).getD 1 AV.undef))), .imm (.int .i64 (IntKind.i64.wrap (rI ((Aw g3 Ae).getD 2 AV.undef) - (1:Int))))])])))
 (Br (decide (gI (Ad (rT r0 0)) 0=(6:Int)))
 (Br (decide ((64:Int)≤rI ((Aw g0 Ae).getD 2 AV.undef)))
 (Q (.tup [.imm (.agg [.int .i64 0, .int .i64 0, .int .i64 0, .str [], .sl .any 6 [], .sl .any 7 []]),Ai 9]) [(Ae, .blk Am [.imm (.str (rS ((Aw g0 Ae).getD 0 AV.undef))), .imm (.int .i64 (rI ((Aw g0 Ae).getD 1 AV.undef))), .imm (.int .i64 (rI ((Aw g0 Ae).getD 2 AV.undef)))])])
 (Call E0.P Qq [.ptr Ae 0] [(Ae, .blk Am [.imm (.str (rS ((Aw g0 Ae).getD 0 AV.undef))), .imm (.int .i64 (rI ((Aw g0 Ae).getD 1 AV.undef))), .imm (.int .i64 (IntKind.i64.wrap (rI ((Aw g0 Ae).getD 2 AV.undef)+(1:Int))))])] fun r4 g4=>
 Ao (qP3 g4 r4)
 (Q (.tup [.imm (.agg [.int .i64 (gI (Ad (rT r4 0)) 0), .int .i64 (gI (Ad (rT r4 0)) 1), .int .i64 (gI (Ad (rT r4 0)) 2), .str (gS (Ad (rT r4 0)) 3), .sl .any 6 (gR (Ad (rT r4 0)) 4), .sl .any 7 (gR (Ad (rT r4 0)) 5)]),Ai (rI (rT r4 1))]) [(Ae, .blk Am [.imm (.str (rS ((Aw g4 Ae).getD 0 AV.undef))), .imm (.int .i64 (rI ((Aw g4 Ae).getD 1 AV.undef))), .imm (.int .i64 (IntKind.i64.wrap (rI ((Aw g4 Ae).getD 2 AV.undef) - (1:Int))))])])))
 (Q (.tup [.imm (.agg [.int .i64 0, .int .i64 0, .int .i64 0, .str [], .sl .any 6 [], .sl .any 7 []]),Ai 4]) [(Ae, .blk Am [.imm (.str (rS ((Aw g0 Ae).getD 0 AV.undef))), .imm (.int .i64 (rI ((Aw g0 Ae).getD 1 AV.undef))), .imm (.int .i64 (rI ((Aw g0 Ae).getD 2 AV.undef)))])]))))))))))):Call E0.P Ic [.ptr (.arg 0) 0] [(.arg 0, .blk Am [.imm (.str s), .imm (.int .i64 at_), .imm (.int .i64 win)])] Q:=Bd (Au E0 Qf) (Ba Qf) 3 0 45 ac_parse_reader_value [.cell 2 37, .tmp 3] Ai8 _ _ Q rfl rfl (kr (by kernel_rfl) h)
noncomputable def ac_r18_read:AC:=(Bf [(17,[0,2,6,9,55],[0,2,6,9]),(19,[0,2,6,9],[])] [6,7,8] (codeOf Try.f47) 0).1
abbrev Ip:Nat:=83
def Wo(t0:LB)(t2:Int)(t55:Bool)(u0 u1 u2:Int)(u3:LB)(u4 u5:Int)(u6:LB)(u7 u8:Int)(u9 v0:LL)(K:KK):Prop:=Ar 17 E0.P Ip (Af 17 ac_r18_read).code ⟨[(0,As t0),(2,Ai t2),(6, .ptr nL6 0),(9, .ptr H9 0),(55,Ab t55)],[(nL6, .blk Aa [Ai u0,Ai u1,Ai u2,As u3, .own (nL6.cell 4), .own (nL6.cell 5)]),(H9, .blk Aq [Ai u4,Ai u5,As u6,Ai u7,Ai u8]),((nL6.cell 4), .arr (Aa+2) true 6 u9),((nL6.cell 5), .arr (Ag+2) true 7 v0)]⟩ K
def Amc(t0:LB)(t2 u0:Int)(u1 u2:Int)(u3:LB)(u4 u5:Int)(u6:LB)(u7 u8:Int)(u9 v0:LL)(K:KK):Prop:=Ar 19 E0.P Ip (Af 19 ac_r18_read).code ⟨[(0,As t0),(2,Ai t2),(6, .ptr nL6 0),(9, .ptr H9 0)],[(nL6, .blk Aa [Ai u0,Ai u1,Ai u2,As u3, .own (nL6.cell 4), .own (nL6.cell 5)]),(H9, .blk Aq [Ai u4,Ai u5,As u6,Ai u7,Ai u8]),((nL6.cell 4), .arr (Aa+2) true 6 u9),((nL6.cell 5), .arr (Ag+2) true 7 v0)]⟩ K
def Zq(Q:QQ):KK:=kE fun st=>finish 0 E0.T [.cell 6 37, .tmp 7, .tmp 8] [] Q st
def Tm(Q:QQ):KK:=kF 0 (fun st=>Ar 19 E0.P Ip (Af 19 ac_r18_read).code (mask [0,2,6,9] st) (Zq Q)) fun st=>finish 0 E0.T [.cell 6 37, .tmp 7, .tmp 8] [] Q st
theorem Arj(t0:LB)(t2:Int)(t55:Bool)(u0 u1 u2:Int)(u3:LB)(u4 u5:Int)(u6:LB)(u7 u8:Int)(u9 v0:LL)(K:KK)(h:
 (Br (t55)
 (K .ret ⟨[(6, .ptr nL6 0),(7,Ai 0),(8,Ai 4)],[(nL6, .blk Aa [Ai 0,Ai 0,Ai 0, .imm (.str []), .own (nL6.cell 4), .own (nL6.cell 5)]),((nL6.cell 4), .arr (Aa+2) true 6 []),((nL6.cell 5), .arr (Ag+2) true 7 [])]⟩)
 (K .normal ⟨[(0,As t0),(2,Ai t2),(6, .ptr nL6 0),(9, .ptr H9 0)],[(nL6, .blk Aa [Ai u0,Ai u1,Ai u2,As u3, .own (nL6.cell 4), .own (nL6.cell 5)]),(H9, .blk Aq [Ai u4,Ai u5,As u6,Ai u7,Ai u8]),((nL6.cell 4), .arr (Aa+2) true 6 u9),((nL6.cell 5), .arr (Ag+2) true 7 v0)]⟩))):Wo t0 t2 t55 u0 u1 u2 u3 u4 u5 u6 u7 u8 u9 v0 K:=Ay (Au E0 Ip) (Ba Ip) 3 17 (Af 17 ac_r18_read) [0,2,6,9] _ K rfl (kr (by kernel_rfl) h)
theorem Asb(t0:LB)(t2 u0:Int)(u1 u2:Int)(u3:LB)(u4 u5:Int)(u6:LB)(u7 u8:Int)(u9 v0:LL)(K:KK)(h:
 (Br (decide ((64:Int)≤t2))
 (K .ret ⟨[(6, .ptr nL6 0),(7,Ai 0),(8,Ai 9)],[(nL6, .blk Aa [Ai 0,Ai 0,Ai 0, .imm (.str []), .own (nL6.cell 4), .own (nL6.cell 5)]),((nL6.cell 4), .arr (Aa+2) true 6 []),((nL6.cell 5), .arr (Ag+2) true 7 [])]⟩)
 (Br (decide (u4=(4:Int)))
 (Call E0.P Aix [As t0,Ai u8,Ai (IntKind.i64.wrap (t2+(1:Int)))] [] fun r0 g0=>
 Ao (qP1 g0 r0)
 (K .ret ⟨[(6, .ptr nL6 0),(7,Ai (rI (rT r0 1))),(8,Ai (rI (rT r0 2)))],[(nL6, .blk Aa [Ai (gI (Ad (rT r0 0)) 0),Ai (gI (Ad (rT r0 0)) 1),Ai (gI (Ad (rT r0 0)) 2),As (gS (Ad (rT r0 0)) 3),Al 6 (gR (Ad (rT r0 0)) 4),Al 7 (gR (Ad (rT r0 0)) 5)])]⟩))
 (Call E0.P Aiv [As t0,Ai u8,Ai (IntKind.i64.wrap (t2+(1:Int)))] [] fun r1 g1=>
 Ao (qP1 g1 r1)
 (K .ret ⟨[(6, .ptr nL6 0),(7,Ai (rI (rT r1 1))),(8,Ai (rI (rT r1 2)))],[(nL6, .blk Aa [Ai (gI (Ad (rT r1 0)) 0),Ai (gI (Ad (rT r1 0)) 1),Ai (gI (Ad (rT r1 0)) 2),As (gS (Ad (rT r1 0)) 3),Al 6 (gR (Ad (rT r1 0)) 4),Al 7 (gR (Ad (rT r1 0)) 5)])]⟩))))):Amc t0 t2 u0 u1 u2 u3 u4 u5 u6 u7 u8 u9 v0 K:=Ay (Au E0 Ip) (Ba Ip) 3 19 (Af 19 ac_r18_read) [] _ K rfl (kr (by kernel_rfl) h)
theorem At2(Q:QQ)(t7 t8:Int)(u0 u1 u2:Int)(u3:LB)(u4 u5:LL)(h:
 (Q (.tup [.imm (.agg [.int .i64 u0, .int .i64 u1, .int .i64 u2, .str u3, .sl .any 6 u4, .sl .any 7 u5]),Ai t7,Ai t8]) [])):Zq Q .ret ⟨[(6, .ptr nL6 0),(7,Ai t7),(8,Ai t8)],[(nL6, .blk Aa [Ai u0,Ai u1,Ai u2,As u3, .own (nL6.cell 4), .own (nL6.cell 5)]),((nL6.cell 4), .arr (Aa+2) true 6 u4),((nL6.cell 5), .arr (Ag+2) true 7 u5)]⟩:=kr (by kernel_rfl) h
theorem Ahp(Q:QQ)(t7 t8:Int)(u0 u1 u2:Int)(u3:LB)(u4 u5:LL)(h:
 (Q (.tup [.imm (.agg [.int .i64 u0, .int .i64 u1, .int .i64 u2, .str u3, .sl .any 6 u4, .sl .any 7 u5]),Ai t7,Ai t8]) [])):Zq Q .ret ⟨[(6, .ptr nL6 0),(7,Ai t7),(8,Ai t8)],[(nL6, .blk Aa [Ai u0,Ai u1,Ai u2,As u3,Al 6 u4,Al 7 u5])]⟩:=kr (by kernel_rfl) h
theorem Aty(Q:QQ)(t7 t8:Int)(u0 u1 u2:Int)(u3:LB)(u4 u5:LL)(h:
 (Q (.tup [.imm (.agg [.int .i64 u0, .int .i64 u1, .int .i64 u2, .str u3, .sl .any 6 u4, .sl .any 7 u5]),Ai t7,Ai t8]) [])):Tm Q .ret ⟨[(6, .ptr nL6 0),(7,Ai t7),(8,Ai t8)],[(nL6, .blk Aa [Ai u0,Ai u1,Ai u2,As u3, .own (nL6.cell 4), .own (nL6.cell 5)]),((nL6.cell 4), .arr (Aa+2) true 6 u4),((nL6.cell 5), .arr (Ag+2) true 7 u5)]⟩:=kr (by kernel_rfl) h
theorem As0(Q:QQ)(t0:LB)(t2 u0:Int)(u1 u2:Int)(u3:LB)(u4 u5:Int)(u6:LB)(u7 u8:Int)(u9 v0:LL)(h:
 (Amc t0 t2 u0 u1 u2 u3 u4 u5 u6 u7 u8 u9 v0 (Zq Q))):Tm Q .normal ⟨[(0,As t0),(2,Ai t2),(6, .ptr nL6 0),(9, .ptr H9 0)],[(nL6, .blk Aa [Ai u0,Ai u1,Ai u2,As u3, .own (nL6.cell 4), .own (nL6.cell 5)]),(H9, .blk Aq [Ai u4,Ai u5,As u6,Ai u7,Ai u8]),((nL6.cell 4), .arr (Aa+2) true 6 u9),((nL6.cell 5), .arr (Ag+2) true 7 v0)]⟩:=kr (by kernel_rfl) h
theorem A18:Bt E0.P 47 ac_r18_read.code Ip [.cell 6 37, .tmp 7, .tmp 8]:=Bl _ _ Try.f47 [(17,[0,2,6,9,55],[0,2,6,9]),(19,[0,2,6,9],[])] [6,7,8] _ 83 Try.func47 (by kernel_rfl) (by kernel_rfl) (by kernel_rfl) (by kernel_rfl)
theorem Axs(a0:LB)(a1 a2:Int)(Q:QQ)(h:
 (Call E0.P Me [As a0,Ai a1] [] fun r0 g0=>
 Ao (qP5 g0 r0)
 (Br (!decide (rI (rT r0 1)=(0:Int)))
 (Q (.tup [.imm (.agg [.int .i64 0, .int .i64 0, .int .i64 0, .str [], .sl .any 6 [], .sl .any 7 []]),Ai 0,Ai (rI (rT r0 1))]) [])
 (Br (decide (gI (Ad (rT r0 0)) 0=(0:Int)))
 (Q (.tup [.imm (.agg [.int .i64 0, .int .i64 0, .int .i64 0, .str [], .sl .any 6 [], .sl .any 7 []]),Ai 0,Ai 5]) [])
 (Br (decide (gI (Ad (rT r0 0)) 0=(1:Int)))
 (Call E0.P Aco [As a0, .imm (.agg [.int .i64 (gI (Ad (rT r0 0)) 0), .int .i64 (gI (Ad (rT r0 0)) 1), .str (gS (Ad (rT r0 0)) 2), .int .i64 (gI (Ad (rT r0 0)) 3), .int .i64 (gI (Ad (rT r0 0)) 4)])] [] fun r1 g1=>
 Ao (qP1 g1 r1)
 (Q (.tup [.imm (.agg [.int .i64 (gI (Ad (rT r1 0)) 0), .int .i64 (gI (Ad (rT r1 0)) 1), .int .i64 (gI (Ad (rT r1 0)) 2), .str (gS (Ad (rT r1 0)) 3), .sl .any 6 (gR (Ad (rT r1 0)) 4), .sl .any 7 (gR (Ad (rT r1 0)) 5)]),Ai (rI (rT r1 1)),Ai (rI (rT r1 2))]) []))
 (Br (decide (gI (Ad (rT r0 0)) 0=(2:Int)))
 (Q (.tup [.imm (.agg [.int .i64 3, .int .i64 0, .int .i64 0, .str (gS (Ad (rT r0 0)) 2), .sl .any 6 [], .sl .any 7 []]),Ai (gI (Ad (rT r0 0)) 4),Ai 0]) [])
 (Br (decide (gI (Ad (rT r0 0)) 0=(3:Int)))
 (Q (.tup [.imm (.agg [.int .i64 4, .int .i64 0, .int .i64 0, .str (gS (Ad (rT r0 0)) 2), .sl .any 6 [], .sl .any 7 []]),Ai (gI (Ad (rT r0 0)) 4),Ai 0]) [])
 (Br (decide (gI (Ad (rT r0 0)) 0=(8:Int)))
 (Call E0.P Aih [.imm (.agg [.int .i64 (gI (Ad (rT r0 0)) 0), .int .i64 (gI (Ad (rT r0 0)) 1), .str (gS (Ad (rT r0 0)) 2), .int .i64 (gI (Ad (rT r0 0)) 3), .int .i64 (gI (Ad (rT r0 0)) 4)])] [] fun r2 g2=>
 Ao (qP1 g2 r2)
 (Q (.tup [.imm (.agg [.int .i64 (gI (Ad (rT r2 0)) 0), .int .i64 (gI (Ad (rT r2 0)) 1), .int .i64 (gI (Ad (rT r2 0)) 2), .str (gS (Ad (rT r2 0)) 3), .sl .any 6 (gR (Ad (rT r2 0)) 4), .sl .any 7 (gR (Ad (rT r2 0)) 5)]),Ai (rI (rT r2 1)),Ai (rI (rT r2 2))]) []))
 (Br (decide (gI (Ad (rT r0 0)) 0=(5:Int)))
 (Wo a0 a2 (decide (gI (Ad (rT r0 0)) 0=(5:Int))) ((0:Int)) ((0:Int)) ((0:Int)) [] (gI (Ad (rT r0 0)) 0) (gI (Ad (rT r0 0)) 1) (gS (Ad (rT r0 0)) 2) (gI (Ad (rT r0 0)) 3) (gI (Ad (rT r0 0)) 4) [] [] (Tm Q))
 (Wo a0 a2 (decide (gI (Ad (rT r0 0)) 0=(7:Int))) ((0:Int)) ((0:Int)) ((0:Int)) [] (gI (Ad (rT r0 0)) 0) (gI (Ad (rT r0 0)) 1) (gS (Ad (rT r0 0)) 2) (gI (Ad (rT r0 0)) 3) (gI (Ad (rT r0 0)) 4) [] [] (Tm Q))))))))))):Call E0.P V3 [As a0,Ai a1,Ai a2] [] Q:=Bd (Au E0 Ip) (Ba Ip) 3 0 47 ac_r18_read [.cell 6 37, .tmp 7, .tmp 8] A18 _ _ Q rfl rfl (kr (by kernel_rfl) h)
noncomputable def ac_token_Next:AC:=(Bf [] [4,5] (codeOf Try.f50) 0).1
abbrev Ace:Nat:=42
theorem Ax0:Bt E0.P 50 ac_token_Next.code Ace [.cell 4 95, .tmp 5]:=Bl _ _ Try.f50 [] [4,5] _ 42 Try.func50 (by kernel_rfl) (by kernel_rfl) (by kernel_rfl) (by kernel_rfl)
theorem Au7(a0:LB)(a1:Int)(Q:QQ)(h:
 (Call E0.P Adg [As a0,Ai a1] [] fun r0 g0=>
 Ao (Mv g0 r0)
 (Br (decide (rI r0=(↑a0.length:Int)))
 (Q (.tup [.imm (.agg [.int .i64 0, .int .i64 0, .str [], .int .i64 (rI r0), .int .i64 (rI r0)]),Ai 0]) [])
 (Call E0.P O3 [.ptr Ae 0] [(Ae, .blk Ac [As a0,Ai (rI r0), .own Av]),(Av, .arr (Ap+2) true 1 [])] fun r1 g1=>
 Ao (qP8 g1 r1)
 (Br (!decide (rI (rT r1 1)=(0:Int)))
 (Q (.tup [.imm (.agg [.int .i64 0, .int .i64 0, .str [], .int .i64 0, .int .i64 0]),Ai (rI (rT r1 1))]) [])
 (Q (.tup [.imm (.agg [.int .i64 (gI (Ad (rT r1 0)) 0), .int .i64 (gI (Ad (rT r1 0)) 1), .str (gS (Ad (rT r1 0)) 2), .int .i64 (rI r0), .int .i64 (rI ((Aw g1 Ae).getD 1 AV.undef))]),Ai 0]) [])))))):Call E0.P Rf [As a0,Ai a1] [] Q:=Bd (Au E0 Ace) (Ba Ace) 3 0 50 ac_token_Next [.cell 4 95, .tmp 5] Ax0 _ _ Q rfl rfl (kr (by kernel_rfl) h)
noncomputable def ac_r15_Next:AC:=(Bf [] [4,5] (codeOf Try.f51) 0).1
abbrev Ah4:Nat:=138
theorem A2b:Bt E0.P 51 ac_r15_Next.code Ah4 [.cell 4 95, .tmp 5]:=Bl _ _ Try.f51 [] [4,5] _ 138 Try.func51 (by kernel_rfl) (by kernel_rfl) (by kernel_rfl) (by kernel_rfl)
theorem Ayh(a0:LB)(a1:Int)(Q:QQ)(h:
 (Call E0.P Aia [As a0,Ai a1] [] fun r0 g0=>
 Ao (Mv g0 r0)
 (Br (decide (rI r0=(↑a0.length:Int)))
 (Q (.tup [.imm (.agg [.int .i64 0, .int .i64 0, .str [], .int .i64 (rI r0), .int .i64 (rI r0)]),Ai 0]) [])
 (Ao ((0:Int)≤rI r0∧
 (rI r0≤
 if IntKind.i64.wrap (rI r0+(2:Int))<(↑a0.length:Int)then IntKind.i64.wrap (rI r0+(2:Int))
 else(↑a0.length:Int))∧
 (if IntKind.i64.wrap (rI r0+(2:Int))<(↑a0.length:Int)then IntKind.i64.wrap (rI r0+(2:Int))
 else(↑a0.length:Int))≤
 (↑a0.length:Int))
 (Let (List.drop (rI r0).toNat
 (List.take
 (if IntKind.i64.wrap (rI r0+(2:Int))<(↑a0.length:Int)then IntKind.i64.wrap (rI r0+(2:Int))
 else(↑a0.length:Int)).toNat
 a0)) fun x1=>
 Ao ((0:Int)≤rI r0∧rI r0<(↑a0.length:Int))
 (Br (decide ((↑(a0.getD (rI r0).toNat 0).toNat:Int)=(91:Int)))
 (Q (.tup [.imm (.agg [.int .i64 4, .int .i64 0, .str [], .int .i64 (rI r0), .int .i64 (IntKind.i64.wrap (rI r0+(1:Int)))]),Ai 0]) [])
 (Ao ((0:Int)≤rI r0∧rI r0<(↑a0.length:Int))
 (Br (decide ((↑(a0.getD (rI r0).toNat 0).toNat:Int)=(93:Int)))
 (Q (.tup [.imm (.agg [.int .i64 5, .int .i64 0, .str [], .int .i64 (rI r0), .int .i64 (IntKind.i64.wrap (rI r0+(1:Int)))]),Ai 0]) [])
 (Br (x1 == [(60:UInt8),60])
 (Q (.tup [.imm (.agg [.int .i64 6, .int .i64 0, .str [], .int .i64 (rI r0), .int .i64 (IntKind.i64.wrap (rI r0+(2:Int)))]),Ai 0]) [])
 (Br (x1 == [(62:UInt8),62])
 (Q (.tup [.imm (.agg [.int .i64 7, .int .i64 0, .str [], .int .i64 (rI r0), .int .i64 (IntKind.i64.wrap (rI r0+(2:Int)))]),Ai 0]) [])
 (Ao ((0:Int)≤rI r0∧rI r0<(↑a0.length:Int))
 (Br (decide ((↑(a0.getD (rI r0).toNat 0).toNat:Int)=(47:Int)))
 (Call E0.P Aiy [As a0,Ai (IntKind.i64.wrap (rI r0+(1:Int)))] [] fun r2 g2=>
 Ao (qP9 g2 r2)
 (Call E0.P Vu [Ai 2,Ai (rI r0),As (rS (rT r2 0)),Ai (rI (rT r2 1)),Ai (rI (rT r2 2))] [] fun r3 g3=>
 Ao (qP5 g3 r3)
 (Q (.tup [.imm (.agg [.int .i64 (gI (Ad (rT r3 0)) 0), .int .i64 (gI (Ad (rT r3 0)) 1), .str (gS (Ad (rT r3 0)) 2), .int .i64 (gI (Ad (rT r3 0)) 3), .int .i64 (gI (Ad (rT r3 0)) 4)]),Ai (rI (rT r3 1))]) [])))
 (Ao ((0:Int)≤rI r0∧rI r0<(↑a0.length:Int))
 (Br (decide ((↑(a0.getD (rI r0).toNat 0).toNat:Int)=(40:Int)))
 (Call E0.P Ae2 [As a0,Ai (IntKind.i64.wrap (rI r0+(1:Int)))] [] fun r4 g4=>
 Ao (qP9 g4 r4)
 (Call E0.P Vu [Ai 3,Ai (rI r0),As (rS (rT r4 0)),Ai (rI (rT r4 1)),Ai (rI (rT r4 2))] [] fun r5 g5=>
 Ao (qP5 g5 r5)
 (Q (.tup [.imm (.agg [.int .i64 (gI (Ad (rT r5 0)) 0), .int .i64 (gI (Ad (rT r5 0)) 1), .str (gS (Ad (rT r5 0)) 2), .int .i64 (gI (Ad (rT r5 0)) 3), .int .i64 (gI (Ad (rT r5 0)) 4)]),Ai (rI (rT r5 1))]) [])))
 (Ao ((0:Int)≤rI r0∧rI r0<(↑a0.length:Int))
 (Br (decide ((↑(a0.getD (rI r0).toNat 0).toNat:Int)=(60:Int)))
 (Call E0.P Akz [As a0,Ai (IntKind.i64.wrap (rI r0+(1:Int)))] [] fun r6 g6=>
 Ao (qP9 g6 r6)
 (Call E0.P Vu [Ai 3,Ai (rI r0),As (rS (rT r6 0)),Ai (rI (rT r6 1)),Ai (rI (rT r6 2))] [] fun r7 g7=>
 Ao (qP5 g7 r7)
 (Q (.tup [.imm (.agg [.int .i64 (gI (Ad (rT r7 0)) 0), .int .i64 (gI (Ad (rT r7 0)) 1), .str (gS (Ad (rT r7 0)) 2), .int .i64 (gI (Ad (rT r7 0)) 3), .int .i64 (gI (Ad (rT r7 0)) 4)]),Ai (rI (rT r7 1))]) [])))
 (Ao ((0:Int)≤rI r0∧rI r0<(↑a0.length:Int))
 (Call E0.P L6 [.imm (.int .u8 ((↑(a0.getD (rI r0).toNat 0).toNat:Int)))] [] fun r8 g8=>
 Ao (Mv g8 r8)
 (Br (decide (rI r8=(1:Int)))
 (Q (.tup [.imm (.agg [.int .i64 0, .int .i64 0, .str [], .int .i64 0, .int .i64 0]),Ai 4]) [])
 (Call E0.P Aie [As a0,Ai (rI r0)] [] fun r9 g9=>
 Ao (qP5 g9 r9)
 (Q (.tup [.imm (.agg [.int .i64 (gI (Ad (rT r9 0)) 0), .int .i64 (gI (Ad (rT r9 0)) 1), .str (gS (Ad (rT r9 0)) 2), .int .i64 (gI (Ad (rT r9 0)) 3), .int .i64 (gI (Ad (rT r9 0)) 4)]),Ai (rI (rT r9 1))]) []))))))))))))))))))))):Call E0.P Me [As a0,Ai a1] [] Q:=Bd (Au E0 Ah4) (Ba Ah4) 3 0 51 ac_r15_Next [.cell 4 95, .tmp 5] A2b _ _ Q rfl rfl (kr (by kernel_rfl) h)
noncomputable def ac_parse_cursor_take:AC:=(Bf [(3,[2,4,5],[])] [2,3] (codeOf Try.f64) 0).1
abbrev He:Nat:=20
def K8(t5 u0 u1:Int)(u2:LB)(u3 u4:Int)(u5 u6:Int)(u7:LB)(u8 u9:Int)(v0:LB)(v1 v2:Int)(K:KK):Prop:=Ar 3 E0.P He (Af 3 ac_parse_cursor_take).code ⟨[(2, .ptr nL2 0),(4, .ptr nL4 0),(5,Ai t5)],[(nL2, .blk Aq [Ai u0,Ai u1,As u2,Ai u3,Ai u4]),(nL4, .blk Aq [Ai u5,Ai u6,As u7,Ai u8,Ai u9]),(Ae, .blk Am [As v0,Ai v1,Ai v2])]⟩ K
def K3(s:LB)(at_ win:Int)(Q:QQ):KK:=kE fun st=>finish 0 E0.T [.cell 2 95, .tmp 3] [(Ae, .blk Am [As s,Ai at_,Ai win])] Q st
theorem Afc(t5 u0 u1:Int)(u2:LB)(u3 u4:Int)(u5 u6:Int)(u7:LB)(u8 u9:Int)(v0:LB)(v1 v2:Int)(K:KK)(h:
 (K .ret ⟨[(2, .ptr nL2 0),(3,Ai t5)],[(nL2, .blk Aq [Ai u5,Ai u6,As u7,Ai u8,Ai u9]),(Ae, .blk Am [As v0,Ai v1,Ai v2])]⟩)):K8 t5 u0 u1 u2 u3 u4 u5 u6 u7 u8 u9 v0 v1 v2 K:=Ay (Au E0 He) (Ba He) 3 3 (Af 3 ac_parse_cursor_take) [] _ K rfl (kr (by kernel_rfl) h)
theorem Agu(s:LB)(at_ win:Int)(Q:QQ)(t3 u0 u1:Int)(u2:LB)(u3 u4:Int)(u5:LB)(u6 u7:Int)(h:
 (Q (.tup [.imm (.agg [.int .i64 u0, .int .i64 u1, .str u2, .int .i64 u3, .int .i64 u4]),Ai t3]) [(Ae, .blk Am [As u5,Ai u6,Ai u7])])):K3 s at_ win Q .ret ⟨[(2, .ptr nL2 0),(3,Ai t3)],[(nL2, .blk Aq [Ai u0,Ai u1,As u2,Ai u3,Ai u4]),(Ae, .blk Am [As u5,Ai u6,Ai u7])]⟩:=kr (by kernel_rfl) h
theorem Ak5:Bt E0.P 64 ac_parse_cursor_take.code He [.cell 2 95, .tmp 3]:=Bl _ _ Try.f64 [(3,[2,4,5],[])] [2,3] _ 20 Try.func64 (by kernel_rfl) (by kernel_rfl) (by kernel_rfl) (by kernel_rfl)
theorem Aiz(s:LB)(at_ win:Int)(Q:QQ)(h:
 (Call E0.P Rf [As s,Ai at_] [] fun r0 g0=>
 Ao (qP5 g0 r0)
 (Br (decide (rI (rT r0 1)=(0:Int)))
 (K8 (rI (rT r0 1)) ((0:Int)) ((0:Int)) [] ((0:Int)) ((0:Int)) (gI (Ad (rT r0 0)) 0) (gI (Ad (rT r0 0)) 1) (gS (Ad (rT r0 0)) 2) (gI (Ad (rT r0 0)) 3) (gI (Ad (rT r0 0)) 4) s (gI (Ad (rT r0 0)) 4) win (K3 s at_ win Q))
 (K8 (rI (rT r0 1)) ((0:Int)) ((0:Int)) [] ((0:Int)) ((0:Int)) (gI (Ad (rT r0 0)) 0) (gI (Ad (rT r0 0)) 1) (gS (Ad (rT r0 0)) 2) (gI (Ad (rT r0 0)) 3) (gI (Ad (rT r0 0)) 4) s at_ win (K3 s at_ win Q))))):Call E0.P F4 [.ptr (.arg 0) 0] [(.arg 0, .blk Am [.imm (.str s), .imm (.int .i64 at_), .imm (.int .i64 win)])] Q:=Bd (Au E0 He) (Ba He) 3 0 64 ac_parse_cursor_take [.cell 2 95, .tmp 3] Ak5 _ _ Q rfl rfl (kr (by kernel_rfl) h)
noncomputable def ac_parse_reader_number:AC:=(Bf [] [4,5] (codeOf Try.f65) 0).1
abbrev Oz:Nat:=39
theorem Aii:Bt E0.P 65 ac_parse_reader_number.code Oz [.cell 4 37, .tmp 5]:=Bl _ _ Try.f65 [] [4,5] _ 39 Try.func65 (by kernel_rfl) (by kernel_rfl) (by kernel_rfl) (by kernel_rfl)
theorem Tq(s:LB)(at_ win a1:Int)(Q:QQ)(h:
 (Call E0.P Lt [.ptr Ae 0] [(Ae, .blk Am [As s,Ai at_,Ai win])] fun r0 g0=>
 Ao (g0=
 [(Nm.arg 0,
 Entry.blk 89
 [.imm (.str (rS ((Aw g0 Ae).getD 0 AV.undef))),
 .imm (.int .i64 (rI ((Aw g0 Ae).getD 1 AV.undef))),
 .imm (.int .i64 (rI ((Aw g0 Ae).getD 2 AV.undef)))])]∧
 r0= .tup [.imm (.int .i64 (rI (rT r0 0))), .imm (.bool (rB (rT r0 1)))])
 (Br (!rB (rT r0 1))
 (Q (.tup [.imm (.agg [.int .i64 2, .int .i64 a1, .int .i64 0, .str [], .sl .any 6 [], .sl .any 7 []]),Ai 0]) [(Ae, .blk Am [.imm (.str (rS ((Aw g0 Ae).getD 0 AV.undef))), .imm (.int .i64 (rI ((Aw g0 Ae).getD 1 AV.undef))), .imm (.int .i64 (rI ((Aw g0 Ae).getD 2 AV.undef)))])])
 (Let (bif decide (a1<(1:Int))then true else decide ((8388607:Int)<a1)) fun x1=>
 Let (bif x1 then true else decide (rI (rT r0 0)<(0:Int))) fun x2=>
 Let (bif x2 then true else decide ((65535:Int)<rI (rT r0 0))) fun x3=>
 Br (x3)
 (Q (.tup [.imm (.agg [.int .i64 0, .int .i64 0, .int .i64 0, .str [], .sl .any 6 [], .sl .any 7 []]),Ai 3]) [(Ae, .blk Am [.imm (.str (rS ((Aw g0 Ae).getD 0 AV.undef))), .imm (.int .i64 (rI ((Aw g0 Ae).getD 1 AV.undef))), .imm (.int .i64 (rI ((Aw g0 Ae).getD 2 AV.undef)))])])
 (Q (.tup [.imm (.agg [.int .i64 7, .int .i64 a1, .int .i64 (rI (rT r0 0)), .str [], .sl .any 6 [], .sl .any 7 []]),Ai 0]) [(Ae, .blk Am [.imm (.str (rS ((Aw g0 Ae).getD 0 AV.undef))), .imm (.int .i64 (rI ((Aw g0 Ae).getD 1 AV.undef))), .imm (.int .i64 (rI ((Aw g0 Ae).getD 2 AV.undef)))])]))))):Call E0.P O6 [.ptr (.arg 0) 0,Ai a1] [(.arg 0, .blk Am [.imm (.str s), .imm (.int .i64 at_), .imm (.int .i64 win)])] Q:=Bd (Au E0 Oz) (Ba Oz) 3 0 65 ac_parse_reader_number [.cell 4 37, .tmp 5] Aii _ _ Q rfl rfl (kr (by kernel_rfl) h)
noncomputable def ac_parse_word:AC:=(Bf [] [2,3] (codeOf Try.f66) 0).1
abbrev Acl:Nat:=17
theorem Ax3:Bt E0.P 66 ac_parse_word.code Acl [.cell 2 37, .tmp 3]:=Bl _ _ Try.f66 [] [2,3] _ 17 Try.func66 (by kernel_rfl) (by kernel_rfl) (by kernel_rfl) (by kernel_rfl)
theorem Aul(a0:LB)(Q:QQ)(h:
 (Br (a0 == [(116:UInt8),114,117,101])
 (Q (.tup [.imm (.agg [.int .i64 1, .int .i64 1, .int .i64 0, .str [], .sl .any 6 [], .sl .any 7 []]),Ai 0]) [])
 (Br (a0 == [(102:UInt8),97,108,115,101])
 (Q (.tup [.imm (.agg [.int .i64 1, .int .i64 0, .int .i64 0, .str [], .sl .any 6 [], .sl .any 7 []]),Ai 0]) [])
 (Br (a0 == [(110:UInt8),117,108,108])
 (Q (.tup [.imm (.agg [.int .i64 0, .int .i64 0, .int .i64 0, .str [], .sl .any 6 [], .sl .any 7 []]),Ai 0]) [])
 (Q (.tup [.imm (.agg [.int .i64 0, .int .i64 0, .int .i64 0, .str [], .sl .any 6 [], .sl .any 7 []]),Ai 4]) []))))):Call E0.P Ada [As a0] [] Q:=Bd (Au E0 Acl) (Ba Acl) 3 0 66 ac_parse_word [.cell 2 37, .tmp 3] Ax3 _ _ Q rfl rfl (kr (by kernel_rfl) h)
noncomputable def ac_parse_reader_list:AC:=(Bf [(1,[0,2,4],[]),(4,[0,2,4],[]),(10,[2,4],[]),(16,[2,4],[])] [2,3] (codeOf Try.f68) 0).1
abbrev Cr:Nat:=49
def Ii(u0:LB)(u1 u2:Int)(u3 u4 u5:Int)(u6:LB)(u7 u8 u9:Int)(v0:LB)(v1 v2:LL)(v3 v4:LL)(K:KK):Prop:=Bj 4 E0.P Cr (Az 4 ac_parse_reader_list).code ⟨[(0, .ptr Ae 0),(2, .ptr nL2 0),(4, .ptr nL4 0)],[(Ae, .blk Am [As u0,Ai u1,Ai u2]),(nL2, .blk Aa [Ai u3,Ai u4,Ai u5,As u6, .own (nL2.cell 4), .own (nL2.cell 5)]),(nL4, .blk Aa [Ai u7,Ai u8,Ai u9,As v0, .own (nL4.cell 4), .own (nL4.cell 5)]),((nL2.cell 4), .arr (Aa+2) true 6 v1),((nL2.cell 5), .arr (Ag+2) true 7 v2),((nL4.cell 4), .arr (Aa+2) true 6 v3),((nL4.cell 5), .arr (Ag+2) true 7 v4)]⟩ K
def V8(u0 u1 u2:Int)(u3:LB)(u4 u5 u6:Int)(u7 u8:LB)(u9 v0:Int)(v1 v2:LL)(v3 v4:LL)(K:KK):Prop:=Ar 16 E0.P Cr (Af 16 ac_parse_reader_list).code ⟨[(2, .ptr nL2 0),(4, .ptr nL4 0)],[(nL2, .blk Aa [Ai u0,Ai u1,Ai u2,As u3, .own (nL2.cell 4), .own (nL2.cell 5)]),(nL4, .blk Aa [Ai u4,Ai u5,Ai u6,As u7, .own (nL4.cell 4), .own (nL4.cell 5)]),(Ae, .blk Am [As u8,Ai u9,Ai v0]),((nL2.cell 4), .arr (Aa+2) true 6 v1),((nL2.cell 5), .arr (Ag+2) true 7 v2),((nL4.cell 4), .arr (Aa+2) true 6 v3),((nL4.cell 5), .arr (Ag+2) true 7 v4)]⟩ K
def X9(s:LB)(at_ win:Int)(Q:QQ):KK:=kE fun st=>finish 0 E0.T [.cell 2 37, .tmp 3] [(Ae, .blk Am [As s,Ai at_,Ai win])] Q st
def Kv(s:LB)(at_ win:Int)(Q:QQ):Ex→St→Prop
 | .normal,st=>finish 0 E0.T [.cell 2 37, .tmp 3] [(Ae, .blk Am [As s,Ai at_,Ai win])] Q st
 | .exit _,_=>False
 | .goto i,st=>Jh 1 E0.P Cr i (J3 1 ac_parse_reader_list).code (mask [0,2,4] st) (X9 s at_ win Q)
 | .ret,st=>finish 0 E0.T [.cell 2 37, .tmp 3] [(Ae, .blk Am [As s,Ai at_,Ai win])] Q st
def Ig(s:LB)(at_ win:Int)(Q:QQ):Ex→St→Prop
 | .normal,st=>Ar 16 E0.P Cr (Af 16 ac_parse_reader_list).code (mask [2,4] st) (Kv s at_ win Q)
 | .exit i,st=>(match (i.beq 0:Bool)with
 |true=>Ar 16 E0.P Cr (Af 16 ac_parse_reader_list).code (mask [2,4] st) (Kv s at_ win Q)
 |false=>False)
 | .goto i,st=>Jh 1 E0.P Cr i (J3 1 ac_parse_reader_list).code (mask [0,2,4] st) (X9 s at_ win Q)
 | .ret,st=>finish 0 E0.T [.cell 2 37, .tmp 3] [(Ae, .blk Am [As s,Ai at_,Ai win])] Q st
theorem Agg(u0:LB)(u1 u2:Int)(u3 u4 u5:Int)(u6:LB)(u7 u8 u9:Int)(v0:LB)(v1 v2:LL)(v3 v4:LL)(K:KK)(h:
 (Call E0.P Rf [As u0,Ai u1] [] fun r0 g0=>
 Ao (qP5 g0 r0)
 (Br (!decide (rI (rT r0 1)=(0:Int)))
 (K .ret ⟨[(2, .ptr nL2 0),(3,Ai (rI (rT r0 1)))],[(nL2, .blk Aa [Ai 0,Ai 0,Ai 0, .imm (.str []), .own (Nm.sub 20 (nL2.cell 4)), .own (Nm.sub 20 (nL2.cell 5))]),(Ae, .blk Am [As u0,Ai u1,Ai u2]),((Nm.sub 20 (nL2.cell 4)), .arr (Aa+2) true 6 []),((Nm.sub 20 (nL2.cell 5)), .arr (Ag+2) true 7 [])]⟩)
 (Br (decide (gI (Ad (rT r0 0)) 0=(5:Int)))
 (Call E0.P F4 [.ptr Ae 0] [(Ae, .blk Am [As u0,Ai u1,Ai u2])] fun r1 g1=>
 Ao (qP6 g1 r1)
 (K (.exit 0) ⟨[(2, .ptr nL2 0),(4, .ptr nL4 0)],[(nL2, .blk Aa [Ai u3,Ai u4,Ai u5,As u6, .own (nL2.cell 4), .own (nL2.cell 5)]),(nL4, .blk Aa [Ai u7,Ai u8,Ai u9,As v0, .own (nL4.cell 4), .own (nL4.cell 5)]),(Ae, .blk Am [.imm (.str (rS ((Aw g1 Ae).getD 0 AV.undef))), .imm (.int .i64 (rI ((Aw g1 Ae).getD 1 AV.undef))), .imm (.int .i64 (rI ((Aw g1 Ae).getD 2 AV.undef)))]),((nL2.cell 4), .arr (Aa+2) true 6 v1),((nL2.cell 5), .arr (Ag+2) true 7 v2),((nL4.cell 4), .arr (Aa+2) true 6 v3),((nL4.cell 5), .arr (Ag+2) true 7 v4)]⟩))
 (Call E0.P Ic [.ptr Ae 0] [(Ae, .blk Am [As u0,Ai u1,Ai u2])] fun r2 g2=>
 Ao (qP3 g2 r2)
 (Br (!decide (rI (rT r2 1)=(0:Int)))
 (K .ret ⟨[(2, .ptr nL2 0),(3,Ai (rI (rT r2 1)))],[(nL2, .blk Aa [Ai 0,Ai 0,Ai 0, .imm (.str []), .own (Nm.sub 39 (nL2.cell 4)), .own (Nm.sub 39 (nL2.cell 5))]),(Ae, .blk Am [.imm (.str (rS ((Aw g2 Ae).getD 0 AV.undef))), .imm (.int .i64 (rI ((Aw g2 Ae).getD 1 AV.undef))), .imm (.int .i64 (rI ((Aw g2 Ae).getD 2 AV.undef)))]),((Nm.sub 39 (nL2.cell 4)), .arr (Aa+2) true 6 []),((Nm.sub 39 (nL2.cell 5)), .arr (Ag+2) true 7 [])]⟩)
 (Ao ((v3.length+1)*88≤140737488355328∧v3.length+1≤140737488355328)
 (Ii (rS ((Aw g2 Ae).getD 0 AV.undef)) (rI ((Aw g2 Ae).getD 1 AV.undef)) (rI ((Aw g2 Ae).getD 2 AV.undef)) u3 u4 u5 u6 u7 u8 u9 v0 v1 v2 (v3++
 [[IV.int .i64 (gI (Ad (rT r2 0)) 0),
 .int .i64 (gI (Ad (rT r2 0)) 1),
 .int .i64 (gI (Ad (rT r2 0)) 2), .str (gS (Ad (rT r2 0)) 3),
 .sl SK.any 6 (gR (Ad (rT r2 0)) 4),
 .sl SK.any 7 (gR (Ad (rT r2 0)) 5)]]) v4 K)))))))):Ii u0 u1 u2 u3 u4 u5 u6 u7 u8 u9 v0 v1 v2 v3 v4 K:=Bo (Au E0 Cr) (Ba Cr) 3 4 (Az 4 ac_parse_reader_list) [0,2,4] _ K rfl (kr (by kernel_rfl) h)
theorem Aec(u0 u1 u2:Int)(u3:LB)(u4 u5 u6:Int)(u7 u8:LB)(u9 v0:Int)(v1 v2:LL)(v3 v4:LL)(K:KK)(h:
 (K .ret ⟨[(2, .ptr nL2 0),(3,Ai 0)],[(nL2, .blk Aa [Ai u4,Ai u5,Ai u6,As u7, .own (nL4.cell 4), .own (nL4.cell 5)]),(Ae, .blk Am [As u8,Ai u9,Ai v0]),((nL4.cell 4), .arr (Aa+2) true 6 v3),((nL4.cell 5), .arr (Ag+2) true 7 v4)]⟩)):V8 u0 u1 u2 u3 u4 u5 u6 u7 u8 u9 v0 v1 v2 v3 v4 K:=Ay (Au E0 Cr) (Ba Cr) 3 16 (Af 16 ac_parse_reader_list) [] _ K rfl (kr (by kernel_rfl) h)
theorem Afz(s:LB)(at_ win:Int)(Q:QQ)(t3 u0:Int)(u1 u2:Int)(u3 u4:LB)(u5 u6:Int)(u7 u8:LL)(h:
 (Q (.tup [.imm (.agg [.int .i64 u0, .int .i64 u1, .int .i64 u2, .str u3, .sl .any 6 u7, .sl .any 7 u8]),Ai t3]) [(Ae, .blk Am [As u4,Ai u5,Ai u6])])):Kv s at_ win Q .ret ⟨[(2, .ptr nL2 0),(3,Ai t3)],[(nL2, .blk Aa [Ai u0,Ai u1,Ai u2,As u3, .own (nL4.cell 4), .own (nL4.cell 5)]),(Ae, .blk Am [As u4,Ai u5,Ai u6]),((nL4.cell 4), .arr (Aa+2) true 6 u7),((nL4.cell 5), .arr (Ag+2) true 7 u8)]⟩:=kr (by kernel_rfl) h
theorem Agb(s:LB)(at_ win:Int)(Q:QQ)(t3 u0:Int)(u1 u2:Int)(u3 u4:LB)(u5 u6:Int)(u7 u8:LL)(h:
 (Q (.tup [.imm (.agg [.int .i64 u0, .int .i64 u1, .int .i64 u2, .str u3, .sl .any 6 u7, .sl .any 7 u8]),Ai t3]) [(Ae, .blk Am [As u4,Ai u5,Ai u6])])):Ig s at_ win Q .ret ⟨[(2, .ptr nL2 0),(3,Ai t3)],[(nL2, .blk Aa [Ai u0,Ai u1,Ai u2,As u3, .own (Nm.sub 20 (nL2.cell 4)), .own (Nm.sub 20 (nL2.cell 5))]),(Ae, .blk Am [As u4,Ai u5,Ai u6]),((Nm.sub 20 (nL2.cell 4)), .arr (Aa+2) true 6 u7),((Nm.sub 20 (nL2.cell 5)), .arr (Ag+2) true 7 u8)]⟩:=kr (by kernel_rfl) h
theorem Af4(s:LB)(at_ win:Int)(Q:QQ)(u0 u1 u2:Int)(u3:LB)(u4 u5 u6:Int)(u7 u8:LB)(u9 v0:Int)(v1 v2:LL)(v3 v4:LL)(h:
 (V8 u0 u1 u2 u3 u4 u5 u6 u7 u8 u9 v0 v1 v2 v3 v4 (Kv s at_ win Q))):Ig s at_ win Q (.exit 0) ⟨[(2, .ptr nL2 0),(4, .ptr nL4 0)],[(nL2, .blk Aa [Ai u0,Ai u1,Ai u2,As u3, .own (nL2.cell 4), .own (nL2.cell 5)]),(nL4, .blk Aa [Ai u4,Ai u5,Ai u6,As u7, .own (nL4.cell 4), .own (nL4.cell 5)]),(Ae, .blk Am [As u8,Ai u9,Ai v0]),((nL2.cell 4), .arr (Aa+2) true 6 v1),((nL2.cell 5), .arr (Ag+2) true 7 v2),((nL4.cell 4), .arr (Aa+2) true 6 v3),((nL4.cell 5), .arr (Ag+2) true 7 v4)]⟩:=kr (by kernel_rfl) h
theorem Agx(s:LB)(at_ win:Int)(Q:QQ)(t3 u0:Int)(u1 u2:Int)(u3 u4:LB)(u5 u6:Int)(u7 u8:LL)(h:
 (Q (.tup [.imm (.agg [.int .i64 u0, .int .i64 u1, .int .i64 u2, .str u3, .sl .any 6 u7, .sl .any 7 u8]),Ai t3]) [(Ae, .blk Am [As u4,Ai u5,Ai u6])])):Ig s at_ win Q .ret ⟨[(2, .ptr nL2 0),(3,Ai t3)],[(nL2, .blk Aa [Ai u0,Ai u1,Ai u2,As u3, .own (Nm.sub 39 (nL2.cell 4)), .own (Nm.sub 39 (nL2.cell 5))]),(Ae, .blk Am [As u4,Ai u5,Ai u6]),((Nm.sub 39 (nL2.cell 4)), .arr (Aa+2) true 6 u7),((Nm.sub 39 (nL2.cell 5)), .arr (Ag+2) true 7 u8)]⟩:=kr (by kernel_rfl) h
theorem Akt:Bt E0.P 68 ac_parse_reader_list.code Cr [.cell 2 37, .tmp 3]:=Bl _ _ Try.f68 [(1,[0,2,4],[]),(4,[0,2,4],[]),(10,[2,4],[]),(16,[2,4],[])] [2,3] _ 49 Try.func68 (by kernel_rfl) (by kernel_rfl) (by kernel_rfl) (by kernel_rfl)
theorem Aiq(s:LB)(at_ win:Int)(Q:QQ)(h:
 (Ii s at_ win ((0:Int)) ((0:Int)) ((0:Int)) [] ((5:Int)) ((0:Int)) ((0:Int)) [] [] [] [] [] (Ig s at_ win Q))):Call E0.P Q5 [.ptr (.arg 0) 0] [(.arg 0, .blk Am [.imm (.str s), .imm (.int .i64 at_), .imm (.int .i64 win)])] Q:=Bd (Au E0 Cr) (Ba Cr) 3 0 68 ac_parse_reader_list [.cell 2 37, .tmp 3] Akt _ _ Q rfl rfl (kr (by kernel_rfl) h)
noncomputable def ac_parse_reader_dict:AC:=(Bf [(3,[0,2,4,5],[])] [2,3] (codeOf Try.f69) 0).1
abbrev Hf:Nat:=47
def Ij(u0:LB)(u1 u2:Int)(u3 u4 u5:Int)(u6:LB)(u7 u8 u9:Int)(v0:LB)(v1:List (List UInt8 × Int))(v2 v3:LL)(v4 v5:LL)(K:KK):Prop:=Bj 3 E0.P Hf (Az 3 ac_parse_reader_dict).code ⟨[(0, .ptr Ae 0),(2, .ptr nL2 0),(4, .ptr nL4 0),(5, .mp Np)],[(Ae, .blk Am [As u0,Ai u1,Ai u2]),(nL2, .blk Aa [Ai u3,Ai u4,Ai u5,As u6, .own (nL2.cell 4), .own (nL2.cell 5)]),(nL4, .blk Aa [Ai u7,Ai u8,Ai u9,As v0, .own (nL4.cell 4), .own (nL4.cell 5)]),(Np, .map v1),((nL2.cell 4), .arr (Aa+2) true 6 v2),((nL2.cell 5), .arr (Ag+2) true 7 v3),((nL4.cell 4), .arr (Aa+2) true 6 v4),((nL4.cell 5), .arr (Ag+2) true 7 v5)]⟩ K
def Gq(s:LB)(at_ win:Int)(Q:QQ):KK:=kF 0 (fun st=>finish 0 E0.T [.cell 2 37, .tmp 3] [(Ae, .blk Am [As s,Ai at_,Ai win])] Q st) fun st=>finish 0 E0.T [.cell 2 37, .tmp 3] [(Ae, .blk Am [As s,Ai at_,Ai win])] Q st
theorem Af8(u0:LB)(u1 u2:Int)(u3 u4 u5:Int)(u6:LB)(u7 u8 u9:Int)(v0:LB)(v1:List (List UInt8 × Int))(v2 v3:LL)(v4 v5:LL)(K:KK)(h:
 (Call E0.P R3 [.ptr Ae 0, .mp Av] [(Ae, .blk Am [As u0,Ai u1,Ai u2]),(Av, .map v1)] fun r0 g0=>
 Ao (g0=
 [(Nm.arg 0,
 Entry.blk 89
 [.imm (.str (rS ((Aw g0 Ae).getD 0 AV.undef))),
 .imm (.int .i64 (rI ((Aw g0 Ae).getD 1 AV.undef))),
 .imm (.int .i64 (rI ((Aw g0 Ae).getD 2 AV.undef)))]),
 (Nm.arg 1,Entry.map (mapOf g0 Av))]∧
 r0=
 .tup
 [.imm (.str (rS (rT r0 0))), .imm (.bool (rB (rT r0 1))),
 .imm (.int .i64 (rI (rT r0 2)))])
 (Br (!decide (rI (rT r0 2)=(0:Int)))
 (K .ret ⟨[(2, .ptr nL2 0),(3,Ai (rI (rT r0 2)))],[(nL2, .blk Aa [Ai 0,Ai 0,Ai 0, .imm (.str []), .own (Nm.sub 22 (nL2.cell 4)), .own (Nm.sub 22 (nL2.cell 5))]),(Ae, .blk Am [.imm (.str (rS ((Aw g0 Ae).getD 0 AV.undef))), .imm (.int .i64 (rI ((Aw g0 Ae).getD 1 AV.undef))), .imm (.int .i64 (rI ((Aw g0 Ae).getD 2 AV.undef)))]),((Nm.sub 22 (nL2.cell 4)), .arr (Aa+2) true 6 []),((Nm.sub 22 (nL2.cell 5)), .arr (Ag+2) true 7 [])]⟩)
 (Br (!rB (rT r0 1))
 (K .ret ⟨[(2, .ptr nL2 0),(3,Ai 0)],[(nL2, .blk Aa [Ai u7,Ai u8,Ai u9,As v0, .own (nL4.cell 4), .own (nL4.cell 5)]),(Ae, .blk Am [.imm (.str (rS ((Aw g0 Ae).getD 0 AV.undef))), .imm (.int .i64 (rI ((Aw g0 Ae).getD 1 AV.undef))), .imm (.int .i64 (rI ((Aw g0 Ae).getD 2 AV.undef)))]),((nL4.cell 4), .arr (Aa+2) true 6 v4),((nL4.cell 5), .arr (Ag+2) true 7 v5)]⟩)
 (Call E0.P Ic [.ptr Ae 0] [(Ae, .blk Am [.imm (.str (rS ((Aw g0 Ae).getD 0 AV.undef))), .imm (.int .i64 (rI ((Aw g0 Ae).getD 1 AV.undef))), .imm (.int .i64 (rI ((Aw g0 Ae).getD 2 AV.undef)))])] fun r1 g1=>
 Ao (qP3 g1 r1)
 (Br (!decide (rI (rT r1 1)=(0:Int)))
 (K .ret ⟨[(2, .ptr nL2 0),(3,Ai (rI (rT r1 1)))],[(nL2, .blk Aa [Ai 0,Ai 0,Ai 0, .imm (.str []), .own (Nm.sub 36 (nL2.cell 4)), .own (Nm.sub 36 (nL2.cell 5))]),(Ae, .blk Am [.imm (.str (rS ((Aw g1 Ae).getD 0 AV.undef))), .imm (.int .i64 (rI ((Aw g1 Ae).getD 1 AV.undef))), .imm (.int .i64 (rI ((Aw g1 Ae).getD 2 AV.undef)))]),((Nm.sub 36 (nL2.cell 4)), .arr (Aa+2) true 6 []),((Nm.sub 36 (nL2.cell 5)), .arr (Ag+2) true 7 [])]⟩)
 (Ao ((v5.length+1)*104≤140737488355328∧v5.length+1≤140737488355328)
 (Ij (rS ((Aw g1 Ae).getD 0 AV.undef)) (rI ((Aw g1 Ae).getD 1 AV.undef)) (rI ((Aw g1 Ae).getD 2 AV.undef)) u3 u4 u5 u6 u7 u8 u9 v0 (mapOf g0 Av) v2 v3 v4 (v5++
 [[IV.str (rS (rT r0 0)), .int .i64 (gI (Ad (rT r1 0)) 0),
 .int .i64 (gI (Ad (rT r1 0)) 1),
 .int .i64 (gI (Ad (rT r1 0)) 2), .str (gS (Ad (rT r1 0)) 3),
 .sl SK.any 6 (gR (Ad (rT r1 0)) 4),
 .sl SK.any 7 (gR (Ad (rT r1 0)) 5)]]) K)))))))):Ij u0 u1 u2 u3 u4 u5 u6 u7 u8 u9 v0 v1 v2 v3 v4 v5 K:=Bo (Au E0 Hf) (Ba Hf) 3 3 (Az 3 ac_parse_reader_dict) [0,2,4,5] _ K rfl (kr (by kernel_rfl) h)
theorem Afq(s:LB)(at_ win:Int)(Q:QQ)(t3 u0:Int)(u1 u2:Int)(u3 u4:LB)(u5 u6:Int)(u7 u8:LL)(h:
 (Q (.tup [.imm (.agg [.int .i64 u0, .int .i64 u1, .int .i64 u2, .str u3, .sl .any 6 u7, .sl .any 7 u8]),Ai t3]) [(Ae, .blk Am [As u4,Ai u5,Ai u6])])):Gq s at_ win Q .ret ⟨[(2, .ptr nL2 0),(3,Ai t3)],[(nL2, .blk Aa [Ai u0,Ai u1,Ai u2,As u3, .own (Nm.sub 22 (nL2.cell 4)), .own (Nm.sub 22 (nL2.cell 5))]),(Ae, .blk Am [As u4,Ai u5,Ai u6]),((Nm.sub 22 (nL2.cell 4)), .arr (Aa+2) true 6 u7),((Nm.sub 22 (nL2.cell 5)), .arr (Ag+2) true 7 u8)]⟩:=kr (by kernel_rfl) h
theorem Af5(s:LB)(at_ win:Int)(Q:QQ)(t3 u0:Int)(u1 u2:Int)(u3 u4:LB)(u5 u6:Int)(u7 u8:LL)(h:
 (Q (.tup [.imm (.agg [.int .i64 u0, .int .i64 u1, .int .i64 u2, .str u3, .sl .any 6 u7, .sl .any 7 u8]),Ai t3]) [(Ae, .blk Am [As u4,Ai u5,Ai u6])])):Gq s at_ win Q .ret ⟨[(2, .ptr nL2 0),(3,Ai t3)],[(nL2, .blk Aa [Ai u0,Ai u1,Ai u2,As u3, .own (nL4.cell 4), .own (nL4.cell 5)]),(Ae, .blk Am [As u4,Ai u5,Ai u6]),((nL4.cell 4), .arr (Aa+2) true 6 u7),((nL4.cell 5), .arr (Ag+2) true 7 u8)]⟩:=kr (by kernel_rfl) h
theorem Agi(s:LB)(at_ win:Int)(Q:QQ)(t3 u0:Int)(u1 u2:Int)(u3 u4:LB)(u5 u6:Int)(u7 u8:LL)(h:
 (Q (.tup [.imm (.agg [.int .i64 u0, .int .i64 u1, .int .i64 u2, .str u3, .sl .any 6 u7, .sl .any 7 u8]),Ai t3]) [(Ae, .blk Am [As u4,Ai u5,Ai u6])])):Gq s at_ win Q .ret ⟨[(2, .ptr nL2 0),(3,Ai t3)],[(nL2, .blk Aa [Ai u0,Ai u1,Ai u2,As u3, .own (Nm.sub 36 (nL2.cell 4)), .own (Nm.sub 36 (nL2.cell 5))]),(Ae, .blk Am [As u4,Ai u5,Ai u6]),((Nm.sub 36 (nL2.cell 4)), .arr (Aa+2) true 6 u7),((Nm.sub 36 (nL2.cell 5)), .arr (Ag+2) true 7 u8)]⟩:=kr (by kernel_rfl) h
theorem Alc:Bt E0.P 69 ac_parse_reader_dict.code Hf [.cell 2 37, .tmp 3]:=Bl _ _ Try.f69 [(3,[0,2,4,5],[])] [2,3] _ 47 Try.func69 (by kernel_rfl) (by kernel_rfl) (by kernel_rfl) (by kernel_rfl)
theorem Ah8(s:LB)(at_ win:Int)(Q:QQ)(h:
 (Ij s at_ win ((0:Int)) ((0:Int)) ((0:Int)) [] ((6:Int)) ((0:Int)) ((0:Int)) [] [] [] [] [] [] (Gq s at_ win Q))):Call E0.P Qq [.ptr (.arg 0) 0] [(.arg 0, .blk Am [.imm (.str s), .imm (.int .i64 at_), .imm (.int .i64 win)])] Q:=Bd (Au E0 Hf) (Ba Hf) 3 0 69 ac_parse_reader_dict [.cell 2 37, .tmp 3] Alc _ _ Q rfl rfl (kr (by kernel_rfl) h)
noncomputable def ac_r18_number:AC:=(Bf [] [4,5,6] (codeOf Try.f72) 0).1
abbrev Adb:Nat:=45
theorem Ayj:Bt E0.P 72 ac_r18_number.code Adb [.cell 4 37, .tmp 5, .tmp 6]:=Bl _ _ Try.f72 [] [4,5,6] _ 45 Try.func72 (by kernel_rfl) (by kernel_rfl) (by kernel_rfl) (by kernel_rfl)
theorem Ahh(a0:LB)(a1_0 a1_1:Int)(a1_2:LB)(a1_3 a1_4:Int)(Q:QQ)(h:
 (Call E0.P Abj [As a0, .imm (.agg [.int .i64 a1_0, .int .i64 a1_1, .str a1_2, .int .i64 a1_3, .int .i64 a1_4])] [] fun r0 g0=>
 Ao (g0=[]∧
 r0=
 .tup
 [.imm
 (IV.agg
 [.int .i64 (gI (Ad (rT r0 0)) 0),
 .int .i64 (gI (Ad (rT r0 0)) 1),
 .int .i64 (gI (Ad (rT r0 0)) 2),
 .str (gS (Ad (rT r0 0)) 3),
 .sl SK.any 6 (gR (Ad (rT r0 0)) 4),
 .sl SK.any 7 (gR (Ad (rT r0 0)) 5)]),
 .imm (.int .i64 (rI (rT r0 1))), .imm (.bool (rB (rT r0 2)))])
 (Br (!rB (rT r0 2))
 (Q (.tup [.imm (.agg [.int .i64 2, .int .i64 a1_1, .int .i64 0, .str [], .sl .any 6 [], .sl .any 7 []]),Ai a1_4,Ai 0]) [])
 (Let (bif decide (gI (Ad (rT r0 0)) 1<(1:Int))then true
 else decide ((8388607:Int)<gI (Ad (rT r0 0)) 1)) fun x1=>
 Let (bif x1 then true else decide (gI (Ad (rT r0 0)) 2<(0:Int))) fun x2=>
 Let (bif x2 then true else decide ((65535:Int)<gI (Ad (rT r0 0)) 2)) fun x3=>
 Br (x3)
 (Q (.tup [.imm (.agg [.int .i64 0, .int .i64 0, .int .i64 0, .str [], .sl .any 6 [], .sl .any 7 []]),Ai 0,Ai 3]) [])
 (Q (.tup [.imm (.agg [.int .i64 (gI (Ad (rT r0 0)) 0), .int .i64 (gI (Ad (rT r0 0)) 1), .int .i64 (gI (Ad (rT r0 0)) 2), .str (gS (Ad (rT r0 0)) 3), .sl .any 6 (gR (Ad (rT r0 0)) 4), .sl .any 7 (gR (Ad (rT r0 0)) 5)]),Ai (rI (rT r0 1)),Ai 0]) []))))):Call E0.P Aco [As a0, .imm (.agg [.int .i64 a1_0, .int .i64 a1_1, .str a1_2, .int .i64 a1_3, .int .i64 a1_4])] [] Q:=Bd (Au E0 Adb) (Ba Adb) 3 0 72 ac_r18_number [.cell 4 37, .tmp 5, .tmp 6] Ayj _ _ Q rfl rfl (kr (by kernel_rfl) h)
noncomputable def ac_r18_word:AC:=(Bf [] [2,3,4] (codeOf Try.f73) 0).1
abbrev Aig:Nat:=23
theorem A2g:Bt E0.P 73 ac_r18_word.code Aig [.cell 2 37, .tmp 3, .tmp 4]:=Bl _ _ Try.f73 [] [2,3,4] _ 23 Try.func73 (by kernel_rfl) (by kernel_rfl) (by kernel_rfl) (by kernel_rfl)
theorem Axw(a0_0 a0_1:Int)(a0_2:LB)(a0_3 a0_4:Int)(Q:QQ)(h:
 (Br (a0_2 == [(116:UInt8),114,117,101])
 (Q (.tup [.imm (.agg [.int .i64 1, .int .i64 1, .int .i64 0, .str [], .sl .any 6 [], .sl .any 7 []]),Ai a0_4,Ai 0]) [])
 (Br (a0_2 == [(102:UInt8),97,108,115,101])
 (Q (.tup [.imm (.agg [.int .i64 1, .int .i64 0, .int .i64 0, .str [], .sl .any 6 [], .sl .any 7 []]),Ai a0_4,Ai 0]) [])
 (Br (a0_2 == [(110:UInt8),117,108,108])
 (Q (.tup [.imm (.agg [.int .i64 0, .int .i64 0, .int .i64 0, .str [], .sl .any 6 [], .sl .any 7 []]),Ai a0_4,Ai 0]) [])
 (Q (.tup [.imm (.agg [.int .i64 0, .int .i64 0, .int .i64 0, .str [], .sl .any 6 [], .sl .any 7 []]),Ai 0,Ai 4]) []))))):Call E0.P Aih [.imm (.agg [.int .i64 a0_0, .int .i64 a0_1, .str a0_2, .int .i64 a0_3, .int .i64 a0_4])] [] Q:=Bd (Au E0 Aig) (Ba Aig) 3 0 73 ac_r18_word [.cell 2 37, .tmp 3, .tmp 4] A2g _ _ Q rfl rfl (kr (by kernel_rfl) h)
noncomputable def ac_r18_list:AC:=(Bf [(2,[0,1,2,6,9],[])] [6,7,8] (codeOf Try.f74) 0).1
abbrev Rq:Nat:=50
def Tw(t0:LB)(t1 t2:Int)(u0 u1 u2:Int)(u3:LB)(u4 u5 u6:LL)(K:KK):Prop:=Bj 2 E0.P Rq (Az 2 ac_r18_list).code ⟨[(0,As t0),(1,Ai t1),(2,Ai t2),(6, .ptr nL6 0),(9, .own Avf)],[(nL6, .blk Aa [Ai u0,Ai u1,Ai u2,As u3, .own (nL6.cell 4), .own (nL6.cell 5)]),(Avf, .arr 0 true 6 u4),((nL6.cell 4), .arr (Aa+2) true 6 u5),((nL6.cell 5), .arr (Ag+2) true 7 u6)]⟩ K
def Y5(Q:QQ):KK:=kF 0 (fun st=>finish 0 E0.T [.cell 6 37, .tmp 7, .tmp 8] [] Q st) fun st=>finish 0 E0.T [.cell 6 37, .tmp 7, .tmp 8] [] Q st
theorem Aui(t0:LB)(t1 t2:Int)(u0 u1 u2:Int)(u3:LB)(u4 u5 u6:LL)(K:KK)(h:
 (Call E0.P Me [As t0,Ai t1] [] fun r0 g0=>
 Ao (qP5 g0 r0)
 (Br (!decide (rI (rT r0 1)=(0:Int)))
 (K .ret ⟨[(6, .ptr nL6 0),(7,Ai 0),(8,Ai (rI (rT r0 1)))],[(nL6, .blk Aa [Ai 0,Ai 0,Ai 0, .imm (.str []), .own (nL6.cell 4), .own (nL6.cell 5)]),((nL6.cell 4), .arr (Aa+2) true 6 []),((nL6.cell 5), .arr (Ag+2) true 7 [])]⟩)
 (Br (decide (gI (Ad (rT r0 0)) 0=(5:Int)))
 (K .ret ⟨[(6, .ptr nL6 0),(7,Ai (gI (Ad (rT r0 0)) 4)),(8,Ai 0)],[(nL6, .blk Aa [Ai 5,Ai 0,Ai 0, .imm (.str []), .own Avf, .own (nL6.cell 5)]),(Avf, .arr 0 true 6 u4),((nL6.cell 5), .arr (Ag+2) true 7 [])]⟩)
 (Call E0.P V3 [As t0,Ai t1,Ai t2] [] fun r1 g1=>
 Ao (qP1 g1 r1)
 (Br (!decide (rI (rT r1 2)=(0:Int)))
 (K .ret ⟨[(6, .ptr nL6 0),(7,Ai 0),(8,Ai (rI (rT r1 2)))],[(nL6, .blk Aa [Ai 0,Ai 0,Ai 0, .imm (.str []), .own (nL6.cell 4), .own (nL6.cell 5)]),((nL6.cell 4), .arr (Aa+2) true 6 []),((nL6.cell 5), .arr (Ag+2) true 7 [])]⟩)
 (Ao ((u4.length+1)*88≤140737488355328∧u4.length+1≤140737488355328)
 (Tw t0 (rI (rT r1 1)) t2 u0 u1 u2 u3 (u4++
 [[IV.int .i64 (gI (Ad (rT r1 0)) 0),
 .int .i64 (gI (Ad (rT r1 0)) 1),
 .int .i64 (gI (Ad (rT r1 0)) 2), .str (gS (Ad (rT r1 0)) 3),
 .sl SK.any 6 (gR (Ad (rT r1 0)) 4),
 .sl SK.any 7 (gR (Ad (rT r1 0)) 5)]]) u5 u6 K)))))))):Tw t0 t1 t2 u0 u1 u2 u3 u4 u5 u6 K:=Bo (Au E0 Rq) (Ba Rq) 3 2 (Az 2 ac_r18_list) [0,1,2,6,9] _ K rfl (kr (by kernel_rfl) h)
theorem Ahe(Q:QQ)(t7 t8:Int)(u0 u1 u2:Int)(u3:LB)(u4 u5:LL)(h:
 (Q (.tup [.imm (.agg [.int .i64 u0, .int .i64 u1, .int .i64 u2, .str u3, .sl .any 6 u4, .sl .any 7 u5]),Ai t7,Ai t8]) [])):Y5 Q .ret ⟨[(6, .ptr nL6 0),(7,Ai t7),(8,Ai t8)],[(nL6, .blk Aa [Ai u0,Ai u1,Ai u2,As u3, .own (nL6.cell 4), .own (nL6.cell 5)]),((nL6.cell 4), .arr (Aa+2) true 6 u4),((nL6.cell 5), .arr (Ag+2) true 7 u5)]⟩:=kr (by kernel_rfl) h
theorem At5(Q:QQ)(t7 t8:Int)(u0 u1 u2:Int)(u3:LB)(u4 u5:LL)(h:
 (Q (.tup [.imm (.agg [.int .i64 u0, .int .i64 u1, .int .i64 u2, .str u3, .sl .any 6 u4, .sl .any 7 u5]),Ai t7,Ai t8]) [])):Y5 Q .ret ⟨[(6, .ptr nL6 0),(7,Ai t7),(8,Ai t8)],[(nL6, .blk Aa [Ai u0,Ai u1,Ai u2,As u3, .own Avf, .own (nL6.cell 5)]),(Avf, .arr 0 true 6 u4),((nL6.cell 5), .arr (Ag+2) true 7 u5)]⟩:=kr (by kernel_rfl) h
theorem A2j:Bt E0.P 74 ac_r18_list.code Rq [.cell 6 37, .tmp 7, .tmp 8]:=Bl _ _ Try.f74 [(2,[0,1,2,6,9],[])] [6,7,8] _ 50 Try.func74 (by kernel_rfl) (by kernel_rfl) (by kernel_rfl) (by kernel_rfl)
theorem Ayk(a0:LB)(a1 a2:Int)(Q:QQ)(h:
 (Tw a0 a1 a2 ((0:Int)) ((0:Int)) ((0:Int)) [] [] [] [] (Y5 Q))):Call E0.P Aix [As a0,Ai a1,Ai a2] [] Q:=Bd (Au E0 Rq) (Ba Rq) 3 0 74 ac_r18_list [.cell 6 37, .tmp 7, .tmp 8] A2j _ _ Q rfl rfl (kr (by kernel_rfl) h)
noncomputable def ac_r18_dict:AC:=(Bf [(2,[0,1,2,6,9],[]),(14,[0,2,6,9,10,12],[]),(16,[0,2,6,9,10],[]),(21,[0,2,6,9,10],[0,1,2,6,9])] [6,7,8] (codeOf Try.f75) 0).1
abbrev Ej:Nat:=82
def Sy(t0:LB)(t1 t2:Int)(u0 u1 u2:Int)(u3:LB)(u4 u5 u6:LL)(K:KK):Prop:=Bj 2 E0.P Ej (Az 2 ac_r18_dict).code ⟨[(0,As t0),(1,Ai t1),(2,Ai t2),(6, .ptr nL6 0),(9, .own R5)],[(nL6, .blk Aa [Ai u0,Ai u1,Ai u2,As u3, .own (nL6.cell 4), .own (nL6.cell 5)]),(R5, .arr 0 true 7 u4),((nL6.cell 4), .arr (Aa+2) true 6 u5),((nL6.cell 5), .arr (Ag+2) true 7 u6)]⟩ K
def Xe(t0:LB)(t2 t12:Int)(u0 u1 u2:Int)(u3:LB)(u4:LL)(u5 u6:Int)(u7:LB)(u8 u9:Int)(v0 v1:LL)(K:KK):Prop:=Bj 14 E0.P Ej (Az 14 ac_r18_dict).code ⟨[(0,As t0),(2,Ai t2),(6, .ptr nL6 0),(9, .own R5),(10, .ptr An9 0),(12,Ai t12)],[(nL6, .blk Aa [Ai u0,Ai u1,Ai u2,As u3, .own (nL6.cell 4), .own (nL6.cell 5)]),(R5, .arr 0 true 7 u4),(An9, .blk Aq [Ai u5,Ai u6,As u7,Ai u8,Ai u9]),((nL6.cell 4), .arr (Aa+2) true 6 v0),((nL6.cell 5), .arr (Ag+2) true 7 v1)]⟩ K
def Acp(t0:LB)(t2 u0:Int)(u1 u2:Int)(u3:LB)(u4:LL)(u5 u6:Int)(u7:LB)(u8 u9:Int)(v0 v1:LL)(K:KK):Prop:=Ar 21 E0.P Ej (Af 21 ac_r18_dict).code ⟨[(0,As t0),(2,Ai t2),(6, .ptr nL6 0),(9, .own R5),(10, .ptr An9 0)],[(nL6, .blk Aa [Ai u0,Ai u1,Ai u2,As u3, .own (nL6.cell 4), .own (nL6.cell 5)]),(R5, .arr 0 true 7 u4),(An9, .blk Aq [Ai u5,Ai u6,As u7,Ai u8,Ai u9]),((nL6.cell 4), .arr (Aa+2) true 6 v0),((nL6.cell 5), .arr (Ag+2) true 7 v1)]⟩ K
def Tf(Q:QQ):KK:=kF 0 (fun st=>finish 0 E0.T [.cell 6 37, .tmp 7, .tmp 8] [] Q st) fun st=>finish 0 E0.T [.cell 6 37, .tmp 7, .tmp 8] [] Q st
def Pq(K:KK):KK:=kC 1 (fun st=>Bj 2 E0.P Ej (Az 2 ac_r18_dict).code (mask [0,1,2,6,9] st) K) K
def Y6(K:KK):Ex→St→Prop
 | .normal,st=>Ar 21 E0.P Ej (Af 21 ac_r18_dict).code (mask [0,2,6,9,10] st) (Pq K)
 | .exit i,st=>(match (i.beq 3:Bool)with
 |true=>Ar 21 E0.P Ej (Af 21 ac_r18_dict).code (mask [0,2,6,9,10] st) (Pq K)
 |false=>(match (i.beq 1:Bool)with
 |true=>Bj 2 E0.P Ej (Az 2 ac_r18_dict).code (mask [0,1,2,6,9] st) K
 |false=>K (.exit i) st))
 | .goto i,st=>K (.goto i) st
 | .ret,st=>K .ret st
theorem Asw(t0:LB)(t1 t2:Int)(u0 u1 u2:Int)(u3:LB)(u4 u5 u6:LL)(K:KK)(h:
 (Call E0.P Me [As t0,Ai t1] [] fun r0 g0=>
 Ao (qP5 g0 r0)
 (Br (!decide (rI (rT r0 1)=(0:Int)))
 (K .ret ⟨[(6, .ptr nL6 0),(7,Ai 0),(8,Ai (rI (rT r0 1)))],[(nL6, .blk Aa [Ai 0,Ai 0,Ai 0, .imm (.str []), .own (nL6.cell 4), .own (nL6.cell 5)]),((nL6.cell 4), .arr (Aa+2) true 6 []),((nL6.cell 5), .arr (Ag+2) true 7 [])]⟩)
 (Br (decide (gI (Ad (rT r0 0)) 0=(7:Int)))
 (K .ret ⟨[(6, .ptr nL6 0),(7,Ai (gI (Ad (rT r0 0)) 4)),(8,Ai 0)],[(nL6, .blk Aa [Ai 6,Ai 0,Ai 0, .imm (.str []), .own (nL6.cell 4), .own R5]),((nL6.cell 4), .arr (Aa+2) true 6 []),(R5, .arr 0 true 7 u4)]⟩)
 (Br (decide (gI (Ad (rT r0 0)) 0=(0:Int)))
 (K .ret ⟨[(6, .ptr nL6 0),(7,Ai 0),(8,Ai 5)],[(nL6, .blk Aa [Ai 0,Ai 0,Ai 0, .imm (.str []), .own (nL6.cell 4), .own (nL6.cell 5)]),((nL6.cell 4), .arr (Aa+2) true 6 []),((nL6.cell 5), .arr (Ag+2) true 7 [])]⟩)
 (Br (!decide (gI (Ad (rT r0 0)) 0=(2:Int)))
 (K .ret ⟨[(6, .ptr nL6 0),(7,Ai 0),(8,Ai 4)],[(nL6, .blk Aa [Ai 0,Ai 0,Ai 0, .imm (.str []), .own (nL6.cell 4), .own (nL6.cell 5)]),((nL6.cell 4), .arr (Aa+2) true 6 []),((nL6.cell 5), .arr (Ag+2) true 7 [])]⟩)
 (Xe t0 t2 ((0:Int)) u0 u1 u2 u3 u4 (gI (Ad (rT r0 0)) 0) (gI (Ad (rT r0 0)) 1) (gS (Ad (rT r0 0)) 2) (gI (Ad (rT r0 0)) 3) (gI (Ad (rT r0 0)) 4) u5 u6 (Y6 K)))))))):Sy t0 t1 t2 u0 u1 u2 u3 u4 u5 u6 K:=Bo (Au E0 Ej) (Ba Ej) 3 2 (Az 2 ac_r18_dict) [0,1,2,6,9] _ K rfl (kr (by kernel_rfl) h)
theorem Agd(t0:LB)(t2 t12:Int)(u0 u1 u2:Int)(u3:LB)(u4:LL)(u5 u6:Int)(u7:LB)(u8 u9:Int)(v0 v1:LL)(K:KK)(h:
 (Br (decide (t12<(↑u4.length:Int)))
 (Ao ((0:Int)≤t12∧t12<(↑u4.length:Int))
 (Ao (t12.toNat<u4.length∧Ch [.str] (List.take 1 (List.drop 0 (u4.getD t12.toNat [])))=true)
 (Br (gS (List.take 1 (List.drop 0 (u4.getD t12.toNat []))) 0 == u7)
 (K .ret ⟨[(6, .ptr nL6 0),(7,Ai 0),(8,Ai 11)],[(nL6, .blk Aa [Ai 0,Ai 0,Ai 0, .imm (.str []), .own (nL6.cell 4), .own (nL6.cell 5)]),((nL6.cell 4), .arr (Aa+2) true 6 []),((nL6.cell 5), .arr (Ag+2) true 7 [])]⟩)
 (Xe t0 t2 (IntKind.i64.wrap (t12+(1:Int))) u0 u1 u2 u3 u4 u5 u6 u7 u8 u9 v0 v1 K))))
 (K (.exit (3)) ⟨[(0,As t0),(2,Ai t2),(6, .ptr nL6 0),(9, .own R5),(10, .ptr An9 0)],[(nL6, .blk Aa [Ai u0,Ai u1,Ai u2,As u3, .own (nL6.cell 4), .own (nL6.cell 5)]),(R5, .arr 0 true 7 u4),(An9, .blk Aq [Ai u5,Ai u6,As u7,Ai u8,Ai u9]),((nL6.cell 4), .arr (Aa+2) true 6 v0),((nL6.cell 5), .arr (Ag+2) true 7 v1)]⟩))):Xe t0 t2 t12 u0 u1 u2 u3 u4 u5 u6 u7 u8 u9 v0 v1 K:=Bo (Au E0 Ej) (Ba Ej) 3 14 (Az 14 ac_r18_dict) [0,2,6,9,10,12] _ K rfl (kr (by kernel_rfl) h)
theorem Ar5(t0:LB)(t2 u0:Int)(u1 u2:Int)(u3:LB)(u4:LL)(u5 u6:Int)(u7:LB)(u8 u9:Int)(v0 v1:LL)(K:KK)(h:
 (Call E0.P V3 [As t0,Ai u9,Ai t2] [] fun r0 g0=>
 Ao (qP1 g0 r0)
 (Br (!decide (rI (rT r0 2)=(0:Int)))
 (K .ret ⟨[(6, .ptr nL6 0),(7,Ai 0),(8,Ai (rI (rT r0 2)))],[(nL6, .blk Aa [Ai 0,Ai 0,Ai 0, .imm (.str []), .own (nL6.cell 4), .own (nL6.cell 5)]),((nL6.cell 4), .arr (Aa+2) true 6 []),((nL6.cell 5), .arr (Ag+2) true 7 [])]⟩)
 (Ao ((u4.length+1)*104≤140737488355328∧u4.length+1≤140737488355328)
 (K .normal ⟨[(0,As t0),(1,Ai (rI (rT r0 1))),(2,Ai t2),(6, .ptr nL6 0),(9, .own R5)],[(nL6, .blk Aa [Ai u0,Ai u1,Ai u2,As u3, .own (nL6.cell 4), .own (nL6.cell 5)]),(R5, .arr 0 true 7 (u4++
 [[IV.str u7, .int .i64 (gI (Ad (rT r0 0)) 0),
 .int .i64 (gI (Ad (rT r0 0)) 1),
 .int .i64 (gI (Ad (rT r0 0)) 2), .str (gS (Ad (rT r0 0)) 3),
 .sl SK.any 6 (gR (Ad (rT r0 0)) 4),
 .sl SK.any 7 (gR (Ad (rT r0 0)) 5)]])),((nL6.cell 4), .arr (Aa+2) true 6 v0),((nL6.cell 5), .arr (Ag+2) true 7 v1)]⟩))))):Acp t0 t2 u0 u1 u2 u3 u4 u5 u6 u7 u8 u9 v0 v1 K:=Ay (Au E0 Ej) (Ba Ej) 3 21 (Af 21 ac_r18_dict) [0,1,2,6,9] _ K rfl (kr (by kernel_rfl) h)
theorem Ol(Q:QQ)(t7 t8:Int)(u0 u1 u2:Int)(u3:LB)(u4 u5:LL)(h:
 (Q (.tup [.imm (.agg [.int .i64 u0, .int .i64 u1, .int .i64 u2, .str u3, .sl .any 6 u4, .sl .any 7 u5]),Ai t7,Ai t8]) [])):Tf Q .ret ⟨[(6, .ptr nL6 0),(7,Ai t7),(8,Ai t8)],[(nL6, .blk Aa [Ai u0,Ai u1,Ai u2,As u3, .own (nL6.cell 4), .own (nL6.cell 5)]),((nL6.cell 4), .arr (Aa+2) true 6 u4),((nL6.cell 5), .arr (Ag+2) true 7 u5)]⟩:=kr (by kernel_rfl) h
theorem At3(Q:QQ)(t7 t8:Int)(u0 u1 u2:Int)(u3:LB)(u4 u5:LL)(h:
 (Q (.tup [.imm (.agg [.int .i64 u0, .int .i64 u1, .int .i64 u2, .str u3, .sl .any 6 u4, .sl .any 7 u5]),Ai t7,Ai t8]) [])):Tf Q .ret ⟨[(6, .ptr nL6 0),(7,Ai t7),(8,Ai t8)],[(nL6, .blk Aa [Ai u0,Ai u1,Ai u2,As u3, .own (nL6.cell 4), .own R5]),((nL6.cell 4), .arr (Aa+2) true 6 u4),(R5, .arr 0 true 7 u5)]⟩:=kr (by kernel_rfl) h
theorem Aud(K:KK)(t7 t8:Int)(u0 u1 u2:Int)(u3:LB)(u4 u5:LL)(h:
 (K .ret ⟨[(6, .ptr nL6 0),(7,Ai t7),(8,Ai t8)],[(nL6, .blk Aa [Ai u0,Ai u1,Ai u2,As u3, .own (nL6.cell 4), .own (nL6.cell 5)]),((nL6.cell 4), .arr (Aa+2) true 6 u4),((nL6.cell 5), .arr (Ag+2) true 7 u5)]⟩)):Pq K .ret ⟨[(6, .ptr nL6 0),(7,Ai t7),(8,Ai t8)],[(nL6, .blk Aa [Ai u0,Ai u1,Ai u2,As u3, .own (nL6.cell 4), .own (nL6.cell 5)]),((nL6.cell 4), .arr (Aa+2) true 6 u4),((nL6.cell 5), .arr (Ag+2) true 7 u5)]⟩:=kr (by kernel_rfl) h
theorem At8(K:KK)(t0:LB)(t1 t2:Int)(u0 u1 u2:Int)(u3:LB)(u4 u5 u6:LL)(h:
 (Sy t0 t1 t2 u0 u1 u2 u3 u4 u5 u6 K)):Pq K .normal ⟨[(0,As t0),(1,Ai t1),(2,Ai t2),(6, .ptr nL6 0),(9, .own R5)],[(nL6, .blk Aa [Ai u0,Ai u1,Ai u2,As u3, .own (nL6.cell 4), .own (nL6.cell 5)]),(R5, .arr 0 true 7 u4),((nL6.cell 4), .arr (Aa+2) true 6 u5),((nL6.cell 5), .arr (Ag+2) true 7 u6)]⟩:=kr (by kernel_rfl) h
theorem Aug(K:KK)(t7 t8:Int)(u0 u1 u2:Int)(u3:LB)(u4 u5:LL)(h:
 (K .ret ⟨[(6, .ptr nL6 0),(7,Ai t7),(8,Ai t8)],[(nL6, .blk Aa [Ai u0,Ai u1,Ai u2,As u3, .own (nL6.cell 4), .own (nL6.cell 5)]),((nL6.cell 4), .arr (Aa+2) true 6 u4),((nL6.cell 5), .arr (Ag+2) true 7 u5)]⟩)):Y6 K .ret ⟨[(6, .ptr nL6 0),(7,Ai t7),(8,Ai t8)],[(nL6, .blk Aa [Ai u0,Ai u1,Ai u2,As u3, .own (nL6.cell 4), .own (nL6.cell 5)]),((nL6.cell 4), .arr (Aa+2) true 6 u4),((nL6.cell 5), .arr (Ag+2) true 7 u5)]⟩:=kr (by kernel_rfl) h
theorem Atw(K:KK)(t0:LB)(t2 u0:Int)(u1 u2:Int)(u3:LB)(u4:LL)(u5 u6:Int)(u7:LB)(u8 u9:Int)(v0 v1:LL)(h:
 (Acp t0 t2 u0 u1 u2 u3 u4 u5 u6 u7 u8 u9 v0 v1 (Pq K))):Y6 K (.exit (3)) ⟨[(0,As t0),(2,Ai t2),(6, .ptr nL6 0),(9, .own R5),(10, .ptr An9 0)],[(nL6, .blk Aa [Ai u0,Ai u1,Ai u2,As u3, .own (nL6.cell 4), .own (nL6.cell 5)]),(R5, .arr 0 true 7 u4),(An9, .blk Aq [Ai u5,Ai u6,As u7,Ai u8,Ai u9]),((nL6.cell 4), .arr (Aa+2) true 6 v0),((nL6.cell 5), .arr (Ag+2) true 7 v1)]⟩:=kr (by kernel_rfl) h
theorem A1v:Bt E0.P 75 ac_r18_dict.code Ej [.cell 6 37, .tmp 7, .tmp 8]:=Bl _ _ Try.f75 [(2,[0,1,2,6,9],[]),(14,[0,2,6,9,10,12],[]),(16,[0,2,6,9,10],[]),(21,[0,2,6,9,10],[0,1,2,6,9])] [6,7,8] _ 82 Try.func75 (by kernel_rfl) (by kernel_rfl) (by kernel_rfl) (by kernel_rfl)
theorem Ax5(a0:LB)(a1 a2:Int)(Q:QQ)(h:
 (Sy a0 a1 a2 ((0:Int)) ((0:Int)) ((0:Int)) [] [] [] [] (Tf Q))):Call E0.P Aiv [As a0,Ai a1,Ai a2] [] Q:=Bd (Au E0 Ej) (Ba Ej) 3 0 75 ac_r18_dict [.cell 6 37, .tmp 7, .tmp 8] A1v _ _ Q rfl rfl (kr (by kernel_rfl) h)
noncomputable def ac_token_Skip:AC:=(Bf [(1,[0,1],[]),(6,[0,1],[]),(8,[0,1],[]),(9,[0,1],[0,1]),(10,[0,1],[1]),(11,[0,1],[]),(12,[1],[])] [4] (codeOf Try.f77) 0).1
abbrev Bq:Nat:=39
def Py(t0:LB)(t1:Int)(K:KK):Prop:=Bj 6 E0.P Bq (Az 6 ac_token_Skip).code ⟨[(0,As t0),(1,Ai t1)],[]⟩ K
def Zj(t1:Int)(K:KK):Prop:=Ar 12 E0.P Bq (Af 12 ac_token_Skip).code ⟨[(1,Ai t1)],[]⟩ K
def Aaf(t0:LB)(t1:Int)(K:KK):Prop:=Ar 9 E0.P Bq (Af 9 ac_token_Skip).code ⟨[(0,As t0),(1,Ai t1)],[]⟩ K
def Zw(t0:LB)(t1:Int)(K:KK):Prop:=Ar 10 E0.P Bq (Af 10 ac_token_Skip).code ⟨[(0,As t0),(1,Ai t1)],[]⟩ K
def Ug(t0:LB)(t1:Int)(K:KK):Prop:=Jh 1 E0.P Bq 0 (J3 1 ac_token_Skip).code ⟨[(0,As t0),(1,Ai t1)],[]⟩ K
def Mf(Q:QQ):KK:=kE fun st=>finish 0 E0.T [.tmp 4] [] Q st
def Aa1(Q:QQ):Ex→St→Prop
 | .normal,st=>finish 0 E0.T [.tmp 4] [] Q st
 | .exit _,_=>False
 | .goto i,st=>Jh 1 E0.P Bq i (J3 1 ac_token_Skip).code (mask [0,1] st) (Mf Q)
 | .ret,st=>finish 0 E0.T [.tmp 4] [] Q st
def Uj(Q:QQ):Ex→St→Prop
 | .normal,st=>Ar 12 E0.P Bq (Af 12 ac_token_Skip).code (mask [1] st) (Aa1 Q)
 | .exit _,_=>False
 | .goto i,st=>Jh 1 E0.P Bq i (J3 1 ac_token_Skip).code (mask [0,1] st) (Mf Q)
 | .ret,st=>finish 0 E0.T [.tmp 4] [] Q st
def Ajv(Q:QQ):Ex→St→Prop
 | .normal,st=>Ar 10 E0.P Bq (Af 10 ac_token_Skip).code (mask [0,1] st) (Uj Q)
 | .exit i,st=>(match (i.beq 0:Bool)with
 |true=>Ar 10 E0.P Bq (Af 10 ac_token_Skip).code (mask [0,1] st) (Uj Q)
 |false=>False)
 | .goto i,st=>Jh 1 E0.P Bq i (J3 1 ac_token_Skip).code (mask [0,1] st) (Mf Q)
 | .ret,st=>finish 0 E0.T [.tmp 4] [] Q st
def Aag(K:KK):Ex→St→Prop
 | .normal,st=>Bj 6 E0.P Bq (Az 6 ac_token_Skip).code (mask [0,1] st) K
 | .exit i,st=>K (.exit i) st
 | .goto i,st=>K (.goto i) st
 | .ret,st=>K .ret st
def Aak(K:KK):Ex→St→Prop
 | .normal,st=>K .normal st
 | .exit i,st=>K (.exit i) st
 | .goto i,st=>Jh 1 E0.P Bq i (J3 1 ac_token_Skip).code (mask [0,1] st) K
 | .ret,st=>K .ret st
def Uy(K:KK):Ex→St→Prop
 | .normal,st=>Ar 12 E0.P Bq (Af 12 ac_token_Skip).code (mask [1] st) (Aak K)
 | .exit i,st=>K (.exit i) st
 | .goto i,st=>Jh 1 E0.P Bq i (J3 1 ac_token_Skip).code (mask [0,1] st) K
 | .ret,st=>K .ret st
def Ajg(K:KK):Ex→St→Prop
 | .normal,st=>Ar 10 E0.P Bq (Af 10 ac_token_Skip).code (mask [0,1] st) (Uy K)
 | .exit i,st=>(match (i.beq 0:Bool)with
 |true=>Ar 10 E0.P Bq (Af 10 ac_token_Skip).code (mask [0,1] st) (Uy K)
 |false=>K (.exit i) st)
 | .goto i,st=>Jh 1 E0.P Bq i (J3 1 ac_token_Skip).code (mask [0,1] st) K
 | .ret,st=>K .ret st
theorem Adp(t0:LB)(t1:Int)(K:KK)(h:
 (Br (decide (t1<(↑t0.length:Int)) == true)
 (Call E0.P Nw [As t0,Ai t1] [] fun r0 g0=>
 Ao (Mv g0 r0)
 (Let (decide (rI r0=(0:Int))) fun x1=>
 Br (x1)
 (Aaf t0 t1 (Aag K))
 (K (.exit 0) ⟨[(0,As t0),(1,Ai t1)],[]⟩)))
 (Ao ((!true)=false)
 (Let (false) fun x2=>
 Br (x2)
 (Aaf t0 t1 (Aag K))
 (K (.exit 0) ⟨[(0,As t0),(1,Ai t1)],[]⟩))))):Py t0 t1 K:=Bo (Au E0 Bq) (Ba Bq) 3 6 (Az 6 ac_token_Skip) [0,1] _ K rfl (kr (by kernel_rfl) h)
theorem Tn(t1:Int)(K:KK)(h:
 (K .ret ⟨[(4,Ai t1)],[]⟩)):Zj t1 K:=Ay (Au E0 Bq) (Ba Bq) 3 12 (Af 12 ac_token_Skip) [] _ K rfl (kr (by kernel_rfl) h)
theorem Ao6(t0:LB)(t1:Int)(K:KK)(h:
 (K .normal ⟨[(0,As t0),(1,Ai (IntKind.i64.wrap (t1+(1:Int))))],[]⟩)):Aaf t0 t1 K:=Ay (Au E0 Bq) (Ba Bq) 3 9 (Af 9 ac_token_Skip) [0,1] _ K rfl (kr (by kernel_rfl) h)
theorem Ab0(t0:LB)(t1:Int)(K:KK)(h:
 (K (.goto 0) ⟨[(0,As t0),(1,Ai t1)],[]⟩)):Zw t0 t1 K:=Ay (Au E0 Bq) (Ba Bq) 3 10 (Af 10 ac_token_Skip) [1] _ K rfl (kr (by kernel_rfl) h)
theorem Adm(t0:LB)(t1:Int)(K:KK)(h:
 (Call E0.P Rk [As t0,Ai t1, .imm (.sl .any 1 [[IV.int .i64 (0:Int)]])] [] fun r0 g0=>
 Ao (Mv g0 r0)
 (Ao (decide (IntKind.i64.wrap (t1+rI r0)<(↑t0.length:Int))=true→
 (0:Int)≤IntKind.i64.wrap (t1+rI r0)∧IntKind.i64.wrap (t1+rI r0)<(↑t0.length:Int))
 (Let (bif decide (IntKind.i64.wrap (t1+rI r0)<(↑t0.length:Int))then
 decide ((↑(t0.getD (IntKind.i64.wrap (t1+rI r0)).toNat 0).toNat:Int)=(37:Int))
 else false) fun x1=>
 Br (x1)
 (Py t0 (IntKind.i64.wrap (t1+rI r0)) (Ajg K))
 (Zj (IntKind.i64.wrap (t1+rI r0)) (Aak K)))))):Ug t0 t1 K:=A3x (Au E0 Bq) (Ba Bq) 3 1 0 (J3 1 ac_token_Skip) (A7e 1 0 ac_token_Skip) [0,1] _ K (by kernel_rfl) rfl (kr (by kernel_rfl) h)
theorem Adq(Q:QQ)(t4:Int)(h:
 (Q (Ai t4) [])):Mf Q .ret ⟨[(4,Ai t4)],[]⟩:=kr (by kernel_rfl) h
theorem Api(Q:QQ)(t4:Int)(h:
 (Q (Ai t4) [])):Aa1 Q .ret ⟨[(4,Ai t4)],[]⟩:=kr (by kernel_rfl) h
theorem Apq(Q:QQ)(t0:LB)(t1:Int)(h:
 (Ug t0 t1 (Mf Q))):Uj Q (.goto 0) ⟨[(0,As t0),(1,Ai t1)],[]⟩:=kr (by kernel_rfl) h
theorem Ao9(Q:QQ)(t0:LB)(t1:Int)(h:
 (Zw t0 t1 (Uj Q))):Ajv Q (.exit 0) ⟨[(0,As t0),(1,Ai t1)],[]⟩:=kr (by kernel_rfl) h
theorem Apg(K:KK)(t0:LB)(t1:Int)(h:
 (Py t0 t1 K)):Aag K .normal ⟨[(0,As t0),(1,Ai t1)],[]⟩:=kr (by kernel_rfl) h
theorem Adv(K:KK)(t4:Int)(h:
 (K .ret ⟨[(4,Ai t4)],[]⟩)):Aak K .ret ⟨[(4,Ai t4)],[]⟩:=kr (by kernel_rfl) h
theorem Ao7(K:KK)(t0:LB)(t1:Int)(h:
 (Ug t0 t1 K)):Uy K (.goto 0) ⟨[(0,As t0),(1,Ai t1)],[]⟩:=kr (by kernel_rfl) h
theorem Apf(K:KK)(t0:LB)(t1:Int)(h:
 (Zw t0 t1 (Uy K))):Ajg K (.exit 0) ⟨[(0,As t0),(1,Ai t1)],[]⟩:=kr (by kernel_rfl) h
theorem Ayl:Bt E0.P 77 ac_token_Skip.code Bq [.tmp 4]:=Bl _ _ Try.f77 [(1,[0,1],[]),(6,[0,1],[]),(8,[0,1],[]),(9,[0,1],[0,1]),(10,[0,1],[1]),(11,[0,1],[]),(12,[1],[])] [4] _ 39 Try.func77 (by kernel_rfl) (by kernel_rfl) (by kernel_rfl) (by kernel_rfl)
theorem Atu(a0:LB)(a1:Int)(Q:QQ)(h:
 (Call E0.P Rk [As a0,Ai (if(if(↑a0.length:Int)<a1 then(↑a0.length:Int)else a1)>(0:Int)then
 if(↑a0.length:Int)<a1 then(↑a0.length:Int)else a1
 else(0:Int)), .imm (.sl .any 1 [[IV.int .i64 (0:Int)]])] [] fun r0 g0=>
 Ao (Mv g0 r0)
 (Ao (decide
 (IntKind.i64.wrap
 ((if(if(↑a0.length:Int)<a1 then(↑a0.length:Int)else a1)>(0:Int)then
 if(↑a0.length:Int)<a1 then(↑a0.length:Int)else a1
 else(0:Int))+
 rI r0)<
 (↑a0.length:Int))=
 true→
 (0:Int)≤
 IntKind.i64.wrap
 ((if(if(↑a0.length:Int)<a1 then(↑a0.length:Int)else a1)>(0:Int)then
 if(↑a0.length:Int)<a1 then(↑a0.length:Int)else a1
 else(0:Int))+
 rI r0)∧
 IntKind.i64.wrap
 ((if(if(↑a0.length:Int)<a1 then(↑a0.length:Int)else a1)>(0:Int)then
 if(↑a0.length:Int)<a1 then(↑a0.length:Int)else a1
 else(0:Int))+
 rI r0)<
 (↑a0.length:Int))
 (Let (bif
 decide
 (IntKind.i64.wrap
 ((if(if(↑a0.length:Int)<a1 then(↑a0.length:Int)else a1)>(0:Int)then
 if(↑a0.length:Int)<a1 then(↑a0.length:Int)else a1
 else(0:Int))+
 rI r0)<
 (↑a0.length:Int))then
 decide
 ((↑(a0.getD
 (IntKind.i64.wrap
 ((if(if(↑a0.length:Int)<a1 then(↑a0.length:Int)else a1)>(0:Int)then
 if(↑a0.length:Int)<a1 then(↑a0.length:Int)else a1
 else(0:Int))+
 rI r0)).toNat
 0).toNat:
 Int)=
 (37:Int))
 else false) fun x1=>
 Br (x1)
 (Py a0 (IntKind.i64.wrap
 ((if(if(↑a0.length:Int)<a1 then(↑a0.length:Int)else a1)>(0:Int)then
 if(↑a0.length:Int)<a1 then(↑a0.length:Int)else a1
 else(0:Int))+
 rI r0)) (Ajv Q))
 (Zj (IntKind.i64.wrap
 ((if(if(↑a0.length:Int)<a1 then(↑a0.length:Int)else a1)>(0:Int)then
 if(↑a0.length:Int)<a1 then(↑a0.length:Int)else a1
 else(0:Int))+
 rI r0)) (Aa1 Q)))))):Call E0.P Adg [As a0,Ai a1] [] Q:=Bd (Au E0 Bq) (Ba Bq) 3 0 77 ac_token_Skip [.tmp 4] Ayl _ _ Q rfl rfl (kr (by kernel_rfl) h)
noncomputable def ac_token_scanner_token:AC:=(Bf [(22,[0,2,60],[0,2]),(24,[0,2],[])] [2,3] (codeOf Try.f78) 0).1
abbrev Da:Nat:=71
def Gx(t60:Bool)(u0:LB)(u1 u2 u3:Int)(u4:LB)(u5 u6:Int)(u7:LL)(K:KK):Prop:=Ar 22 E0.P Da (Af 22 ac_token_scanner_token).code ⟨[(0, .ptr Ae 0),(2, .ptr nL2 0),(60,Ab t60)],[(Ae, .blk Ac [As u0,Ai u1, .own Av]),(nL2, .blk Aq [Ai u2,Ai u3,As u4,Ai u5,Ai u6]),(Av, .arr (Ap+2) true 1 u7)]⟩ K
def Sr(u0:LB)(u1 u2 u3:Int)(u4:LB)(u5 u6:Int)(u7:LL)(K:KK):Prop:=Ar 24 E0.P Da (Af 24 ac_token_scanner_token).code ⟨[(0, .ptr Ae 0),(2, .ptr nL2 0)],[(Ae, .blk Ac [As u0,Ai u1, .own Av]),(nL2, .blk Aq [Ai u2,Ai u3,As u4,Ai u5,Ai u6]),(Av, .arr (Ap+2) true 1 u7)]⟩ K
def Nv(s:LB)(at_:Int)(out:LL)(Q:QQ):KK:=kE fun st=>finish 0 E0.T [.cell 2 95, .tmp 3] [(Ae, .blk Ac [As s,Ai at_, .own Av]),(Av, .arr (Ap+2) true 1 out)] Q st
def Fz(s:LB)(at_:Int)(out:LL)(Q:QQ):KK:=kF 0 (fun st=>Ar 24 E0.P Da (Af 24 ac_token_scanner_token).code (mask [0,2] st) (Nv s at_ out Q)) fun st=>finish 0 E0.T [.cell 2 95, .tmp 3] [(Ae, .blk Ac [As s,Ai at_, .own Av]),(Av, .arr (Ap+2) true 1 out)] Q st
theorem Ab1(t60:Bool)(u0:LB)(u1 u2 u3:Int)(u4:LB)(u5 u6:Int)(u7:LL)(K:KK)(h:
 (Br (t60)
 (K .ret ⟨[(2, .ptr nL2 0),(3,Ai 4)],[(nL2, .blk Aq [Ai 0,Ai 0, .imm (.str []),Ai 0,Ai 0]),(Ae, .blk Ac [As u0,Ai u1, .own Av]),(Av, .arr (Ap+2) true 1 u7)]⟩)
 (K .normal ⟨[(0, .ptr Ae 0),(2, .ptr nL2 0)],[(Ae, .blk Ac [As u0,Ai u1, .own Av]),(nL2, .blk Aq [Ai u2,Ai u3,As u4,Ai u5,Ai u6]),(Av, .arr (Ap+2) true 1 u7)]⟩))):Gx t60 u0 u1 u2 u3 u4 u5 u6 u7 K:=Ay (Au E0 Da) (Ba Da) 3 22 (Af 22 ac_token_scanner_token) [0,2] _ K rfl (kr (by kernel_rfl) h)
theorem Abr(u0:LB)(u1 u2 u3:Int)(u4:LB)(u5 u6:Int)(u7:LL)(K:KK)(h:
 (Call E0.P Po [.ptr Ae 0] [(Ae, .blk Ac [As u0,Ai u1, .own Av]),(Av, .arr (Ap+2) true 1 u7)] fun r0 g0=>
 Ao (qP8 g0 r0)
 (K .ret ⟨[(2, .ptr nL2 0),(3,Ai (rI (rT r0 1)))],[(nL2, .blk Aq [Ai (gI (Ad (rT r0 0)) 0),Ai (gI (Ad (rT r0 0)) 1),As (gS (Ad (rT r0 0)) 2),Ai (gI (Ad (rT r0 0)) 3),Ai (gI (Ad (rT r0 0)) 4)]),(Ae, .blk Ac [.imm (.str (rS ((Aw g0 Ae).getD 0 AV.undef))), .imm (.int .i64 (rI ((Aw g0 Ae).getD 1 AV.undef))), .own Av]),(Av, .arr (Ap+2) true 1 (Cz g0 Av))]⟩))):Sr u0 u1 u2 u3 u4 u5 u6 u7 K:=Ay (Au E0 Da) (Ba Da) 3 24 (Af 24 ac_token_scanner_token) [] _ K rfl (kr (by kernel_rfl) h)
theorem Acg(s:LB)(at_:Int)(out:LL)(Q:QQ)(t3 u0 u1:Int)(u2:LB)(u3 u4:Int)(u5:LB)(u6:Int)(u7:LL)(h:
 (Q (.tup [.imm (.agg [.int .i64 u0, .int .i64 u1, .str u2, .int .i64 u3, .int .i64 u4]),Ai t3]) [(Ae, .blk Ac [As u5,Ai u6, .own Av]),(Av, .arr (Ap+2) true 1 u7)])):Nv s at_ out Q .ret ⟨[(2, .ptr nL2 0),(3,Ai t3)],[(nL2, .blk Aq [Ai u0,Ai u1,As u2,Ai u3,Ai u4]),(Ae, .blk Ac [As u5,Ai u6, .own Av]),(Av, .arr (Ap+2) true 1 u7)]⟩:=kr (by kernel_rfl) h
theorem Ac0(s:LB)(at_:Int)(out:LL)(Q:QQ)(t3 u0 u1:Int)(u2:LB)(u3 u4:Int)(u5:LB)(u6:Int)(u7:LL)(h:
 (Q (.tup [.imm (.agg [.int .i64 u0, .int .i64 u1, .str u2, .int .i64 u3, .int .i64 u4]),Ai t3]) [(Ae, .blk Ac [As u5,Ai u6, .own Av]),(Av, .arr (Ap+2) true 1 u7)])):Fz s at_ out Q .ret ⟨[(2, .ptr nL2 0),(3,Ai t3)],[(nL2, .blk Aq [Ai u0,Ai u1,As u2,Ai u3,Ai u4]),(Ae, .blk Ac [As u5,Ai u6, .own Av]),(Av, .arr (Ap+2) true 1 u7)]⟩:=kr (by kernel_rfl) h
theorem Ac8(s:LB)(at_:Int)(out:LL)(Q:QQ)(u0:LB)(u1 u2 u3:Int)(u4:LB)(u5 u6:Int)(u7:LL)(h:
 (Sr u0 u1 u2 u3 u4 u5 u6 u7 (Nv s at_ out Q))):Fz s at_ out Q .normal ⟨[(0, .ptr Ae 0),(2, .ptr nL2 0)],[(Ae, .blk Ac [As u0,Ai u1, .own Av]),(nL2, .blk Aq [Ai u2,Ai u3,As u4,Ai u5,Ai u6]),(Av, .arr (Ap+2) true 1 u7)]⟩:=kr (by kernel_rfl) h
theorem Aio:Bt E0.P 78 ac_token_scanner_token.code Da [.cell 2 95, .tmp 3]:=Bl _ _ Try.f78 [(22,[0,2,60],[0,2]),(24,[0,2],[])] [2,3] _ 71 Try.func78 (by kernel_rfl) (by kernel_rfl) (by kernel_rfl) (by kernel_rfl)
theorem Agr(s:LB)(at_:Int)(out:LL)(Q:QQ)(h:
 (Ao ((0:Int)≤at_∧at_<(↑s.length:Int))
 (Br (decide ((↑(s.getD at_.toNat 0).toNat:Int)=(91:Int)))
 (Q (.tup [.imm (.agg [.int .i64 4, .int .i64 0, .str [], .int .i64 0, .int .i64 0]),Ai 0]) [(Ae, .blk Ac [As s,Ai (IntKind.i64.wrap (at_+(1:Int))), .own Av]),(Av, .arr (Ap+2) true 1 out)])
 (Br (decide ((↑(s.getD at_.toNat 0).toNat:Int)=(93:Int)))
 (Q (.tup [.imm (.agg [.int .i64 5, .int .i64 0, .str [], .int .i64 0, .int .i64 0]),Ai 0]) [(Ae, .blk Ac [As s,Ai (IntKind.i64.wrap (at_+(1:Int))), .own Av]),(Av, .arr (Ap+2) true 1 out)])
 (Br (decide ((↑(s.getD at_.toNat 0).toNat:Int)=(47:Int)))
 (Call E0.P P8 [.ptr Ae 0] [(Ae, .blk Ac [As s,Ai at_, .own Av]),(Av, .arr (Ap+2) true 1 out)] fun r0 g0=>
 Ao (qP8 g0 r0)
 (Q (.tup [.imm (.agg [.int .i64 (gI (Ad (rT r0 0)) 0), .int .i64 (gI (Ad (rT r0 0)) 1), .str (gS (Ad (rT r0 0)) 2), .int .i64 (gI (Ad (rT r0 0)) 3), .int .i64 (gI (Ad (rT r0 0)) 4)]),Ai (rI (rT r0 1))]) [(Ae, .blk Ac [.imm (.str (rS ((Aw g0 Ae).getD 0 AV.undef))), .imm (.int .i64 (rI ((Aw g0 Ae).getD 1 AV.undef))), .own Av]),(Av, .arr (Ap+2) true 1 (Cz g0 Av))]))
 (Br (decide ((↑(s.getD at_.toNat 0).toNat:Int)=(40:Int)))
 (Call E0.P Pt [.ptr Ae 0] [(Ae, .blk Ac [As s,Ai at_, .own Av]),(Av, .arr (Ap+2) true 1 out)] fun r1 g1=>
 Ao (qP8 g1 r1)
 (Q (.tup [.imm (.agg [.int .i64 (gI (Ad (rT r1 0)) 0), .int .i64 (gI (Ad (rT r1 0)) 1), .str (gS (Ad (rT r1 0)) 2), .int .i64 (gI (Ad (rT r1 0)) 3), .int .i64 (gI (Ad (rT r1 0)) 4)]),Ai (rI (rT r1 1))]) [(Ae, .blk Ac [.imm (.str (rS ((Aw g1 Ae).getD 0 AV.undef))), .imm (.int .i64 (rI ((Aw g1 Ae).getD 1 AV.undef))), .own Av]),(Av, .arr (Ap+2) true 1 (Cz g1 Av))]))
 (Br (decide ((↑(s.getD at_.toNat 0).toNat:Int)=(60:Int)))
 (Ao (decide (IntKind.i64.wrap (at_+(1:Int))<(↑s.length:Int))=true→
 (0:Int)≤IntKind.i64.wrap (at_+(1:Int))∧IntKind.i64.wrap (at_+(1:Int))<(↑s.length:Int))
 (Ao (decide (IntKind.i64.wrap (at_+(1:Int))<(↑s.length:Int))=true→(0:Int)≤at_∧at_<(↑s.length:Int))
 (Let (bif decide (IntKind.i64.wrap (at_+(1:Int))<(↑s.length:Int))then
 decide
 ((↑(s.getD (IntKind.i64.wrap (at_+(1:Int))).toNat 0).toNat:Int)=
 (↑(s.getD at_.toNat 0).toNat:Int))
 else false) fun x2=>
 Br (x2)
 (Q (.tup [.imm (.agg [.int .i64 6, .int .i64 0, .str [], .int .i64 0, .int .i64 0]),Ai 0]) [(Ae, .blk Ac [As s,Ai (IntKind.i64.wrap (at_+(2:Int))), .own Av]),(Av, .arr (Ap+2) true 1 out)])
 (Call E0.P Qp [.ptr Ae 0] [(Ae, .blk Ac [As s,Ai at_, .own Av]),(Av, .arr (Ap+2) true 1 out)] fun r3 g3=>
 Ao (qP8 g3 r3)
 (Q (.tup [.imm (.agg [.int .i64 (gI (Ad (rT r3 0)) 0), .int .i64 (gI (Ad (rT r3 0)) 1), .str (gS (Ad (rT r3 0)) 2), .int .i64 (gI (Ad (rT r3 0)) 3), .int .i64 (gI (Ad (rT r3 0)) 4)]),Ai (rI (rT r3 1))]) [(Ae, .blk Ac [.imm (.str (rS ((Aw g3 Ae).getD 0 AV.undef))), .imm (.int .i64 (rI ((Aw g3 Ae).getD 1 AV.undef))), .own Av]),(Av, .arr (Ap+2) true 1 (Cz g3 Av))])))))
 (Br (decide ((↑(s.getD at_.toNat 0).toNat:Int)=(62:Int)))
 (Ao (decide (IntKind.i64.wrap (at_+(1:Int))<(↑s.length:Int))=true→
 (0:Int)≤IntKind.i64.wrap (at_+(1:Int))∧IntKind.i64.wrap (at_+(1:Int))<(↑s.length:Int))
 (Ao (decide (IntKind.i64.wrap (at_+(1:Int))<(↑s.length:Int))=true→(0:Int)≤at_∧at_<(↑s.length:Int))
 (Let (bif decide (IntKind.i64.wrap (at_+(1:Int))<(↑s.length:Int))then
 decide
 ((↑(s.getD (IntKind.i64.wrap (at_+(1:Int))).toNat 0).toNat:Int)=
 (↑(s.getD at_.toNat 0).toNat:Int))
 else false) fun x4=>
 Br (x4)
 (Q (.tup [.imm (.agg [.int .i64 7, .int .i64 0, .str [], .int .i64 0, .int .i64 0]),Ai 0]) [(Ae, .blk Ac [As s,Ai (IntKind.i64.wrap (at_+(2:Int))), .own Av]),(Av, .arr (Ap+2) true 1 out)])
 (Q (.tup [.imm (.agg [.int .i64 0, .int .i64 0, .str [], .int .i64 0, .int .i64 0]),Ai 4]) [(Ae, .blk Ac [As s,Ai at_, .own Av]),(Av, .arr (Ap+2) true 1 out)]))))
 (Br (decide ((↑(s.getD at_.toNat 0).toNat:Int)=(41:Int)))
 (Gx (decide ((↑(s.getD at_.toNat 0).toNat:Int)=(41:Int))) s at_ ((0:Int)) ((0:Int)) [] ((0:Int)) ((0:Int)) out (Fz s at_ out Q))
 (Br (decide ((↑(s.getD at_.toNat 0).toNat:Int)=(123:Int)))
 (Gx (decide ((↑(s.getD at_.toNat 0).toNat:Int)=(123:Int))) s at_ ((0:Int)) ((0:Int)) [] ((0:Int)) ((0:Int)) out (Fz s at_ out Q))
 (Gx (decide ((↑(s.getD at_.toNat 0).toNat:Int)=(125:Int))) s at_ ((0:Int)) ((0:Int)) [] ((0:Int)) ((0:Int)) out (Fz s at_ out Q)))))))))))):Call E0.P O3 [.ptr (.arg 0) 0] [(.arg 0, .blk Ac [.imm (.str s), .imm (.int .i64 at_), .own (.arg 1)]),(.arg 1, .arr (Ap+2) true 1 out)] Q:=Bd (Au E0 Da) (Ba Da) 3 0 78 ac_token_scanner_token [.cell 2 95, .tmp 3] Aio _ _ Q rfl rfl (kr (by kernel_rfl) h)
noncomputable def ac_r15_Skip:AC:=(Bf [(3,[0,5,6],[]),(5,[0],[]),(9,[0,5,6],[0,5,6]),(10,[0,5,6,37],[0,5,6]),(12,[0,5,6],[0,5,6]),(13,[0],[])] [4] (codeOf Try.f80) 0).1
abbrev C8:Nat:=41
def Ti(t0:LB)(t5:Bool)(t6:Int)(K:KK):Prop:=Bj 3 E0.P C8 (Az 3 ac_r15_Skip).code ⟨[(0,As t0),(5,Ab t5),(6,Ai t6)],[]⟩ K
def Tg(t0:LB)(t5:Bool)(t6:Int)(K:KK):Prop:=Ar 9 E0.P C8 (Af 9 ac_r15_Skip).code ⟨[(0,As t0),(5,Ab t5),(6,Ai t6)],[]⟩ K
def W9(t0:LB)(t5:Bool)(t6:Int)(t37:Bool)(K:KK):Prop:=Ar 10 E0.P C8 (Af 10 ac_r15_Skip).code ⟨[(0,As t0),(5,Ab t5),(6,Ai t6),(37,Ab t37)],[]⟩ K
def Al8(t0:LB)(K:KK):Prop:=Ar 13 E0.P C8 (Af 13 ac_r15_Skip).code ⟨[(0,As t0)],[]⟩ K
def Al1(t0:LB)(t5:Bool)(t6:Int)(K:KK):Prop:=Ar 12 E0.P C8 (Af 12 ac_r15_Skip).code ⟨[(0,As t0),(5,Ab t5),(6,Ai t6)],[]⟩ K
def Afk(Q:QQ):KK:=kE fun st=>finish 0 E0.T [.tmp 4] [] Q st
def M7(Q:QQ):KK:=kF 0 (fun st=>Ar 13 E0.P C8 (Af 13 ac_r15_Skip).code (mask [0] st) (Afk Q)) fun st=>finish 0 E0.T [.tmp 4] [] Q st
def Afr(K:KK):Ex→St→Prop
 | .normal,st=>Bj 3 E0.P C8 (Az 3 ac_r15_Skip).code (mask [0,5,6] st) K
 | .exit i,st=>K (.exit i) st
 | .goto i,st=>K (.goto i) st
 | .ret,st=>K .ret st
def Ms(K:KK):KK:=kC 1 (fun st=>Ar 12 E0.P C8 (Af 12 ac_r15_Skip).code (mask [0,5,6] st) (Afr K)) K
def Tx(K:KK):KK:=kP [0,5,6] K
theorem Y7(t0:LB)(t5:Bool)(t6:Int)(K:KK)(h:
 (Br (decide (t6<(↑t0.length:Int)))
 (Ao ((0:Int)≤t6∧t6<(↑t0.length:Int))
 (Ao (decide ((↑(t0.getD t6.toNat 0).toNat:Int)=(10:Int))=false→(0:Int)≤t6∧t6<(↑t0.length:Int))
 (Let (bif decide ((↑(t0.getD t6.toNat 0).toNat:Int)=(10:Int))then true
 else decide ((↑(t0.getD t6.toNat 0).toNat:Int)=(13:Int))) fun x0=>
 Br (x0)
 (Tg t0 false t6 (Ms K))
 (Ao ((0:Int)≤t6∧t6<(↑t0.length:Int))
 (Br (decide ((↑(t0.getD t6.toNat 0).toNat:Int)=(37:Int)))
 (Tg t0 true t6 (Ms K))
 (Tg t0 t5 t6 (Ms K)))))))
 (K (.exit 0) ⟨[(0,As t0)],[]⟩))):Ti t0 t5 t6 K:=Bo (Au E0 C8) (Ba C8) 3 3 (Az 3 ac_r15_Skip) [0,5,6] _ K rfl (kr (by kernel_rfl) h)
theorem Ati(t0:LB)(t5:Bool)(t6:Int)(K:KK)(h:
 (Ao ((!t5)=true→(0:Int)≤t6∧t6<(↑t0.length:Int))
 (Br ((!t5) == true)
 (Call E0.P L6 [.imm (.int .u8 ((↑(t0.getD t6.toNat 0).toNat:Int)))] [] fun r0 g0=>
 Ao (Mv g0 r0)
 (Let (!decide (rI r0=(0:Int))) fun x1=>
 W9 t0 t5 t6 x1 (Tx K)))
 (Ao ((!true)=false)
 (Let (false) fun x2=>
 W9 t0 t5 t6 x2 (Tx K)))))):Tg t0 t5 t6 K:=Ay (Au E0 C8) (Ba C8) 3 9 (Af 9 ac_r15_Skip) [0,5,6] _ K rfl (kr (by kernel_rfl) h)
theorem Ae7(t0:LB)(t5:Bool)(t6:Int)(t37:Bool)(K:KK)(h:
 (Br (t37)
 (K .ret ⟨[(4,Ai t6)],[]⟩)
 (K .normal ⟨[(0,As t0),(5,Ab t5),(6,Ai t6)],[]⟩))):W9 t0 t5 t6 t37 K:=Ay (Au E0 C8) (Ba C8) 3 10 (Af 10 ac_r15_Skip) [0,5,6] _ K rfl (kr (by kernel_rfl) h)
theorem Ae5(t0:LB)(K:KK)(h:
 (K .ret ⟨[(4,Ai ((↑t0.length:Int)))],[]⟩)):Al8 t0 K:=Ay (Au E0 C8) (Ba C8) 3 13 (Af 13 ac_r15_Skip) [] _ K rfl (kr (by kernel_rfl) h)
theorem Asn(t0:LB)(t5:Bool)(t6:Int)(K:KK)(h:
 (K .normal ⟨[(0,As t0),(5,Ab t5),(6,Ai (IntKind.i64.wrap (t6+(1:Int))))],[]⟩)):Al1 t0 t5 t6 K:=Ay (Au E0 C8) (Ba C8) 3 12 (Af 12 ac_r15_Skip) [0,5,6] _ K rfl (kr (by kernel_rfl) h)
theorem Ahw(Q:QQ)(t4:Int)(h:
 (Q (Ai t4) [])):Afk Q .ret ⟨[(4,Ai t4)],[]⟩:=kr (by kernel_rfl) h
theorem Ahx(Q:QQ)(t0:LB)(h:
 (Al8 t0 (Afk Q))):M7 Q (.exit 0) ⟨[(0,As t0)],[]⟩:=kr (by kernel_rfl) h
theorem At1(Q:QQ)(t4:Int)(h:
 (Q (Ai t4) [])):M7 Q .ret ⟨[(4,Ai t4)],[]⟩:=kr (by kernel_rfl) h
theorem Aun(K:KK)(t0:LB)(t5:Bool)(t6:Int)(h:
 (Ti t0 t5 t6 K)):Afr K .normal ⟨[(0,As t0),(5,Ab t5),(6,Ai t6)],[]⟩:=kr (by kernel_rfl) h
theorem Att(K:KK)(t4:Int)(h:
 (K .ret ⟨[(4,Ai t4)],[]⟩)):Ms K .ret ⟨[(4,Ai t4)],[]⟩:=kr (by kernel_rfl) h
theorem Atg(K:KK)(t0:LB)(t5:Bool)(t6:Int)(h:
 (Al1 t0 t5 t6 (Afr K))):Ms K .normal ⟨[(0,As t0),(5,Ab t5),(6,Ai t6)],[]⟩:=kr (by kernel_rfl) h
theorem As5(K:KK)(t4:Int)(h:
 (K .ret ⟨[(4,Ai t4)],[]⟩)):Tx K .ret ⟨[(4,Ai t4)],[]⟩:=kr (by kernel_rfl) h
theorem Atz(K:KK)(t0:LB)(t5:Bool)(t6:Int)(h:
 (K .normal ⟨[(0,As t0),(5,Ab t5),(6,Ai t6)],[]⟩)):Tx K .normal ⟨[(0,As t0),(5,Ab t5),(6,Ai t6)],[]⟩:=kr (by kernel_rfl) h
theorem A2q:Bt E0.P 80 ac_r15_Skip.code C8 [.tmp 4]:=Bl _ _ Try.f80 [(3,[0,5,6],[]),(5,[0],[]),(9,[0,5,6],[0,5,6]),(10,[0,5,6,37],[0,5,6]),(12,[0,5,6],[0,5,6]),(13,[0],[])] [4] _ 41 Try.func80 (by kernel_rfl) (by kernel_rfl) (by kernel_rfl) (by kernel_rfl)
theorem Ax2(a0:LB)(a1:Int)(Q:QQ)(h:
 (Ti a0 false (if a1>(0:Int)then a1 else(0:Int)) (M7 Q))):Call E0.P Aia [As a0,Ai a1] [] Q:=Bd (Au E0 C8) (Ba C8) 3 0 80 ac_r15_Skip [.tmp 4] A2q _ _ Q rfl rfl (kr (by kernel_rfl) h)
noncomputable def ac_r15_name:AC:=(Bf [(2,[0,1,7],[]),(4,[1,7],[]),(5,[0,1,7],[0,1,7]),(9,[0,1,7,55],[0,1,7]),(11,[0,1,7],[0,1,7,8]),(13,[0,1,7,8],[0,1,7]),(17,[1,7],[])] [4,5,6] (codeOf Try.f81) 0).1
abbrev Co:Nat:=80
def Te(t0:LB)(t1:Int)(u0:LL)(K:KK):Prop:=Bj 2 E0.P Co (Az 2 ac_r15_name).code ⟨[(0,As t0),(1,Ai t1),(7, .own H9)],[(H9, .arr 0 true 1 u0)]⟩ K
def Afb(t0:LB)(t1:Int)(u0:LL)(K:KK):Prop:=Ar 5 E0.P Co (Af 5 ac_r15_name).code ⟨[(0,As t0),(1,Ai t1),(7, .own H9)],[(H9, .arr 0 true 1 u0)]⟩ K
def P6(t0:LB)(t1:Int)(t55:Bool)(u0:LL)(K:KK):Prop:=Ar 9 E0.P Co (Af 9 ac_r15_name).code ⟨[(0,As t0),(1,Ai t1),(7, .own H9),(55,Ab t55)],[(H9, .arr 0 true 1 u0)]⟩ K
def Wm(t0:LB)(t1 t8:Int)(u0:LL)(K:KK):Prop:=Ar 13 E0.P Co (Af 13 ac_r15_name).code ⟨[(0,As t0),(1,Ai t1),(7, .own H9),(8, .imm (.int .u8 t8))],[(H9, .arr 0 true 1 u0)]⟩ K
def Al3(t1:Int)(u0:LL)(K:KK):Prop:=Ar 17 E0.P Co (Af 17 ac_r15_name).code ⟨[(1,Ai t1),(7, .own H9)],[(H9, .arr 0 true 1 u0)]⟩ K
def Al5(t0:LB)(t1:Int)(u0:LL)(K:KK):Prop:=Ar 11 E0.P Co (Af 11 ac_r15_name).code ⟨[(0,As t0),(1,Ai t1),(7, .own H9)],[(H9, .arr 0 true 1 u0)]⟩ K
def Afh(Q:QQ):KK:=kE fun st=>finish 0 E0.T [.tmp 4, .tmp 5, .tmp 6] [] Q st
def Iw(Q:QQ):KK:=kF 0 (fun st=>Ar 17 E0.P Co (Af 17 ac_r15_name).code (mask [1,7] st) (Afh Q)) fun st=>finish 0 E0.T [.tmp 4, .tmp 5, .tmp 6] [] Q st
def Qh(K:KK):Ex→St→Prop
 | .normal,st=>Bj 2 E0.P Co (Az 2 ac_r15_name).code (mask [0,1,7] st) K
 | .exit i,st=>K (.exit i) st
 | .goto i,st=>K (.goto i) st
 | .ret,st=>K .ret st
def P9(K:KK):KK:=kC 1 (fun st=>K .normal (mask [0,1,7] st)) K
def Agt(K:KK):Ex→St→Prop
 | .normal,st=>Ar 13 E0.P Co (Af 13 ac_r15_name).code (mask [0,1,7,8] st) (P9 K)
 | .exit i,st=>(match (i.beq 1:Bool)with
 |true=>K .normal (mask [0,1,7] st)
 |false=>K (.exit i) st)
 | .goto i,st=>K (.goto i) st
 | .ret,st=>K .ret st
def M3(K:KK):Ex→St→Prop
 | .normal,st=>Ar 11 E0.P Co (Af 11 ac_r15_name).code (mask [0,1,7] st) (Agt K)
 | .exit i,st=>(match (i.beq 1:Bool)with
 |true=>K .normal (mask [0,1,7] st)
 |false=>K (.exit i) st)
 | .goto i,st=>K (.goto i) st
 | .ret,st=>K .ret st
theorem Ahj(t0:LB)(t1:Int)(u0:LL)(K:KK)(h:
 (Ao (decide (t1<(↑t0.length:Int))=true→(0:Int)≤t1∧t1<(↑t0.length:Int))
 (Br (decide (t1<(↑t0.length:Int)) == true)
 (Call E0.P L6 [.imm (.int .u8 ((↑(t0.getD t1.toNat 0).toNat:Int)))] [] fun r0 g0=>
 Ao (Mv g0 r0)
 (Let (decide (rI r0=(2:Int))) fun x1=>
 Br (x1)
 (Afb t0 t1 u0 (Qh K))
 (K (.exit 0) ⟨[(1,Ai t1),(7, .own H9)],[(H9, .arr 0 true 1 u0)]⟩)))
 (Ao ((!true)=false)
 (Let (false) fun x2=>
 Br (x2)
 (Afb t0 t1 u0 (Qh K))
 (K (.exit 0) ⟨[(1,Ai t1),(7, .own H9)],[(H9, .arr 0 true 1 u0)]⟩)))))):Te t0 t1 u0 K:=Bo (Au E0 Co) (Ba Co) 3 2 (Az 2 ac_r15_name) [0,1,7] _ K rfl (kr (by kernel_rfl) h)
theorem Ats(t0:LB)(t1:Int)(u0:LL)(K:KK)(h:
 (Ao ((0:Int)≤t1∧t1<(↑t0.length:Int))
 (Br (decide ((↑(t0.getD t1.toNat 0).toNat:Int)=(35:Int)))
 (Ao (decide ((↑t0.length:Int)≤IntKind.i64.wrap (IntKind.i64.wrap (t1+(1:Int))+(1:Int)))=false→
 (0:Int)≤IntKind.i64.wrap (t1+(1:Int))∧IntKind.i64.wrap (t1+(1:Int))<(↑t0.length:Int))
 (Br (decide ((↑t0.length:Int)≤IntKind.i64.wrap (IntKind.i64.wrap (t1+(1:Int))+(1:Int))) == false)
 (Call E0.P Ox [.imm (.int .u8 ((↑(t0.getD (IntKind.i64.wrap (t1+(1:Int))).toNat 0).toNat:Int)))] [] fun r0 g0=>
 Ao (Mv g0 r0)
 (Let (decide (rI r0<(0:Int))) fun x1=>
 Ao (x1=false→
 (0:Int)≤IntKind.i64.wrap (IntKind.i64.wrap (t1+(1:Int))+(1:Int))∧
 IntKind.i64.wrap (IntKind.i64.wrap (t1+(1:Int))+(1:Int))<(↑t0.length:Int))
 (Br (x1 == false)
 (Call E0.P Ox [.imm (.int .u8 ((↑(t0.getD (IntKind.i64.wrap (IntKind.i64.wrap (t1+(1:Int))+(1:Int))).toNat 0).toNat:Int)))] [] fun r2 g2=>
 Ao (Mv g2 r2)
 (Let (decide (rI r2<(0:Int))) fun x3=>
 Ao (x3=false→
 (0:Int)≤IntKind.i64.wrap (t1+(1:Int))∧
 IntKind.i64.wrap (t1+(1:Int))≤IntKind.i64.wrap (IntKind.i64.wrap (t1+(1:Int))+(2:Int))∧
 IntKind.i64.wrap (IntKind.i64.wrap (t1+(1:Int))+(2:Int))≤(↑t0.length:Int))
 (Let (List.drop (IntKind.i64.wrap (t1+(1:Int))).toNat
 (List.take (IntKind.i64.wrap (IntKind.i64.wrap (t1+(1:Int))+(2:Int))).toNat t0)) fun x4=>
 Let (bif x3 then true else x4 == [(48:UInt8),48]) fun x5=>
 P6 t0 (IntKind.i64.wrap (t1+(1:Int))) x5 u0 (M3 K))))
 (Ao ((!false)=true)
 (Let (true) fun x6=>
 Ao (x6=false→
 (0:Int)≤IntKind.i64.wrap (t1+(1:Int))∧
 IntKind.i64.wrap (t1+(1:Int))≤IntKind.i64.wrap (IntKind.i64.wrap (t1+(1:Int))+(2:Int))∧
 IntKind.i64.wrap (IntKind.i64.wrap (t1+(1:Int))+(2:Int))≤(↑t0.length:Int))
 (Let (List.drop (IntKind.i64.wrap (t1+(1:Int))).toNat
 (List.take (IntKind.i64.wrap (IntKind.i64.wrap (t1+(1:Int))+(2:Int))).toNat t0)) fun x7=>
 Let (bif x6 then true else x7 == [(48:UInt8),48]) fun x8=>
 P6 t0 (IntKind.i64.wrap (t1+(1:Int))) x8 u0 (M3 K)))))))
 (Ao ((!false)=true)
 (Let (true) fun x9=>
 Ao (x9=false→
 (0:Int)≤IntKind.i64.wrap (IntKind.i64.wrap (t1+(1:Int))+(1:Int))∧
 IntKind.i64.wrap (IntKind.i64.wrap (t1+(1:Int))+(1:Int))<(↑t0.length:Int))
 (Br (x9 == false)
 (Call E0.P Ox [.imm (.int .u8 ((↑(t0.getD (IntKind.i64.wrap (IntKind.i64.wrap (t1+(1:Int))+(1:Int))).toNat 0).toNat:Int)))] [] fun r10 g10=>
 Ao (Mv g10 r10)
 (Let (decide (rI r10<(0:Int))) fun x11=>
 Ao (x11=false→
 (0:Int)≤IntKind.i64.wrap (t1+(1:Int))∧
 IntKind.i64.wrap (t1+(1:Int))≤IntKind.i64.wrap (IntKind.i64.wrap (t1+(1:Int))+(2:Int))∧
 IntKind.i64.wrap (IntKind.i64.wrap (t1+(1:Int))+(2:Int))≤(↑t0.length:Int))
 (Let (List.drop (IntKind.i64.wrap (t1+(1:Int))).toNat
 (List.take (IntKind.i64.wrap (IntKind.i64.wrap (t1+(1:Int))+(2:Int))).toNat t0)) fun x12=>
 Let (bif x11 then true else x12 == [(48:UInt8),48]) fun x13=>
 P6 t0 (IntKind.i64.wrap (t1+(1:Int))) x13 u0 (M3 K))))
 (Ao ((!false)=true)
 (Let (true) fun x14=>
 Ao (x14=false→
 (0:Int)≤IntKind.i64.wrap (t1+(1:Int))∧
 IntKind.i64.wrap (t1+(1:Int))≤IntKind.i64.wrap (IntKind.i64.wrap (t1+(1:Int))+(2:Int))∧
 IntKind.i64.wrap (IntKind.i64.wrap (t1+(1:Int))+(2:Int))≤(↑t0.length:Int))
 (Let (List.drop (IntKind.i64.wrap (t1+(1:Int))).toNat
 (List.take (IntKind.i64.wrap (IntKind.i64.wrap (t1+(1:Int))+(2:Int))).toNat t0)) fun x15=>
 Let (bif x14 then true else x15 == [(48:UInt8),48]) fun x16=>
 P6 t0 (IntKind.i64.wrap (t1+(1:Int))) x16 u0 (M3 K)))))))))
 (Wm t0 (IntKind.i64.wrap (t1+(1:Int))) ((↑(t0.getD t1.toNat 0).toNat:Int)) u0 (P9 K))))):Afb t0 t1 u0 K:=Ay (Au E0 Co) (Ba Co) 3 5 (Af 5 ac_r15_name) [0,1,7] _ K rfl (kr (by kernel_rfl) h)
theorem Ahr(t0:LB)(t1:Int)(t55:Bool)(u0:LL)(K:KK)(h:
 (Br (t55)
 (K .ret ⟨[(4, .imm (.str [])),(5,Ai 0),(6,Ai 4)],[]⟩)
 (K .normal ⟨[(0,As t0),(1,Ai t1),(7, .own H9)],[(H9, .arr 0 true 1 u0)]⟩))):P6 t0 t1 t55 u0 K:=Ay (Au E0 Co) (Ba Co) 3 9 (Af 9 ac_r15_name) [0,1,7] _ K rfl (kr (by kernel_rfl) h)
theorem Aqw(t0:LB)(t1 t8:Int)(u0:LL)(K:KK)(h:
 (Ao ((u0.length+1)*1≤140737488355328∧u0.length+1≤140737488355328)
 (Br (decide ((127:Int)<(↑(u0++[[IV.int .u8 t8]]).length:Int)))
 (K .ret ⟨[(4, .imm (.str [])),(5,Ai 0),(6,Ai 8)],[]⟩)
 (K .normal ⟨[(0,As t0),(1,Ai t1),(7, .own H9)],[(H9, .arr 0 true 1 (u0++[[IV.int .u8 t8]]))]⟩)))):Wm t0 t1 t8 u0 K:=Ay (Au E0 Co) (Ba Co) 3 13 (Af 13 ac_r15_name) [0,1,7] _ K rfl (kr (by kernel_rfl) h)
theorem Aqt(t1:Int)(u0:LL)(K:KK)(h:
 (Ao (∀(r:List IV),r∈u0→Ch [.int .u8] r=true)
 (K .ret ⟨[(4,As (List.map (fun r=>UInt8.ofNat (gI r 0).toNat) u0)),(5,Ai t1),(6,Ai 0)],[]⟩))):Al3 t1 u0 K:=Ay (Au E0 Co) (Ba Co) 3 17 (Af 17 ac_r15_name) [] _ K rfl (kr (by kernel_rfl) h)
theorem Aq3(t0:LB)(t1:Int)(u0:LL)(K:KK)(h:
 (Ao ((0:Int)≤t1∧t1<(↑t0.length:Int))
 (Ao ((0:Int)≤IntKind.i64.wrap (t1+(1:Int))∧IntKind.i64.wrap (t1+(1:Int))<(↑t0.length:Int))
 (Call E0.P Ox [.imm (.int .u8 ((↑(t0.getD t1.toNat 0).toNat:Int)))] [] fun r0 g0=>
 Ao (Mv g0 r0)
 (Call E0.P Ox [.imm (.int .u8 ((↑(t0.getD (IntKind.i64.wrap (t1+(1:Int))).toNat 0).toNat:Int)))] [] fun r1 g1=>
 Ao (Mv g1 r1)
 (K .normal ⟨[(0,As t0),(1,Ai (IntKind.i64.wrap (t1+(2:Int)))),(7, .own H9),(8, .imm (.int .u8 (IntKind.u8.wrap (IntKind.i64.wrap (IntKind.i64.wrap ((16:Int)*rI r0)+rI r1)))))],[(H9, .arr 0 true 1 u0)]⟩)))))):Al5 t0 t1 u0 K:=Ay (Au E0 Co) (Ba Co) 3 11 (Af 11 ac_r15_name) [0,1,7,8] _ K rfl (kr (by kernel_rfl) h)
theorem Aub(Q:QQ)(t4:LB)(t5 t6:Int)(h:
 (Q (.tup [As t4,Ai t5,Ai t6]) [])):Afh Q .ret ⟨[(4,As t4),(5,Ai t5),(6,Ai t6)],[]⟩:=kr (by kernel_rfl) h
theorem Asv(Q:QQ)(t1:Int)(u0:LL)(h:
 (Al3 t1 u0 (Afh Q))):Iw Q (.exit 0) ⟨[(1,Ai t1),(7, .own H9)],[(H9, .arr 0 true 1 u0)]⟩:=kr (by kernel_rfl) h
theorem Atc(Q:QQ)(t4:LB)(t5 t6:Int)(h:
 (Q (.tup [As t4,Ai t5,Ai t6]) [])):Iw Q .ret ⟨[(4,As t4),(5,Ai t5),(6,Ai t6)],[]⟩:=kr (by kernel_rfl) h
theorem Zd(K:KK)(t4:LB)(t5 t6:Int)(h:
 (K .ret ⟨[(4,As t4),(5,Ai t5),(6,Ai t6)],[]⟩)):Qh K .ret ⟨[(4,As t4),(5,Ai t5),(6,Ai t6)],[]⟩:=kr (by kernel_rfl) h
theorem Atp(K:KK)(t0:LB)(t1:Int)(u0:LL)(h:
 (Te t0 t1 u0 K)):Qh K .normal ⟨[(0,As t0),(1,Ai t1),(7, .own H9)],[(H9, .arr 0 true 1 u0)]⟩:=kr (by kernel_rfl) h
theorem Auw(K:KK)(t4:LB)(t5 t6:Int)(h:
 (K .ret ⟨[(4,As t4),(5,Ai t5),(6,Ai t6)],[]⟩)):P9 K .ret ⟨[(4,As t4),(5,Ai t5),(6,Ai t6)],[]⟩:=kr (by kernel_rfl) h
theorem Auy(K:KK)(t0:LB)(t1:Int)(u0:LL)(h:
 (K .normal ⟨[(0,As t0),(1,Ai t1),(7, .own H9)],[(H9, .arr 0 true 1 u0)]⟩)):P9 K .normal ⟨[(0,As t0),(1,Ai t1),(7, .own H9)],[(H9, .arr 0 true 1 u0)]⟩:=kr (by kernel_rfl) h
theorem As4(K:KK)(t0:LB)(t1 t8:Int)(u0:LL)(h:
 (Wm t0 t1 t8 u0 (P9 K))):Agt K .normal ⟨[(0,As t0),(1,Ai t1),(7, .own H9),(8, .imm (.int .u8 t8))],[(H9, .arr 0 true 1 u0)]⟩:=kr (by kernel_rfl) h
theorem Ahd(K:KK)(t4:LB)(t5 t6:Int)(h:
 (K .ret ⟨[(4,As t4),(5,Ai t5),(6,Ai t6)],[]⟩)):M3 K .ret ⟨[(4,As t4),(5,Ai t5),(6,Ai t6)],[]⟩:=kr (by kernel_rfl) h
theorem Atm(K:KK)(t0:LB)(t1:Int)(u0:LL)(h:
 (Al5 t0 t1 u0 (Agt K))):M3 K .normal ⟨[(0,As t0),(1,Ai t1),(7, .own H9)],[(H9, .arr 0 true 1 u0)]⟩:=kr (by kernel_rfl) h
theorem A2t:Bt E0.P 81 ac_r15_name.code Co [.tmp 4, .tmp 5, .tmp 6]:=Bl _ _ Try.f81 [(2,[0,1,7],[]),(4,[1,7],[]),(5,[0,1,7],[0,1,7]),(9,[0,1,7,55],[0,1,7]),(11,[0,1,7],[0,1,7,8]),(13,[0,1,7,8],[0,1,7]),(17,[1,7],[])] [4,5,6] _ 80 Try.func81 (by kernel_rfl) (by kernel_rfl) (by kernel_rfl) (by kernel_rfl)
theorem Axt(a0:LB)(a1:Int)(Q:QQ)(h:
 (Te a0 a1 [] (Iw Q))):Call E0.P Aiy [As a0,Ai a1] [] Q:=Bd (Au E0 Co) (Ba Co) 3 0 81 ac_r15_name [.tmp 4, .tmp 5, .tmp 6] A2t _ _ Q rfl rfl (kr (by kernel_rfl) h)
noncomputable def ac_r15_sign:AC:=(Bf [] [10,11] (codeOf Try.f82) 0).1
abbrev Ah1:Nat:=21
theorem A14:Bt E0.P 82 ac_r15_sign.code Ah1 [.cell 10 95, .tmp 11]:=Bl _ _ Try.f82 [] [10,11] _ 21 Try.func82 (by kernel_rfl) (by kernel_rfl) (by kernel_rfl) (by kernel_rfl)
theorem Axv(a0 a1:Int)(a2:LB)(a3 a4:Int)(Q:QQ)(h:
 (Br (!decide (a4=(0:Int)))
 (Q (.tup [.imm (.agg [.int .i64 0, .int .i64 0, .str [], .int .i64 0, .int .i64 0]),Ai a4]) [])
 (Q (.tup [.imm (.agg [.int .i64 a0, .int .i64 0, .str a2, .int .i64 a1, .int .i64 a3]),Ai 0]) []))):Call E0.P Vu [Ai a0,Ai a1,As a2,Ai a3,Ai a4] [] Q:=Bd (Au E0 Ah1) (Ba Ah1) 3 0 82 ac_r15_sign [.cell 10 95, .tmp 11] A14 _ _ Q rfl rfl (kr (by kernel_rfl) h)
noncomputable def ac_r15_plain:AC:=(Bf [(3,[0,1,7,8],[]),(5,[],[]),(16,[0,7,8,9,10],[0,1,7,8]),(24,[],[])] [4,5,6] (codeOf Try.f83) 0).1
abbrev Es:Nat:=67
def Xh(t0:LB)(t1:Int)(t7:LB)(t8:Int)(K:KK):Prop:=Bj 3 E0.P Es (Az 3 ac_r15_plain).code ⟨[(0,As t0),(1,Ai t1),(7,As t7),(8,Ai t8)],[]⟩ K
def Ih(t0 t7:LB)(t8:Int)(t9:LB)(t10:Int)(K:KK):Prop:=Ar 16 E0.P Es (Af 16 ac_r15_plain).code ⟨[(0,As t0),(7,As t7),(8,Ai t8),(9,As t9),(10,Ai t10)],[]⟩ K
def Akd(K:KK):Prop:=Ar 24 E0.P Es (Af 24 ac_r15_plain).code ⟨[],[]⟩ K
def Acx(Q:QQ):KK:=kE fun st=>finish 0 E0.T [.tmp 4, .tmp 5, .tmp 6] [] Q st
def Lh(Q:QQ):KK:=kF 0 (fun st=>Ar 24 E0.P Es (Af 24 ac_r15_plain).code (mask [] st) (Acx Q)) fun st=>finish 0 E0.T [.tmp 4, .tmp 5, .tmp 6] [] Q st
def H7(K:KK):KK:=kC 1 (fun st=>Bj 3 E0.P Es (Az 3 ac_r15_plain).code (mask [0,1,7,8] st) K) K
theorem Afv(t0:LB)(t1:Int)(t7:LB)(t8:Int)(K:KK)(h:
 (Br (decide (t1<(↑t0.length:Int)))
 (Ao ((0:Int)≤t1∧t1≤IntKind.i64.wrap (t1+(1:Int))∧IntKind.i64.wrap (t1+(1:Int))≤(↑t0.length:Int))
 (Let (List.drop t1.toNat (List.take (IntKind.i64.wrap (t1+(1:Int))).toNat t0)) fun x0=>
 Call E0.P Abd [As t0,Ai t1] [] fun r1 g1=>
 Ao (Mv g1 r1)
 (Br (decide ((0:Int)<rI r1))
 (Ih t0 t7 t8 [(10:UInt8)] (IntKind.i64.wrap (t1+rI r1)) (H7 K))
 (Ao ((0:Int)≤t1∧t1<(↑t0.length:Int))
 (Br (decide ((↑(t0.getD t1.toNat 0).toNat:Int)=(92:Int)))
 (Call E0.P Yx [As t0,Ai (IntKind.i64.wrap (t1+(1:Int)))] [] fun r2 g2=>
 Ao (g2=[]∧r2= .tup [.imm (.str (rS (rT r2 0))), .imm (.int .i64 (rI (rT r2 1)))])
 (Br (decide (rI (rT r2 1)<(0:Int)))
 (K .ret ⟨[(4, .imm (.str [])),(5,Ai 0),(6,Ai 5)],[]⟩)
 (Ih t0 t7 t8 (rS (rT r2 0)) (rI (rT r2 1)) (H7 K))))
 (Ao ((0:Int)≤t1∧t1<(↑t0.length:Int))
 (Br (decide ((↑(t0.getD t1.toNat 0).toNat:Int)=(40:Int)))
 (Ih t0 t7 (IntKind.i64.wrap (t8+(1:Int))) x0 (IntKind.i64.wrap (t1+(1:Int))) (H7 K))
 (Ao ((0:Int)≤t1∧t1<(↑t0.length:Int))
 (Br (decide ((↑(t0.getD t1.toNat 0).toNat:Int)=(41:Int)))
 (Ih t0 t7 (IntKind.i64.wrap (t8 - (1:Int))) x0 (IntKind.i64.wrap (t1+(1:Int))) (H7 K))
 (Ih t0 t7 t8 x0 (IntKind.i64.wrap (t1+(1:Int))) (H7 K)))))))))))
 (K (.exit 0) ⟨[],[]⟩))):Xh t0 t1 t7 t8 K:=Bo (Au E0 Es) (Ba Es) 3 3 (Az 3 ac_r15_plain) [0,1,7,8] _ K rfl (kr (by kernel_rfl) h)
theorem Adw(t0 t7:LB)(t8:Int)(t9:LB)(t10:Int)(K:KK)(h:
 (Br (decide (t8=(0:Int)))
 (K .ret ⟨[(4,As t7),(5,Ai t10),(6,Ai 0)],[]⟩)
 (Ao ((↑(t7.length+t9.length):Int)≤(9223372036854775807:Int))
 (Br (decide ((65535:Int)<(↑(t7++t9).length:Int)))
 (K .ret ⟨[(4, .imm (.str [])),(5,Ai 0),(6,Ai 8)],[]⟩)
 (K .normal ⟨[(0,As t0),(1,Ai t10),(7,As (t7++t9)),(8,Ai t8)],[]⟩))))):Ih t0 t7 t8 t9 t10 K:=Ay (Au E0 Es) (Ba Es) 3 16 (Af 16 ac_r15_plain) [0,1,7,8] _ K rfl (kr (by kernel_rfl) h)
theorem Aps(K:KK)(h:
 (K .ret ⟨[(4, .imm (.str [])),(5,Ai 0),(6,Ai 5)],[]⟩)):Akd K:=Ay (Au E0 Es) (Ba Es) 3 24 (Af 24 ac_r15_plain) [] _ K rfl (kr (by kernel_rfl) h)
theorem Aqe(Q:QQ)(t4:LB)(t5 t6:Int)(h:
 (Q (.tup [As t4,Ai t5,Ai t6]) [])):Acx Q .ret ⟨[(4,As t4),(5,Ai t5),(6,Ai t6)],[]⟩:=kr (by kernel_rfl) h
theorem Afw(Q:QQ)(t4:LB)(t5 t6:Int)(h:
 (Q (.tup [As t4,Ai t5,Ai t6]) [])):Lh Q .ret ⟨[(4,As t4),(5,Ai t5),(6,Ai t6)],[]⟩:=kr (by kernel_rfl) h
theorem Asd(Q:QQ)(h:
 (Akd (Acx Q))):Lh Q (.exit 0) ⟨[],[]⟩:=kr (by kernel_rfl) h
theorem Aez(K:KK)(t4:LB)(t5 t6:Int)(h:
 (K .ret ⟨[(4,As t4),(5,Ai t5),(6,Ai t6)],[]⟩)):H7 K .ret ⟨[(4,As t4),(5,Ai t5),(6,Ai t6)],[]⟩:=kr (by kernel_rfl) h
theorem Ars(K:KK)(t0:LB)(t1:Int)(t7:LB)(t8:Int)(h:
 (Xh t0 t1 t7 t8 K)):H7 K .normal ⟨[(0,As t0),(1,Ai t1),(7,As t7),(8,Ai t8)],[]⟩:=kr (by kernel_rfl) h
theorem Ayz:Bt E0.P 83 ac_r15_plain.code Es [.tmp 4, .tmp 5, .tmp 6]:=Bl _ _ Try.f83 [(3,[0,1,7,8],[]),(5,[],[]),(16,[0,7,8,9,10],[0,1,7,8]),(24,[],[])] [4,5,6] _ 67 Try.func83 (by kernel_rfl) (by kernel_rfl) (by kernel_rfl) (by kernel_rfl)
theorem Av7(a0:LB)(a1:Int)(Q:QQ)(h:
 (Xh a0 a1 [] ((1:Int)) (Lh Q))):Call E0.P Ae2 [As a0,Ai a1] [] Q:=Bd (Au E0 Es) (Ba Es) 3 0 83 ac_r15_plain [.tmp 4, .tmp 5, .tmp 6] Ayz _ _ Q rfl rfl (kr (by kernel_rfl) h)
noncomputable def ac_r15_hex:AC:=(Bf [(3,[0,1,7,8],[]),(5,[],[]),(14,[0,1,7,8,9,10,40],[0,1,7,8,9,10]),(16,[0,1,7,8,9,10],[0,1,7,8]),(20,[0,1,7,8,9],[0,1,7,8]),(26,[],[])] [4,5,6] (codeOf Try.f84) 0).1
abbrev Di:Nat:=66
def Wd(t0:LB)(t1 t8:Int)(u0:LL)(K:KK):Prop:=Bj 3 E0.P Di (Az 3 ac_r15_hex).code ⟨[(0,As t0),(1,Ai t1),(7, .own Np),(8,Ai t8)],[(Np, .arr 0 true 1 u0)]⟩ K
def Af9(t0:LB)(t1 t8:Int)(t9 t10:Int)(u0:LL)(K:KK):Prop:=Ar 16 E0.P Di (Af 16 ac_r15_hex).code ⟨[(0,As t0),(1,Ai t1),(7, .own Np),(8,Ai t8),(9, .imm (.int .u8 t9)),(10,Ai t10)],[(Np, .arr 0 true 1 u0)]⟩ K
def Yn(t0:LB)(t1 t8:Int)(t9 t10:Int)(t40:Bool)(u0:LL)(K:KK):Prop:=Ar 14 E0.P Di (Af 14 ac_r15_hex).code ⟨[(0,As t0),(1,Ai t1),(7, .own Np),(8,Ai t8),(9, .imm (.int .u8 t9)),(10,Ai t10),(40,Ab t40)],[(Np, .arr 0 true 1 u0)]⟩ K
def Sn(t0:LB)(t1 t8 t9:Int)(u0:LL)(K:KK):Prop:=Ar 20 E0.P Di (Af 20 ac_r15_hex).code ⟨[(0,As t0),(1,Ai t1),(7, .own Np),(8,Ai t8),(9, .imm (.int .u8 t9))],[(Np, .arr 0 true 1 u0)]⟩ K
def Am1(K:KK):Prop:=Ar 26 E0.P Di (Af 26 ac_r15_hex).code ⟨[],[]⟩ K
def Ai0(Q:QQ):KK:=kE fun st=>finish 0 E0.T [.tmp 4, .tmp 5, .tmp 6] [] Q st
def O1(Q:QQ):KK:=kF 0 (fun st=>Ar 26 E0.P Di (Af 26 ac_r15_hex).code (mask [] st) (Ai0 Q)) fun st=>finish 0 E0.T [.tmp 4, .tmp 5, .tmp 6] [] Q st
def Rw(K:KK):KK:=kC 1 (fun st=>Bj 3 E0.P Di (Az 3 ac_r15_hex).code (mask [0,1,7,8] st) K) K
def V6(K:KK):Ex→St→Prop
 | .normal,st=>Ar 16 E0.P Di (Af 16 ac_r15_hex).code (mask [0,1,7,8,9,10] st) (Rw K)
 | .exit i,st=>(match (i.beq 1:Bool)with
 |true=>Bj 3 E0.P Di (Az 3 ac_r15_hex).code (mask [0,1,7,8] st) K
 |false=>K (.exit i) st)
 | .goto i,st=>K (.goto i) st
 | .ret,st=>K .ret st
def Rn(K:KK):KK:=kP [0,1,7,8] K
theorem Ajw(t0:LB)(t1 t8:Int)(u0:LL)(K:KK)(h:
 (Br (decide (t1<(↑t0.length:Int)))
 (Ao ((0:Int)≤t1∧t1<(↑t0.length:Int))
 (Call E0.P Ox [.imm (.int .u8 ((↑(t0.getD t1.toNat 0).toNat:Int)))] [] fun r0 g0=>
 Ao (Mv g0 r0)
 (Let (bif decide ((↑(t0.getD t1.toNat 0).toNat:Int)=(62:Int))then decide (t8<(0:Int))else false) fun x1=>
 Br (x1)
 (Ao (∀(r:List IV),r∈u0→Ch [.int .u8] r=true)
 (K .ret ⟨[(4,As (List.map (fun r=>UInt8.ofNat (gI r 0).toNat) u0)),(5,Ai (IntKind.i64.wrap (t1+(1:Int)))),(6,Ai 0)],[]⟩))
 (Br (decide ((↑(t0.getD t1.toNat 0).toNat:Int)=(62:Int)))
 (Af9 t0 (IntKind.i64.wrap (t1+(1:Int))) t8 ((↑(t0.getD t1.toNat 0).toNat:Int)) ((0:Int)) u0 (Rw K))
 (Br (decide (rI r0<(0:Int)) == true)
 (Call E0.P L6 [.imm (.int .u8 ((↑(t0.getD t1.toNat 0).toNat:Int)))] [] fun r2 g2=>
 Ao (Mv g2 r2)
 (Let (!decide (rI r2=(0:Int))) fun x3=>
 Yn t0 (IntKind.i64.wrap (t1+(1:Int))) t8 ((↑(t0.getD t1.toNat 0).toNat:Int)) (rI r0) x3 u0 (V6 K)))
 (Ao ((!true)=false)
 (Let (false) fun x4=>
 Yn t0 (IntKind.i64.wrap (t1+(1:Int))) t8 ((↑(t0.getD t1.toNat 0).toNat:Int)) (rI r0) x4 u0 (V6 K))))))))
 (K (.exit 0) ⟨[],[]⟩))):Wd t0 t1 t8 u0 K:=Bo (Au E0 Di) (Ba Di) 3 3 (Az 3 ac_r15_hex) [0,1,7,8] _ K rfl (kr (by kernel_rfl) h)
theorem Ahl(t0:LB)(t1 t8:Int)(t9 t10:Int)(u0:LL)(K:KK)(h:
 (Let (bif decide ((0:Int)≤t10)then decide (t8<(0:Int))else false) fun x0=>
 Br (x0)
 (Sn t0 t1 t10 t9 u0 (Rn K))
 (Br (decide ((0:Int)≤t10))
 (Ao ((u0.length+1)*1≤140737488355328∧u0.length+1≤140737488355328)
 (Sn t0 t1 ((-1:Int)) t9 (u0++[[IV.int .u8 (IntKind.u8.wrap (IntKind.i64.wrap (IntKind.i64.wrap ((16:Int)*t8)+t10)))]]) (Rn K)))
 (Sn t0 t1 t8 t9 u0 (Rn K))))):Af9 t0 t1 t8 t9 t10 u0 K:=Ay (Au E0 Di) (Ba Di) 3 16 (Af 16 ac_r15_hex) [0,1,7,8] _ K rfl (kr (by kernel_rfl) h)
theorem Ahm(t0:LB)(t1 t8:Int)(t9 t10:Int)(t40:Bool)(u0:LL)(K:KK)(h:
 (Br (t40)
 (K .ret ⟨[(4, .imm (.str [])),(5,Ai 0),(6,Ai 4)],[]⟩)
 (K .normal ⟨[(0,As t0),(1,Ai t1),(7, .own Np),(8,Ai t8),(9, .imm (.int .u8 t9)),(10,Ai t10)],[(Np, .arr 0 true 1 u0)]⟩))):Yn t0 t1 t8 t9 t10 t40 u0 K:=Ay (Au E0 Di) (Ba Di) 3 14 (Af 14 ac_r15_hex) [0,1,7,8,9,10] _ K rfl (kr (by kernel_rfl) h)
theorem Zf(t0:LB)(t1 t8 t9:Int)(u0:LL)(K:KK)(h:
 (Br (decide ((65535:Int)<(↑u0.length:Int)))
 (K .ret ⟨[(4, .imm (.str [])),(5,Ai 0),(6,Ai 8)],[]⟩)
 (Br (decide (t9=(62:Int)))
 (Ao (∀(r:List IV),r∈u0→Ch [.int .u8] r=true)
 (K .ret ⟨[(4,As (List.map (fun r=>UInt8.ofNat (gI r 0).toNat) u0)),(5,Ai t1),(6,Ai 0)],[]⟩))
 (K .normal ⟨[(0,As t0),(1,Ai t1),(7, .own Np),(8,Ai t8)],[(Np, .arr 0 true 1 u0)]⟩)))):Sn t0 t1 t8 t9 u0 K:=Ay (Au E0 Di) (Ba Di) 3 20 (Af 20 ac_r15_hex) [0,1,7,8] _ K rfl (kr (by kernel_rfl) h)
theorem Aup(K:KK)(h:
 (K .ret ⟨[(4, .imm (.str [])),(5,Ai 0),(6,Ai 5)],[]⟩)):Am1 K:=Ay (Au E0 Di) (Ba Di) 3 26 (Af 26 ac_r15_hex) [] _ K rfl (kr (by kernel_rfl) h)
theorem Aw3(Q:QQ)(t4:LB)(t5 t6:Int)(h:
 (Q (.tup [As t4,Ai t5,Ai t6]) [])):Ai0 Q .ret ⟨[(4,As t4),(5,Ai t5),(6,Ai t6)],[]⟩:=kr (by kernel_rfl) h
theorem Pi(Q:QQ)(t4:LB)(t5 t6:Int)(h:
 (Q (.tup [As t4,Ai t5,Ai t6]) [])):O1 Q .ret ⟨[(4,As t4),(5,Ai t5),(6,Ai t6)],[]⟩:=kr (by kernel_rfl) h
theorem Awk(Q:QQ)(h:
 (Am1 (Ai0 Q))):O1 Q (.exit 0) ⟨[],[]⟩:=kr (by kernel_rfl) h
theorem Aj3(K:KK)(t4:LB)(t5 t6:Int)(h:
 (K .ret ⟨[(4,As t4),(5,Ai t5),(6,Ai t6)],[]⟩)):Rw K .ret ⟨[(4,As t4),(5,Ai t5),(6,Ai t6)],[]⟩:=kr (by kernel_rfl) h
theorem Awp(K:KK)(t0:LB)(t1 t8:Int)(u0:LL)(h:
 (Wd t0 t1 t8 u0 K)):Rw K .normal ⟨[(0,As t0),(1,Ai t1),(7, .own Np),(8,Ai t8)],[(Np, .arr 0 true 1 u0)]⟩:=kr (by kernel_rfl) h
theorem Aws(K:KK)(t4:LB)(t5 t6:Int)(h:
 (K .ret ⟨[(4,As t4),(5,Ai t5),(6,Ai t6)],[]⟩)):V6 K .ret ⟨[(4,As t4),(5,Ai t5),(6,Ai t6)],[]⟩:=kr (by kernel_rfl) h
theorem Avj(K:KK)(t0:LB)(t1 t8:Int)(t9 t10:Int)(u0:LL)(h:
 (Af9 t0 t1 t8 t9 t10 u0 (Rw K))):V6 K .normal ⟨[(0,As t0),(1,Ai t1),(7, .own Np),(8,Ai t8),(9, .imm (.int .u8 t9)),(10,Ai t10)],[(Np, .arr 0 true 1 u0)]⟩:=kr (by kernel_rfl) h
theorem Aal(K:KK)(t4:LB)(t5 t6:Int)(h:
 (K .ret ⟨[(4,As t4),(5,Ai t5),(6,Ai t6)],[]⟩)):Rn K .ret ⟨[(4,As t4),(5,Ai t5),(6,Ai t6)],[]⟩:=kr (by kernel_rfl) h
theorem Awz(K:KK)(t0:LB)(t1 t8:Int)(u0:LL)(h:
 (K .normal ⟨[(0,As t0),(1,Ai t1),(7, .own Np),(8,Ai t8)],[(Np, .arr 0 true 1 u0)]⟩)):Rn K .normal ⟨[(0,As t0),(1,Ai t1),(7, .own Np),(8,Ai t8)],[(Np, .arr 0 true 1 u0)]⟩:=kr (by kernel_rfl) h
theorem A4j:Bt E0.P 84 ac_r15_hex.code Di [.tmp 4, .tmp 5, .tmp 6]:=Bl _ _ Try.f84 [(3,[0,1,7,8],[]),(5,[],[]),(14,[0,1,7,8,9,10,40],[0,1,7,8,9,10]),(16,[0,1,7,8,9,10],[0,1,7,8]),(20,[0,1,7,8,9],[0,1,7,8]),(26,[],[])] [4,5,6] _ 66 Try.func84 (by kernel_rfl) (by kernel_rfl) (by kernel_rfl) (by kernel_rfl)
theorem A0w(a0:LB)(a1:Int)(Q:QQ)(h:
 (Wd a0 a1 ((-1:Int)) [] (O1 Q))):Call E0.P Akz [As a0,Ai a1] [] Q:=Bd (Au E0 Di) (Ba Di) 3 0 84 ac_r15_hex [.tmp 4, .tmp 5, .tmp 6] A4j _ _ Q rfl rfl (kr (by kernel_rfl) h)
noncomputable def ac_r01_Kind:AC:=(Bf [] [2] (codeOf Try.f85) 0).1
abbrev Ahy:Nat:=7
theorem A13:Bt E0.P 85 ac_r01_Kind.code Ahy [.tmp 2]:=Bl _ _ Try.f85 [] [2] _ 7 Try.func85 (by kernel_rfl) (by kernel_rfl) (by kernel_rfl) (by kernel_rfl)
theorem Aya(a0:Int)(Q:QQ)(h:
 (Call E0.P Abt [.imm (.str [0,9,10,12,13,32]), .imm (.int .u8 a0)] [] fun r0 g0=>
 Ao (qP0 g0 r0)
 (Br (rB r0)
 (Q (Ai 0) [])
 (Call E0.P Abt [.imm (.str [40,41,60,62,91,93,123,125,
 47,37]), .imm (.int .u8 a0)] [] fun r1 g1=>
 Ao (qP0 g1 r1)
 (Br (rB r1)
 (Q (Ai 1) [])
 (Q (Ai 2) [])))))):Call E0.P L6 [.imm (.int .u8 a0)] [] Q:=Bd (Au E0 Ahy) (Ba Ahy) 3 0 85 ac_r01_Kind [.tmp 2] A13 _ _ Q rfl rfl (kr (by kernel_rfl) h)
noncomputable def ac_r15_word:AC:=(Bf [] [4,5] (codeOf Try.f86) 0).1
abbrev Ait:Nat:=45
theorem A11:Bt E0.P 86 ac_r15_word.code Ait [.cell 4 95, .tmp 5]:=Bl _ _ Try.f86 [] [4,5] _ 45 Try.func86 (by kernel_rfl) (by kernel_rfl) (by kernel_rfl) (by kernel_rfl)
theorem Ax6(a0:LB)(a1:Int)(Q:QQ)(h:
 (Call E0.P Ain [As a0,Ai a1, .imm (.sl .any 1 [[IV.int .i64 (2:Int)]])] [] fun r0 g0=>
 Ao (Mv g0 r0)
 (Ao ((0:Int)≤a1∧a1≤IntKind.i64.wrap (a1+rI r0)∧IntKind.i64.wrap (a1+rI r0)≤(↑a0.length:Int))
 (Let (List.drop a1.toNat (List.take (IntKind.i64.wrap (a1+rI r0)).toNat a0)) fun x1=>
 Call E0.P Afj [As x1] [] fun r2 g2=>
 Ao (A4q g2 r2)
 (Br (decide (rI (rT r2 1)=(0:Int)))
 (Q (.tup [.imm (.agg [.int .i64 1, .int .i64 (rI (rT r2 0)), .str [], .int .i64 a1, .int .i64 (IntKind.i64.wrap (a1+rI r0))]),Ai 0]) [])
 (Br (decide (rI (rT r2 1)=(3:Int)))
 (Q (.tup [.imm (.agg [.int .i64 0, .int .i64 0, .str [], .int .i64 0, .int .i64 0]),Ai 3]) [])
 (Br (decide ((127:Int)<rI r0))
 (Q (.tup [.imm (.agg [.int .i64 0, .int .i64 0, .str [], .int .i64 0, .int .i64 0]),Ai 8]) [])
 (Q (.tup [.imm (.agg [.int .i64 8, .int .i64 0, .str x1, .int .i64 a1, .int .i64 (IntKind.i64.wrap (a1+rI r0))]),Ai 0]) [])))))))):Call E0.P Aie [As a0,Ai a1] [] Q:=Bd (Au E0 Ait) (Ba Ait) 3 0 86 ac_r15_word [.cell 4 95, .tmp 5] A11 _ _ Q rfl rfl (kr (by kernel_rfl) h)
noncomputable def ac_parse_reader_link:AC:=(Bf [(7,[0,4],[])] [2,3] (codeOf Try.f92) 0).1
abbrev G9:Nat:=52
def Lb(u0:LB)(u1 u2:Int)(u3:LB)(u4:Int)(K:KK):Prop:=Ar 7 E0.P G9 (Af 7 ac_parse_reader_link).code ⟨[(0, .ptr Ae 0),(4, .ptr nL4 0)],[(Ae, .blk Am [As u0,Ai u1,Ai u2]),(nL4, .blk As3 [As u3,Ai u4])]⟩ K
def Kw(s:LB)(at_ win:Int)(Q:QQ):KK:=kE fun st=>finish 0 E0.T [.tmp 2, .tmp 3] [(Ae, .blk Am [As s,Ai at_,Ai win])] Q st
theorem Aff(u0:LB)(u1 u2:Int)(u3:LB)(u4:Int)(K:KK)(h:
 (K .ret ⟨[(2,Ai 0),(3,Ab false)],[(Ae, .blk Am [As u3,Ai u4,Ai u2])]⟩)):Lb u0 u1 u2 u3 u4 K:=Ay (Au E0 G9) (Ba G9) 3 7 (Af 7 ac_parse_reader_link) [] _ K rfl (kr (by kernel_rfl) h)
theorem Agq(s:LB)(at_ win:Int)(Q:QQ)(t2:Int)(t3:Bool)(u0:LB)(u1 u2:Int)(h:
 (Q (.tup [Ai t2,Ab t3]) [(Ae, .blk Am [As u0,Ai u1,Ai u2])])):Kw s at_ win Q .ret ⟨[(2,Ai t2),(3,Ab t3)],[(Ae, .blk Am [As u0,Ai u1,Ai u2])]⟩:=kr (by kernel_rfl) h
theorem Akq:Bt E0.P 92 ac_parse_reader_link.code G9 [.tmp 2, .tmp 3]:=Bl _ _ Try.f92 [(7,[0,4],[])] [2,3] _ 52 Try.func92 (by kernel_rfl) (by kernel_rfl) (by kernel_rfl) (by kernel_rfl)
theorem V7(s:LB)(at_ win:Int)(Q:QQ)(h:
 (Call E0.P F4 [.ptr Ae 0] [(Ae, .blk Am [As s,Ai at_,Ai win])] fun r0 g0=>
 Ao (qP6 g0 r0)
 (Let (bif decide (rI (rT r0 1)=(0:Int))then decide (gI (Ad (rT r0 0)) 0=(1:Int))
 else false) fun x1=>
 Br (x1)
 (Call E0.P F4 [.ptr Ae 0] [(Ae, .blk Am [.imm (.str (rS ((Aw g0 Ae).getD 0 AV.undef))), .imm (.int .i64 (rI ((Aw g0 Ae).getD 1 AV.undef))), .imm (.int .i64 (rI ((Aw g0 Ae).getD 2 AV.undef)))])] fun r2 g2=>
 Ao (qP6 g2 r2)
 (Let (bif decide (rI (rT r2 1)=(0:Int))then decide (gI (Ad (rT r2 0)) 0=(8:Int))
 else false) fun x3=>
 Let (bif x3 then gS (Ad (rT r2 0)) 2 == [(82:UInt8)]else false) fun x4=>
 Br (x4)
 (Q (.tup [Ai (gI (Ad (rT r0 0)) 1),Ab true]) [(Ae, .blk Am [.imm (.str (rS ((Aw g2 Ae).getD 0 AV.undef))), .imm (.int .i64 (rI ((Aw g2 Ae).getD 1 AV.undef))), .imm (.int .i64 (rI ((Aw g2 Ae).getD 2 AV.undef)))])])
 (Lb (rS ((Aw g2 Ae).getD 0 AV.undef)) (rI ((Aw g2 Ae).getD 1 AV.undef)) (rI ((Aw g2 Ae).getD 2 AV.undef)) s at_ (Kw s at_ win Q))))
 (Lb (rS ((Aw g0 Ae).getD 0 AV.undef)) (rI ((Aw g0 Ae).getD 1 AV.undef)) (rI ((Aw g0 Ae).getD 2 AV.undef)) s at_ (Kw s at_ win Q))))):Call E0.P Lt [.ptr (.arg 0) 0] [(.arg 0, .blk Am [.imm (.str s), .imm (.int .i64 at_), .imm (.int .i64 win)])] Q:=Bd (Au E0 G9) (Ba G9) 3 0 92 ac_parse_reader_link [.tmp 2, .tmp 3] Akq _ _ Q rfl rfl (kr (by kernel_rfl) h)
noncomputable def ac_parse_reader_key:AC:=(Bf [] [4,5,6] (codeOf Try.f93) 0).1
abbrev R4:Nat:=45
theorem Amh:Bt E0.P 93 ac_parse_reader_key.code R4 [.tmp 4, .tmp 5, .tmp 6]:=Bl _ _ Try.f93 [] [4,5,6] _ 45 Try.func93 (by kernel_rfl) (by kernel_rfl) (by kernel_rfl) (by kernel_rfl)
theorem Aj2(s:LB)(at_ win:Int)(m:List (List UInt8 × Int))(Q:QQ)(h:
 (Call E0.P F4 [.ptr Ae 0] [(Ae, .blk Am [As s,Ai at_,Ai win])] fun r0 g0=>
 Ao (qP6 g0 r0)
 (Br (!decide (rI (rT r0 1)=(0:Int)))
 (Q (.tup [.imm (.str []),Ab false,Ai (rI (rT r0 1))]) [(Ae, .blk Am [.imm (.str (rS ((Aw g0 Ae).getD 0 AV.undef))), .imm (.int .i64 (rI ((Aw g0 Ae).getD 1 AV.undef))), .imm (.int .i64 (rI ((Aw g0 Ae).getD 2 AV.undef)))]),(Av, .map m)])
 (Br (decide (gI (Ad (rT r0 0)) 0=(0:Int)))
 (Q (.tup [.imm (.str []),Ab false,Ai 5]) [(Ae, .blk Am [.imm (.str (rS ((Aw g0 Ae).getD 0 AV.undef))), .imm (.int .i64 (rI ((Aw g0 Ae).getD 1 AV.undef))), .imm (.int .i64 (rI ((Aw g0 Ae).getD 2 AV.undef)))]),(Av, .map m)])
 (Br (decide (gI (Ad (rT r0 0)) 0=(7:Int)))
 (Q (.tup [.imm (.str []),Ab false,Ai 0]) [(Ae, .blk Am [.imm (.str (rS ((Aw g0 Ae).getD 0 AV.undef))), .imm (.int .i64 (rI ((Aw g0 Ae).getD 1 AV.undef))), .imm (.int .i64 (rI ((Aw g0 Ae).getD 2 AV.undef)))]),(Av, .map m)])
 (Br (!decide (gI (Ad (rT r0 0)) 0=(2:Int)))
 (Q (.tup [.imm (.str []),Ab false,Ai 4]) [(Ae, .blk Am [.imm (.str (rS ((Aw g0 Ae).getD 0 AV.undef))), .imm (.int .i64 (rI ((Aw g0 Ae).getD 1 AV.undef))), .imm (.int .i64 (rI ((Aw g0 Ae).getD 2 AV.undef)))]),(Av, .map m)])
 (Br (decide ((0:Int)<Ga m (gS (Ad (rT r0 0)) 2)))
 (Q (.tup [.imm (.str []),Ab false,Ai 11]) [(Ae, .blk Am [.imm (.str (rS ((Aw g0 Ae).getD 0 AV.undef))), .imm (.int .i64 (rI ((Aw g0 Ae).getD 1 AV.undef))), .imm (.int .i64 (rI ((Aw g0 Ae).getD 2 AV.undef)))]),(Av, .map m)])
 (Q (.tup [As (gS (Ad (rT r0 0)) 2),Ab true,Ai 0]) [(Ae, .blk Am [.imm (.str (rS ((Aw g0 Ae).getD 0 AV.undef))), .imm (.int .i64 (rI ((Aw g0 Ae).getD 1 AV.undef))), .imm (.int .i64 (rI ((Aw g0 Ae).getD 2 AV.undef)))]),(Av, .map (mUp m (gS (Ad (rT r0 0)) 2)
 (IntKind.i64.wrap (Ga m (gS (Ad (rT r0 0)) 2)+(1:Int)))))])))))))):Call E0.P R3 [.ptr (.arg 0) 0, .mp (.arg 1)] [(.arg 0, .blk Am [.imm (.str s), .imm (.int .i64 at_), .imm (.int .i64 win)]),(.arg 1, .map m)] Q:=Bd (Au E0 R4) (Ba R4) 3 0 93 ac_parse_reader_key [.tmp 4, .tmp 5, .tmp 6] Amh _ _ Q rfl rfl (kr (by kernel_rfl) h)
noncomputable def ac_r18_link:AC:=(Bf [] [4,5,6] (codeOf Try.f100) 0).1
abbrev Aic:Nat:=53
theorem A2u:Bt E0.P 100 ac_r18_link.code Aic [.cell 4 37, .tmp 5, .tmp 6]:=Bl _ _ Try.f100 [] [4,5,6] _ 53 Try.func100 (by kernel_rfl) (by kernel_rfl) (by kernel_rfl) (by kernel_rfl)
theorem Alw(a0:LB)(a1_0 a1_1:Int)(a1_2:LB)(a1_3 a1_4:Int)(Q:QQ)(h:
 (Call E0.P Me [As a0,Ai a1_4] [] fun r0 g0=>
 Ao (qP5 g0 r0)
 (Let (bif !decide (rI (rT r0 1)=(0:Int))then true
 else !decide (gI (Ad (rT r0 0)) 0=(1:Int))) fun x1=>
 Br (x1)
 (Q (.tup [.imm (.agg [.int .i64 0, .int .i64 0, .int .i64 0, .str [], .sl .any 6 [], .sl .any 7 []]),Ai 0,Ab false]) [])
 (Call E0.P Me [As a0,Ai (gI (Ad (rT r0 0)) 4)] [] fun r2 g2=>
 Ao (qP5 g2 r2)
 (Let (bif !decide (rI (rT r2 1)=(0:Int))then true
 else !decide (gI (Ad (rT r2 0)) 0=(8:Int))) fun x3=>
 Let (bif x3 then true else !gS (Ad (rT r2 0)) 2 == [(82:UInt8)]) fun x4=>
 Br (x4)
 (Q (.tup [.imm (.agg [.int .i64 0, .int .i64 0, .int .i64 0, .str [], .sl .any 6 [], .sl .any 7 []]),Ai 0,Ab false]) [])
 (Q (.tup [.imm (.agg [.int .i64 7, .int .i64 a1_1, .int .i64 (gI (Ad (rT r0 0)) 1), .str [], .sl .any 6 [], .sl .any 7 []]),Ai (gI (Ad (rT r2 0)) 4),Ab true]) [])))))):Call E0.P Abj [As a0, .imm (.agg [.int .i64 a1_0, .int .i64 a1_1, .str a1_2, .int .i64 a1_3, .int .i64 a1_4])] [] Q:=Bd (Au E0 Aic) (Ba Aic) 3 0 100 ac_r18_link [.cell 4 37, .tmp 5, .tmp 6] A2u _ _ Q rfl rfl (kr (by kernel_rfl) h)
noncomputable def ac_octet_Span:AC:=(Bf [(1,[0,1,2,7],[]),(7,[0,1,2,7],[]),(9,[7],[]),(12,[0,1,2,7,22,23,24],[]),(14,[7],[]),(18,[0,1,2,7],[]),(20,[7],[0,1,2,7]),(21,[7],[]),(22,[0,1,2,7],[0,1,2,7]),(23,[7],[])] [6] (codeOf Try.f102) 0).1
abbrev Ca:Nat:=38
def Uo(t0:LB)(t1:Int)(t2r:LL)(t7:Int)(K:KK):Prop:=Bj 7 E0.P Ca (Az 7 ac_octet_Span).code ⟨[(0,As t0),(1,Ai t1),(2,Al 1 t2r),(7,Ai t7)],[]⟩ K
def Zt(t0:LB)(t1:Int)(t2r:LL)(t7:Int)(t22r:LL)(t23 t24:Int)(K:KK):Prop:=Bj 12 E0.P Ca (Az 12 ac_octet_Span).code ⟨[(0,As t0),(1,Ai t1),(2,Al 1 t2r),(7,Ai t7),(22,Al 1 t22r),(23,Ai t23),(24,Ai t24)],[]⟩ K
def Ahv(t7:Int)(K:KK):Prop:=Ar 23 E0.P Ca (Af 23 ac_octet_Span).code ⟨[(7,Ai t7)],[]⟩ K
def Ahu(t0:LB)(t1:Int)(t2r:LL)(t7:Int)(K:KK):Prop:=Ar 22 E0.P Ca (Af 22 ac_octet_Span).code ⟨[(0,As t0),(1,Ai t1),(2,Al 1 t2r),(7,Ai t7)],[]⟩ K
def Ahf(t7:Int)(K:KK):Prop:=Ar 20 E0.P Ca (Af 20 ac_octet_Span).code ⟨[(7,Ai t7)],[]⟩ K
def Ajr(Q:QQ):KK:=kE fun st=>finish 0 E0.T [.tmp 6] [] Q st
def Uf(Q:QQ):Ex→St→Prop
 | .normal,st=>finish 0 E0.T [.tmp 6] [] Q st
 | .exit _,_=>False
 | .goto i,st=>Jh 1 E0.P Ca i (J3 1 ac_octet_Span).code (mask [0,1,2,7] st) (Ajr Q)
 | .ret,st=>finish 0 E0.T [.tmp 6] [] Q st
def Aa5(Q:QQ):Ex→St→Prop
 | .normal,st=>Ar 23 E0.P Ca (Af 23 ac_octet_Span).code (mask [7] st) (Uf Q)
 | .exit i,st=>(match (i.beq 0:Bool)with
 |true=>Ar 23 E0.P Ca (Af 23 ac_octet_Span).code (mask [7] st) (Uf Q)
 |false=>False)
 | .goto i,st=>Jh 1 E0.P Ca i (J3 1 ac_octet_Span).code (mask [0,1,2,7] st) (Ajr Q)
 | .ret,st=>finish 0 E0.T [.tmp 6] [] Q st
def T9(K:KK):Ex→St→Prop
 | .normal,st=>Bj 7 E0.P Ca (Az 7 ac_octet_Span).code (mask [0,1,2,7] st) K
 | .exit i,st=>K (.exit i) st
 | .goto i,st=>K (.goto i) st
 | .ret,st=>K .ret st
def Ud(K:KK):KK:=kC 1 (fun st=>Ar 22 E0.P Ca (Af 22 ac_octet_Span).code (mask [0,1,2,7] st) (T9 K)) K
def Aa4(K:KK):Ex→St→Prop
 | .normal,st=>Ar 20 E0.P Ca (Af 20 ac_octet_Span).code (mask [7] st) (Ud K)
 | .exit i,st=>(match (i.beq 2:Bool)with
 |true=>Ar 20 E0.P Ca (Af 20 ac_octet_Span).code (mask [7] st) (Ud K)
 |false=>(match (i.beq 1:Bool)with
 |true=>Ar 22 E0.P Ca (Af 22 ac_octet_Span).code (mask [0,1,2,7] st) (T9 K)
 |false=>K (.exit i) st))
 | .goto i,st=>K (.goto i) st
 | .ret,st=>K .ret st
theorem Ads(t0:LB)(t1:Int)(t2r:LL)(t7:Int)(K:KK)(h:
 (Br (decide (t7<IntKind.i64.wrap ((↑t0.length:Int) - t1)))
 (Zt t0 t1 t2r t7 t2r ((↑t2r.length:Int)) ((0:Int)) (Aa4 K))
 (K (.exit 0) ⟨[(7,Ai t7)],[]⟩))):Uo t0 t1 t2r t7 K:=Bo (Au E0 Ca) (Ba Ca) 3 7 (Az 7 ac_octet_Span) [0,1,2,7] _ K rfl (kr (by kernel_rfl) h)
theorem Ab6(t0:LB)(t1:Int)(t2r:LL)(t7:Int)(t22r:LL)(t23 t24:Int)(K:KK)(h:
 (Br (decide (t24<t23))
 (Ao (((0:Int)≤t24∧t24<(↑t22r.length:Int))∧Ch [.int .i64] (t22r.getD t24.toNat [])=true)
 (Ao ((0:Int)≤IntKind.i64.wrap (t1+t7)∧IntKind.i64.wrap (t1+t7)<(↑t0.length:Int))
 (Call E0.P Nz [.imm (.int .u8 ((↑(t0.getD (IntKind.i64.wrap (t1+t7)).toNat 0).toNat:Int)))] [] fun r0 g0=>
 Ao (Mv g0 r0)
 (Br (decide (rI r0=gI (t22r.getD t24.toNat []) 0))
 (K (.exit (1)) ⟨[(0,As t0),(1,Ai t1),(2,Al 1 t2r),(7,Ai t7)],[]⟩)
 (Zt t0 t1 t2r t7 t22r t23 (IntKind.i64.wrap (t24+(1:Int))) K)))))
 (K (.exit (2)) ⟨[(7,Ai t7)],[]⟩))):Zt t0 t1 t2r t7 t22r t23 t24 K:=Bo (Au E0 Ca) (Ba Ca) 3 12 (Az 12 ac_octet_Span) [0,1,2,7,22,23,24] _ K rfl (kr (by kernel_rfl) h)
theorem Abz(t7:Int)(K:KK)(h:
 (K .ret ⟨[(6,Ai t7)],[]⟩)):Ahv t7 K:=Ay (Au E0 Ca) (Ba Ca) 3 23 (Af 23 ac_octet_Span) [] _ K rfl (kr (by kernel_rfl) h)
theorem Anj(t0:LB)(t1:Int)(t2r:LL)(t7:Int)(K:KK)(h:
 (K .normal ⟨[(0,As t0),(1,Ai t1),(2,Al 1 t2r),(7,Ai (IntKind.i64.wrap (t7+(1:Int))))],[]⟩)):Ahu t0 t1 t2r t7 K:=Ay (Au E0 Ca) (Ba Ca) 3 22 (Af 22 ac_octet_Span) [0,1,2,7] _ K rfl (kr (by kernel_rfl) h)
theorem An8(t7:Int)(K:KK)(h:
 (K (.exit 0) ⟨[(7,Ai t7)],[]⟩)):Ahf t7 K:=Ay (Au E0 Ca) (Ba Ca) 3 20 (Af 20 ac_octet_Span) [0,1,2,7] _ K rfl (kr (by kernel_rfl) h)
theorem Ado(Q:QQ)(t6:Int)(h:
 (Q (Ai t6) [])):Uf Q .ret ⟨[(6,Ai t6)],[]⟩:=kr (by kernel_rfl) h
theorem Adj(Q:QQ)(t7:Int)(h:
 (Ahv t7 (Uf Q))):Aa5 Q (.exit 0) ⟨[(7,Ai t7)],[]⟩:=kr (by kernel_rfl) h
theorem Apn(K:KK)(t0:LB)(t1:Int)(t2r:LL)(t7:Int)(h:
 (Uo t0 t1 t2r t7 K)):T9 K .normal ⟨[(0,As t0),(1,Ai t1),(2,Al 1 t2r),(7,Ai t7)],[]⟩:=kr (by kernel_rfl) h
theorem Apw(K:KK)(t7:Int)(h:
 (K (.exit 0) ⟨[(7,Ai t7)],[]⟩)):Ud K (.exit 0) ⟨[(7,Ai t7)],[]⟩:=kr (by kernel_rfl) h
theorem Ap0(K:KK)(t0:LB)(t1:Int)(t2r:LL)(t7:Int)(h:
 (Ahu t0 t1 t2r t7 (T9 K))):Aa4 K (.exit (1)) ⟨[(0,As t0),(1,Ai t1),(2,Al 1 t2r),(7,Ai t7)],[]⟩:=kr (by kernel_rfl) h
theorem Aph(K:KK)(t7:Int)(h:
 (Ahf t7 (Ud K))):Aa4 K (.exit (2)) ⟨[(7,Ai t7)],[]⟩:=kr (by kernel_rfl) h
theorem Axu:Bt E0.P 102 ac_octet_Span.code Ca [.tmp 6]:=Bl _ _ Try.f102 [(1,[0,1,2,7],[]),(7,[0,1,2,7],[]),(9,[7],[]),(12,[0,1,2,7,22,23,24],[]),(14,[7],[]),(18,[0,1,2,7],[]),(20,[7],[0,1,2,7]),(21,[7],[]),(22,[0,1,2,7],[0,1,2,7]),(23,[7],[])] [6] _ 38 Try.func102 (by kernel_rfl) (by kernel_rfl) (by kernel_rfl) (by kernel_rfl)
theorem Au0(a0:LB)(a1:Int)(a2:LL)(Q:QQ)(h:
 (Call E0.P R8 [As a0,Ai a1] [] fun r0 g0=>
 Ao (qP0 g0 r0)
 (Br (!rB r0)
 (Q (Ai 0) [])
 (Uo a0 a1 a2 ((0:Int)) (Aa5 Q))))):Call E0.P Rk [As a0,Ai a1,Al 1 a2] [] Q:=Bd (Au E0 Ca) (Ba Ca) 3 0 102 ac_octet_Span [.tmp 6] Axu _ _ Q rfl rfl (kr (by kernel_rfl) h)
noncomputable def ac_octet_Ends:AC:=(Bf [] [4] (codeOf Try.f103) 0).1
abbrev Acf:Nat:=33
theorem Ayi:Bt E0.P 103 ac_octet_Ends.code Acf [.tmp 4]:=Bl _ _ Try.f103 [] [4] _ 33 Try.func103 (by kernel_rfl) (by kernel_rfl) (by kernel_rfl) (by kernel_rfl)
theorem Asy(a0:LB)(a1:Int)(Q:QQ)(h:
 (Call E0.P R8 [As a0,Ai a1] [] fun r0 g0=>
 Ao (qP0 g0 r0)
 (Br (!rB r0)
 (Q (Ai 0) [])
 (Ao ((0:Int)≤a1∧a1<(↑a0.length:Int))
 (Br (decide ((↑(a0.getD a1.toNat 0).toNat:Int)=(10:Int)))
 (Q (Ai 1) [])
 (Ao ((0:Int)≤a1∧a1<(↑a0.length:Int))
 (Br (!decide ((↑(a0.getD a1.toNat 0).toNat:Int)=(13:Int)))
 (Q (Ai 0) [])
 (Ao (decide (IntKind.i64.wrap (a1+(1:Int))<(↑a0.length:Int))=true→
 (0:Int)≤IntKind.i64.wrap (a1+(1:Int))∧IntKind.i64.wrap (a1+(1:Int))<(↑a0.length:Int))
 (Let (bif decide (IntKind.i64.wrap (a1+(1:Int))<(↑a0.length:Int))then
 decide ((↑(a0.getD (IntKind.i64.wrap (a1+(1:Int))).toNat 0).toNat:Int)=(10:Int))
 else false) fun x1=>
 Br (x1)
 (Q (Ai 2) [])
 (Q (Ai 1) [])))))))))):Call E0.P Nw [As a0,Ai a1] [] Q:=Bd (Au E0 Acf) (Ba Acf) 3 0 103 ac_octet_Ends [.tmp 4] Ayi _ _ Q rfl rfl (kr (by kernel_rfl) h)
noncomputable def ac_token_scanner_name:AC:=(Bf [(3,[0,2,4,5],[]),(5,[0,2],[]),(6,[0,2,4],[0,2,4,5]),(12,[0,2,4],[0,2]),(16,[0,2],[0,2,4,5]),(17,[0,2],[])] [2,3] (codeOf Try.f105) 0).1
abbrev Bi:Nat:=71
def Ez(t4:Int)(t5:Bool)(u0:LB)(u1 u2 u3:Int)(u4:LB)(u5 u6:Int)(u7:LL)(K:KK):Prop:=Bj 3 E0.P Bi (Az 3 ac_token_scanner_name).code ⟨[(0, .ptr Ae 0),(2, .ptr nL2 0),(4, .imm (.int .u8 t4)),(5,Ab t5)],[(Ae, .blk Ac [As u0,Ai u1, .own Av]),(nL2, .blk Aq [Ai u2,Ai u3,As u4,Ai u5,Ai u6]),(Av, .arr (Ap+2) true 1 u7)]⟩ K
def O0(t4:Int)(u0:LB)(u1 u2 u3:Int)(u4:LB)(u5 u6:Int)(u7:LL)(K:KK):Prop:=Ar 6 E0.P Bi (Af 6 ac_token_scanner_name).code ⟨[(0, .ptr Ae 0),(2, .ptr nL2 0),(4, .imm (.int .u8 t4))],[(Ae, .blk Ac [As u0,Ai u1, .own Av]),(nL2, .blk Aq [Ai u2,Ai u3,As u4,Ai u5,Ai u6]),(Av, .arr (Ap+2) true 1 u7)]⟩ K
def Jy(t4:Int)(u0:LB)(u1 u2 u3:Int)(u4:LB)(u5 u6:Int)(u7:LL)(K:KK):Prop:=Ar 12 E0.P Bi (Af 12 ac_token_scanner_name).code ⟨[(0, .ptr Ae 0),(2, .ptr nL2 0),(4, .imm (.int .u8 t4))],[(Ae, .blk Ac [As u0,Ai u1, .own Av]),(nL2, .blk Aq [Ai u2,Ai u3,As u4,Ai u5,Ai u6]),(Av, .arr (Ap+2) true 1 u7)]⟩ K
def U9(u0:LB)(u1 u2 u3:Int)(u4:LB)(u5 u6:Int)(u7:LL)(K:KK):Prop:=Ar 17 E0.P Bi (Af 17 ac_token_scanner_name).code ⟨[(0, .ptr Ae 0),(2, .ptr nL2 0)],[(Ae, .blk Ac [As u0,Ai u1, .own Av]),(nL2, .blk Aq [Ai u2,Ai u3,As u4,Ai u5,Ai u6]),(Av, .arr (Ap+2) true 1 u7)]⟩ K
def Nt(u0:LB)(u1 u2 u3:Int)(u4:LB)(u5 u6:Int)(u7:LL)(K:KK):Prop:=Ar 16 E0.P Bi (Af 16 ac_token_scanner_name).code ⟨[(0, .ptr Ae 0),(2, .ptr nL2 0)],[(Ae, .blk Ac [As u0,Ai u1, .own Av]),(nL2, .blk Aq [Ai u2,Ai u3,As u4,Ai u5,Ai u6]),(Av, .arr (Ap+2) true 1 u7)]⟩ K
def O4(s:LB)(at_:Int)(out:LL)(Q:QQ):KK:=kE fun st=>finish 0 E0.T [.cell 2 95, .tmp 3] [(Ae, .blk Ac [As s,Ai at_, .own Av]),(Av, .arr (Ap+2) true 1 out)] Q st
def Dl(s:LB)(at_:Int)(out:LL)(Q:QQ):KK:=kF 0 (fun st=>Ar 17 E0.P Bi (Af 17 ac_token_scanner_name).code (mask [0,2] st) (O4 s at_ out Q)) fun st=>finish 0 E0.T [.cell 2 95, .tmp 3] [(Ae, .blk Ac [As s,Ai at_, .own Av]),(Av, .arr (Ap+2) true 1 out)] Q st
def Gf(K:KK):Ex→St→Prop
 | .normal,st=>Bj 3 E0.P Bi (Az 3 ac_token_scanner_name).code (mask [0,2,4,5] st) K
 | .exit i,st=>K (.exit i) st
 | .goto i,st=>K (.goto i) st
 | .ret,st=>K .ret st
def Kh(K:KK):KK:=kP [0,2,4,5] K
def H5(K:KK):KK:=kC 1 (fun st=>Ar 16 E0.P Bi (Af 16 ac_token_scanner_name).code (mask [0,2] st) (Kh K)) K
theorem Sd(t4:Int)(t5:Bool)(u0:LB)(u1 u2 u3:Int)(u4:LB)(u5 u6:Int)(u7:LL)(K:KK)(h:
 (Br (t5 == true)
 (Call E0.P Nz [.imm (.int .u8 t4)] [] fun r0 g0=>
 Ao (Mv g0 r0)
 (Let (decide (rI r0=(2:Int))) fun x1=>
 Br (x1)
 (O0 t4 u0 u1 u2 u3 u4 u5 u6 u7 (Gf K))
 (K (.exit 0) ⟨[(0, .ptr Ae 0),(2, .ptr nL2 0)],[(Ae, .blk Ac [As u0,Ai u1, .own Av]),(nL2, .blk Aq [Ai u2,Ai u3,As u4,Ai u5,Ai u6]),(Av, .arr (Ap+2) true 1 u7)]⟩)))
 (Ao ((!true)=false)
 (Let (false) fun x2=>
 Br (x2)
 (O0 t4 u0 u1 u2 u3 u4 u5 u6 u7 (Gf K))
 (K (.exit 0) ⟨[(0, .ptr Ae 0),(2, .ptr nL2 0)],[(Ae, .blk Ac [As u0,Ai u1, .own Av]),(nL2, .blk Aq [Ai u2,Ai u3,As u4,Ai u5,Ai u6]),(Av, .arr (Ap+2) true 1 u7)]⟩))))):Ez t4 t5 u0 u1 u2 u3 u4 u5 u6 u7 K:=Bo (Au E0 Bi) (Ba Bi) 3 3 (Az 3 ac_token_scanner_name) [0,2,4,5] _ K rfl (kr (by kernel_rfl) h)
theorem Aea(t4:Int)(u0:LB)(u1 u2 u3:Int)(u4:LB)(u5 u6:Int)(u7:LL)(K:KK)(h:
 (Br (decide (t4=(35:Int)))
 (Call E0.P G6 [.ptr Ae 0] [(Ae, .blk Ac [As u0,Ai (IntKind.i64.wrap (u1+(1:Int))), .own Av]),(Av, .arr (Ap+2) true 1 u7)] fun r0 g0=>
 Ao (g0=
 [(Nm.arg 0,
 Entry.blk 128
 [.imm (.str (rS ((Aw g0 Ae).getD 0 AV.undef))),
 .imm (.int .i64 (rI ((Aw g0 Ae).getD 1 AV.undef))),
 AV.own Av]),
 (Nm.arg 1,Entry.arr 7 true 1 (Cz g0 Av))]∧
 r0= .tup [.imm (.int .u8 (rI (rT r0 0))), .imm (.bool (rB (rT r0 1)))])
 (Br (!rB (rT r0 1))
 (K .ret ⟨[(2, .ptr nL2 0),(3,Ai 4)],[(nL2, .blk Aq [Ai 0,Ai 0, .imm (.str []),Ai 0,Ai 0]),(Ae, .blk Ac [.imm (.str (rS ((Aw g0 Ae).getD 0 AV.undef))), .imm (.int .i64 (rI ((Aw g0 Ae).getD 1 AV.undef))), .own Av]),(Av, .arr (Ap+2) true 1 (Cz g0 Av))]⟩)
 (Jy (rI (rT r0 0)) (rS ((Aw g0 Ae).getD 0 AV.undef)) (rI ((Aw g0 Ae).getD 1 AV.undef)) u2 u3 u4 u5 u6 (Cz g0 Av) (H5 K))))
 (Jy t4 u0 (IntKind.i64.wrap (u1+(1:Int))) u2 u3 u4 u5 u6 u7 (H5 K)))):O0 t4 u0 u1 u2 u3 u4 u5 u6 u7 K:=Ay (Au E0 Bi) (Ba Bi) 3 6 (Af 6 ac_token_scanner_name) [0,2,4,5] _ K rfl (kr (by kernel_rfl) h)
theorem Acr(t4:Int)(u0:LB)(u1 u2 u3:Int)(u4:LB)(u5 u6:Int)(u7:LL)(K:KK)(h:
 (Ao ((u7.length+1)*1≤140737488355328∧u7.length+1≤140737488355328)
 (Br (decide ((127:Int)<(↑(u7++[[IV.int .u8 t4]]).length:Int)))
 (K .ret ⟨[(2, .ptr nL2 0),(3,Ai 8)],[(nL2, .blk Aq [Ai 0,Ai 0, .imm (.str []),Ai 0,Ai 0]),(Ae, .blk Ac [As u0,Ai u1, .own Av]),(Av, .arr (Ap+2) true 1 (u7++[[IV.int .u8 t4]]))]⟩)
 (K .normal ⟨[(0, .ptr Ae 0),(2, .ptr nL2 0)],[(Ae, .blk Ac [As u0,Ai u1, .own Av]),(nL2, .blk Aq [Ai u2,Ai u3,As u4,Ai u5,Ai u6]),(Av, .arr (Ap+2) true 1 (u7++[[IV.int .u8 t4]]))]⟩)))):Jy t4 u0 u1 u2 u3 u4 u5 u6 u7 K:=Ay (Au E0 Bi) (Ba Bi) 3 12 (Af 12 ac_token_scanner_name) [0,2] _ K rfl (kr (by kernel_rfl) h)
theorem Ac4(u0:LB)(u1 u2 u3:Int)(u4:LB)(u5 u6:Int)(u7:LL)(K:KK)(h:
 (Ao (∀(r:List IV),r∈u7→Ch [.int .u8] r=true)
 (K .ret ⟨[(2, .ptr nL2 0),(3,Ai 0)],[(nL2, .blk Aq [Ai 2,Ai 0,As (List.map (fun r=>UInt8.ofNat (gI r 0).toNat) u7),Ai 0,Ai 0]),(Ae, .blk Ac [As u0,Ai u1, .own Av]),(Av, .arr (Ap+2) true 1 u7)]⟩))):U9 u0 u1 u2 u3 u4 u5 u6 u7 K:=Ay (Au E0 Bi) (Ba Bi) 3 17 (Af 17 ac_token_scanner_name) [] _ K rfl (kr (by kernel_rfl) h)
theorem Acd(u0:LB)(u1 u2 u3:Int)(u4:LB)(u5 u6:Int)(u7:LL)(K:KK)(h:
 (Br (decide ((↑u0.length:Int)≤u1))
 (K .normal ⟨[(0, .ptr Ae 0),(2, .ptr nL2 0),(4, .imm (.int .u8 ((0:Int)))),(5,Ab false)],[(Ae, .blk Ac [As u0,Ai u1, .own Av]),(nL2, .blk Aq [Ai u2,Ai u3,As u4,Ai u5,Ai u6]),(Av, .arr (Ap+2) true 1 u7)]⟩)
 (Ao ((0:Int)≤u1∧u1<(↑u0.length:Int))
 (K .normal ⟨[(0, .ptr Ae 0),(2, .ptr nL2 0),(4, .imm (.int .u8 ((↑(u0.getD u1.toNat 0).toNat:Int)))),(5,Ab true)],[(Ae, .blk Ac [As u0,Ai u1, .own Av]),(nL2, .blk Aq [Ai u2,Ai u3,As u4,Ai u5,Ai u6]),(Av, .arr (Ap+2) true 1 u7)]⟩)))):Nt u0 u1 u2 u3 u4 u5 u6 u7 K:=Ay (Au E0 Bi) (Ba Bi) 3 16 (Af 16 ac_token_scanner_name) [0,2,4,5] _ K rfl (kr (by kernel_rfl) h)
theorem Aef(s:LB)(at_:Int)(out:LL)(Q:QQ)(t3 u0 u1:Int)(u2:LB)(u3 u4:Int)(u5:LB)(u6:Int)(u7:LL)(h:
 (Q (.tup [.imm (.agg [.int .i64 u0, .int .i64 u1, .str u2, .int .i64 u3, .int .i64 u4]),Ai t3]) [(Ae, .blk Ac [As u5,Ai u6, .own Av]),(Av, .arr (Ap+2) true 1 u7)])):O4 s at_ out Q .ret ⟨[(2, .ptr nL2 0),(3,Ai t3)],[(nL2, .blk Aq [Ai u0,Ai u1,As u2,Ai u3,Ai u4]),(Ae, .blk Ac [As u5,Ai u6, .own Av]),(Av, .arr (Ap+2) true 1 u7)]⟩:=kr (by kernel_rfl) h
theorem Ad9(s:LB)(at_:Int)(out:LL)(Q:QQ)(u0:LB)(u1 u2 u3:Int)(u4:LB)(u5 u6:Int)(u7:LL)(h:
 (U9 u0 u1 u2 u3 u4 u5 u6 u7 (O4 s at_ out Q))):Dl s at_ out Q (.exit 0) ⟨[(0, .ptr Ae 0),(2, .ptr nL2 0)],[(Ae, .blk Ac [As u0,Ai u1, .own Av]),(nL2, .blk Aq [Ai u2,Ai u3,As u4,Ai u5,Ai u6]),(Av, .arr (Ap+2) true 1 u7)]⟩:=kr (by kernel_rfl) h
theorem Ad7(s:LB)(at_:Int)(out:LL)(Q:QQ)(t3 u0 u1:Int)(u2:LB)(u3 u4:Int)(u5:LB)(u6:Int)(u7:LL)(h:
 (Q (.tup [.imm (.agg [.int .i64 u0, .int .i64 u1, .str u2, .int .i64 u3, .int .i64 u4]),Ai t3]) [(Ae, .blk Ac [As u5,Ai u6, .own Av]),(Av, .arr (Ap+2) true 1 u7)])):Dl s at_ out Q .ret ⟨[(2, .ptr nL2 0),(3,Ai t3)],[(nL2, .blk Aq [Ai u0,Ai u1,As u2,Ai u3,Ai u4]),(Ae, .blk Ac [As u5,Ai u6, .own Av]),(Av, .arr (Ap+2) true 1 u7)]⟩:=kr (by kernel_rfl) h
theorem Lu(K:KK)(t3 u0 u1:Int)(u2:LB)(u3 u4:Int)(u5:LB)(u6:Int)(u7:LL)(h:
 (K .ret ⟨[(2, .ptr nL2 0),(3,Ai t3)],[(nL2, .blk Aq [Ai u0,Ai u1,As u2,Ai u3,Ai u4]),(Ae, .blk Ac [As u5,Ai u6, .own Av]),(Av, .arr (Ap+2) true 1 u7)]⟩)):Gf K .ret ⟨[(2, .ptr nL2 0),(3,Ai t3)],[(nL2, .blk Aq [Ai u0,Ai u1,As u2,Ai u3,Ai u4]),(Ae, .blk Ac [As u5,Ai u6, .own Av]),(Av, .arr (Ap+2) true 1 u7)]⟩:=kr (by kernel_rfl) h
theorem Sg(K:KK)(t4:Int)(t5:Bool)(u0:LB)(u1 u2 u3:Int)(u4:LB)(u5 u6:Int)(u7:LL)(h:
 (Ez t4 t5 u0 u1 u2 u3 u4 u5 u6 u7 K)):Gf K .normal ⟨[(0, .ptr Ae 0),(2, .ptr nL2 0),(4, .imm (.int .u8 t4)),(5,Ab t5)],[(Ae, .blk Ac [As u0,Ai u1, .own Av]),(nL2, .blk Aq [Ai u2,Ai u3,As u4,Ai u5,Ai u6]),(Av, .arr (Ap+2) true 1 u7)]⟩:=kr (by kernel_rfl) h
theorem Sa(K:KK)(t4:Int)(t5:Bool)(u0:LB)(u1 u2 u3:Int)(u4:LB)(u5 u6:Int)(u7:LL)(h:
 (K .normal ⟨[(0, .ptr Ae 0),(2, .ptr nL2 0),(4, .imm (.int .u8 t4)),(5,Ab t5)],[(Ae, .blk Ac [As u0,Ai u1, .own Av]),(nL2, .blk Aq [Ai u2,Ai u3,As u4,Ai u5,Ai u6]),(Av, .arr (Ap+2) true 1 u7)]⟩)):Kh K .normal ⟨[(0, .ptr Ae 0),(2, .ptr nL2 0),(4, .imm (.int .u8 t4)),(5,Ab t5)],[(Ae, .blk Ac [As u0,Ai u1, .own Av]),(nL2, .blk Aq [Ai u2,Ai u3,As u4,Ai u5,Ai u6]),(Av, .arr (Ap+2) true 1 u7)]⟩:=kr (by kernel_rfl) h
theorem Aeb(K:KK)(t3 u0 u1:Int)(u2:LB)(u3 u4:Int)(u5:LB)(u6:Int)(u7:LL)(h:
 (K .ret ⟨[(2, .ptr nL2 0),(3,Ai t3)],[(nL2, .blk Aq [Ai u0,Ai u1,As u2,Ai u3,Ai u4]),(Ae, .blk Ac [As u5,Ai u6, .own Av]),(Av, .arr (Ap+2) true 1 u7)]⟩)):H5 K .ret ⟨[(2, .ptr nL2 0),(3,Ai t3)],[(nL2, .blk Aq [Ai u0,Ai u1,As u2,Ai u3,Ai u4]),(Ae, .blk Ac [As u5,Ai u6, .own Av]),(Av, .arr (Ap+2) true 1 u7)]⟩:=kr (by kernel_rfl) h
theorem Ad1(K:KK)(u0:LB)(u1 u2 u3:Int)(u4:LB)(u5 u6:Int)(u7:LL)(h:
 (Nt u0 u1 u2 u3 u4 u5 u6 u7 (Kh K))):H5 K .normal ⟨[(0, .ptr Ae 0),(2, .ptr nL2 0)],[(Ae, .blk Ac [As u0,Ai u1, .own Av]),(nL2, .blk Aq [Ai u2,Ai u3,As u4,Ai u5,Ai u6]),(Av, .arr (Ap+2) true 1 u7)]⟩:=kr (by kernel_rfl) h
theorem Ajl:Bt E0.P 105 ac_token_scanner_name.code Bi [.cell 2 95, .tmp 3]:=Bl _ _ Try.f105 [(3,[0,2,4,5],[]),(5,[0,2],[]),(6,[0,2,4],[0,2,4,5]),(12,[0,2,4],[0,2]),(16,[0,2],[0,2,4,5]),(17,[0,2],[])] [2,3] _ 71 Try.func105 (by kernel_rfl) (by kernel_rfl) (by kernel_rfl) (by kernel_rfl)
theorem Ag6(s:LB)(at_:Int)(out:LL)(Q:QQ)(h:
 (Br (decide ((↑s.length:Int)≤IntKind.i64.wrap (at_+(1:Int))))
 (Ez ((0:Int)) false s (IntKind.i64.wrap (at_+(1:Int))) ((0:Int)) ((0:Int)) [] ((0:Int)) ((0:Int)) out (Dl s at_ out Q))
 (Ao ((0:Int)≤IntKind.i64.wrap (at_+(1:Int))∧IntKind.i64.wrap (at_+(1:Int))<(↑s.length:Int))
 (Ez ((↑(s.getD (IntKind.i64.wrap (at_+(1:Int))).toNat 0).toNat:Int)) true s (IntKind.i64.wrap (at_+(1:Int))) ((0:Int)) ((0:Int)) [] ((0:Int)) ((0:Int)) out (Dl s at_ out Q))))):Call E0.P P8 [.ptr (.arg 0) 0] [(.arg 0, .blk Ac [.imm (.str s), .imm (.int .i64 at_), .own (.arg 1)]),(.arg 1, .arr (Ap+2) true 1 out)] Q:=Bd (Au E0 Bi) (Ba Bi) 3 0 105 ac_token_scanner_name [.cell 2 95, .tmp 3] Ajl _ _ Q rfl rfl (kr (by kernel_rfl) h)
noncomputable def ac_token_scanner_text:AC:=(Bf [(1,[0,2,4],[]),(5,[0,2,4],[]),(7,[2],[]),(15,[2],[]),(20,[0,2,4],[]),(23,[0,2,4,5],[0,2,4]),(30,[2],[])] [2,3] (codeOf Try.f106) 0).1
abbrev Bv:Nat:=107
def H6(t4:Int)(u0:LB)(u1 u2 u3:Int)(u4:LB)(u5 u6:Int)(u7:LL)(K:KK):Prop:=Bj 5 E0.P Bv (Az 5 ac_token_scanner_text).code ⟨[(0, .ptr Ae 0),(2, .ptr nL2 0),(4,Ai t4)],[(Ae, .blk Ac [As u0,Ai u1, .own Av]),(nL2, .blk Aq [Ai u2,Ai u3,As u4,Ai u5,Ai u6]),(Av, .arr (Ap+2) true 1 u7)]⟩ K
def Fw(t4 t5:Int)(u0:LB)(u1 u2 u3:Int)(u4:LB)(u5 u6:Int)(u7:LL)(K:KK):Prop:=Ar 23 E0.P Bv (Af 23 ac_token_scanner_text).code ⟨[(0, .ptr Ae 0),(2, .ptr nL2 0),(4,Ai t4),(5, .imm (.int .u8 t5))],[(Ae, .blk Ac [As u0,Ai u1, .own Av]),(nL2, .blk Aq [Ai u2,Ai u3,As u4,Ai u5,Ai u6]),(Av, .arr (Ap+2) true 1 u7)]⟩ K
def Ve(u0 u1:Int)(u2:LB)(u3 u4:Int)(u5:LB)(u6:Int)(u7:LL)(K:KK):Prop:=Ar 30 E0.P Bv (Af 30 ac_token_scanner_text).code ⟨[(2, .ptr nL2 0)],[(nL2, .blk Aq [Ai u0,Ai u1,As u2,Ai u3,Ai u4]),(Ae, .blk Ac [As u5,Ai u6, .own Av]),(Av, .arr (Ap+2) true 1 u7)]⟩ K
def Vx(s:LB)(at_:Int)(out:LL)(Q:QQ):KK:=kE fun st=>finish 0 E0.T [.cell 2 95, .tmp 3] [(Ae, .blk Ac [As s,Ai at_, .own Av]),(Av, .arr (Ap+2) true 1 out)] Q st
def Ki(s:LB)(at_:Int)(out:LL)(Q:QQ):Ex→St→Prop
 | .normal,st=>finish 0 E0.T [.cell 2 95, .tmp 3] [(Ae, .blk Ac [As s,Ai at_, .own Av]),(Av, .arr (Ap+2) true 1 out)] Q st
 | .exit _,_=>False
 | .goto i,st=>Jh 1 E0.P Bv i (J3 1 ac_token_scanner_text).code (mask [0,2,4] st) (Vx s at_ out Q)
 | .ret,st=>finish 0 E0.T [.cell 2 95, .tmp 3] [(Ae, .blk Ac [As s,Ai at_, .own Av]),(Av, .arr (Ap+2) true 1 out)] Q st
def Gg(s:LB)(at_:Int)(out:LL)(Q:QQ):Ex→St→Prop
 | .normal,st=>Ar 30 E0.P Bv (Af 30 ac_token_scanner_text).code (mask [2] st) (Ki s at_ out Q)
 | .exit i,st=>(match (i.beq 0:Bool)with
 |true=>Ar 30 E0.P Bv (Af 30 ac_token_scanner_text).code (mask [2] st) (Ki s at_ out Q)
 |false=>False)
 | .goto i,st=>Jh 1 E0.P Bv i (J3 1 ac_token_scanner_text).code (mask [0,2,4] st) (Vx s at_ out Q)
 | .ret,st=>finish 0 E0.T [.cell 2 95, .tmp 3] [(Ae, .blk Ac [As s,Ai at_, .own Av]),(Av, .arr (Ap+2) true 1 out)] Q st
def Ey(K:KK):KK:=kC 1 (fun st=>Bj 5 E0.P Bv (Az 5 ac_token_scanner_text).code (mask [0,2,4] st) K) K
theorem R7(t4:Int)(u0:LB)(u1 u2 u3:Int)(u4:LB)(u5 u6:Int)(u7:LL)(K:KK)(h:
 (Br (decide (u1<(↑u0.length:Int)))
 (Ao ((0:Int)≤u1∧u1<(↑u0.length:Int))
 (Call E0.P Nw [As u0,Ai u1] [] fun r0 g0=>
 Ao (Mv g0 r0)
 (Br (decide ((0:Int)<rI r0))
 (Fw t4 ((10:Int)) u0 (IntKind.i64.wrap (u1+if rI r0>(1:Int)then rI r0 else(1:Int))) u2 u3 u4 u5 u6 u7 (Ey K))
 (Br (decide ((↑(u0.getD u1.toNat 0).toNat:Int)=(92:Int)))
 (Call E0.P Jv [.ptr Ae 0] [(Ae, .blk Ac [As u0,Ai (IntKind.i64.wrap (u1+if rI r0>(1:Int)then rI r0 else(1:Int))), .own Av]),(Av, .arr (Ap+2) true 1 u7)] fun r1 g1=>
 Ao (g1=
 [(Nm.arg 0,
 Entry.blk 128
 [.imm (.str (rS ((Aw g1 Ae).getD 0 AV.undef))),
 .imm (.int .i64 (rI ((Aw g1 Ae).getD 1 AV.undef))),
 AV.own Av]),
 (Nm.arg 1,Entry.arr 7 true 1 (Cz g1 Av))]∧
 r1= .imm (.bool (rB r1)))
 (Br (!rB r1)
 (K (.exit 0) ⟨[(2, .ptr nL2 0)],[(nL2, .blk Aq [Ai u2,Ai u3,As u4,Ai u5,Ai u6]),(Ae, .blk Ac [.imm (.str (rS ((Aw g1 Ae).getD 0 AV.undef))), .imm (.int .i64 (rI ((Aw g1 Ae).getD 1 AV.undef))), .own Av]),(Av, .arr (Ap+2) true 1 (Cz g1 Av))]⟩)
 (Br (decide ((65535:Int)<(↑(Cz g1 Av).length:Int)))
 (K .ret ⟨[(2, .ptr nL2 0),(3,Ai 8)],[(nL2, .blk Aq [Ai 0,Ai 0, .imm (.str []),Ai 0,Ai 0]),(Ae, .blk Ac [.imm (.str (rS ((Aw g1 Ae).getD 0 AV.undef))), .imm (.int .i64 (rI ((Aw g1 Ae).getD 1 AV.undef))), .own Av]),(Av, .arr (Ap+2) true 1 (Cz g1 Av))]⟩)
 (H6 t4 (rS ((Aw g1 Ae).getD 0 AV.undef)) (rI ((Aw g1 Ae).getD 1 AV.undef)) u2 u3 u4 u5 u6 (Cz g1 Av) K))))
 (Br (decide ((↑(u0.getD u1.toNat 0).toNat:Int)=(40:Int)))
 (Fw (IntKind.i64.wrap (t4+(1:Int))) ((↑(u0.getD u1.toNat 0).toNat:Int)) u0 (IntKind.i64.wrap (u1+if rI r0>(1:Int)then rI r0 else(1:Int))) u2 u3 u4 u5 u6 u7 (Ey K))
 (Br (decide ((↑(u0.getD u1.toNat 0).toNat:Int)=(41:Int)))
 (Fw (IntKind.i64.wrap (t4 - (1:Int))) ((↑(u0.getD u1.toNat 0).toNat:Int)) u0 (IntKind.i64.wrap (u1+if rI r0>(1:Int)then rI r0 else(1:Int))) u2 u3 u4 u5 u6 u7 (Ey K))
 (Fw t4 ((↑(u0.getD u1.toNat 0).toNat:Int)) u0 (IntKind.i64.wrap (u1+if rI r0>(1:Int)then rI r0 else(1:Int))) u2 u3 u4 u5 u6 u7 (Ey K))))))))
 (K (.exit 0) ⟨[(2, .ptr nL2 0)],[(nL2, .blk Aq [Ai u2,Ai u3,As u4,Ai u5,Ai u6]),(Ae, .blk Ac [As u0,Ai u1, .own Av]),(Av, .arr (Ap+2) true 1 u7)]⟩))):H6 t4 u0 u1 u2 u3 u4 u5 u6 u7 K:=Bo (Au E0 Bv) (Ba Bv) 3 5 (Az 5 ac_token_scanner_text) [0,2,4] _ K rfl (kr (by kernel_rfl) h)
theorem Re(t4 t5:Int)(u0:LB)(u1 u2 u3:Int)(u4:LB)(u5 u6:Int)(u7:LL)(K:KK)(h:
 (Br (decide (t4=(0:Int)))
 (Ao (∀(r:List IV),r∈u7→Ch [.int .u8] r=true)
 (K .ret ⟨[(2, .ptr nL2 0),(3,Ai 0)],[(nL2, .blk Aq [Ai 3,Ai 0,As (List.map (fun r=>UInt8.ofNat (gI r 0).toNat) u7),Ai 0,Ai 0]),(Ae, .blk Ac [As u0,Ai u1, .own Av]),(Av, .arr (Ap+2) true 1 u7)]⟩))
 (Ao ((u7.length+1)*1≤140737488355328∧u7.length+1≤140737488355328)
 (Br (decide ((65535:Int)<(↑(u7++[[IV.int .u8 t5]]).length:Int)))
 (K .ret ⟨[(2, .ptr nL2 0),(3,Ai 8)],[(nL2, .blk Aq [Ai 0,Ai 0, .imm (.str []),Ai 0,Ai 0]),(Ae, .blk Ac [As u0,Ai u1, .own Av]),(Av, .arr (Ap+2) true 1 (u7++[[IV.int .u8 t5]]))]⟩)
 (K .normal ⟨[(0, .ptr Ae 0),(2, .ptr nL2 0),(4,Ai t4)],[(Ae, .blk Ac [As u0,Ai u1, .own Av]),(nL2, .blk Aq [Ai u2,Ai u3,As u4,Ai u5,Ai u6]),(Av, .arr (Ap+2) true 1 (u7++[[IV.int .u8 t5]]))]⟩))))):Fw t4 t5 u0 u1 u2 u3 u4 u5 u6 u7 K:=Ay (Au E0 Bv) (Ba Bv) 3 23 (Af 23 ac_token_scanner_text) [0,2,4] _ K rfl (kr (by kernel_rfl) h)
theorem Acm(u0 u1:Int)(u2:LB)(u3 u4:Int)(u5:LB)(u6:Int)(u7:LL)(K:KK)(h:
 (K .ret ⟨[(2, .ptr nL2 0),(3,Ai 5)],[(nL2, .blk Aq [Ai 0,Ai 0, .imm (.str []),Ai 0,Ai 0]),(Ae, .blk Ac [As u5,Ai u6, .own Av]),(Av, .arr (Ap+2) true 1 u7)]⟩)):Ve u0 u1 u2 u3 u4 u5 u6 u7 K:=Ay (Au E0 Bv) (Ba Bv) 3 30 (Af 30 ac_token_scanner_text) [] _ K rfl (kr (by kernel_rfl) h)
theorem Aem(s:LB)(at_:Int)(out:LL)(Q:QQ)(t3 u0 u1:Int)(u2:LB)(u3 u4:Int)(u5:LB)(u6:Int)(u7:LL)(h:
 (Q (.tup [.imm (.agg [.int .i64 u0, .int .i64 u1, .str u2, .int .i64 u3, .int .i64 u4]),Ai t3]) [(Ae, .blk Ac [As u5,Ai u6, .own Av]),(Av, .arr (Ap+2) true 1 u7)])):Ki s at_ out Q .ret ⟨[(2, .ptr nL2 0),(3,Ai t3)],[(nL2, .blk Aq [Ai u0,Ai u1,As u2,Ai u3,Ai u4]),(Ae, .blk Ac [As u5,Ai u6, .own Av]),(Av, .arr (Ap+2) true 1 u7)]⟩:=kr (by kernel_rfl) h
theorem Aek(s:LB)(at_:Int)(out:LL)(Q:QQ)(u0 u1:Int)(u2:LB)(u3 u4:Int)(u5:LB)(u6:Int)(u7:LL)(h:
 (Ve u0 u1 u2 u3 u4 u5 u6 u7 (Ki s at_ out Q))):Gg s at_ out Q (.exit 0) ⟨[(2, .ptr nL2 0)],[(nL2, .blk Aq [Ai u0,Ai u1,As u2,Ai u3,Ai u4]),(Ae, .blk Ac [As u5,Ai u6, .own Av]),(Av, .arr (Ap+2) true 1 u7)]⟩:=kr (by kernel_rfl) h
theorem Lx(s:LB)(at_:Int)(out:LL)(Q:QQ)(t3 u0 u1:Int)(u2:LB)(u3 u4:Int)(u5:LB)(u6:Int)(u7:LL)(h:
 (Q (.tup [.imm (.agg [.int .i64 u0, .int .i64 u1, .str u2, .int .i64 u3, .int .i64 u4]),Ai t3]) [(Ae, .blk Ac [As u5,Ai u6, .own Av]),(Av, .arr (Ap+2) true 1 u7)])):Gg s at_ out Q .ret ⟨[(2, .ptr nL2 0),(3,Ai t3)],[(nL2, .blk Aq [Ai u0,Ai u1,As u2,Ai u3,Ai u4]),(Ae, .blk Ac [As u5,Ai u6, .own Av]),(Av, .arr (Ap+2) true 1 u7)]⟩:=kr (by kernel_rfl) h
theorem Sc(K:KK)(t3 u0 u1:Int)(u2:LB)(u3 u4:Int)(u5:LB)(u6:Int)(u7:LL)(h:
 (K .ret ⟨[(2, .ptr nL2 0),(3,Ai t3)],[(nL2, .blk Aq [Ai u0,Ai u1,As u2,Ai u3,Ai u4]),(Ae, .blk Ac [As u5,Ai u6, .own Av]),(Av, .arr (Ap+2) true 1 u7)]⟩)):Ey K .ret ⟨[(2, .ptr nL2 0),(3,Ai t3)],[(nL2, .blk Aq [Ai u0,Ai u1,As u2,Ai u3,Ai u4]),(Ae, .blk Ac [As u5,Ai u6, .own Av]),(Av, .arr (Ap+2) true 1 u7)]⟩:=kr (by kernel_rfl) h
theorem Aeg(K:KK)(t4:Int)(u0:LB)(u1 u2 u3:Int)(u4:LB)(u5 u6:Int)(u7:LL)(h:
 (H6 t4 u0 u1 u2 u3 u4 u5 u6 u7 K)):Ey K .normal ⟨[(0, .ptr Ae 0),(2, .ptr nL2 0),(4,Ai t4)],[(Ae, .blk Ac [As u0,Ai u1, .own Av]),(nL2, .blk Aq [Ai u2,Ai u3,As u4,Ai u5,Ai u6]),(Av, .arr (Ap+2) true 1 u7)]⟩:=kr (by kernel_rfl) h
theorem Ajz:Bt E0.P 106 ac_token_scanner_text.code Bv [.cell 2 95, .tmp 3]:=Bl _ _ Try.f106 [(1,[0,2,4],[]),(5,[0,2,4],[]),(7,[2],[]),(15,[2],[]),(20,[0,2,4],[]),(23,[0,2,4,5],[0,2,4]),(30,[2],[])] [2,3] _ 107 Try.func106 (by kernel_rfl) (by kernel_rfl) (by kernel_rfl) (by kernel_rfl)
theorem Ahc(s:LB)(at_:Int)(out:LL)(Q:QQ)(h:
 (H6 ((1:Int)) s (IntKind.i64.wrap (at_+(1:Int))) ((0:Int)) ((0:Int)) [] ((0:Int)) ((0:Int)) out (Gg s at_ out Q))):Call E0.P Pt [.ptr (.arg 0) 0] [(.arg 0, .blk Ac [.imm (.str s), .imm (.int .i64 at_), .own (.arg 1)]),(.arg 1, .arr (Ap+2) true 1 out)] Q:=Bd (Au E0 Bv) (Ba Bv) 3 0 106 ac_token_scanner_text [.cell 2 95, .tmp 3] Ajz _ _ Q rfl rfl (kr (by kernel_rfl) h)
noncomputable def ac_token_scanner_hex:AC:=(Bf [(5,[1,2,4,5,6,7],[]),(7,[2],[]),(19,[1,2,4,5],[1,2,4,5]),(22,[1,2,4,5],[1,2,4,5,6,7]),(23,[2],[])] [2,3] (codeOf Try.f108) 0).1
abbrev Bu:Nat:=75
def Fj(t6:Int)(t7:Bool)(u0 u1:Int)(u2:LB)(u3 u4 u5:Int)(u6:LB)(u7:Int)(u8:LL)(K:KK):Prop:=Bj 5 E0.P Bu (Az 5 ac_token_scanner_hex).code ⟨[(1, .ptr G8 0),(2, .ptr nL2 0),(4, .ptr nL4 0),(5, .fn D9 [.ptr nL4 0, .ptr G8 0]),(6, .imm (.int .u8 t6)),(7,Ab t7)],[(G8, .blk 126 [.ptr Ae 0]),(nL2, .blk Aq [Ai u0,Ai u1,As u2,Ai u3,Ai u4]),(nL4, .blk Vv [Ai u5]),(Ae, .blk Ac [As u6,Ai u7, .own Av]),(Av, .arr (Ap+2) true 1 u8)]⟩ K
def D8(u0 u1:Int)(u2:LB)(u3 u4 u5:Int)(u6:LB)(u7:Int)(u8:LL)(K:KK):Prop:=Ar 19 E0.P Bu (Af 19 ac_token_scanner_hex).code ⟨[(1, .ptr G8 0),(2, .ptr nL2 0),(4, .ptr nL4 0),(5, .fn D9 [.ptr nL4 0, .ptr G8 0])],[(G8, .blk 126 [.ptr Ae 0]),(nL2, .blk Aq [Ai u0,Ai u1,As u2,Ai u3,Ai u4]),(nL4, .blk Vv [Ai u5]),(Ae, .blk Ac [As u6,Ai u7, .own Av]),(Av, .arr (Ap+2) true 1 u8)]⟩ K
def Wi(u0 u1:Int)(u2:LB)(u3 u4:Int)(u5:LB)(u6:Int)(u7:LL)(K:KK):Prop:=Ar 23 E0.P Bu (Af 23 ac_token_scanner_hex).code ⟨[(2, .ptr nL2 0)],[(nL2, .blk Aq [Ai u0,Ai u1,As u2,Ai u3,Ai u4]),(Ae, .blk Ac [As u5,Ai u6, .own Av]),(Av, .arr (Ap+2) true 1 u7)]⟩ K
def V4(u0 u1:Int)(u2:LB)(u3 u4 u5:Int)(u6:LB)(u7:Int)(u8:LL)(K:KK):Prop:=Ar 22 E0.P Bu (Af 22 ac_token_scanner_hex).code ⟨[(1, .ptr G8 0),(2, .ptr nL2 0),(4, .ptr nL4 0),(5, .fn D9 [.ptr nL4 0, .ptr G8 0])],[(G8, .blk 126 [.ptr Ae 0]),(nL2, .blk Aq [Ai u0,Ai u1,As u2,Ai u3,Ai u4]),(nL4, .blk Vv [Ai u5]),(Ae, .blk Ac [As u6,Ai u7, .own Av]),(Av, .arr (Ap+2) true 1 u8)]⟩ K
def Pk(s:LB)(at_:Int)(out:LL)(Q:QQ):KK:=kE fun st=>finish 0 E0.T [.cell 2 95, .tmp 3] [(Ae, .blk Ac [As s,Ai at_, .own Av]),(Av, .arr (Ap+2) true 1 out)] Q st
def Dy(s:LB)(at_:Int)(out:LL)(Q:QQ):KK:=kF 0 (fun st=>Ar 23 E0.P Bu (Af 23 ac_token_scanner_hex).code (mask [2] st) (Pk s at_ out Q)) fun st=>finish 0 E0.T [.cell 2 95, .tmp 3] [(Ae, .blk Ac [As s,Ai at_, .own Av]),(Av, .arr (Ap+2) true 1 out)] Q st
def Qe(K:KK):Ex→St→Prop
 | .normal,st=>Bj 5 E0.P Bu (Az 5 ac_token_scanner_hex).code (mask [1,2,4,5,6,7] st) K
 | .exit i,st=>K (.exit i) st
 | .goto i,st=>K (.goto i) st
 | .ret,st=>K .ret st
def Df(K:KK):KK:=kC 1 (fun st=>Ar 22 E0.P Bu (Af 22 ac_token_scanner_hex).code (mask [1,2,4,5] st) (Qe K)) K
theorem Tc(t6:Int)(t7:Bool)(u0 u1:Int)(u2:LB)(u3 u4 u5:Int)(u6:LB)(u7:Int)(u8:LL)(K:KK)(h:
 (Br (t7)
 (Call E0.P Sz [.imm (.int .u8 t6)] [] fun r0 g0=>
 Ao (Mv g0 r0)
 (Br (decide (t6=(62:Int)))
 (Br (decide ((65535:Int)<(↑u8.length:Int)))
 (K .ret ⟨[(2, .ptr nL2 0),(3,Ai 8)],[(nL2, .blk Aq [Ai 0,Ai 0, .imm (.str []),Ai 0,Ai 0]),(Ae, .blk Ac [As u6,Ai (IntKind.i64.wrap (u7+(1:Int))), .own Av]),(Av, .arr (Ap+2) true 1 u8)]⟩)
 (Ao (∀(r:List IV),r∈u8→Ch [.int .u8] r=true)
 (K .ret ⟨[(2, .ptr nL2 0),(3,Ai 0)],[(nL2, .blk Aq [Ai 3,Ai 0,As (List.map (fun r=>UInt8.ofNat (gI r 0).toNat) u8),Ai 0,Ai 0]),(Ae, .blk Ac [As u6,Ai (IntKind.i64.wrap (u7+(1:Int))), .own Av]),(Av, .arr (Ap+2) true 1 u8)]⟩)))
 (Br (decide ((0:Int)≤rI r0))
 (Ao ((2:Int)≠(0:Int))
 (Br (decide ((IntKind.i64.wrap (u5+(1:Int))).tmod (2:Int)=(1:Int)))
 (Ao ((0:Int)≤(4:Int))
 ((Ao ((u8.length+1)*1≤140737488355328∧u8.length+1≤140737488355328)
 (D8 u0 u1 u2 u3 u4 (IntKind.i64.wrap (u5+(1:Int))) u6 (IntKind.i64.wrap (u7+(1:Int))) (u8++[[IV.int .u8 (IntKind.u8.wrap (IntKind.i64.wrap (rI r0*(2:Int) ^ 4)))]]) (Df K)))∧
 ((Ao ((u8.length+1)*1≤140737488355328∧u8.length+1≤140737488355328)
 (D8 u0 u1 u2 u3 u4 (IntKind.i64.wrap (u5+(1:Int))) u6 (IntKind.i64.wrap (u7+(1:Int))) (u8++[[IV.int .u8 (IntKind.u8.wrap (IntKind.i64.wrap (rI r0*(2:Int) ^ 4)))]]) (Df K)))∧
 (Ao ((u8.length+1)*1≤140737488355328∧u8.length+1≤140737488355328)
 (D8 u0 u1 u2 u3 u4 (IntKind.i64.wrap (u5+(1:Int))) u6 (IntKind.i64.wrap (u7+(1:Int))) (u8++[[IV.int .u8 (IntKind.u8.wrap (IntKind.i64.wrap (rI r0*(2:Int) ^ 4)))]]) (Df K))))))
 (Ao ((0:Int)≤IntKind.i64.wrap ((↑u8.length:Int) - (1:Int))∧
 IntKind.i64.wrap ((↑u8.length:Int) - (1:Int))<(↑u8.length:Int))
 (Ao ((IntKind.i64.wrap ((↑u8.length:Int) - (1:Int))).toNat<u8.length∧
 Ch [.int .u8]
 (List.take 1
 (List.drop 0 (u8.getD (IntKind.i64.wrap ((↑u8.length:Int) - (1:Int))).toNat [])))=
 true)
 (Ao ((0:Int)≤IntKind.i64.wrap ((↑u8.length:Int) - (1:Int))∧
 IntKind.i64.wrap ((↑u8.length:Int) - (1:Int))<(↑u8.length:Int))
 (Ao ((IntKind.i64.wrap ((↑u8.length:Int) - (1:Int))).toNat<u8.length)
 (D8 u0 u1 u2 u3 u4 (IntKind.i64.wrap (u5+(1:Int))) u6 (IntKind.i64.wrap (u7+(1:Int))) (u8.set (IntKind.i64.wrap ((↑u8.length:Int) - (1:Int))).toNat
 [.int .u8
 (IntKind.u8.wrap
 (↑(BitVec.ofInt (8:Nat)
 (gI
 (List.take (1:Nat)
 (List.drop (0:Nat) (u8.getD (IntKind.i64.wrap ((↑u8.length:Int) - (1:Int))).toNat [])))
 (0:Nat)) |||
 BitVec.ofInt (8:Nat) (IntKind.u8.wrap (rI r0))).toNat:
 Int))]) (Df K))))))))
 (Call E0.P Nz [.imm (.int .u8 t6)] [] fun r1 g1=>
 Ao (Mv g1 r1)
 (Br (!decide (rI r1=(0:Int)))
 (K .ret ⟨[(2, .ptr nL2 0),(3,Ai 4)],[(nL2, .blk Aq [Ai 0,Ai 0, .imm (.str []),Ai 0,Ai 0]),(Ae, .blk Ac [As u6,Ai (IntKind.i64.wrap (u7+(1:Int))), .own Av]),(Av, .arr (Ap+2) true 1 u8)]⟩)
 (D8 u0 u1 u2 u3 u4 u5 u6 (IntKind.i64.wrap (u7+(1:Int))) u8 (Df K)))))))
 (K (.exit 0) ⟨[(2, .ptr nL2 0)],[(nL2, .blk Aq [Ai u0,Ai u1,As u2,Ai u3,Ai u4]),(Ae, .blk Ac [As u6,Ai u7, .own Av]),(Av, .arr (Ap+2) true 1 u8)]⟩))):Fj t6 t7 u0 u1 u2 u3 u4 u5 u6 u7 u8 K:=Bo (Au E0 Bu) (Ba Bu) 3 5 (Az 5 ac_token_scanner_hex) [1,2,4,5,6,7] _ K rfl (kr (by kernel_rfl) h)
theorem Ael(u0 u1:Int)(u2:LB)(u3 u4 u5:Int)(u6:LB)(u7:Int)(u8:LL)(K:KK)(h:
 (Ao ((2:Int)≠(0:Int))
 (Br (decide ((65535:Int)<IntKind.i64.wrap (u5.tdiv (2:Int))))
 (K .ret ⟨[(2, .ptr nL2 0),(3,Ai 8)],[(nL2, .blk Aq [Ai 0,Ai 0, .imm (.str []),Ai 0,Ai 0]),(Ae, .blk Ac [As u6,Ai u7, .own Av]),(Av, .arr (Ap+2) true 1 u8)]⟩)
 (K .normal ⟨[(1, .ptr G8 0),(2, .ptr nL2 0),(4, .ptr nL4 0),(5, .fn D9 [.ptr nL4 0, .ptr G8 0])],[(G8, .blk 126 [.ptr Ae 0]),(nL2, .blk Aq [Ai u0,Ai u1,As u2,Ai u3,Ai u4]),(nL4, .blk Vv [Ai u5]),(Ae, .blk Ac [As u6,Ai u7, .own Av]),(Av, .arr (Ap+2) true 1 u8)]⟩)))):D8 u0 u1 u2 u3 u4 u5 u6 u7 u8 K:=Ay (Au E0 Bu) (Ba Bu) 3 19 (Af 19 ac_token_scanner_hex) [1,2,4,5] _ K rfl (kr (by kernel_rfl) h)
theorem Aed(u0 u1:Int)(u2:LB)(u3 u4:Int)(u5:LB)(u6:Int)(u7:LL)(K:KK)(h:
 (K .ret ⟨[(2, .ptr nL2 0),(3,Ai 5)],[(nL2, .blk Aq [Ai 0,Ai 0, .imm (.str []),Ai 0,Ai 0]),(Ae, .blk Ac [As u5,Ai u6, .own Av]),(Av, .arr (Ap+2) true 1 u7)]⟩)):Wi u0 u1 u2 u3 u4 u5 u6 u7 K:=Ay (Au E0 Bu) (Ba Bu) 3 23 (Af 23 ac_token_scanner_hex) [] _ K rfl (kr (by kernel_rfl) h)
theorem Ad8(u0 u1:Int)(u2:LB)(u3 u4 u5:Int)(u6:LB)(u7:Int)(u8:LL)(K:KK)(h:
 (Br (decide ((↑u6.length:Int)≤u7))
 (K .normal ⟨[(1, .ptr G8 0),(2, .ptr nL2 0),(4, .ptr nL4 0),(5, .fn D9 [.ptr nL4 0, .ptr G8 0]),(6, .imm (.int .u8 ((0:Int)))),(7,Ab false)],[(G8, .blk 126 [.ptr Ae 0]),(nL2, .blk Aq [Ai u0,Ai u1,As u2,Ai u3,Ai u4]),(nL4, .blk Vv [Ai u5]),(Ae, .blk Ac [As u6,Ai u7, .own Av]),(Av, .arr (Ap+2) true 1 u8)]⟩)
 (Ao ((0:Int)≤u7∧u7<(↑u6.length:Int))
 (K .normal ⟨[(1, .ptr G8 0),(2, .ptr nL2 0),(4, .ptr nL4 0),(5, .fn D9 [.ptr nL4 0, .ptr G8 0]),(6, .imm (.int .u8 ((↑(u6.getD u7.toNat 0).toNat:Int)))),(7,Ab true)],[(G8, .blk 126 [.ptr Ae 0]),(nL2, .blk Aq [Ai u0,Ai u1,As u2,Ai u3,Ai u4]),(nL4, .blk Vv [Ai u5]),(Ae, .blk Ac [As u6,Ai u7, .own Av]),(Av, .arr (Ap+2) true 1 u8)]⟩)))):V4 u0 u1 u2 u3 u4 u5 u6 u7 u8 K:=Ay (Au E0 Bu) (Ba Bu) 3 22 (Af 22 ac_token_scanner_hex) [1,2,4,5,6,7] _ K rfl (kr (by kernel_rfl) h)
theorem Ae9(s:LB)(at_:Int)(out:LL)(Q:QQ)(t3 u0 u1:Int)(u2:LB)(u3 u4:Int)(u5:LB)(u6:Int)(u7:LL)(h:
 (Q (.tup [.imm (.agg [.int .i64 u0, .int .i64 u1, .str u2, .int .i64 u3, .int .i64 u4]),Ai t3]) [(Ae, .blk Ac [As u5,Ai u6, .own Av]),(Av, .arr (Ap+2) true 1 u7)])):Pk s at_ out Q .ret ⟨[(2, .ptr nL2 0),(3,Ai t3)],[(nL2, .blk Aq [Ai u0,Ai u1,As u2,Ai u3,Ai u4]),(Ae, .blk Ac [As u5,Ai u6, .own Av]),(Av, .arr (Ap+2) true 1 u7)]⟩:=kr (by kernel_rfl) h
theorem Na(s:LB)(at_:Int)(out:LL)(Q:QQ)(t3 u0 u1:Int)(u2:LB)(u3 u4:Int)(u5:LB)(u6:Int)(u7:LL)(h:
 (Q (.tup [.imm (.agg [.int .i64 u0, .int .i64 u1, .str u2, .int .i64 u3, .int .i64 u4]),Ai t3]) [(Ae, .blk Ac [As u5,Ai u6, .own Av]),(Av, .arr (Ap+2) true 1 u7)])):Dy s at_ out Q .ret ⟨[(2, .ptr nL2 0),(3,Ai t3)],[(nL2, .blk Aq [Ai u0,Ai u1,As u2,Ai u3,Ai u4]),(Ae, .blk Ac [As u5,Ai u6, .own Av]),(Av, .arr (Ap+2) true 1 u7)]⟩:=kr (by kernel_rfl) h
theorem Agf(s:LB)(at_:Int)(out:LL)(Q:QQ)(u0 u1:Int)(u2:LB)(u3 u4:Int)(u5:LB)(u6:Int)(u7:LL)(h:
 (Wi u0 u1 u2 u3 u4 u5 u6 u7 (Pk s at_ out Q))):Dy s at_ out Q (.exit 0) ⟨[(2, .ptr nL2 0)],[(nL2, .blk Aq [Ai u0,Ai u1,As u2,Ai u3,Ai u4]),(Ae, .blk Ac [As u5,Ai u6, .own Av]),(Av, .arr (Ap+2) true 1 u7)]⟩:=kr (by kernel_rfl) h
theorem Tv(K:KK)(t6:Int)(t7:Bool)(u0 u1:Int)(u2:LB)(u3 u4 u5:Int)(u6:LB)(u7:Int)(u8:LL)(h:
 (Fj t6 t7 u0 u1 u2 u3 u4 u5 u6 u7 u8 K)):Qe K .normal ⟨[(1, .ptr G8 0),(2, .ptr nL2 0),(4, .ptr nL4 0),(5, .fn D9 [.ptr nL4 0, .ptr G8 0]),(6, .imm (.int .u8 t6)),(7,Ab t7)],[(G8, .blk 126 [.ptr Ae 0]),(nL2, .blk Aq [Ai u0,Ai u1,As u2,Ai u3,Ai u4]),(nL4, .blk Vv [Ai u5]),(Ae, .blk Ac [As u6,Ai u7, .own Av]),(Av, .arr (Ap+2) true 1 u8)]⟩:=kr (by kernel_rfl) h
theorem Aft(K:KK)(t3 u0 u1:Int)(u2:LB)(u3 u4:Int)(u5:LB)(u6:Int)(u7:LL)(h:
 (K .ret ⟨[(2, .ptr nL2 0),(3,Ai t3)],[(nL2, .blk Aq [Ai u0,Ai u1,As u2,Ai u3,Ai u4]),(Ae, .blk Ac [As u5,Ai u6, .own Av]),(Av, .arr (Ap+2) true 1 u7)]⟩)):Df K .ret ⟨[(2, .ptr nL2 0),(3,Ai t3)],[(nL2, .blk Aq [Ai u0,Ai u1,As u2,Ai u3,Ai u4]),(Ae, .blk Ac [As u5,Ai u6, .own Av]),(Av, .arr (Ap+2) true 1 u7)]⟩:=kr (by kernel_rfl) h
theorem Ae3(K:KK)(u0 u1:Int)(u2:LB)(u3 u4 u5:Int)(u6:LB)(u7:Int)(u8:LL)(h:
 (V4 u0 u1 u2 u3 u4 u5 u6 u7 u8 (Qe K))):Df K .normal ⟨[(1, .ptr G8 0),(2, .ptr nL2 0),(4, .ptr nL4 0),(5, .fn D9 [.ptr nL4 0, .ptr G8 0])],[(G8, .blk 126 [.ptr Ae 0]),(nL2, .blk Aq [Ai u0,Ai u1,As u2,Ai u3,Ai u4]),(nL4, .blk Vv [Ai u5]),(Ae, .blk Ac [As u6,Ai u7, .own Av]),(Av, .arr (Ap+2) true 1 u8)]⟩:=kr (by kernel_rfl) h
theorem Aln:Bt E0.P 108 ac_token_scanner_hex.code Bu [.cell 2 95, .tmp 3]:=Bl _ _ Try.f108 [(5,[1,2,4,5,6,7],[]),(7,[2],[]),(19,[1,2,4,5],[1,2,4,5]),(22,[1,2,4,5],[1,2,4,5,6,7]),(23,[2],[])] [2,3] _ 75 Try.func108 (by kernel_rfl) (by kernel_rfl) (by kernel_rfl) (by kernel_rfl)
theorem Ah2(s:LB)(at_:Int)(out:LL)(Q:QQ)(h:
 (Br (decide ((↑s.length:Int)≤IntKind.i64.wrap (at_+(1:Int))))
 (Fj ((0:Int)) false ((0:Int)) ((0:Int)) [] ((0:Int)) ((0:Int)) ((0:Int)) s (IntKind.i64.wrap (at_+(1:Int))) out (Dy s at_ out Q))
 (Ao ((0:Int)≤IntKind.i64.wrap (at_+(1:Int))∧IntKind.i64.wrap (at_+(1:Int))<(↑s.length:Int))
 (Fj ((↑(s.getD (IntKind.i64.wrap (at_+(1:Int))).toNat 0).toNat:Int)) true ((0:Int)) ((0:Int)) [] ((0:Int)) ((0:Int)) ((0:Int)) s (IntKind.i64.wrap (at_+(1:Int))) out (Dy s at_ out Q))))):Call E0.P Qp [.ptr (.arg 0) 0] [(.arg 0, .blk Ac [.imm (.str s), .imm (.int .i64 at_), .own (.arg 1)]),(.arg 1, .arr (Ap+2) true 1 out)] Q:=Bd (Au E0 Bu) (Ba Bu) 3 0 108 ac_token_scanner_hex [.cell 2 95, .tmp 3] Aln _ _ Q rfl rfl (kr (by kernel_rfl) h)
noncomputable def ac_token_scanner_word:AC:=(Bf [] [2,3] (codeOf Try.f109) 0).1
abbrev Qd:Nat:=66
theorem Ajf:Bt E0.P 109 ac_token_scanner_word.code Qd [.cell 2 95, .tmp 3]:=Bl _ _ Try.f109 [] [2,3] _ 66 Try.func109 (by kernel_rfl) (by kernel_rfl) (by kernel_rfl) (by kernel_rfl)
theorem Ag1(s:LB)(at_:Int)(out:LL)(Q:QQ)(h:
 (Call E0.P Rk [As s,Ai at_, .imm (.sl .any 1 [[IV.int .i64 (2:Int)]])] [] fun r0 g0=>
 Ao (Mv g0 r0)
 (Ao ((0:Int)≤at_∧at_≤IntKind.i64.wrap (at_+rI r0)∧IntKind.i64.wrap (at_+rI r0)≤(↑s.length:Int))
 (Let (List.drop at_.toNat (List.take (IntKind.i64.wrap (at_+rI r0)).toNat s)) fun x1=>
 Call E0.P Zu [As x1] [] fun r2 g2=>
 Ao (A4q g2 r2)
 (Br (decide (rI (rT r2 1)=(0:Int)))
 (Q (.tup [.imm (.agg [.int .i64 1, .int .i64 (rI (rT r2 0)), .str [], .int .i64 0, .int .i64 0]),Ai 0]) [(Ae, .blk Ac [As s,Ai (IntKind.i64.wrap (at_+(↑x1.length:Int))), .own Av]),(Av, .arr (Ap+2) true 1 out)])
 (Br (decide (rI (rT r2 1)=(3:Int)))
 (Q (.tup [.imm (.agg [.int .i64 0, .int .i64 0, .str [], .int .i64 0, .int .i64 0]),Ai (rI (rT r2 1))]) [(Ae, .blk Ac [As s,Ai (IntKind.i64.wrap (at_+(↑x1.length:Int))), .own Av]),(Av, .arr (Ap+2) true 1 out)])
 (Br (decide ((127:Int)<(↑x1.length:Int)))
 (Q (.tup [.imm (.agg [.int .i64 0, .int .i64 0, .str [], .int .i64 0, .int .i64 0]),Ai 8]) [(Ae, .blk Ac [As s,Ai (IntKind.i64.wrap (at_+(↑x1.length:Int))), .own Av]),(Av, .arr (Ap+2) true 1 out)])
 (Q (.tup [.imm (.agg [.int .i64 8, .int .i64 0, .str x1, .int .i64 0, .int .i64 0]),Ai 0]) [(Ae, .blk Ac [As s,Ai (IntKind.i64.wrap (at_+(↑x1.length:Int))), .own Av]),(Av, .arr (Ap+2) true 1 out)])))))))):Call E0.P Po [.ptr (.arg 0) 0] [(.arg 0, .blk Ac [.imm (.str s), .imm (.int .i64 at_), .own (.arg 1)]),(.arg 1, .arr (Ap+2) true 1 out)] Q:=Bd (Au E0 Qd) (Ba Qd) 3 0 109 ac_token_scanner_word [.cell 2 95, .tmp 3] Ajf _ _ Q rfl rfl (kr (by kernel_rfl) h)
noncomputable def ac_r01_Hex:AC:=(Bf [(4,[0,3,4,5],[]),(6,[],[]),(11,[],[])] [2] (codeOf Try.f110) 0).1
abbrev Kj:Nat:=23
def Abb(t0:Int)(t3 t4:LB)(t5:Int)(K:KK):Prop:=Bj 4 E0.P Kj (Az 4 ac_r01_Hex).code ⟨[(0, .imm (.int .u8 t0)),(3,As t3),(4,As t4),(5,Ai t5)],[]⟩ K
def Aoc(K:KK):Prop:=Ar 11 E0.P Kj (Af 11 ac_r01_Hex).code ⟨[],[]⟩ K
def Aif(Q:QQ):KK:=kE fun st=>finish 0 E0.T [.tmp 2] [] Q st
def Abl(Q:QQ):KK:=kF 0 (fun st=>Ar 11 E0.P Kj (Af 11 ac_r01_Hex).code (mask [] st) (Aif Q)) fun st=>finish 0 E0.T [.tmp 2] [] Q st
theorem Ajn(t0:Int)(t3 t4:LB)(t5:Int)(K:KK)(h:
 (Br (decide (t5<(16:Int)))
 (Ao ((0:Int)≤t5∧t5<(↑t3.length:Int))
 (Ao (decide ((↑(t3.getD t5.toNat 0).toNat:Int)=t0)=false→(0:Int)≤t5∧t5<(↑t4.length:Int))
 (Let (bif decide ((↑(t3.getD t5.toNat 0).toNat:Int)=t0)then true
 else decide ((↑(t4.getD t5.toNat 0).toNat:Int)=t0)) fun x0=>
 Br (x0)
 (K .ret ⟨[(2,Ai t5)],[]⟩)
 (Abb t0 t3 t4 (IntKind.i64.wrap (t5+(1:Int))) K))))
 (K (.exit 0) ⟨[],[]⟩))):Abb t0 t3 t4 t5 K:=Bo (Au E0 Kj) (Ba Kj) 3 4 (Az 4 ac_r01_Hex) [0,3,4,5] _ K rfl (kr (by kernel_rfl) h)
theorem Ath(K:KK)(h:
 (K .ret ⟨[(2,Ai (-1))],[]⟩)):Aoc K:=Ay (Au E0 Kj) (Ba Kj) 3 11 (Af 11 ac_r01_Hex) [] _ K rfl (kr (by kernel_rfl) h)
theorem Avh(Q:QQ)(t2:Int)(h:
 (Q (Ai t2) [])):Aif Q .ret ⟨[(2,Ai t2)],[]⟩:=kr (by kernel_rfl) h
theorem Aw2(Q:QQ)(t2:Int)(h:
 (Q (Ai t2) [])):Abl Q .ret ⟨[(2,Ai t2)],[]⟩:=kr (by kernel_rfl) h
theorem Awv(Q:QQ)(h:
 (Aoc (Aif Q))):Abl Q (.exit 0) ⟨[],[]⟩:=kr (by kernel_rfl) h
theorem A4x:Bt E0.P 110 ac_r01_Hex.code Kj [.tmp 2]:=Bl _ _ Try.f110 [(4,[0,3,4,5],[]),(6,[],[]),(11,[],[])] [2] _ 23 Try.func110 (by kernel_rfl) (by kernel_rfl) (by kernel_rfl) (by kernel_rfl)
theorem A08(a0:Int)(Q:QQ)(h:
 (Abb a0 [(48:UInt8),49,50,51,52,53,54,55,
 56,57,65,66,67,68,69,70] [(48:UInt8),49,50,51,52,53,54,55,
 56,57,97,98,99,100,101,102] ((0:Int)) (Abl Q))):Call E0.P Ox [.imm (.int .u8 a0)] [] Q:=Bd (Au E0 Kj) (Ba Kj) 3 0 110 ac_r01_Hex [.tmp 2] A4x _ _ Q rfl rfl (kr (by kernel_rfl) h)
noncomputable def ac_r01_Ends:AC:=(Bf [] [4] (codeOf Try.f111) 0).1
abbrev Aiw:Nat:=28
theorem A1w:Bt E0.P 111 ac_r01_Ends.code Aiw [.tmp 4]:=Bl _ _ Try.f111 [] [4] _ 28 Try.func111 (by kernel_rfl) (by kernel_rfl) (by kernel_rfl) (by kernel_rfl)
theorem Ax1(a0:LB)(a1:Int)(Q:QQ)(h:
 (Let (bif decide (a1<(0:Int))then true else decide ((↑a0.length:Int)≤a1)) fun x0=>
 Br (x0)
 (Q (Ai 0) [])
 (Ao ((0:Int)≤a1∧a1≤(↑a0.length:Int))
 (Let (List.drop a1.toNat a0) fun x1=>
 Ao (decide ((1:Int)<(↑x1.length:Int))=true→(0:Int)≤(2:Int)∧(2:Int)≤(↑x1.length:Int))
 (Let (List.take 2 x1) fun x2=>
 Let (bif decide ((1:Int)<(↑x1.length:Int))then x2 == [(13:UInt8),10]else false) fun x3=>
 Br (x3)
 (Q (Ai 2) [])
 (Ao ((0:Int)≤(0:Int)∧(0:Int)<(↑x1.length:Int))
 (Call E0.P Abt [.imm (.str [13,10]), .imm (.int .u8 ((↑(x1.getD (0:Nat) 0).toNat:Int)))] [] fun r4 g4=>
 Ao (qP0 g4 r4)
 (Br (rB r4)
 (Q (Ai 1) [])
 (Q (Ai 0) []))))))))):Call E0.P Abd [As a0,Ai a1] [] Q:=Bd (Au E0 Aiw) (Ba Aiw) 3 0 111 ac_r01_Ends [.tmp 4] A1w _ _ Q rfl rfl (kr (by kernel_rfl) h)
noncomputable def ac_r15_meant:AC:=(Bf [(11,[0,1,7,8,9],[]),(13,[0,1],[]),(18,[0,1],[]),(20,[0,1,10,11],[]),(22,[0,1,10,11],[]),(25,[0,1,10,11],[])] [4,5] (codeOf Try.f112) 0).1
abbrev Dr:Nat:=99
def U2(t0:LB)(t1:Int)(t7 t8:LB)(t9:Int)(K:KK):Prop:=Bj 11 E0.P Dr (Az 11 ac_r15_meant).code ⟨[(0,As t0),(1,Ai t1),(7,As t7),(8,As t8),(9,Ai t9)],[]⟩ K
def Ajt(t0:LB)(t1:Int)(K:KK):Prop:=Ar 18 E0.P Dr (Af 18 ac_r15_meant).code ⟨[(0,As t0),(1,Ai t1)],[]⟩ K
def Ul(t0:LB)(t1 t10 t11:Int)(K:KK):Prop:=Bj 20 E0.P Dr (Az 20 ac_r15_meant).code ⟨[(0,As t0),(1,Ai t1),(10,Ai t10),(11,Ai t11)],[]⟩ K
def Aje(t0:LB)(t1 t10 t11:Int)(K:KK):Prop:=Ar 25 E0.P Dr (Af 25 ac_r15_meant).code ⟨[(0,As t0),(1,Ai t1),(10,Ai t10),(11,Ai t11)],[]⟩ K
def Aci(Q:QQ):KK:=kE fun st=>finish 0 E0.T [.tmp 4, .tmp 5] [] Q st
def Xf(Q:QQ):KK:=kF 0 (fun st=>Ar 18 E0.P Dr (Af 18 ac_r15_meant).code (mask [0,1] st) (Aci Q)) fun st=>finish 0 E0.T [.tmp 4, .tmp 5] [] Q st
def Acu(K:KK):KK:=kP [] K
def Ama(K:KK):KK:=kC 2 (fun st=>Ar 25 E0.P Dr (Af 25 ac_r15_meant).code (mask [0,1,10,11] st) (Acu K)) K
theorem Adr(t0:LB)(t1:Int)(t7 t8:LB)(t9:Int)(K:KK)(h:
 (Br (decide (t9<(↑t7.length:Int)))
 (Ao ((0:Int)≤t1∧t1<(↑t0.length:Int))
 (Ao ((0:Int)≤t9∧t9<(↑t7.length:Int))
 (Br (decide ((↑(t0.getD t1.toNat 0).toNat:Int)=(↑(t7.getD t9.toNat 0).toNat:Int)))
 (Ao ((0:Int)≤t9∧t9≤IntKind.i64.wrap (t9+(1:Int))∧IntKind.i64.wrap (t9+(1:Int))≤(↑t8.length:Int))
 (Let (List.drop t9.toNat (List.take (IntKind.i64.wrap (t9+(1:Int))).toNat t8)) fun x0=>
 K .ret ⟨[(4,As x0),(5,Ai (IntKind.i64.wrap (t1+(1:Int))))],[]⟩))
 (U2 t0 t1 t7 t8 (IntKind.i64.wrap (t9+(1:Int))) K))))
 (K (.exit 0) ⟨[(0,As t0),(1,Ai t1)],[]⟩))):U2 t0 t1 t7 t8 t9 K:=Bo (Au E0 Dr) (Ba Dr) 3 11 (Az 11 ac_r15_meant) [0,1,7,8,9] _ K rfl (kr (by kernel_rfl) h)
theorem Apy(t0:LB)(t1:Int)(K:KK)(h:
 (Ul t0 t1 ((0:Int)) ((0:Int)) (Ama K))):Ajt t0 t1 K:=Ay (Au E0 Dr) (Ba Dr) 3 18 (Af 18 ac_r15_meant) [] _ K rfl (kr (by kernel_rfl) h)
theorem Ady(t0:LB)(t1 t10 t11:Int)(K:KK)(h:
 (Let (bif decide (t11<(3:Int))then decide (IntKind.i64.wrap (t1+t11)<(↑t0.length:Int))else false) fun x0=>
 Ao (x0=true→(0:Int)≤IntKind.i64.wrap (t1+t11)∧IntKind.i64.wrap (t1+t11)<(↑t0.length:Int))
 (Let (bif x0 then decide ((48:Int)≤(↑(t0.getD (IntKind.i64.wrap (t1+t11)).toNat 0).toNat:Int))else false) fun x1=>
 Ao (x1=true→(0:Int)≤IntKind.i64.wrap (t1+t11)∧IntKind.i64.wrap (t1+t11)<(↑t0.length:Int))
 (Let (bif x1 then decide ((↑(t0.getD (IntKind.i64.wrap (t1+t11)).toNat 0).toNat:Int)≤(55:Int))else false) fun x2=>
 Br (x2)
 (Ao ((0:Int)≤IntKind.i64.wrap (t1+t11)∧IntKind.i64.wrap (t1+t11)<(↑t0.length:Int))
 (Ul t0 t1 (IntKind.i64.wrap
 (IntKind.i64.wrap
 (IntKind.i64.wrap ((8:Int)*t10)+
 IntKind.i64.wrap (↑(t0.getD (IntKind.i64.wrap (t1+t11)).toNat 0).toNat:Int)) -
 (48:Int))) (IntKind.i64.wrap (t11+(1:Int))) K))
 (K (.exit (2)) ⟨[(0,As t0),(1,Ai t1),(10,Ai t10),(11,Ai t11)],[]⟩))))):Ul t0 t1 t10 t11 K:=Bo (Au E0 Dr) (Ba Dr) 3 20 (Az 20 ac_r15_meant) [0,1,10,11] _ K rfl (kr (by kernel_rfl) h)
theorem Apj(t0:LB)(t1 t10 t11:Int)(K:KK)(h:
 (Br (decide ((0:Int)<t11))
 (Ao ((256:Int)≠(0:Int))
 (Ao (∀(r:List IV),r∈ [[IV.int .u8 (IntKind.u8.wrap (t10.tmod (256:Int)))]]→Ch [.int .u8] r=true)
 (K .ret ⟨[(4, .imm (.str [UInt8.ofNat (gI [.int .u8 (IntKind.u8.wrap (t10.tmod (256:Int)))] 0).toNat])),(5,Ai (IntKind.i64.wrap (t1+t11)))],[]⟩)))
 (Ao ((0:Int)≤t1∧t1≤IntKind.i64.wrap (t1+(1:Int))∧IntKind.i64.wrap (t1+(1:Int))≤(↑t0.length:Int))
 (Let (List.drop t1.toNat (List.take (IntKind.i64.wrap (t1+(1:Int))).toNat t0)) fun x0=>
 K .ret ⟨[(4,As x0),(5,Ai (IntKind.i64.wrap (t1+(1:Int))))],[]⟩)))):Aje t0 t1 t10 t11 K:=Ay (Au E0 Dr) (Ba Dr) 3 25 (Af 25 ac_r15_meant) [] _ K rfl (kr (by kernel_rfl) h)
theorem Agl(Q:QQ)(t4:LB)(t5:Int)(h:
 (Q (.tup [As t4,Ai t5]) [])):Aci Q .ret ⟨[(4,As t4),(5,Ai t5)],[]⟩:=kr (by kernel_rfl) h
theorem Aqj(Q:QQ)(t4:LB)(t5:Int)(h:
 (Q (.tup [As t4,Ai t5]) [])):Xf Q .ret ⟨[(4,As t4),(5,Ai t5)],[]⟩:=kr (by kernel_rfl) h
theorem Aq8(Q:QQ)(t0:LB)(t1:Int)(h:
 (Ajt t0 t1 (Aci Q))):Xf Q (.exit 0) ⟨[(0,As t0),(1,Ai t1)],[]⟩:=kr (by kernel_rfl) h
theorem Agc(K:KK)(t4:LB)(t5:Int)(h:
 (K .ret ⟨[(4,As t4),(5,Ai t5)],[]⟩)):Acu K .ret ⟨[(4,As t4),(5,Ai t5)],[]⟩:=kr (by kernel_rfl) h
theorem Aqb(K:KK)(t0:LB)(t1 t10 t11:Int)(h:
 (Aje t0 t1 t10 t11 (Acu K))):Ama K (.exit (2)) ⟨[(0,As t0),(1,Ai t1),(10,Ai t10),(11,Ai t11)],[]⟩:=kr (by kernel_rfl) h
theorem Az9:Bt E0.P 112 ac_r15_meant.code Dr [.tmp 4, .tmp 5]:=Bl _ _ Try.f112 [(11,[0,1,7,8,9],[]),(13,[0,1],[]),(18,[0,1],[]),(20,[0,1,10,11],[]),(22,[0,1,10,11],[]),(25,[0,1,10,11],[])] [4,5] _ 99 Try.func112 (by kernel_rfl) (by kernel_rfl) (by kernel_rfl) (by kernel_rfl)
theorem Ajm(a0:LB)(a1:Int)(Q:QQ)(h:
 (Br (decide ((↑a0.length:Int)≤a1))
 (Q (.tup [.imm (.str []),Ai (-1)]) [])
 (Call E0.P Abd [As a0,Ai a1] [] fun r0 g0=>
 Ao (Mv g0 r0)
 (Br (decide ((0:Int)<rI r0))
 (Q (.tup [.imm (.str []),Ai (IntKind.i64.wrap (a1+rI r0))]) [])
 (U2 a0 a1 [(110:UInt8),114,116,98,102] [(10:UInt8),13,9,8,12] ((0:Int)) (Xf Q)))))):Call E0.P Yx [As a0,Ai a1] [] Q:=Bd (Au E0 Dr) (Ba Dr) 3 0 112 ac_r15_meant [.tmp 4, .tmp 5] Az9 _ _ Q rfl rfl (kr (by kernel_rfl) h)
noncomputable def ac_r01_in:AC:=(Bf [(2,[0,1,5],[]),(4,[],[]),(9,[],[])] [4] (codeOf Try.f113) 0).1
abbrev L9:Nat:=17
def Aeo(t0:LB)(t1 t5:Int)(K:KK):Prop:=Bj 2 E0.P L9 (Az 2 ac_r01_in).code ⟨[(0,As t0),(1, .imm (.int .u8 t1)),(5,Ai t5)],[]⟩ K
def Atn(K:KK):Prop:=Ar 9 E0.P L9 (Af 9 ac_r01_in).code ⟨[],[]⟩ K
def Alh(Q:QQ):KK:=kE fun st=>finish 0 E0.T [.tmp 4] [] Q st
def Aer(Q:QQ):KK:=kF 0 (fun st=>Ar 9 E0.P L9 (Af 9 ac_r01_in).code (mask [] st) (Alh Q)) fun st=>finish 0 E0.T [.tmp 4] [] Q st
theorem Alt(t0:LB)(t1 t5:Int)(K:KK)(h:
 (Br (decide (t5<(↑t0.length:Int)))
 (Ao ((0:Int)≤t5∧t5<(↑t0.length:Int))
 (Br (decide ((↑(t0.getD t5.toNat 0).toNat:Int)=t1))
 (K .ret ⟨[(4,Ab true)],[]⟩)
 (Aeo t0 t1 (IntKind.i64.wrap (t5+(1:Int))) K)))
 (K (.exit 0) ⟨[],[]⟩))):Aeo t0 t1 t5 K:=Bo (Au E0 L9) (Ba L9) 3 2 (Az 2 ac_r01_in) [0,1,5] _ K rfl (kr (by kernel_rfl) h)
theorem Ax4(K:KK)(h:
 (K .ret ⟨[(4,Ab false)],[]⟩)):Atn K:=Ay (Au E0 L9) (Ba L9) 3 9 (Af 9 ac_r01_in) [] _ K rfl (kr (by kernel_rfl) h)
theorem Ayf(Q:QQ)(t4:Bool)(h:
 (Q (Ab t4) [])):Alh Q .ret ⟨[(4,Ab t4)],[]⟩:=kr (by kernel_rfl) h
theorem Ayg(Q:QQ)(t4:Bool)(h:
 (Q (Ab t4) [])):Aer Q .ret ⟨[(4,Ab t4)],[]⟩:=kr (by kernel_rfl) h
theorem Aye(Q:QQ)(h:
 (Atn (Alh Q))):Aer Q (.exit 0) ⟨[],[]⟩:=kr (by kernel_rfl) h
theorem A58:Bt E0.P 113 ac_r01_in.code L9 [.tmp 4]:=Bl _ _ Try.f113 [(2,[0,1,5],[]),(4,[],[]),(9,[],[])] [4] _ 17 Try.func113 (by kernel_rfl) (by kernel_rfl) (by kernel_rfl) (by kernel_rfl)
theorem A15(a0:LB)(a1:Int)(Q:QQ)(h:
 (Aeo a0 a1 ((0:Int)) (Aer Q))):Call E0.P Abt [As a0, .imm (.int .u8 a1)] [] Q:=Bd (Au E0 L9) (Ba L9) 3 0 113 ac_r01_in [.tmp 4] A58 _ _ Q rfl rfl (kr (by kernel_rfl) h)
noncomputable def ac_r01_Span:AC:=(Bf [(6,[0,2,7,8],[]),(8,[7],[]),(12,[0,2,7,8,9,10],[]),(14,[0,2,7,8,9],[]),(16,[0,2,7,8,9,10],[0,2,7,8,9,10]),(17,[0,2,7,8,9],[0,2,7,8]),(21,[0,2,7,8],[0,2,7,8]),(22,[7],[])] [6] (codeOf Try.f114) 0).1
abbrev Cg:Nat:=44
def Yy(t0:LB)(t2r:LL)(t7 t8:Int)(K:KK):Prop:=Bj 6 E0.P Cg (Az 6 ac_r01_Span).code ⟨[(0,As t0),(2,Al 1 t2r),(7,Ai t7),(8,Ai t8)],[]⟩ K
def Wv(t0:LB)(t2r:LL)(t7 t8:Int)(t9:Bool)(t10:Int)(K:KK):Prop:=Bj 12 E0.P Cg (Az 12 ac_r01_Span).code ⟨[(0,As t0),(2,Al 1 t2r),(7,Ai t7),(8,Ai t8),(9,Ab t9),(10,Ai t10)],[]⟩ K
def Ach(t0:LB)(t2r:LL)(t7 t8:Int)(t9:Bool)(t10:Int)(K:KK):Prop:=Ar 16 E0.P Cg (Af 16 ac_r01_Span).code ⟨[(0,As t0),(2,Al 1 t2r),(7,Ai t7),(8,Ai t8),(9,Ab t9),(10,Ai t10)],[]⟩ K
def Alx(t7:Int)(K:KK):Prop:=Ar 22 E0.P Cg (Af 22 ac_r01_Span).code ⟨[(7,Ai t7)],[]⟩ K
def Als(t0:LB)(t2r:LL)(t7 t8:Int)(t9:Bool)(K:KK):Prop:=Ar 17 E0.P Cg (Af 17 ac_r01_Span).code ⟨[(0,As t0),(2,Al 1 t2r),(7,Ai t7),(8,Ai t8),(9,Ab t9)],[]⟩ K
def Al4(t0:LB)(t2r:LL)(t7 t8:Int)(K:KK):Prop:=Ar 21 E0.P Cg (Af 21 ac_r01_Span).code ⟨[(0,As t0),(2,Al 1 t2r),(7,Ai t7),(8,Ai t8)],[]⟩ K
def Afu(Q:QQ):KK:=kE fun st=>finish 0 E0.T [.tmp 6] [] Q st
def Tu(Q:QQ):KK:=kF 0 (fun st=>Ar 22 E0.P Cg (Af 22 ac_r01_Span).code (mask [7] st) (Afu Q)) fun st=>finish 0 E0.T [.tmp 6] [] Q st
def Y4(K:KK):Ex→St→Prop
 | .normal,st=>Bj 6 E0.P Cg (Az 6 ac_r01_Span).code (mask [0,2,7,8] st) K
 | .exit i,st=>K (.exit i) st
 | .goto i,st=>K (.goto i) st
 | .ret,st=>K .ret st
def Sv(K:KK):KK:=kC 1 (fun st=>Ar 21 E0.P Cg (Af 21 ac_r01_Span).code (mask [0,2,7,8] st) (Y4 K)) K
def Agk(K:KK):Ex→St→Prop
 | .normal,st=>Ar 17 E0.P Cg (Af 17 ac_r01_Span).code (mask [0,2,7,8,9] st) (Sv K)
 | .exit i,st=>(match (i.beq 2:Bool)with
 |true=>Ar 17 E0.P Cg (Af 17 ac_r01_Span).code (mask [0,2,7,8,9] st) (Sv K)
 |false=>(match (i.beq 1:Bool)with
 |true=>Ar 21 E0.P Cg (Af 21 ac_r01_Span).code (mask [0,2,7,8] st) (Y4 K)
 |false=>K (.exit i) st))
 | .goto i,st=>K (.goto i) st
 | .ret,st=>K .ret st
def Afp(K:KK):Ex→St→Prop
 | .normal,st=>Bj 12 E0.P Cg (Az 12 ac_r01_Span).code (mask [0,2,7,8,9,10] st) K
 | .exit i,st=>K (.exit i) st
 | .goto i,st=>K (.goto i) st
 | .ret,st=>K .ret st
theorem Ahk(t0:LB)(t2r:LL)(t7 t8:Int)(K:KK)(h:
 (Br (decide (t8<(↑t0.length:Int)))
 (Wv t0 t2r t7 t8 false ((0:Int)) (Agk K))
 (K (.exit 0) ⟨[(7,Ai t7)],[]⟩))):Yy t0 t2r t7 t8 K:=Bo (Au E0 Cg) (Ba Cg) 3 6 (Az 6 ac_r01_Span) [0,2,7,8] _ K rfl (kr (by kernel_rfl) h)
theorem Agp(t0:LB)(t2r:LL)(t7 t8:Int)(t9:Bool)(t10:Int)(K:KK)(h:
 (Br (decide (t10<(↑t2r.length:Int)))
 (Br (t9)
 (Ao (true=true)
 (Let (true) fun x0=>
 Ach t0 t2r t7 t8 x0 t10 (Afp K)))
 (Ao ((0:Int)≤t8∧t8<(↑t0.length:Int))
 (Ao (((0:Int)≤t10∧t10<(↑t2r.length:Int))∧Ch [.int .i64] (t2r.getD t10.toNat [])=true)
 (Call E0.P L6 [.imm (.int .u8 ((↑(t0.getD t8.toNat 0).toNat:Int)))] [] fun r1 g1=>
 Ao (Mv g1 r1)
 (Let (decide (rI r1=gI (t2r.getD t10.toNat []) 0)) fun x2=>
 Ach t0 t2r t7 t8 x2 t10 (Afp K))))))
 (K (.exit (2)) ⟨[(0,As t0),(2,Al 1 t2r),(7,Ai t7),(8,Ai t8),(9,Ab t9)],[]⟩))):Wv t0 t2r t7 t8 t9 t10 K:=Bo (Au E0 Cg) (Ba Cg) 3 12 (Az 12 ac_r01_Span) [0,2,7,8,9,10] _ K rfl (kr (by kernel_rfl) h)
theorem Aq7(t0:LB)(t2r:LL)(t7 t8:Int)(t9:Bool)(t10:Int)(K:KK)(h:
 (K .normal ⟨[(0,As t0),(2,Al 1 t2r),(7,Ai t7),(8,Ai t8),(9,Ab t9),(10,Ai (IntKind.i64.wrap (t10+(1:Int))))],[]⟩)):Ach t0 t2r t7 t8 t9 t10 K:=Ay (Au E0 Cg) (Ba Cg) 3 16 (Af 16 ac_r01_Span) [0,2,7,8,9,10] _ K rfl (kr (by kernel_rfl) h)
theorem Aq1(t7:Int)(K:KK)(h:
 (K .ret ⟨[(6,Ai t7)],[]⟩)):Alx t7 K:=Ay (Au E0 Cg) (Ba Cg) 3 22 (Af 22 ac_r01_Span) [] _ K rfl (kr (by kernel_rfl) h)
theorem Asm(t0:LB)(t2r:LL)(t7 t8:Int)(t9:Bool)(K:KK)(h:
 (Br (!t9)
 (K .ret ⟨[(6,Ai t7)],[]⟩)
 (K .normal ⟨[(0,As t0),(2,Al 1 t2r),(7,Ai (IntKind.i64.wrap (t7+(1:Int)))),(8,Ai t8)],[]⟩))):Als t0 t2r t7 t8 t9 K:=Ay (Au E0 Cg) (Ba Cg) 3 17 (Af 17 ac_r01_Span) [0,2,7,8] _ K rfl (kr (by kernel_rfl) h)
theorem Aq0(t0:LB)(t2r:LL)(t7 t8:Int)(K:KK)(h:
 (K .normal ⟨[(0,As t0),(2,Al 1 t2r),(7,Ai t7),(8,Ai (IntKind.i64.wrap (t8+(1:Int))))],[]⟩)):Al4 t0 t2r t7 t8 K:=Ay (Au E0 Cg) (Ba Cg) 3 21 (Af 21 ac_r01_Span) [0,2,7,8] _ K rfl (kr (by kernel_rfl) h)
theorem Aur(Q:QQ)(t6:Int)(h:
 (Q (Ai t6) [])):Afu Q .ret ⟨[(6,Ai t6)],[]⟩:=kr (by kernel_rfl) h
theorem Atb(Q:QQ)(t7:Int)(h:
 (Alx t7 (Afu Q))):Tu Q (.exit 0) ⟨[(7,Ai t7)],[]⟩:=kr (by kernel_rfl) h
theorem Atl(Q:QQ)(t6:Int)(h:
 (Q (Ai t6) [])):Tu Q .ret ⟨[(6,Ai t6)],[]⟩:=kr (by kernel_rfl) h
theorem Auh(K:KK)(t0:LB)(t2r:LL)(t7 t8:Int)(h:
 (Yy t0 t2r t7 t8 K)):Y4 K .normal ⟨[(0,As t0),(2,Al 1 t2r),(7,Ai t7),(8,Ai t8)],[]⟩:=kr (by kernel_rfl) h
theorem Atx(K:KK)(t6:Int)(h:
 (K .ret ⟨[(6,Ai t6)],[]⟩)):Sv K .ret ⟨[(6,Ai t6)],[]⟩:=kr (by kernel_rfl) h
theorem Auc(K:KK)(t0:LB)(t2r:LL)(t7 t8:Int)(h:
 (Al4 t0 t2r t7 t8 (Y4 K))):Sv K .normal ⟨[(0,As t0),(2,Al 1 t2r),(7,Ai t7),(8,Ai t8)],[]⟩:=kr (by kernel_rfl) h
theorem Ata(K:KK)(t0:LB)(t2r:LL)(t7 t8:Int)(t9:Bool)(h:
 (Als t0 t2r t7 t8 t9 (Sv K))):Agk K (.exit (2)) ⟨[(0,As t0),(2,Al 1 t2r),(7,Ai t7),(8,Ai t8),(9,Ab t9)],[]⟩:=kr (by kernel_rfl) h
theorem As2(K:KK)(t0:LB)(t2r:LL)(t7 t8:Int)(t9:Bool)(t10:Int)(h:
 (Wv t0 t2r t7 t8 t9 t10 K)):Afp K .normal ⟨[(0,As t0),(2,Al 1 t2r),(7,Ai t7),(8,Ai t8),(9,Ab t9),(10,Ai t10)],[]⟩:=kr (by kernel_rfl) h
theorem A2l:Bt E0.P 114 ac_r01_Span.code Cg [.tmp 6]:=Bl _ _ Try.f114 [(6,[0,2,7,8],[]),(8,[7],[]),(12,[0,2,7,8,9,10],[]),(14,[0,2,7,8,9],[]),(16,[0,2,7,8,9,10],[0,2,7,8,9,10]),(17,[0,2,7,8,9],[0,2,7,8]),(21,[0,2,7,8],[0,2,7,8]),(22,[7],[])] [6] _ 44 Try.func114 (by kernel_rfl) (by kernel_rfl) (by kernel_rfl) (by kernel_rfl)
theorem Axy(a0:LB)(a1:Int)(a2:LL)(Q:QQ)(h:
 (Br (decide (a1<(0:Int)))
 (Q (Ai 0) [])
 (Yy a0 a2 ((0:Int)) a1 (Tu Q)))):Call E0.P Ain [As a0,Ai a1,Al 1 a2] [] Q:=Bd (Au E0 Cg) (Ba Cg) 3 0 114 ac_r01_Span [.tmp 6] A2l _ _ Q rfl rfl (kr (by kernel_rfl) h)
noncomputable def ac_r02_Loose:AC:=(Bf [(3,[0,4],[]),(6,[5,6],[])] [2,3] (codeOf Try.f115) 0).1
abbrev Je:Nat:=38
def N9(t0:LB)(t4:Bool)(K:KK):Prop:=Ar 3 E0.P Je (Af 3 ac_r02_Loose).code ⟨[(0,As t0),(4,Ab t4)],[]⟩ K
def Ws(t5 t6:Int)(K:KK):Prop:=Ar 6 E0.P Je (Af 6 ac_r02_Loose).code ⟨[(5,Ai t5),(6,Ai t6)],[]⟩ K
def Ob(Q:QQ):KK:=kE fun st=>finish 0 E0.T [.tmp 2, .tmp 3] [] Q st
def Adf(K:KK):KK:=kP [] K
theorem Arb(t0:LB)(t4:Bool)(K:KK)(h:
 (Call E0.P Yt [As t0] [] fun r0 g0=>
 Ao (A4q g0 r0)
 (Br (t4)
 (Ws (IntKind.i64.wrap ((0:Int) - rI (rT r0 0))) (rI (rT r0 1)) (Adf K))
 (Ws (rI (rT r0 0)) (rI (rT r0 1)) (Adf K))))):N9 t0 t4 K:=Ay (Au E0 Je) (Ba Je) 3 3 (Af 3 ac_r02_Loose) [] _ K rfl (kr (by kernel_rfl) h)
theorem Asf(t5 t6:Int)(K:KK)(h:
 (K .ret ⟨[(2,Ai t5),(3,Ai t6)],[]⟩)):Ws t5 t6 K:=Ay (Au E0 Je) (Ba Je) 3 6 (Af 6 ac_r02_Loose) [] _ K rfl (kr (by kernel_rfl) h)
theorem Aql(Q:QQ)(t2 t3:Int)(h:
 (Q (.tup [Ai t2,Ai t3]) [])):Ob Q .ret ⟨[(2,Ai t2),(3,Ai t3)],[]⟩:=kr (by kernel_rfl) h
theorem Aqq(K:KK)(t2 t3:Int)(h:
 (K .ret ⟨[(2,Ai t2),(3,Ai t3)],[]⟩)):Adf K .ret ⟨[(2,Ai t2),(3,Ai t3)],[]⟩:=kr (by kernel_rfl) h
theorem Azf:Bt E0.P 115 ac_r02_Loose.code Je [.tmp 2, .tmp 3]:=Bl _ _ Try.f115 [(3,[0,4],[]),(6,[5,6],[])] [2,3] _ 38 Try.func115 (by kernel_rfl) (by kernel_rfl) (by kernel_rfl) (by kernel_rfl)
theorem Avr(a0:LB)(Q:QQ)(h:
 (Ao ((!a0 == [])=true→(0:Int)≤(0:Int)∧(0:Int)<(↑a0.length:Int))
 (Let (bif !a0 == []then decide ((↑(a0.getD (0:Nat) 0).toNat:Int)=(45:Int))else false) fun x0=>
 Ao ((!a0 == [])=true→(0:Int)≤(0:Int)∧(0:Int)<(↑a0.length:Int))
 (Br ((!a0 == []) == true)
 (Ao (decide ((↑(a0.getD (0:Nat) 0).toNat:Int)=(43:Int))=false→
 (0:Int)≤(0:Int)∧(0:Int)<(↑a0.length:Int))
 (Let (bif decide ((↑(a0.getD (0:Nat) 0).toNat:Int)=(43:Int))then true
 else decide ((↑(a0.getD (0:Nat) 0).toNat:Int)=(45:Int))) fun x1=>
 Let (x1) fun x2=>
 Br (x2)
 (Ao ((0:Int)≤(1:Int)∧(1:Int)≤(↑a0.length:Int))
 (Let (List.drop 1 a0) fun x3=>
 N9 x3 x0 (Ob Q)))
 (N9 a0 x0 (Ob Q))))
 (Ao ((!true)=false)
 (Let (false) fun x4=>
 Br (x4)
 (Ao ((0:Int)≤(1:Int)∧(1:Int)≤(↑a0.length:Int))
 (Let (List.drop 1 a0) fun x5=>
 N9 x5 x0 (Ob Q)))
 (N9 a0 x0 (Ob Q)))))))):Call E0.P Afj [As a0] [] Q:=Bd (Au E0 Je) (Ba Je) 3 0 115 ac_r02_Loose [.tmp 2, .tmp 3] Azf _ _ Q rfl rfl (kr (by kernel_rfl) h)
noncomputable def ac_octet_within:AC:=(Bf [] [4] (codeOf Try.f119) 0).1
abbrev Zh:Nat:=13
theorem Aua:Bt E0.P 119 ac_octet_within.code Zh [.tmp 4]:=Bl _ _ Try.f119 [] [4] _ 13 Try.func119 (by kernel_rfl) (by kernel_rfl) (by kernel_rfl) (by kernel_rfl)
theorem Apr(a0:LB)(a1:Int)(Q:QQ)(h:
 (Let (bif decide ((0:Int)≤a1)then decide (a1<(↑a0.length:Int))else false) fun x0=>
 Q (Ab x0) [])):Call E0.P R8 [As a0,Ai a1] [] Q:=Bd (Au E0 Zh) (Ba Zh) 3 0 119 ac_octet_within [.tmp 4] Aua _ _ Q rfl rfl (kr (by kernel_rfl) h)
noncomputable def ac_octet_Kind:AC:=(Bf [(7,[3,4],[]),(20,[],[])] [2] (codeOf Try.f120) 0).1
abbrev G7:Nat:=22
def Hd(t3:Int)(t4:Bool)(K:KK):Prop:=Ar 7 E0.P G7 (Af 7 ac_octet_Kind).code ⟨[(3, .imm (.int .u8 t3)),(4,Ab t4)],[]⟩ K
def Aho(K:KK):Prop:=Ar 20 E0.P G7 (Af 20 ac_octet_Kind).code ⟨[],[]⟩ K
def Aa6(Q:QQ):KK:=kE fun st=>finish 0 E0.T [.tmp 2] [] Q st
def Er(Q:QQ):KK:=kF 0 (fun st=>Ar 20 E0.P G7 (Af 20 ac_octet_Kind).code (mask [] st) (Aa6 Q)) fun st=>finish 0 E0.T [.tmp 2] [] Q st
theorem Apc(t3:Int)(t4:Bool)(K:KK)(h:
 (Br (t4)
 (K .ret ⟨[(2,Ai 0)],[]⟩)
 (Br (decide (t3=(40:Int)))
 (Br (decide (t3=(40:Int)))
 (K .ret ⟨[(2,Ai 1)],[]⟩)
 (K .normal ⟨[],[]⟩))
 (Br (decide (t3=(41:Int)))
 (Br (decide (t3=(41:Int)))
 (K .ret ⟨[(2,Ai 1)],[]⟩)
 (K .normal ⟨[],[]⟩))
 (Br (decide (t3=(60:Int)))
 (Br (decide (t3=(60:Int)))
 (K .ret ⟨[(2,Ai 1)],[]⟩)
 (K .normal ⟨[],[]⟩))
 (Br (decide (t3=(62:Int)))
 (Br (decide (t3=(62:Int)))
 (K .ret ⟨[(2,Ai 1)],[]⟩)
 (K .normal ⟨[],[]⟩))
 (Br (decide (t3=(91:Int)))
 (Br (decide (t3=(91:Int)))
 (K .ret ⟨[(2,Ai 1)],[]⟩)
 (K .normal ⟨[],[]⟩))
 (Br (decide (t3=(93:Int)))
 (Br (decide (t3=(93:Int)))
 (K .ret ⟨[(2,Ai 1)],[]⟩)
 (K .normal ⟨[],[]⟩))
 (Br (decide (t3=(123:Int)))
 (Br (decide (t3=(123:Int)))
 (K .ret ⟨[(2,Ai 1)],[]⟩)
 (K .normal ⟨[],[]⟩))
 (Br (decide (t3=(125:Int)))
 (Br (decide (t3=(125:Int)))
 (K .ret ⟨[(2,Ai 1)],[]⟩)
 (K .normal ⟨[],[]⟩))
 (Br (decide (t3=(47:Int)))
 (Br (decide (t3=(47:Int)))
 (K .ret ⟨[(2,Ai 1)],[]⟩)
 (K .normal ⟨[],[]⟩))
 (Br (decide (t3=(37:Int)))
 (K .ret ⟨[(2,Ai 1)],[]⟩)
 (K .normal ⟨[],[]⟩))))))))))))):Hd t3 t4 K:=Ay (Au E0 G7) (Ba G7) 3 7 (Af 7 ac_octet_Kind) [] _ K rfl (kr (by kernel_rfl) h)
theorem An4(K:KK)(h:
 (K .ret ⟨[(2,Ai 2)],[]⟩)):Aho K:=Ay (Au E0 G7) (Ba G7) 3 20 (Af 20 ac_octet_Kind) [] _ K rfl (kr (by kernel_rfl) h)
theorem Apt(Q:QQ)(t2:Int)(h:
 (Q (Ai t2) [])):Aa6 Q .ret ⟨[(2,Ai t2)],[]⟩:=kr (by kernel_rfl) h
theorem Vl(Q:QQ)(t2:Int)(h:
 (Q (Ai t2) [])):Er Q .ret ⟨[(2,Ai t2)],[]⟩:=kr (by kernel_rfl) h
theorem Apl(Q:QQ)(h:
 (Aho (Aa6 Q))):Er Q .normal ⟨[],[]⟩:=kr (by kernel_rfl) h
theorem Ax9:Bt E0.P 120 ac_octet_Kind.code G7 [.tmp 2]:=Bl _ _ Try.f120 [(7,[3,4],[]),(20,[],[])] [2] _ 22 Try.func120 (by kernel_rfl) (by kernel_rfl) (by kernel_rfl) (by kernel_rfl)
theorem Auo(a0:Int)(Q:QQ)(h:
 (Br (decide (a0=(0:Int)))
 (Hd a0 (decide (a0=(0:Int))) (Er Q))
 (Br (decide (a0=(9:Int)))
 (Hd a0 (decide (a0=(9:Int))) (Er Q))
 (Br (decide (a0=(10:Int)))
 (Hd a0 (decide (a0=(10:Int))) (Er Q))
 (Br (decide (a0=(12:Int)))
 (Hd a0 (decide (a0=(12:Int))) (Er Q))
 (Br (decide (a0=(13:Int)))
 (Hd a0 (decide (a0=(13:Int))) (Er Q))
 (Hd a0 (decide (a0=(32:Int))) (Er Q)))))))):Call E0.P Nz [.imm (.int .u8 a0)] [] Q:=Bd (Au E0 G7) (Ba G7) 3 0 120 ac_octet_Kind [.tmp 2] Ax9 _ _ Q rfl rfl (kr (by kernel_rfl) h)
noncomputable def ac_token_scanner_escaped:AC:=(Bf [] [2,3] (codeOf Try.f122) 0).1
abbrev M4:Nat:=62
theorem Afo:Bt E0.P 122 ac_token_scanner_escaped.code M4 [.tmp 2, .tmp 3]:=Bl _ _ Try.f122 [] [2,3] _ 62 Try.func122 (by kernel_rfl) (by kernel_rfl) (by kernel_rfl) (by kernel_rfl)
theorem Le(s:LB)(at_:Int)(out:LL)(Q:QQ)(h:
 (Br (decide (IntKind.i64.wrap ((↑s.length:Int) - at_)<(2:Int)))
 (Q (.tup [.imm (.int .u8 ((0:Int))),Ab false]) [(Ae, .blk Ac [As s,Ai at_, .own Av]),(Av, .arr (Ap+2) true 1 out)])
 (Ao ((0:Int)≤at_∧at_<(↑s.length:Int))
 (Ao ((0:Int)≤IntKind.i64.wrap (at_+(1:Int))∧IntKind.i64.wrap (at_+(1:Int))<(↑s.length:Int))
 (Call E0.P Sz [.imm (.int .u8 ((↑(s.getD at_.toNat 0).toNat:Int)))] [] fun r0 g0=>
 Ao (Mv g0 r0)
 (Call E0.P Sz [.imm (.int .u8 ((↑(s.getD (IntKind.i64.wrap (at_+(1:Int))).toNat 0).toNat:Int)))] [] fun r1 g1=>
 Ao (Mv g1 r1)
 (Let (bif decide (rI r0<(0:Int))then true else decide (rI r1<(0:Int))) fun x2=>
 Let (bif x2 then true else decide (IntKind.i64.wrap (rI r0+rI r1)=(0:Int))) fun x3=>
 Br (x3)
 (Q (.tup [.imm (.int .u8 ((0:Int))),Ab false]) [(Ae, .blk Ac [As s,Ai (IntKind.i64.wrap (at_+(2:Int))), .own Av]),(Av, .arr (Ap+2) true 1 out)])
 (Ao ((0:Int)≤(4:Int))
 (Q (.tup [.imm (.int .u8 (IntKind.u8.wrap
 (IntKind.i64.wrap
 (↑(BitVec.ofInt (64:Nat) (IntKind.i64.wrap (rI r0*(2:Int) ^ (4:Nat))) |||
 BitVec.ofInt (64:Nat) (rI r1)).toNat:
 Int)))),Ab true]) [(Ae, .blk Ac [As s,Ai (IntKind.i64.wrap (at_+(2:Int))), .own Av]),(Av, .arr (Ap+2) true 1 out)]))))))))):Call E0.P G6 [.ptr (.arg 0) 0] [(.arg 0, .blk Ac [.imm (.str s), .imm (.int .i64 at_), .own (.arg 1)]),(.arg 1, .arr (Ap+2) true 1 out)] Q:=Bd (Au E0 M4) (Ba M4) 3 0 122 ac_token_scanner_escaped [.tmp 2, .tmp 3] Afo _ _ Q rfl rfl (kr (by kernel_rfl) h)
noncomputable def ac_token_scanner_escape:AC:=(Bf [(21,[0,3],[])] [2] (codeOf Try.f124) 0).1
abbrev Fx:Nat:=77
def Bw(t3:Int)(u0:LB)(u1:Int)(u2:LL)(K:KK):Prop:=Ar 21 E0.P Fx (Af 21 ac_token_scanner_escape).code ⟨[(0, .ptr Ae 0),(3, .imm (.int .u8 t3))],[(Ae, .blk Ac [As u0,Ai u1, .own Av]),(Av, .arr (Ap+2) true 1 u2)]⟩ K
def Cb(s:LB)(at_:Int)(out:LL)(Q:QQ):KK:=kE fun st=>finish 0 E0.T [.tmp 2] [(Ae, .blk Ac [As s,Ai at_, .own Av]),(Av, .arr (Ap+2) true 1 out)] Q st
theorem Aa2(t3:Int)(u0:LB)(u1:Int)(u2:LL)(K:KK)(h:
 (Ao ((u2.length+1)*1≤140737488355328∧u2.length+1≤140737488355328)
 (K .ret ⟨[(2,Ab true)],[(Ae, .blk Ac [As u0,Ai u1, .own Av]),(Av, .arr (Ap+2) true 1 (u2++[[IV.int .u8 t3]]))]⟩))):Bw t3 u0 u1 u2 K:=Ay (Au E0 Fx) (Ba Fx) 3 21 (Af 21 ac_token_scanner_escape) [] _ K rfl (kr (by kernel_rfl) h)
theorem Ab7(s:LB)(at_:Int)(out:LL)(Q:QQ)(t2:Bool)(u0:LB)(u1:Int)(u2:LL)(h:
 (Q (Ab t2) [(Ae, .blk Ac [As u0,Ai u1, .own Av]),(Av, .arr (Ap+2) true 1 u2)])):Cb s at_ out Q .ret ⟨[(2,Ab t2)],[(Ae, .blk Ac [As u0,Ai u1, .own Av]),(Av, .arr (Ap+2) true 1 u2)]⟩:=kr (by kernel_rfl) h
theorem Ag7:Bt E0.P 124 ac_token_scanner_escape.code Fx [.tmp 2]:=Bl _ _ Try.f124 [(21,[0,3],[])] [2] _ 77 Try.func124 (by kernel_rfl) (by kernel_rfl) (by kernel_rfl) (by kernel_rfl)
theorem Sj(s:LB)(at_:Int)(out:LL)(Q:QQ)(h:
 (Br (decide ((↑s.length:Int)≤at_))
 (Br (!false)
 (Q (Ab false) [(Ae, .blk Ac [As s,Ai at_, .own Av]),(Av, .arr (Ap+2) true 1 out)])
 (Call E0.P Nw [As s,Ai at_] [] fun r0 g0=>
 Ao (Mv g0 r0)
 (Br (decide ((0:Int)<rI r0))
 (Q (Ab true) [(Ae, .blk Ac [As s,Ai (IntKind.i64.wrap (at_+rI r0)), .own Av]),(Av, .arr (Ap+2) true 1 out)])
 (Let (bif decide ((48:Int)≤(0:Int))then decide ((0:Int)≤(55:Int))else false) fun x1=>
 Br (x1)
 (((Call E0.P D7 [.ptr Ae 0] [(Ae, .blk Ac [As s,Ai at_, .own Av])] fun r2 g2=>
 Ao (Awe g2 r2)
 (Ao ((out.length+1)*1≤140737488355328∧out.length+1≤140737488355328)
 (Q (Ab true) [(Ae, .blk Ac [.imm (.str (rS ((Aw g2 Ae).getD 0 AV.undef))), .imm (.int .i64 (rI ((Aw g2 Ae).getD 1 AV.undef))), .own Av]),(Av, .arr (Ap+2) true 1 (out++[[IV.int .u8 (rI r2)]]))])))∧
 (Call E0.P D7 [.ptr Ae 0] [(Ae, .blk Ac [As s,Ai at_, .own Av])] fun r3 g3=>
 Ao (Awe g3 r3)
 ((Ao ((out.length+1)*1≤140737488355328∧out.length+1≤140737488355328)
 (Q (Ab true) [(Ae, .blk Ac [.imm (.str (rS ((Aw g3 Ae).getD 0 AV.undef))), .imm (.int .i64 (rI ((Aw g3 Ae).getD 1 AV.undef))), .own Av]),(Av, .arr (Ap+2) true 1 (out++[[IV.int .u8 (rI r3)]]))]))∧
 (Ao ((out.length+1)*1≤140737488355328∧out.length+1≤140737488355328)
 (Q (Ab true) [(Ae, .blk Ac [.imm (.str (rS ((Aw g3 Ae).getD 0 AV.undef))), .imm (.int .i64 (rI ((Aw g3 Ae).getD 1 AV.undef))), .own Av]),(Av, .arr (Ap+2) true 1 (out++[[IV.int .u8 (rI r3)]]))])))))∧
 (Call E0.P D7 [.ptr Ae 0] [(Ae, .blk Ac [As s,Ai at_, .own Av])] fun r4 g4=>
 Ao (Awe g4 r4)
 (((Ao ((out.length+1)*1≤140737488355328∧out.length+1≤140737488355328)
 (Q (Ab true) [(Ae, .blk Ac [.imm (.str (rS ((Aw g4 Ae).getD 0 AV.undef))), .imm (.int .i64 (rI ((Aw g4 Ae).getD 1 AV.undef))), .own Av]),(Av, .arr (Ap+2) true 1 (out++[[IV.int .u8 (rI r4)]]))]))∧
 (Ao ((out.length+1)*1≤140737488355328∧out.length+1≤140737488355328)
 (Q (Ab true) [(Ae, .blk Ac [.imm (.str (rS ((Aw g4 Ae).getD 0 AV.undef))), .imm (.int .i64 (rI ((Aw g4 Ae).getD 1 AV.undef))), .own Av]),(Av, .arr (Ap+2) true 1 (out++[[IV.int .u8 (rI r4)]]))])))∧
 (Ao ((out.length+1)*1≤140737488355328∧out.length+1≤140737488355328)
 (Q (Ab true) [(Ae, .blk Ac [.imm (.str (rS ((Aw g4 Ae).getD 0 AV.undef))), .imm (.int .i64 (rI ((Aw g4 Ae).getD 1 AV.undef))), .own Av]),(Av, .arr (Ap+2) true 1 (out++[[IV.int .u8 (rI r4)]]))])))))
 (Br (decide ((0:Int)=(110:Int)))
 (Bw ((10:Int)) s (IntKind.i64.wrap (at_+(1:Int))) out (Cb s at_ out Q))
 (Br (decide ((0:Int)=(114:Int)))
 (Bw ((13:Int)) s (IntKind.i64.wrap (at_+(1:Int))) out (Cb s at_ out Q))
 (Br (decide ((0:Int)=(116:Int)))
 (Bw ((9:Int)) s (IntKind.i64.wrap (at_+(1:Int))) out (Cb s at_ out Q))
 (Br (decide ((0:Int)=(98:Int)))
 (Bw ((8:Int)) s (IntKind.i64.wrap (at_+(1:Int))) out (Cb s at_ out Q))
 (Br (decide ((0:Int)=(102:Int)))
 (Bw ((12:Int)) s (IntKind.i64.wrap (at_+(1:Int))) out (Cb s at_ out Q))
 (Bw ((0:Int)) s (IntKind.i64.wrap (at_+(1:Int))) out (Cb s at_ out Q)))))))))))
 (Ao ((0:Int)≤at_∧at_<(↑s.length:Int))
 (Br (!true)
 (Q (Ab false) [(Ae, .blk Ac [As s,Ai at_, .own Av]),(Av, .arr (Ap+2) true 1 out)])
 (Call E0.P Nw [As s,Ai at_] [] fun r5 g5=>
 Ao (Mv g5 r5)
 (Br (decide ((0:Int)<rI r5))
 (Q (Ab true) [(Ae, .blk Ac [As s,Ai (IntKind.i64.wrap (at_+rI r5)), .own Av]),(Av, .arr (Ap+2) true 1 out)])
 (Let (bif decide ((48:Int)≤(↑(s.getD at_.toNat 0).toNat:Int))then
 decide ((↑(s.getD at_.toNat 0).toNat:Int)≤(55:Int))
 else false) fun x6=>
 Br (x6)
 (((Call E0.P D7 [.ptr Ae 0] [(Ae, .blk Ac [As s,Ai at_, .own Av])] fun r7 g7=>
 Ao (Awe g7 r7)
 (Ao ((out.length+1)*1≤140737488355328∧out.length+1≤140737488355328)
 (Q (Ab true) [(Ae, .blk Ac [.imm (.str (rS ((Aw g7 Ae).getD 0 AV.undef))), .imm (.int .i64 (rI ((Aw g7 Ae).getD 1 AV.undef))), .own Av]),(Av, .arr (Ap+2) true 1 (out++[[IV.int .u8 (rI r7)]]))])))∧
 (Call E0.P D7 [.ptr Ae 0] [(Ae, .blk Ac [As s,Ai at_, .own Av])] fun r8 g8=>
 Ao (Awe g8 r8)
 ((Ao ((out.length+1)*1≤140737488355328∧out.length+1≤140737488355328)
 (Q (Ab true) [(Ae, .blk Ac [.imm (.str (rS ((Aw g8 Ae).getD 0 AV.undef))), .imm (.int .i64 (rI ((Aw g8 Ae).getD 1 AV.undef))), .own Av]),(Av, .arr (Ap+2) true 1 (out++[[IV.int .u8 (rI r8)]]))]))∧
 (Ao ((out.length+1)*1≤140737488355328∧out.length+1≤140737488355328)
 (Q (Ab true) [(Ae, .blk Ac [.imm (.str (rS ((Aw g8 Ae).getD 0 AV.undef))), .imm (.int .i64 (rI ((Aw g8 Ae).getD 1 AV.undef))), .own Av]),(Av, .arr (Ap+2) true 1 (out++[[IV.int .u8 (rI r8)]]))])))))∧
 (Call E0.P D7 [.ptr Ae 0] [(Ae, .blk Ac [As s,Ai at_, .own Av])] fun r9 g9=>
 Ao (Awe g9 r9)
 (((Ao ((out.length+1)*1≤140737488355328∧out.length+1≤140737488355328)
 (Q (Ab true) [(Ae, .blk Ac [.imm (.str (rS ((Aw g9 Ae).getD 0 AV.undef))), .imm (.int .i64 (rI ((Aw g9 Ae).getD 1 AV.undef))), .own Av]),(Av, .arr (Ap+2) true 1 (out++[[IV.int .u8 (rI r9)]]))]))∧
 (Ao ((out.length+1)*1≤140737488355328∧out.length+1≤140737488355328)
 (Q (Ab true) [(Ae, .blk Ac [.imm (.str (rS ((Aw g9 Ae).getD 0 AV.undef))), .imm (.int .i64 (rI ((Aw g9 Ae).getD 1 AV.undef))), .own Av]),(Av, .arr (Ap+2) true 1 (out++[[IV.int .u8 (rI r9)]]))])))∧
 (Ao ((out.length+1)*1≤140737488355328∧out.length+1≤140737488355328)
 (Q (Ab true) [(Ae, .blk Ac [.imm (.str (rS ((Aw g9 Ae).getD 0 AV.undef))), .imm (.int .i64 (rI ((Aw g9 Ae).getD 1 AV.undef))), .own Av]),(Av, .arr (Ap+2) true 1 (out++[[IV.int .u8 (rI r9)]]))])))))
 (Br (decide ((↑(s.getD at_.toNat 0).toNat:Int)=(110:Int)))
 (Bw ((10:Int)) s (IntKind.i64.wrap (at_+(1:Int))) out (Cb s at_ out Q))
 (Br (decide ((↑(s.getD at_.toNat 0).toNat:Int)=(114:Int)))
 (Bw ((13:Int)) s (IntKind.i64.wrap (at_+(1:Int))) out (Cb s at_ out Q))
 (Br (decide ((↑(s.getD at_.toNat 0).toNat:Int)=(116:Int)))
 (Bw ((9:Int)) s (IntKind.i64.wrap (at_+(1:Int))) out (Cb s at_ out Q))
 (Br (decide ((↑(s.getD at_.toNat 0).toNat:Int)=(98:Int)))
 (Bw ((8:Int)) s (IntKind.i64.wrap (at_+(1:Int))) out (Cb s at_ out Q))
 (Br (decide ((↑(s.getD at_.toNat 0).toNat:Int)=(102:Int)))
 (Bw ((12:Int)) s (IntKind.i64.wrap (at_+(1:Int))) out (Cb s at_ out Q))
 (Bw ((↑(s.getD at_.toNat 0).toNat:Int)) s (IntKind.i64.wrap (at_+(1:Int))) out (Cb s at_ out Q)))))))))))))):Call E0.P Jv [.ptr (.arg 0) 0] [(.arg 0, .blk Ac [.imm (.str s), .imm (.int .i64 at_), .own (.arg 1)]),(.arg 1, .arr (Ap+2) true 1 out)] Q:=Bd (Au E0 Fx) (Ba Fx) 3 0 124 ac_token_scanner_escape [.tmp 2] Ag7 _ _ Q rfl rfl (kr (by kernel_rfl) h)
noncomputable def ac_octet_Hex:AC:=(Bf [] [2] (codeOf Try.f126) 0).1
abbrev Afx:Nat:=35
theorem A04:Bt E0.P 126 ac_octet_Hex.code Afx [.tmp 2]:=Bl _ _ Try.f126 [] [2] _ 35 Try.func126 (by kernel_rfl) (by kernel_rfl) (by kernel_rfl) (by kernel_rfl)
theorem Au9(a0:Int)(Q:QQ)(h:
 (Let (bif decide ((48:Int)≤a0)then decide (a0≤(57:Int))else false) fun x0=>
 Br (x0)
 (Q (.imm (.int .i64 (IntKind.i64.wrap (IntKind.u8.wrap (a0 - (48:Int)))))) [])
 (Let (bif decide ((65:Int)≤a0)then decide (a0≤(70:Int))else false) fun x1=>
 Br (x1)
 (Q (.imm (.int .i64 (IntKind.i64.wrap (IntKind.i64.wrap (IntKind.u8.wrap (a0 - (65:Int)))+(10:Int))))) [])
 (Let (bif decide ((97:Int)≤a0)then decide (a0≤(102:Int))else false) fun x2=>
 Br (x2)
 (Q (.imm (.int .i64 (IntKind.i64.wrap (IntKind.i64.wrap (IntKind.u8.wrap (a0 - (97:Int)))+(10:Int))))) [])
 (Q (Ai (-1)) []))))):Call E0.P Sz [.imm (.int .u8 a0)] [] Q:=Bd (Au E0 Afx) (Ba Afx) 3 0 126 ac_octet_Hex [.tmp 2] A04 _ _ Q rfl rfl (kr (by kernel_rfl) h)
noncomputable def ac_digits_Loose:AC:=(Bf [(4,[6,7],[])] [2,3] (codeOf Try.f127) 0).1
abbrev Kq:Nat:=23
def Qw(t6 t7:Int)(K:KK):Prop:=Ar 4 E0.P Kq (Af 4 ac_digits_Loose).code ⟨[(6,Ai t6),(7,Ai t7)],[]⟩ K
def Xj(Q:QQ):KK:=kE fun st=>finish 0 E0.T [.tmp 2, .tmp 3] [] Q st
theorem Amv(t6 t7:Int)(K:KK)(h:
 (K .ret ⟨[(2,Ai t6),(3,Ai t7)],[]⟩)):Qw t6 t7 K:=Ay (Au E0 Kq) (Ba Kq) 3 4 (Af 4 ac_digits_Loose) [] _ K rfl (kr (by kernel_rfl) h)
theorem Aml(Q:QQ)(t2 t3:Int)(h:
 (Q (.tup [Ai t2,Ai t3]) [])):Xj Q .ret ⟨[(2,Ai t2),(3,Ai t3)],[]⟩:=kr (by kernel_rfl) h
theorem Auk:Bt E0.P 127 ac_digits_Loose.code Kq [.tmp 2, .tmp 3]:=Bl _ _ Try.f127 [(4,[6,7],[])] [2,3] _ 23 Try.func127 (by kernel_rfl) (by kernel_rfl) (by kernel_rfl) (by kernel_rfl)
theorem Apb(a0:LB)(Q:QQ)(h:
 (Call E0.P M6 [As a0, .imm (.str [43,45])] [] fun r0 g0=>
 Ao (g0=[]∧r0= .tup [.imm (.bool (rB (rT r0 0))), .imm (.str (rS (rT r0 1)))])
 (Call E0.P Ze [As (rS (rT r0 1))] [] fun r1 g1=>
 Ao (A4q g1 r1)
 (Br (rB (rT r0 0))
 (Qw (IntKind.i64.wrap ((0:Int) - rI (rT r1 0))) (rI (rT r1 1)) (Xj Q))
 (Qw (rI (rT r1 0)) (rI (rT r1 1)) (Xj Q)))))):Call E0.P Zu [As a0] [] Q:=Bd (Au E0 Kq) (Ba Kq) 3 0 127 ac_digits_Loose [.tmp 2, .tmp 3] Auk _ _ Q rfl rfl (kr (by kernel_rfl) h)
noncomputable def ac_r02_Fixed:AC:=(Bf [(1,[0,14],[0]),(3,[0],[]),(6,[0,4,5],[]),(8,[4],[]),(14,[4],[])] [2,3] (codeOf Try.f128) 0).1
abbrev Dq:Nat:=32
def Adc(t0:LB)(t14:Bool)(K:KK):Prop:=Ar 1 E0.P Dq (Af 1 ac_r02_Fixed).code ⟨[(0,As t0),(14,Ab t14)],[]⟩ K
def Alr(t0:LB)(K:KK):Prop:=Ar 3 E0.P Dq (Af 3 ac_r02_Fixed).code ⟨[(0,As t0)],[]⟩ K
def Wz(t0:LB)(t4 t5:Int)(K:KK):Prop:=Bj 6 E0.P Dq (Az 6 ac_r02_Fixed).code ⟨[(0,As t0),(4,Ai t4),(5,Ai t5)],[]⟩ K
def Ajx(t4:Int)(K:KK):Prop:=Ar 14 E0.P Dq (Af 14 ac_r02_Fixed).code ⟨[(4,Ai t4)],[]⟩ K
def Acj(Q:QQ):KK:=kE fun st=>finish 0 E0.T [.tmp 2, .tmp 3] [] Q st
def Xb(Q:QQ):Ex→St→Prop
 | .normal,st=>Ar 3 E0.P Dq (Af 3 ac_r02_Fixed).code (mask [0] st) (Acj Q)
 | .exit _,_=>False
 | .goto _,_=>False
 | .ret,st=>finish 0 E0.T [.tmp 2, .tmp 3] [] Q st
def Acb(K:KK):KK:=kP [] K
def Ac1(K:KK):KK:=kC 0 (fun st=>Ar 14 E0.P Dq (Af 14 ac_r02_Fixed).code (mask [4] st) (Acb K)) K
theorem Agz(t0:LB)(t14:Bool)(K:KK)(h:
 (Br (t14)
 (K .ret ⟨[(2,Ai 0),(3,Ai 4)],[]⟩)
 (K .normal ⟨[(0,As t0)],[]⟩))):Adc t0 t14 K:=Ay (Au E0 Dq) (Ba Dq) 3 1 (Af 1 ac_r02_Fixed) [0] _ K rfl (kr (by kernel_rfl) h)
theorem Aqm(t0:LB)(K:KK)(h:
 (Wz t0 ((0:Int)) ((0:Int)) (Ac1 K))):Alr t0 K:=Ay (Au E0 Dq) (Ba Dq) 3 3 (Af 3 ac_r02_Fixed) [] _ K rfl (kr (by kernel_rfl) h)
theorem Aq2(t0:LB)(t4 t5:Int)(K:KK)(h:
 (Br (decide (t5<(↑t0.length:Int)))
 (Ao ((0:Int)≤t5∧t5<(↑t0.length:Int))
 (Br (decide
 ((2147483647:Int)<
 IntKind.i64.wrap
 (IntKind.i64.wrap
 (IntKind.i64.wrap ((10:Int)*t4)+IntKind.i64.wrap (↑(t0.getD t5.toNat 0).toNat:Int)) -
 (48:Int))))
 (K .ret ⟨[(2,Ai 0),(3,Ai 3)],[]⟩)
 (Wz t0 (IntKind.i64.wrap
 (IntKind.i64.wrap
 (IntKind.i64.wrap ((10:Int)*t4)+IntKind.i64.wrap (↑(t0.getD t5.toNat 0).toNat:Int)) -
 (48:Int))) (IntKind.i64.wrap (t5+(1:Int))) K)))
 (K (.exit 0) ⟨[(4,Ai t4)],[]⟩))):Wz t0 t4 t5 K:=Bo (Au E0 Dq) (Ba Dq) 3 6 (Az 6 ac_r02_Fixed) [0,4,5] _ K rfl (kr (by kernel_rfl) h)
theorem Apd(t4:Int)(K:KK)(h:
 (K .ret ⟨[(2,Ai t4),(3,Ai 0)],[]⟩)):Ajx t4 K:=Ay (Au E0 Dq) (Ba Dq) 3 14 (Af 14 ac_r02_Fixed) [] _ K rfl (kr (by kernel_rfl) h)
theorem Af6(Q:QQ)(t2 t3:Int)(h:
 (Q (.tup [Ai t2,Ai t3]) [])):Acj Q .ret ⟨[(2,Ai t2),(3,Ai t3)],[]⟩:=kr (by kernel_rfl) h
theorem Ae1(Q:QQ)(t2 t3:Int)(h:
 (Q (.tup [Ai t2,Ai t3]) [])):Xb Q .ret ⟨[(2,Ai t2),(3,Ai t3)],[]⟩:=kr (by kernel_rfl) h
theorem Asj(Q:QQ)(t0:LB)(h:
 (Alr t0 (Acj Q))):Xb Q .normal ⟨[(0,As t0)],[]⟩:=kr (by kernel_rfl) h
theorem Aqv(K:KK)(t2 t3:Int)(h:
 (K .ret ⟨[(2,Ai t2),(3,Ai t3)],[]⟩)):Acb K .ret ⟨[(2,Ai t2),(3,Ai t3)],[]⟩:=kr (by kernel_rfl) h
theorem Arp(K:KK)(t2 t3:Int)(h:
 (K .ret ⟨[(2,Ai t2),(3,Ai t3)],[]⟩)):Ac1 K .ret ⟨[(2,Ai t2),(3,Ai t3)],[]⟩:=kr (by kernel_rfl) h
theorem Arq(K:KK)(t4:Int)(h:
 (Ajx t4 (Acb K))):Ac1 K (.exit 0) ⟨[(4,Ai t4)],[]⟩:=kr (by kernel_rfl) h
theorem Azr:Bt E0.P 128 ac_r02_Fixed.code Dq [.tmp 2, .tmp 3]:=Bl _ _ Try.f128 [(1,[0,14],[0]),(3,[0],[]),(6,[0,4,5],[]),(8,[4],[]),(14,[4],[])] [2,3] _ 32 Try.func128 (by kernel_rfl) (by kernel_rfl) (by kernel_rfl) (by kernel_rfl)
theorem Avz(a0:LB)(Q:QQ)(h:
 (Br ((a0 == []) == false)
 (Call E0.P Agv [As a0] [] fun r0 g0=>
 Ao (Mv g0 r0)
 (Let (!decide (rI r0=(↑a0.length:Int))) fun x1=>
 Adc a0 x1 (Xb Q)))
 (Ao ((!false)=true)
 (Let (true) fun x2=>
 Adc a0 x2 (Xb Q))))):Call E0.P Yt [As a0] [] Q:=Bd (Au E0 Dq) (Ba Dq) 3 0 128 ac_r02_Fixed [.tmp 2, .tmp 3] Azr _ _ Q rfl rfl (kr (by kernel_rfl) h)
noncomputable def ac_token_scanner_octal:AC:=(Bf [(3,[0,3,6],[]),(5,[3],[]),(9,[3],[]),(13,[3],[])] [2] (codeOf Try.f133) 0).1
abbrev C9:Nat:=39
def Hl(t3 t6:Int)(u0:LB)(u1:Int)(K:KK):Prop:=Bj 3 E0.P C9 (Az 3 ac_token_scanner_octal).code ⟨[(0, .ptr Ae 0),(3,Ai t3),(6,Ai t6)],[(Ae, .blk Ac [As u0,Ai u1, .own Av])]⟩ K
def Sl(t3:Int)(u0:LB)(u1:Int)(K:KK):Prop:=Ar 13 E0.P C9 (Af 13 ac_token_scanner_octal).code ⟨[(3,Ai t3)],[(Ae, .blk Ac [As u0,Ai u1, .own Av])]⟩ K
def Ns(s:LB)(at_:Int)(Q:QQ):KK:=kE fun st=>finish (4) E0.T [.tmp 2] [(Ae, .blk Ac [As s,Ai at_, .own Av])] Q st
def U7(s:LB)(at_:Int)(Q:QQ):KK:=kF 0 (fun st=>Ar 13 E0.P C9 (Af 13 ac_token_scanner_octal).code (mask [3] st) (Ns s at_ Q)) fun st=>finish (4) E0.T [.tmp 2] [(Ae, .blk Ac [As s,Ai at_, .own Av])] Q st
theorem Ri(t3 t6:Int)(u0:LB)(u1:Int)(K:KK)(h:
 (Br (decide (t6<(3:Int)))
 (Br (decide ((↑u0.length:Int)≤u1))
 (Let (bif !false then true else decide ((0:Int)<(48:Int))) fun x0=>
 Let (bif x0 then true else decide ((55:Int)<(0:Int))) fun x1=>
 Br (x1)
 (K (.exit 0) ⟨[(3,Ai t3)],[(Ae, .blk Ac [As u0,Ai u1, .own Av])]⟩)
 (Ao ((0:Int)≤(3:Int))
 (Hl (IntKind.i64.wrap
 (↑(BitVec.ofInt (64:Nat) (IntKind.i64.wrap (t3*(2:Int) ^ (3:Nat))) |||
 BitVec.ofInt (64:Nat) (IntKind.i64.wrap (IntKind.u8.wrap ((0:Int) - (48:Int))))).toNat:
 Int)) (IntKind.i64.wrap (t6+(1:Int))) u0 (IntKind.i64.wrap (u1+(1:Int))) K)))
 (Ao ((0:Int)≤u1∧u1<(↑u0.length:Int))
 (Let (bif !true then true else decide ((↑(u0.getD u1.toNat 0).toNat:Int)<(48:Int))) fun x2=>
 Let (bif x2 then true else decide ((55:Int)<(↑(u0.getD u1.toNat 0).toNat:Int))) fun x3=>
 Br (x3)
 (K (.exit 0) ⟨[(3,Ai t3)],[(Ae, .blk Ac [As u0,Ai u1, .own Av])]⟩)
 (Ao ((0:Int)≤(3:Int))
 (Hl (IntKind.i64.wrap
 (↑(BitVec.ofInt (64:Nat) (IntKind.i64.wrap (t3*(2:Int) ^ (3:Nat))) |||
 BitVec.ofInt (64:Nat)
 (IntKind.i64.wrap
 (IntKind.u8.wrap ((↑(u0.getD u1.toNat 0).toNat:Int) - (48:Int))))).toNat:
 Int)) (IntKind.i64.wrap (t6+(1:Int))) u0 (IntKind.i64.wrap (u1+(1:Int))) K)))))
 (K (.exit 0) ⟨[(3,Ai t3)],[(Ae, .blk Ac [As u0,Ai u1, .own Av])]⟩))):Hl t3 t6 u0 u1 K:=Bo (Au E0 C9) (Ba C9) 3 3 (Az 3 ac_token_scanner_octal) [0,3,6] _ K rfl (kr (by kernel_rfl) h)
theorem Ab3(t3:Int)(u0:LB)(u1:Int)(K:KK)(h:
 (K .ret ⟨[(2, .imm (.int .u8 (IntKind.u8.wrap t3)))],[(Ae, .blk Ac [As u0,Ai u1, .own Av])]⟩)):Sl t3 u0 u1 K:=Ay (Au E0 C9) (Ba C9) 3 13 (Af 13 ac_token_scanner_octal) [] _ K rfl (kr (by kernel_rfl) h)
theorem Ac9(s:LB)(at_:Int)(Q:QQ)(t2:Int)(u0:LB)(u1:Int)(h:
 (Q (.imm (.int .u8 t2)) [(Ae, .blk Ac [As u0,Ai u1, .own Av])])):Ns s at_ Q .ret ⟨[(2, .imm (.int .u8 t2))],[(Ae, .blk Ac [As u0,Ai u1, .own Av])]⟩:=kr (by kernel_rfl) h
theorem Acs(s:LB)(at_:Int)(Q:QQ)(t3:Int)(u0:LB)(u1:Int)(h:
 (Sl t3 u0 u1 (Ns s at_ Q))):U7 s at_ Q (.exit 0) ⟨[(3,Ai t3)],[(Ae, .blk Ac [As u0,Ai u1, .own Av])]⟩:=kr (by kernel_rfl) h
theorem Aid:Bt E0.P 133 ac_token_scanner_octal.code C9 [.tmp 2]:=Bl _ _ Try.f133 [(3,[0,3,6],[]),(5,[3],[]),(9,[3],[]),(13,[3],[])] [2] _ 39 Try.func133 (by kernel_rfl) (by kernel_rfl) (by kernel_rfl) (by kernel_rfl)
theorem Afs(s:LB)(at_:Int)(Q:QQ)(h:
 (Hl ((0:Int)) ((0:Int)) s at_ (U7 s at_ Q))):Call E0.P D7 [.ptr (.arg 0) 0] [(.arg 0, .blk Ac [.imm (.str s), .imm (.int .i64 at_), .own (.arg 1)])] Q:=Bd (Au E0 C9) (Ba C9) 3 4 133 ac_token_scanner_octal [.tmp 2] Aid _ _ Q rfl rfl (kr (by kernel_rfl) h)
noncomputable def ac_digits_signed:AC:=(Bf [(1,[0,14],[0]),(3,[0],[])] [4,5] (codeOf Try.f134) 0).1
abbrev E5:Nat:=21
def Vs(t0:LB)(t14:Bool)(K:KK):Prop:=Ar 1 E0.P E5 (Af 1 ac_digits_signed).code ⟨[(0,As t0),(14,Ab t14)],[]⟩ K
def Adn(t0:LB)(K:KK):Prop:=Ar 3 E0.P E5 (Af 3 ac_digits_signed).code ⟨[(0,As t0)],[]⟩ K
def Vh(Q:QQ):KK:=kE fun st=>finish 0 E0.T [.tmp 4, .tmp 5] [] Q st
def Pg(Q:QQ):Ex→St→Prop
 | .normal,st=>Ar 3 E0.P E5 (Af 3 ac_digits_signed).code (mask [0] st) (Vh Q)
 | .exit _,_=>False
 | .goto _,_=>False
 | .ret,st=>finish 0 E0.T [.tmp 4, .tmp 5] [] Q st
theorem Yq(t0:LB)(t14:Bool)(K:KK)(h:
 (Br (t14)
 (K .ret ⟨[(4,Ab false),(5,As t0)],[]⟩)
 (K .normal ⟨[(0,As t0)],[]⟩))):Vs t0 t14 K:=Ay (Au E0 E5) (Ba E5) 3 1 (Af 1 ac_digits_signed) [0] _ K rfl (kr (by kernel_rfl) h)
theorem Aks(t0:LB)(K:KK)(h:
 (Ao ((0:Int)≤(0:Int)∧(0:Int)<(↑t0.length:Int))
 (Ao ((0:Int)≤(1:Int)∧(1:Int)≤(↑t0.length:Int))
 (Let (List.drop 1 t0) fun x0=>
 K .ret ⟨[(4, .imm (.bool (decide ((↑(t0.getD (0:Nat) 0).toNat:Int)=(45:Int))))),(5,As x0)],[]⟩)))):Adn t0 K:=Ay (Au E0 E5) (Ba E5) 3 3 (Af 3 ac_digits_signed) [] _ K rfl (kr (by kernel_rfl) h)
theorem Akn(Q:QQ)(t4:Bool)(t5:LB)(h:
 (Q (.tup [Ab t4,As t5]) [])):Vh Q .ret ⟨[(4,Ab t4),(5,As t5)],[]⟩:=kr (by kernel_rfl) h
theorem Y8(Q:QQ)(t4:Bool)(t5:LB)(h:
 (Q (.tup [Ab t4,As t5]) [])):Pg Q .ret ⟨[(4,Ab t4),(5,As t5)],[]⟩:=kr (by kernel_rfl) h
theorem Alm(Q:QQ)(t0:LB)(h:
 (Adn t0 (Vh Q))):Pg Q .normal ⟨[(0,As t0)],[]⟩:=kr (by kernel_rfl) h
theorem Arc:Bt E0.P 134 ac_digits_signed.code E5 [.tmp 4, .tmp 5]:=Bl _ _ Try.f134 [(1,[0,14],[0]),(3,[0],[])] [4,5] _ 21 Try.func134 (by kernel_rfl) (by kernel_rfl) (by kernel_rfl) (by kernel_rfl)
theorem Ab5(a0 a1:LB)(Q:QQ)(h:
 (Ao ((a0 == [])=false→(0:Int)≤(1:Int)∧(1:Int)≤(↑a0.length:Int))
 (Let (List.take 1 a0) fun x0=>
 Br ((a0 == []) == false)
 (Call E0.P Aab [As a1,As x0] [] fun r1 g1=>
 Ao (qP0 g1 r1)
 (Let (!rB r1) fun x2=>
 Vs a0 x2 (Pg Q)))
 (Ao ((!false)=true)
 (Let (true) fun x3=>
 Vs a0 x3 (Pg Q)))))):Call E0.P M6 [As a0,As a1] [] Q:=Bd (Au E0 E5) (Ba E5) 3 0 134 ac_digits_signed [.tmp 4, .tmp 5] Arc _ _ Q rfl rfl (kr (by kernel_rfl) h)
noncomputable def ac_digits_Fixed:AC:=(Bf [(1,[0,15],[0]),(3,[0],[]),(7,[4,5,6],[]),(9,[5],[]),(15,[5],[])] [2,3] (codeOf Try.f135) 0).1
abbrev Ct:Nat:=31
def Xk(t0:LB)(t15:Bool)(K:KK):Prop:=Ar 1 E0.P Ct (Af 1 ac_digits_Fixed).code ⟨[(0,As t0),(15,Ab t15)],[]⟩ K
def Ago(t0:LB)(K:KK):Prop:=Ar 3 E0.P Ct (Af 3 ac_digits_Fixed).code ⟨[(0,As t0)],[]⟩ K
def Ef(t5 t6 u0:Int)(u1:LB)(K:KK):Prop:=Bj 7 E0.P Ct (Az 7 ac_digits_Fixed).code ⟨[(4, .fn Apa [.ptr (Nm.sub 17 Cx) 0, .ptr (Nm.sub 17 G8) 0]),(5,Ai t5),(6,Ai t6)],[((Nm.sub 17 Cx), .blk Vv [Ai u0]),((Nm.sub 17 G8), .blk A6g [As u1])]⟩ K
def Adi(t5:Int)(K:KK):Prop:=Ar 15 E0.P Ct (Af 15 ac_digits_Fixed).code ⟨[(5,Ai t5)],[]⟩ K
def X4(Q:QQ):KK:=kE fun st=>finish 0 E0.T [.tmp 2, .tmp 3] [] Q st
def Qv(Q:QQ):Ex→St→Prop
 | .normal,st=>Ar 3 E0.P Ct (Af 3 ac_digits_Fixed).code (mask [0] st) (X4 Q)
 | .exit _,_=>False
 | .goto _,_=>False
 | .ret,st=>finish 0 E0.T [.tmp 2, .tmp 3] [] Q st
def Xi(K:KK):KK:=kP [] K
def Kc(K:KK):KK:=kC 0 (fun st=>Ar 15 E0.P Ct (Af 15 ac_digits_Fixed).code (mask [5] st) (Xi K)) K
theorem Z9(t0:LB)(t15:Bool)(K:KK)(h:
 (Br (t15)
 (K .ret ⟨[(2,Ai 0),(3,Ai 4)],[]⟩)
 (K .normal ⟨[(0,As t0)],[]⟩))):Xk t0 t15 K:=Ay (Au E0 Ct) (Ba Ct) 3 1 (Af 1 ac_digits_Fixed) [0] _ K rfl (kr (by kernel_rfl) h)
theorem Amr(t0:LB)(K:KK)(h:
 (Ao (decide ((↑t0.length:Int)≤(0:Int))=false→(0:Int)≤(0:Int)∧(0:Int)<(↑t0.length:Int))
 (Br (decide ((↑t0.length:Int)≤(0:Int)) == false)
 (Call E0.P Og [.imm (.int .i32 (IntKind.i32.wrap (↑(t0.getD (0:Nat) 0).toNat:Int)))] [] fun r0 g0=>
 Ao (qP0 g0 r0)
 (Let (!rB r0) fun x1=>
 Br (x1)
 (Ef ((0:Int)) ((-1:Int)) ((0:Int)) t0 (Kc K))
 (Ao ((0:Int)≤IntKind.i64.wrap (IntKind.i64.wrap ((0:Int)+(1:Int)) - (1:Int))∧
 IntKind.i64.wrap (IntKind.i64.wrap ((0:Int)+(1:Int)) - (1:Int))<(↑t0.length:Int))
 (Ef ((0:Int)) (IntKind.i64.wrap (IntKind.u8.wrap ((↑(t0.getD (0:Nat) 0).toNat:Int) - (48:Int)))) (IntKind.i64.wrap ((0:Int)+(1:Int))) t0 (Kc K)))))
 (Ao ((!false)=true)
 (Let (true) fun x2=>
 Br (x2)
 (Ef ((0:Int)) ((-1:Int)) ((0:Int)) t0 (Kc K))
 (Ao ((0:Int)≤IntKind.i64.wrap (IntKind.i64.wrap ((0:Int)+(1:Int)) - (1:Int))∧
 IntKind.i64.wrap (IntKind.i64.wrap ((0:Int)+(1:Int)) - (1:Int))<(↑t0.length:Int))
 (Ef ((0:Int)) (IntKind.i64.wrap (IntKind.u8.wrap ((↑(t0.getD (0:Nat) 0).toNat:Int) - (48:Int)))) (IntKind.i64.wrap ((0:Int)+(1:Int))) t0 (Kc K)))))))):Ago t0 K:=Ay (Au E0 Ct) (Ba Ct) 3 3 (Af 3 ac_digits_Fixed) [] _ K rfl (kr (by kernel_rfl) h)
theorem Aac(t5 t6 u0:Int)(u1:LB)(K:KK)(h:
 (Br (decide ((0:Int)≤t6))
 (Br (decide ((2147483647:Int)<IntKind.i64.wrap (IntKind.i64.wrap ((10:Int)*t5)+t6)))
 (K .ret ⟨[(2,Ai 0),(3,Ai 3)],[]⟩)
 (Ao (decide ((↑u1.length:Int)≤u0)=false→(0:Int)≤u0∧u0<(↑u1.length:Int))
 (Br (decide ((↑u1.length:Int)≤u0) == false)
 (Call E0.P Og [.imm (.int .i32 (IntKind.i32.wrap (↑(u1.getD u0.toNat 0).toNat:Int)))] [] fun r0 g0=>
 Ao (qP0 g0 r0)
 (Let (!rB r0) fun x1=>
 Br (x1)
 (Ef (IntKind.i64.wrap (IntKind.i64.wrap ((10:Int)*t5)+t6)) ((-1:Int)) u0 u1 K)
 (Ao ((0:Int)≤IntKind.i64.wrap (IntKind.i64.wrap (u0+(1:Int)) - (1:Int))∧
 IntKind.i64.wrap (IntKind.i64.wrap (u0+(1:Int)) - (1:Int))<(↑u1.length:Int))
 (Ef (IntKind.i64.wrap (IntKind.i64.wrap ((10:Int)*t5)+t6)) (IntKind.i64.wrap
 (IntKind.u8.wrap
 ((↑(u1.getD (IntKind.i64.wrap (IntKind.i64.wrap (u0+(1:Int)) - (1:Int))).toNat 0).toNat:
 Int) -
 (48:Int)))) (IntKind.i64.wrap (u0+(1:Int))) u1 K))))
 (Ao ((!false)=true)
 (Let (true) fun x2=>
 Br (x2)
 (Ef (IntKind.i64.wrap (IntKind.i64.wrap ((10:Int)*t5)+t6)) ((-1:Int)) u0 u1 K)
 (Ao ((0:Int)≤IntKind.i64.wrap (IntKind.i64.wrap (u0+(1:Int)) - (1:Int))∧
 IntKind.i64.wrap (IntKind.i64.wrap (u0+(1:Int)) - (1:Int))<(↑u1.length:Int))
 (Ef (IntKind.i64.wrap (IntKind.i64.wrap ((10:Int)*t5)+t6)) (IntKind.i64.wrap
 (IntKind.u8.wrap
 ((↑(u1.getD (IntKind.i64.wrap (IntKind.i64.wrap (u0+(1:Int)) - (1:Int))).toNat 0).toNat:
 Int) -
 (48:Int)))) (IntKind.i64.wrap (u0+(1:Int))) u1 K)))))))
 (K (.exit 0) ⟨[(5,Ai t5)],[]⟩))):Ef t5 t6 u0 u1 K:=Bo (Au E0 Ct) (Ba Ct) 3 7 (Az 7 ac_digits_Fixed) [4,5,6] _ K rfl (kr (by kernel_rfl) h)
theorem Akk(t5:Int)(K:KK)(h:
 (K .ret ⟨[(2,Ai t5),(3,Ai 0)],[]⟩)):Adi t5 K:=Ay (Au E0 Ct) (Ba Ct) 3 15 (Af 15 ac_digits_Fixed) [] _ K rfl (kr (by kernel_rfl) h)
theorem Z7(Q:QQ)(t2 t3:Int)(h:
 (Q (.tup [Ai t2,Ai t3]) [])):X4 Q .ret ⟨[(2,Ai t2),(3,Ai t3)],[]⟩:=kr (by kernel_rfl) h
theorem Aaa(Q:QQ)(t2 t3:Int)(h:
 (Q (.tup [Ai t2,Ai t3]) [])):Qv Q .ret ⟨[(2,Ai t2),(3,Ai t3)],[]⟩:=kr (by kernel_rfl) h
theorem Amg(Q:QQ)(t0:LB)(h:
 (Ago t0 (X4 Q))):Qv Q .normal ⟨[(0,As t0)],[]⟩:=kr (by kernel_rfl) h
theorem Amt(K:KK)(t2 t3:Int)(h:
 (K .ret ⟨[(2,Ai t2),(3,Ai t3)],[]⟩)):Xi K .ret ⟨[(2,Ai t2),(3,Ai t3)],[]⟩:=kr (by kernel_rfl) h
theorem Ams(K:KK)(t2 t3:Int)(h:
 (K .ret ⟨[(2,Ai t2),(3,Ai t3)],[]⟩)):Kc K .ret ⟨[(2,Ai t2),(3,Ai t3)],[]⟩:=kr (by kernel_rfl) h
theorem Amj(K:KK)(t5:Int)(h:
 (Adi t5 (Xi K))):Kc K (.exit 0) ⟨[(5,Ai t5)],[]⟩:=kr (by kernel_rfl) h
theorem Ato:Bt E0.P 135 ac_digits_Fixed.code Ct [.tmp 2, .tmp 3]:=Bl _ _ Try.f135 [(1,[0,15],[0]),(3,[0],[]),(7,[4,5,6],[]),(9,[5],[]),(15,[5],[])] [2,3] _ 31 Try.func135 (by kernel_rfl) (by kernel_rfl) (by kernel_rfl) (by kernel_rfl)
theorem Apm(a0:LB)(Q:QQ)(h:
 (Br ((a0 == []) == false)
 (Call E0.P Yz [As a0] [] fun r0 g0=>
 Ao (Mv g0 r0)
 (Let (!decide (rI r0=(↑a0.length:Int))) fun x1=>
 Xk a0 x1 (Qv Q)))
 (Ao ((!false)=true)
 (Let (true) fun x2=>
 Xk a0 x2 (Qv Q))))):Call E0.P Ze [As a0] [] Q:=Bd (Au E0 Ct) (Ba Ct) 3 0 135 ac_digits_Fixed [.tmp 2, .tmp 3] Ato _ _ Q rfl rfl (kr (by kernel_rfl) h)
noncomputable def ac_r02_Count:AC:=(Bf [(2,[0,3],[]),(4,[3],[]),(6,[3],[])] [2] (codeOf Try.f136) 0).1
abbrev Hy:Nat:=23
def Wx(t0:LB)(t3:Int)(K:KK):Prop:=Bj 2 E0.P Hy (Az 2 ac_r02_Count).code ⟨[(0,As t0),(3,Ai t3)],[]⟩ K
def Alq(t3:Int)(K:KK):Prop:=Ar 6 E0.P Hy (Af 6 ac_r02_Count).code ⟨[(3,Ai t3)],[]⟩ K
def Acw(Q:QQ):KK:=kE fun st=>finish 0 E0.T [.tmp 2] [] Q st
def Al0(Q:QQ):KK:=kF 0 (fun st=>Ar 6 E0.P Hy (Af 6 ac_r02_Count).code (mask [3] st) (Acw Q)) fun st=>finish 0 E0.T [.tmp 2] [] Q st
theorem Arn(t0:LB)(t3:Int)(K:KK)(h:
 (Ao (decide (t3<(↑t0.length:Int))=true→(0:Int)≤t3∧t3<(↑t0.length:Int))
 (Let (bif decide (t3<(↑t0.length:Int))then decide ((48:Int)≤(↑(t0.getD t3.toNat 0).toNat:Int))else false) fun x0=>
 Ao (x0=true→(0:Int)≤t3∧t3<(↑t0.length:Int))
 (Let (bif x0 then decide ((↑(t0.getD t3.toNat 0).toNat:Int)≤(57:Int))else false) fun x1=>
 Br (x1)
 (Wx t0 (IntKind.i64.wrap (t3+(1:Int))) K)
 (K (.exit 0) ⟨[(3,Ai t3)],[]⟩))))):Wx t0 t3 K:=Bo (Au E0 Hy) (Ba Hy) 3 2 (Az 2 ac_r02_Count) [0,3] _ K rfl (kr (by kernel_rfl) h)
theorem Aqg(t3:Int)(K:KK)(h:
 (K .ret ⟨[(2,Ai t3)],[]⟩)):Alq t3 K:=Ay (Au E0 Hy) (Ba Hy) 3 6 (Af 6 ac_r02_Count) [] _ K rfl (kr (by kernel_rfl) h)
theorem Ari(Q:QQ)(t2:Int)(h:
 (Q (Ai t2) [])):Acw Q .ret ⟨[(2,Ai t2)],[]⟩:=kr (by kernel_rfl) h
theorem Ara(Q:QQ)(t3:Int)(h:
 (Alq t3 (Acw Q))):Al0 Q (.exit 0) ⟨[(3,Ai t3)],[]⟩:=kr (by kernel_rfl) h
theorem Az1:Bt E0.P 136 ac_r02_Count.code Hy [.tmp 2]:=Bl _ _ Try.f136 [(2,[0,3],[]),(4,[3],[]),(6,[3],[])] [2] _ 23 Try.func136 (by kernel_rfl) (by kernel_rfl) (by kernel_rfl) (by kernel_rfl)
theorem Av8(a0:LB)(Q:QQ)(h:
 (Wx a0 ((0:Int)) (Al0 Q))):Call E0.P Agv [As a0] [] Q:=Bd (Au E0 Hy) (Ba Hy) 3 0 136 ac_r02_Count [.tmp 2] Az1 _ _ Q rfl rfl (kr (by kernel_rfl) h)
noncomputable def ac_digits_Count:AC:=(Bf [(2,[0,6],[]),(4,[0],[]),(9,[0],[])] [2] (codeOf Try.f139) 0).1
abbrev Fu:Nat:=17
def Qy(t0 h6s:LB)(h6p:Nat)(K:KK):Prop:=Bj 2 E0.P Fu (Az 2 ac_digits_Count).code ⟨[(0,As t0),(6, .ptr nL6 0)],[(nL6, .sit h6s h6p)]⟩ K
def Af0(t0:LB)(K:KK):Prop:=Ar 9 E0.P Fu (Af 9 ac_digits_Count).code ⟨[(0,As t0)],[]⟩ K
def X0(Q:QQ):KK:=kE fun st=>finish 0 E0.T [.tmp 2] [] Q st
def Xr(Q:QQ):KK:=kF 0 (fun st=>Ar 9 E0.P Fu (Af 9 ac_digits_Count).code (mask [0] st) (X0 Q)) fun st=>finish 0 E0.T [.tmp 2] [] Q st
theorem Amk(t0 h6s:LB)(h6p:Nat)(K:KK)(h:
 (Br (decide (h6p<h6s.length))
 (Br (true)
 (Call E0.P Og [.imm (.int .i32 ((↑(Gh h6s h6p).fst:Int)))] [] fun r0 g0=>
 Ao (qP0 g0 r0)
 (Br (!rB r0)
 (K .ret ⟨[(2,Ai ((↑h6p:Int)))],[]⟩)
 (Qy t0 h6s (h6p+(Gh h6s h6p).snd) K)))
 (K (.exit 0) ⟨[(0,As t0)],[]⟩))
 (Br (false)
 (False)
 (K (.exit 0) ⟨[(0,As t0)],[]⟩)))):Qy t0 h6s h6p K:=Bo (Au E0 Fu) (Ba Fu) 3 2 (Az 2 ac_digits_Count) [0,6] _ K rfl (kr (by kernel_rfl) h)
theorem Ame(t0:LB)(K:KK)(h:
 (K .ret ⟨[(2,Ai ((↑t0.length:Int)))],[]⟩)):Af0 t0 K:=Ay (Au E0 Fu) (Ba Fu) 3 9 (Af 9 ac_digits_Count) [] _ K rfl (kr (by kernel_rfl) h)
theorem Ami(Q:QQ)(t2:Int)(h:
 (Q (Ai t2) [])):X0 Q .ret ⟨[(2,Ai t2)],[]⟩:=kr (by kernel_rfl) h
theorem Amu(Q:QQ)(t2:Int)(h:
 (Q (Ai t2) [])):Xr Q .ret ⟨[(2,Ai t2)],[]⟩:=kr (by kernel_rfl) h
theorem Amq(Q:QQ)(t0:LB)(h:
 (Af0 t0 (X0 Q))):Xr Q (.exit 0) ⟨[(0,As t0)],[]⟩:=kr (by kernel_rfl) h
theorem Auz:Bt E0.P 139 ac_digits_Count.code Fu [.tmp 2]:=Bl _ _ Try.f139 [(2,[0,6],[]),(4,[0],[]),(9,[0],[])] [2] _ 17 Try.func139 (by kernel_rfl) (by kernel_rfl) (by kernel_rfl) (by kernel_rfl)
theorem Ape(a0:LB)(Q:QQ)(h:
 (Qy a0 a0 0 (Xr Q))):Call E0.P Yz [As a0] [] Q:=Bd (Au E0 Fu) (Ba Fu) 3 0 139 ac_digits_Count [.tmp 2] Auz _ _ Q rfl rfl (kr (by kernel_rfl) h)
noncomputable def ac_digits_digit:AC:=(Bf [] [2] (codeOf Try.f143) 0).1
abbrev Y3:Nat:=9
theorem Auq:Bt E0.P 143 ac_digits_digit.code Y3 [.tmp 2]:=Bl _ _ Try.f143 [] [2] _ 9 Try.func143 (by kernel_rfl) (by kernel_rfl) (by kernel_rfl) (by kernel_rfl)
theorem Ao5(a0:Int)(Q:QQ)(h:
 (Let (bif decide ((48:Int)≤a0)then decide (a0≤(57:Int))else false) fun x0=>
 Q (Ab x0) [])):Call E0.P Og [.imm (.int .i32 a0)] [] Q:=Bd (Au E0 Y3) (Ba Y3) 3 0 143 ac_digits_digit [.tmp 2] Auq _ _ Q rfl rfl (kr (by kernel_rfl) h)
end
end Go.Proofs.Sim.Se

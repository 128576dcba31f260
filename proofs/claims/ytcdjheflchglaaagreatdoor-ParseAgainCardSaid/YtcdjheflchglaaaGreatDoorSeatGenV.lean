import Derived.Test.YtcdjheflchglaaaGreatDoorSeatBase
set_option maxRecDepth 100000
set_option maxHeartbeats 4000000
namespace Go.Proofs.Sim.Se
open Go Go.Proofs Go.Proofs.Sim
noncomputable section
abbrev qV0(G:Heap)(R:AV):Prop:=G=[]∧R= .imm (.bool (rB R))
abbrev qV1(G:Heap)(R:AV):Prop:=G=[]∧R= .imm (.int .i64 (rI R))
abbrev qV2(G:Heap)(R:AV):Prop:=G=[(Nm.arg 0,Entry.arr 1 true 7 (C8 G Ad))]∧R= .tup []
abbrev qV3(G:Heap)(R:AV):Prop:=G=[]∧R= .imm (IV.agg [.int .i64 (gI (Ac R) 0), .int .i64 (gI (Ac R) 1), .int .i64 (gI (Ac R) 2), .str (gS (Ac R) 3), .sl SK.any 6 (gR (Ac R) 4), .sl SK.any 7 (gR (Ac R) 5)])
noncomputable def ac_cmp_isNaN_string:AC:=(Bf [] [2] (codeOf Tryz.f66) 0).1
abbrev Sa:Nat:=6
theorem Ak5:Bw E0.P 66 ac_cmp_isNaN_string.code Sa [.tmp 2]:=Bn _ _ Tryz.f66 [] [2] _ 6 Tryz.func66 (by kernel_rfl) (by kernel_rfl) (by kernel_rfl) (by kernel_rfl)
theorem Ahs(a0:LB)(Q:QQ)(h:
 (Q (Ab (!a0 == a0)) [])):Call E0.P Nc [As a0] [] Q:=Bd (A7 E0 Sa) (Bb Sa) 3 0 66 ac_cmp_isNaN_string [.tmp 2] Ak5 _ _ Q rfl rfl (kr (by kernel_rfl) h)
noncomputable def ac_cmp_Compare_string:AC:=(Bf [] [4] (codeOf Tryz.f41) 0).1
abbrev P8:Nat:=20
theorem Aib:Bw E0.P 41 ac_cmp_Compare_string.code P8 [.tmp 4]:=Bn _ _ Tryz.f41 [] [4] _ 20 Tryz.func41 (by kernel_rfl) (by kernel_rfl) (by kernel_rfl) (by kernel_rfl)
theorem Af9(a0 a1:LB)(Q:QQ)(h:
 (Call E0.P Nc [As a0] [] fun r0 g0=>
 Am (qV0 g0 r0)
 (Call E0.P Nc [As a1] [] fun r1 g1=>
 Am (qV0 g1 r1)
 (Br (rB r0)
 (Br (rB r1)
 (Q (Ai 0) [])
 (Q (Ai (-1)) []))
 (Br (rB r1)
 (Q (Ai 1) [])
 (Br (Op.bytesLess a0 a1)
 (Q (Ai (-1)) [])
 (Br (!(Op.bytesLess a0 a1 || a0 == a1))
 (Q (Ai 1) [])
 (Q (Ai 0) [])))))))):Call E0.P Pv [As a0,As a1] [] Q:=Bd (A7 E0 P8) (Bb P8) 3 0 41 ac_cmp_Compare_string [.tmp 4] Aib _ _ Q rfl rfl (kr (by kernel_rfl) h)
noncomputable def ac_value_plainPairs_1:AC:=(Bf [] [4] (codeOf Tryz.f40) 0).1
abbrev Qb:Nat:=10
theorem Aig:Bw E0.P 40 ac_value_plainPairs_1.code Qb [.tmp 4]:=Bn _ _ Tryz.f40 [] [4] _ 10 Tryz.func40 (by kernel_rfl) (by kernel_rfl) (by kernel_rfl) (by kernel_rfl)
theorem Agf(a0_0:LB)(a0_1 a0_2 a0_3:Int)(a0_4:LB)(a0_5 a0_6:LL)(a1_0:LB)(a1_1 a1_2 a1_3:Int)(a1_4:LB)(a1_5 a1_6:LL)(Q:QQ)(h:
 (Call E0.P Pv [As a0_0,As a1_0] [] fun r0 g0=>
 Am (qV1 g0 r0)
 (Q (Ai (rI r0)) []))):Call E0.P Ah [.imm (.agg [.str a0_0, .int .i64 a0_1, .int .i64 a0_2, .int .i64 a0_3, .str a0_4, .sl .any 6 a0_5, .sl .any 7 a0_6]), .imm (.agg [.str a1_0, .int .i64 a1_1, .int .i64 a1_2, .int .i64 a1_3, .str a1_4, .sl .any 6 a1_5, .sl .any 7 a1_6])] [] Q:=Bd (A7 E0 Qb) (Bb Qb) 3 0 40 ac_value_plainPairs_1 [.tmp 4] Aig _ _ Q rfl rfl (kr (by kernel_rfl) h)
noncomputable def ac_value_plainPairs_2:AC:=(Bf [] [4] (codeOf Tryz.f43) 0).1
abbrev Qc:Nat:=10
theorem Aih:Bw E0.P 43 ac_value_plainPairs_2.code Qc [.tmp 4]:=Bn _ _ Tryz.f43 [] [4] _ 10 Tryz.func43 (by kernel_rfl) (by kernel_rfl) (by kernel_rfl) (by kernel_rfl)
theorem Agg(a0_0:LB)(a0_1 a0_2 a0_3:Int)(a0_4:LB)(a0_5 a0_6:LL)(a1_0:LB)(a1_1 a1_2 a1_3:Int)(a1_4:LB)(a1_5 a1_6:LL)(Q:QQ)(h:
 (Q (Ab (a0_0 == a1_0)) [])):Call E0.P Cb [.imm (.agg [.str a0_0, .int .i64 a0_1, .int .i64 a0_2, .int .i64 a0_3, .str a0_4, .sl .any 6 a0_5, .sl .any 7 a0_6]), .imm (.agg [.str a1_0, .int .i64 a1_1, .int .i64 a1_2, .int .i64 a1_3, .str a1_4, .sl .any 6 a1_5, .sl .any 7 a1_6])] [] Q:=Bd (A7 E0 Qc) (Bb Qc) 3 0 43 ac_value_plainPairs_2 [.tmp 4] Aih _ _ Q rfl rfl (kr (by kernel_rfl) h)
noncomputable def ac_slices_insertionSortCmpFunc_Pair:AC:=(Bf [(1,[0,1,2,3,8],[]),(3,[],[]),(6,[0,1,2,3,8,9],[]),(8,[0,1,2,3,8],[]),(9,[0,1,2,3,8,9],[0,1,2,3,8,9]),(11,[0,1,2,3,8],[0,1,2,3,8])] [] (codeOf Tryz.f82) 0).1
abbrev Az:Nat:=53
def Eo(t1 t2 t8:Int)(u0:LL)(K:KK):Prop:=Cc 1 E0.P Az (A9 1 ac_slices_insertionSortCmpFunc_Pair).code ⟨[(0, .own Ad),(1,Ai t1),(2,Ai t2),(3, .fn Ah []),(8,Ai t8)],[(Ad, .arr 1 true 7 u0)]⟩ K
def Ep(t1 t2:Int)(t8 t9:Int)(u0:LL)(K:KK):Prop:=Cc 6 E0.P Az (A9 6 ac_slices_insertionSortCmpFunc_Pair).code ⟨[(0, .own Ad),(1,Ai t1),(2,Ai t2),(3, .fn Ah []),(8,Ai t8),(9,Ai t9)],[(Ad, .arr 1 true 7 u0)]⟩ K
def Gx(t1 t2:Int)(t8 t9:Int)(u0:LL)(K:KK):Prop:=Ay 9 E0.P Az (Ag 9 ac_slices_insertionSortCmpFunc_Pair).code ⟨[(0, .own Ad),(1,Ai t1),(2,Ai t2),(3, .fn Ah []),(8,Ai t8),(9,Ai t9)],[(Ad, .arr 1 true 7 u0)]⟩ K
def Kg(t1 t2 t8:Int)(u0:LL)(K:KK):Prop:=Ay 11 E0.P Az (Ag 11 ac_slices_insertionSortCmpFunc_Pair).code ⟨[(0, .own Ad),(1,Ai t1),(2,Ai t2),(3, .fn Ah []),(8,Ai t8)],[(Ad, .arr 1 true 7 u0)]⟩ K
def En(rows:LL)(Q:QQ):KK:=kF 0 (fun st=>finish (1) E0.T [] [(Ad, .arr 1 true 7 rows)] Q st) fun st=>finish (1) E0.T [] [(Ad, .arr 1 true 7 rows)] Q st
def Dt(K:KK):Ex→St→Prop
 | .normal,st=>Cc 1 E0.P Az (A9 1 ac_slices_insertionSortCmpFunc_Pair).code (mask [0,1,2,3,8] st) K
 | .exit i,st=>K (.exit i) st
 | .goto i,st=>K (.goto i) st
 | .ret,st=>K .ret st
def Gz(K:KK):Ex→St→Prop
 | .normal,st=>Ay 11 E0.P Az (Ag 11 ac_slices_insertionSortCmpFunc_Pair).code (mask [0,1,2,3,8] st) (Dt K)
 | .exit i,st=>(match (i.beq 2:Bool)with
 |true=>Ay 11 E0.P Az (Ag 11 ac_slices_insertionSortCmpFunc_Pair).code (mask [0,1,2,3,8] st) (Dt K)
 |false=>(match (i.beq 1:Bool)with
 |true=>Ay 11 E0.P Az (Ag 11 ac_slices_insertionSortCmpFunc_Pair).code (mask [0,1,2,3,8] st) (Dt K)
 |false=>K (.exit i) st))
 | .goto i,st=>K (.goto i) st
 | .ret,st=>K .ret st
def G5(K:KK):Ex→St→Prop
 | .normal,st=>Cc 6 E0.P Az (A9 6 ac_slices_insertionSortCmpFunc_Pair).code (mask [0,1,2,3,8,9] st) K
 | .exit i,st=>K (.exit i) st
 | .goto i,st=>K (.goto i) st
 | .ret,st=>K .ret st
theorem Ga(t1 t2 t8:Int)(u0:LL)(K:KK)(h:
 (Br (decide (t8<t2))
 (Ep t1 t2 t8 t8 u0 (Gz K))
 (K (.exit 0) ⟨[],[(Ad, .arr 1 true 7 u0)]⟩))):Eo t1 t2 t8 u0 K:=Ca (A7 E0 Az) (Bb Az) 3 1 (A9 1 ac_slices_insertionSortCmpFunc_Pair) [0,1,2,3,8] _ K rfl (kr (by kernel_rfl) h)
theorem Jj(t1 t2:Int)(t8 t9:Int)(u0:LL)(K:KK)(h:
 (Am (decide (t1<t9)=true→(0:Int)≤t9∧t9<(↑u0.length:Int))
 (Am (decide (t1<t9)=true→
 t9.toNat<u0.length∧
 Cu
 [.str, .int .i64, .int .i64, .int .i64, .str, .sl 6 Ae,
 .sl 7 Aq]
 (List.take 7 (List.drop 0 (u0.getD t9.toNat [])))=
 true)
 (Am (decide (t1<t9)=true→
 (0:Int)≤IntKind.i64.wrap (t9 - (1:Int))∧IntKind.i64.wrap (t9 - (1:Int))<(↑u0.length:Int))
 (Am (decide (t1<t9)=true→
 (IntKind.i64.wrap (t9 - (1:Int))).toNat<u0.length∧
 Cu
 [.str, .int .i64, .int .i64, .int .i64, .str, .sl 6 Ae,
 .sl 7 Aq]
 (List.take 7 (List.drop 0 (u0.getD (IntKind.i64.wrap (t9 - (1:Int))).toNat [])))=
 true)
 (Br (decide (t1<t9) == true)
 (Call E0.P Ah [.imm (.agg [.str (gS (List.take 7 (List.drop 0 (u0.getD t9.toNat []))) 0), .int .i64 (gI (List.take 7 (List.drop 0 (u0.getD t9.toNat []))) 1), .int .i64 (gI (List.take 7 (List.drop 0 (u0.getD t9.toNat []))) 2), .int .i64 (gI (List.take 7 (List.drop 0 (u0.getD t9.toNat []))) 3), .str (gS (List.take 7 (List.drop 0 (u0.getD t9.toNat []))) 4), .sl .any 6 (gR (List.take 7 (List.drop 0 (u0.getD t9.toNat []))) 5), .sl .any 7 (gR (List.take 7 (List.drop 0 (u0.getD t9.toNat []))) 6)]), .imm (.agg [.str (gS (List.take 7 (List.drop 0 (u0.getD (IntKind.i64.wrap (t9 - (1:Int))).toNat []))) 0), .int .i64 (gI (List.take 7 (List.drop 0 (u0.getD (IntKind.i64.wrap (t9 - (1:Int))).toNat []))) 1), .int .i64 (gI (List.take 7 (List.drop 0 (u0.getD (IntKind.i64.wrap (t9 - (1:Int))).toNat []))) 2), .int .i64 (gI (List.take 7 (List.drop 0 (u0.getD (IntKind.i64.wrap (t9 - (1:Int))).toNat []))) 3), .str (gS (List.take 7 (List.drop 0 (u0.getD (IntKind.i64.wrap (t9 - (1:Int))).toNat []))) 4), .sl .any 6 (gR (List.take 7 (List.drop 0 (u0.getD (IntKind.i64.wrap (t9 - (1:Int))).toNat []))) 5), .sl .any 7 (gR (List.take 7 (List.drop 0 (u0.getD (IntKind.i64.wrap (t9 - (1:Int))).toNat []))) 6)])] [] fun r0 g0=>
 Am (qV1 g0 r0)
 (Let (decide (rI r0<(0:Int))) fun x1=>
 Br (x1)
 (Gx t1 t2 t8 t9 u0 (G5 K))
 (K (.exit (2)) ⟨[(0, .own Ad),(1,Ai t1),(2,Ai t2),(3, .fn Ah []),(8,Ai t8)],[(Ad, .arr 1 true 7 u0)]⟩)))
 (Am ((!true)=false)
 (Let (false) fun x2=>
 Br (x2)
 (Gx t1 t2 t8 t9 u0 (G5 K))
 (K (.exit (2)) ⟨[(0, .own Ad),(1,Ai t1),(2,Ai t2),(3, .fn Ah []),(8,Ai t8)],[(Ad, .arr 1 true 7 u0)]⟩))))))))):Ep t1 t2 t8 t9 u0 K:=Ca (A7 E0 Az) (Bb Az) 3 6 (A9 6 ac_slices_insertionSortCmpFunc_Pair) [0,1,2,3,8,9] _ K rfl (kr (by kernel_rfl) h)
theorem Ri(t1 t2:Int)(t8 t9:Int)(u0:LL)(K:KK)(h:
 (Am ((0:Int)≤IntKind.i64.wrap (t9 - (1:Int))∧IntKind.i64.wrap (t9 - (1:Int))<(↑u0.length:Int))
 (Am ((IntKind.i64.wrap (t9 - (1:Int))).toNat<u0.length∧
 Cu
 [.str, .int .i64, .int .i64, .int .i64, .str, .sl 6 Ae,
 .sl 7 Aq]
 (List.take 7 (List.drop 0 (u0.getD (IntKind.i64.wrap (t9 - (1:Int))).toNat [])))=
 true)
 (Am ((0:Int)≤t9∧t9<(↑u0.length:Int))
 (Am (t9.toNat<u0.length∧
 Cu
 [.str, .int .i64, .int .i64, .int .i64, .str, .sl 6 Ae,
 .sl 7 Aq]
 (List.take 7 (List.drop 0 (u0.getD t9.toNat [])))=
 true)
 (Am ((0:Int)≤t9∧t9<(↑u0.length:Int))
 (Am (t9.toNat<u0.length)
 (Am ((0:Int)≤IntKind.i64.wrap (t9 - (1:Int))∧
 IntKind.i64.wrap (t9 - (1:Int))<
 (↑(u0.set t9.toNat
 [.str
 (gS (List.take (7:Nat) (List.drop (0:Nat) (u0.getD (IntKind.i64.wrap (t9 - (1:Int))).toNat [])))
 (0:Nat)),
 .int .i64
 (gI (List.take (7:Nat) (List.drop (0:Nat) (u0.getD (IntKind.i64.wrap (t9 - (1:Int))).toNat [])))
 (1:Nat)),
 .int .i64
 (gI (List.take (7:Nat) (List.drop (0:Nat) (u0.getD (IntKind.i64.wrap (t9 - (1:Int))).toNat [])))
 (2:Nat)),
 .int .i64
 (gI (List.take (7:Nat) (List.drop (0:Nat) (u0.getD (IntKind.i64.wrap (t9 - (1:Int))).toNat [])))
 (3:Nat)),
 .str
 (gS (List.take (7:Nat) (List.drop (0:Nat) (u0.getD (IntKind.i64.wrap (t9 - (1:Int))).toNat [])))
 (4:Nat)),
 .sl SK.any (6:Nat)
 (gR (List.take (7:Nat) (List.drop (0:Nat) (u0.getD (IntKind.i64.wrap (t9 - (1:Int))).toNat [])))
 (5:Nat)),
 .sl SK.any (7:Nat)
 (gR (List.take (7:Nat) (List.drop (0:Nat) (u0.getD (IntKind.i64.wrap (t9 - (1:Int))).toNat [])))
 (6:Nat))]).length:
 Int))
 (Am ((IntKind.i64.wrap (t9 - (1:Int))).toNat<
 (u0.set t9.toNat
 [.str
 (gS (List.take 7 (List.drop 0 (u0.getD (IntKind.i64.wrap (t9 - (1:Int))).toNat [])))
 0),
 .int .i64
 (gI (List.take 7 (List.drop 0 (u0.getD (IntKind.i64.wrap (t9 - (1:Int))).toNat [])))
 1),
 .int .i64
 (gI (List.take 7 (List.drop 0 (u0.getD (IntKind.i64.wrap (t9 - (1:Int))).toNat [])))
 2),
 .int .i64
 (gI (List.take 7 (List.drop 0 (u0.getD (IntKind.i64.wrap (t9 - (1:Int))).toNat [])))
 3),
 .str
 (gS (List.take 7 (List.drop 0 (u0.getD (IntKind.i64.wrap (t9 - (1:Int))).toNat [])))
 4),
 .sl SK.any 6
 (gR (List.take 7 (List.drop 0 (u0.getD (IntKind.i64.wrap (t9 - (1:Int))).toNat [])))
 5),
 .sl SK.any 7
 (gR (List.take 7 (List.drop 0 (u0.getD (IntKind.i64.wrap (t9 - (1:Int))).toNat [])))
 6)]).length)
 (K .normal ⟨[(0, .own Ad),(1,Ai t1),(2,Ai t2),(3, .fn Ah []),(8,Ai t8),(9,Ai (IntKind.i64.wrap (t9 - (1:Int))))],[(Ad, .arr 1 true 7 ((u0.set t9.toNat
 [.str
 (gS (List.take 7 (List.drop 0 (u0.getD (IntKind.i64.wrap (t9 - (1:Int))).toNat [])))
 0),
 .int .i64
 (gI (List.take 7 (List.drop 0 (u0.getD (IntKind.i64.wrap (t9 - (1:Int))).toNat [])))
 1),
 .int .i64
 (gI (List.take 7 (List.drop 0 (u0.getD (IntKind.i64.wrap (t9 - (1:Int))).toNat [])))
 2),
 .int .i64
 (gI (List.take 7 (List.drop 0 (u0.getD (IntKind.i64.wrap (t9 - (1:Int))).toNat [])))
 3),
 .str
 (gS (List.take 7 (List.drop 0 (u0.getD (IntKind.i64.wrap (t9 - (1:Int))).toNat [])))
 4),
 .sl SK.any 6
 (gR (List.take 7 (List.drop 0 (u0.getD (IntKind.i64.wrap (t9 - (1:Int))).toNat [])))
 5),
 .sl SK.any 7
 (gR (List.take 7 (List.drop 0 (u0.getD (IntKind.i64.wrap (t9 - (1:Int))).toNat [])))
 6)]).set
 (IntKind.i64.wrap (t9 - (1:Int))).toNat
 [.str (gS (List.take 7 (List.drop 0 (u0.getD t9.toNat []))) 0),
 .int .i64 (gI (List.take 7 (List.drop 0 (u0.getD t9.toNat []))) 1),
 .int .i64 (gI (List.take 7 (List.drop 0 (u0.getD t9.toNat []))) 2),
 .int .i64 (gI (List.take 7 (List.drop 0 (u0.getD t9.toNat []))) 3),
 .str (gS (List.take 7 (List.drop 0 (u0.getD t9.toNat []))) 4),
 .sl SK.any 6 (gR (List.take 7 (List.drop 0 (u0.getD t9.toNat []))) 5),
 .sl SK.any 7 (gR (List.take 7 (List.drop 0 (u0.getD t9.toNat []))) 6)]))]⟩)))))))))):Gx t1 t2 t8 t9 u0 K:=Ba (A7 E0 Az) (Bb Az) 3 9 (Ag 9 ac_slices_insertionSortCmpFunc_Pair) [0,1,2,3,8,9] _ K rfl (kr (by kernel_rfl) h)
theorem Qk(t1 t2 t8:Int)(u0:LL)(K:KK)(h:
 (K .normal ⟨[(0, .own Ad),(1,Ai t1),(2,Ai t2),(3, .fn Ah []),(8,Ai (IntKind.i64.wrap (t8+(1:Int))))],[(Ad, .arr 1 true 7 u0)]⟩)):Kg t1 t2 t8 u0 K:=Ba (A7 E0 Az) (Bb Az) 3 11 (Ag 11 ac_slices_insertionSortCmpFunc_Pair) [0,1,2,3,8] _ K rfl (kr (by kernel_rfl) h)
theorem Ji(rows:LL)(Q:QQ)(u0:LL)(h:
 (Q (.tup []) [(Ad, .arr 1 true 7 u0)])):En rows Q (.exit 0) ⟨[],[(Ad, .arr 1 true 7 u0)]⟩:=kr (by kernel_rfl) h
theorem Rk(K:KK)(t1 t2 t8:Int)(u0:LL)(h:
 (Eo t1 t2 t8 u0 K)):Dt K .normal ⟨[(0, .own Ad),(1,Ai t1),(2,Ai t2),(3, .fn Ah []),(8,Ai t8)],[(Ad, .arr 1 true 7 u0)]⟩:=kr (by kernel_rfl) h
theorem Rl(K:KK)(t1 t2 t8:Int)(u0:LL)(h:
 (Kg t1 t2 t8 u0 (Dt K))):Gz K (.exit (2)) ⟨[(0, .own Ad),(1,Ai t1),(2,Ai t2),(3, .fn Ah []),(8,Ai t8)],[(Ad, .arr 1 true 7 u0)]⟩:=kr (by kernel_rfl) h
theorem Rm(K:KK)(t1 t2:Int)(t8 t9:Int)(u0:LL)(h:
 (Ep t1 t2 t8 t9 u0 K)):G5 K .normal ⟨[(0, .own Ad),(1,Ai t1),(2,Ai t2),(3, .fn Ah []),(8,Ai t8),(9,Ai t9)],[(Ad, .arr 1 true 7 u0)]⟩:=kr (by kernel_rfl) h
theorem U5:Bw E0.P 82 ac_slices_insertionSortCmpFunc_Pair.code Az []:=Bn _ _ Tryz.f82 [(1,[0,1,2,3,8],[]),(3,[],[]),(6,[0,1,2,3,8,9],[]),(8,[0,1,2,3,8],[]),(9,[0,1,2,3,8,9],[0,1,2,3,8,9]),(11,[0,1,2,3,8],[0,1,2,3,8])] [] _ 53 Tryz.func82 (by kernel_rfl) (by kernel_rfl) (by kernel_rfl) (by kernel_rfl)
theorem Tg(rows:LL)(a1 a2:Int)(Q:QQ)(h:
 (Eo a1 a2 (IntKind.i64.wrap (a1+(1:Int))) rows (En rows Q))):Call E0.P Ew [.own (.arg 0),Ai a1,Ai a2, .fn Ah []] [(.arg 0, .arr 1 true 7 rows)] Q:=Bd (A7 E0 Az) (Bb Az) 3 1 82 ac_slices_insertionSortCmpFunc_Pair [] U5 _ _ Q rfl rfl (kr (by kernel_rfl) h)
noncomputable def ac_slices_swapRangeCmpFunc_Pair:AC:=(Bf [(1,[0,1,2,3,10],[]),(3,[],[])] [] (codeOf Tryz.f101) 0).1
abbrev Dq:Nat:=38
def F6(t1 t2:Int)(t3 t10:Int)(u0:LL)(K:KK):Prop:=Cc 1 E0.P Dq (A9 1 ac_slices_swapRangeCmpFunc_Pair).code ⟨[(0, .own Ad),(1,Ai t1),(2,Ai t2),(3,Ai t3),(10,Ai t10)],[(Ad, .arr 1 true 7 u0)]⟩ K
def Mq(rows:LL)(Q:QQ):KK:=kF 0 (fun st=>finish (1) E0.T [] [(Ad, .arr 1 true 7 rows)] Q st) fun st=>finish (1) E0.T [] [(Ad, .arr 1 true 7 rows)] Q st
theorem K4(t1 t2:Int)(t3 t10:Int)(u0:LL)(K:KK)(h:
 (Br (decide (t10<t3))
 (Am ((0:Int)≤IntKind.i64.wrap (t2+t10)∧IntKind.i64.wrap (t2+t10)<(↑u0.length:Int))
 (Am ((IntKind.i64.wrap (t2+t10)).toNat<u0.length∧
 Cu
 [.str, .int .i64, .int .i64, .int .i64, .str, .sl 6 Ae,
 .sl 7 Aq]
 (List.take 7 (List.drop 0 (u0.getD (IntKind.i64.wrap (t2+t10)).toNat [])))=
 true)
 (Am ((0:Int)≤IntKind.i64.wrap (t1+t10)∧IntKind.i64.wrap (t1+t10)<(↑u0.length:Int))
 (Am ((IntKind.i64.wrap (t1+t10)).toNat<u0.length∧
 Cu
 [.str, .int .i64, .int .i64, .int .i64, .str, .sl 6 Ae,
 .sl 7 Aq]
 (List.take 7 (List.drop 0 (u0.getD (IntKind.i64.wrap (t1+t10)).toNat [])))=
 true)
 (Am ((0:Int)≤IntKind.i64.wrap (t1+t10)∧IntKind.i64.wrap (t1+t10)<(↑u0.length:Int))
 (Am ((IntKind.i64.wrap (t1+t10)).toNat<u0.length)
 (Am ((0:Int)≤IntKind.i64.wrap (t2+t10)∧
 IntKind.i64.wrap (t2+t10)<
 (↑(u0.set (IntKind.i64.wrap (t1+t10)).toNat
 [.str
 (gS (List.take (7:Nat) (List.drop (0:Nat) (u0.getD (IntKind.i64.wrap (t2+t10)).toNat [])))
 (0:Nat)),
 .int .i64
 (gI (List.take (7:Nat) (List.drop (0:Nat) (u0.getD (IntKind.i64.wrap (t2+t10)).toNat [])))
 (1:Nat)),
 .int .i64
 (gI (List.take (7:Nat) (List.drop (0:Nat) (u0.getD (IntKind.i64.wrap (t2+t10)).toNat [])))
 (2:Nat)),
 .int .i64
 (gI (List.take (7:Nat) (List.drop (0:Nat) (u0.getD (IntKind.i64.wrap (t2+t10)).toNat [])))
 (3:Nat)),
 .str
 (gS (List.take (7:Nat) (List.drop (0:Nat) (u0.getD (IntKind.i64.wrap (t2+t10)).toNat [])))
 (4:Nat)),
 .sl SK.any (6:Nat)
 (gR (List.take (7:Nat) (List.drop (0:Nat) (u0.getD (IntKind.i64.wrap (t2+t10)).toNat [])))
 (5:Nat)),
 .sl SK.any (7:Nat)
 (gR (List.take (7:Nat) (List.drop (0:Nat) (u0.getD (IntKind.i64.wrap (t2+t10)).toNat [])))
 (6:Nat))]).length:
 Int))
 (Am ((IntKind.i64.wrap (t2+t10)).toNat<
 (u0.set (IntKind.i64.wrap (t1+t10)).toNat
 [.str
 (gS (List.take 7 (List.drop 0 (u0.getD (IntKind.i64.wrap (t2+t10)).toNat []))) 0),
 .int .i64
 (gI (List.take 7 (List.drop 0 (u0.getD (IntKind.i64.wrap (t2+t10)).toNat []))) 1),
 .int .i64
 (gI (List.take 7 (List.drop 0 (u0.getD (IntKind.i64.wrap (t2+t10)).toNat []))) 2),
 .int .i64
 (gI (List.take 7 (List.drop 0 (u0.getD (IntKind.i64.wrap (t2+t10)).toNat []))) 3),
 .str
 (gS (List.take 7 (List.drop 0 (u0.getD (IntKind.i64.wrap (t2+t10)).toNat []))) 4),
 .sl SK.any 6
 (gR (List.take 7 (List.drop 0 (u0.getD (IntKind.i64.wrap (t2+t10)).toNat []))) 5),
 .sl SK.any 7
 (gR (List.take 7 (List.drop 0 (u0.getD (IntKind.i64.wrap (t2+t10)).toNat [])))
 6)]).length)
 (F6 t1 t2 t3 (IntKind.i64.wrap (t10+(1:Int))) ((u0.set (IntKind.i64.wrap (t1+t10)).toNat
 [.str
 (gS (List.take 7 (List.drop 0 (u0.getD (IntKind.i64.wrap (t2+t10)).toNat []))) 0),
 .int .i64
 (gI (List.take 7 (List.drop 0 (u0.getD (IntKind.i64.wrap (t2+t10)).toNat []))) 1),
 .int .i64
 (gI (List.take 7 (List.drop 0 (u0.getD (IntKind.i64.wrap (t2+t10)).toNat []))) 2),
 .int .i64
 (gI (List.take 7 (List.drop 0 (u0.getD (IntKind.i64.wrap (t2+t10)).toNat []))) 3),
 .str
 (gS (List.take 7 (List.drop 0 (u0.getD (IntKind.i64.wrap (t2+t10)).toNat []))) 4),
 .sl SK.any 6
 (gR (List.take 7 (List.drop 0 (u0.getD (IntKind.i64.wrap (t2+t10)).toNat []))) 5),
 .sl SK.any 7
 (gR (List.take 7 (List.drop 0 (u0.getD (IntKind.i64.wrap (t2+t10)).toNat [])))
 6)]).set
 (IntKind.i64.wrap (t2+t10)).toNat
 [.str (gS (List.take 7 (List.drop 0 (u0.getD (IntKind.i64.wrap (t1+t10)).toNat []))) 0),
 .int .i64
 (gI (List.take 7 (List.drop 0 (u0.getD (IntKind.i64.wrap (t1+t10)).toNat []))) 1),
 .int .i64
 (gI (List.take 7 (List.drop 0 (u0.getD (IntKind.i64.wrap (t1+t10)).toNat []))) 2),
 .int .i64
 (gI (List.take 7 (List.drop 0 (u0.getD (IntKind.i64.wrap (t1+t10)).toNat []))) 3),
 .str (gS (List.take 7 (List.drop 0 (u0.getD (IntKind.i64.wrap (t1+t10)).toNat []))) 4),
 .sl SK.any 6
 (gR (List.take 7 (List.drop 0 (u0.getD (IntKind.i64.wrap (t1+t10)).toNat []))) 5),
 .sl SK.any 7
 (gR (List.take 7 (List.drop 0 (u0.getD (IntKind.i64.wrap (t1+t10)).toNat []))) 6)]) K)))))))))
 (K (.exit 0) ⟨[],[(Ad, .arr 1 true 7 u0)]⟩))):F6 t1 t2 t3 t10 u0 K:=Ca (A7 E0 Dq) (Bb Dq) 3 1 (A9 1 ac_slices_swapRangeCmpFunc_Pair) [0,1,2,3,10] _ K rfl (kr (by kernel_rfl) h)
theorem Ut(rows:LL)(Q:QQ)(u0:LL)(h:
 (Q (.tup []) [(Ad, .arr 1 true 7 u0)])):Mq rows Q (.exit 0) ⟨[],[(Ad, .arr 1 true 7 u0)]⟩:=kr (by kernel_rfl) h
theorem Ym:Bw E0.P 101 ac_slices_swapRangeCmpFunc_Pair.code Dq []:=Bn _ _ Tryz.f101 [(1,[0,1,2,3,10],[]),(3,[],[])] [] _ 38 Tryz.func101 (by kernel_rfl) (by kernel_rfl) (by kernel_rfl) (by kernel_rfl)
theorem V9(rows:LL)(a1 a2 a3:Int)(Q:QQ)(h:
 (F6 a1 a2 a3 ((0:Int)) rows (Mq rows Q))):Call E0.P Ej [.own (.arg 0),Ai a1,Ai a2,Ai a3, .fn Ah []] [(.arg 0, .arr 1 true 7 rows)] Q:=Bd (A7 E0 Dq) (Bb Dq) 3 1 101 ac_slices_swapRangeCmpFunc_Pair [] Ym _ _ Q rfl rfl (kr (by kernel_rfl) h)
noncomputable def ac_slices_rotateCmpFunc_Pair:AC:=(Bf [(2,[0,2,4,10,11],[]),(4,[0,2,4,10],[]),(9,[0,2,4,10],[])] [] (codeOf Tryz.f91) 0).1
abbrev Cj:Nat:=58
def E8(t2 t10 t11:Int)(u0:LL)(K:KK):Prop:=Cc 2 E0.P Cj (A9 2 ac_slices_rotateCmpFunc_Pair).code ⟨[(0, .own Ad),(2,Ai t2),(4, .fn Ah []),(10,Ai t10),(11,Ai t11)],[(Ad, .arr 1 true 7 u0)]⟩ K
def O8(t2 t10:Int)(u0:LL)(K:KK):Prop:=Ay 9 E0.P Cj (Ag 9 ac_slices_rotateCmpFunc_Pair).code ⟨[(0, .own Ad),(2,Ai t2),(4, .fn Ah []),(10,Ai t10)],[(Ad, .arr 1 true 7 u0)]⟩ K
def Jo(rows:LL)(Q:QQ):KK:=kE fun st=>finish (1) E0.T [] [(Ad, .arr 1 true 7 rows)] Q st
def Jp(rows:LL)(Q:QQ):KK:=kF 0 (fun st=>Ay 9 E0.P Cj (Ag 9 ac_slices_rotateCmpFunc_Pair).code (mask [0,2,4,10] st) (Jo rows Q)) fun st=>finish (1) E0.T [] [(Ad, .arr 1 true 7 rows)] Q st
theorem Xy(t2 t10 t11:Int)(u0:LL)(K:KK)(h:
 (Br (!decide (t10=t11))
 (Br (decide (t11<t10))
 (Call E0.P Ej [.own Ad,Ai (IntKind.i64.wrap (t2 - t10)),Ai t2,Ai t11, .fn Ah []] [(Ad, .arr 1 true 7 u0)] fun r0 g0=>
 Am (qV2 g0 r0)
 (E8 t2 (IntKind.i64.wrap (t10 - t11)) t11 (C8 g0 Ad) K))
 (Call E0.P Ej [.own Ad,Ai (IntKind.i64.wrap (t2 - t10)),Ai (IntKind.i64.wrap (IntKind.i64.wrap (t2+t11) - t10)),Ai t10, .fn Ah []] [(Ad, .arr 1 true 7 u0)] fun r1 g1=>
 Am (qV2 g1 r1)
 (E8 t2 t10 (IntKind.i64.wrap (t11 - t10)) (C8 g1 Ad) K)))
 (K (.exit 0) ⟨[(0, .own Ad),(2,Ai t2),(4, .fn Ah []),(10,Ai t10)],[(Ad, .arr 1 true 7 u0)]⟩))):E8 t2 t10 t11 u0 K:=Ca (A7 E0 Cj) (Bb Cj) 3 2 (A9 2 ac_slices_rotateCmpFunc_Pair) [0,2,4,10,11] _ K rfl (kr (by kernel_rfl) h)
theorem Xg(t2 t10:Int)(u0:LL)(K:KK)(h:
 (Call E0.P Ej [.own Ad,Ai (IntKind.i64.wrap (t2 - t10)),Ai t2,Ai t10, .fn Ah []] [(Ad, .arr 1 true 7 u0)] fun r0 g0=>
 Am (qV2 g0 r0)
 (K .normal ⟨[],[(Ad, .arr 1 true 7 (C8 g0 Ad))]⟩))):O8 t2 t10 u0 K:=Ba (A7 E0 Cj) (Bb Cj) 3 9 (Ag 9 ac_slices_rotateCmpFunc_Pair) [] _ K rfl (kr (by kernel_rfl) h)
theorem Xo(rows:LL)(Q:QQ)(u0:LL)(h:
 (Q (.tup []) [(Ad, .arr 1 true 7 u0)])):Jo rows Q .normal ⟨[],[(Ad, .arr 1 true 7 u0)]⟩:=kr (by kernel_rfl) h
theorem Xp(rows:LL)(Q:QQ)(t2 t10:Int)(u0:LL)(h:
 (O8 t2 t10 u0 (Jo rows Q))):Jp rows Q (.exit 0) ⟨[(0, .own Ad),(2,Ai t2),(4, .fn Ah []),(10,Ai t10)],[(Ad, .arr 1 true 7 u0)]⟩:=kr (by kernel_rfl) h
theorem Aba:Bw E0.P 91 ac_slices_rotateCmpFunc_Pair.code Cj []:=Bn _ _ Tryz.f91 [(2,[0,2,4,10,11],[]),(4,[0,2,4,10],[]),(9,[0,2,4,10],[])] [] _ 58 Tryz.func91 (by kernel_rfl) (by kernel_rfl) (by kernel_rfl) (by kernel_rfl)
theorem Yr(rows:LL)(a1 a2 a3:Int)(Q:QQ)(h:
 (E8 a2 (IntKind.i64.wrap (a2 - a1)) (IntKind.i64.wrap (a3 - a2)) rows (Jp rows Q))):Call E0.P J8 [.own (.arg 0),Ai a1,Ai a2,Ai a3, .fn Ah []] [(.arg 0, .arr 1 true 7 rows)] Q:=Bd (A7 E0 Cj) (Bb Cj) 3 1 91 ac_slices_rotateCmpFunc_Pair [] Aba _ _ Q rfl rfl (kr (by kernel_rfl) h)
noncomputable def ac_slices_symMergeCmpFunc_Pair:AC:=(Bf [(3,[0,1,4,10,11],[]),(5,[0,1,10],[]),(9,[0,1,10],[0,1,2,3,4]),(11,[0,10,13],[]),(13,[],[]),(16,[],[0,1,2,3,4]),(17,[0,1,2,3,4],[]),(21,[0,2,4,14,15],[]),(23,[0,2,14],[]),(27,[0,2,14],[0,1,2,3,4]),(29,[0,14,17],[]),(31,[],[]),(34,[],[0,1,2,3,4]),(35,[0,1,2,3,4],[]),(42,[0,1,2,3,4,18,19,20,21],[]),(44,[0,1,2,3,4,18,19,20,21,22],[]),(46,[0,1,2,3,4,18,19,20],[]),(50,[0,1,2,3,4,18,19,20],[]),(53,[0,1,3,4,18,20,24],[]),(55,[0,3,4,18,24],[])] [] (codeOf Tryz.f83) 0).1
abbrev Af:Nat:=220
def Ei(t1 t10 t11:Int)(u0:LL)(K:KK):Prop:=Cc 3 E0.P Af (A9 3 ac_slices_symMergeCmpFunc_Pair).code ⟨[(0, .own Ad),(1,Ai t1),(4, .fn Ah []),(10,Ai t10),(11,Ai t11)],[(Ad, .arr 1 true 7 u0)]⟩ K
def Mk(t1 t2 t3:Int)(u0:LL)(K:KK):Prop:=Ay 17 E0.P Af (Ag 17 ac_slices_symMergeCmpFunc_Pair).code ⟨[(0, .own Ad),(1,Ai t1),(2,Ai t2),(3,Ai t3),(4, .fn Ah [])],[(Ad, .arr 1 true 7 u0)]⟩ K
def Ef(t2 t14 t15:Int)(u0:LL)(K:KK):Prop:=Cc 21 E0.P Af (A9 21 ac_slices_symMergeCmpFunc_Pair).code ⟨[(0, .own Ad),(2,Ai t2),(4, .fn Ah []),(14,Ai t14),(15,Ai t15)],[(Ad, .arr 1 true 7 u0)]⟩ K
def Mo(t1 t2 t3:Int)(u0:LL)(K:KK):Prop:=Ay 35 E0.P Af (Ag 35 ac_slices_symMergeCmpFunc_Pair).code ⟨[(0, .own Ad),(1,Ai t1),(2,Ai t2),(3,Ai t3),(4, .fn Ah [])],[(Ad, .arr 1 true 7 u0)]⟩ K
def Ia(t1 t2:Int)(t3 t18:Int)(t19 t20 t21:Int)(u0:LL)(K:KK):Prop:=Ay 42 E0.P Af (Ag 42 ac_slices_symMergeCmpFunc_Pair).code ⟨[(0, .own Ad),(1,Ai t1),(2,Ai t2),(3,Ai t3),(4, .fn Ah []),(18,Ai t18),(19,Ai t19),(20,Ai t20),(21,Ai t21)],[(Ad, .arr 1 true 7 u0)]⟩ K
def Dn(t1 t2:Int)(t3 t18:Int)(t19 t20:Int)(t21 t22:Int)(u0:LL)(K:KK):Prop:=Cc 44 E0.P Af (A9 44 ac_slices_symMergeCmpFunc_Pair).code ⟨[(0, .own Ad),(1,Ai t1),(2,Ai t2),(3,Ai t3),(4, .fn Ah []),(18,Ai t18),(19,Ai t19),(20,Ai t20),(21,Ai t21),(22,Ai t22)],[(Ad, .arr 1 true 7 u0)]⟩ K
def Nh(t1 t10:Int)(u0:LL)(K:KK):Prop:=Ay 9 E0.P Af (Ag 9 ac_slices_symMergeCmpFunc_Pair).code ⟨[(0, .own Ad),(1,Ai t1),(10,Ai t10)],[(Ad, .arr 1 true 7 u0)]⟩ K
def Ml(t2 t14:Int)(u0:LL)(K:KK):Prop:=Ay 27 E0.P Af (Ag 27 ac_slices_symMergeCmpFunc_Pair).code ⟨[(0, .own Ad),(2,Ai t2),(14,Ai t14)],[(Ad, .arr 1 true 7 u0)]⟩ K
def F3(t1 t2:Int)(t3 t18:Int)(t19 t20:Int)(u0:LL)(K:KK):Prop:=Ay 50 E0.P Af (Ag 50 ac_slices_symMergeCmpFunc_Pair).code ⟨[(0, .own Ad),(1,Ai t1),(2,Ai t2),(3,Ai t3),(4, .fn Ah []),(18,Ai t18),(19,Ai t19),(20,Ai t20)],[(Ad, .arr 1 true 7 u0)]⟩ K
def F7(t10 t13:Int)(u0:LL)(K:KK):Prop:=Cc 11 E0.P Af (A9 11 ac_slices_symMergeCmpFunc_Pair).code ⟨[(0, .own Ad),(10,Ai t10),(13,Ai t13)],[(Ad, .arr 1 true 7 u0)]⟩ K
def F8(t14 t17:Int)(u0:LL)(K:KK):Prop:=Cc 29 E0.P Af (A9 29 ac_slices_symMergeCmpFunc_Pair).code ⟨[(0, .own Ad),(14,Ai t14),(17,Ai t17)],[(Ad, .arr 1 true 7 u0)]⟩ K
def F4(t1 t3:Int)(t18 t20 t24:Int)(u0:LL)(K:KK):Prop:=Ay 53 E0.P Af (Ag 53 ac_slices_symMergeCmpFunc_Pair).code ⟨[(0, .own Ad),(1,Ai t1),(3,Ai t3),(4, .fn Ah []),(18,Ai t18),(20,Ai t20),(24,Ai t24)],[(Ad, .arr 1 true 7 u0)]⟩ K
def F5(t3 t18 t24:Int)(u0:LL)(K:KK):Prop:=Ay 55 E0.P Af (Ag 55 ac_slices_symMergeCmpFunc_Pair).code ⟨[(0, .own Ad),(3,Ai t3),(4, .fn Ah []),(18,Ai t18),(24,Ai t24)],[(Ad, .arr 1 true 7 u0)]⟩ K
def Mj(u0:LL)(K:KK):Prop:=Ay 16 E0.P Af (Ag 16 ac_slices_symMergeCmpFunc_Pair).code ⟨[],[(Ad, .arr 1 true 7 u0)]⟩ K
def Mm(u0:LL)(K:KK):Prop:=Ay 34 E0.P Af (Ag 34 ac_slices_symMergeCmpFunc_Pair).code ⟨[],[(Ad, .arr 1 true 7 u0)]⟩ K
def Eg(rows:LL)(Q:QQ):KK:=kE fun st=>finish (1) E0.T [] [(Ad, .arr 1 true 7 rows)] Q st
def Iq(rows:LL)(Q:QQ):Ex→St→Prop
 | .normal,st=>Ay 17 E0.P Af (Ag 17 ac_slices_symMergeCmpFunc_Pair).code (mask [0,1,2,3,4] st) (Eg rows Q)
 | .exit _,_=>False
 | .goto _,_=>False
 | .ret,st=>finish (1) E0.T [] [(Ad, .arr 1 true 7 rows)] Q st
def Ni(rows:LL)(Q:QQ):KK:=kF 0 (fun st=>Ay 9 E0.P Af (Ag 9 ac_slices_symMergeCmpFunc_Pair).code (mask [0,1,10] st) (Iq rows Q)) fun st=>finish (1) E0.T [] [(Ad, .arr 1 true 7 rows)] Q st
def Bg(K:KK):KK:=kP [] K
def Ir(K:KK):Ex→St→Prop
 | .normal,st=>Ay 35 E0.P Af (Ag 35 ac_slices_symMergeCmpFunc_Pair).code (mask [0,1,2,3,4] st) (Bg K)
 | .exit i,st=>K (.exit i) st
 | .goto i,st=>K (.goto i) st
 | .ret,st=>K .ret st
def Nj(K:KK):KK:=kC 4 (fun st=>Ay 27 E0.P Af (Ag 27 ac_slices_symMergeCmpFunc_Pair).code (mask [0,2,14] st) (Ir K)) K
def Iu(K:KK):KK:=kC 8 (fun st=>Ay 50 E0.P Af (Ag 50 ac_slices_symMergeCmpFunc_Pair).code (mask [0,1,2,3,4,18,19,20] st) (Bg K)) K
def Eh(K:KK):KK:=kP [0,1,2,3,4] K
def Nk(K:KK):KK:=kC 2 (fun st=>Ay 16 E0.P Af (Ag 16 ac_slices_symMergeCmpFunc_Pair).code (mask [] st) (Eh K)) K
def Nl(K:KK):KK:=kC 6 (fun st=>Ay 34 E0.P Af (Ag 34 ac_slices_symMergeCmpFunc_Pair).code (mask [] st) (Eh K)) K
theorem Lp(t1 t10 t11:Int)(u0:LL)(K:KK)(h:
 (Br (decide (t10<t11))
 (Am ((0:Int)≤(1:Int))
 (Am ((0:Int)≤IntKind.i64.wrap ((IntKind.u64.wrap (IntKind.i64.wrap (t10+t11))).fdiv ((2:Int) ^ 1))∧
 IntKind.i64.wrap ((IntKind.u64.wrap (IntKind.i64.wrap (t10+t11))).fdiv ((2:Int) ^ 1))<
 (↑u0.length:Int))
 (Am ((IntKind.i64.wrap ((IntKind.u64.wrap (IntKind.i64.wrap (t10+t11))).fdiv ((2:Int) ^ 1))).toNat<u0.length∧
 Cu
 [.str, .int .i64, .int .i64, .int .i64, .str, .sl 6 Ae,
 .sl 7 Aq]
 (List.take 7
 (List.drop 0
 (u0.getD
 (IntKind.i64.wrap ((IntKind.u64.wrap (IntKind.i64.wrap (t10+t11))).fdiv ((2:Int) ^ 1))).toNat
 [])))=
 true)
 (Am ((0:Int)≤t1∧t1<(↑u0.length:Int))
 (Am (t1.toNat<u0.length∧
 Cu
 [.str, .int .i64, .int .i64, .int .i64, .str, .sl 6 Ae,
 .sl 7 Aq]
 (List.take 7 (List.drop 0 (u0.getD t1.toNat [])))=
 true)
 (Call E0.P Ah [.imm (.agg [.str (gS
 (List.take 7
 (List.drop 0
 (u0.getD
 (IntKind.i64.wrap ((IntKind.u64.wrap (IntKind.i64.wrap (t10+t11))).fdiv ((2:Int) ^ 1))).toNat [])))
 0), .int .i64 (gI
 (List.take 7
 (List.drop 0
 (u0.getD
 (IntKind.i64.wrap ((IntKind.u64.wrap (IntKind.i64.wrap (t10+t11))).fdiv ((2:Int) ^ 1))).toNat [])))
 1), .int .i64 (gI
 (List.take 7
 (List.drop 0
 (u0.getD
 (IntKind.i64.wrap ((IntKind.u64.wrap (IntKind.i64.wrap (t10+t11))).fdiv ((2:Int) ^ 1))).toNat [])))
 2), .int .i64 (gI
 (List.take 7
 (List.drop 0
 (u0.getD
 (IntKind.i64.wrap ((IntKind.u64.wrap (IntKind.i64.wrap (t10+t11))).fdiv ((2:Int) ^ 1))).toNat [])))
 3), .str (gS
 (List.take 7
 (List.drop 0
 (u0.getD
 (IntKind.i64.wrap ((IntKind.u64.wrap (IntKind.i64.wrap (t10+t11))).fdiv ((2:Int) ^ 1))).toNat [])))
 4), .sl .any 6 (gR
 (List.take 7
 (List.drop 0
 (u0.getD
 (IntKind.i64.wrap ((IntKind.u64.wrap (IntKind.i64.wrap (t10+t11))).fdiv ((2:Int) ^ 1))).toNat [])))
 5), .sl .any 7 (gR
 (List.take 7
 (List.drop 0
 (u0.getD
 (IntKind.i64.wrap ((IntKind.u64.wrap (IntKind.i64.wrap (t10+t11))).fdiv ((2:Int) ^ 1))).toNat [])))
 6)]), .imm (.agg [.str (gS (List.take 7 (List.drop 0 (u0.getD t1.toNat []))) 0), .int .i64 (gI (List.take 7 (List.drop 0 (u0.getD t1.toNat []))) 1), .int .i64 (gI (List.take 7 (List.drop 0 (u0.getD t1.toNat []))) 2), .int .i64 (gI (List.take 7 (List.drop 0 (u0.getD t1.toNat []))) 3), .str (gS (List.take 7 (List.drop 0 (u0.getD t1.toNat []))) 4), .sl .any 6 (gR (List.take 7 (List.drop 0 (u0.getD t1.toNat []))) 5), .sl .any 7 (gR (List.take 7 (List.drop 0 (u0.getD t1.toNat []))) 6)])] [] fun r0 g0=>
 Am (qV1 g0 r0)
 (Br (decide (rI r0<(0:Int)))
 (Ei t1 (IntKind.i64.wrap
 (IntKind.i64.wrap ((IntKind.u64.wrap (IntKind.i64.wrap (t10+t11))).fdiv ((2:Int) ^ 1))+(1:Int))) t11 u0 K)
 (Ei t1 t10 (IntKind.i64.wrap ((IntKind.u64.wrap (IntKind.i64.wrap (t10+t11))).fdiv ((2:Int) ^ 1))) u0 K))))))))
 (K (.exit 0) ⟨[(0, .own Ad),(1,Ai t1),(10,Ai t10)],[(Ad, .arr 1 true 7 u0)]⟩))):Ei t1 t10 t11 u0 K:=Ca (A7 E0 Af) (Bb Af) 3 3 (A9 3 ac_slices_symMergeCmpFunc_Pair) [0,1,4,10,11] _ K rfl (kr (by kernel_rfl) h)
theorem Ui(t1 t2 t3:Int)(u0:LL)(K:KK)(h:
 (Br (decide (IntKind.i64.wrap (t3 - t2)=(1:Int)))
 (Ef t2 t1 t2 u0 (Nj K))
 (Mo t1 t2 t3 u0 (Bg K)))):Mk t1 t2 t3 u0 K:=Ba (A7 E0 Af) (Bb Af) 3 17 (Ag 17 ac_slices_symMergeCmpFunc_Pair) [] _ K rfl (kr (by kernel_rfl) h)
theorem K6(t2 t14 t15:Int)(u0:LL)(K:KK)(h:
 (Br (decide (t14<t15))
 (Am ((0:Int)≤(1:Int))
 (Am ((0:Int)≤t2∧t2<(↑u0.length:Int))
 (Am (t2.toNat<u0.length∧
 Cu
 [.str, .int .i64, .int .i64, .int .i64, .str, .sl 6 Ae,
 .sl 7 Aq]
 (List.take 7 (List.drop 0 (u0.getD t2.toNat [])))=
 true)
 (Am ((0:Int)≤IntKind.i64.wrap ((IntKind.u64.wrap (IntKind.i64.wrap (t14+t15))).fdiv ((2:Int) ^ 1))∧
 IntKind.i64.wrap ((IntKind.u64.wrap (IntKind.i64.wrap (t14+t15))).fdiv ((2:Int) ^ 1))<
 (↑u0.length:Int))
 (Am ((IntKind.i64.wrap ((IntKind.u64.wrap (IntKind.i64.wrap (t14+t15))).fdiv ((2:Int) ^ 1))).toNat<u0.length∧
 Cu
 [.str, .int .i64, .int .i64, .int .i64, .str, .sl 6 Ae,
 .sl 7 Aq]
 (List.take 7
 (List.drop 0
 (u0.getD
 (IntKind.i64.wrap ((IntKind.u64.wrap (IntKind.i64.wrap (t14+t15))).fdiv ((2:Int) ^ 1))).toNat
 [])))=
 true)
 (Call E0.P Ah [.imm (.agg [.str (gS (List.take 7 (List.drop 0 (u0.getD t2.toNat []))) 0), .int .i64 (gI (List.take 7 (List.drop 0 (u0.getD t2.toNat []))) 1), .int .i64 (gI (List.take 7 (List.drop 0 (u0.getD t2.toNat []))) 2), .int .i64 (gI (List.take 7 (List.drop 0 (u0.getD t2.toNat []))) 3), .str (gS (List.take 7 (List.drop 0 (u0.getD t2.toNat []))) 4), .sl .any 6 (gR (List.take 7 (List.drop 0 (u0.getD t2.toNat []))) 5), .sl .any 7 (gR (List.take 7 (List.drop 0 (u0.getD t2.toNat []))) 6)]), .imm (.agg [.str (gS
 (List.take 7
 (List.drop 0
 (u0.getD
 (IntKind.i64.wrap ((IntKind.u64.wrap (IntKind.i64.wrap (t14+t15))).fdiv ((2:Int) ^ 1))).toNat [])))
 0), .int .i64 (gI
 (List.take 7
 (List.drop 0
 (u0.getD
 (IntKind.i64.wrap ((IntKind.u64.wrap (IntKind.i64.wrap (t14+t15))).fdiv ((2:Int) ^ 1))).toNat [])))
 1), .int .i64 (gI
 (List.take 7
 (List.drop 0
 (u0.getD
 (IntKind.i64.wrap ((IntKind.u64.wrap (IntKind.i64.wrap (t14+t15))).fdiv ((2:Int) ^ 1))).toNat [])))
 2), .int .i64 (gI
 (List.take 7
 (List.drop 0
 (u0.getD
 (IntKind.i64.wrap ((IntKind.u64.wrap (IntKind.i64.wrap (t14+t15))).fdiv ((2:Int) ^ 1))).toNat [])))
 3), .str (gS
 (List.take 7
 (List.drop 0
 (u0.getD
 (IntKind.i64.wrap ((IntKind.u64.wrap (IntKind.i64.wrap (t14+t15))).fdiv ((2:Int) ^ 1))).toNat [])))
 4), .sl .any 6 (gR
 (List.take 7
 (List.drop 0
 (u0.getD
 (IntKind.i64.wrap ((IntKind.u64.wrap (IntKind.i64.wrap (t14+t15))).fdiv ((2:Int) ^ 1))).toNat [])))
 5), .sl .any 7 (gR
 (List.take 7
 (List.drop 0
 (u0.getD
 (IntKind.i64.wrap ((IntKind.u64.wrap (IntKind.i64.wrap (t14+t15))).fdiv ((2:Int) ^ 1))).toNat [])))
 6)])] [] fun r0 g0=>
 Am (qV1 g0 r0)
 (Br (!decide (rI r0<(0:Int)))
 (Ef t2 (IntKind.i64.wrap
 (IntKind.i64.wrap ((IntKind.u64.wrap (IntKind.i64.wrap (t14+t15))).fdiv ((2:Int) ^ 1))+(1:Int))) t15 u0 K)
 (Ef t2 t14 (IntKind.i64.wrap ((IntKind.u64.wrap (IntKind.i64.wrap (t14+t15))).fdiv ((2:Int) ^ 1))) u0 K))))))))
 (K (.exit (4)) ⟨[(0, .own Ad),(2,Ai t2),(14,Ai t14)],[(Ad, .arr 1 true 7 u0)]⟩))):Ef t2 t14 t15 u0 K:=Ca (A7 E0 Af) (Bb Af) 3 21 (A9 21 ac_slices_symMergeCmpFunc_Pair) [0,2,4,14,15] _ K rfl (kr (by kernel_rfl) h)
theorem Ul(t1 t2 t3:Int)(u0:LL)(K:KK)(h:
 (Am ((0:Int)≤(1:Int))
 (Br (decide (IntKind.i64.wrap ((IntKind.u64.wrap (IntKind.i64.wrap (t1+t3))).fdiv ((2:Int) ^ 1))<t2))
 (Ia t1 t2 t3 (IntKind.i64.wrap ((IntKind.u64.wrap (IntKind.i64.wrap (t1+t3))).fdiv ((2:Int) ^ 1))) (IntKind.i64.wrap (IntKind.i64.wrap ((IntKind.u64.wrap (IntKind.i64.wrap (t1+t3))).fdiv ((2:Int) ^ 1))+t2)) (IntKind.i64.wrap
 (IntKind.i64.wrap
 (IntKind.i64.wrap ((IntKind.u64.wrap (IntKind.i64.wrap (t1+t3))).fdiv ((2:Int) ^ 1))+t2) -
 t3)) (IntKind.i64.wrap ((IntKind.u64.wrap (IntKind.i64.wrap (t1+t3))).fdiv ((2:Int) ^ 1))) u0 (Bg K))
 (Ia t1 t2 t3 (IntKind.i64.wrap ((IntKind.u64.wrap (IntKind.i64.wrap (t1+t3))).fdiv ((2:Int) ^ 1))) (IntKind.i64.wrap (IntKind.i64.wrap ((IntKind.u64.wrap (IntKind.i64.wrap (t1+t3))).fdiv ((2:Int) ^ 1))+t2)) t1 t2 u0 (Bg K))))):Mo t1 t2 t3 u0 K:=Ba (A7 E0 Af) (Bb Af) 3 35 (Ag 35 ac_slices_symMergeCmpFunc_Pair) [] _ K rfl (kr (by kernel_rfl) h)
theorem Ku(t1 t2:Int)(t3 t18:Int)(t19 t20 t21:Int)(u0:LL)(K:KK)(h:
 (Dn t1 t2 t3 t18 t19 t20 t21 (IntKind.i64.wrap (t19 - (1:Int))) u0 (Iu K))):Ia t1 t2 t3 t18 t19 t20 t21 u0 K:=Ba (A7 E0 Af) (Bb Af) 3 42 (Ag 42 ac_slices_symMergeCmpFunc_Pair) [] _ K rfl (kr (by kernel_rfl) h)
theorem K8(t1 t2:Int)(t3 t18:Int)(t19 t20:Int)(t21 t22:Int)(u0:LL)(K:KK)(h:
 (Br (decide (t20<t21))
 (Am ((0:Int)≤(1:Int))
 (Am ((0:Int)≤
 IntKind.i64.wrap
 (t22 - IntKind.i64.wrap ((IntKind.u64.wrap (IntKind.i64.wrap (t20+t21))).fdiv ((2:Int) ^ 1)))∧
 IntKind.i64.wrap
 (t22 - IntKind.i64.wrap ((IntKind.u64.wrap (IntKind.i64.wrap (t20+t21))).fdiv ((2:Int) ^ 1)))<
 (↑u0.length:Int))
 (Am ((IntKind.i64.wrap
 (t22 -
 IntKind.i64.wrap ((IntKind.u64.wrap (IntKind.i64.wrap (t20+t21))).fdiv ((2:Int) ^ 1)))).toNat<
 u0.length∧
 Cu
 [.str, .int .i64, .int .i64, .int .i64, .str, .sl 6 Ae,
 .sl 7 Aq]
 (List.take 7
 (List.drop 0
 (u0.getD
 (IntKind.i64.wrap
 (t22 -
 IntKind.i64.wrap
 ((IntKind.u64.wrap (IntKind.i64.wrap (t20+t21))).fdiv ((2:Int) ^ 1)))).toNat
 [])))=
 true)
 (Am ((0:Int)≤IntKind.i64.wrap ((IntKind.u64.wrap (IntKind.i64.wrap (t20+t21))).fdiv ((2:Int) ^ 1))∧
 IntKind.i64.wrap ((IntKind.u64.wrap (IntKind.i64.wrap (t20+t21))).fdiv ((2:Int) ^ 1))<
 (↑u0.length:Int))
 (Am ((IntKind.i64.wrap ((IntKind.u64.wrap (IntKind.i64.wrap (t20+t21))).fdiv ((2:Int) ^ 1))).toNat<u0.length∧
 Cu
 [.str, .int .i64, .int .i64, .int .i64, .str, .sl 6 Ae,
 .sl 7 Aq]
 (List.take 7
 (List.drop 0
 (u0.getD
 (IntKind.i64.wrap ((IntKind.u64.wrap (IntKind.i64.wrap (t20+t21))).fdiv ((2:Int) ^ 1))).toNat
 [])))=
 true)
 (Call E0.P Ah [.imm (.agg [.str (gS
 (List.take 7
 (List.drop 0
 (u0.getD
 (IntKind.i64.wrap
 (t22 -
 IntKind.i64.wrap ((IntKind.u64.wrap (IntKind.i64.wrap (t20+t21))).fdiv ((2:Int) ^ 1)))).toNat
 [])))
 0), .int .i64 (gI
 (List.take 7
 (List.drop 0
 (u0.getD
 (IntKind.i64.wrap
 (t22 -
 IntKind.i64.wrap ((IntKind.u64.wrap (IntKind.i64.wrap (t20+t21))).fdiv ((2:Int) ^ 1)))).toNat
 [])))
 1), .int .i64 (gI
 (List.take 7
 (List.drop 0
 (u0.getD
 (IntKind.i64.wrap
 (t22 -
 IntKind.i64.wrap ((IntKind.u64.wrap (IntKind.i64.wrap (t20+t21))).fdiv ((2:Int) ^ 1)))).toNat
 [])))
 2), .int .i64 (gI
 (List.take 7
 (List.drop 0
 (u0.getD
 (IntKind.i64.wrap
 (t22 -
 IntKind.i64.wrap ((IntKind.u64.wrap (IntKind.i64.wrap (t20+t21))).fdiv ((2:Int) ^ 1)))).toNat
 [])))
 3), .str (gS
 (List.take 7
 (List.drop 0
 (u0.getD
 (IntKind.i64.wrap
 (t22 -
 IntKind.i64.wrap ((IntKind.u64.wrap (IntKind.i64.wrap (t20+t21))).fdiv ((2:Int) ^ 1)))).toNat
 [])))
 4), .sl .any 6 (gR
 (List.take 7
 (List.drop 0
 (u0.getD
 (IntKind.i64.wrap
 (t22 -
 IntKind.i64.wrap ((IntKind.u64.wrap (IntKind.i64.wrap (t20+t21))).fdiv ((2:Int) ^ 1)))).toNat
 [])))
 5), .sl .any 7 (gR
 (List.take 7
 (List.drop 0
 (u0.getD
 (IntKind.i64.wrap
 (t22 -
 IntKind.i64.wrap ((IntKind.u64.wrap (IntKind.i64.wrap (t20+t21))).fdiv ((2:Int) ^ 1)))).toNat
 [])))
 6)]), .imm (.agg [.str (gS
 (List.take 7
 (List.drop 0
 (u0.getD
 (IntKind.i64.wrap ((IntKind.u64.wrap (IntKind.i64.wrap (t20+t21))).fdiv ((2:Int) ^ 1))).toNat [])))
 0), .int .i64 (gI
 (List.take 7
 (List.drop 0
 (u0.getD
 (IntKind.i64.wrap ((IntKind.u64.wrap (IntKind.i64.wrap (t20+t21))).fdiv ((2:Int) ^ 1))).toNat [])))
 1), .int .i64 (gI
 (List.take 7
 (List.drop 0
 (u0.getD
 (IntKind.i64.wrap ((IntKind.u64.wrap (IntKind.i64.wrap (t20+t21))).fdiv ((2:Int) ^ 1))).toNat [])))
 2), .int .i64 (gI
 (List.take 7
 (List.drop 0
 (u0.getD
 (IntKind.i64.wrap ((IntKind.u64.wrap (IntKind.i64.wrap (t20+t21))).fdiv ((2:Int) ^ 1))).toNat [])))
 3), .str (gS
 (List.take 7
 (List.drop 0
 (u0.getD
 (IntKind.i64.wrap ((IntKind.u64.wrap (IntKind.i64.wrap (t20+t21))).fdiv ((2:Int) ^ 1))).toNat [])))
 4), .sl .any 6 (gR
 (List.take 7
 (List.drop 0
 (u0.getD
 (IntKind.i64.wrap ((IntKind.u64.wrap (IntKind.i64.wrap (t20+t21))).fdiv ((2:Int) ^ 1))).toNat [])))
 5), .sl .any 7 (gR
 (List.take 7
 (List.drop 0
 (u0.getD
 (IntKind.i64.wrap ((IntKind.u64.wrap (IntKind.i64.wrap (t20+t21))).fdiv ((2:Int) ^ 1))).toNat [])))
 6)])] [] fun r0 g0=>
 Am (qV1 g0 r0)
 (Br (!decide (rI r0<(0:Int)))
 (Dn t1 t2 t3 t18 t19 (IntKind.i64.wrap
 (IntKind.i64.wrap ((IntKind.u64.wrap (IntKind.i64.wrap (t20+t21))).fdiv ((2:Int) ^ 1))+(1:Int))) t21 t22 u0 K)
 (Dn t1 t2 t3 t18 t19 t20 (IntKind.i64.wrap ((IntKind.u64.wrap (IntKind.i64.wrap (t20+t21))).fdiv ((2:Int) ^ 1))) t22 u0 K))))))))
 (K (.exit (8)) ⟨[(0, .own Ad),(1,Ai t1),(2,Ai t2),(3,Ai t3),(4, .fn Ah []),(18,Ai t18),(19,Ai t19),(20,Ai t20)],[(Ad, .arr 1 true 7 u0)]⟩))):Dn t1 t2 t3 t18 t19 t20 t21 t22 u0 K:=Ca (A7 E0 Af) (Bb Af) 3 44 (A9 44 ac_slices_symMergeCmpFunc_Pair) [0,1,2,3,4,18,19,20,21,22] _ K rfl (kr (by kernel_rfl) h)
theorem Vk(t1 t10:Int)(u0:LL)(K:KK)(h:
 (F7 t10 t1 u0 (Nk K))):Nh t1 t10 u0 K:=Ba (A7 E0 Af) (Bb Af) 3 9 (Ag 9 ac_slices_symMergeCmpFunc_Pair) [0,1,2,3,4] _ K rfl (kr (by kernel_rfl) h)
theorem Uj(t2 t14:Int)(u0:LL)(K:KK)(h:
 (F8 t14 t2 u0 (Nl K))):Ml t2 t14 u0 K:=Ba (A7 E0 Af) (Bb Af) 3 27 (Ag 27 ac_slices_symMergeCmpFunc_Pair) [0,1,2,3,4] _ K rfl (kr (by kernel_rfl) h)
theorem Um(t1 t2:Int)(t3 t18:Int)(t19 t20:Int)(u0:LL)(K:KK)(h:
 (Let (bif decide (t20<t2)then decide (t2<IntKind.i64.wrap (t19 - t20))else false) fun x0=>
 Br (x0)
 (Call E0.P J8 [.own Ad,Ai t20,Ai t2,Ai (IntKind.i64.wrap (t19 - t20)), .fn Ah []] [(Ad, .arr 1 true 7 u0)] fun r1 g1=>
 Am (qV2 g1 r1)
 (F4 t1 t3 t18 t20 (IntKind.i64.wrap (t19 - t20)) (C8 g1 Ad) (Bg K)))
 (F4 t1 t3 t18 t20 (IntKind.i64.wrap (t19 - t20)) u0 (Bg K)))):F3 t1 t2 t3 t18 t19 t20 u0 K:=Ba (A7 E0 Af) (Bb Af) 3 50 (Ag 50 ac_slices_symMergeCmpFunc_Pair) [] _ K rfl (kr (by kernel_rfl) h)
theorem K5(t10 t13:Int)(u0:LL)(K:KK)(h:
 (Br (decide (t13<IntKind.i64.wrap (t10 - (1:Int))))
 (Am ((0:Int)≤IntKind.i64.wrap (t13+(1:Int))∧IntKind.i64.wrap (t13+(1:Int))<(↑u0.length:Int))
 (Am ((IntKind.i64.wrap (t13+(1:Int))).toNat<u0.length∧
 Cu
 [.str, .int .i64, .int .i64, .int .i64, .str, .sl 6 Ae,
 .sl 7 Aq]
 (List.take 7 (List.drop 0 (u0.getD (IntKind.i64.wrap (t13+(1:Int))).toNat [])))=
 true)
 (Am ((0:Int)≤t13∧t13<(↑u0.length:Int))
 (Am (t13.toNat<u0.length∧
 Cu
 [.str, .int .i64, .int .i64, .int .i64, .str, .sl 6 Ae,
 .sl 7 Aq]
 (List.take 7 (List.drop 0 (u0.getD t13.toNat [])))=
 true)
 (Am ((0:Int)≤t13∧t13<(↑u0.length:Int))
 (Am (t13.toNat<u0.length)
 (Am ((0:Int)≤IntKind.i64.wrap (t13+(1:Int))∧
 IntKind.i64.wrap (t13+(1:Int))<
 (↑(u0.set t13.toNat
 [.str
 (gS (List.take (7:Nat) (List.drop (0:Nat) (u0.getD (IntKind.i64.wrap (t13+(1:Int))).toNat [])))
 (0:Nat)),
 .int .i64
 (gI (List.take (7:Nat) (List.drop (0:Nat) (u0.getD (IntKind.i64.wrap (t13+(1:Int))).toNat [])))
 (1:Nat)),
 .int .i64
 (gI (List.take (7:Nat) (List.drop (0:Nat) (u0.getD (IntKind.i64.wrap (t13+(1:Int))).toNat [])))
 (2:Nat)),
 .int .i64
 (gI (List.take (7:Nat) (List.drop (0:Nat) (u0.getD (IntKind.i64.wrap (t13+(1:Int))).toNat [])))
 (3:Nat)),
 .str
 (gS (List.take (7:Nat) (List.drop (0:Nat) (u0.getD (IntKind.i64.wrap (t13+(1:Int))).toNat [])))
 (4:Nat)),
 .sl SK.any (6:Nat)
 (gR (List.take (7:Nat) (List.drop (0:Nat) (u0.getD (IntKind.i64.wrap (t13+(1:Int))).toNat [])))
 (5:Nat)),
 .sl SK.any (7:Nat)
 (gR (List.take (7:Nat) (List.drop (0:Nat) (u0.getD (IntKind.i64.wrap (t13+(1:Int))).toNat [])))
 (6:Nat))]).length:
 Int))
 (Am ((IntKind.i64.wrap (t13+(1:Int))).toNat<
 (u0.set t13.toNat
 [.str
 (gS (List.take 7 (List.drop 0 (u0.getD (IntKind.i64.wrap (t13+(1:Int))).toNat [])))
 0),
 .int .i64
 (gI (List.take 7 (List.drop 0 (u0.getD (IntKind.i64.wrap (t13+(1:Int))).toNat [])))
 1),
 .int .i64
 (gI (List.take 7 (List.drop 0 (u0.getD (IntKind.i64.wrap (t13+(1:Int))).toNat [])))
 2),
 .int .i64
 (gI (List.take 7 (List.drop 0 (u0.getD (IntKind.i64.wrap (t13+(1:Int))).toNat [])))
 3),
 .str
 (gS (List.take 7 (List.drop 0 (u0.getD (IntKind.i64.wrap (t13+(1:Int))).toNat [])))
 4),
 .sl SK.any 6
 (gR (List.take 7 (List.drop 0 (u0.getD (IntKind.i64.wrap (t13+(1:Int))).toNat [])))
 5),
 .sl SK.any 7
 (gR (List.take 7 (List.drop 0 (u0.getD (IntKind.i64.wrap (t13+(1:Int))).toNat [])))
 6)]).length)
 (F7 t10 (IntKind.i64.wrap (t13+(1:Int))) ((u0.set t13.toNat
 [.str
 (gS (List.take 7 (List.drop 0 (u0.getD (IntKind.i64.wrap (t13+(1:Int))).toNat [])))
 0),
 .int .i64
 (gI (List.take 7 (List.drop 0 (u0.getD (IntKind.i64.wrap (t13+(1:Int))).toNat [])))
 1),
 .int .i64
 (gI (List.take 7 (List.drop 0 (u0.getD (IntKind.i64.wrap (t13+(1:Int))).toNat [])))
 2),
 .int .i64
 (gI (List.take 7 (List.drop 0 (u0.getD (IntKind.i64.wrap (t13+(1:Int))).toNat [])))
 3),
 .str
 (gS (List.take 7 (List.drop 0 (u0.getD (IntKind.i64.wrap (t13+(1:Int))).toNat [])))
 4),
 .sl SK.any 6
 (gR (List.take 7 (List.drop 0 (u0.getD (IntKind.i64.wrap (t13+(1:Int))).toNat [])))
 5),
 .sl SK.any 7
 (gR (List.take 7 (List.drop 0 (u0.getD (IntKind.i64.wrap (t13+(1:Int))).toNat [])))
 6)]).set
 (IntKind.i64.wrap (t13+(1:Int))).toNat
 [.str (gS (List.take 7 (List.drop 0 (u0.getD t13.toNat []))) 0),
 .int .i64 (gI (List.take 7 (List.drop 0 (u0.getD t13.toNat []))) 1),
 .int .i64 (gI (List.take 7 (List.drop 0 (u0.getD t13.toNat []))) 2),
 .int .i64 (gI (List.take 7 (List.drop 0 (u0.getD t13.toNat []))) 3),
 .str (gS (List.take 7 (List.drop 0 (u0.getD t13.toNat []))) 4),
 .sl SK.any 6 (gR (List.take 7 (List.drop 0 (u0.getD t13.toNat []))) 5),
 .sl SK.any 7 (gR (List.take 7 (List.drop 0 (u0.getD t13.toNat []))) 6)]) K)))))))))
 (K (.exit (2)) ⟨[],[(Ad, .arr 1 true 7 u0)]⟩))):F7 t10 t13 u0 K:=Ca (A7 E0 Af) (Bb Af) 3 11 (A9 11 ac_slices_symMergeCmpFunc_Pair) [0,10,13] _ K rfl (kr (by kernel_rfl) h)
theorem K7(t14 t17:Int)(u0:LL)(K:KK)(h:
 (Br (decide (t14<t17))
 (Am ((0:Int)≤IntKind.i64.wrap (t17 - (1:Int))∧IntKind.i64.wrap (t17 - (1:Int))<(↑u0.length:Int))
 (Am ((IntKind.i64.wrap (t17 - (1:Int))).toNat<u0.length∧
 Cu
 [.str, .int .i64, .int .i64, .int .i64, .str, .sl 6 Ae,
 .sl 7 Aq]
 (List.take 7 (List.drop 0 (u0.getD (IntKind.i64.wrap (t17 - (1:Int))).toNat [])))=
 true)
 (Am ((0:Int)≤t17∧t17<(↑u0.length:Int))
 (Am (t17.toNat<u0.length∧
 Cu
 [.str, .int .i64, .int .i64, .int .i64, .str, .sl 6 Ae,
 .sl 7 Aq]
 (List.take 7 (List.drop 0 (u0.getD t17.toNat [])))=
 true)
 (Am ((0:Int)≤t17∧t17<(↑u0.length:Int))
 (Am (t17.toNat<u0.length)
 (Am ((0:Int)≤IntKind.i64.wrap (t17 - (1:Int))∧
 IntKind.i64.wrap (t17 - (1:Int))<
 (↑(u0.set t17.toNat
 [.str
 (gS (List.take (7:Nat) (List.drop (0:Nat) (u0.getD (IntKind.i64.wrap (t17 - (1:Int))).toNat [])))
 (0:Nat)),
 .int .i64
 (gI (List.take (7:Nat) (List.drop (0:Nat) (u0.getD (IntKind.i64.wrap (t17 - (1:Int))).toNat [])))
 (1:Nat)),
 .int .i64
 (gI (List.take (7:Nat) (List.drop (0:Nat) (u0.getD (IntKind.i64.wrap (t17 - (1:Int))).toNat [])))
 (2:Nat)),
 .int .i64
 (gI (List.take (7:Nat) (List.drop (0:Nat) (u0.getD (IntKind.i64.wrap (t17 - (1:Int))).toNat [])))
 (3:Nat)),
 .str
 (gS (List.take (7:Nat) (List.drop (0:Nat) (u0.getD (IntKind.i64.wrap (t17 - (1:Int))).toNat [])))
 (4:Nat)),
 .sl SK.any (6:Nat)
 (gR (List.take (7:Nat) (List.drop (0:Nat) (u0.getD (IntKind.i64.wrap (t17 - (1:Int))).toNat [])))
 (5:Nat)),
 .sl SK.any (7:Nat)
 (gR (List.take (7:Nat) (List.drop (0:Nat) (u0.getD (IntKind.i64.wrap (t17 - (1:Int))).toNat [])))
 (6:Nat))]).length:
 Int))
 (Am ((IntKind.i64.wrap (t17 - (1:Int))).toNat<
 (u0.set t17.toNat
 [.str
 (gS (List.take 7 (List.drop 0 (u0.getD (IntKind.i64.wrap (t17 - (1:Int))).toNat [])))
 0),
 .int .i64
 (gI (List.take 7 (List.drop 0 (u0.getD (IntKind.i64.wrap (t17 - (1:Int))).toNat [])))
 1),
 .int .i64
 (gI (List.take 7 (List.drop 0 (u0.getD (IntKind.i64.wrap (t17 - (1:Int))).toNat [])))
 2),
 .int .i64
 (gI (List.take 7 (List.drop 0 (u0.getD (IntKind.i64.wrap (t17 - (1:Int))).toNat [])))
 3),
 .str
 (gS (List.take 7 (List.drop 0 (u0.getD (IntKind.i64.wrap (t17 - (1:Int))).toNat [])))
 4),
 .sl SK.any 6
 (gR (List.take 7 (List.drop 0 (u0.getD (IntKind.i64.wrap (t17 - (1:Int))).toNat [])))
 5),
 .sl SK.any 7
 (gR (List.take 7 (List.drop 0 (u0.getD (IntKind.i64.wrap (t17 - (1:Int))).toNat [])))
 6)]).length)
 (F8 t14 (IntKind.i64.wrap (t17 - (1:Int))) ((u0.set t17.toNat
 [.str
 (gS (List.take 7 (List.drop 0 (u0.getD (IntKind.i64.wrap (t17 - (1:Int))).toNat [])))
 0),
 .int .i64
 (gI (List.take 7 (List.drop 0 (u0.getD (IntKind.i64.wrap (t17 - (1:Int))).toNat [])))
 1),
 .int .i64
 (gI (List.take 7 (List.drop 0 (u0.getD (IntKind.i64.wrap (t17 - (1:Int))).toNat [])))
 2),
 .int .i64
 (gI (List.take 7 (List.drop 0 (u0.getD (IntKind.i64.wrap (t17 - (1:Int))).toNat [])))
 3),
 .str
 (gS (List.take 7 (List.drop 0 (u0.getD (IntKind.i64.wrap (t17 - (1:Int))).toNat [])))
 4),
 .sl SK.any 6
 (gR (List.take 7 (List.drop 0 (u0.getD (IntKind.i64.wrap (t17 - (1:Int))).toNat [])))
 5),
 .sl SK.any 7
 (gR (List.take 7 (List.drop 0 (u0.getD (IntKind.i64.wrap (t17 - (1:Int))).toNat [])))
 6)]).set
 (IntKind.i64.wrap (t17 - (1:Int))).toNat
 [.str (gS (List.take 7 (List.drop 0 (u0.getD t17.toNat []))) 0),
 .int .i64 (gI (List.take 7 (List.drop 0 (u0.getD t17.toNat []))) 1),
 .int .i64 (gI (List.take 7 (List.drop 0 (u0.getD t17.toNat []))) 2),
 .int .i64 (gI (List.take 7 (List.drop 0 (u0.getD t17.toNat []))) 3),
 .str (gS (List.take 7 (List.drop 0 (u0.getD t17.toNat []))) 4),
 .sl SK.any 6 (gR (List.take 7 (List.drop 0 (u0.getD t17.toNat []))) 5),
 .sl SK.any 7 (gR (List.take 7 (List.drop 0 (u0.getD t17.toNat []))) 6)]) K)))))))))
 (K (.exit (6)) ⟨[],[(Ad, .arr 1 true 7 u0)]⟩))):F8 t14 t17 u0 K:=Ca (A7 E0 Af) (Bb Af) 3 29 (A9 29 ac_slices_symMergeCmpFunc_Pair) [0,14,17] _ K rfl (kr (by kernel_rfl) h)
theorem Un(t1 t3:Int)(t18 t20 t24:Int)(u0:LL)(K:KK)(h:
 (Let (bif decide (t1<t20)then decide (t20<t18)else false) fun x0=>
 Br (x0)
 (Call E0.P Dx [.own Ad,Ai t1,Ai t20,Ai t18, .fn Ah []] [(Ad, .arr 1 true 7 u0)] fun r1 g1=>
 Am (qV2 g1 r1)
 (F5 t3 t18 t24 (C8 g1 Ad) (Bg K)))
 (F5 t3 t18 t24 u0 (Bg K)))):F4 t1 t3 t18 t20 t24 u0 K:=Ba (A7 E0 Af) (Bb Af) 3 53 (Ag 53 ac_slices_symMergeCmpFunc_Pair) [] _ K rfl (kr (by kernel_rfl) h)
theorem Uo(t3 t18 t24:Int)(u0:LL)(K:KK)(h:
 (Let (bif decide (t18<t24)then decide (t24<t3)else false) fun x0=>
 Br (x0)
 (Call E0.P Dx [.own Ad,Ai t18,Ai t24,Ai t3, .fn Ah []] [(Ad, .arr 1 true 7 u0)] fun r1 g1=>
 Am (qV2 g1 r1)
 (K .normal ⟨[],[(Ad, .arr 1 true 7 (C8 g1 Ad))]⟩))
 (K .normal ⟨[],[(Ad, .arr 1 true 7 u0)]⟩))):F5 t3 t18 t24 u0 K:=Ba (A7 E0 Af) (Bb Af) 3 55 (Ag 55 ac_slices_symMergeCmpFunc_Pair) [] _ K rfl (kr (by kernel_rfl) h)
theorem Uh(u0:LL)(K:KK)(h:
 (K .ret ⟨[],[(Ad, .arr 1 true 7 u0)]⟩)):Mj u0 K:=Ba (A7 E0 Af) (Bb Af) 3 16 (Ag 16 ac_slices_symMergeCmpFunc_Pair) [0,1,2,3,4] _ K rfl (kr (by kernel_rfl) h)
theorem Uk(u0:LL)(K:KK)(h:
 (K .ret ⟨[],[(Ad, .arr 1 true 7 u0)]⟩)):Mm u0 K:=Ba (A7 E0 Af) (Bb Af) 3 34 (Ag 34 ac_slices_symMergeCmpFunc_Pair) [0,1,2,3,4] _ K rfl (kr (by kernel_rfl) h)
theorem Vn(rows:LL)(Q:QQ)(u0:LL)(h:
 (Q (.tup []) [(Ad, .arr 1 true 7 u0)])):Eg rows Q .ret ⟨[],[(Ad, .arr 1 true 7 u0)]⟩:=kr (by kernel_rfl) h
theorem Vo(rows:LL)(Q:QQ)(u0:LL)(h:
 (Q (.tup []) [(Ad, .arr 1 true 7 u0)])):Eg rows Q .normal ⟨[],[(Ad, .arr 1 true 7 u0)]⟩:=kr (by kernel_rfl) h
theorem Vp(rows:LL)(Q:QQ)(u0:LL)(h:
 (Q (.tup []) [(Ad, .arr 1 true 7 u0)])):Iq rows Q .ret ⟨[],[(Ad, .arr 1 true 7 u0)]⟩:=kr (by kernel_rfl) h
theorem Vq(rows:LL)(Q:QQ)(t1 t10:Int)(u0:LL)(h:
 (Nh t1 t10 u0 (Iq rows Q))):Ni rows Q (.exit 0) ⟨[(0, .own Ad),(1,Ai t1),(10,Ai t10)],[(Ad, .arr 1 true 7 u0)]⟩:=kr (by kernel_rfl) h
theorem Cv(K:KK)(u0:LL)(h:
 (K .normal ⟨[],[(Ad, .arr 1 true 7 u0)]⟩)):Bg K .normal ⟨[],[(Ad, .arr 1 true 7 u0)]⟩:=kr (by kernel_rfl) h
theorem Vr(K:KK)(u0:LL)(h:
 (K .ret ⟨[],[(Ad, .arr 1 true 7 u0)]⟩)):Ir K .ret ⟨[],[(Ad, .arr 1 true 7 u0)]⟩:=kr (by kernel_rfl) h
theorem Vs(K:KK)(t2 t14:Int)(u0:LL)(h:
 (Ml t2 t14 u0 (Ir K))):Nj K (.exit (4)) ⟨[(0, .own Ad),(2,Ai t2),(14,Ai t14)],[(Ad, .arr 1 true 7 u0)]⟩:=kr (by kernel_rfl) h
theorem Vt(K:KK)(t1 t2:Int)(t3 t18:Int)(t19 t20:Int)(u0:LL)(h:
 (F3 t1 t2 t3 t18 t19 t20 u0 (Bg K))):Iu K (.exit (8)) ⟨[(0, .own Ad),(1,Ai t1),(2,Ai t2),(3,Ai t3),(4, .fn Ah []),(18,Ai t18),(19,Ai t19),(20,Ai t20)],[(Ad, .arr 1 true 7 u0)]⟩:=kr (by kernel_rfl) h
theorem Lm(K:KK)(u0:LL)(h:
 (K .ret ⟨[],[(Ad, .arr 1 true 7 u0)]⟩)):Eh K .ret ⟨[],[(Ad, .arr 1 true 7 u0)]⟩:=kr (by kernel_rfl) h
theorem Vu(K:KK)(u0:LL)(h:
 (Mj u0 (Eh K))):Nk K (.exit (2)) ⟨[],[(Ad, .arr 1 true 7 u0)]⟩:=kr (by kernel_rfl) h
theorem Vv(K:KK)(u0:LL)(h:
 (Mm u0 (Eh K))):Nl K (.exit (6)) ⟨[],[(Ad, .arr 1 true 7 u0)]⟩:=kr (by kernel_rfl) h
theorem Zz:Bw E0.P 83 ac_slices_symMergeCmpFunc_Pair.code Af []:=Bn _ _ Tryz.f83 [(3,[0,1,4,10,11],[]),(5,[0,1,10],[]),(9,[0,1,10],[0,1,2,3,4]),(11,[0,10,13],[]),(13,[],[]),(16,[],[0,1,2,3,4]),(17,[0,1,2,3,4],[]),(21,[0,2,4,14,15],[]),(23,[0,2,14],[]),(27,[0,2,14],[0,1,2,3,4]),(29,[0,14,17],[]),(31,[],[]),(34,[],[0,1,2,3,4]),(35,[0,1,2,3,4],[]),(42,[0,1,2,3,4,18,19,20,21],[]),(44,[0,1,2,3,4,18,19,20,21,22],[]),(46,[0,1,2,3,4,18,19,20],[]),(50,[0,1,2,3,4,18,19,20],[]),(53,[0,1,3,4,18,20,24],[]),(55,[0,3,4,18,24],[])] [] _ 220 Tryz.func83 (by kernel_rfl) (by kernel_rfl) (by kernel_rfl) (by kernel_rfl)
theorem Xi(rows:LL)(a1 a2 a3:Int)(Q:QQ)(h:
 (Br (decide (IntKind.i64.wrap (a2 - a1)=(1:Int)))
 (Ei a1 a2 a3 rows (Ni rows Q))
 (Mk a1 a2 a3 rows (Eg rows Q)))):Call E0.P Dx [.own (.arg 0),Ai a1,Ai a2,Ai a3, .fn Ah []] [(.arg 0, .arr 1 true 7 rows)] Q:=Bd (A7 E0 Af) (Bb Af) 3 1 83 ac_slices_symMergeCmpFunc_Pair [] Zz _ _ Q rfl rfl (kr (by kernel_rfl) h)
noncomputable def ac_slices_stableCmpFunc_Pair:AC:=(Bf [(2,[0,1,2,6,7,8],[]),(4,[0,1,2,6,7],[]),(8,[0,1,2,6,7],[]),(10,[0,1,2,6],[]),(12,[],[]),(15,[0,1,2,6,7,8],[]),(17,[0,1,2,6,7],[]),(21,[0,1,2,6,7],[0,1,2,6]),(24,[0,1,2,6],[0,1,2,6])] [] (codeOf Tryz.f65) 0).1
abbrev Av:Nat:=63
def Gv(t1 t6:Int)(t7 t8:Int)(u0:LL)(K:KK):Prop:=Cc 2 E0.P Av (A9 2 ac_slices_stableCmpFunc_Pair).code ⟨[(0, .own Ad),(1,Ai t1),(2, .fn Ah []),(6,Ai t6),(7,Ai t7),(8,Ai t8)],[(Ad, .arr 1 true 7 u0)]⟩ K
def O9(t1 t6 t7:Int)(u0:LL)(K:KK):Prop:=Ay 8 E0.P Av (Ag 8 ac_slices_stableCmpFunc_Pair).code ⟨[(0, .own Ad),(1,Ai t1),(2, .fn Ah []),(6,Ai t6),(7,Ai t7)],[(Ad, .arr 1 true 7 u0)]⟩ K
def Dv(t1 t6:Int)(u0:LL)(K:KK):Prop:=Cc 10 E0.P Av (A9 10 ac_slices_stableCmpFunc_Pair).code ⟨[(0, .own Ad),(1,Ai t1),(2, .fn Ah []),(6,Ai t6)],[(Ad, .arr 1 true 7 u0)]⟩ K
def Gp(t1 t6:Int)(t7 t8:Int)(u0:LL)(K:KK):Prop:=Cc 15 E0.P Av (A9 15 ac_slices_stableCmpFunc_Pair).code ⟨[(0, .own Ad),(1,Ai t1),(2, .fn Ah []),(6,Ai t6),(7,Ai t7),(8,Ai t8)],[(Ad, .arr 1 true 7 u0)]⟩ K
def N8(t1 t6 t7:Int)(u0:LL)(K:KK):Prop:=Ay 21 E0.P Av (Ag 21 ac_slices_stableCmpFunc_Pair).code ⟨[(0, .own Ad),(1,Ai t1),(2, .fn Ah []),(6,Ai t6),(7,Ai t7)],[(Ad, .arr 1 true 7 u0)]⟩ K
def Gn(t1 t6:Int)(u0:LL)(K:KK):Prop:=Ay 24 E0.P Av (Ag 24 ac_slices_stableCmpFunc_Pair).code ⟨[(0, .own Ad),(1,Ai t1),(2, .fn Ah []),(6,Ai t6)],[(Ad, .arr 1 true 7 u0)]⟩ K
def Ez(rows:LL)(Q:QQ):KK:=kE fun st=>finish (1) E0.T [] [(Ad, .arr 1 true 7 rows)] Q st
def Jq(rows:LL)(Q:QQ):KK:=kF 0 (fun st=>Ay 8 E0.P Av (Ag 8 ac_slices_stableCmpFunc_Pair).code (mask [0,1,2,6,7] st) (Ez rows Q)) fun st=>finish (1) E0.T [] [(Ad, .arr 1 true 7 rows)] Q st
def Gt(K:KK):KK:=kC 2 (fun st=>K .normal (mask [] st)) K
def E5(K:KK):KK:=kC 3 (fun st=>Cc 10 E0.P Av (A9 10 ac_slices_stableCmpFunc_Pair).code (mask [0,1,2,6] st) K) K
def Jr(K:KK):Ex→St→Prop
 | .normal,st=>Ay 21 E0.P Av (Ag 21 ac_slices_stableCmpFunc_Pair).code (mask [0,1,2,6,7] st) (E5 K)
 | .exit i,st=>(match (i.beq 4:Bool)with
 |true=>Ay 21 E0.P Av (Ag 21 ac_slices_stableCmpFunc_Pair).code (mask [0,1,2,6,7] st) (E5 K)
 |false=>(match (i.beq 3:Bool)with
 |true=>Cc 10 E0.P Av (A9 10 ac_slices_stableCmpFunc_Pair).code (mask [0,1,2,6] st) K
 |false=>K (.exit i) st))
 | .goto i,st=>K (.goto i) st
 | .ret,st=>K .ret st
def Gu(K:KK):KK:=kP [0,1,2,6] K
theorem Xz(t1 t6:Int)(t7 t8:Int)(u0:LL)(K:KK)(h:
 (Br (decide (t8≤t1))
 (Call E0.P Ew [.own Ad,Ai t7,Ai t8, .fn Ah []] [(Ad, .arr 1 true 7 u0)] fun r0 g0=>
 Am (qV2 g0 r0)
 (Gv t1 t6 t8 (IntKind.i64.wrap (t8+t6)) (C8 g0 Ad) K))
 (K (.exit 0) ⟨[(0, .own Ad),(1,Ai t1),(2, .fn Ah []),(6,Ai t6),(7,Ai t7)],[(Ad, .arr 1 true 7 u0)]⟩))):Gv t1 t6 t7 t8 u0 K:=Ca (A7 E0 Av) (Bb Av) 3 2 (A9 2 ac_slices_stableCmpFunc_Pair) [0,1,2,6,7,8] _ K rfl (kr (by kernel_rfl) h)
theorem Xh(t1 t6 t7:Int)(u0:LL)(K:KK)(h:
 (Call E0.P Ew [.own Ad,Ai t7,Ai t1, .fn Ah []] [(Ad, .arr 1 true 7 u0)] fun r0 g0=>
 Am (qV2 g0 r0)
 (Dv t1 t6 (C8 g0 Ad) (Gt K)))):O9 t1 t6 t7 u0 K:=Ba (A7 E0 Av) (Bb Av) 3 8 (Ag 8 ac_slices_stableCmpFunc_Pair) [] _ K rfl (kr (by kernel_rfl) h)
theorem L9(t1 t6:Int)(u0:LL)(K:KK)(h:
 (Br (decide (t6<t1))
 (Gp t1 t6 ((0:Int)) (IntKind.i64.wrap ((2:Int)*t6)) u0 (Jr K))
 (K (.exit (2)) ⟨[],[(Ad, .arr 1 true 7 u0)]⟩))):Dv t1 t6 u0 K:=Ca (A7 E0 Av) (Bb Av) 3 10 (A9 10 ac_slices_stableCmpFunc_Pair) [0,1,2,6] _ K rfl (kr (by kernel_rfl) h)
theorem We(t1 t6:Int)(t7 t8:Int)(u0:LL)(K:KK)(h:
 (Br (decide (t8≤t1))
 (Call E0.P Dx [.own Ad,Ai t7,Ai (IntKind.i64.wrap (t7+t6)),Ai t8, .fn Ah []] [(Ad, .arr 1 true 7 u0)] fun r0 g0=>
 Am (qV2 g0 r0)
 (Gp t1 t6 t8 (IntKind.i64.wrap (t8+IntKind.i64.wrap ((2:Int)*t6))) (C8 g0 Ad) K))
 (K (.exit (4)) ⟨[(0, .own Ad),(1,Ai t1),(2, .fn Ah []),(6,Ai t6),(7,Ai t7)],[(Ad, .arr 1 true 7 u0)]⟩))):Gp t1 t6 t7 t8 u0 K:=Ca (A7 E0 Av) (Bb Av) 3 15 (A9 15 ac_slices_stableCmpFunc_Pair) [0,1,2,6,7,8] _ K rfl (kr (by kernel_rfl) h)
theorem V4(t1 t6 t7:Int)(u0:LL)(K:KK)(h:
 (Br (decide (IntKind.i64.wrap (t7+t6)<t1))
 (Call E0.P Dx [.own Ad,Ai t7,Ai (IntKind.i64.wrap (t7+t6)),Ai t1, .fn Ah []] [(Ad, .arr 1 true 7 u0)] fun r0 g0=>
 Am (qV2 g0 r0)
 (Gn t1 t6 (C8 g0 Ad) (Gu K)))
 (Gn t1 t6 u0 (Gu K)))):N8 t1 t6 t7 u0 K:=Ba (A7 E0 Av) (Bb Av) 3 21 (Ag 21 ac_slices_stableCmpFunc_Pair) [0,1,2,6] _ K rfl (kr (by kernel_rfl) h)
theorem V5(t1 t6:Int)(u0:LL)(K:KK)(h:
 (K .normal ⟨[(0, .own Ad),(1,Ai t1),(2, .fn Ah []),(6,Ai (IntKind.i64.wrap (t6*(2:Int))))],[(Ad, .arr 1 true 7 u0)]⟩)):Gn t1 t6 u0 K:=Ba (A7 E0 Av) (Bb Av) 3 24 (Ag 24 ac_slices_stableCmpFunc_Pair) [0,1,2,6] _ K rfl (kr (by kernel_rfl) h)
theorem Xq(rows:LL)(Q:QQ)(u0:LL)(h:
 (Q (.tup []) [(Ad, .arr 1 true 7 u0)])):Ez rows Q .normal ⟨[],[(Ad, .arr 1 true 7 u0)]⟩:=kr (by kernel_rfl) h
theorem Xr(rows:LL)(Q:QQ)(t1 t6 t7:Int)(u0:LL)(h:
 (O9 t1 t6 t7 u0 (Ez rows Q))):Jq rows Q (.exit 0) ⟨[(0, .own Ad),(1,Ai t1),(2, .fn Ah []),(6,Ai t6),(7,Ai t7)],[(Ad, .arr 1 true 7 u0)]⟩:=kr (by kernel_rfl) h
theorem Xt(K:KK)(u0:LL)(h:
 (K .normal ⟨[],[(Ad, .arr 1 true 7 u0)]⟩)):Gt K (.exit (2)) ⟨[],[(Ad, .arr 1 true 7 u0)]⟩:=kr (by kernel_rfl) h
theorem Xu(K:KK)(t1 t6:Int)(u0:LL)(h:
 (Dv t1 t6 u0 K)):E5 K .normal ⟨[(0, .own Ad),(1,Ai t1),(2, .fn Ah []),(6,Ai t6)],[(Ad, .arr 1 true 7 u0)]⟩:=kr (by kernel_rfl) h
theorem Xv(K:KK)(t1 t6 t7:Int)(u0:LL)(h:
 (N8 t1 t6 t7 u0 (E5 K))):Jr K (.exit (4)) ⟨[(0, .own Ad),(1,Ai t1),(2, .fn Ah []),(6,Ai t6),(7,Ai t7)],[(Ad, .arr 1 true 7 u0)]⟩:=kr (by kernel_rfl) h
theorem Xw(K:KK)(t1 t6:Int)(u0:LL)(h:
 (K .normal ⟨[(0, .own Ad),(1,Ai t1),(2, .fn Ah []),(6,Ai t6)],[(Ad, .arr 1 true 7 u0)]⟩)):Gu K .normal ⟨[(0, .own Ad),(1,Ai t1),(2, .fn Ah []),(6,Ai t6)],[(Ad, .arr 1 true 7 u0)]⟩:=kr (by kernel_rfl) h
theorem Abb:Bw E0.P 65 ac_slices_stableCmpFunc_Pair.code Av []:=Bn _ _ Tryz.f65 [(2,[0,1,2,6,7,8],[]),(4,[0,1,2,6,7],[]),(8,[0,1,2,6,7],[]),(10,[0,1,2,6],[]),(12,[],[]),(15,[0,1,2,6,7,8],[]),(17,[0,1,2,6,7],[]),(21,[0,1,2,6,7],[0,1,2,6]),(24,[0,1,2,6],[0,1,2,6])] [] _ 63 Tryz.func65 (by kernel_rfl) (by kernel_rfl) (by kernel_rfl) (by kernel_rfl)
theorem Yt(rows:LL)(a1:Int)(Q:QQ)(h:
 (Gv a1 ((20:Int)) ((0:Int)) ((20:Int)) rows (Jq rows Q))):Call E0.P J9 [.own (.arg 0),Ai a1, .fn Ah []] [(.arg 0, .arr 1 true 7 rows)] Q:=Bd (A7 E0 Av) (Bb Av) 3 1 65 ac_slices_stableCmpFunc_Pair [] Abb _ _ Q rfl rfl (kr (by kernel_rfl) h)
noncomputable def ac_slices_SortStableFunc_Pair:AC:=(Bf [] [] (codeOf Tryz.f39) 0).1
abbrev Jt:Nat:=9
theorem Z8:Bw E0.P 39 ac_slices_SortStableFunc_Pair.code Jt []:=Bn _ _ Tryz.f39 [] [] _ 9 Tryz.func39 (by kernel_rfl) (by kernel_rfl) (by kernel_rfl) (by kernel_rfl)
theorem Yl(rows:LL)(Q:QQ)(h:
 (Call E0.P J9 [.own Ad,Ai ((↑rows.length:Int)), .fn Ah []] [(Ad, .arr 1 true 7 rows)] fun r0 g0=>
 Am (qV2 g0 r0)
 (Q (.tup []) [(Ad, .arr 1 true 7 (C8 g0 Ad))]))):Call E0.P Js [.own (.arg 0), .fn Ah []] [(.arg 0, .arr 1 true 7 rows)] Q:=Bd (A7 E0 Jt) (Bb Jt) 3 1 39 ac_slices_SortStableFunc_Pair [] Z8 _ _ Q rfl rfl (kr (by kernel_rfl) h)
noncomputable def ac_slices_Clone_Pair:AC:=(Bf [] [2] (codeOf Tryz.f38) 0).1
abbrev Rf:Nat:=8
theorem Aju:Bw E0.P 38 ac_slices_Clone_Pair.code Rf [.tmp 2]:=Bn _ _ Tryz.f38 [] [2] _ 8 Tryz.func38 (by kernel_rfl) (by kernel_rfl) (by kernel_rfl) (by kernel_rfl)
theorem Ag6(a0:LL)(Q:QQ)(h:
 (A0k (a0=[])
 (Br (!false)
 (Q (.own nL0) ([]++[(Nm.loc 0,Entry.arr 0 true 7 [])]))
 (Am ((0+a0.length)*104≤140737488355328∧0+a0.length≤140737488355328)
 (Q (.own nL0) ([]++[(Nm.loc 0,Entry.arr 0 true 7 ([]++a0))]))))
 (Br (false)
 (Q (.own nL0) ([]++[(Nm.loc 0,Entry.arr 0 true 7 [])]))
 (Am ((0+a0.length)*104≤140737488355328∧0+a0.length≤140737488355328)
 (Q (.own nL0) ([]++[(Nm.loc 0,Entry.arr 0 true 7 ([]++a0))])))))):Call E0.P Q8 [Al 7 a0] [] Q:=Bd (A7 E0 Rf) (Bb Rf) 3 2 38 ac_slices_Clone_Pair [.tmp 2] Aju _ _ Q rfl rfl (kr (by kernel_rfl) h)
noncomputable def ac_slices_CompactFunc_Pair:AC:=(Bf [(5,[0,1,5],[]),(7,[0],[]),(12,[0,1,5,6,7],[]),(14,[0,5],[]),(18,[0,1,5,6,7],[0,1,5,6,7]),(19,[0,5],[0,1,5]),(22,[0,1,5],[0,1,5]),(23,[0],[])] [4] (codeOf Tryz.f42) 0).1
abbrev Aw:Nat:=66
def Hw(t5:Int)(u0:LL)(K:KK):Prop:=Cc 5 E0.P Aw (A9 5 ac_slices_CompactFunc_Pair).code ⟨[(0, .own Ad),(1, .fn Cb []),(5,Ai t5)],[(Ad, .arr 1 true 7 u0)]⟩ K
def Hg(t5:Int)(t6_2 t6_3:Nat)(t7:Int)(u0:LL)(K:KK):Prop:=Cc 12 E0.P Aw (A9 12 ac_slices_CompactFunc_Pair).code ⟨[(0, .own Ad),(1, .fn Cb []),(5,Ai t5),(6, .win Ad 7 t6_2 t6_3),(7,Ai t7)],[(Ad, .arr 1 true 7 u0)]⟩ K
def Ph(t5:Int)(u0:LL)(K:KK):Prop:=Ay 22 E0.P Aw (Ag 22 ac_slices_CompactFunc_Pair).code ⟨[(0, .own Ad),(1, .fn Cb []),(5,Ai t5)],[(Ad, .arr 1 true 7 u0)]⟩ K
def Jw(t5:Int)(t6_2 t6_3:Nat)(t7:Int)(u0:LL)(K:KK):Prop:=Ay 18 E0.P Aw (Ag 18 ac_slices_CompactFunc_Pair).code ⟨[(0, .own Ad),(1, .fn Cb []),(5,Ai t5),(6, .win Ad 7 t6_2 t6_3),(7,Ai t7)],[(Ad, .arr 1 true 7 u0)]⟩ K
def Pi(u0:LL)(K:KK):Prop:=Ay 23 E0.P Aw (Ag 23 ac_slices_CompactFunc_Pair).code ⟨[(0, .own Ad)],[(Ad, .arr 1 true 7 u0)]⟩ K
def Pg(t5:Int)(u0:LL)(K:KK):Prop:=Ay 19 E0.P Aw (Ag 19 ac_slices_CompactFunc_Pair).code ⟨[(0, .own Ad),(5,Ai t5)],[(Ad, .arr 1 true 7 u0)]⟩ K
def Kk(rows:LL)(Q:QQ):KK:=kE fun st=>finish (1) E0.T [.tmp 4] [(Ad, .arr 1 true 7 rows)] Q st
def Fu(rows:LL)(Q:QQ):KK:=kF 0 (fun st=>Ay 23 E0.P Aw (Ag 23 ac_slices_CompactFunc_Pair).code (mask [0] st) (Kk rows Q)) fun st=>finish (1) E0.T [.tmp 4] [(Ad, .arr 1 true 7 rows)] Q st
def Ht(K:KK):Ex→St→Prop
 | .normal,st=>Cc 5 E0.P Aw (A9 5 ac_slices_CompactFunc_Pair).code (mask [0,1,5] st) K
 | .exit i,st=>K (.exit i) st
 | .goto i,st=>K (.goto i) st
 | .ret,st=>K .ret st
def Hu(K:KK):KK:=kC 1 (fun st=>Ay 22 E0.P Aw (Ag 22 ac_slices_CompactFunc_Pair).code (mask [0,1,5] st) (Ht K)) K
def Kl(K:KK):Ex→St→Prop
 | .normal,st=>Ay 19 E0.P Aw (Ag 19 ac_slices_CompactFunc_Pair).code (mask [0,5] st) (Hu K)
 | .exit i,st=>(match (i.beq 2:Bool)with
 |true=>Ay 19 E0.P Aw (Ag 19 ac_slices_CompactFunc_Pair).code (mask [0,5] st) (Hu K)
 |false=>(match (i.beq 1:Bool)with
 |true=>Ay 22 E0.P Aw (Ag 22 ac_slices_CompactFunc_Pair).code (mask [0,1,5] st) (Ht K)
 |false=>K (.exit i) st))
 | .goto i,st=>K (.goto i) st
 | .ret,st=>K .ret st
def Km(K:KK):Ex→St→Prop
 | .normal,st=>Cc 12 E0.P Aw (A9 12 ac_slices_CompactFunc_Pair).code (mask [0,1,5,6,7] st) K
 | .exit i,st=>K (.exit i) st
 | .goto i,st=>K (.goto i) st
 | .ret,st=>K .ret st
theorem Od(t5:Int)(u0:LL)(K:KK)(h:
 (Br (decide (t5<(↑u0.length:Int)))
 (Am ((0:Int)≤t5∧t5<(↑u0.length:Int))
 (Am (t5.toNat<u0.length∧
 Cu
 [.str, .int .i64, .int .i64, .int .i64, .str, .sl 6 Ae,
 .sl 7 Aq]
 (List.take 7 (List.drop 0 (u0.getD t5.toNat [])))=
 true)
 (Am ((0:Int)≤IntKind.i64.wrap (t5 - (1:Int))∧IntKind.i64.wrap (t5 - (1:Int))<(↑u0.length:Int))
 (Am ((IntKind.i64.wrap (t5 - (1:Int))).toNat<u0.length∧
 Cu
 [.str, .int .i64, .int .i64, .int .i64, .str, .sl 6 Ae,
 .sl 7 Aq]
 (List.take 7 (List.drop 0 (u0.getD (IntKind.i64.wrap (t5 - (1:Int))).toNat [])))=
 true)
 (Call E0.P Cb [.imm (.agg [.str (gS (List.take 7 (List.drop 0 (u0.getD t5.toNat []))) 0), .int .i64 (gI (List.take 7 (List.drop 0 (u0.getD t5.toNat []))) 1), .int .i64 (gI (List.take 7 (List.drop 0 (u0.getD t5.toNat []))) 2), .int .i64 (gI (List.take 7 (List.drop 0 (u0.getD t5.toNat []))) 3), .str (gS (List.take 7 (List.drop 0 (u0.getD t5.toNat []))) 4), .sl .any 6 (gR (List.take 7 (List.drop 0 (u0.getD t5.toNat []))) 5), .sl .any 7 (gR (List.take 7 (List.drop 0 (u0.getD t5.toNat []))) 6)]), .imm (.agg [.str (gS (List.take 7 (List.drop 0 (u0.getD (IntKind.i64.wrap (t5 - (1:Int))).toNat []))) 0), .int .i64 (gI (List.take 7 (List.drop 0 (u0.getD (IntKind.i64.wrap (t5 - (1:Int))).toNat []))) 1), .int .i64 (gI (List.take 7 (List.drop 0 (u0.getD (IntKind.i64.wrap (t5 - (1:Int))).toNat []))) 2), .int .i64 (gI (List.take 7 (List.drop 0 (u0.getD (IntKind.i64.wrap (t5 - (1:Int))).toNat []))) 3), .str (gS (List.take 7 (List.drop 0 (u0.getD (IntKind.i64.wrap (t5 - (1:Int))).toNat []))) 4), .sl .any 6 (gR (List.take 7 (List.drop 0 (u0.getD (IntKind.i64.wrap (t5 - (1:Int))).toNat []))) 5), .sl .any 7 (gR (List.take 7 (List.drop 0 (u0.getD (IntKind.i64.wrap (t5 - (1:Int))).toNat []))) 6)])] [] fun r0 g0=>
 Am (qV0 g0 r0)
 (Br (rB r0)
 (Am ((0:Int)≤t5∧t5≤(↑u0.length:Int))
 (Hg t5 t5.toNat (u0.length - t5.toNat) ((1:Int)) u0 (Kl K)))
 (Ph t5 u0 (Ht K))))))))
 (K (.exit 0) ⟨[(0, .own Ad)],[(Ad, .arr 1 true 7 u0)]⟩))):Hw t5 u0 K:=Ca (A7 E0 Aw) (Bb Aw) 3 5 (A9 5 ac_slices_CompactFunc_Pair) [0,1,5] _ K rfl (kr (by kernel_rfl) h)
theorem Nn(t5:Int)(t6_2 t6_3:Nat)(t7:Int)(u0:LL)(K:KK)(h:
 (Br (decide (t7<(↑t6_3:Int)))
 (Am ((0:Int)≤t7∧t7<(↑t6_3:Int))
 (Am (addN t6_2 t7.toNat<u0.length∧
 Cu
 [.str, .int .i64, .int .i64, .int .i64, .str, .sl 6 Ae,
 .sl 7 Aq]
 (List.take 7 (List.drop 0 (u0.getD (addN t6_2 t7.toNat) [])))=
 true)
 (Am ((0:Int)≤IntKind.i64.wrap (t7 - (1:Int))∧IntKind.i64.wrap (t7 - (1:Int))<(↑t6_3:Int))
 (Am (addN t6_2 (IntKind.i64.wrap (t7 - (1:Int))).toNat<u0.length∧
 Cu
 [.str, .int .i64, .int .i64, .int .i64, .str, .sl 6 Ae,
 .sl 7 Aq]
 (List.take 7 (List.drop 0 (u0.getD (addN t6_2 (IntKind.i64.wrap (t7 - (1:Int))).toNat) [])))=
 true)
 (Call E0.P Cb [.imm (.agg [.str (gS (List.take 7 (List.drop 0 (u0.getD (addN t6_2 t7.toNat) []))) 0), .int .i64 (gI (List.take 7 (List.drop 0 (u0.getD (addN t6_2 t7.toNat) []))) 1), .int .i64 (gI (List.take 7 (List.drop 0 (u0.getD (addN t6_2 t7.toNat) []))) 2), .int .i64 (gI (List.take 7 (List.drop 0 (u0.getD (addN t6_2 t7.toNat) []))) 3), .str (gS (List.take 7 (List.drop 0 (u0.getD (addN t6_2 t7.toNat) []))) 4), .sl .any 6 (gR (List.take 7 (List.drop 0 (u0.getD (addN t6_2 t7.toNat) []))) 5), .sl .any 7 (gR (List.take 7 (List.drop 0 (u0.getD (addN t6_2 t7.toNat) []))) 6)]), .imm (.agg [.str (gS (List.take 7 (List.drop 0 (u0.getD (addN t6_2 (IntKind.i64.wrap (t7 - (1:Int))).toNat) [])))
 0), .int .i64 (gI (List.take 7 (List.drop 0 (u0.getD (addN t6_2 (IntKind.i64.wrap (t7 - (1:Int))).toNat) [])))
 1), .int .i64 (gI (List.take 7 (List.drop 0 (u0.getD (addN t6_2 (IntKind.i64.wrap (t7 - (1:Int))).toNat) [])))
 2), .int .i64 (gI (List.take 7 (List.drop 0 (u0.getD (addN t6_2 (IntKind.i64.wrap (t7 - (1:Int))).toNat) [])))
 3), .str (gS (List.take 7 (List.drop 0 (u0.getD (addN t6_2 (IntKind.i64.wrap (t7 - (1:Int))).toNat) [])))
 4), .sl .any 6 (gR (List.take 7 (List.drop 0 (u0.getD (addN t6_2 (IntKind.i64.wrap (t7 - (1:Int))).toNat) [])))
 5), .sl .any 7 (gR (List.take 7 (List.drop 0 (u0.getD (addN t6_2 (IntKind.i64.wrap (t7 - (1:Int))).toNat) [])))
 6)])] [] fun r0 g0=>
 Am (qV0 g0 r0)
 (Br (!rB r0)
 (Am ((0:Int)≤t7∧t7<(↑t6_3:Int))
 (Am (addN t6_2 t7.toNat<u0.length∧
 Cu
 [.str, .int .i64, .int .i64, .int .i64, .str, .sl 6 Ae,
 .sl 7 Aq]
 (List.take 7 (List.drop 0 (u0.getD (addN t6_2 t7.toNat) [])))=
 true)
 (Am ((0:Int)≤t5∧t5<(↑u0.length:Int))
 (Am (t5.toNat<u0.length)
 (Jw (IntKind.i64.wrap (t5+(1:Int))) t6_2 t6_3 t7 (u0.set t5.toNat
 [.str (gS (List.take 7 (List.drop 0 (u0.getD (addN t6_2 t7.toNat) []))) 0),
 .int .i64 (gI (List.take 7 (List.drop 0 (u0.getD (addN t6_2 t7.toNat) []))) 1),
 .int .i64 (gI (List.take 7 (List.drop 0 (u0.getD (addN t6_2 t7.toNat) []))) 2),
 .int .i64 (gI (List.take 7 (List.drop 0 (u0.getD (addN t6_2 t7.toNat) []))) 3),
 .str (gS (List.take 7 (List.drop 0 (u0.getD (addN t6_2 t7.toNat) []))) 4),
 .sl SK.any 6
 (gR (List.take 7 (List.drop 0 (u0.getD (addN t6_2 t7.toNat) []))) 5),
 .sl SK.any 7
 (gR (List.take 7 (List.drop 0 (u0.getD (addN t6_2 t7.toNat) []))) 6)]) (Km K))))))
 (Jw t5 t6_2 t6_3 t7 u0 (Km K))))))))
 (K (.exit (2)) ⟨[(0, .own Ad),(5,Ai t5)],[(Ad, .arr 1 true 7 u0)]⟩))):Hg t5 t6_2 t6_3 t7 u0 K:=Ca (A7 E0 Aw) (Bb Aw) 3 12 (A9 12 ac_slices_CompactFunc_Pair) [0,1,5,6,7] _ K rfl (kr (by kernel_rfl) h)
theorem Yj(t5:Int)(u0:LL)(K:KK)(h:
 (K .normal ⟨[(0, .own Ad),(1, .fn Cb []),(5,Ai (IntKind.i64.wrap (t5+(1:Int))))],[(Ad, .arr 1 true 7 u0)]⟩)):Ph t5 u0 K:=Ba (A7 E0 Aw) (Bb Aw) 3 22 (Ag 22 ac_slices_CompactFunc_Pair) [0,1,5] _ K rfl (kr (by kernel_rfl) h)
theorem Ng(t5:Int)(t6_2 t6_3:Nat)(t7:Int)(u0:LL)(K:KK)(h:
 (K .normal ⟨[(0, .own Ad),(1, .fn Cb []),(5,Ai t5),(6, .win Ad 7 t6_2 t6_3),(7,Ai (IntKind.i64.wrap (t7+(1:Int))))],[(Ad, .arr 1 true 7 u0)]⟩)):Jw t5 t6_2 t6_3 t7 u0 K:=Ba (A7 E0 Aw) (Bb Aw) 3 18 (Ag 18 ac_slices_CompactFunc_Pair) [0,1,5,6,7] _ K rfl (kr (by kernel_rfl) h)
theorem Yk(u0:LL)(K:KK)(h:
 (K .ret ⟨[(4, .own Ad)],[(Ad, .arr 1 true 7 u0)]⟩)):Pi u0 K:=Ba (A7 E0 Aw) (Bb Aw) 3 23 (Ag 23 ac_slices_CompactFunc_Pair) [] _ K rfl (kr (by kernel_rfl) h)
theorem Yi(t5:Int)(u0:LL)(K:KK)(h:
 (Am ((0:Int)≤t5∧t5≤(↑u0.length:Int))
 (Am ((0:Int)≤t5∧
 t5≤
 (↑(Jk
 [.str [], .int .i64 (0:Int), .int .i64 (0:Int), .int .i64 (0:Int),
 .str [], .sl SK.nil (6:Nat) [], .sl SK.nil (7:Nat) []]
 t5.toNat (u0.length - t5.toNat) u0).length:
 Int))
 (K .ret ⟨[(4, .win Ad 7 0 (t5.toNat - 0))],[(Ad, .arr 1 true 7 (Jk
 [.str [], .int .i64 (0:Int), .int .i64 (0:Int), .int .i64 (0:Int), .str [],
 .sl SK.nil 6 [], .sl SK.nil 7 []]
 t5.toNat (u0.length - t5.toNat) u0))]⟩)))):Pg t5 u0 K:=Ba (A7 E0 Aw) (Bb Aw) 3 19 (Ag 19 ac_slices_CompactFunc_Pair) [0,1,5] _ K rfl (kr (by kernel_rfl) h)
theorem Yw(rows:LL)(Q:QQ)(u0:LL)(h:
 (Q (.win Ad 7 0 u0.length) [(Ad, .arr 1 true 7 u0)])):Kk rows Q .ret ⟨[(4, .own Ad)],[(Ad, .arr 1 true 7 u0)]⟩:=kr (by kernel_rfl) h
theorem Yx(rows:LL)(Q:QQ)(u0:LL)(h:
 (Pi u0 (Kk rows Q))):Fu rows Q (.exit 0) ⟨[(0, .own Ad)],[(Ad, .arr 1 true 7 u0)]⟩:=kr (by kernel_rfl) h
theorem Yy(rows:LL)(Q:QQ)(t4_2 t4_3:Nat)(u0:LL)(h:
 (Q (.win Ad 7 t4_2 t4_3) [(Ad, .arr 1 true 7 u0)])):Fu rows Q .ret ⟨[(4, .win Ad 7 t4_2 t4_3)],[(Ad, .arr 1 true 7 u0)]⟩:=kr (by kernel_rfl) h
theorem Yz(K:KK)(t5:Int)(u0:LL)(h:
 (Hw t5 u0 K)):Ht K .normal ⟨[(0, .own Ad),(1, .fn Cb []),(5,Ai t5)],[(Ad, .arr 1 true 7 u0)]⟩:=kr (by kernel_rfl) h
theorem Y0(K:KK)(t4_2 t4_3:Nat)(u0:LL)(h:
 (K .ret ⟨[(4, .win Ad 7 t4_2 t4_3)],[(Ad, .arr 1 true 7 u0)]⟩)):Hu K .ret ⟨[(4, .win Ad 7 t4_2 t4_3)],[(Ad, .arr 1 true 7 u0)]⟩:=kr (by kernel_rfl) h
theorem Y3(K:KK)(t5:Int)(u0:LL)(h:
 (Pg t5 u0 (Hu K))):Kl K (.exit (2)) ⟨[(0, .own Ad),(5,Ai t5)],[(Ad, .arr 1 true 7 u0)]⟩:=kr (by kernel_rfl) h
theorem N9(K:KK)(t5:Int)(t6_2 t6_3:Nat)(t7:Int)(u0:LL)(h:
 (Hg t5 t6_2 t6_3 t7 u0 K)):Km K .normal ⟨[(0, .own Ad),(1, .fn Cb []),(5,Ai t5),(6, .win Ad 7 t6_2 t6_3),(7,Ai t7)],[(Ad, .arr 1 true 7 u0)]⟩:=kr (by kernel_rfl) h
theorem Ac9:Bw E0.P 42 ac_slices_CompactFunc_Pair.code Aw [.tmp 4]:=Bn _ _ Tryz.f42 [(5,[0,1,5],[]),(7,[0],[]),(12,[0,1,5,6,7],[]),(14,[0,5],[]),(18,[0,1,5,6,7],[0,1,5,6,7]),(19,[0,5],[0,1,5]),(22,[0,1,5],[0,1,5]),(23,[0],[])] [4] _ 66 Tryz.func42 (by kernel_rfl) (by kernel_rfl) (by kernel_rfl) (by kernel_rfl)
theorem Aal(rows:LL)(Q:QQ)(h:
 (Br (decide ((↑rows.length:Int)<(2:Int)))
 (Q (.win Ad 7 0 rows.length) [(Ad, .arr 1 true 7 rows)])
 (Hw ((1:Int)) rows (Fu rows Q)))):Call E0.P Lh [.own (.arg 0), .fn Cb []] [(.arg 0, .arr 1 true 7 rows)] Q:=Bd (A7 E0 Aw) (Bb Aw) 3 1 42 ac_slices_CompactFunc_Pair [.tmp 4] Ac9 _ _ Q rfl rfl (kr (by kernel_rfl) h)
noncomputable def ac_value_has:AC:=(Bf [(5,[2,4,8],[2]),(8,[2,4,12],[2]),(18,[2],[])] [2,3] (codeOf Tryz.f20) 0).1
abbrev Ff:Nat:=29
def Wq(t4:Int)(t8 u0:Bool)(u1 u2:Bool)(u3 u4:Bool)(K:KK):Prop:=Ay 5 E0.P Ff (Ag 5 ac_value_has).code ⟨[(2, .ptr nL2 0),(4,Ai t4),(8,Ab t8)],[(nL2, .blk Bi [Ab u0,Ab u1,Ab u2,Ab u3,Ab u4])]⟩ K
def Ws(t4:Int)(t12 u0:Bool)(u1 u2:Bool)(u3 u4:Bool)(K:KK):Prop:=Ay 8 E0.P Ff (Ag 8 ac_value_has).code ⟨[(2, .ptr nL2 0),(4,Ai t4),(12,Ab t12)],[(nL2, .blk Bi [Ab u0,Ab u1,Ab u2,Ab u3,Ab u4])]⟩ K
def Ahq(u0 u1:Bool)(u2 u3 u4:Bool)(K:KK):Prop:=Ay 18 E0.P Ff (Ag 18 ac_value_has).code ⟨[(2, .ptr nL2 0)],[(nL2, .blk Bi [Ab u0,Ab u1,Ab u2,Ab u3,Ab u4])]⟩ K
def Acs(Q:QQ):KK:=kE fun st=>finish 0 E0.T [.cell 2 56, .tmp 3] [] Q st
def Nu(Q:QQ):KK:=kF 0 (fun st=>Ay 18 E0.P Ff (Ag 18 ac_value_has).code (mask [2] st) (Acs Q)) fun st=>finish 0 E0.T [.cell 2 56, .tmp 3] [] Q st
def Rn(K:KK):KK:=kP [2] K
theorem Apd(t4:Int)(t8 u0:Bool)(u1 u2:Bool)(u3 u4:Bool)(K:KK)(h:
 (Br (t8)
 (K .ret ⟨[(2, .ptr nL2 0),(3,Ab true)],[(nL2, .blk Bi [Ab true,Ab false,Ab false,Ab false,Ab false])]⟩)
 (Br (decide (t4=(3:Int)))
 (Ws t4 (decide (t4=(3:Int))) u0 u1 u2 u3 u4 (Rn K))
 (Ws t4 (decide (t4=(4:Int))) u0 u1 u2 u3 u4 (Rn K))))):Wq t4 t8 u0 u1 u2 u3 u4 K:=Ba (A7 E0 Ff) (Bb Ff) 3 5 (Ag 5 ac_value_has) [2] _ K rfl (kr (by kernel_rfl) h)
theorem Ape(t4:Int)(t12 u0:Bool)(u1 u2:Bool)(u3 u4:Bool)(K:KK)(h:
 (Br (t12)
 (K .ret ⟨[(2, .ptr nL2 0),(3,Ab true)],[(nL2, .blk Bi [Ab false,Ab false,Ab true,Ab false,Ab false])]⟩)
 (Br (decide (t4=(5:Int)))
 (K .ret ⟨[(2, .ptr nL2 0),(3,Ab true)],[(nL2, .blk Bi [Ab false,Ab false,Ab false,Ab true,Ab false])]⟩)
 (Br (decide (t4=(6:Int)))
 (K .ret ⟨[(2, .ptr nL2 0),(3,Ab true)],[(nL2, .blk Bi [Ab false,Ab false,Ab false,Ab false,Ab true])]⟩)
 (Br (decide (t4=(7:Int)))
 (K .ret ⟨[(2, .ptr nL2 0),(3,Ab true)],[(nL2, .blk Bi [Ab true,Ab true,Ab false,Ab false,Ab false])]⟩)
 (Br (decide (t4=(8:Int)))
 (K .ret ⟨[(2, .ptr nL2 0),(3,Ab true)],[(nL2, .blk Bi [Ab false,Ab false,Ab true,Ab false,Ab true])]⟩)
 (K .normal ⟨[(2, .ptr nL2 0)],[(nL2, .blk Bi [Ab u0,Ab u1,Ab u2,Ab u3,Ab u4])]⟩))))))):Ws t4 t12 u0 u1 u2 u3 u4 K:=Ba (A7 E0 Ff) (Bb Ff) 3 8 (Ag 8 ac_value_has) [2] _ K rfl (kr (by kernel_rfl) h)
theorem An8(u0 u1:Bool)(u2 u3 u4:Bool)(K:KK)(h:
 (K .ret ⟨[(2, .ptr nL2 0),(3,Ab false)],[(nL2, .blk Bi [Ab false,Ab false,Ab false,Ab false,Ab false])]⟩)):Ahq u0 u1 u2 u3 u4 K:=Ba (A7 E0 Ff) (Bb Ff) 3 18 (Ag 18 ac_value_has) [] _ K rfl (kr (by kernel_rfl) h)
theorem Apv(Q:QQ)(t3 u0:Bool)(u1 u2:Bool)(u3 u4:Bool)(h:
 (Q (.tup [.imm (.agg [.bool u0, .bool u1, .bool u2, .bool u3, .bool u4]),Ab t3]) [])):Acs Q .ret ⟨[(2, .ptr nL2 0),(3,Ab t3)],[(nL2, .blk Bi [Ab u0,Ab u1,Ab u2,Ab u3,Ab u4])]⟩:=kr (by kernel_rfl) h
theorem J2(Q:QQ)(t3 u0:Bool)(u1 u2:Bool)(u3 u4:Bool)(h:
 (Q (.tup [.imm (.agg [.bool u0, .bool u1, .bool u2, .bool u3, .bool u4]),Ab t3]) [])):Nu Q .ret ⟨[(2, .ptr nL2 0),(3,Ab t3)],[(nL2, .blk Bi [Ab u0,Ab u1,Ab u2,Ab u3,Ab u4])]⟩:=kr (by kernel_rfl) h
theorem Apw(Q:QQ)(u0 u1:Bool)(u2 u3 u4:Bool)(h:
 (Ahq u0 u1 u2 u3 u4 (Acs Q))):Nu Q .normal ⟨[(2, .ptr nL2 0)],[(nL2, .blk Bi [Ab u0,Ab u1,Ab u2,Ab u3,Ab u4])]⟩:=kr (by kernel_rfl) h
theorem Ms(K:KK)(t3 u0:Bool)(u1 u2:Bool)(u3 u4:Bool)(h:
 (K .ret ⟨[(2, .ptr nL2 0),(3,Ab t3)],[(nL2, .blk Bi [Ab u0,Ab u1,Ab u2,Ab u3,Ab u4])]⟩)):Rn K .ret ⟨[(2, .ptr nL2 0),(3,Ab t3)],[(nL2, .blk Bi [Ab u0,Ab u1,Ab u2,Ab u3,Ab u4])]⟩:=kr (by kernel_rfl) h
theorem Apx(K:KK)(u0 u1:Bool)(u2 u3 u4:Bool)(h:
 (K .normal ⟨[(2, .ptr nL2 0)],[(nL2, .blk Bi [Ab u0,Ab u1,Ab u2,Ab u3,Ab u4])]⟩)):Rn K .normal ⟨[(2, .ptr nL2 0)],[(nL2, .blk Bi [Ab u0,Ab u1,Ab u2,Ab u3,Ab u4])]⟩:=kr (by kernel_rfl) h
theorem Ax5:Bw E0.P 20 ac_value_has.code Ff [.cell 2 56, .tmp 3]:=Bn _ _ Tryz.f20 [(5,[2,4,8],[2]),(8,[2,4,12],[2]),(18,[2],[])] [2,3] _ 29 Tryz.func20 (by kernel_rfl) (by kernel_rfl) (by kernel_rfl) (by kernel_rfl)
theorem Asq(a0:Int)(Q:QQ)(h:
 (Br (decide (a0=(0:Int)))
 (Q (.tup [.imm (.agg [.bool false, .bool false, .bool false, .bool false, .bool false]),Ab true]) [])
 (Br (decide (a0=(1:Int)))
 (Wq a0 (decide (a0=(1:Int))) false false false false false (Nu Q))
 (Wq a0 (decide (a0=(2:Int))) false false false false false (Nu Q))))):Call E0.P Zp [Ai a0] [] Q:=Bd (A7 E0 Ff) (Bb Ff) 3 0 20 ac_value_has [.cell 2 56, .tmp 3] Ax5 _ _ Q rfl rfl (kr (by kernel_rfl) h)
noncomputable def ac_value_plainPairs:AC:=(Bf [(6,[4,14,15,16],[]),(8,[4],[]),(14,[4],[])] [2] (codeOf Tryz.f21) 0).1
abbrev Dy:Nat:=35
def I4(t14_2 t14_3:Nat)(t15 t16:Int)(u0 u1:LL)(K:KK):Prop:=Cc 6 E0.P Dy (A9 6 ac_value_plainPairs).code ⟨[(4, .own nL4),(14, .win (Nm.sub 9 nL0) 7 t14_2 t14_3),(15,Ai t15),(16,Ai t16)],[(nL4, .arr (Aq+2) true 7 u0),((Nm.sub 9 nL0), .arr 1 true 7 u1)]⟩ K
def Ya(u0:LL)(K:KK):Prop:=Ay 14 E0.P Dy (Ag 14 ac_value_plainPairs).code ⟨[(4, .own nL4)],[(nL4, .arr (Aq+2) true 7 u0)]⟩ K
def Qp(Q:QQ):KK:=kE fun st=>finish 0 E0.T [.tmp 2] [] Q st
def Qq(Q:QQ):KK:=kF 0 (fun st=>Ay 14 E0.P Dy (Ag 14 ac_value_plainPairs).code (mask [4] st) (Qp Q)) fun st=>finish 0 E0.T [.tmp 2] [] Q st
theorem Vf(t14_2 t14_3:Nat)(t15 t16:Int)(u0 u1:LL)(K:KK)(h:
 (Br (decide (t16<t15))
 (Am ((0:Int)≤t16∧t16<(↑t14_3:Int))
 (Am (addN t14_2 t16.toNat<u1.length∧
 Cu
 [.str, .int .i64, .int .i64, .int .i64, .str, .sl 6 Ae,
 .sl 7 Aq]
 (List.take 7 (List.drop 0 (u1.getD (addN t14_2 t16.toNat) [])))=
 true)
 (Call E0.P Gh [.imm (.agg [.int .i64 (gI (List.take 7 (List.drop 0 (u1.getD (addN t14_2 t16.toNat) []))) 1), .int .i64 (gI (List.take 7 (List.drop 0 (u1.getD (addN t14_2 t16.toNat) []))) 2), .int .i64 (gI (List.take 7 (List.drop 0 (u1.getD (addN t14_2 t16.toNat) []))) 3), .str (gS (List.take 7 (List.drop 0 (u1.getD (addN t14_2 t16.toNat) []))) 4), .sl .any 6 (gR (List.take 7 (List.drop 0 (u1.getD (addN t14_2 t16.toNat) []))) 5), .sl .any 7 (gR (List.take 7 (List.drop 0 (u1.getD (addN t14_2 t16.toNat) []))) 6)])] [] fun r0 g0=>
 Am (qV3 g0 r0)
 (Br (!decide (gI (Ac r0) 0=(0:Int)))
 (Am ((u0.length+1)*104≤140737488355328∧u0.length+1≤140737488355328)
 (I4 t14_2 t14_3 t15 (IntKind.i64.wrap (t16+(1:Int))) (u0++
 [[IV.str (gS (List.take 7 (List.drop 0 (u1.getD (addN t14_2 t16.toNat) []))) 0),
 .int .i64 (gI (Ac r0) 0), .int .i64 (gI (Ac r0) 1),
 .int .i64 (gI (Ac r0) 2), .str (gS (Ac r0) 3),
 .sl SK.any 6 (gR (Ac r0) 4), .sl SK.any 7 (gR (Ac r0) 5)]]) u1 K))
 (I4 t14_2 t14_3 t15 (IntKind.i64.wrap (t16+(1:Int))) u0 u1 K)))))
 (K (.exit 0) ⟨[(4, .own nL4)],[(nL4, .arr (Aq+2) true 7 u0)]⟩))):I4 t14_2 t14_3 t15 t16 u0 u1 K:=Ca (A7 E0 Dy) (Bb Dy) 3 6 (A9 6 ac_value_plainPairs) [4,14,15,16] _ K rfl (kr (by kernel_rfl) h)
theorem Ae2(u0:LL)(K:KK)(h:
 (K .ret ⟨[(2, .own nL4)],[(nL4, .arr (Aq+2) true 7 u0)]⟩)):Ya u0 K:=Ba (A7 E0 Dy) (Bb Dy) 3 14 (Ag 14 ac_value_plainPairs) [] _ K rfl (kr (by kernel_rfl) h)
theorem Agh(Q:QQ)(u0:LL)(h:
 (Q (Al 7 u0) [])):Qp Q .ret ⟨[(2, .own nL4)],[(nL4, .arr (Aq+2) true 7 u0)]⟩:=kr (by kernel_rfl) h
theorem Agi(Q:QQ)(u0:LL)(h:
 (Ya u0 (Qp Q))):Qq Q (.exit 0) ⟨[(4, .own nL4)],[(nL4, .arr (Aq+2) true 7 u0)]⟩:=kr (by kernel_rfl) h
theorem Ak7:Bw E0.P 21 ac_value_plainPairs.code Dy [.tmp 2]:=Bn _ _ Tryz.f21 [(6,[4,14,15,16],[]),(8,[4],[]),(14,[4],[])] [2] _ 35 Tryz.func21 (by kernel_rfl) (by kernel_rfl) (by kernel_rfl) (by kernel_rfl)
theorem Ahu(a0:LL)(Q:QQ)(h:
 (Call E0.P Q8 [Al 7 a0] [] fun r0 g0=>
 Am (g0=[]++[(Nm.loc 0,Entry.arr 0 true 7 (C8 g0 nL0))]∧
 r0=AV.own nL0)
 (Call E0.P Js [.own Ad, .fn Ah []] [(Ad, .arr 1 true 7 (C8 g0 nL0))] fun r1 g1=>
 Am (qV2 g1 r1)
 (Call E0.P Lh [.own Ad, .fn Cb []] [(Ad, .arr 1 true 7 (C8 g1 Ad))] fun r2 g2=>
 Am (g2=[(Nm.arg 0,Entry.arr 1 true 7 (C8 g2 Ad))]∧
 r2=AV.win Ad 7 (rWo r2) (rWl r2))
 (I4 (rWo r2) (rWl r2) ((↑(rWl r2):Int)) ((0:Int)) [] (C8 g2 Ad) (Qq Q)))))):Call E0.P R9 [Al 7 a0] [] Q:=Bd (A7 E0 Dy) (Bb Dy) 3 0 21 ac_value_plainPairs [.tmp 2] Ak7 _ _ Q rfl rfl (kr (by kernel_rfl) h)
noncomputable def ac_value_Plain:AC:=(Bf [(7,[1,2,3,5],[]),(9,[1,2,3,5],[]),(11,[1,2,3,5],[]),(14,[1,2,3,5,38,39,40],[]),(16,[1,2,3,5],[]),(20,[1,2,3,5],[])] [2] (codeOf Tryz.f11) 0).1
abbrev Cs:Nat:=59
def Sc(u0 u1 u2:Int)(u3:LB)(u4 u5:LL)(u6 u7 u8:Int)(u9:LB)(v0 v1:Bool)(v2 v3 v4:Bool)(v5 v6 v7:Int)(v8:LB)(v9 w0:LL)(w1 w2:LL)(K:KK):Prop:=Ay 7 E0.P Cs (Ag 7 ac_value_Plain).code ⟨[(1, .ptr Fp 0),(2, .ptr nL2 0),(3, .ptr nL3 0),(5, .ptr nL5 0)],[(Fp, .blk Ae [Ai u0,Ai u1,Ai u2,As u3,Al 6 u4,Al 7 u5]),(nL2, .blk Ae [Ai u6,Ai u7,Ai u8,As u9, .own (nL2.cell 4), .own (nL2.cell 5)]),(nL3, .blk Bi [Ab v0,Ab v1,Ab v2,Ab v3,Ab v4]),(nL5, .blk Ae [Ai v5,Ai v6,Ai v7,As v8, .own (nL5.cell 4), .own (nL5.cell 5)]),((nL2.cell 4), .arr (Ae+2) true 6 v9),((nL2.cell 5), .arr (Aq+2) true 7 w0),((nL5.cell 4), .arr (Ae+2) true 6 w1),((nL5.cell 5), .arr (Aq+2) true 7 w2)]⟩ K
def Sd(u0 u1 u2:Int)(u3:LB)(u4 u5:LL)(u6 u7 u8:Int)(u9:LB)(v0 v1:Bool)(v2 v3 v4:Bool)(v5 v6 v7:Int)(v8:LB)(v9 w0:LL)(w1 w2:LL)(K:KK):Prop:=Ay 9 E0.P Cs (Ag 9 ac_value_Plain).code ⟨[(1, .ptr Fp 0),(2, .ptr nL2 0),(3, .ptr nL3 0),(5, .ptr nL5 0)],[(Fp, .blk Ae [Ai u0,Ai u1,Ai u2,As u3,Al 6 u4,Al 7 u5]),(nL2, .blk Ae [Ai u6,Ai u7,Ai u8,As u9, .own (nL2.cell 4), .own (nL2.cell 5)]),(nL3, .blk Bi [Ab v0,Ab v1,Ab v2,Ab v3,Ab v4]),(nL5, .blk Ae [Ai v5,Ai v6,Ai v7,As v8, .own (nL5.cell 4), .own (nL5.cell 5)]),((nL2.cell 4), .arr (Ae+2) true 6 v9),((nL2.cell 5), .arr (Aq+2) true 7 w0),((nL5.cell 4), .arr (Ae+2) true 6 w1),((nL5.cell 5), .arr (Aq+2) true 7 w2)]⟩ K
def Ql(u0 u1 u2:Int)(u3:LB)(u4 u5:LL)(u6 u7 u8:Int)(u9:LB)(v0 v1:Bool)(v2 v3 v4:Bool)(v5 v6 v7:Int)(v8:LB)(v9 w0:LL)(w1 w2:LL)(K:KK):Prop:=Ay 11 E0.P Cs (Ag 11 ac_value_Plain).code ⟨[(1, .ptr Fp 0),(2, .ptr nL2 0),(3, .ptr nL3 0),(5, .ptr nL5 0)],[(Fp, .blk Ae [Ai u0,Ai u1,Ai u2,As u3,Al 6 u4,Al 7 u5]),(nL2, .blk Ae [Ai u6,Ai u7,Ai u8,As u9, .own (nL2.cell 4), .own (nL2.cell 5)]),(nL3, .blk Bi [Ab v0,Ab v1,Ab v2,Ab v3,Ab v4]),(nL5, .blk Ae [Ai v5,Ai v6,Ai v7,As v8, .own (nL5.cell 4), .own (nL5.cell 5)]),((nL2.cell 4), .arr (Ae+2) true 6 v9),((nL2.cell 5), .arr (Aq+2) true 7 w0),((nL5.cell 4), .arr (Ae+2) true 6 w1),((nL5.cell 5), .arr (Aq+2) true 7 w2)]⟩ K
def Qu(t38r:LL)(t39 t40:Int)(u0 u1 u2:Int)(u3:LB)(u4 u5:LL)(u6 u7 u8:Int)(u9:LB)(v0 v1:Bool)(v2 v3 v4:Bool)(v5 v6 v7:Int)(v8:LB)(v9 w0:LL)(w1 w2:LL)(K:KK):Prop:=Cc 14 E0.P Cs (A9 14 ac_value_Plain).code ⟨[(1, .ptr Fp 0),(2, .ptr nL2 0),(3, .ptr nL3 0),(5, .ptr nL5 0),(38,Al 6 t38r),(39,Ai t39),(40,Ai t40)],[(Fp, .blk Ae [Ai u0,Ai u1,Ai u2,As u3,Al 6 u4,Al 7 u5]),(nL2, .blk Ae [Ai u6,Ai u7,Ai u8,As u9, .own (nL2.cell 4), .own (nL2.cell 5)]),(nL3, .blk Bi [Ab v0,Ab v1,Ab v2,Ab v3,Ab v4]),(nL5, .blk Ae [Ai v5,Ai v6,Ai v7,As v8, .own (nL5.cell 4), .own (nL5.cell 5)]),((nL2.cell 4), .arr (Ae+2) true 6 v9),((nL2.cell 5), .arr (Aq+2) true 7 w0),((nL5.cell 4), .arr (Ae+2) true 6 w1),((nL5.cell 5), .arr (Aq+2) true 7 w2)]⟩ K
def Qm(u0 u1 u2:Int)(u3:LB)(u4 u5:LL)(u6 u7 u8:Int)(u9:LB)(v0 v1:Bool)(v2 v3 v4:Bool)(v5 v6 v7:Int)(v8:LB)(v9 w0:LL)(w1 w2:LL)(K:KK):Prop:=Ay 20 E0.P Cs (Ag 20 ac_value_Plain).code ⟨[(1, .ptr Fp 0),(2, .ptr nL2 0),(3, .ptr nL3 0),(5, .ptr nL5 0)],[(Fp, .blk Ae [Ai u0,Ai u1,Ai u2,As u3,Al 6 u4,Al 7 u5]),(nL2, .blk Ae [Ai u6,Ai u7,Ai u8,As u9, .own (nL2.cell 4), .own (nL2.cell 5)]),(nL3, .blk Bi [Ab v0,Ab v1,Ab v2,Ab v3,Ab v4]),(nL5, .blk Ae [Ai v5,Ai v6,Ai v7,As v8, .own (nL5.cell 4), .own (nL5.cell 5)]),((nL2.cell 4), .arr (Ae+2) true 6 v9),((nL2.cell 5), .arr (Aq+2) true 7 w0),((nL5.cell 4), .arr (Ae+2) true 6 w1),((nL5.cell 5), .arr (Aq+2) true 7 w2)]⟩ K
def Oa(Q:QQ):KK:=kE fun st=>finish 0 E0.T [.cell 2 25] [] Q st
def Fj(K:KK):KK:=kP [] K
def Y4(K:KK):KK:=kC 0 (fun st=>Ay 20 E0.P Cs (Ag 20 ac_value_Plain).code (mask [1,2,3,5] st) (Fj K)) K
theorem Alb(u0 u1 u2:Int)(u3:LB)(u4 u5:LL)(u6 u7 u8:Int)(u9:LB)(v0 v1:Bool)(v2 v3 v4:Bool)(v5 v6 v7:Int)(v8:LB)(v9 w0:LL)(w1 w2:LL)(K:KK)(h:
 (Br (v1)
 (Sd u0 u1 u2 u3 u4 u5 u6 u7 u8 u9 v0 v1 v2 v3 v4 v5 v6 u2 v8 v9 w0 w1 w2 (Fj K))
 (Sd u0 u1 u2 u3 u4 u5 u6 u7 u8 u9 v0 v1 v2 v3 v4 v5 v6 v7 v8 v9 w0 w1 w2 (Fj K)))):Sc u0 u1 u2 u3 u4 u5 u6 u7 u8 u9 v0 v1 v2 v3 v4 v5 v6 v7 v8 v9 w0 w1 w2 K:=Ba (A7 E0 Cs) (Bb Cs) 3 7 (Ag 7 ac_value_Plain) [] _ K rfl (kr (by kernel_rfl) h)
theorem Alc(u0 u1 u2:Int)(u3:LB)(u4 u5:LL)(u6 u7 u8:Int)(u9:LB)(v0 v1:Bool)(v2 v3 v4:Bool)(v5 v6 v7:Int)(v8:LB)(v9 w0:LL)(w1 w2:LL)(K:KK)(h:
 (Br (v2)
 (Ql u0 u1 u2 u3 u4 u5 u6 u7 u8 u9 v0 v1 v2 v3 v4 v5 v6 v7 u3 v9 w0 w1 w2 (Fj K))
 (Ql u0 u1 u2 u3 u4 u5 u6 u7 u8 u9 v0 v1 v2 v3 v4 v5 v6 v7 v8 v9 w0 w1 w2 (Fj K)))):Sd u0 u1 u2 u3 u4 u5 u6 u7 u8 u9 v0 v1 v2 v3 v4 v5 v6 v7 v8 v9 w0 w1 w2 K:=Ba (A7 E0 Cs) (Bb Cs) 3 9 (Ag 9 ac_value_Plain) [] _ K rfl (kr (by kernel_rfl) h)
theorem Akk(u0 u1 u2:Int)(u3:LB)(u4 u5:LL)(u6 u7 u8:Int)(u9:LB)(v0 v1:Bool)(v2 v3 v4:Bool)(v5 v6 v7:Int)(v8:LB)(v9 w0:LL)(w1 w2:LL)(K:KK)(h:
 (Br (v3)
 (Qu u4 ((↑u4.length:Int)) ((0:Int)) u0 u1 u2 u3 u4 u5 u6 u7 u8 u9 v0 v1 v2 v3 v4 v5 v6 v7 v8 v9 w0 w1 w2 (Y4 K))
 (Qm u0 u1 u2 u3 u4 u5 u6 u7 u8 u9 v0 v1 v2 v3 v4 v5 v6 v7 v8 v9 w0 w1 w2 (Fj K)))):Ql u0 u1 u2 u3 u4 u5 u6 u7 u8 u9 v0 v1 v2 v3 v4 v5 v6 v7 v8 v9 w0 w1 w2 K:=Ba (A7 E0 Cs) (Bb Cs) 3 11 (Ag 11 ac_value_Plain) [] _ K rfl (kr (by kernel_rfl) h)
theorem Aae(t38r:LL)(t39 t40:Int)(u0 u1 u2:Int)(u3:LB)(u4 u5:LL)(u6 u7 u8:Int)(u9:LB)(v0 v1:Bool)(v2 v3 v4:Bool)(v5 v6 v7:Int)(v8:LB)(v9 w0:LL)(w1 w2:LL)(K:KK)(h:
 (Br (decide (t40<t39))
 (Am (((0:Int)≤t40∧t40<(↑t38r.length:Int))∧
 Cu
 [.int .i64, .int .i64, .int .i64, .str, .sl 6 Ae,
 .sl 7 Aq]
 (t38r.getD t40.toNat [])=
 true)
 (Call E0.P Gh [.imm (.agg [.int .i64 (gI (t38r.getD t40.toNat []) 0), .int .i64 (gI (t38r.getD t40.toNat []) 1), .int .i64 (gI (t38r.getD t40.toNat []) 2), .str (gS (t38r.getD t40.toNat []) 3), .sl .any 6 (gR (t38r.getD t40.toNat []) 4), .sl .any 7 (gR (t38r.getD t40.toNat []) 5)])] [] fun r0 g0=>
 Am (qV3 g0 r0)
 (Am ((w1.length+1)*88≤140737488355328∧w1.length+1≤140737488355328)
 (Qu t38r t39 (IntKind.i64.wrap (t40+(1:Int))) u0 u1 u2 u3 u4 u5 u6 u7 u8 u9 v0 v1 v2 v3 v4 v5 v6 v7 v8 v9 w0 (w1++
 [[IV.int .i64 (gI (Ac r0) 0), .int .i64 (gI (Ac r0) 1),
 .int .i64 (gI (Ac r0) 2), .str (gS (Ac r0) 3),
 .sl SK.any 6 (gR (Ac r0) 4), .sl SK.any 7 (gR (Ac r0) 5)]]) w2 K))))
 (K (.exit 0) ⟨[(1, .ptr Fp 0),(2, .ptr nL2 0),(3, .ptr nL3 0),(5, .ptr nL5 0)],[(Fp, .blk Ae [Ai u0,Ai u1,Ai u2,As u3,Al 6 u4,Al 7 u5]),(nL2, .blk Ae [Ai u6,Ai u7,Ai u8,As u9, .own (nL2.cell 4), .own (nL2.cell 5)]),(nL3, .blk Bi [Ab v0,Ab v1,Ab v2,Ab v3,Ab v4]),(nL5, .blk Ae [Ai v5,Ai v6,Ai v7,As v8, .own (nL5.cell 4), .own (nL5.cell 5)]),((nL2.cell 4), .arr (Ae+2) true 6 v9),((nL2.cell 5), .arr (Aq+2) true 7 w0),((nL5.cell 4), .arr (Ae+2) true 6 w1),((nL5.cell 5), .arr (Aq+2) true 7 w2)]⟩))):Qu t38r t39 t40 u0 u1 u2 u3 u4 u5 u6 u7 u8 u9 v0 v1 v2 v3 v4 v5 v6 v7 v8 v9 w0 w1 w2 K:=Ca (A7 E0 Cs) (Bb Cs) 3 14 (A9 14 ac_value_Plain) [1,2,3,5,38,39,40] _ K rfl (kr (by kernel_rfl) h)
theorem Akl(u0 u1 u2:Int)(u3:LB)(u4 u5:LL)(u6 u7 u8:Int)(u9:LB)(v0 v1:Bool)(v2 v3 v4:Bool)(v5 v6 v7:Int)(v8:LB)(v9 w0:LL)(w1 w2:LL)(K:KK)(h:
 (Br (v4)
 (Call E0.P R9 [Al 7 u5] [] fun r0 g0=>
 Am (g0=[]∧r0= .imm (.sl SK.any 7 (rR r0)))
 (K .ret ⟨[(2, .ptr nL2 0)],[(nL2, .blk Ae [Ai v5,Ai v6,Ai v7,As v8, .own (nL5.cell 4),Al 7 (rR r0)]),((nL5.cell 4), .arr (Ae+2) true 6 w1)]⟩))
 (K .ret ⟨[(2, .ptr nL2 0)],[(nL2, .blk Ae [Ai v5,Ai v6,Ai v7,As v8, .own (nL5.cell 4), .own (nL5.cell 5)]),((nL5.cell 4), .arr (Ae+2) true 6 w1),((nL5.cell 5), .arr (Aq+2) true 7 w2)]⟩))):Qm u0 u1 u2 u3 u4 u5 u6 u7 u8 u9 v0 v1 v2 v3 v4 v5 v6 v7 v8 v9 w0 w1 w2 K:=Ba (A7 E0 Cs) (Bb Cs) 3 20 (Ag 20 ac_value_Plain) [] _ K rfl (kr (by kernel_rfl) h)
theorem Alk(Q:QQ)(u0 u1 u2:Int)(u3:LB)(u4 u5:LL)(h:
 (Q (.imm (.agg [.int .i64 u0, .int .i64 u1, .int .i64 u2, .str u3, .sl .any 6 u5, .sl .any 7 u4])) [])):Oa Q .ret ⟨[(2, .ptr nL2 0)],[(nL2, .blk Ae [Ai u0,Ai u1,Ai u2,As u3, .own (nL5.cell 4),Al 7 u4]),((nL5.cell 4), .arr (Ae+2) true 6 u5)]⟩:=kr (by kernel_rfl) h
theorem Alm(Q:QQ)(u0 u1 u2:Int)(u3:LB)(u4 u5:LL)(h:
 (Q (.imm (.agg [.int .i64 u0, .int .i64 u1, .int .i64 u2, .str u3, .sl .any 6 u4, .sl .any 7 u5])) [])):Oa Q .ret ⟨[(2, .ptr nL2 0)],[(nL2, .blk Ae [Ai u0,Ai u1,Ai u2,As u3, .own (nL5.cell 4), .own (nL5.cell 5)]),((nL5.cell 4), .arr (Ae+2) true 6 u4),((nL5.cell 5), .arr (Aq+2) true 7 u5)]⟩:=kr (by kernel_rfl) h
theorem Aln(K:KK)(u0 u1 u2:Int)(u3:LB)(u4 u5:LL)(h:
 (K .ret ⟨[(2, .ptr nL2 0)],[(nL2, .blk Ae [Ai u0,Ai u1,Ai u2,As u3, .own (nL5.cell 4),Al 7 u4]),((nL5.cell 4), .arr (Ae+2) true 6 u5)]⟩)):Fj K .ret ⟨[(2, .ptr nL2 0)],[(nL2, .blk Ae [Ai u0,Ai u1,Ai u2,As u3, .own (nL5.cell 4),Al 7 u4]),((nL5.cell 4), .arr (Ae+2) true 6 u5)]⟩:=kr (by kernel_rfl) h
theorem Alo(K:KK)(u0 u1 u2:Int)(u3:LB)(u4 u5:LL)(h:
 (K .ret ⟨[(2, .ptr nL2 0)],[(nL2, .blk Ae [Ai u0,Ai u1,Ai u2,As u3, .own (nL5.cell 4), .own (nL5.cell 5)]),((nL5.cell 4), .arr (Ae+2) true 6 u4),((nL5.cell 5), .arr (Aq+2) true 7 u5)]⟩)):Fj K .ret ⟨[(2, .ptr nL2 0)],[(nL2, .blk Ae [Ai u0,Ai u1,Ai u2,As u3, .own (nL5.cell 4), .own (nL5.cell 5)]),((nL5.cell 4), .arr (Ae+2) true 6 u4),((nL5.cell 5), .arr (Aq+2) true 7 u5)]⟩:=kr (by kernel_rfl) h
theorem Alp(K:KK)(u0 u1 u2:Int)(u3:LB)(u4 u5:LL)(u6 u7 u8:Int)(u9:LB)(v0 v1:Bool)(v2 v3 v4:Bool)(v5 v6 v7:Int)(v8:LB)(v9 w0:LL)(w1 w2:LL)(h:
 (Qm u0 u1 u2 u3 u4 u5 u6 u7 u8 u9 v0 v1 v2 v3 v4 v5 v6 v7 v8 v9 w0 w1 w2 (Fj K))):Y4 K (.exit 0) ⟨[(1, .ptr Fp 0),(2, .ptr nL2 0),(3, .ptr nL3 0),(5, .ptr nL5 0)],[(Fp, .blk Ae [Ai u0,Ai u1,Ai u2,As u3,Al 6 u4,Al 7 u5]),(nL2, .blk Ae [Ai u6,Ai u7,Ai u8,As u9, .own (nL2.cell 4), .own (nL2.cell 5)]),(nL3, .blk Bi [Ab v0,Ab v1,Ab v2,Ab v3,Ab v4]),(nL5, .blk Ae [Ai v5,Ai v6,Ai v7,As v8, .own (nL5.cell 4), .own (nL5.cell 5)]),((nL2.cell 4), .arr (Ae+2) true 6 v9),((nL2.cell 5), .arr (Aq+2) true 7 w0),((nL5.cell 4), .arr (Ae+2) true 6 w1),((nL5.cell 5), .arr (Aq+2) true 7 w2)]⟩:=kr (by kernel_rfl) h
theorem Atr:Bw E0.P 11 ac_value_Plain.code Cs [.cell 2 25]:=Bn _ _ Tryz.f11 [(7,[1,2,3,5],[]),(9,[1,2,3,5],[]),(11,[1,2,3,5],[]),(14,[1,2,3,5,38,39,40],[]),(16,[1,2,3,5],[]),(20,[1,2,3,5],[])] [2] _ 59 Tryz.func11 (by kernel_rfl) (by kernel_rfl) (by kernel_rfl) (by kernel_rfl)
theorem Apl(a0_0 a0_1 a0_2:Int)(a0_3:LB)(a0_4 a0_5:LL)(Q:QQ)(h:
 (Call E0.P Zp [Ai a0_0] [] fun r0 g0=>
 Am (g0=[]∧
 r0=
 .tup
 [.imm
 (IV.agg
 [.bool (gB (Ac (rT r0 0)) 0), .bool (gB (Ac (rT r0 0)) 1),
 .bool (gB (Ac (rT r0 0)) 2), .bool (gB (Ac (rT r0 0)) 3),
 .bool (gB (Ac (rT r0 0)) 4)]),
 .imm (.bool (rB (rT r0 1)))])
 (Br (!rB (rT r0 1))
 (Q (.imm (.agg [.int .i64 0, .int .i64 0, .int .i64 0, .str [], .sl .any 6 [], .sl .any 7 []])) [])
 (Br (gB (Ac (rT r0 0)) 0)
 (Sc a0_0 a0_1 a0_2 a0_3 a0_4 a0_5 ((0:Int)) ((0:Int)) ((0:Int)) [] (gB (Ac (rT r0 0)) 0) (gB (Ac (rT r0 0)) 1) (gB (Ac (rT r0 0)) 2) (gB (Ac (rT r0 0)) 3) (gB (Ac (rT r0 0)) 4) a0_0 a0_1 ((0:Int)) [] [] [] [] [] (Oa Q))
 (Sc a0_0 a0_1 a0_2 a0_3 a0_4 a0_5 ((0:Int)) ((0:Int)) ((0:Int)) [] (gB (Ac (rT r0 0)) 0) (gB (Ac (rT r0 0)) 1) (gB (Ac (rT r0 0)) 2) (gB (Ac (rT r0 0)) 3) (gB (Ac (rT r0 0)) 4) a0_0 ((0:Int)) ((0:Int)) [] [] [] [] [] (Oa Q)))))):Call E0.P Gh [.imm (.agg [.int .i64 a0_0, .int .i64 a0_1, .int .i64 a0_2, .str a0_3, .sl .any 6 a0_4, .sl .any 7 a0_5])] [] Q:=Bd (A7 E0 Cs) (Bb Cs) 3 0 11 ac_value_Plain [.cell 2 25] Atr _ _ Q rfl rfl (kr (by kernel_rfl) h)
noncomputable def ac_r16_Equal:AC:=(Bf [(5,[2,3,5],[]),(7,[2,3],[]),(12,[2,3],[]),(14,[2,3,6],[]),(16,[],[]),(20,[2,3,6],[2,3,6]),(21,[],[])] [4] (codeOf Tryz.f10) 0).1
abbrev Cz:Nat:=106
def Wu(t5 u0:Int)(u1 u2:Int)(u3:LB)(u4 u5:LL)(u6 u7 u8:Int)(u9:LB)(v0 v1:LL)(K:KK):Prop:=Cc 5 E0.P Cz (A9 5 ac_r16_Equal).code ⟨[(2, .ptr nL2 0),(3, .ptr nL3 0),(5,Ai t5)],[(nL2, .blk Ae [Ai u0,Ai u1,Ai u2,As u3,Al 6 u4,Al 7 u5]),(nL3, .blk Ae [Ai u6,Ai u7,Ai u8,As u9,Al 6 v0,Al 7 v1])]⟩ K
def Aho(u0 u1 u2:Int)(u3:LB)(u4 u5:LL)(u6 u7 u8:Int)(u9:LB)(v0 v1:LL)(K:KK):Prop:=Ay 12 E0.P Cz (Ag 12 ac_r16_Equal).code ⟨[(2, .ptr nL2 0),(3, .ptr nL3 0)],[(nL2, .blk Ae [Ai u0,Ai u1,Ai u2,As u3,Al 6 u4,Al 7 u5]),(nL3, .blk Ae [Ai u6,Ai u7,Ai u8,As u9,Al 6 v0,Al 7 v1])]⟩ K
def Ux(t6 u0:Int)(u1 u2:Int)(u3:LB)(u4 u5:LL)(u6 u7 u8:Int)(u9:LB)(v0 v1:LL)(K:KK):Prop:=Cc 14 E0.P Cz (A9 14 ac_r16_Equal).code ⟨[(2, .ptr nL2 0),(3, .ptr nL3 0),(6,Ai t6)],[(nL2, .blk Ae [Ai u0,Ai u1,Ai u2,As u3,Al 6 u4,Al 7 u5]),(nL3, .blk Ae [Ai u6,Ai u7,Ai u8,As u9,Al 6 v0,Al 7 v1])]⟩ K
def Ug(t6 u0:Int)(u1 u2:Int)(u3:LB)(u4 u5:LL)(u6 u7 u8:Int)(u9:LB)(v0 v1:LL)(K:KK):Prop:=Ay 20 E0.P Cz (Ag 20 ac_r16_Equal).code ⟨[(2, .ptr nL2 0),(3, .ptr nL3 0),(6,Ai t6)],[(nL2, .blk Ae [Ai u0,Ai u1,Ai u2,As u3,Al 6 u4,Al 7 u5]),(nL3, .blk Ae [Ai u6,Ai u7,Ai u8,As u9,Al 6 v0,Al 7 v1])]⟩ K
def Ahp(K:KK):Prop:=Ay 21 E0.P Cz (Ag 21 ac_r16_Equal).code ⟨[],[]⟩ K
def Aci(Q:QQ):KK:=kE fun st=>finish 0 E0.T [.tmp 4] [] Q st
def Acj(Q:QQ):KK:=kF 0 (fun st=>Ay 12 E0.P Cz (Ag 12 ac_r16_Equal).code (mask [2,3] st) (Aci Q)) fun st=>finish 0 E0.T [.tmp 4] [] Q st
def Ack(K:KK):KK:=kP [] K
def Acl(K:KK):KK:=kC 2 (fun st=>Ay 21 E0.P Cz (Ag 21 ac_r16_Equal).code (mask [] st) (Ack K)) K
def Wt(K:KK):Ex→St→Prop
 | .normal,st=>Cc 14 E0.P Cz (A9 14 ac_r16_Equal).code (mask [2,3,6] st) K
 | .exit i,st=>K (.exit i) st
 | .goto i,st=>K (.goto i) st
 | .ret,st=>K .ret st
theorem Afm(t5 u0:Int)(u1 u2:Int)(u3:LB)(u4 u5:LL)(u6 u7 u8:Int)(u9:LB)(v0 v1:LL)(K:KK)(h:
 (Br (decide (t5<(↑u4.length:Int)))
 (Am (((0:Int)≤t5∧t5<(↑u4.length:Int))∧
 Cu
 [.int .i64, .int .i64, .int .i64, .str, .sl 6 Ae,
 .sl 7 Aq]
 (u4.getD t5.toNat [])=
 true)
 (Am (((0:Int)≤t5∧t5<(↑v0.length:Int))∧
 Cu
 [.int .i64, .int .i64, .int .i64, .str, .sl 6 Ae,
 .sl 7 Aq]
 (v0.getD t5.toNat [])=
 true)
 (Call E0.P Dc [.imm (.agg [.int .i64 (gI (u4.getD t5.toNat []) 0), .int .i64 (gI (u4.getD t5.toNat []) 1), .int .i64 (gI (u4.getD t5.toNat []) 2), .str (gS (u4.getD t5.toNat []) 3), .sl .any 6 (gR (u4.getD t5.toNat []) 4), .sl .any 7 (gR (u4.getD t5.toNat []) 5)]), .imm (.agg [.int .i64 (gI (v0.getD t5.toNat []) 0), .int .i64 (gI (v0.getD t5.toNat []) 1), .int .i64 (gI (v0.getD t5.toNat []) 2), .str (gS (v0.getD t5.toNat []) 3), .sl .any 6 (gR (v0.getD t5.toNat []) 4), .sl .any 7 (gR (v0.getD t5.toNat []) 5)])] [] fun r0 g0=>
 Am (qV0 g0 r0)
 (Br (!rB r0)
 (K .ret ⟨[(4,Ab false)],[]⟩)
 (Wu (IntKind.i64.wrap (t5+(1:Int))) u0 u1 u2 u3 u4 u5 u6 u7 u8 u9 v0 v1 K)))))
 (K (.exit 0) ⟨[(2, .ptr nL2 0),(3, .ptr nL3 0)],[(nL2, .blk Ae [Ai u0,Ai u1,Ai u2,As u3,Al 6 u4,Al 7 u5]),(nL3, .blk Ae [Ai u6,Ai u7,Ai u8,As u9,Al 6 v0,Al 7 v1])]⟩))):Wu t5 u0 u1 u2 u3 u4 u5 u6 u7 u8 u9 v0 v1 K:=Ca (A7 E0 Cz) (Bb Cz) 3 5 (A9 5 ac_r16_Equal) [2,3,5] _ K rfl (kr (by kernel_rfl) h)
theorem An4(u0 u1 u2:Int)(u3:LB)(u4 u5:LL)(u6 u7 u8:Int)(u9:LB)(v0 v1:LL)(K:KK)(h:
 (Ux ((0:Int)) u0 u1 u2 u3 u4 u5 u6 u7 u8 u9 v0 v1 (Acl K))):Aho u0 u1 u2 u3 u4 u5 u6 u7 u8 u9 v0 v1 K:=Ba (A7 E0 Cz) (Bb Cz) 3 12 (Ag 12 ac_r16_Equal) [] _ K rfl (kr (by kernel_rfl) h)
theorem Adk(t6 u0:Int)(u1 u2:Int)(u3:LB)(u4 u5:LL)(u6 u7 u8:Int)(u9:LB)(v0 v1:LL)(K:KK)(h:
 (Br (decide (t6<(↑u5.length:Int)))
 (Am (((0:Int)≤t6∧t6<(↑u5.length:Int))∧
 Cu
 [.str, .int .i64, .int .i64, .int .i64, .str, .sl 6 Ae,
 .sl 7 Aq]
 (u5.getD t6.toNat [])=
 true)
 (Am (((0:Int)≤t6∧t6<(↑v1.length:Int))∧
 Cu
 [.str, .int .i64, .int .i64, .int .i64, .str, .sl 6 Ae,
 .sl 7 Aq]
 (v1.getD t6.toNat [])=
 true)
 (Am ((!gS (u5.getD t6.toNat []) 0 == gS (v1.getD t6.toNat []) 0)=false→
 ((0:Int)≤t6∧t6<(↑u5.length:Int))∧
 Cu
 [.str, .int .i64, .int .i64, .int .i64, .str, .sl 6 Ae,
 .sl 7 Aq]
 (u5.getD t6.toNat [])=
 true)
 (Am ((!gS (u5.getD t6.toNat []) 0 == gS (v1.getD t6.toNat []) 0)=false→
 ((0:Int)≤t6∧t6<(↑v1.length:Int))∧
 Cu
 [.str, .int .i64, .int .i64, .int .i64, .str, .sl 6 Ae,
 .sl 7 Aq]
 (v1.getD t6.toNat [])=
 true)
 (Br ((!gS (u5.getD t6.toNat []) 0 == gS (v1.getD t6.toNat []) 0) == false)
 (Call E0.P Dc [.imm (.agg [.int .i64 (gI (u5.getD t6.toNat []) 1), .int .i64 (gI (u5.getD t6.toNat []) 2), .int .i64 (gI (u5.getD t6.toNat []) 3), .str (gS (u5.getD t6.toNat []) 4), .sl .any 6 (gR (u5.getD t6.toNat []) 5), .sl .any 7 (gR (u5.getD t6.toNat []) 6)]), .imm (.agg [.int .i64 (gI (v1.getD t6.toNat []) 1), .int .i64 (gI (v1.getD t6.toNat []) 2), .int .i64 (gI (v1.getD t6.toNat []) 3), .str (gS (v1.getD t6.toNat []) 4), .sl .any 6 (gR (v1.getD t6.toNat []) 5), .sl .any 7 (gR (v1.getD t6.toNat []) 6)])] [] fun r0 g0=>
 Am (qV0 g0 r0)
 (Let (!rB r0) fun x1=>
 Br (x1)
 (K .ret ⟨[(4,Ab false)],[]⟩)
 (Ug t6 u0 u1 u2 u3 u4 u5 u6 u7 u8 u9 v0 v1 (Wt K))))
 (Am ((!false)=true)
 (Let (true) fun x2=>
 Br (x2)
 (K .ret ⟨[(4,Ab false)],[]⟩)
 (Ug t6 u0 u1 u2 u3 u4 u5 u6 u7 u8 u9 v0 v1 (Wt K)))))))))
 (K (.exit (2)) ⟨[],[]⟩))):Ux t6 u0 u1 u2 u3 u4 u5 u6 u7 u8 u9 v0 v1 K:=Ca (A7 E0 Cz) (Bb Cz) 3 14 (A9 14 ac_r16_Equal) [2,3,6] _ K rfl (kr (by kernel_rfl) h)
theorem An5(t6 u0:Int)(u1 u2:Int)(u3:LB)(u4 u5:LL)(u6 u7 u8:Int)(u9:LB)(v0 v1:LL)(K:KK)(h:
 (K .normal ⟨[(2, .ptr nL2 0),(3, .ptr nL3 0),(6,Ai (IntKind.i64.wrap (t6+(1:Int))))],[(nL2, .blk Ae [Ai u0,Ai u1,Ai u2,As u3,Al 6 u4,Al 7 u5]),(nL3, .blk Ae [Ai u6,Ai u7,Ai u8,As u9,Al 6 v0,Al 7 v1])]⟩)):Ug t6 u0 u1 u2 u3 u4 u5 u6 u7 u8 u9 v0 v1 K:=Ba (A7 E0 Cz) (Bb Cz) 3 20 (Ag 20 ac_r16_Equal) [2,3,6] _ K rfl (kr (by kernel_rfl) h)
theorem An6(K:KK)(h:
 (K .ret ⟨[(4,Ab true)],[]⟩)):Ahp K:=Ba (A7 E0 Cz) (Bb Cz) 3 21 (Ag 21 ac_r16_Equal) [] _ K rfl (kr (by kernel_rfl) h)
theorem Aff(Q:QQ)(t4:Bool)(h:
 (Q (Ab t4) [])):Aci Q .ret ⟨[(4,Ab t4)],[]⟩:=kr (by kernel_rfl) h
theorem App(Q:QQ)(t4:Bool)(h:
 (Q (Ab t4) [])):Acj Q .ret ⟨[(4,Ab t4)],[]⟩:=kr (by kernel_rfl) h
theorem Apq(Q:QQ)(u0 u1 u2:Int)(u3:LB)(u4 u5:LL)(u6 u7 u8:Int)(u9:LB)(v0 v1:LL)(h:
 (Aho u0 u1 u2 u3 u4 u5 u6 u7 u8 u9 v0 v1 (Aci Q))):Acj Q (.exit 0) ⟨[(2, .ptr nL2 0),(3, .ptr nL3 0)],[(nL2, .blk Ae [Ai u0,Ai u1,Ai u2,As u3,Al 6 u4,Al 7 u5]),(nL3, .blk Ae [Ai u6,Ai u7,Ai u8,As u9,Al 6 v0,Al 7 v1])]⟩:=kr (by kernel_rfl) h
theorem Apr(K:KK)(t4:Bool)(h:
 (K .ret ⟨[(4,Ab t4)],[]⟩)):Ack K .ret ⟨[(4,Ab t4)],[]⟩:=kr (by kernel_rfl) h
theorem Aps(K:KK)(t4:Bool)(h:
 (K .ret ⟨[(4,Ab t4)],[]⟩)):Acl K .ret ⟨[(4,Ab t4)],[]⟩:=kr (by kernel_rfl) h
theorem Apt(K:KK)(h:
 (Ahp (Ack K))):Acl K (.exit (2)) ⟨[],[]⟩:=kr (by kernel_rfl) h
theorem Apu(K:KK)(t6 u0:Int)(u1 u2:Int)(u3:LB)(u4 u5:LL)(u6 u7 u8:Int)(u9:LB)(v0 v1:LL)(h:
 (Ux t6 u0 u1 u2 u3 u4 u5 u6 u7 u8 u9 v0 v1 K)):Wt K .normal ⟨[(2, .ptr nL2 0),(3, .ptr nL3 0),(6,Ai t6)],[(nL2, .blk Ae [Ai u0,Ai u1,Ai u2,As u3,Al 6 u4,Al 7 u5]),(nL3, .blk Ae [Ai u6,Ai u7,Ai u8,As u9,Al 6 v0,Al 7 v1])]⟩:=kr (by kernel_rfl) h
theorem Ax4:Bw E0.P 10 ac_r16_Equal.code Cz [.tmp 4]:=Bn _ _ Tryz.f10 [(5,[2,3,5],[]),(7,[2,3],[]),(12,[2,3],[]),(14,[2,3,6],[]),(16,[],[]),(20,[2,3,6],[2,3,6]),(21,[],[])] [4] _ 106 Tryz.func10 (by kernel_rfl) (by kernel_rfl) (by kernel_rfl) (by kernel_rfl)
theorem Asp(a0_0 a0_1 a0_2:Int)(a0_3:LB)(a0_4 a0_5:LL)(a1_0 a1_1 a1_2:Int)(a1_3:LB)(a1_4 a1_5:LL)(Q:QQ)(h:
 (Let (bif !decide (a0_0=a1_0)then true else !decide (a0_1=a1_1)) fun x0=>
 Let (bif x0 then true else !decide (a0_2=a1_2)) fun x1=>
 Let (bif x1 then true else !a0_3 == a1_3) fun x2=>
 Let (bif x2 then true else !decide ((↑a0_4.length:Int)=(↑a1_4.length:Int))) fun x3=>
 Let (bif x3 then true else !decide ((↑a0_5.length:Int)=(↑a1_5.length:Int))) fun x4=>
 Br (x4)
 (Q (Ab false) [])
 (Wu ((0:Int)) a0_0 a0_1 a0_2 a0_3 a0_4 a0_5 a1_0 a1_1 a1_2 a1_3 a1_4 a1_5 (Acj Q)))):Call E0.P Dc [.imm (.agg [.int .i64 a0_0, .int .i64 a0_1, .int .i64 a0_2, .str a0_3, .sl .any 6 a0_4, .sl .any 7 a0_5]), .imm (.agg [.int .i64 a1_0, .int .i64 a1_1, .int .i64 a1_2, .str a1_3, .sl .any 6 a1_4, .sl .any 7 a1_5])] [] Q:=Bd (A7 E0 Cz) (Bb Cz) 3 0 10 ac_r16_Equal [.tmp 4] Ax4 _ _ Q rfl rfl (kr (by kernel_rfl) h)
end
end Go.Proofs.Sim.Se

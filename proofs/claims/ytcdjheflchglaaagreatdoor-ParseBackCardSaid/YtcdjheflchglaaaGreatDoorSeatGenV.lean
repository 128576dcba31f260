import Derived.Test.YtcdjheflchglaaaGreatDoorSeatBase
set_option maxRecDepth 100000
set_option maxHeartbeats 4000000
namespace Go.Proofs.Sim.Se
open Go Go.Proofs Go.Proofs.Sim
noncomputable section
abbrev qV0(G:Heap)(R:AV):Prop:=G=[]∧R= .imm (.bool (rB R))
abbrev qV1(G:Heap)(R:AV):Prop:=G=[]∧R= .imm (.int .i64 (rI R))
abbrev qV2(G:Heap)(R:AV):Prop:=G=[(Nm.arg 0,Entry.arr 1 true 7 (Da G Ad))]∧R= .tup []
abbrev qV3(G:Heap)(R:AV):Prop:=G=[]∧R= .imm (IV.agg [.int .i64 (gI (Ae R) 0), .int .i64 (gI (Ae R) 1), .int .i64 (gI (Ae R) 2), .str (gS (Ae R) 3), .sl SK.any 6 (gR (Ae R) 4), .sl SK.any 7 (gR (Ae R) 5)])
noncomputable def ac_cmp_isNaN_string:AC:=(Bf [] [2] (codeOf Tryz.f66) 0).1
abbrev Sn:Nat:=6
theorem Al3:Ca E0.P 66 ac_cmp_isNaN_string.code Sn [.tmp 2]:=Bl _ _ Tryz.f66 [] [2] _ 6 Tryz.func66 (by kernel_rfl) (by kernel_rfl) (by kernel_rfl) (by kernel_rfl)
theorem Aio(a0:LB)(Q:QQ)(h:
 (Q (Ab (!a0 == a0)) [])):Call E0.P Ng [As a0] [] Q:=Be (Aw E0 Sn) (Bd Sn) 3 0 66 ac_cmp_isNaN_string [.tmp 2] Al3 _ _ Q rfl rfl (kr (by kernel_rfl) h)
noncomputable def ac_cmp_Compare_string:AC:=(Bf [] [4] (codeOf Tryz.f41) 0).1
abbrev Pn:Nat:=20
theorem Ajd:Ca E0.P 41 ac_cmp_Compare_string.code Pn [.tmp 4]:=Bl _ _ Tryz.f41 [] [4] _ 20 Tryz.func41 (by kernel_rfl) (by kernel_rfl) (by kernel_rfl) (by kernel_rfl)
theorem Ag0(a0 a1:LB)(Q:QQ)(h:
 (Call E0.P Ng [As a0] [] fun r0 g0=>
 Ak (qV0 g0 r0)
 (Call E0.P Ng [As a1] [] fun r1 g1=>
 Ak (qV0 g1 r1)
 (Br (rB r0)
 (Br (rB r1)
 (Q (Ai 0) [])
 (Q (Ai (-1)) []))
 (Br (rB r1)
 (Q (Ai 1) [])
 (Br (Op.bytesLess a0 a1)
 (Q (Ai (-1)) [])
 (Br (!(Op.bytesLess a0 a1 || a0 == a1))
 (Q (Ai 1) [])
 (Q (Ai 0) [])))))))):Call E0.P Qa [As a0,As a1] [] Q:=Be (Aw E0 Pn) (Bd Pn) 3 0 41 ac_cmp_Compare_string [.tmp 4] Ajd _ _ Q rfl rfl (kr (by kernel_rfl) h)
noncomputable def ac_value_plainPairs_1:AC:=(Bf [] [4] (codeOf Tryz.f40) 0).1
abbrev Qi:Nat:=10
theorem Ai0:Ca E0.P 40 ac_value_plainPairs_1.code Qi [.tmp 4]:=Bl _ _ Tryz.f40 [] [4] _ 10 Tryz.func40 (by kernel_rfl) (by kernel_rfl) (by kernel_rfl) (by kernel_rfl)
theorem Ag6(a0_0:LB)(a0_1 a0_2 a0_3:Int)(a0_4:LB)(a0_5 a0_6:LL)(a1_0:LB)(a1_1 a1_2 a1_3:Int)(a1_4:LB)(a1_5 a1_6:LL)(Q:QQ)(h:
 (Call E0.P Qa [As a0_0,As a1_0] [] fun r0 g0=>
 Ak (qV1 g0 r0)
 (Q (Ai (rI r0)) []))):Call E0.P Ah [.imm (.agg [.str a0_0, .int .i64 a0_1, .int .i64 a0_2, .int .i64 a0_3, .str a0_4, .sl .any 6 a0_5, .sl .any 7 a0_6]), .imm (.agg [.str a1_0, .int .i64 a1_1, .int .i64 a1_2, .int .i64 a1_3, .str a1_4, .sl .any 6 a1_5, .sl .any 7 a1_6])] [] Q:=Be (Aw E0 Qi) (Bd Qi) 3 0 40 ac_value_plainPairs_1 [.tmp 4] Ai0 _ _ Q rfl rfl (kr (by kernel_rfl) h)
noncomputable def ac_value_plainPairs_2:AC:=(Bf [] [4] (codeOf Tryz.f43) 0).1
abbrev Qb:Nat:=10
theorem Ajp:Ca E0.P 43 ac_value_plainPairs_2.code Qb [.tmp 4]:=Bl _ _ Tryz.f43 [] [4] _ 10 Tryz.func43 (by kernel_rfl) (by kernel_rfl) (by kernel_rfl) (by kernel_rfl)
theorem Ag5(a0_0:LB)(a0_1 a0_2 a0_3:Int)(a0_4:LB)(a0_5 a0_6:LL)(a1_0:LB)(a1_1 a1_2 a1_3:Int)(a1_4:LB)(a1_5 a1_6:LL)(Q:QQ)(h:
 (Q (Ab (a0_0 == a1_0)) [])):Call E0.P Cc [.imm (.agg [.str a0_0, .int .i64 a0_1, .int .i64 a0_2, .int .i64 a0_3, .str a0_4, .sl .any 6 a0_5, .sl .any 7 a0_6]), .imm (.agg [.str a1_0, .int .i64 a1_1, .int .i64 a1_2, .int .i64 a1_3, .str a1_4, .sl .any 6 a1_5, .sl .any 7 a1_6])] [] Q:=Be (Aw E0 Qb) (Bd Qb) 3 0 43 ac_value_plainPairs_2 [.tmp 4] Ajp _ _ Q rfl rfl (kr (by kernel_rfl) h)
noncomputable def ac_slices_insertionSortCmpFunc_Pair:AC:=(Bf [(1,[0,1,2,3,8],[]),(3,[],[]),(6,[0,1,2,3,8,9],[]),(8,[0,1,2,3,8],[]),(9,[0,1,2,3,8,9],[0,1,2,3,8,9]),(11,[0,1,2,3,8],[0,1,2,3,8])] [] (codeOf Tryz.f82) 0).1
abbrev A7:Nat:=53
def Es(t1 t2 t8:Int)(u0:LL)(K:KK):Prop:=Bu 1 E0.P A7 (A8 1 ac_slices_insertionSortCmpFunc_Pair).code ⟨[(0, .own Ad),(1,Ai t1),(2,Ai t2),(3, .fn Ah []),(8,Ai t8)],[(Ad, .arr 1 true 7 u0)]⟩ K
def Er(t1 t2:Int)(t8 t9:Int)(u0:LL)(K:KK):Prop:=Bu 6 E0.P A7 (A8 6 ac_slices_insertionSortCmpFunc_Pair).code ⟨[(0, .own Ad),(1,Ai t1),(2,Ai t2),(3, .fn Ah []),(8,Ai t8),(9,Ai t9)],[(Ad, .arr 1 true 7 u0)]⟩ K
def G9(t1 t2:Int)(t8 t9:Int)(u0:LL)(K:KK):Prop:=Av 9 E0.P A7 (Af 9 ac_slices_insertionSortCmpFunc_Pair).code ⟨[(0, .own Ad),(1,Ai t1),(2,Ai t2),(3, .fn Ah []),(8,Ai t8),(9,Ai t9)],[(Ad, .arr 1 true 7 u0)]⟩ K
def Kh(t1 t2 t8:Int)(u0:LL)(K:KK):Prop:=Av 11 E0.P A7 (Af 11 ac_slices_insertionSortCmpFunc_Pair).code ⟨[(0, .own Ad),(1,Ai t1),(2,Ai t2),(3, .fn Ah []),(8,Ai t8)],[(Ad, .arr 1 true 7 u0)]⟩ K
def Et(rows:LL)(Q:QQ):KK:=kF 0 (fun st=>finish (1) E0.T [] [(Ad, .arr 1 true 7 rows)] Q st) fun st=>finish (1) E0.T [] [(Ad, .arr 1 true 7 rows)] Q st
def Dr(K:KK):Ex→St→Prop
 | .normal,st=>Bu 1 E0.P A7 (A8 1 ac_slices_insertionSortCmpFunc_Pair).code (mask [0,1,2,3,8] st) K
 | .exit i,st=>K (.exit i) st
 | .goto i,st=>K (.goto i) st
 | .ret,st=>K .ret st
def Gz(K:KK):Ex→St→Prop
 | .normal,st=>Av 11 E0.P A7 (Af 11 ac_slices_insertionSortCmpFunc_Pair).code (mask [0,1,2,3,8] st) (Dr K)
 | .exit i,st=>(match (i.beq 2:Bool)with
 |true=>Av 11 E0.P A7 (Af 11 ac_slices_insertionSortCmpFunc_Pair).code (mask [0,1,2,3,8] st) (Dr K)
 |false=>(match (i.beq 1:Bool)with
 |true=>Av 11 E0.P A7 (Af 11 ac_slices_insertionSortCmpFunc_Pair).code (mask [0,1,2,3,8] st) (Dr K)
 |false=>K (.exit i) st))
 | .goto i,st=>K (.goto i) st
 | .ret,st=>K .ret st
def G6(K:KK):Ex→St→Prop
 | .normal,st=>Bu 6 E0.P A7 (A8 6 ac_slices_insertionSortCmpFunc_Pair).code (mask [0,1,2,3,8,9] st) K
 | .exit i,st=>K (.exit i) st
 | .goto i,st=>K (.goto i) st
 | .ret,st=>K .ret st
theorem Gf(t1 t2 t8:Int)(u0:LL)(K:KK)(h:
 (Br (decide (t8<t2))
 (Er t1 t2 t8 t8 u0 (Gz K))
 (K (.exit 0) ⟨[],[(Ad, .arr 1 true 7 u0)]⟩))):Es t1 t2 t8 u0 K:=Bo (Aw E0 A7) (Bd A7) 3 1 (A8 1 ac_slices_insertionSortCmpFunc_Pair) [0,1,2,3,8] _ K rfl (kr (by kernel_rfl) h)
theorem Jm(t1 t2:Int)(t8 t9:Int)(u0:LL)(K:KK)(h:
 (Ak (decide (t1<t9)=true→(0:Int)≤t9∧t9<(↑u0.length:Int))
 (Ak (decide (t1<t9)=true→
 t9.toNat<u0.length∧
 Ck
 [.str, .int .i64, .int .i64, .int .i64, .str, .sl 6 Ac,
 .sl 7 Ap]
 (List.take 7 (List.drop 0 (u0.getD t9.toNat [])))=
 true)
 (Ak (decide (t1<t9)=true→
 (0:Int)≤IntKind.i64.wrap (t9 - (1:Int))∧IntKind.i64.wrap (t9 - (1:Int))<(↑u0.length:Int))
 (Ak (decide (t1<t9)=true→
 (IntKind.i64.wrap (t9 - (1:Int))).toNat<u0.length∧
 Ck
 [.str, .int .i64, .int .i64, .int .i64, .str, .sl 6 Ac,
 .sl 7 Ap]
 (List.take 7 (List.drop 0 (u0.getD (IntKind.i64.wrap (t9 - (1:Int))).toNat [])))=
 true)
 (Br (decide (t1<t9) == true)
 (Call E0.P Ah [.imm (.agg [.str (gS (List.take 7 (List.drop 0 (u0.getD t9.toNat []))) 0), .int .i64 (gI (List.take 7 (List.drop 0 (u0.getD t9.toNat []))) 1), .int .i64 (gI (List.take 7 (List.drop 0 (u0.getD t9.toNat []))) 2), .int .i64 (gI (List.take 7 (List.drop 0 (u0.getD t9.toNat []))) 3), .str (gS (List.take 7 (List.drop 0 (u0.getD t9.toNat []))) 4), .sl .any 6 (gR (List.take 7 (List.drop 0 (u0.getD t9.toNat []))) 5), .sl .any 7 (gR (List.take 7 (List.drop 0 (u0.getD t9.toNat []))) 6)]), .imm (.agg [.str (gS (List.take 7 (List.drop 0 (u0.getD (IntKind.i64.wrap (t9 - (1:Int))).toNat []))) 0), .int .i64 (gI (List.take 7 (List.drop 0 (u0.getD (IntKind.i64.wrap (t9 - (1:Int))).toNat []))) 1), .int .i64 (gI (List.take 7 (List.drop 0 (u0.getD (IntKind.i64.wrap (t9 - (1:Int))).toNat []))) 2), .int .i64 (gI (List.take 7 (List.drop 0 (u0.getD (IntKind.i64.wrap (t9 - (1:Int))).toNat []))) 3), .str (gS (List.take 7 (List.drop 0 (u0.getD (IntKind.i64.wrap (t9 - (1:Int))).toNat []))) 4), .sl .any 6 (gR (List.take 7 (List.drop 0 (u0.getD (IntKind.i64.wrap (t9 - (1:Int))).toNat []))) 5), .sl .any 7 (gR (List.take 7 (List.drop 0 (u0.getD (IntKind.i64.wrap (t9 - (1:Int))).toNat []))) 6)])] [] fun r0 g0=>
 Ak (qV1 g0 r0)
 (Let (decide (rI r0<(0:Int))) fun x1=>
 Br (x1)
 (G9 t1 t2 t8 t9 u0 (G6 K))
 (K (.exit (2)) ⟨[(0, .own Ad),(1,Ai t1),(2,Ai t2),(3, .fn Ah []),(8,Ai t8)],[(Ad, .arr 1 true 7 u0)]⟩)))
 (Ak ((!true)=false)
 (Let (false) fun x2=>
 Br (x2)
 (G9 t1 t2 t8 t9 u0 (G6 K))
 (K (.exit (2)) ⟨[(0, .own Ad),(1,Ai t1),(2,Ai t2),(3, .fn Ah []),(8,Ai t8)],[(Ad, .arr 1 true 7 u0)]⟩))))))))):Er t1 t2 t8 t9 u0 K:=Bo (Aw E0 A7) (Bd A7) 3 6 (A8 6 ac_slices_insertionSortCmpFunc_Pair) [0,1,2,3,8,9] _ K rfl (kr (by kernel_rfl) h)
theorem Ru(t1 t2:Int)(t8 t9:Int)(u0:LL)(K:KK)(h:
 (Ak ((0:Int)≤IntKind.i64.wrap (t9 - (1:Int))∧IntKind.i64.wrap (t9 - (1:Int))<(↑u0.length:Int))
 (Ak ((IntKind.i64.wrap (t9 - (1:Int))).toNat<u0.length∧
 Ck
 [.str, .int .i64, .int .i64, .int .i64, .str, .sl 6 Ac,
 .sl 7 Ap]
 (List.take 7 (List.drop 0 (u0.getD (IntKind.i64.wrap (t9 - (1:Int))).toNat [])))=
 true)
 (Ak ((0:Int)≤t9∧t9<(↑u0.length:Int))
 (Ak (t9.toNat<u0.length∧
 Ck
 [.str, .int .i64, .int .i64, .int .i64, .str, .sl 6 Ac,
 .sl 7 Ap]
 (List.take 7 (List.drop 0 (u0.getD t9.toNat [])))=
 true)
 (Ak ((0:Int)≤t9∧t9<(↑u0.length:Int))
 (Ak (t9.toNat<u0.length)
 (Ak ((0:Int)≤IntKind.i64.wrap (t9 - (1:Int))∧
 IntKind.i64.wrap (t9 - (1:Int))<
 (↑(u0.set t9.toNat
 [.str
 (gS (List.take (7:Nat) (List.drop (0:Nat) (u0.getD (IntKind.i64.wrap (t9 - (1:Int))).toNat [])))
 (0:Nat)),
 .int .i64
 (gI (List.take (7:Nat) (List.drop (0:Nat) (u0.getD (IntKind.i64.wrap (t9 - (1:Int))).toNat [])))
 (1:Nat)),
 .int .i64
 (gI (List.take (7:Nat) (List.drop (0:Nat) (u0.getD (IntKind.i64.wrap (t9 - (1:Int))).toNat [])))
 (2:Nat)),
 .int .i64
 (gI (List.take (7:Nat) (List.drop (0:Nat) (u0.getD (IntKind.i64.wrap (t9 - (1:Int))).toNat [])))
 (3:Nat)),
 .str
 (gS (List.take (7:Nat) (List.drop (0:Nat) (u0.getD (IntKind.i64.wrap (t9 - (1:Int))).toNat [])))
 (4:Nat)),
 .sl SK.any (6:Nat)
 (gR (List.take (7:Nat) (List.drop (0:Nat) (u0.getD (IntKind.i64.wrap (t9 - (1:Int))).toNat [])))
 (5:Nat)),
 .sl SK.any (7:Nat)
 (gR (List.take (7:Nat) (List.drop (0:Nat) (u0.getD (IntKind.i64.wrap (t9 - (1:Int))).toNat [])))
 (6:Nat))]).length:
 Int))
 (Ak ((IntKind.i64.wrap (t9 - (1:Int))).toNat<
 (u0.set t9.toNat
 [.str
 (gS (List.take 7 (List.drop 0 (u0.getD (IntKind.i64.wrap (t9 - (1:Int))).toNat [])))
 0),
 .int .i64
 (gI (List.take 7 (List.drop 0 (u0.getD (IntKind.i64.wrap (t9 - (1:Int))).toNat [])))
 1),
 .int .i64
 (gI (List.take 7 (List.drop 0 (u0.getD (IntKind.i64.wrap (t9 - (1:Int))).toNat [])))
 2),
 .int .i64
 (gI (List.take 7 (List.drop 0 (u0.getD (IntKind.i64.wrap (t9 - (1:Int))).toNat [])))
 3),
 .str
 (gS (List.take 7 (List.drop 0 (u0.getD (IntKind.i64.wrap (t9 - (1:Int))).toNat [])))
 4),
 .sl SK.any 6
 (gR (List.take 7 (List.drop 0 (u0.getD (IntKind.i64.wrap (t9 - (1:Int))).toNat [])))
 5),
 .sl SK.any 7
 (gR (List.take 7 (List.drop 0 (u0.getD (IntKind.i64.wrap (t9 - (1:Int))).toNat [])))
 6)]).length)
 (K .normal ⟨[(0, .own Ad),(1,Ai t1),(2,Ai t2),(3, .fn Ah []),(8,Ai t8),(9,Ai (IntKind.i64.wrap (t9 - (1:Int))))],[(Ad, .arr 1 true 7 ((u0.set t9.toNat
 [.str
 (gS (List.take 7 (List.drop 0 (u0.getD (IntKind.i64.wrap (t9 - (1:Int))).toNat [])))
 0),
 .int .i64
 (gI (List.take 7 (List.drop 0 (u0.getD (IntKind.i64.wrap (t9 - (1:Int))).toNat [])))
 1),
 .int .i64
 (gI (List.take 7 (List.drop 0 (u0.getD (IntKind.i64.wrap (t9 - (1:Int))).toNat [])))
 2),
 .int .i64
 (gI (List.take 7 (List.drop 0 (u0.getD (IntKind.i64.wrap (t9 - (1:Int))).toNat [])))
 3),
 .str
 (gS (List.take 7 (List.drop 0 (u0.getD (IntKind.i64.wrap (t9 - (1:Int))).toNat [])))
 4),
 .sl SK.any 6
 (gR (List.take 7 (List.drop 0 (u0.getD (IntKind.i64.wrap (t9 - (1:Int))).toNat [])))
 5),
 .sl SK.any 7
 (gR (List.take 7 (List.drop 0 (u0.getD (IntKind.i64.wrap (t9 - (1:Int))).toNat [])))
 6)]).set
 (IntKind.i64.wrap (t9 - (1:Int))).toNat
 [.str (gS (List.take 7 (List.drop 0 (u0.getD t9.toNat []))) 0),
 .int .i64 (gI (List.take 7 (List.drop 0 (u0.getD t9.toNat []))) 1),
 .int .i64 (gI (List.take 7 (List.drop 0 (u0.getD t9.toNat []))) 2),
 .int .i64 (gI (List.take 7 (List.drop 0 (u0.getD t9.toNat []))) 3),
 .str (gS (List.take 7 (List.drop 0 (u0.getD t9.toNat []))) 4),
 .sl SK.any 6 (gR (List.take 7 (List.drop 0 (u0.getD t9.toNat []))) 5),
 .sl SK.any 7 (gR (List.take 7 (List.drop 0 (u0.getD t9.toNat []))) 6)]))]⟩)))))))))):G9 t1 t2 t8 t9 u0 K:=A9 (Aw E0 A7) (Bd A7) 3 9 (Af 9 ac_slices_insertionSortCmpFunc_Pair) [0,1,2,3,8,9] _ K rfl (kr (by kernel_rfl) h)
theorem Qz(t1 t2 t8:Int)(u0:LL)(K:KK)(h:
 (K .normal ⟨[(0, .own Ad),(1,Ai t1),(2,Ai t2),(3, .fn Ah []),(8,Ai (IntKind.i64.wrap (t8+(1:Int))))],[(Ad, .arr 1 true 7 u0)]⟩)):Kh t1 t2 t8 u0 K:=A9 (Aw E0 A7) (Bd A7) 3 11 (Af 11 ac_slices_insertionSortCmpFunc_Pair) [0,1,2,3,8] _ K rfl (kr (by kernel_rfl) h)
theorem Jl(rows:LL)(Q:QQ)(u0:LL)(h:
 (Q (.tup []) [(Ad, .arr 1 true 7 u0)])):Et rows Q (.exit 0) ⟨[],[(Ad, .arr 1 true 7 u0)]⟩:=kr (by kernel_rfl) h
theorem R9(K:KK)(t1 t2 t8:Int)(u0:LL)(h:
 (Es t1 t2 t8 u0 K)):Dr K .normal ⟨[(0, .own Ad),(1,Ai t1),(2,Ai t2),(3, .fn Ah []),(8,Ai t8)],[(Ad, .arr 1 true 7 u0)]⟩:=kr (by kernel_rfl) h
theorem Sa(K:KK)(t1 t2 t8:Int)(u0:LL)(h:
 (Kh t1 t2 t8 u0 (Dr K))):Gz K (.exit (2)) ⟨[(0, .own Ad),(1,Ai t1),(2,Ai t2),(3, .fn Ah []),(8,Ai t8)],[(Ad, .arr 1 true 7 u0)]⟩:=kr (by kernel_rfl) h
theorem Rs(K:KK)(t1 t2:Int)(t8 t9:Int)(u0:LL)(h:
 (Er t1 t2 t8 t9 u0 K)):G6 K .normal ⟨[(0, .own Ad),(1,Ai t1),(2,Ai t2),(3, .fn Ah []),(8,Ai t8),(9,Ai t9)],[(Ad, .arr 1 true 7 u0)]⟩:=kr (by kernel_rfl) h
theorem Vd:Ca E0.P 82 ac_slices_insertionSortCmpFunc_Pair.code A7 []:=Bl _ _ Tryz.f82 [(1,[0,1,2,3,8],[]),(3,[],[]),(6,[0,1,2,3,8,9],[]),(8,[0,1,2,3,8],[]),(9,[0,1,2,3,8,9],[0,1,2,3,8,9]),(11,[0,1,2,3,8],[0,1,2,3,8])] [] _ 53 Tryz.func82 (by kernel_rfl) (by kernel_rfl) (by kernel_rfl) (by kernel_rfl)
theorem Tt(rows:LL)(a1 a2:Int)(Q:QQ)(h:
 (Es a1 a2 (IntKind.i64.wrap (a1+(1:Int))) rows (Et rows Q))):Call E0.P Ez [.own (.arg 0),Ai a1,Ai a2, .fn Ah []] [(.arg 0, .arr 1 true 7 rows)] Q:=Be (Aw E0 A7) (Bd A7) 3 1 82 ac_slices_insertionSortCmpFunc_Pair [] Vd _ _ Q rfl rfl (kr (by kernel_rfl) h)
noncomputable def ac_slices_swapRangeCmpFunc_Pair:AC:=(Bf [(1,[0,1,2,3,10],[]),(3,[],[])] [] (codeOf Tryz.f101) 0).1
abbrev Dp:Nat:=38
def Gc(t1 t2:Int)(t3 t10:Int)(u0:LL)(K:KK):Prop:=Bu 1 E0.P Dp (A8 1 ac_slices_swapRangeCmpFunc_Pair).code ⟨[(0, .own Ad),(1,Ai t1),(2,Ai t2),(3,Ai t3),(10,Ai t10)],[(Ad, .arr 1 true 7 u0)]⟩ K
def Mx(rows:LL)(Q:QQ):KK:=kF 0 (fun st=>finish (1) E0.T [] [(Ad, .arr 1 true 7 rows)] Q st) fun st=>finish (1) E0.T [] [(Ad, .arr 1 true 7 rows)] Q st
theorem La(t1 t2:Int)(t3 t10:Int)(u0:LL)(K:KK)(h:
 (Br (decide (t10<t3))
 (Ak ((0:Int)≤IntKind.i64.wrap (t2+t10)∧IntKind.i64.wrap (t2+t10)<(↑u0.length:Int))
 (Ak ((IntKind.i64.wrap (t2+t10)).toNat<u0.length∧
 Ck
 [.str, .int .i64, .int .i64, .int .i64, .str, .sl 6 Ac,
 .sl 7 Ap]
 (List.take 7 (List.drop 0 (u0.getD (IntKind.i64.wrap (t2+t10)).toNat [])))=
 true)
 (Ak ((0:Int)≤IntKind.i64.wrap (t1+t10)∧IntKind.i64.wrap (t1+t10)<(↑u0.length:Int))
 (Ak ((IntKind.i64.wrap (t1+t10)).toNat<u0.length∧
 Ck
 [.str, .int .i64, .int .i64, .int .i64, .str, .sl 6 Ac,
 .sl 7 Ap]
 (List.take 7 (List.drop 0 (u0.getD (IntKind.i64.wrap (t1+t10)).toNat [])))=
 true)
 (Ak ((0:Int)≤IntKind.i64.wrap (t1+t10)∧IntKind.i64.wrap (t1+t10)<(↑u0.length:Int))
 (Ak ((IntKind.i64.wrap (t1+t10)).toNat<u0.length)
 (Ak ((0:Int)≤IntKind.i64.wrap (t2+t10)∧
 IntKind.i64.wrap (t2+t10)<
 (↑(u0.set (IntKind.i64.wrap (t1+t10)).toNat
 [.str
 (gS (List.take (7:Nat) (List.drop (0:Nat) (u0.getD (IntKind.i64.wrap (t2+t10)).toNat [])))
 (0:Nat)),
 .int .i64
 (gI (List.take (7:Nat) (List.drop (0:Nat) (u0.getD (IntKind.i64.wrap (t2+t10)).toNat [])))
 (1:Nat)),
 .int .i64
 (gI (List.take (7:Nat) (List.drop (0:Nat) (u0.getD (IntKind.i64.wrap (t2+t10)).toNat [])))
 (2:Nat)),
 .int .i64
 (gI (List.take (7:Nat) (List.drop (0:Nat) (u0.getD (IntKind.i64.wrap (t2+t10)).toNat [])))
 (3:Nat)),
 .str
 (gS (List.take (7:Nat) (List.drop (0:Nat) (u0.getD (IntKind.i64.wrap (t2+t10)).toNat [])))
 (4:Nat)),
 .sl SK.any (6:Nat)
 (gR (List.take (7:Nat) (List.drop (0:Nat) (u0.getD (IntKind.i64.wrap (t2+t10)).toNat [])))
 (5:Nat)),
 .sl SK.any (7:Nat)
 (gR (List.take (7:Nat) (List.drop (0:Nat) (u0.getD (IntKind.i64.wrap (t2+t10)).toNat [])))
 (6:Nat))]).length:
 Int))
 (Ak ((IntKind.i64.wrap (t2+t10)).toNat<
 (u0.set (IntKind.i64.wrap (t1+t10)).toNat
 [.str
 (gS (List.take 7 (List.drop 0 (u0.getD (IntKind.i64.wrap (t2+t10)).toNat []))) 0),
 .int .i64
 (gI (List.take 7 (List.drop 0 (u0.getD (IntKind.i64.wrap (t2+t10)).toNat []))) 1),
 .int .i64
 (gI (List.take 7 (List.drop 0 (u0.getD (IntKind.i64.wrap (t2+t10)).toNat []))) 2),
 .int .i64
 (gI (List.take 7 (List.drop 0 (u0.getD (IntKind.i64.wrap (t2+t10)).toNat []))) 3),
 .str
 (gS (List.take 7 (List.drop 0 (u0.getD (IntKind.i64.wrap (t2+t10)).toNat []))) 4),
 .sl SK.any 6
 (gR (List.take 7 (List.drop 0 (u0.getD (IntKind.i64.wrap (t2+t10)).toNat []))) 5),
 .sl SK.any 7
 (gR (List.take 7 (List.drop 0 (u0.getD (IntKind.i64.wrap (t2+t10)).toNat [])))
 6)]).length)
 (Gc t1 t2 t3 (IntKind.i64.wrap (t10+(1:Int))) ((u0.set (IntKind.i64.wrap (t1+t10)).toNat
 [.str
 (gS (List.take 7 (List.drop 0 (u0.getD (IntKind.i64.wrap (t2+t10)).toNat []))) 0),
 .int .i64
 (gI (List.take 7 (List.drop 0 (u0.getD (IntKind.i64.wrap (t2+t10)).toNat []))) 1),
 .int .i64
 (gI (List.take 7 (List.drop 0 (u0.getD (IntKind.i64.wrap (t2+t10)).toNat []))) 2),
 .int .i64
 (gI (List.take 7 (List.drop 0 (u0.getD (IntKind.i64.wrap (t2+t10)).toNat []))) 3),
 .str
 (gS (List.take 7 (List.drop 0 (u0.getD (IntKind.i64.wrap (t2+t10)).toNat []))) 4),
 .sl SK.any 6
 (gR (List.take 7 (List.drop 0 (u0.getD (IntKind.i64.wrap (t2+t10)).toNat []))) 5),
 .sl SK.any 7
 (gR (List.take 7 (List.drop 0 (u0.getD (IntKind.i64.wrap (t2+t10)).toNat [])))
 6)]).set
 (IntKind.i64.wrap (t2+t10)).toNat
 [.str (gS (List.take 7 (List.drop 0 (u0.getD (IntKind.i64.wrap (t1+t10)).toNat []))) 0),
 .int .i64
 (gI (List.take 7 (List.drop 0 (u0.getD (IntKind.i64.wrap (t1+t10)).toNat []))) 1),
 .int .i64
 (gI (List.take 7 (List.drop 0 (u0.getD (IntKind.i64.wrap (t1+t10)).toNat []))) 2),
 .int .i64
 (gI (List.take 7 (List.drop 0 (u0.getD (IntKind.i64.wrap (t1+t10)).toNat []))) 3),
 .str (gS (List.take 7 (List.drop 0 (u0.getD (IntKind.i64.wrap (t1+t10)).toNat []))) 4),
 .sl SK.any 6
 (gR (List.take 7 (List.drop 0 (u0.getD (IntKind.i64.wrap (t1+t10)).toNat []))) 5),
 .sl SK.any 7
 (gR (List.take 7 (List.drop 0 (u0.getD (IntKind.i64.wrap (t1+t10)).toNat []))) 6)]) K)))))))))
 (K (.exit 0) ⟨[],[(Ad, .arr 1 true 7 u0)]⟩))):Gc t1 t2 t3 t10 u0 K:=Bo (Aw E0 Dp) (Bd Dp) 3 1 (A8 1 ac_slices_swapRangeCmpFunc_Pair) [0,1,2,3,10] _ K rfl (kr (by kernel_rfl) h)
theorem U0(rows:LL)(Q:QQ)(u0:LL)(h:
 (Q (.tup []) [(Ad, .arr 1 true 7 u0)])):Mx rows Q (.exit 0) ⟨[],[(Ad, .arr 1 true 7 u0)]⟩:=kr (by kernel_rfl) h
theorem Yu:Ca E0.P 101 ac_slices_swapRangeCmpFunc_Pair.code Dp []:=Bl _ _ Tryz.f101 [(1,[0,1,2,3,10],[]),(3,[],[])] [] _ 38 Tryz.func101 (by kernel_rfl) (by kernel_rfl) (by kernel_rfl) (by kernel_rfl)
theorem Wo(rows:LL)(a1 a2 a3:Int)(Q:QQ)(h:
 (Gc a1 a2 a3 ((0:Int)) rows (Mx rows Q))):Call E0.P El [.own (.arg 0),Ai a1,Ai a2,Ai a3, .fn Ah []] [(.arg 0, .arr 1 true 7 rows)] Q:=Be (Aw E0 Dp) (Bd Dp) 3 1 101 ac_slices_swapRangeCmpFunc_Pair [] Yu _ _ Q rfl rfl (kr (by kernel_rfl) h)
noncomputable def ac_slices_rotateCmpFunc_Pair:AC:=(Bf [(2,[0,2,4,10,11],[]),(4,[0,2,4,10],[]),(9,[0,2,4,10],[])] [] (codeOf Tryz.f91) 0).1
abbrev Cm:Nat:=58
def Fa(t2 t10 t11:Int)(u0:LL)(K:KK):Prop:=Bu 2 E0.P Cm (A8 2 ac_slices_rotateCmpFunc_Pair).code ⟨[(0, .own Ad),(2,Ai t2),(4, .fn Ah []),(10,Ai t10),(11,Ai t11)],[(Ad, .arr 1 true 7 u0)]⟩ K
def Pe(t2 t10:Int)(u0:LL)(K:KK):Prop:=Av 9 E0.P Cm (Af 9 ac_slices_rotateCmpFunc_Pair).code ⟨[(0, .own Ad),(2,Ai t2),(4, .fn Ah []),(10,Ai t10)],[(Ad, .arr 1 true 7 u0)]⟩ K
def Jr(rows:LL)(Q:QQ):KK:=kE fun st=>finish (1) E0.T [] [(Ad, .arr 1 true 7 rows)] Q st
def Ju(rows:LL)(Q:QQ):KK:=kF 0 (fun st=>Av 9 E0.P Cm (Af 9 ac_slices_rotateCmpFunc_Pair).code (mask [0,2,4,10] st) (Jr rows Q)) fun st=>finish (1) E0.T [] [(Ad, .arr 1 true 7 rows)] Q st
theorem X7(t2 t10 t11:Int)(u0:LL)(K:KK)(h:
 (Br (!decide (t10=t11))
 (Br (decide (t11<t10))
 (Call E0.P El [.own Ad,Ai (IntKind.i64.wrap (t2 - t10)),Ai t2,Ai t11, .fn Ah []] [(Ad, .arr 1 true 7 u0)] fun r0 g0=>
 Ak (qV2 g0 r0)
 (Fa t2 (IntKind.i64.wrap (t10 - t11)) t11 (Da g0 Ad) K))
 (Call E0.P El [.own Ad,Ai (IntKind.i64.wrap (t2 - t10)),Ai (IntKind.i64.wrap (IntKind.i64.wrap (t2+t11) - t10)),Ai t10, .fn Ah []] [(Ad, .arr 1 true 7 u0)] fun r1 g1=>
 Ak (qV2 g1 r1)
 (Fa t2 t10 (IntKind.i64.wrap (t11 - t10)) (Da g1 Ad) K)))
 (K (.exit 0) ⟨[(0, .own Ad),(2,Ai t2),(4, .fn Ah []),(10,Ai t10)],[(Ad, .arr 1 true 7 u0)]⟩))):Fa t2 t10 t11 u0 K:=Bo (Aw E0 Cm) (Bd Cm) 3 2 (A8 2 ac_slices_rotateCmpFunc_Pair) [0,2,4,10,11] _ K rfl (kr (by kernel_rfl) h)
theorem Xn(t2 t10:Int)(u0:LL)(K:KK)(h:
 (Call E0.P El [.own Ad,Ai (IntKind.i64.wrap (t2 - t10)),Ai t2,Ai t10, .fn Ah []] [(Ad, .arr 1 true 7 u0)] fun r0 g0=>
 Ak (qV2 g0 r0)
 (K .normal ⟨[],[(Ad, .arr 1 true 7 (Da g0 Ad))]⟩))):Pe t2 t10 u0 K:=A9 (Aw E0 Cm) (Bd Cm) 3 9 (Af 9 ac_slices_rotateCmpFunc_Pair) [] _ K rfl (kr (by kernel_rfl) h)
theorem Yd(rows:LL)(Q:QQ)(u0:LL)(h:
 (Q (.tup []) [(Ad, .arr 1 true 7 u0)])):Jr rows Q .normal ⟨[],[(Ad, .arr 1 true 7 u0)]⟩:=kr (by kernel_rfl) h
theorem Xw(rows:LL)(Q:QQ)(t2 t10:Int)(u0:LL)(h:
 (Pe t2 t10 u0 (Jr rows Q))):Ju rows Q (.exit 0) ⟨[(0, .own Ad),(2,Ai t2),(4, .fn Ah []),(10,Ai t10)],[(Ad, .arr 1 true 7 u0)]⟩:=kr (by kernel_rfl) h
theorem Aa2:Ca E0.P 91 ac_slices_rotateCmpFunc_Pair.code Cm []:=Bl _ _ Tryz.f91 [(2,[0,2,4,10,11],[]),(4,[0,2,4,10],[]),(9,[0,2,4,10],[])] [] _ 58 Tryz.func91 (by kernel_rfl) (by kernel_rfl) (by kernel_rfl) (by kernel_rfl)
theorem Z0(rows:LL)(a1 a2 a3:Int)(Q:QQ)(h:
 (Fa a2 (IntKind.i64.wrap (a2 - a1)) (IntKind.i64.wrap (a3 - a2)) rows (Ju rows Q))):Call E0.P J9 [.own (.arg 0),Ai a1,Ai a2,Ai a3, .fn Ah []] [(.arg 0, .arr 1 true 7 rows)] Q:=Be (Aw E0 Cm) (Bd Cm) 3 1 91 ac_slices_rotateCmpFunc_Pair [] Aa2 _ _ Q rfl rfl (kr (by kernel_rfl) h)
noncomputable def ac_slices_symMergeCmpFunc_Pair:AC:=(Bf [(3,[0,1,4,10,11],[]),(5,[0,1,10],[]),(9,[0,1,10],[0,1,2,3,4]),(11,[0,10,13],[]),(13,[],[]),(16,[],[0,1,2,3,4]),(17,[0,1,2,3,4],[]),(21,[0,2,4,14,15],[]),(23,[0,2,14],[]),(27,[0,2,14],[0,1,2,3,4]),(29,[0,14,17],[]),(31,[],[]),(34,[],[0,1,2,3,4]),(35,[0,1,2,3,4],[]),(42,[0,1,2,3,4,18,19,20,21],[]),(44,[0,1,2,3,4,18,19,20,21,22],[]),(46,[0,1,2,3,4,18,19,20],[]),(50,[0,1,2,3,4,18,19,20],[]),(53,[0,1,3,4,18,20,24],[]),(55,[0,3,4,18,24],[])] [] (codeOf Tryz.f83) 0).1
abbrev Ag:Nat:=220
def Ei(t1 t10 t11:Int)(u0:LL)(K:KK):Prop:=Bu 3 E0.P Ag (A8 3 ac_slices_symMergeCmpFunc_Pair).code ⟨[(0, .own Ad),(1,Ai t1),(4, .fn Ah []),(10,Ai t10),(11,Ai t11)],[(Ad, .arr 1 true 7 u0)]⟩ K
def Mo(t1 t2 t3:Int)(u0:LL)(K:KK):Prop:=Av 17 E0.P Ag (Af 17 ac_slices_symMergeCmpFunc_Pair).code ⟨[(0, .own Ad),(1,Ai t1),(2,Ai t2),(3,Ai t3),(4, .fn Ah [])],[(Ad, .arr 1 true 7 u0)]⟩ K
def Ef(t2 t14 t15:Int)(u0:LL)(K:KK):Prop:=Bu 21 E0.P Ag (A8 21 ac_slices_symMergeCmpFunc_Pair).code ⟨[(0, .own Ad),(2,Ai t2),(4, .fn Ah []),(14,Ai t14),(15,Ai t15)],[(Ad, .arr 1 true 7 u0)]⟩ K
def M3(t1 t2 t3:Int)(u0:LL)(K:KK):Prop:=Av 35 E0.P Ag (Af 35 ac_slices_symMergeCmpFunc_Pair).code ⟨[(0, .own Ad),(1,Ai t1),(2,Ai t2),(3,Ai t3),(4, .fn Ah [])],[(Ad, .arr 1 true 7 u0)]⟩ K
def Ig(t1 t2:Int)(t3 t18:Int)(t19 t20 t21:Int)(u0:LL)(K:KK):Prop:=Av 42 E0.P Ag (Af 42 ac_slices_symMergeCmpFunc_Pair).code ⟨[(0, .own Ad),(1,Ai t1),(2,Ai t2),(3,Ai t3),(4, .fn Ah []),(18,Ai t18),(19,Ai t19),(20,Ai t20),(21,Ai t21)],[(Ad, .arr 1 true 7 u0)]⟩ K
def Dm(t1 t2:Int)(t3 t18:Int)(t19 t20:Int)(t21 t22:Int)(u0:LL)(K:KK):Prop:=Bu 44 E0.P Ag (A8 44 ac_slices_symMergeCmpFunc_Pair).code ⟨[(0, .own Ad),(1,Ai t1),(2,Ai t2),(3,Ai t3),(4, .fn Ah []),(18,Ai t18),(19,Ai t19),(20,Ai t20),(21,Ai t21),(22,Ai t22)],[(Ad, .arr 1 true 7 u0)]⟩ K
def Nq(t1 t10:Int)(u0:LL)(K:KK):Prop:=Av 9 E0.P Ag (Af 9 ac_slices_symMergeCmpFunc_Pair).code ⟨[(0, .own Ad),(1,Ai t1),(10,Ai t10)],[(Ad, .arr 1 true 7 u0)]⟩ K
def Na(t2 t14:Int)(u0:LL)(K:KK):Prop:=Av 27 E0.P Ag (Af 27 ac_slices_symMergeCmpFunc_Pair).code ⟨[(0, .own Ad),(2,Ai t2),(14,Ai t14)],[(Ad, .arr 1 true 7 u0)]⟩ K
def F8(t1 t2:Int)(t3 t18:Int)(t19 t20:Int)(u0:LL)(K:KK):Prop:=Av 50 E0.P Ag (Af 50 ac_slices_symMergeCmpFunc_Pair).code ⟨[(0, .own Ad),(1,Ai t1),(2,Ai t2),(3,Ai t3),(4, .fn Ah []),(18,Ai t18),(19,Ai t19),(20,Ai t20)],[(Ad, .arr 1 true 7 u0)]⟩ K
def F6(t10 t13:Int)(u0:LL)(K:KK):Prop:=Bu 11 E0.P Ag (A8 11 ac_slices_symMergeCmpFunc_Pair).code ⟨[(0, .own Ad),(10,Ai t10),(13,Ai t13)],[(Ad, .arr 1 true 7 u0)]⟩ K
def Ga(t14 t17:Int)(u0:LL)(K:KK):Prop:=Bu 29 E0.P Ag (A8 29 ac_slices_symMergeCmpFunc_Pair).code ⟨[(0, .own Ad),(14,Ai t14),(17,Ai t17)],[(Ad, .arr 1 true 7 u0)]⟩ K
def F7(t1 t3:Int)(t18 t20 t24:Int)(u0:LL)(K:KK):Prop:=Av 53 E0.P Ag (Af 53 ac_slices_symMergeCmpFunc_Pair).code ⟨[(0, .own Ad),(1,Ai t1),(3,Ai t3),(4, .fn Ah []),(18,Ai t18),(20,Ai t20),(24,Ai t24)],[(Ad, .arr 1 true 7 u0)]⟩ K
def Gb(t3 t18 t24:Int)(u0:LL)(K:KK):Prop:=Av 55 E0.P Ag (Af 55 ac_slices_symMergeCmpFunc_Pair).code ⟨[(0, .own Ad),(3,Ai t3),(4, .fn Ah []),(18,Ai t18),(24,Ai t24)],[(Ad, .arr 1 true 7 u0)]⟩ K
def Mw(u0:LL)(K:KK):Prop:=Av 16 E0.P Ag (Af 16 ac_slices_symMergeCmpFunc_Pair).code ⟨[],[(Ad, .arr 1 true 7 u0)]⟩ K
def M0(u0:LL)(K:KK):Prop:=Av 34 E0.P Ag (Af 34 ac_slices_symMergeCmpFunc_Pair).code ⟨[],[(Ad, .arr 1 true 7 u0)]⟩ K
def Ej(rows:LL)(Q:QQ):KK:=kE fun st=>finish (1) E0.T [] [(Ad, .arr 1 true 7 rows)] Q st
def Iq(rows:LL)(Q:QQ):Ex→St→Prop
 | .normal,st=>Av 17 E0.P Ag (Af 17 ac_slices_symMergeCmpFunc_Pair).code (mask [0,1,2,3,4] st) (Ej rows Q)
 | .exit _,_=>False
 | .goto _,_=>False
 | .ret,st=>finish (1) E0.T [] [(Ad, .arr 1 true 7 rows)] Q st
def Nk(rows:LL)(Q:QQ):KK:=kF 0 (fun st=>Av 9 E0.P Ag (Af 9 ac_slices_symMergeCmpFunc_Pair).code (mask [0,1,10] st) (Iq rows Q)) fun st=>finish (1) E0.T [] [(Ad, .arr 1 true 7 rows)] Q st
def Bg(K:KK):KK:=kP [] K
def Ir(K:KK):Ex→St→Prop
 | .normal,st=>Av 35 E0.P Ag (Af 35 ac_slices_symMergeCmpFunc_Pair).code (mask [0,1,2,3,4] st) (Bg K)
 | .exit i,st=>K (.exit i) st
 | .goto i,st=>K (.goto i) st
 | .ret,st=>K .ret st
def Ni(K:KK):KK:=kC 4 (fun st=>Av 27 E0.P Ag (Af 27 ac_slices_symMergeCmpFunc_Pair).code (mask [0,2,14] st) (Ir K)) K
def Iu(K:KK):KK:=kC 8 (fun st=>Av 50 E0.P Ag (Af 50 ac_slices_symMergeCmpFunc_Pair).code (mask [0,1,2,3,4,18,19,20] st) (Bg K)) K
def Eh(K:KK):KK:=kP [0,1,2,3,4] K
def Nl(K:KK):KK:=kC 2 (fun st=>Av 16 E0.P Ag (Af 16 ac_slices_symMergeCmpFunc_Pair).code (mask [] st) (Eh K)) K
def Nj(K:KK):KK:=kC 6 (fun st=>Av 34 E0.P Ag (Af 34 ac_slices_symMergeCmpFunc_Pair).code (mask [] st) (Eh K)) K
theorem Lp(t1 t10 t11:Int)(u0:LL)(K:KK)(h:
 (Br (decide (t10<t11))
 (Ak ((0:Int)≤(1:Int))
 (Ak ((0:Int)≤IntKind.i64.wrap ((IntKind.u64.wrap (IntKind.i64.wrap (t10+t11))).fdiv ((2:Int) ^ 1))∧
 IntKind.i64.wrap ((IntKind.u64.wrap (IntKind.i64.wrap (t10+t11))).fdiv ((2:Int) ^ 1))<
 (↑u0.length:Int))
 (Ak ((IntKind.i64.wrap ((IntKind.u64.wrap (IntKind.i64.wrap (t10+t11))).fdiv ((2:Int) ^ 1))).toNat<u0.length∧
 Ck
 [.str, .int .i64, .int .i64, .int .i64, .str, .sl 6 Ac,
 .sl 7 Ap]
 (List.take 7
 (List.drop 0
 (u0.getD
 (IntKind.i64.wrap ((IntKind.u64.wrap (IntKind.i64.wrap (t10+t11))).fdiv ((2:Int) ^ 1))).toNat
 [])))=
 true)
 (Ak ((0:Int)≤t1∧t1<(↑u0.length:Int))
 (Ak (t1.toNat<u0.length∧
 Ck
 [.str, .int .i64, .int .i64, .int .i64, .str, .sl 6 Ac,
 .sl 7 Ap]
 (List.take 7 (List.drop 0 (u0.getD t1.toNat [])))=
 true)
 (Call E0.P Ah [.imm (.agg [.str (gS
 (List.take 7
 (List.drop 0
 (u0.getD
 (IntKind.i64.wrap ((IntKind.u64.wrap (IntKind.i64.wrap (t10+t11))).fdiv ((2:Int) ^ 1))).toNat [])))
 0), .int .i64 (gI
 (List.take 7
 (List.drop 0
 (u0.getD
 (IntKind.i64.wrap ((IntKind.u64.wrap (IntKind.i64.wrap (t10+t11))).fdiv ((2:Int) ^ 1))).toNat [])))
 1), .int .i64 (gI
 (List.take 7
 (List.drop 0
 (u0.getD
 (IntKind.i64.wrap ((IntKind.u64.wrap (IntKind.i64.wrap (t10+t11))).fdiv ((2:Int) ^ 1))).toNat [])))
 2), .int .i64 (gI
 (List.take 7
 (List.drop 0
 (u0.getD
 (IntKind.i64.wrap ((IntKind.u64.wrap (IntKind.i64.wrap (t10+t11))).fdiv ((2:Int) ^ 1))).toNat [])))
 3), .str (gS
 (List.take 7
 (List.drop 0
 (u0.getD
 (IntKind.i64.wrap ((IntKind.u64.wrap (IntKind.i64.wrap (t10+t11))).fdiv ((2:Int) ^ 1))).toNat [])))
 4), .sl .any 6 (gR
 (List.take 7
 (List.drop 0
 (u0.getD
 (IntKind.i64.wrap ((IntKind.u64.wrap (IntKind.i64.wrap (t10+t11))).fdiv ((2:Int) ^ 1))).toNat [])))
 5), .sl .any 7 (gR
 (List.take 7
 (List.drop 0
 (u0.getD
 (IntKind.i64.wrap ((IntKind.u64.wrap (IntKind.i64.wrap (t10+t11))).fdiv ((2:Int) ^ 1))).toNat [])))
 6)]), .imm (.agg [.str (gS (List.take 7 (List.drop 0 (u0.getD t1.toNat []))) 0), .int .i64 (gI (List.take 7 (List.drop 0 (u0.getD t1.toNat []))) 1), .int .i64 (gI (List.take 7 (List.drop 0 (u0.getD t1.toNat []))) 2), .int .i64 (gI (List.take 7 (List.drop 0 (u0.getD t1.toNat []))) 3), .str (gS (List.take 7 (List.drop 0 (u0.getD t1.toNat []))) 4), .sl .any 6 (gR (List.take 7 (List.drop 0 (u0.getD t1.toNat []))) 5), .sl .any 7 (gR (List.take 7 (List.drop 0 (u0.getD t1.toNat []))) 6)])] [] fun r0 g0=>
 Ak (qV1 g0 r0)
 (Br (decide (rI r0<(0:Int)))
 (Ei t1 (IntKind.i64.wrap
 (IntKind.i64.wrap ((IntKind.u64.wrap (IntKind.i64.wrap (t10+t11))).fdiv ((2:Int) ^ 1))+(1:Int))) t11 u0 K)
 (Ei t1 t10 (IntKind.i64.wrap ((IntKind.u64.wrap (IntKind.i64.wrap (t10+t11))).fdiv ((2:Int) ^ 1))) u0 K))))))))
 (K (.exit 0) ⟨[(0, .own Ad),(1,Ai t1),(10,Ai t10)],[(Ad, .arr 1 true 7 u0)]⟩))):Ei t1 t10 t11 u0 K:=Bo (Aw E0 Ag) (Bd Ag) 3 3 (A8 3 ac_slices_symMergeCmpFunc_Pair) [0,1,4,10,11] _ K rfl (kr (by kernel_rfl) h)
theorem Ve(t1 t2 t3:Int)(u0:LL)(K:KK)(h:
 (Br (decide (IntKind.i64.wrap (t3 - t2)=(1:Int)))
 (Ef t2 t1 t2 u0 (Ni K))
 (M3 t1 t2 t3 u0 (Bg K)))):Mo t1 t2 t3 u0 K:=A9 (Aw E0 Ag) (Bd Ag) 3 17 (Af 17 ac_slices_symMergeCmpFunc_Pair) [] _ K rfl (kr (by kernel_rfl) h)
theorem Kz(t2 t14 t15:Int)(u0:LL)(K:KK)(h:
 (Br (decide (t14<t15))
 (Ak ((0:Int)≤(1:Int))
 (Ak ((0:Int)≤t2∧t2<(↑u0.length:Int))
 (Ak (t2.toNat<u0.length∧
 Ck
 [.str, .int .i64, .int .i64, .int .i64, .str, .sl 6 Ac,
 .sl 7 Ap]
 (List.take 7 (List.drop 0 (u0.getD t2.toNat [])))=
 true)
 (Ak ((0:Int)≤IntKind.i64.wrap ((IntKind.u64.wrap (IntKind.i64.wrap (t14+t15))).fdiv ((2:Int) ^ 1))∧
 IntKind.i64.wrap ((IntKind.u64.wrap (IntKind.i64.wrap (t14+t15))).fdiv ((2:Int) ^ 1))<
 (↑u0.length:Int))
 (Ak ((IntKind.i64.wrap ((IntKind.u64.wrap (IntKind.i64.wrap (t14+t15))).fdiv ((2:Int) ^ 1))).toNat<u0.length∧
 Ck
 [.str, .int .i64, .int .i64, .int .i64, .str, .sl 6 Ac,
 .sl 7 Ap]
 (List.take 7
 (List.drop 0
 (u0.getD
 (IntKind.i64.wrap ((IntKind.u64.wrap (IntKind.i64.wrap (t14+t15))).fdiv ((2:Int) ^ 1))).toNat
 [])))=
 true)
 (Call E0.P Ah [.imm (.agg [.str (gS (List.take 7 (List.drop 0 (u0.getD t2.toNat []))) 0), .int .i64 (gI (List.take 7 (List.drop 0 (u0.getD t2.toNat []))) 1), .int .i64 (gI (List.take 7 (List.drop 0 (u0.getD t2.toNat []))) 2), .int .i64 (gI (List.take 7 (List.drop 0 (u0.getD t2.toNat []))) 3), .str (gS (List.take 7 (List.drop 0 (u0.getD t2.toNat []))) 4), .sl .any 6 (gR (List.take 7 (List.drop 0 (u0.getD t2.toNat []))) 5), .sl .any 7 (gR (List.take 7 (List.drop 0 (u0.getD t2.toNat []))) 6)]), .imm (.agg [.str (gS
 (List.take 7
 (List.drop 0
 (u0.getD
 (IntKind.i64.wrap ((IntKind.u64.wrap (IntKind.i64.wrap (t14+t15))).fdiv ((2:Int) ^ 1))).toNat [])))
 0), .int .i64 (gI
 (List.take 7
 (List.drop 0
 (u0.getD
 (IntKind.i64.wrap ((IntKind.u64.wrap (IntKind.i64.wrap (t14+t15))).fdiv ((2:Int) ^ 1))).toNat [])))
 1), .int .i64 (gI
 (List.take 7
 (List.drop 0
 (u0.getD
 (IntKind.i64.wrap ((IntKind.u64.wrap (IntKind.i64.wrap (t14+t15))).fdiv ((2:Int) ^ 1))).toNat [])))
 2), .int .i64 (gI
 (List.take 7
 (List.drop 0
 (u0.getD
 (IntKind.i64.wrap ((IntKind.u64.wrap (IntKind.i64.wrap (t14+t15))).fdiv ((2:Int) ^ 1))).toNat [])))
 3), .str (gS
 (List.take 7
 (List.drop 0
 (u0.getD
 (IntKind.i64.wrap ((IntKind.u64.wrap (IntKind.i64.wrap (t14+t15))).fdiv ((2:Int) ^ 1))).toNat [])))
 4), .sl .any 6 (gR
 (List.take 7
 (List.drop 0
 (u0.getD
 (IntKind.i64.wrap ((IntKind.u64.wrap (IntKind.i64.wrap (t14+t15))).fdiv ((2:Int) ^ 1))).toNat [])))
 5), .sl .any 7 (gR
 (List.take 7
 (List.drop 0
 (u0.getD
 (IntKind.i64.wrap ((IntKind.u64.wrap (IntKind.i64.wrap (t14+t15))).fdiv ((2:Int) ^ 1))).toNat [])))
 6)])] [] fun r0 g0=>
 Ak (qV1 g0 r0)
 (Br (!decide (rI r0<(0:Int)))
 (Ef t2 (IntKind.i64.wrap
 (IntKind.i64.wrap ((IntKind.u64.wrap (IntKind.i64.wrap (t14+t15))).fdiv ((2:Int) ^ 1))+(1:Int))) t15 u0 K)
 (Ef t2 t14 (IntKind.i64.wrap ((IntKind.u64.wrap (IntKind.i64.wrap (t14+t15))).fdiv ((2:Int) ^ 1))) u0 K))))))))
 (K (.exit (4)) ⟨[(0, .own Ad),(2,Ai t2),(14,Ai t14)],[(Ad, .arr 1 true 7 u0)]⟩))):Ef t2 t14 t15 u0 K:=Bo (Aw E0 Ag) (Bd Ag) 3 21 (A8 21 ac_slices_symMergeCmpFunc_Pair) [0,2,4,14,15] _ K rfl (kr (by kernel_rfl) h)
theorem Vb(t1 t2 t3:Int)(u0:LL)(K:KK)(h:
 (Ak ((0:Int)≤(1:Int))
 (Br (decide (IntKind.i64.wrap ((IntKind.u64.wrap (IntKind.i64.wrap (t1+t3))).fdiv ((2:Int) ^ 1))<t2))
 (Ig t1 t2 t3 (IntKind.i64.wrap ((IntKind.u64.wrap (IntKind.i64.wrap (t1+t3))).fdiv ((2:Int) ^ 1))) (IntKind.i64.wrap (IntKind.i64.wrap ((IntKind.u64.wrap (IntKind.i64.wrap (t1+t3))).fdiv ((2:Int) ^ 1))+t2)) (IntKind.i64.wrap
 (IntKind.i64.wrap
 (IntKind.i64.wrap ((IntKind.u64.wrap (IntKind.i64.wrap (t1+t3))).fdiv ((2:Int) ^ 1))+t2) -
 t3)) (IntKind.i64.wrap ((IntKind.u64.wrap (IntKind.i64.wrap (t1+t3))).fdiv ((2:Int) ^ 1))) u0 (Bg K))
 (Ig t1 t2 t3 (IntKind.i64.wrap ((IntKind.u64.wrap (IntKind.i64.wrap (t1+t3))).fdiv ((2:Int) ^ 1))) (IntKind.i64.wrap (IntKind.i64.wrap ((IntKind.u64.wrap (IntKind.i64.wrap (t1+t3))).fdiv ((2:Int) ^ 1))+t2)) t1 t2 u0 (Bg K))))):M3 t1 t2 t3 u0 K:=A9 (Aw E0 Ag) (Bd Ag) 3 35 (Af 35 ac_slices_symMergeCmpFunc_Pair) [] _ K rfl (kr (by kernel_rfl) h)
theorem Kr(t1 t2:Int)(t3 t18:Int)(t19 t20 t21:Int)(u0:LL)(K:KK)(h:
 (Dm t1 t2 t3 t18 t19 t20 t21 (IntKind.i64.wrap (t19 - (1:Int))) u0 (Iu K))):Ig t1 t2 t3 t18 t19 t20 t21 u0 K:=A9 (Aw E0 Ag) (Bd Ag) 3 42 (Af 42 ac_slices_symMergeCmpFunc_Pair) [] _ K rfl (kr (by kernel_rfl) h)
theorem Lb(t1 t2:Int)(t3 t18:Int)(t19 t20:Int)(t21 t22:Int)(u0:LL)(K:KK)(h:
 (Br (decide (t20<t21))
 (Ak ((0:Int)≤(1:Int))
 (Ak ((0:Int)≤
 IntKind.i64.wrap
 (t22 - IntKind.i64.wrap ((IntKind.u64.wrap (IntKind.i64.wrap (t20+t21))).fdiv ((2:Int) ^ 1)))∧
 IntKind.i64.wrap
 (t22 - IntKind.i64.wrap ((IntKind.u64.wrap (IntKind.i64.wrap (t20+t21))).fdiv ((2:Int) ^ 1)))<
 (↑u0.length:Int))
 (Ak ((IntKind.i64.wrap
 (t22 -
 IntKind.i64.wrap ((IntKind.u64.wrap (IntKind.i64.wrap (t20+t21))).fdiv ((2:Int) ^ 1)))).toNat<
 u0.length∧
 Ck
 [.str, .int .i64, .int .i64, .int .i64, .str, .sl 6 Ac,
 .sl 7 Ap]
 (List.take 7
 (List.drop 0
 (u0.getD
 (IntKind.i64.wrap
 (t22 -
 IntKind.i64.wrap
 ((IntKind.u64.wrap (IntKind.i64.wrap (t20+t21))).fdiv ((2:Int) ^ 1)))).toNat
 [])))=
 true)
 (Ak ((0:Int)≤IntKind.i64.wrap ((IntKind.u64.wrap (IntKind.i64.wrap (t20+t21))).fdiv ((2:Int) ^ 1))∧
 IntKind.i64.wrap ((IntKind.u64.wrap (IntKind.i64.wrap (t20+t21))).fdiv ((2:Int) ^ 1))<
 (↑u0.length:Int))
 (Ak ((IntKind.i64.wrap ((IntKind.u64.wrap (IntKind.i64.wrap (t20+t21))).fdiv ((2:Int) ^ 1))).toNat<u0.length∧
 Ck
 [.str, .int .i64, .int .i64, .int .i64, .str, .sl 6 Ac,
 .sl 7 Ap]
 (List.take 7
 (List.drop 0
 (u0.getD
 (IntKind.i64.wrap ((IntKind.u64.wrap (IntKind.i64.wrap (t20+t21))).fdiv ((2:Int) ^ 1))).toNat
 [])))=
 true)
 (Call E0.P Ah [.imm (.agg [.str (gS
 (List.take 7
 (List.drop 0
 (u0.getD
 (IntKind.i64.wrap
 (t22 -
 IntKind.i64.wrap ((IntKind.u64.wrap (IntKind.i64.wrap (t20+t21))).fdiv ((2:Int) ^ 1)))).toNat
 [])))
 0), .int .i64 (gI
 (List.take 7
 (List.drop 0
 (u0.getD
 (IntKind.i64.wrap
 (t22 -
 IntKind.i64.wrap ((IntKind.u64.wrap (IntKind.i64.wrap (t20+t21))).fdiv ((2:Int) ^ 1)))).toNat
 [])))
 1), .int .i64 (gI
 (List.take 7
 (List.drop 0
 (u0.getD
 (IntKind.i64.wrap
 (t22 -
 IntKind.i64.wrap ((IntKind.u64.wrap (IntKind.i64.wrap (t20+t21))).fdiv ((2:Int) ^ 1)))).toNat
 [])))
 2), .int .i64 (gI
 (List.take 7
 (List.drop 0
 (u0.getD
 (IntKind.i64.wrap
 (t22 -
 IntKind.i64.wrap ((IntKind.u64.wrap (IntKind.i64.wrap (t20+t21))).fdiv ((2:Int) ^ 1)))).toNat
 [])))
 3), .str (gS
 (List.take 7
 (List.drop 0
 (u0.getD
 (IntKind.i64.wrap
 (t22 -
 IntKind.i64.wrap ((IntKind.u64.wrap (IntKind.i64.wrap (t20+t21))).fdiv ((2:Int) ^ 1)))).toNat
 [])))
 4), .sl .any 6 (gR
 (List.take 7
 (List.drop 0
 (u0.getD
 (IntKind.i64.wrap
 (t22 -
 IntKind.i64.wrap ((IntKind.u64.wrap (IntKind.i64.wrap (t20+t21))).fdiv ((2:Int) ^ 1)))).toNat
 [])))
 5), .sl .any 7 (gR
 (List.take 7
 (List.drop 0
 (u0.getD
 (IntKind.i64.wrap
 (t22 -
 IntKind.i64.wrap ((IntKind.u64.wrap (IntKind.i64.wrap (t20+t21))).fdiv ((2:Int) ^ 1)))).toNat
 [])))
 6)]), .imm (.agg [.str (gS
 (List.take 7
 (List.drop 0
 (u0.getD
 (IntKind.i64.wrap ((IntKind.u64.wrap (IntKind.i64.wrap (t20+t21))).fdiv ((2:Int) ^ 1))).toNat [])))
 0), .int .i64 (gI
 (List.take 7
 (List.drop 0
 (u0.getD
 (IntKind.i64.wrap ((IntKind.u64.wrap (IntKind.i64.wrap (t20+t21))).fdiv ((2:Int) ^ 1))).toNat [])))
 1), .int .i64 (gI
 (List.take 7
 (List.drop 0
 (u0.getD
 (IntKind.i64.wrap ((IntKind.u64.wrap (IntKind.i64.wrap (t20+t21))).fdiv ((2:Int) ^ 1))).toNat [])))
 2), .int .i64 (gI
 (List.take 7
 (List.drop 0
 (u0.getD
 (IntKind.i64.wrap ((IntKind.u64.wrap (IntKind.i64.wrap (t20+t21))).fdiv ((2:Int) ^ 1))).toNat [])))
 3), .str (gS
 (List.take 7
 (List.drop 0
 (u0.getD
 (IntKind.i64.wrap ((IntKind.u64.wrap (IntKind.i64.wrap (t20+t21))).fdiv ((2:Int) ^ 1))).toNat [])))
 4), .sl .any 6 (gR
 (List.take 7
 (List.drop 0
 (u0.getD
 (IntKind.i64.wrap ((IntKind.u64.wrap (IntKind.i64.wrap (t20+t21))).fdiv ((2:Int) ^ 1))).toNat [])))
 5), .sl .any 7 (gR
 (List.take 7
 (List.drop 0
 (u0.getD
 (IntKind.i64.wrap ((IntKind.u64.wrap (IntKind.i64.wrap (t20+t21))).fdiv ((2:Int) ^ 1))).toNat [])))
 6)])] [] fun r0 g0=>
 Ak (qV1 g0 r0)
 (Br (!decide (rI r0<(0:Int)))
 (Dm t1 t2 t3 t18 t19 (IntKind.i64.wrap
 (IntKind.i64.wrap ((IntKind.u64.wrap (IntKind.i64.wrap (t20+t21))).fdiv ((2:Int) ^ 1))+(1:Int))) t21 t22 u0 K)
 (Dm t1 t2 t3 t18 t19 t20 (IntKind.i64.wrap ((IntKind.u64.wrap (IntKind.i64.wrap (t20+t21))).fdiv ((2:Int) ^ 1))) t22 u0 K))))))))
 (K (.exit (8)) ⟨[(0, .own Ad),(1,Ai t1),(2,Ai t2),(3,Ai t3),(4, .fn Ah []),(18,Ai t18),(19,Ai t19),(20,Ai t20)],[(Ad, .arr 1 true 7 u0)]⟩))):Dm t1 t2 t3 t18 t19 t20 t21 t22 u0 K:=Bo (Aw E0 Ag) (Bd Ag) 3 44 (A8 44 ac_slices_symMergeCmpFunc_Pair) [0,1,2,3,4,18,19,20,21,22] _ K rfl (kr (by kernel_rfl) h)
theorem V4(t1 t10:Int)(u0:LL)(K:KK)(h:
 (F6 t10 t1 u0 (Nl K))):Nq t1 t10 u0 K:=A9 (Aw E0 Ag) (Bd Ag) 3 9 (Af 9 ac_slices_symMergeCmpFunc_Pair) [0,1,2,3,4] _ K rfl (kr (by kernel_rfl) h)
theorem Us(t2 t14:Int)(u0:LL)(K:KK)(h:
 (Ga t14 t2 u0 (Nj K))):Na t2 t14 u0 K:=A9 (Aw E0 Ag) (Bd Ag) 3 27 (Af 27 ac_slices_symMergeCmpFunc_Pair) [0,1,2,3,4] _ K rfl (kr (by kernel_rfl) h)
theorem Ut(t1 t2:Int)(t3 t18:Int)(t19 t20:Int)(u0:LL)(K:KK)(h:
 (Let (bif decide (t20<t2)then decide (t2<IntKind.i64.wrap (t19 - t20))else false) fun x0=>
 Br (x0)
 (Call E0.P J9 [.own Ad,Ai t20,Ai t2,Ai (IntKind.i64.wrap (t19 - t20)), .fn Ah []] [(Ad, .arr 1 true 7 u0)] fun r1 g1=>
 Ak (qV2 g1 r1)
 (F7 t1 t3 t18 t20 (IntKind.i64.wrap (t19 - t20)) (Da g1 Ad) (Bg K)))
 (F7 t1 t3 t18 t20 (IntKind.i64.wrap (t19 - t20)) u0 (Bg K)))):F8 t1 t2 t3 t18 t19 t20 u0 K:=A9 (Aw E0 Ag) (Bd Ag) 3 50 (Af 50 ac_slices_symMergeCmpFunc_Pair) [] _ K rfl (kr (by kernel_rfl) h)
theorem Kq(t10 t13:Int)(u0:LL)(K:KK)(h:
 (Br (decide (t13<IntKind.i64.wrap (t10 - (1:Int))))
 (Ak ((0:Int)≤IntKind.i64.wrap (t13+(1:Int))∧IntKind.i64.wrap (t13+(1:Int))<(↑u0.length:Int))
 (Ak ((IntKind.i64.wrap (t13+(1:Int))).toNat<u0.length∧
 Ck
 [.str, .int .i64, .int .i64, .int .i64, .str, .sl 6 Ac,
 .sl 7 Ap]
 (List.take 7 (List.drop 0 (u0.getD (IntKind.i64.wrap (t13+(1:Int))).toNat [])))=
 true)
 (Ak ((0:Int)≤t13∧t13<(↑u0.length:Int))
 (Ak (t13.toNat<u0.length∧
 Ck
 [.str, .int .i64, .int .i64, .int .i64, .str, .sl 6 Ac,
 .sl 7 Ap]
 (List.take 7 (List.drop 0 (u0.getD t13.toNat [])))=
 true)
 (Ak ((0:Int)≤t13∧t13<(↑u0.length:Int))
 (Ak (t13.toNat<u0.length)
 (Ak ((0:Int)≤IntKind.i64.wrap (t13+(1:Int))∧
 IntKind.i64.wrap (t13+(1:Int))<
 (↑(u0.set t13.toNat
 [.str
 (gS (List.take (7:Nat) (List.drop (0:Nat) (u0.getD (IntKind.i64.wrap (t13+(1:Int))).toNat [])))
 (0:Nat)),
 .int .i64
 (gI (List.take (7:Nat) (List.drop (0:Nat) (u0.getD (IntKind.i64.wrap (t13+(1:Int))).toNat [])))
 (1:Nat)),
 .int .i64
 (gI (List.take (7:Nat) (List.drop (0:Nat) (u0.getD (IntKind.i64.wrap (t13+(1:Int))).toNat [])))
 (2:Nat)),
 .int .i64
 (gI (List.take (7:Nat) (List.drop (0:Nat) (u0.getD (IntKind.i64.wrap (t13+(1:Int))).toNat [])))
 (3:Nat)),
 .str
 (gS (List.take (7:Nat) (List.drop (0:Nat) (u0.getD (IntKind.i64.wrap (t13+(1:Int))).toNat [])))
 (4:Nat)),
 .sl SK.any (6:Nat)
 (gR (List.take (7:Nat) (List.drop (0:Nat) (u0.getD (IntKind.i64.wrap (t13+(1:Int))).toNat [])))
 (5:Nat)),
 .sl SK.any (7:Nat)
 (gR (List.take (7:Nat) (List.drop (0:Nat) (u0.getD (IntKind.i64.wrap (t13+(1:Int))).toNat [])))
 (6:Nat))]).length:
 Int))
 (Ak ((IntKind.i64.wrap (t13+(1:Int))).toNat<
 (u0.set t13.toNat
 [.str
 (gS (List.take 7 (List.drop 0 (u0.getD (IntKind.i64.wrap (t13+(1:Int))).toNat [])))
 0),
 .int .i64
 (gI (List.take 7 (List.drop 0 (u0.getD (IntKind.i64.wrap (t13+(1:Int))).toNat [])))
 1),
 .int .i64
 (gI (List.take 7 (List.drop 0 (u0.getD (IntKind.i64.wrap (t13+(1:Int))).toNat [])))
 2),
 .int .i64
 (gI (List.take 7 (List.drop 0 (u0.getD (IntKind.i64.wrap (t13+(1:Int))).toNat [])))
 3),
 .str
 (gS (List.take 7 (List.drop 0 (u0.getD (IntKind.i64.wrap (t13+(1:Int))).toNat [])))
 4),
 .sl SK.any 6
 (gR (List.take 7 (List.drop 0 (u0.getD (IntKind.i64.wrap (t13+(1:Int))).toNat [])))
 5),
 .sl SK.any 7
 (gR (List.take 7 (List.drop 0 (u0.getD (IntKind.i64.wrap (t13+(1:Int))).toNat [])))
 6)]).length)
 (F6 t10 (IntKind.i64.wrap (t13+(1:Int))) ((u0.set t13.toNat
 [.str
 (gS (List.take 7 (List.drop 0 (u0.getD (IntKind.i64.wrap (t13+(1:Int))).toNat [])))
 0),
 .int .i64
 (gI (List.take 7 (List.drop 0 (u0.getD (IntKind.i64.wrap (t13+(1:Int))).toNat [])))
 1),
 .int .i64
 (gI (List.take 7 (List.drop 0 (u0.getD (IntKind.i64.wrap (t13+(1:Int))).toNat [])))
 2),
 .int .i64
 (gI (List.take 7 (List.drop 0 (u0.getD (IntKind.i64.wrap (t13+(1:Int))).toNat [])))
 3),
 .str
 (gS (List.take 7 (List.drop 0 (u0.getD (IntKind.i64.wrap (t13+(1:Int))).toNat [])))
 4),
 .sl SK.any 6
 (gR (List.take 7 (List.drop 0 (u0.getD (IntKind.i64.wrap (t13+(1:Int))).toNat [])))
 5),
 .sl SK.any 7
 (gR (List.take 7 (List.drop 0 (u0.getD (IntKind.i64.wrap (t13+(1:Int))).toNat [])))
 6)]).set
 (IntKind.i64.wrap (t13+(1:Int))).toNat
 [.str (gS (List.take 7 (List.drop 0 (u0.getD t13.toNat []))) 0),
 .int .i64 (gI (List.take 7 (List.drop 0 (u0.getD t13.toNat []))) 1),
 .int .i64 (gI (List.take 7 (List.drop 0 (u0.getD t13.toNat []))) 2),
 .int .i64 (gI (List.take 7 (List.drop 0 (u0.getD t13.toNat []))) 3),
 .str (gS (List.take 7 (List.drop 0 (u0.getD t13.toNat []))) 4),
 .sl SK.any 6 (gR (List.take 7 (List.drop 0 (u0.getD t13.toNat []))) 5),
 .sl SK.any 7 (gR (List.take 7 (List.drop 0 (u0.getD t13.toNat []))) 6)]) K)))))))))
 (K (.exit (2)) ⟨[],[(Ad, .arr 1 true 7 u0)]⟩))):F6 t10 t13 u0 K:=Bo (Aw E0 Ag) (Bd Ag) 3 11 (A8 11 ac_slices_symMergeCmpFunc_Pair) [0,10,13] _ K rfl (kr (by kernel_rfl) h)
theorem K7(t14 t17:Int)(u0:LL)(K:KK)(h:
 (Br (decide (t14<t17))
 (Ak ((0:Int)≤IntKind.i64.wrap (t17 - (1:Int))∧IntKind.i64.wrap (t17 - (1:Int))<(↑u0.length:Int))
 (Ak ((IntKind.i64.wrap (t17 - (1:Int))).toNat<u0.length∧
 Ck
 [.str, .int .i64, .int .i64, .int .i64, .str, .sl 6 Ac,
 .sl 7 Ap]
 (List.take 7 (List.drop 0 (u0.getD (IntKind.i64.wrap (t17 - (1:Int))).toNat [])))=
 true)
 (Ak ((0:Int)≤t17∧t17<(↑u0.length:Int))
 (Ak (t17.toNat<u0.length∧
 Ck
 [.str, .int .i64, .int .i64, .int .i64, .str, .sl 6 Ac,
 .sl 7 Ap]
 (List.take 7 (List.drop 0 (u0.getD t17.toNat [])))=
 true)
 (Ak ((0:Int)≤t17∧t17<(↑u0.length:Int))
 (Ak (t17.toNat<u0.length)
 (Ak ((0:Int)≤IntKind.i64.wrap (t17 - (1:Int))∧
 IntKind.i64.wrap (t17 - (1:Int))<
 (↑(u0.set t17.toNat
 [.str
 (gS (List.take (7:Nat) (List.drop (0:Nat) (u0.getD (IntKind.i64.wrap (t17 - (1:Int))).toNat [])))
 (0:Nat)),
 .int .i64
 (gI (List.take (7:Nat) (List.drop (0:Nat) (u0.getD (IntKind.i64.wrap (t17 - (1:Int))).toNat [])))
 (1:Nat)),
 .int .i64
 (gI (List.take (7:Nat) (List.drop (0:Nat) (u0.getD (IntKind.i64.wrap (t17 - (1:Int))).toNat [])))
 (2:Nat)),
 .int .i64
 (gI (List.take (7:Nat) (List.drop (0:Nat) (u0.getD (IntKind.i64.wrap (t17 - (1:Int))).toNat [])))
 (3:Nat)),
 .str
 (gS (List.take (7:Nat) (List.drop (0:Nat) (u0.getD (IntKind.i64.wrap (t17 - (1:Int))).toNat [])))
 (4:Nat)),
 .sl SK.any (6:Nat)
 (gR (List.take (7:Nat) (List.drop (0:Nat) (u0.getD (IntKind.i64.wrap (t17 - (1:Int))).toNat [])))
 (5:Nat)),
 .sl SK.any (7:Nat)
 (gR (List.take (7:Nat) (List.drop (0:Nat) (u0.getD (IntKind.i64.wrap (t17 - (1:Int))).toNat [])))
 (6:Nat))]).length:
 Int))
 (Ak ((IntKind.i64.wrap (t17 - (1:Int))).toNat<
 (u0.set t17.toNat
 [.str
 (gS (List.take 7 (List.drop 0 (u0.getD (IntKind.i64.wrap (t17 - (1:Int))).toNat [])))
 0),
 .int .i64
 (gI (List.take 7 (List.drop 0 (u0.getD (IntKind.i64.wrap (t17 - (1:Int))).toNat [])))
 1),
 .int .i64
 (gI (List.take 7 (List.drop 0 (u0.getD (IntKind.i64.wrap (t17 - (1:Int))).toNat [])))
 2),
 .int .i64
 (gI (List.take 7 (List.drop 0 (u0.getD (IntKind.i64.wrap (t17 - (1:Int))).toNat [])))
 3),
 .str
 (gS (List.take 7 (List.drop 0 (u0.getD (IntKind.i64.wrap (t17 - (1:Int))).toNat [])))
 4),
 .sl SK.any 6
 (gR (List.take 7 (List.drop 0 (u0.getD (IntKind.i64.wrap (t17 - (1:Int))).toNat [])))
 5),
 .sl SK.any 7
 (gR (List.take 7 (List.drop 0 (u0.getD (IntKind.i64.wrap (t17 - (1:Int))).toNat [])))
 6)]).length)
 (Ga t14 (IntKind.i64.wrap (t17 - (1:Int))) ((u0.set t17.toNat
 [.str
 (gS (List.take 7 (List.drop 0 (u0.getD (IntKind.i64.wrap (t17 - (1:Int))).toNat [])))
 0),
 .int .i64
 (gI (List.take 7 (List.drop 0 (u0.getD (IntKind.i64.wrap (t17 - (1:Int))).toNat [])))
 1),
 .int .i64
 (gI (List.take 7 (List.drop 0 (u0.getD (IntKind.i64.wrap (t17 - (1:Int))).toNat [])))
 2),
 .int .i64
 (gI (List.take 7 (List.drop 0 (u0.getD (IntKind.i64.wrap (t17 - (1:Int))).toNat [])))
 3),
 .str
 (gS (List.take 7 (List.drop 0 (u0.getD (IntKind.i64.wrap (t17 - (1:Int))).toNat [])))
 4),
 .sl SK.any 6
 (gR (List.take 7 (List.drop 0 (u0.getD (IntKind.i64.wrap (t17 - (1:Int))).toNat [])))
 5),
 .sl SK.any 7
 (gR (List.take 7 (List.drop 0 (u0.getD (IntKind.i64.wrap (t17 - (1:Int))).toNat [])))
 6)]).set
 (IntKind.i64.wrap (t17 - (1:Int))).toNat
 [.str (gS (List.take 7 (List.drop 0 (u0.getD t17.toNat []))) 0),
 .int .i64 (gI (List.take 7 (List.drop 0 (u0.getD t17.toNat []))) 1),
 .int .i64 (gI (List.take 7 (List.drop 0 (u0.getD t17.toNat []))) 2),
 .int .i64 (gI (List.take 7 (List.drop 0 (u0.getD t17.toNat []))) 3),
 .str (gS (List.take 7 (List.drop 0 (u0.getD t17.toNat []))) 4),
 .sl SK.any 6 (gR (List.take 7 (List.drop 0 (u0.getD t17.toNat []))) 5),
 .sl SK.any 7 (gR (List.take 7 (List.drop 0 (u0.getD t17.toNat []))) 6)]) K)))))))))
 (K (.exit (6)) ⟨[],[(Ad, .arr 1 true 7 u0)]⟩))):Ga t14 t17 u0 K:=Bo (Aw E0 Ag) (Bd Ag) 3 29 (A8 29 ac_slices_symMergeCmpFunc_Pair) [0,14,17] _ K rfl (kr (by kernel_rfl) h)
theorem Ur(t1 t3:Int)(t18 t20 t24:Int)(u0:LL)(K:KK)(h:
 (Let (bif decide (t1<t20)then decide (t20<t18)else false) fun x0=>
 Br (x0)
 (Call E0.P Dw [.own Ad,Ai t1,Ai t20,Ai t18, .fn Ah []] [(Ad, .arr 1 true 7 u0)] fun r1 g1=>
 Ak (qV2 g1 r1)
 (Gb t3 t18 t24 (Da g1 Ad) (Bg K)))
 (Gb t3 t18 t24 u0 (Bg K)))):F7 t1 t3 t18 t20 t24 u0 K:=A9 (Aw E0 Ag) (Bd Ag) 3 53 (Af 53 ac_slices_symMergeCmpFunc_Pair) [] _ K rfl (kr (by kernel_rfl) h)
theorem U4(t3 t18 t24:Int)(u0:LL)(K:KK)(h:
 (Let (bif decide (t18<t24)then decide (t24<t3)else false) fun x0=>
 Br (x0)
 (Call E0.P Dw [.own Ad,Ai t18,Ai t24,Ai t3, .fn Ah []] [(Ad, .arr 1 true 7 u0)] fun r1 g1=>
 Ak (qV2 g1 r1)
 (K .normal ⟨[],[(Ad, .arr 1 true 7 (Da g1 Ad))]⟩))
 (K .normal ⟨[],[(Ad, .arr 1 true 7 u0)]⟩))):Gb t3 t18 t24 u0 K:=A9 (Aw E0 Ag) (Bd Ag) 3 55 (Af 55 ac_slices_symMergeCmpFunc_Pair) [] _ K rfl (kr (by kernel_rfl) h)
theorem U3(u0:LL)(K:KK)(h:
 (K .ret ⟨[],[(Ad, .arr 1 true 7 u0)]⟩)):Mw u0 K:=A9 (Aw E0 Ag) (Bd Ag) 3 16 (Af 16 ac_slices_symMergeCmpFunc_Pair) [0,1,2,3,4] _ K rfl (kr (by kernel_rfl) h)
theorem Uv(u0:LL)(K:KK)(h:
 (K .ret ⟨[],[(Ad, .arr 1 true 7 u0)]⟩)):M0 u0 K:=A9 (Aw E0 Ag) (Bd Ag) 3 34 (Af 34 ac_slices_symMergeCmpFunc_Pair) [0,1,2,3,4] _ K rfl (kr (by kernel_rfl) h)
theorem Vs(rows:LL)(Q:QQ)(u0:LL)(h:
 (Q (.tup []) [(Ad, .arr 1 true 7 u0)])):Ej rows Q .ret ⟨[],[(Ad, .arr 1 true 7 u0)]⟩:=kr (by kernel_rfl) h
theorem Vr(rows:LL)(Q:QQ)(u0:LL)(h:
 (Q (.tup []) [(Ad, .arr 1 true 7 u0)])):Ej rows Q .normal ⟨[],[(Ad, .arr 1 true 7 u0)]⟩:=kr (by kernel_rfl) h
theorem Vu(rows:LL)(Q:QQ)(u0:LL)(h:
 (Q (.tup []) [(Ad, .arr 1 true 7 u0)])):Iq rows Q .ret ⟨[],[(Ad, .arr 1 true 7 u0)]⟩:=kr (by kernel_rfl) h
theorem Vq(rows:LL)(Q:QQ)(t1 t10:Int)(u0:LL)(h:
 (Nq t1 t10 u0 (Iq rows Q))):Nk rows Q (.exit 0) ⟨[(0, .own Ad),(1,Ai t1),(10,Ai t10)],[(Ad, .arr 1 true 7 u0)]⟩:=kr (by kernel_rfl) h
theorem Cv(K:KK)(u0:LL)(h:
 (K .normal ⟨[],[(Ad, .arr 1 true 7 u0)]⟩)):Bg K .normal ⟨[],[(Ad, .arr 1 true 7 u0)]⟩:=kr (by kernel_rfl) h
theorem V5(K:KK)(u0:LL)(h:
 (K .ret ⟨[],[(Ad, .arr 1 true 7 u0)]⟩)):Ir K .ret ⟨[],[(Ad, .arr 1 true 7 u0)]⟩:=kr (by kernel_rfl) h
theorem Vz(K:KK)(t2 t14:Int)(u0:LL)(h:
 (Na t2 t14 u0 (Ir K))):Ni K (.exit (4)) ⟨[(0, .own Ad),(2,Ai t2),(14,Ai t14)],[(Ad, .arr 1 true 7 u0)]⟩:=kr (by kernel_rfl) h
theorem Vp(K:KK)(t1 t2:Int)(t3 t18:Int)(t19 t20:Int)(u0:LL)(h:
 (F8 t1 t2 t3 t18 t19 t20 u0 (Bg K))):Iu K (.exit (8)) ⟨[(0, .own Ad),(1,Ai t1),(2,Ai t2),(3,Ai t3),(4, .fn Ah []),(18,Ai t18),(19,Ai t19),(20,Ai t20)],[(Ad, .arr 1 true 7 u0)]⟩:=kr (by kernel_rfl) h
theorem Lm(K:KK)(u0:LL)(h:
 (K .ret ⟨[],[(Ad, .arr 1 true 7 u0)]⟩)):Eh K .ret ⟨[],[(Ad, .arr 1 true 7 u0)]⟩:=kr (by kernel_rfl) h
theorem Vx(K:KK)(u0:LL)(h:
 (Mw u0 (Eh K))):Nl K (.exit (2)) ⟨[],[(Ad, .arr 1 true 7 u0)]⟩:=kr (by kernel_rfl) h
theorem Vy(K:KK)(u0:LL)(h:
 (M0 u0 (Eh K))):Nj K (.exit (6)) ⟨[],[(Ad, .arr 1 true 7 u0)]⟩:=kr (by kernel_rfl) h
theorem Zo:Ca E0.P 83 ac_slices_symMergeCmpFunc_Pair.code Ag []:=Bl _ _ Tryz.f83 [(3,[0,1,4,10,11],[]),(5,[0,1,10],[]),(9,[0,1,10],[0,1,2,3,4]),(11,[0,10,13],[]),(13,[],[]),(16,[],[0,1,2,3,4]),(17,[0,1,2,3,4],[]),(21,[0,2,4,14,15],[]),(23,[0,2,14],[]),(27,[0,2,14],[0,1,2,3,4]),(29,[0,14,17],[]),(31,[],[]),(34,[],[0,1,2,3,4]),(35,[0,1,2,3,4],[]),(42,[0,1,2,3,4,18,19,20,21],[]),(44,[0,1,2,3,4,18,19,20,21,22],[]),(46,[0,1,2,3,4,18,19,20],[]),(50,[0,1,2,3,4,18,19,20],[]),(53,[0,1,3,4,18,20,24],[]),(55,[0,3,4,18,24],[])] [] _ 220 Tryz.func83 (by kernel_rfl) (by kernel_rfl) (by kernel_rfl) (by kernel_rfl)
theorem Ye(rows:LL)(a1 a2 a3:Int)(Q:QQ)(h:
 (Br (decide (IntKind.i64.wrap (a2 - a1)=(1:Int)))
 (Ei a1 a2 a3 rows (Nk rows Q))
 (Mo a1 a2 a3 rows (Ej rows Q)))):Call E0.P Dw [.own (.arg 0),Ai a1,Ai a2,Ai a3, .fn Ah []] [(.arg 0, .arr 1 true 7 rows)] Q:=Be (Aw E0 Ag) (Bd Ag) 3 1 83 ac_slices_symMergeCmpFunc_Pair [] Zo _ _ Q rfl rfl (kr (by kernel_rfl) h)
noncomputable def ac_slices_stableCmpFunc_Pair:AC:=(Bf [(2,[0,1,2,6,7,8],[]),(4,[0,1,2,6,7],[]),(8,[0,1,2,6,7],[]),(10,[0,1,2,6],[]),(12,[],[]),(15,[0,1,2,6,7,8],[]),(17,[0,1,2,6,7],[]),(21,[0,1,2,6,7],[0,1,2,6]),(24,[0,1,2,6],[0,1,2,6])] [] (codeOf Tryz.f65) 0).1
abbrev Ay:Nat:=63
def Gw(t1 t6:Int)(t7 t8:Int)(u0:LL)(K:KK):Prop:=Bu 2 E0.P Ay (A8 2 ac_slices_stableCmpFunc_Pair).code ⟨[(0, .own Ad),(1,Ai t1),(2, .fn Ah []),(6,Ai t6),(7,Ai t7),(8,Ai t8)],[(Ad, .arr 1 true 7 u0)]⟩ K
def Pd(t1 t6 t7:Int)(u0:LL)(K:KK):Prop:=Av 8 E0.P Ay (Af 8 ac_slices_stableCmpFunc_Pair).code ⟨[(0, .own Ad),(1,Ai t1),(2, .fn Ah []),(6,Ai t6),(7,Ai t7)],[(Ad, .arr 1 true 7 u0)]⟩ K
def Dx(t1 t6:Int)(u0:LL)(K:KK):Prop:=Bu 10 E0.P Ay (A8 10 ac_slices_stableCmpFunc_Pair).code ⟨[(0, .own Ad),(1,Ai t1),(2, .fn Ah []),(6,Ai t6)],[(Ad, .arr 1 true 7 u0)]⟩ K
def Gr(t1 t6:Int)(t7 t8:Int)(u0:LL)(K:KK):Prop:=Bu 15 E0.P Ay (A8 15 ac_slices_stableCmpFunc_Pair).code ⟨[(0, .own Ad),(1,Ai t1),(2, .fn Ah []),(6,Ai t6),(7,Ai t7),(8,Ai t8)],[(Ad, .arr 1 true 7 u0)]⟩ K
def Ov(t1 t6 t7:Int)(u0:LL)(K:KK):Prop:=Av 21 E0.P Ay (Af 21 ac_slices_stableCmpFunc_Pair).code ⟨[(0, .own Ad),(1,Ai t1),(2, .fn Ah []),(6,Ai t6),(7,Ai t7)],[(Ad, .arr 1 true 7 u0)]⟩ K
def Gt(t1 t6:Int)(u0:LL)(K:KK):Prop:=Av 24 E0.P Ay (Af 24 ac_slices_stableCmpFunc_Pair).code ⟨[(0, .own Ad),(1,Ai t1),(2, .fn Ah []),(6,Ai t6)],[(Ad, .arr 1 true 7 u0)]⟩ K
def E9(rows:LL)(Q:QQ):KK:=kE fun st=>finish (1) E0.T [] [(Ad, .arr 1 true 7 rows)] Q st
def Jv(rows:LL)(Q:QQ):KK:=kF 0 (fun st=>Av 8 E0.P Ay (Af 8 ac_slices_stableCmpFunc_Pair).code (mask [0,1,2,6,7] st) (E9 rows Q)) fun st=>finish (1) E0.T [] [(Ad, .arr 1 true 7 rows)] Q st
def Gy(K:KK):KK:=kC 2 (fun st=>K .normal (mask [] st)) K
def Fb(K:KK):KK:=kC 3 (fun st=>Bu 10 E0.P Ay (A8 10 ac_slices_stableCmpFunc_Pair).code (mask [0,1,2,6] st) K) K
def Jt(K:KK):Ex→St→Prop
 | .normal,st=>Av 21 E0.P Ay (Af 21 ac_slices_stableCmpFunc_Pair).code (mask [0,1,2,6,7] st) (Fb K)
 | .exit i,st=>(match (i.beq 4:Bool)with
 |true=>Av 21 E0.P Ay (Af 21 ac_slices_stableCmpFunc_Pair).code (mask [0,1,2,6,7] st) (Fb K)
 |false=>(match (i.beq 3:Bool)with
 |true=>Bu 10 E0.P Ay (A8 10 ac_slices_stableCmpFunc_Pair).code (mask [0,1,2,6] st) K
 |false=>K (.exit i) st))
 | .goto i,st=>K (.goto i) st
 | .ret,st=>K .ret st
def Gx(K:KK):KK:=kP [0,1,2,6] K
theorem Xr(t1 t6:Int)(t7 t8:Int)(u0:LL)(K:KK)(h:
 (Br (decide (t8≤t1))
 (Call E0.P Ez [.own Ad,Ai t7,Ai t8, .fn Ah []] [(Ad, .arr 1 true 7 u0)] fun r0 g0=>
 Ak (qV2 g0 r0)
 (Gw t1 t6 t8 (IntKind.i64.wrap (t8+t6)) (Da g0 Ad) K))
 (K (.exit 0) ⟨[(0, .own Ad),(1,Ai t1),(2, .fn Ah []),(6,Ai t6),(7,Ai t7)],[(Ad, .arr 1 true 7 u0)]⟩))):Gw t1 t6 t7 t8 u0 K:=Bo (Aw E0 Ay) (Bd Ay) 3 2 (A8 2 ac_slices_stableCmpFunc_Pair) [0,1,2,6,7,8] _ K rfl (kr (by kernel_rfl) h)
theorem Xu(t1 t6 t7:Int)(u0:LL)(K:KK)(h:
 (Call E0.P Ez [.own Ad,Ai t7,Ai t1, .fn Ah []] [(Ad, .arr 1 true 7 u0)] fun r0 g0=>
 Ak (qV2 g0 r0)
 (Dx t1 t6 (Da g0 Ad) (Gy K)))):Pd t1 t6 t7 u0 K:=A9 (Aw E0 Ay) (Bd Ay) 3 8 (Af 8 ac_slices_stableCmpFunc_Pair) [] _ K rfl (kr (by kernel_rfl) h)
theorem Me(t1 t6:Int)(u0:LL)(K:KK)(h:
 (Br (decide (t6<t1))
 (Gr t1 t6 ((0:Int)) (IntKind.i64.wrap ((2:Int)*t6)) u0 (Jt K))
 (K (.exit (2)) ⟨[],[(Ad, .arr 1 true 7 u0)]⟩))):Dx t1 t6 u0 K:=Bo (Aw E0 Ay) (Bd Ay) 3 10 (A8 10 ac_slices_stableCmpFunc_Pair) [0,1,2,6] _ K rfl (kr (by kernel_rfl) h)
theorem Wh(t1 t6:Int)(t7 t8:Int)(u0:LL)(K:KK)(h:
 (Br (decide (t8≤t1))
 (Call E0.P Dw [.own Ad,Ai t7,Ai (IntKind.i64.wrap (t7+t6)),Ai t8, .fn Ah []] [(Ad, .arr 1 true 7 u0)] fun r0 g0=>
 Ak (qV2 g0 r0)
 (Gr t1 t6 t8 (IntKind.i64.wrap (t8+IntKind.i64.wrap ((2:Int)*t6))) (Da g0 Ad) K))
 (K (.exit (4)) ⟨[(0, .own Ad),(1,Ai t1),(2, .fn Ah []),(6,Ai t6),(7,Ai t7)],[(Ad, .arr 1 true 7 u0)]⟩))):Gr t1 t6 t7 t8 u0 K:=Bo (Aw E0 Ay) (Bd Ay) 3 15 (A8 15 ac_slices_stableCmpFunc_Pair) [0,1,2,6,7,8] _ K rfl (kr (by kernel_rfl) h)
theorem Wq(t1 t6 t7:Int)(u0:LL)(K:KK)(h:
 (Br (decide (IntKind.i64.wrap (t7+t6)<t1))
 (Call E0.P Dw [.own Ad,Ai t7,Ai (IntKind.i64.wrap (t7+t6)),Ai t1, .fn Ah []] [(Ad, .arr 1 true 7 u0)] fun r0 g0=>
 Ak (qV2 g0 r0)
 (Gt t1 t6 (Da g0 Ad) (Gx K)))
 (Gt t1 t6 u0 (Gx K)))):Ov t1 t6 t7 u0 K:=A9 (Aw E0 Ay) (Bd Ay) 3 21 (Af 21 ac_slices_stableCmpFunc_Pair) [0,1,2,6] _ K rfl (kr (by kernel_rfl) h)
theorem Wu(t1 t6:Int)(u0:LL)(K:KK)(h:
 (K .normal ⟨[(0, .own Ad),(1,Ai t1),(2, .fn Ah []),(6,Ai (IntKind.i64.wrap (t6*(2:Int))))],[(Ad, .arr 1 true 7 u0)]⟩)):Gt t1 t6 u0 K:=A9 (Aw E0 Ay) (Bd Ay) 3 24 (Af 24 ac_slices_stableCmpFunc_Pair) [0,1,2,6] _ K rfl (kr (by kernel_rfl) h)
theorem Xq(rows:LL)(Q:QQ)(u0:LL)(h:
 (Q (.tup []) [(Ad, .arr 1 true 7 u0)])):E9 rows Q .normal ⟨[],[(Ad, .arr 1 true 7 u0)]⟩:=kr (by kernel_rfl) h
theorem Xz(rows:LL)(Q:QQ)(t1 t6 t7:Int)(u0:LL)(h:
 (Pd t1 t6 t7 u0 (E9 rows Q))):Jv rows Q (.exit 0) ⟨[(0, .own Ad),(1,Ai t1),(2, .fn Ah []),(6,Ai t6),(7,Ai t7)],[(Ad, .arr 1 true 7 u0)]⟩:=kr (by kernel_rfl) h
theorem Xx(K:KK)(u0:LL)(h:
 (K .normal ⟨[],[(Ad, .arr 1 true 7 u0)]⟩)):Gy K (.exit (2)) ⟨[],[(Ad, .arr 1 true 7 u0)]⟩:=kr (by kernel_rfl) h
theorem Xl(K:KK)(t1 t6:Int)(u0:LL)(h:
 (Dx t1 t6 u0 K)):Fb K .normal ⟨[(0, .own Ad),(1,Ai t1),(2, .fn Ah []),(6,Ai t6)],[(Ad, .arr 1 true 7 u0)]⟩:=kr (by kernel_rfl) h
theorem Xm(K:KK)(t1 t6 t7:Int)(u0:LL)(h:
 (Ov t1 t6 t7 u0 (Fb K))):Jt K (.exit (4)) ⟨[(0, .own Ad),(1,Ai t1),(2, .fn Ah []),(6,Ai t6),(7,Ai t7)],[(Ad, .arr 1 true 7 u0)]⟩:=kr (by kernel_rfl) h
theorem X9(K:KK)(t1 t6:Int)(u0:LL)(h:
 (K .normal ⟨[(0, .own Ad),(1,Ai t1),(2, .fn Ah []),(6,Ai t6)],[(Ad, .arr 1 true 7 u0)]⟩)):Gx K .normal ⟨[(0, .own Ad),(1,Ai t1),(2, .fn Ah []),(6,Ai t6)],[(Ad, .arr 1 true 7 u0)]⟩:=kr (by kernel_rfl) h
theorem Abm:Ca E0.P 65 ac_slices_stableCmpFunc_Pair.code Ay []:=Bl _ _ Tryz.f65 [(2,[0,1,2,6,7,8],[]),(4,[0,1,2,6,7],[]),(8,[0,1,2,6,7],[]),(10,[0,1,2,6],[]),(12,[],[]),(15,[0,1,2,6,7,8],[]),(17,[0,1,2,6,7],[]),(21,[0,1,2,6,7],[0,1,2,6]),(24,[0,1,2,6],[0,1,2,6])] [] _ 63 Tryz.func65 (by kernel_rfl) (by kernel_rfl) (by kernel_rfl) (by kernel_rfl)
theorem Zf(rows:LL)(a1:Int)(Q:QQ)(h:
 (Gw a1 ((20:Int)) ((0:Int)) ((20:Int)) rows (Jv rows Q))):Call E0.P J2 [.own (.arg 0),Ai a1, .fn Ah []] [(.arg 0, .arr 1 true 7 rows)] Q:=Be (Aw E0 Ay) (Bd Ay) 3 1 65 ac_slices_stableCmpFunc_Pair [] Abm _ _ Q rfl rfl (kr (by kernel_rfl) h)
noncomputable def ac_slices_SortStableFunc_Pair:AC:=(Bf [] [] (codeOf Tryz.f39) 0).1
abbrev Js:Nat:=9
theorem Aah:Ca E0.P 39 ac_slices_SortStableFunc_Pair.code Js []:=Bl _ _ Tryz.f39 [] [] _ 9 Tryz.func39 (by kernel_rfl) (by kernel_rfl) (by kernel_rfl) (by kernel_rfl)
theorem Yv(rows:LL)(Q:QQ)(h:
 (Call E0.P J2 [.own Ad,Ai ((↑rows.length:Int)), .fn Ah []] [(Ad, .arr 1 true 7 rows)] fun r0 g0=>
 Ak (qV2 g0 r0)
 (Q (.tup []) [(Ad, .arr 1 true 7 (Da g0 Ad))]))):Call E0.P Jq [.own (.arg 0), .fn Ah []] [(.arg 0, .arr 1 true 7 rows)] Q:=Be (Aw E0 Js) (Bd Js) 3 1 39 ac_slices_SortStableFunc_Pair [] Aah _ _ Q rfl rfl (kr (by kernel_rfl) h)
noncomputable def ac_slices_Clone_Pair:AC:=(Bf [] [2] (codeOf Tryz.f38) 0).1
abbrev Rj:Nat:=8
theorem Akc:Ca E0.P 38 ac_slices_Clone_Pair.code Rj [.tmp 2]:=Bl _ _ Tryz.f38 [] [2] _ 8 Tryz.func38 (by kernel_rfl) (by kernel_rfl) (by kernel_rfl) (by kernel_rfl)
theorem Ahy(a0:LL)(Q:QQ)(h:
 (A4a (a0=[])
 (Br (!false)
 (Q (.own nL0) ([]++[(Nm.loc 0,Entry.arr 0 true 7 [])]))
 (Ak ((0+a0.length)*104≤140737488355328∧0+a0.length≤140737488355328)
 (Q (.own nL0) ([]++[(Nm.loc 0,Entry.arr 0 true 7 ([]++a0))]))))
 (Br (false)
 (Q (.own nL0) ([]++[(Nm.loc 0,Entry.arr 0 true 7 [])]))
 (Ak ((0+a0.length)*104≤140737488355328∧0+a0.length≤140737488355328)
 (Q (.own nL0) ([]++[(Nm.loc 0,Entry.arr 0 true 7 ([]++a0))])))))):Call E0.P Rh [Al 7 a0] [] Q:=Be (Aw E0 Rj) (Bd Rj) 3 2 38 ac_slices_Clone_Pair [.tmp 2] Akc _ _ Q rfl rfl (kr (by kernel_rfl) h)
noncomputable def ac_slices_CompactFunc_Pair:AC:=(Bf [(5,[0,1,5],[]),(7,[0],[]),(12,[0,1,5,6,7],[]),(14,[0,5],[]),(18,[0,1,5,6,7],[0,1,5,6,7]),(19,[0,5],[0,1,5]),(22,[0,1,5],[0,1,5]),(23,[0],[])] [4] (codeOf Tryz.f42) 0).1
abbrev Az:Nat:=66
def Hy(t5:Int)(u0:LL)(K:KK):Prop:=Bu 5 E0.P Az (A8 5 ac_slices_CompactFunc_Pair).code ⟨[(0, .own Ad),(1, .fn Cc []),(5,Ai t5)],[(Ad, .arr 1 true 7 u0)]⟩ K
def Hr(t5:Int)(t6_2 t6_3:Nat)(t7:Int)(u0:LL)(K:KK):Prop:=Bu 12 E0.P Az (A8 12 ac_slices_CompactFunc_Pair).code ⟨[(0, .own Ad),(1, .fn Cc []),(5,Ai t5),(6, .win Ad 7 t6_2 t6_3),(7,Ai t7)],[(Ad, .arr 1 true 7 u0)]⟩ K
def Qk(t5:Int)(u0:LL)(K:KK):Prop:=Av 22 E0.P Az (Af 22 ac_slices_CompactFunc_Pair).code ⟨[(0, .own Ad),(1, .fn Cc []),(5,Ai t5)],[(Ad, .arr 1 true 7 u0)]⟩ K
def Jz(t5:Int)(t6_2 t6_3:Nat)(t7:Int)(u0:LL)(K:KK):Prop:=Av 18 E0.P Az (Af 18 ac_slices_CompactFunc_Pair).code ⟨[(0, .own Ad),(1, .fn Cc []),(5,Ai t5),(6, .win Ad 7 t6_2 t6_3),(7,Ai t7)],[(Ad, .arr 1 true 7 u0)]⟩ K
def P6(u0:LL)(K:KK):Prop:=Av 23 E0.P Az (Af 23 ac_slices_CompactFunc_Pair).code ⟨[(0, .own Ad)],[(Ad, .arr 1 true 7 u0)]⟩ K
def P7(t5:Int)(u0:LL)(K:KK):Prop:=Av 19 E0.P Az (Af 19 ac_slices_CompactFunc_Pair).code ⟨[(0, .own Ad),(5,Ai t5)],[(Ad, .arr 1 true 7 u0)]⟩ K
def Km(rows:LL)(Q:QQ):KK:=kE fun st=>finish (1) E0.T [.tmp 4] [(Ad, .arr 1 true 7 rows)] Q st
def Fy(rows:LL)(Q:QQ):KK:=kF 0 (fun st=>Av 23 E0.P Az (Af 23 ac_slices_CompactFunc_Pair).code (mask [0] st) (Km rows Q)) fun st=>finish (1) E0.T [.tmp 4] [(Ad, .arr 1 true 7 rows)] Q st
def Hz(K:KK):Ex→St→Prop
 | .normal,st=>Bu 5 E0.P Az (A8 5 ac_slices_CompactFunc_Pair).code (mask [0,1,5] st) K
 | .exit i,st=>K (.exit i) st
 | .goto i,st=>K (.goto i) st
 | .ret,st=>K .ret st
def H5(K:KK):KK:=kC 1 (fun st=>Av 22 E0.P Az (Af 22 ac_slices_CompactFunc_Pair).code (mask [0,1,5] st) (Hz K)) K
def Kl(K:KK):Ex→St→Prop
 | .normal,st=>Av 19 E0.P Az (Af 19 ac_slices_CompactFunc_Pair).code (mask [0,5] st) (H5 K)
 | .exit i,st=>(match (i.beq 2:Bool)with
 |true=>Av 19 E0.P Az (Af 19 ac_slices_CompactFunc_Pair).code (mask [0,5] st) (H5 K)
 |false=>(match (i.beq 1:Bool)with
 |true=>Av 22 E0.P Az (Af 22 ac_slices_CompactFunc_Pair).code (mask [0,1,5] st) (Hz K)
 |false=>K (.exit i) st))
 | .goto i,st=>K (.goto i) st
 | .ret,st=>K .ret st
def Ko(K:KK):Ex→St→Prop
 | .normal,st=>Bu 12 E0.P Az (A8 12 ac_slices_CompactFunc_Pair).code (mask [0,1,5,6,7] st) K
 | .exit i,st=>K (.exit i) st
 | .goto i,st=>K (.goto i) st
 | .ret,st=>K .ret st
theorem Oy(t5:Int)(u0:LL)(K:KK)(h:
 (Br (decide (t5<(↑u0.length:Int)))
 (Ak ((0:Int)≤t5∧t5<(↑u0.length:Int))
 (Ak (t5.toNat<u0.length∧
 Ck
 [.str, .int .i64, .int .i64, .int .i64, .str, .sl 6 Ac,
 .sl 7 Ap]
 (List.take 7 (List.drop 0 (u0.getD t5.toNat [])))=
 true)
 (Ak ((0:Int)≤IntKind.i64.wrap (t5 - (1:Int))∧IntKind.i64.wrap (t5 - (1:Int))<(↑u0.length:Int))
 (Ak ((IntKind.i64.wrap (t5 - (1:Int))).toNat<u0.length∧
 Ck
 [.str, .int .i64, .int .i64, .int .i64, .str, .sl 6 Ac,
 .sl 7 Ap]
 (List.take 7 (List.drop 0 (u0.getD (IntKind.i64.wrap (t5 - (1:Int))).toNat [])))=
 true)
 (Call E0.P Cc [.imm (.agg [.str (gS (List.take 7 (List.drop 0 (u0.getD t5.toNat []))) 0), .int .i64 (gI (List.take 7 (List.drop 0 (u0.getD t5.toNat []))) 1), .int .i64 (gI (List.take 7 (List.drop 0 (u0.getD t5.toNat []))) 2), .int .i64 (gI (List.take 7 (List.drop 0 (u0.getD t5.toNat []))) 3), .str (gS (List.take 7 (List.drop 0 (u0.getD t5.toNat []))) 4), .sl .any 6 (gR (List.take 7 (List.drop 0 (u0.getD t5.toNat []))) 5), .sl .any 7 (gR (List.take 7 (List.drop 0 (u0.getD t5.toNat []))) 6)]), .imm (.agg [.str (gS (List.take 7 (List.drop 0 (u0.getD (IntKind.i64.wrap (t5 - (1:Int))).toNat []))) 0), .int .i64 (gI (List.take 7 (List.drop 0 (u0.getD (IntKind.i64.wrap (t5 - (1:Int))).toNat []))) 1), .int .i64 (gI (List.take 7 (List.drop 0 (u0.getD (IntKind.i64.wrap (t5 - (1:Int))).toNat []))) 2), .int .i64 (gI (List.take 7 (List.drop 0 (u0.getD (IntKind.i64.wrap (t5 - (1:Int))).toNat []))) 3), .str (gS (List.take 7 (List.drop 0 (u0.getD (IntKind.i64.wrap (t5 - (1:Int))).toNat []))) 4), .sl .any 6 (gR (List.take 7 (List.drop 0 (u0.getD (IntKind.i64.wrap (t5 - (1:Int))).toNat []))) 5), .sl .any 7 (gR (List.take 7 (List.drop 0 (u0.getD (IntKind.i64.wrap (t5 - (1:Int))).toNat []))) 6)])] [] fun r0 g0=>
 Ak (qV0 g0 r0)
 (Br (rB r0)
 (Ak ((0:Int)≤t5∧t5≤(↑u0.length:Int))
 (Hr t5 t5.toNat (u0.length - t5.toNat) ((1:Int)) u0 (Kl K)))
 (Qk t5 u0 (Hz K))))))))
 (K (.exit 0) ⟨[(0, .own Ad)],[(Ad, .arr 1 true 7 u0)]⟩))):Hy t5 u0 K:=Bo (Aw E0 Az) (Bd Az) 3 5 (A8 5 ac_slices_CompactFunc_Pair) [0,1,5] _ K rfl (kr (by kernel_rfl) h)
theorem Np(t5:Int)(t6_2 t6_3:Nat)(t7:Int)(u0:LL)(K:KK)(h:
 (Br (decide (t7<(↑t6_3:Int)))
 (Ak ((0:Int)≤t7∧t7<(↑t6_3:Int))
 (Ak (addN t6_2 t7.toNat<u0.length∧
 Ck
 [.str, .int .i64, .int .i64, .int .i64, .str, .sl 6 Ac,
 .sl 7 Ap]
 (List.take 7 (List.drop 0 (u0.getD (addN t6_2 t7.toNat) [])))=
 true)
 (Ak ((0:Int)≤IntKind.i64.wrap (t7 - (1:Int))∧IntKind.i64.wrap (t7 - (1:Int))<(↑t6_3:Int))
 (Ak (addN t6_2 (IntKind.i64.wrap (t7 - (1:Int))).toNat<u0.length∧
 Ck
 [.str, .int .i64, .int .i64, .int .i64, .str, .sl 6 Ac,
 .sl 7 Ap]
 (List.take 7 (List.drop 0 (u0.getD (addN t6_2 (IntKind.i64.wrap (t7 - (1:Int))).toNat) [])))=
 true)
 (Call E0.P Cc [.imm (.agg [.str (gS (List.take 7 (List.drop 0 (u0.getD (addN t6_2 t7.toNat) []))) 0), .int .i64 (gI (List.take 7 (List.drop 0 (u0.getD (addN t6_2 t7.toNat) []))) 1), .int .i64 (gI (List.take 7 (List.drop 0 (u0.getD (addN t6_2 t7.toNat) []))) 2), .int .i64 (gI (List.take 7 (List.drop 0 (u0.getD (addN t6_2 t7.toNat) []))) 3), .str (gS (List.take 7 (List.drop 0 (u0.getD (addN t6_2 t7.toNat) []))) 4), .sl .any 6 (gR (List.take 7 (List.drop 0 (u0.getD (addN t6_2 t7.toNat) []))) 5), .sl .any 7 (gR (List.take 7 (List.drop 0 (u0.getD (addN t6_2 t7.toNat) []))) 6)]), .imm (.agg [.str (gS (List.take 7 (List.drop 0 (u0.getD (addN t6_2 (IntKind.i64.wrap (t7 - (1:Int))).toNat) [])))
 0), .int .i64 (gI (List.take 7 (List.drop 0 (u0.getD (addN t6_2 (IntKind.i64.wrap (t7 - (1:Int))).toNat) [])))
 1), .int .i64 (gI (List.take 7 (List.drop 0 (u0.getD (addN t6_2 (IntKind.i64.wrap (t7 - (1:Int))).toNat) [])))
 2), .int .i64 (gI (List.take 7 (List.drop 0 (u0.getD (addN t6_2 (IntKind.i64.wrap (t7 - (1:Int))).toNat) [])))
 3), .str (gS (List.take 7 (List.drop 0 (u0.getD (addN t6_2 (IntKind.i64.wrap (t7 - (1:Int))).toNat) [])))
 4), .sl .any 6 (gR (List.take 7 (List.drop 0 (u0.getD (addN t6_2 (IntKind.i64.wrap (t7 - (1:Int))).toNat) [])))
 5), .sl .any 7 (gR (List.take 7 (List.drop 0 (u0.getD (addN t6_2 (IntKind.i64.wrap (t7 - (1:Int))).toNat) [])))
 6)])] [] fun r0 g0=>
 Ak (qV0 g0 r0)
 (Br (!rB r0)
 (Ak ((0:Int)≤t7∧t7<(↑t6_3:Int))
 (Ak (addN t6_2 t7.toNat<u0.length∧
 Ck
 [.str, .int .i64, .int .i64, .int .i64, .str, .sl 6 Ac,
 .sl 7 Ap]
 (List.take 7 (List.drop 0 (u0.getD (addN t6_2 t7.toNat) [])))=
 true)
 (Ak ((0:Int)≤t5∧t5<(↑u0.length:Int))
 (Ak (t5.toNat<u0.length)
 (Jz (IntKind.i64.wrap (t5+(1:Int))) t6_2 t6_3 t7 (u0.set t5.toNat
 [.str (gS (List.take 7 (List.drop 0 (u0.getD (addN t6_2 t7.toNat) []))) 0),
 .int .i64 (gI (List.take 7 (List.drop 0 (u0.getD (addN t6_2 t7.toNat) []))) 1),
 .int .i64 (gI (List.take 7 (List.drop 0 (u0.getD (addN t6_2 t7.toNat) []))) 2),
 .int .i64 (gI (List.take 7 (List.drop 0 (u0.getD (addN t6_2 t7.toNat) []))) 3),
 .str (gS (List.take 7 (List.drop 0 (u0.getD (addN t6_2 t7.toNat) []))) 4),
 .sl SK.any 6
 (gR (List.take 7 (List.drop 0 (u0.getD (addN t6_2 t7.toNat) []))) 5),
 .sl SK.any 7
 (gR (List.take 7 (List.drop 0 (u0.getD (addN t6_2 t7.toNat) []))) 6)]) (Ko K))))))
 (Jz t5 t6_2 t6_3 t7 u0 (Ko K))))))))
 (K (.exit (2)) ⟨[(0, .own Ad),(5,Ai t5)],[(Ad, .arr 1 true 7 u0)]⟩))):Hr t5 t6_2 t6_3 t7 u0 K:=Bo (Aw E0 Az) (Bd Az) 3 12 (A8 12 ac_slices_CompactFunc_Pair) [0,1,5,6,7] _ K rfl (kr (by kernel_rfl) h)
theorem Yt(t5:Int)(u0:LL)(K:KK)(h:
 (K .normal ⟨[(0, .own Ad),(1, .fn Cc []),(5,Ai (IntKind.i64.wrap (t5+(1:Int))))],[(Ad, .arr 1 true 7 u0)]⟩)):Qk t5 u0 K:=A9 (Aw E0 Az) (Bd Az) 3 22 (Af 22 ac_slices_CompactFunc_Pair) [0,1,5] _ K rfl (kr (by kernel_rfl) h)
theorem Nh(t5:Int)(t6_2 t6_3:Nat)(t7:Int)(u0:LL)(K:KK)(h:
 (K .normal ⟨[(0, .own Ad),(1, .fn Cc []),(5,Ai t5),(6, .win Ad 7 t6_2 t6_3),(7,Ai (IntKind.i64.wrap (t7+(1:Int))))],[(Ad, .arr 1 true 7 u0)]⟩)):Jz t5 t6_2 t6_3 t7 u0 K:=A9 (Aw E0 Az) (Bd Az) 3 18 (Af 18 ac_slices_CompactFunc_Pair) [0,1,5,6,7] _ K rfl (kr (by kernel_rfl) h)
theorem Yr(u0:LL)(K:KK)(h:
 (K .ret ⟨[(4, .own Ad)],[(Ad, .arr 1 true 7 u0)]⟩)):P6 u0 K:=A9 (Aw E0 Az) (Bd Az) 3 23 (Af 23 ac_slices_CompactFunc_Pair) [] _ K rfl (kr (by kernel_rfl) h)
theorem Yp(t5:Int)(u0:LL)(K:KK)(h:
 (Ak ((0:Int)≤t5∧t5≤(↑u0.length:Int))
 (Ak ((0:Int)≤t5∧
 t5≤
 (↑(Jk
 [.str [], .int .i64 (0:Int), .int .i64 (0:Int), .int .i64 (0:Int),
 .str [], .sl SK.nil (6:Nat) [], .sl SK.nil (7:Nat) []]
 t5.toNat (u0.length - t5.toNat) u0).length:
 Int))
 (K .ret ⟨[(4, .win Ad 7 0 (t5.toNat - 0))],[(Ad, .arr 1 true 7 (Jk
 [.str [], .int .i64 (0:Int), .int .i64 (0:Int), .int .i64 (0:Int), .str [],
 .sl SK.nil 6 [], .sl SK.nil 7 []]
 t5.toNat (u0.length - t5.toNat) u0))]⟩)))):P7 t5 u0 K:=A9 (Aw E0 Az) (Bd Az) 3 19 (Af 19 ac_slices_CompactFunc_Pair) [0,1,5] _ K rfl (kr (by kernel_rfl) h)
theorem Y6(rows:LL)(Q:QQ)(u0:LL)(h:
 (Q (.win Ad 7 0 u0.length) [(Ad, .arr 1 true 7 u0)])):Km rows Q .ret ⟨[(4, .own Ad)],[(Ad, .arr 1 true 7 u0)]⟩:=kr (by kernel_rfl) h
theorem Y8(rows:LL)(Q:QQ)(u0:LL)(h:
 (P6 u0 (Km rows Q))):Fy rows Q (.exit 0) ⟨[(0, .own Ad)],[(Ad, .arr 1 true 7 u0)]⟩:=kr (by kernel_rfl) h
theorem Y3(rows:LL)(Q:QQ)(t4_2 t4_3:Nat)(u0:LL)(h:
 (Q (.win Ad 7 t4_2 t4_3) [(Ad, .arr 1 true 7 u0)])):Fy rows Q .ret ⟨[(4, .win Ad 7 t4_2 t4_3)],[(Ad, .arr 1 true 7 u0)]⟩:=kr (by kernel_rfl) h
theorem Ze(K:KK)(t5:Int)(u0:LL)(h:
 (Hy t5 u0 K)):Hz K .normal ⟨[(0, .own Ad),(1, .fn Cc []),(5,Ai t5)],[(Ad, .arr 1 true 7 u0)]⟩:=kr (by kernel_rfl) h
theorem Zg(K:KK)(t4_2 t4_3:Nat)(u0:LL)(h:
 (K .ret ⟨[(4, .win Ad 7 t4_2 t4_3)],[(Ad, .arr 1 true 7 u0)]⟩)):H5 K .ret ⟨[(4, .win Ad 7 t4_2 t4_3)],[(Ad, .arr 1 true 7 u0)]⟩:=kr (by kernel_rfl) h
theorem Zw(K:KK)(t5:Int)(u0:LL)(h:
 (P7 t5 u0 (H5 K))):Kl K (.exit (2)) ⟨[(0, .own Ad),(5,Ai t5)],[(Ad, .arr 1 true 7 u0)]⟩:=kr (by kernel_rfl) h
theorem Oq(K:KK)(t5:Int)(t6_2 t6_3:Nat)(t7:Int)(u0:LL)(h:
 (Hr t5 t6_2 t6_3 t7 u0 K)):Ko K .normal ⟨[(0, .own Ad),(1, .fn Cc []),(5,Ai t5),(6, .win Ad 7 t6_2 t6_3),(7,Ai t7)],[(Ad, .arr 1 true 7 u0)]⟩:=kr (by kernel_rfl) h
theorem Acs:Ca E0.P 42 ac_slices_CompactFunc_Pair.code Az [.tmp 4]:=Bl _ _ Tryz.f42 [(5,[0,1,5],[]),(7,[0],[]),(12,[0,1,5,6,7],[]),(14,[0,5],[]),(18,[0,1,5,6,7],[0,1,5,6,7]),(19,[0,5],[0,1,5]),(22,[0,1,5],[0,1,5]),(23,[0],[])] [4] _ 66 Tryz.func42 (by kernel_rfl) (by kernel_rfl) (by kernel_rfl) (by kernel_rfl)
theorem Abf(rows:LL)(Q:QQ)(h:
 (Br (decide ((↑rows.length:Int)<(2:Int)))
 (Q (.win Ad 7 0 rows.length) [(Ad, .arr 1 true 7 rows)])
 (Hy ((1:Int)) rows (Fy rows Q)))):Call E0.P Lf [.own (.arg 0), .fn Cc []] [(.arg 0, .arr 1 true 7 rows)] Q:=Be (Aw E0 Az) (Bd Az) 3 1 42 ac_slices_CompactFunc_Pair [.tmp 4] Acs _ _ Q rfl rfl (kr (by kernel_rfl) h)
noncomputable def ac_value_has:AC:=(Bf [(5,[2,4,8],[2]),(8,[2,4,12],[2]),(18,[2],[])] [2,3] (codeOf Tryz.f20) 0).1
abbrev Fp:Nat:=29
def Xg(t4:Int)(t8 u0:Bool)(u1 u2:Bool)(u3 u4:Bool)(K:KK):Prop:=Av 5 E0.P Fp (Af 5 ac_value_has).code ⟨[(2, .ptr nL2 0),(4,Ai t4),(8,Ab t8)],[(nL2, .blk Bi [Ab u0,Ab u1,Ab u2,Ab u3,Ab u4])]⟩ K
def Xf(t4:Int)(t12 u0:Bool)(u1 u2:Bool)(u3 u4:Bool)(K:KK):Prop:=Av 8 E0.P Fp (Af 8 ac_value_has).code ⟨[(2, .ptr nL2 0),(4,Ai t4),(12,Ab t12)],[(nL2, .blk Bi [Ab u0,Ab u1,Ab u2,Ab u3,Ab u4])]⟩ K
def Ajk(u0 u1:Bool)(u2 u3 u4:Bool)(K:KK):Prop:=Av 18 E0.P Fp (Af 18 ac_value_has).code ⟨[(2, .ptr nL2 0)],[(nL2, .blk Bi [Ab u0,Ab u1,Ab u2,Ab u3,Ab u4])]⟩ K
def Adt(Q:QQ):KK:=kE fun st=>finish 0 E0.T [.cell 2 56, .tmp 3] [] Q st
def Nw(Q:QQ):KK:=kF 0 (fun st=>Av 18 E0.P Fp (Af 18 ac_value_has).code (mask [2] st) (Adt Q)) fun st=>finish 0 E0.T [.cell 2 56, .tmp 3] [] Q st
def Rx(K:KK):KK:=kP [2] K
theorem Ars(t4:Int)(t8 u0:Bool)(u1 u2:Bool)(u3 u4:Bool)(K:KK)(h:
 (Br (t8)
 (K .ret ⟨[(2, .ptr nL2 0),(3,Ab true)],[(nL2, .blk Bi [Ab true,Ab false,Ab false,Ab false,Ab false])]⟩)
 (Br (decide (t4=(3:Int)))
 (Xf t4 (decide (t4=(3:Int))) u0 u1 u2 u3 u4 (Rx K))
 (Xf t4 (decide (t4=(4:Int))) u0 u1 u2 u3 u4 (Rx K))))):Xg t4 t8 u0 u1 u2 u3 u4 K:=A9 (Aw E0 Fp) (Bd Fp) 3 5 (Af 5 ac_value_has) [2] _ K rfl (kr (by kernel_rfl) h)
theorem Asl(t4:Int)(t12 u0:Bool)(u1 u2:Bool)(u3 u4:Bool)(K:KK)(h:
 (Br (t12)
 (K .ret ⟨[(2, .ptr nL2 0),(3,Ab true)],[(nL2, .blk Bi [Ab false,Ab false,Ab true,Ab false,Ab false])]⟩)
 (Br (decide (t4=(5:Int)))
 (K .ret ⟨[(2, .ptr nL2 0),(3,Ab true)],[(nL2, .blk Bi [Ab false,Ab false,Ab false,Ab true,Ab false])]⟩)
 (Br (decide (t4=(6:Int)))
 (K .ret ⟨[(2, .ptr nL2 0),(3,Ab true)],[(nL2, .blk Bi [Ab false,Ab false,Ab false,Ab false,Ab true])]⟩)
 (Br (decide (t4=(7:Int)))
 (K .ret ⟨[(2, .ptr nL2 0),(3,Ab true)],[(nL2, .blk Bi [Ab true,Ab true,Ab false,Ab false,Ab false])]⟩)
 (Br (decide (t4=(8:Int)))
 (K .ret ⟨[(2, .ptr nL2 0),(3,Ab true)],[(nL2, .blk Bi [Ab false,Ab false,Ab true,Ab false,Ab true])]⟩)
 (K .normal ⟨[(2, .ptr nL2 0)],[(nL2, .blk Bi [Ab u0,Ab u1,Ab u2,Ab u3,Ab u4])]⟩))))))):Xf t4 t12 u0 u1 u2 u3 u4 K:=A9 (Aw E0 Fp) (Bd Fp) 3 8 (Af 8 ac_value_has) [2] _ K rfl (kr (by kernel_rfl) h)
theorem Apw(u0 u1:Bool)(u2 u3 u4:Bool)(K:KK)(h:
 (K .ret ⟨[(2, .ptr nL2 0),(3,Ab false)],[(nL2, .blk Bi [Ab false,Ab false,Ab false,Ab false,Ab false])]⟩)):Ajk u0 u1 u2 u3 u4 K:=A9 (Aw E0 Fp) (Bd Fp) 3 18 (Af 18 ac_value_has) [] _ K rfl (kr (by kernel_rfl) h)
theorem Ara(Q:QQ)(t3 u0:Bool)(u1 u2:Bool)(u3 u4:Bool)(h:
 (Q (.tup [.imm (.agg [.bool u0, .bool u1, .bool u2, .bool u3, .bool u4]),Ab t3]) [])):Adt Q .ret ⟨[(2, .ptr nL2 0),(3,Ab t3)],[(nL2, .blk Bi [Ab u0,Ab u1,Ab u2,Ab u3,Ab u4])]⟩:=kr (by kernel_rfl) h
theorem J6(Q:QQ)(t3 u0:Bool)(u1 u2:Bool)(u3 u4:Bool)(h:
 (Q (.tup [.imm (.agg [.bool u0, .bool u1, .bool u2, .bool u3, .bool u4]),Ab t3]) [])):Nw Q .ret ⟨[(2, .ptr nL2 0),(3,Ab t3)],[(nL2, .blk Bi [Ab u0,Ab u1,Ab u2,Ab u3,Ab u4])]⟩:=kr (by kernel_rfl) h
theorem Asg(Q:QQ)(u0 u1:Bool)(u2 u3 u4:Bool)(h:
 (Ajk u0 u1 u2 u3 u4 (Adt Q))):Nw Q .normal ⟨[(2, .ptr nL2 0)],[(nL2, .blk Bi [Ab u0,Ab u1,Ab u2,Ab u3,Ab u4])]⟩:=kr (by kernel_rfl) h
theorem Nc(K:KK)(t3 u0:Bool)(u1 u2:Bool)(u3 u4:Bool)(h:
 (K .ret ⟨[(2, .ptr nL2 0),(3,Ab t3)],[(nL2, .blk Bi [Ab u0,Ab u1,Ab u2,Ab u3,Ab u4])]⟩)):Rx K .ret ⟨[(2, .ptr nL2 0),(3,Ab t3)],[(nL2, .blk Bi [Ab u0,Ab u1,Ab u2,Ab u3,Ab u4])]⟩:=kr (by kernel_rfl) h
theorem Ash(K:KK)(u0 u1:Bool)(u2 u3 u4:Bool)(h:
 (K .normal ⟨[(2, .ptr nL2 0)],[(nL2, .blk Bi [Ab u0,Ab u1,Ab u2,Ab u3,Ab u4])]⟩)):Rx K .normal ⟨[(2, .ptr nL2 0)],[(nL2, .blk Bi [Ab u0,Ab u1,Ab u2,Ab u3,Ab u4])]⟩:=kr (by kernel_rfl) h
theorem Azi:Ca E0.P 20 ac_value_has.code Fp [.cell 2 56, .tmp 3]:=Bl _ _ Tryz.f20 [(5,[2,4,8],[2]),(8,[2,4,12],[2]),(18,[2],[])] [2,3] _ 29 Tryz.func20 (by kernel_rfl) (by kernel_rfl) (by kernel_rfl) (by kernel_rfl)
theorem Au5(a0:Int)(Q:QQ)(h:
 (Br (decide (a0=(0:Int)))
 (Q (.tup [.imm (.agg [.bool false, .bool false, .bool false, .bool false, .bool false]),Ab true]) [])
 (Br (decide (a0=(1:Int)))
 (Xg a0 (decide (a0=(1:Int))) false false false false false (Nw Q))
 (Xg a0 (decide (a0=(2:Int))) false false false false false (Nw Q))))):Call E0.P Yz [Ai a0] [] Q:=Be (Aw E0 Fp) (Bd Fp) 3 0 20 ac_value_has [.cell 2 56, .tmp 3] Azi _ _ Q rfl rfl (kr (by kernel_rfl) h)
noncomputable def ac_value_plainPairs:AC:=(Bf [(6,[4,14,15,16],[]),(8,[4],[]),(14,[4],[])] [2] (codeOf Tryz.f21) 0).1
abbrev D5:Nat:=35
def Jb(t14_2 t14_3:Nat)(t15 t16:Int)(u0 u1:LL)(K:KK):Prop:=Bu 6 E0.P D5 (A8 6 ac_value_plainPairs).code ⟨[(4, .own nL4),(14, .win (Nm.sub 9 nL0) 7 t14_2 t14_3),(15,Ai t15),(16,Ai t16)],[(nL4, .arr (Ap+2) true 7 u0),((Nm.sub 9 nL0), .arr 1 true 7 u1)]⟩ K
def Yh(u0:LL)(K:KK):Prop:=Av 14 E0.P D5 (Af 14 ac_value_plainPairs).code ⟨[(4, .own nL4)],[(nL4, .arr (Ap+2) true 7 u0)]⟩ K
def Q5(Q:QQ):KK:=kE fun st=>finish 0 E0.T [.tmp 2] [] Q st
def Rn(Q:QQ):KK:=kF 0 (fun st=>Av 14 E0.P D5 (Af 14 ac_value_plainPairs).code (mask [4] st) (Q5 Q)) fun st=>finish 0 E0.T [.tmp 2] [] Q st
theorem Vj(t14_2 t14_3:Nat)(t15 t16:Int)(u0 u1:LL)(K:KK)(h:
 (Br (decide (t16<t15))
 (Ak ((0:Int)≤t16∧t16<(↑t14_3:Int))
 (Ak (addN t14_2 t16.toNat<u1.length∧
 Ck
 [.str, .int .i64, .int .i64, .int .i64, .str, .sl 6 Ac,
 .sl 7 Ap]
 (List.take 7 (List.drop 0 (u1.getD (addN t14_2 t16.toNat) [])))=
 true)
 (Call E0.P Ht [.imm (.agg [.int .i64 (gI (List.take 7 (List.drop 0 (u1.getD (addN t14_2 t16.toNat) []))) 1), .int .i64 (gI (List.take 7 (List.drop 0 (u1.getD (addN t14_2 t16.toNat) []))) 2), .int .i64 (gI (List.take 7 (List.drop 0 (u1.getD (addN t14_2 t16.toNat) []))) 3), .str (gS (List.take 7 (List.drop 0 (u1.getD (addN t14_2 t16.toNat) []))) 4), .sl .any 6 (gR (List.take 7 (List.drop 0 (u1.getD (addN t14_2 t16.toNat) []))) 5), .sl .any 7 (gR (List.take 7 (List.drop 0 (u1.getD (addN t14_2 t16.toNat) []))) 6)])] [] fun r0 g0=>
 Ak (qV3 g0 r0)
 (Br (!decide (gI (Ae r0) 0=(0:Int)))
 (Ak ((u0.length+1)*104≤140737488355328∧u0.length+1≤140737488355328)
 (Jb t14_2 t14_3 t15 (IntKind.i64.wrap (t16+(1:Int))) (u0++
 [[IV.str (gS (List.take 7 (List.drop 0 (u1.getD (addN t14_2 t16.toNat) []))) 0),
 .int .i64 (gI (Ae r0) 0), .int .i64 (gI (Ae r0) 1),
 .int .i64 (gI (Ae r0) 2), .str (gS (Ae r0) 3),
 .sl SK.any 6 (gR (Ae r0) 4), .sl SK.any 7 (gR (Ae r0) 5)]]) u1 K))
 (Jb t14_2 t14_3 t15 (IntKind.i64.wrap (t16+(1:Int))) u0 u1 K)))))
 (K (.exit 0) ⟨[(4, .own nL4)],[(nL4, .arr (Ap+2) true 7 u0)]⟩))):Jb t14_2 t14_3 t15 t16 u0 u1 K:=Bo (Aw E0 D5) (Bd D5) 3 6 (A8 6 ac_value_plainPairs) [4,14,15,16] _ K rfl (kr (by kernel_rfl) h)
theorem Agg(u0:LL)(K:KK)(h:
 (K .ret ⟨[(2, .own nL4)],[(nL4, .arr (Ap+2) true 7 u0)]⟩)):Yh u0 K:=A9 (Aw E0 D5) (Bd D5) 3 14 (Af 14 ac_value_plainPairs) [] _ K rfl (kr (by kernel_rfl) h)
theorem Aha(Q:QQ)(u0:LL)(h:
 (Q (Al 7 u0) [])):Q5 Q .ret ⟨[(2, .own nL4)],[(nL4, .arr (Ap+2) true 7 u0)]⟩:=kr (by kernel_rfl) h
theorem Ag2(Q:QQ)(u0:LL)(h:
 (Yh u0 (Q5 Q))):Rn Q (.exit 0) ⟨[(4, .own nL4)],[(nL4, .arr (Ap+2) true 7 u0)]⟩:=kr (by kernel_rfl) h
theorem Al0:Ca E0.P 21 ac_value_plainPairs.code D5 [.tmp 2]:=Bl _ _ Tryz.f21 [(6,[4,14,15,16],[]),(8,[4],[]),(14,[4],[])] [2] _ 35 Tryz.func21 (by kernel_rfl) (by kernel_rfl) (by kernel_rfl) (by kernel_rfl)
theorem Ajg(a0:LL)(Q:QQ)(h:
 (Call E0.P Rh [Al 7 a0] [] fun r0 g0=>
 Ak (g0=[]++[(Nm.loc 0,Entry.arr 0 true 7 (Da g0 nL0))]∧
 r0=AV.own nL0)
 (Call E0.P Jq [.own Ad, .fn Ah []] [(Ad, .arr 1 true 7 (Da g0 nL0))] fun r1 g1=>
 Ak (qV2 g1 r1)
 (Call E0.P Lf [.own Ad, .fn Cc []] [(Ad, .arr 1 true 7 (Da g1 Ad))] fun r2 g2=>
 Ak (g2=[(Nm.arg 0,Entry.arr 1 true 7 (Da g2 Ad))]∧
 r2=AV.win Ad 7 (rWo r2) (rWl r2))
 (Jb (rWo r2) (rWl r2) ((↑(rWl r2):Int)) ((0:Int)) [] (Da g2 Ad) (Rn Q)))))):Call E0.P Sq [Al 7 a0] [] Q:=Be (Aw E0 D5) (Bd D5) 3 0 21 ac_value_plainPairs [.tmp 2] Al0 _ _ Q rfl rfl (kr (by kernel_rfl) h)
noncomputable def ac_value_Plain:AC:=(Bf [(7,[1,2,3,5],[]),(9,[1,2,3,5],[]),(11,[1,2,3,5],[]),(14,[1,2,3,5,38,39,40],[]),(16,[1,2,3,5],[]),(20,[1,2,3,5],[])] [2] (codeOf Tryz.f11) 0).1
abbrev Ct:Nat:=59
def Td(u0 u1 u2:Int)(u3:LB)(u4 u5:LL)(u6 u7 u8:Int)(u9:LB)(v0 v1:Bool)(v2 v3 v4:Bool)(v5 v6 v7:Int)(v8:LB)(v9 w0:LL)(w1 w2:LL)(K:KK):Prop:=Av 7 E0.P Ct (Af 7 ac_value_Plain).code ⟨[(1, .ptr Fv 0),(2, .ptr nL2 0),(3, .ptr nL3 0),(5, .ptr nL5 0)],[(Fv, .blk Ac [Ai u0,Ai u1,Ai u2,As u3,Al 6 u4,Al 7 u5]),(nL2, .blk Ac [Ai u6,Ai u7,Ai u8,As u9, .own (nL2.cell 4), .own (nL2.cell 5)]),(nL3, .blk Bi [Ab v0,Ab v1,Ab v2,Ab v3,Ab v4]),(nL5, .blk Ac [Ai v5,Ai v6,Ai v7,As v8, .own (nL5.cell 4), .own (nL5.cell 5)]),((nL2.cell 4), .arr (Ac+2) true 6 v9),((nL2.cell 5), .arr (Ap+2) true 7 w0),((nL5.cell 4), .arr (Ac+2) true 6 w1),((nL5.cell 5), .arr (Ap+2) true 7 w2)]⟩ K
def Tc(u0 u1 u2:Int)(u3:LB)(u4 u5:LL)(u6 u7 u8:Int)(u9:LB)(v0 v1:Bool)(v2 v3 v4:Bool)(v5 v6 v7:Int)(v8:LB)(v9 w0:LL)(w1 w2:LL)(K:KK):Prop:=Av 9 E0.P Ct (Af 9 ac_value_Plain).code ⟨[(1, .ptr Fv 0),(2, .ptr nL2 0),(3, .ptr nL3 0),(5, .ptr nL5 0)],[(Fv, .blk Ac [Ai u0,Ai u1,Ai u2,As u3,Al 6 u4,Al 7 u5]),(nL2, .blk Ac [Ai u6,Ai u7,Ai u8,As u9, .own (nL2.cell 4), .own (nL2.cell 5)]),(nL3, .blk Bi [Ab v0,Ab v1,Ab v2,Ab v3,Ab v4]),(nL5, .blk Ac [Ai v5,Ai v6,Ai v7,As v8, .own (nL5.cell 4), .own (nL5.cell 5)]),((nL2.cell 4), .arr (Ac+2) true 6 v9),((nL2.cell 5), .arr (Ap+2) true 7 w0),((nL5.cell 4), .arr (Ac+2) true 6 w1),((nL5.cell 5), .arr (Ap+2) true 7 w2)]⟩ K
def Ra(u0 u1 u2:Int)(u3:LB)(u4 u5:LL)(u6 u7 u8:Int)(u9:LB)(v0 v1:Bool)(v2 v3 v4:Bool)(v5 v6 v7:Int)(v8:LB)(v9 w0:LL)(w1 w2:LL)(K:KK):Prop:=Av 11 E0.P Ct (Af 11 ac_value_Plain).code ⟨[(1, .ptr Fv 0),(2, .ptr nL2 0),(3, .ptr nL3 0),(5, .ptr nL5 0)],[(Fv, .blk Ac [Ai u0,Ai u1,Ai u2,As u3,Al 6 u4,Al 7 u5]),(nL2, .blk Ac [Ai u6,Ai u7,Ai u8,As u9, .own (nL2.cell 4), .own (nL2.cell 5)]),(nL3, .blk Bi [Ab v0,Ab v1,Ab v2,Ab v3,Ab v4]),(nL5, .blk Ac [Ai v5,Ai v6,Ai v7,As v8, .own (nL5.cell 4), .own (nL5.cell 5)]),((nL2.cell 4), .arr (Ac+2) true 6 v9),((nL2.cell 5), .arr (Ap+2) true 7 w0),((nL5.cell 4), .arr (Ac+2) true 6 w1),((nL5.cell 5), .arr (Ap+2) true 7 w2)]⟩ K
def Q0(t38r:LL)(t39 t40:Int)(u0 u1 u2:Int)(u3:LB)(u4 u5:LL)(u6 u7 u8:Int)(u9:LB)(v0 v1:Bool)(v2 v3 v4:Bool)(v5 v6 v7:Int)(v8:LB)(v9 w0:LL)(w1 w2:LL)(K:KK):Prop:=Bu 14 E0.P Ct (A8 14 ac_value_Plain).code ⟨[(1, .ptr Fv 0),(2, .ptr nL2 0),(3, .ptr nL3 0),(5, .ptr nL5 0),(38,Al 6 t38r),(39,Ai t39),(40,Ai t40)],[(Fv, .blk Ac [Ai u0,Ai u1,Ai u2,As u3,Al 6 u4,Al 7 u5]),(nL2, .blk Ac [Ai u6,Ai u7,Ai u8,As u9, .own (nL2.cell 4), .own (nL2.cell 5)]),(nL3, .blk Bi [Ab v0,Ab v1,Ab v2,Ab v3,Ab v4]),(nL5, .blk Ac [Ai v5,Ai v6,Ai v7,As v8, .own (nL5.cell 4), .own (nL5.cell 5)]),((nL2.cell 4), .arr (Ac+2) true 6 v9),((nL2.cell 5), .arr (Ap+2) true 7 w0),((nL5.cell 4), .arr (Ac+2) true 6 w1),((nL5.cell 5), .arr (Ap+2) true 7 w2)]⟩ K
def Rp(u0 u1 u2:Int)(u3:LB)(u4 u5:LL)(u6 u7 u8:Int)(u9:LB)(v0 v1:Bool)(v2 v3 v4:Bool)(v5 v6 v7:Int)(v8:LB)(v9 w0:LL)(w1 w2:LL)(K:KK):Prop:=Av 20 E0.P Ct (Af 20 ac_value_Plain).code ⟨[(1, .ptr Fv 0),(2, .ptr nL2 0),(3, .ptr nL3 0),(5, .ptr nL5 0)],[(Fv, .blk Ac [Ai u0,Ai u1,Ai u2,As u3,Al 6 u4,Al 7 u5]),(nL2, .blk Ac [Ai u6,Ai u7,Ai u8,As u9, .own (nL2.cell 4), .own (nL2.cell 5)]),(nL3, .blk Bi [Ab v0,Ab v1,Ab v2,Ab v3,Ab v4]),(nL5, .blk Ac [Ai v5,Ai v6,Ai v7,As v8, .own (nL5.cell 4), .own (nL5.cell 5)]),((nL2.cell 4), .arr (Ac+2) true 6 v9),((nL2.cell 5), .arr (Ap+2) true 7 w0),((nL5.cell 4), .arr (Ac+2) true 6 w1),((nL5.cell 5), .arr (Ap+2) true 7 w2)]⟩ K
def Ol(Q:QQ):KK:=kE fun st=>finish 0 E0.T [.cell 2 25] [] Q st
def Fw(K:KK):KK:=kP [] K
def Zj(K:KK):KK:=kC 0 (fun st=>Av 20 E0.P Ct (Af 20 ac_value_Plain).code (mask [1,2,3,5] st) (Fw K)) K
theorem An3(u0 u1 u2:Int)(u3:LB)(u4 u5:LL)(u6 u7 u8:Int)(u9:LB)(v0 v1:Bool)(v2 v3 v4:Bool)(v5 v6 v7:Int)(v8:LB)(v9 w0:LL)(w1 w2:LL)(K:KK)(h:
 (Br (v1)
 (Tc u0 u1 u2 u3 u4 u5 u6 u7 u8 u9 v0 v1 v2 v3 v4 v5 v6 u2 v8 v9 w0 w1 w2 (Fw K))
 (Tc u0 u1 u2 u3 u4 u5 u6 u7 u8 u9 v0 v1 v2 v3 v4 v5 v6 v7 v8 v9 w0 w1 w2 (Fw K)))):Td u0 u1 u2 u3 u4 u5 u6 u7 u8 u9 v0 v1 v2 v3 v4 v5 v6 v7 v8 v9 w0 w1 w2 K:=A9 (Aw E0 Ct) (Bd Ct) 3 7 (Af 7 ac_value_Plain) [] _ K rfl (kr (by kernel_rfl) h)
theorem An8(u0 u1 u2:Int)(u3:LB)(u4 u5:LL)(u6 u7 u8:Int)(u9:LB)(v0 v1:Bool)(v2 v3 v4:Bool)(v5 v6 v7:Int)(v8:LB)(v9 w0:LL)(w1 w2:LL)(K:KK)(h:
 (Br (v2)
 (Ra u0 u1 u2 u3 u4 u5 u6 u7 u8 u9 v0 v1 v2 v3 v4 v5 v6 v7 u3 v9 w0 w1 w2 (Fw K))
 (Ra u0 u1 u2 u3 u4 u5 u6 u7 u8 u9 v0 v1 v2 v3 v4 v5 v6 v7 v8 v9 w0 w1 w2 (Fw K)))):Tc u0 u1 u2 u3 u4 u5 u6 u7 u8 u9 v0 v1 v2 v3 v4 v5 v6 v7 v8 v9 w0 w1 w2 K:=A9 (Aw E0 Ct) (Bd Ct) 3 9 (Af 9 ac_value_Plain) [] _ K rfl (kr (by kernel_rfl) h)
theorem Alx(u0 u1 u2:Int)(u3:LB)(u4 u5:LL)(u6 u7 u8:Int)(u9:LB)(v0 v1:Bool)(v2 v3 v4:Bool)(v5 v6 v7:Int)(v8:LB)(v9 w0:LL)(w1 w2:LL)(K:KK)(h:
 (Br (v3)
 (Q0 u4 ((↑u4.length:Int)) ((0:Int)) u0 u1 u2 u3 u4 u5 u6 u7 u8 u9 v0 v1 v2 v3 v4 v5 v6 v7 v8 v9 w0 w1 w2 (Zj K))
 (Rp u0 u1 u2 u3 u4 u5 u6 u7 u8 u9 v0 v1 v2 v3 v4 v5 v6 v7 v8 v9 w0 w1 w2 (Fw K)))):Ra u0 u1 u2 u3 u4 u5 u6 u7 u8 u9 v0 v1 v2 v3 v4 v5 v6 v7 v8 v9 w0 w1 w2 K:=A9 (Aw E0 Ct) (Bd Ct) 3 11 (Af 11 ac_value_Plain) [] _ K rfl (kr (by kernel_rfl) h)
theorem Aao(t38r:LL)(t39 t40:Int)(u0 u1 u2:Int)(u3:LB)(u4 u5:LL)(u6 u7 u8:Int)(u9:LB)(v0 v1:Bool)(v2 v3 v4:Bool)(v5 v6 v7:Int)(v8:LB)(v9 w0:LL)(w1 w2:LL)(K:KK)(h:
 (Br (decide (t40<t39))
 (Ak (((0:Int)≤t40∧t40<(↑t38r.length:Int))∧
 Ck
 [.int .i64, .int .i64, .int .i64, .str, .sl 6 Ac,
 .sl 7 Ap]
 (t38r.getD t40.toNat [])=
 true)
 (Call E0.P Ht [.imm (.agg [.int .i64 (gI (t38r.getD t40.toNat []) 0), .int .i64 (gI (t38r.getD t40.toNat []) 1), .int .i64 (gI (t38r.getD t40.toNat []) 2), .str (gS (t38r.getD t40.toNat []) 3), .sl .any 6 (gR (t38r.getD t40.toNat []) 4), .sl .any 7 (gR (t38r.getD t40.toNat []) 5)])] [] fun r0 g0=>
 Ak (qV3 g0 r0)
 (Ak ((w1.length+1)*88≤140737488355328∧w1.length+1≤140737488355328)
 (Q0 t38r t39 (IntKind.i64.wrap (t40+(1:Int))) u0 u1 u2 u3 u4 u5 u6 u7 u8 u9 v0 v1 v2 v3 v4 v5 v6 v7 v8 v9 w0 (w1++
 [[IV.int .i64 (gI (Ae r0) 0), .int .i64 (gI (Ae r0) 1),
 .int .i64 (gI (Ae r0) 2), .str (gS (Ae r0) 3),
 .sl SK.any 6 (gR (Ae r0) 4), .sl SK.any 7 (gR (Ae r0) 5)]]) w2 K))))
 (K (.exit 0) ⟨[(1, .ptr Fv 0),(2, .ptr nL2 0),(3, .ptr nL3 0),(5, .ptr nL5 0)],[(Fv, .blk Ac [Ai u0,Ai u1,Ai u2,As u3,Al 6 u4,Al 7 u5]),(nL2, .blk Ac [Ai u6,Ai u7,Ai u8,As u9, .own (nL2.cell 4), .own (nL2.cell 5)]),(nL3, .blk Bi [Ab v0,Ab v1,Ab v2,Ab v3,Ab v4]),(nL5, .blk Ac [Ai v5,Ai v6,Ai v7,As v8, .own (nL5.cell 4), .own (nL5.cell 5)]),((nL2.cell 4), .arr (Ac+2) true 6 v9),((nL2.cell 5), .arr (Ap+2) true 7 w0),((nL5.cell 4), .arr (Ac+2) true 6 w1),((nL5.cell 5), .arr (Ap+2) true 7 w2)]⟩))):Q0 t38r t39 t40 u0 u1 u2 u3 u4 u5 u6 u7 u8 u9 v0 v1 v2 v3 v4 v5 v6 v7 v8 v9 w0 w1 w2 K:=Bo (Aw E0 Ct) (Bd Ct) 3 14 (A8 14 ac_value_Plain) [1,2,3,5,38,39,40] _ K rfl (kr (by kernel_rfl) h)
theorem Al4(u0 u1 u2:Int)(u3:LB)(u4 u5:LL)(u6 u7 u8:Int)(u9:LB)(v0 v1:Bool)(v2 v3 v4:Bool)(v5 v6 v7:Int)(v8:LB)(v9 w0:LL)(w1 w2:LL)(K:KK)(h:
 (Br (v4)
 (Call E0.P Sq [Al 7 u5] [] fun r0 g0=>
 Ak (g0=[]∧r0= .imm (.sl SK.any 7 (rR r0)))
 (K .ret ⟨[(2, .ptr nL2 0)],[(nL2, .blk Ac [Ai v5,Ai v6,Ai v7,As v8, .own (nL5.cell 4),Al 7 (rR r0)]),((nL5.cell 4), .arr (Ac+2) true 6 w1)]⟩))
 (K .ret ⟨[(2, .ptr nL2 0)],[(nL2, .blk Ac [Ai v5,Ai v6,Ai v7,As v8, .own (nL5.cell 4), .own (nL5.cell 5)]),((nL5.cell 4), .arr (Ac+2) true 6 w1),((nL5.cell 5), .arr (Ap+2) true 7 w2)]⟩))):Rp u0 u1 u2 u3 u4 u5 u6 u7 u8 u9 v0 v1 v2 v3 v4 v5 v6 v7 v8 v9 w0 w1 w2 K:=A9 (Aw E0 Ct) (Bd Ct) 3 20 (Af 20 ac_value_Plain) [] _ K rfl (kr (by kernel_rfl) h)
theorem An4(Q:QQ)(u0 u1 u2:Int)(u3:LB)(u4 u5:LL)(h:
 (Q (.imm (.agg [.int .i64 u0, .int .i64 u1, .int .i64 u2, .str u3, .sl .any 6 u5, .sl .any 7 u4])) [])):Ol Q .ret ⟨[(2, .ptr nL2 0)],[(nL2, .blk Ac [Ai u0,Ai u1,Ai u2,As u3, .own (nL5.cell 4),Al 7 u4]),((nL5.cell 4), .arr (Ac+2) true 6 u5)]⟩:=kr (by kernel_rfl) h
theorem Anp(Q:QQ)(u0 u1 u2:Int)(u3:LB)(u4 u5:LL)(h:
 (Q (.imm (.agg [.int .i64 u0, .int .i64 u1, .int .i64 u2, .str u3, .sl .any 6 u4, .sl .any 7 u5])) [])):Ol Q .ret ⟨[(2, .ptr nL2 0)],[(nL2, .blk Ac [Ai u0,Ai u1,Ai u2,As u3, .own (nL5.cell 4), .own (nL5.cell 5)]),((nL5.cell 4), .arr (Ac+2) true 6 u4),((nL5.cell 5), .arr (Ap+2) true 7 u5)]⟩:=kr (by kernel_rfl) h
theorem Aol(K:KK)(u0 u1 u2:Int)(u3:LB)(u4 u5:LL)(h:
 (K .ret ⟨[(2, .ptr nL2 0)],[(nL2, .blk Ac [Ai u0,Ai u1,Ai u2,As u3, .own (nL5.cell 4),Al 7 u4]),((nL5.cell 4), .arr (Ac+2) true 6 u5)]⟩)):Fw K .ret ⟨[(2, .ptr nL2 0)],[(nL2, .blk Ac [Ai u0,Ai u1,Ai u2,As u3, .own (nL5.cell 4),Al 7 u4]),((nL5.cell 4), .arr (Ac+2) true 6 u5)]⟩:=kr (by kernel_rfl) h
theorem Aml(K:KK)(u0 u1 u2:Int)(u3:LB)(u4 u5:LL)(h:
 (K .ret ⟨[(2, .ptr nL2 0)],[(nL2, .blk Ac [Ai u0,Ai u1,Ai u2,As u3, .own (nL5.cell 4), .own (nL5.cell 5)]),((nL5.cell 4), .arr (Ac+2) true 6 u4),((nL5.cell 5), .arr (Ap+2) true 7 u5)]⟩)):Fw K .ret ⟨[(2, .ptr nL2 0)],[(nL2, .blk Ac [Ai u0,Ai u1,Ai u2,As u3, .own (nL5.cell 4), .own (nL5.cell 5)]),((nL5.cell 4), .arr (Ac+2) true 6 u4),((nL5.cell 5), .arr (Ap+2) true 7 u5)]⟩:=kr (by kernel_rfl) h
theorem Aoa(K:KK)(u0 u1 u2:Int)(u3:LB)(u4 u5:LL)(u6 u7 u8:Int)(u9:LB)(v0 v1:Bool)(v2 v3 v4:Bool)(v5 v6 v7:Int)(v8:LB)(v9 w0:LL)(w1 w2:LL)(h:
 (Rp u0 u1 u2 u3 u4 u5 u6 u7 u8 u9 v0 v1 v2 v3 v4 v5 v6 v7 v8 v9 w0 w1 w2 (Fw K))):Zj K (.exit 0) ⟨[(1, .ptr Fv 0),(2, .ptr nL2 0),(3, .ptr nL3 0),(5, .ptr nL5 0)],[(Fv, .blk Ac [Ai u0,Ai u1,Ai u2,As u3,Al 6 u4,Al 7 u5]),(nL2, .blk Ac [Ai u6,Ai u7,Ai u8,As u9, .own (nL2.cell 4), .own (nL2.cell 5)]),(nL3, .blk Bi [Ab v0,Ab v1,Ab v2,Ab v3,Ab v4]),(nL5, .blk Ac [Ai v5,Ai v6,Ai v7,As v8, .own (nL5.cell 4), .own (nL5.cell 5)]),((nL2.cell 4), .arr (Ac+2) true 6 v9),((nL2.cell 5), .arr (Ap+2) true 7 w0),((nL5.cell 4), .arr (Ac+2) true 6 w1),((nL5.cell 5), .arr (Ap+2) true 7 w2)]⟩:=kr (by kernel_rfl) h
theorem Avp:Ca E0.P 11 ac_value_Plain.code Ct [.cell 2 25]:=Bl _ _ Tryz.f11 [(7,[1,2,3,5],[]),(9,[1,2,3,5],[]),(11,[1,2,3,5],[]),(14,[1,2,3,5,38,39,40],[]),(16,[1,2,3,5],[]),(20,[1,2,3,5],[])] [2] _ 59 Tryz.func11 (by kernel_rfl) (by kernel_rfl) (by kernel_rfl) (by kernel_rfl)
theorem Asi(a0_0 a0_1 a0_2:Int)(a0_3:LB)(a0_4 a0_5:LL)(Q:QQ)(h:
 (Call E0.P Yz [Ai a0_0] [] fun r0 g0=>
 Ak (g0=[]∧
 r0=
 .tup
 [.imm
 (IV.agg
 [.bool (gB (Ae (rT r0 0)) 0), .bool (gB (Ae (rT r0 0)) 1),
 .bool (gB (Ae (rT r0 0)) 2), .bool (gB (Ae (rT r0 0)) 3),
 .bool (gB (Ae (rT r0 0)) 4)]),
 .imm (.bool (rB (rT r0 1)))])
 (Br (!rB (rT r0 1))
 (Q (.imm (.agg [.int .i64 0, .int .i64 0, .int .i64 0, .str [], .sl .any 6 [], .sl .any 7 []])) [])
 (Br (gB (Ae (rT r0 0)) 0)
 (Td a0_0 a0_1 a0_2 a0_3 a0_4 a0_5 ((0:Int)) ((0:Int)) ((0:Int)) [] (gB (Ae (rT r0 0)) 0) (gB (Ae (rT r0 0)) 1) (gB (Ae (rT r0 0)) 2) (gB (Ae (rT r0 0)) 3) (gB (Ae (rT r0 0)) 4) a0_0 a0_1 ((0:Int)) [] [] [] [] [] (Ol Q))
 (Td a0_0 a0_1 a0_2 a0_3 a0_4 a0_5 ((0:Int)) ((0:Int)) ((0:Int)) [] (gB (Ae (rT r0 0)) 0) (gB (Ae (rT r0 0)) 1) (gB (Ae (rT r0 0)) 2) (gB (Ae (rT r0 0)) 3) (gB (Ae (rT r0 0)) 4) a0_0 ((0:Int)) ((0:Int)) [] [] [] [] [] (Ol Q)))))):Call E0.P Ht [.imm (.agg [.int .i64 a0_0, .int .i64 a0_1, .int .i64 a0_2, .str a0_3, .sl .any 6 a0_4, .sl .any 7 a0_5])] [] Q:=Be (Aw E0 Ct) (Bd Ct) 3 0 11 ac_value_Plain [.cell 2 25] Avp _ _ Q rfl rfl (kr (by kernel_rfl) h)
noncomputable def ac_r16_Equal:AC:=(Bf [(5,[2,3,5],[]),(7,[2,3],[]),(12,[2,3],[]),(14,[2,3,6],[]),(16,[],[]),(20,[2,3,6],[2,3,6]),(21,[],[])] [4] (codeOf Tryz.f10) 0).1
abbrev C8:Nat:=106
def Xj(t5 u0:Int)(u1 u2:Int)(u3:LB)(u4 u5:LL)(u6 u7 u8:Int)(u9:LB)(v0 v1:LL)(K:KK):Prop:=Bu 5 E0.P C8 (A8 5 ac_r16_Equal).code ⟨[(2, .ptr nL2 0),(3, .ptr nL3 0),(5,Ai t5)],[(nL2, .blk Ac [Ai u0,Ai u1,Ai u2,As u3,Al 6 u4,Al 7 u5]),(nL3, .blk Ac [Ai u6,Ai u7,Ai u8,As u9,Al 6 v0,Al 7 v1])]⟩ K
def Aji(u0 u1 u2:Int)(u3:LB)(u4 u5:LL)(u6 u7 u8:Int)(u9:LB)(v0 v1:LL)(K:KK):Prop:=Av 12 E0.P C8 (Af 12 ac_r16_Equal).code ⟨[(2, .ptr nL2 0),(3, .ptr nL3 0)],[(nL2, .blk Ac [Ai u0,Ai u1,Ai u2,As u3,Al 6 u4,Al 7 u5]),(nL3, .blk Ac [Ai u6,Ai u7,Ai u8,As u9,Al 6 v0,Al 7 v1])]⟩ K
def Un(t6 u0:Int)(u1 u2:Int)(u3:LB)(u4 u5:LL)(u6 u7 u8:Int)(u9:LB)(v0 v1:LL)(K:KK):Prop:=Bu 14 E0.P C8 (A8 14 ac_r16_Equal).code ⟨[(2, .ptr nL2 0),(3, .ptr nL3 0),(6,Ai t6)],[(nL2, .blk Ac [Ai u0,Ai u1,Ai u2,As u3,Al 6 u4,Al 7 u5]),(nL3, .blk Ac [Ai u6,Ai u7,Ai u8,As u9,Al 6 v0,Al 7 v1])]⟩ K
def U5(t6 u0:Int)(u1 u2:Int)(u3:LB)(u4 u5:LL)(u6 u7 u8:Int)(u9:LB)(v0 v1:LL)(K:KK):Prop:=Av 20 E0.P C8 (Af 20 ac_r16_Equal).code ⟨[(2, .ptr nL2 0),(3, .ptr nL3 0),(6,Ai t6)],[(nL2, .blk Ac [Ai u0,Ai u1,Ai u2,As u3,Al 6 u4,Al 7 u5]),(nL3, .blk Ac [Ai u6,Ai u7,Ai u8,As u9,Al 6 v0,Al 7 v1])]⟩ K
def Ai3(K:KK):Prop:=Av 21 E0.P C8 (Af 21 ac_r16_Equal).code ⟨[],[]⟩ K
def Adg(Q:QQ):KK:=kE fun st=>finish 0 E0.T [.tmp 4] [] Q st
def Ac8(Q:QQ):KK:=kF 0 (fun st=>Av 12 E0.P C8 (Af 12 ac_r16_Equal).code (mask [2,3] st) (Adg Q)) fun st=>finish 0 E0.T [.tmp 4] [] Q st
def Ac1(K:KK):KK:=kP [] K
def Ac3(K:KK):KK:=kC 2 (fun st=>Av 21 E0.P C8 (Af 21 ac_r16_Equal).code (mask [] st) (Ac1 K)) K
def Xh(K:KK):Ex→St→Prop
 | .normal,st=>Bu 14 E0.P C8 (A8 14 ac_r16_Equal).code (mask [2,3,6] st) K
 | .exit i,st=>K (.exit i) st
 | .goto i,st=>K (.goto i) st
 | .ret,st=>K .ret st
theorem Agt(t5 u0:Int)(u1 u2:Int)(u3:LB)(u4 u5:LL)(u6 u7 u8:Int)(u9:LB)(v0 v1:LL)(K:KK)(h:
 (Br (decide (t5<(↑u4.length:Int)))
 (Ak (((0:Int)≤t5∧t5<(↑u4.length:Int))∧
 Ck
 [.int .i64, .int .i64, .int .i64, .str, .sl 6 Ac,
 .sl 7 Ap]
 (u4.getD t5.toNat [])=
 true)
 (Ak (((0:Int)≤t5∧t5<(↑v0.length:Int))∧
 Ck
 [.int .i64, .int .i64, .int .i64, .str, .sl 6 Ac,
 .sl 7 Ap]
 (v0.getD t5.toNat [])=
 true)
 (Call E0.P He [.imm (.agg [.int .i64 (gI (u4.getD t5.toNat []) 0), .int .i64 (gI (u4.getD t5.toNat []) 1), .int .i64 (gI (u4.getD t5.toNat []) 2), .str (gS (u4.getD t5.toNat []) 3), .sl .any 6 (gR (u4.getD t5.toNat []) 4), .sl .any 7 (gR (u4.getD t5.toNat []) 5)]), .imm (.agg [.int .i64 (gI (v0.getD t5.toNat []) 0), .int .i64 (gI (v0.getD t5.toNat []) 1), .int .i64 (gI (v0.getD t5.toNat []) 2), .str (gS (v0.getD t5.toNat []) 3), .sl .any 6 (gR (v0.getD t5.toNat []) 4), .sl .any 7 (gR (v0.getD t5.toNat []) 5)])] [] fun r0 g0=>
 Ak (qV0 g0 r0)
 (Br (!rB r0)
 (K .ret ⟨[(4,Ab false)],[]⟩)
 (Xj (IntKind.i64.wrap (t5+(1:Int))) u0 u1 u2 u3 u4 u5 u6 u7 u8 u9 v0 v1 K)))))
 (K (.exit 0) ⟨[(2, .ptr nL2 0),(3, .ptr nL3 0)],[(nL2, .blk Ac [Ai u0,Ai u1,Ai u2,As u3,Al 6 u4,Al 7 u5]),(nL3, .blk Ac [Ai u6,Ai u7,Ai u8,As u9,Al 6 v0,Al 7 v1])]⟩))):Xj t5 u0 u1 u2 u3 u4 u5 u6 u7 u8 u9 v0 v1 K:=Bo (Aw E0 C8) (Bd C8) 3 5 (A8 5 ac_r16_Equal) [2,3,5] _ K rfl (kr (by kernel_rfl) h)
theorem Apj(u0 u1 u2:Int)(u3:LB)(u4 u5:LL)(u6 u7 u8:Int)(u9:LB)(v0 v1:LL)(K:KK)(h:
 (Un ((0:Int)) u0 u1 u2 u3 u4 u5 u6 u7 u8 u9 v0 v1 (Ac3 K))):Aji u0 u1 u2 u3 u4 u5 u6 u7 u8 u9 v0 v1 K:=A9 (Aw E0 C8) (Bd C8) 3 12 (Af 12 ac_r16_Equal) [] _ K rfl (kr (by kernel_rfl) h)
theorem Ad7(t6 u0:Int)(u1 u2:Int)(u3:LB)(u4 u5:LL)(u6 u7 u8:Int)(u9:LB)(v0 v1:LL)(K:KK)(h:
 (Br (decide (t6<(↑u5.length:Int)))
 (Ak (((0:Int)≤t6∧t6<(↑u5.length:Int))∧
 Ck
 [.str, .int .i64, .int .i64, .int .i64, .str, .sl 6 Ac,
 .sl 7 Ap]
 (u5.getD t6.toNat [])=
 true)
 (Ak (((0:Int)≤t6∧t6<(↑v1.length:Int))∧
 Ck
 [.str, .int .i64, .int .i64, .int .i64, .str, .sl 6 Ac,
 .sl 7 Ap]
 (v1.getD t6.toNat [])=
 true)
 (Ak ((!gS (u5.getD t6.toNat []) 0 == gS (v1.getD t6.toNat []) 0)=false→
 ((0:Int)≤t6∧t6<(↑u5.length:Int))∧
 Ck
 [.str, .int .i64, .int .i64, .int .i64, .str, .sl 6 Ac,
 .sl 7 Ap]
 (u5.getD t6.toNat [])=
 true)
 (Ak ((!gS (u5.getD t6.toNat []) 0 == gS (v1.getD t6.toNat []) 0)=false→
 ((0:Int)≤t6∧t6<(↑v1.length:Int))∧
 Ck
 [.str, .int .i64, .int .i64, .int .i64, .str, .sl 6 Ac,
 .sl 7 Ap]
 (v1.getD t6.toNat [])=
 true)
 (Br ((!gS (u5.getD t6.toNat []) 0 == gS (v1.getD t6.toNat []) 0) == false)
 (Call E0.P He [.imm (.agg [.int .i64 (gI (u5.getD t6.toNat []) 1), .int .i64 (gI (u5.getD t6.toNat []) 2), .int .i64 (gI (u5.getD t6.toNat []) 3), .str (gS (u5.getD t6.toNat []) 4), .sl .any 6 (gR (u5.getD t6.toNat []) 5), .sl .any 7 (gR (u5.getD t6.toNat []) 6)]), .imm (.agg [.int .i64 (gI (v1.getD t6.toNat []) 1), .int .i64 (gI (v1.getD t6.toNat []) 2), .int .i64 (gI (v1.getD t6.toNat []) 3), .str (gS (v1.getD t6.toNat []) 4), .sl .any 6 (gR (v1.getD t6.toNat []) 5), .sl .any 7 (gR (v1.getD t6.toNat []) 6)])] [] fun r0 g0=>
 Ak (qV0 g0 r0)
 (Let (!rB r0) fun x1=>
 Br (x1)
 (K .ret ⟨[(4,Ab false)],[]⟩)
 (U5 t6 u0 u1 u2 u3 u4 u5 u6 u7 u8 u9 v0 v1 (Xh K))))
 (Ak ((!false)=true)
 (Let (true) fun x2=>
 Br (x2)
 (K .ret ⟨[(4,Ab false)],[]⟩)
 (U5 t6 u0 u1 u2 u3 u4 u5 u6 u7 u8 u9 v0 v1 (Xh K)))))))))
 (K (.exit (2)) ⟨[],[]⟩))):Un t6 u0 u1 u2 u3 u4 u5 u6 u7 u8 u9 v0 v1 K:=Bo (Aw E0 C8) (Bd C8) 3 14 (A8 14 ac_r16_Equal) [2,3,6] _ K rfl (kr (by kernel_rfl) h)
theorem Aph(t6 u0:Int)(u1 u2:Int)(u3:LB)(u4 u5:LL)(u6 u7 u8:Int)(u9:LB)(v0 v1:LL)(K:KK)(h:
 (K .normal ⟨[(2, .ptr nL2 0),(3, .ptr nL3 0),(6,Ai (IntKind.i64.wrap (t6+(1:Int))))],[(nL2, .blk Ac [Ai u0,Ai u1,Ai u2,As u3,Al 6 u4,Al 7 u5]),(nL3, .blk Ac [Ai u6,Ai u7,Ai u8,As u9,Al 6 v0,Al 7 v1])]⟩)):U5 t6 u0 u1 u2 u3 u4 u5 u6 u7 u8 u9 v0 v1 K:=A9 (Aw E0 C8) (Bd C8) 3 20 (Af 20 ac_r16_Equal) [2,3,6] _ K rfl (kr (by kernel_rfl) h)
theorem Ap0(K:KK)(h:
 (K .ret ⟨[(4,Ab true)],[]⟩)):Ai3 K:=A9 (Aw E0 C8) (Bd C8) 3 21 (Af 21 ac_r16_Equal) [] _ K rfl (kr (by kernel_rfl) h)
theorem Afj(Q:QQ)(t4:Bool)(h:
 (Q (Ab t4) [])):Adg Q .ret ⟨[(4,Ab t4)],[]⟩:=kr (by kernel_rfl) h
theorem Arj(Q:QQ)(t4:Bool)(h:
 (Q (Ab t4) [])):Ac8 Q .ret ⟨[(4,Ab t4)],[]⟩:=kr (by kernel_rfl) h
theorem Ar5(Q:QQ)(u0 u1 u2:Int)(u3:LB)(u4 u5:LL)(u6 u7 u8:Int)(u9:LB)(v0 v1:LL)(h:
 (Aji u0 u1 u2 u3 u4 u5 u6 u7 u8 u9 v0 v1 (Adg Q))):Ac8 Q (.exit 0) ⟨[(2, .ptr nL2 0),(3, .ptr nL3 0)],[(nL2, .blk Ac [Ai u0,Ai u1,Ai u2,As u3,Al 6 u4,Al 7 u5]),(nL3, .blk Ac [Ai u6,Ai u7,Ai u8,As u9,Al 6 v0,Al 7 v1])]⟩:=kr (by kernel_rfl) h
theorem Aq2(K:KK)(t4:Bool)(h:
 (K .ret ⟨[(4,Ab t4)],[]⟩)):Ac1 K .ret ⟨[(4,Ab t4)],[]⟩:=kr (by kernel_rfl) h
theorem Arh(K:KK)(t4:Bool)(h:
 (K .ret ⟨[(4,Ab t4)],[]⟩)):Ac3 K .ret ⟨[(4,Ab t4)],[]⟩:=kr (by kernel_rfl) h
theorem Ar2(K:KK)(h:
 (Ai3 (Ac1 K))):Ac3 K (.exit (2)) ⟨[],[]⟩:=kr (by kernel_rfl) h
theorem Asd(K:KK)(t6 u0:Int)(u1 u2:Int)(u3:LB)(u4 u5:LL)(u6 u7 u8:Int)(u9:LB)(v0 v1:LL)(h:
 (Un t6 u0 u1 u2 u3 u4 u5 u6 u7 u8 u9 v0 v1 K)):Xh K .normal ⟨[(2, .ptr nL2 0),(3, .ptr nL3 0),(6,Ai t6)],[(nL2, .blk Ac [Ai u0,Ai u1,Ai u2,As u3,Al 6 u4,Al 7 u5]),(nL3, .blk Ac [Ai u6,Ai u7,Ai u8,As u9,Al 6 v0,Al 7 v1])]⟩:=kr (by kernel_rfl) h
theorem Azt:Ca E0.P 10 ac_r16_Equal.code C8 [.tmp 4]:=Bl _ _ Tryz.f10 [(5,[2,3,5],[]),(7,[2,3],[]),(12,[2,3],[]),(14,[2,3,6],[]),(16,[],[]),(20,[2,3,6],[2,3,6]),(21,[],[])] [4] _ 106 Tryz.func10 (by kernel_rfl) (by kernel_rfl) (by kernel_rfl) (by kernel_rfl)
theorem Av5(a0_0 a0_1 a0_2:Int)(a0_3:LB)(a0_4 a0_5:LL)(a1_0 a1_1 a1_2:Int)(a1_3:LB)(a1_4 a1_5:LL)(Q:QQ)(h:
 (Let (bif !decide (a0_0=a1_0)then true else !decide (a0_1=a1_1)) fun x0=>
 Let (bif x0 then true else !decide (a0_2=a1_2)) fun x1=>
 Let (bif x1 then true else !a0_3 == a1_3) fun x2=>
 Let (bif x2 then true else !decide ((↑a0_4.length:Int)=(↑a1_4.length:Int))) fun x3=>
 Let (bif x3 then true else !decide ((↑a0_5.length:Int)=(↑a1_5.length:Int))) fun x4=>
 Br (x4)
 (Q (Ab false) [])
 (Xj ((0:Int)) a0_0 a0_1 a0_2 a0_3 a0_4 a0_5 a1_0 a1_1 a1_2 a1_3 a1_4 a1_5 (Ac8 Q)))):Call E0.P He [.imm (.agg [.int .i64 a0_0, .int .i64 a0_1, .int .i64 a0_2, .str a0_3, .sl .any 6 a0_4, .sl .any 7 a0_5]), .imm (.agg [.int .i64 a1_0, .int .i64 a1_1, .int .i64 a1_2, .str a1_3, .sl .any 6 a1_4, .sl .any 7 a1_5])] [] Q:=Be (Aw E0 C8) (Bd C8) 3 0 10 ac_r16_Equal [.tmp 4] Azt _ _ Q rfl rfl (kr (by kernel_rfl) h)
noncomputable def ac_r16_Few:AC:=(Bf [] [4] (codeOf Tryz.f5) 0).1
abbrev Ak5:Nat:=19
theorem A2v:Ca E0.P 5 ac_r16_Few.code Ak5 [.tmp 4]:=Bl _ _ Tryz.f5 [] [4] _ 19 Tryz.func5 (by kernel_rfl) (by kernel_rfl) (by kernel_rfl) (by kernel_rfl)
theorem Azq(a0_0 a0_1 a0_2:Int)(a0_3:LB)(a0_4 a0_5:LL)(a1:Int)(Q:QQ)(h:
 (Call E0.P Ws [.imm (.agg [.int .i64 a0_0, .int .i64 a0_1, .int .i64 a0_2, .str a0_3, .sl .any 6 a0_4, .sl .any 7 a0_5]),Ai (IntKind.i64.wrap (a1+(1:Int)))] [] fun r0 g0=>
 Ak (qV1 g0 r0)
 (Br (decide (rI r0≤a1) == true)
 (Call E0.P Aae [.imm (.agg [.int .i64 a0_0, .int .i64 a0_1, .int .i64 a0_2, .str a0_3, .sl .any 6 a0_4, .sl .any 7 a0_5]),Ai 200] [] fun r1 g1=>
 Ak (qV0 g1 r1)
 (Let (rB r1) fun x2=>
 Br (x2 == true)
 (Call E0.P Qg [.imm (.agg [.int .i64 a0_0, .int .i64 a0_1, .int .i64 a0_2, .str a0_3, .sl .any 6 a0_4, .sl .any 7 a0_5]),Ai 3000] [] fun r3 g3=>
 Ak (qV0 g3 r3)
 (Let (rB r3) fun x4=>
 Q (Ab x4) []))
 (Ak ((!true)=false)
 (Let (false) fun x5=>
 Q (Ab x5) []))))
 (Ak ((!true)=false)
 (Let (false) fun x6=>
 Br (x6 == true)
 (Call E0.P Qg [.imm (.agg [.int .i64 a0_0, .int .i64 a0_1, .int .i64 a0_2, .str a0_3, .sl .any 6 a0_4, .sl .any 7 a0_5]),Ai 3000] [] fun r7 g7=>
 Ak (qV0 g7 r7)
 (Let (rB r7) fun x8=>
 Q (Ab x8) []))
 (Ak ((!true)=false)
 (Let (false) fun x9=>
 Q (Ab x9) []))))))):Call E0.P Ala [.imm (.agg [.int .i64 a0_0, .int .i64 a0_1, .int .i64 a0_2, .str a0_3, .sl .any 6 a0_4, .sl .any 7 a0_5]),Ai a1] [] Q:=Be (Aw E0 Ak5) (Bd Ak5) 3 0 5 ac_r16_Few [.tmp 4] A2v _ _ Q rfl rfl (kr (by kernel_rfl) h)
noncomputable def ac_r16_size:AC:=(Bf [(3,[1,2,5,6],[]),(5,[1,2,5],[]),(8,[1,2,5],[]),(10,[1,2,5,7],[]),(12,[5],[]),(15,[5],[])] [4] (codeOf Tryz.f13) 0).1
abbrev Eb:Nat:=56
def Tx(t1 t5:Int)(t6 u0:Int)(u1 u2:Int)(u3:LB)(u4 u5:LL)(K:KK):Prop:=Bu 3 E0.P Eb (A8 3 ac_r16_size).code ⟨[(1,Ai t1),(2, .ptr nL2 0),(5,Ai t5),(6,Ai t6)],[(nL2, .blk Ac [Ai u0,Ai u1,Ai u2,As u3,Al 6 u4,Al 7 u5])]⟩ K
def Am9(t1 t5:Int)(u0 u1 u2:Int)(u3:LB)(u4 u5:LL)(K:KK):Prop:=Av 8 E0.P Eb (Af 8 ac_r16_size).code ⟨[(1,Ai t1),(2, .ptr nL2 0),(5,Ai t5)],[(nL2, .blk Ac [Ai u0,Ai u1,Ai u2,As u3,Al 6 u4,Al 7 u5])]⟩ K
def R8(t1 t5:Int)(t7 u0:Int)(u1 u2:Int)(u3:LB)(u4 u5:LL)(K:KK):Prop:=Bu 10 E0.P Eb (A8 10 ac_r16_size).code ⟨[(1,Ai t1),(2, .ptr nL2 0),(5,Ai t5),(7,Ai t7)],[(nL2, .blk Ac [Ai u0,Ai u1,Ai u2,As u3,Al 6 u4,Al 7 u5])]⟩ K
def Ali(t5:Int)(K:KK):Prop:=Av 15 E0.P Eb (Af 15 ac_r16_size).code ⟨[(5,Ai t5)],[]⟩ K
def Afv(Q:QQ):KK:=kE fun st=>finish 0 E0.T [.tmp 4] [] Q st
def Anc(Q:QQ):KK:=kF 0 (fun st=>Av 8 E0.P Eb (Af 8 ac_r16_size).code (mask [1,2,5] st) (Afv Q)) fun st=>finish 0 E0.T [.tmp 4] [] Q st
def Afq(K:KK):KK:=kP [] K
def An6(K:KK):KK:=kC 2 (fun st=>Av 15 E0.P Eb (Af 15 ac_r16_size).code (mask [5] st) (Afq K)) K
theorem Ahq(t1 t5:Int)(t6 u0:Int)(u1 u2:Int)(u3:LB)(u4 u5:LL)(K:KK)(h:
 (Let (bif decide (t6<(↑u4.length:Int))then decide (t5<t1)else false) fun x0=>
 Br (x0)
 (Ak (((0:Int)≤t6∧t6<(↑u4.length:Int))∧
 Ck
 [.int .i64, .int .i64, .int .i64, .str, .sl 6 Ac,
 .sl 7 Ap]
 (u4.getD t6.toNat [])=
 true)
 (Call E0.P Ws [.imm (.agg [.int .i64 (gI (u4.getD t6.toNat []) 0), .int .i64 (gI (u4.getD t6.toNat []) 1), .int .i64 (gI (u4.getD t6.toNat []) 2), .str (gS (u4.getD t6.toNat []) 3), .sl .any 6 (gR (u4.getD t6.toNat []) 4), .sl .any 7 (gR (u4.getD t6.toNat []) 5)]),Ai (IntKind.i64.wrap (t1 - t5))] [] fun r1 g1=>
 Ak (qV1 g1 r1)
 (Tx t1 (IntKind.i64.wrap (t5+rI r1)) (IntKind.i64.wrap (t6+(1:Int))) u0 u1 u2 u3 u4 u5 K)))
 (K (.exit 0) ⟨[(1,Ai t1),(2, .ptr nL2 0),(5,Ai t5)],[(nL2, .blk Ac [Ai u0,Ai u1,Ai u2,As u3,Al 6 u4,Al 7 u5])]⟩))):Tx t1 t5 t6 u0 u1 u2 u3 u4 u5 K:=Bo (Aw E0 Eb) (Bd Eb) 3 3 (A8 3 ac_r16_size) [1,2,5,6] _ K rfl (kr (by kernel_rfl) h)
theorem Atc(t1 t5:Int)(u0 u1 u2:Int)(u3:LB)(u4 u5:LL)(K:KK)(h:
 (R8 t1 t5 ((0:Int)) u0 u1 u2 u3 u4 u5 (An6 K))):Am9 t1 t5 u0 u1 u2 u3 u4 u5 K:=A9 (Aw E0 Eb) (Bd Eb) 3 8 (Af 8 ac_r16_size) [] _ K rfl (kr (by kernel_rfl) h)
theorem Af6(t1 t5:Int)(t7 u0:Int)(u1 u2:Int)(u3:LB)(u4 u5:LL)(K:KK)(h:
 (Let (bif decide (t7<(↑u5.length:Int))then decide (t5<t1)else false) fun x0=>
 Br (x0)
 (Ak (((0:Int)≤t7∧t7<(↑u5.length:Int))∧
 Ck
 [.str, .int .i64, .int .i64, .int .i64, .str, .sl 6 Ac,
 .sl 7 Ap]
 (u5.getD t7.toNat [])=
 true)
 (Call E0.P Ws [.imm (.agg [.int .i64 (gI (u5.getD t7.toNat []) 1), .int .i64 (gI (u5.getD t7.toNat []) 2), .int .i64 (gI (u5.getD t7.toNat []) 3), .str (gS (u5.getD t7.toNat []) 4), .sl .any 6 (gR (u5.getD t7.toNat []) 5), .sl .any 7 (gR (u5.getD t7.toNat []) 6)]),Ai (IntKind.i64.wrap (t1 - t5))] [] fun r1 g1=>
 Ak (qV1 g1 r1)
 (R8 t1 (IntKind.i64.wrap (t5+rI r1)) (IntKind.i64.wrap (t7+(1:Int))) u0 u1 u2 u3 u4 u5 K)))
 (K (.exit (2)) ⟨[(5,Ai t5)],[]⟩))):R8 t1 t5 t7 u0 u1 u2 u3 u4 u5 K:=Bo (Aw E0 Eb) (Bd Eb) 3 10 (A8 10 ac_r16_size) [1,2,5,7] _ K rfl (kr (by kernel_rfl) h)
theorem Arp(t5:Int)(K:KK)(h:
 (K .ret ⟨[(4,Ai t5)],[]⟩)):Ali t5 K:=A9 (Aw E0 Eb) (Bd Eb) 3 15 (Af 15 ac_r16_size) [] _ K rfl (kr (by kernel_rfl) h)
theorem As4(Q:QQ)(t4:Int)(h:
 (Q (Ai t4) [])):Afv Q .ret ⟨[(4,Ai t4)],[]⟩:=kr (by kernel_rfl) h
theorem Ass(Q:QQ)(t1 t5:Int)(u0 u1 u2:Int)(u3:LB)(u4 u5:LL)(h:
 (Am9 t1 t5 u0 u1 u2 u3 u4 u5 (Afv Q))):Anc Q (.exit 0) ⟨[(1,Ai t1),(2, .ptr nL2 0),(5,Ai t5)],[(nL2, .blk Ac [Ai u0,Ai u1,Ai u2,As u3,Al 6 u4,Al 7 u5])]⟩:=kr (by kernel_rfl) h
theorem Atg(K:KK)(t4:Int)(h:
 (K .ret ⟨[(4,Ai t4)],[]⟩)):Afq K .ret ⟨[(4,Ai t4)],[]⟩:=kr (by kernel_rfl) h
theorem At6(K:KK)(t5:Int)(h:
 (Ali t5 (Afq K))):An6 K (.exit (2)) ⟨[(5,Ai t5)],[]⟩:=kr (by kernel_rfl) h
theorem A1l:Ca E0.P 13 ac_r16_size.code Eb [.tmp 4]:=Bl _ _ Tryz.f13 [(3,[1,2,5,6],[]),(5,[1,2,5],[]),(8,[1,2,5],[]),(10,[1,2,5,7],[]),(12,[5],[]),(15,[5],[])] [4] _ 56 Tryz.func13 (by kernel_rfl) (by kernel_rfl) (by kernel_rfl) (by kernel_rfl)
theorem Axu(a0_0 a0_1 a0_2:Int)(a0_3:LB)(a0_4 a0_5:LL)(a1:Int)(Q:QQ)(h:
 (Tx a1 ((1:Int)) ((0:Int)) a0_0 a0_1 a0_2 a0_3 a0_4 a0_5 (Anc Q))):Call E0.P Ws [.imm (.agg [.int .i64 a0_0, .int .i64 a0_1, .int .i64 a0_2, .str a0_3, .sl .any 6 a0_4, .sl .any 7 a0_5]),Ai a1] [] Q:=Be (Aw E0 Eb) (Bd Eb) 3 0 13 ac_r16_size [.tmp 4] A1l _ _ Q rfl rfl (kr (by kernel_rfl) h)
noncomputable def ac_r16_low:AC:=(Bf [(5,[1,2,5],[]),(7,[1,2],[]),(12,[1,2],[]),(14,[1,2,6],[]),(16,[],[]),(21,[],[])] [4] (codeOf Tryz.f14) 0).1
abbrev En:Nat:=42
def Abv(t1 t5:Int)(u0 u1 u2:Int)(u3:LB)(u4 u5:LL)(K:KK):Prop:=Bu 5 E0.P En (A8 5 ac_r16_low).code ⟨[(1,Ai t1),(2, .ptr nL2 0),(5,Ai t5)],[(nL2, .blk Ac [Ai u0,Ai u1,Ai u2,As u3,Al 6 u4,Al 7 u5])]⟩ K
def An7(t1 u0:Int)(u1 u2:Int)(u3:LB)(u4 u5:LL)(K:KK):Prop:=Av 12 E0.P En (Af 12 ac_r16_low).code ⟨[(1,Ai t1),(2, .ptr nL2 0)],[(nL2, .blk Ac [Ai u0,Ai u1,Ai u2,As u3,Al 6 u4,Al 7 u5])]⟩ K
def Zn(t1 t6:Int)(u0 u1 u2:Int)(u3:LB)(u4 u5:LL)(K:KK):Prop:=Bu 14 E0.P En (A8 14 ac_r16_low).code ⟨[(1,Ai t1),(2, .ptr nL2 0),(6,Ai t6)],[(nL2, .blk Ac [Ai u0,Ai u1,Ai u2,As u3,Al 6 u4,Al 7 u5])]⟩ K
def Anx(K:KK):Prop:=Av 21 E0.P En (Af 21 ac_r16_low).code ⟨[],[]⟩ K
def Ah5(Q:QQ):KK:=kE fun st=>finish 0 E0.T [.tmp 4] [] Q st
def Ah0(Q:QQ):KK:=kF 0 (fun st=>Av 12 E0.P En (Af 12 ac_r16_low).code (mask [1,2] st) (Ah5 Q)) fun st=>finish 0 E0.T [.tmp 4] [] Q st
def Ahw(K:KK):KK:=kP [] K
def Aie(K:KK):KK:=kC 2 (fun st=>Av 21 E0.P En (Af 21 ac_r16_low).code (mask [] st) (Ahw K)) K
theorem Aiu(t1 t5:Int)(u0 u1 u2:Int)(u3:LB)(u4 u5:LL)(K:KK)(h:
 (Br (decide (t5<(↑u4.length:Int)))
 (Ak (((0:Int)≤t5∧t5<(↑u4.length:Int))∧
 Ck
 [.int .i64, .int .i64, .int .i64, .str, .sl 6 Ac,
 .sl 7 Ap]
 (u4.getD t5.toNat [])=
 true)
 (Call E0.P Aae [.imm (.agg [.int .i64 (gI (u4.getD t5.toNat []) 0), .int .i64 (gI (u4.getD t5.toNat []) 1), .int .i64 (gI (u4.getD t5.toNat []) 2), .str (gS (u4.getD t5.toNat []) 3), .sl .any 6 (gR (u4.getD t5.toNat []) 4), .sl .any 7 (gR (u4.getD t5.toNat []) 5)]),Ai (IntKind.i64.wrap (t1 - (1:Int)))] [] fun r0 g0=>
 Ak (qV0 g0 r0)
 (Br (!rB r0)
 (K .ret ⟨[(4,Ab false)],[]⟩)
 (Abv t1 (IntKind.i64.wrap (t5+(1:Int))) u0 u1 u2 u3 u4 u5 K))))
 (K (.exit 0) ⟨[(1,Ai t1),(2, .ptr nL2 0)],[(nL2, .blk Ac [Ai u0,Ai u1,Ai u2,As u3,Al 6 u4,Al 7 u5])]⟩))):Abv t1 t5 u0 u1 u2 u3 u4 u5 K:=Bo (Aw E0 En) (Bd En) 3 5 (A8 5 ac_r16_low) [1,2,5] _ K rfl (kr (by kernel_rfl) h)
theorem Asr(t1 u0:Int)(u1 u2:Int)(u3:LB)(u4 u5:LL)(K:KK)(h:
 (Zn t1 ((0:Int)) u0 u1 u2 u3 u4 u5 (Aie K))):An7 t1 u0 u1 u2 u3 u4 u5 K:=A9 (Aw E0 En) (Bd En) 3 12 (Af 12 ac_r16_low) [] _ K rfl (kr (by kernel_rfl) h)
theorem Ahr(t1 t6:Int)(u0 u1 u2:Int)(u3:LB)(u4 u5:LL)(K:KK)(h:
 (Br (decide (t6<(↑u5.length:Int)))
 (Ak (((0:Int)≤t6∧t6<(↑u5.length:Int))∧
 Ck
 [.str, .int .i64, .int .i64, .int .i64, .str, .sl 6 Ac,
 .sl 7 Ap]
 (u5.getD t6.toNat [])=
 true)
 (Call E0.P Aae [.imm (.agg [.int .i64 (gI (u5.getD t6.toNat []) 1), .int .i64 (gI (u5.getD t6.toNat []) 2), .int .i64 (gI (u5.getD t6.toNat []) 3), .str (gS (u5.getD t6.toNat []) 4), .sl .any 6 (gR (u5.getD t6.toNat []) 5), .sl .any 7 (gR (u5.getD t6.toNat []) 6)]),Ai (IntKind.i64.wrap (t1 - (1:Int)))] [] fun r0 g0=>
 Ak (qV0 g0 r0)
 (Br (!rB r0)
 (K .ret ⟨[(4,Ab false)],[]⟩)
 (Zn t1 (IntKind.i64.wrap (t6+(1:Int))) u0 u1 u2 u3 u4 u5 K))))
 (K (.exit (2)) ⟨[],[]⟩))):Zn t1 t6 u0 u1 u2 u3 u4 u5 K:=Bo (Aw E0 En) (Bd En) 3 14 (A8 14 ac_r16_low) [1,2,6] _ K rfl (kr (by kernel_rfl) h)
theorem At9(K:KK)(h:
 (K .ret ⟨[(4,Ab true)],[]⟩)):Anx K:=A9 (Aw E0 En) (Bd En) 3 21 (Af 21 ac_r16_low) [] _ K rfl (kr (by kernel_rfl) h)
theorem Ajs(Q:QQ)(t4:Bool)(h:
 (Q (Ab t4) [])):Ah5 Q .ret ⟨[(4,Ab t4)],[]⟩:=kr (by kernel_rfl) h
theorem Av7(Q:QQ)(t4:Bool)(h:
 (Q (Ab t4) [])):Ah0 Q .ret ⟨[(4,Ab t4)],[]⟩:=kr (by kernel_rfl) h
theorem Av8(Q:QQ)(t1 u0:Int)(u1 u2:Int)(u3:LB)(u4 u5:LL)(h:
 (An7 t1 u0 u1 u2 u3 u4 u5 (Ah5 Q))):Ah0 Q (.exit 0) ⟨[(1,Ai t1),(2, .ptr nL2 0)],[(nL2, .blk Ac [Ai u0,Ai u1,Ai u2,As u3,Al 6 u4,Al 7 u5])]⟩:=kr (by kernel_rfl) h
theorem Av9(K:KK)(t4:Bool)(h:
 (K .ret ⟨[(4,Ab t4)],[]⟩)):Ahw K .ret ⟨[(4,Ab t4)],[]⟩:=kr (by kernel_rfl) h
theorem Auz(K:KK)(t4:Bool)(h:
 (K .ret ⟨[(4,Ab t4)],[]⟩)):Aie K .ret ⟨[(4,Ab t4)],[]⟩:=kr (by kernel_rfl) h
theorem Avq(K:KK)(h:
 (Anx (Ahw K))):Aie K (.exit (2)) ⟨[],[]⟩:=kr (by kernel_rfl) h
theorem A4c:Ca E0.P 14 ac_r16_low.code En [.tmp 4]:=Bl _ _ Tryz.f14 [(5,[1,2,5],[]),(7,[1,2],[]),(12,[1,2],[]),(14,[1,2,6],[]),(16,[],[]),(21,[],[])] [4] _ 42 Tryz.func14 (by kernel_rfl) (by kernel_rfl) (by kernel_rfl) (by kernel_rfl)
theorem A0x(a0_0 a0_1 a0_2:Int)(a0_3:LB)(a0_4 a0_5:LL)(a1:Int)(Q:QQ)(h:
 (Br (decide (a1<(0:Int)))
 (Q (Ab false) [])
 (Abv a1 ((0:Int)) a0_0 a0_1 a0_2 a0_3 a0_4 a0_5 (Ah0 Q)))):Call E0.P Aae [.imm (.agg [.int .i64 a0_0, .int .i64 a0_1, .int .i64 a0_2, .str a0_3, .sl .any 6 a0_4, .sl .any 7 a0_5]),Ai a1] [] Q:=Be (Aw E0 En) (Bd En) 3 0 14 ac_r16_low [.tmp 4] A4c _ _ Q rfl rfl (kr (by kernel_rfl) h)
noncomputable def ac_r16_short:AC:=(Bf [(5,[1,2,5],[]),(7,[1,2],[]),(12,[1,2],[]),(14,[1,2,6],[]),(16,[],[]),(20,[1,2,6],[1,2,6]),(21,[],[])] [4] (codeOf Tryz.f15) 0).1
abbrev Cz:Nat:=54
def W9(t1 t5:Int)(u0 u1 u2:Int)(u3:LB)(u4 u5:LL)(K:KK):Prop:=Bu 5 E0.P Cz (A8 5 ac_r16_short).code ⟨[(1,Ai t1),(2, .ptr nL2 0),(5,Ai t5)],[(nL2, .blk Ac [Ai u0,Ai u1,Ai u2,As u3,Al 6 u4,Al 7 u5])]⟩ K
def Aje(t1 u0:Int)(u1 u2:Int)(u3:LB)(u4 u5:LL)(K:KK):Prop:=Av 12 E0.P Cz (Af 12 ac_r16_short).code ⟨[(1,Ai t1),(2, .ptr nL2 0)],[(nL2, .blk Ac [Ai u0,Ai u1,Ai u2,As u3,Al 6 u4,Al 7 u5])]⟩ K
def U9(t1 t6:Int)(u0 u1 u2:Int)(u3:LB)(u4 u5:LL)(K:KK):Prop:=Bu 14 E0.P Cz (A8 14 ac_r16_short).code ⟨[(1,Ai t1),(2, .ptr nL2 0),(6,Ai t6)],[(nL2, .blk Ac [Ai u0,Ai u1,Ai u2,As u3,Al 6 u4,Al 7 u5])]⟩ K
def Abh(t1 t6:Int)(u0 u1 u2:Int)(u3:LB)(u4 u5:LL)(K:KK):Prop:=Av 20 E0.P Cz (Af 20 ac_r16_short).code ⟨[(1,Ai t1),(2, .ptr nL2 0),(6,Ai t6)],[(nL2, .blk Ac [Ai u0,Ai u1,Ai u2,As u3,Al 6 u4,Al 7 u5])]⟩ K
def Aip(K:KK):Prop:=Av 21 E0.P Cz (Af 21 ac_r16_short).code ⟨[],[]⟩ K
def Adm(Q:QQ):KK:=kE fun st=>finish 0 E0.T [.tmp 4] [] Q st
def Acu(Q:QQ):KK:=kF 0 (fun st=>Av 12 E0.P Cz (Af 12 ac_r16_short).code (mask [1,2] st) (Adm Q)) fun st=>finish 0 E0.T [.tmp 4] [] Q st
def Adp(K:KK):KK:=kP [] K
def Adc(K:KK):KK:=kC 2 (fun st=>Av 21 E0.P Cz (Af 21 ac_r16_short).code (mask [] st) (Adp K)) K
def Adu(K:KK):Ex→St→Prop
 | .normal,st=>Bu 14 E0.P Cz (A8 14 ac_r16_short).code (mask [1,2,6] st) K
 | .exit i,st=>K (.exit i) st
 | .goto i,st=>K (.goto i) st
 | .ret,st=>K .ret st
theorem Afs(t1 t5:Int)(u0 u1 u2:Int)(u3:LB)(u4 u5:LL)(K:KK)(h:
 (Br (decide (t5<(↑u4.length:Int)))
 (Ak (((0:Int)≤t5∧t5<(↑u4.length:Int))∧
 Ck
 [.int .i64, .int .i64, .int .i64, .str, .sl 6 Ac,
 .sl 7 Ap]
 (u4.getD t5.toNat [])=
 true)
 (Call E0.P Qg [.imm (.agg [.int .i64 (gI (u4.getD t5.toNat []) 0), .int .i64 (gI (u4.getD t5.toNat []) 1), .int .i64 (gI (u4.getD t5.toNat []) 2), .str (gS (u4.getD t5.toNat []) 3), .sl .any 6 (gR (u4.getD t5.toNat []) 4), .sl .any 7 (gR (u4.getD t5.toNat []) 5)]),Ai t1] [] fun r0 g0=>
 Ak (qV0 g0 r0)
 (Br (!rB r0)
 (K .ret ⟨[(4,Ab false)],[]⟩)
 (W9 t1 (IntKind.i64.wrap (t5+(1:Int))) u0 u1 u2 u3 u4 u5 K))))
 (K (.exit 0) ⟨[(1,Ai t1),(2, .ptr nL2 0)],[(nL2, .blk Ac [Ai u0,Ai u1,Ai u2,As u3,Al 6 u4,Al 7 u5])]⟩))):W9 t1 t5 u0 u1 u2 u3 u4 u5 K:=Bo (Aw E0 Cz) (Bd Cz) 3 5 (A8 5 ac_r16_short) [1,2,5] _ K rfl (kr (by kernel_rfl) h)
theorem Aqe(t1 u0:Int)(u1 u2:Int)(u3:LB)(u4 u5:LL)(K:KK)(h:
 (U9 t1 ((0:Int)) u0 u1 u2 u3 u4 u5 (Adc K))):Aje t1 u0 u1 u2 u3 u4 u5 K:=A9 (Aw E0 Cz) (Bd Cz) 3 12 (Af 12 ac_r16_short) [] _ K rfl (kr (by kernel_rfl) h)
theorem Ad4(t1 t6:Int)(u0 u1 u2:Int)(u3:LB)(u4 u5:LL)(K:KK)(h:
 (Br (decide (t6<(↑u5.length:Int)))
 (Ak (((0:Int)≤t6∧t6<(↑u5.length:Int))∧
 Ck
 [.str, .int .i64, .int .i64, .int .i64, .str, .sl 6 Ac,
 .sl 7 Ap]
 (u5.getD t6.toNat [])=
 true)
 (Ak (decide (t1<(↑(gS (u5.getD t6.toNat []) (0:Nat)).length:Int))=false→
 ((0:Int)≤t6∧t6<(↑u5.length:Int))∧
 Ck
 [.str, .int .i64, .int .i64, .int .i64, .str, .sl 6 Ac,
 .sl 7 Ap]
 (u5.getD t6.toNat [])=
 true)
 (Br (decide (t1<(↑(gS (u5.getD t6.toNat []) (0:Nat)).length:Int)) == false)
 (Call E0.P Qg [.imm (.agg [.int .i64 (gI (u5.getD t6.toNat []) 1), .int .i64 (gI (u5.getD t6.toNat []) 2), .int .i64 (gI (u5.getD t6.toNat []) 3), .str (gS (u5.getD t6.toNat []) 4), .sl .any 6 (gR (u5.getD t6.toNat []) 5), .sl .any 7 (gR (u5.getD t6.toNat []) 6)]),Ai t1] [] fun r0 g0=>
 Ak (qV0 g0 r0)
 (Let (!rB r0) fun x1=>
 Br (x1)
 (K .ret ⟨[(4,Ab false)],[]⟩)
 (Abh t1 t6 u0 u1 u2 u3 u4 u5 (Adu K))))
 (Ak ((!false)=true)
 (Let (true) fun x2=>
 Br (x2)
 (K .ret ⟨[(4,Ab false)],[]⟩)
 (Abh t1 t6 u0 u1 u2 u3 u4 u5 (Adu K)))))))
 (K (.exit (2)) ⟨[],[]⟩))):U9 t1 t6 u0 u1 u2 u3 u4 u5 K:=Bo (Aw E0 Cz) (Bd Cz) 3 14 (A8 14 ac_r16_short) [1,2,6] _ K rfl (kr (by kernel_rfl) h)
theorem Ap1(t1 t6:Int)(u0 u1 u2:Int)(u3:LB)(u4 u5:LL)(K:KK)(h:
 (K .normal ⟨[(1,Ai t1),(2, .ptr nL2 0),(6,Ai (IntKind.i64.wrap (t6+(1:Int))))],[(nL2, .blk Ac [Ai u0,Ai u1,Ai u2,As u3,Al 6 u4,Al 7 u5])]⟩)):Abh t1 t6 u0 u1 u2 u3 u4 u5 K:=A9 (Aw E0 Cz) (Bd Cz) 3 20 (Af 20 ac_r16_short) [1,2,6] _ K rfl (kr (by kernel_rfl) h)
theorem Ap6(K:KK)(h:
 (K .ret ⟨[(4,Ab true)],[]⟩)):Aip K:=A9 (Aw E0 Cz) (Bd Cz) 3 21 (Af 21 ac_r16_short) [] _ K rfl (kr (by kernel_rfl) h)
theorem Aft(Q:QQ)(t4:Bool)(h:
 (Q (Ab t4) [])):Adm Q .ret ⟨[(4,Ab t4)],[]⟩:=kr (by kernel_rfl) h
theorem Ark(Q:QQ)(t4:Bool)(h:
 (Q (Ab t4) [])):Acu Q .ret ⟨[(4,Ab t4)],[]⟩:=kr (by kernel_rfl) h
theorem Arm(Q:QQ)(t1 u0:Int)(u1 u2:Int)(u3:LB)(u4 u5:LL)(h:
 (Aje t1 u0 u1 u2 u3 u4 u5 (Adm Q))):Acu Q (.exit 0) ⟨[(1,Ai t1),(2, .ptr nL2 0)],[(nL2, .blk Ac [Ai u0,Ai u1,Ai u2,As u3,Al 6 u4,Al 7 u5])]⟩:=kr (by kernel_rfl) h
theorem Aq6(K:KK)(t4:Bool)(h:
 (K .ret ⟨[(4,Ab t4)],[]⟩)):Adp K .ret ⟨[(4,Ab t4)],[]⟩:=kr (by kernel_rfl) h
theorem Ar8(K:KK)(t4:Bool)(h:
 (K .ret ⟨[(4,Ab t4)],[]⟩)):Adc K .ret ⟨[(4,Ab t4)],[]⟩:=kr (by kernel_rfl) h
theorem Art(K:KK)(h:
 (Aip (Adp K))):Adc K (.exit (2)) ⟨[],[]⟩:=kr (by kernel_rfl) h
theorem Ar7(K:KK)(t1 t6:Int)(u0 u1 u2:Int)(u3:LB)(u4 u5:LL)(h:
 (U9 t1 t6 u0 u1 u2 u3 u4 u5 K)):Adu K .normal ⟨[(1,Ai t1),(2, .ptr nL2 0),(6,Ai t6)],[(nL2, .blk Ac [Ai u0,Ai u1,Ai u2,As u3,Al 6 u4,Al 7 u5])]⟩:=kr (by kernel_rfl) h
theorem Azx:Ca E0.P 15 ac_r16_short.code Cz [.tmp 4]:=Bl _ _ Tryz.f15 [(5,[1,2,5],[]),(7,[1,2],[]),(12,[1,2],[]),(14,[1,2,6],[]),(16,[],[]),(20,[1,2,6],[1,2,6]),(21,[],[])] [4] _ 54 Tryz.func15 (by kernel_rfl) (by kernel_rfl) (by kernel_rfl) (by kernel_rfl)
theorem Ave(a0_0 a0_1 a0_2:Int)(a0_3:LB)(a0_4 a0_5:LL)(a1:Int)(Q:QQ)(h:
 (Br (decide (a1<(↑a0_3.length:Int)))
 (Q (Ab false) [])
 (W9 a1 ((0:Int)) a0_0 a0_1 a0_2 a0_3 a0_4 a0_5 (Acu Q)))):Call E0.P Qg [.imm (.agg [.int .i64 a0_0, .int .i64 a0_1, .int .i64 a0_2, .str a0_3, .sl .any 6 a0_4, .sl .any 7 a0_5]),Ai a1] [] Q:=Be (Aw E0 Cz) (Bd Cz) 3 0 15 ac_r16_short [.tmp 4] Azx _ _ Q rfl rfl (kr (by kernel_rfl) h)
end
end Go.Proofs.Sim.Se

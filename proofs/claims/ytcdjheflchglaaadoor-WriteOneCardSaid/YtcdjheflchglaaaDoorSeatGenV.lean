import Derived.Test.YtcdjheflchglaaaDoorSeatBase
set_option maxRecDepth 100000
set_option maxHeartbeats 4000000
namespace Go.Proofs.Sim.Se
open Go Go.Proofs Go.Proofs.Sim
noncomputable section
abbrev qV0(G:Heap)(R:AV):Prop:=G=[]∧R= .imm (.bool (rB R))
abbrev qV1(G:Heap)(R:AV):Prop:=G=[]∧R= .imm (.int .i64 (rI R))
abbrev qV2(G:Heap)(R:AV):Prop:=G=[(Nm.arg 0,Entry.arr 1 true 7 (Eu G Am))]∧R= .tup []
abbrev qV3(G:Heap)(R:AV):Prop:=G=[]∧R= .imm (IV.agg [.int .i64 (gI (Ao R) 0), .int .i64 (gI (Ao R) 1), .int .i64 (gI (Ao R) 2), .str (gS (Ao R) 3), .sl SK.any 6 (gR (Ao R) 4), .sl SK.any 7 (gR (Ao R) 5)])
noncomputable def ac_cmp_isNaN_string:AC:=(Ba [] [2] (codeOf Tryd.f119) 0).1
abbrev Ov:Nat:=6
theorem Aee:Cf E0.P 119 ac_cmp_isNaN_string.code Ov [.tmp 2]:=Bu _ _ Tryd.f119 [] [2] _ 6 Tryd.func119 (by kernel_rfl) (by kernel_rfl) (by kernel_rfl) (by kernel_rfl)
theorem Abj(a0:LB)(Q:QQ)(h:
 (Q (Ab (!a0 == a0)) [])):Call E0.P Ko [As a0] [] Q:=Bb (Ar E0 Ov) (A8 Ov) 3 0 119 ac_cmp_isNaN_string [.tmp 2] Aee _ _ Q rfl rfl (kr (by kernel_rfl) h)
noncomputable def ac_cmp_Compare_string:AC:=(Ba [] [4] (codeOf Tryd.f96) 0).1
abbrev Mv:Nat:=20
theorem Ab1:Cf E0.P 96 ac_cmp_Compare_string.code Mv [.tmp 4]:=Bu _ _ Tryd.f96 [] [4] _ 20 Tryd.func96 (by kernel_rfl) (by kernel_rfl) (by kernel_rfl) (by kernel_rfl)
theorem Z8(a0 a1:LB)(Q:QQ)(h:
 (Call E0.P Ko [As a0] [] fun r0 g0=>
 Af (qV0 g0 r0)
 (Call E0.P Ko [As a1] [] fun r1 g1=>
 Af (qV0 g1 r1)
 (Br (rB r0)
 (Br (rB r1)
 (Q (Ai 0) [])
 (Q (Ai (-1)) []))
 (Br (rB r1)
 (Q (Ai 1) [])
 (Br (Op.bytesLess a0 a1)
 (Q (Ai (-1)) [])
 (Br (!(Op.bytesLess a0 a1 || a0 == a1))
 (Q (Ai 1) [])
 (Q (Ai 0) [])))))))):Call E0.P Ml [As a0,As a1] [] Q:=Bb (Ar E0 Mv) (A8 Mv) 3 0 96 ac_cmp_Compare_string [.tmp 4] Ab1 _ _ Q rfl rfl (kr (by kernel_rfl) h)
noncomputable def ac_value_plainPairs_1:AC:=(Ba [] [4] (codeOf Tryd.f95) 0).1
abbrev Mw:Nat:=10
theorem Ab2:Cf E0.P 95 ac_value_plainPairs_1.code Mw [.tmp 4]:=Bu _ _ Tryd.f95 [] [4] _ 10 Tryd.func95 (by kernel_rfl) (by kernel_rfl) (by kernel_rfl) (by kernel_rfl)
theorem Z9(a0_0:LB)(a0_1 a0_2 a0_3:Int)(a0_4:LB)(a0_5 a0_6:LL)(a1_0:LB)(a1_1 a1_2 a1_3:Int)(a1_4:LB)(a1_5 a1_6:LL)(Q:QQ)(h:
 (Call E0.P Ml [As a0_0,As a1_0] [] fun r0 g0=>
 Af (qV1 g0 r0)
 (Q (Ai (rI r0)) []))):Call E0.P Ad [.imm (.agg [.str a0_0, .int .i64 a0_1, .int .i64 a0_2, .int .i64 a0_3, .str a0_4, .sl .any 6 a0_5, .sl .any 7 a0_6]), .imm (.agg [.str a1_0, .int .i64 a1_1, .int .i64 a1_2, .int .i64 a1_3, .str a1_4, .sl .any 6 a1_5, .sl .any 7 a1_6])] [] Q:=Bb (Ar E0 Mw) (A8 Mw) 3 0 95 ac_value_plainPairs_1 [.tmp 4] Ab2 _ _ Q rfl rfl (kr (by kernel_rfl) h)
noncomputable def ac_value_plainPairs_2:AC:=(Ba [] [4] (codeOf Tryd.f98) 0).1
abbrev Mx:Nat:=10
theorem Ab3:Cf E0.P 98 ac_value_plainPairs_2.code Mx [.tmp 4]:=Bu _ _ Tryd.f98 [] [4] _ 10 Tryd.func98 (by kernel_rfl) (by kernel_rfl) (by kernel_rfl) (by kernel_rfl)
theorem Aaa(a0_0:LB)(a0_1 a0_2 a0_3:Int)(a0_4:LB)(a0_5 a0_6:LL)(a1_0:LB)(a1_1 a1_2 a1_3:Int)(a1_4:LB)(a1_5 a1_6:LL)(Q:QQ)(h:
 (Q (Ab (a0_0 == a1_0)) [])):Call E0.P Bh [.imm (.agg [.str a0_0, .int .i64 a0_1, .int .i64 a0_2, .int .i64 a0_3, .str a0_4, .sl .any 6 a0_5, .sl .any 7 a0_6]), .imm (.agg [.str a1_0, .int .i64 a1_1, .int .i64 a1_2, .int .i64 a1_3, .str a1_4, .sl .any 6 a1_5, .sl .any 7 a1_6])] [] Q:=Bb (Ar E0 Mx) (A8 Mx) 3 0 98 ac_value_plainPairs_2 [.tmp 4] Ab3 _ _ Q rfl rfl (kr (by kernel_rfl) h)
noncomputable def ac_slices_insertionSortCmpFunc_Pair:AC:=(Ba [(1,[0,1,2,3,8],[]),(3,[],[]),(6,[0,1,2,3,8,9],[]),(8,[0,1,2,3,8],[]),(9,[0,1,2,3,8,9],[0,1,2,3,8,9]),(11,[0,1,2,3,8],[0,1,2,3,8])] [] (codeOf Tryd.f131) 0).1
abbrev Aj:Nat:=53
def Dp(t1 t2 t8:Int)(u0:LL)(K:KK):Prop:=Bz 1 E0.P Aj (Au 1 ac_slices_insertionSortCmpFunc_Pair).code ⟨[(0, .own Am),(1,Ai t1),(2,Ai t2),(3, .fn Ad []),(8,Ai t8)],[(Am, .arr 1 true 7 u0)]⟩ K
def Dq(t1 t2:Int)(t8 t9:Int)(u0:LL)(K:KK):Prop:=Bz 6 E0.P Aj (Au 6 ac_slices_insertionSortCmpFunc_Pair).code ⟨[(0, .own Am),(1,Ai t1),(2,Ai t2),(3, .fn Ad []),(8,Ai t8),(9,Ai t9)],[(Am, .arr 1 true 7 u0)]⟩ K
def Fg(t1 t2:Int)(t8 t9:Int)(u0:LL)(K:KK):Prop:=Aq 9 E0.P Aj (Ae 9 ac_slices_insertionSortCmpFunc_Pair).code ⟨[(0, .own Am),(1,Ai t1),(2,Ai t2),(3, .fn Ad []),(8,Ai t8),(9,Ai t9)],[(Am, .arr 1 true 7 u0)]⟩ K
def Ir(t1 t2 t8:Int)(u0:LL)(K:KK):Prop:=Aq 11 E0.P Aj (Ae 11 ac_slices_insertionSortCmpFunc_Pair).code ⟨[(0, .own Am),(1,Ai t1),(2,Ai t2),(3, .fn Ad []),(8,Ai t8)],[(Am, .arr 1 true 7 u0)]⟩ K
def Dn(rows:LL)(Q:QQ):KK:=kF 0 (fun st=>finish (1) E0.T [] [(Am, .arr 1 true 7 rows)] Q st) fun st=>finish (1) E0.T [] [(Am, .arr 1 true 7 rows)] Q st
def Cs(K:KK):Ex→St→Prop
 | .normal,st=>Bz 1 E0.P Aj (Au 1 ac_slices_insertionSortCmpFunc_Pair).code (mask [0,1,2,3,8] st) K
 | .exit i,st=>K (.exit i) st
 | .goto i,st=>K (.goto i) st
 | .ret,st=>K .ret st
def Fh(K:KK):Ex→St→Prop
 | .normal,st=>Aq 11 E0.P Aj (Ae 11 ac_slices_insertionSortCmpFunc_Pair).code (mask [0,1,2,3,8] st) (Cs K)
 | .exit i,st=>(match (i.beq 2:Bool)with
 |true=>Aq 11 E0.P Aj (Ae 11 ac_slices_insertionSortCmpFunc_Pair).code (mask [0,1,2,3,8] st) (Cs K)
 |false=>(match (i.beq 1:Bool)with
 |true=>Aq 11 E0.P Aj (Ae 11 ac_slices_insertionSortCmpFunc_Pair).code (mask [0,1,2,3,8] st) (Cs K)
 |false=>K (.exit i) st))
 | .goto i,st=>K (.goto i) st
 | .ret,st=>K .ret st
def Fj(K:KK):Ex→St→Prop
 | .normal,st=>Bz 6 E0.P Aj (Au 6 ac_slices_insertionSortCmpFunc_Pair).code (mask [0,1,2,3,8,9] st) K
 | .exit i,st=>K (.exit i) st
 | .goto i,st=>K (.goto i) st
 | .ret,st=>K .ret st
theorem Es(t1 t2 t8:Int)(u0:LL)(K:KK)(h:
 (Br (decide (t8<t2))
 (Dq t1 t2 t8 t8 u0 (Fh K))
 (K (.exit 0) ⟨[],[(Am, .arr 1 true 7 u0)]⟩))):Dp t1 t2 t8 u0 K:=Bq (Ar E0 Aj) (A8 Aj) 3 1 (Au 1 ac_slices_insertionSortCmpFunc_Pair) [0,1,2,3,8] _ K rfl (kr (by kernel_rfl) h)
theorem Hq(t1 t2:Int)(t8 t9:Int)(u0:LL)(K:KK)(h:
 (Af (decide (t1<t9)=true→(0:Int)≤t9∧t9<(↑u0.length:Int))
 (Af (decide (t1<t9)=true→
 t9.toNat<u0.length∧
 Cb
 [.str, .int .i64, .int .i64, .int .i64, .str, .sl 6 Ac,
 .sl 7 Ak]
 (List.take 7 (List.drop 0 (u0.getD t9.toNat [])))=
 true)
 (Af (decide (t1<t9)=true→
 (0:Int)≤IntKind.i64.wrap (t9 - (1:Int))∧IntKind.i64.wrap (t9 - (1:Int))<(↑u0.length:Int))
 (Af (decide (t1<t9)=true→
 (IntKind.i64.wrap (t9 - (1:Int))).toNat<u0.length∧
 Cb
 [.str, .int .i64, .int .i64, .int .i64, .str, .sl 6 Ac,
 .sl 7 Ak]
 (List.take 7 (List.drop 0 (u0.getD (IntKind.i64.wrap (t9 - (1:Int))).toNat [])))=
 true)
 (Br (decide (t1<t9) == true)
 (Call E0.P Ad [.imm (.agg [.str (gS (List.take 7 (List.drop 0 (u0.getD t9.toNat []))) 0), .int .i64 (gI (List.take 7 (List.drop 0 (u0.getD t9.toNat []))) 1), .int .i64 (gI (List.take 7 (List.drop 0 (u0.getD t9.toNat []))) 2), .int .i64 (gI (List.take 7 (List.drop 0 (u0.getD t9.toNat []))) 3), .str (gS (List.take 7 (List.drop 0 (u0.getD t9.toNat []))) 4), .sl .any 6 (gR (List.take 7 (List.drop 0 (u0.getD t9.toNat []))) 5), .sl .any 7 (gR (List.take 7 (List.drop 0 (u0.getD t9.toNat []))) 6)]), .imm (.agg [.str (gS (List.take 7 (List.drop 0 (u0.getD (IntKind.i64.wrap (t9 - (1:Int))).toNat []))) 0), .int .i64 (gI (List.take 7 (List.drop 0 (u0.getD (IntKind.i64.wrap (t9 - (1:Int))).toNat []))) 1), .int .i64 (gI (List.take 7 (List.drop 0 (u0.getD (IntKind.i64.wrap (t9 - (1:Int))).toNat []))) 2), .int .i64 (gI (List.take 7 (List.drop 0 (u0.getD (IntKind.i64.wrap (t9 - (1:Int))).toNat []))) 3), .str (gS (List.take 7 (List.drop 0 (u0.getD (IntKind.i64.wrap (t9 - (1:Int))).toNat []))) 4), .sl .any 6 (gR (List.take 7 (List.drop 0 (u0.getD (IntKind.i64.wrap (t9 - (1:Int))).toNat []))) 5), .sl .any 7 (gR (List.take 7 (List.drop 0 (u0.getD (IntKind.i64.wrap (t9 - (1:Int))).toNat []))) 6)])] [] fun r0 g0=>
 Af (qV1 g0 r0)
 (Let (decide (rI r0<(0:Int))) fun x1=>
 Br (x1)
 (Fg t1 t2 t8 t9 u0 (Fj K))
 (K (.exit (2)) ⟨[(0, .own Am),(1,Ai t1),(2,Ai t2),(3, .fn Ad []),(8,Ai t8)],[(Am, .arr 1 true 7 u0)]⟩)))
 (Af ((!true)=false)
 (Let (false) fun x2=>
 Br (x2)
 (Fg t1 t2 t8 t9 u0 (Fj K))
 (K (.exit (2)) ⟨[(0, .own Am),(1,Ai t1),(2,Ai t2),(3, .fn Ad []),(8,Ai t8)],[(Am, .arr 1 true 7 u0)]⟩))))))))):Dq t1 t2 t8 t9 u0 K:=Bq (Ar E0 Aj) (A8 Aj) 3 6 (Au 6 ac_slices_insertionSortCmpFunc_Pair) [0,1,2,3,8,9] _ K rfl (kr (by kernel_rfl) h)
theorem Nz(t1 t2:Int)(t8 t9:Int)(u0:LL)(K:KK)(h:
 (Af ((0:Int)≤IntKind.i64.wrap (t9 - (1:Int))∧IntKind.i64.wrap (t9 - (1:Int))<(↑u0.length:Int))
 (Af ((IntKind.i64.wrap (t9 - (1:Int))).toNat<u0.length∧
 Cb
 [.str, .int .i64, .int .i64, .int .i64, .str, .sl 6 Ac,
 .sl 7 Ak]
 (List.take 7 (List.drop 0 (u0.getD (IntKind.i64.wrap (t9 - (1:Int))).toNat [])))=
 true)
 (Af ((0:Int)≤t9∧t9<(↑u0.length:Int))
 (Af (t9.toNat<u0.length∧
 Cb
 [.str, .int .i64, .int .i64, .int .i64, .str, .sl 6 Ac,
 .sl 7 Ak]
 (List.take 7 (List.drop 0 (u0.getD t9.toNat [])))=
 true)
 (Af ((0:Int)≤t9∧t9<(↑u0.length:Int))
 (Af (t9.toNat<u0.length)
 (Af ((0:Int)≤IntKind.i64.wrap (t9 - (1:Int))∧
 IntKind.i64.wrap (t9 - (1:Int))<
 (↑(u0.set t9.toNat
 [.str
 (gS (List.take (7:Nat) (List.drop (0:Nat) (u0.getD (IntKind.i64.wrap (t9 - (1:Int))).toNat [])))
 (0:Nat)),
 .int .i64
 (gI (List.take (7:Nat) (List.drop (0:Nat) (u0.getD (IntKind.i64.wrap (t9 - (1:Int))).toNat [])))
 (1:Nat)),
 .int .i64
 (gI (List.take (7:Nat) (List.drop (0:Nat) (u0.getD (IntKind.i64.wrap (t9 - (1:Int))).toNat [])))
 (2:Nat)),
 .int .i64
 (gI (List.take (7:Nat) (List.drop (0:Nat) (u0.getD (IntKind.i64.wrap (t9 - (1:Int))).toNat [])))
 (3:Nat)),
 .str
 (gS (List.take (7:Nat) (List.drop (0:Nat) (u0.getD (IntKind.i64.wrap (t9 - (1:Int))).toNat [])))
 (4:Nat)),
 .sl SK.any (6:Nat)
 (gR (List.take (7:Nat) (List.drop (0:Nat) (u0.getD (IntKind.i64.wrap (t9 - (1:Int))).toNat [])))
 (5:Nat)),
 .sl SK.any (7:Nat)
 (gR (List.take (7:Nat) (List.drop (0:Nat) (u0.getD (IntKind.i64.wrap (t9 - (1:Int))).toNat [])))
 (6:Nat))]).length:
 Int))
 (Af ((IntKind.i64.wrap (t9 - (1:Int))).toNat<
 (u0.set t9.toNat
 [.str
 (gS (List.take 7 (List.drop 0 (u0.getD (IntKind.i64.wrap (t9 - (1:Int))).toNat [])))
 0),
 .int .i64
 (gI (List.take 7 (List.drop 0 (u0.getD (IntKind.i64.wrap (t9 - (1:Int))).toNat [])))
 1),
 .int .i64
 (gI (List.take 7 (List.drop 0 (u0.getD (IntKind.i64.wrap (t9 - (1:Int))).toNat [])))
 2),
 .int .i64
 (gI (List.take 7 (List.drop 0 (u0.getD (IntKind.i64.wrap (t9 - (1:Int))).toNat [])))
 3),
 .str
 (gS (List.take 7 (List.drop 0 (u0.getD (IntKind.i64.wrap (t9 - (1:Int))).toNat [])))
 4),
 .sl SK.any 6
 (gR (List.take 7 (List.drop 0 (u0.getD (IntKind.i64.wrap (t9 - (1:Int))).toNat [])))
 5),
 .sl SK.any 7
 (gR (List.take 7 (List.drop 0 (u0.getD (IntKind.i64.wrap (t9 - (1:Int))).toNat [])))
 6)]).length)
 (K .normal ⟨[(0, .own Am),(1,Ai t1),(2,Ai t2),(3, .fn Ad []),(8,Ai t8),(9,Ai (IntKind.i64.wrap (t9 - (1:Int))))],[(Am, .arr 1 true 7 ((u0.set t9.toNat
 [.str
 (gS (List.take 7 (List.drop 0 (u0.getD (IntKind.i64.wrap (t9 - (1:Int))).toNat [])))
 0),
 .int .i64
 (gI (List.take 7 (List.drop 0 (u0.getD (IntKind.i64.wrap (t9 - (1:Int))).toNat [])))
 1),
 .int .i64
 (gI (List.take 7 (List.drop 0 (u0.getD (IntKind.i64.wrap (t9 - (1:Int))).toNat [])))
 2),
 .int .i64
 (gI (List.take 7 (List.drop 0 (u0.getD (IntKind.i64.wrap (t9 - (1:Int))).toNat [])))
 3),
 .str
 (gS (List.take 7 (List.drop 0 (u0.getD (IntKind.i64.wrap (t9 - (1:Int))).toNat [])))
 4),
 .sl SK.any 6
 (gR (List.take 7 (List.drop 0 (u0.getD (IntKind.i64.wrap (t9 - (1:Int))).toNat [])))
 5),
 .sl SK.any 7
 (gR (List.take 7 (List.drop 0 (u0.getD (IntKind.i64.wrap (t9 - (1:Int))).toNat [])))
 6)]).set
 (IntKind.i64.wrap (t9 - (1:Int))).toNat
 [.str (gS (List.take 7 (List.drop 0 (u0.getD t9.toNat []))) 0),
 .int .i64 (gI (List.take 7 (List.drop 0 (u0.getD t9.toNat []))) 1),
 .int .i64 (gI (List.take 7 (List.drop 0 (u0.getD t9.toNat []))) 2),
 .int .i64 (gI (List.take 7 (List.drop 0 (u0.getD t9.toNat []))) 3),
 .str (gS (List.take 7 (List.drop 0 (u0.getD t9.toNat []))) 4),
 .sl SK.any 6 (gR (List.take 7 (List.drop 0 (u0.getD t9.toNat []))) 5),
 .sl SK.any 7 (gR (List.take 7 (List.drop 0 (u0.getD t9.toNat []))) 6)]))]⟩)))))))))):Fg t1 t2 t8 t9 u0 K:=Aw (Ar E0 Aj) (A8 Aj) 3 9 (Ae 9 ac_slices_insertionSortCmpFunc_Pair) [0,1,2,3,8,9] _ K rfl (kr (by kernel_rfl) h)
theorem M9(t1 t2 t8:Int)(u0:LL)(K:KK)(h:
 (K .normal ⟨[(0, .own Am),(1,Ai t1),(2,Ai t2),(3, .fn Ad []),(8,Ai (IntKind.i64.wrap (t8+(1:Int))))],[(Am, .arr 1 true 7 u0)]⟩)):Ir t1 t2 t8 u0 K:=Aw (Ar E0 Aj) (A8 Aj) 3 11 (Ae 11 ac_slices_insertionSortCmpFunc_Pair) [0,1,2,3,8] _ K rfl (kr (by kernel_rfl) h)
theorem Ho(rows:LL)(Q:QQ)(u0:LL)(h:
 (Q (.tup []) [(Am, .arr 1 true 7 u0)])):Dn rows Q (.exit 0) ⟨[],[(Am, .arr 1 true 7 u0)]⟩:=kr (by kernel_rfl) h
theorem N7(K:KK)(t1 t2 t8:Int)(u0:LL)(h:
 (Dp t1 t2 t8 u0 K)):Cs K .normal ⟨[(0, .own Am),(1,Ai t1),(2,Ai t2),(3, .fn Ad []),(8,Ai t8)],[(Am, .arr 1 true 7 u0)]⟩:=kr (by kernel_rfl) h
theorem N8(K:KK)(t1 t2 t8:Int)(u0:LL)(h:
 (Ir t1 t2 t8 u0 (Cs K))):Fh K (.exit (2)) ⟨[(0, .own Am),(1,Ai t1),(2,Ai t2),(3, .fn Ad []),(8,Ai t8)],[(Am, .arr 1 true 7 u0)]⟩:=kr (by kernel_rfl) h
theorem N9(K:KK)(t1 t2:Int)(t8 t9:Int)(u0:LL)(h:
 (Dq t1 t2 t8 t9 u0 K)):Fj K .normal ⟨[(0, .own Am),(1,Ai t1),(2,Ai t2),(3, .fn Ad []),(8,Ai t8),(9,Ai t9)],[(Am, .arr 1 true 7 u0)]⟩:=kr (by kernel_rfl) h
theorem Qd:Cf E0.P 131 ac_slices_insertionSortCmpFunc_Pair.code Aj []:=Bu _ _ Tryd.f131 [(1,[0,1,2,3,8],[]),(3,[],[]),(6,[0,1,2,3,8,9],[]),(8,[0,1,2,3,8],[]),(9,[0,1,2,3,8,9],[0,1,2,3,8,9]),(11,[0,1,2,3,8],[0,1,2,3,8])] [] _ 53 Tryd.func131 (by kernel_rfl) (by kernel_rfl) (by kernel_rfl) (by kernel_rfl)
theorem O6(rows:LL)(a1 a2:Int)(Q:QQ)(h:
 (Dp a1 a2 (IntKind.i64.wrap (a1+(1:Int))) rows (Dn rows Q))):Call E0.P Dz [.own (.arg 0),Ai a1,Ai a2, .fn Ad []] [(.arg 0, .arr 1 true 7 rows)] Q:=Bb (Ar E0 Aj) (A8 Aj) 3 1 131 ac_slices_insertionSortCmpFunc_Pair [] Qd _ _ Q rfl rfl (kr (by kernel_rfl) h)
noncomputable def ac_slices_swapRangeCmpFunc_Pair:AC:=(Ba [(1,[0,1,2,3,10],[]),(3,[],[])] [] (codeOf Tryd.f147) 0).1
abbrev Cq:Nat:=38
def Eo(t1 t2:Int)(t3 t10:Int)(u0:LL)(K:KK):Prop:=Bz 1 E0.P Cq (Au 1 ac_slices_swapRangeCmpFunc_Pair).code ⟨[(0, .own Am),(1,Ai t1),(2,Ai t2),(3,Ai t3),(10,Ai t10)],[(Am, .arr 1 true 7 u0)]⟩ K
def Ke(rows:LL)(Q:QQ):KK:=kF 0 (fun st=>finish (1) E0.T [] [(Am, .arr 1 true 7 rows)] Q st) fun st=>finish (1) E0.T [] [(Am, .arr 1 true 7 rows)] Q st
theorem I7(t1 t2:Int)(t3 t10:Int)(u0:LL)(K:KK)(h:
 (Br (decide (t10<t3))
 (Af ((0:Int)≤IntKind.i64.wrap (t2+t10)∧IntKind.i64.wrap (t2+t10)<(↑u0.length:Int))
 (Af ((IntKind.i64.wrap (t2+t10)).toNat<u0.length∧
 Cb
 [.str, .int .i64, .int .i64, .int .i64, .str, .sl 6 Ac,
 .sl 7 Ak]
 (List.take 7 (List.drop 0 (u0.getD (IntKind.i64.wrap (t2+t10)).toNat [])))=
 true)
 (Af ((0:Int)≤IntKind.i64.wrap (t1+t10)∧IntKind.i64.wrap (t1+t10)<(↑u0.length:Int))
 (Af ((IntKind.i64.wrap (t1+t10)).toNat<u0.length∧
 Cb
 [.str, .int .i64, .int .i64, .int .i64, .str, .sl 6 Ac,
 .sl 7 Ak]
 (List.take 7 (List.drop 0 (u0.getD (IntKind.i64.wrap (t1+t10)).toNat [])))=
 true)
 (Af ((0:Int)≤IntKind.i64.wrap (t1+t10)∧IntKind.i64.wrap (t1+t10)<(↑u0.length:Int))
 (Af ((IntKind.i64.wrap (t1+t10)).toNat<u0.length)
 (Af ((0:Int)≤IntKind.i64.wrap (t2+t10)∧
 IntKind.i64.wrap (t2+t10)<
 (↑(u0.set (IntKind.i64.wrap (t1+t10)).toNat
 [.str
 (gS (List.take (7:Nat) (List.drop (0:Nat) (u0.getD (IntKind.i64.wrap (t2+t10)).toNat [])))
 (0:Nat)),
 .int .i64
 (gI (List.take (7:Nat) (List.drop (0:Nat) (u0.getD (IntKind.i64.wrap (t2+t10)).toNat [])))
 (1:Nat)),
 .int .i64
 (gI (List.take (7:Nat) (List.drop (0:Nat) (u0.getD (IntKind.i64.wrap (t2+t10)).toNat [])))
 (2:Nat)),
 .int .i64
 (gI (List.take (7:Nat) (List.drop (0:Nat) (u0.getD (IntKind.i64.wrap (t2+t10)).toNat [])))
 (3:Nat)),
 .str
 (gS (List.take (7:Nat) (List.drop (0:Nat) (u0.getD (IntKind.i64.wrap (t2+t10)).toNat [])))
 (4:Nat)),
 .sl SK.any (6:Nat)
 (gR (List.take (7:Nat) (List.drop (0:Nat) (u0.getD (IntKind.i64.wrap (t2+t10)).toNat [])))
 (5:Nat)),
 .sl SK.any (7:Nat)
 (gR (List.take (7:Nat) (List.drop (0:Nat) (u0.getD (IntKind.i64.wrap (t2+t10)).toNat [])))
 (6:Nat))]).length:
 Int))
 (Af ((IntKind.i64.wrap (t2+t10)).toNat<
 (u0.set (IntKind.i64.wrap (t1+t10)).toNat
 [.str
 (gS (List.take 7 (List.drop 0 (u0.getD (IntKind.i64.wrap (t2+t10)).toNat []))) 0),
 .int .i64
 (gI (List.take 7 (List.drop 0 (u0.getD (IntKind.i64.wrap (t2+t10)).toNat []))) 1),
 .int .i64
 (gI (List.take 7 (List.drop 0 (u0.getD (IntKind.i64.wrap (t2+t10)).toNat []))) 2),
 .int .i64
 (gI (List.take 7 (List.drop 0 (u0.getD (IntKind.i64.wrap (t2+t10)).toNat []))) 3),
 .str
 (gS (List.take 7 (List.drop 0 (u0.getD (IntKind.i64.wrap (t2+t10)).toNat []))) 4),
 .sl SK.any 6
 (gR (List.take 7 (List.drop 0 (u0.getD (IntKind.i64.wrap (t2+t10)).toNat []))) 5),
 .sl SK.any 7
 (gR (List.take 7 (List.drop 0 (u0.getD (IntKind.i64.wrap (t2+t10)).toNat [])))
 6)]).length)
 (Eo t1 t2 t3 (IntKind.i64.wrap (t10+(1:Int))) ((u0.set (IntKind.i64.wrap (t1+t10)).toNat
 [.str
 (gS (List.take 7 (List.drop 0 (u0.getD (IntKind.i64.wrap (t2+t10)).toNat []))) 0),
 .int .i64
 (gI (List.take 7 (List.drop 0 (u0.getD (IntKind.i64.wrap (t2+t10)).toNat []))) 1),
 .int .i64
 (gI (List.take 7 (List.drop 0 (u0.getD (IntKind.i64.wrap (t2+t10)).toNat []))) 2),
 .int .i64
 (gI (List.take 7 (List.drop 0 (u0.getD (IntKind.i64.wrap (t2+t10)).toNat []))) 3),
 .str
 (gS (List.take 7 (List.drop 0 (u0.getD (IntKind.i64.wrap (t2+t10)).toNat []))) 4),
 .sl SK.any 6
 (gR (List.take 7 (List.drop 0 (u0.getD (IntKind.i64.wrap (t2+t10)).toNat []))) 5),
 .sl SK.any 7
 (gR (List.take 7 (List.drop 0 (u0.getD (IntKind.i64.wrap (t2+t10)).toNat [])))
 6)]).set
 (IntKind.i64.wrap (t2+t10)).toNat
 [.str (gS (List.take 7 (List.drop 0 (u0.getD (IntKind.i64.wrap (t1+t10)).toNat []))) 0),
 .int .i64
 (gI (List.take 7 (List.drop 0 (u0.getD (IntKind.i64.wrap (t1+t10)).toNat []))) 1),
 .int .i64
 (gI (List.take 7 (List.drop 0 (u0.getD (IntKind.i64.wrap (t1+t10)).toNat []))) 2),
 .int .i64
 (gI (List.take 7 (List.drop 0 (u0.getD (IntKind.i64.wrap (t1+t10)).toNat []))) 3),
 .str (gS (List.take 7 (List.drop 0 (u0.getD (IntKind.i64.wrap (t1+t10)).toNat []))) 4),
 .sl SK.any 6
 (gR (List.take 7 (List.drop 0 (u0.getD (IntKind.i64.wrap (t1+t10)).toNat []))) 5),
 .sl SK.any 7
 (gR (List.take 7 (List.drop 0 (u0.getD (IntKind.i64.wrap (t1+t10)).toNat []))) 6)]) K)))))))))
 (K (.exit 0) ⟨[],[(Am, .arr 1 true 7 u0)]⟩))):Eo t1 t2 t3 t10 u0 K:=Bq (Ar E0 Cq) (A8 Cq) 3 1 (Au 1 ac_slices_swapRangeCmpFunc_Pair) [0,1,2,3,10] _ K rfl (kr (by kernel_rfl) h)
theorem P7(rows:LL)(Q:QQ)(u0:LL)(h:
 (Q (.tup []) [(Am, .arr 1 true 7 u0)])):Ke rows Q (.exit 0) ⟨[],[(Am, .arr 1 true 7 u0)]⟩:=kr (by kernel_rfl) h
theorem Tm:Cf E0.P 147 ac_slices_swapRangeCmpFunc_Pair.code Cq []:=Bu _ _ Tryd.f147 [(1,[0,1,2,3,10],[]),(3,[],[])] [] _ 38 Tryd.func147 (by kernel_rfl) (by kernel_rfl) (by kernel_rfl) (by kernel_rfl)
theorem Q5(rows:LL)(a1 a2 a3:Int)(Q:QQ)(h:
 (Eo a1 a2 a3 ((0:Int)) rows (Ke rows Q))):Call E0.P Dl [.own (.arg 0),Ai a1,Ai a2,Ai a3, .fn Ad []] [(.arg 0, .arr 1 true 7 rows)] Q:=Bb (Ar E0 Cq) (A8 Cq) 3 1 147 ac_slices_swapRangeCmpFunc_Pair [] Tm _ _ Q rfl rfl (kr (by kernel_rfl) h)
noncomputable def ac_slices_rotateCmpFunc_Pair:AC:=(Ba [(2,[0,2,4,10,11],[]),(4,[0,2,4,10],[]),(9,[0,2,4,10],[])] [] (codeOf Tryd.f141) 0).1
abbrev Bp:Nat:=58
def D8(t2 t10 t11:Int)(u0:LL)(K:KK):Prop:=Bz 2 E0.P Bp (Au 2 ac_slices_rotateCmpFunc_Pair).code ⟨[(0, .own Am),(2,Ai t2),(4, .fn Ad []),(10,Ai t10),(11,Ai t11)],[(Am, .arr 1 true 7 u0)]⟩ K
def Lv(t2 t10:Int)(u0:LL)(K:KK):Prop:=Aq 9 E0.P Bp (Ae 9 ac_slices_rotateCmpFunc_Pair).code ⟨[(0, .own Am),(2,Ai t2),(4, .fn Ad []),(10,Ai t10)],[(Am, .arr 1 true 7 u0)]⟩ K
def Hy(rows:LL)(Q:QQ):KK:=kE fun st=>finish (1) E0.T [] [(Am, .arr 1 true 7 rows)] Q st
def Hz(rows:LL)(Q:QQ):KK:=kF 0 (fun st=>Aq 9 E0.P Bp (Ae 9 ac_slices_rotateCmpFunc_Pair).code (mask [0,2,4,10] st) (Hy rows Q)) fun st=>finish (1) E0.T [] [(Am, .arr 1 true 7 rows)] Q st
theorem Sa(t2 t10 t11:Int)(u0:LL)(K:KK)(h:
 (Br (!decide (t10=t11))
 (Br (decide (t11<t10))
 (Call E0.P Dl [.own Am,Ai (IntKind.i64.wrap (t2 - t10)),Ai t2,Ai t11, .fn Ad []] [(Am, .arr 1 true 7 u0)] fun r0 g0=>
 Af (qV2 g0 r0)
 (D8 t2 (IntKind.i64.wrap (t10 - t11)) t11 (Eu g0 Am) K))
 (Call E0.P Dl [.own Am,Ai (IntKind.i64.wrap (t2 - t10)),Ai (IntKind.i64.wrap (IntKind.i64.wrap (t2+t11) - t10)),Ai t10, .fn Ad []] [(Am, .arr 1 true 7 u0)] fun r1 g1=>
 Af (qV2 g1 r1)
 (D8 t2 t10 (IntKind.i64.wrap (t11 - t10)) (Eu g1 Am) K)))
 (K (.exit 0) ⟨[(0, .own Am),(2,Ai t2),(4, .fn Ad []),(10,Ai t10)],[(Am, .arr 1 true 7 u0)]⟩))):D8 t2 t10 t11 u0 K:=Bq (Ar E0 Bp) (A8 Bp) 3 2 (Au 2 ac_slices_rotateCmpFunc_Pair) [0,2,4,10,11] _ K rfl (kr (by kernel_rfl) h)
theorem Rv(t2 t10:Int)(u0:LL)(K:KK)(h:
 (Call E0.P Dl [.own Am,Ai (IntKind.i64.wrap (t2 - t10)),Ai t2,Ai t10, .fn Ad []] [(Am, .arr 1 true 7 u0)] fun r0 g0=>
 Af (qV2 g0 r0)
 (K .normal ⟨[],[(Am, .arr 1 true 7 (Eu g0 Am))]⟩))):Lv t2 t10 u0 K:=Aw (Ar E0 Bp) (A8 Bp) 3 9 (Ae 9 ac_slices_rotateCmpFunc_Pair) [] _ K rfl (kr (by kernel_rfl) h)
theorem Ry(rows:LL)(Q:QQ)(u0:LL)(h:
 (Q (.tup []) [(Am, .arr 1 true 7 u0)])):Hy rows Q .normal ⟨[],[(Am, .arr 1 true 7 u0)]⟩:=kr (by kernel_rfl) h
theorem Rz(rows:LL)(Q:QQ)(t2 t10:Int)(u0:LL)(h:
 (Lv t2 t10 u0 (Hy rows Q))):Hz rows Q (.exit 0) ⟨[(0, .own Am),(2,Ai t2),(4, .fn Ad []),(10,Ai t10)],[(Am, .arr 1 true 7 u0)]⟩:=kr (by kernel_rfl) h
theorem V7:Cf E0.P 141 ac_slices_rotateCmpFunc_Pair.code Bp []:=Bu _ _ Tryd.f141 [(2,[0,2,4,10,11],[]),(4,[0,2,4,10],[]),(9,[0,2,4,10],[])] [] _ 58 Tryd.func141 (by kernel_rfl) (by kernel_rfl) (by kernel_rfl) (by kernel_rfl)
theorem Tp(rows:LL)(a1 a2 a3:Int)(Q:QQ)(h:
 (D8 a2 (IntKind.i64.wrap (a2 - a1)) (IntKind.i64.wrap (a3 - a2)) rows (Hz rows Q))):Call E0.P Il [.own (.arg 0),Ai a1,Ai a2,Ai a3, .fn Ad []] [(.arg 0, .arr 1 true 7 rows)] Q:=Bb (Ar E0 Bp) (A8 Bp) 3 1 141 ac_slices_rotateCmpFunc_Pair [] V7 _ _ Q rfl rfl (kr (by kernel_rfl) h)
noncomputable def ac_slices_symMergeCmpFunc_Pair:AC:=(Ba [(3,[0,1,4,10,11],[]),(5,[0,1,10],[]),(9,[0,1,10],[0,1,2,3,4]),(11,[0,10,13],[]),(13,[],[]),(16,[],[0,1,2,3,4]),(17,[0,1,2,3,4],[]),(21,[0,2,4,14,15],[]),(23,[0,2,14],[]),(27,[0,2,14],[0,1,2,3,4]),(29,[0,14,17],[]),(31,[],[]),(34,[],[0,1,2,3,4]),(35,[0,1,2,3,4],[]),(42,[0,1,2,3,4,18,19,20,21],[]),(44,[0,1,2,3,4,18,19,20,21,22],[]),(46,[0,1,2,3,4,18,19,20],[]),(50,[0,1,2,3,4,18,19,20],[]),(53,[0,1,3,4,18,20,24],[]),(55,[0,3,4,18,24],[])] [] (codeOf Tryd.f132) 0).1
abbrev Aa:Nat:=220
def Dk(t1 t10 t11:Int)(u0:LL)(K:KK):Prop:=Bz 3 E0.P Aa (Au 3 ac_slices_symMergeCmpFunc_Pair).code ⟨[(0, .own Am),(1,Ai t1),(4, .fn Ad []),(10,Ai t10),(11,Ai t11)],[(Am, .arr 1 true 7 u0)]⟩ K
def J9(t1 t2 t3:Int)(u0:LL)(K:KK):Prop:=Aq 17 E0.P Aa (Ae 17 ac_slices_symMergeCmpFunc_Pair).code ⟨[(0, .own Am),(1,Ai t1),(2,Ai t2),(3,Ai t3),(4, .fn Ad [])],[(Am, .arr 1 true 7 u0)]⟩ K
def Dh(t2 t14 t15:Int)(u0:LL)(K:KK):Prop:=Bz 21 E0.P Aa (Au 21 ac_slices_symMergeCmpFunc_Pair).code ⟨[(0, .own Am),(2,Ai t2),(4, .fn Ad []),(14,Ai t14),(15,Ai t15)],[(Am, .arr 1 true 7 u0)]⟩ K
def Kc(t1 t2 t3:Int)(u0:LL)(K:KK):Prop:=Aq 35 E0.P Aa (Ae 35 ac_slices_symMergeCmpFunc_Pair).code ⟨[(0, .own Am),(1,Ai t1),(2,Ai t2),(3,Ai t3),(4, .fn Ad [])],[(Am, .arr 1 true 7 u0)]⟩ K
def Gf(t1 t2:Int)(t3 t18:Int)(t19 t20 t21:Int)(u0:LL)(K:KK):Prop:=Aq 42 E0.P Aa (Ae 42 ac_slices_symMergeCmpFunc_Pair).code ⟨[(0, .own Am),(1,Ai t1),(2,Ai t2),(3,Ai t3),(4, .fn Ad []),(18,Ai t18),(19,Ai t19),(20,Ai t20),(21,Ai t21)],[(Am, .arr 1 true 7 u0)]⟩ K
def Co(t1 t2:Int)(t3 t18:Int)(t19 t20:Int)(t21 t22:Int)(u0:LL)(K:KK):Prop:=Bz 44 E0.P Aa (Au 44 ac_slices_symMergeCmpFunc_Pair).code ⟨[(0, .own Am),(1,Ai t1),(2,Ai t2),(3,Ai t3),(4, .fn Ad []),(18,Ai t18),(19,Ai t19),(20,Ai t20),(21,Ai t21),(22,Ai t22)],[(Am, .arr 1 true 7 u0)]⟩ K
def Kt(t1 t10:Int)(u0:LL)(K:KK):Prop:=Aq 9 E0.P Aa (Ae 9 ac_slices_symMergeCmpFunc_Pair).code ⟨[(0, .own Am),(1,Ai t1),(10,Ai t10)],[(Am, .arr 1 true 7 u0)]⟩ K
def Ka(t2 t14:Int)(u0:LL)(K:KK):Prop:=Aq 27 E0.P Aa (Ae 27 ac_slices_symMergeCmpFunc_Pair).code ⟨[(0, .own Am),(2,Ai t2),(14,Ai t14)],[(Am, .arr 1 true 7 u0)]⟩ K
def Ej(t1 t2:Int)(t3 t18:Int)(t19 t20:Int)(u0:LL)(K:KK):Prop:=Aq 50 E0.P Aa (Ae 50 ac_slices_symMergeCmpFunc_Pair).code ⟨[(0, .own Am),(1,Ai t1),(2,Ai t2),(3,Ai t3),(4, .fn Ad []),(18,Ai t18),(19,Ai t19),(20,Ai t20)],[(Am, .arr 1 true 7 u0)]⟩ K
def Ep(t10 t13:Int)(u0:LL)(K:KK):Prop:=Bz 11 E0.P Aa (Au 11 ac_slices_symMergeCmpFunc_Pair).code ⟨[(0, .own Am),(10,Ai t10),(13,Ai t13)],[(Am, .arr 1 true 7 u0)]⟩ K
def Er(t14 t17:Int)(u0:LL)(K:KK):Prop:=Bz 29 E0.P Aa (Au 29 ac_slices_symMergeCmpFunc_Pair).code ⟨[(0, .own Am),(14,Ai t14),(17,Ai t17)],[(Am, .arr 1 true 7 u0)]⟩ K
def El(t1 t3:Int)(t18 t20 t24:Int)(u0:LL)(K:KK):Prop:=Aq 53 E0.P Aa (Ae 53 ac_slices_symMergeCmpFunc_Pair).code ⟨[(0, .own Am),(1,Ai t1),(3,Ai t3),(4, .fn Ad []),(18,Ai t18),(20,Ai t20),(24,Ai t24)],[(Am, .arr 1 true 7 u0)]⟩ K
def Em(t3 t18 t24:Int)(u0:LL)(K:KK):Prop:=Aq 55 E0.P Aa (Ae 55 ac_slices_symMergeCmpFunc_Pair).code ⟨[(0, .own Am),(3,Ai t3),(4, .fn Ad []),(18,Ai t18),(24,Ai t24)],[(Am, .arr 1 true 7 u0)]⟩ K
def J8(u0:LL)(K:KK):Prop:=Aq 16 E0.P Aa (Ae 16 ac_slices_symMergeCmpFunc_Pair).code ⟨[],[(Am, .arr 1 true 7 u0)]⟩ K
def Kb(u0:LL)(K:KK):Prop:=Aq 34 E0.P Aa (Ae 34 ac_slices_symMergeCmpFunc_Pair).code ⟨[],[(Am, .arr 1 true 7 u0)]⟩ K
def Di(rows:LL)(Q:QQ):KK:=kE fun st=>finish (1) E0.T [] [(Am, .arr 1 true 7 rows)] Q st
def Gn(rows:LL)(Q:QQ):Ex→St→Prop
 | .normal,st=>Aq 17 E0.P Aa (Ae 17 ac_slices_symMergeCmpFunc_Pair).code (mask [0,1,2,3,4] st) (Di rows Q)
 | .exit _,_=>False
 | .goto _,_=>False
 | .ret,st=>finish (1) E0.T [] [(Am, .arr 1 true 7 rows)] Q st
def Ku(rows:LL)(Q:QQ):KK:=kF 0 (fun st=>Aq 9 E0.P Aa (Ae 9 ac_slices_symMergeCmpFunc_Pair).code (mask [0,1,10] st) (Gn rows Q)) fun st=>finish (1) E0.T [] [(Am, .arr 1 true 7 rows)] Q st
def Av(K:KK):KK:=kP [] K
def Gp(K:KK):Ex→St→Prop
 | .normal,st=>Aq 35 E0.P Aa (Ae 35 ac_slices_symMergeCmpFunc_Pair).code (mask [0,1,2,3,4] st) (Av K)
 | .exit i,st=>K (.exit i) st
 | .goto i,st=>K (.goto i) st
 | .ret,st=>K .ret st
def Kv(K:KK):KK:=kC 4 (fun st=>Aq 27 E0.P Aa (Ae 27 ac_slices_symMergeCmpFunc_Pair).code (mask [0,2,14] st) (Gp K)) K
def Gq(K:KK):KK:=kC 8 (fun st=>Aq 50 E0.P Aa (Ae 50 ac_slices_symMergeCmpFunc_Pair).code (mask [0,1,2,3,4,18,19,20] st) (Av K)) K
def Dj(K:KK):KK:=kP [0,1,2,3,4] K
def Kw(K:KK):KK:=kC 2 (fun st=>Aq 16 E0.P Aa (Ae 16 ac_slices_symMergeCmpFunc_Pair).code (mask [] st) (Dj K)) K
def Kz(K:KK):KK:=kC 6 (fun st=>Aq 34 E0.P Aa (Ae 34 ac_slices_symMergeCmpFunc_Pair).code (mask [] st) (Dj K)) K
theorem Jp(t1 t10 t11:Int)(u0:LL)(K:KK)(h:
 (Br (decide (t10<t11))
 (Af ((0:Int)≤(1:Int))
 (Af ((0:Int)≤IntKind.i64.wrap ((IntKind.u64.wrap (IntKind.i64.wrap (t10+t11))).fdiv ((2:Int) ^ 1))∧
 IntKind.i64.wrap ((IntKind.u64.wrap (IntKind.i64.wrap (t10+t11))).fdiv ((2:Int) ^ 1))<
 (↑u0.length:Int))
 (Af ((IntKind.i64.wrap ((IntKind.u64.wrap (IntKind.i64.wrap (t10+t11))).fdiv ((2:Int) ^ 1))).toNat<u0.length∧
 Cb
 [.str, .int .i64, .int .i64, .int .i64, .str, .sl 6 Ac,
 .sl 7 Ak]
 (List.take 7
 (List.drop 0
 (u0.getD
 (IntKind.i64.wrap ((IntKind.u64.wrap (IntKind.i64.wrap (t10+t11))).fdiv ((2:Int) ^ 1))).toNat
 [])))=
 true)
 (Af ((0:Int)≤t1∧t1<(↑u0.length:Int))
 (Af (t1.toNat<u0.length∧
 Cb
 [.str, .int .i64, .int .i64, .int .i64, .str, .sl 6 Ac,
 .sl 7 Ak]
 (List.take 7 (List.drop 0 (u0.getD t1.toNat [])))=
 true)
 (Call E0.P Ad [.imm (.agg [.str (gS
 (List.take 7
 (List.drop 0
 (u0.getD
 (IntKind.i64.wrap ((IntKind.u64.wrap (IntKind.i64.wrap (t10+t11))).fdiv ((2:Int) ^ 1))).toNat [])))
 0), .int .i64 (gI
 (List.take 7
 (List.drop 0
 (u0.getD
 (IntKind.i64.wrap ((IntKind.u64.wrap (IntKind.i64.wrap (t10+t11))).fdiv ((2:Int) ^ 1))).toNat [])))
 1), .int .i64 (gI
 (List.take 7
 (List.drop 0
 (u0.getD
 (IntKind.i64.wrap ((IntKind.u64.wrap (IntKind.i64.wrap (t10+t11))).fdiv ((2:Int) ^ 1))).toNat [])))
 2), .int .i64 (gI
 (List.take 7
 (List.drop 0
 (u0.getD
 (IntKind.i64.wrap ((IntKind.u64.wrap (IntKind.i64.wrap (t10+t11))).fdiv ((2:Int) ^ 1))).toNat [])))
 3), .str (gS
 (List.take 7
 (List.drop 0
 (u0.getD
 (IntKind.i64.wrap ((IntKind.u64.wrap (IntKind.i64.wrap (t10+t11))).fdiv ((2:Int) ^ 1))).toNat [])))
 4), .sl .any 6 (gR
 (List.take 7
 (List.drop 0
 (u0.getD
 (IntKind.i64.wrap ((IntKind.u64.wrap (IntKind.i64.wrap (t10+t11))).fdiv ((2:Int) ^ 1))).toNat [])))
 5), .sl .any 7 (gR
 (List.take 7
 (List.drop 0
 (u0.getD
 (IntKind.i64.wrap ((IntKind.u64.wrap (IntKind.i64.wrap (t10+t11))).fdiv ((2:Int) ^ 1))).toNat [])))
 6)]), .imm (.agg [.str (gS (List.take 7 (List.drop 0 (u0.getD t1.toNat []))) 0), .int .i64 (gI (List.take 7 (List.drop 0 (u0.getD t1.toNat []))) 1), .int .i64 (gI (List.take 7 (List.drop 0 (u0.getD t1.toNat []))) 2), .int .i64 (gI (List.take 7 (List.drop 0 (u0.getD t1.toNat []))) 3), .str (gS (List.take 7 (List.drop 0 (u0.getD t1.toNat []))) 4), .sl .any 6 (gR (List.take 7 (List.drop 0 (u0.getD t1.toNat []))) 5), .sl .any 7 (gR (List.take 7 (List.drop 0 (u0.getD t1.toNat []))) 6)])] [] fun r0 g0=>
 Af (qV1 g0 r0)
 (Br (decide (rI r0<(0:Int)))
 (Dk t1 (IntKind.i64.wrap
 (IntKind.i64.wrap ((IntKind.u64.wrap (IntKind.i64.wrap (t10+t11))).fdiv ((2:Int) ^ 1))+(1:Int))) t11 u0 K)
 (Dk t1 t10 (IntKind.i64.wrap ((IntKind.u64.wrap (IntKind.i64.wrap (t10+t11))).fdiv ((2:Int) ^ 1))) u0 K))))))))
 (K (.exit 0) ⟨[(0, .own Am),(1,Ai t1),(10,Ai t10)],[(Am, .arr 1 true 7 u0)]⟩))):Dk t1 t10 t11 u0 K:=Bq (Ar E0 Aa) (A8 Aa) 3 3 (Au 3 ac_slices_symMergeCmpFunc_Pair) [0,1,4,10,11] _ K rfl (kr (by kernel_rfl) h)
theorem Pp(t1 t2 t3:Int)(u0:LL)(K:KK)(h:
 (Br (decide (IntKind.i64.wrap (t3 - t2)=(1:Int)))
 (Dh t2 t1 t2 u0 (Kv K))
 (Kc t1 t2 t3 u0 (Av K)))):J9 t1 t2 t3 u0 K:=Aw (Ar E0 Aa) (A8 Aa) 3 17 (Ae 17 ac_slices_symMergeCmpFunc_Pair) [] _ K rfl (kr (by kernel_rfl) h)
theorem I9(t2 t14 t15:Int)(u0:LL)(K:KK)(h:
 (Br (decide (t14<t15))
 (Af ((0:Int)≤(1:Int))
 (Af ((0:Int)≤t2∧t2<(↑u0.length:Int))
 (Af (t2.toNat<u0.length∧
 Cb
 [.str, .int .i64, .int .i64, .int .i64, .str, .sl 6 Ac,
 .sl 7 Ak]
 (List.take 7 (List.drop 0 (u0.getD t2.toNat [])))=
 true)
 (Af ((0:Int)≤IntKind.i64.wrap ((IntKind.u64.wrap (IntKind.i64.wrap (t14+t15))).fdiv ((2:Int) ^ 1))∧
 IntKind.i64.wrap ((IntKind.u64.wrap (IntKind.i64.wrap (t14+t15))).fdiv ((2:Int) ^ 1))<
 (↑u0.length:Int))
 (Af ((IntKind.i64.wrap ((IntKind.u64.wrap (IntKind.i64.wrap (t14+t15))).fdiv ((2:Int) ^ 1))).toNat<u0.length∧
 Cb
 [.str, .int .i64, .int .i64, .int .i64, .str, .sl 6 Ac,
 .sl 7 Ak]
 (List.take 7
 (List.drop 0
 (u0.getD
 (IntKind.i64.wrap ((IntKind.u64.wrap (IntKind.i64.wrap (t14+t15))).fdiv ((2:Int) ^ 1))).toNat
 [])))=
 true)
 (Call E0.P Ad [.imm (.agg [.str (gS (List.take 7 (List.drop 0 (u0.getD t2.toNat []))) 0), .int .i64 (gI (List.take 7 (List.drop 0 (u0.getD t2.toNat []))) 1), .int .i64 (gI (List.take 7 (List.drop 0 (u0.getD t2.toNat []))) 2), .int .i64 (gI (List.take 7 (List.drop 0 (u0.getD t2.toNat []))) 3), .str (gS (List.take 7 (List.drop 0 (u0.getD t2.toNat []))) 4), .sl .any 6 (gR (List.take 7 (List.drop 0 (u0.getD t2.toNat []))) 5), .sl .any 7 (gR (List.take 7 (List.drop 0 (u0.getD t2.toNat []))) 6)]), .imm (.agg [.str (gS
 (List.take 7
 (List.drop 0
 (u0.getD
 (IntKind.i64.wrap ((IntKind.u64.wrap (IntKind.i64.wrap (t14+t15))).fdiv ((2:Int) ^ 1))).toNat [])))
 0), .int .i64 (gI
 (List.take 7
 (List.drop 0
 (u0.getD
 (IntKind.i64.wrap ((IntKind.u64.wrap (IntKind.i64.wrap (t14+t15))).fdiv ((2:Int) ^ 1))).toNat [])))
 1), .int .i64 (gI
 (List.take 7
 (List.drop 0
 (u0.getD
 (IntKind.i64.wrap ((IntKind.u64.wrap (IntKind.i64.wrap (t14+t15))).fdiv ((2:Int) ^ 1))).toNat [])))
 2), .int .i64 (gI
 (List.take 7
 (List.drop 0
 (u0.getD
 (IntKind.i64.wrap ((IntKind.u64.wrap (IntKind.i64.wrap (t14+t15))).fdiv ((2:Int) ^ 1))).toNat [])))
 3), .str (gS
 (List.take 7
 (List.drop 0
 (u0.getD
 (IntKind.i64.wrap ((IntKind.u64.wrap (IntKind.i64.wrap (t14+t15))).fdiv ((2:Int) ^ 1))).toNat [])))
 4), .sl .any 6 (gR
 (List.take 7
 (List.drop 0
 (u0.getD
 (IntKind.i64.wrap ((IntKind.u64.wrap (IntKind.i64.wrap (t14+t15))).fdiv ((2:Int) ^ 1))).toNat [])))
 5), .sl .any 7 (gR
 (List.take 7
 (List.drop 0
 (u0.getD
 (IntKind.i64.wrap ((IntKind.u64.wrap (IntKind.i64.wrap (t14+t15))).fdiv ((2:Int) ^ 1))).toNat [])))
 6)])] [] fun r0 g0=>
 Af (qV1 g0 r0)
 (Br (!decide (rI r0<(0:Int)))
 (Dh t2 (IntKind.i64.wrap
 (IntKind.i64.wrap ((IntKind.u64.wrap (IntKind.i64.wrap (t14+t15))).fdiv ((2:Int) ^ 1))+(1:Int))) t15 u0 K)
 (Dh t2 t14 (IntKind.i64.wrap ((IntKind.u64.wrap (IntKind.i64.wrap (t14+t15))).fdiv ((2:Int) ^ 1))) u0 K))))))))
 (K (.exit (4)) ⟨[(0, .own Am),(2,Ai t2),(14,Ai t14)],[(Am, .arr 1 true 7 u0)]⟩))):Dh t2 t14 t15 u0 K:=Bq (Ar E0 Aa) (A8 Aa) 3 21 (Au 21 ac_slices_symMergeCmpFunc_Pair) [0,2,4,14,15] _ K rfl (kr (by kernel_rfl) h)
theorem Pv(t1 t2 t3:Int)(u0:LL)(K:KK)(h:
 (Af ((0:Int)≤(1:Int))
 (Br (decide (IntKind.i64.wrap ((IntKind.u64.wrap (IntKind.i64.wrap (t1+t3))).fdiv ((2:Int) ^ 1))<t2))
 (Gf t1 t2 t3 (IntKind.i64.wrap ((IntKind.u64.wrap (IntKind.i64.wrap (t1+t3))).fdiv ((2:Int) ^ 1))) (IntKind.i64.wrap (IntKind.i64.wrap ((IntKind.u64.wrap (IntKind.i64.wrap (t1+t3))).fdiv ((2:Int) ^ 1))+t2)) (IntKind.i64.wrap
 (IntKind.i64.wrap
 (IntKind.i64.wrap ((IntKind.u64.wrap (IntKind.i64.wrap (t1+t3))).fdiv ((2:Int) ^ 1))+t2) -
 t3)) (IntKind.i64.wrap ((IntKind.u64.wrap (IntKind.i64.wrap (t1+t3))).fdiv ((2:Int) ^ 1))) u0 (Av K))
 (Gf t1 t2 t3 (IntKind.i64.wrap ((IntKind.u64.wrap (IntKind.i64.wrap (t1+t3))).fdiv ((2:Int) ^ 1))) (IntKind.i64.wrap (IntKind.i64.wrap ((IntKind.u64.wrap (IntKind.i64.wrap (t1+t3))).fdiv ((2:Int) ^ 1))+t2)) t1 t2 u0 (Av K))))):Kc t1 t2 t3 u0 K:=Aw (Ar E0 Aa) (A8 Aa) 3 35 (Ae 35 ac_slices_symMergeCmpFunc_Pair) [] _ K rfl (kr (by kernel_rfl) h)
theorem I4(t1 t2:Int)(t3 t18:Int)(t19 t20 t21:Int)(u0:LL)(K:KK)(h:
 (Co t1 t2 t3 t18 t19 t20 t21 (IntKind.i64.wrap (t19 - (1:Int))) u0 (Gq K))):Gf t1 t2 t3 t18 t19 t20 t21 u0 K:=Aw (Ar E0 Aa) (A8 Aa) 3 42 (Ae 42 ac_slices_symMergeCmpFunc_Pair) [] _ K rfl (kr (by kernel_rfl) h)
theorem Jb(t1 t2:Int)(t3 t18:Int)(t19 t20:Int)(t21 t22:Int)(u0:LL)(K:KK)(h:
 (Br (decide (t20<t21))
 (Af ((0:Int)≤(1:Int))
 (Af ((0:Int)≤
 IntKind.i64.wrap
 (t22 - IntKind.i64.wrap ((IntKind.u64.wrap (IntKind.i64.wrap (t20+t21))).fdiv ((2:Int) ^ 1)))∧
 IntKind.i64.wrap
 (t22 - IntKind.i64.wrap ((IntKind.u64.wrap (IntKind.i64.wrap (t20+t21))).fdiv ((2:Int) ^ 1)))<
 (↑u0.length:Int))
 (Af ((IntKind.i64.wrap
 (t22 -
 IntKind.i64.wrap ((IntKind.u64.wrap (IntKind.i64.wrap (t20+t21))).fdiv ((2:Int) ^ 1)))).toNat<
 u0.length∧
 Cb
 [.str, .int .i64, .int .i64, .int .i64, .str, .sl 6 Ac,
 .sl 7 Ak]
 (List.take 7
 (List.drop 0
 (u0.getD
 (IntKind.i64.wrap
 (t22 -
 IntKind.i64.wrap
 ((IntKind.u64.wrap (IntKind.i64.wrap (t20+t21))).fdiv ((2:Int) ^ 1)))).toNat
 [])))=
 true)
 (Af ((0:Int)≤IntKind.i64.wrap ((IntKind.u64.wrap (IntKind.i64.wrap (t20+t21))).fdiv ((2:Int) ^ 1))∧
 IntKind.i64.wrap ((IntKind.u64.wrap (IntKind.i64.wrap (t20+t21))).fdiv ((2:Int) ^ 1))<
 (↑u0.length:Int))
 (Af ((IntKind.i64.wrap ((IntKind.u64.wrap (IntKind.i64.wrap (t20+t21))).fdiv ((2:Int) ^ 1))).toNat<u0.length∧
 Cb
 [.str, .int .i64, .int .i64, .int .i64, .str, .sl 6 Ac,
 .sl 7 Ak]
 (List.take 7
 (List.drop 0
 (u0.getD
 (IntKind.i64.wrap ((IntKind.u64.wrap (IntKind.i64.wrap (t20+t21))).fdiv ((2:Int) ^ 1))).toNat
 [])))=
 true)
 (Call E0.P Ad [.imm (.agg [.str (gS
 (List.take 7
 (List.drop 0
 (u0.getD
 (IntKind.i64.wrap
 (t22 -
 IntKind.i64.wrap ((IntKind.u64.wrap (IntKind.i64.wrap (t20+t21))).fdiv ((2:Int) ^ 1)))).toNat
 [])))
 0), .int .i64 (gI
 (List.take 7
 (List.drop 0
 (u0.getD
 (IntKind.i64.wrap
 (t22 -
 IntKind.i64.wrap ((IntKind.u64.wrap (IntKind.i64.wrap (t20+t21))).fdiv ((2:Int) ^ 1)))).toNat
 [])))
 1), .int .i64 (gI
 (List.take 7
 (List.drop 0
 (u0.getD
 (IntKind.i64.wrap
 (t22 -
 IntKind.i64.wrap ((IntKind.u64.wrap (IntKind.i64.wrap (t20+t21))).fdiv ((2:Int) ^ 1)))).toNat
 [])))
 2), .int .i64 (gI
 (List.take 7
 (List.drop 0
 (u0.getD
 (IntKind.i64.wrap
 (t22 -
 IntKind.i64.wrap ((IntKind.u64.wrap (IntKind.i64.wrap (t20+t21))).fdiv ((2:Int) ^ 1)))).toNat
 [])))
 3), .str (gS
 (List.take 7
 (List.drop 0
 (u0.getD
 (IntKind.i64.wrap
 (t22 -
 IntKind.i64.wrap ((IntKind.u64.wrap (IntKind.i64.wrap (t20+t21))).fdiv ((2:Int) ^ 1)))).toNat
 [])))
 4), .sl .any 6 (gR
 (List.take 7
 (List.drop 0
 (u0.getD
 (IntKind.i64.wrap
 (t22 -
 IntKind.i64.wrap ((IntKind.u64.wrap (IntKind.i64.wrap (t20+t21))).fdiv ((2:Int) ^ 1)))).toNat
 [])))
 5), .sl .any 7 (gR
 (List.take 7
 (List.drop 0
 (u0.getD
 (IntKind.i64.wrap
 (t22 -
 IntKind.i64.wrap ((IntKind.u64.wrap (IntKind.i64.wrap (t20+t21))).fdiv ((2:Int) ^ 1)))).toNat
 [])))
 6)]), .imm (.agg [.str (gS
 (List.take 7
 (List.drop 0
 (u0.getD
 (IntKind.i64.wrap ((IntKind.u64.wrap (IntKind.i64.wrap (t20+t21))).fdiv ((2:Int) ^ 1))).toNat [])))
 0), .int .i64 (gI
 (List.take 7
 (List.drop 0
 (u0.getD
 (IntKind.i64.wrap ((IntKind.u64.wrap (IntKind.i64.wrap (t20+t21))).fdiv ((2:Int) ^ 1))).toNat [])))
 1), .int .i64 (gI
 (List.take 7
 (List.drop 0
 (u0.getD
 (IntKind.i64.wrap ((IntKind.u64.wrap (IntKind.i64.wrap (t20+t21))).fdiv ((2:Int) ^ 1))).toNat [])))
 2), .int .i64 (gI
 (List.take 7
 (List.drop 0
 (u0.getD
 (IntKind.i64.wrap ((IntKind.u64.wrap (IntKind.i64.wrap (t20+t21))).fdiv ((2:Int) ^ 1))).toNat [])))
 3), .str (gS
 (List.take 7
 (List.drop 0
 (u0.getD
 (IntKind.i64.wrap ((IntKind.u64.wrap (IntKind.i64.wrap (t20+t21))).fdiv ((2:Int) ^ 1))).toNat [])))
 4), .sl .any 6 (gR
 (List.take 7
 (List.drop 0
 (u0.getD
 (IntKind.i64.wrap ((IntKind.u64.wrap (IntKind.i64.wrap (t20+t21))).fdiv ((2:Int) ^ 1))).toNat [])))
 5), .sl .any 7 (gR
 (List.take 7
 (List.drop 0
 (u0.getD
 (IntKind.i64.wrap ((IntKind.u64.wrap (IntKind.i64.wrap (t20+t21))).fdiv ((2:Int) ^ 1))).toNat [])))
 6)])] [] fun r0 g0=>
 Af (qV1 g0 r0)
 (Br (!decide (rI r0<(0:Int)))
 (Co t1 t2 t3 t18 t19 (IntKind.i64.wrap
 (IntKind.i64.wrap ((IntKind.u64.wrap (IntKind.i64.wrap (t20+t21))).fdiv ((2:Int) ^ 1))+(1:Int))) t21 t22 u0 K)
 (Co t1 t2 t3 t18 t19 t20 (IntKind.i64.wrap ((IntKind.u64.wrap (IntKind.i64.wrap (t20+t21))).fdiv ((2:Int) ^ 1))) t22 u0 K))))))))
 (K (.exit (8)) ⟨[(0, .own Am),(1,Ai t1),(2,Ai t2),(3,Ai t3),(4, .fn Ad []),(18,Ai t18),(19,Ai t19),(20,Ai t20)],[(Am, .arr 1 true 7 u0)]⟩))):Co t1 t2 t3 t18 t19 t20 t21 t22 u0 K:=Bq (Ar E0 Aa) (A8 Aa) 3 44 (Au 44 ac_slices_symMergeCmpFunc_Pair) [0,1,2,3,4,18,19,20,21,22] _ K rfl (kr (by kernel_rfl) h)
theorem Qm(t1 t10:Int)(u0:LL)(K:KK)(h:
 (Ep t10 t1 u0 (Kw K))):Kt t1 t10 u0 K:=Aw (Ar E0 Aa) (A8 Aa) 3 9 (Ae 9 ac_slices_symMergeCmpFunc_Pair) [0,1,2,3,4] _ K rfl (kr (by kernel_rfl) h)
theorem Pq(t2 t14:Int)(u0:LL)(K:KK)(h:
 (Er t14 t2 u0 (Kz K))):Ka t2 t14 u0 K:=Aw (Ar E0 Aa) (A8 Aa) 3 27 (Ae 27 ac_slices_symMergeCmpFunc_Pair) [0,1,2,3,4] _ K rfl (kr (by kernel_rfl) h)
theorem Pw(t1 t2:Int)(t3 t18:Int)(t19 t20:Int)(u0:LL)(K:KK)(h:
 (Let (bif decide (t20<t2)then decide (t2<IntKind.i64.wrap (t19 - t20))else false) fun x0=>
 Br (x0)
 (Call E0.P Il [.own Am,Ai t20,Ai t2,Ai (IntKind.i64.wrap (t19 - t20)), .fn Ad []] [(Am, .arr 1 true 7 u0)] fun r1 g1=>
 Af (qV2 g1 r1)
 (El t1 t3 t18 t20 (IntKind.i64.wrap (t19 - t20)) (Eu g1 Am) (Av K)))
 (El t1 t3 t18 t20 (IntKind.i64.wrap (t19 - t20)) u0 (Av K)))):Ej t1 t2 t3 t18 t19 t20 u0 K:=Aw (Ar E0 Aa) (A8 Aa) 3 50 (Ae 50 ac_slices_symMergeCmpFunc_Pair) [] _ K rfl (kr (by kernel_rfl) h)
theorem I8(t10 t13:Int)(u0:LL)(K:KK)(h:
 (Br (decide (t13<IntKind.i64.wrap (t10 - (1:Int))))
 (Af ((0:Int)≤IntKind.i64.wrap (t13+(1:Int))∧IntKind.i64.wrap (t13+(1:Int))<(↑u0.length:Int))
 (Af ((IntKind.i64.wrap (t13+(1:Int))).toNat<u0.length∧
 Cb
 [.str, .int .i64, .int .i64, .int .i64, .str, .sl 6 Ac,
 .sl 7 Ak]
 (List.take 7 (List.drop 0 (u0.getD (IntKind.i64.wrap (t13+(1:Int))).toNat [])))=
 true)
 (Af ((0:Int)≤t13∧t13<(↑u0.length:Int))
 (Af (t13.toNat<u0.length∧
 Cb
 [.str, .int .i64, .int .i64, .int .i64, .str, .sl 6 Ac,
 .sl 7 Ak]
 (List.take 7 (List.drop 0 (u0.getD t13.toNat [])))=
 true)
 (Af ((0:Int)≤t13∧t13<(↑u0.length:Int))
 (Af (t13.toNat<u0.length)
 (Af ((0:Int)≤IntKind.i64.wrap (t13+(1:Int))∧
 IntKind.i64.wrap (t13+(1:Int))<
 (↑(u0.set t13.toNat
 [.str
 (gS (List.take (7:Nat) (List.drop (0:Nat) (u0.getD (IntKind.i64.wrap (t13+(1:Int))).toNat [])))
 (0:Nat)),
 .int .i64
 (gI (List.take (7:Nat) (List.drop (0:Nat) (u0.getD (IntKind.i64.wrap (t13+(1:Int))).toNat [])))
 (1:Nat)),
 .int .i64
 (gI (List.take (7:Nat) (List.drop (0:Nat) (u0.getD (IntKind.i64.wrap (t13+(1:Int))).toNat [])))
 (2:Nat)),
 .int .i64
 (gI (List.take (7:Nat) (List.drop (0:Nat) (u0.getD (IntKind.i64.wrap (t13+(1:Int))).toNat [])))
 (3:Nat)),
 .str
 (gS (List.take (7:Nat) (List.drop (0:Nat) (u0.getD (IntKind.i64.wrap (t13+(1:Int))).toNat [])))
 (4:Nat)),
 .sl SK.any (6:Nat)
 (gR (List.take (7:Nat) (List.drop (0:Nat) (u0.getD (IntKind.i64.wrap (t13+(1:Int))).toNat [])))
 (5:Nat)),
 .sl SK.any (7:Nat)
 (gR (List.take (7:Nat) (List.drop (0:Nat) (u0.getD (IntKind.i64.wrap (t13+(1:Int))).toNat [])))
 (6:Nat))]).length:
 Int))
 (Af ((IntKind.i64.wrap (t13+(1:Int))).toNat<
 (u0.set t13.toNat
 [.str
 (gS (List.take 7 (List.drop 0 (u0.getD (IntKind.i64.wrap (t13+(1:Int))).toNat [])))
 0),
 .int .i64
 (gI (List.take 7 (List.drop 0 (u0.getD (IntKind.i64.wrap (t13+(1:Int))).toNat [])))
 1),
 .int .i64
 (gI (List.take 7 (List.drop 0 (u0.getD (IntKind.i64.wrap (t13+(1:Int))).toNat [])))
 2),
 .int .i64
 (gI (List.take 7 (List.drop 0 (u0.getD (IntKind.i64.wrap (t13+(1:Int))).toNat [])))
 3),
 .str
 (gS (List.take 7 (List.drop 0 (u0.getD (IntKind.i64.wrap (t13+(1:Int))).toNat [])))
 4),
 .sl SK.any 6
 (gR (List.take 7 (List.drop 0 (u0.getD (IntKind.i64.wrap (t13+(1:Int))).toNat [])))
 5),
 .sl SK.any 7
 (gR (List.take 7 (List.drop 0 (u0.getD (IntKind.i64.wrap (t13+(1:Int))).toNat [])))
 6)]).length)
 (Ep t10 (IntKind.i64.wrap (t13+(1:Int))) ((u0.set t13.toNat
 [.str
 (gS (List.take 7 (List.drop 0 (u0.getD (IntKind.i64.wrap (t13+(1:Int))).toNat [])))
 0),
 .int .i64
 (gI (List.take 7 (List.drop 0 (u0.getD (IntKind.i64.wrap (t13+(1:Int))).toNat [])))
 1),
 .int .i64
 (gI (List.take 7 (List.drop 0 (u0.getD (IntKind.i64.wrap (t13+(1:Int))).toNat [])))
 2),
 .int .i64
 (gI (List.take 7 (List.drop 0 (u0.getD (IntKind.i64.wrap (t13+(1:Int))).toNat [])))
 3),
 .str
 (gS (List.take 7 (List.drop 0 (u0.getD (IntKind.i64.wrap (t13+(1:Int))).toNat [])))
 4),
 .sl SK.any 6
 (gR (List.take 7 (List.drop 0 (u0.getD (IntKind.i64.wrap (t13+(1:Int))).toNat [])))
 5),
 .sl SK.any 7
 (gR (List.take 7 (List.drop 0 (u0.getD (IntKind.i64.wrap (t13+(1:Int))).toNat [])))
 6)]).set
 (IntKind.i64.wrap (t13+(1:Int))).toNat
 [.str (gS (List.take 7 (List.drop 0 (u0.getD t13.toNat []))) 0),
 .int .i64 (gI (List.take 7 (List.drop 0 (u0.getD t13.toNat []))) 1),
 .int .i64 (gI (List.take 7 (List.drop 0 (u0.getD t13.toNat []))) 2),
 .int .i64 (gI (List.take 7 (List.drop 0 (u0.getD t13.toNat []))) 3),
 .str (gS (List.take 7 (List.drop 0 (u0.getD t13.toNat []))) 4),
 .sl SK.any 6 (gR (List.take 7 (List.drop 0 (u0.getD t13.toNat []))) 5),
 .sl SK.any 7 (gR (List.take 7 (List.drop 0 (u0.getD t13.toNat []))) 6)]) K)))))))))
 (K (.exit (2)) ⟨[],[(Am, .arr 1 true 7 u0)]⟩))):Ep t10 t13 u0 K:=Bq (Ar E0 Aa) (A8 Aa) 3 11 (Au 11 ac_slices_symMergeCmpFunc_Pair) [0,10,13] _ K rfl (kr (by kernel_rfl) h)
theorem Ja(t14 t17:Int)(u0:LL)(K:KK)(h:
 (Br (decide (t14<t17))
 (Af ((0:Int)≤IntKind.i64.wrap (t17 - (1:Int))∧IntKind.i64.wrap (t17 - (1:Int))<(↑u0.length:Int))
 (Af ((IntKind.i64.wrap (t17 - (1:Int))).toNat<u0.length∧
 Cb
 [.str, .int .i64, .int .i64, .int .i64, .str, .sl 6 Ac,
 .sl 7 Ak]
 (List.take 7 (List.drop 0 (u0.getD (IntKind.i64.wrap (t17 - (1:Int))).toNat [])))=
 true)
 (Af ((0:Int)≤t17∧t17<(↑u0.length:Int))
 (Af (t17.toNat<u0.length∧
 Cb
 [.str, .int .i64, .int .i64, .int .i64, .str, .sl 6 Ac,
 .sl 7 Ak]
 (List.take 7 (List.drop 0 (u0.getD t17.toNat [])))=
 true)
 (Af ((0:Int)≤t17∧t17<(↑u0.length:Int))
 (Af (t17.toNat<u0.length)
 (Af ((0:Int)≤IntKind.i64.wrap (t17 - (1:Int))∧
 IntKind.i64.wrap (t17 - (1:Int))<
 (↑(u0.set t17.toNat
 [.str
 (gS (List.take (7:Nat) (List.drop (0:Nat) (u0.getD (IntKind.i64.wrap (t17 - (1:Int))).toNat [])))
 (0:Nat)),
 .int .i64
 (gI (List.take (7:Nat) (List.drop (0:Nat) (u0.getD (IntKind.i64.wrap (t17 - (1:Int))).toNat [])))
 (1:Nat)),
 .int .i64
 (gI (List.take (7:Nat) (List.drop (0:Nat) (u0.getD (IntKind.i64.wrap (t17 - (1:Int))).toNat [])))
 (2:Nat)),
 .int .i64
 (gI (List.take (7:Nat) (List.drop (0:Nat) (u0.getD (IntKind.i64.wrap (t17 - (1:Int))).toNat [])))
 (3:Nat)),
 .str
 (gS (List.take (7:Nat) (List.drop (0:Nat) (u0.getD (IntKind.i64.wrap (t17 - (1:Int))).toNat [])))
 (4:Nat)),
 .sl SK.any (6:Nat)
 (gR (List.take (7:Nat) (List.drop (0:Nat) (u0.getD (IntKind.i64.wrap (t17 - (1:Int))).toNat [])))
 (5:Nat)),
 .sl SK.any (7:Nat)
 (gR (List.take (7:Nat) (List.drop (0:Nat) (u0.getD (IntKind.i64.wrap (t17 - (1:Int))).toNat [])))
 (6:Nat))]).length:
 Int))
 (Af ((IntKind.i64.wrap (t17 - (1:Int))).toNat<
 (u0.set t17.toNat
 [.str
 (gS (List.take 7 (List.drop 0 (u0.getD (IntKind.i64.wrap (t17 - (1:Int))).toNat [])))
 0),
 .int .i64
 (gI (List.take 7 (List.drop 0 (u0.getD (IntKind.i64.wrap (t17 - (1:Int))).toNat [])))
 1),
 .int .i64
 (gI (List.take 7 (List.drop 0 (u0.getD (IntKind.i64.wrap (t17 - (1:Int))).toNat [])))
 2),
 .int .i64
 (gI (List.take 7 (List.drop 0 (u0.getD (IntKind.i64.wrap (t17 - (1:Int))).toNat [])))
 3),
 .str
 (gS (List.take 7 (List.drop 0 (u0.getD (IntKind.i64.wrap (t17 - (1:Int))).toNat [])))
 4),
 .sl SK.any 6
 (gR (List.take 7 (List.drop 0 (u0.getD (IntKind.i64.wrap (t17 - (1:Int))).toNat [])))
 5),
 .sl SK.any 7
 (gR (List.take 7 (List.drop 0 (u0.getD (IntKind.i64.wrap (t17 - (1:Int))).toNat [])))
 6)]).length)
 (Er t14 (IntKind.i64.wrap (t17 - (1:Int))) ((u0.set t17.toNat
 [.str
 (gS (List.take 7 (List.drop 0 (u0.getD (IntKind.i64.wrap (t17 - (1:Int))).toNat [])))
 0),
 .int .i64
 (gI (List.take 7 (List.drop 0 (u0.getD (IntKind.i64.wrap (t17 - (1:Int))).toNat [])))
 1),
 .int .i64
 (gI (List.take 7 (List.drop 0 (u0.getD (IntKind.i64.wrap (t17 - (1:Int))).toNat [])))
 2),
 .int .i64
 (gI (List.take 7 (List.drop 0 (u0.getD (IntKind.i64.wrap (t17 - (1:Int))).toNat [])))
 3),
 .str
 (gS (List.take 7 (List.drop 0 (u0.getD (IntKind.i64.wrap (t17 - (1:Int))).toNat [])))
 4),
 .sl SK.any 6
 (gR (List.take 7 (List.drop 0 (u0.getD (IntKind.i64.wrap (t17 - (1:Int))).toNat [])))
 5),
 .sl SK.any 7
 (gR (List.take 7 (List.drop 0 (u0.getD (IntKind.i64.wrap (t17 - (1:Int))).toNat [])))
 6)]).set
 (IntKind.i64.wrap (t17 - (1:Int))).toNat
 [.str (gS (List.take 7 (List.drop 0 (u0.getD t17.toNat []))) 0),
 .int .i64 (gI (List.take 7 (List.drop 0 (u0.getD t17.toNat []))) 1),
 .int .i64 (gI (List.take 7 (List.drop 0 (u0.getD t17.toNat []))) 2),
 .int .i64 (gI (List.take 7 (List.drop 0 (u0.getD t17.toNat []))) 3),
 .str (gS (List.take 7 (List.drop 0 (u0.getD t17.toNat []))) 4),
 .sl SK.any 6 (gR (List.take 7 (List.drop 0 (u0.getD t17.toNat []))) 5),
 .sl SK.any 7 (gR (List.take 7 (List.drop 0 (u0.getD t17.toNat []))) 6)]) K)))))))))
 (K (.exit (6)) ⟨[],[(Am, .arr 1 true 7 u0)]⟩))):Er t14 t17 u0 K:=Bq (Ar E0 Aa) (A8 Aa) 3 29 (Au 29 ac_slices_symMergeCmpFunc_Pair) [0,14,17] _ K rfl (kr (by kernel_rfl) h)
theorem Px(t1 t3:Int)(t18 t20 t24:Int)(u0:LL)(K:KK)(h:
 (Let (bif decide (t1<t20)then decide (t20<t18)else false) fun x0=>
 Br (x0)
 (Call E0.P Cv [.own Am,Ai t1,Ai t20,Ai t18, .fn Ad []] [(Am, .arr 1 true 7 u0)] fun r1 g1=>
 Af (qV2 g1 r1)
 (Em t3 t18 t24 (Eu g1 Am) (Av K)))
 (Em t3 t18 t24 u0 (Av K)))):El t1 t3 t18 t20 t24 u0 K:=Aw (Ar E0 Aa) (A8 Aa) 3 53 (Ae 53 ac_slices_symMergeCmpFunc_Pair) [] _ K rfl (kr (by kernel_rfl) h)
theorem Py(t3 t18 t24:Int)(u0:LL)(K:KK)(h:
 (Let (bif decide (t18<t24)then decide (t24<t3)else false) fun x0=>
 Br (x0)
 (Call E0.P Cv [.own Am,Ai t18,Ai t24,Ai t3, .fn Ad []] [(Am, .arr 1 true 7 u0)] fun r1 g1=>
 Af (qV2 g1 r1)
 (K .normal ⟨[],[(Am, .arr 1 true 7 (Eu g1 Am))]⟩))
 (K .normal ⟨[],[(Am, .arr 1 true 7 u0)]⟩))):Em t3 t18 t24 u0 K:=Aw (Ar E0 Aa) (A8 Aa) 3 55 (Ae 55 ac_slices_symMergeCmpFunc_Pair) [] _ K rfl (kr (by kernel_rfl) h)
theorem Po(u0:LL)(K:KK)(h:
 (K .ret ⟨[],[(Am, .arr 1 true 7 u0)]⟩)):J8 u0 K:=Aw (Ar E0 Aa) (A8 Aa) 3 16 (Ae 16 ac_slices_symMergeCmpFunc_Pair) [0,1,2,3,4] _ K rfl (kr (by kernel_rfl) h)
theorem Pt(u0:LL)(K:KK)(h:
 (K .ret ⟨[],[(Am, .arr 1 true 7 u0)]⟩)):Kb u0 K:=Aw (Ar E0 Aa) (A8 Aa) 3 34 (Ae 34 ac_slices_symMergeCmpFunc_Pair) [0,1,2,3,4] _ K rfl (kr (by kernel_rfl) h)
theorem Qo(rows:LL)(Q:QQ)(u0:LL)(h:
 (Q (.tup []) [(Am, .arr 1 true 7 u0)])):Di rows Q .ret ⟨[],[(Am, .arr 1 true 7 u0)]⟩:=kr (by kernel_rfl) h
theorem Qp(rows:LL)(Q:QQ)(u0:LL)(h:
 (Q (.tup []) [(Am, .arr 1 true 7 u0)])):Di rows Q .normal ⟨[],[(Am, .arr 1 true 7 u0)]⟩:=kr (by kernel_rfl) h
theorem Qq(rows:LL)(Q:QQ)(u0:LL)(h:
 (Q (.tup []) [(Am, .arr 1 true 7 u0)])):Gn rows Q .ret ⟨[],[(Am, .arr 1 true 7 u0)]⟩:=kr (by kernel_rfl) h
theorem Qr(rows:LL)(Q:QQ)(t1 t10:Int)(u0:LL)(h:
 (Kt t1 t10 u0 (Gn rows Q))):Ku rows Q (.exit 0) ⟨[(0, .own Am),(1,Ai t1),(10,Ai t10)],[(Am, .arr 1 true 7 u0)]⟩:=kr (by kernel_rfl) h
theorem Ca(K:KK)(u0:LL)(h:
 (K .normal ⟨[],[(Am, .arr 1 true 7 u0)]⟩)):Av K .normal ⟨[],[(Am, .arr 1 true 7 u0)]⟩:=kr (by kernel_rfl) h
theorem Qt(K:KK)(u0:LL)(h:
 (K .ret ⟨[],[(Am, .arr 1 true 7 u0)]⟩)):Gp K .ret ⟨[],[(Am, .arr 1 true 7 u0)]⟩:=kr (by kernel_rfl) h
theorem Qu(K:KK)(t2 t14:Int)(u0:LL)(h:
 (Ka t2 t14 u0 (Gp K))):Kv K (.exit (4)) ⟨[(0, .own Am),(2,Ai t2),(14,Ai t14)],[(Am, .arr 1 true 7 u0)]⟩:=kr (by kernel_rfl) h
theorem Qv(K:KK)(t1 t2:Int)(t3 t18:Int)(t19 t20:Int)(u0:LL)(h:
 (Ej t1 t2 t3 t18 t19 t20 u0 (Av K))):Gq K (.exit (8)) ⟨[(0, .own Am),(1,Ai t1),(2,Ai t2),(3,Ai t3),(4, .fn Ad []),(18,Ai t18),(19,Ai t19),(20,Ai t20)],[(Am, .arr 1 true 7 u0)]⟩:=kr (by kernel_rfl) h
theorem Jo(K:KK)(u0:LL)(h:
 (K .ret ⟨[],[(Am, .arr 1 true 7 u0)]⟩)):Dj K .ret ⟨[],[(Am, .arr 1 true 7 u0)]⟩:=kr (by kernel_rfl) h
theorem Qw(K:KK)(u0:LL)(h:
 (J8 u0 (Dj K))):Kw K (.exit (2)) ⟨[],[(Am, .arr 1 true 7 u0)]⟩:=kr (by kernel_rfl) h
theorem Qy(K:KK)(u0:LL)(h:
 (Kb u0 (Dj K))):Kz K (.exit (6)) ⟨[],[(Am, .arr 1 true 7 u0)]⟩:=kr (by kernel_rfl) h
theorem U2:Cf E0.P 132 ac_slices_symMergeCmpFunc_Pair.code Aa []:=Bu _ _ Tryd.f132 [(3,[0,1,4,10,11],[]),(5,[0,1,10],[]),(9,[0,1,10],[0,1,2,3,4]),(11,[0,10,13],[]),(13,[],[]),(16,[],[0,1,2,3,4]),(17,[0,1,2,3,4],[]),(21,[0,2,4,14,15],[]),(23,[0,2,14],[]),(27,[0,2,14],[0,1,2,3,4]),(29,[0,14,17],[]),(31,[],[]),(34,[],[0,1,2,3,4]),(35,[0,1,2,3,4],[]),(42,[0,1,2,3,4,18,19,20,21],[]),(44,[0,1,2,3,4,18,19,20,21,22],[]),(46,[0,1,2,3,4,18,19,20],[]),(50,[0,1,2,3,4,18,19,20],[]),(53,[0,1,3,4,18,20,24],[]),(55,[0,3,4,18,24],[])] [] _ 220 Tryd.func132 (by kernel_rfl) (by kernel_rfl) (by kernel_rfl) (by kernel_rfl)
theorem Rx(rows:LL)(a1 a2 a3:Int)(Q:QQ)(h:
 (Br (decide (IntKind.i64.wrap (a2 - a1)=(1:Int)))
 (Dk a1 a2 a3 rows (Ku rows Q))
 (J9 a1 a2 a3 rows (Di rows Q)))):Call E0.P Cv [.own (.arg 0),Ai a1,Ai a2,Ai a3, .fn Ad []] [(.arg 0, .arr 1 true 7 rows)] Q:=Bb (Ar E0 Aa) (A8 Aa) 3 1 132 ac_slices_symMergeCmpFunc_Pair [] U2 _ _ Q rfl rfl (kr (by kernel_rfl) h)
noncomputable def ac_slices_stableCmpFunc_Pair:AC:=(Ba [(2,[0,1,2,6,7,8],[]),(4,[0,1,2,6,7],[]),(8,[0,1,2,6,7],[]),(10,[0,1,2,6],[]),(12,[],[]),(15,[0,1,2,6,7,8],[]),(17,[0,1,2,6,7],[]),(21,[0,1,2,6,7],[0,1,2,6]),(24,[0,1,2,6],[0,1,2,6])] [] (codeOf Tryd.f118) 0).1
abbrev Ag:Nat:=63
def Ff(t1 t6:Int)(t7 t8:Int)(u0:LL)(K:KK):Prop:=Bz 2 E0.P Ag (Au 2 ac_slices_stableCmpFunc_Pair).code ⟨[(0, .own Am),(1,Ai t1),(2, .fn Ad []),(6,Ai t6),(7,Ai t7),(8,Ai t8)],[(Am, .arr 1 true 7 u0)]⟩ K
def Lx(t1 t6 t7:Int)(u0:LL)(K:KK):Prop:=Aq 8 E0.P Ag (Ae 8 ac_slices_stableCmpFunc_Pair).code ⟨[(0, .own Am),(1,Ai t1),(2, .fn Ad []),(6,Ai t6),(7,Ai t7)],[(Am, .arr 1 true 7 u0)]⟩ K
def Ct(t1 t6:Int)(u0:LL)(K:KK):Prop:=Bz 10 E0.P Ag (Au 10 ac_slices_stableCmpFunc_Pair).code ⟨[(0, .own Am),(1,Ai t1),(2, .fn Ad []),(6,Ai t6)],[(Am, .arr 1 true 7 u0)]⟩ K
def E9(t1 t6:Int)(t7 t8:Int)(u0:LL)(K:KK):Prop:=Bz 15 E0.P Ag (Au 15 ac_slices_stableCmpFunc_Pair).code ⟨[(0, .own Am),(1,Ai t1),(2, .fn Ad []),(6,Ai t6),(7,Ai t7),(8,Ai t8)],[(Am, .arr 1 true 7 u0)]⟩ K
def Lb(t1 t6 t7:Int)(u0:LL)(K:KK):Prop:=Aq 21 E0.P Ag (Ae 21 ac_slices_stableCmpFunc_Pair).code ⟨[(0, .own Am),(1,Ai t1),(2, .fn Ad []),(6,Ai t6),(7,Ai t7)],[(Am, .arr 1 true 7 u0)]⟩ K
def E5(t1 t6:Int)(u0:LL)(K:KK):Prop:=Aq 24 E0.P Ag (Ae 24 ac_slices_stableCmpFunc_Pair).code ⟨[(0, .own Am),(1,Ai t1),(2, .fn Ad []),(6,Ai t6)],[(Am, .arr 1 true 7 u0)]⟩ K
def D6(rows:LL)(Q:QQ):KK:=kE fun st=>finish (1) E0.T [] [(Am, .arr 1 true 7 rows)] Q st
def H5(rows:LL)(Q:QQ):KK:=kF 0 (fun st=>Aq 8 E0.P Ag (Ae 8 ac_slices_stableCmpFunc_Pair).code (mask [0,1,2,6,7] st) (D6 rows Q)) fun st=>finish (1) E0.T [] [(Am, .arr 1 true 7 rows)] Q st
def Fb(K:KK):KK:=kC 2 (fun st=>K .normal (mask [] st)) K
def D7(K:KK):KK:=kC 3 (fun st=>Bz 10 E0.P Ag (Au 10 ac_slices_stableCmpFunc_Pair).code (mask [0,1,2,6] st) K) K
def H6(K:KK):Ex→St→Prop
 | .normal,st=>Aq 21 E0.P Ag (Ae 21 ac_slices_stableCmpFunc_Pair).code (mask [0,1,2,6,7] st) (D7 K)
 | .exit i,st=>(match (i.beq 4:Bool)with
 |true=>Aq 21 E0.P Ag (Ae 21 ac_slices_stableCmpFunc_Pair).code (mask [0,1,2,6,7] st) (D7 K)
 |false=>(match (i.beq 3:Bool)with
 |true=>Bz 10 E0.P Ag (Au 10 ac_slices_stableCmpFunc_Pair).code (mask [0,1,2,6] st) K
 |false=>K (.exit i) st))
 | .goto i,st=>K (.goto i) st
 | .ret,st=>K .ret st
def Fe(K:KK):KK:=kP [0,1,2,6] K
theorem Sb(t1 t6:Int)(t7 t8:Int)(u0:LL)(K:KK)(h:
 (Br (decide (t8≤t1))
 (Call E0.P Dz [.own Am,Ai t7,Ai t8, .fn Ad []] [(Am, .arr 1 true 7 u0)] fun r0 g0=>
 Af (qV2 g0 r0)
 (Ff t1 t6 t8 (IntKind.i64.wrap (t8+t6)) (Eu g0 Am) K))
 (K (.exit 0) ⟨[(0, .own Am),(1,Ai t1),(2, .fn Ad []),(6,Ai t6),(7,Ai t7)],[(Am, .arr 1 true 7 u0)]⟩))):Ff t1 t6 t7 t8 u0 K:=Bq (Ar E0 Ag) (A8 Ag) 3 2 (Au 2 ac_slices_stableCmpFunc_Pair) [0,1,2,6,7,8] _ K rfl (kr (by kernel_rfl) h)
theorem Rw(t1 t6 t7:Int)(u0:LL)(K:KK)(h:
 (Call E0.P Dz [.own Am,Ai t7,Ai t1, .fn Ad []] [(Am, .arr 1 true 7 u0)] fun r0 g0=>
 Af (qV2 g0 r0)
 (Ct t1 t6 (Eu g0 Am) (Fb K)))):Lx t1 t6 t7 u0 K:=Aw (Ar E0 Ag) (A8 Ag) 3 8 (Ae 8 ac_slices_stableCmpFunc_Pair) [] _ K rfl (kr (by kernel_rfl) h)
theorem Jv(t1 t6:Int)(u0:LL)(K:KK)(h:
 (Br (decide (t6<t1))
 (E9 t1 t6 ((0:Int)) (IntKind.i64.wrap ((2:Int)*t6)) u0 (H6 K))
 (K (.exit (2)) ⟨[],[(Am, .arr 1 true 7 u0)]⟩))):Ct t1 t6 u0 K:=Bq (Ar E0 Ag) (A8 Ag) 3 10 (Au 10 ac_slices_stableCmpFunc_Pair) [0,1,2,6] _ K rfl (kr (by kernel_rfl) h)
theorem Q9(t1 t6:Int)(t7 t8:Int)(u0:LL)(K:KK)(h:
 (Br (decide (t8≤t1))
 (Call E0.P Cv [.own Am,Ai t7,Ai (IntKind.i64.wrap (t7+t6)),Ai t8, .fn Ad []] [(Am, .arr 1 true 7 u0)] fun r0 g0=>
 Af (qV2 g0 r0)
 (E9 t1 t6 t8 (IntKind.i64.wrap (t8+IntKind.i64.wrap ((2:Int)*t6))) (Eu g0 Am) K))
 (K (.exit (4)) ⟨[(0, .own Am),(1,Ai t1),(2, .fn Ad []),(6,Ai t6),(7,Ai t7)],[(Am, .arr 1 true 7 u0)]⟩))):E9 t1 t6 t7 t8 u0 K:=Bq (Ar E0 Ag) (A8 Ag) 3 15 (Au 15 ac_slices_stableCmpFunc_Pair) [0,1,2,6,7,8] _ K rfl (kr (by kernel_rfl) h)
theorem Q0(t1 t6 t7:Int)(u0:LL)(K:KK)(h:
 (Br (decide (IntKind.i64.wrap (t7+t6)<t1))
 (Call E0.P Cv [.own Am,Ai t7,Ai (IntKind.i64.wrap (t7+t6)),Ai t1, .fn Ad []] [(Am, .arr 1 true 7 u0)] fun r0 g0=>
 Af (qV2 g0 r0)
 (E5 t1 t6 (Eu g0 Am) (Fe K)))
 (E5 t1 t6 u0 (Fe K)))):Lb t1 t6 t7 u0 K:=Aw (Ar E0 Ag) (A8 Ag) 3 21 (Ae 21 ac_slices_stableCmpFunc_Pair) [0,1,2,6] _ K rfl (kr (by kernel_rfl) h)
theorem Q3(t1 t6:Int)(u0:LL)(K:KK)(h:
 (K .normal ⟨[(0, .own Am),(1,Ai t1),(2, .fn Ad []),(6,Ai (IntKind.i64.wrap (t6*(2:Int))))],[(Am, .arr 1 true 7 u0)]⟩)):E5 t1 t6 u0 K:=Aw (Ar E0 Ag) (A8 Ag) 3 24 (Ae 24 ac_slices_stableCmpFunc_Pair) [0,1,2,6] _ K rfl (kr (by kernel_rfl) h)
theorem R3(rows:LL)(Q:QQ)(u0:LL)(h:
 (Q (.tup []) [(Am, .arr 1 true 7 u0)])):D6 rows Q .normal ⟨[],[(Am, .arr 1 true 7 u0)]⟩:=kr (by kernel_rfl) h
theorem R4(rows:LL)(Q:QQ)(t1 t6 t7:Int)(u0:LL)(h:
 (Lx t1 t6 t7 u0 (D6 rows Q))):H5 rows Q (.exit 0) ⟨[(0, .own Am),(1,Ai t1),(2, .fn Ad []),(6,Ai t6),(7,Ai t7)],[(Am, .arr 1 true 7 u0)]⟩:=kr (by kernel_rfl) h
theorem R5(K:KK)(u0:LL)(h:
 (K .normal ⟨[],[(Am, .arr 1 true 7 u0)]⟩)):Fb K (.exit (2)) ⟨[],[(Am, .arr 1 true 7 u0)]⟩:=kr (by kernel_rfl) h
theorem R6(K:KK)(t1 t6:Int)(u0:LL)(h:
 (Ct t1 t6 u0 K)):D7 K .normal ⟨[(0, .own Am),(1,Ai t1),(2, .fn Ad []),(6,Ai t6)],[(Am, .arr 1 true 7 u0)]⟩:=kr (by kernel_rfl) h
theorem R7(K:KK)(t1 t6 t7:Int)(u0:LL)(h:
 (Lb t1 t6 t7 u0 (D7 K))):H6 K (.exit (4)) ⟨[(0, .own Am),(1,Ai t1),(2, .fn Ad []),(6,Ai t6),(7,Ai t7)],[(Am, .arr 1 true 7 u0)]⟩:=kr (by kernel_rfl) h
theorem R8(K:KK)(t1 t6:Int)(u0:LL)(h:
 (K .normal ⟨[(0, .own Am),(1,Ai t1),(2, .fn Ad []),(6,Ai t6)],[(Am, .arr 1 true 7 u0)]⟩)):Fe K .normal ⟨[(0, .own Am),(1,Ai t1),(2, .fn Ad []),(6,Ai t6)],[(Am, .arr 1 true 7 u0)]⟩:=kr (by kernel_rfl) h
theorem V8:Cf E0.P 118 ac_slices_stableCmpFunc_Pair.code Ag []:=Bu _ _ Tryd.f118 [(2,[0,1,2,6,7,8],[]),(4,[0,1,2,6,7],[]),(8,[0,1,2,6,7],[]),(10,[0,1,2,6],[]),(12,[],[]),(15,[0,1,2,6,7,8],[]),(17,[0,1,2,6,7],[]),(21,[0,1,2,6,7],[0,1,2,6]),(24,[0,1,2,6],[0,1,2,6])] [] _ 63 Tryd.func118 (by kernel_rfl) (by kernel_rfl) (by kernel_rfl) (by kernel_rfl)
theorem Tq(rows:LL)(a1:Int)(Q:QQ)(h:
 (Ff a1 ((20:Int)) ((0:Int)) ((20:Int)) rows (H5 rows Q))):Call E0.P Im [.own (.arg 0),Ai a1, .fn Ad []] [(.arg 0, .arr 1 true 7 rows)] Q:=Bb (Ar E0 Ag) (A8 Ag) 3 1 118 ac_slices_stableCmpFunc_Pair [] V8 _ _ Q rfl rfl (kr (by kernel_rfl) h)
noncomputable def ac_slices_SortStableFunc_Pair:AC:=(Ba [] [] (codeOf Tryd.f94) 0).1
abbrev H9:Nat:=9
theorem Vb:Cf E0.P 94 ac_slices_SortStableFunc_Pair.code H9 []:=Bu _ _ Tryd.f94 [] [] _ 9 Tryd.func94 (by kernel_rfl) (by kernel_rfl) (by kernel_rfl) (by kernel_rfl)
theorem Ti(rows:LL)(Q:QQ)(h:
 (Call E0.P Im [.own Am,Ai ((↑rows.length:Int)), .fn Ad []] [(Am, .arr 1 true 7 rows)] fun r0 g0=>
 Af (qV2 g0 r0)
 (Q (.tup []) [(Am, .arr 1 true 7 (Eu g0 Am))]))):Call E0.P H8 [.own (.arg 0), .fn Ad []] [(.arg 0, .arr 1 true 7 rows)] Q:=Bb (Ar E0 H9) (A8 H9) 3 1 94 ac_slices_SortStableFunc_Pair [] Vb _ _ Q rfl rfl (kr (by kernel_rfl) h)
noncomputable def ac_slices_Clone_Pair:AC:=(Ba [] [2] (codeOf Tryd.f93) 0).1
abbrev Nw:Nat:=8
theorem Ac8:Cf E0.P 93 ac_slices_Clone_Pair.code Nw [.tmp 2]:=Bu _ _ Tryd.f93 [] [2] _ 8 Tryd.func93 (by kernel_rfl) (by kernel_rfl) (by kernel_rfl) (by kernel_rfl)
theorem Aa1(a0:LL)(Q:QQ)(h:
 (Asa (a0=[])
 (Br (!false)
 (Q (.own nL0) ([]++[(Nm.loc 0,Entry.arr 0 true 7 [])]))
 (Af ((0+a0.length)*104≤140737488355328∧0+a0.length≤140737488355328)
 (Q (.own nL0) ([]++[(Nm.loc 0,Entry.arr 0 true 7 ([]++a0))]))))
 (Br (false)
 (Q (.own nL0) ([]++[(Nm.loc 0,Entry.arr 0 true 7 [])]))
 (Af ((0+a0.length)*104≤140737488355328∧0+a0.length≤140737488355328)
 (Q (.own nL0) ([]++[(Nm.loc 0,Entry.arr 0 true 7 ([]++a0))])))))):Call E0.P Nt [Al 7 a0] [] Q:=Bb (Ar E0 Nw) (A8 Nw) 3 2 93 ac_slices_Clone_Pair [.tmp 2] Ac8 _ _ Q rfl rfl (kr (by kernel_rfl) h)
noncomputable def ac_slices_CompactFunc_Pair:AC:=(Ba [(5,[0,1,5],[]),(7,[0],[]),(12,[0,1,5,6,7],[]),(14,[0,5],[]),(18,[0,1,5,6,7],[0,1,5,6,7]),(19,[0,5],[0,1,5]),(22,[0,1,5],[0,1,5]),(23,[0],[])] [4] (codeOf Tryd.f97) 0).1
abbrev Ah:Nat:=66
def F7(t5:Int)(u0:LL)(K:KK):Prop:=Bz 5 E0.P Ah (Au 5 ac_slices_CompactFunc_Pair).code ⟨[(0, .own Am),(1, .fn Bh []),(5,Ai t5)],[(Am, .arr 1 true 7 u0)]⟩ K
def Fw(t5:Int)(t6_2 t6_3:Nat)(t7:Int)(u0:LL)(K:KK):Prop:=Bz 12 E0.P Ah (Au 12 ac_slices_CompactFunc_Pair).code ⟨[(0, .own Am),(1, .fn Bh []),(5,Ai t5),(6, .win Am 7 t6_2 t6_3),(7,Ai t7)],[(Am, .arr 1 true 7 u0)]⟩ K
def Me(t5:Int)(u0:LL)(K:KK):Prop:=Aq 22 E0.P Ah (Ae 22 ac_slices_CompactFunc_Pair).code ⟨[(0, .own Am),(1, .fn Bh []),(5,Ai t5)],[(Am, .arr 1 true 7 u0)]⟩ K
def Ic(t5:Int)(t6_2 t6_3:Nat)(t7:Int)(u0:LL)(K:KK):Prop:=Aq 18 E0.P Ah (Ae 18 ac_slices_CompactFunc_Pair).code ⟨[(0, .own Am),(1, .fn Bh []),(5,Ai t5),(6, .win Am 7 t6_2 t6_3),(7,Ai t7)],[(Am, .arr 1 true 7 u0)]⟩ K
def Mf(u0:LL)(K:KK):Prop:=Aq 23 E0.P Ah (Ae 23 ac_slices_CompactFunc_Pair).code ⟨[(0, .own Am)],[(Am, .arr 1 true 7 u0)]⟩ K
def Md(t5:Int)(u0:LL)(K:KK):Prop:=Aq 19 E0.P Ah (Ae 19 ac_slices_CompactFunc_Pair).code ⟨[(0, .own Am),(5,Ai t5)],[(Am, .arr 1 true 7 u0)]⟩ K
def Iw(rows:LL)(Q:QQ):KK:=kE fun st=>finish (1) E0.T [.tmp 4] [(Am, .arr 1 true 7 rows)] Q st
def Eg(rows:LL)(Q:QQ):KK:=kF 0 (fun st=>Aq 23 E0.P Ah (Ae 23 ac_slices_CompactFunc_Pair).code (mask [0] st) (Iw rows Q)) fun st=>finish (1) E0.T [.tmp 4] [(Am, .arr 1 true 7 rows)] Q st
def F5(K:KK):Ex→St→Prop
 | .normal,st=>Bz 5 E0.P Ah (Au 5 ac_slices_CompactFunc_Pair).code (mask [0,1,5] st) K
 | .exit i,st=>K (.exit i) st
 | .goto i,st=>K (.goto i) st
 | .ret,st=>K .ret st
def F6(K:KK):KK:=kC 1 (fun st=>Aq 22 E0.P Ah (Ae 22 ac_slices_CompactFunc_Pair).code (mask [0,1,5] st) (F5 K)) K
def Iy(K:KK):Ex→St→Prop
 | .normal,st=>Aq 19 E0.P Ah (Ae 19 ac_slices_CompactFunc_Pair).code (mask [0,5] st) (F6 K)
 | .exit i,st=>(match (i.beq 2:Bool)with
 |true=>Aq 19 E0.P Ah (Ae 19 ac_slices_CompactFunc_Pair).code (mask [0,5] st) (F6 K)
 |false=>(match (i.beq 1:Bool)with
 |true=>Aq 22 E0.P Ah (Ae 22 ac_slices_CompactFunc_Pair).code (mask [0,1,5] st) (F5 K)
 |false=>K (.exit i) st))
 | .goto i,st=>K (.goto i) st
 | .ret,st=>K .ret st
def Iz(K:KK):Ex→St→Prop
 | .normal,st=>Bz 12 E0.P Ah (Au 12 ac_slices_CompactFunc_Pair).code (mask [0,1,5,6,7] st) K
 | .exit i,st=>K (.exit i) st
 | .goto i,st=>K (.goto i) st
 | .ret,st=>K .ret st
theorem Lg(t5:Int)(u0:LL)(K:KK)(h:
 (Br (decide (t5<(↑u0.length:Int)))
 (Af ((0:Int)≤t5∧t5<(↑u0.length:Int))
 (Af (t5.toNat<u0.length∧
 Cb
 [.str, .int .i64, .int .i64, .int .i64, .str, .sl 6 Ac,
 .sl 7 Ak]
 (List.take 7 (List.drop 0 (u0.getD t5.toNat [])))=
 true)
 (Af ((0:Int)≤IntKind.i64.wrap (t5 - (1:Int))∧IntKind.i64.wrap (t5 - (1:Int))<(↑u0.length:Int))
 (Af ((IntKind.i64.wrap (t5 - (1:Int))).toNat<u0.length∧
 Cb
 [.str, .int .i64, .int .i64, .int .i64, .str, .sl 6 Ac,
 .sl 7 Ak]
 (List.take 7 (List.drop 0 (u0.getD (IntKind.i64.wrap (t5 - (1:Int))).toNat [])))=
 true)
 (Call E0.P Bh [.imm (.agg [.str (gS (List.take 7 (List.drop 0 (u0.getD t5.toNat []))) 0), .int .i64 (gI (List.take 7 (List.drop 0 (u0.getD t5.toNat []))) 1), .int .i64 (gI (List.take 7 (List.drop 0 (u0.getD t5.toNat []))) 2), .int .i64 (gI (List.take 7 (List.drop 0 (u0.getD t5.toNat []))) 3), .str (gS (List.take 7 (List.drop 0 (u0.getD t5.toNat []))) 4), .sl .any 6 (gR (List.take 7 (List.drop 0 (u0.getD t5.toNat []))) 5), .sl .any 7 (gR (List.take 7 (List.drop 0 (u0.getD t5.toNat []))) 6)]), .imm (.agg [.str (gS (List.take 7 (List.drop 0 (u0.getD (IntKind.i64.wrap (t5 - (1:Int))).toNat []))) 0), .int .i64 (gI (List.take 7 (List.drop 0 (u0.getD (IntKind.i64.wrap (t5 - (1:Int))).toNat []))) 1), .int .i64 (gI (List.take 7 (List.drop 0 (u0.getD (IntKind.i64.wrap (t5 - (1:Int))).toNat []))) 2), .int .i64 (gI (List.take 7 (List.drop 0 (u0.getD (IntKind.i64.wrap (t5 - (1:Int))).toNat []))) 3), .str (gS (List.take 7 (List.drop 0 (u0.getD (IntKind.i64.wrap (t5 - (1:Int))).toNat []))) 4), .sl .any 6 (gR (List.take 7 (List.drop 0 (u0.getD (IntKind.i64.wrap (t5 - (1:Int))).toNat []))) 5), .sl .any 7 (gR (List.take 7 (List.drop 0 (u0.getD (IntKind.i64.wrap (t5 - (1:Int))).toNat []))) 6)])] [] fun r0 g0=>
 Af (qV0 g0 r0)
 (Br (rB r0)
 (Af ((0:Int)≤t5∧t5≤(↑u0.length:Int))
 (Fw t5 t5.toNat (u0.length - t5.toNat) ((1:Int)) u0 (Iy K)))
 (Me t5 u0 (F5 K))))))))
 (K (.exit 0) ⟨[(0, .own Am)],[(Am, .arr 1 true 7 u0)]⟩))):F7 t5 u0 K:=Bq (Ar E0 Ah) (A8 Ah) 3 5 (Au 5 ac_slices_CompactFunc_Pair) [0,1,5] _ K rfl (kr (by kernel_rfl) h)
theorem K3(t5:Int)(t6_2 t6_3:Nat)(t7:Int)(u0:LL)(K:KK)(h:
 (Br (decide (t7<(↑t6_3:Int)))
 (Af ((0:Int)≤t7∧t7<(↑t6_3:Int))
 (Af (addN t6_2 t7.toNat<u0.length∧
 Cb
 [.str, .int .i64, .int .i64, .int .i64, .str, .sl 6 Ac,
 .sl 7 Ak]
 (List.take 7 (List.drop 0 (u0.getD (addN t6_2 t7.toNat) [])))=
 true)
 (Af ((0:Int)≤IntKind.i64.wrap (t7 - (1:Int))∧IntKind.i64.wrap (t7 - (1:Int))<(↑t6_3:Int))
 (Af (addN t6_2 (IntKind.i64.wrap (t7 - (1:Int))).toNat<u0.length∧
 Cb
 [.str, .int .i64, .int .i64, .int .i64, .str, .sl 6 Ac,
 .sl 7 Ak]
 (List.take 7 (List.drop 0 (u0.getD (addN t6_2 (IntKind.i64.wrap (t7 - (1:Int))).toNat) [])))=
 true)
 (Call E0.P Bh [.imm (.agg [.str (gS (List.take 7 (List.drop 0 (u0.getD (addN t6_2 t7.toNat) []))) 0), .int .i64 (gI (List.take 7 (List.drop 0 (u0.getD (addN t6_2 t7.toNat) []))) 1), .int .i64 (gI (List.take 7 (List.drop 0 (u0.getD (addN t6_2 t7.toNat) []))) 2), .int .i64 (gI (List.take 7 (List.drop 0 (u0.getD (addN t6_2 t7.toNat) []))) 3), .str (gS (List.take 7 (List.drop 0 (u0.getD (addN t6_2 t7.toNat) []))) 4), .sl .any 6 (gR (List.take 7 (List.drop 0 (u0.getD (addN t6_2 t7.toNat) []))) 5), .sl .any 7 (gR (List.take 7 (List.drop 0 (u0.getD (addN t6_2 t7.toNat) []))) 6)]), .imm (.agg [.str (gS (List.take 7 (List.drop 0 (u0.getD (addN t6_2 (IntKind.i64.wrap (t7 - (1:Int))).toNat) [])))
 0), .int .i64 (gI (List.take 7 (List.drop 0 (u0.getD (addN t6_2 (IntKind.i64.wrap (t7 - (1:Int))).toNat) [])))
 1), .int .i64 (gI (List.take 7 (List.drop 0 (u0.getD (addN t6_2 (IntKind.i64.wrap (t7 - (1:Int))).toNat) [])))
 2), .int .i64 (gI (List.take 7 (List.drop 0 (u0.getD (addN t6_2 (IntKind.i64.wrap (t7 - (1:Int))).toNat) [])))
 3), .str (gS (List.take 7 (List.drop 0 (u0.getD (addN t6_2 (IntKind.i64.wrap (t7 - (1:Int))).toNat) [])))
 4), .sl .any 6 (gR (List.take 7 (List.drop 0 (u0.getD (addN t6_2 (IntKind.i64.wrap (t7 - (1:Int))).toNat) [])))
 5), .sl .any 7 (gR (List.take 7 (List.drop 0 (u0.getD (addN t6_2 (IntKind.i64.wrap (t7 - (1:Int))).toNat) [])))
 6)])] [] fun r0 g0=>
 Af (qV0 g0 r0)
 (Br (!rB r0)
 (Af ((0:Int)≤t7∧t7<(↑t6_3:Int))
 (Af (addN t6_2 t7.toNat<u0.length∧
 Cb
 [.str, .int .i64, .int .i64, .int .i64, .str, .sl 6 Ac,
 .sl 7 Ak]
 (List.take 7 (List.drop 0 (u0.getD (addN t6_2 t7.toNat) [])))=
 true)
 (Af ((0:Int)≤t5∧t5<(↑u0.length:Int))
 (Af (t5.toNat<u0.length)
 (Ic (IntKind.i64.wrap (t5+(1:Int))) t6_2 t6_3 t7 (u0.set t5.toNat
 [.str (gS (List.take 7 (List.drop 0 (u0.getD (addN t6_2 t7.toNat) []))) 0),
 .int .i64 (gI (List.take 7 (List.drop 0 (u0.getD (addN t6_2 t7.toNat) []))) 1),
 .int .i64 (gI (List.take 7 (List.drop 0 (u0.getD (addN t6_2 t7.toNat) []))) 2),
 .int .i64 (gI (List.take 7 (List.drop 0 (u0.getD (addN t6_2 t7.toNat) []))) 3),
 .str (gS (List.take 7 (List.drop 0 (u0.getD (addN t6_2 t7.toNat) []))) 4),
 .sl SK.any 6
 (gR (List.take 7 (List.drop 0 (u0.getD (addN t6_2 t7.toNat) []))) 5),
 .sl SK.any 7
 (gR (List.take 7 (List.drop 0 (u0.getD (addN t6_2 t7.toNat) []))) 6)]) (Iz K))))))
 (Ic t5 t6_2 t6_3 t7 u0 (Iz K))))))))
 (K (.exit (2)) ⟨[(0, .own Am),(5,Ai t5)],[(Am, .arr 1 true 7 u0)]⟩))):Fw t5 t6_2 t6_3 t7 u0 K:=Bq (Ar E0 Ah) (A8 Ah) 3 12 (Au 12 ac_slices_CompactFunc_Pair) [0,1,5,6,7] _ K rfl (kr (by kernel_rfl) h)
theorem Te(t5:Int)(u0:LL)(K:KK)(h:
 (K .normal ⟨[(0, .own Am),(1, .fn Bh []),(5,Ai (IntKind.i64.wrap (t5+(1:Int))))],[(Am, .arr 1 true 7 u0)]⟩)):Me t5 u0 K:=Aw (Ar E0 Ah) (A8 Ah) 3 22 (Ae 22 ac_slices_CompactFunc_Pair) [0,1,5] _ K rfl (kr (by kernel_rfl) h)
theorem Kq(t5:Int)(t6_2 t6_3:Nat)(t7:Int)(u0:LL)(K:KK)(h:
 (K .normal ⟨[(0, .own Am),(1, .fn Bh []),(5,Ai t5),(6, .win Am 7 t6_2 t6_3),(7,Ai (IntKind.i64.wrap (t7+(1:Int))))],[(Am, .arr 1 true 7 u0)]⟩)):Ic t5 t6_2 t6_3 t7 u0 K:=Aw (Ar E0 Ah) (A8 Ah) 3 18 (Ae 18 ac_slices_CompactFunc_Pair) [0,1,5,6,7] _ K rfl (kr (by kernel_rfl) h)
theorem Tf(u0:LL)(K:KK)(h:
 (K .ret ⟨[(4, .own Am)],[(Am, .arr 1 true 7 u0)]⟩)):Mf u0 K:=Aw (Ar E0 Ah) (A8 Ah) 3 23 (Ae 23 ac_slices_CompactFunc_Pair) [] _ K rfl (kr (by kernel_rfl) h)
theorem Td(t5:Int)(u0:LL)(K:KK)(h:
 (Af ((0:Int)≤t5∧t5≤(↑u0.length:Int))
 (Af ((0:Int)≤t5∧
 t5≤
 (↑(Hr
 [.str [], .int .i64 (0:Int), .int .i64 (0:Int), .int .i64 (0:Int),
 .str [], .sl SK.nil (6:Nat) [], .sl SK.nil (7:Nat) []]
 t5.toNat (u0.length - t5.toNat) u0).length:
 Int))
 (K .ret ⟨[(4, .win Am 7 0 (t5.toNat - 0))],[(Am, .arr 1 true 7 (Hr
 [.str [], .int .i64 (0:Int), .int .i64 (0:Int), .int .i64 (0:Int), .str [],
 .sl SK.nil 6 [], .sl SK.nil 7 []]
 t5.toNat (u0.length - t5.toNat) u0))]⟩)))):Md t5 u0 K:=Aw (Ar E0 Ah) (A8 Ah) 3 19 (Ae 19 ac_slices_CompactFunc_Pair) [0,1,5] _ K rfl (kr (by kernel_rfl) h)
theorem Tu(rows:LL)(Q:QQ)(u0:LL)(h:
 (Q (.win Am 7 0 u0.length) [(Am, .arr 1 true 7 u0)])):Iw rows Q .ret ⟨[(4, .own Am)],[(Am, .arr 1 true 7 u0)]⟩:=kr (by kernel_rfl) h
theorem Tv(rows:LL)(Q:QQ)(u0:LL)(h:
 (Mf u0 (Iw rows Q))):Eg rows Q (.exit 0) ⟨[(0, .own Am)],[(Am, .arr 1 true 7 u0)]⟩:=kr (by kernel_rfl) h
theorem Tw(rows:LL)(Q:QQ)(t4_2 t4_3:Nat)(u0:LL)(h:
 (Q (.win Am 7 t4_2 t4_3) [(Am, .arr 1 true 7 u0)])):Eg rows Q .ret ⟨[(4, .win Am 7 t4_2 t4_3)],[(Am, .arr 1 true 7 u0)]⟩:=kr (by kernel_rfl) h
theorem Tx(K:KK)(t5:Int)(u0:LL)(h:
 (F7 t5 u0 K)):F5 K .normal ⟨[(0, .own Am),(1, .fn Bh []),(5,Ai t5)],[(Am, .arr 1 true 7 u0)]⟩:=kr (by kernel_rfl) h
theorem Tz(K:KK)(t4_2 t4_3:Nat)(u0:LL)(h:
 (K .ret ⟨[(4, .win Am 7 t4_2 t4_3)],[(Am, .arr 1 true 7 u0)]⟩)):F6 K .ret ⟨[(4, .win Am 7 t4_2 t4_3)],[(Am, .arr 1 true 7 u0)]⟩:=kr (by kernel_rfl) h
theorem T9(K:KK)(t5:Int)(u0:LL)(h:
 (Md t5 u0 (F6 K))):Iy K (.exit (2)) ⟨[(0, .own Am),(5,Ai t5)],[(Am, .arr 1 true 7 u0)]⟩:=kr (by kernel_rfl) h
theorem Lc(K:KK)(t5:Int)(t6_2 t6_3:Nat)(t7:Int)(u0:LL)(h:
 (Fw t5 t6_2 t6_3 t7 u0 K)):Iz K .normal ⟨[(0, .own Am),(1, .fn Bh []),(5,Ai t5),(6, .win Am 7 t6_2 t6_3),(7,Ai t7)],[(Am, .arr 1 true 7 u0)]⟩:=kr (by kernel_rfl) h
theorem X6:Cf E0.P 97 ac_slices_CompactFunc_Pair.code Ah [.tmp 4]:=Bu _ _ Tryd.f97 [(5,[0,1,5],[]),(7,[0],[]),(12,[0,1,5,6,7],[]),(14,[0,5],[]),(18,[0,1,5,6,7],[0,1,5,6,7]),(19,[0,5],[0,1,5]),(22,[0,1,5],[0,1,5]),(23,[0],[])] [4] _ 66 Tryd.func97 (by kernel_rfl) (by kernel_rfl) (by kernel_rfl) (by kernel_rfl)
theorem Vk(rows:LL)(Q:QQ)(h:
 (Br (decide ((↑rows.length:Int)<(2:Int)))
 (Q (.win Am 7 0 rows.length) [(Am, .arr 1 true 7 rows)])
 (F7 ((1:Int)) rows (Eg rows Q)))):Call E0.P Jk [.own (.arg 0), .fn Bh []] [(.arg 0, .arr 1 true 7 rows)] Q:=Bb (Ar E0 Ah) (A8 Ah) 3 1 97 ac_slices_CompactFunc_Pair [.tmp 4] X6 _ _ Q rfl rfl (kr (by kernel_rfl) h)
noncomputable def ac_value_has:AC:=(Ba [(5,[2,4,8],[2]),(8,[2,4,12],[2]),(18,[2],[])] [2,3] (codeOf Tryd.f62) 0).1
abbrev Ec:Nat:=29
def Rh(t4:Int)(t8 u0:Bool)(u1 u2:Bool)(u3 u4:Bool)(K:KK):Prop:=Aq 5 E0.P Ec (Ae 5 ac_value_has).code ⟨[(2, .ptr nL2 0),(4,Ai t4),(8,Ab t8)],[(nL2, .blk Ay [Ab u0,Ab u1,Ab u2,Ab u3,Ab u4])]⟩ K
def Ri(t4:Int)(t12 u0:Bool)(u1 u2:Bool)(u3 u4:Bool)(K:KK):Prop:=Aq 8 E0.P Ec (Ae 8 ac_value_has).code ⟨[(2, .ptr nL2 0),(4,Ai t4),(12,Ab t12)],[(nL2, .blk Ay [Ab u0,Ab u1,Ab u2,Ab u3,Ab u4])]⟩ K
def Abh(u0 u1:Bool)(u2 u3 u4:Bool)(K:KK):Prop:=Aq 18 E0.P Ec (Ae 18 ac_value_has).code ⟨[(2, .ptr nL2 0)],[(nL2, .blk Ay [Ab u0,Ab u1,Ab u2,Ab u3,Ab u4])]⟩ K
def Xt(Q:QQ):KK:=kE fun st=>finish 0 E0.T [.cell 2 101, .tmp 3] [] Q st
def K7(Q:QQ):KK:=kF 0 (fun st=>Aq 18 E0.P Ec (Ae 18 ac_value_has).code (mask [2] st) (Xt Q)) fun st=>finish 0 E0.T [.cell 2 101, .tmp 3] [] Q st
def Oa(K:KK):KK:=kP [2] K
theorem Ahx(t4:Int)(t8 u0:Bool)(u1 u2:Bool)(u3 u4:Bool)(K:KK)(h:
 (Br (t8)
 (K .ret ⟨[(2, .ptr nL2 0),(3,Ab true)],[(nL2, .blk Ay [Ab true,Ab false,Ab false,Ab false,Ab false])]⟩)
 (Br (decide (t4=(3:Int)))
 (Ri t4 (decide (t4=(3:Int))) u0 u1 u2 u3 u4 (Oa K))
 (Ri t4 (decide (t4=(4:Int))) u0 u1 u2 u3 u4 (Oa K))))):Rh t4 t8 u0 u1 u2 u3 u4 K:=Aw (Ar E0 Ec) (A8 Ec) 3 5 (Ae 5 ac_value_has) [2] _ K rfl (kr (by kernel_rfl) h)
theorem Ahy(t4:Int)(t12 u0:Bool)(u1 u2:Bool)(u3 u4:Bool)(K:KK)(h:
 (Br (t12)
 (K .ret ⟨[(2, .ptr nL2 0),(3,Ab true)],[(nL2, .blk Ay [Ab false,Ab false,Ab true,Ab false,Ab false])]⟩)
 (Br (decide (t4=(5:Int)))
 (K .ret ⟨[(2, .ptr nL2 0),(3,Ab true)],[(nL2, .blk Ay [Ab false,Ab false,Ab false,Ab true,Ab false])]⟩)
 (Br (decide (t4=(6:Int)))
 (K .ret ⟨[(2, .ptr nL2 0),(3,Ab true)],[(nL2, .blk Ay [Ab false,Ab false,Ab false,Ab false,Ab true])]⟩)
 (Br (decide (t4=(7:Int)))
 (K .ret ⟨[(2, .ptr nL2 0),(3,Ab true)],[(nL2, .blk Ay [Ab true,Ab true,Ab false,Ab false,Ab false])]⟩)
 (Br (decide (t4=(8:Int)))
 (K .ret ⟨[(2, .ptr nL2 0),(3,Ab true)],[(nL2, .blk Ay [Ab false,Ab false,Ab true,Ab false,Ab true])]⟩)
 (K .normal ⟨[(2, .ptr nL2 0)],[(nL2, .blk Ay [Ab u0,Ab u1,Ab u2,Ab u3,Ab u4])]⟩))))))):Ri t4 t12 u0 u1 u2 u3 u4 K:=Aw (Ar E0 Ec) (A8 Ec) 3 8 (Ae 8 ac_value_has) [2] _ K rfl (kr (by kernel_rfl) h)
theorem Ag6(u0 u1:Bool)(u2 u3 u4:Bool)(K:KK)(h:
 (K .ret ⟨[(2, .ptr nL2 0),(3,Ab false)],[(nL2, .blk Ay [Ab false,Ab false,Ab false,Ab false,Ab false])]⟩)):Abh u0 u1 u2 u3 u4 K:=Aw (Ar E0 Ec) (A8 Ec) 3 18 (Ae 18 ac_value_has) [] _ K rfl (kr (by kernel_rfl) h)
theorem Aif(Q:QQ)(t3 u0:Bool)(u1 u2:Bool)(u3 u4:Bool)(h:
 (Q (.tup [.imm (.agg [.bool u0, .bool u1, .bool u2, .bool u3, .bool u4]),Ab t3]) [])):Xt Q .ret ⟨[(2, .ptr nL2 0),(3,Ab t3)],[(nL2, .blk Ay [Ab u0,Ab u1,Ab u2,Ab u3,Ab u4])]⟩:=kr (by kernel_rfl) h
theorem Ig(Q:QQ)(t3 u0:Bool)(u1 u2:Bool)(u3 u4:Bool)(h:
 (Q (.tup [.imm (.agg [.bool u0, .bool u1, .bool u2, .bool u3, .bool u4]),Ab t3]) [])):K7 Q .ret ⟨[(2, .ptr nL2 0),(3,Ab t3)],[(nL2, .blk Ay [Ab u0,Ab u1,Ab u2,Ab u3,Ab u4])]⟩:=kr (by kernel_rfl) h
theorem Aig(Q:QQ)(u0 u1:Bool)(u2 u3 u4:Bool)(h:
 (Abh u0 u1 u2 u3 u4 (Xt Q))):K7 Q .normal ⟨[(2, .ptr nL2 0)],[(nL2, .blk Ay [Ab u0,Ab u1,Ab u2,Ab u3,Ab u4])]⟩:=kr (by kernel_rfl) h
theorem Kg(K:KK)(t3 u0:Bool)(u1 u2:Bool)(u3 u4:Bool)(h:
 (K .ret ⟨[(2, .ptr nL2 0),(3,Ab t3)],[(nL2, .blk Ay [Ab u0,Ab u1,Ab u2,Ab u3,Ab u4])]⟩)):Oa K .ret ⟨[(2, .ptr nL2 0),(3,Ab t3)],[(nL2, .blk Ay [Ab u0,Ab u1,Ab u2,Ab u3,Ab u4])]⟩:=kr (by kernel_rfl) h
theorem Aih(K:KK)(u0 u1:Bool)(u2 u3 u4:Bool)(h:
 (K .normal ⟨[(2, .ptr nL2 0)],[(nL2, .blk Ay [Ab u0,Ab u1,Ab u2,Ab u3,Ab u4])]⟩)):Oa K .normal ⟨[(2, .ptr nL2 0)],[(nL2, .blk Ay [Ab u0,Ab u1,Ab u2,Ab u3,Ab u4])]⟩:=kr (by kernel_rfl) h
theorem Ap6:Cf E0.P 62 ac_value_has.code Ec [.cell 2 101, .tmp 3]:=Bu _ _ Tryd.f62 [(5,[2,4,8],[2]),(8,[2,4,12],[2]),(18,[2],[])] [2,3] _ 29 Tryd.func62 (by kernel_rfl) (by kernel_rfl) (by kernel_rfl) (by kernel_rfl)
theorem Ak3(a0:Int)(Q:QQ)(h:
 (Br (decide (a0=(0:Int)))
 (Q (.tup [.imm (.agg [.bool false, .bool false, .bool false, .bool false, .bool false]),Ab true]) [])
 (Br (decide (a0=(1:Int)))
 (Rh a0 (decide (a0=(1:Int))) false false false false false (K7 Q))
 (Rh a0 (decide (a0=(2:Int))) false false false false false (K7 Q))))):Call E0.P Uv [Ai a0] [] Q:=Bb (Ar E0 Ec) (A8 Ec) 3 0 62 ac_value_has [.cell 2 101, .tmp 3] Ap6 _ _ Q rfl rfl (kr (by kernel_rfl) h)
noncomputable def ac_value_plainPairs:AC:=(Ba [(6,[4,14,15,16],[]),(8,[4],[]),(14,[4],[])] [2] (codeOf Tryd.f63) 0).1
abbrev Cx:Nat:=35
def Gz(t14_2 t14_3:Nat)(t15 t16:Int)(u0 u1:LL)(K:KK):Prop:=Bz 6 E0.P Cx (Au 6 ac_value_plainPairs).code ⟨[(4, .own nL4),(14, .win (Nm.sub 9 nL0) 7 t14_2 t14_3),(15,Ai t15),(16,Ai t16)],[(nL4, .arr (Ak+2) true 7 u0),((Nm.sub 9 nL0), .arr 1 true 7 u1)]⟩ K
def Sl(u0:LL)(K:KK):Prop:=Aq 14 E0.P Cx (Ae 14 ac_value_plainPairs).code ⟨[(4, .own nL4)],[(nL4, .arr (Ak+2) true 7 u0)]⟩ K
def Nh(Q:QQ):KK:=kE fun st=>finish 0 E0.T [.tmp 2] [] Q st
def Ni(Q:QQ):KK:=kF 0 (fun st=>Aq 14 E0.P Cx (Ae 14 ac_value_plainPairs).code (mask [4] st) (Nh Q)) fun st=>finish 0 E0.T [.tmp 2] [] Q st
theorem Qh(t14_2 t14_3:Nat)(t15 t16:Int)(u0 u1:LL)(K:KK)(h:
 (Br (decide (t16<t15))
 (Af ((0:Int)≤t16∧t16<(↑t14_3:Int))
 (Af (addN t14_2 t16.toNat<u1.length∧
 Cb
 [.str, .int .i64, .int .i64, .int .i64, .str, .sl 6 Ac,
 .sl 7 Ak]
 (List.take 7 (List.drop 0 (u1.getD (addN t14_2 t16.toNat) [])))=
 true)
 (Call E0.P Fx [.imm (.agg [.int .i64 (gI (List.take 7 (List.drop 0 (u1.getD (addN t14_2 t16.toNat) []))) 1), .int .i64 (gI (List.take 7 (List.drop 0 (u1.getD (addN t14_2 t16.toNat) []))) 2), .int .i64 (gI (List.take 7 (List.drop 0 (u1.getD (addN t14_2 t16.toNat) []))) 3), .str (gS (List.take 7 (List.drop 0 (u1.getD (addN t14_2 t16.toNat) []))) 4), .sl .any 6 (gR (List.take 7 (List.drop 0 (u1.getD (addN t14_2 t16.toNat) []))) 5), .sl .any 7 (gR (List.take 7 (List.drop 0 (u1.getD (addN t14_2 t16.toNat) []))) 6)])] [] fun r0 g0=>
 Af (qV3 g0 r0)
 (Br (!decide (gI (Ao r0) 0=(0:Int)))
 (Af ((u0.length+1)*104≤140737488355328∧u0.length+1≤140737488355328)
 (Gz t14_2 t14_3 t15 (IntKind.i64.wrap (t16+(1:Int))) (u0++
 [[IV.str (gS (List.take 7 (List.drop 0 (u1.getD (addN t14_2 t16.toNat) []))) 0),
 .int .i64 (gI (Ao r0) 0), .int .i64 (gI (Ao r0) 1),
 .int .i64 (gI (Ao r0) 2), .str (gS (Ao r0) 3),
 .sl SK.any 6 (gR (Ao r0) 4), .sl SK.any 7 (gR (Ao r0) 5)]]) u1 K))
 (Gz t14_2 t14_3 t15 (IntKind.i64.wrap (t16+(1:Int))) u0 u1 K)))))
 (K (.exit 0) ⟨[(4, .own nL4)],[(nL4, .arr (Ak+2) true 7 u0)]⟩))):Gz t14_2 t14_3 t15 t16 u0 u1 K:=Bq (Ar E0 Cx) (A8 Cx) 3 6 (Au 6 ac_value_plainPairs) [4,14,15,16] _ K rfl (kr (by kernel_rfl) h)
theorem Zc(u0:LL)(K:KK)(h:
 (K .ret ⟨[(2, .own nL4)],[(nL4, .arr (Ak+2) true 7 u0)]⟩)):Sl u0 K:=Aw (Ar E0 Cx) (A8 Cx) 3 14 (Ae 14 ac_value_plainPairs) [] _ K rfl (kr (by kernel_rfl) h)
theorem Aab(Q:QQ)(u0:LL)(h:
 (Q (Al 7 u0) [])):Nh Q .ret ⟨[(2, .own nL4)],[(nL4, .arr (Ak+2) true 7 u0)]⟩:=kr (by kernel_rfl) h
theorem Aac(Q:QQ)(u0:LL)(h:
 (Sl u0 (Nh Q))):Ni Q (.exit 0) ⟨[(4, .own nL4)],[(nL4, .arr (Ak+2) true 7 u0)]⟩:=kr (by kernel_rfl) h
theorem Aef:Cf E0.P 63 ac_value_plainPairs.code Cx [.tmp 2]:=Bu _ _ Tryd.f63 [(6,[4,14,15,16],[]),(8,[4],[]),(14,[4],[])] [2] _ 35 Tryd.func63 (by kernel_rfl) (by kernel_rfl) (by kernel_rfl) (by kernel_rfl)
theorem Abk(a0:LL)(Q:QQ)(h:
 (Call E0.P Nt [Al 7 a0] [] fun r0 g0=>
 Af (g0=[]++[(Nm.loc 0,Entry.arr 0 true 7 (Eu g0 nL0))]∧
 r0=AV.own nL0)
 (Call E0.P H8 [.own Am, .fn Ad []] [(Am, .arr 1 true 7 (Eu g0 nL0))] fun r1 g1=>
 Af (qV2 g1 r1)
 (Call E0.P Jk [.own Am, .fn Bh []] [(Am, .arr 1 true 7 (Eu g1 Am))] fun r2 g2=>
 Af (g2=[(Nm.arg 0,Entry.arr 1 true 7 (Eu g2 Am))]∧
 r2=AV.win Am 7 (rWo r2) (rWl r2))
 (Gz (rWo r2) (rWl r2) ((↑(rWl r2):Int)) ((0:Int)) [] (Eu g2 Am) (Ni Q)))))):Call E0.P Ot [Al 7 a0] [] Q:=Bb (Ar E0 Cx) (A8 Cx) 3 0 63 ac_value_plainPairs [.tmp 2] Aef _ _ Q rfl rfl (kr (by kernel_rfl) h)
noncomputable def ac_value_Plain:AC:=(Ba [(7,[1,2,3,5],[]),(9,[1,2,3,5],[]),(11,[1,2,3,5],[]),(14,[1,2,3,5,38,39,40],[]),(16,[1,2,3,5],[]),(20,[1,2,3,5],[])] [2] (codeOf Tryd.f24) 0).1
abbrev Bv:Nat:=59
def Ox(u0 u1 u2:Int)(u3:LB)(u4 u5:LL)(u6 u7 u8:Int)(u9:LB)(v0 v1:Bool)(v2 v3 v4:Bool)(v5 v6 v7:Int)(v8:LB)(v9 w0:LL)(w1 w2:LL)(K:KK):Prop:=Aq 7 E0.P Bv (Ae 7 ac_value_Plain).code ⟨[(1, .ptr L6 0),(2, .ptr nL2 0),(3, .ptr nL3 0),(5, .ptr nL5 0)],[(L6, .blk Ac [Ai u0,Ai u1,Ai u2,As u3,Al 6 u4,Al 7 u5]),(nL2, .blk Ac [Ai u6,Ai u7,Ai u8,As u9, .own (nL2.cell 4), .own (nL2.cell 5)]),(nL3, .blk Ay [Ab v0,Ab v1,Ab v2,Ab v3,Ab v4]),(nL5, .blk Ac [Ai v5,Ai v6,Ai v7,As v8, .own (nL5.cell 4), .own (nL5.cell 5)]),((nL2.cell 4), .arr (Ac+2) true 6 v9),((nL2.cell 5), .arr (Ak+2) true 7 w0),((nL5.cell 4), .arr (Ac+2) true 6 w1),((nL5.cell 5), .arr (Ak+2) true 7 w2)]⟩ K
def Oy(u0 u1 u2:Int)(u3:LB)(u4 u5:LL)(u6 u7 u8:Int)(u9:LB)(v0 v1:Bool)(v2 v3 v4:Bool)(v5 v6 v7:Int)(v8:LB)(v9 w0:LL)(w1 w2:LL)(K:KK):Prop:=Aq 9 E0.P Bv (Ae 9 ac_value_Plain).code ⟨[(1, .ptr L6 0),(2, .ptr nL2 0),(3, .ptr nL3 0),(5, .ptr nL5 0)],[(L6, .blk Ac [Ai u0,Ai u1,Ai u2,As u3,Al 6 u4,Al 7 u5]),(nL2, .blk Ac [Ai u6,Ai u7,Ai u8,As u9, .own (nL2.cell 4), .own (nL2.cell 5)]),(nL3, .blk Ay [Ab v0,Ab v1,Ab v2,Ab v3,Ab v4]),(nL5, .blk Ac [Ai v5,Ai v6,Ai v7,As v8, .own (nL5.cell 4), .own (nL5.cell 5)]),((nL2.cell 4), .arr (Ac+2) true 6 v9),((nL2.cell 5), .arr (Ak+2) true 7 w0),((nL5.cell 4), .arr (Ac+2) true 6 w1),((nL5.cell 5), .arr (Ak+2) true 7 w2)]⟩ K
def Na(u0 u1 u2:Int)(u3:LB)(u4 u5:LL)(u6 u7 u8:Int)(u9:LB)(v0 v1:Bool)(v2 v3 v4:Bool)(v5 v6 v7:Int)(v8:LB)(v9 w0:LL)(w1 w2:LL)(K:KK):Prop:=Aq 11 E0.P Bv (Ae 11 ac_value_Plain).code ⟨[(1, .ptr L6 0),(2, .ptr nL2 0),(3, .ptr nL3 0),(5, .ptr nL5 0)],[(L6, .blk Ac [Ai u0,Ai u1,Ai u2,As u3,Al 6 u4,Al 7 u5]),(nL2, .blk Ac [Ai u6,Ai u7,Ai u8,As u9, .own (nL2.cell 4), .own (nL2.cell 5)]),(nL3, .blk Ay [Ab v0,Ab v1,Ab v2,Ab v3,Ab v4]),(nL5, .blk Ac [Ai v5,Ai v6,Ai v7,As v8, .own (nL5.cell 4), .own (nL5.cell 5)]),((nL2.cell 4), .arr (Ac+2) true 6 v9),((nL2.cell 5), .arr (Ak+2) true 7 w0),((nL5.cell 4), .arr (Ac+2) true 6 w1),((nL5.cell 5), .arr (Ak+2) true 7 w2)]⟩ K
def Nk(t38r:LL)(t39 t40:Int)(u0 u1 u2:Int)(u3:LB)(u4 u5:LL)(u6 u7 u8:Int)(u9:LB)(v0 v1:Bool)(v2 v3 v4:Bool)(v5 v6 v7:Int)(v8:LB)(v9 w0:LL)(w1 w2:LL)(K:KK):Prop:=Bz 14 E0.P Bv (Au 14 ac_value_Plain).code ⟨[(1, .ptr L6 0),(2, .ptr nL2 0),(3, .ptr nL3 0),(5, .ptr nL5 0),(38,Al 6 t38r),(39,Ai t39),(40,Ai t40)],[(L6, .blk Ac [Ai u0,Ai u1,Ai u2,As u3,Al 6 u4,Al 7 u5]),(nL2, .blk Ac [Ai u6,Ai u7,Ai u8,As u9, .own (nL2.cell 4), .own (nL2.cell 5)]),(nL3, .blk Ay [Ab v0,Ab v1,Ab v2,Ab v3,Ab v4]),(nL5, .blk Ac [Ai v5,Ai v6,Ai v7,As v8, .own (nL5.cell 4), .own (nL5.cell 5)]),((nL2.cell 4), .arr (Ac+2) true 6 v9),((nL2.cell 5), .arr (Ak+2) true 7 w0),((nL5.cell 4), .arr (Ac+2) true 6 w1),((nL5.cell 5), .arr (Ak+2) true 7 w2)]⟩ K
def Nb(u0 u1 u2:Int)(u3:LB)(u4 u5:LL)(u6 u7 u8:Int)(u9:LB)(v0 v1:Bool)(v2 v3 v4:Bool)(v5 v6 v7:Int)(v8:LB)(v9 w0:LL)(w1 w2:LL)(K:KK):Prop:=Aq 20 E0.P Bv (Ae 20 ac_value_Plain).code ⟨[(1, .ptr L6 0),(2, .ptr nL2 0),(3, .ptr nL3 0),(5, .ptr nL5 0)],[(L6, .blk Ac [Ai u0,Ai u1,Ai u2,As u3,Al 6 u4,Al 7 u5]),(nL2, .blk Ac [Ai u6,Ai u7,Ai u8,As u9, .own (nL2.cell 4), .own (nL2.cell 5)]),(nL3, .blk Ay [Ab v0,Ab v1,Ab v2,Ab v3,Ab v4]),(nL5, .blk Ac [Ai v5,Ai v6,Ai v7,As v8, .own (nL5.cell 4), .own (nL5.cell 5)]),((nL2.cell 4), .arr (Ac+2) true 6 v9),((nL2.cell 5), .arr (Ak+2) true 7 w0),((nL5.cell 4), .arr (Ac+2) true 6 w1),((nL5.cell 5), .arr (Ak+2) true 7 w2)]⟩ K
def Ld(Q:QQ):KK:=kE fun st=>finish 0 E0.T [.cell 2 39] [] Q st
def Ee(K:KK):KK:=kP [] K
def Ua(K:KK):KK:=kC 0 (fun st=>Aq 20 E0.P Bv (Ae 20 ac_value_Plain).code (mask [1,2,3,5] st) (Ee K)) K
theorem Aen(u0 u1 u2:Int)(u3:LB)(u4 u5:LL)(u6 u7 u8:Int)(u9:LB)(v0 v1:Bool)(v2 v3 v4:Bool)(v5 v6 v7:Int)(v8:LB)(v9 w0:LL)(w1 w2:LL)(K:KK)(h:
 (Br (v1)
 (Oy u0 u1 u2 u3 u4 u5 u6 u7 u8 u9 v0 v1 v2 v3 v4 v5 v6 u2 v8 v9 w0 w1 w2 (Ee K))
 (Oy u0 u1 u2 u3 u4 u5 u6 u7 u8 u9 v0 v1 v2 v3 v4 v5 v6 v7 v8 v9 w0 w1 w2 (Ee K)))):Ox u0 u1 u2 u3 u4 u5 u6 u7 u8 u9 v0 v1 v2 v3 v4 v5 v6 v7 v8 v9 w0 w1 w2 K:=Aw (Ar E0 Bv) (A8 Bv) 3 7 (Ae 7 ac_value_Plain) [] _ K rfl (kr (by kernel_rfl) h)
theorem Aeo(u0 u1 u2:Int)(u3:LB)(u4 u5:LL)(u6 u7 u8:Int)(u9:LB)(v0 v1:Bool)(v2 v3 v4:Bool)(v5 v6 v7:Int)(v8:LB)(v9 w0:LL)(w1 w2:LL)(K:KK)(h:
 (Br (v2)
 (Na u0 u1 u2 u3 u4 u5 u6 u7 u8 u9 v0 v1 v2 v3 v4 v5 v6 v7 u3 v9 w0 w1 w2 (Ee K))
 (Na u0 u1 u2 u3 u4 u5 u6 u7 u8 u9 v0 v1 v2 v3 v4 v5 v6 v7 v8 v9 w0 w1 w2 (Ee K)))):Oy u0 u1 u2 u3 u4 u5 u6 u7 u8 u9 v0 v1 v2 v3 v4 v5 v6 v7 v8 v9 w0 w1 w2 K:=Aw (Ar E0 Bv) (A8 Bv) 3 9 (Ae 9 ac_value_Plain) [] _ K rfl (kr (by kernel_rfl) h)
theorem Ad0(u0 u1 u2:Int)(u3:LB)(u4 u5:LL)(u6 u7 u8:Int)(u9:LB)(v0 v1:Bool)(v2 v3 v4:Bool)(v5 v6 v7:Int)(v8:LB)(v9 w0:LL)(w1 w2:LL)(K:KK)(h:
 (Br (v3)
 (Nk u4 ((↑u4.length:Int)) ((0:Int)) u0 u1 u2 u3 u4 u5 u6 u7 u8 u9 v0 v1 v2 v3 v4 v5 v6 v7 v8 v9 w0 w1 w2 (Ua K))
 (Nb u0 u1 u2 u3 u4 u5 u6 u7 u8 u9 v0 v1 v2 v3 v4 v5 v6 v7 v8 v9 w0 w1 w2 (Ee K)))):Na u0 u1 u2 u3 u4 u5 u6 u7 u8 u9 v0 v1 v2 v3 v4 v5 v6 v7 v8 v9 w0 w1 w2 K:=Aw (Ar E0 Bv) (A8 Bv) 3 11 (Ae 11 ac_value_Plain) [] _ K rfl (kr (by kernel_rfl) h)
theorem Vf(t38r:LL)(t39 t40:Int)(u0 u1 u2:Int)(u3:LB)(u4 u5:LL)(u6 u7 u8:Int)(u9:LB)(v0 v1:Bool)(v2 v3 v4:Bool)(v5 v6 v7:Int)(v8:LB)(v9 w0:LL)(w1 w2:LL)(K:KK)(h:
 (Br (decide (t40<t39))
 (Af (((0:Int)≤t40∧t40<(↑t38r.length:Int))∧
 Cb
 [.int .i64, .int .i64, .int .i64, .str, .sl 6 Ac,
 .sl 7 Ak]
 (t38r.getD t40.toNat [])=
 true)
 (Call E0.P Fx [.imm (.agg [.int .i64 (gI (t38r.getD t40.toNat []) 0), .int .i64 (gI (t38r.getD t40.toNat []) 1), .int .i64 (gI (t38r.getD t40.toNat []) 2), .str (gS (t38r.getD t40.toNat []) 3), .sl .any 6 (gR (t38r.getD t40.toNat []) 4), .sl .any 7 (gR (t38r.getD t40.toNat []) 5)])] [] fun r0 g0=>
 Af (qV3 g0 r0)
 (Af ((w1.length+1)*88≤140737488355328∧w1.length+1≤140737488355328)
 (Nk t38r t39 (IntKind.i64.wrap (t40+(1:Int))) u0 u1 u2 u3 u4 u5 u6 u7 u8 u9 v0 v1 v2 v3 v4 v5 v6 v7 v8 v9 w0 (w1++
 [[IV.int .i64 (gI (Ao r0) 0), .int .i64 (gI (Ao r0) 1),
 .int .i64 (gI (Ao r0) 2), .str (gS (Ao r0) 3),
 .sl SK.any 6 (gR (Ao r0) 4), .sl SK.any 7 (gR (Ao r0) 5)]]) w2 K))))
 (K (.exit 0) ⟨[(1, .ptr L6 0),(2, .ptr nL2 0),(3, .ptr nL3 0),(5, .ptr nL5 0)],[(L6, .blk Ac [Ai u0,Ai u1,Ai u2,As u3,Al 6 u4,Al 7 u5]),(nL2, .blk Ac [Ai u6,Ai u7,Ai u8,As u9, .own (nL2.cell 4), .own (nL2.cell 5)]),(nL3, .blk Ay [Ab v0,Ab v1,Ab v2,Ab v3,Ab v4]),(nL5, .blk Ac [Ai v5,Ai v6,Ai v7,As v8, .own (nL5.cell 4), .own (nL5.cell 5)]),((nL2.cell 4), .arr (Ac+2) true 6 v9),((nL2.cell 5), .arr (Ak+2) true 7 w0),((nL5.cell 4), .arr (Ac+2) true 6 w1),((nL5.cell 5), .arr (Ak+2) true 7 w2)]⟩))):Nk t38r t39 t40 u0 u1 u2 u3 u4 u5 u6 u7 u8 u9 v0 v1 v2 v3 v4 v5 v6 v7 v8 v9 w0 w1 w2 K:=Bq (Ar E0 Bv) (A8 Bv) 3 14 (Au 14 ac_value_Plain) [1,2,3,5,38,39,40] _ K rfl (kr (by kernel_rfl) h)
theorem Ad1(u0 u1 u2:Int)(u3:LB)(u4 u5:LL)(u6 u7 u8:Int)(u9:LB)(v0 v1:Bool)(v2 v3 v4:Bool)(v5 v6 v7:Int)(v8:LB)(v9 w0:LL)(w1 w2:LL)(K:KK)(h:
 (Br (v4)
 (Call E0.P Ot [Al 7 u5] [] fun r0 g0=>
 Af (g0=[]∧r0= .imm (.sl SK.any 7 (rR r0)))
 (K .ret ⟨[(2, .ptr nL2 0)],[(nL2, .blk Ac [Ai v5,Ai v6,Ai v7,As v8, .own (nL5.cell 4),Al 7 (rR r0)]),((nL5.cell 4), .arr (Ac+2) true 6 w1)]⟩))
 (K .ret ⟨[(2, .ptr nL2 0)],[(nL2, .blk Ac [Ai v5,Ai v6,Ai v7,As v8, .own (nL5.cell 4), .own (nL5.cell 5)]),((nL5.cell 4), .arr (Ac+2) true 6 w1),((nL5.cell 5), .arr (Ak+2) true 7 w2)]⟩))):Nb u0 u1 u2 u3 u4 u5 u6 u7 u8 u9 v0 v1 v2 v3 v4 v5 v6 v7 v8 v9 w0 w1 w2 K:=Aw (Ar E0 Bv) (A8 Bv) 3 20 (Ae 20 ac_value_Plain) [] _ K rfl (kr (by kernel_rfl) h)
theorem Ae0(Q:QQ)(u0 u1 u2:Int)(u3:LB)(u4 u5:LL)(h:
 (Q (.imm (.agg [.int .i64 u0, .int .i64 u1, .int .i64 u2, .str u3, .sl .any 6 u5, .sl .any 7 u4])) [])):Ld Q .ret ⟨[(2, .ptr nL2 0)],[(nL2, .blk Ac [Ai u0,Ai u1,Ai u2,As u3, .own (nL5.cell 4),Al 7 u4]),((nL5.cell 4), .arr (Ac+2) true 6 u5)]⟩:=kr (by kernel_rfl) h
theorem Ae1(Q:QQ)(u0 u1 u2:Int)(u3:LB)(u4 u5:LL)(h:
 (Q (.imm (.agg [.int .i64 u0, .int .i64 u1, .int .i64 u2, .str u3, .sl .any 6 u4, .sl .any 7 u5])) [])):Ld Q .ret ⟨[(2, .ptr nL2 0)],[(nL2, .blk Ac [Ai u0,Ai u1,Ai u2,As u3, .own (nL5.cell 4), .own (nL5.cell 5)]),((nL5.cell 4), .arr (Ac+2) true 6 u4),((nL5.cell 5), .arr (Ak+2) true 7 u5)]⟩:=kr (by kernel_rfl) h
theorem Ae2(K:KK)(u0 u1 u2:Int)(u3:LB)(u4 u5:LL)(h:
 (K .ret ⟨[(2, .ptr nL2 0)],[(nL2, .blk Ac [Ai u0,Ai u1,Ai u2,As u3, .own (nL5.cell 4),Al 7 u4]),((nL5.cell 4), .arr (Ac+2) true 6 u5)]⟩)):Ee K .ret ⟨[(2, .ptr nL2 0)],[(nL2, .blk Ac [Ai u0,Ai u1,Ai u2,As u3, .own (nL5.cell 4),Al 7 u4]),((nL5.cell 4), .arr (Ac+2) true 6 u5)]⟩:=kr (by kernel_rfl) h
theorem Ae3(K:KK)(u0 u1 u2:Int)(u3:LB)(u4 u5:LL)(h:
 (K .ret ⟨[(2, .ptr nL2 0)],[(nL2, .blk Ac [Ai u0,Ai u1,Ai u2,As u3, .own (nL5.cell 4), .own (nL5.cell 5)]),((nL5.cell 4), .arr (Ac+2) true 6 u4),((nL5.cell 5), .arr (Ak+2) true 7 u5)]⟩)):Ee K .ret ⟨[(2, .ptr nL2 0)],[(nL2, .blk Ac [Ai u0,Ai u1,Ai u2,As u3, .own (nL5.cell 4), .own (nL5.cell 5)]),((nL5.cell 4), .arr (Ac+2) true 6 u4),((nL5.cell 5), .arr (Ak+2) true 7 u5)]⟩:=kr (by kernel_rfl) h
theorem Ae4(K:KK)(u0 u1 u2:Int)(u3:LB)(u4 u5:LL)(u6 u7 u8:Int)(u9:LB)(v0 v1:Bool)(v2 v3 v4:Bool)(v5 v6 v7:Int)(v8:LB)(v9 w0:LL)(w1 w2:LL)(h:
 (Nb u0 u1 u2 u3 u4 u5 u6 u7 u8 u9 v0 v1 v2 v3 v4 v5 v6 v7 v8 v9 w0 w1 w2 (Ee K))):Ua K (.exit 0) ⟨[(1, .ptr L6 0),(2, .ptr nL2 0),(3, .ptr nL3 0),(5, .ptr nL5 0)],[(L6, .blk Ac [Ai u0,Ai u1,Ai u2,As u3,Al 6 u4,Al 7 u5]),(nL2, .blk Ac [Ai u6,Ai u7,Ai u8,As u9, .own (nL2.cell 4), .own (nL2.cell 5)]),(nL3, .blk Ay [Ab v0,Ab v1,Ab v2,Ab v3,Ab v4]),(nL5, .blk Ac [Ai v5,Ai v6,Ai v7,As v8, .own (nL5.cell 4), .own (nL5.cell 5)]),((nL2.cell 4), .arr (Ac+2) true 6 v9),((nL2.cell 5), .arr (Ak+2) true 7 w0),((nL5.cell 4), .arr (Ac+2) true 6 w1),((nL5.cell 5), .arr (Ak+2) true 7 w2)]⟩:=kr (by kernel_rfl) h
theorem Al4:Cf E0.P 24 ac_value_Plain.code Bv [.cell 2 39]:=Bu _ _ Tryd.f24 [(7,[1,2,3,5],[]),(9,[1,2,3,5],[]),(11,[1,2,3,5],[]),(14,[1,2,3,5,38,39,40],[]),(16,[1,2,3,5],[]),(20,[1,2,3,5],[])] [2] _ 59 Tryd.func24 (by kernel_rfl) (by kernel_rfl) (by kernel_rfl) (by kernel_rfl)
theorem Ah4(a0_0 a0_1 a0_2:Int)(a0_3:LB)(a0_4 a0_5:LL)(Q:QQ)(h:
 (Call E0.P Uv [Ai a0_0] [] fun r0 g0=>
 Af (g0=[]∧
 r0=
 .tup
 [.imm
 (IV.agg
 [.bool (gB (Ao (rT r0 0)) 0), .bool (gB (Ao (rT r0 0)) 1),
 .bool (gB (Ao (rT r0 0)) 2), .bool (gB (Ao (rT r0 0)) 3),
 .bool (gB (Ao (rT r0 0)) 4)]),
 .imm (.bool (rB (rT r0 1)))])
 (Br (!rB (rT r0 1))
 (Q (.imm (.agg [.int .i64 0, .int .i64 0, .int .i64 0, .str [], .sl .any 6 [], .sl .any 7 []])) [])
 (Br (gB (Ao (rT r0 0)) 0)
 (Ox a0_0 a0_1 a0_2 a0_3 a0_4 a0_5 ((0:Int)) ((0:Int)) ((0:Int)) [] (gB (Ao (rT r0 0)) 0) (gB (Ao (rT r0 0)) 1) (gB (Ao (rT r0 0)) 2) (gB (Ao (rT r0 0)) 3) (gB (Ao (rT r0 0)) 4) a0_0 a0_1 ((0:Int)) [] [] [] [] [] (Ld Q))
 (Ox a0_0 a0_1 a0_2 a0_3 a0_4 a0_5 ((0:Int)) ((0:Int)) ((0:Int)) [] (gB (Ao (rT r0 0)) 0) (gB (Ao (rT r0 0)) 1) (gB (Ao (rT r0 0)) 2) (gB (Ao (rT r0 0)) 3) (gB (Ao (rT r0 0)) 4) a0_0 ((0:Int)) ((0:Int)) [] [] [] [] [] (Ld Q)))))):Call E0.P Fx [.imm (.agg [.int .i64 a0_0, .int .i64 a0_1, .int .i64 a0_2, .str a0_3, .sl .any 6 a0_4, .sl .any 7 a0_5])] [] Q:=Bb (Ar E0 Bv) (A8 Bv) 3 0 24 ac_value_Plain [.cell 2 39] Al4 _ _ Q rfl rfl (kr (by kernel_rfl) h)
noncomputable def ac_r16_Few:AC:=(Ba [] [4] (codeOf Tryd.f14) 0).1
abbrev Ac7:Nat:=19
theorem Atc:Cf E0.P 14 ac_r16_Few.code Ac7 [.tmp 4]:=Bu _ _ Tryd.f14 [] [4] _ 19 Tryd.func14 (by kernel_rfl) (by kernel_rfl) (by kernel_rfl) (by kernel_rfl)
theorem Aoe(a0_0 a0_1 a0_2:Int)(a0_3:LB)(a0_4 a0_5:LL)(a1:Int)(Q:QQ)(h:
 (Call E0.P Re [.imm (.agg [.int .i64 a0_0, .int .i64 a0_1, .int .i64 a0_2, .str a0_3, .sl .any 6 a0_4, .sl .any 7 a0_5]),Ai (IntKind.i64.wrap (a1+(1:Int)))] [] fun r0 g0=>
 Af (qV1 g0 r0)
 (Br (decide (rI r0≤a1) == true)
 (Call E0.P Us [.imm (.agg [.int .i64 a0_0, .int .i64 a0_1, .int .i64 a0_2, .str a0_3, .sl .any 6 a0_4, .sl .any 7 a0_5]),Ai 200] [] fun r1 g1=>
 Af (qV0 g1 r1)
 (Let (rB r1) fun x2=>
 Br (x2 == true)
 (Call E0.P Mm [.imm (.agg [.int .i64 a0_0, .int .i64 a0_1, .int .i64 a0_2, .str a0_3, .sl .any 6 a0_4, .sl .any 7 a0_5]),Ai 3000] [] fun r3 g3=>
 Af (qV0 g3 r3)
 (Let (rB r3) fun x4=>
 Q (Ab x4) []))
 (Af ((!true)=false)
 (Let (false) fun x5=>
 Q (Ab x5) []))))
 (Af ((!true)=false)
 (Let (false) fun x6=>
 Br (x6 == true)
 (Call E0.P Mm [.imm (.agg [.int .i64 a0_0, .int .i64 a0_1, .int .i64 a0_2, .str a0_3, .sl .any 6 a0_4, .sl .any 7 a0_5]),Ai 3000] [] fun r7 g7=>
 Af (qV0 g7 r7)
 (Let (rB r7) fun x8=>
 Q (Ab x8) []))
 (Af ((!true)=false)
 (Let (false) fun x9=>
 Q (Ab x9) []))))))):Call E0.P Yg [.imm (.agg [.int .i64 a0_0, .int .i64 a0_1, .int .i64 a0_2, .str a0_3, .sl .any 6 a0_4, .sl .any 7 a0_5]),Ai a1] [] Q:=Bb (Ar E0 Ac7) (A8 Ac7) 3 0 14 ac_r16_Few [.tmp 4] Atc _ _ Q rfl rfl (kr (by kernel_rfl) h)
noncomputable def ac_r16_size:AC:=(Ba [(3,[1,2,5,6],[]),(5,[1,2,5],[]),(8,[1,2,5],[]),(10,[1,2,5,7],[]),(12,[5],[]),(15,[5],[])] [4] (codeOf Tryd.f47) 0).1
abbrev Da:Nat:=56
def O9(t1 t5:Int)(t6 u0:Int)(u1 u2:Int)(u3:LB)(u4 u5:LL)(K:KK):Prop:=Bz 3 E0.P Da (Au 3 ac_r16_size).code ⟨[(1,Ai t1),(2, .ptr nL2 0),(5,Ai t5),(6,Ai t6)],[(nL2, .blk Ac [Ai u0,Ai u1,Ai u2,As u3,Al 6 u4,Al 7 u5])]⟩ K
def Aem(t1 t5:Int)(u0 u1 u2:Int)(u3:LB)(u4 u5:LL)(K:KK):Prop:=Aq 8 E0.P Da (Ae 8 ac_r16_size).code ⟨[(1,Ai t1),(2, .ptr nL2 0),(5,Ai t5)],[(nL2, .blk Ac [Ai u0,Ai u1,Ai u2,As u3,Al 6 u4,Al 7 u5])]⟩ K
def Ob(t1 t5:Int)(t7 u0:Int)(u1 u2:Int)(u3:LB)(u4 u5:LL)(K:KK):Prop:=Bz 10 E0.P Da (Au 10 ac_r16_size).code ⟨[(1,Ai t1),(2, .ptr nL2 0),(5,Ai t5),(7,Ai t7)],[(nL2, .blk Ac [Ai u0,Ai u1,Ai u2,As u3,Al 6 u4,Al 7 u5])]⟩ K
def Adp(t5:Int)(K:KK):Prop:=Aq 15 E0.P Da (Ae 15 ac_r16_size).code ⟨[(5,Ai t5)],[]⟩ K
def Zg(Q:QQ):KK:=kE fun st=>finish 0 E0.T [.tmp 4] [] Q st
def Aey(Q:QQ):KK:=kF 0 (fun st=>Aq 8 E0.P Da (Ae 8 ac_r16_size).code (mask [1,2,5] st) (Zg Q)) fun st=>finish 0 E0.T [.tmp 4] [] Q st
def Zh(K:KK):KK:=kP [] K
def Aez(K:KK):KK:=kC 2 (fun st=>Aq 15 E0.P Da (Ae 15 ac_r16_size).code (mask [5] st) (Zh K)) K
theorem Aao(t1 t5:Int)(t6 u0:Int)(u1 u2:Int)(u3:LB)(u4 u5:LL)(K:KK)(h:
 (Let (bif decide (t6<(↑u4.length:Int))then decide (t5<t1)else false) fun x0=>
 Br (x0)
 (Af (((0:Int)≤t6∧t6<(↑u4.length:Int))∧
 Cb
 [.int .i64, .int .i64, .int .i64, .str, .sl 6 Ac,
 .sl 7 Ak]
 (u4.getD t6.toNat [])=
 true)
 (Call E0.P Re [.imm (.agg [.int .i64 (gI (u4.getD t6.toNat []) 0), .int .i64 (gI (u4.getD t6.toNat []) 1), .int .i64 (gI (u4.getD t6.toNat []) 2), .str (gS (u4.getD t6.toNat []) 3), .sl .any 6 (gR (u4.getD t6.toNat []) 4), .sl .any 7 (gR (u4.getD t6.toNat []) 5)]),Ai (IntKind.i64.wrap (t1 - t5))] [] fun r1 g1=>
 Af (qV1 g1 r1)
 (O9 t1 (IntKind.i64.wrap (t5+rI r1)) (IntKind.i64.wrap (t6+(1:Int))) u0 u1 u2 u3 u4 u5 K)))
 (K (.exit 0) ⟨[(1,Ai t1),(2, .ptr nL2 0),(5,Ai t5)],[(nL2, .blk Ac [Ai u0,Ai u1,Ai u2,As u3,Al 6 u4,Al 7 u5])]⟩))):O9 t1 t5 t6 u0 u1 u2 u3 u4 u5 K:=Bq (Ar E0 Da) (A8 Da) 3 3 (Au 3 ac_r16_size) [1,2,5,6] _ K rfl (kr (by kernel_rfl) h)
theorem Aje(t1 t5:Int)(u0 u1 u2:Int)(u3:LB)(u4 u5:LL)(K:KK)(h:
 (Ob t1 t5 ((0:Int)) u0 u1 u2 u3 u4 u5 (Aez K))):Aem t1 t5 u0 u1 u2 u3 u4 u5 K:=Aw (Ar E0 Da) (A8 Da) 3 8 (Ae 8 ac_r16_size) [] _ K rfl (kr (by kernel_rfl) h)
theorem Zj(t1 t5:Int)(t7 u0:Int)(u1 u2:Int)(u3:LB)(u4 u5:LL)(K:KK)(h:
 (Let (bif decide (t7<(↑u5.length:Int))then decide (t5<t1)else false) fun x0=>
 Br (x0)
 (Af (((0:Int)≤t7∧t7<(↑u5.length:Int))∧
 Cb
 [.str, .int .i64, .int .i64, .int .i64, .str, .sl 6 Ac,
 .sl 7 Ak]
 (u5.getD t7.toNat [])=
 true)
 (Call E0.P Re [.imm (.agg [.int .i64 (gI (u5.getD t7.toNat []) 1), .int .i64 (gI (u5.getD t7.toNat []) 2), .int .i64 (gI (u5.getD t7.toNat []) 3), .str (gS (u5.getD t7.toNat []) 4), .sl .any 6 (gR (u5.getD t7.toNat []) 5), .sl .any 7 (gR (u5.getD t7.toNat []) 6)]),Ai (IntKind.i64.wrap (t1 - t5))] [] fun r1 g1=>
 Af (qV1 g1 r1)
 (Ob t1 (IntKind.i64.wrap (t5+rI r1)) (IntKind.i64.wrap (t7+(1:Int))) u0 u1 u2 u3 u4 u5 K)))
 (K (.exit (2)) ⟨[(5,Ai t5)],[]⟩))):Ob t1 t5 t7 u0 u1 u2 u3 u4 u5 K:=Bq (Ar E0 Da) (A8 Da) 3 10 (Au 10 ac_r16_size) [1,2,5,7] _ K rfl (kr (by kernel_rfl) h)
theorem Ahw(t5:Int)(K:KK)(h:
 (K .ret ⟨[(4,Ai t5)],[]⟩)):Adp t5 K:=Aw (Ar E0 Da) (A8 Da) 3 15 (Ae 15 ac_r16_size) [] _ K rfl (kr (by kernel_rfl) h)
theorem Ajo(Q:QQ)(t4:Int)(h:
 (Q (Ai t4) [])):Zg Q .ret ⟨[(4,Ai t4)],[]⟩:=kr (by kernel_rfl) h
theorem Ajp(Q:QQ)(t1 t5:Int)(u0 u1 u2:Int)(u3:LB)(u4 u5:LL)(h:
 (Aem t1 t5 u0 u1 u2 u3 u4 u5 (Zg Q))):Aey Q (.exit 0) ⟨[(1,Ai t1),(2, .ptr nL2 0),(5,Ai t5)],[(nL2, .blk Ac [Ai u0,Ai u1,Ai u2,As u3,Al 6 u4,Al 7 u5])]⟩:=kr (by kernel_rfl) h
theorem Ajq(K:KK)(t4:Int)(h:
 (K .ret ⟨[(4,Ai t4)],[]⟩)):Zh K .ret ⟨[(4,Ai t4)],[]⟩:=kr (by kernel_rfl) h
theorem Ajr(K:KK)(t5:Int)(h:
 (Adp t5 (Zh K))):Aez K (.exit (2)) ⟨[(5,Ai t5)],[]⟩:=kr (by kernel_rfl) h
theorem Aq5:Cf E0.P 47 ac_r16_size.code Da [.tmp 4]:=Bu _ _ Tryd.f47 [(3,[1,2,5,6],[]),(5,[1,2,5],[]),(8,[1,2,5],[]),(10,[1,2,5,7],[]),(12,[5],[]),(15,[5],[])] [4] _ 56 Tryd.func47 (by kernel_rfl) (by kernel_rfl) (by kernel_rfl) (by kernel_rfl)
theorem Ank(a0_0 a0_1 a0_2:Int)(a0_3:LB)(a0_4 a0_5:LL)(a1:Int)(Q:QQ)(h:
 (O9 a1 ((1:Int)) ((0:Int)) a0_0 a0_1 a0_2 a0_3 a0_4 a0_5 (Aey Q))):Call E0.P Re [.imm (.agg [.int .i64 a0_0, .int .i64 a0_1, .int .i64 a0_2, .str a0_3, .sl .any 6 a0_4, .sl .any 7 a0_5]),Ai a1] [] Q:=Bb (Ar E0 Da) (A8 Da) 3 0 47 ac_r16_size [.tmp 4] Aq5 _ _ Q rfl rfl (kr (by kernel_rfl) h)
noncomputable def ac_r16_low:AC:=(Ba [(5,[1,2,5],[]),(7,[1,2],[]),(12,[1,2],[]),(14,[1,2,6],[]),(16,[],[]),(21,[],[])] [4] (codeOf Tryd.f48) 0).1
abbrev Dr:Nat:=42
def Wi(t1 t5:Int)(u0 u1 u2:Int)(u3:LB)(u4 u5:LL)(K:KK):Prop:=Bz 5 E0.P Dr (Au 5 ac_r16_low).code ⟨[(1,Ai t1),(2, .ptr nL2 0),(5,Ai t5)],[(nL2, .blk Ac [Ai u0,Ai u1,Ai u2,As u3,Al 6 u4,Al 7 u5])]⟩ K
def Aek(t1 u0:Int)(u1 u2:Int)(u3:LB)(u4 u5:LL)(K:KK):Prop:=Aq 12 E0.P Dr (Ae 12 ac_r16_low).code ⟨[(1,Ai t1),(2, .ptr nL2 0)],[(nL2, .blk Ac [Ai u0,Ai u1,Ai u2,As u3,Al 6 u4,Al 7 u5])]⟩ K
def Uh(t1 t6:Int)(u0 u1 u2:Int)(u3:LB)(u4 u5:LL)(K:KK):Prop:=Bz 14 E0.P Dr (Au 14 ac_r16_low).code ⟨[(1,Ai t1),(2, .ptr nL2 0),(6,Ai t6)],[(nL2, .blk Ac [Ai u0,Ai u1,Ai u2,As u3,Al 6 u4,Al 7 u5])]⟩ K
def Ael(K:KK):Prop:=Aq 21 E0.P Dr (Ae 21 ac_r16_low).code ⟨[],[]⟩ K
def Aa2(Q:QQ):KK:=kE fun st=>finish 0 E0.T [.tmp 4] [] Q st
def Aa3(Q:QQ):KK:=kF 0 (fun st=>Aq 12 E0.P Dr (Ae 12 ac_r16_low).code (mask [1,2] st) (Aa2 Q)) fun st=>finish 0 E0.T [.tmp 4] [] Q st
def Aa4(K:KK):KK:=kP [] K
def Aa5(K:KK):KK:=kC 2 (fun st=>Aq 21 E0.P Dr (Ae 21 ac_r16_low).code (mask [] st) (Aa4 K)) K
theorem Abn(t1 t5:Int)(u0 u1 u2:Int)(u3:LB)(u4 u5:LL)(K:KK)(h:
 (Br (decide (t5<(↑u4.length:Int)))
 (Af (((0:Int)≤t5∧t5<(↑u4.length:Int))∧
 Cb
 [.int .i64, .int .i64, .int .i64, .str, .sl 6 Ac,
 .sl 7 Ak]
 (u4.getD t5.toNat [])=
 true)
 (Call E0.P Us [.imm (.agg [.int .i64 (gI (u4.getD t5.toNat []) 0), .int .i64 (gI (u4.getD t5.toNat []) 1), .int .i64 (gI (u4.getD t5.toNat []) 2), .str (gS (u4.getD t5.toNat []) 3), .sl .any 6 (gR (u4.getD t5.toNat []) 4), .sl .any 7 (gR (u4.getD t5.toNat []) 5)]),Ai (IntKind.i64.wrap (t1 - (1:Int)))] [] fun r0 g0=>
 Af (qV0 g0 r0)
 (Br (!rB r0)
 (K .ret ⟨[(4,Ab false)],[]⟩)
 (Wi t1 (IntKind.i64.wrap (t5+(1:Int))) u0 u1 u2 u3 u4 u5 K))))
 (K (.exit 0) ⟨[(1,Ai t1),(2, .ptr nL2 0)],[(nL2, .blk Ac [Ai u0,Ai u1,Ai u2,As u3,Al 6 u4,Al 7 u5])]⟩))):Wi t1 t5 u0 u1 u2 u3 u4 u5 K:=Bq (Ar E0 Dr) (A8 Dr) 3 5 (Au 5 ac_r16_low) [1,2,5] _ K rfl (kr (by kernel_rfl) h)
theorem Ajc(t1 u0:Int)(u1 u2:Int)(u3:LB)(u4 u5:LL)(K:KK)(h:
 (Uh t1 ((0:Int)) u0 u1 u2 u3 u4 u5 (Aa5 K))):Aek t1 u0 u1 u2 u3 u4 u5 K:=Aw (Ar E0 Dr) (A8 Dr) 3 12 (Ae 12 ac_r16_low) [] _ K rfl (kr (by kernel_rfl) h)
theorem Aan(t1 t6:Int)(u0 u1 u2:Int)(u3:LB)(u4 u5:LL)(K:KK)(h:
 (Br (decide (t6<(↑u5.length:Int)))
 (Af (((0:Int)≤t6∧t6<(↑u5.length:Int))∧
 Cb
 [.str, .int .i64, .int .i64, .int .i64, .str, .sl 6 Ac,
 .sl 7 Ak]
 (u5.getD t6.toNat [])=
 true)
 (Call E0.P Us [.imm (.agg [.int .i64 (gI (u5.getD t6.toNat []) 1), .int .i64 (gI (u5.getD t6.toNat []) 2), .int .i64 (gI (u5.getD t6.toNat []) 3), .str (gS (u5.getD t6.toNat []) 4), .sl .any 6 (gR (u5.getD t6.toNat []) 5), .sl .any 7 (gR (u5.getD t6.toNat []) 6)]),Ai (IntKind.i64.wrap (t1 - (1:Int)))] [] fun r0 g0=>
 Af (qV0 g0 r0)
 (Br (!rB r0)
 (K .ret ⟨[(4,Ab false)],[]⟩)
 (Uh t1 (IntKind.i64.wrap (t6+(1:Int))) u0 u1 u2 u3 u4 u5 K))))
 (K (.exit (2)) ⟨[],[]⟩))):Uh t1 t6 u0 u1 u2 u3 u4 u5 K:=Bq (Ar E0 Dr) (A8 Dr) 3 14 (Au 14 ac_r16_low) [1,2,6] _ K rfl (kr (by kernel_rfl) h)
theorem Ajd(K:KK)(h:
 (K .ret ⟨[(4,Ab true)],[]⟩)):Ael K:=Aw (Ar E0 Dr) (A8 Dr) 3 21 (Ae 21 ac_r16_low) [] _ K rfl (kr (by kernel_rfl) h)
theorem Abl(Q:QQ)(t4:Bool)(h:
 (Q (Ab t4) [])):Aa2 Q .ret ⟨[(4,Ab t4)],[]⟩:=kr (by kernel_rfl) h
theorem Ak7(Q:QQ)(t4:Bool)(h:
 (Q (Ab t4) [])):Aa3 Q .ret ⟨[(4,Ab t4)],[]⟩:=kr (by kernel_rfl) h
theorem Ak8(Q:QQ)(t1 u0:Int)(u1 u2:Int)(u3:LB)(u4 u5:LL)(h:
 (Aek t1 u0 u1 u2 u3 u4 u5 (Aa2 Q))):Aa3 Q (.exit 0) ⟨[(1,Ai t1),(2, .ptr nL2 0)],[(nL2, .blk Ac [Ai u0,Ai u1,Ai u2,As u3,Al 6 u4,Al 7 u5])]⟩:=kr (by kernel_rfl) h
theorem Ak9(K:KK)(t4:Bool)(h:
 (K .ret ⟨[(4,Ab t4)],[]⟩)):Aa4 K .ret ⟨[(4,Ab t4)],[]⟩:=kr (by kernel_rfl) h
theorem Ala(K:KK)(t4:Bool)(h:
 (K .ret ⟨[(4,Ab t4)],[]⟩)):Aa5 K .ret ⟨[(4,Ab t4)],[]⟩:=kr (by kernel_rfl) h
theorem Alb(K:KK)(h:
 (Ael (Aa4 K))):Aa5 K (.exit (2)) ⟨[],[]⟩:=kr (by kernel_rfl) h
theorem Atd:Cf E0.P 48 ac_r16_low.code Dr [.tmp 4]:=Bu _ _ Tryd.f48 [(5,[1,2,5],[]),(7,[1,2],[]),(12,[1,2],[]),(14,[1,2,6],[]),(16,[],[]),(21,[],[])] [4] _ 42 Tryd.func48 (by kernel_rfl) (by kernel_rfl) (by kernel_rfl) (by kernel_rfl)
theorem Aof(a0_0 a0_1 a0_2:Int)(a0_3:LB)(a0_4 a0_5:LL)(a1:Int)(Q:QQ)(h:
 (Br (decide (a1<(0:Int)))
 (Q (Ab false) [])
 (Wi a1 ((0:Int)) a0_0 a0_1 a0_2 a0_3 a0_4 a0_5 (Aa3 Q)))):Call E0.P Us [.imm (.agg [.int .i64 a0_0, .int .i64 a0_1, .int .i64 a0_2, .str a0_3, .sl .any 6 a0_4, .sl .any 7 a0_5]),Ai a1] [] Q:=Bb (Ar E0 Dr) (A8 Dr) 3 0 48 ac_r16_low [.tmp 4] Atd _ _ Q rfl rfl (kr (by kernel_rfl) h)
noncomputable def ac_r16_short:AC:=(Ba [(5,[1,2,5],[]),(7,[1,2],[]),(12,[1,2],[]),(14,[1,2,6],[]),(16,[],[]),(20,[1,2,6],[1,2,6]),(21,[],[])] [4] (codeOf Tryd.f49) 0).1
abbrev Ce:Nat:=54
def Rj(t1 t5:Int)(u0 u1 u2:Int)(u3:LB)(u4 u5:LL)(K:KK):Prop:=Bz 5 E0.P Ce (Au 5 ac_r16_short).code ⟨[(1,Ai t1),(2, .ptr nL2 0),(5,Ai t5)],[(nL2, .blk Ac [Ai u0,Ai u1,Ai u2,As u3,Al 6 u4,Al 7 u5])]⟩ K
def Abf(t1 u0:Int)(u1 u2:Int)(u3:LB)(u4 u5:LL)(K:KK):Prop:=Aq 12 E0.P Ce (Ae 12 ac_r16_short).code ⟨[(1,Ai t1),(2, .ptr nL2 0)],[(nL2, .blk Ac [Ai u0,Ai u1,Ai u2,As u3,Al 6 u4,Al 7 u5])]⟩ K
def P8(t1 t6:Int)(u0 u1 u2:Int)(u3:LB)(u4 u5:LL)(K:KK):Prop:=Bz 14 E0.P Ce (Au 14 ac_r16_short).code ⟨[(1,Ai t1),(2, .ptr nL2 0),(6,Ai t6)],[(nL2, .blk Ac [Ai u0,Ai u1,Ai u2,As u3,Al 6 u4,Al 7 u5])]⟩ K
def Vj(t1 t6:Int)(u0 u1 u2:Int)(u3:LB)(u4 u5:LL)(K:KK):Prop:=Aq 20 E0.P Ce (Ae 20 ac_r16_short).code ⟨[(1,Ai t1),(2, .ptr nL2 0),(6,Ai t6)],[(nL2, .blk Ac [Ai u0,Ai u1,Ai u2,As u3,Al 6 u4,Al 7 u5])]⟩ K
def Abg(K:KK):Prop:=Aq 21 E0.P Ce (Ae 21 ac_r16_short).code ⟨[],[]⟩ K
def Xn(Q:QQ):KK:=kE fun st=>finish 0 E0.T [.tmp 4] [] Q st
def Xo(Q:QQ):KK:=kF 0 (fun st=>Aq 12 E0.P Ce (Ae 12 ac_r16_short).code (mask [1,2] st) (Xn Q)) fun st=>finish 0 E0.T [.tmp 4] [] Q st
def Xp(K:KK):KK:=kP [] K
def Xq(K:KK):KK:=kC 2 (fun st=>Aq 21 E0.P Ce (Ae 21 ac_r16_short).code (mask [] st) (Xp K)) K
def Xr(K:KK):Ex→St→Prop
 | .normal,st=>Bz 14 E0.P Ce (Au 14 ac_r16_short).code (mask [1,2,6] st) K
 | .exit i,st=>K (.exit i) st
 | .goto i,st=>K (.goto i) st
 | .ret,st=>K .ret st
theorem Zi(t1 t5:Int)(u0 u1 u2:Int)(u3:LB)(u4 u5:LL)(K:KK)(h:
 (Br (decide (t5<(↑u4.length:Int)))
 (Af (((0:Int)≤t5∧t5<(↑u4.length:Int))∧
 Cb
 [.int .i64, .int .i64, .int .i64, .str, .sl 6 Ac,
 .sl 7 Ak]
 (u4.getD t5.toNat [])=
 true)
 (Call E0.P Mm [.imm (.agg [.int .i64 (gI (u4.getD t5.toNat []) 0), .int .i64 (gI (u4.getD t5.toNat []) 1), .int .i64 (gI (u4.getD t5.toNat []) 2), .str (gS (u4.getD t5.toNat []) 3), .sl .any 6 (gR (u4.getD t5.toNat []) 4), .sl .any 7 (gR (u4.getD t5.toNat []) 5)]),Ai t1] [] fun r0 g0=>
 Af (qV0 g0 r0)
 (Br (!rB r0)
 (K .ret ⟨[(4,Ab false)],[]⟩)
 (Rj t1 (IntKind.i64.wrap (t5+(1:Int))) u0 u1 u2 u3 u4 u5 K))))
 (K (.exit 0) ⟨[(1,Ai t1),(2, .ptr nL2 0)],[(nL2, .blk Ac [Ai u0,Ai u1,Ai u2,As u3,Al 6 u4,Al 7 u5])]⟩))):Rj t1 t5 u0 u1 u2 u3 u4 u5 K:=Bq (Ar E0 Ce) (A8 Ce) 3 5 (Au 5 ac_r16_short) [1,2,5] _ K rfl (kr (by kernel_rfl) h)
theorem Ag3(t1 u0:Int)(u1 u2:Int)(u3:LB)(u4 u5:LL)(K:KK)(h:
 (P8 t1 ((0:Int)) u0 u1 u2 u3 u4 u5 (Xq K))):Abf t1 u0 u1 u2 u3 u4 u5 K:=Aw (Ar E0 Ce) (A8 Ce) 3 12 (Ae 12 ac_r16_short) [] _ K rfl (kr (by kernel_rfl) h)
theorem Ya(t1 t6:Int)(u0 u1 u2:Int)(u3:LB)(u4 u5:LL)(K:KK)(h:
 (Br (decide (t6<(↑u5.length:Int)))
 (Af (((0:Int)≤t6∧t6<(↑u5.length:Int))∧
 Cb
 [.str, .int .i64, .int .i64, .int .i64, .str, .sl 6 Ac,
 .sl 7 Ak]
 (u5.getD t6.toNat [])=
 true)
 (Af (decide (t1<(↑(gS (u5.getD t6.toNat []) (0:Nat)).length:Int))=false→
 ((0:Int)≤t6∧t6<(↑u5.length:Int))∧
 Cb
 [.str, .int .i64, .int .i64, .int .i64, .str, .sl 6 Ac,
 .sl 7 Ak]
 (u5.getD t6.toNat [])=
 true)
 (Br (decide (t1<(↑(gS (u5.getD t6.toNat []) (0:Nat)).length:Int)) == false)
 (Call E0.P Mm [.imm (.agg [.int .i64 (gI (u5.getD t6.toNat []) 1), .int .i64 (gI (u5.getD t6.toNat []) 2), .int .i64 (gI (u5.getD t6.toNat []) 3), .str (gS (u5.getD t6.toNat []) 4), .sl .any 6 (gR (u5.getD t6.toNat []) 5), .sl .any 7 (gR (u5.getD t6.toNat []) 6)]),Ai t1] [] fun r0 g0=>
 Af (qV0 g0 r0)
 (Let (!rB r0) fun x1=>
 Br (x1)
 (K .ret ⟨[(4,Ab false)],[]⟩)
 (Vj t1 t6 u0 u1 u2 u3 u4 u5 (Xr K))))
 (Af ((!false)=true)
 (Let (true) fun x2=>
 Br (x2)
 (K .ret ⟨[(4,Ab false)],[]⟩)
 (Vj t1 t6 u0 u1 u2 u3 u4 u5 (Xr K)))))))
 (K (.exit (2)) ⟨[],[]⟩))):P8 t1 t6 u0 u1 u2 u3 u4 u5 K:=Bq (Ar E0 Ce) (A8 Ce) 3 14 (Au 14 ac_r16_short) [1,2,6] _ K rfl (kr (by kernel_rfl) h)
theorem Ag4(t1 t6:Int)(u0 u1 u2:Int)(u3:LB)(u4 u5:LL)(K:KK)(h:
 (K .normal ⟨[(1,Ai t1),(2, .ptr nL2 0),(6,Ai (IntKind.i64.wrap (t6+(1:Int))))],[(nL2, .blk Ac [Ai u0,Ai u1,Ai u2,As u3,Al 6 u4,Al 7 u5])]⟩)):Vj t1 t6 u0 u1 u2 u3 u4 u5 K:=Aw (Ar E0 Ce) (A8 Ce) 3 20 (Ae 20 ac_r16_short) [1,2,6] _ K rfl (kr (by kernel_rfl) h)
theorem Ag5(K:KK)(h:
 (K .ret ⟨[(4,Ab true)],[]⟩)):Abg K:=Aw (Ar E0 Ce) (A8 Ce) 3 21 (Ae 21 ac_r16_short) [] _ K rfl (kr (by kernel_rfl) h)
theorem Zf(Q:QQ)(t4:Bool)(h:
 (Q (Ab t4) [])):Xn Q .ret ⟨[(4,Ab t4)],[]⟩:=kr (by kernel_rfl) h
theorem Ah9(Q:QQ)(t4:Bool)(h:
 (Q (Ab t4) [])):Xo Q .ret ⟨[(4,Ab t4)],[]⟩:=kr (by kernel_rfl) h
theorem Aia(Q:QQ)(t1 u0:Int)(u1 u2:Int)(u3:LB)(u4 u5:LL)(h:
 (Abf t1 u0 u1 u2 u3 u4 u5 (Xn Q))):Xo Q (.exit 0) ⟨[(1,Ai t1),(2, .ptr nL2 0)],[(nL2, .blk Ac [Ai u0,Ai u1,Ai u2,As u3,Al 6 u4,Al 7 u5])]⟩:=kr (by kernel_rfl) h
theorem Aib(K:KK)(t4:Bool)(h:
 (K .ret ⟨[(4,Ab t4)],[]⟩)):Xp K .ret ⟨[(4,Ab t4)],[]⟩:=kr (by kernel_rfl) h
theorem Aic(K:KK)(t4:Bool)(h:
 (K .ret ⟨[(4,Ab t4)],[]⟩)):Xq K .ret ⟨[(4,Ab t4)],[]⟩:=kr (by kernel_rfl) h
theorem Aid(K:KK)(h:
 (Abg (Xp K))):Xq K (.exit (2)) ⟨[],[]⟩:=kr (by kernel_rfl) h
theorem Aie(K:KK)(t1 t6:Int)(u0 u1 u2:Int)(u3:LB)(u4 u5:LL)(h:
 (P8 t1 t6 u0 u1 u2 u3 u4 u5 K)):Xr K .normal ⟨[(1,Ai t1),(2, .ptr nL2 0),(6,Ai t6)],[(nL2, .blk Ac [Ai u0,Ai u1,Ai u2,As u3,Al 6 u4,Al 7 u5])]⟩:=kr (by kernel_rfl) h
theorem Ap5:Cf E0.P 49 ac_r16_short.code Ce [.tmp 4]:=Bu _ _ Tryd.f49 [(5,[1,2,5],[]),(7,[1,2],[]),(12,[1,2],[]),(14,[1,2,6],[]),(16,[],[]),(20,[1,2,6],[1,2,6]),(21,[],[])] [4] _ 54 Tryd.func49 (by kernel_rfl) (by kernel_rfl) (by kernel_rfl) (by kernel_rfl)
theorem Ak2(a0_0 a0_1 a0_2:Int)(a0_3:LB)(a0_4 a0_5:LL)(a1:Int)(Q:QQ)(h:
 (Br (decide (a1<(↑a0_3.length:Int)))
 (Q (Ab false) [])
 (Rj a1 ((0:Int)) a0_0 a0_1 a0_2 a0_3 a0_4 a0_5 (Xo Q)))):Call E0.P Mm [.imm (.agg [.int .i64 a0_0, .int .i64 a0_1, .int .i64 a0_2, .str a0_3, .sl .any 6 a0_4, .sl .any 7 a0_5]),Ai a1] [] Q:=Bb (Ar E0 Ce) (A8 Ce) 3 0 49 ac_r16_short [.tmp 4] Ap5 _ _ Q rfl rfl (kr (by kernel_rfl) h)
end
end Go.Proofs.Sim.Se

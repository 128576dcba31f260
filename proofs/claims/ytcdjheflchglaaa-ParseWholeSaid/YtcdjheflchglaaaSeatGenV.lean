import Derived.Test.YtcdjheflchglaaaSeatBase
set_option maxRecDepth 100000
set_option maxHeartbeats 4000000
namespace Go.Proofs.Sim.Se
open Go Go.Proofs Go.Proofs.Sim
noncomputable section
abbrev qV0(G:Heap)(R:AV):Prop:=G=[]∧R= .imm (.bool (rB R))
abbrev qV1(G:Heap)(R:AV):Prop:=G=[]∧R= .imm (.int .i64 (rI R))
abbrev qV2(G:Heap)(R:AV):Prop:=G=[(Nm.arg 0,Entry.arr 1 true 7 (Cz G Ae))]∧R= .tup []
abbrev qV3(G:Heap)(R:AV):Prop:=G=[]∧R= .imm (IV.agg [.int .i64 (gI (Ad R) 0), .int .i64 (gI (Ad R) 1), .int .i64 (gI (Ad R) 2), .str (gS (Ad R) 3), .sl SK.any 6 (gR (Ad R) 4), .sl SK.any 7 (gR (Ad R) 5)])
abbrev qV4(G:Heap)(R:AV):Prop:=G=[]∧R= .imm (.sl SK.any 7 (rR R))
noncomputable def ac_cmp_isNaN_string:AC:=(Bf [] [2] (codeOf Try.f118) 0).1
abbrev Ry:Nat:=6
theorem Amd:Bt E0.P 118 ac_cmp_isNaN_string.code Ry [.tmp 2]:=Bl _ _ Try.f118 [] [2] _ 6 Try.func118 (by kernel_rfl) (by kernel_rfl) (by kernel_rfl) (by kernel_rfl)
theorem Akb(a0:LB)(Q:QQ)(h:
 (Q (Ab (!a0 == a0)) [])):Call E0.P Nc [As a0] [] Q:=Bd (Au E0 Ry) (Ba Ry) 3 0 118 ac_cmp_isNaN_string [.tmp 2] Amd _ _ Q rfl rfl (kr (by kernel_rfl) h)
noncomputable def ac_cmp_Compare_string:AC:=(Bf [] [4] (codeOf Try.f97) 0).1
abbrev Pv:Nat:=20
theorem Aj8:Bt E0.P 97 ac_cmp_Compare_string.code Pv [.tmp 4]:=Bl _ _ Try.f97 [] [4] _ 20 Try.func97 (by kernel_rfl) (by kernel_rfl) (by kernel_rfl) (by kernel_rfl)
theorem Ag0(a0 a1:LB)(Q:QQ)(h:
 (Call E0.P Nc [As a0] [] fun r0 g0=>
 Ao (qV0 g0 r0)
 (Call E0.P Nc [As a1] [] fun r1 g1=>
 Ao (qV0 g1 r1)
 (Br (rB r0)
 (Br (rB r1)
 (Q (Ai 0) [])
 (Q (Ai (-1)) []))
 (Br (rB r1)
 (Q (Ai 1) [])
 (Br (Op.bytesLess a0 a1)
 (Q (Ai (-1)) [])
 (Br (!(Op.bytesLess a0 a1 || a0 == a1))
 (Q (Ai 1) [])
 (Q (Ai 0) [])))))))):Call E0.P Qa [As a0,As a1] [] Q:=Bd (Au E0 Pv) (Ba Pv) 3 0 97 ac_cmp_Compare_string [.tmp 4] Aj8 _ _ Q rfl rfl (kr (by kernel_rfl) h)
noncomputable def ac_value_plainPairs_1:AC:=(Bf [] [4] (codeOf Try.f96) 0).1
abbrev Qg:Nat:=10
theorem Aj5:Bt E0.P 96 ac_value_plainPairs_1.code Qg [.tmp 4]:=Bl _ _ Try.f96 [] [4] _ 10 Try.func96 (by kernel_rfl) (by kernel_rfl) (by kernel_rfl) (by kernel_rfl)
theorem Ag9(a0_0:LB)(a0_1 a0_2 a0_3:Int)(a0_4:LB)(a0_5 a0_6:LL)(a1_0:LB)(a1_1 a1_2 a1_3:Int)(a1_4:LB)(a1_5 a1_6:LL)(Q:QQ)(h:
 (Call E0.P Qa [As a0_0,As a1_0] [] fun r0 g0=>
 Ao (qV1 g0 r0)
 (Q (Ai (rI r0)) []))):Call E0.P Aj [.imm (.agg [.str a0_0, .int .i64 a0_1, .int .i64 a0_2, .int .i64 a0_3, .str a0_4, .sl .any 6 a0_5, .sl .any 7 a0_6]), .imm (.agg [.str a1_0, .int .i64 a1_1, .int .i64 a1_2, .int .i64 a1_3, .str a1_4, .sl .any 6 a1_5, .sl .any 7 a1_6])] [] Q:=Bd (Au E0 Qg) (Ba Qg) 3 0 96 ac_value_plainPairs_1 [.tmp 4] Aj5 _ _ Q rfl rfl (kr (by kernel_rfl) h)
noncomputable def ac_value_plainPairs_2:AC:=(Bf [] [4] (codeOf Try.f99) 0).1
abbrev Px:Nat:=10
theorem Ai5:Bt E0.P 99 ac_value_plainPairs_2.code Px [.tmp 4]:=Bl _ _ Try.f99 [] [4] _ 10 Try.func99 (by kernel_rfl) (by kernel_rfl) (by kernel_rfl) (by kernel_rfl)
theorem Aha(a0_0:LB)(a0_1 a0_2 a0_3:Int)(a0_4:LB)(a0_5 a0_6:LL)(a1_0:LB)(a1_1 a1_2 a1_3:Int)(a1_4:LB)(a1_5 a1_6:LL)(Q:QQ)(h:
 (Q (Ab (a0_0 == a1_0)) [])):Call E0.P Cc [.imm (.agg [.str a0_0, .int .i64 a0_1, .int .i64 a0_2, .int .i64 a0_3, .str a0_4, .sl .any 6 a0_5, .sl .any 7 a0_6]), .imm (.agg [.str a1_0, .int .i64 a1_1, .int .i64 a1_2, .int .i64 a1_3, .str a1_4, .sl .any 6 a1_5, .sl .any 7 a1_6])] [] Q:=Bd (Au E0 Px) (Ba Px) 3 0 99 ac_value_plainPairs_2 [.tmp 4] Ai5 _ _ Q rfl rfl (kr (by kernel_rfl) h)
noncomputable def ac_slices_insertionSortCmpFunc_Pair:AC:=(Bf [(1,[0,1,2,3,8],[]),(3,[],[]),(6,[0,1,2,3,8,9],[]),(8,[0,1,2,3,8],[]),(9,[0,1,2,3,8,9],[0,1,2,3,8,9]),(11,[0,1,2,3,8],[0,1,2,3,8])] [] (codeOf Try.f131) 0).1
abbrev A9:Nat:=53
def Ev(t1 t2 t8:Int)(u0:LL)(K:KK):Prop:=Bj 1 E0.P A9 (Az 1 ac_slices_insertionSortCmpFunc_Pair).code ⟨[(0, .own Ae),(1,Ai t1),(2,Ai t2),(3, .fn Aj []),(8,Ai t8)],[(Ae, .arr 1 true 7 u0)]⟩ K
def Et(t1 t2:Int)(t8 t9:Int)(u0:LL)(K:KK):Prop:=Bj 6 E0.P A9 (Az 6 ac_slices_insertionSortCmpFunc_Pair).code ⟨[(0, .own Ae),(1,Ai t1),(2,Ai t2),(3, .fn Aj []),(8,Ai t8),(9,Ai t9)],[(Ae, .arr 1 true 7 u0)]⟩ K
def Gv(t1 t2:Int)(t8 t9:Int)(u0:LL)(K:KK):Prop:=Ar 9 E0.P A9 (Af 9 ac_slices_insertionSortCmpFunc_Pair).code ⟨[(0, .own Ae),(1,Ai t1),(2,Ai t2),(3, .fn Aj []),(8,Ai t8),(9,Ai t9)],[(Ae, .arr 1 true 7 u0)]⟩ K
def Kg(t1 t2 t8:Int)(u0:LL)(K:KK):Prop:=Ar 11 E0.P A9 (Af 11 ac_slices_insertionSortCmpFunc_Pair).code ⟨[(0, .own Ae),(1,Ai t1),(2,Ai t2),(3, .fn Aj []),(8,Ai t8)],[(Ae, .arr 1 true 7 u0)]⟩ K
def Eu(rows:LL)(Q:QQ):KK:=kF 0 (fun st=>finish (1) E0.T [] [(Ae, .arr 1 true 7 rows)] Q st) fun st=>finish (1) E0.T [] [(Ae, .arr 1 true 7 rows)] Q st
def Dp(K:KK):Ex→St→Prop
 | .normal,st=>Bj 1 E0.P A9 (Az 1 ac_slices_insertionSortCmpFunc_Pair).code (mask [0,1,2,3,8] st) K
 | .exit i,st=>K (.exit i) st
 | .goto i,st=>K (.goto i) st
 | .ret,st=>K .ret st
def Gy(K:KK):Ex→St→Prop
 | .normal,st=>Ar 11 E0.P A9 (Af 11 ac_slices_insertionSortCmpFunc_Pair).code (mask [0,1,2,3,8] st) (Dp K)
 | .exit i,st=>(match (i.beq 2:Bool)with
 |true=>Ar 11 E0.P A9 (Af 11 ac_slices_insertionSortCmpFunc_Pair).code (mask [0,1,2,3,8] st) (Dp K)
 |false=>(match (i.beq 1:Bool)with
 |true=>Ar 11 E0.P A9 (Af 11 ac_slices_insertionSortCmpFunc_Pair).code (mask [0,1,2,3,8] st) (Dp K)
 |false=>K (.exit i) st))
 | .goto i,st=>K (.goto i) st
 | .ret,st=>K .ret st
def Gz(K:KK):Ex→St→Prop
 | .normal,st=>Bj 6 E0.P A9 (Az 6 ac_slices_insertionSortCmpFunc_Pair).code (mask [0,1,2,3,8,9] st) K
 | .exit i,st=>K (.exit i) st
 | .goto i,st=>K (.goto i) st
 | .ret,st=>K .ret st
theorem Gc(t1 t2 t8:Int)(u0:LL)(K:KK)(h:
 (Br (decide (t8<t2))
 (Et t1 t2 t8 t8 u0 (Gy K))
 (K (.exit 0) ⟨[],[(Ae, .arr 1 true 7 u0)]⟩))):Ev t1 t2 t8 u0 K:=Bo (Au E0 A9) (Ba A9) 3 1 (Az 1 ac_slices_insertionSortCmpFunc_Pair) [0,1,2,3,8] _ K rfl (kr (by kernel_rfl) h)
theorem Jl(t1 t2:Int)(t8 t9:Int)(u0:LL)(K:KK)(h:
 (Ao (decide (t1<t9)=true→(0:Int)≤t9∧t9<(↑u0.length:Int))
 (Ao (decide (t1<t9)=true→
 t9.toNat<u0.length∧
 Ch
 [.str, .int .i64, .int .i64, .int .i64, .str, .sl 6 Aa,
 .sl 7 Ag]
 (List.take 7 (List.drop 0 (u0.getD t9.toNat [])))=
 true)
 (Ao (decide (t1<t9)=true→
 (0:Int)≤IntKind.i64.wrap (t9 - (1:Int))∧IntKind.i64.wrap (t9 - (1:Int))<(↑u0.length:Int))
 (Ao (decide (t1<t9)=true→
 (IntKind.i64.wrap (t9 - (1:Int))).toNat<u0.length∧
 Ch
 [.str, .int .i64, .int .i64, .int .i64, .str, .sl 6 Aa,
 .sl 7 Ag]
 (List.take 7 (List.drop 0 (u0.getD (IntKind.i64.wrap (t9 - (1:Int))).toNat [])))=
 true)
 (Br (decide (t1<t9) == true)
 (Call E0.P Aj [.imm (.agg [.str (gS (List.take 7 (List.drop 0 (u0.getD t9.toNat []))) 0), .int .i64 (gI (List.take 7 (List.drop 0 (u0.getD t9.toNat []))) 1), .int .i64 (gI (List.take 7 (List.drop 0 (u0.getD t9.toNat []))) 2), .int .i64 (gI (List.take 7 (List.drop 0 (u0.getD t9.toNat []))) 3), .str (gS (List.take 7 (List.drop 0 (u0.getD t9.toNat []))) 4), .sl .any 6 (gR (List.take 7 (List.drop 0 (u0.getD t9.toNat []))) 5), .sl .any 7 (gR (List.take 7 (List.drop 0 (u0.getD t9.toNat []))) 6)]), .imm (.agg [.str (gS (List.take 7 (List.drop 0 (u0.getD (IntKind.i64.wrap (t9 - (1:Int))).toNat []))) 0), .int .i64 (gI (List.take 7 (List.drop 0 (u0.getD (IntKind.i64.wrap (t9 - (1:Int))).toNat []))) 1), .int .i64 (gI (List.take 7 (List.drop 0 (u0.getD (IntKind.i64.wrap (t9 - (1:Int))).toNat []))) 2), .int .i64 (gI (List.take 7 (List.drop 0 (u0.getD (IntKind.i64.wrap (t9 - (1:Int))).toNat []))) 3), .str (gS (List.take 7 (List.drop 0 (u0.getD (IntKind.i64.wrap (t9 - (1:Int))).toNat []))) 4), .sl .any 6 (gR (List.take 7 (List.drop 0 (u0.getD (IntKind.i64.wrap (t9 - (1:Int))).toNat []))) 5), .sl .any 7 (gR (List.take 7 (List.drop 0 (u0.getD (IntKind.i64.wrap (t9 - (1:Int))).toNat []))) 6)])] [] fun r0 g0=>
 Ao (qV1 g0 r0)
 (Let (decide (rI r0<(0:Int))) fun x1=>
 Br (x1)
 (Gv t1 t2 t8 t9 u0 (Gz K))
 (K (.exit (2)) ⟨[(0, .own Ae),(1,Ai t1),(2,Ai t2),(3, .fn Aj []),(8,Ai t8)],[(Ae, .arr 1 true 7 u0)]⟩)))
 (Ao ((!true)=false)
 (Let (false) fun x2=>
 Br (x2)
 (Gv t1 t2 t8 t9 u0 (Gz K))
 (K (.exit (2)) ⟨[(0, .own Ae),(1,Ai t1),(2,Ai t2),(3, .fn Aj []),(8,Ai t8)],[(Ae, .arr 1 true 7 u0)]⟩))))))))):Et t1 t2 t8 t9 u0 K:=Bo (Au E0 A9) (Ba A9) 3 6 (Az 6 ac_slices_insertionSortCmpFunc_Pair) [0,1,2,3,8,9] _ K rfl (kr (by kernel_rfl) h)
theorem Rj(t1 t2:Int)(t8 t9:Int)(u0:LL)(K:KK)(h:
 (Ao ((0:Int)≤IntKind.i64.wrap (t9 - (1:Int))∧IntKind.i64.wrap (t9 - (1:Int))<(↑u0.length:Int))
 (Ao ((IntKind.i64.wrap (t9 - (1:Int))).toNat<u0.length∧
 Ch
 [.str, .int .i64, .int .i64, .int .i64, .str, .sl 6 Aa,
 .sl 7 Ag]
 (List.take 7 (List.drop 0 (u0.getD (IntKind.i64.wrap (t9 - (1:Int))).toNat [])))=
 true)
 (Ao ((0:Int)≤t9∧t9<(↑u0.length:Int))
 (Ao (t9.toNat<u0.length∧
 Ch
 [.str, .int .i64, .int .i64, .int .i64, .str, .sl 6 Aa,
 .sl 7 Ag]
 (List.take 7 (List.drop 0 (u0.getD t9.toNat [])))=
 true)
 (Ao ((0:Int)≤t9∧t9<(↑u0.length:Int))
 (Ao (t9.toNat<u0.length)
 (Ao ((0:Int)≤IntKind.i64.wrap (t9 - (1:Int))∧
 IntKind.i64.wrap (t9 - (1:Int))<
 (↑(u0.set t9.toNat
 [.str
 (gS (List.take (7:Nat) (List.drop (0:Nat) (u0.getD (IntKind.i64.wrap (t9 - (1:Int))).toNat [])))
 (0:Nat)),
 .int .i64
 (gI (List.take (7:Nat) (List.drop (0:Nat) (u0.getD (IntKind.i64.wrap (t9 - (1:Int))).toNat [])))
 (1:Nat)),
 .int .i64
 (gI (List.take (7:Nat) (List.drop (0:Nat) (u0.getD (IntKind.i64.wrap (t9 - (1:Int))).toNat [])))
 (2:Nat)),
 .int .i64
 (gI (List.take (7:Nat) (List.drop (0:Nat) (u0.getD (IntKind.i64.wrap (t9 - (1:Int))).toNat [])))
 (3:Nat)),
 .str
 (gS (List.take (7:Nat) (List.drop (0:Nat) (u0.getD (IntKind.i64.wrap (t9 - (1:Int))).toNat [])))
 (4:Nat)),
 .sl SK.any (6:Nat)
 (gR (List.take (7:Nat) (List.drop (0:Nat) (u0.getD (IntKind.i64.wrap (t9 - (1:Int))).toNat [])))
 (5:Nat)),
 .sl SK.any (7:Nat)
 (gR (List.take (7:Nat) (List.drop (0:Nat) (u0.getD (IntKind.i64.wrap (t9 - (1:Int))).toNat [])))
 (6:Nat))]).length:
 Int))
 (Ao ((IntKind.i64.wrap (t9 - (1:Int))).toNat<
 (u0.set t9.toNat
 [.str
 (gS (List.take 7 (List.drop 0 (u0.getD (IntKind.i64.wrap (t9 - (1:Int))).toNat [])))
 0),
 .int .i64
 (gI (List.take 7 (List.drop 0 (u0.getD (IntKind.i64.wrap (t9 - (1:Int))).toNat [])))
 1),
 .int .i64
 (gI (List.take 7 (List.drop 0 (u0.getD (IntKind.i64.wrap (t9 - (1:Int))).toNat [])))
 2),
 .int .i64
 (gI (List.take 7 (List.drop 0 (u0.getD (IntKind.i64.wrap (t9 - (1:Int))).toNat [])))
 3),
 .str
 (gS (List.take 7 (List.drop 0 (u0.getD (IntKind.i64.wrap (t9 - (1:Int))).toNat [])))
 4),
 .sl SK.any 6
 (gR (List.take 7 (List.drop 0 (u0.getD (IntKind.i64.wrap (t9 - (1:Int))).toNat [])))
 5),
 .sl SK.any 7
 (gR (List.take 7 (List.drop 0 (u0.getD (IntKind.i64.wrap (t9 - (1:Int))).toNat [])))
 6)]).length)
 (K .normal ⟨[(0, .own Ae),(1,Ai t1),(2,Ai t2),(3, .fn Aj []),(8,Ai t8),(9,Ai (IntKind.i64.wrap (t9 - (1:Int))))],[(Ae, .arr 1 true 7 ((u0.set t9.toNat
 [.str
 (gS (List.take 7 (List.drop 0 (u0.getD (IntKind.i64.wrap (t9 - (1:Int))).toNat [])))
 0),
 .int .i64
 (gI (List.take 7 (List.drop 0 (u0.getD (IntKind.i64.wrap (t9 - (1:Int))).toNat [])))
 1),
 .int .i64
 (gI (List.take 7 (List.drop 0 (u0.getD (IntKind.i64.wrap (t9 - (1:Int))).toNat [])))
 2),
 .int .i64
 (gI (List.take 7 (List.drop 0 (u0.getD (IntKind.i64.wrap (t9 - (1:Int))).toNat [])))
 3),
 .str
 (gS (List.take 7 (List.drop 0 (u0.getD (IntKind.i64.wrap (t9 - (1:Int))).toNat [])))
 4),
 .sl SK.any 6
 (gR (List.take 7 (List.drop 0 (u0.getD (IntKind.i64.wrap (t9 - (1:Int))).toNat [])))
 5),
 .sl SK.any 7
 (gR (List.take 7 (List.drop 0 (u0.getD (IntKind.i64.wrap (t9 - (1:Int))).toNat [])))
 6)]).set
 (IntKind.i64.wrap (t9 - (1:Int))).toNat
 [.str (gS (List.take 7 (List.drop 0 (u0.getD t9.toNat []))) 0),
 .int .i64 (gI (List.take 7 (List.drop 0 (u0.getD t9.toNat []))) 1),
 .int .i64 (gI (List.take 7 (List.drop 0 (u0.getD t9.toNat []))) 2),
 .int .i64 (gI (List.take 7 (List.drop 0 (u0.getD t9.toNat []))) 3),
 .str (gS (List.take 7 (List.drop 0 (u0.getD t9.toNat []))) 4),
 .sl SK.any 6 (gR (List.take 7 (List.drop 0 (u0.getD t9.toNat []))) 5),
 .sl SK.any 7 (gR (List.take 7 (List.drop 0 (u0.getD t9.toNat []))) 6)]))]⟩)))))))))):Gv t1 t2 t8 t9 u0 K:=Ay (Au E0 A9) (Ba A9) 3 9 (Af 9 ac_slices_insertionSortCmpFunc_Pair) [0,1,2,3,8,9] _ K rfl (kr (by kernel_rfl) h)
theorem Q3(t1 t2 t8:Int)(u0:LL)(K:KK)(h:
 (K .normal ⟨[(0, .own Ae),(1,Ai t1),(2,Ai t2),(3, .fn Aj []),(8,Ai (IntKind.i64.wrap (t8+(1:Int))))],[(Ae, .arr 1 true 7 u0)]⟩)):Kg t1 t2 t8 u0 K:=Ay (Au E0 A9) (Ba A9) 3 11 (Af 11 ac_slices_insertionSortCmpFunc_Pair) [0,1,2,3,8] _ K rfl (kr (by kernel_rfl) h)
theorem Jn(rows:LL)(Q:QQ)(u0:LL)(h:
 (Q (.tup []) [(Ae, .arr 1 true 7 u0)])):Eu rows Q (.exit 0) ⟨[],[(Ae, .arr 1 true 7 u0)]⟩:=kr (by kernel_rfl) h
theorem Rh(K:KK)(t1 t2 t8:Int)(u0:LL)(h:
 (Ev t1 t2 t8 u0 K)):Dp K .normal ⟨[(0, .own Ae),(1,Ai t1),(2,Ai t2),(3, .fn Aj []),(8,Ai t8)],[(Ae, .arr 1 true 7 u0)]⟩:=kr (by kernel_rfl) h
theorem Rc(K:KK)(t1 t2 t8:Int)(u0:LL)(h:
 (Kg t1 t2 t8 u0 (Dp K))):Gy K (.exit (2)) ⟨[(0, .own Ae),(1,Ai t1),(2,Ai t2),(3, .fn Aj []),(8,Ai t8)],[(Ae, .arr 1 true 7 u0)]⟩:=kr (by kernel_rfl) h
theorem Rl(K:KK)(t1 t2:Int)(t8 t9:Int)(u0:LL)(h:
 (Et t1 t2 t8 t9 u0 K)):Gz K .normal ⟨[(0, .own Ae),(1,Ai t1),(2,Ai t2),(3, .fn Aj []),(8,Ai t8),(9,Ai t9)],[(Ae, .arr 1 true 7 u0)]⟩:=kr (by kernel_rfl) h
theorem Uv:Bt E0.P 131 ac_slices_insertionSortCmpFunc_Pair.code A9 []:=Bl _ _ Try.f131 [(1,[0,1,2,3,8],[]),(3,[],[]),(6,[0,1,2,3,8,9],[]),(8,[0,1,2,3,8],[]),(9,[0,1,2,3,8,9],[0,1,2,3,8,9]),(11,[0,1,2,3,8],[0,1,2,3,8])] [] _ 53 Try.func131 (by kernel_rfl) (by kernel_rfl) (by kernel_rfl) (by kernel_rfl)
theorem Sk(rows:LL)(a1 a2:Int)(Q:QQ)(h:
 (Ev a1 a2 (IntKind.i64.wrap (a1+(1:Int))) rows (Eu rows Q))):Call E0.P E8 [.own (.arg 0),Ai a1,Ai a2, .fn Aj []] [(.arg 0, .arr 1 true 7 rows)] Q:=Bd (Au E0 A9) (Ba A9) 3 1 131 ac_slices_insertionSortCmpFunc_Pair [] Uv _ _ Q rfl rfl (kr (by kernel_rfl) h)
noncomputable def ac_slices_swapRangeCmpFunc_Pair:AC:=(Bf [(1,[0,1,2,3,10],[]),(3,[],[])] [] (codeOf Try.f141) 0).1
abbrev Dm:Nat:=38
def F6(t1 t2:Int)(t3 t10:Int)(u0:LL)(K:KK):Prop:=Bj 1 E0.P Dm (Az 1 ac_slices_swapRangeCmpFunc_Pair).code ⟨[(0, .own Ae),(1,Ai t1),(2,Ai t2),(3,Ai t3),(10,Ai t10)],[(Ae, .arr 1 true 7 u0)]⟩ K
def Mj(rows:LL)(Q:QQ):KK:=kF 0 (fun st=>finish (1) E0.T [] [(Ae, .arr 1 true 7 rows)] Q st) fun st=>finish (1) E0.T [] [(Ae, .arr 1 true 7 rows)] Q st
theorem La(t1 t2:Int)(t3 t10:Int)(u0:LL)(K:KK)(h:
 (Br (decide (t10<t3))
 (Ao ((0:Int)≤IntKind.i64.wrap (t2+t10)∧IntKind.i64.wrap (t2+t10)<(↑u0.length:Int))
 (Ao ((IntKind.i64.wrap (t2+t10)).toNat<u0.length∧
 Ch
 [.str, .int .i64, .int .i64, .int .i64, .str, .sl 6 Aa,
 .sl 7 Ag]
 (List.take 7 (List.drop 0 (u0.getD (IntKind.i64.wrap (t2+t10)).toNat [])))=
 true)
 (Ao ((0:Int)≤IntKind.i64.wrap (t1+t10)∧IntKind.i64.wrap (t1+t10)<(↑u0.length:Int))
 (Ao ((IntKind.i64.wrap (t1+t10)).toNat<u0.length∧
 Ch
 [.str, .int .i64, .int .i64, .int .i64, .str, .sl 6 Aa,
 .sl 7 Ag]
 (List.take 7 (List.drop 0 (u0.getD (IntKind.i64.wrap (t1+t10)).toNat [])))=
 true)
 (Ao ((0:Int)≤IntKind.i64.wrap (t1+t10)∧IntKind.i64.wrap (t1+t10)<(↑u0.length:Int))
 (Ao ((IntKind.i64.wrap (t1+t10)).toNat<u0.length)
 (Ao ((0:Int)≤IntKind.i64.wrap (t2+t10)∧
 IntKind.i64.wrap (t2+t10)<
 (↑(u0.set (IntKind.i64.wrap (t1+t10)).toNat
 [.str
 (gS (List.take (7:Nat) (List.drop (0:Nat) (u0.getD (IntKind.i64.wrap (t2+t10)).toNat [])))
 (0:Nat)),
 .int .i64
 (gI (List.take (7:Nat) (List.drop (0:Nat) (u0.getD (IntKind.i64.wrap (t2+t10)).toNat [])))
 (1:Nat)),
 .int .i64
 (gI (List.take (7:Nat) (List.drop (0:Nat) (u0.getD (IntKind.i64.wrap (t2+t10)).toNat [])))
 (2:Nat)),
 .int .i64
 (gI (List.take (7:Nat) (List.drop (0:Nat) (u0.getD (IntKind.i64.wrap (t2+t10)).toNat [])))
 (3:Nat)),
 .str
 (gS (List.take (7:Nat) (List.drop (0:Nat) (u0.getD (IntKind.i64.wrap (t2+t10)).toNat [])))
 (4:Nat)),
 .sl SK.any (6:Nat)
 (gR (List.take (7:Nat) (List.drop (0:Nat) (u0.getD (IntKind.i64.wrap (t2+t10)).toNat [])))
 (5:Nat)),
 .sl SK.any (7:Nat)
 (gR (List.take (7:Nat) (List.drop (0:Nat) (u0.getD (IntKind.i64.wrap (t2+t10)).toNat [])))
 (6:Nat))]).length:
 Int))
 (Ao ((IntKind.i64.wrap (t2+t10)).toNat<
 (u0.set (IntKind.i64.wrap (t1+t10)).toNat
 [.str
 (gS (List.take 7 (List.drop 0 (u0.getD (IntKind.i64.wrap (t2+t10)).toNat []))) 0),
 .int .i64
 (gI (List.take 7 (List.drop 0 (u0.getD (IntKind.i64.wrap (t2+t10)).toNat []))) 1),
 .int .i64
 (gI (List.take 7 (List.drop 0 (u0.getD (IntKind.i64.wrap (t2+t10)).toNat []))) 2),
 .int .i64
 (gI (List.take 7 (List.drop 0 (u0.getD (IntKind.i64.wrap (t2+t10)).toNat []))) 3),
 .str
 (gS (List.take 7 (List.drop 0 (u0.getD (IntKind.i64.wrap (t2+t10)).toNat []))) 4),
 .sl SK.any 6
 (gR (List.take 7 (List.drop 0 (u0.getD (IntKind.i64.wrap (t2+t10)).toNat []))) 5),
 .sl SK.any 7
 (gR (List.take 7 (List.drop 0 (u0.getD (IntKind.i64.wrap (t2+t10)).toNat [])))
 6)]).length)
 (F6 t1 t2 t3 (IntKind.i64.wrap (t10+(1:Int))) ((u0.set (IntKind.i64.wrap (t1+t10)).toNat
 [.str
 (gS (List.take 7 (List.drop 0 (u0.getD (IntKind.i64.wrap (t2+t10)).toNat []))) 0),
 .int .i64
 (gI (List.take 7 (List.drop 0 (u0.getD (IntKind.i64.wrap (t2+t10)).toNat []))) 1),
 .int .i64
 (gI (List.take 7 (List.drop 0 (u0.getD (IntKind.i64.wrap (t2+t10)).toNat []))) 2),
 .int .i64
 (gI (List.take 7 (List.drop 0 (u0.getD (IntKind.i64.wrap (t2+t10)).toNat []))) 3),
 .str
 (gS (List.take 7 (List.drop 0 (u0.getD (IntKind.i64.wrap (t2+t10)).toNat []))) 4),
 .sl SK.any 6
 (gR (List.take 7 (List.drop 0 (u0.getD (IntKind.i64.wrap (t2+t10)).toNat []))) 5),
 .sl SK.any 7
 (gR (List.take 7 (List.drop 0 (u0.getD (IntKind.i64.wrap (t2+t10)).toNat [])))
 6)]).set
 (IntKind.i64.wrap (t2+t10)).toNat
 [.str (gS (List.take 7 (List.drop 0 (u0.getD (IntKind.i64.wrap (t1+t10)).toNat []))) 0),
 .int .i64
 (gI (List.take 7 (List.drop 0 (u0.getD (IntKind.i64.wrap (t1+t10)).toNat []))) 1),
 .int .i64
 (gI (List.take 7 (List.drop 0 (u0.getD (IntKind.i64.wrap (t1+t10)).toNat []))) 2),
 .int .i64
 (gI (List.take 7 (List.drop 0 (u0.getD (IntKind.i64.wrap (t1+t10)).toNat []))) 3),
 .str (gS (List.take 7 (List.drop 0 (u0.getD (IntKind.i64.wrap (t1+t10)).toNat []))) 4),
 .sl SK.any 6
 (gR (List.take 7 (List.drop 0 (u0.getD (IntKind.i64.wrap (t1+t10)).toNat []))) 5),
 .sl SK.any 7
 (gR (List.take 7 (List.drop 0 (u0.getD (IntKind.i64.wrap (t1+t10)).toNat []))) 6)]) K)))))))))
 (K (.exit 0) ⟨[],[(Ae, .arr 1 true 7 u0)]⟩))):F6 t1 t2 t3 t10 u0 K:=Bo (Au E0 Dm) (Ba Dm) 3 1 (Az 1 ac_slices_swapRangeCmpFunc_Pair) [0,1,2,3,10] _ K rfl (kr (by kernel_rfl) h)
theorem Ue(rows:LL)(Q:QQ)(u0:LL)(h:
 (Q (.tup []) [(Ae, .arr 1 true 7 u0)])):Mj rows Q (.exit 0) ⟨[],[(Ae, .arr 1 true 7 u0)]⟩:=kr (by kernel_rfl) h
theorem Yk:Bt E0.P 141 ac_slices_swapRangeCmpFunc_Pair.code Dm []:=Bl _ _ Try.f141 [(1,[0,1,2,3,10],[]),(3,[],[])] [] _ 38 Try.func141 (by kernel_rfl) (by kernel_rfl) (by kernel_rfl) (by kernel_rfl)
theorem Vy(rows:LL)(a1 a2 a3:Int)(Q:QQ)(h:
 (F6 a1 a2 a3 ((0:Int)) rows (Mj rows Q))):Call E0.P Eo [.own (.arg 0),Ai a1,Ai a2,Ai a3, .fn Aj []] [(.arg 0, .arr 1 true 7 rows)] Q:=Bd (Au E0 Dm) (Ba Dm) 3 1 141 ac_slices_swapRangeCmpFunc_Pair [] Yk _ _ Q rfl rfl (kr (by kernel_rfl) h)
noncomputable def ac_slices_rotateCmpFunc_Pair:AC:=(Bf [(2,[0,2,4,10,11],[]),(4,[0,2,4,10],[]),(9,[0,2,4,10],[])] [] (codeOf Try.f137) 0).1
abbrev Cj:Nat:=58
def Fe(t2 t10 t11:Int)(u0:LL)(K:KK):Prop:=Bj 2 E0.P Cj (Az 2 ac_slices_rotateCmpFunc_Pair).code ⟨[(0, .own Ae),(2,Ai t2),(4, .fn Aj []),(10,Ai t10),(11,Ai t11)],[(Ae, .arr 1 true 7 u0)]⟩ K
def O8(t2 t10:Int)(u0:LL)(K:KK):Prop:=Ar 9 E0.P Cj (Af 9 ac_slices_rotateCmpFunc_Pair).code ⟨[(0, .own Ae),(2,Ai t2),(4, .fn Aj []),(10,Ai t10)],[(Ae, .arr 1 true 7 u0)]⟩ K
def Jr(rows:LL)(Q:QQ):KK:=kE fun st=>finish (1) E0.T [] [(Ae, .arr 1 true 7 rows)] Q st
def Ju(rows:LL)(Q:QQ):KK:=kF 0 (fun st=>Ar 9 E0.P Cj (Af 9 ac_slices_rotateCmpFunc_Pair).code (mask [0,2,4,10] st) (Jr rows Q)) fun st=>finish (1) E0.T [] [(Ae, .arr 1 true 7 rows)] Q st
theorem Xq(t2 t10 t11:Int)(u0:LL)(K:KK)(h:
 (Br (!decide (t10=t11))
 (Br (decide (t11<t10))
 (Call E0.P Eo [.own Ae,Ai (IntKind.i64.wrap (t2 - t10)),Ai t2,Ai t11, .fn Aj []] [(Ae, .arr 1 true 7 u0)] fun r0 g0=>
 Ao (qV2 g0 r0)
 (Fe t2 (IntKind.i64.wrap (t10 - t11)) t11 (Cz g0 Ae) K))
 (Call E0.P Eo [.own Ae,Ai (IntKind.i64.wrap (t2 - t10)),Ai (IntKind.i64.wrap (IntKind.i64.wrap (t2+t11) - t10)),Ai t10, .fn Aj []] [(Ae, .arr 1 true 7 u0)] fun r1 g1=>
 Ao (qV2 g1 r1)
 (Fe t2 t10 (IntKind.i64.wrap (t11 - t10)) (Cz g1 Ae) K)))
 (K (.exit 0) ⟨[(0, .own Ae),(2,Ai t2),(4, .fn Aj []),(10,Ai t10)],[(Ae, .arr 1 true 7 u0)]⟩))):Fe t2 t10 t11 u0 K:=Bo (Au E0 Cj) (Ba Cj) 3 2 (Az 2 ac_slices_rotateCmpFunc_Pair) [0,2,4,10,11] _ K rfl (kr (by kernel_rfl) h)
theorem Xz(t2 t10:Int)(u0:LL)(K:KK)(h:
 (Call E0.P Eo [.own Ae,Ai (IntKind.i64.wrap (t2 - t10)),Ai t2,Ai t10, .fn Aj []] [(Ae, .arr 1 true 7 u0)] fun r0 g0=>
 Ao (qV2 g0 r0)
 (K .normal ⟨[],[(Ae, .arr 1 true 7 (Cz g0 Ae))]⟩))):O8 t2 t10 u0 K:=Ay (Au E0 Cj) (Ba Cj) 3 9 (Af 9 ac_slices_rotateCmpFunc_Pair) [] _ K rfl (kr (by kernel_rfl) h)
theorem Xp(rows:LL)(Q:QQ)(u0:LL)(h:
 (Q (.tup []) [(Ae, .arr 1 true 7 u0)])):Jr rows Q .normal ⟨[],[(Ae, .arr 1 true 7 u0)]⟩:=kr (by kernel_rfl) h
theorem X7(rows:LL)(Q:QQ)(t2 t10:Int)(u0:LL)(h:
 (O8 t2 t10 u0 (Jr rows Q))):Ju rows Q (.exit 0) ⟨[(0, .own Ae),(2,Ai t2),(4, .fn Aj []),(10,Ai t10)],[(Ae, .arr 1 true 7 u0)]⟩:=kr (by kernel_rfl) h
theorem Aas:Bt E0.P 137 ac_slices_rotateCmpFunc_Pair.code Cj []:=Bl _ _ Try.f137 [(2,[0,2,4,10,11],[]),(4,[0,2,4,10],[]),(9,[0,2,4,10],[])] [] _ 58 Try.func137 (by kernel_rfl) (by kernel_rfl) (by kernel_rfl) (by kernel_rfl)
theorem Yw(rows:LL)(a1 a2 a3:Int)(Q:QQ)(h:
 (Fe a2 (IntKind.i64.wrap (a2 - a1)) (IntKind.i64.wrap (a3 - a2)) rows (Ju rows Q))):Call E0.P J7 [.own (.arg 0),Ai a1,Ai a2,Ai a3, .fn Aj []] [(.arg 0, .arr 1 true 7 rows)] Q:=Bd (Au E0 Cj) (Ba Cj) 3 1 137 ac_slices_rotateCmpFunc_Pair [] Aas _ _ Q rfl rfl (kr (by kernel_rfl) h)
noncomputable def ac_slices_symMergeCmpFunc_Pair:AC:=(Bf [(3,[0,1,4,10,11],[]),(5,[0,1,10],[]),(9,[0,1,10],[0,1,2,3,4]),(11,[0,10,13],[]),(13,[],[]),(16,[],[0,1,2,3,4]),(17,[0,1,2,3,4],[]),(21,[0,2,4,14,15],[]),(23,[0,2,14],[]),(27,[0,2,14],[0,1,2,3,4]),(29,[0,14,17],[]),(31,[],[]),(34,[],[0,1,2,3,4]),(35,[0,1,2,3,4],[]),(42,[0,1,2,3,4,18,19,20,21],[]),(44,[0,1,2,3,4,18,19,20,21,22],[]),(46,[0,1,2,3,4,18,19,20],[]),(50,[0,1,2,3,4,18,19,20],[]),(53,[0,1,3,4,18,20,24],[]),(55,[0,3,4,18,24],[])] [] (codeOf Try.f132) 0).1
abbrev Ah:Nat:=220
def El(t1 t10 t11:Int)(u0:LL)(K:KK):Prop:=Bj 3 E0.P Ah (Az 3 ac_slices_symMergeCmpFunc_Pair).code ⟨[(0, .own Ae),(1,Ai t1),(4, .fn Aj []),(10,Ai t10),(11,Ai t11)],[(Ae, .arr 1 true 7 u0)]⟩ K
def Mm(t1 t2 t3:Int)(u0:LL)(K:KK):Prop:=Ar 17 E0.P Ah (Af 17 ac_slices_symMergeCmpFunc_Pair).code ⟨[(0, .own Ae),(1,Ai t1),(2,Ai t2),(3,Ai t3),(4, .fn Aj [])],[(Ae, .arr 1 true 7 u0)]⟩ K
def Ed(t2 t14 t15:Int)(u0:LL)(K:KK):Prop:=Bj 21 E0.P Ah (Az 21 ac_slices_symMergeCmpFunc_Pair).code ⟨[(0, .own Ae),(2,Ai t2),(4, .fn Aj []),(14,Ai t14),(15,Ai t15)],[(Ae, .arr 1 true 7 u0)]⟩ K
def Nb(t1 t2 t3:Int)(u0:LL)(K:KK):Prop:=Ar 35 E0.P Ah (Af 35 ac_slices_symMergeCmpFunc_Pair).code ⟨[(0, .own Ae),(1,Ai t1),(2,Ai t2),(3,Ai t3),(4, .fn Aj [])],[(Ae, .arr 1 true 7 u0)]⟩ K
def Ib(t1 t2:Int)(t3 t18:Int)(t19 t20 t21:Int)(u0:LL)(K:KK):Prop:=Ar 42 E0.P Ah (Af 42 ac_slices_symMergeCmpFunc_Pair).code ⟨[(0, .own Ae),(1,Ai t1),(2,Ai t2),(3,Ai t3),(4, .fn Aj []),(18,Ai t18),(19,Ai t19),(20,Ai t20),(21,Ai t21)],[(Ae, .arr 1 true 7 u0)]⟩ K
def Dk(t1 t2:Int)(t3 t18:Int)(t19 t20:Int)(t21 t22:Int)(u0:LL)(K:KK):Prop:=Bj 44 E0.P Ah (Az 44 ac_slices_symMergeCmpFunc_Pair).code ⟨[(0, .own Ae),(1,Ai t1),(2,Ai t2),(3,Ai t3),(4, .fn Aj []),(18,Ai t18),(19,Ai t19),(20,Ai t20),(21,Ai t21),(22,Ai t22)],[(Ae, .arr 1 true 7 u0)]⟩ K
def Nj(t1 t10:Int)(u0:LL)(K:KK):Prop:=Ar 9 E0.P Ah (Af 9 ac_slices_symMergeCmpFunc_Pair).code ⟨[(0, .own Ae),(1,Ai t1),(10,Ai t10)],[(Ae, .arr 1 true 7 u0)]⟩ K
def Mi(t2 t14:Int)(u0:LL)(K:KK):Prop:=Ar 27 E0.P Ah (Af 27 ac_slices_symMergeCmpFunc_Pair).code ⟨[(0, .own Ae),(2,Ai t2),(14,Ai t14)],[(Ae, .arr 1 true 7 u0)]⟩ K
def F5(t1 t2:Int)(t3 t18:Int)(t19 t20:Int)(u0:LL)(K:KK):Prop:=Ar 50 E0.P Ah (Af 50 ac_slices_symMergeCmpFunc_Pair).code ⟨[(0, .own Ae),(1,Ai t1),(2,Ai t2),(3,Ai t3),(4, .fn Aj []),(18,Ai t18),(19,Ai t19),(20,Ai t20)],[(Ae, .arr 1 true 7 u0)]⟩ K
def F7(t10 t13:Int)(u0:LL)(K:KK):Prop:=Bj 11 E0.P Ah (Az 11 ac_slices_symMergeCmpFunc_Pair).code ⟨[(0, .own Ae),(10,Ai t10),(13,Ai t13)],[(Ae, .arr 1 true 7 u0)]⟩ K
def F3(t14 t17:Int)(u0:LL)(K:KK):Prop:=Bj 29 E0.P Ah (Az 29 ac_slices_symMergeCmpFunc_Pair).code ⟨[(0, .own Ae),(14,Ai t14),(17,Ai t17)],[(Ae, .arr 1 true 7 u0)]⟩ K
def F9(t1 t3:Int)(t18 t20 t24:Int)(u0:LL)(K:KK):Prop:=Ar 53 E0.P Ah (Af 53 ac_slices_symMergeCmpFunc_Pair).code ⟨[(0, .own Ae),(1,Ai t1),(3,Ai t3),(4, .fn Aj []),(18,Ai t18),(20,Ai t20),(24,Ai t24)],[(Ae, .arr 1 true 7 u0)]⟩ K
def F8(t3 t18 t24:Int)(u0:LL)(K:KK):Prop:=Ar 55 E0.P Ah (Af 55 ac_slices_symMergeCmpFunc_Pair).code ⟨[(0, .own Ae),(3,Ai t3),(4, .fn Aj []),(18,Ai t18),(24,Ai t24)],[(Ae, .arr 1 true 7 u0)]⟩ K
def Mk(u0:LL)(K:KK):Prop:=Ar 16 E0.P Ah (Af 16 ac_slices_symMergeCmpFunc_Pair).code ⟨[],[(Ae, .arr 1 true 7 u0)]⟩ K
def Mx(u0:LL)(K:KK):Prop:=Ar 34 E0.P Ah (Af 34 ac_slices_symMergeCmpFunc_Pair).code ⟨[],[(Ae, .arr 1 true 7 u0)]⟩ K
def Em(rows:LL)(Q:QQ):KK:=kE fun st=>finish (1) E0.T [] [(Ae, .arr 1 true 7 rows)] Q st
def Im(rows:LL)(Q:QQ):Ex→St→Prop
 | .normal,st=>Ar 17 E0.P Ah (Af 17 ac_slices_symMergeCmpFunc_Pair).code (mask [0,1,2,3,4] st) (Em rows Q)
 | .exit _,_=>False
 | .goto _,_=>False
 | .ret,st=>finish (1) E0.T [] [(Ae, .arr 1 true 7 rows)] Q st
def Ng(rows:LL)(Q:QQ):KK:=kF 0 (fun st=>Ar 9 E0.P Ah (Af 9 ac_slices_symMergeCmpFunc_Pair).code (mask [0,1,10] st) (Im rows Q)) fun st=>finish (1) E0.T [] [(Ae, .arr 1 true 7 rows)] Q st
def Bh(K:KK):KK:=kP [] K
def Il(K:KK):Ex→St→Prop
 | .normal,st=>Ar 35 E0.P Ah (Af 35 ac_slices_symMergeCmpFunc_Pair).code (mask [0,1,2,3,4] st) (Bh K)
 | .exit i,st=>K (.exit i) st
 | .goto i,st=>K (.goto i) st
 | .ret,st=>K .ret st
def Nh(K:KK):KK:=kC 4 (fun st=>Ar 27 E0.P Ah (Af 27 ac_slices_symMergeCmpFunc_Pair).code (mask [0,2,14] st) (Il K)) K
def Io(K:KK):KK:=kC 8 (fun st=>Ar 50 E0.P Ah (Af 50 ac_slices_symMergeCmpFunc_Pair).code (mask [0,1,2,3,4,18,19,20] st) (Bh K)) K
def En(K:KK):KK:=kP [0,1,2,3,4] K
def Ni(K:KK):KK:=kC 2 (fun st=>Ar 16 E0.P Ah (Af 16 ac_slices_symMergeCmpFunc_Pair).code (mask [] st) (En K)) K
def Nk(K:KK):KK:=kC 6 (fun st=>Ar 34 E0.P Ah (Af 34 ac_slices_symMergeCmpFunc_Pair).code (mask [] st) (En K)) K
theorem Lp(t1 t10 t11:Int)(u0:LL)(K:KK)(h:
 (Br (decide (t10<t11))
 (Ao ((0:Int)≤(1:Int))
 (Ao ((0:Int)≤IntKind.i64.wrap ((IntKind.u64.wrap (IntKind.i64.wrap (t10+t11))).fdiv ((2:Int) ^ 1))∧
 IntKind.i64.wrap ((IntKind.u64.wrap (IntKind.i64.wrap (t10+t11))).fdiv ((2:Int) ^ 1))<
 (↑u0.length:Int))
 (Ao ((IntKind.i64.wrap ((IntKind.u64.wrap (IntKind.i64.wrap (t10+t11))).fdiv ((2:Int) ^ 1))).toNat<u0.length∧
 Ch
 [.str, .int .i64, .int .i64, .int .i64, .str, .sl 6 Aa,
 .sl 7 Ag]
 (List.take 7
 (List.drop 0
 (u0.getD
 (IntKind.i64.wrap ((IntKind.u64.wrap (IntKind.i64.wrap (t10+t11))).fdiv ((2:Int) ^ 1))).toNat
 [])))=
 true)
 (Ao ((0:Int)≤t1∧t1<(↑u0.length:Int))
 (Ao (t1.toNat<u0.length∧
 Ch
 [.str, .int .i64, .int .i64, .int .i64, .str, .sl 6 Aa,
 .sl 7 Ag]
 (List.take 7 (List.drop 0 (u0.getD t1.toNat [])))=
 true)
 (Call E0.P Aj [.imm (.agg [.str (gS
 (List.take 7
 (List.drop 0
 (u0.getD
 (IntKind.i64.wrap ((IntKind.u64.wrap (IntKind.i64.wrap (t10+t11))).fdiv ((2:Int) ^ 1))).toNat [])))
 0), .int .i64 (gI
 (List.take 7
 (List.drop 0
 (u0.getD
 (IntKind.i64.wrap ((IntKind.u64.wrap (IntKind.i64.wrap (t10+t11))).fdiv ((2:Int) ^ 1))).toNat [])))
 1), .int .i64 (gI
 (List.take 7
 (List.drop 0
 (u0.getD
 (IntKind.i64.wrap ((IntKind.u64.wrap (IntKind.i64.wrap (t10+t11))).fdiv ((2:Int) ^ 1))).toNat [])))
 2), .int .i64 (gI
 (List.take 7
 (List.drop 0
 (u0.getD
 (IntKind.i64.wrap ((IntKind.u64.wrap (IntKind.i64.wrap (t10+t11))).fdiv ((2:Int) ^ 1))).toNat [])))
 3), .str (gS
 (List.take 7
 (List.drop 0
 (u0.getD
 (IntKind.i64.wrap ((IntKind.u64.wrap (IntKind.i64.wrap (t10+t11))).fdiv ((2:Int) ^ 1))).toNat [])))
 4), .sl .any 6 (gR
 (List.take 7
 (List.drop 0
 (u0.getD
 (IntKind.i64.wrap ((IntKind.u64.wrap (IntKind.i64.wrap (t10+t11))).fdiv ((2:Int) ^ 1))).toNat [])))
 5), .sl .any 7 (gR
 (List.take 7
 (List.drop 0
 (u0.getD
 (IntKind.i64.wrap ((IntKind.u64.wrap (IntKind.i64.wrap (t10+t11))).fdiv ((2:Int) ^ 1))).toNat [])))
 6)]), .imm (.agg [.str (gS (List.take 7 (List.drop 0 (u0.getD t1.toNat []))) 0), .int .i64 (gI (List.take 7 (List.drop 0 (u0.getD t1.toNat []))) 1), .int .i64 (gI (List.take 7 (List.drop 0 (u0.getD t1.toNat []))) 2), .int .i64 (gI (List.take 7 (List.drop 0 (u0.getD t1.toNat []))) 3), .str (gS (List.take 7 (List.drop 0 (u0.getD t1.toNat []))) 4), .sl .any 6 (gR (List.take 7 (List.drop 0 (u0.getD t1.toNat []))) 5), .sl .any 7 (gR (List.take 7 (List.drop 0 (u0.getD t1.toNat []))) 6)])] [] fun r0 g0=>
 Ao (qV1 g0 r0)
 (Br (decide (rI r0<(0:Int)))
 (El t1 (IntKind.i64.wrap
 (IntKind.i64.wrap ((IntKind.u64.wrap (IntKind.i64.wrap (t10+t11))).fdiv ((2:Int) ^ 1))+(1:Int))) t11 u0 K)
 (El t1 t10 (IntKind.i64.wrap ((IntKind.u64.wrap (IntKind.i64.wrap (t10+t11))).fdiv ((2:Int) ^ 1))) u0 K))))))))
 (K (.exit 0) ⟨[(0, .own Ae),(1,Ai t1),(10,Ai t10)],[(Ae, .arr 1 true 7 u0)]⟩))):El t1 t10 t11 u0 K:=Bo (Au E0 Ah) (Ba Ah) 3 3 (Az 3 ac_slices_symMergeCmpFunc_Pair) [0,1,4,10,11] _ K rfl (kr (by kernel_rfl) h)
theorem Uz(t1 t2 t3:Int)(u0:LL)(K:KK)(h:
 (Br (decide (IntKind.i64.wrap (t3 - t2)=(1:Int)))
 (Ed t2 t1 t2 u0 (Nh K))
 (Nb t1 t2 t3 u0 (Bh K)))):Mm t1 t2 t3 u0 K:=Ay (Au E0 Ah) (Ba Ah) 3 17 (Af 17 ac_slices_symMergeCmpFunc_Pair) [] _ K rfl (kr (by kernel_rfl) h)
theorem K5(t2 t14 t15:Int)(u0:LL)(K:KK)(h:
 (Br (decide (t14<t15))
 (Ao ((0:Int)≤(1:Int))
 (Ao ((0:Int)≤t2∧t2<(↑u0.length:Int))
 (Ao (t2.toNat<u0.length∧
 Ch
 [.str, .int .i64, .int .i64, .int .i64, .str, .sl 6 Aa,
 .sl 7 Ag]
 (List.take 7 (List.drop 0 (u0.getD t2.toNat [])))=
 true)
 (Ao ((0:Int)≤IntKind.i64.wrap ((IntKind.u64.wrap (IntKind.i64.wrap (t14+t15))).fdiv ((2:Int) ^ 1))∧
 IntKind.i64.wrap ((IntKind.u64.wrap (IntKind.i64.wrap (t14+t15))).fdiv ((2:Int) ^ 1))<
 (↑u0.length:Int))
 (Ao ((IntKind.i64.wrap ((IntKind.u64.wrap (IntKind.i64.wrap (t14+t15))).fdiv ((2:Int) ^ 1))).toNat<u0.length∧
 Ch
 [.str, .int .i64, .int .i64, .int .i64, .str, .sl 6 Aa,
 .sl 7 Ag]
 (List.take 7
 (List.drop 0
 (u0.getD
 (IntKind.i64.wrap ((IntKind.u64.wrap (IntKind.i64.wrap (t14+t15))).fdiv ((2:Int) ^ 1))).toNat
 [])))=
 true)
 (Call E0.P Aj [.imm (.agg [.str (gS (List.take 7 (List.drop 0 (u0.getD t2.toNat []))) 0), .int .i64 (gI (List.take 7 (List.drop 0 (u0.getD t2.toNat []))) 1), .int .i64 (gI (List.take 7 (List.drop 0 (u0.getD t2.toNat []))) 2), .int .i64 (gI (List.take 7 (List.drop 0 (u0.getD t2.toNat []))) 3), .str (gS (List.take 7 (List.drop 0 (u0.getD t2.toNat []))) 4), .sl .any 6 (gR (List.take 7 (List.drop 0 (u0.getD t2.toNat []))) 5), .sl .any 7 (gR (List.take 7 (List.drop 0 (u0.getD t2.toNat []))) 6)]), .imm (.agg [.str (gS
 (List.take 7
 (List.drop 0
 (u0.getD
 (IntKind.i64.wrap ((IntKind.u64.wrap (IntKind.i64.wrap (t14+t15))).fdiv ((2:Int) ^ 1))).toNat [])))
 0), .int .i64 (gI
 (List.take 7
 (List.drop 0
 (u0.getD
 (IntKind.i64.wrap ((IntKind.u64.wrap (IntKind.i64.wrap (t14+t15))).fdiv ((2:Int) ^ 1))).toNat [])))
 1), .int .i64 (gI
 (List.take 7
 (List.drop 0
 (u0.getD
 (IntKind.i64.wrap ((IntKind.u64.wrap (IntKind.i64.wrap (t14+t15))).fdiv ((2:Int) ^ 1))).toNat [])))
 2), .int .i64 (gI
 (List.take 7
 (List.drop 0
 (u0.getD
 (IntKind.i64.wrap ((IntKind.u64.wrap (IntKind.i64.wrap (t14+t15))).fdiv ((2:Int) ^ 1))).toNat [])))
 3), .str (gS
 (List.take 7
 (List.drop 0
 (u0.getD
 (IntKind.i64.wrap ((IntKind.u64.wrap (IntKind.i64.wrap (t14+t15))).fdiv ((2:Int) ^ 1))).toNat [])))
 4), .sl .any 6 (gR
 (List.take 7
 (List.drop 0
 (u0.getD
 (IntKind.i64.wrap ((IntKind.u64.wrap (IntKind.i64.wrap (t14+t15))).fdiv ((2:Int) ^ 1))).toNat [])))
 5), .sl .any 7 (gR
 (List.take 7
 (List.drop 0
 (u0.getD
 (IntKind.i64.wrap ((IntKind.u64.wrap (IntKind.i64.wrap (t14+t15))).fdiv ((2:Int) ^ 1))).toNat [])))
 6)])] [] fun r0 g0=>
 Ao (qV1 g0 r0)
 (Br (!decide (rI r0<(0:Int)))
 (Ed t2 (IntKind.i64.wrap
 (IntKind.i64.wrap ((IntKind.u64.wrap (IntKind.i64.wrap (t14+t15))).fdiv ((2:Int) ^ 1))+(1:Int))) t15 u0 K)
 (Ed t2 t14 (IntKind.i64.wrap ((IntKind.u64.wrap (IntKind.i64.wrap (t14+t15))).fdiv ((2:Int) ^ 1))) u0 K))))))))
 (K (.exit (4)) ⟨[(0, .own Ae),(2,Ai t2),(14,Ai t14)],[(Ae, .arr 1 true 7 u0)]⟩))):Ed t2 t14 t15 u0 K:=Bo (Au E0 Ah) (Ba Ah) 3 21 (Az 21 ac_slices_symMergeCmpFunc_Pair) [0,2,4,14,15] _ K rfl (kr (by kernel_rfl) h)
theorem Us(t1 t2 t3:Int)(u0:LL)(K:KK)(h:
 (Ao ((0:Int)≤(1:Int))
 (Br (decide (IntKind.i64.wrap ((IntKind.u64.wrap (IntKind.i64.wrap (t1+t3))).fdiv ((2:Int) ^ 1))<t2))
 (Ib t1 t2 t3 (IntKind.i64.wrap ((IntKind.u64.wrap (IntKind.i64.wrap (t1+t3))).fdiv ((2:Int) ^ 1))) (IntKind.i64.wrap (IntKind.i64.wrap ((IntKind.u64.wrap (IntKind.i64.wrap (t1+t3))).fdiv ((2:Int) ^ 1))+t2)) (IntKind.i64.wrap
 (IntKind.i64.wrap
 (IntKind.i64.wrap ((IntKind.u64.wrap (IntKind.i64.wrap (t1+t3))).fdiv ((2:Int) ^ 1))+t2) -
 t3)) (IntKind.i64.wrap ((IntKind.u64.wrap (IntKind.i64.wrap (t1+t3))).fdiv ((2:Int) ^ 1))) u0 (Bh K))
 (Ib t1 t2 t3 (IntKind.i64.wrap ((IntKind.u64.wrap (IntKind.i64.wrap (t1+t3))).fdiv ((2:Int) ^ 1))) (IntKind.i64.wrap (IntKind.i64.wrap ((IntKind.u64.wrap (IntKind.i64.wrap (t1+t3))).fdiv ((2:Int) ^ 1))+t2)) t1 t2 u0 (Bh K))))):Nb t1 t2 t3 u0 K:=Ay (Au E0 Ah) (Ba Ah) 3 35 (Af 35 ac_slices_symMergeCmpFunc_Pair) [] _ K rfl (kr (by kernel_rfl) h)
theorem Kz(t1 t2:Int)(t3 t18:Int)(t19 t20 t21:Int)(u0:LL)(K:KK)(h:
 (Dk t1 t2 t3 t18 t19 t20 t21 (IntKind.i64.wrap (t19 - (1:Int))) u0 (Io K))):Ib t1 t2 t3 t18 t19 t20 t21 u0 K:=Ay (Au E0 Ah) (Ba Ah) 3 42 (Af 42 ac_slices_symMergeCmpFunc_Pair) [] _ K rfl (kr (by kernel_rfl) h)
theorem K6(t1 t2:Int)(t3 t18:Int)(t19 t20:Int)(t21 t22:Int)(u0:LL)(K:KK)(h:
 (Br (decide (t20<t21))
 (Ao ((0:Int)≤(1:Int))
 (Ao ((0:Int)≤
 IntKind.i64.wrap
 (t22 - IntKind.i64.wrap ((IntKind.u64.wrap (IntKind.i64.wrap (t20+t21))).fdiv ((2:Int) ^ 1)))∧
 IntKind.i64.wrap
 (t22 - IntKind.i64.wrap ((IntKind.u64.wrap (IntKind.i64.wrap (t20+t21))).fdiv ((2:Int) ^ 1)))<
 (↑u0.length:Int))
 (Ao ((IntKind.i64.wrap
 (t22 -
 IntKind.i64.wrap ((IntKind.u64.wrap (IntKind.i64.wrap (t20+t21))).fdiv ((2:Int) ^ 1)))).toNat<
 u0.length∧
 Ch
 [.str, .int .i64, .int .i64, .int .i64, .str, .sl 6 Aa,
 .sl 7 Ag]
 (List.take 7
 (List.drop 0
 (u0.getD
 (IntKind.i64.wrap
 (t22 -
 IntKind.i64.wrap
 ((IntKind.u64.wrap (IntKind.i64.wrap (t20+t21))).fdiv ((2:Int) ^ 1)))).toNat
 [])))=
 true)
 (Ao ((0:Int)≤IntKind.i64.wrap ((IntKind.u64.wrap (IntKind.i64.wrap (t20+t21))).fdiv ((2:Int) ^ 1))∧
 IntKind.i64.wrap ((IntKind.u64.wrap (IntKind.i64.wrap (t20+t21))).fdiv ((2:Int) ^ 1))<
 (↑u0.length:Int))
 (Ao ((IntKind.i64.wrap ((IntKind.u64.wrap (IntKind.i64.wrap (t20+t21))).fdiv ((2:Int) ^ 1))).toNat<u0.length∧
 Ch
 [.str, .int .i64, .int .i64, .int .i64, .str, .sl 6 Aa,
 .sl 7 Ag]
 (List.take 7
 (List.drop 0
 (u0.getD
 (IntKind.i64.wrap ((IntKind.u64.wrap (IntKind.i64.wrap (t20+t21))).fdiv ((2:Int) ^ 1))).toNat
 [])))=
 true)
 (Call E0.P Aj [.imm (.agg [.str (gS
 (List.take 7
 (List.drop 0
 (u0.getD
 (IntKind.i64.wrap
 (t22 -
 IntKind.i64.wrap ((IntKind.u64.wrap (IntKind.i64.wrap (t20+t21))).fdiv ((2:Int) ^ 1)))).toNat
 [])))
 0), .int .i64 (gI
 (List.take 7
 (List.drop 0
 (u0.getD
 (IntKind.i64.wrap
 (t22 -
 IntKind.i64.wrap ((IntKind.u64.wrap (IntKind.i64.wrap (t20+t21))).fdiv ((2:Int) ^ 1)))).toNat
 [])))
 1), .int .i64 (gI
 (List.take 7
 (List.drop 0
 (u0.getD
 (IntKind.i64.wrap
 (t22 -
 IntKind.i64.wrap ((IntKind.u64.wrap (IntKind.i64.wrap (t20+t21))).fdiv ((2:Int) ^ 1)))).toNat
 [])))
 2), .int .i64 (gI
 (List.take 7
 (List.drop 0
 (u0.getD
 (IntKind.i64.wrap
 (t22 -
 IntKind.i64.wrap ((IntKind.u64.wrap (IntKind.i64.wrap (t20+t21))).fdiv ((2:Int) ^ 1)))).toNat
 [])))
 3), .str (gS
 (List.take 7
 (List.drop 0
 (u0.getD
 (IntKind.i64.wrap
 (t22 -
 IntKind.i64.wrap ((IntKind.u64.wrap (IntKind.i64.wrap (t20+t21))).fdiv ((2:Int) ^ 1)))).toNat
 [])))
 4), .sl .any 6 (gR
 (List.take 7
 (List.drop 0
 (u0.getD
 (IntKind.i64.wrap
 (t22 -
 IntKind.i64.wrap ((IntKind.u64.wrap (IntKind.i64.wrap (t20+t21))).fdiv ((2:Int) ^ 1)))).toNat
 [])))
 5), .sl .any 7 (gR
 (List.take 7
 (List.drop 0
 (u0.getD
 (IntKind.i64.wrap
 (t22 -
 IntKind.i64.wrap ((IntKind.u64.wrap (IntKind.i64.wrap (t20+t21))).fdiv ((2:Int) ^ 1)))).toNat
 [])))
 6)]), .imm (.agg [.str (gS
 (List.take 7
 (List.drop 0
 (u0.getD
 (IntKind.i64.wrap ((IntKind.u64.wrap (IntKind.i64.wrap (t20+t21))).fdiv ((2:Int) ^ 1))).toNat [])))
 0), .int .i64 (gI
 (List.take 7
 (List.drop 0
 (u0.getD
 (IntKind.i64.wrap ((IntKind.u64.wrap (IntKind.i64.wrap (t20+t21))).fdiv ((2:Int) ^ 1))).toNat [])))
 1), .int .i64 (gI
 (List.take 7
 (List.drop 0
 (u0.getD
 (IntKind.i64.wrap ((IntKind.u64.wrap (IntKind.i64.wrap (t20+t21))).fdiv ((2:Int) ^ 1))).toNat [])))
 2), .int .i64 (gI
 (List.take 7
 (List.drop 0
 (u0.getD
 (IntKind.i64.wrap ((IntKind.u64.wrap (IntKind.i64.wrap (t20+t21))).fdiv ((2:Int) ^ 1))).toNat [])))
 3), .str (gS
 (List.take 7
 (List.drop 0
 (u0.getD
 (IntKind.i64.wrap ((IntKind.u64.wrap (IntKind.i64.wrap (t20+t21))).fdiv ((2:Int) ^ 1))).toNat [])))
 4), .sl .any 6 (gR
 (List.take 7
 (List.drop 0
 (u0.getD
 (IntKind.i64.wrap ((IntKind.u64.wrap (IntKind.i64.wrap (t20+t21))).fdiv ((2:Int) ^ 1))).toNat [])))
 5), .sl .any 7 (gR
 (List.take 7
 (List.drop 0
 (u0.getD
 (IntKind.i64.wrap ((IntKind.u64.wrap (IntKind.i64.wrap (t20+t21))).fdiv ((2:Int) ^ 1))).toNat [])))
 6)])] [] fun r0 g0=>
 Ao (qV1 g0 r0)
 (Br (!decide (rI r0<(0:Int)))
 (Dk t1 t2 t3 t18 t19 (IntKind.i64.wrap
 (IntKind.i64.wrap ((IntKind.u64.wrap (IntKind.i64.wrap (t20+t21))).fdiv ((2:Int) ^ 1))+(1:Int))) t21 t22 u0 K)
 (Dk t1 t2 t3 t18 t19 t20 (IntKind.i64.wrap ((IntKind.u64.wrap (IntKind.i64.wrap (t20+t21))).fdiv ((2:Int) ^ 1))) t22 u0 K))))))))
 (K (.exit (8)) ⟨[(0, .own Ae),(1,Ai t1),(2,Ai t2),(3,Ai t3),(4, .fn Aj []),(18,Ai t18),(19,Ai t19),(20,Ai t20)],[(Ae, .arr 1 true 7 u0)]⟩))):Dk t1 t2 t3 t18 t19 t20 t21 t22 u0 K:=Bo (Au E0 Ah) (Ba Ah) 3 44 (Az 44 ac_slices_symMergeCmpFunc_Pair) [0,1,2,3,4,18,19,20,21,22] _ K rfl (kr (by kernel_rfl) h)
theorem Vg(t1 t10:Int)(u0:LL)(K:KK)(h:
 (F7 t10 t1 u0 (Ni K))):Nj t1 t10 u0 K:=Ay (Au E0 Ah) (Ba Ah) 3 9 (Af 9 ac_slices_symMergeCmpFunc_Pair) [0,1,2,3,4] _ K rfl (kr (by kernel_rfl) h)
theorem Ui(t2 t14:Int)(u0:LL)(K:KK)(h:
 (F3 t14 t2 u0 (Nk K))):Mi t2 t14 u0 K:=Ay (Au E0 Ah) (Ba Ah) 3 27 (Af 27 ac_slices_symMergeCmpFunc_Pair) [0,1,2,3,4] _ K rfl (kr (by kernel_rfl) h)
theorem Uu(t1 t2:Int)(t3 t18:Int)(t19 t20:Int)(u0:LL)(K:KK)(h:
 (Let (bif decide (t20<t2)then decide (t2<IntKind.i64.wrap (t19 - t20))else false) fun x0=>
 Br (x0)
 (Call E0.P J7 [.own Ae,Ai t20,Ai t2,Ai (IntKind.i64.wrap (t19 - t20)), .fn Aj []] [(Ae, .arr 1 true 7 u0)] fun r1 g1=>
 Ao (qV2 g1 r1)
 (F9 t1 t3 t18 t20 (IntKind.i64.wrap (t19 - t20)) (Cz g1 Ae) (Bh K)))
 (F9 t1 t3 t18 t20 (IntKind.i64.wrap (t19 - t20)) u0 (Bh K)))):F5 t1 t2 t3 t18 t19 t20 u0 K:=Ay (Au E0 Ah) (Ba Ah) 3 50 (Af 50 ac_slices_symMergeCmpFunc_Pair) [] _ K rfl (kr (by kernel_rfl) h)
theorem Kr(t10 t13:Int)(u0:LL)(K:KK)(h:
 (Br (decide (t13<IntKind.i64.wrap (t10 - (1:Int))))
 (Ao ((0:Int)≤IntKind.i64.wrap (t13+(1:Int))∧IntKind.i64.wrap (t13+(1:Int))<(↑u0.length:Int))
 (Ao ((IntKind.i64.wrap (t13+(1:Int))).toNat<u0.length∧
 Ch
 [.str, .int .i64, .int .i64, .int .i64, .str, .sl 6 Aa,
 .sl 7 Ag]
 (List.take 7 (List.drop 0 (u0.getD (IntKind.i64.wrap (t13+(1:Int))).toNat [])))=
 true)
 (Ao ((0:Int)≤t13∧t13<(↑u0.length:Int))
 (Ao (t13.toNat<u0.length∧
 Ch
 [.str, .int .i64, .int .i64, .int .i64, .str, .sl 6 Aa,
 .sl 7 Ag]
 (List.take 7 (List.drop 0 (u0.getD t13.toNat [])))=
 true)
 (Ao ((0:Int)≤t13∧t13<(↑u0.length:Int))
 (Ao (t13.toNat<u0.length)
 (Ao ((0:Int)≤IntKind.i64.wrap (t13+(1:Int))∧
 IntKind.i64.wrap (t13+(1:Int))<
 (↑(u0.set t13.toNat
 [.str
 (gS (List.take (7:Nat) (List.drop (0:Nat) (u0.getD (IntKind.i64.wrap (t13+(1:Int))).toNat [])))
 (0:Nat)),
 .int .i64
 (gI (List.take (7:Nat) (List.drop (0:Nat) (u0.getD (IntKind.i64.wrap (t13+(1:Int))).toNat [])))
 (1:Nat)),
 .int .i64
 (gI (List.take (7:Nat) (List.drop (0:Nat) (u0.getD (IntKind.i64.wrap (t13+(1:Int))).toNat [])))
 (2:Nat)),
 .int .i64
 (gI (List.take (7:Nat) (List.drop (0:Nat) (u0.getD (IntKind.i64.wrap (t13+(1:Int))).toNat [])))
 (3:Nat)),
 .str
 (gS (List.take (7:Nat) (List.drop (0:Nat) (u0.getD (IntKind.i64.wrap (t13+(1:Int))).toNat [])))
 (4:Nat)),
 .sl SK.any (6:Nat)
 (gR (List.take (7:Nat) (List.drop (0:Nat) (u0.getD (IntKind.i64.wrap (t13+(1:Int))).toNat [])))
 (5:Nat)),
 .sl SK.any (7:Nat)
 (gR (List.take (7:Nat) (List.drop (0:Nat) (u0.getD (IntKind.i64.wrap (t13+(1:Int))).toNat [])))
 (6:Nat))]).length:
 Int))
 (Ao ((IntKind.i64.wrap (t13+(1:Int))).toNat<
 (u0.set t13.toNat
 [.str
 (gS (List.take 7 (List.drop 0 (u0.getD (IntKind.i64.wrap (t13+(1:Int))).toNat [])))
 0),
 .int .i64
 (gI (List.take 7 (List.drop 0 (u0.getD (IntKind.i64.wrap (t13+(1:Int))).toNat [])))
 1),
 .int .i64
 (gI (List.take 7 (List.drop 0 (u0.getD (IntKind.i64.wrap (t13+(1:Int))).toNat [])))
 2),
 .int .i64
 (gI (List.take 7 (List.drop 0 (u0.getD (IntKind.i64.wrap (t13+(1:Int))).toNat [])))
 3),
 .str
 (gS (List.take 7 (List.drop 0 (u0.getD (IntKind.i64.wrap (t13+(1:Int))).toNat [])))
 4),
 .sl SK.any 6
 (gR (List.take 7 (List.drop 0 (u0.getD (IntKind.i64.wrap (t13+(1:Int))).toNat [])))
 5),
 .sl SK.any 7
 (gR (List.take 7 (List.drop 0 (u0.getD (IntKind.i64.wrap (t13+(1:Int))).toNat [])))
 6)]).length)
 (F7 t10 (IntKind.i64.wrap (t13+(1:Int))) ((u0.set t13.toNat
 [.str
 (gS (List.take 7 (List.drop 0 (u0.getD (IntKind.i64.wrap (t13+(1:Int))).toNat [])))
 0),
 .int .i64
 (gI (List.take 7 (List.drop 0 (u0.getD (IntKind.i64.wrap (t13+(1:Int))).toNat [])))
 1),
 .int .i64
 (gI (List.take 7 (List.drop 0 (u0.getD (IntKind.i64.wrap (t13+(1:Int))).toNat [])))
 2),
 .int .i64
 (gI (List.take 7 (List.drop 0 (u0.getD (IntKind.i64.wrap (t13+(1:Int))).toNat [])))
 3),
 .str
 (gS (List.take 7 (List.drop 0 (u0.getD (IntKind.i64.wrap (t13+(1:Int))).toNat [])))
 4),
 .sl SK.any 6
 (gR (List.take 7 (List.drop 0 (u0.getD (IntKind.i64.wrap (t13+(1:Int))).toNat [])))
 5),
 .sl SK.any 7
 (gR (List.take 7 (List.drop 0 (u0.getD (IntKind.i64.wrap (t13+(1:Int))).toNat [])))
 6)]).set
 (IntKind.i64.wrap (t13+(1:Int))).toNat
 [.str (gS (List.take 7 (List.drop 0 (u0.getD t13.toNat []))) 0),
 .int .i64 (gI (List.take 7 (List.drop 0 (u0.getD t13.toNat []))) 1),
 .int .i64 (gI (List.take 7 (List.drop 0 (u0.getD t13.toNat []))) 2),
 .int .i64 (gI (List.take 7 (List.drop 0 (u0.getD t13.toNat []))) 3),
 .str (gS (List.take 7 (List.drop 0 (u0.getD t13.toNat []))) 4),
 .sl SK.any 6 (gR (List.take 7 (List.drop 0 (u0.getD t13.toNat []))) 5),
 .sl SK.any 7 (gR (List.take 7 (List.drop 0 (u0.getD t13.toNat []))) 6)]) K)))))))))
 (K (.exit (2)) ⟨[],[(Ae, .arr 1 true 7 u0)]⟩))):F7 t10 t13 u0 K:=Bo (Au E0 Ah) (Ba Ah) 3 11 (Az 11 ac_slices_symMergeCmpFunc_Pair) [0,10,13] _ K rfl (kr (by kernel_rfl) h)
theorem K4(t14 t17:Int)(u0:LL)(K:KK)(h:
 (Br (decide (t14<t17))
 (Ao ((0:Int)≤IntKind.i64.wrap (t17 - (1:Int))∧IntKind.i64.wrap (t17 - (1:Int))<(↑u0.length:Int))
 (Ao ((IntKind.i64.wrap (t17 - (1:Int))).toNat<u0.length∧
 Ch
 [.str, .int .i64, .int .i64, .int .i64, .str, .sl 6 Aa,
 .sl 7 Ag]
 (List.take 7 (List.drop 0 (u0.getD (IntKind.i64.wrap (t17 - (1:Int))).toNat [])))=
 true)
 (Ao ((0:Int)≤t17∧t17<(↑u0.length:Int))
 (Ao (t17.toNat<u0.length∧
 Ch
 [.str, .int .i64, .int .i64, .int .i64, .str, .sl 6 Aa,
 .sl 7 Ag]
 (List.take 7 (List.drop 0 (u0.getD t17.toNat [])))=
 true)
 (Ao ((0:Int)≤t17∧t17<(↑u0.length:Int))
 (Ao (t17.toNat<u0.length)
 (Ao ((0:Int)≤IntKind.i64.wrap (t17 - (1:Int))∧
 IntKind.i64.wrap (t17 - (1:Int))<
 (↑(u0.set t17.toNat
 [.str
 (gS (List.take (7:Nat) (List.drop (0:Nat) (u0.getD (IntKind.i64.wrap (t17 - (1:Int))).toNat [])))
 (0:Nat)),
 .int .i64
 (gI (List.take (7:Nat) (List.drop (0:Nat) (u0.getD (IntKind.i64.wrap (t17 - (1:Int))).toNat [])))
 (1:Nat)),
 .int .i64
 (gI (List.take (7:Nat) (List.drop (0:Nat) (u0.getD (IntKind.i64.wrap (t17 - (1:Int))).toNat [])))
 (2:Nat)),
 .int .i64
 (gI (List.take (7:Nat) (List.drop (0:Nat) (u0.getD (IntKind.i64.wrap (t17 - (1:Int))).toNat [])))
 (3:Nat)),
 .str
 (gS (List.take (7:Nat) (List.drop (0:Nat) (u0.getD (IntKind.i64.wrap (t17 - (1:Int))).toNat [])))
 (4:Nat)),
 .sl SK.any (6:Nat)
 (gR (List.take (7:Nat) (List.drop (0:Nat) (u0.getD (IntKind.i64.wrap (t17 - (1:Int))).toNat [])))
 (5:Nat)),
 .sl SK.any (7:Nat)
 (gR (List.take (7:Nat) (List.drop (0:Nat) (u0.getD (IntKind.i64.wrap (t17 - (1:Int))).toNat [])))
 (6:Nat))]).length:
 Int))
 (Ao ((IntKind.i64.wrap (t17 - (1:Int))).toNat<
 (u0.set t17.toNat
 [.str
 (gS (List.take 7 (List.drop 0 (u0.getD (IntKind.i64.wrap (t17 - (1:Int))).toNat [])))
 0),
 .int .i64
 (gI (List.take 7 (List.drop 0 (u0.getD (IntKind.i64.wrap (t17 - (1:Int))).toNat [])))
 1),
 .int .i64
 (gI (List.take 7 (List.drop 0 (u0.getD (IntKind.i64.wrap (t17 - (1:Int))).toNat [])))
 2),
 .int .i64
 (gI (List.take 7 (List.drop 0 (u0.getD (IntKind.i64.wrap (t17 - (1:Int))).toNat [])))
 3),
 .str
 (gS (List.take 7 (List.drop 0 (u0.getD (IntKind.i64.wrap (t17 - (1:Int))).toNat [])))
 4),
 .sl SK.any 6
 (gR (List.take 7 (List.drop 0 (u0.getD (IntKind.i64.wrap (t17 - (1:Int))).toNat [])))
 5),
 .sl SK.any 7
 (gR (List.take 7 (List.drop 0 (u0.getD (IntKind.i64.wrap (t17 - (1:Int))).toNat [])))
 6)]).length)
 (F3 t14 (IntKind.i64.wrap (t17 - (1:Int))) ((u0.set t17.toNat
 [.str
 (gS (List.take 7 (List.drop 0 (u0.getD (IntKind.i64.wrap (t17 - (1:Int))).toNat [])))
 0),
 .int .i64
 (gI (List.take 7 (List.drop 0 (u0.getD (IntKind.i64.wrap (t17 - (1:Int))).toNat [])))
 1),
 .int .i64
 (gI (List.take 7 (List.drop 0 (u0.getD (IntKind.i64.wrap (t17 - (1:Int))).toNat [])))
 2),
 .int .i64
 (gI (List.take 7 (List.drop 0 (u0.getD (IntKind.i64.wrap (t17 - (1:Int))).toNat [])))
 3),
 .str
 (gS (List.take 7 (List.drop 0 (u0.getD (IntKind.i64.wrap (t17 - (1:Int))).toNat [])))
 4),
 .sl SK.any 6
 (gR (List.take 7 (List.drop 0 (u0.getD (IntKind.i64.wrap (t17 - (1:Int))).toNat [])))
 5),
 .sl SK.any 7
 (gR (List.take 7 (List.drop 0 (u0.getD (IntKind.i64.wrap (t17 - (1:Int))).toNat [])))
 6)]).set
 (IntKind.i64.wrap (t17 - (1:Int))).toNat
 [.str (gS (List.take 7 (List.drop 0 (u0.getD t17.toNat []))) 0),
 .int .i64 (gI (List.take 7 (List.drop 0 (u0.getD t17.toNat []))) 1),
 .int .i64 (gI (List.take 7 (List.drop 0 (u0.getD t17.toNat []))) 2),
 .int .i64 (gI (List.take 7 (List.drop 0 (u0.getD t17.toNat []))) 3),
 .str (gS (List.take 7 (List.drop 0 (u0.getD t17.toNat []))) 4),
 .sl SK.any 6 (gR (List.take 7 (List.drop 0 (u0.getD t17.toNat []))) 5),
 .sl SK.any 7 (gR (List.take 7 (List.drop 0 (u0.getD t17.toNat []))) 6)]) K)))))))))
 (K (.exit (6)) ⟨[],[(Ae, .arr 1 true 7 u0)]⟩))):F3 t14 t17 u0 K:=Bo (Au E0 Ah) (Ba Ah) 3 29 (Az 29 ac_slices_symMergeCmpFunc_Pair) [0,14,17] _ K rfl (kr (by kernel_rfl) h)
theorem Uh(t1 t3:Int)(t18 t20 t24:Int)(u0:LL)(K:KK)(h:
 (Let (bif decide (t1<t20)then decide (t20<t18)else false) fun x0=>
 Br (x0)
 (Call E0.P Du [.own Ae,Ai t1,Ai t20,Ai t18, .fn Aj []] [(Ae, .arr 1 true 7 u0)] fun r1 g1=>
 Ao (qV2 g1 r1)
 (F8 t3 t18 t24 (Cz g1 Ae) (Bh K)))
 (F8 t3 t18 t24 u0 (Bh K)))):F9 t1 t3 t18 t20 t24 u0 K:=Ay (Au E0 Ah) (Ba Ah) 3 53 (Af 53 ac_slices_symMergeCmpFunc_Pair) [] _ K rfl (kr (by kernel_rfl) h)
theorem U5(t3 t18 t24:Int)(u0:LL)(K:KK)(h:
 (Let (bif decide (t18<t24)then decide (t24<t3)else false) fun x0=>
 Br (x0)
 (Call E0.P Du [.own Ae,Ai t18,Ai t24,Ai t3, .fn Aj []] [(Ae, .arr 1 true 7 u0)] fun r1 g1=>
 Ao (qV2 g1 r1)
 (K .normal ⟨[],[(Ae, .arr 1 true 7 (Cz g1 Ae))]⟩))
 (K .normal ⟨[],[(Ae, .arr 1 true 7 u0)]⟩))):F8 t3 t18 t24 u0 K:=Ay (Au E0 Ah) (Ba Ah) 3 55 (Af 55 ac_slices_symMergeCmpFunc_Pair) [] _ K rfl (kr (by kernel_rfl) h)
theorem U4(u0:LL)(K:KK)(h:
 (K .ret ⟨[],[(Ae, .arr 1 true 7 u0)]⟩)):Mk u0 K:=Ay (Au E0 Ah) (Ba Ah) 3 16 (Af 16 ac_slices_symMergeCmpFunc_Pair) [0,1,2,3,4] _ K rfl (kr (by kernel_rfl) h)
theorem Uc(u0:LL)(K:KK)(h:
 (K .ret ⟨[],[(Ae, .arr 1 true 7 u0)]⟩)):Mx u0 K:=Ay (Au E0 Ah) (Ba Ah) 3 34 (Af 34 ac_slices_symMergeCmpFunc_Pair) [0,1,2,3,4] _ K rfl (kr (by kernel_rfl) h)
theorem Vf(rows:LL)(Q:QQ)(u0:LL)(h:
 (Q (.tup []) [(Ae, .arr 1 true 7 u0)])):Em rows Q .ret ⟨[],[(Ae, .arr 1 true 7 u0)]⟩:=kr (by kernel_rfl) h
theorem Vr(rows:LL)(Q:QQ)(u0:LL)(h:
 (Q (.tup []) [(Ae, .arr 1 true 7 u0)])):Em rows Q .normal ⟨[],[(Ae, .arr 1 true 7 u0)]⟩:=kr (by kernel_rfl) h
theorem Vi(rows:LL)(Q:QQ)(u0:LL)(h:
 (Q (.tup []) [(Ae, .arr 1 true 7 u0)])):Im rows Q .ret ⟨[],[(Ae, .arr 1 true 7 u0)]⟩:=kr (by kernel_rfl) h
theorem Vj(rows:LL)(Q:QQ)(t1 t10:Int)(u0:LL)(h:
 (Nj t1 t10 u0 (Im rows Q))):Ng rows Q (.exit 0) ⟨[(0, .own Ae),(1,Ai t1),(10,Ai t10)],[(Ae, .arr 1 true 7 u0)]⟩:=kr (by kernel_rfl) h
theorem Cs(K:KK)(u0:LL)(h:
 (K .normal ⟨[],[(Ae, .arr 1 true 7 u0)]⟩)):Bh K .normal ⟨[],[(Ae, .arr 1 true 7 u0)]⟩:=kr (by kernel_rfl) h
theorem Vm(K:KK)(u0:LL)(h:
 (K .ret ⟨[],[(Ae, .arr 1 true 7 u0)]⟩)):Il K .ret ⟨[],[(Ae, .arr 1 true 7 u0)]⟩:=kr (by kernel_rfl) h
theorem Vn(K:KK)(t2 t14:Int)(u0:LL)(h:
 (Mi t2 t14 u0 (Il K))):Nh K (.exit (4)) ⟨[(0, .own Ae),(2,Ai t2),(14,Ai t14)],[(Ae, .arr 1 true 7 u0)]⟩:=kr (by kernel_rfl) h
theorem Vq(K:KK)(t1 t2:Int)(t3 t18:Int)(t19 t20:Int)(u0:LL)(h:
 (F5 t1 t2 t3 t18 t19 t20 u0 (Bh K))):Io K (.exit (8)) ⟨[(0, .own Ae),(1,Ai t1),(2,Ai t2),(3,Ai t3),(4, .fn Aj []),(18,Ai t18),(19,Ai t19),(20,Ai t20)],[(Ae, .arr 1 true 7 u0)]⟩:=kr (by kernel_rfl) h
theorem Ll(K:KK)(u0:LL)(h:
 (K .ret ⟨[],[(Ae, .arr 1 true 7 u0)]⟩)):En K .ret ⟨[],[(Ae, .arr 1 true 7 u0)]⟩:=kr (by kernel_rfl) h
theorem Vo(K:KK)(u0:LL)(h:
 (Mk u0 (En K))):Ni K (.exit (2)) ⟨[],[(Ae, .arr 1 true 7 u0)]⟩:=kr (by kernel_rfl) h
theorem Vk(K:KK)(u0:LL)(h:
 (Mx u0 (En K))):Nk K (.exit (6)) ⟨[],[(Ae, .arr 1 true 7 u0)]⟩:=kr (by kernel_rfl) h
theorem Zz:Bt E0.P 132 ac_slices_symMergeCmpFunc_Pair.code Ah []:=Bl _ _ Try.f132 [(3,[0,1,4,10,11],[]),(5,[0,1,10],[]),(9,[0,1,10],[0,1,2,3,4]),(11,[0,10,13],[]),(13,[],[]),(16,[],[0,1,2,3,4]),(17,[0,1,2,3,4],[]),(21,[0,2,4,14,15],[]),(23,[0,2,14],[]),(27,[0,2,14],[0,1,2,3,4]),(29,[0,14,17],[]),(31,[],[]),(34,[],[0,1,2,3,4]),(35,[0,1,2,3,4],[]),(42,[0,1,2,3,4,18,19,20,21],[]),(44,[0,1,2,3,4,18,19,20,21,22],[]),(46,[0,1,2,3,4,18,19,20],[]),(50,[0,1,2,3,4,18,19,20],[]),(53,[0,1,3,4,18,20,24],[]),(55,[0,3,4,18,24],[])] [] _ 220 Try.func132 (by kernel_rfl) (by kernel_rfl) (by kernel_rfl) (by kernel_rfl)
theorem Xo(rows:LL)(a1 a2 a3:Int)(Q:QQ)(h:
 (Br (decide (IntKind.i64.wrap (a2 - a1)=(1:Int)))
 (El a1 a2 a3 rows (Ng rows Q))
 (Mm a1 a2 a3 rows (Em rows Q)))):Call E0.P Du [.own (.arg 0),Ai a1,Ai a2,Ai a3, .fn Aj []] [(.arg 0, .arr 1 true 7 rows)] Q:=Bd (Au E0 Ah) (Ba Ah) 3 1 132 ac_slices_symMergeCmpFunc_Pair [] Zz _ _ Q rfl rfl (kr (by kernel_rfl) h)
noncomputable def ac_slices_stableCmpFunc_Pair:AC:=(Bf [(2,[0,1,2,6,7,8],[]),(4,[0,1,2,6,7],[]),(8,[0,1,2,6,7],[]),(10,[0,1,2,6],[]),(12,[],[]),(15,[0,1,2,6,7,8],[]),(17,[0,1,2,6,7],[]),(21,[0,1,2,6,7],[0,1,2,6]),(24,[0,1,2,6],[0,1,2,6])] [] (codeOf Try.f117) 0).1
abbrev A7:Nat:=63
def Gs(t1 t6:Int)(t7 t8:Int)(u0:LL)(K:KK):Prop:=Bj 2 E0.P A7 (Az 2 ac_slices_stableCmpFunc_Pair).code ⟨[(0, .own Ae),(1,Ai t1),(2, .fn Aj []),(6,Ai t6),(7,Ai t7),(8,Ai t8)],[(Ae, .arr 1 true 7 u0)]⟩ K
def Pb(t1 t6 t7:Int)(u0:LL)(K:KK):Prop:=Ar 8 E0.P A7 (Af 8 ac_slices_stableCmpFunc_Pair).code ⟨[(0, .own Ae),(1,Ai t1),(2, .fn Aj []),(6,Ai t6),(7,Ai t7)],[(Ae, .arr 1 true 7 u0)]⟩ K
def Dw(t1 t6:Int)(u0:LL)(K:KK):Prop:=Bj 10 E0.P A7 (Az 10 ac_slices_stableCmpFunc_Pair).code ⟨[(0, .own Ae),(1,Ai t1),(2, .fn Aj []),(6,Ai t6)],[(Ae, .arr 1 true 7 u0)]⟩ K
def Gl(t1 t6:Int)(t7 t8:Int)(u0:LL)(K:KK):Prop:=Bj 15 E0.P A7 (Az 15 ac_slices_stableCmpFunc_Pair).code ⟨[(0, .own Ae),(1,Ai t1),(2, .fn Aj []),(6,Ai t6),(7,Ai t7),(8,Ai t8)],[(Ae, .arr 1 true 7 u0)]⟩ K
def Oj(t1 t6 t7:Int)(u0:LL)(K:KK):Prop:=Ar 21 E0.P A7 (Af 21 ac_slices_stableCmpFunc_Pair).code ⟨[(0, .own Ae),(1,Ai t1),(2, .fn Aj []),(6,Ai t6),(7,Ai t7)],[(Ae, .arr 1 true 7 u0)]⟩ K
def Gj(t1 t6:Int)(u0:LL)(K:KK):Prop:=Ar 24 E0.P A7 (Af 24 ac_slices_stableCmpFunc_Pair).code ⟨[(0, .own Ae),(1,Ai t1),(2, .fn Aj []),(6,Ai t6)],[(Ae, .arr 1 true 7 u0)]⟩ K
def Fb(rows:LL)(Q:QQ):KK:=kE fun st=>finish (1) E0.T [] [(Ae, .arr 1 true 7 rows)] Q st
def Jo(rows:LL)(Q:QQ):KK:=kF 0 (fun st=>Ar 8 E0.P A7 (Af 8 ac_slices_stableCmpFunc_Pair).code (mask [0,1,2,6,7] st) (Fb rows Q)) fun st=>finish (1) E0.T [] [(Ae, .arr 1 true 7 rows)] Q st
def Gt(K:KK):KK:=kC 2 (fun st=>K .normal (mask [] st)) K
def Fa(K:KK):KK:=kC 3 (fun st=>Bj 10 E0.P A7 (Az 10 ac_slices_stableCmpFunc_Pair).code (mask [0,1,2,6] st) K) K
def Js(K:KK):Ex→St→Prop
 | .normal,st=>Ar 21 E0.P A7 (Af 21 ac_slices_stableCmpFunc_Pair).code (mask [0,1,2,6,7] st) (Fa K)
 | .exit i,st=>(match (i.beq 4:Bool)with
 |true=>Ar 21 E0.P A7 (Af 21 ac_slices_stableCmpFunc_Pair).code (mask [0,1,2,6,7] st) (Fa K)
 |false=>(match (i.beq 3:Bool)with
 |true=>Bj 10 E0.P A7 (Az 10 ac_slices_stableCmpFunc_Pair).code (mask [0,1,2,6] st) K
 |false=>K (.exit i) st))
 | .goto i,st=>K (.goto i) st
 | .ret,st=>K .ret st
def Gu(K:KK):KK:=kP [0,1,2,6] K
theorem Xu(t1 t6:Int)(t7 t8:Int)(u0:LL)(K:KK)(h:
 (Br (decide (t8≤t1))
 (Call E0.P E8 [.own Ae,Ai t7,Ai t8, .fn Aj []] [(Ae, .arr 1 true 7 u0)] fun r0 g0=>
 Ao (qV2 g0 r0)
 (Gs t1 t6 t8 (IntKind.i64.wrap (t8+t6)) (Cz g0 Ae) K))
 (K (.exit 0) ⟨[(0, .own Ae),(1,Ai t1),(2, .fn Aj []),(6,Ai t6),(7,Ai t7)],[(Ae, .arr 1 true 7 u0)]⟩))):Gs t1 t6 t7 t8 u0 K:=Bo (Au E0 A7) (Ba A7) 3 2 (Az 2 ac_slices_stableCmpFunc_Pair) [0,1,2,6,7,8] _ K rfl (kr (by kernel_rfl) h)
theorem Xt(t1 t6 t7:Int)(u0:LL)(K:KK)(h:
 (Call E0.P E8 [.own Ae,Ai t7,Ai t1, .fn Aj []] [(Ae, .arr 1 true 7 u0)] fun r0 g0=>
 Ao (qV2 g0 r0)
 (Dw t1 t6 (Cz g0 Ae) (Gt K)))):Pb t1 t6 t7 u0 K:=Ay (Au E0 A7) (Ba A7) 3 8 (Af 8 ac_slices_stableCmpFunc_Pair) [] _ K rfl (kr (by kernel_rfl) h)
theorem L8(t1 t6:Int)(u0:LL)(K:KK)(h:
 (Br (decide (t6<t1))
 (Gl t1 t6 ((0:Int)) (IntKind.i64.wrap ((2:Int)*t6)) u0 (Js K))
 (K (.exit (2)) ⟨[],[(Ae, .arr 1 true 7 u0)]⟩))):Dw t1 t6 u0 K:=Bo (Au E0 A7) (Ba A7) 3 10 (Az 10 ac_slices_stableCmpFunc_Pair) [0,1,2,6] _ K rfl (kr (by kernel_rfl) h)
theorem Vw(t1 t6:Int)(t7 t8:Int)(u0:LL)(K:KK)(h:
 (Br (decide (t8≤t1))
 (Call E0.P Du [.own Ae,Ai t7,Ai (IntKind.i64.wrap (t7+t6)),Ai t8, .fn Aj []] [(Ae, .arr 1 true 7 u0)] fun r0 g0=>
 Ao (qV2 g0 r0)
 (Gl t1 t6 t8 (IntKind.i64.wrap (t8+IntKind.i64.wrap ((2:Int)*t6))) (Cz g0 Ae) K))
 (K (.exit (4)) ⟨[(0, .own Ae),(1,Ai t1),(2, .fn Aj []),(6,Ai t6),(7,Ai t7)],[(Ae, .arr 1 true 7 u0)]⟩))):Gl t1 t6 t7 t8 u0 K:=Bo (Au E0 A7) (Ba A7) 3 15 (Az 15 ac_slices_stableCmpFunc_Pair) [0,1,2,6,7,8] _ K rfl (kr (by kernel_rfl) h)
theorem Wh(t1 t6 t7:Int)(u0:LL)(K:KK)(h:
 (Br (decide (IntKind.i64.wrap (t7+t6)<t1))
 (Call E0.P Du [.own Ae,Ai t7,Ai (IntKind.i64.wrap (t7+t6)),Ai t1, .fn Aj []] [(Ae, .arr 1 true 7 u0)] fun r0 g0=>
 Ao (qV2 g0 r0)
 (Gj t1 t6 (Cz g0 Ae) (Gu K)))
 (Gj t1 t6 u0 (Gu K)))):Oj t1 t6 t7 u0 K:=Ay (Au E0 A7) (Ba A7) 3 21 (Af 21 ac_slices_stableCmpFunc_Pair) [0,1,2,6] _ K rfl (kr (by kernel_rfl) h)
theorem Vt(t1 t6:Int)(u0:LL)(K:KK)(h:
 (K .normal ⟨[(0, .own Ae),(1,Ai t1),(2, .fn Aj []),(6,Ai (IntKind.i64.wrap (t6*(2:Int))))],[(Ae, .arr 1 true 7 u0)]⟩)):Gj t1 t6 u0 K:=Ay (Au E0 A7) (Ba A7) 3 24 (Af 24 ac_slices_stableCmpFunc_Pair) [0,1,2,6] _ K rfl (kr (by kernel_rfl) h)
theorem Xx(rows:LL)(Q:QQ)(u0:LL)(h:
 (Q (.tup []) [(Ae, .arr 1 true 7 u0)])):Fb rows Q .normal ⟨[],[(Ae, .arr 1 true 7 u0)]⟩:=kr (by kernel_rfl) h
theorem Xl(rows:LL)(Q:QQ)(t1 t6 t7:Int)(u0:LL)(h:
 (Pb t1 t6 t7 u0 (Fb rows Q))):Jo rows Q (.exit 0) ⟨[(0, .own Ae),(1,Ai t1),(2, .fn Aj []),(6,Ai t6),(7,Ai t7)],[(Ae, .arr 1 true 7 u0)]⟩:=kr (by kernel_rfl) h
theorem Xy(K:KK)(u0:LL)(h:
 (K .normal ⟨[],[(Ae, .arr 1 true 7 u0)]⟩)):Gt K (.exit (2)) ⟨[],[(Ae, .arr 1 true 7 u0)]⟩:=kr (by kernel_rfl) h
theorem Xn(K:KK)(t1 t6:Int)(u0:LL)(h:
 (Dw t1 t6 u0 K)):Fa K .normal ⟨[(0, .own Ae),(1,Ai t1),(2, .fn Aj []),(6,Ai t6)],[(Ae, .arr 1 true 7 u0)]⟩:=kr (by kernel_rfl) h
theorem X5(K:KK)(t1 t6 t7:Int)(u0:LL)(h:
 (Oj t1 t6 t7 u0 (Fa K))):Js K (.exit (4)) ⟨[(0, .own Ae),(1,Ai t1),(2, .fn Aj []),(6,Ai t6),(7,Ai t7)],[(Ae, .arr 1 true 7 u0)]⟩:=kr (by kernel_rfl) h
theorem X8(K:KK)(t1 t6:Int)(u0:LL)(h:
 (K .normal ⟨[(0, .own Ae),(1,Ai t1),(2, .fn Aj []),(6,Ai t6)],[(Ae, .arr 1 true 7 u0)]⟩)):Gu K .normal ⟨[(0, .own Ae),(1,Ai t1),(2, .fn Aj []),(6,Ai t6)],[(Ae, .arr 1 true 7 u0)]⟩:=kr (by kernel_rfl) h
theorem Aa7:Bt E0.P 117 ac_slices_stableCmpFunc_Pair.code A7 []:=Bl _ _ Try.f117 [(2,[0,1,2,6,7,8],[]),(4,[0,1,2,6,7],[]),(8,[0,1,2,6,7],[]),(10,[0,1,2,6],[]),(12,[],[]),(15,[0,1,2,6,7,8],[]),(17,[0,1,2,6,7],[]),(21,[0,1,2,6,7],[0,1,2,6]),(24,[0,1,2,6],[0,1,2,6])] [] _ 63 Try.func117 (by kernel_rfl) (by kernel_rfl) (by kernel_rfl) (by kernel_rfl)
theorem Zg(rows:LL)(a1:Int)(Q:QQ)(h:
 (Gs a1 ((20:Int)) ((0:Int)) ((20:Int)) rows (Jo rows Q))):Call E0.P J4 [.own (.arg 0),Ai a1, .fn Aj []] [(.arg 0, .arr 1 true 7 rows)] Q:=Bd (Au E0 A7) (Ba A7) 3 1 117 ac_slices_stableCmpFunc_Pair [] Aa7 _ _ Q rfl rfl (kr (by kernel_rfl) h)
noncomputable def ac_slices_SortStableFunc_Pair:AC:=(Bf [] [] (codeOf Try.f95) 0).1
abbrev Jt:Nat:=9
theorem Z6:Bt E0.P 95 ac_slices_SortStableFunc_Pair.code Jt []:=Bl _ _ Try.f95 [] [] _ 9 Try.func95 (by kernel_rfl) (by kernel_rfl) (by kernel_rfl) (by kernel_rfl)
theorem Ym(rows:LL)(Q:QQ)(h:
 (Call E0.P J4 [.own Ae,Ai ((↑rows.length:Int)), .fn Aj []] [(Ae, .arr 1 true 7 rows)] fun r0 g0=>
 Ao (qV2 g0 r0)
 (Q (.tup []) [(Ae, .arr 1 true 7 (Cz g0 Ae))]))):Call E0.P Jq [.own (.arg 0), .fn Aj []] [(.arg 0, .arr 1 true 7 rows)] Q:=Bd (Au E0 Jt) (Ba Jt) 3 1 95 ac_slices_SortStableFunc_Pair [] Z6 _ _ Q rfl rfl (kr (by kernel_rfl) h)
noncomputable def ac_slices_Clone_Pair:AC:=(Bf [] [2] (codeOf Try.f94) 0).1
abbrev Q8:Nat:=8
theorem Ak0:Bt E0.P 94 ac_slices_Clone_Pair.code Q8 [.tmp 2]:=Bl _ _ Try.f94 [] [2] _ 8 Try.func94 (by kernel_rfl) (by kernel_rfl) (by kernel_rfl) (by kernel_rfl)
theorem Ah0(a0:LL)(Q:QQ)(h:
 (A4t (a0=[])
 (Br (!false)
 (Q (.own nL0) ([]++[(Nm.loc 0,Entry.arr 0 true 7 [])]))
 (Ao ((0+a0.length)*104≤140737488355328∧0+a0.length≤140737488355328)
 (Q (.own nL0) ([]++[(Nm.loc 0,Entry.arr 0 true 7 ([]++a0))]))))
 (Br (false)
 (Q (.own nL0) ([]++[(Nm.loc 0,Entry.arr 0 true 7 [])]))
 (Ao ((0+a0.length)*104≤140737488355328∧0+a0.length≤140737488355328)
 (Q (.own nL0) ([]++[(Nm.loc 0,Entry.arr 0 true 7 ([]++a0))])))))):Call E0.P Q6 [Al 7 a0] [] Q:=Bd (Au E0 Q8) (Ba Q8) 3 2 94 ac_slices_Clone_Pair [.tmp 2] Ak0 _ _ Q rfl rfl (kr (by kernel_rfl) h)
noncomputable def ac_slices_CompactFunc_Pair:AC:=(Bf [(5,[0,1,5],[]),(7,[0],[]),(12,[0,1,5,6,7],[]),(14,[0,5],[]),(18,[0,1,5,6,7],[0,1,5,6,7]),(19,[0,5],[0,1,5]),(22,[0,1,5],[0,1,5]),(23,[0],[])] [4] (codeOf Try.f98) 0).1
abbrev A8:Nat:=66
def Hr(t5:Int)(u0:LL)(K:KK):Prop:=Bj 5 E0.P A8 (Az 5 ac_slices_CompactFunc_Pair).code ⟨[(0, .own Ae),(1, .fn Cc []),(5,Ai t5)],[(Ae, .arr 1 true 7 u0)]⟩ K
def Ha(t5:Int)(t6_2 t6_3:Nat)(t7:Int)(u0:LL)(K:KK):Prop:=Bj 12 E0.P A8 (Az 12 ac_slices_CompactFunc_Pair).code ⟨[(0, .own Ae),(1, .fn Cc []),(5,Ai t5),(6, .win Ae 7 t6_2 t6_3),(7,Ai t7)],[(Ae, .arr 1 true 7 u0)]⟩ K
def Pj(t5:Int)(u0:LL)(K:KK):Prop:=Ar 22 E0.P A8 (Af 22 ac_slices_CompactFunc_Pair).code ⟨[(0, .own Ae),(1, .fn Cc []),(5,Ai t5)],[(Ae, .arr 1 true 7 u0)]⟩ K
def J9(t5:Int)(t6_2 t6_3:Nat)(t7:Int)(u0:LL)(K:KK):Prop:=Ar 18 E0.P A8 (Af 18 ac_slices_CompactFunc_Pair).code ⟨[(0, .own Ae),(1, .fn Cc []),(5,Ai t5),(6, .win Ae 7 t6_2 t6_3),(7,Ai t7)],[(Ae, .arr 1 true 7 u0)]⟩ K
def Pw(u0:LL)(K:KK):Prop:=Ar 23 E0.P A8 (Af 23 ac_slices_CompactFunc_Pair).code ⟨[(0, .own Ae)],[(Ae, .arr 1 true 7 u0)]⟩ K
def Pp(t5:Int)(u0:LL)(K:KK):Prop:=Ar 19 E0.P A8 (Af 19 ac_slices_CompactFunc_Pair).code ⟨[(0, .own Ae),(5,Ai t5)],[(Ae, .arr 1 true 7 u0)]⟩ K
def Km(rows:LL)(Q:QQ):KK:=kE fun st=>finish (1) E0.T [.tmp 4] [(Ae, .arr 1 true 7 rows)] Q st
def Fv(rows:LL)(Q:QQ):KK:=kF 0 (fun st=>Ar 23 E0.P A8 (Af 23 ac_slices_CompactFunc_Pair).code (mask [0] st) (Km rows Q)) fun st=>finish (1) E0.T [.tmp 4] [(Ae, .arr 1 true 7 rows)] Q st
def Ho(K:KK):Ex→St→Prop
 | .normal,st=>Bj 5 E0.P A8 (Az 5 ac_slices_CompactFunc_Pair).code (mask [0,1,5] st) K
 | .exit i,st=>K (.exit i) st
 | .goto i,st=>K (.goto i) st
 | .ret,st=>K .ret st
def Hm(K:KK):KK:=kC 1 (fun st=>Ar 22 E0.P A8 (Af 22 ac_slices_CompactFunc_Pair).code (mask [0,1,5] st) (Ho K)) K
def Kn(K:KK):Ex→St→Prop
 | .normal,st=>Ar 19 E0.P A8 (Af 19 ac_slices_CompactFunc_Pair).code (mask [0,5] st) (Hm K)
 | .exit i,st=>(match (i.beq 2:Bool)with
 |true=>Ar 19 E0.P A8 (Af 19 ac_slices_CompactFunc_Pair).code (mask [0,5] st) (Hm K)
 |false=>(match (i.beq 1:Bool)with
 |true=>Ar 22 E0.P A8 (Af 22 ac_slices_CompactFunc_Pair).code (mask [0,1,5] st) (Ho K)
 |false=>K (.exit i) st))
 | .goto i,st=>K (.goto i) st
 | .ret,st=>K .ret st
def Ko(K:KK):Ex→St→Prop
 | .normal,st=>Bj 12 E0.P A8 (Az 12 ac_slices_CompactFunc_Pair).code (mask [0,1,5,6,7] st) K
 | .exit i,st=>K (.exit i) st
 | .goto i,st=>K (.goto i) st
 | .ret,st=>K .ret st
theorem Om(t5:Int)(u0:LL)(K:KK)(h:
 (Br (decide (t5<(↑u0.length:Int)))
 (Ao ((0:Int)≤t5∧t5<(↑u0.length:Int))
 (Ao (t5.toNat<u0.length∧
 Ch
 [.str, .int .i64, .int .i64, .int .i64, .str, .sl 6 Aa,
 .sl 7 Ag]
 (List.take 7 (List.drop 0 (u0.getD t5.toNat [])))=
 true)
 (Ao ((0:Int)≤IntKind.i64.wrap (t5 - (1:Int))∧IntKind.i64.wrap (t5 - (1:Int))<(↑u0.length:Int))
 (Ao ((IntKind.i64.wrap (t5 - (1:Int))).toNat<u0.length∧
 Ch
 [.str, .int .i64, .int .i64, .int .i64, .str, .sl 6 Aa,
 .sl 7 Ag]
 (List.take 7 (List.drop 0 (u0.getD (IntKind.i64.wrap (t5 - (1:Int))).toNat [])))=
 true)
 (Call E0.P Cc [.imm (.agg [.str (gS (List.take 7 (List.drop 0 (u0.getD t5.toNat []))) 0), .int .i64 (gI (List.take 7 (List.drop 0 (u0.getD t5.toNat []))) 1), .int .i64 (gI (List.take 7 (List.drop 0 (u0.getD t5.toNat []))) 2), .int .i64 (gI (List.take 7 (List.drop 0 (u0.getD t5.toNat []))) 3), .str (gS (List.take 7 (List.drop 0 (u0.getD t5.toNat []))) 4), .sl .any 6 (gR (List.take 7 (List.drop 0 (u0.getD t5.toNat []))) 5), .sl .any 7 (gR (List.take 7 (List.drop 0 (u0.getD t5.toNat []))) 6)]), .imm (.agg [.str (gS (List.take 7 (List.drop 0 (u0.getD (IntKind.i64.wrap (t5 - (1:Int))).toNat []))) 0), .int .i64 (gI (List.take 7 (List.drop 0 (u0.getD (IntKind.i64.wrap (t5 - (1:Int))).toNat []))) 1), .int .i64 (gI (List.take 7 (List.drop 0 (u0.getD (IntKind.i64.wrap (t5 - (1:Int))).toNat []))) 2), .int .i64 (gI (List.take 7 (List.drop 0 (u0.getD (IntKind.i64.wrap (t5 - (1:Int))).toNat []))) 3), .str (gS (List.take 7 (List.drop 0 (u0.getD (IntKind.i64.wrap (t5 - (1:Int))).toNat []))) 4), .sl .any 6 (gR (List.take 7 (List.drop 0 (u0.getD (IntKind.i64.wrap (t5 - (1:Int))).toNat []))) 5), .sl .any 7 (gR (List.take 7 (List.drop 0 (u0.getD (IntKind.i64.wrap (t5 - (1:Int))).toNat []))) 6)])] [] fun r0 g0=>
 Ao (qV0 g0 r0)
 (Br (rB r0)
 (Ao ((0:Int)≤t5∧t5≤(↑u0.length:Int))
 (Ha t5 t5.toNat (u0.length - t5.toNat) ((1:Int)) u0 (Kn K)))
 (Pj t5 u0 (Ho K))))))))
 (K (.exit 0) ⟨[(0, .own Ae)],[(Ae, .arr 1 true 7 u0)]⟩))):Hr t5 u0 K:=Bo (Au E0 A8) (Ba A8) 3 5 (Az 5 ac_slices_CompactFunc_Pair) [0,1,5] _ K rfl (kr (by kernel_rfl) h)
theorem Nn(t5:Int)(t6_2 t6_3:Nat)(t7:Int)(u0:LL)(K:KK)(h:
 (Br (decide (t7<(↑t6_3:Int)))
 (Ao ((0:Int)≤t7∧t7<(↑t6_3:Int))
 (Ao (addN t6_2 t7.toNat<u0.length∧
 Ch
 [.str, .int .i64, .int .i64, .int .i64, .str, .sl 6 Aa,
 .sl 7 Ag]
 (List.take 7 (List.drop 0 (u0.getD (addN t6_2 t7.toNat) [])))=
 true)
 (Ao ((0:Int)≤IntKind.i64.wrap (t7 - (1:Int))∧IntKind.i64.wrap (t7 - (1:Int))<(↑t6_3:Int))
 (Ao (addN t6_2 (IntKind.i64.wrap (t7 - (1:Int))).toNat<u0.length∧
 Ch
 [.str, .int .i64, .int .i64, .int .i64, .str, .sl 6 Aa,
 .sl 7 Ag]
 (List.take 7 (List.drop 0 (u0.getD (addN t6_2 (IntKind.i64.wrap (t7 - (1:Int))).toNat) [])))=
 true)
 (Call E0.P Cc [.imm (.agg [.str (gS (List.take 7 (List.drop 0 (u0.getD (addN t6_2 t7.toNat) []))) 0), .int .i64 (gI (List.take 7 (List.drop 0 (u0.getD (addN t6_2 t7.toNat) []))) 1), .int .i64 (gI (List.take 7 (List.drop 0 (u0.getD (addN t6_2 t7.toNat) []))) 2), .int .i64 (gI (List.take 7 (List.drop 0 (u0.getD (addN t6_2 t7.toNat) []))) 3), .str (gS (List.take 7 (List.drop 0 (u0.getD (addN t6_2 t7.toNat) []))) 4), .sl .any 6 (gR (List.take 7 (List.drop 0 (u0.getD (addN t6_2 t7.toNat) []))) 5), .sl .any 7 (gR (List.take 7 (List.drop 0 (u0.getD (addN t6_2 t7.toNat) []))) 6)]), .imm (.agg [.str (gS (List.take 7 (List.drop 0 (u0.getD (addN t6_2 (IntKind.i64.wrap (t7 - (1:Int))).toNat) [])))
 0), .int .i64 (gI (List.take 7 (List.drop 0 (u0.getD (addN t6_2 (IntKind.i64.wrap (t7 - (1:Int))).toNat) [])))
 1), .int .i64 (gI (List.take 7 (List.drop 0 (u0.getD (addN t6_2 (IntKind.i64.wrap (t7 - (1:Int))).toNat) [])))
 2), .int .i64 (gI (List.take 7 (List.drop 0 (u0.getD (addN t6_2 (IntKind.i64.wrap (t7 - (1:Int))).toNat) [])))
 3), .str (gS (List.take 7 (List.drop 0 (u0.getD (addN t6_2 (IntKind.i64.wrap (t7 - (1:Int))).toNat) [])))
 4), .sl .any 6 (gR (List.take 7 (List.drop 0 (u0.getD (addN t6_2 (IntKind.i64.wrap (t7 - (1:Int))).toNat) [])))
 5), .sl .any 7 (gR (List.take 7 (List.drop 0 (u0.getD (addN t6_2 (IntKind.i64.wrap (t7 - (1:Int))).toNat) [])))
 6)])] [] fun r0 g0=>
 Ao (qV0 g0 r0)
 (Br (!rB r0)
 (Ao ((0:Int)≤t7∧t7<(↑t6_3:Int))
 (Ao (addN t6_2 t7.toNat<u0.length∧
 Ch
 [.str, .int .i64, .int .i64, .int .i64, .str, .sl 6 Aa,
 .sl 7 Ag]
 (List.take 7 (List.drop 0 (u0.getD (addN t6_2 t7.toNat) [])))=
 true)
 (Ao ((0:Int)≤t5∧t5<(↑u0.length:Int))
 (Ao (t5.toNat<u0.length)
 (J9 (IntKind.i64.wrap (t5+(1:Int))) t6_2 t6_3 t7 (u0.set t5.toNat
 [.str (gS (List.take 7 (List.drop 0 (u0.getD (addN t6_2 t7.toNat) []))) 0),
 .int .i64 (gI (List.take 7 (List.drop 0 (u0.getD (addN t6_2 t7.toNat) []))) 1),
 .int .i64 (gI (List.take 7 (List.drop 0 (u0.getD (addN t6_2 t7.toNat) []))) 2),
 .int .i64 (gI (List.take 7 (List.drop 0 (u0.getD (addN t6_2 t7.toNat) []))) 3),
 .str (gS (List.take 7 (List.drop 0 (u0.getD (addN t6_2 t7.toNat) []))) 4),
 .sl SK.any 6
 (gR (List.take 7 (List.drop 0 (u0.getD (addN t6_2 t7.toNat) []))) 5),
 .sl SK.any 7
 (gR (List.take 7 (List.drop 0 (u0.getD (addN t6_2 t7.toNat) []))) 6)]) (Ko K))))))
 (J9 t5 t6_2 t6_3 t7 u0 (Ko K))))))))
 (K (.exit (2)) ⟨[(0, .own Ae),(5,Ai t5)],[(Ae, .arr 1 true 7 u0)]⟩))):Ha t5 t6_2 t6_3 t7 u0 K:=Bo (Au E0 A8) (Ba A8) 3 12 (Az 12 ac_slices_CompactFunc_Pair) [0,1,5,6,7] _ K rfl (kr (by kernel_rfl) h)
theorem Yi(t5:Int)(u0:LL)(K:KK)(h:
 (K .normal ⟨[(0, .own Ae),(1, .fn Cc []),(5,Ai (IntKind.i64.wrap (t5+(1:Int))))],[(Ae, .arr 1 true 7 u0)]⟩)):Pj t5 u0 K:=Ay (Au E0 A8) (Ba A8) 3 22 (Af 22 ac_slices_CompactFunc_Pair) [0,1,5] _ K rfl (kr (by kernel_rfl) h)
theorem Nf(t5:Int)(t6_2 t6_3:Nat)(t7:Int)(u0:LL)(K:KK)(h:
 (K .normal ⟨[(0, .own Ae),(1, .fn Cc []),(5,Ai t5),(6, .win Ae 7 t6_2 t6_3),(7,Ai (IntKind.i64.wrap (t7+(1:Int))))],[(Ae, .arr 1 true 7 u0)]⟩)):J9 t5 t6_2 t6_3 t7 u0 K:=Ay (Au E0 A8) (Ba A8) 3 18 (Af 18 ac_slices_CompactFunc_Pair) [0,1,5,6,7] _ K rfl (kr (by kernel_rfl) h)
theorem Yl(u0:LL)(K:KK)(h:
 (K .ret ⟨[(4, .own Ae)],[(Ae, .arr 1 true 7 u0)]⟩)):Pw u0 K:=Ay (Au E0 A8) (Ba A8) 3 23 (Af 23 ac_slices_CompactFunc_Pair) [] _ K rfl (kr (by kernel_rfl) h)
theorem Yj(t5:Int)(u0:LL)(K:KK)(h:
 (Ao ((0:Int)≤t5∧t5≤(↑u0.length:Int))
 (Ao ((0:Int)≤t5∧
 t5≤
 (↑(Jm
 [.str [], .int .i64 (0:Int), .int .i64 (0:Int), .int .i64 (0:Int),
 .str [], .sl SK.nil (6:Nat) [], .sl SK.nil (7:Nat) []]
 t5.toNat (u0.length - t5.toNat) u0).length:
 Int))
 (K .ret ⟨[(4, .win Ae 7 0 (t5.toNat - 0))],[(Ae, .arr 1 true 7 (Jm
 [.str [], .int .i64 (0:Int), .int .i64 (0:Int), .int .i64 (0:Int), .str [],
 .sl SK.nil 6 [], .sl SK.nil 7 []]
 t5.toNat (u0.length - t5.toNat) u0))]⟩)))):Pp t5 u0 K:=Ay (Au E0 A8) (Ba A8) 3 19 (Af 19 ac_slices_CompactFunc_Pair) [0,1,5] _ K rfl (kr (by kernel_rfl) h)
theorem Y9(rows:LL)(Q:QQ)(u0:LL)(h:
 (Q (.win Ae 7 0 u0.length) [(Ae, .arr 1 true 7 u0)])):Km rows Q .ret ⟨[(4, .own Ae)],[(Ae, .arr 1 true 7 u0)]⟩:=kr (by kernel_rfl) h
theorem Yr(rows:LL)(Q:QQ)(u0:LL)(h:
 (Pw u0 (Km rows Q))):Fv rows Q (.exit 0) ⟨[(0, .own Ae)],[(Ae, .arr 1 true 7 u0)]⟩:=kr (by kernel_rfl) h
theorem Y0(rows:LL)(Q:QQ)(t4_2 t4_3:Nat)(u0:LL)(h:
 (Q (.win Ae 7 t4_2 t4_3) [(Ae, .arr 1 true 7 u0)])):Fv rows Q .ret ⟨[(4, .win Ae 7 t4_2 t4_3)],[(Ae, .arr 1 true 7 u0)]⟩:=kr (by kernel_rfl) h
theorem Zr(K:KK)(t5:Int)(u0:LL)(h:
 (Hr t5 u0 K)):Ho K .normal ⟨[(0, .own Ae),(1, .fn Cc []),(5,Ai t5)],[(Ae, .arr 1 true 7 u0)]⟩:=kr (by kernel_rfl) h
theorem Zk(K:KK)(t4_2 t4_3:Nat)(u0:LL)(h:
 (K .ret ⟨[(4, .win Ae 7 t4_2 t4_3)],[(Ae, .arr 1 true 7 u0)]⟩)):Hm K .ret ⟨[(4, .win Ae 7 t4_2 t4_3)],[(Ae, .arr 1 true 7 u0)]⟩:=kr (by kernel_rfl) h
theorem Zc(K:KK)(t5:Int)(u0:LL)(h:
 (Pp t5 u0 (Hm K))):Kn K (.exit (2)) ⟨[(0, .own Ae),(5,Ai t5)],[(Ae, .arr 1 true 7 u0)]⟩:=kr (by kernel_rfl) h
theorem Oe(K:KK)(t5:Int)(t6_2 t6_3:Nat)(t7:Int)(u0:LL)(h:
 (Ha t5 t6_2 t6_3 t7 u0 K)):Ko K .normal ⟨[(0, .own Ae),(1, .fn Cc []),(5,Ai t5),(6, .win Ae 7 t6_2 t6_3),(7,Ai t7)],[(Ae, .arr 1 true 7 u0)]⟩:=kr (by kernel_rfl) h
theorem Ac2:Bt E0.P 98 ac_slices_CompactFunc_Pair.code A8 [.tmp 4]:=Bl _ _ Try.f98 [(5,[0,1,5],[]),(7,[0],[]),(12,[0,1,5,6,7],[]),(14,[0,5],[]),(18,[0,1,5,6,7],[0,1,5,6,7]),(19,[0,5],[0,1,5]),(22,[0,1,5],[0,1,5]),(23,[0],[])] [4] _ 66 Try.func98 (by kernel_rfl) (by kernel_rfl) (by kernel_rfl) (by kernel_rfl)
theorem Aaw(rows:LL)(Q:QQ)(h:
 (Br (decide ((↑rows.length:Int)<(2:Int)))
 (Q (.win Ae 7 0 rows.length) [(Ae, .arr 1 true 7 rows)])
 (Hr ((1:Int)) rows (Fv rows Q)))):Call E0.P Ld [.own (.arg 0), .fn Cc []] [(.arg 0, .arr 1 true 7 rows)] Q:=Bd (Au E0 A8) (Ba A8) 3 1 98 ac_slices_CompactFunc_Pair [.tmp 4] Ac2 _ _ Q rfl rfl (kr (by kernel_rfl) h)
noncomputable def ac_value_has:AC:=(Bf [(5,[2,4,8],[2]),(8,[2,4,12],[2]),(18,[2],[])] [2,3] (codeOf Try.f70) 0).1
abbrev Ff:Nat:=29
def Wy(t4:Int)(t8 u0:Bool)(u1 u2:Bool)(u3 u4:Bool)(K:KK):Prop:=Ar 5 E0.P Ff (Af 5 ac_value_has).code ⟨[(2, .ptr nL2 0),(4,Ai t4),(8,Ab t8)],[(nL2, .blk Bn [Ab u0,Ab u1,Ab u2,Ab u3,Ab u4])]⟩ K
def Wt(t4:Int)(t12 u0:Bool)(u1 u2:Bool)(u3 u4:Bool)(K:KK):Prop:=Ar 8 E0.P Ff (Af 8 ac_value_has).code ⟨[(2, .ptr nL2 0),(4,Ai t4),(12,Ab t12)],[(nL2, .blk Bn [Ab u0,Ab u1,Ab u2,Ab u3,Ab u4])]⟩ K
def Aj7(u0 u1:Bool)(u2 u3 u4:Bool)(K:KK):Prop:=Ar 18 E0.P Ff (Af 18 ac_value_has).code ⟨[(2, .ptr nL2 0)],[(nL2, .blk Bn [Ab u0,Ab u1,Ab u2,Ab u3,Ab u4])]⟩ K
def Ac7(Q:QQ):KK:=kE fun st=>finish 0 E0.T [.cell 2 119, .tmp 3] [] Q st
def N8(Q:QQ):KK:=kF 0 (fun st=>Ar 18 E0.P Ff (Af 18 ac_value_has).code (mask [2] st) (Ac7 Q)) fun st=>finish 0 E0.T [.cell 2 119, .tmp 3] [] Q st
def Ra(K:KK):KK:=kP [2] K
theorem Ard(t4:Int)(t8 u0:Bool)(u1 u2:Bool)(u3 u4:Bool)(K:KK)(h:
 (Br (t8)
 (K .ret ⟨[(2, .ptr nL2 0),(3,Ab true)],[(nL2, .blk Bn [Ab true,Ab false,Ab false,Ab false,Ab false])]⟩)
 (Br (decide (t4=(3:Int)))
 (Wt t4 (decide (t4=(3:Int))) u0 u1 u2 u3 u4 (Ra K))
 (Wt t4 (decide (t4=(4:Int))) u0 u1 u2 u3 u4 (Ra K))))):Wy t4 t8 u0 u1 u2 u3 u4 K:=Ay (Au E0 Ff) (Ba Ff) 3 5 (Af 5 ac_value_has) [2] _ K rfl (kr (by kernel_rfl) h)
theorem Ary(t4:Int)(t12 u0:Bool)(u1 u2:Bool)(u3 u4:Bool)(K:KK)(h:
 (Br (t12)
 (K .ret ⟨[(2, .ptr nL2 0),(3,Ab true)],[(nL2, .blk Bn [Ab false,Ab false,Ab true,Ab false,Ab false])]⟩)
 (Br (decide (t4=(5:Int)))
 (K .ret ⟨[(2, .ptr nL2 0),(3,Ab true)],[(nL2, .blk Bn [Ab false,Ab false,Ab false,Ab true,Ab false])]⟩)
 (Br (decide (t4=(6:Int)))
 (K .ret ⟨[(2, .ptr nL2 0),(3,Ab true)],[(nL2, .blk Bn [Ab false,Ab false,Ab false,Ab false,Ab true])]⟩)
 (Br (decide (t4=(7:Int)))
 (K .ret ⟨[(2, .ptr nL2 0),(3,Ab true)],[(nL2, .blk Bn [Ab true,Ab true,Ab false,Ab false,Ab false])]⟩)
 (Br (decide (t4=(8:Int)))
 (K .ret ⟨[(2, .ptr nL2 0),(3,Ab true)],[(nL2, .blk Bn [Ab false,Ab false,Ab true,Ab false,Ab true])]⟩)
 (K .normal ⟨[(2, .ptr nL2 0)],[(nL2, .blk Bn [Ab u0,Ab u1,Ab u2,Ab u3,Ab u4])]⟩))))))):Wt t4 t12 u0 u1 u2 u3 u4 K:=Ay (Au E0 Ff) (Ba Ff) 3 8 (Af 8 ac_value_has) [2] _ K rfl (kr (by kernel_rfl) h)
theorem Apx(u0 u1:Bool)(u2 u3 u4:Bool)(K:KK)(h:
 (K .ret ⟨[(2, .ptr nL2 0),(3,Ab false)],[(nL2, .blk Bn [Ab false,Ab false,Ab false,Ab false,Ab false])]⟩)):Aj7 u0 u1 u2 u3 u4 K:=Ay (Au E0 Ff) (Ba Ff) 3 18 (Af 18 ac_value_has) [] _ K rfl (kr (by kernel_rfl) h)
theorem Art(Q:QQ)(t3 u0:Bool)(u1 u2:Bool)(u3 u4:Bool)(h:
 (Q (.tup [.imm (.agg [.bool u0, .bool u1, .bool u2, .bool u3, .bool u4]),Ab t3]) [])):Ac7 Q .ret ⟨[(2, .ptr nL2 0),(3,Ab t3)],[(nL2, .blk Bn [Ab u0,Ab u1,Ab u2,Ab u3,Ab u4])]⟩:=kr (by kernel_rfl) h
theorem J5(Q:QQ)(t3 u0:Bool)(u1 u2:Bool)(u3 u4:Bool)(h:
 (Q (.tup [.imm (.agg [.bool u0, .bool u1, .bool u2, .bool u3, .bool u4]),Ab t3]) [])):N8 Q .ret ⟨[(2, .ptr nL2 0),(3,Ab t3)],[(nL2, .blk Bn [Ab u0,Ab u1,Ab u2,Ab u3,Ab u4])]⟩:=kr (by kernel_rfl) h
theorem Ass(Q:QQ)(u0 u1:Bool)(u2 u3 u4:Bool)(h:
 (Aj7 u0 u1 u2 u3 u4 (Ac7 Q))):N8 Q .normal ⟨[(2, .ptr nL2 0)],[(nL2, .blk Bn [Ab u0,Ab u1,Ab u2,Ab u3,Ab u4])]⟩:=kr (by kernel_rfl) h
theorem Mt(K:KK)(t3 u0:Bool)(u1 u2:Bool)(u3 u4:Bool)(h:
 (K .ret ⟨[(2, .ptr nL2 0),(3,Ab t3)],[(nL2, .blk Bn [Ab u0,Ab u1,Ab u2,Ab u3,Ab u4])]⟩)):Ra K .ret ⟨[(2, .ptr nL2 0),(3,Ab t3)],[(nL2, .blk Bn [Ab u0,Ab u1,Ab u2,Ab u3,Ab u4])]⟩:=kr (by kernel_rfl) h
theorem Arf(K:KK)(u0 u1:Bool)(u2 u3 u4:Bool)(h:
 (K .normal ⟨[(2, .ptr nL2 0)],[(nL2, .blk Bn [Ab u0,Ab u1,Ab u2,Ab u3,Ab u4])]⟩)):Ra K .normal ⟨[(2, .ptr nL2 0)],[(nL2, .blk Bn [Ab u0,Ab u1,Ab u2,Ab u3,Ab u4])]⟩:=kr (by kernel_rfl) h
theorem A0f:Bt E0.P 70 ac_value_has.code Ff [.cell 2 119, .tmp 3]:=Bl _ _ Try.f70 [(5,[2,4,8],[2]),(8,[2,4,12],[2]),(18,[2],[])] [2,3] _ 29 Try.func70 (by kernel_rfl) (by kernel_rfl) (by kernel_rfl) (by kernel_rfl)
theorem Avm(a0:Int)(Q:QQ)(h:
 (Br (decide (a0=(0:Int)))
 (Q (.tup [.imm (.agg [.bool false, .bool false, .bool false, .bool false, .bool false]),Ab true]) [])
 (Br (decide (a0=(1:Int)))
 (Wy a0 (decide (a0=(1:Int))) false false false false false (N8 Q))
 (Wy a0 (decide (a0=(2:Int))) false false false false false (N8 Q))))):Call E0.P Agh [Ai a0] [] Q:=Bd (Au E0 Ff) (Ba Ff) 3 0 70 ac_value_has [.cell 2 119, .tmp 3] A0f _ _ Q rfl rfl (kr (by kernel_rfl) h)
noncomputable def ac_value_plainPairs:AC:=(Bf [(6,[4,14,15,16],[]),(8,[4],[]),(14,[4],[])] [2] (codeOf Try.f71) 0).1
abbrev Dz:Nat:=35
def Ja(t14_2 t14_3:Nat)(t15 t16:Int)(u0 u1:LL)(K:KK):Prop:=Bj 6 E0.P Dz (Az 6 ac_value_plainPairs).code ⟨[(4, .own nL4),(14, .win (Nm.sub 9 nL0) 7 t14_2 t14_3),(15,Ai t15),(16,Ai t16)],[(nL4, .arr (Ag+2) true 7 u0),((Nm.sub 9 nL0), .arr 1 true 7 u1)]⟩ K
def Yd(u0:LL)(K:KK):Prop:=Ar 14 E0.P Dz (Af 14 ac_value_plainPairs).code ⟨[(4, .own nL4)],[(nL4, .arr (Ag+2) true 7 u0)]⟩ K
def Qo(Q:QQ):KK:=kE fun st=>finish 0 E0.T [.tmp 2] [] Q st
def Qm(Q:QQ):KK:=kF 0 (fun st=>Ar 14 E0.P Dz (Af 14 ac_value_plainPairs).code (mask [4] st) (Qo Q)) fun st=>finish 0 E0.T [.tmp 2] [] Q st
theorem U8(t14_2 t14_3:Nat)(t15 t16:Int)(u0 u1:LL)(K:KK)(h:
 (Br (decide (t16<t15))
 (Ao ((0:Int)≤t16∧t16<(↑t14_3:Int))
 (Ao (addN t14_2 t16.toNat<u1.length∧
 Ch
 [.str, .int .i64, .int .i64, .int .i64, .str, .sl 6 Aa,
 .sl 7 Ag]
 (List.take 7 (List.drop 0 (u1.getD (addN t14_2 t16.toNat) [])))=
 true)
 (Call E0.P J6 [.imm (.agg [.int .i64 (gI (List.take 7 (List.drop 0 (u1.getD (addN t14_2 t16.toNat) []))) 1), .int .i64 (gI (List.take 7 (List.drop 0 (u1.getD (addN t14_2 t16.toNat) []))) 2), .int .i64 (gI (List.take 7 (List.drop 0 (u1.getD (addN t14_2 t16.toNat) []))) 3), .str (gS (List.take 7 (List.drop 0 (u1.getD (addN t14_2 t16.toNat) []))) 4), .sl .any 6 (gR (List.take 7 (List.drop 0 (u1.getD (addN t14_2 t16.toNat) []))) 5), .sl .any 7 (gR (List.take 7 (List.drop 0 (u1.getD (addN t14_2 t16.toNat) []))) 6)])] [] fun r0 g0=>
 Ao (qV3 g0 r0)
 (Br (!decide (gI (Ad r0) 0=(0:Int)))
 (Ao ((u0.length+1)*104≤140737488355328∧u0.length+1≤140737488355328)
 (Ja t14_2 t14_3 t15 (IntKind.i64.wrap (t16+(1:Int))) (u0++
 [[IV.str (gS (List.take 7 (List.drop 0 (u1.getD (addN t14_2 t16.toNat) []))) 0),
 .int .i64 (gI (Ad r0) 0), .int .i64 (gI (Ad r0) 1),
 .int .i64 (gI (Ad r0) 2), .str (gS (Ad r0) 3),
 .sl SK.any 6 (gR (Ad r0) 4), .sl SK.any 7 (gR (Ad r0) 5)]]) u1 K))
 (Ja t14_2 t14_3 t15 (IntKind.i64.wrap (t16+(1:Int))) u0 u1 K)))))
 (K (.exit 0) ⟨[(4, .own nL4)],[(nL4, .arr (Ag+2) true 7 u0)]⟩))):Ja t14_2 t14_3 t15 t16 u0 u1 K:=Bo (Au E0 Dz) (Ba Dz) 3 6 (Az 6 ac_value_plainPairs) [4,14,15,16] _ K rfl (kr (by kernel_rfl) h)
theorem Agn(u0:LL)(K:KK)(h:
 (K .ret ⟨[(2, .own nL4)],[(nL4, .arr (Ag+2) true 7 u0)]⟩)):Yd u0 K:=Ay (Au E0 Dz) (Ba Dz) 3 14 (Af 14 ac_value_plainPairs) [] _ K rfl (kr (by kernel_rfl) h)
theorem Ahb(Q:QQ)(u0:LL)(h:
 (Q (Al 7 u0) [])):Qo Q .ret ⟨[(2, .own nL4)],[(nL4, .arr (Ag+2) true 7 u0)]⟩:=kr (by kernel_rfl) h
theorem Ag3(Q:QQ)(u0:LL)(h:
 (Yd u0 (Qo Q))):Qm Q (.exit 0) ⟨[(4, .own nL4)],[(nL4, .arr (Ag+2) true 7 u0)]⟩:=kr (by kernel_rfl) h
theorem Amo:Bt E0.P 71 ac_value_plainPairs.code Dz [.tmp 2]:=Bl _ _ Try.f71 [(6,[4,14,15,16],[]),(8,[4],[]),(14,[4],[])] [2] _ 35 Try.func71 (by kernel_rfl) (by kernel_rfl) (by kernel_rfl) (by kernel_rfl)
theorem Aj1(a0:LL)(Q:QQ)(h:
 (Call E0.P Q6 [Al 7 a0] [] fun r0 g0=>
 Ao (g0=[]++[(Nm.loc 0,Entry.arr 0 true 7 (Cz g0 nL0))]∧
 r0=AV.own nL0)
 (Call E0.P Jq [.own Ae, .fn Aj []] [(Ae, .arr 1 true 7 (Cz g0 nL0))] fun r1 g1=>
 Ao (qV2 g1 r1)
 (Call E0.P Ld [.own Ae, .fn Cc []] [(Ae, .arr 1 true 7 (Cz g1 Ae))] fun r2 g2=>
 Ao (g2=[(Nm.arg 0,Entry.arr 1 true 7 (Cz g2 Ae))]∧
 r2=AV.win Ae 7 (rWo r2) (rWl r2))
 (Ja (rWo r2) (rWl r2) ((↑(rWl r2):Int)) ((0:Int)) [] (Cz g2 Ae) (Qm Q)))))):Call E0.P Rz [Al 7 a0] [] Q:=Bd (Au E0 Dz) (Ba Dz) 3 0 71 ac_value_plainPairs [.tmp 2] Amo _ _ Q rfl rfl (kr (by kernel_rfl) h)
noncomputable def ac_value_Plain:AC:=(Bf [(7,[1,2,3,5],[]),(9,[1,2,3,5],[]),(11,[1,2,3,5],[]),(14,[1,2,3,5,38,39,40],[]),(16,[1,2,3,5],[]),(20,[1,2,3,5],[])] [2] (codeOf Try.f46) 0).1
abbrev Cq:Nat:=59
def R9(u0 u1 u2:Int)(u3:LB)(u4 u5:LL)(u6 u7 u8:Int)(u9:LB)(v0 v1:Bool)(v2 v3 v4:Bool)(v5 v6 v7:Int)(v8:LB)(v9 w0:LL)(w1 w2:LL)(K:KK):Prop:=Ar 7 E0.P Cq (Af 7 ac_value_Plain).code ⟨[(1, .ptr G8 0),(2, .ptr nL2 0),(3, .ptr Cx 0),(5, .ptr nL5 0)],[(G8, .blk Aa [Ai u0,Ai u1,Ai u2,As u3,Al 6 u4,Al 7 u5]),(nL2, .blk Aa [Ai u6,Ai u7,Ai u8,As u9, .own (nL2.cell 4), .own (nL2.cell 5)]),(Cx, .blk Bn [Ab v0,Ab v1,Ab v2,Ab v3,Ab v4]),(nL5, .blk Aa [Ai v5,Ai v6,Ai v7,As v8, .own (nL5.cell 4), .own (nL5.cell 5)]),((nL2.cell 4), .arr (Aa+2) true 6 v9),((nL2.cell 5), .arr (Ag+2) true 7 w0),((nL5.cell 4), .arr (Aa+2) true 6 w1),((nL5.cell 5), .arr (Ag+2) true 7 w2)]⟩ K
def Sb(u0 u1 u2:Int)(u3:LB)(u4 u5:LL)(u6 u7 u8:Int)(u9:LB)(v0 v1:Bool)(v2 v3 v4:Bool)(v5 v6 v7:Int)(v8:LB)(v9 w0:LL)(w1 w2:LL)(K:KK):Prop:=Ar 9 E0.P Cq (Af 9 ac_value_Plain).code ⟨[(1, .ptr G8 0),(2, .ptr nL2 0),(3, .ptr Cx 0),(5, .ptr nL5 0)],[(G8, .blk Aa [Ai u0,Ai u1,Ai u2,As u3,Al 6 u4,Al 7 u5]),(nL2, .blk Aa [Ai u6,Ai u7,Ai u8,As u9, .own (nL2.cell 4), .own (nL2.cell 5)]),(Cx, .blk Bn [Ab v0,Ab v1,Ab v2,Ab v3,Ab v4]),(nL5, .blk Aa [Ai v5,Ai v6,Ai v7,As v8, .own (nL5.cell 4), .own (nL5.cell 5)]),((nL2.cell 4), .arr (Aa+2) true 6 v9),((nL2.cell 5), .arr (Ag+2) true 7 w0),((nL5.cell 4), .arr (Aa+2) true 6 w1),((nL5.cell 5), .arr (Ag+2) true 7 w2)]⟩ K
def Q0(u0 u1 u2:Int)(u3:LB)(u4 u5:LL)(u6 u7 u8:Int)(u9:LB)(v0 v1:Bool)(v2 v3 v4:Bool)(v5 v6 v7:Int)(v8:LB)(v9 w0:LL)(w1 w2:LL)(K:KK):Prop:=Ar 11 E0.P Cq (Af 11 ac_value_Plain).code ⟨[(1, .ptr G8 0),(2, .ptr nL2 0),(3, .ptr Cx 0),(5, .ptr nL5 0)],[(G8, .blk Aa [Ai u0,Ai u1,Ai u2,As u3,Al 6 u4,Al 7 u5]),(nL2, .blk Aa [Ai u6,Ai u7,Ai u8,As u9, .own (nL2.cell 4), .own (nL2.cell 5)]),(Cx, .blk Bn [Ab v0,Ab v1,Ab v2,Ab v3,Ab v4]),(nL5, .blk Aa [Ai v5,Ai v6,Ai v7,As v8, .own (nL5.cell 4), .own (nL5.cell 5)]),((nL2.cell 4), .arr (Aa+2) true 6 v9),((nL2.cell 5), .arr (Ag+2) true 7 w0),((nL5.cell 4), .arr (Aa+2) true 6 w1),((nL5.cell 5), .arr (Ag+2) true 7 w2)]⟩ K
def Q4(t38r:LL)(t39 t40:Int)(u0 u1 u2:Int)(u3:LB)(u4 u5:LL)(u6 u7 u8:Int)(u9:LB)(v0 v1:Bool)(v2 v3 v4:Bool)(v5 v6 v7:Int)(v8:LB)(v9 w0:LL)(w1 w2:LL)(K:KK):Prop:=Bj 14 E0.P Cq (Az 14 ac_value_Plain).code ⟨[(1, .ptr G8 0),(2, .ptr nL2 0),(3, .ptr Cx 0),(5, .ptr nL5 0),(38,Al 6 t38r),(39,Ai t39),(40,Ai t40)],[(G8, .blk Aa [Ai u0,Ai u1,Ai u2,As u3,Al 6 u4,Al 7 u5]),(nL2, .blk Aa [Ai u6,Ai u7,Ai u8,As u9, .own (nL2.cell 4), .own (nL2.cell 5)]),(Cx, .blk Bn [Ab v0,Ab v1,Ab v2,Ab v3,Ab v4]),(nL5, .blk Aa [Ai v5,Ai v6,Ai v7,As v8, .own (nL5.cell 4), .own (nL5.cell 5)]),((nL2.cell 4), .arr (Aa+2) true 6 v9),((nL2.cell 5), .arr (Ag+2) true 7 w0),((nL5.cell 4), .arr (Aa+2) true 6 w1),((nL5.cell 5), .arr (Ag+2) true 7 w2)]⟩ K
def Qt(u0 u1 u2:Int)(u3:LB)(u4 u5:LL)(u6 u7 u8:Int)(u9:LB)(v0 v1:Bool)(v2 v3 v4:Bool)(v5 v6 v7:Int)(v8:LB)(v9 w0:LL)(w1 w2:LL)(K:KK):Prop:=Ar 20 E0.P Cq (Af 20 ac_value_Plain).code ⟨[(1, .ptr G8 0),(2, .ptr nL2 0),(3, .ptr Cx 0),(5, .ptr nL5 0)],[(G8, .blk Aa [Ai u0,Ai u1,Ai u2,As u3,Al 6 u4,Al 7 u5]),(nL2, .blk Aa [Ai u6,Ai u7,Ai u8,As u9, .own (nL2.cell 4), .own (nL2.cell 5)]),(Cx, .blk Bn [Ab v0,Ab v1,Ab v2,Ab v3,Ab v4]),(nL5, .blk Aa [Ai v5,Ai v6,Ai v7,As v8, .own (nL5.cell 4), .own (nL5.cell 5)]),((nL2.cell 4), .arr (Aa+2) true 6 v9),((nL2.cell 5), .arr (Ag+2) true 7 w0),((nL5.cell 4), .arr (Aa+2) true 6 w1),((nL5.cell 5), .arr (Ag+2) true 7 w2)]⟩ K
def Ou(Q:QQ):KK:=kE fun st=>finish 0 E0.T [.cell 2 37] [] Q st
def Fs(K:KK):KK:=kP [] K
def Zm(K:KK):KK:=kC 0 (fun st=>Ar 20 E0.P Cq (Af 20 ac_value_Plain).code (mask [1,2,3,5] st) (Fs K)) K
theorem Aoa(u0 u1 u2:Int)(u3:LB)(u4 u5:LL)(u6 u7 u8:Int)(u9:LB)(v0 v1:Bool)(v2 v3 v4:Bool)(v5 v6 v7:Int)(v8:LB)(v9 w0:LL)(w1 w2:LL)(K:KK)(h:
 (Br (v1)
 (Sb u0 u1 u2 u3 u4 u5 u6 u7 u8 u9 v0 v1 v2 v3 v4 v5 v6 u2 v8 v9 w0 w1 w2 (Fs K))
 (Sb u0 u1 u2 u3 u4 u5 u6 u7 u8 u9 v0 v1 v2 v3 v4 v5 v6 v7 v8 v9 w0 w1 w2 (Fs K)))):R9 u0 u1 u2 u3 u4 u5 u6 u7 u8 u9 v0 v1 v2 v3 v4 v5 v6 v7 v8 v9 w0 w1 w2 K:=Ay (Au E0 Cq) (Ba Cq) 3 7 (Af 7 ac_value_Plain) [] _ K rfl (kr (by kernel_rfl) h)
theorem Amx(u0 u1 u2:Int)(u3:LB)(u4 u5:LL)(u6 u7 u8:Int)(u9:LB)(v0 v1:Bool)(v2 v3 v4:Bool)(v5 v6 v7:Int)(v8:LB)(v9 w0:LL)(w1 w2:LL)(K:KK)(h:
 (Br (v2)
 (Q0 u0 u1 u2 u3 u4 u5 u6 u7 u8 u9 v0 v1 v2 v3 v4 v5 v6 v7 u3 v9 w0 w1 w2 (Fs K))
 (Q0 u0 u1 u2 u3 u4 u5 u6 u7 u8 u9 v0 v1 v2 v3 v4 v5 v6 v7 v8 v9 w0 w1 w2 (Fs K)))):Sb u0 u1 u2 u3 u4 u5 u6 u7 u8 u9 v0 v1 v2 v3 v4 v5 v6 v7 v8 v9 w0 w1 w2 K:=Ay (Au E0 Cq) (Ba Cq) 3 9 (Af 9 ac_value_Plain) [] _ K rfl (kr (by kernel_rfl) h)
theorem Amw(u0 u1 u2:Int)(u3:LB)(u4 u5:LL)(u6 u7 u8:Int)(u9:LB)(v0 v1:Bool)(v2 v3 v4:Bool)(v5 v6 v7:Int)(v8:LB)(v9 w0:LL)(w1 w2:LL)(K:KK)(h:
 (Br (v3)
 (Q4 u4 ((↑u4.length:Int)) ((0:Int)) u0 u1 u2 u3 u4 u5 u6 u7 u8 u9 v0 v1 v2 v3 v4 v5 v6 v7 v8 v9 w0 w1 w2 (Zm K))
 (Qt u0 u1 u2 u3 u4 u5 u6 u7 u8 u9 v0 v1 v2 v3 v4 v5 v6 v7 v8 v9 w0 w1 w2 (Fs K)))):Q0 u0 u1 u2 u3 u4 u5 u6 u7 u8 u9 v0 v1 v2 v3 v4 v5 v6 v7 v8 v9 w0 w1 w2 K:=Ay (Au E0 Cq) (Ba Cq) 3 11 (Af 11 ac_value_Plain) [] _ K rfl (kr (by kernel_rfl) h)
theorem Z8(t38r:LL)(t39 t40:Int)(u0 u1 u2:Int)(u3:LB)(u4 u5:LL)(u6 u7 u8:Int)(u9:LB)(v0 v1:Bool)(v2 v3 v4:Bool)(v5 v6 v7:Int)(v8:LB)(v9 w0:LL)(w1 w2:LL)(K:KK)(h:
 (Br (decide (t40<t39))
 (Ao (((0:Int)≤t40∧t40<(↑t38r.length:Int))∧
 Ch
 [.int .i64, .int .i64, .int .i64, .str, .sl 6 Aa,
 .sl 7 Ag]
 (t38r.getD t40.toNat [])=
 true)
 (Call E0.P J6 [.imm (.agg [.int .i64 (gI (t38r.getD t40.toNat []) 0), .int .i64 (gI (t38r.getD t40.toNat []) 1), .int .i64 (gI (t38r.getD t40.toNat []) 2), .str (gS (t38r.getD t40.toNat []) 3), .sl .any 6 (gR (t38r.getD t40.toNat []) 4), .sl .any 7 (gR (t38r.getD t40.toNat []) 5)])] [] fun r0 g0=>
 Ao (qV3 g0 r0)
 (Ao ((w1.length+1)*88≤140737488355328∧w1.length+1≤140737488355328)
 (Q4 t38r t39 (IntKind.i64.wrap (t40+(1:Int))) u0 u1 u2 u3 u4 u5 u6 u7 u8 u9 v0 v1 v2 v3 v4 v5 v6 v7 v8 v9 w0 (w1++
 [[IV.int .i64 (gI (Ad r0) 0), .int .i64 (gI (Ad r0) 1),
 .int .i64 (gI (Ad r0) 2), .str (gS (Ad r0) 3),
 .sl SK.any 6 (gR (Ad r0) 4), .sl SK.any 7 (gR (Ad r0) 5)]]) w2 K))))
 (K (.exit 0) ⟨[(1, .ptr G8 0),(2, .ptr nL2 0),(3, .ptr Cx 0),(5, .ptr nL5 0)],[(G8, .blk Aa [Ai u0,Ai u1,Ai u2,As u3,Al 6 u4,Al 7 u5]),(nL2, .blk Aa [Ai u6,Ai u7,Ai u8,As u9, .own (nL2.cell 4), .own (nL2.cell 5)]),(Cx, .blk Bn [Ab v0,Ab v1,Ab v2,Ab v3,Ab v4]),(nL5, .blk Aa [Ai v5,Ai v6,Ai v7,As v8, .own (nL5.cell 4), .own (nL5.cell 5)]),((nL2.cell 4), .arr (Aa+2) true 6 v9),((nL2.cell 5), .arr (Ag+2) true 7 w0),((nL5.cell 4), .arr (Aa+2) true 6 w1),((nL5.cell 5), .arr (Ag+2) true 7 w2)]⟩))):Q4 t38r t39 t40 u0 u1 u2 u3 u4 u5 u6 u7 u8 u9 v0 v1 v2 v3 v4 v5 v6 v7 v8 v9 w0 w1 w2 K:=Bo (Au E0 Cq) (Ba Cq) 3 14 (Az 14 ac_value_Plain) [1,2,3,5,38,39,40] _ K rfl (kr (by kernel_rfl) h)
theorem Amn(u0 u1 u2:Int)(u3:LB)(u4 u5:LL)(u6 u7 u8:Int)(u9:LB)(v0 v1:Bool)(v2 v3 v4:Bool)(v5 v6 v7:Int)(v8:LB)(v9 w0:LL)(w1 w2:LL)(K:KK)(h:
 (Br (v4)
 (Call E0.P Rz [Al 7 u5] [] fun r0 g0=>
 Ao (qV4 g0 r0)
 (K .ret ⟨[(2, .ptr nL2 0)],[(nL2, .blk Aa [Ai v5,Ai v6,Ai v7,As v8, .own (nL5.cell 4),Al 7 (rR r0)]),((nL5.cell 4), .arr (Aa+2) true 6 w1)]⟩))
 (K .ret ⟨[(2, .ptr nL2 0)],[(nL2, .blk Aa [Ai v5,Ai v6,Ai v7,As v8, .own (nL5.cell 4), .own (nL5.cell 5)]),((nL5.cell 4), .arr (Aa+2) true 6 w1),((nL5.cell 5), .arr (Ag+2) true 7 w2)]⟩))):Qt u0 u1 u2 u3 u4 u5 u6 u7 u8 u9 v0 v1 v2 v3 v4 v5 v6 v7 v8 v9 w0 w1 w2 K:=Ay (Au E0 Cq) (Ba Cq) 3 20 (Af 20 ac_value_Plain) [] _ K rfl (kr (by kernel_rfl) h)
theorem Ank(Q:QQ)(u0 u1 u2:Int)(u3:LB)(u4 u5:LL)(h:
 (Q (.imm (.agg [.int .i64 u0, .int .i64 u1, .int .i64 u2, .str u3, .sl .any 6 u5, .sl .any 7 u4])) [])):Ou Q .ret ⟨[(2, .ptr nL2 0)],[(nL2, .blk Aa [Ai u0,Ai u1,Ai u2,As u3, .own (nL5.cell 4),Al 7 u4]),((nL5.cell 4), .arr (Aa+2) true 6 u5)]⟩:=kr (by kernel_rfl) h
theorem An3(Q:QQ)(u0 u1 u2:Int)(u3:LB)(u4 u5:LL)(h:
 (Q (.imm (.agg [.int .i64 u0, .int .i64 u1, .int .i64 u2, .str u3, .sl .any 6 u4, .sl .any 7 u5])) [])):Ou Q .ret ⟨[(2, .ptr nL2 0)],[(nL2, .blk Aa [Ai u0,Ai u1,Ai u2,As u3, .own (nL5.cell 4), .own (nL5.cell 5)]),((nL5.cell 4), .arr (Aa+2) true 6 u4),((nL5.cell 5), .arr (Ag+2) true 7 u5)]⟩:=kr (by kernel_rfl) h
theorem An6(K:KK)(u0 u1 u2:Int)(u3:LB)(u4 u5:LL)(h:
 (K .ret ⟨[(2, .ptr nL2 0)],[(nL2, .blk Aa [Ai u0,Ai u1,Ai u2,As u3, .own (nL5.cell 4),Al 7 u4]),((nL5.cell 4), .arr (Aa+2) true 6 u5)]⟩)):Fs K .ret ⟨[(2, .ptr nL2 0)],[(nL2, .blk Aa [Ai u0,Ai u1,Ai u2,As u3, .own (nL5.cell 4),Al 7 u4]),((nL5.cell 4), .arr (Aa+2) true 6 u5)]⟩:=kr (by kernel_rfl) h
theorem Am9(K:KK)(u0 u1 u2:Int)(u3:LB)(u4 u5:LL)(h:
 (K .ret ⟨[(2, .ptr nL2 0)],[(nL2, .blk Aa [Ai u0,Ai u1,Ai u2,As u3, .own (nL5.cell 4), .own (nL5.cell 5)]),((nL5.cell 4), .arr (Aa+2) true 6 u4),((nL5.cell 5), .arr (Ag+2) true 7 u5)]⟩)):Fs K .ret ⟨[(2, .ptr nL2 0)],[(nL2, .blk Aa [Ai u0,Ai u1,Ai u2,As u3, .own (nL5.cell 4), .own (nL5.cell 5)]),((nL5.cell 4), .arr (Aa+2) true 6 u4),((nL5.cell 5), .arr (Ag+2) true 7 u5)]⟩:=kr (by kernel_rfl) h
theorem Am3(K:KK)(u0 u1 u2:Int)(u3:LB)(u4 u5:LL)(u6 u7 u8:Int)(u9:LB)(v0 v1:Bool)(v2 v3 v4:Bool)(v5 v6 v7:Int)(v8:LB)(v9 w0:LL)(w1 w2:LL)(h:
 (Qt u0 u1 u2 u3 u4 u5 u6 u7 u8 u9 v0 v1 v2 v3 v4 v5 v6 v7 v8 v9 w0 w1 w2 (Fs K))):Zm K (.exit 0) ⟨[(1, .ptr G8 0),(2, .ptr nL2 0),(3, .ptr Cx 0),(5, .ptr nL5 0)],[(G8, .blk Aa [Ai u0,Ai u1,Ai u2,As u3,Al 6 u4,Al 7 u5]),(nL2, .blk Aa [Ai u6,Ai u7,Ai u8,As u9, .own (nL2.cell 4), .own (nL2.cell 5)]),(Cx, .blk Bn [Ab v0,Ab v1,Ab v2,Ab v3,Ab v4]),(nL5, .blk Aa [Ai v5,Ai v6,Ai v7,As v8, .own (nL5.cell 4), .own (nL5.cell 5)]),((nL2.cell 4), .arr (Aa+2) true 6 v9),((nL2.cell 5), .arr (Ag+2) true 7 w0),((nL5.cell 4), .arr (Aa+2) true 6 w1),((nL5.cell 5), .arr (Ag+2) true 7 w2)]⟩:=kr (by kernel_rfl) h
theorem Aw0:Bt E0.P 46 ac_value_Plain.code Cq [.cell 2 37]:=Bl _ _ Try.f46 [(7,[1,2,3,5],[]),(9,[1,2,3,5],[]),(11,[1,2,3,5],[]),(14,[1,2,3,5,38,39,40],[]),(16,[1,2,3,5],[]),(20,[1,2,3,5],[])] [2] _ 59 Try.func46 (by kernel_rfl) (by kernel_rfl) (by kernel_rfl) (by kernel_rfl)
theorem Aqs(a0_0 a0_1 a0_2:Int)(a0_3:LB)(a0_4 a0_5:LL)(Q:QQ)(h:
 (Call E0.P Agh [Ai a0_0] [] fun r0 g0=>
 Ao (g0=[]∧
 r0=
 .tup
 [.imm
 (IV.agg
 [.bool (gB (Ad (rT r0 0)) 0), .bool (gB (Ad (rT r0 0)) 1),
 .bool (gB (Ad (rT r0 0)) 2), .bool (gB (Ad (rT r0 0)) 3),
 .bool (gB (Ad (rT r0 0)) 4)]),
 .imm (.bool (rB (rT r0 1)))])
 (Br (!rB (rT r0 1))
 (Q (.imm (.agg [.int .i64 0, .int .i64 0, .int .i64 0, .str [], .sl .any 6 [], .sl .any 7 []])) [])
 (Br (gB (Ad (rT r0 0)) 0)
 (R9 a0_0 a0_1 a0_2 a0_3 a0_4 a0_5 ((0:Int)) ((0:Int)) ((0:Int)) [] (gB (Ad (rT r0 0)) 0) (gB (Ad (rT r0 0)) 1) (gB (Ad (rT r0 0)) 2) (gB (Ad (rT r0 0)) 3) (gB (Ad (rT r0 0)) 4) a0_0 a0_1 ((0:Int)) [] [] [] [] [] (Ou Q))
 (R9 a0_0 a0_1 a0_2 a0_3 a0_4 a0_5 ((0:Int)) ((0:Int)) ((0:Int)) [] (gB (Ad (rT r0 0)) 0) (gB (Ad (rT r0 0)) 1) (gB (Ad (rT r0 0)) 2) (gB (Ad (rT r0 0)) 3) (gB (Ad (rT r0 0)) 4) a0_0 ((0:Int)) ((0:Int)) [] [] [] [] [] (Ou Q)))))):Call E0.P J6 [.imm (.agg [.int .i64 a0_0, .int .i64 a0_1, .int .i64 a0_2, .str a0_3, .sl .any 6 a0_4, .sl .any 7 a0_5])] [] Q:=Bd (Au E0 Cq) (Ba Cq) 3 0 46 ac_value_Plain [.cell 2 37] Aw0 _ _ Q rfl rfl (kr (by kernel_rfl) h)
noncomputable def ac_r16_put:AC:=(Bf [(4,[0,3,5,6,7],[]),(6,[3,5,6],[]),(13,[0,3,5,6,7],[0,3,5,6,7]),(14,[0,3,5,6,7],[0,3,5,6,7]),(15,[3,5,6],[])] [4] (codeOf Try.f101) 0).1
abbrev Eg:Nat:=54
def Aa8(t0r:LL)(t6:Bool)(t7:Int)(u0:LB)(u1 u2 u3:Int)(u4:LB)(u5 u6 u7:LL)(K:KK):Prop:=Bj 4 E0.P Eg (Az 4 ac_r16_put).code ⟨[(0,Al 7 t0r),(3, .ptr Cx 0),(5, .own Ql),(6,Ab t6),(7,Ai t7)],[(Cx, .blk Ag [As u0,Ai u1,Ai u2,Ai u3,As u4,Al 6 u5,Al 7 u6]),(Ql, .arr 0 true 7 u7)]⟩ K
def Zl(t0r:LL)(t6:Bool)(t7:Int)(u0:LB)(u1 u2 u3:Int)(u4:LB)(u5 u6 u7:LL)(K:KK):Prop:=Ar 13 E0.P Eg (Af 13 ac_r16_put).code ⟨[(0,Al 7 t0r),(3, .ptr Cx 0),(5, .own Ql),(6,Ab t6),(7,Ai t7)],[(Cx, .blk Ag [As u0,Ai u1,Ai u2,Ai u3,As u4,Al 6 u5,Al 7 u6]),(Ql, .arr 0 true 7 u7)]⟩ K
def Anz(t6:Bool)(u0:LB)(u1 u2 u3:Int)(u4:LB)(u5 u6 u7:LL)(K:KK):Prop:=Ar 15 E0.P Eg (Af 15 ac_r16_put).code ⟨[(3, .ptr Cx 0),(5, .own Ql),(6,Ab t6)],[(Cx, .blk Ag [As u0,Ai u1,Ai u2,Ai u3,As u4,Al 6 u5,Al 7 u6]),(Ql, .arr 0 true 7 u7)]⟩ K
def Ano(t0r:LL)(t6:Bool)(t7:Int)(u0:LB)(u1 u2 u3:Int)(u4:LB)(u5 u6 u7:LL)(K:KK):Prop:=Ar 14 E0.P Eg (Af 14 ac_r16_put).code ⟨[(0,Al 7 t0r),(3, .ptr Cx 0),(5, .own Ql),(6,Ab t6),(7,Ai t7)],[(Cx, .blk Ag [As u0,Ai u1,Ai u2,Ai u3,As u4,Al 6 u5,Al 7 u6]),(Ql, .arr 0 true 7 u7)]⟩ K
def Aik(Q:QQ):KK:=kE fun st=>finish 0 E0.T [.tmp 4] [] Q st
def Aip(Q:QQ):KK:=kF 0 (fun st=>Ar 15 E0.P Eg (Af 15 ac_r16_put).code (mask [3,5,6] st) (Aik Q)) fun st=>finish 0 E0.T [.tmp 4] [] Q st
def Ah5(K:KK):Ex→St→Prop
 | .normal,st=>Bj 4 E0.P Eg (Az 4 ac_r16_put).code (mask [0,3,5,6,7] st) K
 | .exit i,st=>K (.exit i) st
 | .goto i,st=>K (.goto i) st
 | .ret,st=>K .ret st
def Aba(K:KK):KK:=kC 1 (fun st=>Ar 14 E0.P Eg (Af 14 ac_r16_put).code (mask [0,3,5,6,7] st) (Ah5 K)) K
theorem Ai9(t0r:LL)(t6:Bool)(t7:Int)(u0:LB)(u1 u2 u3:Int)(u4:LB)(u5 u6 u7:LL)(K:KK)(h:
 (Br (decide (t7<(↑t0r.length:Int)))
 (Ao (((0:Int)≤t7∧t7<(↑t0r.length:Int))∧
 Ch
 [.str, .int .i64, .int .i64, .int .i64, .str, .sl 6 Aa,
 .sl 7 Ag]
 (t0r.getD t7.toNat [])=
 true)
 (Br (gS (t0r.getD t7.toNat []) 0 == u0)
 (K .ret ⟨[(4,Al 7 t0r)],[]⟩)
 (Ao ((!t6)=true→
 ((0:Int)≤t7∧t7<(↑t0r.length:Int))∧
 Ch
 [.str, .int .i64, .int .i64, .int .i64, .str, .sl 6 Aa,
 .sl 7 Ag]
 (t0r.getD t7.toNat [])=
 true)
 (Let (bif !t6 then Op.bytesLess u0 (gS (t0r.getD t7.toNat []) 0)else false) fun x0=>
 Br (x0)
 (Ao ((u7.length+1)*104≤140737488355328∧u7.length+1≤140737488355328)
 (Zl t0r true t7 u0 u1 u2 u3 u4 u5 u6 (u7++
 [[IV.str u0, .int .i64 u1, .int .i64 u2, .int .i64 u3, .str u4,
 .sl SK.any 6 u5, .sl SK.any 7 u6]]) (Aba K)))
 (Zl t0r t6 t7 u0 u1 u2 u3 u4 u5 u6 u7 (Aba K))))))
 (K (.exit 0) ⟨[(3, .ptr Cx 0),(5, .own Ql),(6,Ab t6)],[(Cx, .blk Ag [As u0,Ai u1,Ai u2,Ai u3,As u4,Al 6 u5,Al 7 u6]),(Ql, .arr 0 true 7 u7)]⟩))):Aa8 t0r t6 t7 u0 u1 u2 u3 u4 u5 u6 u7 K:=Bo (Au E0 Eg) (Ba Eg) 3 4 (Az 4 ac_r16_put) [0,3,5,6,7] _ K rfl (kr (by kernel_rfl) h)
theorem At6(t0r:LL)(t6:Bool)(t7:Int)(u0:LB)(u1 u2 u3:Int)(u4:LB)(u5 u6 u7:LL)(K:KK)(h:
 (Ao (((0:Int)≤t7∧t7<(↑t0r.length:Int))∧
 Ch
 [.str, .int .i64, .int .i64, .int .i64, .str, .sl 6 Aa,
 .sl 7 Ag]
 (t0r.getD t7.toNat [])=
 true)
 (Ao ((u7.length+1)*104≤140737488355328∧u7.length+1≤140737488355328)
 (K .normal ⟨[(0,Al 7 t0r),(3, .ptr Cx 0),(5, .own Ql),(6,Ab t6),(7,Ai t7)],[(Cx, .blk Ag [As u0,Ai u1,Ai u2,Ai u3,As u4,Al 6 u5,Al 7 u6]),(Ql, .arr 0 true 7 (u7++
 [[IV.str (gS (t0r.getD t7.toNat []) 0), .int .i64 (gI (t0r.getD t7.toNat []) 1),
 .int .i64 (gI (t0r.getD t7.toNat []) 2),
 .int .i64 (gI (t0r.getD t7.toNat []) 3), .str (gS (t0r.getD t7.toNat []) 4),
 .sl SK.any 6 (gR (t0r.getD t7.toNat []) 5),
 .sl SK.any 7 (gR (t0r.getD t7.toNat []) 6)]]))]⟩)))):Zl t0r t6 t7 u0 u1 u2 u3 u4 u5 u6 u7 K:=Ay (Au E0 Eg) (Ba Eg) 3 13 (Af 13 ac_r16_put) [0,3,5,6,7] _ K rfl (kr (by kernel_rfl) h)
theorem Atd(t6:Bool)(u0:LB)(u1 u2 u3:Int)(u4:LB)(u5 u6 u7:LL)(K:KK)(h:
 (Br (!t6)
 (Ao ((u7.length+1)*104≤140737488355328∧u7.length+1≤140737488355328)
 (K .ret ⟨[(4, .own Ql)],[(Ql, .arr 0 true 7 (u7++
 [[IV.str u0, .int .i64 u1, .int .i64 u2, .int .i64 u3, .str u4,
 .sl SK.any 6 u5, .sl SK.any 7 u6]]))]⟩))
 (K .ret ⟨[(4, .own Ql)],[(Ql, .arr 0 true 7 u7)]⟩))):Anz t6 u0 u1 u2 u3 u4 u5 u6 u7 K:=Ay (Au E0 Eg) (Ba Eg) 3 15 (Af 15 ac_r16_put) [] _ K rfl (kr (by kernel_rfl) h)
theorem Atk(t0r:LL)(t6:Bool)(t7:Int)(u0:LB)(u1 u2 u3:Int)(u4:LB)(u5 u6 u7:LL)(K:KK)(h:
 (K .normal ⟨[(0,Al 7 t0r),(3, .ptr Cx 0),(5, .own Ql),(6,Ab t6),(7,Ai (IntKind.i64.wrap (t7+(1:Int))))],[(Cx, .blk Ag [As u0,Ai u1,Ai u2,Ai u3,As u4,Al 6 u5,Al 7 u6]),(Ql, .arr 0 true 7 u7)]⟩)):Ano t0r t6 t7 u0 u1 u2 u3 u4 u5 u6 u7 K:=Ay (Au E0 Eg) (Ba Eg) 3 14 (Af 14 ac_r16_put) [0,3,5,6,7] _ K rfl (kr (by kernel_rfl) h)
theorem Ajc(Q:QQ)(u0:LL)(h:
 (Q (Al 7 u0) [])):Aik Q .ret ⟨[(4, .own Ql)],[(Ql, .arr 0 true 7 u0)]⟩:=kr (by kernel_rfl) h
theorem Avp(Q:QQ)(t4r:LL)(h:
 (Q (Al 7 t4r) [])):Aip Q .ret ⟨[(4,Al 7 t4r)],[]⟩:=kr (by kernel_rfl) h
theorem Avx(Q:QQ)(t6:Bool)(u0:LB)(u1 u2 u3:Int)(u4:LB)(u5 u6 u7:LL)(h:
 (Anz t6 u0 u1 u2 u3 u4 u5 u6 u7 (Aik Q))):Aip Q (.exit 0) ⟨[(3, .ptr Cx 0),(5, .own Ql),(6,Ab t6)],[(Cx, .blk Ag [As u0,Ai u1,Ai u2,Ai u3,As u4,Al 6 u5,Al 7 u6]),(Ql, .arr 0 true 7 u7)]⟩:=kr (by kernel_rfl) h
theorem Ava(K:KK)(t0r:LL)(t6:Bool)(t7:Int)(u0:LB)(u1 u2 u3:Int)(u4:LB)(u5 u6 u7:LL)(h:
 (Aa8 t0r t6 t7 u0 u1 u2 u3 u4 u5 u6 u7 K)):Ah5 K .normal ⟨[(0,Al 7 t0r),(3, .ptr Cx 0),(5, .own Ql),(6,Ab t6),(7,Ai t7)],[(Cx, .blk Ag [As u0,Ai u1,Ai u2,Ai u3,As u4,Al 6 u5,Al 7 u6]),(Ql, .arr 0 true 7 u7)]⟩:=kr (by kernel_rfl) h
theorem Av1(K:KK)(t0r:LL)(t6:Bool)(t7:Int)(u0:LB)(u1 u2 u3:Int)(u4:LB)(u5 u6 u7:LL)(h:
 (Ano t0r t6 t7 u0 u1 u2 u3 u4 u5 u6 u7 (Ah5 K))):Aba K .normal ⟨[(0,Al 7 t0r),(3, .ptr Cx 0),(5, .own Ql),(6,Ab t6),(7,Ai t7)],[(Cx, .blk Ag [As u0,Ai u1,Ai u2,Ai u3,As u4,Al 6 u5,Al 7 u6]),(Ql, .arr 0 true 7 u7)]⟩:=kr (by kernel_rfl) h
theorem A41:Bt E0.P 101 ac_r16_put.code Eg [.tmp 4]:=Bl _ _ Try.f101 [(4,[0,3,5,6,7],[]),(6,[3,5,6],[]),(13,[0,3,5,6,7],[0,3,5,6,7]),(14,[0,3,5,6,7],[0,3,5,6,7]),(15,[3,5,6],[])] [4] _ 54 Try.func101 (by kernel_rfl) (by kernel_rfl) (by kernel_rfl) (by kernel_rfl)
theorem Ay4(a0:LL)(a1_0:LB)(a1_1 a1_2 a1_3:Int)(a1_4:LB)(a1_5 a1_6:LL)(Q:QQ)(h:
 (Aa8 a0 false ((0:Int)) a1_0 a1_1 a1_2 a1_3 a1_4 a1_5 a1_6 [] (Aip Q))):Call E0.P Alg [Al 7 a0, .imm (.agg [.str a1_0, .int .i64 a1_1, .int .i64 a1_2, .int .i64 a1_3, .str a1_4, .sl .any 6 a1_5, .sl .any 7 a1_6])] [] Q:=Bd (Au E0 Eg) (Ba Eg) 3 0 101 ac_r16_put [.tmp 4] A41 _ _ Q rfl rfl (kr (by kernel_rfl) h)
noncomputable def ac_r16_pairs:AC:=(Bf [(3,[0,4,1000003],[]),(5,[1000003],[]),(8,[1000003],[]),(11,[5,6,1000003],[]),(13,[5],[]),(16,[5,6,1000003],[5,6,1000003]),(17,[5],[])] [2] (codeOf Try.f76) 0).1
abbrev Cv:Nat:=50
def Ww(t0r:LL)(t4:Int)(t3r:LL)(K:KK):Prop:=Bj 3 E0.P Cv (Az 3 ac_r16_pairs).code ⟨[(0,Al 7 t0r),(4,Ai t4),(3,Al 7 t3r)],[]⟩ K
def Al9(t3r:LL)(K:KK):Prop:=Ar 8 E0.P Cv (Af 8 ac_r16_pairs).code ⟨[(3,Al 7 t3r)],[]⟩ K
def Ux(t6:Int)(t3r u0:LL)(K:KK):Prop:=Bj 11 E0.P Cv (Az 11 ac_r16_pairs).code ⟨[(5, .own Nu),(6,Ai t6),(3,Al 7 t3r)],[(Nu, .arr 0 true 7 u0)]⟩ K
def Aad(t6:Int)(t3r u0:LL)(K:KK):Prop:=Ar 16 E0.P Cv (Af 16 ac_r16_pairs).code ⟨[(5, .own Nu),(6,Ai t6),(3,Al 7 t3r)],[(Nu, .arr 0 true 7 u0)]⟩ K
def Ajq(u0:LL)(K:KK):Prop:=Ar 17 E0.P Cv (Af 17 ac_r16_pairs).code ⟨[(5, .own Nu)],[(Nu, .arr 0 true 7 u0)]⟩ K
def Acn(Q:QQ):KK:=kE fun st=>finish 0 E0.T [.tmp 2] [] Q st
def Al6(Q:QQ):KK:=kF 0 (fun st=>Ar 8 E0.P Cv (Af 8 ac_r16_pairs).code (mask [1000003] st) (Acn Q)) fun st=>finish 0 E0.T [.tmp 2] [] Q st
def Acc(K:KK):KK:=kP [] K
def Alz(K:KK):KK:=kC 2 (fun st=>Ar 17 E0.P Cv (Af 17 ac_r16_pairs).code (mask [5] st) (Acc K)) K
def Adh(K:KK):Ex→St→Prop
 | .normal,st=>Bj 11 E0.P Cv (Az 11 ac_r16_pairs).code (mask [5,6,1000003] st) K
 | .exit i,st=>K (.exit i) st
 | .goto i,st=>K (.goto i) st
 | .ret,st=>K .ret st
theorem Af7(t0r:LL)(t4:Int)(t3r:LL)(K:KK)(h:
 (Br (decide (t4<(↑t0r.length:Int)))
 (Ao (((0:Int)≤t4∧t4<(↑t0r.length:Int))∧
 Ch
 [.str, .int .i64, .int .i64, .int .i64, .str, .sl 6 Aa,
 .sl 7 Ag]
 (t0r.getD t4.toNat [])=
 true)
 (Ao (((0:Int)≤t4∧t4<(↑t0r.length:Int))∧
 Ch
 [.str, .int .i64, .int .i64, .int .i64, .str, .sl 6 Aa,
 .sl 7 Ag]
 (t0r.getD t4.toNat [])=
 true)
 (Call E0.P M9 [.imm (.agg [.int .i64 (gI (t0r.getD t4.toNat []) 1), .int .i64 (gI (t0r.getD t4.toNat []) 2), .int .i64 (gI (t0r.getD t4.toNat []) 3), .str (gS (t0r.getD t4.toNat []) 4), .sl .any 6 (gR (t0r.getD t4.toNat []) 5), .sl .any 7 (gR (t0r.getD t4.toNat []) 6)])] [] fun r0 g0=>
 Ao (qV3 g0 r0)
 (Call E0.P Alg [Al 7 t3r, .imm (.agg [.str (gS (t0r.getD t4.toNat []) 0), .int .i64 (gI (Ad r0) 0), .int .i64 (gI (Ad r0) 1), .int .i64 (gI (Ad r0) 2), .str (gS (Ad r0) 3), .sl .any 6 (gR (Ad r0) 4), .sl .any 7 (gR (Ad r0) 5)])] [] fun r1 g1=>
 Ao (qV4 g1 r1)
 (Ww t0r (IntKind.i64.wrap (t4+(1:Int))) (rR r1) K)))))
 (K (.exit 0) ⟨[(3,Al 7 t3r)],[]⟩))):Ww t0r t4 t3r K:=Bo (Au E0 Cv) (Ba Cv) 3 3 (Az 3 ac_r16_pairs) [0,4,1000003] _ K rfl (kr (by kernel_rfl) h)
theorem Aqx(t3r:LL)(K:KK)(h:
 (Ux ((0:Int)) t3r [] (Alz K))):Al9 t3r K:=Ay (Au E0 Cv) (Ba Cv) 3 8 (Af 8 ac_r16_pairs) [] _ K rfl (kr (by kernel_rfl) h)
theorem Adk(t6:Int)(t3r u0:LL)(K:KK)(h:
 (Br (decide (t6<(↑t3r.length:Int)))
 (Ao (((0:Int)≤t6∧t6<(↑t3r.length:Int))∧
 Ch
 [.str, .int .i64, .int .i64, .int .i64, .str, .sl 6 Aa,
 .sl 7 Ag]
 (t3r.getD t6.toNat [])=
 true)
 (Br (!decide (gI (t3r.getD t6.toNat []) 1=(0:Int)))
 (Ao (((0:Int)≤t6∧t6<(↑t3r.length:Int))∧
 Ch
 [.str, .int .i64, .int .i64, .int .i64, .str, .sl 6 Aa,
 .sl 7 Ag]
 (t3r.getD t6.toNat [])=
 true)
 (Ao ((u0.length+1)*104≤140737488355328∧u0.length+1≤140737488355328)
 (Aad t6 t3r (u0++
 [[IV.str (gS (t3r.getD t6.toNat []) 0), .int .i64 (gI (t3r.getD t6.toNat []) 1),
 .int .i64 (gI (t3r.getD t6.toNat []) 2),
 .int .i64 (gI (t3r.getD t6.toNat []) 3), .str (gS (t3r.getD t6.toNat []) 4),
 .sl SK.any 6 (gR (t3r.getD t6.toNat []) 5),
 .sl SK.any 7 (gR (t3r.getD t6.toNat []) 6)]]) (Adh K))))
 (Aad t6 t3r u0 (Adh K))))
 (K (.exit (2)) ⟨[(5, .own Nu)],[(Nu, .arr 0 true 7 u0)]⟩))):Ux t6 t3r u0 K:=Bo (Au E0 Cv) (Ba Cv) 3 11 (Az 11 ac_r16_pairs) [5,6,1000003] _ K rfl (kr (by kernel_rfl) h)
theorem Adl(t6:Int)(t3r u0:LL)(K:KK)(h:
 (K .normal ⟨[(5, .own Nu),(6,Ai (IntKind.i64.wrap (t6+(1:Int)))),(3,Al 7 t3r)],[(Nu, .arr 0 true 7 u0)]⟩)):Aad t6 t3r u0 K:=Ay (Au E0 Cv) (Ba Cv) 3 16 (Af 16 ac_r16_pairs) [5,6,1000003] _ K rfl (kr (by kernel_rfl) h)
theorem Apz(u0:LL)(K:KK)(h:
 (K .ret ⟨[(2, .own Nu)],[(Nu, .arr 0 true 7 u0)]⟩)):Ajq u0 K:=Ay (Au E0 Cv) (Ba Cv) 3 17 (Af 17 ac_r16_pairs) [] _ K rfl (kr (by kernel_rfl) h)
theorem Aqh(Q:QQ)(u0:LL)(h:
 (Q (Al 7 u0) [])):Acn Q .ret ⟨[(2, .own Nu)],[(Nu, .arr 0 true 7 u0)]⟩:=kr (by kernel_rfl) h
theorem Asq(Q:QQ)(t3r:LL)(h:
 (Al9 t3r (Acn Q))):Al6 Q (.exit 0) ⟨[(3,Al 7 t3r)],[]⟩:=kr (by kernel_rfl) h
theorem Arz(K:KK)(u0:LL)(h:
 (K .ret ⟨[(2, .own Nu)],[(Nu, .arr 0 true 7 u0)]⟩)):Acc K .ret ⟨[(2, .own Nu)],[(Nu, .arr 0 true 7 u0)]⟩:=kr (by kernel_rfl) h
theorem Asr(K:KK)(u0:LL)(h:
 (Ajq u0 (Acc K))):Alz K (.exit (2)) ⟨[(5, .own Nu)],[(Nu, .arr 0 true 7 u0)]⟩:=kr (by kernel_rfl) h
theorem Afa(K:KK)(t6:Int)(t3r u0:LL)(h:
 (Ux t6 t3r u0 K)):Adh K .normal ⟨[(5, .own Nu),(6,Ai t6),(3,Al 7 t3r)],[(Nu, .arr 0 true 7 u0)]⟩:=kr (by kernel_rfl) h
theorem A0t:Bt E0.P 76 ac_r16_pairs.code Cv [.tmp 2]:=Bl _ _ Try.f76 [(3,[0,4,1000003],[]),(5,[1000003],[]),(8,[1000003],[]),(11,[5,6,1000003],[]),(13,[5],[]),(16,[5,6,1000003],[5,6,1000003]),(17,[5],[])] [2] _ 50 Try.func76 (by kernel_rfl) (by kernel_rfl) (by kernel_rfl) (by kernel_rfl)
theorem Avd(a0:LL)(Q:QQ)(h:
 (Ww a0 ((0:Int)) [] (Al6 Q))):Call E0.P Zi [Al 7 a0] [] Q:=Bd (Au E0 Cv) (Ba Cv) 3 0 76 ac_r16_pairs [.tmp 2] A0t _ _ Q rfl rfl (kr (by kernel_rfl) h)
noncomputable def ac_r16_Plain:AC:=(Bf [(4,[1,2,10,12,1000003],[2,1000003]),(6,[1,2,10,18,1000003],[2,1000003]),(10,[1,2,4,5,1000003],[]),(12,[2,4,1000003],[]),(15,[2,4,1000003],[2,1000003]),(20,[2,1000003],[])] [2] (codeOf Try.f48) 0).1
abbrev Cy:Nat:=69
def Wq(t10:Int)(t12:Bool)(u0 u1 u2:Int)(u3:LB)(u4 u5:LL)(u6 u7 u8:Int)(u9:LB)(v0 v1 v2:Int)(v3:LB)(v4 v5:LL)(v6 v7:LL)(K:KK):Prop:=Ar 4 E0.P Cy (Af 4 ac_r16_Plain).code ⟨[(1, .ptr G8 0),(2, .ptr nL2 0),(10,Ai t10),(12,Ab t12),(3, .ptr Cx 0)],[(G8, .blk Aa [Ai u0,Ai u1,Ai u2,As u3,Al 6 u4,Al 7 u5]),(nL2, .blk Aa [Ai u6,Ai u7,Ai u8,As u9, .own (nL2.cell 4), .own (nL2.cell 5)]),(Cx, .blk Aa [Ai v0,Ai v1,Ai v2,As v3,Al 6 v4,Al 7 v5]),((nL2.cell 4), .arr (Aa+2) true 6 v6),((nL2.cell 5), .arr (Ag+2) true 7 v7)]⟩ K
def Xd(t10:Int)(t18:Bool)(u0 u1 u2:Int)(u3:LB)(u4 u5:LL)(u6 u7 u8:Int)(u9:LB)(v0 v1 v2:Int)(v3:LB)(v4 v5:LL)(v6 v7:LL)(K:KK):Prop:=Ar 6 E0.P Cy (Af 6 ac_r16_Plain).code ⟨[(1, .ptr G8 0),(2, .ptr nL2 0),(10,Ai t10),(18,Ab t18),(3, .ptr Cx 0)],[(G8, .blk Aa [Ai u0,Ai u1,Ai u2,As u3,Al 6 u4,Al 7 u5]),(nL2, .blk Aa [Ai u6,Ai u7,Ai u8,As u9, .own (nL2.cell 4), .own (nL2.cell 5)]),(Cx, .blk Aa [Ai v0,Ai v1,Ai v2,As v3,Al 6 v4,Al 7 v5]),((nL2.cell 4), .arr (Aa+2) true 6 v6),((nL2.cell 5), .arr (Ag+2) true 7 v7)]⟩ K
def Um(t5 u0:Int)(u1 u2:Int)(u3:LB)(u4 u5:LL)(u6 u7 u8:Int)(u9:LB)(v0:LL)(v1 v2 v3:Int)(v4:LB)(v5 v6:LL)(v7 v8:LL)(K:KK):Prop:=Bj 10 E0.P Cy (Az 10 ac_r16_Plain).code ⟨[(1, .ptr G8 0),(2, .ptr nL2 0),(4, .own Ane),(5,Ai t5),(3, .ptr Cx 0)],[(G8, .blk Aa [Ai u0,Ai u1,Ai u2,As u3,Al 6 u4,Al 7 u5]),(nL2, .blk Aa [Ai u6,Ai u7,Ai u8,As u9, .own (nL2.cell 4), .own (nL2.cell 5)]),(Ane, .arr 0 true 6 v0),(Cx, .blk Aa [Ai v1,Ai v2,Ai v3,As v4,Al 6 v5,Al 7 v6]),((nL2.cell 4), .arr (Aa+2) true 6 v7),((nL2.cell 5), .arr (Ag+2) true 7 v8)]⟩ K
def Ajo(u0 u1 u2:Int)(u3:LB)(u4 u5 u6:Int)(u7:LB)(u8 u9:LL)(v0 v1:LL)(K:KK):Prop:=Ar 20 E0.P Cy (Af 20 ac_r16_Plain).code ⟨[(2, .ptr nL2 0),(3, .ptr Cx 0)],[(nL2, .blk Aa [Ai u0,Ai u1,Ai u2,As u3, .own (nL2.cell 4), .own (nL2.cell 5)]),(Cx, .blk Aa [Ai u4,Ai u5,Ai u6,As u7,Al 6 u8,Al 7 u9]),((nL2.cell 4), .arr (Aa+2) true 6 v0),((nL2.cell 5), .arr (Ag+2) true 7 v1)]⟩ K
def Aj6(u0 u1 u2:Int)(u3:LB)(u4:LL)(u5 u6 u7:Int)(u8:LB)(u9 v0:LL)(v1 v2:LL)(K:KK):Prop:=Ar 15 E0.P Cy (Af 15 ac_r16_Plain).code ⟨[(2, .ptr nL2 0),(4, .own Ane),(3, .ptr Cx 0)],[(nL2, .blk Aa [Ai u0,Ai u1,Ai u2,As u3, .own (nL2.cell 4), .own (nL2.cell 5)]),(Ane, .arr 0 true 6 u4),(Cx, .blk Aa [Ai u5,Ai u6,Ai u7,As u8,Al 6 u9,Al 7 v0]),((nL2.cell 4), .arr (Aa+2) true 6 v1),((nL2.cell 5), .arr (Ag+2) true 7 v2)]⟩ K
def Ac5(Q:QQ):KK:=kE fun st=>finish 0 E0.T [.cell 2 37] [] Q st
def Lg(Q:QQ):KK:=kF 0 (fun st=>Ar 20 E0.P Cy (Af 20 ac_r16_Plain).code (mask [2,1000003] st) (Ac5 Q)) fun st=>finish 0 E0.T [.cell 2 37] [] Q st
def Ji(K:KK):KK:=kP [2,1000003] K
def Acy(K:KK):KK:=kC 1 (fun st=>Ar 15 E0.P Cy (Af 15 ac_r16_Plain).code (mask [2,4,1000003] st) (Ji K)) K
theorem Ar0(t10:Int)(t12:Bool)(u0 u1 u2:Int)(u3:LB)(u4 u5:LL)(u6 u7 u8:Int)(u9:LB)(v0 v1 v2:Int)(v3:LB)(v4 v5:LL)(v6 v7:LL)(K:KK)(h:
 (Br (t12)
 (K .normal ⟨[(2, .ptr nL2 0),(3, .ptr Cx 0)],[(nL2, .blk Aa [Ai u6,Ai u7,Ai u8,As u9, .own (nL2.cell 4), .own (nL2.cell 5)]),(Cx, .blk Aa [Ai v0,Ai u1,Ai v2,As v3,Al 6 v4,Al 7 v5]),((nL2.cell 4), .arr (Aa+2) true 6 v6),((nL2.cell 5), .arr (Ag+2) true 7 v7)]⟩)
 (Br (decide (t10=(3:Int)))
 (Xd t10 (decide (t10=(3:Int))) u0 u1 u2 u3 u4 u5 u6 u7 u8 u9 v0 v1 v2 v3 v4 v5 v6 v7 (Ji K))
 (Xd t10 (decide (t10=(4:Int))) u0 u1 u2 u3 u4 u5 u6 u7 u8 u9 v0 v1 v2 v3 v4 v5 v6 v7 (Ji K))))):Wq t10 t12 u0 u1 u2 u3 u4 u5 u6 u7 u8 u9 v0 v1 v2 v3 v4 v5 v6 v7 K:=Ay (Au E0 Cy) (Ba Cy) 3 4 (Af 4 ac_r16_Plain) [2,1000003] _ K rfl (kr (by kernel_rfl) h)
theorem Ar6(t10:Int)(t18:Bool)(u0 u1 u2:Int)(u3:LB)(u4 u5:LL)(u6 u7 u8:Int)(u9:LB)(v0 v1 v2:Int)(v3:LB)(v4 v5:LL)(v6 v7:LL)(K:KK)(h:
 (Br (t18)
 (K .normal ⟨[(2, .ptr nL2 0),(3, .ptr Cx 0)],[(nL2, .blk Aa [Ai u6,Ai u7,Ai u8,As u9, .own (nL2.cell 4), .own (nL2.cell 5)]),(Cx, .blk Aa [Ai v0,Ai v1,Ai v2,As u3,Al 6 v4,Al 7 v5]),((nL2.cell 4), .arr (Aa+2) true 6 v6),((nL2.cell 5), .arr (Ag+2) true 7 v7)]⟩)
 (Br (decide (t10=(5:Int)))
 (Um ((0:Int)) u0 u1 u2 u3 u4 u5 u6 u7 u8 u9 [] v0 v1 v2 v3 v4 v5 v6 v7 (Acy K))
 (Br (decide (t10=(6:Int)))
 (Call E0.P Zi [Al 7 u5] [] fun r0 g0=>
 Ao (qV4 g0 r0)
 (K .normal ⟨[(2, .ptr nL2 0),(3, .ptr Cx 0)],[(nL2, .blk Aa [Ai u6,Ai u7,Ai u8,As u9, .own (nL2.cell 4), .own (nL2.cell 5)]),(Cx, .blk Aa [Ai v0,Ai v1,Ai v2,As v3,Al 6 v4,Al 7 (rR r0)]),((nL2.cell 4), .arr (Aa+2) true 6 v6),((nL2.cell 5), .arr (Ag+2) true 7 v7)]⟩))
 (Br (decide (t10=(7:Int)))
 (K .normal ⟨[(2, .ptr nL2 0),(3, .ptr Cx 0)],[(nL2, .blk Aa [Ai u6,Ai u7,Ai u8,As u9, .own (nL2.cell 4), .own (nL2.cell 5)]),(Cx, .blk Aa [Ai v0,Ai u1,Ai u2,As v3,Al 6 v4,Al 7 v5]),((nL2.cell 4), .arr (Aa+2) true 6 v6),((nL2.cell 5), .arr (Ag+2) true 7 v7)]⟩)
 (Br (decide (t10=(8:Int)))
 (Call E0.P Zi [Al 7 u5] [] fun r1 g1=>
 Ao (qV4 g1 r1)
 (K .normal ⟨[(2, .ptr nL2 0),(3, .ptr Cx 0)],[(nL2, .blk Aa [Ai u6,Ai u7,Ai u8,As u9, .own (nL2.cell 4), .own (nL2.cell 5)]),(Cx, .blk Aa [Ai v0,Ai v1,Ai v2,As u3,Al 6 v4,Al 7 (rR r1)]),((nL2.cell 4), .arr (Aa+2) true 6 v6),((nL2.cell 5), .arr (Ag+2) true 7 v7)]⟩))
 (K .ret ⟨[(2, .ptr nL2 0)],[(nL2, .blk Aa [Ai 0,Ai 0,Ai 0, .imm (.str []), .own (nL2.cell 4), .own (nL2.cell 5)]),((nL2.cell 4), .arr (Aa+2) true 6 []),((nL2.cell 5), .arr (Ag+2) true 7 [])]⟩))))))):Xd t10 t18 u0 u1 u2 u3 u4 u5 u6 u7 u8 u9 v0 v1 v2 v3 v4 v5 v6 v7 K:=Ay (Au E0 Cy) (Ba Cy) 3 6 (Af 6 ac_r16_Plain) [2,1000003] _ K rfl (kr (by kernel_rfl) h)
theorem Adt(t5 u0:Int)(u1 u2:Int)(u3:LB)(u4 u5:LL)(u6 u7 u8:Int)(u9:LB)(v0:LL)(v1 v2 v3:Int)(v4:LB)(v5 v6:LL)(v7 v8:LL)(K:KK)(h:
 (Br (decide (t5<(↑u4.length:Int)))
 (Ao (((0:Int)≤t5∧t5<(↑u4.length:Int))∧
 Ch
 [.int .i64, .int .i64, .int .i64, .str, .sl 6 Aa,
 .sl 7 Ag]
 (u4.getD t5.toNat [])=
 true)
 (Call E0.P M9 [.imm (.agg [.int .i64 (gI (u4.getD t5.toNat []) 0), .int .i64 (gI (u4.getD t5.toNat []) 1), .int .i64 (gI (u4.getD t5.toNat []) 2), .str (gS (u4.getD t5.toNat []) 3), .sl .any 6 (gR (u4.getD t5.toNat []) 4), .sl .any 7 (gR (u4.getD t5.toNat []) 5)])] [] fun r0 g0=>
 Ao (qV3 g0 r0)
 (Ao ((v0.length+1)*88≤140737488355328∧v0.length+1≤140737488355328)
 (Um (IntKind.i64.wrap (t5+(1:Int))) u0 u1 u2 u3 u4 u5 u6 u7 u8 u9 (v0++
 [[IV.int .i64 (gI (Ad r0) 0), .int .i64 (gI (Ad r0) 1),
 .int .i64 (gI (Ad r0) 2), .str (gS (Ad r0) 3),
 .sl SK.any 6 (gR (Ad r0) 4), .sl SK.any 7 (gR (Ad r0) 5)]]) v1 v2 v3 v4 v5 v6 v7 v8 K))))
 (K (.exit (1)) ⟨[(2, .ptr nL2 0),(4, .own Ane),(3, .ptr Cx 0)],[(nL2, .blk Aa [Ai u6,Ai u7,Ai u8,As u9, .own (nL2.cell 4), .own (nL2.cell 5)]),(Ane, .arr 0 true 6 v0),(Cx, .blk Aa [Ai v1,Ai v2,Ai v3,As v4,Al 6 v5,Al 7 v6]),((nL2.cell 4), .arr (Aa+2) true 6 v7),((nL2.cell 5), .arr (Ag+2) true 7 v8)]⟩))):Um t5 u0 u1 u2 u3 u4 u5 u6 u7 u8 u9 v0 v1 v2 v3 v4 v5 v6 v7 v8 K:=Bo (Au E0 Cy) (Ba Cy) 3 10 (Az 10 ac_r16_Plain) [1,2,4,5,1000003] _ K rfl (kr (by kernel_rfl) h)
theorem Apo(u0 u1 u2:Int)(u3:LB)(u4 u5 u6:Int)(u7:LB)(u8 u9:LL)(v0 v1:LL)(K:KK)(h:
 (K .ret ⟨[(2, .ptr nL2 0)],[(nL2, .blk Aa [Ai u4,Ai u5,Ai u6,As u7,Al 6 u8,Al 7 u9])]⟩)):Ajo u0 u1 u2 u3 u4 u5 u6 u7 u8 u9 v0 v1 K:=Ay (Au E0 Cy) (Ba Cy) 3 20 (Af 20 ac_r16_Plain) [] _ K rfl (kr (by kernel_rfl) h)
theorem Ao8(u0 u1 u2:Int)(u3:LB)(u4:LL)(u5 u6 u7:Int)(u8:LB)(u9 v0:LL)(v1 v2:LL)(K:KK)(h:
 (K .normal ⟨[(2, .ptr nL2 0),(3, .ptr Cx 0)],[(nL2, .blk Aa [Ai u0,Ai u1,Ai u2,As u3, .own (nL2.cell 4), .own (nL2.cell 5)]),(Cx, .blk Aa [Ai u5,Ai u6,Ai u7,As u8,Al 6 u4,Al 7 v0]),((nL2.cell 4), .arr (Aa+2) true 6 v1),((nL2.cell 5), .arr (Ag+2) true 7 v2)]⟩)):Aj6 u0 u1 u2 u3 u4 u5 u6 u7 u8 u9 v0 v1 v2 K:=Ay (Au E0 Cy) (Ba Cy) 3 15 (Af 15 ac_r16_Plain) [2,1000003] _ K rfl (kr (by kernel_rfl) h)
theorem Arh(Q:QQ)(u0 u1 u2:Int)(u3:LB)(u4 u5:LL)(h:
 (Q (.imm (.agg [.int .i64 u0, .int .i64 u1, .int .i64 u2, .str u3, .sl .any 6 u4, .sl .any 7 u5])) [])):Ac5 Q .ret ⟨[(2, .ptr nL2 0)],[(nL2, .blk Aa [Ai u0,Ai u1,Ai u2,As u3,Al 6 u4,Al 7 u5])]⟩:=kr (by kernel_rfl) h
theorem Aq4(Q:QQ)(u0 u1 u2:Int)(u3:LB)(u4 u5 u6:Int)(u7:LB)(u8 u9:LL)(v0 v1:LL)(h:
 (Ajo u0 u1 u2 u3 u4 u5 u6 u7 u8 u9 v0 v1 (Ac5 Q))):Lg Q .normal ⟨[(2, .ptr nL2 0),(3, .ptr Cx 0)],[(nL2, .blk Aa [Ai u0,Ai u1,Ai u2,As u3, .own (nL2.cell 4), .own (nL2.cell 5)]),(Cx, .blk Aa [Ai u4,Ai u5,Ai u6,As u7,Al 6 u8,Al 7 u9]),((nL2.cell 4), .arr (Aa+2) true 6 v0),((nL2.cell 5), .arr (Ag+2) true 7 v1)]⟩:=kr (by kernel_rfl) h
theorem Aqo(Q:QQ)(u0 u1 u2:Int)(u3:LB)(u4 u5:LL)(h:
 (Q (.imm (.agg [.int .i64 u0, .int .i64 u1, .int .i64 u2, .str u3, .sl .any 6 u4, .sl .any 7 u5])) [])):Lg Q .ret ⟨[(2, .ptr nL2 0)],[(nL2, .blk Aa [Ai u0,Ai u1,Ai u2,As u3, .own (nL2.cell 4), .own (nL2.cell 5)]),((nL2.cell 4), .arr (Aa+2) true 6 u4),((nL2.cell 5), .arr (Ag+2) true 7 u5)]⟩:=kr (by kernel_rfl) h
theorem Aqd(K:KK)(u0 u1 u2:Int)(u3:LB)(u4 u5 u6:Int)(u7:LB)(u8 u9:LL)(v0 v1:LL)(h:
 (K .normal ⟨[(2, .ptr nL2 0),(3, .ptr Cx 0)],[(nL2, .blk Aa [Ai u0,Ai u1,Ai u2,As u3, .own (nL2.cell 4), .own (nL2.cell 5)]),(Cx, .blk Aa [Ai u4,Ai u5,Ai u6,As u7,Al 6 u8,Al 7 u9]),((nL2.cell 4), .arr (Aa+2) true 6 v0),((nL2.cell 5), .arr (Ag+2) true 7 v1)]⟩)):Ji K .normal ⟨[(2, .ptr nL2 0),(3, .ptr Cx 0)],[(nL2, .blk Aa [Ai u0,Ai u1,Ai u2,As u3, .own (nL2.cell 4), .own (nL2.cell 5)]),(Cx, .blk Aa [Ai u4,Ai u5,Ai u6,As u7,Al 6 u8,Al 7 u9]),((nL2.cell 4), .arr (Aa+2) true 6 v0),((nL2.cell 5), .arr (Ag+2) true 7 v1)]⟩:=kr (by kernel_rfl) h
theorem Ar9(K:KK)(u0 u1 u2:Int)(u3:LB)(u4 u5:LL)(h:
 (K .ret ⟨[(2, .ptr nL2 0)],[(nL2, .blk Aa [Ai u0,Ai u1,Ai u2,As u3, .own (nL2.cell 4), .own (nL2.cell 5)]),((nL2.cell 4), .arr (Aa+2) true 6 u4),((nL2.cell 5), .arr (Ag+2) true 7 u5)]⟩)):Ji K .ret ⟨[(2, .ptr nL2 0)],[(nL2, .blk Aa [Ai u0,Ai u1,Ai u2,As u3, .own (nL2.cell 4), .own (nL2.cell 5)]),((nL2.cell 4), .arr (Aa+2) true 6 u4),((nL2.cell 5), .arr (Ag+2) true 7 u5)]⟩:=kr (by kernel_rfl) h
theorem Arw(K:KK)(u0 u1 u2:Int)(u3:LB)(u4:LL)(u5 u6 u7:Int)(u8:LB)(u9 v0:LL)(v1 v2:LL)(h:
 (Aj6 u0 u1 u2 u3 u4 u5 u6 u7 u8 u9 v0 v1 v2 (Ji K))):Acy K (.exit (1)) ⟨[(2, .ptr nL2 0),(4, .own Ane),(3, .ptr Cx 0)],[(nL2, .blk Aa [Ai u0,Ai u1,Ai u2,As u3, .own (nL2.cell 4), .own (nL2.cell 5)]),(Ane, .arr 0 true 6 u4),(Cx, .blk Aa [Ai u5,Ai u6,Ai u7,As u8,Al 6 u9,Al 7 v0]),((nL2.cell 4), .arr (Aa+2) true 6 v1),((nL2.cell 5), .arr (Ag+2) true 7 v2)]⟩:=kr (by kernel_rfl) h
theorem Ay9:Bt E0.P 48 ac_r16_Plain.code Cy [.cell 2 37]:=Bl _ _ Try.f48 [(4,[1,2,10,12,1000003],[2,1000003]),(6,[1,2,10,18,1000003],[2,1000003]),(10,[1,2,4,5,1000003],[]),(12,[2,4,1000003],[]),(15,[2,4,1000003],[2,1000003]),(20,[2,1000003],[])] [2] _ 69 Try.func48 (by kernel_rfl) (by kernel_rfl) (by kernel_rfl) (by kernel_rfl)
theorem Ave(a0_0 a0_1 a0_2:Int)(a0_3:LB)(a0_4 a0_5:LL)(Q:QQ)(h:
 (Br (decide (a0_0=(1:Int)))
 (Wq a0_0 (decide (a0_0=(1:Int))) a0_0 a0_1 a0_2 a0_3 a0_4 a0_5 ((0:Int)) ((0:Int)) ((0:Int)) [] a0_0 ((0:Int)) ((0:Int)) [] [] [] [] [] (Lg Q))
 (Wq a0_0 (decide (a0_0=(2:Int))) a0_0 a0_1 a0_2 a0_3 a0_4 a0_5 ((0:Int)) ((0:Int)) ((0:Int)) [] a0_0 ((0:Int)) ((0:Int)) [] [] [] [] [] (Lg Q)))):Call E0.P M9 [.imm (.agg [.int .i64 a0_0, .int .i64 a0_1, .int .i64 a0_2, .str a0_3, .sl .any 6 a0_4, .sl .any 7 a0_5])] [] Q:=Bd (Au E0 Cy) (Ba Cy) 3 0 48 ac_r16_Plain [.cell 2 37] Ay9 _ _ Q rfl rfl (kr (by kernel_rfl) h)
noncomputable def ac_r16_Equal:AC:=(Bf [(5,[2,3,5],[]),(7,[2,3],[]),(12,[2,3],[]),(14,[2,3,6],[]),(16,[],[]),(20,[2,3,6],[2,3,6]),(21,[],[])] [4] (codeOf Try.f23) 0).1
abbrev Cw:Nat:=106
def Xc(t5 u0:Int)(u1 u2:Int)(u3:LB)(u4 u5:LL)(u6 u7 u8:Int)(u9:LB)(v0 v1:LL)(K:KK):Prop:=Bj 5 E0.P Cw (Az 5 ac_r16_Equal).code ⟨[(2, .ptr nL2 0),(3, .ptr Cx 0),(5,Ai t5)],[(nL2, .blk Aa [Ai u0,Ai u1,Ai u2,As u3,Al 6 u4,Al 7 u5]),(Cx, .blk Aa [Ai u6,Ai u7,Ai u8,As u9,Al 6 v0,Al 7 v1])]⟩ K
def Ajh(u0 u1 u2:Int)(u3:LB)(u4 u5:LL)(u6 u7 u8:Int)(u9:LB)(v0 v1:LL)(K:KK):Prop:=Ar 12 E0.P Cw (Af 12 ac_r16_Equal).code ⟨[(2, .ptr nL2 0),(3, .ptr Cx 0)],[(nL2, .blk Aa [Ai u0,Ai u1,Ai u2,As u3,Al 6 u4,Al 7 u5]),(Cx, .blk Aa [Ai u6,Ai u7,Ai u8,As u9,Al 6 v0,Al 7 v1])]⟩ K
def Tz(t6 u0:Int)(u1 u2:Int)(u3:LB)(u4 u5:LL)(u6 u7 u8:Int)(u9:LB)(v0 v1:LL)(K:KK):Prop:=Bj 14 E0.P Cw (Az 14 ac_r16_Equal).code ⟨[(2, .ptr nL2 0),(3, .ptr Cx 0),(6,Ai t6)],[(nL2, .blk Aa [Ai u0,Ai u1,Ai u2,As u3,Al 6 u4,Al 7 u5]),(Cx, .blk Aa [Ai u6,Ai u7,Ai u8,As u9,Al 6 v0,Al 7 v1])]⟩ K
def Uw(t6 u0:Int)(u1 u2:Int)(u3:LB)(u4 u5:LL)(u6 u7 u8:Int)(u9:LB)(v0 v1:LL)(K:KK):Prop:=Ar 20 E0.P Cw (Af 20 ac_r16_Equal).code ⟨[(2, .ptr nL2 0),(3, .ptr Cx 0),(6,Ai t6)],[(nL2, .blk Aa [Ai u0,Ai u1,Ai u2,As u3,Al 6 u4,Al 7 u5]),(Cx, .blk Aa [Ai u6,Ai u7,Ai u8,As u9,Al 6 v0,Al 7 v1])]⟩ K
def Aju(K:KK):Prop:=Ar 21 E0.P Cw (Af 21 ac_r16_Equal).code ⟨[],[]⟩ K
def Ac3(Q:QQ):KK:=kE fun st=>finish 0 E0.T [.tmp 4] [] Q st
def Ack(Q:QQ):KK:=kF 0 (fun st=>Ar 12 E0.P Cw (Af 12 ac_r16_Equal).code (mask [2,3] st) (Ac3 Q)) fun st=>finish 0 E0.T [.tmp 4] [] Q st
def Acz(K:KK):KK:=kP [] K
def Ac6(K:KK):KK:=kC 2 (fun st=>Ar 21 E0.P Cw (Af 21 ac_r16_Equal).code (mask [] st) (Acz K)) K
def Wn(K:KK):Ex→St→Prop
 | .normal,st=>Bj 14 E0.P Cw (Az 14 ac_r16_Equal).code (mask [2,3,6] st) K
 | .exit i,st=>K (.exit i) st
 | .goto i,st=>K (.goto i) st
 | .ret,st=>K .ret st
theorem Aex(t5 u0:Int)(u1 u2:Int)(u3:LB)(u4 u5:LL)(u6 u7 u8:Int)(u9:LB)(v0 v1:LL)(K:KK)(h:
 (Br (decide (t5<(↑u4.length:Int)))
 (Ao (((0:Int)≤t5∧t5<(↑u4.length:Int))∧
 Ch
 [.int .i64, .int .i64, .int .i64, .str, .sl 6 Aa,
 .sl 7 Ag]
 (u4.getD t5.toNat [])=
 true)
 (Ao (((0:Int)≤t5∧t5<(↑v0.length:Int))∧
 Ch
 [.int .i64, .int .i64, .int .i64, .str, .sl 6 Aa,
 .sl 7 Ag]
 (v0.getD t5.toNat [])=
 true)
 (Call E0.P Iz [.imm (.agg [.int .i64 (gI (u4.getD t5.toNat []) 0), .int .i64 (gI (u4.getD t5.toNat []) 1), .int .i64 (gI (u4.getD t5.toNat []) 2), .str (gS (u4.getD t5.toNat []) 3), .sl .any 6 (gR (u4.getD t5.toNat []) 4), .sl .any 7 (gR (u4.getD t5.toNat []) 5)]), .imm (.agg [.int .i64 (gI (v0.getD t5.toNat []) 0), .int .i64 (gI (v0.getD t5.toNat []) 1), .int .i64 (gI (v0.getD t5.toNat []) 2), .str (gS (v0.getD t5.toNat []) 3), .sl .any 6 (gR (v0.getD t5.toNat []) 4), .sl .any 7 (gR (v0.getD t5.toNat []) 5)])] [] fun r0 g0=>
 Ao (qV0 g0 r0)
 (Br (!rB r0)
 (K .ret ⟨[(4,Ab false)],[]⟩)
 (Xc (IntKind.i64.wrap (t5+(1:Int))) u0 u1 u2 u3 u4 u5 u6 u7 u8 u9 v0 v1 K)))))
 (K (.exit 0) ⟨[(2, .ptr nL2 0),(3, .ptr Cx 0)],[(nL2, .blk Aa [Ai u0,Ai u1,Ai u2,As u3,Al 6 u4,Al 7 u5]),(Cx, .blk Aa [Ai u6,Ai u7,Ai u8,As u9,Al 6 v0,Al 7 v1])]⟩))):Xc t5 u0 u1 u2 u3 u4 u5 u6 u7 u8 u9 v0 v1 K:=Bo (Au E0 Cw) (Ba Cw) 3 5 (Az 5 ac_r16_Equal) [2,3,5] _ K rfl (kr (by kernel_rfl) h)
theorem App(u0 u1 u2:Int)(u3:LB)(u4 u5:LL)(u6 u7 u8:Int)(u9:LB)(v0 v1:LL)(K:KK)(h:
 (Tz ((0:Int)) u0 u1 u2 u3 u4 u5 u6 u7 u8 u9 v0 v1 (Ac6 K))):Ajh u0 u1 u2 u3 u4 u5 u6 u7 u8 u9 v0 v1 K:=Ay (Au E0 Cw) (Ba Cw) 3 12 (Af 12 ac_r16_Equal) [] _ K rfl (kr (by kernel_rfl) h)
theorem Adu(t6 u0:Int)(u1 u2:Int)(u3:LB)(u4 u5:LL)(u6 u7 u8:Int)(u9:LB)(v0 v1:LL)(K:KK)(h:
 (Br (decide (t6<(↑u5.length:Int)))
 (Ao (((0:Int)≤t6∧t6<(↑u5.length:Int))∧
 Ch
 [.str, .int .i64, .int .i64, .int .i64, .str, .sl 6 Aa,
 .sl 7 Ag]
 (u5.getD t6.toNat [])=
 true)
 (Ao (((0:Int)≤t6∧t6<(↑v1.length:Int))∧
 Ch
 [.str, .int .i64, .int .i64, .int .i64, .str, .sl 6 Aa,
 .sl 7 Ag]
 (v1.getD t6.toNat [])=
 true)
 (Ao ((!gS (u5.getD t6.toNat []) 0 == gS (v1.getD t6.toNat []) 0)=false→
 ((0:Int)≤t6∧t6<(↑u5.length:Int))∧
 Ch
 [.str, .int .i64, .int .i64, .int .i64, .str, .sl 6 Aa,
 .sl 7 Ag]
 (u5.getD t6.toNat [])=
 true)
 (Ao ((!gS (u5.getD t6.toNat []) 0 == gS (v1.getD t6.toNat []) 0)=false→
 ((0:Int)≤t6∧t6<(↑v1.length:Int))∧
 Ch
 [.str, .int .i64, .int .i64, .int .i64, .str, .sl 6 Aa,
 .sl 7 Ag]
 (v1.getD t6.toNat [])=
 true)
 (Br ((!gS (u5.getD t6.toNat []) 0 == gS (v1.getD t6.toNat []) 0) == false)
 (Call E0.P Iz [.imm (.agg [.int .i64 (gI (u5.getD t6.toNat []) 1), .int .i64 (gI (u5.getD t6.toNat []) 2), .int .i64 (gI (u5.getD t6.toNat []) 3), .str (gS (u5.getD t6.toNat []) 4), .sl .any 6 (gR (u5.getD t6.toNat []) 5), .sl .any 7 (gR (u5.getD t6.toNat []) 6)]), .imm (.agg [.int .i64 (gI (v1.getD t6.toNat []) 1), .int .i64 (gI (v1.getD t6.toNat []) 2), .int .i64 (gI (v1.getD t6.toNat []) 3), .str (gS (v1.getD t6.toNat []) 4), .sl .any 6 (gR (v1.getD t6.toNat []) 5), .sl .any 7 (gR (v1.getD t6.toNat []) 6)])] [] fun r0 g0=>
 Ao (qV0 g0 r0)
 (Let (!rB r0) fun x1=>
 Br (x1)
 (K .ret ⟨[(4,Ab false)],[]⟩)
 (Uw t6 u0 u1 u2 u3 u4 u5 u6 u7 u8 u9 v0 v1 (Wn K))))
 (Ao ((!false)=true)
 (Let (true) fun x2=>
 Br (x2)
 (K .ret ⟨[(4,Ab false)],[]⟩)
 (Uw t6 u0 u1 u2 u3 u4 u5 u6 u7 u8 u9 v0 v1 (Wn K)))))))))
 (K (.exit (2)) ⟨[],[]⟩))):Tz t6 u0 u1 u2 u3 u4 u5 u6 u7 u8 u9 v0 v1 K:=Bo (Au E0 Cw) (Ba Cw) 3 14 (Az 14 ac_r16_Equal) [2,3,6] _ K rfl (kr (by kernel_rfl) h)
theorem Apk(t6 u0:Int)(u1 u2:Int)(u3:LB)(u4 u5:LL)(u6 u7 u8:Int)(u9:LB)(v0 v1:LL)(K:KK)(h:
 (K .normal ⟨[(2, .ptr nL2 0),(3, .ptr Cx 0),(6,Ai (IntKind.i64.wrap (t6+(1:Int))))],[(nL2, .blk Aa [Ai u0,Ai u1,Ai u2,As u3,Al 6 u4,Al 7 u5]),(Cx, .blk Aa [Ai u6,Ai u7,Ai u8,As u9,Al 6 v0,Al 7 v1])]⟩)):Uw t6 u0 u1 u2 u3 u4 u5 u6 u7 u8 u9 v0 v1 K:=Ay (Au E0 Cw) (Ba Cw) 3 20 (Af 20 ac_r16_Equal) [2,3,6] _ K rfl (kr (by kernel_rfl) h)
theorem Apu(K:KK)(h:
 (K .ret ⟨[(4,Ab true)],[]⟩)):Aju K:=Ay (Au E0 Cw) (Ba Cw) 3 21 (Af 21 ac_r16_Equal) [] _ K rfl (kr (by kernel_rfl) h)
theorem Ae8(Q:QQ)(t4:Bool)(h:
 (Q (Ab t4) [])):Ac3 Q .ret ⟨[(4,Ab t4)],[]⟩:=kr (by kernel_rfl) h
theorem Ark(Q:QQ)(t4:Bool)(h:
 (Q (Ab t4) [])):Ack Q .ret ⟨[(4,Ab t4)],[]⟩:=kr (by kernel_rfl) h
theorem Asp(Q:QQ)(u0 u1 u2:Int)(u3:LB)(u4 u5:LL)(u6 u7 u8:Int)(u9:LB)(v0 v1:LL)(h:
 (Ajh u0 u1 u2 u3 u4 u5 u6 u7 u8 u9 v0 v1 (Ac3 Q))):Ack Q (.exit 0) ⟨[(2, .ptr nL2 0),(3, .ptr Cx 0)],[(nL2, .blk Aa [Ai u0,Ai u1,Ai u2,As u3,Al 6 u4,Al 7 u5]),(Cx, .blk Aa [Ai u6,Ai u7,Ai u8,As u9,Al 6 v0,Al 7 v1])]⟩:=kr (by kernel_rfl) h
theorem Aqf(K:KK)(t4:Bool)(h:
 (K .ret ⟨[(4,Ab t4)],[]⟩)):Acz K .ret ⟨[(4,Ab t4)],[]⟩:=kr (by kernel_rfl) h
theorem Asg(K:KK)(t4:Bool)(h:
 (K .ret ⟨[(4,Ab t4)],[]⟩)):Ac6 K .ret ⟨[(4,Ab t4)],[]⟩:=kr (by kernel_rfl) h
theorem Arx(K:KK)(h:
 (Aju (Acz K))):Ac6 K (.exit (2)) ⟨[],[]⟩:=kr (by kernel_rfl) h
theorem Asa(K:KK)(t6 u0:Int)(u1 u2:Int)(u3:LB)(u4 u5:LL)(u6 u7 u8:Int)(u9:LB)(v0 v1:LL)(h:
 (Tz t6 u0 u1 u2 u3 u4 u5 u6 u7 u8 u9 v0 v1 K)):Wn K .normal ⟨[(2, .ptr nL2 0),(3, .ptr Cx 0),(6,Ai t6)],[(nL2, .blk Aa [Ai u0,Ai u1,Ai u2,As u3,Al 6 u4,Al 7 u5]),(Cx, .blk Aa [Ai u6,Ai u7,Ai u8,As u9,Al 6 v0,Al 7 v1])]⟩:=kr (by kernel_rfl) h
theorem Azd:Bt E0.P 23 ac_r16_Equal.code Cw [.tmp 4]:=Bl _ _ Try.f23 [(5,[2,3,5],[]),(7,[2,3],[]),(12,[2,3],[]),(14,[2,3,6],[]),(16,[],[]),(20,[2,3,6],[2,3,6]),(21,[],[])] [4] _ 106 Try.func23 (by kernel_rfl) (by kernel_rfl) (by kernel_rfl) (by kernel_rfl)
theorem Av9(a0_0 a0_1 a0_2:Int)(a0_3:LB)(a0_4 a0_5:LL)(a1_0 a1_1 a1_2:Int)(a1_3:LB)(a1_4 a1_5:LL)(Q:QQ)(h:
 (Let (bif !decide (a0_0=a1_0)then true else !decide (a0_1=a1_1)) fun x0=>
 Let (bif x0 then true else !decide (a0_2=a1_2)) fun x1=>
 Let (bif x1 then true else !a0_3 == a1_3) fun x2=>
 Let (bif x2 then true else !decide ((↑a0_4.length:Int)=(↑a1_4.length:Int))) fun x3=>
 Let (bif x3 then true else !decide ((↑a0_5.length:Int)=(↑a1_5.length:Int))) fun x4=>
 Br (x4)
 (Q (Ab false) [])
 (Xc ((0:Int)) a0_0 a0_1 a0_2 a0_3 a0_4 a0_5 a1_0 a1_1 a1_2 a1_3 a1_4 a1_5 (Ack Q)))):Call E0.P Iz [.imm (.agg [.int .i64 a0_0, .int .i64 a0_1, .int .i64 a0_2, .str a0_3, .sl .any 6 a0_4, .sl .any 7 a0_5]), .imm (.agg [.int .i64 a1_0, .int .i64 a1_1, .int .i64 a1_2, .str a1_3, .sl .any 6 a1_4, .sl .any 7 a1_5])] [] Q:=Bd (Au E0 Cw) (Ba Cw) 3 0 23 ac_r16_Equal [.tmp 4] Azd _ _ Q rfl rfl (kr (by kernel_rfl) h)
end
end Go.Proofs.Sim.Se

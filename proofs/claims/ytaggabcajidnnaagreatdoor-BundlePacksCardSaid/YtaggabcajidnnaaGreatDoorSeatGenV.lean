import Derived.Test.YtaggabcajidnnaaGreatDoorSeatBase
set_option maxRecDepth 100000
set_option maxHeartbeats 4000000
namespace Go.Proofs.Sim.Se
open Go Go.Proofs Go.Proofs.Sim
noncomputable section
abbrev qV0(G:Heap)(R:AV):Prop:=G=[]∧R= .imm (.bool (rB R))
abbrev qV1(G:Heap)(R:AV):Prop:=G=[]∧R= .imm (.int .i64 (rI R))
abbrev qV2(G:Heap)(R:AV):Prop:=G=[(Nm.arg 0,Entry.arr 1 true 7 (Dk G Af))]∧R= .tup []
abbrev qV3(G:Heap)(R:AV):Prop:=G=[]∧R= .imm (IV.agg [.int .i64 (gI (Ae R) 0), .int .i64 (gI (Ae R) 1), .int .i64 (gI (Ae R) 2), .str (gS (Ae R) 3), .sl SK.any 6 (gR (Ae R) 4), .sl SK.any 7 (gR (Ae R) 5)])
abbrev qV4(G:Heap)(R:AV):Prop:=G=[]∧R= .imm (.sl SK.any 7 (rR R))
noncomputable def ac_cmp_isNaN_string:AC:=(Bf [] [2] (codeOf Tryz.f78) 0).1
abbrev Wh:Nat:=6
theorem Au6:Bo E0.P 78 ac_cmp_isNaN_string.code Wh [.tmp 2]:=Bh _ _ Tryz.f78 [] [2] _ 6 Tryz.func78 (by kernel_rfl) (by kernel_rfl) (by kernel_rfl) (by kernel_rfl)
theorem Aqc(a0:LB)(Q:QQ)(h:
 (Q (Ab (!a0 == a0)) [])):Call E0.P P7 [As a0] [] Q:=A8 (Ar E0 Wh) (Az Wh) 3 0 78 ac_cmp_isNaN_string [.tmp 2] Au6 _ _ Q rfl rfl (kr (by kernel_rfl) h)
noncomputable def ac_cmp_Compare_string:AC:=(Bf [] [4] (codeOf Tryz.f50) 0).1
abbrev Tw:Nat:=20
theorem Aq8:Bo E0.P 50 ac_cmp_Compare_string.code Tw [.tmp 4]:=Bh _ _ Tryz.f50 [] [4] _ 20 Tryz.func50 (by kernel_rfl) (by kernel_rfl) (by kernel_rfl) (by kernel_rfl)
theorem Anc(a0 a1:LB)(Q:QQ)(h:
 (Call E0.P P7 [As a0] [] fun r0 g0=>
 Ah (qV0 g0 r0)
 (Call E0.P P7 [As a1] [] fun r1 g1=>
 Ah (qV0 g1 r1)
 (Br (rB r0)
 (Br (rB r1)
 (Q (Ai 0) [])
 (Q (Ai (-1)) []))
 (Br (rB r1)
 (Q (Ai 1) [])
 (Br (Op.bytesLess a0 a1)
 (Q (Ai (-1)) [])
 (Br (!(Op.bytesLess a0 a1 || a0 == a1))
 (Q (Ai 1) [])
 (Q (Ai 0) [])))))))):Call E0.P Nj [As a0,As a1] [] Q:=A8 (Ar E0 Tw) (Az Tw) 3 0 50 ac_cmp_Compare_string [.tmp 4] Aq8 _ _ Q rfl rfl (kr (by kernel_rfl) h)
noncomputable def ac_value_plainPairs_1:AC:=(Bf [] [4] (codeOf Tryz.f49) 0).1
abbrev T9:Nat:=10
theorem Ard:Bo E0.P 49 ac_value_plainPairs_1.code T9 [.tmp 4]:=Bh _ _ Tryz.f49 [] [4] _ 10 Tryz.func49 (by kernel_rfl) (by kernel_rfl) (by kernel_rfl) (by kernel_rfl)
theorem Ani(a0_0:LB)(a0_1 a0_2 a0_3:Int)(a0_4:LB)(a0_5 a0_6:LL)(a1_0:LB)(a1_1 a1_2 a1_3:Int)(a1_4:LB)(a1_5 a1_6:LL)(Q:QQ)(h:
 (Call E0.P Nj [As a0_0,As a1_0] [] fun r0 g0=>
 Ah (qV1 g0 r0)
 (Q (Ai (rI r0)) []))):Call E0.P Ak [.imm (.agg [.str a0_0, .int .i64 a0_1, .int .i64 a0_2, .int .i64 a0_3, .str a0_4, .sl .any 6 a0_5, .sl .any 7 a0_6]), .imm (.agg [.str a1_0, .int .i64 a1_1, .int .i64 a1_2, .int .i64 a1_3, .str a1_4, .sl .any 6 a1_5, .sl .any 7 a1_6])] [] Q:=A8 (Ar E0 T9) (Az T9) 3 0 49 ac_value_plainPairs_1 [.tmp 4] Ard _ _ Q rfl rfl (kr (by kernel_rfl) h)
noncomputable def ac_value_plainPairs_2:AC:=(Bf [] [4] (codeOf Tryz.f52) 0).1
abbrev Ua:Nat:=10
theorem Arf:Bo E0.P 52 ac_value_plainPairs_2.code Ua [.tmp 4]:=Bh _ _ Tryz.f52 [] [4] _ 10 Tryz.func52 (by kernel_rfl) (by kernel_rfl) (by kernel_rfl) (by kernel_rfl)
theorem Anj(a0_0:LB)(a0_1 a0_2 a0_3:Int)(a0_4:LB)(a0_5 a0_6:LL)(a1_0:LB)(a1_1 a1_2 a1_3:Int)(a1_4:LB)(a1_5 a1_6:LL)(Q:QQ)(h:
 (Q (Ab (a0_0 == a1_0)) [])):Call E0.P Cn [.imm (.agg [.str a0_0, .int .i64 a0_1, .int .i64 a0_2, .int .i64 a0_3, .str a0_4, .sl .any 6 a0_5, .sl .any 7 a0_6]), .imm (.agg [.str a1_0, .int .i64 a1_1, .int .i64 a1_2, .int .i64 a1_3, .str a1_4, .sl .any 6 a1_5, .sl .any 7 a1_6])] [] Q:=A8 (Ar E0 Ua) (Az Ua) 3 0 52 ac_value_plainPairs_2 [.tmp 4] Arf _ _ Q rfl rfl (kr (by kernel_rfl) h)
noncomputable def ac_value_place_1:AC:=(Bf [] [4] (codeOf Tryz.f54) 0).1
abbrev Acd:Nat:=9
theorem A3b:Bo E0.P 54 ac_value_place_1.code Acd [.tmp 4]:=Bh _ _ Tryz.f54 [] [4] _ 9 Tryz.func54 (by kernel_rfl) (by kernel_rfl) (by kernel_rfl) (by kernel_rfl)
theorem Avx(a0_0:LB)(a0_1 a0_2 a0_3:Int)(a0_4:LB)(a0_5 a0_6:LL)(a1:LB)(Q:QQ)(h:
 (Call E0.P Nj [As a0_0,As a1] [] fun r0 g0=>
 Ah (qV1 g0 r0)
 (Q (Ai (rI r0)) []))):Call E0.P Eo [.imm (.agg [.str a0_0, .int .i64 a0_1, .int .i64 a0_2, .int .i64 a0_3, .str a0_4, .sl .any 6 a0_5, .sl .any 7 a0_6]),As a1] [] Q:=A8 (Ar E0 Acd) (Az Acd) 3 0 54 ac_value_place_1 [.tmp 4] A3b _ _ Q rfl rfl (kr (by kernel_rfl) h)
noncomputable def ac_slices_insertionSortCmpFunc_Pair:AC:=(Bf [(1,[0,1,2,3,8],[]),(3,[],[]),(6,[0,1,2,3,8,9],[]),(8,[0,1,2,3,8],[]),(9,[0,1,2,3,8,9],[0,1,2,3,8,9]),(11,[0,1,2,3,8],[0,1,2,3,8])] [] (codeOf Tryz.f109) 0).1
abbrev Bd:Nat:=53
def Fu(t1 t2 t8:Int)(u0:LL)(K:KK):Prop:=Bi 1 E0.P Bd (Au 1 ac_slices_insertionSortCmpFunc_Pair).code ⟨[(0, .own Af),(1,Ai t1),(2,Ai t2),(3, .fn Ak []),(8,Ai t8)],[(Af, .arr 1 true 7 u0)]⟩ K
def Fv(t1 t2:Int)(t8 t9:Int)(u0:LL)(K:KK):Prop:=Bi 6 E0.P Bd (Au 6 ac_slices_insertionSortCmpFunc_Pair).code ⟨[(0, .own Af),(1,Ai t1),(2,Ai t2),(3, .fn Ak []),(8,Ai t8),(9,Ai t9)],[(Af, .arr 1 true 7 u0)]⟩ K
def Ie(t1 t2:Int)(t8 t9:Int)(u0:LL)(K:KK):Prop:=Aq 9 E0.P Bd (Ac 9 ac_slices_insertionSortCmpFunc_Pair).code ⟨[(0, .own Af),(1,Ai t1),(2,Ai t2),(3, .fn Ak []),(8,Ai t8),(9,Ai t9)],[(Af, .arr 1 true 7 u0)]⟩ K
def Mk(t1 t2 t8:Int)(u0:LL)(K:KK):Prop:=Aq 11 E0.P Bd (Ac 11 ac_slices_insertionSortCmpFunc_Pair).code ⟨[(0, .own Af),(1,Ai t1),(2,Ai t2),(3, .fn Ak []),(8,Ai t8)],[(Af, .arr 1 true 7 u0)]⟩ K
def Fs(rows:LL)(Q:QQ):KK:=kF 0 (fun st=>finish (1) E0.T [] [(Af, .arr 1 true 7 rows)] Q st) fun st=>finish (1) E0.T [] [(Af, .arr 1 true 7 rows)] Q st
def Ea(K:KK):Ex→St→Prop
 | .normal,st=>Bi 1 E0.P Bd (Au 1 ac_slices_insertionSortCmpFunc_Pair).code (mask [0,1,2,3,8] st) K
 | .exit i,st=>K (.exit i) st
 | .goto i,st=>K (.goto i) st
 | .ret,st=>K .ret st
def Ih(K:KK):Ex→St→Prop
 | .normal,st=>Aq 11 E0.P Bd (Ac 11 ac_slices_insertionSortCmpFunc_Pair).code (mask [0,1,2,3,8] st) (Ea K)
 | .exit i,st=>(match (i.beq 2:Bool)with
 |true=>Aq 11 E0.P Bd (Ac 11 ac_slices_insertionSortCmpFunc_Pair).code (mask [0,1,2,3,8] st) (Ea K)
 |false=>(match (i.beq 1:Bool)with
 |true=>Aq 11 E0.P Bd (Ac 11 ac_slices_insertionSortCmpFunc_Pair).code (mask [0,1,2,3,8] st) (Ea K)
 |false=>K (.exit i) st))
 | .goto i,st=>K (.goto i) st
 | .ret,st=>K .ret st
def Ii(K:KK):Ex→St→Prop
 | .normal,st=>Bi 6 E0.P Bd (Au 6 ac_slices_insertionSortCmpFunc_Pair).code (mask [0,1,2,3,8,9] st) K
 | .exit i,st=>K (.exit i) st
 | .goto i,st=>K (.goto i) st
 | .ret,st=>K .ret st
theorem Ha(t1 t2 t8:Int)(u0:LL)(K:KK)(h:
 (Br (decide (t8<t2))
 (Fv t1 t2 t8 t8 u0 (Ih K))
 (K (.exit 0) ⟨[],[(Af, .arr 1 true 7 u0)]⟩))):Fu t1 t2 t8 u0 K:=Bg (Ar E0 Bd) (Az Bd) 3 1 (Au 1 ac_slices_insertionSortCmpFunc_Pair) [0,1,2,3,8] _ K rfl (kr (by kernel_rfl) h)
theorem Lb(t1 t2:Int)(t8 t9:Int)(u0:LL)(K:KK)(h:
 (Ah (decide (t1<t9)=true→(0:Int)≤t9∧t9<(↑u0.length:Int))
 (Ah (decide (t1<t9)=true→
 t9.toNat<u0.length∧
 Bt
 [.str, .int .i64, .int .i64, .int .i64, .str, .sl 6 Aa,
 .sl 7 Ag]
 (List.take 7 (List.drop 0 (u0.getD t9.toNat [])))=
 true)
 (Ah (decide (t1<t9)=true→
 (0:Int)≤IntKind.i64.wrap (t9 - (1:Int))∧IntKind.i64.wrap (t9 - (1:Int))<(↑u0.length:Int))
 (Ah (decide (t1<t9)=true→
 (IntKind.i64.wrap (t9 - (1:Int))).toNat<u0.length∧
 Bt
 [.str, .int .i64, .int .i64, .int .i64, .str, .sl 6 Aa,
 .sl 7 Ag]
 (List.take 7 (List.drop 0 (u0.getD (IntKind.i64.wrap (t9 - (1:Int))).toNat [])))=
 true)
 (Br (decide (t1<t9) == true)
 (Call E0.P Ak [.imm (.agg [.str (gS (List.take 7 (List.drop 0 (u0.getD t9.toNat []))) 0), .int .i64 (gI (List.take 7 (List.drop 0 (u0.getD t9.toNat []))) 1), .int .i64 (gI (List.take 7 (List.drop 0 (u0.getD t9.toNat []))) 2), .int .i64 (gI (List.take 7 (List.drop 0 (u0.getD t9.toNat []))) 3), .str (gS (List.take 7 (List.drop 0 (u0.getD t9.toNat []))) 4), .sl .any 6 (gR (List.take 7 (List.drop 0 (u0.getD t9.toNat []))) 5), .sl .any 7 (gR (List.take 7 (List.drop 0 (u0.getD t9.toNat []))) 6)]), .imm (.agg [.str (gS (List.take 7 (List.drop 0 (u0.getD (IntKind.i64.wrap (t9 - (1:Int))).toNat []))) 0), .int .i64 (gI (List.take 7 (List.drop 0 (u0.getD (IntKind.i64.wrap (t9 - (1:Int))).toNat []))) 1), .int .i64 (gI (List.take 7 (List.drop 0 (u0.getD (IntKind.i64.wrap (t9 - (1:Int))).toNat []))) 2), .int .i64 (gI (List.take 7 (List.drop 0 (u0.getD (IntKind.i64.wrap (t9 - (1:Int))).toNat []))) 3), .str (gS (List.take 7 (List.drop 0 (u0.getD (IntKind.i64.wrap (t9 - (1:Int))).toNat []))) 4), .sl .any 6 (gR (List.take 7 (List.drop 0 (u0.getD (IntKind.i64.wrap (t9 - (1:Int))).toNat []))) 5), .sl .any 7 (gR (List.take 7 (List.drop 0 (u0.getD (IntKind.i64.wrap (t9 - (1:Int))).toNat []))) 6)])] [] fun r0 g0=>
 Ah (qV1 g0 r0)
 (Let (decide (rI r0<(0:Int))) fun x1=>
 Br (x1)
 (Ie t1 t2 t8 t9 u0 (Ii K))
 (K (.exit (2)) ⟨[(0, .own Af),(1,Ai t1),(2,Ai t2),(3, .fn Ak []),(8,Ai t8)],[(Af, .arr 1 true 7 u0)]⟩)))
 (Ah ((!true)=false)
 (Let (false) fun x2=>
 Br (x2)
 (Ie t1 t2 t8 t9 u0 (Ii K))
 (K (.exit (2)) ⟨[(0, .own Af),(1,Ai t1),(2,Ai t2),(3, .fn Ak []),(8,Ai t8)],[(Af, .arr 1 true 7 u0)]⟩))))))))):Fv t1 t2 t8 t9 u0 K:=Bg (Ar E0 Bd) (Az Bd) 3 6 (Au 6 ac_slices_insertionSortCmpFunc_Pair) [0,1,2,3,8,9] _ K rfl (kr (by kernel_rfl) h)
theorem Vl(t1 t2:Int)(t8 t9:Int)(u0:LL)(K:KK)(h:
 (Ah ((0:Int)≤IntKind.i64.wrap (t9 - (1:Int))∧IntKind.i64.wrap (t9 - (1:Int))<(↑u0.length:Int))
 (Ah ((IntKind.i64.wrap (t9 - (1:Int))).toNat<u0.length∧
 Bt
 [.str, .int .i64, .int .i64, .int .i64, .str, .sl 6 Aa,
 .sl 7 Ag]
 (List.take 7 (List.drop 0 (u0.getD (IntKind.i64.wrap (t9 - (1:Int))).toNat [])))=
 true)
 (Ah ((0:Int)≤t9∧t9<(↑u0.length:Int))
 (Ah (t9.toNat<u0.length∧
 Bt
 [.str, .int .i64, .int .i64, .int .i64, .str, .sl 6 Aa,
 .sl 7 Ag]
 (List.take 7 (List.drop 0 (u0.getD t9.toNat [])))=
 true)
 (Ah ((0:Int)≤t9∧t9<(↑u0.length:Int))
 (Ah (t9.toNat<u0.length)
 (Ah ((0:Int)≤IntKind.i64.wrap (t9 - (1:Int))∧
 IntKind.i64.wrap (t9 - (1:Int))<
 (↑(u0.set t9.toNat
 [.str
 (gS (List.take (7:Nat) (List.drop (0:Nat) (u0.getD (IntKind.i64.wrap (t9 - (1:Int))).toNat [])))
 (0:Nat)),
 .int .i64
 (gI (List.take (7:Nat) (List.drop (0:Nat) (u0.getD (IntKind.i64.wrap (t9 - (1:Int))).toNat [])))
 (1:Nat)),
 .int .i64
 (gI (List.take (7:Nat) (List.drop (0:Nat) (u0.getD (IntKind.i64.wrap (t9 - (1:Int))).toNat [])))
 (2:Nat)),
 .int .i64
 (gI (List.take (7:Nat) (List.drop (0:Nat) (u0.getD (IntKind.i64.wrap (t9 - (1:Int))).toNat [])))
 (3:Nat)),
 .str
 (gS (List.take (7:Nat) (List.drop (0:Nat) (u0.getD (IntKind.i64.wrap (t9 - (1:Int))).toNat [])))
 (4:Nat)),
 .sl SK.any (6:Nat)
 (gR (List.take (7:Nat) (List.drop (0:Nat) (u0.getD (IntKind.i64.wrap (t9 - (1:Int))).toNat [])))
 (5:Nat)),
 .sl SK.any (7:Nat)
 (gR (List.take (7:Nat) (List.drop (0:Nat) (u0.getD (IntKind.i64.wrap (t9 - (1:Int))).toNat [])))
 (6:Nat))]).length:
 Int))
 (Ah ((IntKind.i64.wrap (t9 - (1:Int))).toNat<
 (u0.set t9.toNat
 [.str
 (gS (List.take 7 (List.drop 0 (u0.getD (IntKind.i64.wrap (t9 - (1:Int))).toNat [])))
 0),
 .int .i64
 (gI (List.take 7 (List.drop 0 (u0.getD (IntKind.i64.wrap (t9 - (1:Int))).toNat [])))
 1),
 .int .i64
 (gI (List.take 7 (List.drop 0 (u0.getD (IntKind.i64.wrap (t9 - (1:Int))).toNat [])))
 2),
 .int .i64
 (gI (List.take 7 (List.drop 0 (u0.getD (IntKind.i64.wrap (t9 - (1:Int))).toNat [])))
 3),
 .str
 (gS (List.take 7 (List.drop 0 (u0.getD (IntKind.i64.wrap (t9 - (1:Int))).toNat [])))
 4),
 .sl SK.any 6
 (gR (List.take 7 (List.drop 0 (u0.getD (IntKind.i64.wrap (t9 - (1:Int))).toNat [])))
 5),
 .sl SK.any 7
 (gR (List.take 7 (List.drop 0 (u0.getD (IntKind.i64.wrap (t9 - (1:Int))).toNat [])))
 6)]).length)
 (K .normal ⟨[(0, .own Af),(1,Ai t1),(2,Ai t2),(3, .fn Ak []),(8,Ai t8),(9,Ai (IntKind.i64.wrap (t9 - (1:Int))))],[(Af, .arr 1 true 7 ((u0.set t9.toNat
 [.str
 (gS (List.take 7 (List.drop 0 (u0.getD (IntKind.i64.wrap (t9 - (1:Int))).toNat [])))
 0),
 .int .i64
 (gI (List.take 7 (List.drop 0 (u0.getD (IntKind.i64.wrap (t9 - (1:Int))).toNat [])))
 1),
 .int .i64
 (gI (List.take 7 (List.drop 0 (u0.getD (IntKind.i64.wrap (t9 - (1:Int))).toNat [])))
 2),
 .int .i64
 (gI (List.take 7 (List.drop 0 (u0.getD (IntKind.i64.wrap (t9 - (1:Int))).toNat [])))
 3),
 .str
 (gS (List.take 7 (List.drop 0 (u0.getD (IntKind.i64.wrap (t9 - (1:Int))).toNat [])))
 4),
 .sl SK.any 6
 (gR (List.take 7 (List.drop 0 (u0.getD (IntKind.i64.wrap (t9 - (1:Int))).toNat [])))
 5),
 .sl SK.any 7
 (gR (List.take 7 (List.drop 0 (u0.getD (IntKind.i64.wrap (t9 - (1:Int))).toNat [])))
 6)]).set
 (IntKind.i64.wrap (t9 - (1:Int))).toNat
 [.str (gS (List.take 7 (List.drop 0 (u0.getD t9.toNat []))) 0),
 .int .i64 (gI (List.take 7 (List.drop 0 (u0.getD t9.toNat []))) 1),
 .int .i64 (gI (List.take 7 (List.drop 0 (u0.getD t9.toNat []))) 2),
 .int .i64 (gI (List.take 7 (List.drop 0 (u0.getD t9.toNat []))) 3),
 .str (gS (List.take 7 (List.drop 0 (u0.getD t9.toNat []))) 4),
 .sl SK.any 6 (gR (List.take 7 (List.drop 0 (u0.getD t9.toNat []))) 5),
 .sl SK.any 7 (gR (List.take 7 (List.drop 0 (u0.getD t9.toNat []))) 6)]))]⟩)))))))))):Ie t1 t2 t8 t9 u0 K:=Av (Ar E0 Bd) (Az Bd) 3 9 (Ac 9 ac_slices_insertionSortCmpFunc_Pair) [0,1,2,3,8,9] _ K rfl (kr (by kernel_rfl) h)
theorem Um(t1 t2 t8:Int)(u0:LL)(K:KK)(h:
 (K .normal ⟨[(0, .own Af),(1,Ai t1),(2,Ai t2),(3, .fn Ak []),(8,Ai (IntKind.i64.wrap (t8+(1:Int))))],[(Af, .arr 1 true 7 u0)]⟩)):Mk t1 t2 t8 u0 K:=Av (Ar E0 Bd) (Az Bd) 3 11 (Ac 11 ac_slices_insertionSortCmpFunc_Pair) [0,1,2,3,8] _ K rfl (kr (by kernel_rfl) h)
theorem La(rows:LL)(Q:QQ)(u0:LL)(h:
 (Q (.tup []) [(Af, .arr 1 true 7 u0)])):Fs rows Q (.exit 0) ⟨[],[(Af, .arr 1 true 7 u0)]⟩:=kr (by kernel_rfl) h
theorem Vq(K:KK)(t1 t2 t8:Int)(u0:LL)(h:
 (Fu t1 t2 t8 u0 K)):Ea K .normal ⟨[(0, .own Af),(1,Ai t1),(2,Ai t2),(3, .fn Ak []),(8,Ai t8)],[(Af, .arr 1 true 7 u0)]⟩:=kr (by kernel_rfl) h
theorem Vr(K:KK)(t1 t2 t8:Int)(u0:LL)(h:
 (Mk t1 t2 t8 u0 (Ea K))):Ih K (.exit (2)) ⟨[(0, .own Af),(1,Ai t1),(2,Ai t2),(3, .fn Ak []),(8,Ai t8)],[(Af, .arr 1 true 7 u0)]⟩:=kr (by kernel_rfl) h
theorem Vs(K:KK)(t1 t2:Int)(t8 t9:Int)(u0:LL)(h:
 (Fv t1 t2 t8 t9 u0 K)):Ii K .normal ⟨[(0, .own Af),(1,Ai t1),(2,Ai t2),(3, .fn Ak []),(8,Ai t8),(9,Ai t9)],[(Af, .arr 1 true 7 u0)]⟩:=kr (by kernel_rfl) h
theorem Zb:Bo E0.P 109 ac_slices_insertionSortCmpFunc_Pair.code Bd []:=Bh _ _ Tryz.f109 [(1,[0,1,2,3,8],[]),(3,[],[]),(6,[0,1,2,3,8,9],[]),(8,[0,1,2,3,8],[]),(9,[0,1,2,3,8,9],[0,1,2,3,8,9]),(11,[0,1,2,3,8],[0,1,2,3,8])] [] _ 53 Tryz.func109 (by kernel_rfl) (by kernel_rfl) (by kernel_rfl) (by kernel_rfl)
theorem Xg(rows:LL)(a1 a2:Int)(Q:QQ)(h:
 (Fu a1 a2 (IntKind.i64.wrap (a1+(1:Int))) rows (Fs rows Q))):Call E0.P F6 [.own (.arg 0),Ai a1,Ai a2, .fn Ak []] [(.arg 0, .arr 1 true 7 rows)] Q:=A8 (Ar E0 Bd) (Az Bd) 3 1 109 ac_slices_insertionSortCmpFunc_Pair [] Zb _ _ Q rfl rfl (kr (by kernel_rfl) h)
noncomputable def ac_slices_swapRangeCmpFunc_Pair:AC:=(Bf [(1,[0,1,2,3,10],[]),(3,[],[])] [] (codeOf Tryz.f156) 0).1
abbrev D8:Nat:=38
def G5(t1 t2:Int)(t3 t10:Int)(u0:LL)(K:KK):Prop:=Bi 1 E0.P D8 (Au 1 ac_slices_swapRangeCmpFunc_Pair).code ⟨[(0, .own Af),(1,Ai t1),(2,Ai t2),(3,Ai t3),(10,Ai t10)],[(Af, .arr 1 true 7 u0)]⟩ K
def Pf(rows:LL)(Q:QQ):KK:=kF 0 (fun st=>finish (1) E0.T [] [(Af, .arr 1 true 7 rows)] Q st) fun st=>finish (1) E0.T [] [(Af, .arr 1 true 7 rows)] Q st
theorem Na(t1 t2:Int)(t3 t10:Int)(u0:LL)(K:KK)(h:
 (Br (decide (t10<t3))
 (Ah ((0:Int)≤IntKind.i64.wrap (t2+t10)∧IntKind.i64.wrap (t2+t10)<(↑u0.length:Int))
 (Ah ((IntKind.i64.wrap (t2+t10)).toNat<u0.length∧
 Bt
 [.str, .int .i64, .int .i64, .int .i64, .str, .sl 6 Aa,
 .sl 7 Ag]
 (List.take 7 (List.drop 0 (u0.getD (IntKind.i64.wrap (t2+t10)).toNat [])))=
 true)
 (Ah ((0:Int)≤IntKind.i64.wrap (t1+t10)∧IntKind.i64.wrap (t1+t10)<(↑u0.length:Int))
 (Ah ((IntKind.i64.wrap (t1+t10)).toNat<u0.length∧
 Bt
 [.str, .int .i64, .int .i64, .int .i64, .str, .sl 6 Aa,
 .sl 7 Ag]
 (List.take 7 (List.drop 0 (u0.getD (IntKind.i64.wrap (t1+t10)).toNat [])))=
 true)
 (Ah ((0:Int)≤IntKind.i64.wrap (t1+t10)∧IntKind.i64.wrap (t1+t10)<(↑u0.length:Int))
 (Ah ((IntKind.i64.wrap (t1+t10)).toNat<u0.length)
 (Ah ((0:Int)≤IntKind.i64.wrap (t2+t10)∧
 IntKind.i64.wrap (t2+t10)<
 (↑(u0.set (IntKind.i64.wrap (t1+t10)).toNat
 [.str
 (gS (List.take (7:Nat) (List.drop (0:Nat) (u0.getD (IntKind.i64.wrap (t2+t10)).toNat [])))
 (0:Nat)),
 .int .i64
 (gI (List.take (7:Nat) (List.drop (0:Nat) (u0.getD (IntKind.i64.wrap (t2+t10)).toNat [])))
 (1:Nat)),
 .int .i64
 (gI (List.take (7:Nat) (List.drop (0:Nat) (u0.getD (IntKind.i64.wrap (t2+t10)).toNat [])))
 (2:Nat)),
 .int .i64
 (gI (List.take (7:Nat) (List.drop (0:Nat) (u0.getD (IntKind.i64.wrap (t2+t10)).toNat [])))
 (3:Nat)),
 .str
 (gS (List.take (7:Nat) (List.drop (0:Nat) (u0.getD (IntKind.i64.wrap (t2+t10)).toNat [])))
 (4:Nat)),
 .sl SK.any (6:Nat)
 (gR (List.take (7:Nat) (List.drop (0:Nat) (u0.getD (IntKind.i64.wrap (t2+t10)).toNat [])))
 (5:Nat)),
 .sl SK.any (7:Nat)
 (gR (List.take (7:Nat) (List.drop (0:Nat) (u0.getD (IntKind.i64.wrap (t2+t10)).toNat [])))
 (6:Nat))]).length:
 Int))
 (Ah ((IntKind.i64.wrap (t2+t10)).toNat<
 (u0.set (IntKind.i64.wrap (t1+t10)).toNat
 [.str
 (gS (List.take 7 (List.drop 0 (u0.getD (IntKind.i64.wrap (t2+t10)).toNat []))) 0),
 .int .i64
 (gI (List.take 7 (List.drop 0 (u0.getD (IntKind.i64.wrap (t2+t10)).toNat []))) 1),
 .int .i64
 (gI (List.take 7 (List.drop 0 (u0.getD (IntKind.i64.wrap (t2+t10)).toNat []))) 2),
 .int .i64
 (gI (List.take 7 (List.drop 0 (u0.getD (IntKind.i64.wrap (t2+t10)).toNat []))) 3),
 .str
 (gS (List.take 7 (List.drop 0 (u0.getD (IntKind.i64.wrap (t2+t10)).toNat []))) 4),
 .sl SK.any 6
 (gR (List.take 7 (List.drop 0 (u0.getD (IntKind.i64.wrap (t2+t10)).toNat []))) 5),
 .sl SK.any 7
 (gR (List.take 7 (List.drop 0 (u0.getD (IntKind.i64.wrap (t2+t10)).toNat [])))
 6)]).length)
 (G5 t1 t2 t3 (IntKind.i64.wrap (t10+(1:Int))) ((u0.set (IntKind.i64.wrap (t1+t10)).toNat
 [.str
 (gS (List.take 7 (List.drop 0 (u0.getD (IntKind.i64.wrap (t2+t10)).toNat []))) 0),
 .int .i64
 (gI (List.take 7 (List.drop 0 (u0.getD (IntKind.i64.wrap (t2+t10)).toNat []))) 1),
 .int .i64
 (gI (List.take 7 (List.drop 0 (u0.getD (IntKind.i64.wrap (t2+t10)).toNat []))) 2),
 .int .i64
 (gI (List.take 7 (List.drop 0 (u0.getD (IntKind.i64.wrap (t2+t10)).toNat []))) 3),
 .str
 (gS (List.take 7 (List.drop 0 (u0.getD (IntKind.i64.wrap (t2+t10)).toNat []))) 4),
 .sl SK.any 6
 (gR (List.take 7 (List.drop 0 (u0.getD (IntKind.i64.wrap (t2+t10)).toNat []))) 5),
 .sl SK.any 7
 (gR (List.take 7 (List.drop 0 (u0.getD (IntKind.i64.wrap (t2+t10)).toNat [])))
 6)]).set
 (IntKind.i64.wrap (t2+t10)).toNat
 [.str (gS (List.take 7 (List.drop 0 (u0.getD (IntKind.i64.wrap (t1+t10)).toNat []))) 0),
 .int .i64
 (gI (List.take 7 (List.drop 0 (u0.getD (IntKind.i64.wrap (t1+t10)).toNat []))) 1),
 .int .i64
 (gI (List.take 7 (List.drop 0 (u0.getD (IntKind.i64.wrap (t1+t10)).toNat []))) 2),
 .int .i64
 (gI (List.take 7 (List.drop 0 (u0.getD (IntKind.i64.wrap (t1+t10)).toNat []))) 3),
 .str (gS (List.take 7 (List.drop 0 (u0.getD (IntKind.i64.wrap (t1+t10)).toNat []))) 4),
 .sl SK.any 6
 (gR (List.take 7 (List.drop 0 (u0.getD (IntKind.i64.wrap (t1+t10)).toNat []))) 5),
 .sl SK.any 7
 (gR (List.take 7 (List.drop 0 (u0.getD (IntKind.i64.wrap (t1+t10)).toNat []))) 6)]) K)))))))))
 (K (.exit 0) ⟨[],[(Af, .arr 1 true 7 u0)]⟩))):G5 t1 t2 t3 t10 u0 K:=Bg (Ar E0 D8) (Az D8) 3 1 (Au 1 ac_slices_swapRangeCmpFunc_Pair) [0,1,2,3,10] _ K rfl (kr (by kernel_rfl) h)
theorem Yq(rows:LL)(Q:QQ)(u0:LL)(h:
 (Q (.tup []) [(Af, .arr 1 true 7 u0)])):Pf rows Q (.exit 0) ⟨[],[(Af, .arr 1 true 7 u0)]⟩:=kr (by kernel_rfl) h
theorem Acv:Bo E0.P 156 ac_slices_swapRangeCmpFunc_Pair.code D8 []:=Bh _ _ Tryz.f156 [(1,[0,1,2,3,10],[]),(3,[],[])] [] _ 38 Tryz.func156 (by kernel_rfl) (by kernel_rfl) (by kernel_rfl) (by kernel_rfl)
theorem Aaf(rows:LL)(a1 a2 a3:Int)(Q:QQ)(h:
 (G5 a1 a2 a3 ((0:Int)) rows (Pf rows Q))):Call E0.P Fp [.own (.arg 0),Ai a1,Ai a2,Ai a3, .fn Ak []] [(.arg 0, .arr 1 true 7 rows)] Q:=A8 (Ar E0 D8) (Az D8) 3 1 156 ac_slices_swapRangeCmpFunc_Pair [] Acv _ _ Q rfl rfl (kr (by kernel_rfl) h)
noncomputable def ac_slices_rotateCmpFunc_Pair:AC:=(Bf [(2,[0,2,4,10,11],[]),(4,[0,2,4,10],[]),(9,[0,2,4,10],[])] [] (codeOf Tryz.f141) 0).1
abbrev Cs:Nat:=58
def Gc(t2 t10 t11:Int)(u0:LL)(K:KK):Prop:=Bi 2 E0.P Cs (Au 2 ac_slices_rotateCmpFunc_Pair).code ⟨[(0, .own Af),(2,Ai t2),(4, .fn Ak []),(10,Ai t10),(11,Ai t11)],[(Af, .arr 1 true 7 u0)]⟩ K
def Rx(t2 t10:Int)(u0:LL)(K:KK):Prop:=Aq 9 E0.P Cs (Ac 9 ac_slices_rotateCmpFunc_Pair).code ⟨[(0, .own Af),(2,Ai t2),(4, .fn Ak []),(10,Ai t10)],[(Af, .arr 1 true 7 u0)]⟩ K
def Lh(rows:LL)(Q:QQ):KK:=kE fun st=>finish (1) E0.T [] [(Af, .arr 1 true 7 rows)] Q st
def Li(rows:LL)(Q:QQ):KK:=kF 0 (fun st=>Aq 9 E0.P Cs (Ac 9 ac_slices_rotateCmpFunc_Pair).code (mask [0,2,4,10] st) (Lh rows Q)) fun st=>finish (1) E0.T [] [(Af, .arr 1 true 7 rows)] Q st
theorem Aby(t2 t10 t11:Int)(u0:LL)(K:KK)(h:
 (Br (!decide (t10=t11))
 (Br (decide (t11<t10))
 (Call E0.P Fp [.own Af,Ai (IntKind.i64.wrap (t2 - t10)),Ai t2,Ai t11, .fn Ak []] [(Af, .arr 1 true 7 u0)] fun r0 g0=>
 Ah (qV2 g0 r0)
 (Gc t2 (IntKind.i64.wrap (t10 - t11)) t11 (Dk g0 Af) K))
 (Call E0.P Fp [.own Af,Ai (IntKind.i64.wrap (t2 - t10)),Ai (IntKind.i64.wrap (IntKind.i64.wrap (t2+t11) - t10)),Ai t10, .fn Ak []] [(Af, .arr 1 true 7 u0)] fun r1 g1=>
 Ah (qV2 g1 r1)
 (Gc t2 t10 (IntKind.i64.wrap (t11 - t10)) (Dk g1 Af) K)))
 (K (.exit 0) ⟨[(0, .own Af),(2,Ai t2),(4, .fn Ak []),(10,Ai t10)],[(Af, .arr 1 true 7 u0)]⟩))):Gc t2 t10 t11 u0 K:=Bg (Ar E0 Cs) (Az Cs) 3 2 (Au 2 ac_slices_rotateCmpFunc_Pair) [0,2,4,10,11] _ K rfl (kr (by kernel_rfl) h)
theorem Abf(t2 t10:Int)(u0:LL)(K:KK)(h:
 (Call E0.P Fp [.own Af,Ai (IntKind.i64.wrap (t2 - t10)),Ai t2,Ai t10, .fn Ak []] [(Af, .arr 1 true 7 u0)] fun r0 g0=>
 Ah (qV2 g0 r0)
 (K .normal ⟨[],[(Af, .arr 1 true 7 (Dk g0 Af))]⟩))):Rx t2 t10 u0 K:=Av (Ar E0 Cs) (Az Cs) 3 9 (Ac 9 ac_slices_rotateCmpFunc_Pair) [] _ K rfl (kr (by kernel_rfl) h)
theorem Abp(rows:LL)(Q:QQ)(u0:LL)(h:
 (Q (.tup []) [(Af, .arr 1 true 7 u0)])):Lh rows Q .normal ⟨[],[(Af, .arr 1 true 7 u0)]⟩:=kr (by kernel_rfl) h
theorem Abq(rows:LL)(Q:QQ)(t2 t10:Int)(u0:LL)(h:
 (Rx t2 t10 u0 (Lh rows Q))):Li rows Q (.exit 0) ⟨[(0, .own Af),(2,Ai t2),(4, .fn Ak []),(10,Ai t10)],[(Af, .arr 1 true 7 u0)]⟩:=kr (by kernel_rfl) h
theorem Af9:Bo E0.P 141 ac_slices_rotateCmpFunc_Pair.code Cs []:=Bh _ _ Tryz.f141 [(2,[0,2,4,10,11],[]),(4,[0,2,4,10],[]),(9,[0,2,4,10],[])] [] _ 58 Tryz.func141 (by kernel_rfl) (by kernel_rfl) (by kernel_rfl) (by kernel_rfl)
theorem Ac2(rows:LL)(a1 a2 a3:Int)(Q:QQ)(h:
 (Gc a2 (IntKind.i64.wrap (a2 - a1)) (IntKind.i64.wrap (a3 - a2)) rows (Li rows Q))):Call E0.P Me [.own (.arg 0),Ai a1,Ai a2,Ai a3, .fn Ak []] [(.arg 0, .arr 1 true 7 rows)] Q:=A8 (Ar E0 Cs) (Az Cs) 3 1 141 ac_slices_rotateCmpFunc_Pair [] Af9 _ _ Q rfl rfl (kr (by kernel_rfl) h)
noncomputable def ac_slices_symMergeCmpFunc_Pair:AC:=(Bf [(3,[0,1,4,10,11],[]),(5,[0,1,10],[]),(9,[0,1,10],[0,1,2,3,4]),(11,[0,10,13],[]),(13,[],[]),(16,[],[0,1,2,3,4]),(17,[0,1,2,3,4],[]),(21,[0,2,4,14,15],[]),(23,[0,2,14],[]),(27,[0,2,14],[0,1,2,3,4]),(29,[0,14,17],[]),(31,[],[]),(34,[],[0,1,2,3,4]),(35,[0,1,2,3,4],[]),(42,[0,1,2,3,4,18,19,20,21],[]),(44,[0,1,2,3,4,18,19,20,21,22],[]),(46,[0,1,2,3,4,18,19,20],[]),(50,[0,1,2,3,4,18,19,20],[]),(53,[0,1,3,4,18,20,24],[]),(55,[0,3,4,18,24],[])] [] (codeOf Tryz.f110) 0).1
abbrev Aj:Nat:=220
def Fj(t1 t10 t11:Int)(u0:LL)(K:KK):Prop:=Bi 3 E0.P Aj (Au 3 ac_slices_symMergeCmpFunc_Pair).code ⟨[(0, .own Af),(1,Ai t1),(4, .fn Ak []),(10,Ai t10),(11,Ai t11)],[(Af, .arr 1 true 7 u0)]⟩ K
def O7(t1 t2 t3:Int)(u0:LL)(K:KK):Prop:=Aq 17 E0.P Aj (Ac 17 ac_slices_symMergeCmpFunc_Pair).code ⟨[(0, .own Af),(1,Ai t1),(2,Ai t2),(3,Ai t3),(4, .fn Ak [])],[(Af, .arr 1 true 7 u0)]⟩ K
def Fb(t2 t14 t15:Int)(u0:LL)(K:KK):Prop:=Bi 21 E0.P Aj (Au 21 ac_slices_symMergeCmpFunc_Pair).code ⟨[(0, .own Af),(2,Ai t2),(4, .fn Ak []),(14,Ai t14),(15,Ai t15)],[(Af, .arr 1 true 7 u0)]⟩ K
def Pb(t1 t2 t3:Int)(u0:LL)(K:KK):Prop:=Aq 35 E0.P Aj (Ac 35 ac_slices_symMergeCmpFunc_Pair).code ⟨[(0, .own Af),(1,Ai t1),(2,Ai t2),(3,Ai t3),(4, .fn Ak [])],[(Af, .arr 1 true 7 u0)]⟩ K
def Jn(t1 t2:Int)(t3 t18:Int)(t19 t20 t21:Int)(u0:LL)(K:KK):Prop:=Aq 42 E0.P Aj (Ac 42 ac_slices_symMergeCmpFunc_Pair).code ⟨[(0, .own Af),(1,Ai t1),(2,Ai t2),(3,Ai t3),(4, .fn Ak []),(18,Ai t18),(19,Ai t19),(20,Ai t20),(21,Ai t21)],[(Af, .arr 1 true 7 u0)]⟩ K
def D5(t1 t2:Int)(t3 t18:Int)(t19 t20:Int)(t21 t22:Int)(u0:LL)(K:KK):Prop:=Bi 44 E0.P Aj (Au 44 ac_slices_symMergeCmpFunc_Pair).code ⟨[(0, .own Af),(1,Ai t1),(2,Ai t2),(3,Ai t3),(4, .fn Ak []),(18,Ai t18),(19,Ai t19),(20,Ai t20),(21,Ai t21),(22,Ai t22)],[(Af, .arr 1 true 7 u0)]⟩ K
def Qb(t1 t10:Int)(u0:LL)(K:KK):Prop:=Aq 9 E0.P Aj (Ac 9 ac_slices_symMergeCmpFunc_Pair).code ⟨[(0, .own Af),(1,Ai t1),(10,Ai t10)],[(Af, .arr 1 true 7 u0)]⟩ K
def O8(t2 t14:Int)(u0:LL)(K:KK):Prop:=Aq 27 E0.P Aj (Ac 27 ac_slices_symMergeCmpFunc_Pair).code ⟨[(0, .own Af),(2,Ai t2),(14,Ai t14)],[(Af, .arr 1 true 7 u0)]⟩ K
def Gx(t1 t2:Int)(t3 t18:Int)(t19 t20:Int)(u0:LL)(K:KK):Prop:=Aq 50 E0.P Aj (Ac 50 ac_slices_symMergeCmpFunc_Pair).code ⟨[(0, .own Af),(1,Ai t1),(2,Ai t2),(3,Ai t3),(4, .fn Ak []),(18,Ai t18),(19,Ai t19),(20,Ai t20)],[(Af, .arr 1 true 7 u0)]⟩ K
def G6(t10 t13:Int)(u0:LL)(K:KK):Prop:=Bi 11 E0.P Aj (Au 11 ac_slices_symMergeCmpFunc_Pair).code ⟨[(0, .own Af),(10,Ai t10),(13,Ai t13)],[(Af, .arr 1 true 7 u0)]⟩ K
def G7(t14 t17:Int)(u0:LL)(K:KK):Prop:=Bi 29 E0.P Aj (Au 29 ac_slices_symMergeCmpFunc_Pair).code ⟨[(0, .own Af),(14,Ai t14),(17,Ai t17)],[(Af, .arr 1 true 7 u0)]⟩ K
def Gy(t1 t3:Int)(t18 t20 t24:Int)(u0:LL)(K:KK):Prop:=Aq 53 E0.P Aj (Ac 53 ac_slices_symMergeCmpFunc_Pair).code ⟨[(0, .own Af),(1,Ai t1),(3,Ai t3),(4, .fn Ak []),(18,Ai t18),(20,Ai t20),(24,Ai t24)],[(Af, .arr 1 true 7 u0)]⟩ K
def Gz(t3 t18 t24:Int)(u0:LL)(K:KK):Prop:=Aq 55 E0.P Aj (Ac 55 ac_slices_symMergeCmpFunc_Pair).code ⟨[(0, .own Af),(3,Ai t3),(4, .fn Ak []),(18,Ai t18),(24,Ai t24)],[(Af, .arr 1 true 7 u0)]⟩ K
def O6(u0:LL)(K:KK):Prop:=Aq 16 E0.P Aj (Ac 16 ac_slices_symMergeCmpFunc_Pair).code ⟨[],[(Af, .arr 1 true 7 u0)]⟩ K
def O9(u0:LL)(K:KK):Prop:=Aq 34 E0.P Aj (Ac 34 ac_slices_symMergeCmpFunc_Pair).code ⟨[],[(Af, .arr 1 true 7 u0)]⟩ K
def Fg(rows:LL)(Q:QQ):KK:=kE fun st=>finish (1) E0.T [] [(Af, .arr 1 true 7 rows)] Q st
def J4(rows:LL)(Q:QQ):Ex→St→Prop
 | .normal,st=>Aq 17 E0.P Aj (Ac 17 ac_slices_symMergeCmpFunc_Pair).code (mask [0,1,2,3,4] st) (Fg rows Q)
 | .exit _,_=>False
 | .goto _,_=>False
 | .ret,st=>finish (1) E0.T [] [(Af, .arr 1 true 7 rows)] Q st
def Qc(rows:LL)(Q:QQ):KK:=kF 0 (fun st=>Aq 9 E0.P Aj (Ac 9 ac_slices_symMergeCmpFunc_Pair).code (mask [0,1,10] st) (J4 rows Q)) fun st=>finish (1) E0.T [] [(Af, .arr 1 true 7 rows)] Q st
def Bu(K:KK):KK:=kP [] K
def J5(K:KK):Ex→St→Prop
 | .normal,st=>Aq 35 E0.P Aj (Ac 35 ac_slices_symMergeCmpFunc_Pair).code (mask [0,1,2,3,4] st) (Bu K)
 | .exit i,st=>K (.exit i) st
 | .goto i,st=>K (.goto i) st
 | .ret,st=>K .ret st
def Qd(K:KK):KK:=kC 4 (fun st=>Aq 27 E0.P Aj (Ac 27 ac_slices_symMergeCmpFunc_Pair).code (mask [0,2,14] st) (J5 K)) K
def J6(K:KK):KK:=kC 8 (fun st=>Aq 50 E0.P Aj (Ac 50 ac_slices_symMergeCmpFunc_Pair).code (mask [0,1,2,3,4,18,19,20] st) (Bu K)) K
def Fh(K:KK):KK:=kP [0,1,2,3,4] K
def Qe(K:KK):KK:=kC 2 (fun st=>Aq 16 E0.P Aj (Ac 16 ac_slices_symMergeCmpFunc_Pair).code (mask [] st) (Fh K)) K
def Qf(K:KK):KK:=kC 6 (fun st=>Aq 34 E0.P Aj (Ac 34 ac_slices_symMergeCmpFunc_Pair).code (mask [] st) (Fh K)) K
theorem Oc(t1 t10 t11:Int)(u0:LL)(K:KK)(h:
 (Br (decide (t10<t11))
 (Ah ((0:Int)≤(1:Int))
 (Ah ((0:Int)≤IntKind.i64.wrap ((IntKind.u64.wrap (IntKind.i64.wrap (t10+t11))).fdiv ((2:Int) ^ 1))∧
 IntKind.i64.wrap ((IntKind.u64.wrap (IntKind.i64.wrap (t10+t11))).fdiv ((2:Int) ^ 1))<
 (↑u0.length:Int))
 (Ah ((IntKind.i64.wrap ((IntKind.u64.wrap (IntKind.i64.wrap (t10+t11))).fdiv ((2:Int) ^ 1))).toNat<u0.length∧
 Bt
 [.str, .int .i64, .int .i64, .int .i64, .str, .sl 6 Aa,
 .sl 7 Ag]
 (List.take 7
 (List.drop 0
 (u0.getD
 (IntKind.i64.wrap ((IntKind.u64.wrap (IntKind.i64.wrap (t10+t11))).fdiv ((2:Int) ^ 1))).toNat
 [])))=
 true)
 (Ah ((0:Int)≤t1∧t1<(↑u0.length:Int))
 (Ah (t1.toNat<u0.length∧
 Bt
 [.str, .int .i64, .int .i64, .int .i64, .str, .sl 6 Aa,
 .sl 7 Ag]
 (List.take 7 (List.drop 0 (u0.getD t1.toNat [])))=
 true)
 (Call E0.P Ak [.imm (.agg [.str (gS
 (List.take 7
 (List.drop 0
 (u0.getD
 (IntKind.i64.wrap ((IntKind.u64.wrap (IntKind.i64.wrap (t10+t11))).fdiv ((2:Int) ^ 1))).toNat [])))
 0), .int .i64 (gI
 (List.take 7
 (List.drop 0
 (u0.getD
 (IntKind.i64.wrap ((IntKind.u64.wrap (IntKind.i64.wrap (t10+t11))).fdiv ((2:Int) ^ 1))).toNat [])))
 1), .int .i64 (gI
 (List.take 7
 (List.drop 0
 (u0.getD
 (IntKind.i64.wrap ((IntKind.u64.wrap (IntKind.i64.wrap (t10+t11))).fdiv ((2:Int) ^ 1))).toNat [])))
 2), .int .i64 (gI
 (List.take 7
 (List.drop 0
 (u0.getD
 (IntKind.i64.wrap ((IntKind.u64.wrap (IntKind.i64.wrap (t10+t11))).fdiv ((2:Int) ^ 1))).toNat [])))
 3), .str (gS
 (List.take 7
 (List.drop 0
 (u0.getD
 (IntKind.i64.wrap ((IntKind.u64.wrap (IntKind.i64.wrap (t10+t11))).fdiv ((2:Int) ^ 1))).toNat [])))
 4), .sl .any 6 (gR
 (List.take 7
 (List.drop 0
 (u0.getD
 (IntKind.i64.wrap ((IntKind.u64.wrap (IntKind.i64.wrap (t10+t11))).fdiv ((2:Int) ^ 1))).toNat [])))
 5), .sl .any 7 (gR
 (List.take 7
 (List.drop 0
 (u0.getD
 (IntKind.i64.wrap ((IntKind.u64.wrap (IntKind.i64.wrap (t10+t11))).fdiv ((2:Int) ^ 1))).toNat [])))
 6)]), .imm (.agg [.str (gS (List.take 7 (List.drop 0 (u0.getD t1.toNat []))) 0), .int .i64 (gI (List.take 7 (List.drop 0 (u0.getD t1.toNat []))) 1), .int .i64 (gI (List.take 7 (List.drop 0 (u0.getD t1.toNat []))) 2), .int .i64 (gI (List.take 7 (List.drop 0 (u0.getD t1.toNat []))) 3), .str (gS (List.take 7 (List.drop 0 (u0.getD t1.toNat []))) 4), .sl .any 6 (gR (List.take 7 (List.drop 0 (u0.getD t1.toNat []))) 5), .sl .any 7 (gR (List.take 7 (List.drop 0 (u0.getD t1.toNat []))) 6)])] [] fun r0 g0=>
 Ah (qV1 g0 r0)
 (Br (decide (rI r0<(0:Int)))
 (Fj t1 (IntKind.i64.wrap
 (IntKind.i64.wrap ((IntKind.u64.wrap (IntKind.i64.wrap (t10+t11))).fdiv ((2:Int) ^ 1))+(1:Int))) t11 u0 K)
 (Fj t1 t10 (IntKind.i64.wrap ((IntKind.u64.wrap (IntKind.i64.wrap (t10+t11))).fdiv ((2:Int) ^ 1))) u0 K))))))))
 (K (.exit 0) ⟨[(0, .own Af),(1,Ai t1),(10,Ai t10)],[(Af, .arr 1 true 7 u0)]⟩))):Fj t1 t10 t11 u0 K:=Bg (Ar E0 Aj) (Az Aj) 3 3 (Au 3 ac_slices_symMergeCmpFunc_Pair) [0,1,4,10,11] _ K rfl (kr (by kernel_rfl) h)
theorem Yg(t1 t2 t3:Int)(u0:LL)(K:KK)(h:
 (Br (decide (IntKind.i64.wrap (t3 - t2)=(1:Int)))
 (Fb t2 t1 t2 u0 (Qd K))
 (Pb t1 t2 t3 u0 (Bu K)))):O7 t1 t2 t3 u0 K:=Av (Ar E0 Aj) (Az Aj) 3 17 (Ac 17 ac_slices_symMergeCmpFunc_Pair) [] _ K rfl (kr (by kernel_rfl) h)
theorem Nc(t2 t14 t15:Int)(u0:LL)(K:KK)(h:
 (Br (decide (t14<t15))
 (Ah ((0:Int)≤(1:Int))
 (Ah ((0:Int)≤t2∧t2<(↑u0.length:Int))
 (Ah (t2.toNat<u0.length∧
 Bt
 [.str, .int .i64, .int .i64, .int .i64, .str, .sl 6 Aa,
 .sl 7 Ag]
 (List.take 7 (List.drop 0 (u0.getD t2.toNat [])))=
 true)
 (Ah ((0:Int)≤IntKind.i64.wrap ((IntKind.u64.wrap (IntKind.i64.wrap (t14+t15))).fdiv ((2:Int) ^ 1))∧
 IntKind.i64.wrap ((IntKind.u64.wrap (IntKind.i64.wrap (t14+t15))).fdiv ((2:Int) ^ 1))<
 (↑u0.length:Int))
 (Ah ((IntKind.i64.wrap ((IntKind.u64.wrap (IntKind.i64.wrap (t14+t15))).fdiv ((2:Int) ^ 1))).toNat<u0.length∧
 Bt
 [.str, .int .i64, .int .i64, .int .i64, .str, .sl 6 Aa,
 .sl 7 Ag]
 (List.take 7
 (List.drop 0
 (u0.getD
 (IntKind.i64.wrap ((IntKind.u64.wrap (IntKind.i64.wrap (t14+t15))).fdiv ((2:Int) ^ 1))).toNat
 [])))=
 true)
 (Call E0.P Ak [.imm (.agg [.str (gS (List.take 7 (List.drop 0 (u0.getD t2.toNat []))) 0), .int .i64 (gI (List.take 7 (List.drop 0 (u0.getD t2.toNat []))) 1), .int .i64 (gI (List.take 7 (List.drop 0 (u0.getD t2.toNat []))) 2), .int .i64 (gI (List.take 7 (List.drop 0 (u0.getD t2.toNat []))) 3), .str (gS (List.take 7 (List.drop 0 (u0.getD t2.toNat []))) 4), .sl .any 6 (gR (List.take 7 (List.drop 0 (u0.getD t2.toNat []))) 5), .sl .any 7 (gR (List.take 7 (List.drop 0 (u0.getD t2.toNat []))) 6)]), .imm (.agg [.str (gS
 (List.take 7
 (List.drop 0
 (u0.getD
 (IntKind.i64.wrap ((IntKind.u64.wrap (IntKind.i64.wrap (t14+t15))).fdiv ((2:Int) ^ 1))).toNat [])))
 0), .int .i64 (gI
 (List.take 7
 (List.drop 0
 (u0.getD
 (IntKind.i64.wrap ((IntKind.u64.wrap (IntKind.i64.wrap (t14+t15))).fdiv ((2:Int) ^ 1))).toNat [])))
 1), .int .i64 (gI
 (List.take 7
 (List.drop 0
 (u0.getD
 (IntKind.i64.wrap ((IntKind.u64.wrap (IntKind.i64.wrap (t14+t15))).fdiv ((2:Int) ^ 1))).toNat [])))
 2), .int .i64 (gI
 (List.take 7
 (List.drop 0
 (u0.getD
 (IntKind.i64.wrap ((IntKind.u64.wrap (IntKind.i64.wrap (t14+t15))).fdiv ((2:Int) ^ 1))).toNat [])))
 3), .str (gS
 (List.take 7
 (List.drop 0
 (u0.getD
 (IntKind.i64.wrap ((IntKind.u64.wrap (IntKind.i64.wrap (t14+t15))).fdiv ((2:Int) ^ 1))).toNat [])))
 4), .sl .any 6 (gR
 (List.take 7
 (List.drop 0
 (u0.getD
 (IntKind.i64.wrap ((IntKind.u64.wrap (IntKind.i64.wrap (t14+t15))).fdiv ((2:Int) ^ 1))).toNat [])))
 5), .sl .any 7 (gR
 (List.take 7
 (List.drop 0
 (u0.getD
 (IntKind.i64.wrap ((IntKind.u64.wrap (IntKind.i64.wrap (t14+t15))).fdiv ((2:Int) ^ 1))).toNat [])))
 6)])] [] fun r0 g0=>
 Ah (qV1 g0 r0)
 (Br (!decide (rI r0<(0:Int)))
 (Fb t2 (IntKind.i64.wrap
 (IntKind.i64.wrap ((IntKind.u64.wrap (IntKind.i64.wrap (t14+t15))).fdiv ((2:Int) ^ 1))+(1:Int))) t15 u0 K)
 (Fb t2 t14 (IntKind.i64.wrap ((IntKind.u64.wrap (IntKind.i64.wrap (t14+t15))).fdiv ((2:Int) ^ 1))) u0 K))))))))
 (K (.exit (4)) ⟨[(0, .own Af),(2,Ai t2),(14,Ai t14)],[(Af, .arr 1 true 7 u0)]⟩))):Fb t2 t14 t15 u0 K:=Bg (Ar E0 Aj) (Az Aj) 3 21 (Au 21 ac_slices_symMergeCmpFunc_Pair) [0,2,4,14,15] _ K rfl (kr (by kernel_rfl) h)
theorem Yj(t1 t2 t3:Int)(u0:LL)(K:KK)(h:
 (Ah ((0:Int)≤(1:Int))
 (Br (decide (IntKind.i64.wrap ((IntKind.u64.wrap (IntKind.i64.wrap (t1+t3))).fdiv ((2:Int) ^ 1))<t2))
 (Jn t1 t2 t3 (IntKind.i64.wrap ((IntKind.u64.wrap (IntKind.i64.wrap (t1+t3))).fdiv ((2:Int) ^ 1))) (IntKind.i64.wrap (IntKind.i64.wrap ((IntKind.u64.wrap (IntKind.i64.wrap (t1+t3))).fdiv ((2:Int) ^ 1))+t2)) (IntKind.i64.wrap
 (IntKind.i64.wrap
 (IntKind.i64.wrap ((IntKind.u64.wrap (IntKind.i64.wrap (t1+t3))).fdiv ((2:Int) ^ 1))+t2) -
 t3)) (IntKind.i64.wrap ((IntKind.u64.wrap (IntKind.i64.wrap (t1+t3))).fdiv ((2:Int) ^ 1))) u0 (Bu K))
 (Jn t1 t2 t3 (IntKind.i64.wrap ((IntKind.u64.wrap (IntKind.i64.wrap (t1+t3))).fdiv ((2:Int) ^ 1))) (IntKind.i64.wrap (IntKind.i64.wrap ((IntKind.u64.wrap (IntKind.i64.wrap (t1+t3))).fdiv ((2:Int) ^ 1))+t2)) t1 t2 u0 (Bu K))))):Pb t1 t2 t3 u0 K:=Av (Ar E0 Aj) (Az Aj) 3 35 (Ac 35 ac_slices_symMergeCmpFunc_Pair) [] _ K rfl (kr (by kernel_rfl) h)
theorem M5(t1 t2:Int)(t3 t18:Int)(t19 t20 t21:Int)(u0:LL)(K:KK)(h:
 (D5 t1 t2 t3 t18 t19 t20 t21 (IntKind.i64.wrap (t19 - (1:Int))) u0 (J6 K))):Jn t1 t2 t3 t18 t19 t20 t21 u0 K:=Av (Ar E0 Aj) (Az Aj) 3 42 (Ac 42 ac_slices_symMergeCmpFunc_Pair) [] _ K rfl (kr (by kernel_rfl) h)
theorem Ng(t1 t2:Int)(t3 t18:Int)(t19 t20:Int)(t21 t22:Int)(u0:LL)(K:KK)(h:
 (Br (decide (t20<t21))
 (Ah ((0:Int)≤(1:Int))
 (Ah ((0:Int)≤
 IntKind.i64.wrap
 (t22 - IntKind.i64.wrap ((IntKind.u64.wrap (IntKind.i64.wrap (t20+t21))).fdiv ((2:Int) ^ 1)))∧
 IntKind.i64.wrap
 (t22 - IntKind.i64.wrap ((IntKind.u64.wrap (IntKind.i64.wrap (t20+t21))).fdiv ((2:Int) ^ 1)))<
 (↑u0.length:Int))
 (Ah ((IntKind.i64.wrap
 (t22 -
 IntKind.i64.wrap ((IntKind.u64.wrap (IntKind.i64.wrap (t20+t21))).fdiv ((2:Int) ^ 1)))).toNat<
 u0.length∧
 Bt
 [.str, .int .i64, .int .i64, .int .i64, .str, .sl 6 Aa,
 .sl 7 Ag]
 (List.take 7
 (List.drop 0
 (u0.getD
 (IntKind.i64.wrap
 (t22 -
 IntKind.i64.wrap
 ((IntKind.u64.wrap (IntKind.i64.wrap (t20+t21))).fdiv ((2:Int) ^ 1)))).toNat
 [])))=
 true)
 (Ah ((0:Int)≤IntKind.i64.wrap ((IntKind.u64.wrap (IntKind.i64.wrap (t20+t21))).fdiv ((2:Int) ^ 1))∧
 IntKind.i64.wrap ((IntKind.u64.wrap (IntKind.i64.wrap (t20+t21))).fdiv ((2:Int) ^ 1))<
 (↑u0.length:Int))
 (Ah ((IntKind.i64.wrap ((IntKind.u64.wrap (IntKind.i64.wrap (t20+t21))).fdiv ((2:Int) ^ 1))).toNat<u0.length∧
 Bt
 [.str, .int .i64, .int .i64, .int .i64, .str, .sl 6 Aa,
 .sl 7 Ag]
 (List.take 7
 (List.drop 0
 (u0.getD
 (IntKind.i64.wrap ((IntKind.u64.wrap (IntKind.i64.wrap (t20+t21))).fdiv ((2:Int) ^ 1))).toNat
 [])))=
 true)
 (Call E0.P Ak [.imm (.agg [.str (gS
 (List.take 7
 (List.drop 0
 (u0.getD
 (IntKind.i64.wrap
 (t22 -
 IntKind.i64.wrap ((IntKind.u64.wrap (IntKind.i64.wrap (t20+t21))).fdiv ((2:Int) ^ 1)))).toNat
 [])))
 0), .int .i64 (gI
 (List.take 7
 (List.drop 0
 (u0.getD
 (IntKind.i64.wrap
 (t22 -
 IntKind.i64.wrap ((IntKind.u64.wrap (IntKind.i64.wrap (t20+t21))).fdiv ((2:Int) ^ 1)))).toNat
 [])))
 1), .int .i64 (gI
 (List.take 7
 (List.drop 0
 (u0.getD
 (IntKind.i64.wrap
 (t22 -
 IntKind.i64.wrap ((IntKind.u64.wrap (IntKind.i64.wrap (t20+t21))).fdiv ((2:Int) ^ 1)))).toNat
 [])))
 2), .int .i64 (gI
 (List.take 7
 (List.drop 0
 (u0.getD
 (IntKind.i64.wrap
 (t22 -
 IntKind.i64.wrap ((IntKind.u64.wrap (IntKind.i64.wrap (t20+t21))).fdiv ((2:Int) ^ 1)))).toNat
 [])))
 3), .str (gS
 (List.take 7
 (List.drop 0
 (u0.getD
 (IntKind.i64.wrap
 (t22 -
 IntKind.i64.wrap ((IntKind.u64.wrap (IntKind.i64.wrap (t20+t21))).fdiv ((2:Int) ^ 1)))).toNat
 [])))
 4), .sl .any 6 (gR
 (List.take 7
 (List.drop 0
 (u0.getD
 (IntKind.i64.wrap
 (t22 -
 IntKind.i64.wrap ((IntKind.u64.wrap (IntKind.i64.wrap (t20+t21))).fdiv ((2:Int) ^ 1)))).toNat
 [])))
 5), .sl .any 7 (gR
 (List.take 7
 (List.drop 0
 (u0.getD
 (IntKind.i64.wrap
 (t22 -
 IntKind.i64.wrap ((IntKind.u64.wrap (IntKind.i64.wrap (t20+t21))).fdiv ((2:Int) ^ 1)))).toNat
 [])))
 6)]), .imm (.agg [.str (gS
 (List.take 7
 (List.drop 0
 (u0.getD
 (IntKind.i64.wrap ((IntKind.u64.wrap (IntKind.i64.wrap (t20+t21))).fdiv ((2:Int) ^ 1))).toNat [])))
 0), .int .i64 (gI
 (List.take 7
 (List.drop 0
 (u0.getD
 (IntKind.i64.wrap ((IntKind.u64.wrap (IntKind.i64.wrap (t20+t21))).fdiv ((2:Int) ^ 1))).toNat [])))
 1), .int .i64 (gI
 (List.take 7
 (List.drop 0
 (u0.getD
 (IntKind.i64.wrap ((IntKind.u64.wrap (IntKind.i64.wrap (t20+t21))).fdiv ((2:Int) ^ 1))).toNat [])))
 2), .int .i64 (gI
 (List.take 7
 (List.drop 0
 (u0.getD
 (IntKind.i64.wrap ((IntKind.u64.wrap (IntKind.i64.wrap (t20+t21))).fdiv ((2:Int) ^ 1))).toNat [])))
 3), .str (gS
 (List.take 7
 (List.drop 0
 (u0.getD
 (IntKind.i64.wrap ((IntKind.u64.wrap (IntKind.i64.wrap (t20+t21))).fdiv ((2:Int) ^ 1))).toNat [])))
 4), .sl .any 6 (gR
 (List.take 7
 (List.drop 0
 (u0.getD
 (IntKind.i64.wrap ((IntKind.u64.wrap (IntKind.i64.wrap (t20+t21))).fdiv ((2:Int) ^ 1))).toNat [])))
 5), .sl .any 7 (gR
 (List.take 7
 (List.drop 0
 (u0.getD
 (IntKind.i64.wrap ((IntKind.u64.wrap (IntKind.i64.wrap (t20+t21))).fdiv ((2:Int) ^ 1))).toNat [])))
 6)])] [] fun r0 g0=>
 Ah (qV1 g0 r0)
 (Br (!decide (rI r0<(0:Int)))
 (D5 t1 t2 t3 t18 t19 (IntKind.i64.wrap
 (IntKind.i64.wrap ((IntKind.u64.wrap (IntKind.i64.wrap (t20+t21))).fdiv ((2:Int) ^ 1))+(1:Int))) t21 t22 u0 K)
 (D5 t1 t2 t3 t18 t19 t20 (IntKind.i64.wrap ((IntKind.u64.wrap (IntKind.i64.wrap (t20+t21))).fdiv ((2:Int) ^ 1))) t22 u0 K))))))))
 (K (.exit (8)) ⟨[(0, .own Af),(1,Ai t1),(2,Ai t2),(3,Ai t3),(4, .fn Ak []),(18,Ai t18),(19,Ai t19),(20,Ai t20)],[(Af, .arr 1 true 7 u0)]⟩))):D5 t1 t2 t3 t18 t19 t20 t21 t22 u0 K:=Bg (Ar E0 Aj) (Az Aj) 3 44 (Au 44 ac_slices_symMergeCmpFunc_Pair) [0,1,2,3,4,18,19,20,21,22] _ K rfl (kr (by kernel_rfl) h)
theorem Zm(t1 t10:Int)(u0:LL)(K:KK)(h:
 (G6 t10 t1 u0 (Qe K))):Qb t1 t10 u0 K:=Av (Ar E0 Aj) (Az Aj) 3 9 (Ac 9 ac_slices_symMergeCmpFunc_Pair) [0,1,2,3,4] _ K rfl (kr (by kernel_rfl) h)
theorem Yh(t2 t14:Int)(u0:LL)(K:KK)(h:
 (G7 t14 t2 u0 (Qf K))):O8 t2 t14 u0 K:=Av (Ar E0 Aj) (Az Aj) 3 27 (Ac 27 ac_slices_symMergeCmpFunc_Pair) [0,1,2,3,4] _ K rfl (kr (by kernel_rfl) h)
theorem Yk(t1 t2:Int)(t3 t18:Int)(t19 t20:Int)(u0:LL)(K:KK)(h:
 (Let (bif decide (t20<t2)then decide (t2<IntKind.i64.wrap (t19 - t20))else false) fun x0=>
 Br (x0)
 (Call E0.P Me [.own Af,Ai t20,Ai t2,Ai (IntKind.i64.wrap (t19 - t20)), .fn Ak []] [(Af, .arr 1 true 7 u0)] fun r1 g1=>
 Ah (qV2 g1 r1)
 (Gy t1 t3 t18 t20 (IntKind.i64.wrap (t19 - t20)) (Dk g1 Af) (Bu K)))
 (Gy t1 t3 t18 t20 (IntKind.i64.wrap (t19 - t20)) u0 (Bu K)))):Gx t1 t2 t3 t18 t19 t20 u0 K:=Av (Ar E0 Aj) (Az Aj) 3 50 (Ac 50 ac_slices_symMergeCmpFunc_Pair) [] _ K rfl (kr (by kernel_rfl) h)
theorem Nb(t10 t13:Int)(u0:LL)(K:KK)(h:
 (Br (decide (t13<IntKind.i64.wrap (t10 - (1:Int))))
 (Ah ((0:Int)≤IntKind.i64.wrap (t13+(1:Int))∧IntKind.i64.wrap (t13+(1:Int))<(↑u0.length:Int))
 (Ah ((IntKind.i64.wrap (t13+(1:Int))).toNat<u0.length∧
 Bt
 [.str, .int .i64, .int .i64, .int .i64, .str, .sl 6 Aa,
 .sl 7 Ag]
 (List.take 7 (List.drop 0 (u0.getD (IntKind.i64.wrap (t13+(1:Int))).toNat [])))=
 true)
 (Ah ((0:Int)≤t13∧t13<(↑u0.length:Int))
 (Ah (t13.toNat<u0.length∧
 Bt
 [.str, .int .i64, .int .i64, .int .i64, .str, .sl 6 Aa,
 .sl 7 Ag]
 (List.take 7 (List.drop 0 (u0.getD t13.toNat [])))=
 true)
 (Ah ((0:Int)≤t13∧t13<(↑u0.length:Int))
 (Ah (t13.toNat<u0.length)
 (Ah ((0:Int)≤IntKind.i64.wrap (t13+(1:Int))∧
 IntKind.i64.wrap (t13+(1:Int))<
 (↑(u0.set t13.toNat
 [.str
 (gS (List.take (7:Nat) (List.drop (0:Nat) (u0.getD (IntKind.i64.wrap (t13+(1:Int))).toNat [])))
 (0:Nat)),
 .int .i64
 (gI (List.take (7:Nat) (List.drop (0:Nat) (u0.getD (IntKind.i64.wrap (t13+(1:Int))).toNat [])))
 (1:Nat)),
 .int .i64
 (gI (List.take (7:Nat) (List.drop (0:Nat) (u0.getD (IntKind.i64.wrap (t13+(1:Int))).toNat [])))
 (2:Nat)),
 .int .i64
 (gI (List.take (7:Nat) (List.drop (0:Nat) (u0.getD (IntKind.i64.wrap (t13+(1:Int))).toNat [])))
 (3:Nat)),
 .str
 (gS (List.take (7:Nat) (List.drop (0:Nat) (u0.getD (IntKind.i64.wrap (t13+(1:Int))).toNat [])))
 (4:Nat)),
 .sl SK.any (6:Nat)
 (gR (List.take (7:Nat) (List.drop (0:Nat) (u0.getD (IntKind.i64.wrap (t13+(1:Int))).toNat [])))
 (5:Nat)),
 .sl SK.any (7:Nat)
 (gR (List.take (7:Nat) (List.drop (0:Nat) (u0.getD (IntKind.i64.wrap (t13+(1:Int))).toNat [])))
 (6:Nat))]).length:
 Int))
 (Ah ((IntKind.i64.wrap (t13+(1:Int))).toNat<
 (u0.set t13.toNat
 [.str
 (gS (List.take 7 (List.drop 0 (u0.getD (IntKind.i64.wrap (t13+(1:Int))).toNat [])))
 0),
 .int .i64
 (gI (List.take 7 (List.drop 0 (u0.getD (IntKind.i64.wrap (t13+(1:Int))).toNat [])))
 1),
 .int .i64
 (gI (List.take 7 (List.drop 0 (u0.getD (IntKind.i64.wrap (t13+(1:Int))).toNat [])))
 2),
 .int .i64
 (gI (List.take 7 (List.drop 0 (u0.getD (IntKind.i64.wrap (t13+(1:Int))).toNat [])))
 3),
 .str
 (gS (List.take 7 (List.drop 0 (u0.getD (IntKind.i64.wrap (t13+(1:Int))).toNat [])))
 4),
 .sl SK.any 6
 (gR (List.take 7 (List.drop 0 (u0.getD (IntKind.i64.wrap (t13+(1:Int))).toNat [])))
 5),
 .sl SK.any 7
 (gR (List.take 7 (List.drop 0 (u0.getD (IntKind.i64.wrap (t13+(1:Int))).toNat [])))
 6)]).length)
 (G6 t10 (IntKind.i64.wrap (t13+(1:Int))) ((u0.set t13.toNat
 [.str
 (gS (List.take 7 (List.drop 0 (u0.getD (IntKind.i64.wrap (t13+(1:Int))).toNat [])))
 0),
 .int .i64
 (gI (List.take 7 (List.drop 0 (u0.getD (IntKind.i64.wrap (t13+(1:Int))).toNat [])))
 1),
 .int .i64
 (gI (List.take 7 (List.drop 0 (u0.getD (IntKind.i64.wrap (t13+(1:Int))).toNat [])))
 2),
 .int .i64
 (gI (List.take 7 (List.drop 0 (u0.getD (IntKind.i64.wrap (t13+(1:Int))).toNat [])))
 3),
 .str
 (gS (List.take 7 (List.drop 0 (u0.getD (IntKind.i64.wrap (t13+(1:Int))).toNat [])))
 4),
 .sl SK.any 6
 (gR (List.take 7 (List.drop 0 (u0.getD (IntKind.i64.wrap (t13+(1:Int))).toNat [])))
 5),
 .sl SK.any 7
 (gR (List.take 7 (List.drop 0 (u0.getD (IntKind.i64.wrap (t13+(1:Int))).toNat [])))
 6)]).set
 (IntKind.i64.wrap (t13+(1:Int))).toNat
 [.str (gS (List.take 7 (List.drop 0 (u0.getD t13.toNat []))) 0),
 .int .i64 (gI (List.take 7 (List.drop 0 (u0.getD t13.toNat []))) 1),
 .int .i64 (gI (List.take 7 (List.drop 0 (u0.getD t13.toNat []))) 2),
 .int .i64 (gI (List.take 7 (List.drop 0 (u0.getD t13.toNat []))) 3),
 .str (gS (List.take 7 (List.drop 0 (u0.getD t13.toNat []))) 4),
 .sl SK.any 6 (gR (List.take 7 (List.drop 0 (u0.getD t13.toNat []))) 5),
 .sl SK.any 7 (gR (List.take 7 (List.drop 0 (u0.getD t13.toNat []))) 6)]) K)))))))))
 (K (.exit (2)) ⟨[],[(Af, .arr 1 true 7 u0)]⟩))):G6 t10 t13 u0 K:=Bg (Ar E0 Aj) (Az Aj) 3 11 (Au 11 ac_slices_symMergeCmpFunc_Pair) [0,10,13] _ K rfl (kr (by kernel_rfl) h)
theorem Nf(t14 t17:Int)(u0:LL)(K:KK)(h:
 (Br (decide (t14<t17))
 (Ah ((0:Int)≤IntKind.i64.wrap (t17 - (1:Int))∧IntKind.i64.wrap (t17 - (1:Int))<(↑u0.length:Int))
 (Ah ((IntKind.i64.wrap (t17 - (1:Int))).toNat<u0.length∧
 Bt
 [.str, .int .i64, .int .i64, .int .i64, .str, .sl 6 Aa,
 .sl 7 Ag]
 (List.take 7 (List.drop 0 (u0.getD (IntKind.i64.wrap (t17 - (1:Int))).toNat [])))=
 true)
 (Ah ((0:Int)≤t17∧t17<(↑u0.length:Int))
 (Ah (t17.toNat<u0.length∧
 Bt
 [.str, .int .i64, .int .i64, .int .i64, .str, .sl 6 Aa,
 .sl 7 Ag]
 (List.take 7 (List.drop 0 (u0.getD t17.toNat [])))=
 true)
 (Ah ((0:Int)≤t17∧t17<(↑u0.length:Int))
 (Ah (t17.toNat<u0.length)
 (Ah ((0:Int)≤IntKind.i64.wrap (t17 - (1:Int))∧
 IntKind.i64.wrap (t17 - (1:Int))<
 (↑(u0.set t17.toNat
 [.str
 (gS (List.take (7:Nat) (List.drop (0:Nat) (u0.getD (IntKind.i64.wrap (t17 - (1:Int))).toNat [])))
 (0:Nat)),
 .int .i64
 (gI (List.take (7:Nat) (List.drop (0:Nat) (u0.getD (IntKind.i64.wrap (t17 - (1:Int))).toNat [])))
 (1:Nat)),
 .int .i64
 (gI (List.take (7:Nat) (List.drop (0:Nat) (u0.getD (IntKind.i64.wrap (t17 - (1:Int))).toNat [])))
 (2:Nat)),
 .int .i64
 (gI (List.take (7:Nat) (List.drop (0:Nat) (u0.getD (IntKind.i64.wrap (t17 - (1:Int))).toNat [])))
 (3:Nat)),
 .str
 (gS (List.take (7:Nat) (List.drop (0:Nat) (u0.getD (IntKind.i64.wrap (t17 - (1:Int))).toNat [])))
 (4:Nat)),
 .sl SK.any (6:Nat)
 (gR (List.take (7:Nat) (List.drop (0:Nat) (u0.getD (IntKind.i64.wrap (t17 - (1:Int))).toNat [])))
 (5:Nat)),
 .sl SK.any (7:Nat)
 (gR (List.take (7:Nat) (List.drop (0:Nat) (u0.getD (IntKind.i64.wrap (t17 - (1:Int))).toNat [])))
 (6:Nat))]).length:
 Int))
 (Ah ((IntKind.i64.wrap (t17 - (1:Int))).toNat<
 (u0.set t17.toNat
 [.str
 (gS (List.take 7 (List.drop 0 (u0.getD (IntKind.i64.wrap (t17 - (1:Int))).toNat [])))
 0),
 .int .i64
 (gI (List.take 7 (List.drop 0 (u0.getD (IntKind.i64.wrap (t17 - (1:Int))).toNat [])))
 1),
 .int .i64
 (gI (List.take 7 (List.drop 0 (u0.getD (IntKind.i64.wrap (t17 - (1:Int))).toNat [])))
 2),
 .int .i64
 (gI (List.take 7 (List.drop 0 (u0.getD (IntKind.i64.wrap (t17 - (1:Int))).toNat [])))
 3),
 .str
 (gS (List.take 7 (List.drop 0 (u0.getD (IntKind.i64.wrap (t17 - (1:Int))).toNat [])))
 4),
 .sl SK.any 6
 (gR (List.take 7 (List.drop 0 (u0.getD (IntKind.i64.wrap (t17 - (1:Int))).toNat [])))
 5),
 .sl SK.any 7
 (gR (List.take 7 (List.drop 0 (u0.getD (IntKind.i64.wrap (t17 - (1:Int))).toNat [])))
 6)]).length)
 (G7 t14 (IntKind.i64.wrap (t17 - (1:Int))) ((u0.set t17.toNat
 [.str
 (gS (List.take 7 (List.drop 0 (u0.getD (IntKind.i64.wrap (t17 - (1:Int))).toNat [])))
 0),
 .int .i64
 (gI (List.take 7 (List.drop 0 (u0.getD (IntKind.i64.wrap (t17 - (1:Int))).toNat [])))
 1),
 .int .i64
 (gI (List.take 7 (List.drop 0 (u0.getD (IntKind.i64.wrap (t17 - (1:Int))).toNat [])))
 2),
 .int .i64
 (gI (List.take 7 (List.drop 0 (u0.getD (IntKind.i64.wrap (t17 - (1:Int))).toNat [])))
 3),
 .str
 (gS (List.take 7 (List.drop 0 (u0.getD (IntKind.i64.wrap (t17 - (1:Int))).toNat [])))
 4),
 .sl SK.any 6
 (gR (List.take 7 (List.drop 0 (u0.getD (IntKind.i64.wrap (t17 - (1:Int))).toNat [])))
 5),
 .sl SK.any 7
 (gR (List.take 7 (List.drop 0 (u0.getD (IntKind.i64.wrap (t17 - (1:Int))).toNat [])))
 6)]).set
 (IntKind.i64.wrap (t17 - (1:Int))).toNat
 [.str (gS (List.take 7 (List.drop 0 (u0.getD t17.toNat []))) 0),
 .int .i64 (gI (List.take 7 (List.drop 0 (u0.getD t17.toNat []))) 1),
 .int .i64 (gI (List.take 7 (List.drop 0 (u0.getD t17.toNat []))) 2),
 .int .i64 (gI (List.take 7 (List.drop 0 (u0.getD t17.toNat []))) 3),
 .str (gS (List.take 7 (List.drop 0 (u0.getD t17.toNat []))) 4),
 .sl SK.any 6 (gR (List.take 7 (List.drop 0 (u0.getD t17.toNat []))) 5),
 .sl SK.any 7 (gR (List.take 7 (List.drop 0 (u0.getD t17.toNat []))) 6)]) K)))))))))
 (K (.exit (6)) ⟨[],[(Af, .arr 1 true 7 u0)]⟩))):G7 t14 t17 u0 K:=Bg (Ar E0 Aj) (Az Aj) 3 29 (Au 29 ac_slices_symMergeCmpFunc_Pair) [0,14,17] _ K rfl (kr (by kernel_rfl) h)
theorem Yl(t1 t3:Int)(t18 t20 t24:Int)(u0:LL)(K:KK)(h:
 (Let (bif decide (t1<t20)then decide (t20<t18)else false) fun x0=>
 Br (x0)
 (Call E0.P Eg [.own Af,Ai t1,Ai t20,Ai t18, .fn Ak []] [(Af, .arr 1 true 7 u0)] fun r1 g1=>
 Ah (qV2 g1 r1)
 (Gz t3 t18 t24 (Dk g1 Af) (Bu K)))
 (Gz t3 t18 t24 u0 (Bu K)))):Gy t1 t3 t18 t20 t24 u0 K:=Av (Ar E0 Aj) (Az Aj) 3 53 (Ac 53 ac_slices_symMergeCmpFunc_Pair) [] _ K rfl (kr (by kernel_rfl) h)
theorem Ym(t3 t18 t24:Int)(u0:LL)(K:KK)(h:
 (Let (bif decide (t18<t24)then decide (t24<t3)else false) fun x0=>
 Br (x0)
 (Call E0.P Eg [.own Af,Ai t18,Ai t24,Ai t3, .fn Ak []] [(Af, .arr 1 true 7 u0)] fun r1 g1=>
 Ah (qV2 g1 r1)
 (K .normal ⟨[],[(Af, .arr 1 true 7 (Dk g1 Af))]⟩))
 (K .normal ⟨[],[(Af, .arr 1 true 7 u0)]⟩))):Gz t3 t18 t24 u0 K:=Av (Ar E0 Aj) (Az Aj) 3 55 (Ac 55 ac_slices_symMergeCmpFunc_Pair) [] _ K rfl (kr (by kernel_rfl) h)
theorem Yf(u0:LL)(K:KK)(h:
 (K .ret ⟨[],[(Af, .arr 1 true 7 u0)]⟩)):O6 u0 K:=Av (Ar E0 Aj) (Az Aj) 3 16 (Ac 16 ac_slices_symMergeCmpFunc_Pair) [0,1,2,3,4] _ K rfl (kr (by kernel_rfl) h)
theorem Yi(u0:LL)(K:KK)(h:
 (K .ret ⟨[],[(Af, .arr 1 true 7 u0)]⟩)):O9 u0 K:=Av (Ar E0 Aj) (Az Aj) 3 34 (Ac 34 ac_slices_symMergeCmpFunc_Pair) [0,1,2,3,4] _ K rfl (kr (by kernel_rfl) h)
theorem Zr(rows:LL)(Q:QQ)(u0:LL)(h:
 (Q (.tup []) [(Af, .arr 1 true 7 u0)])):Fg rows Q .ret ⟨[],[(Af, .arr 1 true 7 u0)]⟩:=kr (by kernel_rfl) h
theorem Zt(rows:LL)(Q:QQ)(u0:LL)(h:
 (Q (.tup []) [(Af, .arr 1 true 7 u0)])):Fg rows Q .normal ⟨[],[(Af, .arr 1 true 7 u0)]⟩:=kr (by kernel_rfl) h
theorem Zu(rows:LL)(Q:QQ)(u0:LL)(h:
 (Q (.tup []) [(Af, .arr 1 true 7 u0)])):J4 rows Q .ret ⟨[],[(Af, .arr 1 true 7 u0)]⟩:=kr (by kernel_rfl) h
theorem Zv(rows:LL)(Q:QQ)(t1 t10:Int)(u0:LL)(h:
 (Qb t1 t10 u0 (J4 rows Q))):Qc rows Q (.exit 0) ⟨[(0, .own Af),(1,Ai t1),(10,Ai t10)],[(Af, .arr 1 true 7 u0)]⟩:=kr (by kernel_rfl) h
theorem C9(K:KK)(u0:LL)(h:
 (K .normal ⟨[],[(Af, .arr 1 true 7 u0)]⟩)):Bu K .normal ⟨[],[(Af, .arr 1 true 7 u0)]⟩:=kr (by kernel_rfl) h
theorem Zw(K:KK)(u0:LL)(h:
 (K .ret ⟨[],[(Af, .arr 1 true 7 u0)]⟩)):J5 K .ret ⟨[],[(Af, .arr 1 true 7 u0)]⟩:=kr (by kernel_rfl) h
theorem Zx(K:KK)(t2 t14:Int)(u0:LL)(h:
 (O8 t2 t14 u0 (J5 K))):Qd K (.exit (4)) ⟨[(0, .own Af),(2,Ai t2),(14,Ai t14)],[(Af, .arr 1 true 7 u0)]⟩:=kr (by kernel_rfl) h
theorem Zy(K:KK)(t1 t2:Int)(t3 t18:Int)(t19 t20:Int)(u0:LL)(h:
 (Gx t1 t2 t3 t18 t19 t20 u0 (Bu K))):J6 K (.exit (8)) ⟨[(0, .own Af),(1,Ai t1),(2,Ai t2),(3,Ai t3),(4, .fn Ak []),(18,Ai t18),(19,Ai t19),(20,Ai t20)],[(Af, .arr 1 true 7 u0)]⟩:=kr (by kernel_rfl) h
theorem Oa(K:KK)(u0:LL)(h:
 (K .ret ⟨[],[(Af, .arr 1 true 7 u0)]⟩)):Fh K .ret ⟨[],[(Af, .arr 1 true 7 u0)]⟩:=kr (by kernel_rfl) h
theorem Zz(K:KK)(u0:LL)(h:
 (O6 u0 (Fh K))):Qe K (.exit (2)) ⟨[],[(Af, .arr 1 true 7 u0)]⟩:=kr (by kernel_rfl) h
theorem Z0(K:KK)(u0:LL)(h:
 (O9 u0 (Fh K))):Qf K (.exit (6)) ⟨[],[(Af, .arr 1 true 7 u0)]⟩:=kr (by kernel_rfl) h
theorem Aem:Bo E0.P 110 ac_slices_symMergeCmpFunc_Pair.code Aj []:=Bh _ _ Tryz.f110 [(3,[0,1,4,10,11],[]),(5,[0,1,10],[]),(9,[0,1,10],[0,1,2,3,4]),(11,[0,10,13],[]),(13,[],[]),(16,[],[0,1,2,3,4]),(17,[0,1,2,3,4],[]),(21,[0,2,4,14,15],[]),(23,[0,2,14],[]),(27,[0,2,14],[0,1,2,3,4]),(29,[0,14,17],[]),(31,[],[]),(34,[],[0,1,2,3,4]),(35,[0,1,2,3,4],[]),(42,[0,1,2,3,4,18,19,20,21],[]),(44,[0,1,2,3,4,18,19,20,21,22],[]),(46,[0,1,2,3,4,18,19,20],[]),(50,[0,1,2,3,4,18,19,20],[]),(53,[0,1,3,4,18,20,24],[]),(55,[0,3,4,18,24],[])] [] _ 220 Tryz.func110 (by kernel_rfl) (by kernel_rfl) (by kernel_rfl) (by kernel_rfl)
theorem Abh(rows:LL)(a1 a2 a3:Int)(Q:QQ)(h:
 (Br (decide (IntKind.i64.wrap (a2 - a1)=(1:Int)))
 (Fj a1 a2 a3 rows (Qc rows Q))
 (O7 a1 a2 a3 rows (Fg rows Q)))):Call E0.P Eg [.own (.arg 0),Ai a1,Ai a2,Ai a3, .fn Ak []] [(.arg 0, .arr 1 true 7 rows)] Q:=A8 (Ar E0 Aj) (Az Aj) 3 1 110 ac_slices_symMergeCmpFunc_Pair [] Aem _ _ Q rfl rfl (kr (by kernel_rfl) h)
noncomputable def ac_slices_stableCmpFunc_Pair:AC:=(Bf [(2,[0,1,2,6,7,8],[]),(4,[0,1,2,6,7],[]),(8,[0,1,2,6,7],[]),(10,[0,1,2,6],[]),(12,[],[]),(15,[0,1,2,6,7,8],[]),(17,[0,1,2,6,7],[]),(21,[0,1,2,6,7],[0,1,2,6]),(24,[0,1,2,6],[0,1,2,6])] [] (codeOf Tryz.f77) 0).1
abbrev Ba:Nat:=63
def Ic(t1 t6:Int)(t7 t8:Int)(u0:LL)(K:KK):Prop:=Bi 2 E0.P Ba (Au 2 ac_slices_stableCmpFunc_Pair).code ⟨[(0, .own Af),(1,Ai t1),(2, .fn Ak []),(6,Ai t6),(7,Ai t7),(8,Ai t8)],[(Af, .arr 1 true 7 u0)]⟩ K
def Ry(t1 t6 t7:Int)(u0:LL)(K:KK):Prop:=Aq 8 E0.P Ba (Ac 8 ac_slices_stableCmpFunc_Pair).code ⟨[(0, .own Af),(1,Ai t1),(2, .fn Ak []),(6,Ai t6),(7,Ai t7)],[(Af, .arr 1 true 7 u0)]⟩ K
def Ee(t1 t6:Int)(u0:LL)(K:KK):Prop:=Bi 10 E0.P Ba (Au 10 ac_slices_stableCmpFunc_Pair).code ⟨[(0, .own Af),(1,Ai t1),(2, .fn Ak []),(6,Ai t6)],[(Af, .arr 1 true 7 u0)]⟩ K
def H5(t1 t6:Int)(t7 t8:Int)(u0:LL)(K:KK):Prop:=Bi 15 E0.P Ba (Au 15 ac_slices_stableCmpFunc_Pair).code ⟨[(0, .own Af),(1,Ai t1),(2, .fn Ak []),(6,Ai t6),(7,Ai t7),(8,Ai t8)],[(Af, .arr 1 true 7 u0)]⟩ K
def Qv(t1 t6 t7:Int)(u0:LL)(K:KK):Prop:=Aq 21 E0.P Ba (Ac 21 ac_slices_stableCmpFunc_Pair).code ⟨[(0, .own Af),(1,Ai t1),(2, .fn Ak []),(6,Ai t6),(7,Ai t7)],[(Af, .arr 1 true 7 u0)]⟩ K
def Hz(t1 t6:Int)(u0:LL)(K:KK):Prop:=Aq 24 E0.P Ba (Ac 24 ac_slices_stableCmpFunc_Pair).code ⟨[(0, .own Af),(1,Ai t1),(2, .fn Ak []),(6,Ai t6)],[(Af, .arr 1 true 7 u0)]⟩ K
def Ga(rows:LL)(Q:QQ):KK:=kE fun st=>finish (1) E0.T [] [(Af, .arr 1 true 7 rows)] Q st
def Lj(rows:LL)(Q:QQ):KK:=kF 0 (fun st=>Aq 8 E0.P Ba (Ac 8 ac_slices_stableCmpFunc_Pair).code (mask [0,1,2,6,7] st) (Ga rows Q)) fun st=>finish (1) E0.T [] [(Af, .arr 1 true 7 rows)] Q st
def Ia(K:KK):KK:=kC 2 (fun st=>K .normal (mask [] st)) K
def Gb(K:KK):KK:=kC 3 (fun st=>Bi 10 E0.P Ba (Au 10 ac_slices_stableCmpFunc_Pair).code (mask [0,1,2,6] st) K) K
def Ll(K:KK):Ex→St→Prop
 | .normal,st=>Aq 21 E0.P Ba (Ac 21 ac_slices_stableCmpFunc_Pair).code (mask [0,1,2,6,7] st) (Gb K)
 | .exit i,st=>(match (i.beq 4:Bool)with
 |true=>Aq 21 E0.P Ba (Ac 21 ac_slices_stableCmpFunc_Pair).code (mask [0,1,2,6,7] st) (Gb K)
 |false=>(match (i.beq 3:Bool)with
 |true=>Bi 10 E0.P Ba (Au 10 ac_slices_stableCmpFunc_Pair).code (mask [0,1,2,6] st) K
 |false=>K (.exit i) st))
 | .goto i,st=>K (.goto i) st
 | .ret,st=>K .ret st
def Ib(K:KK):KK:=kP [0,1,2,6] K
theorem Abz(t1 t6:Int)(t7 t8:Int)(u0:LL)(K:KK)(h:
 (Br (decide (t8≤t1))
 (Call E0.P F6 [.own Af,Ai t7,Ai t8, .fn Ak []] [(Af, .arr 1 true 7 u0)] fun r0 g0=>
 Ah (qV2 g0 r0)
 (Ic t1 t6 t8 (IntKind.i64.wrap (t8+t6)) (Dk g0 Af) K))
 (K (.exit 0) ⟨[(0, .own Af),(1,Ai t1),(2, .fn Ak []),(6,Ai t6),(7,Ai t7)],[(Af, .arr 1 true 7 u0)]⟩))):Ic t1 t6 t7 t8 u0 K:=Bg (Ar E0 Ba) (Az Ba) 3 2 (Au 2 ac_slices_stableCmpFunc_Pair) [0,1,2,6,7,8] _ K rfl (kr (by kernel_rfl) h)
theorem Abg(t1 t6 t7:Int)(u0:LL)(K:KK)(h:
 (Call E0.P F6 [.own Af,Ai t7,Ai t1, .fn Ak []] [(Af, .arr 1 true 7 u0)] fun r0 g0=>
 Ah (qV2 g0 r0)
 (Ee t1 t6 (Dk g0 Af) (Ia K)))):Ry t1 t6 t7 u0 K:=Av (Ar E0 Ba) (Az Ba) 3 8 (Ac 8 ac_slices_stableCmpFunc_Pair) [] _ K rfl (kr (by kernel_rfl) h)
theorem Ox(t1 t6:Int)(u0:LL)(K:KK)(h:
 (Br (decide (t6<t1))
 (H5 t1 t6 ((0:Int)) (IntKind.i64.wrap ((2:Int)*t6)) u0 (Ll K))
 (K (.exit (2)) ⟨[],[(Af, .arr 1 true 7 u0)]⟩))):Ee t1 t6 u0 K:=Bg (Ar E0 Ba) (Az Ba) 3 10 (Au 10 ac_slices_stableCmpFunc_Pair) [0,1,2,6] _ K rfl (kr (by kernel_rfl) h)
theorem Aai(t1 t6:Int)(t7 t8:Int)(u0:LL)(K:KK)(h:
 (Br (decide (t8≤t1))
 (Call E0.P Eg [.own Af,Ai t7,Ai (IntKind.i64.wrap (t7+t6)),Ai t8, .fn Ak []] [(Af, .arr 1 true 7 u0)] fun r0 g0=>
 Ah (qV2 g0 r0)
 (H5 t1 t6 t8 (IntKind.i64.wrap (t8+IntKind.i64.wrap ((2:Int)*t6))) (Dk g0 Af) K))
 (K (.exit (4)) ⟨[(0, .own Af),(1,Ai t1),(2, .fn Ak []),(6,Ai t6),(7,Ai t7)],[(Af, .arr 1 true 7 u0)]⟩))):H5 t1 t6 t7 t8 u0 K:=Bg (Ar E0 Ba) (Az Ba) 3 15 (Au 15 ac_slices_stableCmpFunc_Pair) [0,1,2,6,7,8] _ K rfl (kr (by kernel_rfl) h)
theorem Aaa(t1 t6 t7:Int)(u0:LL)(K:KK)(h:
 (Br (decide (IntKind.i64.wrap (t7+t6)<t1))
 (Call E0.P Eg [.own Af,Ai t7,Ai (IntKind.i64.wrap (t7+t6)),Ai t1, .fn Ak []] [(Af, .arr 1 true 7 u0)] fun r0 g0=>
 Ah (qV2 g0 r0)
 (Hz t1 t6 (Dk g0 Af) (Ib K)))
 (Hz t1 t6 u0 (Ib K)))):Qv t1 t6 t7 u0 K:=Av (Ar E0 Ba) (Az Ba) 3 21 (Ac 21 ac_slices_stableCmpFunc_Pair) [0,1,2,6] _ K rfl (kr (by kernel_rfl) h)
theorem Aab(t1 t6:Int)(u0:LL)(K:KK)(h:
 (K .normal ⟨[(0, .own Af),(1,Ai t1),(2, .fn Ak []),(6,Ai (IntKind.i64.wrap (t6*(2:Int))))],[(Af, .arr 1 true 7 u0)]⟩)):Hz t1 t6 u0 K:=Av (Ar E0 Ba) (Az Ba) 3 24 (Ac 24 ac_slices_stableCmpFunc_Pair) [0,1,2,6] _ K rfl (kr (by kernel_rfl) h)
theorem Abr(rows:LL)(Q:QQ)(u0:LL)(h:
 (Q (.tup []) [(Af, .arr 1 true 7 u0)])):Ga rows Q .normal ⟨[],[(Af, .arr 1 true 7 u0)]⟩:=kr (by kernel_rfl) h
theorem Abs(rows:LL)(Q:QQ)(t1 t6 t7:Int)(u0:LL)(h:
 (Ry t1 t6 t7 u0 (Ga rows Q))):Lj rows Q (.exit 0) ⟨[(0, .own Af),(1,Ai t1),(2, .fn Ak []),(6,Ai t6),(7,Ai t7)],[(Af, .arr 1 true 7 u0)]⟩:=kr (by kernel_rfl) h
theorem Abt(K:KK)(u0:LL)(h:
 (K .normal ⟨[],[(Af, .arr 1 true 7 u0)]⟩)):Ia K (.exit (2)) ⟨[],[(Af, .arr 1 true 7 u0)]⟩:=kr (by kernel_rfl) h
theorem Abu(K:KK)(t1 t6:Int)(u0:LL)(h:
 (Ee t1 t6 u0 K)):Gb K .normal ⟨[(0, .own Af),(1,Ai t1),(2, .fn Ak []),(6,Ai t6)],[(Af, .arr 1 true 7 u0)]⟩:=kr (by kernel_rfl) h
theorem Abv(K:KK)(t1 t6 t7:Int)(u0:LL)(h:
 (Qv t1 t6 t7 u0 (Gb K))):Ll K (.exit (4)) ⟨[(0, .own Af),(1,Ai t1),(2, .fn Ak []),(6,Ai t6),(7,Ai t7)],[(Af, .arr 1 true 7 u0)]⟩:=kr (by kernel_rfl) h
theorem Abw(K:KK)(t1 t6:Int)(u0:LL)(h:
 (K .normal ⟨[(0, .own Af),(1,Ai t1),(2, .fn Ak []),(6,Ai t6)],[(Af, .arr 1 true 7 u0)]⟩)):Ib K .normal ⟨[(0, .own Af),(1,Ai t1),(2, .fn Ak []),(6,Ai t6)],[(Af, .arr 1 true 7 u0)]⟩:=kr (by kernel_rfl) h
theorem Aga:Bo E0.P 77 ac_slices_stableCmpFunc_Pair.code Ba []:=Bh _ _ Tryz.f77 [(2,[0,1,2,6,7,8],[]),(4,[0,1,2,6,7],[]),(8,[0,1,2,6,7],[]),(10,[0,1,2,6],[]),(12,[],[]),(15,[0,1,2,6,7,8],[]),(17,[0,1,2,6,7],[]),(21,[0,1,2,6,7],[0,1,2,6]),(24,[0,1,2,6],[0,1,2,6])] [] _ 63 Tryz.func77 (by kernel_rfl) (by kernel_rfl) (by kernel_rfl) (by kernel_rfl)
theorem Ac3(rows:LL)(a1:Int)(Q:QQ)(h:
 (Ic a1 ((20:Int)) ((0:Int)) ((20:Int)) rows (Lj rows Q))):Call E0.P Mf [.own (.arg 0),Ai a1, .fn Ak []] [(.arg 0, .arr 1 true 7 rows)] Q:=A8 (Ar E0 Ba) (Az Ba) 3 1 77 ac_slices_stableCmpFunc_Pair [] Aga _ _ Q rfl rfl (kr (by kernel_rfl) h)
noncomputable def ac_slices_SortStableFunc_Pair:AC:=(Bf [] [] (codeOf Tryz.f48) 0).1
abbrev Lr:Nat:=9
theorem Aer:Bo E0.P 48 ac_slices_SortStableFunc_Pair.code Lr []:=Bh _ _ Tryz.f48 [] [] _ 9 Tryz.func48 (by kernel_rfl) (by kernel_rfl) (by kernel_rfl) (by kernel_rfl)
theorem Acu(rows:LL)(Q:QQ)(h:
 (Call E0.P Mf [.own Af,Ai ((↑rows.length:Int)), .fn Ak []] [(Af, .arr 1 true 7 rows)] fun r0 g0=>
 Ah (qV2 g0 r0)
 (Q (.tup []) [(Af, .arr 1 true 7 (Dk g0 Af))]))):Call E0.P Lp [.own (.arg 0), .fn Ak []] [(.arg 0, .arr 1 true 7 rows)] Q:=A8 (Ar E0 Lr) (Az Lr) 3 1 48 ac_slices_SortStableFunc_Pair [] Aer _ _ Q rfl rfl (kr (by kernel_rfl) h)
noncomputable def ac_slices_Clone_Pair:AC:=(Bf [] [2] (codeOf Tryz.f47) 0).1
abbrev Vj:Nat:=8
theorem Ate:Bo E0.P 47 ac_slices_Clone_Pair.code Vj [.tmp 2]:=Bh _ _ Tryz.f47 [] [2] _ 8 Tryz.func47 (by kernel_rfl) (by kernel_rfl) (by kernel_rfl) (by kernel_rfl)
theorem Aop(a0:LL)(Q:QQ)(h:
 (Bhm (a0=[])
 (Br (!false)
 (Q (.own nL0) ([]++[(Nm.loc 0,Entry.arr 0 true 7 [])]))
 (Ah ((0+a0.length)*104≤140737488355328∧0+a0.length≤140737488355328)
 (Q (.own nL0) ([]++[(Nm.loc 0,Entry.arr 0 true 7 ([]++a0))]))))
 (Br (false)
 (Q (.own nL0) ([]++[(Nm.loc 0,Entry.arr 0 true 7 [])]))
 (Ah ((0+a0.length)*104≤140737488355328∧0+a0.length≤140737488355328)
 (Q (.own nL0) ([]++[(Nm.loc 0,Entry.arr 0 true 7 ([]++a0))])))))):Call E0.P Ve [Al 7 a0] [] Q:=A8 (Ar E0 Vj) (Az Vj) 3 2 47 ac_slices_Clone_Pair [.tmp 2] Ate _ _ Q rfl rfl (kr (by kernel_rfl) h)
noncomputable def ac_slices_CompactFunc_Pair:AC:=(Bf [(5,[0,1,5],[]),(7,[0],[]),(12,[0,1,5,6,7],[]),(14,[0,5],[]),(18,[0,1,5,6,7],[0,1,5,6,7]),(19,[0,5],[0,1,5]),(22,[0,1,5],[0,1,5]),(23,[0],[])] [4] (codeOf Tryz.f51) 0).1
abbrev Bb:Nat:=66
def Jc(t5:Int)(u0:LL)(K:KK):Prop:=Bi 5 E0.P Bb (Au 5 ac_slices_CompactFunc_Pair).code ⟨[(0, .own Af),(1, .fn Cn []),(5,Ai t5)],[(Af, .arr 1 true 7 u0)]⟩ K
def Iy(t5:Int)(t6_2 t6_3:Nat)(t7:Int)(u0:LL)(K:KK):Prop:=Bi 12 E0.P Bb (Au 12 ac_slices_CompactFunc_Pair).code ⟨[(0, .own Af),(1, .fn Cn []),(5,Ai t5),(6, .win Af 7 t6_2 t6_3),(7,Ai t7)],[(Af, .arr 1 true 7 u0)]⟩ K
def Sn(t5:Int)(u0:LL)(K:KK):Prop:=Aq 22 E0.P Bb (Ac 22 ac_slices_CompactFunc_Pair).code ⟨[(0, .own Af),(1, .fn Cn []),(5,Ai t5)],[(Af, .arr 1 true 7 u0)]⟩ K
def Lu(t5:Int)(t6_2 t6_3:Nat)(t7:Int)(u0:LL)(K:KK):Prop:=Aq 18 E0.P Bb (Ac 18 ac_slices_CompactFunc_Pair).code ⟨[(0, .own Af),(1, .fn Cn []),(5,Ai t5),(6, .win Af 7 t6_2 t6_3),(7,Ai t7)],[(Af, .arr 1 true 7 u0)]⟩ K
def Sq(u0:LL)(K:KK):Prop:=Aq 23 E0.P Bb (Ac 23 ac_slices_CompactFunc_Pair).code ⟨[(0, .own Af)],[(Af, .arr 1 true 7 u0)]⟩ K
def Sl(t5:Int)(u0:LL)(K:KK):Prop:=Aq 19 E0.P Bb (Ac 19 ac_slices_CompactFunc_Pair).code ⟨[(0, .own Af),(5,Ai t5)],[(Af, .arr 1 true 7 u0)]⟩ K
def Ms(rows:LL)(Q:QQ):KK:=kE fun st=>finish (1) E0.T [.tmp 4] [(Af, .arr 1 true 7 rows)] Q st
def Gs(rows:LL)(Q:QQ):KK:=kF 0 (fun st=>Aq 23 E0.P Bb (Ac 23 ac_slices_CompactFunc_Pair).code (mask [0] st) (Ms rows Q)) fun st=>finish (1) E0.T [.tmp 4] [(Af, .arr 1 true 7 rows)] Q st
def Ja(K:KK):Ex→St→Prop
 | .normal,st=>Bi 5 E0.P Bb (Au 5 ac_slices_CompactFunc_Pair).code (mask [0,1,5] st) K
 | .exit i,st=>K (.exit i) st
 | .goto i,st=>K (.goto i) st
 | .ret,st=>K .ret st
def Jb(K:KK):KK:=kC 1 (fun st=>Aq 22 E0.P Bb (Ac 22 ac_slices_CompactFunc_Pair).code (mask [0,1,5] st) (Ja K)) K
def Mt(K:KK):Ex→St→Prop
 | .normal,st=>Aq 19 E0.P Bb (Ac 19 ac_slices_CompactFunc_Pair).code (mask [0,5] st) (Jb K)
 | .exit i,st=>(match (i.beq 2:Bool)with
 |true=>Aq 19 E0.P Bb (Ac 19 ac_slices_CompactFunc_Pair).code (mask [0,5] st) (Jb K)
 |false=>(match (i.beq 1:Bool)with
 |true=>Aq 22 E0.P Bb (Ac 22 ac_slices_CompactFunc_Pair).code (mask [0,1,5] st) (Ja K)
 |false=>K (.exit i) st))
 | .goto i,st=>K (.goto i) st
 | .ret,st=>K .ret st
def Mv(K:KK):Ex→St→Prop
 | .normal,st=>Bi 12 E0.P Bb (Au 12 ac_slices_CompactFunc_Pair).code (mask [0,1,5,6,7] st) K
 | .exit i,st=>K (.exit i) st
 | .goto i,st=>K (.goto i) st
 | .ret,st=>K .ret st
theorem Q5(t5:Int)(u0:LL)(K:KK)(h:
 (Br (decide (t5<(↑u0.length:Int)))
 (Ah ((0:Int)≤t5∧t5<(↑u0.length:Int))
 (Ah (t5.toNat<u0.length∧
 Bt
 [.str, .int .i64, .int .i64, .int .i64, .str, .sl 6 Aa,
 .sl 7 Ag]
 (List.take 7 (List.drop 0 (u0.getD t5.toNat [])))=
 true)
 (Ah ((0:Int)≤IntKind.i64.wrap (t5 - (1:Int))∧IntKind.i64.wrap (t5 - (1:Int))<(↑u0.length:Int))
 (Ah ((IntKind.i64.wrap (t5 - (1:Int))).toNat<u0.length∧
 Bt
 [.str, .int .i64, .int .i64, .int .i64, .str, .sl 6 Aa,
 .sl 7 Ag]
 (List.take 7 (List.drop 0 (u0.getD (IntKind.i64.wrap (t5 - (1:Int))).toNat [])))=
 true)
 (Call E0.P Cn [.imm (.agg [.str (gS (List.take 7 (List.drop 0 (u0.getD t5.toNat []))) 0), .int .i64 (gI (List.take 7 (List.drop 0 (u0.getD t5.toNat []))) 1), .int .i64 (gI (List.take 7 (List.drop 0 (u0.getD t5.toNat []))) 2), .int .i64 (gI (List.take 7 (List.drop 0 (u0.getD t5.toNat []))) 3), .str (gS (List.take 7 (List.drop 0 (u0.getD t5.toNat []))) 4), .sl .any 6 (gR (List.take 7 (List.drop 0 (u0.getD t5.toNat []))) 5), .sl .any 7 (gR (List.take 7 (List.drop 0 (u0.getD t5.toNat []))) 6)]), .imm (.agg [.str (gS (List.take 7 (List.drop 0 (u0.getD (IntKind.i64.wrap (t5 - (1:Int))).toNat []))) 0), .int .i64 (gI (List.take 7 (List.drop 0 (u0.getD (IntKind.i64.wrap (t5 - (1:Int))).toNat []))) 1), .int .i64 (gI (List.take 7 (List.drop 0 (u0.getD (IntKind.i64.wrap (t5 - (1:Int))).toNat []))) 2), .int .i64 (gI (List.take 7 (List.drop 0 (u0.getD (IntKind.i64.wrap (t5 - (1:Int))).toNat []))) 3), .str (gS (List.take 7 (List.drop 0 (u0.getD (IntKind.i64.wrap (t5 - (1:Int))).toNat []))) 4), .sl .any 6 (gR (List.take 7 (List.drop 0 (u0.getD (IntKind.i64.wrap (t5 - (1:Int))).toNat []))) 5), .sl .any 7 (gR (List.take 7 (List.drop 0 (u0.getD (IntKind.i64.wrap (t5 - (1:Int))).toNat []))) 6)])] [] fun r0 g0=>
 Ah (qV0 g0 r0)
 (Br (rB r0)
 (Ah ((0:Int)≤t5∧t5≤(↑u0.length:Int))
 (Iy t5 t5.toNat (u0.length - t5.toNat) ((1:Int)) u0 (Mt K)))
 (Sn t5 u0 (Ja K))))))))
 (K (.exit 0) ⟨[(0, .own Af)],[(Af, .arr 1 true 7 u0)]⟩))):Jc t5 u0 K:=Bg (Ar E0 Bb) (Az Bb) 3 5 (Au 5 ac_slices_CompactFunc_Pair) [0,1,5] _ K rfl (kr (by kernel_rfl) h)
theorem Qg(t5:Int)(t6_2 t6_3:Nat)(t7:Int)(u0:LL)(K:KK)(h:
 (Br (decide (t7<(↑t6_3:Int)))
 (Ah ((0:Int)≤t7∧t7<(↑t6_3:Int))
 (Ah (addN t6_2 t7.toNat<u0.length∧
 Bt
 [.str, .int .i64, .int .i64, .int .i64, .str, .sl 6 Aa,
 .sl 7 Ag]
 (List.take 7 (List.drop 0 (u0.getD (addN t6_2 t7.toNat) [])))=
 true)
 (Ah ((0:Int)≤IntKind.i64.wrap (t7 - (1:Int))∧IntKind.i64.wrap (t7 - (1:Int))<(↑t6_3:Int))
 (Ah (addN t6_2 (IntKind.i64.wrap (t7 - (1:Int))).toNat<u0.length∧
 Bt
 [.str, .int .i64, .int .i64, .int .i64, .str, .sl 6 Aa,
 .sl 7 Ag]
 (List.take 7 (List.drop 0 (u0.getD (addN t6_2 (IntKind.i64.wrap (t7 - (1:Int))).toNat) [])))=
 true)
 (Call E0.P Cn [.imm (.agg [.str (gS (List.take 7 (List.drop 0 (u0.getD (addN t6_2 t7.toNat) []))) 0), .int .i64 (gI (List.take 7 (List.drop 0 (u0.getD (addN t6_2 t7.toNat) []))) 1), .int .i64 (gI (List.take 7 (List.drop 0 (u0.getD (addN t6_2 t7.toNat) []))) 2), .int .i64 (gI (List.take 7 (List.drop 0 (u0.getD (addN t6_2 t7.toNat) []))) 3), .str (gS (List.take 7 (List.drop 0 (u0.getD (addN t6_2 t7.toNat) []))) 4), .sl .any 6 (gR (List.take 7 (List.drop 0 (u0.getD (addN t6_2 t7.toNat) []))) 5), .sl .any 7 (gR (List.take 7 (List.drop 0 (u0.getD (addN t6_2 t7.toNat) []))) 6)]), .imm (.agg [.str (gS (List.take 7 (List.drop 0 (u0.getD (addN t6_2 (IntKind.i64.wrap (t7 - (1:Int))).toNat) [])))
 0), .int .i64 (gI (List.take 7 (List.drop 0 (u0.getD (addN t6_2 (IntKind.i64.wrap (t7 - (1:Int))).toNat) [])))
 1), .int .i64 (gI (List.take 7 (List.drop 0 (u0.getD (addN t6_2 (IntKind.i64.wrap (t7 - (1:Int))).toNat) [])))
 2), .int .i64 (gI (List.take 7 (List.drop 0 (u0.getD (addN t6_2 (IntKind.i64.wrap (t7 - (1:Int))).toNat) [])))
 3), .str (gS (List.take 7 (List.drop 0 (u0.getD (addN t6_2 (IntKind.i64.wrap (t7 - (1:Int))).toNat) [])))
 4), .sl .any 6 (gR (List.take 7 (List.drop 0 (u0.getD (addN t6_2 (IntKind.i64.wrap (t7 - (1:Int))).toNat) [])))
 5), .sl .any 7 (gR (List.take 7 (List.drop 0 (u0.getD (addN t6_2 (IntKind.i64.wrap (t7 - (1:Int))).toNat) [])))
 6)])] [] fun r0 g0=>
 Ah (qV0 g0 r0)
 (Br (!rB r0)
 (Ah ((0:Int)≤t7∧t7<(↑t6_3:Int))
 (Ah (addN t6_2 t7.toNat<u0.length∧
 Bt
 [.str, .int .i64, .int .i64, .int .i64, .str, .sl 6 Aa,
 .sl 7 Ag]
 (List.take 7 (List.drop 0 (u0.getD (addN t6_2 t7.toNat) [])))=
 true)
 (Ah ((0:Int)≤t5∧t5<(↑u0.length:Int))
 (Ah (t5.toNat<u0.length)
 (Lu (IntKind.i64.wrap (t5+(1:Int))) t6_2 t6_3 t7 (u0.set t5.toNat
 [.str (gS (List.take 7 (List.drop 0 (u0.getD (addN t6_2 t7.toNat) []))) 0),
 .int .i64 (gI (List.take 7 (List.drop 0 (u0.getD (addN t6_2 t7.toNat) []))) 1),
 .int .i64 (gI (List.take 7 (List.drop 0 (u0.getD (addN t6_2 t7.toNat) []))) 2),
 .int .i64 (gI (List.take 7 (List.drop 0 (u0.getD (addN t6_2 t7.toNat) []))) 3),
 .str (gS (List.take 7 (List.drop 0 (u0.getD (addN t6_2 t7.toNat) []))) 4),
 .sl SK.any 6
 (gR (List.take 7 (List.drop 0 (u0.getD (addN t6_2 t7.toNat) []))) 5),
 .sl SK.any 7
 (gR (List.take 7 (List.drop 0 (u0.getD (addN t6_2 t7.toNat) []))) 6)]) (Mv K))))))
 (Lu t5 t6_2 t6_3 t7 u0 (Mv K))))))))
 (K (.exit (2)) ⟨[(0, .own Af),(5,Ai t5)],[(Af, .arr 1 true 7 u0)]⟩))):Iy t5 t6_2 t6_3 t7 u0 K:=Bg (Ar E0 Bb) (Az Bb) 3 12 (Au 12 ac_slices_CompactFunc_Pair) [0,1,5,6,7] _ K rfl (kr (by kernel_rfl) h)
theorem Acr(t5:Int)(u0:LL)(K:KK)(h:
 (K .normal ⟨[(0, .own Af),(1, .fn Cn []),(5,Ai (IntKind.i64.wrap (t5+(1:Int))))],[(Af, .arr 1 true 7 u0)]⟩)):Sn t5 u0 K:=Av (Ar E0 Bb) (Az Bb) 3 22 (Ac 22 ac_slices_CompactFunc_Pair) [0,1,5] _ K rfl (kr (by kernel_rfl) h)
theorem Qa(t5:Int)(t6_2 t6_3:Nat)(t7:Int)(u0:LL)(K:KK)(h:
 (K .normal ⟨[(0, .own Af),(1, .fn Cn []),(5,Ai t5),(6, .win Af 7 t6_2 t6_3),(7,Ai (IntKind.i64.wrap (t7+(1:Int))))],[(Af, .arr 1 true 7 u0)]⟩)):Lu t5 t6_2 t6_3 t7 u0 K:=Av (Ar E0 Bb) (Az Bb) 3 18 (Ac 18 ac_slices_CompactFunc_Pair) [0,1,5,6,7] _ K rfl (kr (by kernel_rfl) h)
theorem Acs(u0:LL)(K:KK)(h:
 (K .ret ⟨[(4, .own Af)],[(Af, .arr 1 true 7 u0)]⟩)):Sq u0 K:=Av (Ar E0 Bb) (Az Bb) 3 23 (Ac 23 ac_slices_CompactFunc_Pair) [] _ K rfl (kr (by kernel_rfl) h)
theorem Acp(t5:Int)(u0:LL)(K:KK)(h:
 (Ah ((0:Int)≤t5∧t5≤(↑u0.length:Int))
 (Ah ((0:Int)≤t5∧
 t5≤
 (↑(Lc
 [.str [], .int .i64 (0:Int), .int .i64 (0:Int), .int .i64 (0:Int),
 .str [], .sl SK.nil (6:Nat) [], .sl SK.nil (7:Nat) []]
 t5.toNat (u0.length - t5.toNat) u0).length:
 Int))
 (K .ret ⟨[(4, .win Af 7 0 (t5.toNat - 0))],[(Af, .arr 1 true 7 (Lc
 [.str [], .int .i64 (0:Int), .int .i64 (0:Int), .int .i64 (0:Int), .str [],
 .sl SK.nil 6 [], .sl SK.nil 7 []]
 t5.toNat (u0.length - t5.toNat) u0))]⟩)))):Sl t5 u0 K:=Av (Ar E0 Bb) (Az Bb) 3 19 (Ac 19 ac_slices_CompactFunc_Pair) [0,1,5] _ K rfl (kr (by kernel_rfl) h)
theorem Ac8(rows:LL)(Q:QQ)(u0:LL)(h:
 (Q (.win Af 7 0 u0.length) [(Af, .arr 1 true 7 u0)])):Ms rows Q .ret ⟨[(4, .own Af)],[(Af, .arr 1 true 7 u0)]⟩:=kr (by kernel_rfl) h
theorem Ac9(rows:LL)(Q:QQ)(u0:LL)(h:
 (Sq u0 (Ms rows Q))):Gs rows Q (.exit 0) ⟨[(0, .own Af)],[(Af, .arr 1 true 7 u0)]⟩:=kr (by kernel_rfl) h
theorem Ada(rows:LL)(Q:QQ)(t4_2 t4_3:Nat)(u0:LL)(h:
 (Q (.win Af 7 t4_2 t4_3) [(Af, .arr 1 true 7 u0)])):Gs rows Q .ret ⟨[(4, .win Af 7 t4_2 t4_3)],[(Af, .arr 1 true 7 u0)]⟩:=kr (by kernel_rfl) h
theorem Adb(K:KK)(t5:Int)(u0:LL)(h:
 (Jc t5 u0 K)):Ja K .normal ⟨[(0, .own Af),(1, .fn Cn []),(5,Ai t5)],[(Af, .arr 1 true 7 u0)]⟩:=kr (by kernel_rfl) h
theorem Adc(K:KK)(t4_2 t4_3:Nat)(u0:LL)(h:
 (K .ret ⟨[(4, .win Af 7 t4_2 t4_3)],[(Af, .arr 1 true 7 u0)]⟩)):Jb K .ret ⟨[(4, .win Af 7 t4_2 t4_3)],[(Af, .arr 1 true 7 u0)]⟩:=kr (by kernel_rfl) h
theorem Ade(K:KK)(t5:Int)(u0:LL)(h:
 (Sl t5 u0 (Jb K))):Mt K (.exit (2)) ⟨[(0, .own Af),(5,Ai t5)],[(Af, .arr 1 true 7 u0)]⟩:=kr (by kernel_rfl) h
theorem Qy(K:KK)(t5:Int)(t6_2 t6_3:Nat)(t7:Int)(u0:LL)(h:
 (Iy t5 t6_2 t6_3 t7 u0 K)):Mv K .normal ⟨[(0, .own Af),(1, .fn Cn []),(5,Ai t5),(6, .win Af 7 t6_2 t6_3),(7,Ai t7)],[(Af, .arr 1 true 7 u0)]⟩:=kr (by kernel_rfl) h
theorem Ai8:Bo E0.P 51 ac_slices_CompactFunc_Pair.code Bb [.tmp 4]:=Bh _ _ Tryz.f51 [(5,[0,1,5],[]),(7,[0],[]),(12,[0,1,5,6,7],[]),(14,[0,5],[]),(18,[0,1,5,6,7],[0,1,5,6,7]),(19,[0,5],[0,1,5]),(22,[0,1,5],[0,1,5]),(23,[0],[])] [4] _ 66 Tryz.func51 (by kernel_rfl) (by kernel_rfl) (by kernel_rfl) (by kernel_rfl)
theorem Ae7(rows:LL)(Q:QQ)(h:
 (Br (decide ((↑rows.length:Int)<(2:Int)))
 (Q (.win Af 7 0 rows.length) [(Af, .arr 1 true 7 rows)])
 (Jc ((1:Int)) rows (Gs rows Q)))):Call E0.P Nz [.own (.arg 0), .fn Cn []] [(.arg 0, .arr 1 true 7 rows)] Q:=A8 (Ar E0 Bb) (Az Bb) 3 1 51 ac_slices_CompactFunc_Pair [.tmp 4] Ai8 _ _ Q rfl rfl (kr (by kernel_rfl) h)
noncomputable def ac_slices_BinarySearchFunc_Pair_string:AC:=(Bf [(3,[0,1,2,8,9,10],[]),(5,[0,1,2,8,9],[]),(9,[0,1,2,8,9],[])] [6,7] (codeOf Tryz.f53) 0).1
abbrev Cb:Nat:=49
def Dr(t0r:LL)(t1:LB)(t8 t9 t10:Int)(K:KK):Prop:=Bi 3 E0.P Cb (Au 3 ac_slices_BinarySearchFunc_Pair_string).code ⟨[(0,Al 7 t0r),(1,As t1),(2, .fn Eo []),(8,Ai t8),(9,Ai t9),(10,Ai t10)],[]⟩ K
def K6(t0r:LL)(t1:LB)(t8 t9:Int)(K:KK):Prop:=Aq 9 E0.P Cb (Ac 9 ac_slices_BinarySearchFunc_Pair_string).code ⟨[(0,Al 7 t0r),(1,As t1),(2, .fn Eo []),(8,Ai t8),(9,Ai t9)],[]⟩ K
def G9(Q:QQ):KK:=kE fun st=>finish 0 E0.T [.tmp 6, .tmp 7] [] Q st
def K9(Q:QQ):KK:=kF 0 (fun st=>Aq 9 E0.P Cb (Ac 9 ac_slices_BinarySearchFunc_Pair_string).code (mask [0,1,2,8,9] st) (G9 Q)) fun st=>finish 0 E0.T [.tmp 6, .tmp 7] [] Q st
theorem Jv(t0r:LL)(t1:LB)(t8 t9 t10:Int)(K:KK)(h:
 (Br (decide (t9<t10))
 (Ah ((0:Int)≤(1:Int))
 (Ah (((0:Int)≤IntKind.i64.wrap ((IntKind.u64.wrap (IntKind.i64.wrap (t9+t10))).fdiv ((2:Int) ^ 1))∧
 IntKind.i64.wrap ((IntKind.u64.wrap (IntKind.i64.wrap (t9+t10))).fdiv ((2:Int) ^ 1))<
 (↑t0r.length:Int))∧
 Bt
 [.str, .int .i64, .int .i64, .int .i64, .str, .sl 6 Aa,
 .sl 7 Ag]
 (t0r.getD (IntKind.i64.wrap ((IntKind.u64.wrap (IntKind.i64.wrap (t9+t10))).fdiv ((2:Int) ^ 1))).toNat
 [])=
 true)
 (Call E0.P Eo [.imm (.agg [.str (gS
 (t0r.getD (IntKind.i64.wrap ((IntKind.u64.wrap (IntKind.i64.wrap (t9+t10))).fdiv ((2:Int) ^ 1))).toNat [])
 0), .int .i64 (gI
 (t0r.getD (IntKind.i64.wrap ((IntKind.u64.wrap (IntKind.i64.wrap (t9+t10))).fdiv ((2:Int) ^ 1))).toNat [])
 1), .int .i64 (gI
 (t0r.getD (IntKind.i64.wrap ((IntKind.u64.wrap (IntKind.i64.wrap (t9+t10))).fdiv ((2:Int) ^ 1))).toNat [])
 2), .int .i64 (gI
 (t0r.getD (IntKind.i64.wrap ((IntKind.u64.wrap (IntKind.i64.wrap (t9+t10))).fdiv ((2:Int) ^ 1))).toNat [])
 3), .str (gS
 (t0r.getD (IntKind.i64.wrap ((IntKind.u64.wrap (IntKind.i64.wrap (t9+t10))).fdiv ((2:Int) ^ 1))).toNat [])
 4), .sl .any 6 (gR
 (t0r.getD (IntKind.i64.wrap ((IntKind.u64.wrap (IntKind.i64.wrap (t9+t10))).fdiv ((2:Int) ^ 1))).toNat [])
 5), .sl .any 7 (gR
 (t0r.getD (IntKind.i64.wrap ((IntKind.u64.wrap (IntKind.i64.wrap (t9+t10))).fdiv ((2:Int) ^ 1))).toNat [])
 6)]),As t1] [] fun r0 g0=>
 Ah (qV1 g0 r0)
 (Br (decide (rI r0<(0:Int)))
 (Dr t0r t1 t8 (IntKind.i64.wrap
 (IntKind.i64.wrap ((IntKind.u64.wrap (IntKind.i64.wrap (t9+t10))).fdiv ((2:Int) ^ 1))+(1:Int))) t10 K)
 (Dr t0r t1 t8 t9 (IntKind.i64.wrap ((IntKind.u64.wrap (IntKind.i64.wrap (t9+t10))).fdiv ((2:Int) ^ 1))) K)))))
 (K (.exit 0) ⟨[(0,Al 7 t0r),(1,As t1),(2, .fn Eo []),(8,Ai t8),(9,Ai t9)],[]⟩))):Dr t0r t1 t8 t9 t10 K:=Bg (Ar E0 Cb) (Az Cb) 3 3 (Au 3 ac_slices_BinarySearchFunc_Pair_string) [0,1,2,8,9,10] _ K rfl (kr (by kernel_rfl) h)
theorem Sk(t0r:LL)(t1:LB)(t8 t9:Int)(K:KK)(h:
 (Ah (decide (t9<t8)=true→
 ((0:Int)≤t9∧t9<(↑t0r.length:Int))∧
 Bt
 [.str, .int .i64, .int .i64, .int .i64, .str, .sl 6 Aa,
 .sl 7 Ag]
 (t0r.getD t9.toNat [])=
 true)
 (Br (decide (t9<t8) == true)
 (Call E0.P Eo [.imm (.agg [.str (gS (t0r.getD t9.toNat []) 0), .int .i64 (gI (t0r.getD t9.toNat []) 1), .int .i64 (gI (t0r.getD t9.toNat []) 2), .int .i64 (gI (t0r.getD t9.toNat []) 3), .str (gS (t0r.getD t9.toNat []) 4), .sl .any 6 (gR (t0r.getD t9.toNat []) 5), .sl .any 7 (gR (t0r.getD t9.toNat []) 6)]),As t1] [] fun r0 g0=>
 Ah (qV1 g0 r0)
 (Let (decide (rI r0=(0:Int))) fun x1=>
 K .ret ⟨[(6,Ai t9),(7,Ab x1)],[]⟩))
 (Ah ((!true)=false)
 (Let (false) fun x2=>
 K .ret ⟨[(6,Ai t9),(7,Ab x2)],[]⟩))))):K6 t0r t1 t8 t9 K:=Av (Ar E0 Cb) (Az Cb) 3 9 (Ac 9 ac_slices_BinarySearchFunc_Pair_string) [] _ K rfl (kr (by kernel_rfl) h)
theorem Js(Q:QQ)(t6:Int)(t7:Bool)(h:
 (Q (.tup [Ai t6,Ab t7]) [])):G9 Q .ret ⟨[(6,Ai t6),(7,Ab t7)],[]⟩:=kr (by kernel_rfl) h
theorem Su(Q:QQ)(t0r:LL)(t1:LB)(t8 t9:Int)(h:
 (K6 t0r t1 t8 t9 (G9 Q))):K9 Q (.exit 0) ⟨[(0,Al 7 t0r),(1,As t1),(2, .fn Eo []),(8,Ai t8),(9,Ai t9)],[]⟩:=kr (by kernel_rfl) h
theorem Wj:Bo E0.P 53 ac_slices_BinarySearchFunc_Pair_string.code Cb [.tmp 6, .tmp 7]:=Bh _ _ Tryz.f53 [(3,[0,1,2,8,9,10],[]),(5,[0,1,2,8,9],[]),(9,[0,1,2,8,9],[])] [6,7] _ 49 Tryz.func53 (by kernel_rfl) (by kernel_rfl) (by kernel_rfl) (by kernel_rfl)
theorem Ur(a0:LL)(a1:LB)(Q:QQ)(h:
 (Dr a0 a1 ((↑a0.length:Int)) ((0:Int)) ((↑a0.length:Int)) (K9 Q))):Call E0.P Hw [Al 7 a0,As a1, .fn Eo []] [] Q:=A8 (Ar E0 Cb) (Az Cb) 3 0 53 ac_slices_BinarySearchFunc_Pair_string [.tmp 6, .tmp 7] Wj _ _ Q rfl rfl (kr (by kernel_rfl) h)
noncomputable def ac_value_place:AC:=(Bf [] [4,5] (codeOf Tryz.f35) 0).1
abbrev Af7:Nat:=11
theorem A8p:Bo E0.P 35 ac_value_place.code Af7 [.tmp 4, .tmp 5]:=Bh _ _ Tryz.f35 [] [4,5] _ 11 Tryz.func35 (by kernel_rfl) (by kernel_rfl) (by kernel_rfl) (by kernel_rfl)
theorem A1b(a0:LL)(a1:LB)(Q:QQ)(h:
 (Call E0.P Hw [Al 7 a0,As a1, .fn Eo []] [] fun r0 g0=>
 Ah (g0=[]∧r0= .tup [.imm (.int .i64 (rI (rT r0 0))), .imm (.bool (rB (rT r0 1)))])
 (Q (.tup [Ai (rI (rT r0 0)),Ab (rB (rT r0 1))]) []))):Call E0.P Aft [Al 7 a0,As a1] [] Q:=A8 (Ar E0 Af7) (Az Af7) 3 0 35 ac_value_place [.tmp 4, .tmp 5] A8p _ _ Q rfl rfl (kr (by kernel_rfl) h)
noncomputable def ac_value_has:AC:=(Bf [(5,[2,4,8],[2]),(8,[2,4,12],[2]),(18,[2],[])] [2,3] (codeOf Tryz.f33) 0).1
abbrev Gl:Nat:=29
def Aas(t4:Int)(t8 u0:Bool)(u1 u2:Bool)(u3 u4:Bool)(K:KK):Prop:=Aq 5 E0.P Gl (Ac 5 ac_value_has).code ⟨[(2, .ptr nL2 0),(4,Ai t4),(8,Ab t8)],[(nL2, .blk Bw [Ab u0,Ab u1,Ab u2,Ab u3,Ab u4])]⟩ K
def Aat(t4:Int)(t12 u0:Bool)(u1 u2:Bool)(u3 u4:Bool)(K:KK):Prop:=Aq 8 E0.P Gl (Ac 8 ac_value_has).code ⟨[(2, .ptr nL2 0),(4,Ai t4),(12,Ab t12)],[(nL2, .blk Bw [Ab u0,Ab u1,Ab u2,Ab u3,Ab u4])]⟩ K
def Aqa(u0 u1:Bool)(u2 u3 u4:Bool)(K:KK):Prop:=Aq 18 E0.P Gl (Ac 18 ac_value_has).code ⟨[(2, .ptr nL2 0)],[(nL2, .blk Bw [Ab u0,Ab u1,Ab u2,Ab u3,Ab u4])]⟩ K
def Ais(Q:QQ):KK:=kE fun st=>finish 0 E0.T [.cell 2 69, .tmp 3] [] Q st
def Qm(Q:QQ):KK:=kF 0 (fun st=>Aq 18 E0.P Gl (Ac 18 ac_value_has).code (mask [2] st) (Ais Q)) fun st=>finish 0 E0.T [.cell 2 69, .tmp 3] [] Q st
def Vt(K:KK):KK:=kP [2] K
theorem A0y(t4:Int)(t8 u0:Bool)(u1 u2:Bool)(u3 u4:Bool)(K:KK)(h:
 (Br (t8)
 (K .ret ⟨[(2, .ptr nL2 0),(3,Ab true)],[(nL2, .blk Bw [Ab true,Ab false,Ab false,Ab false,Ab false])]⟩)
 (Br (decide (t4=(3:Int)))
 (Aat t4 (decide (t4=(3:Int))) u0 u1 u2 u3 u4 (Vt K))
 (Aat t4 (decide (t4=(4:Int))) u0 u1 u2 u3 u4 (Vt K))))):Aas t4 t8 u0 u1 u2 u3 u4 K:=Av (Ar E0 Gl) (Az Gl) 3 5 (Ac 5 ac_value_has) [2] _ K rfl (kr (by kernel_rfl) h)
theorem A0z(t4:Int)(t12 u0:Bool)(u1 u2:Bool)(u3 u4:Bool)(K:KK)(h:
 (Br (t12)
 (K .ret ⟨[(2, .ptr nL2 0),(3,Ab true)],[(nL2, .blk Bw [Ab false,Ab false,Ab true,Ab false,Ab false])]⟩)
 (Br (decide (t4=(5:Int)))
 (K .ret ⟨[(2, .ptr nL2 0),(3,Ab true)],[(nL2, .blk Bw [Ab false,Ab false,Ab false,Ab true,Ab false])]⟩)
 (Br (decide (t4=(6:Int)))
 (K .ret ⟨[(2, .ptr nL2 0),(3,Ab true)],[(nL2, .blk Bw [Ab false,Ab false,Ab false,Ab false,Ab true])]⟩)
 (Br (decide (t4=(7:Int)))
 (K .ret ⟨[(2, .ptr nL2 0),(3,Ab true)],[(nL2, .blk Bw [Ab true,Ab true,Ab false,Ab false,Ab false])]⟩)
 (Br (decide (t4=(8:Int)))
 (K .ret ⟨[(2, .ptr nL2 0),(3,Ab true)],[(nL2, .blk Bw [Ab false,Ab false,Ab true,Ab false,Ab true])]⟩)
 (K .normal ⟨[(2, .ptr nL2 0)],[(nL2, .blk Bw [Ab u0,Ab u1,Ab u2,Ab u3,Ab u4])]⟩))))))):Aat t4 t12 u0 u1 u2 u3 u4 K:=Av (Ar E0 Gl) (Az Gl) 3 8 (Ac 8 ac_value_has) [2] _ K rfl (kr (by kernel_rfl) h)
theorem Azd(u0 u1:Bool)(u2 u3 u4:Bool)(K:KK)(h:
 (K .ret ⟨[(2, .ptr nL2 0),(3,Ab false)],[(nL2, .blk Bw [Ab false,Ab false,Ab false,Ab false,Ab false])]⟩)):Aqa u0 u1 u2 u3 u4 K:=Av (Ar E0 Gl) (Az Gl) 3 18 (Ac 18 ac_value_has) [] _ K rfl (kr (by kernel_rfl) h)
theorem A2h(Q:QQ)(t3 u0:Bool)(u1 u2:Bool)(u3 u4:Bool)(h:
 (Q (.tup [.imm (.agg [.bool u0, .bool u1, .bool u2, .bool u3, .bool u4]),Ab t3]) [])):Ais Q .ret ⟨[(2, .ptr nL2 0),(3,Ab t3)],[(nL2, .blk Bw [Ab u0,Ab u1,Ab u2,Ab u3,Ab u4])]⟩:=kr (by kernel_rfl) h
theorem L6(Q:QQ)(t3 u0:Bool)(u1 u2:Bool)(u3 u4:Bool)(h:
 (Q (.tup [.imm (.agg [.bool u0, .bool u1, .bool u2, .bool u3, .bool u4]),Ab t3]) [])):Qm Q .ret ⟨[(2, .ptr nL2 0),(3,Ab t3)],[(nL2, .blk Bw [Ab u0,Ab u1,Ab u2,Ab u3,Ab u4])]⟩:=kr (by kernel_rfl) h
theorem A2i(Q:QQ)(u0 u1:Bool)(u2 u3 u4:Bool)(h:
 (Aqa u0 u1 u2 u3 u4 (Ais Q))):Qm Q .normal ⟨[(2, .ptr nL2 0)],[(nL2, .blk Bw [Ab u0,Ab u1,Ab u2,Ab u3,Ab u4])]⟩:=kr (by kernel_rfl) h
theorem Ph(K:KK)(t3 u0:Bool)(u1 u2:Bool)(u3 u4:Bool)(h:
 (K .ret ⟨[(2, .ptr nL2 0),(3,Ab t3)],[(nL2, .blk Bw [Ab u0,Ab u1,Ab u2,Ab u3,Ab u4])]⟩)):Vt K .ret ⟨[(2, .ptr nL2 0),(3,Ab t3)],[(nL2, .blk Bw [Ab u0,Ab u1,Ab u2,Ab u3,Ab u4])]⟩:=kr (by kernel_rfl) h
theorem A2j(K:KK)(u0 u1:Bool)(u2 u3 u4:Bool)(h:
 (K .normal ⟨[(2, .ptr nL2 0)],[(nL2, .blk Bw [Ab u0,Ab u1,Ab u2,Ab u3,Ab u4])]⟩)):Vt K .normal ⟨[(2, .ptr nL2 0)],[(nL2, .blk Bw [Ab u0,Ab u1,Ab u2,Ab u3,Ab u4])]⟩:=kr (by kernel_rfl) h
theorem Bel:Bo E0.P 33 ac_value_has.code Gl [.cell 2 69, .tmp 3]:=Bh _ _ Tryz.f33 [(5,[2,4,8],[2]),(8,[2,4,12],[2]),(18,[2],[])] [2,3] _ 29 Tryz.func33 (by kernel_rfl) (by kernel_rfl) (by kernel_rfl) (by kernel_rfl)
theorem A6y(a0:Int)(Q:QQ)(h:
 (Br (decide (a0=(0:Int)))
 (Q (.tup [.imm (.agg [.bool false, .bool false, .bool false, .bool false, .bool false]),Ab true]) [])
 (Br (decide (a0=(1:Int)))
 (Aas a0 (decide (a0=(1:Int))) false false false false false (Qm Q))
 (Aas a0 (decide (a0=(2:Int))) false false false false false (Qm Q))))):Call E0.P Aec [Ai a0] [] Q:=A8 (Ar E0 Gl) (Az Gl) 3 0 33 ac_value_has [.cell 2 69, .tmp 3] Bel _ _ Q rfl rfl (kr (by kernel_rfl) h)
noncomputable def ac_value_plainPairs:AC:=(Bf [(6,[4,14,15,16],[]),(8,[4],[]),(14,[4],[])] [2] (codeOf Tryz.f34) 0).1
abbrev Em:Nat:=35
def Kh(t14_2 t14_3:Nat)(t15 t16:Int)(u0 u1:LL)(K:KK):Prop:=Bi 6 E0.P Em (Au 6 ac_value_plainPairs).code ⟨[(4, .own nL4),(14, .win (Nm.sub 9 nL0) 7 t14_2 t14_3),(15,Ai t15),(16,Ai t16)],[(nL4, .arr (Ag+2) true 7 u0),((Nm.sub 9 nL0), .arr 1 true 7 u1)]⟩ K
def Acg(u0:LL)(K:KK):Prop:=Aq 14 E0.P Em (Ac 14 ac_value_plainPairs).code ⟨[(4, .own nL4)],[(nL4, .arr (Ag+2) true 7 u0)]⟩ K
def Ut(Q:QQ):KK:=kE fun st=>finish 0 E0.T [.tmp 2] [] Q st
def Uu(Q:QQ):KK:=kF 0 (fun st=>Aq 14 E0.P Em (Ac 14 ac_value_plainPairs).code (mask [4] st) (Ut Q)) fun st=>finish 0 E0.T [.tmp 2] [] Q st
theorem Zi(t14_2 t14_3:Nat)(t15 t16:Int)(u0 u1:LL)(K:KK)(h:
 (Br (decide (t16<t15))
 (Ah ((0:Int)≤t16∧t16<(↑t14_3:Int))
 (Ah (addN t14_2 t16.toNat<u1.length∧
 Bt
 [.str, .int .i64, .int .i64, .int .i64, .str, .sl 6 Aa,
 .sl 7 Ag]
 (List.take 7 (List.drop 0 (u1.getD (addN t14_2 t16.toNat) [])))=
 true)
 (Call E0.P Ho [.imm (.agg [.int .i64 (gI (List.take 7 (List.drop 0 (u1.getD (addN t14_2 t16.toNat) []))) 1), .int .i64 (gI (List.take 7 (List.drop 0 (u1.getD (addN t14_2 t16.toNat) []))) 2), .int .i64 (gI (List.take 7 (List.drop 0 (u1.getD (addN t14_2 t16.toNat) []))) 3), .str (gS (List.take 7 (List.drop 0 (u1.getD (addN t14_2 t16.toNat) []))) 4), .sl .any 6 (gR (List.take 7 (List.drop 0 (u1.getD (addN t14_2 t16.toNat) []))) 5), .sl .any 7 (gR (List.take 7 (List.drop 0 (u1.getD (addN t14_2 t16.toNat) []))) 6)])] [] fun r0 g0=>
 Ah (qV3 g0 r0)
 (Br (!decide (gI (Ae r0) 0=(0:Int)))
 (Ah ((u0.length+1)*104≤140737488355328∧u0.length+1≤140737488355328)
 (Kh t14_2 t14_3 t15 (IntKind.i64.wrap (t16+(1:Int))) (u0++
 [[IV.str (gS (List.take 7 (List.drop 0 (u1.getD (addN t14_2 t16.toNat) []))) 0),
 .int .i64 (gI (Ae r0) 0), .int .i64 (gI (Ae r0) 1),
 .int .i64 (gI (Ae r0) 2), .str (gS (Ae r0) 3),
 .sl SK.any 6 (gR (Ae r0) 4), .sl SK.any 7 (gR (Ae r0) 5)]]) u1 K))
 (Kh t14_2 t14_3 t15 (IntKind.i64.wrap (t16+(1:Int))) u0 u1 K)))))
 (K (.exit 0) ⟨[(4, .own nL4)],[(nL4, .arr (Ag+2) true 7 u0)]⟩))):Kh t14_2 t14_3 t15 t16 u0 u1 K:=Bg (Ar E0 Em) (Az Em) 3 6 (Au 6 ac_value_plainPairs) [4,14,15,16] _ K rfl (kr (by kernel_rfl) h)
theorem Alg(u0:LL)(K:KK)(h:
 (K .ret ⟨[(2, .own nL4)],[(nL4, .arr (Ag+2) true 7 u0)]⟩)):Acg u0 K:=Av (Ar E0 Em) (Az Em) 3 14 (Ac 14 ac_value_plainPairs) [] _ K rfl (kr (by kernel_rfl) h)
theorem Ank(Q:QQ)(u0:LL)(h:
 (Q (Al 7 u0) [])):Ut Q .ret ⟨[(2, .own nL4)],[(nL4, .arr (Ag+2) true 7 u0)]⟩:=kr (by kernel_rfl) h
theorem Anl(Q:QQ)(u0:LL)(h:
 (Acg u0 (Ut Q))):Uu Q (.exit 0) ⟨[(4, .own nL4)],[(nL4, .arr (Ag+2) true 7 u0)]⟩:=kr (by kernel_rfl) h
theorem Au8:Bo E0.P 34 ac_value_plainPairs.code Em [.tmp 2]:=Bh _ _ Tryz.f34 [(6,[4,14,15,16],[]),(8,[4],[]),(14,[4],[])] [2] _ 35 Tryz.func34 (by kernel_rfl) (by kernel_rfl) (by kernel_rfl) (by kernel_rfl)
theorem Aqe(a0:LL)(Q:QQ)(h:
 (Call E0.P Ve [Al 7 a0] [] fun r0 g0=>
 Ah (g0=[]++[(Nm.loc 0,Entry.arr 0 true 7 (Dk g0 nL0))]∧
 r0=AV.own nL0)
 (Call E0.P Lp [.own Af, .fn Ak []] [(Af, .arr 1 true 7 (Dk g0 nL0))] fun r1 g1=>
 Ah (qV2 g1 r1)
 (Call E0.P Nz [.own Af, .fn Cn []] [(Af, .arr 1 true 7 (Dk g1 Af))] fun r2 g2=>
 Ah (g2=[(Nm.arg 0,Entry.arr 1 true 7 (Dk g2 Af))]∧
 r2=AV.win Af 7 (rWo r2) (rWl r2))
 (Kh (rWo r2) (rWl r2) ((↑(rWl r2):Int)) ((0:Int)) [] (Dk g2 Af) (Uu Q)))))):Call E0.P We [Al 7 a0] [] Q:=A8 (Ar E0 Em) (Az Em) 3 0 34 ac_value_plainPairs [.tmp 2] Au8 _ _ Q rfl rfl (kr (by kernel_rfl) h)
noncomputable def ac_value_Plain:AC:=(Bf [(7,[1,2,3,5],[]),(9,[1,2,3,5],[]),(11,[1,2,3,5],[]),(14,[1,2,3,5,38,39,40],[]),(16,[1,2,3,5],[]),(20,[1,2,3,5],[])] [2] (codeOf Tryz.f16) 0).1
abbrev Cy:Nat:=59
def Wl(u0 u1 u2:Int)(u3:LB)(u4 u5:LL)(u6 u7 u8:Int)(u9:LB)(v0 v1:Bool)(v2 v3 v4:Bool)(v5 v6 v7:Int)(v8:LB)(v9 w0:LL)(w1 w2:LL)(K:KK):Prop:=Aq 7 E0.P Cy (Ac 7 ac_value_Plain).code ⟨[(1, .ptr Dc 0),(2, .ptr nL2 0),(3, .ptr nL3 0),(5, .ptr nL5 0)],[(Dc, .blk Aa [Ai u0,Ai u1,Ai u2,As u3,Al 6 u4,Al 7 u5]),(nL2, .blk Aa [Ai u6,Ai u7,Ai u8,As u9, .own (nL2.cell 4), .own (nL2.cell 5)]),(nL3, .blk Bw [Ab v0,Ab v1,Ab v2,Ab v3,Ab v4]),(nL5, .blk Aa [Ai v5,Ai v6,Ai v7,As v8, .own (nL5.cell 4), .own (nL5.cell 5)]),((nL2.cell 4), .arr (Aa+2) true 6 v9),((nL2.cell 5), .arr (Ag+2) true 7 w0),((nL5.cell 4), .arr (Aa+2) true 6 w1),((nL5.cell 5), .arr (Ag+2) true 7 w2)]⟩ K
def Wm(u0 u1 u2:Int)(u3:LB)(u4 u5:LL)(u6 u7 u8:Int)(u9:LB)(v0 v1:Bool)(v2 v3 v4:Bool)(v5 v6 v7:Int)(v8:LB)(v9 w0:LL)(w1 w2:LL)(K:KK):Prop:=Aq 9 E0.P Cy (Ac 9 ac_value_Plain).code ⟨[(1, .ptr Dc 0),(2, .ptr nL2 0),(3, .ptr nL3 0),(5, .ptr nL5 0)],[(Dc, .blk Aa [Ai u0,Ai u1,Ai u2,As u3,Al 6 u4,Al 7 u5]),(nL2, .blk Aa [Ai u6,Ai u7,Ai u8,As u9, .own (nL2.cell 4), .own (nL2.cell 5)]),(nL3, .blk Bw [Ab v0,Ab v1,Ab v2,Ab v3,Ab v4]),(nL5, .blk Aa [Ai v5,Ai v6,Ai v7,As v8, .own (nL5.cell 4), .own (nL5.cell 5)]),((nL2.cell 4), .arr (Aa+2) true 6 v9),((nL2.cell 5), .arr (Ag+2) true 7 w0),((nL5.cell 4), .arr (Aa+2) true 6 w1),((nL5.cell 5), .arr (Ag+2) true 7 w2)]⟩ K
def Un(u0 u1 u2:Int)(u3:LB)(u4 u5:LL)(u6 u7 u8:Int)(u9:LB)(v0 v1:Bool)(v2 v3 v4:Bool)(v5 v6 v7:Int)(v8:LB)(v9 w0:LL)(w1 w2:LL)(K:KK):Prop:=Aq 11 E0.P Cy (Ac 11 ac_value_Plain).code ⟨[(1, .ptr Dc 0),(2, .ptr nL2 0),(3, .ptr nL3 0),(5, .ptr nL5 0)],[(Dc, .blk Aa [Ai u0,Ai u1,Ai u2,As u3,Al 6 u4,Al 7 u5]),(nL2, .blk Aa [Ai u6,Ai u7,Ai u8,As u9, .own (nL2.cell 4), .own (nL2.cell 5)]),(nL3, .blk Bw [Ab v0,Ab v1,Ab v2,Ab v3,Ab v4]),(nL5, .blk Aa [Ai v5,Ai v6,Ai v7,As v8, .own (nL5.cell 4), .own (nL5.cell 5)]),((nL2.cell 4), .arr (Aa+2) true 6 v9),((nL2.cell 5), .arr (Ag+2) true 7 w0),((nL5.cell 4), .arr (Aa+2) true 6 w1),((nL5.cell 5), .arr (Ag+2) true 7 w2)]⟩ K
def Uy(t38r:LL)(t39 t40:Int)(u0 u1 u2:Int)(u3:LB)(u4 u5:LL)(u6 u7 u8:Int)(u9:LB)(v0 v1:Bool)(v2 v3 v4:Bool)(v5 v6 v7:Int)(v8:LB)(v9 w0:LL)(w1 w2:LL)(K:KK):Prop:=Bi 14 E0.P Cy (Au 14 ac_value_Plain).code ⟨[(1, .ptr Dc 0),(2, .ptr nL2 0),(3, .ptr nL3 0),(5, .ptr nL5 0),(38,Al 6 t38r),(39,Ai t39),(40,Ai t40)],[(Dc, .blk Aa [Ai u0,Ai u1,Ai u2,As u3,Al 6 u4,Al 7 u5]),(nL2, .blk Aa [Ai u6,Ai u7,Ai u8,As u9, .own (nL2.cell 4), .own (nL2.cell 5)]),(nL3, .blk Bw [Ab v0,Ab v1,Ab v2,Ab v3,Ab v4]),(nL5, .blk Aa [Ai v5,Ai v6,Ai v7,As v8, .own (nL5.cell 4), .own (nL5.cell 5)]),((nL2.cell 4), .arr (Aa+2) true 6 v9),((nL2.cell 5), .arr (Ag+2) true 7 w0),((nL5.cell 4), .arr (Aa+2) true 6 w1),((nL5.cell 5), .arr (Ag+2) true 7 w2)]⟩ K
def Uo(u0 u1 u2:Int)(u3:LB)(u4 u5:LL)(u6 u7 u8:Int)(u9:LB)(v0 v1:Bool)(v2 v3 v4:Bool)(v5 v6 v7:Int)(v8:LB)(v9 w0:LL)(w1 w2:LL)(K:KK):Prop:=Aq 20 E0.P Cy (Ac 20 ac_value_Plain).code ⟨[(1, .ptr Dc 0),(2, .ptr nL2 0),(3, .ptr nL3 0),(5, .ptr nL5 0)],[(Dc, .blk Aa [Ai u0,Ai u1,Ai u2,As u3,Al 6 u4,Al 7 u5]),(nL2, .blk Aa [Ai u6,Ai u7,Ai u8,As u9, .own (nL2.cell 4), .own (nL2.cell 5)]),(nL3, .blk Bw [Ab v0,Ab v1,Ab v2,Ab v3,Ab v4]),(nL5, .blk Aa [Ai v5,Ai v6,Ai v7,As v8, .own (nL5.cell 4), .own (nL5.cell 5)]),((nL2.cell 4), .arr (Aa+2) true 6 v9),((nL2.cell 5), .arr (Ag+2) true 7 w0),((nL5.cell 4), .arr (Aa+2) true 6 w1),((nL5.cell 5), .arr (Ag+2) true 7 w2)]⟩ K
def Qz(Q:QQ):KK:=kE fun st=>finish 0 E0.T [.cell 2 28] [] Q st
def Gm(K:KK):KK:=kP [] K
def Adf(K:KK):KK:=kC 0 (fun st=>Aq 20 E0.P Cy (Ac 20 ac_value_Plain).code (mask [1,2,3,5] st) (Gm K)) K
theorem Avm(u0 u1 u2:Int)(u3:LB)(u4 u5:LL)(u6 u7 u8:Int)(u9:LB)(v0 v1:Bool)(v2 v3 v4:Bool)(v5 v6 v7:Int)(v8:LB)(v9 w0:LL)(w1 w2:LL)(K:KK)(h:
 (Br (v1)
 (Wm u0 u1 u2 u3 u4 u5 u6 u7 u8 u9 v0 v1 v2 v3 v4 v5 v6 u2 v8 v9 w0 w1 w2 (Gm K))
 (Wm u0 u1 u2 u3 u4 u5 u6 u7 u8 u9 v0 v1 v2 v3 v4 v5 v6 v7 v8 v9 w0 w1 w2 (Gm K)))):Wl u0 u1 u2 u3 u4 u5 u6 u7 u8 u9 v0 v1 v2 v3 v4 v5 v6 v7 v8 v9 w0 w1 w2 K:=Av (Ar E0 Cy) (Az Cy) 3 7 (Ac 7 ac_value_Plain) [] _ K rfl (kr (by kernel_rfl) h)
theorem Avn(u0 u1 u2:Int)(u3:LB)(u4 u5:LL)(u6 u7 u8:Int)(u9:LB)(v0 v1:Bool)(v2 v3 v4:Bool)(v5 v6 v7:Int)(v8:LB)(v9 w0:LL)(w1 w2:LL)(K:KK)(h:
 (Br (v2)
 (Un u0 u1 u2 u3 u4 u5 u6 u7 u8 u9 v0 v1 v2 v3 v4 v5 v6 v7 u3 v9 w0 w1 w2 (Gm K))
 (Un u0 u1 u2 u3 u4 u5 u6 u7 u8 u9 v0 v1 v2 v3 v4 v5 v6 v7 v8 v9 w0 w1 w2 (Gm K)))):Wm u0 u1 u2 u3 u4 u5 u6 u7 u8 u9 v0 v1 v2 v3 v4 v5 v6 v7 v8 v9 w0 w1 w2 K:=Av (Ar E0 Cy) (Az Cy) 3 9 (Ac 9 ac_value_Plain) [] _ K rfl (kr (by kernel_rfl) h)
theorem Aug(u0 u1 u2:Int)(u3:LB)(u4 u5:LL)(u6 u7 u8:Int)(u9:LB)(v0 v1:Bool)(v2 v3 v4:Bool)(v5 v6 v7:Int)(v8:LB)(v9 w0:LL)(w1 w2:LL)(K:KK)(h:
 (Br (v3)
 (Uy u4 ((↑u4.length:Int)) ((0:Int)) u0 u1 u2 u3 u4 u5 u6 u7 u8 u9 v0 v1 v2 v3 v4 v5 v6 v7 v8 v9 w0 w1 w2 (Adf K))
 (Uo u0 u1 u2 u3 u4 u5 u6 u7 u8 u9 v0 v1 v2 v3 v4 v5 v6 v7 v8 v9 w0 w1 w2 (Gm K)))):Un u0 u1 u2 u3 u4 u5 u6 u7 u8 u9 v0 v1 v2 v3 v4 v5 v6 v7 v8 v9 w0 w1 w2 K:=Av (Ar E0 Cy) (Az Cy) 3 11 (Ac 11 ac_value_Plain) [] _ K rfl (kr (by kernel_rfl) h)
theorem Aey(t38r:LL)(t39 t40:Int)(u0 u1 u2:Int)(u3:LB)(u4 u5:LL)(u6 u7 u8:Int)(u9:LB)(v0 v1:Bool)(v2 v3 v4:Bool)(v5 v6 v7:Int)(v8:LB)(v9 w0:LL)(w1 w2:LL)(K:KK)(h:
 (Br (decide (t40<t39))
 (Ah (((0:Int)≤t40∧t40<(↑t38r.length:Int))∧
 Bt
 [.int .i64, .int .i64, .int .i64, .str, .sl 6 Aa,
 .sl 7 Ag]
 (t38r.getD t40.toNat [])=
 true)
 (Call E0.P Ho [.imm (.agg [.int .i64 (gI (t38r.getD t40.toNat []) 0), .int .i64 (gI (t38r.getD t40.toNat []) 1), .int .i64 (gI (t38r.getD t40.toNat []) 2), .str (gS (t38r.getD t40.toNat []) 3), .sl .any 6 (gR (t38r.getD t40.toNat []) 4), .sl .any 7 (gR (t38r.getD t40.toNat []) 5)])] [] fun r0 g0=>
 Ah (qV3 g0 r0)
 (Ah ((w1.length+1)*88≤140737488355328∧w1.length+1≤140737488355328)
 (Uy t38r t39 (IntKind.i64.wrap (t40+(1:Int))) u0 u1 u2 u3 u4 u5 u6 u7 u8 u9 v0 v1 v2 v3 v4 v5 v6 v7 v8 v9 w0 (w1++
 [[IV.int .i64 (gI (Ae r0) 0), .int .i64 (gI (Ae r0) 1),
 .int .i64 (gI (Ae r0) 2), .str (gS (Ae r0) 3),
 .sl SK.any 6 (gR (Ae r0) 4), .sl SK.any 7 (gR (Ae r0) 5)]]) w2 K))))
 (K (.exit 0) ⟨[(1, .ptr Dc 0),(2, .ptr nL2 0),(3, .ptr nL3 0),(5, .ptr nL5 0)],[(Dc, .blk Aa [Ai u0,Ai u1,Ai u2,As u3,Al 6 u4,Al 7 u5]),(nL2, .blk Aa [Ai u6,Ai u7,Ai u8,As u9, .own (nL2.cell 4), .own (nL2.cell 5)]),(nL3, .blk Bw [Ab v0,Ab v1,Ab v2,Ab v3,Ab v4]),(nL5, .blk Aa [Ai v5,Ai v6,Ai v7,As v8, .own (nL5.cell 4), .own (nL5.cell 5)]),((nL2.cell 4), .arr (Aa+2) true 6 v9),((nL2.cell 5), .arr (Ag+2) true 7 w0),((nL5.cell 4), .arr (Aa+2) true 6 w1),((nL5.cell 5), .arr (Ag+2) true 7 w2)]⟩))):Uy t38r t39 t40 u0 u1 u2 u3 u4 u5 u6 u7 u8 u9 v0 v1 v2 v3 v4 v5 v6 v7 v8 v9 w0 w1 w2 K:=Bg (Ar E0 Cy) (Az Cy) 3 14 (Au 14 ac_value_Plain) [1,2,3,5,38,39,40] _ K rfl (kr (by kernel_rfl) h)
theorem Auh(u0 u1 u2:Int)(u3:LB)(u4 u5:LL)(u6 u7 u8:Int)(u9:LB)(v0 v1:Bool)(v2 v3 v4:Bool)(v5 v6 v7:Int)(v8:LB)(v9 w0:LL)(w1 w2:LL)(K:KK)(h:
 (Br (v4)
 (Call E0.P We [Al 7 u5] [] fun r0 g0=>
 Ah (qV4 g0 r0)
 (K .ret ⟨[(2, .ptr nL2 0)],[(nL2, .blk Aa [Ai v5,Ai v6,Ai v7,As v8, .own (nL5.cell 4),Al 7 (rR r0)]),((nL5.cell 4), .arr (Aa+2) true 6 w1)]⟩))
 (K .ret ⟨[(2, .ptr nL2 0)],[(nL2, .blk Aa [Ai v5,Ai v6,Ai v7,As v8, .own (nL5.cell 4), .own (nL5.cell 5)]),((nL5.cell 4), .arr (Aa+2) true 6 w1),((nL5.cell 5), .arr (Ag+2) true 7 w2)]⟩))):Uo u0 u1 u2 u3 u4 u5 u6 u7 u8 u9 v0 v1 v2 v3 v4 v5 v6 v7 v8 v9 w0 w1 w2 K:=Av (Ar E0 Cy) (Az Cy) 3 20 (Ac 20 ac_value_Plain) [] _ K rfl (kr (by kernel_rfl) h)
theorem Av6(Q:QQ)(u0 u1 u2:Int)(u3:LB)(u4 u5:LL)(h:
 (Q (.imm (.agg [.int .i64 u0, .int .i64 u1, .int .i64 u2, .str u3, .sl .any 6 u5, .sl .any 7 u4])) [])):Qz Q .ret ⟨[(2, .ptr nL2 0)],[(nL2, .blk Aa [Ai u0,Ai u1,Ai u2,As u3, .own (nL5.cell 4),Al 7 u4]),((nL5.cell 4), .arr (Aa+2) true 6 u5)]⟩:=kr (by kernel_rfl) h
theorem Av7(Q:QQ)(u0 u1 u2:Int)(u3:LB)(u4 u5:LL)(h:
 (Q (.imm (.agg [.int .i64 u0, .int .i64 u1, .int .i64 u2, .str u3, .sl .any 6 u4, .sl .any 7 u5])) [])):Qz Q .ret ⟨[(2, .ptr nL2 0)],[(nL2, .blk Aa [Ai u0,Ai u1,Ai u2,As u3, .own (nL5.cell 4), .own (nL5.cell 5)]),((nL5.cell 4), .arr (Aa+2) true 6 u4),((nL5.cell 5), .arr (Ag+2) true 7 u5)]⟩:=kr (by kernel_rfl) h
theorem Av8(K:KK)(u0 u1 u2:Int)(u3:LB)(u4 u5:LL)(h:
 (K .ret ⟨[(2, .ptr nL2 0)],[(nL2, .blk Aa [Ai u0,Ai u1,Ai u2,As u3, .own (nL5.cell 4),Al 7 u4]),((nL5.cell 4), .arr (Aa+2) true 6 u5)]⟩)):Gm K .ret ⟨[(2, .ptr nL2 0)],[(nL2, .blk Aa [Ai u0,Ai u1,Ai u2,As u3, .own (nL5.cell 4),Al 7 u4]),((nL5.cell 4), .arr (Aa+2) true 6 u5)]⟩:=kr (by kernel_rfl) h
theorem Av9(K:KK)(u0 u1 u2:Int)(u3:LB)(u4 u5:LL)(h:
 (K .ret ⟨[(2, .ptr nL2 0)],[(nL2, .blk Aa [Ai u0,Ai u1,Ai u2,As u3, .own (nL5.cell 4), .own (nL5.cell 5)]),((nL5.cell 4), .arr (Aa+2) true 6 u4),((nL5.cell 5), .arr (Ag+2) true 7 u5)]⟩)):Gm K .ret ⟨[(2, .ptr nL2 0)],[(nL2, .blk Aa [Ai u0,Ai u1,Ai u2,As u3, .own (nL5.cell 4), .own (nL5.cell 5)]),((nL5.cell 4), .arr (Aa+2) true 6 u4),((nL5.cell 5), .arr (Ag+2) true 7 u5)]⟩:=kr (by kernel_rfl) h
theorem Awa(K:KK)(u0 u1 u2:Int)(u3:LB)(u4 u5:LL)(u6 u7 u8:Int)(u9:LB)(v0 v1:Bool)(v2 v3 v4:Bool)(v5 v6 v7:Int)(v8:LB)(v9 w0:LL)(w1 w2:LL)(h:
 (Uo u0 u1 u2 u3 u4 u5 u6 u7 u8 u9 v0 v1 v2 v3 v4 v5 v6 v7 v8 v9 w0 w1 w2 (Gm K))):Adf K (.exit 0) ⟨[(1, .ptr Dc 0),(2, .ptr nL2 0),(3, .ptr nL3 0),(5, .ptr nL5 0)],[(Dc, .blk Aa [Ai u0,Ai u1,Ai u2,As u3,Al 6 u4,Al 7 u5]),(nL2, .blk Aa [Ai u6,Ai u7,Ai u8,As u9, .own (nL2.cell 4), .own (nL2.cell 5)]),(nL3, .blk Bw [Ab v0,Ab v1,Ab v2,Ab v3,Ab v4]),(nL5, .blk Aa [Ai v5,Ai v6,Ai v7,As v8, .own (nL5.cell 4), .own (nL5.cell 5)]),((nL2.cell 4), .arr (Aa+2) true 6 v9),((nL2.cell 5), .arr (Ag+2) true 7 w0),((nL5.cell 4), .arr (Aa+2) true 6 w1),((nL5.cell 5), .arr (Ag+2) true 7 w2)]⟩:=kr (by kernel_rfl) h
theorem A8n:Bo E0.P 16 ac_value_Plain.code Cy [.cell 2 28]:=Bh _ _ Tryz.f16 [(7,[1,2,3,5],[]),(9,[1,2,3,5],[]),(11,[1,2,3,5],[]),(14,[1,2,3,5,38,39,40],[]),(16,[1,2,3,5],[]),(20,[1,2,3,5],[])] [2] _ 59 Tryz.func16 (by kernel_rfl) (by kernel_rfl) (by kernel_rfl) (by kernel_rfl)
theorem A09(a0_0 a0_1 a0_2:Int)(a0_3:LB)(a0_4 a0_5:LL)(Q:QQ)(h:
 (Call E0.P Aec [Ai a0_0] [] fun r0 g0=>
 Ah (g0=[]∧
 r0=
 .tup
 [.imm
 (IV.agg
 [.bool (gB (Ae (rT r0 0)) 0), .bool (gB (Ae (rT r0 0)) 1),
 .bool (gB (Ae (rT r0 0)) 2), .bool (gB (Ae (rT r0 0)) 3),
 .bool (gB (Ae (rT r0 0)) 4)]),
 .imm (.bool (rB (rT r0 1)))])
 (Br (!rB (rT r0 1))
 (Q (.imm (.agg [.int .i64 0, .int .i64 0, .int .i64 0, .str [], .sl .any 6 [], .sl .any 7 []])) [])
 (Br (gB (Ae (rT r0 0)) 0)
 (Wl a0_0 a0_1 a0_2 a0_3 a0_4 a0_5 ((0:Int)) ((0:Int)) ((0:Int)) [] (gB (Ae (rT r0 0)) 0) (gB (Ae (rT r0 0)) 1) (gB (Ae (rT r0 0)) 2) (gB (Ae (rT r0 0)) 3) (gB (Ae (rT r0 0)) 4) a0_0 a0_1 ((0:Int)) [] [] [] [] [] (Qz Q))
 (Wl a0_0 a0_1 a0_2 a0_3 a0_4 a0_5 ((0:Int)) ((0:Int)) ((0:Int)) [] (gB (Ae (rT r0 0)) 0) (gB (Ae (rT r0 0)) 1) (gB (Ae (rT r0 0)) 2) (gB (Ae (rT r0 0)) 3) (gB (Ae (rT r0 0)) 4) a0_0 ((0:Int)) ((0:Int)) [] [] [] [] [] (Qz Q)))))):Call E0.P Ho [.imm (.agg [.int .i64 a0_0, .int .i64 a0_1, .int .i64 a0_2, .str a0_3, .sl .any 6 a0_4, .sl .any 7 a0_5])] [] Q:=A8 (Ar E0 Cy) (Az Cy) 3 0 16 ac_value_Plain [.cell 2 28] A8n _ _ Q rfl rfl (kr (by kernel_rfl) h)
noncomputable def ac_value_Get:AC:=(Bf [] [4,5] (codeOf Tryz.f17) 0).1
abbrev Am3:Nat:=26
theorem Bek:Bo E0.P 17 ac_value_Get.code Am3 [.cell 4 28, .tmp 5]:=Bh _ _ Tryz.f17 [] [4,5] _ 26 Tryz.func17 (by kernel_rfl) (by kernel_rfl) (by kernel_rfl) (by kernel_rfl)
theorem A6x(a0_0 a0_1 a0_2:Int)(a0_3:LB)(a0_4 a0_5:LL)(a1:LB)(Q:QQ)(h:
 (Call E0.P Ho [.imm (.agg [.int .i64 a0_0, .int .i64 a0_1, .int .i64 a0_2, .str a0_3, .sl .any 6 a0_4, .sl .any 7 a0_5])] [] fun r0 g0=>
 Ah (qV3 g0 r0)
 (Call E0.P Aft [Al 7 (gR (Ae r0) 5),As a1] [] fun r1 g1=>
 Ah (g1=[]∧r1= .tup [.imm (.int .i64 (rI (rT r1 0))), .imm (.bool (rB (rT r1 1)))])
 (Br (!rB (rT r1 1))
 (Q (.tup [.imm (.agg [.int .i64 0, .int .i64 0, .int .i64 0, .str [], .sl .any 6 [], .sl .any 7 []]),Ab false]) [])
 (Ah (((0:Int)≤rI (rT r1 0)∧rI (rT r1 0)<(↑(gR (Ae r0) (5:Nat)).length:Int))∧
 Bt
 [.str, .int .i64, .int .i64, .int .i64, .str, .sl 6 Aa,
 .sl 7 Ag]
 ((gR (Ae r0) 5).getD (rI (rT r1 0)).toNat [])=
 true)
 (Q (.tup [.imm (.agg [.int .i64 (gI ((gR (Ae r0) 5).getD (rI (rT r1 0)).toNat []) 1), .int .i64 (gI ((gR (Ae r0) 5).getD (rI (rT r1 0)).toNat []) 2), .int .i64 (gI ((gR (Ae r0) 5).getD (rI (rT r1 0)).toNat []) 3), .str (gS ((gR (Ae r0) 5).getD (rI (rT r1 0)).toNat []) 4), .sl .any 6 (gR ((gR (Ae r0) 5).getD (rI (rT r1 0)).toNat []) 5), .sl .any 7 (gR ((gR (Ae r0) 5).getD (rI (rT r1 0)).toNat []) 6)]),Ab true]) [])))))):Call E0.P Tp [.imm (.agg [.int .i64 a0_0, .int .i64 a0_1, .int .i64 a0_2, .str a0_3, .sl .any 6 a0_4, .sl .any 7 a0_5]),As a1] [] Q:=A8 (Ar E0 Am3) (Az Am3) 3 0 17 ac_value_Get [.cell 4 28, .tmp 5] Bek _ _ Q rfl rfl (kr (by kernel_rfl) h)
noncomputable def ac_r16_put:AC:=(Bf [(4,[0,3,5,6,7],[]),(6,[3,5,6],[]),(13,[0,3,5,6,7],[0,3,5,6,7]),(14,[0,3,5,6,7],[0,3,5,6,7]),(15,[3,5,6],[])] [4] (codeOf Tryz.f88) 0).1
abbrev Ff:Nat:=54
def Agn(t0r:LL)(t6:Bool)(t7:Int)(u0:LB)(u1 u2 u3:Int)(u4:LB)(u5 u6 u7:LL)(K:KK):Prop:=Bi 4 E0.P Ff (Au 4 ac_r16_put).code ⟨[(0,Al 7 t0r),(3, .ptr nL3 0),(5, .own Rz),(6,Ab t6),(7,Ai t7)],[(nL3, .blk Ag [As u0,Ai u1,Ai u2,Ai u3,As u4,Al 6 u5,Al 7 u6]),(Rz, .arr 0 true 7 u7)]⟩ K
def Acy(t0r:LL)(t6:Bool)(t7:Int)(u0:LB)(u1 u2 u3:Int)(u4:LB)(u5 u6 u7:LL)(K:KK):Prop:=Aq 13 E0.P Ff (Ac 13 ac_r16_put).code ⟨[(0,Al 7 t0r),(3, .ptr nL3 0),(5, .own Rz),(6,Ab t6),(7,Ai t7)],[(nL3, .blk Ag [As u0,Ai u1,Ai u2,Ai u3,As u4,Al 6 u5,Al 7 u6]),(Rz, .arr 0 true 7 u7)]⟩ K
def Avj(t6:Bool)(u0:LB)(u1 u2 u3:Int)(u4:LB)(u5 u6 u7:LL)(K:KK):Prop:=Aq 15 E0.P Ff (Ac 15 ac_r16_put).code ⟨[(3, .ptr nL3 0),(5, .own Rz),(6,Ab t6)],[(nL3, .blk Ag [As u0,Ai u1,Ai u2,Ai u3,As u4,Al 6 u5,Al 7 u6]),(Rz, .arr 0 true 7 u7)]⟩ K
def Avi(t0r:LL)(t6:Bool)(t7:Int)(u0:LB)(u1 u2 u3:Int)(u4:LB)(u5 u6 u7:LL)(K:KK):Prop:=Aq 14 E0.P Ff (Ac 14 ac_r16_put).code ⟨[(0,Al 7 t0r),(3, .ptr nL3 0),(5, .own Rz),(6,Ab t6),(7,Ai t7)],[(nL3, .blk Ag [As u0,Ai u1,Ai u2,Ai u3,As u4,Al 6 u5,Al 7 u6]),(Rz, .arr 0 true 7 u7)]⟩ K
def Ao0(Q:QQ):KK:=kE fun st=>finish 0 E0.T [.tmp 4] [] Q st
def Ao1(Q:QQ):KK:=kF 0 (fun st=>Aq 15 E0.P Ff (Ac 15 ac_r16_put).code (mask [3,5,6] st) (Ao0 Q)) fun st=>finish 0 E0.T [.tmp 4] [] Q st
def Ao2(K:KK):Ex→St→Prop
 | .normal,st=>Bi 4 E0.P Ff (Au 4 ac_r16_put).code (mask [0,3,5,6,7] st) K
 | .exit i,st=>K (.exit i) st
 | .goto i,st=>K (.goto i) st
 | .ret,st=>K .ret st
def Agj(K:KK):KK:=kC 1 (fun st=>Aq 14 E0.P Ff (Ac 14 ac_r16_put).code (mask [0,3,5,6,7] st) (Ao2 K)) K
theorem Aqv(t0r:LL)(t6:Bool)(t7:Int)(u0:LB)(u1 u2 u3:Int)(u4:LB)(u5 u6 u7:LL)(K:KK)(h:
 (Br (decide (t7<(↑t0r.length:Int)))
 (Ah (((0:Int)≤t7∧t7<(↑t0r.length:Int))∧
 Bt
 [.str, .int .i64, .int .i64, .int .i64, .str, .sl 6 Aa,
 .sl 7 Ag]
 (t0r.getD t7.toNat [])=
 true)
 (Br (gS (t0r.getD t7.toNat []) 0 == u0)
 (K .ret ⟨[(4,Al 7 t0r)],[]⟩)
 (Ah ((!t6)=true→
 ((0:Int)≤t7∧t7<(↑t0r.length:Int))∧
 Bt
 [.str, .int .i64, .int .i64, .int .i64, .str, .sl 6 Aa,
 .sl 7 Ag]
 (t0r.getD t7.toNat [])=
 true)
 (Let (bif !t6 then Op.bytesLess u0 (gS (t0r.getD t7.toNat []) 0)else false) fun x0=>
 Br (x0)
 (Ah ((u7.length+1)*104≤140737488355328∧u7.length+1≤140737488355328)
 (Acy t0r true t7 u0 u1 u2 u3 u4 u5 u6 (u7++
 [[IV.str u0, .int .i64 u1, .int .i64 u2, .int .i64 u3, .str u4,
 .sl SK.any 6 u5, .sl SK.any 7 u6]]) (Agj K)))
 (Acy t0r t6 t7 u0 u1 u2 u3 u4 u5 u6 u7 (Agj K))))))
 (K (.exit 0) ⟨[(3, .ptr nL3 0),(5, .own Rz),(6,Ab t6)],[(nL3, .blk Ag [As u0,Ai u1,Ai u2,Ai u3,As u4,Al 6 u5,Al 7 u6]),(Rz, .arr 0 true 7 u7)]⟩))):Agn t0r t6 t7 u0 u1 u2 u3 u4 u5 u6 u7 K:=Bg (Ar E0 Ff) (Az Ff) 3 4 (Au 4 ac_r16_put) [0,3,5,6,7] _ K rfl (kr (by kernel_rfl) h)
theorem A3y(t0r:LL)(t6:Bool)(t7:Int)(u0:LB)(u1 u2 u3:Int)(u4:LB)(u5 u6 u7:LL)(K:KK)(h:
 (Ah (((0:Int)≤t7∧t7<(↑t0r.length:Int))∧
 Bt
 [.str, .int .i64, .int .i64, .int .i64, .str, .sl 6 Aa,
 .sl 7 Ag]
 (t0r.getD t7.toNat [])=
 true)
 (Ah ((u7.length+1)*104≤140737488355328∧u7.length+1≤140737488355328)
 (K .normal ⟨[(0,Al 7 t0r),(3, .ptr nL3 0),(5, .own Rz),(6,Ab t6),(7,Ai t7)],[(nL3, .blk Ag [As u0,Ai u1,Ai u2,Ai u3,As u4,Al 6 u5,Al 7 u6]),(Rz, .arr 0 true 7 (u7++
 [[IV.str (gS (t0r.getD t7.toNat []) 0), .int .i64 (gI (t0r.getD t7.toNat []) 1),
 .int .i64 (gI (t0r.getD t7.toNat []) 2),
 .int .i64 (gI (t0r.getD t7.toNat []) 3), .str (gS (t0r.getD t7.toNat []) 4),
 .sl SK.any 6 (gR (t0r.getD t7.toNat []) 5),
 .sl SK.any 7 (gR (t0r.getD t7.toNat []) 6)]]))]⟩)))):Acy t0r t6 t7 u0 u1 u2 u3 u4 u5 u6 u7 K:=Av (Ar E0 Ff) (Az Ff) 3 13 (Ac 13 ac_r16_put) [0,3,5,6,7] _ K rfl (kr (by kernel_rfl) h)
theorem A30(t6:Bool)(u0:LB)(u1 u2 u3:Int)(u4:LB)(u5 u6 u7:LL)(K:KK)(h:
 (Br (!t6)
 (Ah ((u7.length+1)*104≤140737488355328∧u7.length+1≤140737488355328)
 (K .ret ⟨[(4, .own Rz)],[(Rz, .arr 0 true 7 (u7++
 [[IV.str u0, .int .i64 u1, .int .i64 u2, .int .i64 u3, .str u4,
 .sl SK.any 6 u5, .sl SK.any 7 u6]]))]⟩))
 (K .ret ⟨[(4, .own Rz)],[(Rz, .arr 0 true 7 u7)]⟩))):Avj t6 u0 u1 u2 u3 u4 u5 u6 u7 K:=Av (Ar E0 Ff) (Az Ff) 3 15 (Ac 15 ac_r16_put) [] _ K rfl (kr (by kernel_rfl) h)
theorem A3z(t0r:LL)(t6:Bool)(t7:Int)(u0:LB)(u1 u2 u3:Int)(u4:LB)(u5 u6 u7:LL)(K:KK)(h:
 (K .normal ⟨[(0,Al 7 t0r),(3, .ptr nL3 0),(5, .own Rz),(6,Ab t6),(7,Ai (IntKind.i64.wrap (t7+(1:Int))))],[(nL3, .blk Ag [As u0,Ai u1,Ai u2,Ai u3,As u4,Al 6 u5,Al 7 u6]),(Rz, .arr 0 true 7 u7)]⟩)):Avi t0r t6 t7 u0 u1 u2 u3 u4 u5 u6 u7 K:=Av (Ar E0 Ff) (Az Ff) 3 14 (Ac 14 ac_r16_put) [0,3,5,6,7] _ K rfl (kr (by kernel_rfl) h)
theorem Aqn(Q:QQ)(u0:LL)(h:
 (Q (Al 7 u0) [])):Ao0 Q .ret ⟨[(4, .own Rz)],[(Rz, .arr 0 true 7 u0)]⟩:=kr (by kernel_rfl) h
theorem A7h(Q:QQ)(t4r:LL)(h:
 (Q (Al 7 t4r) [])):Ao1 Q .ret ⟨[(4,Al 7 t4r)],[]⟩:=kr (by kernel_rfl) h
theorem A7i(Q:QQ)(t6:Bool)(u0:LB)(u1 u2 u3:Int)(u4:LB)(u5 u6 u7:LL)(h:
 (Avj t6 u0 u1 u2 u3 u4 u5 u6 u7 (Ao0 Q))):Ao1 Q (.exit 0) ⟨[(3, .ptr nL3 0),(5, .own Rz),(6,Ab t6)],[(nL3, .blk Ag [As u0,Ai u1,Ai u2,Ai u3,As u4,Al 6 u5,Al 7 u6]),(Rz, .arr 0 true 7 u7)]⟩:=kr (by kernel_rfl) h
theorem A7j(K:KK)(t0r:LL)(t6:Bool)(t7:Int)(u0:LB)(u1 u2 u3:Int)(u4:LB)(u5 u6 u7:LL)(h:
 (Agn t0r t6 t7 u0 u1 u2 u3 u4 u5 u6 u7 K)):Ao2 K .normal ⟨[(0,Al 7 t0r),(3, .ptr nL3 0),(5, .own Rz),(6,Ab t6),(7,Ai t7)],[(nL3, .blk Ag [As u0,Ai u1,Ai u2,Ai u3,As u4,Al 6 u5,Al 7 u6]),(Rz, .arr 0 true 7 u7)]⟩:=kr (by kernel_rfl) h
theorem A7k(K:KK)(t0r:LL)(t6:Bool)(t7:Int)(u0:LB)(u1 u2 u3:Int)(u4:LB)(u5 u6 u7:LL)(h:
 (Avi t0r t6 t7 u0 u1 u2 u3 u4 u5 u6 u7 (Ao2 K))):Agj K .normal ⟨[(0,Al 7 t0r),(3, .ptr nL3 0),(5, .own Rz),(6,Ab t6),(7,Ai t7)],[(nL3, .blk Ag [As u0,Ai u1,Ai u2,Ai u3,As u4,Al 6 u5,Al 7 u6]),(Rz, .arr 0 true 7 u7)]⟩:=kr (by kernel_rfl) h
theorem Biz:Bo E0.P 88 ac_r16_put.code Ff [.tmp 4]:=Bh _ _ Tryz.f88 [(4,[0,3,5,6,7],[]),(6,[3,5,6],[]),(13,[0,3,5,6,7],[0,3,5,6,7]),(14,[0,3,5,6,7],[0,3,5,6,7]),(15,[3,5,6],[])] [4] _ 54 Tryz.func88 (by kernel_rfl) (by kernel_rfl) (by kernel_rfl) (by kernel_rfl)
theorem Bbz(a0:LL)(a1_0:LB)(a1_1 a1_2 a1_3:Int)(a1_4:LB)(a1_5 a1_6:LL)(Q:QQ)(h:
 (Agn a0 false ((0:Int)) a1_0 a1_1 a1_2 a1_3 a1_4 a1_5 a1_6 [] (Ao1 Q))):Call E0.P Asx [Al 7 a0, .imm (.agg [.str a1_0, .int .i64 a1_1, .int .i64 a1_2, .int .i64 a1_3, .str a1_4, .sl .any 6 a1_5, .sl .any 7 a1_6])] [] Q:=A8 (Ar E0 Ff) (Az Ff) 3 0 88 ac_r16_put [.tmp 4] Biz _ _ Q rfl rfl (kr (by kernel_rfl) h)
noncomputable def ac_r16_pairs:AC:=(Bf [(3,[0,4,1000003],[]),(5,[1000003],[]),(8,[1000003],[]),(11,[5,6,1000003],[]),(13,[5],[]),(16,[5,6,1000003],[5,6,1000003]),(17,[5],[])] [2] (codeOf Tryz.f60) 0).1
abbrev Di:Nat:=50
def Aaz(t0r:LL)(t4:Int)(t3r:LL)(K:KK):Prop:=Bi 3 E0.P Di (Au 3 ac_r16_pairs).code ⟨[(0,Al 7 t0r),(4,Ai t4),(3,Al 7 t3r)],[]⟩ K
def Att(t3r:LL)(K:KK):Prop:=Aq 8 E0.P Di (Ac 8 ac_r16_pairs).code ⟨[(3,Al 7 t3r)],[]⟩ K
def Yz(t6:Int)(t3r u0:LL)(K:KK):Prop:=Bi 11 E0.P Di (Au 11 ac_r16_pairs).code ⟨[(5, .own Ql),(6,Ai t6),(3,Al 7 t3r)],[(Ql, .arr 0 true 7 u0)]⟩ K
def Ae3(t6:Int)(t3r u0:LL)(K:KK):Prop:=Aq 16 E0.P Di (Ac 16 ac_r16_pairs).code ⟨[(5, .own Ql),(6,Ai t6),(3,Al 7 t3r)],[(Ql, .arr 0 true 7 u0)]⟩ K
def Ap0(u0:LL)(K:KK):Prop:=Aq 17 E0.P Di (Ac 17 ac_r16_pairs).code ⟨[(5, .own Ql)],[(Ql, .arr 0 true 7 u0)]⟩ K
def Aib(Q:QQ):KK:=kE fun st=>finish 0 E0.T [.tmp 2] [] Q st
def At0(Q:QQ):KK:=kF 0 (fun st=>Aq 8 E0.P Di (Ac 8 ac_r16_pairs).code (mask [1000003] st) (Aib Q)) fun st=>finish 0 E0.T [.tmp 2] [] Q st
def Aic(K:KK):KK:=kP [] K
def At1(K:KK):KK:=kC 2 (fun st=>Aq 17 E0.P Di (Ac 17 ac_r16_pairs).code (mask [5] st) (Aic K)) K
def Aid(K:KK):Ex→St→Prop
 | .normal,st=>Bi 11 E0.P Di (Au 11 ac_r16_pairs).code (mask [5,6,1000003] st) K
 | .exit i,st=>K (.exit i) st
 | .goto i,st=>K (.goto i) st
 | .ret,st=>K .ret st
theorem Amh(t0r:LL)(t4:Int)(t3r:LL)(K:KK)(h:
 (Br (decide (t4<(↑t0r.length:Int)))
 (Ah (((0:Int)≤t4∧t4<(↑t0r.length:Int))∧
 Bt
 [.str, .int .i64, .int .i64, .int .i64, .str, .sl 6 Aa,
 .sl 7 Ag]
 (t0r.getD t4.toNat [])=
 true)
 (Ah (((0:Int)≤t4∧t4<(↑t0r.length:Int))∧
 Bt
 [.str, .int .i64, .int .i64, .int .i64, .str, .sl 6 Aa,
 .sl 7 Ag]
 (t0r.getD t4.toNat [])=
 true)
 (Call E0.P Tf [.imm (.agg [.int .i64 (gI (t0r.getD t4.toNat []) 1), .int .i64 (gI (t0r.getD t4.toNat []) 2), .int .i64 (gI (t0r.getD t4.toNat []) 3), .str (gS (t0r.getD t4.toNat []) 4), .sl .any 6 (gR (t0r.getD t4.toNat []) 5), .sl .any 7 (gR (t0r.getD t4.toNat []) 6)])] [] fun r0 g0=>
 Ah (qV3 g0 r0)
 (Call E0.P Asx [Al 7 t3r, .imm (.agg [.str (gS (t0r.getD t4.toNat []) 0), .int .i64 (gI (Ae r0) 0), .int .i64 (gI (Ae r0) 1), .int .i64 (gI (Ae r0) 2), .str (gS (Ae r0) 3), .sl .any 6 (gR (Ae r0) 4), .sl .any 7 (gR (Ae r0) 5)])] [] fun r1 g1=>
 Ah (qV4 g1 r1)
 (Aaz t0r (IntKind.i64.wrap (t4+(1:Int))) (rR r1) K)))))
 (K (.exit 0) ⟨[(3,Al 7 t3r)],[]⟩))):Aaz t0r t4 t3r K:=Bg (Ar E0 Di) (Az Di) 3 3 (Au 3 ac_r16_pairs) [0,4,1000003] _ K rfl (kr (by kernel_rfl) h)
theorem A0p(t3r:LL)(K:KK)(h:
 (Yz ((0:Int)) t3r [] (At1 K))):Att t3r K:=Av (Ar E0 Di) (Az Di) 3 8 (Ac 8 ac_r16_pairs) [] _ K rfl (kr (by kernel_rfl) h)
theorem Ajr(t6:Int)(t3r u0:LL)(K:KK)(h:
 (Br (decide (t6<(↑t3r.length:Int)))
 (Ah (((0:Int)≤t6∧t6<(↑t3r.length:Int))∧
 Bt
 [.str, .int .i64, .int .i64, .int .i64, .str, .sl 6 Aa,
 .sl 7 Ag]
 (t3r.getD t6.toNat [])=
 true)
 (Br (!decide (gI (t3r.getD t6.toNat []) 1=(0:Int)))
 (Ah (((0:Int)≤t6∧t6<(↑t3r.length:Int))∧
 Bt
 [.str, .int .i64, .int .i64, .int .i64, .str, .sl 6 Aa,
 .sl 7 Ag]
 (t3r.getD t6.toNat [])=
 true)
 (Ah ((u0.length+1)*104≤140737488355328∧u0.length+1≤140737488355328)
 (Ae3 t6 t3r (u0++
 [[IV.str (gS (t3r.getD t6.toNat []) 0), .int .i64 (gI (t3r.getD t6.toNat []) 1),
 .int .i64 (gI (t3r.getD t6.toNat []) 2),
 .int .i64 (gI (t3r.getD t6.toNat []) 3), .str (gS (t3r.getD t6.toNat []) 4),
 .sl SK.any 6 (gR (t3r.getD t6.toNat []) 5),
 .sl SK.any 7 (gR (t3r.getD t6.toNat []) 6)]]) (Aid K))))
 (Ae3 t6 t3r u0 (Aid K))))
 (K (.exit (2)) ⟨[(5, .own Ql)],[(Ql, .arr 0 true 7 u0)]⟩))):Yz t6 t3r u0 K:=Bg (Ar E0 Di) (Az Di) 3 11 (Au 11 ac_r16_pairs) [5,6,1000003] _ K rfl (kr (by kernel_rfl) h)
theorem Ajf(t6:Int)(t3r u0:LL)(K:KK)(h:
 (K .normal ⟨[(5, .own Ql),(6,Ai (IntKind.i64.wrap (t6+(1:Int)))),(3,Al 7 t3r)],[(Ql, .arr 0 true 7 u0)]⟩)):Ae3 t6 t3r u0 K:=Av (Ar E0 Di) (Az Di) 3 16 (Ac 16 ac_r16_pairs) [5,6,1000003] _ K rfl (kr (by kernel_rfl) h)
theorem Ayy(u0:LL)(K:KK)(h:
 (K .ret ⟨[(2, .own Ql)],[(Ql, .arr 0 true 7 u0)]⟩)):Ap0 u0 K:=Av (Ar E0 Di) (Az Di) 3 17 (Ac 17 ac_r16_pairs) [] _ K rfl (kr (by kernel_rfl) h)
theorem A1v(Q:QQ)(u0:LL)(h:
 (Q (Al 7 u0) [])):Aib Q .ret ⟨[(2, .own Ql)],[(Ql, .arr 0 true 7 u0)]⟩:=kr (by kernel_rfl) h
theorem A1w(Q:QQ)(t3r:LL)(h:
 (Att t3r (Aib Q))):At0 Q (.exit 0) ⟨[(3,Al 7 t3r)],[]⟩:=kr (by kernel_rfl) h
theorem A1x(K:KK)(u0:LL)(h:
 (K .ret ⟨[(2, .own Ql)],[(Ql, .arr 0 true 7 u0)]⟩)):Aic K .ret ⟨[(2, .own Ql)],[(Ql, .arr 0 true 7 u0)]⟩:=kr (by kernel_rfl) h
theorem A1y(K:KK)(u0:LL)(h:
 (Ap0 u0 (Aic K))):At1 K (.exit (2)) ⟨[(5, .own Ql)],[(Ql, .arr 0 true 7 u0)]⟩:=kr (by kernel_rfl) h
theorem Alw(K:KK)(t6:Int)(t3r u0:LL)(h:
 (Yz t6 t3r u0 K)):Aid K .normal ⟨[(5, .own Ql),(6,Ai t6),(3,Al 7 t3r)],[(Ql, .arr 0 true 7 u0)]⟩:=kr (by kernel_rfl) h
theorem Beg:Bo E0.P 60 ac_r16_pairs.code Di [.tmp 2]:=Bh _ _ Tryz.f60 [(3,[0,4,1000003],[]),(5,[1000003],[]),(8,[1000003],[]),(11,[5,6,1000003],[]),(13,[5],[]),(16,[5,6,1000003],[5,6,1000003]),(17,[5],[])] [2] _ 50 Tryz.func60 (by kernel_rfl) (by kernel_rfl) (by kernel_rfl) (by kernel_rfl)
theorem A6t(a0:LL)(Q:QQ)(h:
 (Aaz a0 ((0:Int)) [] (At0 Q))):Call E0.P Ad9 [Al 7 a0] [] Q:=A8 (Ar E0 Di) (Az Di) 3 0 60 ac_r16_pairs [.tmp 2] Beg _ _ Q rfl rfl (kr (by kernel_rfl) h)
noncomputable def ac_r16_Plain:AC:=(Bf [(4,[1,2,10,12,1000003],[2,1000003]),(6,[1,2,10,18,1000003],[2,1000003]),(10,[1,2,4,5,1000003],[]),(12,[2,4,1000003],[]),(15,[2,4,1000003],[2,1000003]),(20,[2,1000003],[])] [2] (codeOf Tryz.f40) 0).1
abbrev Dl:Nat:=69
def Aap(t10:Int)(t12:Bool)(u0 u1 u2:Int)(u3:LB)(u4 u5:LL)(u6 u7 u8:Int)(u9:LB)(v0 v1 v2:Int)(v3:LB)(v4 v5:LL)(v6 v7:LL)(K:KK):Prop:=Aq 4 E0.P Dl (Ac 4 ac_r16_Plain).code ⟨[(1, .ptr Dc 0),(2, .ptr nL2 0),(10,Ai t10),(12,Ab t12),(3, .ptr nL3 0)],[(Dc, .blk Aa [Ai u0,Ai u1,Ai u2,As u3,Al 6 u4,Al 7 u5]),(nL2, .blk Aa [Ai u6,Ai u7,Ai u8,As u9, .own (nL2.cell 4), .own (nL2.cell 5)]),(nL3, .blk Aa [Ai v0,Ai v1,Ai v2,As v3,Al 6 v4,Al 7 v5]),((nL2.cell 4), .arr (Aa+2) true 6 v6),((nL2.cell 5), .arr (Ag+2) true 7 v7)]⟩ K
def Aaq(t10:Int)(t18:Bool)(u0 u1 u2:Int)(u3:LB)(u4 u5:LL)(u6 u7 u8:Int)(u9:LB)(v0 v1 v2:Int)(v3:LB)(v4 v5:LL)(v6 v7:LL)(K:KK):Prop:=Aq 6 E0.P Dl (Ac 6 ac_r16_Plain).code ⟨[(1, .ptr Dc 0),(2, .ptr nL2 0),(10,Ai t10),(18,Ab t18),(3, .ptr nL3 0)],[(Dc, .blk Aa [Ai u0,Ai u1,Ai u2,As u3,Al 6 u4,Al 7 u5]),(nL2, .blk Aa [Ai u6,Ai u7,Ai u8,As u9, .own (nL2.cell 4), .own (nL2.cell 5)]),(nL3, .blk Aa [Ai v0,Ai v1,Ai v2,As v3,Al 6 v4,Al 7 v5]),((nL2.cell 4), .arr (Aa+2) true 6 v6),((nL2.cell 5), .arr (Ag+2) true 7 v7)]⟩ K
def Yx(t5 u0:Int)(u1 u2:Int)(u3:LB)(u4 u5:LL)(u6 u7 u8:Int)(u9:LB)(v0:LL)(v1 v2 v3:Int)(v4:LB)(v5 v6:LL)(v7 v8:LL)(K:KK):Prop:=Bi 10 E0.P Dl (Au 10 ac_r16_Plain).code ⟨[(1, .ptr Dc 0),(2, .ptr nL2 0),(4, .own Axf),(5,Ai t5),(3, .ptr nL3 0)],[(Dc, .blk Aa [Ai u0,Ai u1,Ai u2,As u3,Al 6 u4,Al 7 u5]),(nL2, .blk Aa [Ai u6,Ai u7,Ai u8,As u9, .own (nL2.cell 4), .own (nL2.cell 5)]),(Axf, .arr 0 true 6 v0),(nL3, .blk Aa [Ai v1,Ai v2,Ai v3,As v4,Al 6 v5,Al 7 v6]),((nL2.cell 4), .arr (Aa+2) true 6 v7),((nL2.cell 5), .arr (Ag+2) true 7 v8)]⟩ K
def Apx(u0 u1 u2:Int)(u3:LB)(u4 u5 u6:Int)(u7:LB)(u8 u9:LL)(v0 v1:LL)(K:KK):Prop:=Aq 20 E0.P Dl (Ac 20 ac_r16_Plain).code ⟨[(2, .ptr nL2 0),(3, .ptr nL3 0)],[(nL2, .blk Aa [Ai u0,Ai u1,Ai u2,As u3, .own (nL2.cell 4), .own (nL2.cell 5)]),(nL3, .blk Aa [Ai u4,Ai u5,Ai u6,As u7,Al 6 u8,Al 7 u9]),((nL2.cell 4), .arr (Aa+2) true 6 v0),((nL2.cell 5), .arr (Ag+2) true 7 v1)]⟩ K
def Apw(u0 u1 u2:Int)(u3:LB)(u4:LL)(u5 u6 u7:Int)(u8:LB)(u9 v0:LL)(v1 v2:LL)(K:KK):Prop:=Aq 15 E0.P Dl (Ac 15 ac_r16_Plain).code ⟨[(2, .ptr nL2 0),(4, .own Axf),(3, .ptr nL3 0)],[(nL2, .blk Aa [Ai u0,Ai u1,Ai u2,As u3, .own (nL2.cell 4), .own (nL2.cell 5)]),(Axf, .arr 0 true 6 u4),(nL3, .blk Aa [Ai u5,Ai u6,Ai u7,As u8,Al 6 u9,Al 7 v0]),((nL2.cell 4), .arr (Aa+2) true 6 v1),((nL2.cell 5), .arr (Ag+2) true 7 v2)]⟩ K
def Ah6(Q:QQ):KK:=kE fun st=>finish 0 E0.T [.cell 2 28] [] Q st
def Ns(Q:QQ):KK:=kF 0 (fun st=>Aq 20 E0.P Dl (Ac 20 ac_r16_Plain).code (mask [2,1000003] st) (Ah6 Q)) fun st=>finish 0 E0.T [.cell 2 28] [] Q st
def K8(K:KK):KK:=kP [2,1000003] K
def Ah7(K:KK):KK:=kC 1 (fun st=>Aq 15 E0.P Dl (Ac 15 ac_r16_Plain).code (mask [2,4,1000003] st) (K8 K)) K
theorem A0n(t10:Int)(t12:Bool)(u0 u1 u2:Int)(u3:LB)(u4 u5:LL)(u6 u7 u8:Int)(u9:LB)(v0 v1 v2:Int)(v3:LB)(v4 v5:LL)(v6 v7:LL)(K:KK)(h:
 (Br (t12)
 (K .normal ⟨[(2, .ptr nL2 0),(3, .ptr nL3 0)],[(nL2, .blk Aa [Ai u6,Ai u7,Ai u8,As u9, .own (nL2.cell 4), .own (nL2.cell 5)]),(nL3, .blk Aa [Ai v0,Ai u1,Ai v2,As v3,Al 6 v4,Al 7 v5]),((nL2.cell 4), .arr (Aa+2) true 6 v6),((nL2.cell 5), .arr (Ag+2) true 7 v7)]⟩)
 (Br (decide (t10=(3:Int)))
 (Aaq t10 (decide (t10=(3:Int))) u0 u1 u2 u3 u4 u5 u6 u7 u8 u9 v0 v1 v2 v3 v4 v5 v6 v7 (K8 K))
 (Aaq t10 (decide (t10=(4:Int))) u0 u1 u2 u3 u4 u5 u6 u7 u8 u9 v0 v1 v2 v3 v4 v5 v6 v7 (K8 K))))):Aap t10 t12 u0 u1 u2 u3 u4 u5 u6 u7 u8 u9 v0 v1 v2 v3 v4 v5 v6 v7 K:=Av (Ar E0 Dl) (Az Dl) 3 4 (Ac 4 ac_r16_Plain) [2,1000003] _ K rfl (kr (by kernel_rfl) h)
theorem A0o(t10:Int)(t18:Bool)(u0 u1 u2:Int)(u3:LB)(u4 u5:LL)(u6 u7 u8:Int)(u9:LB)(v0 v1 v2:Int)(v3:LB)(v4 v5:LL)(v6 v7:LL)(K:KK)(h:
 (Br (t18)
 (K .normal ⟨[(2, .ptr nL2 0),(3, .ptr nL3 0)],[(nL2, .blk Aa [Ai u6,Ai u7,Ai u8,As u9, .own (nL2.cell 4), .own (nL2.cell 5)]),(nL3, .blk Aa [Ai v0,Ai v1,Ai v2,As u3,Al 6 v4,Al 7 v5]),((nL2.cell 4), .arr (Aa+2) true 6 v6),((nL2.cell 5), .arr (Ag+2) true 7 v7)]⟩)
 (Br (decide (t10=(5:Int)))
 (Yx ((0:Int)) u0 u1 u2 u3 u4 u5 u6 u7 u8 u9 [] v0 v1 v2 v3 v4 v5 v6 v7 (Ah7 K))
 (Br (decide (t10=(6:Int)))
 (Call E0.P Ad9 [Al 7 u5] [] fun r0 g0=>
 Ah (qV4 g0 r0)
 (K .normal ⟨[(2, .ptr nL2 0),(3, .ptr nL3 0)],[(nL2, .blk Aa [Ai u6,Ai u7,Ai u8,As u9, .own (nL2.cell 4), .own (nL2.cell 5)]),(nL3, .blk Aa [Ai v0,Ai v1,Ai v2,As v3,Al 6 v4,Al 7 (rR r0)]),((nL2.cell 4), .arr (Aa+2) true 6 v6),((nL2.cell 5), .arr (Ag+2) true 7 v7)]⟩))
 (Br (decide (t10=(7:Int)))
 (K .normal ⟨[(2, .ptr nL2 0),(3, .ptr nL3 0)],[(nL2, .blk Aa [Ai u6,Ai u7,Ai u8,As u9, .own (nL2.cell 4), .own (nL2.cell 5)]),(nL3, .blk Aa [Ai v0,Ai u1,Ai u2,As v3,Al 6 v4,Al 7 v5]),((nL2.cell 4), .arr (Aa+2) true 6 v6),((nL2.cell 5), .arr (Ag+2) true 7 v7)]⟩)
 (Br (decide (t10=(8:Int)))
 (Call E0.P Ad9 [Al 7 u5] [] fun r1 g1=>
 Ah (qV4 g1 r1)
 (K .normal ⟨[(2, .ptr nL2 0),(3, .ptr nL3 0)],[(nL2, .blk Aa [Ai u6,Ai u7,Ai u8,As u9, .own (nL2.cell 4), .own (nL2.cell 5)]),(nL3, .blk Aa [Ai v0,Ai v1,Ai v2,As u3,Al 6 v4,Al 7 (rR r1)]),((nL2.cell 4), .arr (Aa+2) true 6 v6),((nL2.cell 5), .arr (Ag+2) true 7 v7)]⟩))
 (K .ret ⟨[(2, .ptr nL2 0)],[(nL2, .blk Aa [Ai 0,Ai 0,Ai 0, .imm (.str []), .own (nL2.cell 4), .own (nL2.cell 5)]),((nL2.cell 4), .arr (Aa+2) true 6 []),((nL2.cell 5), .arr (Ag+2) true 7 [])]⟩))))))):Aaq t10 t18 u0 u1 u2 u3 u4 u5 u6 u7 u8 u9 v0 v1 v2 v3 v4 v5 v6 v7 K:=Av (Ar E0 Dl) (Az Dl) 3 6 (Ac 6 ac_r16_Plain) [2,1000003] _ K rfl (kr (by kernel_rfl) h)
theorem Ajp(t5 u0:Int)(u1 u2:Int)(u3:LB)(u4 u5:LL)(u6 u7 u8:Int)(u9:LB)(v0:LL)(v1 v2 v3:Int)(v4:LB)(v5 v6:LL)(v7 v8:LL)(K:KK)(h:
 (Br (decide (t5<(↑u4.length:Int)))
 (Ah (((0:Int)≤t5∧t5<(↑u4.length:Int))∧
 Bt
 [.int .i64, .int .i64, .int .i64, .str, .sl 6 Aa,
 .sl 7 Ag]
 (u4.getD t5.toNat [])=
 true)
 (Call E0.P Tf [.imm (.agg [.int .i64 (gI (u4.getD t5.toNat []) 0), .int .i64 (gI (u4.getD t5.toNat []) 1), .int .i64 (gI (u4.getD t5.toNat []) 2), .str (gS (u4.getD t5.toNat []) 3), .sl .any 6 (gR (u4.getD t5.toNat []) 4), .sl .any 7 (gR (u4.getD t5.toNat []) 5)])] [] fun r0 g0=>
 Ah (qV3 g0 r0)
 (Ah ((v0.length+1)*88≤140737488355328∧v0.length+1≤140737488355328)
 (Yx (IntKind.i64.wrap (t5+(1:Int))) u0 u1 u2 u3 u4 u5 u6 u7 u8 u9 (v0++
 [[IV.int .i64 (gI (Ae r0) 0), .int .i64 (gI (Ae r0) 1),
 .int .i64 (gI (Ae r0) 2), .str (gS (Ae r0) 3),
 .sl SK.any 6 (gR (Ae r0) 4), .sl SK.any 7 (gR (Ae r0) 5)]]) v1 v2 v3 v4 v5 v6 v7 v8 K))))
 (K (.exit (1)) ⟨[(2, .ptr nL2 0),(4, .own Axf),(3, .ptr nL3 0)],[(nL2, .blk Aa [Ai u6,Ai u7,Ai u8,As u9, .own (nL2.cell 4), .own (nL2.cell 5)]),(Axf, .arr 0 true 6 v0),(nL3, .blk Aa [Ai v1,Ai v2,Ai v3,As v4,Al 6 v5,Al 7 v6]),((nL2.cell 4), .arr (Aa+2) true 6 v7),((nL2.cell 5), .arr (Ag+2) true 7 v8)]⟩))):Yx t5 u0 u1 u2 u3 u4 u5 u6 u7 u8 u9 v0 v1 v2 v3 v4 v5 v6 v7 v8 K:=Bg (Ar E0 Dl) (Az Dl) 3 10 (Au 10 ac_r16_Plain) [1,2,4,5,1000003] _ K rfl (kr (by kernel_rfl) h)
theorem Ayv(u0 u1 u2:Int)(u3:LB)(u4 u5 u6:Int)(u7:LB)(u8 u9:LL)(v0 v1:LL)(K:KK)(h:
 (K .ret ⟨[(2, .ptr nL2 0)],[(nL2, .blk Aa [Ai u4,Ai u5,Ai u6,As u7,Al 6 u8,Al 7 u9])]⟩)):Apx u0 u1 u2 u3 u4 u5 u6 u7 u8 u9 v0 v1 K:=Av (Ar E0 Dl) (Az Dl) 3 20 (Ac 20 ac_r16_Plain) [] _ K rfl (kr (by kernel_rfl) h)
theorem Ayu(u0 u1 u2:Int)(u3:LB)(u4:LL)(u5 u6 u7:Int)(u8:LB)(u9 v0:LL)(v1 v2:LL)(K:KK)(h:
 (K .normal ⟨[(2, .ptr nL2 0),(3, .ptr nL3 0)],[(nL2, .blk Aa [Ai u0,Ai u1,Ai u2,As u3, .own (nL2.cell 4), .own (nL2.cell 5)]),(nL3, .blk Aa [Ai u5,Ai u6,Ai u7,As u8,Al 6 u4,Al 7 v0]),((nL2.cell 4), .arr (Aa+2) true 6 v1),((nL2.cell 5), .arr (Ag+2) true 7 v2)]⟩)):Apw u0 u1 u2 u3 u4 u5 u6 u7 u8 u9 v0 v1 v2 K:=Av (Ar E0 Dl) (Az Dl) 3 15 (Ac 15 ac_r16_Plain) [2,1000003] _ K rfl (kr (by kernel_rfl) h)
theorem A1k(Q:QQ)(u0 u1 u2:Int)(u3:LB)(u4 u5:LL)(h:
 (Q (.imm (.agg [.int .i64 u0, .int .i64 u1, .int .i64 u2, .str u3, .sl .any 6 u4, .sl .any 7 u5])) [])):Ah6 Q .ret ⟨[(2, .ptr nL2 0)],[(nL2, .blk Aa [Ai u0,Ai u1,Ai u2,As u3,Al 6 u4,Al 7 u5])]⟩:=kr (by kernel_rfl) h
theorem A1l(Q:QQ)(u0 u1 u2:Int)(u3:LB)(u4 u5 u6:Int)(u7:LB)(u8 u9:LL)(v0 v1:LL)(h:
 (Apx u0 u1 u2 u3 u4 u5 u6 u7 u8 u9 v0 v1 (Ah6 Q))):Ns Q .normal ⟨[(2, .ptr nL2 0),(3, .ptr nL3 0)],[(nL2, .blk Aa [Ai u0,Ai u1,Ai u2,As u3, .own (nL2.cell 4), .own (nL2.cell 5)]),(nL3, .blk Aa [Ai u4,Ai u5,Ai u6,As u7,Al 6 u8,Al 7 u9]),((nL2.cell 4), .arr (Aa+2) true 6 v0),((nL2.cell 5), .arr (Ag+2) true 7 v1)]⟩:=kr (by kernel_rfl) h
theorem A1m(Q:QQ)(u0 u1 u2:Int)(u3:LB)(u4 u5:LL)(h:
 (Q (.imm (.agg [.int .i64 u0, .int .i64 u1, .int .i64 u2, .str u3, .sl .any 6 u4, .sl .any 7 u5])) [])):Ns Q .ret ⟨[(2, .ptr nL2 0)],[(nL2, .blk Aa [Ai u0,Ai u1,Ai u2,As u3, .own (nL2.cell 4), .own (nL2.cell 5)]),((nL2.cell 4), .arr (Aa+2) true 6 u4),((nL2.cell 5), .arr (Ag+2) true 7 u5)]⟩:=kr (by kernel_rfl) h
theorem A1n(K:KK)(u0 u1 u2:Int)(u3:LB)(u4 u5 u6:Int)(u7:LB)(u8 u9:LL)(v0 v1:LL)(h:
 (K .normal ⟨[(2, .ptr nL2 0),(3, .ptr nL3 0)],[(nL2, .blk Aa [Ai u0,Ai u1,Ai u2,As u3, .own (nL2.cell 4), .own (nL2.cell 5)]),(nL3, .blk Aa [Ai u4,Ai u5,Ai u6,As u7,Al 6 u8,Al 7 u9]),((nL2.cell 4), .arr (Aa+2) true 6 v0),((nL2.cell 5), .arr (Ag+2) true 7 v1)]⟩)):K8 K .normal ⟨[(2, .ptr nL2 0),(3, .ptr nL3 0)],[(nL2, .blk Aa [Ai u0,Ai u1,Ai u2,As u3, .own (nL2.cell 4), .own (nL2.cell 5)]),(nL3, .blk Aa [Ai u4,Ai u5,Ai u6,As u7,Al 6 u8,Al 7 u9]),((nL2.cell 4), .arr (Aa+2) true 6 v0),((nL2.cell 5), .arr (Ag+2) true 7 v1)]⟩:=kr (by kernel_rfl) h
theorem A1o(K:KK)(u0 u1 u2:Int)(u3:LB)(u4 u5:LL)(h:
 (K .ret ⟨[(2, .ptr nL2 0)],[(nL2, .blk Aa [Ai u0,Ai u1,Ai u2,As u3, .own (nL2.cell 4), .own (nL2.cell 5)]),((nL2.cell 4), .arr (Aa+2) true 6 u4),((nL2.cell 5), .arr (Ag+2) true 7 u5)]⟩)):K8 K .ret ⟨[(2, .ptr nL2 0)],[(nL2, .blk Aa [Ai u0,Ai u1,Ai u2,As u3, .own (nL2.cell 4), .own (nL2.cell 5)]),((nL2.cell 4), .arr (Aa+2) true 6 u4),((nL2.cell 5), .arr (Ag+2) true 7 u5)]⟩:=kr (by kernel_rfl) h
theorem A1p(K:KK)(u0 u1 u2:Int)(u3:LB)(u4:LL)(u5 u6 u7:Int)(u8:LB)(u9 v0:LL)(v1 v2:LL)(h:
 (Apw u0 u1 u2 u3 u4 u5 u6 u7 u8 u9 v0 v1 v2 (K8 K))):Ah7 K (.exit (1)) ⟨[(2, .ptr nL2 0),(4, .own Axf),(3, .ptr nL3 0)],[(nL2, .blk Aa [Ai u0,Ai u1,Ai u2,As u3, .own (nL2.cell 4), .own (nL2.cell 5)]),(Axf, .arr 0 true 6 u4),(nL3, .blk Aa [Ai u5,Ai u6,Ai u7,As u8,Al 6 u9,Al 7 v0]),((nL2.cell 4), .arr (Aa+2) true 6 v1),((nL2.cell 5), .arr (Ag+2) true 7 v2)]⟩:=kr (by kernel_rfl) h
theorem Bed:Bo E0.P 40 ac_r16_Plain.code Dl [.cell 2 28]:=Bh _ _ Tryz.f40 [(4,[1,2,10,12,1000003],[2,1000003]),(6,[1,2,10,18,1000003],[2,1000003]),(10,[1,2,4,5,1000003],[]),(12,[2,4,1000003],[]),(15,[2,4,1000003],[2,1000003]),(20,[2,1000003],[])] [2] _ 69 Tryz.func40 (by kernel_rfl) (by kernel_rfl) (by kernel_rfl) (by kernel_rfl)
theorem A6q(a0_0 a0_1 a0_2:Int)(a0_3:LB)(a0_4 a0_5:LL)(Q:QQ)(h:
 (Br (decide (a0_0=(1:Int)))
 (Aap a0_0 (decide (a0_0=(1:Int))) a0_0 a0_1 a0_2 a0_3 a0_4 a0_5 ((0:Int)) ((0:Int)) ((0:Int)) [] a0_0 ((0:Int)) ((0:Int)) [] [] [] [] [] (Ns Q))
 (Aap a0_0 (decide (a0_0=(2:Int))) a0_0 a0_1 a0_2 a0_3 a0_4 a0_5 ((0:Int)) ((0:Int)) ((0:Int)) [] a0_0 ((0:Int)) ((0:Int)) [] [] [] [] [] (Ns Q)))):Call E0.P Tf [.imm (.agg [.int .i64 a0_0, .int .i64 a0_1, .int .i64 a0_2, .str a0_3, .sl .any 6 a0_4, .sl .any 7 a0_5])] [] Q:=A8 (Ar E0 Dl) (Az Dl) 3 0 40 ac_r16_Plain [.cell 2 28] Bed _ _ Q rfl rfl (kr (by kernel_rfl) h)
noncomputable def ac_r16_Equal:AC:=(Bf [(5,[2,3,5],[]),(7,[2,3],[]),(12,[2,3],[]),(14,[2,3,6],[]),(16,[],[]),(20,[2,3,6],[2,3,6]),(21,[],[])] [4] (codeOf Tryz.f10) 0).1
abbrev Dh:Nat:=106
def Aax(t5 u0:Int)(u1 u2:Int)(u3:LB)(u4 u5:LL)(u6 u7 u8:Int)(u9:LB)(v0 v1:LL)(K:KK):Prop:=Bi 5 E0.P Dh (Au 5 ac_r16_Equal).code ⟨[(2, .ptr nL2 0),(3, .ptr nL3 0),(5,Ai t5)],[(nL2, .blk Aa [Ai u0,Ai u1,Ai u2,As u3,Al 6 u4,Al 7 u5]),(nL3, .blk Aa [Ai u6,Ai u7,Ai u8,As u9,Al 6 v0,Al 7 v1])]⟩ K
def Apu(u0 u1 u2:Int)(u3:LB)(u4 u5:LL)(u6 u7 u8:Int)(u9:LB)(v0 v1:LL)(K:KK):Prop:=Aq 12 E0.P Dh (Ac 12 ac_r16_Equal).code ⟨[(2, .ptr nL2 0),(3, .ptr nL3 0)],[(nL2, .blk Aa [Ai u0,Ai u1,Ai u2,As u3,Al 6 u4,Al 7 u5]),(nL3, .blk Aa [Ai u6,Ai u7,Ai u8,As u9,Al 6 v0,Al 7 v1])]⟩ K
def Yw(t6 u0:Int)(u1 u2:Int)(u3:LB)(u4 u5:LL)(u6 u7 u8:Int)(u9:LB)(v0 v1:LL)(K:KK):Prop:=Bi 14 E0.P Dh (Au 14 ac_r16_Equal).code ⟨[(2, .ptr nL2 0),(3, .ptr nL3 0),(6,Ai t6)],[(nL2, .blk Aa [Ai u0,Ai u1,Ai u2,As u3,Al 6 u4,Al 7 u5]),(nL3, .blk Aa [Ai u6,Ai u7,Ai u8,As u9,Al 6 v0,Al 7 v1])]⟩ K
def Yb(t6 u0:Int)(u1 u2:Int)(u3:LB)(u4 u5:LL)(u6 u7 u8:Int)(u9:LB)(v0 v1:LL)(K:KK):Prop:=Aq 20 E0.P Dh (Ac 20 ac_r16_Equal).code ⟨[(2, .ptr nL2 0),(3, .ptr nL3 0),(6,Ai t6)],[(nL2, .blk Aa [Ai u0,Ai u1,Ai u2,As u3,Al 6 u4,Al 7 u5]),(nL3, .blk Aa [Ai u6,Ai u7,Ai u8,As u9,Al 6 v0,Al 7 v1])]⟩ K
def Apv(K:KK):Prop:=Aq 21 E0.P Dh (Ac 21 ac_r16_Equal).code ⟨[],[]⟩ K
def Ah2(Q:QQ):KK:=kE fun st=>finish 0 E0.T [.tmp 4] [] Q st
def Ah3(Q:QQ):KK:=kF 0 (fun st=>Aq 12 E0.P Dh (Ac 12 ac_r16_Equal).code (mask [2,3] st) (Ah2 Q)) fun st=>finish 0 E0.T [.tmp 4] [] Q st
def Ah4(K:KK):KK:=kP [] K
def Ah5(K:KK):KK:=kC 2 (fun st=>Aq 21 E0.P Dh (Ac 21 ac_r16_Equal).code (mask [] st) (Ah4 K)) K
def Aau(K:KK):Ex→St→Prop
 | .normal,st=>Bi 14 E0.P Dh (Au 14 ac_r16_Equal).code (mask [2,3,6] st) K
 | .exit i,st=>K (.exit i) st
 | .goto i,st=>K (.goto i) st
 | .ret,st=>K .ret st
theorem Amf(t5 u0:Int)(u1 u2:Int)(u3:LB)(u4 u5:LL)(u6 u7 u8:Int)(u9:LB)(v0 v1:LL)(K:KK)(h:
 (Br (decide (t5<(↑u4.length:Int)))
 (Ah (((0:Int)≤t5∧t5<(↑u4.length:Int))∧
 Bt
 [.int .i64, .int .i64, .int .i64, .str, .sl 6 Aa,
 .sl 7 Ag]
 (u4.getD t5.toNat [])=
 true)
 (Ah (((0:Int)≤t5∧t5<(↑v0.length:Int))∧
 Bt
 [.int .i64, .int .i64, .int .i64, .str, .sl 6 Aa,
 .sl 7 Ag]
 (v0.getD t5.toNat [])=
 true)
 (Call E0.P Mw [.imm (.agg [.int .i64 (gI (u4.getD t5.toNat []) 0), .int .i64 (gI (u4.getD t5.toNat []) 1), .int .i64 (gI (u4.getD t5.toNat []) 2), .str (gS (u4.getD t5.toNat []) 3), .sl .any 6 (gR (u4.getD t5.toNat []) 4), .sl .any 7 (gR (u4.getD t5.toNat []) 5)]), .imm (.agg [.int .i64 (gI (v0.getD t5.toNat []) 0), .int .i64 (gI (v0.getD t5.toNat []) 1), .int .i64 (gI (v0.getD t5.toNat []) 2), .str (gS (v0.getD t5.toNat []) 3), .sl .any 6 (gR (v0.getD t5.toNat []) 4), .sl .any 7 (gR (v0.getD t5.toNat []) 5)])] [] fun r0 g0=>
 Ah (qV0 g0 r0)
 (Br (!rB r0)
 (K .ret ⟨[(4,Ab false)],[]⟩)
 (Aax (IntKind.i64.wrap (t5+(1:Int))) u0 u1 u2 u3 u4 u5 u6 u7 u8 u9 v0 v1 K)))))
 (K (.exit 0) ⟨[(2, .ptr nL2 0),(3, .ptr nL3 0)],[(nL2, .blk Aa [Ai u0,Ai u1,Ai u2,As u3,Al 6 u4,Al 7 u5]),(nL3, .blk Aa [Ai u6,Ai u7,Ai u8,As u9,Al 6 v0,Al 7 v1])]⟩))):Aax t5 u0 u1 u2 u3 u4 u5 u6 u7 u8 u9 v0 v1 K:=Bg (Ar E0 Dh) (Az Dh) 3 5 (Au 5 ac_r16_Equal) [2,3,5] _ K rfl (kr (by kernel_rfl) h)
theorem Ayr(u0 u1 u2:Int)(u3:LB)(u4 u5:LL)(u6 u7 u8:Int)(u9:LB)(v0 v1:LL)(K:KK)(h:
 (Yw ((0:Int)) u0 u1 u2 u3 u4 u5 u6 u7 u8 u9 v0 v1 (Ah5 K))):Apu u0 u1 u2 u3 u4 u5 u6 u7 u8 u9 v0 v1 K:=Av (Ar E0 Dh) (Az Dh) 3 12 (Ac 12 ac_r16_Equal) [] _ K rfl (kr (by kernel_rfl) h)
theorem Ajo(t6 u0:Int)(u1 u2:Int)(u3:LB)(u4 u5:LL)(u6 u7 u8:Int)(u9:LB)(v0 v1:LL)(K:KK)(h:
 (Br (decide (t6<(↑u5.length:Int)))
 (Ah (((0:Int)≤t6∧t6<(↑u5.length:Int))∧
 Bt
 [.str, .int .i64, .int .i64, .int .i64, .str, .sl 6 Aa,
 .sl 7 Ag]
 (u5.getD t6.toNat [])=
 true)
 (Ah (((0:Int)≤t6∧t6<(↑v1.length:Int))∧
 Bt
 [.str, .int .i64, .int .i64, .int .i64, .str, .sl 6 Aa,
 .sl 7 Ag]
 (v1.getD t6.toNat [])=
 true)
 (Ah ((!gS (u5.getD t6.toNat []) 0 == gS (v1.getD t6.toNat []) 0)=false→
 ((0:Int)≤t6∧t6<(↑u5.length:Int))∧
 Bt
 [.str, .int .i64, .int .i64, .int .i64, .str, .sl 6 Aa,
 .sl 7 Ag]
 (u5.getD t6.toNat [])=
 true)
 (Ah ((!gS (u5.getD t6.toNat []) 0 == gS (v1.getD t6.toNat []) 0)=false→
 ((0:Int)≤t6∧t6<(↑v1.length:Int))∧
 Bt
 [.str, .int .i64, .int .i64, .int .i64, .str, .sl 6 Aa,
 .sl 7 Ag]
 (v1.getD t6.toNat [])=
 true)
 (Br ((!gS (u5.getD t6.toNat []) 0 == gS (v1.getD t6.toNat []) 0) == false)
 (Call E0.P Mw [.imm (.agg [.int .i64 (gI (u5.getD t6.toNat []) 1), .int .i64 (gI (u5.getD t6.toNat []) 2), .int .i64 (gI (u5.getD t6.toNat []) 3), .str (gS (u5.getD t6.toNat []) 4), .sl .any 6 (gR (u5.getD t6.toNat []) 5), .sl .any 7 (gR (u5.getD t6.toNat []) 6)]), .imm (.agg [.int .i64 (gI (v1.getD t6.toNat []) 1), .int .i64 (gI (v1.getD t6.toNat []) 2), .int .i64 (gI (v1.getD t6.toNat []) 3), .str (gS (v1.getD t6.toNat []) 4), .sl .any 6 (gR (v1.getD t6.toNat []) 5), .sl .any 7 (gR (v1.getD t6.toNat []) 6)])] [] fun r0 g0=>
 Ah (qV0 g0 r0)
 (Let (!rB r0) fun x1=>
 Br (x1)
 (K .ret ⟨[(4,Ab false)],[]⟩)
 (Yb t6 u0 u1 u2 u3 u4 u5 u6 u7 u8 u9 v0 v1 (Aau K))))
 (Ah ((!false)=true)
 (Let (true) fun x2=>
 Br (x2)
 (K .ret ⟨[(4,Ab false)],[]⟩)
 (Yb t6 u0 u1 u2 u3 u4 u5 u6 u7 u8 u9 v0 v1 (Aau K)))))))))
 (K (.exit (2)) ⟨[],[]⟩))):Yw t6 u0 u1 u2 u3 u4 u5 u6 u7 u8 u9 v0 v1 K:=Bg (Ar E0 Dh) (Az Dh) 3 14 (Au 14 ac_r16_Equal) [2,3,6] _ K rfl (kr (by kernel_rfl) h)
theorem Ays(t6 u0:Int)(u1 u2:Int)(u3:LB)(u4 u5:LL)(u6 u7 u8:Int)(u9:LB)(v0 v1:LL)(K:KK)(h:
 (K .normal ⟨[(2, .ptr nL2 0),(3, .ptr nL3 0),(6,Ai (IntKind.i64.wrap (t6+(1:Int))))],[(nL2, .blk Aa [Ai u0,Ai u1,Ai u2,As u3,Al 6 u4,Al 7 u5]),(nL3, .blk Aa [Ai u6,Ai u7,Ai u8,As u9,Al 6 v0,Al 7 v1])]⟩)):Yb t6 u0 u1 u2 u3 u4 u5 u6 u7 u8 u9 v0 v1 K:=Av (Ar E0 Dh) (Az Dh) 3 20 (Ac 20 ac_r16_Equal) [2,3,6] _ K rfl (kr (by kernel_rfl) h)
theorem Ayt(K:KK)(h:
 (K .ret ⟨[(4,Ab true)],[]⟩)):Apv K:=Av (Ar E0 Dh) (Az Dh) 3 21 (Ac 21 ac_r16_Equal) [] _ K rfl (kr (by kernel_rfl) h)
theorem Alu(Q:QQ)(t4:Bool)(h:
 (Q (Ab t4) [])):Ah2 Q .ret ⟨[(4,Ab t4)],[]⟩:=kr (by kernel_rfl) h
theorem A1e(Q:QQ)(t4:Bool)(h:
 (Q (Ab t4) [])):Ah3 Q .ret ⟨[(4,Ab t4)],[]⟩:=kr (by kernel_rfl) h
theorem A1f(Q:QQ)(u0 u1 u2:Int)(u3:LB)(u4 u5:LL)(u6 u7 u8:Int)(u9:LB)(v0 v1:LL)(h:
 (Apu u0 u1 u2 u3 u4 u5 u6 u7 u8 u9 v0 v1 (Ah2 Q))):Ah3 Q (.exit 0) ⟨[(2, .ptr nL2 0),(3, .ptr nL3 0)],[(nL2, .blk Aa [Ai u0,Ai u1,Ai u2,As u3,Al 6 u4,Al 7 u5]),(nL3, .blk Aa [Ai u6,Ai u7,Ai u8,As u9,Al 6 v0,Al 7 v1])]⟩:=kr (by kernel_rfl) h
theorem A1g(K:KK)(t4:Bool)(h:
 (K .ret ⟨[(4,Ab t4)],[]⟩)):Ah4 K .ret ⟨[(4,Ab t4)],[]⟩:=kr (by kernel_rfl) h
theorem A1h(K:KK)(t4:Bool)(h:
 (K .ret ⟨[(4,Ab t4)],[]⟩)):Ah5 K .ret ⟨[(4,Ab t4)],[]⟩:=kr (by kernel_rfl) h
theorem A1i(K:KK)(h:
 (Apv (Ah4 K))):Ah5 K (.exit (2)) ⟨[],[]⟩:=kr (by kernel_rfl) h
theorem A1j(K:KK)(t6 u0:Int)(u1 u2:Int)(u3:LB)(u4 u5:LL)(u6 u7 u8:Int)(u9:LB)(v0 v1:LL)(h:
 (Yw t6 u0 u1 u2 u3 u4 u5 u6 u7 u8 u9 v0 v1 K)):Aau K .normal ⟨[(2, .ptr nL2 0),(3, .ptr nL3 0),(6,Ai t6)],[(nL2, .blk Aa [Ai u0,Ai u1,Ai u2,As u3,Al 6 u4,Al 7 u5]),(nL3, .blk Aa [Ai u6,Ai u7,Ai u8,As u9,Al 6 v0,Al 7 v1])]⟩:=kr (by kernel_rfl) h
theorem Bec:Bo E0.P 10 ac_r16_Equal.code Dh [.tmp 4]:=Bh _ _ Tryz.f10 [(5,[2,3,5],[]),(7,[2,3],[]),(12,[2,3],[]),(14,[2,3,6],[]),(16,[],[]),(20,[2,3,6],[2,3,6]),(21,[],[])] [4] _ 106 Tryz.func10 (by kernel_rfl) (by kernel_rfl) (by kernel_rfl) (by kernel_rfl)
theorem A6p(a0_0 a0_1 a0_2:Int)(a0_3:LB)(a0_4 a0_5:LL)(a1_0 a1_1 a1_2:Int)(a1_3:LB)(a1_4 a1_5:LL)(Q:QQ)(h:
 (Let (bif !decide (a0_0=a1_0)then true else !decide (a0_1=a1_1)) fun x0=>
 Let (bif x0 then true else !decide (a0_2=a1_2)) fun x1=>
 Let (bif x1 then true else !a0_3 == a1_3) fun x2=>
 Let (bif x2 then true else !decide ((↑a0_4.length:Int)=(↑a1_4.length:Int))) fun x3=>
 Let (bif x3 then true else !decide ((↑a0_5.length:Int)=(↑a1_5.length:Int))) fun x4=>
 Br (x4)
 (Q (Ab false) [])
 (Aax ((0:Int)) a0_0 a0_1 a0_2 a0_3 a0_4 a0_5 a1_0 a1_1 a1_2 a1_3 a1_4 a1_5 (Ah3 Q)))):Call E0.P Mw [.imm (.agg [.int .i64 a0_0, .int .i64 a0_1, .int .i64 a0_2, .str a0_3, .sl .any 6 a0_4, .sl .any 7 a0_5]), .imm (.agg [.int .i64 a1_0, .int .i64 a1_1, .int .i64 a1_2, .str a1_3, .sl .any 6 a1_4, .sl .any 7 a1_5])] [] Q:=A8 (Ar E0 Dh) (Az Dh) 3 0 10 ac_r16_Equal [.tmp 4] Bec _ _ Q rfl rfl (kr (by kernel_rfl) h)
noncomputable def ac_r16_Few:AC:=(Bf [] [4] (codeOf Tryz.f11) 0).1
abbrev As8:Nat:=19
theorem Biu:Bo E0.P 11 ac_r16_Few.code As8 [.tmp 4]:=Bh _ _ Tryz.f11 [] [4] _ 19 Tryz.func11 (by kernel_rfl) (by kernel_rfl) (by kernel_rfl) (by kernel_rfl)
theorem Bbu(a0_0 a0_1 a0_2:Int)(a0_3:LB)(a0_4 a0_5:LL)(a1:Int)(Q:QQ)(h:
 (Call E0.P Aam [.imm (.agg [.int .i64 a0_0, .int .i64 a0_1, .int .i64 a0_2, .str a0_3, .sl .any 6 a0_4, .sl .any 7 a0_5]),Ai (IntKind.i64.wrap (a1+(1:Int)))] [] fun r0 g0=>
 Ah (qV1 g0 r0)
 (Br (decide (rI r0≤a1) == true)
 (Call E0.P Ad8 [.imm (.agg [.int .i64 a0_0, .int .i64 a0_1, .int .i64 a0_2, .str a0_3, .sl .any 6 a0_4, .sl .any 7 a0_5]),Ai 200] [] fun r1 g1=>
 Ah (qV0 g1 r1)
 (Let (rB r1) fun x2=>
 Br (x2 == true)
 (Call E0.P Tg [.imm (.agg [.int .i64 a0_0, .int .i64 a0_1, .int .i64 a0_2, .str a0_3, .sl .any 6 a0_4, .sl .any 7 a0_5]),Ai 3000] [] fun r3 g3=>
 Ah (qV0 g3 r3)
 (Let (rB r3) fun x4=>
 Q (Ab x4) []))
 (Ah ((!true)=false)
 (Let (false) fun x5=>
 Q (Ab x5) []))))
 (Ah ((!true)=false)
 (Let (false) fun x6=>
 Br (x6 == true)
 (Call E0.P Tg [.imm (.agg [.int .i64 a0_0, .int .i64 a0_1, .int .i64 a0_2, .str a0_3, .sl .any 6 a0_4, .sl .any 7 a0_5]),Ai 3000] [] fun r7 g7=>
 Ah (qV0 g7 r7)
 (Let (rB r7) fun x8=>
 Q (Ab x8) []))
 (Ah ((!true)=false)
 (Let (false) fun x9=>
 Q (Ab x9) []))))))):Call E0.P Ass [.imm (.agg [.int .i64 a0_0, .int .i64 a0_1, .int .i64 a0_2, .str a0_3, .sl .any 6 a0_4, .sl .any 7 a0_5]),Ai a1] [] Q:=A8 (Ar E0 As8) (Az As8) 3 0 11 ac_r16_Few [.tmp 4] Biu _ _ Q rfl rfl (kr (by kernel_rfl) h)
noncomputable def ac_r16_size:AC:=(Bf [(3,[1,2,5,6],[]),(5,[1,2,5],[]),(8,[1,2,5],[]),(10,[1,2,5,7],[]),(12,[5],[]),(15,[5],[])] [4] (codeOf Tryz.f23) 0).1
abbrev Ez:Nat:=56
def Xo(t1 t5:Int)(t6 u0:Int)(u1 u2:Int)(u3:LB)(u4 u5:LL)(K:KK):Prop:=Bi 3 E0.P Ez (Au 3 ac_r16_size).code ⟨[(1,Ai t1),(2, .ptr nL2 0),(5,Ai t5),(6,Ai t6)],[(nL2, .blk Aa [Ai u0,Ai u1,Ai u2,As u3,Al 6 u4,Al 7 u5])]⟩ K
def Avk(t1 t5:Int)(u0 u1 u2:Int)(u3:LB)(u4 u5:LL)(K:KK):Prop:=Aq 8 E0.P Ez (Ac 8 ac_r16_size).code ⟨[(1,Ai t1),(2, .ptr nL2 0),(5,Ai t5)],[(nL2, .blk Aa [Ai u0,Ai u1,Ai u2,As u3,Al 6 u4,Al 7 u5])]⟩ K
def Vu(t1 t5:Int)(t7 u0:Int)(u1 u2:Int)(u3:LB)(u4 u5:LL)(K:KK):Prop:=Bi 10 E0.P Ez (Au 10 ac_r16_size).code ⟨[(1,Ai t1),(2, .ptr nL2 0),(5,Ai t5),(7,Ai t7)],[(nL2, .blk Aa [Ai u0,Ai u1,Ai u2,As u3,Al 6 u4,Al 7 u5])]⟩ K
def Atu(t5:Int)(K:KK):Prop:=Aq 15 E0.P Ez (Ac 15 ac_r16_size).code ⟨[(5,Ai t5)],[]⟩ K
def Aly(Q:QQ):KK:=kE fun st=>finish 0 E0.T [.tmp 4] [] Q st
def Av3(Q:QQ):KK:=kF 0 (fun st=>Aq 8 E0.P Ez (Ac 8 ac_r16_size).code (mask [1,2,5] st) (Aly Q)) fun st=>finish 0 E0.T [.tmp 4] [] Q st
def Alz(K:KK):KK:=kP [] K
def Av4(K:KK):KK:=kC 2 (fun st=>Aq 15 E0.P Ez (Ac 15 ac_r16_size).code (mask [5] st) (Alz K)) K
theorem An4(t1 t5:Int)(t6 u0:Int)(u1 u2:Int)(u3:LB)(u4 u5:LL)(K:KK)(h:
 (Let (bif decide (t6<(↑u4.length:Int))then decide (t5<t1)else false) fun x0=>
 Br (x0)
 (Ah (((0:Int)≤t6∧t6<(↑u4.length:Int))∧
 Bt
 [.int .i64, .int .i64, .int .i64, .str, .sl 6 Aa,
 .sl 7 Ag]
 (u4.getD t6.toNat [])=
 true)
 (Call E0.P Aam [.imm (.agg [.int .i64 (gI (u4.getD t6.toNat []) 0), .int .i64 (gI (u4.getD t6.toNat []) 1), .int .i64 (gI (u4.getD t6.toNat []) 2), .str (gS (u4.getD t6.toNat []) 3), .sl .any 6 (gR (u4.getD t6.toNat []) 4), .sl .any 7 (gR (u4.getD t6.toNat []) 5)]),Ai (IntKind.i64.wrap (t1 - t5))] [] fun r1 g1=>
 Ah (qV1 g1 r1)
 (Xo t1 (IntKind.i64.wrap (t5+rI r1)) (IntKind.i64.wrap (t6+(1:Int))) u0 u1 u2 u3 u4 u5 K)))
 (K (.exit 0) ⟨[(1,Ai t1),(2, .ptr nL2 0),(5,Ai t5)],[(nL2, .blk Aa [Ai u0,Ai u1,Ai u2,As u3,Al 6 u4,Al 7 u5])]⟩))):Xo t1 t5 t6 u0 u1 u2 u3 u4 u5 K:=Bg (Ar E0 Ez) (Az Ez) 3 3 (Au 3 ac_r16_size) [1,2,5,6] _ K rfl (kr (by kernel_rfl) h)
theorem A31(t1 t5:Int)(u0 u1 u2:Int)(u3:LB)(u4 u5:LL)(K:KK)(h:
 (Vu t1 t5 ((0:Int)) u0 u1 u2 u3 u4 u5 (Av4 K))):Avk t1 t5 u0 u1 u2 u3 u4 u5 K:=Av (Ar E0 Ez) (Az Ez) 3 8 (Ac 8 ac_r16_size) [] _ K rfl (kr (by kernel_rfl) h)
theorem Amj(t1 t5:Int)(t7 u0:Int)(u1 u2:Int)(u3:LB)(u4 u5:LL)(K:KK)(h:
 (Let (bif decide (t7<(↑u5.length:Int))then decide (t5<t1)else false) fun x0=>
 Br (x0)
 (Ah (((0:Int)≤t7∧t7<(↑u5.length:Int))∧
 Bt
 [.str, .int .i64, .int .i64, .int .i64, .str, .sl 6 Aa,
 .sl 7 Ag]
 (u5.getD t7.toNat [])=
 true)
 (Call E0.P Aam [.imm (.agg [.int .i64 (gI (u5.getD t7.toNat []) 1), .int .i64 (gI (u5.getD t7.toNat []) 2), .int .i64 (gI (u5.getD t7.toNat []) 3), .str (gS (u5.getD t7.toNat []) 4), .sl .any 6 (gR (u5.getD t7.toNat []) 5), .sl .any 7 (gR (u5.getD t7.toNat []) 6)]),Ai (IntKind.i64.wrap (t1 - t5))] [] fun r1 g1=>
 Ah (qV1 g1 r1)
 (Vu t1 (IntKind.i64.wrap (t5+rI r1)) (IntKind.i64.wrap (t7+(1:Int))) u0 u1 u2 u3 u4 u5 K)))
 (K (.exit (2)) ⟨[(5,Ai t5)],[]⟩))):Vu t1 t5 t7 u0 u1 u2 u3 u4 u5 K:=Bg (Ar E0 Ez) (Az Ez) 3 10 (Au 10 ac_r16_size) [1,2,5,7] _ K rfl (kr (by kernel_rfl) h)
theorem A0q(t5:Int)(K:KK)(h:
 (K .ret ⟨[(4,Ai t5)],[]⟩)):Atu t5 K:=Av (Ar E0 Ez) (Az Ez) 3 15 (Ac 15 ac_r16_size) [] _ K rfl (kr (by kernel_rfl) h)
theorem A4h(Q:QQ)(t4:Int)(h:
 (Q (Ai t4) [])):Aly Q .ret ⟨[(4,Ai t4)],[]⟩:=kr (by kernel_rfl) h
theorem A4i(Q:QQ)(t1 t5:Int)(u0 u1 u2:Int)(u3:LB)(u4 u5:LL)(h:
 (Avk t1 t5 u0 u1 u2 u3 u4 u5 (Aly Q))):Av3 Q (.exit 0) ⟨[(1,Ai t1),(2, .ptr nL2 0),(5,Ai t5)],[(nL2, .blk Aa [Ai u0,Ai u1,Ai u2,As u3,Al 6 u4,Al 7 u5])]⟩:=kr (by kernel_rfl) h
theorem A4j(K:KK)(t4:Int)(h:
 (K .ret ⟨[(4,Ai t4)],[]⟩)):Alz K .ret ⟨[(4,Ai t4)],[]⟩:=kr (by kernel_rfl) h
theorem A4k(K:KK)(t5:Int)(h:
 (Atu t5 (Alz K))):Av4 K (.exit (2)) ⟨[(5,Ai t5)],[]⟩:=kr (by kernel_rfl) h
theorem Bf3:Bo E0.P 23 ac_r16_size.code Ez [.tmp 4]:=Bh _ _ Tryz.f23 [(3,[1,2,5,6],[]),(5,[1,2,5],[]),(8,[1,2,5],[]),(10,[1,2,5,7],[]),(12,[5],[]),(15,[5],[])] [4] _ 56 Tryz.func23 (by kernel_rfl) (by kernel_rfl) (by kernel_rfl) (by kernel_rfl)
theorem Bal(a0_0 a0_1 a0_2:Int)(a0_3:LB)(a0_4 a0_5:LL)(a1:Int)(Q:QQ)(h:
 (Xo a1 ((1:Int)) ((0:Int)) a0_0 a0_1 a0_2 a0_3 a0_4 a0_5 (Av3 Q))):Call E0.P Aam [.imm (.agg [.int .i64 a0_0, .int .i64 a0_1, .int .i64 a0_2, .str a0_3, .sl .any 6 a0_4, .sl .any 7 a0_5]),Ai a1] [] Q:=A8 (Ar E0 Ez) (Az Ez) 3 0 23 ac_r16_size [.tmp 4] Bf3 _ _ Q rfl rfl (kr (by kernel_rfl) h)
noncomputable def ac_r16_low:AC:=(Bf [(5,[1,2,5],[]),(7,[1,2],[]),(12,[1,2],[]),(14,[1,2,6],[]),(16,[],[]),(21,[],[])] [4] (codeOf Tryz.f24) 0).1
abbrev Fx:Nat:=42
def Agm(t1 t5:Int)(u0 u1 u2:Int)(u3:LB)(u4 u5:LL)(K:KK):Prop:=Bi 5 E0.P Fx (Au 5 ac_r16_low).code ⟨[(1,Ai t1),(2, .ptr nL2 0),(5,Ai t5)],[(nL2, .blk Aa [Ai u0,Ai u1,Ai u2,As u3,Al 6 u4,Al 7 u5])]⟩ K
def Avf(t1 u0:Int)(u1 u2:Int)(u3:LB)(u4 u5:LL)(K:KK):Prop:=Aq 12 E0.P Fx (Ac 12 ac_r16_low).code ⟨[(1,Ai t1),(2, .ptr nL2 0)],[(nL2, .blk Aa [Ai u0,Ai u1,Ai u2,As u3,Al 6 u4,Al 7 u5])]⟩ K
def Ado(t1 t6:Int)(u0 u1 u2:Int)(u3:LB)(u4 u5:LL)(K:KK):Prop:=Bi 14 E0.P Fx (Au 14 ac_r16_low).code ⟨[(1,Ai t1),(2, .ptr nL2 0),(6,Ai t6)],[(nL2, .blk Aa [Ai u0,Ai u1,Ai u2,As u3,Al 6 u4,Al 7 u5])]⟩ K
def Avg(K:KK):Prop:=Aq 21 E0.P Fx (Ac 21 ac_r16_low).code ⟨[],[]⟩ K
def Aov(Q:QQ):KK:=kE fun st=>finish 0 E0.T [.tmp 4] [] Q st
def Aow(Q:QQ):KK:=kF 0 (fun st=>Aq 12 E0.P Fx (Ac 12 ac_r16_low).code (mask [1,2] st) (Aov Q)) fun st=>finish 0 E0.T [.tmp 4] [] Q st
def Aox(K:KK):KK:=kP [] K
def Aoy(K:KK):KK:=kC 2 (fun st=>Aq 21 E0.P Fx (Ac 21 ac_r16_low).code (mask [] st) (Aox K)) K
theorem Aqu(t1 t5:Int)(u0 u1 u2:Int)(u3:LB)(u4 u5:LL)(K:KK)(h:
 (Br (decide (t5<(↑u4.length:Int)))
 (Ah (((0:Int)≤t5∧t5<(↑u4.length:Int))∧
 Bt
 [.int .i64, .int .i64, .int .i64, .str, .sl 6 Aa,
 .sl 7 Ag]
 (u4.getD t5.toNat [])=
 true)
 (Call E0.P Ad8 [.imm (.agg [.int .i64 (gI (u4.getD t5.toNat []) 0), .int .i64 (gI (u4.getD t5.toNat []) 1), .int .i64 (gI (u4.getD t5.toNat []) 2), .str (gS (u4.getD t5.toNat []) 3), .sl .any 6 (gR (u4.getD t5.toNat []) 4), .sl .any 7 (gR (u4.getD t5.toNat []) 5)]),Ai (IntKind.i64.wrap (t1 - (1:Int)))] [] fun r0 g0=>
 Ah (qV0 g0 r0)
 (Br (!rB r0)
 (K .ret ⟨[(4,Ab false)],[]⟩)
 (Agm t1 (IntKind.i64.wrap (t5+(1:Int))) u0 u1 u2 u3 u4 u5 K))))
 (K (.exit 0) ⟨[(1,Ai t1),(2, .ptr nL2 0)],[(nL2, .blk Aa [Ai u0,Ai u1,Ai u2,As u3,Al 6 u4,Al 7 u5])]⟩))):Agm t1 t5 u0 u1 u2 u3 u4 u5 K:=Bg (Ar E0 Fx) (Az Fx) 3 5 (Au 5 ac_r16_low) [1,2,5] _ K rfl (kr (by kernel_rfl) h)
theorem A3v(t1 u0:Int)(u1 u2:Int)(u3:LB)(u4 u5:LL)(K:KK)(h:
 (Ado t1 ((0:Int)) u0 u1 u2 u3 u4 u5 (Aoy K))):Avf t1 u0 u1 u2 u3 u4 u5 K:=Av (Ar E0 Fx) (Az Fx) 3 12 (Ac 12 ac_r16_low) [] _ K rfl (kr (by kernel_rfl) h)
theorem An3(t1 t6:Int)(u0 u1 u2:Int)(u3:LB)(u4 u5:LL)(K:KK)(h:
 (Br (decide (t6<(↑u5.length:Int)))
 (Ah (((0:Int)≤t6∧t6<(↑u5.length:Int))∧
 Bt
 [.str, .int .i64, .int .i64, .int .i64, .str, .sl 6 Aa,
 .sl 7 Ag]
 (u5.getD t6.toNat [])=
 true)
 (Call E0.P Ad8 [.imm (.agg [.int .i64 (gI (u5.getD t6.toNat []) 1), .int .i64 (gI (u5.getD t6.toNat []) 2), .int .i64 (gI (u5.getD t6.toNat []) 3), .str (gS (u5.getD t6.toNat []) 4), .sl .any 6 (gR (u5.getD t6.toNat []) 5), .sl .any 7 (gR (u5.getD t6.toNat []) 6)]),Ai (IntKind.i64.wrap (t1 - (1:Int)))] [] fun r0 g0=>
 Ah (qV0 g0 r0)
 (Br (!rB r0)
 (K .ret ⟨[(4,Ab false)],[]⟩)
 (Ado t1 (IntKind.i64.wrap (t6+(1:Int))) u0 u1 u2 u3 u4 u5 K))))
 (K (.exit (2)) ⟨[],[]⟩))):Ado t1 t6 u0 u1 u2 u3 u4 u5 K:=Bg (Ar E0 Fx) (Az Fx) 3 14 (Au 14 ac_r16_low) [1,2,6] _ K rfl (kr (by kernel_rfl) h)
theorem A3w(K:KK)(h:
 (K .ret ⟨[(4,Ab true)],[]⟩)):Avg K:=Av (Ar E0 Fx) (Az Fx) 3 21 (Ac 21 ac_r16_low) [] _ K rfl (kr (by kernel_rfl) h)
theorem Aqm(Q:QQ)(t4:Bool)(h:
 (Q (Ab t4) [])):Aov Q .ret ⟨[(4,Ab t4)],[]⟩:=kr (by kernel_rfl) h
theorem A69(Q:QQ)(t4:Bool)(h:
 (Q (Ab t4) [])):Aow Q .ret ⟨[(4,Ab t4)],[]⟩:=kr (by kernel_rfl) h
theorem A7a(Q:QQ)(t1 u0:Int)(u1 u2:Int)(u3:LB)(u4 u5:LL)(h:
 (Avf t1 u0 u1 u2 u3 u4 u5 (Aov Q))):Aow Q (.exit 0) ⟨[(1,Ai t1),(2, .ptr nL2 0)],[(nL2, .blk Aa [Ai u0,Ai u1,Ai u2,As u3,Al 6 u4,Al 7 u5])]⟩:=kr (by kernel_rfl) h
theorem A7b(K:KK)(t4:Bool)(h:
 (K .ret ⟨[(4,Ab t4)],[]⟩)):Aox K .ret ⟨[(4,Ab t4)],[]⟩:=kr (by kernel_rfl) h
theorem A7c(K:KK)(t4:Bool)(h:
 (K .ret ⟨[(4,Ab t4)],[]⟩)):Aoy K .ret ⟨[(4,Ab t4)],[]⟩:=kr (by kernel_rfl) h
theorem A7d(K:KK)(h:
 (Avg (Aox K))):Aoy K (.exit (2)) ⟨[],[]⟩:=kr (by kernel_rfl) h
theorem Biw:Bo E0.P 24 ac_r16_low.code Fx [.tmp 4]:=Bh _ _ Tryz.f24 [(5,[1,2,5],[]),(7,[1,2],[]),(12,[1,2],[]),(14,[1,2,6],[]),(16,[],[]),(21,[],[])] [4] _ 42 Tryz.func24 (by kernel_rfl) (by kernel_rfl) (by kernel_rfl) (by kernel_rfl)
theorem Bbw(a0_0 a0_1 a0_2:Int)(a0_3:LB)(a0_4 a0_5:LL)(a1:Int)(Q:QQ)(h:
 (Br (decide (a1<(0:Int)))
 (Q (Ab false) [])
 (Agm a1 ((0:Int)) a0_0 a0_1 a0_2 a0_3 a0_4 a0_5 (Aow Q)))):Call E0.P Ad8 [.imm (.agg [.int .i64 a0_0, .int .i64 a0_1, .int .i64 a0_2, .str a0_3, .sl .any 6 a0_4, .sl .any 7 a0_5]),Ai a1] [] Q:=A8 (Ar E0 Fx) (Az Fx) 3 0 24 ac_r16_low [.tmp 4] Biw _ _ Q rfl rfl (kr (by kernel_rfl) h)
noncomputable def ac_r16_short:AC:=(Bf [(5,[1,2,5],[]),(7,[1,2],[]),(12,[1,2],[]),(14,[1,2,6],[]),(16,[],[]),(20,[1,2,6],[1,2,6]),(21,[],[])] [4] (codeOf Tryz.f25) 0).1
abbrev Dj:Nat:=54
def Aa0(t1 t5:Int)(u0 u1 u2:Int)(u3:LB)(u4 u5:LL)(K:KK):Prop:=Bi 5 E0.P Dj (Au 5 ac_r16_short).code ⟨[(1,Ai t1),(2, .ptr nL2 0),(5,Ai t5)],[(nL2, .blk Aa [Ai u0,Ai u1,Ai u2,As u3,Al 6 u4,Al 7 u5])]⟩ K
def Ap1(t1 u0:Int)(u1 u2:Int)(u3:LB)(u4 u5:LL)(K:KK):Prop:=Aq 12 E0.P Dj (Ac 12 ac_r16_short).code ⟨[(1,Ai t1),(2, .ptr nL2 0)],[(nL2, .blk Aa [Ai u0,Ai u1,Ai u2,As u3,Al 6 u4,Al 7 u5])]⟩ K
def Y0(t1 t6:Int)(u0 u1 u2:Int)(u3:LB)(u4 u5:LL)(K:KK):Prop:=Bi 14 E0.P Dj (Au 14 ac_r16_short).code ⟨[(1,Ai t1),(2, .ptr nL2 0),(6,Ai t6)],[(nL2, .blk Aa [Ai u0,Ai u1,Ai u2,As u3,Al 6 u4,Al 7 u5])]⟩ K
def Ae4(t1 t6:Int)(u0 u1 u2:Int)(u3:LB)(u4 u5:LL)(K:KK):Prop:=Aq 20 E0.P Dj (Ac 20 ac_r16_short).code ⟨[(1,Ai t1),(2, .ptr nL2 0),(6,Ai t6)],[(nL2, .blk Aa [Ai u0,Ai u1,Ai u2,As u3,Al 6 u4,Al 7 u5])]⟩ K
def Ap2(K:KK):Prop:=Aq 21 E0.P Dj (Ac 21 ac_r16_short).code ⟨[],[]⟩ K
def Aie(Q:QQ):KK:=kE fun st=>finish 0 E0.T [.tmp 4] [] Q st
def Aif(Q:QQ):KK:=kF 0 (fun st=>Aq 12 E0.P Dj (Ac 12 ac_r16_short).code (mask [1,2] st) (Aie Q)) fun st=>finish 0 E0.T [.tmp 4] [] Q st
def Aig(K:KK):KK:=kP [] K
def Aih(K:KK):KK:=kC 2 (fun st=>Aq 21 E0.P Dj (Ac 21 ac_r16_short).code (mask [] st) (Aig K)) K
def Aii(K:KK):Ex→St→Prop
 | .normal,st=>Bi 14 E0.P Dj (Au 14 ac_r16_short).code (mask [1,2,6] st) K
 | .exit i,st=>K (.exit i) st
 | .goto i,st=>K (.goto i) st
 | .ret,st=>K .ret st
theorem Ami(t1 t5:Int)(u0 u1 u2:Int)(u3:LB)(u4 u5:LL)(K:KK)(h:
 (Br (decide (t5<(↑u4.length:Int)))
 (Ah (((0:Int)≤t5∧t5<(↑u4.length:Int))∧
 Bt
 [.int .i64, .int .i64, .int .i64, .str, .sl 6 Aa,
 .sl 7 Ag]
 (u4.getD t5.toNat [])=
 true)
 (Call E0.P Tg [.imm (.agg [.int .i64 (gI (u4.getD t5.toNat []) 0), .int .i64 (gI (u4.getD t5.toNat []) 1), .int .i64 (gI (u4.getD t5.toNat []) 2), .str (gS (u4.getD t5.toNat []) 3), .sl .any 6 (gR (u4.getD t5.toNat []) 4), .sl .any 7 (gR (u4.getD t5.toNat []) 5)]),Ai t1] [] fun r0 g0=>
 Ah (qV0 g0 r0)
 (Br (!rB r0)
 (K .ret ⟨[(4,Ab false)],[]⟩)
 (Aa0 t1 (IntKind.i64.wrap (t5+(1:Int))) u0 u1 u2 u3 u4 u5 K))))
 (K (.exit 0) ⟨[(1,Ai t1),(2, .ptr nL2 0)],[(nL2, .blk Aa [Ai u0,Ai u1,Ai u2,As u3,Al 6 u4,Al 7 u5])]⟩))):Aa0 t1 t5 u0 u1 u2 u3 u4 u5 K:=Bg (Ar E0 Dj) (Az Dj) 3 5 (Au 5 ac_r16_short) [1,2,5] _ K rfl (kr (by kernel_rfl) h)
theorem Ayz(t1 u0:Int)(u1 u2:Int)(u3:LB)(u4 u5:LL)(K:KK)(h:
 (Y0 t1 ((0:Int)) u0 u1 u2 u3 u4 u5 (Aih K))):Ap1 t1 u0 u1 u2 u3 u4 u5 K:=Av (Ar E0 Dj) (Az Dj) 3 12 (Ac 12 ac_r16_short) [] _ K rfl (kr (by kernel_rfl) h)
theorem Ajs(t1 t6:Int)(u0 u1 u2:Int)(u3:LB)(u4 u5:LL)(K:KK)(h:
 (Br (decide (t6<(↑u5.length:Int)))
 (Ah (((0:Int)≤t6∧t6<(↑u5.length:Int))∧
 Bt
 [.str, .int .i64, .int .i64, .int .i64, .str, .sl 6 Aa,
 .sl 7 Ag]
 (u5.getD t6.toNat [])=
 true)
 (Ah (decide (t1<(↑(gS (u5.getD t6.toNat []) (0:Nat)).length:Int))=false→
 ((0:Int)≤t6∧t6<(↑u5.length:Int))∧
 Bt
 [.str, .int .i64, .int .i64, .int .i64, .str, .sl 6 Aa,
 .sl 7 Ag]
 (u5.getD t6.toNat [])=
 true)
 (Br (decide (t1<(↑(gS (u5.getD t6.toNat []) (0:Nat)).length:Int)) == false)
 (Call E0.P Tg [.imm (.agg [.int .i64 (gI (u5.getD t6.toNat []) 1), .int .i64 (gI (u5.getD t6.toNat []) 2), .int .i64 (gI (u5.getD t6.toNat []) 3), .str (gS (u5.getD t6.toNat []) 4), .sl .any 6 (gR (u5.getD t6.toNat []) 5), .sl .any 7 (gR (u5.getD t6.toNat []) 6)]),Ai t1] [] fun r0 g0=>
 Ah (qV0 g0 r0)
 (Let (!rB r0) fun x1=>
 Br (x1)
 (K .ret ⟨[(4,Ab false)],[]⟩)
 (Ae4 t1 t6 u0 u1 u2 u3 u4 u5 (Aii K))))
 (Ah ((!false)=true)
 (Let (true) fun x2=>
 Br (x2)
 (K .ret ⟨[(4,Ab false)],[]⟩)
 (Ae4 t1 t6 u0 u1 u2 u3 u4 u5 (Aii K)))))))
 (K (.exit (2)) ⟨[],[]⟩))):Y0 t1 t6 u0 u1 u2 u3 u4 u5 K:=Bg (Ar E0 Dj) (Az Dj) 3 14 (Au 14 ac_r16_short) [1,2,6] _ K rfl (kr (by kernel_rfl) h)
theorem Ay0(t1 t6:Int)(u0 u1 u2:Int)(u3:LB)(u4 u5:LL)(K:KK)(h:
 (K .normal ⟨[(1,Ai t1),(2, .ptr nL2 0),(6,Ai (IntKind.i64.wrap (t6+(1:Int))))],[(nL2, .blk Aa [Ai u0,Ai u1,Ai u2,As u3,Al 6 u4,Al 7 u5])]⟩)):Ae4 t1 t6 u0 u1 u2 u3 u4 u5 K:=Av (Ar E0 Dj) (Az Dj) 3 20 (Ac 20 ac_r16_short) [1,2,6] _ K rfl (kr (by kernel_rfl) h)
theorem Ay1(K:KK)(h:
 (K .ret ⟨[(4,Ab true)],[]⟩)):Ap2 K:=Av (Ar E0 Dj) (Az Dj) 3 21 (Ac 21 ac_r16_short) [] _ K rfl (kr (by kernel_rfl) h)
theorem Alx(Q:QQ)(t4:Bool)(h:
 (Q (Ab t4) [])):Aie Q .ret ⟨[(4,Ab t4)],[]⟩:=kr (by kernel_rfl) h
theorem A1z(Q:QQ)(t4:Bool)(h:
 (Q (Ab t4) [])):Aif Q .ret ⟨[(4,Ab t4)],[]⟩:=kr (by kernel_rfl) h
theorem A10(Q:QQ)(t1 u0:Int)(u1 u2:Int)(u3:LB)(u4 u5:LL)(h:
 (Ap1 t1 u0 u1 u2 u3 u4 u5 (Aie Q))):Aif Q (.exit 0) ⟨[(1,Ai t1),(2, .ptr nL2 0)],[(nL2, .blk Aa [Ai u0,Ai u1,Ai u2,As u3,Al 6 u4,Al 7 u5])]⟩:=kr (by kernel_rfl) h
theorem A11(K:KK)(t4:Bool)(h:
 (K .ret ⟨[(4,Ab t4)],[]⟩)):Aig K .ret ⟨[(4,Ab t4)],[]⟩:=kr (by kernel_rfl) h
theorem A12(K:KK)(t4:Bool)(h:
 (K .ret ⟨[(4,Ab t4)],[]⟩)):Aih K .ret ⟨[(4,Ab t4)],[]⟩:=kr (by kernel_rfl) h
theorem A13(K:KK)(h:
 (Ap2 (Aig K))):Aih K (.exit (2)) ⟨[],[]⟩:=kr (by kernel_rfl) h
theorem A14(K:KK)(t1 t6:Int)(u0 u1 u2:Int)(u3:LB)(u4 u5:LL)(h:
 (Y0 t1 t6 u0 u1 u2 u3 u4 u5 K)):Aii K .normal ⟨[(1,Ai t1),(2, .ptr nL2 0),(6,Ai t6)],[(nL2, .blk Aa [Ai u0,Ai u1,Ai u2,As u3,Al 6 u4,Al 7 u5])]⟩:=kr (by kernel_rfl) h
theorem Beh:Bo E0.P 25 ac_r16_short.code Dj [.tmp 4]:=Bh _ _ Tryz.f25 [(5,[1,2,5],[]),(7,[1,2],[]),(12,[1,2],[]),(14,[1,2,6],[]),(16,[],[]),(20,[1,2,6],[1,2,6]),(21,[],[])] [4] _ 54 Tryz.func25 (by kernel_rfl) (by kernel_rfl) (by kernel_rfl) (by kernel_rfl)
theorem A6u(a0_0 a0_1 a0_2:Int)(a0_3:LB)(a0_4 a0_5:LL)(a1:Int)(Q:QQ)(h:
 (Br (decide (a1<(↑a0_3.length:Int)))
 (Q (Ab false) [])
 (Aa0 a1 ((0:Int)) a0_0 a0_1 a0_2 a0_3 a0_4 a0_5 (Aif Q)))):Call E0.P Tg [.imm (.agg [.int .i64 a0_0, .int .i64 a0_1, .int .i64 a0_2, .str a0_3, .sl .any 6 a0_4, .sl .any 7 a0_5]),Ai a1] [] Q:=A8 (Ar E0 Dj) (Az Dj) 3 0 25 ac_r16_short [.tmp 4] Beh _ _ Q rfl rfl (kr (by kernel_rfl) h)
end
end Go.Proofs.Sim.Se

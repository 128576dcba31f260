import Derived.Test.YtaggabcajidnnaaGreatDoorSeatBase
set_option maxRecDepth 100000
set_option maxHeartbeats 4000000
namespace Go.Proofs.Sim.Se
open Go Go.Proofs Go.Proofs.Sim Go.IntKind
noncomputable section
abbrev qV0(G:Heap)(R:AV):Prop:=G=[]∧R= .imm (.bool (rB R))
abbrev qV1(G:Heap)(R:AV):Prop:=G=[]∧R= .imm (.int .i64 (rI R))
abbrev qV2(G:Heap)(R:AV):Prop:=G=[(Nm.arg 0,Entry.arr 1 true 7 (Cn G Ae))]∧R= .tup []
abbrev qV3(G:Heap)(R:AV):Prop:=G=[]∧R= .imm (IV.agg [.int .i64 (gI (Ad R) 0), .int .i64 (gI (Ad R) 1), .int .i64 (gI (Ad R) 2), .str (gS (Ad R) 3), .sl SK.any 6 (gR (Ad R) 4), .sl SK.any 7 (gR (Ad R) 5)])
abbrev qV4(G:Heap)(R:AV):Prop:=G=[]∧R= .imm (.sl SK.any 7 (rR R))
noncomputable def Arj:AC:=(A8 [] [2] (codeOf Tryz.f78) 0).1
abbrev Arl:Nat:=6
theorem Arn:Be E0.P 78 Arj.code Arl [.tmp 2]:=fq Tryz.func78
theorem Amy(a0:LB)(Q:QQ)(h:
 (Q (Ab (!a0 == a0)) [])):Call E0.P Ox [As a0] [] Q:=fR 0 Arn h
noncomputable def Anf:AC:=(A8 [] [4] (codeOf Tryz.f50) 0).1
abbrev Anx:Nat:=20
theorem An4:Be E0.P 50 Anf.code Anx [.tmp 4]:=fq Tryz.func50
theorem Akm(a0 a1:LB)(Q:QQ)(h:
 (Call E0.P Ox [As a0] [] fun r0 g0=>
 Ag (qV0 g0 r0)
 (Call E0.P Ox [As a1] [] fun r1 g1=>
 Ag (qV0 g1 r1)
 (Br (rB r0)
 (Br (rB r1)
 (Q (Ai 0) [])
 (Q (Ai (-1)) []))
 (Br (rB r1)
 (Q (Ai 1) [])
 (Br (Op.bytesLess a0 a1)
 (Q (Ai (-1)) [])
 (Br (!(Op.bytesLess a0 a1 || a0 == a1))
 (Q (Ai 1) [])
 (Q (Ai 0) [])))))))):Call E0.P Mk [As a0,As a1] [] Q:=fR 0 An4 h
noncomputable def Ani:AC:=(A8 [] [4] (codeOf Tryz.f49) 0).1
abbrev An1:Nat:=10
theorem An9:Be E0.P 49 Ani.code An1 [.tmp 4]:=fq Tryz.func49
theorem Akr(a0_0:LB)(a0_1 a0_2 a0_3:Int)(a0_4:LB)(a0_5 a0_6:LL)(a1_0:LB)(a1_1 a1_2 a1_3:Int)(a1_4:LB)(a1_5 a1_6:LL)(Q:QQ)(h:
 (Call E0.P Mk [As a0_0,As a1_0] [] fun r0 g0=>
 Ag (qV1 g0 r0)
 (Q (Ai (rI r0)) []))):Call E0.P Af [.imm (.agg [.str a0_0, .int .i64 a0_1, .int .i64 a0_2, .int .i64 a0_3, .str a0_4, .sl .any 6 a0_5, .sl .any 7 a0_6]), .imm (.agg [.str a1_0, .int .i64 a1_1, .int .i64 a1_2, .int .i64 a1_3, .str a1_4, .sl .any 6 a1_5, .sl .any 7 a1_6])] [] Q:=fR 0 An9 h
noncomputable def Anj:AC:=(A8 [] [4] (codeOf Tryz.f52) 0).1
abbrev An2:Nat:=10
theorem Aoa:Be E0.P 52 Anj.code An2 [.tmp 4]:=fq Tryz.func52
theorem Aks(a0_0:LB)(a0_1 a0_2 a0_3:Int)(a0_4:LB)(a0_5 a0_6:LL)(a1_0:LB)(a1_1 a1_2 a1_3:Int)(a1_4:LB)(a1_5 a1_6:LL)(Q:QQ)(h:
 (Q (Ab (a0_0 == a1_0)) [])):Call E0.P Bz [.imm (.agg [.str a0_0, .int .i64 a0_1, .int .i64 a0_2, .int .i64 a0_3, .str a0_4, .sl .any 6 a0_5, .sl .any 7 a0_6]), .imm (.agg [.str a1_0, .int .i64 a1_1, .int .i64 a1_2, .int .i64 a1_3, .str a1_4, .sl .any 6 a1_5, .sl .any 7 a1_6])] [] Q:=fR 0 Aoa h
noncomputable def Axl:AC:=(A8 [] [4] (codeOf Tryz.f54) 0).1
abbrev Ax7:Nat:=9
theorem Ayf:Be E0.P 54 Axl.code Ax7 [.tmp 4]:=fq Tryz.func54
theorem Ar8(a0_0:LB)(a0_1 a0_2 a0_3:Int)(a0_4:LB)(a0_5 a0_6:LL)(a1:LB)(Q:QQ)(h:
 (Call E0.P Mk [As a0_0,As a1] [] fun r0 g0=>
 Ag (qV1 g0 r0)
 (Q (Ai (rI r0)) []))):Call E0.P Dp [.imm (.agg [.str a0_0, .int .i64 a0_1, .int .i64 a0_2, .int .i64 a0_3, .str a0_4, .sl .any 6 a0_5, .sl .any 7 a0_6]),As a1] [] Q:=fR 0 Ayf h
noncomputable def Bn:AC:=(A8 [(1,[0,1,2,3,8],[]),(3,[],[]),(6,[0,1,2,3,8,9],[]),(8,[0,1,2,3,8],[]),(9,[0,1,2,3,8,9],[0,1,2,3,8,9]),(11,[0,1,2,3,8],[0,1,2,3,8])] [] (codeOf Tryz.f109) 0).1
abbrev Bo:Nat:=53
def En(t1 t2 t8:Int)(u0:LL)(K:KK):Prop:=Bc 1 E0.P Bo (A9 1 Bn).code ⟨[(0, .own Ae),(1,Ai t1),(2,Ai t2),(3, .fn Af []),(8,Ai t8)],[(Ae, .arr 1 true 7 u0)]⟩ K
def Eo(t1 t2:Int)(t8 t9:Int)(u0:LL)(K:KK):Prop:=Bc 6 E0.P Bo (A9 6 Bn).code ⟨[(0, .own Ae),(1,Ai t1),(2,Ai t2),(3, .fn Af []),(8,Ai t8),(9,Ai t9)],[(Ae, .arr 1 true 7 u0)]⟩ K
def G5(t1 t2:Int)(t8 t9:Int)(u0:LL)(K:KK):Prop:=Aq 9 E0.P Bo (Am 9 Bn).code ⟨[(0, .own Ae),(1,Ai t1),(2,Ai t2),(3, .fn Af []),(8,Ai t8),(9,Ai t9)],[(Ae, .arr 1 true 7 u0)]⟩ K
def Le(t1 t2 t8:Int)(u0:LL)(K:KK):Prop:=Aq 11 E0.P Bo (Am 11 Bn).code ⟨[(0, .own Ae),(1,Ai t1),(2,Ai t2),(3, .fn Af []),(8,Ai t8)],[(Ae, .arr 1 true 7 u0)]⟩ K
def Em(rows:LL)(Q:QQ):KK:=kF 0 (fun st=>finish (1) E0.T [] [(Ae, .arr 1 true 7 rows)] Q st) fun st=>finish (1) E0.T [] [(Ae, .arr 1 true 7 rows)] Q st
def C9(K:KK):Ex→St→Prop
 | .normal,st=>Bc 1 E0.P Bo (A9 1 Bn).code (mask [0,1,2,3,8] st) K
 | .exit i,st=>K (.exit i) st
 | .goto i,st=>K (.goto i) st
 | .ret,st=>K .ret st
def G7(K:KK):Ex→St→Prop
 | .normal,st=>Aq 11 E0.P Bo (Am 11 Bn).code (mask [0,1,2,3,8] st) (C9 K)
 | .exit i,st=>(match (i.beq 2:Bool)with
 |true=>Aq 11 E0.P Bo (Am 11 Bn).code (mask [0,1,2,3,8] st) (C9 K)
 |false=>(match (i.beq 1:Bool)with
 |true=>Aq 11 E0.P Bo (Am 11 Bn).code (mask [0,1,2,3,8] st) (C9 K)
 |false=>K (.exit i) st))
 | .goto i,st=>K (.goto i) st
 | .ret,st=>K .ret st
def G8(K:KK):Ex→St→Prop
 | .normal,st=>Bc 6 E0.P Bo (A9 6 Bn).code (mask [0,1,2,3,8,9] st) K
 | .exit i,st=>K (.exit i) st
 | .goto i,st=>K (.goto i) st
 | .ret,st=>K .ret st
theorem F9(t1 t2 t8:Int)(u0:LL)(K:KK)(h:
 (Br (decide (t8<t2))
 (Eo t1 t2 t8 t8 u0 (G7 K))
 (K (.exit 0) ⟨[],[(Ae, .arr 1 true 7 u0)]⟩))):En t1 t2 t8 u0 K:=lR [0,1,2,3,8] h
theorem J9(t1 t2:Int)(t8 t9:Int)(u0:LL)(K:KK)(h:
 (Ag (decide (t1<t9)=true→(0:Int)≤t9∧t9<(↑u0.length:Int))
 (Ag (decide (t1<t9)=true→
 t9.toNat<u0.length∧
 Bg
 [.str, .int .i64, .int .i64, .int .i64, .str, .sl 6 Aa,
 .sl 7 Ah]
 (List.take 7 (List.drop 0 (u0.getD t9.toNat [])))=
 true)
 (Ag (decide (t1<t9)=true→
 (0:Int)≤i64.wrap (t9 - (1:Int))∧i64.wrap (t9 - (1:Int))<(↑u0.length:Int))
 (Ag (decide (t1<t9)=true→
 (i64.wrap (t9 - (1:Int))).toNat<u0.length∧
 Bg
 [.str, .int .i64, .int .i64, .int .i64, .str, .sl 6 Aa,
 .sl 7 Ah]
 (List.take 7 (List.drop 0 (u0.getD (i64.wrap (t9 - (1:Int))).toNat [])))=
 true)
 (Br (decide (t1<t9) == true)
 (Call E0.P Af [.imm (.agg [.str (gS (List.take 7 (List.drop 0 (u0.getD t9.toNat []))) 0), .int .i64 (gI (List.take 7 (List.drop 0 (u0.getD t9.toNat []))) 1), .int .i64 (gI (List.take 7 (List.drop 0 (u0.getD t9.toNat []))) 2), .int .i64 (gI (List.take 7 (List.drop 0 (u0.getD t9.toNat []))) 3), .str (gS (List.take 7 (List.drop 0 (u0.getD t9.toNat []))) 4), .sl .any 6 (gR (List.take 7 (List.drop 0 (u0.getD t9.toNat []))) 5), .sl .any 7 (gR (List.take 7 (List.drop 0 (u0.getD t9.toNat []))) 6)]), .imm (.agg [.str (gS (List.take 7 (List.drop 0 (u0.getD (i64.wrap (t9 - (1:Int))).toNat []))) 0), .int .i64 (gI (List.take 7 (List.drop 0 (u0.getD (i64.wrap (t9 - (1:Int))).toNat []))) 1), .int .i64 (gI (List.take 7 (List.drop 0 (u0.getD (i64.wrap (t9 - (1:Int))).toNat []))) 2), .int .i64 (gI (List.take 7 (List.drop 0 (u0.getD (i64.wrap (t9 - (1:Int))).toNat []))) 3), .str (gS (List.take 7 (List.drop 0 (u0.getD (i64.wrap (t9 - (1:Int))).toNat []))) 4), .sl .any 6 (gR (List.take 7 (List.drop 0 (u0.getD (i64.wrap (t9 - (1:Int))).toNat []))) 5), .sl .any 7 (gR (List.take 7 (List.drop 0 (u0.getD (i64.wrap (t9 - (1:Int))).toNat []))) 6)])] [] fun r0 g0=>
 Ag (qV1 g0 r0)
 (Let (decide (rI r0<(0:Int))) fun x1=>
 Br (x1)
 (G5 t1 t2 t8 t9 u0 (G8 K))
 (K (.exit (2)) ⟨[(0, .own Ae),(1,Ai t1),(2,Ai t2),(3, .fn Af []),(8,Ai t8)],[(Ae, .arr 1 true 7 u0)]⟩)))
 (Ag ((!true)=false)
 (Let (false) fun x2=>
 Br (x2)
 (G5 t1 t2 t8 t9 u0 (G8 K))
 (K (.exit (2)) ⟨[(0, .own Ae),(1,Ai t1),(2,Ai t2),(3, .fn Af []),(8,Ai t8)],[(Ae, .arr 1 true 7 u0)]⟩))))))))):Eo t1 t2 t8 t9 u0 K:=lR [0,1,2,3,8,9] h
theorem Uh(t1 t2:Int)(t8 t9:Int)(u0:LL)(K:KK)(h:
 (Ag ((0:Int)≤i64.wrap (t9 - (1:Int))∧i64.wrap (t9 - (1:Int))<(↑u0.length:Int))
 (Ag ((i64.wrap (t9 - (1:Int))).toNat<u0.length∧
 Bg
 [.str, .int .i64, .int .i64, .int .i64, .str, .sl 6 Aa,
 .sl 7 Ah]
 (List.take 7 (List.drop 0 (u0.getD (i64.wrap (t9 - (1:Int))).toNat [])))=
 true)
 (Ag ((0:Int)≤t9∧t9<(↑u0.length:Int))
 (Ag (t9.toNat<u0.length∧
 Bg
 [.str, .int .i64, .int .i64, .int .i64, .str, .sl 6 Aa,
 .sl 7 Ah]
 (List.take 7 (List.drop 0 (u0.getD t9.toNat [])))=
 true)
 (Ag ((0:Int)≤t9∧t9<(↑u0.length:Int))
 (Ag (t9.toNat<u0.length)
 (Ag ((0:Int)≤i64.wrap (t9 - (1:Int))∧
 i64.wrap (t9 - (1:Int))<
 (↑(u0.set t9.toNat
 [.str
 (gS (List.take (7:Nat) (List.drop (0:Nat) (u0.getD (i64.wrap (t9 - (1:Int))).toNat [])))
 (0:Nat)),
 .int .i64
 (gI (List.take (7:Nat) (List.drop (0:Nat) (u0.getD (i64.wrap (t9 - (1:Int))).toNat [])))
 (1:Nat)),
 .int .i64
 (gI (List.take (7:Nat) (List.drop (0:Nat) (u0.getD (i64.wrap (t9 - (1:Int))).toNat [])))
 (2:Nat)),
 .int .i64
 (gI (List.take (7:Nat) (List.drop (0:Nat) (u0.getD (i64.wrap (t9 - (1:Int))).toNat [])))
 (3:Nat)),
 .str
 (gS (List.take (7:Nat) (List.drop (0:Nat) (u0.getD (i64.wrap (t9 - (1:Int))).toNat [])))
 (4:Nat)),
 .sl SK.any (6:Nat)
 (gR (List.take (7:Nat) (List.drop (0:Nat) (u0.getD (i64.wrap (t9 - (1:Int))).toNat [])))
 (5:Nat)),
 .sl SK.any (7:Nat)
 (gR (List.take (7:Nat) (List.drop (0:Nat) (u0.getD (i64.wrap (t9 - (1:Int))).toNat [])))
 (6:Nat))]).length:
 Int))
 (Ag ((i64.wrap (t9 - (1:Int))).toNat<
 (u0.set t9.toNat
 [.str
 (gS (List.take 7 (List.drop 0 (u0.getD (i64.wrap (t9 - (1:Int))).toNat [])))
 0),
 .int .i64
 (gI (List.take 7 (List.drop 0 (u0.getD (i64.wrap (t9 - (1:Int))).toNat [])))
 1),
 .int .i64
 (gI (List.take 7 (List.drop 0 (u0.getD (i64.wrap (t9 - (1:Int))).toNat [])))
 2),
 .int .i64
 (gI (List.take 7 (List.drop 0 (u0.getD (i64.wrap (t9 - (1:Int))).toNat [])))
 3),
 .str
 (gS (List.take 7 (List.drop 0 (u0.getD (i64.wrap (t9 - (1:Int))).toNat [])))
 4),
 .sl SK.any 6
 (gR (List.take 7 (List.drop 0 (u0.getD (i64.wrap (t9 - (1:Int))).toNat [])))
 5),
 .sl SK.any 7
 (gR (List.take 7 (List.drop 0 (u0.getD (i64.wrap (t9 - (1:Int))).toNat [])))
 6)]).length)
 (K .normal ⟨[(0, .own Ae),(1,Ai t1),(2,Ai t2),(3, .fn Af []),(8,Ai t8),(9,Ai (i64.wrap (t9 - (1:Int))))],[(Ae, .arr 1 true 7 ((u0.set t9.toNat
 [.str
 (gS (List.take 7 (List.drop 0 (u0.getD (i64.wrap (t9 - (1:Int))).toNat [])))
 0),
 .int .i64
 (gI (List.take 7 (List.drop 0 (u0.getD (i64.wrap (t9 - (1:Int))).toNat [])))
 1),
 .int .i64
 (gI (List.take 7 (List.drop 0 (u0.getD (i64.wrap (t9 - (1:Int))).toNat [])))
 2),
 .int .i64
 (gI (List.take 7 (List.drop 0 (u0.getD (i64.wrap (t9 - (1:Int))).toNat [])))
 3),
 .str
 (gS (List.take 7 (List.drop 0 (u0.getD (i64.wrap (t9 - (1:Int))).toNat [])))
 4),
 .sl SK.any 6
 (gR (List.take 7 (List.drop 0 (u0.getD (i64.wrap (t9 - (1:Int))).toNat [])))
 5),
 .sl SK.any 7
 (gR (List.take 7 (List.drop 0 (u0.getD (i64.wrap (t9 - (1:Int))).toNat [])))
 6)]).set
 (i64.wrap (t9 - (1:Int))).toNat
 [.str (gS (List.take 7 (List.drop 0 (u0.getD t9.toNat []))) 0),
 .int .i64 (gI (List.take 7 (List.drop 0 (u0.getD t9.toNat []))) 1),
 .int .i64 (gI (List.take 7 (List.drop 0 (u0.getD t9.toNat []))) 2),
 .int .i64 (gI (List.take 7 (List.drop 0 (u0.getD t9.toNat []))) 3),
 .str (gS (List.take 7 (List.drop 0 (u0.getD t9.toNat []))) 4),
 .sl SK.any 6 (gR (List.take 7 (List.drop 0 (u0.getD t9.toNat []))) 5),
 .sl SK.any 7 (gR (List.take 7 (List.drop 0 (u0.getD t9.toNat []))) 6)]))]⟩)))))))))):G5 t1 t2 t8 t9 u0 K:=cR [0,1,2,3,8,9] h
theorem Sl(t1 t2 t8:Int)(u0:LL)(K:KK)(h:
 (K .normal ⟨[(0, .own Ae),(1,Ai t1),(2,Ai t2),(3, .fn Af []),(8,Ai (i64.wrap (t8+(1:Int))))],[(Ae, .arr 1 true 7 u0)]⟩)):Le t1 t2 t8 u0 K:=cR [0,1,2,3,8] h
theorem J8(rows:LL)(Q:QQ)(u0:LL)(h:
 (Q (.tup []) [(Ae, .arr 1 true 7 u0)])):Em rows Q (.exit 0) ⟨[],[(Ae, .arr 1 true 7 u0)]⟩:=kq h
theorem Uj(K:KK)(t1 t2 t8:Int)(u0:LL)(h:
 (En t1 t2 t8 u0 K)):C9 K .normal ⟨[(0, .own Ae),(1,Ai t1),(2,Ai t2),(3, .fn Af []),(8,Ai t8)],[(Ae, .arr 1 true 7 u0)]⟩:=kq h
theorem Uk(K:KK)(t1 t2 t8:Int)(u0:LL)(h:
 (Le t1 t2 t8 u0 (C9 K))):G7 K (.exit (2)) ⟨[(0, .own Ae),(1,Ai t1),(2,Ai t2),(3, .fn Af []),(8,Ai t8)],[(Ae, .arr 1 true 7 u0)]⟩:=kq h
theorem Ul(K:KK)(t1 t2:Int)(t8 t9:Int)(u0:LL)(h:
 (Eo t1 t2 t8 t9 u0 K)):G8 K .normal ⟨[(0, .own Ae),(1,Ai t1),(2,Ai t2),(3, .fn Af []),(8,Ai t8),(9,Ai t9)],[(Ae, .arr 1 true 7 u0)]⟩:=kq h
theorem X5:Be E0.P 109 Bn.code Bo []:=fq Tryz.func109
theorem V4(rows:LL)(a1 a2:Int)(Q:QQ)(h:
 (En a1 a2 (i64.wrap (a1+(1:Int))) rows (Em rows Q))):Call E0.P Ev [.own (.arg 0),Ai a1,Ai a2, .fn Af []] [(.arg 0, .arr 1 true 7 rows)] Q:=fR 1 X5 h
noncomputable def O7:AC:=(A8 [(1,[0,1,2,3,10],[]),(3,[],[])] [] (codeOf Tryz.f156) 0).1
abbrev O8:Nat:=38
def Fy(t1 t2:Int)(t3 t10:Int)(u0:LL)(K:KK):Prop:=Bc 1 E0.P O8 (A9 1 O7).code ⟨[(0, .own Ae),(1,Ai t1),(2,Ai t2),(3,Ai t3),(10,Ai t10)],[(Ae, .arr 1 true 7 u0)]⟩ K
def Ny(rows:LL)(Q:QQ):KK:=kF 0 (fun st=>finish (1) E0.T [] [(Ae, .arr 1 true 7 rows)] Q st) fun st=>finish (1) E0.T [] [(Ae, .arr 1 true 7 rows)] Q st
theorem Me(t1 t2:Int)(t3 t10:Int)(u0:LL)(K:KK)(h:
 (Br (decide (t10<t3))
 (Ag ((0:Int)≤i64.wrap (t2+t10)∧i64.wrap (t2+t10)<(↑u0.length:Int))
 (Ag ((i64.wrap (t2+t10)).toNat<u0.length∧
 Bg
 [.str, .int .i64, .int .i64, .int .i64, .str, .sl 6 Aa,
 .sl 7 Ah]
 (List.take 7 (List.drop 0 (u0.getD (i64.wrap (t2+t10)).toNat [])))=
 true)
 (Ag ((0:Int)≤i64.wrap (t1+t10)∧i64.wrap (t1+t10)<(↑u0.length:Int))
 (Ag ((i64.wrap (t1+t10)).toNat<u0.length∧
 Bg
 [.str, .int .i64, .int .i64, .int .i64, .str, .sl 6 Aa,
 .sl 7 Ah]
 (List.take 7 (List.drop 0 (u0.getD (i64.wrap (t1+t10)).toNat [])))=
 true)
 (Ag ((0:Int)≤i64.wrap (t1+t10)∧i64.wrap (t1+t10)<(↑u0.length:Int))
 (Ag ((i64.wrap (t1+t10)).toNat<u0.length)
 (Ag ((0:Int)≤i64.wrap (t2+t10)∧
 i64.wrap (t2+t10)<
 (↑(u0.set (i64.wrap (t1+t10)).toNat
 [.str
 (gS (List.take (7:Nat) (List.drop (0:Nat) (u0.getD (i64.wrap (t2+t10)).toNat [])))
 (0:Nat)),
 .int .i64
 (gI (List.take (7:Nat) (List.drop (0:Nat) (u0.getD (i64.wrap (t2+t10)).toNat [])))
 (1:Nat)),
 .int .i64
 (gI (List.take (7:Nat) (List.drop (0:Nat) (u0.getD (i64.wrap (t2+t10)).toNat [])))
 (2:Nat)),
 .int .i64
 (gI (List.take (7:Nat) (List.drop (0:Nat) (u0.getD (i64.wrap (t2+t10)).toNat [])))
 (3:Nat)),
 .str
 (gS (List.take (7:Nat) (List.drop (0:Nat) (u0.getD (i64.wrap (t2+t10)).toNat [])))
 (4:Nat)),
 .sl SK.any (6:Nat)
 (gR (List.take (7:Nat) (List.drop (0:Nat) (u0.getD (i64.wrap (t2+t10)).toNat [])))
 (5:Nat)),
 .sl SK.any (7:Nat)
 (gR (List.take (7:Nat) (List.drop (0:Nat) (u0.getD (i64.wrap (t2+t10)).toNat [])))
 (6:Nat))]).length:
 Int))
 (Ag ((i64.wrap (t2+t10)).toNat<
 (u0.set (i64.wrap (t1+t10)).toNat
 [.str
 (gS (List.take 7 (List.drop 0 (u0.getD (i64.wrap (t2+t10)).toNat []))) 0),
 .int .i64
 (gI (List.take 7 (List.drop 0 (u0.getD (i64.wrap (t2+t10)).toNat []))) 1),
 .int .i64
 (gI (List.take 7 (List.drop 0 (u0.getD (i64.wrap (t2+t10)).toNat []))) 2),
 .int .i64
 (gI (List.take 7 (List.drop 0 (u0.getD (i64.wrap (t2+t10)).toNat []))) 3),
 .str
 (gS (List.take 7 (List.drop 0 (u0.getD (i64.wrap (t2+t10)).toNat []))) 4),
 .sl SK.any 6
 (gR (List.take 7 (List.drop 0 (u0.getD (i64.wrap (t2+t10)).toNat []))) 5),
 .sl SK.any 7
 (gR (List.take 7 (List.drop 0 (u0.getD (i64.wrap (t2+t10)).toNat [])))
 6)]).length)
 (Fy t1 t2 t3 (i64.wrap (t10+(1:Int))) ((u0.set (i64.wrap (t1+t10)).toNat
 [.str
 (gS (List.take 7 (List.drop 0 (u0.getD (i64.wrap (t2+t10)).toNat []))) 0),
 .int .i64
 (gI (List.take 7 (List.drop 0 (u0.getD (i64.wrap (t2+t10)).toNat []))) 1),
 .int .i64
 (gI (List.take 7 (List.drop 0 (u0.getD (i64.wrap (t2+t10)).toNat []))) 2),
 .int .i64
 (gI (List.take 7 (List.drop 0 (u0.getD (i64.wrap (t2+t10)).toNat []))) 3),
 .str
 (gS (List.take 7 (List.drop 0 (u0.getD (i64.wrap (t2+t10)).toNat []))) 4),
 .sl SK.any 6
 (gR (List.take 7 (List.drop 0 (u0.getD (i64.wrap (t2+t10)).toNat []))) 5),
 .sl SK.any 7
 (gR (List.take 7 (List.drop 0 (u0.getD (i64.wrap (t2+t10)).toNat [])))
 6)]).set
 (i64.wrap (t2+t10)).toNat
 [.str (gS (List.take 7 (List.drop 0 (u0.getD (i64.wrap (t1+t10)).toNat []))) 0),
 .int .i64
 (gI (List.take 7 (List.drop 0 (u0.getD (i64.wrap (t1+t10)).toNat []))) 1),
 .int .i64
 (gI (List.take 7 (List.drop 0 (u0.getD (i64.wrap (t1+t10)).toNat []))) 2),
 .int .i64
 (gI (List.take 7 (List.drop 0 (u0.getD (i64.wrap (t1+t10)).toNat []))) 3),
 .str (gS (List.take 7 (List.drop 0 (u0.getD (i64.wrap (t1+t10)).toNat []))) 4),
 .sl SK.any 6
 (gR (List.take 7 (List.drop 0 (u0.getD (i64.wrap (t1+t10)).toNat []))) 5),
 .sl SK.any 7
 (gR (List.take 7 (List.drop 0 (u0.getD (i64.wrap (t1+t10)).toNat []))) 6)]) K)))))))))
 (K (.exit 0) ⟨[],[(Ae, .arr 1 true 7 u0)]⟩))):Fy t1 t2 t3 t10 u0 K:=lR [0,1,2,3,10] h
theorem Xl(rows:LL)(Q:QQ)(u0:LL)(h:
 (Q (.tup []) [(Ae, .arr 1 true 7 u0)])):Ny rows Q (.exit 0) ⟨[],[(Ae, .arr 1 true 7 u0)]⟩:=kq h
theorem Abu:Be E0.P 156 O7.code O8 []:=fq Tryz.func156
theorem Zg(rows:LL)(a1 a2 a3:Int)(Q:QQ)(h:
 (Fy a1 a2 a3 ((0:Int)) rows (Ny rows Q))):Call E0.P Eg [.own (.arg 0),Ai a1,Ai a2,Ai a3, .fn Af []] [(.arg 0, .arr 1 true 7 rows)] Q:=fR 1 Abu h
noncomputable def Ht:AC:=(A8 [(2,[0,2,4,10,11],[]),(4,[0,2,4,10],[]),(9,[0,2,4,10],[])] [] (codeOf Tryz.f141) 0).1
abbrev Hw:Nat:=58
def E5(t2 t10 t11:Int)(u0:LL)(K:KK):Prop:=Bc 2 E0.P Hw (A9 2 Ht).code ⟨[(0, .own Ae),(2,Ai t2),(4, .fn Af []),(10,Ai t10),(11,Ai t11)],[(Ae, .arr 1 true 7 u0)]⟩ K
def Qv(t2 t10:Int)(u0:LL)(K:KK):Prop:=Aq 9 E0.P Hw (Am 9 Ht).code ⟨[(0, .own Ae),(2,Ai t2),(4, .fn Af []),(10,Ai t10)],[(Ae, .arr 1 true 7 u0)]⟩ K
def Kh(rows:LL)(Q:QQ):KK:=kE fun st=>finish (1) E0.T [] [(Ae, .arr 1 true 7 rows)] Q st
def Ki(rows:LL)(Q:QQ):KK:=kF 0 (fun st=>Aq 9 E0.P Hw (Am 9 Ht).code (mask [0,2,4,10] st) (Kh rows Q)) fun st=>finish (1) E0.T [] [(Ae, .arr 1 true 7 rows)] Q st
theorem Aa3(t2 t10 t11:Int)(u0:LL)(K:KK)(h:
 (Br (!decide (t10=t11))
 (Br (decide (t11<t10))
 (Call E0.P Eg [.own Ae,Ai (i64.wrap (t2 - t10)),Ai t2,Ai t11, .fn Af []] [(Ae, .arr 1 true 7 u0)] fun r0 g0=>
 Ag (qV2 g0 r0)
 (E5 t2 (i64.wrap (t10 - t11)) t11 (Cn g0 Ae) K))
 (Call E0.P Eg [.own Ae,Ai (i64.wrap (t2 - t10)),Ai (i64.wrap (i64.wrap (t2+t11) - t10)),Ai t10, .fn Af []] [(Ae, .arr 1 true 7 u0)] fun r1 g1=>
 Ag (qV2 g1 r1)
 (E5 t2 t10 (i64.wrap (t11 - t10)) (Cn g1 Ae) K)))
 (K (.exit 0) ⟨[(0, .own Ae),(2,Ai t2),(4, .fn Af []),(10,Ai t10)],[(Ae, .arr 1 true 7 u0)]⟩))):E5 t2 t10 t11 u0 K:=lR [0,2,4,10,11] h
theorem Aak(t2 t10:Int)(u0:LL)(K:KK)(h:
 (Call E0.P Eg [.own Ae,Ai (i64.wrap (t2 - t10)),Ai t2,Ai t10, .fn Af []] [(Ae, .arr 1 true 7 u0)] fun r0 g0=>
 Ag (qV2 g0 r0)
 (K .normal ⟨[],[(Ae, .arr 1 true 7 (Cn g0 Ae))]⟩))):Qv t2 t10 u0 K:=cR [] h
theorem Aau(rows:LL)(Q:QQ)(u0:LL)(h:
 (Q (.tup []) [(Ae, .arr 1 true 7 u0)])):Kh rows Q .normal ⟨[],[(Ae, .arr 1 true 7 u0)]⟩:=kq h
theorem Aav(rows:LL)(Q:QQ)(t2 t10:Int)(u0:LL)(h:
 (Qv t2 t10 u0 (Kh rows Q))):Ki rows Q (.exit 0) ⟨[(0, .own Ae),(2,Ai t2),(4, .fn Af []),(10,Ai t10)],[(Ae, .arr 1 true 7 u0)]⟩:=kq h
theorem Aeu:Be E0.P 141 Ht.code Hw []:=fq Tryz.func141
theorem Abz(rows:LL)(a1 a2 a3:Int)(Q:QQ)(h:
 (E5 a2 (i64.wrap (a2 - a1)) (i64.wrap (a3 - a2)) rows (Ki rows Q))):Call E0.P K8 [.own (.arg 0),Ai a1,Ai a2,Ai a3, .fn Af []] [(.arg 0, .arr 1 true 7 rows)] Q:=fR 1 Aeu h
noncomputable def Av:AC:=(A8 [(3,[0,1,4,10,11],[]),(5,[0,1,10],[]),(9,[0,1,10],[0,1,2,3,4]),(11,[0,10,13],[]),(13,[],[]),(16,[],[0,1,2,3,4]),(17,[0,1,2,3,4],[]),(21,[0,2,4,14,15],[]),(23,[0,2,14],[]),(27,[0,2,14],[0,1,2,3,4]),(29,[0,14,17],[]),(31,[],[]),(34,[],[0,1,2,3,4]),(35,[0,1,2,3,4],[]),(42,[0,1,2,3,4,18,19,20,21],[]),(44,[0,1,2,3,4,18,19,20,21,22],[]),(46,[0,1,2,3,4,18,19,20],[]),(50,[0,1,2,3,4,18,19,20],[]),(53,[0,1,3,4,18,20,24],[]),(55,[0,3,4,18,24],[])] [] (codeOf Tryz.f110) 0).1
abbrev Aw:Nat:=220
def Ee(t1 t10 t11:Int)(u0:LL)(K:KK):Prop:=Bc 3 E0.P Aw (A9 3 Av).code ⟨[(0, .own Ae),(1,Ai t1),(4, .fn Af []),(10,Ai t10),(11,Ai t11)],[(Ae, .arr 1 true 7 u0)]⟩ K
def Nr(t1 t2 t3:Int)(u0:LL)(K:KK):Prop:=Aq 17 E0.P Aw (Am 17 Av).code ⟨[(0, .own Ae),(1,Ai t1),(2,Ai t2),(3,Ai t3),(4, .fn Af [])],[(Ae, .arr 1 true 7 u0)]⟩ K
def D9(t2 t14 t15:Int)(u0:LL)(K:KK):Prop:=Bc 21 E0.P Aw (A9 21 Av).code ⟨[(0, .own Ae),(2,Ai t2),(4, .fn Af []),(14,Ai t14),(15,Ai t15)],[(Ae, .arr 1 true 7 u0)]⟩ K
def Nu(t1 t2 t3:Int)(u0:LL)(K:KK):Prop:=Aq 35 E0.P Aw (Am 35 Av).code ⟨[(0, .own Ae),(1,Ai t1),(2,Ai t2),(3,Ai t3),(4, .fn Af [])],[(Ae, .arr 1 true 7 u0)]⟩ K
def Io(t1 t2:Int)(t3 t18:Int)(t19 t20 t21:Int)(u0:LL)(K:KK):Prop:=Aq 42 E0.P Aw (Am 42 Av).code ⟨[(0, .own Ae),(1,Ai t1),(2,Ai t2),(3,Ai t3),(4, .fn Af []),(18,Ai t18),(19,Ai t19),(20,Ai t20),(21,Ai t21)],[(Ae, .arr 1 true 7 u0)]⟩ K
def Cy(t1 t2:Int)(t3 t18:Int)(t19 t20:Int)(t21 t22:Int)(u0:LL)(K:KK):Prop:=Bc 44 E0.P Aw (A9 44 Av).code ⟨[(0, .own Ae),(1,Ai t1),(2,Ai t2),(3,Ai t3),(4, .fn Af []),(18,Ai t18),(19,Ai t19),(20,Ai t20),(21,Ai t21),(22,Ai t22)],[(Ae, .arr 1 true 7 u0)]⟩ K
def O0(t1 t10:Int)(u0:LL)(K:KK):Prop:=Aq 9 E0.P Aw (Am 9 Av).code ⟨[(0, .own Ae),(1,Ai t1),(10,Ai t10)],[(Ae, .arr 1 true 7 u0)]⟩ K
def Ns(t2 t14:Int)(u0:LL)(K:KK):Prop:=Aq 27 E0.P Aw (Am 27 Av).code ⟨[(0, .own Ae),(2,Ai t2),(14,Ai t14)],[(Ae, .arr 1 true 7 u0)]⟩ K
def Fv(t1 t2:Int)(t3 t18:Int)(t19 t20:Int)(u0:LL)(K:KK):Prop:=Aq 50 E0.P Aw (Am 50 Av).code ⟨[(0, .own Ae),(1,Ai t1),(2,Ai t2),(3,Ai t3),(4, .fn Af []),(18,Ai t18),(19,Ai t19),(20,Ai t20)],[(Ae, .arr 1 true 7 u0)]⟩ K
def Fz(t10 t13:Int)(u0:LL)(K:KK):Prop:=Bc 11 E0.P Aw (A9 11 Av).code ⟨[(0, .own Ae),(10,Ai t10),(13,Ai t13)],[(Ae, .arr 1 true 7 u0)]⟩ K
def F3(t14 t17:Int)(u0:LL)(K:KK):Prop:=Bc 29 E0.P Aw (A9 29 Av).code ⟨[(0, .own Ae),(14,Ai t14),(17,Ai t17)],[(Ae, .arr 1 true 7 u0)]⟩ K
def Fw(t1 t3:Int)(t18 t20 t24:Int)(u0:LL)(K:KK):Prop:=Aq 53 E0.P Aw (Am 53 Av).code ⟨[(0, .own Ae),(1,Ai t1),(3,Ai t3),(4, .fn Af []),(18,Ai t18),(20,Ai t20),(24,Ai t24)],[(Ae, .arr 1 true 7 u0)]⟩ K
def Fx(t3 t18 t24:Int)(u0:LL)(K:KK):Prop:=Aq 55 E0.P Aw (Am 55 Av).code ⟨[(0, .own Ae),(3,Ai t3),(4, .fn Af []),(18,Ai t18),(24,Ai t24)],[(Ae, .arr 1 true 7 u0)]⟩ K
def Nq(u0:LL)(K:KK):Prop:=Aq 16 E0.P Aw (Am 16 Av).code ⟨[],[(Ae, .arr 1 true 7 u0)]⟩ K
def Nt(u0:LL)(K:KK):Prop:=Aq 34 E0.P Aw (Am 34 Av).code ⟨[],[(Ae, .arr 1 true 7 u0)]⟩ K
def Ec(rows:LL)(Q:QQ):KK:=kE fun st=>finish (1) E0.T [] [(Ae, .arr 1 true 7 rows)] Q st
def Jb(rows:LL)(Q:QQ):Ex→St→Prop
 | .normal,st=>Aq 17 E0.P Aw (Am 17 Av).code (mask [0,1,2,3,4] st) (Ec rows Q)
 | .exit _,_=>False
 | .goto _,_=>False
 | .ret,st=>finish (1) E0.T [] [(Ae, .arr 1 true 7 rows)] Q st
def O1(rows:LL)(Q:QQ):KK:=kF 0 (fun st=>Aq 9 E0.P Aw (Am 9 Av).code (mask [0,1,10] st) (Jb rows Q)) fun st=>finish (1) E0.T [] [(Ae, .arr 1 true 7 rows)] Q st
def Ba(K:KK):KK:=kP [] K
def Jc(K:KK):Ex→St→Prop
 | .normal,st=>Aq 35 E0.P Aw (Am 35 Av).code (mask [0,1,2,3,4] st) (Ba K)
 | .exit i,st=>K (.exit i) st
 | .goto i,st=>K (.goto i) st
 | .ret,st=>K .ret st
def O3(K:KK):KK:=kC 4 (fun st=>Aq 27 E0.P Aw (Am 27 Av).code (mask [0,2,14] st) (Jc K)) K
def Jd(K:KK):KK:=kC 8 (fun st=>Aq 50 E0.P Aw (Am 50 Av).code (mask [0,1,2,3,4,18,19,20] st) (Ba K)) K
def Ed(K:KK):KK:=kP [0,1,2,3,4] K
def O4(K:KK):KK:=kC 2 (fun st=>Aq 16 E0.P Aw (Am 16 Av).code (mask [] st) (Ed K)) K
def O5(K:KK):KK:=kC 6 (fun st=>Aq 34 E0.P Aw (Am 34 Av).code (mask [] st) (Ed K)) K
theorem M0(t1 t10 t11:Int)(u0:LL)(K:KK)(h:
 (Br (decide (t10<t11))
 (Ag ((0:Int)≤(1:Int))
 (Ag ((0:Int)≤i64.wrap ((IntKind.u64.wrap (i64.wrap (t10+t11))).fdiv ((2:Int) ^ 1))∧
 i64.wrap ((IntKind.u64.wrap (i64.wrap (t10+t11))).fdiv ((2:Int) ^ 1))<
 (↑u0.length:Int))
 (Ag ((i64.wrap ((IntKind.u64.wrap (i64.wrap (t10+t11))).fdiv ((2:Int) ^ 1))).toNat<u0.length∧
 Bg
 [.str, .int .i64, .int .i64, .int .i64, .str, .sl 6 Aa,
 .sl 7 Ah]
 (List.take 7
 (List.drop 0
 (u0.getD
 (i64.wrap ((IntKind.u64.wrap (i64.wrap (t10+t11))).fdiv ((2:Int) ^ 1))).toNat
 [])))=
 true)
 (Ag ((0:Int)≤t1∧t1<(↑u0.length:Int))
 (Ag (t1.toNat<u0.length∧
 Bg
 [.str, .int .i64, .int .i64, .int .i64, .str, .sl 6 Aa,
 .sl 7 Ah]
 (List.take 7 (List.drop 0 (u0.getD t1.toNat [])))=
 true)
 (Call E0.P Af [.imm (.agg [.str (gS
 (List.take 7
 (List.drop 0
 (u0.getD
 (i64.wrap ((IntKind.u64.wrap (i64.wrap (t10+t11))).fdiv ((2:Int) ^ 1))).toNat [])))
 0), .int .i64 (gI
 (List.take 7
 (List.drop 0
 (u0.getD
 (i64.wrap ((IntKind.u64.wrap (i64.wrap (t10+t11))).fdiv ((2:Int) ^ 1))).toNat [])))
 1), .int .i64 (gI
 (List.take 7
 (List.drop 0
 (u0.getD
 (i64.wrap ((IntKind.u64.wrap (i64.wrap (t10+t11))).fdiv ((2:Int) ^ 1))).toNat [])))
 2), .int .i64 (gI
 (List.take 7
 (List.drop 0
 (u0.getD
 (i64.wrap ((IntKind.u64.wrap (i64.wrap (t10+t11))).fdiv ((2:Int) ^ 1))).toNat [])))
 3), .str (gS
 (List.take 7
 (List.drop 0
 (u0.getD
 (i64.wrap ((IntKind.u64.wrap (i64.wrap (t10+t11))).fdiv ((2:Int) ^ 1))).toNat [])))
 4), .sl .any 6 (gR
 (List.take 7
 (List.drop 0
 (u0.getD
 (i64.wrap ((IntKind.u64.wrap (i64.wrap (t10+t11))).fdiv ((2:Int) ^ 1))).toNat [])))
 5), .sl .any 7 (gR
 (List.take 7
 (List.drop 0
 (u0.getD
 (i64.wrap ((IntKind.u64.wrap (i64.wrap (t10+t11))).fdiv ((2:Int) ^ 1))).toNat [])))
 6)]), .imm (.agg [.str (gS (List.take 7 (List.drop 0 (u0.getD t1.toNat []))) 0), .int .i64 (gI (List.take 7 (List.drop 0 (u0.getD t1.toNat []))) 1), .int .i64 (gI (List.take 7 (List.drop 0 (u0.getD t1.toNat []))) 2), .int .i64 (gI (List.take 7 (List.drop 0 (u0.getD t1.toNat []))) 3), .str (gS (List.take 7 (List.drop 0 (u0.getD t1.toNat []))) 4), .sl .any 6 (gR (List.take 7 (List.drop 0 (u0.getD t1.toNat []))) 5), .sl .any 7 (gR (List.take 7 (List.drop 0 (u0.getD t1.toNat []))) 6)])] [] fun r0 g0=>
 Ag (qV1 g0 r0)
 (Br (decide (rI r0<(0:Int)))
 (Ee t1 (i64.wrap
 (i64.wrap ((IntKind.u64.wrap (i64.wrap (t10+t11))).fdiv ((2:Int) ^ 1))+(1:Int))) t11 u0 K)
 (Ee t1 t10 (i64.wrap ((IntKind.u64.wrap (i64.wrap (t10+t11))).fdiv ((2:Int) ^ 1))) u0 K))))))))
 (K (.exit 0) ⟨[(0, .own Ae),(1,Ai t1),(10,Ai t10)],[(Ae, .arr 1 true 7 u0)]⟩))):Ee t1 t10 t11 u0 K:=lR [0,1,4,10,11] h
theorem Xb(t1 t2 t3:Int)(u0:LL)(K:KK)(h:
 (Br (decide (i64.wrap (t3 - t2)=(1:Int)))
 (D9 t2 t1 t2 u0 (O3 K))
 (Nu t1 t2 t3 u0 (Ba K)))):Nr t1 t2 t3 u0 K:=cR [] h
theorem Mg(t2 t14 t15:Int)(u0:LL)(K:KK)(h:
 (Br (decide (t14<t15))
 (Ag ((0:Int)≤(1:Int))
 (Ag ((0:Int)≤t2∧t2<(↑u0.length:Int))
 (Ag (t2.toNat<u0.length∧
 Bg
 [.str, .int .i64, .int .i64, .int .i64, .str, .sl 6 Aa,
 .sl 7 Ah]
 (List.take 7 (List.drop 0 (u0.getD t2.toNat [])))=
 true)
 (Ag ((0:Int)≤i64.wrap ((IntKind.u64.wrap (i64.wrap (t14+t15))).fdiv ((2:Int) ^ 1))∧
 i64.wrap ((IntKind.u64.wrap (i64.wrap (t14+t15))).fdiv ((2:Int) ^ 1))<
 (↑u0.length:Int))
 (Ag ((i64.wrap ((IntKind.u64.wrap (i64.wrap (t14+t15))).fdiv ((2:Int) ^ 1))).toNat<u0.length∧
 Bg
 [.str, .int .i64, .int .i64, .int .i64, .str, .sl 6 Aa,
 .sl 7 Ah]
 (List.take 7
 (List.drop 0
 (u0.getD
 (i64.wrap ((IntKind.u64.wrap (i64.wrap (t14+t15))).fdiv ((2:Int) ^ 1))).toNat
 [])))=
 true)
 (Call E0.P Af [.imm (.agg [.str (gS (List.take 7 (List.drop 0 (u0.getD t2.toNat []))) 0), .int .i64 (gI (List.take 7 (List.drop 0 (u0.getD t2.toNat []))) 1), .int .i64 (gI (List.take 7 (List.drop 0 (u0.getD t2.toNat []))) 2), .int .i64 (gI (List.take 7 (List.drop 0 (u0.getD t2.toNat []))) 3), .str (gS (List.take 7 (List.drop 0 (u0.getD t2.toNat []))) 4), .sl .any 6 (gR (List.take 7 (List.drop 0 (u0.getD t2.toNat []))) 5), .sl .any 7 (gR (List.take 7 (List.drop 0 (u0.getD t2.toNat []))) 6)]), .imm (.agg [.str (gS
 (List.take 7
 (List.drop 0
 (u0.getD
 (i64.wrap ((IntKind.u64.wrap (i64.wrap (t14+t15))).fdiv ((2:Int) ^ 1))).toNat [])))
 0), .int .i64 (gI
 (List.take 7
 (List.drop 0
 (u0.getD
 (i64.wrap ((IntKind.u64.wrap (i64.wrap (t14+t15))).fdiv ((2:Int) ^ 1))).toNat [])))
 1), .int .i64 (gI
 (List.take 7
 (List.drop 0
 (u0.getD
 (i64.wrap ((IntKind.u64.wrap (i64.wrap (t14+t15))).fdiv ((2:Int) ^ 1))).toNat [])))
 2), .int .i64 (gI
 (List.take 7
 (List.drop 0
 (u0.getD
 (i64.wrap ((IntKind.u64.wrap (i64.wrap (t14+t15))).fdiv ((2:Int) ^ 1))).toNat [])))
 3), .str (gS
 (List.take 7
 (List.drop 0
 (u0.getD
 (i64.wrap ((IntKind.u64.wrap (i64.wrap (t14+t15))).fdiv ((2:Int) ^ 1))).toNat [])))
 4), .sl .any 6 (gR
 (List.take 7
 (List.drop 0
 (u0.getD
 (i64.wrap ((IntKind.u64.wrap (i64.wrap (t14+t15))).fdiv ((2:Int) ^ 1))).toNat [])))
 5), .sl .any 7 (gR
 (List.take 7
 (List.drop 0
 (u0.getD
 (i64.wrap ((IntKind.u64.wrap (i64.wrap (t14+t15))).fdiv ((2:Int) ^ 1))).toNat [])))
 6)])] [] fun r0 g0=>
 Ag (qV1 g0 r0)
 (Br (!decide (rI r0<(0:Int)))
 (D9 t2 (i64.wrap
 (i64.wrap ((IntKind.u64.wrap (i64.wrap (t14+t15))).fdiv ((2:Int) ^ 1))+(1:Int))) t15 u0 K)
 (D9 t2 t14 (i64.wrap ((IntKind.u64.wrap (i64.wrap (t14+t15))).fdiv ((2:Int) ^ 1))) u0 K))))))))
 (K (.exit (4)) ⟨[(0, .own Ae),(2,Ai t2),(14,Ai t14)],[(Ae, .arr 1 true 7 u0)]⟩))):D9 t2 t14 t15 u0 K:=lR [0,2,4,14,15] h
theorem Xe(t1 t2 t3:Int)(u0:LL)(K:KK)(h:
 (Ag ((0:Int)≤(1:Int))
 (Br (decide (i64.wrap ((IntKind.u64.wrap (i64.wrap (t1+t3))).fdiv ((2:Int) ^ 1))<t2))
 (Io t1 t2 t3 (i64.wrap ((IntKind.u64.wrap (i64.wrap (t1+t3))).fdiv ((2:Int) ^ 1))) (i64.wrap (i64.wrap ((IntKind.u64.wrap (i64.wrap (t1+t3))).fdiv ((2:Int) ^ 1))+t2)) (i64.wrap
 (i64.wrap
 (i64.wrap ((IntKind.u64.wrap (i64.wrap (t1+t3))).fdiv ((2:Int) ^ 1))+t2) -
 t3)) (i64.wrap ((IntKind.u64.wrap (i64.wrap (t1+t3))).fdiv ((2:Int) ^ 1))) u0 (Ba K))
 (Io t1 t2 t3 (i64.wrap ((IntKind.u64.wrap (i64.wrap (t1+t3))).fdiv ((2:Int) ^ 1))) (i64.wrap (i64.wrap ((IntKind.u64.wrap (i64.wrap (t1+t3))).fdiv ((2:Int) ^ 1))+t2)) t1 t2 u0 (Ba K))))):Nu t1 t2 t3 u0 K:=cR [] h
theorem L8(t1 t2:Int)(t3 t18:Int)(t19 t20 t21:Int)(u0:LL)(K:KK)(h:
 (Cy t1 t2 t3 t18 t19 t20 t21 (i64.wrap (t19 - (1:Int))) u0 (Jd K))):Io t1 t2 t3 t18 t19 t20 t21 u0 K:=cR [] h
theorem Mi(t1 t2:Int)(t3 t18:Int)(t19 t20:Int)(t21 t22:Int)(u0:LL)(K:KK)(h:
 (Br (decide (t20<t21))
 (Ag ((0:Int)≤(1:Int))
 (Ag ((0:Int)≤
 i64.wrap
 (t22 - i64.wrap ((IntKind.u64.wrap (i64.wrap (t20+t21))).fdiv ((2:Int) ^ 1)))∧
 i64.wrap
 (t22 - i64.wrap ((IntKind.u64.wrap (i64.wrap (t20+t21))).fdiv ((2:Int) ^ 1)))<
 (↑u0.length:Int))
 (Ag ((i64.wrap
 (t22 -
 i64.wrap ((IntKind.u64.wrap (i64.wrap (t20+t21))).fdiv ((2:Int) ^ 1)))).toNat<
 u0.length∧
 Bg
 [.str, .int .i64, .int .i64, .int .i64, .str, .sl 6 Aa,
 .sl 7 Ah]
 (List.take 7
 (List.drop 0
 (u0.getD
 (i64.wrap
 (t22 -
 i64.wrap
 ((IntKind.u64.wrap (i64.wrap (t20+t21))).fdiv ((2:Int) ^ 1)))).toNat
 [])))=
 true)
 (Ag ((0:Int)≤i64.wrap ((IntKind.u64.wrap (i64.wrap (t20+t21))).fdiv ((2:Int) ^ 1))∧
 i64.wrap ((IntKind.u64.wrap (i64.wrap (t20+t21))).fdiv ((2:Int) ^ 1))<
 (↑u0.length:Int))
 (Ag ((i64.wrap ((IntKind.u64.wrap (i64.wrap (t20+t21))).fdiv ((2:Int) ^ 1))).toNat<u0.length∧
 Bg
 [.str, .int .i64, .int .i64, .int .i64, .str, .sl 6 Aa,
 .sl 7 Ah]
 (List.take 7
 (List.drop 0
 (u0.getD
 (i64.wrap ((IntKind.u64.wrap (i64.wrap (t20+t21))).fdiv ((2:Int) ^ 1))).toNat
 [])))=
 true)
 (Call E0.P Af [.imm (.agg [.str (gS
 (List.take 7
 (List.drop 0
 (u0.getD
 (i64.wrap
 (t22 -
 i64.wrap ((IntKind.u64.wrap (i64.wrap (t20+t21))).fdiv ((2:Int) ^ 1)))).toNat
 [])))
 0), .int .i64 (gI
 (List.take 7
 (List.drop 0
 (u0.getD
 (i64.wrap
 (t22 -
 i64.wrap ((IntKind.u64.wrap (i64.wrap (t20+t21))).fdiv ((2:Int) ^ 1)))).toNat
 [])))
 1), .int .i64 (gI
 (List.take 7
 (List.drop 0
 (u0.getD
 (i64.wrap
 (t22 -
 i64.wrap ((IntKind.u64.wrap (i64.wrap (t20+t21))).fdiv ((2:Int) ^ 1)))).toNat
 [])))
 2), .int .i64 (gI
 (List.take 7
 (List.drop 0
 (u0.getD
 (i64.wrap
 (t22 -
 i64.wrap ((IntKind.u64.wrap (i64.wrap (t20+t21))).fdiv ((2:Int) ^ 1)))).toNat
 [])))
 3), .str (gS
 (List.take 7
 (List.drop 0
 (u0.getD
 (i64.wrap
 (t22 -
 i64.wrap ((IntKind.u64.wrap (i64.wrap (t20+t21))).fdiv ((2:Int) ^ 1)))).toNat
 [])))
 4), .sl .any 6 (gR
 (List.take 7
 (List.drop 0
 (u0.getD
 (i64.wrap
 (t22 -
 i64.wrap ((IntKind.u64.wrap (i64.wrap (t20+t21))).fdiv ((2:Int) ^ 1)))).toNat
 [])))
 5), .sl .any 7 (gR
 (List.take 7
 (List.drop 0
 (u0.getD
 (i64.wrap
 (t22 -
 i64.wrap ((IntKind.u64.wrap (i64.wrap (t20+t21))).fdiv ((2:Int) ^ 1)))).toNat
 [])))
 6)]), .imm (.agg [.str (gS
 (List.take 7
 (List.drop 0
 (u0.getD
 (i64.wrap ((IntKind.u64.wrap (i64.wrap (t20+t21))).fdiv ((2:Int) ^ 1))).toNat [])))
 0), .int .i64 (gI
 (List.take 7
 (List.drop 0
 (u0.getD
 (i64.wrap ((IntKind.u64.wrap (i64.wrap (t20+t21))).fdiv ((2:Int) ^ 1))).toNat [])))
 1), .int .i64 (gI
 (List.take 7
 (List.drop 0
 (u0.getD
 (i64.wrap ((IntKind.u64.wrap (i64.wrap (t20+t21))).fdiv ((2:Int) ^ 1))).toNat [])))
 2), .int .i64 (gI
 (List.take 7
 (List.drop 0
 (u0.getD
 (i64.wrap ((IntKind.u64.wrap (i64.wrap (t20+t21))).fdiv ((2:Int) ^ 1))).toNat [])))
 3), .str (gS
 (List.take 7
 (List.drop 0
 (u0.getD
 (i64.wrap ((IntKind.u64.wrap (i64.wrap (t20+t21))).fdiv ((2:Int) ^ 1))).toNat [])))
 4), .sl .any 6 (gR
 (List.take 7
 (List.drop 0
 (u0.getD
 (i64.wrap ((IntKind.u64.wrap (i64.wrap (t20+t21))).fdiv ((2:Int) ^ 1))).toNat [])))
 5), .sl .any 7 (gR
 (List.take 7
 (List.drop 0
 (u0.getD
 (i64.wrap ((IntKind.u64.wrap (i64.wrap (t20+t21))).fdiv ((2:Int) ^ 1))).toNat [])))
 6)])] [] fun r0 g0=>
 Ag (qV1 g0 r0)
 (Br (!decide (rI r0<(0:Int)))
 (Cy t1 t2 t3 t18 t19 (i64.wrap
 (i64.wrap ((IntKind.u64.wrap (i64.wrap (t20+t21))).fdiv ((2:Int) ^ 1))+(1:Int))) t21 t22 u0 K)
 (Cy t1 t2 t3 t18 t19 t20 (i64.wrap ((IntKind.u64.wrap (i64.wrap (t20+t21))).fdiv ((2:Int) ^ 1))) t22 u0 K))))))))
 (K (.exit (8)) ⟨[(0, .own Ae),(1,Ai t1),(2,Ai t2),(3,Ai t3),(4, .fn Af []),(18,Ai t18),(19,Ai t19),(20,Ai t20)],[(Ae, .arr 1 true 7 u0)]⟩))):Cy t1 t2 t3 t18 t19 t20 t21 t22 u0 K:=lR [0,1,2,3,4,18,19,20,21,22] h
theorem Yl(t1 t10:Int)(u0:LL)(K:KK)(h:
 (Fz t10 t1 u0 (O4 K))):O0 t1 t10 u0 K:=cR [0,1,2,3,4] h
theorem Xc(t2 t14:Int)(u0:LL)(K:KK)(h:
 (F3 t14 t2 u0 (O5 K))):Ns t2 t14 u0 K:=cR [0,1,2,3,4] h
theorem Xf(t1 t2:Int)(t3 t18:Int)(t19 t20:Int)(u0:LL)(K:KK)(h:
 (Let (bif decide (t20<t2)then decide (t2<i64.wrap (t19 - t20))else false) fun x0=>
 Br (x0)
 (Call E0.P K8 [.own Ae,Ai t20,Ai t2,Ai (i64.wrap (t19 - t20)), .fn Af []] [(Ae, .arr 1 true 7 u0)] fun r1 g1=>
 Ag (qV2 g1 r1)
 (Fw t1 t3 t18 t20 (i64.wrap (t19 - t20)) (Cn g1 Ae) (Ba K)))
 (Fw t1 t3 t18 t20 (i64.wrap (t19 - t20)) u0 (Ba K)))):Fv t1 t2 t3 t18 t19 t20 u0 K:=cR [] h
theorem Mf(t10 t13:Int)(u0:LL)(K:KK)(h:
 (Br (decide (t13<i64.wrap (t10 - (1:Int))))
 (Ag ((0:Int)≤i64.wrap (t13+(1:Int))∧i64.wrap (t13+(1:Int))<(↑u0.length:Int))
 (Ag ((i64.wrap (t13+(1:Int))).toNat<u0.length∧
 Bg
 [.str, .int .i64, .int .i64, .int .i64, .str, .sl 6 Aa,
 .sl 7 Ah]
 (List.take 7 (List.drop 0 (u0.getD (i64.wrap (t13+(1:Int))).toNat [])))=
 true)
 (Ag ((0:Int)≤t13∧t13<(↑u0.length:Int))
 (Ag (t13.toNat<u0.length∧
 Bg
 [.str, .int .i64, .int .i64, .int .i64, .str, .sl 6 Aa,
 .sl 7 Ah]
 (List.take 7 (List.drop 0 (u0.getD t13.toNat [])))=
 true)
 (Ag ((0:Int)≤t13∧t13<(↑u0.length:Int))
 (Ag (t13.toNat<u0.length)
 (Ag ((0:Int)≤i64.wrap (t13+(1:Int))∧
 i64.wrap (t13+(1:Int))<
 (↑(u0.set t13.toNat
 [.str
 (gS (List.take (7:Nat) (List.drop (0:Nat) (u0.getD (i64.wrap (t13+(1:Int))).toNat [])))
 (0:Nat)),
 .int .i64
 (gI (List.take (7:Nat) (List.drop (0:Nat) (u0.getD (i64.wrap (t13+(1:Int))).toNat [])))
 (1:Nat)),
 .int .i64
 (gI (List.take (7:Nat) (List.drop (0:Nat) (u0.getD (i64.wrap (t13+(1:Int))).toNat [])))
 (2:Nat)),
 .int .i64
 (gI (List.take (7:Nat) (List.drop (0:Nat) (u0.getD (i64.wrap (t13+(1:Int))).toNat [])))
 (3:Nat)),
 .str
 (gS (List.take (7:Nat) (List.drop (0:Nat) (u0.getD (i64.wrap (t13+(1:Int))).toNat [])))
 (4:Nat)),
 .sl SK.any (6:Nat)
 (gR (List.take (7:Nat) (List.drop (0:Nat) (u0.getD (i64.wrap (t13+(1:Int))).toNat [])))
 (5:Nat)),
 .sl SK.any (7:Nat)
 (gR (List.take (7:Nat) (List.drop (0:Nat) (u0.getD (i64.wrap (t13+(1:Int))).toNat [])))
 (6:Nat))]).length:
 Int))
 (Ag ((i64.wrap (t13+(1:Int))).toNat<
 (u0.set t13.toNat
 [.str
 (gS (List.take 7 (List.drop 0 (u0.getD (i64.wrap (t13+(1:Int))).toNat [])))
 0),
 .int .i64
 (gI (List.take 7 (List.drop 0 (u0.getD (i64.wrap (t13+(1:Int))).toNat [])))
 1),
 .int .i64
 (gI (List.take 7 (List.drop 0 (u0.getD (i64.wrap (t13+(1:Int))).toNat [])))
 2),
 .int .i64
 (gI (List.take 7 (List.drop 0 (u0.getD (i64.wrap (t13+(1:Int))).toNat [])))
 3),
 .str
 (gS (List.take 7 (List.drop 0 (u0.getD (i64.wrap (t13+(1:Int))).toNat [])))
 4),
 .sl SK.any 6
 (gR (List.take 7 (List.drop 0 (u0.getD (i64.wrap (t13+(1:Int))).toNat [])))
 5),
 .sl SK.any 7
 (gR (List.take 7 (List.drop 0 (u0.getD (i64.wrap (t13+(1:Int))).toNat [])))
 6)]).length)
 (Fz t10 (i64.wrap (t13+(1:Int))) ((u0.set t13.toNat
 [.str
 (gS (List.take 7 (List.drop 0 (u0.getD (i64.wrap (t13+(1:Int))).toNat [])))
 0),
 .int .i64
 (gI (List.take 7 (List.drop 0 (u0.getD (i64.wrap (t13+(1:Int))).toNat [])))
 1),
 .int .i64
 (gI (List.take 7 (List.drop 0 (u0.getD (i64.wrap (t13+(1:Int))).toNat [])))
 2),
 .int .i64
 (gI (List.take 7 (List.drop 0 (u0.getD (i64.wrap (t13+(1:Int))).toNat [])))
 3),
 .str
 (gS (List.take 7 (List.drop 0 (u0.getD (i64.wrap (t13+(1:Int))).toNat [])))
 4),
 .sl SK.any 6
 (gR (List.take 7 (List.drop 0 (u0.getD (i64.wrap (t13+(1:Int))).toNat [])))
 5),
 .sl SK.any 7
 (gR (List.take 7 (List.drop 0 (u0.getD (i64.wrap (t13+(1:Int))).toNat [])))
 6)]).set
 (i64.wrap (t13+(1:Int))).toNat
 [.str (gS (List.take 7 (List.drop 0 (u0.getD t13.toNat []))) 0),
 .int .i64 (gI (List.take 7 (List.drop 0 (u0.getD t13.toNat []))) 1),
 .int .i64 (gI (List.take 7 (List.drop 0 (u0.getD t13.toNat []))) 2),
 .int .i64 (gI (List.take 7 (List.drop 0 (u0.getD t13.toNat []))) 3),
 .str (gS (List.take 7 (List.drop 0 (u0.getD t13.toNat []))) 4),
 .sl SK.any 6 (gR (List.take 7 (List.drop 0 (u0.getD t13.toNat []))) 5),
 .sl SK.any 7 (gR (List.take 7 (List.drop 0 (u0.getD t13.toNat []))) 6)]) K)))))))))
 (K (.exit (2)) ⟨[],[(Ae, .arr 1 true 7 u0)]⟩))):Fz t10 t13 u0 K:=lR [0,10,13] h
theorem Mh(t14 t17:Int)(u0:LL)(K:KK)(h:
 (Br (decide (t14<t17))
 (Ag ((0:Int)≤i64.wrap (t17 - (1:Int))∧i64.wrap (t17 - (1:Int))<(↑u0.length:Int))
 (Ag ((i64.wrap (t17 - (1:Int))).toNat<u0.length∧
 Bg
 [.str, .int .i64, .int .i64, .int .i64, .str, .sl 6 Aa,
 .sl 7 Ah]
 (List.take 7 (List.drop 0 (u0.getD (i64.wrap (t17 - (1:Int))).toNat [])))=
 true)
 (Ag ((0:Int)≤t17∧t17<(↑u0.length:Int))
 (Ag (t17.toNat<u0.length∧
 Bg
 [.str, .int .i64, .int .i64, .int .i64, .str, .sl 6 Aa,
 .sl 7 Ah]
 (List.take 7 (List.drop 0 (u0.getD t17.toNat [])))=
 true)
 (Ag ((0:Int)≤t17∧t17<(↑u0.length:Int))
 (Ag (t17.toNat<u0.length)
 (Ag ((0:Int)≤i64.wrap (t17 - (1:Int))∧
 i64.wrap (t17 - (1:Int))<
 (↑(u0.set t17.toNat
 [.str
 (gS (List.take (7:Nat) (List.drop (0:Nat) (u0.getD (i64.wrap (t17 - (1:Int))).toNat [])))
 (0:Nat)),
 .int .i64
 (gI (List.take (7:Nat) (List.drop (0:Nat) (u0.getD (i64.wrap (t17 - (1:Int))).toNat [])))
 (1:Nat)),
 .int .i64
 (gI (List.take (7:Nat) (List.drop (0:Nat) (u0.getD (i64.wrap (t17 - (1:Int))).toNat [])))
 (2:Nat)),
 .int .i64
 (gI (List.take (7:Nat) (List.drop (0:Nat) (u0.getD (i64.wrap (t17 - (1:Int))).toNat [])))
 (3:Nat)),
 .str
 (gS (List.take (7:Nat) (List.drop (0:Nat) (u0.getD (i64.wrap (t17 - (1:Int))).toNat [])))
 (4:Nat)),
 .sl SK.any (6:Nat)
 (gR (List.take (7:Nat) (List.drop (0:Nat) (u0.getD (i64.wrap (t17 - (1:Int))).toNat [])))
 (5:Nat)),
 .sl SK.any (7:Nat)
 (gR (List.take (7:Nat) (List.drop (0:Nat) (u0.getD (i64.wrap (t17 - (1:Int))).toNat [])))
 (6:Nat))]).length:
 Int))
 (Ag ((i64.wrap (t17 - (1:Int))).toNat<
 (u0.set t17.toNat
 [.str
 (gS (List.take 7 (List.drop 0 (u0.getD (i64.wrap (t17 - (1:Int))).toNat [])))
 0),
 .int .i64
 (gI (List.take 7 (List.drop 0 (u0.getD (i64.wrap (t17 - (1:Int))).toNat [])))
 1),
 .int .i64
 (gI (List.take 7 (List.drop 0 (u0.getD (i64.wrap (t17 - (1:Int))).toNat [])))
 2),
 .int .i64
 (gI (List.take 7 (List.drop 0 (u0.getD (i64.wrap (t17 - (1:Int))).toNat [])))
 3),
 .str
 (gS (List.take 7 (List.drop 0 (u0.getD (i64.wrap (t17 - (1:Int))).toNat [])))
 4),
 .sl SK.any 6
 (gR (List.take 7 (List.drop 0 (u0.getD (i64.wrap (t17 - (1:Int))).toNat [])))
 5),
 .sl SK.any 7
 (gR (List.take 7 (List.drop 0 (u0.getD (i64.wrap (t17 - (1:Int))).toNat [])))
 6)]).length)
 (F3 t14 (i64.wrap (t17 - (1:Int))) ((u0.set t17.toNat
 [.str
 (gS (List.take 7 (List.drop 0 (u0.getD (i64.wrap (t17 - (1:Int))).toNat [])))
 0),
 .int .i64
 (gI (List.take 7 (List.drop 0 (u0.getD (i64.wrap (t17 - (1:Int))).toNat [])))
 1),
 .int .i64
 (gI (List.take 7 (List.drop 0 (u0.getD (i64.wrap (t17 - (1:Int))).toNat [])))
 2),
 .int .i64
 (gI (List.take 7 (List.drop 0 (u0.getD (i64.wrap (t17 - (1:Int))).toNat [])))
 3),
 .str
 (gS (List.take 7 (List.drop 0 (u0.getD (i64.wrap (t17 - (1:Int))).toNat [])))
 4),
 .sl SK.any 6
 (gR (List.take 7 (List.drop 0 (u0.getD (i64.wrap (t17 - (1:Int))).toNat [])))
 5),
 .sl SK.any 7
 (gR (List.take 7 (List.drop 0 (u0.getD (i64.wrap (t17 - (1:Int))).toNat [])))
 6)]).set
 (i64.wrap (t17 - (1:Int))).toNat
 [.str (gS (List.take 7 (List.drop 0 (u0.getD t17.toNat []))) 0),
 .int .i64 (gI (List.take 7 (List.drop 0 (u0.getD t17.toNat []))) 1),
 .int .i64 (gI (List.take 7 (List.drop 0 (u0.getD t17.toNat []))) 2),
 .int .i64 (gI (List.take 7 (List.drop 0 (u0.getD t17.toNat []))) 3),
 .str (gS (List.take 7 (List.drop 0 (u0.getD t17.toNat []))) 4),
 .sl SK.any 6 (gR (List.take 7 (List.drop 0 (u0.getD t17.toNat []))) 5),
 .sl SK.any 7 (gR (List.take 7 (List.drop 0 (u0.getD t17.toNat []))) 6)]) K)))))))))
 (K (.exit (6)) ⟨[],[(Ae, .arr 1 true 7 u0)]⟩))):F3 t14 t17 u0 K:=lR [0,14,17] h
theorem Xg(t1 t3:Int)(t18 t20 t24:Int)(u0:LL)(K:KK)(h:
 (Let (bif decide (t1<t20)then decide (t20<t18)else false) fun x0=>
 Br (x0)
 (Call E0.P Dh [.own Ae,Ai t1,Ai t20,Ai t18, .fn Af []] [(Ae, .arr 1 true 7 u0)] fun r1 g1=>
 Ag (qV2 g1 r1)
 (Fx t3 t18 t24 (Cn g1 Ae) (Ba K)))
 (Fx t3 t18 t24 u0 (Ba K)))):Fw t1 t3 t18 t20 t24 u0 K:=cR [] h
theorem Xh(t3 t18 t24:Int)(u0:LL)(K:KK)(h:
 (Let (bif decide (t18<t24)then decide (t24<t3)else false) fun x0=>
 Br (x0)
 (Call E0.P Dh [.own Ae,Ai t18,Ai t24,Ai t3, .fn Af []] [(Ae, .arr 1 true 7 u0)] fun r1 g1=>
 Ag (qV2 g1 r1)
 (K .normal ⟨[],[(Ae, .arr 1 true 7 (Cn g1 Ae))]⟩))
 (K .normal ⟨[],[(Ae, .arr 1 true 7 u0)]⟩))):Fx t3 t18 t24 u0 K:=cR [] h
theorem Xa(u0:LL)(K:KK)(h:
 (K .ret ⟨[],[(Ae, .arr 1 true 7 u0)]⟩)):Nq u0 K:=cR [0,1,2,3,4] h
theorem Xd(u0:LL)(K:KK)(h:
 (K .ret ⟨[],[(Ae, .arr 1 true 7 u0)]⟩)):Nt u0 K:=cR [0,1,2,3,4] h
theorem Yq(rows:LL)(Q:QQ)(u0:LL)(h:
 (Q (.tup []) [(Ae, .arr 1 true 7 u0)])):Ec rows Q .ret ⟨[],[(Ae, .arr 1 true 7 u0)]⟩:=kq h
theorem Yr(rows:LL)(Q:QQ)(u0:LL)(h:
 (Q (.tup []) [(Ae, .arr 1 true 7 u0)])):Ec rows Q .normal ⟨[],[(Ae, .arr 1 true 7 u0)]⟩:=kq h
theorem Yt(rows:LL)(Q:QQ)(u0:LL)(h:
 (Q (.tup []) [(Ae, .arr 1 true 7 u0)])):Jb rows Q .ret ⟨[],[(Ae, .arr 1 true 7 u0)]⟩:=kq h
theorem Yu(rows:LL)(Q:QQ)(t1 t10:Int)(u0:LL)(h:
 (O0 t1 t10 u0 (Jb rows Q))):O1 rows Q (.exit 0) ⟨[(0, .own Ae),(1,Ai t1),(10,Ai t10)],[(Ae, .arr 1 true 7 u0)]⟩:=kq h
theorem Cj(K:KK)(u0:LL)(h:
 (K .normal ⟨[],[(Ae, .arr 1 true 7 u0)]⟩)):Ba K .normal ⟨[],[(Ae, .arr 1 true 7 u0)]⟩:=kq h
theorem Yv(K:KK)(u0:LL)(h:
 (K .ret ⟨[],[(Ae, .arr 1 true 7 u0)]⟩)):Jc K .ret ⟨[],[(Ae, .arr 1 true 7 u0)]⟩:=kq h
theorem Yw(K:KK)(t2 t14:Int)(u0:LL)(h:
 (Ns t2 t14 u0 (Jc K))):O3 K (.exit (4)) ⟨[(0, .own Ae),(2,Ai t2),(14,Ai t14)],[(Ae, .arr 1 true 7 u0)]⟩:=kq h
theorem Yx(K:KK)(t1 t2:Int)(t3 t18:Int)(t19 t20:Int)(u0:LL)(h:
 (Fv t1 t2 t3 t18 t19 t20 u0 (Ba K))):Jd K (.exit (8)) ⟨[(0, .own Ae),(1,Ai t1),(2,Ai t2),(3,Ai t3),(4, .fn Af []),(18,Ai t18),(19,Ai t19),(20,Ai t20)],[(Ae, .arr 1 true 7 u0)]⟩:=kq h
theorem Mx(K:KK)(u0:LL)(h:
 (K .ret ⟨[],[(Ae, .arr 1 true 7 u0)]⟩)):Ed K .ret ⟨[],[(Ae, .arr 1 true 7 u0)]⟩:=kq h
theorem Yy(K:KK)(u0:LL)(h:
 (Nq u0 (Ed K))):O4 K (.exit (2)) ⟨[],[(Ae, .arr 1 true 7 u0)]⟩:=kq h
theorem Yz(K:KK)(u0:LL)(h:
 (Nt u0 (Ed K))):O5 K (.exit (6)) ⟨[],[(Ae, .arr 1 true 7 u0)]⟩:=kq h
theorem Adh:Be E0.P 110 Av.code Aw []:=fq Tryz.func110
theorem Aam(rows:LL)(a1 a2 a3:Int)(Q:QQ)(h:
 (Br (decide (i64.wrap (a2 - a1)=(1:Int)))
 (Ee a1 a2 a3 rows (O1 rows Q))
 (Nr a1 a2 a3 rows (Ec rows Q)))):Call E0.P Dh [.own (.arg 0),Ai a1,Ai a2,Ai a3, .fn Af []] [(.arg 0, .arr 1 true 7 rows)] Q:=fR 1 Adh h
noncomputable def Bu:AC:=(A8 [(2,[0,1,2,6,7,8],[]),(4,[0,1,2,6,7],[]),(8,[0,1,2,6,7],[]),(10,[0,1,2,6],[]),(12,[],[]),(15,[0,1,2,6,7,8],[]),(17,[0,1,2,6,7],[]),(21,[0,1,2,6,7],[0,1,2,6]),(24,[0,1,2,6],[0,1,2,6])] [] (codeOf Tryz.f77) 0).1
abbrev Bv:Nat:=63
def Gz(t1 t6:Int)(t7 t8:Int)(u0:LL)(K:KK):Prop:=Bc 2 E0.P Bv (A9 2 Bu).code ⟨[(0, .own Ae),(1,Ai t1),(2, .fn Af []),(6,Ai t6),(7,Ai t7),(8,Ai t8)],[(Ae, .arr 1 true 7 u0)]⟩ K
def Qw(t1 t6 t7:Int)(u0:LL)(K:KK):Prop:=Aq 8 E0.P Bv (Am 8 Bu).code ⟨[(0, .own Ae),(1,Ai t1),(2, .fn Af []),(6,Ai t6),(7,Ai t7)],[(Ae, .arr 1 true 7 u0)]⟩ K
def Db(t1 t6:Int)(u0:LL)(K:KK):Prop:=Bc 10 E0.P Bv (A9 10 Bu).code ⟨[(0, .own Ae),(1,Ai t1),(2, .fn Af []),(6,Ai t6)],[(Ae, .arr 1 true 7 u0)]⟩ K
def Gt(t1 t6:Int)(t7 t8:Int)(u0:LL)(K:KK):Prop:=Bc 15 E0.P Bv (A9 15 Bu).code ⟨[(0, .own Ae),(1,Ai t1),(2, .fn Af []),(6,Ai t6),(7,Ai t7),(8,Ai t8)],[(Ae, .arr 1 true 7 u0)]⟩ K
def Po(t1 t6 t7:Int)(u0:LL)(K:KK):Prop:=Aq 21 E0.P Bv (Am 21 Bu).code ⟨[(0, .own Ae),(1,Ai t1),(2, .fn Af []),(6,Ai t6),(7,Ai t7)],[(Ae, .arr 1 true 7 u0)]⟩ K
def Gs(t1 t6:Int)(u0:LL)(K:KK):Prop:=Aq 24 E0.P Bv (Am 24 Bu).code ⟨[(0, .own Ae),(1,Ai t1),(2, .fn Af []),(6,Ai t6)],[(Ae, .arr 1 true 7 u0)]⟩ K
def Ey(rows:LL)(Q:QQ):KK:=kE fun st=>finish (1) E0.T [] [(Ae, .arr 1 true 7 rows)] Q st
def Kj(rows:LL)(Q:QQ):KK:=kF 0 (fun st=>Aq 8 E0.P Bv (Am 8 Bu).code (mask [0,1,2,6,7] st) (Ey rows Q)) fun st=>finish (1) E0.T [] [(Ae, .arr 1 true 7 rows)] Q st
def Gx(K:KK):KK:=kC 2 (fun st=>K .normal (mask [] st)) K
def Ez(K:KK):KK:=kC 3 (fun st=>Bc 10 E0.P Bv (A9 10 Bu).code (mask [0,1,2,6] st) K) K
def Kk(K:KK):Ex→St→Prop
 | .normal,st=>Aq 21 E0.P Bv (Am 21 Bu).code (mask [0,1,2,6,7] st) (Ez K)
 | .exit i,st=>(match (i.beq 4:Bool)with
 |true=>Aq 21 E0.P Bv (Am 21 Bu).code (mask [0,1,2,6,7] st) (Ez K)
 |false=>(match (i.beq 3:Bool)with
 |true=>Bc 10 E0.P Bv (A9 10 Bu).code (mask [0,1,2,6] st) K
 |false=>K (.exit i) st))
 | .goto i,st=>K (.goto i) st
 | .ret,st=>K .ret st
def Gy(K:KK):KK:=kP [0,1,2,6] K
theorem Aa4(t1 t6:Int)(t7 t8:Int)(u0:LL)(K:KK)(h:
 (Br (decide (t8≤t1))
 (Call E0.P Ev [.own Ae,Ai t7,Ai t8, .fn Af []] [(Ae, .arr 1 true 7 u0)] fun r0 g0=>
 Ag (qV2 g0 r0)
 (Gz t1 t6 t8 (i64.wrap (t8+t6)) (Cn g0 Ae) K))
 (K (.exit 0) ⟨[(0, .own Ae),(1,Ai t1),(2, .fn Af []),(6,Ai t6),(7,Ai t7)],[(Ae, .arr 1 true 7 u0)]⟩))):Gz t1 t6 t7 t8 u0 K:=lR [0,1,2,6,7,8] h
theorem Aal(t1 t6 t7:Int)(u0:LL)(K:KK)(h:
 (Call E0.P Ev [.own Ae,Ai t7,Ai t1, .fn Af []] [(Ae, .arr 1 true 7 u0)] fun r0 g0=>
 Ag (qV2 g0 r0)
 (Db t1 t6 (Cn g0 Ae) (Gx K)))):Qw t1 t6 t7 u0 K:=cR [] h
theorem Nc(t1 t6:Int)(u0:LL)(K:KK)(h:
 (Br (decide (t6<t1))
 (Gt t1 t6 ((0:Int)) (i64.wrap ((2:Int)*t6)) u0 (Kk K))
 (K (.exit (2)) ⟨[],[(Ae, .arr 1 true 7 u0)]⟩))):Db t1 t6 u0 K:=lR [0,1,2,6] h
theorem Zj(t1 t6:Int)(t7 t8:Int)(u0:LL)(K:KK)(h:
 (Br (decide (t8≤t1))
 (Call E0.P Dh [.own Ae,Ai t7,Ai (i64.wrap (t7+t6)),Ai t8, .fn Af []] [(Ae, .arr 1 true 7 u0)] fun r0 g0=>
 Ag (qV2 g0 r0)
 (Gt t1 t6 t8 (i64.wrap (t8+i64.wrap ((2:Int)*t6))) (Cn g0 Ae) K))
 (K (.exit (4)) ⟨[(0, .own Ae),(1,Ai t1),(2, .fn Af []),(6,Ai t6),(7,Ai t7)],[(Ae, .arr 1 true 7 u0)]⟩))):Gt t1 t6 t7 t8 u0 K:=lR [0,1,2,6,7,8] h
theorem Zb(t1 t6 t7:Int)(u0:LL)(K:KK)(h:
 (Br (decide (i64.wrap (t7+t6)<t1))
 (Call E0.P Dh [.own Ae,Ai t7,Ai (i64.wrap (t7+t6)),Ai t1, .fn Af []] [(Ae, .arr 1 true 7 u0)] fun r0 g0=>
 Ag (qV2 g0 r0)
 (Gs t1 t6 (Cn g0 Ae) (Gy K)))
 (Gs t1 t6 u0 (Gy K)))):Po t1 t6 t7 u0 K:=cR [0,1,2,6] h
theorem Zc(t1 t6:Int)(u0:LL)(K:KK)(h:
 (K .normal ⟨[(0, .own Ae),(1,Ai t1),(2, .fn Af []),(6,Ai (i64.wrap (t6*(2:Int))))],[(Ae, .arr 1 true 7 u0)]⟩)):Gs t1 t6 u0 K:=cR [0,1,2,6] h
theorem Aaw(rows:LL)(Q:QQ)(u0:LL)(h:
 (Q (.tup []) [(Ae, .arr 1 true 7 u0)])):Ey rows Q .normal ⟨[],[(Ae, .arr 1 true 7 u0)]⟩:=kq h
theorem Aax(rows:LL)(Q:QQ)(t1 t6 t7:Int)(u0:LL)(h:
 (Qw t1 t6 t7 u0 (Ey rows Q))):Kj rows Q (.exit 0) ⟨[(0, .own Ae),(1,Ai t1),(2, .fn Af []),(6,Ai t6),(7,Ai t7)],[(Ae, .arr 1 true 7 u0)]⟩:=kq h
theorem Aay(K:KK)(u0:LL)(h:
 (K .normal ⟨[],[(Ae, .arr 1 true 7 u0)]⟩)):Gx K (.exit (2)) ⟨[],[(Ae, .arr 1 true 7 u0)]⟩:=kq h
theorem Aaz(K:KK)(t1 t6:Int)(u0:LL)(h:
 (Db t1 t6 u0 K)):Ez K .normal ⟨[(0, .own Ae),(1,Ai t1),(2, .fn Af []),(6,Ai t6)],[(Ae, .arr 1 true 7 u0)]⟩:=kq h
theorem Aa0(K:KK)(t1 t6 t7:Int)(u0:LL)(h:
 (Po t1 t6 t7 u0 (Ez K))):Kk K (.exit (4)) ⟨[(0, .own Ae),(1,Ai t1),(2, .fn Af []),(6,Ai t6),(7,Ai t7)],[(Ae, .arr 1 true 7 u0)]⟩:=kq h
theorem Aa1(K:KK)(t1 t6:Int)(u0:LL)(h:
 (K .normal ⟨[(0, .own Ae),(1,Ai t1),(2, .fn Af []),(6,Ai t6)],[(Ae, .arr 1 true 7 u0)]⟩)):Gy K .normal ⟨[(0, .own Ae),(1,Ai t1),(2, .fn Af []),(6,Ai t6)],[(Ae, .arr 1 true 7 u0)]⟩:=kq h
theorem Aev:Be E0.P 77 Bu.code Bv []:=fq Tryz.func77
theorem Ab0(rows:LL)(a1:Int)(Q:QQ)(h:
 (Gz a1 ((20:Int)) ((0:Int)) ((20:Int)) rows (Kj rows Q))):Call E0.P K9 [.own (.arg 0),Ai a1, .fn Af []] [(.arg 0, .arr 1 true 7 rows)] Q:=fR 1 Aev h
noncomputable def Adk:AC:=(A8 [] [] (codeOf Tryz.f48) 0).1
abbrev Adl:Nat:=9
theorem Adm:Be E0.P 48 Adk.code Adl []:=fq Tryz.func48
theorem Abt(rows:LL)(Q:QQ)(h:
 (Call E0.P K9 [.own Ae,Ai ((↑rows.length:Int)), .fn Af []] [(Ae, .arr 1 true 7 rows)] fun r0 g0=>
 Ag (qV2 g0 r0)
 (Q (.tup []) [(Ae, .arr 1 true 7 (Cn g0 Ae))]))):Call E0.P Kl [.own (.arg 0), .fn Af []] [(.arg 0, .arr 1 true 7 rows)] Q:=fR 1 Adm h
noncomputable def Ao3:AC:=(A8 [] [2] (codeOf Tryz.f47) 0).1
abbrev Apr:Nat:=8
theorem Apw:Be E0.P 47 Ao3.code Apr [.tmp 2]:=fq Tryz.func47
theorem Alv(a0:LL)(Q:QQ)(h:
 (Ba4 (a0=[])
 (Br (!false)
 (Q (.own nL0) ([]++[(Nm.loc 0,Entry.arr 0 true 7 [])]))
 (Ag ((0+a0.length)*104≤140737488355328∧0+a0.length≤140737488355328)
 (Q (.own nL0) ([]++[(Nm.loc 0,Entry.arr 0 true 7 ([]++a0))]))))
 (Br (false)
 (Q (.own nL0) ([]++[(Nm.loc 0,Entry.arr 0 true 7 [])]))
 (Ag ((0+a0.length)*104≤140737488355328∧0+a0.length≤140737488355328)
 (Q (.own nL0) ([]++[(Nm.loc 0,Entry.arr 0 true 7 ([]++a0))])))))):Call E0.P T9 [Al 7 a0] [] Q:=fR 2 Apw h
noncomputable def Bj:AC:=(A8 [(5,[0,1,5],[]),(7,[0],[]),(12,[0,1,5,6,7],[]),(14,[0,5],[]),(18,[0,1,5,6,7],[0,1,5,6,7]),(19,[0,5],[0,1,5]),(22,[0,1,5],[0,1,5]),(23,[0],[])] [4] (codeOf Tryz.f51) 0).1
abbrev Bl:Nat:=66
def H9(t5:Int)(u0:LL)(K:KK):Prop:=Bc 5 E0.P Bl (A9 5 Bj).code ⟨[(0, .own Ae),(1, .fn Bz []),(5,Ai t5)],[(Ae, .arr 1 true 7 u0)]⟩ K
def Hr(t5:Int)(t6_2 t6_3:Nat)(t7:Int)(u0:LL)(K:KK):Prop:=Bc 12 E0.P Bl (A9 12 Bj).code ⟨[(0, .own Ae),(1, .fn Bz []),(5,Ai t5),(6, .win Ae 7 t6_2 t6_3),(7,Ai t7)],[(Ae, .arr 1 true 7 u0)]⟩ K
def Rf(t5:Int)(u0:LL)(K:KK):Prop:=Aq 22 E0.P Bl (Am 22 Bj).code ⟨[(0, .own Ae),(1, .fn Bz []),(5,Ai t5)],[(Ae, .arr 1 true 7 u0)]⟩ K
def Kt(t5:Int)(t6_2 t6_3:Nat)(t7:Int)(u0:LL)(K:KK):Prop:=Aq 18 E0.P Bl (Am 18 Bj).code ⟨[(0, .own Ae),(1, .fn Bz []),(5,Ai t5),(6, .win Ae 7 t6_2 t6_3),(7,Ai t7)],[(Ae, .arr 1 true 7 u0)]⟩ K
def Rh(u0:LL)(K:KK):Prop:=Aq 23 E0.P Bl (Am 23 Bj).code ⟨[(0, .own Ae)],[(Ae, .arr 1 true 7 u0)]⟩ K
def Re(t5:Int)(u0:LL)(K:KK):Prop:=Aq 19 E0.P Bl (Am 19 Bj).code ⟨[(0, .own Ae),(5,Ai t5)],[(Ae, .arr 1 true 7 u0)]⟩ K
def Lr(rows:LL)(Q:QQ):KK:=kE fun st=>finish (1) E0.T [.tmp 4] [(Ae, .arr 1 true 7 rows)] Q st
def Fp(rows:LL)(Q:QQ):KK:=kF 0 (fun st=>Aq 23 E0.P Bl (Am 23 Bj).code (mask [0] st) (Lr rows Q)) fun st=>finish (1) E0.T [.tmp 4] [(Ae, .arr 1 true 7 rows)] Q st
def H7(K:KK):Ex→St→Prop
 | .normal,st=>Bc 5 E0.P Bl (A9 5 Bj).code (mask [0,1,5] st) K
 | .exit i,st=>K (.exit i) st
 | .goto i,st=>K (.goto i) st
 | .ret,st=>K .ret st
def H8(K:KK):KK:=kC 1 (fun st=>Aq 22 E0.P Bl (Am 22 Bj).code (mask [0,1,5] st) (H7 K)) K
def Ls(K:KK):Ex→St→Prop
 | .normal,st=>Aq 19 E0.P Bl (Am 19 Bj).code (mask [0,5] st) (H8 K)
 | .exit i,st=>(match (i.beq 2:Bool)with
 |true=>Aq 19 E0.P Bl (Am 19 Bj).code (mask [0,5] st) (H8 K)
 |false=>(match (i.beq 1:Bool)with
 |true=>Aq 22 E0.P Bl (Am 22 Bj).code (mask [0,1,5] st) (H7 K)
 |false=>K (.exit i) st))
 | .goto i,st=>K (.goto i) st
 | .ret,st=>K .ret st
def Lt(K:KK):Ex→St→Prop
 | .normal,st=>Bc 12 E0.P Bl (A9 12 Bj).code (mask [0,1,5,6,7] st) K
 | .exit i,st=>K (.exit i) st
 | .goto i,st=>K (.goto i) st
 | .ret,st=>K .ret st
theorem Pz(t5:Int)(u0:LL)(K:KK)(h:
 (Br (decide (t5<(↑u0.length:Int)))
 (Ag ((0:Int)≤t5∧t5<(↑u0.length:Int))
 (Ag (t5.toNat<u0.length∧
 Bg
 [.str, .int .i64, .int .i64, .int .i64, .str, .sl 6 Aa,
 .sl 7 Ah]
 (List.take 7 (List.drop 0 (u0.getD t5.toNat [])))=
 true)
 (Ag ((0:Int)≤i64.wrap (t5 - (1:Int))∧i64.wrap (t5 - (1:Int))<(↑u0.length:Int))
 (Ag ((i64.wrap (t5 - (1:Int))).toNat<u0.length∧
 Bg
 [.str, .int .i64, .int .i64, .int .i64, .str, .sl 6 Aa,
 .sl 7 Ah]
 (List.take 7 (List.drop 0 (u0.getD (i64.wrap (t5 - (1:Int))).toNat [])))=
 true)
 (Call E0.P Bz [.imm (.agg [.str (gS (List.take 7 (List.drop 0 (u0.getD t5.toNat []))) 0), .int .i64 (gI (List.take 7 (List.drop 0 (u0.getD t5.toNat []))) 1), .int .i64 (gI (List.take 7 (List.drop 0 (u0.getD t5.toNat []))) 2), .int .i64 (gI (List.take 7 (List.drop 0 (u0.getD t5.toNat []))) 3), .str (gS (List.take 7 (List.drop 0 (u0.getD t5.toNat []))) 4), .sl .any 6 (gR (List.take 7 (List.drop 0 (u0.getD t5.toNat []))) 5), .sl .any 7 (gR (List.take 7 (List.drop 0 (u0.getD t5.toNat []))) 6)]), .imm (.agg [.str (gS (List.take 7 (List.drop 0 (u0.getD (i64.wrap (t5 - (1:Int))).toNat []))) 0), .int .i64 (gI (List.take 7 (List.drop 0 (u0.getD (i64.wrap (t5 - (1:Int))).toNat []))) 1), .int .i64 (gI (List.take 7 (List.drop 0 (u0.getD (i64.wrap (t5 - (1:Int))).toNat []))) 2), .int .i64 (gI (List.take 7 (List.drop 0 (u0.getD (i64.wrap (t5 - (1:Int))).toNat []))) 3), .str (gS (List.take 7 (List.drop 0 (u0.getD (i64.wrap (t5 - (1:Int))).toNat []))) 4), .sl .any 6 (gR (List.take 7 (List.drop 0 (u0.getD (i64.wrap (t5 - (1:Int))).toNat []))) 5), .sl .any 7 (gR (List.take 7 (List.drop 0 (u0.getD (i64.wrap (t5 - (1:Int))).toNat []))) 6)])] [] fun r0 g0=>
 Ag (qV0 g0 r0)
 (Br (rB r0)
 (Ag ((0:Int)≤t5∧t5≤(↑u0.length:Int))
 (Hr t5 t5.toNat (u0.length - t5.toNat) ((1:Int)) u0 (Ls K)))
 (Rf t5 u0 (H7 K))))))))
 (K (.exit 0) ⟨[(0, .own Ae)],[(Ae, .arr 1 true 7 u0)]⟩))):H9 t5 u0 K:=lR [0,1,5] h
theorem O6(t5:Int)(t6_2 t6_3:Nat)(t7:Int)(u0:LL)(K:KK)(h:
 (Br (decide (t7<(↑t6_3:Int)))
 (Ag ((0:Int)≤t7∧t7<(↑t6_3:Int))
 (Ag (addN t6_2 t7.toNat<u0.length∧
 Bg
 [.str, .int .i64, .int .i64, .int .i64, .str, .sl 6 Aa,
 .sl 7 Ah]
 (List.take 7 (List.drop 0 (u0.getD (addN t6_2 t7.toNat) [])))=
 true)
 (Ag ((0:Int)≤i64.wrap (t7 - (1:Int))∧i64.wrap (t7 - (1:Int))<(↑t6_3:Int))
 (Ag (addN t6_2 (i64.wrap (t7 - (1:Int))).toNat<u0.length∧
 Bg
 [.str, .int .i64, .int .i64, .int .i64, .str, .sl 6 Aa,
 .sl 7 Ah]
 (List.take 7 (List.drop 0 (u0.getD (addN t6_2 (i64.wrap (t7 - (1:Int))).toNat) [])))=
 true)
 (Call E0.P Bz [.imm (.agg [.str (gS (List.take 7 (List.drop 0 (u0.getD (addN t6_2 t7.toNat) []))) 0), .int .i64 (gI (List.take 7 (List.drop 0 (u0.getD (addN t6_2 t7.toNat) []))) 1), .int .i64 (gI (List.take 7 (List.drop 0 (u0.getD (addN t6_2 t7.toNat) []))) 2), .int .i64 (gI (List.take 7 (List.drop 0 (u0.getD (addN t6_2 t7.toNat) []))) 3), .str (gS (List.take 7 (List.drop 0 (u0.getD (addN t6_2 t7.toNat) []))) 4), .sl .any 6 (gR (List.take 7 (List.drop 0 (u0.getD (addN t6_2 t7.toNat) []))) 5), .sl .any 7 (gR (List.take 7 (List.drop 0 (u0.getD (addN t6_2 t7.toNat) []))) 6)]), .imm (.agg [.str (gS (List.take 7 (List.drop 0 (u0.getD (addN t6_2 (i64.wrap (t7 - (1:Int))).toNat) [])))
 0), .int .i64 (gI (List.take 7 (List.drop 0 (u0.getD (addN t6_2 (i64.wrap (t7 - (1:Int))).toNat) [])))
 1), .int .i64 (gI (List.take 7 (List.drop 0 (u0.getD (addN t6_2 (i64.wrap (t7 - (1:Int))).toNat) [])))
 2), .int .i64 (gI (List.take 7 (List.drop 0 (u0.getD (addN t6_2 (i64.wrap (t7 - (1:Int))).toNat) [])))
 3), .str (gS (List.take 7 (List.drop 0 (u0.getD (addN t6_2 (i64.wrap (t7 - (1:Int))).toNat) [])))
 4), .sl .any 6 (gR (List.take 7 (List.drop 0 (u0.getD (addN t6_2 (i64.wrap (t7 - (1:Int))).toNat) [])))
 5), .sl .any 7 (gR (List.take 7 (List.drop 0 (u0.getD (addN t6_2 (i64.wrap (t7 - (1:Int))).toNat) [])))
 6)])] [] fun r0 g0=>
 Ag (qV0 g0 r0)
 (Br (!rB r0)
 (Ag ((0:Int)≤t7∧t7<(↑t6_3:Int))
 (Ag (addN t6_2 t7.toNat<u0.length∧
 Bg
 [.str, .int .i64, .int .i64, .int .i64, .str, .sl 6 Aa,
 .sl 7 Ah]
 (List.take 7 (List.drop 0 (u0.getD (addN t6_2 t7.toNat) [])))=
 true)
 (Ag ((0:Int)≤t5∧t5<(↑u0.length:Int))
 (Ag (t5.toNat<u0.length)
 (Kt (i64.wrap (t5+(1:Int))) t6_2 t6_3 t7 (u0.set t5.toNat
 [.str (gS (List.take 7 (List.drop 0 (u0.getD (addN t6_2 t7.toNat) []))) 0),
 .int .i64 (gI (List.take 7 (List.drop 0 (u0.getD (addN t6_2 t7.toNat) []))) 1),
 .int .i64 (gI (List.take 7 (List.drop 0 (u0.getD (addN t6_2 t7.toNat) []))) 2),
 .int .i64 (gI (List.take 7 (List.drop 0 (u0.getD (addN t6_2 t7.toNat) []))) 3),
 .str (gS (List.take 7 (List.drop 0 (u0.getD (addN t6_2 t7.toNat) []))) 4),
 .sl SK.any 6
 (gR (List.take 7 (List.drop 0 (u0.getD (addN t6_2 t7.toNat) []))) 5),
 .sl SK.any 7
 (gR (List.take 7 (List.drop 0 (u0.getD (addN t6_2 t7.toNat) []))) 6)]) (Lt K))))))
 (Kt t5 t6_2 t6_3 t7 u0 (Lt K))))))))
 (K (.exit (2)) ⟨[(0, .own Ae),(5,Ai t5)],[(Ae, .arr 1 true 7 u0)]⟩))):Hr t5 t6_2 t6_3 t7 u0 K:=lR [0,1,5,6,7] h
theorem Abr(t5:Int)(u0:LL)(K:KK)(h:
 (K .normal ⟨[(0, .own Ae),(1, .fn Bz []),(5,Ai (i64.wrap (t5+(1:Int))))],[(Ae, .arr 1 true 7 u0)]⟩)):Rf t5 u0 K:=cR [0,1,5] h
theorem Oz(t5:Int)(t6_2 t6_3:Nat)(t7:Int)(u0:LL)(K:KK)(h:
 (K .normal ⟨[(0, .own Ae),(1, .fn Bz []),(5,Ai t5),(6, .win Ae 7 t6_2 t6_3),(7,Ai (i64.wrap (t7+(1:Int))))],[(Ae, .arr 1 true 7 u0)]⟩)):Kt t5 t6_2 t6_3 t7 u0 K:=cR [0,1,5,6,7] h
theorem Abs(u0:LL)(K:KK)(h:
 (K .ret ⟨[(4, .own Ae)],[(Ae, .arr 1 true 7 u0)]⟩)):Rh u0 K:=cR [] h
theorem Abq(t5:Int)(u0:LL)(K:KK)(h:
 (Ag ((0:Int)≤t5∧t5≤(↑u0.length:Int))
 (Ag ((0:Int)≤t5∧
 t5≤
 (↑(Ka
 [.str [], .int .i64 (0:Int), .int .i64 (0:Int), .int .i64 (0:Int),
 .str [], .sl SK.nil (6:Nat) [], .sl SK.nil (7:Nat) []]
 t5.toNat (u0.length - t5.toNat) u0).length:
 Int))
 (K .ret ⟨[(4, .win Ae 7 0 (t5.toNat - 0))],[(Ae, .arr 1 true 7 (Ka
 [.str [], .int .i64 (0:Int), .int .i64 (0:Int), .int .i64 (0:Int), .str [],
 .sl SK.nil 6 [], .sl SK.nil 7 []]
 t5.toNat (u0.length - t5.toNat) u0))]⟩)))):Re t5 u0 K:=cR [0,1,5] h
theorem Ab3(rows:LL)(Q:QQ)(u0:LL)(h:
 (Q (.win Ae 7 0 u0.length) [(Ae, .arr 1 true 7 u0)])):Lr rows Q .ret ⟨[(4, .own Ae)],[(Ae, .arr 1 true 7 u0)]⟩:=kq h
theorem Ab4(rows:LL)(Q:QQ)(u0:LL)(h:
 (Rh u0 (Lr rows Q))):Fp rows Q (.exit 0) ⟨[(0, .own Ae)],[(Ae, .arr 1 true 7 u0)]⟩:=kq h
theorem Ab5(rows:LL)(Q:QQ)(t4_2 t4_3:Nat)(u0:LL)(h:
 (Q (.win Ae 7 t4_2 t4_3) [(Ae, .arr 1 true 7 u0)])):Fp rows Q .ret ⟨[(4, .win Ae 7 t4_2 t4_3)],[(Ae, .arr 1 true 7 u0)]⟩:=kq h
theorem Ab6(K:KK)(t5:Int)(u0:LL)(h:
 (H9 t5 u0 K)):H7 K .normal ⟨[(0, .own Ae),(1, .fn Bz []),(5,Ai t5)],[(Ae, .arr 1 true 7 u0)]⟩:=kq h
theorem Ab7(K:KK)(t4_2 t4_3:Nat)(u0:LL)(h:
 (K .ret ⟨[(4, .win Ae 7 t4_2 t4_3)],[(Ae, .arr 1 true 7 u0)]⟩)):H8 K .ret ⟨[(4, .win Ae 7 t4_2 t4_3)],[(Ae, .arr 1 true 7 u0)]⟩:=kq h
theorem Ab8(K:KK)(t5:Int)(u0:LL)(h:
 (Re t5 u0 (H8 K))):Ls K (.exit (2)) ⟨[(0, .own Ae),(5,Ai t5)],[(Ae, .arr 1 true 7 u0)]⟩:=kq h
theorem Pt(K:KK)(t5:Int)(t6_2 t6_3:Nat)(t7:Int)(u0:LL)(h:
 (Hr t5 t6_2 t6_3 t7 u0 K)):Lt K .normal ⟨[(0, .own Ae),(1, .fn Bz []),(5,Ai t5),(6, .win Ae 7 t6_2 t6_3),(7,Ai t7)],[(Ae, .arr 1 true 7 u0)]⟩:=kq h
theorem Ag3:Be E0.P 51 Bj.code Bl [.tmp 4]:=fq Tryz.func51
theorem Ad2(rows:LL)(Q:QQ)(h:
 (Br (decide ((↑rows.length:Int)<(2:Int)))
 (Q (.win Ae 7 0 rows.length) [(Ae, .arr 1 true 7 rows)])
 (H9 ((1:Int)) rows (Fp rows Q)))):Call E0.P Mt [.own (.arg 0), .fn Bz []] [(.arg 0, .arr 1 true 7 rows)] Q:=fR 1 Ag3 h
noncomputable def Ea:AC:=(A8 [(3,[0,1,2,8,9,10],[]),(5,[0,1,2,8,9],[]),(9,[0,1,2,8,9],[])] [6,7] (codeOf Tryz.f53) 0).1
abbrev Eb:Nat:=49
def Cs(t0r:LL)(t1:LB)(t8 t9 t10:Int)(K:KK):Prop:=Bc 3 E0.P Eb (A9 3 Ea).code ⟨[(0,Al 7 t0r),(1,As t1),(2, .fn Dp []),(8,Ai t8),(9,Ai t9),(10,Ai t10)],[]⟩ K
def J5(t0r:LL)(t1:LB)(t8 t9:Int)(K:KK):Prop:=Aq 9 E0.P Eb (Am 9 Ea).code ⟨[(0,Al 7 t0r),(1,As t1),(2, .fn Dp []),(8,Ai t8),(9,Ai t9)],[]⟩ K
def F8(Q:QQ):KK:=kE fun st=>finish 0 E0.T [.tmp 6, .tmp 7] [] Q st
def J7(Q:QQ):KK:=kF 0 (fun st=>Aq 9 E0.P Eb (Am 9 Ea).code (mask [0,1,2,8,9] st) (F8 Q)) fun st=>finish 0 E0.T [.tmp 6, .tmp 7] [] Q st
theorem I1(t0r:LL)(t1:LB)(t8 t9 t10:Int)(K:KK)(h:
 (Br (decide (t9<t10))
 (Ag ((0:Int)≤(1:Int))
 (Ag (((0:Int)≤i64.wrap ((IntKind.u64.wrap (i64.wrap (t9+t10))).fdiv ((2:Int) ^ 1))∧
 i64.wrap ((IntKind.u64.wrap (i64.wrap (t9+t10))).fdiv ((2:Int) ^ 1))<
 (↑t0r.length:Int))∧
 Bg
 [.str, .int .i64, .int .i64, .int .i64, .str, .sl 6 Aa,
 .sl 7 Ah]
 (t0r.getD (i64.wrap ((IntKind.u64.wrap (i64.wrap (t9+t10))).fdiv ((2:Int) ^ 1))).toNat
 [])=
 true)
 (Call E0.P Dp [.imm (.agg [.str (gS
 (t0r.getD (i64.wrap ((IntKind.u64.wrap (i64.wrap (t9+t10))).fdiv ((2:Int) ^ 1))).toNat [])
 0), .int .i64 (gI
 (t0r.getD (i64.wrap ((IntKind.u64.wrap (i64.wrap (t9+t10))).fdiv ((2:Int) ^ 1))).toNat [])
 1), .int .i64 (gI
 (t0r.getD (i64.wrap ((IntKind.u64.wrap (i64.wrap (t9+t10))).fdiv ((2:Int) ^ 1))).toNat [])
 2), .int .i64 (gI
 (t0r.getD (i64.wrap ((IntKind.u64.wrap (i64.wrap (t9+t10))).fdiv ((2:Int) ^ 1))).toNat [])
 3), .str (gS
 (t0r.getD (i64.wrap ((IntKind.u64.wrap (i64.wrap (t9+t10))).fdiv ((2:Int) ^ 1))).toNat [])
 4), .sl .any 6 (gR
 (t0r.getD (i64.wrap ((IntKind.u64.wrap (i64.wrap (t9+t10))).fdiv ((2:Int) ^ 1))).toNat [])
 5), .sl .any 7 (gR
 (t0r.getD (i64.wrap ((IntKind.u64.wrap (i64.wrap (t9+t10))).fdiv ((2:Int) ^ 1))).toNat [])
 6)]),As t1] [] fun r0 g0=>
 Ag (qV1 g0 r0)
 (Br (decide (rI r0<(0:Int)))
 (Cs t0r t1 t8 (i64.wrap
 (i64.wrap ((IntKind.u64.wrap (i64.wrap (t9+t10))).fdiv ((2:Int) ^ 1))+(1:Int))) t10 K)
 (Cs t0r t1 t8 t9 (i64.wrap ((IntKind.u64.wrap (i64.wrap (t9+t10))).fdiv ((2:Int) ^ 1))) K)))))
 (K (.exit 0) ⟨[(0,Al 7 t0r),(1,As t1),(2, .fn Dp []),(8,Ai t8),(9,Ai t9)],[]⟩))):Cs t0r t1 t8 t9 t10 K:=lR [0,1,2,8,9,10] h
theorem Rc(t0r:LL)(t1:LB)(t8 t9:Int)(K:KK)(h:
 (Ag (decide (t9<t8)=true→
 ((0:Int)≤t9∧t9<(↑t0r.length:Int))∧
 Bg
 [.str, .int .i64, .int .i64, .int .i64, .str, .sl 6 Aa,
 .sl 7 Ah]
 (t0r.getD t9.toNat [])=
 true)
 (Br (decide (t9<t8) == true)
 (Call E0.P Dp [.imm (.agg [.str (gS (t0r.getD t9.toNat []) 0), .int .i64 (gI (t0r.getD t9.toNat []) 1), .int .i64 (gI (t0r.getD t9.toNat []) 2), .int .i64 (gI (t0r.getD t9.toNat []) 3), .str (gS (t0r.getD t9.toNat []) 4), .sl .any 6 (gR (t0r.getD t9.toNat []) 5), .sl .any 7 (gR (t0r.getD t9.toNat []) 6)]),As t1] [] fun r0 g0=>
 Ag (qV1 g0 r0)
 (Let (decide (rI r0=(0:Int))) fun x1=>
 K .ret ⟨[(6,Ai t9),(7,Ab x1)],[]⟩))
 (Ag ((!true)=false)
 (Let (false) fun x2=>
 K .ret ⟨[(6,Ai t9),(7,Ab x2)],[]⟩))))):J5 t0r t1 t8 t9 K:=cR [] h
theorem Iw(Q:QQ)(t6:Int)(t7:Bool)(h:
 (Q (.tup [Ai t6,Ab t7]) [])):F8 Q .ret ⟨[(6,Ai t6),(7,Ab t7)],[]⟩:=kq h
theorem Ri(Q:QQ)(t0r:LL)(t1:LB)(t8 t9:Int)(h:
 (J5 t0r t1 t8 t9 (F8 Q))):J7 Q (.exit 0) ⟨[(0,Al 7 t0r),(1,As t1),(2, .fn Dp []),(8,Ai t8),(9,Ai t9)],[]⟩:=kq h
theorem U7:Be E0.P 53 Ea.code Eb [.tmp 6, .tmp 7]:=fq Tryz.func53
theorem Su(a0:LL)(a1:LB)(Q:QQ)(h:
 (Cs a0 a1 ((↑a0.length:Int)) ((0:Int)) ((↑a0.length:Int)) (J7 Q))):Call E0.P Gp [Al 7 a0,As a1, .fn Dp []] [] Q:=fR 0 U7 h
noncomputable def A12:AC:=(A8 [] [4,5] (codeOf Tryz.f35) 0).1
abbrev A2s:Nat:=11
theorem A24:Be E0.P 35 A12.code A2s [.tmp 4, .tmp 5]:=fq Tryz.func35
theorem Awv(a0:LL)(a1:LB)(Q:QQ)(h:
 (Call E0.P Gp [Al 7 a0,As a1, .fn Dp []] [] fun r0 g0=>
 Ag (g0=[]∧r0= .tup [.imm (.int .i64 (rI (rT r0 0))), .imm (.bool (rB (rT r0 1)))])
 (Q (.tup [Ai (rI (rT r0 0)),Ab (rB (rT r0 1))]) []))):Call E0.P Ael [Al 7 a0,As a1] [] Q:=fR 0 A24 h
noncomputable def Wl:AC:=(A8 [(5,[2,4,8],[2]),(8,[2,4,12],[2]),(18,[2],[])] [2,3] (codeOf Tryz.f33) 0).1
abbrev Wx:Nat:=29
def Zv(t4:Int)(t8 u0:Bool)(u1 u2:Bool)(u3 u4:Bool)(K:KK):Prop:=Aq 5 E0.P Wx (Am 5 Wl).code ⟨[(2, .ptr nL2 0),(4,Ai t4),(8,Ab t8)],[(nL2, .blk Bb [Ab u0,Ab u1,Ab u2,Ab u3,Ab u4])]⟩ K
def Zw(t4:Int)(t12 u0:Bool)(u1 u2:Bool)(u3 u4:Bool)(K:KK):Prop:=Aq 8 E0.P Wx (Am 8 Wl).code ⟨[(2, .ptr nL2 0),(4,Ai t4),(12,Ab t12)],[(nL2, .blk Bb [Ab u0,Ab u1,Ab u2,Ab u3,Ab u4])]⟩ K
def Amw(u0 u1:Bool)(u2 u3 u4:Bool)(K:KK):Prop:=Aq 18 E0.P Wx (Am 18 Wl).code ⟨[(2, .ptr nL2 0)],[(nL2, .blk Bb [Ab u0,Ab u1,Ab u2,Ab u3,Ab u4])]⟩ K
def Agt(Q:QQ):KK:=kE fun st=>finish 0 E0.T [.cell 2 69, .tmp 3] [] Q st
def Pf(Q:QQ):KK:=kF 0 (fun st=>Aq 18 E0.P Wx (Am 18 Wl).code (mask [2] st) (Agt Q)) fun st=>finish 0 E0.T [.cell 2 69, .tmp 3] [] Q st
def Um(K:KK):KK:=kP [2] K
theorem Awi(t4:Int)(t8 u0:Bool)(u1 u2:Bool)(u3 u4:Bool)(K:KK)(h:
 (Br (t8)
 (K .ret ⟨[(2, .ptr nL2 0),(3,Ab true)],[(nL2, .blk Bb [Ab true,Ab false,Ab false,Ab false,Ab false])]⟩)
 (Br (decide (t4=(3:Int)))
 (Zw t4 (decide (t4=(3:Int))) u0 u1 u2 u3 u4 (Um K))
 (Zw t4 (decide (t4=(4:Int))) u0 u1 u2 u3 u4 (Um K))))):Zv t4 t8 u0 u1 u2 u3 u4 K:=cR [2] h
theorem Awj(t4:Int)(t12 u0:Bool)(u1 u2:Bool)(u3 u4:Bool)(K:KK)(h:
 (Br (t12)
 (K .ret ⟨[(2, .ptr nL2 0),(3,Ab true)],[(nL2, .blk Bb [Ab false,Ab false,Ab true,Ab false,Ab false])]⟩)
 (Br (decide (t4=(5:Int)))
 (K .ret ⟨[(2, .ptr nL2 0),(3,Ab true)],[(nL2, .blk Bb [Ab false,Ab false,Ab false,Ab true,Ab false])]⟩)
 (Br (decide (t4=(6:Int)))
 (K .ret ⟨[(2, .ptr nL2 0),(3,Ab true)],[(nL2, .blk Bb [Ab false,Ab false,Ab false,Ab false,Ab true])]⟩)
 (Br (decide (t4=(7:Int)))
 (K .ret ⟨[(2, .ptr nL2 0),(3,Ab true)],[(nL2, .blk Bb [Ab true,Ab true,Ab false,Ab false,Ab false])]⟩)
 (Br (decide (t4=(8:Int)))
 (K .ret ⟨[(2, .ptr nL2 0),(3,Ab true)],[(nL2, .blk Bb [Ab false,Ab false,Ab true,Ab false,Ab true])]⟩)
 (K .normal ⟨[(2, .ptr nL2 0)],[(nL2, .blk Bb [Ab u0,Ab u1,Ab u2,Ab u3,Ab u4])]⟩))))))):Zw t4 t12 u0 u1 u2 u3 u4 K:=cR [2] h
theorem Au9(u0 u1:Bool)(u2 u3 u4:Bool)(K:KK)(h:
 (K .ret ⟨[(2, .ptr nL2 0),(3,Ab false)],[(nL2, .blk Bb [Ab false,Ab false,Ab false,Ab false,Ab false])]⟩)):Amw u0 u1 u2 u3 u4 K:=cR [] h
theorem Axa(Q:QQ)(t3 u0:Bool)(u1 u2:Bool)(u3 u4:Bool)(h:
 (Q (.tup [.imm (.agg [.bool u0, .bool u1, .bool u2, .bool u3, .bool u4]),Ab t3]) [])):Agt Q .ret ⟨[(2, .ptr nL2 0),(3,Ab t3)],[(nL2, .blk Bb [Ab u0,Ab u1,Ab u2,Ab u3,Ab u4])]⟩:=kq h
theorem Kw(Q:QQ)(t3 u0:Bool)(u1 u2:Bool)(u3 u4:Bool)(h:
 (Q (.tup [.imm (.agg [.bool u0, .bool u1, .bool u2, .bool u3, .bool u4]),Ab t3]) [])):Pf Q .ret ⟨[(2, .ptr nL2 0),(3,Ab t3)],[(nL2, .blk Bb [Ab u0,Ab u1,Ab u2,Ab u3,Ab u4])]⟩:=kq h
theorem Axb(Q:QQ)(u0 u1:Bool)(u2 u3 u4:Bool)(h:
 (Amw u0 u1 u2 u3 u4 (Agt Q))):Pf Q .normal ⟨[(2, .ptr nL2 0)],[(nL2, .blk Bb [Ab u0,Ab u1,Ab u2,Ab u3,Ab u4])]⟩:=kq h
theorem N7(K:KK)(t3 u0:Bool)(u1 u2:Bool)(u3 u4:Bool)(h:
 (K .ret ⟨[(2, .ptr nL2 0),(3,Ab t3)],[(nL2, .blk Bb [Ab u0,Ab u1,Ab u2,Ab u3,Ab u4])]⟩)):Um K .ret ⟨[(2, .ptr nL2 0),(3,Ab t3)],[(nL2, .blk Bb [Ab u0,Ab u1,Ab u2,Ab u3,Ab u4])]⟩:=kq h
theorem Axc(K:KK)(u0 u1:Bool)(u2 u3 u4:Bool)(h:
 (K .normal ⟨[(2, .ptr nL2 0)],[(nL2, .blk Bb [Ab u0,Ab u1,Ab u2,Ab u3,Ab u4])]⟩)):Um K .normal ⟨[(2, .ptr nL2 0)],[(nL2, .blk Bb [Ab u0,Ab u1,Ab u2,Ab u3,Ab u4])]⟩:=kq h
theorem A8k:Be E0.P 33 Wl.code Wx [.cell 2 69, .tmp 3]:=fq Tryz.func33
theorem A1c(a0:Int)(Q:QQ)(h:
 (Br (decide (a0=(0:Int)))
 (Q (.tup [.imm (.agg [.bool false, .bool false, .bool false, .bool false, .bool false]),Ab true]) [])
 (Br (decide (a0=(1:Int)))
 (Zv a0 (decide (a0=(1:Int))) false false false false false (Pf Q))
 (Zv a0 (decide (a0=(2:Int))) false false false false false (Pf Q))))):Call E0.P Ac7 [Ai a0] [] Q:=fR 0 A8k h
noncomputable def Ow:AC:=(A8 [(6,[4,14,15,16],[]),(8,[4],[]),(14,[4],[])] [2] (codeOf Tryz.f34) 0).1
abbrev Oy:Nat:=35
def Ji(t14_2 t14_3:Nat)(t15 t16:Int)(u0 u1:LL)(K:KK):Prop:=Bc 6 E0.P Oy (A9 6 Ow).code ⟨[(4, .own nL4),(14, .win (Nm.sub 9 nL0) 7 t14_2 t14_3),(15,Ai t15),(16,Ai t16)],[(nL4, .arr (Ah+2) true 7 u0),((Nm.sub 9 nL0), .arr 1 true 7 u1)]⟩ K
def Abc(u0:LL)(K:KK):Prop:=Aq 14 E0.P Oy (Am 14 Ow).code ⟨[(4, .own nL4)],[(nL4, .arr (Ah+2) true 7 u0)]⟩ K
def Sw(Q:QQ):KK:=kE fun st=>finish 0 E0.T [.tmp 2] [] Q st
def Sy(Q:QQ):KK:=kF 0 (fun st=>Aq 14 E0.P Oy (Am 14 Ow).code (mask [4] st) (Sw Q)) fun st=>finish 0 E0.T [.tmp 2] [] Q st
theorem Yd(t14_2 t14_3:Nat)(t15 t16:Int)(u0 u1:LL)(K:KK)(h:
 (Br (decide (t16<t15))
 (Ag ((0:Int)≤t16∧t16<(↑t14_3:Int))
 (Ag (addN t14_2 t16.toNat<u1.length∧
 Bg
 [.str, .int .i64, .int .i64, .int .i64, .str, .sl 6 Aa,
 .sl 7 Ah]
 (List.take 7 (List.drop 0 (u1.getD (addN t14_2 t16.toNat) [])))=
 true)
 (Call E0.P El [.imm (.agg [.int .i64 (gI (List.take 7 (List.drop 0 (u1.getD (addN t14_2 t16.toNat) []))) 1), .int .i64 (gI (List.take 7 (List.drop 0 (u1.getD (addN t14_2 t16.toNat) []))) 2), .int .i64 (gI (List.take 7 (List.drop 0 (u1.getD (addN t14_2 t16.toNat) []))) 3), .str (gS (List.take 7 (List.drop 0 (u1.getD (addN t14_2 t16.toNat) []))) 4), .sl .any 6 (gR (List.take 7 (List.drop 0 (u1.getD (addN t14_2 t16.toNat) []))) 5), .sl .any 7 (gR (List.take 7 (List.drop 0 (u1.getD (addN t14_2 t16.toNat) []))) 6)])] [] fun r0 g0=>
 Ag (qV3 g0 r0)
 (Br (!decide (gI (Ad r0) 0=(0:Int)))
 (Ag ((u0.length+1)*104≤140737488355328∧u0.length+1≤140737488355328)
 (Ji t14_2 t14_3 t15 (i64.wrap (t16+(1:Int))) (u0++
 [[IV.str (gS (List.take 7 (List.drop 0 (u1.getD (addN t14_2 t16.toNat) []))) 0),
 .int .i64 (gI (Ad r0) 0), .int .i64 (gI (Ad r0) 1),
 .int .i64 (gI (Ad r0) 2), .str (gS (Ad r0) 3),
 .sl SK.any 6 (gR (Ad r0) 4), .sl SK.any 7 (gR (Ad r0) 5)]]) u1 K))
 (Ji t14_2 t14_3 t15 (i64.wrap (t16+(1:Int))) u0 u1 K)))))
 (K (.exit 0) ⟨[(4, .own nL4)],[(nL4, .arr (Ah+2) true 7 u0)]⟩))):Ji t14_2 t14_3 t15 t16 u0 u1 K:=lR [4,14,15,16] h
theorem Ai6(u0:LL)(K:KK)(h:
 (K .ret ⟨[(2, .own nL4)],[(nL4, .arr (Ah+2) true 7 u0)]⟩)):Abc u0 K:=cR [] h
theorem Akt(Q:QQ)(u0:LL)(h:
 (Q (Al 7 u0) [])):Sw Q .ret ⟨[(2, .own nL4)],[(nL4, .arr (Ah+2) true 7 u0)]⟩:=kq h
theorem Aku(Q:QQ)(u0:LL)(h:
 (Abc u0 (Sw Q))):Sy Q (.exit 0) ⟨[(4, .own nL4)],[(nL4, .arr (Ah+2) true 7 u0)]⟩:=kq h
theorem Arp:Be E0.P 34 Ow.code Oy [.tmp 2]:=fq Tryz.func34
theorem Am0(a0:LL)(Q:QQ)(h:
 (Call E0.P T9 [Al 7 a0] [] fun r0 g0=>
 Ag (g0=[]++[(Nm.loc 0,Entry.arr 0 true 7 (Cn g0 nL0))]∧
 r0=AV.own nL0)
 (Call E0.P Kl [.own Ae, .fn Af []] [(Ae, .arr 1 true 7 (Cn g0 nL0))] fun r1 g1=>
 Ag (qV2 g1 r1)
 (Call E0.P Mt [.own Ae, .fn Bz []] [(Ae, .arr 1 true 7 (Cn g1 Ae))] fun r2 g2=>
 Ag (g2=[(Nm.arg 0,Entry.arr 1 true 7 (Cn g2 Ae))]∧
 r2=AV.win Ae 7 (rWo r2) (rWl r2))
 (Ji (rWo r2) (rWl r2) ((↑(rWl r2):Int)) ((0:Int)) [] (Cn g2 Ae) (Sy Q)))))):Call E0.P U6 [Al 7 a0] [] Q:=fR 0 Arp h
noncomputable def K4:AC:=(A8 [(7,[1,2,3,5],[]),(9,[1,2,3,5],[]),(11,[1,2,3,5],[]),(14,[1,2,3,5,38,39,40],[]),(16,[1,2,3,5],[]),(20,[1,2,3,5],[])] [2] (codeOf Tryz.f16) 0).1
abbrev Lc:Nat:=59
def U8(u0 u1 u2:Int)(u3:LB)(u4 u5:LL)(u6 u7 u8:Int)(u9:LB)(v0 v1:Bool)(v2 v3 v4:Bool)(v5 v6 v7:Int)(v8:LB)(v9 w0:LL)(w1 w2:LL)(K:KK):Prop:=Aq 7 E0.P Lc (Am 7 K4).code ⟨[(1, .ptr Fh 0),(2, .ptr nL2 0),(3, .ptr nL3 0),(5, .ptr nL5 0)],[(Fh, .blk Aa [Ai u0,Ai u1,Ai u2,As u3,Al 6 u4,Al 7 u5]),(nL2, .blk Aa [Ai u6,Ai u7,Ai u8,As u9, .own (nL2.cell 4), .own (nL2.cell 5)]),(nL3, .blk Bb [Ab v0,Ab v1,Ab v2,Ab v3,Ab v4]),(nL5, .blk Aa [Ai v5,Ai v6,Ai v7,As v8, .own (nL5.cell 4), .own (nL5.cell 5)]),((nL2.cell 4), .arr (Aa+2) true 6 v9),((nL2.cell 5), .arr (Ah+2) true 7 w0),((nL5.cell 4), .arr (Aa+2) true 6 w1),((nL5.cell 5), .arr (Ah+2) true 7 w2)]⟩ K
def U9(u0 u1 u2:Int)(u3:LB)(u4 u5:LL)(u6 u7 u8:Int)(u9:LB)(v0 v1:Bool)(v2 v3 v4:Bool)(v5 v6 v7:Int)(v8:LB)(v9 w0:LL)(w1 w2:LL)(K:KK):Prop:=Aq 9 E0.P Lc (Am 9 K4).code ⟨[(1, .ptr Fh 0),(2, .ptr nL2 0),(3, .ptr nL3 0),(5, .ptr nL5 0)],[(Fh, .blk Aa [Ai u0,Ai u1,Ai u2,As u3,Al 6 u4,Al 7 u5]),(nL2, .blk Aa [Ai u6,Ai u7,Ai u8,As u9, .own (nL2.cell 4), .own (nL2.cell 5)]),(nL3, .blk Bb [Ab v0,Ab v1,Ab v2,Ab v3,Ab v4]),(nL5, .blk Aa [Ai v5,Ai v6,Ai v7,As v8, .own (nL5.cell 4), .own (nL5.cell 5)]),((nL2.cell 4), .arr (Aa+2) true 6 v9),((nL2.cell 5), .arr (Ah+2) true 7 w0),((nL5.cell 4), .arr (Aa+2) true 6 w1),((nL5.cell 5), .arr (Ah+2) true 7 w2)]⟩ K
def Sn(u0 u1 u2:Int)(u3:LB)(u4 u5:LL)(u6 u7 u8:Int)(u9:LB)(v0 v1:Bool)(v2 v3 v4:Bool)(v5 v6 v7:Int)(v8:LB)(v9 w0:LL)(w1 w2:LL)(K:KK):Prop:=Aq 11 E0.P Lc (Am 11 K4).code ⟨[(1, .ptr Fh 0),(2, .ptr nL2 0),(3, .ptr nL3 0),(5, .ptr nL5 0)],[(Fh, .blk Aa [Ai u0,Ai u1,Ai u2,As u3,Al 6 u4,Al 7 u5]),(nL2, .blk Aa [Ai u6,Ai u7,Ai u8,As u9, .own (nL2.cell 4), .own (nL2.cell 5)]),(nL3, .blk Bb [Ab v0,Ab v1,Ab v2,Ab v3,Ab v4]),(nL5, .blk Aa [Ai v5,Ai v6,Ai v7,As v8, .own (nL5.cell 4), .own (nL5.cell 5)]),((nL2.cell 4), .arr (Aa+2) true 6 v9),((nL2.cell 5), .arr (Ah+2) true 7 w0),((nL5.cell 4), .arr (Aa+2) true 6 w1),((nL5.cell 5), .arr (Ah+2) true 7 w2)]⟩ K
def Tc(t38r:LL)(t39 t40:Int)(u0 u1 u2:Int)(u3:LB)(u4 u5:LL)(u6 u7 u8:Int)(u9:LB)(v0 v1:Bool)(v2 v3 v4:Bool)(v5 v6 v7:Int)(v8:LB)(v9 w0:LL)(w1 w2:LL)(K:KK):Prop:=Bc 14 E0.P Lc (A9 14 K4).code ⟨[(1, .ptr Fh 0),(2, .ptr nL2 0),(3, .ptr nL3 0),(5, .ptr nL5 0),(38,Al 6 t38r),(39,Ai t39),(40,Ai t40)],[(Fh, .blk Aa [Ai u0,Ai u1,Ai u2,As u3,Al 6 u4,Al 7 u5]),(nL2, .blk Aa [Ai u6,Ai u7,Ai u8,As u9, .own (nL2.cell 4), .own (nL2.cell 5)]),(nL3, .blk Bb [Ab v0,Ab v1,Ab v2,Ab v3,Ab v4]),(nL5, .blk Aa [Ai v5,Ai v6,Ai v7,As v8, .own (nL5.cell 4), .own (nL5.cell 5)]),((nL2.cell 4), .arr (Aa+2) true 6 v9),((nL2.cell 5), .arr (Ah+2) true 7 w0),((nL5.cell 4), .arr (Aa+2) true 6 w1),((nL5.cell 5), .arr (Ah+2) true 7 w2)]⟩ K
def Sq(u0 u1 u2:Int)(u3:LB)(u4 u5:LL)(u6 u7 u8:Int)(u9:LB)(v0 v1:Bool)(v2 v3 v4:Bool)(v5 v6 v7:Int)(v8:LB)(v9 w0:LL)(w1 w2:LL)(K:KK):Prop:=Aq 20 E0.P Lc (Am 20 K4).code ⟨[(1, .ptr Fh 0),(2, .ptr nL2 0),(3, .ptr nL3 0),(5, .ptr nL5 0)],[(Fh, .blk Aa [Ai u0,Ai u1,Ai u2,As u3,Al 6 u4,Al 7 u5]),(nL2, .blk Aa [Ai u6,Ai u7,Ai u8,As u9, .own (nL2.cell 4), .own (nL2.cell 5)]),(nL3, .blk Bb [Ab v0,Ab v1,Ab v2,Ab v3,Ab v4]),(nL5, .blk Aa [Ai v5,Ai v6,Ai v7,As v8, .own (nL5.cell 4), .own (nL5.cell 5)]),((nL2.cell 4), .arr (Aa+2) true 6 v9),((nL2.cell 5), .arr (Ah+2) true 7 w0),((nL5.cell 4), .arr (Aa+2) true 6 w1),((nL5.cell 5), .arr (Ah+2) true 7 w2)]⟩ K
def Pv(Q:QQ):KK:=kE fun st=>finish 0 E0.T [.cell 2 28] [] Q st
def Fg(K:KK):KK:=kP [] K
def Ab9(K:KK):KK:=kC 0 (fun st=>Aq 20 E0.P Lc (Am 20 K4).code (mask [1,2,3,5] st) (Fg K)) K
theorem Arx(u0 u1 u2:Int)(u3:LB)(u4 u5:LL)(u6 u7 u8:Int)(u9:LB)(v0 v1:Bool)(v2 v3 v4:Bool)(v5 v6 v7:Int)(v8:LB)(v9 w0:LL)(w1 w2:LL)(K:KK)(h:
 (Br (v1)
 (U9 u0 u1 u2 u3 u4 u5 u6 u7 u8 u9 v0 v1 v2 v3 v4 v5 v6 u2 v8 v9 w0 w1 w2 (Fg K))
 (U9 u0 u1 u2 u3 u4 u5 u6 u7 u8 u9 v0 v1 v2 v3 v4 v5 v6 v7 v8 v9 w0 w1 w2 (Fg K)))):U8 u0 u1 u2 u3 u4 u5 u6 u7 u8 u9 v0 v1 v2 v3 v4 v5 v6 v7 v8 v9 w0 w1 w2 K:=cR [] h
theorem Ary(u0 u1 u2:Int)(u3:LB)(u4 u5:LL)(u6 u7 u8:Int)(u9:LB)(v0 v1:Bool)(v2 v3 v4:Bool)(v5 v6 v7:Int)(v8:LB)(v9 w0:LL)(w1 w2:LL)(K:KK)(h:
 (Br (v2)
 (Sn u0 u1 u2 u3 u4 u5 u6 u7 u8 u9 v0 v1 v2 v3 v4 v5 v6 v7 u3 v9 w0 w1 w2 (Fg K))
 (Sn u0 u1 u2 u3 u4 u5 u6 u7 u8 u9 v0 v1 v2 v3 v4 v5 v6 v7 v8 v9 w0 w1 w2 (Fg K)))):U9 u0 u1 u2 u3 u4 u5 u6 u7 u8 u9 v0 v1 v2 v3 v4 v5 v6 v7 v8 v9 w0 w1 w2 K:=cR [] h
theorem Aqq(u0 u1 u2:Int)(u3:LB)(u4 u5:LL)(u6 u7 u8:Int)(u9:LB)(v0 v1:Bool)(v2 v3 v4:Bool)(v5 v6 v7:Int)(v8:LB)(v9 w0:LL)(w1 w2:LL)(K:KK)(h:
 (Br (v3)
 (Tc u4 ((↑u4.length:Int)) ((0:Int)) u0 u1 u2 u3 u4 u5 u6 u7 u8 u9 v0 v1 v2 v3 v4 v5 v6 v7 v8 v9 w0 w1 w2 (Ab9 K))
 (Sq u0 u1 u2 u3 u4 u5 u6 u7 u8 u9 v0 v1 v2 v3 v4 v5 v6 v7 v8 v9 w0 w1 w2 (Fg K)))):Sn u0 u1 u2 u3 u4 u5 u6 u7 u8 u9 v0 v1 v2 v3 v4 v5 v6 v7 v8 v9 w0 w1 w2 K:=cR [] h
theorem Adu(t38r:LL)(t39 t40:Int)(u0 u1 u2:Int)(u3:LB)(u4 u5:LL)(u6 u7 u8:Int)(u9:LB)(v0 v1:Bool)(v2 v3 v4:Bool)(v5 v6 v7:Int)(v8:LB)(v9 w0:LL)(w1 w2:LL)(K:KK)(h:
 (Br (decide (t40<t39))
 (Ag (((0:Int)≤t40∧t40<(↑t38r.length:Int))∧
 Bg
 [.int .i64, .int .i64, .int .i64, .str, .sl 6 Aa,
 .sl 7 Ah]
 (t38r.getD t40.toNat [])=
 true)
 (Call E0.P El [.imm (.agg [.int .i64 (gI (t38r.getD t40.toNat []) 0), .int .i64 (gI (t38r.getD t40.toNat []) 1), .int .i64 (gI (t38r.getD t40.toNat []) 2), .str (gS (t38r.getD t40.toNat []) 3), .sl .any 6 (gR (t38r.getD t40.toNat []) 4), .sl .any 7 (gR (t38r.getD t40.toNat []) 5)])] [] fun r0 g0=>
 Ag (qV3 g0 r0)
 (Ag ((w1.length+1)*88≤140737488355328∧w1.length+1≤140737488355328)
 (Tc t38r t39 (i64.wrap (t40+(1:Int))) u0 u1 u2 u3 u4 u5 u6 u7 u8 u9 v0 v1 v2 v3 v4 v5 v6 v7 v8 v9 w0 (w1++
 [[IV.int .i64 (gI (Ad r0) 0), .int .i64 (gI (Ad r0) 1),
 .int .i64 (gI (Ad r0) 2), .str (gS (Ad r0) 3),
 .sl SK.any 6 (gR (Ad r0) 4), .sl SK.any 7 (gR (Ad r0) 5)]]) w2 K))))
 (K (.exit 0) ⟨[(1, .ptr Fh 0),(2, .ptr nL2 0),(3, .ptr nL3 0),(5, .ptr nL5 0)],[(Fh, .blk Aa [Ai u0,Ai u1,Ai u2,As u3,Al 6 u4,Al 7 u5]),(nL2, .blk Aa [Ai u6,Ai u7,Ai u8,As u9, .own (nL2.cell 4), .own (nL2.cell 5)]),(nL3, .blk Bb [Ab v0,Ab v1,Ab v2,Ab v3,Ab v4]),(nL5, .blk Aa [Ai v5,Ai v6,Ai v7,As v8, .own (nL5.cell 4), .own (nL5.cell 5)]),((nL2.cell 4), .arr (Aa+2) true 6 v9),((nL2.cell 5), .arr (Ah+2) true 7 w0),((nL5.cell 4), .arr (Aa+2) true 6 w1),((nL5.cell 5), .arr (Ah+2) true 7 w2)]⟩))):Tc t38r t39 t40 u0 u1 u2 u3 u4 u5 u6 u7 u8 u9 v0 v1 v2 v3 v4 v5 v6 v7 v8 v9 w0 w1 w2 K:=lR [1,2,3,5,38,39,40] h
theorem Aqr(u0 u1 u2:Int)(u3:LB)(u4 u5:LL)(u6 u7 u8:Int)(u9:LB)(v0 v1:Bool)(v2 v3 v4:Bool)(v5 v6 v7:Int)(v8:LB)(v9 w0:LL)(w1 w2:LL)(K:KK)(h:
 (Br (v4)
 (Call E0.P U6 [Al 7 u5] [] fun r0 g0=>
 Ag (qV4 g0 r0)
 (K .ret ⟨[(2, .ptr nL2 0)],[(nL2, .blk Aa [Ai v5,Ai v6,Ai v7,As v8, .own (nL5.cell 4),Al 7 (rR r0)]),((nL5.cell 4), .arr (Aa+2) true 6 w1)]⟩))
 (K .ret ⟨[(2, .ptr nL2 0)],[(nL2, .blk Aa [Ai v5,Ai v6,Ai v7,As v8, .own (nL5.cell 4), .own (nL5.cell 5)]),((nL5.cell 4), .arr (Aa+2) true 6 w1),((nL5.cell 5), .arr (Ah+2) true 7 w2)]⟩))):Sq u0 u1 u2 u3 u4 u5 u6 u7 u8 u9 v0 v1 v2 v3 v4 v5 v6 v7 v8 v9 w0 w1 w2 K:=cR [] h
theorem Ash(Q:QQ)(u0 u1 u2:Int)(u3:LB)(u4 u5:LL)(h:
 (Q (.imm (.agg [.int .i64 u0, .int .i64 u1, .int .i64 u2, .str u3, .sl .any 6 u5, .sl .any 7 u4])) [])):Pv Q .ret ⟨[(2, .ptr nL2 0)],[(nL2, .blk Aa [Ai u0,Ai u1,Ai u2,As u3, .own (nL5.cell 4),Al 7 u4]),((nL5.cell 4), .arr (Aa+2) true 6 u5)]⟩:=kq h
theorem Asi(Q:QQ)(u0 u1 u2:Int)(u3:LB)(u4 u5:LL)(h:
 (Q (.imm (.agg [.int .i64 u0, .int .i64 u1, .int .i64 u2, .str u3, .sl .any 6 u4, .sl .any 7 u5])) [])):Pv Q .ret ⟨[(2, .ptr nL2 0)],[(nL2, .blk Aa [Ai u0,Ai u1,Ai u2,As u3, .own (nL5.cell 4), .own (nL5.cell 5)]),((nL5.cell 4), .arr (Aa+2) true 6 u4),((nL5.cell 5), .arr (Ah+2) true 7 u5)]⟩:=kq h
theorem Asj(K:KK)(u0 u1 u2:Int)(u3:LB)(u4 u5:LL)(h:
 (K .ret ⟨[(2, .ptr nL2 0)],[(nL2, .blk Aa [Ai u0,Ai u1,Ai u2,As u3, .own (nL5.cell 4),Al 7 u4]),((nL5.cell 4), .arr (Aa+2) true 6 u5)]⟩)):Fg K .ret ⟨[(2, .ptr nL2 0)],[(nL2, .blk Aa [Ai u0,Ai u1,Ai u2,As u3, .own (nL5.cell 4),Al 7 u4]),((nL5.cell 4), .arr (Aa+2) true 6 u5)]⟩:=kq h
theorem Asl(K:KK)(u0 u1 u2:Int)(u3:LB)(u4 u5:LL)(h:
 (K .ret ⟨[(2, .ptr nL2 0)],[(nL2, .blk Aa [Ai u0,Ai u1,Ai u2,As u3, .own (nL5.cell 4), .own (nL5.cell 5)]),((nL5.cell 4), .arr (Aa+2) true 6 u4),((nL5.cell 5), .arr (Ah+2) true 7 u5)]⟩)):Fg K .ret ⟨[(2, .ptr nL2 0)],[(nL2, .blk Aa [Ai u0,Ai u1,Ai u2,As u3, .own (nL5.cell 4), .own (nL5.cell 5)]),((nL5.cell 4), .arr (Aa+2) true 6 u4),((nL5.cell 5), .arr (Ah+2) true 7 u5)]⟩:=kq h
theorem Asm(K:KK)(u0 u1 u2:Int)(u3:LB)(u4 u5:LL)(u6 u7 u8:Int)(u9:LB)(v0 v1:Bool)(v2 v3 v4:Bool)(v5 v6 v7:Int)(v8:LB)(v9 w0:LL)(w1 w2:LL)(h:
 (Sq u0 u1 u2 u3 u4 u5 u6 u7 u8 u9 v0 v1 v2 v3 v4 v5 v6 v7 v8 v9 w0 w1 w2 (Fg K))):Ab9 K (.exit 0) ⟨[(1, .ptr Fh 0),(2, .ptr nL2 0),(3, .ptr nL3 0),(5, .ptr nL5 0)],[(Fh, .blk Aa [Ai u0,Ai u1,Ai u2,As u3,Al 6 u4,Al 7 u5]),(nL2, .blk Aa [Ai u6,Ai u7,Ai u8,As u9, .own (nL2.cell 4), .own (nL2.cell 5)]),(nL3, .blk Bb [Ab v0,Ab v1,Ab v2,Ab v3,Ab v4]),(nL5, .blk Aa [Ai v5,Ai v6,Ai v7,As v8, .own (nL5.cell 4), .own (nL5.cell 5)]),((nL2.cell 4), .arr (Aa+2) true 6 v9),((nL2.cell 5), .arr (Ah+2) true 7 w0),((nL5.cell 4), .arr (Aa+2) true 6 w1),((nL5.cell 5), .arr (Ah+2) true 7 w2)]⟩:=kq h
theorem A22:Be E0.P 16 K4.code Lc [.cell 2 28]:=fq Tryz.func16
theorem Awt(a0_0 a0_1 a0_2:Int)(a0_3:LB)(a0_4 a0_5:LL)(Q:QQ)(h:
 (Call E0.P Ac7 [Ai a0_0] [] fun r0 g0=>
 Ag (g0=[]∧
 r0=
 .tup
 [.imm
 (IV.agg
 [.bool (gB (Ad (rT r0 0)) 0), .bool (gB (Ad (rT r0 0)) 1),
 .bool (gB (Ad (rT r0 0)) 2), .bool (gB (Ad (rT r0 0)) 3),
 .bool (gB (Ad (rT r0 0)) 4)]),
 .imm (.bool (rB (rT r0 1)))])
 (Br (!rB (rT r0 1))
 (Q (.imm (.agg [.int .i64 0, .int .i64 0, .int .i64 0, .str [], .sl .any 6 [], .sl .any 7 []])) [])
 (Br (gB (Ad (rT r0 0)) 0)
 (U8 a0_0 a0_1 a0_2 a0_3 a0_4 a0_5 ((0:Int)) ((0:Int)) ((0:Int)) [] (gB (Ad (rT r0 0)) 0) (gB (Ad (rT r0 0)) 1) (gB (Ad (rT r0 0)) 2) (gB (Ad (rT r0 0)) 3) (gB (Ad (rT r0 0)) 4) a0_0 a0_1 ((0:Int)) [] [] [] [] [] (Pv Q))
 (U8 a0_0 a0_1 a0_2 a0_3 a0_4 a0_5 ((0:Int)) ((0:Int)) ((0:Int)) [] (gB (Ad (rT r0 0)) 0) (gB (Ad (rT r0 0)) 1) (gB (Ad (rT r0 0)) 2) (gB (Ad (rT r0 0)) 3) (gB (Ad (rT r0 0)) 4) a0_0 ((0:Int)) ((0:Int)) [] [] [] [] [] (Pv Q)))))):Call E0.P El [.imm (.agg [.int .i64 a0_0, .int .i64 a0_1, .int .i64 a0_2, .str a0_3, .sl .any 6 a0_4, .sl .any 7 a0_5])] [] Q:=fR 0 A22 h
noncomputable def A6m:AC:=(A8 [] [4,5] (codeOf Tryz.f17) 0).1
abbrev A8d:Nat:=26
theorem A8j:Be E0.P 17 A6m.code A8d [.cell 4 28, .tmp 5]:=fq Tryz.func17
theorem A1b(a0_0 a0_1 a0_2:Int)(a0_3:LB)(a0_4 a0_5:LL)(a1:LB)(Q:QQ)(h:
 (Call E0.P El [.imm (.agg [.int .i64 a0_0, .int .i64 a0_1, .int .i64 a0_2, .str a0_3, .sl .any 6 a0_4, .sl .any 7 a0_5])] [] fun r0 g0=>
 Ag (qV3 g0 r0)
 (Call E0.P Ael [Al 7 (gR (Ad r0) 5),As a1] [] fun r1 g1=>
 Ag (g1=[]∧r1= .tup [.imm (.int .i64 (rI (rT r1 0))), .imm (.bool (rB (rT r1 1)))])
 (Br (!rB (rT r1 1))
 (Q (.tup [.imm (.agg [.int .i64 0, .int .i64 0, .int .i64 0, .str [], .sl .any 6 [], .sl .any 7 []]),Ab false]) [])
 (Ag (((0:Int)≤rI (rT r1 0)∧rI (rT r1 0)<(↑(gR (Ad r0) (5:Nat)).length:Int))∧
 Bg
 [.str, .int .i64, .int .i64, .int .i64, .str, .sl 6 Aa,
 .sl 7 Ah]
 ((gR (Ad r0) 5).getD (rI (rT r1 0)).toNat [])=
 true)
 (Q (.tup [.imm (.agg [.int .i64 (gI ((gR (Ad r0) 5).getD (rI (rT r1 0)).toNat []) 1), .int .i64 (gI ((gR (Ad r0) 5).getD (rI (rT r1 0)).toNat []) 2), .int .i64 (gI ((gR (Ad r0) 5).getD (rI (rT r1 0)).toNat []) 3), .str (gS ((gR (Ad r0) 5).getD (rI (rT r1 0)).toNat []) 4), .sl .any 6 (gR ((gR (Ad r0) 5).getD (rI (rT r1 0)).toNat []) 5), .sl .any 7 (gR ((gR (Ad r0) 5).getD (rI (rT r1 0)).toNat []) 6)]),Ab true]) [])))))):Call E0.P R5 [.imm (.agg [.int .i64 a0_0, .int .i64 a0_1, .int .i64 a0_2, .str a0_3, .sl .any 6 a0_4, .sl .any 7 a0_5]),As a1] [] Q:=fR 0 A8j h
noncomputable def Jk:AC:=(A8 [(5,[2,3,5],[]),(7,[2,3],[]),(12,[2,3],[]),(14,[2,3,6],[]),(16,[],[]),(20,[2,3,6],[2,3,6]),(21,[],[])] [4] (codeOf Tryz.f10) 0).1
abbrev Js:Nat:=106
def Zy(t5 u0:Int)(u1 u2:Int)(u3:LB)(u4 u5:LL)(u6 u7 u8:Int)(u9:LB)(v0 v1:LL)(K:KK):Prop:=Bc 5 E0.P Js (A9 5 Jk).code ⟨[(2, .ptr nL2 0),(3, .ptr nL3 0),(5,Ai t5)],[(nL2, .blk Aa [Ai u0,Ai u1,Ai u2,As u3,Al 6 u4,Al 7 u5]),(nL3, .blk Aa [Ai u6,Ai u7,Ai u8,As u9,Al 6 v0,Al 7 v1])]⟩ K
def Ams(u0 u1 u2:Int)(u3:LB)(u4 u5:LL)(u6 u7 u8:Int)(u9:LB)(v0 v1:LL)(K:KK):Prop:=Aq 12 E0.P Js (Am 12 Jk).code ⟨[(2, .ptr nL2 0),(3, .ptr nL3 0)],[(nL2, .blk Aa [Ai u0,Ai u1,Ai u2,As u3,Al 6 u4,Al 7 u5]),(nL3, .blk Aa [Ai u6,Ai u7,Ai u8,As u9,Al 6 v0,Al 7 v1])]⟩ K
def Xp(t6 u0:Int)(u1 u2:Int)(u3:LB)(u4 u5:LL)(u6 u7 u8:Int)(u9:LB)(v0 v1:LL)(K:KK):Prop:=Bc 14 E0.P Js (A9 14 Jk).code ⟨[(2, .ptr nL2 0),(3, .ptr nL3 0),(6,Ai t6)],[(nL2, .blk Aa [Ai u0,Ai u1,Ai u2,As u3,Al 6 u4,Al 7 u5]),(nL3, .blk Aa [Ai u6,Ai u7,Ai u8,As u9,Al 6 v0,Al 7 v1])]⟩ K
def W9(t6 u0:Int)(u1 u2:Int)(u3:LB)(u4 u5:LL)(u6 u7 u8:Int)(u9:LB)(v0 v1:LL)(K:KK):Prop:=Aq 20 E0.P Js (Am 20 Jk).code ⟨[(2, .ptr nL2 0),(3, .ptr nL3 0),(6,Ai t6)],[(nL2, .blk Aa [Ai u0,Ai u1,Ai u2,As u3,Al 6 u4,Al 7 u5]),(nL3, .blk Aa [Ai u6,Ai u7,Ai u8,As u9,Al 6 v0,Al 7 v1])]⟩ K
def Amt(K:KK):Prop:=Aq 21 E0.P Js (Am 21 Jk).code ⟨[],[]⟩ K
def Agf(Q:QQ):KK:=kE fun st=>finish 0 E0.T [.tmp 4] [] Q st
def Agg(Q:QQ):KK:=kF 0 (fun st=>Aq 12 E0.P Js (Am 12 Jk).code (mask [2,3] st) (Agf Q)) fun st=>finish 0 E0.T [.tmp 4] [] Q st
def Agh(K:KK):KK:=kP [] K
def Agi(K:KK):KK:=kC 2 (fun st=>Aq 21 E0.P Js (Am 21 Jk).code (mask [] st) (Agh K)) K
def Zx(K:KK):Ex→St→Prop
 | .normal,st=>Bc 14 E0.P Js (A9 14 Jk).code (mask [2,3,6] st) K
 | .exit i,st=>K (.exit i) st
 | .goto i,st=>K (.goto i) st
 | .ret,st=>K .ret st
theorem Ajw(t5 u0:Int)(u1 u2:Int)(u3:LB)(u4 u5:LL)(u6 u7 u8:Int)(u9:LB)(v0 v1:LL)(K:KK)(h:
 (Br (decide (t5<(↑u4.length:Int)))
 (Ag (((0:Int)≤t5∧t5<(↑u4.length:Int))∧
 Bg
 [.int .i64, .int .i64, .int .i64, .str, .sl 6 Aa,
 .sl 7 Ah]
 (u4.getD t5.toNat [])=
 true)
 (Ag (((0:Int)≤t5∧t5<(↑v0.length:Int))∧
 Bg
 [.int .i64, .int .i64, .int .i64, .str, .sl 6 Aa,
 .sl 7 Ah]
 (v0.getD t5.toNat [])=
 true)
 (Call E0.P Hf [.imm (.agg [.int .i64 (gI (u4.getD t5.toNat []) 0), .int .i64 (gI (u4.getD t5.toNat []) 1), .int .i64 (gI (u4.getD t5.toNat []) 2), .str (gS (u4.getD t5.toNat []) 3), .sl .any 6 (gR (u4.getD t5.toNat []) 4), .sl .any 7 (gR (u4.getD t5.toNat []) 5)]), .imm (.agg [.int .i64 (gI (v0.getD t5.toNat []) 0), .int .i64 (gI (v0.getD t5.toNat []) 1), .int .i64 (gI (v0.getD t5.toNat []) 2), .str (gS (v0.getD t5.toNat []) 3), .sl .any 6 (gR (v0.getD t5.toNat []) 4), .sl .any 7 (gR (v0.getD t5.toNat []) 5)])] [] fun r0 g0=>
 Ag (qV0 g0 r0)
 (Br (!rB r0)
 (K .ret ⟨[(4,Ab false)],[]⟩)
 (Zy (i64.wrap (t5+(1:Int))) u0 u1 u2 u3 u4 u5 u6 u7 u8 u9 v0 v1 K)))))
 (K (.exit 0) ⟨[(2, .ptr nL2 0),(3, .ptr nL3 0)],[(nL2, .blk Aa [Ai u0,Ai u1,Ai u2,As u3,Al 6 u4,Al 7 u5]),(nL3, .blk Aa [Ai u6,Ai u7,Ai u8,As u9,Al 6 v0,Al 7 v1])]⟩))):Zy t5 u0 u1 u2 u3 u4 u5 u6 u7 u8 u9 v0 v1 K:=lR [2,3,5] h
theorem Au2(u0 u1 u2:Int)(u3:LB)(u4 u5:LL)(u6 u7 u8:Int)(u9:LB)(v0 v1:LL)(K:KK)(h:
 (Xp ((0:Int)) u0 u1 u2 u3 u4 u5 u6 u7 u8 u9 v0 v1 (Agi K))):Ams u0 u1 u2 u3 u4 u5 u6 u7 u8 u9 v0 v1 K:=cR [] h
theorem Ahg(t6 u0:Int)(u1 u2:Int)(u3:LB)(u4 u5:LL)(u6 u7 u8:Int)(u9:LB)(v0 v1:LL)(K:KK)(h:
 (Br (decide (t6<(↑u5.length:Int)))
 (Ag (((0:Int)≤t6∧t6<(↑u5.length:Int))∧
 Bg
 [.str, .int .i64, .int .i64, .int .i64, .str, .sl 6 Aa,
 .sl 7 Ah]
 (u5.getD t6.toNat [])=
 true)
 (Ag (((0:Int)≤t6∧t6<(↑v1.length:Int))∧
 Bg
 [.str, .int .i64, .int .i64, .int .i64, .str, .sl 6 Aa,
 .sl 7 Ah]
 (v1.getD t6.toNat [])=
 true)
 (Ag ((!gS (u5.getD t6.toNat []) 0 == gS (v1.getD t6.toNat []) 0)=false→
 ((0:Int)≤t6∧t6<(↑u5.length:Int))∧
 Bg
 [.str, .int .i64, .int .i64, .int .i64, .str, .sl 6 Aa,
 .sl 7 Ah]
 (u5.getD t6.toNat [])=
 true)
 (Ag ((!gS (u5.getD t6.toNat []) 0 == gS (v1.getD t6.toNat []) 0)=false→
 ((0:Int)≤t6∧t6<(↑v1.length:Int))∧
 Bg
 [.str, .int .i64, .int .i64, .int .i64, .str, .sl 6 Aa,
 .sl 7 Ah]
 (v1.getD t6.toNat [])=
 true)
 (Br ((!gS (u5.getD t6.toNat []) 0 == gS (v1.getD t6.toNat []) 0) == false)
 (Call E0.P Hf [.imm (.agg [.int .i64 (gI (u5.getD t6.toNat []) 1), .int .i64 (gI (u5.getD t6.toNat []) 2), .int .i64 (gI (u5.getD t6.toNat []) 3), .str (gS (u5.getD t6.toNat []) 4), .sl .any 6 (gR (u5.getD t6.toNat []) 5), .sl .any 7 (gR (u5.getD t6.toNat []) 6)]), .imm (.agg [.int .i64 (gI (v1.getD t6.toNat []) 1), .int .i64 (gI (v1.getD t6.toNat []) 2), .int .i64 (gI (v1.getD t6.toNat []) 3), .str (gS (v1.getD t6.toNat []) 4), .sl .any 6 (gR (v1.getD t6.toNat []) 5), .sl .any 7 (gR (v1.getD t6.toNat []) 6)])] [] fun r0 g0=>
 Ag (qV0 g0 r0)
 (Let (!rB r0) fun x1=>
 Br (x1)
 (K .ret ⟨[(4,Ab false)],[]⟩)
 (W9 t6 u0 u1 u2 u3 u4 u5 u6 u7 u8 u9 v0 v1 (Zx K))))
 (Ag ((!false)=true)
 (Let (true) fun x2=>
 Br (x2)
 (K .ret ⟨[(4,Ab false)],[]⟩)
 (W9 t6 u0 u1 u2 u3 u4 u5 u6 u7 u8 u9 v0 v1 (Zx K)))))))))
 (K (.exit (2)) ⟨[],[]⟩))):Xp t6 u0 u1 u2 u3 u4 u5 u6 u7 u8 u9 v0 v1 K:=lR [2,3,6] h
theorem Au3(t6 u0:Int)(u1 u2:Int)(u3:LB)(u4 u5:LL)(u6 u7 u8:Int)(u9:LB)(v0 v1:LL)(K:KK)(h:
 (K .normal ⟨[(2, .ptr nL2 0),(3, .ptr nL3 0),(6,Ai (i64.wrap (t6+(1:Int))))],[(nL2, .blk Aa [Ai u0,Ai u1,Ai u2,As u3,Al 6 u4,Al 7 u5]),(nL3, .blk Aa [Ai u6,Ai u7,Ai u8,As u9,Al 6 v0,Al 7 v1])]⟩)):W9 t6 u0 u1 u2 u3 u4 u5 u6 u7 u8 u9 v0 v1 K:=cR [2,3,6] h
theorem Au4(K:KK)(h:
 (K .ret ⟨[(4,Ab true)],[]⟩)):Amt K:=cR [] h
theorem Ajj(Q:QQ)(t4:Bool)(h:
 (Q (Ab t4) [])):Agf Q .ret ⟨[(4,Ab t4)],[]⟩:=kq h
theorem Awy(Q:QQ)(t4:Bool)(h:
 (Q (Ab t4) [])):Agg Q .ret ⟨[(4,Ab t4)],[]⟩:=kq h
theorem Awz(Q:QQ)(u0 u1 u2:Int)(u3:LB)(u4 u5:LL)(u6 u7 u8:Int)(u9:LB)(v0 v1:LL)(h:
 (Ams u0 u1 u2 u3 u4 u5 u6 u7 u8 u9 v0 v1 (Agf Q))):Agg Q (.exit 0) ⟨[(2, .ptr nL2 0),(3, .ptr nL3 0)],[(nL2, .blk Aa [Ai u0,Ai u1,Ai u2,As u3,Al 6 u4,Al 7 u5]),(nL3, .blk Aa [Ai u6,Ai u7,Ai u8,As u9,Al 6 v0,Al 7 v1])]⟩:=kq h
theorem Aw0(K:KK)(t4:Bool)(h:
 (K .ret ⟨[(4,Ab t4)],[]⟩)):Agh K .ret ⟨[(4,Ab t4)],[]⟩:=kq h
theorem Aw1(K:KK)(t4:Bool)(h:
 (K .ret ⟨[(4,Ab t4)],[]⟩)):Agi K .ret ⟨[(4,Ab t4)],[]⟩:=kq h
theorem Aw2(K:KK)(h:
 (Amt (Agh K))):Agi K (.exit (2)) ⟨[],[]⟩:=kq h
theorem Aw3(K:KK)(t6 u0:Int)(u1 u2:Int)(u3:LB)(u4 u5:LL)(u6 u7 u8:Int)(u9:LB)(v0 v1:LL)(h:
 (Xp t6 u0 u1 u2 u3 u4 u5 u6 u7 u8 u9 v0 v1 K)):Zx K .normal ⟨[(2, .ptr nL2 0),(3, .ptr nL3 0),(6,Ai t6)],[(nL2, .blk Aa [Ai u0,Ai u1,Ai u2,As u3,Al 6 u4,Al 7 u5]),(nL3, .blk Aa [Ai u6,Ai u7,Ai u8,As u9,Al 6 v0,Al 7 v1])]⟩:=kq h
theorem A8h:Be E0.P 10 Jk.code Js [.tmp 4]:=fq Tryz.func10
theorem A09(a0_0 a0_1 a0_2:Int)(a0_3:LB)(a0_4 a0_5:LL)(a1_0 a1_1 a1_2:Int)(a1_3:LB)(a1_4 a1_5:LL)(Q:QQ)(h:
 (Let (bif !decide (a0_0=a1_0)then true else !decide (a0_1=a1_1)) fun x0=>
 Let (bif x0 then true else !decide (a0_2=a1_2)) fun x1=>
 Let (bif x1 then true else !a0_3 == a1_3) fun x2=>
 Let (bif x2 then true else !decide ((↑a0_4.length:Int)=(↑a1_4.length:Int))) fun x3=>
 Let (bif x3 then true else !decide ((↑a0_5.length:Int)=(↑a1_5.length:Int))) fun x4=>
 Br (x4)
 (Q (Ab false) [])
 (Zy ((0:Int)) a0_0 a0_1 a0_2 a0_3 a0_4 a0_5 a1_0 a1_1 a1_2 a1_3 a1_4 a1_5 (Agg Q)))):Call E0.P Hf [.imm (.agg [.int .i64 a0_0, .int .i64 a0_1, .int .i64 a0_2, .str a0_3, .sl .any 6 a0_4, .sl .any 7 a0_5]), .imm (.agg [.int .i64 a1_0, .int .i64 a1_1, .int .i64 a1_2, .str a1_3, .sl .any 6 a1_4, .sl .any 7 a1_5])] [] Q:=fR 0 A8h h
noncomputable def Ba7:AC:=(A8 [] [4] (codeOf Tryz.f11) 0).1
abbrev Bb9:Nat:=19
theorem Bcb:Be E0.P 11 Ba7.code Bb9 [.tmp 4]:=fq Tryz.func11
theorem A55(a0_0 a0_1 a0_2:Int)(a0_3:LB)(a0_4 a0_5:LL)(a1:Int)(Q:QQ)(h:
 (Call E0.P Zt [.imm (.agg [.int .i64 a0_0, .int .i64 a0_1, .int .i64 a0_2, .str a0_3, .sl .any 6 a0_4, .sl .any 7 a0_5]),Ai (i64.wrap (a1+(1:Int)))] [] fun r0 g0=>
 Ag (qV1 g0 r0)
 (Br (decide (rI r0≤a1) == true)
 (Call E0.P Ac4 [.imm (.agg [.int .i64 a0_0, .int .i64 a0_1, .int .i64 a0_2, .str a0_3, .sl .any 6 a0_4, .sl .any 7 a0_5]),Ai 200] [] fun r1 g1=>
 Ag (qV0 g1 r1)
 (Let (rB r1) fun x2=>
 Br (x2 == true)
 (Call E0.P Rw [.imm (.agg [.int .i64 a0_0, .int .i64 a0_1, .int .i64 a0_2, .str a0_3, .sl .any 6 a0_4, .sl .any 7 a0_5]),Ai 3000] [] fun r3 g3=>
 Ag (qV0 g3 r3)
 (Let (rB r3) fun x4=>
 Q (Ab x4) []))
 (Ag ((!true)=false)
 (Let (false) fun x5=>
 Q (Ab x5) []))))
 (Ag ((!true)=false)
 (Let (false) fun x6=>
 Br (x6 == true)
 (Call E0.P Rw [.imm (.agg [.int .i64 a0_0, .int .i64 a0_1, .int .i64 a0_2, .str a0_3, .sl .any 6 a0_4, .sl .any 7 a0_5]),Ai 3000] [] fun r7 g7=>
 Ag (qV0 g7 r7)
 (Let (rB r7) fun x8=>
 Q (Ab x8) []))
 (Ag ((!true)=false)
 (Let (false) fun x9=>
 Q (Ab x9) []))))))):Call E0.P Apg [.imm (.agg [.int .i64 a0_0, .int .i64 a0_1, .int .i64 a0_2, .str a0_3, .sl .any 6 a0_4, .sl .any 7 a0_5]),Ai a1] [] Q:=fR 0 Bcb h
noncomputable def Qn:AC:=(A8 [(3,[1,2,5,6],[]),(5,[1,2,5],[]),(8,[1,2,5],[]),(10,[1,2,5,7],[]),(12,[5],[]),(15,[5],[])] [4] (codeOf Tryz.f23) 0).1
abbrev Qt:Nat:=56
def Wi(t1 t5:Int)(t6 u0:Int)(u1 u2:Int)(u3:LB)(u4 u5:LL)(K:KK):Prop:=Bc 3 E0.P Qt (A9 3 Qn).code ⟨[(1,Ai t1),(2, .ptr nL2 0),(5,Ai t5),(6,Ai t6)],[(nL2, .blk Aa [Ai u0,Ai u1,Ai u2,As u3,Al 6 u4,Al 7 u5])]⟩ K
def Arw(t1 t5:Int)(u0 u1 u2:Int)(u3:LB)(u4 u5:LL)(K:KK):Prop:=Aq 8 E0.P Qt (Am 8 Qn).code ⟨[(1,Ai t1),(2, .ptr nL2 0),(5,Ai t5)],[(nL2, .blk Aa [Ai u0,Ai u1,Ai u2,As u3,Al 6 u4,Al 7 u5])]⟩ K
def Un(t1 t5:Int)(t7 u0:Int)(u1 u2:Int)(u3:LB)(u4 u5:LL)(K:KK):Prop:=Bc 10 E0.P Qt (A9 10 Qn).code ⟨[(1,Ai t1),(2, .ptr nL2 0),(5,Ai t5),(7,Ai t7)],[(nL2, .blk Aa [Ai u0,Ai u1,Ai u2,As u3,Al 6 u4,Al 7 u5])]⟩ K
def Aqc(t5:Int)(K:KK):Prop:=Aq 15 E0.P Qt (Am 15 Qn).code ⟨[(5,Ai t5)],[]⟩ K
def Ajl(Q:QQ):KK:=kE fun st=>finish 0 E0.T [.tmp 4] [] Q st
def Asf(Q:QQ):KK:=kF 0 (fun st=>Aq 8 E0.P Qt (Am 8 Qn).code (mask [1,2,5] st) (Ajl Q)) fun st=>finish 0 E0.T [.tmp 4] [] Q st
def Ajm(K:KK):KK:=kP [] K
def Asg(K:KK):KK:=kC 2 (fun st=>Aq 15 E0.P Qt (Am 15 Qn).code (mask [5] st) (Ajm K)) K
theorem Ak9(t1 t5:Int)(t6 u0:Int)(u1 u2:Int)(u3:LB)(u4 u5:LL)(K:KK)(h:
 (Let (bif decide (t6<(↑u4.length:Int))then decide (t5<t1)else false) fun x0=>
 Br (x0)
 (Ag (((0:Int)≤t6∧t6<(↑u4.length:Int))∧
 Bg
 [.int .i64, .int .i64, .int .i64, .str, .sl 6 Aa,
 .sl 7 Ah]
 (u4.getD t6.toNat [])=
 true)
 (Call E0.P Zt [.imm (.agg [.int .i64 (gI (u4.getD t6.toNat []) 0), .int .i64 (gI (u4.getD t6.toNat []) 1), .int .i64 (gI (u4.getD t6.toNat []) 2), .str (gS (u4.getD t6.toNat []) 3), .sl .any 6 (gR (u4.getD t6.toNat []) 4), .sl .any 7 (gR (u4.getD t6.toNat []) 5)]),Ai (i64.wrap (t1 - t5))] [] fun r1 g1=>
 Ag (qV1 g1 r1)
 (Wi t1 (i64.wrap (t5+rI r1)) (i64.wrap (t6+(1:Int))) u0 u1 u2 u3 u4 u5 K)))
 (K (.exit 0) ⟨[(1,Ai t1),(2, .ptr nL2 0),(5,Ai t5)],[(nL2, .blk Aa [Ai u0,Ai u1,Ai u2,As u3,Al 6 u4,Al 7 u5])]⟩))):Wi t1 t5 t6 u0 u1 u2 u3 u4 u5 K:=lR [1,2,5,6] h
theorem Ayx(t1 t5:Int)(u0 u1 u2:Int)(u3:LB)(u4 u5:LL)(K:KK)(h:
 (Un t1 t5 ((0:Int)) u0 u1 u2 u3 u4 u5 (Asg K))):Arw t1 t5 u0 u1 u2 u3 u4 u5 K:=cR [] h
theorem Ajy(t1 t5:Int)(t7 u0:Int)(u1 u2:Int)(u3:LB)(u4 u5:LL)(K:KK)(h:
 (Let (bif decide (t7<(↑u5.length:Int))then decide (t5<t1)else false) fun x0=>
 Br (x0)
 (Ag (((0:Int)≤t7∧t7<(↑u5.length:Int))∧
 Bg
 [.str, .int .i64, .int .i64, .int .i64, .str, .sl 6 Aa,
 .sl 7 Ah]
 (u5.getD t7.toNat [])=
 true)
 (Call E0.P Zt [.imm (.agg [.int .i64 (gI (u5.getD t7.toNat []) 1), .int .i64 (gI (u5.getD t7.toNat []) 2), .int .i64 (gI (u5.getD t7.toNat []) 3), .str (gS (u5.getD t7.toNat []) 4), .sl .any 6 (gR (u5.getD t7.toNat []) 5), .sl .any 7 (gR (u5.getD t7.toNat []) 6)]),Ai (i64.wrap (t1 - t5))] [] fun r1 g1=>
 Ag (qV1 g1 r1)
 (Un t1 (i64.wrap (t5+rI r1)) (i64.wrap (t7+(1:Int))) u0 u1 u2 u3 u4 u5 K)))
 (K (.exit (2)) ⟨[(5,Ai t5)],[]⟩))):Un t1 t5 t7 u0 u1 u2 u3 u4 u5 K:=lR [1,2,5,7] h
theorem Awf(t5:Int)(K:KK)(h:
 (K .ret ⟨[(4,Ai t5)],[]⟩)):Aqc t5 K:=cR [] h
theorem Ay9(Q:QQ)(t4:Int)(h:
 (Q (Ai t4) [])):Ajl Q .ret ⟨[(4,Ai t4)],[]⟩:=kq h
theorem Aza(Q:QQ)(t1 t5:Int)(u0 u1 u2:Int)(u3:LB)(u4 u5:LL)(h:
 (Arw t1 t5 u0 u1 u2 u3 u4 u5 (Ajl Q))):Asf Q (.exit 0) ⟨[(1,Ai t1),(2, .ptr nL2 0),(5,Ai t5)],[(nL2, .blk Aa [Ai u0,Ai u1,Ai u2,As u3,Al 6 u4,Al 7 u5])]⟩:=kq h
theorem Azb(K:KK)(t4:Int)(h:
 (K .ret ⟨[(4,Ai t4)],[]⟩)):Ajm K .ret ⟨[(4,Ai t4)],[]⟩:=kq h
theorem Azc(K:KK)(t5:Int)(h:
 (Aqc t5 (Ajm K))):Asg K (.exit (2)) ⟨[(5,Ai t5)],[]⟩:=kq h
theorem A9q:Be E0.P 23 Qn.code Qt [.tmp 4]:=fq Tryz.func23
theorem A4q(a0_0 a0_1 a0_2:Int)(a0_3:LB)(a0_4 a0_5:LL)(a1:Int)(Q:QQ)(h:
 (Wi a1 ((1:Int)) ((0:Int)) a0_0 a0_1 a0_2 a0_3 a0_4 a0_5 (Asf Q))):Call E0.P Zt [.imm (.agg [.int .i64 a0_0, .int .i64 a0_1, .int .i64 a0_2, .str a0_3, .sl .any 6 a0_4, .sl .any 7 a0_5]),Ai a1] [] Q:=fR 0 A9q h
noncomputable def Tj:AC:=(A8 [(5,[1,2,5],[]),(7,[1,2],[]),(12,[1,2],[]),(14,[1,2,6],[]),(16,[],[]),(21,[],[])] [4] (codeOf Tryz.f24) 0).1
abbrev Ug:Nat:=42
def Ae3(t1 t5:Int)(u0 u1 u2:Int)(u3:LB)(u4 u5:LL)(K:KK):Prop:=Bc 5 E0.P Ug (A9 5 Tj).code ⟨[(1,Ai t1),(2, .ptr nL2 0),(5,Ai t5)],[(nL2, .blk Aa [Ai u0,Ai u1,Ai u2,As u3,Al 6 u4,Al 7 u5])]⟩ K
def Aru(t1 u0:Int)(u1 u2:Int)(u3:LB)(u4 u5:LL)(K:KK):Prop:=Aq 12 E0.P Ug (Am 12 Tj).code ⟨[(1,Ai t1),(2, .ptr nL2 0)],[(nL2, .blk Aa [Ai u0,Ai u1,Ai u2,As u3,Al 6 u4,Al 7 u5])]⟩ K
def Ach(t1 t6:Int)(u0 u1 u2:Int)(u3:LB)(u4 u5:LL)(K:KK):Prop:=Bc 14 E0.P Ug (A9 14 Tj).code ⟨[(1,Ai t1),(2, .ptr nL2 0),(6,Ai t6)],[(nL2, .blk Aa [Ai u0,Ai u1,Ai u2,As u3,Al 6 u4,Al 7 u5])]⟩ K
def Arv(K:KK):Prop:=Aq 21 E0.P Ug (Am 21 Tj).code ⟨[],[]⟩ K
def Aly(Q:QQ):KK:=kE fun st=>finish 0 E0.T [.tmp 4] [] Q st
def Alz(Q:QQ):KK:=kF 0 (fun st=>Aq 12 E0.P Ug (Am 12 Tj).code (mask [1,2] st) (Aly Q)) fun st=>finish 0 E0.T [.tmp 4] [] Q st
def Al0(K:KK):KK:=kP [] K
def Al1(K:KK):KK:=kC 2 (fun st=>Aq 21 E0.P Ug (Am 21 Tj).code (mask [] st) (Al0 K)) K
theorem Ane(t1 t5:Int)(u0 u1 u2:Int)(u3:LB)(u4 u5:LL)(K:KK)(h:
 (Br (decide (t5<(↑u4.length:Int)))
 (Ag (((0:Int)≤t5∧t5<(↑u4.length:Int))∧
 Bg
 [.int .i64, .int .i64, .int .i64, .str, .sl 6 Aa,
 .sl 7 Ah]
 (u4.getD t5.toNat [])=
 true)
 (Call E0.P Ac4 [.imm (.agg [.int .i64 (gI (u4.getD t5.toNat []) 0), .int .i64 (gI (u4.getD t5.toNat []) 1), .int .i64 (gI (u4.getD t5.toNat []) 2), .str (gS (u4.getD t5.toNat []) 3), .sl .any 6 (gR (u4.getD t5.toNat []) 4), .sl .any 7 (gR (u4.getD t5.toNat []) 5)]),Ai (i64.wrap (t1 - (1:Int)))] [] fun r0 g0=>
 Ag (qV0 g0 r0)
 (Br (!rB r0)
 (K .ret ⟨[(4,Ab false)],[]⟩)
 (Ae3 t1 (i64.wrap (t5+(1:Int))) u0 u1 u2 u3 u4 u5 K))))
 (K (.exit 0) ⟨[(1,Ai t1),(2, .ptr nL2 0)],[(nL2, .blk Aa [Ai u0,Ai u1,Ai u2,As u3,Al 6 u4,Al 7 u5])]⟩))):Ae3 t1 t5 u0 u1 u2 u3 u4 u5 K:=lR [1,2,5] h
theorem Ayv(t1 u0:Int)(u1 u2:Int)(u3:LB)(u4 u5:LL)(K:KK)(h:
 (Ach t1 ((0:Int)) u0 u1 u2 u3 u4 u5 (Al1 K))):Aru t1 u0 u1 u2 u3 u4 u5 K:=cR [] h
theorem Ak8(t1 t6:Int)(u0 u1 u2:Int)(u3:LB)(u4 u5:LL)(K:KK)(h:
 (Br (decide (t6<(↑u5.length:Int)))
 (Ag (((0:Int)≤t6∧t6<(↑u5.length:Int))∧
 Bg
 [.str, .int .i64, .int .i64, .int .i64, .str, .sl 6 Aa,
 .sl 7 Ah]
 (u5.getD t6.toNat [])=
 true)
 (Call E0.P Ac4 [.imm (.agg [.int .i64 (gI (u5.getD t6.toNat []) 1), .int .i64 (gI (u5.getD t6.toNat []) 2), .int .i64 (gI (u5.getD t6.toNat []) 3), .str (gS (u5.getD t6.toNat []) 4), .sl .any 6 (gR (u5.getD t6.toNat []) 5), .sl .any 7 (gR (u5.getD t6.toNat []) 6)]),Ai (i64.wrap (t1 - (1:Int)))] [] fun r0 g0=>
 Ag (qV0 g0 r0)
 (Br (!rB r0)
 (K .ret ⟨[(4,Ab false)],[]⟩)
 (Ach t1 (i64.wrap (t6+(1:Int))) u0 u1 u2 u3 u4 u5 K))))
 (K (.exit (2)) ⟨[],[]⟩))):Ach t1 t6 u0 u1 u2 u3 u4 u5 K:=lR [1,2,6] h
theorem Ayw(K:KK)(h:
 (K .ret ⟨[(4,Ab true)],[]⟩)):Arv K:=cR [] h
theorem Am7(Q:QQ)(t4:Bool)(h:
 (Q (Ab t4) [])):Aly Q .ret ⟨[(4,Ab t4)],[]⟩:=kq h
theorem A1j(Q:QQ)(t4:Bool)(h:
 (Q (Ab t4) [])):Alz Q .ret ⟨[(4,Ab t4)],[]⟩:=kq h
theorem A1k(Q:QQ)(t1 u0:Int)(u1 u2:Int)(u3:LB)(u4 u5:LL)(h:
 (Aru t1 u0 u1 u2 u3 u4 u5 (Aly Q))):Alz Q (.exit 0) ⟨[(1,Ai t1),(2, .ptr nL2 0)],[(nL2, .blk Aa [Ai u0,Ai u1,Ai u2,As u3,Al 6 u4,Al 7 u5])]⟩:=kq h
theorem A1l(K:KK)(t4:Bool)(h:
 (K .ret ⟨[(4,Ab t4)],[]⟩)):Al0 K .ret ⟨[(4,Ab t4)],[]⟩:=kq h
theorem A1m(K:KK)(t4:Bool)(h:
 (K .ret ⟨[(4,Ab t4)],[]⟩)):Al1 K .ret ⟨[(4,Ab t4)],[]⟩:=kq h
theorem A1n(K:KK)(h:
 (Arv (Al0 K))):Al1 K (.exit (2)) ⟨[],[]⟩:=kq h
theorem Bcc:Be E0.P 24 Tj.code Ug [.tmp 4]:=fq Tryz.func24
theorem A56(a0_0 a0_1 a0_2:Int)(a0_3:LB)(a0_4 a0_5:LL)(a1:Int)(Q:QQ)(h:
 (Br (decide (a1<(0:Int)))
 (Q (Ab false) [])
 (Ae3 a1 ((0:Int)) a0_0 a0_1 a0_2 a0_3 a0_4 a0_5 (Alz Q)))):Call E0.P Ac4 [.imm (.agg [.int .i64 a0_0, .int .i64 a0_1, .int .i64 a0_2, .str a0_3, .sl .any 6 a0_4, .sl .any 7 a0_5]),Ai a1] [] Q:=fR 0 Bcc h
noncomputable def Jl:AC:=(A8 [(5,[1,2,5],[]),(7,[1,2],[]),(12,[1,2],[]),(14,[1,2,6],[]),(16,[],[]),(20,[1,2,6],[1,2,6]),(21,[],[])] [4] (codeOf Tryz.f25) 0).1
abbrev Jt:Nat:=54
def Zz(t1 t5:Int)(u0 u1 u2:Int)(u3:LB)(u4 u5:LL)(K:KK):Prop:=Bc 5 E0.P Jt (A9 5 Jl).code ⟨[(1,Ai t1),(2, .ptr nL2 0),(5,Ai t5)],[(nL2, .blk Aa [Ai u0,Ai u1,Ai u2,As u3,Al 6 u4,Al 7 u5])]⟩ K
def Amu(t1 u0:Int)(u1 u2:Int)(u3:LB)(u4 u5:LL)(K:KK):Prop:=Aq 12 E0.P Jt (Am 12 Jl).code ⟨[(1,Ai t1),(2, .ptr nL2 0)],[(nL2, .blk Aa [Ai u0,Ai u1,Ai u2,As u3,Al 6 u4,Al 7 u5])]⟩ K
def Xq(t1 t6:Int)(u0 u1 u2:Int)(u3:LB)(u4 u5:LL)(K:KK):Prop:=Bc 14 E0.P Jt (A9 14 Jl).code ⟨[(1,Ai t1),(2, .ptr nL2 0),(6,Ai t6)],[(nL2, .blk Aa [Ai u0,Ai u1,Ai u2,As u3,Al 6 u4,Al 7 u5])]⟩ K
def Adz(t1 t6:Int)(u0 u1 u2:Int)(u3:LB)(u4 u5:LL)(K:KK):Prop:=Aq 20 E0.P Jt (Am 20 Jl).code ⟨[(1,Ai t1),(2, .ptr nL2 0),(6,Ai t6)],[(nL2, .blk Aa [Ai u0,Ai u1,Ai u2,As u3,Al 6 u4,Al 7 u5])]⟩ K
def Amv(K:KK):Prop:=Aq 21 E0.P Jt (Am 21 Jl).code ⟨[],[]⟩ K
def Agj(Q:QQ):KK:=kE fun st=>finish 0 E0.T [.tmp 4] [] Q st
def Agk(Q:QQ):KK:=kF 0 (fun st=>Aq 12 E0.P Jt (Am 12 Jl).code (mask [1,2] st) (Agj Q)) fun st=>finish 0 E0.T [.tmp 4] [] Q st
def Agl(K:KK):KK:=kP [] K
def Agm(K:KK):KK:=kC 2 (fun st=>Aq 21 E0.P Jt (Am 21 Jl).code (mask [] st) (Agl K)) K
def Agn(K:KK):Ex→St→Prop
 | .normal,st=>Bc 14 E0.P Jt (A9 14 Jl).code (mask [1,2,6] st) K
 | .exit i,st=>K (.exit i) st
 | .goto i,st=>K (.goto i) st
 | .ret,st=>K .ret st
theorem Ajx(t1 t5:Int)(u0 u1 u2:Int)(u3:LB)(u4 u5:LL)(K:KK)(h:
 (Br (decide (t5<(↑u4.length:Int)))
 (Ag (((0:Int)≤t5∧t5<(↑u4.length:Int))∧
 Bg
 [.int .i64, .int .i64, .int .i64, .str, .sl 6 Aa,
 .sl 7 Ah]
 (u4.getD t5.toNat [])=
 true)
 (Call E0.P Rw [.imm (.agg [.int .i64 (gI (u4.getD t5.toNat []) 0), .int .i64 (gI (u4.getD t5.toNat []) 1), .int .i64 (gI (u4.getD t5.toNat []) 2), .str (gS (u4.getD t5.toNat []) 3), .sl .any 6 (gR (u4.getD t5.toNat []) 4), .sl .any 7 (gR (u4.getD t5.toNat []) 5)]),Ai t1] [] fun r0 g0=>
 Ag (qV0 g0 r0)
 (Br (!rB r0)
 (K .ret ⟨[(4,Ab false)],[]⟩)
 (Zz t1 (i64.wrap (t5+(1:Int))) u0 u1 u2 u3 u4 u5 K))))
 (K (.exit 0) ⟨[(1,Ai t1),(2, .ptr nL2 0)],[(nL2, .blk Aa [Ai u0,Ai u1,Ai u2,As u3,Al 6 u4,Al 7 u5])]⟩))):Zz t1 t5 u0 u1 u2 u3 u4 u5 K:=lR [1,2,5] h
theorem Au5(t1 u0:Int)(u1 u2:Int)(u3:LB)(u4 u5:LL)(K:KK)(h:
 (Xq t1 ((0:Int)) u0 u1 u2 u3 u4 u5 (Agm K))):Amu t1 u0 u1 u2 u3 u4 u5 K:=cR [] h
theorem Ahh(t1 t6:Int)(u0 u1 u2:Int)(u3:LB)(u4 u5:LL)(K:KK)(h:
 (Br (decide (t6<(↑u5.length:Int)))
 (Ag (((0:Int)≤t6∧t6<(↑u5.length:Int))∧
 Bg
 [.str, .int .i64, .int .i64, .int .i64, .str, .sl 6 Aa,
 .sl 7 Ah]
 (u5.getD t6.toNat [])=
 true)
 (Ag (decide (t1<(↑(gS (u5.getD t6.toNat []) (0:Nat)).length:Int))=false→
 ((0:Int)≤t6∧t6<(↑u5.length:Int))∧
 Bg
 [.str, .int .i64, .int .i64, .int .i64, .str, .sl 6 Aa,
 .sl 7 Ah]
 (u5.getD t6.toNat [])=
 true)
 (Br (decide (t1<(↑(gS (u5.getD t6.toNat []) (0:Nat)).length:Int)) == false)
 (Call E0.P Rw [.imm (.agg [.int .i64 (gI (u5.getD t6.toNat []) 1), .int .i64 (gI (u5.getD t6.toNat []) 2), .int .i64 (gI (u5.getD t6.toNat []) 3), .str (gS (u5.getD t6.toNat []) 4), .sl .any 6 (gR (u5.getD t6.toNat []) 5), .sl .any 7 (gR (u5.getD t6.toNat []) 6)]),Ai t1] [] fun r0 g0=>
 Ag (qV0 g0 r0)
 (Let (!rB r0) fun x1=>
 Br (x1)
 (K .ret ⟨[(4,Ab false)],[]⟩)
 (Adz t1 t6 u0 u1 u2 u3 u4 u5 (Agn K))))
 (Ag ((!false)=true)
 (Let (true) fun x2=>
 Br (x2)
 (K .ret ⟨[(4,Ab false)],[]⟩)
 (Adz t1 t6 u0 u1 u2 u3 u4 u5 (Agn K)))))))
 (K (.exit (2)) ⟨[],[]⟩))):Xq t1 t6 u0 u1 u2 u3 u4 u5 K:=lR [1,2,6] h
theorem Au6(t1 t6:Int)(u0 u1 u2:Int)(u3:LB)(u4 u5:LL)(K:KK)(h:
 (K .normal ⟨[(1,Ai t1),(2, .ptr nL2 0),(6,Ai (i64.wrap (t6+(1:Int))))],[(nL2, .blk Aa [Ai u0,Ai u1,Ai u2,As u3,Al 6 u4,Al 7 u5])]⟩)):Adz t1 t6 u0 u1 u2 u3 u4 u5 K:=cR [1,2,6] h
theorem Au7(K:KK)(h:
 (K .ret ⟨[(4,Ab true)],[]⟩)):Amv K:=cR [] h
theorem Ajk(Q:QQ)(t4:Bool)(h:
 (Q (Ab t4) [])):Agj Q .ret ⟨[(4,Ab t4)],[]⟩:=kq h
theorem Aw4(Q:QQ)(t4:Bool)(h:
 (Q (Ab t4) [])):Agk Q .ret ⟨[(4,Ab t4)],[]⟩:=kq h
theorem Aw5(Q:QQ)(t1 u0:Int)(u1 u2:Int)(u3:LB)(u4 u5:LL)(h:
 (Amu t1 u0 u1 u2 u3 u4 u5 (Agj Q))):Agk Q (.exit 0) ⟨[(1,Ai t1),(2, .ptr nL2 0)],[(nL2, .blk Aa [Ai u0,Ai u1,Ai u2,As u3,Al 6 u4,Al 7 u5])]⟩:=kq h
theorem Aw6(K:KK)(t4:Bool)(h:
 (K .ret ⟨[(4,Ab t4)],[]⟩)):Agl K .ret ⟨[(4,Ab t4)],[]⟩:=kq h
theorem Aw7(K:KK)(t4:Bool)(h:
 (K .ret ⟨[(4,Ab t4)],[]⟩)):Agm K .ret ⟨[(4,Ab t4)],[]⟩:=kq h
theorem Aw8(K:KK)(h:
 (Amv (Agl K))):Agm K (.exit (2)) ⟨[],[]⟩:=kq h
theorem Aw9(K:KK)(t1 t6:Int)(u0 u1 u2:Int)(u3:LB)(u4 u5:LL)(h:
 (Xq t1 t6 u0 u1 u2 u3 u4 u5 K)):Agn K .normal ⟨[(1,Ai t1),(2, .ptr nL2 0),(6,Ai t6)],[(nL2, .blk Aa [Ai u0,Ai u1,Ai u2,As u3,Al 6 u4,Al 7 u5])]⟩:=kq h
theorem A8i:Be E0.P 25 Jl.code Jt [.tmp 4]:=fq Tryz.func25
theorem A1a(a0_0 a0_1 a0_2:Int)(a0_3:LB)(a0_4 a0_5:LL)(a1:Int)(Q:QQ)(h:
 (Br (decide (a1<(↑a0_3.length:Int)))
 (Q (Ab false) [])
 (Zz a1 ((0:Int)) a0_0 a0_1 a0_2 a0_3 a0_4 a0_5 (Agk Q)))):Call E0.P Rw [.imm (.agg [.int .i64 a0_0, .int .i64 a0_1, .int .i64 a0_2, .str a0_3, .sl .any 6 a0_4, .sl .any 7 a0_5]),Ai a1] [] Q:=fR 0 A8i h
end
end Go.Proofs.Sim.Se

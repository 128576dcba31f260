import Derived.Test.YtaggabcajidnnaaGreatDoorSeatBase
set_option maxRecDepth 100000
set_option maxHeartbeats 4000000
namespace Go.Proofs.Sim.Se
open Go Go.Proofs Go.Proofs.Sim Go.IntKind
noncomputable section
abbrev qV0(G:Heap)(R:AV):Prop:=G=[]∧R= .imm (.bool (rB R))
abbrev qV1(G:Heap)(R:AV):Prop:=G=[]∧R= .imm (.int .i64 (rI R))
abbrev qV2(G:Heap)(R:AV):Prop:=G=[(Nm.arg 0,Entry.arr 1 true 7 (Cq G Af))]∧R= .tup []
abbrev qV3(G:Heap)(R:AV):Prop:=G=[]∧R= .imm (IV.agg [.int .i64 (gI (Ac R) 0), .int .i64 (gI (Ac R) 1), .int .i64 (gI (Ac R) 2), .str (gS (Ac R) 3), .sl SK.any 6 (gR (Ac R) 4), .sl SK.any 7 (gR (Ac R) 5)])
abbrev qV4(G:Heap)(R:AV):Prop:=G=[]∧R= .imm (.sl SK.any 7 (rR R))
noncomputable def Axe:AC:=(A7 [] [2] (codeOf Tryz.f78) 0).1
abbrev Axg:Nat:=6
theorem Axi:Bd E0.P 78 Axe.code Axg [.tmp 2]:=fq Tryz.func78
theorem Ar8(a0:LB)(Q:QQ)(h:
 (Q (Ab (!a0 == a0)) [])):Call E0.P Pt [As a0] [] Q:=fR 0 Axi h
noncomputable def Ass:AC:=(A7 [] [4] (codeOf Tryz.f50) 0).1
abbrev Atc:Nat:=20
theorem Atj:Bd E0.P 50 Ass.code Atc [.tmp 4]:=fq Tryz.func50
theorem Ao5(a0 a1:LB)(Q:QQ)(h:
 (Call E0.P Pt [As a0] [] fun r0 g0=>
 Ag (qV0 g0 r0)
 (Call E0.P Pt [As a1] [] fun r1 g1=>
 Ag (qV0 g1 r1)
 (Br (rB r0)
 (Br (rB r1)
 (Q (Ai 0) [])
 (Q (Ai (-1)) []))
 (Br (rB r1)
 (Q (Ai 1) [])
 (Br (Op.bytesLess a0 a1)
 (Q (Ai (-1)) [])
 (Br (!(Op.bytesLess a0 a1 || a0 == a1))
 (Q (Ai 1) [])
 (Q (Ai 0) [])))))))):Call E0.P M9 [As a0,As a1] [] Q:=fR 0 Atj h
noncomputable def Asx:AC:=(A7 [] [4] (codeOf Tryz.f49) 0).1
abbrev Atg:Nat:=10
theorem Ato:Bd E0.P 49 Asx.code Atg [.tmp 4]:=fq Tryz.func49
theorem Apa(a0_0:LB)(a0_1 a0_2 a0_3:Int)(a0_4:LB)(a0_5 a0_6:LL)(a1_0:LB)(a1_1 a1_2 a1_3:Int)(a1_4:LB)(a1_5 a1_6:LL)(Q:QQ)(h:
 (Call E0.P M9 [As a0_0,As a1_0] [] fun r0 g0=>
 Ag (qV1 g0 r0)
 (Q (Ai (rI r0)) []))):Call E0.P Ak [.imm (.agg [.str a0_0, .int .i64 a0_1, .int .i64 a0_2, .int .i64 a0_3, .str a0_4, .sl .any 6 a0_5, .sl .any 7 a0_6]), .imm (.agg [.str a1_0, .int .i64 a1_1, .int .i64 a1_2, .int .i64 a1_3, .str a1_4, .sl .any 6 a1_5, .sl .any 7 a1_6])] [] Q:=fR 0 Ato h
noncomputable def Asy:AC:=(A7 [] [4] (codeOf Tryz.f52) 0).1
abbrev Ath:Nat:=10
theorem Atp:Bd E0.P 52 Asy.code Ath [.tmp 4]:=fq Tryz.func52
theorem Apb(a0_0:LB)(a0_1 a0_2 a0_3:Int)(a0_4:LB)(a0_5 a0_6:LL)(a1_0:LB)(a1_1 a1_2 a1_3:Int)(a1_4:LB)(a1_5 a1_6:LL)(Q:QQ)(h:
 (Q (Ab (a0_0 == a1_0)) [])):Call E0.P Ca [.imm (.agg [.str a0_0, .int .i64 a0_1, .int .i64 a0_2, .int .i64 a0_3, .str a0_4, .sl .any 6 a0_5, .sl .any 7 a0_6]), .imm (.agg [.str a1_0, .int .i64 a1_1, .int .i64 a1_2, .int .i64 a1_3, .str a1_4, .sl .any 6 a1_5, .sl .any 7 a1_6])] [] Q:=fR 0 Atp h
noncomputable def A45:AC:=(A7 [] [4] (codeOf Tryz.f54) 0).1
abbrev A5p:Nat:=9
theorem A5x:Bd E0.P 54 A45.code A5p [.tmp 4]:=fq Tryz.func54
theorem Aya(a0_0:LB)(a0_1 a0_2 a0_3:Int)(a0_4:LB)(a0_5 a0_6:LL)(a1:LB)(Q:QQ)(h:
 (Call E0.P M9 [As a0_0,As a1] [] fun r0 g0=>
 Ag (qV1 g0 r0)
 (Q (Ai (rI r0)) []))):Call E0.P Dt [.imm (.agg [.str a0_0, .int .i64 a0_1, .int .i64 a0_2, .int .i64 a0_3, .str a0_4, .sl .any 6 a0_5, .sl .any 7 a0_6]),As a1] [] Q:=fR 0 A5x h
noncomputable def Bp:AC:=(A7 [(1,[0,1,2,3,8],[]),(3,[],[]),(6,[0,1,2,3,8,9],[]),(8,[0,1,2,3,8],[]),(9,[0,1,2,3,8,9],[0,1,2,3,8,9]),(11,[0,1,2,3,8],[0,1,2,3,8])] [] (codeOf Tryz.f109) 0).1
abbrev Bq:Nat:=53
def Eo(t1 t2 t8:Int)(u0:LL)(K:KK):Prop:=Ba 1 E0.P Bq (A9 1 Bp).code ⟨[(0, .own Af),(1,Ai t1),(2,Ai t2),(3, .fn Ak []),(8,Ai t8)],[(Af, .arr 1 true 7 u0)]⟩ K
def Ep(t1 t2:Int)(t8 t9:Int)(u0:LL)(K:KK):Prop:=Ba 6 E0.P Bq (A9 6 Bp).code ⟨[(0, .own Af),(1,Ai t1),(2,Ai t2),(3, .fn Ak []),(8,Ai t8),(9,Ai t9)],[(Af, .arr 1 true 7 u0)]⟩ K
def Ha(t1 t2:Int)(t8 t9:Int)(u0:LL)(K:KK):Prop:=Ao 9 E0.P Bq (Ah 9 Bp).code ⟨[(0, .own Af),(1,Ai t1),(2,Ai t2),(3, .fn Ak []),(8,Ai t8),(9,Ai t9)],[(Af, .arr 1 true 7 u0)]⟩ K
def Lm(t1 t2 t8:Int)(u0:LL)(K:KK):Prop:=Ao 11 E0.P Bq (Ah 11 Bp).code ⟨[(0, .own Af),(1,Ai t1),(2,Ai t2),(3, .fn Ak []),(8,Ai t8)],[(Af, .arr 1 true 7 u0)]⟩ K
def En(rows:LL)(Q:QQ):KK:=kF 0 (fun st=>finish (1) E0.T [] [(Af, .arr 1 true 7 rows)] Q st) fun st=>finish (1) E0.T [] [(Af, .arr 1 true 7 rows)] Q st
def Dc(K:KK):Ex→St→Prop
 | .normal,st=>Ba 1 E0.P Bq (A9 1 Bp).code (mask [0,1,2,3,8] st) K
 | .exit i,st=>K (.exit i) st
 | .goto i,st=>K (.goto i) st
 | .ret,st=>K .ret st
def He(K:KK):Ex→St→Prop
 | .normal,st=>Ao 11 E0.P Bq (Ah 11 Bp).code (mask [0,1,2,3,8] st) (Dc K)
 | .exit i,st=>(match (i.beq 2:Bool)with
 |true=>Ao 11 E0.P Bq (Ah 11 Bp).code (mask [0,1,2,3,8] st) (Dc K)
 |false=>(match (i.beq 1:Bool)with
 |true=>Ao 11 E0.P Bq (Ah 11 Bp).code (mask [0,1,2,3,8] st) (Dc K)
 |false=>K (.exit i) st))
 | .goto i,st=>K (.goto i) st
 | .ret,st=>K .ret st
def Hf(K:KK):Ex→St→Prop
 | .normal,st=>Ba 6 E0.P Bq (A9 6 Bp).code (mask [0,1,2,3,8,9] st) K
 | .exit i,st=>K (.exit i) st
 | .goto i,st=>K (.goto i) st
 | .ret,st=>K .ret st
theorem Gc(t1 t2 t8:Int)(u0:LL)(K:KK)(h:
 (Br (decide (t8<t2))
 (Ep t1 t2 t8 t8 u0 (He K))
 (K (.exit 0) ⟨[],[(Af, .arr 1 true 7 u0)]⟩))):Eo t1 t2 t8 u0 K:=lR [0,1,2,3,8] h
theorem Kg(t1 t2:Int)(t8 t9:Int)(u0:LL)(K:KK)(h:
 (Ag (decide (t1<t9)=true→(0:Int)≤t9∧t9<(↑u0.length:Int))
 (Ag (decide (t1<t9)=true→
 t9.toNat<u0.length∧
 Be
 [.str, .int .i64, .int .i64, .int .i64, .str, .sl 6 Aa,
 .sl 7 Ae]
 (List.take 7 (List.drop 0 (u0.getD t9.toNat [])))=
 true)
 (Ag (decide (t1<t9)=true→
 (0:Int)≤i64.wrap (t9 - (1:Int))∧i64.wrap (t9 - (1:Int))<(↑u0.length:Int))
 (Ag (decide (t1<t9)=true→
 (i64.wrap (t9 - (1:Int))).toNat<u0.length∧
 Be
 [.str, .int .i64, .int .i64, .int .i64, .str, .sl 6 Aa,
 .sl 7 Ae]
 (List.take 7 (List.drop 0 (u0.getD (i64.wrap (t9 - (1:Int))).toNat [])))=
 true)
 (Br (decide (t1<t9) == true)
 (Call E0.P Ak [.imm (.agg [.str (gS (List.take 7 (List.drop 0 (u0.getD t9.toNat []))) 0), .int .i64 (gI (List.take 7 (List.drop 0 (u0.getD t9.toNat []))) 1), .int .i64 (gI (List.take 7 (List.drop 0 (u0.getD t9.toNat []))) 2), .int .i64 (gI (List.take 7 (List.drop 0 (u0.getD t9.toNat []))) 3), .str (gS (List.take 7 (List.drop 0 (u0.getD t9.toNat []))) 4), .sl .any 6 (gR (List.take 7 (List.drop 0 (u0.getD t9.toNat []))) 5), .sl .any 7 (gR (List.take 7 (List.drop 0 (u0.getD t9.toNat []))) 6)]), .imm (.agg [.str (gS (List.take 7 (List.drop 0 (u0.getD (i64.wrap (t9 - (1:Int))).toNat []))) 0), .int .i64 (gI (List.take 7 (List.drop 0 (u0.getD (i64.wrap (t9 - (1:Int))).toNat []))) 1), .int .i64 (gI (List.take 7 (List.drop 0 (u0.getD (i64.wrap (t9 - (1:Int))).toNat []))) 2), .int .i64 (gI (List.take 7 (List.drop 0 (u0.getD (i64.wrap (t9 - (1:Int))).toNat []))) 3), .str (gS (List.take 7 (List.drop 0 (u0.getD (i64.wrap (t9 - (1:Int))).toNat []))) 4), .sl .any 6 (gR (List.take 7 (List.drop 0 (u0.getD (i64.wrap (t9 - (1:Int))).toNat []))) 5), .sl .any 7 (gR (List.take 7 (List.drop 0 (u0.getD (i64.wrap (t9 - (1:Int))).toNat []))) 6)])] [] fun r0 g0=>
 Ag (qV1 g0 r0)
 (Let (decide (rI r0<(0:Int))) fun x1=>
 Br (x1)
 (Ha t1 t2 t8 t9 u0 (Hf K))
 (K (.exit (2)) ⟨[(0, .own Af),(1,Ai t1),(2,Ai t2),(3, .fn Ak []),(8,Ai t8)],[(Af, .arr 1 true 7 u0)]⟩)))
 (Ag ((!true)=false)
 (Let (false) fun x2=>
 Br (x2)
 (Ha t1 t2 t8 t9 u0 (Hf K))
 (K (.exit (2)) ⟨[(0, .own Af),(1,Ai t1),(2,Ai t2),(3, .fn Ak []),(8,Ai t8)],[(Af, .arr 1 true 7 u0)]⟩))))))))):Ep t1 t2 t8 t9 u0 K:=lR [0,1,2,3,8,9] h
theorem Vm(t1 t2:Int)(t8 t9:Int)(u0:LL)(K:KK)(h:
 (Ag ((0:Int)≤i64.wrap (t9 - (1:Int))∧i64.wrap (t9 - (1:Int))<(↑u0.length:Int))
 (Ag ((i64.wrap (t9 - (1:Int))).toNat<u0.length∧
 Be
 [.str, .int .i64, .int .i64, .int .i64, .str, .sl 6 Aa,
 .sl 7 Ae]
 (List.take 7 (List.drop 0 (u0.getD (i64.wrap (t9 - (1:Int))).toNat [])))=
 true)
 (Ag ((0:Int)≤t9∧t9<(↑u0.length:Int))
 (Ag (t9.toNat<u0.length∧
 Be
 [.str, .int .i64, .int .i64, .int .i64, .str, .sl 6 Aa,
 .sl 7 Ae]
 (List.take 7 (List.drop 0 (u0.getD t9.toNat [])))=
 true)
 (Ag ((0:Int)≤t9∧t9<(↑u0.length:Int))
 (Ag (t9.toNat<u0.length)
 (Ag ((0:Int)≤i64.wrap (t9 - (1:Int))∧
 i64.wrap (t9 - (1:Int))<
 (↑(u0.set t9.toNat
 [.str
 (gS (List.take (7:Nat) (List.drop (0:Nat) (u0.getD (i64.wrap (t9 - (1:Int))).toNat [])))
 (0:Nat)),
 .int .i64
 (gI (List.take (7:Nat) (List.drop (0:Nat) (u0.getD (i64.wrap (t9 - (1:Int))).toNat [])))
 (1:Nat)),
 .int .i64
 (gI (List.take (7:Nat) (List.drop (0:Nat) (u0.getD (i64.wrap (t9 - (1:Int))).toNat [])))
 (2:Nat)),
 .int .i64
 (gI (List.take (7:Nat) (List.drop (0:Nat) (u0.getD (i64.wrap (t9 - (1:Int))).toNat [])))
 (3:Nat)),
 .str
 (gS (List.take (7:Nat) (List.drop (0:Nat) (u0.getD (i64.wrap (t9 - (1:Int))).toNat [])))
 (4:Nat)),
 .sl SK.any (6:Nat)
 (gR (List.take (7:Nat) (List.drop (0:Nat) (u0.getD (i64.wrap (t9 - (1:Int))).toNat [])))
 (5:Nat)),
 .sl SK.any (7:Nat)
 (gR (List.take (7:Nat) (List.drop (0:Nat) (u0.getD (i64.wrap (t9 - (1:Int))).toNat [])))
 (6:Nat))]).length:
 Int))
 (Ag ((i64.wrap (t9 - (1:Int))).toNat<
 (u0.set t9.toNat
 [.str
 (gS (List.take 7 (List.drop 0 (u0.getD (i64.wrap (t9 - (1:Int))).toNat [])))
 0),
 .int .i64
 (gI (List.take 7 (List.drop 0 (u0.getD (i64.wrap (t9 - (1:Int))).toNat [])))
 1),
 .int .i64
 (gI (List.take 7 (List.drop 0 (u0.getD (i64.wrap (t9 - (1:Int))).toNat [])))
 2),
 .int .i64
 (gI (List.take 7 (List.drop 0 (u0.getD (i64.wrap (t9 - (1:Int))).toNat [])))
 3),
 .str
 (gS (List.take 7 (List.drop 0 (u0.getD (i64.wrap (t9 - (1:Int))).toNat [])))
 4),
 .sl SK.any 6
 (gR (List.take 7 (List.drop 0 (u0.getD (i64.wrap (t9 - (1:Int))).toNat [])))
 5),
 .sl SK.any 7
 (gR (List.take 7 (List.drop 0 (u0.getD (i64.wrap (t9 - (1:Int))).toNat [])))
 6)]).length)
 (K .normal ⟨[(0, .own Af),(1,Ai t1),(2,Ai t2),(3, .fn Ak []),(8,Ai t8),(9,Ai (i64.wrap (t9 - (1:Int))))],[(Af, .arr 1 true 7 ((u0.set t9.toNat
 [.str
 (gS (List.take 7 (List.drop 0 (u0.getD (i64.wrap (t9 - (1:Int))).toNat [])))
 0),
 .int .i64
 (gI (List.take 7 (List.drop 0 (u0.getD (i64.wrap (t9 - (1:Int))).toNat [])))
 1),
 .int .i64
 (gI (List.take 7 (List.drop 0 (u0.getD (i64.wrap (t9 - (1:Int))).toNat [])))
 2),
 .int .i64
 (gI (List.take 7 (List.drop 0 (u0.getD (i64.wrap (t9 - (1:Int))).toNat [])))
 3),
 .str
 (gS (List.take 7 (List.drop 0 (u0.getD (i64.wrap (t9 - (1:Int))).toNat [])))
 4),
 .sl SK.any 6
 (gR (List.take 7 (List.drop 0 (u0.getD (i64.wrap (t9 - (1:Int))).toNat [])))
 5),
 .sl SK.any 7
 (gR (List.take 7 (List.drop 0 (u0.getD (i64.wrap (t9 - (1:Int))).toNat [])))
 6)]).set
 (i64.wrap (t9 - (1:Int))).toNat
 [.str (gS (List.take 7 (List.drop 0 (u0.getD t9.toNat []))) 0),
 .int .i64 (gI (List.take 7 (List.drop 0 (u0.getD t9.toNat []))) 1),
 .int .i64 (gI (List.take 7 (List.drop 0 (u0.getD t9.toNat []))) 2),
 .int .i64 (gI (List.take 7 (List.drop 0 (u0.getD t9.toNat []))) 3),
 .str (gS (List.take 7 (List.drop 0 (u0.getD t9.toNat []))) 4),
 .sl SK.any 6 (gR (List.take 7 (List.drop 0 (u0.getD t9.toNat []))) 5),
 .sl SK.any 7 (gR (List.take 7 (List.drop 0 (u0.getD t9.toNat []))) 6)]))]⟩)))))))))):Ha t1 t2 t8 t9 u0 K:=cR [0,1,2,3,8,9] h
theorem Ug(t1 t2 t8:Int)(u0:LL)(K:KK)(h:
 (K .normal ⟨[(0, .own Af),(1,Ai t1),(2,Ai t2),(3, .fn Ak []),(8,Ai (i64.wrap (t8+(1:Int))))],[(Af, .arr 1 true 7 u0)]⟩)):Lm t1 t2 t8 u0 K:=cR [0,1,2,3,8] h
theorem Ke(rows:LL)(Q:QQ)(u0:LL)(h:
 (Q (.tup []) [(Af, .arr 1 true 7 u0)])):En rows Q (.exit 0) ⟨[],[(Af, .arr 1 true 7 u0)]⟩:=kq h
theorem Vo(K:KK)(t1 t2 t8:Int)(u0:LL)(h:
 (Eo t1 t2 t8 u0 K)):Dc K .normal ⟨[(0, .own Af),(1,Ai t1),(2,Ai t2),(3, .fn Ak []),(8,Ai t8)],[(Af, .arr 1 true 7 u0)]⟩:=kq h
theorem Vp(K:KK)(t1 t2 t8:Int)(u0:LL)(h:
 (Lm t1 t2 t8 u0 (Dc K))):He K (.exit (2)) ⟨[(0, .own Af),(1,Ai t1),(2,Ai t2),(3, .fn Ak []),(8,Ai t8)],[(Af, .arr 1 true 7 u0)]⟩:=kq h
theorem Vq(K:KK)(t1 t2:Int)(t8 t9:Int)(u0:LL)(h:
 (Ep t1 t2 t8 t9 u0 K)):Hf K .normal ⟨[(0, .own Af),(1,Ai t1),(2,Ai t2),(3, .fn Ak []),(8,Ai t8),(9,Ai t9)],[(Af, .arr 1 true 7 u0)]⟩:=kq h
theorem Zx:Bd E0.P 109 Bp.code Bq []:=fq Tryz.func109
theorem Xo(rows:LL)(a1 a2:Int)(Q:QQ)(h:
 (Eo a1 a2 (i64.wrap (a1+(1:Int))) rows (En rows Q))):Call E0.P Ey [.own (.arg 0),Ai a1,Ai a2, .fn Ak []] [(.arg 0, .arr 1 true 7 rows)] Q:=fR 1 Zx h
noncomputable def P9:AC:=(A7 [(1,[0,1,2,3,10],[]),(3,[],[])] [] (codeOf Tryz.f156) 0).1
abbrev Qb:Nat:=38
def F5(t1 t2:Int)(t3 t10:Int)(u0:LL)(K:KK):Prop:=Ba 1 E0.P Qb (A9 1 P9).code ⟨[(0, .own Af),(1,Ai t1),(2,Ai t2),(3,Ai t3),(10,Ai t10)],[(Af, .arr 1 true 7 u0)]⟩ K
def O5(rows:LL)(Q:QQ):KK:=kF 0 (fun st=>finish (1) E0.T [] [(Af, .arr 1 true 7 rows)] Q st) fun st=>finish (1) E0.T [] [(Af, .arr 1 true 7 rows)] Q st
theorem M0(t1 t2:Int)(t3 t10:Int)(u0:LL)(K:KK)(h:
 (Br (decide (t10<t3))
 (Ag ((0:Int)≤i64.wrap (t2+t10)∧i64.wrap (t2+t10)<(↑u0.length:Int))
 (Ag ((i64.wrap (t2+t10)).toNat<u0.length∧
 Be
 [.str, .int .i64, .int .i64, .int .i64, .str, .sl 6 Aa,
 .sl 7 Ae]
 (List.take 7 (List.drop 0 (u0.getD (i64.wrap (t2+t10)).toNat [])))=
 true)
 (Ag ((0:Int)≤i64.wrap (t1+t10)∧i64.wrap (t1+t10)<(↑u0.length:Int))
 (Ag ((i64.wrap (t1+t10)).toNat<u0.length∧
 Be
 [.str, .int .i64, .int .i64, .int .i64, .str, .sl 6 Aa,
 .sl 7 Ae]
 (List.take 7 (List.drop 0 (u0.getD (i64.wrap (t1+t10)).toNat [])))=
 true)
 (Ag ((0:Int)≤i64.wrap (t1+t10)∧i64.wrap (t1+t10)<(↑u0.length:Int))
 (Ag ((i64.wrap (t1+t10)).toNat<u0.length)
 (Ag ((0:Int)≤i64.wrap (t2+t10)∧
 i64.wrap (t2+t10)<
 (↑(u0.set (i64.wrap (t1+t10)).toNat
 [.str
 (gS (List.take (7:Nat) (List.drop (0:Nat) (u0.getD (i64.wrap (t2+t10)).toNat [])))
 (0:Nat)),
 .int .i64
 (gI (List.take (7:Nat) (List.drop (0:Nat) (u0.getD (i64.wrap (t2+t10)).toNat [])))
 (1:Nat)),
 .int .i64
 (gI (List.take (7:Nat) (List.drop (0:Nat) (u0.getD (i64.wrap (t2+t10)).toNat [])))
 (2:Nat)),
 .int .i64
 (gI (List.take (7:Nat) (List.drop (0:Nat) (u0.getD (i64.wrap (t2+t10)).toNat [])))
 (3:Nat)),
 .str
 (gS (List.take (7:Nat) (List.drop (0:Nat) (u0.getD (i64.wrap (t2+t10)).toNat [])))
 (4:Nat)),
 .sl SK.any (6:Nat)
 (gR (List.take (7:Nat) (List.drop (0:Nat) (u0.getD (i64.wrap (t2+t10)).toNat [])))
 (5:Nat)),
 .sl SK.any (7:Nat)
 (gR (List.take (7:Nat) (List.drop (0:Nat) (u0.getD (i64.wrap (t2+t10)).toNat [])))
 (6:Nat))]).length:
 Int))
 (Ag ((i64.wrap (t2+t10)).toNat<
 (u0.set (i64.wrap (t1+t10)).toNat
 [.str
 (gS (List.take 7 (List.drop 0 (u0.getD (i64.wrap (t2+t10)).toNat []))) 0),
 .int .i64
 (gI (List.take 7 (List.drop 0 (u0.getD (i64.wrap (t2+t10)).toNat []))) 1),
 .int .i64
 (gI (List.take 7 (List.drop 0 (u0.getD (i64.wrap (t2+t10)).toNat []))) 2),
 .int .i64
 (gI (List.take 7 (List.drop 0 (u0.getD (i64.wrap (t2+t10)).toNat []))) 3),
 .str
 (gS (List.take 7 (List.drop 0 (u0.getD (i64.wrap (t2+t10)).toNat []))) 4),
 .sl SK.any 6
 (gR (List.take 7 (List.drop 0 (u0.getD (i64.wrap (t2+t10)).toNat []))) 5),
 .sl SK.any 7
 (gR (List.take 7 (List.drop 0 (u0.getD (i64.wrap (t2+t10)).toNat [])))
 6)]).length)
 (F5 t1 t2 t3 (i64.wrap (t10+(1:Int))) ((u0.set (i64.wrap (t1+t10)).toNat
 [.str
 (gS (List.take 7 (List.drop 0 (u0.getD (i64.wrap (t2+t10)).toNat []))) 0),
 .int .i64
 (gI (List.take 7 (List.drop 0 (u0.getD (i64.wrap (t2+t10)).toNat []))) 1),
 .int .i64
 (gI (List.take 7 (List.drop 0 (u0.getD (i64.wrap (t2+t10)).toNat []))) 2),
 .int .i64
 (gI (List.take 7 (List.drop 0 (u0.getD (i64.wrap (t2+t10)).toNat []))) 3),
 .str
 (gS (List.take 7 (List.drop 0 (u0.getD (i64.wrap (t2+t10)).toNat []))) 4),
 .sl SK.any 6
 (gR (List.take 7 (List.drop 0 (u0.getD (i64.wrap (t2+t10)).toNat []))) 5),
 .sl SK.any 7
 (gR (List.take 7 (List.drop 0 (u0.getD (i64.wrap (t2+t10)).toNat [])))
 6)]).set
 (i64.wrap (t2+t10)).toNat
 [.str (gS (List.take 7 (List.drop 0 (u0.getD (i64.wrap (t1+t10)).toNat []))) 0),
 .int .i64
 (gI (List.take 7 (List.drop 0 (u0.getD (i64.wrap (t1+t10)).toNat []))) 1),
 .int .i64
 (gI (List.take 7 (List.drop 0 (u0.getD (i64.wrap (t1+t10)).toNat []))) 2),
 .int .i64
 (gI (List.take 7 (List.drop 0 (u0.getD (i64.wrap (t1+t10)).toNat []))) 3),
 .str (gS (List.take 7 (List.drop 0 (u0.getD (i64.wrap (t1+t10)).toNat []))) 4),
 .sl SK.any 6
 (gR (List.take 7 (List.drop 0 (u0.getD (i64.wrap (t1+t10)).toNat []))) 5),
 .sl SK.any 7
 (gR (List.take 7 (List.drop 0 (u0.getD (i64.wrap (t1+t10)).toNat []))) 6)]) K)))))))))
 (K (.exit 0) ⟨[],[(Af, .arr 1 true 7 u0)]⟩))):F5 t1 t2 t3 t10 u0 K:=lR [0,1,2,3,10] h
theorem Y5(rows:LL)(Q:QQ)(u0:LL)(h:
 (Q (.tup []) [(Af, .arr 1 true 7 u0)])):O5 rows Q (.exit 0) ⟨[],[(Af, .arr 1 true 7 u0)]⟩:=kq h
theorem Adq:Bd E0.P 156 P9.code Qb []:=fq Tryz.func156
theorem Aa2(rows:LL)(a1 a2 a3:Int)(Q:QQ)(h:
 (F5 a1 a2 a3 ((0:Int)) rows (O5 rows Q))):Call E0.P Ei [.own (.arg 0),Ai a1,Ai a2,Ai a3, .fn Ak []] [(.arg 0, .arr 1 true 7 rows)] Q:=fR 1 Adq h
noncomputable def Hw:AC:=(A7 [(2,[0,2,4,10,11],[]),(4,[0,2,4,10],[]),(9,[0,2,4,10],[])] [] (codeOf Tryz.f141) 0).1
abbrev Hy:Nat:=58
def E9(t2 t10 t11:Int)(u0:LL)(K:KK):Prop:=Ba 2 E0.P Hy (A9 2 Hw).code ⟨[(0, .own Af),(2,Ai t2),(4, .fn Ak []),(10,Ai t10),(11,Ai t11)],[(Af, .arr 1 true 7 u0)]⟩ K
def R3(t2 t10:Int)(u0:LL)(K:KK):Prop:=Ao 9 E0.P Hy (Ah 9 Hw).code ⟨[(0, .own Af),(2,Ai t2),(4, .fn Ak []),(10,Ai t10)],[(Af, .arr 1 true 7 u0)]⟩ K
def Kn(rows:LL)(Q:QQ):KK:=kE fun st=>finish (1) E0.T [] [(Af, .arr 1 true 7 rows)] Q st
def Ko(rows:LL)(Q:QQ):KK:=kF 0 (fun st=>Ao 9 E0.P Hy (Ah 9 Hw).code (mask [0,2,4,10] st) (Kn rows Q)) fun st=>finish (1) E0.T [] [(Af, .arr 1 true 7 rows)] Q st
theorem Ac0(t2 t10 t11:Int)(u0:LL)(K:KK)(h:
 (Br (!decide (t10=t11))
 (Br (decide (t11<t10))
 (Call E0.P Ei [.own Af,Ai (i64.wrap (t2 - t10)),Ai t2,Ai t11, .fn Ak []] [(Af, .arr 1 true 7 u0)] fun r0 g0=>
 Ag (qV2 g0 r0)
 (E9 t2 (i64.wrap (t10 - t11)) t11 (Cq g0 Af) K))
 (Call E0.P Ei [.own Af,Ai (i64.wrap (t2 - t10)),Ai (i64.wrap (i64.wrap (t2+t11) - t10)),Ai t10, .fn Ak []] [(Af, .arr 1 true 7 u0)] fun r1 g1=>
 Ag (qV2 g1 r1)
 (E9 t2 t10 (i64.wrap (t11 - t10)) (Cq g1 Af) K)))
 (K (.exit 0) ⟨[(0, .own Af),(2,Ai t2),(4, .fn Ak []),(10,Ai t10)],[(Af, .arr 1 true 7 u0)]⟩))):E9 t2 t10 t11 u0 K:=lR [0,2,4,10,11] h
theorem Acf(t2 t10:Int)(u0:LL)(K:KK)(h:
 (Call E0.P Ei [.own Af,Ai (i64.wrap (t2 - t10)),Ai t2,Ai t10, .fn Ak []] [(Af, .arr 1 true 7 u0)] fun r0 g0=>
 Ag (qV2 g0 r0)
 (K .normal ⟨[],[(Af, .arr 1 true 7 (Cq g0 Af))]⟩))):R3 t2 t10 u0 K:=cR [] h
theorem Acp(rows:LL)(Q:QQ)(u0:LL)(h:
 (Q (.tup []) [(Af, .arr 1 true 7 u0)])):Kn rows Q .normal ⟨[],[(Af, .arr 1 true 7 u0)]⟩:=kq h
theorem Acr(rows:LL)(Q:QQ)(t2 t10:Int)(u0:LL)(h:
 (R3 t2 t10 u0 (Kn rows Q))):Ko rows Q (.exit 0) ⟨[(0, .own Af),(2,Ai t2),(4, .fn Ak []),(10,Ai t10)],[(Af, .arr 1 true 7 u0)]⟩:=kq h
theorem Ahi:Bd E0.P 141 Hw.code Hy []:=fq Tryz.func141
theorem Ady(rows:LL)(a1 a2 a3:Int)(Q:QQ)(h:
 (E9 a2 (i64.wrap (a2 - a1)) (i64.wrap (a3 - a2)) rows (Ko rows Q))):Call E0.P Le [.own (.arg 0),Ai a1,Ai a2,Ai a3, .fn Ak []] [(.arg 0, .arr 1 true 7 rows)] Q:=fR 1 Ahi h
noncomputable def Az:AC:=(A7 [(3,[0,1,4,10,11],[]),(5,[0,1,10],[]),(9,[0,1,10],[0,1,2,3,4]),(11,[0,10,13],[]),(13,[],[]),(16,[],[0,1,2,3,4]),(17,[0,1,2,3,4],[]),(21,[0,2,4,14,15],[]),(23,[0,2,14],[]),(27,[0,2,14],[0,1,2,3,4]),(29,[0,14,17],[]),(31,[],[]),(34,[],[0,1,2,3,4]),(35,[0,1,2,3,4],[]),(42,[0,1,2,3,4,18,19,20,21],[]),(44,[0,1,2,3,4,18,19,20,21,22],[]),(46,[0,1,2,3,4,18,19,20],[]),(50,[0,1,2,3,4,18,19,20],[]),(53,[0,1,3,4,18,20,24],[]),(55,[0,3,4,18,24],[])] [] (codeOf Tryz.f110) 0).1
abbrev A8:Nat:=220
def Eh(t1 t10 t11:Int)(u0:LL)(K:KK):Prop:=Ba 3 E0.P A8 (A9 3 Az).code ⟨[(0, .own Af),(1,Ai t1),(4, .fn Ak []),(10,Ai t10),(11,Ai t11)],[(Af, .arr 1 true 7 u0)]⟩ K
def Ov(t1 t2 t3:Int)(u0:LL)(K:KK):Prop:=Ao 17 E0.P A8 (Ah 17 Az).code ⟨[(0, .own Af),(1,Ai t1),(2,Ai t2),(3,Ai t3),(4, .fn Ak [])],[(Af, .arr 1 true 7 u0)]⟩ K
def Ec(t2 t14 t15:Int)(u0:LL)(K:KK):Prop:=Ba 21 E0.P A8 (A9 21 Az).code ⟨[(0, .own Af),(2,Ai t2),(4, .fn Ak []),(14,Ai t14),(15,Ai t15)],[(Af, .arr 1 true 7 u0)]⟩ K
def Oy(t1 t2 t3:Int)(u0:LL)(K:KK):Prop:=Ao 35 E0.P A8 (Ah 35 Az).code ⟨[(0, .own Af),(1,Ai t1),(2,Ai t2),(3,Ai t3),(4, .fn Ak [])],[(Af, .arr 1 true 7 u0)]⟩ K
def Iq(t1 t2:Int)(t3 t18:Int)(t19 t20 t21:Int)(u0:LL)(K:KK):Prop:=Ao 42 E0.P A8 (Ah 42 Az).code ⟨[(0, .own Af),(1,Ai t1),(2,Ai t2),(3,Ai t3),(4, .fn Ak []),(18,Ai t18),(19,Ai t19),(20,Ai t20),(21,Ai t21)],[(Af, .arr 1 true 7 u0)]⟩ K
def Cz(t1 t2:Int)(t3 t18:Int)(t19 t20:Int)(t21 t22:Int)(u0:LL)(K:KK):Prop:=Ba 44 E0.P A8 (A9 44 Az).code ⟨[(0, .own Af),(1,Ai t1),(2,Ai t2),(3,Ai t3),(4, .fn Ak []),(18,Ai t18),(19,Ai t19),(20,Ai t20),(21,Ai t21),(22,Ai t22)],[(Af, .arr 1 true 7 u0)]⟩ K
def Py(t1 t10:Int)(u0:LL)(K:KK):Prop:=Ao 9 E0.P A8 (Ah 9 Az).code ⟨[(0, .own Af),(1,Ai t1),(10,Ai t10)],[(Af, .arr 1 true 7 u0)]⟩ K
def Ow(t2 t14:Int)(u0:LL)(K:KK):Prop:=Ao 27 E0.P A8 (Ah 27 Az).code ⟨[(0, .own Af),(2,Ai t2),(14,Ai t14)],[(Af, .arr 1 true 7 u0)]⟩ K
def Fz(t1 t2:Int)(t3 t18:Int)(t19 t20:Int)(u0:LL)(K:KK):Prop:=Ao 50 E0.P A8 (Ah 50 Az).code ⟨[(0, .own Af),(1,Ai t1),(2,Ai t2),(3,Ai t3),(4, .fn Ak []),(18,Ai t18),(19,Ai t19),(20,Ai t20)],[(Af, .arr 1 true 7 u0)]⟩ K
def F6(t10 t13:Int)(u0:LL)(K:KK):Prop:=Ba 11 E0.P A8 (A9 11 Az).code ⟨[(0, .own Af),(10,Ai t10),(13,Ai t13)],[(Af, .arr 1 true 7 u0)]⟩ K
def F7(t14 t17:Int)(u0:LL)(K:KK):Prop:=Ba 29 E0.P A8 (A9 29 Az).code ⟨[(0, .own Af),(14,Ai t14),(17,Ai t17)],[(Af, .arr 1 true 7 u0)]⟩ K
def F3(t1 t3:Int)(t18 t20 t24:Int)(u0:LL)(K:KK):Prop:=Ao 53 E0.P A8 (Ah 53 Az).code ⟨[(0, .own Af),(1,Ai t1),(3,Ai t3),(4, .fn Ak []),(18,Ai t18),(20,Ai t20),(24,Ai t24)],[(Af, .arr 1 true 7 u0)]⟩ K
def F4(t3 t18 t24:Int)(u0:LL)(K:KK):Prop:=Ao 55 E0.P A8 (Ah 55 Az).code ⟨[(0, .own Af),(3,Ai t3),(4, .fn Ak []),(18,Ai t18),(24,Ai t24)],[(Af, .arr 1 true 7 u0)]⟩ K
def Ou(u0:LL)(K:KK):Prop:=Ao 16 E0.P A8 (Ah 16 Az).code ⟨[],[(Af, .arr 1 true 7 u0)]⟩ K
def Ox(u0:LL)(K:KK):Prop:=Ao 34 E0.P A8 (Ah 34 Az).code ⟨[],[(Af, .arr 1 true 7 u0)]⟩ K
def Ef(rows:LL)(Q:QQ):KK:=kE fun st=>finish (1) E0.T [] [(Af, .arr 1 true 7 rows)] Q st
def Jd(rows:LL)(Q:QQ):Ex→St→Prop
 | .normal,st=>Ao 17 E0.P A8 (Ah 17 Az).code (mask [0,1,2,3,4] st) (Ef rows Q)
 | .exit _,_=>False
 | .goto _,_=>False
 | .ret,st=>finish (1) E0.T [] [(Af, .arr 1 true 7 rows)] Q st
def Pz(rows:LL)(Q:QQ):KK:=kF 0 (fun st=>Ao 9 E0.P A8 (Ah 9 Az).code (mask [0,1,10] st) (Jd rows Q)) fun st=>finish (1) E0.T [] [(Af, .arr 1 true 7 rows)] Q st
def Bg(K:KK):KK:=kP [] K
def Je(K:KK):Ex→St→Prop
 | .normal,st=>Ao 35 E0.P A8 (Ah 35 Az).code (mask [0,1,2,3,4] st) (Bg K)
 | .exit i,st=>K (.exit i) st
 | .goto i,st=>K (.goto i) st
 | .ret,st=>K .ret st
def P5(K:KK):KK:=kC 4 (fun st=>Ao 27 E0.P A8 (Ah 27 Az).code (mask [0,2,14] st) (Je K)) K
def Jf(K:KK):KK:=kC 8 (fun st=>Ao 50 E0.P A8 (Ah 50 Az).code (mask [0,1,2,3,4,18,19,20] st) (Bg K)) K
def Eg(K:KK):KK:=kP [0,1,2,3,4] K
def P6(K:KK):KK:=kC 2 (fun st=>Ao 16 E0.P A8 (Ah 16 Az).code (mask [] st) (Eg K)) K
def P7(K:KK):KK:=kC 6 (fun st=>Ao 34 E0.P A8 (Ah 34 Az).code (mask [] st) (Eg K)) K
theorem Nu(t1 t10 t11:Int)(u0:LL)(K:KK)(h:
 (Br (decide (t10<t11))
 (Ag ((0:Int)≤(1:Int))
 (Ag ((0:Int)≤i64.wrap ((IntKind.u64.wrap (i64.wrap (t10+t11))).fdiv ((2:Int) ^ 1))∧
 i64.wrap ((IntKind.u64.wrap (i64.wrap (t10+t11))).fdiv ((2:Int) ^ 1))<
 (↑u0.length:Int))
 (Ag ((i64.wrap ((IntKind.u64.wrap (i64.wrap (t10+t11))).fdiv ((2:Int) ^ 1))).toNat<u0.length∧
 Be
 [.str, .int .i64, .int .i64, .int .i64, .str, .sl 6 Aa,
 .sl 7 Ae]
 (List.take 7
 (List.drop 0
 (u0.getD
 (i64.wrap ((IntKind.u64.wrap (i64.wrap (t10+t11))).fdiv ((2:Int) ^ 1))).toNat
 [])))=
 true)
 (Ag ((0:Int)≤t1∧t1<(↑u0.length:Int))
 (Ag (t1.toNat<u0.length∧
 Be
 [.str, .int .i64, .int .i64, .int .i64, .str, .sl 6 Aa,
 .sl 7 Ae]
 (List.take 7 (List.drop 0 (u0.getD t1.toNat [])))=
 true)
 (Call E0.P Ak [.imm (.agg [.str (gS
 (List.take 7
 (List.drop 0
 (u0.getD
 (i64.wrap ((IntKind.u64.wrap (i64.wrap (t10+t11))).fdiv ((2:Int) ^ 1))).toNat [])))
 0), .int .i64 (gI
 (List.take 7
 (List.drop 0
 (u0.getD
 (i64.wrap ((IntKind.u64.wrap (i64.wrap (t10+t11))).fdiv ((2:Int) ^ 1))).toNat [])))
 1), .int .i64 (gI
 (List.take 7
 (List.drop 0
 (u0.getD
 (i64.wrap ((IntKind.u64.wrap (i64.wrap (t10+t11))).fdiv ((2:Int) ^ 1))).toNat [])))
 2), .int .i64 (gI
 (List.take 7
 (List.drop 0
 (u0.getD
 (i64.wrap ((IntKind.u64.wrap (i64.wrap (t10+t11))).fdiv ((2:Int) ^ 1))).toNat [])))
 3), .str (gS
 (List.take 7
 (List.drop 0
 (u0.getD
 (i64.wrap ((IntKind.u64.wrap (i64.wrap (t10+t11))).fdiv ((2:Int) ^ 1))).toNat [])))
 4), .sl .any 6 (gR
 (List.take 7
 (List.drop 0
 (u0.getD
 (i64.wrap ((IntKind.u64.wrap (i64.wrap (t10+t11))).fdiv ((2:Int) ^ 1))).toNat [])))
 5), .sl .any 7 (gR
 (List.take 7
 (List.drop 0
 (u0.getD
 (i64.wrap ((IntKind.u64.wrap (i64.wrap (t10+t11))).fdiv ((2:Int) ^ 1))).toNat [])))
 6)]), .imm (.agg [.str (gS (List.take 7 (List.drop 0 (u0.getD t1.toNat []))) 0), .int .i64 (gI (List.take 7 (List.drop 0 (u0.getD t1.toNat []))) 1), .int .i64 (gI (List.take 7 (List.drop 0 (u0.getD t1.toNat []))) 2), .int .i64 (gI (List.take 7 (List.drop 0 (u0.getD t1.toNat []))) 3), .str (gS (List.take 7 (List.drop 0 (u0.getD t1.toNat []))) 4), .sl .any 6 (gR (List.take 7 (List.drop 0 (u0.getD t1.toNat []))) 5), .sl .any 7 (gR (List.take 7 (List.drop 0 (u0.getD t1.toNat []))) 6)])] [] fun r0 g0=>
 Ag (qV1 g0 r0)
 (Br (decide (rI r0<(0:Int)))
 (Eh t1 (i64.wrap
 (i64.wrap ((IntKind.u64.wrap (i64.wrap (t10+t11))).fdiv ((2:Int) ^ 1))+(1:Int))) t11 u0 K)
 (Eh t1 t10 (i64.wrap ((IntKind.u64.wrap (i64.wrap (t10+t11))).fdiv ((2:Int) ^ 1))) u0 K))))))))
 (K (.exit 0) ⟨[(0, .own Af),(1,Ai t1),(10,Ai t10)],[(Af, .arr 1 true 7 u0)]⟩))):Eh t1 t10 t11 u0 K:=lR [0,1,4,10,11] h
theorem Yt(t1 t2 t3:Int)(u0:LL)(K:KK)(h:
 (Br (decide (i64.wrap (t3 - t2)=(1:Int)))
 (Ec t2 t1 t2 u0 (P5 K))
 (Oy t1 t2 t3 u0 (Bg K)))):Ov t1 t2 t3 u0 K:=cR [] h
theorem M4(t2 t14 t15:Int)(u0:LL)(K:KK)(h:
 (Br (decide (t14<t15))
 (Ag ((0:Int)≤(1:Int))
 (Ag ((0:Int)≤t2∧t2<(↑u0.length:Int))
 (Ag (t2.toNat<u0.length∧
 Be
 [.str, .int .i64, .int .i64, .int .i64, .str, .sl 6 Aa,
 .sl 7 Ae]
 (List.take 7 (List.drop 0 (u0.getD t2.toNat [])))=
 true)
 (Ag ((0:Int)≤i64.wrap ((IntKind.u64.wrap (i64.wrap (t14+t15))).fdiv ((2:Int) ^ 1))∧
 i64.wrap ((IntKind.u64.wrap (i64.wrap (t14+t15))).fdiv ((2:Int) ^ 1))<
 (↑u0.length:Int))
 (Ag ((i64.wrap ((IntKind.u64.wrap (i64.wrap (t14+t15))).fdiv ((2:Int) ^ 1))).toNat<u0.length∧
 Be
 [.str, .int .i64, .int .i64, .int .i64, .str, .sl 6 Aa,
 .sl 7 Ae]
 (List.take 7
 (List.drop 0
 (u0.getD
 (i64.wrap ((IntKind.u64.wrap (i64.wrap (t14+t15))).fdiv ((2:Int) ^ 1))).toNat
 [])))=
 true)
 (Call E0.P Ak [.imm (.agg [.str (gS (List.take 7 (List.drop 0 (u0.getD t2.toNat []))) 0), .int .i64 (gI (List.take 7 (List.drop 0 (u0.getD t2.toNat []))) 1), .int .i64 (gI (List.take 7 (List.drop 0 (u0.getD t2.toNat []))) 2), .int .i64 (gI (List.take 7 (List.drop 0 (u0.getD t2.toNat []))) 3), .str (gS (List.take 7 (List.drop 0 (u0.getD t2.toNat []))) 4), .sl .any 6 (gR (List.take 7 (List.drop 0 (u0.getD t2.toNat []))) 5), .sl .any 7 (gR (List.take 7 (List.drop 0 (u0.getD t2.toNat []))) 6)]), .imm (.agg [.str (gS
 (List.take 7
 (List.drop 0
 (u0.getD
 (i64.wrap ((IntKind.u64.wrap (i64.wrap (t14+t15))).fdiv ((2:Int) ^ 1))).toNat [])))
 0), .int .i64 (gI
 (List.take 7
 (List.drop 0
 (u0.getD
 (i64.wrap ((IntKind.u64.wrap (i64.wrap (t14+t15))).fdiv ((2:Int) ^ 1))).toNat [])))
 1), .int .i64 (gI
 (List.take 7
 (List.drop 0
 (u0.getD
 (i64.wrap ((IntKind.u64.wrap (i64.wrap (t14+t15))).fdiv ((2:Int) ^ 1))).toNat [])))
 2), .int .i64 (gI
 (List.take 7
 (List.drop 0
 (u0.getD
 (i64.wrap ((IntKind.u64.wrap (i64.wrap (t14+t15))).fdiv ((2:Int) ^ 1))).toNat [])))
 3), .str (gS
 (List.take 7
 (List.drop 0
 (u0.getD
 (i64.wrap ((IntKind.u64.wrap (i64.wrap (t14+t15))).fdiv ((2:Int) ^ 1))).toNat [])))
 4), .sl .any 6 (gR
 (List.take 7
 (List.drop 0
 (u0.getD
 (i64.wrap ((IntKind.u64.wrap (i64.wrap (t14+t15))).fdiv ((2:Int) ^ 1))).toNat [])))
 5), .sl .any 7 (gR
 (List.take 7
 (List.drop 0
 (u0.getD
 (i64.wrap ((IntKind.u64.wrap (i64.wrap (t14+t15))).fdiv ((2:Int) ^ 1))).toNat [])))
 6)])] [] fun r0 g0=>
 Ag (qV1 g0 r0)
 (Br (!decide (rI r0<(0:Int)))
 (Ec t2 (i64.wrap
 (i64.wrap ((IntKind.u64.wrap (i64.wrap (t14+t15))).fdiv ((2:Int) ^ 1))+(1:Int))) t15 u0 K)
 (Ec t2 t14 (i64.wrap ((IntKind.u64.wrap (i64.wrap (t14+t15))).fdiv ((2:Int) ^ 1))) u0 K))))))))
 (K (.exit (4)) ⟨[(0, .own Af),(2,Ai t2),(14,Ai t14)],[(Af, .arr 1 true 7 u0)]⟩))):Ec t2 t14 t15 u0 K:=lR [0,2,4,14,15] h
theorem Yw(t1 t2 t3:Int)(u0:LL)(K:KK)(h:
 (Ag ((0:Int)≤(1:Int))
 (Br (decide (i64.wrap ((IntKind.u64.wrap (i64.wrap (t1+t3))).fdiv ((2:Int) ^ 1))<t2))
 (Iq t1 t2 t3 (i64.wrap ((IntKind.u64.wrap (i64.wrap (t1+t3))).fdiv ((2:Int) ^ 1))) (i64.wrap (i64.wrap ((IntKind.u64.wrap (i64.wrap (t1+t3))).fdiv ((2:Int) ^ 1))+t2)) (i64.wrap
 (i64.wrap
 (i64.wrap ((IntKind.u64.wrap (i64.wrap (t1+t3))).fdiv ((2:Int) ^ 1))+t2) -
 t3)) (i64.wrap ((IntKind.u64.wrap (i64.wrap (t1+t3))).fdiv ((2:Int) ^ 1))) u0 (Bg K))
 (Iq t1 t2 t3 (i64.wrap ((IntKind.u64.wrap (i64.wrap (t1+t3))).fdiv ((2:Int) ^ 1))) (i64.wrap (i64.wrap ((IntKind.u64.wrap (i64.wrap (t1+t3))).fdiv ((2:Int) ^ 1))+t2)) t1 t2 u0 (Bg K))))):Oy t1 t2 t3 u0 K:=cR [] h
theorem Ms(t1 t2:Int)(t3 t18:Int)(t19 t20 t21:Int)(u0:LL)(K:KK)(h:
 (Cz t1 t2 t3 t18 t19 t20 t21 (i64.wrap (t19 - (1:Int))) u0 (Jf K))):Iq t1 t2 t3 t18 t19 t20 t21 u0 K:=cR [] h
theorem M6(t1 t2:Int)(t3 t18:Int)(t19 t20:Int)(t21 t22:Int)(u0:LL)(K:KK)(h:
 (Br (decide (t20<t21))
 (Ag ((0:Int)≤(1:Int))
 (Ag ((0:Int)≤
 i64.wrap
 (t22 - i64.wrap ((IntKind.u64.wrap (i64.wrap (t20+t21))).fdiv ((2:Int) ^ 1)))∧
 i64.wrap
 (t22 - i64.wrap ((IntKind.u64.wrap (i64.wrap (t20+t21))).fdiv ((2:Int) ^ 1)))<
 (↑u0.length:Int))
 (Ag ((i64.wrap
 (t22 -
 i64.wrap ((IntKind.u64.wrap (i64.wrap (t20+t21))).fdiv ((2:Int) ^ 1)))).toNat<
 u0.length∧
 Be
 [.str, .int .i64, .int .i64, .int .i64, .str, .sl 6 Aa,
 .sl 7 Ae]
 (List.take 7
 (List.drop 0
 (u0.getD
 (i64.wrap
 (t22 -
 i64.wrap
 ((IntKind.u64.wrap (i64.wrap (t20+t21))).fdiv ((2:Int) ^ 1)))).toNat
 [])))=
 true)
 (Ag ((0:Int)≤i64.wrap ((IntKind.u64.wrap (i64.wrap (t20+t21))).fdiv ((2:Int) ^ 1))∧
 i64.wrap ((IntKind.u64.wrap (i64.wrap (t20+t21))).fdiv ((2:Int) ^ 1))<
 (↑u0.length:Int))
 (Ag ((i64.wrap ((IntKind.u64.wrap (i64.wrap (t20+t21))).fdiv ((2:Int) ^ 1))).toNat<u0.length∧
 Be
 [.str, .int .i64, .int .i64, .int .i64, .str, .sl 6 Aa,
 .sl 7 Ae]
 (List.take 7
 (List.drop 0
 (u0.getD
 (i64.wrap ((IntKind.u64.wrap (i64.wrap (t20+t21))).fdiv ((2:Int) ^ 1))).toNat
 [])))=
 true)
 (Call E0.P Ak [.imm (.agg [.str (gS
 (List.take 7
 (List.drop 0
 (u0.getD
 (i64.wrap
 (t22 -
 i64.wrap ((IntKind.u64.wrap (i64.wrap (t20+t21))).fdiv ((2:Int) ^ 1)))).toNat
 [])))
 0), .int .i64 (gI
 (List.take 7
 (List.drop 0
 (u0.getD
 (i64.wrap
 (t22 -
 i64.wrap ((IntKind.u64.wrap (i64.wrap (t20+t21))).fdiv ((2:Int) ^ 1)))).toNat
 [])))
 1), .int .i64 (gI
 (List.take 7
 (List.drop 0
 (u0.getD
 (i64.wrap
 (t22 -
 i64.wrap ((IntKind.u64.wrap (i64.wrap (t20+t21))).fdiv ((2:Int) ^ 1)))).toNat
 [])))
 2), .int .i64 (gI
 (List.take 7
 (List.drop 0
 (u0.getD
 (i64.wrap
 (t22 -
 i64.wrap ((IntKind.u64.wrap (i64.wrap (t20+t21))).fdiv ((2:Int) ^ 1)))).toNat
 [])))
 3), .str (gS
 (List.take 7
 (List.drop 0
 (u0.getD
 (i64.wrap
 (t22 -
 i64.wrap ((IntKind.u64.wrap (i64.wrap (t20+t21))).fdiv ((2:Int) ^ 1)))).toNat
 [])))
 4), .sl .any 6 (gR
 (List.take 7
 (List.drop 0
 (u0.getD
 (i64.wrap
 (t22 -
 i64.wrap ((IntKind.u64.wrap (i64.wrap (t20+t21))).fdiv ((2:Int) ^ 1)))).toNat
 [])))
 5), .sl .any 7 (gR
 (List.take 7
 (List.drop 0
 (u0.getD
 (i64.wrap
 (t22 -
 i64.wrap ((IntKind.u64.wrap (i64.wrap (t20+t21))).fdiv ((2:Int) ^ 1)))).toNat
 [])))
 6)]), .imm (.agg [.str (gS
 (List.take 7
 (List.drop 0
 (u0.getD
 (i64.wrap ((IntKind.u64.wrap (i64.wrap (t20+t21))).fdiv ((2:Int) ^ 1))).toNat [])))
 0), .int .i64 (gI
 (List.take 7
 (List.drop 0
 (u0.getD
 (i64.wrap ((IntKind.u64.wrap (i64.wrap (t20+t21))).fdiv ((2:Int) ^ 1))).toNat [])))
 1), .int .i64 (gI
 (List.take 7
 (List.drop 0
 (u0.getD
 (i64.wrap ((IntKind.u64.wrap (i64.wrap (t20+t21))).fdiv ((2:Int) ^ 1))).toNat [])))
 2), .int .i64 (gI
 (List.take 7
 (List.drop 0
 (u0.getD
 (i64.wrap ((IntKind.u64.wrap (i64.wrap (t20+t21))).fdiv ((2:Int) ^ 1))).toNat [])))
 3), .str (gS
 (List.take 7
 (List.drop 0
 (u0.getD
 (i64.wrap ((IntKind.u64.wrap (i64.wrap (t20+t21))).fdiv ((2:Int) ^ 1))).toNat [])))
 4), .sl .any 6 (gR
 (List.take 7
 (List.drop 0
 (u0.getD
 (i64.wrap ((IntKind.u64.wrap (i64.wrap (t20+t21))).fdiv ((2:Int) ^ 1))).toNat [])))
 5), .sl .any 7 (gR
 (List.take 7
 (List.drop 0
 (u0.getD
 (i64.wrap ((IntKind.u64.wrap (i64.wrap (t20+t21))).fdiv ((2:Int) ^ 1))).toNat [])))
 6)])] [] fun r0 g0=>
 Ag (qV1 g0 r0)
 (Br (!decide (rI r0<(0:Int)))
 (Cz t1 t2 t3 t18 t19 (i64.wrap
 (i64.wrap ((IntKind.u64.wrap (i64.wrap (t20+t21))).fdiv ((2:Int) ^ 1))+(1:Int))) t21 t22 u0 K)
 (Cz t1 t2 t3 t18 t19 t20 (i64.wrap ((IntKind.u64.wrap (i64.wrap (t20+t21))).fdiv ((2:Int) ^ 1))) t22 u0 K))))))))
 (K (.exit (8)) ⟨[(0, .own Af),(1,Ai t1),(2,Ai t2),(3,Ai t3),(4, .fn Ak []),(18,Ai t18),(19,Ai t19),(20,Ai t20)],[(Af, .arr 1 true 7 u0)]⟩))):Cz t1 t2 t3 t18 t19 t20 t21 t22 u0 K:=lR [0,1,2,3,4,18,19,20,21,22] h
theorem Aae(t1 t10:Int)(u0:LL)(K:KK)(h:
 (F6 t10 t1 u0 (P6 K))):Py t1 t10 u0 K:=cR [0,1,2,3,4] h
theorem Yu(t2 t14:Int)(u0:LL)(K:KK)(h:
 (F7 t14 t2 u0 (P7 K))):Ow t2 t14 u0 K:=cR [0,1,2,3,4] h
theorem Yx(t1 t2:Int)(t3 t18:Int)(t19 t20:Int)(u0:LL)(K:KK)(h:
 (Let (bif decide (t20<t2)then decide (t2<i64.wrap (t19 - t20))else false) fun x0=>
 Br (x0)
 (Call E0.P Le [.own Af,Ai t20,Ai t2,Ai (i64.wrap (t19 - t20)), .fn Ak []] [(Af, .arr 1 true 7 u0)] fun r1 g1=>
 Ag (qV2 g1 r1)
 (F3 t1 t3 t18 t20 (i64.wrap (t19 - t20)) (Cq g1 Af) (Bg K)))
 (F3 t1 t3 t18 t20 (i64.wrap (t19 - t20)) u0 (Bg K)))):Fz t1 t2 t3 t18 t19 t20 u0 K:=cR [] h
theorem M3(t10 t13:Int)(u0:LL)(K:KK)(h:
 (Br (decide (t13<i64.wrap (t10 - (1:Int))))
 (Ag ((0:Int)≤i64.wrap (t13+(1:Int))∧i64.wrap (t13+(1:Int))<(↑u0.length:Int))
 (Ag ((i64.wrap (t13+(1:Int))).toNat<u0.length∧
 Be
 [.str, .int .i64, .int .i64, .int .i64, .str, .sl 6 Aa,
 .sl 7 Ae]
 (List.take 7 (List.drop 0 (u0.getD (i64.wrap (t13+(1:Int))).toNat [])))=
 true)
 (Ag ((0:Int)≤t13∧t13<(↑u0.length:Int))
 (Ag (t13.toNat<u0.length∧
 Be
 [.str, .int .i64, .int .i64, .int .i64, .str, .sl 6 Aa,
 .sl 7 Ae]
 (List.take 7 (List.drop 0 (u0.getD t13.toNat [])))=
 true)
 (Ag ((0:Int)≤t13∧t13<(↑u0.length:Int))
 (Ag (t13.toNat<u0.length)
 (Ag ((0:Int)≤i64.wrap (t13+(1:Int))∧
 i64.wrap (t13+(1:Int))<
 (↑(u0.set t13.toNat
 [.str
 (gS (List.take (7:Nat) (List.drop (0:Nat) (u0.getD (i64.wrap (t13+(1:Int))).toNat [])))
 (0:Nat)),
 .int .i64
 (gI (List.take (7:Nat) (List.drop (0:Nat) (u0.getD (i64.wrap (t13+(1:Int))).toNat [])))
 (1:Nat)),
 .int .i64
 (gI (List.take (7:Nat) (List.drop (0:Nat) (u0.getD (i64.wrap (t13+(1:Int))).toNat [])))
 (2:Nat)),
 .int .i64
 (gI (List.take (7:Nat) (List.drop (0:Nat) (u0.getD (i64.wrap (t13+(1:Int))).toNat [])))
 (3:Nat)),
 .str
 (gS (List.take (7:Nat) (List.drop (0:Nat) (u0.getD (i64.wrap (t13+(1:Int))).toNat [])))
 (4:Nat)),
 .sl SK.any (6:Nat)
 (gR (List.take (7:Nat) (List.drop (0:Nat) (u0.getD (i64.wrap (t13+(1:Int))).toNat [])))
 (5:Nat)),
 .sl SK.any (7:Nat)
 (gR (List.take (7:Nat) (List.drop (0:Nat) (u0.getD (i64.wrap (t13+(1:Int))).toNat [])))
 (6:Nat))]).length:
 Int))
 (Ag ((i64.wrap (t13+(1:Int))).toNat<
 (u0.set t13.toNat
 [.str
 (gS (List.take 7 (List.drop 0 (u0.getD (i64.wrap (t13+(1:Int))).toNat [])))
 0),
 .int .i64
 (gI (List.take 7 (List.drop 0 (u0.getD (i64.wrap (t13+(1:Int))).toNat [])))
 1),
 .int .i64
 (gI (List.take 7 (List.drop 0 (u0.getD (i64.wrap (t13+(1:Int))).toNat [])))
 2),
 .int .i64
 (gI (List.take 7 (List.drop 0 (u0.getD (i64.wrap (t13+(1:Int))).toNat [])))
 3),
 .str
 (gS (List.take 7 (List.drop 0 (u0.getD (i64.wrap (t13+(1:Int))).toNat [])))
 4),
 .sl SK.any 6
 (gR (List.take 7 (List.drop 0 (u0.getD (i64.wrap (t13+(1:Int))).toNat [])))
 5),
 .sl SK.any 7
 (gR (List.take 7 (List.drop 0 (u0.getD (i64.wrap (t13+(1:Int))).toNat [])))
 6)]).length)
 (F6 t10 (i64.wrap (t13+(1:Int))) ((u0.set t13.toNat
 [.str
 (gS (List.take 7 (List.drop 0 (u0.getD (i64.wrap (t13+(1:Int))).toNat [])))
 0),
 .int .i64
 (gI (List.take 7 (List.drop 0 (u0.getD (i64.wrap (t13+(1:Int))).toNat [])))
 1),
 .int .i64
 (gI (List.take 7 (List.drop 0 (u0.getD (i64.wrap (t13+(1:Int))).toNat [])))
 2),
 .int .i64
 (gI (List.take 7 (List.drop 0 (u0.getD (i64.wrap (t13+(1:Int))).toNat [])))
 3),
 .str
 (gS (List.take 7 (List.drop 0 (u0.getD (i64.wrap (t13+(1:Int))).toNat [])))
 4),
 .sl SK.any 6
 (gR (List.take 7 (List.drop 0 (u0.getD (i64.wrap (t13+(1:Int))).toNat [])))
 5),
 .sl SK.any 7
 (gR (List.take 7 (List.drop 0 (u0.getD (i64.wrap (t13+(1:Int))).toNat [])))
 6)]).set
 (i64.wrap (t13+(1:Int))).toNat
 [.str (gS (List.take 7 (List.drop 0 (u0.getD t13.toNat []))) 0),
 .int .i64 (gI (List.take 7 (List.drop 0 (u0.getD t13.toNat []))) 1),
 .int .i64 (gI (List.take 7 (List.drop 0 (u0.getD t13.toNat []))) 2),
 .int .i64 (gI (List.take 7 (List.drop 0 (u0.getD t13.toNat []))) 3),
 .str (gS (List.take 7 (List.drop 0 (u0.getD t13.toNat []))) 4),
 .sl SK.any 6 (gR (List.take 7 (List.drop 0 (u0.getD t13.toNat []))) 5),
 .sl SK.any 7 (gR (List.take 7 (List.drop 0 (u0.getD t13.toNat []))) 6)]) K)))))))))
 (K (.exit (2)) ⟨[],[(Af, .arr 1 true 7 u0)]⟩))):F6 t10 t13 u0 K:=lR [0,10,13] h
theorem M5(t14 t17:Int)(u0:LL)(K:KK)(h:
 (Br (decide (t14<t17))
 (Ag ((0:Int)≤i64.wrap (t17 - (1:Int))∧i64.wrap (t17 - (1:Int))<(↑u0.length:Int))
 (Ag ((i64.wrap (t17 - (1:Int))).toNat<u0.length∧
 Be
 [.str, .int .i64, .int .i64, .int .i64, .str, .sl 6 Aa,
 .sl 7 Ae]
 (List.take 7 (List.drop 0 (u0.getD (i64.wrap (t17 - (1:Int))).toNat [])))=
 true)
 (Ag ((0:Int)≤t17∧t17<(↑u0.length:Int))
 (Ag (t17.toNat<u0.length∧
 Be
 [.str, .int .i64, .int .i64, .int .i64, .str, .sl 6 Aa,
 .sl 7 Ae]
 (List.take 7 (List.drop 0 (u0.getD t17.toNat [])))=
 true)
 (Ag ((0:Int)≤t17∧t17<(↑u0.length:Int))
 (Ag (t17.toNat<u0.length)
 (Ag ((0:Int)≤i64.wrap (t17 - (1:Int))∧
 i64.wrap (t17 - (1:Int))<
 (↑(u0.set t17.toNat
 [.str
 (gS (List.take (7:Nat) (List.drop (0:Nat) (u0.getD (i64.wrap (t17 - (1:Int))).toNat [])))
 (0:Nat)),
 .int .i64
 (gI (List.take (7:Nat) (List.drop (0:Nat) (u0.getD (i64.wrap (t17 - (1:Int))).toNat [])))
 (1:Nat)),
 .int .i64
 (gI (List.take (7:Nat) (List.drop (0:Nat) (u0.getD (i64.wrap (t17 - (1:Int))).toNat [])))
 (2:Nat)),
 .int .i64
 (gI (List.take (7:Nat) (List.drop (0:Nat) (u0.getD (i64.wrap (t17 - (1:Int))).toNat [])))
 (3:Nat)),
 .str
 (gS (List.take (7:Nat) (List.drop (0:Nat) (u0.getD (i64.wrap (t17 - (1:Int))).toNat [])))
 (4:Nat)),
 .sl SK.any (6:Nat)
 (gR (List.take (7:Nat) (List.drop (0:Nat) (u0.getD (i64.wrap (t17 - (1:Int))).toNat [])))
 (5:Nat)),
 .sl SK.any (7:Nat)
 (gR (List.take (7:Nat) (List.drop (0:Nat) (u0.getD (i64.wrap (t17 - (1:Int))).toNat [])))
 (6:Nat))]).length:
 Int))
 (Ag ((i64.wrap (t17 - (1:Int))).toNat<
 (u0.set t17.toNat
 [.str
 (gS (List.take 7 (List.drop 0 (u0.getD (i64.wrap (t17 - (1:Int))).toNat [])))
 0),
 .int .i64
 (gI (List.take 7 (List.drop 0 (u0.getD (i64.wrap (t17 - (1:Int))).toNat [])))
 1),
 .int .i64
 (gI (List.take 7 (List.drop 0 (u0.getD (i64.wrap (t17 - (1:Int))).toNat [])))
 2),
 .int .i64
 (gI (List.take 7 (List.drop 0 (u0.getD (i64.wrap (t17 - (1:Int))).toNat [])))
 3),
 .str
 (gS (List.take 7 (List.drop 0 (u0.getD (i64.wrap (t17 - (1:Int))).toNat [])))
 4),
 .sl SK.any 6
 (gR (List.take 7 (List.drop 0 (u0.getD (i64.wrap (t17 - (1:Int))).toNat [])))
 5),
 .sl SK.any 7
 (gR (List.take 7 (List.drop 0 (u0.getD (i64.wrap (t17 - (1:Int))).toNat [])))
 6)]).length)
 (F7 t14 (i64.wrap (t17 - (1:Int))) ((u0.set t17.toNat
 [.str
 (gS (List.take 7 (List.drop 0 (u0.getD (i64.wrap (t17 - (1:Int))).toNat [])))
 0),
 .int .i64
 (gI (List.take 7 (List.drop 0 (u0.getD (i64.wrap (t17 - (1:Int))).toNat [])))
 1),
 .int .i64
 (gI (List.take 7 (List.drop 0 (u0.getD (i64.wrap (t17 - (1:Int))).toNat [])))
 2),
 .int .i64
 (gI (List.take 7 (List.drop 0 (u0.getD (i64.wrap (t17 - (1:Int))).toNat [])))
 3),
 .str
 (gS (List.take 7 (List.drop 0 (u0.getD (i64.wrap (t17 - (1:Int))).toNat [])))
 4),
 .sl SK.any 6
 (gR (List.take 7 (List.drop 0 (u0.getD (i64.wrap (t17 - (1:Int))).toNat [])))
 5),
 .sl SK.any 7
 (gR (List.take 7 (List.drop 0 (u0.getD (i64.wrap (t17 - (1:Int))).toNat [])))
 6)]).set
 (i64.wrap (t17 - (1:Int))).toNat
 [.str (gS (List.take 7 (List.drop 0 (u0.getD t17.toNat []))) 0),
 .int .i64 (gI (List.take 7 (List.drop 0 (u0.getD t17.toNat []))) 1),
 .int .i64 (gI (List.take 7 (List.drop 0 (u0.getD t17.toNat []))) 2),
 .int .i64 (gI (List.take 7 (List.drop 0 (u0.getD t17.toNat []))) 3),
 .str (gS (List.take 7 (List.drop 0 (u0.getD t17.toNat []))) 4),
 .sl SK.any 6 (gR (List.take 7 (List.drop 0 (u0.getD t17.toNat []))) 5),
 .sl SK.any 7 (gR (List.take 7 (List.drop 0 (u0.getD t17.toNat []))) 6)]) K)))))))))
 (K (.exit (6)) ⟨[],[(Af, .arr 1 true 7 u0)]⟩))):F7 t14 t17 u0 K:=lR [0,14,17] h
theorem Yy(t1 t3:Int)(t18 t20 t24:Int)(u0:LL)(K:KK)(h:
 (Let (bif decide (t1<t20)then decide (t20<t18)else false) fun x0=>
 Br (x0)
 (Call E0.P Dl [.own Af,Ai t1,Ai t20,Ai t18, .fn Ak []] [(Af, .arr 1 true 7 u0)] fun r1 g1=>
 Ag (qV2 g1 r1)
 (F4 t3 t18 t24 (Cq g1 Af) (Bg K)))
 (F4 t3 t18 t24 u0 (Bg K)))):F3 t1 t3 t18 t20 t24 u0 K:=cR [] h
theorem Yz(t3 t18 t24:Int)(u0:LL)(K:KK)(h:
 (Let (bif decide (t18<t24)then decide (t24<t3)else false) fun x0=>
 Br (x0)
 (Call E0.P Dl [.own Af,Ai t18,Ai t24,Ai t3, .fn Ak []] [(Af, .arr 1 true 7 u0)] fun r1 g1=>
 Ag (qV2 g1 r1)
 (K .normal ⟨[],[(Af, .arr 1 true 7 (Cq g1 Af))]⟩))
 (K .normal ⟨[],[(Af, .arr 1 true 7 u0)]⟩))):F4 t3 t18 t24 u0 K:=cR [] h
theorem Yr(u0:LL)(K:KK)(h:
 (K .ret ⟨[],[(Af, .arr 1 true 7 u0)]⟩)):Ou u0 K:=cR [0,1,2,3,4] h
theorem Yv(u0:LL)(K:KK)(h:
 (K .ret ⟨[],[(Af, .arr 1 true 7 u0)]⟩)):Ox u0 K:=cR [0,1,2,3,4] h
theorem Aaj(rows:LL)(Q:QQ)(u0:LL)(h:
 (Q (.tup []) [(Af, .arr 1 true 7 u0)])):Ef rows Q .ret ⟨[],[(Af, .arr 1 true 7 u0)]⟩:=kq h
theorem Aak(rows:LL)(Q:QQ)(u0:LL)(h:
 (Q (.tup []) [(Af, .arr 1 true 7 u0)])):Ef rows Q .normal ⟨[],[(Af, .arr 1 true 7 u0)]⟩:=kq h
theorem Aal(rows:LL)(Q:QQ)(u0:LL)(h:
 (Q (.tup []) [(Af, .arr 1 true 7 u0)])):Jd rows Q .ret ⟨[],[(Af, .arr 1 true 7 u0)]⟩:=kq h
theorem Aam(rows:LL)(Q:QQ)(t1 t10:Int)(u0:LL)(h:
 (Py t1 t10 u0 (Jd rows Q))):Pz rows Q (.exit 0) ⟨[(0, .own Af),(1,Ai t1),(10,Ai t10)],[(Af, .arr 1 true 7 u0)]⟩:=kq h
theorem Cm(K:KK)(u0:LL)(h:
 (K .normal ⟨[],[(Af, .arr 1 true 7 u0)]⟩)):Bg K .normal ⟨[],[(Af, .arr 1 true 7 u0)]⟩:=kq h
theorem Aan(K:KK)(u0:LL)(h:
 (K .ret ⟨[],[(Af, .arr 1 true 7 u0)]⟩)):Je K .ret ⟨[],[(Af, .arr 1 true 7 u0)]⟩:=kq h
theorem Aao(K:KK)(t2 t14:Int)(u0:LL)(h:
 (Ow t2 t14 u0 (Je K))):P5 K (.exit (4)) ⟨[(0, .own Af),(2,Ai t2),(14,Ai t14)],[(Af, .arr 1 true 7 u0)]⟩:=kq h
theorem Aap(K:KK)(t1 t2:Int)(t3 t18:Int)(t19 t20:Int)(u0:LL)(h:
 (Fz t1 t2 t3 t18 t19 t20 u0 (Bg K))):Jf K (.exit (8)) ⟨[(0, .own Af),(1,Ai t1),(2,Ai t2),(3,Ai t3),(4, .fn Ak []),(18,Ai t18),(19,Ai t19),(20,Ai t20)],[(Af, .arr 1 true 7 u0)]⟩:=kq h
theorem Nt(K:KK)(u0:LL)(h:
 (K .ret ⟨[],[(Af, .arr 1 true 7 u0)]⟩)):Eg K .ret ⟨[],[(Af, .arr 1 true 7 u0)]⟩:=kq h
theorem Aaq(K:KK)(u0:LL)(h:
 (Ou u0 (Eg K))):P6 K (.exit (2)) ⟨[],[(Af, .arr 1 true 7 u0)]⟩:=kq h
theorem Aar(K:KK)(u0:LL)(h:
 (Ox u0 (Eg K))):P7 K (.exit (6)) ⟨[],[(Af, .arr 1 true 7 u0)]⟩:=kq h
theorem Afu:Bd E0.P 110 Az.code A8 []:=fq Tryz.func110
theorem Ach(rows:LL)(a1 a2 a3:Int)(Q:QQ)(h:
 (Br (decide (i64.wrap (a2 - a1)=(1:Int)))
 (Eh a1 a2 a3 rows (Pz rows Q))
 (Ov a1 a2 a3 rows (Ef rows Q)))):Call E0.P Dl [.own (.arg 0),Ai a1,Ai a2,Ai a3, .fn Ak []] [(.arg 0, .arr 1 true 7 rows)] Q:=fR 1 Afu h
noncomputable def Bu:AC:=(A7 [(2,[0,1,2,6,7,8],[]),(4,[0,1,2,6,7],[]),(8,[0,1,2,6,7],[]),(10,[0,1,2,6],[]),(12,[],[]),(15,[0,1,2,6,7,8],[]),(17,[0,1,2,6,7],[]),(21,[0,1,2,6,7],[0,1,2,6]),(24,[0,1,2,6],[0,1,2,6])] [] (codeOf Tryz.f77) 0).1
abbrev Bv:Nat:=63
def G9(t1 t6:Int)(t7 t8:Int)(u0:LL)(K:KK):Prop:=Ba 2 E0.P Bv (A9 2 Bu).code ⟨[(0, .own Af),(1,Ai t1),(2, .fn Ak []),(6,Ai t6),(7,Ai t7),(8,Ai t8)],[(Af, .arr 1 true 7 u0)]⟩ K
def R4(t1 t6 t7:Int)(u0:LL)(K:KK):Prop:=Ao 8 E0.P Bv (Ah 8 Bu).code ⟨[(0, .own Af),(1,Ai t1),(2, .fn Ak []),(6,Ai t6),(7,Ai t7)],[(Af, .arr 1 true 7 u0)]⟩ K
def Dh(t1 t6:Int)(u0:LL)(K:KK):Prop:=Ba 10 E0.P Bv (A9 10 Bu).code ⟨[(0, .own Af),(1,Ai t1),(2, .fn Ak []),(6,Ai t6)],[(Af, .arr 1 true 7 u0)]⟩ K
def Gx(t1 t6:Int)(t7 t8:Int)(u0:LL)(K:KK):Prop:=Ba 15 E0.P Bv (A9 15 Bu).code ⟨[(0, .own Af),(1,Ai t1),(2, .fn Ak []),(6,Ai t6),(7,Ai t7),(8,Ai t8)],[(Af, .arr 1 true 7 u0)]⟩ K
def Qw(t1 t6 t7:Int)(u0:LL)(K:KK):Prop:=Ao 21 E0.P Bv (Ah 21 Bu).code ⟨[(0, .own Af),(1,Ai t1),(2, .fn Ak []),(6,Ai t6),(7,Ai t7)],[(Af, .arr 1 true 7 u0)]⟩ K
def Gw(t1 t6:Int)(u0:LL)(K:KK):Prop:=Ao 24 E0.P Bv (Ah 24 Bu).code ⟨[(0, .own Af),(1,Ai t1),(2, .fn Ak []),(6,Ai t6)],[(Af, .arr 1 true 7 u0)]⟩ K
def E5(rows:LL)(Q:QQ):KK:=kE fun st=>finish (1) E0.T [] [(Af, .arr 1 true 7 rows)] Q st
def Kq(rows:LL)(Q:QQ):KK:=kF 0 (fun st=>Ao 8 E0.P Bv (Ah 8 Bu).code (mask [0,1,2,6,7] st) (E5 rows Q)) fun st=>finish (1) E0.T [] [(Af, .arr 1 true 7 rows)] Q st
def G7(K:KK):KK:=kC 2 (fun st=>K .normal (mask [] st)) K
def E8(K:KK):KK:=kC 3 (fun st=>Ba 10 E0.P Bv (A9 10 Bu).code (mask [0,1,2,6] st) K) K
def Kr(K:KK):Ex→St→Prop
 | .normal,st=>Ao 21 E0.P Bv (Ah 21 Bu).code (mask [0,1,2,6,7] st) (E8 K)
 | .exit i,st=>(match (i.beq 4:Bool)with
 |true=>Ao 21 E0.P Bv (Ah 21 Bu).code (mask [0,1,2,6,7] st) (E8 K)
 |false=>(match (i.beq 3:Bool)with
 |true=>Ba 10 E0.P Bv (A9 10 Bu).code (mask [0,1,2,6] st) K
 |false=>K (.exit i) st))
 | .goto i,st=>K (.goto i) st
 | .ret,st=>K .ret st
def G8(K:KK):KK:=kP [0,1,2,6] K
theorem Ac1(t1 t6:Int)(t7 t8:Int)(u0:LL)(K:KK)(h:
 (Br (decide (t8≤t1))
 (Call E0.P Ey [.own Af,Ai t7,Ai t8, .fn Ak []] [(Af, .arr 1 true 7 u0)] fun r0 g0=>
 Ag (qV2 g0 r0)
 (G9 t1 t6 t8 (i64.wrap (t8+t6)) (Cq g0 Af) K))
 (K (.exit 0) ⟨[(0, .own Af),(1,Ai t1),(2, .fn Ak []),(6,Ai t6),(7,Ai t7)],[(Af, .arr 1 true 7 u0)]⟩))):G9 t1 t6 t7 t8 u0 K:=lR [0,1,2,6,7,8] h
theorem Acg(t1 t6 t7:Int)(u0:LL)(K:KK)(h:
 (Call E0.P Ey [.own Af,Ai t7,Ai t1, .fn Ak []] [(Af, .arr 1 true 7 u0)] fun r0 g0=>
 Ag (qV2 g0 r0)
 (Dh t1 t6 (Cq g0 Af) (G7 K)))):R4 t1 t6 t7 u0 K:=cR [] h
theorem Od(t1 t6:Int)(u0:LL)(K:KK)(h:
 (Br (decide (t6<t1))
 (Gx t1 t6 ((0:Int)) (i64.wrap ((2:Int)*t6)) u0 (Kr K))
 (K (.exit (2)) ⟨[],[(Af, .arr 1 true 7 u0)]⟩))):Dh t1 t6 u0 K:=lR [0,1,2,6] h
theorem Aa6(t1 t6:Int)(t7 t8:Int)(u0:LL)(K:KK)(h:
 (Br (decide (t8≤t1))
 (Call E0.P Dl [.own Af,Ai t7,Ai (i64.wrap (t7+t6)),Ai t8, .fn Ak []] [(Af, .arr 1 true 7 u0)] fun r0 g0=>
 Ag (qV2 g0 r0)
 (Gx t1 t6 t8 (i64.wrap (t8+i64.wrap ((2:Int)*t6))) (Cq g0 Af) K))
 (K (.exit (4)) ⟨[(0, .own Af),(1,Ai t1),(2, .fn Ak []),(6,Ai t6),(7,Ai t7)],[(Af, .arr 1 true 7 u0)]⟩))):Gx t1 t6 t7 t8 u0 K:=lR [0,1,2,6,7,8] h
theorem Aax(t1 t6 t7:Int)(u0:LL)(K:KK)(h:
 (Br (decide (i64.wrap (t7+t6)<t1))
 (Call E0.P Dl [.own Af,Ai t7,Ai (i64.wrap (t7+t6)),Ai t1, .fn Ak []] [(Af, .arr 1 true 7 u0)] fun r0 g0=>
 Ag (qV2 g0 r0)
 (Gw t1 t6 (Cq g0 Af) (G8 K)))
 (Gw t1 t6 u0 (G8 K)))):Qw t1 t6 t7 u0 K:=cR [0,1,2,6] h
theorem Aay(t1 t6:Int)(u0:LL)(K:KK)(h:
 (K .normal ⟨[(0, .own Af),(1,Ai t1),(2, .fn Ak []),(6,Ai (i64.wrap (t6*(2:Int))))],[(Af, .arr 1 true 7 u0)]⟩)):Gw t1 t6 u0 K:=cR [0,1,2,6] h
theorem Acs(rows:LL)(Q:QQ)(u0:LL)(h:
 (Q (.tup []) [(Af, .arr 1 true 7 u0)])):E5 rows Q .normal ⟨[],[(Af, .arr 1 true 7 u0)]⟩:=kq h
theorem Acu(rows:LL)(Q:QQ)(t1 t6 t7:Int)(u0:LL)(h:
 (R4 t1 t6 t7 u0 (E5 rows Q))):Kq rows Q (.exit 0) ⟨[(0, .own Af),(1,Ai t1),(2, .fn Ak []),(6,Ai t6),(7,Ai t7)],[(Af, .arr 1 true 7 u0)]⟩:=kq h
theorem Acv(K:KK)(u0:LL)(h:
 (K .normal ⟨[],[(Af, .arr 1 true 7 u0)]⟩)):G7 K (.exit (2)) ⟨[],[(Af, .arr 1 true 7 u0)]⟩:=kq h
theorem Acw(K:KK)(t1 t6:Int)(u0:LL)(h:
 (Dh t1 t6 u0 K)):E8 K .normal ⟨[(0, .own Af),(1,Ai t1),(2, .fn Ak []),(6,Ai t6)],[(Af, .arr 1 true 7 u0)]⟩:=kq h
theorem Acx(K:KK)(t1 t6 t7:Int)(u0:LL)(h:
 (Qw t1 t6 t7 u0 (E8 K))):Kr K (.exit (4)) ⟨[(0, .own Af),(1,Ai t1),(2, .fn Ak []),(6,Ai t6),(7,Ai t7)],[(Af, .arr 1 true 7 u0)]⟩:=kq h
theorem Acy(K:KK)(t1 t6:Int)(u0:LL)(h:
 (K .normal ⟨[(0, .own Af),(1,Ai t1),(2, .fn Ak []),(6,Ai t6)],[(Af, .arr 1 true 7 u0)]⟩)):G8 K .normal ⟨[(0, .own Af),(1,Ai t1),(2, .fn Ak []),(6,Ai t6)],[(Af, .arr 1 true 7 u0)]⟩:=kq h
theorem Ahj:Bd E0.P 77 Bu.code Bv []:=fq Tryz.func77
theorem Adz(rows:LL)(a1:Int)(Q:QQ)(h:
 (G9 a1 ((20:Int)) ((0:Int)) ((20:Int)) rows (Kq rows Q))):Call E0.P Lf [.own (.arg 0),Ai a1, .fn Ak []] [(.arg 0, .arr 1 true 7 rows)] Q:=fR 1 Ahj h
noncomputable def Af1:AC:=(A7 [] [] (codeOf Tryz.f48) 0).1
abbrev Af2:Nat:=9
theorem Af3:Bd E0.P 48 Af1.code Af2 []:=fq Tryz.func48
theorem Adp(rows:LL)(Q:QQ)(h:
 (Call E0.P Lf [.own Af,Ai ((↑rows.length:Int)), .fn Ak []] [(Af, .arr 1 true 7 rows)] fun r0 g0=>
 Ag (qV2 g0 r0)
 (Q (.tup []) [(Af, .arr 1 true 7 (Cq g0 Af))]))):Call E0.P Ku [.own (.arg 0), .fn Ak []] [(.arg 0, .arr 1 true 7 rows)] Q:=fR 1 Af3 h
noncomputable def Aui:AC:=(A7 [] [2] (codeOf Tryz.f47) 0).1
abbrev Au5:Nat:=8
theorem Avb:Bd E0.P 47 Aui.code Au5 [.tmp 2]:=fq Tryz.func47
theorem Aqp(a0:LL)(Q:QQ)(h:
 (Bly (a0=[])
 (Br (!false)
 (Q (.own nL0) ([]++[(Nm.loc 0,Entry.arr 0 true 7 [])]))
 (Ag ((0+a0.length)*104≤140737488355328∧0+a0.length≤140737488355328)
 (Q (.own nL0) ([]++[(Nm.loc 0,Entry.arr 0 true 7 ([]++a0))]))))
 (Br (false)
 (Q (.own nL0) ([]++[(Nm.loc 0,Entry.arr 0 true 7 [])]))
 (Ag ((0+a0.length)*104≤140737488355328∧0+a0.length≤140737488355328)
 (Q (.own nL0) ([]++[(Nm.loc 0,Entry.arr 0 true 7 ([]++a0))])))))):Call E0.P Vb [Al 7 a0] [] Q:=fR 2 Avb h
noncomputable def Bl:AC:=(A7 [(5,[0,1,5],[]),(7,[0],[]),(12,[0,1,5,6,7],[]),(14,[0,5],[]),(18,[0,1,5,6,7],[0,1,5,6,7]),(19,[0,5],[0,1,5]),(22,[0,1,5],[0,1,5]),(23,[0],[])] [4] (codeOf Tryz.f51) 0).1
abbrev Bn:Nat:=66
def H9(t5:Int)(u0:LL)(K:KK):Prop:=Ba 5 E0.P Bn (A9 5 Bl).code ⟨[(0, .own Af),(1, .fn Ca []),(5,Ai t5)],[(Af, .arr 1 true 7 u0)]⟩ K
def Hu(t5:Int)(t6_2 t6_3:Nat)(t7:Int)(u0:LL)(K:KK):Prop:=Ba 12 E0.P Bn (A9 12 Bl).code ⟨[(0, .own Af),(1, .fn Ca []),(5,Ai t5),(6, .win Af 7 t6_2 t6_3),(7,Ai t7)],[(Af, .arr 1 true 7 u0)]⟩ K
def Sk(t5:Int)(u0:LL)(K:KK):Prop:=Ao 22 E0.P Bn (Ah 22 Bl).code ⟨[(0, .own Af),(1, .fn Ca []),(5,Ai t5)],[(Af, .arr 1 true 7 u0)]⟩ K
def K4(t5:Int)(t6_2 t6_3:Nat)(t7:Int)(u0:LL)(K:KK):Prop:=Ao 18 E0.P Bn (Ah 18 Bl).code ⟨[(0, .own Af),(1, .fn Ca []),(5,Ai t5),(6, .win Af 7 t6_2 t6_3),(7,Ai t7)],[(Af, .arr 1 true 7 u0)]⟩ K
def Sl(u0:LL)(K:KK):Prop:=Ao 23 E0.P Bn (Ah 23 Bl).code ⟨[(0, .own Af)],[(Af, .arr 1 true 7 u0)]⟩ K
def Sj(t5:Int)(u0:LL)(K:KK):Prop:=Ao 19 E0.P Bn (Ah 19 Bl).code ⟨[(0, .own Af),(5,Ai t5)],[(Af, .arr 1 true 7 u0)]⟩ K
def Mg(rows:LL)(Q:QQ):KK:=kE fun st=>finish (1) E0.T [.tmp 4] [(Af, .arr 1 true 7 rows)] Q st
def Fs(rows:LL)(Q:QQ):KK:=kF 0 (fun st=>Ao 23 E0.P Bn (Ah 23 Bl).code (mask [0] st) (Mg rows Q)) fun st=>finish (1) E0.T [.tmp 4] [(Af, .arr 1 true 7 rows)] Q st
def H7(K:KK):Ex→St→Prop
 | .normal,st=>Ba 5 E0.P Bn (A9 5 Bl).code (mask [0,1,5] st) K
 | .exit i,st=>K (.exit i) st
 | .goto i,st=>K (.goto i) st
 | .ret,st=>K .ret st
def H8(K:KK):KK:=kC 1 (fun st=>Ao 22 E0.P Bn (Ah 22 Bl).code (mask [0,1,5] st) (H7 K)) K
def Mh(K:KK):Ex→St→Prop
 | .normal,st=>Ao 19 E0.P Bn (Ah 19 Bl).code (mask [0,5] st) (H8 K)
 | .exit i,st=>(match (i.beq 2:Bool)with
 |true=>Ao 19 E0.P Bn (Ah 19 Bl).code (mask [0,5] st) (H8 K)
 |false=>(match (i.beq 1:Bool)with
 |true=>Ao 22 E0.P Bn (Ah 22 Bl).code (mask [0,1,5] st) (H7 K)
 |false=>K (.exit i) st))
 | .goto i,st=>K (.goto i) st
 | .ret,st=>K .ret st
def Mi(K:KK):Ex→St→Prop
 | .normal,st=>Ba 12 E0.P Bn (A9 12 Bl).code (mask [0,1,5,6,7] st) K
 | .exit i,st=>K (.exit i) st
 | .goto i,st=>K (.goto i) st
 | .ret,st=>K .ret st
theorem Q7(t5:Int)(u0:LL)(K:KK)(h:
 (Br (decide (t5<(↑u0.length:Int)))
 (Ag ((0:Int)≤t5∧t5<(↑u0.length:Int))
 (Ag (t5.toNat<u0.length∧
 Be
 [.str, .int .i64, .int .i64, .int .i64, .str, .sl 6 Aa,
 .sl 7 Ae]
 (List.take 7 (List.drop 0 (u0.getD t5.toNat [])))=
 true)
 (Ag ((0:Int)≤i64.wrap (t5 - (1:Int))∧i64.wrap (t5 - (1:Int))<(↑u0.length:Int))
 (Ag ((i64.wrap (t5 - (1:Int))).toNat<u0.length∧
 Be
 [.str, .int .i64, .int .i64, .int .i64, .str, .sl 6 Aa,
 .sl 7 Ae]
 (List.take 7 (List.drop 0 (u0.getD (i64.wrap (t5 - (1:Int))).toNat [])))=
 true)
 (Call E0.P Ca [.imm (.agg [.str (gS (List.take 7 (List.drop 0 (u0.getD t5.toNat []))) 0), .int .i64 (gI (List.take 7 (List.drop 0 (u0.getD t5.toNat []))) 1), .int .i64 (gI (List.take 7 (List.drop 0 (u0.getD t5.toNat []))) 2), .int .i64 (gI (List.take 7 (List.drop 0 (u0.getD t5.toNat []))) 3), .str (gS (List.take 7 (List.drop 0 (u0.getD t5.toNat []))) 4), .sl .any 6 (gR (List.take 7 (List.drop 0 (u0.getD t5.toNat []))) 5), .sl .any 7 (gR (List.take 7 (List.drop 0 (u0.getD t5.toNat []))) 6)]), .imm (.agg [.str (gS (List.take 7 (List.drop 0 (u0.getD (i64.wrap (t5 - (1:Int))).toNat []))) 0), .int .i64 (gI (List.take 7 (List.drop 0 (u0.getD (i64.wrap (t5 - (1:Int))).toNat []))) 1), .int .i64 (gI (List.take 7 (List.drop 0 (u0.getD (i64.wrap (t5 - (1:Int))).toNat []))) 2), .int .i64 (gI (List.take 7 (List.drop 0 (u0.getD (i64.wrap (t5 - (1:Int))).toNat []))) 3), .str (gS (List.take 7 (List.drop 0 (u0.getD (i64.wrap (t5 - (1:Int))).toNat []))) 4), .sl .any 6 (gR (List.take 7 (List.drop 0 (u0.getD (i64.wrap (t5 - (1:Int))).toNat []))) 5), .sl .any 7 (gR (List.take 7 (List.drop 0 (u0.getD (i64.wrap (t5 - (1:Int))).toNat []))) 6)])] [] fun r0 g0=>
 Ag (qV0 g0 r0)
 (Br (rB r0)
 (Ag ((0:Int)≤t5∧t5≤(↑u0.length:Int))
 (Hu t5 t5.toNat (u0.length - t5.toNat) ((1:Int)) u0 (Mh K)))
 (Sk t5 u0 (H7 K))))))))
 (K (.exit 0) ⟨[(0, .own Af)],[(Af, .arr 1 true 7 u0)]⟩))):H9 t5 u0 K:=lR [0,1,5] h
theorem P8(t5:Int)(t6_2 t6_3:Nat)(t7:Int)(u0:LL)(K:KK)(h:
 (Br (decide (t7<(↑t6_3:Int)))
 (Ag ((0:Int)≤t7∧t7<(↑t6_3:Int))
 (Ag (addN t6_2 t7.toNat<u0.length∧
 Be
 [.str, .int .i64, .int .i64, .int .i64, .str, .sl 6 Aa,
 .sl 7 Ae]
 (List.take 7 (List.drop 0 (u0.getD (addN t6_2 t7.toNat) [])))=
 true)
 (Ag ((0:Int)≤i64.wrap (t7 - (1:Int))∧i64.wrap (t7 - (1:Int))<(↑t6_3:Int))
 (Ag (addN t6_2 (i64.wrap (t7 - (1:Int))).toNat<u0.length∧
 Be
 [.str, .int .i64, .int .i64, .int .i64, .str, .sl 6 Aa,
 .sl 7 Ae]
 (List.take 7 (List.drop 0 (u0.getD (addN t6_2 (i64.wrap (t7 - (1:Int))).toNat) [])))=
 true)
 (Call E0.P Ca [.imm (.agg [.str (gS (List.take 7 (List.drop 0 (u0.getD (addN t6_2 t7.toNat) []))) 0), .int .i64 (gI (List.take 7 (List.drop 0 (u0.getD (addN t6_2 t7.toNat) []))) 1), .int .i64 (gI (List.take 7 (List.drop 0 (u0.getD (addN t6_2 t7.toNat) []))) 2), .int .i64 (gI (List.take 7 (List.drop 0 (u0.getD (addN t6_2 t7.toNat) []))) 3), .str (gS (List.take 7 (List.drop 0 (u0.getD (addN t6_2 t7.toNat) []))) 4), .sl .any 6 (gR (List.take 7 (List.drop 0 (u0.getD (addN t6_2 t7.toNat) []))) 5), .sl .any 7 (gR (List.take 7 (List.drop 0 (u0.getD (addN t6_2 t7.toNat) []))) 6)]), .imm (.agg [.str (gS (List.take 7 (List.drop 0 (u0.getD (addN t6_2 (i64.wrap (t7 - (1:Int))).toNat) [])))
 0), .int .i64 (gI (List.take 7 (List.drop 0 (u0.getD (addN t6_2 (i64.wrap (t7 - (1:Int))).toNat) [])))
 1), .int .i64 (gI (List.take 7 (List.drop 0 (u0.getD (addN t6_2 (i64.wrap (t7 - (1:Int))).toNat) [])))
 2), .int .i64 (gI (List.take 7 (List.drop 0 (u0.getD (addN t6_2 (i64.wrap (t7 - (1:Int))).toNat) [])))
 3), .str (gS (List.take 7 (List.drop 0 (u0.getD (addN t6_2 (i64.wrap (t7 - (1:Int))).toNat) [])))
 4), .sl .any 6 (gR (List.take 7 (List.drop 0 (u0.getD (addN t6_2 (i64.wrap (t7 - (1:Int))).toNat) [])))
 5), .sl .any 7 (gR (List.take 7 (List.drop 0 (u0.getD (addN t6_2 (i64.wrap (t7 - (1:Int))).toNat) [])))
 6)])] [] fun r0 g0=>
 Ag (qV0 g0 r0)
 (Br (!rB r0)
 (Ag ((0:Int)≤t7∧t7<(↑t6_3:Int))
 (Ag (addN t6_2 t7.toNat<u0.length∧
 Be
 [.str, .int .i64, .int .i64, .int .i64, .str, .sl 6 Aa,
 .sl 7 Ae]
 (List.take 7 (List.drop 0 (u0.getD (addN t6_2 t7.toNat) [])))=
 true)
 (Ag ((0:Int)≤t5∧t5<(↑u0.length:Int))
 (Ag (t5.toNat<u0.length)
 (K4 (i64.wrap (t5+(1:Int))) t6_2 t6_3 t7 (u0.set t5.toNat
 [.str (gS (List.take 7 (List.drop 0 (u0.getD (addN t6_2 t7.toNat) []))) 0),
 .int .i64 (gI (List.take 7 (List.drop 0 (u0.getD (addN t6_2 t7.toNat) []))) 1),
 .int .i64 (gI (List.take 7 (List.drop 0 (u0.getD (addN t6_2 t7.toNat) []))) 2),
 .int .i64 (gI (List.take 7 (List.drop 0 (u0.getD (addN t6_2 t7.toNat) []))) 3),
 .str (gS (List.take 7 (List.drop 0 (u0.getD (addN t6_2 t7.toNat) []))) 4),
 .sl SK.any 6
 (gR (List.take 7 (List.drop 0 (u0.getD (addN t6_2 t7.toNat) []))) 5),
 .sl SK.any 7
 (gR (List.take 7 (List.drop 0 (u0.getD (addN t6_2 t7.toNat) []))) 6)]) (Mi K))))))
 (K4 t5 t6_2 t6_3 t7 u0 (Mi K))))))))
 (K (.exit (2)) ⟨[(0, .own Af),(5,Ai t5)],[(Af, .arr 1 true 7 u0)]⟩))):Hu t5 t6_2 t6_3 t7 u0 K:=lR [0,1,5,6,7] h
theorem Adn(t5:Int)(u0:LL)(K:KK)(h:
 (K .normal ⟨[(0, .own Af),(1, .fn Ca []),(5,Ai (i64.wrap (t5+(1:Int))))],[(Af, .arr 1 true 7 u0)]⟩)):Sk t5 u0 K:=cR [0,1,5] h
theorem Px(t5:Int)(t6_2 t6_3:Nat)(t7:Int)(u0:LL)(K:KK)(h:
 (K .normal ⟨[(0, .own Af),(1, .fn Ca []),(5,Ai t5),(6, .win Af 7 t6_2 t6_3),(7,Ai (i64.wrap (t7+(1:Int))))],[(Af, .arr 1 true 7 u0)]⟩)):K4 t5 t6_2 t6_3 t7 u0 K:=cR [0,1,5,6,7] h
theorem Ado(u0:LL)(K:KK)(h:
 (K .ret ⟨[(4, .own Af)],[(Af, .arr 1 true 7 u0)]⟩)):Sl u0 K:=cR [] h
theorem Adm(t5:Int)(u0:LL)(K:KK)(h:
 (Ag ((0:Int)≤t5∧t5≤(↑u0.length:Int))
 (Ag ((0:Int)≤t5∧
 t5≤
 (↑(Kj
 [.str [], .int .i64 (0:Int), .int .i64 (0:Int), .int .i64 (0:Int),
 .str [], .sl SK.nil (6:Nat) [], .sl SK.nil (7:Nat) []]
 t5.toNat (u0.length - t5.toNat) u0).length:
 Int))
 (K .ret ⟨[(4, .win Af 7 0 (t5.toNat - 0))],[(Af, .arr 1 true 7 (Kj
 [.str [], .int .i64 (0:Int), .int .i64 (0:Int), .int .i64 (0:Int), .str [],
 .sl SK.nil 6 [], .sl SK.nil 7 []]
 t5.toNat (u0.length - t5.toNat) u0))]⟩)))):Sj t5 u0 K:=cR [0,1,5] h
theorem Ad7(rows:LL)(Q:QQ)(u0:LL)(h:
 (Q (.win Af 7 0 u0.length) [(Af, .arr 1 true 7 u0)])):Mg rows Q .ret ⟨[(4, .own Af)],[(Af, .arr 1 true 7 u0)]⟩:=kq h
theorem Ad8(rows:LL)(Q:QQ)(u0:LL)(h:
 (Sl u0 (Mg rows Q))):Fs rows Q (.exit 0) ⟨[(0, .own Af)],[(Af, .arr 1 true 7 u0)]⟩:=kq h
theorem Ad9(rows:LL)(Q:QQ)(t4_2 t4_3:Nat)(u0:LL)(h:
 (Q (.win Af 7 t4_2 t4_3) [(Af, .arr 1 true 7 u0)])):Fs rows Q .ret ⟨[(4, .win Af 7 t4_2 t4_3)],[(Af, .arr 1 true 7 u0)]⟩:=kq h
theorem Aea(K:KK)(t5:Int)(u0:LL)(h:
 (H9 t5 u0 K)):H7 K .normal ⟨[(0, .own Af),(1, .fn Ca []),(5,Ai t5)],[(Af, .arr 1 true 7 u0)]⟩:=kq h
theorem Aeb(K:KK)(t4_2 t4_3:Nat)(u0:LL)(h:
 (K .ret ⟨[(4, .win Af 7 t4_2 t4_3)],[(Af, .arr 1 true 7 u0)]⟩)):H8 K .ret ⟨[(4, .win Af 7 t4_2 t4_3)],[(Af, .arr 1 true 7 u0)]⟩:=kq h
theorem Aec(K:KK)(t5:Int)(u0:LL)(h:
 (Sj t5 u0 (H8 K))):Mh K (.exit (2)) ⟨[(0, .own Af),(5,Ai t5)],[(Af, .arr 1 true 7 u0)]⟩:=kq h
theorem Q0(K:KK)(t5:Int)(t6_2 t6_3:Nat)(t7:Int)(u0:LL)(h:
 (Hu t5 t6_2 t6_3 t7 u0 K)):Mi K .normal ⟨[(0, .own Af),(1, .fn Ca []),(5,Ai t5),(6, .win Af 7 t6_2 t6_3),(7,Ai t7)],[(Af, .arr 1 true 7 u0)]⟩:=kq h
theorem Akg:Bd E0.P 51 Bl.code Bn [.tmp 4]:=fq Tryz.func51
theorem Agk(rows:LL)(Q:QQ)(h:
 (Br (decide ((↑rows.length:Int)<(2:Int)))
 (Q (.win Af 7 0 rows.length) [(Af, .arr 1 true 7 rows)])
 (H9 ((1:Int)) rows (Fs rows Q)))):Call E0.P Np [.own (.arg 0), .fn Ca []] [(.arg 0, .arr 1 true 7 rows)] Q:=fR 1 Akg h
noncomputable def Ed:AC:=(A7 [(3,[0,1,2,8,9,10],[]),(5,[0,1,2,8,9],[]),(9,[0,1,2,8,9],[])] [6,7] (codeOf Tryz.f53) 0).1
abbrev Ee:Nat:=49
def Cs(t0r:LL)(t1:LB)(t8 t9 t10:Int)(K:KK):Prop:=Ba 3 E0.P Ee (A9 3 Ed).code ⟨[(0,Al 7 t0r),(1,As t1),(2, .fn Dt []),(8,Ai t8),(9,Ai t9),(10,Ai t10)],[]⟩ K
def J9(t0r:LL)(t1:LB)(t8 t9:Int)(K:KK):Prop:=Ao 9 E0.P Ee (Ah 9 Ed).code ⟨[(0,Al 7 t0r),(1,As t1),(2, .fn Dt []),(8,Ai t8),(9,Ai t9)],[]⟩ K
def Gb(Q:QQ):KK:=kE fun st=>finish 0 E0.T [.tmp 6, .tmp 7] [] Q st
def Kc(Q:QQ):KK:=kF 0 (fun st=>Ao 9 E0.P Ee (Ah 9 Ed).code (mask [0,1,2,8,9] st) (Gb Q)) fun st=>finish 0 E0.T [.tmp 6, .tmp 7] [] Q st
theorem I5(t0r:LL)(t1:LB)(t8 t9 t10:Int)(K:KK)(h:
 (Br (decide (t9<t10))
 (Ag ((0:Int)≤(1:Int))
 (Ag (((0:Int)≤i64.wrap ((IntKind.u64.wrap (i64.wrap (t9+t10))).fdiv ((2:Int) ^ 1))∧
 i64.wrap ((IntKind.u64.wrap (i64.wrap (t9+t10))).fdiv ((2:Int) ^ 1))<
 (↑t0r.length:Int))∧
 Be
 [.str, .int .i64, .int .i64, .int .i64, .str, .sl 6 Aa,
 .sl 7 Ae]
 (t0r.getD (i64.wrap ((IntKind.u64.wrap (i64.wrap (t9+t10))).fdiv ((2:Int) ^ 1))).toNat
 [])=
 true)
 (Call E0.P Dt [.imm (.agg [.str (gS
 (t0r.getD (i64.wrap ((IntKind.u64.wrap (i64.wrap (t9+t10))).fdiv ((2:Int) ^ 1))).toNat [])
 0), .int .i64 (gI
 (t0r.getD (i64.wrap ((IntKind.u64.wrap (i64.wrap (t9+t10))).fdiv ((2:Int) ^ 1))).toNat [])
 1), .int .i64 (gI
 (t0r.getD (i64.wrap ((IntKind.u64.wrap (i64.wrap (t9+t10))).fdiv ((2:Int) ^ 1))).toNat [])
 2), .int .i64 (gI
 (t0r.getD (i64.wrap ((IntKind.u64.wrap (i64.wrap (t9+t10))).fdiv ((2:Int) ^ 1))).toNat [])
 3), .str (gS
 (t0r.getD (i64.wrap ((IntKind.u64.wrap (i64.wrap (t9+t10))).fdiv ((2:Int) ^ 1))).toNat [])
 4), .sl .any 6 (gR
 (t0r.getD (i64.wrap ((IntKind.u64.wrap (i64.wrap (t9+t10))).fdiv ((2:Int) ^ 1))).toNat [])
 5), .sl .any 7 (gR
 (t0r.getD (i64.wrap ((IntKind.u64.wrap (i64.wrap (t9+t10))).fdiv ((2:Int) ^ 1))).toNat [])
 6)]),As t1] [] fun r0 g0=>
 Ag (qV1 g0 r0)
 (Br (decide (rI r0<(0:Int)))
 (Cs t0r t1 t8 (i64.wrap
 (i64.wrap ((IntKind.u64.wrap (i64.wrap (t9+t10))).fdiv ((2:Int) ^ 1))+(1:Int))) t10 K)
 (Cs t0r t1 t8 t9 (i64.wrap ((IntKind.u64.wrap (i64.wrap (t9+t10))).fdiv ((2:Int) ^ 1))) K)))))
 (K (.exit 0) ⟨[(0,Al 7 t0r),(1,As t1),(2, .fn Dt []),(8,Ai t8),(9,Ai t9)],[]⟩))):Cs t0r t1 t8 t9 t10 K:=lR [0,1,2,8,9,10] h
theorem Si(t0r:LL)(t1:LB)(t8 t9:Int)(K:KK)(h:
 (Ag (decide (t9<t8)=true→
 ((0:Int)≤t9∧t9<(↑t0r.length:Int))∧
 Be
 [.str, .int .i64, .int .i64, .int .i64, .str, .sl 6 Aa,
 .sl 7 Ae]
 (t0r.getD t9.toNat [])=
 true)
 (Br (decide (t9<t8) == true)
 (Call E0.P Dt [.imm (.agg [.str (gS (t0r.getD t9.toNat []) 0), .int .i64 (gI (t0r.getD t9.toNat []) 1), .int .i64 (gI (t0r.getD t9.toNat []) 2), .int .i64 (gI (t0r.getD t9.toNat []) 3), .str (gS (t0r.getD t9.toNat []) 4), .sl .any 6 (gR (t0r.getD t9.toNat []) 5), .sl .any 7 (gR (t0r.getD t9.toNat []) 6)]),As t1] [] fun r0 g0=>
 Ag (qV1 g0 r0)
 (Let (decide (rI r0=(0:Int))) fun x1=>
 K .ret ⟨[(6,Ai t9),(7,Ab x1)],[]⟩))
 (Ag ((!true)=false)
 (Let (false) fun x2=>
 K .ret ⟨[(6,Ai t9),(7,Ab x2)],[]⟩))))):J9 t0r t1 t8 t9 K:=cR [] h
theorem Iz(Q:QQ)(t6:Int)(t7:Bool)(h:
 (Q (.tup [Ai t6,Ab t7]) [])):Gb Q .ret ⟨[(6,Ai t6),(7,Ab t7)],[]⟩:=kq h
theorem Sw(Q:QQ)(t0r:LL)(t1:LB)(t8 t9:Int)(h:
 (J9 t0r t1 t8 t9 (Gb Q))):Kc Q (.exit 0) ⟨[(0,Al 7 t0r),(1,As t1),(2, .fn Dt []),(8,Ai t8),(9,Ai t9)],[]⟩:=kq h
theorem Wn:Bd E0.P 53 Ed.code Ee [.tmp 6, .tmp 7]:=fq Tryz.func53
theorem Uk(a0:LL)(a1:LB)(Q:QQ)(h:
 (Cs a0 a1 ((↑a0.length:Int)) ((0:Int)) ((↑a0.length:Int)) (Kc Q))):Call E0.P Gu [Al 7 a0,As a1, .fn Dt []] [] Q:=fR 0 Wn h
noncomputable def Ba7:AC:=(A7 [] [4,5] (codeOf Tryz.f35) 0).1
abbrev Bbz:Nat:=11
theorem Bce:Bd E0.P 35 Ba7.code Bbz [.tmp 4, .tmp 5]:=fq Tryz.func35
theorem A3o(a0:LL)(a1:LB)(Q:QQ)(h:
 (Call E0.P Gu [Al 7 a0,As a1, .fn Dt []] [] fun r0 g0=>
 Ag (g0=[]∧r0= .tup [.imm (.int .i64 (rI (rT r0 0))), .imm (.bool (rB (rT r0 1)))])
 (Q (.tup [Ai (rI (rT r0 0)),Ab (rB (rT r0 1))]) []))):Call E0.P Ag7 [Al 7 a0,As a1] [] Q:=fR 0 Bce h
noncomputable def Yb:AC:=(A7 [(5,[2,4,8],[2]),(8,[2,4,12],[2]),(18,[2],[])] [2,3] (codeOf Tryz.f33) 0).1
abbrev Ym:Nat:=29
def Abo(t4:Int)(t8 u0:Bool)(u1 u2:Bool)(u3 u4:Bool)(K:KK):Prop:=Ao 5 E0.P Ym (Ah 5 Yb).code ⟨[(2, .ptr nL2 0),(4,Ai t4),(8,Ab t8)],[(nL2, .blk Bi [Ab u0,Ab u1,Ab u2,Ab u3,Ab u4])]⟩ K
def Abp(t4:Int)(t12 u0:Bool)(u1 u2:Bool)(u3 u4:Bool)(K:KK):Prop:=Ao 8 E0.P Ym (Ah 8 Yb).code ⟨[(2, .ptr nL2 0),(4,Ai t4),(12,Ab t12)],[(nL2, .blk Bi [Ab u0,Ab u1,Ab u2,Ab u3,Ab u4])]⟩ K
def Ar6(u0 u1:Bool)(u2 u3 u4:Bool)(K:KK):Prop:=Ao 18 E0.P Ym (Ah 18 Yb).code ⟨[(2, .ptr nL2 0)],[(nL2, .blk Bi [Ab u0,Ab u1,Ab u2,Ab u3,Ab u4])]⟩ K
def Aj5(Q:QQ):KK:=kE fun st=>finish 0 E0.T [.cell 2 69, .tmp 3] [] Q st
def Qo(Q:QQ):KK:=kF 0 (fun st=>Ao 18 E0.P Ym (Ah 18 Yb).code (mask [2] st) (Aj5 Q)) fun st=>finish 0 E0.T [.cell 2 69, .tmp 3] [] Q st
def Vr(K:KK):KK:=kP [2] K
theorem A3a(t4:Int)(t8 u0:Bool)(u1 u2:Bool)(u3 u4:Bool)(K:KK)(h:
 (Br (t8)
 (K .ret ⟨[(2, .ptr nL2 0),(3,Ab true)],[(nL2, .blk Bi [Ab true,Ab false,Ab false,Ab false,Ab false])]⟩)
 (Br (decide (t4=(3:Int)))
 (Abp t4 (decide (t4=(3:Int))) u0 u1 u2 u3 u4 (Vr K))
 (Abp t4 (decide (t4=(4:Int))) u0 u1 u2 u3 u4 (Vr K))))):Abo t4 t8 u0 u1 u2 u3 u4 K:=cR [2] h
theorem A3b(t4:Int)(t12 u0:Bool)(u1 u2:Bool)(u3 u4:Bool)(K:KK)(h:
 (Br (t12)
 (K .ret ⟨[(2, .ptr nL2 0),(3,Ab true)],[(nL2, .blk Bi [Ab false,Ab false,Ab true,Ab false,Ab false])]⟩)
 (Br (decide (t4=(5:Int)))
 (K .ret ⟨[(2, .ptr nL2 0),(3,Ab true)],[(nL2, .blk Bi [Ab false,Ab false,Ab false,Ab true,Ab false])]⟩)
 (Br (decide (t4=(6:Int)))
 (K .ret ⟨[(2, .ptr nL2 0),(3,Ab true)],[(nL2, .blk Bi [Ab false,Ab false,Ab false,Ab false,Ab true])]⟩)
 (Br (decide (t4=(7:Int)))
 (K .ret ⟨[(2, .ptr nL2 0),(3,Ab true)],[(nL2, .blk Bi [Ab true,Ab true,Ab false,Ab false,Ab false])]⟩)
 (Br (decide (t4=(8:Int)))
 (K .ret ⟨[(2, .ptr nL2 0),(3,Ab true)],[(nL2, .blk Bi [Ab false,Ab false,Ab true,Ab false,Ab true])]⟩)
 (K .normal ⟨[(2, .ptr nL2 0)],[(nL2, .blk Bi [Ab u0,Ab u1,Ab u2,Ab u3,Ab u4])]⟩))))))):Abp t4 t12 u0 u1 u2 u3 u4 K:=cR [2] h
theorem A1c(u0 u1:Bool)(u2 u3 u4:Bool)(K:KK)(h:
 (K .ret ⟨[(2, .ptr nL2 0),(3,Ab false)],[(nL2, .blk Bi [Ab false,Ab false,Ab false,Ab false,Ab false])]⟩)):Ar6 u0 u1 u2 u3 u4 K:=cR [] h
theorem A4r(Q:QQ)(t3 u0:Bool)(u1 u2:Bool)(u3 u4:Bool)(h:
 (Q (.tup [.imm (.agg [.bool u0, .bool u1, .bool u2, .bool u3, .bool u4]),Ab t3]) [])):Aj5 Q .ret ⟨[(2, .ptr nL2 0),(3,Ab t3)],[(nL2, .blk Bi [Ab u0,Ab u1,Ab u2,Ab u3,Ab u4])]⟩:=kq h
theorem K8(Q:QQ)(t3 u0:Bool)(u1 u2:Bool)(u3 u4:Bool)(h:
 (Q (.tup [.imm (.agg [.bool u0, .bool u1, .bool u2, .bool u3, .bool u4]),Ab t3]) [])):Qo Q .ret ⟨[(2, .ptr nL2 0),(3,Ab t3)],[(nL2, .blk Bi [Ab u0,Ab u1,Ab u2,Ab u3,Ab u4])]⟩:=kq h
theorem A4s(Q:QQ)(u0 u1:Bool)(u2 u3 u4:Bool)(h:
 (Ar6 u0 u1 u2 u3 u4 (Aj5 Q))):Qo Q .normal ⟨[(2, .ptr nL2 0)],[(nL2, .blk Bi [Ab u0,Ab u1,Ab u2,Ab u3,Ab u4])]⟩:=kq h
theorem O7(K:KK)(t3 u0:Bool)(u1 u2:Bool)(u3 u4:Bool)(h:
 (K .ret ⟨[(2, .ptr nL2 0),(3,Ab t3)],[(nL2, .blk Bi [Ab u0,Ab u1,Ab u2,Ab u3,Ab u4])]⟩)):Vr K .ret ⟨[(2, .ptr nL2 0),(3,Ab t3)],[(nL2, .blk Bi [Ab u0,Ab u1,Ab u2,Ab u3,Ab u4])]⟩:=kq h
theorem A4t(K:KK)(u0 u1:Bool)(u2 u3 u4:Bool)(h:
 (K .normal ⟨[(2, .ptr nL2 0)],[(nL2, .blk Bi [Ab u0,Ab u1,Ab u2,Ab u3,Ab u4])]⟩)):Vr K .normal ⟨[(2, .ptr nL2 0)],[(nL2, .blk Bi [Ab u0,Ab u1,Ab u2,Ab u3,Ab u4])]⟩:=kq h
theorem Bil:Bd E0.P 33 Yb.code Ym [.cell 2 69, .tmp 3]:=fq Tryz.func33
theorem A92(a0:Int)(Q:QQ)(h:
 (Br (decide (a0=(0:Int)))
 (Q (.tup [.imm (.agg [.bool false, .bool false, .bool false, .bool false, .bool false]),Ab true]) [])
 (Br (decide (a0=(1:Int)))
 (Abo a0 (decide (a0=(1:Int))) false false false false false (Qo Q))
 (Abo a0 (decide (a0=(2:Int))) false false false false false (Qo Q))))):Call E0.P Afh [Ai a0] [] Q:=fR 0 Bil h
noncomputable def Pq:AC:=(A7 [(6,[4,14,15,16],[]),(8,[4],[]),(14,[4],[])] [2] (codeOf Tryz.f34) 0).1
abbrev Pw:Nat:=35
def Jm(t14_2 t14_3:Nat)(t15 t16:Int)(u0 u1:LL)(K:KK):Prop:=Ba 6 E0.P Pw (A9 6 Pq).code ⟨[(4, .own nL4),(14, .win (Nm.sub 9 nL0) 7 t14_2 t14_3),(15,Ai t15),(16,Ai t16)],[(nL4, .arr (Ae+2) true 7 u0),((Nm.sub 9 nL0), .arr 1 true 7 u1)]⟩ K
def Ac7(u0:LL)(K:KK):Prop:=Ao 14 E0.P Pw (Ah 14 Pq).code ⟨[(4, .own nL4)],[(nL4, .arr (Ae+2) true 7 u0)]⟩ K
def Um(Q:QQ):KK:=kE fun st=>finish 0 E0.T [.tmp 2] [] Q st
def Un(Q:QQ):KK:=kF 0 (fun st=>Ao 14 E0.P Pw (Ah 14 Pq).code (mask [4] st) (Um Q)) fun st=>finish 0 E0.T [.tmp 2] [] Q st
theorem Aaa(t14_2 t14_3:Nat)(t15 t16:Int)(u0 u1:LL)(K:KK)(h:
 (Br (decide (t16<t15))
 (Ag ((0:Int)≤t16∧t16<(↑t14_3:Int))
 (Ag (addN t14_2 t16.toNat<u1.length∧
 Be
 [.str, .int .i64, .int .i64, .int .i64, .str, .sl 6 Aa,
 .sl 7 Ae]
 (List.take 7 (List.drop 0 (u1.getD (addN t14_2 t16.toNat) [])))=
 true)
 (Call E0.P Gq [.imm (.agg [.int .i64 (gI (List.take 7 (List.drop 0 (u1.getD (addN t14_2 t16.toNat) []))) 1), .int .i64 (gI (List.take 7 (List.drop 0 (u1.getD (addN t14_2 t16.toNat) []))) 2), .int .i64 (gI (List.take 7 (List.drop 0 (u1.getD (addN t14_2 t16.toNat) []))) 3), .str (gS (List.take 7 (List.drop 0 (u1.getD (addN t14_2 t16.toNat) []))) 4), .sl .any 6 (gR (List.take 7 (List.drop 0 (u1.getD (addN t14_2 t16.toNat) []))) 5), .sl .any 7 (gR (List.take 7 (List.drop 0 (u1.getD (addN t14_2 t16.toNat) []))) 6)])] [] fun r0 g0=>
 Ag (qV3 g0 r0)
 (Br (!decide (gI (Ac r0) 0=(0:Int)))
 (Ag ((u0.length+1)*104≤140737488355328∧u0.length+1≤140737488355328)
 (Jm t14_2 t14_3 t15 (i64.wrap (t16+(1:Int))) (u0++
 [[IV.str (gS (List.take 7 (List.drop 0 (u1.getD (addN t14_2 t16.toNat) []))) 0),
 .int .i64 (gI (Ac r0) 0), .int .i64 (gI (Ac r0) 1),
 .int .i64 (gI (Ac r0) 2), .str (gS (Ac r0) 3),
 .sl SK.any 6 (gR (Ac r0) 4), .sl SK.any 7 (gR (Ac r0) 5)]]) u1 K))
 (Jm t14_2 t14_3 t15 (i64.wrap (t16+(1:Int))) u0 u1 K)))))
 (K (.exit 0) ⟨[(4, .own nL4)],[(nL4, .arr (Ae+2) true 7 u0)]⟩))):Jm t14_2 t14_3 t15 t16 u0 u1 K:=lR [4,14,15,16] h
theorem Ams(u0:LL)(K:KK)(h:
 (K .ret ⟨[(2, .own nL4)],[(nL4, .arr (Ae+2) true 7 u0)]⟩)):Ac7 u0 K:=cR [] h
theorem Apc(Q:QQ)(u0:LL)(h:
 (Q (Al 7 u0) [])):Um Q .ret ⟨[(2, .own nL4)],[(nL4, .arr (Ae+2) true 7 u0)]⟩:=kq h
theorem Apd(Q:QQ)(u0:LL)(h:
 (Ac7 u0 (Um Q))):Un Q (.exit 0) ⟨[(4, .own nL4)],[(nL4, .arr (Ae+2) true 7 u0)]⟩:=kq h
theorem Axk:Bd E0.P 34 Pq.code Pw [.tmp 2]:=fq Tryz.func34
theorem Asb(a0:LL)(Q:QQ)(h:
 (Call E0.P Vb [Al 7 a0] [] fun r0 g0=>
 Ag (g0=[]++[(Nm.loc 0,Entry.arr 0 true 7 (Cq g0 nL0))]∧
 r0=AV.own nL0)
 (Call E0.P Ku [.own Af, .fn Ak []] [(Af, .arr 1 true 7 (Cq g0 nL0))] fun r1 g1=>
 Ag (qV2 g1 r1)
 (Call E0.P Np [.own Af, .fn Ca []] [(Af, .arr 1 true 7 (Cq g1 Af))] fun r2 g2=>
 Ag (g2=[(Nm.arg 0,Entry.arr 1 true 7 (Cq g2 Af))]∧
 r2=AV.win Af 7 (rWo r2) (rWl r2))
 (Jm (rWo r2) (rWl r2) ((↑(rWl r2):Int)) ((0:Int)) [] (Cq g2 Af) (Un Q)))))):Call E0.P Wl [Al 7 a0] [] Q:=fR 0 Axk h
noncomputable def La:AC:=(A7 [(7,[1,2,3,5],[]),(9,[1,2,3,5],[]),(11,[1,2,3,5],[]),(14,[1,2,3,5,38,39,40],[]),(16,[1,2,3,5],[]),(20,[1,2,3,5],[])] [2] (codeOf Tryz.f16) 0).1
abbrev Lj:Nat:=59
def Wo(u0 u1 u2:Int)(u3:LB)(u4 u5:LL)(u6 u7 u8:Int)(u9:LB)(v0 v1:Bool)(v2 v3 v4:Bool)(v5 v6 v7:Int)(v8:LB)(v9 w0:LL)(w1 w2:LL)(K:KK):Prop:=Ao 7 E0.P Lj (Ah 7 La).code ⟨[(1, .ptr Ej 0),(2, .ptr nL2 0),(3, .ptr nL3 0),(5, .ptr nL5 0)],[(Ej, .blk Aa [Ai u0,Ai u1,Ai u2,As u3,Al 6 u4,Al 7 u5]),(nL2, .blk Aa [Ai u6,Ai u7,Ai u8,As u9, .own (nL2.cell 4), .own (nL2.cell 5)]),(nL3, .blk Bi [Ab v0,Ab v1,Ab v2,Ab v3,Ab v4]),(nL5, .blk Aa [Ai v5,Ai v6,Ai v7,As v8, .own (nL5.cell 4), .own (nL5.cell 5)]),((nL2.cell 4), .arr (Aa+2) true 6 v9),((nL2.cell 5), .arr (Ae+2) true 7 w0),((nL5.cell 4), .arr (Aa+2) true 6 w1),((nL5.cell 5), .arr (Ae+2) true 7 w2)]⟩ K
def Wp(u0 u1 u2:Int)(u3:LB)(u4 u5:LL)(u6 u7 u8:Int)(u9:LB)(v0 v1:Bool)(v2 v3 v4:Bool)(v5 v6 v7:Int)(v8:LB)(v9 w0:LL)(w1 w2:LL)(K:KK):Prop:=Ao 9 E0.P Lj (Ah 9 La).code ⟨[(1, .ptr Ej 0),(2, .ptr nL2 0),(3, .ptr nL3 0),(5, .ptr nL5 0)],[(Ej, .blk Aa [Ai u0,Ai u1,Ai u2,As u3,Al 6 u4,Al 7 u5]),(nL2, .blk Aa [Ai u6,Ai u7,Ai u8,As u9, .own (nL2.cell 4), .own (nL2.cell 5)]),(nL3, .blk Bi [Ab v0,Ab v1,Ab v2,Ab v3,Ab v4]),(nL5, .blk Aa [Ai v5,Ai v6,Ai v7,As v8, .own (nL5.cell 4), .own (nL5.cell 5)]),((nL2.cell 4), .arr (Aa+2) true 6 v9),((nL2.cell 5), .arr (Ae+2) true 7 w0),((nL5.cell 4), .arr (Aa+2) true 6 w1),((nL5.cell 5), .arr (Ae+2) true 7 w2)]⟩ K
def Uh(u0 u1 u2:Int)(u3:LB)(u4 u5:LL)(u6 u7 u8:Int)(u9:LB)(v0 v1:Bool)(v2 v3 v4:Bool)(v5 v6 v7:Int)(v8:LB)(v9 w0:LL)(w1 w2:LL)(K:KK):Prop:=Ao 11 E0.P Lj (Ah 11 La).code ⟨[(1, .ptr Ej 0),(2, .ptr nL2 0),(3, .ptr nL3 0),(5, .ptr nL5 0)],[(Ej, .blk Aa [Ai u0,Ai u1,Ai u2,As u3,Al 6 u4,Al 7 u5]),(nL2, .blk Aa [Ai u6,Ai u7,Ai u8,As u9, .own (nL2.cell 4), .own (nL2.cell 5)]),(nL3, .blk Bi [Ab v0,Ab v1,Ab v2,Ab v3,Ab v4]),(nL5, .blk Aa [Ai v5,Ai v6,Ai v7,As v8, .own (nL5.cell 4), .own (nL5.cell 5)]),((nL2.cell 4), .arr (Aa+2) true 6 v9),((nL2.cell 5), .arr (Ae+2) true 7 w0),((nL5.cell 4), .arr (Aa+2) true 6 w1),((nL5.cell 5), .arr (Ae+2) true 7 w2)]⟩ K
def Us(t38r:LL)(t39 t40:Int)(u0 u1 u2:Int)(u3:LB)(u4 u5:LL)(u6 u7 u8:Int)(u9:LB)(v0 v1:Bool)(v2 v3 v4:Bool)(v5 v6 v7:Int)(v8:LB)(v9 w0:LL)(w1 w2:LL)(K:KK):Prop:=Ba 14 E0.P Lj (A9 14 La).code ⟨[(1, .ptr Ej 0),(2, .ptr nL2 0),(3, .ptr nL3 0),(5, .ptr nL5 0),(38,Al 6 t38r),(39,Ai t39),(40,Ai t40)],[(Ej, .blk Aa [Ai u0,Ai u1,Ai u2,As u3,Al 6 u4,Al 7 u5]),(nL2, .blk Aa [Ai u6,Ai u7,Ai u8,As u9, .own (nL2.cell 4), .own (nL2.cell 5)]),(nL3, .blk Bi [Ab v0,Ab v1,Ab v2,Ab v3,Ab v4]),(nL5, .blk Aa [Ai v5,Ai v6,Ai v7,As v8, .own (nL5.cell 4), .own (nL5.cell 5)]),((nL2.cell 4), .arr (Aa+2) true 6 v9),((nL2.cell 5), .arr (Ae+2) true 7 w0),((nL5.cell 4), .arr (Aa+2) true 6 w1),((nL5.cell 5), .arr (Ae+2) true 7 w2)]⟩ K
def Ui(u0 u1 u2:Int)(u3:LB)(u4 u5:LL)(u6 u7 u8:Int)(u9:LB)(v0 v1:Bool)(v2 v3 v4:Bool)(v5 v6 v7:Int)(v8:LB)(v9 w0:LL)(w1 w2:LL)(K:KK):Prop:=Ao 20 E0.P Lj (Ah 20 La).code ⟨[(1, .ptr Ej 0),(2, .ptr nL2 0),(3, .ptr nL3 0),(5, .ptr nL5 0)],[(Ej, .blk Aa [Ai u0,Ai u1,Ai u2,As u3,Al 6 u4,Al 7 u5]),(nL2, .blk Aa [Ai u6,Ai u7,Ai u8,As u9, .own (nL2.cell 4), .own (nL2.cell 5)]),(nL3, .blk Bi [Ab v0,Ab v1,Ab v2,Ab v3,Ab v4]),(nL5, .blk Aa [Ai v5,Ai v6,Ai v7,As v8, .own (nL5.cell 4), .own (nL5.cell 5)]),((nL2.cell 4), .arr (Aa+2) true 6 v9),((nL2.cell 5), .arr (Ae+2) true 7 w0),((nL5.cell 4), .arr (Aa+2) true 6 w1),((nL5.cell 5), .arr (Ae+2) true 7 w2)]⟩ K
def Q3(Q:QQ):KK:=kE fun st=>finish 0 E0.T [.cell 2 28] [] Q st
def Fj(K:KK):KK:=kP [] K
def Aed(K:KK):KK:=kC 0 (fun st=>Ao 20 E0.P Lj (Ah 20 La).code (mask [1,2,3,5] st) (Fj K)) K
theorem Axz(u0 u1 u2:Int)(u3:LB)(u4 u5:LL)(u6 u7 u8:Int)(u9:LB)(v0 v1:Bool)(v2 v3 v4:Bool)(v5 v6 v7:Int)(v8:LB)(v9 w0:LL)(w1 w2:LL)(K:KK)(h:
 (Br (v1)
 (Wp u0 u1 u2 u3 u4 u5 u6 u7 u8 u9 v0 v1 v2 v3 v4 v5 v6 u2 v8 v9 w0 w1 w2 (Fj K))
 (Wp u0 u1 u2 u3 u4 u5 u6 u7 u8 u9 v0 v1 v2 v3 v4 v5 v6 v7 v8 v9 w0 w1 w2 (Fj K)))):Wo u0 u1 u2 u3 u4 u5 u6 u7 u8 u9 v0 v1 v2 v3 v4 v5 v6 v7 v8 v9 w0 w1 w2 K:=cR [] h
theorem Ax0(u0 u1 u2:Int)(u3:LB)(u4 u5:LL)(u6 u7 u8:Int)(u9:LB)(v0 v1:Bool)(v2 v3 v4:Bool)(v5 v6 v7:Int)(v8:LB)(v9 w0:LL)(w1 w2:LL)(K:KK)(h:
 (Br (v2)
 (Uh u0 u1 u2 u3 u4 u5 u6 u7 u8 u9 v0 v1 v2 v3 v4 v5 v6 v7 u3 v9 w0 w1 w2 (Fj K))
 (Uh u0 u1 u2 u3 u4 u5 u6 u7 u8 u9 v0 v1 v2 v3 v4 v5 v6 v7 v8 v9 w0 w1 w2 (Fj K)))):Wp u0 u1 u2 u3 u4 u5 u6 u7 u8 u9 v0 v1 v2 v3 v4 v5 v6 v7 v8 v9 w0 w1 w2 K:=cR [] h
theorem Awo(u0 u1 u2:Int)(u3:LB)(u4 u5:LL)(u6 u7 u8:Int)(u9:LB)(v0 v1:Bool)(v2 v3 v4:Bool)(v5 v6 v7:Int)(v8:LB)(v9 w0:LL)(w1 w2:LL)(K:KK)(h:
 (Br (v3)
 (Us u4 ((↑u4.length:Int)) ((0:Int)) u0 u1 u2 u3 u4 u5 u6 u7 u8 u9 v0 v1 v2 v3 v4 v5 v6 v7 v8 v9 w0 w1 w2 (Aed K))
 (Ui u0 u1 u2 u3 u4 u5 u6 u7 u8 u9 v0 v1 v2 v3 v4 v5 v6 v7 v8 v9 w0 w1 w2 (Fj K)))):Uh u0 u1 u2 u3 u4 u5 u6 u7 u8 u9 v0 v1 v2 v3 v4 v5 v6 v7 v8 v9 w0 w1 w2 K:=cR [] h
theorem Aga(t38r:LL)(t39 t40:Int)(u0 u1 u2:Int)(u3:LB)(u4 u5:LL)(u6 u7 u8:Int)(u9:LB)(v0 v1:Bool)(v2 v3 v4:Bool)(v5 v6 v7:Int)(v8:LB)(v9 w0:LL)(w1 w2:LL)(K:KK)(h:
 (Br (decide (t40<t39))
 (Ag (((0:Int)≤t40∧t40<(↑t38r.length:Int))∧
 Be
 [.int .i64, .int .i64, .int .i64, .str, .sl 6 Aa,
 .sl 7 Ae]
 (t38r.getD t40.toNat [])=
 true)
 (Call E0.P Gq [.imm (.agg [.int .i64 (gI (t38r.getD t40.toNat []) 0), .int .i64 (gI (t38r.getD t40.toNat []) 1), .int .i64 (gI (t38r.getD t40.toNat []) 2), .str (gS (t38r.getD t40.toNat []) 3), .sl .any 6 (gR (t38r.getD t40.toNat []) 4), .sl .any 7 (gR (t38r.getD t40.toNat []) 5)])] [] fun r0 g0=>
 Ag (qV3 g0 r0)
 (Ag ((w1.length+1)*88≤140737488355328∧w1.length+1≤140737488355328)
 (Us t38r t39 (i64.wrap (t40+(1:Int))) u0 u1 u2 u3 u4 u5 u6 u7 u8 u9 v0 v1 v2 v3 v4 v5 v6 v7 v8 v9 w0 (w1++
 [[IV.int .i64 (gI (Ac r0) 0), .int .i64 (gI (Ac r0) 1),
 .int .i64 (gI (Ac r0) 2), .str (gS (Ac r0) 3),
 .sl SK.any 6 (gR (Ac r0) 4), .sl SK.any 7 (gR (Ac r0) 5)]]) w2 K))))
 (K (.exit 0) ⟨[(1, .ptr Ej 0),(2, .ptr nL2 0),(3, .ptr nL3 0),(5, .ptr nL5 0)],[(Ej, .blk Aa [Ai u0,Ai u1,Ai u2,As u3,Al 6 u4,Al 7 u5]),(nL2, .blk Aa [Ai u6,Ai u7,Ai u8,As u9, .own (nL2.cell 4), .own (nL2.cell 5)]),(nL3, .blk Bi [Ab v0,Ab v1,Ab v2,Ab v3,Ab v4]),(nL5, .blk Aa [Ai v5,Ai v6,Ai v7,As v8, .own (nL5.cell 4), .own (nL5.cell 5)]),((nL2.cell 4), .arr (Aa+2) true 6 v9),((nL2.cell 5), .arr (Ae+2) true 7 w0),((nL5.cell 4), .arr (Aa+2) true 6 w1),((nL5.cell 5), .arr (Ae+2) true 7 w2)]⟩))):Us t38r t39 t40 u0 u1 u2 u3 u4 u5 u6 u7 u8 u9 v0 v1 v2 v3 v4 v5 v6 v7 v8 v9 w0 w1 w2 K:=lR [1,2,3,5,38,39,40] h
theorem Awp(u0 u1 u2:Int)(u3:LB)(u4 u5:LL)(u6 u7 u8:Int)(u9:LB)(v0 v1:Bool)(v2 v3 v4:Bool)(v5 v6 v7:Int)(v8:LB)(v9 w0:LL)(w1 w2:LL)(K:KK)(h:
 (Br (v4)
 (Call E0.P Wl [Al 7 u5] [] fun r0 g0=>
 Ag (qV4 g0 r0)
 (K .ret ⟨[(2, .ptr nL2 0)],[(nL2, .blk Aa [Ai v5,Ai v6,Ai v7,As v8, .own (nL5.cell 4),Al 7 (rR r0)]),((nL5.cell 4), .arr (Aa+2) true 6 w1)]⟩))
 (K .ret ⟨[(2, .ptr nL2 0)],[(nL2, .blk Aa [Ai v5,Ai v6,Ai v7,As v8, .own (nL5.cell 4), .own (nL5.cell 5)]),((nL5.cell 4), .arr (Aa+2) true 6 w1),((nL5.cell 5), .arr (Ae+2) true 7 w2)]⟩))):Ui u0 u1 u2 u3 u4 u5 u6 u7 u8 u9 v0 v1 v2 v3 v4 v5 v6 v7 v8 v9 w0 w1 w2 K:=cR [] h
theorem Ayj(Q:QQ)(u0 u1 u2:Int)(u3:LB)(u4 u5:LL)(h:
 (Q (.imm (.agg [.int .i64 u0, .int .i64 u1, .int .i64 u2, .str u3, .sl .any 6 u5, .sl .any 7 u4])) [])):Q3 Q .ret ⟨[(2, .ptr nL2 0)],[(nL2, .blk Aa [Ai u0,Ai u1,Ai u2,As u3, .own (nL5.cell 4),Al 7 u4]),((nL5.cell 4), .arr (Aa+2) true 6 u5)]⟩:=kq h
theorem Ayk(Q:QQ)(u0 u1 u2:Int)(u3:LB)(u4 u5:LL)(h:
 (Q (.imm (.agg [.int .i64 u0, .int .i64 u1, .int .i64 u2, .str u3, .sl .any 6 u4, .sl .any 7 u5])) [])):Q3 Q .ret ⟨[(2, .ptr nL2 0)],[(nL2, .blk Aa [Ai u0,Ai u1,Ai u2,As u3, .own (nL5.cell 4), .own (nL5.cell 5)]),((nL5.cell 4), .arr (Aa+2) true 6 u4),((nL5.cell 5), .arr (Ae+2) true 7 u5)]⟩:=kq h
theorem Ayl(K:KK)(u0 u1 u2:Int)(u3:LB)(u4 u5:LL)(h:
 (K .ret ⟨[(2, .ptr nL2 0)],[(nL2, .blk Aa [Ai u0,Ai u1,Ai u2,As u3, .own (nL5.cell 4),Al 7 u4]),((nL5.cell 4), .arr (Aa+2) true 6 u5)]⟩)):Fj K .ret ⟨[(2, .ptr nL2 0)],[(nL2, .blk Aa [Ai u0,Ai u1,Ai u2,As u3, .own (nL5.cell 4),Al 7 u4]),((nL5.cell 4), .arr (Aa+2) true 6 u5)]⟩:=kq h
theorem Aym(K:KK)(u0 u1 u2:Int)(u3:LB)(u4 u5:LL)(h:
 (K .ret ⟨[(2, .ptr nL2 0)],[(nL2, .blk Aa [Ai u0,Ai u1,Ai u2,As u3, .own (nL5.cell 4), .own (nL5.cell 5)]),((nL5.cell 4), .arr (Aa+2) true 6 u4),((nL5.cell 5), .arr (Ae+2) true 7 u5)]⟩)):Fj K .ret ⟨[(2, .ptr nL2 0)],[(nL2, .blk Aa [Ai u0,Ai u1,Ai u2,As u3, .own (nL5.cell 4), .own (nL5.cell 5)]),((nL5.cell 4), .arr (Aa+2) true 6 u4),((nL5.cell 5), .arr (Ae+2) true 7 u5)]⟩:=kq h
theorem Ayn(K:KK)(u0 u1 u2:Int)(u3:LB)(u4 u5:LL)(u6 u7 u8:Int)(u9:LB)(v0 v1:Bool)(v2 v3 v4:Bool)(v5 v6 v7:Int)(v8:LB)(v9 w0:LL)(w1 w2:LL)(h:
 (Ui u0 u1 u2 u3 u4 u5 u6 u7 u8 u9 v0 v1 v2 v3 v4 v5 v6 v7 v8 v9 w0 w1 w2 (Fj K))):Aed K (.exit 0) ⟨[(1, .ptr Ej 0),(2, .ptr nL2 0),(3, .ptr nL3 0),(5, .ptr nL5 0)],[(Ej, .blk Aa [Ai u0,Ai u1,Ai u2,As u3,Al 6 u4,Al 7 u5]),(nL2, .blk Aa [Ai u6,Ai u7,Ai u8,As u9, .own (nL2.cell 4), .own (nL2.cell 5)]),(nL3, .blk Bi [Ab v0,Ab v1,Ab v2,Ab v3,Ab v4]),(nL5, .blk Aa [Ai v5,Ai v6,Ai v7,As v8, .own (nL5.cell 4), .own (nL5.cell 5)]),((nL2.cell 4), .arr (Aa+2) true 6 v9),((nL2.cell 5), .arr (Ae+2) true 7 w0),((nL5.cell 4), .arr (Aa+2) true 6 w1),((nL5.cell 5), .arr (Ae+2) true 7 w2)]⟩:=kq h
theorem Bcc:Bd E0.P 16 La.code Lj [.cell 2 28]:=fq Tryz.func16
theorem A3m(a0_0 a0_1 a0_2:Int)(a0_3:LB)(a0_4 a0_5:LL)(Q:QQ)(h:
 (Call E0.P Afh [Ai a0_0] [] fun r0 g0=>
 Ag (g0=[]∧
 r0=
 .tup
 [.imm
 (IV.agg
 [.bool (gB (Ac (rT r0 0)) 0), .bool (gB (Ac (rT r0 0)) 1),
 .bool (gB (Ac (rT r0 0)) 2), .bool (gB (Ac (rT r0 0)) 3),
 .bool (gB (Ac (rT r0 0)) 4)]),
 .imm (.bool (rB (rT r0 1)))])
 (Br (!rB (rT r0 1))
 (Q (.imm (.agg [.int .i64 0, .int .i64 0, .int .i64 0, .str [], .sl .any 6 [], .sl .any 7 []])) [])
 (Br (gB (Ac (rT r0 0)) 0)
 (Wo a0_0 a0_1 a0_2 a0_3 a0_4 a0_5 ((0:Int)) ((0:Int)) ((0:Int)) [] (gB (Ac (rT r0 0)) 0) (gB (Ac (rT r0 0)) 1) (gB (Ac (rT r0 0)) 2) (gB (Ac (rT r0 0)) 3) (gB (Ac (rT r0 0)) 4) a0_0 a0_1 ((0:Int)) [] [] [] [] [] (Q3 Q))
 (Wo a0_0 a0_1 a0_2 a0_3 a0_4 a0_5 ((0:Int)) ((0:Int)) ((0:Int)) [] (gB (Ac (rT r0 0)) 0) (gB (Ac (rT r0 0)) 1) (gB (Ac (rT r0 0)) 2) (gB (Ac (rT r0 0)) 3) (gB (Ac (rT r0 0)) 4) a0_0 ((0:Int)) ((0:Int)) [] [] [] [] [] (Q3 Q)))))):Call E0.P Gq [.imm (.agg [.int .i64 a0_0, .int .i64 a0_1, .int .i64 a0_2, .str a0_3, .sl .any 6 a0_4, .sl .any 7 a0_5])] [] Q:=fR 0 Bcc h
noncomputable def Bgf:AC:=(A7 [] [4,5] (codeOf Tryz.f17) 0).1
abbrev Bh4:Nat:=26
theorem Bik:Bd E0.P 17 Bgf.code Bh4 [.cell 4 28, .tmp 5]:=fq Tryz.func17
theorem A91(a0_0 a0_1 a0_2:Int)(a0_3:LB)(a0_4 a0_5:LL)(a1:LB)(Q:QQ)(h:
 (Call E0.P Gq [.imm (.agg [.int .i64 a0_0, .int .i64 a0_1, .int .i64 a0_2, .str a0_3, .sl .any 6 a0_4, .sl .any 7 a0_5])] [] fun r0 g0=>
 Ag (qV3 g0 r0)
 (Call E0.P Ag7 [Al 7 (gR (Ac r0) 5),As a1] [] fun r1 g1=>
 Ag (g1=[]∧r1= .tup [.imm (.int .i64 (rI (rT r1 0))), .imm (.bool (rB (rT r1 1)))])
 (Br (!rB (rT r1 1))
 (Q (.tup [.imm (.agg [.int .i64 0, .int .i64 0, .int .i64 0, .str [], .sl .any 6 [], .sl .any 7 []]),Ab false]) [])
 (Ag (((0:Int)≤rI (rT r1 0)∧rI (rT r1 0)<(↑(gR (Ac r0) (5:Nat)).length:Int))∧
 Be
 [.str, .int .i64, .int .i64, .int .i64, .str, .sl 6 Aa,
 .sl 7 Ae]
 ((gR (Ac r0) 5).getD (rI (rT r1 0)).toNat [])=
 true)
 (Q (.tup [.imm (.agg [.int .i64 (gI ((gR (Ac r0) 5).getD (rI (rT r1 0)).toNat []) 1), .int .i64 (gI ((gR (Ac r0) 5).getD (rI (rT r1 0)).toNat []) 2), .int .i64 (gI ((gR (Ac r0) 5).getD (rI (rT r1 0)).toNat []) 3), .str (gS ((gR (Ac r0) 5).getD (rI (rT r1 0)).toNat []) 4), .sl .any 6 (gR ((gR (Ac r0) 5).getD (rI (rT r1 0)).toNat []) 5), .sl .any 7 (gR ((gR (Ac r0) 5).getD (rI (rT r1 0)).toNat []) 6)]),Ab true]) [])))))):Call E0.P Tt [.imm (.agg [.int .i64 a0_0, .int .i64 a0_1, .int .i64 a0_2, .str a0_3, .sl .any 6 a0_4, .sl .any 7 a0_5]),As a1] [] Q:=fR 0 Bik h
noncomputable def Q8:AC:=(A7 [(4,[0,3,5,6,7],[]),(6,[3,5,6],[]),(13,[0,3,5,6,7],[0,3,5,6,7]),(14,[0,3,5,6,7],[0,3,5,6,7]),(15,[3,5,6],[])] [4] (codeOf Tryz.f88) 0).1
abbrev Rl:Nat:=54
def Ahu(t0r:LL)(t6:Bool)(t7:Int)(u0:LB)(u1 u2 u3:Int)(u4:LB)(u5 u6 u7:LL)(K:KK):Prop:=Ba 4 E0.P Rl (A9 4 Q8).code ⟨[(0,Al 7 t0r),(3, .ptr nL3 0),(5, .own Ud),(6,Ab t6),(7,Ai t7)],[(nL3, .blk Ae [As u0,Ai u1,Ai u2,Ai u3,As u4,Al 6 u5,Al 7 u6]),(Ud, .arr 0 true 7 u7)]⟩ K
def Adv(t0r:LL)(t6:Bool)(t7:Int)(u0:LB)(u1 u2 u3:Int)(u4:LB)(u5 u6 u7:LL)(K:KK):Prop:=Ao 13 E0.P Rl (Ah 13 Q8).code ⟨[(0,Al 7 t0r),(3, .ptr nL3 0),(5, .own Ud),(6,Ab t6),(7,Ai t7)],[(nL3, .blk Ae [As u0,Ai u1,Ai u2,Ai u3,As u4,Al 6 u5,Al 7 u6]),(Ud, .arr 0 true 7 u7)]⟩ K
def Axu(t6:Bool)(u0:LB)(u1 u2 u3:Int)(u4:LB)(u5 u6 u7:LL)(K:KK):Prop:=Ao 15 E0.P Rl (Ah 15 Q8).code ⟨[(3, .ptr nL3 0),(5, .own Ud),(6,Ab t6)],[(nL3, .blk Ae [As u0,Ai u1,Ai u2,Ai u3,As u4,Al 6 u5,Al 7 u6]),(Ud, .arr 0 true 7 u7)]⟩ K
def Axt(t0r:LL)(t6:Bool)(t7:Int)(u0:LB)(u1 u2 u3:Int)(u4:LB)(u5 u6 u7:LL)(K:KK):Prop:=Ao 14 E0.P Rl (Ah 14 Q8).code ⟨[(0,Al 7 t0r),(3, .ptr nL3 0),(5, .own Ud),(6,Ab t6),(7,Ai t7)],[(nL3, .blk Ae [As u0,Ai u1,Ai u2,Ai u3,As u4,Al 6 u5,Al 7 u6]),(Ud, .arr 0 true 7 u7)]⟩ K
def Aqy(Q:QQ):KK:=kE fun st=>finish 0 E0.T [.tmp 4] [] Q st
def Aqz(Q:QQ):KK:=kF 0 (fun st=>Ao 15 E0.P Rl (Ah 15 Q8).code (mask [3,5,6] st) (Aqy Q)) fun st=>finish 0 E0.T [.tmp 4] [] Q st
def Aq0(K:KK):Ex→St→Prop
 | .normal,st=>Ba 4 E0.P Rl (A9 4 Q8).code (mask [0,3,5,6,7] st) K
 | .exit i,st=>K (.exit i) st
 | .goto i,st=>K (.goto i) st
 | .ret,st=>K .ret st
def Ahq(K:KK):KK:=kC 1 (fun st=>Ao 14 E0.P Rl (Ah 14 Q8).code (mask [0,3,5,6,7] st) (Aq0 K)) K
theorem Asr(t0r:LL)(t6:Bool)(t7:Int)(u0:LB)(u1 u2 u3:Int)(u4:LB)(u5 u6 u7:LL)(K:KK)(h:
 (Br (decide (t7<(↑t0r.length:Int)))
 (Ag (((0:Int)≤t7∧t7<(↑t0r.length:Int))∧
 Be
 [.str, .int .i64, .int .i64, .int .i64, .str, .sl 6 Aa,
 .sl 7 Ae]
 (t0r.getD t7.toNat [])=
 true)
 (Br (gS (t0r.getD t7.toNat []) 0 == u0)
 (K .ret ⟨[(4,Al 7 t0r)],[]⟩)
 (Ag ((!t6)=true→
 ((0:Int)≤t7∧t7<(↑t0r.length:Int))∧
 Be
 [.str, .int .i64, .int .i64, .int .i64, .str, .sl 6 Aa,
 .sl 7 Ae]
 (t0r.getD t7.toNat [])=
 true)
 (Let (bif !t6 then Op.bytesLess u0 (gS (t0r.getD t7.toNat []) 0)else false) fun x0=>
 Br (x0)
 (Ag ((u7.length+1)*104≤140737488355328∧u7.length+1≤140737488355328)
 (Adv t0r true t7 u0 u1 u2 u3 u4 u5 u6 (u7++
 [[IV.str u0, .int .i64 u1, .int .i64 u2, .int .i64 u3, .str u4,
 .sl SK.any 6 u5, .sl SK.any 7 u6]]) (Ahq K)))
 (Adv t0r t6 t7 u0 u1 u2 u3 u4 u5 u6 u7 (Ahq K))))))
 (K (.exit 0) ⟨[(3, .ptr nL3 0),(5, .own Ud),(6,Ab t6)],[(nL3, .blk Ae [As u0,Ai u1,Ai u2,Ai u3,As u4,Al 6 u5,Al 7 u6]),(Ud, .arr 0 true 7 u7)]⟩))):Ahu t0r t6 t7 u0 u1 u2 u3 u4 u5 u6 u7 K:=lR [0,3,5,6,7] h
theorem A6m(t0r:LL)(t6:Bool)(t7:Int)(u0:LB)(u1 u2 u3:Int)(u4:LB)(u5 u6 u7:LL)(K:KK)(h:
 (Ag (((0:Int)≤t7∧t7<(↑t0r.length:Int))∧
 Be
 [.str, .int .i64, .int .i64, .int .i64, .str, .sl 6 Aa,
 .sl 7 Ae]
 (t0r.getD t7.toNat [])=
 true)
 (Ag ((u7.length+1)*104≤140737488355328∧u7.length+1≤140737488355328)
 (K .normal ⟨[(0,Al 7 t0r),(3, .ptr nL3 0),(5, .own Ud),(6,Ab t6),(7,Ai t7)],[(nL3, .blk Ae [As u0,Ai u1,Ai u2,Ai u3,As u4,Al 6 u5,Al 7 u6]),(Ud, .arr 0 true 7 (u7++
 [[IV.str (gS (t0r.getD t7.toNat []) 0), .int .i64 (gI (t0r.getD t7.toNat []) 1),
 .int .i64 (gI (t0r.getD t7.toNat []) 2),
 .int .i64 (gI (t0r.getD t7.toNat []) 3), .str (gS (t0r.getD t7.toNat []) 4),
 .sl SK.any 6 (gR (t0r.getD t7.toNat []) 5),
 .sl SK.any 7 (gR (t0r.getD t7.toNat []) 6)]]))]⟩)))):Adv t0r t6 t7 u0 u1 u2 u3 u4 u5 u6 u7 K:=cR [0,3,5,6,7] h
theorem A6o(t6:Bool)(u0:LB)(u1 u2 u3:Int)(u4:LB)(u5 u6 u7:LL)(K:KK)(h:
 (Br (!t6)
 (Ag ((u7.length+1)*104≤140737488355328∧u7.length+1≤140737488355328)
 (K .ret ⟨[(4, .own Ud)],[(Ud, .arr 0 true 7 (u7++
 [[IV.str u0, .int .i64 u1, .int .i64 u2, .int .i64 u3, .str u4,
 .sl SK.any 6 u5, .sl SK.any 7 u6]]))]⟩))
 (K .ret ⟨[(4, .own Ud)],[(Ud, .arr 0 true 7 u7)]⟩))):Axu t6 u0 u1 u2 u3 u4 u5 u6 u7 K:=cR [] h
theorem A6n(t0r:LL)(t6:Bool)(t7:Int)(u0:LB)(u1 u2 u3:Int)(u4:LB)(u5 u6 u7:LL)(K:KK)(h:
 (K .normal ⟨[(0,Al 7 t0r),(3, .ptr nL3 0),(5, .own Ud),(6,Ab t6),(7,Ai (i64.wrap (t7+(1:Int))))],[(nL3, .blk Ae [As u0,Ai u1,Ai u2,Ai u3,As u4,Al 6 u5,Al 7 u6]),(Ud, .arr 0 true 7 u7)]⟩)):Axt t0r t6 t7 u0 u1 u2 u3 u4 u5 u6 u7 K:=cR [0,3,5,6,7] h
theorem Ash(Q:QQ)(u0:LL)(h:
 (Q (Al 7 u0) [])):Aqy Q .ret ⟨[(4, .own Ud)],[(Ud, .arr 0 true 7 u0)]⟩:=kq h
theorem Ban(Q:QQ)(t4r:LL)(h:
 (Q (Al 7 t4r) [])):Aqz Q .ret ⟨[(4,Al 7 t4r)],[]⟩:=kq h
theorem Bao(Q:QQ)(t6:Bool)(u0:LB)(u1 u2 u3:Int)(u4:LB)(u5 u6 u7:LL)(h:
 (Axu t6 u0 u1 u2 u3 u4 u5 u6 u7 (Aqy Q))):Aqz Q (.exit 0) ⟨[(3, .ptr nL3 0),(5, .own Ud),(6,Ab t6)],[(nL3, .blk Ae [As u0,Ai u1,Ai u2,Ai u3,As u4,Al 6 u5,Al 7 u6]),(Ud, .arr 0 true 7 u7)]⟩:=kq h
theorem Bap(K:KK)(t0r:LL)(t6:Bool)(t7:Int)(u0:LB)(u1 u2 u3:Int)(u4:LB)(u5 u6 u7:LL)(h:
 (Ahu t0r t6 t7 u0 u1 u2 u3 u4 u5 u6 u7 K)):Aq0 K .normal ⟨[(0,Al 7 t0r),(3, .ptr nL3 0),(5, .own Ud),(6,Ab t6),(7,Ai t7)],[(nL3, .blk Ae [As u0,Ai u1,Ai u2,Ai u3,As u4,Al 6 u5,Al 7 u6]),(Ud, .arr 0 true 7 u7)]⟩:=kq h
theorem Baq(K:KK)(t0r:LL)(t6:Bool)(t7:Int)(u0:LB)(u1 u2 u3:Int)(u4:LB)(u5 u6 u7:LL)(h:
 (Axt t0r t6 t7 u0 u1 u2 u3 u4 u5 u6 u7 (Aq0 K))):Ahq K .normal ⟨[(0,Al 7 t0r),(3, .ptr nL3 0),(5, .own Ud),(6,Ab t6),(7,Ai t7)],[(nL3, .blk Ae [As u0,Ai u1,Ai u2,Ai u3,As u4,Al 6 u5,Al 7 u6]),(Ud, .arr 0 true 7 u7)]⟩:=kq h
theorem Bnf:Bd E0.P 88 Q8.code Rl [.tmp 4]:=fq Tryz.func88
theorem Bfu(a0:LL)(a1_0:LB)(a1_1 a1_2 a1_3:Int)(a1_4:LB)(a1_5 a1_6:LL)(Q:QQ)(h:
 (Ahu a0 false ((0:Int)) a1_0 a1_1 a1_2 a1_3 a1_4 a1_5 a1_6 [] (Aqz Q))):Call E0.P Auu [Al 7 a0, .imm (.agg [.str a1_0, .int .i64 a1_1, .int .i64 a1_2, .int .i64 a1_3, .str a1_4, .sl .any 6 a1_5, .sl .any 7 a1_6])] [] Q:=fR 0 Bnf h
noncomputable def Jp:AC:=(A7 [(3,[0,4,1000003],[]),(5,[1000003],[]),(8,[1000003],[]),(11,[5,6,1000003],[]),(13,[5],[]),(16,[5,6,1000003],[5,6,1000003]),(17,[5],[])] [2] (codeOf Tryz.f60) 0).1
abbrev Jz:Nat:=50
def Aby(t0r:LL)(t4:Int)(t3r:LL)(K:KK):Prop:=Ba 3 E0.P Jz (A9 3 Jp).code ⟨[(0,Al 7 t0r),(4,Ai t4),(3,Al 7 t3r)],[]⟩ K
def Av2(t3r:LL)(K:KK):Prop:=Ao 8 E0.P Jz (Ah 8 Jp).code ⟨[(3,Al 7 t3r)],[]⟩ K
def Zd(t6:Int)(t3r u0:LL)(K:KK):Prop:=Ba 11 E0.P Jz (A9 11 Jp).code ⟨[(5, .own Qj),(6,Ai t6),(3,Al 7 t3r)],[(Qj, .arr 0 true 7 u0)]⟩ K
def Agg(t6:Int)(t3r u0:LL)(K:KK):Prop:=Ao 16 E0.P Jz (Ah 16 Jp).code ⟨[(5, .own Qj),(6,Ai t6),(3,Al 7 t3r)],[(Qj, .arr 0 true 7 u0)]⟩ K
def Ar3(u0:LL)(K:KK):Prop:=Ao 17 E0.P Jz (Ah 17 Jp).code ⟨[(5, .own Qj)],[(Qj, .arr 0 true 7 u0)]⟩ K
def Ajs(Q:QQ):KK:=kE fun st=>finish 0 E0.T [.tmp 2] [] Q st
def Av9(Q:QQ):KK:=kF 0 (fun st=>Ao 8 E0.P Jz (Ah 8 Jp).code (mask [1000003] st) (Ajs Q)) fun st=>finish 0 E0.T [.tmp 2] [] Q st
def Ajt(K:KK):KK:=kP [] K
def Awa(K:KK):KK:=kC 2 (fun st=>Ao 17 E0.P Jz (Ah 17 Jp).code (mask [5] st) (Ajt K)) K
def Aju(K:KK):Ex→St→Prop
 | .normal,st=>Ba 11 E0.P Jz (A9 11 Jp).code (mask [5,6,1000003] st) K
 | .exit i,st=>K (.exit i) st
 | .goto i,st=>K (.goto i) st
 | .ret,st=>K .ret st
theorem An2(t0r:LL)(t4:Int)(t3r:LL)(K:KK)(h:
 (Br (decide (t4<(↑t0r.length:Int)))
 (Ag (((0:Int)≤t4∧t4<(↑t0r.length:Int))∧
 Be
 [.str, .int .i64, .int .i64, .int .i64, .str, .sl 6 Aa,
 .sl 7 Ae]
 (t0r.getD t4.toNat [])=
 true)
 (Ag (((0:Int)≤t4∧t4<(↑t0r.length:Int))∧
 Be
 [.str, .int .i64, .int .i64, .int .i64, .str, .sl 6 Aa,
 .sl 7 Ae]
 (t0r.getD t4.toNat [])=
 true)
 (Call E0.P Jt [.imm (.agg [.int .i64 (gI (t0r.getD t4.toNat []) 1), .int .i64 (gI (t0r.getD t4.toNat []) 2), .int .i64 (gI (t0r.getD t4.toNat []) 3), .str (gS (t0r.getD t4.toNat []) 4), .sl .any 6 (gR (t0r.getD t4.toNat []) 5), .sl .any 7 (gR (t0r.getD t4.toNat []) 6)])] [] fun r0 g0=>
 Ag (qV3 g0 r0)
 (Call E0.P Auu [Al 7 t3r, .imm (.agg [.str (gS (t0r.getD t4.toNat []) 0), .int .i64 (gI (Ac r0) 0), .int .i64 (gI (Ac r0) 1), .int .i64 (gI (Ac r0) 2), .str (gS (Ac r0) 3), .sl .any 6 (gR (Ac r0) 4), .sl .any 7 (gR (Ac r0) 5)])] [] fun r1 g1=>
 Ag (qV4 g1 r1)
 (Aby t0r (i64.wrap (t4+(1:Int))) (rR r1) K)))))
 (K (.exit 0) ⟨[(3,Al 7 t3r)],[]⟩))):Aby t0r t4 t3r K:=lR [0,4,1000003] h
theorem A23(t3r:LL)(K:KK)(h:
 (Zd ((0:Int)) t3r [] (Awa K))):Av2 t3r K:=cR [] h
theorem Ak0(t6:Int)(t3r u0:LL)(K:KK)(h:
 (Br (decide (t6<(↑t3r.length:Int)))
 (Ag (((0:Int)≤t6∧t6<(↑t3r.length:Int))∧
 Be
 [.str, .int .i64, .int .i64, .int .i64, .str, .sl 6 Aa,
 .sl 7 Ae]
 (t3r.getD t6.toNat [])=
 true)
 (Br (!decide (gI (t3r.getD t6.toNat []) 1=(0:Int)))
 (Ag (((0:Int)≤t6∧t6<(↑t3r.length:Int))∧
 Be
 [.str, .int .i64, .int .i64, .int .i64, .str, .sl 6 Aa,
 .sl 7 Ae]
 (t3r.getD t6.toNat [])=
 true)
 (Ag ((u0.length+1)*104≤140737488355328∧u0.length+1≤140737488355328)
 (Agg t6 t3r (u0++
 [[IV.str (gS (t3r.getD t6.toNat []) 0), .int .i64 (gI (t3r.getD t6.toNat []) 1),
 .int .i64 (gI (t3r.getD t6.toNat []) 2),
 .int .i64 (gI (t3r.getD t6.toNat []) 3), .str (gS (t3r.getD t6.toNat []) 4),
 .sl SK.any 6 (gR (t3r.getD t6.toNat []) 5),
 .sl SK.any 7 (gR (t3r.getD t6.toNat []) 6)]]) (Aju K))))
 (Agg t6 t3r u0 (Aju K))))
 (K (.exit (2)) ⟨[(5, .own Qj)],[(Qj, .arr 0 true 7 u0)]⟩))):Zd t6 t3r u0 K:=lR [5,6,1000003] h
theorem Ako(t6:Int)(t3r u0:LL)(K:KK)(h:
 (K .normal ⟨[(5, .own Qj),(6,Ai (i64.wrap (t6+(1:Int)))),(3,Al 7 t3r)],[(Qj, .arr 0 true 7 u0)]⟩)):Agg t6 t3r u0 K:=cR [5,6,1000003] h
theorem A07(u0:LL)(K:KK)(h:
 (K .ret ⟨[(2, .own Qj)],[(Qj, .arr 0 true 7 u0)]⟩)):Ar3 u0 K:=cR [] h
theorem A4h(Q:QQ)(u0:LL)(h:
 (Q (Al 7 u0) [])):Ajs Q .ret ⟨[(2, .own Qj)],[(Qj, .arr 0 true 7 u0)]⟩:=kq h
theorem A4i(Q:QQ)(t3r:LL)(h:
 (Av2 t3r (Ajs Q))):Av9 Q (.exit 0) ⟨[(3,Al 7 t3r)],[]⟩:=kq h
theorem A4j(K:KK)(u0:LL)(h:
 (K .ret ⟨[(2, .own Qj)],[(Qj, .arr 0 true 7 u0)]⟩)):Ajt K .ret ⟨[(2, .own Qj)],[(Qj, .arr 0 true 7 u0)]⟩:=kq h
theorem A4k(K:KK)(u0:LL)(h:
 (Ar3 u0 (Ajt K))):Awa K (.exit (2)) ⟨[(5, .own Qj)],[(Qj, .arr 0 true 7 u0)]⟩:=kq h
theorem Ank(K:KK)(t6:Int)(t3r u0:LL)(h:
 (Zd t6 t3r u0 K)):Aju K .normal ⟨[(5, .own Qj),(6,Ai t6),(3,Al 7 t3r)],[(Qj, .arr 0 true 7 u0)]⟩:=kq h
theorem Bif:Bd E0.P 60 Jp.code Jz [.tmp 2]:=fq Tryz.func60
theorem A9x(a0:LL)(Q:QQ)(h:
 (Aby a0 ((0:Int)) [] (Av9 Q))):Call E0.P Afe [Al 7 a0] [] Q:=fR 0 Bif h
noncomputable def Mj:AC:=(A7 [(4,[1,2,10,12,1000003],[2,1000003]),(6,[1,2,10,18,1000003],[2,1000003]),(10,[1,2,4,5,1000003],[]),(12,[2,4,1000003],[]),(15,[2,4,1000003],[2,1000003]),(20,[2,1000003],[])] [2] (codeOf Tryz.f40) 0).1
abbrev Ml:Nat:=69
def Abl(t10:Int)(t12:Bool)(u0 u1 u2:Int)(u3:LB)(u4 u5:LL)(u6 u7 u8:Int)(u9:LB)(v0 v1 v2:Int)(v3:LB)(v4 v5:LL)(v6 v7:LL)(K:KK):Prop:=Ao 4 E0.P Ml (Ah 4 Mj).code ⟨[(1, .ptr Ej 0),(2, .ptr nL2 0),(10,Ai t10),(12,Ab t12),(3, .ptr nL3 0)],[(Ej, .blk Aa [Ai u0,Ai u1,Ai u2,As u3,Al 6 u4,Al 7 u5]),(nL2, .blk Aa [Ai u6,Ai u7,Ai u8,As u9, .own (nL2.cell 4), .own (nL2.cell 5)]),(nL3, .blk Aa [Ai v0,Ai v1,Ai v2,As v3,Al 6 v4,Al 7 v5]),((nL2.cell 4), .arr (Aa+2) true 6 v6),((nL2.cell 5), .arr (Ae+2) true 7 v7)]⟩ K
def Abm(t10:Int)(t18:Bool)(u0 u1 u2:Int)(u3:LB)(u4 u5:LL)(u6 u7 u8:Int)(u9:LB)(v0 v1 v2:Int)(v3:LB)(v4 v5:LL)(v6 v7:LL)(K:KK):Prop:=Ao 6 E0.P Ml (Ah 6 Mj).code ⟨[(1, .ptr Ej 0),(2, .ptr nL2 0),(10,Ai t10),(18,Ab t18),(3, .ptr nL3 0)],[(Ej, .blk Aa [Ai u0,Ai u1,Ai u2,As u3,Al 6 u4,Al 7 u5]),(nL2, .blk Aa [Ai u6,Ai u7,Ai u8,As u9, .own (nL2.cell 4), .own (nL2.cell 5)]),(nL3, .blk Aa [Ai v0,Ai v1,Ai v2,As v3,Al 6 v4,Al 7 v5]),((nL2.cell 4), .arr (Aa+2) true 6 v6),((nL2.cell 5), .arr (Ae+2) true 7 v7)]⟩ K
def Zc(t5 u0:Int)(u1 u2:Int)(u3:LB)(u4 u5:LL)(u6 u7 u8:Int)(u9:LB)(v0:LL)(v1 v2 v3:Int)(v4:LB)(v5 v6:LL)(v7 v8:LL)(K:KK):Prop:=Ba 10 E0.P Ml (A9 10 Mj).code ⟨[(1, .ptr Ej 0),(2, .ptr nL2 0),(4, .own Azw),(5,Ai t5),(3, .ptr nL3 0)],[(Ej, .blk Aa [Ai u0,Ai u1,Ai u2,As u3,Al 6 u4,Al 7 u5]),(nL2, .blk Aa [Ai u6,Ai u7,Ai u8,As u9, .own (nL2.cell 4), .own (nL2.cell 5)]),(Azw, .arr 0 true 6 v0),(nL3, .blk Aa [Ai v1,Ai v2,Ai v3,As v4,Al 6 v5,Al 7 v6]),((nL2.cell 4), .arr (Aa+2) true 6 v7),((nL2.cell 5), .arr (Ae+2) true 7 v8)]⟩ K
def Ar2(u0 u1 u2:Int)(u3:LB)(u4 u5 u6:Int)(u7:LB)(u8 u9:LL)(v0 v1:LL)(K:KK):Prop:=Ao 20 E0.P Ml (Ah 20 Mj).code ⟨[(2, .ptr nL2 0),(3, .ptr nL3 0)],[(nL2, .blk Aa [Ai u0,Ai u1,Ai u2,As u3, .own (nL2.cell 4), .own (nL2.cell 5)]),(nL3, .blk Aa [Ai u4,Ai u5,Ai u6,As u7,Al 6 u8,Al 7 u9]),((nL2.cell 4), .arr (Aa+2) true 6 v0),((nL2.cell 5), .arr (Ae+2) true 7 v1)]⟩ K
def Ar1(u0 u1 u2:Int)(u3:LB)(u4:LL)(u5 u6 u7:Int)(u8:LB)(u9 v0:LL)(v1 v2:LL)(K:KK):Prop:=Ao 15 E0.P Ml (Ah 15 Mj).code ⟨[(2, .ptr nL2 0),(4, .own Azw),(3, .ptr nL3 0)],[(nL2, .blk Aa [Ai u0,Ai u1,Ai u2,As u3, .own (nL2.cell 4), .own (nL2.cell 5)]),(Azw, .arr 0 true 6 u4),(nL3, .blk Aa [Ai u5,Ai u6,Ai u7,As u8,Al 6 u9,Al 7 v0]),((nL2.cell 4), .arr (Aa+2) true 6 v1),((nL2.cell 5), .arr (Ae+2) true 7 v2)]⟩ K
def Ajq(Q:QQ):KK:=kE fun st=>finish 0 E0.T [.cell 2 28] [] Q st
def Nj(Q:QQ):KK:=kF 0 (fun st=>Ao 20 E0.P Ml (Ah 20 Mj).code (mask [2,1000003] st) (Ajq Q)) fun st=>finish 0 E0.T [.cell 2 28] [] Q st
def Kb(K:KK):KK:=kP [2,1000003] K
def Ajr(K:KK):KK:=kC 1 (fun st=>Ao 15 E0.P Ml (Ah 15 Mj).code (mask [2,4,1000003] st) (Kb K)) K
theorem A21(t10:Int)(t12:Bool)(u0 u1 u2:Int)(u3:LB)(u4 u5:LL)(u6 u7 u8:Int)(u9:LB)(v0 v1 v2:Int)(v3:LB)(v4 v5:LL)(v6 v7:LL)(K:KK)(h:
 (Br (t12)
 (K .normal ⟨[(2, .ptr nL2 0),(3, .ptr nL3 0)],[(nL2, .blk Aa [Ai u6,Ai u7,Ai u8,As u9, .own (nL2.cell 4), .own (nL2.cell 5)]),(nL3, .blk Aa [Ai v0,Ai u1,Ai v2,As v3,Al 6 v4,Al 7 v5]),((nL2.cell 4), .arr (Aa+2) true 6 v6),((nL2.cell 5), .arr (Ae+2) true 7 v7)]⟩)
 (Br (decide (t10=(3:Int)))
 (Abm t10 (decide (t10=(3:Int))) u0 u1 u2 u3 u4 u5 u6 u7 u8 u9 v0 v1 v2 v3 v4 v5 v6 v7 (Kb K))
 (Abm t10 (decide (t10=(4:Int))) u0 u1 u2 u3 u4 u5 u6 u7 u8 u9 v0 v1 v2 v3 v4 v5 v6 v7 (Kb K))))):Abl t10 t12 u0 u1 u2 u3 u4 u5 u6 u7 u8 u9 v0 v1 v2 v3 v4 v5 v6 v7 K:=cR [2,1000003] h
theorem A22(t10:Int)(t18:Bool)(u0 u1 u2:Int)(u3:LB)(u4 u5:LL)(u6 u7 u8:Int)(u9:LB)(v0 v1 v2:Int)(v3:LB)(v4 v5:LL)(v6 v7:LL)(K:KK)(h:
 (Br (t18)
 (K .normal ⟨[(2, .ptr nL2 0),(3, .ptr nL3 0)],[(nL2, .blk Aa [Ai u6,Ai u7,Ai u8,As u9, .own (nL2.cell 4), .own (nL2.cell 5)]),(nL3, .blk Aa [Ai v0,Ai v1,Ai v2,As u3,Al 6 v4,Al 7 v5]),((nL2.cell 4), .arr (Aa+2) true 6 v6),((nL2.cell 5), .arr (Ae+2) true 7 v7)]⟩)
 (Br (decide (t10=(5:Int)))
 (Zc ((0:Int)) u0 u1 u2 u3 u4 u5 u6 u7 u8 u9 [] v0 v1 v2 v3 v4 v5 v6 v7 (Ajr K))
 (Br (decide (t10=(6:Int)))
 (Call E0.P Afe [Al 7 u5] [] fun r0 g0=>
 Ag (qV4 g0 r0)
 (K .normal ⟨[(2, .ptr nL2 0),(3, .ptr nL3 0)],[(nL2, .blk Aa [Ai u6,Ai u7,Ai u8,As u9, .own (nL2.cell 4), .own (nL2.cell 5)]),(nL3, .blk Aa [Ai v0,Ai v1,Ai v2,As v3,Al 6 v4,Al 7 (rR r0)]),((nL2.cell 4), .arr (Aa+2) true 6 v6),((nL2.cell 5), .arr (Ae+2) true 7 v7)]⟩))
 (Br (decide (t10=(7:Int)))
 (K .normal ⟨[(2, .ptr nL2 0),(3, .ptr nL3 0)],[(nL2, .blk Aa [Ai u6,Ai u7,Ai u8,As u9, .own (nL2.cell 4), .own (nL2.cell 5)]),(nL3, .blk Aa [Ai v0,Ai u1,Ai u2,As v3,Al 6 v4,Al 7 v5]),((nL2.cell 4), .arr (Aa+2) true 6 v6),((nL2.cell 5), .arr (Ae+2) true 7 v7)]⟩)
 (Br (decide (t10=(8:Int)))
 (Call E0.P Afe [Al 7 u5] [] fun r1 g1=>
 Ag (qV4 g1 r1)
 (K .normal ⟨[(2, .ptr nL2 0),(3, .ptr nL3 0)],[(nL2, .blk Aa [Ai u6,Ai u7,Ai u8,As u9, .own (nL2.cell 4), .own (nL2.cell 5)]),(nL3, .blk Aa [Ai v0,Ai v1,Ai v2,As u3,Al 6 v4,Al 7 (rR r1)]),((nL2.cell 4), .arr (Aa+2) true 6 v6),((nL2.cell 5), .arr (Ae+2) true 7 v7)]⟩))
 (K .ret ⟨[(2, .ptr nL2 0)],[(nL2, .blk Aa [Ai 0,Ai 0,Ai 0, .imm (.str []), .own (nL2.cell 4), .own (nL2.cell 5)]),((nL2.cell 4), .arr (Aa+2) true 6 []),((nL2.cell 5), .arr (Ae+2) true 7 [])]⟩))))))):Abm t10 t18 u0 u1 u2 u3 u4 u5 u6 u7 u8 u9 v0 v1 v2 v3 v4 v5 v6 v7 K:=cR [2,1000003] h
theorem Akz(t5 u0:Int)(u1 u2:Int)(u3:LB)(u4 u5:LL)(u6 u7 u8:Int)(u9:LB)(v0:LL)(v1 v2 v3:Int)(v4:LB)(v5 v6:LL)(v7 v8:LL)(K:KK)(h:
 (Br (decide (t5<(↑u4.length:Int)))
 (Ag (((0:Int)≤t5∧t5<(↑u4.length:Int))∧
 Be
 [.int .i64, .int .i64, .int .i64, .str, .sl 6 Aa,
 .sl 7 Ae]
 (u4.getD t5.toNat [])=
 true)
 (Call E0.P Jt [.imm (.agg [.int .i64 (gI (u4.getD t5.toNat []) 0), .int .i64 (gI (u4.getD t5.toNat []) 1), .int .i64 (gI (u4.getD t5.toNat []) 2), .str (gS (u4.getD t5.toNat []) 3), .sl .any 6 (gR (u4.getD t5.toNat []) 4), .sl .any 7 (gR (u4.getD t5.toNat []) 5)])] [] fun r0 g0=>
 Ag (qV3 g0 r0)
 (Ag ((v0.length+1)*88≤140737488355328∧v0.length+1≤140737488355328)
 (Zc (i64.wrap (t5+(1:Int))) u0 u1 u2 u3 u4 u5 u6 u7 u8 u9 (v0++
 [[IV.int .i64 (gI (Ac r0) 0), .int .i64 (gI (Ac r0) 1),
 .int .i64 (gI (Ac r0) 2), .str (gS (Ac r0) 3),
 .sl SK.any 6 (gR (Ac r0) 4), .sl SK.any 7 (gR (Ac r0) 5)]]) v1 v2 v3 v4 v5 v6 v7 v8 K))))
 (K (.exit (1)) ⟨[(2, .ptr nL2 0),(4, .own Azw),(3, .ptr nL3 0)],[(nL2, .blk Aa [Ai u6,Ai u7,Ai u8,As u9, .own (nL2.cell 4), .own (nL2.cell 5)]),(Azw, .arr 0 true 6 v0),(nL3, .blk Aa [Ai v1,Ai v2,Ai v3,As v4,Al 6 v5,Al 7 v6]),((nL2.cell 4), .arr (Aa+2) true 6 v7),((nL2.cell 5), .arr (Ae+2) true 7 v8)]⟩))):Zc t5 u0 u1 u2 u3 u4 u5 u6 u7 u8 u9 v0 v1 v2 v3 v4 v5 v6 v7 v8 K:=lR [1,2,4,5,1000003] h
theorem A06(u0 u1 u2:Int)(u3:LB)(u4 u5 u6:Int)(u7:LB)(u8 u9:LL)(v0 v1:LL)(K:KK)(h:
 (K .ret ⟨[(2, .ptr nL2 0)],[(nL2, .blk Aa [Ai u4,Ai u5,Ai u6,As u7,Al 6 u8,Al 7 u9])]⟩)):Ar2 u0 u1 u2 u3 u4 u5 u6 u7 u8 u9 v0 v1 K:=cR [] h
theorem A05(u0 u1 u2:Int)(u3:LB)(u4:LL)(u5 u6 u7:Int)(u8:LB)(u9 v0:LL)(v1 v2:LL)(K:KK)(h:
 (K .normal ⟨[(2, .ptr nL2 0),(3, .ptr nL3 0)],[(nL2, .blk Aa [Ai u0,Ai u1,Ai u2,As u3, .own (nL2.cell 4), .own (nL2.cell 5)]),(nL3, .blk Aa [Ai u5,Ai u6,Ai u7,As u8,Al 6 u4,Al 7 v0]),((nL2.cell 4), .arr (Aa+2) true 6 v1),((nL2.cell 5), .arr (Ae+2) true 7 v2)]⟩)):Ar1 u0 u1 u2 u3 u4 u5 u6 u7 u8 u9 v0 v1 v2 K:=cR [2,1000003] h
theorem A4b(Q:QQ)(u0 u1 u2:Int)(u3:LB)(u4 u5:LL)(h:
 (Q (.imm (.agg [.int .i64 u0, .int .i64 u1, .int .i64 u2, .str u3, .sl .any 6 u4, .sl .any 7 u5])) [])):Ajq Q .ret ⟨[(2, .ptr nL2 0)],[(nL2, .blk Aa [Ai u0,Ai u1,Ai u2,As u3,Al 6 u4,Al 7 u5])]⟩:=kq h
theorem A4c(Q:QQ)(u0 u1 u2:Int)(u3:LB)(u4 u5 u6:Int)(u7:LB)(u8 u9:LL)(v0 v1:LL)(h:
 (Ar2 u0 u1 u2 u3 u4 u5 u6 u7 u8 u9 v0 v1 (Ajq Q))):Nj Q .normal ⟨[(2, .ptr nL2 0),(3, .ptr nL3 0)],[(nL2, .blk Aa [Ai u0,Ai u1,Ai u2,As u3, .own (nL2.cell 4), .own (nL2.cell 5)]),(nL3, .blk Aa [Ai u4,Ai u5,Ai u6,As u7,Al 6 u8,Al 7 u9]),((nL2.cell 4), .arr (Aa+2) true 6 v0),((nL2.cell 5), .arr (Ae+2) true 7 v1)]⟩:=kq h
theorem A4d(Q:QQ)(u0 u1 u2:Int)(u3:LB)(u4 u5:LL)(h:
 (Q (.imm (.agg [.int .i64 u0, .int .i64 u1, .int .i64 u2, .str u3, .sl .any 6 u4, .sl .any 7 u5])) [])):Nj Q .ret ⟨[(2, .ptr nL2 0)],[(nL2, .blk Aa [Ai u0,Ai u1,Ai u2,As u3, .own (nL2.cell 4), .own (nL2.cell 5)]),((nL2.cell 4), .arr (Aa+2) true 6 u4),((nL2.cell 5), .arr (Ae+2) true 7 u5)]⟩:=kq h
theorem A4e(K:KK)(u0 u1 u2:Int)(u3:LB)(u4 u5 u6:Int)(u7:LB)(u8 u9:LL)(v0 v1:LL)(h:
 (K .normal ⟨[(2, .ptr nL2 0),(3, .ptr nL3 0)],[(nL2, .blk Aa [Ai u0,Ai u1,Ai u2,As u3, .own (nL2.cell 4), .own (nL2.cell 5)]),(nL3, .blk Aa [Ai u4,Ai u5,Ai u6,As u7,Al 6 u8,Al 7 u9]),((nL2.cell 4), .arr (Aa+2) true 6 v0),((nL2.cell 5), .arr (Ae+2) true 7 v1)]⟩)):Kb K .normal ⟨[(2, .ptr nL2 0),(3, .ptr nL3 0)],[(nL2, .blk Aa [Ai u0,Ai u1,Ai u2,As u3, .own (nL2.cell 4), .own (nL2.cell 5)]),(nL3, .blk Aa [Ai u4,Ai u5,Ai u6,As u7,Al 6 u8,Al 7 u9]),((nL2.cell 4), .arr (Aa+2) true 6 v0),((nL2.cell 5), .arr (Ae+2) true 7 v1)]⟩:=kq h
theorem A4f(K:KK)(u0 u1 u2:Int)(u3:LB)(u4 u5:LL)(h:
 (K .ret ⟨[(2, .ptr nL2 0)],[(nL2, .blk Aa [Ai u0,Ai u1,Ai u2,As u3, .own (nL2.cell 4), .own (nL2.cell 5)]),((nL2.cell 4), .arr (Aa+2) true 6 u4),((nL2.cell 5), .arr (Ae+2) true 7 u5)]⟩)):Kb K .ret ⟨[(2, .ptr nL2 0)],[(nL2, .blk Aa [Ai u0,Ai u1,Ai u2,As u3, .own (nL2.cell 4), .own (nL2.cell 5)]),((nL2.cell 4), .arr (Aa+2) true 6 u4),((nL2.cell 5), .arr (Ae+2) true 7 u5)]⟩:=kq h
theorem A4g(K:KK)(u0 u1 u2:Int)(u3:LB)(u4:LL)(u5 u6 u7:Int)(u8:LB)(u9 v0:LL)(v1 v2:LL)(h:
 (Ar1 u0 u1 u2 u3 u4 u5 u6 u7 u8 u9 v0 v1 v2 (Kb K))):Ajr K (.exit (1)) ⟨[(2, .ptr nL2 0),(4, .own Azw),(3, .ptr nL3 0)],[(nL2, .blk Aa [Ai u0,Ai u1,Ai u2,As u3, .own (nL2.cell 4), .own (nL2.cell 5)]),(Azw, .arr 0 true 6 u4),(nL3, .blk Aa [Ai u5,Ai u6,Ai u7,As u8,Al 6 u9,Al 7 v0]),((nL2.cell 4), .arr (Aa+2) true 6 v1),((nL2.cell 5), .arr (Ae+2) true 7 v2)]⟩:=kq h
theorem Bie:Bd E0.P 40 Mj.code Ml [.cell 2 28]:=fq Tryz.func40
theorem A9w(a0_0 a0_1 a0_2:Int)(a0_3:LB)(a0_4 a0_5:LL)(Q:QQ)(h:
 (Br (decide (a0_0=(1:Int)))
 (Abl a0_0 (decide (a0_0=(1:Int))) a0_0 a0_1 a0_2 a0_3 a0_4 a0_5 ((0:Int)) ((0:Int)) ((0:Int)) [] a0_0 ((0:Int)) ((0:Int)) [] [] [] [] [] (Nj Q))
 (Abl a0_0 (decide (a0_0=(2:Int))) a0_0 a0_1 a0_2 a0_3 a0_4 a0_5 ((0:Int)) ((0:Int)) ((0:Int)) [] a0_0 ((0:Int)) ((0:Int)) [] [] [] [] [] (Nj Q)))):Call E0.P Jt [.imm (.agg [.int .i64 a0_0, .int .i64 a0_1, .int .i64 a0_2, .str a0_3, .sl .any 6 a0_4, .sl .any 7 a0_5])] [] Q:=fR 0 Bie h
noncomputable def Alo:AC:=(A7 [(3,[1,4,6,7],[]),(5,[4],[]),(10,[4],[])] [4,5] (codeOf Tryz.f29) 0).1
abbrev Alx:Nat:=32
def Ahs(t1:LB)(t7 u0:Int)(u1 u2:Int)(u3:LB)(u4 u5 u6:Int)(u7:LB)(u8 u9:LL)(v0 v1:LL)(K:KK):Prop:=Ba 3 E0.P Alx (A9 3 Alo).code ⟨[(1,As t1),(4, .ptr nL4 0),(6, .ptr nL6 0),(7,Ai t7)],[(nL4, .blk Aa [Ai u0,Ai u1,Ai u2,As u3, .own (nL4.cell 4), .own (nL4.cell 5)]),(nL6, .blk Aa [Ai u4,Ai u5,Ai u6,As u7,Al 6 u8,Al 7 u9]),((nL4.cell 4), .arr (Aa+2) true 6 v0),((nL4.cell 5), .arr (Ae+2) true 7 v1)]⟩ K
def Axq(u0 u1 u2:Int)(u3:LB)(u4 u5:LL)(K:KK):Prop:=Ao 10 E0.P Alx (Ah 10 Alo).code ⟨[(4, .ptr nL4 0)],[(nL4, .blk Aa [Ai u0,Ai u1,Ai u2,As u3, .own (nL4.cell 4), .own (nL4.cell 5)]),((nL4.cell 4), .arr (Aa+2) true 6 u4),((nL4.cell 5), .arr (Ae+2) true 7 u5)]⟩ K
def Aqt(Q:QQ):KK:=kE fun st=>finish 0 E0.T [.cell 4 28, .tmp 5] [] Q st
def Ahp(Q:QQ):KK:=kF 0 (fun st=>Ao 10 E0.P Alx (Ah 10 Alo).code (mask [4] st) (Aqt Q)) fun st=>finish 0 E0.T [.cell 4 28, .tmp 5] [] Q st
theorem Asp(t1:LB)(t7 u0:Int)(u1 u2:Int)(u3:LB)(u4 u5 u6:Int)(u7:LB)(u8 u9:LL)(v0 v1:LL)(K:KK)(h:
 (Br (decide (t7<(↑u9.length:Int)))
 (Ag (((0:Int)≤t7∧t7<(↑u9.length:Int))∧
 Be
 [.str, .int .i64, .int .i64, .int .i64, .str, .sl 6 Aa,
 .sl 7 Ae]
 (u9.getD t7.toNat [])=
 true)
 (Br (gS (u9.getD t7.toNat []) 0 == t1)
 (Ag (((0:Int)≤t7∧t7<(↑u9.length:Int))∧
 Be
 [.str, .int .i64, .int .i64, .int .i64, .str, .sl 6 Aa,
 .sl 7 Ae]
 (u9.getD t7.toNat [])=
 true)
 (K .ret ⟨[(4, .ptr nL4 0),(5,Ab true)],[(nL4, .blk Aa [Ai (gI (u9.getD t7.toNat []) 1),Ai (gI (u9.getD t7.toNat []) 2),Ai (gI (u9.getD t7.toNat []) 3),As (gS (u9.getD t7.toNat []) 4),Al 6 (gR (u9.getD t7.toNat []) 5),Al 7 (gR (u9.getD t7.toNat []) 6)])]⟩))
 (Ahs t1 (i64.wrap (t7+(1:Int))) u0 u1 u2 u3 u4 u5 u6 u7 u8 u9 v0 v1 K)))
 (K (.exit 0) ⟨[(4, .ptr nL4 0)],[(nL4, .blk Aa [Ai u0,Ai u1,Ai u2,As u3, .own (nL4.cell 4), .own (nL4.cell 5)]),((nL4.cell 4), .arr (Aa+2) true 6 v0),((nL4.cell 5), .arr (Ae+2) true 7 v1)]⟩))):Ahs t1 t7 u0 u1 u2 u3 u4 u5 u6 u7 u8 u9 v0 v1 K:=lR [1,4,6,7] h
theorem A6j(u0 u1 u2:Int)(u3:LB)(u4 u5:LL)(K:KK)(h:
 (K .ret ⟨[(4, .ptr nL4 0),(5,Ab false)],[(nL4, .blk Aa [Ai 0,Ai 0,Ai 0, .imm (.str []), .own (nL4.cell 4), .own (nL4.cell 5)]),((nL4.cell 4), .arr (Aa+2) true 6 []),((nL4.cell 5), .arr (Ae+2) true 7 [])]⟩)):Axq u0 u1 u2 u3 u4 u5 K:=cR [] h
theorem Baf(Q:QQ)(t5:Bool)(u0 u1 u2:Int)(u3:LB)(u4 u5:LL)(h:
 (Q (.tup [.imm (.agg [.int .i64 u0, .int .i64 u1, .int .i64 u2, .str u3, .sl .any 6 u4, .sl .any 7 u5]),Ab t5]) [])):Aqt Q .ret ⟨[(4, .ptr nL4 0),(5,Ab t5)],[(nL4, .blk Aa [Ai u0,Ai u1,Ai u2,As u3, .own (nL4.cell 4), .own (nL4.cell 5)]),((nL4.cell 4), .arr (Aa+2) true 6 u4),((nL4.cell 5), .arr (Ae+2) true 7 u5)]⟩:=kq h
theorem Bag(Q:QQ)(t5:Bool)(u0 u1 u2:Int)(u3:LB)(u4 u5:LL)(h:
 (Q (.tup [.imm (.agg [.int .i64 u0, .int .i64 u1, .int .i64 u2, .str u3, .sl .any 6 u4, .sl .any 7 u5]),Ab t5]) [])):Ahp Q .ret ⟨[(4, .ptr nL4 0),(5,Ab t5)],[(nL4, .blk Aa [Ai u0,Ai u1,Ai u2,As u3,Al 6 u4,Al 7 u5])]⟩:=kq h
theorem Bah(Q:QQ)(u0 u1 u2:Int)(u3:LB)(u4 u5:LL)(h:
 (Axq u0 u1 u2 u3 u4 u5 (Aqt Q))):Ahp Q (.exit 0) ⟨[(4, .ptr nL4 0)],[(nL4, .blk Aa [Ai u0,Ai u1,Ai u2,As u3, .own (nL4.cell 4), .own (nL4.cell 5)]),((nL4.cell 4), .arr (Aa+2) true 6 u4),((nL4.cell 5), .arr (Ae+2) true 7 u5)]⟩:=kq h
theorem Bnd:Bd E0.P 29 Alo.code Alx [.cell 4 28, .tmp 5]:=fq Tryz.func29
theorem Bfs(a0_0 a0_1 a0_2:Int)(a0_3:LB)(a0_4 a0_5:LL)(a1:LB)(Q:QQ)(h:
 (Call E0.P Jt [.imm (.agg [.int .i64 a0_0, .int .i64 a0_1, .int .i64 a0_2, .str a0_3, .sl .any 6 a0_4, .sl .any 7 a0_5])] [] fun r0 g0=>
 Ag (qV3 g0 r0)
 (Ahs a1 ((0:Int)) ((0:Int)) ((0:Int)) ((0:Int)) [] (gI (Ac r0) 0) (gI (Ac r0) 1) (gI (Ac r0) 2) (gS (Ac r0) 3) (gR (Ac r0) 4) (gR (Ac r0) 5) [] [] (Ahp Q)))):Call E0.P Afc [.imm (.agg [.int .i64 a0_0, .int .i64 a0_1, .int .i64 a0_2, .str a0_3, .sl .any 6 a0_4, .sl .any 7 a0_5]),As a1] [] Q:=fR 0 Bnd h
noncomputable def Jo:AC:=(A7 [(5,[2,3,5],[]),(7,[2,3],[]),(12,[2,3],[]),(14,[2,3,6],[]),(16,[],[]),(20,[2,3,6],[2,3,6]),(21,[],[])] [4] (codeOf Tryz.f10) 0).1
abbrev Jy:Nat:=106
def Abx(t5 u0:Int)(u1 u2:Int)(u3:LB)(u4 u5:LL)(u6 u7 u8:Int)(u9:LB)(v0 v1:LL)(K:KK):Prop:=Ba 5 E0.P Jy (A9 5 Jo).code ⟨[(2, .ptr nL2 0),(3, .ptr nL3 0),(5,Ai t5)],[(nL2, .blk Aa [Ai u0,Ai u1,Ai u2,As u3,Al 6 u4,Al 7 u5]),(nL3, .blk Aa [Ai u6,Ai u7,Ai u8,As u9,Al 6 v0,Al 7 v1])]⟩ K
def Arz(u0 u1 u2:Int)(u3:LB)(u4 u5:LL)(u6 u7 u8:Int)(u9:LB)(v0 v1:LL)(K:KK):Prop:=Ao 12 E0.P Jy (Ah 12 Jo).code ⟨[(2, .ptr nL2 0),(3, .ptr nL3 0)],[(nL2, .blk Aa [Ai u0,Ai u1,Ai u2,As u3,Al 6 u4,Al 7 u5]),(nL3, .blk Aa [Ai u6,Ai u7,Ai u8,As u9,Al 6 v0,Al 7 v1])]⟩ K
def Zb(t6 u0:Int)(u1 u2:Int)(u3:LB)(u4 u5:LL)(u6 u7 u8:Int)(u9:LB)(v0 v1:LL)(K:KK):Prop:=Ba 14 E0.P Jy (A9 14 Jo).code ⟨[(2, .ptr nL2 0),(3, .ptr nL3 0),(6,Ai t6)],[(nL2, .blk Aa [Ai u0,Ai u1,Ai u2,As u3,Al 6 u4,Al 7 u5]),(nL3, .blk Aa [Ai u6,Ai u7,Ai u8,As u9,Al 6 v0,Al 7 v1])]⟩ K
def Yq(t6 u0:Int)(u1 u2:Int)(u3:LB)(u4 u5:LL)(u6 u7 u8:Int)(u9:LB)(v0 v1:LL)(K:KK):Prop:=Ao 20 E0.P Jy (Ah 20 Jo).code ⟨[(2, .ptr nL2 0),(3, .ptr nL3 0),(6,Ai t6)],[(nL2, .blk Aa [Ai u0,Ai u1,Ai u2,As u3,Al 6 u4,Al 7 u5]),(nL3, .blk Aa [Ai u6,Ai u7,Ai u8,As u9,Al 6 v0,Al 7 v1])]⟩ K
def Ar0(K:KK):Prop:=Ao 21 E0.P Jy (Ah 21 Jo).code ⟨[],[]⟩ K
def Ajm(Q:QQ):KK:=kE fun st=>finish 0 E0.T [.tmp 4] [] Q st
def Ajn(Q:QQ):KK:=kF 0 (fun st=>Ao 12 E0.P Jy (Ah 12 Jo).code (mask [2,3] st) (Ajm Q)) fun st=>finish 0 E0.T [.tmp 4] [] Q st
def Ajo(K:KK):KK:=kP [] K
def Ajp(K:KK):KK:=kC 2 (fun st=>Ao 21 E0.P Jy (Ah 21 Jo).code (mask [] st) (Ajo K)) K
def Abs(K:KK):Ex→St→Prop
 | .normal,st=>Ba 14 E0.P Jy (A9 14 Jo).code (mask [2,3,6] st) K
 | .exit i,st=>K (.exit i) st
 | .goto i,st=>K (.goto i) st
 | .ret,st=>K .ret st
theorem An1(t5 u0:Int)(u1 u2:Int)(u3:LB)(u4 u5:LL)(u6 u7 u8:Int)(u9:LB)(v0 v1:LL)(K:KK)(h:
 (Br (decide (t5<(↑u4.length:Int)))
 (Ag (((0:Int)≤t5∧t5<(↑u4.length:Int))∧
 Be
 [.int .i64, .int .i64, .int .i64, .str, .sl 6 Aa,
 .sl 7 Ae]
 (u4.getD t5.toNat [])=
 true)
 (Ag (((0:Int)≤t5∧t5<(↑v0.length:Int))∧
 Be
 [.int .i64, .int .i64, .int .i64, .str, .sl 6 Aa,
 .sl 7 Ae]
 (v0.getD t5.toNat [])=
 true)
 (Call E0.P Ti [.imm (.agg [.int .i64 (gI (u4.getD t5.toNat []) 0), .int .i64 (gI (u4.getD t5.toNat []) 1), .int .i64 (gI (u4.getD t5.toNat []) 2), .str (gS (u4.getD t5.toNat []) 3), .sl .any 6 (gR (u4.getD t5.toNat []) 4), .sl .any 7 (gR (u4.getD t5.toNat []) 5)]), .imm (.agg [.int .i64 (gI (v0.getD t5.toNat []) 0), .int .i64 (gI (v0.getD t5.toNat []) 1), .int .i64 (gI (v0.getD t5.toNat []) 2), .str (gS (v0.getD t5.toNat []) 3), .sl .any 6 (gR (v0.getD t5.toNat []) 4), .sl .any 7 (gR (v0.getD t5.toNat []) 5)])] [] fun r0 g0=>
 Ag (qV0 g0 r0)
 (Br (!rB r0)
 (K .ret ⟨[(4,Ab false)],[]⟩)
 (Abx (i64.wrap (t5+(1:Int))) u0 u1 u2 u3 u4 u5 u6 u7 u8 u9 v0 v1 K)))))
 (K (.exit 0) ⟨[(2, .ptr nL2 0),(3, .ptr nL3 0)],[(nL2, .blk Aa [Ai u0,Ai u1,Ai u2,As u3,Al 6 u4,Al 7 u5]),(nL3, .blk Aa [Ai u6,Ai u7,Ai u8,As u9,Al 6 v0,Al 7 v1])]⟩))):Abx t5 u0 u1 u2 u3 u4 u5 u6 u7 u8 u9 v0 v1 K:=lR [2,3,5] h
theorem A02(u0 u1 u2:Int)(u3:LB)(u4 u5:LL)(u6 u7 u8:Int)(u9:LB)(v0 v1:LL)(K:KK)(h:
 (Zb ((0:Int)) u0 u1 u2 u3 u4 u5 u6 u7 u8 u9 v0 v1 (Ajp K))):Arz u0 u1 u2 u3 u4 u5 u6 u7 u8 u9 v0 v1 K:=cR [] h
theorem Aky(t6 u0:Int)(u1 u2:Int)(u3:LB)(u4 u5:LL)(u6 u7 u8:Int)(u9:LB)(v0 v1:LL)(K:KK)(h:
 (Br (decide (t6<(↑u5.length:Int)))
 (Ag (((0:Int)≤t6∧t6<(↑u5.length:Int))∧
 Be
 [.str, .int .i64, .int .i64, .int .i64, .str, .sl 6 Aa,
 .sl 7 Ae]
 (u5.getD t6.toNat [])=
 true)
 (Ag (((0:Int)≤t6∧t6<(↑v1.length:Int))∧
 Be
 [.str, .int .i64, .int .i64, .int .i64, .str, .sl 6 Aa,
 .sl 7 Ae]
 (v1.getD t6.toNat [])=
 true)
 (Ag ((!gS (u5.getD t6.toNat []) 0 == gS (v1.getD t6.toNat []) 0)=false→
 ((0:Int)≤t6∧t6<(↑u5.length:Int))∧
 Be
 [.str, .int .i64, .int .i64, .int .i64, .str, .sl 6 Aa,
 .sl 7 Ae]
 (u5.getD t6.toNat [])=
 true)
 (Ag ((!gS (u5.getD t6.toNat []) 0 == gS (v1.getD t6.toNat []) 0)=false→
 ((0:Int)≤t6∧t6<(↑v1.length:Int))∧
 Be
 [.str, .int .i64, .int .i64, .int .i64, .str, .sl 6 Aa,
 .sl 7 Ae]
 (v1.getD t6.toNat [])=
 true)
 (Br ((!gS (u5.getD t6.toNat []) 0 == gS (v1.getD t6.toNat []) 0) == false)
 (Call E0.P Ti [.imm (.agg [.int .i64 (gI (u5.getD t6.toNat []) 1), .int .i64 (gI (u5.getD t6.toNat []) 2), .int .i64 (gI (u5.getD t6.toNat []) 3), .str (gS (u5.getD t6.toNat []) 4), .sl .any 6 (gR (u5.getD t6.toNat []) 5), .sl .any 7 (gR (u5.getD t6.toNat []) 6)]), .imm (.agg [.int .i64 (gI (v1.getD t6.toNat []) 1), .int .i64 (gI (v1.getD t6.toNat []) 2), .int .i64 (gI (v1.getD t6.toNat []) 3), .str (gS (v1.getD t6.toNat []) 4), .sl .any 6 (gR (v1.getD t6.toNat []) 5), .sl .any 7 (gR (v1.getD t6.toNat []) 6)])] [] fun r0 g0=>
 Ag (qV0 g0 r0)
 (Let (!rB r0) fun x1=>
 Br (x1)
 (K .ret ⟨[(4,Ab false)],[]⟩)
 (Yq t6 u0 u1 u2 u3 u4 u5 u6 u7 u8 u9 v0 v1 (Abs K))))
 (Ag ((!false)=true)
 (Let (true) fun x2=>
 Br (x2)
 (K .ret ⟨[(4,Ab false)],[]⟩)
 (Yq t6 u0 u1 u2 u3 u4 u5 u6 u7 u8 u9 v0 v1 (Abs K)))))))))
 (K (.exit (2)) ⟨[],[]⟩))):Zb t6 u0 u1 u2 u3 u4 u5 u6 u7 u8 u9 v0 v1 K:=lR [2,3,6] h
theorem A03(t6 u0:Int)(u1 u2:Int)(u3:LB)(u4 u5:LL)(u6 u7 u8:Int)(u9:LB)(v0 v1:LL)(K:KK)(h:
 (K .normal ⟨[(2, .ptr nL2 0),(3, .ptr nL3 0),(6,Ai (i64.wrap (t6+(1:Int))))],[(nL2, .blk Aa [Ai u0,Ai u1,Ai u2,As u3,Al 6 u4,Al 7 u5]),(nL3, .blk Aa [Ai u6,Ai u7,Ai u8,As u9,Al 6 v0,Al 7 v1])]⟩)):Yq t6 u0 u1 u2 u3 u4 u5 u6 u7 u8 u9 v0 v1 K:=cR [2,3,6] h
theorem A04(K:KK)(h:
 (K .ret ⟨[(4,Ab true)],[]⟩)):Ar0 K:=cR [] h
theorem Anj(Q:QQ)(t4:Bool)(h:
 (Q (Ab t4) [])):Ajm Q .ret ⟨[(4,Ab t4)],[]⟩:=kq h
theorem A35(Q:QQ)(t4:Bool)(h:
 (Q (Ab t4) [])):Ajn Q .ret ⟨[(4,Ab t4)],[]⟩:=kq h
theorem A36(Q:QQ)(u0 u1 u2:Int)(u3:LB)(u4 u5:LL)(u6 u7 u8:Int)(u9:LB)(v0 v1:LL)(h:
 (Arz u0 u1 u2 u3 u4 u5 u6 u7 u8 u9 v0 v1 (Ajm Q))):Ajn Q (.exit 0) ⟨[(2, .ptr nL2 0),(3, .ptr nL3 0)],[(nL2, .blk Aa [Ai u0,Ai u1,Ai u2,As u3,Al 6 u4,Al 7 u5]),(nL3, .blk Aa [Ai u6,Ai u7,Ai u8,As u9,Al 6 v0,Al 7 v1])]⟩:=kq h
theorem A37(K:KK)(t4:Bool)(h:
 (K .ret ⟨[(4,Ab t4)],[]⟩)):Ajo K .ret ⟨[(4,Ab t4)],[]⟩:=kq h
theorem A38(K:KK)(t4:Bool)(h:
 (K .ret ⟨[(4,Ab t4)],[]⟩)):Ajp K .ret ⟨[(4,Ab t4)],[]⟩:=kq h
theorem A39(K:KK)(h:
 (Ar0 (Ajo K))):Ajp K (.exit (2)) ⟨[],[]⟩:=kq h
theorem A4a(K:KK)(t6 u0:Int)(u1 u2:Int)(u3:LB)(u4 u5:LL)(u6 u7 u8:Int)(u9:LB)(v0 v1:LL)(h:
 (Zb t6 u0 u1 u2 u3 u4 u5 u6 u7 u8 u9 v0 v1 K)):Abs K .normal ⟨[(2, .ptr nL2 0),(3, .ptr nL3 0),(6,Ai t6)],[(nL2, .blk Aa [Ai u0,Ai u1,Ai u2,As u3,Al 6 u4,Al 7 u5]),(nL3, .blk Aa [Ai u6,Ai u7,Ai u8,As u9,Al 6 v0,Al 7 v1])]⟩:=kq h
theorem Bid:Bd E0.P 10 Jo.code Jy [.tmp 4]:=fq Tryz.func10
theorem A9v(a0_0 a0_1 a0_2:Int)(a0_3:LB)(a0_4 a0_5:LL)(a1_0 a1_1 a1_2:Int)(a1_3:LB)(a1_4 a1_5:LL)(Q:QQ)(h:
 (Let (bif !decide (a0_0=a1_0)then true else !decide (a0_1=a1_1)) fun x0=>
 Let (bif x0 then true else !decide (a0_2=a1_2)) fun x1=>
 Let (bif x1 then true else !a0_3 == a1_3) fun x2=>
 Let (bif x2 then true else !decide ((↑a0_4.length:Int)=(↑a1_4.length:Int))) fun x3=>
 Let (bif x3 then true else !decide ((↑a0_5.length:Int)=(↑a1_5.length:Int))) fun x4=>
 Br (x4)
 (Q (Ab false) [])
 (Abx ((0:Int)) a0_0 a0_1 a0_2 a0_3 a0_4 a0_5 a1_0 a1_1 a1_2 a1_3 a1_4 a1_5 (Ajn Q)))):Call E0.P Ti [.imm (.agg [.int .i64 a0_0, .int .i64 a0_1, .int .i64 a0_2, .str a0_3, .sl .any 6 a0_4, .sl .any 7 a0_5]), .imm (.agg [.int .i64 a1_0, .int .i64 a1_1, .int .i64 a1_2, .str a1_3, .sl .any 6 a1_4, .sl .any 7 a1_5])] [] Q:=fR 0 Bid h
noncomputable def Bl6:AC:=(A7 [] [4] (codeOf Tryz.f11) 0).1
abbrev Bm8:Nat:=19
theorem Bnc:Bd E0.P 11 Bl6.code Bm8 [.tmp 4]:=fq Tryz.func11
theorem Bfr(a0_0 a0_1 a0_2:Int)(a0_3:LB)(a0_4 a0_5:LL)(a1:Int)(Q:QQ)(h:
 (Call E0.P Abe [.imm (.agg [.int .i64 a0_0, .int .i64 a0_1, .int .i64 a0_2, .str a0_3, .sl .any 6 a0_4, .sl .any 7 a0_5]),Ai (i64.wrap (a1+(1:Int)))] [] fun r0 g0=>
 Ag (qV1 g0 r0)
 (Br (decide (rI r0≤a1) == true)
 (Call E0.P Afd [.imm (.agg [.int .i64 a0_0, .int .i64 a0_1, .int .i64 a0_2, .str a0_3, .sl .any 6 a0_4, .sl .any 7 a0_5]),Ai 200] [] fun r1 g1=>
 Ag (qV0 g1 r1)
 (Let (rB r1) fun x2=>
 Br (x2 == true)
 (Call E0.P Tj [.imm (.agg [.int .i64 a0_0, .int .i64 a0_1, .int .i64 a0_2, .str a0_3, .sl .any 6 a0_4, .sl .any 7 a0_5]),Ai 3000] [] fun r3 g3=>
 Ag (qV0 g3 r3)
 (Let (rB r3) fun x4=>
 Q (Ab x4) []))
 (Ag ((!true)=false)
 (Let (false) fun x5=>
 Q (Ab x5) []))))
 (Ag ((!true)=false)
 (Let (false) fun x6=>
 Br (x6 == true)
 (Call E0.P Tj [.imm (.agg [.int .i64 a0_0, .int .i64 a0_1, .int .i64 a0_2, .str a0_3, .sl .any 6 a0_4, .sl .any 7 a0_5]),Ai 3000] [] fun r7 g7=>
 Ag (qV0 g7 r7)
 (Let (rB r7) fun x8=>
 Q (Ab x8) []))
 (Ag ((!true)=false)
 (Let (false) fun x9=>
 Q (Ab x9) []))))))):Call E0.P Aut [.imm (.agg [.int .i64 a0_0, .int .i64 a0_1, .int .i64 a0_2, .str a0_3, .sl .any 6 a0_4, .sl .any 7 a0_5]),Ai a1] [] Q:=fR 0 Bnc h
noncomputable def Rs:AC:=(A7 [(3,[1,2,5,6],[]),(5,[1,2,5],[]),(8,[1,2,5],[]),(10,[1,2,5,7],[]),(12,[5],[]),(15,[5],[])] [4] (codeOf Tryz.f23) 0).1
abbrev Ry:Nat:=56
def X7(t1 t5:Int)(t6 u0:Int)(u1 u2:Int)(u3:LB)(u4 u5:LL)(K:KK):Prop:=Ba 3 E0.P Ry (A9 3 Rs).code ⟨[(1,Ai t1),(2, .ptr nL2 0),(5,Ai t5),(6,Ai t6)],[(nL2, .blk Aa [Ai u0,Ai u1,Ai u2,As u3,Al 6 u4,Al 7 u5])]⟩ K
def Axv(t1 t5:Int)(u0 u1 u2:Int)(u3:LB)(u4 u5:LL)(K:KK):Prop:=Ao 8 E0.P Ry (Ah 8 Rs).code ⟨[(1,Ai t1),(2, .ptr nL2 0),(5,Ai t5)],[(nL2, .blk Aa [Ai u0,Ai u1,Ai u2,As u3,Al 6 u4,Al 7 u5])]⟩ K
def Vs(t1 t5:Int)(t7 u0:Int)(u1 u2:Int)(u3:LB)(u4 u5:LL)(K:KK):Prop:=Ba 10 E0.P Ry (A9 10 Rs).code ⟨[(1,Ai t1),(2, .ptr nL2 0),(5,Ai t5),(7,Ai t7)],[(nL2, .blk Aa [Ai u0,Ai u1,Ai u2,As u3,Al 6 u4,Al 7 u5])]⟩ K
def Av3(t5:Int)(K:KK):Prop:=Ao 15 E0.P Ry (Ah 15 Rs).code ⟨[(5,Ai t5)],[]⟩ K
def Anm(Q:QQ):KK:=kE fun st=>finish 0 E0.T [.tmp 4] [] Q st
def Ayg(Q:QQ):KK:=kF 0 (fun st=>Ao 8 E0.P Ry (Ah 8 Rs).code (mask [1,2,5] st) (Anm Q)) fun st=>finish 0 E0.T [.tmp 4] [] Q st
def Ann(K:KK):KK:=kP [] K
def Ayh(K:KK):KK:=kC 2 (fun st=>Ao 15 E0.P Ry (Ah 15 Rs).code (mask [5] st) (Ann K)) K
theorem Ap5(t1 t5:Int)(t6 u0:Int)(u1 u2:Int)(u3:LB)(u4 u5:LL)(K:KK)(h:
 (Let (bif decide (t6<(↑u4.length:Int))then decide (t5<t1)else false) fun x0=>
 Br (x0)
 (Ag (((0:Int)≤t6∧t6<(↑u4.length:Int))∧
 Be
 [.int .i64, .int .i64, .int .i64, .str, .sl 6 Aa,
 .sl 7 Ae]
 (u4.getD t6.toNat [])=
 true)
 (Call E0.P Abe [.imm (.agg [.int .i64 (gI (u4.getD t6.toNat []) 0), .int .i64 (gI (u4.getD t6.toNat []) 1), .int .i64 (gI (u4.getD t6.toNat []) 2), .str (gS (u4.getD t6.toNat []) 3), .sl .any 6 (gR (u4.getD t6.toNat []) 4), .sl .any 7 (gR (u4.getD t6.toNat []) 5)]),Ai (i64.wrap (t1 - t5))] [] fun r1 g1=>
 Ag (qV1 g1 r1)
 (X7 t1 (i64.wrap (t5+rI r1)) (i64.wrap (t6+(1:Int))) u0 u1 u2 u3 u4 u5 K)))
 (K (.exit 0) ⟨[(1,Ai t1),(2, .ptr nL2 0),(5,Ai t5)],[(nL2, .blk Aa [Ai u0,Ai u1,Ai u2,As u3,Al 6 u4,Al 7 u5])]⟩))):X7 t1 t5 t6 u0 u1 u2 u3 u4 u5 K:=lR [1,2,5,6] h
theorem A6p(t1 t5:Int)(u0 u1 u2:Int)(u3:LB)(u4 u5:LL)(K:KK)(h:
 (Vs t1 t5 ((0:Int)) u0 u1 u2 u3 u4 u5 (Ayh K))):Axv t1 t5 u0 u1 u2 u3 u4 u5 K:=cR [] h
theorem An4(t1 t5:Int)(t7 u0:Int)(u1 u2:Int)(u3:LB)(u4 u5:LL)(K:KK)(h:
 (Let (bif decide (t7<(↑u5.length:Int))then decide (t5<t1)else false) fun x0=>
 Br (x0)
 (Ag (((0:Int)≤t7∧t7<(↑u5.length:Int))∧
 Be
 [.str, .int .i64, .int .i64, .int .i64, .str, .sl 6 Aa,
 .sl 7 Ae]
 (u5.getD t7.toNat [])=
 true)
 (Call E0.P Abe [.imm (.agg [.int .i64 (gI (u5.getD t7.toNat []) 1), .int .i64 (gI (u5.getD t7.toNat []) 2), .int .i64 (gI (u5.getD t7.toNat []) 3), .str (gS (u5.getD t7.toNat []) 4), .sl .any 6 (gR (u5.getD t7.toNat []) 5), .sl .any 7 (gR (u5.getD t7.toNat []) 6)]),Ai (i64.wrap (t1 - t5))] [] fun r1 g1=>
 Ag (qV1 g1 r1)
 (Vs t1 (i64.wrap (t5+rI r1)) (i64.wrap (t7+(1:Int))) u0 u1 u2 u3 u4 u5 K)))
 (K (.exit (2)) ⟨[(5,Ai t5)],[]⟩))):Vs t1 t5 t7 u0 u1 u2 u3 u4 u5 K:=lR [1,2,5,7] h
theorem A24(t5:Int)(K:KK)(h:
 (K .ret ⟨[(4,Ai t5)],[]⟩)):Av3 t5 K:=cR [] h
theorem A7o(Q:QQ)(t4:Int)(h:
 (Q (Ai t4) [])):Anm Q .ret ⟨[(4,Ai t4)],[]⟩:=kq h
theorem A7p(Q:QQ)(t1 t5:Int)(u0 u1 u2:Int)(u3:LB)(u4 u5:LL)(h:
 (Axv t1 t5 u0 u1 u2 u3 u4 u5 (Anm Q))):Ayg Q (.exit 0) ⟨[(1,Ai t1),(2, .ptr nL2 0),(5,Ai t5)],[(nL2, .blk Aa [Ai u0,Ai u1,Ai u2,As u3,Al 6 u4,Al 7 u5])]⟩:=kq h
theorem A7q(K:KK)(t4:Int)(h:
 (K .ret ⟨[(4,Ai t4)],[]⟩)):Ann K .ret ⟨[(4,Ai t4)],[]⟩:=kq h
theorem A7r(K:KK)(t5:Int)(h:
 (Av3 t5 (Ann K))):Ayh K (.exit (2)) ⟨[(5,Ai t5)],[]⟩:=kq h
theorem Bkj:Bd E0.P 23 Rs.code Ry [.tmp 4]:=fq Tryz.func23
theorem Bdz(a0_0 a0_1 a0_2:Int)(a0_3:LB)(a0_4 a0_5:LL)(a1:Int)(Q:QQ)(h:
 (X7 a1 ((1:Int)) ((0:Int)) a0_0 a0_1 a0_2 a0_3 a0_4 a0_5 (Ayg Q))):Call E0.P Abe [.imm (.agg [.int .i64 a0_0, .int .i64 a0_1, .int .i64 a0_2, .str a0_3, .sl .any 6 a0_4, .sl .any 7 a0_5]),Ai a1] [] Q:=fR 0 Bkj h
noncomputable def Uy:AC:=(A7 [(5,[1,2,5],[]),(7,[1,2],[]),(12,[1,2],[]),(14,[1,2,6],[]),(16,[],[]),(21,[],[])] [4] (codeOf Tryz.f24) 0).1
abbrev Vk:Nat:=42
def Aht(t1 t5:Int)(u0 u1 u2:Int)(u3:LB)(u4 u5:LL)(K:KK):Prop:=Ba 5 E0.P Vk (A9 5 Uy).code ⟨[(1,Ai t1),(2, .ptr nL2 0),(5,Ai t5)],[(nL2, .blk Aa [Ai u0,Ai u1,Ai u2,As u3,Al 6 u4,Al 7 u5])]⟩ K
def Axr(t1 u0:Int)(u1 u2:Int)(u3:LB)(u4 u5:LL)(K:KK):Prop:=Ao 12 E0.P Vk (Ah 12 Uy).code ⟨[(1,Ai t1),(2, .ptr nL2 0)],[(nL2, .blk Aa [Ai u0,Ai u1,Ai u2,As u3,Al 6 u4,Al 7 u5])]⟩ K
def Aen(t1 t6:Int)(u0 u1 u2:Int)(u3:LB)(u4 u5:LL)(K:KK):Prop:=Ba 14 E0.P Vk (A9 14 Uy).code ⟨[(1,Ai t1),(2, .ptr nL2 0),(6,Ai t6)],[(nL2, .blk Aa [Ai u0,Ai u1,Ai u2,As u3,Al 6 u4,Al 7 u5])]⟩ K
def Axs(K:KK):Prop:=Ao 21 E0.P Vk (Ah 21 Uy).code ⟨[],[]⟩ K
def Aqu(Q:QQ):KK:=kE fun st=>finish 0 E0.T [.tmp 4] [] Q st
def Aqv(Q:QQ):KK:=kF 0 (fun st=>Ao 12 E0.P Vk (Ah 12 Uy).code (mask [1,2] st) (Aqu Q)) fun st=>finish 0 E0.T [.tmp 4] [] Q st
def Aqw(K:KK):KK:=kP [] K
def Aqx(K:KK):KK:=kC 2 (fun st=>Ao 21 E0.P Vk (Ah 21 Uy).code (mask [] st) (Aqw K)) K
theorem Asq(t1 t5:Int)(u0 u1 u2:Int)(u3:LB)(u4 u5:LL)(K:KK)(h:
 (Br (decide (t5<(↑u4.length:Int)))
 (Ag (((0:Int)≤t5∧t5<(↑u4.length:Int))∧
 Be
 [.int .i64, .int .i64, .int .i64, .str, .sl 6 Aa,
 .sl 7 Ae]
 (u4.getD t5.toNat [])=
 true)
 (Call E0.P Afd [.imm (.agg [.int .i64 (gI (u4.getD t5.toNat []) 0), .int .i64 (gI (u4.getD t5.toNat []) 1), .int .i64 (gI (u4.getD t5.toNat []) 2), .str (gS (u4.getD t5.toNat []) 3), .sl .any 6 (gR (u4.getD t5.toNat []) 4), .sl .any 7 (gR (u4.getD t5.toNat []) 5)]),Ai (i64.wrap (t1 - (1:Int)))] [] fun r0 g0=>
 Ag (qV0 g0 r0)
 (Br (!rB r0)
 (K .ret ⟨[(4,Ab false)],[]⟩)
 (Aht t1 (i64.wrap (t5+(1:Int))) u0 u1 u2 u3 u4 u5 K))))
 (K (.exit 0) ⟨[(1,Ai t1),(2, .ptr nL2 0)],[(nL2, .blk Aa [Ai u0,Ai u1,Ai u2,As u3,Al 6 u4,Al 7 u5])]⟩))):Aht t1 t5 u0 u1 u2 u3 u4 u5 K:=lR [1,2,5] h
theorem A6k(t1 u0:Int)(u1 u2:Int)(u3:LB)(u4 u5:LL)(K:KK)(h:
 (Aen t1 ((0:Int)) u0 u1 u2 u3 u4 u5 (Aqx K))):Axr t1 u0 u1 u2 u3 u4 u5 K:=cR [] h
theorem Ap4(t1 t6:Int)(u0 u1 u2:Int)(u3:LB)(u4 u5:LL)(K:KK)(h:
 (Br (decide (t6<(↑u5.length:Int)))
 (Ag (((0:Int)≤t6∧t6<(↑u5.length:Int))∧
 Be
 [.str, .int .i64, .int .i64, .int .i64, .str, .sl 6 Aa,
 .sl 7 Ae]
 (u5.getD t6.toNat [])=
 true)
 (Call E0.P Afd [.imm (.agg [.int .i64 (gI (u5.getD t6.toNat []) 1), .int .i64 (gI (u5.getD t6.toNat []) 2), .int .i64 (gI (u5.getD t6.toNat []) 3), .str (gS (u5.getD t6.toNat []) 4), .sl .any 6 (gR (u5.getD t6.toNat []) 5), .sl .any 7 (gR (u5.getD t6.toNat []) 6)]),Ai (i64.wrap (t1 - (1:Int)))] [] fun r0 g0=>
 Ag (qV0 g0 r0)
 (Br (!rB r0)
 (K .ret ⟨[(4,Ab false)],[]⟩)
 (Aen t1 (i64.wrap (t6+(1:Int))) u0 u1 u2 u3 u4 u5 K))))
 (K (.exit (2)) ⟨[],[]⟩))):Aen t1 t6 u0 u1 u2 u3 u4 u5 K:=lR [1,2,6] h
theorem A6l(K:KK)(h:
 (K .ret ⟨[(4,Ab true)],[]⟩)):Axs K:=cR [] h
theorem Asg(Q:QQ)(t4:Bool)(h:
 (Q (Ab t4) [])):Aqu Q .ret ⟨[(4,Ab t4)],[]⟩:=kq h
theorem Bai(Q:QQ)(t4:Bool)(h:
 (Q (Ab t4) [])):Aqv Q .ret ⟨[(4,Ab t4)],[]⟩:=kq h
theorem Baj(Q:QQ)(t1 u0:Int)(u1 u2:Int)(u3:LB)(u4 u5:LL)(h:
 (Axr t1 u0 u1 u2 u3 u4 u5 (Aqu Q))):Aqv Q (.exit 0) ⟨[(1,Ai t1),(2, .ptr nL2 0)],[(nL2, .blk Aa [Ai u0,Ai u1,Ai u2,As u3,Al 6 u4,Al 7 u5])]⟩:=kq h
theorem Bak(K:KK)(t4:Bool)(h:
 (K .ret ⟨[(4,Ab t4)],[]⟩)):Aqw K .ret ⟨[(4,Ab t4)],[]⟩:=kq h
theorem Bal(K:KK)(t4:Bool)(h:
 (K .ret ⟨[(4,Ab t4)],[]⟩)):Aqx K .ret ⟨[(4,Ab t4)],[]⟩:=kq h
theorem Bam(K:KK)(h:
 (Axs (Aqw K))):Aqx K (.exit (2)) ⟨[],[]⟩:=kq h
theorem Bne:Bd E0.P 24 Uy.code Vk [.tmp 4]:=fq Tryz.func24
theorem Bft(a0_0 a0_1 a0_2:Int)(a0_3:LB)(a0_4 a0_5:LL)(a1:Int)(Q:QQ)(h:
 (Br (decide (a1<(0:Int)))
 (Q (Ab false) [])
 (Aht a1 ((0:Int)) a0_0 a0_1 a0_2 a0_3 a0_4 a0_5 (Aqv Q)))):Call E0.P Afd [.imm (.agg [.int .i64 a0_0, .int .i64 a0_1, .int .i64 a0_2, .str a0_3, .sl .any 6 a0_4, .sl .any 7 a0_5]),Ai a1] [] Q:=fR 0 Bne h
noncomputable def Jq:AC:=(A7 [(5,[1,2,5],[]),(7,[1,2],[]),(12,[1,2],[]),(14,[1,2,6],[]),(16,[],[]),(20,[1,2,6],[1,2,6]),(21,[],[])] [4] (codeOf Tryz.f25) 0).1
abbrev J2:Nat:=54
def Abz(t1 t5:Int)(u0 u1 u2:Int)(u3:LB)(u4 u5:LL)(K:KK):Prop:=Ba 5 E0.P J2 (A9 5 Jq).code ⟨[(1,Ai t1),(2, .ptr nL2 0),(5,Ai t5)],[(nL2, .blk Aa [Ai u0,Ai u1,Ai u2,As u3,Al 6 u4,Al 7 u5])]⟩ K
def Ar4(t1 u0:Int)(u1 u2:Int)(u3:LB)(u4 u5:LL)(K:KK):Prop:=Ao 12 E0.P J2 (Ah 12 Jq).code ⟨[(1,Ai t1),(2, .ptr nL2 0)],[(nL2, .blk Aa [Ai u0,Ai u1,Ai u2,As u3,Al 6 u4,Al 7 u5])]⟩ K
def Ze(t1 t6:Int)(u0 u1 u2:Int)(u3:LB)(u4 u5:LL)(K:KK):Prop:=Ba 14 E0.P J2 (A9 14 Jq).code ⟨[(1,Ai t1),(2, .ptr nL2 0),(6,Ai t6)],[(nL2, .blk Aa [Ai u0,Ai u1,Ai u2,As u3,Al 6 u4,Al 7 u5])]⟩ K
def Agh(t1 t6:Int)(u0 u1 u2:Int)(u3:LB)(u4 u5:LL)(K:KK):Prop:=Ao 20 E0.P J2 (Ah 20 Jq).code ⟨[(1,Ai t1),(2, .ptr nL2 0),(6,Ai t6)],[(nL2, .blk Aa [Ai u0,Ai u1,Ai u2,As u3,Al 6 u4,Al 7 u5])]⟩ K
def Ar5(K:KK):Prop:=Ao 21 E0.P J2 (Ah 21 Jq).code ⟨[],[]⟩ K
def Ajv(Q:QQ):KK:=kE fun st=>finish 0 E0.T [.tmp 4] [] Q st
def Ajw(Q:QQ):KK:=kF 0 (fun st=>Ao 12 E0.P J2 (Ah 12 Jq).code (mask [1,2] st) (Ajv Q)) fun st=>finish 0 E0.T [.tmp 4] [] Q st
def Ajx(K:KK):KK:=kP [] K
def Ajy(K:KK):KK:=kC 2 (fun st=>Ao 21 E0.P J2 (Ah 21 Jq).code (mask [] st) (Ajx K)) K
def Ajz(K:KK):Ex→St→Prop
 | .normal,st=>Ba 14 E0.P J2 (A9 14 Jq).code (mask [1,2,6] st) K
 | .exit i,st=>K (.exit i) st
 | .goto i,st=>K (.goto i) st
 | .ret,st=>K .ret st
theorem An3(t1 t5:Int)(u0 u1 u2:Int)(u3:LB)(u4 u5:LL)(K:KK)(h:
 (Br (decide (t5<(↑u4.length:Int)))
 (Ag (((0:Int)≤t5∧t5<(↑u4.length:Int))∧
 Be
 [.int .i64, .int .i64, .int .i64, .str, .sl 6 Aa,
 .sl 7 Ae]
 (u4.getD t5.toNat [])=
 true)
 (Call E0.P Tj [.imm (.agg [.int .i64 (gI (u4.getD t5.toNat []) 0), .int .i64 (gI (u4.getD t5.toNat []) 1), .int .i64 (gI (u4.getD t5.toNat []) 2), .str (gS (u4.getD t5.toNat []) 3), .sl .any 6 (gR (u4.getD t5.toNat []) 4), .sl .any 7 (gR (u4.getD t5.toNat []) 5)]),Ai t1] [] fun r0 g0=>
 Ag (qV0 g0 r0)
 (Br (!rB r0)
 (K .ret ⟨[(4,Ab false)],[]⟩)
 (Abz t1 (i64.wrap (t5+(1:Int))) u0 u1 u2 u3 u4 u5 K))))
 (K (.exit 0) ⟨[(1,Ai t1),(2, .ptr nL2 0)],[(nL2, .blk Aa [Ai u0,Ai u1,Ai u2,As u3,Al 6 u4,Al 7 u5])]⟩))):Abz t1 t5 u0 u1 u2 u3 u4 u5 K:=lR [1,2,5] h
theorem A08(t1 u0:Int)(u1 u2:Int)(u3:LB)(u4 u5:LL)(K:KK)(h:
 (Ze t1 ((0:Int)) u0 u1 u2 u3 u4 u5 (Ajy K))):Ar4 t1 u0 u1 u2 u3 u4 u5 K:=cR [] h
theorem Ak1(t1 t6:Int)(u0 u1 u2:Int)(u3:LB)(u4 u5:LL)(K:KK)(h:
 (Br (decide (t6<(↑u5.length:Int)))
 (Ag (((0:Int)≤t6∧t6<(↑u5.length:Int))∧
 Be
 [.str, .int .i64, .int .i64, .int .i64, .str, .sl 6 Aa,
 .sl 7 Ae]
 (u5.getD t6.toNat [])=
 true)
 (Ag (decide (t1<(↑(gS (u5.getD t6.toNat []) (0:Nat)).length:Int))=false→
 ((0:Int)≤t6∧t6<(↑u5.length:Int))∧
 Be
 [.str, .int .i64, .int .i64, .int .i64, .str, .sl 6 Aa,
 .sl 7 Ae]
 (u5.getD t6.toNat [])=
 true)
 (Br (decide (t1<(↑(gS (u5.getD t6.toNat []) (0:Nat)).length:Int)) == false)
 (Call E0.P Tj [.imm (.agg [.int .i64 (gI (u5.getD t6.toNat []) 1), .int .i64 (gI (u5.getD t6.toNat []) 2), .int .i64 (gI (u5.getD t6.toNat []) 3), .str (gS (u5.getD t6.toNat []) 4), .sl .any 6 (gR (u5.getD t6.toNat []) 5), .sl .any 7 (gR (u5.getD t6.toNat []) 6)]),Ai t1] [] fun r0 g0=>
 Ag (qV0 g0 r0)
 (Let (!rB r0) fun x1=>
 Br (x1)
 (K .ret ⟨[(4,Ab false)],[]⟩)
 (Agh t1 t6 u0 u1 u2 u3 u4 u5 (Ajz K))))
 (Ag ((!false)=true)
 (Let (true) fun x2=>
 Br (x2)
 (K .ret ⟨[(4,Ab false)],[]⟩)
 (Agh t1 t6 u0 u1 u2 u3 u4 u5 (Ajz K)))))))
 (K (.exit (2)) ⟨[],[]⟩))):Ze t1 t6 u0 u1 u2 u3 u4 u5 K:=lR [1,2,6] h
theorem A09(t1 t6:Int)(u0 u1 u2:Int)(u3:LB)(u4 u5:LL)(K:KK)(h:
 (K .normal ⟨[(1,Ai t1),(2, .ptr nL2 0),(6,Ai (i64.wrap (t6+(1:Int))))],[(nL2, .blk Aa [Ai u0,Ai u1,Ai u2,As u3,Al 6 u4,Al 7 u5])]⟩)):Agh t1 t6 u0 u1 u2 u3 u4 u5 K:=cR [1,2,6] h
theorem A1a(K:KK)(h:
 (K .ret ⟨[(4,Ab true)],[]⟩)):Ar5 K:=cR [] h
theorem Anl(Q:QQ)(t4:Bool)(h:
 (Q (Ab t4) [])):Ajv Q .ret ⟨[(4,Ab t4)],[]⟩:=kq h
theorem A4l(Q:QQ)(t4:Bool)(h:
 (Q (Ab t4) [])):Ajw Q .ret ⟨[(4,Ab t4)],[]⟩:=kq h
theorem A4m(Q:QQ)(t1 u0:Int)(u1 u2:Int)(u3:LB)(u4 u5:LL)(h:
 (Ar4 t1 u0 u1 u2 u3 u4 u5 (Ajv Q))):Ajw Q (.exit 0) ⟨[(1,Ai t1),(2, .ptr nL2 0)],[(nL2, .blk Aa [Ai u0,Ai u1,Ai u2,As u3,Al 6 u4,Al 7 u5])]⟩:=kq h
theorem A4n(K:KK)(t4:Bool)(h:
 (K .ret ⟨[(4,Ab t4)],[]⟩)):Ajx K .ret ⟨[(4,Ab t4)],[]⟩:=kq h
theorem A4o(K:KK)(t4:Bool)(h:
 (K .ret ⟨[(4,Ab t4)],[]⟩)):Ajy K .ret ⟨[(4,Ab t4)],[]⟩:=kq h
theorem A4p(K:KK)(h:
 (Ar5 (Ajx K))):Ajy K (.exit (2)) ⟨[],[]⟩:=kq h
theorem A4q(K:KK)(t1 t6:Int)(u0 u1 u2:Int)(u3:LB)(u4 u5:LL)(h:
 (Ze t1 t6 u0 u1 u2 u3 u4 u5 K)):Ajz K .normal ⟨[(1,Ai t1),(2, .ptr nL2 0),(6,Ai t6)],[(nL2, .blk Aa [Ai u0,Ai u1,Ai u2,As u3,Al 6 u4,Al 7 u5])]⟩:=kq h
theorem Bih:Bd E0.P 25 Jq.code J2 [.tmp 4]:=fq Tryz.func25
theorem A9y(a0_0 a0_1 a0_2:Int)(a0_3:LB)(a0_4 a0_5:LL)(a1:Int)(Q:QQ)(h:
 (Br (decide (a1<(↑a0_3.length:Int)))
 (Q (Ab false) [])
 (Abz a1 ((0:Int)) a0_0 a0_1 a0_2 a0_3 a0_4 a0_5 (Ajw Q)))):Call E0.P Tj [.imm (.agg [.int .i64 a0_0, .int .i64 a0_1, .int .i64 a0_2, .str a0_3, .sl .any 6 a0_4, .sl .any 7 a0_5]),Ai a1] [] Q:=fR 0 Bih h
end
end Go.Proofs.Sim.Se

import Derived.Test.YtaggabcajidnnaaGreatDoorSeatBase
set_option maxRecDepth 100000
set_option maxHeartbeats 4000000
namespace Go.Proofs.Sim.Se
open Go Go.Proofs Go.Proofs.Sim
noncomputable section
abbrev qB0(G:Heap)(R:AV):Prop:=G=[]∧R= .imm (.bool (rB R))
abbrev qB1(G:Heap)(R:AV):Prop:=G=[]∧R= .tup [.imm (IV.agg [.int .i64 (gI (Ae (rT R 0)) 0), .int .i64 (gI (Ae (rT R 0)) 1), .int .i64 (gI (Ae (rT R 0)) 2), .str (gS (Ae (rT R 0)) 3), .sl SK.any 6 (gR (Ae (rT R 0)) 4), .sl SK.any 7 (gR (Ae (rT R 0)) 5)]), .imm (.int .i64 (rI (rT R 1)))]
abbrev qB2(G:Heap)(R:AV):Prop:=G=[]∧R= .tup [.imm (.sl SK.any 8 (rR (rT R 0))), .imm (.int .i64 (rI (rT R 1)))]
abbrev qB3(G:Heap)(R:AV):Prop:=G=[]∧R= .tup [.imm (IV.agg [.int .i64 (gI (Ae (rT R 0)) 0), .int .i64 (gI (Ae (rT R 0)) 1), .int .i64 (gI (Ae (rT R 0)) 2), .str (gS (Ae (rT R 0)) 3), .sl SK.any 6 (gR (Ae (rT R 0)) 4), .sl SK.any 7 (gR (Ae (rT R 0)) 5)]), .imm (.bool (rB (rT R 1)))]
abbrev qB4(G:Heap)(R:AV):Prop:=G=[]∧R= .tup [.imm (.str (rS (rT R 0))), .imm (.int .i64 (rI (rT R 1)))]
abbrev qB5(G:Heap)(R:AV):Prop:=G=[]∧R= .imm (IV.agg [.str (gS (Ae R) 0), .int .i64 (gI (Ae R) 1), .int .i64 (gI (Ae R) 2), .int .i64 (gI (Ae R) 3), .str (gS (Ae R) 4), .sl SK.any 6 (gR (Ae R) 5), .sl SK.any 7 (gR (Ae R) 6)])
abbrev qB6(G:Heap)(R:AV):Prop:=G=[]∧R= .tup [.imm (.sl SK.any 1 (rR (rT R 0))), .imm (.int .i64 (rI (rT R 1)))]
abbrev qB7(G:Heap)(R:AV):Prop:=G=[]∧R= .tup [.imm (IV.agg [.int .i64 (gI (Ae (rT R 0)) 0), .int .i64 (gI (Ae (rT R 0)) 1), .str (gS (Ae (rT R 0)) 2), .int .i64 (gI (Ae (rT R 0)) 3), .int .i64 (gI (Ae (rT R 0)) 4)]), .imm (.int .i64 (rI (rT R 1)))]
noncomputable def ac_l27_BundlePacks:AC:=(Bf [] [2] (codeOf Tryz.f3) 0).1
abbrev X8:Nat:=32
theorem Axj:Bo E0.P 3 ac_l27_BundlePacks.code X8 [.tmp 2]:=Bh _ _ Tryz.f3 [] [2] _ 32 Tryz.func3 (by kernel_rfl) (by kernel_rfl) (by kernel_rfl) (by kernel_rfl)
theorem Arz(a0:LL)(Q:QQ)(h:
 (Call E0.P Asr [Al 8 a0] [] fun r0 g0=>
 Ah (qB0 g0 r0)
 (Br (!rB r0)
 (Call E0.P Y7 [] [] fun r1 g1=>
 Ah (qB0 g1 r1)
 (Q (Ab (rB r1)) []))
 (Call E0.P Te [Al 8 a0] [] fun r2 g2=>
 Ah (qB1 g2 r2)
 (Call E0.P Apc [Al 8 a0] [] fun r3 g3=>
 Ah (qB1 g3 r3)
 (Call E0.P Mw [.imm (.agg [.int .i64 (gI (Ae (rT r2 0)) 0), .int .i64 (gI (Ae (rT r2 0)) 1), .int .i64 (gI (Ae (rT r2 0)) 2), .str (gS (Ae (rT r2 0)) 3), .sl .any 6 (gR (Ae (rT r2 0)) 4), .sl .any 7 (gR (Ae (rT r2 0)) 5)]), .imm (.agg [.int .i64 (gI (Ae (rT r3 0)) 0), .int .i64 (gI (Ae (rT r3 0)) 1), .int .i64 (gI (Ae (rT r3 0)) 2), .str (gS (Ae (rT r3 0)) 3), .sl .any 6 (gR (Ae (rT r3 0)) 4), .sl .any 7 (gR (Ae (rT r3 0)) 5)])] [] fun r4 g4=>
 Ah (qB0 g4 r4)
 (Let (bif rB r4 then decide (rI (rT r2 1)=rI (rT r3 1))else false) fun x5=>
 Br (x5 == true)
 (Call E0.P Y7 [] [] fun r6 g6=>
 Ah (qB0 g6 r6)
 (Let (rB r6) fun x7=>
 Q (Ab x7) []))
 (Ah ((!true)=false)
 (Let (false) fun x8=>
 Q (Ab x8) []))))))))):Call E0.P Ahl [Al 8 a0] [] Q:=A8 (Ar E0 X8) (Az X8) 3 0 3 ac_l27_BundlePacks [.tmp 2] Axj _ _ Q rfl rfl (kr (by kernel_rfl) h)
noncomputable def ac_l27_bundles:AC:=(Bf [] [0] (codeOf Tryz.f7) 0).1
abbrev Af2:Nat:=77
theorem A8i:Bo E0.P 7 ac_l27_bundles.code Af2 [.tmp 0]:=Bh _ _ Tryz.f7 [] [0] _ 77 Tryz.func7 (by kernel_rfl) (by kernel_rfl) (by kernel_rfl) (by kernel_rfl)
theorem A04(Q:QQ)(h:
 (Call E0.P Te [.imm (.sl .any 8 [[IV.int .i64 (3:Int), .int .i64 (0:Int), .int .i64 (1:Int),
 .int .i64 (1:Int), .int .i64 (0:Int), .str [], .sl SK.any 6 [],
 .sl SK.any 7 []],
 [.int .i64 (5:Int), .int .i64 (0:Int), .int .i64 (2:Int),
 .int .i64 (7:Int), .int .i64 (0:Int), .str [], .sl SK.any 6 [],
 .sl SK.any 7 []]])] [] fun r0 g0=>
 Ah (qB1 g0 r0)
 (Call E0.P Pn [.imm (.agg [.int .i64 (gI (Ae (rT r0 0)) 0), .int .i64 (gI (Ae (rT r0 0)) 1), .int .i64 (gI (Ae (rT r0 0)) 2), .str (gS (Ae (rT r0 0)) 3), .sl .any 6 (gR (Ae (rT r0 0)) 4), .sl .any 7 (gR (Ae (rT r0 0)) 5)])] [] fun r1 g1=>
 Ah (qB2 g1 r1)
 (Call E0.P Te [.imm (.sl .any 8 [])] [] fun r2 g2=>
 Ah (qB1 g2 r2)
 (Call E0.P Pn [.imm (.agg [.int .i64 0, .int .i64 0, .int .i64 0, .str [], .sl .any 6 [], .sl .any 7 []])] [] fun r3 g3=>
 Ah (qB2 g3 r3)
 (Call E0.P Tp [.imm (.agg [.int .i64 (gI (Ae (rT r0 0)) 0), .int .i64 (gI (Ae (rT r0 0)) 1), .int .i64 (gI (Ae (rT r0 0)) 2), .str (gS (Ae (rT r0 0)) 3), .sl .any 6 (gR (Ae (rT r0 0)) 4), .sl .any 7 (gR (Ae (rT r0 0)) 5)]), .imm (.str [70,105,114,115,116])] [] fun r4 g4=>
 Ah (qB3 g4 r4)
 (Let (bif
 gS (Ae (rT r0 0)) 3 ==
 [(51:UInt8),32,48,32,53,32,53,10,
 116,114,117,101,10,55,10]then
 decide (rI (rT r0 1)=(0:Int))
 else false) fun x5=>
 Br (x5 == true)
 (Call E0.P Agt [.imm (.sl .any 8 [[IV.int .i64 (3:Int), .int .i64 (0:Int), .int .i64 (1:Int),
 .int .i64 (1:Int), .int .i64 (0:Int), .str [], .sl SK.any 6 [],
 .sl SK.any 7 []],
 [.int .i64 (5:Int), .int .i64 (0:Int), .int .i64 (2:Int),
 .int .i64 (7:Int), .int .i64 (0:Int), .str [], .sl SK.any 6 [],
 .sl SK.any 7 []]]),Al 8 (rR (rT r1 0))] [] fun r6 g6=>
 Ah (qB0 g6 r6)
 (Let (rB r6) fun x7=>
 Let (bif x7 then decide (rI (rT r1 1)=(0:Int))else false) fun x8=>
 Let (bif x8 then decide (rI (rT r2 1)=(8:Int))else false) fun x9=>
 Let (bif x9 then decide (rI (rT r3 1)=(10:Int))else false) fun x10=>
 Let (bif x10 then rB (rT r4 1)else false) fun x11=>
 Let (bif x11 then decide (gI (Ae (rT r4 0)) 1=(8:Int))else false) fun x12=>
 Let (bif x12 then true else false) fun x13=>
 Let (bif x13 then true else false) fun x14=>
 Q (Ab x14) []))
 (Ah ((!true)=false)
 (Let (false) fun x15=>
 Let (bif x15 then decide (rI (rT r1 1)=(0:Int))else false) fun x16=>
 Let (bif x16 then decide (rI (rT r2 1)=(8:Int))else false) fun x17=>
 Let (bif x17 then decide (rI (rT r3 1)=(10:Int))else false) fun x18=>
 Let (bif x18 then rB (rT r4 1)else false) fun x19=>
 Let (bif x19 then decide (gI (Ae (rT r4 0)) 1=(8:Int))else false) fun x20=>
 Let (bif x20 then true else false) fun x21=>
 Let (bif x21 then true else false) fun x22=>
 Q (Ab x22) []))))))))):Call E0.P Y7 [] [] Q:=A8 (Ar E0 Af2) (Az Af2) 3 0 7 ac_l27_bundles [.tmp 0] A8i _ _ Q rfl rfl (kr (by kernel_rfl) h)
noncomputable def ac_l27_Few:AC:=(Bf [(5,[0,3],[]),(7,[],[]),(12,[],[])] [2] (codeOf Tryz.f6) 0).1
abbrev Mq:Nat:=20
def Agk(t0r:LL)(t3:Int)(K:KK):Prop:=Bi 5 E0.P Mq (Au 5 ac_l27_Few).code ⟨[(0,Al 8 t0r),(3,Ai t3)],[]⟩ K
def Au9(K:KK):Prop:=Aq 12 E0.P Mq (Ac 12 ac_l27_Few).code ⟨[],[]⟩ K
def Aor(Q:QQ):KK:=kE fun st=>finish 0 E0.T [.tmp 2] [] Q st
def Agh(Q:QQ):KK:=kF 0 (fun st=>Aq 12 E0.P Mq (Ac 12 ac_l27_Few).code (mask [] st) (Aor Q)) fun st=>finish 0 E0.T [.tmp 2] [] Q st
theorem Aqs(t0r:LL)(t3:Int)(K:KK)(h:
 (Br (decide (t3<(↑t0r.length:Int)))
 (Ah (((0:Int)≤t3∧t3<(↑t0r.length:Int))∧
 Bt
 [.int .i64, .int .i64, .int .i64, .int .i64, .int .i64, .str,
 .sl 6 Aa, .sl 7 Ag]
 (t0r.getD t3.toNat [])=
 true)
 (Call E0.P Ass [.imm (.agg [.int .i64 (gI (t0r.getD t3.toNat []) 2), .int .i64 (gI (t0r.getD t3.toNat []) 3), .int .i64 (gI (t0r.getD t3.toNat []) 4), .str (gS (t0r.getD t3.toNat []) 5), .sl .any 6 (gR (t0r.getD t3.toNat []) 6), .sl .any 7 (gR (t0r.getD t3.toNat []) 7)]),Ai 100] [] fun r0 g0=>
 Ah (qB0 g0 r0)
 (Br (!rB r0)
 (K .ret ⟨[(2,Ab false)],[]⟩)
 (Agk t0r (IntKind.i64.wrap (t3+(1:Int))) K))))
 (K (.exit 0) ⟨[],[]⟩))):Agk t0r t3 K:=Bg (Ar E0 Mq) (Az Mq) 3 5 (Au 5 ac_l27_Few) [0,3] _ K rfl (kr (by kernel_rfl) h)
theorem A3s(K:KK)(h:
 (K .ret ⟨[(2,Ab true)],[]⟩)):Au9 K:=Av (Ar E0 Mq) (Az Mq) 3 12 (Ac 12 ac_l27_Few) [] _ K rfl (kr (by kernel_rfl) h)
theorem A63(Q:QQ)(t2:Bool)(h:
 (Q (Ab t2) [])):Aor Q .ret ⟨[(2,Ab t2)],[]⟩:=kr (by kernel_rfl) h
theorem A64(Q:QQ)(t2:Bool)(h:
 (Q (Ab t2) [])):Agh Q .ret ⟨[(2,Ab t2)],[]⟩:=kr (by kernel_rfl) h
theorem A65(Q:QQ)(h:
 (Au9 (Aor Q))):Agh Q (.exit 0) ⟨[],[]⟩:=kr (by kernel_rfl) h
theorem Bis:Bo E0.P 6 ac_l27_Few.code Mq [.tmp 2]:=Bh _ _ Tryz.f6 [(5,[0,3],[]),(7,[],[]),(12,[],[])] [2] _ 20 Tryz.func6 (by kernel_rfl) (by kernel_rfl) (by kernel_rfl) (by kernel_rfl)
theorem Bbs(a0:LL)(Q:QQ)(h:
 (Br (decide ((150:Int)<(↑a0.length:Int)))
 (Q (Ab false) [])
 (Agk a0 ((0:Int)) (Agh Q)))):Call E0.P Asr [Al 8 a0] [] Q:=A8 (Ar E0 Mq) (Az Mq) 3 0 6 ac_l27_Few [.tmp 2] Bis _ _ Q rfl rfl (kr (by kernel_rfl) h)
noncomputable def ac_bundle_Pack:AC:=(Bf [(7,[0,2,4,5,21,22,23],[]),(9,[0,2,4,5],[]),(21,[0,2,4,5],[])] [2,3] (codeOf Tryz.f8) 0).1
abbrev Hq:Nat:=79
def Ww(t0r:LL)(t5:LB)(t21r:LL)(t22 t23:Int)(u0 u1 u2:Int)(u3:LB)(u4 u5 u6:LL)(K:KK):Prop:=Bi 7 E0.P Hq (Au 7 ac_bundle_Pack).code ⟨[(0,Al 8 t0r),(2, .ptr nL2 0),(4, .own nL4),(5,As t5),(21,Al 8 t21r),(22,Ai t22),(23,Ai t23)],[(nL2, .blk Aa [Ai u0,Ai u1,Ai u2,As u3, .own (nL2.cell 4), .own (nL2.cell 5)]),(nL4, .arr (Hg+2) true 1 u4),((nL2.cell 4), .arr (Aa+2) true 6 u5),((nL2.cell 5), .arr (Ag+2) true 7 u6)]⟩ K
def Abd(t0r:LL)(t5:LB)(u0 u1 u2:Int)(u3:LB)(u4 u5 u6:LL)(K:KK):Prop:=Aq 21 E0.P Hq (Ac 21 ac_bundle_Pack).code ⟨[(0,Al 8 t0r),(2, .ptr nL2 0),(4, .own nL4),(5,As t5)],[(nL2, .blk Aa [Ai u0,Ai u1,Ai u2,As u3, .own (nL2.cell 4), .own (nL2.cell 5)]),(nL4, .arr (Hg+2) true 1 u4),((nL2.cell 4), .arr (Aa+2) true 6 u5),((nL2.cell 5), .arr (Ag+2) true 7 u6)]⟩ K
def Wq(Q:QQ):KK:=kE fun st=>finish 0 E0.T [.cell 2 28, .tmp 3] [] Q st
def Ws(Q:QQ):KK:=kF 0 (fun st=>Aq 21 E0.P Hq (Ac 21 ac_bundle_Pack).code (mask [0,2,4,5] st) (Wq Q)) fun st=>finish 0 E0.T [.cell 2 28, .tmp 3] [] Q st
theorem Ahb(t0r:LL)(t5:LB)(t21r:LL)(t22 t23:Int)(u0 u1 u2:Int)(u3:LB)(u4 u5 u6:LL)(K:KK)(h:
 (Br (decide (t23<t22))
 (Ah (((0:Int)≤t23∧t23<(↑t21r.length:Int))∧
 Bt
 [.int .i64, .int .i64, .int .i64, .int .i64, .int .i64, .str,
 .sl 6 Aa, .sl 7 Ag]
 (t21r.getD t23.toNat [])=
 true)
 (Ah (decide ((0:Int)<t23)=true→
 ((0:Int)≤IntKind.i64.wrap (t23 - (1:Int))∧IntKind.i64.wrap (t23 - (1:Int))<(↑t0r.length:Int))∧
 Bt
 [.int .i64, .int .i64, .int .i64, .int .i64, .int .i64, .str,
 .sl 6 Aa, .sl 7 Ag]
 (t0r.getD (IntKind.i64.wrap (t23 - (1:Int))).toNat [])=
 true)
 (Let (bif decide ((0:Int)<t23)then
 decide (gI (t21r.getD t23.toNat []) 0≤gI (t0r.getD (IntKind.i64.wrap (t23 - (1:Int))).toNat []) 0)
 else false) fun x0=>
 Br (x0)
 (K .ret ⟨[(2, .ptr nL2 0),(3,Ai 15)],[(nL2, .blk Aa [Ai 0,Ai 0,Ai 0, .imm (.str []), .own (nL2.cell 4), .own (nL2.cell 5)]),((nL2.cell 4), .arr (Aa+2) true 6 []),((nL2.cell 5), .arr (Ag+2) true 7 [])]⟩)
 (Call E0.P Afo [.imm (.agg [.int .i64 (gI (t21r.getD t23.toNat []) 0), .int .i64 (gI (t21r.getD t23.toNat []) 1), .int .i64 (gI (t21r.getD t23.toNat []) 2), .int .i64 (gI (t21r.getD t23.toNat []) 3), .int .i64 (gI (t21r.getD t23.toNat []) 4), .str (gS (t21r.getD t23.toNat []) 5), .sl .any 6 (gR (t21r.getD t23.toNat []) 6), .sl .any 7 (gR (t21r.getD t23.toNat []) 7)])] [] fun r1 g1=>
 Ah (qB4 g1 r1)
 (Br (!decide (rI (rT r1 1)=(0:Int)))
 (K .ret ⟨[(2, .ptr nL2 0),(3,Ai (rI (rT r1 1)))],[(nL2, .blk Aa [Ai 0,Ai 0,Ai 0, .imm (.str []), .own (nL2.cell 4), .own (nL2.cell 5)]),((nL2.cell 4), .arr (Aa+2) true 6 []),((nL2.cell 5), .arr (Ag+2) true 7 [])]⟩)
 (Ah ((u4.length+2)*8≤140737488355328∧u4.length+2≤140737488355328)
 (Ah ((↑(t5.length+(rS (rT r1 (0:Nat))).length):Int)≤(9223372036854775807:Int))
 (Ww t0r (t5++rS (rT r1 0)) t21r t22 (IntKind.i64.wrap (t23+(1:Int))) u0 u1 u2 u3 (u4++[[IV.int .i64 (gI (t21r.getD t23.toNat []) 0)],[.int .i64 (↑t5.length:Int)]]) u5 u6 K))))))))
 (K (.exit 0) ⟨[(0,Al 8 t0r),(2, .ptr nL2 0),(4, .own nL4),(5,As t5)],[(nL2, .blk Aa [Ai u0,Ai u1,Ai u2,As u3, .own (nL2.cell 4), .own (nL2.cell 5)]),(nL4, .arr (Hg+2) true 1 u4),((nL2.cell 4), .arr (Aa+2) true 6 u5),((nL2.cell 5), .arr (Ag+2) true 7 u6)]⟩))):Ww t0r t5 t21r t22 t23 u0 u1 u2 u3 u4 u5 u6 K:=Bg (Ar E0 Hq) (Az Hq) 3 7 (Au 7 ac_bundle_Pack) [0,2,4,5,21,22,23] _ K rfl (kr (by kernel_rfl) h)
theorem Aub(t0r:LL)(t5:LB)(u0 u1 u2:Int)(u3:LB)(u4 u5 u6:LL)(K:KK)(h:
 (Call E0.P Ab6 [Al 1 u4] [] fun r0 g0=>
 Ah (g0=[]∧r0= .imm (.str (rS r0)))
 (Ah ((↑((rS r0).length+(1:Nat)):Int)≤(9223372036854775807:Int))
 (Call E0.P U7 [.imm (.str [70,105,114,115,116]), .imm (.int .i64 ((↑(rS r0++[(10:UInt8)]).length:Int)))] [] fun r1 g1=>
 Ah (qB5 g1 r1)
 (Call E0.P U7 [.imm (.str [78]),Ai ((↑t0r.length:Int))] [] fun r2 g2=>
 Ah (qB5 g2 r2)
 (Ah ((↑((rS r0++[(10:UInt8)]).length+t5.length):Int)≤(9223372036854775807:Int))
 (K .ret ⟨[(2, .ptr nL2 0),(3,Ai 0)],[(nL2, .blk Aa [Ai 8,Ai 0,Ai 0,As (rS r0++[(10:UInt8)]++t5), .own (nL2.cell 4), .own Bio]),((nL2.cell 4), .arr (Aa+2) true 6 []),(Bio, .arr (Ag+2) true 7 [[IV.str (gS (Ae r1) 0), .int .i64 (gI (Ae r1) 1),
 .int .i64 (gI (Ae r1) 2), .int .i64 (gI (Ae r1) 3),
 .str (gS (Ae r1) 4), .sl SK.any 6 (gR (Ae r1) 5),
 .sl SK.any 7 (gR (Ae r1) 6)],
 [.str (gS (Ae r2) 0), .int .i64 (gI (Ae r2) 1),
 .int .i64 (gI (Ae r2) 2), .int .i64 (gI (Ae r2) 3),
 .str (gS (Ae r2) 4), .sl SK.any 6 (gR (Ae r2) 5),
 .sl SK.any 7 (gR (Ae r2) 6)],
 [.str [84,121,112,101], .int .i64 (3:Int),
 .int .i64 (0:Int), .int .i64 (0:Int),
 .str [79,98,106,83,116,109],
 .sl SK.any 6 [], .sl SK.any 7 []]])]⟩))))))):Abd t0r t5 u0 u1 u2 u3 u4 u5 u6 K:=Av (Ar E0 Hq) (Az Hq) 3 21 (Ac 21 ac_bundle_Pack) [] _ K rfl (kr (by kernel_rfl) h)
theorem Avy(Q:QQ)(t3 u0:Int)(u1 u2:Int)(u3:LB)(u4 u5:LL)(h:
 (Q (.tup [.imm (.agg [.int .i64 u0, .int .i64 u1, .int .i64 u2, .str u3, .sl .any 6 u4, .sl .any 7 u5]),Ai t3]) [])):Wq Q .ret ⟨[(2, .ptr nL2 0),(3,Ai t3)],[(nL2, .blk Aa [Ai u0,Ai u1,Ai u2,As u3, .own (nL2.cell 4), .own Bio]),((nL2.cell 4), .arr (Aa+2) true 6 u4),(Bio, .arr (Ag+2) true 7 u5)]⟩:=kr (by kernel_rfl) h
theorem Ag8(Q:QQ)(t3 u0:Int)(u1 u2:Int)(u3:LB)(u4 u5:LL)(h:
 (Q (.tup [.imm (.agg [.int .i64 u0, .int .i64 u1, .int .i64 u2, .str u3, .sl .any 6 u4, .sl .any 7 u5]),Ai t3]) [])):Ws Q .ret ⟨[(2, .ptr nL2 0),(3,Ai t3)],[(nL2, .blk Aa [Ai u0,Ai u1,Ai u2,As u3, .own (nL2.cell 4), .own (nL2.cell 5)]),((nL2.cell 4), .arr (Aa+2) true 6 u4),((nL2.cell 5), .arr (Ag+2) true 7 u5)]⟩:=kr (by kernel_rfl) h
theorem Avz(Q:QQ)(t0r:LL)(t5:LB)(u0 u1 u2:Int)(u3:LB)(u4 u5 u6:LL)(h:
 (Abd t0r t5 u0 u1 u2 u3 u4 u5 u6 (Wq Q))):Ws Q (.exit 0) ⟨[(0,Al 8 t0r),(2, .ptr nL2 0),(4, .own nL4),(5,As t5)],[(nL2, .blk Aa [Ai u0,Ai u1,Ai u2,As u3, .own (nL2.cell 4), .own (nL2.cell 5)]),(nL4, .arr (Hg+2) true 1 u4),((nL2.cell 4), .arr (Aa+2) true 6 u5),((nL2.cell 5), .arr (Ag+2) true 7 u6)]⟩:=kr (by kernel_rfl) h
theorem A8f:Bo E0.P 8 ac_bundle_Pack.code Hq [.cell 2 28, .tmp 3]:=Bh _ _ Tryz.f8 [(7,[0,2,4,5,21,22,23],[]),(9,[0,2,4,5],[]),(21,[0,2,4,5],[])] [2,3] _ 79 Tryz.func8 (by kernel_rfl) (by kernel_rfl) (by kernel_rfl) (by kernel_rfl)
theorem A01(a0:LL)(Q:QQ)(h:
 (Let (bif decide ((↑a0.length:Int)=(0:Int))then true else decide ((100:Int)<(↑a0.length:Int))) fun x0=>
 Br (x0)
 (Q (.tup [.imm (.agg [.int .i64 0, .int .i64 0, .int .i64 0, .str [], .sl .any 6 [], .sl .any 7 []]),Ai 8]) [])
 (Ww a0 [] a0 ((↑a0.length:Int)) ((0:Int)) ((0:Int)) ((0:Int)) ((0:Int)) [] [] [] [] (Ws Q)))):Call E0.P Te [Al 8 a0] [] Q:=A8 (Ar E0 Hq) (Az Hq) 3 0 8 ac_bundle_Pack [.cell 2 28, .tmp 3] A8f _ _ Q rfl rfl (kr (by kernel_rfl) h)
noncomputable def ac_bundle_Unpack:AC:=(Bf [] [2,3] (codeOf Tryz.f12) 0).1
abbrev Ab9:Nat:=70
theorem A25:Bo E0.P 12 ac_bundle_Unpack.code Ab9 [.tmp 2, .tmp 3]:=Bh _ _ Tryz.f12 [] [2,3] _ 70 Tryz.func12 (by kernel_rfl) (by kernel_rfl) (by kernel_rfl) (by kernel_rfl)
theorem Avs(a0_0 a0_1 a0_2:Int)(a0_3:LB)(a0_4 a0_5:LL)(Q:QQ)(h:
 (Call E0.P Tp [.imm (.agg [.int .i64 a0_0, .int .i64 a0_1, .int .i64 a0_2, .str a0_3, .sl .any 6 a0_4, .sl .any 7 a0_5]), .imm (.str [84,121,112,101])] [] fun r0 g0=>
 Ah (qB3 g0 r0)
 (Let (bif !decide (a0_0=(8:Int))then true else !decide (gI (Ae (rT r0 0)) 0=(3:Int))) fun x1=>
 Let (bif x1 then true
 else
 !gS (Ae (rT r0 0)) 3 ==
 [(79:UInt8),98,106,83,116,109]) fun x2=>
 Br (x2)
 (Q (.tup [.imm (.sl .any 8 []),Ai 10]) [])
 (Call E0.P U8 [.imm (.agg [.int .i64 a0_0, .int .i64 a0_1, .int .i64 a0_2, .str a0_3, .sl .any 6 a0_4, .sl .any 7 a0_5]), .imm (.str [78]),Ai 1,Ai 100] [] fun r3 g3=>
 Ah (g3=[]∧r3= .tup [.imm (.int .i64 (rI (rT r3 0))), .imm (.bool (rB (rT r3 1)))])
 (Call E0.P U8 [.imm (.agg [.int .i64 a0_0, .int .i64 a0_1, .int .i64 a0_2, .str a0_3, .sl .any 6 a0_4, .sl .any 7 a0_5]), .imm (.str [70,105,114,115,116]),Ai 0,Ai ((↑a0_3.length:Int))] [] fun r4 g4=>
 Ah (g4=[]∧r4= .tup [.imm (.int .i64 (rI (rT r4 0))), .imm (.bool (rB (rT r4 1)))])
 (Let (bif !rB (rT r3 1)then true else !rB (rT r4 1)) fun x5=>
 Br (x5)
 (Q (.tup [.imm (.sl .any 8 []),Ai 11]) [])
 (Ah ((0:Int)≤rI (rT r4 0)∧rI (rT r4 0)≤(↑a0_3.length:Int))
 (Let (List.take (rI (rT r4 0)).toNat a0_3) fun x6=>
 Call E0.P R9 [As x6,Ai (IntKind.i64.wrap ((2:Int)*rI (rT r3 0)))] [] fun r7 g7=>
 Ah (qB6 g7 r7)
 (Br (!decide (rI (rT r7 1)=(0:Int)))
 (Q (.tup [.imm (.sl .any 8 []),Ai (rI (rT r7 1))]) [])
 (Ah ((0:Int)≤rI (rT r4 0)∧rI (rT r4 0)≤(↑a0_3.length:Int))
 (Let (List.drop (rI (rT r4 0)).toNat a0_3) fun x8=>
 Call E0.P Ad2 [Al 1 (rR (rT r7 0)),As x8] [] fun r9 g9=>
 Ah (qB2 g9 r9)
 (Q (.tup [Al 8 (rR (rT r9 0)),Ai (rI (rT r9 1))]) [])))))))))))):Call E0.P Pn [.imm (.agg [.int .i64 a0_0, .int .i64 a0_1, .int .i64 a0_2, .str a0_3, .sl .any 6 a0_4, .sl .any 7 a0_5])] [] Q:=A8 (Ar E0 Ab9) (Az Ab9) 3 0 12 ac_bundle_Unpack [.tmp 2, .tmp 3] A25 _ _ Q rfl rfl (kr (by kernel_rfl) h)
noncomputable def ac_bundle_text:AC:=(Bf [] [2,3] (codeOf Tryz.f18) 0).1
abbrev Af1:Nat:=35
theorem A8g:Bo E0.P 18 ac_bundle_text.code Af1 [.tmp 2, .tmp 3]:=Bh _ _ Tryz.f18 [] [2,3] _ 35 Tryz.func18 (by kernel_rfl) (by kernel_rfl) (by kernel_rfl) (by kernel_rfl)
theorem A02(a0_0 a0_1:Int)(a0_2 a0_3 a0_4:Int)(a0_5:LB)(a0_6 a0_7:LL)(Q:QQ)(h:
 (Let (bif decide (a0_0<(1:Int))then true else decide ((8388607:Int)<a0_0)) fun x0=>
 Br (x0)
 (Q (.tup [.imm (.str []),Ai 3]) [])
 (Br (!decide (a0_1=(0:Int)))
 (Q (.tup [.imm (.str []),Ai 2]) [])
 (Call E0.P Aiy [.imm (.agg [.int .i64 a0_2, .int .i64 a0_3, .int .i64 a0_4, .str a0_5, .sl .any 6 a0_6, .sl .any 7 a0_7])] [] fun r1 g1=>
 Ah (qB4 g1 r1)
 (Br (!decide (rI (rT r1 1)=(0:Int)))
 (Q (.tup [.imm (.str []),Ai (rI (rT r1 1))]) [])
 (Br (decide ((4096:Int)<(↑(rS (rT r1 (0:Nat))).length:Int)))
 (Q (.tup [.imm (.str []),Ai 7]) [])
 (Ah ((↑((rS (rT r1 (0:Nat))).length+(1:Nat)):Int)≤(9223372036854775807:Int))
 (Q (.tup [As (rS (rT r1 0)++[(10:UInt8)]),Ai 0]) [])))))))):Call E0.P Afo [.imm (.agg [.int .i64 a0_0, .int .i64 a0_1, .int .i64 a0_2, .int .i64 a0_3, .int .i64 a0_4, .str a0_5, .sl .any 6 a0_6, .sl .any 7 a0_7])] [] Q:=A8 (Ar E0 Af1) (Az Af1) 3 0 18 ac_bundle_text [.tmp 2, .tmp 3] A8g _ _ Q rfl rfl (kr (by kernel_rfl) h)
noncomputable def ac_bundle_spaced:AC:=(Bf [(3,[3,6,7,8],[]),(5,[3],[]),(9,[3,5,6,7,8],[3,6,7,8]),(10,[3,6,7,8],[3,6,7,8]),(11,[3],[])] [2] (codeOf Tryz.f19) 0).1
abbrev Ct:Nat:=23
def R8(t3:LB)(t6r:LL)(t7 t8:Int)(K:KK):Prop:=Bi 3 E0.P Ct (Au 3 ac_bundle_spaced).code ⟨[(3,As t3),(6,Al 1 t6r),(7,Ai t7),(8,Ai t8)],[]⟩ K
def R5(t3:LB)(t5:Int)(t6r:LL)(t7 t8:Int)(K:KK):Prop:=Aq 9 E0.P Ct (Ac 9 ac_bundle_spaced).code ⟨[(3,As t3),(5,Ai t5),(6,Al 1 t6r),(7,Ai t7),(8,Ai t8)],[]⟩ K
def Ag1(t3:LB)(K:KK):Prop:=Aq 11 E0.P Ct (Ac 11 ac_bundle_spaced).code ⟨[(3,As t3)],[]⟩ K
def Ag0(t3:LB)(t6r:LL)(t7 t8:Int)(K:KK):Prop:=Aq 10 E0.P Ct (Ac 10 ac_bundle_spaced).code ⟨[(3,As t3),(6,Al 1 t6r),(7,Ai t7),(8,Ai t8)],[]⟩ K
def Zn(Q:QQ):KK:=kE fun st=>finish 0 E0.T [.tmp 2] [] Q st
def Ajh(Q:QQ):KK:=kF 0 (fun st=>Aq 11 E0.P Ct (Ac 11 ac_bundle_spaced).code (mask [3] st) (Zn Q)) fun st=>finish 0 E0.T [.tmp 2] [] Q st
def Zo(K:KK):Ex→St→Prop
 | .normal,st=>Bi 3 E0.P Ct (Au 3 ac_bundle_spaced).code (mask [3,6,7,8] st) K
 | .exit i,st=>K (.exit i) st
 | .goto i,st=>K (.goto i) st
 | .ret,st=>K .ret st
def R6(K:KK):KK:=kC 1 (fun st=>Aq 10 E0.P Ct (Ac 10 ac_bundle_spaced).code (mask [3,6,7,8] st) (Zo K)) K
theorem Adl(t3:LB)(t6r:LL)(t7 t8:Int)(K:KK)(h:
 (Br (decide (t8<t7))
 (Ah (((0:Int)≤t8∧t8<(↑t6r.length:Int))∧Bt [.int .i64] (t6r.getD t8.toNat [])=true)
 (Br (decide ((0:Int)<t8))
 (Ah ((↑(t3.length+(1:Nat)):Int)≤(9223372036854775807:Int))
 (R5 (t3++[(32:UInt8)]) (gI (t6r.getD t8.toNat []) 0) t6r t7 t8 (R6 K)))
 (R5 t3 (gI (t6r.getD t8.toNat []) 0) t6r t7 t8 (R6 K))))
 (K (.exit 0) ⟨[(3,As t3)],[]⟩))):R8 t3 t6r t7 t8 K:=Bg (Ar E0 Ct) (Az Ct) 3 3 (Au 3 ac_bundle_spaced) [3,6,7,8] _ K rfl (kr (by kernel_rfl) h)
theorem Arv(t3:LB)(t5:Int)(t6r:LL)(t7 t8:Int)(K:KK)(h:
 (Call E0.P Qo [Ai t5] [] fun r0 g0=>
 Ah (g0=[]∧r0= .imm (.str (rS r0)))
 (Ah ((↑(t3.length+(rS r0).length):Int)≤(9223372036854775807:Int))
 (K .normal ⟨[(3,As (t3++rS r0)),(6,Al 1 t6r),(7,Ai t7),(8,Ai t8)],[]⟩)))):R5 t3 t5 t6r t7 t8 K:=Av (Ar E0 Ct) (Az Ct) 3 9 (Ac 9 ac_bundle_spaced) [3,6,7,8] _ K rfl (kr (by kernel_rfl) h)
theorem Aps(t3:LB)(K:KK)(h:
 (K .ret ⟨[(2,As t3)],[]⟩)):Ag1 t3 K:=Av (Ar E0 Ct) (Az Ct) 3 11 (Ac 11 ac_bundle_spaced) [] _ K rfl (kr (by kernel_rfl) h)
theorem Apr(t3:LB)(t6r:LL)(t7 t8:Int)(K:KK)(h:
 (K .normal ⟨[(3,As t3),(6,Al 1 t6r),(7,Ai t7),(8,Ai (IntKind.i64.wrap (t8+(1:Int))))],[]⟩)):Ag0 t3 t6r t7 t8 K:=Av (Ar E0 Ct) (Az Ct) 3 10 (Ac 10 ac_bundle_spaced) [3,6,7,8] _ K rfl (kr (by kernel_rfl) h)
theorem Ar1(Q:QQ)(t2:LB)(h:
 (Q (As t2) [])):Zn Q .ret ⟨[(2,As t2)],[]⟩:=kr (by kernel_rfl) h
theorem Ar2(Q:QQ)(t3:LB)(h:
 (Ag1 t3 (Zn Q))):Ajh Q (.exit 0) ⟨[(3,As t3)],[]⟩:=kr (by kernel_rfl) h
theorem Ar3(K:KK)(t3:LB)(t6r:LL)(t7 t8:Int)(h:
 (R8 t3 t6r t7 t8 K)):Zo K .normal ⟨[(3,As t3),(6,Al 1 t6r),(7,Ai t7),(8,Ai t8)],[]⟩:=kr (by kernel_rfl) h
theorem Ar4(K:KK)(t3:LB)(t6r:LL)(t7 t8:Int)(h:
 (Ag0 t3 t6r t7 t8 (Zo K))):R6 K .normal ⟨[(3,As t3),(6,Al 1 t6r),(7,Ai t7),(8,Ai t8)],[]⟩:=kr (by kernel_rfl) h
theorem A27:Bo E0.P 19 ac_bundle_spaced.code Ct [.tmp 2]:=Bh _ _ Tryz.f19 [(3,[3,6,7,8],[]),(5,[3],[]),(9,[3,5,6,7,8],[3,6,7,8]),(10,[3,6,7,8],[3,6,7,8]),(11,[3],[])] [2] _ 23 Tryz.func19 (by kernel_rfl) (by kernel_rfl) (by kernel_rfl) (by kernel_rfl)
theorem Avu(a0:LL)(Q:QQ)(h:
 (R8 [] a0 ((↑a0.length:Int)) ((0:Int)) (Ajh Q))):Call E0.P Ab6 [Al 1 a0] [] Q:=A8 (Ar E0 Ct) (Az Ct) 3 0 19 ac_bundle_spaced [.tmp 2] A27 _ _ Q rfl rfl (kr (by kernel_rfl) h)
noncomputable def ac_bundle_number:AC:=(Bf [] [4] (codeOf Tryz.f20) 0).1
abbrev Aca:Nat:=9
theorem A26:Bo E0.P 20 ac_bundle_number.code Aca [.cell 4 53]:=Bh _ _ Tryz.f20 [] [4] _ 9 Tryz.func20 (by kernel_rfl) (by kernel_rfl) (by kernel_rfl) (by kernel_rfl)
theorem Avt(a0:LB)(a1:Int)(Q:QQ)(h:
 (Q (.imm (.agg [.str a0, .int .i64 2, .int .i64 a1, .int .i64 0, .str [], .sl .any 6 [], .sl .any 7 []])) [])):Call E0.P U7 [As a0,Ai a1] [] Q:=A8 (Ar E0 Aca) (Az Aca) 3 0 20 ac_bundle_number [.cell 4 53] A26 _ _ Q rfl rfl (kr (by kernel_rfl) h)
noncomputable def ac_bundle_within:AC:=(Bf [] [8,9] (codeOf Tryz.f26) 0).1
abbrev Acb:Nat:=35
theorem A28:Bo E0.P 26 ac_bundle_within.code Acb [.tmp 8, .tmp 9]:=Bh _ _ Tryz.f26 [] [8,9] _ 35 Tryz.func26 (by kernel_rfl) (by kernel_rfl) (by kernel_rfl) (by kernel_rfl)
theorem Avv(a0_0 a0_1 a0_2:Int)(a0_3:LB)(a0_4 a0_5:LL)(a1:LB)(a2 a3:Int)(Q:QQ)(h:
 (Call E0.P Tp [.imm (.agg [.int .i64 a0_0, .int .i64 a0_1, .int .i64 a0_2, .str a0_3, .sl .any 6 a0_4, .sl .any 7 a0_5]),As a1] [] fun r0 g0=>
 Ah (qB3 g0 r0)
 (Let (bif decide (gI (Ae (rT r0 0)) 0=(2:Int))then
 decide (a2≤gI (Ae (rT r0 0)) 1)
 else false) fun x1=>
 Let (bif x1 then decide (gI (Ae (rT r0 0)) 1≤a3)else false) fun x2=>
 Q (.tup [Ai (gI (Ae (rT r0 0)) 1),Ab x2]) []))):Call E0.P U8 [.imm (.agg [.int .i64 a0_0, .int .i64 a0_1, .int .i64 a0_2, .str a0_3, .sl .any 6 a0_4, .sl .any 7 a0_5]),As a1,Ai a2,Ai a3] [] Q:=A8 (Ar E0 Acb) (Az Acb) 3 0 26 ac_bundle_within [.tmp 8, .tmp 9] A28 _ _ Q rfl rfl (kr (by kernel_rfl) h)
noncomputable def ac_bundle_numbers:AC:=(Bf [(1,[0,1,6,7],[]),(5,[0,1,6,7],[]),(12,[0,1,6,7],[])] [4,5] (codeOf Tryz.f27) 0).1
abbrev I9:Nat:=48
def Q4(t0:LB)(t1 t7:Int)(u0:LL)(K:KK):Prop:=Bi 5 E0.P I9 (Au 5 ac_bundle_numbers).code ⟨[(0,As t0),(1,Ai t1),(6, .own Oz),(7,Ai t7)],[(Oz, .arr (Hg+2) true 1 u0)]⟩ K
def Av0(Q:QQ):KK:=kE fun st=>finish 0 E0.T [.tmp 4, .tmp 5] [] Q st
def Qw(Q:QQ):Ex→St→Prop
 | .normal,st=>finish 0 E0.T [.tmp 4, .tmp 5] [] Q st
 | .exit i,st=>(match (i.beq 0:Bool)with
 |true=>finish 0 E0.T [.tmp 4, .tmp 5] [] Q st
 |false=>False)
 | .goto i,st=>Jw 1 E0.P I9 i (K5 1 ac_bundle_numbers).code (mask [0,1,6,7] st) (Av0 Q)
 | .ret,st=>finish 0 E0.T [.tmp 4, .tmp 5] [] Q st
theorem Aqr(t0:LB)(t1 t7:Int)(u0:LL)(K:KK)(h:
 (Call E0.P Qq [As t0,Ai t7] [] fun r0 g0=>
 Ah (qB7 g0 r0)
 (Br (!decide (rI (rT r0 1)=(0:Int)))
 (K .ret ⟨[(4, .own nL4),(5,Ai (rI (rT r0 1)))],[(nL4, .arr (Hg+2) true 1 [])]⟩)
 (Let (bif decide ((↑u0.length:Int)<t1)then decide (gI (Ae (rT r0 0)) 0=(1:Int))else false) fun x1=>
 Br (x1)
 (Ah ((u0.length+1)*8≤140737488355328∧u0.length+1≤140737488355328)
 (Q4 t0 t1 (gI (Ae (rT r0 0)) 4) (u0++[[IV.int .i64 (gI (Ae (rT r0 0)) 1)]]) K))
 (Let (bif decide ((↑u0.length:Int)<t1)then true else !decide (gI (Ae (rT r0 0)) 0=(0:Int))) fun x2=>
 Br (x2)
 (K .ret ⟨[(4, .own nL4),(5,Ai 4)],[(nL4, .arr (Hg+2) true 1 [])]⟩)
 (K .ret ⟨[(4, .own Oz),(5,Ai 0)],[(Oz, .arr (Hg+2) true 1 u0)]⟩)))))):Q4 t0 t1 t7 u0 K:=Bg (Ar E0 I9) (Az I9) 3 5 (Au 5 ac_bundle_numbers) [0,1,6,7] _ K rfl (kr (by kernel_rfl) h)
theorem Ach(Q:QQ)(t5:Int)(u0:LL)(h:
 (Q (.tup [Al 1 u0,Ai t5]) [])):Qw Q .ret ⟨[(4, .own nL4),(5,Ai t5)],[(nL4, .arr (Hg+2) true 1 u0)]⟩:=kr (by kernel_rfl) h
theorem Aqf(Q:QQ)(t5:Int)(u0:LL)(h:
 (Q (.tup [Al 1 u0,Ai t5]) [])):Qw Q .ret ⟨[(4, .own Oz),(5,Ai t5)],[(Oz, .arr (Hg+2) true 1 u0)]⟩:=kr (by kernel_rfl) h
theorem Az9:Bo E0.P 27 ac_bundle_numbers.code I9 [.tmp 4, .tmp 5]:=Bh _ _ Tryz.f27 [(1,[0,1,6,7],[]),(5,[0,1,6,7],[]),(12,[0,1,6,7],[])] [4,5] _ 48 Tryz.func27 (by kernel_rfl) (by kernel_rfl) (by kernel_rfl) (by kernel_rfl)
theorem Auo(a0:LB)(a1:Int)(Q:QQ)(h:
 (Q4 a0 a1 ((0:Int)) [] (Qw Q))):Call E0.P R9 [As a0,Ai a1] [] Q:=A8 (Ar E0 I9) (Az I9) 3 0 27 ac_bundle_numbers [.tmp 4, .tmp 5] Az9 _ _ Q rfl rfl (kr (by kernel_rfl) h)
noncomputable def ac_bundle_apart:AC:=(Bf [(4,[0,1,6,7,8,9],[]),(6,[6],[]),(19,[0,1,6,7,8,9,10,11,12],[0,1,6,7,8,9]),(24,[0,1,6,7,8,9],[0,1,6,7,8,9]),(25,[6],[])] [4,5] (codeOf Tryz.f28) 0).1
abbrev Cw:Nat:=106
def Uw(t0r:LL)(t1:LB)(t7 t8 t9:Int)(u0:LL)(K:KK):Prop:=Bi 4 E0.P Cw (Au 4 ac_bundle_apart).code ⟨[(0,Al 1 t0r),(1,As t1),(6, .own Oz),(7,Ai t7),(8,Ai t8),(9,Ai t9)],[(Oz, .arr (C8+2) true 8 u0)]⟩ K
def R4(t0r:LL)(t1:LB)(t7 t8:Int)(t9 t10:Int)(t11 t12:Int)(u0:LL)(K:KK):Prop:=Aq 19 E0.P Cw (Ac 19 ac_bundle_apart).code ⟨[(0,Al 1 t0r),(1,As t1),(6, .own Oz),(7,Ai t7),(8,Ai t8),(9,Ai t9),(10,Ai t10),(11,Ai t11),(12,Ai t12)],[(Oz, .arr (C8+2) true 8 u0)]⟩ K
def Ajc(u0:LL)(K:KK):Prop:=Aq 25 E0.P Cw (Ac 25 ac_bundle_apart).code ⟨[(6, .own Oz)],[(Oz, .arr (C8+2) true 8 u0)]⟩ K
def Ajb(t0r:LL)(t1:LB)(t7 t8 t9:Int)(u0:LL)(K:KK):Prop:=Aq 24 E0.P Cw (Ac 24 ac_bundle_apart).code ⟨[(0,Al 1 t0r),(1,As t1),(6, .own Oz),(7,Ai t7),(8,Ai t8),(9,Ai t9)],[(Oz, .arr (C8+2) true 8 u0)]⟩ K
def Abi(Q:QQ):KK:=kE fun st=>finish 0 E0.T [.tmp 4, .tmp 5] [] Q st
def Pd(Q:QQ):KK:=kF 0 (fun st=>Aq 25 E0.P Cw (Ac 25 ac_bundle_apart).code (mask [6] st) (Abi Q)) fun st=>finish 0 E0.T [.tmp 4, .tmp 5] [] Q st
def Abj(K:KK):Ex→St→Prop
 | .normal,st=>Bi 4 E0.P Cw (Au 4 ac_bundle_apart).code (mask [0,1,6,7,8,9] st) K
 | .exit i,st=>K (.exit i) st
 | .goto i,st=>K (.goto i) st
 | .ret,st=>K .ret st
def Pe(K:KK):KK:=kC 1 (fun st=>Aq 24 E0.P Cw (Ac 24 ac_bundle_apart).code (mask [0,1,6,7,8,9] st) (Abj K)) K
theorem Aew(t0r:LL)(t1:LB)(t7 t8 t9:Int)(u0:LL)(K:KK)(h:
 (Br (decide (t9<(↑t0r.length:Int)))
 (Ah (((0:Int)≤t9∧t9<(↑t0r.length:Int))∧Bt [.int .i64] (t0r.getD t9.toNat [])=true)
 (Ah (((0:Int)≤IntKind.i64.wrap (t9+(1:Int))∧IntKind.i64.wrap (t9+(1:Int))<(↑t0r.length:Int))∧
 Bt [.int .i64] (t0r.getD (IntKind.i64.wrap (t9+(1:Int))).toNat [])=true)
 (Let (bif decide ((0:Int)<t9)then decide (gI (t0r.getD t9.toNat []) 0≤t7)else false) fun x0=>
 Br (x0)
 (K .ret ⟨[(4, .own nL4),(5,Ai 15)],[(nL4, .arr (C8+2) true 8 [])]⟩)
 (Let (bif decide (gI (t0r.getD t9.toNat []) 0<(1:Int))then true
 else decide ((8388607:Int)<gI (t0r.getD t9.toNat []) 0)) fun x1=>
 Br (x1)
 (K .ret ⟨[(4, .own nL4),(5,Ai 3)],[(nL4, .arr (C8+2) true 8 [])]⟩)
 (Let (bif decide (t9=(0:Int))then
 !decide (gI (t0r.getD (IntKind.i64.wrap (t9+(1:Int))).toNat []) 0=(0:Int))
 else false) fun x2=>
 Let (bif x2 then true else decide (gI (t0r.getD (IntKind.i64.wrap (t9+(1:Int))).toNat []) 0≤t8)) fun x3=>
 Let (bif x3 then true else decide ((↑t1.length:Int)<gI (t0r.getD (IntKind.i64.wrap (t9+(1:Int))).toNat []) 0)) fun x4=>
 Br (x4)
 (K .ret ⟨[(4, .own nL4),(5,Ai 4)],[(nL4, .arr (C8+2) true 8 [])]⟩)
 (Ah (decide (IntKind.i64.wrap (t9+(3:Int))<(↑t0r.length:Int))=true→
 ((0:Int)≤IntKind.i64.wrap (t9+(3:Int))∧IntKind.i64.wrap (t9+(3:Int))<(↑t0r.length:Int))∧
 Bt [.int .i64] (t0r.getD (IntKind.i64.wrap (t9+(3:Int))).toNat [])=true)
 (Let (bif decide (IntKind.i64.wrap (t9+(3:Int))<(↑t0r.length:Int))then
 decide
 (gI (t0r.getD (IntKind.i64.wrap (t9+(1:Int))).toNat []) 0≤
 gI (t0r.getD (IntKind.i64.wrap (t9+(3:Int))).toNat []) 0)
 else false) fun x5=>
 Br (x5)
 (Ah (((0:Int)≤IntKind.i64.wrap (t9+(3:Int))∧IntKind.i64.wrap (t9+(3:Int))<(↑t0r.length:Int))∧
 Bt [.int .i64] (t0r.getD (IntKind.i64.wrap (t9+(3:Int))).toNat [])=true)
 (R4 t0r t1 (gI (t0r.getD t9.toNat []) 0) (gI (t0r.getD (IntKind.i64.wrap (t9+(1:Int))).toNat []) 0) t9 (gI (t0r.getD t9.toNat []) 0) (gI (t0r.getD (IntKind.i64.wrap (t9+(1:Int))).toNat []) 0) (if gI (t0r.getD (IntKind.i64.wrap (t9+(3:Int))).toNat []) 0<(↑t1.length:Int)then
 gI (t0r.getD (IntKind.i64.wrap (t9+(3:Int))).toNat []) 0
 else(↑t1.length:Int)) u0 (Pe K)))
 (R4 t0r t1 (gI (t0r.getD t9.toNat []) 0) (gI (t0r.getD (IntKind.i64.wrap (t9+(1:Int))).toNat []) 0) t9 (gI (t0r.getD t9.toNat []) 0) (gI (t0r.getD (IntKind.i64.wrap (t9+(1:Int))).toNat []) 0) ((↑t1.length:Int)) u0 (Pe K)))))))))
 (K (.exit 0) ⟨[(6, .own Oz)],[(Oz, .arr (C8+2) true 8 u0)]⟩))):Uw t0r t1 t7 t8 t9 u0 K:=Bg (Ar E0 Cw) (Az Cw) 3 4 (Au 4 ac_bundle_apart) [0,1,6,7,8,9] _ K rfl (kr (by kernel_rfl) h)
theorem Ars(t0r:LL)(t1:LB)(t7 t8:Int)(t9 t10:Int)(t11 t12:Int)(u0:LL)(K:KK)(h:
 (Ah ((0:Int)≤t11∧t11≤t12∧t12≤(↑t1.length:Int))
 (Let (List.drop t11.toNat (List.take t12.toNat t1)) fun x0=>
 Call E0.P Afr [As x0] [] fun r1 g1=>
 Ah (qB1 g1 r1)
 (Br (!decide (rI (rT r1 1)=(0:Int)))
 (K .ret ⟨[(4, .own nL4),(5,Ai (rI (rT r1 1)))],[(nL4, .arr (C8+2) true 8 [])]⟩)
 (Ah ((u0.length+1)*104≤140737488355328∧u0.length+1≤140737488355328)
 (K .normal ⟨[(0,Al 1 t0r),(1,As t1),(6, .own Oz),(7,Ai t7),(8,Ai t8),(9,Ai t9)],[(Oz, .arr (C8+2) true 8 (u0++
 [[IV.int .i64 t10, .int .i64 (0:Int), .int .i64 (gI (Ae (rT r1 0)) 0),
 .int .i64 (gI (Ae (rT r1 0)) 1),
 .int .i64 (gI (Ae (rT r1 0)) 2), .str (gS (Ae (rT r1 0)) 3),
 .sl SK.any 6 (gR (Ae (rT r1 0)) 4),
 .sl SK.any 7 (gR (Ae (rT r1 0)) 5)]]))]⟩)))))):R4 t0r t1 t7 t8 t9 t10 t11 t12 u0 K:=Av (Ar E0 Cw) (Az Cw) 3 19 (Ac 19 ac_bundle_apart) [0,1,6,7,8,9] _ K rfl (kr (by kernel_rfl) h)
theorem Aru(u0:LL)(K:KK)(h:
 (K .ret ⟨[(4, .own Oz),(5,Ai 0)],[(Oz, .arr (C8+2) true 8 u0)]⟩)):Ajc u0 K:=Av (Ar E0 Cw) (Az Cw) 3 25 (Ac 25 ac_bundle_apart) [] _ K rfl (kr (by kernel_rfl) h)
theorem Art(t0r:LL)(t1:LB)(t7 t8 t9:Int)(u0:LL)(K:KK)(h:
 (K .normal ⟨[(0,Al 1 t0r),(1,As t1),(6, .own Oz),(7,Ai t7),(8,Ai t8),(9,Ai (IntKind.i64.wrap (t9+(2:Int))))],[(Oz, .arr (C8+2) true 8 u0)]⟩)):Ajb t0r t1 t7 t8 t9 u0 K:=Av (Ar E0 Cw) (Az Cw) 3 24 (Ac 24 ac_bundle_apart) [0,1,6,7,8,9] _ K rfl (kr (by kernel_rfl) h)
theorem Aup(Q:QQ)(t5:Int)(u0:LL)(h:
 (Q (.tup [Al 8 u0,Ai t5]) [])):Abi Q .ret ⟨[(4, .own Oz),(5,Ai t5)],[(Oz, .arr (C8+2) true 8 u0)]⟩:=kr (by kernel_rfl) h
theorem P5(Q:QQ)(t5:Int)(u0:LL)(h:
 (Q (.tup [Al 8 u0,Ai t5]) [])):Pd Q .ret ⟨[(4, .own nL4),(5,Ai t5)],[(nL4, .arr (C8+2) true 8 u0)]⟩:=kr (by kernel_rfl) h
theorem Auq(Q:QQ)(u0:LL)(h:
 (Ajc u0 (Abi Q))):Pd Q (.exit 0) ⟨[(6, .own Oz)],[(Oz, .arr (C8+2) true 8 u0)]⟩:=kr (by kernel_rfl) h
theorem Aur(K:KK)(t0r:LL)(t1:LB)(t7 t8 t9:Int)(u0:LL)(h:
 (Uw t0r t1 t7 t8 t9 u0 K)):Abj K .normal ⟨[(0,Al 1 t0r),(1,As t1),(6, .own Oz),(7,Ai t7),(8,Ai t8),(9,Ai t9)],[(Oz, .arr (C8+2) true 8 u0)]⟩:=kr (by kernel_rfl) h
theorem Aus(K:KK)(t5:Int)(u0:LL)(h:
 (K .ret ⟨[(4, .own nL4),(5,Ai t5)],[(nL4, .arr (C8+2) true 8 u0)]⟩)):Pe K .ret ⟨[(4, .own nL4),(5,Ai t5)],[(nL4, .arr (C8+2) true 8 u0)]⟩:=kr (by kernel_rfl) h
theorem Aut(K:KK)(t0r:LL)(t1:LB)(t7 t8 t9:Int)(u0:LL)(h:
 (Ajb t0r t1 t7 t8 t9 u0 (Abj K))):Pe K .normal ⟨[(0,Al 1 t0r),(1,As t1),(6, .own Oz),(7,Ai t7),(8,Ai t8),(9,Ai t9)],[(Oz, .arr (C8+2) true 8 u0)]⟩:=kr (by kernel_rfl) h
theorem A5s:Bo E0.P 28 ac_bundle_apart.code Cw [.tmp 4, .tmp 5]:=Bh _ _ Tryz.f28 [(4,[0,1,6,7,8,9],[]),(6,[6],[]),(19,[0,1,6,7,8,9,10,11,12],[0,1,6,7,8,9]),(24,[0,1,6,7,8,9],[0,1,6,7,8,9]),(25,[6],[])] [4,5] _ 106 Tryz.func28 (by kernel_rfl) (by kernel_rfl) (by kernel_rfl) (by kernel_rfl)
theorem Azf(a0:LL)(a1:LB)(Q:QQ)(h:
 (Uw a0 a1 ((0:Int)) ((-1:Int)) ((0:Int)) [] (Pd Q))):Call E0.P Ad2 [Al 1 a0,As a1] [] Q:=A8 (Ar E0 Cw) (Az Cw) 3 0 28 ac_bundle_apart [.tmp 4, .tmp 5] A5s _ _ Q rfl rfl (kr (by kernel_rfl) h)
noncomputable def ac_r27_Pack:AC:=(Bf [(7,[0,2,4,5,6,7],[]),(9,[0,2,4,5],[]),(30,[0,2,4,5,6,7,8,9],[0,2,4,5,6,7]),(32,[0,2,4,5,6,7],[0,2,4,5,6,7]),(33,[0,2,4,5],[])] [2,3] (codeOf Tryz.f9) 0).1
abbrev El:Nat:=109
def Adq(t0r:LL)(t4 t5:LB)(t6 t7:Int)(u0 u1 u2:Int)(u3:LB)(u4 u5:LL)(K:KK):Prop:=Bi 7 E0.P El (Au 7 ac_r27_Pack).code ⟨[(0,Al 8 t0r),(2, .ptr nL2 0),(4,As t4),(5,As t5),(6,Ai t6),(7,Ai t7)],[(nL2, .blk Aa [Ai u0,Ai u1,Ai u2,As u3, .own (nL2.cell 4), .own (nL2.cell 5)]),((nL2.cell 4), .arr (Aa+2) true 6 u4),((nL2.cell 5), .arr (Ag+2) true 7 u5)]⟩ K
def Aar(t0r:LL)(t4 t5:LB)(t6 t7:Int)(t9:LB)(u0 u1 u2:Int)(u3:LB)(u4 u5:Int)(u6 u7 u8:Int)(u9:LB)(v0 v1:LL)(v2 v3:LL)(K:KK):Prop:=Aq 30 E0.P El (Ac 30 ac_r27_Pack).code ⟨[(0,Al 8 t0r),(2, .ptr nL2 0),(4,As t4),(5,As t5),(6,Ai t6),(7,Ai t7),(8, .ptr Rz 0),(9,As t9)],[(nL2, .blk Aa [Ai u0,Ai u1,Ai u2,As u3, .own (nL2.cell 4), .own (nL2.cell 5)]),(Rz, .blk C8 [Ai u4,Ai u5,Ai u6,Ai u7,Ai u8,As u9,Al 6 v0,Al 7 v1]),((nL2.cell 4), .arr (Aa+2) true 6 v2),((nL2.cell 5), .arr (Ag+2) true 7 v3)]⟩ K
def Aty(t0r:LL)(t4 t5:LB)(u0 u1 u2:Int)(u3:LB)(u4 u5:LL)(K:KK):Prop:=Aq 33 E0.P El (Ac 33 ac_r27_Pack).code ⟨[(0,Al 8 t0r),(2, .ptr nL2 0),(4,As t4),(5,As t5)],[(nL2, .blk Aa [Ai u0,Ai u1,Ai u2,As u3, .own (nL2.cell 4), .own (nL2.cell 5)]),((nL2.cell 4), .arr (Aa+2) true 6 u4),((nL2.cell 5), .arr (Ag+2) true 7 u5)]⟩ K
def Atx(t0r:LL)(t4 t5:LB)(t6 t7:Int)(u0 u1 u2:Int)(u3:LB)(u4 u5:LL)(K:KK):Prop:=Aq 32 E0.P El (Ac 32 ac_r27_Pack).code ⟨[(0,Al 8 t0r),(2, .ptr nL2 0),(4,As t4),(5,As t5),(6,Ai t6),(7,Ai t7)],[(nL2, .blk Aa [Ai u0,Ai u1,Ai u2,As u3, .own (nL2.cell 4), .own (nL2.cell 5)]),((nL2.cell 4), .arr (Aa+2) true 6 u4),((nL2.cell 5), .arr (Ag+2) true 7 u5)]⟩ K
def Al4(Q:QQ):KK:=kE fun st=>finish 0 E0.T [.cell 2 28, .tmp 3] [] Q st
def Sr(Q:QQ):KK:=kF 0 (fun st=>Aq 33 E0.P El (Ac 33 ac_r27_Pack).code (mask [0,2,4,5] st) (Al4 Q)) fun st=>finish 0 E0.T [.cell 2 28, .tmp 3] [] Q st
def Al5(K:KK):Ex→St→Prop
 | .normal,st=>Bi 7 E0.P El (Au 7 ac_r27_Pack).code (mask [0,2,4,5,6,7] st) K
 | .exit i,st=>K (.exit i) st
 | .goto i,st=>K (.goto i) st
 | .ret,st=>K .ret st
def Ac7(K:KK):KK:=kC 1 (fun st=>Aq 32 E0.P El (Ac 32 ac_r27_Pack).code (mask [0,2,4,5,6,7] st) (Al5 K)) K
theorem An7(t0r:LL)(t4 t5:LB)(t6 t7:Int)(u0 u1 u2:Int)(u3:LB)(u4 u5:LL)(K:KK)(h:
 (Br (decide (t7<(↑t0r.length:Int)))
 (Ah (((0:Int)≤t7∧t7<(↑t0r.length:Int))∧
 Bt
 [.int .i64, .int .i64, .int .i64, .int .i64, .int .i64, .str,
 .sl 6 Aa, .sl 7 Ag]
 (t0r.getD t7.toNat [])=
 true)
 (Let (bif decide ((0:Int)<t7)then decide (gI (t0r.getD t7.toNat []) 0≤t6)else false) fun x0=>
 Br (x0)
 (K .ret ⟨[(2, .ptr nL2 0),(3,Ai 15)],[(nL2, .blk Aa [Ai 0,Ai 0,Ai 0, .imm (.str []), .own (nL2.cell 4), .own (nL2.cell 5)]),((nL2.cell 4), .arr (Aa+2) true 6 []),((nL2.cell 5), .arr (Ag+2) true 7 [])]⟩)
 (Let (bif decide (gI (t0r.getD t7.toNat []) 0<(1:Int))then true
 else decide ((8388607:Int)<gI (t0r.getD t7.toNat []) 0)) fun x1=>
 Br (x1)
 (K .ret ⟨[(2, .ptr nL2 0),(3,Ai 3)],[(nL2, .blk Aa [Ai 0,Ai 0,Ai 0, .imm (.str []), .own (nL2.cell 4), .own (nL2.cell 5)]),((nL2.cell 4), .arr (Aa+2) true 6 []),((nL2.cell 5), .arr (Ag+2) true 7 [])]⟩)
 (Br (!decide (gI (t0r.getD t7.toNat []) 1=(0:Int)))
 (K .ret ⟨[(2, .ptr nL2 0),(3,Ai 2)],[(nL2, .blk Aa [Ai 0,Ai 0,Ai 0, .imm (.str []), .own (nL2.cell 4), .own (nL2.cell 5)]),((nL2.cell 4), .arr (Aa+2) true 6 []),((nL2.cell 5), .arr (Ag+2) true 7 [])]⟩)
 (Call E0.P Apb [.imm (.agg [.int .i64 (gI (t0r.getD t7.toNat []) 2), .int .i64 (gI (t0r.getD t7.toNat []) 3), .int .i64 (gI (t0r.getD t7.toNat []) 4), .str (gS (t0r.getD t7.toNat []) 5), .sl .any 6 (gR (t0r.getD t7.toNat []) 6), .sl .any 7 (gR (t0r.getD t7.toNat []) 7)])] [] fun r2 g2=>
 Ah (qB4 g2 r2)
 (Br (!decide (rI (rT r2 1)=(0:Int)))
 (K .ret ⟨[(2, .ptr nL2 0),(3,Ai (rI (rT r2 1)))],[(nL2, .blk Aa [Ai 0,Ai 0,Ai 0, .imm (.str []), .own (nL2.cell 4), .own (nL2.cell 5)]),((nL2.cell 4), .arr (Aa+2) true 6 []),((nL2.cell 5), .arr (Ag+2) true 7 [])]⟩)
 (Br (decide ((4096:Int)<(↑(rS (rT r2 (0:Nat))).length:Int)))
 (K .ret ⟨[(2, .ptr nL2 0),(3,Ai 7)],[(nL2, .blk Aa [Ai 0,Ai 0,Ai 0, .imm (.str []), .own (nL2.cell 4), .own (nL2.cell 5)]),((nL2.cell 4), .arr (Aa+2) true 6 []),((nL2.cell 5), .arr (Ag+2) true 7 [])]⟩)
 (Br (decide ((0:Int)<t7))
 (Ah ((↑(t4.length+(1:Nat)):Int)≤(9223372036854775807:Int))
 (Aar t0r (t4++[(32:UInt8)]) t5 (gI (t0r.getD t7.toNat []) 0) t7 (rS (rT r2 0)) u0 u1 u2 u3 (gI (t0r.getD t7.toNat []) 0) (gI (t0r.getD t7.toNat []) 1) (gI (t0r.getD t7.toNat []) 2) (gI (t0r.getD t7.toNat []) 3) (gI (t0r.getD t7.toNat []) 4) (gS (t0r.getD t7.toNat []) 5) (gR (t0r.getD t7.toNat []) 6) (gR (t0r.getD t7.toNat []) 7) u4 u5 (Ac7 K)))
 (Aar t0r t4 t5 (gI (t0r.getD t7.toNat []) 0) t7 (rS (rT r2 0)) u0 u1 u2 u3 (gI (t0r.getD t7.toNat []) 0) (gI (t0r.getD t7.toNat []) 1) (gI (t0r.getD t7.toNat []) 2) (gI (t0r.getD t7.toNat []) 3) (gI (t0r.getD t7.toNat []) 4) (gS (t0r.getD t7.toNat []) 5) (gR (t0r.getD t7.toNat []) 6) (gR (t0r.getD t7.toNat []) 7) u4 u5 (Ac7 K))))))))))
 (K (.exit 0) ⟨[(0,Al 8 t0r),(2, .ptr nL2 0),(4,As t4),(5,As t5)],[(nL2, .blk Aa [Ai u0,Ai u1,Ai u2,As u3, .own (nL2.cell 4), .own (nL2.cell 5)]),((nL2.cell 4), .arr (Aa+2) true 6 u4),((nL2.cell 5), .arr (Ag+2) true 7 u5)]⟩))):Adq t0r t4 t5 t6 t7 u0 u1 u2 u3 u4 u5 K:=Bg (Ar E0 El) (Az El) 3 7 (Au 7 ac_r27_Pack) [0,2,4,5,6,7] _ K rfl (kr (by kernel_rfl) h)
theorem A0t(t0r:LL)(t4 t5:LB)(t6 t7:Int)(t9:LB)(u0 u1 u2:Int)(u3:LB)(u4 u5:Int)(u6 u7 u8:Int)(u9:LB)(v0 v1:LL)(v2 v3:LL)(K:KK)(h:
 (Call E0.P Vd [Ai u4] [] fun r0 g0=>
 Ah (g0=[]∧r0= .imm (.str (rS r0)))
 (Ah ((↑(t4.length+(rS r0).length):Int)≤(9223372036854775807:Int))
 (Ah ((↑((t4++rS r0).length+(1:Nat)):Int)≤(9223372036854775807:Int))
 (Call E0.P Vd [Ai ((↑t5.length:Int))] [] fun r1 g1=>
 Ah (g1=[]∧r1= .imm (.str (rS r1)))
 (Ah ((↑((t4++rS r0++[(32:UInt8)]).length+(rS r1).length):Int)≤(9223372036854775807:Int))
 (Ah ((↑(t5.length+t9.length):Int)≤(9223372036854775807:Int))
 (Ah ((↑((t5++t9).length+(1:Nat)):Int)≤(9223372036854775807:Int))
 (K .normal ⟨[(0,Al 8 t0r),(2, .ptr nL2 0),(4,As (t4++rS r0++[(32:UInt8)]++rS r1)),(5,As (t5++t9++[(10:UInt8)])),(6,Ai t6),(7,Ai t7)],[(nL2, .blk Aa [Ai u0,Ai u1,Ai u2,As u3, .own (nL2.cell 4), .own (nL2.cell 5)]),((nL2.cell 4), .arr (Aa+2) true 6 v2),((nL2.cell 5), .arr (Ag+2) true 7 v3)]⟩))))))))):Aar t0r t4 t5 t6 t7 t9 u0 u1 u2 u3 u4 u5 u6 u7 u8 u9 v0 v1 v2 v3 K:=Av (Ar E0 El) (Az El) 3 30 (Ac 30 ac_r27_Pack) [0,2,4,5,6,7] _ K rfl (kr (by kernel_rfl) h)
theorem A0v(t0r:LL)(t4 t5:LB)(u0 u1 u2:Int)(u3:LB)(u4 u5:LL)(K:KK)(h:
 (Ah ((↑(t4.length+(1:Nat)):Int)≤(9223372036854775807:Int))
 (Ah ((↑((t4++[(10:UInt8)]).length+t5.length):Int)≤(9223372036854775807:Int))
 (K .ret ⟨[(2, .ptr nL2 0),(3,Ai 0)],[(nL2, .blk Aa [Ai 8,Ai 0,Ai 0,As (t4++[(10:UInt8)]++t5), .own (nL2.cell 4), .own (Nm.loc 103)]),((nL2.cell 4), .arr (Aa+2) true 6 []),((Nm.loc 103), .arr (Ag+2) true 7 [[IV.str [70,105,114,115,116], .int .i64 (2:Int),
 .int .i64 (↑(t4++[(10:UInt8)]).length:Int), .int .i64 (0:Int), .str [],
 .sl SK.any 6 [], .sl SK.any 7 []],
 [.str [78], .int .i64 (2:Int), .int .i64 (↑t0r.length:Int),
 .int .i64 (0:Int), .str [], .sl SK.any 6 [], .sl SK.any 7 []],
 [.str [84,121,112,101], .int .i64 (3:Int),
 .int .i64 (0:Int), .int .i64 (0:Int),
 .str [79,98,106,83,116,109],
 .sl SK.any 6 [], .sl SK.any 7 []]])]⟩)))):Aty t0r t4 t5 u0 u1 u2 u3 u4 u5 K:=Av (Ar E0 El) (Az El) 3 33 (Ac 33 ac_r27_Pack) [] _ K rfl (kr (by kernel_rfl) h)
theorem A0u(t0r:LL)(t4 t5:LB)(t6 t7:Int)(u0 u1 u2:Int)(u3:LB)(u4 u5:LL)(K:KK)(h:
 (K .normal ⟨[(0,Al 8 t0r),(2, .ptr nL2 0),(4,As t4),(5,As t5),(6,Ai t6),(7,Ai (IntKind.i64.wrap (t7+(1:Int))))],[(nL2, .blk Aa [Ai u0,Ai u1,Ai u2,As u3, .own (nL2.cell 4), .own (nL2.cell 5)]),((nL2.cell 4), .arr (Aa+2) true 6 u4),((nL2.cell 5), .arr (Ag+2) true 7 u5)]⟩)):Atx t0r t4 t5 t6 t7 u0 u1 u2 u3 u4 u5 K:=Av (Ar E0 El) (Az El) 3 32 (Ac 32 ac_r27_Pack) [0,2,4,5,6,7] _ K rfl (kr (by kernel_rfl) h)
theorem A4s(Q:QQ)(t3 u0:Int)(u1 u2:Int)(u3:LB)(u4 u5:LL)(h:
 (Q (.tup [.imm (.agg [.int .i64 u0, .int .i64 u1, .int .i64 u2, .str u3, .sl .any 6 u4, .sl .any 7 u5]),Ai t3]) [])):Al4 Q .ret ⟨[(2, .ptr nL2 0),(3,Ai t3)],[(nL2, .blk Aa [Ai u0,Ai u1,Ai u2,As u3, .own (nL2.cell 4), .own (Nm.loc 103)]),((nL2.cell 4), .arr (Aa+2) true 6 u4),((Nm.loc 103), .arr (Ag+2) true 7 u5)]⟩:=kr (by kernel_rfl) h
theorem A4t(Q:QQ)(t3 u0:Int)(u1 u2:Int)(u3:LB)(u4 u5:LL)(h:
 (Q (.tup [.imm (.agg [.int .i64 u0, .int .i64 u1, .int .i64 u2, .str u3, .sl .any 6 u4, .sl .any 7 u5]),Ai t3]) [])):Sr Q .ret ⟨[(2, .ptr nL2 0),(3,Ai t3)],[(nL2, .blk Aa [Ai u0,Ai u1,Ai u2,As u3, .own (nL2.cell 4), .own (nL2.cell 5)]),((nL2.cell 4), .arr (Aa+2) true 6 u4),((nL2.cell 5), .arr (Ag+2) true 7 u5)]⟩:=kr (by kernel_rfl) h
theorem A4u(Q:QQ)(t0r:LL)(t4 t5:LB)(u0 u1 u2:Int)(u3:LB)(u4 u5:LL)(h:
 (Aty t0r t4 t5 u0 u1 u2 u3 u4 u5 (Al4 Q))):Sr Q (.exit 0) ⟨[(0,Al 8 t0r),(2, .ptr nL2 0),(4,As t4),(5,As t5)],[(nL2, .blk Aa [Ai u0,Ai u1,Ai u2,As u3, .own (nL2.cell 4), .own (nL2.cell 5)]),((nL2.cell 4), .arr (Aa+2) true 6 u4),((nL2.cell 5), .arr (Ag+2) true 7 u5)]⟩:=kr (by kernel_rfl) h
theorem A4v(K:KK)(t0r:LL)(t4 t5:LB)(t6 t7:Int)(u0 u1 u2:Int)(u3:LB)(u4 u5:LL)(h:
 (Adq t0r t4 t5 t6 t7 u0 u1 u2 u3 u4 u5 K)):Al5 K .normal ⟨[(0,Al 8 t0r),(2, .ptr nL2 0),(4,As t4),(5,As t5),(6,Ai t6),(7,Ai t7)],[(nL2, .blk Aa [Ai u0,Ai u1,Ai u2,As u3, .own (nL2.cell 4), .own (nL2.cell 5)]),((nL2.cell 4), .arr (Aa+2) true 6 u4),((nL2.cell 5), .arr (Ag+2) true 7 u5)]⟩:=kr (by kernel_rfl) h
theorem A4w(K:KK)(t0r:LL)(t4 t5:LB)(t6 t7:Int)(u0 u1 u2:Int)(u3:LB)(u4 u5:LL)(h:
 (Atx t0r t4 t5 t6 t7 u0 u1 u2 u3 u4 u5 (Al5 K))):Ac7 K .normal ⟨[(0,Al 8 t0r),(2, .ptr nL2 0),(4,As t4),(5,As t5),(6,Ai t6),(7,Ai t7)],[(nL2, .blk Aa [Ai u0,Ai u1,Ai u2,As u3, .own (nL2.cell 4), .own (nL2.cell 5)]),((nL2.cell 4), .arr (Aa+2) true 6 u4),((nL2.cell 5), .arr (Ag+2) true 7 u5)]⟩:=kr (by kernel_rfl) h
theorem Bf7:Bo E0.P 9 ac_r27_Pack.code El [.cell 2 28, .tmp 3]:=Bh _ _ Tryz.f9 [(7,[0,2,4,5,6,7],[]),(9,[0,2,4,5],[]),(30,[0,2,4,5,6,7,8,9],[0,2,4,5,6,7]),(32,[0,2,4,5,6,7],[0,2,4,5,6,7]),(33,[0,2,4,5],[])] [2,3] _ 109 Tryz.func9 (by kernel_rfl) (by kernel_rfl) (by kernel_rfl) (by kernel_rfl)
theorem Bap(a0:LL)(Q:QQ)(h:
 (Let (bif decide ((↑a0.length:Int)<(1:Int))then true else decide ((100:Int)<(↑a0.length:Int))) fun x0=>
 Br (x0)
 (Q (.tup [.imm (.agg [.int .i64 0, .int .i64 0, .int .i64 0, .str [], .sl .any 6 [], .sl .any 7 []]),Ai 8]) [])
 (Ah (((0:Int)≤(0:Int)∧(0:Int)<(↑a0.length:Int))∧
 Bt
 [.int .i64, .int .i64, .int .i64, .int .i64, .int .i64, .str,
 .sl 6 Aa, .sl 7 Ag]
 (a0.getD 0 [])=
 true)
 (Adq a0 [] [] (gI (a0.getD 0 []) 0) ((0:Int)) ((0:Int)) ((0:Int)) ((0:Int)) [] [] [] (Sr Q))))):Call E0.P Apc [Al 8 a0] [] Q:=A8 (Ar E0 El) (Az El) 3 0 9 ac_r27_Pack [.cell 2 28, .tmp 3] Bf7 _ _ Q rfl rfl (kr (by kernel_rfl) h)
noncomputable def ac_r27_Same:AC:=(Bf [(5,[0,1,5],[]),(7,[],[]),(11,[0,1,5],[0,1,5]),(12,[],[])] [4] (codeOf Tryz.f14) 0).1
abbrev Gp:Nat:=55
def Adr(t0r t1r:LL)(t5:Int)(K:KK):Prop:=Bi 5 E0.P Gp (Au 5 ac_r27_Same).code ⟨[(0,Al 8 t0r),(1,Al 8 t1r),(5,Ai t5)],[]⟩ K
def Ahx(t0r t1r:LL)(t5:Int)(K:KK):Prop:=Aq 11 E0.P Gp (Ac 11 ac_r27_Same).code ⟨[(0,Al 8 t0r),(1,Al 8 t1r),(5,Ai t5)],[]⟩ K
def Atz(K:KK):Prop:=Aq 12 E0.P Gp (Ac 12 ac_r27_Same).code ⟨[],[]⟩ K
def Al6(Q:QQ):KK:=kE fun st=>finish 0 E0.T [.tmp 4] [] Q st
def Al7(Q:QQ):KK:=kF 0 (fun st=>Aq 12 E0.P Gp (Ac 12 ac_r27_Same).code (mask [] st) (Al6 Q)) fun st=>finish 0 E0.T [.tmp 4] [] Q st
def Al8(K:KK):Ex→St→Prop
 | .normal,st=>Bi 5 E0.P Gp (Au 5 ac_r27_Same).code (mask [0,1,5] st) K
 | .exit i,st=>K (.exit i) st
 | .goto i,st=>K (.goto i) st
 | .ret,st=>K .ret st
theorem An8(t0r t1r:LL)(t5:Int)(K:KK)(h:
 (Br (decide (t5<(↑t0r.length:Int)))
 (Ah (((0:Int)≤t5∧t5<(↑t0r.length:Int))∧
 Bt
 [.int .i64, .int .i64, .int .i64, .int .i64, .int .i64, .str,
 .sl 6 Aa, .sl 7 Ag]
 (t0r.getD t5.toNat [])=
 true)
 (Ah (((0:Int)≤t5∧t5<(↑t1r.length:Int))∧
 Bt
 [.int .i64, .int .i64, .int .i64, .int .i64, .int .i64, .str,
 .sl 6 Aa, .sl 7 Ag]
 (t1r.getD t5.toNat [])=
 true)
 (Ah ((!decide (gI (t0r.getD t5.toNat []) 0=gI (t1r.getD t5.toNat []) 0))=false→
 ((0:Int)≤t5∧t5<(↑t0r.length:Int))∧
 Bt
 [.int .i64, .int .i64, .int .i64, .int .i64, .int .i64, .str,
 .sl 6 Aa, .sl 7 Ag]
 (t0r.getD t5.toNat [])=
 true)
 (Ah ((!decide (gI (t0r.getD t5.toNat []) 0=gI (t1r.getD t5.toNat []) 0))=false→
 ((0:Int)≤t5∧t5<(↑t1r.length:Int))∧
 Bt
 [.int .i64, .int .i64, .int .i64, .int .i64, .int .i64, .str,
 .sl 6 Aa, .sl 7 Ag]
 (t1r.getD t5.toNat [])=
 true)
 (Let (bif !decide (gI (t0r.getD t5.toNat []) 0=gI (t1r.getD t5.toNat []) 0)then true
 else !decide (gI (t0r.getD t5.toNat []) 1=gI (t1r.getD t5.toNat []) 1)) fun x0=>
 Ah (x0=false→
 ((0:Int)≤t5∧t5<(↑t0r.length:Int))∧
 Bt
 [.int .i64, .int .i64, .int .i64, .int .i64, .int .i64, .str,
 .sl 6 Aa, .sl 7 Ag]
 (t0r.getD t5.toNat [])=
 true)
 (Ah (x0=false→
 ((0:Int)≤t5∧t5<(↑t1r.length:Int))∧
 Bt
 [.int .i64, .int .i64, .int .i64, .int .i64, .int .i64, .str,
 .sl 6 Aa, .sl 7 Ag]
 (t1r.getD t5.toNat [])=
 true)
 (Br (x0 == false)
 (Call E0.P Mw [.imm (.agg [.int .i64 (gI (t0r.getD t5.toNat []) 2), .int .i64 (gI (t0r.getD t5.toNat []) 3), .int .i64 (gI (t0r.getD t5.toNat []) 4), .str (gS (t0r.getD t5.toNat []) 5), .sl .any 6 (gR (t0r.getD t5.toNat []) 6), .sl .any 7 (gR (t0r.getD t5.toNat []) 7)]), .imm (.agg [.int .i64 (gI (t1r.getD t5.toNat []) 2), .int .i64 (gI (t1r.getD t5.toNat []) 3), .int .i64 (gI (t1r.getD t5.toNat []) 4), .str (gS (t1r.getD t5.toNat []) 5), .sl .any 6 (gR (t1r.getD t5.toNat []) 6), .sl .any 7 (gR (t1r.getD t5.toNat []) 7)])] [] fun r1 g1=>
 Ah (qB0 g1 r1)
 (Let (!rB r1) fun x2=>
 Br (x2)
 (K .ret ⟨[(4,Ab false)],[]⟩)
 (Ahx t0r t1r t5 (Al8 K))))
 (Ah ((!false)=true)
 (Let (true) fun x3=>
 Br (x3)
 (K .ret ⟨[(4,Ab false)],[]⟩)
 (Ahx t0r t1r t5 (Al8 K)))))))))))
 (K (.exit 0) ⟨[],[]⟩))):Adr t0r t1r t5 K:=Bg (Ar E0 Gp) (Az Gp) 3 5 (Au 5 ac_r27_Same) [0,1,5] _ K rfl (kr (by kernel_rfl) h)
theorem A0w(t0r t1r:LL)(t5:Int)(K:KK)(h:
 (K .normal ⟨[(0,Al 8 t0r),(1,Al 8 t1r),(5,Ai (IntKind.i64.wrap (t5+(1:Int))))],[]⟩)):Ahx t0r t1r t5 K:=Av (Ar E0 Gp) (Az Gp) 3 11 (Ac 11 ac_r27_Same) [0,1,5] _ K rfl (kr (by kernel_rfl) h)
theorem A0x(K:KK)(h:
 (K .ret ⟨[(4,Ab true)],[]⟩)):Atz K:=Av (Ar E0 Gp) (Az Gp) 3 12 (Ac 12 ac_r27_Same) [] _ K rfl (kr (by kernel_rfl) h)
theorem A4x(Q:QQ)(t4:Bool)(h:
 (Q (Ab t4) [])):Al6 Q .ret ⟨[(4,Ab t4)],[]⟩:=kr (by kernel_rfl) h
theorem A4y(Q:QQ)(h:
 (Atz (Al6 Q))):Al7 Q (.exit 0) ⟨[],[]⟩:=kr (by kernel_rfl) h
theorem A4z(K:KK)(t0r t1r:LL)(t5:Int)(h:
 (Adr t0r t1r t5 K)):Al8 K .normal ⟨[(0,Al 8 t0r),(1,Al 8 t1r),(5,Ai t5)],[]⟩:=kr (by kernel_rfl) h
theorem Bf8:Bo E0.P 14 ac_r27_Same.code Gp [.tmp 4]:=Bh _ _ Tryz.f14 [(5,[0,1,5],[]),(7,[],[]),(11,[0,1,5],[0,1,5]),(12,[],[])] [4] _ 55 Tryz.func14 (by kernel_rfl) (by kernel_rfl) (by kernel_rfl) (by kernel_rfl)
theorem Baq(a0 a1:LL)(Q:QQ)(h:
 (Br (!decide ((↑a0.length:Int)=(↑a1.length:Int)))
 (Q (Ab false) [])
 (Adr a0 a1 ((0:Int)) (Al7 Q)))):Call E0.P Agt [Al 8 a0,Al 8 a1] [] Q:=A8 (Ar E0 Gp) (Az Gp) 3 0 14 ac_r27_Same [.tmp 4] Bf8 _ _ Q rfl rfl (kr (by kernel_rfl) h)
end
end Go.Proofs.Sim.Se

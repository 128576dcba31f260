import Derived.Test.YtaggabcajidnnaaGreatDoorSeatBase
set_option maxRecDepth 100000
set_option maxHeartbeats 4000000
namespace Go.Proofs.Sim.Se
open Go Go.Proofs Go.Proofs.Sim Go.IntKind
noncomputable section
abbrev qW0(G:Heap)(R:AV):Prop:=G=[]∧R= .imm (.int .i64 (rI R))
abbrev qW1(G:Heap)(R:AV):Prop:=G=[]∧R= .imm (IV.agg [.int .i64 (gI (Ad R) 0), .int .i64 (gI (Ad R) 1), .int .i64 (gI (Ad R) 2), .str (gS (Ad R) 3), .sl SK.any 6 (gR (Ad R) 4), .sl SK.any 7 (gR (Ad R) 5)])
abbrev qW2(G:Heap)(R:AV):Prop:=G=[]∧R= .imm (.str (rS R))
abbrev qW3(G:Heap)(R:AV):Prop:=G=[]∧R= .imm (.bool (rB R))
abbrev qW4(G:Heap)(R:AV):Prop:=G=[]∧R= .imm (.int .u8 (rI R))
noncomputable def A4z:AC:=(A8 [] [2,3] (codeOf Tryz.f36) 0).1
abbrev A47:Nat:=13
theorem A5i:Be E0.P 36 A4z.code A47 [.tmp 2, .tmp 3]:=fq Tryz.func36
theorem Ay6(a0_0 a0_1 a0_2:Int)(a0_3:LB)(a0_4 a0_5:LL)(Q:QQ)(h:
 (Call E0.P R4 [.imm (.agg [.int .i64 a0_0, .int .i64 a0_1, .int .i64 a0_2, .str a0_3, .sl .any 6 a0_4, .sl .any 7 a0_5]),Ab false] [] fun r0 g0=>
 Ag (qW0 g0 r0)
 (Br (!decide (rI r0=(0:Int)))
 (Q (.tup [.imm (.str []),Ai (rI r0)]) [])
 (Call E0.P El [.imm (.agg [.int .i64 a0_0, .int .i64 a0_1, .int .i64 a0_2, .str a0_3, .sl .any 6 a0_4, .sl .any 7 a0_5])] [] fun r1 g1=>
 Ag (qW1 g1 r1)
 (Call E0.P R7 [.imm (.agg [.int .i64 (gI (Ad r1) 0), .int .i64 (gI (Ad r1) 1), .int .i64 (gI (Ad r1) 2), .str (gS (Ad r1) 3), .sl .any 6 (gR (Ad r1) 4), .sl .any 7 (gR (Ad r1) 5)])] [] fun r2 g2=>
 Ag (qW2 g2 r2)
 (Q (.tup [As (rS r2),Ai 0]) [])))))):Call E0.P Ag0 [.imm (.agg [.int .i64 a0_0, .int .i64 a0_1, .int .i64 a0_2, .str a0_3, .sl .any 6 a0_4, .sl .any 7 a0_5])] [] Q:=fR 0 A5i h
noncomputable def Ga:AC:=(A8 [(4,[0,3,8,9],[]),(6,[3],[]),(10,[0,3,5,8,9,25],[0,3,5,8,9]),(12,[0,3,8,9],[]),(13,[0,3,5,8,9],[0,3,8,9]),(16,[0,3,8,9],[0,3,8,9]),(17,[3],[])] [2] (codeOf Tryz.f80) 0).1
abbrev Gc:Nat:=41
def Kz(t0:LB)(t8 t9:Int)(u0:LL)(K:KK):Prop:=Bc 4 E0.P Gc (A9 4 Ga).code ⟨[(0,As t0),(3, .ptr nL3 0),(8,Ai t8),(9,Ai t9)],[(nL3, .blk Bd [.self nL3, .own (nL3.cell 1)]),((nL3.cell 1), .arr (Aj+2) true 1 u0)]⟩ K
def Vb(t0:LB)(t5 t8 t9:Int)(t25:Bool)(u0:LL)(K:KK):Prop:=Aq 10 E0.P Gc (Am 10 Ga).code ⟨[(0,As t0),(3, .ptr nL3 0),(5, .imm (.int .u8 t5)),(8,Ai t8),(9,Ai t9),(25,Ab t25)],[(nL3, .blk Bd [.self nL3, .own (nL3.cell 1)]),((nL3.cell 1), .arr (Aj+2) true 1 u0)]⟩ K
def Ak4(u0:LL)(K:KK):Prop:=Aq 17 E0.P Gc (Am 17 Ga).code ⟨[(3, .ptr nL3 0)],[(nL3, .blk Bd [.self nL3, .own (nL3.cell 1)]),((nL3.cell 1), .arr (Aj+2) true 1 u0)]⟩ K
def Vd(t0:LB)(t8 t9:Int)(u0:LL)(K:KK):Prop:=Aq 16 E0.P Gc (Am 16 Ga).code ⟨[(0,As t0),(3, .ptr nL3 0),(8,Ai t8),(9,Ai t9)],[(nL3, .blk Bd [.self nL3, .own (nL3.cell 1)]),((nL3.cell 1), .arr (Aj+2) true 1 u0)]⟩ K
def Ak3(t0:LB)(t5 t8 t9:Int)(u0:LL)(K:KK):Prop:=Aq 13 E0.P Gc (Am 13 Ga).code ⟨[(0,As t0),(3, .ptr nL3 0),(5, .imm (.int .u8 t5)),(8,Ai t8),(9,Ai t9)],[(nL3, .blk Bd [.self nL3, .own (nL3.cell 1)]),((nL3.cell 1), .arr (Aj+2) true 1 u0)]⟩ K
def Ad9(Q:QQ):KK:=kE fun st=>finish 0 E0.T [.tmp 2] [] Q st
def Ana(Q:QQ):KK:=kF 0 (fun st=>Aq 17 E0.P Gc (Am 17 Ga).code (mask [3] st) (Ad9 Q)) fun st=>finish 0 E0.T [.tmp 2] [] Q st
def Nk(K:KK):Ex→St→Prop
 | .normal,st=>Bc 4 E0.P Gc (A9 4 Ga).code (mask [0,3,8,9] st) K
 | .exit i,st=>K (.exit i) st
 | .goto i,st=>K (.goto i) st
 | .ret,st=>K .ret st
def Aea(K:KK):KK:=kC 1 (fun st=>Aq 16 E0.P Gc (Am 16 Ga).code (mask [0,3,8,9] st) (Nk K)) K
def Rl(K:KK):Ex→St→Prop
 | .normal,st=>Aq 13 E0.P Gc (Am 13 Ga).code (mask [0,3,5,8,9] st) (Aea K)
 | .exit i,st=>(match (i.beq 1:Bool)with
 |true=>Aq 16 E0.P Gc (Am 16 Ga).code (mask [0,3,8,9] st) (Nk K)
 |false=>K (.exit i) st)
 | .goto i,st=>K (.goto i) st
 | .ret,st=>K .ret st
theorem Ahj(t0:LB)(t8 t9:Int)(u0:LL)(K:KK)(h:
 (Br (decide (t9<t8))
 (Ag ((0:Int)≤t9∧t9<(↑t0.length:Int))
 (Call E0.P Z8 [.imm (.int .u8 ((↑(t0.getD t9.toNat 0).toNat:Int)))] [] fun r0 g0=>
 Ag (qW3 g0 r0)
 (Br (rB r0 == true)
 (Call E0.P Ms [.imm (.int .u8 ((↑(t0.getD t9.toNat 0).toNat:Int)))] [] fun r1 g1=>
 Ag (qW0 g1 r1)
 (Let (decide (rI r1=(2:Int))) fun x2=>
 Let (bif x2 then !decide ((↑(t0.getD t9.toNat 0).toNat:Int)=(35:Int))else false) fun x3=>
 Vb t0 ((↑(t0.getD t9.toNat 0).toNat:Int)) t8 t9 x3 u0 (Rl K)))
 (Ag ((!true)=false)
 (Let (false) fun x4=>
 Let (bif x4 then !decide ((↑(t0.getD t9.toNat 0).toNat:Int)=(35:Int))else false) fun x5=>
 Vb t0 ((↑(t0.getD t9.toNat 0).toNat:Int)) t8 t9 x5 u0 (Rl K))))))
 (K (.exit 0) ⟨[(3, .ptr nL3 0)],[(nL3, .blk Bd [.self nL3, .own (nL3.cell 1)]),((nL3.cell 1), .arr (Aj+2) true 1 u0)]⟩))):Kz t0 t8 t9 u0 K:=lR [0,3,8,9] h
theorem Arz(t0:LB)(t5 t8 t9:Int)(t25:Bool)(u0:LL)(K:KK)(h:
 (Br (t25)
 (Ag ((u0.length+1)*1≤140737488355328∧u0.length+1≤140737488355328)
 (K (.exit (1)) ⟨[(0,As t0),(3, .ptr nL3 0),(8,Ai t8),(9,Ai t9)],[(nL3, .blk Bd [.self nL3, .own (nL3.cell 1)]),((nL3.cell 1), .arr (Aj+2) true 1 (u0++[[IV.int .u8 t5]]))]⟩))
 (K .normal ⟨[(0,As t0),(3, .ptr nL3 0),(5, .imm (.int .u8 t5)),(8,Ai t8),(9,Ai t9)],[(nL3, .blk Bd [.self nL3, .own (nL3.cell 1)]),((nL3.cell 1), .arr (Aj+2) true 1 u0)]⟩))):Vb t0 t5 t8 t9 t25 u0 K:=cR [0,3,5,8,9] h
theorem Ar2(u0:LL)(K:KK)(h:
 (Ag (((↑u0.length:Int)=(↑u0.length:Int)∧u0.length≤9223372036854775807)∧
 ∀(r:List IV),r∈u0→Bg [.int .u8] r=true)
 (K .ret ⟨[(2,As (List.map (fun r=>UInt8.ofNat (gI r 0).toNat) u0))],[]⟩))):Ak4 u0 K:=cR [] h
theorem Ar1(t0:LB)(t8 t9:Int)(u0:LL)(K:KK)(h:
 (K .normal ⟨[(0,As t0),(3, .ptr nL3 0),(8,Ai t8),(9,Ai (i64.wrap (t9+(1:Int))))],[(nL3, .blk Bd [.self nL3, .own (nL3.cell 1)]),((nL3.cell 1), .arr (Aj+2) true 1 u0)]⟩)):Vd t0 t8 t9 u0 K:=cR [0,3,8,9] h
theorem Ar0(t0:LB)(t5 t8 t9:Int)(u0:LL)(K:KK)(h:
 (Ag ((u0.length+1)*1≤140737488355328∧u0.length+1≤140737488355328)
 (Ag ((0:Int)≤(4:Int))
 (Call E0.P Nl [.imm (.int .i64 (i64.wrap (t5.fdiv ((2:Int) ^ 4))))] [] fun r0 g0=>
 Ag (qW4 g0 r0)
 (Ag (((u0++[[IV.int .u8 (35:Int)]]).length+1)*1≤140737488355328∧
 (u0++[[IV.int .u8 (35:Int)]]).length+1≤140737488355328)
 (Call E0.P Nl [.imm (.int .i64 (i64.wrap (IntKind.u8.wrap (↑(BitVec.ofInt (8:Nat) t5 &&& BitVec.ofInt (8:Nat) (15:Int)).toNat:Int))))] [] fun r1 g1=>
 Ag (qW4 g1 r1)
 (Ag (((u0++[[IV.int .u8 (35:Int)]]++[[IV.int .u8 (rI r0)]]).length+1)*1≤
 140737488355328∧
 (u0++[[IV.int .u8 (35:Int)]]++[[IV.int .u8 (rI r0)]]).length+1≤
 140737488355328)
 (K .normal ⟨[(0,As t0),(3, .ptr nL3 0),(8,Ai t8),(9,Ai t9)],[(nL3, .blk Bd [.self nL3, .own (nL3.cell 1)]),((nL3.cell 1), .arr (Aj+2) true 1 (u0++[[IV.int .u8 (35:Int)]]++[[IV.int .u8 (rI r0)]]++[[IV.int .u8 (rI r1)]]))]⟩)))))))):Ak3 t0 t5 t8 t9 u0 K:=cR [0,3,8,9] h
theorem Avw(Q:QQ)(t2:LB)(h:
 (Q (As t2) [])):Ad9 Q .ret ⟨[(2,As t2)],[]⟩:=kq h
theorem Avx(Q:QQ)(u0:LL)(h:
 (Ak4 u0 (Ad9 Q))):Ana Q (.exit 0) ⟨[(3, .ptr nL3 0)],[(nL3, .blk Bd [.self nL3, .own (nL3.cell 1)]),((nL3.cell 1), .arr (Aj+2) true 1 u0)]⟩:=kq h
theorem Avy(K:KK)(t0:LB)(t8 t9:Int)(u0:LL)(h:
 (Kz t0 t8 t9 u0 K)):Nk K .normal ⟨[(0,As t0),(3, .ptr nL3 0),(8,Ai t8),(9,Ai t9)],[(nL3, .blk Bd [.self nL3, .own (nL3.cell 1)]),((nL3.cell 1), .arr (Aj+2) true 1 u0)]⟩:=kq h
theorem Avz(K:KK)(t0:LB)(t8 t9:Int)(u0:LL)(h:
 (Vd t0 t8 t9 u0 (Nk K))):Aea K .normal ⟨[(0,As t0),(3, .ptr nL3 0),(8,Ai t8),(9,Ai t9)],[(nL3, .blk Bd [.self nL3, .own (nL3.cell 1)]),((nL3.cell 1), .arr (Aj+2) true 1 u0)]⟩:=kq h
theorem Av0(K:KK)(t0:LB)(t8 t9:Int)(u0:LL)(h:
 (Vd t0 t8 t9 u0 (Nk K))):Rl K (.exit (1)) ⟨[(0,As t0),(3, .ptr nL3 0),(8,Ai t8),(9,Ai t9)],[(nL3, .blk Bd [.self nL3, .own (nL3.cell 1)]),((nL3.cell 1), .arr (Aj+2) true 1 u0)]⟩:=kq h
theorem Av1(K:KK)(t0:LB)(t5 t8 t9:Int)(u0:LL)(h:
 (Ak3 t0 t5 t8 t9 u0 (Aea K))):Rl K .normal ⟨[(0,As t0),(3, .ptr nL3 0),(5, .imm (.int .u8 t5)),(8,Ai t8),(9,Ai t9)],[(nL3, .blk Bd [.self nL3, .own (nL3.cell 1)]),((nL3.cell 1), .arr (Aj+2) true 1 u0)]⟩:=kq h
theorem A5h:Be E0.P 80 Ga.code Gc [.tmp 2]:=fq Tryz.func80
theorem Ay5(a0:LB)(Q:QQ)(h:
 (Ag (1≤140737488355328∧1≤140737488355328)
 (Kz a0 ((↑a0.length:Int)) ((0:Int)) ([]++[[IV.int .u8 (47:Int)]]) (Ana Q)))):Call E0.P Z7 [As a0] [] Q:=fR 0 A5h h
noncomputable def Xv:AC:=(A8 [(4,[0,3,8,9],[]),(6,[3],[]),(16,[3],[])] [2] (codeOf Tryz.f81) 0).1
abbrev X4:Nat:=37
def Mj(t0:LB)(t8 t9:Int)(u0:LL)(K:KK):Prop:=Bc 4 E0.P X4 (A9 4 Xv).code ⟨[(0,As t0),(3, .ptr nL3 0),(8,Ai t8),(9,Ai t9)],[(nL3, .blk Bd [.self nL3, .own (nL3.cell 1)]),((nL3.cell 1), .arr (Aj+2) true 1 u0)]⟩ K
def Ai7(u0:LL)(K:KK):Prop:=Aq 16 E0.P X4 (Am 16 Xv).code ⟨[(3, .ptr nL3 0)],[(nL3, .blk Bd [.self nL3, .own (nL3.cell 1)]),((nL3.cell 1), .arr (Aj+2) true 1 u0)]⟩ K
def Ace(Q:QQ):KK:=kE fun st=>finish 0 E0.T [.tmp 2] [] Q st
def Px(Q:QQ):KK:=kF 0 (fun st=>Aq 16 E0.P X4 (Am 16 Xv).code (mask [3] st) (Ace Q)) fun st=>finish 0 E0.T [.tmp 2] [] Q st
theorem Afu(t0:LB)(t8 t9:Int)(u0:LL)(K:KK)(h:
 (Br (decide (t9<t8))
 (Ag ((0:Int)≤t9∧t9<(↑t0.length:Int))
 (Call E0.P Z8 [.imm (.int .u8 ((↑(t0.getD t9.toNat 0).toNat:Int)))] [] fun r0 g0=>
 Ag (qW3 g0 r0)
 (Br (!rB r0)
 (Call E0.P Aei [As t0] [] fun r1 g1=>
 Ag (qW2 g1 r1)
 (Ag ((↑((1:Nat)+(rS r1).length):Int)≤(9223372036854775807:Int))
 (K .ret ⟨[(2,As ([(60:UInt8)]++rS r1))],[]⟩)))
 (Let (bif decide ((↑(t0.getD t9.toNat 0).toNat:Int)=(40:Int))then true
 else decide ((↑(t0.getD t9.toNat 0).toNat:Int)=(41:Int))) fun x2=>
 Let (bif x2 then true else decide ((↑(t0.getD t9.toNat 0).toNat:Int)=(92:Int))) fun x3=>
 Br (x3)
 (Ag ((u0.length+1)*1≤140737488355328∧u0.length+1≤140737488355328)
 (Ag (((u0++[[IV.int .u8 (92:Int)]]).length+1)*1≤140737488355328∧
 (u0++[[IV.int .u8 (92:Int)]]).length+1≤140737488355328)
 (Mj t0 t8 (i64.wrap (t9+(1:Int))) (u0++[[IV.int .u8 (92:Int)]]++[[IV.int .u8 (↑(t0.getD t9.toNat 0).toNat:Int)]]) K)))
 (Ag ((u0.length+1)*1≤140737488355328∧u0.length+1≤140737488355328)
 (Mj t0 t8 (i64.wrap (t9+(1:Int))) (u0++[[IV.int .u8 (↑(t0.getD t9.toNat 0).toNat:Int)]]) K))))))
 (K (.exit 0) ⟨[(3, .ptr nL3 0)],[(nL3, .blk Bd [.self nL3, .own (nL3.cell 1)]),((nL3.cell 1), .arr (Aj+2) true 1 u0)]⟩))):Mj t0 t8 t9 u0 K:=lR [0,3,8,9] h
theorem Aqw(u0:LL)(K:KK)(h:
 (Ag ((u0.length+1)*1≤140737488355328∧u0.length+1≤140737488355328)
 (Ag (((↑(u0++[[IV.int .u8 (41:Int)]]).length:Int)=
 (↑(u0++[[IV.int .u8 (41:Int)]]).length:Int)∧
 (u0++[[IV.int .u8 (41:Int)]]).length≤9223372036854775807)∧
 ∀(r:List IV),r∈u0++[[IV.int .u8 (41:Int)]]→Bg [.int .u8] r=true)
 (K .ret ⟨[(2,As (List.map (fun r=>UInt8.ofNat (gI r 0).toNat) (u0++[[IV.int .u8 (41:Int)]])))],[]⟩)))):Ai7 u0 K:=cR [] h
theorem Asw(Q:QQ)(t2:LB)(h:
 (Q (As t2) [])):Ace Q .ret ⟨[(2,As t2)],[]⟩:=kq h
theorem Asx(Q:QQ)(t2:LB)(h:
 (Q (As t2) [])):Px Q .ret ⟨[(2,As t2)],[]⟩:=kq h
theorem Asy(Q:QQ)(u0:LL)(h:
 (Ai7 u0 (Ace Q))):Px Q (.exit 0) ⟨[(3, .ptr nL3 0)],[(nL3, .blk Bd [.self nL3, .own (nL3.cell 1)]),((nL3.cell 1), .arr (Aj+2) true 1 u0)]⟩:=kq h
theorem A25:Be E0.P 81 Xv.code X4 [.tmp 2]:=fq Tryz.func81
theorem Aww(a0:LB)(Q:QQ)(h:
 (Ag (1≤140737488355328∧1≤140737488355328)
 (Mj a0 ((↑a0.length:Int)) ((0:Int)) ([]++[[IV.int .u8 (40:Int)]]) (Px Q)))):Call E0.P Aem [As a0] [] Q:=fR 0 A25 h
noncomputable def A11:AC:=(A8 [] [4] (codeOf Tryz.f15) 0).1
abbrev A2r:Nat:=8
theorem A21:Be E0.P 15 A11.code A2r [.tmp 4]:=fq Tryz.func15
theorem Aws(a0_0 a0_1 a0_2:Int)(a0_3:LB)(a0_4 a0_5:LL)(a1:Bool)(Q:QQ)(h:
 (Call E0.P R6 [.imm (.agg [.int .i64 a0_0, .int .i64 a0_1, .int .i64 a0_2, .str a0_3, .sl .any 6 a0_4, .sl .any 7 a0_5]),Ab a1,Ai 0] [] fun r0 g0=>
 Ag (qW0 g0 r0)
 (Q (Ai (rI r0)) []))):Call E0.P R4 [.imm (.agg [.int .i64 a0_0, .int .i64 a0_1, .int .i64 a0_2, .str a0_3, .sl .any 6 a0_4, .sl .any 7 a0_5]),Ab a1] [] Q:=fR 0 A21 h
noncomputable def Gj:AC:=(A8 [(13,[1,3,33,34,35],[]),(15,[1,3],[]),(21,[1,3,48,49,50],[]),(23,[1,3],[]),(28,[1,1000003],[])] [2] (codeOf Tryz.f55) 0).1
abbrev Gl:Nat:=79
def Tf(t33r:LL)(t34 t35:Int)(u0 u1 u2:Int)(u3:LB)(u4 u5 u6:LL)(K:KK):Prop:=Bc 13 E0.P Gl (A9 13 Gj).code ⟨[(1, .ptr Fh 0),(3, .own nL3),(33,Al 6 t33r),(34,Ai t34),(35,Ai t35)],[(Fh, .blk Aa [Ai u0,Ai u1,Ai u2,As u3,Al 6 u4,Al 7 u5]),(nL3, .arr (Qj+2) true 1 u6)]⟩ K
def Tg(t48r:LL)(t49 t50:Int)(u0 u1 u2:Int)(u3:LB)(u4 u5 u6:LL)(K:KK):Prop:=Bc 21 E0.P Gl (A9 21 Gj).code ⟨[(1, .ptr Fh 0),(3, .own nL3),(48,Al 7 t48r),(49,Ai t49),(50,Ai t50)],[(Fh, .blk Aa [Ai u0,Ai u1,Ai u2,As u3,Al 6 u4,Al 7 u5]),(nL3, .arr (Qj+2) true 1 u6)]⟩ K
def Ku(t3r:LL)(u0 u1 u2:Int)(u3:LB)(u4 u5:LL)(K:KK):Prop:=Aq 28 E0.P Gl (Am 28 Gj).code ⟨[(1, .ptr Fh 0),(3,Al 1 t3r)],[(Fh, .blk Aa [Ai u0,Ai u1,Ai u2,As u3,Al 6 u4,Al 7 u5])]⟩ K
def D6(Q:QQ):KK:=kE fun st=>finish 0 E0.T [.tmp 2] [] Q st
def Ak6(Q:QQ):Ex→St→Prop
 | .normal,st=>Aq 28 E0.P Gl (Am 28 Gj).code (mask [1,1000003] st) (D6 Q)
 | .exit i,st=>(match (i.beq 1:Bool)with
 |true=>Aq 28 E0.P Gl (Am 28 Gj).code (mask [1,1000003] st) (D6 Q)
 |false=>(match (i.beq 0:Bool)with
 |true=>Aq 28 E0.P Gl (Am 28 Gj).code (mask [1,1000003] st) (D6 Q)
 |false=>False))
 | .goto _,_=>False
 | .ret,st=>finish 0 E0.T [.tmp 2] [] Q st
def Ak7(Q:QQ):Ex→St→Prop
 | .normal,st=>Aq 28 E0.P Gl (Am 28 Gj).code (mask [1,1000003] st) (D6 Q)
 | .exit i,st=>(match (i.beq 3:Bool)with
 |true=>Aq 28 E0.P Gl (Am 28 Gj).code (mask [1,1000003] st) (D6 Q)
 |false=>(match (i.beq 0:Bool)with
 |true=>Aq 28 E0.P Gl (Am 28 Gj).code (mask [1,1000003] st) (D6 Q)
 |false=>False))
 | .goto _,_=>False
 | .ret,st=>finish 0 E0.T [.tmp 2] [] Q st
theorem Adw(t33r:LL)(t34 t35:Int)(u0 u1 u2:Int)(u3:LB)(u4 u5 u6:LL)(K:KK)(h:
 (Br (decide (t35<t34))
 (Ag (((0:Int)≤t35∧t35<(↑t33r.length:Int))∧
 Bg
 [.int .i64, .int .i64, .int .i64, .str, .sl 6 Aa,
 .sl 7 Ah]
 (t33r.getD t35.toNat [])=
 true)
 (Call E0.P R7 [.imm (.agg [.int .i64 (gI (t33r.getD t35.toNat []) 0), .int .i64 (gI (t33r.getD t35.toNat []) 1), .int .i64 (gI (t33r.getD t35.toNat []) 2), .str (gS (t33r.getD t35.toNat []) 3), .sl .any 6 (gR (t33r.getD t35.toNat []) 4), .sl .any 7 (gR (t33r.getD t35.toNat []) 5)])] [] fun r0 g0=>
 Ag (qW2 g0 r0)
 (Ag ((u6.length+1)*16≤140737488355328∧u6.length+1≤140737488355328)
 (Tf t33r t34 (i64.wrap (t35+(1:Int))) u0 u1 u2 u3 u4 u5 (u6++[[IV.str (rS r0)]]) K))))
 (K (.exit (1)) ⟨[(1, .ptr Fh 0),(3, .own nL3)],[(Fh, .blk Aa [Ai u0,Ai u1,Ai u2,As u3,Al 6 u4,Al 7 u5]),(nL3, .arr (Qj+2) true 1 u6)]⟩))):Tf t33r t34 t35 u0 u1 u2 u3 u4 u5 u6 K:=lR [1,3,33,34,35] h
theorem Adx(t48r:LL)(t49 t50:Int)(u0 u1 u2:Int)(u3:LB)(u4 u5 u6:LL)(K:KK)(h:
 (Br (decide (t50<t49))
 (Ag (((0:Int)≤t50∧t50<(↑t48r.length:Int))∧
 Bg
 [.str, .int .i64, .int .i64, .int .i64, .str, .sl 6 Aa,
 .sl 7 Ah]
 (t48r.getD t50.toNat [])=
 true)
 (Call E0.P Z7 [As (gS (t48r.getD t50.toNat []) 0)] [] fun r0 g0=>
 Ag (qW2 g0 r0)
 (Call E0.P R7 [.imm (.agg [.int .i64 (gI (t48r.getD t50.toNat []) 1), .int .i64 (gI (t48r.getD t50.toNat []) 2), .int .i64 (gI (t48r.getD t50.toNat []) 3), .str (gS (t48r.getD t50.toNat []) 4), .sl .any 6 (gR (t48r.getD t50.toNat []) 5), .sl .any 7 (gR (t48r.getD t50.toNat []) 6)])] [] fun r1 g1=>
 Ag (qW2 g1 r1)
 (Call E0.P Vt [.imm (.sl .any 1 [[IV.str (rS r0)],[.str (rS r1)]])] [] fun r2 g2=>
 Ag (qW2 g2 r2)
 (Ag ((u6.length+1)*16≤140737488355328∧u6.length+1≤140737488355328)
 (Tg t48r t49 (i64.wrap (t50+(1:Int))) u0 u1 u2 u3 u4 u5 (u6++[[IV.str (rS r2)]]) K))))))
 (K (.exit (3)) ⟨[(1, .ptr Fh 0),(3, .own nL3)],[(Fh, .blk Aa [Ai u0,Ai u1,Ai u2,As u3,Al 6 u4,Al 7 u5]),(nL3, .arr (Qj+2) true 1 u6)]⟩))):Tg t48r t49 t50 u0 u1 u2 u3 u4 u5 u6 K:=lR [1,3,48,49,50] h
theorem Aqx(t3r:LL)(u0 u1 u2:Int)(u3:LB)(u4 u5:LL)(K:KK)(h:
 (Call E0.P Ac8 [Ai u0,Al 1 t3r] [] fun r0 g0=>
 Ag (qW2 g0 r0)
 (K .ret ⟨[(2,As (rS r0))],[]⟩))):Ku t3r u0 u1 u2 u3 u4 u5 K:=cR [] h
theorem Asz(Q:QQ)(t2:LB)(h:
 (Q (As t2) [])):D6 Q .ret ⟨[(2,As t2)],[]⟩:=kq h
theorem As0(Q:QQ)(u0 u1 u2:Int)(u3:LB)(u4 u5 u6:LL)(h:
 (Ku u6 u0 u1 u2 u3 u4 u5 (D6 Q))):Ak6 Q (.exit (1)) ⟨[(1, .ptr Fh 0),(3, .own nL3)],[(Fh, .blk Aa [Ai u0,Ai u1,Ai u2,As u3,Al 6 u4,Al 7 u5]),(nL3, .arr (Qj+2) true 1 u6)]⟩:=kq h
theorem As1(Q:QQ)(u0 u1 u2:Int)(u3:LB)(u4 u5 u6:LL)(h:
 (Ku u6 u0 u1 u2 u3 u4 u5 (D6 Q))):Ak7 Q (.exit (3)) ⟨[(1, .ptr Fh 0),(3, .own nL3)],[(Fh, .blk Aa [Ai u0,Ai u1,Ai u2,As u3,Al 6 u4,Al 7 u5]),(nL3, .arr (Qj+2) true 1 u6)]⟩:=kq h
theorem A26:Be E0.P 55 Gj.code Gl [.tmp 2]:=fq Tryz.func55
theorem Awx(a0_0 a0_1 a0_2:Int)(a0_3:LB)(a0_4 a0_5:LL)(Q:QQ)(h:
 (Br (decide (a0_0=(1:Int)))
 (Call E0.P Ag1 [Ai a0_1] [] fun r0 g0=>
 Ag (qW2 g0 r0)
 (Q (As (rS r0)) []))
 (Br (decide (a0_0=(2:Int)))
 (Call E0.P Pg [Ai a0_1] [] fun r1 g1=>
 Ag (qW2 g1 r1)
 (Q (As (rS r1)) []))
 (Br (decide (a0_0=(3:Int)))
 (Call E0.P Z7 [As a0_3] [] fun r2 g2=>
 Ag (qW2 g2 r2)
 (Q (As (rS r2)) []))
 (Br (decide (a0_0=(4:Int)))
 (Call E0.P Aem [As a0_3] [] fun r3 g3=>
 Ag (qW2 g3 r3)
 (Q (As (rS r3)) []))
 (Br (decide (a0_0=(5:Int)))
 (Tf a0_4 ((↑a0_4.length:Int)) ((0:Int)) a0_0 a0_1 a0_2 a0_3 a0_4 a0_5 [] (Ak6 Q))
 (Br (decide (a0_0=(6:Int)))
 (Tg a0_5 ((↑a0_5.length:Int)) ((0:Int)) a0_0 a0_1 a0_2 a0_3 a0_4 a0_5 [] (Ak7 Q))
 (Br (decide (a0_0=(7:Int)))
 (Call E0.P Pg [Ai a0_1] [] fun r4 g4=>
 Ag (qW2 g4 r4)
 (Call E0.P Pg [Ai a0_2] [] fun r5 g5=>
 Ag (qW2 g5 r5)
 (Ku [[IV.str (rS r4)],[.str (rS r5)]] a0_0 a0_1 a0_2 a0_3 a0_4 a0_5 (D6 Q))))
 (Ku [] a0_0 a0_1 a0_2 a0_3 a0_4 a0_5 (D6 Q)))))))))):Call E0.P R7 [.imm (.agg [.int .i64 a0_0, .int .i64 a0_1, .int .i64 a0_2, .str a0_3, .sl .any 6 a0_4, .sl .any 7 a0_5])] [] Q:=fR 0 A26 h
noncomputable def A40:AC:=(A8 [] [2] (codeOf Tryz.f112) 0).1
abbrev A48:Nat:=9
theorem A5j:Be E0.P 112 A40.code A48 [.tmp 2]:=fq Tryz.func112
theorem Ay7(a0:Int)(Q:QQ)(h:
 (Let (bif decide ((32:Int)≤a0)then decide (a0≤(126:Int))else false) fun x0=>
 Q (Ab x0) [])):Call E0.P Z8 [.imm (.int .u8 a0)] [] Q:=fR 0 A5j h
noncomputable def A1y:AC:=(A8 [] [2] (codeOf Tryz.f114) 0).1
abbrev A2o:Nat:=20
theorem A2y:Be E0.P 114 A1y.code A2o [.tmp 2]:=fq Tryz.func114
theorem Awp(a0:Int)(Q:QQ)(h:
 (Let (bif decide (a0<(0:Int))then true else decide ((15:Int)<a0)) fun x0=>
 Br (x0)
 (Q (.imm (.int .u8 ((0:Int)))) [])
 (Br (decide (a0<(10:Int)))
 (Q (.imm (.int .u8 (IntKind.u8.wrap (i64.wrap ((48:Int)+a0))))) [])
 (Q (.imm (.int .u8 (IntKind.u8.wrap (i64.wrap (i64.wrap ((65:Int)+a0) - (10:Int)))))) [])))):Call E0.P Nl [Ai a0] [] Q:=fR 0 A2y h
noncomputable def Xu:AC:=(A8 [(3,[0,3,6,7],[]),(5,[3],[]),(10,[3],[])] [2] (codeOf Tryz.f116) 0).1
abbrev X3:Nat:=27
def Vl(t0:LB)(t6 t7:Int)(u0:LL)(K:KK):Prop:=Bc 3 E0.P X3 (A9 3 Xu).code ⟨[(0,As t0),(3, .ptr nL3 0),(6,Ai t6),(7,Ai t7)],[(nL3, .blk Bd [.self nL3, .own (nL3.cell 1)]),((nL3.cell 1), .arr (Aj+2) true 1 u0)]⟩ K
def Ai0(u0:LL)(K:KK):Prop:=Aq 10 E0.P X3 (Am 10 Xu).code ⟨[(3, .ptr nL3 0)],[(nL3, .blk Bd [.self nL3, .own (nL3.cell 1)]),((nL3.cell 1), .arr (Aj+2) true 1 u0)]⟩ K
def Ab2(Q:QQ):KK:=kE fun st=>finish 0 E0.T [.tmp 2] [] Q st
def Ak5(Q:QQ):KK:=kF 0 (fun st=>Aq 10 E0.P X3 (Am 10 Xu).code (mask [3] st) (Ab2 Q)) fun st=>finish 0 E0.T [.tmp 2] [] Q st
theorem Afr(t0:LB)(t6 t7:Int)(u0:LL)(K:KK)(h:
 (Br (decide (t7<t6))
 (Ag ((0:Int)≤t7∧t7<(↑t0.length:Int))
 (Ag ((0:Int)≤(4:Int))
 (Call E0.P Nl [.imm (.int .i64 (i64.wrap ((↑(t0.getD t7.toNat 0).toNat:Int).fdiv ((2:Int) ^ 4))))] [] fun r0 g0=>
 Ag (qW4 g0 r0)
 (Ag ((u0.length+1)*1≤140737488355328∧u0.length+1≤140737488355328)
 (Ag ((0:Int)≤t7∧t7<(↑t0.length:Int))
 (Call E0.P Nl [.imm (.int .i64 (i64.wrap
 (IntKind.u8.wrap
 (↑(BitVec.ofInt (8:Nat) (↑(t0.getD t7.toNat 0).toNat:Int) &&&
 BitVec.ofInt (8:Nat) (15:Int)).toNat:
 Int))))] [] fun r1 g1=>
 Ag (qW4 g1 r1)
 (Ag (((u0++[[IV.int .u8 (rI r0)]]).length+1)*1≤140737488355328∧
 (u0++[[IV.int .u8 (rI r0)]]).length+1≤140737488355328)
 (Vl t0 t6 (i64.wrap (t7+(1:Int))) (u0++[[IV.int .u8 (rI r0)]]++[[IV.int .u8 (rI r1)]]) K))))))))
 (K (.exit 0) ⟨[(3, .ptr nL3 0)],[(nL3, .blk Bd [.self nL3, .own (nL3.cell 1)]),((nL3.cell 1), .arr (Aj+2) true 1 u0)]⟩))):Vl t0 t6 t7 u0 K:=lR [0,3,6,7] h
theorem Aqp(u0:LL)(K:KK)(h:
 (Ag ((u0.length+1)*1≤140737488355328∧u0.length+1≤140737488355328)
 (Ag (((↑(u0++[[IV.int .u8 (62:Int)]]).length:Int)=
 (↑(u0++[[IV.int .u8 (62:Int)]]).length:Int)∧
 (u0++[[IV.int .u8 (62:Int)]]).length≤9223372036854775807)∧
 ∀(r:List IV),r∈u0++[[IV.int .u8 (62:Int)]]→Bg [.int .u8] r=true)
 (K .ret ⟨[(2,As (List.map (fun r=>UInt8.ofNat (gI r 0).toNat) (u0++[[IV.int .u8 (62:Int)]])))],[]⟩)))):Ai0 u0 K:=cR [] h
theorem Asd(Q:QQ)(t2:LB)(h:
 (Q (As t2) [])):Ab2 Q .ret ⟨[(2,As t2)],[]⟩:=kq h
theorem Ase(Q:QQ)(u0:LL)(h:
 (Ai0 u0 (Ab2 Q))):Ak5 Q (.exit 0) ⟨[(3, .ptr nL3 0)],[(nL3, .blk Bd [.self nL3, .own (nL3.cell 1)]),((nL3.cell 1), .arr (Aj+2) true 1 u0)]⟩:=kq h
theorem A2w:Be E0.P 116 Xu.code X3 [.tmp 2]:=fq Tryz.func116
theorem Awn(a0:LB)(Q:QQ)(h:
 (Vl a0 ((↑a0.length:Int)) ((0:Int)) [] (Ak5 Q))):Call E0.P Aei [As a0] [] Q:=fR 0 A2w h
noncomputable def E9:AC:=(A8 [(6,[2,3,23,24,25],[]),(8,[2,3],[]),(15,[2,3],[]),(18,[2,11,39,40,41],[]),(20,[],[]),(25,[2,11,13,39,40,41],[2,11,39,40,41]),(30,[2,11,39,40,41],[2,11,39,40,41]),(31,[],[])] [6] (codeOf Tryz.f32) 0).1
abbrev Ff:Nat:=75
def Vo(t2:Int)(t23r:LL)(t24 t25:Int)(u0 u1 u2:Int)(u3:LB)(u4 u5:LL)(K:KK):Prop:=Bc 6 E0.P Ff (A9 6 E9).code ⟨[(2,Ai t2),(3, .ptr nL3 0),(23,Al 6 t23r),(24,Ai t24),(25,Ai t25)],[(nL3, .blk Aa [Ai u0,Ai u1,Ai u2,As u3,Al 6 u4,Al 7 u5])]⟩ K
def Ai3(t2 u0:Int)(u1 u2:Int)(u3:LB)(u4 u5:LL)(K:KK):Prop:=Aq 15 E0.P Ff (Am 15 E9).code ⟨[(2,Ai t2),(3, .ptr nL3 0)],[(nL3, .blk Aa [Ai u0,Ai u1,Ai u2,As u3,Al 6 u4,Al 7 u5])]⟩ K
def Td(t2:Int)(t39r:LL)(t40 t41:Int)(u0:List (List UInt8 × Int))(K:KK):Prop:=Bc 18 E0.P Ff (A9 18 E9).code ⟨[(2,Ai t2),(11, .mp Ada),(39,Al 7 t39r),(40,Ai t40),(41,Ai t41)],[(Ada, .map u0)]⟩ K
def Sr(t2:Int)(t39r:LL)(t40 t41:Int)(u0:List (List UInt8 × Int))(u1:LB)(u2 u3 u4:Int)(u5:LB)(u6 u7:LL)(K:KK):Prop:=Aq 25 E0.P Ff (Am 25 E9).code ⟨[(2,Ai t2),(11, .mp Ada),(13, .ptr Bnt 0),(39,Al 7 t39r),(40,Ai t40),(41,Ai t41)],[(Ada, .map u0),(Bnt, .blk Ah [As u1,Ai u2,Ai u3,Ai u4,As u5,Al 6 u6,Al 7 u7])]⟩ K
def Ai5(K:KK):Prop:=Aq 31 E0.P Ff (Am 31 E9).code ⟨[],[]⟩ K
def Ai4(t2:Int)(t39r:LL)(t40 t41:Int)(u0:List (List UInt8 × Int))(K:KK):Prop:=Aq 30 E0.P Ff (Am 30 E9).code ⟨[(2,Ai t2),(11, .mp Ada),(39,Al 7 t39r),(40,Ai t40),(41,Ai t41)],[(Ada, .map u0)]⟩ K
def Aca(Q:QQ):KK:=kE fun st=>finish 0 E0.T [.tmp 6] [] Q st
def Acb(Q:QQ):KK:=kF 0 (fun st=>Aq 15 E0.P Ff (Am 15 E9).code (mask [2,3] st) (Aca Q)) fun st=>finish 0 E0.T [.tmp 6] [] Q st
def Acc(K:KK):KK:=kP [] K
def Md(K:KK):KK:=kC 2 (fun st=>Aq 31 E0.P Ff (Am 31 E9).code (mask [] st) (Acc K)) K
def Acd(K:KK):Ex→St→Prop
 | .normal,st=>Bc 18 E0.P Ff (A9 18 E9).code (mask [2,11,39,40,41] st) K
 | .exit i,st=>K (.exit i) st
 | .goto i,st=>K (.goto i) st
 | .ret,st=>K .ret st
def Pw(K:KK):KK:=kC 3 (fun st=>Aq 30 E0.P Ff (Am 30 E9).code (mask [2,11,39,40,41] st) (Acd K)) K
theorem Aft(t2:Int)(t23r:LL)(t24 t25:Int)(u0 u1 u2:Int)(u3:LB)(u4 u5:LL)(K:KK)(h:
 (Br (decide (t25<t24))
 (Ag (((0:Int)≤t25∧t25<(↑t23r.length:Int))∧
 Bg
 [.int .i64, .int .i64, .int .i64, .str, .sl 6 Aa,
 .sl 7 Ah]
 (t23r.getD t25.toNat [])=
 true)
 (Call E0.P R6 [.imm (.agg [.int .i64 (gI (t23r.getD t25.toNat []) 0), .int .i64 (gI (t23r.getD t25.toNat []) 1), .int .i64 (gI (t23r.getD t25.toNat []) 2), .str (gS (t23r.getD t25.toNat []) 3), .sl .any 6 (gR (t23r.getD t25.toNat []) 4), .sl .any 7 (gR (t23r.getD t25.toNat []) 5)]),Ab false,Ai (i64.wrap (t2+(1:Int)))] [] fun r0 g0=>
 Ag (qW0 g0 r0)
 (Br (!decide (rI r0=(0:Int)))
 (K .ret ⟨[(6,Ai (rI r0))],[]⟩)
 (Vo t2 t23r t24 (i64.wrap (t25+(1:Int))) u0 u1 u2 u3 u4 u5 K))))
 (K (.exit 0) ⟨[(2,Ai t2),(3, .ptr nL3 0)],[(nL3, .blk Aa [Ai u0,Ai u1,Ai u2,As u3,Al 6 u4,Al 7 u5])]⟩))):Vo t2 t23r t24 t25 u0 u1 u2 u3 u4 u5 K:=lR [2,3,23,24,25] h
theorem Aqs(t2 u0:Int)(u1 u2:Int)(u3:LB)(u4 u5:LL)(K:KK)(h:
 (Td t2 u5 ((↑u5.length:Int)) ((0:Int)) [] (Md K))):Ai3 t2 u0 u1 u2 u3 u4 u5 K:=cR [] h
theorem Adv(t2:Int)(t39r:LL)(t40 t41:Int)(u0:List (List UInt8 × Int))(K:KK)(h:
 (Br (decide (t41<t40))
 (Ag (((0:Int)≤t41∧t41<(↑t39r.length:Int))∧
 Bg
 [.str, .int .i64, .int .i64, .int .i64, .str, .sl 6 Aa,
 .sl 7 Ah]
 (t39r.getD t41.toNat [])=
 true)
 (Br (decide ((127:Int)<(↑(gS (t39r.getD t41.toNat []) (0:Nat)).length:Int)) == false)
 (Call E0.P Wt [As (gS (t39r.getD t41.toNat []) 0)] [] fun r0 g0=>
 Ag (qW3 g0 r0)
 (Let (rB r0) fun x1=>
 Let (bif x1 then true else decide ((0:Int)<Cx u0 (gS (t39r.getD t41.toNat []) 0))) fun x2=>
 Br (x2)
 (K .ret ⟨[(6,Ai 11)],[]⟩)
 (Sr t2 t39r t40 t41 u0 (gS (t39r.getD t41.toNat []) 0) (gI (t39r.getD t41.toNat []) 1) (gI (t39r.getD t41.toNat []) 2) (gI (t39r.getD t41.toNat []) 3) (gS (t39r.getD t41.toNat []) 4) (gR (t39r.getD t41.toNat []) 5) (gR (t39r.getD t41.toNat []) 6) (Pw K))))
 (Ag ((!false)=true)
 (Let (true) fun x3=>
 Let (bif x3 then true else decide ((0:Int)<Cx u0 (gS (t39r.getD t41.toNat []) 0))) fun x4=>
 Br (x4)
 (K .ret ⟨[(6,Ai 11)],[]⟩)
 (Sr t2 t39r t40 t41 u0 (gS (t39r.getD t41.toNat []) 0) (gI (t39r.getD t41.toNat []) 1) (gI (t39r.getD t41.toNat []) 2) (gI (t39r.getD t41.toNat []) 3) (gS (t39r.getD t41.toNat []) 4) (gR (t39r.getD t41.toNat []) 5) (gR (t39r.getD t41.toNat []) 6) (Pw K))))))
 (K (.exit (2)) ⟨[],[]⟩))):Td t2 t39r t40 t41 u0 K:=lR [2,11,39,40,41] h
theorem Aqt(t2:Int)(t39r:LL)(t40 t41:Int)(u0:List (List UInt8 × Int))(u1:LB)(u2 u3 u4:Int)(u5:LB)(u6 u7:LL)(K:KK)(h:
 (Call E0.P R6 [.imm (.agg [.int .i64 u2, .int .i64 u3, .int .i64 u4, .str u5, .sl .any 6 u6, .sl .any 7 u7]),Ab false,Ai (i64.wrap (t2+(1:Int)))] [] fun r0 g0=>
 Ag (qW0 g0 r0)
 (Br (!decide (rI r0=(0:Int)))
 (K .ret ⟨[(6,Ai (rI r0))],[]⟩)
 (K .normal ⟨[(2,Ai t2),(11, .mp Ada),(39,Al 7 t39r),(40,Ai t40),(41,Ai t41)],[(Ada, .map (Yi u0 u1 (i64.wrap (Cx u0 u1+(1:Int)))))]⟩)))):Sr t2 t39r t40 t41 u0 u1 u2 u3 u4 u5 u6 u7 K:=cR [2,11,39,40,41] h
theorem Aqv(K:KK)(h:
 (K .ret ⟨[(6,Ai 0)],[]⟩)):Ai5 K:=cR [] h
theorem Aqu(t2:Int)(t39r:LL)(t40 t41:Int)(u0:List (List UInt8 × Int))(K:KK)(h:
 (K .normal ⟨[(2,Ai t2),(11, .mp Ada),(39,Al 7 t39r),(40,Ai t40),(41,Ai (i64.wrap (t41+(1:Int))))],[(Ada, .map u0)]⟩)):Ai4 t2 t39r t40 t41 u0 K:=cR [2,11,39,40,41] h
theorem Asn(Q:QQ)(t6:Int)(h:
 (Q (Ai t6) [])):Aca Q .ret ⟨[(6,Ai t6)],[]⟩:=kq h
theorem Aso(Q:QQ)(t6:Int)(h:
 (Q (Ai t6) [])):Acb Q .ret ⟨[(6,Ai t6)],[]⟩:=kq h
theorem Asp(Q:QQ)(t2 u0:Int)(u1 u2:Int)(u3:LB)(u4 u5:LL)(h:
 (Ai3 t2 u0 u1 u2 u3 u4 u5 (Aca Q))):Acb Q (.exit 0) ⟨[(2,Ai t2),(3, .ptr nL3 0)],[(nL3, .blk Aa [Ai u0,Ai u1,Ai u2,As u3,Al 6 u4,Al 7 u5])]⟩:=kq h
theorem Asq(K:KK)(t6:Int)(h:
 (K .ret ⟨[(6,Ai t6)],[]⟩)):Acc K .ret ⟨[(6,Ai t6)],[]⟩:=kq h
theorem Afp(K:KK)(t6:Int)(h:
 (K .ret ⟨[(6,Ai t6)],[]⟩)):Md K .ret ⟨[(6,Ai t6)],[]⟩:=kq h
theorem Asr(K:KK)(h:
 (Ai5 (Acc K))):Md K (.exit (2)) ⟨[],[]⟩:=kq h
theorem Ass(K:KK)(t2:Int)(t39r:LL)(t40 t41:Int)(u0:List (List UInt8 × Int))(h:
 (Td t2 t39r t40 t41 u0 K)):Acd K .normal ⟨[(2,Ai t2),(11, .mp Ada),(39,Al 7 t39r),(40,Ai t40),(41,Ai t41)],[(Ada, .map u0)]⟩:=kq h
theorem Asu(K:KK)(t6:Int)(h:
 (K .ret ⟨[(6,Ai t6)],[]⟩)):Pw K .ret ⟨[(6,Ai t6)],[]⟩:=kq h
theorem Asv(K:KK)(t2:Int)(t39r:LL)(t40 t41:Int)(u0:List (List UInt8 × Int))(h:
 (Ai4 t2 t39r t40 t41 u0 (Acd K))):Pw K .normal ⟨[(2,Ai t2),(11, .mp Ada),(39,Al 7 t39r),(40,Ai t40),(41,Ai t41)],[(Ada, .map u0)]⟩:=kq h
theorem A23:Be E0.P 32 E9.code Ff [.tmp 6]:=fq Tryz.func32
theorem Awu(a0_0 a0_1 a0_2:Int)(a0_3:LB)(a0_4 a0_5:LL)(a1:Bool)(a2:Int)(Q:QQ)(h:
 (Call E0.P Aj9 [.imm (.agg [.int .i64 a0_0, .int .i64 a0_1, .int .i64 a0_2, .str a0_3, .sl .any 6 a0_4, .sl .any 7 a0_5]),Ab a1,Ai a2] [] fun r0 g0=>
 Ag (qW0 g0 r0)
 (Br (!decide (rI r0=(0:Int)))
 (Q (Ai (rI r0)) [])
 (Vo a2 a0_4 ((↑a0_4.length:Int)) ((0:Int)) a0_0 a0_1 a0_2 a0_3 a0_4 a0_5 (Acb Q))))):Call E0.P R6 [.imm (.agg [.int .i64 a0_0, .int .i64 a0_1, .int .i64 a0_2, .str a0_3, .sl .any 6 a0_4, .sl .any 7 a0_5]),Ab a1,Ai a2] [] Q:=fR 0 A23 h
noncomputable def A41:AC:=(A8 [] [2] (codeOf Tryz.f79) 0).1
abbrev A49:Nat:=5
theorem A5k:Be E0.P 79 A41.code A49 [.tmp 2]:=fq Tryz.func79
theorem Ay8(a0:Int)(Q:QQ)(h:
 (Br (decide (a0=(1:Int)))
 (Q (.imm (.str [116,114,117,101])) [])
 (Q (.imm (.str [102,97,108,115,101])) []))):Call E0.P Ag1 [Ai a0] [] Q:=fR 0 A5k h
noncomputable def Azn:AC:=(A8 [] [2] (codeOf Tryz.f82) 0).1
abbrev A0e:Nat:=5
theorem A0o:Be E0.P 82 Azn.code A0e [.tmp 2]:=fq Tryz.func82
theorem Avj(a0:LL)(Q:QQ)(h:
 (Call E0.P Alf [Al 1 a0, .imm (.str [32])] [] fun r0 g0=>
 Ag (qW2 g0 r0)
 (Q (As (rS r0)) []))):Call E0.P Vt [Al 1 a0] [] Q:=fR 0 A0o h
noncomputable def Vq:AC:=(A8 [(2,[0,1,10,11],[]),(4,[],[]),(10,[],[])] [4] (codeOf Tryz.f83) 0).1
abbrev Vw:Nat:=27
def Te(t0:Int)(t1r:LL)(t10_0:Int)(t10_1 t10_2:LB)(t10_3:Int)(t10_4 t10_5:LB)(t10_6:Int)(t10_7 t10_8:LB)(t11:Int)(K:KK):Prop:=Bc 2 E0.P Vw (A9 2 Vq).code ⟨[(0,Ai t0),(1,Al 1 t1r),(10, .imm (.agg [.int .i64 t10_0, .str t10_1, .str t10_2, .int .i64 t10_3, .str t10_4, .str t10_5, .int .i64 t10_6, .str t10_7, .str t10_8])),(11,Ai t11)],[]⟩ K
def Ag9(K:KK):Prop:=Aq 10 E0.P Vw (Am 10 Vq).code ⟨[],[]⟩ K
def Aa2(Q:QQ):KK:=kE fun st=>finish 0 E0.T [.tmp 4] [] Q st
def Sz(Q:QQ):KK:=kF 0 (fun st=>Aq 10 E0.P Vw (Am 10 Vq).code (mask [] st) (Aa2 Q)) fun st=>finish 0 E0.T [.tmp 4] [] Q st
theorem Ov(t0:Int)(t1r:LL)(t10_0:Int)(t10_1 t10_2:LB)(t10_3:Int)(t10_4 t10_5:LB)(t10_6:Int)(t10_7 t10_8:LB)(t11:Int)(K:KK)(h:
 (Br (decide (t11<(3:Int)))
 (Ag (((0:Int)≤t11∧t11<(↑(3:Nat):Int))∧
 Bg [.int .i64, .str, .str]
 (List.take 3
 (List.drop (t11.toNat*3)
 [.int .i64 t10_0, .str t10_1, .str t10_2, .int .i64 t10_3, .str t10_4, .str t10_5,
 .int .i64 t10_6, .str t10_7, .str t10_8]))=
 true)
 (Br (decide
 (gI
 (List.take 3
 (List.drop (t11.toNat*3)
 [.int .i64 t10_0, .str t10_1, .str t10_2, .int .i64 t10_3, .str t10_4, .str t10_5,
 .int .i64 t10_6, .str t10_7, .str t10_8]))
 0=
 t0))
 (Call E0.P Vt [Al 1 t1r] [] fun r0 g0=>
 Ag (qW2 g0 r0)
 (Ag ((↑((gS
 (List.take (3:Nat)
 (List.drop (t11.toNat*(3:Nat))
 [.int .i64 t10_0, .str t10_1, .str t10_2, .int .i64 t10_3, .str t10_4,
 .str t10_5, .int .i64 t10_6, .str t10_7, .str t10_8]))
 (1:Nat)).length+
 (rS r0).length):
 Int)≤
 (9223372036854775807:Int))
 (Ag ((↑((gS
 (List.take (3:Nat)
 (List.drop (t11.toNat*(3:Nat))
 [.int .i64 t10_0, .str t10_1, .str t10_2, .int .i64 t10_3, .str t10_4,
 .str t10_5, .int .i64 t10_6, .str t10_7, .str t10_8]))
 (1:Nat)++
 rS r0).length+
 (gS
 (List.take (3:Nat)
 (List.drop (t11.toNat*(3:Nat))
 [.int .i64 t10_0, .str t10_1, .str t10_2, .int .i64 t10_3, .str t10_4,
 .str t10_5, .int .i64 t10_6, .str t10_7, .str t10_8]))
 (2:Nat)).length):
 Int)≤
 (9223372036854775807:Int))
 (K .ret ⟨[(4, .imm (.str (gS
 (List.take 3
 (List.drop (t11.toNat*3)
 [.int .i64 t10_0, .str t10_1, .str t10_2, .int .i64 t10_3, .str t10_4, .str t10_5,
 .int .i64 t10_6, .str t10_7, .str t10_8]))
 1++
 rS r0++
 gS
 (List.take 3
 (List.drop (t11.toNat*3)
 [.int .i64 t10_0, .str t10_1, .str t10_2, .int .i64 t10_3, .str t10_4, .str t10_5,
 .int .i64 t10_6, .str t10_7, .str t10_8]))
 2)))],[]⟩))))
 (Te t0 t1r t10_0 t10_1 t10_2 t10_3 t10_4 t10_5 t10_6 t10_7 t10_8 (i64.wrap (t11+(1:Int))) K)))
 (K (.exit 0) ⟨[],[]⟩))):Te t0 t1r t10_0 t10_1 t10_2 t10_3 t10_4 t10_5 t10_6 t10_7 t10_8 t11 K:=lR [0,1,10,11] h
theorem Aos(K:KK)(h:
 (K .ret ⟨[(4, .imm (.str [110,117,108,108]))],[]⟩)):Ag9 K:=cR [] h
theorem Ard(Q:QQ)(t4:LB)(h:
 (Q (As t4) [])):Aa2 Q .ret ⟨[(4,As t4)],[]⟩:=kq h
theorem U4(Q:QQ)(t4:LB)(h:
 (Q (As t4) [])):Sz Q .ret ⟨[(4,As t4)],[]⟩:=kq h
theorem Arf(Q:QQ)(h:
 (Ag9 (Aa2 Q))):Sz Q (.exit 0) ⟨[],[]⟩:=kq h
theorem A0n:Be E0.P 83 Vq.code Vw [.tmp 4]:=fq Tryz.func83
theorem Avi(a0:Int)(a1:LL)(Q:QQ)(h:
 (Te a0 a1 ((5:Int)) [(91:UInt8)] [(93:UInt8)] ((6:Int)) [(60:UInt8),60] [(62:UInt8),62] ((7:Int)) [] [(32:UInt8),82] ((0:Int)) (Sz Q))):Call E0.P Ac8 [Ai a0,Al 1 a1] [] Q:=fR 0 A0n h
noncomputable def Aco:AC:=(A8 [(4,[2,3,7,27],[]),(14,[],[])] [6] (codeOf Tryz.f45) 0).1
abbrev Adg:Nat:=86
def J6(t2:Int)(t27:Bool)(u0 u1 u2:Int)(u3:LB)(u4 u5:LL)(u6 u7:Bool)(u8 u9 v0:Bool)(K:KK):Prop:=Aq 4 E0.P Adg (Am 4 Aco).code ⟨[(2,Ai t2),(3, .ptr nL3 0),(7, .ptr nL7 0),(27,Ab t27)],[(nL3, .blk Aa [Ai u0,Ai u1,Ai u2,As u3,Al 6 u4,Al 7 u5]),(nL7, .blk Bb [Ab u6,Ab u7,Ab u8,Ab u9,Ab v0])]⟩ K
def Amx(K:KK):Prop:=Aq 14 E0.P Adg (Am 14 Aco).code ⟨[],[]⟩ K
def Agu(Q:QQ):KK:=kE fun st=>finish 0 E0.T [.tmp 6] [] Q st
def Ho(Q:QQ):KK:=kF 0 (fun st=>Aq 14 E0.P Adg (Am 14 Aco).code (mask [] st) (Agu Q)) fun st=>finish 0 E0.T [.tmp 6] [] Q st
theorem Awk(t2:Int)(t27:Bool)(u0 u1 u2:Int)(u3:LB)(u4 u5:LL)(u6 u7:Bool)(u8 u9 v0:Bool)(K:KK)(h:
 (Br (t27)
 (K .ret ⟨[(6,Ai 4)],[]⟩)
 (Call E0.P Ac6 [.imm (.agg [.int .i64 u0, .int .i64 u1, .int .i64 u2, .str u3, .sl .any 6 u4, .sl .any 7 u5])] [] fun r0 g0=>
 Ag (qW3 g0 r0)
 (Br (rB r0)
 (K .ret ⟨[(6,Ai 3)],[]⟩)
 (Let (bif decide (u0=(3:Int))then decide ((127:Int)<(↑u3.length:Int))else false) fun x1=>
 Br (x1 == false)
 (Let (bif decide (u0=(4:Int))then decide ((65535:Int)<(↑u3.length:Int))else false) fun x2=>
 Let (x2) fun x3=>
 Br (x3)
 (K .ret ⟨[(6,Ai 8)],[]⟩)
 (Let (bif decide (u0=(8:Int))then decide ((1048576:Int)<(↑u3.length:Int))else false) fun x4=>
 Br (x4)
 (K .ret ⟨[(6,Ai 7)],[]⟩)
 (Let (bif u9 then true else v0) fun x5=>
 Let (bif x5 then decide ((64:Int)≤t2)else false) fun x6=>
 Br (x6)
 (K .ret ⟨[(6,Ai 9)],[]⟩)
 (K .normal ⟨[],[]⟩))))
 (Ag ((!false)=true)
 (Let (true) fun x7=>
 Br (x7)
 (K .ret ⟨[(6,Ai 8)],[]⟩)
 (Let (bif decide (u0=(8:Int))then decide ((1048576:Int)<(↑u3.length:Int))else false) fun x8=>
 Br (x8)
 (K .ret ⟨[(6,Ai 7)],[]⟩)
 (Let (bif u9 then true else v0) fun x9=>
 Let (bif x9 then decide ((64:Int)≤t2)else false) fun x10=>
 Br (x10)
 (K .ret ⟨[(6,Ai 9)],[]⟩)
 (K .normal ⟨[],[]⟩)))))))))):J6 t2 t27 u0 u1 u2 u3 u4 u5 u6 u7 u8 u9 v0 K:=cR [] h
theorem Ava(K:KK)(h:
 (K .ret ⟨[(6,Ai 0)],[]⟩)):Amx K:=cR [] h
theorem Axd(Q:QQ)(t6:Int)(h:
 (Q (Ai t6) [])):Agu Q .ret ⟨[(6,Ai t6)],[]⟩:=kq h
theorem Axe(Q:QQ)(t6:Int)(h:
 (Q (Ai t6) [])):Ho Q .ret ⟨[(6,Ai t6)],[]⟩:=kq h
theorem Axf(Q:QQ)(h:
 (Amx (Agu Q))):Ho Q .normal ⟨[],[]⟩:=kq h
theorem A8m:Be E0.P 45 Aco.code Adg [.tmp 6]:=fq Tryz.func45
theorem A1e(a0_0 a0_1 a0_2:Int)(a0_3:LB)(a0_4 a0_5:LL)(a1:Bool)(a2:Int)(Q:QQ)(h:
 (Call E0.P Ac7 [Ai a0_0] [] fun r0 g0=>
 Ag (g0=[]∧
 r0=
 .tup
 [.imm
 (IV.agg
 [.bool (gB (Ad (rT r0 0)) 0), .bool (gB (Ad (rT r0 0)) 1),
 .bool (gB (Ad (rT r0 0)) 2), .bool (gB (Ad (rT r0 0)) 3),
 .bool (gB (Ad (rT r0 0)) 4)]),
 .imm (.bool (rB (rT r0 1)))])
 (Br ((!rB (rT r0 1)) == false)
 (Let (bif decide (a0_0=(8:Int))then !a1 else false) fun x1=>
 Let (x1) fun x2=>
 Br (x2)
 (Q (Ai 10) [])
 (Call E0.P Ub [.imm (.agg [.int .i64 a0_0, .int .i64 a0_1, .int .i64 a0_2, .str a0_3, .sl .any 6 a0_4, .sl .any 7 a0_5]), .imm (.agg [.bool (gB (Ad (rT r0 0)) 0), .bool (gB (Ad (rT r0 0)) 1), .bool (gB (Ad (rT r0 0)) 2), .bool (gB (Ad (rT r0 0)) 3), .bool (gB (Ad (rT r0 0)) 4)])] [] fun r3 g3=>
 Ag (qW3 g3 r3)
 (Br (rB r3 == false)
 (Br (decide (a0_0=(3:Int)) == true)
 (Call E0.P Wt [As a0_3] [] fun r4 g4=>
 Ag (qW3 g4 r4)
 (Let (rB r4) fun x5=>
 Let (x5) fun x6=>
 J6 a2 x6 a0_0 a0_1 a0_2 a0_3 a0_4 a0_5 (gB (Ad (rT r0 0)) 0) (gB (Ad (rT r0 0)) 1) (gB (Ad (rT r0 0)) 2) (gB (Ad (rT r0 0)) 3) (gB (Ad (rT r0 0)) 4) (Ho Q)))
 (Ag ((!true)=false)
 (Let (false) fun x7=>
 Let (x7) fun x8=>
 J6 a2 x8 a0_0 a0_1 a0_2 a0_3 a0_4 a0_5 (gB (Ad (rT r0 0)) 0) (gB (Ad (rT r0 0)) 1) (gB (Ad (rT r0 0)) 2) (gB (Ad (rT r0 0)) 3) (gB (Ad (rT r0 0)) 4) (Ho Q))))
 (Ag ((!false)=true)
 (Let (true) fun x9=>
 J6 a2 x9 a0_0 a0_1 a0_2 a0_3 a0_4 a0_5 (gB (Ad (rT r0 0)) 0) (gB (Ad (rT r0 0)) 1) (gB (Ad (rT r0 0)) 2) (gB (Ad (rT r0 0)) 3) (gB (Ad (rT r0 0)) 4) (Ho Q))))))
 (Ag ((!false)=true)
 (Let (true) fun x10=>
 Br (x10)
 (Q (Ai 10) [])
 (Call E0.P Ub [.imm (.agg [.int .i64 a0_0, .int .i64 a0_1, .int .i64 a0_2, .str a0_3, .sl .any 6 a0_4, .sl .any 7 a0_5]), .imm (.agg [.bool (gB (Ad (rT r0 0)) 0), .bool (gB (Ad (rT r0 0)) 1), .bool (gB (Ad (rT r0 0)) 2), .bool (gB (Ad (rT r0 0)) 3), .bool (gB (Ad (rT r0 0)) 4)])] [] fun r11 g11=>
 Ag (qW3 g11 r11)
 (Br (rB r11 == false)
 (Br (decide (a0_0=(3:Int)) == true)
 (Call E0.P Wt [As a0_3] [] fun r12 g12=>
 Ag (qW3 g12 r12)
 (Let (rB r12) fun x13=>
 Let (x13) fun x14=>
 J6 a2 x14 a0_0 a0_1 a0_2 a0_3 a0_4 a0_5 (gB (Ad (rT r0 0)) 0) (gB (Ad (rT r0 0)) 1) (gB (Ad (rT r0 0)) 2) (gB (Ad (rT r0 0)) 3) (gB (Ad (rT r0 0)) 4) (Ho Q)))
 (Ag ((!true)=false)
 (Let (false) fun x15=>
 Let (x15) fun x16=>
 J6 a2 x16 a0_0 a0_1 a0_2 a0_3 a0_4 a0_5 (gB (Ad (rT r0 0)) 0) (gB (Ad (rT r0 0)) 1) (gB (Ad (rT r0 0)) 2) (gB (Ad (rT r0 0)) 3) (gB (Ad (rT r0 0)) 4) (Ho Q))))
 (Ag ((!false)=true)
 (Let (true) fun x17=>
 J6 a2 x17 a0_0 a0_1 a0_2 a0_3 a0_4 a0_5 (gB (Ad (rT r0 0)) 0) (gB (Ad (rT r0 0)) 1) (gB (Ad (rT r0 0)) 2) (gB (Ad (rT r0 0)) 3) (gB (Ad (rT r0 0)) 4) (Ho Q)))))))))):Call E0.P Aj9 [.imm (.agg [.int .i64 a0_0, .int .i64 a0_1, .int .i64 a0_2, .str a0_3, .sl .any 6 a0_4, .sl .any 7 a0_5]),Ab a1,Ai a2] [] Q:=fR 0 A8m h
noncomputable def A6n:AC:=(A8 [] [2] (codeOf Tryz.f46) 0).1
abbrev A8e:Nat:=6
theorem A8l:Be E0.P 46 A6n.code A8e [.tmp 2]:=fq Tryz.func46
theorem A1d(a0:LB)(Q:QQ)(h:
 (Call E0.P Ac5 [As a0, .imm (.int .u8 ((0:Int)))] [] fun r0 g0=>
 Ag (qW0 g0 r0)
 (Q (Ab (decide ((0:Int)≤rI r0))) []))):Call E0.P Wt [As a0] [] Q:=fR 0 A8l h
noncomputable def Axk:AC:=(A8 [] [4] (codeOf Tryz.f74) 0).1
abbrev Ax6:Nat:=55
theorem Aye:Be E0.P 74 Axk.code Ax6 [.tmp 4]:=fq Tryz.func74
theorem Ar7(a0_0 a0_1 a0_2:Int)(a0_3:LB)(a0_4 a0_5:LL)(a1_0 a1_1:Bool)(a1_2 a1_3 a1_4:Bool)(Q:QQ)(h:
 (Let (bif !a1_0 then !decide (a0_1=(0:Int))else false) fun x0=>
 Br (x0 == false)
 (Let (bif !a1_1 then !decide (a0_2=(0:Int))else false) fun x1=>
 Let (x1) fun x2=>
 Br (x2 == false)
 (Let (bif !a1_2 then !a0_3 == []else false) fun x3=>
 Let (x3) fun x4=>
 Br (x4 == false)
 (Let (bif !a1_3 then decide ((0:Int)<(↑a0_4.length:Int))else false) fun x5=>
 Let (x5) fun x6=>
 Br (x6 == false)
 (Let (bif !a1_4 then decide ((0:Int)<(↑a0_5.length:Int))else false) fun x7=>
 Let (x7) fun x8=>
 Q (Ab x8) [])
 (Ag ((!false)=true)
 (Let (true) fun x9=>
 Q (Ab x9) [])))
 (Ag ((!false)=true)
 (Let (true) fun x10=>
 Br (x10 == false)
 (Let (bif !a1_4 then decide ((0:Int)<(↑a0_5.length:Int))else false) fun x11=>
 Let (x11) fun x12=>
 Q (Ab x12) [])
 (Ag ((!false)=true)
 (Let (true) fun x13=>
 Q (Ab x13) [])))))
 (Ag ((!false)=true)
 (Let (true) fun x14=>
 Br (x14 == false)
 (Let (bif !a1_3 then decide ((0:Int)<(↑a0_4.length:Int))else false) fun x15=>
 Let (x15) fun x16=>
 Br (x16 == false)
 (Let (bif !a1_4 then decide ((0:Int)<(↑a0_5.length:Int))else false) fun x17=>
 Let (x17) fun x18=>
 Q (Ab x18) [])
 (Ag ((!false)=true)
 (Let (true) fun x19=>
 Q (Ab x19) [])))
 (Ag ((!false)=true)
 (Let (true) fun x20=>
 Br (x20 == false)
 (Let (bif !a1_4 then decide ((0:Int)<(↑a0_5.length:Int))else false) fun x21=>
 Let (x21) fun x22=>
 Q (Ab x22) [])
 (Ag ((!false)=true)
 (Let (true) fun x23=>
 Q (Ab x23) [])))))))
 (Ag ((!false)=true)
 (Let (true) fun x24=>
 Br (x24 == false)
 (Let (bif !a1_2 then !a0_3 == []else false) fun x25=>
 Let (x25) fun x26=>
 Br (x26 == false)
 (Let (bif !a1_3 then decide ((0:Int)<(↑a0_4.length:Int))else false) fun x27=>
 Let (x27) fun x28=>
 Br (x28 == false)
 (Let (bif !a1_4 then decide ((0:Int)<(↑a0_5.length:Int))else false) fun x29=>
 Let (x29) fun x30=>
 Q (Ab x30) [])
 (Ag ((!false)=true)
 (Let (true) fun x31=>
 Q (Ab x31) [])))
 (Ag ((!false)=true)
 (Let (true) fun x32=>
 Br (x32 == false)
 (Let (bif !a1_4 then decide ((0:Int)<(↑a0_5.length:Int))else false) fun x33=>
 Let (x33) fun x34=>
 Q (Ab x34) [])
 (Ag ((!false)=true)
 (Let (true) fun x35=>
 Q (Ab x35) [])))))
 (Ag ((!false)=true)
 (Let (true) fun x36=>
 Br (x36 == false)
 (Let (bif !a1_3 then decide ((0:Int)<(↑a0_4.length:Int))else false) fun x37=>
 Let (x37) fun x38=>
 Br (x38 == false)
 (Let (bif !a1_4 then decide ((0:Int)<(↑a0_5.length:Int))else false) fun x39=>
 Let (x39) fun x40=>
 Q (Ab x40) [])
 (Ag ((!false)=true)
 (Let (true) fun x41=>
 Q (Ab x41) [])))
 (Ag ((!false)=true)
 (Let (true) fun x42=>
 Br (x42 == false)
 (Let (bif !a1_4 then decide ((0:Int)<(↑a0_5.length:Int))else false) fun x43=>
 Let (x43) fun x44=>
 Q (Ab x44) [])
 (Ag ((!false)=true)
 (Let (true) fun x45=>
 Q (Ab x45) [])))))))))):Call E0.P Ub [.imm (.agg [.int .i64 a0_0, .int .i64 a0_1, .int .i64 a0_2, .str a0_3, .sl .any 6 a0_4, .sl .any 7 a0_5]), .imm (.agg [.bool a1_0, .bool a1_1, .bool a1_2, .bool a1_3, .bool a1_4])] [] Q:=fR 0 Aye h
noncomputable def Azm:AC:=(A8 [] [2] (codeOf Tryz.f75) 0).1
abbrev A0d:Nat:=41
theorem A0m:Be E0.P 75 Azm.code A0d [.tmp 2]:=fq Tryz.func75
theorem Avh(a0_0 a0_1 a0_2:Int)(a0_3:LB)(a0_4 a0_5:LL)(Q:QQ)(h:
 (Br (decide (a0_0=(1:Int)))
 (Ag ((0:Int)≤(1:Int))
 (Q (.imm (.bool (!decide (a0_1.fdiv ((2:Int) ^ 1)=(0:Int))))) []))
 (Br (decide (a0_0=(2:Int)))
 (Let (bif decide (a0_1<(-2147483647:Int))then true else decide ((2147483647:Int)<a0_1)) fun x0=>
 Q (Ab x0) [])
 (Br (decide (a0_0=(7:Int)))
 (Let (bif decide (a0_1<(1:Int))then true else decide ((8388607:Int)<a0_1)) fun x1=>
 Let (bif x1 then true else decide (a0_2<(0:Int))) fun x2=>
 Let (bif x2 then true else decide ((65535:Int)<a0_2)) fun x3=>
 Q (Ab x3) [])
 (Q (Ab false) []))))):Call E0.P Ac6 [.imm (.agg [.int .i64 a0_0, .int .i64 a0_1, .int .i64 a0_2, .str a0_3, .sl .any 6 a0_4, .sl .any 7 a0_5])] [] Q:=fR 0 A0m h
noncomputable def A4v:AC:=(A8 [] [2] (codeOf Tryz.f37) 0).1
abbrev A43:Nat:=5
theorem A5a:Be E0.P 37 A4v.code A43 [.tmp 2]:=fq Tryz.func37
theorem Ayy(a0:Int)(Q:QQ)(h:
 (Call E0.P Ale [Ai a0] [] fun r0 g0=>
 Ag (qW2 g0 r0)
 (Q (As (rS r0)) []))):Call E0.P Pg [Ai a0] [] Q:=fR 0 A5a h
end
end Go.Proofs.Sim.Se

import Derived.Test.YtaggabcajidnnaaGreatDoorSeatBase
set_option maxRecDepth 100000
set_option maxHeartbeats 4000000
namespace Go.Proofs.Sim.Se
open Go Go.Proofs Go.Proofs.Sim Go.IntKind
noncomputable section
abbrev qW0(G:Heap)(R:AV):Prop:=G=[]∧R= .imm (.int .i64 (rI R))
abbrev qW1(G:Heap)(R:AV):Prop:=G=[]∧R= .imm (IV.agg [.int .i64 (gI (Ac R) 0), .int .i64 (gI (Ac R) 1), .int .i64 (gI (Ac R) 2), .str (gS (Ac R) 3), .sl SK.any 6 (gR (Ac R) 4), .sl SK.any 7 (gR (Ac R) 5)])
abbrev qW2(G:Heap)(R:AV):Prop:=G=[]∧R= .imm (.str (rS R))
abbrev qW3(G:Heap)(R:AV):Prop:=G=[]∧R= .imm (.bool (rB R))
abbrev qW4(G:Heap)(R:AV):Prop:=G=[]∧R= .imm (.int .u8 (rI R))
noncomputable def Beg:AC:=(A7 [] [2,3] (codeOf Tryz.f36) 0).1
abbrev Bep:Nat:=13
theorem Be2:Bd E0.P 36 Beg.code Bep [.tmp 2, .tmp 3]:=fq Tryz.func36
theorem A6z(a0_0 a0_1 a0_2:Int)(a0_3:LB)(a0_4 a0_5:LL)(Q:QQ)(h:
 (Call E0.P Ag6 [.imm (.agg [.int .i64 a0_0, .int .i64 a0_1, .int .i64 a0_2, .str a0_3, .sl .any 6 a0_4, .sl .any 7 a0_5]),Ab false] [] fun r0 g0=>
 Ag (qW0 g0 r0)
 (Br (!decide (rI r0=(0:Int)))
 (Q (.tup [.imm (.str []),Ai (rI r0)]) [])
 (Call E0.P Gq [.imm (.agg [.int .i64 a0_0, .int .i64 a0_1, .int .i64 a0_2, .str a0_3, .sl .any 6 a0_4, .sl .any 7 a0_5])] [] fun r1 g1=>
 Ag (qW1 g1 r1)
 (Call E0.P Tv [.imm (.agg [.int .i64 (gI (Ac r1) 0), .int .i64 (gI (Ac r1) 1), .int .i64 (gI (Ac r1) 2), .str (gS (Ac r1) 3), .sl .any 6 (gR (Ac r1) 4), .sl .any 7 (gR (Ac r1) 5)])] [] fun r2 g2=>
 Ag (qW2 g2 r2)
 (Q (.tup [As (rS r2),Ai 0]) [])))))):Call E0.P Ake [.imm (.agg [.int .i64 a0_0, .int .i64 a0_1, .int .i64 a0_2, .str a0_3, .sl .any 6 a0_4, .sl .any 7 a0_5])] [] Q:=fR 0 Be2 h
noncomputable def Gf:AC:=(A7 [(4,[0,3,8,9],[]),(6,[3],[]),(10,[0,3,5,8,9,25],[0,3,5,8,9]),(12,[0,3,8,9],[]),(13,[0,3,5,8,9],[0,3,8,9]),(16,[0,3,8,9],[0,3,8,9]),(17,[3],[])] [2] (codeOf Tryz.f80) 0).1
abbrev Gh:Nat:=41
def K9(t0:LB)(t8 t9:Int)(u0:LL)(K:KK):Prop:=Ba 4 E0.P Gh (A9 4 Gf).code ⟨[(0,As t0),(3, .ptr nL3 0),(8,Ai t8),(9,Ai t9)],[(nL3, .blk Bj [.self nL3, .own (nL3.cell 1)]),((nL3.cell 1), .arr (Am+2) true 1 u0)]⟩ K
def Wq(t0:LB)(t5 t8 t9:Int)(t25:Bool)(u0:LL)(K:KK):Prop:=Ao 10 E0.P Gh (Ah 10 Gf).code ⟨[(0,As t0),(3, .ptr nL3 0),(5, .imm (.int .u8 t5)),(8,Ai t8),(9,Ai t9),(25,Ab t25)],[(nL3, .blk Bj [.self nL3, .own (nL3.cell 1)]),((nL3.cell 1), .arr (Am+2) true 1 u0)]⟩ K
def Aps(u0:LL)(K:KK):Prop:=Ao 17 E0.P Gh (Ah 17 Gf).code ⟨[(3, .ptr nL3 0)],[(nL3, .blk Bj [.self nL3, .own (nL3.cell 1)]),((nL3.cell 1), .arr (Am+2) true 1 u0)]⟩ K
def Ws(t0:LB)(t8 t9:Int)(u0:LL)(K:KK):Prop:=Ao 16 E0.P Gh (Ah 16 Gf).code ⟨[(0,As t0),(3, .ptr nL3 0),(8,Ai t8),(9,Ai t9)],[(nL3, .blk Bj [.self nL3, .own (nL3.cell 1)]),((nL3.cell 1), .arr (Am+2) true 1 u0)]⟩ K
def Apr(t0:LB)(t5 t8 t9:Int)(u0:LL)(K:KK):Prop:=Ao 13 E0.P Gh (Ah 13 Gf).code ⟨[(0,As t0),(3, .ptr nL3 0),(5, .imm (.int .u8 t5)),(8,Ai t8),(9,Ai t9)],[(nL3, .blk Bj [.self nL3, .own (nL3.cell 1)]),((nL3.cell 1), .arr (Am+2) true 1 u0)]⟩ K
def Agu(Q:QQ):KK:=kE fun st=>finish 0 E0.T [.tmp 2] [] Q st
def Asl(Q:QQ):KK:=kF 0 (fun st=>Ao 17 E0.P Gh (Ah 17 Gf).code (mask [3] st) (Agu Q)) fun st=>finish 0 E0.T [.tmp 2] [] Q st
def Om(K:KK):Ex→St→Prop
 | .normal,st=>Ba 4 E0.P Gh (A9 4 Gf).code (mask [0,3,8,9] st) K
 | .exit i,st=>K (.exit i) st
 | .goto i,st=>K (.goto i) st
 | .ret,st=>K .ret st
def Agv(K:KK):KK:=kC 1 (fun st=>Ao 16 E0.P Gh (Ah 16 Gf).code (mask [0,3,8,9] st) (Om K)) K
def S9(K:KK):Ex→St→Prop
 | .normal,st=>Ao 13 E0.P Gh (Ah 13 Gf).code (mask [0,3,5,8,9] st) (Agv K)
 | .exit i,st=>(match (i.beq 1:Bool)with
 |true=>Ao 16 E0.P Gh (Ah 16 Gf).code (mask [0,3,8,9] st) (Om K)
 |false=>K (.exit i) st)
 | .goto i,st=>K (.goto i) st
 | .ret,st=>K .ret st
theorem Ak3(t0:LB)(t8 t9:Int)(u0:LL)(K:KK)(h:
 (Br (decide (t9<t8))
 (Ag ((0:Int)≤t9∧t9<(↑t0.length:Int))
 (Call E0.P Ab6 [.imm (.int .u8 ((↑(t0.getD t9.toNat 0).toNat:Int)))] [] fun r0 g0=>
 Ag (qW3 g0 r0)
 (Br (rB r0 == true)
 (Call E0.P Nn [.imm (.int .u8 ((↑(t0.getD t9.toNat 0).toNat:Int)))] [] fun r1 g1=>
 Ag (qW0 g1 r1)
 (Let (decide (rI r1=(2:Int))) fun x2=>
 Let (bif x2 then !decide ((↑(t0.getD t9.toNat 0).toNat:Int)=(35:Int))else false) fun x3=>
 Wq t0 ((↑(t0.getD t9.toNat 0).toNat:Int)) t8 t9 x3 u0 (S9 K)))
 (Ag ((!true)=false)
 (Let (false) fun x4=>
 Let (bif x4 then !decide ((↑(t0.getD t9.toNat 0).toNat:Int)=(35:Int))else false) fun x5=>
 Wq t0 ((↑(t0.getD t9.toNat 0).toNat:Int)) t8 t9 x5 u0 (S9 K))))))
 (K (.exit 0) ⟨[(3, .ptr nL3 0)],[(nL3, .blk Bj [.self nL3, .own (nL3.cell 1)]),((nL3.cell 1), .arr (Am+2) true 1 u0)]⟩))):K9 t0 t8 t9 u0 K:=lR [0,3,8,9] h
theorem Ax1(t0:LB)(t5 t8 t9:Int)(t25:Bool)(u0:LL)(K:KK)(h:
 (Br (t25)
 (Ag ((u0.length+1)*1≤140737488355328∧u0.length+1≤140737488355328)
 (K (.exit (1)) ⟨[(0,As t0),(3, .ptr nL3 0),(8,Ai t8),(9,Ai t9)],[(nL3, .blk Bj [.self nL3, .own (nL3.cell 1)]),((nL3.cell 1), .arr (Am+2) true 1 (u0++[[IV.int .u8 t5]]))]⟩))
 (K .normal ⟨[(0,As t0),(3, .ptr nL3 0),(5, .imm (.int .u8 t5)),(8,Ai t8),(9,Ai t9)],[(nL3, .blk Bj [.self nL3, .own (nL3.cell 1)]),((nL3.cell 1), .arr (Am+2) true 1 u0)]⟩))):Wq t0 t5 t8 t9 t25 u0 K:=cR [0,3,5,8,9] h
theorem Ax4(u0:LL)(K:KK)(h:
 (Ag (((↑u0.length:Int)=(↑u0.length:Int)∧u0.length≤9223372036854775807)∧
 ∀(r:List IV),r∈u0→Be [.int .u8] r=true)
 (K .ret ⟨[(2,As (List.map (fun r=>UInt8.ofNat (gI r 0).toNat) u0))],[]⟩))):Aps u0 K:=cR [] h
theorem Ax3(t0:LB)(t8 t9:Int)(u0:LL)(K:KK)(h:
 (K .normal ⟨[(0,As t0),(3, .ptr nL3 0),(8,Ai t8),(9,Ai (i64.wrap (t9+(1:Int))))],[(nL3, .blk Bj [.self nL3, .own (nL3.cell 1)]),((nL3.cell 1), .arr (Am+2) true 1 u0)]⟩)):Ws t0 t8 t9 u0 K:=cR [0,3,8,9] h
theorem Ax2(t0:LB)(t5 t8 t9:Int)(u0:LL)(K:KK)(h:
 (Ag ((u0.length+1)*1≤140737488355328∧u0.length+1≤140737488355328)
 (Ag ((0:Int)≤(4:Int))
 (Call E0.P Oo [.imm (.int .i64 (i64.wrap (t5.fdiv ((2:Int) ^ 4))))] [] fun r0 g0=>
 Ag (qW4 g0 r0)
 (Ag (((u0++[[IV.int .u8 (35:Int)]]).length+1)*1≤140737488355328∧
 (u0++[[IV.int .u8 (35:Int)]]).length+1≤140737488355328)
 (Call E0.P Oo [.imm (.int .i64 (i64.wrap (IntKind.u8.wrap (↑(BitVec.ofInt (8:Nat) t5 &&& BitVec.ofInt (8:Nat) (15:Int)).toNat:Int))))] [] fun r1 g1=>
 Ag (qW4 g1 r1)
 (Ag (((u0++[[IV.int .u8 (35:Int)]]++[[IV.int .u8 (rI r0)]]).length+1)*1≤
 140737488355328∧
 (u0++[[IV.int .u8 (35:Int)]]++[[IV.int .u8 (rI r0)]]).length+1≤
 140737488355328)
 (K .normal ⟨[(0,As t0),(3, .ptr nL3 0),(8,Ai t8),(9,Ai t9)],[(nL3, .blk Bj [.self nL3, .own (nL3.cell 1)]),((nL3.cell 1), .arr (Am+2) true 1 (u0++[[IV.int .u8 (35:Int)]]++[[IV.int .u8 (rI r0)]]++[[IV.int .u8 (rI r1)]]))]⟩)))))))):Apr t0 t5 t8 t9 u0 K:=cR [0,3,8,9] h
theorem A14(Q:QQ)(t2:LB)(h:
 (Q (As t2) [])):Agu Q .ret ⟨[(2,As t2)],[]⟩:=kq h
theorem A15(Q:QQ)(u0:LL)(h:
 (Aps u0 (Agu Q))):Asl Q (.exit 0) ⟨[(3, .ptr nL3 0)],[(nL3, .blk Bj [.self nL3, .own (nL3.cell 1)]),((nL3.cell 1), .arr (Am+2) true 1 u0)]⟩:=kq h
theorem A16(K:KK)(t0:LB)(t8 t9:Int)(u0:LL)(h:
 (K9 t0 t8 t9 u0 K)):Om K .normal ⟨[(0,As t0),(3, .ptr nL3 0),(8,Ai t8),(9,Ai t9)],[(nL3, .blk Bj [.self nL3, .own (nL3.cell 1)]),((nL3.cell 1), .arr (Am+2) true 1 u0)]⟩:=kq h
theorem A17(K:KK)(t0:LB)(t8 t9:Int)(u0:LL)(h:
 (Ws t0 t8 t9 u0 (Om K))):Agv K .normal ⟨[(0,As t0),(3, .ptr nL3 0),(8,Ai t8),(9,Ai t9)],[(nL3, .blk Bj [.self nL3, .own (nL3.cell 1)]),((nL3.cell 1), .arr (Am+2) true 1 u0)]⟩:=kq h
theorem A18(K:KK)(t0:LB)(t8 t9:Int)(u0:LL)(h:
 (Ws t0 t8 t9 u0 (Om K))):S9 K (.exit (1)) ⟨[(0,As t0),(3, .ptr nL3 0),(8,Ai t8),(9,Ai t9)],[(nL3, .blk Bj [.self nL3, .own (nL3.cell 1)]),((nL3.cell 1), .arr (Am+2) true 1 u0)]⟩:=kq h
theorem A19(K:KK)(t0:LB)(t5 t8 t9:Int)(u0:LL)(h:
 (Apr t0 t5 t8 t9 u0 (Agv K))):S9 K .normal ⟨[(0,As t0),(3, .ptr nL3 0),(5, .imm (.int .u8 t5)),(8,Ai t8),(9,Ai t9)],[(nL3, .blk Bj [.self nL3, .own (nL3.cell 1)]),((nL3.cell 1), .arr (Am+2) true 1 u0)]⟩:=kq h
theorem Be1:Bd E0.P 80 Gf.code Gh [.tmp 2]:=fq Tryz.func80
theorem A6y(a0:LB)(Q:QQ)(h:
 (Ag (1≤140737488355328∧1≤140737488355328)
 (K9 a0 ((↑a0.length:Int)) ((0:Int)) ([]++[[IV.int .u8 (47:Int)]]) (Asl Q)))):Call E0.P Ab5 [As a0] [] Q:=fR 0 Be1 h
noncomputable def Zj:AC:=(A7 [(4,[0,3,8,9],[]),(6,[3],[]),(16,[3],[])] [2] (codeOf Tryz.f81) 0).1
abbrev Zw:Nat:=37
def M7(t0:LB)(t8 t9:Int)(u0:LL)(K:KK):Prop:=Ba 4 E0.P Zw (A9 4 Zj).code ⟨[(0,As t0),(3, .ptr nL3 0),(8,Ai t8),(9,Ai t9)],[(nL3, .blk Bj [.self nL3, .own (nL3.cell 1)]),((nL3.cell 1), .arr (Am+2) true 1 u0)]⟩ K
def Amt(u0:LL)(K:KK):Prop:=Ao 16 E0.P Zw (Ah 16 Zj).code ⟨[(3, .ptr nL3 0)],[(nL3, .blk Bj [.self nL3, .own (nL3.cell 1)]),((nL3.cell 1), .arr (Am+2) true 1 u0)]⟩ K
def Aei(Q:QQ):KK:=kE fun st=>finish 0 E0.T [.tmp 2] [] Q st
def Q5(Q:QQ):KK:=kF 0 (fun st=>Ao 16 E0.P Zw (Ah 16 Zj).code (mask [3] st) (Aei Q)) fun st=>finish 0 E0.T [.tmp 2] [] Q st
theorem Air(t0:LB)(t8 t9:Int)(u0:LL)(K:KK)(h:
 (Br (decide (t9<t8))
 (Ag ((0:Int)≤t9∧t9<(↑t0.length:Int))
 (Call E0.P Ab6 [.imm (.int .u8 ((↑(t0.getD t9.toNat 0).toNat:Int)))] [] fun r0 g0=>
 Ag (qW3 g0 r0)
 (Br (!rB r0)
 (Call E0.P Ag2 [As t0] [] fun r1 g1=>
 Ag (qW2 g1 r1)
 (Ag ((↑((1:Nat)+(rS r1).length):Int)≤(9223372036854775807:Int))
 (K .ret ⟨[(2,As ([(60:UInt8)]++rS r1))],[]⟩)))
 (Let (bif decide ((↑(t0.getD t9.toNat 0).toNat:Int)=(40:Int))then true
 else decide ((↑(t0.getD t9.toNat 0).toNat:Int)=(41:Int))) fun x2=>
 Let (bif x2 then true else decide ((↑(t0.getD t9.toNat 0).toNat:Int)=(92:Int))) fun x3=>
 Br (x3)
 (Ag ((u0.length+1)*1≤140737488355328∧u0.length+1≤140737488355328)
 (Ag (((u0++[[IV.int .u8 (92:Int)]]).length+1)*1≤140737488355328∧
 (u0++[[IV.int .u8 (92:Int)]]).length+1≤140737488355328)
 (M7 t0 t8 (i64.wrap (t9+(1:Int))) (u0++[[IV.int .u8 (92:Int)]]++[[IV.int .u8 (↑(t0.getD t9.toNat 0).toNat:Int)]]) K)))
 (Ag ((u0.length+1)*1≤140737488355328∧u0.length+1≤140737488355328)
 (M7 t0 t8 (i64.wrap (t9+(1:Int))) (u0++[[IV.int .u8 (↑(t0.getD t9.toNat 0).toNat:Int)]]) K))))))
 (K (.exit 0) ⟨[(3, .ptr nL3 0)],[(nL3, .blk Bj [.self nL3, .own (nL3.cell 1)]),((nL3.cell 1), .arr (Am+2) true 1 u0)]⟩))):M7 t0 t8 t9 u0 K:=lR [0,3,8,9] h
theorem Awu(u0:LL)(K:KK)(h:
 (Ag ((u0.length+1)*1≤140737488355328∧u0.length+1≤140737488355328)
 (Ag (((↑(u0++[[IV.int .u8 (41:Int)]]).length:Int)=
 (↑(u0++[[IV.int .u8 (41:Int)]]).length:Int)∧
 (u0++[[IV.int .u8 (41:Int)]]).length≤9223372036854775807)∧
 ∀(r:List IV),r∈u0++[[IV.int .u8 (41:Int)]]→Be [.int .u8] r=true)
 (K .ret ⟨[(2,As (List.map (fun r=>UInt8.ofNat (gI r 0).toNat) (u0++[[IV.int .u8 (41:Int)]])))],[]⟩)))):Amt u0 K:=cR [] h
theorem Ayw(Q:QQ)(t2:LB)(h:
 (Q (As t2) [])):Aei Q .ret ⟨[(2,As t2)],[]⟩:=kq h
theorem Ayx(Q:QQ)(t2:LB)(h:
 (Q (As t2) [])):Q5 Q .ret ⟨[(2,As t2)],[]⟩:=kq h
theorem Ayy(Q:QQ)(u0:LL)(h:
 (Amt u0 (Aei Q))):Q5 Q (.exit 0) ⟨[(3, .ptr nL3 0)],[(nL3, .blk Bj [.self nL3, .own (nL3.cell 1)]),((nL3.cell 1), .arr (Am+2) true 1 u0)]⟩:=kq h
theorem Bcf:Bd E0.P 81 Zj.code Zw [.tmp 2]:=fq Tryz.func81
theorem A3p(a0:LB)(Q:QQ)(h:
 (Ag (1≤140737488355328∧1≤140737488355328)
 (M7 a0 ((↑a0.length:Int)) ((0:Int)) ([]++[[IV.int .u8 (40:Int)]]) (Q5 Q)))):Call E0.P Ag8 [As a0] [] Q:=fR 0 Bcf h
noncomputable def Ba6:AC:=(A7 [] [4] (codeOf Tryz.f15) 0).1
abbrev Bby:Nat:=8
theorem Bcb:Bd E0.P 15 Ba6.code Bby [.tmp 4]:=fq Tryz.func15
theorem A3l(a0_0 a0_1 a0_2:Int)(a0_3:LB)(a0_4 a0_5:LL)(a1:Bool)(Q:QQ)(h:
 (Call E0.P Tu [.imm (.agg [.int .i64 a0_0, .int .i64 a0_1, .int .i64 a0_2, .str a0_3, .sl .any 6 a0_4, .sl .any 7 a0_5]),Ab a1,Ai 0] [] fun r0 g0=>
 Ag (qW0 g0 r0)
 (Q (Ai (rI r0)) []))):Call E0.P Ag6 [.imm (.agg [.int .i64 a0_0, .int .i64 a0_1, .int .i64 a0_2, .str a0_3, .sl .any 6 a0_4, .sl .any 7 a0_5]),Ab a1] [] Q:=fR 0 Bcb h
noncomputable def Gp:AC:=(A7 [(13,[1,3,33,34,35],[]),(15,[1,3],[]),(21,[1,3,48,49,50],[]),(23,[1,3],[]),(28,[1,1000003],[])] [2] (codeOf Tryz.f55) 0).1
abbrev Gr:Nat:=79
def Uv(t33r:LL)(t34 t35:Int)(u0 u1 u2:Int)(u3:LB)(u4 u5 u6:LL)(K:KK):Prop:=Ba 13 E0.P Gr (A9 13 Gp).code ⟨[(1, .ptr Ej 0),(3, .own nL3),(33,Al 6 t33r),(34,Ai t34),(35,Ai t35)],[(Ej, .blk Aa [Ai u0,Ai u1,Ai u2,As u3,Al 6 u4,Al 7 u5]),(nL3, .arr (Rn+2) true 1 u6)]⟩ K
def Uw(t48r:LL)(t49 t50:Int)(u0 u1 u2:Int)(u3:LB)(u4 u5 u6:LL)(K:KK):Prop:=Ba 21 E0.P Gr (A9 21 Gp).code ⟨[(1, .ptr Ej 0),(3, .own nL3),(48,Al 7 t48r),(49,Ai t49),(50,Ai t50)],[(Ej, .blk Aa [Ai u0,Ai u1,Ai u2,As u3,Al 6 u4,Al 7 u5]),(nL3, .arr (Rn+2) true 1 u6)]⟩ K
def K5(t3r:LL)(u0 u1 u2:Int)(u3:LB)(u4 u5:LL)(K:KK):Prop:=Ao 28 E0.P Gr (Ah 28 Gp).code ⟨[(1, .ptr Ej 0),(3,Al 1 t3r)],[(Ej, .blk Aa [Ai u0,Ai u1,Ai u2,As u3,Al 6 u4,Al 7 u5])]⟩ K
def D8(Q:QQ):KK:=kE fun st=>finish 0 E0.T [.tmp 2] [] Q st
def Ap0(Q:QQ):Ex→St→Prop
 | .normal,st=>Ao 28 E0.P Gr (Ah 28 Gp).code (mask [1,1000003] st) (D8 Q)
 | .exit i,st=>(match (i.beq 1:Bool)with
 |true=>Ao 28 E0.P Gr (Ah 28 Gp).code (mask [1,1000003] st) (D8 Q)
 |false=>(match (i.beq 0:Bool)with
 |true=>Ao 28 E0.P Gr (Ah 28 Gp).code (mask [1,1000003] st) (D8 Q)
 |false=>False))
 | .goto _,_=>False
 | .ret,st=>finish 0 E0.T [.tmp 2] [] Q st
def Ap1(Q:QQ):Ex→St→Prop
 | .normal,st=>Ao 28 E0.P Gr (Ah 28 Gp).code (mask [1,1000003] st) (D8 Q)
 | .exit i,st=>(match (i.beq 3:Bool)with
 |true=>Ao 28 E0.P Gr (Ah 28 Gp).code (mask [1,1000003] st) (D8 Q)
 |false=>(match (i.beq 0:Bool)with
 |true=>Ao 28 E0.P Gr (Ah 28 Gp).code (mask [1,1000003] st) (D8 Q)
 |false=>False))
 | .goto _,_=>False
 | .ret,st=>finish 0 E0.T [.tmp 2] [] Q st
theorem Agc(t33r:LL)(t34 t35:Int)(u0 u1 u2:Int)(u3:LB)(u4 u5 u6:LL)(K:KK)(h:
 (Br (decide (t35<t34))
 (Ag (((0:Int)≤t35∧t35<(↑t33r.length:Int))∧
 Be
 [.int .i64, .int .i64, .int .i64, .str, .sl 6 Aa,
 .sl 7 Ae]
 (t33r.getD t35.toNat [])=
 true)
 (Call E0.P Tv [.imm (.agg [.int .i64 (gI (t33r.getD t35.toNat []) 0), .int .i64 (gI (t33r.getD t35.toNat []) 1), .int .i64 (gI (t33r.getD t35.toNat []) 2), .str (gS (t33r.getD t35.toNat []) 3), .sl .any 6 (gR (t33r.getD t35.toNat []) 4), .sl .any 7 (gR (t33r.getD t35.toNat []) 5)])] [] fun r0 g0=>
 Ag (qW2 g0 r0)
 (Ag ((u6.length+1)*16≤140737488355328∧u6.length+1≤140737488355328)
 (Uv t33r t34 (i64.wrap (t35+(1:Int))) u0 u1 u2 u3 u4 u5 (u6++[[IV.str (rS r0)]]) K))))
 (K (.exit (1)) ⟨[(1, .ptr Ej 0),(3, .own nL3)],[(Ej, .blk Aa [Ai u0,Ai u1,Ai u2,As u3,Al 6 u4,Al 7 u5]),(nL3, .arr (Rn+2) true 1 u6)]⟩))):Uv t33r t34 t35 u0 u1 u2 u3 u4 u5 u6 K:=lR [1,3,33,34,35] h
theorem Agd(t48r:LL)(t49 t50:Int)(u0 u1 u2:Int)(u3:LB)(u4 u5 u6:LL)(K:KK)(h:
 (Br (decide (t50<t49))
 (Ag (((0:Int)≤t50∧t50<(↑t48r.length:Int))∧
 Be
 [.str, .int .i64, .int .i64, .int .i64, .str, .sl 6 Aa,
 .sl 7 Ae]
 (t48r.getD t50.toNat [])=
 true)
 (Call E0.P Ab5 [As (gS (t48r.getD t50.toNat []) 0)] [] fun r0 g0=>
 Ag (qW2 g0 r0)
 (Call E0.P Tv [.imm (.agg [.int .i64 (gI (t48r.getD t50.toNat []) 1), .int .i64 (gI (t48r.getD t50.toNat []) 2), .int .i64 (gI (t48r.getD t50.toNat []) 3), .str (gS (t48r.getD t50.toNat []) 4), .sl .any 6 (gR (t48r.getD t50.toNat []) 5), .sl .any 7 (gR (t48r.getD t50.toNat []) 6)])] [] fun r1 g1=>
 Ag (qW2 g1 r1)
 (Call E0.P Xk [.imm (.sl .any 1 [[IV.str (rS r0)],[.str (rS r1)]])] [] fun r2 g2=>
 Ag (qW2 g2 r2)
 (Ag ((u6.length+1)*16≤140737488355328∧u6.length+1≤140737488355328)
 (Uw t48r t49 (i64.wrap (t50+(1:Int))) u0 u1 u2 u3 u4 u5 (u6++[[IV.str (rS r2)]]) K))))))
 (K (.exit (3)) ⟨[(1, .ptr Ej 0),(3, .own nL3)],[(Ej, .blk Aa [Ai u0,Ai u1,Ai u2,As u3,Al 6 u4,Al 7 u5]),(nL3, .arr (Rn+2) true 1 u6)]⟩))):Uw t48r t49 t50 u0 u1 u2 u3 u4 u5 u6 K:=lR [1,3,48,49,50] h
theorem Awv(t3r:LL)(u0 u1 u2:Int)(u3:LB)(u4 u5:LL)(K:KK)(h:
 (Call E0.P Afi [Ai u0,Al 1 t3r] [] fun r0 g0=>
 Ag (qW2 g0 r0)
 (K .ret ⟨[(2,As (rS r0))],[]⟩))):K5 t3r u0 u1 u2 u3 u4 u5 K:=cR [] h
theorem Ayz(Q:QQ)(t2:LB)(h:
 (Q (As t2) [])):D8 Q .ret ⟨[(2,As t2)],[]⟩:=kq h
theorem Ay0(Q:QQ)(u0 u1 u2:Int)(u3:LB)(u4 u5 u6:LL)(h:
 (K5 u6 u0 u1 u2 u3 u4 u5 (D8 Q))):Ap0 Q (.exit (1)) ⟨[(1, .ptr Ej 0),(3, .own nL3)],[(Ej, .blk Aa [Ai u0,Ai u1,Ai u2,As u3,Al 6 u4,Al 7 u5]),(nL3, .arr (Rn+2) true 1 u6)]⟩:=kq h
theorem Ay1(Q:QQ)(u0 u1 u2:Int)(u3:LB)(u4 u5 u6:LL)(h:
 (K5 u6 u0 u1 u2 u3 u4 u5 (D8 Q))):Ap1 Q (.exit (3)) ⟨[(1, .ptr Ej 0),(3, .own nL3)],[(Ej, .blk Aa [Ai u0,Ai u1,Ai u2,As u3,Al 6 u4,Al 7 u5]),(nL3, .arr (Rn+2) true 1 u6)]⟩:=kq h
theorem Bcg:Bd E0.P 55 Gp.code Gr [.tmp 2]:=fq Tryz.func55
theorem A3q(a0_0 a0_1 a0_2:Int)(a0_3:LB)(a0_4 a0_5:LL)(Q:QQ)(h:
 (Br (decide (a0_0=(1:Int)))
 (Call E0.P Akf [Ai a0_1] [] fun r0 g0=>
 Ag (qW2 g0 r0)
 (Q (As (rS r0)) []))
 (Br (decide (a0_0=(2:Int)))
 (Call E0.P Qp [Ai a0_1] [] fun r1 g1=>
 Ag (qW2 g1 r1)
 (Q (As (rS r1)) []))
 (Br (decide (a0_0=(3:Int)))
 (Call E0.P Ab5 [As a0_3] [] fun r2 g2=>
 Ag (qW2 g2 r2)
 (Q (As (rS r2)) []))
 (Br (decide (a0_0=(4:Int)))
 (Call E0.P Ag8 [As a0_3] [] fun r3 g3=>
 Ag (qW2 g3 r3)
 (Q (As (rS r3)) []))
 (Br (decide (a0_0=(5:Int)))
 (Uv a0_4 ((↑a0_4.length:Int)) ((0:Int)) a0_0 a0_1 a0_2 a0_3 a0_4 a0_5 [] (Ap0 Q))
 (Br (decide (a0_0=(6:Int)))
 (Uw a0_5 ((↑a0_5.length:Int)) ((0:Int)) a0_0 a0_1 a0_2 a0_3 a0_4 a0_5 [] (Ap1 Q))
 (Br (decide (a0_0=(7:Int)))
 (Call E0.P Qp [Ai a0_1] [] fun r4 g4=>
 Ag (qW2 g4 r4)
 (Call E0.P Qp [Ai a0_2] [] fun r5 g5=>
 Ag (qW2 g5 r5)
 (K5 [[IV.str (rS r4)],[.str (rS r5)]] a0_0 a0_1 a0_2 a0_3 a0_4 a0_5 (D8 Q))))
 (K5 [] a0_0 a0_1 a0_2 a0_3 a0_4 a0_5 (D8 Q)))))))))):Call E0.P Tv [.imm (.agg [.int .i64 a0_0, .int .i64 a0_1, .int .i64 a0_2, .str a0_3, .sl .any 6 a0_4, .sl .any 7 a0_5])] [] Q:=fR 0 Bcg h
noncomputable def Beh:AC:=(A7 [] [2] (codeOf Tryz.f112) 0).1
abbrev Beq:Nat:=9
theorem Be3:Bd E0.P 112 Beh.code Beq [.tmp 2]:=fq Tryz.func112
theorem A60(a0:Int)(Q:QQ)(h:
 (Let (bif decide ((32:Int)≤a0)then decide (a0≤(126:Int))else false) fun x0=>
 Q (Ab x0) [])):Call E0.P Ab6 [.imm (.int .u8 a0)] [] Q:=fR 0 Be3 h
noncomputable def Ba3:AC:=(A7 [] [2] (codeOf Tryz.f114) 0).1
abbrev Bbv:Nat:=20
theorem Bb7:Bd E0.P 114 Ba3.code Bbv [.tmp 2]:=fq Tryz.func114
theorem A3h(a0:Int)(Q:QQ)(h:
 (Let (bif decide (a0<(0:Int))then true else decide ((15:Int)<a0)) fun x0=>
 Br (x0)
 (Q (.imm (.int .u8 ((0:Int)))) [])
 (Br (decide (a0<(10:Int)))
 (Q (.imm (.int .u8 (IntKind.u8.wrap (i64.wrap ((48:Int)+a0))))) [])
 (Q (.imm (.int .u8 (IntKind.u8.wrap (i64.wrap (i64.wrap ((65:Int)+a0) - (10:Int)))))) [])))):Call E0.P Oo [Ai a0] [] Q:=fR 0 Bb7 h
noncomputable def Zi:AC:=(A7 [(3,[0,3,6,7],[]),(5,[3],[]),(10,[3],[])] [2] (codeOf Tryz.f116) 0).1
abbrev Zv:Nat:=27
def Xa(t0:LB)(t6 t7:Int)(u0:LL)(K:KK):Prop:=Ba 3 E0.P Zv (A9 3 Zi).code ⟨[(0,As t0),(3, .ptr nL3 0),(6,Ai t6),(7,Ai t7)],[(nL3, .blk Bj [.self nL3, .own (nL3.cell 1)]),((nL3.cell 1), .arr (Am+2) true 1 u0)]⟩ K
def Amg(u0:LL)(K:KK):Prop:=Ao 10 E0.P Zv (Ah 10 Zi).code ⟨[(3, .ptr nL3 0)],[(nL3, .blk Bj [.self nL3, .own (nL3.cell 1)]),((nL3.cell 1), .arr (Am+2) true 1 u0)]⟩ K
def Ad1(Q:QQ):KK:=kE fun st=>finish 0 E0.T [.tmp 2] [] Q st
def Apu(Q:QQ):KK:=kF 0 (fun st=>Ao 10 E0.P Zv (Ah 10 Zi).code (mask [3] st) (Ad1 Q)) fun st=>finish 0 E0.T [.tmp 2] [] Q st
theorem Ain(t0:LB)(t6 t7:Int)(u0:LL)(K:KK)(h:
 (Br (decide (t7<t6))
 (Ag ((0:Int)≤t7∧t7<(↑t0.length:Int))
 (Ag ((0:Int)≤(4:Int))
 (Call E0.P Oo [.imm (.int .i64 (i64.wrap ((↑(t0.getD t7.toNat 0).toNat:Int).fdiv ((2:Int) ^ 4))))] [] fun r0 g0=>
 Ag (qW4 g0 r0)
 (Ag ((u0.length+1)*1≤140737488355328∧u0.length+1≤140737488355328)
 (Ag ((0:Int)≤t7∧t7<(↑t0.length:Int))
 (Call E0.P Oo [.imm (.int .i64 (i64.wrap
 (IntKind.u8.wrap
 (↑(BitVec.ofInt (8:Nat) (↑(t0.getD t7.toNat 0).toNat:Int) &&&
 BitVec.ofInt (8:Nat) (15:Int)).toNat:
 Int))))] [] fun r1 g1=>
 Ag (qW4 g1 r1)
 (Ag (((u0++[[IV.int .u8 (rI r0)]]).length+1)*1≤140737488355328∧
 (u0++[[IV.int .u8 (rI r0)]]).length+1≤140737488355328)
 (Xa t0 t6 (i64.wrap (t7+(1:Int))) (u0++[[IV.int .u8 (rI r0)]]++[[IV.int .u8 (rI r1)]]) K))))))))
 (K (.exit 0) ⟨[(3, .ptr nL3 0)],[(nL3, .blk Bj [.self nL3, .own (nL3.cell 1)]),((nL3.cell 1), .arr (Am+2) true 1 u0)]⟩))):Xa t0 t6 t7 u0 K:=lR [0,3,6,7] h
theorem Awn(u0:LL)(K:KK)(h:
 (Ag ((u0.length+1)*1≤140737488355328∧u0.length+1≤140737488355328)
 (Ag (((↑(u0++[[IV.int .u8 (62:Int)]]).length:Int)=
 (↑(u0++[[IV.int .u8 (62:Int)]]).length:Int)∧
 (u0++[[IV.int .u8 (62:Int)]]).length≤9223372036854775807)∧
 ∀(r:List IV),r∈u0++[[IV.int .u8 (62:Int)]]→Be [.int .u8] r=true)
 (K .ret ⟨[(2,As (List.map (fun r=>UInt8.ofNat (gI r 0).toNat) (u0++[[IV.int .u8 (62:Int)]])))],[]⟩)))):Amg u0 K:=cR [] h
theorem Aye(Q:QQ)(t2:LB)(h:
 (Q (As t2) [])):Ad1 Q .ret ⟨[(2,As t2)],[]⟩:=kq h
theorem Ayf(Q:QQ)(u0:LL)(h:
 (Amg u0 (Ad1 Q))):Apu Q (.exit 0) ⟨[(3, .ptr nL3 0)],[(nL3, .blk Bj [.self nL3, .own (nL3.cell 1)]),((nL3.cell 1), .arr (Am+2) true 1 u0)]⟩:=kq h
theorem Bb5:Bd E0.P 116 Zi.code Zv [.tmp 2]:=fq Tryz.func116
theorem A3f(a0:LB)(Q:QQ)(h:
 (Xa a0 ((↑a0.length:Int)) ((0:Int)) [] (Apu Q))):Call E0.P Ag2 [As a0] [] Q:=fR 0 Bb5 h
noncomputable def Fb:AC:=(A7 [(6,[2,3,23,24,25],[]),(8,[2,3],[]),(15,[2,3],[]),(18,[2,11,39,40,41],[]),(20,[],[]),(25,[2,11,13,39,40,41],[2,11,39,40,41]),(30,[2,11,39,40,41],[2,11,39,40,41]),(31,[],[])] [6] (codeOf Tryz.f32) 0).1
abbrev Fh:Nat:=75
def Xf(t2:Int)(t23r:LL)(t24 t25:Int)(u0 u1 u2:Int)(u3:LB)(u4 u5:LL)(K:KK):Prop:=Ba 6 E0.P Fh (A9 6 Fb).code ⟨[(2,Ai t2),(3, .ptr nL3 0),(23,Al 6 t23r),(24,Ai t24),(25,Ai t25)],[(nL3, .blk Aa [Ai u0,Ai u1,Ai u2,As u3,Al 6 u4,Al 7 u5])]⟩ K
def Amo(t2 u0:Int)(u1 u2:Int)(u3:LB)(u4 u5:LL)(K:KK):Prop:=Ao 15 E0.P Fh (Ah 15 Fb).code ⟨[(2,Ai t2),(3, .ptr nL3 0)],[(nL3, .blk Aa [Ai u0,Ai u1,Ai u2,As u3,Al 6 u4,Al 7 u5])]⟩ K
def Ut(t2:Int)(t39r:LL)(t40 t41:Int)(u0:List (List UInt8 × Int))(K:KK):Prop:=Ba 18 E0.P Fh (A9 18 Fb).code ⟨[(2,Ai t2),(11, .mp Afm),(39,Al 7 t39r),(40,Ai t40),(41,Ai t41)],[(Afm, .map u0)]⟩ K
def Uj(t2:Int)(t39r:LL)(t40 t41:Int)(u0:List (List UInt8 × Int))(u1:LB)(u2 u3 u4:Int)(u5:LB)(u6 u7:LL)(K:KK):Prop:=Ao 25 E0.P Fh (Ah 25 Fb).code ⟨[(2,Ai t2),(11, .mp Afm),(13, .ptr Byy 0),(39,Al 7 t39r),(40,Ai t40),(41,Ai t41)],[(Afm, .map u0),(Byy, .blk Ae [As u1,Ai u2,Ai u3,Ai u4,As u5,Al 6 u6,Al 7 u7])]⟩ K
def Amr(K:KK):Prop:=Ao 31 E0.P Fh (Ah 31 Fb).code ⟨[],[]⟩ K
def Amq(t2:Int)(t39r:LL)(t40 t41:Int)(u0:List (List UInt8 × Int))(K:KK):Prop:=Ao 30 E0.P Fh (Ah 30 Fb).code ⟨[(2,Ai t2),(11, .mp Afm),(39,Al 7 t39r),(40,Ai t40),(41,Ai t41)],[(Afm, .map u0)]⟩ K
def Aee(Q:QQ):KK:=kE fun st=>finish 0 E0.T [.tmp 6] [] Q st
def Aef(Q:QQ):KK:=kF 0 (fun st=>Ao 15 E0.P Fh (Ah 15 Fb).code (mask [2,3] st) (Aee Q)) fun st=>finish 0 E0.T [.tmp 6] [] Q st
def Aeg(K:KK):KK:=kP [] K
def Mx(K:KK):KK:=kC 2 (fun st=>Ao 31 E0.P Fh (Ah 31 Fb).code (mask [] st) (Aeg K)) K
def Aeh(K:KK):Ex→St→Prop
 | .normal,st=>Ba 18 E0.P Fh (A9 18 Fb).code (mask [2,11,39,40,41] st) K
 | .exit i,st=>K (.exit i) st
 | .goto i,st=>K (.goto i) st
 | .ret,st=>K .ret st
def Q4(K:KK):KK:=kC 3 (fun st=>Ao 30 E0.P Fh (Ah 30 Fb).code (mask [2,11,39,40,41] st) (Aeh K)) K
theorem Aiq(t2:Int)(t23r:LL)(t24 t25:Int)(u0 u1 u2:Int)(u3:LB)(u4 u5:LL)(K:KK)(h:
 (Br (decide (t25<t24))
 (Ag (((0:Int)≤t25∧t25<(↑t23r.length:Int))∧
 Be
 [.int .i64, .int .i64, .int .i64, .str, .sl 6 Aa,
 .sl 7 Ae]
 (t23r.getD t25.toNat [])=
 true)
 (Call E0.P Tu [.imm (.agg [.int .i64 (gI (t23r.getD t25.toNat []) 0), .int .i64 (gI (t23r.getD t25.toNat []) 1), .int .i64 (gI (t23r.getD t25.toNat []) 2), .str (gS (t23r.getD t25.toNat []) 3), .sl .any 6 (gR (t23r.getD t25.toNat []) 4), .sl .any 7 (gR (t23r.getD t25.toNat []) 5)]),Ab false,Ai (i64.wrap (t2+(1:Int)))] [] fun r0 g0=>
 Ag (qW0 g0 r0)
 (Br (!decide (rI r0=(0:Int)))
 (K .ret ⟨[(6,Ai (rI r0))],[]⟩)
 (Xf t2 t23r t24 (i64.wrap (t25+(1:Int))) u0 u1 u2 u3 u4 u5 K))))
 (K (.exit 0) ⟨[(2,Ai t2),(3, .ptr nL3 0)],[(nL3, .blk Aa [Ai u0,Ai u1,Ai u2,As u3,Al 6 u4,Al 7 u5])]⟩))):Xf t2 t23r t24 t25 u0 u1 u2 u3 u4 u5 K:=lR [2,3,23,24,25] h
theorem Awq(t2 u0:Int)(u1 u2:Int)(u3:LB)(u4 u5:LL)(K:KK)(h:
 (Ut t2 u5 ((↑u5.length:Int)) ((0:Int)) [] (Mx K))):Amo t2 u0 u1 u2 u3 u4 u5 K:=cR [] h
theorem Agb(t2:Int)(t39r:LL)(t40 t41:Int)(u0:List (List UInt8 × Int))(K:KK)(h:
 (Br (decide (t41<t40))
 (Ag (((0:Int)≤t41∧t41<(↑t39r.length:Int))∧
 Be
 [.str, .int .i64, .int .i64, .int .i64, .str, .sl 6 Aa,
 .sl 7 Ae]
 (t39r.getD t41.toNat [])=
 true)
 (Br (decide ((127:Int)<(↑(gS (t39r.getD t41.toNat []) (0:Nat)).length:Int)) == false)
 (Call E0.P Yh [As (gS (t39r.getD t41.toNat []) 0)] [] fun r0 g0=>
 Ag (qW3 g0 r0)
 (Let (rB r0) fun x1=>
 Let (bif x1 then true else decide ((0:Int)<Cy u0 (gS (t39r.getD t41.toNat []) 0))) fun x2=>
 Br (x2)
 (K .ret ⟨[(6,Ai 11)],[]⟩)
 (Uj t2 t39r t40 t41 u0 (gS (t39r.getD t41.toNat []) 0) (gI (t39r.getD t41.toNat []) 1) (gI (t39r.getD t41.toNat []) 2) (gI (t39r.getD t41.toNat []) 3) (gS (t39r.getD t41.toNat []) 4) (gR (t39r.getD t41.toNat []) 5) (gR (t39r.getD t41.toNat []) 6) (Q4 K))))
 (Ag ((!false)=true)
 (Let (true) fun x3=>
 Let (bif x3 then true else decide ((0:Int)<Cy u0 (gS (t39r.getD t41.toNat []) 0))) fun x4=>
 Br (x4)
 (K .ret ⟨[(6,Ai 11)],[]⟩)
 (Uj t2 t39r t40 t41 u0 (gS (t39r.getD t41.toNat []) 0) (gI (t39r.getD t41.toNat []) 1) (gI (t39r.getD t41.toNat []) 2) (gI (t39r.getD t41.toNat []) 3) (gS (t39r.getD t41.toNat []) 4) (gR (t39r.getD t41.toNat []) 5) (gR (t39r.getD t41.toNat []) 6) (Q4 K))))))
 (K (.exit (2)) ⟨[],[]⟩))):Ut t2 t39r t40 t41 u0 K:=lR [2,11,39,40,41] h
theorem Awr(t2:Int)(t39r:LL)(t40 t41:Int)(u0:List (List UInt8 × Int))(u1:LB)(u2 u3 u4:Int)(u5:LB)(u6 u7:LL)(K:KK)(h:
 (Call E0.P Tu [.imm (.agg [.int .i64 u2, .int .i64 u3, .int .i64 u4, .str u5, .sl .any 6 u6, .sl .any 7 u7]),Ab false,Ai (i64.wrap (t2+(1:Int)))] [] fun r0 g0=>
 Ag (qW0 g0 r0)
 (Br (!decide (rI r0=(0:Int)))
 (K .ret ⟨[(6,Ai (rI r0))],[]⟩)
 (K .normal ⟨[(2,Ai t2),(11, .mp Afm),(39,Al 7 t39r),(40,Ai t40),(41,Ai t41)],[(Afm, .map (mUp u0 u1 (i64.wrap (Cy u0 u1+(1:Int)))))]⟩)))):Uj t2 t39r t40 t41 u0 u1 u2 u3 u4 u5 u6 u7 K:=cR [2,11,39,40,41] h
theorem Awt(K:KK)(h:
 (K .ret ⟨[(6,Ai 0)],[]⟩)):Amr K:=cR [] h
theorem Aws(t2:Int)(t39r:LL)(t40 t41:Int)(u0:List (List UInt8 × Int))(K:KK)(h:
 (K .normal ⟨[(2,Ai t2),(11, .mp Afm),(39,Al 7 t39r),(40,Ai t40),(41,Ai (i64.wrap (t41+(1:Int))))],[(Afm, .map u0)]⟩)):Amq t2 t39r t40 t41 u0 K:=cR [2,11,39,40,41] h
theorem Ayo(Q:QQ)(t6:Int)(h:
 (Q (Ai t6) [])):Aee Q .ret ⟨[(6,Ai t6)],[]⟩:=kq h
theorem Ayp(Q:QQ)(t6:Int)(h:
 (Q (Ai t6) [])):Aef Q .ret ⟨[(6,Ai t6)],[]⟩:=kq h
theorem Ayq(Q:QQ)(t2 u0:Int)(u1 u2:Int)(u3:LB)(u4 u5:LL)(h:
 (Amo t2 u0 u1 u2 u3 u4 u5 (Aee Q))):Aef Q (.exit 0) ⟨[(2,Ai t2),(3, .ptr nL3 0)],[(nL3, .blk Aa [Ai u0,Ai u1,Ai u2,As u3,Al 6 u4,Al 7 u5])]⟩:=kq h
theorem Ayr(K:KK)(t6:Int)(h:
 (K .ret ⟨[(6,Ai t6)],[]⟩)):Aeg K .ret ⟨[(6,Ai t6)],[]⟩:=kq h
theorem Ail(K:KK)(t6:Int)(h:
 (K .ret ⟨[(6,Ai t6)],[]⟩)):Mx K .ret ⟨[(6,Ai t6)],[]⟩:=kq h
theorem Ays(K:KK)(h:
 (Amr (Aeg K))):Mx K (.exit (2)) ⟨[],[]⟩:=kq h
theorem Ayt(K:KK)(t2:Int)(t39r:LL)(t40 t41:Int)(u0:List (List UInt8 × Int))(h:
 (Ut t2 t39r t40 t41 u0 K)):Aeh K .normal ⟨[(2,Ai t2),(11, .mp Afm),(39,Al 7 t39r),(40,Ai t40),(41,Ai t41)],[(Afm, .map u0)]⟩:=kq h
theorem Ayu(K:KK)(t6:Int)(h:
 (K .ret ⟨[(6,Ai t6)],[]⟩)):Q4 K .ret ⟨[(6,Ai t6)],[]⟩:=kq h
theorem Ayv(K:KK)(t2:Int)(t39r:LL)(t40 t41:Int)(u0:List (List UInt8 × Int))(h:
 (Amq t2 t39r t40 t41 u0 (Aeh K))):Q4 K .normal ⟨[(2,Ai t2),(11, .mp Afm),(39,Al 7 t39r),(40,Ai t40),(41,Ai t41)],[(Afm, .map u0)]⟩:=kq h
theorem Bcd:Bd E0.P 32 Fb.code Fh [.tmp 6]:=fq Tryz.func32
theorem A3n(a0_0 a0_1 a0_2:Int)(a0_3:LB)(a0_4 a0_5:LL)(a1:Bool)(a2:Int)(Q:QQ)(h:
 (Call E0.P Aom [.imm (.agg [.int .i64 a0_0, .int .i64 a0_1, .int .i64 a0_2, .str a0_3, .sl .any 6 a0_4, .sl .any 7 a0_5]),Ab a1,Ai a2] [] fun r0 g0=>
 Ag (qW0 g0 r0)
 (Br (!decide (rI r0=(0:Int)))
 (Q (Ai (rI r0)) [])
 (Xf a2 a0_4 ((↑a0_4.length:Int)) ((0:Int)) a0_0 a0_1 a0_2 a0_3 a0_4 a0_5 (Aef Q))))):Call E0.P Tu [.imm (.agg [.int .i64 a0_0, .int .i64 a0_1, .int .i64 a0_2, .str a0_3, .sl .any 6 a0_4, .sl .any 7 a0_5]),Ab a1,Ai a2] [] Q:=fR 0 Bcd h
noncomputable def Bei:AC:=(A7 [] [2] (codeOf Tryz.f79) 0).1
abbrev Ber:Nat:=5
theorem Be4:Bd E0.P 79 Bei.code Ber [.tmp 2]:=fq Tryz.func79
theorem A61(a0:Int)(Q:QQ)(h:
 (Br (decide (a0=(1:Int)))
 (Q (.imm (.str [116,114,117,101])) [])
 (Q (.imm (.str [102,97,108,115,101])) []))):Call E0.P Akf [Ai a0] [] Q:=fR 0 Be4 h
noncomputable def A8f:AC:=(A7 [] [2] (codeOf Tryz.f82) 0).1
abbrev A81:Nat:=5
theorem A9b:Bd E0.P 82 A8f.code A81 [.tmp 2]:=fq Tryz.func82
theorem A1m(a0:LL)(Q:QQ)(h:
 (Call E0.P Aqc [Al 1 a0, .imm (.str [32])] [] fun r0 g0=>
 Ag (qW2 g0 r0)
 (Q (As (rS r0)) []))):Call E0.P Xk [Al 1 a0] [] Q:=fR 0 A9b h
noncomputable def Xh:AC:=(A7 [(2,[0,1,10,11],[]),(4,[],[]),(10,[],[])] [4] (codeOf Tryz.f83) 0).1
abbrev Xm:Nat:=27
def Uu(t0:Int)(t1r:LL)(t10_0:Int)(t10_1 t10_2:LB)(t10_3:Int)(t10_4 t10_5:LB)(t10_6:Int)(t10_7 t10_8:LB)(t11:Int)(K:KK):Prop:=Ba 2 E0.P Xm (A9 2 Xh).code ⟨[(0,Ai t0),(1,Al 1 t1r),(10, .imm (.agg [.int .i64 t10_0, .str t10_1, .str t10_2, .int .i64 t10_3, .str t10_4, .str t10_5, .int .i64 t10_6, .str t10_7, .str t10_8])),(11,Ai t11)],[]⟩ K
def Akp(K:KK):Prop:=Ao 10 E0.P Xm (Ah 10 Xh).code ⟨[],[]⟩ K
def Acz(Q:QQ):KK:=kE fun st=>finish 0 E0.T [.tmp 4] [] Q st
def Uo(Q:QQ):KK:=kF 0 (fun st=>Ao 10 E0.P Xm (Ah 10 Xh).code (mask [] st) (Acz Q)) fun st=>finish 0 E0.T [.tmp 4] [] Q st
theorem Pp(t0:Int)(t1r:LL)(t10_0:Int)(t10_1 t10_2:LB)(t10_3:Int)(t10_4 t10_5:LB)(t10_6:Int)(t10_7 t10_8:LB)(t11:Int)(K:KK)(h:
 (Br (decide (t11<(3:Int)))
 (Ag (((0:Int)≤t11∧t11<(↑(3:Nat):Int))∧
 Be [.int .i64, .str, .str]
 (List.take 3
 (List.drop (t11.toNat*3)
 [.int .i64 t10_0, .str t10_1, .str t10_2, .int .i64 t10_3, .str t10_4, .str t10_5,
 .int .i64 t10_6, .str t10_7, .str t10_8]))=
 true)
 (Br (decide
 (gI
 (List.take 3
 (List.drop (t11.toNat*3)
 [.int .i64 t10_0, .str t10_1, .str t10_2, .int .i64 t10_3, .str t10_4, .str t10_5,
 .int .i64 t10_6, .str t10_7, .str t10_8]))
 0=
 t0))
 (Call E0.P Xk [Al 1 t1r] [] fun r0 g0=>
 Ag (qW2 g0 r0)
 (Ag ((↑((gS
 (List.take (3:Nat)
 (List.drop (t11.toNat*(3:Nat))
 [.int .i64 t10_0, .str t10_1, .str t10_2, .int .i64 t10_3, .str t10_4,
 .str t10_5, .int .i64 t10_6, .str t10_7, .str t10_8]))
 (1:Nat)).length+
 (rS r0).length):
 Int)≤
 (9223372036854775807:Int))
 (Ag ((↑((gS
 (List.take (3:Nat)
 (List.drop (t11.toNat*(3:Nat))
 [.int .i64 t10_0, .str t10_1, .str t10_2, .int .i64 t10_3, .str t10_4,
 .str t10_5, .int .i64 t10_6, .str t10_7, .str t10_8]))
 (1:Nat)++
 rS r0).length+
 (gS
 (List.take (3:Nat)
 (List.drop (t11.toNat*(3:Nat))
 [.int .i64 t10_0, .str t10_1, .str t10_2, .int .i64 t10_3, .str t10_4,
 .str t10_5, .int .i64 t10_6, .str t10_7, .str t10_8]))
 (2:Nat)).length):
 Int)≤
 (9223372036854775807:Int))
 (K .ret ⟨[(4, .imm (.str (gS
 (List.take 3
 (List.drop (t11.toNat*3)
 [.int .i64 t10_0, .str t10_1, .str t10_2, .int .i64 t10_3, .str t10_4, .str t10_5,
 .int .i64 t10_6, .str t10_7, .str t10_8]))
 1++
 rS r0++
 gS
 (List.take 3
 (List.drop (t11.toNat*3)
 [.int .i64 t10_0, .str t10_1, .str t10_2, .int .i64 t10_3, .str t10_4, .str t10_5,
 .int .i64 t10_6, .str t10_7, .str t10_8]))
 2)))],[]⟩))))
 (Uu t0 t1r t10_0 t10_1 t10_2 t10_3 t10_4 t10_5 t10_6 t10_7 t10_8 (i64.wrap (t11+(1:Int))) K)))
 (K (.exit 0) ⟨[],[]⟩))):Uu t0 t1r t10_0 t10_1 t10_2 t10_3 t10_4 t10_5 t10_6 t10_7 t10_8 t11 K:=lR [0,1,10,11] h
theorem At5(K:KK)(h:
 (K .ret ⟨[(4, .imm (.str [110,117,108,108]))],[]⟩)):Akp K:=cR [] h
theorem Axa(Q:QQ)(t4:LB)(h:
 (Q (As t4) [])):Acz Q .ret ⟨[(4,As t4)],[]⟩:=kq h
theorem Wi(Q:QQ)(t4:LB)(h:
 (Q (As t4) [])):Uo Q .ret ⟨[(4,As t4)],[]⟩:=kq h
theorem Axb(Q:QQ)(h:
 (Akp (Acz Q))):Uo Q (.exit 0) ⟨[],[]⟩:=kq h
theorem A9a:Bd E0.P 83 Xh.code Xm [.tmp 4]:=fq Tryz.func83
theorem A1l(a0:Int)(a1:LL)(Q:QQ)(h:
 (Uu a0 a1 ((5:Int)) [(91:UInt8)] [(93:UInt8)] ((6:Int)) [(60:UInt8),60] [(62:UInt8),62] ((7:Int)) [] [(32:UInt8),82] ((0:Int)) (Uo Q))):Call E0.P Afi [Ai a0,Al 1 a1] [] Q:=fR 0 A9a h
noncomputable def Aev:AC:=(A7 [(4,[2,3,7,27],[]),(14,[],[])] [6] (codeOf Tryz.f45) 0).1
abbrev Aft:Nat:=86
def Ka(t2:Int)(t27:Bool)(u0 u1 u2:Int)(u3:LB)(u4 u5:LL)(u6 u7:Bool)(u8 u9 v0:Bool)(K:KK):Prop:=Ao 4 E0.P Aft (Ah 4 Aev).code ⟨[(2,Ai t2),(3, .ptr nL3 0),(7, .ptr nL7 0),(27,Ab t27)],[(nL3, .blk Aa [Ai u0,Ai u1,Ai u2,As u3,Al 6 u4,Al 7 u5]),(nL7, .blk Bi [Ab u6,Ab u7,Ab u8,Ab u9,Ab v0])]⟩ K
def Ar7(K:KK):Prop:=Ao 14 E0.P Aft (Ah 14 Aev).code ⟨[],[]⟩ K
def Aj6(Q:QQ):KK:=kE fun st=>finish 0 E0.T [.tmp 6] [] Q st
def Hr(Q:QQ):KK:=kF 0 (fun st=>Ao 14 E0.P Aft (Ah 14 Aev).code (mask [] st) (Aj6 Q)) fun st=>finish 0 E0.T [.tmp 6] [] Q st
theorem A3c(t2:Int)(t27:Bool)(u0 u1 u2:Int)(u3:LB)(u4 u5:LL)(u6 u7:Bool)(u8 u9 v0:Bool)(K:KK)(h:
 (Br (t27)
 (K .ret ⟨[(6,Ai 4)],[]⟩)
 (Call E0.P Afg [.imm (.agg [.int .i64 u0, .int .i64 u1, .int .i64 u2, .str u3, .sl .any 6 u4, .sl .any 7 u5])] [] fun r0 g0=>
 Ag (qW3 g0 r0)
 (Br (rB r0)
 (K .ret ⟨[(6,Ai 3)],[]⟩)
 (Let (bif decide (u0=(3:Int))then decide ((127:Int)<(↑u3.length:Int))else false) fun x1=>
 Br (x1 == false)
 (Let (bif decide (u0=(4:Int))then decide ((65535:Int)<(↑u3.length:Int))else false) fun x2=>
 Let (x2) fun x3=>
 Br (x3)
 (K .ret ⟨[(6,Ai 8)],[]⟩)
 (Let (bif decide (u0=(8:Int))then decide ((1048576:Int)<(↑u3.length:Int))else false) fun x4=>
 Br (x4)
 (K .ret ⟨[(6,Ai 7)],[]⟩)
 (Let (bif u9 then true else v0) fun x5=>
 Let (bif x5 then decide ((64:Int)≤t2)else false) fun x6=>
 Br (x6)
 (K .ret ⟨[(6,Ai 9)],[]⟩)
 (K .normal ⟨[],[]⟩))))
 (Ag ((!false)=true)
 (Let (true) fun x7=>
 Br (x7)
 (K .ret ⟨[(6,Ai 8)],[]⟩)
 (Let (bif decide (u0=(8:Int))then decide ((1048576:Int)<(↑u3.length:Int))else false) fun x8=>
 Br (x8)
 (K .ret ⟨[(6,Ai 7)],[]⟩)
 (Let (bif u9 then true else v0) fun x9=>
 Let (bif x9 then decide ((64:Int)≤t2)else false) fun x10=>
 Br (x10)
 (K .ret ⟨[(6,Ai 9)],[]⟩)
 (K .normal ⟨[],[]⟩)))))))))):Ka t2 t27 u0 u1 u2 u3 u4 u5 u6 u7 u8 u9 v0 K:=cR [] h
theorem A1d(K:KK)(h:
 (K .ret ⟨[(6,Ai 0)],[]⟩)):Ar7 K:=cR [] h
theorem A4u(Q:QQ)(t6:Int)(h:
 (Q (Ai t6) [])):Aj6 Q .ret ⟨[(6,Ai t6)],[]⟩:=kq h
theorem A4v(Q:QQ)(t6:Int)(h:
 (Q (Ai t6) [])):Hr Q .ret ⟨[(6,Ai t6)],[]⟩:=kq h
theorem A4w(Q:QQ)(h:
 (Ar7 (Aj6 Q))):Hr Q .normal ⟨[],[]⟩:=kq h
theorem Bio:Bd E0.P 45 Aev.code Aft [.tmp 6]:=fq Tryz.func45
theorem A94(a0_0 a0_1 a0_2:Int)(a0_3:LB)(a0_4 a0_5:LL)(a1:Bool)(a2:Int)(Q:QQ)(h:
 (Call E0.P Afh [Ai a0_0] [] fun r0 g0=>
 Ag (g0=[]∧
 r0=
 .tup
 [.imm
 (IV.agg
 [.bool (gB (Ac (rT r0 0)) 0), .bool (gB (Ac (rT r0 0)) 1),
 .bool (gB (Ac (rT r0 0)) 2), .bool (gB (Ac (rT r0 0)) 3),
 .bool (gB (Ac (rT r0 0)) 4)]),
 .imm (.bool (rB (rT r0 1)))])
 (Br ((!rB (rT r0 1)) == false)
 (Let (bif decide (a0_0=(8:Int))then !a1 else false) fun x1=>
 Let (x1) fun x2=>
 Br (x2)
 (Q (Ai 10) [])
 (Call E0.P Ve [.imm (.agg [.int .i64 a0_0, .int .i64 a0_1, .int .i64 a0_2, .str a0_3, .sl .any 6 a0_4, .sl .any 7 a0_5]), .imm (.agg [.bool (gB (Ac (rT r0 0)) 0), .bool (gB (Ac (rT r0 0)) 1), .bool (gB (Ac (rT r0 0)) 2), .bool (gB (Ac (rT r0 0)) 3), .bool (gB (Ac (rT r0 0)) 4)])] [] fun r3 g3=>
 Ag (qW3 g3 r3)
 (Br (rB r3 == false)
 (Br (decide (a0_0=(3:Int)) == true)
 (Call E0.P Yh [As a0_3] [] fun r4 g4=>
 Ag (qW3 g4 r4)
 (Let (rB r4) fun x5=>
 Let (x5) fun x6=>
 Ka a2 x6 a0_0 a0_1 a0_2 a0_3 a0_4 a0_5 (gB (Ac (rT r0 0)) 0) (gB (Ac (rT r0 0)) 1) (gB (Ac (rT r0 0)) 2) (gB (Ac (rT r0 0)) 3) (gB (Ac (rT r0 0)) 4) (Hr Q)))
 (Ag ((!true)=false)
 (Let (false) fun x7=>
 Let (x7) fun x8=>
 Ka a2 x8 a0_0 a0_1 a0_2 a0_3 a0_4 a0_5 (gB (Ac (rT r0 0)) 0) (gB (Ac (rT r0 0)) 1) (gB (Ac (rT r0 0)) 2) (gB (Ac (rT r0 0)) 3) (gB (Ac (rT r0 0)) 4) (Hr Q))))
 (Ag ((!false)=true)
 (Let (true) fun x9=>
 Ka a2 x9 a0_0 a0_1 a0_2 a0_3 a0_4 a0_5 (gB (Ac (rT r0 0)) 0) (gB (Ac (rT r0 0)) 1) (gB (Ac (rT r0 0)) 2) (gB (Ac (rT r0 0)) 3) (gB (Ac (rT r0 0)) 4) (Hr Q))))))
 (Ag ((!false)=true)
 (Let (true) fun x10=>
 Br (x10)
 (Q (Ai 10) [])
 (Call E0.P Ve [.imm (.agg [.int .i64 a0_0, .int .i64 a0_1, .int .i64 a0_2, .str a0_3, .sl .any 6 a0_4, .sl .any 7 a0_5]), .imm (.agg [.bool (gB (Ac (rT r0 0)) 0), .bool (gB (Ac (rT r0 0)) 1), .bool (gB (Ac (rT r0 0)) 2), .bool (gB (Ac (rT r0 0)) 3), .bool (gB (Ac (rT r0 0)) 4)])] [] fun r11 g11=>
 Ag (qW3 g11 r11)
 (Br (rB r11 == false)
 (Br (decide (a0_0=(3:Int)) == true)
 (Call E0.P Yh [As a0_3] [] fun r12 g12=>
 Ag (qW3 g12 r12)
 (Let (rB r12) fun x13=>
 Let (x13) fun x14=>
 Ka a2 x14 a0_0 a0_1 a0_2 a0_3 a0_4 a0_5 (gB (Ac (rT r0 0)) 0) (gB (Ac (rT r0 0)) 1) (gB (Ac (rT r0 0)) 2) (gB (Ac (rT r0 0)) 3) (gB (Ac (rT r0 0)) 4) (Hr Q)))
 (Ag ((!true)=false)
 (Let (false) fun x15=>
 Let (x15) fun x16=>
 Ka a2 x16 a0_0 a0_1 a0_2 a0_3 a0_4 a0_5 (gB (Ac (rT r0 0)) 0) (gB (Ac (rT r0 0)) 1) (gB (Ac (rT r0 0)) 2) (gB (Ac (rT r0 0)) 3) (gB (Ac (rT r0 0)) 4) (Hr Q))))
 (Ag ((!false)=true)
 (Let (true) fun x17=>
 Ka a2 x17 a0_0 a0_1 a0_2 a0_3 a0_4 a0_5 (gB (Ac (rT r0 0)) 0) (gB (Ac (rT r0 0)) 1) (gB (Ac (rT r0 0)) 2) (gB (Ac (rT r0 0)) 3) (gB (Ac (rT r0 0)) 4) (Hr Q)))))))))):Call E0.P Aom [.imm (.agg [.int .i64 a0_0, .int .i64 a0_1, .int .i64 a0_2, .str a0_3, .sl .any 6 a0_4, .sl .any 7 a0_5]),Ab a1,Ai a2] [] Q:=fR 0 Bio h
noncomputable def Bgg:AC:=(A7 [] [2] (codeOf Tryz.f46) 0).1
abbrev Bh5:Nat:=6
theorem Bim:Bd E0.P 46 Bgg.code Bh5 [.tmp 2]:=fq Tryz.func46
theorem A93(a0:LB)(Q:QQ)(h:
 (Call E0.P Aff [As a0, .imm (.int .u8 ((0:Int)))] [] fun r0 g0=>
 Ag (qW0 g0 r0)
 (Q (Ab (decide ((0:Int)≤rI r0))) []))):Call E0.P Yh [As a0] [] Q:=fR 0 Bim h
noncomputable def A44:AC:=(A7 [] [4] (codeOf Tryz.f74) 0).1
abbrev A5o:Nat:=55
theorem A5w:Bd E0.P 74 A44.code A5o [.tmp 4]:=fq Tryz.func74
theorem Ax9(a0_0 a0_1 a0_2:Int)(a0_3:LB)(a0_4 a0_5:LL)(a1_0 a1_1:Bool)(a1_2 a1_3 a1_4:Bool)(Q:QQ)(h:
 (Let (bif !a1_0 then !decide (a0_1=(0:Int))else false) fun x0=>
 Br (x0 == false)
 (Let (bif !a1_1 then !decide (a0_2=(0:Int))else false) fun x1=>
 Let (x1) fun x2=>
 Br (x2 == false)
 (Let (bif !a1_2 then !a0_3 == []else false) fun x3=>
 Let (x3) fun x4=>
 Br (x4 == false)
 (Let (bif !a1_3 then decide ((0:Int)<(↑a0_4.length:Int))else false) fun x5=>
 Let (x5) fun x6=>
 Br (x6 == false)
 (Let (bif !a1_4 then decide ((0:Int)<(↑a0_5.length:Int))else false) fun x7=>
 Let (x7) fun x8=>
 Q (Ab x8) [])
 (Ag ((!false)=true)
 (Let (true) fun x9=>
 Q (Ab x9) [])))
 (Ag ((!false)=true)
 (Let (true) fun x10=>
 Br (x10 == false)
 (Let (bif !a1_4 then decide ((0:Int)<(↑a0_5.length:Int))else false) fun x11=>
 Let (x11) fun x12=>
 Q (Ab x12) [])
 (Ag ((!false)=true)
 (Let (true) fun x13=>
 Q (Ab x13) [])))))
 (Ag ((!false)=true)
 (Let (true) fun x14=>
 Br (x14 == false)
 (Let (bif !a1_3 then decide ((0:Int)<(↑a0_4.length:Int))else false) fun x15=>
 Let (x15) fun x16=>
 Br (x16 == false)
 (Let (bif !a1_4 then decide ((0:Int)<(↑a0_5.length:Int))else false) fun x17=>
 Let (x17) fun x18=>
 Q (Ab x18) [])
 (Ag ((!false)=true)
 (Let (true) fun x19=>
 Q (Ab x19) [])))
 (Ag ((!false)=true)
 (Let (true) fun x20=>
 Br (x20 == false)
 (Let (bif !a1_4 then decide ((0:Int)<(↑a0_5.length:Int))else false) fun x21=>
 Let (x21) fun x22=>
 Q (Ab x22) [])
 (Ag ((!false)=true)
 (Let (true) fun x23=>
 Q (Ab x23) [])))))))
 (Ag ((!false)=true)
 (Let (true) fun x24=>
 Br (x24 == false)
 (Let (bif !a1_2 then !a0_3 == []else false) fun x25=>
 Let (x25) fun x26=>
 Br (x26 == false)
 (Let (bif !a1_3 then decide ((0:Int)<(↑a0_4.length:Int))else false) fun x27=>
 Let (x27) fun x28=>
 Br (x28 == false)
 (Let (bif !a1_4 then decide ((0:Int)<(↑a0_5.length:Int))else false) fun x29=>
 Let (x29) fun x30=>
 Q (Ab x30) [])
 (Ag ((!false)=true)
 (Let (true) fun x31=>
 Q (Ab x31) [])))
 (Ag ((!false)=true)
 (Let (true) fun x32=>
 Br (x32 == false)
 (Let (bif !a1_4 then decide ((0:Int)<(↑a0_5.length:Int))else false) fun x33=>
 Let (x33) fun x34=>
 Q (Ab x34) [])
 (Ag ((!false)=true)
 (Let (true) fun x35=>
 Q (Ab x35) [])))))
 (Ag ((!false)=true)
 (Let (true) fun x36=>
 Br (x36 == false)
 (Let (bif !a1_3 then decide ((0:Int)<(↑a0_4.length:Int))else false) fun x37=>
 Let (x37) fun x38=>
 Br (x38 == false)
 (Let (bif !a1_4 then decide ((0:Int)<(↑a0_5.length:Int))else false) fun x39=>
 Let (x39) fun x40=>
 Q (Ab x40) [])
 (Ag ((!false)=true)
 (Let (true) fun x41=>
 Q (Ab x41) [])))
 (Ag ((!false)=true)
 (Let (true) fun x42=>
 Br (x42 == false)
 (Let (bif !a1_4 then decide ((0:Int)<(↑a0_5.length:Int))else false) fun x43=>
 Let (x43) fun x44=>
 Q (Ab x44) [])
 (Ag ((!false)=true)
 (Let (true) fun x45=>
 Q (Ab x45) [])))))))))):Call E0.P Ve [.imm (.agg [.int .i64 a0_0, .int .i64 a0_1, .int .i64 a0_2, .str a0_3, .sl .any 6 a0_4, .sl .any 7 a0_5]), .imm (.agg [.bool a1_0, .bool a1_1, .bool a1_2, .bool a1_3, .bool a1_4])] [] Q:=fR 0 A5w h
noncomputable def A8e:AC:=(A7 [] [2] (codeOf Tryz.f75) 0).1
abbrev A80:Nat:=41
theorem A89:Bd E0.P 75 A8e.code A80 [.tmp 2]:=fq Tryz.func75
theorem A1k(a0_0 a0_1 a0_2:Int)(a0_3:LB)(a0_4 a0_5:LL)(Q:QQ)(h:
 (Br (decide (a0_0=(1:Int)))
 (Ag ((0:Int)≤(1:Int))
 (Q (.imm (.bool (!decide (a0_1.fdiv ((2:Int) ^ 1)=(0:Int))))) []))
 (Br (decide (a0_0=(2:Int)))
 (Let (bif decide (a0_1<(-2147483647:Int))then true else decide ((2147483647:Int)<a0_1)) fun x0=>
 Q (Ab x0) [])
 (Br (decide (a0_0=(7:Int)))
 (Let (bif decide (a0_1<(1:Int))then true else decide ((8388607:Int)<a0_1)) fun x1=>
 Let (bif x1 then true else decide (a0_2<(0:Int))) fun x2=>
 Let (bif x2 then true else decide ((65535:Int)<a0_2)) fun x3=>
 Q (Ab x3) [])
 (Q (Ab false) []))))):Call E0.P Afg [.imm (.agg [.int .i64 a0_0, .int .i64 a0_1, .int .i64 a0_2, .str a0_3, .sl .any 6 a0_4, .sl .any 7 a0_5])] [] Q:=fR 0 A89 h
noncomputable def Beb:AC:=(A7 [] [2] (codeOf Tryz.f37) 0).1
abbrev Bek:Nat:=5
theorem Bes:Bd E0.P 37 Beb.code Bek [.tmp 2]:=fq Tryz.func37
theorem A6q(a0:Int)(Q:QQ)(h:
 (Call E0.P Aqb [Ai a0] [] fun r0 g0=>
 Ag (qW2 g0 r0)
 (Q (As (rS r0)) []))):Call E0.P Qp [Ai a0] [] Q:=fR 0 Bes h
end
end Go.Proofs.Sim.Se

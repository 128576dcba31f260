import Derived.Test.YtcdjheflchglaaaGreatDoorSeatBase
set_option maxRecDepth 100000
set_option maxHeartbeats 4000000
namespace Go.Proofs.Sim.Se
open Go Go.Proofs Go.Proofs.Sim
noncomputable section
abbrev qW0(G:Heap)(R:AV):Prop:=G=[]∧R= .imm (.int .i64 (rI R))
abbrev qW1(G:Heap)(R:AV):Prop:=G=[]∧R= .imm (.str (rS R))
abbrev qW2(G:Heap)(R:AV):Prop:=G=[]∧R= .imm (.bool (rB R))
abbrev qW3(G:Heap)(R:AV):Prop:=G=[]∧R= .imm (.int .u8 (rI R))
noncomputable def ac_write_Text:AC:=(Bf [] [2,3] (codeOf Tryz.f7) 0).1
abbrev Ac6:Nat:=13
theorem Avl:Bw E0.P 7 ac_write_Text.code Ac6 [.tmp 2, .tmp 3]:=Bn _ _ Tryz.f7 [] [2,3] _ 13 Tryz.func7 (by kernel_rfl) (by kernel_rfl) (by kernel_rfl) (by kernel_rfl)
theorem Aq3(a0_0 a0_1 a0_2:Int)(a0_3:LB)(a0_4 a0_5:LL)(Q:QQ)(h:
 (Call E0.P U1 [.imm (.agg [.int .i64 a0_0, .int .i64 a0_1, .int .i64 a0_2, .str a0_3, .sl .any 6 a0_4, .sl .any 7 a0_5]),Ab false] [] fun r0 g0=>
 Am (qW0 g0 r0)
 (Br (!decide (rI r0=(0:Int)))
 (Q (.tup [.imm (.str []),Ai (rI r0)]) [])
 (Call E0.P Gh [.imm (.agg [.int .i64 a0_0, .int .i64 a0_1, .int .i64 a0_2, .str a0_3, .sl .any 6 a0_4, .sl .any 7 a0_5])] [] fun r1 g1=>
 Am (g1=[]∧
 r1=
 .imm
 (IV.agg
 [.int .i64 (gI (Ac r1) 0), .int .i64 (gI (Ac r1) 1),
 .int .i64 (gI (Ac r1) 2), .str (gS (Ac r1) 3),
 .sl SK.any 6 (gR (Ac r1) 4), .sl SK.any 7 (gR (Ac r1) 5)]))
 (Call E0.P P6 [.imm (.agg [.int .i64 (gI (Ac r1) 0), .int .i64 (gI (Ac r1) 1), .int .i64 (gI (Ac r1) 2), .str (gS (Ac r1) 3), .sl .any 6 (gR (Ac r1) 4), .sl .any 7 (gR (Ac r1) 5)])] [] fun r2 g2=>
 Am (qW1 g2 r2)
 (Q (.tup [As (rS r2),Ai 0]) [])))))):Call E0.P Acz [.imm (.agg [.int .i64 a0_0, .int .i64 a0_1, .int .i64 a0_2, .str a0_3, .sl .any 6 a0_4, .sl .any 7 a0_5])] [] Q:=Bd (A7 E0 Ac6) (Bb Ac6) 3 0 7 ac_write_Text [.tmp 2, .tmp 3] Avl _ _ Q rfl rfl (kr (by kernel_rfl) h)
noncomputable def ac_write_Name:AC:=(Bf [(4,[0,3,8,9],[]),(6,[3],[]),(10,[0,3,5,8,9,25],[0,3,5,8,9]),(12,[0,3,8,9],[]),(13,[0,3,5,8,9],[0,3,8,9]),(16,[0,3,8,9],[0,3,8,9]),(17,[3],[])] [2] (codeOf Tryz.f25) 0).1
abbrev Ci:Nat:=41
def J3(t0:LB)(t8 t9:Int)(u0:LL)(K:KK):Prop:=Cc 4 E0.P Ci (A9 4 ac_write_Name).code ⟨[(0,As t0),(3, .ptr nL3 0),(8,Ai t8),(9,Ai t9)],[(nL3, .blk Bj [.self nL3, .own (nL3.cell 1)]),((nL3.cell 1), .arr (Ak+2) true 1 u0)]⟩ K
def Sg(t0:LB)(t5 t8 t9:Int)(t25:Bool)(u0:LL)(K:KK):Prop:=Ay 10 E0.P Ci (Ag 10 ac_write_Name).code ⟨[(0,As t0),(3, .ptr nL3 0),(5, .imm (.int .u8 t5)),(8,Ai t8),(9,Ai t9),(25,Ab t25)],[(nL3, .blk Bj [.self nL3, .own (nL3.cell 1)]),((nL3.cell 1), .arr (Ak+2) true 1 u0)]⟩ K
def Ags(u0:LL)(K:KK):Prop:=Ay 17 E0.P Ci (Ag 17 ac_write_Name).code ⟨[(3, .ptr nL3 0)],[(nL3, .blk Bj [.self nL3, .own (nL3.cell 1)]),((nL3.cell 1), .arr (Ak+2) true 1 u0)]⟩ K
def Si(t0:LB)(t8 t9:Int)(u0:LL)(K:KK):Prop:=Ay 16 E0.P Ci (Ag 16 ac_write_Name).code ⟨[(0,As t0),(3, .ptr nL3 0),(8,Ai t8),(9,Ai t9)],[(nL3, .blk Bj [.self nL3, .own (nL3.cell 1)]),((nL3.cell 1), .arr (Ak+2) true 1 u0)]⟩ K
def Agr(t0:LB)(t5 t8 t9:Int)(u0:LL)(K:KK):Prop:=Ay 13 E0.P Ci (Ag 13 ac_write_Name).code ⟨[(0,As t0),(3, .ptr nL3 0),(5, .imm (.int .u8 t5)),(8,Ai t8),(9,Ai t9)],[(nL3, .blk Bj [.self nL3, .own (nL3.cell 1)]),((nL3.cell 1), .arr (Ak+2) true 1 u0)]⟩ K
def Aas(Q:QQ):KK:=kE fun st=>finish 0 E0.T [.tmp 2] [] Q st
def Ahy(Q:QQ):KK:=kF 0 (fun st=>Ay 17 E0.P Ci (Ag 17 ac_write_Name).code (mask [3] st) (Aas Q)) fun st=>finish 0 E0.T [.tmp 2] [] Q st
def Mf(K:KK):Ex→St→Prop
 | .normal,st=>Cc 4 E0.P Ci (A9 4 ac_write_Name).code (mask [0,3,8,9] st) K
 | .exit i,st=>K (.exit i) st
 | .goto i,st=>K (.goto i) st
 | .ret,st=>K .ret st
def Aat(K:KK):KK:=kC 1 (fun st=>Ay 16 E0.P Ci (Ag 16 ac_write_Name).code (mask [0,3,8,9] st) (Mf K)) K
def Pm(K:KK):Ex→St→Prop
 | .normal,st=>Ay 13 E0.P Ci (Ag 13 ac_write_Name).code (mask [0,3,5,8,9] st) (Aat K)
 | .exit i,st=>(match (i.beq 1:Bool)with
 |true=>Ay 16 E0.P Ci (Ag 16 ac_write_Name).code (mask [0,3,8,9] st) (Mf K)
 |false=>K (.exit i) st)
 | .goto i,st=>K (.goto i) st
 | .ret,st=>K .ret st
theorem Adm(t0:LB)(t8 t9:Int)(u0:LL)(K:KK)(h:
 (Br (decide (t9<t8))
 (Am ((0:Int)≤t9∧t9<(↑t0.length:Int))
 (Call E0.P Wz [.imm (.int .u8 ((↑(t0.getD t9.toNat 0).toNat:Int)))] [] fun r0 g0=>
 Am (qW2 g0 r0)
 (Br (rB r0 == true)
 (Call E0.P Lg [.imm (.int .u8 ((↑(t0.getD t9.toNat 0).toNat:Int)))] [] fun r1 g1=>
 Am (qW0 g1 r1)
 (Let (decide (rI r1=(2:Int))) fun x2=>
 Let (bif x2 then !decide ((↑(t0.getD t9.toNat 0).toNat:Int)=(35:Int))else false) fun x3=>
 Sg t0 ((↑(t0.getD t9.toNat 0).toNat:Int)) t8 t9 x3 u0 (Pm K)))
 (Am ((!true)=false)
 (Let (false) fun x4=>
 Let (bif x4 then !decide ((↑(t0.getD t9.toNat 0).toNat:Int)=(35:Int))else false) fun x5=>
 Sg t0 ((↑(t0.getD t9.toNat 0).toNat:Int)) t8 t9 x5 u0 (Pm K))))))
 (K (.exit 0) ⟨[(3, .ptr nL3 0)],[(nL3, .blk Bj [.self nL3, .own (nL3.cell 1)]),((nL3.cell 1), .arr (Ak+2) true 1 u0)]⟩))):J3 t0 t8 t9 u0 K:=Ca (A7 E0 Ci) (Bb Ci) 3 4 (A9 4 ac_write_Name) [0,3,8,9] _ K rfl (kr (by kernel_rfl) h)
theorem Ald(t0:LB)(t5 t8 t9:Int)(t25:Bool)(u0:LL)(K:KK)(h:
 (Br (t25)
 (Am ((u0.length+1)*1≤140737488355328∧u0.length+1≤140737488355328)
 (K (.exit (1)) ⟨[(0,As t0),(3, .ptr nL3 0),(8,Ai t8),(9,Ai t9)],[(nL3, .blk Bj [.self nL3, .own (nL3.cell 1)]),((nL3.cell 1), .arr (Ak+2) true 1 (u0++[[IV.int .u8 t5]]))]⟩))
 (K .normal ⟨[(0,As t0),(3, .ptr nL3 0),(5, .imm (.int .u8 t5)),(8,Ai t8),(9,Ai t9)],[(nL3, .blk Bj [.self nL3, .own (nL3.cell 1)]),((nL3.cell 1), .arr (Ak+2) true 1 u0)]⟩))):Sg t0 t5 t8 t9 t25 u0 K:=Ba (A7 E0 Ci) (Bb Ci) 3 10 (Ag 10 ac_write_Name) [0,3,5,8,9] _ K rfl (kr (by kernel_rfl) h)
theorem Alg(u0:LL)(K:KK)(h:
 (Am (((↑u0.length:Int)=(↑u0.length:Int)∧u0.length≤9223372036854775807)∧
 ∀(r:List IV),r∈u0→Cu [.int .u8] r=true)
 (K .ret ⟨[(2,As (List.map (fun r=>UInt8.ofNat (gI r 0).toNat) u0))],[]⟩))):Ags u0 K:=Ba (A7 E0 Ci) (Bb Ci) 3 17 (Ag 17 ac_write_Name) [] _ K rfl (kr (by kernel_rfl) h)
theorem Alf(t0:LB)(t8 t9:Int)(u0:LL)(K:KK)(h:
 (K .normal ⟨[(0,As t0),(3, .ptr nL3 0),(8,Ai t8),(9,Ai (IntKind.i64.wrap (t9+(1:Int))))],[(nL3, .blk Bj [.self nL3, .own (nL3.cell 1)]),((nL3.cell 1), .arr (Ak+2) true 1 u0)]⟩)):Si t0 t8 t9 u0 K:=Ba (A7 E0 Ci) (Bb Ci) 3 16 (Ag 16 ac_write_Name) [0,3,8,9] _ K rfl (kr (by kernel_rfl) h)
theorem Ale(t0:LB)(t5 t8 t9:Int)(u0:LL)(K:KK)(h:
 (Am ((u0.length+1)*1≤140737488355328∧u0.length+1≤140737488355328)
 (Am ((0:Int)≤(4:Int))
 (Call E0.P Mg [.imm (.int .i64 (IntKind.i64.wrap (t5.fdiv ((2:Int) ^ 4))))] [] fun r0 g0=>
 Am (qW3 g0 r0)
 (Am (((u0++[[IV.int .u8 (35:Int)]]).length+1)*1≤140737488355328∧
 (u0++[[IV.int .u8 (35:Int)]]).length+1≤140737488355328)
 (Call E0.P Mg [.imm (.int .i64 (IntKind.i64.wrap (IntKind.u8.wrap (↑(BitVec.ofInt (8:Nat) t5 &&& BitVec.ofInt (8:Nat) (15:Int)).toNat:Int))))] [] fun r1 g1=>
 Am (qW3 g1 r1)
 (Am (((u0++[[IV.int .u8 (35:Int)]]++[[IV.int .u8 (rI r0)]]).length+1)*1≤
 140737488355328∧
 (u0++[[IV.int .u8 (35:Int)]]++[[IV.int .u8 (rI r0)]]).length+1≤
 140737488355328)
 (K .normal ⟨[(0,As t0),(3, .ptr nL3 0),(8,Ai t8),(9,Ai t9)],[(nL3, .blk Bj [.self nL3, .own (nL3.cell 1)]),((nL3.cell 1), .arr (Ak+2) true 1 (u0++[[IV.int .u8 (35:Int)]]++[[IV.int .u8 (rI r0)]]++[[IV.int .u8 (rI r1)]]))]⟩)))))))):Agr t0 t5 t8 t9 u0 K:=Ba (A7 E0 Ci) (Bb Ci) 3 13 (Ag 13 ac_write_Name) [0,3,8,9] _ K rfl (kr (by kernel_rfl) h)
theorem Aou(Q:QQ)(t2:LB)(h:
 (Q (As t2) [])):Aas Q .ret ⟨[(2,As t2)],[]⟩:=kr (by kernel_rfl) h
theorem Aov(Q:QQ)(u0:LL)(h:
 (Ags u0 (Aas Q))):Ahy Q (.exit 0) ⟨[(3, .ptr nL3 0)],[(nL3, .blk Bj [.self nL3, .own (nL3.cell 1)]),((nL3.cell 1), .arr (Ak+2) true 1 u0)]⟩:=kr (by kernel_rfl) h
theorem Aow(K:KK)(t0:LB)(t8 t9:Int)(u0:LL)(h:
 (J3 t0 t8 t9 u0 K)):Mf K .normal ⟨[(0,As t0),(3, .ptr nL3 0),(8,Ai t8),(9,Ai t9)],[(nL3, .blk Bj [.self nL3, .own (nL3.cell 1)]),((nL3.cell 1), .arr (Ak+2) true 1 u0)]⟩:=kr (by kernel_rfl) h
theorem Aox(K:KK)(t0:LB)(t8 t9:Int)(u0:LL)(h:
 (Si t0 t8 t9 u0 (Mf K))):Aat K .normal ⟨[(0,As t0),(3, .ptr nL3 0),(8,Ai t8),(9,Ai t9)],[(nL3, .blk Bj [.self nL3, .own (nL3.cell 1)]),((nL3.cell 1), .arr (Ak+2) true 1 u0)]⟩:=kr (by kernel_rfl) h
theorem Aoy(K:KK)(t0:LB)(t8 t9:Int)(u0:LL)(h:
 (Si t0 t8 t9 u0 (Mf K))):Pm K (.exit (1)) ⟨[(0,As t0),(3, .ptr nL3 0),(8,Ai t8),(9,Ai t9)],[(nL3, .blk Bj [.self nL3, .own (nL3.cell 1)]),((nL3.cell 1), .arr (Ak+2) true 1 u0)]⟩:=kr (by kernel_rfl) h
theorem Aoz(K:KK)(t0:LB)(t5 t8 t9:Int)(u0:LL)(h:
 (Agr t0 t5 t8 t9 u0 (Aat K))):Pm K .normal ⟨[(0,As t0),(3, .ptr nL3 0),(5, .imm (.int .u8 t5)),(8,Ai t8),(9,Ai t9)],[(nL3, .blk Bj [.self nL3, .own (nL3.cell 1)]),((nL3.cell 1), .arr (Ak+2) true 1 u0)]⟩:=kr (by kernel_rfl) h
theorem Avk:Bw E0.P 25 ac_write_Name.code Ci [.tmp 2]:=Bn _ _ Tryz.f25 [(4,[0,3,8,9],[]),(6,[3],[]),(10,[0,3,5,8,9,25],[0,3,5,8,9]),(12,[0,3,8,9],[]),(13,[0,3,5,8,9],[0,3,8,9]),(16,[0,3,8,9],[0,3,8,9]),(17,[3],[])] [2] _ 41 Tryz.func25 (by kernel_rfl) (by kernel_rfl) (by kernel_rfl) (by kernel_rfl)
theorem Aq2(a0:LB)(Q:QQ)(h:
 (Am (1≤140737488355328∧1≤140737488355328)
 (J3 a0 ((↑a0.length:Int)) ((0:Int)) ([]++[[IV.int .u8 (47:Int)]]) (Ahy Q)))):Call E0.P Wy [As a0] [] Q:=Bd (A7 E0 Ci) (Bb Ci) 3 0 25 ac_write_Name [.tmp 2] Avk _ _ Q rfl rfl (kr (by kernel_rfl) h)
noncomputable def ac_write_Bytes:AC:=(Bf [(4,[0,3,8,9],[]),(6,[3],[]),(16,[3],[])] [2] (codeOf Tryz.f26) 0).1
abbrev Gj:Nat:=37
def K9(t0:LB)(t8 t9:Int)(u0:LL)(K:KK):Prop:=Cc 4 E0.P Gj (A9 4 ac_write_Bytes).code ⟨[(0,As t0),(3, .ptr nL3 0),(8,Ai t8),(9,Ai t9)],[(nL3, .blk Bj [.self nL3, .own (nL3.cell 1)]),((nL3.cell 1), .arr (Ak+2) true 1 u0)]⟩ K
def Ae3(u0:LL)(K:KK):Prop:=Ay 16 E0.P Gj (Ag 16 ac_write_Bytes).code ⟨[(3, .ptr nL3 0)],[(nL3, .blk Bj [.self nL3, .own (nL3.cell 1)]),((nL3.cell 1), .arr (Ak+2) true 1 u0)]⟩ K
def Y9(Q:QQ):KK:=kE fun st=>finish 0 E0.T [.tmp 2] [] Q st
def Oc(Q:QQ):KK:=kF 0 (fun st=>Ay 16 E0.P Gj (Ag 16 ac_write_Bytes).code (mask [3] st) (Y9 Q)) fun st=>finish 0 E0.T [.tmp 2] [] Q st
theorem Ab0(t0:LB)(t8 t9:Int)(u0:LL)(K:KK)(h:
 (Br (decide (t9<t8))
 (Am ((0:Int)≤t9∧t9<(↑t0.length:Int))
 (Call E0.P Wz [.imm (.int .u8 ((↑(t0.getD t9.toNat 0).toNat:Int)))] [] fun r0 g0=>
 Am (qW2 g0 r0)
 (Br (!rB r0)
 (Call E0.P Aaz [As t0] [] fun r1 g1=>
 Am (qW1 g1 r1)
 (Am ((↑((1:Nat)+(rS r1).length):Int)≤(9223372036854775807:Int))
 (K .ret ⟨[(2,As ([(60:UInt8)]++rS r1))],[]⟩)))
 (Let (bif decide ((↑(t0.getD t9.toNat 0).toNat:Int)=(40:Int))then true
 else decide ((↑(t0.getD t9.toNat 0).toNat:Int)=(41:Int))) fun x2=>
 Let (bif x2 then true else decide ((↑(t0.getD t9.toNat 0).toNat:Int)=(92:Int))) fun x3=>
 Br (x3)
 (Am ((u0.length+1)*1≤140737488355328∧u0.length+1≤140737488355328)
 (Am (((u0++[[IV.int .u8 (92:Int)]]).length+1)*1≤140737488355328∧
 (u0++[[IV.int .u8 (92:Int)]]).length+1≤140737488355328)
 (K9 t0 t8 (IntKind.i64.wrap (t9+(1:Int))) (u0++[[IV.int .u8 (92:Int)]]++[[IV.int .u8 (↑(t0.getD t9.toNat 0).toNat:Int)]]) K)))
 (Am ((u0.length+1)*1≤140737488355328∧u0.length+1≤140737488355328)
 (K9 t0 t8 (IntKind.i64.wrap (t9+(1:Int))) (u0++[[IV.int .u8 (↑(t0.getD t9.toNat 0).toNat:Int)]]) K))))))
 (K (.exit 0) ⟨[(3, .ptr nL3 0)],[(nL3, .blk Bj [.self nL3, .own (nL3.cell 1)]),((nL3.cell 1), .arr (Ak+2) true 1 u0)]⟩))):K9 t0 t8 t9 u0 K:=Ca (A7 E0 Gj) (Bb Gj) 3 4 (A9 4 ac_write_Bytes) [0,3,8,9] _ K rfl (kr (by kernel_rfl) h)
theorem Akq(u0:LL)(K:KK)(h:
 (Am ((u0.length+1)*1≤140737488355328∧u0.length+1≤140737488355328)
 (Am (((↑(u0++[[IV.int .u8 (41:Int)]]).length:Int)=
 (↑(u0++[[IV.int .u8 (41:Int)]]).length:Int)∧
 (u0++[[IV.int .u8 (41:Int)]]).length≤9223372036854775807)∧
 ∀(r:List IV),r∈u0++[[IV.int .u8 (41:Int)]]→Cu [.int .u8] r=true)
 (K .ret ⟨[(2,As (List.map (fun r=>UInt8.ofNat (gI r 0).toNat) (u0++[[IV.int .u8 (41:Int)]])))],[]⟩)))):Ae3 u0 K:=Ba (A7 E0 Gj) (Bb Gj) 3 16 (Ag 16 ac_write_Bytes) [] _ K rfl (kr (by kernel_rfl) h)
theorem Aly(Q:QQ)(t2:LB)(h:
 (Q (As t2) [])):Y9 Q .ret ⟨[(2,As t2)],[]⟩:=kr (by kernel_rfl) h
theorem Alz(Q:QQ)(t2:LB)(h:
 (Q (As t2) [])):Oc Q .ret ⟨[(2,As t2)],[]⟩:=kr (by kernel_rfl) h
theorem Al0(Q:QQ)(u0:LL)(h:
 (Ae3 u0 (Y9 Q))):Oc Q (.exit 0) ⟨[(3, .ptr nL3 0)],[(nL3, .blk Bj [.self nL3, .own (nL3.cell 1)]),((nL3.cell 1), .arr (Ak+2) true 1 u0)]⟩:=kr (by kernel_rfl) h
theorem Att:Bw E0.P 26 ac_write_Bytes.code Gj [.tmp 2]:=Bn _ _ Tryz.f26 [(4,[0,3,8,9],[]),(6,[3],[]),(16,[3],[])] [2] _ 37 Tryz.func26 (by kernel_rfl) (by kernel_rfl) (by kernel_rfl) (by kernel_rfl)
theorem Apn(a0:LB)(Q:QQ)(h:
 (Am (1≤140737488355328∧1≤140737488355328)
 (K9 a0 ((↑a0.length:Int)) ((0:Int)) ([]++[[IV.int .u8 (40:Int)]]) (Oc Q)))):Call E0.P Aa0 [As a0] [] Q:=Bd (A7 E0 Gj) (Bb Gj) 3 0 26 ac_write_Bytes [.tmp 2] Att _ _ Q rfl rfl (kr (by kernel_rfl) h)
noncomputable def ac_value_Check:AC:=(Bf [] [4] (codeOf Tryz.f12) 0).1
abbrev Aa9:Nat:=8
theorem Atq:Bw E0.P 12 ac_value_Check.code Aa9 [.tmp 4]:=Bn _ _ Tryz.f12 [] [4] _ 8 Tryz.func12 (by kernel_rfl) (by kernel_rfl) (by kernel_rfl) (by kernel_rfl)
theorem Apk(a0_0 a0_1 a0_2:Int)(a0_3:LB)(a0_4 a0_5:LL)(a1:Bool)(Q:QQ)(h:
 (Call E0.P P5 [.imm (.agg [.int .i64 a0_0, .int .i64 a0_1, .int .i64 a0_2, .str a0_3, .sl .any 6 a0_4, .sl .any 7 a0_5]),Ab a1,Ai 0] [] fun r0 g0=>
 Am (qW0 g0 r0)
 (Q (Ai (rI r0)) []))):Call E0.P U1 [.imm (.agg [.int .i64 a0_0, .int .i64 a0_1, .int .i64 a0_2, .str a0_3, .sl .any 6 a0_4, .sl .any 7 a0_5]),Ab a1] [] Q:=Bd (A7 E0 Aa9) (Bb Aa9) 3 0 12 ac_value_Check [.tmp 4] Atq _ _ Q rfl rfl (kr (by kernel_rfl) h)
noncomputable def ac_write_plain:AC:=(Bf [(13,[1,3,33,34,35],[]),(15,[1,3],[]),(21,[1,3,48,49,50],[]),(23,[1,3],[]),(28,[1,1000003],[])] [2] (codeOf Tryz.f16) 0).1
abbrev Cx:Nat:=79
def Qy(t33r:LL)(t34 t35:Int)(u0 u1 u2:Int)(u3:LB)(u4 u5 u6:LL)(K:KK):Prop:=Cc 13 E0.P Cx (A9 13 ac_write_plain).code ⟨[(1, .ptr Fp 0),(3, .own nL3),(33,Al 6 t33r),(34,Ai t34),(35,Ai t35)],[(Fp, .blk Ae [Ai u0,Ai u1,Ai u2,As u3,Al 6 u4,Al 7 u5]),(nL3, .arr (Ov+2) true 1 u6)]⟩ K
def Qz(t48r:LL)(t49 t50:Int)(u0 u1 u2:Int)(u3:LB)(u4 u5 u6:LL)(K:KK):Prop:=Cc 21 E0.P Cx (A9 21 ac_write_plain).code ⟨[(1, .ptr Fp 0),(3, .own nL3),(48,Al 7 t48r),(49,Ai t49),(50,Ai t50)],[(Fp, .blk Ae [Ai u0,Ai u1,Ai u2,As u3,Al 6 u4,Al 7 u5]),(nL3, .arr (Ov+2) true 1 u6)]⟩ K
def Jy(t3r:LL)(u0 u1 u2:Int)(u3:LB)(u4 u5:LL)(K:KK):Prop:=Ay 28 E0.P Cx (Ag 28 ac_write_plain).code ⟨[(1, .ptr Fp 0),(3,Al 1 t3r)],[(Fp, .blk Ae [Ai u0,Ai u1,Ai u2,As u3,Al 6 u4,Al 7 u5])]⟩ K
def Ec(Q:QQ):KK:=kE fun st=>finish 0 E0.T [.tmp 2] [] Q st
def Agu(Q:QQ):Ex→St→Prop
 | .normal,st=>Ay 28 E0.P Cx (Ag 28 ac_write_plain).code (mask [1,1000003] st) (Ec Q)
 | .exit i,st=>(match (i.beq 1:Bool)with
 |true=>Ay 28 E0.P Cx (Ag 28 ac_write_plain).code (mask [1,1000003] st) (Ec Q)
 |false=>(match (i.beq 0:Bool)with
 |true=>Ay 28 E0.P Cx (Ag 28 ac_write_plain).code (mask [1,1000003] st) (Ec Q)
 |false=>False))
 | .goto _,_=>False
 | .ret,st=>finish 0 E0.T [.tmp 2] [] Q st
def Agv(Q:QQ):Ex→St→Prop
 | .normal,st=>Ay 28 E0.P Cx (Ag 28 ac_write_plain).code (mask [1,1000003] st) (Ec Q)
 | .exit i,st=>(match (i.beq 3:Bool)with
 |true=>Ay 28 E0.P Cx (Ag 28 ac_write_plain).code (mask [1,1000003] st) (Ec Q)
 |false=>(match (i.beq 0:Bool)with
 |true=>Ay 28 E0.P Cx (Ag 28 ac_write_plain).code (mask [1,1000003] st) (Ec Q)
 |false=>False))
 | .goto _,_=>False
 | .ret,st=>finish 0 E0.T [.tmp 2] [] Q st
theorem Aag(t33r:LL)(t34 t35:Int)(u0 u1 u2:Int)(u3:LB)(u4 u5 u6:LL)(K:KK)(h:
 (Br (decide (t35<t34))
 (Am (((0:Int)≤t35∧t35<(↑t33r.length:Int))∧
 Cu
 [.int .i64, .int .i64, .int .i64, .str, .sl 6 Ae,
 .sl 7 Aq]
 (t33r.getD t35.toNat [])=
 true)
 (Call E0.P P6 [.imm (.agg [.int .i64 (gI (t33r.getD t35.toNat []) 0), .int .i64 (gI (t33r.getD t35.toNat []) 1), .int .i64 (gI (t33r.getD t35.toNat []) 2), .str (gS (t33r.getD t35.toNat []) 3), .sl .any 6 (gR (t33r.getD t35.toNat []) 4), .sl .any 7 (gR (t33r.getD t35.toNat []) 5)])] [] fun r0 g0=>
 Am (qW1 g0 r0)
 (Am ((u6.length+1)*16≤140737488355328∧u6.length+1≤140737488355328)
 (Qy t33r t34 (IntKind.i64.wrap (t35+(1:Int))) u0 u1 u2 u3 u4 u5 (u6++[[IV.str (rS r0)]]) K))))
 (K (.exit (1)) ⟨[(1, .ptr Fp 0),(3, .own nL3)],[(Fp, .blk Ae [Ai u0,Ai u1,Ai u2,As u3,Al 6 u4,Al 7 u5]),(nL3, .arr (Ov+2) true 1 u6)]⟩))):Qy t33r t34 t35 u0 u1 u2 u3 u4 u5 u6 K:=Ca (A7 E0 Cx) (Bb Cx) 3 13 (A9 13 ac_write_plain) [1,3,33,34,35] _ K rfl (kr (by kernel_rfl) h)
theorem Aah(t48r:LL)(t49 t50:Int)(u0 u1 u2:Int)(u3:LB)(u4 u5 u6:LL)(K:KK)(h:
 (Br (decide (t50<t49))
 (Am (((0:Int)≤t50∧t50<(↑t48r.length:Int))∧
 Cu
 [.str, .int .i64, .int .i64, .int .i64, .str, .sl 6 Ae,
 .sl 7 Aq]
 (t48r.getD t50.toNat [])=
 true)
 (Call E0.P Wy [As (gS (t48r.getD t50.toNat []) 0)] [] fun r0 g0=>
 Am (qW1 g0 r0)
 (Call E0.P P6 [.imm (.agg [.int .i64 (gI (t48r.getD t50.toNat []) 1), .int .i64 (gI (t48r.getD t50.toNat []) 2), .int .i64 (gI (t48r.getD t50.toNat []) 3), .str (gS (t48r.getD t50.toNat []) 4), .sl .any 6 (gR (t48r.getD t50.toNat []) 5), .sl .any 7 (gR (t48r.getD t50.toNat []) 6)])] [] fun r1 g1=>
 Am (qW1 g1 r1)
 (Call E0.P Sy [.imm (.sl .any 1 [[IV.str (rS r0)],[.str (rS r1)]])] [] fun r2 g2=>
 Am (qW1 g2 r2)
 (Am ((u6.length+1)*16≤140737488355328∧u6.length+1≤140737488355328)
 (Qz t48r t49 (IntKind.i64.wrap (t50+(1:Int))) u0 u1 u2 u3 u4 u5 (u6++[[IV.str (rS r2)]]) K))))))
 (K (.exit (3)) ⟨[(1, .ptr Fp 0),(3, .own nL3)],[(Fp, .blk Ae [Ai u0,Ai u1,Ai u2,As u3,Al 6 u4,Al 7 u5]),(nL3, .arr (Ov+2) true 1 u6)]⟩))):Qz t48r t49 t50 u0 u1 u2 u3 u4 u5 u6 K:=Ca (A7 E0 Cx) (Bb Cx) 3 21 (A9 21 ac_write_plain) [1,3,48,49,50] _ K rfl (kr (by kernel_rfl) h)
theorem Akr(t3r:LL)(u0 u1 u2:Int)(u3:LB)(u4 u5:LL)(K:KK)(h:
 (Call E0.P Zq [Ai u0,Al 1 t3r] [] fun r0 g0=>
 Am (qW1 g0 r0)
 (K .ret ⟨[(2,As (rS r0))],[]⟩))):Jy t3r u0 u1 u2 u3 u4 u5 K:=Ba (A7 E0 Cx) (Bb Cx) 3 28 (Ag 28 ac_write_plain) [] _ K rfl (kr (by kernel_rfl) h)
theorem Al1(Q:QQ)(t2:LB)(h:
 (Q (As t2) [])):Ec Q .ret ⟨[(2,As t2)],[]⟩:=kr (by kernel_rfl) h
theorem Al2(Q:QQ)(u0 u1 u2:Int)(u3:LB)(u4 u5 u6:LL)(h:
 (Jy u6 u0 u1 u2 u3 u4 u5 (Ec Q))):Agu Q (.exit (1)) ⟨[(1, .ptr Fp 0),(3, .own nL3)],[(Fp, .blk Ae [Ai u0,Ai u1,Ai u2,As u3,Al 6 u4,Al 7 u5]),(nL3, .arr (Ov+2) true 1 u6)]⟩:=kr (by kernel_rfl) h
theorem Al3(Q:QQ)(u0 u1 u2:Int)(u3:LB)(u4 u5 u6:LL)(h:
 (Jy u6 u0 u1 u2 u3 u4 u5 (Ec Q))):Agv Q (.exit (3)) ⟨[(1, .ptr Fp 0),(3, .own nL3)],[(Fp, .blk Ae [Ai u0,Ai u1,Ai u2,As u3,Al 6 u4,Al 7 u5]),(nL3, .arr (Ov+2) true 1 u6)]⟩:=kr (by kernel_rfl) h
theorem Atu:Bw E0.P 16 ac_write_plain.code Cx [.tmp 2]:=Bn _ _ Tryz.f16 [(13,[1,3,33,34,35],[]),(15,[1,3],[]),(21,[1,3,48,49,50],[]),(23,[1,3],[]),(28,[1,1000003],[])] [2] _ 79 Tryz.func16 (by kernel_rfl) (by kernel_rfl) (by kernel_rfl) (by kernel_rfl)
theorem Apo(a0_0 a0_1 a0_2:Int)(a0_3:LB)(a0_4 a0_5:LL)(Q:QQ)(h:
 (Br (decide (a0_0=(1:Int)))
 (Call E0.P Ac0 [Ai a0_1] [] fun r0 g0=>
 Am (qW1 g0 r0)
 (Q (As (rS r0)) []))
 (Br (decide (a0_0=(2:Int)))
 (Call E0.P Rq [Ai a0_1] [] fun r1 g1=>
 Am (qW1 g1 r1)
 (Q (As (rS r1)) []))
 (Br (decide (a0_0=(3:Int)))
 (Call E0.P Wy [As a0_3] [] fun r2 g2=>
 Am (qW1 g2 r2)
 (Q (As (rS r2)) []))
 (Br (decide (a0_0=(4:Int)))
 (Call E0.P Aa0 [As a0_3] [] fun r3 g3=>
 Am (qW1 g3 r3)
 (Q (As (rS r3)) []))
 (Br (decide (a0_0=(5:Int)))
 (Qy a0_4 ((↑a0_4.length:Int)) ((0:Int)) a0_0 a0_1 a0_2 a0_3 a0_4 a0_5 [] (Agu Q))
 (Br (decide (a0_0=(6:Int)))
 (Qz a0_5 ((↑a0_5.length:Int)) ((0:Int)) a0_0 a0_1 a0_2 a0_3 a0_4 a0_5 [] (Agv Q))
 (Br (decide (a0_0=(7:Int)))
 (Call E0.P Rq [Ai a0_1] [] fun r4 g4=>
 Am (qW1 g4 r4)
 (Call E0.P Rq [Ai a0_2] [] fun r5 g5=>
 Am (qW1 g5 r5)
 (Jy [[IV.str (rS r4)],[.str (rS r5)]] a0_0 a0_1 a0_2 a0_3 a0_4 a0_5 (Ec Q))))
 (Jy [] a0_0 a0_1 a0_2 a0_3 a0_4 a0_5 (Ec Q)))))))))):Call E0.P P6 [.imm (.agg [.int .i64 a0_0, .int .i64 a0_1, .int .i64 a0_2, .str a0_3, .sl .any 6 a0_4, .sl .any 7 a0_5])] [] Q:=Bd (A7 E0 Cx) (Bb Cx) 3 0 16 ac_write_plain [.tmp 2] Atu _ _ Q rfl rfl (kr (by kernel_rfl) h)
noncomputable def ac_write_seen:AC:=(Bf [] [2] (codeOf Tryz.f48) 0).1
abbrev Ac7:Nat:=9
theorem Avm:Bw E0.P 48 ac_write_seen.code Ac7 [.tmp 2]:=Bn _ _ Tryz.f48 [] [2] _ 9 Tryz.func48 (by kernel_rfl) (by kernel_rfl) (by kernel_rfl) (by kernel_rfl)
theorem Aq4(a0:Int)(Q:QQ)(h:
 (Let (bif decide ((32:Int)≤a0)then decide (a0≤(126:Int))else false) fun x0=>
 Q (Ab x0) [])):Call E0.P Wz [.imm (.int .u8 a0)] [] Q:=Bd (A7 E0 Ac7) (Bb Ac7) 3 0 48 ac_write_seen [.tmp 2] Avm _ _ Q rfl rfl (kr (by kernel_rfl) h)
noncomputable def ac_hexa_Encode:AC:=(Bf [(3,[0,3,6,7],[]),(5,[3],[]),(10,[3],[])] [2] (codeOf Tryz.f52) 0).1
abbrev Gi:Nat:=27
def Sq(t0:LB)(t6 t7:Int)(u0:LL)(K:KK):Prop:=Cc 3 E0.P Gi (A9 3 ac_hexa_Encode).code ⟨[(0,As t0),(3, .ptr nL3 0),(6,Ai t6),(7,Ai t7)],[(nL3, .blk Bj [.self nL3, .own (nL3.cell 1)]),((nL3.cell 1), .arr (Ak+2) true 1 u0)]⟩ K
def Aew(u0:LL)(K:KK):Prop:=Ay 10 E0.P Gi (Ag 10 ac_hexa_Encode).code ⟨[(3, .ptr nL3 0)],[(nL3, .blk Bj [.self nL3, .own (nL3.cell 1)]),((nL3.cell 1), .arr (Ak+2) true 1 u0)]⟩ K
def Yv(Q:QQ):KK:=kE fun st=>finish 0 E0.T [.tmp 2] [] Q st
def Agt(Q:QQ):KK:=kF 0 (fun st=>Ay 10 E0.P Gi (Ag 10 ac_hexa_Encode).code (mask [3] st) (Yv Q)) fun st=>finish 0 E0.T [.tmp 2] [] Q st
theorem Abx(t0:LB)(t6 t7:Int)(u0:LL)(K:KK)(h:
 (Br (decide (t7<t6))
 (Am ((0:Int)≤t7∧t7<(↑t0.length:Int))
 (Am ((0:Int)≤(4:Int))
 (Call E0.P Mg [.imm (.int .i64 (IntKind.i64.wrap ((↑(t0.getD t7.toNat 0).toNat:Int).fdiv ((2:Int) ^ 4))))] [] fun r0 g0=>
 Am (qW3 g0 r0)
 (Am ((u0.length+1)*1≤140737488355328∧u0.length+1≤140737488355328)
 (Am ((0:Int)≤t7∧t7<(↑t0.length:Int))
 (Call E0.P Mg [.imm (.int .i64 (IntKind.i64.wrap
 (IntKind.u8.wrap
 (↑(BitVec.ofInt (8:Nat) (↑(t0.getD t7.toNat 0).toNat:Int) &&&
 BitVec.ofInt (8:Nat) (15:Int)).toNat:
 Int))))] [] fun r1 g1=>
 Am (qW3 g1 r1)
 (Am (((u0++[[IV.int .u8 (rI r0)]]).length+1)*1≤140737488355328∧
 (u0++[[IV.int .u8 (rI r0)]]).length+1≤140737488355328)
 (Sq t0 t6 (IntKind.i64.wrap (t7+(1:Int))) (u0++[[IV.int .u8 (rI r0)]]++[[IV.int .u8 (rI r1)]]) K))))))))
 (K (.exit 0) ⟨[(3, .ptr nL3 0)],[(nL3, .blk Bj [.self nL3, .own (nL3.cell 1)]),((nL3.cell 1), .arr (Ak+2) true 1 u0)]⟩))):Sq t0 t6 t7 u0 K:=Ca (A7 E0 Gi) (Bb Gi) 3 3 (A9 3 ac_hexa_Encode) [0,3,6,7] _ K rfl (kr (by kernel_rfl) h)
theorem Akj(u0:LL)(K:KK)(h:
 (Am ((u0.length+1)*1≤140737488355328∧u0.length+1≤140737488355328)
 (Am (((↑(u0++[[IV.int .u8 (62:Int)]]).length:Int)=
 (↑(u0++[[IV.int .u8 (62:Int)]]).length:Int)∧
 (u0++[[IV.int .u8 (62:Int)]]).length≤9223372036854775807)∧
 ∀(r:List IV),r∈u0++[[IV.int .u8 (62:Int)]]→Cu [.int .u8] r=true)
 (K .ret ⟨[(2,As (List.map (fun r=>UInt8.ofNat (gI r 0).toNat) (u0++[[IV.int .u8 (62:Int)]])))],[]⟩)))):Aew u0 K:=Ba (A7 E0 Gi) (Bb Gi) 3 10 (Ag 10 ac_hexa_Encode) [] _ K rfl (kr (by kernel_rfl) h)
theorem Ali(Q:QQ)(t2:LB)(h:
 (Q (As t2) [])):Yv Q .ret ⟨[(2,As t2)],[]⟩:=kr (by kernel_rfl) h
theorem Alj(Q:QQ)(u0:LL)(h:
 (Aew u0 (Yv Q))):Agt Q (.exit 0) ⟨[(3, .ptr nL3 0)],[(nL3, .blk Bj [.self nL3, .own (nL3.cell 1)]),((nL3.cell 1), .arr (Ak+2) true 1 u0)]⟩:=kr (by kernel_rfl) h
theorem Atm:Bw E0.P 52 ac_hexa_Encode.code Gi [.tmp 2]:=Bn _ _ Tryz.f52 [(3,[0,3,6,7],[]),(5,[3],[]),(10,[3],[])] [2] _ 27 Tryz.func52 (by kernel_rfl) (by kernel_rfl) (by kernel_rfl) (by kernel_rfl)
theorem Apg(a0:LB)(Q:QQ)(h:
 (Sq a0 ((↑a0.length:Int)) ((0:Int)) [] (Agt Q))):Call E0.P Aaz [As a0] [] Q:=Bd (A7 E0 Gi) (Bb Gi) 3 0 52 ac_hexa_Encode [.tmp 2] Atm _ _ Q rfl rfl (kr (by kernel_rfl) h)
noncomputable def ac_value_check:AC:=(Bf [(6,[2,3,23,24,25],[]),(8,[2,3],[]),(15,[2,3],[]),(18,[2,11,39,40,41],[]),(20,[],[]),(25,[2,11,13,39,40,41],[2,11,39,40,41]),(30,[2,11,39,40,41],[2,11,39,40,41]),(31,[],[])] [6] (codeOf Tryz.f22) 0).1
abbrev Bu:Nat:=75
def Sv(t2:Int)(t23r:LL)(t24 t25:Int)(u0 u1 u2:Int)(u3:LB)(u4 u5:LL)(K:KK):Prop:=Cc 6 E0.P Bu (A9 6 ac_value_check).code ⟨[(2,Ai t2),(3, .ptr nL3 0),(23,Al 6 t23r),(24,Ai t24),(25,Ai t25)],[(nL3, .blk Ae [Ai u0,Ai u1,Ai u2,As u3,Al 6 u4,Al 7 u5])]⟩ K
def Aez(t2 u0:Int)(u1 u2:Int)(u3:LB)(u4 u5:LL)(K:KK):Prop:=Ay 15 E0.P Bu (Ag 15 ac_value_check).code ⟨[(2,Ai t2),(3, .ptr nL3 0)],[(nL3, .blk Ae [Ai u0,Ai u1,Ai u2,As u3,Al 6 u4,Al 7 u5])]⟩ K
def Qv(t2:Int)(t39r:LL)(t40 t41:Int)(u0:List (List UInt8 × Int))(K:KK):Prop:=Cc 18 E0.P Bu (A9 18 ac_value_check).code ⟨[(2,Ai t2),(11, .mp Zt),(39,Al 7 t39r),(40,Ai t40),(41,Ai t41)],[(Zt, .map u0)]⟩ K
def Qn(t2:Int)(t39r:LL)(t40 t41:Int)(u0:List (List UInt8 × Int))(u1:LB)(u2 u3 u4:Int)(u5:LB)(u6 u7:LL)(K:KK):Prop:=Ay 25 E0.P Bu (Ag 25 ac_value_check).code ⟨[(2,Ai t2),(11, .mp Zt),(13, .ptr Bbo 0),(39,Al 7 t39r),(40,Ai t40),(41,Ai t41)],[(Zt, .map u0),(Bbo, .blk Aq [As u1,Ai u2,Ai u3,Ai u4,As u5,Al 6 u6,Al 7 u7])]⟩ K
def Ae1(K:KK):Prop:=Ay 31 E0.P Bu (Ag 31 ac_value_check).code ⟨[],[]⟩ K
def Ae0(t2:Int)(t39r:LL)(t40 t41:Int)(u0:List (List UInt8 × Int))(K:KK):Prop:=Ay 30 E0.P Bu (Ag 30 ac_value_check).code ⟨[(2,Ai t2),(11, .mp Zt),(39,Al 7 t39r),(40,Ai t40),(41,Ai t41)],[(Zt, .map u0)]⟩ K
def Y5(Q:QQ):KK:=kE fun st=>finish 0 E0.T [.tmp 6] [] Q st
def Y6(Q:QQ):KK:=kF 0 (fun st=>Ay 15 E0.P Bu (Ag 15 ac_value_check).code (mask [2,3] st) (Y5 Q)) fun st=>finish 0 E0.T [.tmp 6] [] Q st
def Y7(K:KK):KK:=kP [] K
def K3(K:KK):KK:=kC 2 (fun st=>Ay 31 E0.P Bu (Ag 31 ac_value_check).code (mask [] st) (Y7 K)) K
def Y8(K:KK):Ex→St→Prop
 | .normal,st=>Cc 18 E0.P Bu (A9 18 ac_value_check).code (mask [2,11,39,40,41] st) K
 | .exit i,st=>K (.exit i) st
 | .goto i,st=>K (.goto i) st
 | .ret,st=>K .ret st
def Ob(K:KK):KK:=kC 3 (fun st=>Ay 30 E0.P Bu (Ag 30 ac_value_check).code (mask [2,11,39,40,41] st) (Y8 K)) K
theorem Abz(t2:Int)(t23r:LL)(t24 t25:Int)(u0 u1 u2:Int)(u3:LB)(u4 u5:LL)(K:KK)(h:
 (Br (decide (t25<t24))
 (Am (((0:Int)≤t25∧t25<(↑t23r.length:Int))∧
 Cu
 [.int .i64, .int .i64, .int .i64, .str, .sl 6 Ae,
 .sl 7 Aq]
 (t23r.getD t25.toNat [])=
 true)
 (Call E0.P P5 [.imm (.agg [.int .i64 (gI (t23r.getD t25.toNat []) 0), .int .i64 (gI (t23r.getD t25.toNat []) 1), .int .i64 (gI (t23r.getD t25.toNat []) 2), .str (gS (t23r.getD t25.toNat []) 3), .sl .any 6 (gR (t23r.getD t25.toNat []) 4), .sl .any 7 (gR (t23r.getD t25.toNat []) 5)]),Ab false,Ai (IntKind.i64.wrap (t2+(1:Int)))] [] fun r0 g0=>
 Am (qW0 g0 r0)
 (Br (!decide (rI r0=(0:Int)))
 (K .ret ⟨[(6,Ai (rI r0))],[]⟩)
 (Sv t2 t23r t24 (IntKind.i64.wrap (t25+(1:Int))) u0 u1 u2 u3 u4 u5 K))))
 (K (.exit 0) ⟨[(2,Ai t2),(3, .ptr nL3 0)],[(nL3, .blk Ae [Ai u0,Ai u1,Ai u2,As u3,Al 6 u4,Al 7 u5])]⟩))):Sv t2 t23r t24 t25 u0 u1 u2 u3 u4 u5 K:=Ca (A7 E0 Bu) (Bb Bu) 3 6 (A9 6 ac_value_check) [2,3,23,24,25] _ K rfl (kr (by kernel_rfl) h)
theorem Akm(t2 u0:Int)(u1 u2:Int)(u3:LB)(u4 u5:LL)(K:KK)(h:
 (Qv t2 u5 ((↑u5.length:Int)) ((0:Int)) [] (K3 K))):Aez t2 u0 u1 u2 u3 u4 u5 K:=Ba (A7 E0 Bu) (Bb Bu) 3 15 (Ag 15 ac_value_check) [] _ K rfl (kr (by kernel_rfl) h)
theorem Aaf(t2:Int)(t39r:LL)(t40 t41:Int)(u0:List (List UInt8 × Int))(K:KK)(h:
 (Br (decide (t41<t40))
 (Am (((0:Int)≤t41∧t41<(↑t39r.length:Int))∧
 Cu
 [.str, .int .i64, .int .i64, .int .i64, .str, .sl 6 Ae,
 .sl 7 Aq]
 (t39r.getD t41.toNat [])=
 true)
 (Br (decide ((127:Int)<(↑(gS (t39r.getD t41.toNat []) (0:Nat)).length:Int)) == false)
 (Call E0.P Ua [As (gS (t39r.getD t41.toNat []) 0)] [] fun r0 g0=>
 Am (qW2 g0 r0)
 (Let (rB r0) fun x1=>
 Let (bif x1 then true else decide ((0:Int)<Dm u0 (gS (t39r.getD t41.toNat []) 0))) fun x2=>
 Br (x2)
 (K .ret ⟨[(6,Ai 11)],[]⟩)
 (Qn t2 t39r t40 t41 u0 (gS (t39r.getD t41.toNat []) 0) (gI (t39r.getD t41.toNat []) 1) (gI (t39r.getD t41.toNat []) 2) (gI (t39r.getD t41.toNat []) 3) (gS (t39r.getD t41.toNat []) 4) (gR (t39r.getD t41.toNat []) 5) (gR (t39r.getD t41.toNat []) 6) (Ob K))))
 (Am ((!false)=true)
 (Let (true) fun x3=>
 Let (bif x3 then true else decide ((0:Int)<Dm u0 (gS (t39r.getD t41.toNat []) 0))) fun x4=>
 Br (x4)
 (K .ret ⟨[(6,Ai 11)],[]⟩)
 (Qn t2 t39r t40 t41 u0 (gS (t39r.getD t41.toNat []) 0) (gI (t39r.getD t41.toNat []) 1) (gI (t39r.getD t41.toNat []) 2) (gI (t39r.getD t41.toNat []) 3) (gS (t39r.getD t41.toNat []) 4) (gR (t39r.getD t41.toNat []) 5) (gR (t39r.getD t41.toNat []) 6) (Ob K))))))
 (K (.exit (2)) ⟨[],[]⟩))):Qv t2 t39r t40 t41 u0 K:=Ca (A7 E0 Bu) (Bb Bu) 3 18 (A9 18 ac_value_check) [2,11,39,40,41] _ K rfl (kr (by kernel_rfl) h)
theorem Akn(t2:Int)(t39r:LL)(t40 t41:Int)(u0:List (List UInt8 × Int))(u1:LB)(u2 u3 u4:Int)(u5:LB)(u6 u7:LL)(K:KK)(h:
 (Call E0.P P5 [.imm (.agg [.int .i64 u2, .int .i64 u3, .int .i64 u4, .str u5, .sl .any 6 u6, .sl .any 7 u7]),Ab false,Ai (IntKind.i64.wrap (t2+(1:Int)))] [] fun r0 g0=>
 Am (qW0 g0 r0)
 (Br (!decide (rI r0=(0:Int)))
 (K .ret ⟨[(6,Ai (rI r0))],[]⟩)
 (K .normal ⟨[(2,Ai t2),(11, .mp Zt),(39,Al 7 t39r),(40,Ai t40),(41,Ai t41)],[(Zt, .map (Vi u0 u1 (IntKind.i64.wrap (Dm u0 u1+(1:Int)))))]⟩)))):Qn t2 t39r t40 t41 u0 u1 u2 u3 u4 u5 u6 u7 K:=Ba (A7 E0 Bu) (Bb Bu) 3 25 (Ag 25 ac_value_check) [2,11,39,40,41] _ K rfl (kr (by kernel_rfl) h)
theorem Akp(K:KK)(h:
 (K .ret ⟨[(6,Ai 0)],[]⟩)):Ae1 K:=Ba (A7 E0 Bu) (Bb Bu) 3 31 (Ag 31 ac_value_check) [] _ K rfl (kr (by kernel_rfl) h)
theorem Ako(t2:Int)(t39r:LL)(t40 t41:Int)(u0:List (List UInt8 × Int))(K:KK)(h:
 (K .normal ⟨[(2,Ai t2),(11, .mp Zt),(39,Al 7 t39r),(40,Ai t40),(41,Ai (IntKind.i64.wrap (t41+(1:Int))))],[(Zt, .map u0)]⟩)):Ae0 t2 t39r t40 t41 u0 K:=Ba (A7 E0 Bu) (Bb Bu) 3 30 (Ag 30 ac_value_check) [2,11,39,40,41] _ K rfl (kr (by kernel_rfl) h)
theorem Alq(Q:QQ)(t6:Int)(h:
 (Q (Ai t6) [])):Y5 Q .ret ⟨[(6,Ai t6)],[]⟩:=kr (by kernel_rfl) h
theorem Alr(Q:QQ)(t6:Int)(h:
 (Q (Ai t6) [])):Y6 Q .ret ⟨[(6,Ai t6)],[]⟩:=kr (by kernel_rfl) h
theorem Als(Q:QQ)(t2 u0:Int)(u1 u2:Int)(u3:LB)(u4 u5:LL)(h:
 (Aez t2 u0 u1 u2 u3 u4 u5 (Y5 Q))):Y6 Q (.exit 0) ⟨[(2,Ai t2),(3, .ptr nL3 0)],[(nL3, .blk Ae [Ai u0,Ai u1,Ai u2,As u3,Al 6 u4,Al 7 u5])]⟩:=kr (by kernel_rfl) h
theorem Alt(K:KK)(t6:Int)(h:
 (K .ret ⟨[(6,Ai t6)],[]⟩)):Y7 K .ret ⟨[(6,Ai t6)],[]⟩:=kr (by kernel_rfl) h
theorem Abw(K:KK)(t6:Int)(h:
 (K .ret ⟨[(6,Ai t6)],[]⟩)):K3 K .ret ⟨[(6,Ai t6)],[]⟩:=kr (by kernel_rfl) h
theorem Alu(K:KK)(h:
 (Ae1 (Y7 K))):K3 K (.exit (2)) ⟨[],[]⟩:=kr (by kernel_rfl) h
theorem Alv(K:KK)(t2:Int)(t39r:LL)(t40 t41:Int)(u0:List (List UInt8 × Int))(h:
 (Qv t2 t39r t40 t41 u0 K)):Y8 K .normal ⟨[(2,Ai t2),(11, .mp Zt),(39,Al 7 t39r),(40,Ai t40),(41,Ai t41)],[(Zt, .map u0)]⟩:=kr (by kernel_rfl) h
theorem Alw(K:KK)(t6:Int)(h:
 (K .ret ⟨[(6,Ai t6)],[]⟩)):Ob K .ret ⟨[(6,Ai t6)],[]⟩:=kr (by kernel_rfl) h
theorem Alx(K:KK)(t2:Int)(t39r:LL)(t40 t41:Int)(u0:List (List UInt8 × Int))(h:
 (Ae0 t2 t39r t40 t41 u0 (Y8 K))):Ob K .normal ⟨[(2,Ai t2),(11, .mp Zt),(39,Al 7 t39r),(40,Ai t40),(41,Ai t41)],[(Zt, .map u0)]⟩:=kr (by kernel_rfl) h
theorem Ats:Bw E0.P 22 ac_value_check.code Bu [.tmp 6]:=Bn _ _ Tryz.f22 [(6,[2,3,23,24,25],[]),(8,[2,3],[]),(15,[2,3],[]),(18,[2,11,39,40,41],[]),(20,[],[]),(25,[2,11,13,39,40,41],[2,11,39,40,41]),(30,[2,11,39,40,41],[2,11,39,40,41]),(31,[],[])] [6] _ 75 Tryz.func22 (by kernel_rfl) (by kernel_rfl) (by kernel_rfl) (by kernel_rfl)
theorem Apm(a0_0 a0_1 a0_2:Int)(a0_3:LB)(a0_4 a0_5:LL)(a1:Bool)(a2:Int)(Q:QQ)(h:
 (Call E0.P Afw [.imm (.agg [.int .i64 a0_0, .int .i64 a0_1, .int .i64 a0_2, .str a0_3, .sl .any 6 a0_4, .sl .any 7 a0_5]),Ab a1,Ai a2] [] fun r0 g0=>
 Am (qW0 g0 r0)
 (Br (!decide (rI r0=(0:Int)))
 (Q (Ai (rI r0)) [])
 (Sv a2 a0_4 ((↑a0_4.length:Int)) ((0:Int)) a0_0 a0_1 a0_2 a0_3 a0_4 a0_5 (Y6 Q))))):Call E0.P P5 [.imm (.agg [.int .i64 a0_0, .int .i64 a0_1, .int .i64 a0_2, .str a0_3, .sl .any 6 a0_4, .sl .any 7 a0_5]),Ab a1,Ai a2] [] Q:=Bd (A7 E0 Bu) (Bb Bu) 3 0 22 ac_value_check [.tmp 6] Ats _ _ Q rfl rfl (kr (by kernel_rfl) h)
noncomputable def ac_write_word:AC:=(Bf [] [2] (codeOf Tryz.f23) 0).1
abbrev Ac8:Nat:=5
theorem Avn:Bw E0.P 23 ac_write_word.code Ac8 [.tmp 2]:=Bn _ _ Tryz.f23 [] [2] _ 5 Tryz.func23 (by kernel_rfl) (by kernel_rfl) (by kernel_rfl) (by kernel_rfl)
theorem Aq5(a0:Int)(Q:QQ)(h:
 (Br (decide (a0=(1:Int)))
 (Q (.imm (.str [116,114,117,101])) [])
 (Q (.imm (.str [102,97,108,115,101])) []))):Call E0.P Ac0 [Ai a0] [] Q:=Bd (A7 E0 Ac8) (Bb Ac8) 3 0 23 ac_write_word [.tmp 2] Avn _ _ Q rfl rfl (kr (by kernel_rfl) h)
noncomputable def ac_write_spaced:AC:=(Bf [] [2] (codeOf Tryz.f27) 0).1
abbrev Zy:Nat:=5
theorem Ar4:Bw E0.P 27 ac_write_spaced.code Zy [.tmp 2]:=Bn _ _ Tryz.f27 [] [2] _ 5 Tryz.func27 (by kernel_rfl) (by kernel_rfl) (by kernel_rfl) (by kernel_rfl)
theorem Aoh(a0:LL)(Q:QQ)(h:
 (Call E0.P Agy [Al 1 a0, .imm (.str [32])] [] fun r0 g0=>
 Am (qW1 g0 r0)
 (Q (As (rS r0)) []))):Call E0.P Sy [Al 1 a0] [] Q:=Bd (A7 E0 Zy) (Bb Zy) 3 0 27 ac_write_spaced [.tmp 2] Ar4 _ _ Q rfl rfl (kr (by kernel_rfl) h)
noncomputable def ac_write_around:AC:=(Bf [(2,[0,1,10,11],[]),(4,[],[]),(10,[],[])] [4] (codeOf Tryz.f28) 0).1
abbrev Fs:Nat:=27
def Qw(t0:Int)(t1r:LL)(t10_0:Int)(t10_1 t10_2:LB)(t10_3:Int)(t10_4 t10_5:LB)(t10_6:Int)(t10_7 t10_8:LB)(t11:Int)(K:KK):Prop:=Cc 2 E0.P Fs (A9 2 ac_write_around).code ⟨[(0,Ai t0),(1,Al 1 t1r),(10, .imm (.agg [.int .i64 t10_0, .str t10_1, .str t10_2, .int .i64 t10_3, .str t10_4, .str t10_5, .int .i64 t10_6, .str t10_7, .str t10_8])),(11,Ai t11)],[]⟩ K
def Ade(K:KK):Prop:=Ay 10 E0.P Fs (Ag 10 ac_write_around).code ⟨[],[]⟩ K
def Xx(Q:QQ):KK:=kE fun st=>finish 0 E0.T [.tmp 4] [] Q st
def Qr(Q:QQ):KK:=kF 0 (fun st=>Ay 10 E0.P Fs (Ag 10 ac_write_around).code (mask [] st) (Xx Q)) fun st=>finish 0 E0.T [.tmp 4] [] Q st
theorem Nb(t0:Int)(t1r:LL)(t10_0:Int)(t10_1 t10_2:LB)(t10_3:Int)(t10_4 t10_5:LB)(t10_6:Int)(t10_7 t10_8:LB)(t11:Int)(K:KK)(h:
 (Br (decide (t11<(3:Int)))
 (Am (((0:Int)≤t11∧t11<(↑(3:Nat):Int))∧
 Cu [.int .i64, .str, .str]
 (List.take 3
 (List.drop (t11.toNat*3)
 [.int .i64 t10_0, .str t10_1, .str t10_2, .int .i64 t10_3, .str t10_4, .str t10_5,
 .int .i64 t10_6, .str t10_7, .str t10_8]))=
 true)
 (Br (decide
 (gI
 (List.take 3
 (List.drop (t11.toNat*3)
 [.int .i64 t10_0, .str t10_1, .str t10_2, .int .i64 t10_3, .str t10_4, .str t10_5,
 .int .i64 t10_6, .str t10_7, .str t10_8]))
 0=
 t0))
 (Call E0.P Sy [Al 1 t1r] [] fun r0 g0=>
 Am (qW1 g0 r0)
 (Am ((↑((gS
 (List.take (3:Nat)
 (List.drop (t11.toNat*(3:Nat))
 [.int .i64 t10_0, .str t10_1, .str t10_2, .int .i64 t10_3, .str t10_4,
 .str t10_5, .int .i64 t10_6, .str t10_7, .str t10_8]))
 (1:Nat)).length+
 (rS r0).length):
 Int)≤
 (9223372036854775807:Int))
 (Am ((↑((gS
 (List.take (3:Nat)
 (List.drop (t11.toNat*(3:Nat))
 [.int .i64 t10_0, .str t10_1, .str t10_2, .int .i64 t10_3, .str t10_4,
 .str t10_5, .int .i64 t10_6, .str t10_7, .str t10_8]))
 (1:Nat)++
 rS r0).length+
 (gS
 (List.take (3:Nat)
 (List.drop (t11.toNat*(3:Nat))
 [.int .i64 t10_0, .str t10_1, .str t10_2, .int .i64 t10_3, .str t10_4,
 .str t10_5, .int .i64 t10_6, .str t10_7, .str t10_8]))
 (2:Nat)).length):
 Int)≤
 (9223372036854775807:Int))
 (K .ret ⟨[(4, .imm (.str (gS
 (List.take 3
 (List.drop (t11.toNat*3)
 [.int .i64 t10_0, .str t10_1, .str t10_2, .int .i64 t10_3, .str t10_4, .str t10_5,
 .int .i64 t10_6, .str t10_7, .str t10_8]))
 1++
 rS r0++
 gS
 (List.take 3
 (List.drop (t11.toNat*3)
 [.int .i64 t10_0, .str t10_1, .str t10_2, .int .i64 t10_3, .str t10_4, .str t10_5,
 .int .i64 t10_6, .str t10_7, .str t10_8]))
 2)))],[]⟩))))
 (Qw t0 t1r t10_0 t10_1 t10_2 t10_3 t10_4 t10_5 t10_6 t10_7 t10_8 (IntKind.i64.wrap (t11+(1:Int))) K)))
 (K (.exit 0) ⟨[],[]⟩))):Qw t0 t1r t10_0 t10_1 t10_2 t10_3 t10_4 t10_5 t10_6 t10_7 t10_8 t11 K:=Ca (A7 E0 Fs) (Bb Fs) 3 2 (A9 2 ac_write_around) [0,1,10,11] _ K rfl (kr (by kernel_rfl) h)
theorem Aiv(K:KK)(h:
 (K .ret ⟨[(4, .imm (.str [110,117,108,108]))],[]⟩)):Ade K:=Ba (A7 E0 Fs) (Bb Fs) 3 10 (Ag 10 ac_write_around) [] _ K rfl (kr (by kernel_rfl) h)
theorem Ak1(Q:QQ)(t4:LB)(h:
 (Q (As t4) [])):Xx Q .ret ⟨[(4,As t4)],[]⟩:=kr (by kernel_rfl) h
theorem R7(Q:QQ)(t4:LB)(h:
 (Q (As t4) [])):Qr Q .ret ⟨[(4,As t4)],[]⟩:=kr (by kernel_rfl) h
theorem Ak2(Q:QQ)(h:
 (Ade (Xx Q))):Qr Q (.exit 0) ⟨[],[]⟩:=kr (by kernel_rfl) h
theorem Ar3:Bw E0.P 28 ac_write_around.code Fs [.tmp 4]:=Bn _ _ Tryz.f28 [(2,[0,1,10,11],[]),(4,[],[]),(10,[],[])] [4] _ 27 Tryz.func28 (by kernel_rfl) (by kernel_rfl) (by kernel_rfl) (by kernel_rfl)
theorem Aog(a0:Int)(a1:LL)(Q:QQ)(h:
 (Qw a0 a1 ((5:Int)) [(91:UInt8)] [(93:UInt8)] ((6:Int)) [(60:UInt8),60] [(62:UInt8),62] ((7:Int)) [] [(32:UInt8),82] ((0:Int)) (Qr Q))):Call E0.P Zq [Ai a0,Al 1 a1] [] Q:=Bd (A7 E0 Fs) (Bb Fs) 3 0 28 ac_write_around [.tmp 4] Ar3 _ _ Q rfl rfl (kr (by kernel_rfl) h)
noncomputable def ac_value_own:AC:=(Bf [(4,[2,3,7,27],[]),(14,[],[])] [6] (codeOf Tryz.f44) 0).1
abbrev H6:Nat:=86
def Jh(t2:Int)(t27:Bool)(u0 u1 u2:Int)(u3:LB)(u4 u5:LL)(u6 u7:Bool)(u8 u9 v0:Bool)(K:KK):Prop:=Ay 4 E0.P H6 (Ag 4 ac_value_own).code ⟨[(2,Ai t2),(3, .ptr nL3 0),(7, .ptr nL7 0),(27,Ab t27)],[(nL3, .blk Ae [Ai u0,Ai u1,Ai u2,As u3,Al 6 u4,Al 7 u5]),(nL7, .blk Bi [Ab u6,Ab u7,Ab u8,Ab u9,Ab v0])]⟩ K
def Ahr(K:KK):Prop:=Ay 14 E0.P H6 (Ag 14 ac_value_own).code ⟨[],[]⟩ K
def Acu(Q:QQ):KK:=kE fun st=>finish 0 E0.T [.tmp 6] [] Q st
def Hd(Q:QQ):KK:=kF 0 (fun st=>Ay 14 E0.P H6 (Ag 14 ac_value_own).code (mask [] st) (Acu Q)) fun st=>finish 0 E0.T [.tmp 6] [] Q st
theorem Apf(t2:Int)(t27:Bool)(u0 u1 u2:Int)(u3:LB)(u4 u5:LL)(u6 u7:Bool)(u8 u9 v0:Bool)(K:KK)(h:
 (Br (t27)
 (K .ret ⟨[(6,Ai 4)],[]⟩)
 (Call E0.P Zo [.imm (.agg [.int .i64 u0, .int .i64 u1, .int .i64 u2, .str u3, .sl .any 6 u4, .sl .any 7 u5])] [] fun r0 g0=>
 Am (qW2 g0 r0)
 (Br (rB r0)
 (K .ret ⟨[(6,Ai 3)],[]⟩)
 (Let (bif decide (u0=(3:Int))then decide ((127:Int)<(↑u3.length:Int))else false) fun x1=>
 Br (x1 == false)
 (Let (bif decide (u0=(4:Int))then decide ((65535:Int)<(↑u3.length:Int))else false) fun x2=>
 Let (x2) fun x3=>
 Br (x3)
 (K .ret ⟨[(6,Ai 8)],[]⟩)
 (Let (bif decide (u0=(8:Int))then decide ((1048576:Int)<(↑u3.length:Int))else false) fun x4=>
 Br (x4)
 (K .ret ⟨[(6,Ai 7)],[]⟩)
 (Let (bif u9 then true else v0) fun x5=>
 Let (bif x5 then decide ((64:Int)≤t2)else false) fun x6=>
 Br (x6)
 (K .ret ⟨[(6,Ai 9)],[]⟩)
 (K .normal ⟨[],[]⟩))))
 (Am ((!false)=true)
 (Let (true) fun x7=>
 Br (x7)
 (K .ret ⟨[(6,Ai 8)],[]⟩)
 (Let (bif decide (u0=(8:Int))then decide ((1048576:Int)<(↑u3.length:Int))else false) fun x8=>
 Br (x8)
 (K .ret ⟨[(6,Ai 7)],[]⟩)
 (Let (bif u9 then true else v0) fun x9=>
 Let (bif x9 then decide ((64:Int)≤t2)else false) fun x10=>
 Br (x10)
 (K .ret ⟨[(6,Ai 9)],[]⟩)
 (K .normal ⟨[],[]⟩)))))))))):Jh t2 t27 u0 u1 u2 u3 u4 u5 u6 u7 u8 u9 v0 K:=Ba (A7 E0 H6) (Bb H6) 3 4 (Ag 4 ac_value_own) [] _ K rfl (kr (by kernel_rfl) h)
theorem An9(K:KK)(h:
 (K .ret ⟨[(6,Ai 0)],[]⟩)):Ahr K:=Ba (A7 E0 H6) (Bb H6) 3 14 (Ag 14 ac_value_own) [] _ K rfl (kr (by kernel_rfl) h)
theorem Apy(Q:QQ)(t6:Int)(h:
 (Q (Ai t6) [])):Acu Q .ret ⟨[(6,Ai t6)],[]⟩:=kr (by kernel_rfl) h
theorem Apz(Q:QQ)(t6:Int)(h:
 (Q (Ai t6) [])):Hd Q .ret ⟨[(6,Ai t6)],[]⟩:=kr (by kernel_rfl) h
theorem Ap0(Q:QQ)(h:
 (Ahr (Acu Q))):Hd Q .normal ⟨[],[]⟩:=kr (by kernel_rfl) h
theorem Ax7:Bw E0.P 44 ac_value_own.code H6 [.tmp 6]:=Bn _ _ Tryz.f44 [(4,[2,3,7,27],[]),(14,[],[])] [6] _ 86 Tryz.func44 (by kernel_rfl) (by kernel_rfl) (by kernel_rfl) (by kernel_rfl)
theorem Ass(a0_0 a0_1 a0_2:Int)(a0_3:LB)(a0_4 a0_5:LL)(a1:Bool)(a2:Int)(Q:QQ)(h:
 (Call E0.P Zp [Ai a0_0] [] fun r0 g0=>
 Am (g0=[]∧
 r0=
 .tup
 [.imm
 (IV.agg
 [.bool (gB (Ac (rT r0 0)) 0), .bool (gB (Ac (rT r0 0)) 1),
 .bool (gB (Ac (rT r0 0)) 2), .bool (gB (Ac (rT r0 0)) 3),
 .bool (gB (Ac (rT r0 0)) 4)]),
 .imm (.bool (rB (rT r0 1)))])
 (Br ((!rB (rT r0 1)) == false)
 (Let (bif decide (a0_0=(8:Int))then !a1 else false) fun x1=>
 Let (x1) fun x2=>
 Br (x2)
 (Q (Ai 10) [])
 (Call E0.P Ra [.imm (.agg [.int .i64 a0_0, .int .i64 a0_1, .int .i64 a0_2, .str a0_3, .sl .any 6 a0_4, .sl .any 7 a0_5]), .imm (.agg [.bool (gB (Ac (rT r0 0)) 0), .bool (gB (Ac (rT r0 0)) 1), .bool (gB (Ac (rT r0 0)) 2), .bool (gB (Ac (rT r0 0)) 3), .bool (gB (Ac (rT r0 0)) 4)])] [] fun r3 g3=>
 Am (qW2 g3 r3)
 (Br (rB r3 == false)
 (Br (decide (a0_0=(3:Int)) == true)
 (Call E0.P Ua [As a0_3] [] fun r4 g4=>
 Am (qW2 g4 r4)
 (Let (rB r4) fun x5=>
 Let (x5) fun x6=>
 Jh a2 x6 a0_0 a0_1 a0_2 a0_3 a0_4 a0_5 (gB (Ac (rT r0 0)) 0) (gB (Ac (rT r0 0)) 1) (gB (Ac (rT r0 0)) 2) (gB (Ac (rT r0 0)) 3) (gB (Ac (rT r0 0)) 4) (Hd Q)))
 (Am ((!true)=false)
 (Let (false) fun x7=>
 Let (x7) fun x8=>
 Jh a2 x8 a0_0 a0_1 a0_2 a0_3 a0_4 a0_5 (gB (Ac (rT r0 0)) 0) (gB (Ac (rT r0 0)) 1) (gB (Ac (rT r0 0)) 2) (gB (Ac (rT r0 0)) 3) (gB (Ac (rT r0 0)) 4) (Hd Q))))
 (Am ((!false)=true)
 (Let (true) fun x9=>
 Jh a2 x9 a0_0 a0_1 a0_2 a0_3 a0_4 a0_5 (gB (Ac (rT r0 0)) 0) (gB (Ac (rT r0 0)) 1) (gB (Ac (rT r0 0)) 2) (gB (Ac (rT r0 0)) 3) (gB (Ac (rT r0 0)) 4) (Hd Q))))))
 (Am ((!false)=true)
 (Let (true) fun x10=>
 Br (x10)
 (Q (Ai 10) [])
 (Call E0.P Ra [.imm (.agg [.int .i64 a0_0, .int .i64 a0_1, .int .i64 a0_2, .str a0_3, .sl .any 6 a0_4, .sl .any 7 a0_5]), .imm (.agg [.bool (gB (Ac (rT r0 0)) 0), .bool (gB (Ac (rT r0 0)) 1), .bool (gB (Ac (rT r0 0)) 2), .bool (gB (Ac (rT r0 0)) 3), .bool (gB (Ac (rT r0 0)) 4)])] [] fun r11 g11=>
 Am (qW2 g11 r11)
 (Br (rB r11 == false)
 (Br (decide (a0_0=(3:Int)) == true)
 (Call E0.P Ua [As a0_3] [] fun r12 g12=>
 Am (qW2 g12 r12)
 (Let (rB r12) fun x13=>
 Let (x13) fun x14=>
 Jh a2 x14 a0_0 a0_1 a0_2 a0_3 a0_4 a0_5 (gB (Ac (rT r0 0)) 0) (gB (Ac (rT r0 0)) 1) (gB (Ac (rT r0 0)) 2) (gB (Ac (rT r0 0)) 3) (gB (Ac (rT r0 0)) 4) (Hd Q)))
 (Am ((!true)=false)
 (Let (false) fun x15=>
 Let (x15) fun x16=>
 Jh a2 x16 a0_0 a0_1 a0_2 a0_3 a0_4 a0_5 (gB (Ac (rT r0 0)) 0) (gB (Ac (rT r0 0)) 1) (gB (Ac (rT r0 0)) 2) (gB (Ac (rT r0 0)) 3) (gB (Ac (rT r0 0)) 4) (Hd Q))))
 (Am ((!false)=true)
 (Let (true) fun x17=>
 Jh a2 x17 a0_0 a0_1 a0_2 a0_3 a0_4 a0_5 (gB (Ac (rT r0 0)) 0) (gB (Ac (rT r0 0)) 1) (gB (Ac (rT r0 0)) 2) (gB (Ac (rT r0 0)) 3) (gB (Ac (rT r0 0)) 4) (Hd Q)))))))))):Call E0.P Afw [.imm (.agg [.int .i64 a0_0, .int .i64 a0_1, .int .i64 a0_2, .str a0_3, .sl .any 6 a0_4, .sl .any 7 a0_5]),Ab a1,Ai a2] [] Q:=Bd (A7 E0 H6) (Bb H6) 3 0 44 ac_value_own [.tmp 6] Ax7 _ _ Q rfl rfl (kr (by kernel_rfl) h)
noncomputable def ac_value_nul:AC:=(Bf [] [2] (codeOf Tryz.f45) 0).1
abbrev Af2:Nat:=6
theorem Ax6:Bw E0.P 45 ac_value_nul.code Af2 [.tmp 2]:=Bn _ _ Tryz.f45 [] [2] _ 6 Tryz.func45 (by kernel_rfl) (by kernel_rfl) (by kernel_rfl) (by kernel_rfl)
theorem Asr(a0:LB)(Q:QQ)(h:
 (Call E0.P Zn [As a0, .imm (.int .u8 ((0:Int)))] [] fun r0 g0=>
 Am (qW0 g0 r0)
 (Q (Ab (decide ((0:Int)≤rI r0))) []))):Call E0.P Ua [As a0] [] Q:=Bd (A7 E0 Af2) (Bb Af2) 3 0 45 ac_value_nul [.tmp 2] Ax6 _ _ Q rfl rfl (kr (by kernel_rfl) h)
noncomputable def ac_value_foreign:AC:=(Bf [] [4] (codeOf Tryz.f67) 0).1
abbrev X6:Nat:=55
theorem Aqh:Bw E0.P 67 ac_value_foreign.code X6 [.tmp 4]:=Bn _ _ Tryz.f67 [] [4] _ 55 Tryz.func67 (by kernel_rfl) (by kernel_rfl) (by kernel_rfl) (by kernel_rfl)
theorem Alh(a0_0 a0_1 a0_2:Int)(a0_3:LB)(a0_4 a0_5:LL)(a1_0 a1_1:Bool)(a1_2 a1_3 a1_4:Bool)(Q:QQ)(h:
 (Let (bif !a1_0 then !decide (a0_1=(0:Int))else false) fun x0=>
 Br (x0 == false)
 (Let (bif !a1_1 then !decide (a0_2=(0:Int))else false) fun x1=>
 Let (x1) fun x2=>
 Br (x2 == false)
 (Let (bif !a1_2 then !a0_3 == []else false) fun x3=>
 Let (x3) fun x4=>
 Br (x4 == false)
 (Let (bif !a1_3 then decide ((0:Int)<(↑a0_4.length:Int))else false) fun x5=>
 Let (x5) fun x6=>
 Br (x6 == false)
 (Let (bif !a1_4 then decide ((0:Int)<(↑a0_5.length:Int))else false) fun x7=>
 Let (x7) fun x8=>
 Q (Ab x8) [])
 (Am ((!false)=true)
 (Let (true) fun x9=>
 Q (Ab x9) [])))
 (Am ((!false)=true)
 (Let (true) fun x10=>
 Br (x10 == false)
 (Let (bif !a1_4 then decide ((0:Int)<(↑a0_5.length:Int))else false) fun x11=>
 Let (x11) fun x12=>
 Q (Ab x12) [])
 (Am ((!false)=true)
 (Let (true) fun x13=>
 Q (Ab x13) [])))))
 (Am ((!false)=true)
 (Let (true) fun x14=>
 Br (x14 == false)
 (Let (bif !a1_3 then decide ((0:Int)<(↑a0_4.length:Int))else false) fun x15=>
 Let (x15) fun x16=>
 Br (x16 == false)
 (Let (bif !a1_4 then decide ((0:Int)<(↑a0_5.length:Int))else false) fun x17=>
 Let (x17) fun x18=>
 Q (Ab x18) [])
 (Am ((!false)=true)
 (Let (true) fun x19=>
 Q (Ab x19) [])))
 (Am ((!false)=true)
 (Let (true) fun x20=>
 Br (x20 == false)
 (Let (bif !a1_4 then decide ((0:Int)<(↑a0_5.length:Int))else false) fun x21=>
 Let (x21) fun x22=>
 Q (Ab x22) [])
 (Am ((!false)=true)
 (Let (true) fun x23=>
 Q (Ab x23) [])))))))
 (Am ((!false)=true)
 (Let (true) fun x24=>
 Br (x24 == false)
 (Let (bif !a1_2 then !a0_3 == []else false) fun x25=>
 Let (x25) fun x26=>
 Br (x26 == false)
 (Let (bif !a1_3 then decide ((0:Int)<(↑a0_4.length:Int))else false) fun x27=>
 Let (x27) fun x28=>
 Br (x28 == false)
 (Let (bif !a1_4 then decide ((0:Int)<(↑a0_5.length:Int))else false) fun x29=>
 Let (x29) fun x30=>
 Q (Ab x30) [])
 (Am ((!false)=true)
 (Let (true) fun x31=>
 Q (Ab x31) [])))
 (Am ((!false)=true)
 (Let (true) fun x32=>
 Br (x32 == false)
 (Let (bif !a1_4 then decide ((0:Int)<(↑a0_5.length:Int))else false) fun x33=>
 Let (x33) fun x34=>
 Q (Ab x34) [])
 (Am ((!false)=true)
 (Let (true) fun x35=>
 Q (Ab x35) [])))))
 (Am ((!false)=true)
 (Let (true) fun x36=>
 Br (x36 == false)
 (Let (bif !a1_3 then decide ((0:Int)<(↑a0_4.length:Int))else false) fun x37=>
 Let (x37) fun x38=>
 Br (x38 == false)
 (Let (bif !a1_4 then decide ((0:Int)<(↑a0_5.length:Int))else false) fun x39=>
 Let (x39) fun x40=>
 Q (Ab x40) [])
 (Am ((!false)=true)
 (Let (true) fun x41=>
 Q (Ab x41) [])))
 (Am ((!false)=true)
 (Let (true) fun x42=>
 Br (x42 == false)
 (Let (bif !a1_4 then decide ((0:Int)<(↑a0_5.length:Int))else false) fun x43=>
 Let (x43) fun x44=>
 Q (Ab x44) [])
 (Am ((!false)=true)
 (Let (true) fun x45=>
 Q (Ab x45) [])))))))))):Call E0.P Ra [.imm (.agg [.int .i64 a0_0, .int .i64 a0_1, .int .i64 a0_2, .str a0_3, .sl .any 6 a0_4, .sl .any 7 a0_5]), .imm (.agg [.bool a1_0, .bool a1_1, .bool a1_2, .bool a1_3, .bool a1_4])] [] Q:=Bd (A7 E0 X6) (Bb X6) 3 0 67 ac_value_foreign [.tmp 4] Aqh _ _ Q rfl rfl (kr (by kernel_rfl) h)
noncomputable def ac_value_beyond:AC:=(Bf [] [2] (codeOf Tryz.f68) 0).1
abbrev Zx:Nat:=41
theorem Ar2:Bw E0.P 68 ac_value_beyond.code Zx [.tmp 2]:=Bn _ _ Tryz.f68 [] [2] _ 41 Tryz.func68 (by kernel_rfl) (by kernel_rfl) (by kernel_rfl) (by kernel_rfl)
theorem Aof(a0_0 a0_1 a0_2:Int)(a0_3:LB)(a0_4 a0_5:LL)(Q:QQ)(h:
 (Br (decide (a0_0=(1:Int)))
 (Am ((0:Int)≤(1:Int))
 (Q (.imm (.bool (!decide (a0_1.fdiv ((2:Int) ^ 1)=(0:Int))))) []))
 (Br (decide (a0_0=(2:Int)))
 (Let (bif decide (a0_1<(-2147483647:Int))then true else decide ((2147483647:Int)<a0_1)) fun x0=>
 Q (Ab x0) [])
 (Br (decide (a0_0=(7:Int)))
 (Let (bif decide (a0_1<(1:Int))then true else decide ((8388607:Int)<a0_1)) fun x1=>
 Let (bif x1 then true else decide (a0_2<(0:Int))) fun x2=>
 Let (bif x2 then true else decide ((65535:Int)<a0_2)) fun x3=>
 Q (Ab x3) [])
 (Q (Ab false) []))))):Call E0.P Zo [.imm (.agg [.int .i64 a0_0, .int .i64 a0_1, .int .i64 a0_2, .str a0_3, .sl .any 6 a0_4, .sl .any 7 a0_5])] [] Q:=Bd (A7 E0 Zx) (Bb Zx) 3 0 68 ac_value_beyond [.tmp 2] Ar2 _ _ Q rfl rfl (kr (by kernel_rfl) h)
noncomputable def ac_octet_Digit:AC:=(Bf [] [2] (codeOf Tryz.f50) 0).1
abbrev Aa6:Nat:=20
theorem Atn:Bw E0.P 50 ac_octet_Digit.code Aa6 [.tmp 2]:=Bn _ _ Tryz.f50 [] [2] _ 20 Tryz.func50 (by kernel_rfl) (by kernel_rfl) (by kernel_rfl) (by kernel_rfl)
theorem Aph(a0:Int)(Q:QQ)(h:
 (Let (bif decide (a0<(0:Int))then true else decide ((15:Int)<a0)) fun x0=>
 Br (x0)
 (Q (.imm (.int .u8 ((0:Int)))) [])
 (Br (decide (a0<(10:Int)))
 (Q (.imm (.int .u8 (IntKind.u8.wrap (IntKind.i64.wrap ((48:Int)+a0))))) [])
 (Q (.imm (.int .u8 (IntKind.u8.wrap (IntKind.i64.wrap (IntKind.i64.wrap ((65:Int)+a0) - (10:Int)))))) [])))):Call E0.P Mg [Ai a0] [] Q:=Bd (A7 E0 Aa6) (Bb Aa6) 3 0 50 ac_octet_Digit [.tmp 2] Atn _ _ Q rfl rfl (kr (by kernel_rfl) h)
noncomputable def ac_digits_Put:AC:=(Bf [] [2] (codeOf Tryz.f24) 0).1
abbrev Ac1:Nat:=5
theorem Avc:Bw E0.P 24 ac_digits_Put.code Ac1 [.tmp 2]:=Bn _ _ Tryz.f24 [] [2] _ 5 Tryz.func24 (by kernel_rfl) (by kernel_rfl) (by kernel_rfl) (by kernel_rfl)
theorem Aqu(a0:Int)(Q:QQ)(h:
 (Call E0.P Agx [Ai a0] [] fun r0 g0=>
 Am (qW1 g0 r0)
 (Q (As (rS r0)) []))):Call E0.P Rq [Ai a0] [] Q:=Bd (A7 E0 Ac1) (Bb Ac1) 3 0 24 ac_digits_Put [.tmp 2] Avc _ _ Q rfl rfl (kr (by kernel_rfl) h)
end
end Go.Proofs.Sim.Se

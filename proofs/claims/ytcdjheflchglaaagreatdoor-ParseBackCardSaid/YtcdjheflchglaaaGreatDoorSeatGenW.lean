import Derived.Test.YtcdjheflchglaaaGreatDoorSeatBase
set_option maxRecDepth 100000
set_option maxHeartbeats 4000000
namespace Go.Proofs.Sim.Se
open Go Go.Proofs Go.Proofs.Sim
noncomputable section
abbrev qW0(G:Heap)(R:AV):Prop:=G=[]∧R= .imm (.int .i64 (rI R))
abbrev qW1(G:Heap)(R:AV):Prop:=G=[]∧R= .imm (.str (rS R))
abbrev qW2(G:Heap)(R:AV):Prop:=G=[]∧R= .imm (.bool (rB R))
abbrev qW3(G:Heap)(R:AV):Prop:=G=[]∧R= .imm (.int .u8 (rI R))
noncomputable def ac_write_Text:AC:=(Bf [] [2,3] (codeOf Tryz.f7) 0).1
abbrev Ada:Nat:=13
theorem Axh:Ca E0.P 7 ac_write_Text.code Ada [.tmp 2, .tmp 3]:=Bl _ _ Tryz.f7 [] [2,3] _ 13 Tryz.func7 (by kernel_rfl) (by kernel_rfl) (by kernel_rfl) (by kernel_rfl)
theorem Ate(a0_0 a0_1 a0_2:Int)(a0_3:LB)(a0_4 a0_5:LL)(Q:QQ)(h:
 (Call E0.P Aaz [.imm (.agg [.int .i64 a0_0, .int .i64 a0_1, .int .i64 a0_2, .str a0_3, .sl .any 6 a0_4, .sl .any 7 a0_5]),Ab false] [] fun r0 g0=>
 Ak (qW0 g0 r0)
 (Br (!decide (rI r0=(0:Int)))
 (Q (.tup [.imm (.str []),Ai (rI r0)]) [])
 (Call E0.P Ht [.imm (.agg [.int .i64 a0_0, .int .i64 a0_1, .int .i64 a0_2, .str a0_3, .sl .any 6 a0_4, .sl .any 7 a0_5])] [] fun r1 g1=>
 Ak (g1=[]∧
 r1=
 .imm
 (IV.agg
 [.int .i64 (gI (Ae r1) 0), .int .i64 (gI (Ae r1) 1),
 .int .i64 (gI (Ae r1) 2), .str (gS (Ae r1) 3),
 .sl SK.any 6 (gR (Ae r1) 4), .sl SK.any 7 (gR (Ae r1) 5)]))
 (Call E0.P Pk [.imm (.agg [.int .i64 (gI (Ae r1) 0), .int .i64 (gI (Ae r1) 1), .int .i64 (gI (Ae r1) 2), .str (gS (Ae r1) 3), .sl .any 6 (gR (Ae r1) 4), .sl .any 7 (gR (Ae r1) 5)])] [] fun r2 g2=>
 Ak (qW1 g2 r2)
 (Q (.tup [As (rS r2),Ai 0]) [])))))):Call E0.P Adr [.imm (.agg [.int .i64 a0_0, .int .i64 a0_1, .int .i64 a0_2, .str a0_3, .sl .any 6 a0_4, .sl .any 7 a0_5])] [] Q:=Be (Aw E0 Ada) (Bd Ada) 3 0 7 ac_write_Text [.tmp 2, .tmp 3] Axh _ _ Q rfl rfl (kr (by kernel_rfl) h)
noncomputable def ac_write_Name:AC:=(Bf [(4,[0,3,8,9],[]),(6,[3],[]),(10,[0,3,5,8,9,25],[0,3,5,8,9]),(12,[0,3,8,9],[]),(13,[0,3,5,8,9],[0,3,8,9]),(16,[0,3,8,9],[0,3,8,9]),(17,[3],[])] [2] (codeOf Tryz.f25) 0).1
abbrev Cj:Nat:=41
def Kb(t0:LB)(t8 t9:Int)(u0:LL)(K:KK):Prop:=Bu 4 E0.P Cj (A8 4 ac_write_Name).code ⟨[(0,As t0),(3, .ptr nL3 0),(8,Ai t8),(9,Ai t9)],[(nL3, .blk Bj [.self nL3, .own (nL3.cell 1)]),((nL3.cell 1), .arr (Aj+2) true 1 u0)]⟩ K
def Tg(t0:LB)(t5 t8 t9:Int)(t25:Bool)(u0:LL)(K:KK):Prop:=Av 10 E0.P Cj (Af 10 ac_write_Name).code ⟨[(0,As t0),(3, .ptr nL3 0),(5, .imm (.int .u8 t5)),(8,Ai t8),(9,Ai t9),(25,Ab t25)],[(nL3, .blk Bj [.self nL3, .own (nL3.cell 1)]),((nL3.cell 1), .arr (Aj+2) true 1 u0)]⟩ K
def Ahd(u0:LL)(K:KK):Prop:=Av 17 E0.P Cj (Af 17 ac_write_Name).code ⟨[(3, .ptr nL3 0)],[(nL3, .blk Bj [.self nL3, .own (nL3.cell 1)]),((nL3.cell 1), .arr (Aj+2) true 1 u0)]⟩ K
def Te(t0:LB)(t8 t9:Int)(u0:LL)(K:KK):Prop:=Av 16 E0.P Cj (Af 16 ac_write_Name).code ⟨[(0,As t0),(3, .ptr nL3 0),(8,Ai t8),(9,Ai t9)],[(nL3, .blk Bj [.self nL3, .own (nL3.cell 1)]),((nL3.cell 1), .arr (Aj+2) true 1 u0)]⟩ K
def Ahk(t0:LB)(t5 t8 t9:Int)(u0:LL)(K:KK):Prop:=Av 13 E0.P Cj (Af 13 ac_write_Name).code ⟨[(0,As t0),(3, .ptr nL3 0),(5, .imm (.int .u8 t5)),(8,Ai t8),(9,Ai t9)],[(nL3, .blk Bj [.self nL3, .own (nL3.cell 1)]),((nL3.cell 1), .arr (Aj+2) true 1 u0)]⟩ K
def Abb(Q:QQ):KK:=kE fun st=>finish 0 E0.T [.tmp 2] [] Q st
def Ajo(Q:QQ):KK:=kF 0 (fun st=>Av 17 E0.P Cj (Af 17 ac_write_Name).code (mask [3] st) (Abb Q)) fun st=>finish 0 E0.T [.tmp 2] [] Q st
def Mh(K:KK):Ex→St→Prop
 | .normal,st=>Bu 4 E0.P Cj (A8 4 ac_write_Name).code (mask [0,3,8,9] st) K
 | .exit i,st=>K (.exit i) st
 | .goto i,st=>K (.goto i) st
 | .ret,st=>K .ret st
def Aa0(K:KK):KK:=kC 1 (fun st=>Av 16 E0.P Cj (Af 16 ac_write_Name).code (mask [0,3,8,9] st) (Mh K)) K
def Qh(K:KK):Ex→St→Prop
 | .normal,st=>Av 13 E0.P Cj (Af 13 ac_write_Name).code (mask [0,3,5,8,9] st) (Aa0 K)
 | .exit i,st=>(match (i.beq 1:Bool)with
 |true=>Av 16 E0.P Cj (Af 16 ac_write_Name).code (mask [0,3,8,9] st) (Mh K)
 |false=>K (.exit i) st)
 | .goto i,st=>K (.goto i) st
 | .ret,st=>K .ret st
theorem Ad6(t0:LB)(t8 t9:Int)(u0:LL)(K:KK)(h:
 (Br (decide (t9<t8))
 (Ak ((0:Int)≤t9∧t9<(↑t0.length:Int))
 (Call E0.P Xe [.imm (.int .u8 ((↑(t0.getD t9.toNat 0).toNat:Int)))] [] fun r0 g0=>
 Ak (qW2 g0 r0)
 (Br (rB r0 == true)
 (Call E0.P Lg [.imm (.int .u8 ((↑(t0.getD t9.toNat 0).toNat:Int)))] [] fun r1 g1=>
 Ak (qW0 g1 r1)
 (Let (decide (rI r1=(2:Int))) fun x2=>
 Let (bif x2 then !decide ((↑(t0.getD t9.toNat 0).toNat:Int)=(35:Int))else false) fun x3=>
 Tg t0 ((↑(t0.getD t9.toNat 0).toNat:Int)) t8 t9 x3 u0 (Qh K)))
 (Ak ((!true)=false)
 (Let (false) fun x4=>
 Let (bif x4 then !decide ((↑(t0.getD t9.toNat 0).toNat:Int)=(35:Int))else false) fun x5=>
 Tg t0 ((↑(t0.getD t9.toNat 0).toNat:Int)) t8 t9 x5 u0 (Qh K))))))
 (K (.exit 0) ⟨[(3, .ptr nL3 0)],[(nL3, .blk Bj [.self nL3, .own (nL3.cell 1)]),((nL3.cell 1), .arr (Aj+2) true 1 u0)]⟩))):Kb t0 t8 t9 u0 K:=Bo (Aw E0 Cj) (Bd Cj) 3 4 (A8 4 ac_write_Name) [0,3,8,9] _ K rfl (kr (by kernel_rfl) h)
theorem Anh(t0:LB)(t5 t8 t9:Int)(t25:Bool)(u0:LL)(K:KK)(h:
 (Br (t25)
 (Ak ((u0.length+1)*1≤140737488355328∧u0.length+1≤140737488355328)
 (K (.exit (1)) ⟨[(0,As t0),(3, .ptr nL3 0),(8,Ai t8),(9,Ai t9)],[(nL3, .blk Bj [.self nL3, .own (nL3.cell 1)]),((nL3.cell 1), .arr (Aj+2) true 1 (u0++[[IV.int .u8 t5]]))]⟩))
 (K .normal ⟨[(0,As t0),(3, .ptr nL3 0),(5, .imm (.int .u8 t5)),(8,Ai t8),(9,Ai t9)],[(nL3, .blk Bj [.self nL3, .own (nL3.cell 1)]),((nL3.cell 1), .arr (Aj+2) true 1 u0)]⟩))):Tg t0 t5 t8 t9 t25 u0 K:=A9 (Aw E0 Cj) (Bd Cj) 3 10 (Af 10 ac_write_Name) [0,3,5,8,9] _ K rfl (kr (by kernel_rfl) h)
theorem Aoi(u0:LL)(K:KK)(h:
 (Ak (((↑u0.length:Int)=(↑u0.length:Int)∧u0.length≤9223372036854775807)∧
 ∀(r:List IV),r∈u0→Ck [.int .u8] r=true)
 (K .ret ⟨[(2,As (List.map (fun r=>UInt8.ofNat (gI r 0).toNat) u0))],[]⟩))):Ahd u0 K:=A9 (Aw E0 Cj) (Bd Cj) 3 17 (Af 17 ac_write_Name) [] _ K rfl (kr (by kernel_rfl) h)
theorem Ani(t0:LB)(t8 t9:Int)(u0:LL)(K:KK)(h:
 (K .normal ⟨[(0,As t0),(3, .ptr nL3 0),(8,Ai t8),(9,Ai (IntKind.i64.wrap (t9+(1:Int))))],[(nL3, .blk Bj [.self nL3, .own (nL3.cell 1)]),((nL3.cell 1), .arr (Aj+2) true 1 u0)]⟩)):Te t0 t8 t9 u0 K:=A9 (Aw E0 Cj) (Bd Cj) 3 16 (Af 16 ac_write_Name) [0,3,8,9] _ K rfl (kr (by kernel_rfl) h)
theorem Amw(t0:LB)(t5 t8 t9:Int)(u0:LL)(K:KK)(h:
 (Ak ((u0.length+1)*1≤140737488355328∧u0.length+1≤140737488355328)
 (Ak ((0:Int)≤(4:Int))
 (Call E0.P Mj [.imm (.int .i64 (IntKind.i64.wrap (t5.fdiv ((2:Int) ^ 4))))] [] fun r0 g0=>
 Ak (qW3 g0 r0)
 (Ak (((u0++[[IV.int .u8 (35:Int)]]).length+1)*1≤140737488355328∧
 (u0++[[IV.int .u8 (35:Int)]]).length+1≤140737488355328)
 (Call E0.P Mj [.imm (.int .i64 (IntKind.i64.wrap (IntKind.u8.wrap (↑(BitVec.ofInt (8:Nat) t5 &&& BitVec.ofInt (8:Nat) (15:Int)).toNat:Int))))] [] fun r1 g1=>
 Ak (qW3 g1 r1)
 (Ak (((u0++[[IV.int .u8 (35:Int)]]++[[IV.int .u8 (rI r0)]]).length+1)*1≤
 140737488355328∧
 (u0++[[IV.int .u8 (35:Int)]]++[[IV.int .u8 (rI r0)]]).length+1≤
 140737488355328)
 (K .normal ⟨[(0,As t0),(3, .ptr nL3 0),(8,Ai t8),(9,Ai t9)],[(nL3, .blk Bj [.self nL3, .own (nL3.cell 1)]),((nL3.cell 1), .arr (Aj+2) true 1 (u0++[[IV.int .u8 (35:Int)]]++[[IV.int .u8 (rI r0)]]++[[IV.int .u8 (rI r1)]]))]⟩)))))))):Ahk t0 t5 t8 t9 u0 K:=A9 (Aw E0 Cj) (Bd Cj) 3 13 (Af 13 ac_write_Name) [0,3,8,9] _ K rfl (kr (by kernel_rfl) h)
theorem Apr(Q:QQ)(t2:LB)(h:
 (Q (As t2) [])):Abb Q .ret ⟨[(2,As t2)],[]⟩:=kr (by kernel_rfl) h
theorem Aqb(Q:QQ)(u0:LL)(h:
 (Ahd u0 (Abb Q))):Ajo Q (.exit 0) ⟨[(3, .ptr nL3 0)],[(nL3, .blk Bj [.self nL3, .own (nL3.cell 1)]),((nL3.cell 1), .arr (Aj+2) true 1 u0)]⟩:=kr (by kernel_rfl) h
theorem Apu(K:KK)(t0:LB)(t8 t9:Int)(u0:LL)(h:
 (Kb t0 t8 t9 u0 K)):Mh K .normal ⟨[(0,As t0),(3, .ptr nL3 0),(8,Ai t8),(9,Ai t9)],[(nL3, .blk Bj [.self nL3, .own (nL3.cell 1)]),((nL3.cell 1), .arr (Aj+2) true 1 u0)]⟩:=kr (by kernel_rfl) h
theorem Apz(K:KK)(t0:LB)(t8 t9:Int)(u0:LL)(h:
 (Te t0 t8 t9 u0 (Mh K))):Aa0 K .normal ⟨[(0,As t0),(3, .ptr nL3 0),(8,Ai t8),(9,Ai t9)],[(nL3, .blk Bj [.self nL3, .own (nL3.cell 1)]),((nL3.cell 1), .arr (Aj+2) true 1 u0)]⟩:=kr (by kernel_rfl) h
theorem Api(K:KK)(t0:LB)(t8 t9:Int)(u0:LL)(h:
 (Te t0 t8 t9 u0 (Mh K))):Qh K (.exit (1)) ⟨[(0,As t0),(3, .ptr nL3 0),(8,Ai t8),(9,Ai t9)],[(nL3, .blk Bj [.self nL3, .own (nL3.cell 1)]),((nL3.cell 1), .arr (Aj+2) true 1 u0)]⟩:=kr (by kernel_rfl) h
theorem Apf(K:KK)(t0:LB)(t5 t8 t9:Int)(u0:LL)(h:
 (Ahk t0 t5 t8 t9 u0 (Aa0 K))):Qh K .normal ⟨[(0,As t0),(3, .ptr nL3 0),(5, .imm (.int .u8 t5)),(8,Ai t8),(9,Ai t9)],[(nL3, .blk Bj [.self nL3, .own (nL3.cell 1)]),((nL3.cell 1), .arr (Aj+2) true 1 u0)]⟩:=kr (by kernel_rfl) h
theorem Axj:Ca E0.P 25 ac_write_Name.code Cj [.tmp 2]:=Bl _ _ Tryz.f25 [(4,[0,3,8,9],[]),(6,[3],[]),(10,[0,3,5,8,9,25],[0,3,5,8,9]),(12,[0,3,8,9],[]),(13,[0,3,5,8,9],[0,3,8,9]),(16,[0,3,8,9],[0,3,8,9]),(17,[3],[])] [2] _ 41 Tryz.func25 (by kernel_rfl) (by kernel_rfl) (by kernel_rfl) (by kernel_rfl)
theorem As5(a0:LB)(Q:QQ)(h:
 (Ak (1≤140737488355328∧1≤140737488355328)
 (Kb a0 ((↑a0.length:Int)) ((0:Int)) ([]++[[IV.int .u8 (47:Int)]]) (Ajo Q)))):Call E0.P Xc [As a0] [] Q:=Be (Aw E0 Cj) (Bd Cj) 3 0 25 ac_write_Name [.tmp 2] Axj _ _ Q rfl rfl (kr (by kernel_rfl) h)
noncomputable def ac_write_Bytes:AC:=(Bf [(4,[0,3,8,9],[]),(6,[3],[]),(16,[3],[])] [2] (codeOf Tryz.f26) 0).1
abbrev Gn:Nat:=37
def Ld(t0:LB)(t8 t9:Int)(u0:LL)(K:KK):Prop:=Bu 4 E0.P Gn (A8 4 ac_write_Bytes).code ⟨[(0,As t0),(3, .ptr nL3 0),(8,Ai t8),(9,Ai t9)],[(nL3, .blk Bj [.self nL3, .own (nL3.cell 1)]),((nL3.cell 1), .arr (Aj+2) true 1 u0)]⟩ K
def Agw(u0:LL)(K:KK):Prop:=Av 16 E0.P Gn (Af 16 ac_write_Bytes).code ⟨[(3, .ptr nL3 0)],[(nL3, .blk Bj [.self nL3, .own (nL3.cell 1)]),((nL3.cell 1), .arr (Aj+2) true 1 u0)]⟩ K
def Y4(Q:QQ):KK:=kE fun st=>finish 0 E0.T [.tmp 2] [] Q st
def Oc(Q:QQ):KK:=kF 0 (fun st=>Av 16 E0.P Gn (Af 16 ac_write_Bytes).code (mask [3] st) (Y4 Q)) fun st=>finish 0 E0.T [.tmp 2] [] Q st
theorem Ab6(t0:LB)(t8 t9:Int)(u0:LL)(K:KK)(h:
 (Br (decide (t9<t8))
 (Ak ((0:Int)≤t9∧t9<(↑t0.length:Int))
 (Call E0.P Xe [.imm (.int .u8 ((↑(t0.getD t9.toNat 0).toNat:Int)))] [] fun r0 g0=>
 Ak (qW2 g0 r0)
 (Br (!rB r0)
 (Call E0.P Abp [As t0] [] fun r1 g1=>
 Ak (qW1 g1 r1)
 (Ak ((↑((1:Nat)+(rS r1).length):Int)≤(9223372036854775807:Int))
 (K .ret ⟨[(2,As ([(60:UInt8)]++rS r1))],[]⟩)))
 (Let (bif decide ((↑(t0.getD t9.toNat 0).toNat:Int)=(40:Int))then true
 else decide ((↑(t0.getD t9.toNat 0).toNat:Int)=(41:Int))) fun x2=>
 Let (bif x2 then true else decide ((↑(t0.getD t9.toNat 0).toNat:Int)=(92:Int))) fun x3=>
 Br (x3)
 (Ak ((u0.length+1)*1≤140737488355328∧u0.length+1≤140737488355328)
 (Ak (((u0++[[IV.int .u8 (92:Int)]]).length+1)*1≤140737488355328∧
 (u0++[[IV.int .u8 (92:Int)]]).length+1≤140737488355328)
 (Ld t0 t8 (IntKind.i64.wrap (t9+(1:Int))) (u0++[[IV.int .u8 (92:Int)]]++[[IV.int .u8 (↑(t0.getD t9.toNat 0).toNat:Int)]]) K)))
 (Ak ((u0.length+1)*1≤140737488355328∧u0.length+1≤140737488355328)
 (Ld t0 t8 (IntKind.i64.wrap (t9+(1:Int))) (u0++[[IV.int .u8 (↑(t0.getD t9.toNat 0).toNat:Int)]]) K))))))
 (K (.exit 0) ⟨[(3, .ptr nL3 0)],[(nL3, .blk Bj [.self nL3, .own (nL3.cell 1)]),((nL3.cell 1), .arr (Aj+2) true 1 u0)]⟩))):Ld t0 t8 t9 u0 K:=Bo (Aw E0 Gn) (Bd Gn) 3 4 (A8 4 ac_write_Bytes) [0,3,8,9] _ K rfl (kr (by kernel_rfl) h)
theorem Alv(u0:LL)(K:KK)(h:
 (Ak ((u0.length+1)*1≤140737488355328∧u0.length+1≤140737488355328)
 (Ak (((↑(u0++[[IV.int .u8 (41:Int)]]).length:Int)=
 (↑(u0++[[IV.int .u8 (41:Int)]]).length:Int)∧
 (u0++[[IV.int .u8 (41:Int)]]).length≤9223372036854775807)∧
 ∀(r:List IV),r∈u0++[[IV.int .u8 (41:Int)]]→Ck [.int .u8] r=true)
 (K .ret ⟨[(2,As (List.map (fun r=>UInt8.ofNat (gI r 0).toNat) (u0++[[IV.int .u8 (41:Int)]])))],[]⟩)))):Agw u0 K:=A9 (Aw E0 Gn) (Bd Gn) 3 16 (Af 16 ac_write_Bytes) [] _ K rfl (kr (by kernel_rfl) h)
theorem An2(Q:QQ)(t2:LB)(h:
 (Q (As t2) [])):Y4 Q .ret ⟨[(2,As t2)],[]⟩:=kr (by kernel_rfl) h
theorem Aoo(Q:QQ)(t2:LB)(h:
 (Q (As t2) [])):Oc Q .ret ⟨[(2,As t2)],[]⟩:=kr (by kernel_rfl) h
theorem An0(Q:QQ)(u0:LL)(h:
 (Agw u0 (Y4 Q))):Oc Q (.exit 0) ⟨[(3, .ptr nL3 0)],[(nL3, .blk Bj [.self nL3, .own (nL3.cell 1)]),((nL3.cell 1), .arr (Aj+2) true 1 u0)]⟩:=kr (by kernel_rfl) h
theorem Aux:Ca E0.P 26 ac_write_Bytes.code Gn [.tmp 2]:=Bl _ _ Tryz.f26 [(4,[0,3,8,9],[]),(6,[3],[]),(16,[3],[])] [2] _ 37 Tryz.func26 (by kernel_rfl) (by kernel_rfl) (by kernel_rfl) (by kernel_rfl)
theorem Aq7(a0:LB)(Q:QQ)(h:
 (Ak (1≤140737488355328∧1≤140737488355328)
 (Ld a0 ((↑a0.length:Int)) ((0:Int)) ([]++[[IV.int .u8 (40:Int)]]) (Oc Q)))):Call E0.P Aay [As a0] [] Q:=Be (Aw E0 Gn) (Bd Gn) 3 0 26 ac_write_Bytes [.tmp 2] Aux _ _ Q rfl rfl (kr (by kernel_rfl) h)
noncomputable def ac_value_Check:AC:=(Bf [] [4] (codeOf Tryz.f12) 0).1
abbrev Abq:Nat:=8
theorem Auy:Ca E0.P 12 ac_value_Check.code Abq [.tmp 4]:=Bl _ _ Tryz.f12 [] [4] _ 8 Tryz.func12 (by kernel_rfl) (by kernel_rfl) (by kernel_rfl) (by kernel_rfl)
theorem Aqy(a0_0 a0_1 a0_2:Int)(a0_3:LB)(a0_4 a0_5:LL)(a1:Bool)(Q:QQ)(h:
 (Call E0.P Pv [.imm (.agg [.int .i64 a0_0, .int .i64 a0_1, .int .i64 a0_2, .str a0_3, .sl .any 6 a0_4, .sl .any 7 a0_5]),Ab a1,Ai 0] [] fun r0 g0=>
 Ak (qW0 g0 r0)
 (Q (Ai (rI r0)) []))):Call E0.P Aaz [.imm (.agg [.int .i64 a0_0, .int .i64 a0_1, .int .i64 a0_2, .str a0_3, .sl .any 6 a0_4, .sl .any 7 a0_5]),Ab a1] [] Q:=Be (Aw E0 Abq) (Bd Abq) 3 0 12 ac_value_Check [.tmp 4] Auy _ _ Q rfl rfl (kr (by kernel_rfl) h)
noncomputable def ac_write_plain:AC:=(Bf [(13,[1,3,33,34,35],[]),(15,[1,3],[]),(21,[1,3,48,49,50],[]),(23,[1,3],[]),(28,[1,1000003],[])] [2] (codeOf Tryz.f16) 0).1
abbrev Cx:Nat:=79
def Rm(t33r:LL)(t34 t35:Int)(u0 u1 u2:Int)(u3:LB)(u4 u5 u6:LL)(K:KK):Prop:=Bu 13 E0.P Cx (A8 13 ac_write_plain).code ⟨[(1, .ptr Fv 0),(3, .own nL3),(33,Al 6 t33r),(34,Ai t34),(35,Ai t35)],[(Fv, .blk Ac [Ai u0,Ai u1,Ai u2,As u3,Al 6 u4,Al 7 u5]),(nL3, .arr (Oz+2) true 1 u6)]⟩ K
def Re(t48r:LL)(t49 t50:Int)(u0 u1 u2:Int)(u3:LB)(u4 u5 u6:LL)(K:KK):Prop:=Bu 21 E0.P Cx (A8 21 ac_write_plain).code ⟨[(1, .ptr Fv 0),(3, .own nL3),(48,Al 7 t48r),(49,Ai t49),(50,Ai t50)],[(Fv, .blk Ac [Ai u0,Ai u1,Ai u2,As u3,Al 6 u4,Al 7 u5]),(nL3, .arr (Oz+2) true 1 u6)]⟩ K
def Kg(t3r:LL)(u0 u1 u2:Int)(u3:LB)(u4 u5:LL)(K:KK):Prop:=Av 28 E0.P Cx (Af 28 ac_write_plain).code ⟨[(1, .ptr Fv 0),(3,Al 1 t3r)],[(Fv, .blk Ac [Ai u0,Ai u1,Ai u2,As u3,Al 6 u4,Al 7 u5])]⟩ K
def Ed(Q:QQ):KK:=kE fun st=>finish 0 E0.T [.tmp 2] [] Q st
def Ahl(Q:QQ):Ex→St→Prop
 | .normal,st=>Av 28 E0.P Cx (Af 28 ac_write_plain).code (mask [1,1000003] st) (Ed Q)
 | .exit i,st=>(match (i.beq 1:Bool)with
 |true=>Av 28 E0.P Cx (Af 28 ac_write_plain).code (mask [1,1000003] st) (Ed Q)
 |false=>(match (i.beq 0:Bool)with
 |true=>Av 28 E0.P Cx (Af 28 ac_write_plain).code (mask [1,1000003] st) (Ed Q)
 |false=>False))
 | .goto _,_=>False
 | .ret,st=>finish 0 E0.T [.tmp 2] [] Q st
def Ahg(Q:QQ):Ex→St→Prop
 | .normal,st=>Av 28 E0.P Cx (Af 28 ac_write_plain).code (mask [1,1000003] st) (Ed Q)
 | .exit i,st=>(match (i.beq 3:Bool)with
 |true=>Av 28 E0.P Cx (Af 28 ac_write_plain).code (mask [1,1000003] st) (Ed Q)
 |false=>(match (i.beq 0:Bool)with
 |true=>Av 28 E0.P Cx (Af 28 ac_write_plain).code (mask [1,1000003] st) (Ed Q)
 |false=>False))
 | .goto _,_=>False
 | .ret,st=>finish 0 E0.T [.tmp 2] [] Q st
theorem Aal(t33r:LL)(t34 t35:Int)(u0 u1 u2:Int)(u3:LB)(u4 u5 u6:LL)(K:KK)(h:
 (Br (decide (t35<t34))
 (Ak (((0:Int)≤t35∧t35<(↑t33r.length:Int))∧
 Ck
 [.int .i64, .int .i64, .int .i64, .str, .sl 6 Ac,
 .sl 7 Ap]
 (t33r.getD t35.toNat [])=
 true)
 (Call E0.P Pk [.imm (.agg [.int .i64 (gI (t33r.getD t35.toNat []) 0), .int .i64 (gI (t33r.getD t35.toNat []) 1), .int .i64 (gI (t33r.getD t35.toNat []) 2), .str (gS (t33r.getD t35.toNat []) 3), .sl .any 6 (gR (t33r.getD t35.toNat []) 4), .sl .any 7 (gR (t33r.getD t35.toNat []) 5)])] [] fun r0 g0=>
 Ak (qW1 g0 r0)
 (Ak ((u6.length+1)*16≤140737488355328∧u6.length+1≤140737488355328)
 (Rm t33r t34 (IntKind.i64.wrap (t35+(1:Int))) u0 u1 u2 u3 u4 u5 (u6++[[IV.str (rS r0)]]) K))))
 (K (.exit (1)) ⟨[(1, .ptr Fv 0),(3, .own nL3)],[(Fv, .blk Ac [Ai u0,Ai u1,Ai u2,As u3,Al 6 u4,Al 7 u5]),(nL3, .arr (Oz+2) true 1 u6)]⟩))):Rm t33r t34 t35 u0 u1 u2 u3 u4 u5 u6 K:=Bo (Aw E0 Cx) (Bd Cx) 3 13 (A8 13 ac_write_plain) [1,3,33,34,35] _ K rfl (kr (by kernel_rfl) h)
theorem Aaj(t48r:LL)(t49 t50:Int)(u0 u1 u2:Int)(u3:LB)(u4 u5 u6:LL)(K:KK)(h:
 (Br (decide (t50<t49))
 (Ak (((0:Int)≤t50∧t50<(↑t48r.length:Int))∧
 Ck
 [.str, .int .i64, .int .i64, .int .i64, .str, .sl 6 Ac,
 .sl 7 Ap]
 (t48r.getD t50.toNat [])=
 true)
 (Call E0.P Xc [As (gS (t48r.getD t50.toNat []) 0)] [] fun r0 g0=>
 Ak (qW1 g0 r0)
 (Call E0.P Pk [.imm (.agg [.int .i64 (gI (t48r.getD t50.toNat []) 1), .int .i64 (gI (t48r.getD t50.toNat []) 2), .int .i64 (gI (t48r.getD t50.toNat []) 3), .str (gS (t48r.getD t50.toNat []) 4), .sl .any 6 (gR (t48r.getD t50.toNat []) 5), .sl .any 7 (gR (t48r.getD t50.toNat []) 6)])] [] fun r1 g1=>
 Ak (qW1 g1 r1)
 (Call E0.P S9 [.imm (.sl .any 1 [[IV.str (rS r0)],[.str (rS r1)]])] [] fun r2 g2=>
 Ak (qW1 g2 r2)
 (Ak ((u6.length+1)*16≤140737488355328∧u6.length+1≤140737488355328)
 (Re t48r t49 (IntKind.i64.wrap (t50+(1:Int))) u0 u1 u2 u3 u4 u5 (u6++[[IV.str (rS r2)]]) K))))))
 (K (.exit (3)) ⟨[(1, .ptr Fv 0),(3, .own nL3)],[(Fv, .blk Ac [Ai u0,Ai u1,Ai u2,As u3,Al 6 u4,Al 7 u5]),(nL3, .arr (Oz+2) true 1 u6)]⟩))):Re t48r t49 t50 u0 u1 u2 u3 u4 u5 u6 K:=Bo (Aw E0 Cx) (Bd Cx) 3 21 (A8 21 ac_write_plain) [1,3,48,49,50] _ K rfl (kr (by kernel_rfl) h)
theorem Amc(t3r:LL)(u0 u1 u2:Int)(u3:LB)(u4 u5:LL)(K:KK)(h:
 (Call E0.P Aab [Ai u0,Al 1 t3r] [] fun r0 g0=>
 Ak (qW1 g0 r0)
 (K .ret ⟨[(2,As (rS r0))],[]⟩))):Kg t3r u0 u1 u2 u3 u4 u5 K:=A9 (Aw E0 Cx) (Bd Cx) 3 28 (Af 28 ac_write_plain) [] _ K rfl (kr (by kernel_rfl) h)
theorem Anj(Q:QQ)(t2:LB)(h:
 (Q (As t2) [])):Ed Q .ret ⟨[(2,As t2)],[]⟩:=kr (by kernel_rfl) h
theorem Ams(Q:QQ)(u0 u1 u2:Int)(u3:LB)(u4 u5 u6:LL)(h:
 (Kg u6 u0 u1 u2 u3 u4 u5 (Ed Q))):Ahl Q (.exit (1)) ⟨[(1, .ptr Fv 0),(3, .own nL3)],[(Fv, .blk Ac [Ai u0,Ai u1,Ai u2,As u3,Al 6 u4,Al 7 u5]),(nL3, .arr (Oz+2) true 1 u6)]⟩:=kr (by kernel_rfl) h
theorem An1(Q:QQ)(u0 u1 u2:Int)(u3:LB)(u4 u5 u6:LL)(h:
 (Kg u6 u0 u1 u2 u3 u4 u5 (Ed Q))):Ahg Q (.exit (3)) ⟨[(1, .ptr Fv 0),(3, .own nL3)],[(Fv, .blk Ac [Ai u0,Ai u1,Ai u2,As u3,Al 6 u4,Al 7 u5]),(nL3, .arr (Oz+2) true 1 u6)]⟩:=kr (by kernel_rfl) h
theorem Aut:Ca E0.P 16 ac_write_plain.code Cx [.tmp 2]:=Bl _ _ Tryz.f16 [(13,[1,3,33,34,35],[]),(15,[1,3],[]),(21,[1,3,48,49,50],[]),(23,[1,3],[]),(28,[1,1000003],[])] [2] _ 79 Tryz.func16 (by kernel_rfl) (by kernel_rfl) (by kernel_rfl) (by kernel_rfl)
theorem Aq5(a0_0 a0_1 a0_2:Int)(a0_3:LB)(a0_4 a0_5:LL)(Q:QQ)(h:
 (Br (decide (a0_0=(1:Int)))
 (Call E0.P Acv [Ai a0_1] [] fun r0 g0=>
 Ak (qW1 g0 r0)
 (Q (As (rS r0)) []))
 (Br (decide (a0_0=(2:Int)))
 (Call E0.P R6 [Ai a0_1] [] fun r1 g1=>
 Ak (qW1 g1 r1)
 (Q (As (rS r1)) []))
 (Br (decide (a0_0=(3:Int)))
 (Call E0.P Xc [As a0_3] [] fun r2 g2=>
 Ak (qW1 g2 r2)
 (Q (As (rS r2)) []))
 (Br (decide (a0_0=(4:Int)))
 (Call E0.P Aay [As a0_3] [] fun r3 g3=>
 Ak (qW1 g3 r3)
 (Q (As (rS r3)) []))
 (Br (decide (a0_0=(5:Int)))
 (Rm a0_4 ((↑a0_4.length:Int)) ((0:Int)) a0_0 a0_1 a0_2 a0_3 a0_4 a0_5 [] (Ahl Q))
 (Br (decide (a0_0=(6:Int)))
 (Re a0_5 ((↑a0_5.length:Int)) ((0:Int)) a0_0 a0_1 a0_2 a0_3 a0_4 a0_5 [] (Ahg Q))
 (Br (decide (a0_0=(7:Int)))
 (Call E0.P R6 [Ai a0_1] [] fun r4 g4=>
 Ak (qW1 g4 r4)
 (Call E0.P R6 [Ai a0_2] [] fun r5 g5=>
 Ak (qW1 g5 r5)
 (Kg [[IV.str (rS r4)],[.str (rS r5)]] a0_0 a0_1 a0_2 a0_3 a0_4 a0_5 (Ed Q))))
 (Kg [] a0_0 a0_1 a0_2 a0_3 a0_4 a0_5 (Ed Q)))))))))):Call E0.P Pk [.imm (.agg [.int .i64 a0_0, .int .i64 a0_1, .int .i64 a0_2, .str a0_3, .sl .any 6 a0_4, .sl .any 7 a0_5])] [] Q:=Be (Aw E0 Cx) (Bd Cx) 3 0 16 ac_write_plain [.tmp 2] Aut _ _ Q rfl rfl (kr (by kernel_rfl) h)
noncomputable def ac_write_seen:AC:=(Bf [] [2] (codeOf Tryz.f48) 0).1
abbrev Acx:Nat:=9
theorem Axk:Ca E0.P 48 ac_write_seen.code Acx [.tmp 2]:=Bl _ _ Tryz.f48 [] [2] _ 9 Tryz.func48 (by kernel_rfl) (by kernel_rfl) (by kernel_rfl) (by kernel_rfl)
theorem At8(a0:Int)(Q:QQ)(h:
 (Let (bif decide ((32:Int)≤a0)then decide (a0≤(126:Int))else false) fun x0=>
 Q (Ab x0) [])):Call E0.P Xe [.imm (.int .u8 a0)] [] Q:=Be (Aw E0 Acx) (Bd Acx) 3 0 48 ac_write_seen [.tmp 2] Axk _ _ Q rfl rfl (kr (by kernel_rfl) h)
noncomputable def ac_hexa_Encode:AC:=(Bf [(3,[0,3,6,7],[]),(5,[3],[]),(10,[3],[])] [2] (codeOf Tryz.f52) 0).1
abbrev Gj:Nat:=27
def Tp(t0:LB)(t6 t7:Int)(u0:LL)(K:KK):Prop:=Bu 3 E0.P Gj (A8 3 ac_hexa_Encode).code ⟨[(0,As t0),(3, .ptr nL3 0),(6,Ai t6),(7,Ai t7)],[(nL3, .blk Bj [.self nL3, .own (nL3.cell 1)]),((nL3.cell 1), .arr (Aj+2) true 1 u0)]⟩ K
def Afi(u0:LL)(K:KK):Prop:=Av 10 E0.P Gj (Af 10 ac_hexa_Encode).code ⟨[(3, .ptr nL3 0)],[(nL3, .blk Bj [.self nL3, .own (nL3.cell 1)]),((nL3.cell 1), .arr (Aj+2) true 1 u0)]⟩ K
def Zh(Q:QQ):KK:=kE fun st=>finish 0 E0.T [.tmp 2] [] Q st
def Aho(Q:QQ):KK:=kF 0 (fun st=>Av 10 E0.P Gj (Af 10 ac_hexa_Encode).code (mask [3] st) (Zh Q)) fun st=>finish 0 E0.T [.tmp 2] [] Q st
theorem Acd(t0:LB)(t6 t7:Int)(u0:LL)(K:KK)(h:
 (Br (decide (t7<t6))
 (Ak ((0:Int)≤t7∧t7<(↑t0.length:Int))
 (Ak ((0:Int)≤(4:Int))
 (Call E0.P Mj [.imm (.int .i64 (IntKind.i64.wrap ((↑(t0.getD t7.toNat 0).toNat:Int).fdiv ((2:Int) ^ 4))))] [] fun r0 g0=>
 Ak (qW3 g0 r0)
 (Ak ((u0.length+1)*1≤140737488355328∧u0.length+1≤140737488355328)
 (Ak ((0:Int)≤t7∧t7<(↑t0.length:Int))
 (Call E0.P Mj [.imm (.int .i64 (IntKind.i64.wrap
 (IntKind.u8.wrap
 (↑(BitVec.ofInt (8:Nat) (↑(t0.getD t7.toNat 0).toNat:Int) &&&
 BitVec.ofInt (8:Nat) (15:Int)).toNat:
 Int))))] [] fun r1 g1=>
 Ak (qW3 g1 r1)
 (Ak (((u0++[[IV.int .u8 (rI r0)]]).length+1)*1≤140737488355328∧
 (u0++[[IV.int .u8 (rI r0)]]).length+1≤140737488355328)
 (Tp t0 t6 (IntKind.i64.wrap (t7+(1:Int))) (u0++[[IV.int .u8 (rI r0)]]++[[IV.int .u8 (rI r1)]]) K))))))))
 (K (.exit 0) ⟨[(3, .ptr nL3 0)],[(nL3, .blk Bj [.self nL3, .own (nL3.cell 1)]),((nL3.cell 1), .arr (Aj+2) true 1 u0)]⟩))):Tp t0 t6 t7 u0 K:=Bo (Aw E0 Gj) (Bd Gj) 3 3 (A8 3 ac_hexa_Encode) [0,3,6,7] _ K rfl (kr (by kernel_rfl) h)
theorem Al5(u0:LL)(K:KK)(h:
 (Ak ((u0.length+1)*1≤140737488355328∧u0.length+1≤140737488355328)
 (Ak (((↑(u0++[[IV.int .u8 (62:Int)]]).length:Int)=
 (↑(u0++[[IV.int .u8 (62:Int)]]).length:Int)∧
 (u0++[[IV.int .u8 (62:Int)]]).length≤9223372036854775807)∧
 ∀(r:List IV),r∈u0++[[IV.int .u8 (62:Int)]]→Ck [.int .u8] r=true)
 (K .ret ⟨[(2,As (List.map (fun r=>UInt8.ofNat (gI r 0).toNat) (u0++[[IV.int .u8 (62:Int)]])))],[]⟩)))):Afi u0 K:=A9 (Aw E0 Gj) (Bd Gj) 3 10 (Af 10 ac_hexa_Encode) [] _ K rfl (kr (by kernel_rfl) h)
theorem Anz(Q:QQ)(t2:LB)(h:
 (Q (As t2) [])):Zh Q .ret ⟨[(2,As t2)],[]⟩:=kr (by kernel_rfl) h
theorem An5(Q:QQ)(u0:LL)(h:
 (Afi u0 (Zh Q))):Aho Q (.exit 0) ⟨[(3, .ptr nL3 0)],[(nL3, .blk Bj [.self nL3, .own (nL3.cell 1)]),((nL3.cell 1), .arr (Aj+2) true 1 u0)]⟩:=kr (by kernel_rfl) h
theorem Avk:Ca E0.P 52 ac_hexa_Encode.code Gj [.tmp 2]:=Bl _ _ Tryz.f52 [(3,[0,3,6,7],[]),(5,[3],[]),(10,[3],[])] [2] _ 27 Tryz.func52 (by kernel_rfl) (by kernel_rfl) (by kernel_rfl) (by kernel_rfl)
theorem Arv(a0:LB)(Q:QQ)(h:
 (Tp a0 ((↑a0.length:Int)) ((0:Int)) [] (Aho Q))):Call E0.P Abp [As a0] [] Q:=Be (Aw E0 Gj) (Bd Gj) 3 0 52 ac_hexa_Encode [.tmp 2] Avk _ _ Q rfl rfl (kr (by kernel_rfl) h)
noncomputable def ac_value_check:AC:=(Bf [(6,[2,3,23,24,25],[]),(8,[2,3],[]),(15,[2,3],[]),(18,[2,11,39,40,41],[]),(20,[],[]),(25,[2,11,13,39,40,41],[2,11,39,40,41]),(30,[2,11,39,40,41],[2,11,39,40,41]),(31,[],[])] [6] (codeOf Tryz.f22) 0).1
abbrev Bw:Nat:=75
def Tn(t2:Int)(t23r:LL)(t24 t25:Int)(u0 u1 u2:Int)(u3:LB)(u4 u5:LL)(K:KK):Prop:=Bu 6 E0.P Bw (A8 6 ac_value_check).code ⟨[(2,Ai t2),(3, .ptr nL3 0),(23,Al 6 t23r),(24,Ai t24),(25,Ai t25)],[(nL3, .blk Ac [Ai u0,Ai u1,Ai u2,As u3,Al 6 u4,Al 7 u5])]⟩ K
def Af0(t2 u0:Int)(u1 u2:Int)(u3:LB)(u4 u5:LL)(K:KK):Prop:=Av 15 E0.P Bw (Af 15 ac_value_check).code ⟨[(2,Ai t2),(3, .ptr nL3 0)],[(nL3, .blk Ac [Ai u0,Ai u1,Ai u2,As u3,Al 6 u4,Al 7 u5])]⟩ K
def Q6(t2:Int)(t39r:LL)(t40 t41:Int)(u0:List (List UInt8 × Int))(K:KK):Prop:=Bu 18 E0.P Bw (A8 18 ac_value_check).code ⟨[(2,Ai t2),(11, .mp Zx),(39,Al 7 t39r),(40,Ai t40),(41,Ai t41)],[(Zx, .map u0)]⟩ K
def Qt(t2:Int)(t39r:LL)(t40 t41:Int)(u0:List (List UInt8 × Int))(u1:LB)(u2 u3 u4:Int)(u5:LB)(u6 u7:LL)(K:KK):Prop:=Av 25 E0.P Bw (Af 25 ac_value_check).code ⟨[(2,Ai t2),(11, .mp Zx),(13, .ptr Bdy 0),(39,Al 7 t39r),(40,Ai t40),(41,Ai t41)],[(Zx, .map u0),(Bdy, .blk Ap [As u1,Ai u2,Ai u3,Ai u4,As u5,Al 6 u6,Al 7 u7])]⟩ K
def Afe(K:KK):Prop:=Av 31 E0.P Bw (Af 31 ac_value_check).code ⟨[],[]⟩ K
def Ags(t2:Int)(t39r:LL)(t40 t41:Int)(u0:List (List UInt8 × Int))(K:KK):Prop:=Av 30 E0.P Bw (Af 30 ac_value_check).code ⟨[(2,Ai t2),(11, .mp Zx),(39,Al 7 t39r),(40,Ai t40),(41,Ai t41)],[(Zx, .map u0)]⟩ K
def Zk(Q:QQ):KK:=kE fun st=>finish 0 E0.T [.tmp 6] [] Q st
def Z5(Q:QQ):KK:=kF 0 (fun st=>Av 15 E0.P Bw (Af 15 ac_value_check).code (mask [2,3] st) (Zk Q)) fun st=>finish 0 E0.T [.tmp 6] [] Q st
def Y0(K:KK):KK:=kP [] K
def K3(K:KK):KK:=kC 2 (fun st=>Av 31 E0.P Bw (Af 31 ac_value_check).code (mask [] st) (Y0 K)) K
def Yw(K:KK):Ex→St→Prop
 | .normal,st=>Bu 18 E0.P Bw (A8 18 ac_value_check).code (mask [2,11,39,40,41] st) K
 | .exit i,st=>K (.exit i) st
 | .goto i,st=>K (.goto i) st
 | .ret,st=>K .ret st
def Og(K:KK):KK:=kC 3 (fun st=>Av 30 E0.P Bw (Af 30 ac_value_check).code (mask [2,11,39,40,41] st) (Yw K)) K
theorem Acm(t2:Int)(t23r:LL)(t24 t25:Int)(u0 u1 u2:Int)(u3:LB)(u4 u5:LL)(K:KK)(h:
 (Br (decide (t25<t24))
 (Ak (((0:Int)≤t25∧t25<(↑t23r.length:Int))∧
 Ck
 [.int .i64, .int .i64, .int .i64, .str, .sl 6 Ac,
 .sl 7 Ap]
 (t23r.getD t25.toNat [])=
 true)
 (Call E0.P Pv [.imm (.agg [.int .i64 (gI (t23r.getD t25.toNat []) 0), .int .i64 (gI (t23r.getD t25.toNat []) 1), .int .i64 (gI (t23r.getD t25.toNat []) 2), .str (gS (t23r.getD t25.toNat []) 3), .sl .any 6 (gR (t23r.getD t25.toNat []) 4), .sl .any 7 (gR (t23r.getD t25.toNat []) 5)]),Ab false,Ai (IntKind.i64.wrap (t2+(1:Int)))] [] fun r0 g0=>
 Ak (qW0 g0 r0)
 (Br (!decide (rI r0=(0:Int)))
 (K .ret ⟨[(6,Ai (rI r0))],[]⟩)
 (Tn t2 t23r t24 (IntKind.i64.wrap (t25+(1:Int))) u0 u1 u2 u3 u4 u5 K))))
 (K (.exit 0) ⟨[(2,Ai t2),(3, .ptr nL3 0)],[(nL3, .blk Ac [Ai u0,Ai u1,Ai u2,As u3,Al 6 u4,Al 7 u5])]⟩))):Tn t2 t23r t24 t25 u0 u1 u2 u3 u4 u5 K:=Bo (Aw E0 Bw) (Bd Bw) 3 6 (A8 6 ac_value_check) [2,3,23,24,25] _ K rfl (kr (by kernel_rfl) h)
theorem Ama(t2 u0:Int)(u1 u2:Int)(u3:LB)(u4 u5:LL)(K:KK)(h:
 (Q6 t2 u5 ((↑u5.length:Int)) ((0:Int)) [] (K3 K))):Af0 t2 u0 u1 u2 u3 u4 u5 K:=A9 (Aw E0 Bw) (Bd Bw) 3 15 (Af 15 ac_value_check) [] _ K rfl (kr (by kernel_rfl) h)
theorem Aan(t2:Int)(t39r:LL)(t40 t41:Int)(u0:List (List UInt8 × Int))(K:KK)(h:
 (Br (decide (t41<t40))
 (Ak (((0:Int)≤t41∧t41<(↑t39r.length:Int))∧
 Ck
 [.str, .int .i64, .int .i64, .int .i64, .str, .sl 6 Ac,
 .sl 7 Ap]
 (t39r.getD t41.toNat [])=
 true)
 (Br (decide ((127:Int)<(↑(gS (t39r.getD t41.toNat []) (0:Nat)).length:Int)) == false)
 (Call E0.P Uk [As (gS (t39r.getD t41.toNat []) 0)] [] fun r0 g0=>
 Ak (qW2 g0 r0)
 (Let (rB r0) fun x1=>
 Let (bif x1 then true else decide ((0:Int)<Dl u0 (gS (t39r.getD t41.toNat []) 0))) fun x2=>
 Br (x2)
 (K .ret ⟨[(6,Ai 11)],[]⟩)
 (Qt t2 t39r t40 t41 u0 (gS (t39r.getD t41.toNat []) 0) (gI (t39r.getD t41.toNat []) 1) (gI (t39r.getD t41.toNat []) 2) (gI (t39r.getD t41.toNat []) 3) (gS (t39r.getD t41.toNat []) 4) (gR (t39r.getD t41.toNat []) 5) (gR (t39r.getD t41.toNat []) 6) (Og K))))
 (Ak ((!false)=true)
 (Let (true) fun x3=>
 Let (bif x3 then true else decide ((0:Int)<Dl u0 (gS (t39r.getD t41.toNat []) 0))) fun x4=>
 Br (x4)
 (K .ret ⟨[(6,Ai 11)],[]⟩)
 (Qt t2 t39r t40 t41 u0 (gS (t39r.getD t41.toNat []) 0) (gI (t39r.getD t41.toNat []) 1) (gI (t39r.getD t41.toNat []) 2) (gI (t39r.getD t41.toNat []) 3) (gS (t39r.getD t41.toNat []) 4) (gR (t39r.getD t41.toNat []) 5) (gR (t39r.getD t41.toNat []) 6) (Og K))))))
 (K (.exit (2)) ⟨[],[]⟩))):Q6 t2 t39r t40 t41 u0 K:=Bo (Aw E0 Bw) (Bd Bw) 3 18 (A8 18 ac_value_check) [2,11,39,40,41] _ K rfl (kr (by kernel_rfl) h)
theorem Alz(t2:Int)(t39r:LL)(t40 t41:Int)(u0:List (List UInt8 × Int))(u1:LB)(u2 u3 u4:Int)(u5:LB)(u6 u7:LL)(K:KK)(h:
 (Call E0.P Pv [.imm (.agg [.int .i64 u2, .int .i64 u3, .int .i64 u4, .str u5, .sl .any 6 u6, .sl .any 7 u7]),Ab false,Ai (IntKind.i64.wrap (t2+(1:Int)))] [] fun r0 g0=>
 Ak (qW0 g0 r0)
 (Br (!decide (rI r0=(0:Int)))
 (K .ret ⟨[(6,Ai (rI r0))],[]⟩)
 (K .normal ⟨[(2,Ai t2),(11, .mp Zx),(39,Al 7 t39r),(40,Ai t40),(41,Ai t41)],[(Zx, .map (Vm u0 u1 (IntKind.i64.wrap (Dl u0 u1+(1:Int)))))]⟩)))):Qt t2 t39r t40 t41 u0 u1 u2 u3 u4 u5 u6 u7 K:=A9 (Aw E0 Bw) (Bd Bw) 3 25 (Af 25 ac_value_check) [2,11,39,40,41] _ K rfl (kr (by kernel_rfl) h)
theorem Aly(K:KK)(h:
 (K .ret ⟨[(6,Ai 0)],[]⟩)):Afe K:=A9 (Aw E0 Bw) (Bd Bw) 3 31 (Af 31 ac_value_check) [] _ K rfl (kr (by kernel_rfl) h)
theorem Al8(t2:Int)(t39r:LL)(t40 t41:Int)(u0:List (List UInt8 × Int))(K:KK)(h:
 (K .normal ⟨[(2,Ai t2),(11, .mp Zx),(39,Al 7 t39r),(40,Ai t40),(41,Ai (IntKind.i64.wrap (t41+(1:Int))))],[(Zx, .map u0)]⟩)):Ags t2 t39r t40 t41 u0 K:=A9 (Aw E0 Bw) (Bd Bw) 3 30 (Af 30 ac_value_check) [2,11,39,40,41] _ K rfl (kr (by kernel_rfl) h)
theorem Amo(Q:QQ)(t6:Int)(h:
 (Q (Ai t6) [])):Zk Q .ret ⟨[(6,Ai t6)],[]⟩:=kr (by kernel_rfl) h
theorem Aob(Q:QQ)(t6:Int)(h:
 (Q (Ai t6) [])):Z5 Q .ret ⟨[(6,Ai t6)],[]⟩:=kr (by kernel_rfl) h
theorem Anq(Q:QQ)(t2 u0:Int)(u1 u2:Int)(u3:LB)(u4 u5:LL)(h:
 (Af0 t2 u0 u1 u2 u3 u4 u5 (Zk Q))):Z5 Q (.exit 0) ⟨[(2,Ai t2),(3, .ptr nL3 0)],[(nL3, .blk Ac [Ai u0,Ai u1,Ai u2,As u3,Al 6 u4,Al 7 u5])]⟩:=kr (by kernel_rfl) h
theorem Amh(K:KK)(t6:Int)(h:
 (K .ret ⟨[(6,Ai t6)],[]⟩)):Y0 K .ret ⟨[(6,Ai t6)],[]⟩:=kr (by kernel_rfl) h
theorem Ab4(K:KK)(t6:Int)(h:
 (K .ret ⟨[(6,Ai t6)],[]⟩)):K3 K .ret ⟨[(6,Ai t6)],[]⟩:=kr (by kernel_rfl) h
theorem Aoj(K:KK)(h:
 (Afe (Y0 K))):K3 K (.exit (2)) ⟨[],[]⟩:=kr (by kernel_rfl) h
theorem Amk(K:KK)(t2:Int)(t39r:LL)(t40 t41:Int)(u0:List (List UInt8 × Int))(h:
 (Q6 t2 t39r t40 t41 u0 K)):Yw K .normal ⟨[(2,Ai t2),(11, .mp Zx),(39,Al 7 t39r),(40,Ai t40),(41,Ai t41)],[(Zx, .map u0)]⟩:=kr (by kernel_rfl) h
theorem Amu(K:KK)(t6:Int)(h:
 (K .ret ⟨[(6,Ai t6)],[]⟩)):Og K .ret ⟨[(6,Ai t6)],[]⟩:=kr (by kernel_rfl) h
theorem Am7(K:KK)(t2:Int)(t39r:LL)(t40 t41:Int)(u0:List (List UInt8 × Int))(h:
 (Ags t2 t39r t40 t41 u0 (Yw K))):Og K .normal ⟨[(2,Ai t2),(11, .mp Zx),(39,Al 7 t39r),(40,Ai t40),(41,Ai t41)],[(Zx, .map u0)]⟩:=kr (by kernel_rfl) h
theorem Avv:Ca E0.P 22 ac_value_check.code Bw [.tmp 6]:=Bl _ _ Tryz.f22 [(6,[2,3,23,24,25],[]),(8,[2,3],[]),(15,[2,3],[]),(18,[2,11,39,40,41],[]),(20,[],[]),(25,[2,11,13,39,40,41],[2,11,39,40,41]),(30,[2,11,39,40,41],[2,11,39,40,41]),(31,[],[])] [6] _ 75 Tryz.func22 (by kernel_rfl) (by kernel_rfl) (by kernel_rfl) (by kernel_rfl)
theorem Ase(a0_0 a0_1 a0_2:Int)(a0_3:LB)(a0_4 a0_5:LL)(a1:Bool)(a2:Int)(Q:QQ)(h:
 (Call E0.P Afo [.imm (.agg [.int .i64 a0_0, .int .i64 a0_1, .int .i64 a0_2, .str a0_3, .sl .any 6 a0_4, .sl .any 7 a0_5]),Ab a1,Ai a2] [] fun r0 g0=>
 Ak (qW0 g0 r0)
 (Br (!decide (rI r0=(0:Int)))
 (Q (Ai (rI r0)) [])
 (Tn a2 a0_4 ((↑a0_4.length:Int)) ((0:Int)) a0_0 a0_1 a0_2 a0_3 a0_4 a0_5 (Z5 Q))))):Call E0.P Pv [.imm (.agg [.int .i64 a0_0, .int .i64 a0_1, .int .i64 a0_2, .str a0_3, .sl .any 6 a0_4, .sl .any 7 a0_5]),Ab a1,Ai a2] [] Q:=Be (Aw E0 Bw) (Bd Bw) 3 0 22 ac_value_check [.tmp 6] Avv _ _ Q rfl rfl (kr (by kernel_rfl) h)
noncomputable def ac_write_word:AC:=(Bf [] [2] (codeOf Tryz.f23) 0).1
abbrev Ado:Nat:=5
theorem Axm:Ca E0.P 23 ac_write_word.code Ado [.tmp 2]:=Bl _ _ Tryz.f23 [] [2] _ 5 Tryz.func23 (by kernel_rfl) (by kernel_rfl) (by kernel_rfl) (by kernel_rfl)
theorem As7(a0:Int)(Q:QQ)(h:
 (Br (decide (a0=(1:Int)))
 (Q (.imm (.str [116,114,117,101])) [])
 (Q (.imm (.str [102,97,108,115,101])) []))):Call E0.P Acv [Ai a0] [] Q:=Be (Aw E0 Ado) (Bd Ado) 3 0 23 ac_write_word [.tmp 2] Axm _ _ Q rfl rfl (kr (by kernel_rfl) h)
noncomputable def ac_write_spaced:AC:=(Bf [] [2] (codeOf Tryz.f27) 0).1
abbrev Zq:Nat:=5
theorem Ato:Ca E0.P 27 ac_write_spaced.code Zq [.tmp 2]:=Bl _ _ Tryz.f27 [] [2] _ 5 Tryz.func27 (by kernel_rfl) (by kernel_rfl) (by kernel_rfl) (by kernel_rfl)
theorem App(a0:LL)(Q:QQ)(h:
 (Call E0.P Ahn [Al 1 a0, .imm (.str [32])] [] fun r0 g0=>
 Ak (qW1 g0 r0)
 (Q (As (rS r0)) []))):Call E0.P S9 [Al 1 a0] [] Q:=Be (Aw E0 Zq) (Bd Zq) 3 0 27 ac_write_spaced [.tmp 2] Ato _ _ Q rfl rfl (kr (by kernel_rfl) h)
noncomputable def ac_write_around:AC:=(Bf [(2,[0,1,10,11],[]),(4,[],[]),(10,[],[])] [4] (codeOf Tryz.f28) 0).1
abbrev Fs:Nat:=27
def Qy(t0:Int)(t1r:LL)(t10_0:Int)(t10_1 t10_2:LB)(t10_3:Int)(t10_4 t10_5:LB)(t10_6:Int)(t10_7 t10_8:LB)(t11:Int)(K:KK):Prop:=Bu 2 E0.P Fs (A8 2 ac_write_around).code ⟨[(0,Ai t0),(1,Al 1 t1r),(10, .imm (.agg [.int .i64 t10_0, .str t10_1, .str t10_2, .int .i64 t10_3, .str t10_4, .str t10_5, .int .i64 t10_6, .str t10_7, .str t10_8])),(11,Ai t11)],[]⟩ K
def Adz(K:KK):Prop:=Av 10 E0.P Fs (Af 10 ac_write_around).code ⟨[],[]⟩ K
def Yb(Q:QQ):KK:=kE fun st=>finish 0 E0.T [.tmp 4] [] Q st
def Rl(Q:QQ):KK:=kF 0 (fun st=>Av 10 E0.P Fs (Af 10 ac_write_around).code (mask [] st) (Yb Q)) fun st=>finish 0 E0.T [.tmp 4] [] Q st
theorem Nf(t0:Int)(t1r:LL)(t10_0:Int)(t10_1 t10_2:LB)(t10_3:Int)(t10_4 t10_5:LB)(t10_6:Int)(t10_7 t10_8:LB)(t11:Int)(K:KK)(h:
 (Br (decide (t11<(3:Int)))
 (Ak (((0:Int)≤t11∧t11<(↑(3:Nat):Int))∧
 Ck [.int .i64, .str, .str]
 (List.take 3
 (List.drop (t11.toNat*3)
 [.int .i64 t10_0, .str t10_1, .str t10_2, .int .i64 t10_3, .str t10_4, .str t10_5,
 .int .i64 t10_6, .str t10_7, .str t10_8]))=
 true)
 (Br (decide
 (gI
 (List.take 3
 (List.drop (t11.toNat*3)
 [.int .i64 t10_0, .str t10_1, .str t10_2, .int .i64 t10_3, .str t10_4, .str t10_5,
 .int .i64 t10_6, .str t10_7, .str t10_8]))
 0=
 t0))
 (Call E0.P S9 [Al 1 t1r] [] fun r0 g0=>
 Ak (qW1 g0 r0)
 (Ak ((↑((gS
 (List.take (3:Nat)
 (List.drop (t11.toNat*(3:Nat))
 [.int .i64 t10_0, .str t10_1, .str t10_2, .int .i64 t10_3, .str t10_4,
 .str t10_5, .int .i64 t10_6, .str t10_7, .str t10_8]))
 (1:Nat)).length+
 (rS r0).length):
 Int)≤
 (9223372036854775807:Int))
 (Ak ((↑((gS
 (List.take (3:Nat)
 (List.drop (t11.toNat*(3:Nat))
 [.int .i64 t10_0, .str t10_1, .str t10_2, .int .i64 t10_3, .str t10_4,
 .str t10_5, .int .i64 t10_6, .str t10_7, .str t10_8]))
 (1:Nat)++
 rS r0).length+
 (gS
 (List.take (3:Nat)
 (List.drop (t11.toNat*(3:Nat))
 [.int .i64 t10_0, .str t10_1, .str t10_2, .int .i64 t10_3, .str t10_4,
 .str t10_5, .int .i64 t10_6, .str t10_7, .str t10_8]))
 (2:Nat)).length):
 Int)≤
 (9223372036854775807:Int))
 (K .ret ⟨[(4, .imm (.str (gS
 (List.take 3
 (List.drop (t11.toNat*3)
 [.int .i64 t10_0, .str t10_1, .str t10_2, .int .i64 t10_3, .str t10_4, .str t10_5,
 .int .i64 t10_6, .str t10_7, .str t10_8]))
 1++
 rS r0++
 gS
 (List.take 3
 (List.drop (t11.toNat*3)
 [.int .i64 t10_0, .str t10_1, .str t10_2, .int .i64 t10_3, .str t10_4, .str t10_5,
 .int .i64 t10_6, .str t10_7, .str t10_8]))
 2)))],[]⟩))))
 (Qy t0 t1r t10_0 t10_1 t10_2 t10_3 t10_4 t10_5 t10_6 t10_7 t10_8 (IntKind.i64.wrap (t11+(1:Int))) K)))
 (K (.exit 0) ⟨[],[]⟩))):Qy t0 t1r t10_0 t10_1 t10_2 t10_3 t10_4 t10_5 t10_6 t10_7 t10_8 t11 K:=Bo (Aw E0 Fs) (Bd Fs) 3 2 (A8 2 ac_write_around) [0,1,10,11] _ K rfl (kr (by kernel_rfl) h)
theorem Ajy(K:KK)(h:
 (K .ret ⟨[(4, .imm (.str [110,117,108,108]))],[]⟩)):Adz K:=A9 (Aw E0 Fs) (Bd Fs) 3 10 (Af 10 ac_write_around) [] _ K rfl (kr (by kernel_rfl) h)
theorem Alu(Q:QQ)(t4:LB)(h:
 (Q (As t4) [])):Yb Q .ret ⟨[(4,As t4)],[]⟩:=kr (by kernel_rfl) h
theorem Sr(Q:QQ)(t4:LB)(h:
 (Q (As t4) [])):Rl Q .ret ⟨[(4,As t4)],[]⟩:=kr (by kernel_rfl) h
theorem Amb(Q:QQ)(h:
 (Adz (Yb Q))):Rl Q (.exit 0) ⟨[],[]⟩:=kr (by kernel_rfl) h
theorem As0:Ca E0.P 28 ac_write_around.code Fs [.tmp 4]:=Bl _ _ Tryz.f28 [(2,[0,1,10,11],[]),(4,[],[]),(10,[],[])] [4] _ 27 Tryz.func28 (by kernel_rfl) (by kernel_rfl) (by kernel_rfl) (by kernel_rfl)
theorem Ap2(a0:Int)(a1:LL)(Q:QQ)(h:
 (Qy a0 a1 ((5:Int)) [(91:UInt8)] [(93:UInt8)] ((6:Int)) [(60:UInt8),60] [(62:UInt8),62] ((7:Int)) [] [(32:UInt8),82] ((0:Int)) (Rl Q))):Call E0.P Aab [Ai a0,Al 1 a1] [] Q:=Be (Aw E0 Fs) (Bd Fs) 3 0 28 ac_write_around [.tmp 4] As0 _ _ Q rfl rfl (kr (by kernel_rfl) h)
noncomputable def ac_value_own:AC:=(Bf [(4,[2,3,7,27],[]),(14,[],[])] [6] (codeOf Tryz.f44) 0).1
abbrev H8:Nat:=86
def Jp(t2:Int)(t27:Bool)(u0 u1 u2:Int)(u3:LB)(u4 u5:LL)(u6 u7:Bool)(u8 u9 v0:Bool)(K:KK):Prop:=Av 4 E0.P H8 (Af 4 ac_value_own).code ⟨[(2,Ai t2),(3, .ptr nL3 0),(7, .ptr nL7 0),(27,Ab t27)],[(nL3, .blk Ac [Ai u0,Ai u1,Ai u2,As u3,Al 6 u4,Al 7 u5]),(nL7, .blk Bi [Ab u6,Ab u7,Ab u8,Ab u9,Ab v0])]⟩ K
def Ajn(K:KK):Prop:=Av 14 E0.P H8 (Af 14 ac_value_own).code ⟨[],[]⟩ K
def Ads(Q:QQ):KK:=kE fun st=>finish 0 E0.T [.tmp 6] [] Q st
def Hf(Q:QQ):KK:=kF 0 (fun st=>Av 14 E0.P H8 (Af 14 ac_value_own).code (mask [] st) (Ads Q)) fun st=>finish 0 E0.T [.tmp 6] [] Q st
theorem Aqx(t2:Int)(t27:Bool)(u0 u1 u2:Int)(u3:LB)(u4 u5:LL)(u6 u7:Bool)(u8 u9 v0:Bool)(K:KK)(h:
 (Br (t27)
 (K .ret ⟨[(6,Ai 4)],[]⟩)
 (Call E0.P Aad [.imm (.agg [.int .i64 u0, .int .i64 u1, .int .i64 u2, .str u3, .sl .any 6 u4, .sl .any 7 u5])] [] fun r0 g0=>
 Ak (qW2 g0 r0)
 (Br (rB r0)
 (K .ret ⟨[(6,Ai 3)],[]⟩)
 (Let (bif decide (u0=(3:Int))then decide ((127:Int)<(↑u3.length:Int))else false) fun x1=>
 Br (x1 == false)
 (Let (bif decide (u0=(4:Int))then decide ((65535:Int)<(↑u3.length:Int))else false) fun x2=>
 Let (x2) fun x3=>
 Br (x3)
 (K .ret ⟨[(6,Ai 8)],[]⟩)
 (Let (bif decide (u0=(8:Int))then decide ((1048576:Int)<(↑u3.length:Int))else false) fun x4=>
 Br (x4)
 (K .ret ⟨[(6,Ai 7)],[]⟩)
 (Let (bif u9 then true else v0) fun x5=>
 Let (bif x5 then decide ((64:Int)≤t2)else false) fun x6=>
 Br (x6)
 (K .ret ⟨[(6,Ai 9)],[]⟩)
 (K .normal ⟨[],[]⟩))))
 (Ak ((!false)=true)
 (Let (true) fun x7=>
 Br (x7)
 (K .ret ⟨[(6,Ai 8)],[]⟩)
 (Let (bif decide (u0=(8:Int))then decide ((1048576:Int)<(↑u3.length:Int))else false) fun x8=>
 Br (x8)
 (K .ret ⟨[(6,Ai 7)],[]⟩)
 (Let (bif u9 then true else v0) fun x9=>
 Let (bif x9 then decide ((64:Int)≤t2)else false) fun x10=>
 Br (x10)
 (K .ret ⟨[(6,Ai 9)],[]⟩)
 (K .normal ⟨[],[]⟩)))))))))):Jp t2 t27 u0 u1 u2 u3 u4 u5 u6 u7 u8 u9 v0 K:=A9 (Aw E0 H8) (Bd H8) 3 4 (Af 4 ac_value_own) [] _ K rfl (kr (by kernel_rfl) h)
theorem Apq(K:KK)(h:
 (K .ret ⟨[(6,Ai 0)],[]⟩)):Ajn K:=A9 (Aw E0 H8) (Bd H8) 3 14 (Af 14 ac_value_own) [] _ K rfl (kr (by kernel_rfl) h)
theorem Arl(Q:QQ)(t6:Int)(h:
 (Q (Ai t6) [])):Ads Q .ret ⟨[(6,Ai t6)],[]⟩:=kr (by kernel_rfl) h
theorem Aq0(Q:QQ)(t6:Int)(h:
 (Q (Ai t6) [])):Hf Q .ret ⟨[(6,Ai t6)],[]⟩:=kr (by kernel_rfl) h
theorem Aqr(Q:QQ)(h:
 (Ajn (Ads Q))):Hf Q .normal ⟨[],[]⟩:=kr (by kernel_rfl) h
theorem A0d:Ca E0.P 44 ac_value_own.code H8 [.tmp 6]:=Bl _ _ Tryz.f44 [(4,[2,3,7,27],[]),(14,[],[])] [6] _ 86 Tryz.func44 (by kernel_rfl) (by kernel_rfl) (by kernel_rfl) (by kernel_rfl)
theorem Auu(a0_0 a0_1 a0_2:Int)(a0_3:LB)(a0_4 a0_5:LL)(a1:Bool)(a2:Int)(Q:QQ)(h:
 (Call E0.P Yz [Ai a0_0] [] fun r0 g0=>
 Ak (g0=[]∧
 r0=
 .tup
 [.imm
 (IV.agg
 [.bool (gB (Ae (rT r0 0)) 0), .bool (gB (Ae (rT r0 0)) 1),
 .bool (gB (Ae (rT r0 0)) 2), .bool (gB (Ae (rT r0 0)) 3),
 .bool (gB (Ae (rT r0 0)) 4)]),
 .imm (.bool (rB (rT r0 1)))])
 (Br ((!rB (rT r0 1)) == false)
 (Let (bif decide (a0_0=(8:Int))then !a1 else false) fun x1=>
 Let (x1) fun x2=>
 Br (x2)
 (Q (Ai 10) [])
 (Call E0.P Rb [.imm (.agg [.int .i64 a0_0, .int .i64 a0_1, .int .i64 a0_2, .str a0_3, .sl .any 6 a0_4, .sl .any 7 a0_5]), .imm (.agg [.bool (gB (Ae (rT r0 0)) 0), .bool (gB (Ae (rT r0 0)) 1), .bool (gB (Ae (rT r0 0)) 2), .bool (gB (Ae (rT r0 0)) 3), .bool (gB (Ae (rT r0 0)) 4)])] [] fun r3 g3=>
 Ak (qW2 g3 r3)
 (Br (rB r3 == false)
 (Br (decide (a0_0=(3:Int)) == true)
 (Call E0.P Uk [As a0_3] [] fun r4 g4=>
 Ak (qW2 g4 r4)
 (Let (rB r4) fun x5=>
 Let (x5) fun x6=>
 Jp a2 x6 a0_0 a0_1 a0_2 a0_3 a0_4 a0_5 (gB (Ae (rT r0 0)) 0) (gB (Ae (rT r0 0)) 1) (gB (Ae (rT r0 0)) 2) (gB (Ae (rT r0 0)) 3) (gB (Ae (rT r0 0)) 4) (Hf Q)))
 (Ak ((!true)=false)
 (Let (false) fun x7=>
 Let (x7) fun x8=>
 Jp a2 x8 a0_0 a0_1 a0_2 a0_3 a0_4 a0_5 (gB (Ae (rT r0 0)) 0) (gB (Ae (rT r0 0)) 1) (gB (Ae (rT r0 0)) 2) (gB (Ae (rT r0 0)) 3) (gB (Ae (rT r0 0)) 4) (Hf Q))))
 (Ak ((!false)=true)
 (Let (true) fun x9=>
 Jp a2 x9 a0_0 a0_1 a0_2 a0_3 a0_4 a0_5 (gB (Ae (rT r0 0)) 0) (gB (Ae (rT r0 0)) 1) (gB (Ae (rT r0 0)) 2) (gB (Ae (rT r0 0)) 3) (gB (Ae (rT r0 0)) 4) (Hf Q))))))
 (Ak ((!false)=true)
 (Let (true) fun x10=>
 Br (x10)
 (Q (Ai 10) [])
 (Call E0.P Rb [.imm (.agg [.int .i64 a0_0, .int .i64 a0_1, .int .i64 a0_2, .str a0_3, .sl .any 6 a0_4, .sl .any 7 a0_5]), .imm (.agg [.bool (gB (Ae (rT r0 0)) 0), .bool (gB (Ae (rT r0 0)) 1), .bool (gB (Ae (rT r0 0)) 2), .bool (gB (Ae (rT r0 0)) 3), .bool (gB (Ae (rT r0 0)) 4)])] [] fun r11 g11=>
 Ak (qW2 g11 r11)
 (Br (rB r11 == false)
 (Br (decide (a0_0=(3:Int)) == true)
 (Call E0.P Uk [As a0_3] [] fun r12 g12=>
 Ak (qW2 g12 r12)
 (Let (rB r12) fun x13=>
 Let (x13) fun x14=>
 Jp a2 x14 a0_0 a0_1 a0_2 a0_3 a0_4 a0_5 (gB (Ae (rT r0 0)) 0) (gB (Ae (rT r0 0)) 1) (gB (Ae (rT r0 0)) 2) (gB (Ae (rT r0 0)) 3) (gB (Ae (rT r0 0)) 4) (Hf Q)))
 (Ak ((!true)=false)
 (Let (false) fun x15=>
 Let (x15) fun x16=>
 Jp a2 x16 a0_0 a0_1 a0_2 a0_3 a0_4 a0_5 (gB (Ae (rT r0 0)) 0) (gB (Ae (rT r0 0)) 1) (gB (Ae (rT r0 0)) 2) (gB (Ae (rT r0 0)) 3) (gB (Ae (rT r0 0)) 4) (Hf Q))))
 (Ak ((!false)=true)
 (Let (true) fun x17=>
 Jp a2 x17 a0_0 a0_1 a0_2 a0_3 a0_4 a0_5 (gB (Ae (rT r0 0)) 0) (gB (Ae (rT r0 0)) 1) (gB (Ae (rT r0 0)) 2) (gB (Ae (rT r0 0)) 3) (gB (Ae (rT r0 0)) 4) (Hf Q)))))))))):Call E0.P Afo [.imm (.agg [.int .i64 a0_0, .int .i64 a0_1, .int .i64 a0_2, .str a0_3, .sl .any 6 a0_4, .sl .any 7 a0_5]),Ab a1,Ai a2] [] Q:=Be (Aw E0 H8) (Bd H8) 3 0 44 ac_value_own [.tmp 6] A0d _ _ Q rfl rfl (kr (by kernel_rfl) h)
noncomputable def ac_value_nul:AC:=(Bf [] [2] (codeOf Tryz.f45) 0).1
abbrev Agf:Nat:=6
theorem A0m:Ca E0.P 45 ac_value_nul.code Agf [.tmp 2]:=Bl _ _ Tryz.f45 [] [2] _ 6 Tryz.func45 (by kernel_rfl) (by kernel_rfl) (by kernel_rfl) (by kernel_rfl)
theorem Avy(a0:LB)(Q:QQ)(h:
 (Call E0.P Zb [As a0, .imm (.int .u8 ((0:Int)))] [] fun r0 g0=>
 Ak (qW0 g0 r0)
 (Q (Ab (decide ((0:Int)≤rI r0))) []))):Call E0.P Uk [As a0] [] Q:=Be (Aw E0 Agf) (Bd Agf) 3 0 45 ac_value_nul [.tmp 2] A0m _ _ Q rfl rfl (kr (by kernel_rfl) h)
noncomputable def ac_value_foreign:AC:=(Bf [] [4] (codeOf Tryz.f67) 0).1
abbrev Xv:Nat:=55
theorem Aqu:Ca E0.P 67 ac_value_foreign.code Xv [.tmp 4]:=Bl _ _ Tryz.f67 [] [4] _ 55 Tryz.func67 (by kernel_rfl) (by kernel_rfl) (by kernel_rfl) (by kernel_rfl)
theorem Amm(a0_0 a0_1 a0_2:Int)(a0_3:LB)(a0_4 a0_5:LL)(a1_0 a1_1:Bool)(a1_2 a1_3 a1_4:Bool)(Q:QQ)(h:
 (Let (bif !a1_0 then !decide (a0_1=(0:Int))else false) fun x0=>
 Br (x0 == false)
 (Let (bif !a1_1 then !decide (a0_2=(0:Int))else false) fun x1=>
 Let (x1) fun x2=>
 Br (x2 == false)
 (Let (bif !a1_2 then !a0_3 == []else false) fun x3=>
 Let (x3) fun x4=>
 Br (x4 == false)
 (Let (bif !a1_3 then decide ((0:Int)<(↑a0_4.length:Int))else false) fun x5=>
 Let (x5) fun x6=>
 Br (x6 == false)
 (Let (bif !a1_4 then decide ((0:Int)<(↑a0_5.length:Int))else false) fun x7=>
 Let (x7) fun x8=>
 Q (Ab x8) [])
 (Ak ((!false)=true)
 (Let (true) fun x9=>
 Q (Ab x9) [])))
 (Ak ((!false)=true)
 (Let (true) fun x10=>
 Br (x10 == false)
 (Let (bif !a1_4 then decide ((0:Int)<(↑a0_5.length:Int))else false) fun x11=>
 Let (x11) fun x12=>
 Q (Ab x12) [])
 (Ak ((!false)=true)
 (Let (true) fun x13=>
 Q (Ab x13) [])))))
 (Ak ((!false)=true)
 (Let (true) fun x14=>
 Br (x14 == false)
 (Let (bif !a1_3 then decide ((0:Int)<(↑a0_4.length:Int))else false) fun x15=>
 Let (x15) fun x16=>
 Br (x16 == false)
 (Let (bif !a1_4 then decide ((0:Int)<(↑a0_5.length:Int))else false) fun x17=>
 Let (x17) fun x18=>
 Q (Ab x18) [])
 (Ak ((!false)=true)
 (Let (true) fun x19=>
 Q (Ab x19) [])))
 (Ak ((!false)=true)
 (Let (true) fun x20=>
 Br (x20 == false)
 (Let (bif !a1_4 then decide ((0:Int)<(↑a0_5.length:Int))else false) fun x21=>
 Let (x21) fun x22=>
 Q (Ab x22) [])
 (Ak ((!false)=true)
 (Let (true) fun x23=>
 Q (Ab x23) [])))))))
 (Ak ((!false)=true)
 (Let (true) fun x24=>
 Br (x24 == false)
 (Let (bif !a1_2 then !a0_3 == []else false) fun x25=>
 Let (x25) fun x26=>
 Br (x26 == false)
 (Let (bif !a1_3 then decide ((0:Int)<(↑a0_4.length:Int))else false) fun x27=>
 Let (x27) fun x28=>
 Br (x28 == false)
 (Let (bif !a1_4 then decide ((0:Int)<(↑a0_5.length:Int))else false) fun x29=>
 Let (x29) fun x30=>
 Q (Ab x30) [])
 (Ak ((!false)=true)
 (Let (true) fun x31=>
 Q (Ab x31) [])))
 (Ak ((!false)=true)
 (Let (true) fun x32=>
 Br (x32 == false)
 (Let (bif !a1_4 then decide ((0:Int)<(↑a0_5.length:Int))else false) fun x33=>
 Let (x33) fun x34=>
 Q (Ab x34) [])
 (Ak ((!false)=true)
 (Let (true) fun x35=>
 Q (Ab x35) [])))))
 (Ak ((!false)=true)
 (Let (true) fun x36=>
 Br (x36 == false)
 (Let (bif !a1_3 then decide ((0:Int)<(↑a0_4.length:Int))else false) fun x37=>
 Let (x37) fun x38=>
 Br (x38 == false)
 (Let (bif !a1_4 then decide ((0:Int)<(↑a0_5.length:Int))else false) fun x39=>
 Let (x39) fun x40=>
 Q (Ab x40) [])
 (Ak ((!false)=true)
 (Let (true) fun x41=>
 Q (Ab x41) [])))
 (Ak ((!false)=true)
 (Let (true) fun x42=>
 Br (x42 == false)
 (Let (bif !a1_4 then decide ((0:Int)<(↑a0_5.length:Int))else false) fun x43=>
 Let (x43) fun x44=>
 Q (Ab x44) [])
 (Ak ((!false)=true)
 (Let (true) fun x45=>
 Q (Ab x45) [])))))))))):Call E0.P Rb [.imm (.agg [.int .i64 a0_0, .int .i64 a0_1, .int .i64 a0_2, .str a0_3, .sl .any 6 a0_4, .sl .any 7 a0_5]), .imm (.agg [.bool a1_0, .bool a1_1, .bool a1_2, .bool a1_3, .bool a1_4])] [] Q:=Be (Aw E0 Xv) (Bd Xv) 3 0 67 ac_value_foreign [.tmp 4] Aqu _ _ Q rfl rfl (kr (by kernel_rfl) h)
noncomputable def ac_value_beyond:AC:=(Bf [] [2] (codeOf Tryz.f68) 0).1
abbrev Aaf:Nat:=41
theorem Atj:Ca E0.P 68 ac_value_beyond.code Aaf [.tmp 2]:=Bl _ _ Tryz.f68 [] [2] _ 41 Tryz.func68 (by kernel_rfl) (by kernel_rfl) (by kernel_rfl) (by kernel_rfl)
theorem Ap7(a0_0 a0_1 a0_2:Int)(a0_3:LB)(a0_4 a0_5:LL)(Q:QQ)(h:
 (Br (decide (a0_0=(1:Int)))
 (Ak ((0:Int)≤(1:Int))
 (Q (.imm (.bool (!decide (a0_1.fdiv ((2:Int) ^ 1)=(0:Int))))) []))
 (Br (decide (a0_0=(2:Int)))
 (Let (bif decide (a0_1<(-2147483647:Int))then true else decide ((2147483647:Int)<a0_1)) fun x0=>
 Q (Ab x0) [])
 (Br (decide (a0_0=(7:Int)))
 (Let (bif decide (a0_1<(1:Int))then true else decide ((8388607:Int)<a0_1)) fun x1=>
 Let (bif x1 then true else decide (a0_2<(0:Int))) fun x2=>
 Let (bif x2 then true else decide ((65535:Int)<a0_2)) fun x3=>
 Q (Ab x3) [])
 (Q (Ab false) []))))):Call E0.P Aad [.imm (.agg [.int .i64 a0_0, .int .i64 a0_1, .int .i64 a0_2, .str a0_3, .sl .any 6 a0_4, .sl .any 7 a0_5])] [] Q:=Be (Aw E0 Aaf) (Bd Aaf) 3 0 68 ac_value_beyond [.tmp 2] Atj _ _ Q rfl rfl (kr (by kernel_rfl) h)
noncomputable def ac_octet_Digit:AC:=(Bf [] [2] (codeOf Tryz.f50) 0).1
abbrev Aas:Nat:=20
theorem Awg:Ca E0.P 50 ac_octet_Digit.code Aas [.tmp 2]:=Bl _ _ Tryz.f50 [] [2] _ 20 Tryz.func50 (by kernel_rfl) (by kernel_rfl) (by kernel_rfl) (by kernel_rfl)
theorem Asm(a0:Int)(Q:QQ)(h:
 (Let (bif decide (a0<(0:Int))then true else decide ((15:Int)<a0)) fun x0=>
 Br (x0)
 (Q (.imm (.int .u8 ((0:Int)))) [])
 (Br (decide (a0<(10:Int)))
 (Q (.imm (.int .u8 (IntKind.u8.wrap (IntKind.i64.wrap ((48:Int)+a0))))) [])
 (Q (.imm (.int .u8 (IntKind.u8.wrap (IntKind.i64.wrap (IntKind.i64.wrap ((65:Int)+a0) - (10:Int)))))) [])))):Call E0.P Mj [Ai a0] [] Q:=Be (Aw E0 Aas) (Bd Aas) 3 0 50 ac_octet_Digit [.tmp 2] Awg _ _ Q rfl rfl (kr (by kernel_rfl) h)
noncomputable def ac_digits_Put:AC:=(Bf [] [2] (codeOf Tryz.f24) 0).1
abbrev Adi:Nat:=5
theorem Axf:Ca E0.P 24 ac_digits_Put.code Adi [.tmp 2]:=Bl _ _ Tryz.f24 [] [2] _ 5 Tryz.func24 (by kernel_rfl) (by kernel_rfl) (by kernel_rfl) (by kernel_rfl)
theorem Asq(a0:Int)(Q:QQ)(h:
 (Call E0.P Ahj [Ai a0] [] fun r0 g0=>
 Ak (qW1 g0 r0)
 (Q (As (rS r0)) []))):Call E0.P R6 [Ai a0] [] Q:=Be (Aw E0 Adi) (Bd Adi) 3 0 24 ac_digits_Put [.tmp 2] Axf _ _ Q rfl rfl (kr (by kernel_rfl) h)
end
end Go.Proofs.Sim.Se

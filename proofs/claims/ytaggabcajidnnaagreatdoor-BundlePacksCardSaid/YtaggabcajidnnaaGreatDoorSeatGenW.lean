import Derived.Test.YtaggabcajidnnaaGreatDoorSeatBase
set_option maxRecDepth 100000
set_option maxHeartbeats 4000000
namespace Go.Proofs.Sim.Se
open Go Go.Proofs Go.Proofs.Sim
noncomputable section
abbrev qW0(G:Heap)(R:AV):Prop:=G=[]∧R= .imm (.int .i64 (rI R))
abbrev qW1(G:Heap)(R:AV):Prop:=G=[]∧R= .imm (IV.agg [.int .i64 (gI (Ae R) 0), .int .i64 (gI (Ae R) 1), .int .i64 (gI (Ae R) 2), .str (gS (Ae R) 3), .sl SK.any 6 (gR (Ae R) 4), .sl SK.any 7 (gR (Ae R) 5)])
abbrev Uc(G:Heap)(R:AV):Prop:=G=[]∧R= .imm (.str (rS R))
abbrev qW3(G:Heap)(R:AV):Prop:=G=[]∧R= .imm (.bool (rB R))
abbrev qW4(G:Heap)(R:AV):Prop:=G=[]∧R= .imm (.int .u8 (rI R))
noncomputable def ac_write_Text:AC:=(Bf [] [2,3] (codeOf Tryz.f36) 0).1
abbrev Ai5:Nat:=13
theorem Ba8:Bo E0.P 36 ac_write_Text.code Ai5 [.tmp 2, .tmp 3]:=Bh _ _ Tryz.f36 [] [2,3] _ 13 Tryz.func36 (by kernel_rfl) (by kernel_rfl) (by kernel_rfl) (by kernel_rfl)
theorem A4e(a0_0 a0_1 a0_2:Int)(a0_3:LB)(a0_4 a0_5:LL)(Q:QQ)(h:
 (Call E0.P Afs [.imm (.agg [.int .i64 a0_0, .int .i64 a0_1, .int .i64 a0_2, .str a0_3, .sl .any 6 a0_4, .sl .any 7 a0_5]),Ab false] [] fun r0 g0=>
 Ah (qW0 g0 r0)
 (Br (!decide (rI r0=(0:Int)))
 (Q (.tup [.imm (.str []),Ai (rI r0)]) [])
 (Call E0.P Ho [.imm (.agg [.int .i64 a0_0, .int .i64 a0_1, .int .i64 a0_2, .str a0_3, .sl .any 6 a0_4, .sl .any 7 a0_5])] [] fun r1 g1=>
 Ah (qW1 g1 r1)
 (Call E0.P Tt [.imm (.agg [.int .i64 (gI (Ae r1) 0), .int .i64 (gI (Ae r1) 1), .int .i64 (gI (Ae r1) 2), .str (gS (Ae r1) 3), .sl .any 6 (gR (Ae r1) 4), .sl .any 7 (gR (Ae r1) 5)])] [] fun r2 g2=>
 Ah (Uc g2 r2)
 (Q (.tup [As (rS r2),Ai 0]) [])))))):Call E0.P Aiy [.imm (.agg [.int .i64 a0_0, .int .i64 a0_1, .int .i64 a0_2, .str a0_3, .sl .any 6 a0_4, .sl .any 7 a0_5])] [] Q:=A8 (Ar E0 Ai5) (Az Ai5) 3 0 36 ac_write_Text [.tmp 2, .tmp 3] Ba8 _ _ Q rfl rfl (kr (by kernel_rfl) h)
noncomputable def ac_write_Name:AC:=(Bf [(4,[0,3,8,9],[]),(6,[3],[]),(10,[0,3,5,8,9,25],[0,3,5,8,9]),(12,[0,3,8,9],[]),(13,[0,3,5,8,9],[0,3,8,9]),(16,[0,3,8,9],[0,3,8,9]),(17,[3],[])] [2] (codeOf Tryz.f80) 0).1
abbrev Cr:Nat:=41
def L8(t0:LB)(t8 t9:Int)(u0:LL)(K:KK):Prop:=Bi 4 E0.P Cr (Au 4 ac_write_Name).code ⟨[(0,As t0),(3, .ptr nL3 0),(8,Ai t8),(9,Ai t9)],[(nL3, .blk Bz [.self nL3, .own (nL3.cell 1)]),((nL3.cell 1), .arr (Am+2) true 1 u0)]⟩ K
def Wn(t0:LB)(t5 t8 t9:Int)(t25:Bool)(u0:LL)(K:KK):Prop:=Aq 10 E0.P Cr (Ac 10 ac_write_Name).code ⟨[(0,As t0),(3, .ptr nL3 0),(5, .imm (.int .u8 t5)),(8,Ai t8),(9,Ai t9),(25,Ab t25)],[(nL3, .blk Bz [.self nL3, .own (nL3.cell 1)]),((nL3.cell 1), .arr (Am+2) true 1 u0)]⟩ K
def Anz(u0:LL)(K:KK):Prop:=Aq 17 E0.P Cr (Ac 17 ac_write_Name).code ⟨[(3, .ptr nL3 0)],[(nL3, .blk Bz [.self nL3, .own (nL3.cell 1)]),((nL3.cell 1), .arr (Am+2) true 1 u0)]⟩ K
def Wo(t0:LB)(t8 t9:Int)(u0:LL)(K:KK):Prop:=Aq 16 E0.P Cr (Ac 16 ac_write_Name).code ⟨[(0,As t0),(3, .ptr nL3 0),(8,Ai t8),(9,Ai t9)],[(nL3, .blk Bz [.self nL3, .own (nL3.cell 1)]),((nL3.cell 1), .arr (Am+2) true 1 u0)]⟩ K
def Anx(t0:LB)(t5 t8 t9:Int)(u0:LL)(K:KK):Prop:=Aq 13 E0.P Cr (Ac 13 ac_write_Name).code ⟨[(0,As t0),(3, .ptr nL3 0),(5, .imm (.int .u8 t5)),(8,Ai t8),(9,Ai t9)],[(nL3, .blk Bz [.self nL3, .own (nL3.cell 1)]),((nL3.cell 1), .arr (Am+2) true 1 u0)]⟩ K
def Aff(Q:QQ):KK:=kE fun st=>finish 0 E0.T [.tmp 2] [] Q st
def Aqq(Q:QQ):KK:=kF 0 (fun st=>Aq 17 E0.P Cr (Ac 17 ac_write_Name).code (mask [3] st) (Aff Q)) fun st=>finish 0 E0.T [.tmp 2] [] Q st
def O3(K:KK):Ex→St→Prop
 | .normal,st=>Bi 4 E0.P Cr (Au 4 ac_write_Name).code (mask [0,3,8,9] st) K
 | .exit i,st=>K (.exit i) st
 | .goto i,st=>K (.goto i) st
 | .ret,st=>K .ret st
def Afg(K:KK):KK:=kC 1 (fun st=>Aq 16 E0.P Cr (Ac 16 ac_write_Name).code (mask [0,3,8,9] st) (O3 K)) K
def Sy(K:KK):Ex→St→Prop
 | .normal,st=>Aq 13 E0.P Cr (Ac 13 ac_write_Name).code (mask [0,3,5,8,9] st) (Afg K)
 | .exit i,st=>(match (i.beq 1:Bool)with
 |true=>Aq 16 E0.P Cr (Ac 16 ac_write_Name).code (mask [0,3,8,9] st) (O3 K)
 |false=>K (.exit i) st)
 | .goto i,st=>K (.goto i) st
 | .ret,st=>K .ret st
theorem Ajw(t0:LB)(t8 t9:Int)(u0:LL)(K:KK)(h:
 (Br (decide (t9<t8))
 (Ah ((0:Int)≤t9∧t9<(↑t0.length:Int))
 (Call E0.P Aa7 [.imm (.int .u8 ((↑(t0.getD t9.toNat 0).toNat:Int)))] [] fun r0 g0=>
 Ah (qW3 g0 r0)
 (Br (rB r0 == true)
 (Call E0.P Ny [.imm (.int .u8 ((↑(t0.getD t9.toNat 0).toNat:Int)))] [] fun r1 g1=>
 Ah (qW0 g1 r1)
 (Let (decide (rI r1=(2:Int))) fun x2=>
 Let (bif x2 then !decide ((↑(t0.getD t9.toNat 0).toNat:Int)=(35:Int))else false) fun x3=>
 Wn t0 ((↑(t0.getD t9.toNat 0).toNat:Int)) t8 t9 x3 u0 (Sy K)))
 (Ah ((!true)=false)
 (Let (false) fun x4=>
 Let (bif x4 then !decide ((↑(t0.getD t9.toNat 0).toNat:Int)=(35:Int))else false) fun x5=>
 Wn t0 ((↑(t0.getD t9.toNat 0).toNat:Int)) t8 t9 x5 u0 (Sy K))))))
 (K (.exit 0) ⟨[(3, .ptr nL3 0)],[(nL3, .blk Bz [.self nL3, .own (nL3.cell 1)]),((nL3.cell 1), .arr (Am+2) true 1 u0)]⟩))):L8 t0 t8 t9 u0 K:=Bg (Ar E0 Cr) (Az Cr) 3 4 (Au 4 ac_write_Name) [0,3,8,9] _ K rfl (kr (by kernel_rfl) h)
theorem Avo(t0:LB)(t5 t8 t9:Int)(t25:Bool)(u0:LL)(K:KK)(h:
 (Br (t25)
 (Ah ((u0.length+1)*1≤140737488355328∧u0.length+1≤140737488355328)
 (K (.exit (1)) ⟨[(0,As t0),(3, .ptr nL3 0),(8,Ai t8),(9,Ai t9)],[(nL3, .blk Bz [.self nL3, .own (nL3.cell 1)]),((nL3.cell 1), .arr (Am+2) true 1 (u0++[[IV.int .u8 t5]]))]⟩))
 (K .normal ⟨[(0,As t0),(3, .ptr nL3 0),(5, .imm (.int .u8 t5)),(8,Ai t8),(9,Ai t9)],[(nL3, .blk Bz [.self nL3, .own (nL3.cell 1)]),((nL3.cell 1), .arr (Am+2) true 1 u0)]⟩))):Wn t0 t5 t8 t9 t25 u0 K:=Av (Ar E0 Cr) (Az Cr) 3 10 (Ac 10 ac_write_Name) [0,3,5,8,9] _ K rfl (kr (by kernel_rfl) h)
theorem Avr(u0:LL)(K:KK)(h:
 (Ah (((↑u0.length:Int)=(↑u0.length:Int)∧u0.length≤9223372036854775807)∧
 ∀(r:List IV),r∈u0→Bt [.int .u8] r=true)
 (K .ret ⟨[(2,As (List.map (fun r=>UInt8.ofNat (gI r 0).toNat) u0))],[]⟩))):Anz u0 K:=Av (Ar E0 Cr) (Az Cr) 3 17 (Ac 17 ac_write_Name) [] _ K rfl (kr (by kernel_rfl) h)
theorem Avq(t0:LB)(t8 t9:Int)(u0:LL)(K:KK)(h:
 (K .normal ⟨[(0,As t0),(3, .ptr nL3 0),(8,Ai t8),(9,Ai (IntKind.i64.wrap (t9+(1:Int))))],[(nL3, .blk Bz [.self nL3, .own (nL3.cell 1)]),((nL3.cell 1), .arr (Am+2) true 1 u0)]⟩)):Wo t0 t8 t9 u0 K:=Av (Ar E0 Cr) (Az Cr) 3 16 (Ac 16 ac_write_Name) [0,3,8,9] _ K rfl (kr (by kernel_rfl) h)
theorem Avp(t0:LB)(t5 t8 t9:Int)(u0:LL)(K:KK)(h:
 (Ah ((u0.length+1)*1≤140737488355328∧u0.length+1≤140737488355328)
 (Ah ((0:Int)≤(4:Int))
 (Call E0.P O4 [.imm (.int .i64 (IntKind.i64.wrap (t5.fdiv ((2:Int) ^ 4))))] [] fun r0 g0=>
 Ah (qW4 g0 r0)
 (Ah (((u0++[[IV.int .u8 (35:Int)]]).length+1)*1≤140737488355328∧
 (u0++[[IV.int .u8 (35:Int)]]).length+1≤140737488355328)
 (Call E0.P O4 [.imm (.int .i64 (IntKind.i64.wrap (IntKind.u8.wrap (↑(BitVec.ofInt (8:Nat) t5 &&& BitVec.ofInt (8:Nat) (15:Int)).toNat:Int))))] [] fun r1 g1=>
 Ah (qW4 g1 r1)
 (Ah (((u0++[[IV.int .u8 (35:Int)]]++[[IV.int .u8 (rI r0)]]).length+1)*1≤
 140737488355328∧
 (u0++[[IV.int .u8 (35:Int)]]++[[IV.int .u8 (rI r0)]]).length+1≤
 140737488355328)
 (K .normal ⟨[(0,As t0),(3, .ptr nL3 0),(8,Ai t8),(9,Ai t9)],[(nL3, .blk Bz [.self nL3, .own (nL3.cell 1)]),((nL3.cell 1), .arr (Am+2) true 1 (u0++[[IV.int .u8 (35:Int)]]++[[IV.int .u8 (rI r0)]]++[[IV.int .u8 (rI r1)]]))]⟩)))))))):Anx t0 t5 t8 t9 u0 K:=Av (Ar E0 Cr) (Az Cr) 3 13 (Ac 13 ac_write_Name) [0,3,8,9] _ K rfl (kr (by kernel_rfl) h)
theorem Az2(Q:QQ)(t2:LB)(h:
 (Q (As t2) [])):Aff Q .ret ⟨[(2,As t2)],[]⟩:=kr (by kernel_rfl) h
theorem Az3(Q:QQ)(u0:LL)(h:
 (Anz u0 (Aff Q))):Aqq Q (.exit 0) ⟨[(3, .ptr nL3 0)],[(nL3, .blk Bz [.self nL3, .own (nL3.cell 1)]),((nL3.cell 1), .arr (Am+2) true 1 u0)]⟩:=kr (by kernel_rfl) h
theorem Az4(K:KK)(t0:LB)(t8 t9:Int)(u0:LL)(h:
 (L8 t0 t8 t9 u0 K)):O3 K .normal ⟨[(0,As t0),(3, .ptr nL3 0),(8,Ai t8),(9,Ai t9)],[(nL3, .blk Bz [.self nL3, .own (nL3.cell 1)]),((nL3.cell 1), .arr (Am+2) true 1 u0)]⟩:=kr (by kernel_rfl) h
theorem Az5(K:KK)(t0:LB)(t8 t9:Int)(u0:LL)(h:
 (Wo t0 t8 t9 u0 (O3 K))):Afg K .normal ⟨[(0,As t0),(3, .ptr nL3 0),(8,Ai t8),(9,Ai t9)],[(nL3, .blk Bz [.self nL3, .own (nL3.cell 1)]),((nL3.cell 1), .arr (Am+2) true 1 u0)]⟩:=kr (by kernel_rfl) h
theorem Az6(K:KK)(t0:LB)(t8 t9:Int)(u0:LL)(h:
 (Wo t0 t8 t9 u0 (O3 K))):Sy K (.exit (1)) ⟨[(0,As t0),(3, .ptr nL3 0),(8,Ai t8),(9,Ai t9)],[(nL3, .blk Bz [.self nL3, .own (nL3.cell 1)]),((nL3.cell 1), .arr (Am+2) true 1 u0)]⟩:=kr (by kernel_rfl) h
theorem Az7(K:KK)(t0:LB)(t5 t8 t9:Int)(u0:LL)(h:
 (Anx t0 t5 t8 t9 u0 (Afg K))):Sy K .normal ⟨[(0,As t0),(3, .ptr nL3 0),(5, .imm (.int .u8 t5)),(8,Ai t8),(9,Ai t9)],[(nL3, .blk Bz [.self nL3, .own (nL3.cell 1)]),((nL3.cell 1), .arr (Am+2) true 1 u0)]⟩:=kr (by kernel_rfl) h
theorem Ba7:Bo E0.P 80 ac_write_Name.code Cr [.tmp 2]:=Bh _ _ Tryz.f80 [(4,[0,3,8,9],[]),(6,[3],[]),(10,[0,3,5,8,9,25],[0,3,5,8,9]),(12,[0,3,8,9],[]),(13,[0,3,5,8,9],[0,3,8,9]),(16,[0,3,8,9],[0,3,8,9]),(17,[3],[])] [2] _ 41 Tryz.func80 (by kernel_rfl) (by kernel_rfl) (by kernel_rfl) (by kernel_rfl)
theorem A4d(a0:LB)(Q:QQ)(h:
 (Ah (1≤140737488355328∧1≤140737488355328)
 (L8 a0 ((↑a0.length:Int)) ((0:Int)) ([]++[[IV.int .u8 (47:Int)]]) (Aqq Q)))):Call E0.P Aa6 [As a0] [] Q:=A8 (Ar E0 Cr) (Az Cr) 3 0 80 ac_write_Name [.tmp 2] Ba7 _ _ Q rfl rfl (kr (by kernel_rfl) h)
noncomputable def ac_write_Bytes:AC:=(Bf [(4,[0,3,8,9],[]),(6,[3],[]),(16,[3],[])] [2] (codeOf Tryz.f81) 0).1
abbrev Ht:Nat:=37
def Nh(t0:LB)(t8 t9:Int)(u0:LL)(K:KK):Prop:=Bi 4 E0.P Ht (Au 4 ac_write_Bytes).code ⟨[(0,As t0),(3, .ptr nL3 0),(8,Ai t8),(9,Ai t9)],[(nL3, .blk Bz [.self nL3, .own (nL3.cell 1)]),((nL3.cell 1), .arr (Am+2) true 1 u0)]⟩ K
def Alh(u0:LL)(K:KK):Prop:=Aq 16 E0.P Ht (Ac 16 ac_write_Bytes).code ⟨[(3, .ptr nL3 0)],[(nL3, .blk Bz [.self nL3, .own (nL3.cell 1)]),((nL3.cell 1), .arr (Am+2) true 1 u0)]⟩ K
def Adk(Q:QQ):KK:=kE fun st=>finish 0 E0.T [.tmp 2] [] Q st
def Q3(Q:QQ):KK:=kF 0 (fun st=>Aq 16 E0.P Ht (Ac 16 ac_write_Bytes).code (mask [3] st) (Adk Q)) fun st=>finish 0 E0.T [.tmp 2] [] Q st
theorem Ahf(t0:LB)(t8 t9:Int)(u0:LL)(K:KK)(h:
 (Br (decide (t9<t8))
 (Ah ((0:Int)≤t9∧t9<(↑t0.length:Int))
 (Call E0.P Aa7 [.imm (.int .u8 ((↑(t0.getD t9.toNat 0).toNat:Int)))] [] fun r0 g0=>
 Ah (qW3 g0 r0)
 (Br (!rB r0)
 (Call E0.P Afp [As t0] [] fun r1 g1=>
 Ah (Uc g1 r1)
 (Ah ((↑((1:Nat)+(rS r1).length):Int)≤(9223372036854775807:Int))
 (K .ret ⟨[(2,As ([(60:UInt8)]++rS r1))],[]⟩)))
 (Let (bif decide ((↑(t0.getD t9.toNat 0).toNat:Int)=(40:Int))then true
 else decide ((↑(t0.getD t9.toNat 0).toNat:Int)=(41:Int))) fun x2=>
 Let (bif x2 then true else decide ((↑(t0.getD t9.toNat 0).toNat:Int)=(92:Int))) fun x3=>
 Br (x3)
 (Ah ((u0.length+1)*1≤140737488355328∧u0.length+1≤140737488355328)
 (Ah (((u0++[[IV.int .u8 (92:Int)]]).length+1)*1≤140737488355328∧
 (u0++[[IV.int .u8 (92:Int)]]).length+1≤140737488355328)
 (Nh t0 t8 (IntKind.i64.wrap (t9+(1:Int))) (u0++[[IV.int .u8 (92:Int)]]++[[IV.int .u8 (↑(t0.getD t9.toNat 0).toNat:Int)]]) K)))
 (Ah ((u0.length+1)*1≤140737488355328∧u0.length+1≤140737488355328)
 (Nh t0 t8 (IntKind.i64.wrap (t9+(1:Int))) (u0++[[IV.int .u8 (↑(t0.getD t9.toNat 0).toNat:Int)]]) K))))))
 (K (.exit 0) ⟨[(3, .ptr nL3 0)],[(nL3, .blk Bz [.self nL3, .own (nL3.cell 1)]),((nL3.cell 1), .arr (Am+2) true 1 u0)]⟩))):Nh t0 t8 t9 u0 K:=Bg (Ar E0 Ht) (Az Ht) 3 4 (Au 4 ac_write_Bytes) [0,3,8,9] _ K rfl (kr (by kernel_rfl) h)
theorem Aum(u0:LL)(K:KK)(h:
 (Ah ((u0.length+1)*1≤140737488355328∧u0.length+1≤140737488355328)
 (Ah (((↑(u0++[[IV.int .u8 (41:Int)]]).length:Int)=
 (↑(u0++[[IV.int .u8 (41:Int)]]).length:Int)∧
 (u0++[[IV.int .u8 (41:Int)]]).length≤9223372036854775807)∧
 ∀(r:List IV),r∈u0++[[IV.int .u8 (41:Int)]]→Bt [.int .u8] r=true)
 (K .ret ⟨[(2,As (List.map (fun r=>UInt8.ofNat (gI r 0).toNat) (u0++[[IV.int .u8 (41:Int)]])))],[]⟩)))):Alh u0 K:=Av (Ar E0 Ht) (Az Ht) 3 16 (Ac 16 ac_write_Bytes) [] _ K rfl (kr (by kernel_rfl) h)
theorem Awj(Q:QQ)(t2:LB)(h:
 (Q (As t2) [])):Adk Q .ret ⟨[(2,As t2)],[]⟩:=kr (by kernel_rfl) h
theorem Awk(Q:QQ)(t2:LB)(h:
 (Q (As t2) [])):Q3 Q .ret ⟨[(2,As t2)],[]⟩:=kr (by kernel_rfl) h
theorem Awl(Q:QQ)(u0:LL)(h:
 (Alh u0 (Adk Q))):Q3 Q (.exit 0) ⟨[(3, .ptr nL3 0)],[(nL3, .blk Bz [.self nL3, .own (nL3.cell 1)]),((nL3.cell 1), .arr (Am+2) true 1 u0)]⟩:=kr (by kernel_rfl) h
theorem A8q:Bo E0.P 81 ac_write_Bytes.code Ht [.tmp 2]:=Bh _ _ Tryz.f81 [(4,[0,3,8,9],[]),(6,[3],[]),(16,[3],[])] [2] _ 37 Tryz.func81 (by kernel_rfl) (by kernel_rfl) (by kernel_rfl) (by kernel_rfl)
theorem A1c(a0:LB)(Q:QQ)(h:
 (Ah (1≤140737488355328∧1≤140737488355328)
 (Nh a0 ((↑a0.length:Int)) ((0:Int)) ([]++[[IV.int .u8 (40:Int)]]) (Q3 Q)))):Call E0.P Afu [As a0] [] Q:=A8 (Ar E0 Ht) (Az Ht) 3 0 81 ac_write_Bytes [.tmp 2] A8q _ _ Q rfl rfl (kr (by kernel_rfl) h)
noncomputable def ac_value_Check:AC:=(Bf [] [4] (codeOf Tryz.f15) 0).1
abbrev Af6:Nat:=8
theorem A8m:Bo E0.P 15 ac_value_Check.code Af6 [.tmp 4]:=Bh _ _ Tryz.f15 [] [4] _ 8 Tryz.func15 (by kernel_rfl) (by kernel_rfl) (by kernel_rfl) (by kernel_rfl)
theorem A08(a0_0 a0_1 a0_2:Int)(a0_3:LB)(a0_4 a0_5:LL)(a1:Bool)(Q:QQ)(h:
 (Call E0.P Tq [.imm (.agg [.int .i64 a0_0, .int .i64 a0_1, .int .i64 a0_2, .str a0_3, .sl .any 6 a0_4, .sl .any 7 a0_5]),Ab a1,Ai 0] [] fun r0 g0=>
 Ah (qW0 g0 r0)
 (Q (Ai (rI r0)) []))):Call E0.P Afs [.imm (.agg [.int .i64 a0_0, .int .i64 a0_1, .int .i64 a0_2, .str a0_3, .sl .any 6 a0_4, .sl .any 7 a0_5]),Ab a1] [] Q:=A8 (Ar E0 Af6) (Az Af6) 3 0 15 ac_value_Check [.tmp 4] A8m _ _ Q rfl rfl (kr (by kernel_rfl) h)
noncomputable def ac_write_plain:AC:=(Bf [(13,[1,3,33,34,35],[]),(15,[1,3],[]),(21,[1,3,48,49,50],[]),(23,[1,3],[]),(28,[1,1000003],[])] [2] (codeOf Tryz.f55) 0).1
abbrev De:Nat:=79
def U1(t33r:LL)(t34 t35:Int)(u0 u1 u2:Int)(u3:LB)(u4 u5 u6:LL)(K:KK):Prop:=Bi 13 E0.P De (Au 13 ac_write_plain).code ⟨[(1, .ptr Dc 0),(3, .own nL3),(33,Al 6 t33r),(34,Ai t34),(35,Ai t35)],[(Dc, .blk Aa [Ai u0,Ai u1,Ai u2,As u3,Al 6 u4,Al 7 u5]),(nL3, .arr (Rk+2) true 1 u6)]⟩ K
def U2(t48r:LL)(t49 t50:Int)(u0 u1 u2:Int)(u3:LB)(u4 u5 u6:LL)(K:KK):Prop:=Bi 21 E0.P De (Au 21 ac_write_plain).code ⟨[(1, .ptr Dc 0),(3, .own nL3),(48,Al 7 t48r),(49,Ai t49),(50,Ai t50)],[(Dc, .blk Aa [Ai u0,Ai u1,Ai u2,As u3,Al 6 u4,Al 7 u5]),(nL3, .arr (Rk+2) true 1 u6)]⟩ K
def Lv(t3r:LL)(u0 u1 u2:Int)(u3:LB)(u4 u5:LL)(K:KK):Prop:=Aq 28 E0.P De (Ac 28 ac_write_plain).code ⟨[(1, .ptr Dc 0),(3,Al 1 t3r)],[(Dc, .blk Aa [Ai u0,Ai u1,Ai u2,As u3,Al 6 u4,Al 7 u5])]⟩ K
def E8(Q:QQ):KK:=kE fun st=>finish 0 E0.T [.tmp 2] [] Q st
def An1(Q:QQ):Ex→St→Prop
 | .normal,st=>Aq 28 E0.P De (Ac 28 ac_write_plain).code (mask [1,1000003] st) (E8 Q)
 | .exit i,st=>(match (i.beq 1:Bool)with
 |true=>Aq 28 E0.P De (Ac 28 ac_write_plain).code (mask [1,1000003] st) (E8 Q)
 |false=>(match (i.beq 0:Bool)with
 |true=>Aq 28 E0.P De (Ac 28 ac_write_plain).code (mask [1,1000003] st) (E8 Q)
 |false=>False))
 | .goto _,_=>False
 | .ret,st=>finish 0 E0.T [.tmp 2] [] Q st
def An2(Q:QQ):Ex→St→Prop
 | .normal,st=>Aq 28 E0.P De (Ac 28 ac_write_plain).code (mask [1,1000003] st) (E8 Q)
 | .exit i,st=>(match (i.beq 3:Bool)with
 |true=>Aq 28 E0.P De (Ac 28 ac_write_plain).code (mask [1,1000003] st) (E8 Q)
 |false=>(match (i.beq 0:Bool)with
 |true=>Aq 28 E0.P De (Ac 28 ac_write_plain).code (mask [1,1000003] st) (E8 Q)
 |false=>False))
 | .goto _,_=>False
 | .ret,st=>finish 0 E0.T [.tmp 2] [] Q st
theorem Ae0(t33r:LL)(t34 t35:Int)(u0 u1 u2:Int)(u3:LB)(u4 u5 u6:LL)(K:KK)(h:
 (Br (decide (t35<t34))
 (Ah (((0:Int)≤t35∧t35<(↑t33r.length:Int))∧
 Bt
 [.int .i64, .int .i64, .int .i64, .str, .sl 6 Aa,
 .sl 7 Ag]
 (t33r.getD t35.toNat [])=
 true)
 (Call E0.P Tt [.imm (.agg [.int .i64 (gI (t33r.getD t35.toNat []) 0), .int .i64 (gI (t33r.getD t35.toNat []) 1), .int .i64 (gI (t33r.getD t35.toNat []) 2), .str (gS (t33r.getD t35.toNat []) 3), .sl .any 6 (gR (t33r.getD t35.toNat []) 4), .sl .any 7 (gR (t33r.getD t35.toNat []) 5)])] [] fun r0 g0=>
 Ah (Uc g0 r0)
 (Ah ((u6.length+1)*16≤140737488355328∧u6.length+1≤140737488355328)
 (U1 t33r t34 (IntKind.i64.wrap (t35+(1:Int))) u0 u1 u2 u3 u4 u5 (u6++[[IV.str (rS r0)]]) K))))
 (K (.exit (1)) ⟨[(1, .ptr Dc 0),(3, .own nL3)],[(Dc, .blk Aa [Ai u0,Ai u1,Ai u2,As u3,Al 6 u4,Al 7 u5]),(nL3, .arr (Rk+2) true 1 u6)]⟩))):U1 t33r t34 t35 u0 u1 u2 u3 u4 u5 u6 K:=Bg (Ar E0 De) (Az De) 3 13 (Au 13 ac_write_plain) [1,3,33,34,35] _ K rfl (kr (by kernel_rfl) h)
theorem Ae1(t48r:LL)(t49 t50:Int)(u0 u1 u2:Int)(u3:LB)(u4 u5 u6:LL)(K:KK)(h:
 (Br (decide (t50<t49))
 (Ah (((0:Int)≤t50∧t50<(↑t48r.length:Int))∧
 Bt
 [.str, .int .i64, .int .i64, .int .i64, .str, .sl 6 Aa,
 .sl 7 Ag]
 (t48r.getD t50.toNat [])=
 true)
 (Call E0.P Aa6 [As (gS (t48r.getD t50.toNat []) 0)] [] fun r0 g0=>
 Ah (Uc g0 r0)
 (Call E0.P Tt [.imm (.agg [.int .i64 (gI (t48r.getD t50.toNat []) 1), .int .i64 (gI (t48r.getD t50.toNat []) 2), .int .i64 (gI (t48r.getD t50.toNat []) 3), .str (gS (t48r.getD t50.toNat []) 4), .sl .any 6 (gR (t48r.getD t50.toNat []) 5), .sl .any 7 (gR (t48r.getD t50.toNat []) 6)])] [] fun r1 g1=>
 Ah (Uc g1 r1)
 (Call E0.P Xc [.imm (.sl .any 1 [[IV.str (rS r0)],[.str (rS r1)]])] [] fun r2 g2=>
 Ah (Uc g2 r2)
 (Ah ((u6.length+1)*16≤140737488355328∧u6.length+1≤140737488355328)
 (U2 t48r t49 (IntKind.i64.wrap (t50+(1:Int))) u0 u1 u2 u3 u4 u5 (u6++[[IV.str (rS r2)]]) K))))))
 (K (.exit (3)) ⟨[(1, .ptr Dc 0),(3, .own nL3)],[(Dc, .blk Aa [Ai u0,Ai u1,Ai u2,As u3,Al 6 u4,Al 7 u5]),(nL3, .arr (Rk+2) true 1 u6)]⟩))):U2 t48r t49 t50 u0 u1 u2 u3 u4 u5 u6 K:=Bg (Ar E0 De) (Az De) 3 21 (Au 21 ac_write_plain) [1,3,48,49,50] _ K rfl (kr (by kernel_rfl) h)
theorem Aun(t3r:LL)(u0 u1 u2:Int)(u3:LB)(u4 u5:LL)(K:KK)(h:
 (Call E0.P Aed [Ai u0,Al 1 t3r] [] fun r0 g0=>
 Ah (Uc g0 r0)
 (K .ret ⟨[(2,As (rS r0))],[]⟩))):Lv t3r u0 u1 u2 u3 u4 u5 K:=Av (Ar E0 De) (Az De) 3 28 (Ac 28 ac_write_plain) [] _ K rfl (kr (by kernel_rfl) h)
theorem Awm(Q:QQ)(t2:LB)(h:
 (Q (As t2) [])):E8 Q .ret ⟨[(2,As t2)],[]⟩:=kr (by kernel_rfl) h
theorem Awn(Q:QQ)(u0 u1 u2:Int)(u3:LB)(u4 u5 u6:LL)(h:
 (Lv u6 u0 u1 u2 u3 u4 u5 (E8 Q))):An1 Q (.exit (1)) ⟨[(1, .ptr Dc 0),(3, .own nL3)],[(Dc, .blk Aa [Ai u0,Ai u1,Ai u2,As u3,Al 6 u4,Al 7 u5]),(nL3, .arr (Rk+2) true 1 u6)]⟩:=kr (by kernel_rfl) h
theorem Awo(Q:QQ)(u0 u1 u2:Int)(u3:LB)(u4 u5 u6:LL)(h:
 (Lv u6 u0 u1 u2 u3 u4 u5 (E8 Q))):An2 Q (.exit (3)) ⟨[(1, .ptr Dc 0),(3, .own nL3)],[(Dc, .blk Aa [Ai u0,Ai u1,Ai u2,As u3,Al 6 u4,Al 7 u5]),(nL3, .arr (Rk+2) true 1 u6)]⟩:=kr (by kernel_rfl) h
theorem A8r:Bo E0.P 55 ac_write_plain.code De [.tmp 2]:=Bh _ _ Tryz.f55 [(13,[1,3,33,34,35],[]),(15,[1,3],[]),(21,[1,3,48,49,50],[]),(23,[1,3],[]),(28,[1,1000003],[])] [2] _ 79 Tryz.func55 (by kernel_rfl) (by kernel_rfl) (by kernel_rfl) (by kernel_rfl)
theorem A1d(a0_0 a0_1 a0_2:Int)(a0_3:LB)(a0_4 a0_5:LL)(Q:QQ)(h:
 (Br (decide (a0_0=(1:Int)))
 (Call E0.P Aiz [Ai a0_1] [] fun r0 g0=>
 Ah (Uc g0 r0)
 (Q (As (rS r0)) []))
 (Br (decide (a0_0=(2:Int)))
 (Call E0.P Qo [Ai a0_1] [] fun r1 g1=>
 Ah (Uc g1 r1)
 (Q (As (rS r1)) []))
 (Br (decide (a0_0=(3:Int)))
 (Call E0.P Aa6 [As a0_3] [] fun r2 g2=>
 Ah (Uc g2 r2)
 (Q (As (rS r2)) []))
 (Br (decide (a0_0=(4:Int)))
 (Call E0.P Afu [As a0_3] [] fun r3 g3=>
 Ah (Uc g3 r3)
 (Q (As (rS r3)) []))
 (Br (decide (a0_0=(5:Int)))
 (U1 a0_4 ((↑a0_4.length:Int)) ((0:Int)) a0_0 a0_1 a0_2 a0_3 a0_4 a0_5 [] (An1 Q))
 (Br (decide (a0_0=(6:Int)))
 (U2 a0_5 ((↑a0_5.length:Int)) ((0:Int)) a0_0 a0_1 a0_2 a0_3 a0_4 a0_5 [] (An2 Q))
 (Br (decide (a0_0=(7:Int)))
 (Call E0.P Qo [Ai a0_1] [] fun r4 g4=>
 Ah (Uc g4 r4)
 (Call E0.P Qo [Ai a0_2] [] fun r5 g5=>
 Ah (Uc g5 r5)
 (Lv [[IV.str (rS r4)],[.str (rS r5)]] a0_0 a0_1 a0_2 a0_3 a0_4 a0_5 (E8 Q))))
 (Lv [] a0_0 a0_1 a0_2 a0_3 a0_4 a0_5 (E8 Q)))))))))):Call E0.P Tt [.imm (.agg [.int .i64 a0_0, .int .i64 a0_1, .int .i64 a0_2, .str a0_3, .sl .any 6 a0_4, .sl .any 7 a0_5])] [] Q:=A8 (Ar E0 De) (Az De) 3 0 55 ac_write_plain [.tmp 2] A8r _ _ Q rfl rfl (kr (by kernel_rfl) h)
noncomputable def ac_write_seen:AC:=(Bf [] [2] (codeOf Tryz.f112) 0).1
abbrev Ai6:Nat:=9
theorem Ba9:Bo E0.P 112 ac_write_seen.code Ai6 [.tmp 2]:=Bh _ _ Tryz.f112 [] [2] _ 9 Tryz.func112 (by kernel_rfl) (by kernel_rfl) (by kernel_rfl) (by kernel_rfl)
theorem A4f(a0:Int)(Q:QQ)(h:
 (Let (bif decide ((32:Int)≤a0)then decide (a0≤(126:Int))else false) fun x0=>
 Q (Ab x0) [])):Call E0.P Aa7 [.imm (.int .u8 a0)] [] Q:=A8 (Ar E0 Ai6) (Az Ai6) 3 0 112 ac_write_seen [.tmp 2] Ba9 _ _ Q rfl rfl (kr (by kernel_rfl) h)
noncomputable def ac_octet_Digit:AC:=(Bf [] [2] (codeOf Tryz.f114) 0).1
abbrev Af3:Nat:=20
theorem A8j:Bo E0.P 114 ac_octet_Digit.code Af3 [.tmp 2]:=Bh _ _ Tryz.f114 [] [2] _ 20 Tryz.func114 (by kernel_rfl) (by kernel_rfl) (by kernel_rfl) (by kernel_rfl)
theorem A05(a0:Int)(Q:QQ)(h:
 (Let (bif decide (a0<(0:Int))then true else decide ((15:Int)<a0)) fun x0=>
 Br (x0)
 (Q (.imm (.int .u8 ((0:Int)))) [])
 (Br (decide (a0<(10:Int)))
 (Q (.imm (.int .u8 (IntKind.u8.wrap (IntKind.i64.wrap ((48:Int)+a0))))) [])
 (Q (.imm (.int .u8 (IntKind.u8.wrap (IntKind.i64.wrap (IntKind.i64.wrap ((65:Int)+a0) - (10:Int)))))) [])))):Call E0.P O4 [Ai a0] [] Q:=A8 (Ar E0 Af3) (Az Af3) 3 0 114 ac_octet_Digit [.tmp 2] A8j _ _ Q rfl rfl (kr (by kernel_rfl) h)
noncomputable def ac_hexa_Encode:AC:=(Bf [(3,[0,3,6,7],[]),(5,[3],[]),(10,[3],[])] [2] (codeOf Tryz.f116) 0).1
abbrev Hr:Nat:=27
def Wx(t0:LB)(t6 t7:Int)(u0:LL)(K:KK):Prop:=Bi 3 E0.P Hr (Au 3 ac_hexa_Encode).code ⟨[(0,As t0),(3, .ptr nL3 0),(6,Ai t6),(7,Ai t7)],[(nL3, .blk Bz [.self nL3, .own (nL3.cell 1)]),((nL3.cell 1), .arr (Am+2) true 1 u0)]⟩ K
def Ak9(u0:LL)(K:KK):Prop:=Aq 10 E0.P Hr (Ac 10 ac_hexa_Encode).code ⟨[(3, .ptr nL3 0)],[(nL3, .blk Bz [.self nL3, .own (nL3.cell 1)]),((nL3.cell 1), .arr (Am+2) true 1 u0)]⟩ K
def Ac5(Q:QQ):KK:=kE fun st=>finish 0 E0.T [.tmp 2] [] Q st
def An0(Q:QQ):KK:=kF 0 (fun st=>Aq 10 E0.P Hr (Ac 10 ac_hexa_Encode).code (mask [3] st) (Ac5 Q)) fun st=>finish 0 E0.T [.tmp 2] [] Q st
theorem Ahc(t0:LB)(t6 t7:Int)(u0:LL)(K:KK)(h:
 (Br (decide (t7<t6))
 (Ah ((0:Int)≤t7∧t7<(↑t0.length:Int))
 (Ah ((0:Int)≤(4:Int))
 (Call E0.P O4 [.imm (.int .i64 (IntKind.i64.wrap ((↑(t0.getD t7.toNat 0).toNat:Int).fdiv ((2:Int) ^ 4))))] [] fun r0 g0=>
 Ah (qW4 g0 r0)
 (Ah ((u0.length+1)*1≤140737488355328∧u0.length+1≤140737488355328)
 (Ah ((0:Int)≤t7∧t7<(↑t0.length:Int))
 (Call E0.P O4 [.imm (.int .i64 (IntKind.i64.wrap
 (IntKind.u8.wrap
 (↑(BitVec.ofInt (8:Nat) (↑(t0.getD t7.toNat 0).toNat:Int) &&&
 BitVec.ofInt (8:Nat) (15:Int)).toNat:
 Int))))] [] fun r1 g1=>
 Ah (qW4 g1 r1)
 (Ah (((u0++[[IV.int .u8 (rI r0)]]).length+1)*1≤140737488355328∧
 (u0++[[IV.int .u8 (rI r0)]]).length+1≤140737488355328)
 (Wx t0 t6 (IntKind.i64.wrap (t7+(1:Int))) (u0++[[IV.int .u8 (rI r0)]]++[[IV.int .u8 (rI r1)]]) K))))))))
 (K (.exit 0) ⟨[(3, .ptr nL3 0)],[(nL3, .blk Bz [.self nL3, .own (nL3.cell 1)]),((nL3.cell 1), .arr (Am+2) true 1 u0)]⟩))):Wx t0 t6 t7 u0 K:=Bg (Ar E0 Hr) (Az Hr) 3 3 (Au 3 ac_hexa_Encode) [0,3,6,7] _ K rfl (kr (by kernel_rfl) h)
theorem Auf(u0:LL)(K:KK)(h:
 (Ah ((u0.length+1)*1≤140737488355328∧u0.length+1≤140737488355328)
 (Ah (((↑(u0++[[IV.int .u8 (62:Int)]]).length:Int)=
 (↑(u0++[[IV.int .u8 (62:Int)]]).length:Int)∧
 (u0++[[IV.int .u8 (62:Int)]]).length≤9223372036854775807)∧
 ∀(r:List IV),r∈u0++[[IV.int .u8 (62:Int)]]→Bt [.int .u8] r=true)
 (K .ret ⟨[(2,As (List.map (fun r=>UInt8.ofNat (gI r 0).toNat) (u0++[[IV.int .u8 (62:Int)]])))],[]⟩)))):Ak9 u0 K:=Av (Ar E0 Hr) (Az Hr) 3 10 (Ac 10 ac_hexa_Encode) [] _ K rfl (kr (by kernel_rfl) h)
theorem Av1(Q:QQ)(t2:LB)(h:
 (Q (As t2) [])):Ac5 Q .ret ⟨[(2,As t2)],[]⟩:=kr (by kernel_rfl) h
theorem Av2(Q:QQ)(u0:LL)(h:
 (Ak9 u0 (Ac5 Q))):An0 Q (.exit 0) ⟨[(3, .ptr nL3 0)],[(nL3, .blk Bz [.self nL3, .own (nL3.cell 1)]),((nL3.cell 1), .arr (Am+2) true 1 u0)]⟩:=kr (by kernel_rfl) h
theorem A8h:Bo E0.P 116 ac_hexa_Encode.code Hr [.tmp 2]:=Bh _ _ Tryz.f116 [(3,[0,3,6,7],[]),(5,[3],[]),(10,[3],[])] [2] _ 27 Tryz.func116 (by kernel_rfl) (by kernel_rfl) (by kernel_rfl) (by kernel_rfl)
theorem A03(a0:LB)(Q:QQ)(h:
 (Wx a0 ((↑a0.length:Int)) ((0:Int)) [] (An0 Q))):Call E0.P Afp [As a0] [] Q:=A8 (Ar E0 Hr) (Az Hr) 3 0 116 ac_hexa_Encode [.tmp 2] A8h _ _ Q rfl rfl (kr (by kernel_rfl) h)
noncomputable def ac_value_check:AC:=(Bf [(6,[2,3,23,24,25],[]),(8,[2,3],[]),(15,[2,3],[]),(18,[2,11,39,40,41],[]),(20,[],[]),(25,[2,11,13,39,40,41],[2,11,39,40,41]),(30,[2,11,39,40,41],[2,11,39,40,41]),(31,[],[])] [6] (codeOf Tryz.f32) 0).1
abbrev Cj:Nat:=75
def W9(t2:Int)(t23r:LL)(t24 t25:Int)(u0 u1 u2:Int)(u3:LB)(u4 u5:LL)(K:KK):Prop:=Bi 6 E0.P Cj (Au 6 ac_value_check).code ⟨[(2,Ai t2),(3, .ptr nL3 0),(23,Al 6 t23r),(24,Ai t24),(25,Ai t25)],[(nL3, .blk Aa [Ai u0,Ai u1,Ai u2,As u3,Al 6 u4,Al 7 u5])]⟩ K
def Ald(t2 u0:Int)(u1 u2:Int)(u3:LB)(u4 u5:LL)(K:KK):Prop:=Aq 15 E0.P Cj (Ac 15 ac_value_check).code ⟨[(2,Ai t2),(3, .ptr nL3 0)],[(nL3, .blk Aa [Ai u0,Ai u1,Ai u2,As u3,Al 6 u4,Al 7 u5])]⟩ K
def Uz(t2:Int)(t39r:LL)(t40 t41:Int)(u0:List (List UInt8 × Int))(K:KK):Prop:=Bi 18 E0.P Cj (Au 18 ac_value_check).code ⟨[(2,Ai t2),(11, .mp Aeg),(39,Al 7 t39r),(40,Ai t40),(41,Ai t41)],[(Aeg, .map u0)]⟩ K
def Uq(t2:Int)(t39r:LL)(t40 t41:Int)(u0:List (List UInt8 × Int))(u1:LB)(u2 u3 u4:Int)(u5:LB)(u6 u7:LL)(K:KK):Prop:=Aq 25 E0.P Cj (Ac 25 ac_value_check).code ⟨[(2,Ai t2),(11, .mp Aeg),(13, .ptr Buj 0),(39,Al 7 t39r),(40,Ai t40),(41,Ai t41)],[(Aeg, .map u0),(Buj, .blk Ag [As u1,Ai u2,Ai u3,Ai u4,As u5,Al 6 u6,Al 7 u7])]⟩ K
def Alf(K:KK):Prop:=Aq 31 E0.P Cj (Ac 31 ac_value_check).code ⟨[],[]⟩ K
def Ale(t2:Int)(t39r:LL)(t40 t41:Int)(u0:List (List UInt8 × Int))(K:KK):Prop:=Aq 30 E0.P Cj (Ac 30 ac_value_check).code ⟨[(2,Ai t2),(11, .mp Aeg),(39,Al 7 t39r),(40,Ai t40),(41,Ai t41)],[(Aeg, .map u0)]⟩ K
def Adg(Q:QQ):KK:=kE fun st=>finish 0 E0.T [.tmp 6] [] Q st
def Adh(Q:QQ):KK:=kF 0 (fun st=>Aq 15 E0.P Cj (Ac 15 ac_value_check).code (mask [2,3] st) (Adg Q)) fun st=>finish 0 E0.T [.tmp 6] [] Q st
def Adi(K:KK):KK:=kP [] K
def M9(K:KK):KK:=kC 2 (fun st=>Aq 31 E0.P Cj (Ac 31 ac_value_check).code (mask [] st) (Adi K)) K
def Adj(K:KK):Ex→St→Prop
 | .normal,st=>Bi 18 E0.P Cj (Au 18 ac_value_check).code (mask [2,11,39,40,41] st) K
 | .exit i,st=>K (.exit i) st
 | .goto i,st=>K (.goto i) st
 | .ret,st=>K .ret st
def Q0(K:KK):KK:=kC 3 (fun st=>Aq 30 E0.P Cj (Ac 30 ac_value_check).code (mask [2,11,39,40,41] st) (Adj K)) K
theorem Ahe(t2:Int)(t23r:LL)(t24 t25:Int)(u0 u1 u2:Int)(u3:LB)(u4 u5:LL)(K:KK)(h:
 (Br (decide (t25<t24))
 (Ah (((0:Int)≤t25∧t25<(↑t23r.length:Int))∧
 Bt
 [.int .i64, .int .i64, .int .i64, .str, .sl 6 Aa,
 .sl 7 Ag]
 (t23r.getD t25.toNat [])=
 true)
 (Call E0.P Tq [.imm (.agg [.int .i64 (gI (t23r.getD t25.toNat []) 0), .int .i64 (gI (t23r.getD t25.toNat []) 1), .int .i64 (gI (t23r.getD t25.toNat []) 2), .str (gS (t23r.getD t25.toNat []) 3), .sl .any 6 (gR (t23r.getD t25.toNat []) 4), .sl .any 7 (gR (t23r.getD t25.toNat []) 5)]),Ab false,Ai (IntKind.i64.wrap (t2+(1:Int)))] [] fun r0 g0=>
 Ah (qW0 g0 r0)
 (Br (!decide (rI r0=(0:Int)))
 (K .ret ⟨[(6,Ai (rI r0))],[]⟩)
 (W9 t2 t23r t24 (IntKind.i64.wrap (t25+(1:Int))) u0 u1 u2 u3 u4 u5 K))))
 (K (.exit 0) ⟨[(2,Ai t2),(3, .ptr nL3 0)],[(nL3, .blk Aa [Ai u0,Ai u1,Ai u2,As u3,Al 6 u4,Al 7 u5])]⟩))):W9 t2 t23r t24 t25 u0 u1 u2 u3 u4 u5 K:=Bg (Ar E0 Cj) (Az Cj) 3 6 (Au 6 ac_value_check) [2,3,23,24,25] _ K rfl (kr (by kernel_rfl) h)
theorem Aui(t2 u0:Int)(u1 u2:Int)(u3:LB)(u4 u5:LL)(K:KK)(h:
 (Uz t2 u5 ((↑u5.length:Int)) ((0:Int)) [] (M9 K))):Ald t2 u0 u1 u2 u3 u4 u5 K:=Av (Ar E0 Cj) (Az Cj) 3 15 (Ac 15 ac_value_check) [] _ K rfl (kr (by kernel_rfl) h)
theorem Aez(t2:Int)(t39r:LL)(t40 t41:Int)(u0:List (List UInt8 × Int))(K:KK)(h:
 (Br (decide (t41<t40))
 (Ah (((0:Int)≤t41∧t41<(↑t39r.length:Int))∧
 Bt
 [.str, .int .i64, .int .i64, .int .i64, .str, .sl 6 Aa,
 .sl 7 Ag]
 (t39r.getD t41.toNat [])=
 true)
 (Br (decide ((127:Int)<(↑(gS (t39r.getD t41.toNat []) (0:Nat)).length:Int)) == false)
 (Call E0.P X4 [As (gS (t39r.getD t41.toNat []) 0)] [] fun r0 g0=>
 Ah (qW3 g0 r0)
 (Let (rB r0) fun x1=>
 Let (bif x1 then true else decide ((0:Int)<Dz u0 (gS (t39r.getD t41.toNat []) 0))) fun x2=>
 Br (x2)
 (K .ret ⟨[(6,Ai 11)],[]⟩)
 (Uq t2 t39r t40 t41 u0 (gS (t39r.getD t41.toNat []) 0) (gI (t39r.getD t41.toNat []) 1) (gI (t39r.getD t41.toNat []) 2) (gI (t39r.getD t41.toNat []) 3) (gS (t39r.getD t41.toNat []) 4) (gR (t39r.getD t41.toNat []) 5) (gR (t39r.getD t41.toNat []) 6) (Q0 K))))
 (Ah ((!false)=true)
 (Let (true) fun x3=>
 Let (bif x3 then true else decide ((0:Int)<Dz u0 (gS (t39r.getD t41.toNat []) 0))) fun x4=>
 Br (x4)
 (K .ret ⟨[(6,Ai 11)],[]⟩)
 (Uq t2 t39r t40 t41 u0 (gS (t39r.getD t41.toNat []) 0) (gI (t39r.getD t41.toNat []) 1) (gI (t39r.getD t41.toNat []) 2) (gI (t39r.getD t41.toNat []) 3) (gS (t39r.getD t41.toNat []) 4) (gR (t39r.getD t41.toNat []) 5) (gR (t39r.getD t41.toNat []) 6) (Q0 K))))))
 (K (.exit (2)) ⟨[],[]⟩))):Uz t2 t39r t40 t41 u0 K:=Bg (Ar E0 Cj) (Az Cj) 3 18 (Au 18 ac_value_check) [2,11,39,40,41] _ K rfl (kr (by kernel_rfl) h)
theorem Auj(t2:Int)(t39r:LL)(t40 t41:Int)(u0:List (List UInt8 × Int))(u1:LB)(u2 u3 u4:Int)(u5:LB)(u6 u7:LL)(K:KK)(h:
 (Call E0.P Tq [.imm (.agg [.int .i64 u2, .int .i64 u3, .int .i64 u4, .str u5, .sl .any 6 u6, .sl .any 7 u7]),Ab false,Ai (IntKind.i64.wrap (t2+(1:Int)))] [] fun r0 g0=>
 Ah (qW0 g0 r0)
 (Br (!decide (rI r0=(0:Int)))
 (K .ret ⟨[(6,Ai (rI r0))],[]⟩)
 (K .normal ⟨[(2,Ai t2),(11, .mp Aeg),(39,Al 7 t39r),(40,Ai t40),(41,Ai t41)],[(Aeg, .map (Zk u0 u1 (IntKind.i64.wrap (Dz u0 u1+(1:Int)))))]⟩)))):Uq t2 t39r t40 t41 u0 u1 u2 u3 u4 u5 u6 u7 K:=Av (Ar E0 Cj) (Az Cj) 3 25 (Ac 25 ac_value_check) [2,11,39,40,41] _ K rfl (kr (by kernel_rfl) h)
theorem Aul(K:KK)(h:
 (K .ret ⟨[(6,Ai 0)],[]⟩)):Alf K:=Av (Ar E0 Cj) (Az Cj) 3 31 (Ac 31 ac_value_check) [] _ K rfl (kr (by kernel_rfl) h)
theorem Auk(t2:Int)(t39r:LL)(t40 t41:Int)(u0:List (List UInt8 × Int))(K:KK)(h:
 (K .normal ⟨[(2,Ai t2),(11, .mp Aeg),(39,Al 7 t39r),(40,Ai t40),(41,Ai (IntKind.i64.wrap (t41+(1:Int))))],[(Aeg, .map u0)]⟩)):Ale t2 t39r t40 t41 u0 K:=Av (Ar E0 Cj) (Az Cj) 3 30 (Ac 30 ac_value_check) [2,11,39,40,41] _ K rfl (kr (by kernel_rfl) h)
theorem Awb(Q:QQ)(t6:Int)(h:
 (Q (Ai t6) [])):Adg Q .ret ⟨[(6,Ai t6)],[]⟩:=kr (by kernel_rfl) h
theorem Awc(Q:QQ)(t6:Int)(h:
 (Q (Ai t6) [])):Adh Q .ret ⟨[(6,Ai t6)],[]⟩:=kr (by kernel_rfl) h
theorem Awd(Q:QQ)(t2 u0:Int)(u1 u2:Int)(u3:LB)(u4 u5:LL)(h:
 (Ald t2 u0 u1 u2 u3 u4 u5 (Adg Q))):Adh Q (.exit 0) ⟨[(2,Ai t2),(3, .ptr nL3 0)],[(nL3, .blk Aa [Ai u0,Ai u1,Ai u2,As u3,Al 6 u4,Al 7 u5])]⟩:=kr (by kernel_rfl) h
theorem Awe(K:KK)(t6:Int)(h:
 (K .ret ⟨[(6,Ai t6)],[]⟩)):Adi K .ret ⟨[(6,Ai t6)],[]⟩:=kr (by kernel_rfl) h
theorem Aha(K:KK)(t6:Int)(h:
 (K .ret ⟨[(6,Ai t6)],[]⟩)):M9 K .ret ⟨[(6,Ai t6)],[]⟩:=kr (by kernel_rfl) h
theorem Awf(K:KK)(h:
 (Alf (Adi K))):M9 K (.exit (2)) ⟨[],[]⟩:=kr (by kernel_rfl) h
theorem Awg(K:KK)(t2:Int)(t39r:LL)(t40 t41:Int)(u0:List (List UInt8 × Int))(h:
 (Uz t2 t39r t40 t41 u0 K)):Adj K .normal ⟨[(2,Ai t2),(11, .mp Aeg),(39,Al 7 t39r),(40,Ai t40),(41,Ai t41)],[(Aeg, .map u0)]⟩:=kr (by kernel_rfl) h
theorem Awh(K:KK)(t6:Int)(h:
 (K .ret ⟨[(6,Ai t6)],[]⟩)):Q0 K .ret ⟨[(6,Ai t6)],[]⟩:=kr (by kernel_rfl) h
theorem Awi(K:KK)(t2:Int)(t39r:LL)(t40 t41:Int)(u0:List (List UInt8 × Int))(h:
 (Ale t2 t39r t40 t41 u0 (Adj K))):Q0 K .normal ⟨[(2,Ai t2),(11, .mp Aeg),(39,Al 7 t39r),(40,Ai t40),(41,Ai t41)],[(Aeg, .map u0)]⟩:=kr (by kernel_rfl) h
theorem A8o:Bo E0.P 32 ac_value_check.code Cj [.tmp 6]:=Bh _ _ Tryz.f32 [(6,[2,3,23,24,25],[]),(8,[2,3],[]),(15,[2,3],[]),(18,[2,11,39,40,41],[]),(20,[],[]),(25,[2,11,13,39,40,41],[2,11,39,40,41]),(30,[2,11,39,40,41],[2,11,39,40,41]),(31,[],[])] [6] _ 75 Tryz.func32 (by kernel_rfl) (by kernel_rfl) (by kernel_rfl) (by kernel_rfl)
theorem A1a(a0_0 a0_1 a0_2:Int)(a0_3:LB)(a0_4 a0_5:LL)(a1:Bool)(a2:Int)(Q:QQ)(h:
 (Call E0.P Amv [.imm (.agg [.int .i64 a0_0, .int .i64 a0_1, .int .i64 a0_2, .str a0_3, .sl .any 6 a0_4, .sl .any 7 a0_5]),Ab a1,Ai a2] [] fun r0 g0=>
 Ah (qW0 g0 r0)
 (Br (!decide (rI r0=(0:Int)))
 (Q (Ai (rI r0)) [])
 (W9 a2 a0_4 ((↑a0_4.length:Int)) ((0:Int)) a0_0 a0_1 a0_2 a0_3 a0_4 a0_5 (Adh Q))))):Call E0.P Tq [.imm (.agg [.int .i64 a0_0, .int .i64 a0_1, .int .i64 a0_2, .str a0_3, .sl .any 6 a0_4, .sl .any 7 a0_5]),Ab a1,Ai a2] [] Q:=A8 (Ar E0 Cj) (Az Cj) 3 0 32 ac_value_check [.tmp 6] A8o _ _ Q rfl rfl (kr (by kernel_rfl) h)
noncomputable def ac_write_word:AC:=(Bf [] [2] (codeOf Tryz.f79) 0).1
abbrev Ai7:Nat:=5
theorem Bba:Bo E0.P 79 ac_write_word.code Ai7 [.tmp 2]:=Bh _ _ Tryz.f79 [] [2] _ 5 Tryz.func79 (by kernel_rfl) (by kernel_rfl) (by kernel_rfl) (by kernel_rfl)
theorem A4g(a0:Int)(Q:QQ)(h:
 (Br (decide (a0=(1:Int)))
 (Q (.imm (.str [116,114,117,101])) [])
 (Q (.imm (.str [102,97,108,115,101])) []))):Call E0.P Aiz [Ai a0] [] Q:=A8 (Ar E0 Ai7) (Az Ai7) 3 0 79 ac_write_word [.tmp 2] Bba _ _ Q rfl rfl (kr (by kernel_rfl) h)
noncomputable def ac_write_spaced:AC:=(Bf [] [2] (codeOf Tryz.f82) 0).1
abbrev Ael:Nat:=5
theorem A50:Bo E0.P 82 ac_write_spaced.code Ael [.tmp 2]:=Bh _ _ Tryz.f82 [] [2] _ 5 Tryz.func82 (by kernel_rfl) (by kernel_rfl) (by kernel_rfl) (by kernel_rfl)
theorem Azn(a0:LL)(Q:QQ)(h:
 (Call E0.P Aoc [Al 1 a0, .imm (.str [32])] [] fun r0 g0=>
 Ah (Uc g0 r0)
 (Q (As (rS r0)) []))):Call E0.P Xc [Al 1 a0] [] Q:=A8 (Ar E0 Ael) (Az Ael) 3 0 82 ac_write_spaced [.tmp 2] A50 _ _ Q rfl rfl (kr (by kernel_rfl) h)
noncomputable def ac_write_around:AC:=(Bf [(2,[0,1,10,11],[]),(4,[],[]),(10,[],[])] [4] (codeOf Tryz.f83) 0).1
abbrev Gq:Nat:=27
def U0(t0:Int)(t1r:LL)(t10_0:Int)(t10_1 t10_2:LB)(t10_3:Int)(t10_4 t10_5:LB)(t10_6:Int)(t10_7 t10_8:LB)(t11:Int)(K:KK):Prop:=Bi 2 E0.P Gq (Au 2 ac_write_around).code ⟨[(0,Ai t0),(1,Al 1 t1r),(10, .imm (.agg [.int .i64 t10_0, .str t10_1, .str t10_2, .int .i64 t10_3, .str t10_4, .str t10_5, .int .i64 t10_6, .str t10_7, .str t10_8])),(11,Ai t11)],[]⟩ K
def Ajg(K:KK):Prop:=Aq 10 E0.P Gq (Ac 10 ac_write_around).code ⟨[],[]⟩ K
def Abx(Q:QQ):KK:=kE fun st=>finish 0 E0.T [.tmp 4] [] Q st
def Uv(Q:QQ):KK:=kF 0 (fun st=>Aq 10 E0.P Gq (Ac 10 ac_write_around).code (mask [] st) (Abx Q)) fun st=>finish 0 E0.T [.tmp 4] [] Q st
theorem P6(t0:Int)(t1r:LL)(t10_0:Int)(t10_1 t10_2:LB)(t10_3:Int)(t10_4 t10_5:LB)(t10_6:Int)(t10_7 t10_8:LB)(t11:Int)(K:KK)(h:
 (Br (decide (t11<(3:Int)))
 (Ah (((0:Int)≤t11∧t11<(↑(3:Nat):Int))∧
 Bt [.int .i64, .str, .str]
 (List.take 3
 (List.drop (t11.toNat*3)
 [.int .i64 t10_0, .str t10_1, .str t10_2, .int .i64 t10_3, .str t10_4, .str t10_5,
 .int .i64 t10_6, .str t10_7, .str t10_8]))=
 true)
 (Br (decide
 (gI
 (List.take 3
 (List.drop (t11.toNat*3)
 [.int .i64 t10_0, .str t10_1, .str t10_2, .int .i64 t10_3, .str t10_4, .str t10_5,
 .int .i64 t10_6, .str t10_7, .str t10_8]))
 0=
 t0))
 (Call E0.P Xc [Al 1 t1r] [] fun r0 g0=>
 Ah (Uc g0 r0)
 (Ah ((↑((gS
 (List.take (3:Nat)
 (List.drop (t11.toNat*(3:Nat))
 [.int .i64 t10_0, .str t10_1, .str t10_2, .int .i64 t10_3, .str t10_4,
 .str t10_5, .int .i64 t10_6, .str t10_7, .str t10_8]))
 (1:Nat)).length+
 (rS r0).length):
 Int)≤
 (9223372036854775807:Int))
 (Ah ((↑((gS
 (List.take (3:Nat)
 (List.drop (t11.toNat*(3:Nat))
 [.int .i64 t10_0, .str t10_1, .str t10_2, .int .i64 t10_3, .str t10_4,
 .str t10_5, .int .i64 t10_6, .str t10_7, .str t10_8]))
 (1:Nat)++
 rS r0).length+
 (gS
 (List.take (3:Nat)
 (List.drop (t11.toNat*(3:Nat))
 [.int .i64 t10_0, .str t10_1, .str t10_2, .int .i64 t10_3, .str t10_4,
 .str t10_5, .int .i64 t10_6, .str t10_7, .str t10_8]))
 (2:Nat)).length):
 Int)≤
 (9223372036854775807:Int))
 (K .ret ⟨[(4, .imm (.str (gS
 (List.take 3
 (List.drop (t11.toNat*3)
 [.int .i64 t10_0, .str t10_1, .str t10_2, .int .i64 t10_3, .str t10_4, .str t10_5,
 .int .i64 t10_6, .str t10_7, .str t10_8]))
 1++
 rS r0++
 gS
 (List.take 3
 (List.drop (t11.toNat*3)
 [.int .i64 t10_0, .str t10_1, .str t10_2, .int .i64 t10_3, .str t10_4, .str t10_5,
 .int .i64 t10_6, .str t10_7, .str t10_8]))
 2)))],[]⟩))))
 (U0 t0 t1r t10_0 t10_1 t10_2 t10_3 t10_4 t10_5 t10_6 t10_7 t10_8 (IntKind.i64.wrap (t11+(1:Int))) K)))
 (K (.exit 0) ⟨[],[]⟩))):U0 t0 t1r t10_0 t10_1 t10_2 t10_3 t10_4 t10_5 t10_6 t10_7 t10_8 t11 K:=Bg (Ar E0 Gq) (Az Gq) 3 2 (Au 2 ac_write_around) [0,1,10,11] _ K rfl (kr (by kernel_rfl) h)
theorem Ary(K:KK)(h:
 (K .ret ⟨[(4, .imm (.str [110,117,108,108]))],[]⟩)):Ajg K:=Av (Ar E0 Gq) (Az Gq) 3 10 (Ac 10 ac_write_around) [] _ K rfl (kr (by kernel_rfl) h)
theorem Au2(Q:QQ)(t4:LB)(h:
 (Q (As t4) [])):Abx Q .ret ⟨[(4,As t4)],[]⟩:=kr (by kernel_rfl) h
theorem V9(Q:QQ)(t4:LB)(h:
 (Q (As t4) [])):Uv Q .ret ⟨[(4,As t4)],[]⟩:=kr (by kernel_rfl) h
theorem Au3(Q:QQ)(h:
 (Ajg (Abx Q))):Uv Q (.exit 0) ⟨[],[]⟩:=kr (by kernel_rfl) h
theorem A5z:Bo E0.P 83 ac_write_around.code Gq [.tmp 4]:=Bh _ _ Tryz.f83 [(2,[0,1,10,11],[]),(4,[],[]),(10,[],[])] [4] _ 27 Tryz.func83 (by kernel_rfl) (by kernel_rfl) (by kernel_rfl) (by kernel_rfl)
theorem Azm(a0:Int)(a1:LL)(Q:QQ)(h:
 (U0 a0 a1 ((5:Int)) [(91:UInt8)] [(93:UInt8)] ((6:Int)) [(60:UInt8),60] [(62:UInt8),62] ((7:Int)) [] [(32:UInt8),82] ((0:Int)) (Uv Q))):Call E0.P Aed [Ai a0,Al 1 a1] [] Q:=A8 (Ar E0 Gq) (Az Gq) 3 0 83 ac_write_around [.tmp 4] A5z _ _ Q rfl rfl (kr (by kernel_rfl) h)
noncomputable def ac_value_own:AC:=(Bf [(4,[2,3,7,27],[]),(14,[],[])] [6] (codeOf Tryz.f45) 0).1
abbrev Ji:Nat:=86
def K7(t2:Int)(t27:Bool)(u0 u1 u2:Int)(u3:LB)(u4 u5:LL)(u6 u7:Bool)(u8 u9 v0:Bool)(K:KK):Prop:=Aq 4 E0.P Ji (Ac 4 ac_value_own).code ⟨[(2,Ai t2),(3, .ptr nL3 0),(7, .ptr nL7 0),(27,Ab t27)],[(nL3, .blk Aa [Ai u0,Ai u1,Ai u2,As u3,Al 6 u4,Al 7 u5]),(nL7, .blk Bw [Ab u6,Ab u7,Ab u8,Ab u9,Ab v0])]⟩ K
def Aqb(K:KK):Prop:=Aq 14 E0.P Ji (Ac 14 ac_value_own).code ⟨[],[]⟩ K
def Ait(Q:QQ):KK:=kE fun st=>finish 0 E0.T [.tmp 6] [] Q st
def Ip(Q:QQ):KK:=kF 0 (fun st=>Aq 14 E0.P Ji (Ac 14 ac_value_own).code (mask [] st) (Ait Q)) fun st=>finish 0 E0.T [.tmp 6] [] Q st
theorem A00(t2:Int)(t27:Bool)(u0 u1 u2:Int)(u3:LB)(u4 u5:LL)(u6 u7:Bool)(u8 u9 v0:Bool)(K:KK)(h:
 (Br (t27)
 (K .ret ⟨[(6,Ai 4)],[]⟩)
 (Call E0.P Aeb [.imm (.agg [.int .i64 u0, .int .i64 u1, .int .i64 u2, .str u3, .sl .any 6 u4, .sl .any 7 u5])] [] fun r0 g0=>
 Ah (qW3 g0 r0)
 (Br (rB r0)
 (K .ret ⟨[(6,Ai 3)],[]⟩)
 (Let (bif decide (u0=(3:Int))then decide ((127:Int)<(↑u3.length:Int))else false) fun x1=>
 Br (x1 == false)
 (Let (bif decide (u0=(4:Int))then decide ((65535:Int)<(↑u3.length:Int))else false) fun x2=>
 Let (x2) fun x3=>
 Br (x3)
 (K .ret ⟨[(6,Ai 8)],[]⟩)
 (Let (bif decide (u0=(8:Int))then decide ((1048576:Int)<(↑u3.length:Int))else false) fun x4=>
 Br (x4)
 (K .ret ⟨[(6,Ai 7)],[]⟩)
 (Let (bif u9 then true else v0) fun x5=>
 Let (bif x5 then decide ((64:Int)≤t2)else false) fun x6=>
 Br (x6)
 (K .ret ⟨[(6,Ai 9)],[]⟩)
 (K .normal ⟨[],[]⟩))))
 (Ah ((!false)=true)
 (Let (true) fun x7=>
 Br (x7)
 (K .ret ⟨[(6,Ai 8)],[]⟩)
 (Let (bif decide (u0=(8:Int))then decide ((1048576:Int)<(↑u3.length:Int))else false) fun x8=>
 Br (x8)
 (K .ret ⟨[(6,Ai 7)],[]⟩)
 (Let (bif u9 then true else v0) fun x9=>
 Let (bif x9 then decide ((64:Int)≤t2)else false) fun x10=>
 Br (x10)
 (K .ret ⟨[(6,Ai 9)],[]⟩)
 (K .normal ⟨[],[]⟩)))))))))):K7 t2 t27 u0 u1 u2 u3 u4 u5 u6 u7 u8 u9 v0 K:=Av (Ar E0 Ji) (Az Ji) 3 4 (Ac 4 ac_value_own) [] _ K rfl (kr (by kernel_rfl) h)
theorem Aze(K:KK)(h:
 (K .ret ⟨[(6,Ai 0)],[]⟩)):Aqb K:=Av (Ar E0 Ji) (Az Ji) 3 14 (Ac 14 ac_value_own) [] _ K rfl (kr (by kernel_rfl) h)
theorem A2k(Q:QQ)(t6:Int)(h:
 (Q (Ai t6) [])):Ait Q .ret ⟨[(6,Ai t6)],[]⟩:=kr (by kernel_rfl) h
theorem A2l(Q:QQ)(t6:Int)(h:
 (Q (Ai t6) [])):Ip Q .ret ⟨[(6,Ai t6)],[]⟩:=kr (by kernel_rfl) h
theorem A2m(Q:QQ)(h:
 (Aqb (Ait Q))):Ip Q .normal ⟨[],[]⟩:=kr (by kernel_rfl) h
theorem Ben:Bo E0.P 45 ac_value_own.code Ji [.tmp 6]:=Bh _ _ Tryz.f45 [(4,[2,3,7,27],[]),(14,[],[])] [6] _ 86 Tryz.func45 (by kernel_rfl) (by kernel_rfl) (by kernel_rfl) (by kernel_rfl)
theorem A60(a0_0 a0_1 a0_2:Int)(a0_3:LB)(a0_4 a0_5:LL)(a1:Bool)(a2:Int)(Q:QQ)(h:
 (Call E0.P Aec [Ai a0_0] [] fun r0 g0=>
 Ah (g0=[]∧
 r0=
 .tup
 [.imm
 (IV.agg
 [.bool (gB (Ae (rT r0 0)) 0), .bool (gB (Ae (rT r0 0)) 1),
 .bool (gB (Ae (rT r0 0)) 2), .bool (gB (Ae (rT r0 0)) 3),
 .bool (gB (Ae (rT r0 0)) 4)]),
 .imm (.bool (rB (rT r0 1)))])
 (Br ((!rB (rT r0 1)) == false)
 (Let (bif decide (a0_0=(8:Int))then !a1 else false) fun x1=>
 Let (x1) fun x2=>
 Br (x2)
 (Q (Ai 10) [])
 (Call E0.P Vg [.imm (.agg [.int .i64 a0_0, .int .i64 a0_1, .int .i64 a0_2, .str a0_3, .sl .any 6 a0_4, .sl .any 7 a0_5]), .imm (.agg [.bool (gB (Ae (rT r0 0)) 0), .bool (gB (Ae (rT r0 0)) 1), .bool (gB (Ae (rT r0 0)) 2), .bool (gB (Ae (rT r0 0)) 3), .bool (gB (Ae (rT r0 0)) 4)])] [] fun r3 g3=>
 Ah (qW3 g3 r3)
 (Br (rB r3 == false)
 (Br (decide (a0_0=(3:Int)) == true)
 (Call E0.P X4 [As a0_3] [] fun r4 g4=>
 Ah (qW3 g4 r4)
 (Let (rB r4) fun x5=>
 Let (x5) fun x6=>
 K7 a2 x6 a0_0 a0_1 a0_2 a0_3 a0_4 a0_5 (gB (Ae (rT r0 0)) 0) (gB (Ae (rT r0 0)) 1) (gB (Ae (rT r0 0)) 2) (gB (Ae (rT r0 0)) 3) (gB (Ae (rT r0 0)) 4) (Ip Q)))
 (Ah ((!true)=false)
 (Let (false) fun x7=>
 Let (x7) fun x8=>
 K7 a2 x8 a0_0 a0_1 a0_2 a0_3 a0_4 a0_5 (gB (Ae (rT r0 0)) 0) (gB (Ae (rT r0 0)) 1) (gB (Ae (rT r0 0)) 2) (gB (Ae (rT r0 0)) 3) (gB (Ae (rT r0 0)) 4) (Ip Q))))
 (Ah ((!false)=true)
 (Let (true) fun x9=>
 K7 a2 x9 a0_0 a0_1 a0_2 a0_3 a0_4 a0_5 (gB (Ae (rT r0 0)) 0) (gB (Ae (rT r0 0)) 1) (gB (Ae (rT r0 0)) 2) (gB (Ae (rT r0 0)) 3) (gB (Ae (rT r0 0)) 4) (Ip Q))))))
 (Ah ((!false)=true)
 (Let (true) fun x10=>
 Br (x10)
 (Q (Ai 10) [])
 (Call E0.P Vg [.imm (.agg [.int .i64 a0_0, .int .i64 a0_1, .int .i64 a0_2, .str a0_3, .sl .any 6 a0_4, .sl .any 7 a0_5]), .imm (.agg [.bool (gB (Ae (rT r0 0)) 0), .bool (gB (Ae (rT r0 0)) 1), .bool (gB (Ae (rT r0 0)) 2), .bool (gB (Ae (rT r0 0)) 3), .bool (gB (Ae (rT r0 0)) 4)])] [] fun r11 g11=>
 Ah (qW3 g11 r11)
 (Br (rB r11 == false)
 (Br (decide (a0_0=(3:Int)) == true)
 (Call E0.P X4 [As a0_3] [] fun r12 g12=>
 Ah (qW3 g12 r12)
 (Let (rB r12) fun x13=>
 Let (x13) fun x14=>
 K7 a2 x14 a0_0 a0_1 a0_2 a0_3 a0_4 a0_5 (gB (Ae (rT r0 0)) 0) (gB (Ae (rT r0 0)) 1) (gB (Ae (rT r0 0)) 2) (gB (Ae (rT r0 0)) 3) (gB (Ae (rT r0 0)) 4) (Ip Q)))
 (Ah ((!true)=false)
 (Let (false) fun x15=>
 Let (x15) fun x16=>
 K7 a2 x16 a0_0 a0_1 a0_2 a0_3 a0_4 a0_5 (gB (Ae (rT r0 0)) 0) (gB (Ae (rT r0 0)) 1) (gB (Ae (rT r0 0)) 2) (gB (Ae (rT r0 0)) 3) (gB (Ae (rT r0 0)) 4) (Ip Q))))
 (Ah ((!false)=true)
 (Let (true) fun x17=>
 K7 a2 x17 a0_0 a0_1 a0_2 a0_3 a0_4 a0_5 (gB (Ae (rT r0 0)) 0) (gB (Ae (rT r0 0)) 1) (gB (Ae (rT r0 0)) 2) (gB (Ae (rT r0 0)) 3) (gB (Ae (rT r0 0)) 4) (Ip Q)))))))))):Call E0.P Amv [.imm (.agg [.int .i64 a0_0, .int .i64 a0_1, .int .i64 a0_2, .str a0_3, .sl .any 6 a0_4, .sl .any 7 a0_5]),Ab a1,Ai a2] [] Q:=A8 (Ar E0 Ji) (Az Ji) 3 0 45 ac_value_own [.tmp 6] Ben _ _ Q rfl rfl (kr (by kernel_rfl) h)
noncomputable def ac_value_nul:AC:=(Bf [] [2] (codeOf Tryz.f46) 0).1
abbrev Am4:Nat:=6
theorem Bem:Bo E0.P 46 ac_value_nul.code Am4 [.tmp 2]:=Bh _ _ Tryz.f46 [] [2] _ 6 Tryz.func46 (by kernel_rfl) (by kernel_rfl) (by kernel_rfl) (by kernel_rfl)
theorem A6z(a0:LB)(Q:QQ)(h:
 (Call E0.P Aea [As a0, .imm (.int .u8 ((0:Int)))] [] fun r0 g0=>
 Ah (qW0 g0 r0)
 (Q (Ab (decide ((0:Int)≤rI r0))) []))):Call E0.P X4 [As a0] [] Q:=A8 (Ar E0 Am4) (Az Am4) 3 0 46 ac_value_nul [.tmp 2] Bem _ _ Q rfl rfl (kr (by kernel_rfl) h)
noncomputable def ac_value_foreign:AC:=(Bf [] [4] (codeOf Tryz.f74) 0).1
abbrev Acc:Nat:=55
theorem A3a:Bo E0.P 74 ac_value_foreign.code Acc [.tmp 4]:=Bh _ _ Tryz.f74 [] [4] _ 55 Tryz.func74 (by kernel_rfl) (by kernel_rfl) (by kernel_rfl) (by kernel_rfl)
theorem Avw(a0_0 a0_1 a0_2:Int)(a0_3:LB)(a0_4 a0_5:LL)(a1_0 a1_1:Bool)(a1_2 a1_3 a1_4:Bool)(Q:QQ)(h:
 (Let (bif !a1_0 then !decide (a0_1=(0:Int))else false) fun x0=>
 Br (x0 == false)
 (Let (bif !a1_1 then !decide (a0_2=(0:Int))else false) fun x1=>
 Let (x1) fun x2=>
 Br (x2 == false)
 (Let (bif !a1_2 then !a0_3 == []else false) fun x3=>
 Let (x3) fun x4=>
 Br (x4 == false)
 (Let (bif !a1_3 then decide ((0:Int)<(↑a0_4.length:Int))else false) fun x5=>
 Let (x5) fun x6=>
 Br (x6 == false)
 (Let (bif !a1_4 then decide ((0:Int)<(↑a0_5.length:Int))else false) fun x7=>
 Let (x7) fun x8=>
 Q (Ab x8) [])
 (Ah ((!false)=true)
 (Let (true) fun x9=>
 Q (Ab x9) [])))
 (Ah ((!false)=true)
 (Let (true) fun x10=>
 Br (x10 == false)
 (Let (bif !a1_4 then decide ((0:Int)<(↑a0_5.length:Int))else false) fun x11=>
 Let (x11) fun x12=>
 Q (Ab x12) [])
 (Ah ((!false)=true)
 (Let (true) fun x13=>
 Q (Ab x13) [])))))
 (Ah ((!false)=true)
 (Let (true) fun x14=>
 Br (x14 == false)
 (Let (bif !a1_3 then decide ((0:Int)<(↑a0_4.length:Int))else false) fun x15=>
 Let (x15) fun x16=>
 Br (x16 == false)
 (Let (bif !a1_4 then decide ((0:Int)<(↑a0_5.length:Int))else false) fun x17=>
 Let (x17) fun x18=>
 Q (Ab x18) [])
 (Ah ((!false)=true)
 (Let (true) fun x19=>
 Q (Ab x19) [])))
 (Ah ((!false)=true)
 (Let (true) fun x20=>
 Br (x20 == false)
 (Let (bif !a1_4 then decide ((0:Int)<(↑a0_5.length:Int))else false) fun x21=>
 Let (x21) fun x22=>
 Q (Ab x22) [])
 (Ah ((!false)=true)
 (Let (true) fun x23=>
 Q (Ab x23) [])))))))
 (Ah ((!false)=true)
 (Let (true) fun x24=>
 Br (x24 == false)
 (Let (bif !a1_2 then !a0_3 == []else false) fun x25=>
 Let (x25) fun x26=>
 Br (x26 == false)
 (Let (bif !a1_3 then decide ((0:Int)<(↑a0_4.length:Int))else false) fun x27=>
 Let (x27) fun x28=>
 Br (x28 == false)
 (Let (bif !a1_4 then decide ((0:Int)<(↑a0_5.length:Int))else false) fun x29=>
 Let (x29) fun x30=>
 Q (Ab x30) [])
 (Ah ((!false)=true)
 (Let (true) fun x31=>
 Q (Ab x31) [])))
 (Ah ((!false)=true)
 (Let (true) fun x32=>
 Br (x32 == false)
 (Let (bif !a1_4 then decide ((0:Int)<(↑a0_5.length:Int))else false) fun x33=>
 Let (x33) fun x34=>
 Q (Ab x34) [])
 (Ah ((!false)=true)
 (Let (true) fun x35=>
 Q (Ab x35) [])))))
 (Ah ((!false)=true)
 (Let (true) fun x36=>
 Br (x36 == false)
 (Let (bif !a1_3 then decide ((0:Int)<(↑a0_4.length:Int))else false) fun x37=>
 Let (x37) fun x38=>
 Br (x38 == false)
 (Let (bif !a1_4 then decide ((0:Int)<(↑a0_5.length:Int))else false) fun x39=>
 Let (x39) fun x40=>
 Q (Ab x40) [])
 (Ah ((!false)=true)
 (Let (true) fun x41=>
 Q (Ab x41) [])))
 (Ah ((!false)=true)
 (Let (true) fun x42=>
 Br (x42 == false)
 (Let (bif !a1_4 then decide ((0:Int)<(↑a0_5.length:Int))else false) fun x43=>
 Let (x43) fun x44=>
 Q (Ab x44) [])
 (Ah ((!false)=true)
 (Let (true) fun x45=>
 Q (Ab x45) [])))))))))):Call E0.P Vg [.imm (.agg [.int .i64 a0_0, .int .i64 a0_1, .int .i64 a0_2, .str a0_3, .sl .any 6 a0_4, .sl .any 7 a0_5]), .imm (.agg [.bool a1_0, .bool a1_1, .bool a1_2, .bool a1_3, .bool a1_4])] [] Q:=A8 (Ar E0 Acc) (Az Acc) 3 0 74 ac_value_foreign [.tmp 4] A3a _ _ Q rfl rfl (kr (by kernel_rfl) h)
noncomputable def ac_value_beyond:AC:=(Bf [] [2] (codeOf Tryz.f75) 0).1
abbrev Aek:Nat:=41
theorem A5y:Bo E0.P 75 ac_value_beyond.code Aek [.tmp 2]:=Bh _ _ Tryz.f75 [] [2] _ 41 Tryz.func75 (by kernel_rfl) (by kernel_rfl) (by kernel_rfl) (by kernel_rfl)
theorem Azl(a0_0 a0_1 a0_2:Int)(a0_3:LB)(a0_4 a0_5:LL)(Q:QQ)(h:
 (Br (decide (a0_0=(1:Int)))
 (Ah ((0:Int)≤(1:Int))
 (Q (.imm (.bool (!decide (a0_1.fdiv ((2:Int) ^ 1)=(0:Int))))) []))
 (Br (decide (a0_0=(2:Int)))
 (Let (bif decide (a0_1<(-2147483647:Int))then true else decide ((2147483647:Int)<a0_1)) fun x0=>
 Q (Ab x0) [])
 (Br (decide (a0_0=(7:Int)))
 (Let (bif decide (a0_1<(1:Int))then true else decide ((8388607:Int)<a0_1)) fun x1=>
 Let (bif x1 then true else decide (a0_2<(0:Int))) fun x2=>
 Let (bif x2 then true else decide ((65535:Int)<a0_2)) fun x3=>
 Q (Ab x3) [])
 (Q (Ab false) []))))):Call E0.P Aeb [.imm (.agg [.int .i64 a0_0, .int .i64 a0_1, .int .i64 a0_2, .str a0_3, .sl .any 6 a0_4, .sl .any 7 a0_5])] [] Q:=A8 (Ar E0 Aek) (Az Aek) 3 0 75 ac_value_beyond [.tmp 2] A5y _ _ Q rfl rfl (kr (by kernel_rfl) h)
noncomputable def ac_digits_Put:AC:=(Bf [] [2] (codeOf Tryz.f37) 0).1
abbrev Ai0:Nat:=5
theorem Bay:Bo E0.P 37 ac_digits_Put.code Ai0 [.tmp 2]:=Bh _ _ Tryz.f37 [] [2] _ 5 Tryz.func37 (by kernel_rfl) (by kernel_rfl) (by kernel_rfl) (by kernel_rfl)
theorem A34(a0:Int)(Q:QQ)(h:
 (Call E0.P Aob [Ai a0] [] fun r0 g0=>
 Ah (Uc g0 r0)
 (Q (As (rS r0)) []))):Call E0.P Qo [Ai a0] [] Q:=A8 (Ar E0 Ai0) (Az Ai0) 3 0 37 ac_digits_Put [.tmp 2] Bay _ _ Q rfl rfl (kr (by kernel_rfl) h)
noncomputable def ac_r17_Text:AC:=(Bf [] [2,3] (codeOf Tryz.f21) 0).1
abbrev Aph:Nat:=13
theorem Bf6:Bo E0.P 21 ac_r17_Text.code Aph [.tmp 2, .tmp 3]:=Bh _ _ Tryz.f21 [] [2,3] _ 13 Tryz.func21 (by kernel_rfl) (by kernel_rfl) (by kernel_rfl) (by kernel_rfl)
theorem Bao(a0_0 a0_1 a0_2:Int)(a0_3:LB)(a0_4 a0_5:LL)(Q:QQ)(h:
 (Call E0.P Amt [.imm (.agg [.int .i64 a0_0, .int .i64 a0_1, .int .i64 a0_2, .str a0_3, .sl .any 6 a0_4, .sl .any 7 a0_5]),Ab false] [] fun r0 g0=>
 Ah (qW0 g0 r0)
 (Br (!decide (rI r0=(0:Int)))
 (Q (.tup [.imm (.str []),Ai (rI r0)]) [])
 (Call E0.P Tf [.imm (.agg [.int .i64 a0_0, .int .i64 a0_1, .int .i64 a0_2, .str a0_3, .sl .any 6 a0_4, .sl .any 7 a0_5])] [] fun r1 g1=>
 Ah (qW1 g1 r1)
 (Call E0.P X3 [.imm (.agg [.int .i64 (gI (Ae r1) 0), .int .i64 (gI (Ae r1) 1), .int .i64 (gI (Ae r1) 2), .str (gS (Ae r1) 3), .sl .any 6 (gR (Ae r1) 4), .sl .any 7 (gR (Ae r1) 5)])] [] fun r2 g2=>
 Ah (Uc g2 r2)
 (Q (.tup [As (rS r2),Ai 0]) [])))))):Call E0.P Apb [.imm (.agg [.int .i64 a0_0, .int .i64 a0_1, .int .i64 a0_2, .str a0_3, .sl .any 6 a0_4, .sl .any 7 a0_5])] [] Q:=A8 (Ar E0 Aph) (Az Aph) 3 0 21 ac_r17_Text [.tmp 2, .tmp 3] Bf6 _ _ Q rfl rfl (kr (by kernel_rfl) h)
noncomputable def ac_r17_Name:AC:=(Bf [(3,[0,3,4],[]),(5,[3],[]),(8,[0,3,4,30],[0,3,4]),(10,[0,3,4],[0,3,4]),(11,[3],[])] [2] (codeOf Tryz.f58) 0).1
abbrev Ej:Nat:=50
def Pi(t0 t3:LB)(t4:Int)(K:KK):Prop:=Bi 3 E0.P Ej (Au 3 ac_r17_Name).code ⟨[(0,As t0),(3,As t3),(4,Ai t4)],[]⟩ K
def Acz(t0 t3:LB)(t4:Int)(t30:Bool)(K:KK):Prop:=Aq 8 E0.P Ej (Ac 8 ac_r17_Name).code ⟨[(0,As t0),(3,As t3),(4,Ai t4),(30,Ab t30)],[]⟩ K
def Atw(t3:LB)(K:KK):Prop:=Aq 11 E0.P Ej (Ac 11 ac_r17_Name).code ⟨[(3,As t3)],[]⟩ K
def Atv(t0 t3:LB)(t4:Int)(K:KK):Prop:=Aq 10 E0.P Ej (Ac 10 ac_r17_Name).code ⟨[(0,As t0),(3,As t3),(4,Ai t4)],[]⟩ K
def Al1(Q:QQ):KK:=kE fun st=>finish 0 E0.T [.tmp 2] [] Q st
def Av5(Q:QQ):KK:=kF 0 (fun st=>Aq 11 E0.P Ej (Ac 11 ac_r17_Name).code (mask [3] st) (Al1 Q)) fun st=>finish 0 E0.T [.tmp 2] [] Q st
def Al2(K:KK):Ex→St→Prop
 | .normal,st=>Bi 3 E0.P Ej (Au 3 ac_r17_Name).code (mask [0,3,4] st) K
 | .exit i,st=>K (.exit i) st
 | .goto i,st=>K (.goto i) st
 | .ret,st=>K .ret st
def Xm(K:KK):KK:=kC 1 (fun st=>Aq 10 E0.P Ej (Ac 10 ac_r17_Name).code (mask [0,3,4] st) (Al2 K)) K
theorem An6(t0 t3:LB)(t4:Int)(K:KK)(h:
 (Br (decide (t4<(↑t0.length:Int)))
 (Ah ((0:Int)≤t4∧t4<(↑t0.length:Int))
 (Let (bif decide ((33:Int)≤(↑(t0.getD t4.toNat 0).toNat:Int))then
 decide ((↑(t0.getD t4.toNat 0).toNat:Int)≤(126:Int))
 else false) fun x0=>
 Br (x0 == true)
 (Call E0.P Apa [.imm (.int .u8 ((↑(t0.getD t4.toNat 0).toNat:Int)))] [] fun r1 g1=>
 Ah (qW0 g1 r1)
 (Let (decide (rI r1=(2:Int))) fun x2=>
 Let (bif x2 then !decide ((↑(t0.getD t4.toNat 0).toNat:Int)=(35:Int))else false) fun x3=>
 Acz t0 t3 t4 x3 (Xm K)))
 (Ah ((!true)=false)
 (Let (false) fun x4=>
 Let (bif x4 then !decide ((↑(t0.getD t4.toNat 0).toNat:Int)=(35:Int))else false) fun x5=>
 Acz t0 t3 t4 x5 (Xm K)))))
 (K (.exit 0) ⟨[(3,As t3)],[]⟩))):Pi t0 t3 t4 K:=Bg (Ar E0 Ej) (Az Ej) 3 3 (Au 3 ac_r17_Name) [0,3,4] _ K rfl (kr (by kernel_rfl) h)
theorem A33(t0 t3:LB)(t4:Int)(t30:Bool)(K:KK)(h:
 (Br (t30)
 (Ah ((0:Int)≤t4∧t4≤IntKind.i64.wrap (t4+(1:Int))∧IntKind.i64.wrap (t4+(1:Int))≤(↑t0.length:Int))
 (Let (List.drop t4.toNat (List.take (IntKind.i64.wrap (t4+(1:Int))).toNat t0)) fun x0=>
 Ah ((↑(t3.length+x0.length):Int)≤(9223372036854775807:Int))
 (K .normal ⟨[(0,As t0),(3,As (t3++x0)),(4,Ai t4)],[]⟩)))
 (Ah ((0:Int)≤t4∧t4≤IntKind.i64.wrap (t4+(1:Int))∧IntKind.i64.wrap (t4+(1:Int))≤(↑t0.length:Int))
 (Let (List.drop t4.toNat (List.take (IntKind.i64.wrap (t4+(1:Int))).toNat t0)) fun x1=>
 Call E0.P Aa4 [As x1] [] fun r2 g2=>
 Ah (Uc g2 r2)
 (Ah ((↑(t3.length+(1:Nat)):Int)≤(9223372036854775807:Int))
 (Ah ((0:Int)≤(2:Int)∧(2:Int)≤(↑(rS r2).length:Int))
 (Let (List.take 2 (rS r2)) fun x3=>
 Ah ((↑((t3++[(35:UInt8)]).length+x3.length):Int)≤(9223372036854775807:Int))
 (K .normal ⟨[(0,As t0),(3,As (t3++[(35:UInt8)]++x3)),(4,Ai t4)],[]⟩)))))))):Acz t0 t3 t4 t30 K:=Av (Ar E0 Ej) (Az Ej) 3 8 (Ac 8 ac_r17_Name) [0,3,4] _ K rfl (kr (by kernel_rfl) h)
theorem A0s(t3:LB)(K:KK)(h:
 (K .ret ⟨[(2,As t3)],[]⟩)):Atw t3 K:=Av (Ar E0 Ej) (Az Ej) 3 11 (Ac 11 ac_r17_Name) [] _ K rfl (kr (by kernel_rfl) h)
theorem A0r(t0 t3:LB)(t4:Int)(K:KK)(h:
 (K .normal ⟨[(0,As t0),(3,As t3),(4,Ai (IntKind.i64.wrap (t4+(1:Int))))],[]⟩)):Atv t0 t3 t4 K:=Av (Ar E0 Ej) (Az Ej) 3 10 (Ac 10 ac_r17_Name) [0,3,4] _ K rfl (kr (by kernel_rfl) h)
theorem A4o(Q:QQ)(t2:LB)(h:
 (Q (As t2) [])):Al1 Q .ret ⟨[(2,As t2)],[]⟩:=kr (by kernel_rfl) h
theorem A4p(Q:QQ)(t3:LB)(h:
 (Atw t3 (Al1 Q))):Av5 Q (.exit 0) ⟨[(3,As t3)],[]⟩:=kr (by kernel_rfl) h
theorem A4q(K:KK)(t0 t3:LB)(t4:Int)(h:
 (Pi t0 t3 t4 K)):Al2 K .normal ⟨[(0,As t0),(3,As t3),(4,Ai t4)],[]⟩:=kr (by kernel_rfl) h
theorem A4r(K:KK)(t0 t3:LB)(t4:Int)(h:
 (Atv t0 t3 t4 (Al2 K))):Xm K .normal ⟨[(0,As t0),(3,As t3),(4,Ai t4)],[]⟩:=kr (by kernel_rfl) h
theorem Bf5:Bo E0.P 58 ac_r17_Name.code Ej [.tmp 2]:=Bh _ _ Tryz.f58 [(3,[0,3,4],[]),(5,[3],[]),(8,[0,3,4,30],[0,3,4]),(10,[0,3,4],[0,3,4]),(11,[3],[])] [2] _ 50 Tryz.func58 (by kernel_rfl) (by kernel_rfl) (by kernel_rfl) (by kernel_rfl)
theorem Ban(a0:LB)(Q:QQ)(h:
 (Pi a0 [(47:UInt8)] ((0:Int)) (Av5 Q))):Call E0.P Ags [As a0] [] Q:=A8 (Ar E0 Ej) (Az Ej) 3 0 58 ac_r17_Name [.tmp 2] Bf5 _ _ Q rfl rfl (kr (by kernel_rfl) h)
noncomputable def ac_r17_Bytes:AC:=(Bf [(3,[0,3,4],[]),(5,[3],[]),(11,[0,3,4],[0,3,4]),(12,[0,3,4],[0,3,4]),(13,[3],[])] [2] (codeOf Tryz.f59) 0).1
abbrev Dy:Nat:=51
def Qn(t0 t3:LB)(t4:Int)(K:KK):Prop:=Bi 3 E0.P Dy (Au 3 ac_r17_Bytes).code ⟨[(0,As t0),(3,As t3),(4,Ai t4)],[]⟩ K
def Yc(t0 t3:LB)(t4:Int)(K:KK):Prop:=Aq 11 E0.P Dy (Ac 11 ac_r17_Bytes).code ⟨[(0,As t0),(3,As t3),(4,Ai t4)],[]⟩ K
def Ap4(t3:LB)(K:KK):Prop:=Aq 13 E0.P Dy (Ac 13 ac_r17_Bytes).code ⟨[(3,As t3)],[]⟩ K
def Ap3(t0 t3:LB)(t4:Int)(K:KK):Prop:=Aq 12 E0.P Dy (Ac 12 ac_r17_Bytes).code ⟨[(0,As t0),(3,As t3),(4,Ai t4)],[]⟩ K
def Aij(Q:QQ):KK:=kE fun st=>finish 0 E0.T [.tmp 2] [] Q st
def Nt(Q:QQ):KK:=kF 0 (fun st=>Aq 13 E0.P Dy (Ac 13 ac_r17_Bytes).code (mask [3] st) (Aij Q)) fun st=>finish 0 E0.T [.tmp 2] [] Q st
def Aik(K:KK):Ex→St→Prop
 | .normal,st=>Bi 3 E0.P Dy (Au 3 ac_r17_Bytes).code (mask [0,3,4] st) K
 | .exit i,st=>K (.exit i) st
 | .goto i,st=>K (.goto i) st
 | .ret,st=>K .ret st
def Aaw(K:KK):KK:=kC 1 (fun st=>Aq 12 E0.P Dy (Ac 12 ac_r17_Bytes).code (mask [0,3,4] st) (Aik K)) K
theorem Amk(t0 t3:LB)(t4:Int)(K:KK)(h:
 (Br (decide (t4<(↑t0.length:Int)))
 (Ah ((0:Int)≤t4∧t4<(↑t0.length:Int))
 (Ah (decide ((↑(t0.getD t4.toNat 0).toNat:Int)<(32:Int))=false→(0:Int)≤t4∧t4<(↑t0.length:Int))
 (Let (bif decide ((↑(t0.getD t4.toNat 0).toNat:Int)<(32:Int))then true
 else decide ((126:Int)<(↑(t0.getD t4.toNat 0).toNat:Int))) fun x0=>
 Br (x0)
 (Call E0.P Aa4 [As t0] [] fun r1 g1=>
 Ah (Uc g1 r1)
 (Ah ((↑((1:Nat)+(rS r1).length):Int)≤(9223372036854775807:Int))
 (K .ret ⟨[(2,As ([(60:UInt8)]++rS r1))],[]⟩)))
 (Ah ((0:Int)≤t4∧t4<(↑t0.length:Int))
 (Ah (decide ((↑(t0.getD t4.toNat 0).toNat:Int)=(40:Int))=false→(0:Int)≤t4∧t4<(↑t0.length:Int))
 (Let (bif decide ((↑(t0.getD t4.toNat 0).toNat:Int)=(40:Int))then true
 else decide ((↑(t0.getD t4.toNat 0).toNat:Int)=(41:Int))) fun x2=>
 Ah (x2=false→(0:Int)≤t4∧t4<(↑t0.length:Int))
 (Let (bif x2 then true else decide ((↑(t0.getD t4.toNat 0).toNat:Int)=(92:Int))) fun x3=>
 Br (x3)
 (Ah ((↑(t3.length+(1:Nat)):Int)≤(9223372036854775807:Int))
 (Yc t0 (t3++[(92:UInt8)]) t4 (Aaw K)))
 (Yc t0 t3 t4 (Aaw K)))))))))
 (K (.exit 0) ⟨[(3,As t3)],[]⟩))):Qn t0 t3 t4 K:=Bg (Ar E0 Dy) (Az Dy) 3 3 (Au 3 ac_r17_Bytes) [0,3,4] _ K rfl (kr (by kernel_rfl) h)
theorem Ay2(t0 t3:LB)(t4:Int)(K:KK)(h:
 (Ah ((0:Int)≤t4∧t4≤IntKind.i64.wrap (t4+(1:Int))∧IntKind.i64.wrap (t4+(1:Int))≤(↑t0.length:Int))
 (Let (List.drop t4.toNat (List.take (IntKind.i64.wrap (t4+(1:Int))).toNat t0)) fun x0=>
 Ah ((↑(t3.length+x0.length):Int)≤(9223372036854775807:Int))
 (K .normal ⟨[(0,As t0),(3,As (t3++x0)),(4,Ai t4)],[]⟩)))):Yc t0 t3 t4 K:=Av (Ar E0 Dy) (Az Dy) 3 11 (Ac 11 ac_r17_Bytes) [0,3,4] _ K rfl (kr (by kernel_rfl) h)
theorem Ay4(t3:LB)(K:KK)(h:
 (Ah ((↑(t3.length+(1:Nat)):Int)≤(9223372036854775807:Int))
 (K .ret ⟨[(2,As (t3++[(41:UInt8)]))],[]⟩))):Ap4 t3 K:=Av (Ar E0 Dy) (Az Dy) 3 13 (Ac 13 ac_r17_Bytes) [] _ K rfl (kr (by kernel_rfl) h)
theorem Ay3(t0 t3:LB)(t4:Int)(K:KK)(h:
 (K .normal ⟨[(0,As t0),(3,As t3),(4,Ai (IntKind.i64.wrap (t4+(1:Int))))],[]⟩)):Ap3 t0 t3 t4 K:=Av (Ar E0 Dy) (Az Dy) 3 12 (Ac 12 ac_r17_Bytes) [0,3,4] _ K rfl (kr (by kernel_rfl) h)
theorem A15(Q:QQ)(t2:LB)(h:
 (Q (As t2) [])):Aij Q .ret ⟨[(2,As t2)],[]⟩:=kr (by kernel_rfl) h
theorem A16(Q:QQ)(t2:LB)(h:
 (Q (As t2) [])):Nt Q .ret ⟨[(2,As t2)],[]⟩:=kr (by kernel_rfl) h
theorem A17(Q:QQ)(t3:LB)(h:
 (Ap4 t3 (Aij Q))):Nt Q (.exit 0) ⟨[(3,As t3)],[]⟩:=kr (by kernel_rfl) h
theorem A18(K:KK)(t0 t3:LB)(t4:Int)(h:
 (Qn t0 t3 t4 K)):Aik K .normal ⟨[(0,As t0),(3,As t3),(4,Ai t4)],[]⟩:=kr (by kernel_rfl) h
theorem A19(K:KK)(t0 t3:LB)(t4:Int)(h:
 (Ap3 t0 t3 t4 (Aik K))):Aaw K .normal ⟨[(0,As t0),(3,As t3),(4,Ai t4)],[]⟩:=kr (by kernel_rfl) h
theorem Bei:Bo E0.P 59 ac_r17_Bytes.code Dy [.tmp 2]:=Bh _ _ Tryz.f59 [(3,[0,3,4],[]),(5,[3],[]),(11,[0,3,4],[0,3,4]),(12,[0,3,4],[0,3,4]),(13,[3],[])] [2] _ 51 Tryz.func59 (by kernel_rfl) (by kernel_rfl) (by kernel_rfl) (by kernel_rfl)
theorem A6v(a0:LB)(Q:QQ)(h:
 (Qn a0 [(40:UInt8)] ((0:Int)) (Nt Q))):Call E0.P Amu [As a0] [] Q:=A8 (Ar E0 Dy) (Az Dy) 3 0 59 ac_r17_Bytes [.tmp 2] Bei _ _ Q rfl rfl (kr (by kernel_rfl) h)
noncomputable def ac_r17_plain:AC:=(Bf [(16,[1,3,4],[]),(18,[3],[]),(21,[1,3,4],[1,3,4]),(22,[1,3,4],[1,3,4]),(23,[3],[]),(28,[1,5,6],[]),(30,[5],[]),(33,[1,5,6],[1,5,6]),(34,[1,5,6],[1,5,6]),(35,[5],[]),(39,[],[])] [2] (codeOf Tryz.f39) 0).1
abbrev Bp:Nat:=98
def Y3(t3:LB)(t4 u0:Int)(u1 u2:Int)(u3:LB)(u4 u5:LL)(K:KK):Prop:=Bi 16 E0.P Bp (Au 16 ac_r17_plain).code ⟨[(1, .ptr Dc 0),(3,As t3),(4,Ai t4)],[(Dc, .blk Aa [Ai u0,Ai u1,Ai u2,As u3,Al 6 u4,Al 7 u5])]⟩ K
def Y4(t5:LB)(t6 u0:Int)(u1 u2:Int)(u3:LB)(u4 u5:LL)(K:KK):Prop:=Bi 28 E0.P Bp (Au 28 ac_r17_plain).code ⟨[(1, .ptr Dc 0),(5,As t5),(6,Ai t6)],[(Dc, .blk Aa [Ai u0,Ai u1,Ai u2,As u3,Al 6 u4,Al 7 u5])]⟩ K
def Ap9(K:KK):Prop:=Aq 39 E0.P Bp (Ac 39 ac_r17_plain).code ⟨[],[]⟩ K
def Yd(t3:LB)(t4 u0:Int)(u1 u2:Int)(u3:LB)(u4 u5:LL)(K:KK):Prop:=Aq 21 E0.P Bp (Ac 21 ac_r17_plain).code ⟨[(1, .ptr Dc 0),(3,As t3),(4,Ai t4)],[(Dc, .blk Aa [Ai u0,Ai u1,Ai u2,As u3,Al 6 u4,Al 7 u5])]⟩ K
def Ye(t5:LB)(t6 u0:Int)(u1 u2:Int)(u3:LB)(u4 u5:LL)(K:KK):Prop:=Aq 33 E0.P Bp (Ac 33 ac_r17_plain).code ⟨[(1, .ptr Dc 0),(5,As t5),(6,Ai t6)],[(Dc, .blk Aa [Ai u0,Ai u1,Ai u2,As u3,Al 6 u4,Al 7 u5])]⟩ K
def Ap6(t3:LB)(K:KK):Prop:=Aq 23 E0.P Bp (Ac 23 ac_r17_plain).code ⟨[(3,As t3)],[]⟩ K
def Ap8(t5:LB)(K:KK):Prop:=Aq 35 E0.P Bp (Ac 35 ac_r17_plain).code ⟨[(5,As t5)],[]⟩ K
def Ap5(t3:LB)(t4 u0:Int)(u1 u2:Int)(u3:LB)(u4 u5:LL)(K:KK):Prop:=Aq 22 E0.P Bp (Ac 22 ac_r17_plain).code ⟨[(1, .ptr Dc 0),(3,As t3),(4,Ai t4)],[(Dc, .blk Aa [Ai u0,Ai u1,Ai u2,As u3,Al 6 u4,Al 7 u5])]⟩ K
def Ap7(t5:LB)(t6 u0:Int)(u1 u2:Int)(u3:LB)(u4 u5:LL)(K:KK):Prop:=Aq 34 E0.P Bp (Ac 34 ac_r17_plain).code ⟨[(1, .ptr Dc 0),(5,As t5),(6,Ai t6)],[(Dc, .blk Aa [Ai u0,Ai u1,Ai u2,As u3,Al 6 u4,Al 7 u5])]⟩ K
def Vn(Q:QQ):KK:=kE fun st=>finish 0 E0.T [.tmp 2] [] Q st
def Nu(Q:QQ):KK:=kF 0 (fun st=>Aq 39 E0.P Bp (Ac 39 ac_r17_plain).code (mask [] st) (Vn Q)) fun st=>finish 0 E0.T [.tmp 2] [] Q st
def At2(Q:QQ):Ex→St→Prop
 | .normal,st=>Aq 23 E0.P Bp (Ac 23 ac_r17_plain).code (mask [3] st) (Nu Q)
 | .exit i,st=>(match (i.beq 1:Bool)with
 |true=>Aq 23 E0.P Bp (Ac 23 ac_r17_plain).code (mask [3] st) (Nu Q)
 |false=>(match (i.beq 0:Bool)with
 |true=>Aq 39 E0.P Bp (Ac 39 ac_r17_plain).code (mask [] st) (Vn Q)
 |false=>False))
 | .goto _,_=>False
 | .ret,st=>finish 0 E0.T [.tmp 2] [] Q st
def At3(Q:QQ):Ex→St→Prop
 | .normal,st=>Aq 35 E0.P Bp (Ac 35 ac_r17_plain).code (mask [5] st) (Nu Q)
 | .exit i,st=>(match (i.beq 3:Bool)with
 |true=>Aq 35 E0.P Bp (Ac 35 ac_r17_plain).code (mask [5] st) (Nu Q)
 |false=>(match (i.beq 0:Bool)with
 |true=>Aq 39 E0.P Bp (Ac 39 ac_r17_plain).code (mask [] st) (Vn Q)
 |false=>False))
 | .goto _,_=>False
 | .ret,st=>finish 0 E0.T [.tmp 2] [] Q st
def Ail(K:KK):Ex→St→Prop
 | .normal,st=>Bi 16 E0.P Bp (Au 16 ac_r17_plain).code (mask [1,3,4] st) K
 | .exit i,st=>K (.exit i) st
 | .goto i,st=>K (.goto i) st
 | .ret,st=>K .ret st
def Vo(K:KK):KK:=kC 2 (fun st=>Aq 22 E0.P Bp (Ac 22 ac_r17_plain).code (mask [1,3,4] st) (Ail K)) K
def Aim(K:KK):Ex→St→Prop
 | .normal,st=>Bi 28 E0.P Bp (Au 28 ac_r17_plain).code (mask [1,5,6] st) K
 | .exit i,st=>K (.exit i) st
 | .goto i,st=>K (.goto i) st
 | .ret,st=>K .ret st
def Vp(K:KK):KK:=kC 4 (fun st=>Aq 34 E0.P Bp (Ac 34 ac_r17_plain).code (mask [1,5,6] st) (Aim K)) K
theorem Ajt(t3:LB)(t4 u0:Int)(u1 u2:Int)(u3:LB)(u4 u5:LL)(K:KK)(h:
 (Br (decide (t4<(↑u4.length:Int)))
 (Br (decide ((0:Int)<t4))
 (Ah ((↑(t3.length+(1:Nat)):Int)≤(9223372036854775807:Int))
 (Yd (t3++[(32:UInt8)]) t4 u0 u1 u2 u3 u4 u5 (Vo K)))
 (Yd t3 t4 u0 u1 u2 u3 u4 u5 (Vo K)))
 (K (.exit (1)) ⟨[(3,As t3)],[]⟩))):Y3 t3 t4 u0 u1 u2 u3 u4 u5 K:=Bg (Ar E0 Bp) (Az Bp) 3 16 (Au 16 ac_r17_plain) [1,3,4] _ K rfl (kr (by kernel_rfl) h)
theorem Aju(t5:LB)(t6 u0:Int)(u1 u2:Int)(u3:LB)(u4 u5:LL)(K:KK)(h:
 (Br (decide (t6<(↑u5.length:Int)))
 (Br (decide ((0:Int)<t6))
 (Ah ((↑(t5.length+(1:Nat)):Int)≤(9223372036854775807:Int))
 (Ye (t5++[(32:UInt8)]) t6 u0 u1 u2 u3 u4 u5 (Vp K)))
 (Ye t5 t6 u0 u1 u2 u3 u4 u5 (Vp K)))
 (K (.exit (3)) ⟨[(5,As t5)],[]⟩))):Y4 t5 t6 u0 u1 u2 u3 u4 u5 K:=Bg (Ar E0 Bp) (Az Bp) 3 28 (Au 28 ac_r17_plain) [1,5,6] _ K rfl (kr (by kernel_rfl) h)
theorem Azb(K:KK)(h:
 (K .ret ⟨[(2, .imm (.str [110,117,108,108]))],[]⟩)):Ap9 K:=Av (Ar E0 Bp) (Az Bp) 3 39 (Ac 39 ac_r17_plain) [] _ K rfl (kr (by kernel_rfl) h)
theorem Ay5(t3:LB)(t4 u0:Int)(u1 u2:Int)(u3:LB)(u4 u5:LL)(K:KK)(h:
 (Ah (((0:Int)≤t4∧t4<(↑u4.length:Int))∧
 Bt
 [.int .i64, .int .i64, .int .i64, .str, .sl 6 Aa,
 .sl 7 Ag]
 (u4.getD t4.toNat [])=
 true)
 (Call E0.P X3 [.imm (.agg [.int .i64 (gI (u4.getD t4.toNat []) 0), .int .i64 (gI (u4.getD t4.toNat []) 1), .int .i64 (gI (u4.getD t4.toNat []) 2), .str (gS (u4.getD t4.toNat []) 3), .sl .any 6 (gR (u4.getD t4.toNat []) 4), .sl .any 7 (gR (u4.getD t4.toNat []) 5)])] [] fun r0 g0=>
 Ah (Uc g0 r0)
 (Ah ((↑(t3.length+(rS r0).length):Int)≤(9223372036854775807:Int))
 (K .normal ⟨[(1, .ptr Dc 0),(3,As (t3++rS r0)),(4,Ai t4)],[(Dc, .blk Aa [Ai u0,Ai u1,Ai u2,As u3,Al 6 u4,Al 7 u5])]⟩))))):Yd t3 t4 u0 u1 u2 u3 u4 u5 K:=Av (Ar E0 Bp) (Az Bp) 3 21 (Ac 21 ac_r17_plain) [1,3,4] _ K rfl (kr (by kernel_rfl) h)
theorem Ay8(t5:LB)(t6 u0:Int)(u1 u2:Int)(u3:LB)(u4 u5:LL)(K:KK)(h:
 (Ah (((0:Int)≤t6∧t6<(↑u5.length:Int))∧
 Bt
 [.str, .int .i64, .int .i64, .int .i64, .str, .sl 6 Aa,
 .sl 7 Ag]
 (u5.getD t6.toNat [])=
 true)
 (Ah (((0:Int)≤t6∧t6<(↑u5.length:Int))∧
 Bt
 [.str, .int .i64, .int .i64, .int .i64, .str, .sl 6 Aa,
 .sl 7 Ag]
 (u5.getD t6.toNat [])=
 true)
 (Call E0.P Ags [As (gS (u5.getD t6.toNat []) 0)] [] fun r0 g0=>
 Ah (Uc g0 r0)
 (Ah ((↑(t5.length+(rS r0).length):Int)≤(9223372036854775807:Int))
 (Ah ((↑((t5++rS r0).length+(1:Nat)):Int)≤(9223372036854775807:Int))
 (Call E0.P X3 [.imm (.agg [.int .i64 (gI (u5.getD t6.toNat []) 1), .int .i64 (gI (u5.getD t6.toNat []) 2), .int .i64 (gI (u5.getD t6.toNat []) 3), .str (gS (u5.getD t6.toNat []) 4), .sl .any 6 (gR (u5.getD t6.toNat []) 5), .sl .any 7 (gR (u5.getD t6.toNat []) 6)])] [] fun r1 g1=>
 Ah (Uc g1 r1)
 (Ah ((↑((t5++rS r0++[(32:UInt8)]).length+(rS r1).length):Int)≤(9223372036854775807:Int))
 (K .normal ⟨[(1, .ptr Dc 0),(5,As (t5++rS r0++[(32:UInt8)]++rS r1)),(6,Ai t6)],[(Dc, .blk Aa [Ai u0,Ai u1,Ai u2,As u3,Al 6 u4,Al 7 u5])]⟩))))))))):Ye t5 t6 u0 u1 u2 u3 u4 u5 K:=Av (Ar E0 Bp) (Az Bp) 3 33 (Ac 33 ac_r17_plain) [1,5,6] _ K rfl (kr (by kernel_rfl) h)
theorem Ay7(t3:LB)(K:KK)(h:
 (Ah ((↑((1:Nat)+t3.length):Int)≤(9223372036854775807:Int))
 (Ah ((↑(([(91:UInt8)]++t3).length+(1:Nat)):Int)≤(9223372036854775807:Int))
 (K .ret ⟨[(2,As ([(91:UInt8)]++t3++[(93:UInt8)]))],[]⟩)))):Ap6 t3 K:=Av (Ar E0 Bp) (Az Bp) 3 23 (Ac 23 ac_r17_plain) [] _ K rfl (kr (by kernel_rfl) h)
theorem Aza(t5:LB)(K:KK)(h:
 (Ah ((↑((2:Nat)+t5.length):Int)≤(9223372036854775807:Int))
 (Ah ((↑(([(60:UInt8),60]++t5).length+(2:Nat)):Int)≤(9223372036854775807:Int))
 (K .ret ⟨[(2,As ([(60:UInt8),60]++t5++[(62:UInt8),62]))],[]⟩)))):Ap8 t5 K:=Av (Ar E0 Bp) (Az Bp) 3 35 (Ac 35 ac_r17_plain) [] _ K rfl (kr (by kernel_rfl) h)
theorem Ay6(t3:LB)(t4 u0:Int)(u1 u2:Int)(u3:LB)(u4 u5:LL)(K:KK)(h:
 (K .normal ⟨[(1, .ptr Dc 0),(3,As t3),(4,Ai (IntKind.i64.wrap (t4+(1:Int))))],[(Dc, .blk Aa [Ai u0,Ai u1,Ai u2,As u3,Al 6 u4,Al 7 u5])]⟩)):Ap5 t3 t4 u0 u1 u2 u3 u4 u5 K:=Av (Ar E0 Bp) (Az Bp) 3 22 (Ac 22 ac_r17_plain) [1,3,4] _ K rfl (kr (by kernel_rfl) h)
theorem Ay9(t5:LB)(t6 u0:Int)(u1 u2:Int)(u3:LB)(u4 u5:LL)(K:KK)(h:
 (K .normal ⟨[(1, .ptr Dc 0),(5,As t5),(6,Ai (IntKind.i64.wrap (t6+(1:Int))))],[(Dc, .blk Aa [Ai u0,Ai u1,Ai u2,As u3,Al 6 u4,Al 7 u5])]⟩)):Ap7 t5 t6 u0 u1 u2 u3 u4 u5 K:=Av (Ar E0 Bp) (Az Bp) 3 34 (Ac 34 ac_r17_plain) [1,5,6] _ K rfl (kr (by kernel_rfl) h)
theorem A2a(Q:QQ)(t2:LB)(h:
 (Q (As t2) [])):Vn Q .ret ⟨[(2,As t2)],[]⟩:=kr (by kernel_rfl) h
theorem Al3(Q:QQ)(t2:LB)(h:
 (Q (As t2) [])):Nu Q .ret ⟨[(2,As t2)],[]⟩:=kr (by kernel_rfl) h
theorem A2b(Q:QQ)(t3:LB)(h:
 (Ap6 t3 (Nu Q))):At2 Q (.exit (1)) ⟨[(3,As t3)],[]⟩:=kr (by kernel_rfl) h
theorem A2c(Q:QQ)(t5:LB)(h:
 (Ap8 t5 (Nu Q))):At3 Q (.exit (3)) ⟨[(5,As t5)],[]⟩:=kr (by kernel_rfl) h
theorem A2d(K:KK)(t3:LB)(t4 u0:Int)(u1 u2:Int)(u3:LB)(u4 u5:LL)(h:
 (Y3 t3 t4 u0 u1 u2 u3 u4 u5 K)):Ail K .normal ⟨[(1, .ptr Dc 0),(3,As t3),(4,Ai t4)],[(Dc, .blk Aa [Ai u0,Ai u1,Ai u2,As u3,Al 6 u4,Al 7 u5])]⟩:=kr (by kernel_rfl) h
theorem A2e(K:KK)(t3:LB)(t4 u0:Int)(u1 u2:Int)(u3:LB)(u4 u5:LL)(h:
 (Ap5 t3 t4 u0 u1 u2 u3 u4 u5 (Ail K))):Vo K .normal ⟨[(1, .ptr Dc 0),(3,As t3),(4,Ai t4)],[(Dc, .blk Aa [Ai u0,Ai u1,Ai u2,As u3,Al 6 u4,Al 7 u5])]⟩:=kr (by kernel_rfl) h
theorem A2f(K:KK)(t5:LB)(t6 u0:Int)(u1 u2:Int)(u3:LB)(u4 u5:LL)(h:
 (Y4 t5 t6 u0 u1 u2 u3 u4 u5 K)):Aim K .normal ⟨[(1, .ptr Dc 0),(5,As t5),(6,Ai t6)],[(Dc, .blk Aa [Ai u0,Ai u1,Ai u2,As u3,Al 6 u4,Al 7 u5])]⟩:=kr (by kernel_rfl) h
theorem A2g(K:KK)(t5:LB)(t6 u0:Int)(u1 u2:Int)(u3:LB)(u4 u5:LL)(h:
 (Ap7 t5 t6 u0 u1 u2 u3 u4 u5 (Aim K))):Vp K .normal ⟨[(1, .ptr Dc 0),(5,As t5),(6,Ai t6)],[(Dc, .blk Aa [Ai u0,Ai u1,Ai u2,As u3,Al 6 u4,Al 7 u5])]⟩:=kr (by kernel_rfl) h
theorem Bej:Bo E0.P 39 ac_r17_plain.code Bp [.tmp 2]:=Bh _ _ Tryz.f39 [(16,[1,3,4],[]),(18,[3],[]),(21,[1,3,4],[1,3,4]),(22,[1,3,4],[1,3,4]),(23,[3],[]),(28,[1,5,6],[]),(30,[5],[]),(33,[1,5,6],[1,5,6]),(34,[1,5,6],[1,5,6]),(35,[5],[]),(39,[],[])] [2] _ 98 Tryz.func39 (by kernel_rfl) (by kernel_rfl) (by kernel_rfl) (by kernel_rfl)
theorem A6w(a0_0 a0_1 a0_2:Int)(a0_3:LB)(a0_4 a0_5:LL)(Q:QQ)(h:
 (Br (decide (a0_0=(1:Int)))
 (Br (decide (a0_1=(1:Int)))
 (Q (.imm (.str [116,114,117,101])) [])
 (Q (.imm (.str [102,97,108,115,101])) []))
 (Br (decide (a0_0=(2:Int)))
 (Call E0.P Vd [Ai a0_1] [] fun r0 g0=>
 Ah (Uc g0 r0)
 (Q (As (rS r0)) []))
 (Br (decide (a0_0=(3:Int)))
 (Call E0.P Ags [As a0_3] [] fun r1 g1=>
 Ah (Uc g1 r1)
 (Q (As (rS r1)) []))
 (Br (decide (a0_0=(4:Int)))
 (Call E0.P Amu [As a0_3] [] fun r2 g2=>
 Ah (Uc g2 r2)
 (Q (As (rS r2)) []))
 (Br (decide (a0_0=(5:Int)))
 (Y3 [] ((0:Int)) a0_0 a0_1 a0_2 a0_3 a0_4 a0_5 (At2 Q))
 (Br (decide (a0_0=(6:Int)))
 (Y4 [] ((0:Int)) a0_0 a0_1 a0_2 a0_3 a0_4 a0_5 (At3 Q))
 (Br (decide (a0_0=(7:Int)))
 (Call E0.P Vd [Ai a0_1] [] fun r3 g3=>
 Ah (Uc g3 r3)
 (Ah ((↑((rS r3).length+(1:Nat)):Int)≤(9223372036854775807:Int))
 (Call E0.P Vd [Ai a0_2] [] fun r4 g4=>
 Ah (Uc g4 r4)
 (Ah ((↑((rS r3++[(32:UInt8)]).length+(rS r4).length):Int)≤(9223372036854775807:Int))
 (Ah ((↑((rS r3++[(32:UInt8)]++rS r4).length+(2:Nat)):Int)≤(9223372036854775807:Int))
 (Q (As (rS r3++[(32:UInt8)]++rS r4++[(32:UInt8),82])) []))))))
 (Ap9 (Vn Q)))))))))):Call E0.P X3 [.imm (.agg [.int .i64 a0_0, .int .i64 a0_1, .int .i64 a0_2, .str a0_3, .sl .any 6 a0_4, .sl .any 7 a0_5])] [] Q:=A8 (Ar E0 Bp) (Az Bp) 3 0 39 ac_r17_plain [.tmp 2] Bej _ _ Q rfl rfl (kr (by kernel_rfl) h)
noncomputable def ac_r06_Encode:AC:=(Bf [(3,[0,3,4],[]),(5,[3],[]),(8,[3],[])] [2] (codeOf Tryz.f87) 0).1
abbrev Ir:Nat:=31
def Yv(t0:LB)(t4:Int)(u0:LL)(K:KK):Prop:=Bi 3 E0.P Ir (Au 3 ac_r06_Encode).code ⟨[(0,As t0),(3, .own nL5),(4,Ai t4)],[(nL5, .arr 0 true 1 u0)]⟩ K
def Apt(u0:LL)(K:KK):Prop:=Aq 8 E0.P Ir (Ac 8 ac_r06_Encode).code ⟨[(3, .own nL5)],[(nL5, .arr 0 true 1 u0)]⟩ K
def Afb(Q:QQ):KK:=kE fun st=>finish 0 E0.T [.tmp 2] [] Q st
def Aqk(Q:QQ):KK:=kF 0 (fun st=>Aq 8 E0.P Ir (Ac 8 ac_r06_Encode).code (mask [3] st) (Afb Q)) fun st=>finish 0 E0.T [.tmp 2] [] Q st
theorem Ajn(t0:LB)(t4:Int)(u0:LL)(K:KK)(h:
 (Br (decide (t4<(↑t0.length:Int)))
 (Ah ((0:Int)≤t4∧t4<(↑t0.length:Int))
 (Ah ((16:Int)≠(0:Int))
 (Ah ((0:Int)≤t4∧t4<(↑t0.length:Int))
 (Ah ((16:Int)≠(0:Int))
 (Call E0.P Ad6 [.imm (.int .i64 (IntKind.i64.wrap ((IntKind.i64.wrap (↑(t0.getD t4.toNat 0).toNat:Int)).tdiv (16:Int))))] [] fun r0 g0=>
 Ah (qW4 g0 r0)
 (Call E0.P Ad6 [.imm (.int .i64 ((IntKind.i64.wrap (↑(t0.getD t4.toNat 0).toNat:Int)).tmod (16:Int)))] [] fun r1 g1=>
 Ah (qW4 g1 r1)
 (Ah ((u0.length+2)*1≤140737488355328∧u0.length+2≤140737488355328)
 (Yv t0 (IntKind.i64.wrap (t4+(1:Int))) (u0++[[IV.int .u8 (rI r0)],[.int .u8 (rI r1)]]) K))))))))
 (K (.exit 0) ⟨[(3, .own nL5)],[(nL5, .arr 0 true 1 u0)]⟩))):Yv t0 t4 u0 K:=Bg (Ar E0 Ir) (Az Ir) 3 3 (Au 3 ac_r06_Encode) [0,3,4] _ K rfl (kr (by kernel_rfl) h)
theorem Ayq(u0:LL)(K:KK)(h:
 (Ah ((u0.length+1)*1≤140737488355328∧u0.length+1≤140737488355328)
 (Ah (∀(r:List IV),r∈u0++[[IV.int .u8 (62:Int)]]→Bt [.int .u8] r=true)
 (K .ret ⟨[(2,As (List.map (fun r=>UInt8.ofNat (gI r 0).toNat) (u0++[[IV.int .u8 (62:Int)]])))],[]⟩)))):Apt u0 K:=Av (Ar E0 Ir) (Az Ir) 3 8 (Ac 8 ac_r06_Encode) [] _ K rfl (kr (by kernel_rfl) h)
theorem Azu(Q:QQ)(t2:LB)(h:
 (Q (As t2) [])):Afb Q .ret ⟨[(2,As t2)],[]⟩:=kr (by kernel_rfl) h
theorem Azv(Q:QQ)(u0:LL)(h:
 (Apt u0 (Afb Q))):Aqk Q (.exit 0) ⟨[(3, .own nL5)],[(nL5, .arr 0 true 1 u0)]⟩:=kr (by kernel_rfl) h
theorem Ba3:Bo E0.P 87 ac_r06_Encode.code Ir [.tmp 2]:=Bh _ _ Tryz.f87 [(3,[0,3,4],[]),(5,[3],[]),(8,[3],[])] [2] _ 31 Tryz.func87 (by kernel_rfl) (by kernel_rfl) (by kernel_rfl) (by kernel_rfl)
theorem A39(a0:LB)(Q:QQ)(h:
 (Yv a0 ((0:Int)) [] (Aqk Q))):Call E0.P Aa4 [As a0] [] Q:=A8 (Ar E0 Ir) (Az Ir) 3 0 87 ac_r06_Encode [.tmp 2] Ba3 _ _ Q rfl rfl (kr (by kernel_rfl) h)
noncomputable def ac_r16_Check:AC:=(Bf [] [4] (codeOf Tryz.f38) 0).1
abbrev Am1:Nat:=8
theorem Beb:Bo E0.P 38 ac_r16_Check.code Am1 [.tmp 4]:=Bh _ _ Tryz.f38 [] [4] _ 8 Tryz.func38 (by kernel_rfl) (by kernel_rfl) (by kernel_rfl) (by kernel_rfl)
theorem A6o(a0_0 a0_1 a0_2:Int)(a0_3:LB)(a0_4 a0_5:LL)(a1:Bool)(Q:QQ)(h:
 (Call E0.P X0 [.imm (.agg [.int .i64 a0_0, .int .i64 a0_1, .int .i64 a0_2, .str a0_3, .sl .any 6 a0_4, .sl .any 7 a0_5]),Ab a1,Ai 0] [] fun r0 g0=>
 Ah (qW0 g0 r0)
 (Q (Ai (rI r0)) []))):Call E0.P Amt [.imm (.agg [.int .i64 a0_0, .int .i64 a0_1, .int .i64 a0_2, .str a0_3, .sl .any 6 a0_4, .sl .any 7 a0_5]),Ab a1] [] Q:=A8 (Ar E0 Am1) (Az Am1) 3 0 38 ac_r16_Check [.tmp 4] Beb _ _ Q rfl rfl (kr (by kernel_rfl) h)
noncomputable def ac_r16_check:AC:=(Bf [(6,[2,3,8],[]),(8,[2,3],[]),(14,[2,3],[]),(16,[2,3,10],[]),(18,[],[]),(28,[],[])] [6] (codeOf Tryz.f57) 0).1
abbrev Eb:Nat:=64
def Aay(t2 t8:Int)(u0 u1 u2:Int)(u3:LB)(u4 u5:LL)(K:KK):Prop:=Bi 6 E0.P Eb (Au 6 ac_r16_check).code ⟨[(2,Ai t2),(3, .ptr nL3 0),(8,Ai t8)],[(nL3, .blk Aa [Ai u0,Ai u1,Ai u2,As u3,Al 6 u4,Al 7 u5])]⟩ K
def Apy(t2 u0:Int)(u1 u2:Int)(u3:LB)(u4 u5:LL)(K:KK):Prop:=Aq 14 E0.P Eb (Ac 14 ac_r16_check).code ⟨[(2,Ai t2),(3, .ptr nL3 0)],[(nL3, .blk Aa [Ai u0,Ai u1,Ai u2,As u3,Al 6 u4,Al 7 u5])]⟩ K
def Yy(t2 t10:Int)(u0 u1 u2:Int)(u3:LB)(u4 u5:LL)(K:KK):Prop:=Bi 16 E0.P Eb (Au 16 ac_r16_check).code ⟨[(2,Ai t2),(3, .ptr nL3 0),(10,Ai t10)],[(nL3, .blk Aa [Ai u0,Ai u1,Ai u2,As u3,Al 6 u4,Al 7 u5])]⟩ K
def Apz(K:KK):Prop:=Aq 28 E0.P Eb (Ac 28 ac_r16_check).code ⟨[],[]⟩ K
def Ah8(Q:QQ):KK:=kE fun st=>finish 0 E0.T [.tmp 6] [] Q st
def Ah9(Q:QQ):KK:=kF 0 (fun st=>Aq 14 E0.P Eb (Ac 14 ac_r16_check).code (mask [2,3] st) (Ah8 Q)) fun st=>finish 0 E0.T [.tmp 6] [] Q st
def Aia(K:KK):KK:=kP [] K
def Aav(K:KK):KK:=kC 2 (fun st=>Aq 28 E0.P Eb (Ac 28 ac_r16_check).code (mask [] st) (Aia K)) K
theorem Amg(t2 t8:Int)(u0 u1 u2:Int)(u3:LB)(u4 u5:LL)(K:KK)(h:
 (Br (decide (t8<(↑u4.length:Int)))
 (Ah (((0:Int)≤t8∧t8<(↑u4.length:Int))∧
 Bt
 [.int .i64, .int .i64, .int .i64, .str, .sl 6 Aa,
 .sl 7 Ag]
 (u4.getD t8.toNat [])=
 true)
 (Call E0.P X0 [.imm (.agg [.int .i64 (gI (u4.getD t8.toNat []) 0), .int .i64 (gI (u4.getD t8.toNat []) 1), .int .i64 (gI (u4.getD t8.toNat []) 2), .str (gS (u4.getD t8.toNat []) 3), .sl .any 6 (gR (u4.getD t8.toNat []) 4), .sl .any 7 (gR (u4.getD t8.toNat []) 5)]),Ab false,Ai (IntKind.i64.wrap (t2+(1:Int)))] [] fun r0 g0=>
 Ah (qW0 g0 r0)
 (Br (!decide (rI r0=(0:Int)))
 (K .ret ⟨[(6,Ai (rI r0))],[]⟩)
 (Aay t2 (IntKind.i64.wrap (t8+(1:Int))) u0 u1 u2 u3 u4 u5 K))))
 (K (.exit 0) ⟨[(2,Ai t2),(3, .ptr nL3 0)],[(nL3, .blk Aa [Ai u0,Ai u1,Ai u2,As u3,Al 6 u4,Al 7 u5])]⟩))):Aay t2 t8 u0 u1 u2 u3 u4 u5 K:=Bg (Ar E0 Eb) (Az Eb) 3 6 (Au 6 ac_r16_check) [2,3,8] _ K rfl (kr (by kernel_rfl) h)
theorem Ayw(t2 u0:Int)(u1 u2:Int)(u3:LB)(u4 u5:LL)(K:KK)(h:
 (Yy t2 ((0:Int)) u0 u1 u2 u3 u4 u5 (Aav K))):Apy t2 u0 u1 u2 u3 u4 u5 K:=Av (Ar E0 Eb) (Az Eb) 3 14 (Ac 14 ac_r16_check) [] _ K rfl (kr (by kernel_rfl) h)
theorem Ajq(t2 t10:Int)(u0 u1 u2:Int)(u3:LB)(u4 u5:LL)(K:KK)(h:
 (Br (decide (t10<(↑u5.length:Int)))
 (Call E0.P Asu [Al 7 u5,Ai t10] [] fun r0 g0=>
 Ah (qW0 g0 r0)
 (Br (!decide (rI r0=(0:Int)))
 (K .ret ⟨[(6,Ai (rI r0))],[]⟩)
 (Ah (((0:Int)≤t10∧t10<(↑u5.length:Int))∧
 Bt
 [.str, .int .i64, .int .i64, .int .i64, .str, .sl 6 Aa,
 .sl 7 Ag]
 (u5.getD t10.toNat [])=
 true)
 (Call E0.P X0 [.imm (.agg [.int .i64 (gI (u5.getD t10.toNat []) 1), .int .i64 (gI (u5.getD t10.toNat []) 2), .int .i64 (gI (u5.getD t10.toNat []) 3), .str (gS (u5.getD t10.toNat []) 4), .sl .any 6 (gR (u5.getD t10.toNat []) 5), .sl .any 7 (gR (u5.getD t10.toNat []) 6)]),Ab false,Ai (IntKind.i64.wrap (t2+(1:Int)))] [] fun r1 g1=>
 Ah (qW0 g1 r1)
 (Br (!decide (rI r1=(0:Int)))
 (K .ret ⟨[(6,Ai (rI r1))],[]⟩)
 (Yy t2 (IntKind.i64.wrap (t10+(1:Int))) u0 u1 u2 u3 u4 u5 K))))))
 (K (.exit (2)) ⟨[],[]⟩))):Yy t2 t10 u0 u1 u2 u3 u4 u5 K:=Bg (Ar E0 Eb) (Az Eb) 3 16 (Au 16 ac_r16_check) [2,3,10] _ K rfl (kr (by kernel_rfl) h)
theorem Ayx(K:KK)(h:
 (K .ret ⟨[(6,Ai 0)],[]⟩)):Apz K:=Av (Ar E0 Eb) (Az Eb) 3 28 (Ac 28 ac_r16_check) [] _ K rfl (kr (by kernel_rfl) h)
theorem A1q(Q:QQ)(t6:Int)(h:
 (Q (Ai t6) [])):Ah8 Q .ret ⟨[(6,Ai t6)],[]⟩:=kr (by kernel_rfl) h
theorem A1r(Q:QQ)(t6:Int)(h:
 (Q (Ai t6) [])):Ah9 Q .ret ⟨[(6,Ai t6)],[]⟩:=kr (by kernel_rfl) h
theorem A1s(Q:QQ)(t2 u0:Int)(u1 u2:Int)(u3:LB)(u4 u5:LL)(h:
 (Apy t2 u0 u1 u2 u3 u4 u5 (Ah8 Q))):Ah9 Q (.exit 0) ⟨[(2,Ai t2),(3, .ptr nL3 0)],[(nL3, .blk Aa [Ai u0,Ai u1,Ai u2,As u3,Al 6 u4,Al 7 u5])]⟩:=kr (by kernel_rfl) h
theorem A1t(K:KK)(t6:Int)(h:
 (K .ret ⟨[(6,Ai t6)],[]⟩)):Aia K .ret ⟨[(6,Ai t6)],[]⟩:=kr (by kernel_rfl) h
theorem Alv(K:KK)(t6:Int)(h:
 (K .ret ⟨[(6,Ai t6)],[]⟩)):Aav K .ret ⟨[(6,Ai t6)],[]⟩:=kr (by kernel_rfl) h
theorem A1u(K:KK)(h:
 (Apz (Aia K))):Aav K (.exit (2)) ⟨[],[]⟩:=kr (by kernel_rfl) h
theorem Bee:Bo E0.P 57 ac_r16_check.code Eb [.tmp 6]:=Bh _ _ Tryz.f57 [(6,[2,3,8],[]),(8,[2,3],[]),(14,[2,3],[]),(16,[2,3,10],[]),(18,[],[]),(28,[],[])] [6] _ 64 Tryz.func57 (by kernel_rfl) (by kernel_rfl) (by kernel_rfl) (by kernel_rfl)
theorem A6r(a0_0 a0_1 a0_2:Int)(a0_3:LB)(a0_4 a0_5:LL)(a1:Bool)(a2:Int)(Q:QQ)(h:
 (Call E0.P Asv [.imm (.agg [.int .i64 a0_0, .int .i64 a0_1, .int .i64 a0_2, .str a0_3, .sl .any 6 a0_4, .sl .any 7 a0_5]),Ab a1,Ai a2] [] fun r0 g0=>
 Ah (qW0 g0 r0)
 (Br (!decide (rI r0=(0:Int)))
 (Q (Ai (rI r0)) [])
 (Aay a2 ((0:Int)) a0_0 a0_1 a0_2 a0_3 a0_4 a0_5 (Ah9 Q))))):Call E0.P X0 [.imm (.agg [.int .i64 a0_0, .int .i64 a0_1, .int .i64 a0_2, .str a0_3, .sl .any 6 a0_4, .sl .any 7 a0_5]),Ab a1,Ai a2] [] Q:=A8 (Ar E0 Eb) (Az Eb) 3 0 57 ac_r16_check [.tmp 6] Bee _ _ Q rfl rfl (kr (by kernel_rfl) h)
noncomputable def ac_r01_Digit:AC:=(Bf [] [2] (codeOf Tryz.f123) 0).1
abbrev Am0:Nat:=11
theorem Bea:Bo E0.P 123 ac_r01_Digit.code Am0 [.tmp 2]:=Bh _ _ Tryz.f123 [] [2] _ 11 Tryz.func123 (by kernel_rfl) (by kernel_rfl) (by kernel_rfl) (by kernel_rfl)
theorem A6n(a0:Int)(Q:QQ)(h:
 (Let (bif decide (a0<(0:Int))then true else decide ((15:Int)<a0)) fun x0=>
 Br (x0)
 (Q (.imm (.int .u8 ((0:Int)))) [])
 (Ah ((0:Int)≤a0∧a0<(↑(16:Nat):Int))
 (Q (.imm (.int .u8 ((↑([(48:UInt8),49,50,51,52,53,54,55,
 56,57,65,66,67,68,69,
 70].getD
 a0.toNat 0).toNat:
 Int)))) [])))):Call E0.P Ad6 [Ai a0] [] Q:=A8 (Ar E0 Am0) (Az Am0) 3 0 123 ac_r01_Digit [.tmp 2] Bea _ _ Q rfl rfl (kr (by kernel_rfl) h)
noncomputable def ac_r16_one:AC:=(Bf [(3,[2,3,25],[]),(13,[],[])] [6] (codeOf Tryz.f85) 0).1
abbrev Mr:Nat:=80
def Ov(t2:Int)(t25:Bool)(u0 u1 u2:Int)(u3:LB)(u4 u5:LL)(K:KK):Prop:=Aq 3 E0.P Mr (Ac 3 ac_r16_one).code ⟨[(2,Ai t2),(3, .ptr nL3 0),(25,Ab t25)],[(nL3, .blk Aa [Ai u0,Ai u1,Ai u2,As u3,Al 6 u4,Al 7 u5])]⟩ K
def Avh(K:KK):Prop:=Aq 13 E0.P Mr (Ac 13 ac_r16_one).code ⟨[],[]⟩ K
def Aoz(Q:QQ):KK:=kE fun st=>finish 0 E0.T [.tmp 6] [] Q st
def J9(Q:QQ):KK:=kF 0 (fun st=>Aq 13 E0.P Mr (Ac 13 ac_r16_one).code (mask [] st) (Aoz Q)) fun st=>finish 0 E0.T [.tmp 6] [] Q st
theorem A6l(t2:Int)(t25:Bool)(u0 u1 u2:Int)(u3:LB)(u4 u5:LL)(K:KK)(h:
 (Br (t25)
 (K .ret ⟨[(6,Ai 4)],[]⟩)
 (Call E0.P Asw [.imm (.agg [.int .i64 u0, .int .i64 u1, .int .i64 u2, .str u3, .sl .any 6 u4, .sl .any 7 u5])] [] fun r0 g0=>
 Ah (qW3 g0 r0)
 (Br (rB r0)
 (K .ret ⟨[(6,Ai 3)],[]⟩)
 (Let (bif decide (u0=(3:Int))then decide ((127:Int)<(↑u3.length:Int))else false) fun x1=>
 Br (x1 == false)
 (Let (bif decide (u0=(4:Int))then decide ((65535:Int)<(↑u3.length:Int))else false) fun x2=>
 Let (x2) fun x3=>
 Br (x3)
 (K .ret ⟨[(6,Ai 8)],[]⟩)
 (Let (bif decide (u0=(8:Int))then decide ((1048576:Int)<(↑u3.length:Int))else false) fun x4=>
 Br (x4)
 (K .ret ⟨[(6,Ai 7)],[]⟩)
 (Call E0.P Aa5 [Ai u0] [] fun r5 g5=>
 Ah (qW3 g5 r5)
 (Let (bif rB r5 then decide ((64:Int)≤t2)else false) fun x6=>
 Br (x6)
 (K .ret ⟨[(6,Ai 9)],[]⟩)
 (K .normal ⟨[],[]⟩)))))
 (Ah ((!false)=true)
 (Let (true) fun x7=>
 Br (x7)
 (K .ret ⟨[(6,Ai 8)],[]⟩)
 (Let (bif decide (u0=(8:Int))then decide ((1048576:Int)<(↑u3.length:Int))else false) fun x8=>
 Br (x8)
 (K .ret ⟨[(6,Ai 7)],[]⟩)
 (Call E0.P Aa5 [Ai u0] [] fun r9 g9=>
 Ah (qW3 g9 r9)
 (Let (bif rB r9 then decide ((64:Int)≤t2)else false) fun x10=>
 Br (x10)
 (K .ret ⟨[(6,Ai 9)],[]⟩)
 (K .normal ⟨[],[]⟩))))))))))):Ov t2 t25 u0 u1 u2 u3 u4 u5 K:=Av (Ar E0 Mr) (Az Mr) 3 3 (Ac 3 ac_r16_one) [] _ K rfl (kr (by kernel_rfl) h)
theorem A3x(K:KK)(h:
 (K .ret ⟨[(6,Ai 0)],[]⟩)):Avh K:=Av (Ar E0 Mr) (Az Mr) 3 13 (Ac 13 ac_r16_one) [] _ K rfl (kr (by kernel_rfl) h)
theorem A7e(Q:QQ)(t6:Int)(h:
 (Q (Ai t6) [])):Aoz Q .ret ⟨[(6,Ai t6)],[]⟩:=kr (by kernel_rfl) h
theorem A7f(Q:QQ)(t6:Int)(h:
 (Q (Ai t6) [])):J9 Q .ret ⟨[(6,Ai t6)],[]⟩:=kr (by kernel_rfl) h
theorem A7g(Q:QQ)(h:
 (Avh (Aoz Q))):J9 Q .normal ⟨[],[]⟩:=kr (by kernel_rfl) h
theorem Bix:Bo E0.P 85 ac_r16_one.code Mr [.tmp 6]:=Bh _ _ Tryz.f85 [(3,[2,3,25],[]),(13,[],[])] [6] _ 80 Tryz.func85 (by kernel_rfl) (by kernel_rfl) (by kernel_rfl) (by kernel_rfl)
theorem Bbx(a0_0 a0_1 a0_2:Int)(a0_3:LB)(a0_4 a0_5:LL)(a1:Bool)(a2:Int)(Q:QQ)(h:
 (Let (bif decide (a0_0<(0:Int))then true else decide ((8:Int)<a0_0)) fun x0=>
 Br (x0 == false)
 (Let (bif decide (a0_0=(8:Int))then !a1 else false) fun x1=>
 Let (x1) fun x2=>
 Br (x2)
 (Q (Ai 10) [])
 (Call E0.P Ad7 [.imm (.agg [.int .i64 a0_0, .int .i64 a0_1, .int .i64 a0_2, .str a0_3, .sl .any 6 a0_4, .sl .any 7 a0_5])] [] fun r3 g3=>
 Ah (qW3 g3 r3)
 (Br (rB r3 == false)
 (Br (decide (a0_0=(3:Int)) == true)
 (Call E0.P Aan [As a0_3] [] fun r4 g4=>
 Ah (qW3 g4 r4)
 (Let (rB r4) fun x5=>
 Let (x5) fun x6=>
 Ov a2 x6 a0_0 a0_1 a0_2 a0_3 a0_4 a0_5 (J9 Q)))
 (Ah ((!true)=false)
 (Let (false) fun x7=>
 Let (x7) fun x8=>
 Ov a2 x8 a0_0 a0_1 a0_2 a0_3 a0_4 a0_5 (J9 Q))))
 (Ah ((!false)=true)
 (Let (true) fun x9=>
 Ov a2 x9 a0_0 a0_1 a0_2 a0_3 a0_4 a0_5 (J9 Q))))))
 (Ah ((!false)=true)
 (Let (true) fun x10=>
 Br (x10)
 (Q (Ai 10) [])
 (Call E0.P Ad7 [.imm (.agg [.int .i64 a0_0, .int .i64 a0_1, .int .i64 a0_2, .str a0_3, .sl .any 6 a0_4, .sl .any 7 a0_5])] [] fun r11 g11=>
 Ah (qW3 g11 r11)
 (Br (rB r11 == false)
 (Br (decide (a0_0=(3:Int)) == true)
 (Call E0.P Aan [As a0_3] [] fun r12 g12=>
 Ah (qW3 g12 r12)
 (Let (rB r12) fun x13=>
 Let (x13) fun x14=>
 Ov a2 x14 a0_0 a0_1 a0_2 a0_3 a0_4 a0_5 (J9 Q)))
 (Ah ((!true)=false)
 (Let (false) fun x15=>
 Let (x15) fun x16=>
 Ov a2 x16 a0_0 a0_1 a0_2 a0_3 a0_4 a0_5 (J9 Q))))
 (Ah ((!false)=true)
 (Let (true) fun x17=>
 Ov a2 x17 a0_0 a0_1 a0_2 a0_3 a0_4 a0_5 (J9 Q))))))))):Call E0.P Asv [.imm (.agg [.int .i64 a0_0, .int .i64 a0_1, .int .i64 a0_2, .str a0_3, .sl .any 6 a0_4, .sl .any 7 a0_5]),Ab a1,Ai a2] [] Q:=A8 (Ar E0 Mr) (Az Mr) 3 0 85 ac_r16_one [.tmp 6] Bix _ _ Q rfl rfl (kr (by kernel_rfl) h)
noncomputable def ac_r16_key:AC:=(Bf [(4,[0,1,5],[]),(6,[0,1,5,6],[]),(8,[],[]),(13,[],[])] [4] (codeOf Tryz.f86) 0).1
abbrev I6:Nat:=31
def Agg(t0r:LL)(t1:Int)(t5:LB)(K:KK):Prop:=Aq 4 E0.P I6 (Ac 4 ac_r16_key).code ⟨[(0,Al 7 t0r),(1,Ai t1),(5,As t5)],[]⟩ K
def Agl(t0r:LL)(t1:Int)(t5:LB)(t6:Int)(K:KK):Prop:=Bi 6 E0.P I6 (Au 6 ac_r16_key).code ⟨[(0,Al 7 t0r),(1,Ai t1),(5,As t5),(6,Ai t6)],[]⟩ K
def Ave(K:KK):Prop:=Aq 13 E0.P I6 (Ac 13 ac_r16_key).code ⟨[],[]⟩ K
def Aag(Q:QQ):KK:=kE fun st=>finish 0 E0.T [.tmp 4] [] Q st
def Aou(K:KK):KK:=kP [] K
def Agi(K:KK):KK:=kC 0 (fun st=>Aq 13 E0.P I6 (Ac 13 ac_r16_key).code (mask [] st) (Aou K)) K
theorem A6k(t0r:LL)(t1:Int)(t5:LB)(K:KK)(h:
 (Agl t0r t1 t5 ((0:Int)) (Agi K))):Agg t0r t1 t5 K:=Av (Ar E0 I6) (Az I6) 3 4 (Ac 4 ac_r16_key) [] _ K rfl (kr (by kernel_rfl) h)
theorem Aqt(t0r:LL)(t1:Int)(t5:LB)(t6:Int)(K:KK)(h:
 (Br (decide (t6<t1))
 (Ah (((0:Int)≤t6∧t6<(↑t0r.length:Int))∧
 Bt
 [.str, .int .i64, .int .i64, .int .i64, .str, .sl 6 Aa,
 .sl 7 Ag]
 (t0r.getD t6.toNat [])=
 true)
 (Br (gS (t0r.getD t6.toNat []) 0 == t5)
 (K .ret ⟨[(4,Ai 11)],[]⟩)
 (Agl t0r t1 t5 (IntKind.i64.wrap (t6+(1:Int))) K)))
 (K (.exit 0) ⟨[],[]⟩))):Agl t0r t1 t5 t6 K:=Bg (Ar E0 I6) (Az I6) 3 6 (Au 6 ac_r16_key) [0,1,5,6] _ K rfl (kr (by kernel_rfl) h)
theorem A3u(K:KK)(h:
 (K .ret ⟨[(4,Ai 0)],[]⟩)):Ave K:=Av (Ar E0 I6) (Az I6) 3 13 (Ac 13 ac_r16_key) [] _ K rfl (kr (by kernel_rfl) h)
theorem Aql(Q:QQ)(t4:Int)(h:
 (Q (Ai t4) [])):Aag Q .ret ⟨[(4,Ai t4)],[]⟩:=kr (by kernel_rfl) h
theorem A66(K:KK)(t4:Int)(h:
 (K .ret ⟨[(4,Ai t4)],[]⟩)):Aou K .ret ⟨[(4,Ai t4)],[]⟩:=kr (by kernel_rfl) h
theorem A67(K:KK)(t4:Int)(h:
 (K .ret ⟨[(4,Ai t4)],[]⟩)):Agi K .ret ⟨[(4,Ai t4)],[]⟩:=kr (by kernel_rfl) h
theorem A68(K:KK)(h:
 (Ave (Aou K))):Agi K (.exit 0) ⟨[],[]⟩:=kr (by kernel_rfl) h
theorem Biv:Bo E0.P 86 ac_r16_key.code I6 [.tmp 4]:=Bh _ _ Tryz.f86 [(4,[0,1,5],[]),(6,[0,1,5,6],[]),(8,[],[]),(13,[],[])] [4] _ 31 Tryz.func86 (by kernel_rfl) (by kernel_rfl) (by kernel_rfl) (by kernel_rfl)
theorem Bbv(a0:LL)(a1:Int)(Q:QQ)(h:
 (Ah (((0:Int)≤a1∧a1<(↑a0.length:Int))∧
 Bt
 [.str, .int .i64, .int .i64, .int .i64, .str, .sl 6 Aa,
 .sl 7 Ag]
 (a0.getD a1.toNat [])=
 true)
 (Br (decide ((127:Int)<(↑(gS (a0.getD a1.toNat []) (0:Nat)).length:Int)) == false)
 (Call E0.P Aan [As (gS (a0.getD a1.toNat []) 0)] [] fun r0 g0=>
 Ah (qW3 g0 r0)
 (Let (rB r0) fun x1=>
 Br (x1)
 (Q (Ai 11) [])
 (Agg a0 a1 (gS (a0.getD a1.toNat []) 0) (Aag Q))))
 (Ah ((!false)=true)
 (Let (true) fun x2=>
 Br (x2)
 (Q (Ai 11) [])
 (Agg a0 a1 (gS (a0.getD a1.toNat []) 0) (Aag Q))))))):Call E0.P Asu [Al 7 a0,Ai a1] [] Q:=A8 (Ar E0 I6) (Az I6) 3 0 86 ac_r16_key [.tmp 4] Biv _ _ Q rfl rfl (kr (by kernel_rfl) h)
noncomputable def ac_r16_extra:AC:=(Bf [] [2] (codeOf Tryz.f119) 0).1
abbrev Am2:Nat:=71
theorem Bef:Bo E0.P 119 ac_r16_extra.code Am2 [.tmp 2]:=Bh _ _ Tryz.f119 [] [2] _ 71 Tryz.func119 (by kernel_rfl) (by kernel_rfl) (by kernel_rfl) (by kernel_rfl)
theorem A6s(a0_0 a0_1 a0_2:Int)(a0_3:LB)(a0_4 a0_5:LL)(Q:QQ)(h:
 (Let (bif !decide (a0_1=(0:Int))then !decide (a0_0=(1:Int))else false) fun x0=>
 Let (bif x0 then !decide (a0_0=(2:Int))else false) fun x1=>
 Let (bif x1 then !decide (a0_0=(7:Int))else false) fun x2=>
 Br (x2 == false)
 (Let (bif !decide (a0_2=(0:Int))then !decide (a0_0=(7:Int))else false) fun x3=>
 Let (x3) fun x4=>
 Br (x4 == false)
 (Let (bif !a0_3 == []then !decide (a0_0=(3:Int))else false) fun x5=>
 Let (bif x5 then !decide (a0_0=(4:Int))else false) fun x6=>
 Let (bif x6 then !decide (a0_0=(8:Int))else false) fun x7=>
 Let (x7) fun x8=>
 Br (x8 == false)
 (Let (bif decide ((0:Int)<(↑a0_4.length:Int))then !decide (a0_0=(5:Int))else false) fun x9=>
 Let (x9) fun x10=>
 Br (x10 == false)
 (Let (bif decide ((0:Int)<(↑a0_5.length:Int))then !decide (a0_0=(6:Int))else false) fun x11=>
 Let (bif x11 then !decide (a0_0=(8:Int))else false) fun x12=>
 Let (x12) fun x13=>
 Q (Ab x13) [])
 (Ah ((!false)=true)
 (Let (true) fun x14=>
 Q (Ab x14) [])))
 (Ah ((!false)=true)
 (Let (true) fun x15=>
 Br (x15 == false)
 (Let (bif decide ((0:Int)<(↑a0_5.length:Int))then !decide (a0_0=(6:Int))else false) fun x16=>
 Let (bif x16 then !decide (a0_0=(8:Int))else false) fun x17=>
 Let (x17) fun x18=>
 Q (Ab x18) [])
 (Ah ((!false)=true)
 (Let (true) fun x19=>
 Q (Ab x19) [])))))
 (Ah ((!false)=true)
 (Let (true) fun x20=>
 Br (x20 == false)
 (Let (bif decide ((0:Int)<(↑a0_4.length:Int))then !decide (a0_0=(5:Int))else false) fun x21=>
 Let (x21) fun x22=>
 Br (x22 == false)
 (Let (bif decide ((0:Int)<(↑a0_5.length:Int))then !decide (a0_0=(6:Int))else false) fun x23=>
 Let (bif x23 then !decide (a0_0=(8:Int))else false) fun x24=>
 Let (x24) fun x25=>
 Q (Ab x25) [])
 (Ah ((!false)=true)
 (Let (true) fun x26=>
 Q (Ab x26) [])))
 (Ah ((!false)=true)
 (Let (true) fun x27=>
 Br (x27 == false)
 (Let (bif decide ((0:Int)<(↑a0_5.length:Int))then !decide (a0_0=(6:Int))else false) fun x28=>
 Let (bif x28 then !decide (a0_0=(8:Int))else false) fun x29=>
 Let (x29) fun x30=>
 Q (Ab x30) [])
 (Ah ((!false)=true)
 (Let (true) fun x31=>
 Q (Ab x31) [])))))))
 (Ah ((!false)=true)
 (Let (true) fun x32=>
 Br (x32 == false)
 (Let (bif !a0_3 == []then !decide (a0_0=(3:Int))else false) fun x33=>
 Let (bif x33 then !decide (a0_0=(4:Int))else false) fun x34=>
 Let (bif x34 then !decide (a0_0=(8:Int))else false) fun x35=>
 Let (x35) fun x36=>
 Br (x36 == false)
 (Let (bif decide ((0:Int)<(↑a0_4.length:Int))then !decide (a0_0=(5:Int))else false) fun x37=>
 Let (x37) fun x38=>
 Br (x38 == false)
 (Let (bif decide ((0:Int)<(↑a0_5.length:Int))then !decide (a0_0=(6:Int))else false) fun x39=>
 Let (bif x39 then !decide (a0_0=(8:Int))else false) fun x40=>
 Let (x40) fun x41=>
 Q (Ab x41) [])
 (Ah ((!false)=true)
 (Let (true) fun x42=>
 Q (Ab x42) [])))
 (Ah ((!false)=true)
 (Let (true) fun x43=>
 Br (x43 == false)
 (Let (bif decide ((0:Int)<(↑a0_5.length:Int))then !decide (a0_0=(6:Int))else false) fun x44=>
 Let (bif x44 then !decide (a0_0=(8:Int))else false) fun x45=>
 Let (x45) fun x46=>
 Q (Ab x46) [])
 (Ah ((!false)=true)
 (Let (true) fun x47=>
 Q (Ab x47) [])))))
 (Ah ((!false)=true)
 (Let (true) fun x48=>
 Br (x48 == false)
 (Let (bif decide ((0:Int)<(↑a0_4.length:Int))then !decide (a0_0=(5:Int))else false) fun x49=>
 Let (x49) fun x50=>
 Br (x50 == false)
 (Let (bif decide ((0:Int)<(↑a0_5.length:Int))then !decide (a0_0=(6:Int))else false) fun x51=>
 Let (bif x51 then !decide (a0_0=(8:Int))else false) fun x52=>
 Let (x52) fun x53=>
 Q (Ab x53) [])
 (Ah ((!false)=true)
 (Let (true) fun x54=>
 Q (Ab x54) [])))
 (Ah ((!false)=true)
 (Let (true) fun x55=>
 Br (x55 == false)
 (Let (bif decide ((0:Int)<(↑a0_5.length:Int))then !decide (a0_0=(6:Int))else false) fun x56=>
 Let (bif x56 then !decide (a0_0=(8:Int))else false) fun x57=>
 Let (x57) fun x58=>
 Q (Ab x58) [])
 (Ah ((!false)=true)
 (Let (true) fun x59=>
 Q (Ab x59) [])))))))))):Call E0.P Ad7 [.imm (.agg [.int .i64 a0_0, .int .i64 a0_1, .int .i64 a0_2, .str a0_3, .sl .any 6 a0_4, .sl .any 7 a0_5])] [] Q:=A8 (Ar E0 Am2) (Az Am2) 3 0 119 ac_r16_extra [.tmp 2] Bef _ _ Q rfl rfl (kr (by kernel_rfl) h)
noncomputable def ac_r16_zero:AC:=(Bf [(2,[0,3],[]),(4,[],[]),(9,[],[])] [2] (codeOf Tryz.f120) 0).1
abbrev Kc:Nat:=14
def Adp(t0:LB)(t3:Int)(K:KK):Prop:=Bi 2 E0.P Kc (Au 2 ac_r16_zero).code ⟨[(0,As t0),(3,Ai t3)],[]⟩ K
def Avl(K:KK):Prop:=Aq 9 E0.P Kc (Ac 9 ac_r16_zero).code ⟨[],[]⟩ K
def Al0(Q:QQ):KK:=kE fun st=>finish 0 E0.T [.tmp 2] [] Q st
def Ac6(Q:QQ):KK:=kF 0 (fun st=>Aq 9 E0.P Kc (Ac 9 ac_r16_zero).code (mask [] st) (Al0 Q)) fun st=>finish 0 E0.T [.tmp 2] [] Q st
theorem An5(t0:LB)(t3:Int)(K:KK)(h:
 (Br (decide (t3<(↑t0.length:Int)))
 (Ah ((0:Int)≤t3∧t3<(↑t0.length:Int))
 (Br (decide ((↑(t0.getD t3.toNat 0).toNat:Int)=(0:Int)))
 (K .ret ⟨[(2,Ab true)],[]⟩)
 (Adp t0 (IntKind.i64.wrap (t3+(1:Int))) K)))
 (K (.exit 0) ⟨[],[]⟩))):Adp t0 t3 K:=Bg (Ar E0 Kc) (Az Kc) 3 2 (Au 2 ac_r16_zero) [0,3] _ K rfl (kr (by kernel_rfl) h)
theorem A32(K:KK)(h:
 (K .ret ⟨[(2,Ab false)],[]⟩)):Avl K:=Av (Ar E0 Kc) (Az Kc) 3 9 (Ac 9 ac_r16_zero) [] _ K rfl (kr (by kernel_rfl) h)
theorem A4l(Q:QQ)(t2:Bool)(h:
 (Q (Ab t2) [])):Al0 Q .ret ⟨[(2,Ab t2)],[]⟩:=kr (by kernel_rfl) h
theorem A4m(Q:QQ)(t2:Bool)(h:
 (Q (Ab t2) [])):Ac6 Q .ret ⟨[(2,Ab t2)],[]⟩:=kr (by kernel_rfl) h
theorem A4n(Q:QQ)(h:
 (Avl (Al0 Q))):Ac6 Q (.exit 0) ⟨[],[]⟩:=kr (by kernel_rfl) h
theorem Bf4:Bo E0.P 120 ac_r16_zero.code Kc [.tmp 2]:=Bh _ _ Tryz.f120 [(2,[0,3],[]),(4,[],[]),(9,[],[])] [2] _ 14 Tryz.func120 (by kernel_rfl) (by kernel_rfl) (by kernel_rfl) (by kernel_rfl)
theorem Bam(a0:LB)(Q:QQ)(h:
 (Adp a0 ((0:Int)) (Ac6 Q))):Call E0.P Aan [As a0] [] Q:=A8 (Ar E0 Kc) (Az Kc) 3 0 120 ac_r16_zero [.tmp 2] Bf4 _ _ Q rfl rfl (kr (by kernel_rfl) h)
noncomputable def ac_r16_out:AC:=(Bf [] [2] (codeOf Tryz.f121) 0).1
abbrev As9:Nat:=45
theorem Biy:Bo E0.P 121 ac_r16_out.code As9 [.tmp 2]:=Bh _ _ Tryz.f121 [] [2] _ 45 Tryz.func121 (by kernel_rfl) (by kernel_rfl) (by kernel_rfl) (by kernel_rfl)
theorem Bby(a0_0 a0_1 a0_2:Int)(a0_3:LB)(a0_4 a0_5:LL)(Q:QQ)(h:
 (Br (decide (a0_0=(1:Int)))
 (Let (bif !decide (a0_1=(0:Int))then !decide (a0_1=(1:Int))else false) fun x0=>
 Q (Ab x0) [])
 (Br (decide (a0_0=(2:Int)))
 (Let (bif decide (a0_1<(-2147483647:Int))then true else decide ((2147483647:Int)<a0_1)) fun x1=>
 Q (Ab x1) [])
 (Br (decide (a0_0=(7:Int)))
 (Let (bif decide (a0_1<(1:Int))then true else decide ((8388607:Int)<a0_1)) fun x2=>
 Let (bif x2 then true else decide (a0_2<(0:Int))) fun x3=>
 Let (bif x3 then true else decide ((65535:Int)<a0_2)) fun x4=>
 Q (Ab x4) [])
 (Q (Ab false) []))))):Call E0.P Asw [.imm (.agg [.int .i64 a0_0, .int .i64 a0_1, .int .i64 a0_2, .str a0_3, .sl .any 6 a0_4, .sl .any 7 a0_5])] [] Q:=A8 (Ar E0 As9) (Az As9) 3 0 121 ac_r16_out [.tmp 2] Biy _ _ Q rfl rfl (kr (by kernel_rfl) h)
noncomputable def ac_r16_holder:AC:=(Bf [] [2] (codeOf Tryz.f122) 0).1
abbrev Ai3:Nat:=13
theorem Ba4:Bo E0.P 122 ac_r16_holder.code Ai3 [.tmp 2]:=Bh _ _ Tryz.f122 [] [2] _ 13 Tryz.func122 (by kernel_rfl) (by kernel_rfl) (by kernel_rfl) (by kernel_rfl)
theorem A4a(a0:Int)(Q:QQ)(h:
 (Let (bif decide (a0=(5:Int))then true else decide (a0=(6:Int))) fun x0=>
 Let (bif x0 then true else decide (a0=(8:Int))) fun x1=>
 Q (Ab x1) [])):Call E0.P Aa5 [Ai a0] [] Q:=A8 (Ar E0 Ai3) (Az Ai3) 3 0 122 ac_r16_holder [.tmp 2] Ba4 _ _ Q rfl rfl (kr (by kernel_rfl) h)
noncomputable def ac_r02_Put:AC:=(Bf [(10,[0,3,4],[]),(11,[0,3,4],[]),(13,[3,4],[]),(16,[3,4],[])] [2] (codeOf Tryz.f22) 0).1
abbrev I5:Nat:=42
def Alc(t0:Int)(t3 t4:LB)(K:KK):Prop:=Aq 10 E0.P I5 (Ac 10 ac_r02_Put).code ⟨[(0,Ai t0),(3,As t3),(4,As t4)],[]⟩ K
def Sz(t0:Int)(t3 t4:LB)(K:KK):Prop:=Bi 11 E0.P I5 (Au 11 ac_r02_Put).code ⟨[(0,Ai t0),(3,As t3),(4,As t4)],[]⟩ K
def Avd(t3 t4:LB)(K:KK):Prop:=Aq 16 E0.P I5 (Ac 16 ac_r02_Put).code ⟨[(3,As t3),(4,As t4)],[]⟩ K
def Aos(Q:QQ):KK:=kE fun st=>finish 0 E0.T [.tmp 2] [] Q st
def Aot(K:KK):KK:=kP [] K
def A0a(K:KK):KK:=kC 0 (fun st=>Aq 16 E0.P I5 (Ac 16 ac_r02_Put).code (mask [3,4] st) (Aot K)) K
theorem Anv(t0:Int)(t3 t4:LB)(K:KK)(h:
 (Sz t0 t3 t4 (A0a K))):Alc t0 t3 t4 K:=Av (Ar E0 I5) (Az I5) 3 10 (Ac 10 ac_r02_Put) [] _ K rfl (kr (by kernel_rfl) h)
theorem Adn(t0:Int)(t3 t4:LB)(K:KK)(h:
 (Let (bif decide ((0:Int)<t0)then true else t3 == []) fun x0=>
 Br (x0)
 (Ah ((10:Int)≠(0:Int))
 (Ah ((10:Int)≠(0:Int))
 (Ah ((0:Int)≤t0.tmod (10:Int)∧
 t0.tmod (10:Int)≤IntKind.i64.wrap (t0.tmod (10:Int)+(1:Int))∧
 IntKind.i64.wrap (t0.tmod (10:Int)+(1:Int))≤(↑(10:Nat):Int))
 (Let (List.drop (t0.tmod (10:Int)).toNat
 (List.take (IntKind.i64.wrap (t0.tmod (10:Int)+(1:Int))).toNat
 [(48:UInt8),49,50,51,52,53,54,55,
 56,57])) fun x1=>
 Ah ((↑(x1.length+t3.length):Int)≤(9223372036854775807:Int))
 (Ah ((10:Int)≠(0:Int))
 (Sz (IntKind.i64.wrap (t0.tdiv (10:Int))) (x1++t3) t4 K))))))
 (K (.exit 0) ⟨[(3,As t3),(4,As t4)],[]⟩))):Sz t0 t3 t4 K:=Bg (Ar E0 I5) (Az I5) 3 11 (Au 11 ac_r02_Put) [0,3,4] _ K rfl (kr (by kernel_rfl) h)
theorem Anw(t3 t4:LB)(K:KK)(h:
 (Ah ((↑(t4.length+t3.length):Int)≤(9223372036854775807:Int))
 (K .ret ⟨[(2,As (t4++t3))],[]⟩))):Avd t3 t4 K:=Av (Ar E0 I5) (Az I5) 3 16 (Ac 16 ac_r02_Put) [] _ K rfl (kr (by kernel_rfl) h)
theorem Aqh(Q:QQ)(t2:LB)(h:
 (Q (As t2) [])):Aos Q .ret ⟨[(2,As t2)],[]⟩:=kr (by kernel_rfl) h
theorem Aqi(K:KK)(t2:LB)(h:
 (K .ret ⟨[(2,As t2)],[]⟩)):Aot K .ret ⟨[(2,As t2)],[]⟩:=kr (by kernel_rfl) h
theorem Aqj(K:KK)(t3 t4:LB)(h:
 (Avd t3 t4 (Aot K))):A0a K (.exit 0) ⟨[(3,As t3),(4,As t4)],[]⟩:=kr (by kernel_rfl) h
theorem Bit:Bo E0.P 22 ac_r02_Put.code I5 [.tmp 2]:=Bh _ _ Tryz.f22 [(10,[0,3,4],[]),(11,[0,3,4],[]),(13,[3,4],[]),(16,[3,4],[])] [2] _ 42 Tryz.func22 (by kernel_rfl) (by kernel_rfl) (by kernel_rfl) (by kernel_rfl)
theorem Bbt(a0:Int)(Q:QQ)(h:
 (Br (decide (a0<(0:Int)))
 (Ah ((10:Int)≠(0:Int))
 (Ah ((0:Int)≤IntKind.i64.wrap ((0:Int) - a0.tmod (10:Int))∧
 IntKind.i64.wrap ((0:Int) - a0.tmod (10:Int))≤IntKind.i64.wrap ((1:Int) - a0.tmod (10:Int))∧
 IntKind.i64.wrap ((1:Int) - a0.tmod (10:Int))≤(↑(10:Nat):Int))
 (Let (List.drop (IntKind.i64.wrap ((0:Int) - a0.tmod (10:Int))).toNat
 (List.take (IntKind.i64.wrap ((1:Int) - a0.tmod (10:Int))).toNat
 [(48:UInt8),49,50,51,52,53,54,55,
 56,57])) fun x0=>
 Ah ((10:Int)≠(0:Int))
 (Br (decide (IntKind.i64.wrap ((0:Int) - IntKind.i64.wrap (a0.tdiv (10:Int)))=(0:Int)))
 (Ah ((↑((1:Nat)+x0.length):Int)≤(9223372036854775807:Int))
 (Q (As ([(45:UInt8)]++x0)) []))
 (Alc (IntKind.i64.wrap ((0:Int) - IntKind.i64.wrap (a0.tdiv (10:Int)))) x0 [(45:UInt8)] (Aos Q))))))
 (Alc a0 [] [] (Aos Q)))):Call E0.P Vd [Ai a0] [] Q:=A8 (Ar E0 I5) (Az I5) 3 0 22 ac_r02_Put [.tmp 2] Bit _ _ Q rfl rfl (kr (by kernel_rfl) h)
end
end Go.Proofs.Sim.Se

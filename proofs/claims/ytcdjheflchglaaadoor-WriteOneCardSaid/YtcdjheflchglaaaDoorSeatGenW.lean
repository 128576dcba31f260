import Derived.Test.YtcdjheflchglaaaDoorSeatBase
set_option maxRecDepth 100000
set_option maxHeartbeats 4000000
namespace Go.Proofs.Sim.Se
open Go Go.Proofs Go.Proofs.Sim
noncomputable section
abbrev M0(G:Heap)(R:AV):Prop:=G=[]∧R= .imm (.bool (rB R))
abbrev qW1(G:Heap)(R:AV):Prop:=G=[]∧R= .tup [.imm (.str (rS (rT R 0))), .imm (.int .i64 (rI (rT R 1)))]
abbrev qW2(G:Heap)(R:AV):Prop:=G=[]∧R= .imm (.int .i64 (rI R))
abbrev qW3(G:Heap)(R:AV):Prop:=G=[]∧R= .imm (IV.agg [.int .i64 (gI (Ao R) 0), .int .i64 (gI (Ao R) 1), .int .i64 (gI (Ao R) 2), .str (gS (Ao R) 3), .sl SK.any 6 (gR (Ao R) 4), .sl SK.any 7 (gR (Ao R) 5)])
abbrev U3(G:Heap)(R:AV):Prop:=G=[]∧R= .imm (.str (rS R))
abbrev qW5(G:Heap)(R:AV):Prop:=G=[]∧R= .imm (.int .u8 (rI R))
noncomputable def ac_l17_WriteOne:AC:=(Ba [(1,[2,3,18],[2,3]),(3,[2,3],[]),(8,[2,3,5,6,7,8],[])] [4] (codeOf Tryd.f6) 0).1
abbrev Cw:Nat:=98
def Ru(t18:Bool)(u0 u1 u2:Int)(u3:LB)(u4 u5:LL)(u6 u7 u8:Int)(u9:LB)(v0 v1:LL)(K:KK):Prop:=Aq 1 E0.P Cw (Ae 1 ac_l17_WriteOne).code ⟨[(2, .ptr nL2 0),(3, .ptr nL3 0),(18,Ab t18)],[(nL2, .blk Ac [Ai u0,Ai u1,Ai u2,As u3,Al 6 u4,Al 7 u5]),(nL3, .blk Ac [Ai u6,Ai u7,Ai u8,As u9,Al 6 v0,Al 7 v1])]⟩ K
def Y8(u0 u1 u2:Int)(u3:LB)(u4 u5:LL)(u6 u7 u8:Int)(u9:LB)(v0 v1:LL)(K:KK):Prop:=Aq 3 E0.P Cw (Ae 3 ac_l17_WriteOne).code ⟨[(2, .ptr nL2 0),(3, .ptr nL3 0)],[(nL2, .blk Ac [Ai u0,Ai u1,Ai u2,As u3,Al 6 u4,Al 7 u5]),(nL3, .blk Ac [Ai u6,Ai u7,Ai u8,As u9,Al 6 v0,Al 7 v1])]⟩ K
def Ei(t5:LB)(t6:Int)(t7:LB)(t8 u0:Int)(u1 u2:Int)(u3:LB)(u4 u5:LL)(u6 u7 u8:Int)(u9:LB)(v0 v1:LL)(K:KK):Prop:=Aq 8 E0.P Cw (Ae 8 ac_l17_WriteOne).code ⟨[(2, .ptr nL2 0),(3, .ptr nL3 0),(5,As t5),(6,Ai t6),(7,As t7),(8,Ai t8)],[(nL2, .blk Ac [Ai u0,Ai u1,Ai u2,As u3,Al 6 u4,Al 7 u5]),(nL3, .blk Ac [Ai u6,Ai u7,Ai u8,As u9,Al 6 v0,Al 7 v1])]⟩ K
def Nf(Q:QQ):KK:=kE fun st=>finish 0 E0.T [.tmp 4] [] Q st
def Ng(Q:QQ):Ex→St→Prop
 | .normal,st=>Aq 3 E0.P Cw (Ae 3 ac_l17_WriteOne).code (mask [2,3] st) (Nf Q)
 | .exit _,_=>False
 | .goto _,_=>False
 | .ret,st=>finish 0 E0.T [.tmp 4] [] Q st
def Dv(K:KK):KK:=kP [] K
theorem Om(t18:Bool)(u0 u1 u2:Int)(u3:LB)(u4 u5:LL)(u6 u7 u8:Int)(u9:LB)(v0 v1:LL)(K:KK)(h:
 (Br (t18)
 (Call E0.P Ik [] [] fun r0 g0=>
 Af (M0 g0 r0)
 (K .ret ⟨[(4,Ab (rB r0))],[]⟩))
 (K .normal ⟨[(2, .ptr nL2 0),(3, .ptr nL3 0)],[(nL2, .blk Ac [Ai u0,Ai u1,Ai u2,As u3,Al 6 u4,Al 7 u5]),(nL3, .blk Ac [Ai u6,Ai u7,Ai u8,As u9,Al 6 v0,Al 7 v1])]⟩))):Ru t18 u0 u1 u2 u3 u4 u5 u6 u7 u8 u9 v0 v1 K:=Aw (Ar E0 Cw) (A8 Cw) 3 1 (Ae 1 ac_l17_WriteOne) [2,3] _ K rfl (kr (by kernel_rfl) h)
theorem Ady(u0 u1 u2:Int)(u3:LB)(u4 u5:LL)(u6 u7 u8:Int)(u9:LB)(v0 v1:LL)(K:KK)(h:
 (Call E0.P Jl [.imm (.agg [.int .i64 u0, .int .i64 u1, .int .i64 u2, .str u3, .sl .any 6 u4, .sl .any 7 u5])] [] fun r0 g0=>
 Af (qW1 g0 r0)
 (Call E0.P Jl [.imm (.agg [.int .i64 u6, .int .i64 u7, .int .i64 u8, .str u9, .sl .any 6 v0, .sl .any 7 v1])] [] fun r1 g1=>
 Af (qW1 g1 r1)
 (Call E0.P Mq [.imm (.agg [.int .i64 u0, .int .i64 u1, .int .i64 u2, .str u3, .sl .any 6 u4, .sl .any 7 u5]),Ab false] [] fun r2 g2=>
 Af (qW2 g2 r2)
 (Br ((!decide (rI (rT r0 1)=rI r2)) == false)
 (Call E0.P Mq [.imm (.agg [.int .i64 u6, .int .i64 u7, .int .i64 u8, .str u9, .sl .any 6 v0, .sl .any 7 v1]),Ab false] [] fun r3 g3=>
 Af (qW2 g3 r3)
 (Let (!decide (rI (rT r1 1)=rI r3)) fun x4=>
 Br (x4 == false)
 (Call E0.P Jy [As (rS (rT r0 0))] [] fun r5 g5=>
 Af (M0 g5 r5)
 (Let (!rB r5) fun x6=>
 Br (x6 == false)
 (Call E0.P Jy [As (rS (rT r1 0))] [] fun r7 g7=>
 Af (M0 g7 r7)
 (Let (!rB r7) fun x8=>
 Br (x8)
 (K .ret ⟨[(4,Ab false)],[]⟩)
 (Ei (rS (rT r0 0)) (rI (rT r0 1)) (rS (rT r1 0)) (rI (rT r1 1)) u0 u1 u2 u3 u4 u5 u6 u7 u8 u9 v0 v1 (Dv K))))
 (Af ((!false)=true)
 (Let (true) fun x9=>
 Br (x9)
 (K .ret ⟨[(4,Ab false)],[]⟩)
 (Ei (rS (rT r0 0)) (rI (rT r0 1)) (rS (rT r1 0)) (rI (rT r1 1)) u0 u1 u2 u3 u4 u5 u6 u7 u8 u9 v0 v1 (Dv K))))))
 (Af ((!false)=true)
 (Let (true) fun x10=>
 Br (x10 == false)
 (Call E0.P Jy [As (rS (rT r1 0))] [] fun r11 g11=>
 Af (M0 g11 r11)
 (Let (!rB r11) fun x12=>
 Br (x12)
 (K .ret ⟨[(4,Ab false)],[]⟩)
 (Ei (rS (rT r0 0)) (rI (rT r0 1)) (rS (rT r1 0)) (rI (rT r1 1)) u0 u1 u2 u3 u4 u5 u6 u7 u8 u9 v0 v1 (Dv K))))
 (Af ((!false)=true)
 (Let (true) fun x13=>
 Br (x13)
 (K .ret ⟨[(4,Ab false)],[]⟩)
 (Ei (rS (rT r0 0)) (rI (rT r0 1)) (rS (rT r1 0)) (rI (rT r1 1)) u0 u1 u2 u3 u4 u5 u6 u7 u8 u9 v0 v1 (Dv K))))))))
 (Af ((!false)=true)
 (Let (true) fun x14=>
 Br (x14 == false)
 (Call E0.P Jy [As (rS (rT r0 0))] [] fun r15 g15=>
 Af (M0 g15 r15)
 (Let (!rB r15) fun x16=>
 Br (x16 == false)
 (Call E0.P Jy [As (rS (rT r1 0))] [] fun r17 g17=>
 Af (M0 g17 r17)
 (Let (!rB r17) fun x18=>
 Br (x18)
 (K .ret ⟨[(4,Ab false)],[]⟩)
 (Ei (rS (rT r0 0)) (rI (rT r0 1)) (rS (rT r1 0)) (rI (rT r1 1)) u0 u1 u2 u3 u4 u5 u6 u7 u8 u9 v0 v1 (Dv K))))
 (Af ((!false)=true)
 (Let (true) fun x19=>
 Br (x19)
 (K .ret ⟨[(4,Ab false)],[]⟩)
 (Ei (rS (rT r0 0)) (rI (rT r0 1)) (rS (rT r1 0)) (rI (rT r1 1)) u0 u1 u2 u3 u4 u5 u6 u7 u8 u9 v0 v1 (Dv K))))))
 (Af ((!false)=true)
 (Let (true) fun x20=>
 Br (x20 == false)
 (Call E0.P Jy [As (rS (rT r1 0))] [] fun r21 g21=>
 Af (M0 g21 r21)
 (Let (!rB r21) fun x22=>
 Br (x22)
 (K .ret ⟨[(4,Ab false)],[]⟩)
 (Ei (rS (rT r0 0)) (rI (rT r0 1)) (rS (rT r1 0)) (rI (rT r1 1)) u0 u1 u2 u3 u4 u5 u6 u7 u8 u9 v0 v1 (Dv K))))
 (Af ((!false)=true)
 (Let (true) fun x23=>
 Br (x23)
 (K .ret ⟨[(4,Ab false)],[]⟩)
 (Ei (rS (rT r0 0)) (rI (rT r0 1)) (rS (rT r1 0)) (rI (rT r1 1)) u0 u1 u2 u3 u4 u5 u6 u7 u8 u9 v0 v1 (Dv K))))))))))))):Y8 u0 u1 u2 u3 u4 u5 u6 u7 u8 u9 v0 v1 K:=Aw (Ar E0 Cw) (A8 Cw) 3 3 (Ae 3 ac_l17_WriteOne) [] _ K rfl (kr (by kernel_rfl) h)
theorem Adz(t5:LB)(t6:Int)(t7:LB)(t8 u0:Int)(u1 u2:Int)(u3:LB)(u4 u5:LL)(u6 u7 u8:Int)(u9:LB)(v0 v1:LL)(K:KK)(h:
 (Let (bif !decide (t6=(0:Int))then true else !decide (t8=(0:Int))) fun x0=>
 Br (x0)
 (Let (bif decide (t6=(0:Int))then true else t5 == []) fun x1=>
 Br (x1 == true)
 (Let (bif decide (t8=(0:Int))then true else t7 == []) fun x2=>
 Let (x2) fun x3=>
 Br (x3 == true)
 (Call E0.P Ik [] [] fun r4 g4=>
 Af (M0 g4 r4)
 (Let (rB r4) fun x5=>
 K .ret ⟨[(4,Ab x5)],[]⟩))
 (Af ((!true)=false)
 (Let (false) fun x6=>
 K .ret ⟨[(4,Ab x6)],[]⟩)))
 (Af ((!true)=false)
 (Let (false) fun x7=>
 Br (x7 == true)
 (Call E0.P Ik [] [] fun r8 g8=>
 Af (M0 g8 r8)
 (Let (rB r8) fun x9=>
 K .ret ⟨[(4,Ab x9)],[]⟩))
 (Af ((!true)=false)
 (Let (false) fun x10=>
 K .ret ⟨[(4,Ab x10)],[]⟩)))))
 (Call E0.P Fx [.imm (.agg [.int .i64 u0, .int .i64 u1, .int .i64 u2, .str u3, .sl .any 6 u4, .sl .any 7 u5])] [] fun r11 g11=>
 Af (qW3 g11 r11)
 (Call E0.P Jl [.imm (.agg [.int .i64 (gI (Ao r11) 0), .int .i64 (gI (Ao r11) 1), .int .i64 (gI (Ao r11) 2), .str (gS (Ao r11) 3), .sl .any 6 (gR (Ao r11) 4), .sl .any 7 (gR (Ao r11) 5)])] [] fun r12 g12=>
 Af (qW1 g12 r12)
 (Call E0.P Xx [.imm (.agg [.int .i64 u0, .int .i64 u1, .int .i64 u2, .str u3, .sl .any 6 u4, .sl .any 7 u5]), .imm (.agg [.int .i64 u6, .int .i64 u7, .int .i64 u8, .str u9, .sl .any 6 v0, .sl .any 7 v1])] [] fun r13 g13=>
 Af (M0 g13 r13)
 (Let (bif (t5 == t7) == rB r13 then rS (rT r12 0) == t5 else false) fun x14=>
 Let (bif x14 then decide (rI (rT r12 1)=(0:Int))else false) fun x15=>
 Br (x15 == true)
 (Call E0.P Ik [] [] fun r16 g16=>
 Af (M0 g16 r16)
 (Let (rB r16) fun x17=>
 K .ret ⟨[(4,Ab x17)],[]⟩))
 (Af ((!true)=false)
 (Let (false) fun x18=>
 K .ret ⟨[(4,Ab x18)],[]⟩)))))))):Ei t5 t6 t7 t8 u0 u1 u2 u3 u4 u5 u6 u7 u8 u9 v0 v1 K:=Aw (Ar E0 Cw) (A8 Cw) 3 8 (Ae 8 ac_l17_WriteOne) [] _ K rfl (kr (by kernel_rfl) h)
theorem Ad8(Q:QQ)(t4:Bool)(h:
 (Q (Ab t4) [])):Nf Q .ret ⟨[(4,Ab t4)],[]⟩:=kr (by kernel_rfl) h
theorem Ve(Q:QQ)(t4:Bool)(h:
 (Q (Ab t4) [])):Ng Q .ret ⟨[(4,Ab t4)],[]⟩:=kr (by kernel_rfl) h
theorem Ad9(Q:QQ)(u0 u1 u2:Int)(u3:LB)(u4 u5:LL)(u6 u7 u8:Int)(u9:LB)(v0 v1:LL)(h:
 (Y8 u0 u1 u2 u3 u4 u5 u6 u7 u8 u9 v0 v1 (Nf Q))):Ng Q .normal ⟨[(2, .ptr nL2 0),(3, .ptr nL3 0)],[(nL2, .blk Ac [Ai u0,Ai u1,Ai u2,As u3,Al 6 u4,Al 7 u5]),(nL3, .blk Ac [Ai u6,Ai u7,Ai u8,As u9,Al 6 v0,Al 7 v1])]⟩:=kr (by kernel_rfl) h
theorem Aea(K:KK)(t4:Bool)(h:
 (K .ret ⟨[(4,Ab t4)],[]⟩)):Dv K .ret ⟨[(4,Ab t4)],[]⟩:=kr (by kernel_rfl) h
theorem Akh:Cf E0.P 6 ac_l17_WriteOne.code Cw [.tmp 4]:=Bu _ _ Tryd.f6 [(1,[2,3,18],[2,3]),(3,[2,3],[]),(8,[2,3,5,6,7,8],[])] [4] _ 98 Tryd.func6 (by kernel_rfl) (by kernel_rfl) (by kernel_rfl) (by kernel_rfl)
theorem Ag8(a0_0 a0_1 a0_2:Int)(a0_3:LB)(a0_4 a0_5:LL)(a1_0 a1_1 a1_2:Int)(a1_3:LB)(a1_4 a1_5:LL)(Q:QQ)(h:
 (Call E0.P Yg [.imm (.agg [.int .i64 a0_0, .int .i64 a0_1, .int .i64 a0_2, .str a0_3, .sl .any 6 a0_4, .sl .any 7 a0_5]),Ai 500] [] fun r0 g0=>
 Af (M0 g0 r0)
 (Br ((!rB r0) == false)
 (Call E0.P Yg [.imm (.agg [.int .i64 a1_0, .int .i64 a1_1, .int .i64 a1_2, .str a1_3, .sl .any 6 a1_4, .sl .any 7 a1_5]),Ai 500] [] fun r1 g1=>
 Af (M0 g1 r1)
 (Let (!rB r1) fun x2=>
 Ru x2 a0_0 a0_1 a0_2 a0_3 a0_4 a0_5 a1_0 a1_1 a1_2 a1_3 a1_4 a1_5 (Ng Q)))
 (Af ((!false)=true)
 (Let (true) fun x3=>
 Ru x3 a0_0 a0_1 a0_2 a0_3 a0_4 a0_5 a1_0 a1_1 a1_2 a1_3 a1_4 a1_5 (Ng Q)))))):Call E0.P Aar [.imm (.agg [.int .i64 a0_0, .int .i64 a0_1, .int .i64 a0_2, .str a0_3, .sl .any 6 a0_4, .sl .any 7 a0_5]), .imm (.agg [.int .i64 a1_0, .int .i64 a1_1, .int .i64 a1_2, .str a1_3, .sl .any 6 a1_4, .sl .any 7 a1_5])] [] Q:=Bb (Ar E0 Cw) (A8 Cw) 3 0 6 ac_l17_WriteOne [.tmp 4] Akh _ _ Q rfl rfl (kr (by kernel_rfl) h)
noncomputable def ac_l17_written:AC:=(Ba [] [0] (codeOf Tryd.f15) 0).1
abbrev V3:Nat:=43
theorem Al1:Cf E0.P 15 ac_l17_written.code V3 [.tmp 0]:=Bu _ _ Tryd.f15 [] [0] _ 43 Tryd.func15 (by kernel_rfl) (by kernel_rfl) (by kernel_rfl) (by kernel_rfl)
theorem Ah1(Q:QQ)(h:
 (Call E0.P Jl [.imm (.agg [.int .i64 6, .int .i64 0, .int .i64 0, .str [], .sl .any 6 [], .sl .any 7 [[IV.str [66], .int .i64 (5:Int), .int .i64 (0:Int), .int .i64 (0:Int),
 .str [],
 .sl SK.any 6
 [[IV.int .i64 (2:Int), .int .i64 (1:Int), .int .i64 (0:Int), .str [],
 .sl SK.any 6 [], .sl SK.any 7 []],
 [.int .i64 (7:Int), .int .i64 (2:Int), .int .i64 (0:Int), .str [],
 .sl SK.any 6 [], .sl SK.any 7 []]],
 .sl SK.any 7 []],
 [.str [65,35], .int .i64 (4:Int), .int .i64 (0:Int),
 .int .i64 (0:Int), .str [97,40,98], .sl SK.any 6 [],
 .sl SK.any 7 []]]])] [] fun r0 g0=>
 Af (qW1 g0 r0)
 (Call E0.P Jl [.imm (.agg [.int .i64 8, .int .i64 0, .int .i64 0, .str [], .sl .any 6 [], .sl .any 7 []])] [] fun r1 g1=>
 Af (qW1 g1 r1)
 (Let (bif
 rS (rT r0 0) ==
 [(60:UInt8),60,47,65,35,50,51,32,
 40,97,92,40,98,41,32,47,
 66,32,91,49,32,50,32,48,
 32,82,93,62,62]then
 decide (rI (rT r0 1)=(0:Int))
 else false) fun x2=>
 Let (bif x2 then decide (rI (rT r1 1)=(10:Int))else false) fun x3=>
 Br (x3 == true)
 (Call E0.P Qa [.imm (.str [10])] [] fun r4 g4=>
 Af (U3 g4 r4)
 (Let (rS r4 == [(60:UInt8),48,65,62]) fun x5=>
 Br (x5 == true)
 (Call E0.P K8 [.imm (.str [97,32,98])] [] fun r6 g6=>
 Af (U3 g6 r6)
 (Let (rS r6 == [(47:UInt8),97,35,50,48,98]) fun x7=>
 Q (Ab x7) []))
 (Af ((!true)=false)
 (Let (false) fun x8=>
 Q (Ab x8) []))))
 (Af ((!true)=false)
 (Let (false) fun x9=>
 Br (x9 == true)
 (Call E0.P K8 [.imm (.str [97,32,98])] [] fun r10 g10=>
 Af (U3 g10 r10)
 (Let (rS r10 == [(47:UInt8),97,35,50,48,98]) fun x11=>
 Q (Ab x11) []))
 (Af ((!true)=false)
 (Let (false) fun x12=>
 Q (Ab x12) [])))))))):Call E0.P Ik [] [] Q:=Bb (Ar E0 V3) (A8 V3) 3 0 15 ac_l17_written [.tmp 0] Al1 _ _ Q rfl rfl (kr (by kernel_rfl) h)
noncomputable def ac_l17_seen:AC:=(Ba [(2,[0,3],[]),(4,[],[]),(9,[],[])] [2] (codeOf Tryd.f23) 0).1
abbrev Gu:Nat:=20
def Ug(t0:LB)(t3:Int)(K:KK):Prop:=Bz 2 E0.P Gu (Au 2 ac_l17_seen).code ⟨[(0,As t0),(3,Ai t3)],[]⟩ K
def Aei(K:KK):Prop:=Aq 9 E0.P Gu (Ae 9 ac_l17_seen).code ⟨[],[]⟩ K
def Ze(Q:QQ):KK:=kE fun st=>finish 0 E0.T [.tmp 2] [] Q st
def Aex(Q:QQ):KK:=kF 0 (fun st=>Aq 9 E0.P Gu (Ae 9 ac_l17_seen).code (mask [] st) (Ze Q)) fun st=>finish 0 E0.T [.tmp 2] [] Q st
theorem Aam(t0:LB)(t3:Int)(K:KK)(h:
 (Br (decide (t3<(↑t0.length:Int)))
 (Af ((0:Int)≤t3∧t3<(↑t0.length:Int))
 (Af (decide ((↑(t0.getD t3.toNat 0).toNat:Int)<(32:Int))=false→(0:Int)≤t3∧t3<(↑t0.length:Int))
 (Let (bif decide ((↑(t0.getD t3.toNat 0).toNat:Int)<(32:Int))then true
 else decide ((126:Int)<(↑(t0.getD t3.toNat 0).toNat:Int))) fun x0=>
 Br (x0)
 (K .ret ⟨[(2,Ab false)],[]⟩)
 (Ug t0 (IntKind.i64.wrap (t3+(1:Int))) K))))
 (K (.exit 0) ⟨[],[]⟩))):Ug t0 t3 K:=Bq (Ar E0 Gu) (A8 Gu) 3 2 (Au 2 ac_l17_seen) [0,3] _ K rfl (kr (by kernel_rfl) h)
theorem Ajb(K:KK)(h:
 (K .ret ⟨[(2,Ab true)],[]⟩)):Aei K:=Aw (Ar E0 Gu) (A8 Gu) 3 9 (Ae 9 ac_l17_seen) [] _ K rfl (kr (by kernel_rfl) h)
theorem Ajm(Q:QQ)(t2:Bool)(h:
 (Q (Ab t2) [])):Ze Q .ret ⟨[(2,Ab t2)],[]⟩:=kr (by kernel_rfl) h
theorem Ajn(Q:QQ)(h:
 (Aei (Ze Q))):Aex Q (.exit 0) ⟨[],[]⟩:=kr (by kernel_rfl) h
theorem Aq4:Cf E0.P 23 ac_l17_seen.code Gu [.tmp 2]:=Bu _ _ Tryd.f23 [(2,[0,3],[]),(4,[],[]),(9,[],[])] [2] _ 20 Tryd.func23 (by kernel_rfl) (by kernel_rfl) (by kernel_rfl) (by kernel_rfl)
theorem Anj(a0:LB)(Q:QQ)(h:
 (Ug a0 ((0:Int)) (Aex Q))):Call E0.P Jy [As a0] [] Q:=Bb (Ar E0 Gu) (A8 Gu) 3 0 23 ac_l17_seen [.tmp 2] Aq4 _ _ Q rfl rfl (kr (by kernel_rfl) h)
noncomputable def ac_value_Same:AC:=(Ba [] [4] (codeOf Tryd.f25) 0).1
abbrev X0:Nat:=10
theorem Ano:Cf E0.P 25 ac_value_Same.code X0 [.tmp 4]:=Bu _ _ Tryd.f25 [] [4] _ 10 Tryd.func25 (by kernel_rfl) (by kernel_rfl) (by kernel_rfl) (by kernel_rfl)
theorem Ajh(a0_0 a0_1 a0_2:Int)(a0_3:LB)(a0_4 a0_5:LL)(a1_0 a1_1 a1_2:Int)(a1_3:LB)(a1_4 a1_5:LL)(Q:QQ)(h:
 (Call E0.P Fx [.imm (.agg [.int .i64 a0_0, .int .i64 a0_1, .int .i64 a0_2, .str a0_3, .sl .any 6 a0_4, .sl .any 7 a0_5])] [] fun r0 g0=>
 Af (qW3 g0 r0)
 (Call E0.P Fx [.imm (.agg [.int .i64 a1_0, .int .i64 a1_1, .int .i64 a1_2, .str a1_3, .sl .any 6 a1_4, .sl .any 7 a1_5])] [] fun r1 g1=>
 Af (qW3 g1 r1)
 (Call E0.P Fy [.imm (.agg [.int .i64 (gI (Ao r0) 0), .int .i64 (gI (Ao r0) 1), .int .i64 (gI (Ao r0) 2), .str (gS (Ao r0) 3), .sl .any 6 (gR (Ao r0) 4), .sl .any 7 (gR (Ao r0) 5)]), .imm (.agg [.int .i64 (gI (Ao r1) 0), .int .i64 (gI (Ao r1) 1), .int .i64 (gI (Ao r1) 2), .str (gS (Ao r1) 3), .sl .any 6 (gR (Ao r1) 4), .sl .any 7 (gR (Ao r1) 5)])] [] fun r2 g2=>
 Af (M0 g2 r2)
 (Q (Ab (rB r2)) []))))):Call E0.P Xx [.imm (.agg [.int .i64 a0_0, .int .i64 a0_1, .int .i64 a0_2, .str a0_3, .sl .any 6 a0_4, .sl .any 7 a0_5]), .imm (.agg [.int .i64 a1_0, .int .i64 a1_1, .int .i64 a1_2, .str a1_3, .sl .any 6 a1_4, .sl .any 7 a1_5])] [] Q:=Bb (Ar E0 X0) (A8 X0) 3 0 25 ac_value_Same [.tmp 4] Ano _ _ Q rfl rfl (kr (by kernel_rfl) h)
noncomputable def ac_value_alike:AC:=(Ba [] [4] (codeOf Tryd.f64) 0).1
abbrev V6:Nat:=43
theorem Al5:Cf E0.P 64 ac_value_alike.code V6 [.tmp 4]:=Bu _ _ Tryd.f64 [] [4] _ 43 Tryd.func64 (by kernel_rfl) (by kernel_rfl) (by kernel_rfl) (by kernel_rfl)
theorem Ah5(a0_0 a0_1 a0_2:Int)(a0_3:LB)(a0_4 a0_5:LL)(a1_0 a1_1 a1_2:Int)(a1_3:LB)(a1_4 a1_5:LL)(Q:QQ)(h:
 (Let (bif !decide (a0_0=a1_0)then true else !decide (a0_1=a1_1)) fun x0=>
 Let (bif x0 then true else !decide (a0_2=a1_2)) fun x1=>
 Let (bif x1 then true else !a0_3 == a1_3) fun x2=>
 Br (x2)
 (Q (Ab false) [])
 (Call E0.P Gr [Al 6 a0_4,Al 6 a1_4, .fn Fy []] [] fun r3 g3=>
 Af (M0 g3 r3)
 (Br (rB r3 == true)
 (Call E0.P H7 [Al 7 a0_5,Al 7 a1_5, .fn Gi []] [] fun r4 g4=>
 Af (M0 g4 r4)
 (Let (rB r4) fun x5=>
 Q (Ab x5) []))
 (Af ((!true)=false)
 (Let (false) fun x6=>
 Q (Ab x6) [])))))):Call E0.P Fy [.imm (.agg [.int .i64 a0_0, .int .i64 a0_1, .int .i64 a0_2, .str a0_3, .sl .any 6 a0_4, .sl .any 7 a0_5]), .imm (.agg [.int .i64 a1_0, .int .i64 a1_1, .int .i64 a1_2, .str a1_3, .sl .any 6 a1_4, .sl .any 7 a1_5])] [] Q:=Bb (Ar E0 V6) (A8 V6) 3 0 64 ac_value_alike [.tmp 4] Al5 _ _ Q rfl rfl (kr (by kernel_rfl) h)
noncomputable def ac_value_alike_1:AC:=(Ba [] [4] (codeOf Tryd.f101) 0).1
abbrev Si:Nat:=17
theorem Ai0:Cf E0.P 101 ac_value_alike_1.code Si [.tmp 4]:=Bu _ _ Tryd.f101 [] [4] _ 17 Tryd.func101 (by kernel_rfl) (by kernel_rfl) (by kernel_rfl) (by kernel_rfl)
theorem Aet(a0_0:LB)(a0_1 a0_2 a0_3:Int)(a0_4:LB)(a0_5 a0_6:LL)(a1_0:LB)(a1_1 a1_2 a1_3:Int)(a1_4:LB)(a1_5 a1_6:LL)(Q:QQ)(h:
 (Br ((a0_0 == a1_0) == true)
 (Call E0.P Fy [.imm (.agg [.int .i64 a0_1, .int .i64 a0_2, .int .i64 a0_3, .str a0_4, .sl .any 6 a0_5, .sl .any 7 a0_6]), .imm (.agg [.int .i64 a1_1, .int .i64 a1_2, .int .i64 a1_3, .str a1_4, .sl .any 6 a1_5, .sl .any 7 a1_6])] [] fun r0 g0=>
 Af (M0 g0 r0)
 (Let (rB r0) fun x1=>
 Q (Ab x1) []))
 (Af ((!true)=false)
 (Let (false) fun x2=>
 Q (Ab x2) [])))):Call E0.P Gi [.imm (.agg [.str a0_0, .int .i64 a0_1, .int .i64 a0_2, .int .i64 a0_3, .str a0_4, .sl .any 6 a0_5, .sl .any 7 a0_6]), .imm (.agg [.str a1_0, .int .i64 a1_1, .int .i64 a1_2, .int .i64 a1_3, .str a1_4, .sl .any 6 a1_5, .sl .any 7 a1_6])] [] Q:=Bb (Ar E0 Si) (A8 Si) 3 0 101 ac_value_alike_1 [.tmp 4] Ai0 _ _ Q rfl rfl (kr (by kernel_rfl) h)
noncomputable def ac_slices_EqualFunc_Value_Value:AC:=(Ba [(5,[1,2,15,16,17],[]),(7,[],[]),(14,[],[])] [6] (codeOf Tryd.f99) 0).1
abbrev Bg:Nat:=32
def En(t1r t15r:LL)(t16 t17:Int)(K:KK):Prop:=Bz 5 E0.P Bg (Au 5 ac_slices_EqualFunc_Value_Value).code ⟨[(1,Al 6 t1r),(2, .fn Fy []),(15,Al 6 t15r),(16,Ai t16),(17,Ai t17)],[]⟩ K
def Jt(K:KK):Prop:=Aq 14 E0.P Bg (Ae 14 ac_slices_EqualFunc_Value_Value).code ⟨[],[]⟩ K
def Gg(Q:QQ):KK:=kE fun st=>finish 0 E0.T [.tmp 6] [] Q st
def Gh(Q:QQ):KK:=kF 0 (fun st=>Aq 14 E0.P Bg (Ae 14 ac_slices_EqualFunc_Value_Value).code (mask [] st) (Gg Q)) fun st=>finish 0 E0.T [.tmp 6] [] Q st
theorem I6(t1r t15r:LL)(t16 t17:Int)(K:KK)(h:
 (Br (decide (t17<t16))
 (Af (((0:Int)≤t17∧t17<(↑t15r.length:Int))∧
 Cb
 [.int .i64, .int .i64, .int .i64, .str, .sl 6 Ac,
 .sl 7 Ak]
 (t15r.getD t17.toNat [])=
 true)
 (Af (((0:Int)≤t17∧t17<(↑t1r.length:Int))∧
 Cb
 [.int .i64, .int .i64, .int .i64, .str, .sl 6 Ac,
 .sl 7 Ak]
 (t1r.getD t17.toNat [])=
 true)
 (Call E0.P Fy [.imm (.agg [.int .i64 (gI (t15r.getD t17.toNat []) 0), .int .i64 (gI (t15r.getD t17.toNat []) 1), .int .i64 (gI (t15r.getD t17.toNat []) 2), .str (gS (t15r.getD t17.toNat []) 3), .sl .any 6 (gR (t15r.getD t17.toNat []) 4), .sl .any 7 (gR (t15r.getD t17.toNat []) 5)]), .imm (.agg [.int .i64 (gI (t1r.getD t17.toNat []) 0), .int .i64 (gI (t1r.getD t17.toNat []) 1), .int .i64 (gI (t1r.getD t17.toNat []) 2), .str (gS (t1r.getD t17.toNat []) 3), .sl .any 6 (gR (t1r.getD t17.toNat []) 4), .sl .any 7 (gR (t1r.getD t17.toNat []) 5)])] [] fun r0 g0=>
 Af (M0 g0 r0)
 (Br (!rB r0)
 (K .ret ⟨[(6,Ab false)],[]⟩)
 (En t1r t15r t16 (IntKind.i64.wrap (t17+(1:Int))) K)))))
 (K (.exit 0) ⟨[],[]⟩))):En t1r t15r t16 t17 K:=Bq (Ar E0 Bg) (A8 Bg) 3 5 (Au 5 ac_slices_EqualFunc_Value_Value) [1,2,15,16,17] _ K rfl (kr (by kernel_rfl) h)
theorem O7(K:KK)(h:
 (K .ret ⟨[(6,Ab true)],[]⟩)):Jt K:=Aw (Ar E0 Bg) (A8 Bg) 3 14 (Ae 14 ac_slices_EqualFunc_Value_Value) [] _ K rfl (kr (by kernel_rfl) h)
theorem Pz(Q:QQ)(t6:Bool)(h:
 (Q (Ab t6) [])):Gg Q .ret ⟨[(6,Ab t6)],[]⟩:=kr (by kernel_rfl) h
theorem P5(Q:QQ)(t6:Bool)(h:
 (Q (Ab t6) [])):Gh Q .ret ⟨[(6,Ab t6)],[]⟩:=kr (by kernel_rfl) h
theorem P6(Q:QQ)(h:
 (Jt (Gg Q))):Gh Q (.exit 0) ⟨[],[]⟩:=kr (by kernel_rfl) h
theorem Tj:Cf E0.P 99 ac_slices_EqualFunc_Value_Value.code Bg [.tmp 6]:=Bu _ _ Tryd.f99 [(5,[1,2,15,16,17],[]),(7,[],[]),(14,[],[])] [6] _ 32 Tryd.func99 (by kernel_rfl) (by kernel_rfl) (by kernel_rfl) (by kernel_rfl)
theorem Q4(a0 a1:LL)(Q:QQ)(h:
 (Br (!decide ((↑a0.length:Int)=(↑a1.length:Int)))
 (Q (Ab false) [])
 (En a1 a0 ((↑a0.length:Int)) ((0:Int)) (Gh Q)))):Call E0.P Gr [Al 6 a0,Al 6 a1, .fn Fy []] [] Q:=Bb (Ar E0 Bg) (A8 Bg) 3 0 99 ac_slices_EqualFunc_Value_Value [.tmp 6] Tj _ _ Q rfl rfl (kr (by kernel_rfl) h)
noncomputable def ac_slices_EqualFunc_Pair_Pair:AC:=(Ba [(5,[1,2,15,16,17],[]),(7,[],[]),(14,[],[])] [6] (codeOf Tryd.f100) 0).1
abbrev Bj:Nat:=32
def E8(t1r t15r:LL)(t16 t17:Int)(K:KK):Prop:=Bz 5 E0.P Bj (Au 5 ac_slices_EqualFunc_Pair_Pair).code ⟨[(1,Al 7 t1r),(2, .fn Gi []),(15,Al 7 t15r),(16,Ai t16),(17,Ai t17)],[]⟩ K
def Kr(K:KK):Prop:=Aq 14 E0.P Bj (Ae 14 ac_slices_EqualFunc_Pair_Pair).code ⟨[],[]⟩ K
def Gx(Q:QQ):KK:=kE fun st=>finish 0 E0.T [.tmp 6] [] Q st
def Gy(Q:QQ):KK:=kF 0 (fun st=>Aq 14 E0.P Bj (Ae 14 ac_slices_EqualFunc_Pair_Pair).code (mask [] st) (Gx Q)) fun st=>finish 0 E0.T [.tmp 6] [] Q st
theorem Ju(t1r t15r:LL)(t16 t17:Int)(K:KK)(h:
 (Br (decide (t17<t16))
 (Af (((0:Int)≤t17∧t17<(↑t15r.length:Int))∧
 Cb
 [.str, .int .i64, .int .i64, .int .i64, .str, .sl 6 Ac,
 .sl 7 Ak]
 (t15r.getD t17.toNat [])=
 true)
 (Af (((0:Int)≤t17∧t17<(↑t1r.length:Int))∧
 Cb
 [.str, .int .i64, .int .i64, .int .i64, .str, .sl 6 Ac,
 .sl 7 Ak]
 (t1r.getD t17.toNat [])=
 true)
 (Call E0.P Gi [.imm (.agg [.str (gS (t15r.getD t17.toNat []) 0), .int .i64 (gI (t15r.getD t17.toNat []) 1), .int .i64 (gI (t15r.getD t17.toNat []) 2), .int .i64 (gI (t15r.getD t17.toNat []) 3), .str (gS (t15r.getD t17.toNat []) 4), .sl .any 6 (gR (t15r.getD t17.toNat []) 5), .sl .any 7 (gR (t15r.getD t17.toNat []) 6)]), .imm (.agg [.str (gS (t1r.getD t17.toNat []) 0), .int .i64 (gI (t1r.getD t17.toNat []) 1), .int .i64 (gI (t1r.getD t17.toNat []) 2), .int .i64 (gI (t1r.getD t17.toNat []) 3), .str (gS (t1r.getD t17.toNat []) 4), .sl .any 6 (gR (t1r.getD t17.toNat []) 5), .sl .any 7 (gR (t1r.getD t17.toNat []) 6)])] [] fun r0 g0=>
 Af (M0 g0 r0)
 (Br (!rB r0)
 (K .ret ⟨[(6,Ab false)],[]⟩)
 (E8 t1r t15r t16 (IntKind.i64.wrap (t17+(1:Int))) K)))))
 (K (.exit 0) ⟨[],[]⟩))):E8 t1r t15r t16 t17 K:=Bq (Ar E0 Bj) (A8 Bj) 3 5 (Au 5 ac_slices_EqualFunc_Pair_Pair) [1,2,15,16,17] _ K rfl (kr (by kernel_rfl) h)
theorem Ql(K:KK)(h:
 (K .ret ⟨[(6,Ab true)],[]⟩)):Kr K:=Aw (Ar E0 Bj) (A8 Bj) 3 14 (Ae 14 ac_slices_EqualFunc_Pair_Pair) [] _ K rfl (kr (by kernel_rfl) h)
theorem Q6(Q:QQ)(t6:Bool)(h:
 (Q (Ab t6) [])):Gx Q .ret ⟨[(6,Ab t6)],[]⟩:=kr (by kernel_rfl) h
theorem Q7(Q:QQ)(t6:Bool)(h:
 (Q (Ab t6) [])):Gy Q .ret ⟨[(6,Ab t6)],[]⟩:=kr (by kernel_rfl) h
theorem Q8(Q:QQ)(h:
 (Kr (Gx Q))):Gy Q (.exit 0) ⟨[],[]⟩:=kr (by kernel_rfl) h
theorem U9:Cf E0.P 100 ac_slices_EqualFunc_Pair_Pair.code Bj [.tmp 6]:=Bu _ _ Tryd.f100 [(5,[1,2,15,16,17],[]),(7,[],[]),(14,[],[])] [6] _ 32 Tryd.func100 (by kernel_rfl) (by kernel_rfl) (by kernel_rfl) (by kernel_rfl)
theorem Tg(a0 a1:LL)(Q:QQ)(h:
 (Br (!decide ((↑a0.length:Int)=(↑a1.length:Int)))
 (Q (Ab false) [])
 (E8 a1 a0 ((↑a0.length:Int)) ((0:Int)) (Gy Q)))):Call E0.P H7 [Al 7 a0,Al 7 a1, .fn Gi []] [] Q:=Bb (Ar E0 Bj) (A8 Bj) 3 0 100 ac_slices_EqualFunc_Pair_Pair [.tmp 6] U9 _ _ Q rfl rfl (kr (by kernel_rfl) h)
noncomputable def ac_write_Text:AC:=(Ba [] [2,3] (codeOf Tryd.f16) 0).1
abbrev X3:Nat:=13
theorem Anq:Cf E0.P 16 ac_write_Text.code X3 [.tmp 2, .tmp 3]:=Bu _ _ Tryd.f16 [] [2,3] _ 13 Tryd.func16 (by kernel_rfl) (by kernel_rfl) (by kernel_rfl) (by kernel_rfl)
theorem Ajj(a0_0 a0_1 a0_2:Int)(a0_3:LB)(a0_4 a0_5:LL)(Q:QQ)(h:
 (Call E0.P Mq [.imm (.agg [.int .i64 a0_0, .int .i64 a0_1, .int .i64 a0_2, .str a0_3, .sl .any 6 a0_4, .sl .any 7 a0_5]),Ab false] [] fun r0 g0=>
 Af (qW2 g0 r0)
 (Br (!decide (rI r0=(0:Int)))
 (Q (.tup [.imm (.str []),Ai (rI r0)]) [])
 (Call E0.P Fx [.imm (.agg [.int .i64 a0_0, .int .i64 a0_1, .int .i64 a0_2, .str a0_3, .sl .any 6 a0_4, .sl .any 7 a0_5])] [] fun r1 g1=>
 Af (qW3 g1 r1)
 (Call E0.P Ms [.imm (.agg [.int .i64 (gI (Ao r1) 0), .int .i64 (gI (Ao r1) 1), .int .i64 (gI (Ao r1) 2), .str (gS (Ao r1) 3), .sl .any 6 (gR (Ao r1) 4), .sl .any 7 (gR (Ao r1) 5)])] [] fun r2 g2=>
 Af (U3 g2 r2)
 (Q (.tup [As (rS r2),Ai 0]) [])))))):Call E0.P Jl [.imm (.agg [.int .i64 a0_0, .int .i64 a0_1, .int .i64 a0_2, .str a0_3, .sl .any 6 a0_4, .sl .any 7 a0_5])] [] Q:=Bb (Ar E0 X3) (A8 X3) 3 0 16 ac_write_Text [.tmp 2, .tmp 3] Anq _ _ Q rfl rfl (kr (by kernel_rfl) h)
noncomputable def ac_write_Name:AC:=(Ba [(4,[0,3,8,9],[]),(6,[3],[]),(10,[0,3,5,8,9,25],[0,3,5,8,9]),(12,[0,3,8,9],[]),(13,[0,3,5,8,9],[0,3,8,9]),(16,[0,3,8,9],[0,3,8,9]),(17,[3],[])] [2] (codeOf Tryd.f18) 0).1
abbrev Bn:Nat:=41
def Ih(t0:LB)(t8 t9:Int)(u0:LL)(K:KK):Prop:=Bz 4 E0.P Bn (Au 4 ac_write_Name).code ⟨[(0,As t0),(3, .ptr nL3 0),(8,Ai t8),(9,Ai t9)],[(nL3, .blk Az [.self nL3, .own (nL3.cell 1)]),((nL3.cell 1), .arr (C9+2) true 1 u0)]⟩ K
def Oz(t0:LB)(t5 t8 t9:Int)(t25:Bool)(u0:LL)(K:KK):Prop:=Aq 10 E0.P Bn (Ae 10 ac_write_Name).code ⟨[(0,As t0),(3, .ptr nL3 0),(5, .imm (.int .u8 t5)),(8,Ai t8),(9,Ai t9),(25,Ab t25)],[(nL3, .blk Az [.self nL3, .own (nL3.cell 1)]),((nL3.cell 1), .arr (C9+2) true 1 u0)]⟩ K
def Aah(u0:LL)(K:KK):Prop:=Aq 17 E0.P Bn (Ae 17 ac_write_Name).code ⟨[(3, .ptr nL3 0)],[(nL3, .blk Az [.self nL3, .own (nL3.cell 1)]),((nL3.cell 1), .arr (C9+2) true 1 u0)]⟩ K
def O0(t0:LB)(t8 t9:Int)(u0:LL)(K:KK):Prop:=Aq 16 E0.P Bn (Ae 16 ac_write_Name).code ⟨[(0,As t0),(3, .ptr nL3 0),(8,Ai t8),(9,Ai t9)],[(nL3, .blk Az [.self nL3, .own (nL3.cell 1)]),((nL3.cell 1), .arr (C9+2) true 1 u0)]⟩ K
def Aag(t0:LB)(t5 t8 t9:Int)(u0:LL)(K:KK):Prop:=Aq 13 E0.P Bn (Ae 13 ac_write_Name).code ⟨[(0,As t0),(3, .ptr nL3 0),(5, .imm (.int .u8 t5)),(8,Ai t8),(9,Ai t9)],[(nL3, .blk Az [.self nL3, .own (nL3.cell 1)]),((nL3.cell 1), .arr (C9+2) true 1 u0)]⟩ K
def Vm(Q:QQ):KK:=kE fun st=>finish 0 E0.T [.tmp 2] [] Q st
def Abm(Q:QQ):KK:=kF 0 (fun st=>Aq 17 E0.P Bn (Ae 17 ac_write_Name).code (mask [3] st) (Vm Q)) fun st=>finish 0 E0.T [.tmp 2] [] Q st
def J4(K:KK):Ex→St→Prop
 | .normal,st=>Bz 4 E0.P Bn (Au 4 ac_write_Name).code (mask [0,3,8,9] st) K
 | .exit i,st=>K (.exit i) st
 | .goto i,st=>K (.goto i) st
 | .ret,st=>K .ret st
def Vn(K:KK):KK:=kC 1 (fun st=>Aq 16 E0.P Bn (Ae 16 ac_write_Name).code (mask [0,3,8,9] st) (J4 K)) K
def Mg(K:KK):Ex→St→Prop
 | .normal,st=>Aq 13 E0.P Bn (Ae 13 ac_write_Name).code (mask [0,3,5,8,9] st) (Vn K)
 | .exit i,st=>(match (i.beq 1:Bool)with
 |true=>Aq 16 E0.P Bn (Ae 16 ac_write_Name).code (mask [0,3,8,9] st) (J4 K)
 |false=>K (.exit i) st)
 | .goto i,st=>K (.goto i) st
 | .ret,st=>K .ret st
theorem Yb(t0:LB)(t8 t9:Int)(u0:LL)(K:KK)(h:
 (Br (decide (t9<t8))
 (Af ((0:Int)≤t9∧t9<(↑t0.length:Int))
 (Call E0.P Rn [.imm (.int .u8 ((↑(t0.getD t9.toNat 0).toNat:Int)))] [] fun r0 g0=>
 Af (M0 g0 r0)
 (Br (rB r0 == true)
 (Call E0.P Xw [.imm (.int .u8 ((↑(t0.getD t9.toNat 0).toNat:Int)))] [] fun r1 g1=>
 Af (qW2 g1 r1)
 (Let (decide (rI r1=(2:Int))) fun x2=>
 Let (bif x2 then !decide ((↑(t0.getD t9.toNat 0).toNat:Int)=(35:Int))else false) fun x3=>
 Oz t0 ((↑(t0.getD t9.toNat 0).toNat:Int)) t8 t9 x3 u0 (Mg K)))
 (Af ((!true)=false)
 (Let (false) fun x4=>
 Let (bif x4 then !decide ((↑(t0.getD t9.toNat 0).toNat:Int)=(35:Int))else false) fun x5=>
 Oz t0 ((↑(t0.getD t9.toNat 0).toNat:Int)) t8 t9 x5 u0 (Mg K))))))
 (K (.exit 0) ⟨[(3, .ptr nL3 0)],[(nL3, .blk Az [.self nL3, .own (nL3.cell 1)]),((nL3.cell 1), .arr (C9+2) true 1 u0)]⟩))):Ih t0 t8 t9 u0 K:=Bq (Ar E0 Bn) (A8 Bn) 3 4 (Au 4 ac_write_Name) [0,3,8,9] _ K rfl (kr (by kernel_rfl) h)
theorem Aep(t0:LB)(t5 t8 t9:Int)(t25:Bool)(u0:LL)(K:KK)(h:
 (Br (t25)
 (Af ((u0.length+1)*1≤140737488355328∧u0.length+1≤140737488355328)
 (K (.exit (1)) ⟨[(0,As t0),(3, .ptr nL3 0),(8,Ai t8),(9,Ai t9)],[(nL3, .blk Az [.self nL3, .own (nL3.cell 1)]),((nL3.cell 1), .arr (C9+2) true 1 (u0++[[IV.int .u8 t5]]))]⟩))
 (K .normal ⟨[(0,As t0),(3, .ptr nL3 0),(5, .imm (.int .u8 t5)),(8,Ai t8),(9,Ai t9)],[(nL3, .blk Az [.self nL3, .own (nL3.cell 1)]),((nL3.cell 1), .arr (C9+2) true 1 u0)]⟩))):Oz t0 t5 t8 t9 t25 u0 K:=Aw (Ar E0 Bn) (A8 Bn) 3 10 (Ae 10 ac_write_Name) [0,3,5,8,9] _ K rfl (kr (by kernel_rfl) h)
theorem Aes(u0:LL)(K:KK)(h:
 (Af (((↑u0.length:Int)=(↑u0.length:Int)∧u0.length≤9223372036854775807)∧
 ∀(r:List IV),r∈u0→Cb [.int .u8] r=true)
 (K .ret ⟨[(2,As (List.map (fun r=>UInt8.ofNat (gI r 0).toNat) u0))],[]⟩))):Aah u0 K:=Aw (Ar E0 Bn) (A8 Bn) 3 17 (Ae 17 ac_write_Name) [] _ K rfl (kr (by kernel_rfl) h)
theorem Aer(t0:LB)(t8 t9:Int)(u0:LL)(K:KK)(h:
 (K .normal ⟨[(0,As t0),(3, .ptr nL3 0),(8,Ai t8),(9,Ai (IntKind.i64.wrap (t9+(1:Int))))],[(nL3, .blk Az [.self nL3, .own (nL3.cell 1)]),((nL3.cell 1), .arr (C9+2) true 1 u0)]⟩)):O0 t0 t8 t9 u0 K:=Aw (Ar E0 Bn) (A8 Bn) 3 16 (Ae 16 ac_write_Name) [0,3,8,9] _ K rfl (kr (by kernel_rfl) h)
theorem Aeq(t0:LB)(t5 t8 t9:Int)(u0:LL)(K:KK)(h:
 (Af ((u0.length+1)*1≤140737488355328∧u0.length+1≤140737488355328)
 (Af ((0:Int)≤(4:Int))
 (Call E0.P J5 [.imm (.int .i64 (IntKind.i64.wrap (t5.fdiv ((2:Int) ^ 4))))] [] fun r0 g0=>
 Af (qW5 g0 r0)
 (Af (((u0++[[IV.int .u8 (35:Int)]]).length+1)*1≤140737488355328∧
 (u0++[[IV.int .u8 (35:Int)]]).length+1≤140737488355328)
 (Call E0.P J5 [.imm (.int .i64 (IntKind.i64.wrap (IntKind.u8.wrap (↑(BitVec.ofInt (8:Nat) t5 &&& BitVec.ofInt (8:Nat) (15:Int)).toNat:Int))))] [] fun r1 g1=>
 Af (qW5 g1 r1)
 (Af (((u0++[[IV.int .u8 (35:Int)]]++[[IV.int .u8 (rI r0)]]).length+1)*1≤
 140737488355328∧
 (u0++[[IV.int .u8 (35:Int)]]++[[IV.int .u8 (rI r0)]]).length+1≤
 140737488355328)
 (K .normal ⟨[(0,As t0),(3, .ptr nL3 0),(8,Ai t8),(9,Ai t9)],[(nL3, .blk Az [.self nL3, .own (nL3.cell 1)]),((nL3.cell 1), .arr (C9+2) true 1 (u0++[[IV.int .u8 (35:Int)]]++[[IV.int .u8 (rI r0)]]++[[IV.int .u8 (rI r1)]]))]⟩)))))))):Aag t0 t5 t8 t9 u0 K:=Aw (Ar E0 Bn) (A8 Bn) 3 13 (Ae 13 ac_write_Name) [0,3,8,9] _ K rfl (kr (by kernel_rfl) h)
theorem Ahe(Q:QQ)(t2:LB)(h:
 (Q (As t2) [])):Vm Q .ret ⟨[(2,As t2)],[]⟩:=kr (by kernel_rfl) h
theorem Ahf(Q:QQ)(u0:LL)(h:
 (Aah u0 (Vm Q))):Abm Q (.exit 0) ⟨[(3, .ptr nL3 0)],[(nL3, .blk Az [.self nL3, .own (nL3.cell 1)]),((nL3.cell 1), .arr (C9+2) true 1 u0)]⟩:=kr (by kernel_rfl) h
theorem Ahg(K:KK)(t0:LB)(t8 t9:Int)(u0:LL)(h:
 (Ih t0 t8 t9 u0 K)):J4 K .normal ⟨[(0,As t0),(3, .ptr nL3 0),(8,Ai t8),(9,Ai t9)],[(nL3, .blk Az [.self nL3, .own (nL3.cell 1)]),((nL3.cell 1), .arr (C9+2) true 1 u0)]⟩:=kr (by kernel_rfl) h
theorem Ahh(K:KK)(t0:LB)(t8 t9:Int)(u0:LL)(h:
 (O0 t0 t8 t9 u0 (J4 K))):Vn K .normal ⟨[(0,As t0),(3, .ptr nL3 0),(8,Ai t8),(9,Ai t9)],[(nL3, .blk Az [.self nL3, .own (nL3.cell 1)]),((nL3.cell 1), .arr (C9+2) true 1 u0)]⟩:=kr (by kernel_rfl) h
theorem Ahi(K:KK)(t0:LB)(t8 t9:Int)(u0:LL)(h:
 (O0 t0 t8 t9 u0 (J4 K))):Mg K (.exit (1)) ⟨[(0,As t0),(3, .ptr nL3 0),(8,Ai t8),(9,Ai t9)],[(nL3, .blk Az [.self nL3, .own (nL3.cell 1)]),((nL3.cell 1), .arr (C9+2) true 1 u0)]⟩:=kr (by kernel_rfl) h
theorem Ahj(K:KK)(t0:LB)(t5 t8 t9:Int)(u0:LL)(h:
 (Aag t0 t5 t8 t9 u0 (Vn K))):Mg K .normal ⟨[(0,As t0),(3, .ptr nL3 0),(5, .imm (.int .u8 t5)),(8,Ai t8),(9,Ai t9)],[(nL3, .blk Az [.self nL3, .own (nL3.cell 1)]),((nL3.cell 1), .arr (C9+2) true 1 u0)]⟩:=kr (by kernel_rfl) h
theorem Anp:Cf E0.P 18 ac_write_Name.code Bn [.tmp 2]:=Bu _ _ Tryd.f18 [(4,[0,3,8,9],[]),(6,[3],[]),(10,[0,3,5,8,9,25],[0,3,5,8,9]),(12,[0,3,8,9],[]),(13,[0,3,5,8,9],[0,3,8,9]),(16,[0,3,8,9],[0,3,8,9]),(17,[3],[])] [2] _ 41 Tryd.func18 (by kernel_rfl) (by kernel_rfl) (by kernel_rfl) (by kernel_rfl)
theorem Aji(a0:LB)(Q:QQ)(h:
 (Af (1≤140737488355328∧1≤140737488355328)
 (Ih a0 ((↑a0.length:Int)) ((0:Int)) ([]++[[IV.int .u8 (47:Int)]]) (Abm Q)))):Call E0.P K8 [As a0] [] Q:=Bb (Ar E0 Bn) (A8 Bn) 3 0 18 ac_write_Name [.tmp 2] Anp _ _ Q rfl rfl (kr (by kernel_rfl) h)
noncomputable def ac_write_Bytes:AC:=(Ba [(4,[0,3,8,9],[]),(6,[3],[]),(16,[3],[])] [2] (codeOf Tryd.f20) 0).1
abbrev Ew:Nat:=37
def Jc(t0:LB)(t8 t9:Int)(u0:LL)(K:KK):Prop:=Bz 4 E0.P Ew (Au 4 ac_write_Bytes).code ⟨[(0,As t0),(3, .ptr nL3 0),(8,Ai t8),(9,Ai t9)],[(nL3, .blk Az [.self nL3, .own (nL3.cell 1)]),((nL3.cell 1), .arr (C9+2) true 1 u0)]⟩ K
def Zd(u0:LL)(K:KK):Prop:=Aq 16 E0.P Ew (Ae 16 ac_write_Bytes).code ⟨[(3, .ptr nL3 0)],[(nL3, .blk Az [.self nL3, .own (nL3.cell 1)]),((nL3.cell 1), .arr (C9+2) true 1 u0)]⟩ K
def Uf(Q:QQ):KK:=kE fun st=>finish 0 E0.T [.tmp 2] [] Q st
def Lf(Q:QQ):KK:=kF 0 (fun st=>Aq 16 E0.P Ew (Ae 16 ac_write_Bytes).code (mask [3] st) (Uf Q)) fun st=>finish 0 E0.T [.tmp 2] [] Q st
theorem Wz(t0:LB)(t8 t9:Int)(u0:LL)(K:KK)(h:
 (Br (decide (t9<t8))
 (Af ((0:Int)≤t9∧t9<(↑t0.length:Int))
 (Call E0.P Rn [.imm (.int .u8 ((↑(t0.getD t9.toNat 0).toNat:Int)))] [] fun r0 g0=>
 Af (M0 g0 r0)
 (Br (!rB r0)
 (Call E0.P Vt [As t0] [] fun r1 g1=>
 Af (U3 g1 r1)
 (Af ((↑((1:Nat)+(rS r1).length):Int)≤(9223372036854775807:Int))
 (K .ret ⟨[(2,As ([(60:UInt8)]++rS r1))],[]⟩)))
 (Let (bif decide ((↑(t0.getD t9.toNat 0).toNat:Int)=(40:Int))then true
 else decide ((↑(t0.getD t9.toNat 0).toNat:Int)=(41:Int))) fun x2=>
 Let (bif x2 then true else decide ((↑(t0.getD t9.toNat 0).toNat:Int)=(92:Int))) fun x3=>
 Br (x3)
 (Af ((u0.length+1)*1≤140737488355328∧u0.length+1≤140737488355328)
 (Af (((u0++[[IV.int .u8 (92:Int)]]).length+1)*1≤140737488355328∧
 (u0++[[IV.int .u8 (92:Int)]]).length+1≤140737488355328)
 (Jc t0 t8 (IntKind.i64.wrap (t9+(1:Int))) (u0++[[IV.int .u8 (92:Int)]]++[[IV.int .u8 (↑(t0.getD t9.toNat 0).toNat:Int)]]) K)))
 (Af ((u0.length+1)*1≤140737488355328∧u0.length+1≤140737488355328)
 (Jc t0 t8 (IntKind.i64.wrap (t9+(1:Int))) (u0++[[IV.int .u8 (↑(t0.getD t9.toNat 0).toNat:Int)]]) K))))))
 (K (.exit 0) ⟨[(3, .ptr nL3 0)],[(nL3, .blk Az [.self nL3, .own (nL3.cell 1)]),((nL3.cell 1), .arr (C9+2) true 1 u0)]⟩))):Jc t0 t8 t9 u0 K:=Bq (Ar E0 Ew) (A8 Ew) 3 4 (Au 4 ac_write_Bytes) [0,3,8,9] _ K rfl (kr (by kernel_rfl) h)
theorem Ad6(u0:LL)(K:KK)(h:
 (Af ((u0.length+1)*1≤140737488355328∧u0.length+1≤140737488355328)
 (Af (((↑(u0++[[IV.int .u8 (41:Int)]]).length:Int)=
 (↑(u0++[[IV.int .u8 (41:Int)]]).length:Int)∧
 (u0++[[IV.int .u8 (41:Int)]]).length≤9223372036854775807)∧
 ∀(r:List IV),r∈u0++[[IV.int .u8 (41:Int)]]→Cb [.int .u8] r=true)
 (K .ret ⟨[(2,As (List.map (fun r=>UInt8.ofNat (gI r 0).toNat) (u0++[[IV.int .u8 (41:Int)]])))],[]⟩)))):Zd u0 K:=Aw (Ar E0 Ew) (A8 Ew) 3 16 (Ae 16 ac_write_Bytes) [] _ K rfl (kr (by kernel_rfl) h)
theorem Afd(Q:QQ)(t2:LB)(h:
 (Q (As t2) [])):Uf Q .ret ⟨[(2,As t2)],[]⟩:=kr (by kernel_rfl) h
theorem Afe(Q:QQ)(t2:LB)(h:
 (Q (As t2) [])):Lf Q .ret ⟨[(2,As t2)],[]⟩:=kr (by kernel_rfl) h
theorem Aff(Q:QQ)(u0:LL)(h:
 (Zd u0 (Uf Q))):Lf Q (.exit 0) ⟨[(3, .ptr nL3 0)],[(nL3, .blk Az [.self nL3, .own (nL3.cell 1)]),((nL3.cell 1), .arr (C9+2) true 1 u0)]⟩:=kr (by kernel_rfl) h
theorem Al7:Cf E0.P 20 ac_write_Bytes.code Ew [.tmp 2]:=Bu _ _ Tryd.f20 [(4,[0,3,8,9],[]),(6,[3],[]),(16,[3],[])] [2] _ 37 Tryd.func20 (by kernel_rfl) (by kernel_rfl) (by kernel_rfl) (by kernel_rfl)
theorem Ah7(a0:LB)(Q:QQ)(h:
 (Af (1≤140737488355328∧1≤140737488355328)
 (Jc a0 ((↑a0.length:Int)) ((0:Int)) ([]++[[IV.int .u8 (40:Int)]]) (Lf Q)))):Call E0.P Qa [As a0] [] Q:=Bb (Ar E0 Ew) (A8 Ew) 3 0 20 ac_write_Bytes [.tmp 2] Al7 _ _ Q rfl rfl (kr (by kernel_rfl) h)
noncomputable def ac_value_Check:AC:=(Ba [] [4] (codeOf Tryd.f22) 0).1
abbrev V5:Nat:=8
theorem Al3:Cf E0.P 22 ac_value_Check.code V5 [.tmp 4]:=Bu _ _ Tryd.f22 [] [4] _ 8 Tryd.func22 (by kernel_rfl) (by kernel_rfl) (by kernel_rfl) (by kernel_rfl)
theorem Ah3(a0_0 a0_1 a0_2:Int)(a0_3:LB)(a0_4 a0_5:LL)(a1:Bool)(Q:QQ)(h:
 (Call E0.P Mr [.imm (.agg [.int .i64 a0_0, .int .i64 a0_1, .int .i64 a0_2, .str a0_3, .sl .any 6 a0_4, .sl .any 7 a0_5]),Ab a1,Ai 0] [] fun r0 g0=>
 Af (qW2 g0 r0)
 (Q (Ai (rI r0)) []))):Call E0.P Mq [.imm (.agg [.int .i64 a0_0, .int .i64 a0_1, .int .i64 a0_2, .str a0_3, .sl .any 6 a0_4, .sl .any 7 a0_5]),Ab a1] [] Q:=Bb (Ar E0 V5) (A8 V5) 3 0 22 ac_value_Check [.tmp 4] Al3 _ _ Q rfl rfl (kr (by kernel_rfl) h)
noncomputable def ac_write_plain:AC:=(Ba [(13,[1,3,33,34,35],[]),(15,[1,3],[]),(21,[1,3,48,49,50],[]),(23,[1,3],[]),(28,[1,1000003],[])] [2] (codeOf Tryd.f50) 0).1
abbrev Cc:Nat:=79
def Np(t33r:LL)(t34 t35:Int)(u0 u1 u2:Int)(u3:LB)(u4 u5 u6:LL)(K:KK):Prop:=Bz 13 E0.P Cc (Au 13 ac_write_plain).code ⟨[(1, .ptr L6 0),(3, .own nL3),(33,Al 6 t33r),(34,Ai t34),(35,Ai t35)],[(L6, .blk Ac [Ai u0,Ai u1,Ai u2,As u3,Al 6 u4,Al 7 u5]),(nL3, .arr (M8+2) true 1 u6)]⟩ K
def Nq(t48r:LL)(t49 t50:Int)(u0 u1 u2:Int)(u3:LB)(u4 u5 u6:LL)(K:KK):Prop:=Bz 21 E0.P Cc (Au 21 ac_write_plain).code ⟨[(1, .ptr L6 0),(3, .own nL3),(48,Al 7 t48r),(49,Ai t49),(50,Ai t50)],[(L6, .blk Ac [Ai u0,Ai u1,Ai u2,As u3,Al 6 u4,Al 7 u5]),(nL3, .arr (M8+2) true 1 u6)]⟩ K
def Ie(t3r:LL)(u0 u1 u2:Int)(u3:LB)(u4 u5:LL)(K:KK):Prop:=Aq 28 E0.P Cc (Ae 28 ac_write_plain).code ⟨[(1, .ptr L6 0),(3,Al 1 t3r)],[(L6, .blk Ac [Ai u0,Ai u1,Ai u2,As u3,Al 6 u4,Al 7 u5])]⟩ K
def Dc(Q:QQ):KK:=kE fun st=>finish 0 E0.T [.tmp 2] [] Q st
def Aak(Q:QQ):Ex→St→Prop
 | .normal,st=>Aq 28 E0.P Cc (Ae 28 ac_write_plain).code (mask [1,1000003] st) (Dc Q)
 | .exit i,st=>(match (i.beq 1:Bool)with
 |true=>Aq 28 E0.P Cc (Ae 28 ac_write_plain).code (mask [1,1000003] st) (Dc Q)
 |false=>(match (i.beq 0:Bool)with
 |true=>Aq 28 E0.P Cc (Ae 28 ac_write_plain).code (mask [1,1000003] st) (Dc Q)
 |false=>False))
 | .goto _,_=>False
 | .ret,st=>finish 0 E0.T [.tmp 2] [] Q st
def Aal(Q:QQ):Ex→St→Prop
 | .normal,st=>Aq 28 E0.P Cc (Ae 28 ac_write_plain).code (mask [1,1000003] st) (Dc Q)
 | .exit i,st=>(match (i.beq 3:Bool)with
 |true=>Aq 28 E0.P Cc (Ae 28 ac_write_plain).code (mask [1,1000003] st) (Dc Q)
 |false=>(match (i.beq 0:Bool)with
 |true=>Aq 28 E0.P Cc (Ae 28 ac_write_plain).code (mask [1,1000003] st) (Dc Q)
 |false=>False))
 | .goto _,_=>False
 | .ret,st=>finish 0 E0.T [.tmp 2] [] Q st
theorem Vh(t33r:LL)(t34 t35:Int)(u0 u1 u2:Int)(u3:LB)(u4 u5 u6:LL)(K:KK)(h:
 (Br (decide (t35<t34))
 (Af (((0:Int)≤t35∧t35<(↑t33r.length:Int))∧
 Cb
 [.int .i64, .int .i64, .int .i64, .str, .sl 6 Ac,
 .sl 7 Ak]
 (t33r.getD t35.toNat [])=
 true)
 (Call E0.P Ms [.imm (.agg [.int .i64 (gI (t33r.getD t35.toNat []) 0), .int .i64 (gI (t33r.getD t35.toNat []) 1), .int .i64 (gI (t33r.getD t35.toNat []) 2), .str (gS (t33r.getD t35.toNat []) 3), .sl .any 6 (gR (t33r.getD t35.toNat []) 4), .sl .any 7 (gR (t33r.getD t35.toNat []) 5)])] [] fun r0 g0=>
 Af (U3 g0 r0)
 (Af ((u6.length+1)*16≤140737488355328∧u6.length+1≤140737488355328)
 (Np t33r t34 (IntKind.i64.wrap (t35+(1:Int))) u0 u1 u2 u3 u4 u5 (u6++[[IV.str (rS r0)]]) K))))
 (K (.exit (1)) ⟨[(1, .ptr L6 0),(3, .own nL3)],[(L6, .blk Ac [Ai u0,Ai u1,Ai u2,As u3,Al 6 u4,Al 7 u5]),(nL3, .arr (M8+2) true 1 u6)]⟩))):Np t33r t34 t35 u0 u1 u2 u3 u4 u5 u6 K:=Bq (Ar E0 Cc) (A8 Cc) 3 13 (Au 13 ac_write_plain) [1,3,33,34,35] _ K rfl (kr (by kernel_rfl) h)
theorem Vi(t48r:LL)(t49 t50:Int)(u0 u1 u2:Int)(u3:LB)(u4 u5 u6:LL)(K:KK)(h:
 (Br (decide (t50<t49))
 (Af (((0:Int)≤t50∧t50<(↑t48r.length:Int))∧
 Cb
 [.str, .int .i64, .int .i64, .int .i64, .str, .sl 6 Ac,
 .sl 7 Ak]
 (t48r.getD t50.toNat [])=
 true)
 (Call E0.P K8 [As (gS (t48r.getD t50.toNat []) 0)] [] fun r0 g0=>
 Af (U3 g0 r0)
 (Call E0.P Ms [.imm (.agg [.int .i64 (gI (t48r.getD t50.toNat []) 1), .int .i64 (gI (t48r.getD t50.toNat []) 2), .int .i64 (gI (t48r.getD t50.toNat []) 3), .str (gS (t48r.getD t50.toNat []) 4), .sl .any 6 (gR (t48r.getD t50.toNat []) 5), .sl .any 7 (gR (t48r.getD t50.toNat []) 6)])] [] fun r1 g1=>
 Af (U3 g1 r1)
 (Call E0.P O4 [.imm (.sl .any 1 [[IV.str (rS r0)],[.str (rS r1)]])] [] fun r2 g2=>
 Af (U3 g2 r2)
 (Af ((u6.length+1)*16≤140737488355328∧u6.length+1≤140737488355328)
 (Nq t48r t49 (IntKind.i64.wrap (t50+(1:Int))) u0 u1 u2 u3 u4 u5 (u6++[[IV.str (rS r2)]]) K))))))
 (K (.exit (3)) ⟨[(1, .ptr L6 0),(3, .own nL3)],[(L6, .blk Ac [Ai u0,Ai u1,Ai u2,As u3,Al 6 u4,Al 7 u5]),(nL3, .arr (M8+2) true 1 u6)]⟩))):Nq t48r t49 t50 u0 u1 u2 u3 u4 u5 u6 K:=Bq (Ar E0 Cc) (A8 Cc) 3 21 (Au 21 ac_write_plain) [1,3,48,49,50] _ K rfl (kr (by kernel_rfl) h)
theorem Ad7(t3r:LL)(u0 u1 u2:Int)(u3:LB)(u4 u5:LL)(K:KK)(h:
 (Call E0.P Uw [Ai u0,Al 1 t3r] [] fun r0 g0=>
 Af (U3 g0 r0)
 (K .ret ⟨[(2,As (rS r0))],[]⟩))):Ie t3r u0 u1 u2 u3 u4 u5 K:=Aw (Ar E0 Cc) (A8 Cc) 3 28 (Ae 28 ac_write_plain) [] _ K rfl (kr (by kernel_rfl) h)
theorem Afg(Q:QQ)(t2:LB)(h:
 (Q (As t2) [])):Dc Q .ret ⟨[(2,As t2)],[]⟩:=kr (by kernel_rfl) h
theorem Afh(Q:QQ)(u0 u1 u2:Int)(u3:LB)(u4 u5 u6:LL)(h:
 (Ie u6 u0 u1 u2 u3 u4 u5 (Dc Q))):Aak Q (.exit (1)) ⟨[(1, .ptr L6 0),(3, .own nL3)],[(L6, .blk Ac [Ai u0,Ai u1,Ai u2,As u3,Al 6 u4,Al 7 u5]),(nL3, .arr (M8+2) true 1 u6)]⟩:=kr (by kernel_rfl) h
theorem Afi(Q:QQ)(u0 u1 u2:Int)(u3:LB)(u4 u5 u6:LL)(h:
 (Ie u6 u0 u1 u2 u3 u4 u5 (Dc Q))):Aal Q (.exit (3)) ⟨[(1, .ptr L6 0),(3, .own nL3)],[(L6, .blk Ac [Ai u0,Ai u1,Ai u2,As u3,Al 6 u4,Al 7 u5]),(nL3, .arr (M8+2) true 1 u6)]⟩:=kr (by kernel_rfl) h
theorem Al8:Cf E0.P 50 ac_write_plain.code Cc [.tmp 2]:=Bu _ _ Tryd.f50 [(13,[1,3,33,34,35],[]),(15,[1,3],[]),(21,[1,3,48,49,50],[]),(23,[1,3],[]),(28,[1,1000003],[])] [2] _ 79 Tryd.func50 (by kernel_rfl) (by kernel_rfl) (by kernel_rfl) (by kernel_rfl)
theorem Ah8(a0_0 a0_1 a0_2:Int)(a0_3:LB)(a0_4 a0_5:LL)(Q:QQ)(h:
 (Br (decide (a0_0=(1:Int)))
 (Call E0.P Xy [Ai a0_1] [] fun r0 g0=>
 Af (U3 g0 r0)
 (Q (As (rS r0)) []))
 (Br (decide (a0_0=(2:Int)))
 (Call E0.P Od [Ai a0_1] [] fun r1 g1=>
 Af (U3 g1 r1)
 (Q (As (rS r1)) []))
 (Br (decide (a0_0=(3:Int)))
 (Call E0.P K8 [As a0_3] [] fun r2 g2=>
 Af (U3 g2 r2)
 (Q (As (rS r2)) []))
 (Br (decide (a0_0=(4:Int)))
 (Call E0.P Qa [As a0_3] [] fun r3 g3=>
 Af (U3 g3 r3)
 (Q (As (rS r3)) []))
 (Br (decide (a0_0=(5:Int)))
 (Np a0_4 ((↑a0_4.length:Int)) ((0:Int)) a0_0 a0_1 a0_2 a0_3 a0_4 a0_5 [] (Aak Q))
 (Br (decide (a0_0=(6:Int)))
 (Nq a0_5 ((↑a0_5.length:Int)) ((0:Int)) a0_0 a0_1 a0_2 a0_3 a0_4 a0_5 [] (Aal Q))
 (Br (decide (a0_0=(7:Int)))
 (Call E0.P Od [Ai a0_1] [] fun r4 g4=>
 Af (U3 g4 r4)
 (Call E0.P Od [Ai a0_2] [] fun r5 g5=>
 Af (U3 g5 r5)
 (Ie [[IV.str (rS r4)],[.str (rS r5)]] a0_0 a0_1 a0_2 a0_3 a0_4 a0_5 (Dc Q))))
 (Ie [] a0_0 a0_1 a0_2 a0_3 a0_4 a0_5 (Dc Q)))))))))):Call E0.P Ms [.imm (.agg [.int .i64 a0_0, .int .i64 a0_1, .int .i64 a0_2, .str a0_3, .sl .any 6 a0_4, .sl .any 7 a0_5])] [] Q:=Bb (Ar E0 Cc) (A8 Cc) 3 0 50 ac_write_plain [.tmp 2] Al8 _ _ Q rfl rfl (kr (by kernel_rfl) h)
noncomputable def ac_write_seen:AC:=(Ba [] [2] (codeOf Tryd.f55) 0).1
abbrev X4:Nat:=9
theorem Anr:Cf E0.P 55 ac_write_seen.code X4 [.tmp 2]:=Bu _ _ Tryd.f55 [] [2] _ 9 Tryd.func55 (by kernel_rfl) (by kernel_rfl) (by kernel_rfl) (by kernel_rfl)
theorem Ajk(a0:Int)(Q:QQ)(h:
 (Let (bif decide ((32:Int)≤a0)then decide (a0≤(126:Int))else false) fun x0=>
 Q (Ab x0) [])):Call E0.P Rn [.imm (.int .u8 a0)] [] Q:=Bb (Ar E0 X4) (A8 X4) 3 0 55 ac_write_seen [.tmp 2] Anr _ _ Q rfl rfl (kr (by kernel_rfl) h)
noncomputable def ac_octet_Kind:AC:=(Ba [(7,[3,4],[]),(20,[],[])] [2] (codeOf Tryd.f56) 0).1
abbrev Fu:Nat:=22
def Fv(t3:Int)(t4:Bool)(K:KK):Prop:=Aq 7 E0.P Fu (Ae 7 ac_octet_Kind).code ⟨[(3, .imm (.int .u8 t3)),(4,Ab t4)],[]⟩ K
def Aaf(K:KK):Prop:=Aq 20 E0.P Fu (Ae 20 ac_octet_Kind).code ⟨[],[]⟩ K
def Vl(Q:QQ):KK:=kE fun st=>finish 0 E0.T [.tmp 2] [] Q st
def Dm(Q:QQ):KK:=kF 0 (fun st=>Aq 20 E0.P Fu (Ae 20 ac_octet_Kind).code (mask [] st) (Vl Q)) fun st=>finish 0 E0.T [.tmp 2] [] Q st
theorem Ag2(t3:Int)(t4:Bool)(K:KK)(h:
 (Br (t4)
 (K .ret ⟨[(2,Ai 0)],[]⟩)
 (Br (decide (t3=(40:Int)))
 (Br (decide (t3=(40:Int)))
 (K .ret ⟨[(2,Ai 1)],[]⟩)
 (K .normal ⟨[],[]⟩))
 (Br (decide (t3=(41:Int)))
 (Br (decide (t3=(41:Int)))
 (K .ret ⟨[(2,Ai 1)],[]⟩)
 (K .normal ⟨[],[]⟩))
 (Br (decide (t3=(60:Int)))
 (Br (decide (t3=(60:Int)))
 (K .ret ⟨[(2,Ai 1)],[]⟩)
 (K .normal ⟨[],[]⟩))
 (Br (decide (t3=(62:Int)))
 (Br (decide (t3=(62:Int)))
 (K .ret ⟨[(2,Ai 1)],[]⟩)
 (K .normal ⟨[],[]⟩))
 (Br (decide (t3=(91:Int)))
 (Br (decide (t3=(91:Int)))
 (K .ret ⟨[(2,Ai 1)],[]⟩)
 (K .normal ⟨[],[]⟩))
 (Br (decide (t3=(93:Int)))
 (Br (decide (t3=(93:Int)))
 (K .ret ⟨[(2,Ai 1)],[]⟩)
 (K .normal ⟨[],[]⟩))
 (Br (decide (t3=(123:Int)))
 (Br (decide (t3=(123:Int)))
 (K .ret ⟨[(2,Ai 1)],[]⟩)
 (K .normal ⟨[],[]⟩))
 (Br (decide (t3=(125:Int)))
 (Br (decide (t3=(125:Int)))
 (K .ret ⟨[(2,Ai 1)],[]⟩)
 (K .normal ⟨[],[]⟩))
 (Br (decide (t3=(47:Int)))
 (Br (decide (t3=(47:Int)))
 (K .ret ⟨[(2,Ai 1)],[]⟩)
 (K .normal ⟨[],[]⟩))
 (Br (decide (t3=(37:Int)))
 (K .ret ⟨[(2,Ai 1)],[]⟩)
 (K .normal ⟨[],[]⟩))))))))))))):Fv t3 t4 K:=Aw (Ar E0 Fu) (A8 Fu) 3 7 (Ae 7 ac_octet_Kind) [] _ K rfl (kr (by kernel_rfl) h)
theorem Aej(K:KK)(h:
 (K .ret ⟨[(2,Ai 2)],[]⟩)):Aaf K:=Aw (Ar E0 Fu) (A8 Fu) 3 20 (Ae 20 ac_octet_Kind) [] _ K rfl (kr (by kernel_rfl) h)
theorem Ahc(Q:QQ)(t2:Int)(h:
 (Q (Ai t2) [])):Vl Q .ret ⟨[(2,Ai t2)],[]⟩:=kr (by kernel_rfl) h
theorem Qn(Q:QQ)(t2:Int)(h:
 (Q (Ai t2) [])):Dm Q .ret ⟨[(2,Ai t2)],[]⟩:=kr (by kernel_rfl) h
theorem Ahd(Q:QQ)(h:
 (Aaf (Vl Q))):Dm Q .normal ⟨[],[]⟩:=kr (by kernel_rfl) h
theorem Ann:Cf E0.P 56 ac_octet_Kind.code Fu [.tmp 2]:=Bu _ _ Tryd.f56 [(7,[3,4],[]),(20,[],[])] [2] _ 22 Tryd.func56 (by kernel_rfl) (by kernel_rfl) (by kernel_rfl) (by kernel_rfl)
theorem Ajg(a0:Int)(Q:QQ)(h:
 (Br (decide (a0=(0:Int)))
 (Fv a0 (decide (a0=(0:Int))) (Dm Q))
 (Br (decide (a0=(9:Int)))
 (Fv a0 (decide (a0=(9:Int))) (Dm Q))
 (Br (decide (a0=(10:Int)))
 (Fv a0 (decide (a0=(10:Int))) (Dm Q))
 (Br (decide (a0=(12:Int)))
 (Fv a0 (decide (a0=(12:Int))) (Dm Q))
 (Br (decide (a0=(13:Int)))
 (Fv a0 (decide (a0=(13:Int))) (Dm Q))
 (Fv a0 (decide (a0=(32:Int))) (Dm Q)))))))):Call E0.P Xw [.imm (.int .u8 a0)] [] Q:=Bb (Ar E0 Fu) (A8 Fu) 3 0 56 ac_octet_Kind [.tmp 2] Ann _ _ Q rfl rfl (kr (by kernel_rfl) h)
noncomputable def ac_octet_Digit:AC:=(Ba [] [2] (codeOf Tryd.f57) 0).1
abbrev V4:Nat:=20
theorem Al2:Cf E0.P 57 ac_octet_Digit.code V4 [.tmp 2]:=Bu _ _ Tryd.f57 [] [2] _ 20 Tryd.func57 (by kernel_rfl) (by kernel_rfl) (by kernel_rfl) (by kernel_rfl)
theorem Ah2(a0:Int)(Q:QQ)(h:
 (Let (bif decide (a0<(0:Int))then true else decide ((15:Int)<a0)) fun x0=>
 Br (x0)
 (Q (.imm (.int .u8 ((0:Int)))) [])
 (Br (decide (a0<(10:Int)))
 (Q (.imm (.int .u8 (IntKind.u8.wrap (IntKind.i64.wrap ((48:Int)+a0))))) [])
 (Q (.imm (.int .u8 (IntKind.u8.wrap (IntKind.i64.wrap (IntKind.i64.wrap ((65:Int)+a0) - (10:Int)))))) [])))):Call E0.P J5 [Ai a0] [] Q:=Bb (Ar E0 V4) (A8 V4) 3 0 57 ac_octet_Digit [.tmp 2] Al2 _ _ Q rfl rfl (kr (by kernel_rfl) h)
noncomputable def ac_hexa_Encode:AC:=(Ba [(3,[0,3,6,7],[]),(5,[3],[]),(10,[3],[])] [2] (codeOf Tryd.f60) 0).1
abbrev Ev:Nat:=27
def O1(t0:LB)(t6 t7:Int)(u0:LL)(K:KK):Prop:=Bz 3 E0.P Ev (Au 3 ac_hexa_Encode).code ⟨[(0,As t0),(3, .ptr nL3 0),(6,Ai t6),(7,Ai t7)],[(nL3, .blk Az [.self nL3, .own (nL3.cell 1)]),((nL3.cell 1), .arr (C9+2) true 1 u0)]⟩ K
def Y7(u0:LL)(K:KK):Prop:=Aq 10 E0.P Ev (Ae 10 ac_hexa_Encode).code ⟨[(3, .ptr nL3 0)],[(nL3, .blk Az [.self nL3, .own (nL3.cell 1)]),((nL3.cell 1), .arr (C9+2) true 1 u0)]⟩ K
def Tt(Q:QQ):KK:=kE fun st=>finish 0 E0.T [.tmp 2] [] Q st
def Aaj(Q:QQ):KK:=kF 0 (fun st=>Aq 10 E0.P Ev (Ae 10 ac_hexa_Encode).code (mask [3] st) (Tt Q)) fun st=>finish 0 E0.T [.tmp 2] [] Q st
theorem Wx(t0:LB)(t6 t7:Int)(u0:LL)(K:KK)(h:
 (Br (decide (t7<t6))
 (Af ((0:Int)≤t7∧t7<(↑t0.length:Int))
 (Af ((0:Int)≤(4:Int))
 (Call E0.P J5 [.imm (.int .i64 (IntKind.i64.wrap ((↑(t0.getD t7.toNat 0).toNat:Int).fdiv ((2:Int) ^ 4))))] [] fun r0 g0=>
 Af (qW5 g0 r0)
 (Af ((u0.length+1)*1≤140737488355328∧u0.length+1≤140737488355328)
 (Af ((0:Int)≤t7∧t7<(↑t0.length:Int))
 (Call E0.P J5 [.imm (.int .i64 (IntKind.i64.wrap
 (IntKind.u8.wrap
 (↑(BitVec.ofInt (8:Nat) (↑(t0.getD t7.toNat 0).toNat:Int) &&&
 BitVec.ofInt (8:Nat) (15:Int)).toNat:
 Int))))] [] fun r1 g1=>
 Af (qW5 g1 r1)
 (Af (((u0++[[IV.int .u8 (rI r0)]]).length+1)*1≤140737488355328∧
 (u0++[[IV.int .u8 (rI r0)]]).length+1≤140737488355328)
 (O1 t0 t6 (IntKind.i64.wrap (t7+(1:Int))) (u0++[[IV.int .u8 (rI r0)]]++[[IV.int .u8 (rI r1)]]) K))))))))
 (K (.exit 0) ⟨[(3, .ptr nL3 0)],[(nL3, .blk Az [.self nL3, .own (nL3.cell 1)]),((nL3.cell 1), .arr (C9+2) true 1 u0)]⟩))):O1 t0 t6 t7 u0 K:=Bq (Ar E0 Ev) (A8 Ev) 3 3 (Au 3 ac_hexa_Encode) [0,3,6,7] _ K rfl (kr (by kernel_rfl) h)
theorem Adx(u0:LL)(K:KK)(h:
 (Af ((u0.length+1)*1≤140737488355328∧u0.length+1≤140737488355328)
 (Af (((↑(u0++[[IV.int .u8 (62:Int)]]).length:Int)=
 (↑(u0++[[IV.int .u8 (62:Int)]]).length:Int)∧
 (u0++[[IV.int .u8 (62:Int)]]).length≤9223372036854775807)∧
 ∀(r:List IV),r∈u0++[[IV.int .u8 (62:Int)]]→Cb [.int .u8] r=true)
 (K .ret ⟨[(2,As (List.map (fun r=>UInt8.ofNat (gI r 0).toNat) (u0++[[IV.int .u8 (62:Int)]])))],[]⟩)))):Y7 u0 K:=Aw (Ar E0 Ev) (A8 Ev) 3 10 (Ae 10 ac_hexa_Encode) [] _ K rfl (kr (by kernel_rfl) h)
theorem Aev(Q:QQ)(t2:LB)(h:
 (Q (As t2) [])):Tt Q .ret ⟨[(2,As t2)],[]⟩:=kr (by kernel_rfl) h
theorem Aew(Q:QQ)(u0:LL)(h:
 (Y7 u0 (Tt Q))):Aaj Q (.exit 0) ⟨[(3, .ptr nL3 0)],[(nL3, .blk Az [.self nL3, .own (nL3.cell 1)]),((nL3.cell 1), .arr (C9+2) true 1 u0)]⟩:=kr (by kernel_rfl) h
theorem Al0:Cf E0.P 60 ac_hexa_Encode.code Ev [.tmp 2]:=Bu _ _ Tryd.f60 [(3,[0,3,6,7],[]),(5,[3],[]),(10,[3],[])] [2] _ 27 Tryd.func60 (by kernel_rfl) (by kernel_rfl) (by kernel_rfl) (by kernel_rfl)
theorem Ah0(a0:LB)(Q:QQ)(h:
 (O1 a0 ((↑a0.length:Int)) ((0:Int)) [] (Aaj Q))):Call E0.P Vt [As a0] [] Q:=Bb (Ar E0 Ev) (A8 Ev) 3 0 60 ac_hexa_Encode [.tmp 2] Al0 _ _ Q rfl rfl (kr (by kernel_rfl) h)
noncomputable def ac_value_check:AC:=(Ba [(6,[2,3,23,24,25],[]),(8,[2,3],[]),(15,[2,3],[]),(18,[2,11,39,40,41],[]),(20,[],[]),(25,[2,11,13,39,40,41],[2,11,39,40,41]),(30,[2,11,39,40,41],[2,11,39,40,41]),(31,[],[])] [6] (codeOf Tryd.f61) 0).1
abbrev Bd:Nat:=75
def O3(t2:Int)(t23r:LL)(t24 t25:Int)(u0 u1 u2:Int)(u3:LB)(u4 u5:LL)(K:KK):Prop:=Bz 6 E0.P Bd (Au 6 ac_value_check).code ⟨[(2,Ai t2),(3, .ptr nL3 0),(23,Al 6 t23r),(24,Ai t24),(25,Ai t25)],[(nL3, .blk Ac [Ai u0,Ai u1,Ai u2,As u3,Al 6 u4,Al 7 u5])]⟩ K
def Y9(t2 u0:Int)(u1 u2:Int)(u3:LB)(u4 u5:LL)(K:KK):Prop:=Aq 15 E0.P Bd (Ae 15 ac_value_check).code ⟨[(2,Ai t2),(3, .ptr nL3 0)],[(nL3, .blk Ac [Ai u0,Ai u1,Ai u2,As u3,Al 6 u4,Al 7 u5])]⟩ K
def Nl(t2:Int)(t39r:LL)(t40 t41:Int)(u0:List (List UInt8 × Int))(K:KK):Prop:=Bz 18 E0.P Bd (Au 18 ac_value_check).code ⟨[(2,Ai t2),(11, .mp Uy),(39,Al 7 t39r),(40,Ai t40),(41,Ai t41)],[(Uy, .map u0)]⟩ K
def Nc(t2:Int)(t39r:LL)(t40 t41:Int)(u0:List (List UInt8 × Int))(u1:LB)(u2 u3 u4:Int)(u5:LB)(u6 u7:LL)(K:KK):Prop:=Aq 25 E0.P Bd (Ae 25 ac_value_check).code ⟨[(2,Ai t2),(11, .mp Uy),(13, .ptr A1l 0),(39,Al 7 t39r),(40,Ai t40),(41,Ai t41)],[(Uy, .map u0),(A1l, .blk Ak [As u1,Ai u2,Ai u3,Ai u4,As u5,Al 6 u6,Al 7 u7])]⟩ K
def Zb(K:KK):Prop:=Aq 31 E0.P Bd (Ae 31 ac_value_check).code ⟨[],[]⟩ K
def Za(t2:Int)(t39r:LL)(t40 t41:Int)(u0:List (List UInt8 × Int))(K:KK):Prop:=Aq 30 E0.P Bd (Ae 30 ac_value_check).code ⟨[(2,Ai t2),(11, .mp Uy),(39,Al 7 t39r),(40,Ai t40),(41,Ai t41)],[(Uy, .map u0)]⟩ K
def Ub(Q:QQ):KK:=kE fun st=>finish 0 E0.T [.tmp 6] [] Q st
def Uc(Q:QQ):KK:=kF 0 (fun st=>Aq 15 E0.P Bd (Ae 15 ac_value_check).code (mask [2,3] st) (Ub Q)) fun st=>finish 0 E0.T [.tmp 6] [] Q st
def Ud(K:KK):KK:=kP [] K
def I5(K:KK):KK:=kC 2 (fun st=>Aq 31 E0.P Bd (Ae 31 ac_value_check).code (mask [] st) (Ud K)) K
def Ue(K:KK):Ex→St→Prop
 | .normal,st=>Bz 18 E0.P Bd (Au 18 ac_value_check).code (mask [2,11,39,40,41] st) K
 | .exit i,st=>K (.exit i) st
 | .goto i,st=>K (.goto i) st
 | .ret,st=>K .ret st
def Le(K:KK):KK:=kC 3 (fun st=>Aq 30 E0.P Bd (Ae 30 ac_value_check).code (mask [2,11,39,40,41] st) (Ue K)) K
theorem Wy(t2:Int)(t23r:LL)(t24 t25:Int)(u0 u1 u2:Int)(u3:LB)(u4 u5:LL)(K:KK)(h:
 (Br (decide (t25<t24))
 (Af (((0:Int)≤t25∧t25<(↑t23r.length:Int))∧
 Cb
 [.int .i64, .int .i64, .int .i64, .str, .sl 6 Ac,
 .sl 7 Ak]
 (t23r.getD t25.toNat [])=
 true)
 (Call E0.P Mr [.imm (.agg [.int .i64 (gI (t23r.getD t25.toNat []) 0), .int .i64 (gI (t23r.getD t25.toNat []) 1), .int .i64 (gI (t23r.getD t25.toNat []) 2), .str (gS (t23r.getD t25.toNat []) 3), .sl .any 6 (gR (t23r.getD t25.toNat []) 4), .sl .any 7 (gR (t23r.getD t25.toNat []) 5)]),Ab false,Ai (IntKind.i64.wrap (t2+(1:Int)))] [] fun r0 g0=>
 Af (qW2 g0 r0)
 (Br (!decide (rI r0=(0:Int)))
 (K .ret ⟨[(6,Ai (rI r0))],[]⟩)
 (O3 t2 t23r t24 (IntKind.i64.wrap (t25+(1:Int))) u0 u1 u2 u3 u4 u5 K))))
 (K (.exit 0) ⟨[(2,Ai t2),(3, .ptr nL3 0)],[(nL3, .blk Ac [Ai u0,Ai u1,Ai u2,As u3,Al 6 u4,Al 7 u5])]⟩))):O3 t2 t23r t24 t25 u0 u1 u2 u3 u4 u5 K:=Bq (Ar E0 Bd) (A8 Bd) 3 6 (Au 6 ac_value_check) [2,3,23,24,25] _ K rfl (kr (by kernel_rfl) h)
theorem Ad2(t2 u0:Int)(u1 u2:Int)(u3:LB)(u4 u5:LL)(K:KK)(h:
 (Nl t2 u5 ((↑u5.length:Int)) ((0:Int)) [] (I5 K))):Y9 t2 u0 u1 u2 u3 u4 u5 K:=Aw (Ar E0 Bd) (A8 Bd) 3 15 (Ae 15 ac_value_check) [] _ K rfl (kr (by kernel_rfl) h)
theorem Vg(t2:Int)(t39r:LL)(t40 t41:Int)(u0:List (List UInt8 × Int))(K:KK)(h:
 (Br (decide (t41<t40))
 (Af (((0:Int)≤t41∧t41<(↑t39r.length:Int))∧
 Cb
 [.str, .int .i64, .int .i64, .int .i64, .str, .sl 6 Ac,
 .sl 7 Ak]
 (t39r.getD t41.toNat [])=
 true)
 (Br (decide ((127:Int)<(↑(gS (t39r.getD t41.toNat []) (0:Nat)).length:Int)) == false)
 (Call E0.P Pi [As (gS (t39r.getD t41.toNat []) 0)] [] fun r0 g0=>
 Af (M0 g0 r0)
 (Let (rB r0) fun x1=>
 Let (bif x1 then true else decide ((0:Int)<Jd u0 (gS (t39r.getD t41.toNat []) 0))) fun x2=>
 Br (x2)
 (K .ret ⟨[(6,Ai 11)],[]⟩)
 (Nc t2 t39r t40 t41 u0 (gS (t39r.getD t41.toNat []) 0) (gI (t39r.getD t41.toNat []) 1) (gI (t39r.getD t41.toNat []) 2) (gI (t39r.getD t41.toNat []) 3) (gS (t39r.getD t41.toNat []) 4) (gR (t39r.getD t41.toNat []) 5) (gR (t39r.getD t41.toNat []) 6) (Le K))))
 (Af ((!false)=true)
 (Let (true) fun x3=>
 Let (bif x3 then true else decide ((0:Int)<Jd u0 (gS (t39r.getD t41.toNat []) 0))) fun x4=>
 Br (x4)
 (K .ret ⟨[(6,Ai 11)],[]⟩)
 (Nc t2 t39r t40 t41 u0 (gS (t39r.getD t41.toNat []) 0) (gI (t39r.getD t41.toNat []) 1) (gI (t39r.getD t41.toNat []) 2) (gI (t39r.getD t41.toNat []) 3) (gS (t39r.getD t41.toNat []) 4) (gR (t39r.getD t41.toNat []) 5) (gR (t39r.getD t41.toNat []) 6) (Le K))))))
 (K (.exit (2)) ⟨[],[]⟩))):Nl t2 t39r t40 t41 u0 K:=Bq (Ar E0 Bd) (A8 Bd) 3 18 (Au 18 ac_value_check) [2,11,39,40,41] _ K rfl (kr (by kernel_rfl) h)
theorem Ad3(t2:Int)(t39r:LL)(t40 t41:Int)(u0:List (List UInt8 × Int))(u1:LB)(u2 u3 u4:Int)(u5:LB)(u6 u7:LL)(K:KK)(h:
 (Call E0.P Mr [.imm (.agg [.int .i64 u2, .int .i64 u3, .int .i64 u4, .str u5, .sl .any 6 u6, .sl .any 7 u7]),Ab false,Ai (IntKind.i64.wrap (t2+(1:Int)))] [] fun r0 g0=>
 Af (qW2 g0 r0)
 (Br (!decide (rI r0=(0:Int)))
 (K .ret ⟨[(6,Ai (rI r0))],[]⟩)
 (K .normal ⟨[(2,Ai t2),(11, .mp Uy),(39,Al 7 t39r),(40,Ai t40),(41,Ai t41)],[(Uy, .map (mUp u0 u1 (IntKind.i64.wrap (Jd u0 u1+(1:Int)))))]⟩)))):Nc t2 t39r t40 t41 u0 u1 u2 u3 u4 u5 u6 u7 K:=Aw (Ar E0 Bd) (A8 Bd) 3 25 (Ae 25 ac_value_check) [2,11,39,40,41] _ K rfl (kr (by kernel_rfl) h)
theorem Ad5(K:KK)(h:
 (K .ret ⟨[(6,Ai 0)],[]⟩)):Zb K:=Aw (Ar E0 Bd) (A8 Bd) 3 31 (Ae 31 ac_value_check) [] _ K rfl (kr (by kernel_rfl) h)
theorem Ad4(t2:Int)(t39r:LL)(t40 t41:Int)(u0:List (List UInt8 × Int))(K:KK)(h:
 (K .normal ⟨[(2,Ai t2),(11, .mp Uy),(39,Al 7 t39r),(40,Ai t40),(41,Ai (IntKind.i64.wrap (t41+(1:Int))))],[(Uy, .map u0)]⟩)):Za t2 t39r t40 t41 u0 K:=Aw (Ar E0 Bd) (A8 Bd) 3 30 (Ae 30 ac_value_check) [2,11,39,40,41] _ K rfl (kr (by kernel_rfl) h)
theorem Ae5(Q:QQ)(t6:Int)(h:
 (Q (Ai t6) [])):Ub Q .ret ⟨[(6,Ai t6)],[]⟩:=kr (by kernel_rfl) h
theorem Ae6(Q:QQ)(t6:Int)(h:
 (Q (Ai t6) [])):Uc Q .ret ⟨[(6,Ai t6)],[]⟩:=kr (by kernel_rfl) h
theorem Ae7(Q:QQ)(t2 u0:Int)(u1 u2:Int)(u3:LB)(u4 u5:LL)(h:
 (Y9 t2 u0 u1 u2 u3 u4 u5 (Ub Q))):Uc Q (.exit 0) ⟨[(2,Ai t2),(3, .ptr nL3 0)],[(nL3, .blk Ac [Ai u0,Ai u1,Ai u2,As u3,Al 6 u4,Al 7 u5])]⟩:=kr (by kernel_rfl) h
theorem Ae8(K:KK)(t6:Int)(h:
 (K .ret ⟨[(6,Ai t6)],[]⟩)):Ud K .ret ⟨[(6,Ai t6)],[]⟩:=kr (by kernel_rfl) h
theorem Ww(K:KK)(t6:Int)(h:
 (K .ret ⟨[(6,Ai t6)],[]⟩)):I5 K .ret ⟨[(6,Ai t6)],[]⟩:=kr (by kernel_rfl) h
theorem Ae9(K:KK)(h:
 (Zb (Ud K))):I5 K (.exit (2)) ⟨[],[]⟩:=kr (by kernel_rfl) h
theorem Afa(K:KK)(t2:Int)(t39r:LL)(t40 t41:Int)(u0:List (List UInt8 × Int))(h:
 (Nl t2 t39r t40 t41 u0 K)):Ue K .normal ⟨[(2,Ai t2),(11, .mp Uy),(39,Al 7 t39r),(40,Ai t40),(41,Ai t41)],[(Uy, .map u0)]⟩:=kr (by kernel_rfl) h
theorem Afb(K:KK)(t6:Int)(h:
 (K .ret ⟨[(6,Ai t6)],[]⟩)):Le K .ret ⟨[(6,Ai t6)],[]⟩:=kr (by kernel_rfl) h
theorem Afc(K:KK)(t2:Int)(t39r:LL)(t40 t41:Int)(u0:List (List UInt8 × Int))(h:
 (Za t2 t39r t40 t41 u0 (Ue K))):Le K .normal ⟨[(2,Ai t2),(11, .mp Uy),(39,Al 7 t39r),(40,Ai t40),(41,Ai t41)],[(Uy, .map u0)]⟩:=kr (by kernel_rfl) h
theorem Al6:Cf E0.P 61 ac_value_check.code Bd [.tmp 6]:=Bu _ _ Tryd.f61 [(6,[2,3,23,24,25],[]),(8,[2,3],[]),(15,[2,3],[]),(18,[2,11,39,40,41],[]),(20,[],[]),(25,[2,11,13,39,40,41],[2,11,39,40,41]),(30,[2,11,39,40,41],[2,11,39,40,41]),(31,[],[])] [6] _ 75 Tryd.func61 (by kernel_rfl) (by kernel_rfl) (by kernel_rfl) (by kernel_rfl)
theorem Ah6(a0_0 a0_1 a0_2:Int)(a0_3:LB)(a0_4 a0_5:LL)(a1:Bool)(a2:Int)(Q:QQ)(h:
 (Call E0.P Zt [.imm (.agg [.int .i64 a0_0, .int .i64 a0_1, .int .i64 a0_2, .str a0_3, .sl .any 6 a0_4, .sl .any 7 a0_5]),Ab a1,Ai a2] [] fun r0 g0=>
 Af (qW2 g0 r0)
 (Br (!decide (rI r0=(0:Int)))
 (Q (Ai (rI r0)) [])
 (O3 a2 a0_4 ((↑a0_4.length:Int)) ((0:Int)) a0_0 a0_1 a0_2 a0_3 a0_4 a0_5 (Uc Q))))):Call E0.P Mr [.imm (.agg [.int .i64 a0_0, .int .i64 a0_1, .int .i64 a0_2, .str a0_3, .sl .any 6 a0_4, .sl .any 7 a0_5]),Ab a1,Ai a2] [] Q:=Bb (Ar E0 Bd) (A8 Bd) 3 0 61 ac_value_check [.tmp 6] Al6 _ _ Q rfl rfl (kr (by kernel_rfl) h)
noncomputable def ac_write_word:AC:=(Ba [] [2] (codeOf Tryd.f83) 0).1
abbrev X5:Nat:=5
theorem Ant:Cf E0.P 83 ac_write_word.code X5 [.tmp 2]:=Bu _ _ Tryd.f83 [] [2] _ 5 Tryd.func83 (by kernel_rfl) (by kernel_rfl) (by kernel_rfl) (by kernel_rfl)
theorem Ajl(a0:Int)(Q:QQ)(h:
 (Br (decide (a0=(1:Int)))
 (Q (.imm (.str [116,114,117,101])) [])
 (Q (.imm (.str [102,97,108,115,101])) []))):Call E0.P Xy [Ai a0] [] Q:=Bb (Ar E0 X5) (A8 X5) 3 0 83 ac_write_word [.tmp 2] Ant _ _ Q rfl rfl (kr (by kernel_rfl) h)
noncomputable def ac_write_spaced:AC:=(Ba [] [2] (codeOf Tryd.f84) 0).1
abbrev U1:Nat:=5
theorem Akk:Cf E0.P 84 ac_write_spaced.code U1 [.tmp 2]:=Bu _ _ Tryd.f84 [] [2] _ 5 Tryd.func84 (by kernel_rfl) (by kernel_rfl) (by kernel_rfl) (by kernel_rfl)
theorem Ahb(a0:LL)(Q:QQ)(h:
 (Call E0.P Aat [Al 1 a0, .imm (.str [32])] [] fun r0 g0=>
 Af (U3 g0 r0)
 (Q (As (rS r0)) []))):Call E0.P O4 [Al 1 a0] [] Q:=Bb (Ar E0 U1) (A8 U1) 3 0 84 ac_write_spaced [.tmp 2] Akk _ _ Q rfl rfl (kr (by kernel_rfl) h)
noncomputable def ac_write_around:AC:=(Ba [(2,[0,1,10,11],[]),(4,[],[]),(10,[],[])] [4] (codeOf Tryd.f85) 0).1
abbrev Ef:Nat:=27
def Nn(t0:Int)(t1r:LL)(t10_0:Int)(t10_1 t10_2:LB)(t10_3:Int)(t10_4 t10_5:LB)(t10_6:Int)(t10_7 t10_8:LB)(t11:Int)(K:KK):Prop:=Bz 2 E0.P Ef (Au 2 ac_write_around).code ⟨[(0,Ai t0),(1,Al 1 t1r),(10, .imm (.agg [.int .i64 t10_0, .str t10_1, .str t10_2, .int .i64 t10_3, .str t10_4, .str t10_5, .int .i64 t10_6, .str t10_7, .str t10_8])),(11,Ai t11)],[]⟩ K
def X9(K:KK):Prop:=Aq 10 E0.P Ef (Ae 10 ac_write_around).code ⟨[],[]⟩ K
def R9(Q:QQ):KK:=kE fun st=>finish 0 E0.T [.tmp 4] [] Q st
def Nj(Q:QQ):KK:=kF 0 (fun st=>Aq 10 E0.P Ef (Ae 10 ac_write_around).code (mask [] st) (R9 Q)) fun st=>finish 0 E0.T [.tmp 4] [] Q st
theorem Kn(t0:Int)(t1r:LL)(t10_0:Int)(t10_1 t10_2:LB)(t10_3:Int)(t10_4 t10_5:LB)(t10_6:Int)(t10_7 t10_8:LB)(t11:Int)(K:KK)(h:
 (Br (decide (t11<(3:Int)))
 (Af (((0:Int)≤t11∧t11<(↑(3:Nat):Int))∧
 Cb [.int .i64, .str, .str]
 (List.take 3
 (List.drop (t11.toNat*3)
 [.int .i64 t10_0, .str t10_1, .str t10_2, .int .i64 t10_3, .str t10_4, .str t10_5,
 .int .i64 t10_6, .str t10_7, .str t10_8]))=
 true)
 (Br (decide
 (gI
 (List.take 3
 (List.drop (t11.toNat*3)
 [.int .i64 t10_0, .str t10_1, .str t10_2, .int .i64 t10_3, .str t10_4, .str t10_5,
 .int .i64 t10_6, .str t10_7, .str t10_8]))
 0=
 t0))
 (Call E0.P O4 [Al 1 t1r] [] fun r0 g0=>
 Af (U3 g0 r0)
 (Af ((↑((gS
 (List.take (3:Nat)
 (List.drop (t11.toNat*(3:Nat))
 [.int .i64 t10_0, .str t10_1, .str t10_2, .int .i64 t10_3, .str t10_4,
 .str t10_5, .int .i64 t10_6, .str t10_7, .str t10_8]))
 (1:Nat)).length+
 (rS r0).length):
 Int)≤
 (9223372036854775807:Int))
 (Af ((↑((gS
 (List.take (3:Nat)
 (List.drop (t11.toNat*(3:Nat))
 [.int .i64 t10_0, .str t10_1, .str t10_2, .int .i64 t10_3, .str t10_4,
 .str t10_5, .int .i64 t10_6, .str t10_7, .str t10_8]))
 (1:Nat)++
 rS r0).length+
 (gS
 (List.take (3:Nat)
 (List.drop (t11.toNat*(3:Nat))
 [.int .i64 t10_0, .str t10_1, .str t10_2, .int .i64 t10_3, .str t10_4,
 .str t10_5, .int .i64 t10_6, .str t10_7, .str t10_8]))
 (2:Nat)).length):
 Int)≤
 (9223372036854775807:Int))
 (K .ret ⟨[(4, .imm (.str (gS
 (List.take 3
 (List.drop (t11.toNat*3)
 [.int .i64 t10_0, .str t10_1, .str t10_2, .int .i64 t10_3, .str t10_4, .str t10_5,
 .int .i64 t10_6, .str t10_7, .str t10_8]))
 1++
 rS r0++
 gS
 (List.take 3
 (List.drop (t11.toNat*3)
 [.int .i64 t10_0, .str t10_1, .str t10_2, .int .i64 t10_3, .str t10_4, .str t10_5,
 .int .i64 t10_6, .str t10_7, .str t10_8]))
 2)))],[]⟩))))
 (Nn t0 t1r t10_0 t10_1 t10_2 t10_3 t10_4 t10_5 t10_6 t10_7 t10_8 (IntKind.i64.wrap (t11+(1:Int))) K)))
 (K (.exit 0) ⟨[],[]⟩))):Nn t0 t1r t10_0 t10_1 t10_2 t10_3 t10_4 t10_5 t10_6 t10_7 t10_8 t11 K:=Bq (Ar E0 Ef) (A8 Ef) 3 2 (Au 2 ac_write_around) [0,1,10,11] _ K rfl (kr (by kernel_rfl) h)
theorem Acd(K:KK)(h:
 (K .ret ⟨[(4, .imm (.str [110,117,108,108]))],[]⟩)):X9 K:=Aw (Ar E0 Ef) (A8 Ef) 3 10 (Ae 10 ac_write_around) [] _ K rfl (kr (by kernel_rfl) h)
theorem Aeb(Q:QQ)(t4:LB)(h:
 (Q (As t4) [])):R9 Q .ret ⟨[(4,As t4)],[]⟩:=kr (by kernel_rfl) h
theorem Oo(Q:QQ)(t4:LB)(h:
 (Q (As t4) [])):Nj Q .ret ⟨[(4,As t4)],[]⟩:=kr (by kernel_rfl) h
theorem Aec(Q:QQ)(h:
 (X9 (R9 Q))):Nj Q (.exit 0) ⟨[],[]⟩:=kr (by kernel_rfl) h
theorem Akj:Cf E0.P 85 ac_write_around.code Ef [.tmp 4]:=Bu _ _ Tryd.f85 [(2,[0,1,10,11],[]),(4,[],[]),(10,[],[])] [4] _ 27 Tryd.func85 (by kernel_rfl) (by kernel_rfl) (by kernel_rfl) (by kernel_rfl)
theorem Aha(a0:Int)(a1:LL)(Q:QQ)(h:
 (Nn a0 a1 ((5:Int)) [(91:UInt8)] [(93:UInt8)] ((6:Int)) [(60:UInt8),60] [(62:UInt8),62] ((7:Int)) [] [(32:UInt8),82] ((0:Int)) (Nj Q))):Call E0.P Uw [Ai a0,Al 1 a1] [] Q:=Bb (Ar E0 Ef) (A8 Ef) 3 0 85 ac_write_around [.tmp 4] Akj _ _ Q rfl rfl (kr (by kernel_rfl) h)
noncomputable def ac_value_own:AC:=(Ba [(4,[2,3,7,27],[]),(14,[],[])] [6] (codeOf Tryd.f91) 0).1
abbrev Ga:Nat:=86
def Hm(t2:Int)(t27:Bool)(u0 u1 u2:Int)(u3:LB)(u4 u5:LL)(u6 u7:Bool)(u8 u9 v0:Bool)(K:KK):Prop:=Aq 4 E0.P Ga (Ae 4 ac_value_own).code ⟨[(2,Ai t2),(3, .ptr nL3 0),(7, .ptr nL7 0),(27,Ab t27)],[(nL3, .blk Ac [Ai u0,Ai u1,Ai u2,As u3,Al 6 u4,Al 7 u5]),(nL7, .blk Ay [Ab u6,Ab u7,Ab u8,Ab u9,Ab v0])]⟩ K
def Abi(K:KK):Prop:=Aq 14 E0.P Ga (Ae 14 ac_value_own).code ⟨[],[]⟩ K
def Xu(Q:QQ):KK:=kE fun st=>finish 0 E0.T [.tmp 6] [] Q st
def Fs(Q:QQ):KK:=kF 0 (fun st=>Aq 14 E0.P Ga (Ae 14 ac_value_own).code (mask [] st) (Xu Q)) fun st=>finish 0 E0.T [.tmp 6] [] Q st
theorem Ahz(t2:Int)(t27:Bool)(u0 u1 u2:Int)(u3:LB)(u4 u5:LL)(u6 u7:Bool)(u8 u9 v0:Bool)(K:KK)(h:
 (Br (t27)
 (K .ret ⟨[(6,Ai 4)],[]⟩)
 (Call E0.P Uu [.imm (.agg [.int .i64 u0, .int .i64 u1, .int .i64 u2, .str u3, .sl .any 6 u4, .sl .any 7 u5])] [] fun r0 g0=>
 Af (M0 g0 r0)
 (Br (rB r0)
 (K .ret ⟨[(6,Ai 3)],[]⟩)
 (Let (bif decide (u0=(3:Int))then decide ((127:Int)<(↑u3.length:Int))else false) fun x1=>
 Br (x1 == false)
 (Let (bif decide (u0=(4:Int))then decide ((65535:Int)<(↑u3.length:Int))else false) fun x2=>
 Let (x2) fun x3=>
 Br (x3)
 (K .ret ⟨[(6,Ai 8)],[]⟩)
 (Let (bif decide (u0=(8:Int))then decide ((1048576:Int)<(↑u3.length:Int))else false) fun x4=>
 Br (x4)
 (K .ret ⟨[(6,Ai 7)],[]⟩)
 (Let (bif u9 then true else v0) fun x5=>
 Let (bif x5 then decide ((64:Int)≤t2)else false) fun x6=>
 Br (x6)
 (K .ret ⟨[(6,Ai 9)],[]⟩)
 (K .normal ⟨[],[]⟩))))
 (Af ((!false)=true)
 (Let (true) fun x7=>
 Br (x7)
 (K .ret ⟨[(6,Ai 8)],[]⟩)
 (Let (bif decide (u0=(8:Int))then decide ((1048576:Int)<(↑u3.length:Int))else false) fun x8=>
 Br (x8)
 (K .ret ⟨[(6,Ai 7)],[]⟩)
 (Let (bif u9 then true else v0) fun x9=>
 Let (bif x9 then decide ((64:Int)≤t2)else false) fun x10=>
 Br (x10)
 (K .ret ⟨[(6,Ai 9)],[]⟩)
 (K .normal ⟨[],[]⟩)))))))))):Hm t2 t27 u0 u1 u2 u3 u4 u5 u6 u7 u8 u9 v0 K:=Aw (Ar E0 Ga) (A8 Ga) 3 4 (Ae 4 ac_value_own) [] _ K rfl (kr (by kernel_rfl) h)
theorem Ag7(K:KK)(h:
 (K .ret ⟨[(6,Ai 0)],[]⟩)):Abi K:=Aw (Ar E0 Ga) (A8 Ga) 3 14 (Ae 14 ac_value_own) [] _ K rfl (kr (by kernel_rfl) h)
theorem Aii(Q:QQ)(t6:Int)(h:
 (Q (Ai t6) [])):Xu Q .ret ⟨[(6,Ai t6)],[]⟩:=kr (by kernel_rfl) h
theorem Aij(Q:QQ)(t6:Int)(h:
 (Q (Ai t6) [])):Fs Q .ret ⟨[(6,Ai t6)],[]⟩:=kr (by kernel_rfl) h
theorem Aik(Q:QQ)(h:
 (Abi (Xu Q))):Fs Q .normal ⟨[],[]⟩:=kr (by kernel_rfl) h
theorem Ap8:Cf E0.P 91 ac_value_own.code Ga [.tmp 6]:=Bu _ _ Tryd.f91 [(4,[2,3,7,27],[]),(14,[],[])] [6] _ 86 Tryd.func91 (by kernel_rfl) (by kernel_rfl) (by kernel_rfl) (by kernel_rfl)
theorem Ak5(a0_0 a0_1 a0_2:Int)(a0_3:LB)(a0_4 a0_5:LL)(a1:Bool)(a2:Int)(Q:QQ)(h:
 (Call E0.P Uv [Ai a0_0] [] fun r0 g0=>
 Af (g0=[]∧
 r0=
 .tup
 [.imm
 (IV.agg
 [.bool (gB (Ao (rT r0 0)) 0), .bool (gB (Ao (rT r0 0)) 1),
 .bool (gB (Ao (rT r0 0)) 2), .bool (gB (Ao (rT r0 0)) 3),
 .bool (gB (Ao (rT r0 0)) 4)]),
 .imm (.bool (rB (rT r0 1)))])
 (Br ((!rB (rT r0 1)) == false)
 (Let (bif decide (a0_0=(8:Int))then !a1 else false) fun x1=>
 Let (x1) fun x2=>
 Br (x2)
 (Q (Ai 10) [])
 (Call E0.P Nu [.imm (.agg [.int .i64 a0_0, .int .i64 a0_1, .int .i64 a0_2, .str a0_3, .sl .any 6 a0_4, .sl .any 7 a0_5]), .imm (.agg [.bool (gB (Ao (rT r0 0)) 0), .bool (gB (Ao (rT r0 0)) 1), .bool (gB (Ao (rT r0 0)) 2), .bool (gB (Ao (rT r0 0)) 3), .bool (gB (Ao (rT r0 0)) 4)])] [] fun r3 g3=>
 Af (M0 g3 r3)
 (Br (rB r3 == false)
 (Br (decide (a0_0=(3:Int)) == true)
 (Call E0.P Pi [As a0_3] [] fun r4 g4=>
 Af (M0 g4 r4)
 (Let (rB r4) fun x5=>
 Let (x5) fun x6=>
 Hm a2 x6 a0_0 a0_1 a0_2 a0_3 a0_4 a0_5 (gB (Ao (rT r0 0)) 0) (gB (Ao (rT r0 0)) 1) (gB (Ao (rT r0 0)) 2) (gB (Ao (rT r0 0)) 3) (gB (Ao (rT r0 0)) 4) (Fs Q)))
 (Af ((!true)=false)
 (Let (false) fun x7=>
 Let (x7) fun x8=>
 Hm a2 x8 a0_0 a0_1 a0_2 a0_3 a0_4 a0_5 (gB (Ao (rT r0 0)) 0) (gB (Ao (rT r0 0)) 1) (gB (Ao (rT r0 0)) 2) (gB (Ao (rT r0 0)) 3) (gB (Ao (rT r0 0)) 4) (Fs Q))))
 (Af ((!false)=true)
 (Let (true) fun x9=>
 Hm a2 x9 a0_0 a0_1 a0_2 a0_3 a0_4 a0_5 (gB (Ao (rT r0 0)) 0) (gB (Ao (rT r0 0)) 1) (gB (Ao (rT r0 0)) 2) (gB (Ao (rT r0 0)) 3) (gB (Ao (rT r0 0)) 4) (Fs Q))))))
 (Af ((!false)=true)
 (Let (true) fun x10=>
 Br (x10)
 (Q (Ai 10) [])
 (Call E0.P Nu [.imm (.agg [.int .i64 a0_0, .int .i64 a0_1, .int .i64 a0_2, .str a0_3, .sl .any 6 a0_4, .sl .any 7 a0_5]), .imm (.agg [.bool (gB (Ao (rT r0 0)) 0), .bool (gB (Ao (rT r0 0)) 1), .bool (gB (Ao (rT r0 0)) 2), .bool (gB (Ao (rT r0 0)) 3), .bool (gB (Ao (rT r0 0)) 4)])] [] fun r11 g11=>
 Af (M0 g11 r11)
 (Br (rB r11 == false)
 (Br (decide (a0_0=(3:Int)) == true)
 (Call E0.P Pi [As a0_3] [] fun r12 g12=>
 Af (M0 g12 r12)
 (Let (rB r12) fun x13=>
 Let (x13) fun x14=>
 Hm a2 x14 a0_0 a0_1 a0_2 a0_3 a0_4 a0_5 (gB (Ao (rT r0 0)) 0) (gB (Ao (rT r0 0)) 1) (gB (Ao (rT r0 0)) 2) (gB (Ao (rT r0 0)) 3) (gB (Ao (rT r0 0)) 4) (Fs Q)))
 (Af ((!true)=false)
 (Let (false) fun x15=>
 Let (x15) fun x16=>
 Hm a2 x16 a0_0 a0_1 a0_2 a0_3 a0_4 a0_5 (gB (Ao (rT r0 0)) 0) (gB (Ao (rT r0 0)) 1) (gB (Ao (rT r0 0)) 2) (gB (Ao (rT r0 0)) 3) (gB (Ao (rT r0 0)) 4) (Fs Q))))
 (Af ((!false)=true)
 (Let (true) fun x17=>
 Hm a2 x17 a0_0 a0_1 a0_2 a0_3 a0_4 a0_5 (gB (Ao (rT r0 0)) 0) (gB (Ao (rT r0 0)) 1) (gB (Ao (rT r0 0)) 2) (gB (Ao (rT r0 0)) 3) (gB (Ao (rT r0 0)) 4) (Fs Q)))))))))):Call E0.P Zt [.imm (.agg [.int .i64 a0_0, .int .i64 a0_1, .int .i64 a0_2, .str a0_3, .sl .any 6 a0_4, .sl .any 7 a0_5]),Ab a1,Ai a2] [] Q:=Bb (Ar E0 Ga) (A8 Ga) 3 0 91 ac_value_own [.tmp 6] Ap8 _ _ Q rfl rfl (kr (by kernel_rfl) h)
noncomputable def ac_value_nul:AC:=(Ba [] [2] (codeOf Tryd.f92) 0).1
abbrev Zx:Nat:=6
theorem Ap7:Cf E0.P 92 ac_value_nul.code Zx [.tmp 2]:=Bu _ _ Tryd.f92 [] [2] _ 6 Tryd.func92 (by kernel_rfl) (by kernel_rfl) (by kernel_rfl) (by kernel_rfl)
theorem Ak4(a0:LB)(Q:QQ)(h:
 (Call E0.P Ut [As a0, .imm (.int .u8 ((0:Int)))] [] fun r0 g0=>
 Af (qW2 g0 r0)
 (Q (Ab (decide ((0:Int)≤rI r0))) []))):Call E0.P Pi [As a0] [] Q:=Bb (Ar E0 Zx) (A8 Zx) 3 0 92 ac_value_nul [.tmp 2] Ap7 _ _ Q rfl rfl (kr (by kernel_rfl) h)
noncomputable def ac_value_foreign:AC:=(Ba [] [4] (codeOf Tryd.f115) 0).1
abbrev Sj:Nat:=55
theorem Ai1:Cf E0.P 115 ac_value_foreign.code Sj [.tmp 4]:=Bu _ _ Tryd.f115 [] [4] _ 55 Tryd.func115 (by kernel_rfl) (by kernel_rfl) (by kernel_rfl) (by kernel_rfl)
theorem Aeu(a0_0 a0_1 a0_2:Int)(a0_3:LB)(a0_4 a0_5:LL)(a1_0 a1_1:Bool)(a1_2 a1_3 a1_4:Bool)(Q:QQ)(h:
 (Let (bif !a1_0 then !decide (a0_1=(0:Int))else false) fun x0=>
 Br (x0 == false)
 (Let (bif !a1_1 then !decide (a0_2=(0:Int))else false) fun x1=>
 Let (x1) fun x2=>
 Br (x2 == false)
 (Let (bif !a1_2 then !a0_3 == []else false) fun x3=>
 Let (x3) fun x4=>
 Br (x4 == false)
 (Let (bif !a1_3 then decide ((0:Int)<(↑a0_4.length:Int))else false) fun x5=>
 Let (x5) fun x6=>
 Br (x6 == false)
 (Let (bif !a1_4 then decide ((0:Int)<(↑a0_5.length:Int))else false) fun x7=>
 Let (x7) fun x8=>
 Q (Ab x8) [])
 (Af ((!false)=true)
 (Let (true) fun x9=>
 Q (Ab x9) [])))
 (Af ((!false)=true)
 (Let (true) fun x10=>
 Br (x10 == false)
 (Let (bif !a1_4 then decide ((0:Int)<(↑a0_5.length:Int))else false) fun x11=>
 Let (x11) fun x12=>
 Q (Ab x12) [])
 (Af ((!false)=true)
 (Let (true) fun x13=>
 Q (Ab x13) [])))))
 (Af ((!false)=true)
 (Let (true) fun x14=>
 Br (x14 == false)
 (Let (bif !a1_3 then decide ((0:Int)<(↑a0_4.length:Int))else false) fun x15=>
 Let (x15) fun x16=>
 Br (x16 == false)
 (Let (bif !a1_4 then decide ((0:Int)<(↑a0_5.length:Int))else false) fun x17=>
 Let (x17) fun x18=>
 Q (Ab x18) [])
 (Af ((!false)=true)
 (Let (true) fun x19=>
 Q (Ab x19) [])))
 (Af ((!false)=true)
 (Let (true) fun x20=>
 Br (x20 == false)
 (Let (bif !a1_4 then decide ((0:Int)<(↑a0_5.length:Int))else false) fun x21=>
 Let (x21) fun x22=>
 Q (Ab x22) [])
 (Af ((!false)=true)
 (Let (true) fun x23=>
 Q (Ab x23) [])))))))
 (Af ((!false)=true)
 (Let (true) fun x24=>
 Br (x24 == false)
 (Let (bif !a1_2 then !a0_3 == []else false) fun x25=>
 Let (x25) fun x26=>
 Br (x26 == false)
 (Let (bif !a1_3 then decide ((0:Int)<(↑a0_4.length:Int))else false) fun x27=>
 Let (x27) fun x28=>
 Br (x28 == false)
 (Let (bif !a1_4 then decide ((0:Int)<(↑a0_5.length:Int))else false) fun x29=>
 Let (x29) fun x30=>
 Q (Ab x30) [])
 (Af ((!false)=true)
 (Let (true) fun x31=>
 Q (Ab x31) [])))
 (Af ((!false)=true)
 (Let (true) fun x32=>
 Br (x32 == false)
 (Let (bif !a1_4 then decide ((0:Int)<(↑a0_5.length:Int))else false) fun x33=>
 Let (x33) fun x34=>
 Q (Ab x34) [])
 (Af ((!false)=true)
 (Let (true) fun x35=>
 Q (Ab x35) [])))))
 (Af ((!false)=true)
 (Let (true) fun x36=>
 Br (x36 == false)
 (Let (bif !a1_3 then decide ((0:Int)<(↑a0_4.length:Int))else false) fun x37=>
 Let (x37) fun x38=>
 Br (x38 == false)
 (Let (bif !a1_4 then decide ((0:Int)<(↑a0_5.length:Int))else false) fun x39=>
 Let (x39) fun x40=>
 Q (Ab x40) [])
 (Af ((!false)=true)
 (Let (true) fun x41=>
 Q (Ab x41) [])))
 (Af ((!false)=true)
 (Let (true) fun x42=>
 Br (x42 == false)
 (Let (bif !a1_4 then decide ((0:Int)<(↑a0_5.length:Int))else false) fun x43=>
 Let (x43) fun x44=>
 Q (Ab x44) [])
 (Af ((!false)=true)
 (Let (true) fun x45=>
 Q (Ab x45) [])))))))))):Call E0.P Nu [.imm (.agg [.int .i64 a0_0, .int .i64 a0_1, .int .i64 a0_2, .str a0_3, .sl .any 6 a0_4, .sl .any 7 a0_5]), .imm (.agg [.bool a1_0, .bool a1_1, .bool a1_2, .bool a1_3, .bool a1_4])] [] Q:=Bb (Ar E0 Sj) (A8 Sj) 3 0 115 ac_value_foreign [.tmp 4] Ai1 _ _ Q rfl rfl (kr (by kernel_rfl) h)
noncomputable def ac_value_beyond:AC:=(Ba [] [2] (codeOf Tryd.f116) 0).1
abbrev U0:Nat:=41
theorem Aki:Cf E0.P 116 ac_value_beyond.code U0 [.tmp 2]:=Bu _ _ Tryd.f116 [] [2] _ 41 Tryd.func116 (by kernel_rfl) (by kernel_rfl) (by kernel_rfl) (by kernel_rfl)
theorem Ag9(a0_0 a0_1 a0_2:Int)(a0_3:LB)(a0_4 a0_5:LL)(Q:QQ)(h:
 (Br (decide (a0_0=(1:Int)))
 (Af ((0:Int)≤(1:Int))
 (Q (.imm (.bool (!decide (a0_1.fdiv ((2:Int) ^ 1)=(0:Int))))) []))
 (Br (decide (a0_0=(2:Int)))
 (Let (bif decide (a0_1<(-2147483647:Int))then true else decide ((2147483647:Int)<a0_1)) fun x0=>
 Q (Ab x0) [])
 (Br (decide (a0_0=(7:Int)))
 (Let (bif decide (a0_1<(1:Int))then true else decide ((8388607:Int)<a0_1)) fun x1=>
 Let (bif x1 then true else decide (a0_2<(0:Int))) fun x2=>
 Let (bif x2 then true else decide ((65535:Int)<a0_2)) fun x3=>
 Q (Ab x3) [])
 (Q (Ab false) []))))):Call E0.P Uu [.imm (.agg [.int .i64 a0_0, .int .i64 a0_1, .int .i64 a0_2, .str a0_3, .sl .any 6 a0_4, .sl .any 7 a0_5])] [] Q:=Bb (Ar E0 U0) (A8 U0) 3 0 116 ac_value_beyond [.tmp 2] Aki _ _ Q rfl rfl (kr (by kernel_rfl) h)
noncomputable def ac_digits_Put:AC:=(Ba [] [2] (codeOf Tryd.f67) 0).1
abbrev Xz:Nat:=5
theorem Anm:Cf E0.P 67 ac_digits_Put.code Xz [.tmp 2]:=Bu _ _ Tryd.f67 [] [2] _ 5 Tryd.func67 (by kernel_rfl) (by kernel_rfl) (by kernel_rfl) (by kernel_rfl)
theorem Ajf(a0:Int)(Q:QQ)(h:
 (Call E0.P Aas [Ai a0] [] fun r0 g0=>
 Af (U3 g0 r0)
 (Q (As (rS r0)) []))):Call E0.P Od [Ai a0] [] Q:=Bb (Ar E0 Xz) (A8 Xz) 3 0 67 ac_digits_Put [.tmp 2] Anm _ _ Q rfl rfl (kr (by kernel_rfl) h)
end
end Go.Proofs.Sim.Se

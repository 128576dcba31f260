import Derived.Test.YtaggabcajidnnaaGreatDoorSeatBase
set_option maxRecDepth 100000
set_option maxHeartbeats 4000000
namespace Go.Proofs.Sim.Se
open Go Go.Proofs Go.Proofs.Sim Go.IntKind
noncomputable section
abbrev qB0(G:Heap)(R:AV):Prop:=G=[]∧R= .imm (.bool (rB R))
abbrev qB1(G:Heap)(R:AV):Prop:=G=[]∧R= .tup [.imm (IV.agg [.int .i64 (gI (Ad (rT R 0)) 0), .int .i64 (gI (Ad (rT R 0)) 1), .int .i64 (gI (Ad (rT R 0)) 2), .str (gS (Ad (rT R 0)) 3), .sl SK.any 6 (gR (Ad (rT R 0)) 4), .sl SK.any 7 (gR (Ad (rT R 0)) 5)]), .imm (.int .i64 (rI (rT R 1)))]
abbrev qB2(G:Heap)(R:AV):Prop:=G=[]∧R= .tup [.imm (.sl SK.any 8 (rR (rT R 0))), .imm (.int .i64 (rI (rT R 1)))]
abbrev qB3(G:Heap)(R:AV):Prop:=G=[]∧R= .imm (IV.agg [.int .i64 (gI (Ad R) 0), .int .i64 (gI (Ad R) 1), .int .i64 (gI (Ad R) 2), .str (gS (Ad R) 3), .sl SK.any 6 (gR (Ad R) 4), .sl SK.any 7 (gR (Ad R) 5)])
abbrev qB4(G:Heap)(R:AV):Prop:=G=[]∧R= .tup [.imm (IV.agg [.int .i64 (gI (Ad (rT R 0)) 0), .int .i64 (gI (Ad (rT R 0)) 1), .int .i64 (gI (Ad (rT R 0)) 2), .str (gS (Ad (rT R 0)) 3), .sl SK.any 6 (gR (Ad (rT R 0)) 4), .sl SK.any 7 (gR (Ad (rT R 0)) 5)]), .imm (.bool (rB (rT R 1)))]
abbrev qB5(G:Heap)(R:AV):Prop:=G=[]∧R= .tup [.imm (.str (rS (rT R 0))), .imm (.int .i64 (rI (rT R 1)))]
abbrev qB6(G:Heap)(R:AV):Prop:=G=[]∧R= .imm (IV.agg [.str (gS (Ad R) 0), .int .i64 (gI (Ad R) 1), .int .i64 (gI (Ad R) 2), .int .i64 (gI (Ad R) 3), .str (gS (Ad R) 4), .sl SK.any 6 (gR (Ad R) 5), .sl SK.any 7 (gR (Ad R) 6)])
abbrev qB7(G:Heap)(R:AV):Prop:=G=[]∧R= .tup [.imm (.sl SK.any 1 (rR (rT R 0))), .imm (.int .i64 (rI (rT R 1)))]
abbrev qB8(G:Heap)(R:AV):Prop:=G=[]∧R= .tup [.imm (IV.agg [.int .i64 (gI (Ad (rT R 0)) 0), .int .i64 (gI (Ad (rT R 0)) 1), .str (gS (Ad (rT R 0)) 2), .int .i64 (gI (Ad (rT R 0)) 3), .int .i64 (gI (Ad (rT R 0)) 4)]), .imm (.int .i64 (rI (rT R 1)))]
noncomputable def Hz:AC:=(A8 [(11,[0,5],[]),(13,[0,5,7],[]),(15,[],[]),(19,[0,5,7],[0,5,7]),(20,[],[])] [2] (codeOf Tryz.f5) 0).1
abbrev H5:Nat:=85
def U3(t0r t5r:LL)(K:KK):Prop:=Aq 11 E0.P H5 (Am 11 Hz).code ⟨[(0,Al 8 t0r),(5,Al 8 t5r)],[]⟩ K
def Ou(t0r t5r:LL)(t7:Int)(K:KK):Prop:=Bc 13 E0.P H5 (A9 13 Hz).code ⟨[(0,Al 8 t0r),(5,Al 8 t5r),(7,Ai t7)],[]⟩ K
def Ko(t0r t5r:LL)(t7:Int)(K:KK):Prop:=Aq 19 E0.P H5 (Am 19 Hz).code ⟨[(0,Al 8 t0r),(5,Al 8 t5r),(7,Ai t7)],[]⟩ K
def Adp(K:KK):Prop:=Aq 20 E0.P H5 (Am 20 Hz).code ⟨[],[]⟩ K
def Pq(Q:QQ):KK:=kE fun st=>finish 0 E0.T [.tmp 2] [] Q st
def Wd(K:KK):KK:=kP [] K
def We(K:KK):KK:=kC 0 (fun st=>Aq 20 E0.P H5 (Am 20 Hz).code (mask [] st) (Wd K)) K
def Lp(K:KK):Ex→St→Prop
 | .normal,st=>Bc 13 E0.P H5 (A9 13 Hz).code (mask [0,5,7] st) K
 | .exit i,st=>K (.exit i) st
 | .goto i,st=>K (.goto i) st
 | .ret,st=>K .ret st
theorem Alp(t0r t5r:LL)(K:KK)(h:
 (Ou t0r t5r ((0:Int)) (We K))):U3 t0r t5r K:=cR [] h
theorem Zi(t0r t5r:LL)(t7:Int)(K:KK)(h:
 (Br (decide (t7<(↑t0r.length:Int)))
 (Ag (((0:Int)≤t7∧t7<(↑t5r.length:Int))∧
 Bg
 [.int .i64, .int .i64, .int .i64, .int .i64, .int .i64, .str,
 .sl 6 Aa, .sl 7 Ah]
 (t5r.getD t7.toNat [])=
 true)
 (Ag (((0:Int)≤t7∧t7<(↑t0r.length:Int))∧
 Bg
 [.int .i64, .int .i64, .int .i64, .int .i64, .int .i64, .str,
 .sl 6 Aa, .sl 7 Ah]
 (t0r.getD t7.toNat [])=
 true)
 (Br (!decide (gI (t5r.getD t7.toNat []) 0=gI (t0r.getD t7.toNat []) 0))
 (Ag (true=true)
 (Let (true) fun x0=>
 Br (x0)
 (Ag (true=true)
 (Let (true) fun x1=>
 Br (x1)
 (K .ret ⟨[(2,Ab false)],[]⟩)
 (Ko t0r t5r t7 (Lp K))))
 (Ag (((0:Int)≤t7∧t7<(↑t5r.length:Int))∧
 Bg
 [.int .i64, .int .i64, .int .i64, .int .i64, .int .i64, .str,
 .sl 6 Aa, .sl 7 Ah]
 (t5r.getD t7.toNat [])=
 true)
 (Ag (((0:Int)≤t7∧t7<(↑t0r.length:Int))∧
 Bg
 [.int .i64, .int .i64, .int .i64, .int .i64, .int .i64, .str,
 .sl 6 Aa, .sl 7 Ah]
 (t0r.getD t7.toNat [])=
 true)
 (Call E0.P El [.imm (.agg [.int .i64 (gI (t0r.getD t7.toNat []) 2), .int .i64 (gI (t0r.getD t7.toNat []) 3), .int .i64 (gI (t0r.getD t7.toNat []) 4), .str (gS (t0r.getD t7.toNat []) 5), .sl .any 6 (gR (t0r.getD t7.toNat []) 6), .sl .any 7 (gR (t0r.getD t7.toNat []) 7)])] [] fun r2 g2=>
 Ag (qB3 g2 r2)
 (Call E0.P Hf [.imm (.agg [.int .i64 (gI (t5r.getD t7.toNat []) 2), .int .i64 (gI (t5r.getD t7.toNat []) 3), .int .i64 (gI (t5r.getD t7.toNat []) 4), .str (gS (t5r.getD t7.toNat []) 5), .sl .any 6 (gR (t5r.getD t7.toNat []) 6), .sl .any 7 (gR (t5r.getD t7.toNat []) 7)]), .imm (.agg [.int .i64 (gI (Ad r2) 0), .int .i64 (gI (Ad r2) 1), .int .i64 (gI (Ad r2) 2), .str (gS (Ad r2) 3), .sl .any 6 (gR (Ad r2) 4), .sl .any 7 (gR (Ad r2) 5)])] [] fun r3 g3=>
 Ag (qB0 g3 r3)
 (Let (!rB r3) fun x4=>
 Br (x4)
 (K .ret ⟨[(2,Ab false)],[]⟩)
 (Ko t0r t5r t7 (Lp K)))))))))
 (Ag (((0:Int)≤t7∧t7<(↑t5r.length:Int))∧
 Bg
 [.int .i64, .int .i64, .int .i64, .int .i64, .int .i64, .str,
 .sl 6 Aa, .sl 7 Ah]
 (t5r.getD t7.toNat [])=
 true)
 (Let (!decide (gI (t5r.getD t7.toNat []) 1=(0:Int))) fun x5=>
 Br (x5)
 (Ag (true=true)
 (Let (true) fun x6=>
 Br (x6)
 (K .ret ⟨[(2,Ab false)],[]⟩)
 (Ko t0r t5r t7 (Lp K))))
 (Ag (((0:Int)≤t7∧t7<(↑t5r.length:Int))∧
 Bg
 [.int .i64, .int .i64, .int .i64, .int .i64, .int .i64, .str,
 .sl 6 Aa, .sl 7 Ah]
 (t5r.getD t7.toNat [])=
 true)
 (Ag (((0:Int)≤t7∧t7<(↑t0r.length:Int))∧
 Bg
 [.int .i64, .int .i64, .int .i64, .int .i64, .int .i64, .str,
 .sl 6 Aa, .sl 7 Ah]
 (t0r.getD t7.toNat [])=
 true)
 (Call E0.P El [.imm (.agg [.int .i64 (gI (t0r.getD t7.toNat []) 2), .int .i64 (gI (t0r.getD t7.toNat []) 3), .int .i64 (gI (t0r.getD t7.toNat []) 4), .str (gS (t0r.getD t7.toNat []) 5), .sl .any 6 (gR (t0r.getD t7.toNat []) 6), .sl .any 7 (gR (t0r.getD t7.toNat []) 7)])] [] fun r7 g7=>
 Ag (qB3 g7 r7)
 (Call E0.P Hf [.imm (.agg [.int .i64 (gI (t5r.getD t7.toNat []) 2), .int .i64 (gI (t5r.getD t7.toNat []) 3), .int .i64 (gI (t5r.getD t7.toNat []) 4), .str (gS (t5r.getD t7.toNat []) 5), .sl .any 6 (gR (t5r.getD t7.toNat []) 6), .sl .any 7 (gR (t5r.getD t7.toNat []) 7)]), .imm (.agg [.int .i64 (gI (Ad r7) 0), .int .i64 (gI (Ad r7) 1), .int .i64 (gI (Ad r7) 2), .str (gS (Ad r7) 3), .sl .any 6 (gR (Ad r7) 4), .sl .any 7 (gR (Ad r7) 5)])] [] fun r8 g8=>
 Ag (qB0 g8 r8)
 (Let (!rB r8) fun x9=>
 Br (x9)
 (K .ret ⟨[(2,Ab false)],[]⟩)
 (Ko t0r t5r t7 (Lp K))))))))))))
 (K (.exit 0) ⟨[],[]⟩))):Ou t0r t5r t7 K:=lR [0,5,7] h
theorem Alq(t0r t5r:LL)(t7:Int)(K:KK)(h:
 (K .normal ⟨[(0,Al 8 t0r),(5,Al 8 t5r),(7,Ai (i64.wrap (t7+(1:Int))))],[]⟩)):Ko t0r t5r t7 K:=cR [0,5,7] h
theorem Alr(K:KK)(h:
 (Call E0.P Rv [] [] fun r0 g0=>
 Ag (qB0 g0 r0)
 (K .ret ⟨[(2,Ab (rB r0))],[]⟩))):Adp K:=cR [] h
theorem Am2(Q:QQ)(t2:Bool)(h:
 (Q (Ab t2) [])):Pq Q .ret ⟨[(2,Ab t2)],[]⟩:=kq h
theorem Am3(K:KK)(t2:Bool)(h:
 (K .ret ⟨[(2,Ab t2)],[]⟩)):Wd K .ret ⟨[(2,Ab t2)],[]⟩:=kq h
theorem Am4(K:KK)(h:
 (Adp (Wd K))):We K (.exit 0) ⟨[],[]⟩:=kq h
theorem Am5(K:KK)(t0r t5r:LL)(t7:Int)(h:
 (Ou t0r t5r t7 K)):Lp K .normal ⟨[(0,Al 8 t0r),(5,Al 8 t5r),(7,Ai t7)],[]⟩:=kq h
theorem Av4:Be E0.P 5 Hz.code H5 [.tmp 2]:=fq Tryz.func5
theorem Aqz(a0:LL)(Q:QQ)(h:
 (Call E0.P Apf [Al 8 a0] [] fun r0 g0=>
 Ag (qB0 g0 r0)
 (Br (!rB r0)
 (Call E0.P Rv [] [] fun r1 g1=>
 Ag (qB0 g1 r1)
 (Q (Ab (rB r1)) []))
 (Call E0.P Ru [Al 8 a0] [] fun r2 g2=>
 Ag (qB1 g2 r2)
 (Br (!decide (rI (rT r2 1)=(0:Int)))
 (Call E0.P Hf [.imm (.agg [.int .i64 (gI (Ad (rT r2 0)) 0), .int .i64 (gI (Ad (rT r2 0)) 1), .int .i64 (gI (Ad (rT r2 0)) 2), .str (gS (Ad (rT r2 0)) 3), .sl .any 6 (gR (Ad (rT r2 0)) 4), .sl .any 7 (gR (Ad (rT r2 0)) 5)]), .imm (.agg [.int .i64 0, .int .i64 0, .int .i64 0, .str [], .sl .any 6 [], .sl .any 7 []])] [] fun r3 g3=>
 Ag (qB0 g3 r3)
 (Br (rB r3 == true)
 (Call E0.P Rv [] [] fun r4 g4=>
 Ag (qB0 g4 r4)
 (Let (rB r4) fun x5=>
 Q (Ab x5) []))
 (Ag ((!true)=false)
 (Let (false) fun x6=>
 Q (Ab x6) []))))
 (Call E0.P Ip [.imm (.agg [.int .i64 (gI (Ad (rT r2 0)) 0), .int .i64 (gI (Ad (rT r2 0)) 1), .int .i64 (gI (Ad (rT r2 0)) 2), .str (gS (Ad (rT r2 0)) 3), .sl .any 6 (gR (Ad (rT r2 0)) 4), .sl .any 7 (gR (Ad (rT r2 0)) 5)])] [] fun r7 g7=>
 Ag (qB2 g7 r7)
 (Let (bif !decide (rI (rT r7 1)=(0:Int))then true
 else !decide ((↑(rR (rT r7 (0:Nat))).length:Int)=(↑a0.length:Int))) fun x8=>
 Br (x8 == false)
 (Call E0.P R4 [.imm (.agg [.int .i64 (gI (Ad (rT r2 0)) 0), .int .i64 (gI (Ad (rT r2 0)) 1), .int .i64 (gI (Ad (rT r2 0)) 2), .str (gS (Ad (rT r2 0)) 3), .sl .any 6 (gR (Ad (rT r2 0)) 4), .sl .any 7 (gR (Ad (rT r2 0)) 5)]),Ab true] [] fun r9 g9=>
 Ag (g9=[]∧r9= .imm (.int .i64 (rI r9)))
 (Let (!decide (rI r9=(0:Int))) fun x10=>
 Br (x10)
 (Q (Ab false) [])
 (U3 a0 (rR (rT r7 0)) (Pq Q))))
 (Ag ((!false)=true)
 (Let (true) fun x11=>
 Br (x11)
 (Q (Ab false) [])
 (U3 a0 (rR (rT r7 0)) (Pq Q))))))))))):Call E0.P Ahm [Al 8 a0] [] Q:=fR 0 Av4 h
noncomputable def A1x:AC:=(A8 [] [0] (codeOf Tryz.f7) 0).1
abbrev A2n:Nat:=77
theorem A2x:Be E0.P 7 A1x.code A2n [.tmp 0]:=fq Tryz.func7
theorem Awo(Q:QQ)(h:
 (Call E0.P Ru [.imm (.sl .any 8 [[IV.int .i64 (3:Int), .int .i64 (0:Int), .int .i64 (1:Int),
 .int .i64 (1:Int), .int .i64 (0:Int), .str [], .sl SK.any 6 [],
 .sl SK.any 7 []],
 [.int .i64 (5:Int), .int .i64 (0:Int), .int .i64 (2:Int),
 .int .i64 (7:Int), .int .i64 (0:Int), .str [], .sl SK.any 6 [],
 .sl SK.any 7 []]])] [] fun r0 g0=>
 Ag (qB1 g0 r0)
 (Call E0.P Ip [.imm (.agg [.int .i64 (gI (Ad (rT r0 0)) 0), .int .i64 (gI (Ad (rT r0 0)) 1), .int .i64 (gI (Ad (rT r0 0)) 2), .str (gS (Ad (rT r0 0)) 3), .sl .any 6 (gR (Ad (rT r0 0)) 4), .sl .any 7 (gR (Ad (rT r0 0)) 5)])] [] fun r1 g1=>
 Ag (qB2 g1 r1)
 (Call E0.P Ru [.imm (.sl .any 8 [])] [] fun r2 g2=>
 Ag (qB1 g2 r2)
 (Call E0.P Ip [.imm (.agg [.int .i64 0, .int .i64 0, .int .i64 0, .str [], .sl .any 6 [], .sl .any 7 []])] [] fun r3 g3=>
 Ag (qB2 g3 r3)
 (Call E0.P R5 [.imm (.agg [.int .i64 (gI (Ad (rT r0 0)) 0), .int .i64 (gI (Ad (rT r0 0)) 1), .int .i64 (gI (Ad (rT r0 0)) 2), .str (gS (Ad (rT r0 0)) 3), .sl .any 6 (gR (Ad (rT r0 0)) 4), .sl .any 7 (gR (Ad (rT r0 0)) 5)]), .imm (.str [70,105,114,115,116])] [] fun r4 g4=>
 Ag (qB4 g4 r4)
 (Let (bif
 gS (Ad (rT r0 0)) 3 ==
 [(51:UInt8),32,48,32,53,32,53,10,
 116,114,117,101,10,55,10]then
 decide (rI (rT r0 1)=(0:Int))
 else false) fun x5=>
 Br (x5 == true)
 (Call E0.P Ae8 [.imm (.sl .any 8 [[IV.int .i64 (3:Int), .int .i64 (0:Int), .int .i64 (1:Int),
 .int .i64 (1:Int), .int .i64 (0:Int), .str [], .sl SK.any 6 [],
 .sl SK.any 7 []],
 [.int .i64 (5:Int), .int .i64 (0:Int), .int .i64 (2:Int),
 .int .i64 (7:Int), .int .i64 (0:Int), .str [], .sl SK.any 6 [],
 .sl SK.any 7 []]]),Al 8 (rR (rT r1 0))] [] fun r6 g6=>
 Ag (qB0 g6 r6)
 (Let (rB r6) fun x7=>
 Let (bif x7 then decide (rI (rT r1 1)=(0:Int))else false) fun x8=>
 Let (bif x8 then decide (rI (rT r2 1)=(8:Int))else false) fun x9=>
 Let (bif x9 then decide (rI (rT r3 1)=(10:Int))else false) fun x10=>
 Let (bif x10 then rB (rT r4 1)else false) fun x11=>
 Let (bif x11 then decide (gI (Ad (rT r4 0)) 1=(8:Int))else false) fun x12=>
 Let (bif x12 then true else false) fun x13=>
 Let (bif x13 then true else false) fun x14=>
 Q (Ab x14) []))
 (Ag ((!true)=false)
 (Let (false) fun x15=>
 Let (bif x15 then decide (rI (rT r1 1)=(0:Int))else false) fun x16=>
 Let (bif x16 then decide (rI (rT r2 1)=(8:Int))else false) fun x17=>
 Let (bif x17 then decide (rI (rT r3 1)=(10:Int))else false) fun x18=>
 Let (bif x18 then rB (rT r4 1)else false) fun x19=>
 Let (bif x19 then decide (gI (Ad (rT r4 0)) 1=(8:Int))else false) fun x20=>
 Let (bif x20 then true else false) fun x21=>
 Let (bif x21 then true else false) fun x22=>
 Q (Ab x22) []))))))))):Call E0.P Rv [] [] Q:=fR 0 A2x h
noncomputable def Ah1:AC:=(A8 [(5,[0,3],[]),(7,[],[]),(12,[],[])] [2] (codeOf Tryz.f6) 0).1
abbrev Aib:Nat:=20
def Ae2(t0r:LL)(t3:Int)(K:KK):Prop:=Bc 5 E0.P Aib (A9 5 Ah1).code ⟨[(0,Al 8 t0r),(3,Ai t3)],[]⟩ K
def Arq(K:KK):Prop:=Aq 12 E0.P Aib (Am 12 Ah1).code ⟨[],[]⟩ K
def Alx(Q:QQ):KK:=kE fun st=>finish 0 E0.T [.tmp 2] [] Q st
def Ae1(Q:QQ):KK:=kF 0 (fun st=>Aq 12 E0.P Aib (Am 12 Ah1).code (mask [] st) (Alx Q)) fun st=>finish 0 E0.T [.tmp 2] [] Q st
theorem Anc(t0r:LL)(t3:Int)(K:KK)(h:
 (Br (decide (t3<(↑t0r.length:Int)))
 (Ag (((0:Int)≤t3∧t3<(↑t0r.length:Int))∧
 Bg
 [.int .i64, .int .i64, .int .i64, .int .i64, .int .i64, .str,
 .sl 6 Aa, .sl 7 Ah]
 (t0r.getD t3.toNat [])=
 true)
 (Call E0.P Apg [.imm (.agg [.int .i64 (gI (t0r.getD t3.toNat []) 2), .int .i64 (gI (t0r.getD t3.toNat []) 3), .int .i64 (gI (t0r.getD t3.toNat []) 4), .str (gS (t0r.getD t3.toNat []) 5), .sl .any 6 (gR (t0r.getD t3.toNat []) 6), .sl .any 7 (gR (t0r.getD t3.toNat []) 7)]),Ai 100] [] fun r0 g0=>
 Ag (qB0 g0 r0)
 (Br (!rB r0)
 (K .ret ⟨[(2,Ab false)],[]⟩)
 (Ae2 t0r (i64.wrap (t3+(1:Int))) K))))
 (K (.exit 0) ⟨[],[]⟩))):Ae2 t0r t3 K:=lR [0,3] h
theorem Ayu(K:KK)(h:
 (K .ret ⟨[(2,Ab true)],[]⟩)):Arq K:=cR [] h
theorem A1g(Q:QQ)(t2:Bool)(h:
 (Q (Ab t2) [])):Alx Q .ret ⟨[(2,Ab t2)],[]⟩:=kq h
theorem A1h(Q:QQ)(t2:Bool)(h:
 (Q (Ab t2) [])):Ae1 Q .ret ⟨[(2,Ab t2)],[]⟩:=kq h
theorem A1i(Q:QQ)(h:
 (Arq (Alx Q))):Ae1 Q (.exit 0) ⟨[],[]⟩:=kq h
theorem Bca:Be E0.P 6 Ah1.code Aib [.tmp 2]:=fq Tryz.func6
theorem A54(a0:LL)(Q:QQ)(h:
 (Br (decide ((150:Int)<(↑a0.length:Int)))
 (Q (Ab false) [])
 (Ae2 a0 ((0:Int)) (Ae1 Q)))):Call E0.P Apf [Al 8 a0] [] Q:=fR 0 Bca h
noncomputable def Xt:AC:=(A8 [(7,[0,2,4,5,21,22,23],[]),(9,[0,2,4,5],[]),(21,[0,2,4,5],[])] [2,3] (codeOf Tryz.f8) 0).1
abbrev X0:Nat:=79
def Vk(t0r:LL)(t5:LB)(t21r:LL)(t22 t23:Int)(u0 u1 u2:Int)(u3:LB)(u4 u5 u6:LL)(K:KK):Prop:=Bc 7 E0.P X0 (A9 7 Xt).code ⟨[(0,Al 8 t0r),(2, .ptr nL2 0),(4, .own nL4),(5,As t5),(21,Al 8 t21r),(22,Ai t22),(23,Ai t23)],[(nL2, .blk Aa [Ai u0,Ai u1,Ai u2,As u3, .own (nL2.cell 4), .own (nL2.cell 5)]),(nL4, .arr (Gg+2) true 1 u4),((nL2.cell 4), .arr (Aa+2) true 6 u5),((nL2.cell 5), .arr (Ah+2) true 7 u6)]⟩ K
def Aai(t0r:LL)(t5:LB)(u0 u1 u2:Int)(u3:LB)(u4 u5 u6:LL)(K:KK):Prop:=Aq 21 E0.P X0 (Am 21 Xt).code ⟨[(0,Al 8 t0r),(2, .ptr nL2 0),(4, .own nL4),(5,As t5)],[(nL2, .blk Aa [Ai u0,Ai u1,Ai u2,As u3, .own (nL2.cell 4), .own (nL2.cell 5)]),(nL4, .arr (Gg+2) true 1 u4),((nL2.cell 4), .arr (Aa+2) true 6 u5),((nL2.cell 5), .arr (Ah+2) true 7 u6)]⟩ K
def Vf(Q:QQ):KK:=kE fun st=>finish 0 E0.T [.cell 2 28, .tmp 3] [] Q st
def Vg(Q:QQ):KK:=kF 0 (fun st=>Aq 21 E0.P X0 (Am 21 Xt).code (mask [0,2,4,5] st) (Vf Q)) fun st=>finish 0 E0.T [.cell 2 28, .tmp 3] [] Q st
theorem Afq(t0r:LL)(t5:LB)(t21r:LL)(t22 t23:Int)(u0 u1 u2:Int)(u3:LB)(u4 u5 u6:LL)(K:KK)(h:
 (Br (decide (t23<t22))
 (Ag (((0:Int)≤t23∧t23<(↑t21r.length:Int))∧
 Bg
 [.int .i64, .int .i64, .int .i64, .int .i64, .int .i64, .str,
 .sl 6 Aa, .sl 7 Ah]
 (t21r.getD t23.toNat [])=
 true)
 (Ag (decide ((0:Int)<t23)=true→
 ((0:Int)≤i64.wrap (t23 - (1:Int))∧i64.wrap (t23 - (1:Int))<(↑t0r.length:Int))∧
 Bg
 [.int .i64, .int .i64, .int .i64, .int .i64, .int .i64, .str,
 .sl 6 Aa, .sl 7 Ah]
 (t0r.getD (i64.wrap (t23 - (1:Int))).toNat [])=
 true)
 (Let (bif decide ((0:Int)<t23)then
 decide (gI (t21r.getD t23.toNat []) 0≤gI (t0r.getD (i64.wrap (t23 - (1:Int))).toNat []) 0)
 else false) fun x0=>
 Br (x0)
 (K .ret ⟨[(2, .ptr nL2 0),(3,Ai 15)],[(nL2, .blk Aa [Ai 0,Ai 0,Ai 0, .imm (.str []), .own (nL2.cell 4), .own (nL2.cell 5)]),((nL2.cell 4), .arr (Aa+2) true 6 []),((nL2.cell 5), .arr (Ah+2) true 7 [])]⟩)
 (Call E0.P Aeh [.imm (.agg [.int .i64 (gI (t21r.getD t23.toNat []) 0), .int .i64 (gI (t21r.getD t23.toNat []) 1), .int .i64 (gI (t21r.getD t23.toNat []) 2), .int .i64 (gI (t21r.getD t23.toNat []) 3), .int .i64 (gI (t21r.getD t23.toNat []) 4), .str (gS (t21r.getD t23.toNat []) 5), .sl .any 6 (gR (t21r.getD t23.toNat []) 6), .sl .any 7 (gR (t21r.getD t23.toNat []) 7)])] [] fun r1 g1=>
 Ag (qB5 g1 r1)
 (Br (!decide (rI (rT r1 1)=(0:Int)))
 (K .ret ⟨[(2, .ptr nL2 0),(3,Ai (rI (rT r1 1)))],[(nL2, .blk Aa [Ai 0,Ai 0,Ai 0, .imm (.str []), .own (nL2.cell 4), .own (nL2.cell 5)]),((nL2.cell 4), .arr (Aa+2) true 6 []),((nL2.cell 5), .arr (Ah+2) true 7 [])]⟩)
 (Ag ((u4.length+2)*8≤140737488355328∧u4.length+2≤140737488355328)
 (Ag ((↑(t5.length+(rS (rT r1 (0:Nat))).length):Int)≤(9223372036854775807:Int))
 (Vk t0r (t5++rS (rT r1 0)) t21r t22 (i64.wrap (t23+(1:Int))) u0 u1 u2 u3 (u4++[[IV.int .i64 (gI (t21r.getD t23.toNat []) 0)],[.int .i64 (↑t5.length:Int)]]) u5 u6 K))))))))
 (K (.exit 0) ⟨[(0,Al 8 t0r),(2, .ptr nL2 0),(4, .own nL4),(5,As t5)],[(nL2, .blk Aa [Ai u0,Ai u1,Ai u2,As u3, .own (nL2.cell 4), .own (nL2.cell 5)]),(nL4, .arr (Gg+2) true 1 u4),((nL2.cell 4), .arr (Aa+2) true 6 u5),((nL2.cell 5), .arr (Ah+2) true 7 u6)]⟩))):Vk t0r t5 t21r t22 t23 u0 u1 u2 u3 u4 u5 u6 K:=lR [0,2,4,5,21,22,23] h
theorem Aql(t0r:LL)(t5:LB)(u0 u1 u2:Int)(u3:LB)(u4 u5 u6:LL)(K:KK)(h:
 (Call E0.P Aa8 [Al 1 u4] [] fun r0 g0=>
 Ag (g0=[]∧r0= .imm (.str (rS r0)))
 (Ag ((↑((rS r0).length+(1:Nat)):Int)≤(9223372036854775807:Int))
 (Call E0.P Tu [.imm (.str [70,105,114,115,116]), .imm (.int .i64 ((↑(rS r0++[(10:UInt8)]).length:Int)))] [] fun r1 g1=>
 Ag (qB6 g1 r1)
 (Call E0.P Tu [.imm (.str [78]),Ai ((↑t0r.length:Int))] [] fun r2 g2=>
 Ag (qB6 g2 r2)
 (Ag ((↑((rS r0++[(10:UInt8)]).length+t5.length):Int)≤(9223372036854775807:Int))
 (K .ret ⟨[(2, .ptr nL2 0),(3,Ai 0)],[(nL2, .blk Aa [Ai 8,Ai 0,Ai 0,As (rS r0++[(10:UInt8)]++t5), .own (nL2.cell 4), .own Bb5]),((nL2.cell 4), .arr (Aa+2) true 6 []),(Bb5, .arr (Ah+2) true 7 [[IV.str (gS (Ad r1) 0), .int .i64 (gI (Ad r1) 1),
 .int .i64 (gI (Ad r1) 2), .int .i64 (gI (Ad r1) 3),
 .str (gS (Ad r1) 4), .sl SK.any 6 (gR (Ad r1) 5),
 .sl SK.any 7 (gR (Ad r1) 6)],
 [.str (gS (Ad r2) 0), .int .i64 (gI (Ad r2) 1),
 .int .i64 (gI (Ad r2) 2), .int .i64 (gI (Ad r2) 3),
 .str (gS (Ad r2) 4), .sl SK.any 6 (gR (Ad r2) 5),
 .sl SK.any 7 (gR (Ad r2) 6)],
 [.str [84,121,112,101], .int .i64 (3:Int),
 .int .i64 (0:Int), .int .i64 (0:Int),
 .str [79,98,106,83,116,109],
 .sl SK.any 6 [], .sl SK.any 7 []]])]⟩))))))):Aai t0r t5 u0 u1 u2 u3 u4 u5 u6 K:=cR [] h
theorem Ar9(Q:QQ)(t3 u0:Int)(u1 u2:Int)(u3:LB)(u4 u5:LL)(h:
 (Q (.tup [.imm (.agg [.int .i64 u0, .int .i64 u1, .int .i64 u2, .str u3, .sl .any 6 u4, .sl .any 7 u5]),Ai t3]) [])):Vf Q .ret ⟨[(2, .ptr nL2 0),(3,Ai t3)],[(nL2, .blk Aa [Ai u0,Ai u1,Ai u2,As u3, .own (nL2.cell 4), .own Bb5]),((nL2.cell 4), .arr (Aa+2) true 6 u4),(Bb5, .arr (Ah+2) true 7 u5)]⟩:=kq h
theorem Afn(Q:QQ)(t3 u0:Int)(u1 u2:Int)(u3:LB)(u4 u5:LL)(h:
 (Q (.tup [.imm (.agg [.int .i64 u0, .int .i64 u1, .int .i64 u2, .str u3, .sl .any 6 u4, .sl .any 7 u5]),Ai t3]) [])):Vg Q .ret ⟨[(2, .ptr nL2 0),(3,Ai t3)],[(nL2, .blk Aa [Ai u0,Ai u1,Ai u2,As u3, .own (nL2.cell 4), .own (nL2.cell 5)]),((nL2.cell 4), .arr (Aa+2) true 6 u4),((nL2.cell 5), .arr (Ah+2) true 7 u5)]⟩:=kq h
theorem Asa(Q:QQ)(t0r:LL)(t5:LB)(u0 u1 u2:Int)(u3:LB)(u4 u5 u6:LL)(h:
 (Aai t0r t5 u0 u1 u2 u3 u4 u5 u6 (Vf Q))):Vg Q (.exit 0) ⟨[(0,Al 8 t0r),(2, .ptr nL2 0),(4, .own nL4),(5,As t5)],[(nL2, .blk Aa [Ai u0,Ai u1,Ai u2,As u3, .own (nL2.cell 4), .own (nL2.cell 5)]),(nL4, .arr (Gg+2) true 1 u4),((nL2.cell 4), .arr (Aa+2) true 6 u5),((nL2.cell 5), .arr (Ah+2) true 7 u6)]⟩:=kq h
theorem A2u:Be E0.P 8 Xt.code X0 [.cell 2 28, .tmp 3]:=fq Tryz.func8
theorem Awl(a0:LL)(Q:QQ)(h:
 (Let (bif decide ((↑a0.length:Int)=(0:Int))then true else decide ((100:Int)<(↑a0.length:Int))) fun x0=>
 Br (x0)
 (Q (.tup [.imm (.agg [.int .i64 0, .int .i64 0, .int .i64 0, .str [], .sl .any 6 [], .sl .any 7 []]),Ai 8]) [])
 (Vk a0 [] a0 ((↑a0.length:Int)) ((0:Int)) ((0:Int)) ((0:Int)) ((0:Int)) [] [] [] [] (Vg Q)))):Call E0.P Ru [Al 8 a0] [] Q:=fR 0 A2u h
noncomputable def Axh:AC:=(A8 [] [2,3] (codeOf Tryz.f12) 0).1
abbrev Ax3:Nat:=70
theorem Ax9:Be E0.P 12 Axh.code Ax3 [.tmp 2, .tmp 3]:=fq Tryz.func12
theorem Ar3(a0_0 a0_1 a0_2:Int)(a0_3:LB)(a0_4 a0_5:LL)(Q:QQ)(h:
 (Call E0.P R5 [.imm (.agg [.int .i64 a0_0, .int .i64 a0_1, .int .i64 a0_2, .str a0_3, .sl .any 6 a0_4, .sl .any 7 a0_5]), .imm (.str [84,121,112,101])] [] fun r0 g0=>
 Ag (qB4 g0 r0)
 (Let (bif !decide (a0_0=(8:Int))then true else !decide (gI (Ad (rT r0 0)) 0=(3:Int))) fun x1=>
 Let (bif x1 then true
 else
 !gS (Ad (rT r0 0)) 3 ==
 [(79:UInt8),98,106,83,116,109]) fun x2=>
 Br (x2)
 (Q (.tup [.imm (.sl .any 8 []),Ai 10]) [])
 (Call E0.P Tv [.imm (.agg [.int .i64 a0_0, .int .i64 a0_1, .int .i64 a0_2, .str a0_3, .sl .any 6 a0_4, .sl .any 7 a0_5]), .imm (.str [78]),Ai 1,Ai 100] [] fun r3 g3=>
 Ag (g3=[]∧r3= .tup [.imm (.int .i64 (rI (rT r3 0))), .imm (.bool (rB (rT r3 1)))])
 (Call E0.P Tv [.imm (.agg [.int .i64 a0_0, .int .i64 a0_1, .int .i64 a0_2, .str a0_3, .sl .any 6 a0_4, .sl .any 7 a0_5]), .imm (.str [70,105,114,115,116]),Ai 0,Ai ((↑a0_3.length:Int))] [] fun r4 g4=>
 Ag (g4=[]∧r4= .tup [.imm (.int .i64 (rI (rT r4 0))), .imm (.bool (rB (rT r4 1)))])
 (Let (bif !rB (rT r3 1)then true else !rB (rT r4 1)) fun x5=>
 Br (x5)
 (Q (.tup [.imm (.sl .any 8 []),Ai 11]) [])
 (Ag ((0:Int)≤rI (rT r4 0)∧rI (rT r4 0)≤(↑a0_3.length:Int))
 (Let (List.take (rI (rT r4 0)).toNat a0_3) fun x6=>
 Call E0.P Q6 [As x6,Ai (i64.wrap ((2:Int)*rI (rT r3 0)))] [] fun r7 g7=>
 Ag (qB7 g7 r7)
 (Br (!decide (rI (rT r7 1)=(0:Int)))
 (Q (.tup [.imm (.sl .any 8 []),Ai (rI (rT r7 1))]) [])
 (Ag ((0:Int)≤rI (rT r4 0)∧rI (rT r4 0)≤(↑a0_3.length:Int))
 (Let (List.drop (rI (rT r4 0)).toNat a0_3) fun x8=>
 Call E0.P Ac0 [Al 1 (rR (rT r7 0)),As x8] [] fun r9 g9=>
 Ag (qB2 g9 r9)
 (Q (.tup [Al 8 (rR (rT r9 0)),Ai (rI (rT r9 1))]) [])))))))))))):Call E0.P Ip [.imm (.agg [.int .i64 a0_0, .int .i64 a0_1, .int .i64 a0_2, .str a0_3, .sl .any 6 a0_4, .sl .any 7 a0_5])] [] Q:=fR 0 Ax9 h
noncomputable def A1w:AC:=(A8 [] [2,3] (codeOf Tryz.f18) 0).1
abbrev A2m:Nat:=35
theorem A2v:Be E0.P 18 A1w.code A2m [.tmp 2, .tmp 3]:=fq Tryz.func18
theorem Awm(a0_0 a0_1:Int)(a0_2 a0_3 a0_4:Int)(a0_5:LB)(a0_6 a0_7:LL)(Q:QQ)(h:
 (Let (bif decide (a0_0<(1:Int))then true else decide ((8388607:Int)<a0_0)) fun x0=>
 Br (x0)
 (Q (.tup [.imm (.str []),Ai 3]) [])
 (Br (!decide (a0_1=(0:Int)))
 (Q (.tup [.imm (.str []),Ai 2]) [])
 (Call E0.P Ag0 [.imm (.agg [.int .i64 a0_2, .int .i64 a0_3, .int .i64 a0_4, .str a0_5, .sl .any 6 a0_6, .sl .any 7 a0_7])] [] fun r1 g1=>
 Ag (qB5 g1 r1)
 (Br (!decide (rI (rT r1 1)=(0:Int)))
 (Q (.tup [.imm (.str []),Ai (rI (rT r1 1))]) [])
 (Br (decide ((4096:Int)<(↑(rS (rT r1 (0:Nat))).length:Int)))
 (Q (.tup [.imm (.str []),Ai 7]) [])
 (Ag ((↑((rS (rT r1 (0:Nat))).length+(1:Nat)):Int)≤(9223372036854775807:Int))
 (Q (.tup [As (rS (rT r1 0)++[(10:UInt8)]),Ai 0]) [])))))))):Call E0.P Aeh [.imm (.agg [.int .i64 a0_0, .int .i64 a0_1, .int .i64 a0_2, .int .i64 a0_3, .int .i64 a0_4, .str a0_5, .sl .any 6 a0_6, .sl .any 7 a0_7])] [] Q:=fR 0 A2v h
noncomputable def G9:AC:=(A8 [(3,[3,6,7,8],[]),(5,[3],[]),(9,[3,5,6,7,8],[3,6,7,8]),(10,[3,6,7,8],[3,6,7,8]),(11,[3],[])] [2] (codeOf Tryz.f19) 0).1
abbrev Hl:Nat:=23
def Q5(t3:LB)(t6r:LL)(t7 t8:Int)(K:KK):Prop:=Bc 3 E0.P Hl (A9 3 G9).code ⟨[(3,As t3),(6,Al 1 t6r),(7,Ai t7),(8,Ai t8)],[]⟩ K
def Q0(t3:LB)(t5:Int)(t6r:LL)(t7 t8:Int)(K:KK):Prop:=Aq 9 E0.P Hl (Am 9 G9).code ⟨[(3,As t3),(5,Ai t5),(6,Al 1 t6r),(7,Ai t7),(8,Ai t8)],[]⟩ K
def Afg(t3:LB)(K:KK):Prop:=Aq 11 E0.P Hl (Am 11 G9).code ⟨[(3,As t3)],[]⟩ K
def Aff(t3:LB)(t6r:LL)(t7 t8:Int)(K:KK):Prop:=Aq 10 E0.P Hl (Am 10 G9).code ⟨[(3,As t3),(6,Al 1 t6r),(7,Ai t7),(8,Ai t8)],[]⟩ K
def Ym(Q:QQ):KK:=kE fun st=>finish 0 E0.T [.tmp 2] [] Q st
def Aha(Q:QQ):KK:=kF 0 (fun st=>Aq 11 E0.P Hl (Am 11 G9).code (mask [3] st) (Ym Q)) fun st=>finish 0 E0.T [.tmp 2] [] Q st
def Yn(K:KK):Ex→St→Prop
 | .normal,st=>Bc 3 E0.P Hl (A9 3 G9).code (mask [3,6,7,8] st) K
 | .exit i,st=>K (.exit i) st
 | .goto i,st=>K (.goto i) st
 | .ret,st=>K .ret st
def Q3(K:KK):KK:=kC 1 (fun st=>Aq 10 E0.P Hl (Am 10 G9).code (mask [3,6,7,8] st) (Yn K)) K
theorem Acf(t3:LB)(t6r:LL)(t7 t8:Int)(K:KK)(h:
 (Br (decide (t8<t7))
 (Ag (((0:Int)≤t8∧t8<(↑t6r.length:Int))∧Bg [.int .i64] (t6r.getD t8.toNat [])=true)
 (Br (decide ((0:Int)<t8))
 (Ag ((↑(t3.length+(1:Nat)):Int)≤(9223372036854775807:Int))
 (Q0 (t3++[(32:UInt8)]) (gI (t6r.getD t8.toNat []) 0) t6r t7 t8 (Q3 K)))
 (Q0 t3 (gI (t6r.getD t8.toNat []) 0) t6r t7 t8 (Q3 K))))
 (K (.exit 0) ⟨[(3,As t3)],[]⟩))):Q5 t3 t6r t7 t8 K:=lR [3,6,7,8] h
theorem Aop(t3:LB)(t5:Int)(t6r:LL)(t7 t8:Int)(K:KK)(h:
 (Call E0.P Pg [Ai t5] [] fun r0 g0=>
 Ag (g0=[]∧r0= .imm (.str (rS r0)))
 (Ag ((↑(t3.length+(rS r0).length):Int)≤(9223372036854775807:Int))
 (K .normal ⟨[(3,As (t3++rS r0)),(6,Al 1 t6r),(7,Ai t7),(8,Ai t8)],[]⟩)))):Q0 t3 t5 t6r t7 t8 K:=cR [3,6,7,8] h
theorem Amr(t3:LB)(K:KK)(h:
 (K .ret ⟨[(2,As t3)],[]⟩)):Afg t3 K:=cR [] h
theorem Amq(t3:LB)(t6r:LL)(t7 t8:Int)(K:KK)(h:
 (K .normal ⟨[(3,As t3),(6,Al 1 t6r),(7,Ai t7),(8,Ai (i64.wrap (t8+(1:Int))))],[]⟩)):Aff t3 t6r t7 t8 K:=cR [3,6,7,8] h
theorem Aou(Q:QQ)(t2:LB)(h:
 (Q (As t2) [])):Ym Q .ret ⟨[(2,As t2)],[]⟩:=kq h
theorem Aov(Q:QQ)(t3:LB)(h:
 (Afg t3 (Ym Q))):Aha Q (.exit 0) ⟨[(3,As t3)],[]⟩:=kq h
theorem Aow(K:KK)(t3:LB)(t6r:LL)(t7 t8:Int)(h:
 (Q5 t3 t6r t7 t8 K)):Yn K .normal ⟨[(3,As t3),(6,Al 1 t6r),(7,Ai t7),(8,Ai t8)],[]⟩:=kq h
theorem Aox(K:KK)(t3:LB)(t6r:LL)(t7 t8:Int)(h:
 (Aff t3 t6r t7 t8 (Yn K))):Q3 K .normal ⟨[(3,As t3),(6,Al 1 t6r),(7,Ai t7),(8,Ai t8)],[]⟩:=kq h
theorem Ayb:Be E0.P 19 G9.code Hl [.tmp 2]:=fq Tryz.func19
theorem Ar5(a0:LL)(Q:QQ)(h:
 (Q5 [] a0 ((↑a0.length:Int)) ((0:Int)) (Aha Q))):Call E0.P Aa8 [Al 1 a0] [] Q:=fR 0 Ayb h
noncomputable def Axi:AC:=(A8 [] [4] (codeOf Tryz.f20) 0).1
abbrev Ax4:Nat:=9
theorem Aya:Be E0.P 20 Axi.code Ax4 [.cell 4 53]:=fq Tryz.func20
theorem Ar4(a0:LB)(a1:Int)(Q:QQ)(h:
 (Q (.imm (.agg [.str a0, .int .i64 2, .int .i64 a1, .int .i64 0, .str [], .sl .any 6 [], .sl .any 7 []])) [])):Call E0.P Tu [As a0,Ai a1] [] Q:=fR 0 Aya h
noncomputable def Axj:AC:=(A8 [] [8,9] (codeOf Tryz.f26) 0).1
abbrev Ax5:Nat:=35
theorem Ayc:Be E0.P 26 Axj.code Ax5 [.tmp 8, .tmp 9]:=fq Tryz.func26
theorem Ar6(a0_0 a0_1 a0_2:Int)(a0_3:LB)(a0_4 a0_5:LL)(a1:LB)(a2 a3:Int)(Q:QQ)(h:
 (Call E0.P R5 [.imm (.agg [.int .i64 a0_0, .int .i64 a0_1, .int .i64 a0_2, .str a0_3, .sl .any 6 a0_4, .sl .any 7 a0_5]),As a1] [] fun r0 g0=>
 Ag (qB4 g0 r0)
 (Let (bif decide (gI (Ad (rT r0 0)) 0=(2:Int))then
 decide (a2≤gI (Ad (rT r0 0)) 1)
 else false) fun x1=>
 Let (bif x1 then decide (gI (Ad (rT r0 0)) 1≤a3)else false) fun x2=>
 Q (.tup [Ai (gI (Ad (rT r0 0)) 1),Ab x2]) []))):Call E0.P Tv [.imm (.agg [.int .i64 a0_0, .int .i64 a0_1, .int .i64 a0_2, .str a0_3, .sl .any 6 a0_4, .sl .any 7 a0_5]),As a1,Ai a2,Ai a3] [] Q:=fR 0 Ayc h
noncomputable def Y3:AC:=(A8 [(1,[0,1,6,7],[]),(5,[0,1,6,7],[]),(12,[0,1,6,7],[])] [4,5] (codeOf Tryz.f27) 0).1
abbrev Y8:Nat:=48
def Py(t0:LB)(t1 t7:Int)(u0:LL)(K:KK):Prop:=Bc 5 E0.P Y8 (A9 5 Y3).code ⟨[(0,As t0),(1,Ai t1),(6, .own Ng),(7,Ai t7)],[(Ng, .arr (Gg+2) true 1 u0)]⟩ K
def Asb(Q:QQ):KK:=kE fun st=>finish 0 E0.T [.tmp 4, .tmp 5] [] Q st
def Pp(Q:QQ):Ex→St→Prop
 | .normal,st=>finish 0 E0.T [.tmp 4, .tmp 5] [] Q st
 | .exit i,st=>(match (i.beq 0:Bool)with
 |true=>finish 0 E0.T [.tmp 4, .tmp 5] [] Q st
 |false=>False)
 | .goto i,st=>I4 1 E0.P Y8 i (J4 1 Y3).code (mask [0,1,6,7] st) (Asb Q)
 | .ret,st=>finish 0 E0.T [.tmp 4, .tmp 5] [] Q st
theorem Anb(t0:LB)(t1 t7:Int)(u0:LL)(K:KK)(h:
 (Call E0.P Pi [As t0,Ai t7] [] fun r0 g0=>
 Ag (qB8 g0 r0)
 (Br (!decide (rI (rT r0 1)=(0:Int)))
 (K .ret ⟨[(4, .own nL4),(5,Ai (rI (rT r0 1)))],[(nL4, .arr (Gg+2) true 1 [])]⟩)
 (Let (bif decide ((↑u0.length:Int)<t1)then decide (gI (Ad (rT r0 0)) 0=(1:Int))else false) fun x1=>
 Br (x1)
 (Ag ((u0.length+1)*8≤140737488355328∧u0.length+1≤140737488355328)
 (Py t0 t1 (gI (Ad (rT r0 0)) 4) (u0++[[IV.int .i64 (gI (Ad (rT r0 0)) 1)]]) K))
 (Let (bif decide ((↑u0.length:Int)<t1)then true else !decide (gI (Ad (rT r0 0)) 0=(0:Int))) fun x2=>
 Br (x2)
 (K .ret ⟨[(4, .own nL4),(5,Ai 4)],[(nL4, .arr (Gg+2) true 1 [])]⟩)
 (K .ret ⟨[(4, .own Ng),(5,Ai 0)],[(Ng, .arr (Gg+2) true 1 u0)]⟩)))))):Py t0 t1 t7 u0 K:=lR [0,1,6,7] h
theorem Abd(Q:QQ)(t5:Int)(u0:LL)(h:
 (Q (.tup [Al 1 u0,Ai t5]) [])):Pp Q .ret ⟨[(4, .own nL4),(5,Ai t5)],[(nL4, .arr (Gg+2) true 1 u0)]⟩:=kq h
theorem Am1(Q:QQ)(t5:Int)(u0:LL)(h:
 (Q (.tup [Al 1 u0,Ai t5]) [])):Pp Q .ret ⟨[(4, .own Ng),(5,Ai t5)],[(Ng, .arr (Gg+2) true 1 u0)]⟩:=kq h
theorem Av3:Be E0.P 27 Y3.code Y8 [.tmp 4, .tmp 5]:=fq Tryz.func27
theorem Aqy(a0:LB)(a1:Int)(Q:QQ)(h:
 (Py a0 a1 ((0:Int)) [] (Pp Q))):Call E0.P Q6 [As a0,Ai a1] [] Q:=fR 0 Av3 h
noncomputable def Ia:AC:=(A8 [(4,[0,1,6,7,8,9],[]),(6,[6],[]),(19,[0,1,6,7,8,9,10,11,12],[0,1,6,7,8,9]),(24,[0,1,6,7,8,9],[0,1,6,7,8,9]),(25,[6],[])] [4,5] (codeOf Tryz.f28) 0).1
abbrev Ib:Nat:=106
def S9(t0r:LL)(t1:LB)(t7 t8 t9:Int)(u0:LL)(K:KK):Prop:=Bc 4 E0.P Ib (A9 4 Ia).code ⟨[(0,Al 1 t0r),(1,As t1),(6, .own Ng),(7,Ai t7),(8,Ai t8),(9,Ai t9)],[(Ng, .arr (Cm+2) true 8 u0)]⟩ K
def Qz(t0r:LL)(t1:LB)(t7 t8:Int)(t9 t10:Int)(t11 t12:Int)(u0:LL)(K:KK):Prop:=Aq 19 E0.P Ib (Am 19 Ia).code ⟨[(0,Al 1 t0r),(1,As t1),(6, .own Ng),(7,Ai t7),(8,Ai t8),(9,Ai t9),(10,Ai t10),(11,Ai t11),(12,Ai t12)],[(Ng, .arr (Cm+2) true 8 u0)]⟩ K
def Ag6(u0:LL)(K:KK):Prop:=Aq 25 E0.P Ib (Am 25 Ia).code ⟨[(6, .own Ng)],[(Ng, .arr (Cm+2) true 8 u0)]⟩ K
def Ag5(t0r:LL)(t1:LB)(t7 t8 t9:Int)(u0:LL)(K:KK):Prop:=Aq 24 E0.P Ib (Am 24 Ia).code ⟨[(0,Al 1 t0r),(1,As t1),(6, .own Ng),(7,Ai t7),(8,Ai t8),(9,Ai t9)],[(Ng, .arr (Cm+2) true 8 u0)]⟩ K
def Aan(Q:QQ):KK:=kE fun st=>finish 0 E0.T [.tmp 4, .tmp 5] [] Q st
def Nv(Q:QQ):KK:=kF 0 (fun st=>Aq 25 E0.P Ib (Am 25 Ia).code (mask [6] st) (Aan Q)) fun st=>finish 0 E0.T [.tmp 4, .tmp 5] [] Q st
def Aao(K:KK):Ex→St→Prop
 | .normal,st=>Bc 4 E0.P Ib (A9 4 Ia).code (mask [0,1,6,7,8,9] st) K
 | .exit i,st=>K (.exit i) st
 | .goto i,st=>K (.goto i) st
 | .ret,st=>K .ret st
def Nw(K:KK):KK:=kC 1 (fun st=>Aq 24 E0.P Ib (Am 24 Ia).code (mask [0,1,6,7,8,9] st) (Aao K)) K
theorem Ads(t0r:LL)(t1:LB)(t7 t8 t9:Int)(u0:LL)(K:KK)(h:
 (Br (decide (t9<(↑t0r.length:Int)))
 (Ag (((0:Int)≤t9∧t9<(↑t0r.length:Int))∧Bg [.int .i64] (t0r.getD t9.toNat [])=true)
 (Ag (((0:Int)≤i64.wrap (t9+(1:Int))∧i64.wrap (t9+(1:Int))<(↑t0r.length:Int))∧
 Bg [.int .i64] (t0r.getD (i64.wrap (t9+(1:Int))).toNat [])=true)
 (Let (bif decide ((0:Int)<t9)then decide (gI (t0r.getD t9.toNat []) 0≤t7)else false) fun x0=>
 Br (x0)
 (K .ret ⟨[(4, .own nL4),(5,Ai 15)],[(nL4, .arr (Cm+2) true 8 [])]⟩)
 (Let (bif decide (gI (t0r.getD t9.toNat []) 0<(1:Int))then true
 else decide ((8388607:Int)<gI (t0r.getD t9.toNat []) 0)) fun x1=>
 Br (x1)
 (K .ret ⟨[(4, .own nL4),(5,Ai 3)],[(nL4, .arr (Cm+2) true 8 [])]⟩)
 (Let (bif decide (t9=(0:Int))then
 !decide (gI (t0r.getD (i64.wrap (t9+(1:Int))).toNat []) 0=(0:Int))
 else false) fun x2=>
 Let (bif x2 then true else decide (gI (t0r.getD (i64.wrap (t9+(1:Int))).toNat []) 0≤t8)) fun x3=>
 Let (bif x3 then true else decide ((↑t1.length:Int)<gI (t0r.getD (i64.wrap (t9+(1:Int))).toNat []) 0)) fun x4=>
 Br (x4)
 (K .ret ⟨[(4, .own nL4),(5,Ai 4)],[(nL4, .arr (Cm+2) true 8 [])]⟩)
 (Ag (decide (i64.wrap (t9+(3:Int))<(↑t0r.length:Int))=true→
 ((0:Int)≤i64.wrap (t9+(3:Int))∧i64.wrap (t9+(3:Int))<(↑t0r.length:Int))∧
 Bg [.int .i64] (t0r.getD (i64.wrap (t9+(3:Int))).toNat [])=true)
 (Let (bif decide (i64.wrap (t9+(3:Int))<(↑t0r.length:Int))then
 decide
 (gI (t0r.getD (i64.wrap (t9+(1:Int))).toNat []) 0≤
 gI (t0r.getD (i64.wrap (t9+(3:Int))).toNat []) 0)
 else false) fun x5=>
 Br (x5)
 (Ag (((0:Int)≤i64.wrap (t9+(3:Int))∧i64.wrap (t9+(3:Int))<(↑t0r.length:Int))∧
 Bg [.int .i64] (t0r.getD (i64.wrap (t9+(3:Int))).toNat [])=true)
 (Qz t0r t1 (gI (t0r.getD t9.toNat []) 0) (gI (t0r.getD (i64.wrap (t9+(1:Int))).toNat []) 0) t9 (gI (t0r.getD t9.toNat []) 0) (gI (t0r.getD (i64.wrap (t9+(1:Int))).toNat []) 0) (if gI (t0r.getD (i64.wrap (t9+(3:Int))).toNat []) 0<(↑t1.length:Int)then
 gI (t0r.getD (i64.wrap (t9+(3:Int))).toNat []) 0
 else(↑t1.length:Int)) u0 (Nw K)))
 (Qz t0r t1 (gI (t0r.getD t9.toNat []) 0) (gI (t0r.getD (i64.wrap (t9+(1:Int))).toNat []) 0) t9 (gI (t0r.getD t9.toNat []) 0) (gI (t0r.getD (i64.wrap (t9+(1:Int))).toNat []) 0) ((↑t1.length:Int)) u0 (Nw K)))))))))
 (K (.exit 0) ⟨[(6, .own Ng)],[(Ng, .arr (Cm+2) true 8 u0)]⟩))):S9 t0r t1 t7 t8 t9 u0 K:=lR [0,1,6,7,8,9] h
theorem Aom(t0r:LL)(t1:LB)(t7 t8:Int)(t9 t10:Int)(t11 t12:Int)(u0:LL)(K:KK)(h:
 (Ag ((0:Int)≤t11∧t11≤t12∧t12≤(↑t1.length:Int))
 (Let (List.drop t11.toNat (List.take t12.toNat t1)) fun x0=>
 Call E0.P Aek [As x0] [] fun r1 g1=>
 Ag (qB1 g1 r1)
 (Br (!decide (rI (rT r1 1)=(0:Int)))
 (K .ret ⟨[(4, .own nL4),(5,Ai (rI (rT r1 1)))],[(nL4, .arr (Cm+2) true 8 [])]⟩)
 (Ag ((u0.length+1)*104≤140737488355328∧u0.length+1≤140737488355328)
 (K .normal ⟨[(0,Al 1 t0r),(1,As t1),(6, .own Ng),(7,Ai t7),(8,Ai t8),(9,Ai t9)],[(Ng, .arr (Cm+2) true 8 (u0++
 [[IV.int .i64 t10, .int .i64 (0:Int), .int .i64 (gI (Ad (rT r1 0)) 0),
 .int .i64 (gI (Ad (rT r1 0)) 1),
 .int .i64 (gI (Ad (rT r1 0)) 2), .str (gS (Ad (rT r1 0)) 3),
 .sl SK.any 6 (gR (Ad (rT r1 0)) 4),
 .sl SK.any 7 (gR (Ad (rT r1 0)) 5)]]))]⟩)))))):Qz t0r t1 t7 t8 t9 t10 t11 t12 u0 K:=cR [0,1,6,7,8,9] h
theorem Aoo(u0:LL)(K:KK)(h:
 (K .ret ⟨[(4, .own Ng),(5,Ai 0)],[(Ng, .arr (Cm+2) true 8 u0)]⟩)):Ag6 u0 K:=cR [] h
theorem Aon(t0r:LL)(t1:LB)(t7 t8 t9:Int)(u0:LL)(K:KK)(h:
 (K .normal ⟨[(0,Al 1 t0r),(1,As t1),(6, .own Ng),(7,Ai t7),(8,Ai t8),(9,Ai (i64.wrap (t9+(2:Int))))],[(Ng, .arr (Cm+2) true 8 u0)]⟩)):Ag5 t0r t1 t7 t8 t9 u0 K:=cR [0,1,6,7,8,9] h
theorem Aq0(Q:QQ)(t5:Int)(u0:LL)(h:
 (Q (.tup [Al 8 u0,Ai t5]) [])):Aan Q .ret ⟨[(4, .own Ng),(5,Ai t5)],[(Ng, .arr (Cm+2) true 8 u0)]⟩:=kq h
theorem Ot(Q:QQ)(t5:Int)(u0:LL)(h:
 (Q (.tup [Al 8 u0,Ai t5]) [])):Nv Q .ret ⟨[(4, .own nL4),(5,Ai t5)],[(nL4, .arr (Cm+2) true 8 u0)]⟩:=kq h
theorem Aq1(Q:QQ)(u0:LL)(h:
 (Ag6 u0 (Aan Q))):Nv Q (.exit 0) ⟨[(6, .own Ng)],[(Ng, .arr (Cm+2) true 8 u0)]⟩:=kq h
theorem Aq2(K:KK)(t0r:LL)(t1:LB)(t7 t8 t9:Int)(u0:LL)(h:
 (S9 t0r t1 t7 t8 t9 u0 K)):Aao K .normal ⟨[(0,Al 1 t0r),(1,As t1),(6, .own Ng),(7,Ai t7),(8,Ai t8),(9,Ai t9)],[(Ng, .arr (Cm+2) true 8 u0)]⟩:=kq h
theorem Aq3(K:KK)(t5:Int)(u0:LL)(h:
 (K .ret ⟨[(4, .own nL4),(5,Ai t5)],[(nL4, .arr (Cm+2) true 8 u0)]⟩)):Nw K .ret ⟨[(4, .own nL4),(5,Ai t5)],[(nL4, .arr (Cm+2) true 8 u0)]⟩:=kq h
theorem Aq4(K:KK)(t0r:LL)(t1:LB)(t7 t8 t9:Int)(u0:LL)(h:
 (Ag5 t0r t1 t7 t8 t9 u0 (Aao K))):Nw K .normal ⟨[(0,Al 1 t0r),(1,As t1),(6, .own Ng),(7,Ai t7),(8,Ai t8),(9,Ai t9)],[(Ng, .arr (Cm+2) true 8 u0)]⟩:=kq h
theorem A0g:Be E0.P 28 Ia.code Ib [.tmp 4, .tmp 5]:=fq Tryz.func28
theorem Avb(a0:LL)(a1:LB)(Q:QQ)(h:
 (S9 a0 a1 ((0:Int)) ((-1:Int)) ((0:Int)) [] (Nv Q))):Call E0.P Ac0 [Al 1 a0,As a1] [] Q:=fR 0 A0g h
noncomputable def Uv:AC:=(A8 [(5,[0,1,5],[]),(7,[],[]),(11,[0,1,5],[0,1,5]),(12,[],[])] [4] (codeOf Tryz.f14) 0).1
abbrev Uz:Nat:=55
def Aci(t0r t1r:LL)(t5:Int)(K:KK):Prop:=Bc 5 E0.P Uz (A9 5 Uv).code ⟨[(0,Al 8 t0r),(1,Al 8 t1r),(5,Ai t5)],[]⟩ K
def Af9(t0r t1r:LL)(t5:Int)(K:KK):Prop:=Aq 11 E0.P Uz (Am 11 Uv).code ⟨[(0,Al 8 t0r),(1,Al 8 t1r),(5,Ai t5)],[]⟩ K
def Aqd(K:KK):Prop:=Aq 12 E0.P Uz (Am 12 Uv).code ⟨[],[]⟩ K
def Ajn(Q:QQ):KK:=kE fun st=>finish 0 E0.T [.tmp 4] [] Q st
def Ajo(Q:QQ):KK:=kF 0 (fun st=>Aq 12 E0.P Uz (Am 12 Uv).code (mask [] st) (Ajn Q)) fun st=>finish 0 E0.T [.tmp 4] [] Q st
def Ajp(K:KK):Ex→St→Prop
 | .normal,st=>Bc 5 E0.P Uz (A9 5 Uv).code (mask [0,1,5] st) K
 | .exit i,st=>K (.exit i) st
 | .goto i,st=>K (.goto i) st
 | .ret,st=>K .ret st
theorem Ala(t0r t1r:LL)(t5:Int)(K:KK)(h:
 (Br (decide (t5<(↑t0r.length:Int)))
 (Ag (((0:Int)≤t5∧t5<(↑t0r.length:Int))∧
 Bg
 [.int .i64, .int .i64, .int .i64, .int .i64, .int .i64, .str,
 .sl 6 Aa, .sl 7 Ah]
 (t0r.getD t5.toNat [])=
 true)
 (Ag (((0:Int)≤t5∧t5<(↑t1r.length:Int))∧
 Bg
 [.int .i64, .int .i64, .int .i64, .int .i64, .int .i64, .str,
 .sl 6 Aa, .sl 7 Ah]
 (t1r.getD t5.toNat [])=
 true)
 (Ag ((!decide (gI (t0r.getD t5.toNat []) 0=gI (t1r.getD t5.toNat []) 0))=false→
 ((0:Int)≤t5∧t5<(↑t0r.length:Int))∧
 Bg
 [.int .i64, .int .i64, .int .i64, .int .i64, .int .i64, .str,
 .sl 6 Aa, .sl 7 Ah]
 (t0r.getD t5.toNat [])=
 true)
 (Ag ((!decide (gI (t0r.getD t5.toNat []) 0=gI (t1r.getD t5.toNat []) 0))=false→
 ((0:Int)≤t5∧t5<(↑t1r.length:Int))∧
 Bg
 [.int .i64, .int .i64, .int .i64, .int .i64, .int .i64, .str,
 .sl 6 Aa, .sl 7 Ah]
 (t1r.getD t5.toNat [])=
 true)
 (Let (bif !decide (gI (t0r.getD t5.toNat []) 0=gI (t1r.getD t5.toNat []) 0)then true
 else !decide (gI (t0r.getD t5.toNat []) 1=gI (t1r.getD t5.toNat []) 1)) fun x0=>
 Ag (x0=false→
 ((0:Int)≤t5∧t5<(↑t0r.length:Int))∧
 Bg
 [.int .i64, .int .i64, .int .i64, .int .i64, .int .i64, .str,
 .sl 6 Aa, .sl 7 Ah]
 (t0r.getD t5.toNat [])=
 true)
 (Ag (x0=false→
 ((0:Int)≤t5∧t5<(↑t1r.length:Int))∧
 Bg
 [.int .i64, .int .i64, .int .i64, .int .i64, .int .i64, .str,
 .sl 6 Aa, .sl 7 Ah]
 (t1r.getD t5.toNat [])=
 true)
 (Br (x0 == false)
 (Call E0.P Hf [.imm (.agg [.int .i64 (gI (t0r.getD t5.toNat []) 2), .int .i64 (gI (t0r.getD t5.toNat []) 3), .int .i64 (gI (t0r.getD t5.toNat []) 4), .str (gS (t0r.getD t5.toNat []) 5), .sl .any 6 (gR (t0r.getD t5.toNat []) 6), .sl .any 7 (gR (t0r.getD t5.toNat []) 7)]), .imm (.agg [.int .i64 (gI (t1r.getD t5.toNat []) 2), .int .i64 (gI (t1r.getD t5.toNat []) 3), .int .i64 (gI (t1r.getD t5.toNat []) 4), .str (gS (t1r.getD t5.toNat []) 5), .sl .any 6 (gR (t1r.getD t5.toNat []) 6), .sl .any 7 (gR (t1r.getD t5.toNat []) 7)])] [] fun r1 g1=>
 Ag (qB0 g1 r1)
 (Let (!rB r1) fun x2=>
 Br (x2)
 (K .ret ⟨[(4,Ab false)],[]⟩)
 (Af9 t0r t1r t5 (Ajp K))))
 (Ag ((!false)=true)
 (Let (true) fun x3=>
 Br (x3)
 (K .ret ⟨[(4,Ab false)],[]⟩)
 (Af9 t0r t1r t5 (Ajp K)))))))))))
 (K (.exit 0) ⟨[],[]⟩))):Aci t0r t1r t5 K:=lR [0,1,5] h
theorem Awg(t0r t1r:LL)(t5:Int)(K:KK)(h:
 (K .normal ⟨[(0,Al 8 t0r),(1,Al 8 t1r),(5,Ai (i64.wrap (t5+(1:Int))))],[]⟩)):Af9 t0r t1r t5 K:=cR [0,1,5] h
theorem Awh(K:KK)(h:
 (K .ret ⟨[(4,Ab true)],[]⟩)):Aqd K:=cR [] h
theorem Azd(Q:QQ)(t4:Bool)(h:
 (Q (Ab t4) [])):Ajn Q .ret ⟨[(4,Ab t4)],[]⟩:=kq h
theorem Aze(Q:QQ)(h:
 (Aqd (Ajn Q))):Ajo Q (.exit 0) ⟨[],[]⟩:=kq h
theorem Azf(K:KK)(t0r t1r:LL)(t5:Int)(h:
 (Aci t0r t1r t5 K)):Ajp K .normal ⟨[(0,Al 8 t0r),(1,Al 8 t1r),(5,Ai t5)],[]⟩:=kq h
theorem A9r:Be E0.P 14 Uv.code Uz [.tmp 4]:=fq Tryz.func14
theorem A4r(a0 a1:LL)(Q:QQ)(h:
 (Br (!decide ((↑a0.length:Int)=(↑a1.length:Int)))
 (Q (Ab false) [])
 (Aci a0 a1 ((0:Int)) (Ajo Q)))):Call E0.P Ae8 [Al 8 a0,Al 8 a1] [] Q:=fR 0 A9r h
end
end Go.Proofs.Sim.Se

import Derived.Test.YtaggabcajidnnaaGreatDoorPbB
import Derived.Test.YtaggabcajidnnaaGreatDoorBkA
import Derived.Test.YtaggabcajidnnaaGreatDoorWrB
import Derived.Test.YtaggabcajidnnaaGreatDoorSeatGenB
set_option maxRecDepth 100000
namespace Go.Proofs.Sim.Se
open Go Go.Proofs Go.Proofs.Sim Go.Proofs.Sim.Va Go.Proofs.Sim.St Go.Proofs.Sim.Pa Go.RowKit
structure Ob where
 n:Int
 g:Int
 v:V
instance:Inhabited Ob:=⟨⟨0,0,default⟩⟩
def Jg(o:Ob):List IV:= .int .i64 o.n:: .int .i64 o.g::o.v.row
abbrev Vz(l:List Ob):List (List IV):=l.map Jg
def Vy(l:List Ob)(i:Nat):Ob:=l.getD i default
theorem Adk(l:List Ob):(Vz l).length=l.length:=List.length_map ..
def txO(o:Ob):List UInt8 × Int:=
 if o.n<1∨8388607<o.n then([],3)else if o.g≠0 then([],2)
 else if(Avo o.v).2≠0 then([],(Avo o.v).2)else if 4096<(Avo o.v).1.length then([],7)else((Avo o.v).1++[10],0)
def Aot:Option Int→Int→Bool
 |none,_=>false
 |some x,n=>decide (n≤x)
def Aly:Option Int→List Int→List UInt8→List Ob→List Int × List UInt8 × Int
 |_,ns,body,[]=>(ns,body,0)
 |last,ns,body,o::r=>if Aot last o.n=true then([],[],15)else if(txO o).2≠0 then([],[],(txO o).2)
  else Aly (some o.n) (ns++[o.n,(body.length:Int)]) (body++(txO o).1) r
def Ab7(ns:List Int):List UInt8:=Co (ns.map Lib.itoa)++[10]
def Ii:List UInt8:=[70,105,114,115,116]
def kN:List UInt8:=[78]
def Pv:List UInt8:=[84,121,112,101]
def Aos:List UInt8:=[79,98,106,83,116,109]
def Me(n:Nat)(ns:List Int)(body:List UInt8):V:= .mk 8 0 0 (Ab7 ns++body) [] [(Ii, .mk 2 ((Ab7 ns).length:Int) 0 [] [] []),(kN, .mk 2 (n:Int) 0 [] [] []),(Pv, .mk 3 0 0 Aos [] [])]
def Avf(l:List Ob):V × Int:=
 if l.length<1∨100<l.length then(zero,8)else if(Aly none [] [] l).2.2≠0 then(zero,(Aly none [] [] l).2.2)
 else(Me l.length (Aly none [] [] l).1 (Aly none [] [] l).2.1,0)
def nmL(s:List UInt8)(want:Nat):Nat→Nat→List Int→List Int × Int
 |0,_,_=>([],4)
 |m+1,a,acc=>if(Aj s a).e≠0 then([],(Aj s a).e)else if acc.length<want∧(Aj s a).k=1 then nmL s want m (Aj s a).b (acc++[(Aj s a).n])
  else if acc.length<want∨(Aj s a).k≠0 then([],4)else(acc,0)
def toL(body:List UInt8)(f:Int):List Int→Nat
 |_::f2::_=>if f≤f2∧f2<(body.length:Int)then f2.toNat else body.length
 |_=>body.length
def Afv:Option (Int × Int)→Int→Int→Bool
 |none,_,f=>decide (f≠0)
 |some y,_,f=>decide (f≤y.2)
def apL(body:List UInt8):Option (Int × Int)→List Int→List Ob→List Ob × Int
 |last,n::f::r,acc=>if Aot (last.map (·.1)) n=true then([],15)else if n<1∨8388607<n then([],3)else if Afv last n f=true∨(body.length:Int)<f then([],4)
  else if(Ql ((body.take (toL body f r)).drop f.toNat)).2≠0 then([],(Ql ((body.take (toL body f r)).drop f.toNat)).2)
  else apL body (some (n,f)) r (acc++[⟨n,0,(Ql ((body.take (toL body f r)).drop f.toNat)).1⟩])
 |_,_,acc=>(acc,0)
def Bbk(x:List Int × Int)(body:List UInt8):List Ob × Int:=if x.2≠0 then([],x.2)else apL body none x.1 []
def Bnx(s:List UInt8)(f n:Nat):List Ob × Int:=Bbk (nmL (s.take f) (2*n) (2*n+1) 0 []) (s.drop f)
def Rk(v:V)(a b:Int):Prop:=v.k=2∧a≤v.n∧v.n≤b
instance (v:V) (a b:Int):Decidable (Rk v a b):=by unfold Rk;infer_instance
def Nc(v:V):List Ob × Int:=
 if v.k≠8∨((Gg v Pv).getD zero).k≠3∨((Gg v Pv).getD zero).s≠Aos then([],10)
 else if ¬Rk ((Gg v kN).getD zero) 1 100∨¬Rk ((Gg v Ii).getD zero) 0 (v.s.length:Int)then([],11)
 else Bnx v.s ((Gg v Ii).getD zero).n.toNat ((Gg v kN).getD zero).n.toNat
end Go.Proofs.Sim.Se
set_option maxRecDepth 100000
namespace Go.Proofs.Sim.Se
open Go Go.Proofs Go.Proofs.Sim Go.Proofs.Sim.Va Go.Proofs.Sim.St Go.Proofs.Sim.Pa Go.RowKit
end Go.Proofs.Sim.Se
set_option maxRecDepth 100000
namespace Go.Proofs.Sim.Se
open Go Go.Proofs Go.Proofs.Sim Go.Proofs.Sim.Va Go.Proofs.Sim.St Go.Proofs.Sim.Pa Go.RowKit
abbrev ints(l:List Int):List (List IV):=l.map fun n=>[.int .i64 n]
theorem Vg(l:List Int):(ints l).length=l.length:=List.length_map ..
theorem ints_at(l:List Int)(i:Nat)(h:i<l.length):(ints l).getD i []=[.int .i64 (l.getD i 0)]:=by simp [List.getD_eq_getElem?_getD,h]
theorem Ama(o:Ob):Jg o=[.int .i64 o.n, .int .i64 o.g, .int .i64 o.v.k, .int .i64 o.v.n, .int .i64 o.v.g, .str o.v.s, .sl .any 6 (o.v.l.map V.row), .sl .any 7 (o.v.d.map Bc)]:=by
 rw [Jg,Cn]
theorem Bcj(l:List Ob)(i:Nat)(h:i<l.length):(Vz l).getD i []=Jg (Vy l i):=by simp [Vy,List.getD_eq_getElem?_getD,h]
theorem Bp2(o:Ob): [.int .i64 (gI (Jg o) 2), .int .i64 (gI (Jg o) 3), .int .i64 (gI (Jg o) 4), .str (gS (Jg o) 5), .sl .any 6 (gR (Jg o) 6), .sl .any 7 (gR (Jg o) 7)]=o.v.row:=by
 rw [Ama,Cn];rfl
theorem Bsu(o:Ob): [.int .i64 (gI (Jg o) 0), .int .i64 (gI (Jg o) 1), .int .i64 (gI (Jg o) 2), .int .i64 (gI (Jg o) 3), .int .i64 (gI (Jg o) 4), .str (gS (Jg o) 5), .sl .any 6 (gR (Jg o) 6), .sl .any 7 (gR (Jg o) 7)]=Jg o:=by
 rw [Ama];rfl
theorem Bck(o:Ob)(e f:Nat):Be [.int .i64, .int .i64, .int .i64, .int .i64, .int .i64, .str, .sl 6 e, .sl 7 f] (Jg o)=true:=by
 rw [Ama];rfl
theorem Bp1(o:Ob):gI (Jg o) 0=o.n:=by rw [Ama];rfl
theorem Blj {l:List Ob} {i:Nat} (h:i<l.length):Vy l i∈l:=by
 have e:Vy l i=l[i]:=by simp [Vy,List.getD_eq_getElem?_getD,h]
 rw [e];exact List.getElem_mem h
theorem A0w(i:Nat)(h:i≤1000000000000):IntKind.i64.wrap ((i:Int)+1)=((i+1:Nat):Int):=by rw [Av _ (by omega) (by omega)];simp
theorem Bux(o:Ob)(hs:Scal o.v)(hc:Ck o.v≤1000):Call E0.P Ag1 [.imm (.agg (Jg o))] [] (Is (Bmx (txO o)) []):=by
 have hT:=Bga o.v hs hc
 rw [Cn]at hT
 rw [Ama]
 refine A3e _ _ _ _ _ _ _ _ _ (Let.intro (Cg (orB _ _) (fun h=> ?_) fun h=>Ki (p:=o.g=0) Bb (fun h1=> ?_) fun h1=>Call.use hT ⟨⟨rfl,rfl⟩, ?_⟩))
 ·rw [txO,if_pos h];exact⟨rfl,rfl⟩
 ·rw [txO,if_neg h,if_pos h1];exact⟨rfl,rfl⟩
 ·rw [tx0,tx1]
  refine Ki (p:=(Avo o.v).2=0) Bb (fun h2=> ?_) fun h2=>Bh (fun h3=> ?_) fun h3=> ?_
  ·rw [txO,if_neg h,if_neg (fun h=>h h1),if_pos h2];exact⟨rfl,rfl⟩
  ·rw [txO,if_neg h,if_neg (fun h=>h h1),if_neg (fun h=>h h2),if_pos (by omega)];exact⟨rfl,rfl⟩
  ·rw [txO,if_neg h,if_neg (fun h=>h h1),if_neg (fun h=>h h2),if_neg (by omega)];exact⟨by omega,rfl,rfl⟩
theorem Bdk(ns:List Int)(hb:∀n∈ns,Z8 n):H6 (ns.map Lib.itoa)≤21*ns.length:=by
 induction ns with
 |nil=>simp [H6]
 |cons n ns ih=>
  have h1:=Ahc n (hb n List.mem_cons_self).1 (hb n List.mem_cons_self).2
  have h2:=ih fun x hx=>hb x (List.mem_cons_of_mem _ hx)
  simp [H6]at h2 ⊢; omega
theorem Bfy(ns:List Int)(hb:∀n∈ns,Z8 n)(hl:ns.length≤100000000)(K:Ex→St→Prop)(hK:K (.exit 0) ⟨[(3, .imm (.str (Co (ns.map Lib.itoa))))],[]⟩):
 ∀(m i:Nat),m+i=ns.length→R9 (Co ((ns.map Lib.itoa).take i)) (ints ns) ns.length i K
 |0,i,hm=>by
  refine Aej _ _ _ _ _ ⟨fun h=> ?_,fun _=> ?_⟩
  ·have:=of_decide_eq_true h;omega
  ·rw [List.take_of_length_le (by simp;omega)];exact hK
 |m+1,i,hm=>by
  have hi:i<ns.length:=by omega
  have hsum:=Bdk ns hb
  have htk:=Bqg (ns.map Lib.itoa) i
  have hjl:=Ahd ((ns.map Lib.itoa).take i)
  have hat:(ints ns).getD (Int.toNat (i:Int)) []=[.int .i64 (ns.getD i 0)]:=ints_at ns i hi
  have hx:Z8 (ns.getD i 0):=by
   have e:ns.getD i 0=ns[i]:=by simp [List.getD_eq_getElem?_getD,hi]
   rw [e];exact hb _ (List.getElem_mem hi)
  have hil:=Ahc _ hx.1 hx.2
  have hj:=Bpj (ns.map Lib.itoa) i (by simpa using hi)
  have hg:(ns.map Lib.itoa)[i]'(by simpa using hi)=Lib.itoa (ns.getD i 0):=by simp [List.getD_eq_getElem?_getD,hi]
  rw [hg]at hj
  have nx:∀t:List UInt8,t++Lib.itoa (ns.getD i 0)=Co ((ns.map Lib.itoa).take (i+1))→t.length≤21*ns.length+1→R6 t (ns.getD i 0) (ints ns) ns.length i (R7 K):=by
   intro t ht htl
   refine At2 _ _ _ _ _ _ (Call.use (Aep _ hx.1 hx.2) ⟨⟨rfl,rfl⟩, ?_⟩)
   rw [show rS (.imm (.str (Lib.itoa (ns.getD i 0))))=Lib.itoa (ns.getD i 0) from rfl,ht]
   refine⟨by omega,Aua _ _ _ _ _ (Art _ _ _ _ _ ?_)⟩
   rw [A0w i (by omega)]
   exact At9 _ _ _ _ _ (Bfy ns hb hl K hK m (i+1) (by omega))
  refine Aej _ _ _ _ _ ⟨fun _=> ?_,fun h=> ?_⟩
  ·rw [hat]
   rw [Vg]
   refine⟨⟨⟨by omega,by omega⟩,rfl⟩,Bh (fun h=>⟨by omega, ?_⟩) fun h=> ?_⟩
   ·refine nx _ ?_ (by simp;omega)
    rw [hj,if_pos (by omega)]
   ·refine nx _ ?_ (by omega)
    rw [hj,if_neg (by omega)]
  ·have:=of_decide_eq_false h;omega
theorem Bn8(ns:List Int)(hb:∀n∈ns,Z8 n)(hl:ns.length≤100000000):Call E0.P Ac5 [.imm (.sl .any 1 (ints ns))] [] (Is (.imm (.str (Co (ns.map Lib.itoa)))) []):=by
 refine Ax7 _ _ ?_
 rw [Vg]
 exact Bfy ns hb hl _ (At8 _ _ (Aru _ _ (At7 _ _ ⟨rfl,rfl⟩))) ns.length 0 (by omega)
theorem Bcy(k:List UInt8)(n:Int):Call E0.P U5 [.imm (.str k), .imm (.int .i64 n)] [] (Is (.imm (.agg (Bc (k, .mk 2 n 0 [] [] [])))) []):=by
 refine Ax6 _ _ _ ⟨?_,rfl⟩
 rw [Em];rfl
theorem within_iff(v:V)(a b:Int):(bif (bif decide (v.k=2)then decide (a≤v.n)else false)then decide (v.n≤b)else false)=decide (Rk v a b):=by
 unfold Rk
 by_cases h1:v.k=2<;>by_cases h2:a≤v.n<;>by_cases h3:v.n≤b<;>simp [h1,h2,h3]
theorem vn(v:V):gI v.row 1=v.n:=by rw [Cn];rfl
theorem vs3(v:V):gS v.row 3=v.s:=by rw [Cn];rfl
theorem Aha(v:V)(k:Ky):AV.tup [.imm (.agg [.int .i64 (gI (Ac (rT (Yi v k) 0)) 0), .int .i64 (gI (Ac (rT (Yi v k) 0)) 1), .int .i64 (gI (Ac (rT (Yi v k) 0)) 2), .str (gS (Ac (rT (Yi v k) 0)) 3), .sl .any 6 (gR (Ac (rT (Yi v k) 0)) 4), .sl .any 7 (gR (Ac (rT (Yi v k) 0)) 5)]), .imm (.bool (rB (rT (Yi v k) 1)))]=Yi v k:=by
 show AV.tup [.imm (.agg [.int .i64 (gI ((Gg v k).getD zero).row 0), .int .i64 (gI ((Gg v k).getD zero).row 1), .int .i64 (gI ((Gg v k).getD zero).row 2), .str (gS ((Gg v k).getD zero).row 3), .sl .any 6 (gR ((Gg v k).getD zero).row 4), .sl .any 7 (gR ((Gg v k).getD zero).row 5)]), .imm (.bool (Gg v k).isSome)]=_
 rw [Oc];rfl
theorem Al9(v:V)(k:Ky):Ac (rT (Yi v k) 0)=((Gg v k).getD zero).row:=rfl
theorem Bc0(v:V)(hf:Fit v)(k:Ky)(a b:Int):Call E0.P U6 [.imm (.agg v.row), .imm (.str k), .imm (.int .i64 a), .imm (.int .i64 b)] [] (Is (.tup [.imm (.int .i64 ((Gg v k).getD zero).n), .imm (.bool (decide (Rk ((Gg v k).getD zero) a b)))]) []):=by
 have hG:=Blz v hf k
 rw [Cn]at hG ⊢
 refine Ax8 _ _ _ _ _ _ _ _ _ _ (Call.use hG ⟨⟨rfl,(Aha v k).symm⟩, ?_⟩)
 rw [Al9,vk,vn]
 refine Let.intro (Let.intro ⟨?_,rfl⟩)
 rw [within_iff]
end Go.Proofs.Sim.Se
set_option maxRecDepth 100000
namespace Go.Proofs.Sim.Se
open Go Go.Proofs Go.Proofs.Sim Go.Proofs.Sim.Va Go.Proofs.Sim.St Go.Proofs.Sim.Pa Go.RowKit
theorem Bhz(s:List UInt8)(want:Nat):∀(m a:Nat) (acc:List Int),acc.length≤want→(nmL s want m a acc).2=0→(nmL s want m a acc).1.length=want:=by
 intro m
 induction m with
 |zero=>intro a acc _ h;rw [nmL]at h;exact absurd h (by simp)
 |succ m ih=>
  intro a acc ha h
  rw [nmL]at h ⊢
  by_cases h1:(Aj s (a:Int)).e=0
  ·rw [if_neg (fun h=>h h1)]at h ⊢
   by_cases h2:acc.length<want∧(Aj s (a:Int)).k=1
   ·rw [if_pos h2]at h ⊢
    exact ih _ _ (by simp;omega) h
   ·rw [if_neg h2]at h ⊢
    by_cases h3:acc.length<want∨(Aj s (a:Int)).k≠0
    ·rw [if_pos h3]at h;exact absurd h (by simp)
    ·rw [if_neg h3];show acc.length=want;omega
  ·rw [if_pos h1]at h;exact absurd h h1
theorem Bm9(a b:Prop) {i:Decidable a} {j:Decidable b} :(bif decide a then decide b else false)=true↔a∧b:=by
 by_cases h:a<;>by_cases h':b<;>simp [h,h']
theorem Bua(a b:Prop) {i:Decidable a} {j:Decidable b} :(bif decide a then true else !decide b)=true↔a∨¬b:=by
 by_cases h:a<;>by_cases h':b<;>simp [h,h']
theorem Bn0(s:List UInt8)(hs:s.length≤1000000000)(want:Nat)(hw:want≤100000)(Q:AV→Heap→Prop):∀(m a:Nat) (acc:List Int),want+1≤m+acc.length→acc.length≤want→
 Q (.tup [.imm (.sl .any 1 (ints (nmL s want m a acc).1)), .imm (.int .i64 (nmL s want m a acc).2)]) []→Q6 s want a (ints acc) (Qy Q):=by
 intro m
 induction m with
 |zero=>intro a acc h1 h2;omega
 |succ m ih=>
  intro a acc hm ha hQ
  rw [nmL]at hQ
  refine Asm _ _ _ _ _ (Call.use (A76 s hs a) ⟨⟨rfl,rfl⟩,Ki (p:=(Aj s (a:Int)).e=0) Bb (fun h1=> ?_) fun h1=>Let.intro ?_⟩)
  ·rw [if_pos h1]at hQ
   exact Ac8 _ _ _ hQ
  ·rw [if_neg (fun h=>h h1)]at hQ
   rw [Vg]
   refine Cg (p:=(acc.length:Int)<(want:Int)∧(Aj s (a:Int)).k=1) (Bm9 _ _) (fun h2=> ?_) fun h2=>Let.intro (Cg (p:=(acc.length:Int)<(want:Int)∨¬(Aj s (a:Int)).k=0) (Bua _ _) (fun h3=> ?_) fun h3=> ?_)
   ·rw [if_pos ⟨by omega,h2.2⟩]at hQ
    refine⟨⟨by omega,by omega⟩, ?_⟩
    have:=ih (Aj s (a:Int)).b (acc++[(Aj s (a:Int)).n]) (by simp;omega) (by simp;omega) hQ
    rw [show ints (acc++[(Aj s (a:Int)).n])=ints acc++[[.int .i64 (Aj s (a:Int)).n]]by simp]at this
    exact this
   ·rw [if_neg (fun h=>h2 ⟨by omega,h.2⟩),if_pos (h3.elim (fun h=> .inl (by omega)) .inr)]at hQ
    exact Ac8 _ _ _ hQ
   ·rw [not_or,Classical.not_not]at h3
    rw [if_neg (fun h=>h2 ⟨by omega,h.2⟩),if_neg (fun h=>h.elim (fun h=>h3.1 (by omega)) fun h=>h h3.2)]at hQ
    exact Asd _ _ _ hQ
theorem Boc(s:List UInt8)(hs:s.length≤1000000000)(want:Nat)(hw:want≤100000):Call E0.P Sa [.imm (.str s), .imm (.int .i64 want)] [] (Is (.tup [.imm (.sl .any 1 (ints (nmL s want (want+1) 0 []).1)), .imm (.int .i64 (nmL s want (want+1) 0 []).2)]) []):=
 Aww _ _ _ (Bn0 s hs want hw _ (want+1) 0 [] (by simp) (by simp) ⟨rfl,rfl⟩)
abbrev obA(x:List Ob × Int):AV:= .tup [.imm (.sl .any 8 (Vz x.1)), .imm (.int .i64 x.2)]
theorem drop2 {l:List Int} {i:Nat} (h:i+1<l.length):l.drop i=l.getD i 0::l.getD (i+1) 0::l.drop (i+2):=by
 rw [List.drop_eq_getElem_cons (by omega),List.drop_eq_getElem_cons (by omega)]
 simp [List.getD_eq_getElem?_getD,show i<l.length by omega,h]
theorem Bkw(l:List Int)(he:∃k,l.length=2*k)(hl:l.length≤100000)(body:List UInt8)(hb:body.length≤1000000000)(Q:AV→Heap→Prop):∀(m i:Nat) (last:Option (Int × Int)) (t7 t8:Int) (acc:List Ob),2*m+i=l.length→acc.length≤i→
 (match last with |none=>i=0∧t8= -1 |some y=>0<i∧t7=y.1∧t8=y.2∧0≤y.2)→Q (obA (apL body last (l.drop i) acc)) []→Uq (ints l) body t7 t8 i (Vz acc) (Oz Q)
 |0,i,last,t7,t8,acc,hm,hac,hlast,hQ=>by
  refine Af8 _ _ _ _ _ _ _ ⟨fun h=> ?_,fun _=> ?_⟩
  ·have:=of_decide_eq_true h
   rw [Vg]at this;omega
  ·rw [List.drop_of_length_le (by omega)]at hQ
   have e:apL body last [] acc=(acc,0):=by cases last<;>rfl
   rw [e]at hQ
   exact Awy _ _ (At1 _ _ (Awx _ _ _ hQ))
 |m+1,i,last,t7,t8,acc,hm,hac,hlast,hQ=>by
  have hi:i+1<l.length:=by omega
  rw [drop2 hi,apL]at hQ
  have w1:IntKind.i64.wrap ((i:Int)+1)=((i+1:Nat):Int):=A0w i (by omega)
  have w3:IntKind.i64.wrap ((i:Int)+3)=((i+3:Nat):Int):=by rw [Av _ (by omega) (by omega)];simp
  have w2:IntKind.i64.wrap ((i:Int)+2)=((i+2:Nat):Int):=by rw [Av _ (by omega) (by omega)];simp
  have a0:(ints l).getD (Int.toNat (i:Int)) []=[.int .i64 (l.getD i 0)]:=ints_at l i (by omega)
  have a1:(ints l).getD (Int.toNat ((i+1:Nat):Int)) []=[.int .i64 (l.getD (i+1) 0)]:=ints_at l (i+1) hi
  generalize hn:l.getD i 0=n at hQ a0
  generalize hf:l.getD (i+1) 0=f at hQ a1
  refine Af8 _ _ _ _ _ _ _ ⟨fun _=> ?_,fun h=> ?_⟩
  ·rw [w1,w3,a0,a1,Vg]
   refine⟨⟨⟨by omega,by omega⟩,rfl⟩,⟨⟨by omega,by omega⟩,rfl⟩,Let.intro ?_⟩
   have g0:gI [IV.int .i64 n] 0=n:=rfl
   have g1:gI [IV.int .i64 f] 0=f:=rfl
   rw [g0,g1]
   refine Cg (p:=Aot (last.map (·.1)) n=true) ?_ (fun h1=> ?_) fun h1=>Let.intro (Cg (orB _ _) (fun h2=> ?_) fun h2=>Let.intro (Let.intro (Let.intro (Cg (p:=Afv last n f=true∨(body.length:Int)<f) ?_ (fun h3=> ?_) fun h3=> ?_))))
   ·cases last with
    |none=>rw [hlast.1];simp [Aot]
    |some y=>
     obtain⟨q1,q2,_⟩:=hlast
     simp [Aot,q2];omega
   ·rw [if_pos h1]at hQ
    exact Po _ _ _ hQ
   ·rw [if_neg h1,if_pos h2]at hQ
    exact Po _ _ _ hQ
   ·cases last with
    |none=>
     obtain⟨q1,q2⟩:=hlast
     subst q1 q2
     by_cases z:f=0
     ·subst z;simp [Afv]
     ·simp [Afv,z]
    |some y=>
     obtain⟨q1,_,q2,_⟩:=hlast
     have q3:¬i=0:=by omega
     by_cases z:f≤y.2<;>simp [Afv,q3,q2,z]
   ·rw [if_neg h1,if_neg h2,if_pos h3]at hQ
    exact Po _ _ _ hQ
   ·rw [if_neg h1,if_neg h2,if_neg h3]at hQ
    rw [not_or]at h3
    have hf0:0≤f:=by
     cases last with
     |none=>have:=h3.1;simp [Afv]at this;omega
     |some y=>have:=h3.1;simp [Afv]at this;omega
    have go:∀t:Nat,t=toL body f (l.drop (i+2))→f≤(t:Int)→t≤body.length→R5 (ints l) body n f i n f t (Vz acc) (O0 (Oz Q)):=by
     intro t ht h4 h5
     rw [←ht]at hQ
     refine Atz _ _ _ _ _ _ _ _ _ _ ⟨⟨hf0,h4,by omega⟩,Let.intro ?_⟩
     rw [Int.toNat_natCast]
     refine Call.use (Bq4 _ (by simp;omega)) ⟨⟨rfl,(show Biu (whA (Ql ((body.take t).drop f.toNat)))=whA (Ql ((body.take t).drop f.toNat)) from Qt ((Ql ((body.take t).drop f.toNat)).1,0,(Ql ((body.take t).drop f.toNat)).2)).symm⟩,Ki (p:=(Ql ((body.take t).drop f.toNat)).2=0) Bb (fun h6=> ?_) fun h6=> ?_⟩
     ·rw [if_pos h6]at hQ
      exact Aw0 _ _ _ (Po _ _ _ hQ)
     ·rw [if_neg (fun h=>h h6)]at hQ
      refine⟨by rw [Adk];omega,Aw1 _ _ _ _ _ _ _ (At0 _ _ _ _ _ _ _ ?_)⟩
      rw [w2]
      refine Awz _ _ _ _ _ _ _ ?_
      have:=Bkw l he hl body hb Q m (i+2) (some (n,f)) n f (acc++[⟨n,0,(Ql ((body.take t).drop f.toNat)).1⟩]) (by omega) (by simp;omega) ⟨by omega,rfl,rfl,hf0⟩ hQ
      rw [show Vz (acc++[⟨n,0,(Ql ((body.take t).drop f.toNat)).1⟩])=Vz acc++[Jg ⟨n,0,(Ql ((body.take t).drop f.toNat)).1⟩]by simp]at this
      rw [Jg, ←Oc]at this
      exact this
    have up:((i+3:Nat):Int)<(l.length:Int)→i+3<l.length:=fun h=>by omega
    have a3:i+3<l.length→(ints l).getD (Int.toNat ((i+3:Nat):Int)) []=[.int .i64 (l.getD (i+3) 0)]:=fun h=>ints_at l (i+3) h
    have d3:i+3<l.length→toL body f (l.drop (i+2))=if f≤l.getD (i+3) 0∧l.getD (i+3) 0<(body.length:Int)then(l.getD (i+3) 0).toNat else body.length:=fun h=>by
     rw [drop2 (by omega)];rfl
    have g3:∀x:Int,gI [IV.int .i64 x] 0=x:=fun _=>rfl
    refine⟨fun h=>⟨⟨by omega,by have:=of_decide_eq_true h;omega⟩,by rw [a3 (up (of_decide_eq_true h))];rfl⟩,Let.intro ?_⟩
    by_cases h7:i+3<l.length
    ·rw [a3 h7,g3,decide_eq_true (show((i+3:Nat):Int)<(l.length:Int)by omega)]
     have d:=d3 h7
     generalize l.getD (i+3) 0=f2 at d ⊢
     refine Bh (fun h8=>⟨⟨⟨by omega,by omega⟩,by rfl⟩, ?_⟩) fun h8=> ?_
     ·by_cases h9:f2<(body.length:Int)
      ·rw [if_pos h9]
       rw [if_pos ⟨h8,h9⟩]at d
       have:=go f2.toNat d.symm (by omega) (by omega)
       rw [Int.toNat_of_nonneg (by omega)]at this
       exact this
      ·rw [if_neg h9]
       rw [if_neg (fun h=>h9 h.2)]at d
       exact go body.length d.symm (by omega) (Nat.le_refl _)
     ·rw [if_neg (fun h=>h8 h.1)]at d
      exact go body.length d.symm (by omega) (Nat.le_refl _)
    ·rw [decide_eq_false (show ¬((i+3:Nat):Int)<(l.length:Int)by omega)]
     refine brF (go body.length ?_ (by omega) (Nat.le_refl _))
     obtain⟨k,hk⟩:=he
     rw [List.drop_of_length_le (by omega)]
     rfl
  ·have:=of_decide_eq_false h
   rw [Vg]at this;omega
theorem Buw(l:List Int)(he:∃k,l.length=2*k)(hl:l.length≤100000)(body:List UInt8)(hb:body.length≤1000000000):Call E0.P Ae5 [.imm (.sl .any 1 (ints l)), .imm (.str body)] [] (Is (obA (apL body none l [])) []):=by
 obtain⟨k,hk⟩:=he
 exact A1e _ _ _ (Bkw l ⟨k,hk⟩ hl body hb _ k 0 none 0 (-1) [] (by omega) (by simp) ⟨rfl,rfl⟩ ⟨rfl,rfl⟩)
theorem A4z(v:V)(hf:Fit v)(hs:v.s.length≤100000000):Call E0.P Ld [.imm (.agg v.row)] [] (Is (obA (Nc v)) []):=by
 have hG:=Blz v hf Pv
 have hN:=Bc0 v hf kN 1 100
 have hF:=Bc0 v hf Ii 0 v.s.length
 rw [Cn]at hG hN hF ⊢
 refine Ax5 _ _ _ _ _ _ _ (Call.use hG ⟨⟨rfl,(Aha v Pv).symm⟩, ?_⟩)
 rw [Al9,vk,vs3]
 refine Let.intro (Let.intro (Cg (p:=v.k≠8∨((Gg v Pv).getD zero).k≠3∨((Gg v Pv).getD zero).s≠Aos) ?_ (fun h=> ?_) fun h=> ?_))
 ·have e: [(79:UInt8),98,106,83,116,109]=Aos:=rfl
  rw [e]
  by_cases h1:v.k=8<;>by_cases h2:((Gg v Pv).getD zero).k=3<;>by_cases h3:((Gg v Pv).getD zero).s=Aos<;>simp [h1,h2,h3]
 ·rw [Nc,if_pos h];exact⟨rfl,rfl⟩
 ·rw [Nc,if_neg h]
  generalize ((Gg v kN).getD zero)=N at hN ⊢
  generalize ((Gg v Ii).getD zero)=F at hF ⊢
  refine Call.use hN ⟨⟨rfl,rfl⟩,Call.use hF ⟨⟨rfl,rfl⟩,Let.intro (Cg (p:=¬Rk N 1 100∨¬Rk F 0 v.s.length) ?_ (fun h=> ?_) fun h=> ?_)⟩⟩
  ·show(bif !decide (Rk N 1 100)then true else !decide (Rk F 0 v.s.length))=true↔_
   by_cases h1:Rk N 1 100<;>by_cases h2:Rk F 0 v.s.length<;>simp [h1,h2]
  ·rw [if_pos h];exact⟨rfl,rfl⟩
  ·rw [if_neg h]
   rw [not_or,Classical.not_not,Classical.not_not]at h
   obtain⟨⟨n1,n2,n3⟩,⟨f1,f2,f3⟩⟩:=h
   refine⟨⟨f2,f3⟩,Let.intro ?_⟩
   have ew:IntKind.i64.wrap (2*N.n)=((2*N.n.toNat:Nat):Int):=by rw [Av _ (by omega) (by omega)];omega
   show Call E0.P Sa [.imm (.str (v.s.take F.n.toNat)), .imm (.int .i64 (IntKind.i64.wrap (2*N.n)))] [] _
   rw [ew]
   have hl:=Bhz (v.s.take F.n.toNat) (2*N.n.toNat) (2*N.n.toNat+1) 0 [] (by simp)
   have hc:=Boc (v.s.take F.n.toNat) (by simp;omega) (2*N.n.toNat) (by omega)
   unfold Bnx
   generalize nmL (v.s.take F.n.toNat) (2*N.n.toNat) (2*N.n.toNat+1) 0 []=x at hl hc ⊢
   refine Call.use hc ⟨⟨rfl,rfl⟩,Ki (p:=x.2=0) Bb (fun h1=> ?_) fun h1=>⟨⟨f2,f3⟩,Let.intro (Call.use (Buw x.1 ⟨N.n.toNat,hl h1⟩ (by rw [hl h1];omega) _ (by simp;omega)) ⟨⟨rfl,rfl⟩, ?_⟩)⟩⟩
   ·rw [Bbk,if_pos h1];exact⟨rfl,rfl⟩
   ·rw [Bbk,if_neg (fun h=>h h1)];exact⟨rfl,rfl⟩
end Go.Proofs.Sim.Se
set_option maxRecDepth 100000
namespace Go.Proofs.Sim.Se
open Go Go.Proofs Go.Proofs.Sim Go.Proofs.Sim.Va Go.Proofs.Sim.St Go.Proofs.Sim.Pa Go.RowKit
def Aqh(n:Nat)(x:List Int × List UInt8 × Int):V × Int:=if x.2.2≠0 then(zero,x.2.2)else(Me n x.1 x.2.1,0)
theorem Bsv(l:List Ob)(h:¬(l.length<1∨100<l.length)):Avf l=Aqh l.length (Aly none [] [] l):=by
 rw [Avf,if_neg h];rfl
theorem Bsw(n:Nat)(ns:List Int)(body:List UInt8):(Me n ns body).row=[.int .i64 8, .int .i64 0, .int .i64 0, .str (Ab7 ns++body), .sl .any 6 [], .sl .any 7 [Bc (Ii, .mk 2 ((Ab7 ns).length:Int) 0 [] [] []),Bc (kN, .mk 2 (n:Int) 0 [] [] []),Bc (Pv, .mk 3 0 0 Aos [] [])]]:=by
 rw [Cn];rfl
theorem Aqi(p:Pr): [.str (gS (Bc p) 0), .int .i64 (gI (Bc p) 1), .int .i64 (gI (Bc p) 2), .int .i64 (gI (Bc p) 3), .str (gS (Bc p) 4), .sl .any 6 (gR (Bc p) 5), .sl .any 7 (gR (Bc p) 6)]=Bc p:=by
 rw [Em];rfl
theorem Bp5:Bc (Pv, .mk 3 0 0 Aos [] [])=[.str [84,121,112,101], .int .i64 3, .int .i64 0, .int .i64 0, .str [79,98,106,83,116,109], .sl .any 6 [], .sl .any 7 []]:=by
 rw [Em];rfl
def Bz5(last:Option Int)(l:List Ob)(i:Nat):Prop:=(last=none∧i=0)∨(0<i∧last=some (Vy l (i - 1)).n)
theorem Bwx {o:Ob} :(txO o).1.length≤4097:=by
 unfold txO
 split
 ·simp
 split
 ·simp
 split
 ·simp
 split
 ·simp
 ·simp;omega
theorem drop1 {l:List Ob} {i:Nat} (h:i<l.length):l.drop i=Vy l i::l.drop (i+1):=by
 rw [List.drop_eq_getElem_cons h]
 simp [Vy,List.getD_eq_getElem?_getD,h]
theorem Bod(l:List Ob)(_hl:l.length≤100)(ns:List Int)(hn:ns.length≤1000)(hb:∀n∈ns,Z8 n)(body:List UInt8)(hbl:body.length≤10000000)(Q:AV→Heap→Prop)(hQ:Q (whA (Me l.length ns body,0)) []):
 Acd (Vz l) body 0 0 0 [] (ints ns) [] [] (Wu Q):=by
 have hs:=Bdk ns hb
 have hj:=Ahd (ns.map Lib.itoa)
 refine Awj _ _ _ _ _ _ _ _ _ _ (Call.use (Bn8 ns hb (by omega)) ⟨⟨rfl,rfl⟩, ?_⟩)
 rw [show rS (.imm (.str (Co (ns.map Lib.itoa))))=Co (ns.map Lib.itoa) from rfl,Adk]
 rw [show Co (ns.map Lib.itoa)++[10]=Ab7 ns from rfl]
 have hh:(Ab7 ns).length=(Co (ns.map Lib.itoa)).length+1:=by simp [Ab7]
 refine⟨by omega,Call.use (Bcy Ii _) ⟨⟨rfl, ?_⟩,Call.use (Bcy kN _) ⟨⟨rfl, ?_⟩,by omega, ?_⟩⟩⟩
 ·show AV.imm (.agg (Bc _))=AV.imm (.agg [.str (gS (Bc _) 0), .int .i64 (gI (Bc _) 1), .int .i64 (gI (Bc _) 2), .int .i64 (gI (Bc _) 3), .str (gS (Bc _) 4), .sl .any 6 (gR (Bc _) 5), .sl .any 7 (gR (Bc _) 6)])
  rw [Aqi]
 ·show AV.imm (.agg (Bc _))=AV.imm (.agg [.str (gS (Bc _) 0), .int .i64 (gI (Bc _) 1), .int .i64 (gI (Bc _) 2), .int .i64 (gI (Bc _) 3), .str (gS (Bc _) 4), .sl .any 6 (gR (Bc _) 5), .sl .any 7 (gR (Bc _) 6)])
  rw [Aqi]
 ·refine Ayb _ _ _ _ _ _ _ _ ?_
  have e:whA (Me l.length ns body,0)= .tup [.imm (.agg [.int .i64 8, .int .i64 0, .int .i64 0, .str (Ab7 ns++body), .sl .any 6 [], .sl .any 7 [Bc (Ii, .mk 2 ((Ab7 ns).length:Int) 0 [] [] []),Bc (kN, .mk 2 (l.length:Int) 0 [] [] []),Bc (Pv, .mk 3 0 0 Aos [] [])]]), .imm (.int .i64 0)]:=by
   rw [whA,Bsw]
  rw [e, ←Aqi (Ii,_), ←Aqi (kN,_),Bp5]at hQ
  exact hQ
theorem Bn1(l:List Ob)(hl:l.length≤100)(sc:∀o∈l,Scal o.v∧Ck o.v≤1000∧Z8 o.n)(Q:AV→Heap→Prop):∀(m i:Nat) (last:Option Int) (ns:List Int) (body:List UInt8),m+i=l.length→ns.length=2*i→body.length≤4097*i→(∀n∈ns,Z8 n)→Bz5 last l i→
 Q (whA (Aqh l.length (Aly last ns body (l.drop i)))) []→W9 (Vz l) body (Vz l) l.length i 0 0 0 [] (ints ns) [] [] (Wv Q)
 |0,i,last,ns,body,hm,hn,hbl,hb,hlast,hQ=>by
  refine Aim _ _ _ _ _ _ _ _ _ _ _ _ _ ⟨fun h=> ?_,fun _=> ?_⟩
  ·have:=of_decide_eq_true h;omega
  ·rw [List.drop_of_length_le (by omega),Aly]at hQ
   have e:Aqh l.length (ns,body,0)=(Me l.length ns body,0):=by rw [Aqh,if_neg (by simp)]
   rw [e]at hQ
   exact Ayc _ _ _ _ _ _ _ _ _ _ (Bod l hl ns (by omega) hb body (by omega) Q hQ)
 |m+1,i,last,ns,body,hm,hn,hbl,hb,hlast,hQ=>by
  have hi:i<l.length:=by omega
  rw [drop1 hi,Aly]at hQ
  have at0:(Vz l).getD (Int.toNat (i:Int)) []=Jg (Vy l i):=Bcj l i hi
  have ho:=sc _ (Blj hi)
  have hx:=Bux (Vy l i) ho.1 ho.2.1
  have hlen:=Bwx (o:=Vy l i)
  refine Aim _ _ _ _ _ _ _ _ _ _ _ _ _ ⟨fun _=> ?_,fun h=> ?_⟩
  ·rw [at0,Adk,Bsu,Bp1]
   have wm:0<i→IntKind.i64.wrap ((i:Int) - 1)=((i - 1:Nat):Int):=fun h=>by rw [Av _ (by omega) (by omega)];omega
   have at1:0<i→(Vz l).getD (Int.toNat (((i - 1:Nat)):Int)) []=Jg (Vy l (i - 1)):=fun h=>Bcj l (i - 1) (by omega)
   refine⟨⟨⟨by omega,by omega⟩,Bck _ _ _⟩,fun h=> ?_,Let.intro (Cg (p:=Aot last (Vy l i).n=true) ?_ (fun h1=> ?_) fun h1=>Call.use hx ⟨⟨rfl,rfl⟩, ?_⟩)⟩
   ·have h:=of_decide_eq_true h
    rw [wm (by omega),at1 (by omega)]
    exact⟨⟨by omega,by omega⟩,Bck _ _ _⟩
   ·rcases hlast with ⟨rfl,rfl⟩ |⟨h0,rfl⟩
    ·simp [Aot]
    ·rw [wm h0,at1 h0,Bp1,decide_eq_true (show(0:Int)<(i:Int)by omega)]
     simp [Aot]
   ·rw [if_pos h1]at hQ
    have e:Aqh l.length ([],[],15)=(zero,15):=by rw [Aqh,if_pos (by decide)]
    rw [e, ←Af0]at hQ
    exact Aii _ _ _ _ _ _ _ _ hQ
   ·rw [if_neg h1]at hQ
    rw [tx0,tx1]
    refine Ki (p:=(txO (Vy l i)).2=0) Bb (fun h2=> ?_) fun h2=> ?_
    ·rw [if_pos h2]at hQ
     have e:Aqh l.length ([],[],(txO (Vy l i)).2)=(zero,(txO (Vy l i)).2):=by rw [Aqh,if_pos h2]
     rw [e, ←Af0]at hQ
     exact Aii _ _ _ _ _ _ _ _ hQ
    ·rw [if_neg (fun h=>h h2)]at hQ
     rw [Vg,A0w i (by omega)]
     refine⟨⟨by omega,by omega⟩,by omega, ?_⟩
     have:=Bn1 l hl sc Q m (i+1) (some (Vy l i).n) (ns++[(Vy l i).n,(body.length:Int)]) (body++(txO (Vy l i)).1) (by omega) (by simp;omega) (by simp;omega)
      (fun n hn'=>by
       rcases List.mem_append.1 hn' with h |h
       ·exact hb n h
       ·simp only [List.mem_cons,List.not_mem_nil,or_false]at h
        rcases h with rfl |rfl
        ·exact ho.2.2
        ·exact⟨by omega,by omega⟩)
      (.inr ⟨by omega,by simp⟩) hQ
     rw [show ints (ns++[(Vy l i).n,(body.length:Int)])=ints ns++[[.int .i64 (Vy l i).n],[.int .i64 (body.length:Int)]]by simp]at this
     exact this
  ·have:=of_decide_eq_false h;omega
theorem Bn7(l:List Ob)(sc:∀o∈l,Scal o.v∧Ck o.v≤1000∧Z8 o.n):Call E0.P Zm [.imm (.sl .any 8 (Vz l))] [] (Is (whA (Avf l)) []):=by
 refine A3d _ _ ?_
 rw [Adk]
 refine Let.intro (Cg (p:=l.length<1∨100<l.length) ?_ (fun h=> ?_) fun h=> ?_)
 ·rw [orB];omega
 ·rw [Avf,if_pos h, ←Af0];exact⟨rfl,rfl⟩
 ·rw [Bsv l h]
  exact Bn1 l (by omega) sc _ l.length 0 none [] [] (by omega) (by simp) (by simp) (fun _ h=>(nomatch h)) (.inl ⟨rfl,rfl⟩) ⟨rfl,rfl⟩
end Go.Proofs.Sim.Se

import Derived.Test.YtaggabcajidnnaaGreatDoorPbB
import Derived.Test.YtaggabcajidnnaaGreatDoorBkA
import Derived.Test.YtaggabcajidnnaaGreatDoorWrB
import Derived.Test.YtaggabcajidnnaaGreatDoorSeatGenB
set_option maxRecDepth 100000
namespace Go.Proofs.Sim.Se
open Go Go.Proofs Go.Proofs.Sim Go.Proofs.Sim.Va Go.Proofs.Sim.St Go.Proofs.Sim.Pa Go.RowKit
structure Ob where
 n:Int
 g:Int
 v:V
instance:Inhabited Ob:=⟨⟨0,0,default⟩⟩
def Im(o:Ob):List IV:= .int .i64 o.n:: .int .i64 o.g::o.v.row
abbrev obs(l:List Ob):List (List IV):=l.map Im
def Od(l:List Ob)(i:Nat):Ob:=l.getD i default
theorem K3(l:List Ob):(obs l).length=l.length:=List.length_map ..
def Hf(o:Ob):List UInt8 × Int:=
 if o.n<1∨8388607<o.n then([],3)else if o.g≠0 then([],2)
 else if(Kv o.v).2≠0 then([],(Kv o.v).2)else if 4096<(Kv o.v).1.length then([],7)else((Kv o.v).1++[10],0)
def Ab8:Option Int→Int→Bool
 |none,_=>false
 |some x,n=>decide (n≤x)
def Kn:Option Int→List Int→List UInt8→List Ob→List Int × List UInt8 × Int
 |_,ns,body,[]=>(ns,body,0)
 |last,ns,body,o::r=>if Ab8 last o.n=true then([],[],15)else if(Hf o).2≠0 then([],[],(Hf o).2)
  else Kn (some o.n) (ns++[o.n,(body.length:Int)]) (body++(Hf o).1) r
def Jd(ns:List Int):List UInt8:=Bn (ns.map Lib.itoa)++[10]
def M0:List UInt8:=[70,105,114,115,116]
def kN:List UInt8:=[78]
def Xd:List UInt8:=[84,121,112,101]
def Apd:List UInt8:=[79,98,106,83,116,109]
def F8(n:Nat)(ns:List Int)(body:List UInt8):V:= .mk 8 0 0 (Jd ns++body) [] [(M0, .mk 2 ((Jd ns).length:Int) 0 [] [] []),(kN, .mk 2 (n:Int) 0 [] [] []),(Xd, .mk 3 0 0 Apd [] [])]
def P8(l:List Ob):V × Int:=
 if l.length<1∨100<l.length then(zero,8)else if(Kn none [] [] l).2.2≠0 then(zero,(Kn none [] [] l).2.2)
 else(F8 l.length (Kn none [] [] l).1 (Kn none [] [] l).2.1,0)
def nmL(s:List UInt8)(want:Nat):Nat→Nat→List Int→List Int × Int
 |0,_,_=>([],4)
 |m+1,a,acc=>if(Ao s a).e≠0 then([],(Ao s a).e)else if acc.length<want∧(Ao s a).k=1 then nmL s want m (Ao s a).b (acc++[(Ao s a).n])
  else if acc.length<want∨(Ao s a).k≠0 then([],4)else(acc,0)
def toL(body:List UInt8)(f:Int):List Int→Nat
 |_::f2::_=>if f≤f2∧f2<(body.length:Int)then f2.toNat else body.length
 |_=>body.length
def Apo:Option (Int × Int)→Int→Int→Bool
 |none,_,f=>decide (f≠0)
 |some y,_,f=>decide (f≤y.2)
def apL(body:List UInt8):Option (Int × Int)→List Int→List Ob→List Ob × Int
 |last,n::f::r,acc=>if Ab8 (last.map (·.1)) n=true then([],15)else if n<1∨8388607<n then([],3)else if Apo last n f=true∨(body.length:Int)<f then([],4)
  else if(Acf ((body.take (toL body f r)).drop f.toNat)).2≠0 then([],(Acf ((body.take (toL body f r)).drop f.toNat)).2)
  else apL body (some (n,f)) r (acc++[⟨n,0,(Acf ((body.take (toL body f r)).drop f.toNat)).1⟩])
 |_,_,acc=>(acc,0)
def Bn0(x:List Int × Int)(body:List UInt8):List Ob × Int:=if x.2≠0 then([],x.2)else apL body none x.1 []
def Bjl(s:List UInt8)(f n:Nat):List Ob × Int:=Bn0 (nmL (s.take f) (2*n) (2*n+1) 0 []) (s.drop f)
def Tv(v:V)(a b:Int):Prop:=v.k=2∧a≤v.n∧v.n≤b
instance (v:V) (a b:Int):Decidable (Tv v a b):=by unfold Tv;infer_instance
def Aco(v:V):List Ob × Int:=
 if v.k≠8∨((Jo v Xd).getD zero).k≠3∨((Jo v Xd).getD zero).s≠Apd then([],10)
 else if ¬Tv ((Jo v kN).getD zero) 1 100∨¬Tv ((Jo v M0).getD zero) 0 (v.s.length:Int)then([],11)
 else Bjl v.s ((Jo v M0).getD zero).n.toNat ((Jo v kN).getD zero).n.toNat
theorem Bur(n:Nat)(ns:List Int)(body:List UInt8):(F8 n ns body).plain.d=(F8 n ns body).d:=by
 rw [Ec]
 show(uniq (Iu (F8 n ns body).d)).filter Nl=(F8 n ns body).d
 have e:Iu (F8 n ns body).d=(F8 n ns body).d:=Blt fun p hp=>by
  simp only [F8,V.d,List.mem_cons,List.not_mem_nil,or_false]at hp
  rcases hp with rfl |rfl |rfl<;>rw [Ec]<;>rfl
 rw [e]
 rfl
theorem Beq(n:Nat)(ns:List Int)(body:List UInt8):Jo (F8 n ns body) M0=some (.mk 2 ((Jd ns).length:Int) 0 [] [] [])∧Jo (F8 n ns body) kN=some (.mk 2 (n:Int) 0 [] [] [])∧Jo (F8 n ns body) Xd=some (.mk 3 0 0 Apd [] []):=by
 unfold Jo
 rw [Bur]
 exact⟨rfl,rfl,rfl⟩
def Ayl(ns:List Int):List UInt8:=(ns.map fun n=>32::Lib.itoa n).flatten
theorem A6e(ns:List Int)(r:List UInt8):Xf (Ayl ns++10::r):=by
 cases ns with
 |nil=>exact Lf _ (by decide)
 |cons n ns=>exact Lf _ (by decide)
theorem Bkm {s:List UInt8} {a:Nat} (h:s.drop a=[10]):∃b,Ao s (a:Int)=⟨0,0,0,[],b,b⟩:=by
 have hl:=Afj h
 have e:Ei s (a:Int)=a+1:=by rw [Ei,Bev (Nat.le_of_lt hl),h];rfl
 have e2:s.drop (a+1)=[]:=Xx h
 refine⟨a+1, ?_⟩
 rw [Ao,e,e2]
theorem Brt(s:List UInt8)(ns:List Int)(hb:∀n∈ns, -2147483647≤n∧n≤2147483647):∀(m a:Nat) (acc:List Int) (want:Nat),want=acc.length+ns.length→ns.length<m→s.drop a=Ayl ns++[10]→nmL s want m a acc=(acc++ns,0):=by
 induction ns with
 |nil=>
  intro m a acc want hw hm h
  obtain⟨b,e⟩:=Bkm h
  cases m with
  |zero=>cases hm
  |succ m=>
   rw [nmL,e]
   simp at hw
   simp [hw]
 |cons n ns ih=>
  intro m a acc want hw hm h
  cases m with
  |zero=>cases hm
  |succ m=>
   have h':s.drop a=32::(Lib.itoa n++(Ayl ns++[10])):=by rw [h];simp [Ayl]
   have h1:=Xx h'
   have e:=Aho h1 (hb n List.mem_cons_self).1 (hb n List.mem_cons_self).2 (A6e ns [])
   rw [←Oo h']at e
   rw [nmL,e]
   simp only [List.length_cons]at hw hm
   simp only
   rw [if_neg (by decide),if_pos ⟨by omega,trivial⟩,ih (fun x hx=>hb x (List.mem_cons_of_mem _ hx)) m _ (acc++[n]) want (by simp;omega) (by omega) (Je h1)]
   simp
theorem Brs(ns:List Int)(h0:ns≠[])(hb:∀n∈ns, -2147483647≤n∧n≤2147483647)(m:Nat)(hm:ns.length<m):nmL (Jd ns) ns.length m 0 []=(ns,0):=by
 cases ns with
 |nil=>exact absurd rfl h0
 |cons n ns=>
  cases m with
  |zero=>cases hm
  |succ m=>
   have h1:(Jd (n::ns)).drop 0=Lib.itoa n++(Ayl ns++[10]):=by
    rw [Jd,Bn,List.map_cons,Lib.join_cons]
    simp [Lib.joinTail,Ayl,Function.comp_def]
   have e:=Aho h1 (hb n List.mem_cons_self).1 (hb n List.mem_cons_self).2 (A6e ns [])
   rw [nmL]
   have e:Ao (Jd (n::ns)) ((0:Nat):Int)=⟨0,1,n,[],0,0+(Lib.itoa n).length⟩:=e
   rw [e]
   simp only [List.length_cons]at hm
   simp only
   rw [if_neg (by decide),if_pos ⟨by simp,trivial⟩,Brt _ ns (fun x hx=>hb x (List.mem_cons_of_mem _ hx)) m _ ([]++[n]) _ (by simp;omega) (by omega) (Je h1)]
   simp
theorem Bpf(v:V)(hv:Pj 0 v):Acf (v.wr++[10])=(v.plain,0):=by
 have hd:(v.wr++[10]).drop v.wr.length=[10]:=List.drop_left
 obtain⟨b,hn⟩:=Bkm hd
 have h0:(v.wr++[10]).drop 0=v.wr++[10]:=rfl
 have e:Eh (v.wr++[10]) ((v.wr++[10]).length+1) 0 0=(v,0+v.wr.length,0):=Blv hv _ _ 0 [10] (by omega) h0 (Lf _ (by decide)) (fun _=>by rw [Nat.zero_add,Sb,hn];simp)
 rw [Nat.zero_add]at e
 have ev:Anb (v.wr++[10]) 0=(v.plain,v.wr.length,0):=by
  unfold Anb
  have e0:Pw (v.wr++[10]) 0=0:=Bev (Nat.zero_le _)
  rw [e0,e]
  simp
 unfold Acf
 rw [ev]
 simp only
 rw [if_neg (by decide),hn]
 simp
def Xu(l:List Ob):List UInt8:=(l.map fun o=>(Hf o).1).flatten
def Ot:Nat→List Ob→List Int
 |_,[]=>[]
 |k,o::r=>o.n::(k:Int)::Ot (k+(Hf o).1.length) r
theorem Br0:∀(l:List Ob) (last:Option Int) (ns:List Int) (body:List UInt8),(Kn last ns body l).2.2=0→
 Kn last ns body l=(ns++Ot body.length l,body++Xu l,0)∧∀o∈l,(Hf o).2=0:=by
 intro l
 induction l with
 |nil=>intro last ns body _;exact⟨by simp [Kn,Ot,Xu],fun _ h=>(nomatch h)⟩
 |cons o r ih=>
  intro last ns body h
  rw [Kn]at h ⊢
  by_cases h1:Ab8 last o.n=true
  ·rw [if_pos h1]at h;exact absurd h (by simp)
  rw [if_neg h1]at h ⊢
  by_cases h2:(Hf o).2=0
  ·rw [if_neg (fun h=>h h2)]at h ⊢
   obtain⟨e,hr⟩:=ih _ _ _ h
   refine⟨?_,fun x hx=> ?_⟩
   ·rw [e];simp [Ot,Xu]
   ·rcases List.mem_cons.1 hx with rfl |hx
    ·exact h2
    ·exact hr x hx
  ·rw [if_pos h2]at h;exact absurd h h2
def Bmt:Option Int→List Ob→Prop
 |_,[]=>True
 |last,o::r=>Ab8 last o.n=false∧Bmt (some o.n) r
theorem Bls:∀(l:List Ob) (last:Option Int) (ns:List Int) (body:List UInt8),(Kn last ns body l).2.2=0→Bmt last l:=by
 intro l
 induction l with
 |nil=>intro last ns body _;trivial
 |cons o r ih=>
  intro last ns body h
  rw [Kn]at h
  by_cases h1:Ab8 last o.n=true
  ·rw [if_pos h1]at h;exact absurd h (by simp)
  rw [if_neg h1]at h
  by_cases h2:(Hf o).2=0
  ·rw [if_neg (fun h=>h h2)]at h
   exact⟨by simpa using h1,ih _ _ _ h⟩
  ·rw [if_pos h2]at h;exact absurd h h2
theorem Bji {o:Ob} (h:(Hf o).2=0):1≤o.n∧o.n≤8388607∧o.g=0∧Pj 0 o.v∧(Hf o).1=o.v.plain.wr++[10]∧o.v.plain.wr.length≤4096:=by
 unfold Hf at h ⊢
 by_cases h1:o.n<1∨8388607<o.n
 ·rw [if_pos h1]at h;exact absurd h (by simp)
 rw [if_neg h1]at h ⊢
 by_cases h2:o.g=0
 ·rw [if_neg (fun h=>h h2)]at h ⊢
  by_cases h3:(Kv o.v).2=0
  ·rw [if_neg (fun h=>h h3)]at h ⊢
   by_cases h4:4096<(Kv o.v).1.length
   ·rw [if_pos h4]at h;exact absurd h (by simp)
   rw [if_neg h4]
   have hc:o.v.chk false 0=0:=by
    unfold Kv at h3
    split at h3
    ·exact h3
    ·rename_i h;exact Classical.not_not.1 h
   have e:Kv o.v=(o.v.plain.wr,0):=by rw [Kv,if_neg (fun h=>h hc)]
   rw [e]at h4 ⊢
   exact⟨by omega,by omega,h2,(Brz o.v 0).1 hc,rfl,by simpa using h4⟩
  ·rw [if_pos h3]at h;exact absurd h h3
 ·rw [if_pos h2]at h;exact absurd h (by simp)
theorem Ase(o:Ob)(r:List Ob):Xu (o::r)=(Hf o).1++Xu r:=by simp [Xu]
theorem Bqy(body:List UInt8):∀(l:List Ob) (pre:List UInt8) (last:Option (Int × Int)) (acc:List Ob),(∀o∈l,(Hf o).2=0)→Bmt (last.map (·.1)) l→body=pre++Xu l→(match last with |none=>pre.length=0 |some y=>y.2<(pre.length:Int))→
 apL body last (Ot pre.length l) acc=(acc++l.map fun o=>⟨o.n,0,o.v.plain⟩,0):=by
 intro l
 induction l with
 |nil=>intro pre last acc _ _ _ _;rw [Ot];cases last<;>simp [apL]
 |cons o r ih=>
  intro pre last acc ht hr hb hl
  have t:=Bji (ht o List.mem_cons_self)
  obtain⟨t1,t2,t3,t4,t5,t6⟩:=t
  have hn:0<(Hf o).1.length:=by rw [t5];simp
  have hto:toL body (pre.length:Int) (Ot (pre.length+(Hf o).1.length) r)=pre.length+(Hf o).1.length:=by
   rw [Ase]at hb
   cases r with
   |nil=>rw [Ot,show toL body (pre.length:Int) []=body.length from rfl,hb];simp [Xu]
   |cons o2 r2=>
    have t':=Bji (ht o2 (List.mem_cons_of_mem _ List.mem_cons_self))
    have hn2:0<(Hf o2).1.length:=by rw [t'.2.2.2.2.1];simp
    have hbl:body.length=pre.length+((Hf o).1.length+((Hf o2).1.length+(Xu r2).length)):=by rw [hb,Ase];simp
    rw [Ot,toL,if_pos (by omega)]
    omega
  have hs:(body.take (pre.length+(Hf o).1.length)).drop pre.length=o.v.plain.wr++[10]:=by
   have e:body=(pre++(Hf o).1)++Xu r:=by rw [hb,Ase,List.append_assoc]
   have e2:body.take (pre++(Hf o).1).length=pre++(Hf o).1:=by rw [e];exact List.take_left
   rw [List.length_append]at e2
   rw [e2,List.drop_left,t5]
  have hw:=Bpf _ (Blp t4)
  rw [Bgb]at hw
  rw [Ot,apL]
  have hr1:Ab8 (last.map (·.1)) o.n=false:=hr.1
  have hp:¬(Apo last o.n (pre.length:Int)=true∨(body.length:Int)<(pre.length:Int)):=by
   rw [not_or]
   refine⟨?_,by rw [hb];simp;omega⟩
   cases last with
   |none=>have hl:pre.length=0:=hl;simp [Apo,hl]
   |some y=>have hl:y.2<(pre.length:Int):=hl;simp [Apo];omega
  rw [hr1,if_neg (by decide),if_neg (by omega),if_neg hp,hto,Int.toNat_natCast,hs,hw,if_neg (by simp)]
  have:=ih (pre++(Hf o).1) (some (o.n,(pre.length:Int))) (acc++[⟨o.n,0,o.v.plain⟩]) (fun x hx=>ht x (List.mem_cons_of_mem _ hx)) hr.2 (by rw [hb,Ase,List.append_assoc]) (by show(pre.length:Int)<_;simp;omega)
  rw [List.length_append]at this
  rw [this]
  simp
theorem Bum:∀(l:List Ob) (k:Nat),(∀o∈l,(Hf o).2=0)→∀n∈Ot k l,0≤n∧n≤8388607+k+4097*l.length:=by
 intro l
 induction l with
 |nil=>intro k _ n h;cases h
 |cons o r ih=>
  intro k h n hn
  have t:=Bji (h o List.mem_cons_self)
  rw [Ot]at hn
  rcases List.mem_cons.1 hn with rfl |hn
  ·simp;omega
  rcases List.mem_cons.1 hn with rfl |hn
  ·simp;omega
  ·have:=ih _ (fun x hx=>h x (List.mem_cons_of_mem _ hx)) n hn
   rw [t.2.2.2.2.1]at this
   simp at this ⊢; omega
theorem Brw:∀(l:List Ob) (k:Nat),(Ot k l).length=2*l.length:=by
 intro l
 induction l with
 |nil=>intro k;rfl
 |cons o r ih=>intro k;rw [Ot];simp [ih];omega
theorem unpack_pack(l:List Ob)(h:(P8 l).2=0):Aco (P8 l).1=(l.map fun o=>⟨o.n,0,o.v.plain⟩,0):=by
 unfold P8 at h ⊢
 by_cases h1:l.length<1∨100<l.length
 ·rw [if_pos h1]at h;exact absurd h (by simp)
 rw [if_neg h1]at h ⊢
 by_cases h2:(Kn none [] [] l).2.2=0
 ·rw [if_neg (fun h=>h h2)]
  obtain⟨e,ht⟩:=Br0 l none [] [] h2
  have hr:=Bls l none [] [] h2
  have hle:=Bum l 0 ht
  have hlen:=Brw l 0
  rw [e]
  simp only [List.nil_append,List.length_nil]
  obtain⟨g1,g2,g3⟩:=Beq l.length (Ot 0 l) (Xu l)
  have e1:(F8 l.length (Ot 0 l) (Xu l)).k=8:=rfl
  have e2:(F8 l.length (Ot 0 l) (Xu l)).s=Jd (Ot 0 l)++Xu l:=rfl
  unfold Aco
  rw [g1,g2,g3,e1,e2]
  simp only [Option.getD_some]
  have hn0:Ot 0 l≠[]:=by
   cases l with
   |nil=>simp at h1
   |cons o r=>simp [Ot]
  have hb:=Brs (Ot 0 l) hn0 (fun n hn=>by have:=hle n hn;omega) (2*l.length+1) (by omega)
  rw [hlen]at hb
  rw [if_neg (by simp [V.k,V.s]),if_neg (by simp [Tv,V.k,V.n];omega)]
  show Bjl (Jd (Ot 0 l)++Xu l) (Jd (Ot 0 l)).length l.length=_
  rw [Bjl,List.take_left,hb,List.drop_left]
  show apL (Xu l) none (Ot 0 l) []=_
  have:=Bqy (Xu l) l [] none [] ht hr rfl rfl
  simpa using this
 ·rw [if_pos h2]at h;exact absurd h h2
end Go.Proofs.Sim.Se
set_option maxRecDepth 100000
namespace Go.Proofs.Sim.Se
open Go Go.Proofs Go.Proofs.Sim Go.Proofs.Sim.Va Go.Proofs.Sim.St Go.Proofs.Sim.Pa Go.RowKit
end Go.Proofs.Sim.Se
set_option maxRecDepth 100000
namespace Go.Proofs.Sim.Se
open Go Go.Proofs Go.Proofs.Sim Go.Proofs.Sim.Va Go.Proofs.Sim.St Go.Proofs.Sim.Pa Go.RowKit
abbrev ints(l:List Int):List (List IV):=l.map fun n=>[.int .i64 n]
theorem Ab7(l:List Int):(ints l).length=l.length:=List.length_map ..
theorem ints_at(l:List Int)(i:Nat)(h:i<l.length):(ints l).getD i []=[.int .i64 (l.getD i 0)]:=by simp [List.getD_eq_getElem?_getD,h]
theorem Af8(o:Ob):Im o=[.int .i64 o.n, .int .i64 o.g, .int .i64 o.v.k, .int .i64 o.v.n, .int .i64 o.v.g, .str o.v.s, .sl .any 6 (o.v.l.map V.row), .sl .any 7 (o.v.d.map Bl)]:=by
 rw [Im,Db]
theorem Akz(l:List Ob)(i:Nat)(h:i<l.length):(obs l).getD i []=Im (Od l i):=by simp [Od,List.getD_eq_getElem?_getD,h]
theorem Axl(o:Ob): [.int .i64 (gI (Im o) 2), .int .i64 (gI (Im o) 3), .int .i64 (gI (Im o) 4), .str (gS (Im o) 5), .sl .any 6 (gR (Im o) 6), .sl .any 7 (gR (Im o) 7)]=o.v.row:=by
 rw [Af8,Db];rfl
theorem Bow(o:Ob): [.int .i64 (gI (Im o) 0), .int .i64 (gI (Im o) 1), .int .i64 (gI (Im o) 2), .int .i64 (gI (Im o) 3), .int .i64 (gI (Im o) 4), .str (gS (Im o) 5), .sl .any 6 (gR (Im o) 6), .sl .any 7 (gR (Im o) 7)]=Im o:=by
 rw [Af8];rfl
theorem Ak0(o:Ob)(e f:Nat):Bt [.int .i64, .int .i64, .int .i64, .int .i64, .int .i64, .str, .sl 6 e, .sl 7 f] (Im o)=true:=by
 rw [Af8];rfl
theorem Bep(o:Ob):gI (Im o) 0=o.n:=by rw [Af8];rfl
theorem Bup(o:Ob):gI (Im o) 1=o.g:=by rw [Af8];rfl
theorem Ayf {l:List Ob} {i:Nat} (h:i<l.length):Od l i∈l:=by
 have e:Od l i=l[i]:=by simp [Od,List.getD_eq_getElem?_getD,h]
 rw [e];exact List.getElem_mem h
theorem Ayo(i:Nat)(h:i≤1000000000000):IntKind.i64.wrap ((i:Int)+1)=((i+1:Nat):Int):=by rw [Bc _ (by omega) (by omega)];simp
theorem Bqk(o:Ob)(hs:Scal o.v)(hc:Cv o.v≤1000):Call E0.P Afo [.imm (.agg (Im o))] [] (Is (Bdq (Hf o)) []):=by
 have hT:=Bcf o.v hs hc
 rw [Db]at hT
 rw [Af8]
 refine A02 _ _ _ _ _ _ _ _ _ (Let.intro (Dt (orB _ _) (fun h=> ?_) fun h=>Xr (p:=o.g=0) Ca (fun h1=> ?_) fun h1=>Call.use hT ⟨⟨rfl,rfl⟩, ?_⟩))
 ·rw [Hf,if_pos h];exact⟨rfl,rfl⟩
 ·rw [Hf,if_neg h,if_pos h1];exact⟨rfl,rfl⟩
 ·rw [tx0,tx1]
  refine Xr (p:=(Kv o.v).2=0) Ca (fun h2=> ?_) fun h2=>Ce (fun h3=> ?_) fun h3=> ?_
  ·rw [Hf,if_neg h,if_neg (fun h=>h h1),if_pos h2];exact⟨rfl,rfl⟩
  ·rw [Hf,if_neg h,if_neg (fun h=>h h1),if_neg (fun h=>h h2),if_pos (by omega)];exact⟨rfl,rfl⟩
  ·rw [Hf,if_neg h,if_neg (fun h=>h h1),if_neg (fun h=>h h2),if_neg (by omega)];exact⟨by omega,rfl,rfl⟩
theorem Aok(ns:List Int)(hb:∀n∈ns,Ow n):Io (ns.map Lib.itoa)≤21*ns.length:=by
 induction ns with
 |nil=>simp [Io]
 |cons n ns ih=>
  have h1:=Pp n (hb n List.mem_cons_self).1 (hb n List.mem_cons_self).2
  have h2:=ih fun x hx=>hb x (List.mem_cons_of_mem _ hx)
  simp [Io]at h2 ⊢; omega
theorem Bb4(ns:List Int)(hb:∀n∈ns,Ow n)(hl:ns.length≤100000000)(K:Ex→St→Prop)(hK:K (.exit 0) ⟨[(3, .imm (.str (Bn (ns.map Lib.itoa))))],[]⟩):
 ∀(m i:Nat),m+i=ns.length→R8 (Bn ((ns.map Lib.itoa).take i)) (ints ns) ns.length i K
 |0,i,hm=>by
  refine Adl _ _ _ _ _ ⟨fun h=> ?_,fun _=> ?_⟩
  ·have:=of_decide_eq_true h;omega
  ·rw [List.take_of_length_le (by simp;omega)];exact hK
 |m+1,i,hm=>by
  have hi:i<ns.length:=by omega
  have hsum:=Aok ns hb
  have htk:=Axo (ns.map Lib.itoa) i
  have hjl:=N7 ((ns.map Lib.itoa).take i)
  have hat:(ints ns).getD (Int.toNat (i:Int)) []=[.int .i64 (ns.getD i 0)]:=ints_at ns i hi
  have hx:Ow (ns.getD i 0):=by
   have e:ns.getD i 0=ns[i]:=by simp [List.getD_eq_getElem?_getD,hi]
   rw [e];exact hb _ (List.getElem_mem hi)
  have hil:=Pp _ hx.1 hx.2
  have hj:=Aw9 (ns.map Lib.itoa) i (by simpa using hi)
  have hg:(ns.map Lib.itoa)[i]'(by simpa using hi)=Lib.itoa (ns.getD i 0):=by simp [List.getD_eq_getElem?_getD,hi]
  rw [hg]at hj
  have nx:∀t:List UInt8,t++Lib.itoa (ns.getD i 0)=Bn ((ns.map Lib.itoa).take (i+1))→t.length≤21*ns.length+1→R5 t (ns.getD i 0) (ints ns) ns.length i (R6 K):=by
   intro t ht htl
   refine Arv _ _ _ _ _ _ (Call.use (Ads _ hx.1 hx.2) ⟨⟨rfl,rfl⟩, ?_⟩)
   rw [show rS (.imm (.str (Lib.itoa (ns.getD i 0))))=Lib.itoa (ns.getD i 0) from rfl,ht]
   refine⟨by omega,Ar4 _ _ _ _ _ (Apr _ _ _ _ _ ?_)⟩
   rw [Ayo i (by omega)]
   exact Ar3 _ _ _ _ _ (Bb4 ns hb hl K hK m (i+1) (by omega))
  refine Adl _ _ _ _ _ ⟨fun _=> ?_,fun h=> ?_⟩
  ·rw [hat]
   rw [Ab7]
   refine⟨⟨⟨by omega,by omega⟩,rfl⟩,Ce (fun h=>⟨by omega, ?_⟩) fun h=> ?_⟩
   ·refine nx _ ?_ (by simp;omega)
    rw [hj,if_pos (by omega)]
   ·refine nx _ ?_ (by omega)
    rw [hj,if_neg (by omega)]
  ·have:=of_decide_eq_false h;omega
theorem Bju(ns:List Int)(hb:∀n∈ns,Ow n)(hl:ns.length≤100000000):Call E0.P Ab6 [.imm (.sl .any 1 (ints ns))] [] (Is (.imm (.str (Bn (ns.map Lib.itoa)))) []):=by
 refine Avu _ _ ?_
 rw [Ab7]
 exact Bb4 ns hb hl _ (Ar2 _ _ (Aps _ _ (Ar1 _ _ ⟨rfl,rfl⟩))) ns.length 0 (by omega)
theorem A9f(k:List UInt8)(n:Int):Call E0.P U7 [.imm (.str k), .imm (.int .i64 n)] [] (Is (.imm (.agg (Bl (k, .mk 2 n 0 [] [] [])))) []):=by
 refine Avt _ _ _ ⟨?_,rfl⟩
 rw [F7];rfl
theorem within_iff(v:V)(a b:Int):(bif (bif decide (v.k=2)then decide (a≤v.n)else false)then decide (v.n≤b)else false)=decide (Tv v a b):=by
 unfold Tv
 by_cases h1:v.k=2<;>by_cases h2:a≤v.n<;>by_cases h3:v.n≤b<;>simp [h1,h2,h3]
theorem vn(v:V):gI v.row 1=v.n:=by rw [Db];rfl
theorem vs3(v:V):gS v.row 3=v.s:=by rw [Db];rfl
theorem A2x(v:V)(k:Ky):AV.tup [.imm (.agg [.int .i64 (gI (Ae (rT (Z8 v k) 0)) 0), .int .i64 (gI (Ae (rT (Z8 v k) 0)) 1), .int .i64 (gI (Ae (rT (Z8 v k) 0)) 2), .str (gS (Ae (rT (Z8 v k) 0)) 3), .sl .any 6 (gR (Ae (rT (Z8 v k) 0)) 4), .sl .any 7 (gR (Ae (rT (Z8 v k) 0)) 5)]), .imm (.bool (rB (rT (Z8 v k) 1)))]=Z8 v k:=by
 show AV.tup [.imm (.agg [.int .i64 (gI ((Jo v k).getD zero).row 0), .int .i64 (gI ((Jo v k).getD zero).row 1), .int .i64 (gI ((Jo v k).getD zero).row 2), .str (gS ((Jo v k).getD zero).row 3), .sl .any 6 (gR ((Jo v k).getD zero).row 4), .sl .any 7 (gR ((Jo v k).getD zero).row 5)]), .imm (.bool (Jo v k).isSome)]=_
 rw [Abc];rfl
theorem A79(v:V)(k:Ky):Ae (rT (Z8 v k) 0)=((Jo v k).getD zero).row:=rfl
theorem A9h(v:V)(hf:Fit v)(k:Ky)(a b:Int):Call E0.P U8 [.imm (.agg v.row), .imm (.str k), .imm (.int .i64 a), .imm (.int .i64 b)] [] (Is (.tup [.imm (.int .i64 ((Jo v k).getD zero).n), .imm (.bool (decide (Tv ((Jo v k).getD zero) a b)))]) []):=by
 have hG:=Bhn v hf k
 rw [Db]at hG ⊢
 refine Avv _ _ _ _ _ _ _ _ _ _ (Call.use hG ⟨⟨rfl,(A2x v k).symm⟩, ?_⟩)
 rw [A79,vk,vn]
 refine Let.intro (Let.intro ⟨?_,rfl⟩)
 rw [within_iff]
end Go.Proofs.Sim.Se
set_option maxRecDepth 100000
namespace Go.Proofs.Sim.Se
open Go Go.Proofs Go.Proofs.Sim Go.Proofs.Sim.Va Go.Proofs.Sim.St Go.Proofs.Sim.Pa Go.RowKit
theorem Bul(s:List UInt8)(want:Nat):∀(m a:Nat) (acc:List Int),acc.length≤want→(nmL s want m a acc).2=0→(nmL s want m a acc).1.length=want:=by
 intro m
 induction m with
 |zero=>intro a acc _ h;rw [nmL]at h;exact absurd h (by simp)
 |succ m ih=>
  intro a acc ha h
  rw [nmL]at h ⊢
  by_cases h1:(Ao s (a:Int)).e=0
  ·rw [if_neg (fun h=>h h1)]at h ⊢
   by_cases h2:acc.length<want∧(Ao s (a:Int)).k=1
   ·rw [if_pos h2]at h ⊢
    exact ih _ _ (by simp;omega) h
   ·rw [if_neg h2]at h ⊢
    by_cases h3:acc.length<want∨(Ao s (a:Int)).k≠0
    ·rw [if_pos h3]at h;exact absurd h (by simp)
    ·rw [if_neg h3];show acc.length=want;omega
  ·rw [if_pos h1]at h;exact absurd h h1
theorem Bv7(a b:Prop) {i:Decidable a} {j:Decidable b} :(bif decide a then decide b else false)=true↔a∧b:=by
 by_cases h:a<;>by_cases h':b<;>simp [h,h']
theorem Bv8(a b:Prop) {i:Decidable a} {j:Decidable b} :(bif decide a then true else !decide b)=true↔a∨¬b:=by
 by_cases h:a<;>by_cases h':b<;>simp [h,h']
theorem Bjp(s:List UInt8)(hs:s.length≤1000000000)(want:Nat)(hw:want≤100000)(Q:AV→Heap→Prop):∀(m a:Nat) (acc:List Int),want+1≤m+acc.length→acc.length≤want→
 Q (.tup [.imm (.sl .any 1 (ints (nmL s want m a acc).1)), .imm (.int .i64 (nmL s want m a acc).2)]) []→Q4 s want a (ints acc) (Qw Q):=by
 intro m
 induction m with
 |zero=>intro a acc h1 h2;omega
 |succ m ih=>
  intro a acc hm ha hQ
  rw [nmL]at hQ
  refine Aqr _ _ _ _ _ (Call.use (A40 s hs a) ⟨⟨rfl,rfl⟩,Xr (p:=(Ao s (a:Int)).e=0) Ca (fun h1=> ?_) fun h1=>Let.intro ?_⟩)
  ·rw [if_pos h1]at hQ
   exact Ach _ _ _ hQ
  ·rw [if_neg (fun h=>h h1)]at hQ
   rw [Ab7]
   refine Dt (p:=(acc.length:Int)<(want:Int)∧(Ao s (a:Int)).k=1) (Bv7 _ _) (fun h2=> ?_) fun h2=>Let.intro (Dt (p:=(acc.length:Int)<(want:Int)∨¬(Ao s (a:Int)).k=0) (Bv8 _ _) (fun h3=> ?_) fun h3=> ?_)
   ·rw [if_pos ⟨by omega,h2.2⟩]at hQ
    refine⟨⟨by omega,by omega⟩, ?_⟩
    have:=ih (Ao s (a:Int)).b (acc++[(Ao s (a:Int)).n]) (by simp;omega) (by simp;omega) hQ
    rw [show ints (acc++[(Ao s (a:Int)).n])=ints acc++[[.int .i64 (Ao s (a:Int)).n]]by simp]at this
    exact this
   ·rw [if_neg (fun h=>h2 ⟨by omega,h.2⟩),if_pos (h3.elim (fun h=> .inl (by omega)) .inr)]at hQ
    exact Ach _ _ _ hQ
   ·rw [not_or,Classical.not_not]at h3
    rw [if_neg (fun h=>h2 ⟨by omega,h.2⟩),if_neg (fun h=>h.elim (fun h=>h3.1 (by omega)) fun h=>h h3.2)]at hQ
    exact Aqf _ _ _ hQ
theorem Bjy(s:List UInt8)(hs:s.length≤1000000000)(want:Nat)(hw:want≤100000):Call E0.P R9 [.imm (.str s), .imm (.int .i64 want)] [] (Is (.tup [.imm (.sl .any 1 (ints (nmL s want (want+1) 0 []).1)), .imm (.int .i64 (nmL s want (want+1) 0 []).2)]) []):=
 Auo _ _ _ (Bjp s hs want hw _ (want+1) 0 [] (by simp) (by simp) ⟨rfl,rfl⟩)
abbrev obA(x:List Ob × Int):AV:= .tup [.imm (.sl .any 8 (obs x.1)), .imm (.int .i64 x.2)]
theorem drop2 {l:List Int} {i:Nat} (h:i+1<l.length):l.drop i=l.getD i 0::l.getD (i+1) 0::l.drop (i+2):=by
 rw [List.drop_eq_getElem_cons (by omega),List.drop_eq_getElem_cons (by omega)]
 simp [List.getD_eq_getElem?_getD,show i<l.length by omega,h]
theorem Bgg(l:List Int)(he:∃k,l.length=2*k)(hl:l.length≤100000)(body:List UInt8)(hb:body.length≤1000000000)(Q:AV→Heap→Prop):∀(m i:Nat) (last:Option (Int × Int)) (t7 t8:Int) (acc:List Ob),2*m+i=l.length→acc.length≤i→
 (match last with |none=>i=0∧t8= -1 |some y=>0<i∧t7=y.1∧t8=y.2∧0≤y.2)→Q (obA (apL body last (l.drop i) acc)) []→Uw (ints l) body t7 t8 i (obs acc) (Pd Q)
 |0,i,last,t7,t8,acc,hm,hac,hlast,hQ=>by
  refine Aew _ _ _ _ _ _ _ ⟨fun h=> ?_,fun _=> ?_⟩
  ·have:=of_decide_eq_true h
   rw [Ab7]at this;omega
  ·rw [List.drop_of_length_le (by omega)]at hQ
   have e:apL body last [] acc=(acc,0):=by cases last<;>rfl
   rw [e]at hQ
   exact Auq _ _ (Aru _ _ (Aup _ _ _ hQ))
 |m+1,i,last,t7,t8,acc,hm,hac,hlast,hQ=>by
  have hi:i+1<l.length:=by omega
  rw [drop2 hi,apL]at hQ
  have w1:IntKind.i64.wrap ((i:Int)+1)=((i+1:Nat):Int):=Ayo i (by omega)
  have w3:IntKind.i64.wrap ((i:Int)+3)=((i+3:Nat):Int):=by rw [Bc _ (by omega) (by omega)];simp
  have w2:IntKind.i64.wrap ((i:Int)+2)=((i+2:Nat):Int):=by rw [Bc _ (by omega) (by omega)];simp
  have a0:(ints l).getD (Int.toNat (i:Int)) []=[.int .i64 (l.getD i 0)]:=ints_at l i (by omega)
  have a1:(ints l).getD (Int.toNat ((i+1:Nat):Int)) []=[.int .i64 (l.getD (i+1) 0)]:=ints_at l (i+1) hi
  generalize hn:l.getD i 0=n at hQ a0
  generalize hf:l.getD (i+1) 0=f at hQ a1
  refine Aew _ _ _ _ _ _ _ ⟨fun _=> ?_,fun h=> ?_⟩
  ·rw [w1,w3,a0,a1,Ab7]
   refine⟨⟨⟨by omega,by omega⟩,rfl⟩,⟨⟨by omega,by omega⟩,rfl⟩,Let.intro ?_⟩
   have g0:gI [IV.int .i64 n] 0=n:=rfl
   have g1:gI [IV.int .i64 f] 0=f:=rfl
   rw [g0,g1]
   refine Dt (p:=Ab8 (last.map (·.1)) n=true) ?_ (fun h1=> ?_) fun h1=>Let.intro (Dt (orB _ _) (fun h2=> ?_) fun h2=>Let.intro (Let.intro (Let.intro (Dt (p:=Apo last n f=true∨(body.length:Int)<f) ?_ (fun h3=> ?_) fun h3=> ?_))))
   ·cases last with
    |none=>rw [hlast.1];simp [Ab8]
    |some y=>
     obtain⟨q1,q2,_⟩:=hlast
     simp [Ab8,q2];omega
   ·rw [if_pos h1]at hQ
    exact P5 _ _ _ hQ
   ·rw [if_neg h1,if_pos h2]at hQ
    exact P5 _ _ _ hQ
   ·cases last with
    |none=>
     obtain⟨q1,q2⟩:=hlast
     subst q1 q2
     by_cases z:f=0
     ·subst z;simp [Apo]
     ·simp [Apo,z]
    |some y=>
     obtain⟨q1,_,q2,_⟩:=hlast
     have q3:¬i=0:=by omega
     by_cases z:f≤y.2<;>simp [Apo,q3,q2,z]
   ·rw [if_neg h1,if_neg h2,if_pos h3]at hQ
    exact P5 _ _ _ hQ
   ·rw [if_neg h1,if_neg h2,if_neg h3]at hQ
    rw [not_or]at h3
    have hf0:0≤f:=by
     cases last with
     |none=>have:=h3.1;simp [Apo]at this;omega
     |some y=>have:=h3.1;simp [Apo]at this;omega
    have go:∀t:Nat,t=toL body f (l.drop (i+2))→f≤(t:Int)→t≤body.length→R4 (ints l) body n f i n f t (obs acc) (Pe (Pd Q)):=by
     intro t ht h4 h5
     rw [←ht]at hQ
     refine Ars _ _ _ _ _ _ _ _ _ _ ⟨⟨hf0,h4,by omega⟩,Let.intro ?_⟩
     rw [Int.toNat_natCast]
     refine Call.use (Bm2 _ (by simp;omega)) ⟨⟨rfl,(show Bez (whA (Acf ((body.take t).drop f.toNat)))=whA (Acf ((body.take t).drop f.toNat)) from Qr ((Acf ((body.take t).drop f.toNat)).1,0,(Acf ((body.take t).drop f.toNat)).2)).symm⟩,Xr (p:=(Acf ((body.take t).drop f.toNat)).2=0) Ca (fun h6=> ?_) fun h6=> ?_⟩
     ·rw [if_pos h6]at hQ
      exact Aus _ _ _ (P5 _ _ _ hQ)
     ·rw [if_neg (fun h=>h h6)]at hQ
      refine⟨by rw [K3];omega,Aut _ _ _ _ _ _ _ (Art _ _ _ _ _ _ _ ?_)⟩
      rw [w2]
      refine Aur _ _ _ _ _ _ _ ?_
      have:=Bgg l he hl body hb Q m (i+2) (some (n,f)) n f (acc++[⟨n,0,(Acf ((body.take t).drop f.toNat)).1⟩]) (by omega) (by simp;omega) ⟨by omega,rfl,rfl,hf0⟩ hQ
      rw [show obs (acc++[⟨n,0,(Acf ((body.take t).drop f.toNat)).1⟩])=obs acc++[Im ⟨n,0,(Acf ((body.take t).drop f.toNat)).1⟩]by simp]at this
      rw [Im, ←Abc]at this
      exact this
    have up:((i+3:Nat):Int)<(l.length:Int)→i+3<l.length:=fun h=>by omega
    have a3:i+3<l.length→(ints l).getD (Int.toNat ((i+3:Nat):Int)) []=[.int .i64 (l.getD (i+3) 0)]:=fun h=>ints_at l (i+3) h
    have d3:i+3<l.length→toL body f (l.drop (i+2))=if f≤l.getD (i+3) 0∧l.getD (i+3) 0<(body.length:Int)then(l.getD (i+3) 0).toNat else body.length:=fun h=>by
     rw [drop2 (by omega)];rfl
    have g3:∀x:Int,gI [IV.int .i64 x] 0=x:=fun _=>rfl
    refine⟨fun h=>⟨⟨by omega,by have:=of_decide_eq_true h;omega⟩,by rw [a3 (up (of_decide_eq_true h))];rfl⟩,Let.intro ?_⟩
    by_cases h7:i+3<l.length
    ·rw [a3 h7,g3,decide_eq_true (show((i+3:Nat):Int)<(l.length:Int)by omega)]
     have d:=d3 h7
     generalize l.getD (i+3) 0=f2 at d ⊢
     refine Ce (fun h8=>⟨⟨⟨by omega,by omega⟩,by rfl⟩, ?_⟩) fun h8=> ?_
     ·by_cases h9:f2<(body.length:Int)
      ·rw [if_pos h9]
       rw [if_pos ⟨h8,h9⟩]at d
       have:=go f2.toNat d.symm (by omega) (by omega)
       rw [Int.toNat_of_nonneg (by omega)]at this
       exact this
      ·rw [if_neg h9]
       rw [if_neg (fun h=>h9 h.2)]at d
       exact go body.length d.symm (by omega) (Nat.le_refl _)
     ·rw [if_neg (fun h=>h8 h.1)]at d
      exact go body.length d.symm (by omega) (Nat.le_refl _)
    ·rw [decide_eq_false (show ¬((i+3:Nat):Int)<(l.length:Int)by omega)]
     refine brF (go body.length ?_ (by omega) (Nat.le_refl _))
     obtain⟨k,hk⟩:=he
     rw [List.drop_of_length_le (by omega)]
     rfl
  ·have:=of_decide_eq_false h
   rw [Ab7]at this;omega
theorem Bqj(l:List Int)(he:∃k,l.length=2*k)(hl:l.length≤100000)(body:List UInt8)(hb:body.length≤1000000000):Call E0.P Ad2 [.imm (.sl .any 1 (ints l)), .imm (.str body)] [] (Is (obA (apL body none l [])) []):=by
 obtain⟨k,hk⟩:=he
 exact Azf _ _ _ (Bgg l ⟨k,hk⟩ hl body hb _ k 0 none 0 (-1) [] (by omega) (by simp) ⟨rfl,rfl⟩ ⟨rfl,rfl⟩)
theorem Bb8(v:V)(hf:Fit v)(hs:v.s.length≤100000000):Call E0.P Pn [.imm (.agg v.row)] [] (Is (obA (Aco v)) []):=by
 have hG:=Bhn v hf Xd
 have hN:=A9h v hf kN 1 100
 have hF:=A9h v hf M0 0 v.s.length
 rw [Db]at hG hN hF ⊢
 refine Avs _ _ _ _ _ _ _ (Call.use hG ⟨⟨rfl,(A2x v Xd).symm⟩, ?_⟩)
 rw [A79,vk,vs3]
 refine Let.intro (Let.intro (Dt (p:=v.k≠8∨((Jo v Xd).getD zero).k≠3∨((Jo v Xd).getD zero).s≠Apd) ?_ (fun h=> ?_) fun h=> ?_))
 ·have e: [(79:UInt8),98,106,83,116,109]=Apd:=rfl
  rw [e]
  by_cases h1:v.k=8<;>by_cases h2:((Jo v Xd).getD zero).k=3<;>by_cases h3:((Jo v Xd).getD zero).s=Apd<;>simp [h1,h2,h3]
 ·rw [Aco,if_pos h];exact⟨rfl,rfl⟩
 ·rw [Aco,if_neg h]
  generalize ((Jo v kN).getD zero)=N at hN ⊢
  generalize ((Jo v M0).getD zero)=F at hF ⊢
  refine Call.use hN ⟨⟨rfl,rfl⟩,Call.use hF ⟨⟨rfl,rfl⟩,Let.intro (Dt (p:=¬Tv N 1 100∨¬Tv F 0 v.s.length) ?_ (fun h=> ?_) fun h=> ?_)⟩⟩
  ·show(bif !decide (Tv N 1 100)then true else !decide (Tv F 0 v.s.length))=true↔_
   by_cases h1:Tv N 1 100<;>by_cases h2:Tv F 0 v.s.length<;>simp [h1,h2]
  ·rw [if_pos h];exact⟨rfl,rfl⟩
  ·rw [if_neg h]
   rw [not_or,Classical.not_not,Classical.not_not]at h
   obtain⟨⟨n1,n2,n3⟩,⟨f1,f2,f3⟩⟩:=h
   refine⟨⟨f2,f3⟩,Let.intro ?_⟩
   have ew:IntKind.i64.wrap (2*N.n)=((2*N.n.toNat:Nat):Int):=by rw [Bc _ (by omega) (by omega)];omega
   show Call E0.P R9 [.imm (.str (v.s.take F.n.toNat)), .imm (.int .i64 (IntKind.i64.wrap (2*N.n)))] [] _
   rw [ew]
   have hl:=Bul (v.s.take F.n.toNat) (2*N.n.toNat) (2*N.n.toNat+1) 0 [] (by simp)
   have hc:=Bjy (v.s.take F.n.toNat) (by simp;omega) (2*N.n.toNat) (by omega)
   unfold Bjl
   generalize nmL (v.s.take F.n.toNat) (2*N.n.toNat) (2*N.n.toNat+1) 0 []=x at hl hc ⊢
   refine Call.use hc ⟨⟨rfl,rfl⟩,Xr (p:=x.2=0) Ca (fun h1=> ?_) fun h1=>⟨⟨f2,f3⟩,Let.intro (Call.use (Bqj x.1 ⟨N.n.toNat,hl h1⟩ (by rw [hl h1];omega) _ (by simp;omega)) ⟨⟨rfl,rfl⟩, ?_⟩)⟩⟩
   ·rw [Bn0,if_pos h1];exact⟨rfl,rfl⟩
   ·rw [Bn0,if_neg (fun h=>h h1)];exact⟨rfl,rfl⟩
end Go.Proofs.Sim.Se
set_option maxRecDepth 100000
namespace Go.Proofs.Sim.Se
open Go Go.Proofs Go.Proofs.Sim Go.Proofs.Sim.Va Go.Proofs.Sim.St Go.Proofs.Sim.Pa Go.RowKit
def Vk(n:Nat)(x:List Int × List UInt8 × Int):V × Int:=if x.2.2≠0 then(zero,x.2.2)else(F8 n x.1 x.2.1,0)
theorem A3d(l:List Ob)(h:¬(l.length<1∨100<l.length)):P8 l=Vk l.length (Kn none [] [] l):=by
 rw [P8,if_neg h];rfl
theorem Ber(n:Nat)(ns:List Int)(body:List UInt8):(F8 n ns body).row=[.int .i64 8, .int .i64 0, .int .i64 0, .str (Jd ns++body), .sl .any 6 [], .sl .any 7 [Bl (M0, .mk 2 ((Jd ns).length:Int) 0 [] [] []),Bl (kN, .mk 2 (n:Int) 0 [] [] []),Bl (Xd, .mk 3 0 0 Apd [] [])]]:=by
 rw [Db];rfl
theorem Aoh(p:Pr): [.str (gS (Bl p) 0), .int .i64 (gI (Bl p) 1), .int .i64 (gI (Bl p) 2), .int .i64 (gI (Bl p) 3), .str (gS (Bl p) 4), .sl .any 6 (gR (Bl p) 5), .sl .any 7 (gR (Bl p) 6)]=Bl p:=by
 rw [F7];rfl
theorem A95:Bl (Xd, .mk 3 0 0 Apd [] [])=[.str [84,121,112,101], .int .i64 3, .int .i64 0, .int .i64 0, .str [79,98,106,83,116,109], .sl .any 6 [], .sl .any 7 []]:=by
 rw [F7];rfl
def Bwb(last:Option Int)(l:List Ob)(i:Nat):Prop:=(last=none∧i=0)∨(0<i∧last=some (Od l (i - 1)).n)
theorem Bhd {o:Ob} :(Hf o).1.length≤4097:=by
 unfold Hf
 split
 ·simp
 split
 ·simp
 split
 ·simp
 split
 ·simp
 ·simp;omega
theorem drop1 {l:List Ob} {i:Nat} (h:i<l.length):l.drop i=Od l i::l.drop (i+1):=by
 rw [List.drop_eq_getElem_cons h]
 simp [Od,List.getD_eq_getElem?_getD,h]
theorem Bjz(l:List Ob)(_hl:l.length≤100)(ns:List Int)(hn:ns.length≤1000)(hb:∀n∈ns,Ow n)(body:List UInt8)(hbl:body.length≤10000000)(Q:AV→Heap→Prop)(hQ:Q (whA (F8 l.length ns body,0)) []):
 Abd (obs l) body 0 0 0 [] (ints ns) [] [] (Wq Q):=by
 have hs:=Aok ns hb
 have hj:=N7 (ns.map Lib.itoa)
 refine Aub _ _ _ _ _ _ _ _ _ _ (Call.use (Bju ns hb (by omega)) ⟨⟨rfl,rfl⟩, ?_⟩)
 rw [show rS (.imm (.str (Bn (ns.map Lib.itoa))))=Bn (ns.map Lib.itoa) from rfl,K3]
 rw [show Bn (ns.map Lib.itoa)++[10]=Jd ns from rfl]
 have hh:(Jd ns).length=(Bn (ns.map Lib.itoa)).length+1:=by simp [Jd]
 refine⟨by omega,Call.use (A9f M0 _) ⟨⟨rfl, ?_⟩,Call.use (A9f kN _) ⟨⟨rfl, ?_⟩,by omega, ?_⟩⟩⟩
 ·show AV.imm (.agg (Bl _))=AV.imm (.agg [.str (gS (Bl _) 0), .int .i64 (gI (Bl _) 1), .int .i64 (gI (Bl _) 2), .int .i64 (gI (Bl _) 3), .str (gS (Bl _) 4), .sl .any 6 (gR (Bl _) 5), .sl .any 7 (gR (Bl _) 6)])
  rw [Aoh]
 ·show AV.imm (.agg (Bl _))=AV.imm (.agg [.str (gS (Bl _) 0), .int .i64 (gI (Bl _) 1), .int .i64 (gI (Bl _) 2), .int .i64 (gI (Bl _) 3), .str (gS (Bl _) 4), .sl .any 6 (gR (Bl _) 5), .sl .any 7 (gR (Bl _) 6)])
  rw [Aoh]
 ·refine Avy _ _ _ _ _ _ _ _ ?_
  have e:whA (F8 l.length ns body,0)= .tup [.imm (.agg [.int .i64 8, .int .i64 0, .int .i64 0, .str (Jd ns++body), .sl .any 6 [], .sl .any 7 [Bl (M0, .mk 2 ((Jd ns).length:Int) 0 [] [] []),Bl (kN, .mk 2 (l.length:Int) 0 [] [] []),Bl (Xd, .mk 3 0 0 Apd [] [])]]), .imm (.int .i64 0)]:=by
   rw [whA,Ber]
  rw [e, ←Aoh (M0,_), ←Aoh (kN,_),A95]at hQ
  exact hQ
theorem Bjq(l:List Ob)(hl:l.length≤100)(sc:∀o∈l,Scal o.v∧Cv o.v≤1000∧Ow o.n)(Q:AV→Heap→Prop):∀(m i:Nat) (last:Option Int) (ns:List Int) (body:List UInt8),m+i=l.length→ns.length=2*i→body.length≤4097*i→(∀n∈ns,Ow n)→Bwb last l i→
 Q (whA (Vk l.length (Kn last ns body (l.drop i)))) []→Ww (obs l) body (obs l) l.length i 0 0 0 [] (ints ns) [] [] (Ws Q)
 |0,i,last,ns,body,hm,hn,hbl,hb,hlast,hQ=>by
  refine Ahb _ _ _ _ _ _ _ _ _ _ _ _ _ ⟨fun h=> ?_,fun _=> ?_⟩
  ·have:=of_decide_eq_true h;omega
  ·rw [List.drop_of_length_le (by omega),Kn]at hQ
   have e:Vk l.length (ns,body,0)=(F8 l.length ns body,0):=by rw [Vk,if_neg (by simp)]
   rw [e]at hQ
   exact Avz _ _ _ _ _ _ _ _ _ _ (Bjz l hl ns (by omega) hb body (by omega) Q hQ)
 |m+1,i,last,ns,body,hm,hn,hbl,hb,hlast,hQ=>by
  have hi:i<l.length:=by omega
  rw [drop1 hi,Kn]at hQ
  have at0:(obs l).getD (Int.toNat (i:Int)) []=Im (Od l i):=Akz l i hi
  have ho:=sc _ (Ayf hi)
  have hx:=Bqk (Od l i) ho.1 ho.2.1
  have hlen:=Bhd (o:=Od l i)
  refine Ahb _ _ _ _ _ _ _ _ _ _ _ _ _ ⟨fun _=> ?_,fun h=> ?_⟩
  ·rw [at0,K3,Bow,Bep]
   have wm:0<i→IntKind.i64.wrap ((i:Int) - 1)=((i - 1:Nat):Int):=fun h=>by rw [Bc _ (by omega) (by omega)];omega
   have at1:0<i→(obs l).getD (Int.toNat (((i - 1:Nat)):Int)) []=Im (Od l (i - 1)):=fun h=>Akz l (i - 1) (by omega)
   refine⟨⟨⟨by omega,by omega⟩,Ak0 _ _ _⟩,fun h=> ?_,Let.intro (Dt (p:=Ab8 last (Od l i).n=true) ?_ (fun h1=> ?_) fun h1=>Call.use hx ⟨⟨rfl,rfl⟩, ?_⟩)⟩
   ·have h:=of_decide_eq_true h
    rw [wm (by omega),at1 (by omega)]
    exact⟨⟨by omega,by omega⟩,Ak0 _ _ _⟩
   ·rcases hlast with ⟨rfl,rfl⟩ |⟨h0,rfl⟩
    ·simp [Ab8]
    ·rw [wm h0,at1 h0,Bep,decide_eq_true (show(0:Int)<(i:Int)by omega)]
     simp [Ab8]
   ·rw [if_pos h1]at hQ
    have e:Vk l.length ([],[],15)=(zero,15):=by rw [Vk,if_pos (by decide)]
    rw [e, ←Ahw]at hQ
    exact Ag8 _ _ _ _ _ _ _ _ hQ
   ·rw [if_neg h1]at hQ
    rw [tx0,tx1]
    refine Xr (p:=(Hf (Od l i)).2=0) Ca (fun h2=> ?_) fun h2=> ?_
    ·rw [if_pos h2]at hQ
     have e:Vk l.length ([],[],(Hf (Od l i)).2)=(zero,(Hf (Od l i)).2):=by rw [Vk,if_pos h2]
     rw [e, ←Ahw]at hQ
     exact Ag8 _ _ _ _ _ _ _ _ hQ
    ·rw [if_neg (fun h=>h h2)]at hQ
     rw [Ab7,Ayo i (by omega)]
     refine⟨⟨by omega,by omega⟩,by omega, ?_⟩
     have:=Bjq l hl sc Q m (i+1) (some (Od l i).n) (ns++[(Od l i).n,(body.length:Int)]) (body++(Hf (Od l i)).1) (by omega) (by simp;omega) (by simp;omega)
      (fun n hn'=>by
       rcases List.mem_append.1 hn' with h |h
       ·exact hb n h
       ·simp only [List.mem_cons,List.not_mem_nil,or_false]at h
        rcases h with rfl |rfl
        ·exact ho.2.2
        ·exact⟨by omega,by omega⟩)
      (.inr ⟨by omega,by simp⟩) hQ
     rw [show ints (ns++[(Od l i).n,(body.length:Int)])=ints ns++[[.int .i64 (Od l i).n],[.int .i64 (body.length:Int)]]by simp]at this
     exact this
  ·have:=of_decide_eq_false h;omega
theorem Bb7(l:List Ob)(sc:∀o∈l,Scal o.v∧Cv o.v≤1000∧Ow o.n):Call E0.P Te [.imm (.sl .any 8 (obs l))] [] (Is (whA (P8 l)) []):=by
 refine A01 _ _ ?_
 rw [K3]
 refine Let.intro (Dt (p:=l.length<1∨100<l.length) ?_ (fun h=> ?_) fun h=> ?_)
 ·rw [orB];omega
 ·rw [P8,if_pos h, ←Ahw];exact⟨rfl,rfl⟩
 ·rw [A3d l h]
  exact Bjq l (by omega) sc _ l.length 0 none [] [] (by omega) (by simp) (by simp) (fun _ h=>(nomatch h)) (.inl ⟨rfl,rfl⟩) ⟨rfl,rfl⟩
end Go.Proofs.Sim.Se

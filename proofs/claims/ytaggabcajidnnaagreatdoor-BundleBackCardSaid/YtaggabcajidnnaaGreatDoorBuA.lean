import Derived.Test.YtaggabcajidnnaaGreatDoorPbB
import Derived.Test.YtaggabcajidnnaaGreatDoorBkA
import Derived.Test.YtaggabcajidnnaaGreatDoorWrB
import Derived.Test.YtaggabcajidnnaaGreatDoorSeatGenB
set_option maxRecDepth 100000
namespace Go.Proofs.Sim.Se
open Go Go.Proofs Go.Proofs.Sim Go.Proofs.Sim.Va Go.Proofs.Sim.St Go.Proofs.Sim.Pa Go.RowKit
structure Ob where
 n:Int
 g:Int
 v:V
instance:Inhabited Ob:=⟨⟨0,0,default⟩⟩
def Gr(o:Ob):List IV:= .int .i64 o.n:: .int .i64 o.g::o.v.row
abbrev obs(l:List Ob):List (List IV):=l.map Gr
def Kr(l:List Ob)(i:Nat):Ob:=l.getD i default
theorem I7(l:List Ob):(obs l).length=l.length:=List.length_map ..
def Kg(o:Ob):List UInt8 × Int:=
 if o.n<1∨8388607<o.n then([],3)else if o.g≠0 then([],2)
 else if(Aaf o.v).2≠0 then([],(Aaf o.v).2)else if 4096<(Aaf o.v).1.length then([],7)else((Aaf o.v).1++[10],0)
def Ag2:Option Int→Int→Bool
 |none,_=>false
 |some x,n=>decide (n≤x)
def Qg:Option Int→List Int→List UInt8→List Ob→List Int × List UInt8 × Int
 |_,ns,body,[]=>(ns,body,0)
 |last,ns,body,o::r=>if Ag2 last o.n=true then([],[],15)else if(Kg o).2≠0 then([],[],(Kg o).2)
  else Qg (some o.n) (ns++[o.n,(body.length:Int)]) (body++(Kg o).1) r
def Hu(ns:List Int):List UInt8:=Bi (ns.map Lib.itoa)++[10]
def Kq:List UInt8:=[70,105,114,115,116]
def kN:List UInt8:=[78]
def Vu:List UInt8:=[84,121,112,101]
def Akc:List UInt8:=[79,98,106,83,116,109]
def Dr(n:Nat)(ns:List Int)(body:List UInt8):V:= .mk 8 0 0 (Hu ns++body) [] [(Kq, .mk 2 ((Hu ns).length:Int) 0 [] [] []),(kN, .mk 2 (n:Int) 0 [] [] []),(Vu, .mk 3 0 0 Akc [] [])]
def Il(l:List Ob):V × Int:=
 if l.length<1∨100<l.length then(zero,8)else if(Qg none [] [] l).2.2≠0 then(zero,(Qg none [] [] l).2.2)
 else(Dr l.length (Qg none [] [] l).1 (Qg none [] [] l).2.1,0)
def nmL(s:List UInt8)(want:Nat):Nat→Nat→List Int→List Int × Int
 |0,_,_=>([],4)
 |m+1,a,acc=>if(Ak s a).e≠0 then([],(Ak s a).e)else if acc.length<want∧(Ak s a).k=1 then nmL s want m (Ak s a).b (acc++[(Ak s a).n])
  else if acc.length<want∨(Ak s a).k≠0 then([],4)else(acc,0)
def toL(body:List UInt8)(f:Int):List Int→Nat
 |_::f2::_=>if f≤f2∧f2<(body.length:Int)then f2.toNat else body.length
 |_=>body.length
def Aml:Option (Int × Int)→Int→Int→Bool
 |none,_,f=>decide (f≠0)
 |some y,_,f=>decide (f≤y.2)
def apL(body:List UInt8):Option (Int × Int)→List Int→List Ob→List Ob × Int
 |last,n::f::r,acc=>if Ag2 (last.map (·.1)) n=true then([],15)else if n<1∨8388607<n then([],3)else if Aml last n f=true∨(body.length:Int)<f then([],4)
  else if(Abb ((body.take (toL body f r)).drop f.toNat)).2≠0 then([],(Abb ((body.take (toL body f r)).drop f.toNat)).2)
  else apL body (some (n,f)) r (acc++[⟨n,0,(Abb ((body.take (toL body f r)).drop f.toNat)).1⟩])
 |_,_,acc=>(acc,0)
def Bg7(x:List Int × Int)(body:List UInt8):List Ob × Int:=if x.2≠0 then([],x.2)else apL body none x.1 []
def Bcx(s:List UInt8)(f n:Nat):List Ob × Int:=Bg7 (nmL (s.take f) (2*n) (2*n+1) 0 []) (s.drop f)
def R9(v:V)(a b:Int):Prop:=v.k=2∧a≤v.n∧v.n≤b
instance (v:V) (a b:Int):Decidable (R9 v a b):=by unfold R9;infer_instance
def Abn(v:V):List Ob × Int:=
 if v.k≠8∨((Ij v Vu).getD zero).k≠3∨((Ij v Vu).getD zero).s≠Akc then([],10)
 else if ¬R9 ((Ij v kN).getD zero) 1 100∨¬R9 ((Ij v Kq).getD zero) 0 (v.s.length:Int)then([],11)
 else Bcx v.s ((Ij v Kq).getD zero).n.toNat ((Ij v kN).getD zero).n.toNat
theorem Bn0(n:Nat)(ns:List Int)(body:List UInt8):(Dr n ns body).plain.d=(Dr n ns body).d:=by
 rw [Eh]
 show(uniq (Lv (Dr n ns body).d)).filter Ut=(Dr n ns body).d
 have e:Lv (Dr n ns body).d=(Dr n ns body).d:=Be5 fun p hp=>by
  simp only [Dr,V.d,List.mem_cons,List.not_mem_nil,or_false]at hp
  rcases hp with rfl |rfl |rfl<;>rw [Eh]<;>rfl
 rw [e]
 rfl
theorem Bh3(n:Nat)(ns:List Int)(body:List UInt8):Ij (Dr n ns body) Kq=some (.mk 2 ((Hu ns).length:Int) 0 [] [] [])∧Ij (Dr n ns body) kN=some (.mk 2 (n:Int) 0 [] [] [])∧Ij (Dr n ns body) Vu=some (.mk 3 0 0 Akc [] []):=by
 unfold Ij
 rw [Bn0]
 exact⟨rfl,rfl,rfl⟩
def X9(ns:List Int):List UInt8:=(ns.map fun n=>32::Lib.itoa n).flatten
theorem A03(ns:List Int)(r:List UInt8):Vz (X9 ns++10::r):=by
 cases ns with
 |nil=>exact Kc _ (by decide)
 |cons n ns=>exact Kc _ (by decide)
theorem Bdu {s:List UInt8} {a:Nat} (h:s.drop a=[10]):∃b,Ak s (a:Int)=⟨0,0,0,[],b,b⟩:=by
 have hl:=Aec h
 have e:Dl s (a:Int)=a+1:=by rw [Dl,A8r (Nat.le_of_lt hl),h];rfl
 have e2:s.drop (a+1)=[]:=Wp h
 refine⟨a+1, ?_⟩
 rw [Ak,e,e2]
theorem Bk6(s:List UInt8)(ns:List Int)(hb:∀n∈ns, -2147483647≤n∧n≤2147483647):∀(m a:Nat) (acc:List Int) (want:Nat),want=acc.length+ns.length→ns.length<m→s.drop a=X9 ns++[10]→nmL s want m a acc=(acc++ns,0):=by
 induction ns with
 |nil=>
  intro m a acc want hw hm h
  obtain⟨b,e⟩:=Bdu h
  cases m with
  |zero=>cases hm
  |succ m=>
   rw [nmL,e]
   simp at hw
   simp [hw]
 |cons n ns ih=>
  intro m a acc want hw hm h
  cases m with
  |zero=>cases hm
  |succ m=>
   have h':s.drop a=32::(Lib.itoa n++(X9 ns++[10])):=by rw [h];simp [X9]
   have h1:=Wp h'
   have e:=Af1 h1 (hb n List.mem_cons_self).1 (hb n List.mem_cons_self).2 (A03 ns [])
   rw [←Na h']at e
   rw [nmL,e]
   simp only [List.length_cons]at hw hm
   simp only
   rw [if_neg (by decide),if_pos ⟨by omega,trivial⟩,ih (fun x hx=>hb x (List.mem_cons_of_mem _ hx)) m _ (acc++[n]) want (by simp;omega) (by omega) (Ic h1)]
   simp
theorem Bk5(ns:List Int)(h0:ns≠[])(hb:∀n∈ns, -2147483647≤n∧n≤2147483647)(m:Nat)(hm:ns.length<m):nmL (Hu ns) ns.length m 0 []=(ns,0):=by
 cases ns with
 |nil=>exact absurd rfl h0
 |cons n ns=>
  cases m with
  |zero=>cases hm
  |succ m=>
   have h1:(Hu (n::ns)).drop 0=Lib.itoa n++(X9 ns++[10]):=by
    rw [Hu,Bi,List.map_cons,Lib.join_cons]
    simp [Lib.joinTail,X9,Function.comp_def]
   have e:=Af1 h1 (hb n List.mem_cons_self).1 (hb n List.mem_cons_self).2 (A03 ns [])
   rw [nmL]
   have e:Ak (Hu (n::ns)) ((0:Nat):Int)=⟨0,1,n,[],0,0+(Lib.itoa n).length⟩:=e
   rw [e]
   simp only [List.length_cons]at hm
   simp only
   rw [if_neg (by decide),if_pos ⟨by simp,trivial⟩,Bk6 _ ns (fun x hx=>hb x (List.mem_cons_of_mem _ hx)) m _ ([]++[n]) _ (by simp;omega) (by omega) (Ic h1)]
   simp
theorem Bit(v:V)(hv:N8 0 v):Abb (v.wr++[10])=(v.plain,0):=by
 have hd:(v.wr++[10]).drop v.wr.length=[10]:=List.drop_left
 obtain⟨b,hn⟩:=Bdu hd
 have h0:(v.wr++[10]).drop 0=v.wr++[10]:=rfl
 have e:Dk (v.wr++[10]) ((v.wr++[10]).length+1) 0 0=(v,0+v.wr.length,0):=Bfa hv _ _ 0 [10] (by omega) h0 (Kc _ (by decide)) (fun _=>by rw [Nat.zero_add,Q7,hn];simp)
 rw [Nat.zero_add]at e
 have ev:Akl (v.wr++[10]) 0=(v.plain,v.wr.length,0):=by
  unfold Akl
  have e0:Ol (v.wr++[10]) 0=0:=A8r (Nat.zero_le _)
  rw [e0,e]
  simp
 unfold Abb
 rw [ev]
 simp only
 rw [if_neg (by decide),hn]
 simp
def Oa(l:List Ob):List UInt8:=(l.map fun o=>(Kg o).1).flatten
def Ir:Nat→List Ob→List Int
 |_,[]=>[]
 |k,o::r=>o.n::(k:Int)::Ir (k+(Kg o).1.length) r
theorem Bar:∀(l:List Ob) (last:Option Int) (ns:List Int) (body:List UInt8),(Qg last ns body l).2.2=0→
 Qg last ns body l=(ns++Ir body.length l,body++Oa l,0)∧∀o∈l,(Kg o).2=0:=by
 intro l
 induction l with
 |nil=>intro last ns body _;exact⟨by simp [Qg,Ir,Oa],fun _ h=>(nomatch h)⟩
 |cons o r ih=>
  intro last ns body h
  rw [Qg]at h ⊢
  by_cases h1:Ag2 last o.n=true
  ·rw [if_pos h1]at h;exact absurd h (by simp)
  rw [if_neg h1]at h ⊢
  by_cases h2:(Kg o).2=0
  ·rw [if_neg (fun h=>h h2)]at h ⊢
   obtain⟨e,hr⟩:=ih _ _ _ h
   refine⟨?_,fun x hx=> ?_⟩
   ·rw [e];simp [Ir,Oa]
   ·rcases List.mem_cons.1 hx with rfl |hx
    ·exact h2
    ·exact hr x hx
  ·rw [if_pos h2]at h;exact absurd h h2
def Bf4:Option Int→List Ob→Prop
 |_,[]=>True
 |last,o::r=>Ag2 last o.n=false∧Bf4 (some o.n) r
theorem Be4:∀(l:List Ob) (last:Option Int) (ns:List Int) (body:List UInt8),(Qg last ns body l).2.2=0→Bf4 last l:=by
 intro l
 induction l with
 |nil=>intro last ns body _;trivial
 |cons o r ih=>
  intro last ns body h
  rw [Qg]at h
  by_cases h1:Ag2 last o.n=true
  ·rw [if_pos h1]at h;exact absurd h (by simp)
  rw [if_neg h1]at h
  by_cases h2:(Kg o).2=0
  ·rw [if_neg (fun h=>h h2)]at h
   exact⟨by simpa using h1,ih _ _ _ h⟩
  ·rw [if_pos h2]at h;exact absurd h h2
theorem A53 {o:Ob} (h:(Kg o).2=0):1≤o.n∧o.n≤8388607∧o.g=0∧N8 0 o.v∧(Kg o).1=o.v.plain.wr++[10]∧o.v.plain.wr.length≤4096:=by
 unfold Kg at h ⊢
 by_cases h1:o.n<1∨8388607<o.n
 ·rw [if_pos h1]at h;exact absurd h (by simp)
 rw [if_neg h1]at h ⊢
 by_cases h2:o.g=0
 ·rw [if_neg (fun h=>h h2)]at h ⊢
  by_cases h3:(Aaf o.v).2=0
  ·rw [if_neg (fun h=>h h3)]at h ⊢
   by_cases h4:4096<(Aaf o.v).1.length
   ·rw [if_pos h4]at h;exact absurd h (by simp)
   rw [if_neg h4]
   have hc:o.v.chk false 0=0:=by
    unfold Aaf at h3
    split at h3
    ·exact h3
    ·rename_i h;exact Classical.not_not.1 h
   have e:Aaf o.v=(o.v.plain.wr,0):=by rw [Aaf,if_neg (fun h=>h hc)]
   rw [e]at h4 ⊢
   exact⟨by omega,by omega,h2,(Blc o.v 0).1 hc,rfl,by simpa using h4⟩
  ·rw [if_pos h3]at h;exact absurd h h3
 ·rw [if_pos h2]at h;exact absurd h (by simp)
theorem Aj4(o:Ob)(r:List Ob):Oa (o::r)=(Kg o).1++Oa r:=by simp [Oa]
theorem Bj6(body:List UInt8):∀(l:List Ob) (pre:List UInt8) (last:Option (Int × Int)) (acc:List Ob),(∀o∈l,(Kg o).2=0)→Bf4 (last.map (·.1)) l→body=pre++Oa l→(match last with |none=>pre.length=0 |some y=>y.2<(pre.length:Int))→
 apL body last (Ir pre.length l) acc=(acc++l.map fun o=>⟨o.n,0,o.v.plain⟩,0):=by
 intro l
 induction l with
 |nil=>intro pre last acc _ _ _ _;rw [Ir];cases last<;>simp [apL]
 |cons o r ih=>
  intro pre last acc ht hr hb hl
  have t:=A53 (ht o List.mem_cons_self)
  obtain⟨t1,t2,t3,t4,t5,t6⟩:=t
  have hn:0<(Kg o).1.length:=by rw [t5];simp
  have hto:toL body (pre.length:Int) (Ir (pre.length+(Kg o).1.length) r)=pre.length+(Kg o).1.length:=by
   rw [Aj4]at hb
   cases r with
   |nil=>rw [Ir,show toL body (pre.length:Int) []=body.length from rfl,hb];simp [Oa]
   |cons o2 r2=>
    have t':=A53 (ht o2 (List.mem_cons_of_mem _ List.mem_cons_self))
    have hn2:0<(Kg o2).1.length:=by rw [t'.2.2.2.2.1];simp
    have hbl:body.length=pre.length+((Kg o).1.length+((Kg o2).1.length+(Oa r2).length)):=by rw [hb,Aj4];simp
    rw [Ir,toL,if_pos (by omega)]
    omega
  have hs:(body.take (pre.length+(Kg o).1.length)).drop pre.length=o.v.plain.wr++[10]:=by
   have e:body=(pre++(Kg o).1)++Oa r:=by rw [hb,Aj4,List.append_assoc]
   have e2:body.take (pre++(Kg o).1).length=pre++(Kg o).1:=by rw [e];exact List.take_left
   rw [List.length_append]at e2
   rw [e2,List.drop_left,t5]
  have hw:=Bit _ (Be1 t4)
  rw [A9u]at hw
  rw [Ir,apL]
  have hr1:Ag2 (last.map (·.1)) o.n=false:=hr.1
  have hp:¬(Aml last o.n (pre.length:Int)=true∨(body.length:Int)<(pre.length:Int)):=by
   rw [not_or]
   refine⟨?_,by rw [hb];simp;omega⟩
   cases last with
   |none=>have hl:pre.length=0:=hl;simp [Aml,hl]
   |some y=>have hl:y.2<(pre.length:Int):=hl;simp [Aml];omega
  rw [hr1,if_neg (by decide),if_neg (by omega),if_neg hp,hto,Int.toNat_natCast,hs,hw,if_neg (by simp)]
  have:=ih (pre++(Kg o).1) (some (o.n,(pre.length:Int))) (acc++[⟨o.n,0,o.v.plain⟩]) (fun x hx=>ht x (List.mem_cons_of_mem _ hx)) hr.2 (by rw [hb,Aj4,List.append_assoc]) (by show(pre.length:Int)<_;simp;omega)
  rw [List.length_append]at this
  rw [this]
  simp
theorem Bj9(l:List Ob)(h:∀o∈l,(Kg o).2=0):(Oa l).length≤4097*l.length:=by
 induction l with
 |nil=>simp [Oa]
 |cons o r ih=>
  have t:=A53 (h o List.mem_cons_self)
  have:=ih fun x hx=>h x (List.mem_cons_of_mem _ hx)
  rw [Aj4,List.length_append,t.2.2.2.2.1]
  simp;omega
theorem Be0:∀(l:List Ob) (k:Nat),(∀o∈l,(Kg o).2=0)→∀n∈Ir k l,0≤n∧n≤8388607+k+4097*l.length:=by
 intro l
 induction l with
 |nil=>intro k _ n h;cases h
 |cons o r ih=>
  intro k h n hn
  have t:=A53 (h o List.mem_cons_self)
  rw [Ir]at hn
  rcases List.mem_cons.1 hn with rfl |hn
  ·simp;omega
  rcases List.mem_cons.1 hn with rfl |hn
  ·simp;omega
  ·have:=ih _ (fun x hx=>h x (List.mem_cons_of_mem _ hx)) n hn
   rw [t.2.2.2.2.1]at this
   simp at this ⊢; omega
theorem Bao:∀(l:List Ob) (k:Nat),(Ir k l).length=2*l.length:=by
 intro l
 induction l with
 |nil=>intro k;rfl
 |cons o r ih=>intro k;rw [Ir];simp [ih];omega
theorem unpack_pack(l:List Ob)(h:(Il l).2=0):Abn (Il l).1=(l.map fun o=>⟨o.n,0,o.v.plain⟩,0):=by
 unfold Il at h ⊢
 by_cases h1:l.length<1∨100<l.length
 ·rw [if_pos h1]at h;exact absurd h (by simp)
 rw [if_neg h1]at h ⊢
 by_cases h2:(Qg none [] [] l).2.2=0
 ·rw [if_neg (fun h=>h h2)]
  obtain⟨e,ht⟩:=Bar l none [] [] h2
  have hr:=Be4 l none [] [] h2
  have hle:=Be0 l 0 ht
  have hlen:=Bao l 0
  rw [e]
  simp only [List.nil_append,List.length_nil]
  obtain⟨g1,g2,g3⟩:=Bh3 l.length (Ir 0 l) (Oa l)
  have e1:(Dr l.length (Ir 0 l) (Oa l)).k=8:=rfl
  have e2:(Dr l.length (Ir 0 l) (Oa l)).s=Hu (Ir 0 l)++Oa l:=rfl
  unfold Abn
  rw [g1,g2,g3,e1,e2]
  simp only [Option.getD_some]
  have hn0:Ir 0 l≠[]:=by
   cases l with
   |nil=>simp at h1
   |cons o r=>simp [Ir]
  have hb:=Bk5 (Ir 0 l) hn0 (fun n hn=>by have:=hle n hn;omega) (2*l.length+1) (by omega)
  rw [hlen]at hb
  rw [if_neg (by simp [V.k,V.s]),if_neg (by simp [R9,V.k,V.n];omega)]
  show Bcx (Hu (Ir 0 l)++Oa l) (Hu (Ir 0 l)).length l.length=_
  rw [Bcx,List.take_left,hb,List.drop_left]
  show apL (Oa l) none (Ir 0 l) []=_
  have:=Bj6 (Oa l) l [] none [] ht hr rfl rfl
  simpa using this
 ·rw [if_pos h2]at h;exact absurd h h2
end Go.Proofs.Sim.Se
set_option maxRecDepth 100000
namespace Go.Proofs.Sim.Se
open Go Go.Proofs Go.Proofs.Sim Go.Proofs.Sim.Va Go.Proofs.Sim.St Go.Proofs.Sim.Pa Go.RowKit
theorem Bfp(ns:List Int)(h:∀n∈ns,0≤n∧n≤9223372036854775807):(X9 ns).length≤21*ns.length:=by
 induction ns with
 |nil=>simp [X9]
 |cons n ns ih=>
  have h1:=Wv n (by have:=h n List.mem_cons_self;omega) (h n List.mem_cons_self).2
  have h2:=ih fun x hx=>h x (List.mem_cons_of_mem _ hx)
  have e:X9 (n::ns)=32::(Lib.itoa n++X9 ns):=by simp [X9]
  rw [e];simp;omega
theorem Beb(ns:List Int)(h:∀n∈ns,0≤n∧n≤9223372036854775807):(Hu ns).length≤21*ns.length+1:=by
 cases ns with
 |nil=>simp [Hu,Bi,Lib.join_nil]
 |cons n ns=>
  have h1:=Wv n (by have:=h n List.mem_cons_self;omega) (h n List.mem_cons_self).2
  have h2:=Bfp ns fun x hx=>h x (List.mem_cons_of_mem _ hx)
  have e:Hu (n::ns)=Lib.itoa n++(X9 ns++[10]):=by
   rw [Hu,Bi,List.map_cons,Lib.join_cons]
   simp [Lib.joinTail,X9,Function.comp_def]
  rw [e];simp;omega
theorem Bh2(l:List Ob)(h:(Il l).2=0):(Il l).1.chk true 0=0∧(Il l).1.s.length≤1000000:=by
 unfold Il at h ⊢
 by_cases h1:l.length<1∨100<l.length
 ·rw [if_pos h1]at h;exact absurd h (by simp)
 rw [if_neg h1]at h ⊢
 by_cases h2:(Qg none [] [] l).2.2=0
 ·rw [if_neg (fun h=>h h2)]
  obtain⟨e,ht⟩:=Bar l none [] [] h2
  rw [e]
  simp only [List.nil_append,List.length_nil]
  have hle:=Be0 l 0 ht
  have hcl:=Bj9 l ht
  have hhl:=Beb (Ir 0 l) fun n hn=>by have:=hle n hn;omega
  rw [Bao]at hhl
  have hs:(Dr l.length (Ir 0 l) (Oa l)).s.length≤1000000:=by
   show(Hu (Ir 0 l)++Oa l).length≤_
   rw [List.length_append];omega
  refine⟨?_,hs⟩
  have ho:Wy (Dr l.length (Ir 0 l) (Oa l)) true 0=0:=by
   unfold Wy
   rw [if_neg (by simp [Dr,V.k]),if_neg (by simp [Dr,He,V.k,V.n,V.g,V.s,V.l,V.d]),if_neg (by simp [Dr,Oj,V.k]),if_neg (by simp [Dr,V.k]),if_neg (by omega),if_neg (by simp)]
  have i1:(V.mk 2 ((Hu (Ir 0 l)).length:Int) 0 [] [] []).chk false 1=0:=Aus (.int 1 _ (by omega) (by omega))
  have i2:(V.mk 2 (l.length:Int) 0 [] [] []).chk false 1=0:=Aus (.int 1 _ (by omega) (by omega))
  have i3:(V.mk 3 0 0 Akc [] []).chk false 1=0:=Aus (.name 1 _ (by decide) (by decide))
  rw [A60,ho,if_neg (by simp)]
  have ef:Y6 ((Dr l.length (Ir 0 l) (Oa l)).l.map fun x=>x.chk false (0+1))=0:=rfl
  rw [ef,if_neg (by simp)]
  show Akd [] [(Kq,(V.mk 2 ((Hu (Ir 0 l)).length:Int) 0 [] [] []).chk false 1),(kN,(V.mk 2 (l.length:Int) 0 [] [] []).chk false 1),(Vu,(V.mk 3 0 0 Akc [] []).chk false 1)]=0
  rw [i1,i2,i3]
  decide
 ·rw [if_pos h2]at h;exact absurd h h2
end Go.Proofs.Sim.Se
set_option maxRecDepth 100000
namespace Go.Proofs.Sim.Se
open Go Go.Proofs Go.Proofs.Sim Go.Proofs.Sim.Va Go.Proofs.Sim.St Go.Proofs.Sim.Pa Go.RowKit
abbrev ints(l:List Int):List (List IV):=l.map fun n=>[.int .i64 n]
theorem Aa9(l:List Int):(ints l).length=l.length:=List.length_map ..
theorem ints_at(l:List Int)(i:Nat)(h:i<l.length):(ints l).getD i []=[.int .i64 (l.getD i 0)]:=by simp [List.getD_eq_getElem?_getD,h]
theorem Aet(o:Ob):Gr o=[.int .i64 o.n, .int .i64 o.g, .int .i64 o.v.k, .int .i64 o.v.n, .int .i64 o.v.g, .str o.v.s, .sl .any 6 (o.v.l.map V.row), .sl .any 7 (o.v.d.map Bf)]:=by
 rw [Gr,Co]
theorem Aiq(l:List Ob)(i:Nat)(h:i<l.length):(obs l).getD i []=Gr (Kr l i):=by simp [Kr,List.getD_eq_getElem?_getD,h]
theorem Alj(o:Ob): [.int .i64 (gI (Gr o) 2), .int .i64 (gI (Gr o) 3), .int .i64 (gI (Gr o) 4), .str (gS (Gr o) 5), .sl .any 6 (gR (Gr o) 6), .sl .any 7 (gR (Gr o) 7)]=o.v.row:=by
 rw [Aet,Co];rfl
theorem Bh0(o:Ob): [.int .i64 (gI (Gr o) 0), .int .i64 (gI (Gr o) 1), .int .i64 (gI (Gr o) 2), .int .i64 (gI (Gr o) 3), .int .i64 (gI (Gr o) 4), .str (gS (Gr o) 5), .sl .any 6 (gR (Gr o) 6), .sl .any 7 (gR (Gr o) 7)]=Gr o:=by
 rw [Aet];rfl
theorem Air(o:Ob)(e f:Nat):Bg [.int .i64, .int .i64, .int .i64, .int .i64, .int .i64, .str, .sl 6 e, .sl 7 f] (Gr o)=true:=by
 rw [Aet];rfl
theorem A0q(o:Ob):gI (Gr o) 0=o.n:=by rw [Aet];rfl
theorem Bny(o:Ob):gI (Gr o) 1=o.g:=by rw [Aet];rfl
theorem Auq {l:List Ob} {i:Nat} (h:i<l.length):Kr l i∈l:=by
 have e:Kr l i=l[i]:=by simp [Kr,List.getD_eq_getElem?_getD,h]
 rw [e];exact List.getElem_mem h
theorem Au0(i:Nat)(h:i≤1000000000000):IntKind.i64.wrap ((i:Int)+1)=((i+1:Nat):Int):=by rw [Az _ (by omega) (by omega)];simp
theorem Bju(o:Ob)(hs:Scal o.v)(hc:Ch o.v≤1000):Call E0.P Aeh [.imm (.agg (Gr o))] [] (Is (Bby (Kg o)) []):=by
 have hT:=A6j o.v hs hc
 rw [Co]at hT
 rw [Aet]
 refine Awm _ _ _ _ _ _ _ _ _ (Let.intro (Ef (orB _ _) (fun h=> ?_) fun h=>Yg (p:=o.g=0) Bt (fun h1=> ?_) fun h1=>Call.use hT ⟨⟨rfl,rfl⟩, ?_⟩))
 ·rw [Kg,if_pos h];exact⟨rfl,rfl⟩
 ·rw [Kg,if_neg h,if_pos h1];exact⟨rfl,rfl⟩
 ·rw [tx0,tx1]
  refine Yg (p:=(Aaf o.v).2=0) Bt (fun h2=> ?_) fun h2=>Cc (fun h3=> ?_) fun h3=> ?_
  ·rw [Kg,if_neg h,if_neg (fun h=>h h1),if_pos h2];exact⟨rfl,rfl⟩
  ·rw [Kg,if_neg h,if_neg (fun h=>h h1),if_neg (fun h=>h h2),if_pos (by omega)];exact⟨rfl,rfl⟩
  ·rw [Kg,if_neg h,if_neg (fun h=>h h1),if_neg (fun h=>h h2),if_neg (by omega)];exact⟨by omega,rfl,rfl⟩
theorem A4i(ns:List Int)(hb:∀n∈ns,Qy n):H6 (ns.map Lib.itoa)≤21*ns.length:=by
 induction ns with
 |nil=>simp [H6]
 |cons n ns ih=>
  have h1:=Wv n (hb n List.mem_cons_self).1 (hb n List.mem_cons_self).2
  have h2:=ih fun x hx=>hb x (List.mem_cons_of_mem _ hx)
  simp [H6]at h2 ⊢; omega
theorem A6b(ns:List Int)(hb:∀n∈ns,Qy n)(hl:ns.length≤100000000)(K:Ex→St→Prop)(hK:K (.exit 0) ⟨[(3, .imm (.str (Bi (ns.map Lib.itoa))))],[]⟩):
 ∀(m i:Nat),m+i=ns.length→Q5 (Bi ((ns.map Lib.itoa).take i)) (ints ns) ns.length i K
 |0,i,hm=>by
  refine Acf _ _ _ _ _ ⟨fun h=> ?_,fun _=> ?_⟩
  ·have:=of_decide_eq_true h;omega
  ·rw [List.take_of_length_le (by simp;omega)];exact hK
 |m+1,i,hm=>by
  have hi:i<ns.length:=by omega
  have hsum:=A4i ns hb
  have htk:=Bfn (ns.map Lib.itoa) i
  have hjl:=Aep ((ns.map Lib.itoa).take i)
  have hat:(ints ns).getD (Int.toNat (i:Int)) []=[.int .i64 (ns.getD i 0)]:=ints_at ns i hi
  have hx:Qy (ns.getD i 0):=by
   have e:ns.getD i 0=ns[i]:=by simp [List.getD_eq_getElem?_getD,hi]
   rw [e];exact hb _ (List.getElem_mem hi)
  have hil:=Wv _ hx.1 hx.2
  have hj:=Bei (ns.map Lib.itoa) i (by simpa using hi)
  have hg:(ns.map Lib.itoa)[i]'(by simpa using hi)=Lib.itoa (ns.getD i 0):=by simp [List.getD_eq_getElem?_getD,hi]
  rw [hg]at hj
  have nx:∀t:List UInt8,t++Lib.itoa (ns.getD i 0)=Bi ((ns.map Lib.itoa).take (i+1))→t.length≤21*ns.length+1→Q0 t (ns.getD i 0) (ints ns) ns.length i (Q3 K):=by
   intro t ht htl
   refine Aop _ _ _ _ _ _ (Call.use (Acj _ hx.1 hx.2) ⟨⟨rfl,rfl⟩, ?_⟩)
   rw [show rS (.imm (.str (Lib.itoa (ns.getD i 0))))=Lib.itoa (ns.getD i 0) from rfl,ht]
   refine⟨by omega,Aox _ _ _ _ _ (Amq _ _ _ _ _ ?_)⟩
   rw [Au0 i (by omega)]
   exact Aow _ _ _ _ _ (A6b ns hb hl K hK m (i+1) (by omega))
  refine Acf _ _ _ _ _ ⟨fun _=> ?_,fun h=> ?_⟩
  ·rw [hat]
   rw [Aa9]
   refine⟨⟨⟨by omega,by omega⟩,rfl⟩,Cc (fun h=>⟨by omega, ?_⟩) fun h=> ?_⟩
   ·refine nx _ ?_ (by simp;omega)
    rw [hj,if_pos (by omega)]
   ·refine nx _ ?_ (by omega)
    rw [hj,if_neg (by omega)]
  ·have:=of_decide_eq_false h;omega
theorem Bc6(ns:List Int)(hb:∀n∈ns,Qy n)(hl:ns.length≤100000000):Call E0.P Aa8 [.imm (.sl .any 1 (ints ns))] [] (Is (.imm (.str (Bi (ns.map Lib.itoa)))) []):=by
 refine Ar5 _ _ ?_
 rw [Aa9]
 exact A6b ns hb hl _ (Aov _ _ (Amr _ _ (Aou _ _ ⟨rfl,rfl⟩))) ns.length 0 (by omega)
theorem A3s(k:List UInt8)(n:Int):Call E0.P Tu [.imm (.str k), .imm (.int .i64 n)] [] (Is (.imm (.agg (Bf (k, .mk 2 n 0 [] [] [])))) []):=by
 refine Ar4 _ _ _ ⟨?_,rfl⟩
 rw [I8];rfl
theorem within_iff(v:V)(a b:Int):(bif (bif decide (v.k=2)then decide (a≤v.n)else false)then decide (v.n≤b)else false)=decide (R9 v a b):=by
 unfold R9
 by_cases h1:v.k=2<;>by_cases h2:a≤v.n<;>by_cases h3:v.n≤b<;>simp [h1,h2,h3]
theorem vn(v:V):gI v.row 1=v.n:=by rw [Co];rfl
theorem vs3(v:V):gS v.row 3=v.s:=by rw [Co];rfl
theorem Axv(v:V)(k:Ky):AV.tup [.imm (.agg [.int .i64 (gI (Ad (rT (Y7 v k) 0)) 0), .int .i64 (gI (Ad (rT (Y7 v k) 0)) 1), .int .i64 (gI (Ad (rT (Y7 v k) 0)) 2), .str (gS (Ad (rT (Y7 v k) 0)) 3), .sl .any 6 (gR (Ad (rT (Y7 v k) 0)) 4), .sl .any 7 (gR (Ad (rT (Y7 v k) 0)) 5)]), .imm (.bool (rB (rT (Y7 v k) 1)))]=Y7 v k:=by
 show AV.tup [.imm (.agg [.int .i64 (gI ((Ij v k).getD zero).row 0), .int .i64 (gI ((Ij v k).getD zero).row 1), .int .i64 (gI ((Ij v k).getD zero).row 2), .str (gS ((Ij v k).getD zero).row 3), .sl .any 6 (gR ((Ij v k).getD zero).row 4), .sl .any 7 (gR ((Ij v k).getD zero).row 5)]), .imm (.bool (Ij v k).isSome)]=_
 rw [Aah];rfl
theorem A2g(v:V)(k:Ky):Ad (rT (Y7 v k) 0)=((Ij v k).getD zero).row:=rfl
theorem A3t(v:V)(hf:Fit v)(k:Ky)(a b:Int):Call E0.P Tv [.imm (.agg v.row), .imm (.str k), .imm (.int .i64 a), .imm (.int .i64 b)] [] (Is (.tup [.imm (.int .i64 ((Ij v k).getD zero).n), .imm (.bool (decide (R9 ((Ij v k).getD zero) a b)))]) []):=by
 have hG:=Ba5 v hf k
 rw [Co]at hG ⊢
 refine Ar6 _ _ _ _ _ _ _ _ _ _ (Call.use hG ⟨⟨rfl,(Axv v k).symm⟩, ?_⟩)
 rw [A2g,vk,vn]
 refine Let.intro (Let.intro ⟨?_,rfl⟩)
 rw [within_iff]
end Go.Proofs.Sim.Se
set_option maxRecDepth 100000
namespace Go.Proofs.Sim.Se
open Go Go.Proofs Go.Proofs.Sim Go.Proofs.Sim.Va Go.Proofs.Sim.St Go.Proofs.Sim.Pa Go.RowKit
theorem Bnv(s:List UInt8)(want:Nat):∀(m a:Nat) (acc:List Int),acc.length≤want→(nmL s want m a acc).2=0→(nmL s want m a acc).1.length=want:=by
 intro m
 induction m with
 |zero=>intro a acc _ h;rw [nmL]at h;exact absurd h (by simp)
 |succ m ih=>
  intro a acc ha h
  rw [nmL]at h ⊢
  by_cases h1:(Ak s (a:Int)).e=0
  ·rw [if_neg (fun h=>h h1)]at h ⊢
   by_cases h2:acc.length<want∧(Ak s (a:Int)).k=1
   ·rw [if_pos h2]at h ⊢
    exact ih _ _ (by simp;omega) h
   ·rw [if_neg h2]at h ⊢
    by_cases h3:acc.length<want∨(Ak s (a:Int)).k≠0
    ·rw [if_pos h3]at h;exact absurd h (by simp)
    ·rw [if_neg h3];show acc.length=want;omega
  ·rw [if_pos h1]at h;exact absurd h h1
theorem Bo6(a b:Prop) {i:Decidable a} {j:Decidable b} :(bif decide a then decide b else false)=true↔a∧b:=by
 by_cases h:a<;>by_cases h':b<;>simp [h,h']
theorem Bo7(a b:Prop) {i:Decidable a} {j:Decidable b} :(bif decide a then true else !decide b)=true↔a∨¬b:=by
 by_cases h:a<;>by_cases h':b<;>simp [h,h']
theorem Bc1(s:List UInt8)(hs:s.length≤1000000000)(want:Nat)(hw:want≤100000)(Q:AV→Heap→Prop):∀(m a:Nat) (acc:List Int),want+1≤m+acc.length→acc.length≤want→
 Q (.tup [.imm (.sl .any 1 (ints (nmL s want m a acc).1)), .imm (.int .i64 (nmL s want m a acc).2)]) []→Py s want a (ints acc) (Pp Q):=by
 intro m
 induction m with
 |zero=>intro a acc h1 h2;omega
 |succ m ih=>
  intro a acc hm ha hQ
  rw [nmL]at hQ
  refine Anb _ _ _ _ _ (Call.use (Azg s hs a) ⟨⟨rfl,rfl⟩,Yg (p:=(Ak s (a:Int)).e=0) Bt (fun h1=> ?_) fun h1=>Let.intro ?_⟩)
  ·rw [if_pos h1]at hQ
   exact Abd _ _ _ hQ
  ·rw [if_neg (fun h=>h h1)]at hQ
   rw [Aa9]
   refine Ef (p:=(acc.length:Int)<(want:Int)∧(Ak s (a:Int)).k=1) (Bo6 _ _) (fun h2=> ?_) fun h2=>Let.intro (Ef (p:=(acc.length:Int)<(want:Int)∨¬(Ak s (a:Int)).k=0) (Bo7 _ _) (fun h3=> ?_) fun h3=> ?_)
   ·rw [if_pos ⟨by omega,h2.2⟩]at hQ
    refine⟨⟨by omega,by omega⟩, ?_⟩
    have:=ih (Ak s (a:Int)).b (acc++[(Ak s (a:Int)).n]) (by simp;omega) (by simp;omega) hQ
    rw [show ints (acc++[(Ak s (a:Int)).n])=ints acc++[[.int .i64 (Ak s (a:Int)).n]]by simp]at this
    exact this
   ·rw [if_neg (fun h=>h2 ⟨by omega,h.2⟩),if_pos (h3.elim (fun h=> .inl (by omega)) .inr)]at hQ
    exact Abd _ _ _ hQ
   ·rw [not_or,Classical.not_not]at h3
    rw [if_neg (fun h=>h2 ⟨by omega,h.2⟩),if_neg (fun h=>h.elim (fun h=>h3.1 (by omega)) fun h=>h h3.2)]at hQ
    exact Am1 _ _ _ hQ
theorem Bda(s:List UInt8)(hs:s.length≤1000000000)(want:Nat)(hw:want≤100000):Call E0.P Q6 [.imm (.str s), .imm (.int .i64 want)] [] (Is (.tup [.imm (.sl .any 1 (ints (nmL s want (want+1) 0 []).1)), .imm (.int .i64 (nmL s want (want+1) 0 []).2)]) []):=
 Aqy _ _ _ (Bc1 s hs want hw _ (want+1) 0 [] (by simp) (by simp) ⟨rfl,rfl⟩)
abbrev obA(x:List Ob × Int):AV:= .tup [.imm (.sl .any 8 (obs x.1)), .imm (.int .i64 x.2)]
theorem drop2 {l:List Int} {i:Nat} (h:i+1<l.length):l.drop i=l.getD i 0::l.getD (i+1) 0::l.drop (i+2):=by
 rw [List.drop_eq_getElem_cons (by omega),List.drop_eq_getElem_cons (by omega)]
 simp [List.getD_eq_getElem?_getD,show i<l.length by omega,h]
theorem A9z(l:List Int)(he:∃k,l.length=2*k)(hl:l.length≤100000)(body:List UInt8)(hb:body.length≤1000000000)(Q:AV→Heap→Prop):∀(m i:Nat) (last:Option (Int × Int)) (t7 t8:Int) (acc:List Ob),2*m+i=l.length→acc.length≤i→
 (match last with |none=>i=0∧t8= -1 |some y=>0<i∧t7=y.1∧t8=y.2∧0≤y.2)→Q (obA (apL body last (l.drop i) acc)) []→S9 (ints l) body t7 t8 i (obs acc) (Nv Q)
 |0,i,last,t7,t8,acc,hm,hac,hlast,hQ=>by
  refine Ads _ _ _ _ _ _ _ ⟨fun h=> ?_,fun _=> ?_⟩
  ·have:=of_decide_eq_true h
   rw [Aa9]at this;omega
  ·rw [List.drop_of_length_le (by omega)]at hQ
   have e:apL body last [] acc=(acc,0):=by cases last<;>rfl
   rw [e]at hQ
   exact Aq1 _ _ (Aoo _ _ (Aq0 _ _ _ hQ))
 |m+1,i,last,t7,t8,acc,hm,hac,hlast,hQ=>by
  have hi:i+1<l.length:=by omega
  rw [drop2 hi,apL]at hQ
  have w1:IntKind.i64.wrap ((i:Int)+1)=((i+1:Nat):Int):=Au0 i (by omega)
  have w3:IntKind.i64.wrap ((i:Int)+3)=((i+3:Nat):Int):=by rw [Az _ (by omega) (by omega)];simp
  have w2:IntKind.i64.wrap ((i:Int)+2)=((i+2:Nat):Int):=by rw [Az _ (by omega) (by omega)];simp
  have a0:(ints l).getD (Int.toNat (i:Int)) []=[.int .i64 (l.getD i 0)]:=ints_at l i (by omega)
  have a1:(ints l).getD (Int.toNat ((i+1:Nat):Int)) []=[.int .i64 (l.getD (i+1) 0)]:=ints_at l (i+1) hi
  generalize hn:l.getD i 0=n at hQ a0
  generalize hf:l.getD (i+1) 0=f at hQ a1
  refine Ads _ _ _ _ _ _ _ ⟨fun _=> ?_,fun h=> ?_⟩
  ·rw [w1,w3,a0,a1,Aa9]
   refine⟨⟨⟨by omega,by omega⟩,rfl⟩,⟨⟨by omega,by omega⟩,rfl⟩,Let.intro ?_⟩
   have g0:gI [IV.int .i64 n] 0=n:=rfl
   have g1:gI [IV.int .i64 f] 0=f:=rfl
   rw [g0,g1]
   refine Ef (p:=Ag2 (last.map (·.1)) n=true) ?_ (fun h1=> ?_) fun h1=>Let.intro (Ef (orB _ _) (fun h2=> ?_) fun h2=>Let.intro (Let.intro (Let.intro (Ef (p:=Aml last n f=true∨(body.length:Int)<f) ?_ (fun h3=> ?_) fun h3=> ?_))))
   ·cases last with
    |none=>rw [hlast.1];simp [Ag2]
    |some y=>
     obtain⟨q1,q2,_⟩:=hlast
     simp [Ag2,q2];omega
   ·rw [if_pos h1]at hQ
    exact Ot _ _ _ hQ
   ·rw [if_neg h1,if_pos h2]at hQ
    exact Ot _ _ _ hQ
   ·cases last with
    |none=>
     obtain⟨q1,q2⟩:=hlast
     subst q1 q2
     by_cases z:f=0
     ·subst z;simp [Aml]
     ·simp [Aml,z]
    |some y=>
     obtain⟨q1,_,q2,_⟩:=hlast
     have q3:¬i=0:=by omega
     by_cases z:f≤y.2<;>simp [Aml,q3,q2,z]
   ·rw [if_neg h1,if_neg h2,if_pos h3]at hQ
    exact Ot _ _ _ hQ
   ·rw [if_neg h1,if_neg h2,if_neg h3]at hQ
    rw [not_or]at h3
    have hf0:0≤f:=by
     cases last with
     |none=>have:=h3.1;simp [Aml]at this;omega
     |some y=>have:=h3.1;simp [Aml]at this;omega
    have go:∀t:Nat,t=toL body f (l.drop (i+2))→f≤(t:Int)→t≤body.length→Qz (ints l) body n f i n f t (obs acc) (Nw (Nv Q)):=by
     intro t ht h4 h5
     rw [←ht]at hQ
     refine Aom _ _ _ _ _ _ _ _ _ _ ⟨⟨hf0,h4,by omega⟩,Let.intro ?_⟩
     rw [Int.toNat_natCast]
     refine Call.use (Bgb _ (by simp;omega)) ⟨⟨rfl,(show A8s (whA (Abb ((body.take t).drop f.toNat)))=whA (Abb ((body.take t).drop f.toNat)) from Pk ((Abb ((body.take t).drop f.toNat)).1,0,(Abb ((body.take t).drop f.toNat)).2)).symm⟩,Yg (p:=(Abb ((body.take t).drop f.toNat)).2=0) Bt (fun h6=> ?_) fun h6=> ?_⟩
     ·rw [if_pos h6]at hQ
      exact Aq3 _ _ _ (Ot _ _ _ hQ)
     ·rw [if_neg (fun h=>h h6)]at hQ
      refine⟨by rw [I7];omega,Aq4 _ _ _ _ _ _ _ (Aon _ _ _ _ _ _ _ ?_)⟩
      rw [w2]
      refine Aq2 _ _ _ _ _ _ _ ?_
      have:=A9z l he hl body hb Q m (i+2) (some (n,f)) n f (acc++[⟨n,0,(Abb ((body.take t).drop f.toNat)).1⟩]) (by omega) (by simp;omega) ⟨by omega,rfl,rfl,hf0⟩ hQ
      rw [show obs (acc++[⟨n,0,(Abb ((body.take t).drop f.toNat)).1⟩])=obs acc++[Gr ⟨n,0,(Abb ((body.take t).drop f.toNat)).1⟩]by simp]at this
      rw [Gr, ←Aah]at this
      exact this
    have up:((i+3:Nat):Int)<(l.length:Int)→i+3<l.length:=fun h=>by omega
    have a3:i+3<l.length→(ints l).getD (Int.toNat ((i+3:Nat):Int)) []=[.int .i64 (l.getD (i+3) 0)]:=fun h=>ints_at l (i+3) h
    have d3:i+3<l.length→toL body f (l.drop (i+2))=if f≤l.getD (i+3) 0∧l.getD (i+3) 0<(body.length:Int)then(l.getD (i+3) 0).toNat else body.length:=fun h=>by
     rw [drop2 (by omega)];rfl
    have g3:∀x:Int,gI [IV.int .i64 x] 0=x:=fun _=>rfl
    refine⟨fun h=>⟨⟨by omega,by have:=of_decide_eq_true h;omega⟩,by rw [a3 (up (of_decide_eq_true h))];rfl⟩,Let.intro ?_⟩
    by_cases h7:i+3<l.length
    ·rw [a3 h7,g3,decide_eq_true (show((i+3:Nat):Int)<(l.length:Int)by omega)]
     have d:=d3 h7
     generalize l.getD (i+3) 0=f2 at d ⊢
     refine Cc (fun h8=>⟨⟨⟨by omega,by omega⟩,by rfl⟩, ?_⟩) fun h8=> ?_
     ·by_cases h9:f2<(body.length:Int)
      ·rw [if_pos h9]
       rw [if_pos ⟨h8,h9⟩]at d
       have:=go f2.toNat d.symm (by omega) (by omega)
       rw [Int.toNat_of_nonneg (by omega)]at this
       exact this
      ·rw [if_neg h9]
       rw [if_neg (fun h=>h9 h.2)]at d
       exact go body.length d.symm (by omega) (Nat.le_refl _)
     ·rw [if_neg (fun h=>h8 h.1)]at d
      exact go body.length d.symm (by omega) (Nat.le_refl _)
    ·rw [decide_eq_false (show ¬((i+3:Nat):Int)<(l.length:Int)by omega)]
     refine brF (go body.length ?_ (by omega) (Nat.le_refl _))
     obtain⟨k,hk⟩:=he
     rw [List.drop_of_length_le (by omega)]
     rfl
  ·have:=of_decide_eq_false h
   rw [Aa9]at this;omega
theorem Bjt(l:List Int)(he:∃k,l.length=2*k)(hl:l.length≤100000)(body:List UInt8)(hb:body.length≤1000000000):Call E0.P Ac0 [.imm (.sl .any 1 (ints l)), .imm (.str body)] [] (Is (obA (apL body none l [])) []):=by
 obtain⟨k,hk⟩:=he
 exact Avb _ _ _ (A9z l ⟨k,hk⟩ hl body hb _ k 0 none 0 (-1) [] (by omega) (by simp) ⟨rfl,rfl⟩ ⟨rfl,rfl⟩)
theorem Axg(v:V)(hf:Fit v)(hs:v.s.length≤100000000):Call E0.P Ip [.imm (.agg v.row)] [] (Is (obA (Abn v)) []):=by
 have hG:=Ba5 v hf Vu
 have hN:=A3t v hf kN 1 100
 have hF:=A3t v hf Kq 0 v.s.length
 rw [Co]at hG hN hF ⊢
 refine Ar3 _ _ _ _ _ _ _ (Call.use hG ⟨⟨rfl,(Axv v Vu).symm⟩, ?_⟩)
 rw [A2g,vk,vs3]
 refine Let.intro (Let.intro (Ef (p:=v.k≠8∨((Ij v Vu).getD zero).k≠3∨((Ij v Vu).getD zero).s≠Akc) ?_ (fun h=> ?_) fun h=> ?_))
 ·have e: [(79:UInt8),98,106,83,116,109]=Akc:=rfl
  rw [e]
  by_cases h1:v.k=8<;>by_cases h2:((Ij v Vu).getD zero).k=3<;>by_cases h3:((Ij v Vu).getD zero).s=Akc<;>simp [h1,h2,h3]
 ·rw [Abn,if_pos h];exact⟨rfl,rfl⟩
 ·rw [Abn,if_neg h]
  generalize ((Ij v kN).getD zero)=N at hN ⊢
  generalize ((Ij v Kq).getD zero)=F at hF ⊢
  refine Call.use hN ⟨⟨rfl,rfl⟩,Call.use hF ⟨⟨rfl,rfl⟩,Let.intro (Ef (p:=¬R9 N 1 100∨¬R9 F 0 v.s.length) ?_ (fun h=> ?_) fun h=> ?_)⟩⟩
  ·show(bif !decide (R9 N 1 100)then true else !decide (R9 F 0 v.s.length))=true↔_
   by_cases h1:R9 N 1 100<;>by_cases h2:R9 F 0 v.s.length<;>simp [h1,h2]
  ·rw [if_pos h];exact⟨rfl,rfl⟩
  ·rw [if_neg h]
   rw [not_or,Classical.not_not,Classical.not_not]at h
   obtain⟨⟨n1,n2,n3⟩,⟨f1,f2,f3⟩⟩:=h
   refine⟨⟨f2,f3⟩,Let.intro ?_⟩
   have ew:IntKind.i64.wrap (2*N.n)=((2*N.n.toNat:Nat):Int):=by rw [Az _ (by omega) (by omega)];omega
   show Call E0.P Q6 [.imm (.str (v.s.take F.n.toNat)), .imm (.int .i64 (IntKind.i64.wrap (2*N.n)))] [] _
   rw [ew]
   have hl:=Bnv (v.s.take F.n.toNat) (2*N.n.toNat) (2*N.n.toNat+1) 0 [] (by simp)
   have hc:=Bda (v.s.take F.n.toNat) (by simp;omega) (2*N.n.toNat) (by omega)
   unfold Bcx
   generalize nmL (v.s.take F.n.toNat) (2*N.n.toNat) (2*N.n.toNat+1) 0 []=x at hl hc ⊢
   refine Call.use hc ⟨⟨rfl,rfl⟩,Yg (p:=x.2=0) Bt (fun h1=> ?_) fun h1=>⟨⟨f2,f3⟩,Let.intro (Call.use (Bjt x.1 ⟨N.n.toNat,hl h1⟩ (by rw [hl h1];omega) _ (by simp;omega)) ⟨⟨rfl,rfl⟩, ?_⟩)⟩⟩
   ·rw [Bg7,if_pos h1];exact⟨rfl,rfl⟩
   ·rw [Bg7,if_neg (fun h=>h h1)];exact⟨rfl,rfl⟩
end Go.Proofs.Sim.Se
set_option maxRecDepth 100000
namespace Go.Proofs.Sim.Se
open Go Go.Proofs Go.Proofs.Sim Go.Proofs.Sim.Va Go.Proofs.Sim.St Go.Proofs.Sim.Pa Go.RowKit
def Alk(n:Nat)(x:List Int × List UInt8 × Int):V × Int:=if x.2.2≠0 then(zero,x.2.2)else(Dr n x.1 x.2.1,0)
theorem Bh1(l:List Ob)(h:¬(l.length<1∨100<l.length)):Il l=Alk l.length (Qg none [] [] l):=by
 rw [Il,if_neg h];rfl
theorem Bh4(n:Nat)(ns:List Int)(body:List UInt8):(Dr n ns body).row=[.int .i64 8, .int .i64 0, .int .i64 0, .str (Hu ns++body), .sl .any 6 [], .sl .any 7 [Bf (Kq, .mk 2 ((Hu ns).length:Int) 0 [] [] []),Bf (kN, .mk 2 (n:Int) 0 [] [] []),Bf (Vu, .mk 3 0 0 Akc [] [])]]:=by
 rw [Co];rfl
theorem Alm(p:Pr): [.str (gS (Bf p) 0), .int .i64 (gI (Bf p) 1), .int .i64 (gI (Bf p) 2), .int .i64 (gI (Bf p) 3), .str (gS (Bf p) 4), .sl .any 6 (gR (Bf p) 5), .sl .any 7 (gR (Bf p) 6)]=Bf p:=by
 rw [I8];rfl
theorem Be9:Bf (Vu, .mk 3 0 0 Akc [] [])=[.str [84,121,112,101], .int .i64 3, .int .i64 0, .int .i64 0, .str [79,98,106,83,116,109], .sl .any 6 [], .sl .any 7 []]:=by
 rw [I8];rfl
def Bpa(last:Option Int)(l:List Ob)(i:Nat):Prop:=(last=none∧i=0)∨(0<i∧last=some (Kr l (i - 1)).n)
theorem Blx {o:Ob} :(Kg o).1.length≤4097:=by
 unfold Kg
 split
 ·simp
 split
 ·simp
 split
 ·simp
 split
 ·simp
 ·simp;omega
theorem drop1 {l:List Ob} {i:Nat} (h:i<l.length):l.drop i=Kr l i::l.drop (i+1):=by
 rw [List.drop_eq_getElem_cons h]
 simp [Kr,List.getD_eq_getElem?_getD,h]
theorem Bdb(l:List Ob)(_hl:l.length≤100)(ns:List Int)(hn:ns.length≤1000)(hb:∀n∈ns,Qy n)(body:List UInt8)(hbl:body.length≤10000000)(Q:AV→Heap→Prop)(hQ:Q (whA (Dr l.length ns body,0)) []):
 Aai (obs l) body 0 0 0 [] (ints ns) [] [] (Vf Q):=by
 have hs:=A4i ns hb
 have hj:=Aep (ns.map Lib.itoa)
 refine Aql _ _ _ _ _ _ _ _ _ _ (Call.use (Bc6 ns hb (by omega)) ⟨⟨rfl,rfl⟩, ?_⟩)
 rw [show rS (.imm (.str (Bi (ns.map Lib.itoa))))=Bi (ns.map Lib.itoa) from rfl,I7]
 rw [show Bi (ns.map Lib.itoa)++[10]=Hu ns from rfl]
 have hh:(Hu ns).length=(Bi (ns.map Lib.itoa)).length+1:=by simp [Hu]
 refine⟨by omega,Call.use (A3s Kq _) ⟨⟨rfl, ?_⟩,Call.use (A3s kN _) ⟨⟨rfl, ?_⟩,by omega, ?_⟩⟩⟩
 ·show AV.imm (.agg (Bf _))=AV.imm (.agg [.str (gS (Bf _) 0), .int .i64 (gI (Bf _) 1), .int .i64 (gI (Bf _) 2), .int .i64 (gI (Bf _) 3), .str (gS (Bf _) 4), .sl .any 6 (gR (Bf _) 5), .sl .any 7 (gR (Bf _) 6)])
  rw [Alm]
 ·show AV.imm (.agg (Bf _))=AV.imm (.agg [.str (gS (Bf _) 0), .int .i64 (gI (Bf _) 1), .int .i64 (gI (Bf _) 2), .int .i64 (gI (Bf _) 3), .str (gS (Bf _) 4), .sl .any 6 (gR (Bf _) 5), .sl .any 7 (gR (Bf _) 6)])
  rw [Alm]
 ·refine Ar9 _ _ _ _ _ _ _ _ ?_
  have e:whA (Dr l.length ns body,0)= .tup [.imm (.agg [.int .i64 8, .int .i64 0, .int .i64 0, .str (Hu ns++body), .sl .any 6 [], .sl .any 7 [Bf (Kq, .mk 2 ((Hu ns).length:Int) 0 [] [] []),Bf (kN, .mk 2 (l.length:Int) 0 [] [] []),Bf (Vu, .mk 3 0 0 Akc [] [])]]), .imm (.int .i64 0)]:=by
   rw [whA,Bh4]
  rw [e, ←Alm (Kq,_), ←Alm (kN,_),Be9]at hQ
  exact hQ
theorem Bc2(l:List Ob)(hl:l.length≤100)(sc:∀o∈l,Scal o.v∧Ch o.v≤1000∧Qy o.n)(Q:AV→Heap→Prop):∀(m i:Nat) (last:Option Int) (ns:List Int) (body:List UInt8),m+i=l.length→ns.length=2*i→body.length≤4097*i→(∀n∈ns,Qy n)→Bpa last l i→
 Q (whA (Alk l.length (Qg last ns body (l.drop i)))) []→Vk (obs l) body (obs l) l.length i 0 0 0 [] (ints ns) [] [] (Vg Q)
 |0,i,last,ns,body,hm,hn,hbl,hb,hlast,hQ=>by
  refine Afq _ _ _ _ _ _ _ _ _ _ _ _ _ ⟨fun h=> ?_,fun _=> ?_⟩
  ·have:=of_decide_eq_true h;omega
  ·rw [List.drop_of_length_le (by omega),Qg]at hQ
   have e:Alk l.length (ns,body,0)=(Dr l.length ns body,0):=by rw [Alk,if_neg (by simp)]
   rw [e]at hQ
   exact Asa _ _ _ _ _ _ _ _ _ _ (Bdb l hl ns (by omega) hb body (by omega) Q hQ)
 |m+1,i,last,ns,body,hm,hn,hbl,hb,hlast,hQ=>by
  have hi:i<l.length:=by omega
  rw [drop1 hi,Qg]at hQ
  have at0:(obs l).getD (Int.toNat (i:Int)) []=Gr (Kr l i):=Aiq l i hi
  have ho:=sc _ (Auq hi)
  have hx:=Bju (Kr l i) ho.1 ho.2.1
  have hlen:=Blx (o:=Kr l i)
  refine Afq _ _ _ _ _ _ _ _ _ _ _ _ _ ⟨fun _=> ?_,fun h=> ?_⟩
  ·rw [at0,I7,Bh0,A0q]
   have wm:0<i→IntKind.i64.wrap ((i:Int) - 1)=((i - 1:Nat):Int):=fun h=>by rw [Az _ (by omega) (by omega)];omega
   have at1:0<i→(obs l).getD (Int.toNat (((i - 1:Nat)):Int)) []=Gr (Kr l (i - 1)):=fun h=>Aiq l (i - 1) (by omega)
   refine⟨⟨⟨by omega,by omega⟩,Air _ _ _⟩,fun h=> ?_,Let.intro (Ef (p:=Ag2 last (Kr l i).n=true) ?_ (fun h1=> ?_) fun h1=>Call.use hx ⟨⟨rfl,rfl⟩, ?_⟩)⟩
   ·have h:=of_decide_eq_true h
    rw [wm (by omega),at1 (by omega)]
    exact⟨⟨by omega,by omega⟩,Air _ _ _⟩
   ·rcases hlast with ⟨rfl,rfl⟩ |⟨h0,rfl⟩
    ·simp [Ag2]
    ·rw [wm h0,at1 h0,A0q,decide_eq_true (show(0:Int)<(i:Int)by omega)]
     simp [Ag2]
   ·rw [if_pos h1]at hQ
    have e:Alk l.length ([],[],15)=(zero,15):=by rw [Alk,if_pos (by decide)]
    rw [e, ←Aol]at hQ
    exact Afn _ _ _ _ _ _ _ _ hQ
   ·rw [if_neg h1]at hQ
    rw [tx0,tx1]
    refine Yg (p:=(Kg (Kr l i)).2=0) Bt (fun h2=> ?_) fun h2=> ?_
    ·rw [if_pos h2]at hQ
     have e:Alk l.length ([],[],(Kg (Kr l i)).2)=(zero,(Kg (Kr l i)).2):=by rw [Alk,if_pos h2]
     rw [e, ←Aol]at hQ
     exact Afn _ _ _ _ _ _ _ _ hQ
    ·rw [if_neg (fun h=>h h2)]at hQ
     rw [Aa9,Au0 i (by omega)]
     refine⟨⟨by omega,by omega⟩,by omega, ?_⟩
     have:=Bc2 l hl sc Q m (i+1) (some (Kr l i).n) (ns++[(Kr l i).n,(body.length:Int)]) (body++(Kg (Kr l i)).1) (by omega) (by simp;omega) (by simp;omega)
      (fun n hn'=>by
       rcases List.mem_append.1 hn' with h |h
       ·exact hb n h
       ·simp only [List.mem_cons,List.not_mem_nil,or_false]at h
        rcases h with rfl |rfl
        ·exact ho.2.2
        ·exact⟨by omega,by omega⟩)
      (.inr ⟨by omega,by simp⟩) hQ
     rw [show ints (ns++[(Kr l i).n,(body.length:Int)])=ints ns++[[.int .i64 (Kr l i).n],[.int .i64 (body.length:Int)]]by simp]at this
     exact this
  ·have:=of_decide_eq_false h;omega
theorem A6e(l:List Ob)(sc:∀o∈l,Scal o.v∧Ch o.v≤1000∧Qy o.n):Call E0.P Ru [.imm (.sl .any 8 (obs l))] [] (Is (whA (Il l)) []):=by
 refine Awl _ _ ?_
 rw [I7]
 refine Let.intro (Ef (p:=l.length<1∨100<l.length) ?_ (fun h=> ?_) fun h=> ?_)
 ·rw [orB];omega
 ·rw [Il,if_pos h, ←Aol];exact⟨rfl,rfl⟩
 ·rw [Bh1 l h]
  exact Bc2 l (by omega) sc _ l.length 0 none [] [] (by omega) (by simp) (by simp) (fun _ h=>(nomatch h)) (.inl ⟨rfl,rfl⟩) ⟨rfl,rfl⟩
end Go.Proofs.Sim.Se

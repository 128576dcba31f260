import Derived.Test.YtaggabcajidnnaaGreatDoorVaA
import Derived.Lib.ItoaMem
import Derived.Lib.Join
namespace Go.Proofs.Sim.Va
open Go Go.Proofs.Sim Go.Proofs.Sim.St
def Z9(a:Int):Int:=
 if a=0∨a=9∨a=10∨a=12∨a=13∨a=32 then 0
 else if a=40∨a=41∨a=60∨a=62∨a=91∨a=93∨a=123∨a=125∨a=47∨a=37 then 1 else 2
def Agx(n:Nat):UInt8:=[48,49,50,51,52,53,54,55,56,57,65,66,67,68,69,70].getD n 0
def Vy(c:UInt8):Bool:=decide (32≤c.toNat∧c.toNat≤126)
def Azs(c:UInt8):Bool:=decide (32≤c.toNat∧c.toNat≤126∧Z9 (c.toNat:Int)=2∧c.toNat≠35)
def Uc(c:UInt8):List UInt8:=[Agx (c.toNat / 16),Agx (c.toNat % 16)]
def M9(c:UInt8):List UInt8:=if Azs c then [c]else 35::Uc c
def Oc(c:UInt8):List UInt8:=if c=40∨c=41∨c=92 then [92,c]else [c]
def Cr(s:List UInt8):List UInt8:=47::s.flatMap M9
def Axx(s:List UInt8):List UInt8:=s.flatMap Uc++[62]
def Aag(s:List UInt8):List UInt8:=if s.all Vy then 40::s.flatMap Oc++[41]else 60::Axx s
def Bi(l:List (List UInt8)):List UInt8:=Lib.join l [32]
def A02:List UInt8:=[116,114,117,101]
def At3:List UInt8:=[102,97,108,115,101]
def Auy:List UInt8:=[110,117,108,108]
def mkW(k n g:Int)(s:List UInt8)(l:List (List UInt8))(d:List (List UInt8 × List UInt8)):List UInt8:=
 if k=1 then(if n=1 then A02 else At3)else if k=2 then Lib.itoa n else if k=3 then Cr s else if k=4 then Aag s
 else if k=5 then [91]++Bi l++[93]else if k=6 then [60,60]++Bi (d.map fun p=>Bi [Cr p.1,p.2])++[62,62]
 else if k=7 then Bi [Lib.itoa n,Lib.itoa g]++[32,82]else Auy
def V.wr:V→List UInt8
 | .mk k n g s l d=>mkW k n g s (l.attach.map fun⟨v,_h⟩=>V.wr v) (d.attach.map fun⟨p,_h⟩=>(p.1,V.wr p.2))
 termination_by v=>SizeOf.sizeOf v
 decreasing_by
  ·exact At2 _h
  ·exact At1 _h
theorem V3(v:V):v.wr=mkW v.k v.n v.g v.s (v.l.map V.wr) (v.d.map fun p=>(p.1,p.2.wr)):=by
 obtain⟨k,n,g,s,l,d⟩:=v
 rw [V.wr]
 simp only [V.k,V.n,V.g,V.s,V.l,V.d]
 congr 1
 ·apply List.ext_getElem<;>simp
 ·apply List.ext_getElem<;>simp
def hN'(k:Int):Prop:=k=1∨k=2∨k=7
def He(v:V):Prop:=(v.n≠0∧¬(v.k=1∨v.k=2∨v.k=7))∨(v.g≠0∧v.k≠7)∨(v.s≠[]∧¬(v.k=3∨v.k=4∨v.k=8))∨(0<v.l.length∧v.k≠5)∨(0<v.d.length∧¬(v.k=6∨v.k=8))
def Oj(v:V):Prop:=(v.k=1∧v.n≠0∧v.n≠1)∨(v.k=2∧(v.n< -2147483647∨2147483647<v.n))∨(v.k=7∧(v.n<1∨8388607<v.n∨v.g<0∨65535<v.g))
instance (v:V):Decidable (He v):=by unfold He;infer_instance
instance (v:V):Decidable (Oj v):=by unfold Oj;infer_instance
def Wy(v:V)(st:Bool)(w:Int):Int:=
 if(v.k<0∨8<v.k)∨(v.k=8∧st=false)then 10
 else if He v∨(v.k=3∧(0:UInt8)∈v.s)then 4
 else if Oj v then 3
 else if(v.k=3∧127<v.s.length)∨(v.k=4∧65535<v.s.length)then 8
 else if v.k=8∧1048576<v.s.length then 7
 else if(v.k=5∨v.k=6∨v.k=8)∧64≤w then 9 else 0
def Jn(k:Ky):Prop:=127<k.length∨(0:UInt8)∈k
instance (k:Ky):Decidable (Jn k):=by unfold Jn;infer_instance
def Y6:List Int→Int
 | []=>0
 |e::r=>if e≠0 then e else Y6 r
def Akd:List Ky→List (Ky × Int)→Int
 |_,[]=>0
 |seen,(k,e)::r=>if Jn k∨k∈seen then 11 else if e≠0 then e else Akd (seen++[k]) r
def V.chk:V→Bool→Int→Int
 | .mk k n g s l d,st,w=>
   if Wy (.mk k n g s l d) st w≠0 then Wy (.mk k n g s l d) st w
   else if Y6 (l.attach.map fun⟨v,h⟩=>V.chk v false (w+1))≠0 then Y6 (l.attach.map fun⟨v,h⟩=>V.chk v false (w+1))
   else Akd [] (d.attach.map fun⟨p,h⟩=>(p.1,V.chk p.2 false (w+1)))
 termination_by v=>SizeOf.sizeOf v
 decreasing_by
  all_goals first |exact At2 h |exact At1 h
theorem A60(v:V)(st:Bool)(w:Int):v.chk st w=if Wy v st w≠0 then Wy v st w
 else if Y6 (v.l.map fun x=>x.chk false (w+1))≠0 then Y6 (v.l.map fun x=>x.chk false (w+1))
 else Akd [] (v.d.map fun p=>(p.1,p.2.chk false (w+1))):=by
 obtain⟨k,n,g,s,l,d⟩:=v
 rw [V.chk]
 simp only [V.l,V.d]
 have e1:(l.attach.map fun⟨v,h⟩=>V.chk v false (w+1))=l.map fun x=>x.chk false (w+1):=by apply List.ext_getElem<;>simp
 have e2:(d.attach.map fun⟨p,h⟩=>(p.1,V.chk p.2 false (w+1)))=d.map fun p=>(p.1,p.2.chk false (w+1)):=by apply List.ext_getElem<;>simp
 rw [e1,e2]
 rfl
def Aaf(v:V):List UInt8 × Int:=if v.chk false 0≠0 then([],v.chk false 0)else(v.plain.wr,0)
end Go.Proofs.Sim.Va

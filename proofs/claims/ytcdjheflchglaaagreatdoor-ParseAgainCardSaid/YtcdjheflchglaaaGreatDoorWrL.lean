import Derived.Test.YtcdjheflchglaaaGreatDoorVaA
import Derived.Lib.ItoaMem
import Derived.Lib.Join
namespace Go.Proofs.Sim.Va
open Go Go.Proofs.Sim Go.Proofs.Sim.St
def W9(a:Int):Int:=
 if a=0∨a=9∨a=10∨a=12∨a=13∨a=32 then 0
 else if a=40∨a=41∨a=60∨a=62∨a=91∨a=93∨a=123∨a=125∨a=47∨a=37 then 1 else 2
def Acv(n:Nat):UInt8:=[48,49,50,51,52,53,54,55,56,57,65,66,67,68,69,70].getD n 0
def Tc(c:UInt8):Bool:=decide (32≤c.toNat∧c.toNat≤126)
def Arc(c:UInt8):Bool:=decide (32≤c.toNat∧c.toNat≤126∧W9 (c.toNat:Int)=2∧c.toNat≠35)
def Rb(c:UInt8):List UInt8:=[Acv (c.toNat / 16),Acv (c.toNat % 16)]
def Lx(c:UInt8):List UInt8:=if Arc c then [c]else 35::Rb c
def Mv(c:UInt8):List UInt8:=if c=40∨c=41∨c=92 then [92,c]else [c]
def Df(s:List UInt8):List UInt8:=47::s.flatMap Lx
def Ap9(s:List UInt8):List UInt8:=s.flatMap Rb++[62]
def Xe(s:List UInt8):List UInt8:=if s.all Tc then 40::s.flatMap Mv++[41]else 60::Ap9 s
def Ch(l:List (List UInt8)):List UInt8:=Lib.join l [32]
def Asi:List UInt8:=[116,114,117,101]
def Am5:List UInt8:=[102,97,108,115,101]
def An1:List UInt8:=[110,117,108,108]
def mkW(k n g:Int)(s:List UInt8)(l:List (List UInt8))(d:List (List UInt8 × List UInt8)):List UInt8:=
 if k=1 then(if n=1 then Asi else Am5)else if k=2 then Lib.itoa n else if k=3 then Df s else if k=4 then Xe s
 else if k=5 then [91]++Ch l++[93]else if k=6 then [60,60]++Ch (d.map fun p=>Ch [Df p.1,p.2])++[62,62]
 else if k=7 then Ch [Lib.itoa n,Lib.itoa g]++[32,82]else An1
def V.wr:V→List UInt8
 | .mk k n g s l d=>mkW k n g s (l.attach.map fun⟨v,_h⟩=>V.wr v) (d.attach.map fun⟨p,_h⟩=>(p.1,V.wr p.2))
 termination_by v=>SizeOf.sizeOf v
 decreasing_by
  ·exact Am4 _h
  ·exact Am3 _h
theorem Tf(v:V):v.wr=mkW v.k v.n v.g v.s (v.l.map V.wr) (v.d.map fun p=>(p.1,p.2.wr)):=by
 obtain⟨k,n,g,s,l,d⟩:=v
 rw [V.wr]
 simp only [V.k,V.n,V.g,V.s,V.l,V.d]
 congr 1
 ·apply List.ext_getElem<;>simp
 ·apply List.ext_getElem<;>simp
def hN'(k:Int):Prop:=k=1∨k=2∨k=7
def Hr(v:V):Prop:=(v.n≠0∧¬(v.k=1∨v.k=2∨v.k=7))∨(v.g≠0∧v.k≠7)∨(v.s≠[]∧¬(v.k=3∨v.k=4∨v.k=8))∨(0<v.l.length∧v.k≠5)∨(0<v.d.length∧¬(v.k=6∨v.k=8))
def Nt(v:V):Prop:=(v.k=1∧v.n≠0∧v.n≠1)∨(v.k=2∧(v.n< -2147483647∨2147483647<v.n))∨(v.k=7∧(v.n<1∨8388607<v.n∨v.g<0∨65535<v.g))
instance (v:V):Decidable (Hr v):=by unfold Hr;infer_instance
instance (v:V):Decidable (Nt v):=by unfold Nt;infer_instance
def X7(v:V)(st:Bool)(w:Int):Int:=
 if(v.k<0∨8<v.k)∨(v.k=8∧st=false)then 10
 else if Hr v∨(v.k=3∧(0:UInt8)∈v.s)then 4
 else if Nt v then 3
 else if(v.k=3∧127<v.s.length)∨(v.k=4∧65535<v.s.length)then 8
 else if v.k=8∧1048576<v.s.length then 7
 else if(v.k=5∨v.k=6∨v.k=8)∧64≤w then 9 else 0
def Ii(k:Ky):Prop:=127<k.length∨(0:UInt8)∈k
instance (k:Ky):Decidable (Ii k):=by unfold Ii;infer_instance
def X5:List Int→Int
 | []=>0
 |e::r=>if e≠0 then e else X5 r
def Ahe:List Ky→List (Ky × Int)→Int
 |_,[]=>0
 |seen,(k,e)::r=>if Ii k∨k∈seen then 11 else if e≠0 then e else Ahe (seen++[k]) r
def V.chk:V→Bool→Int→Int
 | .mk k n g s l d,st,w=>
   if X7 (.mk k n g s l d) st w≠0 then X7 (.mk k n g s l d) st w
   else if X5 (l.attach.map fun⟨v,h⟩=>V.chk v false (w+1))≠0 then X5 (l.attach.map fun⟨v,h⟩=>V.chk v false (w+1))
   else Ahe [] (d.attach.map fun⟨p,h⟩=>(p.1,V.chk p.2 false (w+1)))
 termination_by v=>SizeOf.sizeOf v
 decreasing_by
  all_goals first |exact Am4 h |exact Am3 h
theorem A2j(v:V)(st:Bool)(w:Int):v.chk st w=if X7 v st w≠0 then X7 v st w
 else if X5 (v.l.map fun x=>x.chk false (w+1))≠0 then X5 (v.l.map fun x=>x.chk false (w+1))
 else Ahe [] (v.d.map fun p=>(p.1,p.2.chk false (w+1))):=by
 obtain⟨k,n,g,s,l,d⟩:=v
 rw [V.chk]
 simp only [V.l,V.d]
 have e1:(l.attach.map fun⟨v,h⟩=>V.chk v false (w+1))=l.map fun x=>x.chk false (w+1):=by apply List.ext_getElem<;>simp
 have e2:(d.attach.map fun⟨p,h⟩=>(p.1,V.chk p.2 false (w+1)))=d.map fun p=>(p.1,p.2.chk false (w+1)):=by apply List.ext_getElem<;>simp
 rw [e1,e2]
 rfl
def Av3(v:V):List UInt8 × Int:=if v.chk false 0≠0 then([],v.chk false 0)else(v.plain.wr,0)
end Go.Proofs.Sim.Va

import Derived.Test.YtcdjheflchglaaaVaA
import Derived.Lib.ItoaMem
import Derived.Lib.Join
namespace Go.Proofs.Sim.Va
open Go Go.Proofs.Sim Go.Proofs.Sim.St
def R6(a:Int):Int:=
 if a=0∨a=9∨a=10∨a=12∨a=13∨a=32 then 0
 else if a=40∨a=41∨a=60∨a=62∨a=91∨a=93∨a=123∨a=125∨a=47∨a=37 then 1 else 2
def Bce(n:Nat):UInt8:=[48,49,50,51,52,53,54,55,56,57,65,66,67,68,69,70].getD n 0
def Bey(c:UInt8):Bool:=decide (32≤c.toNat∧c.toNat≤126)
def Bed(c:UInt8):Bool:=decide (32≤c.toNat∧c.toNat≤126∧R6 (c.toNat:Int)=2∧c.toNat≠35)
def Bdx(c:UInt8):List UInt8:=[Bce (c.toNat / 16),Bce (c.toNat % 16)]
def Beo(c:UInt8):List UInt8:=if Bed c then [c]else 35::Bdx c
def Bfb(c:UInt8):List UInt8:=if c=40∨c=41∨c=92 then [92,c]else [c]
def A99(s:List UInt8):List UInt8:=47::s.flatMap Beo
def Be5(s:List UInt8):List UInt8:=s.flatMap Bdx++[62]
def Bel(s:List UInt8):List UInt8:=if s.all Bey then 40::s.flatMap Bfb++[41]else 60::Be5 s
def Ayv(l:List (List UInt8)):List UInt8:=Lib.join l [32]
def Beu:List UInt8:=[116,114,117,101]
def Bc0:List UInt8:=[102,97,108,115,101]
def Bex:List UInt8:=[110,117,108,108]
def mkW(k n g:Int)(s:List UInt8)(l:List (List UInt8))(d:List (List UInt8 × List UInt8)):List UInt8:=
 if k=1 then(if n=1 then Beu else Bc0)else if k=2 then Lib.itoa n else if k=3 then A99 s else if k=4 then Bel s
 else if k=5 then [91]++Ayv l++[93]else if k=6 then [60,60]++Ayv (d.map fun p=>Ayv [A99 p.1,p.2])++[62,62]
 else if k=7 then Ayv [Lib.itoa n,Lib.itoa g]++[32,82]else Bex
def V.wr:V→List UInt8
 | .mk k n g s l d=>mkW k n g s (l.attach.map fun⟨v,_h⟩=>V.wr v) (d.attach.map fun⟨p,_h⟩=>(p.1,V.wr p.2))
 termination_by v=>SizeOf.sizeOf v
 decreasing_by
  ·exact A0i _h
  ·exact A1o _h
def A6o(v:V):Prop:=(v.n≠0∧¬(v.k=1∨v.k=2∨v.k=7))∨(v.g≠0∧v.k≠7)∨(v.s≠[]∧¬(v.k=3∨v.k=4∨v.k=8))∨(0<v.l.length∧v.k≠5)∨(0<v.d.length∧¬(v.k=6∨v.k=8))
def Bd0(v:V):Prop:=(v.k=1∧v.n≠0∧v.n≠1)∨(v.k=2∧(v.n< -2147483647∨2147483647<v.n))∨(v.k=7∧(v.n<1∨8388607<v.n∨v.g<0∨65535<v.g))
instance (v:V):Decidable (A6o v):=by unfold A6o;infer_instance
instance (v:V):Decidable (Bd0 v):=by unfold Bd0;infer_instance
def A60(k:Ky):Prop:=127<k.length∨(0:UInt8)∈k
instance (k:Ky):Decidable (A60 k):=by unfold A60;infer_instance
end Go.Proofs.Sim.Va

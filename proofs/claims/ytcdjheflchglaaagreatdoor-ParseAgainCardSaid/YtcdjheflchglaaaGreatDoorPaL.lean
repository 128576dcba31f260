import Derived.Test.YtcdjheflchglaaaGreatDoorWrL
import Derived.Test.YtcdjheflchglaaaGreatDoorDgL
namespace Go.Proofs.Sim.Pa
open Go Go.Proofs Go.Proofs.Sim Go.Proofs.Sim.Va Go.Proofs.Sim.Se
def kd(c:UInt8):Int:=W9 (c.toNat:Int)
def Cq(c:UInt8):Int:=
 if 48≤c.toNat∧c.toNat≤57 then(c.toNat:Int) - 48
 else if 65≤c.toNat∧c.toNat≤70 then(c.toNat:Int) - 55
 else if 97≤c.toNat∧c.toNat≤102 then(c.toNat:Int) - 87 else -1
def O1:List UInt8→Nat
 | []=>0
 |c::r=>if c.toNat=10 then 1 else if c.toNat=13 then(match r with |d::_=>if d.toNat=10 then 2 else 1 | []=>1)else 0
theorem Aav(c:UInt8)(r:List UInt8):O1 (c::r)=if c.toNat=10 then 1 else if c.toNat=13 then(match r with |d::_=>if d.toNat=10 then 2 else 1 | []=>1)else 0:=by cases r<;>rfl
def Ct(k:Int):List UInt8→Nat
 | []=>0
 |c::r=>if kd c=k then Ct k r+1 else 0
def L8(note:Bool)(c:UInt8):Bool:=if c.toNat=10∨c.toNat=13 then false else if c.toNat=37 then true else note
def El:Bool→List UInt8→Nat
 |_,[]=>0
 |note,c::r=>if L8 note c=false∧kd c≠0 then 0 else El (L8 note c) r+1
abbrev Part:=List UInt8 × Nat × Int
def Tu(n:Int):UInt8:=UInt8.ofNat n.toNat
def nameL:List UInt8→List UInt8→Nat→Part
 | [],out,a=>(out,a,0)
 |c::r,out,a=>if kd c=2 then
   (if c.toNat=35 then(match r with
    |h::l::r'=>if Cq h<0∨Cq l<0∨Cq h+Cq l=0 then([],0,4)
      else if 127≤out.length then([],0,8)else nameL r' (out++[Tu (16*Cq h+Cq l)]) (a+3)
    |_=>([],0,4))
   else if 127≤out.length then([],0,8)else nameL r (out++[c]) (a+1))
  else(out,a,0)
def Ajh(c:UInt8):Bool:=decide (48≤c.toNat) && decide (c.toNat≤55)
def Kc:Nat→List UInt8→Nat→Nat × Nat
 |0,_,acc=>(acc,0)
 |_+1,[],acc=>(acc,0)
 |k+1,c::r,acc=>if Ajh c then((Kc k r (8*acc+(c.toNat - 48))).1,(Kc k r (8*acc+(c.toNat - 48))).2+1)else(acc,0)
def Anr(c:UInt8):UInt8:=if c.toNat=110 then 10 else if c.toNat=114 then 13 else if c.toNat=116 then 9 else if c.toNat=98 then 8 else if c.toNat=102 then 12 else c
def Acw:List UInt8→Option (List UInt8 × Nat)
 | []=>none
 |c::r=>if 0<O1 (c::r)then some ([],O1 (c::r))else if Ajh c then some ([UInt8.ofNat (Kc 3 (c::r) 0).1],(Kc 3 (c::r) 0).2)else some ([Anr c],1)
def Gw:Nat→List UInt8→List UInt8→Int→Nat→Part
 |0,_,_,_,_=>([],0,5)
 |_+1,[],_,_,_=>([],0,5)
 |m+1,c::r,out,d,a=>
  if 0<O1 (c::r)then(if 65535≤out.length then([],0,8)else Gw m ((c::r).drop (O1 (c::r))) (out++[10]) d (a+O1 (c::r)))
  else if c.toNat=92 then(match Acw r with |none=>([],0,5) |some (t,k)=>if 65535<out.length+t.length then([],0,8)else Gw m (r.drop k) (out++t) d (a+1+k))
  else if c.toNat=41∧d=1 then(out,a+1,0)
  else if 65535≤out.length then([],0,8)
  else Gw m r (out++[c]) (if c.toNat=40 then d+1 else if c.toNat=41 then d - 1 else d) (a+1)
def Li:List UInt8→Int→List UInt8→Nat→Part
 | [],_,_,_=>([],0,5)
 |c::r,half,out,a=>
  if c.toNat=62 then(if half<0 then(out,a+1,0)else if 65535≤out.length then([],0,8)else(out++[Tu (16*half)],a+1,0))
  else if Cq c<0 then(if kd c=0 then Li r half out (a+1)else([],0,4))
  else if half<0 then Li r (Cq c) out (a+1)
  else if 65535≤out.length then([],0,8)
  else Li r (-1) (out++[Tu (16*half+Cq c)]) (a+1)
structure Tk where
 e:Int
 k:Int
 n:Int
 s:List UInt8
 a:Nat
 b:Nat
def Tt(e:Int):Tk:=⟨e,0,0,[],0,0⟩
def partT(k:Int)(p:Nat)(x:Part):Tk:=if x.2.2=0 then⟨0,k,0,x.1,p,x.2.1⟩else Tt x.2.2
def Nf(l:List UInt8)(p:Nat):Tk:=
 if(Gc (l.take (Ct 2 l))).2=0 then⟨0,1,(Gc (l.take (Ct 2 l))).1,[],p,p+Ct 2 l⟩
 else if(Gc (l.take (Ct 2 l))).2=3 then Tt 3
 else if 127<Ct 2 l then Tt 8 else⟨0,8,0,l.take (Ct 2 l),p,p+Ct 2 l⟩
def Ic(c:UInt8)(r:List UInt8)(p:Nat):Tk:=
 if c.toNat=91 then⟨0,4,0,[],p,p+1⟩
 else if c.toNat=93 then⟨0,5,0,[],p,p+1⟩
 else if c.toNat=47 then partT 2 p (nameL r [] (p+1))
 else if c.toNat=40 then partT 3 p (Gw (r.length+1) r [] 1 (p+1))
 else if c.toNat=60 then(if r.head?=some 60 then⟨0,6,0,[],p,p+2⟩else partT 3 p (Li r (-1) [] (p+1)))
 else if c.toNat=62 then(if r.head?=some 62 then⟨0,7,0,[],p,p+2⟩else Tt 4)
 else if kd c=1 then Tt 4
 else Nf (c::r) p
def M7(s:List UInt8)(a:Int):Nat:=if a<0 then 0 else if(s.length:Int)<a then s.length else a.toNat
def Dl(s:List UInt8)(a:Int):Nat:=M7 s a+El false (s.drop (M7 s a))
def Aj(s:List UInt8)(a:Int):Tk:=match s.drop (Dl s a)with
 | []=>⟨0,0,0,[],Dl s a,Dl s a⟩
 |c::r=>Ic c r (Dl s a)
def Tk.row(t:Tk):List IV:=[.int .i64 t.k, .int .i64 t.n, .str t.s, .int .i64 t.a, .int .i64 t.b]
def J5(e:Int):V × Nat × Int:=(.mk 0 0 0 [] [] [],0,e)
def Oo(s:List UInt8)(a:Nat):Option (Int × Nat):=
 if(Aj s a).e=0∧(Aj s a).k=1 then
  (if(Aj s (Aj s a).b).e=0∧(Aj s (Aj s a).b).k=8∧(Aj s (Aj s a).b).s=[82]then some ((Aj s a).n,(Aj s (Aj s a).b).b)else none)
 else none
def numL(s:List UInt8)(n:Int)(b:Nat):V × Nat × Int:=match Oo s b with
 |none=>(.mk 2 n 0 [] [] [],b,0)
 |some (g,c)=>if n<1∨8388607<n∨g<0∨65535<g then J5 3 else(.mk 7 n g [] [] [],c,0)
def Te(w:List UInt8)(b:Nat):V × Nat × Int:=
 if w=[116,114,117,101]then(.mk 1 1 0 [] [] [],b,0)
 else if w=[102,97,108,115,101]then(.mk 1 0 0 [] [] [],b,0)
 else if w=[110,117,108,108]then(.mk 0 0 0 [] [] [],b,0)else J5 4
def I8(s:List UInt8)(rd:Nat→V × Nat × Int):Nat→Nat→List V→V × Nat × Int
 |0,_,_=>J5 5
 |m+1,a,acc=>if(Aj s a).e≠0 then J5 (Aj s a).e
  else if(Aj s a).k=5 then(.mk 5 0 0 [] acc [],(Aj s a).b,0)
  else if(rd a).2.2≠0 then J5 (rd a).2.2 else I8 s rd m (rd a).2.1 (acc++[(rd a).1])
def Im(s:List UInt8)(rd:Nat→V × Nat × Int):Nat→Nat→List Pr→V × Nat × Int
 |0,_,_=>J5 5
 |m+1,a,acc=>if(Aj s a).e≠0 then J5 (Aj s a).e
  else if(Aj s a).k=7 then(.mk 6 0 0 [] [] acc,(Aj s a).b,0)
  else if(Aj s a).k=0 then J5 5
  else if(Aj s a).k≠2 then J5 4
  else if acc.any (fun p=>p.1 == (Aj s a).s)then J5 11
  else if(rd (Aj s a).b).2.2≠0 then J5 (rd (Aj s a).b).2.2 else Im s rd m (rd (Aj s a).b).2.1 (acc++[((Aj s a).s,(rd (Aj s a).b).1)])
def Cy(s:List UInt8):Nat→Nat→Nat→V × Nat × Int
 |0,_,_=>J5 5
 |m+1,w,a=>if(Aj s a).e≠0 then J5 (Aj s a).e
  else if(Aj s a).k=0 then J5 5
  else if(Aj s a).k=1 then numL s (Aj s a).n (Aj s a).b
  else if(Aj s a).k=2 then(.mk 3 0 0 (Aj s a).s [] [],(Aj s a).b,0)
  else if(Aj s a).k=3 then(.mk 4 0 0 (Aj s a).s [] [],(Aj s a).b,0)
  else if(Aj s a).k=8 then Te (Aj s a).s (Aj s a).b
  else if(Aj s a).k=4 then(if 64≤w then J5 9 else I8 s (Cy s m (w+1)) (s.length+1) (Aj s a).b [])
  else if(Aj s a).k=6 then(if 64≤w then J5 9 else Im s (Cy s m (w+1)) (s.length+1) (Aj s a).b [])
  else J5 4
end Go.Proofs.Sim.Pa

import Derived.Test.YtaggabcajidnnaaGreatDoorWrL
import Derived.Test.YtaggabcajidnnaaGreatDoorDgL
namespace Go.Proofs.Sim.Pa
open Go Go.Proofs Go.Proofs.Sim Go.Proofs.Sim.Va Go.Proofs.Sim.Se
def kd(c:UInt8):Int:=Z9 (c.toNat:Int)
def Ck(c:UInt8):Int:=
 if 48≤c.toNat∧c.toNat≤57 then(c.toNat:Int) - 48
 else if 65≤c.toNat∧c.toNat≤70 then(c.toNat:Int) - 55
 else if 97≤c.toNat∧c.toNat≤102 then(c.toNat:Int) - 87 else -1
def Tt:List UInt8→Nat
 | []=>0
 |c::r=>if c.toNat=10 then 1 else if c.toNat=13 then(match r with |d::_=>if d.toNat=10 then 2 else 1 | []=>1)else 0
theorem Aed(c:UInt8)(r:List UInt8):Tt (c::r)=if c.toNat=10 then 1 else if c.toNat=13 then(match r with |d::_=>if d.toNat=10 then 2 else 1 | []=>1)else 0:=by cases r<;>rfl
def Ci(k:Int):List UInt8→Nat
 | []=>0
 |c::r=>if kd c=k then Ci k r+1 else 0
def Nb(note:Bool)(c:UInt8):Bool:=if c.toNat=10∨c.toNat=13 then false else if c.toNat=37 then true else note
def Fj:Bool→List UInt8→Nat
 |_,[]=>0
 |note,c::r=>if Nb note c=false∧kd c≠0 then 0 else Fj (Nb note c) r+1
abbrev Part:=List UInt8 × Nat × Int
def Zo(n:Int):UInt8:=UInt8.ofNat n.toNat
def nameL:List UInt8→List UInt8→Nat→Part
 | [],out,a=>(out,a,0)
 |c::r,out,a=>if kd c=2 then
   (if c.toNat=35 then(match r with
    |h::l::r'=>if Ck h<0∨Ck l<0∨Ck h+Ck l=0 then([],0,4)
      else if 127≤out.length then([],0,8)else nameL r' (out++[Zo (16*Ck h+Ck l)]) (a+3)
    |_=>([],0,4))
   else if 127≤out.length then([],0,8)else nameL r (out++[c]) (a+1))
  else(out,a,0)
def Apk(c:UInt8):Bool:=decide (48≤c.toNat) && decide (c.toNat≤55)
def Ld:Nat→List UInt8→Nat→Nat × Nat
 |0,_,acc=>(acc,0)
 |_+1,[],acc=>(acc,0)
 |k+1,c::r,acc=>if Apk c then((Ld k r (8*acc+(c.toNat - 48))).1,(Ld k r (8*acc+(c.toNat - 48))).2+1)else(acc,0)
def Auo(c:UInt8):UInt8:=if c.toNat=110 then 10 else if c.toNat=114 then 13 else if c.toNat=116 then 9 else if c.toNat=98 then 8 else if c.toNat=102 then 12 else c
def Al7:List UInt8→Option (List UInt8 × Nat)
 | []=>none
 |c::r=>if 0<Tt (c::r)then some ([],Tt (c::r))else if Apk c then some ([UInt8.ofNat (Ld 3 (c::r) 0).1],(Ld 3 (c::r) 0).2)else some ([Auo c],1)
def Jz:Nat→List UInt8→List UInt8→Int→Nat→Part
 |0,_,_,_,_=>([],0,5)
 |_+1,[],_,_,_=>([],0,5)
 |m+1,c::r,out,d,a=>
  if 0<Tt (c::r)then(if 65535≤out.length then([],0,8)else Jz m ((c::r).drop (Tt (c::r))) (out++[10]) d (a+Tt (c::r)))
  else if c.toNat=92 then(match Al7 r with |none=>([],0,5) |some (t,k)=>if 65535<out.length+t.length then([],0,8)else Jz m (r.drop k) (out++t) d (a+1+k))
  else if c.toNat=41∧d=1 then(out,a+1,0)
  else if 65535≤out.length then([],0,8)
  else Jz m r (out++[c]) (if c.toNat=40 then d+1 else if c.toNat=41 then d - 1 else d) (a+1)
def Qr:List UInt8→Int→List UInt8→Nat→Part
 | [],_,_,_=>([],0,5)
 |c::r,half,out,a=>
  if c.toNat=62 then(if half<0 then(out,a+1,0)else if 65535≤out.length then([],0,8)else(out++[Zo (16*half)],a+1,0))
  else if Ck c<0 then(if kd c=0 then Qr r half out (a+1)else([],0,4))
  else if half<0 then Qr r (Ck c) out (a+1)
  else if 65535≤out.length then([],0,8)
  else Qr r (-1) (out++[Zo (16*half+Ck c)]) (a+1)
structure Tk where
 e:Int
 k:Int
 n:Int
 s:List UInt8
 a:Nat
 b:Nat
def Agw(e:Int):Tk:=⟨e,0,0,[],0,0⟩
def partT(k:Int)(p:Nat)(x:Part):Tk:=if x.2.2=0 then⟨0,k,0,x.1,p,x.2.1⟩else Agw x.2.2
def Qk(l:List UInt8)(p:Nat):Tk:=
 if(Gb (l.take (Ci 2 l))).2=0 then⟨0,1,(Gb (l.take (Ci 2 l))).1,[],p,p+Ci 2 l⟩
 else if(Gb (l.take (Ci 2 l))).2=3 then Agw 3
 else if 127<Ci 2 l then Agw 8 else⟨0,8,0,l.take (Ci 2 l),p,p+Ci 2 l⟩
def J2(c:UInt8)(r:List UInt8)(p:Nat):Tk:=
 if c.toNat=91 then⟨0,4,0,[],p,p+1⟩
 else if c.toNat=93 then⟨0,5,0,[],p,p+1⟩
 else if c.toNat=47 then partT 2 p (nameL r [] (p+1))
 else if c.toNat=40 then partT 3 p (Jz (r.length+1) r [] 1 (p+1))
 else if c.toNat=60 then(if r.head?=some 60 then⟨0,6,0,[],p,p+2⟩else partT 3 p (Qr r (-1) [] (p+1)))
 else if c.toNat=62 then(if r.head?=some 62 then⟨0,7,0,[],p,p+2⟩else Agw 4)
 else if kd c=1 then Agw 4
 else Qk (c::r) p
def Ol(s:List UInt8)(a:Int):Nat:=if a<0 then 0 else if(s.length:Int)<a then s.length else a.toNat
def Dl(s:List UInt8)(a:Int):Nat:=Ol s a+Fj false (s.drop (Ol s a))
def Ak(s:List UInt8)(a:Int):Tk:=match s.drop (Dl s a)with
 | []=>⟨0,0,0,[],Dl s a,Dl s a⟩
 |c::r=>J2 c r (Dl s a)
def Tk.row(t:Tk):List IV:=[.int .i64 t.k, .int .i64 t.n, .str t.s, .int .i64 t.a, .int .i64 t.b]
def M7(e:Int):V × Nat × Int:=(.mk 0 0 0 [] [] [],0,e)
def Q7(s:List UInt8)(a:Nat):Option (Int × Nat):=
 if(Ak s a).e=0∧(Ak s a).k=1 then
  (if(Ak s (Ak s a).b).e=0∧(Ak s (Ak s a).b).k=8∧(Ak s (Ak s a).b).s=[82]then some ((Ak s a).n,(Ak s (Ak s a).b).b)else none)
 else none
def numL(s:List UInt8)(n:Int)(b:Nat):V × Nat × Int:=match Q7 s b with
 |none=>(.mk 2 n 0 [] [] [],b,0)
 |some (g,c)=>if n<1∨8388607<n∨g<0∨65535<g then M7 3 else(.mk 7 n g [] [] [],c,0)
def Aik(w:List UInt8)(b:Nat):V × Nat × Int:=
 if w=[116,114,117,101]then(.mk 1 1 0 [] [] [],b,0)
 else if w=[102,97,108,115,101]then(.mk 1 0 0 [] [] [],b,0)
 else if w=[110,117,108,108]then(.mk 0 0 0 [] [] [],b,0)else M7 4
def Q8(s:List UInt8)(rd:Nat→V × Nat × Int):Nat→Nat→List V→V × Nat × Int
 |0,_,_=>M7 5
 |m+1,a,acc=>if(Ak s a).e≠0 then M7 (Ak s a).e
  else if(Ak s a).k=5 then(.mk 5 0 0 [] acc [],(Ak s a).b,0)
  else if(rd a).2.2≠0 then M7 (rd a).2.2 else Q8 s rd m (rd a).2.1 (acc++[(rd a).1])
def P9(s:List UInt8)(rd:Nat→V × Nat × Int):Nat→Nat→List Pr→V × Nat × Int
 |0,_,_=>M7 5
 |m+1,a,acc=>if(Ak s a).e≠0 then M7 (Ak s a).e
  else if(Ak s a).k=7 then(.mk 6 0 0 [] [] acc,(Ak s a).b,0)
  else if(Ak s a).k=0 then M7 5
  else if(Ak s a).k≠2 then M7 4
  else if acc.any (fun p=>p.1 == (Ak s a).s)then M7 11
  else if(rd (Ak s a).b).2.2≠0 then M7 (rd (Ak s a).b).2.2 else P9 s rd m (rd (Ak s a).b).2.1 (acc++[((Ak s a).s,(rd (Ak s a).b).1)])
def Dk(s:List UInt8):Nat→Nat→Nat→V × Nat × Int
 |0,_,_=>M7 5
 |m+1,w,a=>if(Ak s a).e≠0 then M7 (Ak s a).e
  else if(Ak s a).k=0 then M7 5
  else if(Ak s a).k=1 then numL s (Ak s a).n (Ak s a).b
  else if(Ak s a).k=2 then(.mk 3 0 0 (Ak s a).s [] [],(Ak s a).b,0)
  else if(Ak s a).k=3 then(.mk 4 0 0 (Ak s a).s [] [],(Ak s a).b,0)
  else if(Ak s a).k=8 then Aik (Ak s a).s (Ak s a).b
  else if(Ak s a).k=4 then(if 64≤w then M7 9 else Q8 s (Dk s m (w+1)) (s.length+1) (Ak s a).b [])
  else if(Ak s a).k=6 then(if 64≤w then M7 9 else P9 s (Dk s m (w+1)) (s.length+1) (Ak s a).b [])
  else M7 4
end Go.Proofs.Sim.Pa

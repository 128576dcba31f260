import Derived.Test.YtaggabcajidnnaaGreatDoorWrL
import Derived.Test.YtaggabcajidnnaaGreatDoorDgL
namespace Go.Proofs.Sim.Pa
open Go Go.Proofs Go.Proofs.Sim Go.Proofs.Sim.Va Go.Proofs.Sim.Se
def kd(c:UInt8):Int:=Vh (c.toNat:Int)
def Cb(c:UInt8):Int:=
 if 48≤c.toNat∧c.toNat≤57 then(c.toNat:Int) - 48
 else if 65≤c.toNat∧c.toNat≤70 then(c.toNat:Int) - 55
 else if 97≤c.toNat∧c.toNat≤102 then(c.toNat:Int) - 87 else -1
def Qg:List UInt8→Nat
 | []=>0
 |c::r=>if c.toNat=10 then 1 else if c.toNat=13 then(match r with |d::_=>if d.toNat=10 then 2 else 1 | []=>1)else 0
theorem Aoe(c:UInt8)(r:List UInt8):Qg (c::r)=if c.toNat=10 then 1 else if c.toNat=13 then(match r with |d::_=>if d.toNat=10 then 2 else 1 | []=>1)else 0:=by cases r<;>rfl
def Cf(k:Int):List UInt8→Nat
 | []=>0
 |c::r=>if kd c=k then Cf k r+1 else 0
def Kz(note:Bool)(c:UInt8):Bool:=if c.toNat=10∨c.toNat=13 then false else if c.toNat=37 then true else note
def Gl:Bool→List UInt8→Nat
 |_,[]=>0
 |note,c::r=>if Kz note c=false∧kd c≠0 then 0 else Gl (Kz note c) r+1
abbrev Part:=List UInt8 × Nat × Int
def Yc(n:Int):UInt8:=UInt8.ofNat n.toNat
def nameL:List UInt8→List UInt8→Nat→Part
 | [],out,a=>(out,a,0)
 |c::r,out,a=>if kd c=2 then
   (if c.toNat=35 then(match r with
    |h::l::r'=>if Cb h<0∨Cb l<0∨Cb h+Cb l=0 then([],0,4)
      else if 127≤out.length then([],0,8)else nameL r' (out++[Yc (16*Cb h+Cb l)]) (a+3)
    |_=>([],0,4))
   else if 127≤out.length then([],0,8)else nameL r (out++[c]) (a+1))
  else(out,a,0)
def Afk(c:UInt8):Bool:=decide (48≤c.toNat) && decide (c.toNat≤55)
def G5:Nat→List UInt8→Nat→Nat × Nat
 |0,_,acc=>(acc,0)
 |_+1,[],acc=>(acc,0)
 |k+1,c::r,acc=>if Afk c then((G5 k r (8*acc+(c.toNat - 48))).1,(G5 k r (8*acc+(c.toNat - 48))).2+1)else(acc,0)
def Ahg(c:UInt8):UInt8:=if c.toNat=110 then 10 else if c.toNat=114 then 13 else if c.toNat=116 then 9 else if c.toNat=98 then 8 else if c.toNat=102 then 12 else c
def Ac3:List UInt8→Option (List UInt8 × Nat)
 | []=>none
 |c::r=>if 0<Qg (c::r)then some ([],Qg (c::r))else if Afk c then some ([UInt8.ofNat (G5 3 (c::r) 0).1],(G5 3 (c::r) 0).2)else some ([Ahg c],1)
def Mf:Nat→List UInt8→List UInt8→Int→Nat→Part
 |0,_,_,_,_=>([],0,5)
 |_+1,[],_,_,_=>([],0,5)
 |m+1,c::r,out,d,a=>
  if 0<Qg (c::r)then(if 65535≤out.length then([],0,8)else Mf m ((c::r).drop (Qg (c::r))) (out++[10]) d (a+Qg (c::r)))
  else if c.toNat=92 then(match Ac3 r with |none=>([],0,5) |some (t,k)=>if 65535<out.length+t.length then([],0,8)else Mf m (r.drop k) (out++t) d (a+1+k))
  else if c.toNat=41∧d=1 then(out,a+1,0)
  else if 65535≤out.length then([],0,8)
  else Mf m r (out++[c]) (if c.toNat=40 then d+1 else if c.toNat=41 then d - 1 else d) (a+1)
def Rx:List UInt8→Int→List UInt8→Nat→Part
 | [],_,_,_=>([],0,5)
 |c::r,half,out,a=>
  if c.toNat=62 then(if half<0 then(out,a+1,0)else if 65535≤out.length then([],0,8)else(out++[Yc (16*half)],a+1,0))
  else if Cb c<0 then(if kd c=0 then Rx r half out (a+1)else([],0,4))
  else if half<0 then Rx r (Cb c) out (a+1)
  else if 65535≤out.length then([],0,8)
  else Rx r (-1) (out++[Yc (16*half+Cb c)]) (a+1)
structure Tk where
 e:Int
 k:Int
 n:Int
 s:List UInt8
 a:Nat
 b:Nat
def Aq4(e:Int):Tk:=⟨e,0,0,[],0,0⟩
def partT(k:Int)(p:Nat)(x:Part):Tk:=if x.2.2=0 then⟨0,k,0,x.1,p,x.2.1⟩else Aq4 x.2.2
def Ng(l:List UInt8)(p:Nat):Tk:=
 if(H5 (l.take (Cf 2 l))).2=0 then⟨0,1,(H5 (l.take (Cf 2 l))).1,[],p,p+Cf 2 l⟩
 else if(H5 (l.take (Cf 2 l))).2=3 then Aq4 3
 else if 127<Cf 2 l then Aq4 8 else⟨0,8,0,l.take (Cf 2 l),p,p+Cf 2 l⟩
def Qk(c:UInt8)(r:List UInt8)(p:Nat):Tk:=
 if c.toNat=91 then⟨0,4,0,[],p,p+1⟩
 else if c.toNat=93 then⟨0,5,0,[],p,p+1⟩
 else if c.toNat=47 then partT 2 p (nameL r [] (p+1))
 else if c.toNat=40 then partT 3 p (Mf (r.length+1) r [] 1 (p+1))
 else if c.toNat=60 then(if r.head?=some 60 then⟨0,6,0,[],p,p+2⟩else partT 3 p (Rx r (-1) [] (p+1)))
 else if c.toNat=62 then(if r.head?=some 62 then⟨0,7,0,[],p,p+2⟩else Aq4 4)
 else if kd c=1 then Aq4 4
 else Ng (c::r) p
def Lp(s:List UInt8)(a:Int):Nat:=if a<0 then 0 else if(s.length:Int)<a then s.length else a.toNat
def Dp(s:List UInt8)(a:Int):Nat:=Lp s a+Gl false (s.drop (Lp s a))
def Aj(s:List UInt8)(a:Int):Tk:=match s.drop (Dp s a)with
 | []=>⟨0,0,0,[],Dp s a,Dp s a⟩
 |c::r=>Qk c r (Dp s a)
def Tk.row(t:Tk):List IV:=[.int .i64 t.k, .int .i64 t.n, .str t.s, .int .i64 t.a, .int .i64 t.b]
def Kt(e:Int):V × Nat × Int:=(.mk 0 0 0 [] [] [],0,e)
def Zq(s:List UInt8)(a:Nat):Option (Int × Nat):=
 if(Aj s a).e=0∧(Aj s a).k=1 then
  (if(Aj s (Aj s a).b).e=0∧(Aj s (Aj s a).b).k=8∧(Aj s (Aj s a).b).s=[82]then some ((Aj s a).n,(Aj s (Aj s a).b).b)else none)
 else none
def numL(s:List UInt8)(n:Int)(b:Nat):V × Nat × Int:=match Zq s b with
 |none=>(.mk 2 n 0 [] [] [],b,0)
 |some (g,c)=>if n<1∨8388607<n∨g<0∨65535<g then Kt 3 else(.mk 7 n g [] [] [],c,0)
def Ah9(w:List UInt8)(b:Nat):V × Nat × Int:=
 if w=[116,114,117,101]then(.mk 1 1 0 [] [] [],b,0)
 else if w=[102,97,108,115,101]then(.mk 1 0 0 [] [] [],b,0)
 else if w=[110,117,108,108]then(.mk 0 0 0 [] [] [],b,0)else Kt 4
def Vi(s:List UInt8)(rd:Nat→V × Nat × Int):Nat→Nat→List V→V × Nat × Int
 |0,_,_=>Kt 5
 |m+1,a,acc=>if(Aj s a).e≠0 then Kt (Aj s a).e
  else if(Aj s a).k=5 then(.mk 5 0 0 [] acc [],(Aj s a).b,0)
  else if(rd a).2.2≠0 then Kt (rd a).2.2 else Vi s rd m (rd a).2.1 (acc++[(rd a).1])
def U1(s:List UInt8)(rd:Nat→V × Nat × Int):Nat→Nat→List Pr→V × Nat × Int
 |0,_,_=>Kt 5
 |m+1,a,acc=>if(Aj s a).e≠0 then Kt (Aj s a).e
  else if(Aj s a).k=7 then(.mk 6 0 0 [] [] acc,(Aj s a).b,0)
  else if(Aj s a).k=0 then Kt 5
  else if(Aj s a).k≠2 then Kt 4
  else if acc.any (fun p=>p.1 == (Aj s a).s)then Kt 11
  else if(rd (Aj s a).b).2.2≠0 then Kt (rd (Aj s a).b).2.2 else U1 s rd m (rd (Aj s a).b).2.1 (acc++[((Aj s a).s,(rd (Aj s a).b).1)])
def Ea(s:List UInt8):Nat→Nat→Nat→V × Nat × Int
 |0,_,_=>Kt 5
 |m+1,w,a=>if(Aj s a).e≠0 then Kt (Aj s a).e
  else if(Aj s a).k=0 then Kt 5
  else if(Aj s a).k=1 then numL s (Aj s a).n (Aj s a).b
  else if(Aj s a).k=2 then(.mk 3 0 0 (Aj s a).s [] [],(Aj s a).b,0)
  else if(Aj s a).k=3 then(.mk 4 0 0 (Aj s a).s [] [],(Aj s a).b,0)
  else if(Aj s a).k=8 then Ah9 (Aj s a).s (Aj s a).b
  else if(Aj s a).k=4 then(if 64≤w then Kt 9 else Vi s (Ea s m (w+1)) (s.length+1) (Aj s a).b [])
  else if(Aj s a).k=6 then(if 64≤w then Kt 9 else U1 s (Ea s m (w+1)) (s.length+1) (Aj s a).b [])
  else Kt 4
end Go.Proofs.Sim.Pa

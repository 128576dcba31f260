import Derived.Test.YtcdjheflchglaaaDoorWrL
import Derived.Test.YtcdjheflchglaaaDoorDgL
namespace Go.Proofs.Sim.Pa
open Go Go.Proofs Go.Proofs.Sim Go.Proofs.Sim.Va Go.Proofs.Sim.Se
def kd(c:UInt8):Int:=Aaw (c.toNat:Int)
def Abb(c:UInt8):Int:=
 if 48≤c.toNat∧c.toNat≤57 then(c.toNat:Int) - 48
 else if 65≤c.toNat∧c.toNat≤70 then(c.toNat:Int) - 55
 else if 97≤c.toNat∧c.toNat≤102 then(c.toNat:Int) - 87 else -1
def Aiq:List UInt8→Nat
 | []=>0
 |c::r=>if c.toNat=10 then 1 else if c.toNat=13 then(match r with |d::_=>if d.toNat=10 then 2 else 1 | []=>1)else 0
theorem Awx(c:UInt8)(r:List UInt8):Aiq (c::r)=if c.toNat=10 then 1 else if c.toNat=13 then(match r with |d::_=>if d.toNat=10 then 2 else 1 | []=>1)else 0:=by cases r<;>rfl
def U5(k:Int):List UInt8→Nat
 | []=>0
 |c::r=>if kd c=k then U5 k r+1 else 0
def An9(note:Bool)(c:UInt8):Bool:=if c.toNat=10∨c.toNat=13 then false else if c.toNat=37 then true else note
def Ag0:Bool→List UInt8→Nat
 |_,[]=>0
 |note,c::r=>if An9 note c=false∧kd c≠0 then 0 else Ag0 (An9 note c) r+1
abbrev Part:=List UInt8 × Nat × Int
def byB(n:Int):UInt8:=UInt8.ofNat n.toNat
def nameL:List UInt8→List UInt8→Nat→Part
 | [],out,a=>(out,a,0)
 |c::r,out,a=>if kd c=2 then
   (if c.toNat=35 then(match r with
    |h::l::r'=>if Abb h<0∨Abb l<0∨Abb h+Abb l=0 then([],0,4)
      else if 127≤out.length then([],0,8)else nameL r' (out++[byB (16*Abb h+Abb l)]) (a+3)
    |_=>([],0,4))
   else if 127≤out.length then([],0,8)else nameL r (out++[c]) (a+1))
  else(out,a,0)
def Aye(c:UInt8):Bool:=decide (48≤c.toNat) && decide (c.toNat≤55)
def Atb:Nat→List UInt8→Nat→Nat × Nat
 |0,_,acc=>(acc,0)
 |_+1,[],acc=>(acc,0)
 |k+1,c::r,acc=>if Aye c then((Atb k r (8*acc+(c.toNat - 48))).1,(Atb k r (8*acc+(c.toNat - 48))).2+1)else(acc,0)
def Azu(c:UInt8):UInt8:=if c.toNat=110 then 10 else if c.toNat=114 then 13 else if c.toNat=116 then 9 else if c.toNat=98 then 8 else if c.toNat=102 then 12 else c
def Awy:List UInt8→Option (List UInt8 × Nat)
 | []=>none
 |c::r=>if 0<Aiq (c::r)then some ([],Aiq (c::r))else if Aye c then some ([UInt8.ofNat (Atb 3 (c::r) 0).1],(Atb 3 (c::r) 0).2)else some ([Azu c],1)
def U6:Nat→List UInt8→List UInt8→Int→Nat→Part
 |0,_,_,_,_=>([],0,5)
 |_+1,[],_,_,_=>([],0,5)
 |m+1,c::r,out,d,a=>
  if 0<Aiq (c::r)then(if 65535≤out.length then([],0,8)else U6 m ((c::r).drop (Aiq (c::r))) (out++[10]) d (a+Aiq (c::r)))
  else if c.toNat=92 then(match Awy r with |none=>([],0,5) |some (t,k)=>if 65535<out.length+t.length then([],0,8)else U6 m (r.drop k) (out++t) d (a+1+k))
  else if c.toNat=41∧d=1 then(out,a+1,0)
  else if 65535≤out.length then([],0,8)
  else U6 m r (out++[c]) (if c.toNat=40 then d+1 else if c.toNat=41 then d - 1 else d) (a+1)
def Acv:List UInt8→Int→List UInt8→Nat→Part
 | [],_,_,_=>([],0,5)
 |c::r,half,out,a=>
  if c.toNat=62 then(if half<0 then(out,a+1,0)else if 65535≤out.length then([],0,8)else(out++[byB (16*half)],a+1,0))
  else if Abb c<0 then(if kd c=0 then Acv r half out (a+1)else([],0,4))
  else if half<0 then Acv r (Abb c) out (a+1)
  else if 65535≤out.length then([],0,8)
  else Acv r (-1) (out++[byB (16*half+Abb c)]) (a+1)
structure Tk where
 e:Int
 k:Int
 n:Int
 s:List UInt8
 a:Nat
 b:Nat
def Ail(e:Int):Tk:=⟨e,0,0,[],0,0⟩
def partT(k:Int)(p:Nat)(x:Part):Tk:=if x.2.2=0 then⟨0,k,0,x.1,p,x.2.1⟩else Ail x.2.2
def Aod(l:List UInt8)(p:Nat):Tk:=
 if(Jq (l.take (U5 2 l))).2=0 then⟨0,1,(Jq (l.take (U5 2 l))).1,[],p,p+U5 2 l⟩
 else if(Jq (l.take (U5 2 l))).2=3 then Ail 3
 else if 127<U5 2 l then Ail 8 else⟨0,8,0,l.take (U5 2 l),p,p+U5 2 l⟩
def Wh(c:UInt8)(r:List UInt8)(p:Nat):Tk:=
 if c.toNat=91 then⟨0,4,0,[],p,p+1⟩
 else if c.toNat=93 then⟨0,5,0,[],p,p+1⟩
 else if c.toNat=47 then partT 2 p (nameL r [] (p+1))
 else if c.toNat=40 then partT 3 p (U6 (r.length+1) r [] 1 (p+1))
 else if c.toNat=60 then(if r.head?=some 60 then⟨0,6,0,[],p,p+2⟩else partT 3 p (Acv r (-1) [] (p+1)))
 else if c.toNat=62 then(if r.head?=some 62 then⟨0,7,0,[],p,p+2⟩else Ail 4)
 else if kd c=1 then Ail 4
 else Aod (c::r) p
def plc(s:List UInt8)(a:Int):Nat:=if a<0 then 0 else if(s.length:Int)<a then s.length else a.toNat
def Rp(s:List UInt8)(a:Int):Nat:=plc s a+Ag0 false (s.drop (plc s a))
def A9(s:List UInt8)(a:Int):Tk:=match s.drop (Rp s a)with
 | []=>⟨0,0,0,[],Rp s a,Rp s a⟩
 |c::r=>Wh c r (Rp s a)
def Tk.row(t:Tk):List IV:=[.int .i64 t.k, .int .i64 t.n, .str t.s, .int .i64 t.a, .int .i64 t.b]
def Ph(e:Int):V × Nat × Int:=(.mk 0 0 0 [] [] [],0,e)
def Yj(s:List UInt8)(a:Nat):Option (Int × Nat):=
 if(A9 s a).e=0∧(A9 s a).k=1 then
  (if(A9 s (A9 s a).b).e=0∧(A9 s (A9 s a).b).k=8∧(A9 s (A9 s a).b).s=[82]then some ((A9 s a).n,(A9 s (A9 s a).b).b)else none)
 else none
def numL(s:List UInt8)(n:Int)(b:Nat):V × Nat × Int:=match Yj s b with
 |none=>(.mk 2 n 0 [] [] [],b,0)
 |some (g,c)=>if n<1∨8388607<n∨g<0∨65535<g then Ph 3 else(.mk 7 n g [] [] [],c,0)
def Ayr(w:List UInt8)(b:Nat):V × Nat × Int:=
 if w=[116,114,117,101]then(.mk 1 1 0 [] [] [],b,0)
 else if w=[102,97,108,115,101]then(.mk 1 0 0 [] [] [],b,0)
 else if w=[110,117,108,108]then(.mk 0 0 0 [] [] [],b,0)else Ph 4
def Ac1(s:List UInt8)(rd:Nat→V × Nat × Int):Nat→Nat→List V→V × Nat × Int
 |0,_,_=>Ph 5
 |m+1,a,acc=>if(A9 s a).e≠0 then Ph (A9 s a).e
  else if(A9 s a).k=5 then(.mk 5 0 0 [] acc [],(A9 s a).b,0)
  else if(rd a).2.2≠0 then Ph (rd a).2.2 else Ac1 s rd m (rd a).2.1 (acc++[(rd a).1])
def Aaq(s:List UInt8)(rd:Nat→V × Nat × Int):Nat→Nat→List Pr→V × Nat × Int
 |0,_,_=>Ph 5
 |m+1,a,acc=>if(A9 s a).e≠0 then Ph (A9 s a).e
  else if(A9 s a).k=7 then(.mk 6 0 0 [] [] acc,(A9 s a).b,0)
  else if(A9 s a).k=0 then Ph 5
  else if(A9 s a).k≠2 then Ph 4
  else if acc.any (fun p=>p.1 == (A9 s a).s)then Ph 11
  else if(rd (A9 s a).b).2.2≠0 then Ph (rd (A9 s a).b).2.2 else Aaq s rd m (rd (A9 s a).b).2.1 (acc++[((A9 s a).s,(rd (A9 s a).b).1)])
def L9(s:List UInt8):Nat→Nat→Nat→V × Nat × Int
 |0,_,_=>Ph 5
 |m+1,w,a=>if(A9 s a).e≠0 then Ph (A9 s a).e
  else if(A9 s a).k=0 then Ph 5
  else if(A9 s a).k=1 then numL s (A9 s a).n (A9 s a).b
  else if(A9 s a).k=2 then(.mk 3 0 0 (A9 s a).s [] [],(A9 s a).b,0)
  else if(A9 s a).k=3 then(.mk 4 0 0 (A9 s a).s [] [],(A9 s a).b,0)
  else if(A9 s a).k=8 then Ayr (A9 s a).s (A9 s a).b
  else if(A9 s a).k=4 then(if 64≤w then Ph 9 else Ac1 s (L9 s m (w+1)) (s.length+1) (A9 s a).b [])
  else if(A9 s a).k=6 then(if 64≤w then Ph 9 else Aaq s (L9 s m (w+1)) (s.length+1) (A9 s a).b [])
  else Ph 4
end Go.Proofs.Sim.Pa

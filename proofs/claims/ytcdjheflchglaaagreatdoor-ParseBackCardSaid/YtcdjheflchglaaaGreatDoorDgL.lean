import Derived.Lib.ItoaMem
import Derived.Lib.AtoiAll
import Derived.Lib.Repeat
import Derived.Lib.Bytealg
import GoSem.Op.String
namespace Go.Proofs.Sim.Se
open Go
def Ro(c:UInt8):Bool:=decide (48≤c.toNat) && decide (c.toNat≤57)
def V6(s:List UInt8):Nat:=(s.takeWhile Ro).length
theorem Qp(c:UInt8):Ro c=true↔48≤c.toNat∧c.toNat≤57:=by simp [Ro]
theorem Ake(s:List UInt8):V6 s=s.length↔∀c∈s,Ro c=true:=by
 induction s with
 |nil=>simp [V6]
 |cons a s ih=>
  unfold V6 at*
  rw [List.takeWhile_cons]
  split
  ·rename_i h;simp [h,ih]
  ·rename_i h;simp [h]
def Ail:Nat→List UInt8→Option Nat
 |acc,[]=>some acc
 |acc,c::r=>if 2147483647<10*acc+(c.toNat - 48)then none else Ail (10*acc+(c.toNat - 48)) r
def A33:Option Nat→Int × Int
 |some v=>((v:Int),0)
 |none=>(0,3)
def Xk(s:List UInt8):Int × Int:=if s=[]∨V6 s≠s.length then(0,4)else A33 (Ail 0 s)
def Q8(acc:Nat)(s:List UInt8):Nat:=s.foldl (fun a c=>10*a+(c.toNat - 48)) acc
theorem Ak2(acc:Nat):Q8 acc []=acc:=by simp only [Q8,List.foldl_nil]
theorem Ul(acc:Nat)(c:UInt8)(r:List UInt8):Q8 acc (c::r)=Q8 (10*acc+(c.toNat - 48)) r:=by simp only [Q8,List.foldl_cons]
theorem A9g(s:List UInt8):∀acc,Q8 acc s=acc*10 ^ s.length+Q8 0 s:=by
 induction s with
 |nil=>intro acc;simp [Ak2]
 |cons c r ih=>
  intro acc
  rw [Ul,ih,Ul,ih (10*0+_),List.length_cons,Nat.pow_succ]
  rw [Nat.add_mul,Nat.add_mul]
  have:10*acc*10 ^ r.length=acc*(10 ^ r.length*10):=by
   rw [Nat.mul_comm 10 acc,Nat.mul_assoc,Nat.mul_comm 10]
  omega
theorem Bb3(s:List UInt8)(acc:Nat):acc≤Q8 acc s:=by
 rw [A9g]
 have:1≤10 ^ s.length:=Nat.one_le_pow _ _ (by decide)
 have:=Nat.mul_le_mul_left acc this
 omega
theorem A2g(s:List UInt8):∀acc,acc≤2147483647→Ail acc s=if Q8 acc s≤2147483647 then some (Q8 acc s)else none:=by
 induction s with
 |nil=>intro acc h;simp [Ail,Q8,h]
 |cons c r ih=>
  intro acc h
  rw [Ail,Ul]
  have:=Bb3 r (10*acc+(c.toNat - 48))
  split
  ·rw [if_neg (by omega)]
  ·rw [ih _ (by omega)]
theorem A2l(s:List UInt8):0≤(Xk s).1∧(Xk s).1≤2147483647:=by
 unfold Xk
 split
 ·simp
 ·rw [A2g s 0 (by omega)]
  by_cases h:Q8 0 s≤2147483647
  ·rw [if_pos h];simp only [A33];omega
  ·rw [if_neg h];simp [A33]
theorem Aqp(s:List UInt8)(h0:s≠[])(hd:∀c∈s,Ro c=true):Xk s=if Q8 0 s≤2147483647 then((Q8 0 s:Int),0)else(0,3):=by
 have:=(Ake s).2 hd
 rw [Xk,if_neg (by rintro(h |h);exact h0 h;exact h this),A2g s 0 (by omega)]
 by_cases h:Q8 0 s≤2147483647
 ·rw [if_pos h,if_pos h];rfl
 ·rw [if_neg h,if_neg h];rfl
theorem A1h(a b:List UInt8):∀acc,Q8 acc (a++b)=Q8 (Q8 acc a) b:=by
 induction a with
 |nil=>intro acc;rw [Ak2];rfl
 |cons c r ih=>intro acc;rw [List.cons_append,Ul,Ul];exact ih _
theorem Aco(d:Nat)(h:d<10):(UInt8.ofNat (48+d)).toNat=48+d:=by
 simp;omega
theorem Aoz(u:Nat):∀c∈Lib.decDigits u,Ro c=true:=by
 induction u using Nat.strongRecOn with
 |_ u ih=>
  intro c hc
  rw [Lib.decDigits]at hc
  split at hc
  ·rename_i h
   rw [List.mem_singleton]at hc
   subst hc
   rw [Qp,Aco u h];omega
  ·rename_i h
   rw [List.mem_append]at hc
   rcases hc with hc |hc
   ·exact ih (u / 10) (by omega) c hc
   ·rw [List.mem_singleton]at hc
    subst hc
    rw [Qp,Aco (u % 10) (by omega)];omega
theorem Aza(u:Nat):Q8 0 (Lib.decDigits u)=u:=by
 induction u using Nat.strongRecOn with
 |_ u ih=>
  rw [Lib.decDigits]
  split
  ·rename_i h
   rw [Ul,Ak2,Aco u h];omega
  ·rename_i h
   rw [A1h,ih (u / 10) (by omega),Ul,Ak2,Aco (u % 10) (by omega)];omega
theorem Auh(u:Nat):Lib.decDigits u≠[]:=by
 intro h
 have:=Lib.decDigits_length u
 have:=Lib.nDigits_pos u
 rw [h]at *; simp at *; omega
theorem Azy(u:Nat)(h:0<u):∀c r,Lib.decDigits u=c::r→c.toNat≠48:=by
 induction u using Nat.strongRecOn with
 |_ u ih=>
  intro c r e
  rw [Lib.decDigits]at e
  split at e
  ·rename_i h10
   injection e with e _
   rw [←e,Aco u h10];omega
  ·rename_i h10
   cases hd:Lib.decDigits (u / 10)with
   |nil=>exact absurd hd (Auh _)
   |cons a b=>
    rw [hd]at e
    injection e with e _
    subst e
    exact ih (u / 10) (by omega) (by omega) a b hd
def Zu(s:List UInt8):List UInt8:=match s with |c::r=>if c.toNat=45 then r else c::r | []=>[]
def isM(s:List UInt8):Bool:=match s with |c::_=>decide (c.toNat=45) | []=>false
def Oi(s:List UInt8):List UInt8:=match s with |c::r=>if c.toNat=43∨c.toNat=45 then r else c::r | []=>[]
def Gg(s:List UInt8):Int × Int:=(if isM s then -(Xk (Oi s)).1 else(Xk (Oi s)).1,(Xk (Oi s)).2)
def Bdr:List UInt8:=[57,50,50,51,51,55,50,48,51,54,56,53,52,55,55,53,56,48,55]
def Bdx:List UInt8:=[57,50,50,51,51,55,50,48,51,54,56,53,52,55,55,53,56,48,56]
def Ayf(s:List UInt8):Bool:=decide (Zu s=[]) || decide (19<(Zu s).length) || decide (V6 (Zu s)≠(Zu s).length)
def Ayk(s:List UInt8):Int × Int:=
 if(Zu s).length=19∧¬(Op.bytesLess (Zu s) (if isM s then Bdx else Bdr) || Zu s == (if isM s then Bdx else Bdr))=true then(0,4)else Gg s
def At5(s:List UInt8):Int × Int:=
 if Ayf s=true then(0,4)
 else if((Zu s).getD 0 0).toNat=48∧s≠[48]then(0,4)
 else Ayk s
end Go.Proofs.Sim.Se

import Derived.Lib.ItoaMem
import Derived.Lib.AtoiAll
import Derived.Lib.Repeat
import Derived.Lib.Bytealg
import GoSem.Op.String
namespace Go.Proofs.Sim.Se
open Go
def U0(c:UInt8):Bool:=decide (48≤c.toNat) && decide (c.toNat≤57)
def Qu(s:List UInt8):Nat:=(s.takeWhile U0).length
theorem Tj(c:UInt8):U0 c=true↔48≤c.toNat∧c.toNat≤57:=by simp [U0]
theorem A1i(s:List UInt8):Qu s=s.length↔∀c∈s,U0 c=true:=by
 induction s with
 |nil=>simp [Qu]
 |cons a s ih=>
  unfold Qu at*
  rw [List.takeWhile_cons]
  split
  ·rename_i h;simp [h,ih]
  ·rename_i h;simp [h]
def Zb:Nat→List UInt8→Option Nat
 |acc,[]=>some acc
 |acc,c::r=>if 2147483647<10*acc+(c.toNat - 48)then none else Zb (10*acc+(c.toNat - 48)) r
def A0q:Option Nat→Int × Int
 |some v=>((v:Int),0)
 |none=>(0,3)
def Qn(s:List UInt8):Int × Int:=if s=[]∨Qu s≠s.length then(0,4)else A0q (Zb 0 s)
def Acv(acc:Nat)(s:List UInt8):Nat:=s.foldl (fun a c=>10*a+(c.toNat - 48)) acc
theorem A8r(acc:Nat):Acv acc []=acc:=by simp only [Acv,List.foldl_nil]
theorem An2(acc:Nat)(c:UInt8)(r:List UInt8):Acv acc (c::r)=Acv (10*acc+(c.toNat - 48)) r:=by simp only [Acv,List.foldl_cons]
theorem A9l(s:List UInt8):∀acc,Acv acc s=acc*10 ^ s.length+Acv 0 s:=by
 induction s with
 |nil=>intro acc;simp [A8r]
 |cons c r ih=>
  intro acc
  rw [An2,ih,An2,ih (10*0+_),List.length_cons,Nat.pow_succ]
  rw [Nat.add_mul,Nat.add_mul]
  have:10*acc*10 ^ r.length=acc*(10 ^ r.length*10):=by
   rw [Nat.mul_comm 10 acc,Nat.mul_assoc,Nat.mul_comm 10]
  omega
theorem Bb6(s:List UInt8)(acc:Nat):acc≤Acv acc s:=by
 rw [A9l]
 have:1≤10 ^ s.length:=Nat.one_le_pow _ _ (by decide)
 have:=Nat.mul_le_mul_left acc this
 omega
theorem Bbs(s:List UInt8):∀acc,acc≤2147483647→Zb acc s=if Acv acc s≤2147483647 then some (Acv acc s)else none:=by
 induction s with
 |nil=>intro acc h;simp [Zb,Acv,h]
 |cons c r ih=>
  intro acc h
  rw [Zb,An2]
  have:=Bb6 r (10*acc+(c.toNat - 48))
  split
  ·rw [if_neg (by omega)]
  ·rw [ih _ (by omega)]
theorem Bb3(s:List UInt8):0≤(Qn s).1∧(Qn s).1≤2147483647:=by
 unfold Qn
 split
 ·simp
 ·rw [Bbs s 0 (by omega)]
  by_cases h:Acv 0 s≤2147483647
  ·rw [if_pos h];simp only [A0q];omega
  ·rw [if_neg h];simp [A0q]
def isM(s:List UInt8):Bool:=match s with |c::_=>decide (c.toNat=45) | []=>false
def Jc(s:List UInt8):List UInt8:=match s with |c::r=>if c.toNat=43∨c.toNat=45 then r else c::r | []=>[]
def I4(s:List UInt8):Int × Int:=(if isM s then -(Qn (Jc s)).1 else(Qn (Jc s)).1,(Qn (Jc s)).2)
end Go.Proofs.Sim.Se

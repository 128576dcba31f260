import Derived.Lib.ItoaMem
import Derived.Lib.AtoiAll
import Derived.Lib.Repeat
import Derived.Lib.Bytealg
import GoSem.Op.String
namespace Go.Proofs.Sim.Se
open Go
def Zo(c:UInt8):Bool:=decide (48≤c.toNat) && decide (c.toNat≤57)
def U0(s:List UInt8):Nat:=(s.takeWhile Zo).length
theorem Yk(c:UInt8):Zo c=true↔48≤c.toNat∧c.toNat≤57:=by simp [Zo]
theorem Bgr(s:List UInt8):U0 s=s.length↔∀c∈s,Zo c=true:=by
 induction s with
 |nil=>simp [U0]
 |cons a s ih=>
  unfold U0 at*
  rw [List.takeWhile_cons]
  split
  ·rename_i h;simp [h,ih]
  ·rename_i h;simp [h]
def Ae4:Nat→List UInt8→Option Nat
 |acc,[]=>some acc
 |acc,c::r=>if 2147483647<10*acc+(c.toNat - 48)then none else Ae4 (10*acc+(c.toNat - 48)) r
def Bg9:Option Nat→Int × Int
 |some v=>((v:Int),0)
 |none=>(0,3)
def U4(s:List UInt8):Int × Int:=if s=[]∨U0 s≠s.length then(0,4)else Bg9 (Ae4 0 s)
def Aj8(acc:Nat)(s:List UInt8):Nat:=s.foldl (fun a c=>10*a+(c.toNat - 48)) acc
theorem Bru(acc:Nat):Aj8 acc []=acc:=by simp only [Aj8,List.foldl_nil]
theorem Aze(acc:Nat)(c:UInt8)(r:List UInt8):Aj8 acc (c::r)=Aj8 (10*acc+(c.toNat - 48)) r:=by simp only [Aj8,List.foldl_cons]
theorem Brt(s:List UInt8):∀acc,Aj8 acc s=acc*10 ^ s.length+Aj8 0 s:=by
 induction s with
 |nil=>intro acc;simp [Bru]
 |cons c r ih=>
  intro acc
  rw [Aze,ih,Aze,ih (10*0+_),List.length_cons,Nat.pow_succ]
  rw [Nat.add_mul,Nat.add_mul]
  have:10*acc*10 ^ r.length=acc*(10 ^ r.length*10):=by
   rw [Nat.mul_comm 10 acc,Nat.mul_assoc,Nat.mul_comm 10]
  omega
theorem Bvm(s:List UInt8)(acc:Nat):acc≤Aj8 acc s:=by
 rw [Brt]
 have:1≤10 ^ s.length:=Nat.one_le_pow _ _ (by decide)
 have:=Nat.mul_le_mul_left acc this
 omega
theorem Bvv(s:List UInt8):∀acc,acc≤2147483647→Ae4 acc s=if Aj8 acc s≤2147483647 then some (Aj8 acc s)else none:=by
 induction s with
 |nil=>intro acc h;simp [Ae4,Aj8,h]
 |cons c r ih=>
  intro acc h
  rw [Ae4,Aze]
  have:=Bvm r (10*acc+(c.toNat - 48))
  split
  ·rw [if_neg (by omega)]
  ·rw [ih _ (by omega)]
theorem Blc(s:List UInt8):0≤(U4 s).1∧(U4 s).1≤2147483647:=by
 unfold U4
 split
 ·simp
 ·rw [Bvv s 0 (by omega)]
  by_cases h:Aj8 0 s≤2147483647
  ·rw [if_pos h];simp only [Bg9];omega
  ·rw [if_neg h];simp [Bg9]
def isM(s:List UInt8):Bool:=match s with |c::_=>decide (c.toNat=45) | []=>false
def I7(s:List UInt8):List UInt8:=match s with |c::r=>if c.toNat=43∨c.toNat=45 then r else c::r | []=>[]
def H5(s:List UInt8):Int × Int:=(if isM s then -(U4 (I7 s)).1 else(U4 (I7 s)).1,(U4 (I7 s)).2)
end Go.Proofs.Sim.Se

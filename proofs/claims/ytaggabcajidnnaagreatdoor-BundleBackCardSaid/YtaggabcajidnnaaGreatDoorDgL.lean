import Derived.Lib.ItoaMem
import Derived.Lib.AtoiAll
import Derived.Lib.Repeat
import Derived.Lib.Bytealg
import GoSem.Op.String
namespace Go.Proofs.Sim.Se
open Go
def Ue(c:UInt8):Bool:=decide (48≤c.toNat) && decide (c.toNat≤57)
def Y5(s:List UInt8):Nat:=(s.takeWhile Ue).length
theorem Si(c:UInt8):Ue c=true↔48≤c.toNat∧c.toNat≤57:=by simp [Ue]
theorem Ao8(s:List UInt8):Y5 s=s.length↔∀c∈s,Ue c=true:=by
 induction s with
 |nil=>simp [Y5]
 |cons a s ih=>
  unfold Y5 at*
  rw [List.takeWhile_cons]
  split
  ·rename_i h;simp [h,ih]
  ·rename_i h;simp [h]
def Ama:Nat→List UInt8→Option Nat
 |acc,[]=>some acc
 |acc,c::r=>if 2147483647<10*acc+(c.toNat - 48)then none else Ama (10*acc+(c.toNat - 48)) r
def Bbq:Option Nat→Int × Int
 |some v=>((v:Int),0)
 |none=>(0,3)
def Aa7(s:List UInt8):Int × Int:=if s=[]∨Y5 s≠s.length then(0,4)else Bbq (Ama 0 s)
def Tp(acc:Nat)(s:List UInt8):Nat:=s.foldl (fun a c=>10*a+(c.toNat - 48)) acc
theorem Ao9(acc:Nat):Tp acc []=acc:=by simp only [Tp,List.foldl_nil]
theorem Wq(acc:Nat)(c:UInt8)(r:List UInt8):Tp acc (c::r)=Tp (10*acc+(c.toNat - 48)) r:=by simp only [Tp,List.foldl_cons]
theorem Bg0(s:List UInt8):∀acc,Tp acc s=acc*10 ^ s.length+Tp 0 s:=by
 induction s with
 |nil=>intro acc;simp [Ao9]
 |cons c r ih=>
  intro acc
  rw [Wq,ih,Wq,ih (10*0+_),List.length_cons,Nat.pow_succ]
  rw [Nat.add_mul,Nat.add_mul]
  have:10*acc*10 ^ r.length=acc*(10 ^ r.length*10):=by
   rw [Nat.mul_comm 10 acc,Nat.mul_assoc,Nat.mul_comm 10]
  omega
theorem Bki(s:List UInt8)(acc:Nat):acc≤Tp acc s:=by
 rw [Bg0]
 have:1≤10 ^ s.length:=Nat.one_le_pow _ _ (by decide)
 have:=Nat.mul_le_mul_left acc this
 omega
theorem Bah(s:List UInt8):∀acc,acc≤2147483647→Ama acc s=if Tp acc s≤2147483647 then some (Tp acc s)else none:=by
 induction s with
 |nil=>intro acc h;simp [Ama,Tp,h]
 |cons c r ih=>
  intro acc h
  rw [Ama,Wq]
  have:=Bki r (10*acc+(c.toNat - 48))
  split
  ·rw [if_neg (by omega)]
  ·rw [ih _ (by omega)]
theorem Bag(s:List UInt8):0≤(Aa7 s).1∧(Aa7 s).1≤2147483647:=by
 unfold Aa7
 split
 ·simp
 ·rw [Bah s 0 (by omega)]
  by_cases h:Tp 0 s≤2147483647
  ·rw [if_pos h];simp only [Bbq];omega
  ·rw [if_neg h];simp [Bbq]
theorem Av7(s:List UInt8)(h0:s≠[])(hd:∀c∈s,Ue c=true):Aa7 s=if Tp 0 s≤2147483647 then((Tp 0 s:Int),0)else(0,3):=by
 have:=(Ao8 s).2 hd
 rw [Aa7,if_neg (by rintro(h |h);exact h0 h;exact h this),Bah s 0 (by omega)]
 by_cases h:Tp 0 s≤2147483647
 ·rw [if_pos h,if_pos h];rfl
 ·rw [if_neg h,if_neg h];rfl
theorem A9m(a b:List UInt8):∀acc,Tp acc (a++b)=Tp (Tp acc a) b:=by
 induction a with
 |nil=>intro acc;rw [Ao9];rfl
 |cons c r ih=>intro acc;rw [List.cons_append,Wq,Wq];exact ih _
theorem Af4(d:Nat)(h:d<10):(UInt8.ofNat (48+d)).toNat=48+d:=by
 simp;omega
theorem Auc(u:Nat):∀c∈Lib.decDigits u,Ue c=true:=by
 induction u using Nat.strongRecOn with
 |_ u ih=>
  intro c hc
  rw [Lib.decDigits]at hc
  split at hc
  ·rename_i h
   rw [List.mem_singleton]at hc
   subst hc
   rw [Si,Af4 u h];omega
  ·rename_i h
   rw [List.mem_append]at hc
   rcases hc with hc |hc
   ·exact ih (u / 10) (by omega) c hc
   ·rw [List.mem_singleton]at hc
    subst hc
    rw [Si,Af4 (u % 10) (by omega)];omega
theorem A67(u:Nat):Tp 0 (Lib.decDigits u)=u:=by
 induction u using Nat.strongRecOn with
 |_ u ih=>
  rw [Lib.decDigits]
  split
  ·rename_i h
   rw [Wq,Ao9,Af4 u h];omega
  ·rename_i h
   rw [A9m,ih (u / 10) (by omega),Wq,Ao9,Af4 (u % 10) (by omega)];omega
theorem Azy(u:Nat):Lib.decDigits u≠[]:=by
 intro h
 have:=Lib.decDigits_length u
 have:=Lib.nDigits_pos u
 rw [h]at *; simp at *; omega
theorem A63(u:Nat)(h:0<u):∀c r,Lib.decDigits u=c::r→c.toNat≠48:=by
 induction u using Nat.strongRecOn with
 |_ u ih=>
  intro c r e
  rw [Lib.decDigits]at e
  split at e
  ·rename_i h10
   injection e with e _
   rw [←e,Af4 u h10];omega
  ·rename_i h10
   cases hd:Lib.decDigits (u / 10)with
   |nil=>exact absurd hd (Azy _)
   |cons a b=>
    rw [hd]at e
    injection e with e _
    subst e
    exact ih (u / 10) (by omega) (by omega) a b hd
def Acu(s:List UInt8):List UInt8:=match s with |c::r=>if c.toNat=45 then r else c::r | []=>[]
def isM(s:List UInt8):Bool:=match s with |c::_=>decide (c.toNat=45) | []=>false
def Qa(s:List UInt8):List UInt8:=match s with |c::r=>if c.toNat=43∨c.toNat=45 then r else c::r | []=>[]
def Gb(s:List UInt8):Int × Int:=(if isM s then -(Aa7 (Qa s)).1 else(Aa7 (Qa s)).1,(Aa7 (Qa s)).2)
def Bod:List UInt8:=[57,50,50,51,51,55,50,48,51,54,56,53,52,55,55,53,56,48,55]
def Boe:List UInt8:=[57,50,50,51,51,55,50,48,51,54,56,53,52,55,55,53,56,48,56]
def A6p(s:List UInt8):Bool:=decide (Acu s=[]) || decide (19<(Acu s).length) || decide (Y5 (Acu s)≠(Acu s).length)
def A9c(s:List UInt8):Int × Int:=
 if(Acu s).length=19∧¬(Op.bytesLess (Acu s) (if isM s then Boe else Bod) || Acu s == (if isM s then Boe else Bod))=true then(0,4)else Gb s
def A0w(s:List UInt8):Int × Int:=
 if A6p s=true then(0,4)
 else if((Acu s).getD 0 0).toNat=48∧s≠[48]then(0,4)
 else A9c s
end Go.Proofs.Sim.Se

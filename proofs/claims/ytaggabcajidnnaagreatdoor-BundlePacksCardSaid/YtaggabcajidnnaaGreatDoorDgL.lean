import Derived.Lib.ItoaMem
import Derived.Lib.AtoiAll
import Derived.Lib.Repeat
import Derived.Lib.Bytealg
import GoSem.Op.String
namespace Go.Proofs.Sim.Se
open Go
def Vi(c:UInt8):Bool:=decide (48≤c.toNat) && decide (c.toNat≤57)
def Z7(s:List UInt8):Nat:=(s.takeWhile Vi).length
theorem Uj(c:UInt8):Vi c=true↔48≤c.toNat∧c.toNat≤57:=by simp [Vi]
theorem Asi(s:List UInt8):Z7 s=s.length↔∀c∈s,Vi c=true:=by
 induction s with
 |nil=>simp [Z7]
 |cons a s ih=>
  unfold Z7 at*
  rw [List.takeWhile_cons]
  split
  ·rename_i h;simp [h,ih]
  ·rename_i h;simp [h]
def Ao9:Nat→List UInt8→Option Nat
 |acc,[]=>some acc
 |acc,c::r=>if 2147483647<10*acc+(c.toNat - 48)then none else Ao9 (10*acc+(c.toNat - 48)) r
def Bh8:Option Nat→Int × Int
 |some v=>((v:Int),0)
 |none=>(0,3)
def Ab5(s:List UInt8):Int × Int:=if s=[]∨Z7 s≠s.length then(0,4)else Bh8 (Ao9 0 s)
def U4(acc:Nat)(s:List UInt8):Nat:=s.foldl (fun a c=>10*a+(c.toNat - 48)) acc
theorem Asj(acc:Nat):U4 acc []=acc:=by simp only [U4,List.foldl_nil]
theorem Xy(acc:Nat)(c:UInt8)(r:List UInt8):U4 acc (c::r)=U4 (10*acc+(c.toNat - 48)) r:=by simp only [U4,List.foldl_cons]
theorem Bns(s:List UInt8):∀acc,U4 acc s=acc*10 ^ s.length+U4 0 s:=by
 induction s with
 |nil=>intro acc;simp [Asj]
 |cons c r ih=>
  intro acc
  rw [Xy,ih,Xy,ih (10*0+_),List.length_cons,Nat.pow_succ]
  rw [Nat.add_mul,Nat.add_mul]
  have:10*acc*10 ^ r.length=acc*(10 ^ r.length*10):=by
   rw [Nat.mul_comm 10 acc,Nat.mul_assoc,Nat.mul_comm 10]
  omega
theorem Bq8(s:List UInt8)(acc:Nat):acc≤U4 acc s:=by
 rw [Bns]
 have:1≤10 ^ s.length:=Nat.one_le_pow _ _ (by decide)
 have:=Nat.mul_le_mul_left acc this
 omega
theorem Bgw(s:List UInt8):∀acc,acc≤2147483647→Ao9 acc s=if U4 acc s≤2147483647 then some (U4 acc s)else none:=by
 induction s with
 |nil=>intro acc h;simp [Ao9,U4,h]
 |cons c r ih=>
  intro acc h
  rw [Ao9,Xy]
  have:=Bq8 r (10*acc+(c.toNat - 48))
  split
  ·rw [if_neg (by omega)]
  ·rw [ih _ (by omega)]
theorem Bgv(s:List UInt8):0≤(Ab5 s).1∧(Ab5 s).1≤2147483647:=by
 unfold Ab5
 split
 ·simp
 ·rw [Bgw s 0 (by omega)]
  by_cases h:U4 0 s≤2147483647
  ·rw [if_pos h];simp only [Bh8];omega
  ·rw [if_neg h];simp [Bh8]
theorem A0e(s:List UInt8)(h0:s≠[])(hd:∀c∈s,Vi c=true):Ab5 s=if U4 0 s≤2147483647 then((U4 0 s:Int),0)else(0,3):=by
 have:=(Asi s).2 hd
 rw [Ab5,if_neg (by rintro(h |h);exact h0 h;exact h this),Bgw s 0 (by omega)]
 by_cases h:U4 0 s≤2147483647
 ·rw [if_pos h,if_pos h];rfl
 ·rw [if_neg h,if_neg h];rfl
theorem Bfx(a b:List UInt8):∀acc,U4 acc (a++b)=U4 (U4 acc a) b:=by
 induction a with
 |nil=>intro acc;rw [Asj];rfl
 |cons c r ih=>intro acc;rw [List.cons_append,Xy,Xy];exact ih _
theorem Ahr(d:Nat)(h:d<10):(UInt8.ofNat (48+d)).toNat=48+d:=by
 simp;omega
theorem Ax0(u:Nat):∀c∈Lib.decDigits u,Vi c=true:=by
 induction u using Nat.strongRecOn with
 |_ u ih=>
  intro c hc
  rw [Lib.decDigits]at hc
  split at hc
  ·rename_i h
   rw [List.mem_singleton]at hc
   subst hc
   rw [Uj,Ahr u h];omega
  ·rename_i h
   rw [List.mem_append]at hc
   rcases hc with hc |hc
   ·exact ih (u / 10) (by omega) c hc
   ·rw [List.mem_singleton]at hc
    subst hc
    rw [Uj,Ahr (u % 10) (by omega)];omega
theorem Bc0(u:Nat):U4 0 (Lib.decDigits u)=u:=by
 induction u using Nat.strongRecOn with
 |_ u ih=>
  rw [Lib.decDigits]
  split
  ·rename_i h
   rw [Xy,Asj,Ahr u h];omega
  ·rename_i h
   rw [Bfx,ih (u / 10) (by omega),Xy,Asj,Ahr (u % 10) (by omega)];omega
theorem A5e(u:Nat):Lib.decDigits u≠[]:=by
 intro h
 have:=Lib.decDigits_length u
 have:=Lib.nDigits_pos u
 rw [h]at *; simp at *; omega
theorem Bcw(u:Nat)(h:0<u):∀c r,Lib.decDigits u=c::r→c.toNat≠48:=by
 induction u using Nat.strongRecOn with
 |_ u ih=>
  intro c r e
  rw [Lib.decDigits]at e
  split at e
  ·rename_i h10
   injection e with e _
   rw [←e,Ahr u h10];omega
  ·rename_i h10
   cases hd:Lib.decDigits (u / 10)with
   |nil=>exact absurd hd (A5e _)
   |cons a b=>
    rw [hd]at e
    injection e with e _
    subst e
    exact ih (u / 10) (by omega) (by omega) a b hd
def Adw(s:List UInt8):List UInt8:=match s with |c::r=>if c.toNat=45 then r else c::r | []=>[]
def isM(s:List UInt8):Bool:=match s with |c::_=>decide (c.toNat=45) | []=>false
def Ra(s:List UInt8):List UInt8:=match s with |c::r=>if c.toNat=43∨c.toNat=45 then r else c::r | []=>[]
def Hd(s:List UInt8):Int × Int:=(if isM s then -(Ab5 (Ra s)).1 else(Ab5 (Ra s)).1,(Ab5 (Ra s)).2)
def Bu4:List UInt8:=[57,50,50,51,51,55,50,48,51,54,56,53,52,55,55,53,56,48,55]
def Bu5:List UInt8:=[57,50,50,51,51,55,50,48,51,54,56,53,52,55,55,53,56,48,56]
def Bci(s:List UInt8):Bool:=decide (Adw s=[]) || decide (19<(Adw s).length) || decide (Z7 (Adw s)≠(Adw s).length)
def Bfl(s:List UInt8):Int × Int:=
 if(Adw s).length=19∧¬(Op.bytesLess (Adw s) (if isM s then Bu5 else Bu4) || Adw s == (if isM s then Bu5 else Bu4))=true then(0,4)else Hd s
def A56(s:List UInt8):Int × Int:=
 if Bci s=true then(0,4)
 else if((Adw s).getD 0 0).toNat=48∧s≠[48]then(0,4)
 else Bfl s
end Go.Proofs.Sim.Se

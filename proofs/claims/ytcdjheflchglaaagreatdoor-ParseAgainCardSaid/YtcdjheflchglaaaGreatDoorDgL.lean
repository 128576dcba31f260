import Derived.Lib.ItoaMem
import Derived.Lib.AtoiAll
import Derived.Lib.Repeat
import Derived.Lib.Bytealg
import GoSem.Op.String
namespace Go.Proofs.Sim.Se
open Go
def Re(c:UInt8):Bool:=decide (48≤c.toNat) && decide (c.toNat≤57)
def Vx(s:List UInt8):Nat:=(s.takeWhile Re).length
theorem Qh(c:UInt8):Re c=true↔48≤c.toNat∧c.toNat≤57:=by simp [Re]
theorem Ai6(s:List UInt8):Vx s=s.length↔∀c∈s,Re c=true:=by
 induction s with
 |nil=>simp [Vx]
 |cons a s ih=>
  unfold Vx at*
  rw [List.takeWhile_cons]
  split
  ·rename_i h;simp [h,ih]
  ·rename_i h;simp [h]
def Ahd:Nat→List UInt8→Option Nat
 |acc,[]=>some acc
 |acc,c::r=>if 2147483647<10*acc+(c.toNat - 48)then none else Ahd (10*acc+(c.toNat - 48)) r
def A03:Option Nat→Int × Int
 |some v=>((v:Int),0)
 |none=>(0,3)
def X4(s:List UInt8):Int × Int:=if s=[]∨Vx s≠s.length then(0,4)else A03 (Ahd 0 s)
def Q4(acc:Nat)(s:List UInt8):Nat:=s.foldl (fun a c=>10*a+(c.toNat - 48)) acc
theorem Ai7(acc:Nat):Q4 acc []=acc:=by simp only [Q4,List.foldl_nil]
theorem Tz(acc:Nat)(c:UInt8)(r:List UInt8):Q4 acc (c::r)=Q4 (10*acc+(c.toNat - 48)) r:=by simp only [Q4,List.foldl_cons]
theorem A5m(s:List UInt8):∀acc,Q4 acc s=acc*10 ^ s.length+Q4 0 s:=by
 induction s with
 |nil=>intro acc;simp [Ai7]
 |cons c r ih=>
  intro acc
  rw [Tz,ih,Tz,ih (10*0+_),List.length_cons,Nat.pow_succ]
  rw [Nat.add_mul,Nat.add_mul]
  have:10*acc*10 ^ r.length=acc*(10 ^ r.length*10):=by
   rw [Nat.mul_comm 10 acc,Nat.mul_assoc,Nat.mul_comm 10]
  omega
theorem A8q(s:List UInt8)(acc:Nat):acc≤Q4 acc s:=by
 rw [A5m]
 have:1≤10 ^ s.length:=Nat.one_le_pow _ _ (by decide)
 have:=Nat.mul_le_mul_left acc this
 omega
theorem Azw(s:List UInt8):∀acc,acc≤2147483647→Ahd acc s=if Q4 acc s≤2147483647 then some (Q4 acc s)else none:=by
 induction s with
 |nil=>intro acc h;simp [Ahd,Q4,h]
 |cons c r ih=>
  intro acc h
  rw [Ahd,Tz]
  have:=A8q r (10*acc+(c.toNat - 48))
  split
  ·rw [if_neg (by omega)]
  ·rw [ih _ (by omega)]
theorem Azv(s:List UInt8):0≤(X4 s).1∧(X4 s).1≤2147483647:=by
 unfold X4
 split
 ·simp
 ·rw [Azw s 0 (by omega)]
  by_cases h:Q4 0 s≤2147483647
  ·rw [if_pos h];simp only [A03];omega
  ·rw [if_neg h];simp [A03]
theorem Ao4(s:List UInt8)(h0:s≠[])(hd:∀c∈s,Re c=true):X4 s=if Q4 0 s≤2147483647 then((Q4 0 s:Int),0)else(0,3):=by
 have:=(Ai6 s).2 hd
 rw [X4,if_neg (by rintro(h |h);exact h0 h;exact h this),Azw s 0 (by omega)]
 by_cases h:Q4 0 s≤2147483647
 ·rw [if_pos h,if_pos h];rfl
 ·rw [if_neg h,if_neg h];rfl
theorem Ay7(a b:List UInt8):∀acc,Q4 acc (a++b)=Q4 (Q4 acc a) b:=by
 induction a with
 |nil=>intro acc;rw [Ai7];rfl
 |cons c r ih=>intro acc;rw [List.cons_append,Tz,Tz];exact ih _
theorem Ab8(d:Nat)(h:d<10):(UInt8.ofNat (48+d)).toNat=48+d:=by
 simp;omega
theorem Ane(u:Nat):∀c∈Lib.decDigits u,Re c=true:=by
 induction u using Nat.strongRecOn with
 |_ u ih=>
  intro c hc
  rw [Lib.decDigits]at hc
  split at hc
  ·rename_i h
   rw [List.mem_singleton]at hc
   subst hc
   rw [Qh,Ab8 u h];omega
  ·rename_i h
   rw [List.mem_append]at hc
   rcases hc with hc |hc
   ·exact ih (u / 10) (by omega) c hc
   ·rw [List.mem_singleton]at hc
    subst hc
    rw [Qh,Ab8 (u % 10) (by omega)];omega
theorem Awy(u:Nat):Q4 0 (Lib.decDigits u)=u:=by
 induction u using Nat.strongRecOn with
 |_ u ih=>
  rw [Lib.decDigits]
  split
  ·rename_i h
   rw [Tz,Ai7,Ab8 u h];omega
  ·rename_i h
   rw [Ay7,ih (u / 10) (by omega),Tz,Ai7,Ab8 (u % 10) (by omega)];omega
theorem Ari(u:Nat):Lib.decDigits u≠[]:=by
 intro h
 have:=Lib.decDigits_length u
 have:=Lib.nDigits_pos u
 rw [h]at *; simp at *; omega
theorem Awu(u:Nat)(h:0<u):∀c r,Lib.decDigits u=c::r→c.toNat≠48:=by
 induction u using Nat.strongRecOn with
 |_ u ih=>
  intro c r e
  rw [Lib.decDigits]at e
  split at e
  ·rename_i h10
   injection e with e _
   rw [←e,Ab8 u h10];omega
  ·rename_i h10
   cases hd:Lib.decDigits (u / 10)with
   |nil=>exact absurd hd (Ari _)
   |cons a b=>
    rw [hd]at e
    injection e with e _
    subst e
    exact ih (u / 10) (by omega) (by omega) a b hd
def Ze(s:List UInt8):List UInt8:=match s with |c::r=>if c.toNat=45 then r else c::r | []=>[]
def isM(s:List UInt8):Bool:=match s with |c::_=>decide (c.toNat=45) | []=>false
def Oh(s:List UInt8):List UInt8:=match s with |c::r=>if c.toNat=43∨c.toNat=45 then r else c::r | []=>[]
def Gc(s:List UInt8):Int × Int:=(if isM s then -(X4 (Oh s)).1 else(X4 (Oh s)).1,(X4 (Oh s)).2)
def Bb5:List UInt8:=[57,50,50,51,51,55,50,48,51,54,56,53,52,55,55,53,56,48,55]
def Bb6:List UInt8:=[57,50,50,51,51,55,50,48,51,54,56,53,52,55,55,53,56,48,56]
def Awi(s:List UInt8):Bool:=decide (Ze s=[]) || decide (19<(Ze s).length) || decide (Vx (Ze s)≠(Ze s).length)
def Ayx(s:List UInt8):Int × Int:=
 if(Ze s).length=19∧¬(Op.bytesLess (Ze s) (if isM s then Bb6 else Bb5) || Ze s == (if isM s then Bb6 else Bb5))=true then(0,4)else Gc s
def Asa(s:List UInt8):Int × Int:=
 if Awi s=true then(0,4)
 else if((Ze s).getD 0 0).toNat=48∧s≠[48]then(0,4)
 else Ayx s
end Go.Proofs.Sim.Se

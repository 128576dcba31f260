import Derived.Lib.ItoaMem
import Derived.Lib.AtoiAll
import Derived.Lib.Repeat
import Derived.Lib.Bytealg
import GoSem.Op.String
namespace Go.Proofs.Sim.Se
open Go
def Aau(c:UInt8):Bool:=decide (48≤c.toNat) && decide (c.toNat≤57)
def Aox(s:List UInt8):Nat:=(s.takeWhile Aau).length
theorem Xf(c:UInt8):Aau c=true↔48≤c.toNat∧c.toNat≤57:=by simp [Aau]
theorem Ain(s:List UInt8):Aox s=s.length↔∀c∈s,Aau c=true:=by
 induction s with
 |nil=>simp [Aox]
 |cons a s ih=>
  unfold Aox at*
  rw [List.takeWhile_cons]
  split
  ·rename_i h;simp [h,ih]
  ·rename_i h;simp [h]
def Aph:Nat→List UInt8→Option Nat
 |acc,[]=>some acc
 |acc,c::r=>if 2147483647<10*acc+(c.toNat - 48)then none else Aph (10*acc+(c.toNat - 48)) r
def A2v:Option Nat→Int × Int
 |some v=>((v:Int),0)
 |none=>(0,3)
def Apg(s:List UInt8):Int × Int:=if s=[]∨Aox s≠s.length then(0,4)else A2v (Aph 0 s)
def Oq(acc:Nat)(s:List UInt8):Nat:=s.foldl (fun a c=>10*a+(c.toNat - 48)) acc
theorem Acl(acc:Nat):Oq acc []=acc:=by simp only [Oq,List.foldl_nil]
theorem Pg(acc:Nat)(c:UInt8)(r:List UInt8):Oq acc (c::r)=Oq (10*acc+(c.toNat - 48)) r:=by simp only [Oq,List.foldl_cons]
theorem Awu(s:List UInt8):∀acc,Oq acc s=acc*10 ^ s.length+Oq 0 s:=by
 induction s with
 |nil=>intro acc;simp [Acl]
 |cons c r ih=>
  intro acc
  rw [Pg,ih,Pg,ih (10*0+_),List.length_cons,Nat.pow_succ]
  rw [Nat.add_mul,Nat.add_mul]
  have:10*acc*10 ^ r.length=acc*(10 ^ r.length*10):=by
   rw [Nat.mul_comm 10 acc,Nat.mul_assoc,Nat.mul_comm 10]
  omega
theorem Aze(s:List UInt8)(acc:Nat):acc≤Oq acc s:=by
 rw [Awu]
 have:1≤10 ^ s.length:=Nat.one_le_pow _ _ (by decide)
 have:=Nat.mul_le_mul_left acc this
 omega
theorem Azn(s:List UInt8):∀acc,acc≤2147483647→Aph acc s=if Oq acc s≤2147483647 then some (Oq acc s)else none:=by
 induction s with
 |nil=>intro acc h;simp [Aph,Oq,h]
 |cons c r ih=>
  intro acc h
  rw [Aph,Pg]
  have:=Aze r (10*acc+(c.toNat - 48))
  split
  ·rw [if_neg (by omega)]
  ·rw [ih _ (by omega)]
theorem Ahn(s:List UInt8)(h0:s≠[])(hd:∀c∈s,Aau c=true):Apg s=if Oq 0 s≤2147483647 then((Oq 0 s:Int),0)else(0,3):=by
 have:=(Ain s).2 hd
 rw [Apg,if_neg (by rintro(h |h);exact h0 h;exact h this),Azn s 0 (by omega)]
 by_cases h:Oq 0 s≤2147483647
 ·rw [if_pos h,if_pos h];rfl
 ·rw [if_neg h,if_neg h];rfl
theorem Aq1(a b:List UInt8):∀acc,Oq acc (a++b)=Oq (Oq acc a) b:=by
 induction a with
 |nil=>intro acc;rw [Acl];rfl
 |cons c r ih=>intro acc;rw [List.cons_append,Pg,Pg];exact ih _
theorem Xi(d:Nat)(h:d<10):(UInt8.ofNat (48+d)).toNat=48+d:=by
 simp;omega
theorem Yw(u:Nat):∀c∈Lib.decDigits u,Aau c=true:=by
 induction u using Nat.strongRecOn with
 |_ u ih=>
  intro c hc
  rw [Lib.decDigits]at hc
  split at hc
  ·rename_i h
   rw [List.mem_singleton]at hc
   subst hc
   rw [Xf,Xi u h];omega
  ·rename_i h
   rw [List.mem_append]at hc
   rcases hc with hc |hc
   ·exact ih (u / 10) (by omega) c hc
   ·rw [List.mem_singleton]at hc
    subst hc
    rw [Xf,Xi (u % 10) (by omega)];omega
theorem Ao3(u:Nat):Oq 0 (Lib.decDigits u)=u:=by
 induction u using Nat.strongRecOn with
 |_ u ih=>
  rw [Lib.decDigits]
  split
  ·rename_i h
   rw [Pg,Acl,Xi u h];omega
  ·rename_i h
   rw [Aq1,ih (u / 10) (by omega),Pg,Acl,Xi (u % 10) (by omega)];omega
theorem Aj2(u:Nat):Lib.decDigits u≠[]:=by
 intro h
 have:=Lib.decDigits_length u
 have:=Lib.nDigits_pos u
 rw [h]at *; simp at *; omega
theorem Aoy(u:Nat)(h:0<u):∀c r,Lib.decDigits u=c::r→c.toNat≠48:=by
 induction u using Nat.strongRecOn with
 |_ u ih=>
  intro c r e
  rw [Lib.decDigits]at e
  split at e
  ·rename_i h10
   injection e with e _
   rw [←e,Xi u h10];omega
  ·rename_i h10
   cases hd:Lib.decDigits (u / 10)with
   |nil=>exact absurd hd (Aj2 _)
   |cons a b=>
    rw [hd]at e
    injection e with e _
    subst e
    exact ih (u / 10) (by omega) (by omega) a b hd
def Uk(s:List UInt8):List UInt8:=match s with |c::r=>if c.toNat=45 then r else c::r | []=>[]
def isM(s:List UInt8):Bool:=match s with |c::_=>decide (c.toNat=45) | []=>false
def Abr(s:List UInt8):List UInt8:=match s with |c::r=>if c.toNat=43∨c.toNat=45 then r else c::r | []=>[]
def Jq(s:List UInt8):Int × Int:=(if isM s then -(Apg (Abr s)).1 else(Apg (Abr s)).1,(Apg (Abr s)).2)
def A1v:List UInt8:=[57,50,50,51,51,55,50,48,51,54,56,53,52,55,55,53,56,48,55]
def A1w:List UInt8:=[57,50,50,51,51,55,50,48,51,54,56,53,52,55,55,53,56,48,56]
def Aok(s:List UInt8):Bool:=decide (Uk s=[]) || decide (19<(Uk s).length) || decide (Aox (Uk s)≠(Uk s).length)
def Aqt(s:List UInt8):Int × Int:=
 if(Uk s).length=19∧¬(Op.bytesLess (Uk s) (if isM s then A1w else A1v) || Uk s == (if isM s then A1w else A1v))=true then(0,4)else Jq s
def Akp(s:List UInt8):Int × Int:=
 if Aok s=true then(0,4)
 else if((Uk s).getD 0 0).toNat=48∧s≠[48]then(0,4)
 else Aqt s
end Go.Proofs.Sim.Se

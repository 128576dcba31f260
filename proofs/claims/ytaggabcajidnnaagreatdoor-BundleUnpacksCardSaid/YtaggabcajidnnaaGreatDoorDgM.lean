import Derived.Test.YtaggabcajidnnaaGreatDoorDgL
namespace Go.Proofs.Sim.Se
open Go
theorem Bm3(u m:Nat)(h:u<10 ^ (m+1)):Lib.nDigits u≤m+1:=by
 induction m generalizing u with
 |zero=>rw [Lib.nDigits_small (by simpa using h)];omega
 |succ m ih=>
  by_cases h10:u<10
  ·rw [Lib.nDigits_small h10];omega
  ·rw [Lib.nDigits_big h10]
   have:=ih (u / 10) (by rw [Nat.pow_succ]at h;omega)
   omega
theorem Bk4(u:Nat)(h:u≤9223372036854775808):(Lib.decDigits u).length≤19:=by
 rw [Lib.decDigits_length];exact Bm3 u 18 (by omega)
theorem Ahc(n:Int)(h0: -9223372036854775808≤n)(h1:n≤9223372036854775807):(Lib.itoa n).length≤20:=by
 unfold Lib.itoa
 split
 ·have:=Bk4 n.natAbs (by omega);simp;omega
 ·have:=Bk4 n.toNat (by omega);omega
end Go.Proofs.Sim.Se

import Derived.Test.YtcdjheflchglaaaGreatDoorPzA
import Derived.Test.YtcdjheflchglaaaGreatDoorSimR
import Derived.Test.YtcdjheflchglaaaGreatDoorCards
import Derived.Test.YtcdjheflchglaaaGreatDoorTie
import Derived.WalkKit
import Derived.ProofKit
import Derived.OpenShut
import Derived.Deep.DeepHandedRow
import Derived.Lib.LaidTab
import Derived.Stop.LaidErr
import Derived.ChangeMaps
namespace Go.Proofs.YtcdjheflchglaaaGreatDoor
open Go Go.ChangeShapes Go.WideShapes Go.ChangeAt Go.RowKit Go.Proofs.Sim Go.Proofs.Sim.Se Go.Proofs.Sim.Va
open Go.ChangeMaps (open_string shut_string)
set_option maxRecDepth 100000
theorem A4m {P:Program} {W:World} {n:String} {g:Nat} {cs:Array Value} (hg:P.globalNamed n=some g)(h:W.var? P n=some cs):∃T fz,W.heap[g]? =some (.cells cs T fz):=by
 unfold World.var? at h
 rw [hg]at h
 simp only [Option.bind_some]at h
 split at h
 ·rename_i c T fz hh;injection h with h;subst h;exact⟨T,fz,hh⟩
 ·cases h
theorem A5w(k n:Nat)(vs:List Value)(h:k≠n):Axg [(k,vs)] n=none:=by
 unfold Axg
 cases hb:Nat.beq k n with
 |true=>exact absurd (Nat.eq_of_beq_eq_true hb) h
 |false=>rfl
theorem tabs {W:World} (h:laidMetH Tryz.prog Rows.parseBackRow.laid W):TabOK (fun b o=>W.cell? ⟨b,o,none⟩) (fun b=>W.heap[b]?):=by
 have h:laidMet Tryz.prog Rows.parseBackRow.laid W:=h
 have h3:=laidMet.tail (laidMet.tail h)
 have ht:Lib.TabIs Tryz.prog W "internal/strconv.uint64pow10" .u64 Lib.pow10Tab:=
  Lib.tabIs_of_head (g:=1) (t:=139) (by kernel_rfl) (by kernel_rfl) Tryz.underlying139 Tryz.underlying127 (by kernel_rfl) (by kernel_rfl) h3
 obtain⟨T,fz,e3⟩:=A4m (g:=1) (by kernel_rfl) ht
 refine⟨fun gl cells hg j hj=> ?_,fun gl vs hg=> ?_⟩
 ·exact absurd hg (by rw [show glk A7q gl=none from rfl];simp)
 ·by_cases e:1=gl
  ·subst e
   obtain rfl:(Lib.pow10Tab.map fun z=>Value.int .u64 z)=vs:=Option.some.inj hg
   exact⟨T,fz,e3⟩
  ·exact absurd hg (by rw [show Axg A7r gl=none from A5w _ _ _ e];simp)
noncomputable def laidWorld(os:Os):World:=
 let w0:=World.holding Tryz.prog os ⟨#[], #[],[]⟩
 let put (h:Array Obj) (g:Nat) (cs:Array Value):Array Obj:=h.modify g fun
  | .cells _ t frozen=> .cells cs t frozen
  |o=>o
 let h2:=put w0.heap 1 (Lib.pow10Tab.map fun z=>Value.int .u64 z).toArray
 let h3:=put h2 2 (#[0,1,28,2,29,14,24,3,30,22,20,15,25,17,4,8,31,27,13,23,21,19,16,7,26,12,18,6,11,5,10,9].map fun z=>Value.int .u8 z)
 let h4:=put h3 3 (#[0,1,56,2,57,49,28,3,61,58,42,50,38,29,17,4,62,47,59,36,45,43,51,22,53,39,33,30,24,18,12,5,63,55,48,27,60,41,37,16,46,35,44,21,52,32,23,11,54,26,40,15,34,20,31,10,25,14,19,9,13,8,7,6].map fun z=>Value.int .u8 z)
 { w0 with heap:=h4 }
theorem laid_met(os:Os)(args:Array Value):laidMet Tryz.prog Rows.parseBackRow.laid ((laidWorld os).forCall (fun _ _=>0) ⟨#[],args,[]⟩).memory:=
 laidMet_of_run' 8 (by kernel_rfl) (by kernel_rfl)
theorem own:ownKnob Tryz.prog.godebug=none:=by kernel_rfl
theorem laidOut:laidOutB Tryz.prog=true:=by kernel_rfl
end Go.Proofs.YtcdjheflchglaaaGreatDoor

import Derived.Test.YtcdjheflchglaaaPbB
import Derived.Test.YtcdjheflchglaaaSimR
import Derived.Test.YtcdjheflchglaaaRows
import Derived.WalkKit
import Derived.ProofKit
import Derived.OpenShut
import Derived.Deep.DeepHandedRow
import Derived.Lib.LaidTab
import Derived.Stop.LaidErr
import Derived.ChangeMaps
namespace Go.Proofs.Ytcdjheflchglaaa
open Go Go.ChangeShapes Go.WideShapes Go.ChangeAt Go.RowKit Go.Proofs.Sim Go.Proofs.Sim.Se Go.Proofs.Sim.Va
open Go.ChangeMaps (open_string shut_string)
set_option maxRecDepth 100000
theorem tabs {W:World} :TabOK (fun b o=>W.cell? ⟨b,o,none⟩) (fun b=>W.heap[b]?):=
 ⟨fun gl cells hg j hj=>absurd hg (by rw [show glk A97 gl=none from rfl];simp),fun gl vs hg=>absurd hg (by rw [show A7y A9p gl=none from rfl];simp)⟩
noncomputable def laidWorld(os:Os):World:=World.holding Try.prog os ⟨#[], #[],[]⟩
theorem laid_met(os:Os)(args:Array Value):laidMet Try.prog Rows.parseTellsRow.laid ((laidWorld os).forCall (fun _ _=>0) ⟨#[],args,[]⟩).memory:=
 laidMet_of_run' 8 (by kernel_rfl) (by kernel_rfl)
theorem own:ownKnob Try.prog.godebug=none:=by kernel_rfl
theorem laidOut:laidOutB Try.prog=true:=by kernel_rfl
end Go.Proofs.Ytcdjheflchglaaa

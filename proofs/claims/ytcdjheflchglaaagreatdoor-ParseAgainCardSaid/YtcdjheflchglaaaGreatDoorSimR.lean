import Derived.Test.YtcdjheflchglaaaGreatDoorSimPQ
import Derived.Deep.Slices
import Derived.DataReads
import Derived.Lib.LaidTab
namespace Go.Proofs.Sim
open Go Go.RowKit Go.ChangeShapes
inductive Ty (P:Program):TypeId→List IV→Prop
 |bool (t:TypeId) (b:Bool):P.underlying t=some .bool→Ty P t [.bool b]
 |int (t:TypeId) (k:IntKind) (n:Int):P.underlying t=some (.int k)→(Lit.int k n).wf=true→Ty P t [.int k n]
 |str (t:TypeId) (s:List UInt8):P.underlying t=some .string→s.length≤maxLen→Ty P t [.str s]
 |sl (t e:TypeId) (rows:List (List IV)):P.underlying t=some (.slice e)→(∀r,r∈rows→Ty P e r)→rows.length≤maxLen→Ty P t [.sl .any (P.cellsOf e) rows]
 |struct (t:TypeId) (fs:Array Field) (ls:List (List IV)):P.underlying t=some (.struct fs)→ls.length=fs.size→(∀(i:Nat) (f:Field),fs[i]? =some f→Ty P f.type (ls.getD i []))→Ty P t ls.flatten
theorem Wo {P:Program} {t:TypeId} {k:IntKind} {l:List IV} (hu:P.underlying t=some (.int k))(h:Ty P t l):∃n,l=[.int k n]∧(Lit.int k n).wf=true:=by
 cases h with
 |int _ k' n h hw=>rw [hu]at h;injection h with h;injection h with h;subst h;exact⟨n,rfl,hw⟩
 |bool _ b h=>rw [hu]at h;cases h
 |str _ s h=>rw [hu]at h;cases h
 |sl _ e rows h=>rw [hu]at h;cases h
 |struct _ fs ls h=>rw [hu]at h;cases h
end Go.Proofs.Sim

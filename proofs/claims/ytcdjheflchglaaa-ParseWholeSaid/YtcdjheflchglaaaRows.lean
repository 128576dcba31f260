/-
  NARROWER THAN 'FOR EVERY INPUT', by the rows' own cells (each row's printed sentence says how): CrossingDecodes: loops.
  DERIVED. THE GIVEN ROWS OF THIS SEAT. 5 by the template 'for every input the law returns true; each argument reads behind the call as it read before'; 0 by the template 'total and deterministic' (their statements: YtcdjheflchglaaaTotals.lean).
  GIVEN WITH THE SEED: the statements are not yours to turn. If you find one false, say at which input.
  Laid BY PROGRAM, IN A SANDBOX (cutbox-rows.mjs): the forced cells as the released guide's own fill.sh prints them over the translation 156272c4534acc8c… (all of the seat's roots in one cut). By AI agents, Wed Nov 11 2026. No macro, syntax, notation, axiom, sorry.
-/
import Derived.Test.YtcdjheflchglaaaChecked
import GoSem.Claim
import GoSem.ClaimJoined
import GoSem.ClaimMapViews
import Derived.JoinedTies
import Derived.KernelRfl
namespace Go.Proofs.Ytcdjheflchglaaa
/- THE CELL 'sum', in the pinned program and in every row, IS THE sha256 OF THE DUMP (.gsa) THAT YtcdjheflchglaaaProg.lean LOADS. Nothing in Lean hashes anything: it is a label: what it is worth is what the hold of that sum in a sandbox is worth. -/
noncomputable def Try.pinned : Pinned := { name := "ytcdjheflchglaaa", sum := "156272c4534acc8c02b8593a486fa557197c9e74eea0469daa0171788b26c0a6", checked := Try.checked }
namespace Rows
def none {H : Type} : Left H := { results := [], args := [] }

/-- 'binderylaw23.CrossingEncodes': WHATEVER THE INPUT: true; the input reads as it did. -/
def crossingEncodesSpec : ChangeSpec := { name := "crossingEncodes", fn := fun _ => fun
  | [d] => { results := [.lit (.bool true)], args := [d] }
  | _ => none }
def crossingEncodesRow : OpenClaim := { program := "ytcdjheflchglaaa", sum := "156272c4534acc8c02b8593a486fa557197c9e74eea0469daa0171788b26c0a6", func := "bindery/binderylaw23.CrossingEncodes", spec := "crossingEncodes", unfollowed := true, recurses := true, apart := false }
def CrossingEncodesSaid : Prop := crossingEncodesRow.holds Try.pinned (OpenSpec.ofChange crossingEncodesSpec)

/-- ITS FALSE NEIGHBOUR: 'it returns false'. Refute it at one input. -/
def crossingEncodesWrong : ChangeSpec := { name := "crossingEncodes", fn := fun _ => fun
  | [d] => { results := [.lit (.bool false)], args := [d] }
  | _ => none }
def CrossingEncodesWrongFalsely : Prop := crossingEncodesRow.holds Try.pinned (OpenSpec.ofChange crossingEncodesWrong)

/-- 'binderylaw23.CrossingDecodes': WHATEVER THE INPUT: true; the input reads as it did. -/
def crossingDecodesSpec : ChangeSpec := { name := "crossingDecodes", fn := fun _ => fun
  | [d1, d2] => { results := [.lit (.bool true)], args := [d1, d2] }
  | _ => none }
def crossingDecodesRow : OpenClaim := { program := "ytcdjheflchglaaa", sum := "156272c4534acc8c02b8593a486fa557197c9e74eea0469daa0171788b26c0a6", func := "bindery/binderylaw23.CrossingDecodes", spec := "crossingDecodes", unfollowed := true, recurses := true, loops := true, apart := false }
def CrossingDecodesSaid : Prop := crossingDecodesRow.holds Try.pinned (OpenSpec.ofChange crossingDecodesSpec)

/-- ITS FALSE NEIGHBOUR: 'it returns false'. Refute it at one input. -/
def crossingDecodesWrong : ChangeSpec := { name := "crossingDecodes", fn := fun _ => fun
  | [d1, d2] => { results := [.lit (.bool false)], args := [d1, d2] }
  | _ => none }
def CrossingDecodesWrongFalsely : Prop := crossingDecodesRow.holds Try.pinned (OpenSpec.ofChange crossingDecodesWrong)

/-- 'binderylaw23.CrossingBack': WHATEVER THE INPUT: true; the input reads as it did. -/
def crossingBackSpec : ChangeSpec := { name := "crossingBack", fn := fun _ => fun
  | [d] => { results := [.lit (.bool true)], args := [d] }
  | _ => none }
def crossingBackRow : OpenClaim := { program := "ytcdjheflchglaaa", sum := "156272c4534acc8c02b8593a486fa557197c9e74eea0469daa0171788b26c0a6", func := "bindery/binderylaw23.CrossingBack", spec := "crossingBack", unfollowed := true, recurses := true, apart := false }
def CrossingBackSaid : Prop := crossingBackRow.holds Try.pinned (OpenSpec.ofChange crossingBackSpec)

/-- ITS FALSE NEIGHBOUR: 'it returns false'. Refute it at one input. -/
def crossingBackWrong : ChangeSpec := { name := "crossingBack", fn := fun _ => fun
  | [d] => { results := [.lit (.bool false)], args := [d] }
  | _ => none }
def CrossingBackWrongFalsely : Prop := crossingBackRow.holds Try.pinned (OpenSpec.ofChange crossingBackWrong)

/-- 'binderylaw18.ParseTells': WHATEVER THE INPUT: true; the input reads as it did. -/
def parseTellsSpec : ChangeSpec := { name := "parseTells", fn := fun _ => fun
  | [d1, d2] => { results := [.lit (.bool true)], args := [d1, d2] }
  | _ => none }
def parseTellsRow : OpenClaim := { program := "ytcdjheflchglaaa", sum := "156272c4534acc8c02b8593a486fa557197c9e74eea0469daa0171788b26c0a6", func := "bindery/binderylaw18.ParseTells", spec := "parseTells", inPlace := ["internal/bytealg.IndexByteString", "internal/bytealg.IndexString"], unfollowed := true, recurses := true, named := ["internal/bytealg.MaxLen"], apart := false }
def ParseTellsSaid : Prop := parseTellsRow.holds Try.pinned (OpenSpec.ofChange parseTellsSpec)

/-- ITS FALSE NEIGHBOUR: 'it returns false'. Refute it at one input. -/
def parseTellsWrong : ChangeSpec := { name := "parseTells", fn := fun _ => fun
  | [d1, d2] => { results := [.lit (.bool false)], args := [d1, d2] }
  | _ => none }
def ParseTellsWrongFalsely : Prop := parseTellsRow.holds Try.pinned (OpenSpec.ofChange parseTellsWrong)

/-- 'binderylaw18.ParseWhole': WHATEVER THE INPUT: true; the input reads as it did. -/
def parseWholeSpec : ChangeSpec := { name := "parseWhole", fn := fun _ => fun
  | [d] => { results := [.lit (.bool true)], args := [d] }
  | _ => none }
def parseWholeRow : OpenClaim := { program := "ytcdjheflchglaaa", sum := "156272c4534acc8c02b8593a486fa557197c9e74eea0469daa0171788b26c0a6", func := "bindery/binderylaw18.ParseWhole", spec := "parseWhole", inPlace := ["internal/bytealg.IndexByteString", "internal/bytealg.IndexString"], unfollowed := true, recurses := true, named := ["internal/bytealg.MaxLen"], apart := false }
def ParseWholeSaid : Prop := parseWholeRow.holds Try.pinned (OpenSpec.ofChange parseWholeSpec)

/-- ITS FALSE NEIGHBOUR: 'it returns false'. Refute it at one input. -/
def parseWholeWrong : ChangeSpec := { name := "parseWhole", fn := fun _ => fun
  | [d] => { results := [.lit (.bool false)], args := [d] }
  | _ => none }
def ParseWholeWrongFalsely : Prop := parseWholeRow.holds Try.pinned (OpenSpec.ofChange parseWholeWrong)

/- THE SECOND FORM. 'bulk': how many values and letters a reading holds, each counted each time it is reached (what is shared counts as often as it is met; a slice's spare places count too). A statement '..UptoSaid' is the law's where the arguments, and the package variables that the reading takes, are together of bulk at most 1048576: NARROWER than '..Said'. Prove '..Said' where nothing that the law and all that it calls make is longer than what came in: it says more and counts as full. Else prove '..UptoSaid'. A law counts once. -/
mutual
def uptoBulk {H : Type} : DataW H → Nat
  | .lit (.string bytes) => bytes.length + 1
  | .lit _ => 1
  | .nil => 1
  | .ptr d => uptoBulk d + 1
  | .slice elems spare => uptoBulkAll elems + uptoBulkAll spare + 1
  | .agg parts => uptoBulkAll parts + 1
  | .iface _ d => uptoBulk d + 1
  | .map entries => uptoBulkEntries entries + 1
  | .held _ => 1
def uptoBulkAll {H : Type} : List (DataW H) → Nat
  | [] => 0
  | d :: r => uptoBulk d + uptoBulkAll r
def uptoBulkEntries {H : Type} : List (Lit × DataW H) → Nat
  | [] => 0
  | x :: r => uptoBulkEntry x + uptoBulkEntries r
def uptoBulkEntry {H : Type} : Lit × DataW H → Nat
  | (.string bytes, d) => bytes.length + uptoBulk d + 1
  | (_, d) => uptoBulk d + 1
 end
def uptoSmall : (H : Type) → List (DataW H) → Bool := fun _ ds => decide (uptoBulkAll ds ≤ 1048576)
def OpenSpec.upto (s : _root_.Go.ChangeSpec) : _root_.Go.OpenSpec := { _root_.Go.OpenSpec.ofChange s with cond := some uptoSmall }

/-- 'binderylaw23.CrossingEncodes', WHERE WHAT IT READS IS OF BULK AT MOST 1048576: true; the input reads as it did. -/
def crossingEncodesUptoRow : OpenClaim := { program := "ytcdjheflchglaaa", sum := "156272c4534acc8c02b8593a486fa557197c9e74eea0469daa0171788b26c0a6", func := "bindery/binderylaw23.CrossingEncodes", spec := "crossingEncodes", unfollowed := true, recurses := true, apart := false, narrowed := true }
def CrossingEncodesUptoSaid : Prop := crossingEncodesUptoRow.holds Try.pinned (OpenSpec.upto crossingEncodesSpec)

/-- 'binderylaw23.CrossingDecodes', WHERE WHAT IT READS IS OF BULK AT MOST 1048576: true; the input reads as it did. -/
def crossingDecodesUptoRow : OpenClaim := { program := "ytcdjheflchglaaa", sum := "156272c4534acc8c02b8593a486fa557197c9e74eea0469daa0171788b26c0a6", func := "bindery/binderylaw23.CrossingDecodes", spec := "crossingDecodes", unfollowed := true, recurses := true, loops := true, apart := false, narrowed := true }
def CrossingDecodesUptoSaid : Prop := crossingDecodesUptoRow.holds Try.pinned (OpenSpec.upto crossingDecodesSpec)

/-- 'binderylaw23.CrossingBack', WHERE WHAT IT READS IS OF BULK AT MOST 1048576: true; the input reads as it did. -/
def crossingBackUptoRow : OpenClaim := { program := "ytcdjheflchglaaa", sum := "156272c4534acc8c02b8593a486fa557197c9e74eea0469daa0171788b26c0a6", func := "bindery/binderylaw23.CrossingBack", spec := "crossingBack", unfollowed := true, recurses := true, apart := false, narrowed := true }
def CrossingBackUptoSaid : Prop := crossingBackUptoRow.holds Try.pinned (OpenSpec.upto crossingBackSpec)

/-- 'binderylaw18.ParseTells', WHERE WHAT IT READS IS OF BULK AT MOST 1048576: true; the input reads as it did. -/
def parseTellsUptoRow : OpenClaim := { program := "ytcdjheflchglaaa", sum := "156272c4534acc8c02b8593a486fa557197c9e74eea0469daa0171788b26c0a6", func := "bindery/binderylaw18.ParseTells", spec := "parseTells", inPlace := ["internal/bytealg.IndexByteString", "internal/bytealg.IndexString"], unfollowed := true, recurses := true, named := ["internal/bytealg.MaxLen"], apart := false, narrowed := true }
def ParseTellsUptoSaid : Prop := parseTellsUptoRow.holds Try.pinned (OpenSpec.upto parseTellsSpec)

/-- 'binderylaw18.ParseWhole', WHERE WHAT IT READS IS OF BULK AT MOST 1048576: true; the input reads as it did. -/
def parseWholeUptoRow : OpenClaim := { program := "ytcdjheflchglaaa", sum := "156272c4534acc8c02b8593a486fa557197c9e74eea0469daa0171788b26c0a6", func := "bindery/binderylaw18.ParseWhole", spec := "parseWhole", inPlace := ["internal/bytealg.IndexByteString", "internal/bytealg.IndexString"], unfollowed := true, recurses := true, named := ["internal/bytealg.MaxLen"], apart := false, narrowed := true }
def ParseWholeUptoSaid : Prop := parseWholeUptoRow.holds Try.pinned (OpenSpec.upto parseWholeSpec)

end Rows
end Go.Proofs.Ytcdjheflchglaaa

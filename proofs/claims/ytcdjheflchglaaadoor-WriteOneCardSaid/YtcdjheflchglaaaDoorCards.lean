/-
  DERIVED. GIVEN WITH THE SEED: THE CARDS: each row of YtcdjheflchglaaaDoorRows.lean that lists a variable, with what it lists TIED to the program's text (the seventh form; the later family's looks); each row that meets fmt, with fmt's text TOLD by the authors' own Lean function (tested against real Go, not proved from fmt's source: count such statements apart). THE CARD IS WHAT COUNTS. Prove the row's statement (the work); the ties are given (YtcdjheflchglaaaDoorTie.lean); close each card by the builder's one call (the guide's Derived/Test/ToyasCard.lean, 'card_holds'). Laid BY PROGRAM, IN A SANDBOX (cutbox-door.mjs). By AI agents, Wed Nov 11 2026. No macro, syntax, notation, axiom, sorry.
-/
import Derived.Test.YtcdjheflchglaaaDoorRows
import GoSem.ClaimSeven
namespace Go.Proofs.YtcdjheflchglaaaDoor
namespace Rows

/-- THE TIED CARD OF 'binderylaw23.CrossingBoth'. -/
def crossingBothCard : Claim7 := { stood := { row := crossingBothRow, standIns := [], harness := (true, "5e91fb93df9579ebe9c9588a6fe617aca6930e8e4928264b5bba692c8eb8af2c"), looks := false }, kinds := [], alts := [], laidByText := true, laidKinds := [.data, .data, .data], laidTests := true, laidLooks := .later }
def CrossingBothCardSaid : Prop := Claim7.holds Tryd.pinned (.plain (OpenSpec.ofChange crossingBothSpec)) crossingBothCard

/-- THE TIED CARD OF 'binderylaw17.WriteTells'. -/
def writeTellsCard : Claim7 := { stood := { row := writeTellsRow, standIns := [], harness := (true, "5e91fb93df9579ebe9c9588a6fe617aca6930e8e4928264b5bba692c8eb8af2c"), looks := false }, kinds := [], alts := [], laidByText := true, laidKinds := [.data, .data, .data], laidTests := true, laidLooks := .later }
def WriteTellsCardSaid : Prop := Claim7.holds Tryd.pinned (.plain (OpenSpec.ofChange writeTellsSpec)) writeTellsCard

/-- THE TIED CARD OF 'binderylaw17.WriteNames'. -/
def writeNamesCard : Claim7 := { stood := { row := writeNamesRow, standIns := [], harness := (true, "5e91fb93df9579ebe9c9588a6fe617aca6930e8e4928264b5bba692c8eb8af2c"), looks := false }, kinds := [], alts := [], laidByText := true, laidKinds := [.data, .data, .data], laidTests := true, laidLooks := .later }
def WriteNamesCardSaid : Prop := Claim7.holds Tryd.pinned (.plain (OpenSpec.ofChange writeNamesSpec)) writeNamesCard

/-- THE TIED CARD OF 'binderylaw17.WriteOne'. -/
def writeOneCard : Claim7 := { stood := { row := writeOneRow, standIns := [], harness := (true, "5e91fb93df9579ebe9c9588a6fe617aca6930e8e4928264b5bba692c8eb8af2c"), looks := false }, kinds := [], alts := [], laidByText := true, laidKinds := [.data, .data, .data], laidTests := true, laidLooks := .later }
def WriteOneCardSaid : Prop := Claim7.holds Tryd.pinned (.plain (OpenSpec.ofChange writeOneSpec)) writeOneCard

/-- THE SECOND FORM's CARD OF 'binderylaw23.CrossingBoth'. -/
def crossingBothUptoCard : Claim7 := { stood := { row := crossingBothUptoRow, standIns := [], harness := (true, "5e91fb93df9579ebe9c9588a6fe617aca6930e8e4928264b5bba692c8eb8af2c"), looks := false }, kinds := [], alts := [], laidByText := true, laidKinds := [.data, .data, .data], laidTests := true, laidLooks := .later }
def CrossingBothUptoCardSaid : Prop := Claim7.holds Tryd.pinned (.plain (OpenSpec.upto crossingBothSpec)) crossingBothUptoCard

/-- THE SECOND FORM's CARD OF 'binderylaw17.WriteTells'. -/
def writeTellsUptoCard : Claim7 := { stood := { row := writeTellsUptoRow, standIns := [], harness := (true, "5e91fb93df9579ebe9c9588a6fe617aca6930e8e4928264b5bba692c8eb8af2c"), looks := false }, kinds := [], alts := [], laidByText := true, laidKinds := [.data, .data, .data], laidTests := true, laidLooks := .later }
def WriteTellsUptoCardSaid : Prop := Claim7.holds Tryd.pinned (.plain (OpenSpec.upto writeTellsSpec)) writeTellsUptoCard

/-- THE SECOND FORM's CARD OF 'binderylaw17.WriteNames'. -/
def writeNamesUptoCard : Claim7 := { stood := { row := writeNamesUptoRow, standIns := [], harness := (true, "5e91fb93df9579ebe9c9588a6fe617aca6930e8e4928264b5bba692c8eb8af2c"), looks := false }, kinds := [], alts := [], laidByText := true, laidKinds := [.data, .data, .data], laidTests := true, laidLooks := .later }
def WriteNamesUptoCardSaid : Prop := Claim7.holds Tryd.pinned (.plain (OpenSpec.upto writeNamesSpec)) writeNamesUptoCard

/-- THE SECOND FORM's CARD OF 'binderylaw17.WriteOne'. -/
def writeOneUptoCard : Claim7 := { stood := { row := writeOneUptoRow, standIns := [], harness := (true, "5e91fb93df9579ebe9c9588a6fe617aca6930e8e4928264b5bba692c8eb8af2c"), looks := false }, kinds := [], alts := [], laidByText := true, laidKinds := [.data, .data, .data], laidTests := true, laidLooks := .later }
def WriteOneUptoCardSaid : Prop := Claim7.holds Tryd.pinned (.plain (OpenSpec.upto writeOneSpec)) writeOneUptoCard
end Rows
end Go.Proofs.YtcdjheflchglaaaDoor

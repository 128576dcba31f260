/-
  DERIVED. GIVEN WITH THE SEED: THE CARDS: each row of YtkdjpnfpmpchnaaDoorRows.lean that lists a variable, with what it lists TIED to the program's text (the seventh form; the later family's looks); each row that meets fmt, with fmt's text TOLD by the authors' own Lean function (tested against real Go, not proved from fmt's source: count such statements apart). THE CARD IS WHAT COUNTS. Prove the row's statement (the work); the ties are given (YtkdjpnfpmpchnaaDoorTie.lean); close each card by the builder's one call (the guide's Derived/Test/ToyasCard.lean, 'card_holds'). Laid BY PROGRAM, IN A SANDBOX (cutbox-door.mjs). By AI agents, Wed Nov 11 2026. No macro, syntax, notation, axiom, sorry.
-/
import Derived.Test.YtkdjpnfpmpchnaaDoorRows
import GoSem.ClaimSeven
namespace Go.Proofs.YtkdjpnfpmpchnaaDoor
namespace Rows

/-- THE TIED CARD OF 'binderylaw22.SectionPrints'. -/
def sectionPrintsCard : Claim7 := { stood := { row := sectionPrintsRow, standIns := [], harness := (true, "594840d307c2d2f3c352201fb35c4cc7b538ca72a1e97c330dbe87800c88ef9b"), looks := true }, kinds := [], alts := [], laidByText := true, laidKinds := [.data, .data, .data], laidTests := true, laidLooks := .later }
def SectionPrintsCardSaid : Prop := Claim7.holds Tryd.pinned (.plain (OpenSpec.ofChange sectionPrintsSpec)) sectionPrintsCard

/-- THE TIED CARD OF 'binderylaw22.SectionReads'. -/
def sectionReadsCard : Claim7 := { stood := { row := sectionReadsRow, standIns := [], harness := (true, "594840d307c2d2f3c352201fb35c4cc7b538ca72a1e97c330dbe87800c88ef9b"), looks := true }, kinds := [], alts := [], laidByText := true, laidKinds := [.data, .data, .data], laidTests := true, laidLooks := .later }
def SectionReadsCardSaid : Prop := Claim7.holds Tryd.pinned (.plain (OpenSpec.ofChange sectionReadsSpec)) sectionReadsCard

/-- THE TIED CARD OF 'binderylaw22.SectionBack'. -/
def sectionBackCard : Claim7 := { stood := { row := sectionBackRow, standIns := [], harness := (true, "594840d307c2d2f3c352201fb35c4cc7b538ca72a1e97c330dbe87800c88ef9b"), looks := true }, kinds := [], alts := [], laidByText := true, laidKinds := [.data, .data, .data], laidTests := true, laidLooks := .later }
def SectionBackCardSaid : Prop := Claim7.holds Tryd.pinned (.plain (OpenSpec.ofChange sectionBackSpec)) sectionBackCard

/-- THE TIED CARD OF 'binderylaw02.DigitsPuts'. -/
def digitsPutsCard : Claim7 := { stood := { row := digitsPutsRow, standIns := [], harness := (true, "594840d307c2d2f3c352201fb35c4cc7b538ca72a1e97c330dbe87800c88ef9b"), looks := true }, kinds := [], alts := [], laidByText := true, laidKinds := [.data, .data, .data, .sentinel, .sentinel], laidTests := true, laidLooks := .later }
def DigitsPutsCardSaid : Prop := Claim7.holds Tryd.pinned (.plain (OpenSpec.ofChange digitsPutsSpec)) digitsPutsCard

/-- THE TIED CARD OF 'binderylaw02.DigitsReads'. -/
def digitsReadsCard : Claim7 := { stood := { row := digitsReadsRow, standIns := [], harness := (true, "594840d307c2d2f3c352201fb35c4cc7b538ca72a1e97c330dbe87800c88ef9b"), looks := true }, kinds := [], alts := [], laidByText := true, laidKinds := [.data, .data, .data, .sentinel, .sentinel], laidTests := true, laidLooks := .later }
def DigitsReadsCardSaid : Prop := Claim7.holds Tryd.pinned (.plain (OpenSpec.ofChange digitsReadsSpec)) digitsReadsCard

/-- THE TIED CARD OF 'binderylaw02.DigitsFixes'. -/
def digitsFixesCard : Claim7 := { stood := { row := digitsFixesRow, standIns := [], harness := (true, "594840d307c2d2f3c352201fb35c4cc7b538ca72a1e97c330dbe87800c88ef9b"), looks := true }, kinds := [], alts := [], laidByText := true, laidKinds := [.data, .data, .data, .sentinel, .sentinel], laidTests := true, laidLooks := .later }
def DigitsFixesCardSaid : Prop := Claim7.holds Tryd.pinned (.plain (OpenSpec.ofChange digitsFixesSpec)) digitsFixesCard

/-- THE TIED CARD OF 'binderylaw02.DigitsBack'. -/
def digitsBackCard : Claim7 := { stood := { row := digitsBackRow, standIns := [], harness := (true, "594840d307c2d2f3c352201fb35c4cc7b538ca72a1e97c330dbe87800c88ef9b"), looks := true }, kinds := [], alts := [], laidByText := true, laidKinds := [.data, .data, .data, .sentinel, .sentinel], laidTests := true, laidLooks := .later }
def DigitsBackCardSaid : Prop := Claim7.holds Tryd.pinned (.plain (OpenSpec.ofChange digitsBackSpec)) digitsBackCard

/-- THE SECOND FORM's CARD OF 'binderylaw22.SectionPrints'. -/
def sectionPrintsUptoCard : Claim7 := { stood := { row := sectionPrintsUptoRow, standIns := [], harness := (true, "594840d307c2d2f3c352201fb35c4cc7b538ca72a1e97c330dbe87800c88ef9b"), looks := true }, kinds := [], alts := [], laidByText := true, laidKinds := [.data, .data, .data], laidTests := true, laidLooks := .later }
def SectionPrintsUptoCardSaid : Prop := Claim7.holds Tryd.pinned (.plain (OpenSpec.upto sectionPrintsSpec)) sectionPrintsUptoCard

/-- THE SECOND FORM's CARD OF 'binderylaw22.SectionReads'. -/
def sectionReadsUptoCard : Claim7 := { stood := { row := sectionReadsUptoRow, standIns := [], harness := (true, "594840d307c2d2f3c352201fb35c4cc7b538ca72a1e97c330dbe87800c88ef9b"), looks := true }, kinds := [], alts := [], laidByText := true, laidKinds := [.data, .data, .data], laidTests := true, laidLooks := .later }
def SectionReadsUptoCardSaid : Prop := Claim7.holds Tryd.pinned (.plain (OpenSpec.upto sectionReadsSpec)) sectionReadsUptoCard

/-- THE SECOND FORM's CARD OF 'binderylaw22.SectionBack'. -/
def sectionBackUptoCard : Claim7 := { stood := { row := sectionBackUptoRow, standIns := [], harness := (true, "594840d307c2d2f3c352201fb35c4cc7b538ca72a1e97c330dbe87800c88ef9b"), looks := true }, kinds := [], alts := [], laidByText := true, laidKinds := [.data, .data, .data], laidTests := true, laidLooks := .later }
def SectionBackUptoCardSaid : Prop := Claim7.holds Tryd.pinned (.plain (OpenSpec.upto sectionBackSpec)) sectionBackUptoCard

/-- THE SECOND FORM's CARD OF 'binderylaw02.DigitsPuts'. -/
def digitsPutsUptoCard : Claim7 := { stood := { row := digitsPutsUptoRow, standIns := [], harness := (true, "594840d307c2d2f3c352201fb35c4cc7b538ca72a1e97c330dbe87800c88ef9b"), looks := true }, kinds := [], alts := [], laidByText := true, laidKinds := [.data, .data, .data, .sentinel, .sentinel], laidTests := true, laidLooks := .later }
def DigitsPutsUptoCardSaid : Prop := Claim7.holds Tryd.pinned (.plain (OpenSpec.upto digitsPutsSpec)) digitsPutsUptoCard

/-- THE SECOND FORM's CARD OF 'binderylaw02.DigitsReads'. -/
def digitsReadsUptoCard : Claim7 := { stood := { row := digitsReadsUptoRow, standIns := [], harness := (true, "594840d307c2d2f3c352201fb35c4cc7b538ca72a1e97c330dbe87800c88ef9b"), looks := true }, kinds := [], alts := [], laidByText := true, laidKinds := [.data, .data, .data, .sentinel, .sentinel], laidTests := true, laidLooks := .later }
def DigitsReadsUptoCardSaid : Prop := Claim7.holds Tryd.pinned (.plain (OpenSpec.upto digitsReadsSpec)) digitsReadsUptoCard

/-- THE SECOND FORM's CARD OF 'binderylaw02.DigitsFixes'. -/
def digitsFixesUptoCard : Claim7 := { stood := { row := digitsFixesUptoRow, standIns := [], harness := (true, "594840d307c2d2f3c352201fb35c4cc7b538ca72a1e97c330dbe87800c88ef9b"), looks := true }, kinds := [], alts := [], laidByText := true, laidKinds := [.data, .data, .data, .sentinel, .sentinel], laidTests := true, laidLooks := .later }
def DigitsFixesUptoCardSaid : Prop := Claim7.holds Tryd.pinned (.plain (OpenSpec.upto digitsFixesSpec)) digitsFixesUptoCard

/-- THE SECOND FORM's CARD OF 'binderylaw02.DigitsBack'. -/
def digitsBackUptoCard : Claim7 := { stood := { row := digitsBackUptoRow, standIns := [], harness := (true, "594840d307c2d2f3c352201fb35c4cc7b538ca72a1e97c330dbe87800c88ef9b"), looks := true }, kinds := [], alts := [], laidByText := true, laidKinds := [.data, .data, .data, .sentinel, .sentinel], laidTests := true, laidLooks := .later }
def DigitsBackUptoCardSaid : Prop := Claim7.holds Tryd.pinned (.plain (OpenSpec.upto digitsBackSpec)) digitsBackUptoCard
end Rows
end Go.Proofs.YtkdjpnfpmpchnaaDoor

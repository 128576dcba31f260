/-
  DERIVED. GIVEN WITH THE SEED: THE CARDS: each row of YtaggabcajidnnaaGreatDoorRows.lean that lists a variable, with what it lists TIED to the program's text (the seventh form; the later family's looks); each row that meets fmt, with fmt's text TOLD by the authors' own Lean function (tested against real Go, not proved from fmt's source: count such statements apart). THE CARD IS WHAT COUNTS. Prove the row's statement (the work); the ties are given (YtaggabcajidnnaaGreatDoorTie.lean); close each card by the builder's one call (the guide's Derived/Test/ToyasCard.lean, 'card_holds'). Laid BY PROGRAM, IN A SANDBOX (cutbox-door.mjs). By AI agents, Wed Nov 11 2026. No macro, syntax, notation, axiom, sorry.
-/
import Derived.Test.YtaggabcajidnnaaGreatDoorRows
import GoSem.ClaimSeven
namespace Go.Proofs.YtaggabcajidnnaaGreatDoor
namespace Rows

/-- THE TIED CARD OF 'binderylaw27.BundlePacks'. -/
def bundlePacksCard : Claim7 := { stood := { row := bundlePacksRow, standIns := [], harness := (true, "a9ac4aee0f430f49362d84325ca3819cd78f03f609ede198df279055fc35fc5f"), looks := false }, kinds := [], alts := [], laidByText := true, laidKinds := [.data, .data, .data], laidTests := true, laidLooks := .later }
def BundlePacksCardSaid : Prop := Claim7.holds Tryz.pinned (.plain (OpenSpec.ofChange bundlePacksSpec)) bundlePacksCard

/-- THE TIED CARD OF 'binderylaw27.BundleUnpacks'. -/
def bundleUnpacksCard : Claim7 := { stood := { row := bundleUnpacksRow, standIns := [], harness := (true, "a9ac4aee0f430f49362d84325ca3819cd78f03f609ede198df279055fc35fc5f"), looks := false }, kinds := [], alts := [], laidByText := true, laidKinds := [.data, .data, .data], laidTests := true, laidLooks := .later }
def BundleUnpacksCardSaid : Prop := Claim7.holds Tryz.pinned (.plain (OpenSpec.ofChange bundleUnpacksSpec)) bundleUnpacksCard

/-- THE TIED CARD OF 'binderylaw27.BundleBack'. -/
def bundleBackCard : Claim7 := { stood := { row := bundleBackRow, standIns := [], harness := (true, "a9ac4aee0f430f49362d84325ca3819cd78f03f609ede198df279055fc35fc5f"), looks := false }, kinds := [], alts := [], laidByText := true, laidKinds := [.data, .data, .data], laidTests := true, laidLooks := .later }
def BundleBackCardSaid : Prop := Claim7.holds Tryz.pinned (.plain (OpenSpec.ofChange bundleBackSpec)) bundleBackCard

/-- THE SECOND FORM's CARD OF 'binderylaw27.BundlePacks'. -/
def bundlePacksUptoCard : Claim7 := { stood := { row := bundlePacksUptoRow, standIns := [], harness := (true, "a9ac4aee0f430f49362d84325ca3819cd78f03f609ede198df279055fc35fc5f"), looks := false }, kinds := [], alts := [], laidByText := true, laidKinds := [.data, .data, .data], laidTests := true, laidLooks := .later }
def BundlePacksUptoCardSaid : Prop := Claim7.holds Tryz.pinned (.plain (OpenSpec.upto bundlePacksSpec)) bundlePacksUptoCard

/-- THE SECOND FORM's CARD OF 'binderylaw27.BundleUnpacks'. -/
def bundleUnpacksUptoCard : Claim7 := { stood := { row := bundleUnpacksUptoRow, standIns := [], harness := (true, "a9ac4aee0f430f49362d84325ca3819cd78f03f609ede198df279055fc35fc5f"), looks := false }, kinds := [], alts := [], laidByText := true, laidKinds := [.data, .data, .data], laidTests := true, laidLooks := .later }
def BundleUnpacksUptoCardSaid : Prop := Claim7.holds Tryz.pinned (.plain (OpenSpec.upto bundleUnpacksSpec)) bundleUnpacksUptoCard

/-- THE SECOND FORM's CARD OF 'binderylaw27.BundleBack'. -/
def bundleBackUptoCard : Claim7 := { stood := { row := bundleBackUptoRow, standIns := [], harness := (true, "a9ac4aee0f430f49362d84325ca3819cd78f03f609ede198df279055fc35fc5f"), looks := false }, kinds := [], alts := [], laidByText := true, laidKinds := [.data, .data, .data], laidTests := true, laidLooks := .later }
def BundleBackUptoCardSaid : Prop := Claim7.holds Tryz.pinned (.plain (OpenSpec.upto bundleBackSpec)) bundleBackUptoCard
end Rows
end Go.Proofs.YtaggabcajidnnaaGreatDoor

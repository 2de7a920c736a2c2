/-
  DERIVED. GIVEN WITH THE SEED: THE CARDS: each row of YtghdgefkfgikoaaGreatDoorRows.lean that lists a variable, with what it lists TIED to the program's text (the seventh form; the later family's looks); each row that meets fmt, with fmt's text TOLD by the authors' own Lean function (tested against real Go, not proved from fmt's source: count such statements apart). THE CARD IS WHAT COUNTS. Prove the row's statement (the work); the ties are given (YtghdgefkfgikoaaGreatDoorTie.lean); close each card by the builder's one call (the guide's Derived/Test/ToyasCard.lean, 'card_holds'). Laid BY PROGRAM, IN A SANDBOX (cutbox-door.mjs). By AI agents, Wed Nov 11 2026. No macro, syntax, notation, axiom, sorry.
-/
import Derived.Test.YtghdgefkfgikoaaGreatDoorRows
import GoSem.ClaimSeven
namespace Go.Proofs.YtghdgefkfgikoaaGreatDoor
namespace Rows

/-- THE TIED CARD OF 'shipyardlaw21.VersionChanges'. -/
def versionChangesCard : Claim7 := { stood := { row := versionChangesRow, standIns := [], harness := (true, "8c114a74917f3ab2ae1e3dd77e0c123f638e2ecd89e3d3ec7c97f9769b244646"), looks := false }, kinds := [], alts := [], laidByText := true, laidKinds := [.data, .pinned], laidTests := true, laidLooks := .later }
def VersionChangesCardSaid : Prop := Claim7.holds Tryz.pinned (.plain (OpenSpec.ofChange versionChangesSpec)) versionChangesCard

/-- THE TIED CARD OF 'shipyardlaw21.VersionFull'. -/
def versionFullCard : Claim7 := { stood := { row := versionFullRow, standIns := [], harness := (true, "8c114a74917f3ab2ae1e3dd77e0c123f638e2ecd89e3d3ec7c97f9769b244646"), looks := false }, kinds := [], alts := [], laidByText := true, laidKinds := [.data, .pinned], laidTests := true, laidLooks := .later }
def VersionFullCardSaid : Prop := Claim7.holds Tryz.pinned (.plain (OpenSpec.ofChange versionFullSpec)) versionFullCard

/-- THE TIED CARD OF 'shipyardlaw21.VersionNobody'. -/
def versionNobodyCard : Claim7 := { stood := { row := versionNobodyRow, standIns := [], harness := (true, "8c114a74917f3ab2ae1e3dd77e0c123f638e2ecd89e3d3ec7c97f9769b244646"), looks := false }, kinds := [], alts := [], laidByText := true, laidKinds := [.data, .pinned], laidTests := true, laidLooks := .later }
def VersionNobodyCardSaid : Prop := Claim7.holds Tryz.pinned (.plain (OpenSpec.ofChange versionNobodySpec)) versionNobodyCard

/-- THE SECOND FORM's CARD OF 'shipyardlaw21.VersionChanges'. -/
def versionChangesUptoCard : Claim7 := { stood := { row := versionChangesUptoRow, standIns := [], harness := (true, "8c114a74917f3ab2ae1e3dd77e0c123f638e2ecd89e3d3ec7c97f9769b244646"), looks := false }, kinds := [], alts := [], laidByText := true, laidKinds := [.data, .pinned], laidTests := true, laidLooks := .later }
def VersionChangesUptoCardSaid : Prop := Claim7.holds Tryz.pinned (.plain (OpenSpec.upto versionChangesSpec)) versionChangesUptoCard

/-- THE SECOND FORM's CARD OF 'shipyardlaw21.VersionFull'. -/
def versionFullUptoCard : Claim7 := { stood := { row := versionFullUptoRow, standIns := [], harness := (true, "8c114a74917f3ab2ae1e3dd77e0c123f638e2ecd89e3d3ec7c97f9769b244646"), looks := false }, kinds := [], alts := [], laidByText := true, laidKinds := [.data, .pinned], laidTests := true, laidLooks := .later }
def VersionFullUptoCardSaid : Prop := Claim7.holds Tryz.pinned (.plain (OpenSpec.upto versionFullSpec)) versionFullUptoCard

/-- THE SECOND FORM's CARD OF 'shipyardlaw21.VersionNobody'. -/
def versionNobodyUptoCard : Claim7 := { stood := { row := versionNobodyUptoRow, standIns := [], harness := (true, "8c114a74917f3ab2ae1e3dd77e0c123f638e2ecd89e3d3ec7c97f9769b244646"), looks := false }, kinds := [], alts := [], laidByText := true, laidKinds := [.data, .pinned], laidTests := true, laidLooks := .later }
def VersionNobodyUptoCardSaid : Prop := Claim7.holds Tryz.pinned (.plain (OpenSpec.upto versionNobodySpec)) versionNobodyUptoCard
end Rows
end Go.Proofs.YtghdgefkfgikoaaGreatDoor

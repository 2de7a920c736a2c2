/-
  DERIVED. GIVEN WITH THE SEED: THE CARDS: each row of YtokajdeigdelgaaGreatDoorRows.lean that lists a variable, with what it lists TIED to the program's text (the seventh form; the later family's looks); each row that meets fmt, with fmt's text TOLD by the authors' own Lean function (tested against real Go, not proved from fmt's source: count such statements apart). THE CARD IS WHAT COUNTS. Prove the row's statement (the work); the ties are given (YtokajdeigdelgaaGreatDoorTie.lean); close each card by the builder's one call (the guide's Derived/Test/ToyasCard.lean, 'card_holds'). Laid BY PROGRAM, IN A SANDBOX (cutbox-door.mjs). By AI agents, Wed Nov 11 2026. No macro, syntax, notation, axiom, sorry.
-/
import Derived.Test.YtokajdeigdelgaaGreatDoorRows
import GoSem.ClaimSeven
namespace Go.Proofs.YtokajdeigdelgaaGreatDoor
namespace Rows

/-- THE TIED CARD OF 'shipyardlaw21.VersionChanges'. -/
def versionChangesCard : Claim7 := { stood := { row := versionChangesRow, standIns := [], harness := (true, "1ba3c7cc732888da09817b228d027b7de8dfe1919ee9ade1cf6b8c777a51078d"), looks := false }, kinds := [], alts := [], laidByText := true, laidKinds := [.data, .pinned], laidTests := true, laidLooks := .later }
def VersionChangesCardSaid : Prop := Claim7.holds Tryz.pinned (.plain (OpenSpec.ofChange versionChangesSpec)) versionChangesCard

/-- THE TIED CARD OF 'shipyardlaw19.EditBack'. -/
def editBackCard : Claim7 := { stood := { row := editBackRow, standIns := [], harness := (true, "1ba3c7cc732888da09817b228d027b7de8dfe1919ee9ade1cf6b8c777a51078d"), looks := false }, kinds := [], alts := [], laidByText := true, laidKinds := [.data, .pinned], laidTests := true, laidLooks := .later }
def EditBackCardSaid : Prop := Claim7.holds Tryz.pinned (.plain (OpenSpec.ofChange editBackSpec)) editBackCard

/-- THE TIED CARD OF 'shipyardlaw20.ChangeDecodes'. -/
def changeDecodesCard : Claim7 := { stood := { row := changeDecodesRow, standIns := [], harness := (true, "1ba3c7cc732888da09817b228d027b7de8dfe1919ee9ade1cf6b8c777a51078d"), looks := false }, kinds := [], alts := [], laidByText := true, laidKinds := [.data, .pinned], laidTests := true, laidLooks := .later }
def ChangeDecodesCardSaid : Prop := Claim7.holds Tryz.pinned (.plain (OpenSpec.ofChange changeDecodesSpec)) changeDecodesCard

/-- THE TIED CARD OF 'shipyardlaw20.ChangeTouches'. -/
def changeTouchesCard : Claim7 := { stood := { row := changeTouchesRow, standIns := [], harness := (true, "1ba3c7cc732888da09817b228d027b7de8dfe1919ee9ade1cf6b8c777a51078d"), looks := false }, kinds := [], alts := [], laidByText := true, laidKinds := [.data, .pinned], laidTests := true, laidLooks := .later }
def ChangeTouchesCardSaid : Prop := Claim7.holds Tryz.pinned (.plain (OpenSpec.ofChange changeTouchesSpec)) changeTouchesCard

/-- THE SECOND FORM's CARD OF 'shipyardlaw21.VersionChanges'. -/
def versionChangesUptoCard : Claim7 := { stood := { row := versionChangesUptoRow, standIns := [], harness := (true, "1ba3c7cc732888da09817b228d027b7de8dfe1919ee9ade1cf6b8c777a51078d"), looks := false }, kinds := [], alts := [], laidByText := true, laidKinds := [.data, .pinned], laidTests := true, laidLooks := .later }
def VersionChangesUptoCardSaid : Prop := Claim7.holds Tryz.pinned (.plain (OpenSpec.upto versionChangesSpec)) versionChangesUptoCard

/-- THE SECOND FORM's CARD OF 'shipyardlaw19.EditBack'. -/
def editBackUptoCard : Claim7 := { stood := { row := editBackUptoRow, standIns := [], harness := (true, "1ba3c7cc732888da09817b228d027b7de8dfe1919ee9ade1cf6b8c777a51078d"), looks := false }, kinds := [], alts := [], laidByText := true, laidKinds := [.data, .pinned], laidTests := true, laidLooks := .later }
def EditBackUptoCardSaid : Prop := Claim7.holds Tryz.pinned (.plain (OpenSpec.upto editBackSpec)) editBackUptoCard

/-- THE SECOND FORM's CARD OF 'shipyardlaw20.ChangeDecodes'. -/
def changeDecodesUptoCard : Claim7 := { stood := { row := changeDecodesUptoRow, standIns := [], harness := (true, "1ba3c7cc732888da09817b228d027b7de8dfe1919ee9ade1cf6b8c777a51078d"), looks := false }, kinds := [], alts := [], laidByText := true, laidKinds := [.data, .pinned], laidTests := true, laidLooks := .later }
def ChangeDecodesUptoCardSaid : Prop := Claim7.holds Tryz.pinned (.plain (OpenSpec.upto changeDecodesSpec)) changeDecodesUptoCard

/-- THE SECOND FORM's CARD OF 'shipyardlaw20.ChangeTouches'. -/
def changeTouchesUptoCard : Claim7 := { stood := { row := changeTouchesUptoRow, standIns := [], harness := (true, "1ba3c7cc732888da09817b228d027b7de8dfe1919ee9ade1cf6b8c777a51078d"), looks := false }, kinds := [], alts := [], laidByText := true, laidKinds := [.data, .pinned], laidTests := true, laidLooks := .later }
def ChangeTouchesUptoCardSaid : Prop := Claim7.holds Tryz.pinned (.plain (OpenSpec.upto changeTouchesSpec)) changeTouchesUptoCard
end Rows
end Go.Proofs.YtokajdeigdelgaaGreatDoor

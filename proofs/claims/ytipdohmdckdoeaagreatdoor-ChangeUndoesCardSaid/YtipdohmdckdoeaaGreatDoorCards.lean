/-
  DERIVED. GIVEN WITH THE SEED: THE CARDS: each row of YtipdohmdckdoeaaGreatDoorRows.lean that lists a variable, with what it lists TIED to the program's text (the seventh form; the later family's looks); each row that meets fmt, with fmt's text TOLD by the authors' own Lean function (tested against real Go, not proved from fmt's source: count such statements apart). THE CARD IS WHAT COUNTS. Prove the row's statement (the work); the ties are given (YtipdohmdckdoeaaGreatDoorTie.lean); close each card by the builder's one call (the guide's Derived/Test/ToyasCard.lean, 'card_holds'). Laid BY PROGRAM, IN A SANDBOX (cutbox-door.mjs). By AI agents, Wed Nov 11 2026. No macro, syntax, notation, axiom, sorry.
-/
import Derived.Test.YtipdohmdckdoeaaGreatDoorRows
import GoSem.ClaimSeven
namespace Go.Proofs.YtipdohmdckdoeaaGreatDoor
namespace Rows

/-- THE TIED CARD OF 'shipyardlaw20.ChangeDecodes'. -/
def changeDecodesCard : Claim7 := { stood := { row := changeDecodesRow, standIns := [], harness := (true, "e982f273360edc3d75dc0905cdd57a4621034365dafe8c752109df380262b0ab"), looks := false }, kinds := [], alts := [], laidByText := true, laidKinds := [.data, .pinned], laidTests := true, laidLooks := .later }
def ChangeDecodesCardSaid : Prop := Claim7.holds Tryz.pinned (.plain (OpenSpec.ofChange changeDecodesSpec)) changeDecodesCard

/-- THE TIED CARD OF 'shipyardlaw20.ChangeDivides'. -/
def changeDividesCard : Claim7 := { stood := { row := changeDividesRow, standIns := [], harness := (true, "e982f273360edc3d75dc0905cdd57a4621034365dafe8c752109df380262b0ab"), looks := false }, kinds := [], alts := [], laidByText := true, laidKinds := [.data, .pinned], laidTests := true, laidLooks := .later }
def ChangeDividesCardSaid : Prop := Claim7.holds Tryz.pinned (.plain (OpenSpec.ofChange changeDividesSpec)) changeDividesCard

/-- THE TIED CARD OF 'shipyardlaw20.ChangeUndoes'. -/
def changeUndoesCard : Claim7 := { stood := { row := changeUndoesRow, standIns := [], harness := (true, "e982f273360edc3d75dc0905cdd57a4621034365dafe8c752109df380262b0ab"), looks := false }, kinds := [], alts := [], laidByText := true, laidKinds := [.data, .pinned], laidTests := true, laidLooks := .later }
def ChangeUndoesCardSaid : Prop := Claim7.holds Tryz.pinned (.plain (OpenSpec.ofChange changeUndoesSpec)) changeUndoesCard

/-- THE TIED CARD OF 'shipyardlaw20.ChangeCommutes'. -/
def changeCommutesCard : Claim7 := { stood := { row := changeCommutesRow, standIns := [], harness := (true, "e982f273360edc3d75dc0905cdd57a4621034365dafe8c752109df380262b0ab"), looks := false }, kinds := [], alts := [], laidByText := true, laidKinds := [.data, .pinned], laidTests := true, laidLooks := .later }
def ChangeCommutesCardSaid : Prop := Claim7.holds Tryz.pinned (.plain (OpenSpec.ofChange changeCommutesSpec)) changeCommutesCard

/-- THE TIED CARD OF 'shipyardlaw20.ChangeParts'. -/
def changePartsCard : Claim7 := { stood := { row := changePartsRow, standIns := [], harness := (true, "e982f273360edc3d75dc0905cdd57a4621034365dafe8c752109df380262b0ab"), looks := false }, kinds := [], alts := [], laidByText := true, laidKinds := [.data, .pinned], laidTests := true, laidLooks := .later }
def ChangePartsCardSaid : Prop := Claim7.holds Tryz.pinned (.plain (OpenSpec.ofChange changePartsSpec)) changePartsCard

/-- THE TIED CARD OF 'shipyardlaw20.ChangeTouches'. -/
def changeTouchesCard : Claim7 := { stood := { row := changeTouchesRow, standIns := [], harness := (true, "e982f273360edc3d75dc0905cdd57a4621034365dafe8c752109df380262b0ab"), looks := false }, kinds := [], alts := [], laidByText := true, laidKinds := [.data, .pinned], laidTests := true, laidLooks := .later }
def ChangeTouchesCardSaid : Prop := Claim7.holds Tryz.pinned (.plain (OpenSpec.ofChange changeTouchesSpec)) changeTouchesCard

/-- THE SECOND FORM's CARD OF 'shipyardlaw20.ChangeDecodes'. -/
def changeDecodesUptoCard : Claim7 := { stood := { row := changeDecodesUptoRow, standIns := [], harness := (true, "e982f273360edc3d75dc0905cdd57a4621034365dafe8c752109df380262b0ab"), looks := false }, kinds := [], alts := [], laidByText := true, laidKinds := [.data, .pinned], laidTests := true, laidLooks := .later }
def ChangeDecodesUptoCardSaid : Prop := Claim7.holds Tryz.pinned (.plain (OpenSpec.upto changeDecodesSpec)) changeDecodesUptoCard

/-- THE SECOND FORM's CARD OF 'shipyardlaw20.ChangeDivides'. -/
def changeDividesUptoCard : Claim7 := { stood := { row := changeDividesUptoRow, standIns := [], harness := (true, "e982f273360edc3d75dc0905cdd57a4621034365dafe8c752109df380262b0ab"), looks := false }, kinds := [], alts := [], laidByText := true, laidKinds := [.data, .pinned], laidTests := true, laidLooks := .later }
def ChangeDividesUptoCardSaid : Prop := Claim7.holds Tryz.pinned (.plain (OpenSpec.upto changeDividesSpec)) changeDividesUptoCard

/-- THE SECOND FORM's CARD OF 'shipyardlaw20.ChangeUndoes'. -/
def changeUndoesUptoCard : Claim7 := { stood := { row := changeUndoesUptoRow, standIns := [], harness := (true, "e982f273360edc3d75dc0905cdd57a4621034365dafe8c752109df380262b0ab"), looks := false }, kinds := [], alts := [], laidByText := true, laidKinds := [.data, .pinned], laidTests := true, laidLooks := .later }
def ChangeUndoesUptoCardSaid : Prop := Claim7.holds Tryz.pinned (.plain (OpenSpec.upto changeUndoesSpec)) changeUndoesUptoCard

/-- THE SECOND FORM's CARD OF 'shipyardlaw20.ChangeCommutes'. -/
def changeCommutesUptoCard : Claim7 := { stood := { row := changeCommutesUptoRow, standIns := [], harness := (true, "e982f273360edc3d75dc0905cdd57a4621034365dafe8c752109df380262b0ab"), looks := false }, kinds := [], alts := [], laidByText := true, laidKinds := [.data, .pinned], laidTests := true, laidLooks := .later }
def ChangeCommutesUptoCardSaid : Prop := Claim7.holds Tryz.pinned (.plain (OpenSpec.upto changeCommutesSpec)) changeCommutesUptoCard

/-- THE SECOND FORM's CARD OF 'shipyardlaw20.ChangeParts'. -/
def changePartsUptoCard : Claim7 := { stood := { row := changePartsUptoRow, standIns := [], harness := (true, "e982f273360edc3d75dc0905cdd57a4621034365dafe8c752109df380262b0ab"), looks := false }, kinds := [], alts := [], laidByText := true, laidKinds := [.data, .pinned], laidTests := true, laidLooks := .later }
def ChangePartsUptoCardSaid : Prop := Claim7.holds Tryz.pinned (.plain (OpenSpec.upto changePartsSpec)) changePartsUptoCard

/-- THE SECOND FORM's CARD OF 'shipyardlaw20.ChangeTouches'. -/
def changeTouchesUptoCard : Claim7 := { stood := { row := changeTouchesUptoRow, standIns := [], harness := (true, "e982f273360edc3d75dc0905cdd57a4621034365dafe8c752109df380262b0ab"), looks := false }, kinds := [], alts := [], laidByText := true, laidKinds := [.data, .pinned], laidTests := true, laidLooks := .later }
def ChangeTouchesUptoCardSaid : Prop := Claim7.holds Tryz.pinned (.plain (OpenSpec.upto changeTouchesSpec)) changeTouchesUptoCard
end Rows
end Go.Proofs.YtipdohmdckdoeaaGreatDoor

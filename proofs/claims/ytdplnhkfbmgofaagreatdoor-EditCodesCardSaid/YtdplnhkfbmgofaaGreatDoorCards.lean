/-
  DERIVED. GIVEN WITH THE SEED: THE CARDS: each row of YtdplnhkfbmgofaaGreatDoorRows.lean that lists a variable, with what it lists TIED to the program's text (the seventh form; the later family's looks); each row that meets fmt, with fmt's text TOLD by the authors' own Lean function (tested against real Go, not proved from fmt's source: count such statements apart). THE CARD IS WHAT COUNTS. Prove the row's statement (the work); the ties are given (YtdplnhkfbmgofaaGreatDoorTie.lean); close each card by the builder's one call (the guide's Derived/Test/ToyasCard.lean, 'card_holds'). Laid BY PROGRAM, IN A SANDBOX (cutbox-door.mjs). By AI agents, Wed Nov 11 2026. No macro, syntax, notation, axiom, sorry.
-/
import Derived.Test.YtdplnhkfbmgofaaGreatDoorRows
import GoSem.ClaimSeven
namespace Go.Proofs.YtdplnhkfbmgofaaGreatDoor
namespace Rows

/-- THE TIED CARD OF 'shipyardlaw19.EditCodes'. -/
def editCodesCard : Claim7 := { stood := { row := editCodesRow, standIns := [], harness := (true, "ffbff763e9f864db457c33b046cb4e673ef6ffe7fa1fdac6e8b2ae9fecd384f9"), looks := false }, kinds := [], alts := [], laidByText := true, laidKinds := [.data, .pinned], laidTests := true, laidLooks := .later }
def EditCodesCardSaid : Prop := Claim7.holds Tryz.pinned (.plain (OpenSpec.ofChange editCodesSpec)) editCodesCard

/-- THE TIED CARD OF 'shipyardlaw19.EditTwice'. -/
def editTwiceCard : Claim7 := { stood := { row := editTwiceRow, standIns := [], harness := (true, "ffbff763e9f864db457c33b046cb4e673ef6ffe7fa1fdac6e8b2ae9fecd384f9"), looks := false }, kinds := [], alts := [], laidByText := true, laidKinds := [.data, .pinned], laidTests := true, laidLooks := .later }
def EditTwiceCardSaid : Prop := Claim7.holds Tryz.pinned (.plain (OpenSpec.ofChange editTwiceSpec)) editTwiceCard

/-- THE SECOND FORM's CARD OF 'shipyardlaw19.EditCodes'. -/
def editCodesUptoCard : Claim7 := { stood := { row := editCodesUptoRow, standIns := [], harness := (true, "ffbff763e9f864db457c33b046cb4e673ef6ffe7fa1fdac6e8b2ae9fecd384f9"), looks := false }, kinds := [], alts := [], laidByText := true, laidKinds := [.data, .pinned], laidTests := true, laidLooks := .later }
def EditCodesUptoCardSaid : Prop := Claim7.holds Tryz.pinned (.plain (OpenSpec.upto editCodesSpec)) editCodesUptoCard

/-- THE SECOND FORM's CARD OF 'shipyardlaw19.EditTwice'. -/
def editTwiceUptoCard : Claim7 := { stood := { row := editTwiceUptoRow, standIns := [], harness := (true, "ffbff763e9f864db457c33b046cb4e673ef6ffe7fa1fdac6e8b2ae9fecd384f9"), looks := false }, kinds := [], alts := [], laidByText := true, laidKinds := [.data, .pinned], laidTests := true, laidLooks := .later }
def EditTwiceUptoCardSaid : Prop := Claim7.holds Tryz.pinned (.plain (OpenSpec.upto editTwiceSpec)) editTwiceUptoCard
end Rows
end Go.Proofs.YtdplnhkfbmgofaaGreatDoor

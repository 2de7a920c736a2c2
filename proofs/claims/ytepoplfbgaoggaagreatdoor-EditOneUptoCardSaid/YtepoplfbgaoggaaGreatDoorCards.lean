/-
  DERIVED. GIVEN WITH THE SEED: THE CARDS: each row of YtepoplfbgaoggaaGreatDoorRows.lean that lists a variable, with what it lists TIED to the program's text (the seventh form; the later family's looks); each row that meets fmt, with fmt's text TOLD by the authors' own Lean function (tested against real Go, not proved from fmt's source: count such statements apart). THE CARD IS WHAT COUNTS. Prove the row's statement (the work); the ties are given (YtepoplfbgaoggaaGreatDoorTie.lean); close each card by the builder's one call (the guide's Derived/Test/ToyasCard.lean, 'card_holds'). Laid BY PROGRAM, IN A SANDBOX (cutbox-door.mjs). By AI agents, Wed Nov 11 2026. No macro, syntax, notation, axiom, sorry.
-/
import Derived.Test.YtepoplfbgaoggaaGreatDoorRows
import GoSem.ClaimSeven
namespace Go.Proofs.YtepoplfbgaoggaaGreatDoor
namespace Rows

/-- THE TIED CARD OF 'shipyardlaw19.EditUndoes'. -/
def editUndoesCard : Claim7 := { stood := { row := editUndoesRow, standIns := [], harness := (true, "3539e6485403234db91942eb29fe59f34215c7caa208436597560a548577ef45"), looks := false }, kinds := [], alts := [], laidByText := true, laidKinds := [.data, .pinned], laidTests := true, laidLooks := .later }
def EditUndoesCardSaid : Prop := Claim7.holds Tryz.pinned (.plain (OpenSpec.ofChange editUndoesSpec)) editUndoesCard

/-- THE TIED CARD OF 'shipyardlaw19.EditOne'. -/
def editOneCard : Claim7 := { stood := { row := editOneRow, standIns := [], harness := (true, "3539e6485403234db91942eb29fe59f34215c7caa208436597560a548577ef45"), looks := false }, kinds := [], alts := [], laidByText := true, laidKinds := [.data, .pinned], laidTests := true, laidLooks := .later }
def EditOneCardSaid : Prop := Claim7.holds Tryz.pinned (.plain (OpenSpec.ofChange editOneSpec)) editOneCard

/-- THE SECOND FORM's CARD OF 'shipyardlaw19.EditUndoes'. -/
def editUndoesUptoCard : Claim7 := { stood := { row := editUndoesUptoRow, standIns := [], harness := (true, "3539e6485403234db91942eb29fe59f34215c7caa208436597560a548577ef45"), looks := false }, kinds := [], alts := [], laidByText := true, laidKinds := [.data, .pinned], laidTests := true, laidLooks := .later }
def EditUndoesUptoCardSaid : Prop := Claim7.holds Tryz.pinned (.plain (OpenSpec.upto editUndoesSpec)) editUndoesUptoCard

/-- THE SECOND FORM's CARD OF 'shipyardlaw19.EditOne'. -/
def editOneUptoCard : Claim7 := { stood := { row := editOneUptoRow, standIns := [], harness := (true, "3539e6485403234db91942eb29fe59f34215c7caa208436597560a548577ef45"), looks := false }, kinds := [], alts := [], laidByText := true, laidKinds := [.data, .pinned], laidTests := true, laidLooks := .later }
def EditOneUptoCardSaid : Prop := Claim7.holds Tryz.pinned (.plain (OpenSpec.upto editOneSpec)) editOneUptoCard
end Rows
end Go.Proofs.YtepoplfbgaoggaaGreatDoor

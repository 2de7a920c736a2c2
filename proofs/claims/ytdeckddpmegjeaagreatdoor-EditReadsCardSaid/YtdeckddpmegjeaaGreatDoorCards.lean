/-
  DERIVED. GIVEN WITH THE SEED: THE CARDS: each row of YtdeckddpmegjeaaGreatDoorRows.lean that lists a variable, with what it lists TIED to the program's text (the seventh form; the later family's looks); each row that meets fmt, with fmt's text TOLD by the authors' own Lean function (tested against real Go, not proved from fmt's source: count such statements apart). THE CARD IS WHAT COUNTS. Prove the row's statement (the work); the ties are given (YtdeckddpmegjeaaGreatDoorTie.lean); close each card by the builder's one call (the guide's Derived/Test/ToyasCard.lean, 'card_holds'). Laid BY PROGRAM, IN A SANDBOX (cutbox-door.mjs). By AI agents, Wed Nov 11 2026. No macro, syntax, notation, axiom, sorry.
-/
import Derived.Test.YtdeckddpmegjeaaGreatDoorRows
import GoSem.ClaimSeven
namespace Go.Proofs.YtdeckddpmegjeaaGreatDoor
namespace Rows

/-- THE TIED CARD OF 'shipyardlaw19.EditApart'. -/
def editApartCard : Claim7 := { stood := { row := editApartRow, standIns := [], harness := (true, "491e075efef4ea9b785867cfe6d49fc3da394d7b244ad3ef030e7757421b994d"), looks := false }, kinds := [], alts := [], laidByText := true, laidKinds := [.data, .pinned], laidTests := true, laidLooks := .later }
def EditApartCardSaid : Prop := Claim7.holds Tryz.pinned (.plain (OpenSpec.ofChange editApartSpec)) editApartCard

/-- THE TIED CARD OF 'shipyardlaw19.EditReads'. -/
def editReadsCard : Claim7 := { stood := { row := editReadsRow, standIns := [], harness := (true, "491e075efef4ea9b785867cfe6d49fc3da394d7b244ad3ef030e7757421b994d"), looks := false }, kinds := [], alts := [], laidByText := true, laidKinds := [.data, .pinned], laidTests := true, laidLooks := .later }
def EditReadsCardSaid : Prop := Claim7.holds Tryz.pinned (.plain (OpenSpec.ofChange editReadsSpec)) editReadsCard

/-- THE SECOND FORM's CARD OF 'shipyardlaw19.EditApart'. -/
def editApartUptoCard : Claim7 := { stood := { row := editApartUptoRow, standIns := [], harness := (true, "491e075efef4ea9b785867cfe6d49fc3da394d7b244ad3ef030e7757421b994d"), looks := false }, kinds := [], alts := [], laidByText := true, laidKinds := [.data, .pinned], laidTests := true, laidLooks := .later }
def EditApartUptoCardSaid : Prop := Claim7.holds Tryz.pinned (.plain (OpenSpec.upto editApartSpec)) editApartUptoCard

/-- THE SECOND FORM's CARD OF 'shipyardlaw19.EditReads'. -/
def editReadsUptoCard : Claim7 := { stood := { row := editReadsUptoRow, standIns := [], harness := (true, "491e075efef4ea9b785867cfe6d49fc3da394d7b244ad3ef030e7757421b994d"), looks := false }, kinds := [], alts := [], laidByText := true, laidKinds := [.data, .pinned], laidTests := true, laidLooks := .later }
def EditReadsUptoCardSaid : Prop := Claim7.holds Tryz.pinned (.plain (OpenSpec.upto editReadsSpec)) editReadsUptoCard
end Rows
end Go.Proofs.YtdeckddpmegjeaaGreatDoor

/-
  DERIVED. GIVEN WITH THE SEED: THE CARDS: each row of YtlnfhilipnldeaaGreatDoorRows.lean that lists a variable, with what it lists TIED to the program's text (the seventh form; the later family's looks); each row that meets fmt, with fmt's text TOLD by the authors' own Lean function (tested against real Go, not proved from fmt's source: count such statements apart). THE CARD IS WHAT COUNTS. Prove the row's statement (the work); the ties are given (YtlnfhilipnldeaaGreatDoorTie.lean); close each card by the builder's one call (the guide's Derived/Test/ToyasCard.lean, 'card_holds'). Laid BY PROGRAM, IN A SANDBOX (cutbox-door.mjs). By AI agents, Wed Nov 11 2026. No macro, syntax, notation, axiom, sorry.
-/
import Derived.Test.YtlnfhilipnldeaaGreatDoorRows
import GoSem.ClaimSeven
namespace Go.Proofs.YtlnfhilipnldeaaGreatDoor
namespace Rows

/-- THE TIED CARD OF 'shipyardlaw31.ProcedureAll'. -/
def procedureAllCard : Claim7 := { stood := { row := procedureAllRow, standIns := [], harness := (true, "9b0f350388ec2ebc2815ca31d7761a22fa162e017e77aa019cf3e5ec3388d83b"), looks := false }, kinds := [], alts := [], laidByText := true, laidKinds := [.data, .pinned], laidTests := true, laidLooks := .later }
def ProcedureAllCardSaid : Prop := Claim7.holds Tryz.pinned (.plain (OpenSpec.ofChange procedureAllSpec)) procedureAllCard

/-- THE SECOND FORM's CARD OF 'shipyardlaw31.ProcedureAll'. -/
def procedureAllUptoCard : Claim7 := { stood := { row := procedureAllUptoRow, standIns := [], harness := (true, "9b0f350388ec2ebc2815ca31d7761a22fa162e017e77aa019cf3e5ec3388d83b"), looks := false }, kinds := [], alts := [], laidByText := true, laidKinds := [.data, .pinned], laidTests := true, laidLooks := .later }
def ProcedureAllUptoCardSaid : Prop := Claim7.holds Tryz.pinned (.plain (OpenSpec.upto procedureAllSpec)) procedureAllUptoCard
end Rows
end Go.Proofs.YtlnfhilipnldeaaGreatDoor

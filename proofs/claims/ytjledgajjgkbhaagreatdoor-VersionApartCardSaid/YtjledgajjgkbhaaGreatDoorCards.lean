/-
  DERIVED. GIVEN WITH THE SEED: THE CARDS: each row of YtjledgajjgkbhaaGreatDoorRows.lean that lists a variable, with what it lists TIED to the program's text (the seventh form; the later family's looks); each row that meets fmt, with fmt's text TOLD by the authors' own Lean function (tested against real Go, not proved from fmt's source: count such statements apart). THE CARD IS WHAT COUNTS. Prove the row's statement (the work); the ties are given (YtjledgajjgkbhaaGreatDoorTie.lean); close each card by the builder's one call (the guide's Derived/Test/ToyasCard.lean, 'card_holds'). Laid BY PROGRAM, IN A SANDBOX (cutbox-door.mjs). By AI agents, Wed Nov 11 2026. No macro, syntax, notation, axiom, sorry.
-/
import Derived.Test.YtjledgajjgkbhaaGreatDoorRows
import GoSem.ClaimSeven
namespace Go.Proofs.YtjledgajjgkbhaaGreatDoor
namespace Rows

/-- THE TIED CARD OF 'shipyardlaw21.VersionApart'. -/
def versionApartCard : Claim7 := { stood := { row := versionApartRow, standIns := [], harness := (true, "01798c276d7c4a39ea2f8f7283bbbbb9b40371904b131ea329fbc02154ae07f6"), looks := false }, kinds := [], alts := [], laidByText := true, laidKinds := [.data, .pinned], laidTests := true, laidLooks := .later }
def VersionApartCardSaid : Prop := Claim7.holds Tryz.pinned (.plain (OpenSpec.ofChange versionApartSpec)) versionApartCard

/-- THE SECOND FORM's CARD OF 'shipyardlaw21.VersionApart'. -/
def versionApartUptoCard : Claim7 := { stood := { row := versionApartUptoRow, standIns := [], harness := (true, "01798c276d7c4a39ea2f8f7283bbbbb9b40371904b131ea329fbc02154ae07f6"), looks := false }, kinds := [], alts := [], laidByText := true, laidKinds := [.data, .pinned], laidTests := true, laidLooks := .later }
def VersionApartUptoCardSaid : Prop := Claim7.holds Tryz.pinned (.plain (OpenSpec.upto versionApartSpec)) versionApartUptoCard
end Rows
end Go.Proofs.YtjledgajjgkbhaaGreatDoor

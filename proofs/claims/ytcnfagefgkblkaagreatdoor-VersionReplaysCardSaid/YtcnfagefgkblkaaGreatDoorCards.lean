/-
  DERIVED. GIVEN WITH THE SEED: THE CARDS: each row of YtcnfagefgkblkaaGreatDoorRows.lean that lists a variable, with what it lists TIED to the program's text (the seventh form; the later family's looks); each row that meets fmt, with fmt's text TOLD by the authors' own Lean function (tested against real Go, not proved from fmt's source: count such statements apart). THE CARD IS WHAT COUNTS. Prove the row's statement (the work); the ties are given (YtcnfagefgkblkaaGreatDoorTie.lean); close each card by the builder's one call (the guide's Derived/Test/ToyasCard.lean, 'card_holds'). Laid BY PROGRAM, IN A SANDBOX (cutbox-door.mjs). By AI agents, Wed Nov 11 2026. No macro, syntax, notation, axiom, sorry.
-/
import Derived.Test.YtcnfagefgkblkaaGreatDoorRows
import GoSem.ClaimSeven
namespace Go.Proofs.YtcnfagefgkblkaaGreatDoor
namespace Rows

/-- THE TIED CARD OF 'shipyardlaw21.VersionApart'. -/
def versionApartCard : Claim7 := { stood := { row := versionApartRow, standIns := [], harness := (true, "84767e5bdc52dcb5e78cd345a222adead7c01bb53611c6dd9111ba1115c67124"), looks := false }, kinds := [], alts := [], laidByText := true, laidKinds := [.data, .pinned], laidTests := true, laidLooks := .later }
def VersionApartCardSaid : Prop := Claim7.holds Tryz.pinned (.plain (OpenSpec.ofChange versionApartSpec)) versionApartCard

/-- THE TIED CARD OF 'shipyardlaw21.VersionFull'. -/
def versionFullCard : Claim7 := { stood := { row := versionFullRow, standIns := [], harness := (true, "84767e5bdc52dcb5e78cd345a222adead7c01bb53611c6dd9111ba1115c67124"), looks := false }, kinds := [], alts := [], laidByText := true, laidKinds := [.data, .pinned], laidTests := true, laidLooks := .later }
def VersionFullCardSaid : Prop := Claim7.holds Tryz.pinned (.plain (OpenSpec.ofChange versionFullSpec)) versionFullCard

/-- THE TIED CARD OF 'shipyardlaw21.VersionReplays'. -/
def versionReplaysCard : Claim7 := { stood := { row := versionReplaysRow, standIns := [], harness := (true, "84767e5bdc52dcb5e78cd345a222adead7c01bb53611c6dd9111ba1115c67124"), looks := false }, kinds := [], alts := [], laidByText := true, laidKinds := [.data, .pinned], laidTests := true, laidLooks := .later }
def VersionReplaysCardSaid : Prop := Claim7.holds Tryz.pinned (.plain (OpenSpec.ofChange versionReplaysSpec)) versionReplaysCard

/-- THE SECOND FORM's CARD OF 'shipyardlaw21.VersionApart'. -/
def versionApartUptoCard : Claim7 := { stood := { row := versionApartUptoRow, standIns := [], harness := (true, "84767e5bdc52dcb5e78cd345a222adead7c01bb53611c6dd9111ba1115c67124"), looks := false }, kinds := [], alts := [], laidByText := true, laidKinds := [.data, .pinned], laidTests := true, laidLooks := .later }
def VersionApartUptoCardSaid : Prop := Claim7.holds Tryz.pinned (.plain (OpenSpec.upto versionApartSpec)) versionApartUptoCard

/-- THE SECOND FORM's CARD OF 'shipyardlaw21.VersionFull'. -/
def versionFullUptoCard : Claim7 := { stood := { row := versionFullUptoRow, standIns := [], harness := (true, "84767e5bdc52dcb5e78cd345a222adead7c01bb53611c6dd9111ba1115c67124"), looks := false }, kinds := [], alts := [], laidByText := true, laidKinds := [.data, .pinned], laidTests := true, laidLooks := .later }
def VersionFullUptoCardSaid : Prop := Claim7.holds Tryz.pinned (.plain (OpenSpec.upto versionFullSpec)) versionFullUptoCard

/-- THE SECOND FORM's CARD OF 'shipyardlaw21.VersionReplays'. -/
def versionReplaysUptoCard : Claim7 := { stood := { row := versionReplaysUptoRow, standIns := [], harness := (true, "84767e5bdc52dcb5e78cd345a222adead7c01bb53611c6dd9111ba1115c67124"), looks := false }, kinds := [], alts := [], laidByText := true, laidKinds := [.data, .pinned], laidTests := true, laidLooks := .later }
def VersionReplaysUptoCardSaid : Prop := Claim7.holds Tryz.pinned (.plain (OpenSpec.upto versionReplaysSpec)) versionReplaysUptoCard
end Rows
end Go.Proofs.YtcnfagefgkblkaaGreatDoor

/-
  DERIVED. GIVEN WITH THE SEED: THE CARDS: each row of YtjbepehejjmjoaaGreatDoorRows.lean that lists a variable, with what it lists TIED to the program's text (the seventh form; the later family's looks); each row that meets fmt, with fmt's text TOLD by the authors' own Lean function (tested against real Go, not proved from fmt's source: count such statements apart). THE CARD IS WHAT COUNTS. Prove the row's statement (the work); the ties are given (YtjbepehejjmjoaaGreatDoorTie.lean); close each card by the builder's one call (the guide's Derived/Test/ToyasCard.lean, 'card_holds'). Laid BY PROGRAM, IN A SANDBOX (cutbox-door.mjs). By AI agents, Wed Nov 11 2026. No macro, syntax, notation, axiom, sorry.
-/
import Derived.Test.YtjbepehejjmjoaaGreatDoorRows
import GoSem.ClaimSeven
namespace Go.Proofs.YtjbepehejjmjoaaGreatDoor
namespace Rows

/-- THE TIED CARD OF 'shipyardlaw17.StructureChecks'. -/
def structureChecksCard : Claim7 := { stood := { row := structureChecksRow, standIns := [], harness := (true, "841c540a5766a89e4241175ee1bdb2a24002bf6a66f45f1fba732cb0b0fcee3e"), looks := false }, kinds := [], alts := [], laidByText := true, laidKinds := [.data, .pinned], laidTests := true, laidLooks := .later }
def StructureChecksCardSaid : Prop := Claim7.holds Tryz.pinned (.plain (OpenSpec.ofChange structureChecksSpec)) structureChecksCard

/-- THE TIED CARD OF 'shipyardlaw17.StructureOne'. -/
def structureOneCard : Claim7 := { stood := { row := structureOneRow, standIns := [], harness := (true, "841c540a5766a89e4241175ee1bdb2a24002bf6a66f45f1fba732cb0b0fcee3e"), looks := false }, kinds := [], alts := [], laidByText := true, laidKinds := [.data, .pinned], laidTests := true, laidLooks := .later }
def StructureOneCardSaid : Prop := Claim7.holds Tryz.pinned (.plain (OpenSpec.ofChange structureOneSpec)) structureOneCard

/-- THE TIED CARD OF 'shipyardlaw17.StructurePaths'. -/
def structurePathsCard : Claim7 := { stood := { row := structurePathsRow, standIns := [], harness := (true, "841c540a5766a89e4241175ee1bdb2a24002bf6a66f45f1fba732cb0b0fcee3e"), looks := false }, kinds := [], alts := [], laidByText := true, laidKinds := [.data, .pinned], laidTests := true, laidLooks := .later }
def StructurePathsCardSaid : Prop := Claim7.holds Tryz.pinned (.plain (OpenSpec.ofChange structurePathsSpec)) structurePathsCard

/-- THE TIED CARD OF 'shipyardlaw17.StructureLess'. -/
def structureLessCard : Claim7 := { stood := { row := structureLessRow, standIns := [], harness := (true, "841c540a5766a89e4241175ee1bdb2a24002bf6a66f45f1fba732cb0b0fcee3e"), looks := false }, kinds := [], alts := [], laidByText := true, laidKinds := [.data, .pinned], laidTests := true, laidLooks := .later }
def StructureLessCardSaid : Prop := Claim7.holds Tryz.pinned (.plain (OpenSpec.ofChange structureLessSpec)) structureLessCard

/-- THE TIED CARD OF 'shipyardlaw17.StructureLong'. -/
def structureLongCard : Claim7 := { stood := { row := structureLongRow, standIns := [], harness := (true, "841c540a5766a89e4241175ee1bdb2a24002bf6a66f45f1fba732cb0b0fcee3e"), looks := false }, kinds := [], alts := [], laidByText := true, laidKinds := [.data, .pinned], laidTests := true, laidLooks := .later }
def StructureLongCardSaid : Prop := Claim7.holds Tryz.pinned (.plain (OpenSpec.ofChange structureLongSpec)) structureLongCard

/-- THE SECOND FORM's CARD OF 'shipyardlaw17.StructureChecks'. -/
def structureChecksUptoCard : Claim7 := { stood := { row := structureChecksUptoRow, standIns := [], harness := (true, "841c540a5766a89e4241175ee1bdb2a24002bf6a66f45f1fba732cb0b0fcee3e"), looks := false }, kinds := [], alts := [], laidByText := true, laidKinds := [.data, .pinned], laidTests := true, laidLooks := .later }
def StructureChecksUptoCardSaid : Prop := Claim7.holds Tryz.pinned (.plain (OpenSpec.upto structureChecksSpec)) structureChecksUptoCard

/-- THE SECOND FORM's CARD OF 'shipyardlaw17.StructureOne'. -/
def structureOneUptoCard : Claim7 := { stood := { row := structureOneUptoRow, standIns := [], harness := (true, "841c540a5766a89e4241175ee1bdb2a24002bf6a66f45f1fba732cb0b0fcee3e"), looks := false }, kinds := [], alts := [], laidByText := true, laidKinds := [.data, .pinned], laidTests := true, laidLooks := .later }
def StructureOneUptoCardSaid : Prop := Claim7.holds Tryz.pinned (.plain (OpenSpec.upto structureOneSpec)) structureOneUptoCard

/-- THE SECOND FORM's CARD OF 'shipyardlaw17.StructurePaths'. -/
def structurePathsUptoCard : Claim7 := { stood := { row := structurePathsUptoRow, standIns := [], harness := (true, "841c540a5766a89e4241175ee1bdb2a24002bf6a66f45f1fba732cb0b0fcee3e"), looks := false }, kinds := [], alts := [], laidByText := true, laidKinds := [.data, .pinned], laidTests := true, laidLooks := .later }
def StructurePathsUptoCardSaid : Prop := Claim7.holds Tryz.pinned (.plain (OpenSpec.upto structurePathsSpec)) structurePathsUptoCard

/-- THE SECOND FORM's CARD OF 'shipyardlaw17.StructureLess'. -/
def structureLessUptoCard : Claim7 := { stood := { row := structureLessUptoRow, standIns := [], harness := (true, "841c540a5766a89e4241175ee1bdb2a24002bf6a66f45f1fba732cb0b0fcee3e"), looks := false }, kinds := [], alts := [], laidByText := true, laidKinds := [.data, .pinned], laidTests := true, laidLooks := .later }
def StructureLessUptoCardSaid : Prop := Claim7.holds Tryz.pinned (.plain (OpenSpec.upto structureLessSpec)) structureLessUptoCard

/-- THE SECOND FORM's CARD OF 'shipyardlaw17.StructureLong'. -/
def structureLongUptoCard : Claim7 := { stood := { row := structureLongUptoRow, standIns := [], harness := (true, "841c540a5766a89e4241175ee1bdb2a24002bf6a66f45f1fba732cb0b0fcee3e"), looks := false }, kinds := [], alts := [], laidByText := true, laidKinds := [.data, .pinned], laidTests := true, laidLooks := .later }
def StructureLongUptoCardSaid : Prop := Claim7.holds Tryz.pinned (.plain (OpenSpec.upto structureLongSpec)) structureLongUptoCard
end Rows
end Go.Proofs.YtjbepehejjmjoaaGreatDoor

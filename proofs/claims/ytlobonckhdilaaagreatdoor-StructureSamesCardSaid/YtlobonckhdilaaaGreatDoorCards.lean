/-
  DERIVED. GIVEN WITH THE SEED: THE CARDS: each row of YtlobonckhdilaaaGreatDoorRows.lean that lists a variable, with what it lists TIED to the program's text (the seventh form; the later family's looks); each row that meets fmt, with fmt's text TOLD by the authors' own Lean function (tested against real Go, not proved from fmt's source: count such statements apart). THE CARD IS WHAT COUNTS. Prove the row's statement (the work); the ties are given (YtlobonckhdilaaaGreatDoorTie.lean); close each card by the builder's one call (the guide's Derived/Test/ToyasCard.lean, 'card_holds'). Laid BY PROGRAM, IN A SANDBOX (cutbox-door.mjs). By AI agents, Wed Nov 11 2026. No macro, syntax, notation, axiom, sorry.
-/
import Derived.Test.YtlobonckhdilaaaGreatDoorRows
import GoSem.ClaimSeven
namespace Go.Proofs.YtlobonckhdilaaaGreatDoor
namespace Rows

/-- THE TIED CARD OF 'shipyardlaw17.StructureBlocks'. -/
def structureBlocksCard : Claim7 := { stood := { row := structureBlocksRow, standIns := [], harness := (true, "4b5a6a0db62e7852dfeb64d2440013edfad0dfa8831870d4e777d88fcb0ef73b"), looks := false }, kinds := [], alts := [], laidByText := true, laidKinds := [.data, .pinned], laidTests := true, laidLooks := .later }
def StructureBlocksCardSaid : Prop := Claim7.holds Tryz.pinned (.plain (OpenSpec.ofChange structureBlocksSpec)) structureBlocksCard

/-- THE TIED CARD OF 'shipyardlaw17.StructureSames'. -/
def structureSamesCard : Claim7 := { stood := { row := structureSamesRow, standIns := [], harness := (true, "4b5a6a0db62e7852dfeb64d2440013edfad0dfa8831870d4e777d88fcb0ef73b"), looks := false }, kinds := [], alts := [], laidByText := true, laidKinds := [.data, .pinned], laidTests := true, laidLooks := .later }
def StructureSamesCardSaid : Prop := Claim7.holds Tryz.pinned (.plain (OpenSpec.ofChange structureSamesSpec)) structureSamesCard

/-- THE TIED CARD OF 'shipyardlaw17.StructureLong'. -/
def structureLongCard : Claim7 := { stood := { row := structureLongRow, standIns := [], harness := (true, "4b5a6a0db62e7852dfeb64d2440013edfad0dfa8831870d4e777d88fcb0ef73b"), looks := false }, kinds := [], alts := [], laidByText := true, laidKinds := [.data, .pinned], laidTests := true, laidLooks := .later }
def StructureLongCardSaid : Prop := Claim7.holds Tryz.pinned (.plain (OpenSpec.ofChange structureLongSpec)) structureLongCard

/-- THE TIED CARD OF 'shipyardlaw17.StructureFinds'. -/
def structureFindsCard : Claim7 := { stood := { row := structureFindsRow, standIns := [], harness := (true, "4b5a6a0db62e7852dfeb64d2440013edfad0dfa8831870d4e777d88fcb0ef73b"), looks := false }, kinds := [], alts := [], laidByText := true, laidKinds := [.data, .pinned], laidTests := true, laidLooks := .later }
def StructureFindsCardSaid : Prop := Claim7.holds Tryz.pinned (.plain (OpenSpec.ofChange structureFindsSpec)) structureFindsCard

/-- THE SECOND FORM's CARD OF 'shipyardlaw17.StructureBlocks'. -/
def structureBlocksUptoCard : Claim7 := { stood := { row := structureBlocksUptoRow, standIns := [], harness := (true, "4b5a6a0db62e7852dfeb64d2440013edfad0dfa8831870d4e777d88fcb0ef73b"), looks := false }, kinds := [], alts := [], laidByText := true, laidKinds := [.data, .pinned], laidTests := true, laidLooks := .later }
def StructureBlocksUptoCardSaid : Prop := Claim7.holds Tryz.pinned (.plain (OpenSpec.upto structureBlocksSpec)) structureBlocksUptoCard

/-- THE SECOND FORM's CARD OF 'shipyardlaw17.StructureSames'. -/
def structureSamesUptoCard : Claim7 := { stood := { row := structureSamesUptoRow, standIns := [], harness := (true, "4b5a6a0db62e7852dfeb64d2440013edfad0dfa8831870d4e777d88fcb0ef73b"), looks := false }, kinds := [], alts := [], laidByText := true, laidKinds := [.data, .pinned], laidTests := true, laidLooks := .later }
def StructureSamesUptoCardSaid : Prop := Claim7.holds Tryz.pinned (.plain (OpenSpec.upto structureSamesSpec)) structureSamesUptoCard

/-- THE SECOND FORM's CARD OF 'shipyardlaw17.StructureLong'. -/
def structureLongUptoCard : Claim7 := { stood := { row := structureLongUptoRow, standIns := [], harness := (true, "4b5a6a0db62e7852dfeb64d2440013edfad0dfa8831870d4e777d88fcb0ef73b"), looks := false }, kinds := [], alts := [], laidByText := true, laidKinds := [.data, .pinned], laidTests := true, laidLooks := .later }
def StructureLongUptoCardSaid : Prop := Claim7.holds Tryz.pinned (.plain (OpenSpec.upto structureLongSpec)) structureLongUptoCard

/-- THE SECOND FORM's CARD OF 'shipyardlaw17.StructureFinds'. -/
def structureFindsUptoCard : Claim7 := { stood := { row := structureFindsUptoRow, standIns := [], harness := (true, "4b5a6a0db62e7852dfeb64d2440013edfad0dfa8831870d4e777d88fcb0ef73b"), looks := false }, kinds := [], alts := [], laidByText := true, laidKinds := [.data, .pinned], laidTests := true, laidLooks := .later }
def StructureFindsUptoCardSaid : Prop := Claim7.holds Tryz.pinned (.plain (OpenSpec.upto structureFindsSpec)) structureFindsUptoCard
end Rows
end Go.Proofs.YtlobonckhdilaaaGreatDoor

/-
  DERIVED. GIVEN WITH THE SEED: THE CARDS: each row of YtcdomkejkfcjlaaGreatDoorRows.lean that lists a variable, with what it lists TIED to the program's text (the seventh form; the later family's looks); each row that meets fmt, with fmt's text TOLD by the authors' own Lean function (tested against real Go, not proved from fmt's source: count such statements apart). THE CARD IS WHAT COUNTS. Prove the row's statement (the work); the ties are given (YtcdomkejkfcjlaaGreatDoorTie.lean); close each card by the builder's one call (the guide's Derived/Test/ToyasCard.lean, 'card_holds'). Laid BY PROGRAM, IN A SANDBOX (cutbox-door.mjs). By AI agents, Wed Nov 11 2026. No macro, syntax, notation, axiom, sorry.
-/
import Derived.Test.YtcdomkejkfcjlaaGreatDoorRows
import GoSem.ClaimSeven
namespace Go.Proofs.YtcdomkejkfcjlaaGreatDoor
namespace Rows

/-- THE TIED CARD OF 'shipyardlaw17.StructureChecks'. -/
def structureChecksCard : Claim7 := { stood := { row := structureChecksRow, standIns := [], harness := (true, "69676280005b7547603992d937cd4d7f5faffeae9c9ef83bc7c2a79531aa309e"), looks := false }, kinds := [], alts := [], laidByText := true, laidKinds := [.data, .pinned], laidTests := true, laidLooks := .later }
def StructureChecksCardSaid : Prop := Claim7.holds Tryz.pinned (.plain (OpenSpec.ofChange structureChecksSpec)) structureChecksCard

/-- THE TIED CARD OF 'shipyardlaw17.StructureOne'. -/
def structureOneCard : Claim7 := { stood := { row := structureOneRow, standIns := [], harness := (true, "69676280005b7547603992d937cd4d7f5faffeae9c9ef83bc7c2a79531aa309e"), looks := false }, kinds := [], alts := [], laidByText := true, laidKinds := [.data, .pinned], laidTests := true, laidLooks := .later }
def StructureOneCardSaid : Prop := Claim7.holds Tryz.pinned (.plain (OpenSpec.ofChange structureOneSpec)) structureOneCard

/-- THE TIED CARD OF 'shipyardlaw17.StructurePaths'. -/
def structurePathsCard : Claim7 := { stood := { row := structurePathsRow, standIns := [], harness := (true, "69676280005b7547603992d937cd4d7f5faffeae9c9ef83bc7c2a79531aa309e"), looks := false }, kinds := [], alts := [], laidByText := true, laidKinds := [.data, .pinned], laidTests := true, laidLooks := .later }
def StructurePathsCardSaid : Prop := Claim7.holds Tryz.pinned (.plain (OpenSpec.ofChange structurePathsSpec)) structurePathsCard

/-- THE TIED CARD OF 'shipyardlaw17.StructureLess'. -/
def structureLessCard : Claim7 := { stood := { row := structureLessRow, standIns := [], harness := (true, "69676280005b7547603992d937cd4d7f5faffeae9c9ef83bc7c2a79531aa309e"), looks := false }, kinds := [], alts := [], laidByText := true, laidKinds := [.data, .pinned], laidTests := true, laidLooks := .later }
def StructureLessCardSaid : Prop := Claim7.holds Tryz.pinned (.plain (OpenSpec.ofChange structureLessSpec)) structureLessCard

/-- THE SECOND FORM's CARD OF 'shipyardlaw17.StructureChecks'. -/
def structureChecksUptoCard : Claim7 := { stood := { row := structureChecksUptoRow, standIns := [], harness := (true, "69676280005b7547603992d937cd4d7f5faffeae9c9ef83bc7c2a79531aa309e"), looks := false }, kinds := [], alts := [], laidByText := true, laidKinds := [.data, .pinned], laidTests := true, laidLooks := .later }
def StructureChecksUptoCardSaid : Prop := Claim7.holds Tryz.pinned (.plain (OpenSpec.upto structureChecksSpec)) structureChecksUptoCard

/-- THE SECOND FORM's CARD OF 'shipyardlaw17.StructureOne'. -/
def structureOneUptoCard : Claim7 := { stood := { row := structureOneUptoRow, standIns := [], harness := (true, "69676280005b7547603992d937cd4d7f5faffeae9c9ef83bc7c2a79531aa309e"), looks := false }, kinds := [], alts := [], laidByText := true, laidKinds := [.data, .pinned], laidTests := true, laidLooks := .later }
def StructureOneUptoCardSaid : Prop := Claim7.holds Tryz.pinned (.plain (OpenSpec.upto structureOneSpec)) structureOneUptoCard

/-- THE SECOND FORM's CARD OF 'shipyardlaw17.StructurePaths'. -/
def structurePathsUptoCard : Claim7 := { stood := { row := structurePathsUptoRow, standIns := [], harness := (true, "69676280005b7547603992d937cd4d7f5faffeae9c9ef83bc7c2a79531aa309e"), looks := false }, kinds := [], alts := [], laidByText := true, laidKinds := [.data, .pinned], laidTests := true, laidLooks := .later }
def StructurePathsUptoCardSaid : Prop := Claim7.holds Tryz.pinned (.plain (OpenSpec.upto structurePathsSpec)) structurePathsUptoCard

/-- THE SECOND FORM's CARD OF 'shipyardlaw17.StructureLess'. -/
def structureLessUptoCard : Claim7 := { stood := { row := structureLessUptoRow, standIns := [], harness := (true, "69676280005b7547603992d937cd4d7f5faffeae9c9ef83bc7c2a79531aa309e"), looks := false }, kinds := [], alts := [], laidByText := true, laidKinds := [.data, .pinned], laidTests := true, laidLooks := .later }
def StructureLessUptoCardSaid : Prop := Claim7.holds Tryz.pinned (.plain (OpenSpec.upto structureLessSpec)) structureLessUptoCard
end Rows
end Go.Proofs.YtcdomkejkfcjlaaGreatDoor

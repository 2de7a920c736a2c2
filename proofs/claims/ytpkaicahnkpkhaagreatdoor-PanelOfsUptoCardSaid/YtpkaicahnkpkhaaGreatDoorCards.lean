/-
  DERIVED. GIVEN WITH THE SEED: THE CARDS: each row of YtpkaicahnkpkhaaGreatDoorRows.lean that lists a variable, with what it lists TIED to the program's text (the seventh form; the later family's looks); each row that meets fmt, with fmt's text TOLD by the authors' own Lean function (tested against real Go, not proved from fmt's source: count such statements apart). THE CARD IS WHAT COUNTS. Prove the row's statement (the work); the ties are given (YtpkaicahnkpkhaaGreatDoorTie.lean); close each card by the builder's one call (the guide's Derived/Test/ToyasCard.lean, 'card_holds'). Laid BY PROGRAM, IN A SANDBOX (cutbox-door.mjs). By AI agents, Wed Nov 11 2026. No macro, syntax, notation, axiom, sorry.
-/
import Derived.Test.YtpkaicahnkpkhaaGreatDoorRows
import GoSem.ClaimSeven
namespace Go.Proofs.YtpkaicahnkpkhaaGreatDoor
namespace Rows

/-- THE TIED CARD OF 'shipyardlaw39.PanelOfs'. -/
def panelOfsCard : Claim7 := { stood := { row := panelOfsRow, standIns := [], harness := (true, "a270e44740f9e7d08f6675cd6629620c2e4d5599f1ae26c3d95e303b675bafbf"), looks := false }, kinds := [], alts := [], laidByText := true, laidKinds := [.data, .pinned], laidTests := true, laidLooks := .later }
def PanelOfsCardSaid : Prop := Claim7.holds Tryz.pinned (.plain (OpenSpec.ofChange panelOfsSpec)) panelOfsCard

/-- THE TIED CARD OF 'shipyardlaw39.PanelPlans'. -/
def panelPlansCard : Claim7 := { stood := { row := panelPlansRow, standIns := [], harness := (true, "a270e44740f9e7d08f6675cd6629620c2e4d5599f1ae26c3d95e303b675bafbf"), looks := false }, kinds := [], alts := [], laidByText := true, laidKinds := [.data, .pinned], laidTests := true, laidLooks := .later }
def PanelPlansCardSaid : Prop := Claim7.holds Tryz.pinned (.plain (OpenSpec.ofChange panelPlansSpec)) panelPlansCard

/-- THE TIED CARD OF 'shipyardlaw39.PanelBest'. -/
def panelBestCard : Claim7 := { stood := { row := panelBestRow, standIns := [], harness := (true, "a270e44740f9e7d08f6675cd6629620c2e4d5599f1ae26c3d95e303b675bafbf"), looks := false }, kinds := [], alts := [], laidByText := true, laidKinds := [.data, .pinned], laidTests := true, laidLooks := .later }
def PanelBestCardSaid : Prop := Claim7.holds Tryz.pinned (.plain (OpenSpec.ofChange panelBestSpec)) panelBestCard

/-- THE TIED CARD OF 'shipyardlaw39.PanelBelow'. -/
def panelBelowCard : Claim7 := { stood := { row := panelBelowRow, standIns := [], harness := (true, "a270e44740f9e7d08f6675cd6629620c2e4d5599f1ae26c3d95e303b675bafbf"), looks := false }, kinds := [], alts := [], laidByText := true, laidKinds := [.data, .pinned], laidTests := true, laidLooks := .later }
def PanelBelowCardSaid : Prop := Claim7.holds Tryz.pinned (.plain (OpenSpec.ofChange panelBelowSpec)) panelBelowCard

/-- THE SECOND FORM's CARD OF 'shipyardlaw39.PanelOfs'. -/
def panelOfsUptoCard : Claim7 := { stood := { row := panelOfsUptoRow, standIns := [], harness := (true, "a270e44740f9e7d08f6675cd6629620c2e4d5599f1ae26c3d95e303b675bafbf"), looks := false }, kinds := [], alts := [], laidByText := true, laidKinds := [.data, .pinned], laidTests := true, laidLooks := .later }
def PanelOfsUptoCardSaid : Prop := Claim7.holds Tryz.pinned (.plain (OpenSpec.upto panelOfsSpec)) panelOfsUptoCard

/-- THE SECOND FORM's CARD OF 'shipyardlaw39.PanelPlans'. -/
def panelPlansUptoCard : Claim7 := { stood := { row := panelPlansUptoRow, standIns := [], harness := (true, "a270e44740f9e7d08f6675cd6629620c2e4d5599f1ae26c3d95e303b675bafbf"), looks := false }, kinds := [], alts := [], laidByText := true, laidKinds := [.data, .pinned], laidTests := true, laidLooks := .later }
def PanelPlansUptoCardSaid : Prop := Claim7.holds Tryz.pinned (.plain (OpenSpec.upto panelPlansSpec)) panelPlansUptoCard

/-- THE SECOND FORM's CARD OF 'shipyardlaw39.PanelBest'. -/
def panelBestUptoCard : Claim7 := { stood := { row := panelBestUptoRow, standIns := [], harness := (true, "a270e44740f9e7d08f6675cd6629620c2e4d5599f1ae26c3d95e303b675bafbf"), looks := false }, kinds := [], alts := [], laidByText := true, laidKinds := [.data, .pinned], laidTests := true, laidLooks := .later }
def PanelBestUptoCardSaid : Prop := Claim7.holds Tryz.pinned (.plain (OpenSpec.upto panelBestSpec)) panelBestUptoCard

/-- THE SECOND FORM's CARD OF 'shipyardlaw39.PanelBelow'. -/
def panelBelowUptoCard : Claim7 := { stood := { row := panelBelowUptoRow, standIns := [], harness := (true, "a270e44740f9e7d08f6675cd6629620c2e4d5599f1ae26c3d95e303b675bafbf"), looks := false }, kinds := [], alts := [], laidByText := true, laidKinds := [.data, .pinned], laidTests := true, laidLooks := .later }
def PanelBelowUptoCardSaid : Prop := Claim7.holds Tryz.pinned (.plain (OpenSpec.upto panelBelowSpec)) panelBelowUptoCard
end Rows
end Go.Proofs.YtpkaicahnkpkhaaGreatDoor

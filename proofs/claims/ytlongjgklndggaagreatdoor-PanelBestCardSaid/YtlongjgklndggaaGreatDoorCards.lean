/-
  DERIVED. GIVEN WITH THE SEED: THE CARDS: each row of YtlongjgklndggaaGreatDoorRows.lean that lists a variable, with what it lists TIED to the program's text (the seventh form; the later family's looks); each row that meets fmt, with fmt's text TOLD by the authors' own Lean function (tested against real Go, not proved from fmt's source: count such statements apart). THE CARD IS WHAT COUNTS. Prove the row's statement (the work); the ties are given (YtlongjgklndggaaGreatDoorTie.lean); close each card by the builder's one call (the guide's Derived/Test/ToyasCard.lean, 'card_holds'). Laid BY PROGRAM, IN A SANDBOX (cutbox-door.mjs). By AI agents, Wed Nov 11 2026. No macro, syntax, notation, axiom, sorry.
-/
import Derived.Test.YtlongjgklndggaaGreatDoorRows
import GoSem.ClaimSeven
namespace Go.Proofs.YtlongjgklndggaaGreatDoor
namespace Rows

/-- THE TIED CARD OF 'shipyardlaw39.PanelPlans'. -/
def panelPlansCard : Claim7 := { stood := { row := panelPlansRow, standIns := [], harness := (true, "469ea69c9de5f056009cd6c43e190f534961418bfe1855f604e5e49232fd4451"), looks := false }, kinds := [], alts := [], laidByText := true, laidKinds := [.data, .pinned], laidTests := true, laidLooks := .later }
def PanelPlansCardSaid : Prop := Claim7.holds Tryz.pinned (.plain (OpenSpec.ofChange panelPlansSpec)) panelPlansCard

/-- THE TIED CARD OF 'shipyardlaw39.PanelBest'. -/
def panelBestCard : Claim7 := { stood := { row := panelBestRow, standIns := [], harness := (true, "469ea69c9de5f056009cd6c43e190f534961418bfe1855f604e5e49232fd4451"), looks := false }, kinds := [], alts := [], laidByText := true, laidKinds := [.data, .pinned], laidTests := true, laidLooks := .later }
def PanelBestCardSaid : Prop := Claim7.holds Tryz.pinned (.plain (OpenSpec.ofChange panelBestSpec)) panelBestCard

/-- THE SECOND FORM's CARD OF 'shipyardlaw39.PanelPlans'. -/
def panelPlansUptoCard : Claim7 := { stood := { row := panelPlansUptoRow, standIns := [], harness := (true, "469ea69c9de5f056009cd6c43e190f534961418bfe1855f604e5e49232fd4451"), looks := false }, kinds := [], alts := [], laidByText := true, laidKinds := [.data, .pinned], laidTests := true, laidLooks := .later }
def PanelPlansUptoCardSaid : Prop := Claim7.holds Tryz.pinned (.plain (OpenSpec.upto panelPlansSpec)) panelPlansUptoCard

/-- THE SECOND FORM's CARD OF 'shipyardlaw39.PanelBest'. -/
def panelBestUptoCard : Claim7 := { stood := { row := panelBestUptoRow, standIns := [], harness := (true, "469ea69c9de5f056009cd6c43e190f534961418bfe1855f604e5e49232fd4451"), looks := false }, kinds := [], alts := [], laidByText := true, laidKinds := [.data, .pinned], laidTests := true, laidLooks := .later }
def PanelBestUptoCardSaid : Prop := Claim7.holds Tryz.pinned (.plain (OpenSpec.upto panelBestSpec)) panelBestUptoCard
end Rows
end Go.Proofs.YtlongjgklndggaaGreatDoor

/-
  DERIVED. GIVEN WITH THE SEED: THE CARDS: each row of YtglbgioimibmjaaGreatDoorRows.lean that lists a variable, with what it lists TIED to the program's text (the seventh form; the later family's looks); each row that meets fmt, with fmt's text TOLD by the authors' own Lean function (tested against real Go, not proved from fmt's source: count such statements apart). THE CARD IS WHAT COUNTS. Prove the row's statement (the work); the ties are given (YtglbgioimibmjaaGreatDoorTie.lean); close each card by the builder's one call (the guide's Derived/Test/ToyasCard.lean, 'card_holds'). Laid BY PROGRAM, IN A SANDBOX (cutbox-door.mjs). By AI agents, Wed Nov 11 2026. No macro, syntax, notation, axiom, sorry.
-/
import Derived.Test.YtglbgioimibmjaaGreatDoorRows
import GoSem.ClaimSeven
namespace Go.Proofs.YtglbgioimibmjaaGreatDoor
namespace Rows

/-- THE TIED CARD OF 'shipyardlaw39.PanelMinutes'. -/
def panelMinutesCard : Claim7 := { stood := { row := panelMinutesRow, standIns := [], harness := (true, "4ad480e9bc954dc44672e123cc0c6613434adb5204b8f86c65171a7e588629f6"), looks := false }, kinds := [], alts := [], laidByText := true, laidKinds := [.data, .pinned], laidTests := true, laidLooks := .later }
def PanelMinutesCardSaid : Prop := Claim7.holds Tryz.pinned (.plain (OpenSpec.ofChange panelMinutesSpec)) panelMinutesCard

/-- THE TIED CARD OF 'shipyardlaw39.PanelJobs'. -/
def panelJobsCard : Claim7 := { stood := { row := panelJobsRow, standIns := [], harness := (true, "4ad480e9bc954dc44672e123cc0c6613434adb5204b8f86c65171a7e588629f6"), looks := false }, kinds := [], alts := [], laidByText := true, laidKinds := [.data, .pinned], laidTests := true, laidLooks := .later }
def PanelJobsCardSaid : Prop := Claim7.holds Tryz.pinned (.plain (OpenSpec.ofChange panelJobsSpec)) panelJobsCard

/-- THE TIED CARD OF 'shipyardlaw39.PanelPlans'. -/
def panelPlansCard : Claim7 := { stood := { row := panelPlansRow, standIns := [], harness := (true, "4ad480e9bc954dc44672e123cc0c6613434adb5204b8f86c65171a7e588629f6"), looks := false }, kinds := [], alts := [], laidByText := true, laidKinds := [.data, .pinned], laidTests := true, laidLooks := .later }
def PanelPlansCardSaid : Prop := Claim7.holds Tryz.pinned (.plain (OpenSpec.ofChange panelPlansSpec)) panelPlansCard

/-- THE TIED CARD OF 'shipyardlaw39.PanelMore'. -/
def panelMoreCard : Claim7 := { stood := { row := panelMoreRow, standIns := [], harness := (true, "4ad480e9bc954dc44672e123cc0c6613434adb5204b8f86c65171a7e588629f6"), looks := false }, kinds := [], alts := [], laidByText := true, laidKinds := [.data, .pinned], laidTests := true, laidLooks := .later }
def PanelMoreCardSaid : Prop := Claim7.holds Tryz.pinned (.plain (OpenSpec.ofChange panelMoreSpec)) panelMoreCard

/-- THE TIED CARD OF 'shipyardlaw39.PanelBest'. -/
def panelBestCard : Claim7 := { stood := { row := panelBestRow, standIns := [], harness := (true, "4ad480e9bc954dc44672e123cc0c6613434adb5204b8f86c65171a7e588629f6"), looks := false }, kinds := [], alts := [], laidByText := true, laidKinds := [.data, .pinned], laidTests := true, laidLooks := .later }
def PanelBestCardSaid : Prop := Claim7.holds Tryz.pinned (.plain (OpenSpec.ofChange panelBestSpec)) panelBestCard

/-- THE SECOND FORM's CARD OF 'shipyardlaw39.PanelMinutes'. -/
def panelMinutesUptoCard : Claim7 := { stood := { row := panelMinutesUptoRow, standIns := [], harness := (true, "4ad480e9bc954dc44672e123cc0c6613434adb5204b8f86c65171a7e588629f6"), looks := false }, kinds := [], alts := [], laidByText := true, laidKinds := [.data, .pinned], laidTests := true, laidLooks := .later }
def PanelMinutesUptoCardSaid : Prop := Claim7.holds Tryz.pinned (.plain (OpenSpec.upto panelMinutesSpec)) panelMinutesUptoCard

/-- THE SECOND FORM's CARD OF 'shipyardlaw39.PanelJobs'. -/
def panelJobsUptoCard : Claim7 := { stood := { row := panelJobsUptoRow, standIns := [], harness := (true, "4ad480e9bc954dc44672e123cc0c6613434adb5204b8f86c65171a7e588629f6"), looks := false }, kinds := [], alts := [], laidByText := true, laidKinds := [.data, .pinned], laidTests := true, laidLooks := .later }
def PanelJobsUptoCardSaid : Prop := Claim7.holds Tryz.pinned (.plain (OpenSpec.upto panelJobsSpec)) panelJobsUptoCard

/-- THE SECOND FORM's CARD OF 'shipyardlaw39.PanelPlans'. -/
def panelPlansUptoCard : Claim7 := { stood := { row := panelPlansUptoRow, standIns := [], harness := (true, "4ad480e9bc954dc44672e123cc0c6613434adb5204b8f86c65171a7e588629f6"), looks := false }, kinds := [], alts := [], laidByText := true, laidKinds := [.data, .pinned], laidTests := true, laidLooks := .later }
def PanelPlansUptoCardSaid : Prop := Claim7.holds Tryz.pinned (.plain (OpenSpec.upto panelPlansSpec)) panelPlansUptoCard

/-- THE SECOND FORM's CARD OF 'shipyardlaw39.PanelMore'. -/
def panelMoreUptoCard : Claim7 := { stood := { row := panelMoreUptoRow, standIns := [], harness := (true, "4ad480e9bc954dc44672e123cc0c6613434adb5204b8f86c65171a7e588629f6"), looks := false }, kinds := [], alts := [], laidByText := true, laidKinds := [.data, .pinned], laidTests := true, laidLooks := .later }
def PanelMoreUptoCardSaid : Prop := Claim7.holds Tryz.pinned (.plain (OpenSpec.upto panelMoreSpec)) panelMoreUptoCard

/-- THE SECOND FORM's CARD OF 'shipyardlaw39.PanelBest'. -/
def panelBestUptoCard : Claim7 := { stood := { row := panelBestUptoRow, standIns := [], harness := (true, "4ad480e9bc954dc44672e123cc0c6613434adb5204b8f86c65171a7e588629f6"), looks := false }, kinds := [], alts := [], laidByText := true, laidKinds := [.data, .pinned], laidTests := true, laidLooks := .later }
def PanelBestUptoCardSaid : Prop := Claim7.holds Tryz.pinned (.plain (OpenSpec.upto panelBestSpec)) panelBestUptoCard
end Rows
end Go.Proofs.YtglbgioimibmjaaGreatDoor

/-
  DERIVED. GIVEN WITH THE SEED: THE CARDS: each row of YtgcdkgglcloniaaGreatDoorRows.lean that lists a variable, with what it lists TIED to the program's text (the seventh form; the later family's looks); each row that meets fmt, with fmt's text TOLD by the authors' own Lean function (tested against real Go, not proved from fmt's source: count such statements apart). THE CARD IS WHAT COUNTS. Prove the row's statement (the work); the ties are given (YtgcdkgglcloniaaGreatDoorTie.lean); close each card by the builder's one call (the guide's Derived/Test/ToyasCard.lean, 'card_holds'). Laid BY PROGRAM, IN A SANDBOX (cutbox-door.mjs). By AI agents, Wed Nov 11 2026. No macro, syntax, notation, axiom, sorry.
-/
import Derived.Test.YtgcdkgglcloniaaGreatDoorRows
import GoSem.ClaimSeven
namespace Go.Proofs.YtgcdkgglcloniaaGreatDoor
namespace Rows

/-- THE TIED CARD OF 'shipyardlaw18.SeamPlaces'. -/
def seamPlacesCard : Claim7 := { stood := { row := seamPlacesRow, standIns := [], harness := (true, "11cfea2f4f60b52b74324e11e0200a37562fc971c3dc9d332b8539f48f10fe7a"), looks := false }, kinds := [], alts := [], laidByText := true, laidKinds := [.data, .pinned], laidTests := true, laidLooks := .later }
def SeamPlacesCardSaid : Prop := Claim7.holds Tryz.pinned (.plain (OpenSpec.ofChange seamPlacesSpec)) seamPlacesCard

/-- THE TIED CARD OF 'shipyardlaw18.SeamTwo'. -/
def seamTwoCard : Claim7 := { stood := { row := seamTwoRow, standIns := [], harness := (true, "11cfea2f4f60b52b74324e11e0200a37562fc971c3dc9d332b8539f48f10fe7a"), looks := false }, kinds := [], alts := [], laidByText := true, laidKinds := [.data, .pinned], laidTests := true, laidLooks := .later }
def SeamTwoCardSaid : Prop := Claim7.holds Tryz.pinned (.plain (OpenSpec.ofChange seamTwoSpec)) seamTwoCard

/-- THE TIED CARD OF 'shipyardlaw18.SeamThin'. -/
def seamThinCard : Claim7 := { stood := { row := seamThinRow, standIns := [], harness := (true, "11cfea2f4f60b52b74324e11e0200a37562fc971c3dc9d332b8539f48f10fe7a"), looks := false }, kinds := [], alts := [], laidByText := true, laidKinds := [.data, .pinned], laidTests := true, laidLooks := .later }
def SeamThinCardSaid : Prop := Claim7.holds Tryz.pinned (.plain (OpenSpec.ofChange seamThinSpec)) seamThinCard

/-- THE TIED CARD OF 'shipyardlaw18.SeamLowest'. -/
def seamLowestCard : Claim7 := { stood := { row := seamLowestRow, standIns := [], harness := (true, "11cfea2f4f60b52b74324e11e0200a37562fc971c3dc9d332b8539f48f10fe7a"), looks := false }, kinds := [], alts := [], laidByText := true, laidKinds := [.data, .pinned], laidTests := true, laidLooks := .later }
def SeamLowestCardSaid : Prop := Claim7.holds Tryz.pinned (.plain (OpenSpec.ofChange seamLowestSpec)) seamLowestCard

/-- THE SECOND FORM's CARD OF 'shipyardlaw18.SeamPlaces'. -/
def seamPlacesUptoCard : Claim7 := { stood := { row := seamPlacesUptoRow, standIns := [], harness := (true, "11cfea2f4f60b52b74324e11e0200a37562fc971c3dc9d332b8539f48f10fe7a"), looks := false }, kinds := [], alts := [], laidByText := true, laidKinds := [.data, .pinned], laidTests := true, laidLooks := .later }
def SeamPlacesUptoCardSaid : Prop := Claim7.holds Tryz.pinned (.plain (OpenSpec.upto seamPlacesSpec)) seamPlacesUptoCard

/-- THE SECOND FORM's CARD OF 'shipyardlaw18.SeamTwo'. -/
def seamTwoUptoCard : Claim7 := { stood := { row := seamTwoUptoRow, standIns := [], harness := (true, "11cfea2f4f60b52b74324e11e0200a37562fc971c3dc9d332b8539f48f10fe7a"), looks := false }, kinds := [], alts := [], laidByText := true, laidKinds := [.data, .pinned], laidTests := true, laidLooks := .later }
def SeamTwoUptoCardSaid : Prop := Claim7.holds Tryz.pinned (.plain (OpenSpec.upto seamTwoSpec)) seamTwoUptoCard

/-- THE SECOND FORM's CARD OF 'shipyardlaw18.SeamThin'. -/
def seamThinUptoCard : Claim7 := { stood := { row := seamThinUptoRow, standIns := [], harness := (true, "11cfea2f4f60b52b74324e11e0200a37562fc971c3dc9d332b8539f48f10fe7a"), looks := false }, kinds := [], alts := [], laidByText := true, laidKinds := [.data, .pinned], laidTests := true, laidLooks := .later }
def SeamThinUptoCardSaid : Prop := Claim7.holds Tryz.pinned (.plain (OpenSpec.upto seamThinSpec)) seamThinUptoCard

/-- THE SECOND FORM's CARD OF 'shipyardlaw18.SeamLowest'. -/
def seamLowestUptoCard : Claim7 := { stood := { row := seamLowestUptoRow, standIns := [], harness := (true, "11cfea2f4f60b52b74324e11e0200a37562fc971c3dc9d332b8539f48f10fe7a"), looks := false }, kinds := [], alts := [], laidByText := true, laidKinds := [.data, .pinned], laidTests := true, laidLooks := .later }
def SeamLowestUptoCardSaid : Prop := Claim7.holds Tryz.pinned (.plain (OpenSpec.upto seamLowestSpec)) seamLowestUptoCard
end Rows
end Go.Proofs.YtgcdkgglcloniaaGreatDoor

/-
  DERIVED. GIVEN WITH THE SEED: THE CARDS: each row of YtlpcelingpgmfaaDoorRows.lean that lists a variable, with what it lists TIED to the program's text (the seventh form; the later family's looks); each row that meets fmt, with fmt's text TOLD by the authors' own Lean function (tested against real Go, not proved from fmt's source: count such statements apart). THE CARD IS WHAT COUNTS. Prove the row's statement (the work); the ties are given (YtlpcelingpgmfaaDoorTie.lean); close each card by the builder's one call (the guide's Derived/Test/ToyasCard.lean, 'card_holds'). Laid BY PROGRAM, IN A SANDBOX (cutbox-door.mjs). By AI agents, Wed Nov 11 2026. No macro, syntax, notation, axiom, sorry.
-/
import Derived.Test.YtlpcelingpgmfaaDoorRows
import GoSem.ClaimSeven
namespace Go.Proofs.YtlpcelingpgmfaaDoor
namespace Rows

/-- THE TIED CARD OF 'shipyardlaw18.SeamChecks'. -/
def seamChecksCard : Claim7 := { stood := { row := seamChecksRow, standIns := [], harness := (true, "bd34841267241415b40043add45493e7e1d761278530eab9e57a44b57f463656"), looks := false }, kinds := [], alts := [], laidByText := true, laidKinds := [.data, .pinned], laidTests := true, laidLooks := .later }
def SeamChecksCardSaid : Prop := Claim7.holds Tryd.pinned (.plain (OpenSpec.ofChange seamChecksSpec)) seamChecksCard

/-- THE TIED CARD OF 'shipyardlaw18.SeamHomes'. -/
def seamHomesCard : Claim7 := { stood := { row := seamHomesRow, standIns := [], harness := (true, "bd34841267241415b40043add45493e7e1d761278530eab9e57a44b57f463656"), looks := false }, kinds := [], alts := [], laidByText := true, laidKinds := [.data, .pinned], laidTests := true, laidLooks := .later }
def SeamHomesCardSaid : Prop := Claim7.holds Tryd.pinned (.plain (OpenSpec.ofChange seamHomesSpec)) seamHomesCard

/-- THE TIED CARD OF 'shipyardlaw18.SeamLists'. -/
def seamListsCard : Claim7 := { stood := { row := seamListsRow, standIns := [], harness := (true, "bd34841267241415b40043add45493e7e1d761278530eab9e57a44b57f463656"), looks := false }, kinds := [], alts := [], laidByText := true, laidKinds := [.data, .pinned], laidTests := true, laidLooks := .later }
def SeamListsCardSaid : Prop := Claim7.holds Tryd.pinned (.plain (OpenSpec.ofChange seamListsSpec)) seamListsCard

/-- THE TIED CARD OF 'shipyardlaw18.SeamThicks'. -/
def seamThicksCard : Claim7 := { stood := { row := seamThicksRow, standIns := [], harness := (true, "bd34841267241415b40043add45493e7e1d761278530eab9e57a44b57f463656"), looks := false }, kinds := [], alts := [], laidByText := true, laidKinds := [.data, .pinned], laidTests := true, laidLooks := .later }
def SeamThicksCardSaid : Prop := Claim7.holds Tryd.pinned (.plain (OpenSpec.ofChange seamThicksSpec)) seamThicksCard

/-- THE SECOND FORM's CARD OF 'shipyardlaw18.SeamChecks'. -/
def seamChecksUptoCard : Claim7 := { stood := { row := seamChecksUptoRow, standIns := [], harness := (true, "bd34841267241415b40043add45493e7e1d761278530eab9e57a44b57f463656"), looks := false }, kinds := [], alts := [], laidByText := true, laidKinds := [.data, .pinned], laidTests := true, laidLooks := .later }
def SeamChecksUptoCardSaid : Prop := Claim7.holds Tryd.pinned (.plain (OpenSpec.upto seamChecksSpec)) seamChecksUptoCard

/-- THE SECOND FORM's CARD OF 'shipyardlaw18.SeamHomes'. -/
def seamHomesUptoCard : Claim7 := { stood := { row := seamHomesUptoRow, standIns := [], harness := (true, "bd34841267241415b40043add45493e7e1d761278530eab9e57a44b57f463656"), looks := false }, kinds := [], alts := [], laidByText := true, laidKinds := [.data, .pinned], laidTests := true, laidLooks := .later }
def SeamHomesUptoCardSaid : Prop := Claim7.holds Tryd.pinned (.plain (OpenSpec.upto seamHomesSpec)) seamHomesUptoCard

/-- THE SECOND FORM's CARD OF 'shipyardlaw18.SeamLists'. -/
def seamListsUptoCard : Claim7 := { stood := { row := seamListsUptoRow, standIns := [], harness := (true, "bd34841267241415b40043add45493e7e1d761278530eab9e57a44b57f463656"), looks := false }, kinds := [], alts := [], laidByText := true, laidKinds := [.data, .pinned], laidTests := true, laidLooks := .later }
def SeamListsUptoCardSaid : Prop := Claim7.holds Tryd.pinned (.plain (OpenSpec.upto seamListsSpec)) seamListsUptoCard

/-- THE SECOND FORM's CARD OF 'shipyardlaw18.SeamThicks'. -/
def seamThicksUptoCard : Claim7 := { stood := { row := seamThicksUptoRow, standIns := [], harness := (true, "bd34841267241415b40043add45493e7e1d761278530eab9e57a44b57f463656"), looks := false }, kinds := [], alts := [], laidByText := true, laidKinds := [.data, .pinned], laidTests := true, laidLooks := .later }
def SeamThicksUptoCardSaid : Prop := Claim7.holds Tryd.pinned (.plain (OpenSpec.upto seamThicksSpec)) seamThicksUptoCard
end Rows
end Go.Proofs.YtlpcelingpgmfaaDoor

/-
  NARROWER THAN 'FOR EVERY INPUT', by the rows' own cells (each row's printed sentence says how): SeamChecks: laid · SeamHomes: laid · SeamLists: laid · SeamThicks: laid.
  DERIVED. THE GIVEN ROWS OF THIS SEAT. 4 by the template 'for every input the law returns true; each argument reads behind the call as it read before'; 0 by the template 'total and deterministic' (their statements: YtlpcelingpgmfaaDoorTotals.lean).
  GIVEN WITH THE SEED: the statements are not yours to turn. If you find one false, say at which input.
  Laid BY PROGRAM, IN A SANDBOX (cutbox-rows.mjs): the forced cells as the released guide's own fill.sh prints them over the translation 81fef121ac21f09b… (all of the seat's roots in one cut). By AI agents, Wed Nov 11 2026. No macro, syntax, notation, axiom, sorry.
-/
import Derived.Test.YtlpcelingpgmfaaDoorChecked
import GoSem.PinnedTables
import GoSem.Claim
import GoSem.ClaimJoined
import GoSem.ClaimMapViews
import Derived.JoinedTies
import Derived.KernelRfl
namespace Go.Proofs.YtlpcelingpgmfaaDoor
/- THE CELL 'sum', in the pinned program and in every row, IS THE sha256 OF THE DUMP (.gsa) THAT YtlpcelingpgmfaaDoorProg.lean LOADS. Nothing in Lean hashes anything: it is a label: what it is worth is what the hold of that sum in a sandbox is worth. -/
noncomputable def Tryd.pinned : Pinned := { name := "ytlpcelingpgmfaadoor", sum := "81fef121ac21f09b0f42780230282a77668e6b88830b97e9dffb8044857307e0", checked := Tryd.checked }
namespace Rows
def none {H : Type} : Left H := { results := [], args := [] }

/- WHAT THE LISTED PACKAGE-LEVEL VARIABLES READ AS WHEN THE CALL BEGINS. Each datum BY PROGRAM (the guide's laid-datum.mjs) off the statement by which the dump's own 'gosem.cut.vars' lays the variable. In a bare row this is a premise. The card (YtlpcelingpgmfaaDoorCards.lean) ties it to the program's text. -/
def laid_unicode_utf8_acceptRanges {H : Type} : DataW H := .agg [.agg [.lit (.int .u8 128), .lit (.int .u8 191)], .agg [.lit (.int .u8 160), .lit (.int .u8 191)], .agg [.lit (.int .u8 128), .lit (.int .u8 159)], .agg [.lit (.int .u8 144), .lit (.int .u8 191)], .agg [.lit (.int .u8 128), .lit (.int .u8 143)], .agg [.lit (.int .u8 0), .lit (.int .u8 0)], .agg [.lit (.int .u8 0), .lit (.int .u8 0)], .agg [.lit (.int .u8 0), .lit (.int .u8 0)], .agg [.lit (.int .u8 0), .lit (.int .u8 0)], .agg [.lit (.int .u8 0), .lit (.int .u8 0)], .agg [.lit (.int .u8 0), .lit (.int .u8 0)], .agg [.lit (.int .u8 0), .lit (.int .u8 0)], .agg [.lit (.int .u8 0), .lit (.int .u8 0)], .agg [.lit (.int .u8 0), .lit (.int .u8 0)], .agg [.lit (.int .u8 0), .lit (.int .u8 0)], .agg [.lit (.int .u8 0), .lit (.int .u8 0)]]
/-- One of Go's own tables, pinned by name: the form's constant. -/
def laid_unicode_utf8_first : DataW Unit := Go.Pinned.utf8First

/-- 'shipyardlaw18.SeamChecks': WHATEVER THE INPUT: true; the input reads as it did. -/
def seamChecksSpec : ChangeSpec := { name := "seamChecks", fn := fun _ => fun
  | [d] => { results := [.lit (.bool true)], args := [d] }
  | _ => none }
def seamChecksRow : OpenClaim := { program := "ytlpcelingpgmfaadoor", sum := "81fef121ac21f09b0f42780230282a77668e6b88830b97e9dffb8044857307e0", func := "shipyard/shipyardlaw18.SeamChecks", spec := "seamChecks", inPlace := ["internal/bytealg.CountString", "internal/bytealg.IndexByteString", "internal/bytealg.IndexString"], unfollowed := true, recurses := true, named := ["unicode/utf8.first", "unicode/utf8.acceptRanges", "internal/bytealg.MaxLen"], apart := false, laid := [("unicode/utf8.acceptRanges", laid_unicode_utf8_acceptRanges), ("unicode/utf8.first", laid_unicode_utf8_first)] }
def SeamChecksSaid : Prop := seamChecksRow.holds Tryd.pinned (OpenSpec.ofChange seamChecksSpec)

/-- ITS FALSE NEIGHBOUR: 'it returns false'. Refute it at one input. -/
def seamChecksWrong : ChangeSpec := { name := "seamChecks", fn := fun _ => fun
  | [d] => { results := [.lit (.bool false)], args := [d] }
  | _ => none }
def SeamChecksWrongFalsely : Prop := seamChecksRow.holds Tryd.pinned (OpenSpec.ofChange seamChecksWrong)

/-- 'shipyardlaw18.SeamHomes': WHATEVER THE INPUT: true; the input reads as it did. -/
def seamHomesSpec : ChangeSpec := { name := "seamHomes", fn := fun _ => fun
  | [d1, d2] => { results := [.lit (.bool true)], args := [d1, d2] }
  | _ => none }
def seamHomesRow : OpenClaim := { program := "ytlpcelingpgmfaadoor", sum := "81fef121ac21f09b0f42780230282a77668e6b88830b97e9dffb8044857307e0", func := "shipyard/shipyardlaw18.SeamHomes", spec := "seamHomes", inPlace := ["internal/bytealg.CountString", "internal/bytealg.IndexByteString", "internal/bytealg.IndexString"], unfollowed := true, recurses := true, named := ["unicode/utf8.first", "unicode/utf8.acceptRanges", "internal/bytealg.MaxLen"], apart := false, laid := [("unicode/utf8.acceptRanges", laid_unicode_utf8_acceptRanges), ("unicode/utf8.first", laid_unicode_utf8_first)] }
def SeamHomesSaid : Prop := seamHomesRow.holds Tryd.pinned (OpenSpec.ofChange seamHomesSpec)

/-- ITS FALSE NEIGHBOUR: 'it returns false'. Refute it at one input. -/
def seamHomesWrong : ChangeSpec := { name := "seamHomes", fn := fun _ => fun
  | [d1, d2] => { results := [.lit (.bool false)], args := [d1, d2] }
  | _ => none }
def SeamHomesWrongFalsely : Prop := seamHomesRow.holds Tryd.pinned (OpenSpec.ofChange seamHomesWrong)

/-- 'shipyardlaw18.SeamLists': WHATEVER THE INPUT: true; the input reads as it did. -/
def seamListsSpec : ChangeSpec := { name := "seamLists", fn := fun _ => fun
  | [d1, d2] => { results := [.lit (.bool true)], args := [d1, d2] }
  | _ => none }
def seamListsRow : OpenClaim := { program := "ytlpcelingpgmfaadoor", sum := "81fef121ac21f09b0f42780230282a77668e6b88830b97e9dffb8044857307e0", func := "shipyard/shipyardlaw18.SeamLists", spec := "seamLists", inPlace := ["internal/bytealg.CountString", "internal/bytealg.IndexByteString", "internal/bytealg.IndexString"], unfollowed := true, recurses := true, named := ["unicode/utf8.first", "unicode/utf8.acceptRanges", "internal/bytealg.MaxLen"], apart := false, laid := [("unicode/utf8.acceptRanges", laid_unicode_utf8_acceptRanges), ("unicode/utf8.first", laid_unicode_utf8_first)] }
def SeamListsSaid : Prop := seamListsRow.holds Tryd.pinned (OpenSpec.ofChange seamListsSpec)

/-- ITS FALSE NEIGHBOUR: 'it returns false'. Refute it at one input. -/
def seamListsWrong : ChangeSpec := { name := "seamLists", fn := fun _ => fun
  | [d1, d2] => { results := [.lit (.bool false)], args := [d1, d2] }
  | _ => none }
def SeamListsWrongFalsely : Prop := seamListsRow.holds Tryd.pinned (OpenSpec.ofChange seamListsWrong)

/-- 'shipyardlaw18.SeamThicks': WHATEVER THE INPUT: true; the input reads as it did. -/
def seamThicksSpec : ChangeSpec := { name := "seamThicks", fn := fun _ => fun
  | [d1, d2, d3] => { results := [.lit (.bool true)], args := [d1, d2, d3] }
  | _ => none }
def seamThicksRow : OpenClaim := { program := "ytlpcelingpgmfaadoor", sum := "81fef121ac21f09b0f42780230282a77668e6b88830b97e9dffb8044857307e0", func := "shipyard/shipyardlaw18.SeamThicks", spec := "seamThicks", inPlace := ["internal/bytealg.CountString", "internal/bytealg.IndexByteString", "internal/bytealg.IndexString"], unfollowed := true, recurses := true, named := ["unicode/utf8.first", "unicode/utf8.acceptRanges", "internal/bytealg.MaxLen"], apart := false, laid := [("unicode/utf8.acceptRanges", laid_unicode_utf8_acceptRanges), ("unicode/utf8.first", laid_unicode_utf8_first)] }
def SeamThicksSaid : Prop := seamThicksRow.holds Tryd.pinned (OpenSpec.ofChange seamThicksSpec)

/-- ITS FALSE NEIGHBOUR: 'it returns false'. Refute it at one input. -/
def seamThicksWrong : ChangeSpec := { name := "seamThicks", fn := fun _ => fun
  | [d1, d2, d3] => { results := [.lit (.bool false)], args := [d1, d2, d3] }
  | _ => none }
def SeamThicksWrongFalsely : Prop := seamThicksRow.holds Tryd.pinned (OpenSpec.ofChange seamThicksWrong)

/- THE SECOND FORM. 'bulk': how many values and letters a reading holds, each counted each time it is reached (what is shared counts as often as it is met; a slice's spare places count too). A statement '..UptoSaid' is the law's where the arguments, and the package variables that the reading takes, are together of bulk at most 1048576: NARROWER than '..Said'. Prove '..Said' where nothing that the law and all that it calls make is longer than what came in: it says more and counts as full. Else prove '..UptoSaid'. A law counts once. -/
mutual
def uptoBulk {H : Type} : DataW H → Nat
  | .lit (.string bytes) => bytes.length + 1
  | .lit _ => 1
  | .nil => 1
  | .ptr d => uptoBulk d + 1
  | .slice elems spare => uptoBulkAll elems + uptoBulkAll spare + 1
  | .agg parts => uptoBulkAll parts + 1
  | .iface _ d => uptoBulk d + 1
  | .map entries => uptoBulkEntries entries + 1
  | .held _ => 1
def uptoBulkAll {H : Type} : List (DataW H) → Nat
  | [] => 0
  | d :: r => uptoBulk d + uptoBulkAll r
def uptoBulkEntries {H : Type} : List (Lit × DataW H) → Nat
  | [] => 0
  | x :: r => uptoBulkEntry x + uptoBulkEntries r
def uptoBulkEntry {H : Type} : Lit × DataW H → Nat
  | (.string bytes, d) => bytes.length + uptoBulk d + 1
  | (_, d) => uptoBulk d + 1
 end
def uptoSmall : (H : Type) → List (DataW H) → Bool := fun _ ds => decide (uptoBulkAll ds ≤ 1048576)
def OpenSpec.upto (s : _root_.Go.ChangeSpec) : _root_.Go.OpenSpec := { _root_.Go.OpenSpec.ofChange s with cond := some uptoSmall }

/-- 'shipyardlaw18.SeamChecks', WHERE WHAT IT READS IS OF BULK AT MOST 1048576: true; the input reads as it did. -/
def seamChecksUptoRow : OpenClaim := { program := "ytlpcelingpgmfaadoor", sum := "81fef121ac21f09b0f42780230282a77668e6b88830b97e9dffb8044857307e0", func := "shipyard/shipyardlaw18.SeamChecks", spec := "seamChecks", inPlace := ["internal/bytealg.CountString", "internal/bytealg.IndexByteString", "internal/bytealg.IndexString"], unfollowed := true, recurses := true, named := ["unicode/utf8.first", "unicode/utf8.acceptRanges", "internal/bytealg.MaxLen"], apart := false, laid := [("unicode/utf8.acceptRanges", laid_unicode_utf8_acceptRanges), ("unicode/utf8.first", laid_unicode_utf8_first)], narrowed := true }
def SeamChecksUptoSaid : Prop := seamChecksUptoRow.holds Tryd.pinned (OpenSpec.upto seamChecksSpec)

/-- 'shipyardlaw18.SeamHomes', WHERE WHAT IT READS IS OF BULK AT MOST 1048576: true; the input reads as it did. -/
def seamHomesUptoRow : OpenClaim := { program := "ytlpcelingpgmfaadoor", sum := "81fef121ac21f09b0f42780230282a77668e6b88830b97e9dffb8044857307e0", func := "shipyard/shipyardlaw18.SeamHomes", spec := "seamHomes", inPlace := ["internal/bytealg.CountString", "internal/bytealg.IndexByteString", "internal/bytealg.IndexString"], unfollowed := true, recurses := true, named := ["unicode/utf8.first", "unicode/utf8.acceptRanges", "internal/bytealg.MaxLen"], apart := false, laid := [("unicode/utf8.acceptRanges", laid_unicode_utf8_acceptRanges), ("unicode/utf8.first", laid_unicode_utf8_first)], narrowed := true }
def SeamHomesUptoSaid : Prop := seamHomesUptoRow.holds Tryd.pinned (OpenSpec.upto seamHomesSpec)

/-- 'shipyardlaw18.SeamLists', WHERE WHAT IT READS IS OF BULK AT MOST 1048576: true; the input reads as it did. -/
def seamListsUptoRow : OpenClaim := { program := "ytlpcelingpgmfaadoor", sum := "81fef121ac21f09b0f42780230282a77668e6b88830b97e9dffb8044857307e0", func := "shipyard/shipyardlaw18.SeamLists", spec := "seamLists", inPlace := ["internal/bytealg.CountString", "internal/bytealg.IndexByteString", "internal/bytealg.IndexString"], unfollowed := true, recurses := true, named := ["unicode/utf8.first", "unicode/utf8.acceptRanges", "internal/bytealg.MaxLen"], apart := false, laid := [("unicode/utf8.acceptRanges", laid_unicode_utf8_acceptRanges), ("unicode/utf8.first", laid_unicode_utf8_first)], narrowed := true }
def SeamListsUptoSaid : Prop := seamListsUptoRow.holds Tryd.pinned (OpenSpec.upto seamListsSpec)

/-- 'shipyardlaw18.SeamThicks', WHERE WHAT IT READS IS OF BULK AT MOST 1048576: true; the input reads as it did. -/
def seamThicksUptoRow : OpenClaim := { program := "ytlpcelingpgmfaadoor", sum := "81fef121ac21f09b0f42780230282a77668e6b88830b97e9dffb8044857307e0", func := "shipyard/shipyardlaw18.SeamThicks", spec := "seamThicks", inPlace := ["internal/bytealg.CountString", "internal/bytealg.IndexByteString", "internal/bytealg.IndexString"], unfollowed := true, recurses := true, named := ["unicode/utf8.first", "unicode/utf8.acceptRanges", "internal/bytealg.MaxLen"], apart := false, laid := [("unicode/utf8.acceptRanges", laid_unicode_utf8_acceptRanges), ("unicode/utf8.first", laid_unicode_utf8_first)], narrowed := true }
def SeamThicksUptoSaid : Prop := seamThicksUptoRow.holds Tryd.pinned (OpenSpec.upto seamThicksSpec)

end Rows
end Go.Proofs.YtlpcelingpgmfaaDoor

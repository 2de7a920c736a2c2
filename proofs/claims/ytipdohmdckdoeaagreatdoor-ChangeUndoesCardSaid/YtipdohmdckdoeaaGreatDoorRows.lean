/-
  NARROWER THAN 'FOR EVERY INPUT', by the rows' own cells (each row's printed sentence says how): ChangeDecodes: laid · ChangeDivides: laid · ChangeUndoes: laid · ChangeCommutes: laid · ChangeParts: laid · ChangeTouches: laid.
  DERIVED. THE GIVEN ROWS OF THIS SEAT. 6 by the template 'for every input the law returns true; each argument reads behind the call as it read before'; 0 by the template 'total and deterministic' (their statements: YtipdohmdckdoeaaGreatDoorTotals.lean).
  GIVEN WITH THE SEED: the statements are not yours to turn. If you find one false, say at which input.
  Laid BY PROGRAM, IN A SANDBOX (cutbox-rows.mjs): the forced cells as the released guide's own fill.sh prints them over the translation bcef7f635d2df307… (all of the seat's roots in one cut). By AI agents, Wed Nov 11 2026. No macro, syntax, notation, axiom, sorry.
-/
import Derived.Test.YtipdohmdckdoeaaGreatDoorChecked
import GoSem.PinnedTables
import GoSem.Claim
import GoSem.ClaimJoined
import GoSem.ClaimMapViews
import Derived.JoinedTies
import Derived.KernelRfl
namespace Go.Proofs.YtipdohmdckdoeaaGreatDoor
/- THE CELL 'sum', in the pinned program and in every row, IS THE sha256 OF THE DUMP (.gsa) THAT YtipdohmdckdoeaaGreatDoorProg.lean LOADS. Nothing in Lean hashes anything: it is a label: what it is worth is what the hold of that sum in a sandbox is worth. -/
noncomputable def Tryz.pinned : Pinned := { name := "ytipdohmdckdoeaagreatdoor", sum := "bcef7f635d2df3077ba986356c4bc04a5763b3fdd737637bcab7d5f50f5ddc69", checked := Tryz.checked }
namespace Rows
def none {H : Type} : Left H := { results := [], args := [] }

/- WHAT THE LISTED PACKAGE-LEVEL VARIABLES READ AS WHEN THE CALL BEGINS. Each datum BY PROGRAM (the guide's laid-datum.mjs) off the statement by which the dump's own 'gosem.cut.vars' lays the variable. In a bare row this is a premise. The card (YtipdohmdckdoeaaGreatDoorCards.lean) ties it to the program's text. -/
def laid_unicode_utf8_acceptRanges {H : Type} : DataW H := .agg [.agg [.lit (.int .u8 128), .lit (.int .u8 191)], .agg [.lit (.int .u8 160), .lit (.int .u8 191)], .agg [.lit (.int .u8 128), .lit (.int .u8 159)], .agg [.lit (.int .u8 144), .lit (.int .u8 191)], .agg [.lit (.int .u8 128), .lit (.int .u8 143)], .agg [.lit (.int .u8 0), .lit (.int .u8 0)], .agg [.lit (.int .u8 0), .lit (.int .u8 0)], .agg [.lit (.int .u8 0), .lit (.int .u8 0)], .agg [.lit (.int .u8 0), .lit (.int .u8 0)], .agg [.lit (.int .u8 0), .lit (.int .u8 0)], .agg [.lit (.int .u8 0), .lit (.int .u8 0)], .agg [.lit (.int .u8 0), .lit (.int .u8 0)], .agg [.lit (.int .u8 0), .lit (.int .u8 0)], .agg [.lit (.int .u8 0), .lit (.int .u8 0)], .agg [.lit (.int .u8 0), .lit (.int .u8 0)], .agg [.lit (.int .u8 0), .lit (.int .u8 0)]]
/-- One of Go's own tables, pinned by name: the form's constant. -/
def laid_unicode_utf8_first : DataW Unit := Go.Pinned.utf8First

/-- 'shipyardlaw20.ChangeDecodes': WHATEVER THE INPUT: true; the input reads as it did. -/
def changeDecodesSpec : ChangeSpec := { name := "changeDecodes", fn := fun _ => fun
  | [d] => { results := [.lit (.bool true)], args := [d] }
  | _ => none }
def changeDecodesRow : OpenClaim := { program := "ytipdohmdckdoeaagreatdoor", sum := "bcef7f635d2df3077ba986356c4bc04a5763b3fdd737637bcab7d5f50f5ddc69", func := "shipyard/shipyardlaw20.ChangeDecodes", spec := "changeDecodes", inPlace := ["internal/bytealg.CountString", "internal/bytealg.IndexByteString", "internal/bytealg.IndexString", "slices.overlaps[shipyard/api.Node]", "slices.overlaps[shipyard/api.Part]", "slices.overlaps[shipyard/api.Seam]", "slices.overlaps[shipyard/api.Package]", "slices.overlaps[shipyard/api.Need]", "internal/abi.NoEscape"], unfollowed := true, recurses := true, named := ["unicode/utf8.first", "unicode/utf8.acceptRanges", "internal/bytealg.MaxLen"], apart := false, laid := [("unicode/utf8.acceptRanges", laid_unicode_utf8_acceptRanges), ("unicode/utf8.first", laid_unicode_utf8_first)] }
def ChangeDecodesSaid : Prop := changeDecodesRow.holds Tryz.pinned (OpenSpec.ofChange changeDecodesSpec)

/-- ITS FALSE NEIGHBOUR: 'it returns false'. Refute it at one input. -/
def changeDecodesWrong : ChangeSpec := { name := "changeDecodes", fn := fun _ => fun
  | [d] => { results := [.lit (.bool false)], args := [d] }
  | _ => none }
def ChangeDecodesWrongFalsely : Prop := changeDecodesRow.holds Tryz.pinned (OpenSpec.ofChange changeDecodesWrong)

/-- 'shipyardlaw20.ChangeDivides': WHATEVER THE INPUT: true; the input reads as it did. -/
def changeDividesSpec : ChangeSpec := { name := "changeDivides", fn := fun _ => fun
  | [d1, d2, d3] => { results := [.lit (.bool true)], args := [d1, d2, d3] }
  | _ => none }
def changeDividesRow : OpenClaim := { program := "ytipdohmdckdoeaagreatdoor", sum := "bcef7f635d2df3077ba986356c4bc04a5763b3fdd737637bcab7d5f50f5ddc69", func := "shipyard/shipyardlaw20.ChangeDivides", spec := "changeDivides", inPlace := ["internal/bytealg.CountString", "internal/bytealg.IndexByteString", "internal/bytealg.IndexString", "slices.overlaps[shipyard/api.Node]", "slices.overlaps[shipyard/api.Part]", "slices.overlaps[shipyard/api.Seam]", "slices.overlaps[shipyard/api.Package]", "slices.overlaps[shipyard/api.Need]", "internal/abi.NoEscape"], unfollowed := true, recurses := true, named := ["unicode/utf8.first", "unicode/utf8.acceptRanges", "internal/bytealg.MaxLen"], apart := false, laid := [("unicode/utf8.acceptRanges", laid_unicode_utf8_acceptRanges), ("unicode/utf8.first", laid_unicode_utf8_first)] }
def ChangeDividesSaid : Prop := changeDividesRow.holds Tryz.pinned (OpenSpec.ofChange changeDividesSpec)

/-- ITS FALSE NEIGHBOUR: 'it returns false'. Refute it at one input. -/
def changeDividesWrong : ChangeSpec := { name := "changeDivides", fn := fun _ => fun
  | [d1, d2, d3] => { results := [.lit (.bool false)], args := [d1, d2, d3] }
  | _ => none }
def ChangeDividesWrongFalsely : Prop := changeDividesRow.holds Tryz.pinned (OpenSpec.ofChange changeDividesWrong)

/-- 'shipyardlaw20.ChangeUndoes': WHATEVER THE INPUT: true; the input reads as it did. -/
def changeUndoesSpec : ChangeSpec := { name := "changeUndoes", fn := fun _ => fun
  | [d1, d2, d3] => { results := [.lit (.bool true)], args := [d1, d2, d3] }
  | _ => none }
def changeUndoesRow : OpenClaim := { program := "ytipdohmdckdoeaagreatdoor", sum := "bcef7f635d2df3077ba986356c4bc04a5763b3fdd737637bcab7d5f50f5ddc69", func := "shipyard/shipyardlaw20.ChangeUndoes", spec := "changeUndoes", inPlace := ["internal/bytealg.CountString", "internal/bytealg.IndexByteString", "internal/bytealg.IndexString", "slices.overlaps[shipyard/api.Node]", "slices.overlaps[shipyard/api.Part]", "slices.overlaps[shipyard/api.Seam]", "slices.overlaps[shipyard/api.Package]", "slices.overlaps[shipyard/api.Need]", "internal/abi.NoEscape"], unfollowed := true, recurses := true, named := ["unicode/utf8.first", "unicode/utf8.acceptRanges", "internal/bytealg.MaxLen"], apart := false, laid := [("unicode/utf8.acceptRanges", laid_unicode_utf8_acceptRanges), ("unicode/utf8.first", laid_unicode_utf8_first)] }
def ChangeUndoesSaid : Prop := changeUndoesRow.holds Tryz.pinned (OpenSpec.ofChange changeUndoesSpec)

/-- ITS FALSE NEIGHBOUR: 'it returns false'. Refute it at one input. -/
def changeUndoesWrong : ChangeSpec := { name := "changeUndoes", fn := fun _ => fun
  | [d1, d2, d3] => { results := [.lit (.bool false)], args := [d1, d2, d3] }
  | _ => none }
def ChangeUndoesWrongFalsely : Prop := changeUndoesRow.holds Tryz.pinned (OpenSpec.ofChange changeUndoesWrong)

/-- 'shipyardlaw20.ChangeCommutes': WHATEVER THE INPUT: true; the input reads as it did. -/
def changeCommutesSpec : ChangeSpec := { name := "changeCommutes", fn := fun _ => fun
  | [d] => { results := [.lit (.bool true)], args := [d] }
  | _ => none }
def changeCommutesRow : OpenClaim := { program := "ytipdohmdckdoeaagreatdoor", sum := "bcef7f635d2df3077ba986356c4bc04a5763b3fdd737637bcab7d5f50f5ddc69", func := "shipyard/shipyardlaw20.ChangeCommutes", spec := "changeCommutes", inPlace := ["slices.overlaps[shipyard/api.Node]", "slices.overlaps[shipyard/api.Part]", "slices.overlaps[shipyard/api.Seam]", "slices.overlaps[shipyard/api.Package]", "slices.overlaps[shipyard/api.Need]", "internal/bytealg.CountString", "internal/bytealg.IndexByteString", "internal/bytealg.IndexString", "internal/abi.NoEscape"], unfollowed := true, recurses := true, named := ["unicode/utf8.first", "unicode/utf8.acceptRanges", "internal/bytealg.MaxLen"], apart := false, laid := [("unicode/utf8.acceptRanges", laid_unicode_utf8_acceptRanges), ("unicode/utf8.first", laid_unicode_utf8_first)] }
def ChangeCommutesSaid : Prop := changeCommutesRow.holds Tryz.pinned (OpenSpec.ofChange changeCommutesSpec)

/-- ITS FALSE NEIGHBOUR: 'it returns false'. Refute it at one input. -/
def changeCommutesWrong : ChangeSpec := { name := "changeCommutes", fn := fun _ => fun
  | [d] => { results := [.lit (.bool false)], args := [d] }
  | _ => none }
def ChangeCommutesWrongFalsely : Prop := changeCommutesRow.holds Tryz.pinned (OpenSpec.ofChange changeCommutesWrong)

/-- 'shipyardlaw20.ChangeParts': WHATEVER THE INPUT: true; the input reads as it did. -/
def changePartsSpec : ChangeSpec := { name := "changeParts", fn := fun _ => fun
  | [d1, d2, d3] => { results := [.lit (.bool true)], args := [d1, d2, d3] }
  | _ => none }
def changePartsRow : OpenClaim := { program := "ytipdohmdckdoeaagreatdoor", sum := "bcef7f635d2df3077ba986356c4bc04a5763b3fdd737637bcab7d5f50f5ddc69", func := "shipyard/shipyardlaw20.ChangeParts", spec := "changeParts", inPlace := ["internal/bytealg.CountString", "internal/bytealg.IndexByteString", "internal/bytealg.IndexString", "slices.overlaps[shipyard/api.Node]", "slices.overlaps[shipyard/api.Part]", "slices.overlaps[shipyard/api.Seam]", "slices.overlaps[shipyard/api.Package]", "slices.overlaps[shipyard/api.Need]", "internal/abi.NoEscape"], unfollowed := true, recurses := true, named := ["unicode/utf8.first", "unicode/utf8.acceptRanges", "internal/bytealg.MaxLen"], apart := false, laid := [("unicode/utf8.acceptRanges", laid_unicode_utf8_acceptRanges), ("unicode/utf8.first", laid_unicode_utf8_first)] }
def ChangePartsSaid : Prop := changePartsRow.holds Tryz.pinned (OpenSpec.ofChange changePartsSpec)

/-- ITS FALSE NEIGHBOUR: 'it returns false'. Refute it at one input. -/
def changePartsWrong : ChangeSpec := { name := "changeParts", fn := fun _ => fun
  | [d1, d2, d3] => { results := [.lit (.bool false)], args := [d1, d2, d3] }
  | _ => none }
def ChangePartsWrongFalsely : Prop := changePartsRow.holds Tryz.pinned (OpenSpec.ofChange changePartsWrong)

/-- 'shipyardlaw20.ChangeTouches': WHATEVER THE INPUT: true; the input reads as it did. -/
def changeTouchesSpec : ChangeSpec := { name := "changeTouches", fn := fun _ => fun
  | [d1, d2] => { results := [.lit (.bool true)], args := [d1, d2] }
  | _ => none }
def changeTouchesRow : OpenClaim := { program := "ytipdohmdckdoeaagreatdoor", sum := "bcef7f635d2df3077ba986356c4bc04a5763b3fdd737637bcab7d5f50f5ddc69", func := "shipyard/shipyardlaw20.ChangeTouches", spec := "changeTouches", inPlace := ["internal/bytealg.CountString", "internal/bytealg.IndexByteString", "internal/bytealg.IndexString", "slices.overlaps[shipyard/api.Node]", "slices.overlaps[shipyard/api.Part]", "slices.overlaps[shipyard/api.Seam]", "slices.overlaps[shipyard/api.Package]", "slices.overlaps[shipyard/api.Need]", "internal/abi.NoEscape"], unfollowed := true, recurses := true, named := ["unicode/utf8.first", "unicode/utf8.acceptRanges", "internal/bytealg.MaxLen"], apart := false, laid := [("unicode/utf8.acceptRanges", laid_unicode_utf8_acceptRanges), ("unicode/utf8.first", laid_unicode_utf8_first)] }
def ChangeTouchesSaid : Prop := changeTouchesRow.holds Tryz.pinned (OpenSpec.ofChange changeTouchesSpec)

/-- ITS FALSE NEIGHBOUR: 'it returns false'. Refute it at one input. -/
def changeTouchesWrong : ChangeSpec := { name := "changeTouches", fn := fun _ => fun
  | [d1, d2] => { results := [.lit (.bool false)], args := [d1, d2] }
  | _ => none }
def ChangeTouchesWrongFalsely : Prop := changeTouchesRow.holds Tryz.pinned (OpenSpec.ofChange changeTouchesWrong)

/- THE SECOND FORM. 'bulk': how many values and letters a reading holds, each counted each time it is reached (what is shared counts as often as it is met; a slice's spare places count too). A statement '..UptoSaid' is the law's where the arguments, and the package variables that the reading takes, are together of bulk at most 1048576: NARROWER than '..Said'. Prove '..Said' where nothing that the law and all that it calls make is longer than what came in: it says more and counts as full. Else prove '..UptoSaid'. A law counts once. -/
mutual
def uptoBulk {H : Type} : DataW H → Nat
  | .lit (.string bytes) => bytes.length + 1
  | .lit _ => 1
  | .nil => 1
  | .ptr d => uptoBulk d + 1
  | .slice elems spare => uptoBulkAll elems + uptoBulkAll spare + 1
  | .agg parts => uptoBulkAll parts + 1
  | .iface _ d => uptoBulk d + 1
  | .map entries => uptoBulkEntries entries + 1
  | .held _ => 1
def uptoBulkAll {H : Type} : List (DataW H) → Nat
  | [] => 0
  | d :: r => uptoBulk d + uptoBulkAll r
def uptoBulkEntries {H : Type} : List (Lit × DataW H) → Nat
  | [] => 0
  | x :: r => uptoBulkEntry x + uptoBulkEntries r
def uptoBulkEntry {H : Type} : Lit × DataW H → Nat
  | (.string bytes, d) => bytes.length + uptoBulk d + 1
  | (_, d) => uptoBulk d + 1
 end
def uptoSmall : (H : Type) → List (DataW H) → Bool := fun _ ds => decide (uptoBulkAll ds ≤ 1048576)
def OpenSpec.upto (s : _root_.Go.ChangeSpec) : _root_.Go.OpenSpec := { _root_.Go.OpenSpec.ofChange s with cond := some uptoSmall }

/-- 'shipyardlaw20.ChangeDecodes', WHERE WHAT IT READS IS OF BULK AT MOST 1048576: true; the input reads as it did. -/
def changeDecodesUptoRow : OpenClaim := { program := "ytipdohmdckdoeaagreatdoor", sum := "bcef7f635d2df3077ba986356c4bc04a5763b3fdd737637bcab7d5f50f5ddc69", func := "shipyard/shipyardlaw20.ChangeDecodes", spec := "changeDecodes", inPlace := ["internal/bytealg.CountString", "internal/bytealg.IndexByteString", "internal/bytealg.IndexString", "slices.overlaps[shipyard/api.Node]", "slices.overlaps[shipyard/api.Part]", "slices.overlaps[shipyard/api.Seam]", "slices.overlaps[shipyard/api.Package]", "slices.overlaps[shipyard/api.Need]", "internal/abi.NoEscape"], unfollowed := true, recurses := true, named := ["unicode/utf8.first", "unicode/utf8.acceptRanges", "internal/bytealg.MaxLen"], apart := false, laid := [("unicode/utf8.acceptRanges", laid_unicode_utf8_acceptRanges), ("unicode/utf8.first", laid_unicode_utf8_first)], narrowed := true }
def ChangeDecodesUptoSaid : Prop := changeDecodesUptoRow.holds Tryz.pinned (OpenSpec.upto changeDecodesSpec)

/-- 'shipyardlaw20.ChangeDivides', WHERE WHAT IT READS IS OF BULK AT MOST 1048576: true; the input reads as it did. -/
def changeDividesUptoRow : OpenClaim := { program := "ytipdohmdckdoeaagreatdoor", sum := "bcef7f635d2df3077ba986356c4bc04a5763b3fdd737637bcab7d5f50f5ddc69", func := "shipyard/shipyardlaw20.ChangeDivides", spec := "changeDivides", inPlace := ["internal/bytealg.CountString", "internal/bytealg.IndexByteString", "internal/bytealg.IndexString", "slices.overlaps[shipyard/api.Node]", "slices.overlaps[shipyard/api.Part]", "slices.overlaps[shipyard/api.Seam]", "slices.overlaps[shipyard/api.Package]", "slices.overlaps[shipyard/api.Need]", "internal/abi.NoEscape"], unfollowed := true, recurses := true, named := ["unicode/utf8.first", "unicode/utf8.acceptRanges", "internal/bytealg.MaxLen"], apart := false, laid := [("unicode/utf8.acceptRanges", laid_unicode_utf8_acceptRanges), ("unicode/utf8.first", laid_unicode_utf8_first)], narrowed := true }
def ChangeDividesUptoSaid : Prop := changeDividesUptoRow.holds Tryz.pinned (OpenSpec.upto changeDividesSpec)

/-- 'shipyardlaw20.ChangeUndoes', WHERE WHAT IT READS IS OF BULK AT MOST 1048576: true; the input reads as it did. -/
def changeUndoesUptoRow : OpenClaim := { program := "ytipdohmdckdoeaagreatdoor", sum := "bcef7f635d2df3077ba986356c4bc04a5763b3fdd737637bcab7d5f50f5ddc69", func := "shipyard/shipyardlaw20.ChangeUndoes", spec := "changeUndoes", inPlace := ["internal/bytealg.CountString", "internal/bytealg.IndexByteString", "internal/bytealg.IndexString", "slices.overlaps[shipyard/api.Node]", "slices.overlaps[shipyard/api.Part]", "slices.overlaps[shipyard/api.Seam]", "slices.overlaps[shipyard/api.Package]", "slices.overlaps[shipyard/api.Need]", "internal/abi.NoEscape"], unfollowed := true, recurses := true, named := ["unicode/utf8.first", "unicode/utf8.acceptRanges", "internal/bytealg.MaxLen"], apart := false, laid := [("unicode/utf8.acceptRanges", laid_unicode_utf8_acceptRanges), ("unicode/utf8.first", laid_unicode_utf8_first)], narrowed := true }
def ChangeUndoesUptoSaid : Prop := changeUndoesUptoRow.holds Tryz.pinned (OpenSpec.upto changeUndoesSpec)

/-- 'shipyardlaw20.ChangeCommutes', WHERE WHAT IT READS IS OF BULK AT MOST 1048576: true; the input reads as it did. -/
def changeCommutesUptoRow : OpenClaim := { program := "ytipdohmdckdoeaagreatdoor", sum := "bcef7f635d2df3077ba986356c4bc04a5763b3fdd737637bcab7d5f50f5ddc69", func := "shipyard/shipyardlaw20.ChangeCommutes", spec := "changeCommutes", inPlace := ["slices.overlaps[shipyard/api.Node]", "slices.overlaps[shipyard/api.Part]", "slices.overlaps[shipyard/api.Seam]", "slices.overlaps[shipyard/api.Package]", "slices.overlaps[shipyard/api.Need]", "internal/bytealg.CountString", "internal/bytealg.IndexByteString", "internal/bytealg.IndexString", "internal/abi.NoEscape"], unfollowed := true, recurses := true, named := ["unicode/utf8.first", "unicode/utf8.acceptRanges", "internal/bytealg.MaxLen"], apart := false, laid := [("unicode/utf8.acceptRanges", laid_unicode_utf8_acceptRanges), ("unicode/utf8.first", laid_unicode_utf8_first)], narrowed := true }
def ChangeCommutesUptoSaid : Prop := changeCommutesUptoRow.holds Tryz.pinned (OpenSpec.upto changeCommutesSpec)

/-- 'shipyardlaw20.ChangeParts', WHERE WHAT IT READS IS OF BULK AT MOST 1048576: true; the input reads as it did. -/
def changePartsUptoRow : OpenClaim := { program := "ytipdohmdckdoeaagreatdoor", sum := "bcef7f635d2df3077ba986356c4bc04a5763b3fdd737637bcab7d5f50f5ddc69", func := "shipyard/shipyardlaw20.ChangeParts", spec := "changeParts", inPlace := ["internal/bytealg.CountString", "internal/bytealg.IndexByteString", "internal/bytealg.IndexString", "slices.overlaps[shipyard/api.Node]", "slices.overlaps[shipyard/api.Part]", "slices.overlaps[shipyard/api.Seam]", "slices.overlaps[shipyard/api.Package]", "slices.overlaps[shipyard/api.Need]", "internal/abi.NoEscape"], unfollowed := true, recurses := true, named := ["unicode/utf8.first", "unicode/utf8.acceptRanges", "internal/bytealg.MaxLen"], apart := false, laid := [("unicode/utf8.acceptRanges", laid_unicode_utf8_acceptRanges), ("unicode/utf8.first", laid_unicode_utf8_first)], narrowed := true }
def ChangePartsUptoSaid : Prop := changePartsUptoRow.holds Tryz.pinned (OpenSpec.upto changePartsSpec)

/-- 'shipyardlaw20.ChangeTouches', WHERE WHAT IT READS IS OF BULK AT MOST 1048576: true; the input reads as it did. -/
def changeTouchesUptoRow : OpenClaim := { program := "ytipdohmdckdoeaagreatdoor", sum := "bcef7f635d2df3077ba986356c4bc04a5763b3fdd737637bcab7d5f50f5ddc69", func := "shipyard/shipyardlaw20.ChangeTouches", spec := "changeTouches", inPlace := ["internal/bytealg.CountString", "internal/bytealg.IndexByteString", "internal/bytealg.IndexString", "slices.overlaps[shipyard/api.Node]", "slices.overlaps[shipyard/api.Part]", "slices.overlaps[shipyard/api.Seam]", "slices.overlaps[shipyard/api.Package]", "slices.overlaps[shipyard/api.Need]", "internal/abi.NoEscape"], unfollowed := true, recurses := true, named := ["unicode/utf8.first", "unicode/utf8.acceptRanges", "internal/bytealg.MaxLen"], apart := false, laid := [("unicode/utf8.acceptRanges", laid_unicode_utf8_acceptRanges), ("unicode/utf8.first", laid_unicode_utf8_first)], narrowed := true }
def ChangeTouchesUptoSaid : Prop := changeTouchesUptoRow.holds Tryz.pinned (OpenSpec.upto changeTouchesSpec)

end Rows
end Go.Proofs.YtipdohmdckdoeaaGreatDoor

/-
  NARROWER THAN 'FOR EVERY INPUT', by the rows' own cells (each row's printed sentence says how): StructureBlocks: laid · StructureSames: laid · StructureLong: laid · StructureFinds: laid.
  DERIVED. THE GIVEN ROWS OF THIS SEAT. 4 by the template 'for every input the law returns true; each argument reads behind the call as it read before'; 0 by the template 'total and deterministic' (their statements: YtlobonckhdilaaaGreatDoorTotals.lean).
  GIVEN WITH THE SEED: the statements are not yours to turn. If you find one false, say at which input.
  Laid BY PROGRAM, IN A SANDBOX (cutbox-rows.mjs): the forced cells as the released guide's own fill.sh prints them over the translation 3fb5b38806ee43dd… (all of the seat's roots in one cut). By AI agents, Wed Nov 11 2026. No macro, syntax, notation, axiom, sorry.
-/
import Derived.Test.YtlobonckhdilaaaGreatDoorChecked
import GoSem.PinnedTables
import GoSem.Claim
import GoSem.ClaimJoined
import GoSem.ClaimMapViews
import Derived.JoinedTies
import Derived.KernelRfl
namespace Go.Proofs.YtlobonckhdilaaaGreatDoor
/- THE CELL 'sum', in the pinned program and in every row, IS THE sha256 OF THE DUMP (.gsa) THAT YtlobonckhdilaaaGreatDoorProg.lean LOADS. Nothing in Lean hashes anything: it is a label: what it is worth is what the hold of that sum in a sandbox is worth. -/
noncomputable def Tryz.pinned : Pinned := { name := "ytlobonckhdilaaagreatdoor", sum := "3fb5b38806ee43dd83c8f5276370f0f9530e256858ee3f4ec7ce89d7c720e151", checked := Tryz.checked }
namespace Rows
def none {H : Type} : Left H := { results := [], args := [] }

/- WHAT THE LISTED PACKAGE-LEVEL VARIABLES READ AS WHEN THE CALL BEGINS. Each datum BY PROGRAM (the guide's laid-datum.mjs) off the statement by which the dump's own 'gosem.cut.vars' lays the variable. In a bare row this is a premise. The card (YtlobonckhdilaaaGreatDoorCards.lean) ties it to the program's text. -/
def laid_unicode_utf8_acceptRanges {H : Type} : DataW H := .agg [.agg [.lit (.int .u8 128), .lit (.int .u8 191)], .agg [.lit (.int .u8 160), .lit (.int .u8 191)], .agg [.lit (.int .u8 128), .lit (.int .u8 159)], .agg [.lit (.int .u8 144), .lit (.int .u8 191)], .agg [.lit (.int .u8 128), .lit (.int .u8 143)], .agg [.lit (.int .u8 0), .lit (.int .u8 0)], .agg [.lit (.int .u8 0), .lit (.int .u8 0)], .agg [.lit (.int .u8 0), .lit (.int .u8 0)], .agg [.lit (.int .u8 0), .lit (.int .u8 0)], .agg [.lit (.int .u8 0), .lit (.int .u8 0)], .agg [.lit (.int .u8 0), .lit (.int .u8 0)], .agg [.lit (.int .u8 0), .lit (.int .u8 0)], .agg [.lit (.int .u8 0), .lit (.int .u8 0)], .agg [.lit (.int .u8 0), .lit (.int .u8 0)], .agg [.lit (.int .u8 0), .lit (.int .u8 0)], .agg [.lit (.int .u8 0), .lit (.int .u8 0)]]
/-- One of Go's own tables, pinned by name: the form's constant. -/
def laid_unicode_utf8_first : DataW Unit := Go.Pinned.utf8First

/-- 'shipyardlaw17.StructureBlocks': WHATEVER THE INPUT: true; the input reads as it did. -/
def structureBlocksSpec : ChangeSpec := { name := "structureBlocks", fn := fun _ => fun
  | [d1, d2] => { results := [.lit (.bool true)], args := [d1, d2] }
  | _ => none }
def structureBlocksRow : OpenClaim := { program := "ytlobonckhdilaaagreatdoor", sum := "3fb5b38806ee43dd83c8f5276370f0f9530e256858ee3f4ec7ce89d7c720e151", func := "shipyard/shipyardlaw17.StructureBlocks", spec := "structureBlocks", inPlace := ["internal/bytealg.CountString", "internal/bytealg.IndexByteString", "internal/bytealg.IndexString"], unfollowed := true, recurses := true, named := ["unicode/utf8.first", "unicode/utf8.acceptRanges", "internal/bytealg.MaxLen"], apart := false, laid := [("unicode/utf8.acceptRanges", laid_unicode_utf8_acceptRanges), ("unicode/utf8.first", laid_unicode_utf8_first)] }
def StructureBlocksSaid : Prop := structureBlocksRow.holds Tryz.pinned (OpenSpec.ofChange structureBlocksSpec)

/-- ITS FALSE NEIGHBOUR: 'it returns false'. Refute it at one input. -/
def structureBlocksWrong : ChangeSpec := { name := "structureBlocks", fn := fun _ => fun
  | [d1, d2] => { results := [.lit (.bool false)], args := [d1, d2] }
  | _ => none }
def StructureBlocksWrongFalsely : Prop := structureBlocksRow.holds Tryz.pinned (OpenSpec.ofChange structureBlocksWrong)

/-- 'shipyardlaw17.StructureSames': WHATEVER THE INPUT: true; the input reads as it did. -/
def structureSamesSpec : ChangeSpec := { name := "structureSames", fn := fun _ => fun
  | [d1, d2] => { results := [.lit (.bool true)], args := [d1, d2] }
  | _ => none }
def structureSamesRow : OpenClaim := { program := "ytlobonckhdilaaagreatdoor", sum := "3fb5b38806ee43dd83c8f5276370f0f9530e256858ee3f4ec7ce89d7c720e151", func := "shipyard/shipyardlaw17.StructureSames", spec := "structureSames", inPlace := ["internal/bytealg.CountString", "internal/bytealg.IndexByteString", "internal/bytealg.IndexString"], unfollowed := true, recurses := true, named := ["unicode/utf8.first", "unicode/utf8.acceptRanges", "internal/bytealg.MaxLen"], apart := false, laid := [("unicode/utf8.acceptRanges", laid_unicode_utf8_acceptRanges), ("unicode/utf8.first", laid_unicode_utf8_first)] }
def StructureSamesSaid : Prop := structureSamesRow.holds Tryz.pinned (OpenSpec.ofChange structureSamesSpec)

/-- ITS FALSE NEIGHBOUR: 'it returns false'. Refute it at one input. -/
def structureSamesWrong : ChangeSpec := { name := "structureSames", fn := fun _ => fun
  | [d1, d2] => { results := [.lit (.bool false)], args := [d1, d2] }
  | _ => none }
def StructureSamesWrongFalsely : Prop := structureSamesRow.holds Tryz.pinned (OpenSpec.ofChange structureSamesWrong)

/-- 'shipyardlaw17.StructureLong': WHATEVER THE INPUT: true; the input reads as it did. -/
def structureLongSpec : ChangeSpec := { name := "structureLong", fn := fun _ => fun
  | [d] => { results := [.lit (.bool true)], args := [d] }
  | _ => none }
def structureLongRow : OpenClaim := { program := "ytlobonckhdilaaagreatdoor", sum := "3fb5b38806ee43dd83c8f5276370f0f9530e256858ee3f4ec7ce89d7c720e151", func := "shipyard/shipyardlaw17.StructureLong", spec := "structureLong", inPlace := ["internal/bytealg.CountString", "internal/bytealg.IndexByteString", "internal/bytealg.IndexString"], unfollowed := true, recurses := true, named := ["unicode/utf8.first", "unicode/utf8.acceptRanges", "internal/bytealg.MaxLen"], apart := false, laid := [("unicode/utf8.acceptRanges", laid_unicode_utf8_acceptRanges), ("unicode/utf8.first", laid_unicode_utf8_first)] }
def StructureLongSaid : Prop := structureLongRow.holds Tryz.pinned (OpenSpec.ofChange structureLongSpec)

/-- ITS FALSE NEIGHBOUR: 'it returns false'. Refute it at one input. -/
def structureLongWrong : ChangeSpec := { name := "structureLong", fn := fun _ => fun
  | [d] => { results := [.lit (.bool false)], args := [d] }
  | _ => none }
def StructureLongWrongFalsely : Prop := structureLongRow.holds Tryz.pinned (OpenSpec.ofChange structureLongWrong)

/-- 'shipyardlaw17.StructureFinds': WHATEVER THE INPUT: true; the input reads as it did. -/
def structureFindsSpec : ChangeSpec := { name := "structureFinds", fn := fun _ => fun
  | [d1, d2] => { results := [.lit (.bool true)], args := [d1, d2] }
  | _ => none }
def structureFindsRow : OpenClaim := { program := "ytlobonckhdilaaagreatdoor", sum := "3fb5b38806ee43dd83c8f5276370f0f9530e256858ee3f4ec7ce89d7c720e151", func := "shipyard/shipyardlaw17.StructureFinds", spec := "structureFinds", inPlace := ["internal/bytealg.CountString", "internal/bytealg.IndexByteString", "internal/bytealg.IndexString"], unfollowed := true, recurses := true, named := ["unicode/utf8.first", "unicode/utf8.acceptRanges", "internal/bytealg.MaxLen"], apart := false, laid := [("unicode/utf8.acceptRanges", laid_unicode_utf8_acceptRanges), ("unicode/utf8.first", laid_unicode_utf8_first)] }
def StructureFindsSaid : Prop := structureFindsRow.holds Tryz.pinned (OpenSpec.ofChange structureFindsSpec)

/-- ITS FALSE NEIGHBOUR: 'it returns false'. Refute it at one input. -/
def structureFindsWrong : ChangeSpec := { name := "structureFinds", fn := fun _ => fun
  | [d1, d2] => { results := [.lit (.bool false)], args := [d1, d2] }
  | _ => none }
def StructureFindsWrongFalsely : Prop := structureFindsRow.holds Tryz.pinned (OpenSpec.ofChange structureFindsWrong)

/- THE SECOND FORM. 'bulk': how many values and letters a reading holds, each counted each time it is reached (what is shared counts as often as it is met; a slice's spare places count too). A statement '..UptoSaid' is the law's where the arguments, and the package variables that the reading takes, are together of bulk at most 1048576: NARROWER than '..Said'. Prove '..Said' where nothing that the law and all that it calls make is longer than what came in: it says more and counts as full. Else prove '..UptoSaid'. A law counts once. -/
mutual
def uptoBulk {H : Type} : DataW H → Nat
  | .lit (.string bytes) => bytes.length + 1
  | .lit _ => 1
  | .nil => 1
  | .ptr d => uptoBulk d + 1
  | .slice elems spare => uptoBulkAll elems + uptoBulkAll spare + 1
  | .agg parts => uptoBulkAll parts + 1
  | .iface _ d => uptoBulk d + 1
  | .map entries => uptoBulkEntries entries + 1
  | .held _ => 1
def uptoBulkAll {H : Type} : List (DataW H) → Nat
  | [] => 0
  | d :: r => uptoBulk d + uptoBulkAll r
def uptoBulkEntries {H : Type} : List (Lit × DataW H) → Nat
  | [] => 0
  | x :: r => uptoBulkEntry x + uptoBulkEntries r
def uptoBulkEntry {H : Type} : Lit × DataW H → Nat
  | (.string bytes, d) => bytes.length + uptoBulk d + 1
  | (_, d) => uptoBulk d + 1
 end
def uptoSmall : (H : Type) → List (DataW H) → Bool := fun _ ds => decide (uptoBulkAll ds ≤ 1048576)
def OpenSpec.upto (s : _root_.Go.ChangeSpec) : _root_.Go.OpenSpec := { _root_.Go.OpenSpec.ofChange s with cond := some uptoSmall }

/-- 'shipyardlaw17.StructureBlocks', WHERE WHAT IT READS IS OF BULK AT MOST 1048576: true; the input reads as it did. -/
def structureBlocksUptoRow : OpenClaim := { program := "ytlobonckhdilaaagreatdoor", sum := "3fb5b38806ee43dd83c8f5276370f0f9530e256858ee3f4ec7ce89d7c720e151", func := "shipyard/shipyardlaw17.StructureBlocks", spec := "structureBlocks", inPlace := ["internal/bytealg.CountString", "internal/bytealg.IndexByteString", "internal/bytealg.IndexString"], unfollowed := true, recurses := true, named := ["unicode/utf8.first", "unicode/utf8.acceptRanges", "internal/bytealg.MaxLen"], apart := false, laid := [("unicode/utf8.acceptRanges", laid_unicode_utf8_acceptRanges), ("unicode/utf8.first", laid_unicode_utf8_first)], narrowed := true }
def StructureBlocksUptoSaid : Prop := structureBlocksUptoRow.holds Tryz.pinned (OpenSpec.upto structureBlocksSpec)

/-- 'shipyardlaw17.StructureSames', WHERE WHAT IT READS IS OF BULK AT MOST 1048576: true; the input reads as it did. -/
def structureSamesUptoRow : OpenClaim := { program := "ytlobonckhdilaaagreatdoor", sum := "3fb5b38806ee43dd83c8f5276370f0f9530e256858ee3f4ec7ce89d7c720e151", func := "shipyard/shipyardlaw17.StructureSames", spec := "structureSames", inPlace := ["internal/bytealg.CountString", "internal/bytealg.IndexByteString", "internal/bytealg.IndexString"], unfollowed := true, recurses := true, named := ["unicode/utf8.first", "unicode/utf8.acceptRanges", "internal/bytealg.MaxLen"], apart := false, laid := [("unicode/utf8.acceptRanges", laid_unicode_utf8_acceptRanges), ("unicode/utf8.first", laid_unicode_utf8_first)], narrowed := true }
def StructureSamesUptoSaid : Prop := structureSamesUptoRow.holds Tryz.pinned (OpenSpec.upto structureSamesSpec)

/-- 'shipyardlaw17.StructureLong', WHERE WHAT IT READS IS OF BULK AT MOST 1048576: true; the input reads as it did. -/
def structureLongUptoRow : OpenClaim := { program := "ytlobonckhdilaaagreatdoor", sum := "3fb5b38806ee43dd83c8f5276370f0f9530e256858ee3f4ec7ce89d7c720e151", func := "shipyard/shipyardlaw17.StructureLong", spec := "structureLong", inPlace := ["internal/bytealg.CountString", "internal/bytealg.IndexByteString", "internal/bytealg.IndexString"], unfollowed := true, recurses := true, named := ["unicode/utf8.first", "unicode/utf8.acceptRanges", "internal/bytealg.MaxLen"], apart := false, laid := [("unicode/utf8.acceptRanges", laid_unicode_utf8_acceptRanges), ("unicode/utf8.first", laid_unicode_utf8_first)], narrowed := true }
def StructureLongUptoSaid : Prop := structureLongUptoRow.holds Tryz.pinned (OpenSpec.upto structureLongSpec)

/-- 'shipyardlaw17.StructureFinds', WHERE WHAT IT READS IS OF BULK AT MOST 1048576: true; the input reads as it did. -/
def structureFindsUptoRow : OpenClaim := { program := "ytlobonckhdilaaagreatdoor", sum := "3fb5b38806ee43dd83c8f5276370f0f9530e256858ee3f4ec7ce89d7c720e151", func := "shipyard/shipyardlaw17.StructureFinds", spec := "structureFinds", inPlace := ["internal/bytealg.CountString", "internal/bytealg.IndexByteString", "internal/bytealg.IndexString"], unfollowed := true, recurses := true, named := ["unicode/utf8.first", "unicode/utf8.acceptRanges", "internal/bytealg.MaxLen"], apart := false, laid := [("unicode/utf8.acceptRanges", laid_unicode_utf8_acceptRanges), ("unicode/utf8.first", laid_unicode_utf8_first)], narrowed := true }
def StructureFindsUptoSaid : Prop := structureFindsUptoRow.holds Tryz.pinned (OpenSpec.upto structureFindsSpec)

end Rows
end Go.Proofs.YtlobonckhdilaaaGreatDoor

/-
  NARROWER THAN 'FOR EVERY INPUT', by the rows' own cells (each row's printed sentence says how): SeamPlaces: laid · SeamTwo: laid · SeamThin: laid · SeamLowest: laid.
  DERIVED. THE GIVEN ROWS OF THIS SEAT. 4 by the template 'for every input the law returns true; each argument reads behind the call as it read before'; 0 by the template 'total and deterministic' (their statements: YtgcdkgglcloniaaGreatDoorTotals.lean).
  GIVEN WITH THE SEED: the statements are not yours to turn. If you find one false, say at which input.
  Laid BY PROGRAM, IN A SANDBOX (cutbox-rows.mjs): the forced cells as the released guide's own fill.sh prints them over the translation 9f273528882e4051… (all of the seat's roots in one cut). By AI agents, Wed Nov 11 2026. No macro, syntax, notation, axiom, sorry.
-/
import Derived.Test.YtgcdkgglcloniaaGreatDoorChecked
import GoSem.PinnedTables
import GoSem.Claim
import GoSem.ClaimJoined
import GoSem.ClaimMapViews
import Derived.JoinedTies
import Derived.KernelRfl
namespace Go.Proofs.YtgcdkgglcloniaaGreatDoor
/- THE CELL 'sum', in the pinned program and in every row, IS THE sha256 OF THE DUMP (.gsa) THAT YtgcdkgglcloniaaGreatDoorProg.lean LOADS. Nothing in Lean hashes anything: it is a label: what it is worth is what the hold of that sum in a sandbox is worth. -/
noncomputable def Tryz.pinned : Pinned := { name := "ytgcdkgglcloniaagreatdoor", sum := "9f273528882e4051908224cecfd973866ff4b1b9026eb3f3667ec3ac8134315b", checked := Tryz.checked }
namespace Rows
def none {H : Type} : Left H := { results := [], args := [] }

/- WHAT THE LISTED PACKAGE-LEVEL VARIABLES READ AS WHEN THE CALL BEGINS. Each datum BY PROGRAM (the guide's laid-datum.mjs) off the statement by which the dump's own 'gosem.cut.vars' lays the variable. In a bare row this is a premise. The card (YtgcdkgglcloniaaGreatDoorCards.lean) ties it to the program's text. -/
def laid_unicode_utf8_acceptRanges {H : Type} : DataW H := .agg [.agg [.lit (.int .u8 128), .lit (.int .u8 191)], .agg [.lit (.int .u8 160), .lit (.int .u8 191)], .agg [.lit (.int .u8 128), .lit (.int .u8 159)], .agg [.lit (.int .u8 144), .lit (.int .u8 191)], .agg [.lit (.int .u8 128), .lit (.int .u8 143)], .agg [.lit (.int .u8 0), .lit (.int .u8 0)], .agg [.lit (.int .u8 0), .lit (.int .u8 0)], .agg [.lit (.int .u8 0), .lit (.int .u8 0)], .agg [.lit (.int .u8 0), .lit (.int .u8 0)], .agg [.lit (.int .u8 0), .lit (.int .u8 0)], .agg [.lit (.int .u8 0), .lit (.int .u8 0)], .agg [.lit (.int .u8 0), .lit (.int .u8 0)], .agg [.lit (.int .u8 0), .lit (.int .u8 0)], .agg [.lit (.int .u8 0), .lit (.int .u8 0)], .agg [.lit (.int .u8 0), .lit (.int .u8 0)], .agg [.lit (.int .u8 0), .lit (.int .u8 0)]]
/-- One of Go's own tables, pinned by name: the form's constant. -/
def laid_unicode_utf8_first : DataW Unit := Go.Pinned.utf8First

/-- 'shipyardlaw18.SeamPlaces': WHATEVER THE INPUT: true; the input reads as it did. -/
def seamPlacesSpec : ChangeSpec := { name := "seamPlaces", fn := fun _ => fun
  | [d1, d2] => { results := [.lit (.bool true)], args := [d1, d2] }
  | _ => none }
def seamPlacesRow : OpenClaim := { program := "ytgcdkgglcloniaagreatdoor", sum := "9f273528882e4051908224cecfd973866ff4b1b9026eb3f3667ec3ac8134315b", func := "shipyard/shipyardlaw18.SeamPlaces", spec := "seamPlaces", inPlace := ["internal/bytealg.CountString", "internal/bytealg.IndexByteString", "internal/bytealg.IndexString"], unfollowed := true, recurses := true, named := ["unicode/utf8.first", "unicode/utf8.acceptRanges", "internal/bytealg.MaxLen"], apart := false, laid := [("unicode/utf8.acceptRanges", laid_unicode_utf8_acceptRanges), ("unicode/utf8.first", laid_unicode_utf8_first)] }
def SeamPlacesSaid : Prop := seamPlacesRow.holds Tryz.pinned (OpenSpec.ofChange seamPlacesSpec)

/-- ITS FALSE NEIGHBOUR: 'it returns false'. Refute it at one input. -/
def seamPlacesWrong : ChangeSpec := { name := "seamPlaces", fn := fun _ => fun
  | [d1, d2] => { results := [.lit (.bool false)], args := [d1, d2] }
  | _ => none }
def SeamPlacesWrongFalsely : Prop := seamPlacesRow.holds Tryz.pinned (OpenSpec.ofChange seamPlacesWrong)

/-- 'shipyardlaw18.SeamTwo': WHATEVER THE INPUT: true; the input reads as it did. -/
def seamTwoSpec : ChangeSpec := { name := "seamTwo", fn := fun _ => fun
  | [d1, d2] => { results := [.lit (.bool true)], args := [d1, d2] }
  | _ => none }
def seamTwoRow : OpenClaim := { program := "ytgcdkgglcloniaagreatdoor", sum := "9f273528882e4051908224cecfd973866ff4b1b9026eb3f3667ec3ac8134315b", func := "shipyard/shipyardlaw18.SeamTwo", spec := "seamTwo", inPlace := ["internal/bytealg.CountString", "internal/bytealg.IndexByteString", "internal/bytealg.IndexString"], unfollowed := true, recurses := true, named := ["unicode/utf8.first", "unicode/utf8.acceptRanges", "internal/bytealg.MaxLen"], apart := false, laid := [("unicode/utf8.acceptRanges", laid_unicode_utf8_acceptRanges), ("unicode/utf8.first", laid_unicode_utf8_first)] }
def SeamTwoSaid : Prop := seamTwoRow.holds Tryz.pinned (OpenSpec.ofChange seamTwoSpec)

/-- ITS FALSE NEIGHBOUR: 'it returns false'. Refute it at one input. -/
def seamTwoWrong : ChangeSpec := { name := "seamTwo", fn := fun _ => fun
  | [d1, d2] => { results := [.lit (.bool false)], args := [d1, d2] }
  | _ => none }
def SeamTwoWrongFalsely : Prop := seamTwoRow.holds Tryz.pinned (OpenSpec.ofChange seamTwoWrong)

/-- 'shipyardlaw18.SeamThin': WHATEVER THE INPUT: true; the input reads as it did. -/
def seamThinSpec : ChangeSpec := { name := "seamThin", fn := fun _ => fun
  | [d1, d2] => { results := [.lit (.bool true)], args := [d1, d2] }
  | _ => none }
def seamThinRow : OpenClaim := { program := "ytgcdkgglcloniaagreatdoor", sum := "9f273528882e4051908224cecfd973866ff4b1b9026eb3f3667ec3ac8134315b", func := "shipyard/shipyardlaw18.SeamThin", spec := "seamThin", inPlace := ["internal/bytealg.CountString", "internal/bytealg.IndexByteString", "internal/bytealg.IndexString"], unfollowed := true, recurses := true, named := ["unicode/utf8.first", "unicode/utf8.acceptRanges", "internal/bytealg.MaxLen"], apart := false, laid := [("unicode/utf8.acceptRanges", laid_unicode_utf8_acceptRanges), ("unicode/utf8.first", laid_unicode_utf8_first)] }
def SeamThinSaid : Prop := seamThinRow.holds Tryz.pinned (OpenSpec.ofChange seamThinSpec)

/-- ITS FALSE NEIGHBOUR: 'it returns false'. Refute it at one input. -/
def seamThinWrong : ChangeSpec := { name := "seamThin", fn := fun _ => fun
  | [d1, d2] => { results := [.lit (.bool false)], args := [d1, d2] }
  | _ => none }
def SeamThinWrongFalsely : Prop := seamThinRow.holds Tryz.pinned (OpenSpec.ofChange seamThinWrong)

/-- 'shipyardlaw18.SeamLowest': WHATEVER THE INPUT: true; the input reads as it did. -/
def seamLowestSpec : ChangeSpec := { name := "seamLowest", fn := fun _ => fun
  | [d1, d2] => { results := [.lit (.bool true)], args := [d1, d2] }
  | _ => none }
def seamLowestRow : OpenClaim := { program := "ytgcdkgglcloniaagreatdoor", sum := "9f273528882e4051908224cecfd973866ff4b1b9026eb3f3667ec3ac8134315b", func := "shipyard/shipyardlaw18.SeamLowest", spec := "seamLowest", inPlace := ["internal/bytealg.CountString", "internal/bytealg.IndexByteString", "internal/bytealg.IndexString"], unfollowed := true, recurses := true, named := ["unicode/utf8.first", "unicode/utf8.acceptRanges", "internal/bytealg.MaxLen"], apart := false, laid := [("unicode/utf8.acceptRanges", laid_unicode_utf8_acceptRanges), ("unicode/utf8.first", laid_unicode_utf8_first)] }
def SeamLowestSaid : Prop := seamLowestRow.holds Tryz.pinned (OpenSpec.ofChange seamLowestSpec)

/-- ITS FALSE NEIGHBOUR: 'it returns false'. Refute it at one input. -/
def seamLowestWrong : ChangeSpec := { name := "seamLowest", fn := fun _ => fun
  | [d1, d2] => { results := [.lit (.bool false)], args := [d1, d2] }
  | _ => none }
def SeamLowestWrongFalsely : Prop := seamLowestRow.holds Tryz.pinned (OpenSpec.ofChange seamLowestWrong)

/- THE SECOND FORM. 'bulk': how many values and letters a reading holds, each counted each time it is reached (what is shared counts as often as it is met; a slice's spare places count too). A statement '..UptoSaid' is the law's where the arguments, and the package variables that the reading takes, are together of bulk at most 1048576: NARROWER than '..Said'. Prove '..Said' where nothing that the law and all that it calls make is longer than what came in: it says more and counts as full. Else prove '..UptoSaid'. A law counts once. -/
mutual
def uptoBulk {H : Type} : DataW H → Nat
  | .lit (.string bytes) => bytes.length + 1
  | .lit _ => 1
  | .nil => 1
  | .ptr d => uptoBulk d + 1
  | .slice elems spare => uptoBulkAll elems + uptoBulkAll spare + 1
  | .agg parts => uptoBulkAll parts + 1
  | .iface _ d => uptoBulk d + 1
  | .map entries => uptoBulkEntries entries + 1
  | .held _ => 1
def uptoBulkAll {H : Type} : List (DataW H) → Nat
  | [] => 0
  | d :: r => uptoBulk d + uptoBulkAll r
def uptoBulkEntries {H : Type} : List (Lit × DataW H) → Nat
  | [] => 0
  | x :: r => uptoBulkEntry x + uptoBulkEntries r
def uptoBulkEntry {H : Type} : Lit × DataW H → Nat
  | (.string bytes, d) => bytes.length + uptoBulk d + 1
  | (_, d) => uptoBulk d + 1
 end
def uptoSmall : (H : Type) → List (DataW H) → Bool := fun _ ds => decide (uptoBulkAll ds ≤ 1048576)
def OpenSpec.upto (s : _root_.Go.ChangeSpec) : _root_.Go.OpenSpec := { _root_.Go.OpenSpec.ofChange s with cond := some uptoSmall }

/-- 'shipyardlaw18.SeamPlaces', WHERE WHAT IT READS IS OF BULK AT MOST 1048576: true; the input reads as it did. -/
def seamPlacesUptoRow : OpenClaim := { program := "ytgcdkgglcloniaagreatdoor", sum := "9f273528882e4051908224cecfd973866ff4b1b9026eb3f3667ec3ac8134315b", func := "shipyard/shipyardlaw18.SeamPlaces", spec := "seamPlaces", inPlace := ["internal/bytealg.CountString", "internal/bytealg.IndexByteString", "internal/bytealg.IndexString"], unfollowed := true, recurses := true, named := ["unicode/utf8.first", "unicode/utf8.acceptRanges", "internal/bytealg.MaxLen"], apart := false, laid := [("unicode/utf8.acceptRanges", laid_unicode_utf8_acceptRanges), ("unicode/utf8.first", laid_unicode_utf8_first)], narrowed := true }
def SeamPlacesUptoSaid : Prop := seamPlacesUptoRow.holds Tryz.pinned (OpenSpec.upto seamPlacesSpec)

/-- 'shipyardlaw18.SeamTwo', WHERE WHAT IT READS IS OF BULK AT MOST 1048576: true; the input reads as it did. -/
def seamTwoUptoRow : OpenClaim := { program := "ytgcdkgglcloniaagreatdoor", sum := "9f273528882e4051908224cecfd973866ff4b1b9026eb3f3667ec3ac8134315b", func := "shipyard/shipyardlaw18.SeamTwo", spec := "seamTwo", inPlace := ["internal/bytealg.CountString", "internal/bytealg.IndexByteString", "internal/bytealg.IndexString"], unfollowed := true, recurses := true, named := ["unicode/utf8.first", "unicode/utf8.acceptRanges", "internal/bytealg.MaxLen"], apart := false, laid := [("unicode/utf8.acceptRanges", laid_unicode_utf8_acceptRanges), ("unicode/utf8.first", laid_unicode_utf8_first)], narrowed := true }
def SeamTwoUptoSaid : Prop := seamTwoUptoRow.holds Tryz.pinned (OpenSpec.upto seamTwoSpec)

/-- 'shipyardlaw18.SeamThin', WHERE WHAT IT READS IS OF BULK AT MOST 1048576: true; the input reads as it did. -/
def seamThinUptoRow : OpenClaim := { program := "ytgcdkgglcloniaagreatdoor", sum := "9f273528882e4051908224cecfd973866ff4b1b9026eb3f3667ec3ac8134315b", func := "shipyard/shipyardlaw18.SeamThin", spec := "seamThin", inPlace := ["internal/bytealg.CountString", "internal/bytealg.IndexByteString", "internal/bytealg.IndexString"], unfollowed := true, recurses := true, named := ["unicode/utf8.first", "unicode/utf8.acceptRanges", "internal/bytealg.MaxLen"], apart := false, laid := [("unicode/utf8.acceptRanges", laid_unicode_utf8_acceptRanges), ("unicode/utf8.first", laid_unicode_utf8_first)], narrowed := true }
def SeamThinUptoSaid : Prop := seamThinUptoRow.holds Tryz.pinned (OpenSpec.upto seamThinSpec)

/-- 'shipyardlaw18.SeamLowest', WHERE WHAT IT READS IS OF BULK AT MOST 1048576: true; the input reads as it did. -/
def seamLowestUptoRow : OpenClaim := { program := "ytgcdkgglcloniaagreatdoor", sum := "9f273528882e4051908224cecfd973866ff4b1b9026eb3f3667ec3ac8134315b", func := "shipyard/shipyardlaw18.SeamLowest", spec := "seamLowest", inPlace := ["internal/bytealg.CountString", "internal/bytealg.IndexByteString", "internal/bytealg.IndexString"], unfollowed := true, recurses := true, named := ["unicode/utf8.first", "unicode/utf8.acceptRanges", "internal/bytealg.MaxLen"], apart := false, laid := [("unicode/utf8.acceptRanges", laid_unicode_utf8_acceptRanges), ("unicode/utf8.first", laid_unicode_utf8_first)], narrowed := true }
def SeamLowestUptoSaid : Prop := seamLowestUptoRow.holds Tryz.pinned (OpenSpec.upto seamLowestSpec)

end Rows
end Go.Proofs.YtgcdkgglcloniaaGreatDoor

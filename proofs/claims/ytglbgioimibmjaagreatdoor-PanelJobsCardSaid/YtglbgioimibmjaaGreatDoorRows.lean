/-
  NARROWER THAN 'FOR EVERY INPUT', by the rows' own cells (each row's printed sentence says how): PanelMinutes: laid · PanelJobs: laid · PanelPlans: laid · PanelMore: laid · PanelBest: laid.
  DERIVED. THE GIVEN ROWS OF THIS SEAT. 5 by the template 'for every input the law returns true; each argument reads behind the call as it read before'; 0 by the template 'total and deterministic' (their statements: YtglbgioimibmjaaGreatDoorTotals.lean).
  GIVEN WITH THE SEED: the statements are not yours to turn. If you find one false, say at which input.
  Laid BY PROGRAM, IN A SANDBOX (cutbox-rows.mjs): the forced cells as the released guide's own fill.sh prints them over the translation e2b3550c3ec9e783… (all of the seat's roots in one cut). By AI agents, Wed Nov 11 2026. No macro, syntax, notation, axiom, sorry.
-/
import Derived.Test.YtglbgioimibmjaaGreatDoorChecked
import GoSem.PinnedTables
import GoSem.Claim
import GoSem.ClaimJoined
import GoSem.ClaimMapViews
import Derived.JoinedTies
import Derived.KernelRfl
namespace Go.Proofs.YtglbgioimibmjaaGreatDoor
/- THE CELL 'sum', in the pinned program and in every row, IS THE sha256 OF THE DUMP (.gsa) THAT YtglbgioimibmjaaGreatDoorProg.lean LOADS. Nothing in Lean hashes anything: it is a label: what it is worth is what the hold of that sum in a sandbox is worth. -/
noncomputable def Tryz.pinned : Pinned := { name := "ytglbgioimibmjaagreatdoor", sum := "e2b3550c3ec9e7839a7276dee119af416ac306694917727fbb3c25a85dddba79", checked := Tryz.checked }
namespace Rows
def none {H : Type} : Left H := { results := [], args := [] }

/- WHAT THE LISTED PACKAGE-LEVEL VARIABLES READ AS WHEN THE CALL BEGINS. Each datum BY PROGRAM (the guide's laid-datum.mjs) off the statement by which the dump's own 'gosem.cut.vars' lays the variable. In a bare row this is a premise. The card (YtglbgioimibmjaaGreatDoorCards.lean) ties it to the program's text. -/
def laid_unicode_utf8_acceptRanges {H : Type} : DataW H := .agg [.agg [.lit (.int .u8 128), .lit (.int .u8 191)], .agg [.lit (.int .u8 160), .lit (.int .u8 191)], .agg [.lit (.int .u8 128), .lit (.int .u8 159)], .agg [.lit (.int .u8 144), .lit (.int .u8 191)], .agg [.lit (.int .u8 128), .lit (.int .u8 143)], .agg [.lit (.int .u8 0), .lit (.int .u8 0)], .agg [.lit (.int .u8 0), .lit (.int .u8 0)], .agg [.lit (.int .u8 0), .lit (.int .u8 0)], .agg [.lit (.int .u8 0), .lit (.int .u8 0)], .agg [.lit (.int .u8 0), .lit (.int .u8 0)], .agg [.lit (.int .u8 0), .lit (.int .u8 0)], .agg [.lit (.int .u8 0), .lit (.int .u8 0)], .agg [.lit (.int .u8 0), .lit (.int .u8 0)], .agg [.lit (.int .u8 0), .lit (.int .u8 0)], .agg [.lit (.int .u8 0), .lit (.int .u8 0)], .agg [.lit (.int .u8 0), .lit (.int .u8 0)]]
/-- One of Go's own tables, pinned by name: the form's constant. -/
def laid_unicode_utf8_first : DataW Unit := Go.Pinned.utf8First

/-- 'shipyardlaw39.PanelMinutes': WHATEVER THE INPUT: true; the input reads as it did. -/
def panelMinutesSpec : ChangeSpec := { name := "panelMinutes", fn := fun _ => fun
  | [d1, d2] => { results := [.lit (.bool true)], args := [d1, d2] }
  | _ => none }
def panelMinutesRow : OpenClaim := { program := "ytglbgioimibmjaagreatdoor", sum := "e2b3550c3ec9e7839a7276dee119af416ac306694917727fbb3c25a85dddba79", func := "shipyard/shipyardlaw39.PanelMinutes", spec := "panelMinutes", inPlace := ["internal/bytealg.CountString", "internal/bytealg.IndexByteString", "internal/bytealg.IndexString", "math/bits.Add64"], unfollowed := true, recurses := true, named := ["unicode/utf8.first", "unicode/utf8.acceptRanges", "internal/bytealg.MaxLen"], apart := false, laid := [("unicode/utf8.acceptRanges", laid_unicode_utf8_acceptRanges), ("unicode/utf8.first", laid_unicode_utf8_first)] }
def PanelMinutesSaid : Prop := panelMinutesRow.holds Tryz.pinned (OpenSpec.ofChange panelMinutesSpec)

/-- ITS FALSE NEIGHBOUR: 'it returns false'. Refute it at one input. -/
def panelMinutesWrong : ChangeSpec := { name := "panelMinutes", fn := fun _ => fun
  | [d1, d2] => { results := [.lit (.bool false)], args := [d1, d2] }
  | _ => none }
def PanelMinutesWrongFalsely : Prop := panelMinutesRow.holds Tryz.pinned (OpenSpec.ofChange panelMinutesWrong)

/-- 'shipyardlaw39.PanelJobs': WHATEVER THE INPUT: true; the input reads as it did. -/
def panelJobsSpec : ChangeSpec := { name := "panelJobs", fn := fun _ => fun
  | [d1, d2] => { results := [.lit (.bool true)], args := [d1, d2] }
  | _ => none }
def panelJobsRow : OpenClaim := { program := "ytglbgioimibmjaagreatdoor", sum := "e2b3550c3ec9e7839a7276dee119af416ac306694917727fbb3c25a85dddba79", func := "shipyard/shipyardlaw39.PanelJobs", spec := "panelJobs", inPlace := ["internal/bytealg.CountString", "internal/bytealg.IndexByteString", "internal/bytealg.IndexString", "math/bits.Add64"], unfollowed := true, recurses := true, named := ["unicode/utf8.first", "unicode/utf8.acceptRanges", "internal/bytealg.MaxLen"], apart := false, laid := [("unicode/utf8.acceptRanges", laid_unicode_utf8_acceptRanges), ("unicode/utf8.first", laid_unicode_utf8_first)] }
def PanelJobsSaid : Prop := panelJobsRow.holds Tryz.pinned (OpenSpec.ofChange panelJobsSpec)

/-- ITS FALSE NEIGHBOUR: 'it returns false'. Refute it at one input. -/
def panelJobsWrong : ChangeSpec := { name := "panelJobs", fn := fun _ => fun
  | [d1, d2] => { results := [.lit (.bool false)], args := [d1, d2] }
  | _ => none }
def PanelJobsWrongFalsely : Prop := panelJobsRow.holds Tryz.pinned (OpenSpec.ofChange panelJobsWrong)

/-- 'shipyardlaw39.PanelPlans': WHATEVER THE INPUT: true; the input reads as it did. -/
def panelPlansSpec : ChangeSpec := { name := "panelPlans", fn := fun _ => fun
  | [d1, d2, d3] => { results := [.lit (.bool true)], args := [d1, d2, d3] }
  | _ => none }
def panelPlansRow : OpenClaim := { program := "ytglbgioimibmjaagreatdoor", sum := "e2b3550c3ec9e7839a7276dee119af416ac306694917727fbb3c25a85dddba79", func := "shipyard/shipyardlaw39.PanelPlans", spec := "panelPlans", inPlace := ["internal/bytealg.CountString", "internal/bytealg.IndexByteString", "internal/bytealg.IndexString", "math/bits.Add64"], unfollowed := true, recurses := true, named := ["unicode/utf8.first", "unicode/utf8.acceptRanges", "internal/bytealg.MaxLen"], apart := false, laid := [("unicode/utf8.acceptRanges", laid_unicode_utf8_acceptRanges), ("unicode/utf8.first", laid_unicode_utf8_first)] }
def PanelPlansSaid : Prop := panelPlansRow.holds Tryz.pinned (OpenSpec.ofChange panelPlansSpec)

/-- ITS FALSE NEIGHBOUR: 'it returns false'. Refute it at one input. -/
def panelPlansWrong : ChangeSpec := { name := "panelPlans", fn := fun _ => fun
  | [d1, d2, d3] => { results := [.lit (.bool false)], args := [d1, d2, d3] }
  | _ => none }
def PanelPlansWrongFalsely : Prop := panelPlansRow.holds Tryz.pinned (OpenSpec.ofChange panelPlansWrong)

/-- 'shipyardlaw39.PanelMore': WHATEVER THE INPUT: true; the input reads as it did. -/
def panelMoreSpec : ChangeSpec := { name := "panelMore", fn := fun _ => fun
  | [d1, d2] => { results := [.lit (.bool true)], args := [d1, d2] }
  | _ => none }
def panelMoreRow : OpenClaim := { program := "ytglbgioimibmjaagreatdoor", sum := "e2b3550c3ec9e7839a7276dee119af416ac306694917727fbb3c25a85dddba79", func := "shipyard/shipyardlaw39.PanelMore", spec := "panelMore", inPlace := ["internal/bytealg.CountString", "internal/bytealg.IndexByteString", "internal/bytealg.IndexString", "math/bits.Add64"], unfollowed := true, recurses := true, named := ["unicode/utf8.first", "unicode/utf8.acceptRanges", "internal/bytealg.MaxLen"], apart := false, laid := [("unicode/utf8.acceptRanges", laid_unicode_utf8_acceptRanges), ("unicode/utf8.first", laid_unicode_utf8_first)] }
def PanelMoreSaid : Prop := panelMoreRow.holds Tryz.pinned (OpenSpec.ofChange panelMoreSpec)

/-- ITS FALSE NEIGHBOUR: 'it returns false'. Refute it at one input. -/
def panelMoreWrong : ChangeSpec := { name := "panelMore", fn := fun _ => fun
  | [d1, d2] => { results := [.lit (.bool false)], args := [d1, d2] }
  | _ => none }
def PanelMoreWrongFalsely : Prop := panelMoreRow.holds Tryz.pinned (OpenSpec.ofChange panelMoreWrong)

/-- 'shipyardlaw39.PanelBest': WHATEVER THE INPUT: true; the input reads as it did. -/
def panelBestSpec : ChangeSpec := { name := "panelBest", fn := fun _ => fun
  | [d1, d2, d3] => { results := [.lit (.bool true)], args := [d1, d2, d3] }
  | _ => none }
def panelBestRow : OpenClaim := { program := "ytglbgioimibmjaagreatdoor", sum := "e2b3550c3ec9e7839a7276dee119af416ac306694917727fbb3c25a85dddba79", func := "shipyard/shipyardlaw39.PanelBest", spec := "panelBest", inPlace := ["internal/bytealg.CountString", "internal/bytealg.IndexByteString", "internal/bytealg.IndexString", "math/bits.Add64"], unfollowed := true, recurses := true, named := ["unicode/utf8.first", "unicode/utf8.acceptRanges", "internal/bytealg.MaxLen"], apart := false, laid := [("unicode/utf8.acceptRanges", laid_unicode_utf8_acceptRanges), ("unicode/utf8.first", laid_unicode_utf8_first)] }
def PanelBestSaid : Prop := panelBestRow.holds Tryz.pinned (OpenSpec.ofChange panelBestSpec)

/-- ITS FALSE NEIGHBOUR: 'it returns false'. Refute it at one input. -/
def panelBestWrong : ChangeSpec := { name := "panelBest", fn := fun _ => fun
  | [d1, d2, d3] => { results := [.lit (.bool false)], args := [d1, d2, d3] }
  | _ => none }
def PanelBestWrongFalsely : Prop := panelBestRow.holds Tryz.pinned (OpenSpec.ofChange panelBestWrong)

/- THE SECOND FORM. 'bulk': how many values and letters a reading holds, each counted each time it is reached (what is shared counts as often as it is met; a slice's spare places count too). A statement '..UptoSaid' is the law's where the arguments, and the package variables that the reading takes, are together of bulk at most 1048576: NARROWER than '..Said'. Prove '..Said' where nothing that the law and all that it calls make is longer than what came in: it says more and counts as full. Else prove '..UptoSaid'. A law counts once. -/
mutual
def uptoBulk {H : Type} : DataW H → Nat
  | .lit (.string bytes) => bytes.length + 1
  | .lit _ => 1
  | .nil => 1
  | .ptr d => uptoBulk d + 1
  | .slice elems spare => uptoBulkAll elems + uptoBulkAll spare + 1
  | .agg parts => uptoBulkAll parts + 1
  | .iface _ d => uptoBulk d + 1
  | .map entries => uptoBulkEntries entries + 1
  | .held _ => 1
def uptoBulkAll {H : Type} : List (DataW H) → Nat
  | [] => 0
  | d :: r => uptoBulk d + uptoBulkAll r
def uptoBulkEntries {H : Type} : List (Lit × DataW H) → Nat
  | [] => 0
  | x :: r => uptoBulkEntry x + uptoBulkEntries r
def uptoBulkEntry {H : Type} : Lit × DataW H → Nat
  | (.string bytes, d) => bytes.length + uptoBulk d + 1
  | (_, d) => uptoBulk d + 1
 end
def uptoSmall : (H : Type) → List (DataW H) → Bool := fun _ ds => decide (uptoBulkAll ds ≤ 1048576)
def OpenSpec.upto (s : _root_.Go.ChangeSpec) : _root_.Go.OpenSpec := { _root_.Go.OpenSpec.ofChange s with cond := some uptoSmall }

/-- 'shipyardlaw39.PanelMinutes', WHERE WHAT IT READS IS OF BULK AT MOST 1048576: true; the input reads as it did. -/
def panelMinutesUptoRow : OpenClaim := { program := "ytglbgioimibmjaagreatdoor", sum := "e2b3550c3ec9e7839a7276dee119af416ac306694917727fbb3c25a85dddba79", func := "shipyard/shipyardlaw39.PanelMinutes", spec := "panelMinutes", inPlace := ["internal/bytealg.CountString", "internal/bytealg.IndexByteString", "internal/bytealg.IndexString", "math/bits.Add64"], unfollowed := true, recurses := true, named := ["unicode/utf8.first", "unicode/utf8.acceptRanges", "internal/bytealg.MaxLen"], apart := false, laid := [("unicode/utf8.acceptRanges", laid_unicode_utf8_acceptRanges), ("unicode/utf8.first", laid_unicode_utf8_first)], narrowed := true }
def PanelMinutesUptoSaid : Prop := panelMinutesUptoRow.holds Tryz.pinned (OpenSpec.upto panelMinutesSpec)

/-- 'shipyardlaw39.PanelJobs', WHERE WHAT IT READS IS OF BULK AT MOST 1048576: true; the input reads as it did. -/
def panelJobsUptoRow : OpenClaim := { program := "ytglbgioimibmjaagreatdoor", sum := "e2b3550c3ec9e7839a7276dee119af416ac306694917727fbb3c25a85dddba79", func := "shipyard/shipyardlaw39.PanelJobs", spec := "panelJobs", inPlace := ["internal/bytealg.CountString", "internal/bytealg.IndexByteString", "internal/bytealg.IndexString", "math/bits.Add64"], unfollowed := true, recurses := true, named := ["unicode/utf8.first", "unicode/utf8.acceptRanges", "internal/bytealg.MaxLen"], apart := false, laid := [("unicode/utf8.acceptRanges", laid_unicode_utf8_acceptRanges), ("unicode/utf8.first", laid_unicode_utf8_first)], narrowed := true }
def PanelJobsUptoSaid : Prop := panelJobsUptoRow.holds Tryz.pinned (OpenSpec.upto panelJobsSpec)

/-- 'shipyardlaw39.PanelPlans', WHERE WHAT IT READS IS OF BULK AT MOST 1048576: true; the input reads as it did. -/
def panelPlansUptoRow : OpenClaim := { program := "ytglbgioimibmjaagreatdoor", sum := "e2b3550c3ec9e7839a7276dee119af416ac306694917727fbb3c25a85dddba79", func := "shipyard/shipyardlaw39.PanelPlans", spec := "panelPlans", inPlace := ["internal/bytealg.CountString", "internal/bytealg.IndexByteString", "internal/bytealg.IndexString", "math/bits.Add64"], unfollowed := true, recurses := true, named := ["unicode/utf8.first", "unicode/utf8.acceptRanges", "internal/bytealg.MaxLen"], apart := false, laid := [("unicode/utf8.acceptRanges", laid_unicode_utf8_acceptRanges), ("unicode/utf8.first", laid_unicode_utf8_first)], narrowed := true }
def PanelPlansUptoSaid : Prop := panelPlansUptoRow.holds Tryz.pinned (OpenSpec.upto panelPlansSpec)

/-- 'shipyardlaw39.PanelMore', WHERE WHAT IT READS IS OF BULK AT MOST 1048576: true; the input reads as it did. -/
def panelMoreUptoRow : OpenClaim := { program := "ytglbgioimibmjaagreatdoor", sum := "e2b3550c3ec9e7839a7276dee119af416ac306694917727fbb3c25a85dddba79", func := "shipyard/shipyardlaw39.PanelMore", spec := "panelMore", inPlace := ["internal/bytealg.CountString", "internal/bytealg.IndexByteString", "internal/bytealg.IndexString", "math/bits.Add64"], unfollowed := true, recurses := true, named := ["unicode/utf8.first", "unicode/utf8.acceptRanges", "internal/bytealg.MaxLen"], apart := false, laid := [("unicode/utf8.acceptRanges", laid_unicode_utf8_acceptRanges), ("unicode/utf8.first", laid_unicode_utf8_first)], narrowed := true }
def PanelMoreUptoSaid : Prop := panelMoreUptoRow.holds Tryz.pinned (OpenSpec.upto panelMoreSpec)

/-- 'shipyardlaw39.PanelBest', WHERE WHAT IT READS IS OF BULK AT MOST 1048576: true; the input reads as it did. -/
def panelBestUptoRow : OpenClaim := { program := "ytglbgioimibmjaagreatdoor", sum := "e2b3550c3ec9e7839a7276dee119af416ac306694917727fbb3c25a85dddba79", func := "shipyard/shipyardlaw39.PanelBest", spec := "panelBest", inPlace := ["internal/bytealg.CountString", "internal/bytealg.IndexByteString", "internal/bytealg.IndexString", "math/bits.Add64"], unfollowed := true, recurses := true, named := ["unicode/utf8.first", "unicode/utf8.acceptRanges", "internal/bytealg.MaxLen"], apart := false, laid := [("unicode/utf8.acceptRanges", laid_unicode_utf8_acceptRanges), ("unicode/utf8.first", laid_unicode_utf8_first)], narrowed := true }
def PanelBestUptoSaid : Prop := panelBestUptoRow.holds Tryz.pinned (OpenSpec.upto panelBestSpec)

end Rows
end Go.Proofs.YtglbgioimibmjaaGreatDoor

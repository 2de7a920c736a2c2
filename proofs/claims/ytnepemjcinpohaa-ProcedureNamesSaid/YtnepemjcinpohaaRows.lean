/-
  No cell of these rows narrows 'for every input' (looked for: loops, veiled, ifaces, maps, wideKeys, modest, calm, conditions, laid).
  DERIVED. THE GIVEN ROWS OF THIS SEAT. 7 by the template 'for every input the law returns true; each argument reads behind the call as it read before'; 0 by the template 'total and deterministic' (their statements: YtnepemjcinpohaaTotals.lean).
  GIVEN WITH THE SEED: the statements are not yours to turn. If you find one false, say at which input.
  Laid BY PROGRAM, IN A SANDBOX (cutbox-rows.mjs): the forced cells as the released guide's own fill.sh prints them over the translation 53912db7874026d3… (all of the seat's roots in one cut). By AI agents, Wed Nov 11 2026. No macro, syntax, notation, axiom, sorry.
-/
import Derived.Test.YtnepemjcinpohaaChecked
import GoSem.Claim
import GoSem.ClaimJoined
import GoSem.ClaimMapViews
import Derived.JoinedTies
import Derived.KernelRfl
namespace Go.Proofs.Ytnepemjcinpohaa
/- THE CELL 'sum', in the pinned program and in every row, IS THE sha256 OF THE DUMP (.gsa) THAT YtnepemjcinpohaaProg.lean LOADS. Nothing in Lean hashes anything: it is a label: what it is worth is what the hold of that sum in a sandbox is worth. -/
noncomputable def Try.pinned : Pinned := { name := "ytnepemjcinpohaa", sum := "53912db7874026d399136047ffa0c06bbb8ecadcf85fbcb34231c9362a022711", checked := Try.checked }
namespace Rows
def none {H : Type} : Left H := { results := [], args := [] }

/-- 'shipyardlaw31.ProcedureChecks': WHATEVER THE INPUT: true; the input reads as it did. -/
def procedureChecksSpec : ChangeSpec := { name := "procedureChecks", fn := fun _ => fun
  | [d1, d2] => { results := [.lit (.bool true)], args := [d1, d2] }
  | _ => none }
def procedureChecksRow : OpenClaim := { program := "ytnepemjcinpohaa", sum := "53912db7874026d399136047ffa0c06bbb8ecadcf85fbcb34231c9362a022711", func := "shipyard/shipyardlaw31.ProcedureChecks", spec := "procedureChecks", unfollowed := true, recurses := true, apart := false }
def ProcedureChecksSaid : Prop := procedureChecksRow.holds Try.pinned (OpenSpec.ofChange procedureChecksSpec)

/-- ITS FALSE NEIGHBOUR: 'it returns false'. Refute it at one input. -/
def procedureChecksWrong : ChangeSpec := { name := "procedureChecks", fn := fun _ => fun
  | [d1, d2] => { results := [.lit (.bool false)], args := [d1, d2] }
  | _ => none }
def ProcedureChecksWrongFalsely : Prop := procedureChecksRow.holds Try.pinned (OpenSpec.ofChange procedureChecksWrong)

/-- 'shipyardlaw31.ProcedureFits': WHATEVER THE INPUT: true; the input reads as it did. -/
def procedureFitsSpec : ChangeSpec := { name := "procedureFits", fn := fun _ => fun
  | [d1, d2] => { results := [.lit (.bool true)], args := [d1, d2] }
  | _ => none }
def procedureFitsRow : OpenClaim := { program := "ytnepemjcinpohaa", sum := "53912db7874026d399136047ffa0c06bbb8ecadcf85fbcb34231c9362a022711", func := "shipyard/shipyardlaw31.ProcedureFits", spec := "procedureFits", unfollowed := true, recurses := true, apart := false }
def ProcedureFitsSaid : Prop := procedureFitsRow.holds Try.pinned (OpenSpec.ofChange procedureFitsSpec)

/-- ITS FALSE NEIGHBOUR: 'it returns false'. Refute it at one input. -/
def procedureFitsWrong : ChangeSpec := { name := "procedureFits", fn := fun _ => fun
  | [d1, d2] => { results := [.lit (.bool false)], args := [d1, d2] }
  | _ => none }
def ProcedureFitsWrongFalsely : Prop := procedureFitsRow.holds Try.pinned (OpenSpec.ofChange procedureFitsWrong)

/-- 'shipyardlaw31.ProcedureSeams': WHATEVER THE INPUT: true; the input reads as it did. -/
def procedureSeamsSpec : ChangeSpec := { name := "procedureSeams", fn := fun _ => fun
  | [d1, d2] => { results := [.lit (.bool true)], args := [d1, d2] }
  | _ => none }
def procedureSeamsRow : OpenClaim := { program := "ytnepemjcinpohaa", sum := "53912db7874026d399136047ffa0c06bbb8ecadcf85fbcb34231c9362a022711", func := "shipyard/shipyardlaw31.ProcedureSeams", spec := "procedureSeams", unfollowed := true, recurses := true, apart := false }
def ProcedureSeamsSaid : Prop := procedureSeamsRow.holds Try.pinned (OpenSpec.ofChange procedureSeamsSpec)

/-- ITS FALSE NEIGHBOUR: 'it returns false'. Refute it at one input. -/
def procedureSeamsWrong : ChangeSpec := { name := "procedureSeams", fn := fun _ => fun
  | [d1, d2] => { results := [.lit (.bool false)], args := [d1, d2] }
  | _ => none }
def ProcedureSeamsWrongFalsely : Prop := procedureSeamsRow.holds Try.pinned (OpenSpec.ofChange procedureSeamsWrong)

/-- 'shipyardlaw31.ProcedureHours': WHATEVER THE INPUT: true; the input reads as it did. -/
def procedureHoursSpec : ChangeSpec := { name := "procedureHours", fn := fun _ => fun
  | [d1, d2] => { results := [.lit (.bool true)], args := [d1, d2] }
  | _ => none }
def procedureHoursRow : OpenClaim := { program := "ytnepemjcinpohaa", sum := "53912db7874026d399136047ffa0c06bbb8ecadcf85fbcb34231c9362a022711", func := "shipyard/shipyardlaw31.ProcedureHours", spec := "procedureHours", unfollowed := true, recurses := true, apart := false }
def ProcedureHoursSaid : Prop := procedureHoursRow.holds Try.pinned (OpenSpec.ofChange procedureHoursSpec)

/-- ITS FALSE NEIGHBOUR: 'it returns false'. Refute it at one input. -/
def procedureHoursWrong : ChangeSpec := { name := "procedureHours", fn := fun _ => fun
  | [d1, d2] => { results := [.lit (.bool false)], args := [d1, d2] }
  | _ => none }
def ProcedureHoursWrongFalsely : Prop := procedureHoursRow.holds Try.pinned (OpenSpec.ofChange procedureHoursWrong)

/-- 'shipyardlaw31.ProcedureEach': WHATEVER THE INPUT: true; the input reads as it did. -/
def procedureEachSpec : ChangeSpec := { name := "procedureEach", fn := fun _ => fun
  | [d1, d2] => { results := [.lit (.bool true)], args := [d1, d2] }
  | _ => none }
def procedureEachRow : OpenClaim := { program := "ytnepemjcinpohaa", sum := "53912db7874026d399136047ffa0c06bbb8ecadcf85fbcb34231c9362a022711", func := "shipyard/shipyardlaw31.ProcedureEach", spec := "procedureEach", unfollowed := true, recurses := true, apart := false }
def ProcedureEachSaid : Prop := procedureEachRow.holds Try.pinned (OpenSpec.ofChange procedureEachSpec)

/-- ITS FALSE NEIGHBOUR: 'it returns false'. Refute it at one input. -/
def procedureEachWrong : ChangeSpec := { name := "procedureEach", fn := fun _ => fun
  | [d1, d2] => { results := [.lit (.bool false)], args := [d1, d2] }
  | _ => none }
def ProcedureEachWrongFalsely : Prop := procedureEachRow.holds Try.pinned (OpenSpec.ofChange procedureEachWrong)

/-- 'shipyardlaw31.ProcedureWider': WHATEVER THE INPUT: true; the input reads as it did. -/
def procedureWiderSpec : ChangeSpec := { name := "procedureWider", fn := fun _ => fun
  | [d1, d2, d3] => { results := [.lit (.bool true)], args := [d1, d2, d3] }
  | _ => none }
def procedureWiderRow : OpenClaim := { program := "ytnepemjcinpohaa", sum := "53912db7874026d399136047ffa0c06bbb8ecadcf85fbcb34231c9362a022711", func := "shipyard/shipyardlaw31.ProcedureWider", spec := "procedureWider", unfollowed := true, recurses := true, apart := false }
def ProcedureWiderSaid : Prop := procedureWiderRow.holds Try.pinned (OpenSpec.ofChange procedureWiderSpec)

/-- ITS FALSE NEIGHBOUR: 'it returns false'. Refute it at one input. -/
def procedureWiderWrong : ChangeSpec := { name := "procedureWider", fn := fun _ => fun
  | [d1, d2, d3] => { results := [.lit (.bool false)], args := [d1, d2, d3] }
  | _ => none }
def ProcedureWiderWrongFalsely : Prop := procedureWiderRow.holds Try.pinned (OpenSpec.ofChange procedureWiderWrong)

/-- 'shipyardlaw31.ProcedureNames': WHATEVER THE INPUT: true; the input reads as it did. -/
def procedureNamesSpec : ChangeSpec := { name := "procedureNames", fn := fun _ => fun
  | [d] => { results := [.lit (.bool true)], args := [d] }
  | _ => none }
def procedureNamesRow : OpenClaim := { program := "ytnepemjcinpohaa", sum := "53912db7874026d399136047ffa0c06bbb8ecadcf85fbcb34231c9362a022711", func := "shipyard/shipyardlaw31.ProcedureNames", spec := "procedureNames", unfollowed := true, recurses := true, apart := false }
def ProcedureNamesSaid : Prop := procedureNamesRow.holds Try.pinned (OpenSpec.ofChange procedureNamesSpec)

/-- ITS FALSE NEIGHBOUR: 'it returns false'. Refute it at one input. -/
def procedureNamesWrong : ChangeSpec := { name := "procedureNames", fn := fun _ => fun
  | [d] => { results := [.lit (.bool false)], args := [d] }
  | _ => none }
def ProcedureNamesWrongFalsely : Prop := procedureNamesRow.holds Try.pinned (OpenSpec.ofChange procedureNamesWrong)

/- THE SECOND FORM. 'bulk': how many values and letters a reading holds, each counted each time it is reached (what is shared counts as often as it is met; a slice's spare places count too). A statement '..UptoSaid' is the law's where the arguments, and the package variables that the reading takes, are together of bulk at most 1048576: NARROWER than '..Said'. Prove '..Said' where nothing that the law and all that it calls make is longer than what came in: it says more and counts as full. Else prove '..UptoSaid'. A law counts once. -/
mutual
def uptoBulk {H : Type} : DataW H → Nat
  | .lit (.string bytes) => bytes.length + 1
  | .lit _ => 1
  | .nil => 1
  | .ptr d => uptoBulk d + 1
  | .slice elems spare => uptoBulkAll elems + uptoBulkAll spare + 1
  | .agg parts => uptoBulkAll parts + 1
  | .iface _ d => uptoBulk d + 1
  | .map entries => uptoBulkEntries entries + 1
  | .held _ => 1
def uptoBulkAll {H : Type} : List (DataW H) → Nat
  | [] => 0
  | d :: r => uptoBulk d + uptoBulkAll r
def uptoBulkEntries {H : Type} : List (Lit × DataW H) → Nat
  | [] => 0
  | x :: r => uptoBulkEntry x + uptoBulkEntries r
def uptoBulkEntry {H : Type} : Lit × DataW H → Nat
  | (.string bytes, d) => bytes.length + uptoBulk d + 1
  | (_, d) => uptoBulk d + 1
 end
def uptoSmall : (H : Type) → List (DataW H) → Bool := fun _ ds => decide (uptoBulkAll ds ≤ 1048576)
def OpenSpec.upto (s : _root_.Go.ChangeSpec) : _root_.Go.OpenSpec := { _root_.Go.OpenSpec.ofChange s with cond := some uptoSmall }

/-- 'shipyardlaw31.ProcedureChecks', WHERE WHAT IT READS IS OF BULK AT MOST 1048576: true; the input reads as it did. -/
def procedureChecksUptoRow : OpenClaim := { program := "ytnepemjcinpohaa", sum := "53912db7874026d399136047ffa0c06bbb8ecadcf85fbcb34231c9362a022711", func := "shipyard/shipyardlaw31.ProcedureChecks", spec := "procedureChecks", unfollowed := true, recurses := true, apart := false, narrowed := true }
def ProcedureChecksUptoSaid : Prop := procedureChecksUptoRow.holds Try.pinned (OpenSpec.upto procedureChecksSpec)

/-- 'shipyardlaw31.ProcedureFits', WHERE WHAT IT READS IS OF BULK AT MOST 1048576: true; the input reads as it did. -/
def procedureFitsUptoRow : OpenClaim := { program := "ytnepemjcinpohaa", sum := "53912db7874026d399136047ffa0c06bbb8ecadcf85fbcb34231c9362a022711", func := "shipyard/shipyardlaw31.ProcedureFits", spec := "procedureFits", unfollowed := true, recurses := true, apart := false, narrowed := true }
def ProcedureFitsUptoSaid : Prop := procedureFitsUptoRow.holds Try.pinned (OpenSpec.upto procedureFitsSpec)

/-- 'shipyardlaw31.ProcedureSeams', WHERE WHAT IT READS IS OF BULK AT MOST 1048576: true; the input reads as it did. -/
def procedureSeamsUptoRow : OpenClaim := { program := "ytnepemjcinpohaa", sum := "53912db7874026d399136047ffa0c06bbb8ecadcf85fbcb34231c9362a022711", func := "shipyard/shipyardlaw31.ProcedureSeams", spec := "procedureSeams", unfollowed := true, recurses := true, apart := false, narrowed := true }
def ProcedureSeamsUptoSaid : Prop := procedureSeamsUptoRow.holds Try.pinned (OpenSpec.upto procedureSeamsSpec)

/-- 'shipyardlaw31.ProcedureHours', WHERE WHAT IT READS IS OF BULK AT MOST 1048576: true; the input reads as it did. -/
def procedureHoursUptoRow : OpenClaim := { program := "ytnepemjcinpohaa", sum := "53912db7874026d399136047ffa0c06bbb8ecadcf85fbcb34231c9362a022711", func := "shipyard/shipyardlaw31.ProcedureHours", spec := "procedureHours", unfollowed := true, recurses := true, apart := false, narrowed := true }
def ProcedureHoursUptoSaid : Prop := procedureHoursUptoRow.holds Try.pinned (OpenSpec.upto procedureHoursSpec)

/-- 'shipyardlaw31.ProcedureEach', WHERE WHAT IT READS IS OF BULK AT MOST 1048576: true; the input reads as it did. -/
def procedureEachUptoRow : OpenClaim := { program := "ytnepemjcinpohaa", sum := "53912db7874026d399136047ffa0c06bbb8ecadcf85fbcb34231c9362a022711", func := "shipyard/shipyardlaw31.ProcedureEach", spec := "procedureEach", unfollowed := true, recurses := true, apart := false, narrowed := true }
def ProcedureEachUptoSaid : Prop := procedureEachUptoRow.holds Try.pinned (OpenSpec.upto procedureEachSpec)

/-- 'shipyardlaw31.ProcedureWider', WHERE WHAT IT READS IS OF BULK AT MOST 1048576: true; the input reads as it did. -/
def procedureWiderUptoRow : OpenClaim := { program := "ytnepemjcinpohaa", sum := "53912db7874026d399136047ffa0c06bbb8ecadcf85fbcb34231c9362a022711", func := "shipyard/shipyardlaw31.ProcedureWider", spec := "procedureWider", unfollowed := true, recurses := true, apart := false, narrowed := true }
def ProcedureWiderUptoSaid : Prop := procedureWiderUptoRow.holds Try.pinned (OpenSpec.upto procedureWiderSpec)

/-- 'shipyardlaw31.ProcedureNames', WHERE WHAT IT READS IS OF BULK AT MOST 1048576: true; the input reads as it did. -/
def procedureNamesUptoRow : OpenClaim := { program := "ytnepemjcinpohaa", sum := "53912db7874026d399136047ffa0c06bbb8ecadcf85fbcb34231c9362a022711", func := "shipyard/shipyardlaw31.ProcedureNames", spec := "procedureNames", unfollowed := true, recurses := true, apart := false, narrowed := true }
def ProcedureNamesUptoSaid : Prop := procedureNamesUptoRow.holds Try.pinned (OpenSpec.upto procedureNamesSpec)

end Rows
end Go.Proofs.Ytnepemjcinpohaa

/-
  No cell of these rows narrows 'for every input' (looked for: loops, veiled, ifaces, maps, wideKeys, modest, calm, conditions, laid).
  DERIVED. THE GIVEN ROWS OF THIS SEAT. 12 by the template 'for every input the law returns true; each argument reads behind the call as it read before'; 0 by the template 'total and deterministic' (their statements: YtdimhbolckbjdaaTotals.lean).
  GIVEN WITH THE SEED: the statements are not yours to turn. If you find one false, say at which input.
  Laid BY PROGRAM, IN A SANDBOX (cutbox-rows.mjs): the forced cells as the released guide's own fill.sh prints them over the translation d2a7a5b405e32c21… (all of the seat's roots in one cut). By AI agents, Wed Nov 11 2026. No macro, syntax, notation, axiom, sorry.
-/
import Derived.Test.YtdimhbolckbjdaaChecked
import GoSem.Claim
import GoSem.ClaimJoined
import GoSem.ClaimMapViews
import Derived.JoinedTies
import Derived.KernelRfl
namespace Go.Proofs.Ytdimhbolckbjdaa
/- THE CELL 'sum', in the pinned program and in every row, IS THE sha256 OF THE DUMP (.gsa) THAT YtdimhbolckbjdaaProg.lean LOADS. Nothing in Lean hashes anything: it is a label: what it is worth is what the hold of that sum in a sandbox is worth. -/
noncomputable def Try.pinned : Pinned := { name := "ytdimhbolckbjdaa", sum := "d2a7a5b405e32c2142aee03a79f02c04350812fc751cc6aa4c1ecc6eca66d899", checked := Try.checked }
namespace Rows
def none {H : Type} : Left H := { results := [], args := [] }

/-- 'laws.FnExactAfterWorkingDays': WHATEVER THE INPUT: true; the input reads as it did. -/
def fnExactAfterWorkingDaysSpec : ChangeSpec := { name := "fnExactAfterWorkingDays", fn := fun _ => fun
  | [d1, d2] => { results := [.lit (.bool true)], args := [d1, d2] }
  | _ => none }
def fnExactAfterWorkingDaysRow : OpenClaim := { program := "ytdimhbolckbjdaa", sum := "d2a7a5b405e32c2142aee03a79f02c04350812fc751cc6aa4c1ecc6eca66d899", func := "loop.example/g00909/laws.FnExactAfterWorkingDays", spec := "fnExactAfterWorkingDays", apart := false }
def FnExactAfterWorkingDaysSaid : Prop := fnExactAfterWorkingDaysRow.holds Try.pinned (OpenSpec.ofChange fnExactAfterWorkingDaysSpec)

/-- ITS FALSE NEIGHBOUR: 'it returns false'. Refute it at one input. -/
def fnExactAfterWorkingDaysWrong : ChangeSpec := { name := "fnExactAfterWorkingDays", fn := fun _ => fun
  | [d1, d2] => { results := [.lit (.bool false)], args := [d1, d2] }
  | _ => none }
def FnExactAfterWorkingDaysWrongFalsely : Prop := fnExactAfterWorkingDaysRow.holds Try.pinned (OpenSpec.ofChange fnExactAfterWorkingDaysWrong)

/-- 'laws.FnExactAreNotices': WHATEVER THE INPUT: true; the input reads as it did. -/
def fnExactAreNoticesSpec : ChangeSpec := { name := "fnExactAreNotices", fn := fun _ => fun
  | [d] => { results := [.lit (.bool true)], args := [d] }
  | _ => none }
def fnExactAreNoticesRow : OpenClaim := { program := "ytdimhbolckbjdaa", sum := "d2a7a5b405e32c2142aee03a79f02c04350812fc751cc6aa4c1ecc6eca66d899", func := "loop.example/g00909/laws.FnExactAreNotices", spec := "fnExactAreNotices", apart := false }
def FnExactAreNoticesSaid : Prop := fnExactAreNoticesRow.holds Try.pinned (OpenSpec.ofChange fnExactAreNoticesSpec)

/-- ITS FALSE NEIGHBOUR: 'it returns false'. Refute it at one input. -/
def fnExactAreNoticesWrong : ChangeSpec := { name := "fnExactAreNotices", fn := fun _ => fun
  | [d] => { results := [.lit (.bool false)], args := [d] }
  | _ => none }
def FnExactAreNoticesWrongFalsely : Prop := fnExactAreNoticesRow.holds Try.pinned (OpenSpec.ofChange fnExactAreNoticesWrong)

/-- 'laws.FnExactIsReport': WHATEVER THE INPUT: true; the input reads as it did. -/
def fnExactIsReportSpec : ChangeSpec := { name := "fnExactIsReport", fn := fun _ => fun
  | [d] => { results := [.lit (.bool true)], args := [d] }
  | _ => none }
def fnExactIsReportRow : OpenClaim := { program := "ytdimhbolckbjdaa", sum := "d2a7a5b405e32c2142aee03a79f02c04350812fc751cc6aa4c1ecc6eca66d899", func := "loop.example/g00909/laws.FnExactIsReport", spec := "fnExactIsReport", unfollowed := true, recurses := true, apart := false }
def FnExactIsReportSaid : Prop := fnExactIsReportRow.holds Try.pinned (OpenSpec.ofChange fnExactIsReportSpec)

/-- ITS FALSE NEIGHBOUR: 'it returns false'. Refute it at one input. -/
def fnExactIsReportWrong : ChangeSpec := { name := "fnExactIsReport", fn := fun _ => fun
  | [d] => { results := [.lit (.bool false)], args := [d] }
  | _ => none }
def FnExactIsReportWrongFalsely : Prop := fnExactIsReportRow.holds Try.pinned (OpenSpec.ofChange fnExactIsReportWrong)

/-- 'laws.FnWorkingDays': WHATEVER THE INPUT: true; the input reads as it did. -/
def fnWorkingDaysSpec : ChangeSpec := { name := "fnWorkingDays", fn := fun _ => fun
  | [d] => { results := [.lit (.bool true)], args := [d] }
  | _ => none }
def fnWorkingDaysRow : OpenClaim := { program := "ytdimhbolckbjdaa", sum := "d2a7a5b405e32c2142aee03a79f02c04350812fc751cc6aa4c1ecc6eca66d899", func := "loop.example/g00909/laws.FnWorkingDays", spec := "fnWorkingDays", apart := false }
def FnWorkingDaysSaid : Prop := fnWorkingDaysRow.holds Try.pinned (OpenSpec.ofChange fnWorkingDaysSpec)

/-- ITS FALSE NEIGHBOUR: 'it returns false'. Refute it at one input. -/
def fnWorkingDaysWrong : ChangeSpec := { name := "fnWorkingDays", fn := fun _ => fun
  | [d] => { results := [.lit (.bool false)], args := [d] }
  | _ => none }
def FnWorkingDaysWrongFalsely : Prop := fnWorkingDaysRow.holds Try.pinned (OpenSpec.ofChange fnWorkingDaysWrong)

/-- 'laws.FnExactIsValidDecided': WHATEVER THE INPUT: true; the input reads as it did. -/
def fnExactIsValidDecidedSpec : ChangeSpec := { name := "fnExactIsValidDecided", fn := fun _ => fun
  | [d] => { results := [.lit (.bool true)], args := [d] }
  | _ => none }
def fnExactIsValidDecidedRow : OpenClaim := { program := "ytdimhbolckbjdaa", sum := "d2a7a5b405e32c2142aee03a79f02c04350812fc751cc6aa4c1ecc6eca66d899", func := "loop.example/g00909/laws.FnExactIsValidDecided", spec := "fnExactIsValidDecided", unfollowed := true, recurses := true, apart := false }
def FnExactIsValidDecidedSaid : Prop := fnExactIsValidDecidedRow.holds Try.pinned (OpenSpec.ofChange fnExactIsValidDecidedSpec)

/-- ITS FALSE NEIGHBOUR: 'it returns false'. Refute it at one input. -/
def fnExactIsValidDecidedWrong : ChangeSpec := { name := "fnExactIsValidDecided", fn := fun _ => fun
  | [d] => { results := [.lit (.bool false)], args := [d] }
  | _ => none }
def FnExactIsValidDecidedWrongFalsely : Prop := fnExactIsValidDecidedRow.holds Try.pinned (OpenSpec.ofChange fnExactIsValidDecidedWrong)

/-- 'laws.FnExactFirstMeeting': WHATEVER THE INPUT: true; the input reads as it did. -/
def fnExactFirstMeetingSpec : ChangeSpec := { name := "fnExactFirstMeeting", fn := fun _ => fun
  | [d] => { results := [.lit (.bool true)], args := [d] }
  | _ => none }
def fnExactFirstMeetingRow : OpenClaim := { program := "ytdimhbolckbjdaa", sum := "d2a7a5b405e32c2142aee03a79f02c04350812fc751cc6aa4c1ecc6eca66d899", func := "loop.example/g00909/laws.FnExactFirstMeeting", spec := "fnExactFirstMeeting", apart := false }
def FnExactFirstMeetingSaid : Prop := fnExactFirstMeetingRow.holds Try.pinned (OpenSpec.ofChange fnExactFirstMeetingSpec)

/-- ITS FALSE NEIGHBOUR: 'it returns false'. Refute it at one input. -/
def fnExactFirstMeetingWrong : ChangeSpec := { name := "fnExactFirstMeeting", fn := fun _ => fun
  | [d] => { results := [.lit (.bool false)], args := [d] }
  | _ => none }
def FnExactFirstMeetingWrongFalsely : Prop := fnExactFirstMeetingRow.holds Try.pinned (OpenSpec.ofChange fnExactFirstMeetingWrong)

/-- 'laws.FnExactIsValidRecord': WHATEVER THE INPUT: true; the input reads as it did. -/
def fnExactIsValidRecordSpec : ChangeSpec := { name := "fnExactIsValidRecord", fn := fun _ => fun
  | [d] => { results := [.lit (.bool true)], args := [d] }
  | _ => none }
def fnExactIsValidRecordRow : OpenClaim := { program := "ytdimhbolckbjdaa", sum := "d2a7a5b405e32c2142aee03a79f02c04350812fc751cc6aa4c1ecc6eca66d899", func := "loop.example/g00909/laws.FnExactIsValidRecord", spec := "fnExactIsValidRecord", inPlace := ["internal/bytealg.IndexByteString", "internal/bytealg.IndexString"], named := ["internal/bytealg.MaxLen"], apart := false }
def FnExactIsValidRecordSaid : Prop := fnExactIsValidRecordRow.holds Try.pinned (OpenSpec.ofChange fnExactIsValidRecordSpec)

/-- ITS FALSE NEIGHBOUR: 'it returns false'. Refute it at one input. -/
def fnExactIsValidRecordWrong : ChangeSpec := { name := "fnExactIsValidRecord", fn := fun _ => fun
  | [d] => { results := [.lit (.bool false)], args := [d] }
  | _ => none }
def FnExactIsValidRecordWrongFalsely : Prop := fnExactIsValidRecordRow.holds Try.pinned (OpenSpec.ofChange fnExactIsValidRecordWrong)

/-- 'laws.FnClauses': WHATEVER THE INPUT: true; the input reads as it did. -/
def fnClausesSpec : ChangeSpec := { name := "fnClauses", fn := fun _ => fun
  | [d] => { results := [.lit (.bool true)], args := [d] }
  | _ => none }
def fnClausesRow : OpenClaim := { program := "ytdimhbolckbjdaa", sum := "d2a7a5b405e32c2142aee03a79f02c04350812fc751cc6aa4c1ecc6eca66d899", func := "loop.example/g00909/laws.FnClauses", spec := "fnClauses", unfollowed := true, recurses := true, apart := false }
def FnClausesSaid : Prop := fnClausesRow.holds Try.pinned (OpenSpec.ofChange fnClausesSpec)

/-- ITS FALSE NEIGHBOUR: 'it returns false'. Refute it at one input. -/
def fnClausesWrong : ChangeSpec := { name := "fnClauses", fn := fun _ => fun
  | [d] => { results := [.lit (.bool false)], args := [d] }
  | _ => none }
def FnClausesWrongFalsely : Prop := fnClausesRow.holds Try.pinned (OpenSpec.ofChange fnClausesWrong)

/-- 'laws.FnExactGreatestTurnout': WHATEVER THE INPUT: true; the input reads as it did. -/
def fnExactGreatestTurnoutSpec : ChangeSpec := { name := "fnExactGreatestTurnout", fn := fun _ => fun
  | [d] => { results := [.lit (.bool true)], args := [d] }
  | _ => none }
def fnExactGreatestTurnoutRow : OpenClaim := { program := "ytdimhbolckbjdaa", sum := "d2a7a5b405e32c2142aee03a79f02c04350812fc751cc6aa4c1ecc6eca66d899", func := "loop.example/g00909/laws.FnExactGreatestTurnout", spec := "fnExactGreatestTurnout", unfollowed := true, recurses := true, apart := false }
def FnExactGreatestTurnoutSaid : Prop := fnExactGreatestTurnoutRow.holds Try.pinned (OpenSpec.ofChange fnExactGreatestTurnoutSpec)

/-- ITS FALSE NEIGHBOUR: 'it returns false'. Refute it at one input. -/
def fnExactGreatestTurnoutWrong : ChangeSpec := { name := "fnExactGreatestTurnout", fn := fun _ => fun
  | [d] => { results := [.lit (.bool false)], args := [d] }
  | _ => none }
def FnExactGreatestTurnoutWrongFalsely : Prop := fnExactGreatestTurnoutRow.holds Try.pinned (OpenSpec.ofChange fnExactGreatestTurnoutWrong)

/-- 'laws.FnExactClosestOutcome': WHATEVER THE INPUT: true; the input reads as it did. -/
def fnExactClosestOutcomeSpec : ChangeSpec := { name := "fnExactClosestOutcome", fn := fun _ => fun
  | [d] => { results := [.lit (.bool true)], args := [d] }
  | _ => none }
def fnExactClosestOutcomeRow : OpenClaim := { program := "ytdimhbolckbjdaa", sum := "d2a7a5b405e32c2142aee03a79f02c04350812fc751cc6aa4c1ecc6eca66d899", func := "loop.example/g00909/laws.FnExactClosestOutcome", spec := "fnExactClosestOutcome", unfollowed := true, recurses := true, apart := false }
def FnExactClosestOutcomeSaid : Prop := fnExactClosestOutcomeRow.holds Try.pinned (OpenSpec.ofChange fnExactClosestOutcomeSpec)

/-- ITS FALSE NEIGHBOUR: 'it returns false'. Refute it at one input. -/
def fnExactClosestOutcomeWrong : ChangeSpec := { name := "fnExactClosestOutcome", fn := fun _ => fun
  | [d] => { results := [.lit (.bool false)], args := [d] }
  | _ => none }
def FnExactClosestOutcomeWrongFalsely : Prop := fnExactClosestOutcomeRow.holds Try.pinned (OpenSpec.ofChange fnExactClosestOutcomeWrong)

/-- 'laws.FnExactWasAdopted': WHATEVER THE INPUT: true; the input reads as it did. -/
def fnExactWasAdoptedSpec : ChangeSpec := { name := "fnExactWasAdopted", fn := fun _ => fun
  | [d] => { results := [.lit (.bool true)], args := [d] }
  | _ => none }
def fnExactWasAdoptedRow : OpenClaim := { program := "ytdimhbolckbjdaa", sum := "d2a7a5b405e32c2142aee03a79f02c04350812fc751cc6aa4c1ecc6eca66d899", func := "loop.example/g00909/laws.FnExactWasAdopted", spec := "fnExactWasAdopted", unfollowed := true, recurses := true, apart := false }
def FnExactWasAdoptedSaid : Prop := fnExactWasAdoptedRow.holds Try.pinned (OpenSpec.ofChange fnExactWasAdoptedSpec)

/-- ITS FALSE NEIGHBOUR: 'it returns false'. Refute it at one input. -/
def fnExactWasAdoptedWrong : ChangeSpec := { name := "fnExactWasAdopted", fn := fun _ => fun
  | [d] => { results := [.lit (.bool false)], args := [d] }
  | _ => none }
def FnExactWasAdoptedWrongFalsely : Prop := fnExactWasAdoptedRow.holds Try.pinned (OpenSpec.ofChange fnExactWasAdoptedWrong)

/-- 'laws.FnExactChangedMinds': WHATEVER THE INPUT: true; the input reads as it did. -/
def fnExactChangedMindsSpec : ChangeSpec := { name := "fnExactChangedMinds", fn := fun _ => fun
  | [d1, d2, d3] => { results := [.lit (.bool true)], args := [d1, d2, d3] }
  | _ => none }
def fnExactChangedMindsRow : OpenClaim := { program := "ytdimhbolckbjdaa", sum := "d2a7a5b405e32c2142aee03a79f02c04350812fc751cc6aa4c1ecc6eca66d899", func := "loop.example/g00909/laws.FnExactChangedMinds", spec := "fnExactChangedMinds", unfollowed := true, recurses := true, apart := false }
def FnExactChangedMindsSaid : Prop := fnExactChangedMindsRow.holds Try.pinned (OpenSpec.ofChange fnExactChangedMindsSpec)

/-- ITS FALSE NEIGHBOUR: 'it returns false'. Refute it at one input. -/
def fnExactChangedMindsWrong : ChangeSpec := { name := "fnExactChangedMinds", fn := fun _ => fun
  | [d1, d2, d3] => { results := [.lit (.bool false)], args := [d1, d2, d3] }
  | _ => none }
def FnExactChangedMindsWrongFalsely : Prop := fnExactChangedMindsRow.holds Try.pinned (OpenSpec.ofChange fnExactChangedMindsWrong)

/- THE SECOND FORM. 'bulk': how many values and letters a reading holds, each counted each time it is reached (what is shared counts as often as it is met; a slice's spare places count too). A statement '..UptoSaid' is the law's where the arguments, and the package variables that the reading takes, are together of bulk at most 1048576: NARROWER than '..Said'. Prove '..Said' where nothing that the law and all that it calls make is longer than what came in: it says more and counts as full. Else prove '..UptoSaid'. A law counts once. -/
mutual
def uptoBulk {H : Type} : DataW H → Nat
  | .lit (.string bytes) => bytes.length + 1
  | .lit _ => 1
  | .nil => 1
  | .ptr d => uptoBulk d + 1
  | .slice elems spare => uptoBulkAll elems + uptoBulkAll spare + 1
  | .agg parts => uptoBulkAll parts + 1
  | .iface _ d => uptoBulk d + 1
  | .map entries => uptoBulkEntries entries + 1
  | .held _ => 1
def uptoBulkAll {H : Type} : List (DataW H) → Nat
  | [] => 0
  | d :: r => uptoBulk d + uptoBulkAll r
def uptoBulkEntries {H : Type} : List (Lit × DataW H) → Nat
  | [] => 0
  | x :: r => uptoBulkEntry x + uptoBulkEntries r
def uptoBulkEntry {H : Type} : Lit × DataW H → Nat
  | (.string bytes, d) => bytes.length + uptoBulk d + 1
  | (_, d) => uptoBulk d + 1
 end
def uptoSmall : (H : Type) → List (DataW H) → Bool := fun _ ds => decide (uptoBulkAll ds ≤ 1048576)
def OpenSpec.upto (s : _root_.Go.ChangeSpec) : _root_.Go.OpenSpec := { _root_.Go.OpenSpec.ofChange s with cond := some uptoSmall }

/-- 'laws.FnExactAfterWorkingDays', WHERE WHAT IT READS IS OF BULK AT MOST 1048576: true; the input reads as it did. -/
def fnExactAfterWorkingDaysUptoRow : OpenClaim := { program := "ytdimhbolckbjdaa", sum := "d2a7a5b405e32c2142aee03a79f02c04350812fc751cc6aa4c1ecc6eca66d899", func := "loop.example/g00909/laws.FnExactAfterWorkingDays", spec := "fnExactAfterWorkingDays", apart := false, narrowed := true }
def FnExactAfterWorkingDaysUptoSaid : Prop := fnExactAfterWorkingDaysUptoRow.holds Try.pinned (OpenSpec.upto fnExactAfterWorkingDaysSpec)

/-- 'laws.FnExactAreNotices', WHERE WHAT IT READS IS OF BULK AT MOST 1048576: true; the input reads as it did. -/
def fnExactAreNoticesUptoRow : OpenClaim := { program := "ytdimhbolckbjdaa", sum := "d2a7a5b405e32c2142aee03a79f02c04350812fc751cc6aa4c1ecc6eca66d899", func := "loop.example/g00909/laws.FnExactAreNotices", spec := "fnExactAreNotices", apart := false, narrowed := true }
def FnExactAreNoticesUptoSaid : Prop := fnExactAreNoticesUptoRow.holds Try.pinned (OpenSpec.upto fnExactAreNoticesSpec)

/-- 'laws.FnExactIsReport', WHERE WHAT IT READS IS OF BULK AT MOST 1048576: true; the input reads as it did. -/
def fnExactIsReportUptoRow : OpenClaim := { program := "ytdimhbolckbjdaa", sum := "d2a7a5b405e32c2142aee03a79f02c04350812fc751cc6aa4c1ecc6eca66d899", func := "loop.example/g00909/laws.FnExactIsReport", spec := "fnExactIsReport", unfollowed := true, recurses := true, apart := false, narrowed := true }
def FnExactIsReportUptoSaid : Prop := fnExactIsReportUptoRow.holds Try.pinned (OpenSpec.upto fnExactIsReportSpec)

/-- 'laws.FnWorkingDays', WHERE WHAT IT READS IS OF BULK AT MOST 1048576: true; the input reads as it did. -/
def fnWorkingDaysUptoRow : OpenClaim := { program := "ytdimhbolckbjdaa", sum := "d2a7a5b405e32c2142aee03a79f02c04350812fc751cc6aa4c1ecc6eca66d899", func := "loop.example/g00909/laws.FnWorkingDays", spec := "fnWorkingDays", apart := false, narrowed := true }
def FnWorkingDaysUptoSaid : Prop := fnWorkingDaysUptoRow.holds Try.pinned (OpenSpec.upto fnWorkingDaysSpec)

/-- 'laws.FnExactIsValidDecided', WHERE WHAT IT READS IS OF BULK AT MOST 1048576: true; the input reads as it did. -/
def fnExactIsValidDecidedUptoRow : OpenClaim := { program := "ytdimhbolckbjdaa", sum := "d2a7a5b405e32c2142aee03a79f02c04350812fc751cc6aa4c1ecc6eca66d899", func := "loop.example/g00909/laws.FnExactIsValidDecided", spec := "fnExactIsValidDecided", unfollowed := true, recurses := true, apart := false, narrowed := true }
def FnExactIsValidDecidedUptoSaid : Prop := fnExactIsValidDecidedUptoRow.holds Try.pinned (OpenSpec.upto fnExactIsValidDecidedSpec)

/-- 'laws.FnExactFirstMeeting', WHERE WHAT IT READS IS OF BULK AT MOST 1048576: true; the input reads as it did. -/
def fnExactFirstMeetingUptoRow : OpenClaim := { program := "ytdimhbolckbjdaa", sum := "d2a7a5b405e32c2142aee03a79f02c04350812fc751cc6aa4c1ecc6eca66d899", func := "loop.example/g00909/laws.FnExactFirstMeeting", spec := "fnExactFirstMeeting", apart := false, narrowed := true }
def FnExactFirstMeetingUptoSaid : Prop := fnExactFirstMeetingUptoRow.holds Try.pinned (OpenSpec.upto fnExactFirstMeetingSpec)

/-- 'laws.FnExactIsValidRecord', WHERE WHAT IT READS IS OF BULK AT MOST 1048576: true; the input reads as it did. -/
def fnExactIsValidRecordUptoRow : OpenClaim := { program := "ytdimhbolckbjdaa", sum := "d2a7a5b405e32c2142aee03a79f02c04350812fc751cc6aa4c1ecc6eca66d899", func := "loop.example/g00909/laws.FnExactIsValidRecord", spec := "fnExactIsValidRecord", inPlace := ["internal/bytealg.IndexByteString", "internal/bytealg.IndexString"], named := ["internal/bytealg.MaxLen"], apart := false, narrowed := true }
def FnExactIsValidRecordUptoSaid : Prop := fnExactIsValidRecordUptoRow.holds Try.pinned (OpenSpec.upto fnExactIsValidRecordSpec)

/-- 'laws.FnClauses', WHERE WHAT IT READS IS OF BULK AT MOST 1048576: true; the input reads as it did. -/
def fnClausesUptoRow : OpenClaim := { program := "ytdimhbolckbjdaa", sum := "d2a7a5b405e32c2142aee03a79f02c04350812fc751cc6aa4c1ecc6eca66d899", func := "loop.example/g00909/laws.FnClauses", spec := "fnClauses", unfollowed := true, recurses := true, apart := false, narrowed := true }
def FnClausesUptoSaid : Prop := fnClausesUptoRow.holds Try.pinned (OpenSpec.upto fnClausesSpec)

/-- 'laws.FnExactGreatestTurnout', WHERE WHAT IT READS IS OF BULK AT MOST 1048576: true; the input reads as it did. -/
def fnExactGreatestTurnoutUptoRow : OpenClaim := { program := "ytdimhbolckbjdaa", sum := "d2a7a5b405e32c2142aee03a79f02c04350812fc751cc6aa4c1ecc6eca66d899", func := "loop.example/g00909/laws.FnExactGreatestTurnout", spec := "fnExactGreatestTurnout", unfollowed := true, recurses := true, apart := false, narrowed := true }
def FnExactGreatestTurnoutUptoSaid : Prop := fnExactGreatestTurnoutUptoRow.holds Try.pinned (OpenSpec.upto fnExactGreatestTurnoutSpec)

/-- 'laws.FnExactClosestOutcome', WHERE WHAT IT READS IS OF BULK AT MOST 1048576: true; the input reads as it did. -/
def fnExactClosestOutcomeUptoRow : OpenClaim := { program := "ytdimhbolckbjdaa", sum := "d2a7a5b405e32c2142aee03a79f02c04350812fc751cc6aa4c1ecc6eca66d899", func := "loop.example/g00909/laws.FnExactClosestOutcome", spec := "fnExactClosestOutcome", unfollowed := true, recurses := true, apart := false, narrowed := true }
def FnExactClosestOutcomeUptoSaid : Prop := fnExactClosestOutcomeUptoRow.holds Try.pinned (OpenSpec.upto fnExactClosestOutcomeSpec)

/-- 'laws.FnExactWasAdopted', WHERE WHAT IT READS IS OF BULK AT MOST 1048576: true; the input reads as it did. -/
def fnExactWasAdoptedUptoRow : OpenClaim := { program := "ytdimhbolckbjdaa", sum := "d2a7a5b405e32c2142aee03a79f02c04350812fc751cc6aa4c1ecc6eca66d899", func := "loop.example/g00909/laws.FnExactWasAdopted", spec := "fnExactWasAdopted", unfollowed := true, recurses := true, apart := false, narrowed := true }
def FnExactWasAdoptedUptoSaid : Prop := fnExactWasAdoptedUptoRow.holds Try.pinned (OpenSpec.upto fnExactWasAdoptedSpec)

/-- 'laws.FnExactChangedMinds', WHERE WHAT IT READS IS OF BULK AT MOST 1048576: true; the input reads as it did. -/
def fnExactChangedMindsUptoRow : OpenClaim := { program := "ytdimhbolckbjdaa", sum := "d2a7a5b405e32c2142aee03a79f02c04350812fc751cc6aa4c1ecc6eca66d899", func := "loop.example/g00909/laws.FnExactChangedMinds", spec := "fnExactChangedMinds", unfollowed := true, recurses := true, apart := false, narrowed := true }
def FnExactChangedMindsUptoSaid : Prop := fnExactChangedMindsUptoRow.holds Try.pinned (OpenSpec.upto fnExactChangedMindsSpec)

end Rows
end Go.Proofs.Ytdimhbolckbjdaa

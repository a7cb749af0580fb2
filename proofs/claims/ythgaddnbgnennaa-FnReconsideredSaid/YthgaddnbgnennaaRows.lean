/-
  No cell of these rows narrows 'for every input' (looked for: loops, veiled, ifaces, maps, wideKeys, modest, calm, conditions, laid).
  DERIVED. THE GIVEN ROWS OF THIS SEAT. 8 by the template 'for every input the law returns true; each argument reads behind the call as it read before'; 0 by the template 'total and deterministic' (their statements: YthgaddnbgnennaaTotals.lean).
  GIVEN WITH THE SEED: the statements are not yours to turn. If you find one false, say at which input.
  Laid BY PROGRAM, IN A SANDBOX (cutbox-rows.mjs): the forced cells as the released guide's own fill.sh prints them over the translation 65019def4d122bb2… (all of the seat's roots in one cut). By AI agents, Wed Nov 11 2026. No macro, syntax, notation, axiom, sorry.
-/
import Derived.Test.YthgaddnbgnennaaChecked
import GoSem.Claim
import GoSem.ClaimJoined
import GoSem.ClaimMapViews
import Derived.JoinedTies
import Derived.KernelRfl
namespace Go.Proofs.Ythgaddnbgnennaa
/- THE CELL 'sum', in the pinned program and in every row, IS THE sha256 OF THE DUMP (.gsa) THAT YthgaddnbgnennaaProg.lean LOADS. Nothing in Lean hashes anything: it is a label: what it is worth is what the hold of that sum in a sandbox is worth. -/
noncomputable def Try.pinned : Pinned := { name := "ythgaddnbgnennaa", sum := "65019def4d122bb23393aca6acdb489d5c114ef211bcd43e7b9e8bfc9fac0072", checked := Try.checked }
namespace Rows
def none {H : Type} : Left H := { results := [], args := [] }

/-- 'laws.FnExactMayReconsider': WHATEVER THE INPUT: true; the input reads as it did. -/
def fnExactMayReconsiderSpec : ChangeSpec := { name := "fnExactMayReconsider", fn := fun _ => fun
  | [d1, d2, d3] => { results := [.lit (.bool true)], args := [d1, d2, d3] }
  | _ => none }
def fnExactMayReconsiderRow : OpenClaim := { program := "ythgaddnbgnennaa", sum := "65019def4d122bb23393aca6acdb489d5c114ef211bcd43e7b9e8bfc9fac0072", func := "loop.example/g00909/laws.FnExactMayReconsider", spec := "fnExactMayReconsider", unfollowed := true, recurses := true, apart := false }
def FnExactMayReconsiderSaid : Prop := fnExactMayReconsiderRow.holds Try.pinned (OpenSpec.ofChange fnExactMayReconsiderSpec)

/-- ITS FALSE NEIGHBOUR: 'it returns false'. Refute it at one input. -/
def fnExactMayReconsiderWrong : ChangeSpec := { name := "fnExactMayReconsider", fn := fun _ => fun
  | [d1, d2, d3] => { results := [.lit (.bool false)], args := [d1, d2, d3] }
  | _ => none }
def FnExactMayReconsiderWrongFalsely : Prop := fnExactMayReconsiderRow.holds Try.pinned (OpenSpec.ofChange fnExactMayReconsiderWrong)

/-- 'laws.FnExactReconsider': WHATEVER THE INPUT: true; the input reads as it did. -/
def fnExactReconsiderSpec : ChangeSpec := { name := "fnExactReconsider", fn := fun _ => fun
  | [d1, d2, d3] => { results := [.lit (.bool true)], args := [d1, d2, d3] }
  | _ => none }
def fnExactReconsiderRow : OpenClaim := { program := "ythgaddnbgnennaa", sum := "65019def4d122bb23393aca6acdb489d5c114ef211bcd43e7b9e8bfc9fac0072", func := "loop.example/g00909/laws.FnExactReconsider", spec := "fnExactReconsider", unfollowed := true, recurses := true, apart := false }
def FnExactReconsiderSaid : Prop := fnExactReconsiderRow.holds Try.pinned (OpenSpec.ofChange fnExactReconsiderSpec)

/-- ITS FALSE NEIGHBOUR: 'it returns false'. Refute it at one input. -/
def fnExactReconsiderWrong : ChangeSpec := { name := "fnExactReconsider", fn := fun _ => fun
  | [d1, d2, d3] => { results := [.lit (.bool false)], args := [d1, d2, d3] }
  | _ => none }
def FnExactReconsiderWrongFalsely : Prop := fnExactReconsiderRow.holds Try.pinned (OpenSpec.ofChange fnExactReconsiderWrong)

/-- 'laws.FnExactWithdrawNotice': WHATEVER THE INPUT: true; the input reads as it did. -/
def fnExactWithdrawNoticeSpec : ChangeSpec := { name := "fnExactWithdrawNotice", fn := fun _ => fun
  | [d1, d2] => { results := [.lit (.bool true)], args := [d1, d2] }
  | _ => none }
def fnExactWithdrawNoticeRow : OpenClaim := { program := "ythgaddnbgnennaa", sum := "65019def4d122bb23393aca6acdb489d5c114ef211bcd43e7b9e8bfc9fac0072", func := "loop.example/g00909/laws.FnExactWithdrawNotice", spec := "fnExactWithdrawNotice", unfollowed := true, recurses := true, apart := false }
def FnExactWithdrawNoticeSaid : Prop := fnExactWithdrawNoticeRow.holds Try.pinned (OpenSpec.ofChange fnExactWithdrawNoticeSpec)

/-- ITS FALSE NEIGHBOUR: 'it returns false'. Refute it at one input. -/
def fnExactWithdrawNoticeWrong : ChangeSpec := { name := "fnExactWithdrawNotice", fn := fun _ => fun
  | [d1, d2] => { results := [.lit (.bool false)], args := [d1, d2] }
  | _ => none }
def FnExactWithdrawNoticeWrongFalsely : Prop := fnExactWithdrawNoticeRow.holds Try.pinned (OpenSpec.ofChange fnExactWithdrawNoticeWrong)

/-- 'laws.FnExactSwitchesNeeded': WHATEVER THE INPUT: true; the input reads as it did. -/
def fnExactSwitchesNeededSpec : ChangeSpec := { name := "fnExactSwitchesNeeded", fn := fun _ => fun
  | [d] => { results := [.lit (.bool true)], args := [d] }
  | _ => none }
def fnExactSwitchesNeededRow : OpenClaim := { program := "ythgaddnbgnennaa", sum := "65019def4d122bb23393aca6acdb489d5c114ef211bcd43e7b9e8bfc9fac0072", func := "loop.example/g00909/laws.FnExactSwitchesNeeded", spec := "fnExactSwitchesNeeded", unfollowed := true, recurses := true, apart := false }
def FnExactSwitchesNeededSaid : Prop := fnExactSwitchesNeededRow.holds Try.pinned (OpenSpec.ofChange fnExactSwitchesNeededSpec)

/-- ITS FALSE NEIGHBOUR: 'it returns false'. Refute it at one input. -/
def fnExactSwitchesNeededWrong : ChangeSpec := { name := "fnExactSwitchesNeeded", fn := fun _ => fun
  | [d] => { results := [.lit (.bool false)], args := [d] }
  | _ => none }
def FnExactSwitchesNeededWrongFalsely : Prop := fnExactSwitchesNeededRow.holds Try.pinned (OpenSpec.ofChange fnExactSwitchesNeededWrong)

/-- 'laws.FnExactPrevailingSide': WHATEVER THE INPUT: true; the input reads as it did. -/
def fnExactPrevailingSideSpec : ChangeSpec := { name := "fnExactPrevailingSide", fn := fun _ => fun
  | [d] => { results := [.lit (.bool true)], args := [d] }
  | _ => none }
def fnExactPrevailingSideRow : OpenClaim := { program := "ythgaddnbgnennaa", sum := "65019def4d122bb23393aca6acdb489d5c114ef211bcd43e7b9e8bfc9fac0072", func := "loop.example/g00909/laws.FnExactPrevailingSide", spec := "fnExactPrevailingSide", unfollowed := true, recurses := true, apart := false }
def FnExactPrevailingSideSaid : Prop := fnExactPrevailingSideRow.holds Try.pinned (OpenSpec.ofChange fnExactPrevailingSideSpec)

/-- ITS FALSE NEIGHBOUR: 'it returns false'. Refute it at one input. -/
def fnExactPrevailingSideWrong : ChangeSpec := { name := "fnExactPrevailingSide", fn := fun _ => fun
  | [d] => { results := [.lit (.bool false)], args := [d] }
  | _ => none }
def FnExactPrevailingSideWrongFalsely : Prop := fnExactPrevailingSideRow.holds Try.pinned (OpenSpec.ofChange fnExactPrevailingSideWrong)

/-- 'laws.FnExactRipeTopics': WHATEVER THE INPUT: true; the input reads as it did. -/
def fnExactRipeTopicsSpec : ChangeSpec := { name := "fnExactRipeTopics", fn := fun _ => fun
  | [d1, d2] => { results := [.lit (.bool true)], args := [d1, d2] }
  | _ => none }
def fnExactRipeTopicsRow : OpenClaim := { program := "ythgaddnbgnennaa", sum := "65019def4d122bb23393aca6acdb489d5c114ef211bcd43e7b9e8bfc9fac0072", func := "loop.example/g00909/laws.FnExactRipeTopics", spec := "fnExactRipeTopics", recurses := true, apart := false }
def FnExactRipeTopicsSaid : Prop := fnExactRipeTopicsRow.holds Try.pinned (OpenSpec.ofChange fnExactRipeTopicsSpec)

/-- ITS FALSE NEIGHBOUR: 'it returns false'. Refute it at one input. -/
def fnExactRipeTopicsWrong : ChangeSpec := { name := "fnExactRipeTopics", fn := fun _ => fun
  | [d1, d2] => { results := [.lit (.bool false)], args := [d1, d2] }
  | _ => none }
def FnExactRipeTopicsWrongFalsely : Prop := fnExactRipeTopicsRow.holds Try.pinned (OpenSpec.ofChange fnExactRipeTopicsWrong)

/-- 'laws.FnExactAbsentThen': WHATEVER THE INPUT: true; the input reads as it did. -/
def fnExactAbsentThenSpec : ChangeSpec := { name := "fnExactAbsentThen", fn := fun _ => fun
  | [d1, d2, d3] => { results := [.lit (.bool true)], args := [d1, d2, d3] }
  | _ => none }
def fnExactAbsentThenRow : OpenClaim := { program := "ythgaddnbgnennaa", sum := "65019def4d122bb23393aca6acdb489d5c114ef211bcd43e7b9e8bfc9fac0072", func := "loop.example/g00909/laws.FnExactAbsentThen", spec := "fnExactAbsentThen", unfollowed := true, recurses := true, apart := false }
def FnExactAbsentThenSaid : Prop := fnExactAbsentThenRow.holds Try.pinned (OpenSpec.ofChange fnExactAbsentThenSpec)

/-- ITS FALSE NEIGHBOUR: 'it returns false'. Refute it at one input. -/
def fnExactAbsentThenWrong : ChangeSpec := { name := "fnExactAbsentThen", fn := fun _ => fun
  | [d1, d2, d3] => { results := [.lit (.bool false)], args := [d1, d2, d3] }
  | _ => none }
def FnExactAbsentThenWrongFalsely : Prop := fnExactAbsentThenRow.holds Try.pinned (OpenSpec.ofChange fnExactAbsentThenWrong)

/-- 'laws.FnReconsidered': WHATEVER THE INPUT: true; the input reads as it did. -/
def fnReconsideredSpec : ChangeSpec := { name := "fnReconsidered", fn := fun _ => fun
  | [d] => { results := [.lit (.bool true)], args := [d] }
  | _ => none }
def fnReconsideredRow : OpenClaim := { program := "ythgaddnbgnennaa", sum := "65019def4d122bb23393aca6acdb489d5c114ef211bcd43e7b9e8bfc9fac0072", func := "loop.example/g00909/laws.FnReconsidered", spec := "fnReconsidered", unfollowed := true, recurses := true, apart := false }
def FnReconsideredSaid : Prop := fnReconsideredRow.holds Try.pinned (OpenSpec.ofChange fnReconsideredSpec)

/-- ITS FALSE NEIGHBOUR: 'it returns false'. Refute it at one input. -/
def fnReconsideredWrong : ChangeSpec := { name := "fnReconsidered", fn := fun _ => fun
  | [d] => { results := [.lit (.bool false)], args := [d] }
  | _ => none }
def FnReconsideredWrongFalsely : Prop := fnReconsideredRow.holds Try.pinned (OpenSpec.ofChange fnReconsideredWrong)

/- THE SECOND FORM. 'bulk': how many values and letters a reading holds, each counted each time it is reached (what is shared counts as often as it is met; a slice's spare places count too). A statement '..UptoSaid' is the law's where the arguments, and the package variables that the reading takes, are together of bulk at most 1048576: NARROWER than '..Said'. Prove '..Said' where nothing that the law and all that it calls make is longer than what came in: it says more and counts as full. Else prove '..UptoSaid'. A law counts once. -/
mutual
def uptoBulk {H : Type} : DataW H → Nat
  | .lit (.string bytes) => bytes.length + 1
  | .lit _ => 1
  | .nil => 1
  | .ptr d => uptoBulk d + 1
  | .slice elems spare => uptoBulkAll elems + uptoBulkAll spare + 1
  | .agg parts => uptoBulkAll parts + 1
  | .iface _ d => uptoBulk d + 1
  | .map entries => uptoBulkEntries entries + 1
  | .held _ => 1
def uptoBulkAll {H : Type} : List (DataW H) → Nat
  | [] => 0
  | d :: r => uptoBulk d + uptoBulkAll r
def uptoBulkEntries {H : Type} : List (Lit × DataW H) → Nat
  | [] => 0
  | x :: r => uptoBulkEntry x + uptoBulkEntries r
def uptoBulkEntry {H : Type} : Lit × DataW H → Nat
  | (.string bytes, d) => bytes.length + uptoBulk d + 1
  | (_, d) => uptoBulk d + 1
 end
def uptoSmall : (H : Type) → List (DataW H) → Bool := fun _ ds => decide (uptoBulkAll ds ≤ 1048576)
def OpenSpec.upto (s : _root_.Go.ChangeSpec) : _root_.Go.OpenSpec := { _root_.Go.OpenSpec.ofChange s with cond := some uptoSmall }

/-- 'laws.FnExactMayReconsider', WHERE WHAT IT READS IS OF BULK AT MOST 1048576: true; the input reads as it did. -/
def fnExactMayReconsiderUptoRow : OpenClaim := { program := "ythgaddnbgnennaa", sum := "65019def4d122bb23393aca6acdb489d5c114ef211bcd43e7b9e8bfc9fac0072", func := "loop.example/g00909/laws.FnExactMayReconsider", spec := "fnExactMayReconsider", unfollowed := true, recurses := true, apart := false, narrowed := true }
def FnExactMayReconsiderUptoSaid : Prop := fnExactMayReconsiderUptoRow.holds Try.pinned (OpenSpec.upto fnExactMayReconsiderSpec)

/-- 'laws.FnExactReconsider', WHERE WHAT IT READS IS OF BULK AT MOST 1048576: true; the input reads as it did. -/
def fnExactReconsiderUptoRow : OpenClaim := { program := "ythgaddnbgnennaa", sum := "65019def4d122bb23393aca6acdb489d5c114ef211bcd43e7b9e8bfc9fac0072", func := "loop.example/g00909/laws.FnExactReconsider", spec := "fnExactReconsider", unfollowed := true, recurses := true, apart := false, narrowed := true }
def FnExactReconsiderUptoSaid : Prop := fnExactReconsiderUptoRow.holds Try.pinned (OpenSpec.upto fnExactReconsiderSpec)

/-- 'laws.FnExactWithdrawNotice', WHERE WHAT IT READS IS OF BULK AT MOST 1048576: true; the input reads as it did. -/
def fnExactWithdrawNoticeUptoRow : OpenClaim := { program := "ythgaddnbgnennaa", sum := "65019def4d122bb23393aca6acdb489d5c114ef211bcd43e7b9e8bfc9fac0072", func := "loop.example/g00909/laws.FnExactWithdrawNotice", spec := "fnExactWithdrawNotice", unfollowed := true, recurses := true, apart := false, narrowed := true }
def FnExactWithdrawNoticeUptoSaid : Prop := fnExactWithdrawNoticeUptoRow.holds Try.pinned (OpenSpec.upto fnExactWithdrawNoticeSpec)

/-- 'laws.FnExactSwitchesNeeded', WHERE WHAT IT READS IS OF BULK AT MOST 1048576: true; the input reads as it did. -/
def fnExactSwitchesNeededUptoRow : OpenClaim := { program := "ythgaddnbgnennaa", sum := "65019def4d122bb23393aca6acdb489d5c114ef211bcd43e7b9e8bfc9fac0072", func := "loop.example/g00909/laws.FnExactSwitchesNeeded", spec := "fnExactSwitchesNeeded", unfollowed := true, recurses := true, apart := false, narrowed := true }
def FnExactSwitchesNeededUptoSaid : Prop := fnExactSwitchesNeededUptoRow.holds Try.pinned (OpenSpec.upto fnExactSwitchesNeededSpec)

/-- 'laws.FnExactPrevailingSide', WHERE WHAT IT READS IS OF BULK AT MOST 1048576: true; the input reads as it did. -/
def fnExactPrevailingSideUptoRow : OpenClaim := { program := "ythgaddnbgnennaa", sum := "65019def4d122bb23393aca6acdb489d5c114ef211bcd43e7b9e8bfc9fac0072", func := "loop.example/g00909/laws.FnExactPrevailingSide", spec := "fnExactPrevailingSide", unfollowed := true, recurses := true, apart := false, narrowed := true }
def FnExactPrevailingSideUptoSaid : Prop := fnExactPrevailingSideUptoRow.holds Try.pinned (OpenSpec.upto fnExactPrevailingSideSpec)

/-- 'laws.FnExactRipeTopics', WHERE WHAT IT READS IS OF BULK AT MOST 1048576: true; the input reads as it did. -/
def fnExactRipeTopicsUptoRow : OpenClaim := { program := "ythgaddnbgnennaa", sum := "65019def4d122bb23393aca6acdb489d5c114ef211bcd43e7b9e8bfc9fac0072", func := "loop.example/g00909/laws.FnExactRipeTopics", spec := "fnExactRipeTopics", recurses := true, apart := false, narrowed := true }
def FnExactRipeTopicsUptoSaid : Prop := fnExactRipeTopicsUptoRow.holds Try.pinned (OpenSpec.upto fnExactRipeTopicsSpec)

/-- 'laws.FnExactAbsentThen', WHERE WHAT IT READS IS OF BULK AT MOST 1048576: true; the input reads as it did. -/
def fnExactAbsentThenUptoRow : OpenClaim := { program := "ythgaddnbgnennaa", sum := "65019def4d122bb23393aca6acdb489d5c114ef211bcd43e7b9e8bfc9fac0072", func := "loop.example/g00909/laws.FnExactAbsentThen", spec := "fnExactAbsentThen", unfollowed := true, recurses := true, apart := false, narrowed := true }
def FnExactAbsentThenUptoSaid : Prop := fnExactAbsentThenUptoRow.holds Try.pinned (OpenSpec.upto fnExactAbsentThenSpec)

/-- 'laws.FnReconsidered', WHERE WHAT IT READS IS OF BULK AT MOST 1048576: true; the input reads as it did. -/
def fnReconsideredUptoRow : OpenClaim := { program := "ythgaddnbgnennaa", sum := "65019def4d122bb23393aca6acdb489d5c114ef211bcd43e7b9e8bfc9fac0072", func := "loop.example/g00909/laws.FnReconsidered", spec := "fnReconsidered", unfollowed := true, recurses := true, apart := false, narrowed := true }
def FnReconsideredUptoSaid : Prop := fnReconsideredUptoRow.holds Try.pinned (OpenSpec.upto fnReconsideredSpec)

end Rows
end Go.Proofs.Ythgaddnbgnennaa

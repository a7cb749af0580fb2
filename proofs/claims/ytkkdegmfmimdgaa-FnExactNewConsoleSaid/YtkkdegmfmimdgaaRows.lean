/-
  No cell of these rows narrows 'for every input' (looked for: loops, veiled, ifaces, maps, wideKeys, modest, calm, conditions, laid).
  DERIVED. THE GIVEN ROWS OF THIS SEAT. 7 by the template 'for every input the law returns true; each argument reads behind the call as it read before'; 0 by the template 'total and deterministic' (their statements: YtkkdegmfmimdgaaTotals.lean).
  GIVEN WITH THE SEED: the statements are not yours to turn. If you find one false, say at which input.
  Laid BY PROGRAM, IN A SANDBOX (cutbox-rows.mjs): the forced cells as the released guide's own fill.sh prints them over the translation 9a9de89d5bb270d5… (all of the seat's roots in one cut). By AI agents, Wed Nov 11 2026. No macro, syntax, notation, axiom, sorry.
-/
import Derived.Test.YtkkdegmfmimdgaaChecked
import GoSem.Claim
import GoSem.ClaimJoined
import GoSem.ClaimMapViews
import Derived.JoinedTies
import Derived.KernelRfl
namespace Go.Proofs.Ytkkdegmfmimdgaa
/- THE CELL 'sum', in the pinned program and in every row, IS THE sha256 OF THE DUMP (.gsa) THAT YtkkdegmfmimdgaaProg.lean LOADS. Nothing in Lean hashes anything: it is a label: what it is worth is what the hold of that sum in a sandbox is worth. -/
noncomputable def Try.pinned : Pinned := { name := "ytkkdegmfmimdgaa", sum := "9a9de89d5bb270d5da7f3b8a2548bf61bd452119ea5a4bc35989f02b846c4134", checked := Try.checked }
namespace Rows
def none {H : Type} : Left H := { results := [], args := [] }

/-- 'laws.FnExactIsValidMeeting': WHATEVER THE INPUT: true; the input reads as it did. -/
def fnExactIsValidMeetingSpec : ChangeSpec := { name := "fnExactIsValidMeeting", fn := fun _ => fun
  | [d] => { results := [.lit (.bool true)], args := [d] }
  | _ => none }
def fnExactIsValidMeetingRow : OpenClaim := { program := "ytkkdegmfmimdgaa", sum := "9a9de89d5bb270d5da7f3b8a2548bf61bd452119ea5a4bc35989f02b846c4134", func := "loop.example/g00909/laws.FnExactIsValidMeeting", spec := "fnExactIsValidMeeting", unfollowed := true, recurses := true, apart := false }
def FnExactIsValidMeetingSaid : Prop := fnExactIsValidMeetingRow.holds Try.pinned (OpenSpec.ofChange fnExactIsValidMeetingSpec)

/-- ITS FALSE NEIGHBOUR: 'it returns false'. Refute it at one input. -/
def fnExactIsValidMeetingWrong : ChangeSpec := { name := "fnExactIsValidMeeting", fn := fun _ => fun
  | [d] => { results := [.lit (.bool false)], args := [d] }
  | _ => none }
def FnExactIsValidMeetingWrongFalsely : Prop := fnExactIsValidMeetingRow.holds Try.pinned (OpenSpec.ofChange fnExactIsValidMeetingWrong)

/-- 'laws.FnExactIsDebatable': WHATEVER THE INPUT: true; the input reads as it did. -/
def fnExactIsDebatableSpec : ChangeSpec := { name := "fnExactIsDebatable", fn := fun _ => fun
  | [d] => { results := [.lit (.bool true)], args := [d] }
  | _ => none }
def fnExactIsDebatableRow : OpenClaim := { program := "ytkkdegmfmimdgaa", sum := "9a9de89d5bb270d5da7f3b8a2548bf61bd452119ea5a4bc35989f02b846c4134", func := "loop.example/g00909/laws.FnExactIsDebatable", spec := "fnExactIsDebatable", unfollowed := true, recurses := true, apart := false }
def FnExactIsDebatableSaid : Prop := fnExactIsDebatableRow.holds Try.pinned (OpenSpec.ofChange fnExactIsDebatableSpec)

/-- ITS FALSE NEIGHBOUR: 'it returns false'. Refute it at one input. -/
def fnExactIsDebatableWrong : ChangeSpec := { name := "fnExactIsDebatable", fn := fun _ => fun
  | [d] => { results := [.lit (.bool false)], args := [d] }
  | _ => none }
def FnExactIsDebatableWrongFalsely : Prop := fnExactIsDebatableRow.holds Try.pinned (OpenSpec.ofChange fnExactIsDebatableWrong)

/-- 'laws.FnExactPendingName': WHATEVER THE INPUT: true; the input reads as it did. -/
def fnExactPendingNameSpec : ChangeSpec := { name := "fnExactPendingName", fn := fun _ => fun
  | [d] => { results := [.lit (.bool true)], args := [d] }
  | _ => none }
def fnExactPendingNameRow : OpenClaim := { program := "ytkkdegmfmimdgaa", sum := "9a9de89d5bb270d5da7f3b8a2548bf61bd452119ea5a4bc35989f02b846c4134", func := "loop.example/g00909/laws.FnExactPendingName", spec := "fnExactPendingName", unfollowed := true, recurses := true, apart := false }
def FnExactPendingNameSaid : Prop := fnExactPendingNameRow.holds Try.pinned (OpenSpec.ofChange fnExactPendingNameSpec)

/-- ITS FALSE NEIGHBOUR: 'it returns false'. Refute it at one input. -/
def fnExactPendingNameWrong : ChangeSpec := { name := "fnExactPendingName", fn := fun _ => fun
  | [d] => { results := [.lit (.bool false)], args := [d] }
  | _ => none }
def FnExactPendingNameWrongFalsely : Prop := fnExactPendingNameRow.holds Try.pinned (OpenSpec.ofChange fnExactPendingNameWrong)

/-- 'laws.FnExactMovedBy': WHATEVER THE INPUT: true; the input reads as it did. -/
def fnExactMovedBySpec : ChangeSpec := { name := "fnExactMovedBy", fn := fun _ => fun
  | [d1, d2] => { results := [.lit (.bool true)], args := [d1, d2] }
  | _ => none }
def fnExactMovedByRow : OpenClaim := { program := "ytkkdegmfmimdgaa", sum := "9a9de89d5bb270d5da7f3b8a2548bf61bd452119ea5a4bc35989f02b846c4134", func := "loop.example/g00909/laws.FnExactMovedBy", spec := "fnExactMovedBy", unfollowed := true, recurses := true, apart := false }
def FnExactMovedBySaid : Prop := fnExactMovedByRow.holds Try.pinned (OpenSpec.ofChange fnExactMovedBySpec)

/-- ITS FALSE NEIGHBOUR: 'it returns false'. Refute it at one input. -/
def fnExactMovedByWrong : ChangeSpec := { name := "fnExactMovedBy", fn := fun _ => fun
  | [d1, d2] => { results := [.lit (.bool false)], args := [d1, d2] }
  | _ => none }
def FnExactMovedByWrongFalsely : Prop := fnExactMovedByRow.holds Try.pinned (OpenSpec.ofChange fnExactMovedByWrong)

/-- 'laws.FnExactNewMeeting': WHATEVER THE INPUT: true; the input reads as it did. -/
def fnExactNewMeetingSpec : ChangeSpec := { name := "fnExactNewMeeting", fn := fun _ => fun
  | [d1, d2, d3] => { results := [.lit (.bool true)], args := [d1, d2, d3] }
  | _ => none }
def fnExactNewMeetingRow : OpenClaim := { program := "ytkkdegmfmimdgaa", sum := "9a9de89d5bb270d5da7f3b8a2548bf61bd452119ea5a4bc35989f02b846c4134", func := "loop.example/g00909/laws.FnExactNewMeeting", spec := "fnExactNewMeeting", unfollowed := true, recurses := true, apart := false }
def FnExactNewMeetingSaid : Prop := fnExactNewMeetingRow.holds Try.pinned (OpenSpec.ofChange fnExactNewMeetingSpec)

/-- ITS FALSE NEIGHBOUR: 'it returns false'. Refute it at one input. -/
def fnExactNewMeetingWrong : ChangeSpec := { name := "fnExactNewMeeting", fn := fun _ => fun
  | [d1, d2, d3] => { results := [.lit (.bool false)], args := [d1, d2, d3] }
  | _ => none }
def FnExactNewMeetingWrongFalsely : Prop := fnExactNewMeetingRow.holds Try.pinned (OpenSpec.ofChange fnExactNewMeetingWrong)

/-- 'laws.FnExactNewConsole': WHATEVER THE INPUT: true; the input reads as it did. -/
def fnExactNewConsoleSpec : ChangeSpec := { name := "fnExactNewConsole", fn := fun _ => fun
  | [d1, d2, d3] => { results := [.lit (.bool true)], args := [d1, d2, d3] }
  | _ => none }
def fnExactNewConsoleRow : OpenClaim := { program := "ytkkdegmfmimdgaa", sum := "9a9de89d5bb270d5da7f3b8a2548bf61bd452119ea5a4bc35989f02b846c4134", func := "loop.example/g00909/laws.FnExactNewConsole", spec := "fnExactNewConsole", unfollowed := true, recurses := true, apart := false }
def FnExactNewConsoleSaid : Prop := fnExactNewConsoleRow.holds Try.pinned (OpenSpec.ofChange fnExactNewConsoleSpec)

/-- ITS FALSE NEIGHBOUR: 'it returns false'. Refute it at one input. -/
def fnExactNewConsoleWrong : ChangeSpec := { name := "fnExactNewConsole", fn := fun _ => fun
  | [d1, d2, d3] => { results := [.lit (.bool false)], args := [d1, d2, d3] }
  | _ => none }
def FnExactNewConsoleWrongFalsely : Prop := fnExactNewConsoleRow.holds Try.pinned (OpenSpec.ofChange fnExactNewConsoleWrong)

/-- 'laws.FnExactAdoptedRules': WHATEVER THE INPUT: true; the input reads as it did. -/
def fnExactAdoptedRulesSpec : ChangeSpec := { name := "fnExactAdoptedRules", fn := fun _ => fun
  | [d] => { results := [.lit (.bool true)], args := [d] }
  | _ => none }
def fnExactAdoptedRulesRow : OpenClaim := { program := "ytkkdegmfmimdgaa", sum := "9a9de89d5bb270d5da7f3b8a2548bf61bd452119ea5a4bc35989f02b846c4134", func := "loop.example/g00909/laws.FnExactAdoptedRules", spec := "fnExactAdoptedRules", unfollowed := true, recurses := true, apart := false }
def FnExactAdoptedRulesSaid : Prop := fnExactAdoptedRulesRow.holds Try.pinned (OpenSpec.ofChange fnExactAdoptedRulesSpec)

/-- ITS FALSE NEIGHBOUR: 'it returns false'. Refute it at one input. -/
def fnExactAdoptedRulesWrong : ChangeSpec := { name := "fnExactAdoptedRules", fn := fun _ => fun
  | [d] => { results := [.lit (.bool false)], args := [d] }
  | _ => none }
def FnExactAdoptedRulesWrongFalsely : Prop := fnExactAdoptedRulesRow.holds Try.pinned (OpenSpec.ofChange fnExactAdoptedRulesWrong)

/- THE SECOND FORM. 'bulk': how many values and letters a reading holds, each counted each time it is reached (what is shared counts as often as it is met; a slice's spare places count too). A statement '..UptoSaid' is the law's where the arguments, and the package variables that the reading takes, are together of bulk at most 1048576: NARROWER than '..Said'. Prove '..Said' where nothing that the law and all that it calls make is longer than what came in: it says more and counts as full. Else prove '..UptoSaid'. A law counts once. -/
mutual
def uptoBulk {H : Type} : DataW H → Nat
  | .lit (.string bytes) => bytes.length + 1
  | .lit _ => 1
  | .nil => 1
  | .ptr d => uptoBulk d + 1
  | .slice elems spare => uptoBulkAll elems + uptoBulkAll spare + 1
  | .agg parts => uptoBulkAll parts + 1
  | .iface _ d => uptoBulk d + 1
  | .map entries => uptoBulkEntries entries + 1
  | .held _ => 1
def uptoBulkAll {H : Type} : List (DataW H) → Nat
  | [] => 0
  | d :: r => uptoBulk d + uptoBulkAll r
def uptoBulkEntries {H : Type} : List (Lit × DataW H) → Nat
  | [] => 0
  | x :: r => uptoBulkEntry x + uptoBulkEntries r
def uptoBulkEntry {H : Type} : Lit × DataW H → Nat
  | (.string bytes, d) => bytes.length + uptoBulk d + 1
  | (_, d) => uptoBulk d + 1
 end
def uptoSmall : (H : Type) → List (DataW H) → Bool := fun _ ds => decide (uptoBulkAll ds ≤ 1048576)
def OpenSpec.upto (s : _root_.Go.ChangeSpec) : _root_.Go.OpenSpec := { _root_.Go.OpenSpec.ofChange s with cond := some uptoSmall }

/-- 'laws.FnExactIsValidMeeting', WHERE WHAT IT READS IS OF BULK AT MOST 1048576: true; the input reads as it did. -/
def fnExactIsValidMeetingUptoRow : OpenClaim := { program := "ytkkdegmfmimdgaa", sum := "9a9de89d5bb270d5da7f3b8a2548bf61bd452119ea5a4bc35989f02b846c4134", func := "loop.example/g00909/laws.FnExactIsValidMeeting", spec := "fnExactIsValidMeeting", unfollowed := true, recurses := true, apart := false, narrowed := true }
def FnExactIsValidMeetingUptoSaid : Prop := fnExactIsValidMeetingUptoRow.holds Try.pinned (OpenSpec.upto fnExactIsValidMeetingSpec)

/-- 'laws.FnExactIsDebatable', WHERE WHAT IT READS IS OF BULK AT MOST 1048576: true; the input reads as it did. -/
def fnExactIsDebatableUptoRow : OpenClaim := { program := "ytkkdegmfmimdgaa", sum := "9a9de89d5bb270d5da7f3b8a2548bf61bd452119ea5a4bc35989f02b846c4134", func := "loop.example/g00909/laws.FnExactIsDebatable", spec := "fnExactIsDebatable", unfollowed := true, recurses := true, apart := false, narrowed := true }
def FnExactIsDebatableUptoSaid : Prop := fnExactIsDebatableUptoRow.holds Try.pinned (OpenSpec.upto fnExactIsDebatableSpec)

/-- 'laws.FnExactPendingName', WHERE WHAT IT READS IS OF BULK AT MOST 1048576: true; the input reads as it did. -/
def fnExactPendingNameUptoRow : OpenClaim := { program := "ytkkdegmfmimdgaa", sum := "9a9de89d5bb270d5da7f3b8a2548bf61bd452119ea5a4bc35989f02b846c4134", func := "loop.example/g00909/laws.FnExactPendingName", spec := "fnExactPendingName", unfollowed := true, recurses := true, apart := false, narrowed := true }
def FnExactPendingNameUptoSaid : Prop := fnExactPendingNameUptoRow.holds Try.pinned (OpenSpec.upto fnExactPendingNameSpec)

/-- 'laws.FnExactMovedBy', WHERE WHAT IT READS IS OF BULK AT MOST 1048576: true; the input reads as it did. -/
def fnExactMovedByUptoRow : OpenClaim := { program := "ytkkdegmfmimdgaa", sum := "9a9de89d5bb270d5da7f3b8a2548bf61bd452119ea5a4bc35989f02b846c4134", func := "loop.example/g00909/laws.FnExactMovedBy", spec := "fnExactMovedBy", unfollowed := true, recurses := true, apart := false, narrowed := true }
def FnExactMovedByUptoSaid : Prop := fnExactMovedByUptoRow.holds Try.pinned (OpenSpec.upto fnExactMovedBySpec)

/-- 'laws.FnExactNewMeeting', WHERE WHAT IT READS IS OF BULK AT MOST 1048576: true; the input reads as it did. -/
def fnExactNewMeetingUptoRow : OpenClaim := { program := "ytkkdegmfmimdgaa", sum := "9a9de89d5bb270d5da7f3b8a2548bf61bd452119ea5a4bc35989f02b846c4134", func := "loop.example/g00909/laws.FnExactNewMeeting", spec := "fnExactNewMeeting", unfollowed := true, recurses := true, apart := false, narrowed := true }
def FnExactNewMeetingUptoSaid : Prop := fnExactNewMeetingUptoRow.holds Try.pinned (OpenSpec.upto fnExactNewMeetingSpec)

/-- 'laws.FnExactNewConsole', WHERE WHAT IT READS IS OF BULK AT MOST 1048576: true; the input reads as it did. -/
def fnExactNewConsoleUptoRow : OpenClaim := { program := "ytkkdegmfmimdgaa", sum := "9a9de89d5bb270d5da7f3b8a2548bf61bd452119ea5a4bc35989f02b846c4134", func := "loop.example/g00909/laws.FnExactNewConsole", spec := "fnExactNewConsole", unfollowed := true, recurses := true, apart := false, narrowed := true }
def FnExactNewConsoleUptoSaid : Prop := fnExactNewConsoleUptoRow.holds Try.pinned (OpenSpec.upto fnExactNewConsoleSpec)

/-- 'laws.FnExactAdoptedRules', WHERE WHAT IT READS IS OF BULK AT MOST 1048576: true; the input reads as it did. -/
def fnExactAdoptedRulesUptoRow : OpenClaim := { program := "ytkkdegmfmimdgaa", sum := "9a9de89d5bb270d5da7f3b8a2548bf61bd452119ea5a4bc35989f02b846c4134", func := "loop.example/g00909/laws.FnExactAdoptedRules", spec := "fnExactAdoptedRules", unfollowed := true, recurses := true, apart := false, narrowed := true }
def FnExactAdoptedRulesUptoSaid : Prop := fnExactAdoptedRulesUptoRow.holds Try.pinned (OpenSpec.upto fnExactAdoptedRulesSpec)

end Rows
end Go.Proofs.Ytkkdegmfmimdgaa

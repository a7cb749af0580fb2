/-
  DERIVED. GIVEN WITH THE SEED: THE CARDS: each row of YtlaaemmmbodaaaaGreatDoorRows.lean that lists a variable, with what it lists TIED to the program's text (the seventh form; the later family's looks); each row that meets fmt, with fmt's text TOLD by the authors' own Lean function (tested against real Go, not proved from fmt's source: count such statements apart). THE CARD IS WHAT COUNTS. Prove the row's statement (the work); the ties are given (YtlaaemmmbodaaaaGreatDoorTie.lean); close each card by the builder's one call (the guide's Derived/Test/ToyasCard.lean, 'card_holds'). Laid BY PROGRAM, IN A SANDBOX (cutbox-door.mjs). By AI agents, Wed Nov 11 2026. No macro, syntax, notation, axiom, sorry.
-/
import Derived.Test.YtlaaemmmbodaaaaGreatDoorRows
import GoSem.ClaimSeven
namespace Go.Proofs.YtlaaemmmbodaaaaGreatDoor
namespace Rows

/-- THE TIED CARD OF 'laws.FnExactReplayLog'. -/
def fnExactReplayLogCard : Claim7 := { stood := { row := fnExactReplayLogRow, standIns := [], harness := (true, "748fc1e9f3979b8b042d6d81e7b9e8238804401a781a23562b0b774b689b854a"), looks := true }, kinds := [], alts := [], laidByText := true, laidKinds := [.data, .data, .data, .data, .sentinel, .sentinel, .pinned], laidTests := true, laidLooks := .later }
def FnExactReplayLogCardSaid : Prop := Claim7.holds Tryz.pinned (.plain (OpenSpec.ofChange fnExactReplayLogSpec)) fnExactReplayLogCard

/-- THE TIED CARD OF 'laws.FnConsole'. -/
def fnConsoleCard : Claim7 := { stood := { row := fnConsoleRow, standIns := [], harness := (true, "748fc1e9f3979b8b042d6d81e7b9e8238804401a781a23562b0b774b689b854a"), looks := true }, kinds := [], alts := [], laidByText := true, laidKinds := [.data, .data, .data, .data, .sentinel, .sentinel, .pinned], laidTests := true, laidLooks := .later }
def FnConsoleCardSaid : Prop := Claim7.holds Tryz.pinned (.plain (OpenSpec.ofChange fnConsoleSpec)) fnConsoleCard

/-- THE TIED CARD OF 'laws.FnScript'. -/
def fnScriptCard : Claim7 := { stood := { row := fnScriptRow, standIns := [], harness := (true, "748fc1e9f3979b8b042d6d81e7b9e8238804401a781a23562b0b774b689b854a"), looks := true }, kinds := [], alts := [], laidByText := true, laidKinds := [.data, .data, .data, .data, .sentinel, .sentinel, .widerDeep, .pinned], laidTests := true, laidLooks := .later }
def FnScriptCardSaid : Prop := Claim7.holds Tryz.pinned (.plain (OpenSpec.ofChange fnScriptSpec)) fnScriptCard

/-- THE TIED CARD OF 'laws.FnReplay'. -/
def fnReplayCard : Claim7 := { stood := { row := fnReplayRow, standIns := [], harness := (true, "748fc1e9f3979b8b042d6d81e7b9e8238804401a781a23562b0b774b689b854a"), looks := true }, kinds := [], alts := [], laidByText := true, laidKinds := [.data, .data, .data, .data, .sentinel, .sentinel, .pinned], laidTests := true, laidLooks := .later }
def FnReplayCardSaid : Prop := Claim7.holds Tryz.pinned (.plain (OpenSpec.ofChange fnReplaySpec)) fnReplayCard

/-- THE TIED CARD OF 'laws.FnExactRunScript'. -/
def fnExactRunScriptCard : Claim7 := { stood := { row := fnExactRunScriptRow, standIns := [], harness := (true, "748fc1e9f3979b8b042d6d81e7b9e8238804401a781a23562b0b774b689b854a"), looks := true }, kinds := [], alts := [], laidByText := true, laidKinds := [.data, .data, .data, .data, .sentinel, .sentinel, .pinned], laidTests := true, laidLooks := .later }
def FnExactRunScriptCardSaid : Prop := Claim7.holds Tryz.pinned (.plain (OpenSpec.ofChange fnExactRunScriptSpec)) fnExactRunScriptCard

/-- THE TIED CARD OF 'laws.FnExactExecuteCommand'. -/
def fnExactExecuteCommandCard : Claim7 := { stood := { row := fnExactExecuteCommandRow, standIns := [], harness := (true, "748fc1e9f3979b8b042d6d81e7b9e8238804401a781a23562b0b774b689b854a"), looks := true }, kinds := [], alts := [], laidByText := true, laidKinds := [.data, .data, .data, .data, .sentinel, .sentinel, .pinned], laidTests := true, laidLooks := .later }
def FnExactExecuteCommandCardSaid : Prop := Claim7.holds Tryz.pinned (.plain (OpenSpec.ofChange fnExactExecuteCommandSpec)) fnExactExecuteCommandCard

/-- THE SECOND FORM's CARD OF 'laws.FnExactReplayLog'. -/
def fnExactReplayLogUptoCard : Claim7 := { stood := { row := fnExactReplayLogUptoRow, standIns := [], harness := (true, "748fc1e9f3979b8b042d6d81e7b9e8238804401a781a23562b0b774b689b854a"), looks := true }, kinds := [], alts := [], laidByText := true, laidKinds := [.data, .data, .data, .data, .sentinel, .sentinel, .pinned], laidTests := true, laidLooks := .later }
def FnExactReplayLogUptoCardSaid : Prop := Claim7.holds Tryz.pinned (.plain (OpenSpec.upto fnExactReplayLogSpec)) fnExactReplayLogUptoCard

/-- THE SECOND FORM's CARD OF 'laws.FnConsole'. -/
def fnConsoleUptoCard : Claim7 := { stood := { row := fnConsoleUptoRow, standIns := [], harness := (true, "748fc1e9f3979b8b042d6d81e7b9e8238804401a781a23562b0b774b689b854a"), looks := true }, kinds := [], alts := [], laidByText := true, laidKinds := [.data, .data, .data, .data, .sentinel, .sentinel, .pinned], laidTests := true, laidLooks := .later }
def FnConsoleUptoCardSaid : Prop := Claim7.holds Tryz.pinned (.plain (OpenSpec.upto fnConsoleSpec)) fnConsoleUptoCard

/-- THE SECOND FORM's CARD OF 'laws.FnScript'. -/
def fnScriptUptoCard : Claim7 := { stood := { row := fnScriptUptoRow, standIns := [], harness := (true, "748fc1e9f3979b8b042d6d81e7b9e8238804401a781a23562b0b774b689b854a"), looks := true }, kinds := [], alts := [], laidByText := true, laidKinds := [.data, .data, .data, .data, .sentinel, .sentinel, .widerDeep, .pinned], laidTests := true, laidLooks := .later }
def FnScriptUptoCardSaid : Prop := Claim7.holds Tryz.pinned (.plain (OpenSpec.upto fnScriptSpec)) fnScriptUptoCard

/-- THE SECOND FORM's CARD OF 'laws.FnReplay'. -/
def fnReplayUptoCard : Claim7 := { stood := { row := fnReplayUptoRow, standIns := [], harness := (true, "748fc1e9f3979b8b042d6d81e7b9e8238804401a781a23562b0b774b689b854a"), looks := true }, kinds := [], alts := [], laidByText := true, laidKinds := [.data, .data, .data, .data, .sentinel, .sentinel, .pinned], laidTests := true, laidLooks := .later }
def FnReplayUptoCardSaid : Prop := Claim7.holds Tryz.pinned (.plain (OpenSpec.upto fnReplaySpec)) fnReplayUptoCard

/-- THE SECOND FORM's CARD OF 'laws.FnExactRunScript'. -/
def fnExactRunScriptUptoCard : Claim7 := { stood := { row := fnExactRunScriptUptoRow, standIns := [], harness := (true, "748fc1e9f3979b8b042d6d81e7b9e8238804401a781a23562b0b774b689b854a"), looks := true }, kinds := [], alts := [], laidByText := true, laidKinds := [.data, .data, .data, .data, .sentinel, .sentinel, .pinned], laidTests := true, laidLooks := .later }
def FnExactRunScriptUptoCardSaid : Prop := Claim7.holds Tryz.pinned (.plain (OpenSpec.upto fnExactRunScriptSpec)) fnExactRunScriptUptoCard

/-- THE SECOND FORM's CARD OF 'laws.FnExactExecuteCommand'. -/
def fnExactExecuteCommandUptoCard : Claim7 := { stood := { row := fnExactExecuteCommandUptoRow, standIns := [], harness := (true, "748fc1e9f3979b8b042d6d81e7b9e8238804401a781a23562b0b774b689b854a"), looks := true }, kinds := [], alts := [], laidByText := true, laidKinds := [.data, .data, .data, .data, .sentinel, .sentinel, .pinned], laidTests := true, laidLooks := .later }
def FnExactExecuteCommandUptoCardSaid : Prop := Claim7.holds Tryz.pinned (.plain (OpenSpec.upto fnExactExecuteCommandSpec)) fnExactExecuteCommandUptoCard
end Rows
end Go.Proofs.YtlaaemmmbodaaaaGreatDoor

/-
  DERIVED. GIVEN WITH THE SEED: THE CARDS: each row of YtbnncgahepcfnaaGreatDoorRows.lean that lists a variable, with what it lists TIED to the program's text (the seventh form; the later family's looks); each row that meets fmt, with fmt's text TOLD by the authors' own Lean function (tested against real Go, not proved from fmt's source: count such statements apart). THE CARD IS WHAT COUNTS. Prove the row's statement (the work); the ties are given (YtbnncgahepcfnaaGreatDoorTie.lean); close each card by the builder's one call (the guide's Derived/Test/ToyasCard.lean, 'card_holds'). Laid BY PROGRAM, IN A SANDBOX (cutbox-door.mjs). By AI agents, Wed Nov 11 2026. No macro, syntax, notation, axiom, sorry.
-/
import Derived.Test.YtbnncgahepcfnaaGreatDoorRows
import GoSem.ClaimSeven
namespace Go.Proofs.YtbnncgahepcfnaaGreatDoor
namespace Rows

/-- THE TIED CARD OF 'laws.FnReportLines'. -/
def fnReportLinesCard : Claim7 := { stood := { row := fnReportLinesRow, standIns := [], harness := (true, "72d421f788d4fa8ac21bbd3e2e609555c27ef7066c11e8fb10b85a10a522ec5b"), looks := true }, kinds := [], alts := [], laidByText := true, laidKinds := [.data, .data, .data, .data, .sentinel, .sentinel, .widerDeep, .pinned], laidTests := true, laidLooks := .later }
def FnReportLinesCardSaid : Prop := Claim7.holds Tryz.pinned (.plain (OpenSpec.ofChange fnReportLinesSpec)) fnReportLinesCard

/-- THE TIED CARD OF 'laws.FnNotices'. -/
def fnNoticesCard : Claim7 := { stood := { row := fnNoticesRow, standIns := [], harness := (true, "72d421f788d4fa8ac21bbd3e2e609555c27ef7066c11e8fb10b85a10a522ec5b"), looks := true }, kinds := [], alts := [], laidByText := true, laidKinds := [.data, .data, .data, .data, .sentinel, .sentinel, .pinned], laidTests := true, laidLooks := .later }
def FnNoticesCardSaid : Prop := Claim7.holds Tryz.pinned (.plain (OpenSpec.ofChange fnNoticesSpec)) fnNoticesCard

/-- THE SECOND FORM's CARD OF 'laws.FnReportLines'. -/
def fnReportLinesUptoCard : Claim7 := { stood := { row := fnReportLinesUptoRow, standIns := [], harness := (true, "72d421f788d4fa8ac21bbd3e2e609555c27ef7066c11e8fb10b85a10a522ec5b"), looks := true }, kinds := [], alts := [], laidByText := true, laidKinds := [.data, .data, .data, .data, .sentinel, .sentinel, .widerDeep, .pinned], laidTests := true, laidLooks := .later }
def FnReportLinesUptoCardSaid : Prop := Claim7.holds Tryz.pinned (.plain (OpenSpec.upto fnReportLinesSpec)) fnReportLinesUptoCard

/-- THE SECOND FORM's CARD OF 'laws.FnNotices'. -/
def fnNoticesUptoCard : Claim7 := { stood := { row := fnNoticesUptoRow, standIns := [], harness := (true, "72d421f788d4fa8ac21bbd3e2e609555c27ef7066c11e8fb10b85a10a522ec5b"), looks := true }, kinds := [], alts := [], laidByText := true, laidKinds := [.data, .data, .data, .data, .sentinel, .sentinel, .pinned], laidTests := true, laidLooks := .later }
def FnNoticesUptoCardSaid : Prop := Claim7.holds Tryz.pinned (.plain (OpenSpec.upto fnNoticesSpec)) fnNoticesUptoCard
end Rows
end Go.Proofs.YtbnncgahepcfnaaGreatDoor

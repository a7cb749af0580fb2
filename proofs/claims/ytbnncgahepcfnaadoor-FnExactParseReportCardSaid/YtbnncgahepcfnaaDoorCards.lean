/-
  DERIVED. GIVEN WITH THE SEED: THE CARDS: each row of YtbnncgahepcfnaaDoorRows.lean that lists a variable, with what it lists TIED to the program's text (the seventh form; the later family's looks); each row that meets fmt, with fmt's text TOLD by the authors' own Lean function (tested against real Go, not proved from fmt's source: count such statements apart). THE CARD IS WHAT COUNTS. Prove the row's statement (the work); the ties are given (YtbnncgahepcfnaaDoorTie.lean); close each card by the builder's one call (the guide's Derived/Test/ToyasCard.lean, 'card_holds'). Laid BY PROGRAM, IN A SANDBOX (cutbox-door.mjs). By AI agents, Wed Nov 11 2026. No macro, syntax, notation, axiom, sorry.
-/
import Derived.Test.YtbnncgahepcfnaaDoorRows
import GoSem.ClaimSeven
namespace Go.Proofs.YtbnncgahepcfnaaDoor
namespace Rows

/-- THE TIED CARD OF 'laws.FnExactOutcomeLine'. -/
def fnExactOutcomeLineCard : Claim7 := { stood := { row := fnExactOutcomeLineRow, standIns := [], harness := (true, "ee889d1e9f63ef8d776f3358a541e7ddfb51b7c55e0cce473777750195f066e0"), looks := true }, kinds := [], alts := [], laidByText := true, laidKinds := [.data, .data, .data, .widerDeep], laidTests := true, laidLooks := .later }
def FnExactOutcomeLineCardSaid : Prop := Claim7.holds Tryd.pinned (.plain (OpenSpec.ofChange fnExactOutcomeLineSpec)) fnExactOutcomeLineCard

/-- THE TIED CARD OF 'laws.FnExactReportText'. -/
def fnExactReportTextCard : Claim7 := { stood := { row := fnExactReportTextRow, standIns := [], harness := (true, "ee889d1e9f63ef8d776f3358a541e7ddfb51b7c55e0cce473777750195f066e0"), looks := true }, kinds := [], alts := [], laidByText := true, laidKinds := [.data, .data, .data, .widerDeep], laidTests := true, laidLooks := .later }
def FnExactReportTextCardSaid : Prop := Claim7.holds Tryd.pinned (.plain (OpenSpec.ofChange fnExactReportTextSpec)) fnExactReportTextCard

/-- THE TIED CARD OF 'laws.FnExactHeadline'. -/
def fnExactHeadlineCard : Claim7 := { stood := { row := fnExactHeadlineRow, standIns := [], harness := (true, "ee889d1e9f63ef8d776f3358a541e7ddfb51b7c55e0cce473777750195f066e0"), looks := true }, kinds := [], alts := [], laidByText := true, laidKinds := [.data, .data, .data], laidTests := true, laidLooks := .later }
def FnExactHeadlineCardSaid : Prop := Claim7.holds Tryd.pinned (.plain (OpenSpec.ofChange fnExactHeadlineSpec)) fnExactHeadlineCard

/-- THE TIED CARD OF 'laws.FnReportOrders'. -/
def fnReportOrdersCard : Claim7 := { stood := { row := fnReportOrdersRow, standIns := [], harness := (true, "ee889d1e9f63ef8d776f3358a541e7ddfb51b7c55e0cce473777750195f066e0"), looks := true }, kinds := [], alts := [], laidByText := true, laidKinds := [.data, .data, .data], laidTests := true, laidLooks := .later }
def FnReportOrdersCardSaid : Prop := Claim7.holds Tryd.pinned (.plain (OpenSpec.ofChange fnReportOrdersSpec)) fnReportOrdersCard

/-- THE TIED CARD OF 'laws.FnExactParseNotice'. -/
def fnExactParseNoticeCard : Claim7 := { stood := { row := fnExactParseNoticeRow, standIns := [], harness := (true, "ee889d1e9f63ef8d776f3358a541e7ddfb51b7c55e0cce473777750195f066e0"), looks := true }, kinds := [], alts := [], laidByText := true, laidKinds := [.data, .data, .data, .data, .sentinel, .sentinel, .pinned], laidTests := true, laidLooks := .later }
def FnExactParseNoticeCardSaid : Prop := Claim7.holds Tryd.pinned (.plain (OpenSpec.ofChange fnExactParseNoticeSpec)) fnExactParseNoticeCard

/-- THE TIED CARD OF 'laws.FnExactParseOutcome'. -/
def fnExactParseOutcomeCard : Claim7 := { stood := { row := fnExactParseOutcomeRow, standIns := [], harness := (true, "ee889d1e9f63ef8d776f3358a541e7ddfb51b7c55e0cce473777750195f066e0"), looks := true }, kinds := [], alts := [], laidByText := true, laidKinds := [.data, .data, .data, .data, .sentinel, .sentinel, .widerDeep, .pinned], laidTests := true, laidLooks := .later }
def FnExactParseOutcomeCardSaid : Prop := Claim7.holds Tryd.pinned (.plain (OpenSpec.ofChange fnExactParseOutcomeSpec)) fnExactParseOutcomeCard

/-- THE TIED CARD OF 'laws.FnExactParseReport'. -/
def fnExactParseReportCard : Claim7 := { stood := { row := fnExactParseReportRow, standIns := [], harness := (true, "ee889d1e9f63ef8d776f3358a541e7ddfb51b7c55e0cce473777750195f066e0"), looks := true }, kinds := [], alts := [], laidByText := true, laidKinds := [.data, .data, .data, .data, .sentinel, .sentinel, .widerDeep, .pinned], laidTests := true, laidLooks := .later }
def FnExactParseReportCardSaid : Prop := Claim7.holds Tryd.pinned (.plain (OpenSpec.ofChange fnExactParseReportSpec)) fnExactParseReportCard

/-- THE SECOND FORM's CARD OF 'laws.FnExactOutcomeLine'. -/
def fnExactOutcomeLineUptoCard : Claim7 := { stood := { row := fnExactOutcomeLineUptoRow, standIns := [], harness := (true, "ee889d1e9f63ef8d776f3358a541e7ddfb51b7c55e0cce473777750195f066e0"), looks := true }, kinds := [], alts := [], laidByText := true, laidKinds := [.data, .data, .data, .widerDeep], laidTests := true, laidLooks := .later }
def FnExactOutcomeLineUptoCardSaid : Prop := Claim7.holds Tryd.pinned (.plain (OpenSpec.upto fnExactOutcomeLineSpec)) fnExactOutcomeLineUptoCard

/-- THE SECOND FORM's CARD OF 'laws.FnExactReportText'. -/
def fnExactReportTextUptoCard : Claim7 := { stood := { row := fnExactReportTextUptoRow, standIns := [], harness := (true, "ee889d1e9f63ef8d776f3358a541e7ddfb51b7c55e0cce473777750195f066e0"), looks := true }, kinds := [], alts := [], laidByText := true, laidKinds := [.data, .data, .data, .widerDeep], laidTests := true, laidLooks := .later }
def FnExactReportTextUptoCardSaid : Prop := Claim7.holds Tryd.pinned (.plain (OpenSpec.upto fnExactReportTextSpec)) fnExactReportTextUptoCard

/-- THE SECOND FORM's CARD OF 'laws.FnExactHeadline'. -/
def fnExactHeadlineUptoCard : Claim7 := { stood := { row := fnExactHeadlineUptoRow, standIns := [], harness := (true, "ee889d1e9f63ef8d776f3358a541e7ddfb51b7c55e0cce473777750195f066e0"), looks := true }, kinds := [], alts := [], laidByText := true, laidKinds := [.data, .data, .data], laidTests := true, laidLooks := .later }
def FnExactHeadlineUptoCardSaid : Prop := Claim7.holds Tryd.pinned (.plain (OpenSpec.upto fnExactHeadlineSpec)) fnExactHeadlineUptoCard

/-- THE SECOND FORM's CARD OF 'laws.FnReportOrders'. -/
def fnReportOrdersUptoCard : Claim7 := { stood := { row := fnReportOrdersUptoRow, standIns := [], harness := (true, "ee889d1e9f63ef8d776f3358a541e7ddfb51b7c55e0cce473777750195f066e0"), looks := true }, kinds := [], alts := [], laidByText := true, laidKinds := [.data, .data, .data], laidTests := true, laidLooks := .later }
def FnReportOrdersUptoCardSaid : Prop := Claim7.holds Tryd.pinned (.plain (OpenSpec.upto fnReportOrdersSpec)) fnReportOrdersUptoCard

/-- THE SECOND FORM's CARD OF 'laws.FnExactParseNotice'. -/
def fnExactParseNoticeUptoCard : Claim7 := { stood := { row := fnExactParseNoticeUptoRow, standIns := [], harness := (true, "ee889d1e9f63ef8d776f3358a541e7ddfb51b7c55e0cce473777750195f066e0"), looks := true }, kinds := [], alts := [], laidByText := true, laidKinds := [.data, .data, .data, .data, .sentinel, .sentinel, .pinned], laidTests := true, laidLooks := .later }
def FnExactParseNoticeUptoCardSaid : Prop := Claim7.holds Tryd.pinned (.plain (OpenSpec.upto fnExactParseNoticeSpec)) fnExactParseNoticeUptoCard

/-- THE SECOND FORM's CARD OF 'laws.FnExactParseOutcome'. -/
def fnExactParseOutcomeUptoCard : Claim7 := { stood := { row := fnExactParseOutcomeUptoRow, standIns := [], harness := (true, "ee889d1e9f63ef8d776f3358a541e7ddfb51b7c55e0cce473777750195f066e0"), looks := true }, kinds := [], alts := [], laidByText := true, laidKinds := [.data, .data, .data, .data, .sentinel, .sentinel, .widerDeep, .pinned], laidTests := true, laidLooks := .later }
def FnExactParseOutcomeUptoCardSaid : Prop := Claim7.holds Tryd.pinned (.plain (OpenSpec.upto fnExactParseOutcomeSpec)) fnExactParseOutcomeUptoCard

/-- THE SECOND FORM's CARD OF 'laws.FnExactParseReport'. -/
def fnExactParseReportUptoCard : Claim7 := { stood := { row := fnExactParseReportUptoRow, standIns := [], harness := (true, "ee889d1e9f63ef8d776f3358a541e7ddfb51b7c55e0cce473777750195f066e0"), looks := true }, kinds := [], alts := [], laidByText := true, laidKinds := [.data, .data, .data, .data, .sentinel, .sentinel, .widerDeep, .pinned], laidTests := true, laidLooks := .later }
def FnExactParseReportUptoCardSaid : Prop := Claim7.holds Tryd.pinned (.plain (OpenSpec.upto fnExactParseReportSpec)) fnExactParseReportUptoCard
end Rows
end Go.Proofs.YtbnncgahepcfnaaDoor

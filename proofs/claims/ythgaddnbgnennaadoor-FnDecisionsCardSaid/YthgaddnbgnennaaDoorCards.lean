/-
  DERIVED. GIVEN WITH THE SEED: THE CARDS: each row of YthgaddnbgnennaaDoorRows.lean that lists a variable, with what it lists TIED to the program's text (the seventh form; the later family's looks); each row that meets fmt, with fmt's text TOLD by the authors' own Lean function (tested against real Go, not proved from fmt's source: count such statements apart). THE CARD IS WHAT COUNTS. Prove the row's statement (the work); the ties are given (YthgaddnbgnennaaDoorTie.lean); close each card by the builder's one call (the guide's Derived/Test/ToyasCard.lean, 'card_holds'). Laid BY PROGRAM, IN A SANDBOX (cutbox-door.mjs). By AI agents, Wed Nov 11 2026. No macro, syntax, notation, axiom, sorry.
-/
import Derived.Test.YthgaddnbgnennaaDoorRows
import GoSem.ClaimSeven
namespace Go.Proofs.YthgaddnbgnennaaDoor
namespace Rows

/-- THE TIED CARD OF 'laws.FnExactNoticeText'. -/
def fnExactNoticeTextCard : Claim7 := { stood := { row := fnExactNoticeTextRow, standIns := [], harness := (true, "0635955aae6d5a3726b810a52d72125ac6cd99ea2da3daac9aa4f3e310ef5e44"), looks := false }, kinds := [], alts := [], laidByText := true, laidKinds := [.data, .data, .data], laidTests := true, laidLooks := .later }
def FnExactNoticeTextCardSaid : Prop := Claim7.holds Tryd.pinned (.plain (OpenSpec.ofChange fnExactNoticeTextSpec)) fnExactNoticeTextCard

/-- THE TIED CARD OF 'laws.FnExactDecidedText'. -/
def fnExactDecidedTextCard : Claim7 := { stood := { row := fnExactDecidedTextRow, standIns := [], harness := (true, "0635955aae6d5a3726b810a52d72125ac6cd99ea2da3daac9aa4f3e310ef5e44"), looks := false }, kinds := [], alts := [], laidByText := true, laidKinds := [.data, .data, .data], laidTests := true, laidLooks := .later }
def FnExactDecidedTextCardSaid : Prop := Claim7.holds Tryd.pinned (.plain (OpenSpec.ofChange fnExactDecidedTextSpec)) fnExactDecidedTextCard

/-- THE TIED CARD OF 'laws.FnDecisions'. -/
def fnDecisionsCard : Claim7 := { stood := { row := fnDecisionsRow, standIns := [], harness := (true, "0635955aae6d5a3726b810a52d72125ac6cd99ea2da3daac9aa4f3e310ef5e44"), looks := false }, kinds := [], alts := [], laidByText := true, laidKinds := [.data, .data, .data], laidTests := true, laidLooks := .later }
def FnDecisionsCardSaid : Prop := Claim7.holds Tryd.pinned (.plain (OpenSpec.ofChange fnDecisionsSpec)) fnDecisionsCard

/-- THE SECOND FORM's CARD OF 'laws.FnExactNoticeText'. -/
def fnExactNoticeTextUptoCard : Claim7 := { stood := { row := fnExactNoticeTextUptoRow, standIns := [], harness := (true, "0635955aae6d5a3726b810a52d72125ac6cd99ea2da3daac9aa4f3e310ef5e44"), looks := false }, kinds := [], alts := [], laidByText := true, laidKinds := [.data, .data, .data], laidTests := true, laidLooks := .later }
def FnExactNoticeTextUptoCardSaid : Prop := Claim7.holds Tryd.pinned (.plain (OpenSpec.upto fnExactNoticeTextSpec)) fnExactNoticeTextUptoCard

/-- THE SECOND FORM's CARD OF 'laws.FnExactDecidedText'. -/
def fnExactDecidedTextUptoCard : Claim7 := { stood := { row := fnExactDecidedTextUptoRow, standIns := [], harness := (true, "0635955aae6d5a3726b810a52d72125ac6cd99ea2da3daac9aa4f3e310ef5e44"), looks := false }, kinds := [], alts := [], laidByText := true, laidKinds := [.data, .data, .data], laidTests := true, laidLooks := .later }
def FnExactDecidedTextUptoCardSaid : Prop := Claim7.holds Tryd.pinned (.plain (OpenSpec.upto fnExactDecidedTextSpec)) fnExactDecidedTextUptoCard

/-- THE SECOND FORM's CARD OF 'laws.FnDecisions'. -/
def fnDecisionsUptoCard : Claim7 := { stood := { row := fnDecisionsUptoRow, standIns := [], harness := (true, "0635955aae6d5a3726b810a52d72125ac6cd99ea2da3daac9aa4f3e310ef5e44"), looks := false }, kinds := [], alts := [], laidByText := true, laidKinds := [.data, .data, .data], laidTests := true, laidLooks := .later }
def FnDecisionsUptoCardSaid : Prop := Claim7.holds Tryd.pinned (.plain (OpenSpec.upto fnDecisionsSpec)) fnDecisionsUptoCard
end Rows
end Go.Proofs.YthgaddnbgnennaaDoor

/-
  DERIVED. GIVEN WITH THE SEED: THE CARDS: each row of YtmcchhmgchgaaaaDoorRows.lean that lists a variable, with what it lists TIED to the program's text (the seventh form; the later family's looks); each row that meets fmt, with fmt's text TOLD by the authors' own Lean function (tested against real Go, not proved from fmt's source: count such statements apart). THE CARD IS WHAT COUNTS. Prove the row's statement (the work); the ties are given (YtmcchhmgchgaaaaDoorTie.lean); close each card by the builder's one call (the guide's Derived/Test/ToyasCard.lean, 'card_holds'). Laid BY PROGRAM, IN A SANDBOX (cutbox-door.mjs). By AI agents, Wed Nov 11 2026. No macro, syntax, notation, axiom, sorry.
-/
import Derived.Test.YtmcchhmgchgaaaaDoorRows
import GoSem.ClaimSeven
namespace Go.Proofs.YtmcchhmgchgaaaaDoor
namespace Rows

/-- THE TIED CARD OF 'stetlaw02.WordsNumbers'. -/
def wordsNumbersCard : Claim7 := { stood := { row := wordsNumbersRow, standIns := [], harness := (true, "8814bc02bb3c80802885482b2e9345ea329193b1f622cfab33fd3e8fe138aa51"), looks := true }, kinds := [], alts := [], laidByText := true, laidKinds := [.data, .data, .data, .sentinel, .sentinel], laidTests := true, laidLooks := .later }
def WordsNumbersCardSaid : Prop := Claim7.holds Tryd.pinned (.plain (OpenSpec.ofChange wordsNumbersSpec)) wordsNumbersCard

/-- THE TIED CARD OF 'stetlaw02.WordsHide'. -/
def wordsHideCard : Claim7 := { stood := { row := wordsHideRow, standIns := [], harness := (true, "8814bc02bb3c80802885482b2e9345ea329193b1f622cfab33fd3e8fe138aa51"), looks := true }, kinds := [], alts := [], laidByText := true, laidKinds := [.data, .data, .data, .sentinel, .sentinel], laidTests := true, laidLooks := .later }
def WordsHideCardSaid : Prop := Claim7.holds Tryd.pinned (.plain (OpenSpec.ofChange wordsHideSpec)) wordsHideCard

/-- THE TIED CARD OF 'stetlaw02.WordsSplit'. -/
def wordsSplitCard : Claim7 := { stood := { row := wordsSplitRow, standIns := [], harness := (true, "8814bc02bb3c80802885482b2e9345ea329193b1f622cfab33fd3e8fe138aa51"), looks := true }, kinds := [], alts := [], laidByText := true, laidKinds := [.data, .data, .data, .data, .sentinel, .sentinel, .pinned], laidTests := true, laidLooks := .later }
def WordsSplitCardSaid : Prop := Claim7.holds Tryd.pinned (.plain (OpenSpec.ofChange wordsSplitSpec)) wordsSplitCard

/-- THE TIED CARD OF 'stetlaw06.ExprRight'. -/
def exprRightCard : Claim7 := { stood := { row := exprRightRow, standIns := [], harness := (true, "8814bc02bb3c80802885482b2e9345ea329193b1f622cfab33fd3e8fe138aa51"), looks := true }, kinds := [], alts := [], laidByText := true, laidKinds := [.data, .data, .data, .sentinel, .sentinel], laidTests := true, laidLooks := .later }
def ExprRightCardSaid : Prop := Claim7.holds Tryd.pinned (.plain (OpenSpec.ofChange exprRightSpec)) exprRightCard

/-- THE SECOND FORM's CARD OF 'stetlaw02.WordsNumbers'. -/
def wordsNumbersUptoCard : Claim7 := { stood := { row := wordsNumbersUptoRow, standIns := [], harness := (true, "8814bc02bb3c80802885482b2e9345ea329193b1f622cfab33fd3e8fe138aa51"), looks := true }, kinds := [], alts := [], laidByText := true, laidKinds := [.data, .data, .data, .sentinel, .sentinel], laidTests := true, laidLooks := .later }
def WordsNumbersUptoCardSaid : Prop := Claim7.holds Tryd.pinned (.plain (OpenSpec.upto wordsNumbersSpec)) wordsNumbersUptoCard

/-- THE SECOND FORM's CARD OF 'stetlaw02.WordsHide'. -/
def wordsHideUptoCard : Claim7 := { stood := { row := wordsHideUptoRow, standIns := [], harness := (true, "8814bc02bb3c80802885482b2e9345ea329193b1f622cfab33fd3e8fe138aa51"), looks := true }, kinds := [], alts := [], laidByText := true, laidKinds := [.data, .data, .data, .sentinel, .sentinel], laidTests := true, laidLooks := .later }
def WordsHideUptoCardSaid : Prop := Claim7.holds Tryd.pinned (.plain (OpenSpec.upto wordsHideSpec)) wordsHideUptoCard

/-- THE SECOND FORM's CARD OF 'stetlaw02.WordsSplit'. -/
def wordsSplitUptoCard : Claim7 := { stood := { row := wordsSplitUptoRow, standIns := [], harness := (true, "8814bc02bb3c80802885482b2e9345ea329193b1f622cfab33fd3e8fe138aa51"), looks := true }, kinds := [], alts := [], laidByText := true, laidKinds := [.data, .data, .data, .data, .sentinel, .sentinel, .pinned], laidTests := true, laidLooks := .later }
def WordsSplitUptoCardSaid : Prop := Claim7.holds Tryd.pinned (.plain (OpenSpec.upto wordsSplitSpec)) wordsSplitUptoCard

/-- THE SECOND FORM's CARD OF 'stetlaw06.ExprRight'. -/
def exprRightUptoCard : Claim7 := { stood := { row := exprRightUptoRow, standIns := [], harness := (true, "8814bc02bb3c80802885482b2e9345ea329193b1f622cfab33fd3e8fe138aa51"), looks := true }, kinds := [], alts := [], laidByText := true, laidKinds := [.data, .data, .data, .sentinel, .sentinel], laidTests := true, laidLooks := .later }
def ExprRightUptoCardSaid : Prop := Claim7.holds Tryd.pinned (.plain (OpenSpec.upto exprRightSpec)) exprRightUptoCard
end Rows
end Go.Proofs.YtmcchhmgchgaaaaDoor

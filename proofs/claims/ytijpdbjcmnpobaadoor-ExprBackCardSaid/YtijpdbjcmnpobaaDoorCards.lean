/-
  DERIVED. GIVEN WITH THE SEED: THE CARDS: each row of YtijpdbjcmnpobaaDoorRows.lean that lists a variable, with what it lists TIED to the program's text (the seventh form; the later family's looks); each row that meets fmt, with fmt's text TOLD by the authors' own Lean function (tested against real Go, not proved from fmt's source: count such statements apart). THE CARD IS WHAT COUNTS. Prove the row's statement (the work); the ties are given (YtijpdbjcmnpobaaDoorTie.lean); close each card by the builder's one call (the guide's Derived/Test/ToyasCard.lean, 'card_holds'). Laid BY PROGRAM, IN A SANDBOX (cutbox-door.mjs). By AI agents, Wed Nov 11 2026. No macro, syntax, notation, axiom, sorry.
-/
import Derived.Test.YtijpdbjcmnpobaaDoorRows
import GoSem.ClaimSeven
namespace Go.Proofs.YtijpdbjcmnpobaaDoor
namespace Rows

/-- THE TIED CARD OF 'stetlaw02.WordsNumbers'. -/
def wordsNumbersCard : Claim7 := { stood := { row := wordsNumbersRow, standIns := [], harness := (true, "49c91fd32d4363aab233f07d455714eb0de1a2102ed897b3a08bad05cdae03ce"), looks := true }, kinds := [], alts := [], laidByText := true, laidKinds := [.data, .data, .data, .sentinel, .sentinel], laidTests := true, laidLooks := .later }
def WordsNumbersCardSaid : Prop := Claim7.holds Tryd.pinned (.plain (OpenSpec.ofChange wordsNumbersSpec)) wordsNumbersCard

/-- THE TIED CARD OF 'stetlaw02.WordsHide'. -/
def wordsHideCard : Claim7 := { stood := { row := wordsHideRow, standIns := [], harness := (true, "49c91fd32d4363aab233f07d455714eb0de1a2102ed897b3a08bad05cdae03ce"), looks := true }, kinds := [], alts := [], laidByText := true, laidKinds := [.data, .data, .data, .sentinel, .sentinel], laidTests := true, laidLooks := .later }
def WordsHideCardSaid : Prop := Claim7.holds Tryd.pinned (.plain (OpenSpec.ofChange wordsHideSpec)) wordsHideCard

/-- THE TIED CARD OF 'stetlaw05.LexSigns'. -/
def lexSignsCard : Claim7 := { stood := { row := lexSignsRow, standIns := [], harness := (true, "49c91fd32d4363aab233f07d455714eb0de1a2102ed897b3a08bad05cdae03ce"), looks := true }, kinds := [], alts := [], laidByText := true, laidKinds := [.data, .data, .data, .sentinel, .sentinel], laidTests := true, laidLooks := .later }
def LexSignsCardSaid : Prop := Claim7.holds Tryd.pinned (.plain (OpenSpec.ofChange lexSignsSpec)) lexSignsCard

/-- THE TIED CARD OF 'stetlaw05.LexShows'. -/
def lexShowsCard : Claim7 := { stood := { row := lexShowsRow, standIns := [], harness := (true, "49c91fd32d4363aab233f07d455714eb0de1a2102ed897b3a08bad05cdae03ce"), looks := true }, kinds := [], alts := [], laidByText := true, laidKinds := [.data, .data, .data, .sentinel, .sentinel], laidTests := true, laidLooks := .later }
def LexShowsCardSaid : Prop := Claim7.holds Tryd.pinned (.plain (OpenSpec.ofChange lexShowsSpec)) lexShowsCard

/-- THE TIED CARD OF 'stetlaw05.LexBack'. -/
def lexBackCard : Claim7 := { stood := { row := lexBackRow, standIns := [], harness := (true, "49c91fd32d4363aab233f07d455714eb0de1a2102ed897b3a08bad05cdae03ce"), looks := true }, kinds := [], alts := [], laidByText := true, laidKinds := [.data, .data, .data, .sentinel, .sentinel], laidTests := true, laidLooks := .later }
def LexBackCardSaid : Prop := Claim7.holds Tryd.pinned (.plain (OpenSpec.ofChange lexBackSpec)) lexBackCard

/-- THE TIED CARD OF 'stetlaw02.WordsLong'. -/
def wordsLongCard : Claim7 := { stood := { row := wordsLongRow, standIns := [], harness := (true, "49c91fd32d4363aab233f07d455714eb0de1a2102ed897b3a08bad05cdae03ce"), looks := true }, kinds := [], alts := [], laidByText := true, laidKinds := [.data, .data, .data, .data, .sentinel, .sentinel, .pinned], laidTests := true, laidLooks := .later }
def WordsLongCardSaid : Prop := Claim7.holds Tryd.pinned (.plain (OpenSpec.ofChange wordsLongSpec)) wordsLongCard

/-- THE TIED CARD OF 'stetlaw06.ExprParses'. -/
def exprParsesCard : Claim7 := { stood := { row := exprParsesRow, standIns := [], harness := (true, "49c91fd32d4363aab233f07d455714eb0de1a2102ed897b3a08bad05cdae03ce"), looks := true }, kinds := [], alts := [], laidByText := true, laidKinds := [.data, .data, .data, .sentinel, .sentinel], laidTests := true, laidLooks := .later }
def ExprParsesCardSaid : Prop := Claim7.holds Tryd.pinned (.plain (OpenSpec.ofChange exprParsesSpec)) exprParsesCard

/-- THE TIED CARD OF 'stetlaw06.ExprBack'. -/
def exprBackCard : Claim7 := { stood := { row := exprBackRow, standIns := [], harness := (true, "49c91fd32d4363aab233f07d455714eb0de1a2102ed897b3a08bad05cdae03ce"), looks := true }, kinds := [], alts := [], laidByText := true, laidKinds := [.data, .data, .data, .sentinel, .sentinel], laidTests := true, laidLooks := .later }
def ExprBackCardSaid : Prop := Claim7.holds Tryd.pinned (.plain (OpenSpec.ofChange exprBackSpec)) exprBackCard

/-- THE TIED CARD OF 'stetlaw02.WordsSplit'. -/
def wordsSplitCard : Claim7 := { stood := { row := wordsSplitRow, standIns := [], harness := (true, "49c91fd32d4363aab233f07d455714eb0de1a2102ed897b3a08bad05cdae03ce"), looks := true }, kinds := [], alts := [], laidByText := true, laidKinds := [.data, .data, .data, .data, .sentinel, .sentinel, .pinned], laidTests := true, laidLooks := .later }
def WordsSplitCardSaid : Prop := Claim7.holds Tryd.pinned (.plain (OpenSpec.ofChange wordsSplitSpec)) wordsSplitCard

/-- THE SECOND FORM's CARD OF 'stetlaw02.WordsNumbers'. -/
def wordsNumbersUptoCard : Claim7 := { stood := { row := wordsNumbersUptoRow, standIns := [], harness := (true, "49c91fd32d4363aab233f07d455714eb0de1a2102ed897b3a08bad05cdae03ce"), looks := true }, kinds := [], alts := [], laidByText := true, laidKinds := [.data, .data, .data, .sentinel, .sentinel], laidTests := true, laidLooks := .later }
def WordsNumbersUptoCardSaid : Prop := Claim7.holds Tryd.pinned (.plain (OpenSpec.upto wordsNumbersSpec)) wordsNumbersUptoCard

/-- THE SECOND FORM's CARD OF 'stetlaw02.WordsHide'. -/
def wordsHideUptoCard : Claim7 := { stood := { row := wordsHideUptoRow, standIns := [], harness := (true, "49c91fd32d4363aab233f07d455714eb0de1a2102ed897b3a08bad05cdae03ce"), looks := true }, kinds := [], alts := [], laidByText := true, laidKinds := [.data, .data, .data, .sentinel, .sentinel], laidTests := true, laidLooks := .later }
def WordsHideUptoCardSaid : Prop := Claim7.holds Tryd.pinned (.plain (OpenSpec.upto wordsHideSpec)) wordsHideUptoCard

/-- THE SECOND FORM's CARD OF 'stetlaw05.LexSigns'. -/
def lexSignsUptoCard : Claim7 := { stood := { row := lexSignsUptoRow, standIns := [], harness := (true, "49c91fd32d4363aab233f07d455714eb0de1a2102ed897b3a08bad05cdae03ce"), looks := true }, kinds := [], alts := [], laidByText := true, laidKinds := [.data, .data, .data, .sentinel, .sentinel], laidTests := true, laidLooks := .later }
def LexSignsUptoCardSaid : Prop := Claim7.holds Tryd.pinned (.plain (OpenSpec.upto lexSignsSpec)) lexSignsUptoCard

/-- THE SECOND FORM's CARD OF 'stetlaw05.LexShows'. -/
def lexShowsUptoCard : Claim7 := { stood := { row := lexShowsUptoRow, standIns := [], harness := (true, "49c91fd32d4363aab233f07d455714eb0de1a2102ed897b3a08bad05cdae03ce"), looks := true }, kinds := [], alts := [], laidByText := true, laidKinds := [.data, .data, .data, .sentinel, .sentinel], laidTests := true, laidLooks := .later }
def LexShowsUptoCardSaid : Prop := Claim7.holds Tryd.pinned (.plain (OpenSpec.upto lexShowsSpec)) lexShowsUptoCard

/-- THE SECOND FORM's CARD OF 'stetlaw05.LexBack'. -/
def lexBackUptoCard : Claim7 := { stood := { row := lexBackUptoRow, standIns := [], harness := (true, "49c91fd32d4363aab233f07d455714eb0de1a2102ed897b3a08bad05cdae03ce"), looks := true }, kinds := [], alts := [], laidByText := true, laidKinds := [.data, .data, .data, .sentinel, .sentinel], laidTests := true, laidLooks := .later }
def LexBackUptoCardSaid : Prop := Claim7.holds Tryd.pinned (.plain (OpenSpec.upto lexBackSpec)) lexBackUptoCard

/-- THE SECOND FORM's CARD OF 'stetlaw02.WordsLong'. -/
def wordsLongUptoCard : Claim7 := { stood := { row := wordsLongUptoRow, standIns := [], harness := (true, "49c91fd32d4363aab233f07d455714eb0de1a2102ed897b3a08bad05cdae03ce"), looks := true }, kinds := [], alts := [], laidByText := true, laidKinds := [.data, .data, .data, .data, .sentinel, .sentinel, .pinned], laidTests := true, laidLooks := .later }
def WordsLongUptoCardSaid : Prop := Claim7.holds Tryd.pinned (.plain (OpenSpec.upto wordsLongSpec)) wordsLongUptoCard

/-- THE SECOND FORM's CARD OF 'stetlaw06.ExprParses'. -/
def exprParsesUptoCard : Claim7 := { stood := { row := exprParsesUptoRow, standIns := [], harness := (true, "49c91fd32d4363aab233f07d455714eb0de1a2102ed897b3a08bad05cdae03ce"), looks := true }, kinds := [], alts := [], laidByText := true, laidKinds := [.data, .data, .data, .sentinel, .sentinel], laidTests := true, laidLooks := .later }
def ExprParsesUptoCardSaid : Prop := Claim7.holds Tryd.pinned (.plain (OpenSpec.upto exprParsesSpec)) exprParsesUptoCard

/-- THE SECOND FORM's CARD OF 'stetlaw06.ExprBack'. -/
def exprBackUptoCard : Claim7 := { stood := { row := exprBackUptoRow, standIns := [], harness := (true, "49c91fd32d4363aab233f07d455714eb0de1a2102ed897b3a08bad05cdae03ce"), looks := true }, kinds := [], alts := [], laidByText := true, laidKinds := [.data, .data, .data, .sentinel, .sentinel], laidTests := true, laidLooks := .later }
def ExprBackUptoCardSaid : Prop := Claim7.holds Tryd.pinned (.plain (OpenSpec.upto exprBackSpec)) exprBackUptoCard

/-- THE SECOND FORM's CARD OF 'stetlaw02.WordsSplit'. -/
def wordsSplitUptoCard : Claim7 := { stood := { row := wordsSplitUptoRow, standIns := [], harness := (true, "49c91fd32d4363aab233f07d455714eb0de1a2102ed897b3a08bad05cdae03ce"), looks := true }, kinds := [], alts := [], laidByText := true, laidKinds := [.data, .data, .data, .data, .sentinel, .sentinel, .pinned], laidTests := true, laidLooks := .later }
def WordsSplitUptoCardSaid : Prop := Claim7.holds Tryd.pinned (.plain (OpenSpec.upto wordsSplitSpec)) wordsSplitUptoCard
end Rows
end Go.Proofs.YtijpdbjcmnpobaaDoor

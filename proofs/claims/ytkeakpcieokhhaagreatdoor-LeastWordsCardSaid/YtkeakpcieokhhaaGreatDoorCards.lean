/-
  DERIVED. GIVEN WITH THE SEED: THE CARDS: each row of YtkeakpcieokhhaaGreatDoorRows.lean that lists a variable, with what it lists TIED to the program's text (the seventh form; the later family's looks); each row that meets fmt, with fmt's text TOLD by the authors' own Lean function (tested against real Go, not proved from fmt's source: count such statements apart). THE CARD IS WHAT COUNTS. Prove the row's statement (the work); the ties are given (YtkeakpcieokhhaaGreatDoorTie.lean); close each card by the builder's one call (the guide's Derived/Test/ToyasCard.lean, 'card_holds'). Laid BY PROGRAM, IN A SANDBOX (cutbox-door.mjs). By AI agents, Wed Nov 11 2026. No macro, syntax, notation, axiom, sorry.
-/
import Derived.Test.YtkeakpcieokhhaaGreatDoorRows
import GoSem.ClaimSeven
namespace Go.Proofs.YtkeakpcieokhhaaGreatDoor
namespace Rows

/-- THE TIED CARD OF 'stetlaw09.LeastBest'. -/
def leastBestCard : Claim7 := { stood := { row := leastBestRow, standIns := [], harness := (true, "3c54eff5fcb949cd836fa22a364479d7f415ea830d06f47b07bf1b77f3c42aef"), looks := true }, kinds := [], alts := [], laidByText := true, laidKinds := [.data, .data, .data, .sentinel, .sentinel], laidTests := true, laidLooks := .later }
def LeastBestCardSaid : Prop := Claim7.holds Tryz.pinned (.plain (OpenSpec.ofChange leastBestSpec)) leastBestCard

/-- THE TIED CARD OF 'stetlaw09.LeastWords'. -/
def leastWordsCard : Claim7 := { stood := { row := leastWordsRow, standIns := [], harness := (true, "3c54eff5fcb949cd836fa22a364479d7f415ea830d06f47b07bf1b77f3c42aef"), looks := true }, kinds := [], alts := [], laidByText := true, laidKinds := [.data, .data, .data, .sentinel, .sentinel], laidTests := true, laidLooks := .later }
def LeastWordsCardSaid : Prop := Claim7.holds Tryz.pinned (.plain (OpenSpec.ofChange leastWordsSpec)) leastWordsCard

/-- THE SECOND FORM's CARD OF 'stetlaw09.LeastBest'. -/
def leastBestUptoCard : Claim7 := { stood := { row := leastBestUptoRow, standIns := [], harness := (true, "3c54eff5fcb949cd836fa22a364479d7f415ea830d06f47b07bf1b77f3c42aef"), looks := true }, kinds := [], alts := [], laidByText := true, laidKinds := [.data, .data, .data, .sentinel, .sentinel], laidTests := true, laidLooks := .later }
def LeastBestUptoCardSaid : Prop := Claim7.holds Tryz.pinned (.plain (OpenSpec.upto leastBestSpec)) leastBestUptoCard

/-- THE SECOND FORM's CARD OF 'stetlaw09.LeastWords'. -/
def leastWordsUptoCard : Claim7 := { stood := { row := leastWordsUptoRow, standIns := [], harness := (true, "3c54eff5fcb949cd836fa22a364479d7f415ea830d06f47b07bf1b77f3c42aef"), looks := true }, kinds := [], alts := [], laidByText := true, laidKinds := [.data, .data, .data, .sentinel, .sentinel], laidTests := true, laidLooks := .later }
def LeastWordsUptoCardSaid : Prop := Claim7.holds Tryz.pinned (.plain (OpenSpec.upto leastWordsSpec)) leastWordsUptoCard
end Rows
end Go.Proofs.YtkeakpcieokhhaaGreatDoor

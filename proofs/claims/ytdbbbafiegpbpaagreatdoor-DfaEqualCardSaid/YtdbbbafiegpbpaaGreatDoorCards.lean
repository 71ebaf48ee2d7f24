/-
  DERIVED. GIVEN WITH THE SEED: THE CARDS: each row of YtdbbbafiegpbpaaGreatDoorRows.lean that lists a variable, with what it lists TIED to the program's text (the seventh form; the later family's looks); each row that meets fmt, with fmt's text TOLD by the authors' own Lean function (tested against real Go, not proved from fmt's source: count such statements apart). THE CARD IS WHAT COUNTS. Prove the row's statement (the work); the ties are given (YtdbbbafiegpbpaaGreatDoorTie.lean); close each card by the builder's one call (the guide's Derived/Test/ToyasCard.lean, 'card_holds'). Laid BY PROGRAM, IN A SANDBOX (cutbox-door.mjs). By AI agents, Wed Nov 11 2026. No macro, syntax, notation, axiom, sorry.
-/
import Derived.Test.YtdbbbafiegpbpaaGreatDoorRows
import GoSem.ClaimSeven
namespace Go.Proofs.YtdbbbafiegpbpaaGreatDoor
namespace Rows

/-- THE TIED CARD OF 'stetlaw08.DfaEqual'. -/
def dfaEqualCard : Claim7 := { stood := { row := dfaEqualRow, standIns := [], harness := (true, "01d1fcb8ea7c07aaefb9bd27ff1cb4e70c96beb28eaec875a28b17e647602a33"), looks := true }, kinds := [], alts := [], laidByText := true, laidKinds := [.data, .data, .data, .sentinel, .sentinel], laidTests := true, laidLooks := .later }
def DfaEqualCardSaid : Prop := Claim7.holds Tryz.pinned (.plain (OpenSpec.ofChange dfaEqualSpec)) dfaEqualCard

/-- THE TIED CARD OF 'stetlaw08.DfaStates'. -/
def dfaStatesCard : Claim7 := { stood := { row := dfaStatesRow, standIns := [], harness := (true, "01d1fcb8ea7c07aaefb9bd27ff1cb4e70c96beb28eaec875a28b17e647602a33"), looks := true }, kinds := [], alts := [], laidByText := true, laidKinds := [.data, .data, .data, .sentinel, .sentinel], laidTests := true, laidLooks := .later }
def DfaStatesCardSaid : Prop := Claim7.holds Tryz.pinned (.plain (OpenSpec.ofChange dfaStatesSpec)) dfaStatesCard

/-- THE TIED CARD OF 'stetlaw08.DfaRuns'. -/
def dfaRunsCard : Claim7 := { stood := { row := dfaRunsRow, standIns := [], harness := (true, "01d1fcb8ea7c07aaefb9bd27ff1cb4e70c96beb28eaec875a28b17e647602a33"), looks := true }, kinds := [], alts := [], laidByText := true, laidKinds := [.data, .data, .data, .sentinel, .sentinel], laidTests := true, laidLooks := .later }
def DfaRunsCardSaid : Prop := Claim7.holds Tryz.pinned (.plain (OpenSpec.ofChange dfaRunsSpec)) dfaRunsCard

/-- THE SECOND FORM's CARD OF 'stetlaw08.DfaEqual'. -/
def dfaEqualUptoCard : Claim7 := { stood := { row := dfaEqualUptoRow, standIns := [], harness := (true, "01d1fcb8ea7c07aaefb9bd27ff1cb4e70c96beb28eaec875a28b17e647602a33"), looks := true }, kinds := [], alts := [], laidByText := true, laidKinds := [.data, .data, .data, .sentinel, .sentinel], laidTests := true, laidLooks := .later }
def DfaEqualUptoCardSaid : Prop := Claim7.holds Tryz.pinned (.plain (OpenSpec.upto dfaEqualSpec)) dfaEqualUptoCard

/-- THE SECOND FORM's CARD OF 'stetlaw08.DfaStates'. -/
def dfaStatesUptoCard : Claim7 := { stood := { row := dfaStatesUptoRow, standIns := [], harness := (true, "01d1fcb8ea7c07aaefb9bd27ff1cb4e70c96beb28eaec875a28b17e647602a33"), looks := true }, kinds := [], alts := [], laidByText := true, laidKinds := [.data, .data, .data, .sentinel, .sentinel], laidTests := true, laidLooks := .later }
def DfaStatesUptoCardSaid : Prop := Claim7.holds Tryz.pinned (.plain (OpenSpec.upto dfaStatesSpec)) dfaStatesUptoCard

/-- THE SECOND FORM's CARD OF 'stetlaw08.DfaRuns'. -/
def dfaRunsUptoCard : Claim7 := { stood := { row := dfaRunsUptoRow, standIns := [], harness := (true, "01d1fcb8ea7c07aaefb9bd27ff1cb4e70c96beb28eaec875a28b17e647602a33"), looks := true }, kinds := [], alts := [], laidByText := true, laidKinds := [.data, .data, .data, .sentinel, .sentinel], laidTests := true, laidLooks := .later }
def DfaRunsUptoCardSaid : Prop := Claim7.holds Tryz.pinned (.plain (OpenSpec.upto dfaRunsSpec)) dfaRunsUptoCard
end Rows
end Go.Proofs.YtdbbbafiegpbpaaGreatDoor

/-
  DERIVED. GIVEN WITH THE SEED: THE CARDS: each row of YtkeeipfglmpgjaaDoorRows.lean that lists a variable, with what it lists TIED to the program's text (the seventh form; the later family's looks); each row that meets fmt, with fmt's text TOLD by the authors' own Lean function (tested against real Go, not proved from fmt's source: count such statements apart). THE CARD IS WHAT COUNTS. Prove the row's statement (the work); the ties are given (YtkeeipfglmpgjaaDoorTie.lean); close each card by the builder's one call (the guide's Derived/Test/ToyasCard.lean, 'card_holds'). Laid BY PROGRAM, IN A SANDBOX (cutbox-door.mjs). By AI agents, Wed Nov 11 2026. No macro, syntax, notation, axiom, sorry.
-/
import Derived.Test.YtkeeipfglmpgjaaDoorRows
import GoSem.ClaimSeven
namespace Go.Proofs.YtkeeipfglmpgjaaDoor
namespace Rows

/-- THE TIED CARD OF 'stetlaw03.BagAll'. -/
def bagAllCard : Claim7 := { stood := { row := bagAllRow, standIns := [], harness := (true, "4baf5bc6f7503e8e39d9d71e163054aad869fd09237da4cfe1f733947d12be7d"), looks := false }, kinds := [], alts := [], laidByText := true, laidKinds := [.data], laidTests := true, laidLooks := .later }
def BagAllCardSaid : Prop := Claim7.holds Tryd.pinned (.plain (OpenSpec.ofChange bagAllSpec)) bagAllCard

/-- THE TIED CARD OF 'stetlaw03.BagHas'. -/
def bagHasCard : Claim7 := { stood := { row := bagHasRow, standIns := [], harness := (true, "4baf5bc6f7503e8e39d9d71e163054aad869fd09237da4cfe1f733947d12be7d"), looks := false }, kinds := [], alts := [], laidByText := true, laidKinds := [.data], laidTests := true, laidLooks := .later }
def BagHasCardSaid : Prop := Claim7.holds Tryd.pinned (.plain (OpenSpec.ofChange bagHasSpec)) bagHasCard

/-- THE TIED CARD OF 'stetlaw03.BagTwo'. -/
def bagTwoCard : Claim7 := { stood := { row := bagTwoRow, standIns := [], harness := (true, "4baf5bc6f7503e8e39d9d71e163054aad869fd09237da4cfe1f733947d12be7d"), looks := false }, kinds := [], alts := [], laidByText := true, laidKinds := [.data], laidTests := true, laidLooks := .later }
def BagTwoCardSaid : Prop := Claim7.holds Tryd.pinned (.plain (OpenSpec.ofChange bagTwoSpec)) bagTwoCard

/-- THE SECOND FORM's CARD OF 'stetlaw03.BagAll'. -/
def bagAllUptoCard : Claim7 := { stood := { row := bagAllUptoRow, standIns := [], harness := (true, "4baf5bc6f7503e8e39d9d71e163054aad869fd09237da4cfe1f733947d12be7d"), looks := false }, kinds := [], alts := [], laidByText := true, laidKinds := [.data], laidTests := true, laidLooks := .later }
def BagAllUptoCardSaid : Prop := Claim7.holds Tryd.pinned (.plain (OpenSpec.upto bagAllSpec)) bagAllUptoCard

/-- THE SECOND FORM's CARD OF 'stetlaw03.BagHas'. -/
def bagHasUptoCard : Claim7 := { stood := { row := bagHasUptoRow, standIns := [], harness := (true, "4baf5bc6f7503e8e39d9d71e163054aad869fd09237da4cfe1f733947d12be7d"), looks := false }, kinds := [], alts := [], laidByText := true, laidKinds := [.data], laidTests := true, laidLooks := .later }
def BagHasUptoCardSaid : Prop := Claim7.holds Tryd.pinned (.plain (OpenSpec.upto bagHasSpec)) bagHasUptoCard

/-- THE SECOND FORM's CARD OF 'stetlaw03.BagTwo'. -/
def bagTwoUptoCard : Claim7 := { stood := { row := bagTwoUptoRow, standIns := [], harness := (true, "4baf5bc6f7503e8e39d9d71e163054aad869fd09237da4cfe1f733947d12be7d"), looks := false }, kinds := [], alts := [], laidByText := true, laidKinds := [.data], laidTests := true, laidLooks := .later }
def BagTwoUptoCardSaid : Prop := Claim7.holds Tryd.pinned (.plain (OpenSpec.upto bagTwoSpec)) bagTwoUptoCard
end Rows
end Go.Proofs.YtkeeipfglmpgjaaDoor

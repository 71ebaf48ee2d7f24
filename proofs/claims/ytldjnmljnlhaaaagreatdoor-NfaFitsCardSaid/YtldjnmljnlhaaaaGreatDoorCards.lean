/-
  DERIVED. GIVEN WITH THE SEED: THE CARDS: each row of YtldjnmljnlhaaaaGreatDoorRows.lean that lists a variable, with what it lists TIED to the program's text (the seventh form; the later family's looks); each row that meets fmt, with fmt's text TOLD by the authors' own Lean function (tested against real Go, not proved from fmt's source: count such statements apart). THE CARD IS WHAT COUNTS. Prove the row's statement (the work); the ties are given (YtldjnmljnlhaaaaGreatDoorTie.lean); close each card by the builder's one call (the guide's Derived/Test/ToyasCard.lean, 'card_holds'). Laid BY PROGRAM, IN A SANDBOX (cutbox-door.mjs). By AI agents, Wed Nov 11 2026. No macro, syntax, notation, axiom, sorry.
-/
import Derived.Test.YtldjnmljnlhaaaaGreatDoorRows
import GoSem.ClaimSeven
namespace Go.Proofs.YtldjnmljnlhaaaaGreatDoor
namespace Rows

/-- THE TIED CARD OF 'stetlaw07.NfaRefuses'. -/
def nfaRefusesCard : Claim7 := { stood := { row := nfaRefusesRow, standIns := [], harness := (true, "b319d85e5ed825fb66a764728f359ca558fcdb1fcd3767dee9bccf558eff2c99"), looks := true }, kinds := [], alts := [], laidByText := true, laidKinds := [.data, .data, .data, .sentinel, .sentinel], laidTests := true, laidLooks := .later }
def NfaRefusesCardSaid : Prop := Claim7.holds Tryz.pinned (.plain (OpenSpec.ofChange nfaRefusesSpec)) nfaRefusesCard

/-- THE TIED CARD OF 'stetlaw07.NfaFits'. -/
def nfaFitsCard : Claim7 := { stood := { row := nfaFitsRow, standIns := [], harness := (true, "b319d85e5ed825fb66a764728f359ca558fcdb1fcd3767dee9bccf558eff2c99"), looks := true }, kinds := [], alts := [], laidByText := true, laidKinds := [.data, .data, .data, .sentinel, .sentinel], laidTests := true, laidLooks := .later }
def NfaFitsCardSaid : Prop := Claim7.holds Tryz.pinned (.plain (OpenSpec.ofChange nfaFitsSpec)) nfaFitsCard

/-- THE TIED CARD OF 'stetlaw07.NfaPlaces'. -/
def nfaPlacesCard : Claim7 := { stood := { row := nfaPlacesRow, standIns := [], harness := (true, "b319d85e5ed825fb66a764728f359ca558fcdb1fcd3767dee9bccf558eff2c99"), looks := true }, kinds := [], alts := [], laidByText := true, laidKinds := [.data, .data, .data, .sentinel, .sentinel], laidTests := true, laidLooks := .later }
def NfaPlacesCardSaid : Prop := Claim7.holds Tryz.pinned (.plain (OpenSpec.ofChange nfaPlacesSpec)) nfaPlacesCard

/-- THE SECOND FORM's CARD OF 'stetlaw07.NfaRefuses'. -/
def nfaRefusesUptoCard : Claim7 := { stood := { row := nfaRefusesUptoRow, standIns := [], harness := (true, "b319d85e5ed825fb66a764728f359ca558fcdb1fcd3767dee9bccf558eff2c99"), looks := true }, kinds := [], alts := [], laidByText := true, laidKinds := [.data, .data, .data, .sentinel, .sentinel], laidTests := true, laidLooks := .later }
def NfaRefusesUptoCardSaid : Prop := Claim7.holds Tryz.pinned (.plain (OpenSpec.upto nfaRefusesSpec)) nfaRefusesUptoCard

/-- THE SECOND FORM's CARD OF 'stetlaw07.NfaFits'. -/
def nfaFitsUptoCard : Claim7 := { stood := { row := nfaFitsUptoRow, standIns := [], harness := (true, "b319d85e5ed825fb66a764728f359ca558fcdb1fcd3767dee9bccf558eff2c99"), looks := true }, kinds := [], alts := [], laidByText := true, laidKinds := [.data, .data, .data, .sentinel, .sentinel], laidTests := true, laidLooks := .later }
def NfaFitsUptoCardSaid : Prop := Claim7.holds Tryz.pinned (.plain (OpenSpec.upto nfaFitsSpec)) nfaFitsUptoCard

/-- THE SECOND FORM's CARD OF 'stetlaw07.NfaPlaces'. -/
def nfaPlacesUptoCard : Claim7 := { stood := { row := nfaPlacesUptoRow, standIns := [], harness := (true, "b319d85e5ed825fb66a764728f359ca558fcdb1fcd3767dee9bccf558eff2c99"), looks := true }, kinds := [], alts := [], laidByText := true, laidKinds := [.data, .data, .data, .sentinel, .sentinel], laidTests := true, laidLooks := .later }
def NfaPlacesUptoCardSaid : Prop := Claim7.holds Tryz.pinned (.plain (OpenSpec.upto nfaPlacesSpec)) nfaPlacesUptoCard
end Rows
end Go.Proofs.YtldjnmljnlhaaaaGreatDoor

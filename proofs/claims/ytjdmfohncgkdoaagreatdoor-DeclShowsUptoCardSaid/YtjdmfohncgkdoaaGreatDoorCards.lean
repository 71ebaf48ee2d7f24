/-
  DERIVED. GIVEN WITH THE SEED: THE CARDS: each row of YtjdmfohncgkdoaaGreatDoorRows.lean that lists a variable, with what it lists TIED to the program's text (the seventh form; the later family's looks); each row that meets fmt, with fmt's text TOLD by the authors' own Lean function (tested against real Go, not proved from fmt's source: count such statements apart). THE CARD IS WHAT COUNTS. Prove the row's statement (the work); the ties are given (YtjdmfohncgkdoaaGreatDoorTie.lean); close each card by the builder's one call (the guide's Derived/Test/ToyasCard.lean, 'card_holds'). Laid BY PROGRAM, IN A SANDBOX (cutbox-door.mjs). By AI agents, Wed Nov 11 2026. No macro, syntax, notation, axiom, sorry.
-/
import Derived.Test.YtjdmfohncgkdoaaGreatDoorRows
import GoSem.ClaimSeven
namespace Go.Proofs.YtjdmfohncgkdoaaGreatDoor
namespace Rows

/-- THE TIED CARD OF 'stetlaw10.DeclParses'. -/
def declParsesCard : Claim7 := { stood := { row := declParsesRow, standIns := [], harness := (true, "8a8ad345919083682b628cf45f1d76b4f177280728af3406a7bb7574cf3b2be0"), looks := true }, kinds := [], alts := [], laidByText := true, laidKinds := [.data, .data, .data, .data, .sentinel, .sentinel, .pinned], laidTests := true, laidLooks := .later }
def DeclParsesCardSaid : Prop := Claim7.holds Tryz.pinned (.plain (OpenSpec.ofChange declParsesSpec)) declParsesCard

/-- THE TIED CARD OF 'stetlaw10.DeclShows'. -/
def declShowsCard : Claim7 := { stood := { row := declShowsRow, standIns := [], harness := (true, "8a8ad345919083682b628cf45f1d76b4f177280728af3406a7bb7574cf3b2be0"), looks := true }, kinds := [], alts := [], laidByText := true, laidKinds := [.data, .data, .data, .data, .sentinel, .sentinel, .pinned], laidTests := true, laidLooks := .later }
def DeclShowsCardSaid : Prop := Claim7.holds Tryz.pinned (.plain (OpenSpec.ofChange declShowsSpec)) declShowsCard

/-- THE TIED CARD OF 'stetlaw10.DeclBack'. -/
def declBackCard : Claim7 := { stood := { row := declBackRow, standIns := [], harness := (true, "8a8ad345919083682b628cf45f1d76b4f177280728af3406a7bb7574cf3b2be0"), looks := true }, kinds := [], alts := [], laidByText := true, laidKinds := [.data, .data, .data, .data, .sentinel, .sentinel, .pinned], laidTests := true, laidLooks := .later }
def DeclBackCardSaid : Prop := Claim7.holds Tryz.pinned (.plain (OpenSpec.ofChange declBackSpec)) declBackCard

/-- THE SECOND FORM's CARD OF 'stetlaw10.DeclParses'. -/
def declParsesUptoCard : Claim7 := { stood := { row := declParsesUptoRow, standIns := [], harness := (true, "8a8ad345919083682b628cf45f1d76b4f177280728af3406a7bb7574cf3b2be0"), looks := true }, kinds := [], alts := [], laidByText := true, laidKinds := [.data, .data, .data, .data, .sentinel, .sentinel, .pinned], laidTests := true, laidLooks := .later }
def DeclParsesUptoCardSaid : Prop := Claim7.holds Tryz.pinned (.plain (OpenSpec.upto declParsesSpec)) declParsesUptoCard

/-- THE SECOND FORM's CARD OF 'stetlaw10.DeclShows'. -/
def declShowsUptoCard : Claim7 := { stood := { row := declShowsUptoRow, standIns := [], harness := (true, "8a8ad345919083682b628cf45f1d76b4f177280728af3406a7bb7574cf3b2be0"), looks := true }, kinds := [], alts := [], laidByText := true, laidKinds := [.data, .data, .data, .data, .sentinel, .sentinel, .pinned], laidTests := true, laidLooks := .later }
def DeclShowsUptoCardSaid : Prop := Claim7.holds Tryz.pinned (.plain (OpenSpec.upto declShowsSpec)) declShowsUptoCard

/-- THE SECOND FORM's CARD OF 'stetlaw10.DeclBack'. -/
def declBackUptoCard : Claim7 := { stood := { row := declBackUptoRow, standIns := [], harness := (true, "8a8ad345919083682b628cf45f1d76b4f177280728af3406a7bb7574cf3b2be0"), looks := true }, kinds := [], alts := [], laidByText := true, laidKinds := [.data, .data, .data, .data, .sentinel, .sentinel, .pinned], laidTests := true, laidLooks := .later }
def DeclBackUptoCardSaid : Prop := Claim7.holds Tryz.pinned (.plain (OpenSpec.upto declBackSpec)) declBackUptoCard
end Rows
end Go.Proofs.YtjdmfohncgkdoaaGreatDoor

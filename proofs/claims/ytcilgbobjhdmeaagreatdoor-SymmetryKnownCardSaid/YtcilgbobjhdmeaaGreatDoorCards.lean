/-
  DERIVED. GIVEN WITH THE SEED: THE CARDS: each row of YtcilgbobjhdmeaaGreatDoorRows.lean that lists a variable, with what it lists TIED to the program's text (the seventh form; the later family's looks); each row that meets fmt, with fmt's text TOLD by the authors' own Lean function (tested against real Go, not proved from fmt's source: count such statements apart). THE CARD IS WHAT COUNTS. Prove the row's statement (the work); the ties are given (YtcilgbobjhdmeaaGreatDoorTie.lean); close each card by the builder's one call (the guide's Derived/Test/ToyasCard.lean, 'card_holds'). Laid BY PROGRAM, IN A SANDBOX (cutbox-door.mjs). By AI agents, Wed Nov 11 2026. No macro, syntax, notation, axiom, sorry.
-/
import Derived.Test.YtcilgbobjhdmeaaGreatDoorRows
import GoSem.ClaimSeven
namespace Go.Proofs.YtcilgbobjhdmeaaGreatDoor
namespace Rows

/-- THE TIED CARD OF 'foliotlaw22.SymmetryKnown'. -/
def symmetryKnownCard : Claim7 := { stood := { row := symmetryKnownRow, standIns := [], harness := (true, "8559f9cf03a9bd4b939e10e16714306f74d0301b029e5aa86bedc8fd103e43d6"), looks := true }, kinds := [], alts := [], laidByText := true, laidKinds := [.data, .data, .data, .funcs], laidTests := true, laidLooks := .later }
def SymmetryKnownCardSaid : Prop := Claim7.holds Tryz.pinned (.plain (OpenSpec.ofChange symmetryKnownSpec)) symmetryKnownCard

/-- THE SECOND FORM's CARD OF 'foliotlaw22.SymmetryKnown'. -/
def symmetryKnownUptoCard : Claim7 := { stood := { row := symmetryKnownUptoRow, standIns := [], harness := (true, "8559f9cf03a9bd4b939e10e16714306f74d0301b029e5aa86bedc8fd103e43d6"), looks := true }, kinds := [], alts := [], laidByText := true, laidKinds := [.data, .data, .data, .funcs], laidTests := true, laidLooks := .later }
def SymmetryKnownUptoCardSaid : Prop := Claim7.holds Tryz.pinned (.plain (OpenSpec.upto symmetryKnownSpec)) symmetryKnownUptoCard
end Rows
end Go.Proofs.YtcilgbobjhdmeaaGreatDoor

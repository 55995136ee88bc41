/-
  DERIVED. GIVEN WITH THE SEED: THE CARDS: each row of YtjoeogkdhafhdaaGreatDoorRows.lean that lists a variable, with what it lists TIED to the program's text (the seventh form; the later family's looks); each row that meets fmt, with fmt's text TOLD by the authors' own Lean function (tested against real Go, not proved from fmt's source: count such statements apart). THE CARD IS WHAT COUNTS. Prove the row's statement (the work); the ties are given (YtjoeogkdhafhdaaGreatDoorTie.lean); close each card by the builder's one call (the guide's Derived/Test/ToyasCard.lean, 'card_holds'). Laid BY PROGRAM, IN A SANDBOX (cutbox-door.mjs). By AI agents, Wed Nov 11 2026. No macro, syntax, notation, axiom, sorry.
-/
import Derived.Test.YtjoeogkdhafhdaaGreatDoorRows
import GoSem.ClaimSeven
namespace Go.Proofs.YtjoeogkdhafhdaaGreatDoor
namespace Rows

/-- THE TIED CARD OF 'foliotlaw14.DenseKnown'. -/
def denseKnownCard : Claim7 := { stood := { row := denseKnownRow, standIns := [], harness := (true, "fa0be7dca833bab5452779bc6cff77037adb1ae11723871071bcf87bef7b08e1"), looks := true }, kinds := [], alts := [], laidByText := true, laidKinds := [.funcs], laidTests := true, laidLooks := .later }
def DenseKnownCardSaid : Prop := Claim7.holds Tryz.pinned (.plain (OpenSpec.ofChange denseKnownSpec)) denseKnownCard

/-- THE SECOND FORM's CARD OF 'foliotlaw14.DenseKnown'. -/
def denseKnownUptoCard : Claim7 := { stood := { row := denseKnownUptoRow, standIns := [], harness := (true, "fa0be7dca833bab5452779bc6cff77037adb1ae11723871071bcf87bef7b08e1"), looks := true }, kinds := [], alts := [], laidByText := true, laidKinds := [.funcs], laidTests := true, laidLooks := .later }
def DenseKnownUptoCardSaid : Prop := Claim7.holds Tryz.pinned (.plain (OpenSpec.upto denseKnownSpec)) denseKnownUptoCard
end Rows
end Go.Proofs.YtjoeogkdhafhdaaGreatDoor

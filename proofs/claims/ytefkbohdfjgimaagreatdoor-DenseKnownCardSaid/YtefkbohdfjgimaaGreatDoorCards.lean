/-
  DERIVED. GIVEN WITH THE SEED: THE CARDS: each row of YtefkbohdfjgimaaGreatDoorRows.lean that lists a variable, with what it lists TIED to the program's text (the seventh form; the later family's looks); each row that meets fmt, with fmt's text TOLD by the authors' own Lean function (tested against real Go, not proved from fmt's source: count such statements apart). THE CARD IS WHAT COUNTS. Prove the row's statement (the work); the ties are given (YtefkbohdfjgimaaGreatDoorTie.lean); close each card by the builder's one call (the guide's Derived/Test/ToyasCard.lean, 'card_holds'). Laid BY PROGRAM, IN A SANDBOX (cutbox-door.mjs). By AI agents, Wed Nov 11 2026. No macro, syntax, notation, axiom, sorry.
-/
import Derived.Test.YtefkbohdfjgimaaGreatDoorRows
import GoSem.ClaimSeven
namespace Go.Proofs.YtefkbohdfjgimaaGreatDoor
namespace Rows

/-- THE TIED CARD OF 'foliotlaw14.DenseKnown'. -/
def denseKnownCard : Claim7 := { stood := { row := denseKnownRow, standIns := [], harness := (true, "5e5e87bd3bf8f0476ede626a69fed2b67f9c09bcc398082f3fe596d4363d83d0"), looks := true }, kinds := [], alts := [], laidByText := true, laidKinds := [.funcs], laidTests := true, laidLooks := .later }
def DenseKnownCardSaid : Prop := Claim7.holds Tryz.pinned (.plain (OpenSpec.ofChange denseKnownSpec)) denseKnownCard

/-- THE TIED CARD OF 'foliotlaw19.RegionKnown'. -/
def regionKnownCard : Claim7 := { stood := { row := regionKnownRow, standIns := [], harness := (true, "5e5e87bd3bf8f0476ede626a69fed2b67f9c09bcc398082f3fe596d4363d83d0"), looks := true }, kinds := [], alts := [], laidByText := true, laidKinds := [.data, .data, .data], laidTests := true, laidLooks := .later }
def RegionKnownCardSaid : Prop := Claim7.holds Tryz.pinned (.plain (OpenSpec.ofChange regionKnownSpec)) regionKnownCard

/-- THE SECOND FORM's CARD OF 'foliotlaw14.DenseKnown'. -/
def denseKnownUptoCard : Claim7 := { stood := { row := denseKnownUptoRow, standIns := [], harness := (true, "5e5e87bd3bf8f0476ede626a69fed2b67f9c09bcc398082f3fe596d4363d83d0"), looks := true }, kinds := [], alts := [], laidByText := true, laidKinds := [.funcs], laidTests := true, laidLooks := .later }
def DenseKnownUptoCardSaid : Prop := Claim7.holds Tryz.pinned (.plain (OpenSpec.upto denseKnownSpec)) denseKnownUptoCard

/-- THE SECOND FORM's CARD OF 'foliotlaw19.RegionKnown'. -/
def regionKnownUptoCard : Claim7 := { stood := { row := regionKnownUptoRow, standIns := [], harness := (true, "5e5e87bd3bf8f0476ede626a69fed2b67f9c09bcc398082f3fe596d4363d83d0"), looks := true }, kinds := [], alts := [], laidByText := true, laidKinds := [.data, .data, .data], laidTests := true, laidLooks := .later }
def RegionKnownUptoCardSaid : Prop := Claim7.holds Tryz.pinned (.plain (OpenSpec.upto regionKnownSpec)) regionKnownUptoCard
end Rows
end Go.Proofs.YtefkbohdfjgimaaGreatDoor

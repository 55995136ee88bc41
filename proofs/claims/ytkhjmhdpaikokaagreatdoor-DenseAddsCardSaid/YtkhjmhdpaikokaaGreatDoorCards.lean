/-
  DERIVED. GIVEN WITH THE SEED: THE CARDS: each row of YtkhjmhdpaikokaaGreatDoorRows.lean that lists a variable, with what it lists TIED to the program's text (the seventh form; the later family's looks); each row that meets fmt, with fmt's text TOLD by the authors' own Lean function (tested against real Go, not proved from fmt's source: count such statements apart). THE CARD IS WHAT COUNTS. Prove the row's statement (the work); the ties are given (YtkhjmhdpaikokaaGreatDoorTie.lean); close each card by the builder's one call (the guide's Derived/Test/ToyasCard.lean, 'card_holds'). Laid BY PROGRAM, IN A SANDBOX (cutbox-door.mjs). By AI agents, Wed Nov 11 2026. No macro, syntax, notation, axiom, sorry.
-/
import Derived.Test.YtkhjmhdpaikokaaGreatDoorRows
import GoSem.ClaimSeven
namespace Go.Proofs.YtkhjmhdpaikokaaGreatDoor
namespace Rows

/-- THE TIED CARD OF 'foliotlaw14.DenseStarts'. -/
def denseStartsCard : Claim7 := { stood := { row := denseStartsRow, standIns := [], harness := (true, "35f5cbd0a6a6b26f564d2fb78937a1cb0b8cec7dfe91deed603da658614e7acd"), looks := true }, kinds := [], alts := [], laidByText := true, laidKinds := [.funcs], laidTests := true, laidLooks := .later }
def DenseStartsCardSaid : Prop := Claim7.holds Tryz.pinned (.plain (OpenSpec.ofChange denseStartsSpec)) denseStartsCard

/-- THE TIED CARD OF 'foliotlaw14.DenseWaits'. -/
def denseWaitsCard : Claim7 := { stood := { row := denseWaitsRow, standIns := [], harness := (true, "35f5cbd0a6a6b26f564d2fb78937a1cb0b8cec7dfe91deed603da658614e7acd"), looks := true }, kinds := [], alts := [], laidByText := true, laidKinds := [.funcs], laidTests := true, laidLooks := .later }
def DenseWaitsCardSaid : Prop := Claim7.holds Tryz.pinned (.plain (OpenSpec.ofChange denseWaitsSpec)) denseWaitsCard

/-- THE TIED CARD OF 'foliotlaw14.DenseAdds'. -/
def denseAddsCard : Claim7 := { stood := { row := denseAddsRow, standIns := [], harness := (true, "35f5cbd0a6a6b26f564d2fb78937a1cb0b8cec7dfe91deed603da658614e7acd"), looks := true }, kinds := [], alts := [], laidByText := true, laidKinds := [.funcs], laidTests := true, laidLooks := .later }
def DenseAddsCardSaid : Prop := Claim7.holds Tryz.pinned (.plain (OpenSpec.ofChange denseAddsSpec)) denseAddsCard

/-- THE SECOND FORM's CARD OF 'foliotlaw14.DenseStarts'. -/
def denseStartsUptoCard : Claim7 := { stood := { row := denseStartsUptoRow, standIns := [], harness := (true, "35f5cbd0a6a6b26f564d2fb78937a1cb0b8cec7dfe91deed603da658614e7acd"), looks := true }, kinds := [], alts := [], laidByText := true, laidKinds := [.funcs], laidTests := true, laidLooks := .later }
def DenseStartsUptoCardSaid : Prop := Claim7.holds Tryz.pinned (.plain (OpenSpec.upto denseStartsSpec)) denseStartsUptoCard

/-- THE SECOND FORM's CARD OF 'foliotlaw14.DenseWaits'. -/
def denseWaitsUptoCard : Claim7 := { stood := { row := denseWaitsUptoRow, standIns := [], harness := (true, "35f5cbd0a6a6b26f564d2fb78937a1cb0b8cec7dfe91deed603da658614e7acd"), looks := true }, kinds := [], alts := [], laidByText := true, laidKinds := [.funcs], laidTests := true, laidLooks := .later }
def DenseWaitsUptoCardSaid : Prop := Claim7.holds Tryz.pinned (.plain (OpenSpec.upto denseWaitsSpec)) denseWaitsUptoCard

/-- THE SECOND FORM's CARD OF 'foliotlaw14.DenseAdds'. -/
def denseAddsUptoCard : Claim7 := { stood := { row := denseAddsUptoRow, standIns := [], harness := (true, "35f5cbd0a6a6b26f564d2fb78937a1cb0b8cec7dfe91deed603da658614e7acd"), looks := true }, kinds := [], alts := [], laidByText := true, laidKinds := [.funcs], laidTests := true, laidLooks := .later }
def DenseAddsUptoCardSaid : Prop := Claim7.holds Tryz.pinned (.plain (OpenSpec.upto denseAddsSpec)) denseAddsUptoCard
end Rows
end Go.Proofs.YtkhjmhdpaikokaaGreatDoor

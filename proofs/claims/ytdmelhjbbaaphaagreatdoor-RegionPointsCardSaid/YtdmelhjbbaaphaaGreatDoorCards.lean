/-
  DERIVED. GIVEN WITH THE SEED: THE CARDS: each row of YtdmelhjbbaaphaaGreatDoorRows.lean that lists a variable, with what it lists TIED to the program's text (the seventh form; the later family's looks); each row that meets fmt, with fmt's text TOLD by the authors' own Lean function (tested against real Go, not proved from fmt's source: count such statements apart). THE CARD IS WHAT COUNTS. Prove the row's statement (the work); the ties are given (YtdmelhjbbaaphaaGreatDoorTie.lean); close each card by the builder's one call (the guide's Derived/Test/ToyasCard.lean, 'card_holds'). Laid BY PROGRAM, IN A SANDBOX (cutbox-door.mjs). By AI agents, Wed Nov 11 2026. No macro, syntax, notation, axiom, sorry.
-/
import Derived.Test.YtdmelhjbbaaphaaGreatDoorRows
import GoSem.ClaimSeven
namespace Go.Proofs.YtdmelhjbbaaphaaGreatDoor
namespace Rows

/-- THE TIED CARD OF 'foliotlaw19.RegionCalls'. -/
def regionCallsCard : Claim7 := { stood := { row := regionCallsRow, standIns := [], harness := (true, "cba828a17011aece6a331186670014f0e6808eac9d44177dc68c491058e6ae28"), looks := true }, kinds := [], alts := [], laidByText := true, laidKinds := [.data, .data, .data], laidTests := true, laidLooks := .later }
def RegionCallsCardSaid : Prop := Claim7.holds Tryz.pinned (.plain (OpenSpec.ofChange regionCallsSpec)) regionCallsCard

/-- THE TIED CARD OF 'foliotlaw19.RegionPoints'. -/
def regionPointsCard : Claim7 := { stood := { row := regionPointsRow, standIns := [], harness := (true, "cba828a17011aece6a331186670014f0e6808eac9d44177dc68c491058e6ae28"), looks := true }, kinds := [], alts := [], laidByText := true, laidKinds := [.data, .data, .data], laidTests := true, laidLooks := .later }
def RegionPointsCardSaid : Prop := Claim7.holds Tryz.pinned (.plain (OpenSpec.ofChange regionPointsSpec)) regionPointsCard

/-- THE SECOND FORM's CARD OF 'foliotlaw19.RegionCalls'. -/
def regionCallsUptoCard : Claim7 := { stood := { row := regionCallsUptoRow, standIns := [], harness := (true, "cba828a17011aece6a331186670014f0e6808eac9d44177dc68c491058e6ae28"), looks := true }, kinds := [], alts := [], laidByText := true, laidKinds := [.data, .data, .data], laidTests := true, laidLooks := .later }
def RegionCallsUptoCardSaid : Prop := Claim7.holds Tryz.pinned (.plain (OpenSpec.upto regionCallsSpec)) regionCallsUptoCard

/-- THE SECOND FORM's CARD OF 'foliotlaw19.RegionPoints'. -/
def regionPointsUptoCard : Claim7 := { stood := { row := regionPointsUptoRow, standIns := [], harness := (true, "cba828a17011aece6a331186670014f0e6808eac9d44177dc68c491058e6ae28"), looks := true }, kinds := [], alts := [], laidByText := true, laidKinds := [.data, .data, .data], laidTests := true, laidLooks := .later }
def RegionPointsUptoCardSaid : Prop := Claim7.holds Tryz.pinned (.plain (OpenSpec.upto regionPointsSpec)) regionPointsUptoCard
end Rows
end Go.Proofs.YtdmelhjbbaaphaaGreatDoor

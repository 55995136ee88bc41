/-
  DERIVED. GIVEN WITH THE SEED: THE CARDS: each row of YtmimfnjcnndhpaaGreatDoorRows.lean that lists a variable, with what it lists TIED to the program's text (the seventh form; the later family's looks); each row that meets fmt, with fmt's text TOLD by the authors' own Lean function (tested against real Go, not proved from fmt's source: count such statements apart). THE CARD IS WHAT COUNTS. Prove the row's statement (the work); the ties are given (YtmimfnjcnndhpaaGreatDoorTie.lean); close each card by the builder's one call (the guide's Derived/Test/ToyasCard.lean, 'card_holds'). Laid BY PROGRAM, IN A SANDBOX (cutbox-door.mjs). By AI agents, Wed Nov 11 2026. No macro, syntax, notation, axiom, sorry.
-/
import Derived.Test.YtmimfnjcnndhpaaGreatDoorRows
import GoSem.ClaimSeven
namespace Go.Proofs.YtmimfnjcnndhpaaGreatDoor
namespace Rows

/-- THE TIED CARD OF 'foliotlaw19.RegionKnown'. -/
def regionKnownCard : Claim7 := { stood := { row := regionKnownRow, standIns := [], harness := (true, "925d238cf3d7ccd396a3afb0b27b99bf80df9469078f41fbb06c716b20f65906"), looks := true }, kinds := [], alts := [], laidByText := true, laidKinds := [.data, .data, .data], laidTests := true, laidLooks := .later }
def RegionKnownCardSaid : Prop := Claim7.holds Tryz.pinned (.plain (OpenSpec.ofChange regionKnownSpec)) regionKnownCard

/-- THE TIED CARD OF 'foliotlaw19.RegionCalls'. -/
def regionCallsCard : Claim7 := { stood := { row := regionCallsRow, standIns := [], harness := (true, "925d238cf3d7ccd396a3afb0b27b99bf80df9469078f41fbb06c716b20f65906"), looks := true }, kinds := [], alts := [], laidByText := true, laidKinds := [.data, .data, .data], laidTests := true, laidLooks := .later }
def RegionCallsCardSaid : Prop := Claim7.holds Tryz.pinned (.plain (OpenSpec.ofChange regionCallsSpec)) regionCallsCard

/-- THE SECOND FORM's CARD OF 'foliotlaw19.RegionKnown'. -/
def regionKnownUptoCard : Claim7 := { stood := { row := regionKnownUptoRow, standIns := [], harness := (true, "925d238cf3d7ccd396a3afb0b27b99bf80df9469078f41fbb06c716b20f65906"), looks := true }, kinds := [], alts := [], laidByText := true, laidKinds := [.data, .data, .data], laidTests := true, laidLooks := .later }
def RegionKnownUptoCardSaid : Prop := Claim7.holds Tryz.pinned (.plain (OpenSpec.upto regionKnownSpec)) regionKnownUptoCard

/-- THE SECOND FORM's CARD OF 'foliotlaw19.RegionCalls'. -/
def regionCallsUptoCard : Claim7 := { stood := { row := regionCallsUptoRow, standIns := [], harness := (true, "925d238cf3d7ccd396a3afb0b27b99bf80df9469078f41fbb06c716b20f65906"), looks := true }, kinds := [], alts := [], laidByText := true, laidKinds := [.data, .data, .data], laidTests := true, laidLooks := .later }
def RegionCallsUptoCardSaid : Prop := Claim7.holds Tryz.pinned (.plain (OpenSpec.upto regionCallsSpec)) regionCallsUptoCard
end Rows
end Go.Proofs.YtmimfnjcnndhpaaGreatDoor

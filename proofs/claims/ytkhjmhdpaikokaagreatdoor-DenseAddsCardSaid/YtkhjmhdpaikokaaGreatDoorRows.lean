/-
  NARROWER THAN 'FOR EVERY INPUT', by the rows' own cells (each row's printed sentence says how): DenseStarts: loops, laid · DenseWaits: loops, laid · DenseAdds: loops, laid.
  DERIVED. THE GIVEN ROWS OF THIS SEAT. 3 by the template 'for every input the law returns true; each argument reads behind the call as it read before'; 0 by the template 'total and deterministic' (their statements: YtkhjmhdpaikokaaGreatDoorTotals.lean).
  GIVEN WITH THE SEED: the statements are not yours to turn. If you find one false, say at which input.
  Laid BY PROGRAM, IN A SANDBOX (cutbox-rows.mjs): the forced cells as the released guide's own fill.sh prints them over the translation 506a7a2a3cde209d… (all of the seat's roots in one cut). By AI agents, Wed Nov 11 2026. No macro, syntax, notation, axiom, sorry.
-/
import Derived.Test.YtkhjmhdpaikokaaGreatDoorChecked
import GoSem.Claim
import GoSem.ClaimJoined
import GoSem.ClaimMapViews
import Derived.JoinedTies
import Derived.KernelRfl
namespace Go.Proofs.YtkhjmhdpaikokaaGreatDoor
/- THE CELL 'sum', in the pinned program and in every row, IS THE sha256 OF THE DUMP (.gsa) THAT YtkhjmhdpaikokaaGreatDoorProg.lean LOADS. Nothing in Lean hashes anything: it is a label: what it is worth is what the hold of that sum in a sandbox is worth. -/
noncomputable def Tryz.pinned : Pinned := { name := "ytkhjmhdpaikokaagreatdoor", sum := "506a7a2a3cde209dfd1c01009c94c39c90cfd36dad44a3379143640d00477445", checked := Tryz.checked }
namespace Rows
def none {H : Type} : Left H := { results := [], args := [] }

/- WHAT THE LISTED PACKAGE-LEVEL VARIABLES READ AS WHEN THE CALL BEGINS. Each datum BY PROGRAM (the guide's laid-datum.mjs) off the statement by which the dump's own 'gosem.cut.vars' lays the variable. In a bare row this is a premise. The card (YtkhjmhdpaikokaaGreatDoorCards.lean) ties it to the program's text. -/
def laid_foliot_dense_comparisons {H : Type} : DataW H := .iface "func table" (.slice [.agg [.lit (.bool false), .lit (.bool false), .iface "func" (.lit (.string [102, 111, 108, 105, 111, 116, 47, 100, 101, 110, 115, 101, 46, 99, 111, 109, 112, 97, 114, 105, 115, 111, 110, 115, 36, 49]))], .agg [.lit (.bool false), .lit (.bool true), .iface "func" (.lit (.string [102, 111, 108, 105, 111, 116, 47, 100, 101, 110, 115, 101, 46, 99, 111, 109, 112, 97, 114, 105, 115, 111, 110, 115, 36, 50]))], .agg [.lit (.bool true), .lit (.bool false), .iface "func" (.lit (.string [102, 111, 108, 105, 111, 116, 47, 100, 101, 110, 115, 101, 46, 99, 111, 109, 112, 97, 114, 105, 115, 111, 110, 115, 36, 51]))], .agg [.lit (.bool true), .lit (.bool true), .iface "func" (.lit (.string [102, 111, 108, 105, 111, 116, 47, 100, 101, 110, 115, 101, 46, 99, 111, 109, 112, 97, 114, 105, 115, 111, 110, 115, 36, 52]))]] [])

/-- 'foliotlaw14.DenseStarts': WHATEVER THE INPUT: true; the input reads as it did. -/
def denseStartsSpec : ChangeSpec := { name := "denseStarts", fn := fun _ => fun
  | [d1, d2] => { results := [.lit (.bool true)], args := [d1, d2] }
  | _ => none }
def denseStartsRow : OpenClaim := { program := "ytkhjmhdpaikokaagreatdoor", sum := "506a7a2a3cde209dfd1c01009c94c39c90cfd36dad44a3379143640d00477445", func := "foliot/foliotlaw14.DenseStarts", spec := "denseStarts", unfollowed := true, recurses := true, named := ["foliot/dense.comparisons"], loops := true, apart := false, laid := [("foliot/dense.comparisons", laid_foliot_dense_comparisons)] }
def DenseStartsSaid : Prop := denseStartsRow.holds Tryz.pinned (OpenSpec.ofChange denseStartsSpec)

/-- ITS FALSE NEIGHBOUR: 'it returns false'. Refute it at one input. -/
def denseStartsWrong : ChangeSpec := { name := "denseStarts", fn := fun _ => fun
  | [d1, d2] => { results := [.lit (.bool false)], args := [d1, d2] }
  | _ => none }
def DenseStartsWrongFalsely : Prop := denseStartsRow.holds Tryz.pinned (OpenSpec.ofChange denseStartsWrong)

/-- 'foliotlaw14.DenseWaits': WHATEVER THE INPUT: true; the input reads as it did. -/
def denseWaitsSpec : ChangeSpec := { name := "denseWaits", fn := fun _ => fun
  | [d1, d2] => { results := [.lit (.bool true)], args := [d1, d2] }
  | _ => none }
def denseWaitsRow : OpenClaim := { program := "ytkhjmhdpaikokaagreatdoor", sum := "506a7a2a3cde209dfd1c01009c94c39c90cfd36dad44a3379143640d00477445", func := "foliot/foliotlaw14.DenseWaits", spec := "denseWaits", unfollowed := true, recurses := true, named := ["foliot/dense.comparisons"], loops := true, apart := false, laid := [("foliot/dense.comparisons", laid_foliot_dense_comparisons)] }
def DenseWaitsSaid : Prop := denseWaitsRow.holds Tryz.pinned (OpenSpec.ofChange denseWaitsSpec)

/-- ITS FALSE NEIGHBOUR: 'it returns false'. Refute it at one input. -/
def denseWaitsWrong : ChangeSpec := { name := "denseWaits", fn := fun _ => fun
  | [d1, d2] => { results := [.lit (.bool false)], args := [d1, d2] }
  | _ => none }
def DenseWaitsWrongFalsely : Prop := denseWaitsRow.holds Tryz.pinned (OpenSpec.ofChange denseWaitsWrong)

/-- 'foliotlaw14.DenseAdds': WHATEVER THE INPUT: true; the input reads as it did. -/
def denseAddsSpec : ChangeSpec := { name := "denseAdds", fn := fun _ => fun
  | [d1, d2, d3] => { results := [.lit (.bool true)], args := [d1, d2, d3] }
  | _ => none }
def denseAddsRow : OpenClaim := { program := "ytkhjmhdpaikokaagreatdoor", sum := "506a7a2a3cde209dfd1c01009c94c39c90cfd36dad44a3379143640d00477445", func := "foliot/foliotlaw14.DenseAdds", spec := "denseAdds", unfollowed := true, recurses := true, named := ["foliot/dense.comparisons"], loops := true, apart := false, laid := [("foliot/dense.comparisons", laid_foliot_dense_comparisons)] }
def DenseAddsSaid : Prop := denseAddsRow.holds Tryz.pinned (OpenSpec.ofChange denseAddsSpec)

/-- ITS FALSE NEIGHBOUR: 'it returns false'. Refute it at one input. -/
def denseAddsWrong : ChangeSpec := { name := "denseAdds", fn := fun _ => fun
  | [d1, d2, d3] => { results := [.lit (.bool false)], args := [d1, d2, d3] }
  | _ => none }
def DenseAddsWrongFalsely : Prop := denseAddsRow.holds Tryz.pinned (OpenSpec.ofChange denseAddsWrong)

/- THE SECOND FORM. 'bulk': how many values and letters a reading holds, each counted each time it is reached (what is shared counts as often as it is met; a slice's spare places count too). A statement '..UptoSaid' is the law's where the arguments, and the package variables that the reading takes, are together of bulk at most 1048576: NARROWER than '..Said'. Prove '..Said' where nothing that the law and all that it calls make is longer than what came in: it says more and counts as full. Else prove '..UptoSaid'. A law counts once. -/
mutual
def uptoBulk {H : Type} : DataW H → Nat
  | .lit (.string bytes) => bytes.length + 1
  | .lit _ => 1
  | .nil => 1
  | .ptr d => uptoBulk d + 1
  | .slice elems spare => uptoBulkAll elems + uptoBulkAll spare + 1
  | .agg parts => uptoBulkAll parts + 1
  | .iface _ d => uptoBulk d + 1
  | .map entries => uptoBulkEntries entries + 1
  | .held _ => 1
def uptoBulkAll {H : Type} : List (DataW H) → Nat
  | [] => 0
  | d :: r => uptoBulk d + uptoBulkAll r
def uptoBulkEntries {H : Type} : List (Lit × DataW H) → Nat
  | [] => 0
  | x :: r => uptoBulkEntry x + uptoBulkEntries r
def uptoBulkEntry {H : Type} : Lit × DataW H → Nat
  | (.string bytes, d) => bytes.length + uptoBulk d + 1
  | (_, d) => uptoBulk d + 1
 end
def uptoSmall : (H : Type) → List (DataW H) → Bool := fun _ ds => decide (uptoBulkAll ds ≤ 1048576)
def OpenSpec.upto (s : _root_.Go.ChangeSpec) : _root_.Go.OpenSpec := { _root_.Go.OpenSpec.ofChange s with cond := some uptoSmall }

/-- 'foliotlaw14.DenseStarts', WHERE WHAT IT READS IS OF BULK AT MOST 1048576: true; the input reads as it did. -/
def denseStartsUptoRow : OpenClaim := { program := "ytkhjmhdpaikokaagreatdoor", sum := "506a7a2a3cde209dfd1c01009c94c39c90cfd36dad44a3379143640d00477445", func := "foliot/foliotlaw14.DenseStarts", spec := "denseStarts", unfollowed := true, recurses := true, named := ["foliot/dense.comparisons"], loops := true, apart := false, laid := [("foliot/dense.comparisons", laid_foliot_dense_comparisons)], narrowed := true }
def DenseStartsUptoSaid : Prop := denseStartsUptoRow.holds Tryz.pinned (OpenSpec.upto denseStartsSpec)

/-- 'foliotlaw14.DenseWaits', WHERE WHAT IT READS IS OF BULK AT MOST 1048576: true; the input reads as it did. -/
def denseWaitsUptoRow : OpenClaim := { program := "ytkhjmhdpaikokaagreatdoor", sum := "506a7a2a3cde209dfd1c01009c94c39c90cfd36dad44a3379143640d00477445", func := "foliot/foliotlaw14.DenseWaits", spec := "denseWaits", unfollowed := true, recurses := true, named := ["foliot/dense.comparisons"], loops := true, apart := false, laid := [("foliot/dense.comparisons", laid_foliot_dense_comparisons)], narrowed := true }
def DenseWaitsUptoSaid : Prop := denseWaitsUptoRow.holds Tryz.pinned (OpenSpec.upto denseWaitsSpec)

/-- 'foliotlaw14.DenseAdds', WHERE WHAT IT READS IS OF BULK AT MOST 1048576: true; the input reads as it did. -/
def denseAddsUptoRow : OpenClaim := { program := "ytkhjmhdpaikokaagreatdoor", sum := "506a7a2a3cde209dfd1c01009c94c39c90cfd36dad44a3379143640d00477445", func := "foliot/foliotlaw14.DenseAdds", spec := "denseAdds", unfollowed := true, recurses := true, named := ["foliot/dense.comparisons"], loops := true, apart := false, laid := [("foliot/dense.comparisons", laid_foliot_dense_comparisons)], narrowed := true }
def DenseAddsUptoSaid : Prop := denseAddsUptoRow.holds Tryz.pinned (OpenSpec.upto denseAddsSpec)

end Rows
end Go.Proofs.YtkhjmhdpaikokaaGreatDoor

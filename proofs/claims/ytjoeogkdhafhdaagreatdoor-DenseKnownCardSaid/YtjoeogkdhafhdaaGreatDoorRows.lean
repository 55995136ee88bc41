/-
  NARROWER THAN 'FOR EVERY INPUT', by the rows' own cells (each row's printed sentence says how): DenseKnown: laid.
  DERIVED. THE GIVEN ROWS OF THIS SEAT. 1 by the template 'for every input the law returns true; each argument reads behind the call as it read before'; 0 by the template 'total and deterministic' (their statements: YtjoeogkdhafhdaaGreatDoorTotals.lean).
  GIVEN WITH THE SEED: the statements are not yours to turn. If you find one false, say at which input.
  Laid BY PROGRAM, IN A SANDBOX (cutbox-rows.mjs): the forced cells as the released guide's own fill.sh prints them over the translation cd24c830aeb38f95… (all of the seat's roots in one cut). By AI agents, Wed Nov 11 2026. No macro, syntax, notation, axiom, sorry.
-/
import Derived.Test.YtjoeogkdhafhdaaGreatDoorChecked
import GoSem.Claim
import GoSem.ClaimJoined
import GoSem.ClaimMapViews
import Derived.JoinedTies
import Derived.KernelRfl
namespace Go.Proofs.YtjoeogkdhafhdaaGreatDoor
/- THE CELL 'sum', in the pinned program and in every row, IS THE sha256 OF THE DUMP (.gsa) THAT YtjoeogkdhafhdaaGreatDoorProg.lean LOADS. Nothing in Lean hashes anything: it is a label: what it is worth is what the hold of that sum in a sandbox is worth. -/
noncomputable def Tryz.pinned : Pinned := { name := "ytjoeogkdhafhdaagreatdoor", sum := "cd24c830aeb38f95fb038b4b14c366868a13fa213aa3c67a1652fb80f3aec951", checked := Tryz.checked }
namespace Rows
def none {H : Type} : Left H := { results := [], args := [] }

/- WHAT THE LISTED PACKAGE-LEVEL VARIABLES READ AS WHEN THE CALL BEGINS. Each datum BY PROGRAM (the guide's laid-datum.mjs) off the statement by which the dump's own 'gosem.cut.vars' lays the variable. In a bare row this is a premise. The card (YtjoeogkdhafhdaaGreatDoorCards.lean) ties it to the program's text. -/
def laid_foliot_dense_comparisons {H : Type} : DataW H := .iface "func table" (.slice [.agg [.lit (.bool false), .lit (.bool false), .iface "func" (.lit (.string [102, 111, 108, 105, 111, 116, 47, 100, 101, 110, 115, 101, 46, 99, 111, 109, 112, 97, 114, 105, 115, 111, 110, 115, 36, 49]))], .agg [.lit (.bool false), .lit (.bool true), .iface "func" (.lit (.string [102, 111, 108, 105, 111, 116, 47, 100, 101, 110, 115, 101, 46, 99, 111, 109, 112, 97, 114, 105, 115, 111, 110, 115, 36, 50]))], .agg [.lit (.bool true), .lit (.bool false), .iface "func" (.lit (.string [102, 111, 108, 105, 111, 116, 47, 100, 101, 110, 115, 101, 46, 99, 111, 109, 112, 97, 114, 105, 115, 111, 110, 115, 36, 51]))], .agg [.lit (.bool true), .lit (.bool true), .iface "func" (.lit (.string [102, 111, 108, 105, 111, 116, 47, 100, 101, 110, 115, 101, 46, 99, 111, 109, 112, 97, 114, 105, 115, 111, 110, 115, 36, 52]))]] [])

/-- 'foliotlaw14.DenseKnown': WHATEVER THE INPUT: true; the input reads as it did. -/
def denseKnownSpec : ChangeSpec := { name := "denseKnown", fn := fun _ => fun
  | [] => { results := [.lit (.bool true)], args := [] }
  | _ => none }
def denseKnownRow : OpenClaim := { program := "ytjoeogkdhafhdaagreatdoor", sum := "cd24c830aeb38f95fb038b4b14c366868a13fa213aa3c67a1652fb80f3aec951", func := "foliot/foliotlaw14.DenseKnown", spec := "denseKnown", unfollowed := true, recurses := true, named := ["foliot/dense.comparisons"], apart := false, laid := [("foliot/dense.comparisons", laid_foliot_dense_comparisons)] }
def DenseKnownSaid : Prop := denseKnownRow.holds Tryz.pinned (OpenSpec.ofChange denseKnownSpec)

/-- ITS FALSE NEIGHBOUR: 'it returns false'. Refute it at one input. -/
def denseKnownWrong : ChangeSpec := { name := "denseKnown", fn := fun _ => fun
  | [] => { results := [.lit (.bool false)], args := [] }
  | _ => none }
def DenseKnownWrongFalsely : Prop := denseKnownRow.holds Tryz.pinned (OpenSpec.ofChange denseKnownWrong)

/- THE SECOND FORM. 'bulk': how many values and letters a reading holds, each counted each time it is reached (what is shared counts as often as it is met; a slice's spare places count too). A statement '..UptoSaid' is the law's where the arguments, and the package variables that the reading takes, are together of bulk at most 1048576: NARROWER than '..Said'. Prove '..Said' where nothing that the law and all that it calls make is longer than what came in: it says more and counts as full. Else prove '..UptoSaid'. A law counts once. -/
mutual
def uptoBulk {H : Type} : DataW H → Nat
  | .lit (.string bytes) => bytes.length + 1
  | .lit _ => 1
  | .nil => 1
  | .ptr d => uptoBulk d + 1
  | .slice elems spare => uptoBulkAll elems + uptoBulkAll spare + 1
  | .agg parts => uptoBulkAll parts + 1
  | .iface _ d => uptoBulk d + 1
  | .map entries => uptoBulkEntries entries + 1
  | .held _ => 1
def uptoBulkAll {H : Type} : List (DataW H) → Nat
  | [] => 0
  | d :: r => uptoBulk d + uptoBulkAll r
def uptoBulkEntries {H : Type} : List (Lit × DataW H) → Nat
  | [] => 0
  | x :: r => uptoBulkEntry x + uptoBulkEntries r
def uptoBulkEntry {H : Type} : Lit × DataW H → Nat
  | (.string bytes, d) => bytes.length + uptoBulk d + 1
  | (_, d) => uptoBulk d + 1
 end
def uptoSmall : (H : Type) → List (DataW H) → Bool := fun _ ds => decide (uptoBulkAll ds ≤ 1048576)
def OpenSpec.upto (s : _root_.Go.ChangeSpec) : _root_.Go.OpenSpec := { _root_.Go.OpenSpec.ofChange s with cond := some uptoSmall }

/-- 'foliotlaw14.DenseKnown', WHERE WHAT IT READS IS OF BULK AT MOST 1048576: true; the input reads as it did. -/
def denseKnownUptoRow : OpenClaim := { program := "ytjoeogkdhafhdaagreatdoor", sum := "cd24c830aeb38f95fb038b4b14c366868a13fa213aa3c67a1652fb80f3aec951", func := "foliot/foliotlaw14.DenseKnown", spec := "denseKnown", unfollowed := true, recurses := true, named := ["foliot/dense.comparisons"], apart := false, laid := [("foliot/dense.comparisons", laid_foliot_dense_comparisons)], narrowed := true }
def DenseKnownUptoSaid : Prop := denseKnownUptoRow.holds Tryz.pinned (OpenSpec.upto denseKnownSpec)

end Rows
end Go.Proofs.YtjoeogkdhafhdaaGreatDoor

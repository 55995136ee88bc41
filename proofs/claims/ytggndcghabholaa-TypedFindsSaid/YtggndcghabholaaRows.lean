/-
  NARROWER THAN 'FOR EVERY INPUT', by the rows' own cells (each row's printed sentence says how): TypedFinds: loops · TypedOrder: loops · TypedNames: loops.
  DERIVED. THE GIVEN ROWS OF THIS SEAT. 3 by the template 'for every input the law returns true; each argument reads behind the call as it read before'; 0 by the template 'total and deterministic' (their statements: YtggndcghabholaaTotals.lean).
  GIVEN WITH THE SEED: the statements are not yours to turn. If you find one false, say at which input.
  Laid BY PROGRAM, IN A SANDBOX (cutbox-rows.mjs): the forced cells as the released guide's own fill.sh prints them over the translation da0f82f7877ffe1e… (all of the seat's roots in one cut). By AI agents, Wed Nov 11 2026. No macro, syntax, notation, axiom, sorry.
-/
import Derived.Test.YtggndcghabholaaChecked
import GoSem.Claim
import GoSem.ClaimJoined
import GoSem.ClaimMapViews
import Derived.JoinedTies
import Derived.KernelRfl
namespace Go.Proofs.Ytggndcghabholaa
/- THE CELL 'sum', in the pinned program and in every row, IS THE sha256 OF THE DUMP (.gsa) THAT YtggndcghabholaaProg.lean LOADS. Nothing in Lean hashes anything: it is a label: what it is worth is what the hold of that sum in a sandbox is worth. -/
noncomputable def Try.pinned : Pinned := { name := "ytggndcghabholaa", sum := "da0f82f7877ffe1e3c1df6c223ebb532cd028b51fbe7c25733d7d87310fc416c", checked := Try.checked }
namespace Rows
def none {H : Type} : Left H := { results := [], args := [] }

/-- 'foliotlaw09.TypedFinds': WHATEVER THE INPUT: true; the input reads as it did. -/
def typedFindsSpec : ChangeSpec := { name := "typedFinds", fn := fun _ => fun
  | [d1, d2, d3] => { results := [.lit (.bool true)], args := [d1, d2, d3] }
  | _ => none }
def typedFindsRow : OpenClaim := { program := "ytggndcghabholaa", sum := "da0f82f7877ffe1e3c1df6c223ebb532cd028b51fbe7c25733d7d87310fc416c", func := "foliot/foliotlaw09.TypedFinds", spec := "typedFinds", unfollowed := true, recurses := true, loops := true, apart := false }
def TypedFindsSaid : Prop := typedFindsRow.holds Try.pinned (OpenSpec.ofChange typedFindsSpec)

/-- ITS FALSE NEIGHBOUR: 'it returns false'. Refute it at one input. -/
def typedFindsWrong : ChangeSpec := { name := "typedFinds", fn := fun _ => fun
  | [d1, d2, d3] => { results := [.lit (.bool false)], args := [d1, d2, d3] }
  | _ => none }
def TypedFindsWrongFalsely : Prop := typedFindsRow.holds Try.pinned (OpenSpec.ofChange typedFindsWrong)

/-- 'foliotlaw09.TypedOrder': WHATEVER THE INPUT: true; the input reads as it did. -/
def typedOrderSpec : ChangeSpec := { name := "typedOrder", fn := fun _ => fun
  | [d1, d2, d3] => { results := [.lit (.bool true)], args := [d1, d2, d3] }
  | _ => none }
def typedOrderRow : OpenClaim := { program := "ytggndcghabholaa", sum := "da0f82f7877ffe1e3c1df6c223ebb532cd028b51fbe7c25733d7d87310fc416c", func := "foliot/foliotlaw09.TypedOrder", spec := "typedOrder", unfollowed := true, recurses := true, loops := true, apart := false }
def TypedOrderSaid : Prop := typedOrderRow.holds Try.pinned (OpenSpec.ofChange typedOrderSpec)

/-- ITS FALSE NEIGHBOUR: 'it returns false'. Refute it at one input. -/
def typedOrderWrong : ChangeSpec := { name := "typedOrder", fn := fun _ => fun
  | [d1, d2, d3] => { results := [.lit (.bool false)], args := [d1, d2, d3] }
  | _ => none }
def TypedOrderWrongFalsely : Prop := typedOrderRow.holds Try.pinned (OpenSpec.ofChange typedOrderWrong)

/-- 'foliotlaw09.TypedNames': WHATEVER THE INPUT: true; the input reads as it did. -/
def typedNamesSpec : ChangeSpec := { name := "typedNames", fn := fun _ => fun
  | [d1, d2, d3] => { results := [.lit (.bool true)], args := [d1, d2, d3] }
  | _ => none }
def typedNamesRow : OpenClaim := { program := "ytggndcghabholaa", sum := "da0f82f7877ffe1e3c1df6c223ebb532cd028b51fbe7c25733d7d87310fc416c", func := "foliot/foliotlaw09.TypedNames", spec := "typedNames", unfollowed := true, recurses := true, loops := true, apart := false }
def TypedNamesSaid : Prop := typedNamesRow.holds Try.pinned (OpenSpec.ofChange typedNamesSpec)

/-- ITS FALSE NEIGHBOUR: 'it returns false'. Refute it at one input. -/
def typedNamesWrong : ChangeSpec := { name := "typedNames", fn := fun _ => fun
  | [d1, d2, d3] => { results := [.lit (.bool false)], args := [d1, d2, d3] }
  | _ => none }
def TypedNamesWrongFalsely : Prop := typedNamesRow.holds Try.pinned (OpenSpec.ofChange typedNamesWrong)

/- THE SECOND FORM. 'bulk': how many values and letters a reading holds, each counted each time it is reached (what is shared counts as often as it is met; a slice's spare places count too). A statement '..UptoSaid' is the law's where the arguments, and the package variables that the reading takes, are together of bulk at most 1048576: NARROWER than '..Said'. Prove '..Said' where nothing that the law and all that it calls make is longer than what came in: it says more and counts as full. Else prove '..UptoSaid'. A law counts once. -/
mutual
def uptoBulk {H : Type} : DataW H → Nat
  | .lit (.string bytes) => bytes.length + 1
  | .lit _ => 1
  | .nil => 1
  | .ptr d => uptoBulk d + 1
  | .slice elems spare => uptoBulkAll elems + uptoBulkAll spare + 1
  | .agg parts => uptoBulkAll parts + 1
  | .iface _ d => uptoBulk d + 1
  | .map entries => uptoBulkEntries entries + 1
  | .held _ => 1
def uptoBulkAll {H : Type} : List (DataW H) → Nat
  | [] => 0
  | d :: r => uptoBulk d + uptoBulkAll r
def uptoBulkEntries {H : Type} : List (Lit × DataW H) → Nat
  | [] => 0
  | x :: r => uptoBulkEntry x + uptoBulkEntries r
def uptoBulkEntry {H : Type} : Lit × DataW H → Nat
  | (.string bytes, d) => bytes.length + uptoBulk d + 1
  | (_, d) => uptoBulk d + 1
 end
def uptoSmall : (H : Type) → List (DataW H) → Bool := fun _ ds => decide (uptoBulkAll ds ≤ 1048576)
def OpenSpec.upto (s : _root_.Go.ChangeSpec) : _root_.Go.OpenSpec := { _root_.Go.OpenSpec.ofChange s with cond := some uptoSmall }

/-- 'foliotlaw09.TypedFinds', WHERE WHAT IT READS IS OF BULK AT MOST 1048576: true; the input reads as it did. -/
def typedFindsUptoRow : OpenClaim := { program := "ytggndcghabholaa", sum := "da0f82f7877ffe1e3c1df6c223ebb532cd028b51fbe7c25733d7d87310fc416c", func := "foliot/foliotlaw09.TypedFinds", spec := "typedFinds", unfollowed := true, recurses := true, loops := true, apart := false, narrowed := true }
def TypedFindsUptoSaid : Prop := typedFindsUptoRow.holds Try.pinned (OpenSpec.upto typedFindsSpec)

/-- 'foliotlaw09.TypedOrder', WHERE WHAT IT READS IS OF BULK AT MOST 1048576: true; the input reads as it did. -/
def typedOrderUptoRow : OpenClaim := { program := "ytggndcghabholaa", sum := "da0f82f7877ffe1e3c1df6c223ebb532cd028b51fbe7c25733d7d87310fc416c", func := "foliot/foliotlaw09.TypedOrder", spec := "typedOrder", unfollowed := true, recurses := true, loops := true, apart := false, narrowed := true }
def TypedOrderUptoSaid : Prop := typedOrderUptoRow.holds Try.pinned (OpenSpec.upto typedOrderSpec)

/-- 'foliotlaw09.TypedNames', WHERE WHAT IT READS IS OF BULK AT MOST 1048576: true; the input reads as it did. -/
def typedNamesUptoRow : OpenClaim := { program := "ytggndcghabholaa", sum := "da0f82f7877ffe1e3c1df6c223ebb532cd028b51fbe7c25733d7d87310fc416c", func := "foliot/foliotlaw09.TypedNames", spec := "typedNames", unfollowed := true, recurses := true, loops := true, apart := false, narrowed := true }
def TypedNamesUptoSaid : Prop := typedNamesUptoRow.holds Try.pinned (OpenSpec.upto typedNamesSpec)

end Rows
end Go.Proofs.Ytggndcghabholaa

/-
  PROVED HERE: the statement DenseKnownCardSaid: the call of the law DenseKnown, which takes nothing, returns true and leaves all memory as it was, where the package-level variable foliot/dense.comparisons starts as the program's text lays it (the tied card).
  The run is computed by the executor of the abstract layer; its soundness is proved there.
-/
import Derived.Test.YtjoeogkdhafhdaaGreatDoorCards
import Derived.Test.YtjoeogkdhafhdaaGreatDoorTie
import Derived.Test.YtjoeogkdhafhdaaGreatDoorDenseKnownM3
import Derived.KernelRfl
import Derived.WalkKit
import Derived.ProofKit
import Derived.OpenShut
import Derived.LaidMore
import Derived.LaidLaws
import Derived.SevenTiedAt
namespace Go.Proofs.YtjoeogkdhafhdaaGreatDoor.denseKnown
open Go Go.ChangeShapes Go.WideShapes Go.ChangeAt Go.RowKit
set_option linter.unusedVariables false

theorem own : ownKnob Tryz.prog.godebug = none := by kernel_rfl

/-! ### The run -/
theorem run (w : World) : Abs.saysTrue (Abs.xCall (Abs.Env.ofG Tryz.prog G w) F41 1000 3 [] Abs.empty) = true := by kernel_rfl

/-- The variable is what it is said to be. -/
theorem laid_rel {W : World} (h : laidMetH Tryz.prog Rows.denseKnownRow.laid W) (g : Nat) : Abs.VRel 0 (fun _ => ⟨0, 0, 0, 0⟩) (Abs.allH W) (G g) (.pointer (some ⟨g, 0, none⟩)) :=
  Abs.funcsAt_rel (h.funcs (n := "foliot/dense.comparisons") (List.mem_cons_self ..)) (g := 0) (t := 133) (k := 8) (by kernel_rfl) (by kernel_rfl)
    (tbl := [("foliot/dense.comparisons$1", 148), ("foliot/dense.comparisons$2", 149), ("foliot/dense.comparisons$3", 150), ("foliot/dense.comparisons$4", 151)]) (by kernel_rfl) g

theorem walk (w : World) (h : laidMetH Tryz.prog Rows.denseKnownRow.laid w) :
    Calls Tryz.prog 3 #[] w fun e w' => e = .returned (.bool true) ∧ Abs.Same w w' ∧ ∀ (c : Nat) (o : Obj), w.heap[c]? = some o → w'.heap[c]? = some o :=
  Abs.says_trueG (o41 w) (laid_rel h) (run w)

theorem kept {w w' : World} (hs : Abs.Same w w') (h : ∀ (c : Nat) (o : Obj), w.heap[c]? = some o → w'.heap[c]? = some o) (may : MemPlace → Prop) : w.keptBut w' may := by
  refine ⟨hs.1, hs.2, fun i hi => ?_⟩
  obtain ⟨o, ho⟩ : ∃ o, w.heap[i]? = some o := ⟨w.heap[i], by simp [hi]⟩
  rw [ho, h i o ho]
  cases o <;> simp

/-! ### The row -/
theorem door_met (os : Os) (args : Array Value) : laidMetH Tryz.prog Rows.denseKnownRow.laid ((World.doorLaid Tryz.prog 200 os).forCall (fun _ _ => 0) ⟨#[], args, []⟩).memory :=
  laidMetH_of_parts3 (fuel := 8) (laidMet_of_run' 8 (by kernel_rfl) (by kernel_rfl)) (by kernel_rfl) (by kernel_rfl)

set_option maxRecDepth 100000 in
theorem lifted (os : Os) (started : os.Started) (H : Type) (enc : TypeId × Value → H) :
    ReturnsInHanded {} Tryz.checked os 3 .any (fun w args => (Rows.denseKnownSpec.pre enc Tryz.prog Tryz.f3 [] false w args ∧ laidMetH Tryz.prog Rows.denseKnownRow.laid w) ∧ sizedMet enc Tryz.prog Tryz.f3 (OpenSpec.ofChange Rows.denseKnownSpec) false w args)
      (Rows.denseKnownSpec.post enc Tryz.prog Tryz.f3 false true false false) := by
  refine returnsInHanded_of_change_and (C := Tryz.checked) (X := fun w _ => laidMetH Tryz.prog Rows.denseKnownRow.laid w) (fun _ _ _ hh h => h.of_heap hh) own started (by kernel_rfl) Tryz.func3
    (ChangeSpec.witness_shaped (enc := enc) (C := Tryz.checked) (os := os) (X := fun w _ => laidMetH Tryz.prog Rows.denseKnownRow.laid w) false (World.doorLaid Tryz.prog 200 os) #[] 8 rfl (World.shaped_of_RefB (by kernel_rfl) (by kernel_rfl)) (by kernel_rfl) (by kernel_rfl) (by kernel_rfl) (door_met os _)) ?_
  intro W base args ds gs before hval0 hW _ _ hL _
  have hval : ∀ (j : Nat) t v, Tryz.f3.params[j]? = some t → args[j]? = some v → Value.okWide Tryz.prog W .any base t v := hval0
  have hW' := hW
  obtain ⟨p, q, hA0, hV, rfl, hfz, hnd⟩ := hW
  have hA : DataW.TrodAll enc Tryz.prog W 0 (fun _ => true) true Tryz.f3.params.toList args.toList ds p := hA0
  rw [Tryz.params3] at hA hval
  obtain ⟨rfl, rfl, rfl⟩ := trodAll_none hA
  obtain ⟨rfl, rfl⟩ := trodVars_none hV
  clear hA0 hval0
  simp only [List.append_nil] at hW'
  refine (walk W hL).mono fun e W' ⟨he, hsm, hg⟩ => ?_
  subst he
  exact ⟨_, rfl, [], [], [], [], [], [], hW', (trodAll_cons_mk (shut_bool Tryz.underlying4 _) trodAll_mk0), rfl, rfl, kept hsm hg _, fun h => by cases h⟩

theorem over : Rows.denseKnownRow.holds Tryz.pinned (OpenSpec.ofChange Rows.denseKnownSpec) :=
  OpenClaim.holds_of_wide 3 Tryz.f3 rfl rfl rfl rfl rfl rfl rfl ⟨rfl, rfl, rfl, rfl, rfl⟩ rfl rfl rfl rfl rfl (by kernel_rfl) Tryz.func3 (by kernel_rfl)
    (of_decide_eq_true (by kernel_rfl)) (by unfold Func.isWrapper; first | (rw [if_pos (by decide +kernel)]; kernel_rfl) | (rw [if_neg (by decide +kernel)]; exact ⟨rfl, rfl⟩))
    (fun os started H enc _ => lifted os started H enc)

/-- The statement. -/
theorem proved : Rows.DenseKnownCardSaid :=
  Claim7.holds_tied_plain_at .later [] [.funcs] true (true, "fa0be7dca833bab5452779bc6cff77037adb1ae11723871071bcf87bef7b08e1") true
    over (fun _ h => by cases h) (by kernel_rfl) (fun _ h => by cases h) denseKnown_row_tie rfl ⟨rfl, rfl⟩ (by kernel_rfl) rfl
    (fun f fn hf hfn => by
      obtain rfl : f = 3 := Option.some.inj ((show Tryz.prog.funcNamed "foliot/foliotlaw14.DenseKnown" = some 3 by kernel_rfl).symm.trans hf) |>.symm
      obtain rfl : fn = Tryz.f3 := (Option.some.inj (Tryz.func3.symm.trans hfn)).symm
      exact ⟨by kernel_rfl, fun j t ht => by
        rw [Tryz.params3] at ht
        simp at ht⟩)
    (by kernel_rfl)
#print axioms proved
end Go.Proofs.YtjoeogkdhafhdaaGreatDoor.denseKnown

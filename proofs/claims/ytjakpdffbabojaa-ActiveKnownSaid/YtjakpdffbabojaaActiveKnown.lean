/-
  PROVED HERE: the statement ActiveKnownSaid: the call of the law ActiveKnown, which takes nothing, returns true and leaves all memory as it was. There are no conditions.
  The run is computed by the executor of the abstract layer; its soundness is proved there.
-/
import Derived.Test.YtjakpdffbabojaaRows
import Derived.Test.YtjakpdffbabojaaAbsZ
import Derived.KernelRfl
import Derived.WalkKit
import Derived.ProofKit
import Derived.OpenShut
namespace Go.Proofs.Ytjakpdffbabojaa.activeKnown
open Go.ChangeShapes Go.WideShapes Go.ChangeAt Go.RowKit
set_option linter.unusedVariables false      -- a walk need not use every 'w<i>' (that an integer argument fits its kind)

theorem own : ownKnob Try.prog.godebug = none := by kernel_rfl

/-! ### The run -/
theorem run (w : World) : Abs.saysTrue (Abs.xCall (Abs.Env.of Try.prog w) (Abs.ftab Try.prog [8, 19, 45, 60, 68]) 1000 4 [] Abs.empty) = true := by kernel_rfl

theorem walk (w : World) :
    Calls Try.prog 4 #[] w fun e w' => e = .returned (.bool true) ∧ Abs.Same w w' ∧ ∀ (c : Nat) (o : Obj), w.heap[c]? = some o → w'.heap[c]? = some o :=
  Abs.says_true (Abs.ftab_ok Try.prog [8, 19, 45, 60, 68] w) (run w)

theorem kept {w w' : World} (hs : Abs.Same w w') (h : ∀ (c : Nat) (o : Obj), w.heap[c]? = some o → w'.heap[c]? = some o) (may : MemPlace → Prop) : w.keptBut w' may := by
  refine ⟨hs.1, hs.2, fun i hi => ?_⟩
  obtain ⟨o, ho⟩ : ∃ o, w.heap[i]? = some o := ⟨w.heap[i], by simp [hi]⟩
  rw [ho, h i o ho]
  cases o <;> simp

/-! ### The row -/
set_option maxRecDepth 100000 in
theorem lifted (os : Os) (started : os.Started) (H : Type) (enc : TypeId × Value → H) :
    ReturnsInHanded {} Try.checked os 4 .any (Rows.activeKnownSpec.pre6 enc Try.prog Try.f4 Rows.activeKnownRow.domain false) (Rows.activeKnownSpec.post enc Try.prog Try.f4 false true false false) := by
  refine returnsInHanded_of_change (C := Try.checked) own started (by kernel_rfl) Try.func4
    (ChangeSpec.witness6 (enc := enc) (C := Try.checked) false ⟨#[], #[], []⟩ 8 (by kernel_rfl) (by kernel_rfl) (by kernel_rfl) (by kernel_rfl)) ?_
  intro W base args ds gs before hval0 hW hcnd _
  have hval : ∀ (j : Nat) t v, Try.f4.params[j]? = some t → args[j]? = some v → Value.okWide Try.prog W .any base t v := hval0
  have hW' := hW
  obtain ⟨p, q, hA0, hV, rfl, hfz, hnd⟩ := hW
  have hA : DataW.TrodAll enc Try.prog W 0 (fun _ => true) true Try.f4.params.toList args.toList ds p := hA0
  rw [Try.params4] at hA hval
  obtain ⟨rfl, rfl, rfl⟩ := trodAll_none hA
  obtain ⟨rfl, rfl⟩ := trodVars_none hV
  clear hA0 hval0
  simp only [List.append_nil] at hW'
  refine (walk  W).mono fun e W' ⟨he, hsm, hg⟩ => ?_
  subst he
  exact ⟨_, rfl, [], [], [], [], [], [], hW', (trodAll_cons_mk (shut_bool Try.underlying4 _) trodAll_mk0), rfl, rfl, kept hsm hg _, fun h => by cases h⟩

theorem over : Rows.activeKnownRow.holds Try.pinned (OpenSpec.ofChange Rows.activeKnownSpec) :=
  OpenClaim.holds_of_wide 4 Try.f4 rfl rfl rfl rfl rfl rfl rfl ⟨rfl, rfl, rfl, rfl, rfl⟩ rfl rfl rfl rfl rfl (by kernel_rfl) Try.func4 (by kernel_rfl)
    (of_decide_eq_true (by kernel_rfl)) (by unfold Func.isWrapper; first | (rw [if_pos (by decide +kernel)]; kernel_rfl) | (rw [if_neg (by decide +kernel)]; exact ⟨rfl, rfl⟩))
    (fun os started H enc _ => lifted os started H enc)

/-- The statement. -/
theorem proved : Rows.ActiveKnownSaid :=
  over
#print axioms proved
end Go.Proofs.Ytjakpdffbabojaa.activeKnown

/-
  PROVED HERE: the statement ExplorePathsSaid: for every list of ways and every number of a node the call of the law ExplorePaths returns true, and the list reads as it did. There are no conditions.
  Both functions Path are shown to answer by the same plain function; the run of the fixed examples is computed by the executor of the abstract layer.
-/
import Derived.Test.YtjoeogkdhafhdaaGreatRows
import Derived.Test.YtjoeogkdhafhdaaGreatExplorePathsM5
import Derived.Test.YtjoeogkdhafhdaaGreatP3
import Derived.Test.YtjoeogkdhafhdaaGreatAbsRow
import Derived.KernelRfl
import Derived.WalkKit
import Derived.ProofKit
import Derived.OpenShut
namespace Go.Proofs.YtjoeogkdhafhdaaGreat.explorePaths
open Go Go.ChangeShapes Go.WideShapes Go.ChangeAt Go.RowKit
set_option linter.unusedVariables false

theorem own : ownKnob Tryz.prog.godebug = none := by kernel_rfl

/-! ### The fixed examples -/
theorem awake (w : World) : Abs.Gives (Abs.EE w) 4 [] fun v => v = .sc (.bool true) := by
  intro σ
  have h : (⟨4, [], [(.ret (.sc (.bool true)))]⟩ : Abs.Mem) = m40 := rfl
  refine Abs.ACalls.mono (Abs.memOk_sound (E := Abs.Env.of Tryz.prog w) (m := m40) rfl (o39 w) (c40 w) σ) ?_
  rintro e σ' ⟨rfl, he⟩
  rw [← h] at he
  simp only [List.mem_singleton] at he
  exact ⟨rfl, _, rfl, he⟩

/-! ### The arguments -/
theorem sh22 : Abs.shape Tryz.prog 22 = .slice 29 2 true := by kernel_rfl
theorem sh29 : Abs.shape Tryz.prog 29 = .struct [3, 3] := by kernel_rfl
theorem sh3 : Abs.shape Tryz.prog 3 = .int .i64 := by kernel_rfl

theorem is_int {n : Nat} {vs : List Abs.AVal} (h : Abs.HasTy Tryz.prog n 3 vs) : ∃ m, vs = [.sc (.int .i64 m)] := by
  cases n with
  | zero => exact h.elim
  | succ n =>
    unfold Abs.HasTy at h
    rw [sh3] at h
    obtain ⟨m, _, h⟩ := h
    exact ⟨m, h⟩

theorem is_way {n : Nat} {x : Abs.AVal} (h : Abs.HasTy Tryz.prog n 29 x.cells) (ha : x.isAgg = true) : ∃ p : Int × Int, x = Abs.wayA p := by
  cases n with
  | zero => exact h.elim
  | succ n =>
    unfold Abs.HasTy at h
    rw [sh29] at h
    obtain ⟨a, b, h1, _, ha', b1, b2, h2, _, hb', h3⟩ := h
    obtain ⟨m1, rfl⟩ := is_int ha'
    obtain ⟨m2, rfl⟩ := is_int hb'
    have h3 : b2 = [] := h3
    subst h3 h2
    cases x <;> first | cases ha; done | skip
    rename_i cs
    have h1 : cs = [.sc (.int .i64 m1)] ++ ([.sc (.int .i64 m2)] ++ []) := h1
    subst h1
    exact ⟨(m1, m2), rfl⟩

theorem is_ways {n : Nat} : ∀ {els : List Abs.AVal}, (∀ x ∈ els, Abs.HasTy Tryz.prog n 29 x.cells ∧ x.cells.length = 2 ∧ x.isAgg = true) → ∃ l : List (Int × Int), els = l.map Abs.wayA
  | [], _ => ⟨[], rfl⟩
  | x :: els, h => by
      obtain ⟨h1, _, h2⟩ := h x (by simp)
      obtain ⟨p, rfl⟩ := is_way h1 h2
      obtain ⟨l, rfl⟩ := is_ways (els := els) fun y hy => h y (by simp [hy])
      exact ⟨p :: l, rfl⟩

theorem is_list {n : Nat} {x : Abs.AVal} (h : Abs.HasTy Tryz.prog n 22 x.cells) (ha : x.isAgg = false) : ∃ l : List (Int × Int), Abs.IsD 2 x (l.map Abs.wayA) ∧ l.length ≤ 9223372036854775807 := by
  rw [Abs.AVal.cells_one ha] at h
  cases n with
  | zero => exact h.elim
  | succ n =>
    unfold Abs.HasTy at h
    rw [sh22] at h
    rcases h with h | ⟨a, c, h⟩ | ⟨els, _, hlen, h, hels⟩
    · simp only [List.cons.injEq, and_true] at h
      exact ⟨[], .inl ⟨rfl, _, _, h⟩, by simp⟩
    · simp only [List.cons.injEq, and_true] at h
      exact ⟨[], .inl ⟨rfl, _, _, h⟩, by simp⟩
    · simp only [List.cons.injEq, and_true] at h
      obtain ⟨l, rfl⟩ := is_ways hels
      exact ⟨l, .inr ⟨_, h⟩, by rw [List.length_map] at hlen; exact hlen⟩

/-! ### The walk -/
set_option maxRecDepth 100000 in
theorem walk {H : Type} {enc : TypeId × Value → H} {w : World} {v v' : Value} {d d' : DataW H} {p p' : List MemPlace} {r : Reach} {base : Nat} (hv : Value.okWide Tryz.prog w r base 22 v) (hd : DataW.Trod enc Tryz.prog w 0 (fun _ => true) true 22 v d p)
    (hv' : Value.okWide Tryz.prog w r base 3 v') (hd' : DataW.Trod enc Tryz.prog w 0 (fun _ => true) true 3 v' d' p') :
    Calls Tryz.prog 3 #[v, v'] w fun e w' => e = .returned (.bool true) ∧ Abs.Same w w' ∧ ∀ (c : Nat) (o : Obj), w.heap[c]? = some o → w'.heap[c]? = some o := by
  obtain ⟨f1, x, h1, h2, h3⟩ := Abs.arg_rel (P := Tryz.prog) (w := w) (sp := fun _ => true) (held := true) (t := 22) (ι := fun _ => ⟨0, 0, 0, 0⟩) hv hd
  obtain ⟨f2, y, g1, g2, g3⟩ := Abs.arg_rel (P := Tryz.prog) (w := w) (sp := fun _ => true) (held := true) (t := 3) (ι := fun _ => ⟨0, 0, 0, 0⟩) hv' hd'
  obtain ⟨l, hl, hlen⟩ := is_list h1 (h3.trans (by kernel_rfl))
  have g3 : y.isAgg = false := g3.trans (by kernel_rfl)
  rw [Abs.AVal.cells_one g3] at g1
  obtain ⟨m, hm⟩ := is_int g1
  simp only [List.cons.injEq, and_true] at hm
  subst hm
  have := Abs.law3 (w := w) (node := m) hl hlen (awake w) _ _ w [v, v'] (Abs.Rel.start Tryz.prog w) (.cons _ _ _ _ h2 (.cons _ _ _ _ g2 .nil))
  refine Calls.mono this ?_
  rintro e w' ⟨ι', H', σ', ae, rfl, hx, hR, he⟩
  cases hx with
  | ret u u' hu =>
    have := hu.sc_inv
    subst this
    exact ⟨rfl, hR.keep, fun c o hc => hR.imm c (true, o) (he.imm c _ (by simp [hc]))⟩

/-! ### The row -/
set_option maxRecDepth 100000 in
theorem lifted (os : Os) (started : os.Started) (H : Type) (enc : TypeId × Value → H) :
    ReturnsInHanded {} Tryz.checked os 3 .any (Rows.explorePathsSpec.pre6 enc Tryz.prog Tryz.f3 Rows.explorePathsRow.domain false) (Rows.explorePathsSpec.post enc Tryz.prog Tryz.f3 false true false false) := by
  refine returnsInHanded_of_change (C := Tryz.checked) own started (by kernel_rfl) Tryz.func3
    (ChangeSpec.witness6 (enc := enc) (C := Tryz.checked) false ⟨#[], #[.slice none 0 0, .int .i64 0], []⟩ 8 (by kernel_rfl) (by kernel_rfl) (by kernel_rfl) (by kernel_rfl)) ?_
  intro W base args ds gs before hval0 hW hcnd _
  have hval : ∀ (j : Nat) t v, Tryz.f3.params[j]? = some t → args[j]? = some v → Value.okWide Tryz.prog W .any base t v := hval0
  have hW' := hW
  obtain ⟨p, q, hA0, hV, rfl, hfz, hnd⟩ := hW
  have hA : DataW.TrodAll enc Tryz.prog W 0 (fun _ => true) true Tryz.f3.params.toList args.toList ds p := hA0
  rw [Tryz.params3] at hA hval
  obtain ⟨v, v', d, d', p1, p2, rfl, rfl, rfl, t1, t2⟩ := trodAll_two hA
  obtain ⟨rfl, rfl⟩ := trodVars_none hV
  refine (walk (hval 0 22 v rfl rfl) t1 (hval 1 3 v' rfl rfl) t2).mono fun e W' ⟨he, hsm, hg⟩ => ?_
  subst he
  exact ⟨_, rfl, Abs.post_keeps rfl hW' (fun _ _ => (trodAll_cons_mk (shut_bool Tryz.underlying4 _) trodAll_mk0)) rfl rfl (by kernel_rfl) (by kernel_rfl) hsm hg⟩

theorem over : Rows.explorePathsRow.holds Tryz.pinned (OpenSpec.ofChange Rows.explorePathsSpec) :=
  OpenClaim.holds_of_wide 3 Tryz.f3 rfl rfl rfl rfl rfl rfl rfl ⟨rfl, rfl, rfl, rfl, rfl⟩ rfl rfl rfl rfl rfl (by kernel_rfl) Tryz.func3 (by kernel_rfl)
    (of_decide_eq_true (by kernel_rfl)) (by unfold Func.isWrapper; first | (rw [if_pos (by decide +kernel)]; kernel_rfl) | (rw [if_neg (by decide +kernel)]; exact ⟨rfl, rfl⟩))
    (fun os started H enc _ => lifted os started H enc)

/-- The statement. -/
theorem proved : Rows.ExplorePathsSaid :=
  over
#print axioms proved
end Go.Proofs.YtjoeogkdhafhdaaGreat.explorePaths

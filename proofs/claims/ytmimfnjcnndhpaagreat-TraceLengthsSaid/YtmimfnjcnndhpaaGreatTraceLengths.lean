/-
  PROVED HERE: the statement TraceLengthsSaid: for every list of timed steps the call of the law TraceLengths returns true, and the list reads as it did. There are no conditions.
  Both functions Length are shown to answer by the same plain function; the run of the fixed examples is computed by the executor of the abstract layer.
-/
import Derived.Test.YtmimfnjcnndhpaaGreatRows
import Derived.Test.YtmimfnjcnndhpaaGreatTraceLengthsJA
import Derived.Test.YtmimfnjcnndhpaaGreatTraceLengthsJB
import Derived.Test.YtmimfnjcnndhpaaGreatTraceLengthsM7
import Derived.Test.YtmimfnjcnndhpaaGreatLenL
import Derived.Test.YtmimfnjcnndhpaaGreatAbsG25
import Derived.Test.YtmimfnjcnndhpaaGreatAbsG27
import Derived.KernelRfl
import Derived.WalkKit
import Derived.ProofKit
import Derived.OpenShut
namespace Go.Proofs.YtmimfnjcnndhpaaGreat.traceLengths
open Go Go.ChangeShapes Go.WideShapes Go.ChangeAt Go.RowKit
set_option linter.unusedVariables false

theorem own : ownKnob Tryz.prog.godebug = none := by kernel_rfl

/-! ### The fixed examples -/
theorem awake (w : World) : Abs.Gives (Abs.EE w) 5 [] fun v => v = .sc (.bool true) := by
  intro σ
  have h : (⟨5, [], [(.ret (.sc (.bool true)))]⟩ : Abs.Mem) = m143 := rfl
  refine Abs.ACalls.mono (Abs.memOk_sound (E := Abs.Env.of Tryz.prog w) (m := m143) rfl (o142 w) (c143 w) σ) ?_
  rintro e σ' ⟨rfl, he⟩
  rw [← h] at he
  simp only [List.mem_singleton] at he
  exact ⟨rfl, _, rfl, he⟩

/-! ### The argument -/
theorem sh22 : Abs.shape Tryz.prog 22 = .slice 62 3 true := by kernel_rfl
theorem sh62 : Abs.shape Tryz.prog 62 = .struct [25, 3] := by kernel_rfl
theorem sh25 : Abs.shape Tryz.prog 25 = .struct [2, 2] := by kernel_rfl
theorem sh2 : Abs.shape Tryz.prog 2 = .int .i64 := by kernel_rfl
theorem sh3 : Abs.shape Tryz.prog 3 = .int .i64 := by kernel_rfl

theorem is_step {n : Nat} {x : Abs.AVal} (h : Abs.HasTy Tryz.prog n 62 x.cells) (ha : x.isAgg = true) : ∃ p : (Int × Int) × Int, Abs.inW p ∧ x = Abs.stA p := by
  obtain ⟨m, a, b, h1, _, ha', b1, b2, h2, _, hb', h3⟩ := Abs.ty_struct sh62 h
  obtain ⟨k, c, d, g1, _, gc, e1, e2, g2, _, ge, g3⟩ := Abs.ty_struct sh25 ha'
  obtain ⟨m1, i1, rfl⟩ := Abs.ty_int sh2 gc
  obtain ⟨m2, i2, rfl⟩ := Abs.ty_int sh2 ge
  obtain ⟨m3, i3, rfl⟩ := Abs.ty_int sh3 hb'
  have h3 : b2 = [] := h3
  have g3 : e2 = [] := g3
  subst h3 h2 g3 g2 g1
  exact ⟨((m1, m2), m3), ⟨i1, i2⟩, Abs.agg_of ha h1⟩

theorem is_steps {n : Nat} : ∀ {els : List Abs.AVal}, (∀ x ∈ els, Abs.HasTy Tryz.prog n 62 x.cells ∧ x.cells.length = 3 ∧ x.isAgg = true) → ∃ l : List ((Int × Int) × Int), (∀ p ∈ l, Abs.inW p) ∧ els = l.map Abs.stA
  | [], _ => ⟨[], by simp, rfl⟩
  | x :: els, h => by
      obtain ⟨h1, _, h2⟩ := h x (by simp)
      obtain ⟨p, hp, rfl⟩ := is_step h1 h2
      obtain ⟨l, hl, rfl⟩ := is_steps (els := els) fun y hy => h y (by simp [hy])
      exact ⟨p :: l, fun q hq => (List.mem_cons.mp hq).elim (fun e => e ▸ hp) (hl q), rfl⟩

theorem is_list {n : Nat} {x : Abs.AVal} (h : Abs.HasTy Tryz.prog n 22 x.cells) (ha : x.isAgg = false) :
    ∃ l : List ((Int × Int) × Int), Abs.IsD 3 x (l.map Abs.stA) ∧ l.length ≤ 9223372036854775807 ∧ ∀ p ∈ l, Abs.inW p := by
  rw [Abs.AVal.cells_one ha] at h
  cases n with
  | zero => exact h.elim
  | succ n =>
    unfold Abs.HasTy at h
    rw [sh22] at h
    rcases h with h | ⟨a, c, h⟩ | ⟨els, _, hlen, h, hels⟩
    · simp only [List.cons.injEq, and_true] at h
      exact ⟨[], .inl ⟨rfl, _, _, h⟩, by simp, by simp⟩
    · simp only [List.cons.injEq, and_true] at h
      exact ⟨[], .inl ⟨rfl, _, _, h⟩, by simp, by simp⟩
    · simp only [List.cons.injEq, and_true] at h
      obtain ⟨l, hl, rfl⟩ := is_steps hels
      exact ⟨l, .inr ⟨_, h⟩, by rw [List.length_map] at hlen; exact hlen, hl⟩

/-! ### The walk -/
set_option maxRecDepth 100000 in
theorem walk {H : Type} {enc : TypeId × Value → H} {w : World} {v : Value} {d : DataW H} {p : List MemPlace} {r : Reach} {base : Nat} (hv : Value.okWide Tryz.prog w r base 22 v) (hd : DataW.Trod enc Tryz.prog w 0 (fun _ => true) true 22 v d p) :
    Calls Tryz.prog 3 #[v] w fun e w' => e = .returned (.bool true) ∧ Abs.Same w w' ∧ ∀ (c : Nat) (o : Obj), w.heap[c]? = some o → w'.heap[c]? = some o := by
  obtain ⟨f1, x, h1, h2, h3⟩ := Abs.arg_rel (P := Tryz.prog) (w := w) (sp := fun _ => true) (held := true) (t := 22) (ι := fun _ => ⟨0, 0, 0, 0, 0⟩) hv hd
  obtain ⟨l, hl, hlen, hin⟩ := is_list h1 (h3.trans (by kernel_rfl))
  have := Abs.law3 (w := w) hl hlen hin (awake w) _ _ w [v] (Abs.Rel.start Tryz.prog w) (.cons _ _ _ _ h2 .nil)
  refine Calls.mono this ?_
  rintro e w' ⟨ι', H', σ', ae, rfl, hx, hR, he⟩
  cases hx with
  | ret u u' hu =>
    have := hu.sc_inv
    subst this
    exact ⟨rfl, hR.keep, fun c o hc => hR.imm c (true, o) (he.imm c _ (by simp [hc]))⟩

/-! ### The row -/
set_option maxRecDepth 100000 in
theorem lifted (os : Os) (started : os.Started) (H : Type) (enc : TypeId × Value → H) :
    ReturnsInHanded {} Tryz.checked os 3 .any (Rows.traceLengthsSpec.pre6 enc Tryz.prog Tryz.f3 Rows.traceLengthsRow.domain false) (Rows.traceLengthsSpec.post enc Tryz.prog Tryz.f3 false true false false) := by
  refine returnsInHanded_of_change (C := Tryz.checked) own started (by kernel_rfl) Tryz.func3
    (ChangeSpec.witness6 (enc := enc) (C := Tryz.checked) false ⟨#[], #[.slice none 0 0], []⟩ 8 (by kernel_rfl) (by kernel_rfl) (by kernel_rfl) (by kernel_rfl)) ?_
  intro W base args ds gs before hval0 hW hcnd _
  have hval : ∀ (j : Nat) t v, Tryz.f3.params[j]? = some t → args[j]? = some v → Value.okWide Tryz.prog W .any base t v := hval0
  have hW' := hW
  obtain ⟨p, q, hA0, hV, rfl, hfz, hnd⟩ := hW
  have hA : DataW.TrodAll enc Tryz.prog W 0 (fun _ => true) true Tryz.f3.params.toList args.toList ds p := hA0
  rw [Tryz.params3] at hA hval
  obtain ⟨v, d, rfl, rfl, t1⟩ := trodAll_one hA
  obtain ⟨rfl, rfl⟩ := trodVars_none hV
  refine (walk (hval 0 22 v rfl rfl) t1).mono fun e W' ⟨he, hsm, hg⟩ => ?_
  subst he
  exact ⟨_, rfl, Abs.post_keeps rfl hW' (fun _ _ => (trodAll_cons_mk (shut_bool Tryz.underlying4 _) trodAll_mk0)) rfl rfl (by kernel_rfl) (by kernel_rfl) hsm hg⟩

theorem and_mk {a b : Bool} (ha : a = true) (hb : b = true) : (a && b) = true := by rw [ha, hb]; rfl
set_option linter.unusedVariables false in
theorem jf_of {P : Program} {f : FuncId} {fn : Func} {s : ChangeSpec} {c : OpenClaim} (hA : (fun (P : Program) (f : FuncId) (fn : Func) (s : ChangeSpec) (c : OpenClaim) => ((c.inPlace == P.inPlace f) && (c.unfollowed == P.unfollowed f) && (c.recurses == P.recurses f) && (c.named == P.varsNamed f) : Bool)) P f fn s c = true)
    (hB : (fun (P : Program) (f : FuncId) (fn : Func) (s : ChangeSpec) (c : OpenClaim) => (laidOutB P && mapsRowed P && (c.plainKeys == P.plainKeys) && P.stopsHeard && P.mayEnter && (c.lifted == P.liftsFinal) && (P.make == some c.make) : Bool)) P f fn s c = true)
    (hC : (fun (P : Program) (f : FuncId) (fn : Func) (s : ChangeSpec) (c : OpenClaim) => (c.wf (OpenSpec.ofChange s) && fn.params.all (P.readableRec ·) && namedTie P c.named s.vars && (c.stops == []) && (P.stops == []) && (c.knobs == []) && (P.stopKnobs == []) && (c.maps == (fn.params.toList ++ s.plain.varTypes P).any (P.mapsRec ·)) && (c.ifaces == (fn.params.toList ++ s.plain.varTypes P).any (P.ifacesRec ·)) && (c.mapsOut == P.mapsAmong fn.resultTypes.toList) && (c.loops == (fn.params.toList ++ s.plain.varTypes P).any (P.loopsFrom ·)) && (c.wideKeys == (fn.params.toList ++ s.plain.varTypes P ++ fn.resultTypes.toList).any (P.wideKeysFrom ·)) && s.vars.all (P.varReadable ·) && fn.resultTypes.all (fun t => P.readableRec t && decide (t < P.types.size)) && (c.ifacesOut == fn.resultTypes.toList.any (P.ifacesRec ·)) && (c.loopsOut == fn.resultTypes.toList.any (P.loopsFrom ·)) && c.shortTexts.isNone && (c.kinds == (if c.domain.isEmpty then [] else fn.params.toList.map fun t => match P.underlying t with | some (.int k) => some k | _ => none)) && (c.pinned == c.pinnedBy) && (c.veiled == (fn.params.toList ++ s.plain.varTypes P ++ fn.resultTypes.toList).any (P.veiledRec ·)) && c.veiledFits P fn.params.toList (fn.params.toList ++ s.plain.varTypes P ++ fn.resultTypes.toList) : Bool)) P f fn s c = true) : joinedFacts P f fn s c = true := by
  simp only [Bool.and_eq_true] at hA hB hC
  obtain ⟨⟨⟨h9, h10⟩, h11⟩, h12⟩ := hA
  obtain ⟨⟨⟨⟨⟨⟨h1, h2⟩, h22⟩, h24⟩, h25⟩, h26⟩, h27⟩ := hB
  obtain ⟨⟨⟨⟨⟨⟨⟨⟨⟨⟨⟨⟨⟨⟨⟨⟨⟨⟨⟨⟨h0, h3⟩, h4⟩, h5⟩, h6⟩, h7⟩, h8⟩, h13⟩, h14⟩, h15⟩, h16⟩, h17⟩, h18⟩, h19⟩, h20⟩, h21⟩, h23⟩, h28⟩, h29⟩, h30⟩, h31⟩ := hC
  unfold joinedFacts
  simp only [Bool.and_eq_true]
  exact ⟨⟨⟨⟨⟨⟨⟨⟨⟨⟨⟨⟨⟨⟨⟨⟨⟨⟨⟨⟨⟨⟨⟨⟨⟨⟨⟨⟨⟨⟨⟨h0, h1⟩, h2⟩, h3⟩, h4⟩, h5⟩, h6⟩, h7⟩, h8⟩, h9⟩, h10⟩, h11⟩, h12⟩, h13⟩, h14⟩, h15⟩, h16⟩, h17⟩, h18⟩, h19⟩, h20⟩, h21⟩, h22⟩, h23⟩, h24⟩, h25⟩, h26⟩, h27⟩, h28⟩, h29⟩, h30⟩, h31⟩
theorem jf : joinedFacts Tryz.prog 3 Tryz.f3 Rows.traceLengthsSpec Rows.traceLengthsRow = true := jf_of jA jB (by kernel_rfl)

theorem over : Rows.traceLengthsRow.holds Tryz.pinned (OpenSpec.ofChange Rows.traceLengthsSpec) :=
  OpenClaim.holds_of_wide 3 Tryz.f3 rfl rfl rfl rfl rfl rfl rfl ⟨rfl, rfl, rfl, rfl, rfl⟩ rfl rfl rfl rfl rfl (by kernel_rfl) Tryz.func3 jf
    (of_decide_eq_true (by kernel_rfl)) (by unfold Func.isWrapper; first | (rw [if_pos (by decide +kernel)]; kernel_rfl) | (rw [if_neg (by decide +kernel)]; exact ⟨rfl, rfl⟩))
    (fun os started H enc _ => lifted os started H enc)

/-- The statement. -/
theorem proved : Rows.TraceLengthsSaid :=
  over
#print axioms proved
end Go.Proofs.YtmimfnjcnndhpaaGreat.traceLengths

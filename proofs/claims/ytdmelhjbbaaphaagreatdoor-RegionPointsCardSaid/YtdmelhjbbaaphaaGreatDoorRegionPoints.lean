/-
  PROVED HERE: the statement RegionPointsCardSaid: for every case (constants, a region, clock values, a reset and a constraint) and every ratio to wait for, the call of the law RegionPoints returns true, and both read as they did, where the package-level variables that the row lists start as the program's text lays them (the tied card).
  The functions called are shown to compute plain ones; that waits, resets and constraints do to regions what they do to values is proved of those. The run of the fixed examples is computed by the executor of the abstract layer.
-/
import Derived.Test.YtdmelhjbbaaphaaGreatDoorCards
import Derived.Test.YtdmelhjbbaaphaaGreatDoorTie
import Derived.Test.YtdmelhjbbaaphaaGreatDoorRegionPointsO
import Derived.Test.YtdmelhjbbaaphaaGreatDoorPtRegF2
import Derived.Test.YtdmelhjbbaaphaaGreatDoorPtAbsRow
import Derived.Test.YtdmelhjbbaaphaaGreatDoorPtAbsEn
import Derived.Test.YtdmelhjbbaaphaaGreatDoorRegionPointsJA
import Derived.Test.YtdmelhjbbaaphaaGreatDoorRegionPointsJB
import Derived.KernelRfl
import Derived.WalkKit
import Derived.ProofKit
import Derived.OpenShut
import Derived.LaidMore
import Derived.LaidLaws
import Derived.SevenTiedAt
namespace Go.Proofs.YtdmelhjbbaaphaaGreatDoor.regionPoints
open Go Go.ChangeShapes Go.WideShapes Go.ChangeAt Go.RowKit
set_option linter.unusedVariables false

theorem own : ownKnob Tryz.prog.godebug = none := by kernel_rfl

/-! ### The argument -/
theorem sh32 : Abs.shape Tryz.prog 32 = .struct [22, 25, 26, 28, 30] := by kernel_rfl
theorem sh25 : Abs.shape Tryz.prog 25 = .struct [22, 23] := by kernel_rfl
theorem sh22 : Abs.shape Tryz.prog 22 = .slice 2 1 false := by kernel_rfl
theorem sh23 : Abs.shape Tryz.prog 23 = .slice 3 1 false := by kernel_rfl
theorem sh26 : Abs.shape Tryz.prog 26 = .slice 49 2 true := by kernel_rfl
theorem sh49 : Abs.shape Tryz.prog 49 = .struct [2, 2] := by kernel_rfl
theorem sh28 : Abs.shape Tryz.prog 28 = .struct [3, 2] := by kernel_rfl
theorem sh30 : Abs.shape Tryz.prog 30 = .struct [3, 4, 4, 2] := by kernel_rfl
theorem sh2 : Abs.shape Tryz.prog 2 = .int .i64 := by kernel_rfl
theorem sh3 : Abs.shape Tryz.prog 3 = .int .i64 := by kernel_rfl
theorem sh4 : Abs.shape Tryz.prog 4 = .bool := by kernel_rfl

theorem is_ratio {n : Nat} {x : Abs.AVal} (h : Abs.HasTy Tryz.prog n 49 x.cells) (ha : x.isAgg = true) : ∃ p : Int × Int, (Abs.in64 p.1 ∧ Abs.in64 p.2) ∧ x = Abs.rA p := by
  obtain ⟨m, a, b, h1, _, ha', b1, b2, h2, _, hb', h3⟩ := Abs.ty_struct sh49 h
  obtain ⟨m1, i1, rfl⟩ := Abs.ty_int sh2 ha'
  obtain ⟨m2, i2, rfl⟩ := Abs.ty_int sh2 hb'
  have h3 : b2 = [] := h3
  subst h3 h2
  exact ⟨(m1, m2), ⟨i1, i2⟩, Abs.agg_of ha h1⟩

theorem is_ints {n t e : Nat} {vs : List Abs.AVal} (hs : Abs.shape Tryz.prog t = .slice e 1 false) (he : Abs.shape Tryz.prog e = .int .i64) (h : Abs.HasTy Tryz.prog n t vs) : ∃ (K : Abs.AVal) (k : List Int), vs = [K] ∧ Abs.IsD 1 K (k.map Abs.iA) ∧ k.length ≤ 9223372036854775807 := by
  obtain ⟨s, h1, h2⟩ := Abs.ty_slice (f := Abs.iA) hs h (fun m y hy _ ha => by
    obtain ⟨i, _, hi⟩ := Abs.ty_int he hy
    exact ⟨i, Abs.one_of ha hi⟩)
  exact ⟨_, s.2, h1, Abs.encS_isD _ _ _, h2⟩

theorem is_ratios {n : Nat} {vs : List Abs.AVal} (h : Abs.HasTy Tryz.prog n 26 vs) : ∃ (K : Abs.AVal) (k : List (Int × Int)), vs = [K] ∧ Abs.IsD 2 K (k.map Abs.rA) ∧ k.length ≤ 9223372036854775807 ∧ ∀ x ∈ k, Abs.in64 x.1 ∧ Abs.in64 x.2 := by
  cases n with
  | zero => exact h.elim
  | succ n =>
    unfold Abs.HasTy at h
    rw [sh26] at h
    rcases h with h | ⟨a, c, h⟩ | ⟨els, _, hlen, h, hels⟩
    · exact ⟨_, [], h, .inl ⟨rfl, _, _, rfl⟩, by simp, by simp⟩
    · exact ⟨_, [], h, .inl ⟨rfl, _, _, rfl⟩, by simp, by simp⟩
    · have all : ∀ els : List Abs.AVal, (∀ x ∈ els, Abs.HasTy Tryz.prog n 49 x.cells ∧ x.cells.length = 2 ∧ x.isAgg = true) → ∃ l : List (Int × Int), (∀ p ∈ l, Abs.in64 p.1 ∧ Abs.in64 p.2) ∧ els = l.map Abs.rA := by
        intro els
        induction els with
        | nil => exact fun _ => ⟨[], by simp, rfl⟩
        | cons x els ih =>
          intro h
          obtain ⟨h1, _, h2⟩ := h x (by simp)
          obtain ⟨p, hp, rfl⟩ := is_ratio h1 h2
          obtain ⟨l, hl, rfl⟩ := ih fun y hy => h y (by simp [hy])
          exact ⟨p :: l, fun q hq => (List.mem_cons.mp hq).elim (fun e => e ▸ hp) (hl q), rfl⟩
      obtain ⟨l, hl, rfl⟩ := all els hels
      exact ⟨_, l, h, .inr ⟨_, rfl⟩, by rw [List.length_map] at hlen; exact hlen, hl⟩

theorem is_case {n : Nat} {x : Abs.AVal} (h : Abs.HasTy Tryz.prog n 32 x.cells) (ha : x.isAgg = true) :
    ∃ K W R CL k l r cl p c, x = Abs.caseA K W R CL p c ∧ Abs.IsCase K W R CL k l r cl p c := by
  obtain ⟨m, v1, r1, e1, _, t1, v2, r2, e2, _, t2, v3, r3, e3, _, t3, v4, r4, e4, _, t4, v5, r5, e5, _, t5, e6⟩ := Abs.ty_struct sh32 h
  have e6 : r5 = [] := e6
  obtain ⟨K, k, rfl, hK, lK⟩ := is_ints sh22 sh2 t1
  obtain ⟨m2, u1, s1, f1, _, g1, u2, s2, f2, _, g2, f3⟩ := Abs.ty_struct sh25 t2
  have f3 : s2 = [] := f3
  obtain ⟨W, l, rfl, hW, lW⟩ := is_ints sh22 sh2 g1
  obtain ⟨R, r, rfl, hR, lR⟩ := is_ints sh23 sh3 g2
  obtain ⟨CL, cl, rfl, hC, lC, iC⟩ := is_ratios t3
  obtain ⟨m4, u3, s3, f4, _, g3, u4, s4, f5, _, g4, f6⟩ := Abs.ty_struct sh28 t4
  have f6 : s4 = [] := f6
  obtain ⟨x1, i1, rfl⟩ := Abs.ty_int sh3 g3
  obtain ⟨x2, i2, rfl⟩ := Abs.ty_int sh2 g4
  obtain ⟨m5, u5, s5, f7, _, g5, u6, s6, f8, _, g6, u7, s7, f9, _, g7, u8, s8, f10, _, g8, f11⟩ := Abs.ty_struct sh30 t5
  have f11 : s8 = [] := f11
  obtain ⟨c1, j1, rfl⟩ := Abs.ty_int sh3 g5
  obtain ⟨c2, rfl⟩ := Abs.ty_bool sh4 g6
  obtain ⟨c3, rfl⟩ := Abs.ty_bool sh4 g7
  obtain ⟨c4, j4, rfl⟩ := Abs.ty_int sh2 g8
  subst e6 f3 f2 f1 f6 f5 f4 f11 f10 f9 f8 f7 e5 e4 e3 e2
  exact ⟨K, W, R, CL, k, l, r, cl, (x1, x2), (c1, c2, c3, c4), Abs.agg_of ha e1, ⟨hK, hW, hR, hC, lK, lW, lR, lC, iC, ⟨i1, i2⟩, ⟨j1, j4⟩⟩⟩

/-! ### The fixed examples -/
theorem awake (w : World) : Abs.Gives (Abs.EE w) 6 [] fun v => v = .sc (.bool true) := by
  intro σ
  have h : (⟨6, [], [(.ret (.sc (.bool true)))]⟩ : Abs.Mem) = m23 := rfl
  refine Abs.ACalls.mono (Abs.memOk_sound (E := Abs.Env.of Tryz.prog w) (m := m23) rfl (o22 w) (c23 w) σ) ?_
  rintro e σ' ⟨rfl, he⟩
  rw [← h] at he
  simp only [List.mem_singleton] at he
  exact ⟨rfl, _, rfl, he⟩

/-! ### The walk -/
set_option maxRecDepth 100000 in
theorem walk {H : Type} {enc : TypeId × Value → H} {w : World} {v v' : Value} {d d' : DataW H} {p p' : List MemPlace} {r : Reach} {base : Nat} (hv : Value.okWide Tryz.prog w r base 32 v) (hd : DataW.Trod enc Tryz.prog w 0 (fun _ => true) true 32 v d p)
    (hv' : Value.okWide Tryz.prog w r base 49 v') (hd' : DataW.Trod enc Tryz.prog w 0 (fun _ => true) true 49 v' d' p') :
    Calls Tryz.prog 4 #[v, v'] w fun e w' => e = .returned (.bool true) ∧ Abs.Same w w' ∧ ∀ (c : Nat) (o : Obj), w.heap[c]? = some o → w'.heap[c]? = some o := by
  obtain ⟨f1, x, h1, h2, h3⟩ := Abs.arg_rel (P := Tryz.prog) (w := w) (sp := fun _ => true) (held := true) (t := 32) (ι := fun _ => ⟨0, 0, 0, 0, 0⟩) hv hd
  obtain ⟨f2, x', h4, h5, h6⟩ := Abs.arg_rel (P := Tryz.prog) (w := w) (sp := fun _ => true) (held := true) (t := 49) (ι := fun _ => ⟨0, 0, 0, 0, 0⟩) hv' hd'
  obtain ⟨K, W, R, CL, k, l, r, cl, p, c, rfl, hc⟩ := is_case h1 (h3.trans (by kernel_rfl))
  obtain ⟨y, hy, rfl⟩ := is_ratio h4 (h6.trans (by kernel_rfl))
  have := Abs.law4 (w := w) hc hy (awake w) _ _ w [v, v'] (Abs.Rel.start Tryz.prog w) (.cons _ _ _ _ h2 (.cons _ _ _ _ h5 .nil))
  refine Calls.mono this ?_
  rintro e w' ⟨ι', H', σ', ae, rfl, hx, hR, he⟩
  cases hx with
  | ret u u' hu =>
    have := hu.sc_inv
    subst this
    exact ⟨rfl, hR.keep, fun c o hc => hR.imm c (true, o) (he.imm c _ (by simp [hc]))⟩

/-! ### The row -/
theorem door_met (os : Os) (args : Array Value) : laidMetH Tryz.prog Rows.regionPointsRow.laid ((World.doorLaid Tryz.prog 200 os).forCall (fun _ _ => 0) ⟨#[], args, []⟩).memory :=
  laidMetH_of_parts3 (fuel := 8) (laidMet_of_run' 8 (by kernel_rfl) (by kernel_rfl)) (by kernel_rfl) (by kernel_rfl)

set_option maxRecDepth 100000 in
theorem lifted (os : Os) (started : os.Started) (H : Type) (enc : TypeId × Value → H) :
    ReturnsInHanded {} Tryz.checked os 4 .any (fun w args => (Rows.regionPointsSpec.pre enc Tryz.prog Tryz.f4 [] false w args ∧ laidMetH Tryz.prog Rows.regionPointsRow.laid w) ∧ sizedMet enc Tryz.prog Tryz.f4 (OpenSpec.ofChange Rows.regionPointsSpec) false w args)
      (Rows.regionPointsSpec.post enc Tryz.prog Tryz.f4 false true false false) := by
  refine returnsInHanded_of_change_and (C := Tryz.checked) (X := fun w _ => laidMetH Tryz.prog Rows.regionPointsRow.laid w) (fun _ _ _ hh h => h.of_heap hh) own started (by kernel_rfl) Tryz.func4
    (ChangeSpec.witness_shaped (enc := enc) (C := Tryz.checked) (os := os) (X := fun w _ => laidMetH Tryz.prog Rows.regionPointsRow.laid w) false (World.doorLaid Tryz.prog 200 os) #[.agg #[.slice none 0 0, .slice none 0 0, .slice none 0 0, .slice none 0 0, .int .i64 0, .int .i64 0, .int .i64 0, .bool false, .bool false, .int .i64 0], .agg #[.int .i64 0, .int .i64 0]] 8 rfl (World.shaped_of_RefB (by kernel_rfl) (by kernel_rfl)) (by kernel_rfl) (by kernel_rfl) (by kernel_rfl) (door_met os _)) ?_
  intro W base args ds gs before hval0 hW _ _ hL _
  have hval : ∀ (j : Nat) t v, Tryz.f4.params[j]? = some t → args[j]? = some v → Value.okWide Tryz.prog W .any base t v := hval0
  have hW' := hW
  obtain ⟨p, q, hA0, hV, rfl, hfz, hnd⟩ := hW
  have hA : DataW.TrodAll enc Tryz.prog W 0 (fun _ => true) true Tryz.f4.params.toList args.toList ds p := hA0
  rw [Tryz.params4] at hA hval
  obtain ⟨v, v', d, d', p1, p2, rfl, rfl, rfl, t1, t2⟩ := trodAll_two hA
  obtain ⟨rfl, rfl⟩ := trodVars_none hV
  refine (walk (hval 0 32 v rfl rfl) t1 (hval 1 49 v' rfl rfl) t2).mono fun e W' ⟨he, hsm, hg⟩ => ?_
  subst he
  exact ⟨_, rfl, Abs.post_keeps rfl hW' (fun _ _ => (trodAll_cons_mk (shut_bool Tryz.underlying4 _) trodAll_mk0)) rfl rfl (by kernel_rfl) (by kernel_rfl) hsm hg⟩

theorem and_mk {a b : Bool} (ha : a = true) (hb : b = true) : (a && b) = true := by rw [ha, hb]; rfl
set_option linter.unusedVariables false in
theorem jf_of {P : Program} {f : FuncId} {fn : Func} {s : ChangeSpec} {c : OpenClaim} (hA : (fun (P : Program) (f : FuncId) (fn : Func) (s : ChangeSpec) (c : OpenClaim) => ((c.inPlace == P.inPlace f) && (c.unfollowed == P.unfollowed f) && (c.recurses == P.recurses f) && (c.named == P.varsNamed f) : Bool)) P f fn s c = true)
    (hB : (fun (P : Program) (f : FuncId) (fn : Func) (s : ChangeSpec) (c : OpenClaim) => (laidOutB P && mapsRowed P && (c.plainKeys == P.plainKeys) && P.stopsHeard && P.mayEnter && (c.lifted == P.liftsFinal) && (P.make == some c.make) : Bool)) P f fn s c = true)
    (hC : (fun (P : Program) (f : FuncId) (fn : Func) (s : ChangeSpec) (c : OpenClaim) => (c.wf (OpenSpec.ofChange s) && fn.params.all (P.readableRec ·) && namedTie P c.named s.vars && (c.stops == []) && (P.stops == []) && (c.knobs == []) && (P.stopKnobs == []) && (c.maps == (fn.params.toList ++ s.plain.varTypes P).any (P.mapsRec ·)) && (c.ifaces == (fn.params.toList ++ s.plain.varTypes P).any (P.ifacesRec ·)) && (c.mapsOut == P.mapsAmong fn.resultTypes.toList) && (c.loops == (fn.params.toList ++ s.plain.varTypes P).any (P.loopsFrom ·)) && (c.wideKeys == (fn.params.toList ++ s.plain.varTypes P ++ fn.resultTypes.toList).any (P.wideKeysFrom ·)) && s.vars.all (P.varReadable ·) && fn.resultTypes.all (fun t => P.readableRec t && decide (t < P.types.size)) && (c.ifacesOut == fn.resultTypes.toList.any (P.ifacesRec ·)) && (c.loopsOut == fn.resultTypes.toList.any (P.loopsFrom ·)) && c.shortTexts.isNone && (c.kinds == (if c.domain.isEmpty then [] else fn.params.toList.map fun t => match P.underlying t with | some (.int k) => some k | _ => none)) && (c.pinned == c.pinnedBy) && (c.veiled == (fn.params.toList ++ s.plain.varTypes P ++ fn.resultTypes.toList).any (P.veiledRec ·)) && c.veiledFits P fn.params.toList (fn.params.toList ++ s.plain.varTypes P ++ fn.resultTypes.toList) : Bool)) P f fn s c = true) : joinedFacts P f fn s c = true := by
  simp only [Bool.and_eq_true] at hA hB hC
  obtain ⟨⟨⟨h9, h10⟩, h11⟩, h12⟩ := hA
  obtain ⟨⟨⟨⟨⟨⟨h1, h2⟩, h22⟩, h24⟩, h25⟩, h26⟩, h27⟩ := hB
  obtain ⟨⟨⟨⟨⟨⟨⟨⟨⟨⟨⟨⟨⟨⟨⟨⟨⟨⟨⟨⟨h0, h3⟩, h4⟩, h5⟩, h6⟩, h7⟩, h8⟩, h13⟩, h14⟩, h15⟩, h16⟩, h17⟩, h18⟩, h19⟩, h20⟩, h21⟩, h23⟩, h28⟩, h29⟩, h30⟩, h31⟩ := hC
  unfold joinedFacts
  simp only [Bool.and_eq_true]
  exact ⟨⟨⟨⟨⟨⟨⟨⟨⟨⟨⟨⟨⟨⟨⟨⟨⟨⟨⟨⟨⟨⟨⟨⟨⟨⟨⟨⟨⟨⟨⟨h0, h1⟩, h2⟩, h3⟩, h4⟩, h5⟩, h6⟩, h7⟩, h8⟩, h9⟩, h10⟩, h11⟩, h12⟩, h13⟩, h14⟩, h15⟩, h16⟩, h17⟩, h18⟩, h19⟩, h20⟩, h21⟩, h22⟩, h23⟩, h24⟩, h25⟩, h26⟩, h27⟩, h28⟩, h29⟩, h30⟩, h31⟩
theorem jf : joinedFacts Tryz.prog 4 Tryz.f4 Rows.regionPointsSpec Rows.regionPointsRow = true := jf_of jA jB (by kernel_rfl)

theorem over : Rows.regionPointsRow.holds Tryz.pinned (OpenSpec.ofChange Rows.regionPointsSpec) :=
  OpenClaim.holds_of_wide 4 Tryz.f4 rfl rfl rfl rfl rfl rfl rfl ⟨rfl, rfl, rfl, rfl, rfl⟩ rfl rfl rfl rfl rfl (by kernel_rfl) Tryz.func4 jf
    (of_decide_eq_true (by kernel_rfl)) (by unfold Func.isWrapper; first | (rw [if_pos (by decide +kernel)]; kernel_rfl) | (rw [if_neg (by decide +kernel)]; exact ⟨rfl, rfl⟩))
    (fun os started H enc _ => lifted os started H enc)

/-- The statement. -/
theorem proved : Rows.RegionPointsCardSaid :=
  Claim7.holds_tied_plain_at .later [] [.data, .data, .data] true (true, "cba828a17011aece6a331186670014f0e6808eac9d44177dc68c491058e6ae28") true
    over (fun _ h => by cases h) (by kernel_rfl) (fun _ h => by cases h) regionPoints_row_tie rfl ⟨rfl, rfl⟩ (by kernel_rfl) rfl
    (fun f fn hf hfn => by
      obtain rfl : f = 4 := Option.some.inj ((show Tryz.prog.funcNamed "foliot/foliotlaw19.RegionPoints" = some 4 by kernel_rfl).symm.trans hf) |>.symm
      obtain rfl : fn = Tryz.f4 := (Option.some.inj (Tryz.func4.symm.trans hfn)).symm
      exact ⟨by kernel_rfl, fun j t ht => by
        rw [Tryz.params4] at ht
        cases j with
        | zero => simp at ht; subst ht; kernel_rfl
        | succ j =>
          cases j with
          | zero => simp at ht; subst ht; kernel_rfl
          | succ j => simp at ht⟩)
    (by kernel_rfl)
#print axioms proved
end Go.Proofs.YtdmelhjbbaaphaaGreatDoor.regionPoints

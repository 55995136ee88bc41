/-
  Part of the abstract layer (O): values, stores and steps that stand for those of the model, and the proof that they do. It proves no statement by itself.
-/
import Derived.Test.YtmimfnjcnndhpaaGreatAbsN
noncomputable section
namespace Abs
set_option linter.unusedVariables false
set_option linter.unusedSimpArgs false
set_option linter.unusedSectionVars false
open Go

section
variable {E : Env} {ι : Inj} {H : Imm} {σ σ' : AStore} {w : World}

theorem run_callFunc {f : FuncId} (hf : E.fns f = true) (args : Array Value) : (callFunc f args).run E.P w = .ok (.enter f args) w := by
  obtain ⟨fn, h1, h2, h3⟩ := E.fok f hf
  simp only [callFunc, Sem.run_bind, run_program, Result.andThen_ok, h1, h2, h3, Bool.false_eq_true, if_false, Sem.run_pure]

theorem run_noesc {f : FuncId} (hf : E.nes f = true) (x : Value) : (callFunc f #[x]).run E.P w = .ok (.value x) w := by
  obtain ⟨fn, h1, h2, h3, h4, h5⟩ := E.nok f hf
  have h6 : (mark (Mark.extern f)).run E.P w = .ok () w := rfl
  simp only [callFunc, Sem.run_bind, run_program, Result.andThen_ok, h1, h2, h3, h4, h5, h6, Bool.false_eq_true, if_false, if_true, Sem.run_pure, Lib.run_noEscape]

theorem LRel.cons_inv {n : Nat} {v : AVal} {vs : List AVal} {ws : List Value} (h : LRel n ι H (v :: vs) ws) : ∃ w ws', ws = w :: ws' ∧ VRel n ι H v w ∧ LRel n ι H vs ws' := by
  cases h; exact ⟨_, _, rfl, by assumption, by assumption⟩
theorem LRel.nil_inv {n : Nat} {ws : List Value} (h : LRel n ι H [] ws) : ws = [] := by cases h; rfl

theorem aBuiltin_sound (hR : Rel E ι H σ w) {b : Builtin} {ats : Array TypeId} {args : List AVal} {args' : List Value} (ha : LRel σ.next ι H args args') (rt : TypeId) (cs : Array Bool) :
    ResRel E ι H σ w ((builtin b ats rt cs args'.toArray).run E.P w) (aBuiltin E b ats.toList args σ) := by
  have v : ∀ s : Sem Value, ((do pure (Next.value (← s)) : Sem Next)).run E.P w = (s.run E.P w).andThen fun a w' => .ok (.value a) w' := fun s => by simp
  unfold aBuiltin
  split
  · rename_i t t2 s x hats
    obtain ⟨s', _, rfl, hs, ha⟩ := ha.cons_inv
    obtain ⟨x', _, rfl, hx, ha⟩ := ha.cons_inv
    obtain rfl := ha.nil_inv
    obtain rfl : ats = #[t, t2] := by cases ats; simpa using hats
    split
    · rename_i j i2 hj hi2
      split
      · rename_i hc
        split
        · rename_i xs hxs
          obtain ⟨i, e, h1, h2, h3⟩ := sliceElem_some hj
          simp only [builtin, v]
          refine ResRel.ofO fun y σ' hy => ?_
          refine appTag_sound ?_ ⟨e, i, h1, h2⟩ hy
          intro e' i' g1 g2 y σ' hy
          rw [h1] at g1
          cases g1
          rw [h2] at g2
          cases g2
          refine aAppend_sound hR h1 h2 h3 hc.1 hi2 ?_ hs hx hxs hy rt
          have := hc.2
          unfold srcOk at this
          split at this
          · rename_i e he; exact .inl ⟨e, he⟩
          · rename_i he; exact .inr he
          · cases this
        · trivial
      · trivial
    · trivial
  · rename_i t x hats
    obtain ⟨x', _, rfl, hx, ha⟩ := ha.cons_inv
    obtain rfl := ha.nil_inv
    obtain rfl : ats = #[t] := by cases ats; simpa using hats
    split
    · rename_i i hi
      simp only [builtin, v]
      exact ResRel.ofV fun y hy => aLen_sound hR hi hx hy rt rfl
    · trivial
  · rename_i t tr d s hats
    obtain ⟨d', _, rfl, hd, ha⟩ := ha.cons_inv
    obtain ⟨s', _, rfl, hs, ha⟩ := ha.cons_inv
    obtain rfl := ha.nil_inv
    have h0 : ats[0]? = some t := by cases ats; simp at hats; simp [hats]
    split
    · rename_i j hj
      obtain ⟨i, e, h1, h2, h3⟩ := sliceElem_some hj
      simp only [builtin, v]
      exact ResRel.ofO fun y σ' hy => aCopy_sound hR h1 h2 h3 hd hs hy rt h0
    · trivial
  · rename_i t tr m k hats
    obtain ⟨m', _, rfl, hm, ha⟩ := ha.cons_inv
    obtain ⟨k', _, rfl, hk, ha⟩ := ha.cons_inv
    obtain rfl := ha.nil_inv
    have h0 : ats[0]? = some t := by cases ats; simp at hats; simp [hats]
    split
    · rename_i ki ei hj
      obtain ⟨i, kt, et, h1, h2, h3, h4⟩ := mapOf_some hj
      split
      · rename_i σ1 hσ
        obtain ⟨w', r1, r2, r3⟩ := aMapDel_sound hR h1 h2 h3 hm hk hσ rt h0
        refine ⟨.tuple #[], w', ι, H, ?_, .tuple [] [] .nil, r2, ⟨by omega, fun _ _ => rfl, Imm.Le.refl _⟩⟩
        simp only [builtin, v, r1, Result.andThen_ok]
      · trivial
    · trivial
  · rename_i x xs
    obtain ⟨x', ws, rfl, hx, ha⟩ := ha.cons_inv
    simp only [builtin, v]
    refine ResRel.ofV fun y hy => ?_
    obtain ⟨v', r1, r2⟩ := run_max2 (w := w) true E.P xs ws x x' ha hx hy
    exact SndV.same hR (by simpa [Builtin.max_] using r1) r2
  · rename_i x xs
    obtain ⟨x', ws, rfl, hx, ha⟩ := ha.cons_inv
    simp only [builtin, v]
    refine ResRel.ofV fun y hy => ?_
    obtain ⟨v', r1, r2⟩ := run_max2 (w := w) false E.P xs ws x x' ha hx hy
    exact SndV.same hR (by simpa [Builtin.min_] using r1) r2
  · simp [ResRel, builtin]
  · rename_i x
    obtain ⟨x', _, rfl, hx, ha⟩ := ha.cons_inv
    obtain rfl := ha.nil_inv
    simp only [builtin, v]
    exact ResRel.ofV fun y hy => aSliceData_sound hR hx hy ats rt
  · rename_i pt it p n hats
    obtain ⟨p', _, rfl, hp, ha⟩ := ha.cons_inv
    obtain ⟨n', _, rfl, hn, ha⟩ := ha.cons_inv
    obtain rfl := ha.nil_inv
    obtain rfl : ats = #[pt, it] := by cases ats; simpa using hats
    simp only [builtin, v]
    exact ResRel.ofO fun y σ' hy => aUStr_sound hR hp hn hy rt
  · trivial

theorem aOp_sound (hR : Rel E ι H σ w) {ρ : ARho} {ρ' : Operand → Value} (hρ : RhoRel σ.next ι H ρ ρ') (lit : Bool) (o : Oper) : ResRel E ι H σ w ((execOp ρ' o).run E.P w) (aOp E lit o.op ρ σ) := by
  have v : ∀ s : Sem Value, ((do pure (Next.value (← s)) : Sem Next)).run E.P w = (s.run E.P w).andThen fun a w' => .ok (.value a) w' := fun s => by simp
  have u : ∀ s : Sem Unit, ((do s; pure Next.skip : Sem Next)).run E.P w = (s.run E.P w).andThen fun _ w' => .ok .skip w' := fun s => by simp
  have mv : ∀ x, ResRel E ι H σ w (.ok (.value (ρ' x)) w) (.ofV σ (ρ x)) := by
    intro x
    cases hx : ρ x with
    | none => trivial
    | some y => exact ⟨_, w, ι, H, rfl, hρ x y hx, hR, Ext.refl _ _ _⟩
  obtain ⟨dst, op, ty, pos, after, guard⟩ := o
  cases op
  case move x => exact mv x
  case assign x => exact mv x
  case pick c a b =>
    simp only [aOp]
    split
    · rename_i t ht
      have hc := (hρ c _ ht).sc_inv
      simp only [execOp, Sem.run_bind, hc, asBool, Sem.run_pure, Result.andThen_ok]
      cases t <;> simp <;> exact mv _
    · trivial
  case alloc t =>
    simp only [aOp]
    split
    · rename_i i hi
      simp only [execOp, v]
      refine ResRel.ofO fun y σ' hy => ?_
      refine SndT.tag (tg := isBld (absV i.zero)) (el := t) ?_ hy
      intro y σ' hy
      have := aNew_sound hR t (absV_rel _ _ _ i.zero) hy
      obtain ⟨v', w', ι', H', h1, h2, h3, h4, h5⟩ := this
      refine ⟨v', w', ι', H', ?_, h2, h3, h4, fun _ => h5 rfl⟩
      simpa [Instr.alloc, run_zeroValue E.ok hi] using h1
    · trivial
  case box t x =>
    simp only [aOp]
    split
    · rename_i y hy
      simp only [execOp, v]
      exact ResRel.ofO fun z σ' hz => (aNew_sound hR t (hρ x y hy) hz).snd
    · trivial
  case build t parts =>
    simp only [aOp]
    split
    · rename_i i ps hi hps
      have hp := partsSome_rel hρ hps
      have e : (parts.map fun (i, x) => (i, ρ' x)).toList = parts.toList.map fun (i, x) => (i, ρ' x) := by simp
      rw [← e] at hp
      split
      · rename_i fs hd
        simp only [execOp, v]
        exact ResRel.ofV fun y hy => aBuildS_sound hR hi hd hp hy
      · rename_i n el hd
        split
        · rename_i j hj
          simp only [execOp, v]
          exact ResRel.ofV fun y hy => aBuildA_sound hR hi hd hj hp hy
        · trivial
      · trivial
    · trivial
  case buildSlice t len parts =>
    simp only [aOp]
    split
    · rename_i j ps hj hps
      have hp := partsSome_rel hρ hps
      have e : (parts.map fun (i, x) => (i, ρ' x)).toList = parts.toList.map fun (i, x) => (i, ρ' x) := by simp
      rw [← e] at hp
      obtain ⟨i, el, h1, h2, h3⟩ := sliceElem_some hj
      simp only [execOp, v]
      cases lit with
      | true => exact ResRel.ofV fun y hy => aLitSlice_sound hR h1 h2 h3 hp hy
      | false => exact ResRel.ofO fun y σ' hy => aBuildSlice_sound hR h1 h2 h3 hp hy
    · trivial
  case load t a =>
    simp only [aOp]
    split
    · rename_i i p hi hp
      simp only [execOp, v]
      refine ResRel.ofV fun y hy => ?_
      obtain ⟨v', r1, r2⟩ := aLoad_sound hi hR (hρ a p hp) hy
      exact SndV.same hR r1 r2
    · trivial
  case store t a x =>
    simp only [aOp]
    split
    · rename_i i p y hi hp hy
      simp only [execOp, u]
      exact ResRel.ofS fun σ' h => aStore_sound hi hR (hρ a p hp) (hρ x y hy) h
    · trivial
  case nilCheck x =>
    simp only [aOp]
    split
    · rename_i b i k hx
      have h := hρ x _ hx
      obtain ⟨_, he⟩ := h.ptr_inv
      refine ⟨_, w, ι, H, ?_, h, hR, Ext.refl _ _ _⟩
      simp only [execOp, he, Sem.run_pure]
    · rename_i cs hx
      have h := hρ x _ hx
      obtain ⟨_, _, he, _⟩ := h.iptr_inv
      refine ⟨_, w, ι, H, ?_, h, hR, Ext.refl _ _ _⟩
      simp only [execOp, he, Sem.run_pure]
    · rename_i f a b hx
      have h := hρ x _ hx
      obtain ⟨_, _, he, _⟩ := h.func_inv
      refine ⟨_, w, ι, H, ?_, h, hR, Ext.refl _ _ _⟩
      simp only [execOp, he, Sem.run_pure]
    · rename_i t y hx
      have h := hρ x _ hx
      obtain ⟨_, he, _⟩ := h.iface_inv
      refine ⟨_, w, ι, H, ?_, h, hR, Ext.refl _ _ _⟩
      simp only [execOp, he, Sem.run_pure]
    · trivial
  case binOp op t x y yt =>
    simp only [aOp]
    split
    · rename_i i a b hi ha hb
      simp only [execOp, v]
      exact ResRel.ofV fun z hz => aBin2_sound hR hi (hρ x a ha) (hρ y b hb) hz
    · trivial
  case unOp op t x =>
    simp only [aOp]
    split
    · rename_i a ha
      simp only [execOp, v]
      exact ResRel.ofV fun z hz => aUn_sound hR (hρ x a ha) hz
    · trivial
  case convert s d x =>
    simp only [aOp]
    split
    · rename_i i j a hi hj ha
      simp only [execOp, v]
      exact ResRel.ofO fun z σ' hz => aConv_sound hR hi hj (hρ x a ha) hz
    · trivial
  case makeInterface t x =>
    simp only [aOp]
    split
    · rename_i i a hi ha
      simp only [execOp, v]
      exact ResRel.ofV fun z hz => aIface_sound hR hi (hρ x a ha) hz
    · trivial
  case makeFunc fn first captured =>
    simp only [aOp]
    split
    · rename_i a b ha hb
      have h1 := allSome_rel hρ ha
      have h2 := allSome_rel hρ hb
      refine ⟨.func fn (first.map ρ') (captured.map ρ'), w, ι, H, ?_, ?_, hR, Ext.refl _ _ _⟩
      · simp [execOp, Instr.makeFunc]
      · have := VRel.func fn a b _ _ h1 h2
        rw [← Array.toList_map, ← Array.toList_map, Array.toArray_toList, Array.toArray_toList] at this
        exact this
    · trivial
  case makeMap t r =>
    have fin : ValRel E ι H σ (.ok (.value (.map (some w.heap.size))) { w with heap := w.heap.push (.map #[] 0) }) (.map σ.next) (σ.alloc (.map [] 0)) := by
      refine ⟨_, _, upd ι σ.next ⟨w.heap.size, 0, 0, 0, 0⟩, H, rfl, ?_, hR.alloc rfl ⟨#[], by simp, .nil, by simp, by simp, by simp⟩, Ext.upd _ _ _ _⟩
      have := VRel.map (n := σ.next + 1) (ι := upd ι σ.next ⟨w.heap.size, 0, 0, 0, 0⟩) (H := H) σ.next (by omega)
      simp only [upd_self] at this
      exact this
    cases r with
    | none =>
      simp only [aOp]
      exact fin
    | some r =>
      simp only [aOp]
      split
      · rename_i p k n hp hr
        obtain ⟨i, kt, et, h1, h2, h3, h4⟩ := mapOf_some hp
        have hc := (hρ r _ hr).sc_inv
        have : (execOp ρ' { dst := dst, op := .makeMap t (some r), type := ty, pos := pos, after := after, guard := guard }).run E.P w =
            .ok (.value (.map (some w.heap.size))) { w with heap := w.heap.push (.map #[] 0) } := by
          simp [execOp, Instr.makeMap, run_underlying E.ok h1, h2, hc, asInt, asIntOf]
        rw [this]
        exact fin
      · trivial
  case makeSlice t l c =>
    simp only [aOp]
    split
    · rename_i j a b hj ha hb
      obtain ⟨i, el, h1, h2, h3⟩ := sliceElem_some hj
      simp only [execOp, v]
      exact ResRel.ofO fun z σ' hz => aMakeSlice_sound hR h1 h2 h3 (hρ l a ha) (hρ c b hb) hz
    · trivial
  case slice t x lo hi mx =>
    cases mx with
    | some m =>
      simp only [aOp]
      split
      · rename_i i a l h mx hi1 ha hl hh hm
        have o1 := optSome_rel hρ hl
        have o2 := optSome_rel hρ hh
        have o3 := optSome_rel hρ hm
        split
        · rename_i e hd
          split
          · rename_i j hj
            simp only [execOp, v]
            exact ResRel.ofV fun z hz => aSlice3_sound hR hi1 hd hj (hρ x a ha) o1 o2 o3 hz
          · trivial
        · trivial
      · trivial
    | none =>
      simp only [aOp]
      split
      · rename_i i a l h hi1 ha hl hh
        have o1 := optSome_rel hρ hl
        have o2 := optSome_rel hρ hh
        split
        · rename_i hd
          simp only [execOp, v]
          exact ResRel.ofV fun z hz => aSliceStr_sound hR hi1 hd (hρ x a ha) o1 o2 hz
        · rename_i e hd
          split
          · rename_i j hj
            simp only [execOp, v]
            exact ResRel.ofV fun z hz => aSlice_sound hR hi1 hd hj (hρ x a ha) o1 o2 hz
          · trivial
        · rename_i arr hd
          split
          · rename_i ia hia
            split
            · rename_i n e hda
              split
              · rename_i j hj
                simp only [execOp, v]
                exact ResRel.ofO fun z σ' hz => aSliceArr_sound hR hi1 hd hia hda hj (hρ x a ha) o1 o2 hz
              · trivial
            · trivial
          · trivial
        · rename_i n e hd
          split
          · rename_i j hj
            simp only [execOp, v]
            exact ResRel.ofO fun z σ' hz => aSliceArr_soundA hR hi1 hd hj (hρ x a ha) o1 o2 hz
          · trivial
        · trivial
      · trivial
  case fieldAddr s x f =>
    simp only [aOp]
    split
    · rename_i off j p hf hp
      obtain ⟨i, fs, fd, h1, h2, h3, h4, h5⟩ := fieldOf_some hf
      simp only at h4 h5
      subst h4
      split
      · rename_i hj
        simp only [execOp, v]
        exact ResRel.ofV fun z hz => aField_sound hR h1 h2 h3 h5 hj (hρ x p hp) hz
      · trivial
    · trivial
  case field s x f =>
    simp only [aOp]
    split
    · rename_i off j p hf hp
      obtain ⟨i, fs, fd, h1, h2, h3, h4, h5⟩ := fieldOf_some hf
      simp only at h4 h5
      subst h4
      simp only [execOp, v]
      exact ResRel.ofV fun z hz => aPart_field_sound hR h1 h2 h3 h5 (hρ x p hp) hz
    · trivial
  case indexAddr t x ix =>
    simp only [aOp]
    split
    · rename_i a i ha hi
      split
      · rename_i j hj
        obtain ⟨ti, el, h1, h2, h3⟩ := sliceElem_some hj
        simp only [execOp, v]
        exact ResRel.ofV fun z hz => aIndexS_sound hR h1 h2 h3 (hρ x a ha) (hρ ix i hi) hz
      · split
        · rename_i n j hj
          obtain ⟨ti, el, h1, h2, h3⟩ := arrayOf_some hj
          simp only [execOp, v]
          exact ResRel.ofV fun z hz => aIndexA_sound hR h1 h2 h3 (hρ x a ha) (hρ ix i hi) hz
        · trivial
    · trivial
  case index t x ix =>
    simp only [aOp]
    split
    · rename_i a i ha hi
      split
      · rename_i n j hj
        obtain ⟨ti, el, h1, h2, h3⟩ := arrayOf_some hj
        simp only [execOp, v]
        exact ResRel.ofV fun z hz => aIndexV_sound hR h1 h2 h3 (hρ x a ha) (hρ ix i hi) hz
      · split
        · rename_i ti hti
          split
          · rename_i hd
            simp only [execOp, v]
            exact ResRel.ofV fun z hz => aIndexStr_sound hR hti hd (hρ x a ha) (hρ ix i hi) hz
          · trivial
        · trivial
    · trivial
  case lookup t x ix ok =>
    simp only [aOp]
    split
    · rename_i ki ei a k hm ha hk
      obtain ⟨i, kt, et, h1, h2, h3, h4⟩ := mapOf_some hm
      simp only [execOp, v]
      exact ResRel.ofV fun z hz => aLookup_sound hR h1 h2 h3 h4 (hρ x a ha) (hρ ix k hk) hz
    · trivial
  case mapUpdate t m k x =>
    simp only [aOp]
    split
    · rename_i ki ei a b c hm ha hb hc
      obtain ⟨i, kt, et, h1, h2, h3, h4⟩ := mapOf_some hm
      simp only [execOp, u]
      exact ResRel.ofS fun σ' h => aMapSet_sound hR h1 h2 h3 (hρ m a ha) (hρ k b hb) (hρ x c hc) h
    · trivial
  case insert t m k x =>
    simp only [aOp]
    split
    · rename_i ki ei a b c hm ha hb hc
      obtain ⟨i, kt, et, h1, h2, h3, h4⟩ := mapOf_some hm
      simp only [execOp, u]
      exact ResRel.ofS fun σ' h => aMapSet_sound hR h1 h2 h3 (hρ m a ha) (hρ k b hb) (hρ x c hc) h
    · trivial
  case range t x =>
    simp only [aOp]
    split
    · rename_i i a hi ha
      simp only [execOp, v]
      exact ResRel.ofO fun z σ' hz => aRange_sound hR hi (hρ x a ha) hz
    · trivial
  case next it isS =>
    simp only [aOp]
    split
    · rename_i a ha
      simp only [execOp, v]
      cases hn : aNext a isS σ with
      | none => trivial
      | some l =>
        obtain ⟨p, hp, h⟩ := aNext_sound hR (hρ it a ha) hn ty
        exact ⟨p, hp, h.next⟩
    · trivial
  case entry it =>
    simp only [aOp]
    split
    · rename_i a ha
      simp only [execOp, v]
      exact ResRel.ofV fun z hz => aEntry_sound hR (hρ it a ha) hz
    · trivial
  case typeAssert x xt t ok =>
    simp only [aOp]
    split
    · rename_i i a hi ha
      simp only [execOp, v]
      exact ResRel.ofV fun z hz => aAssert_sound hR hi (hρ x a ha) hz
    · trivial
  case extract t ix =>
    simp only [aOp]
    split
    · rename_i a ha
      simp only [execOp, v]
      exact ResRel.ofV fun z hz => aExtract_sound hR (hρ t a ha) hz
    · trivial
  case call c =>
    obtain ⟨callee, args, ats⟩ := c
    simp only [aOp]
    split
    · rename_i as has
      have h1 := allSome_rel hρ has
      cases callee with
      | builtin b =>
        simp only []
        have key : ∀ cs, ResRel E ι H σ w ((builtin b ats ty cs (args.map ρ')).run E.P w) (aBuiltin E b ats.toList as σ) := by
          intro cs
          have := aBuiltin_sound hR (b := b) (ats := ats) h1 ty cs
          rw [← Array.toList_map, Array.toArray_toList] at this
          exact this
        simp only [execOp, resolve, invoke, Sem.run_bind, Sem.run_pure, Result.andThen_ok]
        exact key _
      | value f =>
        simp only []
        split
        · rename_i g first cap hf
          split
          · rename_i hg
            obtain ⟨fs', cs', he, hfs, hcs⟩ := (hρ f _ hf).func_inv
            refine ⟨fs' ++ args.toList.map ρ' ++ cs', ?_, (hfs.append h1).append hcs⟩
            simp [execOp, resolve, invoke, he, Deferred.ofValue, run_callFunc hg]
          · split
            · rename_i hg
              split
              · rename_i x hx
                obtain ⟨fs', cs', he, hfs, hcs⟩ := (hρ f _ hf).func_inv
                have hl := (hfs.append h1).append hcs
                rw [hx] at hl
                obtain ⟨x', _, hx', hxr, hn⟩ := hl.cons_inv
                obtain rfl := hn.nil_inv
                refine ⟨x', w, ι, H, ?_, hxr, hR, Ext.refl _ _ _⟩
                have h7 : fs'.toArray ++ args.map ρ' ++ cs'.toArray = #[x'] := by
                  apply Array.ext'
                  simpa using hx'
                have := run_noesc (w := w) hg x'
                rw [← h7] at this
                simp only [execOp, resolve, invoke, he, Deferred.ofValue, Sem.run_bind, Sem.run_pure, Result.andThen_ok]
                exact this
              · trivial
            · trivial
        · rename_i b hf
          split
          · rename_i st pend ps as bd tm nt d hg
            split
            · rename_i hc
              obtain ⟨hc1, hc2, hc3⟩ := hc
              obtain ⟨he, hb⟩ := (hρ f _ hf).yld_inv
              obtain ⟨z, hd, fn, tmps, g1, g2, g3⟩ := (hR.live b _ hg).1
              have hl := h1.length
              refine ⟨args.toList.map ρ', h1, st, pend, ps, as, bd, tm, nt, d, fn, tmps, hg, hc1, hc2, hc3, g2, g3, ?_⟩
              have hsz : (args.map ρ').size = ps.size := by simp; simp at hl; omega
              have hz : (Array.zip ps (args.map ρ')).foldl (fun tmps (x : Tmp × Value) => tmps.setIfInBounds x.1 x.2) tmps = ((ps.toList.zip (args.toList.map ρ')).foldl (fun tmps x => tmps.setIfInBounds x.1 x.2) tmps) := by
                rw [← Array.foldl_toList]
                simp
              have hgo : (getObj (ι b).blk).run E.P w = .ok (.loop ⟨st, pend, fn, tmps, ps, as, bd, (ι d).blk⟩) w := by simp [getObj, Sem.run, g1]
              simp [execOp, resolve, invoke, he, Deferred.ofValue, Instr.yield, Instr.getLoop, hgo, hsz, ← hz]
            · trivial
          · trivial
        · trivial
      | invoke r m => trivial
    · trivial
  case defer c =>
    obtain ⟨callee, args, ats⟩ := c
    simp only [aOp]
    split
    · rename_i as has
      have h1 := allSome_rel hρ has
      cases callee with
      | builtin b => trivial
      | value f =>
        simp only []
        split
        · rename_i fn first cap hf
          obtain ⟨fs', cs', he, hfs, hcs⟩ := (hρ f _ hf).func_inv
          refine ⟨{ target := .fn (.func fn) cs'.toArray, args := (fs' ++ args.toList.map ρ').toArray }, ?_, ⟨cs', rfl, hcs⟩, ⟨_, rfl, hfs.append h1⟩, ⟨_, rfl⟩⟩
          simp [execOp, resolve, he, Deferred.ofValue]
        · trivial
      | invoke r m => trivial
    · trivial
  case panic x =>
    simp only [aOp]
    split
    · rename_i t y hx
      have h := hρ x _ hx
      obtain ⟨y', he, hy⟩ := h.iface_inv
      refine ⟨_, ?_, h⟩
      simp [execOp, he, Instr.panic]
    · trivial
  all_goals trivial
end
end Abs

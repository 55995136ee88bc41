/-
  Part of the abstract layer (Gm): values, stores and steps that stand for those of the model, and the proof that they do. It proves no statement by itself.
-/
import Derived.Test.YtcilgbobjhdmeaaGreatDoorAbsG17
import Derived.LaidSub
noncomputable section
namespace Abs
set_option linter.unusedVariables false
set_option linter.unusedSimpArgs false
set_option linter.unusedSectionVars false
open Go

/-! ### Several package-level variables are known -/

def manyG : List (Nat × List AVal) → Nat → AVal
  | [], g => plainG g
  | (gi, cs) :: r, g =>
    match Nat.beq g gi with
    | true => .iptr cs
    | false => manyG r g

theorem manyG_wf : ∀ {l : List (Nat × List AVal)}, (l.all fun p => sfvs p.2) = true → ∀ g, WF 0 (manyG l g)
  | [], _, g => .sc _
  | (gi, cs) :: r, h, g => by
      simp only [List.all_cons, Bool.and_eq_true] at h
      unfold manyG
      split
      · exact .iptr cs (sfvs_wf h.1)
      · exact manyG_wf h.2 g

def HoldsG (w : World) (ι : Inj) (gi : Nat) (cs : List AVal) : Prop := ∃ c e fr, w.heap[gi]? = some (.cells c e fr) ∧ LRel 0 ι (allH w) cs c.toList

theorem manyG_rel {w : World} {ι : Inj} : ∀ {l : List (Nat × List AVal)}, (∀ p ∈ l, HoldsG w ι p.1 p.2) → ∀ g, VRel 0 ι (allH w) (manyG l g) (.pointer (some ⟨g, 0, none⟩))
  | [], _, g => .sc _
  | (gi, cs) :: r, h, g => by
      unfold manyG
      split
      · rename_i hb
        have := Nat.eq_of_beq_eq_true hb
        subst this
        obtain ⟨c, e, fr, hh, hl⟩ := h (g, cs) (by simp)
        have := oneG_rel hh hl g
        unfold oneG at this
        rw [hb] at this
        exact this
      · exact manyG_rel (fun p hp => h p (by simp [hp])) g

theorem funcs_holds {P : Program} {w : World} {n : String} {d : DataW Unit} (h : funcsAt P w n d) {g t k : Nat} {vs : List AVal} (hg : P.globalNamed n = some g) (ht : (P.globals[g]?).map (·.type) = some t)
    {tbl : List (String × Nat)} (ha : absD P (decF P tbl) k t d.funcsOut = some vs) {ι : Inj} : HoldsG w ι g vs := by
  obtain ⟨g0, t0, cs, fuel, p, e1, e2, e3, e4⟩ := h
  rw [hg] at e1
  cases e1
  rw [ht] at e2
  cases e2
  unfold World.var? at e3
  rw [hg] at e3
  simp only [Option.bind_some] at e3
  split at e3
  · rename_i c e fr hh
    cases e3
    exact ⟨_, _, _, hh, trod_rel (fun t v a => decF_ok tbl t v a) fuel k _ _ _ p vs e4 ha⟩
  · cases e3

theorem laid_mem {P : Program} {w : World} : ∀ {l : List (String × DataW Unit)} {ps : List MemPlace}, DataW.LaidVars P w l ps → ∀ {n : String} {d : DataW Unit}, (n, d) ∈ l →
    ∃ g t cs fuel p, P.globalNamed n = some g ∧ (P.globals[g]?).map (·.type) = some t ∧ w.var? P n = some cs ∧ DataW.trod (fun _ => ()) P w 0 (fun _ => true) false fuel t cs.toList = some (d, p)
  | [], _, _, _, _, h => by cases h
  | (n', d') :: r, ps, h, n, d, hm => by
      obtain ⟨g, t, cs, fuel, p, q, e1, e2, e3, e4, e5, _⟩ := h
      rcases List.mem_cons.1 hm with hh | hh
      · cases hh; exact ⟨g, t, cs, fuel, p, e1, e2, e3, e4⟩
      · exact laid_mem e5 hh

/-- An array of integers that is laid. -/
theorem arr_rel {P : Program} {w : World} {H : Type} {enc : TypeId × Value → H} {sp : Nat → Bool} {held : Bool} {t e : TypeId} {n : Nat} {k : IntKind} {cs : List Value} {ms : List Int} {ps : List MemPlace} {ι : Inj} {HH : Imm} {N : Nat}
    (hu : P.underlying t = some (.array n e)) (he : P.underlying e = some (.int k)) (h1 : P.cellsOf e = 1) (hn : P.cellsOf t = n) : ∀ {fuel : Nat},
    DataW.trod enc P w 0 sp held fuel t cs = some (.agg (ms.map fun m => .lit (.int k m)), ps) → LRel N ι HH (ms.map fun m => .sc (.int k m)) cs
  | 0, h => by cases h
  | fuel + 1, h => by
      unfold DataW.trod at h
      simp only [hu] at h
      split at h
      · rename_i hl
        rw [Option.map_eq_some_iff] at h
        obtain ⟨xs, hx, h⟩ := h
        simp only [Prod.mk.injEq, DataW.agg.injEq] at h
        obtain ⟨h, _⟩ := h
        obtain ⟨l1, l2⟩ := mapM_get hx
        simp only [List.length_range] at l1
        have hml : ms.length = n := by have := congrArg List.length h; simp at this; omega
        have hcs : cs = ms.map fun m => Value.int k m := by
          apply List.ext_getElem?
          intro i
          rcases Nat.lt_or_ge i n with hi | hi
          · obtain ⟨y, y1, y2⟩ := l2 i i (by simp [hi])
            obtain ⟨v, hv⟩ : ∃ v, cs[i]? = some v := ⟨cs[i]'(by omega), by simp⟩
            have hd : (cs.drop (i * P.cellsOf e)).take (P.cellsOf e) = [v] := by
              rw [h1, Nat.mul_one, List.take_one, List.head?_drop, hv]; rfl
            rw [hd] at y2
            have hm : (ms.map fun m => (DataW.lit (.int k m) : DataW H))[i]? = some y.1 := by rw [← h, List.getElem?_map, y1]; rfl
            rw [List.getElem?_map] at hm ⊢
            obtain ⟨m, hmi⟩ : ∃ m, ms[i]? = some m := ⟨ms[i]'(by omega), by simp⟩
            rw [hmi] at hm ⊢
            simp only [Option.map_some, Option.some.injEq] at hm ⊢
            rw [hv]
            cases fuel with
            | zero => cases y2
            | succ fuel =>
              unfold DataW.trod at y2
              simp only [he] at y2
              cases v <;> first | cases y2; done | skip
              rename_i k' m'
              simp only [] at y2
              split at y2
              · rename_i hk
                obtain ⟨rfl, _⟩ := hk
                cases y2
                simp only [DataW.lit.injEq, Lit.int.injEq, true_and] at hm
                rw [hm]
              · cases y2
          · rw [List.getElem?_eq_none (by omega), List.getElem?_eq_none (by simp; omega)]
        rw [hcs]
        clear hcs h hml hx l1 l2 hl
        induction ms with
        | nil => exact .nil
        | cons m ms ih => exact .cons _ _ _ _ (.sc _) ih
      · cases h

theorem array_holds {P : Program} {w : World} {l : List (String × DataW Unit)} (h : laidMetH P l w) {n : String} {d : DataW Unit} (hm : (n, d) ∈ l) (hn : d.handleName?.isNone = true) {g t e : Nat} {N : Nat} {k : IntKind} {ms : List Int}
    (hg : P.globalNamed n = some g) (ht : (P.globals[g]?).map (·.type) = some t) (hd : d = .agg (ms.map fun m => .lit (.int k m))) (hu : P.underlying t = some (.array N e)) (he : P.underlying e = some (.int k)) (h1 : P.cellsOf e = 1) (hN : P.cellsOf t = N) {ι : Inj} : HoldsG w ι g (ms.map fun m => .sc (.int k m)) := by
  obtain ⟨ps, hl, _⟩ := (laidMetH_iff.1 h).1
  obtain ⟨g0, t0, cs, fuel, p, e1, e2, e3, e4⟩ := laid_mem hl (n := n) (d := d) (List.mem_filter.2 ⟨hm, hn⟩)
  rw [hg] at e1
  cases e1
  rw [ht] at e2
  cases e2
  unfold World.var? at e3
  rw [hg] at e3
  simp only [Option.bind_some] at e3
  split at e3
  · rename_i c e fr hh
    cases e3
    subst hd
    exact ⟨_, _, _, hh, arr_rel hu he h1 hN e4⟩
  · cases e3

theorem data_holds {P : Program} {w : World} {l : List (String × DataW Unit)} (h : laidMetH P l w) {n : String} {d : DataW Unit} (hm : (n, d) ∈ l) (hn : d.handleName?.isNone = true) {g t k : Nat} {vs : List AVal}
    (hg : P.globalNamed n = some g) (ht : (P.globals[g]?).map (·.type) = some t) (ha : absD P (fun _ => none) k t d = some vs) {ι : Inj} : HoldsG w ι g vs := by
  obtain ⟨ps, hl, _⟩ := (laidMetH_iff.1 h).1
  obtain ⟨g0, t0, cs, fuel, p, e1, e2, e3, e4⟩ := laid_mem hl (n := n) (d := d) (List.mem_filter.2 ⟨hm, hn⟩)
  rw [hg] at e1
  cases e1
  rw [ht] at e2
  cases e2
  unfold World.var? at e3
  rw [hg] at e3
  simp only [Option.bind_some] at e3
  split at e3
  · rename_i c e fr hh
    cases e3
    exact ⟨_, _, _, hh, trod_rel (fun t v a h => by cases h) fuel k _ _ _ p vs e4 ha⟩
  · cases e3
end Abs
end

/-
  Part of the abstract layer (Ty): values, stores and steps that stand for those of the model, and the proof that they do. It proves no statement by itself.
-/
import Derived.Test.YtdmelhjbbaaphaaGreatDoorPtAbsIn
noncomputable section
namespace Abs
set_option linter.unusedVariables false
set_option linter.unusedSimpArgs false
set_option linter.unusedSectionVars false
open Go
inductive Sh where
 | bool
 | int (k : IntKind)
 | str
 | slice (e : TypeId) (c : Nat) (agg : Bool)
 | struct (ts : List TypeId)
 | other
def contig (P : Program) : List Field → Nat → Option Nat
 | [], o => some o
 | f :: fs, o => match Nat.beq f.offset o with
  | true => contig P fs (o + P.cellsOf f.type)
  | false => none
def shape (P : Program) (t : TypeId) : Sh :=
 match P.underlying t with
 | some .bool => .bool
 | some (.int k) => .int k
 | some .string => .str
 | some (.slice e) => match P.cellsOf e, isAggT P e with
  | c + 1, true => .slice e (c + 1) true
  | 1, false => .slice e 1 false
  | _, _ => .other
 | some (.struct fs) => match contig P fs.toList 0 with
  | some n => match Nat.beq n (P.cellsOf t) with
   | true => .struct (fs.toList.map (·.type))
   | false => .other
  | none => .other
 | _ => .other
def HasL (rec : TypeId → List AVal → Prop) (P : Program) : List TypeId → List AVal → Prop
 | [], vs => vs = []
 | t :: ts, vs => ∃ a b, vs = a ++ b ∧ a.length = P.cellsOf t ∧ rec t a ∧ HasL rec P ts b
def HasTy (P : Program) : Nat → TypeId → List AVal → Prop
  | 0, _, _ => False
  | n + 1, t, vs =>
    match shape P t with
    | .bool => ∃ b, vs = [.sc (.bool b)]
    | .int k => ∃ m, (Lit.int k m).wf = true ∧ vs = [.sc (.int k m)]
    | .str => ∃ s : ByteArray, s.size ≤ maxLen ∧ vs = [.sc (.string s)]
    | .slice e c agg => vs = [.sc (.slice none 0 0)] ∨ (∃ a cap, vs = [.sc (.slice (some a) 0 cap)]) ∨
        ∃ els, els ≠ [] ∧ els.length ≤ maxLen ∧ vs = [.data c false els] ∧ ∀ x ∈ els, HasTy P n e x.cells ∧ x.cells.length = c ∧ x.isAgg = agg
    | .struct ts => HasL (HasTy P n) P ts vs
    | .other => True
theorem LRel.scs {n : Nat} {ι : Inj} {H : Imm} : ∀ (cs : List Value), LRel n ι H (cs.map .sc) cs
 | [] => .nil
 | c :: cs => .cons _ _ _ _ (.sc c) (LRel.scs cs)
section
variable {H : Type} {enc : TypeId × Value → H} {P : Program} {w : World} {sp : Nat → Bool} {held : Bool} {ι : Inj}
theorem contig_le : ∀ {fs : List Field} {o n : Nat}, contig P fs o = some n → o ≤ n
  | [], o, n, h => by cases h; exact Nat.le_refl _
  | f :: fs, o, n, h => by
      unfold contig at h
      split at h
      · have := contig_le h; omega
      · cases h
theorem hasL_of {m : Nat} {cs : List Value} (hrec : ∀ t cs d ps, DataW.trod enc P w 0 sp held m t cs = some (d, ps) → ∃ vs, HasTy P m t vs ∧ LRel 0 ι (allH w) vs cs ∧ ∀ x ∈ vs, x.isAgg = false) :
    ∀ (fs : List Field) (xs : List (DataW H × List MemPlace)) (o n : Nat), fs.mapM (fun f => DataW.trod enc P w 0 sp held m f.type ((cs.drop f.offset).take (P.cellsOf f.type))) = some xs → contig P fs o = some n → n ≤ cs.length →
      ∃ vs, (HasL (HasTy P m) P (fs.map (·.type)) vs ∧ ∀ x ∈ vs, x.isAgg = false) ∧ LRel 0 ι (allH w) vs ((cs.drop o).take (n - o))
  | [], xs, o, n, hm, hc, _ => by
      cases hc
      exact ⟨[], ⟨rfl, by simp⟩, by simpa using LRel.nil⟩
  | f :: fs, xs, o, n, hm, hc, hn => by
      rw [List.mapM_cons] at hm
      unfold contig at hc
      split at hc
      · rename_i hb
        have hb := Nat.eq_of_beq_eq_true hb
        cases ha : DataW.trod enc P w 0 sp held m f.type ((cs.drop f.offset).take (P.cellsOf f.type)) with
        | none => simp [ha] at hm
        | some y =>
          cases hl : fs.mapM (fun f => DataW.trod enc P w 0 sp held m f.type ((cs.drop f.offset).take (P.cellsOf f.type))) with
          | none => simp [ha, hl] at hm
          | some ys =>
            obtain ⟨d, p⟩ := y
            obtain ⟨a, a1, a2, a3⟩ := hrec _ _ _ _ ha
            obtain ⟨b, ⟨b1, b3⟩, b2⟩ := hasL_of hrec fs ys (o + P.cellsOf f.type) n hl hc hn
            have hle := contig_le hc
            have hlen : a.length = P.cellsOf f.type := by
              rw [a2.length, List.length_take, List.length_drop, hb]; omega
            refine ⟨a ++ b, ⟨⟨a, b, rfl, hlen, a1, b1⟩, ?_⟩, ?_⟩
            · intro x hx
              rcases List.mem_append.1 hx with hx | hx
              · exact a3 x hx
              · exact b3 x hx
            rw [hb] at a2
            have := a2.append b2
            have e : (cs.drop o).take (n - o) = (cs.drop o).take (P.cellsOf f.type) ++ (cs.drop (o + P.cellsOf f.type)).take (n - (o + P.cellsOf f.type)) := by
              rw [show n - o = P.cellsOf f.type + (n - (o + P.cellsOf f.type)) by omega, List.take_add, List.drop_drop]
            rw [e]; exact this
      · cases hc
theorem choose_list {α : Type} : ∀ (n : Nat) {p : Nat → α → Prop}, (∀ i, i < n → ∃ x, p i x) → ∃ l : List α, l.length = n ∧ ∀ i x, l[i]? = some x → p i x
  | 0, _, _ => ⟨[], rfl, by simp⟩
  | n + 1, p, h => by
      obtain ⟨l, h1, h2⟩ := choose_list n (p := p) (fun i hi => h i (by omega))
      obtain ⟨x, hx⟩ := h n (by omega)
      refine ⟨l ++ [x], by simp [h1], ?_⟩
      intro i y hy
      rw [List.getElem?_append] at hy
      split at hy
      · exact h2 i y hy
      · rename_i hi
        have : i = n := by
          rcases Nat.lt_or_ge (i - l.length) 1 with h' | h'
          · omega
          · rw [List.getElem?_eq_none (by simpa using h')] at hy; cases hy
        subst this
        simp [h1] at hy
        subst hy; exact hx
theorem trod_ty : ∀ (fuel : Nat) (t : TypeId) (cs : List Value) (d : DataW H) (ps : List MemPlace), DataW.trod enc P w 0 sp held fuel t cs = some (d, ps) →
    ∃ vs, HasTy P fuel t vs ∧ LRel 0 ι (allH w) vs cs ∧ ∀ x ∈ vs, x.isAgg = false
  | 0, _, _, _, _, h => by cases h
  | fuel + 1, t, cs, d, ps, h => by
      have other : shape P t = .other → ∃ vs, HasTy P (fuel + 1) t vs ∧ LRel 0 ι (allH w) vs cs ∧ ∀ x ∈ vs, x.isAgg = false := by
        intro hs
        refine ⟨cs.map .sc, by unfold HasTy; rw [hs]; trivial, LRel.scs cs, ?_⟩
        intro x hx
        simp only [List.mem_map] at hx
        obtain ⟨v, _, rfl⟩ := hx
        rfl
      have one : ∀ v : Value, cs = [v] → HasTy P (fuel + 1) t [.sc v] → ∃ vs, HasTy P (fuel + 1) t vs ∧ LRel 0 ι (allH w) vs cs ∧ ∀ x ∈ vs, x.isAgg = false := by
        intro v hv hh
        refine ⟨[.sc v], hh, by rw [hv]; exact LRel.scs [v], ?_⟩
        intro x hx; simp at hx; subst hx; rfl
      unfold DataW.trod at h
      cases hu : P.underlying t with
      | none => exact other (by simp [shape, hu])
      | some ty =>
        rw [hu] at h
        cases ty with
        | bool =>
          have hs : shape P t = .bool := by simp [shape, hu]
          split at h <;> rename_i heq <;> first | (cases heq; done) | (cases h; done) | skip
          cases heq
          exact one _ rfl (by unfold HasTy; rw [hs]; exact ⟨_, rfl⟩)
        | int k =>
          have hs : shape P t = .int k := by simp [shape, hu]
          split at h <;> rename_i heq <;> first | (cases heq; done) | (cases h; done) | skip
          cases heq
          split at h
          · rename_i hk
            obtain ⟨rfl, hw⟩ := hk
            exact one _ rfl (by unfold HasTy; rw [hs]; exact ⟨_, hw, rfl⟩)
          · cases h
        | string =>
          have hs : shape P t = .str := by simp [shape, hu]
          split at h <;> rename_i heq <;> first | (cases heq; done) | (cases h; done) | skip
          cases heq
          split at h
          · rename_i hk
            exact one _ rfl (by unfold HasTy; rw [hs]; exact ⟨_, hk, rfl⟩)
          · cases h
        | slice e =>
          have key : ∀ c agg, shape P t = .slice e c agg → 0 < c → P.cellsOf e = c → isAggT P e = agg → (agg = false → c = 1) → ∃ vs, HasTy P (fuel + 1) t vs ∧ LRel 0 ι (allH w) vs cs ∧ ∀ x ∈ vs, x.isAgg = false := by
            intro c agg hs hc0 hcc hagg hc1
            split at h <;> rename_i heq <;> first | (cases heq; done) | (cases h; done) | skip
            · cases heq; exact one _ rfl (by unfold HasTy; rw [hs]; exact .inl rfl)
            · rename_i a len cap
              cases heq
              simp only [] at h
              split at h
              · rename_i hcnd
                obtain ⟨_, hlc, hcm⟩ := hcnd
                rw [Option.bind_eq_some_iff] at h
                obtain ⟨elems, he, _⟩ := h
                by_cases hl0 : len = 0
                · subst hl0
                  exact one _ rfl (by unfold HasTy; rw [hs]; exact .inr (.inl ⟨a, cap, rfl⟩))
                · obtain ⟨l1, l2⟩ := mapM_get he
                  simp only [List.length_range] at l1
                  have elem : ∀ i, i < len → ∃ ev : AVal, (HasTy P fuel e ev.cells ∧ ev.cells.length = c ∧ ev.isAgg = agg) ∧ ∃ csi : List Value, csi.length = c ∧ LRel 0 ι (allH w) ev.cells csi ∧
                      (∀ k, k < c → (allH w).cell? a.block (a.off + i * c + k) = csi[k]?) ∧ (i = 0 → a.spot = none) := by
                    intro i hi
                    obtain ⟨y, y1, y2⟩ := l2 i i (by simp [hi])
                    rw [Option.bind_eq_some_iff] at y2
                    obtain ⟨csi, c1, c2⟩ := y2
                    obtain ⟨d', p'⟩ := y
                    obtain ⟨vs, v1, v2, v3⟩ := trod_ty fuel e csi d' p' c2
                    obtain ⟨q1, q2⟩ := cells?_get c1
                    rw [hcc] at q1 q2
                    have hget : ∀ k, k < c → (allH w).cell? a.block (a.off + i * c + k) = csi[k]? := by
                      intro k hk
                      obtain ⟨v, w1, w2⟩ := q2 k hk
                      have hb : (a.add (i * c)).block = a.block := by unfold Addr.add; split <;> rfl
                      have ho : (a.add (i * c)).off = a.off + i * c := by unfold Addr.add; split <;> simp_all
                      have := (cell?_add w2).1
                      rw [hb, ho] at this
                      rw [w1]; exact this
                    have hsp : i = 0 → a.spot = none := by
                      intro hi0
                      subst hi0
                      obtain ⟨v, w1, w2⟩ := q2 0 hc0
                      have := (cell?_add w2).2 rfl
                      simpa [Addr.add] using this
                    have hvl : vs.length = c := by rw [v2.length, q1]
                    cases agg with
                    | true => exact ⟨.agg vs, ⟨v1, hvl, rfl⟩, csi, q1, v2, hget, hsp⟩
                    | false =>
                      have hc1 := hc1 rfl
                      obtain ⟨x, rfl⟩ : ∃ x, vs = [x] := by
                        match vs, hvl with
                        | [x], _ => exact ⟨x, rfl⟩
                        | [], hvl => simp at hvl; omega
                        | _ :: _ :: _, hvl => simp at hvl; omega
                      have hx := v3 x (by simp)
                      have hxc := AVal.cells_one hx
                      exact ⟨x, ⟨by rw [hxc]; exact v1, by rw [hxc]; exact hvl, hx⟩, csi, q1, by rw [hxc]; exact v2, hget, hsp⟩
                  obtain ⟨els, e1, e2⟩ := choose_list len elem
                  have hne : els ≠ [] := by intro hc; subst hc; simp at e1; omega
                  have hsp : a.spot = none := by
                    obtain ⟨x, hx⟩ : ∃ x, els[0]? = some x := ⟨els[0]'(by omega), by simp⟩
                    obtain ⟨_, _, _, _, _, hh⟩ := e2 0 x hx
                    exact hh rfl
                  obtain ⟨ab, ao, as⟩ := a
                  simp only at hsp
                  subst hsp
                  refine ⟨[.data c false els], ?_, .cons _ _ _ _ (.data c false els ab ao len cap e1.symm hlc (by simp) ?_) .nil, ?_⟩
                  · unfold HasTy
                    rw [hs]
                    refine .inr (.inr ⟨els, hne, by omega, rfl, ?_⟩)
                    intro x hx
                    obtain ⟨i, hi, rfl⟩ := List.getElem_of_mem hx
                    exact (e2 i _ (by simp [hi])).1
                  · apply DRel.of_get
                    intro i ev hev
                    obtain ⟨⟨_, g1, _⟩, csi, r1, r2, r3, _⟩ := e2 i ev hev
                    refine ⟨CRel.of_list r2 ?_, g1⟩
                    intro k hk
                    exact r3 k (by omega)
                  · intro x hx; simp at hx; subst hx; rfl
              · cases h
          cases hc : P.cellsOf e with
          | zero => exact other (by simp [shape, hu, hc])
          | succ c =>
            cases hA : isAggT P e with
            | true => exact key (c + 1) true (by simp [shape, hu, hc, hA]) (by omega) hc hA (by simp)
            | false =>
              cases c with
              | zero => exact key 1 false (by simp [shape, hu, hc, hA]) (by omega) hc hA (by simp)
              | succ c => exact other (by simp [shape, hu, hc, hA])
        | struct fs =>
          cases hk : contig P fs.toList 0 with
          | none => exact other (by simp [shape, hu, hk])
          | some n =>
            cases hb : Nat.beq n (P.cellsOf t) with
            | false => exact other (by simp [shape, hu, hk, hb])
            | true =>
              have hs : shape P t = .struct (fs.toList.map (·.type)) := by simp [shape, hu, hk, hb]
              have hb := Nat.eq_of_beq_eq_true hb
              simp only [] at h
              split at h
              · rename_i hlen
                rw [Option.map_eq_some_iff] at h
                obtain ⟨xs, hm, _⟩ := h
                obtain ⟨vs, g1, g2⟩ := hasL_of (ι := ι) (fun t cs d ps h => trod_ty fuel t cs d ps h) fs.toList xs 0 n hm hk (by omega)
                have e : (cs.drop 0).take (n - 0) = cs := by rw [List.drop_zero, Nat.sub_zero, hb, ← hlen, List.take_length]
                rw [e] at g2
                refine ⟨vs, by unfold HasTy; rw [hs]; exact g1.1, g2, g1.2⟩
              · cases h
        | _ => exact other (by simp [shape, hu])
end
end Abs
end

/-
  Part of the abstract layer (C): values, stores and steps that stand for those of the model, and the proof that they do. It proves no statement by itself.
-/
import Derived.Test.YtmimfnjcnndhpaaGreatAbsB
noncomputable section
namespace Abs
set_option linter.unusedVariables false
set_option linter.unusedSimpArgs false
set_option linter.unusedSectionVars false
open Go

/-- What the cells of a block are. -/
def rd (w : World) (b : Nat) : Nat → Option Value := fun o => w.cell? ⟨b, o, none⟩

theorem rd_cells {w : World} {b : Nat} {c : Array Value} {e : TypeId} {f : Nat × Nat} (h : w.heap[b]? = some (.cells c e f)) : rd w b = (c[·]?) := by
  funext o; simp [rd, World.cell?, h]

theorem rd_imm {H : Imm} {w : World} (h : ∀ c o, H c = some o → w.heap[c]? = some o.2) (b : Nat) : RLe (H.cell? b) (rd w b) := by
  intro o v hc
  unfold Imm.cell? at hc
  cases hb : H b with
  | none => simp [hb] at hc
  | some x =>
    rw [hb] at hc
    have := h b x hb
    obtain ⟨t, x⟩ := x
    cases t with
    | false => simp at hc
    | true =>
      cases x with
      | cells c e f => simp at hc; simp [rd, World.cell?, this, hc]
      | _ => simp at hc

theorem RLe.refl (g : Nat → Option Value) : RLe g g := fun _ _ h => h

theorem LRel.length {n : Nat} {ι : Inj} {H : Imm} : ∀ {vs : List AVal} {ws : List Value}, LRel n ι H vs ws → vs.length = ws.length
  | _, _, .nil => rfl
  | _, _, .cons _ _ _ _ _ hs => by simp [hs.length]

theorem LRel.get {n : Nat} {ι : Inj} {H : Imm} : ∀ {vs : List AVal} {ws : List Value} {k : Nat} {v : AVal}, LRel n ι H vs ws → vs[k]? = some v →
    ∃ w, ws[k]? = some w ∧ VRel n ι H v w
  | _, _, 0, _, .cons _ w _ _ h _, hv => by simp at hv; subst hv; exact ⟨w, by simp, h⟩
  | _, _, k + 1, _, .cons _ _ _ _ _ hs, hv => by simp at hv; obtain ⟨w, h1, h2⟩ := hs.get hv; exact ⟨w, by simpa using h1, h2⟩

theorem LRel.append {n : Nat} {ι : Inj} {H : Imm} : ∀ {vs vs' : List AVal} {ws ws' : List Value}, LRel n ι H vs ws → LRel n ι H vs' ws' → LRel n ι H (vs ++ vs') (ws ++ ws')
  | _, _, _, _, .nil, h => h
  | _, _, _, _, .cons v w vs ws h hs, h' => .cons v w _ _ h (hs.append h')

theorem LRel.drop {n : Nat} {ι : Inj} {H : Imm} : ∀ {vs : List AVal} {ws : List Value} (k : Nat), LRel n ι H vs ws → LRel n ι H (vs.drop k) (ws.drop k)
  | _, _, 0, h => by simpa using h
  | _, _, _ + 1, .nil => by simpa using LRel.nil
  | _, _, k + 1, .cons _ _ _ _ _ hs => by simpa using hs.drop k
theorem LRel.take {n : Nat} {ι : Inj} {H : Imm} : ∀ {vs : List AVal} {ws : List Value} (k : Nat), LRel n ι H vs ws → LRel n ι H (vs.take k) (ws.take k)
  | _, _, 0, _ => by simpa using LRel.nil
  | _, _, _ + 1, .nil => by simpa using LRel.nil
  | _, _, k + 1, .cons v w vs ws h hs => by simpa using .cons v w _ _ h (hs.take k)
theorem LRel.set {n : Nat} {ι : Inj} {H : Imm} : ∀ {vs : List AVal} {ws : List Value} (k : Nat) {v : AVal} {w : Value}, LRel n ι H vs ws → VRel n ι H v w →
    LRel n ι H (vs.set k v) (ws.set k w)
  | _, _, _, _, _, .nil, _ => by simpa using LRel.nil
  | _, _, 0, v, w, .cons _ _ vs ws _ hs, h' => by simpa using .cons v w vs ws h' hs
  | _, _, k + 1, _, _, .cons v w vs ws h hs, h' => by simpa using .cons v w _ _ h (hs.set k h')

theorem LRel.sc {n : Nat} {ι : Inj} {H : Imm} : ∀ (ws : List Value), LRel n ι H (ws.map .sc) ws
  | [] => .nil
  | w :: ws => .cons _ w _ ws (.sc w) (LRel.sc ws)

theorem CRel.get {n : Nat} {ι : Inj} {H : Imm} {g : Nat → Option Value} : ∀ {vs : List AVal} {o k : Nat} {v : AVal}, CRel n ι H g vs o → vs[k]? = some v →
    ∃ w, g (o + k) = some w ∧ VRel n ι H v w
  | _, _, 0, _, .cons _ _ w _ o ho h _, hv => by simp at hv; subst hv; exact ⟨w, ho, h⟩
  | _, o, k + 1, _, .cons _ _ _ _ _ _ _ hs, hv => by
      simp at hv
      obtain ⟨w, h1, h2⟩ := hs.get hv
      exact ⟨w, by rw [← h1]; congr 1; omega, h2⟩

theorem CRel.drop {n : Nat} {ι : Inj} {H : Imm} {g : Nat → Option Value} : ∀ {vs : List AVal} {o : Nat} (k : Nat), CRel n ι H g vs o → CRel n ι H g (vs.drop k) (o + k)
  | _, _, 0, h => by simpa using h
  | _, o, _ + 1, .nil _ _ => by simpa using CRel.nil _ _
  | _, o, k + 1, .cons _ _ _ _ _ _ _ hs => by
      have := hs.drop k
      simpa [show o + (k + 1) = o + 1 + k by omega] using this

theorem CRel.take {n : Nat} {ι : Inj} {H : Imm} {g : Nat → Option Value} : ∀ {vs : List AVal} {o : Nat} (k : Nat), CRel n ι H g vs o → CRel n ι H g (vs.take k) o
  | _, _, 0, _ => by simpa using CRel.nil _ _
  | _, _, _ + 1, .nil _ _ => by simpa using CRel.nil _ _
  | _, _, k + 1, .cons _ v w _ o ho h hs => by simpa using .cons g v w _ o ho h (hs.take k)

/-- The cells, as a list of values. -/
theorem CRel.list {n : Nat} {ι : Inj} {H : Imm} {g : Nat → Option Value} : ∀ {vs : List AVal} {o : Nat}, CRel n ι H g vs o →
    ∃ ws, LRel n ι H vs ws ∧ ∀ k, k < vs.length → g (o + k) = ws[k]?
  | _, _, .nil _ _ => ⟨[], .nil, by simp⟩
  | _, _, .cons _ v w vs o ho h hs => by
      obtain ⟨ws, h1, h2⟩ := hs.list
      refine ⟨w :: ws, .cons v w vs ws h h1, ?_⟩
      intro k hk
      cases k with
      | zero => simpa using ho
      | succ k => simp at hk; rw [show o + (k + 1) = o + 1 + k by omega, h2 k hk]; simp

theorem CRel.of_list {n : Nat} {ι : Inj} {H : Imm} {g : Nat → Option Value} : ∀ {vs : List AVal} {ws : List Value} {o : Nat}, LRel n ι H vs ws →
    (∀ k, k < ws.length → g (o + k) = ws[k]?) → CRel n ι H g vs o
  | _, _, _, .nil, _ => .nil _ _
  | _, _, o, .cons v w vs ws h hs, hg => .cons g v w vs o (by simpa using hg 0 (by simp)) h
      (CRel.of_list hs (fun k hk => by rw [show o + 1 + k = o + (k + 1) by omega, hg (k + 1) (by simpa using hk)]; simp))

theorem AVal.cells_one {v : AVal} (h : v.isAgg = false) : v.cells = [v] := by cases v <;> simp_all [AVal.isAgg, AVal.cells]

theorem DRel.get {n : Nat} {ι : Inj} {H : Imm} {g : Nat → Option Value} : ∀ {els : List AVal} {sz o i : Nat} {e : AVal}, DRel n ι H g sz els o → els[i]? = some e →
    CRel n ι H g e.cells (o + i * sz) ∧ e.cells.length = sz
  | _, _, _, 0, _, .agg _ sz cs es o hsz h _, hv => by simp at hv; subst hv; simpa [AVal.cells, hsz] using h
  | _, _, _, 0, _, .one _ v w es o hn ho h _, hv => by
      simp at hv; subst hv; rw [AVal.cells_one hn]; simpa using .cons g v w [] o ho h (.nil _ _)
  | _, _, _, i + 1, _, .agg _ sz cs es o hsz h hs, hv => by
      simp at hv
      have := hs.get hv
      rw [show o + (i + 1) * sz = o + sz + i * sz by rw [Nat.add_mul]; omega]
      exact this
  | _, _, _, i + 1, _, .one _ v w es o hn ho h hs, hv => by
      simp at hv
      have := hs.get hv
      rw [show o + (i + 1) * 1 = o + 1 + i * 1 by omega]
      exact this

/-- The elements one by one. -/
theorem DRel.of_get {n : Nat} {ι : Inj} {H : Imm} {g : Nat → Option Value} : ∀ {els : List AVal} {sz o : Nat},
    (∀ i e, els[i]? = some e → CRel n ι H g e.cells (o + i * sz) ∧ e.cells.length = sz) → DRel n ι H g sz els o
  | [], _, _, _ => .nil _ _ _
  | e :: es, sz, o, h => by
      have hs : ∀ i e, es[i]? = some e → CRel n ι H g e.cells (o + sz + i * sz) ∧ e.cells.length = sz := by
        intro i e he
        have := h (i + 1) e (by simpa using he)
        rwa [show o + (i + 1) * sz = o + sz + i * sz by rw [Nat.add_mul]; omega] at this
      have h0 := h 0 e (by simp)
      simp only [Nat.zero_mul, Nat.add_zero] at h0
      by_cases he : e.isAgg = true
      · cases e with
        | agg cs => exact .agg _ sz cs es o (by simpa [AVal.cells] using h0.2) (by simpa [AVal.cells] using h0.1) (DRel.of_get hs)
        | _ => simp [AVal.isAgg] at he
      · have he : e.isAgg = false := by simpa using he
        rw [AVal.cells_one he] at h0
        obtain ⟨h1, h2⟩ := h0
        obtain rfl : sz = 1 := by simpa using h2.symm
        cases h1 with
        | cons _ _ w _ _ ho hv _ => exact .one _ e w es o he ho hv (DRel.of_get hs)

/-- 'a.add'. -/
theorem add_mk (b o n : Nat) : (⟨b, o, none⟩ : Addr).add n = ⟨b, o + n, none⟩ := by
  unfold Addr.add; split <;> simp_all

theorem run_loadCellsFrom (P : Program) (w : World) (b o : Nat) : ∀ (m i : Nat) (ws acc : List Value),
    ws.length = m → (∀ k, k < m → rd w b (o + i + k) = ws[k]?) →
    (loadCellsFrom ⟨b, o, none⟩ i m acc.toArray).run P w = .ok (acc ++ ws).toArray w := by
  intro m
  induction m with
  | zero => intro i ws acc hl _; obtain rfl := List.length_eq_zero_iff.1 hl; simp [loadCellsFrom, pure]
  | succ m ih =>
    intro i ws acc hl hg
    cases ws with
    | nil => simp at hl
    | cons v ws =>
      simp at hl
      have h0 := hg 0 (by omega)
      simp [rd] at h0
      have := ih (i + 1) ws (acc ++ [v]) hl (fun k hk => by
        have := hg (k + 1) (by omega)
        rw [show o + (i + 1) + k = o + i + (k + 1) by omega, this]; simp)
      simp only [loadCellsFrom, add_mk, load, bind, Sem.bind, Sem.run, h0]
      simpa using this

theorem run_loadCells (P : Program) (w : World) (b o m : Nat) (ws : List Value) (hl : ws.length = m) (hg : ∀ k, k < m → rd w b (o + k) = ws[k]?) :
    (loadCells ⟨b, o, none⟩ m).run P w = .ok ws.toArray w := by
  have := run_loadCellsFrom P w b o m 0 ws [] hl (by simpa using hg)
  simpa [loadCells] using this

/-- The cells of a block behind stores. -/
def splice (c : Array Value) (o : Nat) : List Value → Array Value
  | [] => c
  | v :: vs => splice (c.setIfInBounds o v) (o + 1) vs

theorem splice_size : ∀ (vs : List Value) (c : Array Value) (o : Nat), (splice c o vs).size = c.size
  | [], _, _ => rfl
  | v :: vs, c, o => by rw [splice, splice_size vs]; simp

theorem splice_get : ∀ (vs : List Value) (c : Array Value) (o i : Nat), o + vs.length ≤ c.size →
    (splice c o vs)[i]? = if o ≤ i ∧ i < o + vs.length then vs[i - o]? else c[i]?
  | [], c, o, i, _ => by simp [splice]; intro h1 h2; omega
  | v :: vs, c, o, i, h => by
      simp at h
      rw [splice, splice_get vs _ _ _ (by simp; omega)]
      by_cases h1 : o + 1 ≤ i ∧ i < o + 1 + vs.length
      · rw [if_pos h1, if_pos (by simp; omega)]
        rw [show i - o = (i - (o + 1)) + 1 by omega]; simp
      · rw [if_neg h1]
        by_cases h2 : o = i
        · subst h2
          rw [if_pos (by simp)]
          simp [Array.getElem?_setIfInBounds]; omega
        · rw [if_neg (by simp; omega)]
          simp [h2]

def isCellV : Value → Bool
  | .agg _ | .tuple _ => false
  | _ => true

theorem run_storeCells (P : Program) (b : Nat) (o : Nat) (e : TypeId) (fr : Nat × Nat) : ∀ (vs : List Value) (w : World) (c : Array Value) (i : Nat),
    w.heap[b]? = some (.cells c e fr) → FrOk c.size fr → (∀ v ∈ vs, isCellV v = true) → o + i + vs.length ≤ c.size →
    ∃ w', (storeCells ⟨b, o, none⟩ vs i).run P w = .ok () w' ∧ w'.heap = w.heap.setIfInBounds b (.cells (splice c (o + i) vs) e fr) ∧ Same w w'
  | [], w, c, i, hb, _, _, _ => by
      refine ⟨w, by simp [storeCells, pure], ?_, ⟨rfl, rfl⟩⟩
      have hlt : b < w.heap.size := by
        rcases Nat.lt_or_ge b w.heap.size with h | h
        · exact h
        · simp [Array.getElem?_eq_none h] at hb
      apply Array.ext_getElem?
      intro j
      simp only [Array.getElem?_setIfInBounds, splice]
      split
      · rename_i hj; subst hj; rw [hb]
      · rfl
  | v :: vs, w, c, i, hb, hf, hv, hl => by
      simp at hl
      have hlt : b < w.heap.size := by
        rcases Nat.lt_or_ge b w.heap.size with h | h
        · exact h
        · simp [Array.getElem?_eq_none h] at hb
      have hv0 : isCellV v = true := hv v (by simp)
      have hcell : w.cell? ⟨b, o + i, none⟩ = some c[o + i] := by
        simp [World.cell?, hb]
      have hfz : w.frozen? ⟨b, o + i, none⟩ = false := by
        have := hf (o + i) (by omega)
        simp [World.frozen?, hb]; omega
      have hset : (w.setCell ⟨b, o + i, none⟩ v).heap = w.heap.setIfInBounds b (.cells (c.setIfInBounds (o + i) v) e fr) := by
        simp only [World.setCell]
        apply Array.ext_getElem?
        intro j
        simp only [Array.getElem?_setIfInBounds, Array.getElem?_modify]
        split
        · rename_i hj; subst hj; rw [hb]; simp
        · rfl
      have hb' : (w.setCell ⟨b, o + i, none⟩ v).heap[b]? = some (.cells (c.setIfInBounds (o + i) v) e fr) := by
        rw [hset]; simp [hlt]
      obtain ⟨w', h1, h2, h3⟩ := run_storeCells P b o e fr vs (w.setCell ⟨b, o + i, none⟩ v) (c.setIfInBounds (o + i) v) (i + 1) hb' (by simpa using hf) (fun x hx => hv x (by simp [hx])) (by simp; omega)
      refine ⟨w', ?_, ?_, h3⟩
      · rw [← h1]
        simp only [storeCells, add_mk, store, bind, Sem.bind]
        cases v <;> simp [isCellV] at hv0 <;> simp [Sem.run, hcell, hfz]
      · rw [h2, hset, show o + (i + 1) = o + i + 1 by omega]
        simp [splice]
end Abs

/-
  Part of the abstract layer (F): values, stores and steps that stand for those of the model, and the proof that they do. It proves no statement by itself.
-/
import Derived.Test.YtmimfnjcnndhpaaGreatAbsE
noncomputable section
namespace Abs
set_option linter.unusedVariables false
set_option linter.unusedSimpArgs false
set_option linter.unusedSectionVars false
open Go

section
variable {E : Env} {ι : Inj} {H : Imm} {σ σ' : AStore} {w : World}

/-! ### Filling -/

theorem foldl_splice (off : Nat) : ∀ (vs : List Value) (c : Array Value) (k : Nat),
    (vs.zipIdx k).foldl (fun cs (x : Value × Nat) => cs.setIfInBounds (off + x.2) x.1) c = splice c (off + k) vs
  | [], c, k => by simp [splice]
  | v :: vs, c, k => by
      simp only [List.zipIdx_cons, List.foldl_cons]
      rw [foldl_splice off vs _ (k + 1), splice]
      rfl

theorem fill_cons (place : Nat → Option (Nat × Nat)) (cells : Array Value) (i : Nat) (v : Value) (rest : List (Nat × Value)) {off size : Nat} (hp : place i = some (off, size))
    (hs : v.cells.size = size) (hl : off + size ≤ cells.size) :
    Instr.fill place cells ((i, v) :: rest) = Instr.fill place (splice cells off v.cells.toList) rest := by
  have h1 : ¬ (decide (v.cells.size ≠ size) || decide (off + v.cells.size > cells.size)) = true := by simp; omega
  simp only [Instr.fill, hp]
  rw [if_neg h1]
  congr 1
  rw [← Array.foldl_toList, Array.toList_zipIdx, foldl_splice off _ _ 0]
  rfl

theorem LRel.splice {n : Nat} : ∀ {vs us : List AVal} {ws : List Value} {c : Array Value} {k : Nat}, LRel n ι H us c.toList → LRel n ι H vs ws →
    LRel n ι H (spliceL us k vs) (splice c k ws).toList
  | _, _, _, _, _, h, .nil => h
  | _, us, _, c, k, h, .cons v w vs ws hv hs => by
      have := (h.set k hv)
      rw [show c.toList.set k w = (c.setIfInBounds k w).toList by simp] at this
      exact this.splice hs

/-- The parts of a struct or an array laid in. -/
def aFill (place : Nat → Option (Nat × Nat)) (cells : List AVal) : List (Nat × AVal) → Option (List AVal)
  | [] => some cells
  | (i, v) :: rest =>
    match place i with
    | none => none
    | some (off, size) => if v.cells.length = size ∧ off + size ≤ cells.length ∧ v.fit = true then aFill place (spliceL cells off v.cells) rest else none

inductive PRel (n : Nat) (ι : Inj) (H : Imm) : List (Nat × AVal) → List (Nat × Value) → Prop
  | nil : PRel n ι H [] []
  | cons (i : Nat) (v : AVal) (w : Value) (vs : List (Nat × AVal)) (ws : List (Nat × Value)) (h : VRel n ι H v w) (hs : PRel n ι H vs ws) : PRel n ι H ((i, v) :: vs) ((i, w) :: ws)

theorem aFill_sound {n : Nat} (place : Nat → Option (Nat × Nat)) : ∀ {parts : List (Nat × AVal)} {parts' : List (Nat × Value)} {cells cs : List AVal} {cells' : Array Value},
    PRel n ι H parts parts' → LRel n ι H cells cells'.toList → aFill place cells parts = some cs →
    ∃ cs', Instr.fill place cells' parts' = some cs' ∧ LRel n ι H cs cs'.toList
  | _, _, _, _, cells', .nil, h, hf => by simp [aFill] at hf; subst hf; exact ⟨cells', rfl, h⟩
  | _, _, cells, cs, cells', .cons i v w vs ws hv hs, h, hf => by
      unfold aFill at hf
      split at hf
      · cases hf
      · rename_i off size hp
        split at hf
        · rename_i hc
          have hcs := hv.cells' hc.2.2
          have h1 : w.cells.size = size := by have := hcs.length; simp at this; omega
          have h2 : off + size ≤ cells'.size := by have := h.length; simp at this; omega
          rw [fill_cons place cells' i w ws hp h1 h2]
          exact aFill_sound place hs (h.splice hcs) hf
        · cases hf

def aZero (z : Value) : List AVal := (absV z).cells

theorem aZero_rel (n : Nat) (z : Value) : LRel n ι H (aZero z) z.cells.toList := by
  cases z with
  | agg cs => simpa [aZero, absV, AVal.cells, Value.cells] using LRel.sc cs.toList
  | _ => exact .cons _ _ _ _ (.sc _) .nil

def fieldPlaces (ty : Nat → Option TyI) (fs : Array Field) : Option (List (Nat × Nat)) :=
  fs.toList.mapM fun f => (ty f.type).map fun j => (f.offset, j.size)

def aBuildS (ty : Nat → Option TyI) (fs : Array Field) (z : Value) (parts : List (Nat × AVal)) : Option AVal :=
  match fieldPlaces ty fs with
  | some ps => (aFill (ps[·]?) (aZero z) parts).map .agg
  | none => none

theorem run_places : ∀ (fs : List Field) (ps : List (Nat × Nat)), fs.mapM (fun f => (E.ty f.type).map fun j => (f.offset, j.size)) = some ps →
    (fs.mapM (fun f => do pure (f.offset, ← Go.sizeOf f.type)) : Sem (List (Nat × Nat))).run E.P w = .ok ps w
  | [], ps, h => by simp at h; subst h; simp
  | f :: fs, ps, h => by
      simp only [List.mapM_cons] at h
      cases hf : E.ty f.type with
      | none => simp [hf] at h
      | some j =>
        cases hr : fs.mapM (fun f => (E.ty f.type).map fun j => (f.offset, j.size)) with
        | none => simp [hf, hr] at h
        | some qs =>
          simp [hf, hr] at h
          subst h
          have := run_places fs qs hr
          simp only [List.mapM_cons, Sem.run_bind, run_sizeOf E.ok hf, Result.andThen_ok, Sem.run_pure, this]

theorem aBuildS_sound (hR : Rel E ι H σ w) {t : TypeId} {i : TyI} (ht : E.ty t = some i) {fs : Array Field} (hd : i.desc = .struct fs) {parts : List (Nat × AVal)} {parts' : Array (Nat × Value)}
    (hp : PRel σ.next ι H parts parts'.toList) {v : AVal} (h : aBuildS E.ty fs i.zero parts = some v) : SndV E ι H σ ((Instr.build t parts').run E.P w) v σ := by
  unfold aBuildS at h
  split at h
  · rename_i ps hps
    cases hf : aFill (ps[·]?) (aZero i.zero) parts with
    | none => simp [hf] at h
    | some cs =>
      simp [hf] at h
      subst h
      obtain ⟨cs', h1, h2⟩ := aFill_sound _ hp (aZero_rel σ.next i.zero) hf
      refine SndV.same hR (v' := .agg cs') ?_ (by simpa using VRel.agg cs _ h2)
      have hpl := run_places (w := w) fs.toList ps hps
      have hpl' : (fs.mapM (fun f => do pure (f.offset, ← Go.sizeOf f.type)) : Sem (Array (Nat × Nat))).run E.P w = .ok ps.toArray w := by
        have e : (fs.mapM (fun f => do pure (f.offset, ← Go.sizeOf f.type)) : Sem (Array (Nat × Nat))) =
            List.toArray <$> (fs.toList.mapM (fun f => do pure (f.offset, ← Go.sizeOf f.type)) : Sem (List (Nat × Nat))) := by
          obtain ⟨l⟩ := fs
          simp
        rw [e, Sem.run_map, hpl]; rfl
      simp only [Instr.build, Sem.run_bind, run_zeroValue E.ok ht, Result.andThen_ok, run_underlying E.ok ht, hd, hpl']
      have e2 : (fun x : Nat => ps.toArray[x]?) = (fun x => ps[x]?) := by funext x; simp
      rw [e2, h1]
      rfl
  · cases h

def aBuildA (sz : Nat) (z : Value) (parts : List (Nat × AVal)) : Option AVal :=
  (aFill (fun i => some (i * sz, sz)) (aZero z) parts).map .agg

theorem aBuildA_sound (hR : Rel E ι H σ w) {t : TypeId} {i : TyI} (ht : E.ty t = some i) {len : Nat} {el : TypeId} (hd : i.desc = .array len el) {j : TyI} (hj : E.ty el = some j)
    {parts : List (Nat × AVal)} {parts' : Array (Nat × Value)}
    (hp : PRel σ.next ι H parts parts'.toList) {v : AVal} (h : aBuildA j.size i.zero parts = some v) : SndV E ι H σ ((Instr.build t parts').run E.P w) v σ := by
  unfold aBuildA at h
  cases hf : aFill (fun i => some (i * j.size, j.size)) (aZero i.zero) parts with
  | none => simp [hf] at h
  | some cs =>
    simp [hf] at h
    subst h
    obtain ⟨cs', h1, h2⟩ := aFill_sound _ hp (aZero_rel σ.next i.zero) hf
    refine SndV.same hR (v' := .agg cs') ?_ (by simpa using VRel.agg cs _ h2)
    simp only [Instr.build, Sem.run_bind, run_zeroValue E.ok ht, Result.andThen_ok, run_underlying E.ok ht, hd, run_sizeOf E.ok hj]
    rw [h1]
    rfl

/-! ### A new row -/

/-- A row of elements, flat. -/
theorem Rel.newRow (hR : Rel E ι H σ w) (el : TypeId) {c : Array Value} {sz cap len : Nat} {els : List AVal} (hD : DRel σ.next ι H (c[·]?) sz els 0) (hc : cap * sz ≤ c.size) (hl : els.length ≤ cap)
    (hlen : len ≤ cap) {fr : Nat × Nat} (hfr : FrOk c.size fr) :
    ∃ ι', Rel E ι' H (σ.alloc (.cells sz els)) { w with heap := w.heap.push (.cells c el fr) } ∧ Ext σ.next ι H (σ.next + 1) ι' H ∧
      VRel (σ.next + 1) ι' H (.slice σ.next 0 len) (.slice (some ⟨w.heap.size, 0, none⟩) len cap) ∧ (ι' σ.next).el = el ∧ (ι' σ.next).base = 0 := by
  refine ⟨upd ι σ.next ⟨w.heap.size, 0, sz, cap, el⟩, ?_, Ext.upd _ _ _ _, ?_, by simp [upd_self], by simp [upd_self]⟩
  · refine hR.alloc rfl ?_
    exact ⟨rfl, hl, c, el, fr, by simp, hfr, by simpa using hc, hD, rfl⟩
  · have := VRel.slice (n := σ.next + 1) (ι := upd ι σ.next ⟨w.heap.size, 0, sz, cap, el⟩) (H := H) σ.next 0 len cap (by omega) hlen (by simp [upd_self])
    simpa [upd_self] using this

theorem FrOk.zero (m : Nat) : FrOk m (0, 0) := by intro o _; simp

/-- Zeroes. -/
theorem zeros_get (z : Array Value) (n o : Nat) (hz : 0 < z.size) (ho : o < n) : ((Array.range n).map (z[· % z.size]!))[o]? = z[o % z.size]? := by
  have : o % z.size < z.size := Nat.mod_lt _ hz
  simp [ho, this]

theorem DRel.replicate {n : Nat} {g : Nat → Option Value} {z : Value} {m : Nat} (hg : ∀ o, o < m * z.cells.size → g o = z.cells[o % z.cells.size]?) :
    DRel n ι H g z.cells.size (List.replicate m (absV z)) 0 := by
  apply DRel.of_get
  intro i e he
  have hi : i < m := by
    rcases Nat.lt_or_ge i m with h | h
    · exact h
    · simp [h] at he
  rw [List.getElem?_replicate, if_pos hi] at he
  cases he
  have hr := aZero_rel (ι := ι) (H := H) n z
  refine ⟨?_, by have := hr.length; simpa [aZero] using this⟩
  refine CRel.of_list hr ?_
  intro k hk
  simp at hk
  have : (i + 1) * z.cells.size ≤ m * z.cells.size := Nat.mul_le_mul_right _ hi
  rw [Nat.add_mul] at this
  rw [hg _ (by omega)]
  simp [Nat.mod_eq_of_lt hk]

end
end Abs

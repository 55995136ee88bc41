/-
  Part of the abstract layer (F G H I): values, stores and steps that stand for those of the model, and the proof that they do. It proves no statement by itself.
-/
import Derived.Test.YtcilgbobjhdmeaaGreatDoorAbsG1
import Derived.Laws.Append
noncomputable section
namespace Abs
set_option linter.unusedVariables false
set_option linter.unusedSimpArgs false
set_option linter.unusedSectionVars false
open Go

section
variable {E : Env} {ι : Inj} {H : Imm} {σ σ' : AStore} {w : World}

/-! ### Filling -/

theorem foldl_splice (off : Nat) : ∀ (vs : List Value) (c : Array Value) (k : Nat),
    (vs.zipIdx k).foldl (fun cs (x : Value × Nat) => cs.setIfInBounds (off + x.2) x.1) c = splice c (off + k) vs
  | [], c, k => by simp [splice]
  | v :: vs, c, k => by
      simp only [List.zipIdx_cons, List.foldl_cons]
      rw [foldl_splice off vs _ (k + 1), splice]
      rfl

theorem fill_cons (place : Nat → Option (Nat × Nat)) (cells : Array Value) (i : Nat) (v : Value) (rest : List (Nat × Value)) {off size : Nat} (hp : place i = some (off, size))
    (hs : v.cells.size = size) (hl : off + size ≤ cells.size) :
    Instr.fill place cells ((i, v) :: rest) = Instr.fill place (splice cells off v.cells.toList) rest := by
  have h1 : ¬ (decide (v.cells.size ≠ size) || decide (off + v.cells.size > cells.size)) = true := by simp; omega
  simp only [Instr.fill, hp]
  rw [if_neg h1]
  congr 1
  rw [← Array.foldl_toList, Array.toList_zipIdx, foldl_splice off _ _ 0]
  rfl

theorem LRel.splice {n : Nat} : ∀ {vs us : List AVal} {ws : List Value} {c : Array Value} {k : Nat}, LRel n ι H us c.toList → LRel n ι H vs ws →
    LRel n ι H (spliceL us k vs) (splice c k ws).toList
  | _, _, _, _, _, h, .nil => h
  | _, us, _, c, k, h, .cons v w vs ws hv hs => by
      have := (h.set k hv)
      rw [show c.toList.set k w = (c.setIfInBounds k w).toList by simp] at this
      exact this.splice hs

/-- The parts of a struct or an array laid in. -/
def aFill (place : Nat → Option (Nat × Nat)) (cells : List AVal) : List (Nat × AVal) → Option (List AVal)
  | [] => some cells
  | (i, v) :: rest =>
    match place i with
    | none => none
    | some (off, size) => if v.cells.length = size ∧ off + size ≤ cells.length ∧ v.fit = true then aFill place (spliceL cells off v.cells) rest else none

inductive PRel (n : Nat) (ι : Inj) (H : Imm) : List (Nat × AVal) → List (Nat × Value) → Prop
  | nil : PRel n ι H [] []
  | cons (i : Nat) (v : AVal) (w : Value) (vs : List (Nat × AVal)) (ws : List (Nat × Value)) (h : VRel n ι H v w) (hs : PRel n ι H vs ws) : PRel n ι H ((i, v) :: vs) ((i, w) :: ws)

theorem aFill_sound {n : Nat} (place : Nat → Option (Nat × Nat)) : ∀ {parts : List (Nat × AVal)} {parts' : List (Nat × Value)} {cells cs : List AVal} {cells' : Array Value},
    PRel n ι H parts parts' → LRel n ι H cells cells'.toList → aFill place cells parts = some cs →
    ∃ cs', Instr.fill place cells' parts' = some cs' ∧ LRel n ι H cs cs'.toList
  | _, _, _, _, cells', .nil, h, hf => by simp [aFill] at hf; subst hf; exact ⟨cells', rfl, h⟩
  | _, _, cells, cs, cells', .cons i v w vs ws hv hs, h, hf => by
      unfold aFill at hf
      split at hf
      · cases hf
      · rename_i off size hp
        split at hf
        · rename_i hc
          have hcs := hv.cells' hc.2.2
          have h1 : w.cells.size = size := by have := hcs.length; simp at this; omega
          have h2 : off + size ≤ cells'.size := by have := h.length; simp at this; omega
          rw [fill_cons place cells' i w ws hp h1 h2]
          exact aFill_sound place hs (h.splice hcs) hf
        · cases hf

def aZero (z : Value) : List AVal := (absV z).cells

theorem aZero_rel (n : Nat) (z : Value) : LRel n ι H (aZero z) z.cells.toList := by
  cases z with
  | agg cs => simpa [aZero, absV, AVal.cells, Value.cells] using LRel.sc cs.toList
  | _ => exact .cons _ _ _ _ (.sc _) .nil

def fieldPlaces (ty : Nat → Option TyI) (fs : Array Field) : Option (List (Nat × Nat)) :=
  fs.toList.mapM fun f => (ty f.type).map fun j => (f.offset, j.size)

def aBuildS (ty : Nat → Option TyI) (fs : Array Field) (z : Value) (parts : List (Nat × AVal)) : Option AVal :=
  match fieldPlaces ty fs with
  | some ps => (aFill (ps[·]?) (aZero z) parts).map .agg
  | none => none

theorem run_places : ∀ (fs : List Field) (ps : List (Nat × Nat)), fs.mapM (fun f => (E.ty f.type).map fun j => (f.offset, j.size)) = some ps →
    (fs.mapM (fun f => do pure (f.offset, ← Go.sizeOf f.type)) : Sem (List (Nat × Nat))).run E.P w = .ok ps w
  | [], ps, h => by simp at h; subst h; simp
  | f :: fs, ps, h => by
      simp only [List.mapM_cons] at h
      cases hf : E.ty f.type with
      | none => simp [hf] at h
      | some j =>
        cases hr : fs.mapM (fun f => (E.ty f.type).map fun j => (f.offset, j.size)) with
        | none => simp [hf, hr] at h
        | some qs =>
          simp [hf, hr] at h
          subst h
          have := run_places fs qs hr
          simp only [List.mapM_cons, Sem.run_bind, run_sizeOf E.ok hf, Result.andThen_ok, Sem.run_pure, this]

theorem aBuildS_sound (hR : Rel E ι H σ w) {t : TypeId} {i : TyI} (ht : E.ty t = some i) {fs : Array Field} (hd : i.desc = .struct fs) {parts : List (Nat × AVal)} {parts' : Array (Nat × Value)}
    (hp : PRel σ.next ι H parts parts'.toList) {v : AVal} (h : aBuildS E.ty fs i.zero parts = some v) : SndV E ι H σ ((Instr.build t parts').run E.P w) v σ := by
  unfold aBuildS at h
  split at h
  · rename_i ps hps
    cases hf : aFill (ps[·]?) (aZero i.zero) parts with
    | none => simp [hf] at h
    | some cs =>
      simp [hf] at h
      subst h
      obtain ⟨cs', h1, h2⟩ := aFill_sound _ hp (aZero_rel σ.next i.zero) hf
      refine SndV.same hR (v' := .agg cs') ?_ (by simpa using VRel.agg cs _ h2)
      have hpl := run_places (w := w) fs.toList ps hps
      have hpl' : (fs.mapM (fun f => do pure (f.offset, ← Go.sizeOf f.type)) : Sem (Array (Nat × Nat))).run E.P w = .ok ps.toArray w := by
        have e : (fs.mapM (fun f => do pure (f.offset, ← Go.sizeOf f.type)) : Sem (Array (Nat × Nat))) =
            List.toArray <$> (fs.toList.mapM (fun f => do pure (f.offset, ← Go.sizeOf f.type)) : Sem (List (Nat × Nat))) := by
          obtain ⟨l⟩ := fs
          simp
        rw [e, Sem.run_map, hpl]; rfl
      simp only [Instr.build, Sem.run_bind, run_zeroValue E.ok ht, Result.andThen_ok, run_underlying E.ok ht, hd, hpl']
      have e2 : (fun x : Nat => ps.toArray[x]?) = (fun x => ps[x]?) := by funext x; simp
      rw [e2, h1]
      rfl
  · cases h

def aBuildA (sz : Nat) (z : Value) (parts : List (Nat × AVal)) : Option AVal :=
  (aFill (fun i => some (i * sz, sz)) (aZero z) parts).map .agg

theorem aBuildA_sound (hR : Rel E ι H σ w) {t : TypeId} {i : TyI} (ht : E.ty t = some i) {len : Nat} {el : TypeId} (hd : i.desc = .array len el) {j : TyI} (hj : E.ty el = some j)
    {parts : List (Nat × AVal)} {parts' : Array (Nat × Value)}
    (hp : PRel σ.next ι H parts parts'.toList) {v : AVal} (h : aBuildA j.size i.zero parts = some v) : SndV E ι H σ ((Instr.build t parts').run E.P w) v σ := by
  unfold aBuildA at h
  cases hf : aFill (fun i => some (i * j.size, j.size)) (aZero i.zero) parts with
  | none => simp [hf] at h
  | some cs =>
    simp [hf] at h
    subst h
    obtain ⟨cs', h1, h2⟩ := aFill_sound _ hp (aZero_rel σ.next i.zero) hf
    refine SndV.same hR (v' := .agg cs') ?_ (by simpa using VRel.agg cs _ h2)
    simp only [Instr.build, Sem.run_bind, run_zeroValue E.ok ht, Result.andThen_ok, run_underlying E.ok ht, hd, run_sizeOf E.ok hj]
    rw [h1]
    rfl

/-! ### A new row -/

/-- A row of elements, flat. -/
theorem Rel.newRow (hR : Rel E ι H σ w) (el : TypeId) {c : Array Value} {sz cap len : Nat} {els : List AVal} (hD : DRel σ.next ι H (c[·]?) sz els 0) (hc : cap * sz ≤ c.size) (hl : els.length ≤ cap)
    (hlen : len ≤ cap) {fr : Nat × Nat} (hfr : FrOk c.size fr) :
    ∃ ι', Rel E ι' H (σ.alloc (.cells sz els)) { w with heap := w.heap.push (.cells c el fr) } ∧ Ext σ.next ι H (σ.next + 1) ι' H ∧
      VRel (σ.next + 1) ι' H (.slice σ.next 0 len) (.slice (some ⟨w.heap.size, 0, none⟩) len cap) ∧ (ι' σ.next).el = el ∧ (ι' σ.next).base = 0 := by
  refine ⟨upd ι σ.next ⟨w.heap.size, 0, sz, cap, el⟩, ?_, Ext.upd _ _ _ _, ?_, by simp [upd_self], by simp [upd_self]⟩
  · refine hR.alloc rfl ?_
    exact ⟨rfl, hl, c, el, fr, by simp, hfr, by simpa using hc, hD, rfl⟩
  · have := VRel.slice (n := σ.next + 1) (ι := upd ι σ.next ⟨w.heap.size, 0, sz, cap, el⟩) (H := H) σ.next 0 len cap (by omega) hlen (by simp [upd_self])
    simpa [upd_self] using this

theorem FrOk.zero (m : Nat) : FrOk m (0, 0) := by intro o _; simp

/-- Zeroes. -/
theorem zeros_get (z : Array Value) (n o : Nat) (hz : 0 < z.size) (ho : o < n) : ((Array.range n).map (z[· % z.size]!))[o]? = z[o % z.size]? := by
  have : o % z.size < z.size := Nat.mod_lt _ hz
  simp [ho, this]

theorem DRel.replicate {n : Nat} {g : Nat → Option Value} {z : Value} {m : Nat} (hg : ∀ o, o < m * z.cells.size → g o = z.cells[o % z.cells.size]?) :
    DRel n ι H g z.cells.size (List.replicate m (absV z)) 0 := by
  apply DRel.of_get
  intro i e he
  have hi : i < m := by
    rcases Nat.lt_or_ge i m with h | h
    · exact h
    · simp [h] at he
  rw [List.getElem?_replicate, if_pos hi] at he
  cases he
  have hr := aZero_rel (ι := ι) (H := H) n z
  refine ⟨?_, by have := hr.length; simpa [aZero] using this⟩
  refine CRel.of_list hr ?_
  intro k hk
  simp at hk
  have : (i + 1) * z.cells.size ≤ m * z.cells.size := Nat.mul_le_mul_right _ hi
  rw [Nat.add_mul] at this
  rw [hg _ (by omega)]
  simp [Nat.mod_eq_of_lt hk]

end
end Abs
end
noncomputable section
namespace Abs
set_option linter.unusedVariables false
set_option linter.unusedSimpArgs false
set_option linter.unusedSectionVars false
open Go

section
variable {E : Env} {ι : Inj} {H : Imm} {σ σ' : AStore} {w : World}

/-! ### Slices made -/

def TyI.okz (i : TyI) : Bool := i.zero.cells.size == i.size

theorem splice_upd {n : Nat} {c : Array Value} {sz i : Nat} {els : List AVal} {e : AVal} {ws : List Value} (hD : DRel n ι H (c[·]?) sz els 0) (he : LRel n ι H e.cells ws) (hs : e.cells.length = sz)
    (hi : i * sz + sz ≤ c.size) : DRel n ι H ((splice c (i * sz) ws)[·]?) sz (els.set i e) 0 := by
  have hl : ws.length = sz := by rw [← he.length, hs]
  have hsp := splice_get ws c (i * sz)
  refine DRel.upd hD ?_ ?_ hs
  · intro j hj
    show (splice c (i * sz) ws)[j]? = c[j]?
    rw [hsp j (by omega), if_neg (by omega)]
  · apply CRel.of_list he
    intro k hk
    show (splice c (i * sz) ws)[0 + i * sz + k]? = ws[k]?
    rw [hsp _ (by omega), if_pos (by omega)]
    congr 1; omega

def aSetParts (sz len : Nat) (els : List AVal) : List (Nat × AVal) → Option (List AVal)
  | [] => some els
  | (i, v) :: rest => if v.cells.length = sz ∧ v.fit = true ∧ i < len then aSetParts sz len (els.set i v) rest else none

theorem aSetParts_sound {n sz len : Nat} : ∀ {parts : List (Nat × AVal)} {parts' : List (Nat × Value)} {els els' : List AVal} {c : Array Value},
    PRel n ι H parts parts' → DRel n ι H (c[·]?) sz els 0 → c.size = len * sz → aSetParts sz len els parts = some els' →
    ∃ c', Instr.fill (fun i => some (i * sz, sz)) c parts' = some c' ∧ DRel n ι H (c'[·]?) sz els' 0 ∧ c'.size = c.size ∧ els'.length = els.length
  | _, _, _, _, c, .nil, hD, _, h => by simp [aSetParts] at h; subst h; exact ⟨c, rfl, hD, rfl, rfl⟩
  | _, _, els, els', c, .cons i v w vs ws hv hs, hD, hc, h => by
      unfold aSetParts at h
      split at h
      · rename_i hh
        have hcs := hv.cells' hh.2.1
        have h1 : w.cells.size = sz := by have := hcs.length; simp at this; omega
        have h2 : i * sz + sz ≤ c.size := by
          have : (i + 1) * sz ≤ len * sz := Nat.mul_le_mul_right _ hh.2.2
          rw [Nat.add_mul] at this; omega
        rw [fill_cons _ c i w ws rfl h1 h2]
        obtain ⟨c', q1, q2, q3, q4⟩ := aSetParts_sound (len := len) hs (splice_upd hD hcs hh.1 h2) (by rw [splice_size]; exact hc) h
        exact ⟨c', q1, q2, by rw [q3, splice_size], by rw [q4]; simp⟩
      · cases h

def aBuildSlice (j : TyI) (len : Nat) (parts : List (Nat × AVal)) (σ : AStore) : Option (AVal × AStore) :=
  if j.okz = true ∧ j.size ≠ 0 ∧ len * j.size ≤ 2 ^ 24 then
    (aSetParts j.size len (List.replicate len (absV j.zero)) parts).map fun els => (.slice σ.next 0 len, σ.alloc (.cells j.size els))
  else none

theorem run_buildSlice {n : Nat} {t : TypeId} {i : TyI} (ht : E.ty t = some i) {el : TypeId} (hd : i.desc = .slice el) {j : TyI} (hj : E.ty el = some j) {len : Nat}
    {parts : List (Nat × AVal)} {parts' : Array (Nat × Value)} (hp : PRel n ι H parts parts'.toList) (hz : j.okz = true) (hs : j.size ≠ 0) (hb : len * j.size ≤ 2 ^ 24) {els : List AVal}
    (hf : aSetParts j.size len (List.replicate len (absV j.zero)) parts = some els) :
    ∃ c' : Array Value, (Instr.buildSlice t len parts').run E.P w = .ok (.slice (some ⟨w.heap.size, 0, none⟩) len len) { w with heap := w.heap.push (.cells c' el) } ∧
      DRel n ι H (c'[·]?) j.size els 0 ∧ c'.size = len * j.size ∧ els.length = len := by
  have hz' : j.zero.cells.size = j.size := by simpa [TyI.okz] using hz
  have key : ∀ z0 : Array Value, (len * j.size = 0 ∨ z0 = j.zero.cells) → ∃ c', Instr.fill (fun i => some (i * j.size, j.size)) ((Array.range (len * j.size)).map (z0[· % z0.size]!)) parts'.toList = some c' ∧
      DRel n ι H (c'[·]?) j.size els 0 ∧ c'.size = len * j.size ∧ els.length = len := by
    intro z0 hz0
    have hD0 : DRel n ι H (((Array.range (len * j.size)).map (z0[· % z0.size]!))[·]?) j.size (List.replicate len (absV j.zero)) 0 := by
      rcases hz0 with h0 | rfl
      · have : len = 0 := by
          rcases Nat.mul_eq_zero.1 h0 with h | h
          · exact h
          · exact absurd h hs
        subst this
        exact .nil _ _ _
      · have := DRel.replicate (ι := ι) (H := H) (n := n) (z := j.zero) (m := len) (g := fun o => ((Array.range (len * j.size)).map (j.zero.cells[· % j.zero.cells.size]!))[o]?) (by
          intro o ho
          rw [hz'] at ho
          exact zeros_get _ _ _ (by omega) ho)
        rw [hz'] at this
        rw [hz']
        exact this
    obtain ⟨c', q1, q2, q3, q4⟩ := aSetParts_sound (len := len) hp hD0 (by simp) hf
    exact ⟨c', q1, q2, by rw [q3]; simp, by rw [q4]; simp⟩
  have hb' : ¬ (2 ^ 24 < len * j.size) := by omega
  simp only [Instr.buildSlice, Sem.run_bind, run_underlying E.ok ht, Result.andThen_ok, hd, run_sizeOf E.ok hj]
  rw [if_neg (by simpa using hb')]
  by_cases h0 : len * j.size = 0
  · obtain ⟨c', q1, q2, q3, q4⟩ := key #[] (.inl h0)
    simp only [if_pos h0, Sem.run_bind, Sem.run_pure, Result.andThen_ok, q1]
    exact ⟨c', rfl, q2, q3, q4⟩
  · obtain ⟨c', q1, q2, q3, q4⟩ := key j.zero.cells (.inr rfl)
    simp only [if_neg h0, Sem.run_bind, run_zeroValue E.ok hj, Sem.run_pure, Result.andThen_ok, q1]
    exact ⟨c', rfl, q2, q3, q4⟩

theorem aBuildSlice_sound (hR : Rel E ι H σ w) {t : TypeId} {i : TyI} (ht : E.ty t = some i) {el : TypeId} (hd : i.desc = .slice el) {j : TyI} (hj : E.ty el = some j) {len : Nat}
    {parts : List (Nat × AVal)} {parts' : Array (Nat × Value)} (hp : PRel σ.next ι H parts parts'.toList) {v : AVal} (h : aBuildSlice j len parts σ = some (v, σ')) :
    SndV E ι H σ ((Instr.buildSlice t len parts').run E.P w) v σ' := by
  unfold aBuildSlice at h
  split at h
  · rename_i hc
    obtain ⟨hz, hs, hb⟩ := hc
    cases hf : aSetParts j.size len (List.replicate len (absV j.zero)) parts with
    | none => simp [hf] at h
    | some els =>
      simp [hf] at h
      obtain ⟨rfl, rfl⟩ := h
      obtain ⟨c', q1, q2, q3, q4⟩ := run_buildSlice (w := w) ht hd hj hp hz hs hb hf
      obtain ⟨ι', r1, r2, r3, _⟩ := hR.newRow el (cap := len) (len := len) q2 (by omega) (by omega) (Nat.le_refl _) (FrOk.zero _)
      exact ⟨_, _, ι', H, q1, r3, r1, r2⟩
  · cases h

/-- A new block that no one will write. -/
def Imm.with (H : Imm) (b : Nat) (o : Obj) : Imm := fun c => if c = b then some (true, o) else H c

theorem Rel.frozen (hR : Rel E ι H σ w) (o : Obj) : Rel E ι (H.with w.heap.size o) σ { w with heap := w.heap.push o } ∧ Ext σ.next ι H σ.next ι (H.with w.heap.size o) := by
  have hH : ∀ c o', H c = some o' → c < w.heap.size := by
    intro c o' hc
    have := hR.imm c o' hc
    rcases Nat.lt_or_ge c w.heap.size with h' | h'
    · exact h'
    · simp [Array.getElem?_eq_none h'] at this
  have hLe : H.Le (H.with w.heap.size o) := by
    intro c o' hc
    have := hH c o' hc
    simp [Imm.with, Nat.ne_of_lt this, hc]
  have he : Ext σ.next ι H σ.next ι (H.with w.heap.size o) := ⟨Nat.le_refl _, fun _ _ => rfl, hLe⟩
  have hlt : ∀ (c : Nat), c < w.heap.size → (w.heap.push o)[c]? = w.heap[c]? := by
    intro c hc
    simp [Array.getElem?_push, Nat.ne_of_lt hc]
  refine ⟨⟨?_, ?_, hR.inj, fun g => (hR.glob g).ext he, hR.keep, hR.tys⟩, he⟩
  · intro c o' hc
    simp only [Imm.with] at hc
    split at hc
    · rename_i e; cases hc; subst e; simp
    · rw [hlt c (hH c o' hc)]; exact hR.imm c o' hc
  · intro b x hb
    obtain ⟨h1, h2, h3⟩ := hR.live b x hb
    refine ⟨h1.ext he (hlt _ h3) (by simp) ?_, by simp [Imm.with, Nat.ne_of_lt h3, h2], by simp; omega⟩
    intro m since seen hy
    subst hy
    exact hlt _ h1.1.2.1

/-- A literal slice that no one will write: as data. -/
def aLitSlice (j : TyI) (len : Nat) (parts : List (Nat × AVal)) : Option AVal :=
  if j.okz = true ∧ j.size ≠ 0 ∧ len * j.size ≤ 2 ^ 24 then
    (aSetParts j.size len (List.replicate len (absV j.zero)) parts).map fun els => .data j.size true els
  else none

theorem aLitSlice_sound (hR : Rel E ι H σ w) {t : TypeId} {i : TyI} (ht : E.ty t = some i) {el : TypeId} (hd : i.desc = .slice el) {j : TyI} (hj : E.ty el = some j) {len : Nat}
    {parts : List (Nat × AVal)} {parts' : Array (Nat × Value)} (hp : PRel σ.next ι H parts parts'.toList) {v : AVal} (h : aLitSlice j len parts = some v) :
    SndV E ι H σ ((Instr.buildSlice t len parts').run E.P w) v σ := by
  unfold aLitSlice at h
  split at h
  · rename_i hc
    obtain ⟨hz, hs, hb⟩ := hc
    cases hf : aSetParts j.size len (List.replicate len (absV j.zero)) parts with
    | none => simp [hf] at h
    | some els =>
      simp [hf] at h
      subst h
      obtain ⟨c', q1, q2, q3, q4⟩ := run_buildSlice (w := w) ht hd hj hp hz hs hb hf
      obtain ⟨r1, r2⟩ := hR.frozen (.cells c' el)
      refine ⟨_, _, ι, H.with w.heap.size (.cells c' el), q1, ?_, r1, r2⟩
      refine .data _ _ _ _ _ _ _ q4.symm (Nat.le_refl _) (fun _ => rfl) ?_
      refine q2.ext r2 ?_
      intro o v ho
      have ho' : c'[o]? = some v := ho
      simp [Imm.cell?, Imm.with, ho']
  · cases h

def aMakeSlice (j : TyI) (l c : AVal) (σ : AStore) : Option (AVal × AStore) :=
  match l, c with
  | .sc (.int _ l), .sc (.int _ c) =>
    if j.okz = true ∧ j.size ≠ 0 ∧ 0 ≤ l ∧ l ≤ c ∧ j.bytes * c ≤ 2 ^ 48 ∧ c < 2 ^ 62 then
      some (.slice σ.next 0 l.toNat, σ.alloc (.cells j.size (List.replicate c.toNat (absV j.zero))))
    else none
  | _, _ => none

theorem wrap64_small {x : Int} (h0 : 0 ≤ x) (h1 : x < 2 ^ 62) : IntKind.i64.wrap x = x := by
  simp only [IntKind.wrap, IntKind.bits, IntKind.signed]
  have : x % 2 ^ 64 = x := by omega
  simp only [this]
  simp; omega

theorem aMakeSlice_sound (hR : Rel E ι H σ w) {t : TypeId} {i : TyI} (ht : E.ty t = some i) {el : TypeId} (hd : i.desc = .slice el) {j : TyI} (hj : E.ty el = some j)
    {l c v : AVal} {l' c' : Value} (hl : VRel σ.next ι H l l') (hc : VRel σ.next ι H c c') (h : aMakeSlice j l c σ = some (v, σ')) :
    SndV E ι H σ ((Instr.makeSlice t l' c').run E.P w) v σ' := by
  unfold aMakeSlice at h
  split at h
  · rename_i k l k' c
    obtain rfl := hl.sc_inv
    obtain rfl := hc.sc_inv
    split at h
    · rename_i hh
      obtain ⟨hz, hs, h0, h1, h2, h3⟩ := hh
      cases h
      have hz' : j.zero.cells.size = j.size := by simpa [TyI.okz] using hz
      obtain ⟨info, hi1, hi2, hi3, hi4⟩ := run_typeInfo E.ok hj w
      have hwl : IntKind.i64.wrap l = l := wrap64_small h0 (by omega)
      have hwc : IntKind.i64.wrap c = c := wrap64_small (by omega) h3
      have hnot : ¬ ((decide (c < 0) || decide (2 ^ 48 < (j.bytes : Int) * c) || decide (l < 0) || decide (c < l)) = true) := by simp; omega
      have fin : ∀ c0 : Array Value, c0 = (Array.range (c.toNat * j.size)).map (j.zero.cells[· % j.zero.cells.size]!) → 
          SndV E ι H σ (.ok (.slice (some ⟨w.heap.size, 0, none⟩) l.toNat c.toNat) { w with heap := w.heap.push (.cells c0 el) }) (.slice σ.next 0 l.toNat)
            (σ.alloc (.cells j.size (List.replicate c.toNat (absV j.zero)))) := by
        intro c0 hc0
        have hD : DRel σ.next ι H (c0[·]?) j.size (List.replicate c.toNat (absV j.zero)) 0 := by
          have := DRel.replicate (ι := ι) (H := H) (n := σ.next) (z := j.zero) (m := c.toNat) (g := fun o => c0[o]?) (by
            intro o ho
            rw [hz'] at ho
            show c0[o]? = _
            rw [hc0]
            exact zeros_get _ _ _ (by omega) ho)
          rw [hz'] at this
          exact this
        obtain ⟨ι', r1, r2, r3, _⟩ := hR.newRow el (cap := c.toNat) (len := l.toNat) hD (by simp [hc0]) (by simp) (by omega) (FrOk.zero _)
        exact ⟨_, _, ι', H, rfl, r3, r1, r2⟩
      simp only [Instr.makeSlice, Sem.run_bind, run_underlying E.ok ht, Result.andThen_ok, hd, asInt, asIntOf, Sem.run_pure, hi1, hi3, hwl, hwc]
      have e1 : (decide (c < 0) || decide ((j.bytes : Int) * c > 2 ^ 48) || decide (l < 0) || decide (l > c)) = false := by simpa using hnot
      simp only [e1, Bool.false_eq_true, if_false, Sem.run_bind, run_askRoom, Result.andThen_ok, run_sizeOf E.ok hj]
      by_cases hn : c.toNat * j.size = 0
      · have hempty : ∀ f : Nat → Value, (Array.range (c.toNat * j.size)).map f = #[] := by intro f; rw [hn]; simp
        have := fin _ rfl
        simp only [hempty] at this
        rw [if_pos hn]
        show SndV E ι H σ (Sem.run E.P (do
          let a ← newRow el ((Array.range (c.toNat * j.size)).map fun x => (#[] : Array Value)[x % (#[] : Array Value).size]!)
          pure (Value.slice (some a) l.toNat c.toNat)) w) _ _
        rw [hempty]
        exact this
      · simp only [if_neg hn, Sem.run_bind, run_zeroValue E.ok hj, Sem.run_pure, Result.andThen_ok]
        exact fin _ rfl
    · cases h
  · cases h
end
end Abs
end
noncomputable section
namespace Abs
set_option linter.unusedVariables false
set_option linter.unusedSimpArgs false
set_option linter.unusedSectionVars false
open Go

section
variable {E : Env} {ι : Inj} {H : Imm} {σ σ' : AStore} {w : World}

/-! ### Slicing -/

def optInt : Option AVal → Option (Option Int)
  | none => some none
  | some (.sc (.int _ n)) => some (some n)
  | _ => none

/-- The bounds of a slice expression: 0 ≤ l ≤ h ≤ len. -/
def aBounds (len : Nat) (lo hi : Option AVal) : Option (Nat × Nat) :=
  match optInt lo, optInt hi with
  | some lo, some hi =>
    let l := lo.getD 0
    let h := hi.getD len
    if 0 ≤ l ∧ l ≤ h ∧ h ≤ len then some (l.toNat, h.toNat) else none
  | _, _ => none

inductive ORel (n : Nat) (ι : Inj) (H : Imm) : Option AVal → Option Value → Prop
  | none : ORel n ι H none none
  | some (v : AVal) (w : Value) (h : VRel n ι H v w) : ORel n ι H (some v) (some w)

theorem optInt_some {n : Nat} {x : Option AVal} {x' : Option Value} (h : ORel n ι H x x') {r : Option Int} (hr : optInt x = some r) :
    (x' = none ∧ r = none) ∨ ∃ k z, x' = some (.int k z) ∧ r = some z := by
  cases h with
  | none => simp [optInt] at hr; exact .inl ⟨rfl, hr.symm⟩
  | some v w hv =>
    unfold optInt at hr
    split at hr
    · simp at *
    · rename_i k z he
      simp at he
      subst he
      cases hr
      exact .inr ⟨k, z, by rw [hv.sc_inv], rfl⟩
    · cases hr

theorem run_sliceBounds {n : Nat} {lo hi : Option AVal} {lo' hi' : Option Value} (hlo : ORel n ι H lo lo') (hhi : ORel n ι H hi hi') {len cap l h : Nat} (isS : Bool) (hcap : len ≤ cap)
    (hb : aBounds len lo hi = some (l, h)) (P : Program) : (Instr.sliceBounds isS len cap lo' hi' none).run P w = .ok (l, h, cap) w ∧ l ≤ h ∧ h ≤ len := by
  unfold aBounds at hb
  split at hb
  · rename_i zl zh hl hh
    simp only [] at hb
    split at hb
    · rename_i hc
      obtain ⟨h1, h2, h3⟩ := hc
      cases hb
      refine ⟨?_, by omega, by omega⟩
      rcases optInt_some hlo hl with ⟨rfl, rfl⟩ | ⟨k, z, rfl, rfl⟩ <;> rcases optInt_some hhi hh with ⟨rfl, rfl⟩ | ⟨k', z', rfl, rfl⟩
      · simp [Instr.sliceBounds]
      · simp at h1 h2 h3
        have : 0 ≤ z' ∧ z' ≤ (cap : Int) := by omega
        simp [Instr.sliceBounds, Instr.sliceBound, asIntOf, this]
      · simp at h1 h2 h3
        simp [Instr.sliceBounds, Instr.sliceBound, asIntOf, h1, h2]
      · simp at h1 h2 h3
        have : 0 ≤ z' ∧ z' ≤ (cap : Int) := by omega
        have h5 : 0 ≤ z ∧ z ≤ (z'.toNat : Int) := by omega
        simp [Instr.sliceBounds, Instr.sliceBound, asIntOf, this]
        intro hc
        exact absurd hc (by omega)
    · cases hb
  · cases hb

def aSliceStr (x : AVal) (lo hi : Option AVal) : Option AVal :=
  match x with
  | .sc (.string s) => (aBounds s.size lo hi).map fun p => .sc (.string (s.extract p.1 p.2))
  | _ => none

theorem aSliceStr_sound (hR : Rel E ι H σ w) {t : TypeId} {i : TyI} (hs : E.ty t = some i) (hd : i.desc = .string) {x v : AVal} {x' : Value} (hx : VRel σ.next ι H x x')
    {lo hi : Option AVal} {lo' hi' : Option Value} (hlo : ORel σ.next ι H lo lo') (hhi : ORel σ.next ι H hi hi') (h : aSliceStr x lo hi = some v) :
    SndV E ι H σ ((Instr.sliceAt t x' lo' hi' none).run E.P w) v σ := by
  unfold aSliceStr at h
  split at h
  · rename_i s
    obtain rfl := hx.sc_inv
    cases hb : aBounds s.size lo hi with
    | none => simp [hb] at h
    | some p =>
      obtain ⟨l, hh⟩ := p
      simp [hb] at h
      subst h
      obtain ⟨h1, _, _⟩ := run_sliceBounds (w := w) hlo hhi false (Nat.le_refl _) hb E.P
      refine SndV.same hR (v' := .string (s.extract l hh)) ?_ (.sc _)
      simp [Instr.sliceAt, Instr.slice, run_underlying E.ok hs, hd, h1]
  · cases h

def aSlice (sz : Nat) (x : AVal) (lo hi : Option AVal) (σ : AStore) : Option AVal :=
  match x with
  | .slice b off len =>
    match σ.get b with
    | some (.cells sz' _) =>
      if sz' = sz then
        match aBounds len lo hi with
        | some (l, h) => if l ≠ 0 ∧ l = h ∧ off + l = (off + len) then some (.endS b (off + l)) else if l ≠ 0 ∧ l = h then some (.data sz false []) else some (.slice b (off + l) (h - l))
        | none => none
      else none
    | _ => none
  | .data sz' t els =>
    if sz' = sz then
      match aBounds els.length lo hi with
      | some (l, h) => some (.data sz (t && h == els.length) ((els.drop l).take (h - l)))
      | none => none
    else none
  | .sc (.slice none 0 0) =>
    match aBounds 0 lo hi with
    | some _ => some (.sc (.slice none 0 0))
    | none => none
  | _ => none

theorem DRel.drop {n : Nat} {g : Nat → Option Value} {sz : Nat} {els : List AVal} {o : Nat} (h : DRel n ι H g sz els o) (k : Nat) : DRel n ι H g sz (els.drop k) (o + k * sz) := by
  apply DRel.of_get
  intro i e he
  rw [List.getElem?_drop] at he
  have := h.get he
  rw [Nat.add_mul, ← Nat.add_assoc] at this
  exact this
theorem DRel.take {n : Nat} {g : Nat → Option Value} {sz : Nat} {els : List AVal} {o : Nat} (h : DRel n ι H g sz els o) (k : Nat) : DRel n ι H g sz (els.take k) o := by
  apply DRel.of_get
  intro i e he
  rw [List.getElem?_take] at he
  split at he
  · exact h.get he
  · cases he

theorem run_sliceAt {t : TypeId} {i : TyI} (hs : E.ty t = some i) {el : TypeId} (hd : i.desc = .slice el) {j : TyI} (hj : E.ty el = some j) {a : Option Addr} {len cap : Nat} {lo' hi' : Option Value}
    {l h : Nat} (h1 : (Instr.sliceBounds true len cap lo' hi' none).run E.P w = .ok (l, h, cap) w) :
    (Instr.sliceAt t (.slice a len cap) lo' hi' none).run E.P w = .ok (.slice (if cap = l then a else a.map (·.add (l * j.size))) (h - l) (cap - l)) w := by
  simp [Instr.sliceAt, Instr.slice, run_underlying E.ok hs, hd, h1, run_sizeOf E.ok hj]

/-- A view of a row: 's[l:h:h]'. -/
def aSlice3 (sz : Nat) (x : AVal) (lo hi mx : Option AVal) (σ : AStore) : Option AVal :=
  match lo, hi, mx with
  | some (.sc (.int _ l)), some (.sc (.int _ h)), some (.sc (.int _ m)) =>
    if 0 ≤ l ∧ l < h ∧ h = m then
      match x with
      | .slice b off len =>
        match σ.get b with
        | some (.cells sz' els) => if sz' = sz ∧ m.toNat ≤ len ∧ off + m.toNat ≤ els.length then some (.view b (off + l.toNat) (h - l).toNat) else none
        | _ => none
      | .view b off len =>
        match σ.get b with
        | some (.cells sz' els) => if sz' = sz ∧ m.toNat ≤ len ∧ off + m.toNat ≤ els.length then some (.view b (off + l.toNat) (h - l).toNat) else none
        | _ => none
      | .data sz' _ els => if sz' = sz ∧ m.toNat ≤ els.length then some (.data sz true ((els.drop l.toNat).take (h - l).toNat)) else none
      | _ => none
    else none
  | _, _, _ => none

theorem run_sliceAt3 {t : TypeId} {i : TyI} (hs : E.ty t = some i) {el : TypeId} (hd : i.desc = .slice el) {j : TyI} (hj : E.ty el = some j) {a : Option Addr} {len cap : Nat} {k1 k2 k3 : IntKind} {l h : Int}
    (h0 : 0 ≤ l) (h1 : l < h) (h2 : h.toNat ≤ cap) :
    (Instr.sliceAt t (.slice a len cap) (some (.int k1 l)) (some (.int k2 h)) (some (.int k3 h))).run E.P w = .ok (.slice (a.map (·.add (l.toNat * j.size))) (h - l).toNat (h - l).toNat) w := by
  have e1 : 0 ≤ h := by omega
  have e2 : h ≤ (cap : Int) := by omega
  have e3 : ¬ h.toNat = l.toNat := by omega
  have e4 : h.toNat - l.toNat = (h - l).toNat := by omega
  have e5 : max h 0 = h := by omega
  have e6 : l ≤ h := by omega
  simp [Instr.sliceAt, Instr.slice, Instr.sliceBounds, Instr.sliceBound, asIntOf, run_underlying E.ok hs, hd, run_sizeOf E.ok hj, h0, e1, e2, e3, e4, e5, e6]

theorem aSlice3_sound (hR : Rel E ι H σ w) {t : TypeId} {i : TyI} (hs : E.ty t = some i) {el : TypeId} (hd : i.desc = .slice el) {j : TyI} (hj : E.ty el = some j)
    {x v : AVal} {x' : Value} (hx : VRel σ.next ι H x x') {lo hi mx : Option AVal} {lo' hi' mx' : Option Value} (hlo : ORel σ.next ι H lo lo') (hhi : ORel σ.next ι H hi hi') (hmx : ORel σ.next ι H mx mx')
    (h : aSlice3 j.size x lo hi mx σ = some v) : SndV E ι H σ ((Instr.sliceAt t x' lo' hi' mx').run E.P w) v σ := by
  unfold aSlice3 at h
  split at h
  · rename_i k1 l k2 hh k3 m
    cases hlo with
    | some _ lo' hlo =>
    cases hhi with
    | some _ hi' hhi =>
    cases hmx with
    | some _ mx' hmx =>
    obtain rfl := hlo.sc_inv
    obtain rfl := hhi.sc_inv
    obtain rfl := hmx.sc_inv
    split at h
    · rename_i hc
      obtain ⟨h0, h1, rfl⟩ := hc
      split at h
      · rename_i b off len
        obtain ⟨cap, rfl, hb, hl, hcap⟩ := hx.slice_inv
        split at h
        · rename_i sz' els hg
          split at h
          · rename_i hc2
            obtain ⟨rfl, h2, h3⟩ := hc2
            cases h
            have hsz := ((hR.live b _ hg).1).1
            refine SndV.same hR (v' := .slice (some ⟨(ι b).blk, (ι b).base + (off + l.toNat) * (ι b).sz, none⟩) (hh - l).toNat (hh - l).toNat) ?_ (.view _ _ _ hb (by omega))
            rw [run_sliceAt3 hs hd hj h0 h1 (by omega)]
            simp [add_mk, hsz, Nat.add_mul, Nat.add_assoc]
          · cases h
        · cases h
      · rename_i b off len
        obtain ⟨rfl, hb, hcap⟩ := hx.view_inv
        split at h
        · rename_i sz' els hg
          split at h
          · rename_i hc2
            obtain ⟨rfl, h2, h3⟩ := hc2
            cases h
            have hsz := ((hR.live b _ hg).1).1
            refine SndV.same hR (v' := .slice (some ⟨(ι b).blk, (ι b).base + (off + l.toNat) * (ι b).sz, none⟩) (hh - l).toNat (hh - l).toNat) ?_ (.view _ _ _ hb (by omega))
            rw [run_sliceAt3 hs hd hj h0 h1 (by omega)]
            simp [add_mk, hsz, Nat.add_mul, Nat.add_assoc]
          · cases h
        · cases h
      · rename_i sz' tt els
        obtain ⟨b, o, cap, rfl, hl, hD, htt⟩ := hx.data_inv
        split at h
        · rename_i hc2
          obtain ⟨rfl, h2⟩ := hc2
          cases h
          refine SndV.same hR (v' := .slice (some ⟨b, o + l.toNat * j.size, none⟩) (hh - l).toNat (hh - l).toNat) ?_ (.data _ _ _ _ _ _ _ (by simp; omega) (Nat.le_refl _) (fun _ => rfl) ((hD.drop _).take _))
          rw [run_sliceAt3 hs hd hj h0 h1 (by omega)]
          simp [add_mk]
        · cases h
      · cases h
    · cases h
  · cases h

/-- A block's memory is told of from now on; no one writes it again. -/
theorem Rel.freeze (h : Rel E ι H σ w) {b : Nat} {x : ABlk} (hb : σ.get b = some x) {o : Obj} (ho : w.heap[(ι b).blk]? = some o) :
    Rel E ι (H.with (ι b).blk o) (σ.del b) w ∧ Ext σ.next ι H σ.next ι (H.with (ι b).blk o) := by
  obtain ⟨l1, l2, l3⟩ := h.live b _ hb
  have hLe : H.Le (H.with (ι b).blk o) := by
    intro c o' hc
    have : c ≠ (ι b).blk := by intro e; subst e; rw [l2] at hc; cases hc
    simp [Imm.with, this, hc]
  have he : Ext σ.next ι H σ.next ι (H.with (ι b).blk o) := ⟨Nat.le_refl _, fun _ _ => rfl, hLe⟩
  have hget : ∀ b' y, (σ.del b).get b' = some y → b' ≠ b ∧ σ.get b' = some y := by
    intro b' y hy
    rw [AStore.get_del] at hy
    split at hy
    · cases hy
    · rename_i hne; exact ⟨hne, hy⟩
  refine ⟨⟨?_, ?_, ?_, fun g => (h.glob g).ext he, h.keep, h.tys⟩, he⟩
  · intro c o' hc
    simp only [Imm.with] at hc
    split at hc
    · rename_i e; cases hc; subst e; exact ho
    · exact h.imm c o' hc
  · intro b' y hy
    obtain ⟨hne, hy⟩ := hget b' y hy
    obtain ⟨h1, h2, h3⟩ := h.live b' _ hy
    have hne' : (ι b').blk ≠ (ι b).blk := fun hc => hne (h.inj b' b _ _ hy hb hc)
    exact ⟨h1.ext he rfl (Nat.le_refl _) (fun _ _ _ _ => rfl), by simp [Imm.with, hne', h2], h3⟩
  · intro b1 b2 x1 x2 h1 h2 hh
    exact h.inj b1 b2 x1 x2 (hget _ _ h1).2 (hget _ _ h2).2 hh

/-- 'p[l:h]' of an array of cells: its memory is given up, and told of. -/
def aSliceArr (n sz : Nat) (x : AVal) (lo hi : Option AVal) (σ : AStore) : Option (AVal × AStore) :=
  match x with
  | .ptr b i k =>
    match σ.get b with
    | some (.cells _ els) =>
      match els[i]? with
      | some e =>
        match aBounds n lo hi with
        | some (l, h) =>
          if sz = 1 ∧ l < h ∧ k + n ≤ e.cells.length ∧ (e.cells.all fun v => !v.isAgg) = true then
            some (.data 1 (Nat.beq h n) ((e.cells.drop (k + l)).take (h - l)), σ.del b)
          else none
        | none => none
      | none => none
    | _ => none
  | _ => none

theorem DRel.ones {n : Nat} {g : Nat → Option Value} : ∀ {cs : List AVal} {o : Nat}, CRel n ι H g cs o → (∀ v ∈ cs, v.isAgg = false) → DRel n ι H g 1 cs o
  | _, _, .nil _ _, _ => .nil _ _ _
  | _, _, .cons _ v w vs o hg h hs, ha => .one _ v w vs o (ha v (by simp)) hg h (DRel.ones hs (fun v hv => ha v (by simp [hv])))

theorem aSliceArr_sound (hR : Rel E ι H σ w) {t : TypeId} {i : TyI} (hs : E.ty t = some i) {arr : TypeId} (hd : i.desc = .pointer arr) {ia : TyI} (hia : E.ty arr = some ia) {n : Nat} {el : TypeId} (hda : ia.desc = .array n el)
    {j : TyI} (hj : E.ty el = some j) {x v : AVal} {σ' : AStore} {x' : Value} (hx : VRel σ.next ι H x x') {lo hi : Option AVal} {lo' hi' : Option Value} (hlo : ORel σ.next ι H lo lo') (hhi : ORel σ.next ι H hi hi')
    (h : aSliceArr n j.size x lo hi σ = some (v, σ')) : SndV E ι H σ ((Instr.sliceAt t x' lo' hi' none).run E.P w) v σ' := by
  unfold aSliceArr at h
  split at h
  · rename_i b q k
    obtain ⟨hb, rfl⟩ := hx.ptr_inv
    split at h
    · rename_i sz els hg
      split at h
      · rename_i e he
        split at h
        · rename_i l hh hbd
          split at h
          · rename_i hc
            obtain ⟨hsz, hlh, hk, hall⟩ := hc
            cases h
            obtain ⟨h1, h2, h3⟩ := run_sliceBounds (w := w) hlo hhi false (Nat.le_refl n) hbd E.P
            obtain ⟨l1, l2, l3⟩ := hR.live b _ hg
            obtain ⟨g1, g2, c, elem, fr, g3, gf, g4, g5, _⟩ := l1
            obtain ⟨f1, f2⟩ := hR.freeze hg g3
            have hD := (g5.get he).1
            have hD2 := ((hD.drop (k + l)).take (hh - l))
            have hwf : CRel σ.next ι (H.with (ι b).blk (.cells c elem fr)) ((H.with (ι b).blk (.cells c elem fr)).cell? (ι b).blk) ((e.cells.drop (k + l)).take (hh - l)) ((ι b).base + q * sz + (k + l)) :=
              hD2.ext f2 (fun o v hv => by simpa [Imm.cell?, Imm.with] using hv)
            refine ⟨.slice (some ⟨(ι b).blk, (ι b).base + q * (ι b).sz + k + l, none⟩) (hh - l) (n - l), w, ι, H.with (ι b).blk (.cells c elem fr), ?_, ?_, f1, f2⟩
            · have hnl : ¬ n = l := by omega
              have hu2 := run_underlying E.ok hia w
              simp [Instr.sliceAt, Instr.slice, asAddr, run_underlying E.ok hs, hd, hu2, hda, h1, run_sizeOf E.ok hj, hnl, hsz, add_mk]
            · rw [g1]
              refine .data 1 (Nat.beq hh n) _ (ι b).blk _ _ _ (by simp; omega) (by omega) (fun hb => by have := Nat.eq_of_beq_eq_true hb; omega) ?_
              have := DRel.ones hwf (by
                intro v hv
                have hv1 := List.mem_of_mem_drop (List.mem_of_mem_take hv)
                rw [List.all_eq_true] at hall
                simpa using hall v hv1)
              rw [show (ι b).base + q * sz + k + l = (ι b).base + q * sz + (k + l) by omega]
              exact this
          · cases h
        · cases h
      · cases h
    · cases h
  · cases h

theorem aSliceArr_soundA (hR : Rel E ι H σ w) {t : TypeId} {i : TyI} (hs : E.ty t = some i) {n : Nat} {el : TypeId} (hd : i.desc = .array n el)
    {j : TyI} (hj : E.ty el = some j) {x v : AVal} {σ' : AStore} {x' : Value} (hx : VRel σ.next ι H x x') {lo hi : Option AVal} {lo' hi' : Option Value} (hlo : ORel σ.next ι H lo lo') (hhi : ORel σ.next ι H hi hi')
    (h : aSliceArr n j.size x lo hi σ = some (v, σ')) : SndV E ι H σ ((Instr.sliceAt t x' lo' hi' none).run E.P w) v σ' := by
  unfold aSliceArr at h
  split at h
  · rename_i b q k
    obtain ⟨hb, rfl⟩ := hx.ptr_inv
    split at h
    · rename_i sz els hg
      split at h
      · rename_i e he
        split at h
        · rename_i l hh hbd
          split at h
          · rename_i hc
            obtain ⟨hsz, hlh, hk, hall⟩ := hc
            cases h
            obtain ⟨h1, h2, h3⟩ := run_sliceBounds (w := w) hlo hhi false (Nat.le_refl n) hbd E.P
            obtain ⟨l1, l2, l3⟩ := hR.live b _ hg
            obtain ⟨g1, g2, c, elem, fr, g3, gf, g4, g5, _⟩ := l1
            obtain ⟨f1, f2⟩ := hR.freeze hg g3
            have hD := (g5.get he).1
            have hD2 := ((hD.drop (k + l)).take (hh - l))
            have hwf : CRel σ.next ι (H.with (ι b).blk (.cells c elem fr)) ((H.with (ι b).blk (.cells c elem fr)).cell? (ι b).blk) ((e.cells.drop (k + l)).take (hh - l)) ((ι b).base + q * sz + (k + l)) :=
              hD2.ext f2 (fun o v hv => by simpa [Imm.cell?, Imm.with] using hv)
            refine ⟨.slice (some ⟨(ι b).blk, (ι b).base + q * (ι b).sz + k + l, none⟩) (hh - l) (n - l), w, ι, H.with (ι b).blk (.cells c elem fr), ?_, ?_, f1, f2⟩
            · have hnl : ¬ n = l := by omega
              simp [Instr.sliceAt, Instr.sureAddr, run_underlying E.ok hs, hd, h1, run_sizeOf E.ok hj, hnl, hsz, add_mk]
            · rw [g1]
              refine .data 1 (Nat.beq hh n) _ (ι b).blk _ _ _ (by simp; omega) (by omega) (fun hb => by have := Nat.eq_of_beq_eq_true hb; omega) ?_
              have := DRel.ones hwf (by
                intro v hv
                have hv1 := List.mem_of_mem_drop (List.mem_of_mem_take hv)
                rw [List.all_eq_true] at hall
                simpa using hall v hv1)
              rw [show (ι b).base + q * sz + k + l = (ι b).base + q * sz + (k + l) by omega]
              exact this
          · cases h
        · cases h
      · cases h
    · cases h
  · cases h

theorem aSlice_sound (hR : Rel E ι H σ w) {t : TypeId} {i : TyI} (hs : E.ty t = some i) {el : TypeId} (hd : i.desc = .slice el) {j : TyI} (hj : E.ty el = some j)
    {x v : AVal} {x' : Value} (hx : VRel σ.next ι H x x') {lo hi : Option AVal} {lo' hi' : Option Value} (hlo : ORel σ.next ι H lo lo') (hhi : ORel σ.next ι H hi hi')
    (h : aSlice j.size x lo hi σ = some v) : SndV E ι H σ ((Instr.sliceAt t x' lo' hi' none).run E.P w) v σ := by
  unfold aSlice at h
  split at h
  · rename_i b off len
    obtain ⟨cap, rfl, hb, hl, hcap⟩ := hx.slice_inv
    split at h
    · rename_i sz' els hg
      split at h
      · rename_i hsz
        subst hsz
        split at h
        · rename_i l hh hbd
          obtain ⟨h1, h2, h3⟩ := run_sliceBounds (w := w) hlo hhi true hl hbd E.P
          have hsz := ((hR.live b _ hg).1).1
          split at h
          · rename_i hlh
            cases h
            by_cases hm : cap = l
            · refine SndV.same hR (v' := .slice (some ⟨(ι b).blk, (ι b).base + off * (ι b).sz, none⟩) 0 0) ?_ (.endS _ _ _ 0 hb (by omega) (by simp))
              rw [run_sliceAt hs hd hj h1, if_pos hm, show hh - l = 0 by omega, show cap - l = 0 by omega]
            · refine SndV.same hR (v' := .slice (some ⟨(ι b).blk, (ι b).base + off * (ι b).sz + l * j.size, none⟩) 0 (cap - l)) ?_ (.endS _ _ _ (cap - l) hb (by omega) (fun _ => by rw [Nat.add_mul, hsz]; omega))
              rw [run_sliceAt hs hd hj h1, if_neg hm, show hh - l = 0 by omega]; simp [add_mk]
          split at h
          · rename_i hlh
            cases h
            have : ∃ o, (Instr.sliceAt t (.slice (some ⟨(ι b).blk, (ι b).base + off * (ι b).sz, none⟩) len cap) lo' hi' none).run E.P w = .ok (.slice (some ⟨(ι b).blk, o, none⟩) 0 (cap - l)) w := by
              by_cases hm : cap = l
              · exact ⟨(ι b).base + off * (ι b).sz, by rw [run_sliceAt hs hd hj h1, if_pos hm, show hh - l = 0 by omega]⟩
              · exact ⟨(ι b).base + off * (ι b).sz + l * j.size, by rw [run_sliceAt hs hd hj h1, if_neg hm, show hh - l = 0 by omega]; simp [add_mk]⟩
            obtain ⟨o, ho⟩ := this
            exact SndV.same hR ho (.data _ _ [] _ o 0 _ rfl (by omega) (by simp) (.nil _ _ _))
          · rename_i hlh
            cases h
            refine SndV.same hR (v' := .slice (some ⟨(ι b).blk, (ι b).base + (off + l) * (ι b).sz, none⟩) (hh - l) (cap - l)) ?_ (.slice _ _ _ _ hb (by omega) (by omega))
            by_cases hm : cap = l
            · have : l = 0 := by omega
              subst this
              rw [run_sliceAt hs hd hj h1, if_pos hm]; simp
            · rw [run_sliceAt hs hd hj h1, if_neg hm]; simp [add_mk, hsz, Nat.add_mul, Nat.add_assoc]
        · cases h
      · cases h
    · cases h
  · rename_i sz' tt els
    obtain ⟨b, o, cap, rfl, hl, hD, htt⟩ := hx.data_inv
    split at h
    · rename_i hsz
      subst hsz
      split at h
      · rename_i l hh hbd
        obtain ⟨h1, h2, h3⟩ := run_sliceBounds (w := w) hlo hhi true hl hbd E.P
        cases h
        by_cases hm : cap = l
        · have e : ((els.drop l).take (hh - l)) = [] := by
            rw [show hh - l = 0 by omega]; simp
          rw [e]
          refine SndV.same hR (v' := .slice (some ⟨b, o, none⟩) (hh - l) (cap - l)) ?_ (.data _ _ [] _ o _ _ (by simp; omega) (by omega) (by intro _; omega) (.nil _ _ _))
          rw [run_sliceAt hs hd hj h1, if_pos hm]
        · refine SndV.same hR (v' := .slice (some ⟨b, o + l * j.size, none⟩) (hh - l) (cap - l)) ?_ (.data _ _ _ _ _ _ _ (by simp; omega) (by omega) (by intro ht; simp at ht; have := htt ht.1; omega) ((hD.drop l).take _))
          rw [run_sliceAt hs hd hj h1, if_neg hm]; simp [add_mk]
      · cases h
    · cases h
  · obtain rfl := hx.sc_inv
    split at h
    · rename_i p hbd
      obtain ⟨l, hh⟩ := p
      obtain ⟨h1, h2, h3⟩ := run_sliceBounds (w := w) hlo hhi true (Nat.le_refl 0) hbd E.P
      cases h
      have e1 : l = 0 := by omega
      have e2 : hh = 0 := by omega
      subst e1 e2
      refine SndV.same hR (v' := .slice none 0 0) ?_ (.sc _)
      rw [run_sliceAt hs hd hj h1]; simp
    · cases h
  · cases h

/-! ### Elements of a slice; len -/

/-- The elements of a slice. -/
def aElems (sz : Nat) (x : AVal) (σ : AStore) : Option (List AVal) :=
  match x with
  | .slice b off len =>
    match σ.get b with
    | some (.cells sz' els) => if sz' = sz ∧ off + len ≤ els.length then some ((els.drop off).take len) else none
    | _ => none
  | .view b off len =>
    match σ.get b with
    | some (.cells sz' els) => if sz' = sz ∧ off + len ≤ els.length then some ((els.drop off).take len) else none
    | _ => none
  | .endS _ _ => some []
  | .data sz' _ els => if sz' = sz then some els else none
  | .sc (.slice none 0 0) => some []
  | _ => none

theorem DRel.flat {n : Nat} {g : Nat → Option Value} : ∀ {els : List AVal} {sz o : Nat}, DRel n ι H g sz els o → ∃ ws : List Value,
    ws.length = els.length * sz ∧ (∀ k, k < els.length * sz → g (o + k) = ws[k]?) ∧ DRel n ι H (ws[·]?) sz els 0
  | [], sz, o, _ => ⟨[], by simp, by simp, .nil _ _ _⟩
  | e :: es, sz, o, h => by
      have h0 := h.get (i := 0) (e := e) (by simp)
      simp only [Nat.zero_mul, Nat.add_zero] at h0
      obtain ⟨us, u1, u2⟩ := h0.1.list
      rw [h0.2] at u2
      have hul : us.length = sz := by rw [← u1.length, h0.2]
      have ht : DRel n ι H g sz es (o + sz) := by
        have := h.drop 1
        simpa using this
      obtain ⟨ws, w1, w2, w3⟩ := ht.flat
      have hg : ∀ k, k < (es.length + 1) * sz → g (o + k) = (us ++ ws)[k]? := by
        intro k hk
        rw [Nat.add_mul] at hk
        by_cases hks : k < sz
        · rw [u2 k hks, List.getElem?_append_left (by omega)]
        · rw [List.getElem?_append_right (by omega), ← w2 (k - us.length) (by omega)]
          congr 1; omega
      refine ⟨us ++ ws, by simp [hul, w1, Nat.add_mul]; omega, by simpa using hg, ?_⟩
      apply DRel.of_get
      intro i x hx
      have := h.get hx
      refine ⟨?_, this.2⟩
      have hi : i < es.length + 1 := by
        rcases Nat.lt_or_ge i (es.length + 1) with h' | h'
        · exact h'
        · rw [List.getElem?_eq_none (by simpa using h')] at hx; cases hx
      obtain ⟨vs, v1, v2⟩ := this.1.list
      rw [this.2] at v2
      have hvl : vs.length = sz := by rw [← v1.length, this.2]
      refine CRel.of_list v1 ?_
      intro k hk
      have hik : i * sz + k < (es.length + 1) * sz := by
        have : (i + 1) * sz ≤ (es.length + 1) * sz := Nat.mul_le_mul_right _ hi
        rw [Nat.add_mul] at this; omega
      show (us ++ ws)[0 + i * sz + k]? = vs[k]?
      rw [← v2 k (by omega), show o + i * sz + k = o + (i * sz + k) by omega, hg _ hik]
      congr 1; omega

theorem aElems_sound (hR : Rel E ι H σ w) {sz : Nat} {x : AVal} {x' : Value} (hx : VRel σ.next ι H x x') {els : List AVal} (h : aElems sz x σ = some els) :
    ∃ a cap, x' = .slice a els.length cap ∧ ∃ ws : List Value, ws.length = els.length * sz ∧ DRel σ.next ι H (ws[·]?) sz els 0 ∧
      ∀ P m, m ≤ els.length → (Builtin.firstCells sz m x').run P w = .ok (ws.take (m * sz)).toArray w := by
  have load : ∀ (b o cap : Nat), DRel σ.next ι H (rd w b) sz els o → ∃ ws : List Value, ws.length = els.length * sz ∧ DRel σ.next ι H (ws[·]?) sz els 0 ∧
      ∀ P m, m ≤ els.length → (Builtin.firstCells sz m (.slice (some ⟨b, o, none⟩) els.length cap)).run P w = .ok (ws.take (m * sz)).toArray w := by
    intro b o cap hD
    obtain ⟨ws, h1, h2, h3⟩ := hD.flat
    refine ⟨ws, h1, h3, ?_⟩
    intro P m hm
    have hms : m * sz ≤ els.length * sz := Nat.mul_le_mul_right _ hm
    refine run_loadCells P w b o (m * sz) (ws.take (m * sz)) (by simp; omega) ?_
    intro k hk
    rw [h2 k (by omega), List.getElem?_take, if_pos hk]
  unfold aElems at h
  split at h
  · rename_i b off len
    obtain ⟨cap, rfl, hb, hl, hcap⟩ := hx.slice_inv
    split at h
    · rename_i sz' els' hg
      split at h
      · rename_i hc
        obtain ⟨rfl, hc⟩ := hc
        cases h
        obtain ⟨hs, hD⟩ := (hR.live b _ hg).1.cells_rd
        have hD' := (hD.drop off).take len
        have hlen : ((els'.drop off).take len).length = len := by simp; omega
        rw [← hs] at hD' ⊢
        obtain ⟨ws, q1, q2, q3⟩ := load (ι b).blk ((ι b).base + off * (ι b).sz) cap (by simpa [hs] using hD')
        rw [hlen] at q3
        rw [hlen]
        exact ⟨_, cap, rfl, ws, by rw [q1, hlen]; simp [hs], by simpa [hs] using q2, by simpa [hs] using q3⟩
      · cases h
    · cases h
  · rename_i b off len
    obtain ⟨rfl, hb, hcap⟩ := hx.view_inv
    split at h
    · rename_i sz' els' hg
      split at h
      · rename_i hc
        obtain ⟨rfl, hc⟩ := hc
        cases h
        obtain ⟨hs, hD⟩ := (hR.live b _ hg).1.cells_rd
        have hD' := (hD.drop off).take len
        have hlen : ((els'.drop off).take len).length = len := by simp; omega
        rw [← hs] at hD' ⊢
        obtain ⟨ws, q1, q2, q3⟩ := load (ι b).blk ((ι b).base + off * (ι b).sz) len (by simpa [hs] using hD')
        rw [hlen] at q3
        rw [hlen]
        exact ⟨_, len, rfl, ws, by rw [q1, hlen]; simp [hs], by simpa [hs] using q2, by simpa [hs] using q3⟩
      · cases h
    · cases h
  · rename_i b off
    obtain ⟨o, cap, rfl, _⟩ := hx.endS_inv
    cases h
    refine ⟨_, cap, rfl, [], by simp, .nil _ _ _, ?_⟩
    intro P m hm
    have hm0 : m = 0 := by simpa using hm
    exact run_loadCells P w (ι b).blk o (m * sz) (([] : List Value).take (m * sz)) (by simp [hm0]) (by intro k hk; simp [hm0] at hk)
  · rename_i sz' tt els'
    obtain ⟨b, o, cap, rfl, hl, hD, _⟩ := hx.data_inv
    split at h
    · rename_i hsz
      subst hsz
      cases h
      obtain ⟨ws, q1, q2, q3⟩ := load b o cap (hD.ext (Ext.refl _ _ _) (rd_imm hR.imm b))
      exact ⟨_, cap, rfl, ws, q1, q2, q3⟩
    · cases h
  · obtain rfl := hx.sc_inv
    cases h
    refine ⟨none, 0, rfl, [], by simp, .nil _ _ _, ?_⟩
    intro P m hm
    simp [Builtin.firstCells]
  · cases h

end
end Abs
end
noncomputable section
namespace Abs
set_option linter.unusedVariables false
set_option linter.unusedSimpArgs false
set_option linter.unusedSectionVars false
open Go

section
variable {E : Env} {ι : Inj} {H : Imm} {σ σ' : AStore} {w : World}

/-! ### append -/

/-- The elements that are appended: of a slice, or of a string. -/
def aSrc (sz : Nat) (x : AVal) (σ : AStore) : Option (List AVal) :=
  match x with
  | .sc (.string s) => if sz = 1 then some (s.data.toList.map fun b => .sc (.int .u8 b.toNat)) else none
  | .sc (.slice _ 0 _) => some []
  | x => aElems sz x σ

theorem aSrc_sound (hR : Rel E ι H σ w) {sz : Nat} {x : AVal} {x' : Value} (hx : VRel σ.next ι H x x') {els : List AVal} (h : aSrc sz x σ = some els) :
    (∀ P, (Builtin.lenOf x').run P w = .ok els.length w) ∧ ∃ ws : List Value, ws.length = els.length * sz ∧ DRel σ.next ι H (ws[·]?) sz els 0 ∧
      ∀ P m, m ≤ els.length → (Builtin.firstCells sz m x').run P w = .ok (ws.take (m * sz)).toArray w := by
  by_cases hstr : ∃ s, x = .sc (.string s)
  · obtain ⟨s, rfl⟩ := hstr
    simp only [aSrc] at h
    split at h
    · rename_i h1
      subst h1
      cases h
      obtain rfl := hx.sc_inv
      refine ⟨fun P => by simp [Builtin.lenOf], s.data.toList.map fun b => .int .u8 b.toNat, by simp, ?_, ?_⟩
      · apply DRel.of_get
        intro i e he
        rw [List.getElem?_map] at he
        cases hb : s.data.toList[i]? with
        | none => simp [hb] at he
        | some b =>
          simp [hb] at he
          subst he
          refine ⟨.cons _ _ (.int .u8 b.toNat) _ _ ?_ (.sc _) (.nil _ _), rfl⟩
          show (s.data.toList.map fun b => Value.int .u8 b.toNat)[0 + i * 1]? = _
          rw [List.getElem?_map, show 0 + i * 1 = i by omega, hb]
          rfl
      · intro P m hm
        simp at hm
        simp only [Builtin.firstCells, Sem.run_pure]
        congr 1
        apply Array.ext'
        simp [ByteArray.extract, ByteArray.copySlice]
    · cases h
  by_cases hsl : ∃ a c, x = .sc (.slice a 0 c)
  · obtain ⟨a, c, rfl⟩ := hsl
    simp only [aSrc] at h
    cases h
    obtain rfl := hx.sc_inv
    refine ⟨fun P => by simp [Builtin.lenOf], [], by simp, .nil _ _ _, ?_⟩
    intro P m hm
    obtain rfl : m = 0 := by simpa using hm
    cases a with
    | none => simp [Builtin.firstCells]
    | some a => simp [Builtin.firstCells, loadCells, loadCellsFrom]
  · have h' : aElems sz x σ = some els := by
      unfold aSrc at h
      split at h
      · exact absurd ⟨_, rfl⟩ hstr
      · exact absurd ⟨_, _, rfl⟩ hsl
      · exact h
    obtain ⟨a, cap, rfl, ws, h1, h2, h3⟩ := aElems_sound hR hx h'
    exact ⟨fun P => by simp [Builtin.lenOf], ws, h1, h2, h3⟩

/-- 'els' with the elements from 'o' on laid over. -/
def overlay (els : List AVal) (o : Nat) : List AVal → List AVal
  | [] => els
  | v :: vs => overlay (els.set o v) (o + 1) vs

theorem overlay_length : ∀ (vs els : List AVal) (o : Nat), (overlay els o vs).length = els.length
  | [], _, _ => rfl
  | v :: vs, els, o => by rw [overlay, overlay_length vs]; simp

theorem overlay_get : ∀ (vs els : List AVal) (o i : Nat), o + vs.length ≤ els.length →
    (overlay els o vs)[i]? = if o ≤ i ∧ i < o + vs.length then vs[i - o]? else els[i]?
  | [], els, o, i, _ => by simp [overlay]; intro h1 h2; omega
  | v :: vs, els, o, i, h => by
      simp at h
      rw [overlay, overlay_get vs _ _ _ (by simp; omega)]
      by_cases h1 : o + 1 ≤ i ∧ i < o + 1 + vs.length
      · rw [if_pos h1, if_pos (by simp; omega)]
        rw [show i - o = (i - (o + 1)) + 1 by omega]; simp
      · rw [if_neg h1]
        by_cases h2 : o = i
        · subst h2
          rw [if_pos (by simp)]
          simp [show o < els.length by omega]
        · rw [if_neg (by simp; omega)]
          simp [h2]

def allCells (els : List AVal) : Bool := els.all fun e => e.cells.all AVal.isCell

/-- 'append(s, xs...)' at elements of 'sz' cells and 'bytes' bytes. -/
def aAppend0 (sz bytes : Nat) (s : AVal) (xs : List AVal) (σ : AStore) : Option (AVal × AStore) :=
  match s with
  | .sc (.slice none 0 0) =>
    match xs with
    | [] => some (s, σ)
    | _ => if xs.length * bytes ≤ 140737488355328 ∧ sz ≠ 0 ∧ bytes ≠ 0 then some (.slice σ.next 0 xs.length, σ.alloc (.cells sz xs)) else none
  | .slice b off len =>
    match σ.get b with
    | some (.cells sz' els) =>
      if sz' = sz ∧ sz ≠ 0 ∧ bytes ≠ 0 ∧ off + len ≤ els.length ∧ allCells xs = true then
        if off + len + xs.length ≤ els.length then
          some (.slice b off (len + xs.length), σ.set b (.cells sz (overlay els (off + len) xs)))
        else if off + len = els.length ∧ (len + xs.length) * bytes ≤ 140737488355328 then
          some (.slice σ.next 0 (len + xs.length), (σ.del b).alloc (.cells sz (els.drop off ++ xs)))
        else none
      else none
    | _ => none
  | .view b off len =>
    if xs.length = 0 then some (.view b off len, σ)
    else match aElems sz (.view b off len) σ with
      | some els => if (els.length + xs.length) * bytes ≤ 140737488355328 ∧ bytes ≠ 0 ∧ els.length = len then
          some (.slice σ.next 0 (els.length + xs.length), σ.alloc (.cells sz (els ++ xs)))
        else none
      | none => none
  | .data sz' t els =>
    if xs.length = 0 then some (.data sz' t els, σ)
    else if t = true ∧ sz' = sz ∧ (els.length + xs.length) * bytes ≤ 140737488355328 ∧ bytes ≠ 0 then
      some (.slice σ.next 0 (els.length + xs.length), σ.alloc (.cells sz (els ++ xs)))
    else none
  | _ => none

theorem DRel.append {n : Nat} {us ws : List Value} {sz : Nat} {els xs : List AVal} (h : DRel n ι H (us[·]?) sz els 0) (hu : us.length = els.length * sz) (h' : DRel n ι H (ws[·]?) sz xs 0) :
    DRel n ι H ((us ++ ws)[·]?) sz (els ++ xs) 0 := by
  apply DRel.of_get
  intro i e he
  by_cases hi : i < els.length
  · rw [List.getElem?_append_left hi] at he
    obtain ⟨h1, h2⟩ := h.get he
    refine ⟨h1.congr ?_, h2⟩
    intro k hk1 hk2
    have : (i + 1) * sz ≤ els.length * sz := Nat.mul_le_mul_right _ hi
    rw [Nat.add_mul] at this
    show (us ++ ws)[k]? = us[k]?
    rw [List.getElem?_append_left (by omega)]
  · rw [List.getElem?_append_right (by omega)] at he
    obtain ⟨h1, h2⟩ := h'.get he
    refine ⟨?_, h2⟩
    obtain ⟨vs, v1, v2⟩ := h1.list
    rw [h2] at v2
    refine CRel.of_list v1 ?_
    intro k hk
    have hvl := v1.length
    show (us ++ ws)[0 + i * sz + k]? = vs[k]?
    have hm : i * sz = els.length * sz + (i - els.length) * sz := by rw [← Nat.add_mul]; congr 1; omega
    rw [List.getElem?_append_right (by omega), ← v2 k (by omega)]
    show ws[_]? = ws[_]?
    congr 1; omega

theorem overlay_rel {n : Nat} {c : Array Value} {sz base : Nat} {els xs : List AVal} {ws : List Value} {o : Nat} (hD : DRel n ι H (c[·]?) sz els base) (hx : DRel n ι H (ws[·]?) sz xs 0)
    (hw : ws.length = xs.length * sz) (ho : o + xs.length ≤ els.length) (hc : base + els.length * sz ≤ c.size) :
    DRel n ι H ((splice c (base + o * sz) ws)[·]?) sz (overlay els o xs) base := by
  have hsp := splice_get ws c (base + o * sz)
  have hle : base + o * sz + ws.length ≤ c.size := by
    have : (o + xs.length) * sz ≤ els.length * sz := Nat.mul_le_mul_right _ ho
    rw [Nat.add_mul] at this; omega
  apply DRel.of_get
  intro i e he
  rw [overlay_get _ _ _ _ ho] at he
  by_cases h1 : o ≤ i ∧ i < o + xs.length
  · rw [if_pos h1] at he
    obtain ⟨q1, q2⟩ := hx.get he
    refine ⟨?_, q2⟩
    obtain ⟨vs, v1, v2⟩ := q1.list
    rw [q2] at v2
    refine CRel.of_list v1 ?_
    intro k hk
    have hvl := v1.length
    show (splice c (base + o * sz) ws)[base + i * sz + k]? = vs[k]?
    have hm : i * sz = o * sz + (i - o) * sz := by rw [← Nat.add_mul]; congr 1; omega
    have hm2 : (i - o + 1) * sz ≤ xs.length * sz := Nat.mul_le_mul_right _ (by omega)
    rw [Nat.add_mul] at hm2
    rw [hsp _ hle, if_pos (by omega), ← v2 k (by omega)]
    show ws[_]? = ws[_]?
    congr 1; omega
  · rw [if_neg h1] at he
    obtain ⟨q1, q2⟩ := hD.get he
    refine ⟨q1.congr ?_, q2⟩
    intro k hk1 hk2
    rw [q2] at hk2
    show (splice c (base + o * sz) ws)[k]? = c[k]?
    rw [hsp _ hle, if_neg ?_]
    intro ⟨a1, a2⟩
    rw [hw] at a2
    rcases Nat.lt_or_ge i o with h | h
    · have : (i + 1) * sz ≤ o * sz := Nat.mul_le_mul_right _ h
      rw [Nat.add_mul] at this; omega
    · have : (o + xs.length) * sz ≤ i * sz := Nat.mul_le_mul_right _ (by omega)
      rw [Nat.add_mul] at this; omega

theorem extend_rel {n : Nat} {c : Array Value} {sz base : Nat} {els xs : List AVal} {ws : List Value} (hD : DRel n ι H (c[·]?) sz els base) (hx : DRel n ι H (ws[·]?) sz xs 0)
    (hw : ws.length = xs.length * sz) (hc : base + (els.length + xs.length) * sz ≤ c.size) :
    DRel n ι H ((splice c (base + els.length * sz) ws)[·]?) sz (els ++ xs) base := by
  have hsp := splice_get ws c (base + els.length * sz)
  rw [Nat.add_mul] at hc
  have hle : base + els.length * sz + ws.length ≤ c.size := by omega
  apply DRel.of_get
  intro i e he
  by_cases hi : i < els.length
  · rw [List.getElem?_append_left hi] at he
    obtain ⟨q1, q2⟩ := hD.get he
    refine ⟨q1.congr ?_, q2⟩
    intro k hk1 hk2
    rw [q2] at hk2
    have : (i + 1) * sz ≤ els.length * sz := Nat.mul_le_mul_right _ hi
    rw [Nat.add_mul] at this
    show (splice c (base + els.length * sz) ws)[k]? = c[k]?
    rw [hsp _ hle, if_neg (by omega)]
  · rw [List.getElem?_append_right (by omega)] at he
    have hil : i - els.length < xs.length := by
      rcases Nat.lt_or_ge (i - els.length) xs.length with h | h
      · exact h
      · rw [List.getElem?_eq_none h] at he; cases he
    obtain ⟨q1, q2⟩ := hx.get he
    refine ⟨?_, q2⟩
    obtain ⟨vs, v1, v2⟩ := q1.list
    rw [q2] at v2
    refine CRel.of_list v1 ?_
    intro k hk
    have hvl := v1.length
    show (splice c (base + els.length * sz) ws)[base + i * sz + k]? = vs[k]?
    have hm : i * sz = els.length * sz + (i - els.length) * sz := by rw [← Nat.add_mul]; congr 1; omega
    have hm2 : (i - els.length + 1) * sz ≤ xs.length * sz := Nat.mul_le_mul_right _ (by omega)
    rw [Nat.add_mul] at hm2
    rw [hsp _ hle, if_pos (by omega), ← v2 k (by omega)]
    show ws[_]? = ws[_]?
    congr 1; omega

theorem DRel.isCell {n : Nat} {sz : Nat} : ∀ {xs : List AVal} {ws : List Value}, DRel n ι H (ws[·]?) sz xs 0 → ws.length = xs.length * sz → allCells xs = true → ∀ v ∈ ws, isCellV v = true := by
  intro xs ws h hl ha v hv
  obtain ⟨k, hk, rfl⟩ := List.mem_iff_getElem.1 hv
  have hsz : 0 < sz := by
    rcases Nat.eq_zero_or_pos sz with h0 | h0
    · subst h0; simp at hl; simp [hl] at hk
    · exact h0
  have hi : k / sz < xs.length := by rw [Nat.div_lt_iff_lt_mul hsz]; omega
  obtain ⟨h1, h2⟩ := h.get (List.getElem?_eq_getElem hi)
  obtain ⟨vs, v1, v2⟩ := h1.list
  have hm : k % sz < sz := Nat.mod_lt _ hsz
  have hall : xs[k / sz].cells.all AVal.isCell = true := by
    have := List.all_eq_true.1 ha xs[k / sz] (List.getElem_mem hi)
    exact this
  have := v1.isCell hall
  have e := v2 (k % sz) (by omega)
  have e2 : 0 + k / sz * sz + k % sz = k := by rw [Nat.zero_add, Nat.mul_comm]; exact Nat.div_add_mod k sz
  rw [e2] at e
  rw [List.getElem?_eq_getElem hk] at e
  exact this _ (List.mem_of_getElem? e.symm)

theorem Rel.drew (hR : Rel E ι H σ w) : Rel E ι H σ w.drew := hR.congr rfl ⟨rfl, rfl⟩

theorem cap_le (w : World) (need old : Nat) (e : TypeId) : need ≤ grownCap w need old e := by
  simp only [grownCap, Question.cut]; omega

/-- The row that an append makes. -/
theorem Rel.appended (hR : Rel E ι H σ w) (el : TypeId) {sz cap : Nat} {els : List AVal} {us zs : List Value} (hD : DRel σ.next ι H (us[·]?) sz els 0) (hu : us.length = els.length * sz)
    (hc : els.length ≤ cap) (hz : zs.length = (cap - els.length) * sz) :
    ∃ ι', Rel E ι' H (σ.alloc (.cells sz els)) { w with heap := w.heap.push (.cells (us ++ zs).toArray el) } ∧ Ext σ.next ι H (σ.next + 1) ι' H ∧
      VRel (σ.next + 1) ι' H (.slice σ.next 0 els.length) (.slice (some ⟨w.heap.size, 0, none⟩) els.length cap) ∧ (ι' σ.next).el = el ∧ (ι' σ.next).base = 0 := by
  refine hR.newRow el (c := (us ++ zs).toArray) (cap := cap) (len := els.length) ?_ ?_ hc hc (FrOk.zero _)
  · have := hD.append (els := els) (xs := []) (ws := zs) hu (.nil _ _ _)
    simpa using this
  · have : cap * sz = els.length * sz + (cap - els.length) * sz := by rw [← Nat.add_mul]; congr 1; omega
    simp [hu, hz]; omega

/-- A block of the call's own goes on under a new number. -/
theorem Rel.renew (h : Rel E ι H σ w) {w' : World} {b : Nat} {sz : Nat} {els : List AVal} {x : ABlk} (hb : σ.get b = some (.cells sz els)) {p : Place} (hp : p.blk = (ι b).blk)
    (hsz : w'.heap.size = w.heap.size) (ho : ∀ c, c ≠ (ι b).blk → w'.heap[c]? = w.heap[c]?) (hk : Same w w') {c' : Array Value} {elem' : TypeId} {fr' : Nat × Nat}
    (hc' : w'.heap[(ι b).blk]? = some (.cells c' elem' fr')) (hx : BlkRel σ.next ι H w' p x) : Rel E (upd ι σ.next p) H ((σ.del b).alloc x) w' := by
  have he : Ext σ.next ι H (σ.next + 1) (upd ι σ.next p) H := Ext.upd _ _ _ _
  obtain ⟨l1, l2, l3⟩ := h.live b _ hb
  have hget : ∀ b', ((σ.del b).alloc x).get b' = if b' = σ.next then some x else if b' = b then none else σ.get b' := by
    intro b'
    rw [AStore.get_alloc, AStore.get_del]; rfl
  refine ⟨?_, ?_, ?_, fun g => (h.glob g).ext he, hk.trans_keep h.keep, ?_⟩
  rotate_left 3
  · intro b' t hb'
    obtain ⟨h1, h2, h3⟩ := h.tys b' t hb'
    have h4 : upd ι σ.next p b' = ι b' := upd_ne _ _ (by omega)
    rw [h4]
    exact ⟨Nat.lt_succ_of_lt h1, h2, h3⟩
  · intro c o hc
    rw [ho c]
    · exact h.imm c o hc
    · intro hcb; subst hcb; rw [l2] at hc; cases hc
  · intro b' y hy
    rw [hget] at hy
    split at hy
    · rename_i e1
      cases hy
      subst e1
      rw [upd_self]
      exact ⟨hx.ext he rfl (Nat.le_refl _) (fun _ _ _ _ => rfl), by rw [hp]; exact l2, by rw [hp, hsz]; exact l3⟩
    · rename_i e1
      split at hy
      · cases hy
      · rename_i e2
        obtain ⟨h1, h2, h3⟩ := h.live b' y hy
        have hne : (ι b').blk ≠ (ι b).blk := fun hc => e2 (h.inj b' b _ _ hy hb hc)
        rw [upd_ne _ _ e1]
        refine ⟨?_, h2, by rw [hsz]; exact h3⟩
        by_cases hmm : ∃ m since seen, y = .miter m since seen ∧ (ι m).blk = (ι b).blk
        · obtain ⟨m, since, seen, rfl, hmb⟩ := hmm
          obtain ⟨⟨g0, g0', g0''⟩, s', se', st, g1, g2, g3, g4⟩ := h1
          have hmn : m ≠ σ.next := by omega
          refine ⟨⟨by show m < σ.next + 1; omega, by rw [upd_ne _ _ hmn]; omega, g0''⟩, s', se', st, by rw [upd_ne _ _ hmn, ho _ hne]; exact g1, g2, g3, ?_⟩
          intro es clock hh
          rw [upd_ne _ _ hmn, hmb, hc'] at hh
          cases hh
        · refine h1.ext he (ho _ hne) (by omega) ?_
          intro m since seen hz'
          exact ho _ (fun hc => hmm ⟨m, since, seen, hz', hc⟩)
  · intro b1 b2 x1 x2 h1 h2 hbb
    rw [hget] at h1 h2
    have key : ∀ b2 x2, b2 ≠ σ.next → (if b2 = b then none else σ.get b2) = some x2 → p.blk = (ι b2).blk → False := by
      intro b2 x2 hn hx2 hpb
      split at hx2
      · cases hx2
      · rename_i e2
        exact e2 (h.inj b2 b _ _ hx2 hb (by rw [← hpb, hp]))
    by_cases e1 : b1 = σ.next <;> by_cases e2 : b2 = σ.next
    · omega
    · rw [if_neg e2] at h2
      rw [e1, upd_self, upd_ne _ _ e2] at hbb
      exact (key b2 x2 e2 h2 hbb).elim
    · rw [if_neg e1] at h1
      rw [e2, upd_self, upd_ne _ _ e1] at hbb
      exact (key b1 x1 e1 h1 hbb.symm).elim
    · rw [if_neg e1] at h1
      rw [if_neg e2] at h2
      rw [upd_ne _ _ e1, upd_ne _ _ e2] at hbb
      split at h1
      · cases h1
      · split at h2
        · cases h2
        · exact h.inj b1 b2 _ _ h1 h2 hbb

set_option maxHeartbeats 1000000 in
theorem aAppend0_sound (hR : Rel E ι H σ w) {t : TypeId} {i : TyI} (hs : E.ty t = some i) {el : TypeId} (hd : i.desc = .slice el) {j : TyI} (hj : E.ty el = some j) (hjz : j.okz = true)
    {t2 : TypeId} {i2 : TyI} (hs2 : E.ty t2 = some i2) (hni : (∃ e2, i2.desc = .slice e2) ∨ i2.desc = .string) {s x v : AVal} {s' x' : Value} (hvs : VRel σ.next ι H s s') (hvx : VRel σ.next ι H x x')
    {xs : List AVal} (hxs : aSrc j.size x σ = some xs) (h : aAppend0 j.size j.bytes s xs σ = some (v, σ')) (rt : TypeId) :
    SndT (tagS σ s el) el E ι H σ ((Builtin.append_ #[t, t2] rt #[s', x']).run E.P w) v σ' := by
  have hzz : j.zero.cells.size = j.size := by simpa [TyI.okz] using hjz
  obtain ⟨_, info, hi, hi2, hi3, hi4⟩ := E.ok el j hj
  have hu1 : ∀ w : World, (underlying t).run E.P w = .ok (.slice el) w := fun w => by rw [run_underlying E.ok hs w, hd]
  have hu2 : ∀ w : World, (underlying t2).run E.P w = .ok i2.desc w := run_underlying E.ok hs2
  -- room
  have room : ∀ (base : Option Addr) (sLen sCap : Nat), sLen + xs.length ≤ sCap → (Builtin.append_ #[t, t2] rt #[.slice base sLen sCap, x']).run E.P w =
      ((do let new ← Builtin.firstCells j.size xs.length x'
           if let some a := base then storeCells (a.add (sLen * j.size)) new.toList
           pure (.slice base (sLen + xs.length) sCap)) : Sem Value).run E.P w := by
    intro base sLen sCap hr
    obtain ⟨hlen, _⟩ := aSrc_sound hR hvx hxs
    rcases hni with ⟨e2, hdd⟩ | hdd <;> (simp [Builtin.append_, hu1, hu2, Go.sizeOf, typeInfo, hi, hi2, hlen, hr, hdd]; rfl)
  -- growth
  have grow : ∀ (base : Option Addr) (sLen sCap : Nat) (els : List AVal) (us : List Value), sCap < sLen + xs.length → (sLen + xs.length) * j.bytes ≤ 140737488355328 → j.bytes ≠ 0 →
      els.length = sLen → DRel σ.next ι H (us[·]?) j.size els 0 → us.length = sLen * j.size →
      (Builtin.firstCells j.size sLen (.slice base sLen sCap)).run E.P w.drew = .ok us.toArray w.drew →
      ∃ ι' w', (Builtin.append_ #[t, t2] rt #[.slice base sLen sCap, x']).run E.P w = .ok (.slice (some ⟨w.heap.size, 0, none⟩) (sLen + xs.length) (grownCap w (sLen + xs.length) sCap el)) w' ∧
        Rel E ι' H (σ.alloc (.cells j.size (els ++ xs))) w' ∧ Ext σ.next ι H (σ.next + 1) ι' H ∧
        VRel (σ.next + 1) ι' H (.slice σ.next 0 (sLen + xs.length)) (.slice (some ⟨w.heap.size, 0, none⟩) (sLen + xs.length) (grownCap w (sLen + xs.length) sCap el)) ∧ (ι' σ.next).el = el ∧ (ι' σ.next).base = 0 := by
    intro base sLen sCap els us hg hb hb0 hel hD hul hf
    obtain ⟨hlen, ws, hws, hwD, hfirst⟩ := aSrc_sound hR.drew hvx hxs
    obtain ⟨hlen', _⟩ := aSrc_sound hR hvx hxs
    have hfull := hfirst E.P xs.length (Nat.le_refl _)
    rw [← hws, List.take_length] at hfull
    have hn : ¬ (sLen + xs.length ≤ sCap) := by omega
    have h48 := growslice_fits (old := sCap) hg hb
    have h48' : ¬ (281474976710656 < Builtin.nextslicecap (sLen + xs.length) sCap * j.bytes) := by omega
    have hneed : sLen + xs.length ≤ 140737488355328 := by
      have : (sLen + xs.length) * 1 ≤ (sLen + xs.length) * j.bytes := Nat.mul_le_mul_left _ (by omega)
      omega
    have h63 : ¬ (9223372036854775807 < ((sLen : Int) + (xs.length : Int))) := by omega
    have hcap := cap_le w (sLen + xs.length) sCap el
    have hD2 := hD.append (xs := xs) (ws := ws) (by rw [hel]; exact hul) hwD
    obtain ⟨ι', q1, q2, q3, q4⟩ := (hR.drew).appended el (cap := grownCap w (sLen + xs.length) sCap el) (els := els ++ xs) (us := us ++ ws)
      (zs := (Builtin.zeroCells j.zero.cells (grownCap w (sLen + xs.length) sCap el - (sLen + xs.length))).toList) hD2 (by simp [hul, hws, hel, Nat.add_mul]) (by simp [hel]; exact hcap)
      (by simp [Builtin.zeroCells, hzz, hel])
    have e1 : (us ++ ws ++ (Builtin.zeroCells j.zero.cells (grownCap w (sLen + xs.length) sCap el - (sLen + xs.length))).toList).toArray =
        us.toArray ++ (ws.toArray ++ Builtin.zeroCells j.zero.cells (grownCap w (sLen + xs.length) sCap el - (sLen + xs.length))) := by
      apply Array.ext'; simp
    rw [e1] at q1
    refine ⟨ι', w.drew.alloc (.cells (us.toArray ++ (ws.toArray ++ Builtin.zeroCells j.zero.cells (grownCap w (sLen + xs.length) sCap el - (sLen + xs.length)))) el), ?_, q1, q2, by simpa [hel] using q3, q4⟩
    have hc2 : (Question.appendCap (sLen + xs.length) sCap el).cut (w.tape w.drawn (.appendCap (sLen + xs.length) sCap el)) = grownCap w (sLen + xs.length) sCap el := rfl
    rcases hni with ⟨e2, hdd⟩ | hdd
    · simp [Builtin.append_, hu1, hu2, Go.sizeOf, typeInfo, zeroValue, hi, hi2, hi3, hi4, hlen', hn, hdd, h63, h48', Question.forced, hf, hfull, newRow, hc2]
    · simp [Builtin.append_, hu1, hu2, Go.sizeOf, typeInfo, zeroValue, hi, hi2, hi3, hi4, hlen', hn, hdd, h63, h48', Question.forced, hf, hfull, newRow, hc2]
  unfold aAppend0 at h
  split at h
  · -- nil
    obtain rfl := hvs.sc_inv
    split at h
    · cases h
      rw [room none 0 0 (by simp)]
      obtain ⟨_, ws, hws, hwD, hfirst⟩ := aSrc_sound hR hvx hxs
      have := hfirst E.P 0 (Nat.zero_le _)
      refine SndT.same hR (v' := .slice none 0 0) ?_ (.sc _)
      simp only [List.length_nil, Sem.run_bind, this, Result.andThen_ok]
      rfl
    · rename_i hne
      split at h
      · rename_i hc
        cases h
        have hpos : 0 < xs.length := by
          cases xs with
          | nil => exact absurd rfl hne
          | cons a b => simp
        obtain ⟨ι', w', r1, r2, r3, r4, r5⟩ := grow none 0 0 [] [] (by omega) (by simpa using hc.1) hc.2.2 rfl (.nil _ _ _) (by simp) (by simp [Builtin.firstCells])
        simp only [Nat.zero_add, List.nil_append] at r1 r2 r4
        exact ⟨_, w', ι', H, r1, r4, r2, r3, fun _ _ => r5⟩
      · cases h
  · rename_i b off len
    obtain ⟨cap, rfl, hb, hl, hcap⟩ := hvs.slice_inv
    split at h
    · rename_i sz' els hg
      split at h
      · rename_i hc
        obtain ⟨rfl, hs0, hb0, hoff, hall⟩ := hc
        obtain ⟨hb1, hb2, hb3⟩ := hR.live b _ hg
        obtain ⟨g1, g2, c, el', fr, g3, gf, g4, g5, g6⟩ := hb1
        split at h
        · -- there is room in what is known
          rename_i hroom
          cases h
          rw [room _ len cap (by omega)]
          obtain ⟨_, ws, hws, hwD, hfirst⟩ := aSrc_sound hR hvx hxs
          have hfull := hfirst E.P xs.length (Nat.le_refl _)
          rw [← hws, List.take_length] at hfull
          have hcell := DRel.isCell hwD hws hall
          have hle : (ι b).base + (off + len) * j.size + ws.length ≤ c.size := by
            have h1 : (off + len + xs.length) * j.size ≤ els.length * j.size := Nat.mul_le_mul_right _ hroom
            have h2 : els.length * j.size ≤ (ι b).cap * j.size := Nat.mul_le_mul_right _ g2
            rw [Nat.add_mul] at h1; omega
          obtain ⟨w', r1, r2, r3⟩ := run_storeCells E.P (ι b).blk ((ι b).base + (off + len) * j.size) el' fr ws w c 0 g3 gf hcell (by omega)
          have hheap : w'.heap[(ι b).blk]? = some (.cells (splice c ((ι b).base + (off + len) * j.size) ws) el' fr) := by
            rw [r2]; simp [hb3]
          refine ⟨.slice (some ⟨(ι b).blk, (ι b).base + off * (ι b).sz, none⟩) (len + xs.length) cap, w', ι, H, ?_, ?_, ?_, Ext.refl _ _ _, fun _ hh => by simp [AStore.set] at hh⟩
          · simp only [Sem.run_bind, hfull, Result.andThen_ok, add_mk, g1]
            rw [show (ι b).base + off * j.size + len * j.size = (ι b).base + (off + len) * j.size by rw [Nat.add_mul]; omega]
            simp [r1]
          · exact .slice _ _ _ _ hb (by omega) hcap
          · refine hR.set_cells hg (by rw [r2]; simp) ?_ r3 hheap ?_
            · intro c' hne
              rw [r2]; simp [Ne.symm hne]
            · refine ⟨g1, by rw [overlay_length]; exact g2, _, _, fr, hheap, by rw [splice_size]; exact gf, by rw [splice_size]; exact g4, ?_, g6⟩
              refine overlay_rel g5 hwD hws (by omega) ?_
              have h2 : els.length * j.size ≤ (ι b).cap * j.size := Nat.mul_le_mul_right _ g2
              omega
        · split at h
          · rename_i hnr hh
            obtain ⟨hend, hbd⟩ := hh
            cases h
            have hR2 : Rel E ι H (σ.del b) w := hR.restrict rfl (by
              intro b' x' hx'
              rw [AStore.get_del] at hx'
              split at hx'
              · cases hx'
              · exact hx') (fun _ h => h)
            have hdl : (els.drop off).length = len := by simp; omega
            by_cases hfit : len + xs.length ≤ cap
            · -- in place
              rw [room _ len cap hfit]
              obtain ⟨_, ws, hws, hwD, hfirst⟩ := aSrc_sound hR hvx hxs
              have hfull := hfirst E.P xs.length (Nat.le_refl _)
              rw [← hws, List.take_length] at hfull
              have hcell := DRel.isCell hwD hws hall
              have hle : (ι b).base + (off + len) * j.size + ws.length ≤ c.size := by
                have h1 : (off + len + xs.length) * j.size ≤ (ι b).cap * j.size := Nat.mul_le_mul_right _ (by omega)
                rw [Nat.add_mul] at h1; omega
              obtain ⟨w', r1, r2, r3⟩ := run_storeCells E.P (ι b).blk ((ι b).base + (off + len) * j.size) el' fr ws w c 0 g3 gf hcell (by omega)
              have hheap : w'.heap[(ι b).blk]? = some (.cells (splice c ((ι b).base + (off + len) * j.size) ws) el' fr) := by
                rw [r2]; simp [hb3]
              let p : Place := ⟨(ι b).blk, (ι b).base + off * j.size, j.size, cap, el'⟩
              refine ⟨.slice (some ⟨(ι b).blk, (ι b).base + off * (ι b).sz, none⟩) (len + xs.length) cap, w', upd ι σ.next p, H, ?_, ?_, ?_, Ext.upd _ _ _ _, ?_⟩
              rotate_left 3
              · intro htg _
                rw [upd_self]
                unfold tagS at htg
                split at htg
                · rename_i heq; cases heq
                · rename_i heq
                  injection heq with e1 e2 e3
                  subst e1 e2
                  obtain ⟨_, t2, t3⟩ := hR.tys _ _ (hasTy_mem htg)
                  exact ⟨g6.trans t2, by simp [p, t3]⟩
                · cases htg
              · simp only [Sem.run_bind, hfull, Result.andThen_ok, add_mk, g1]
                rw [show (ι b).base + off * j.size + len * j.size = (ι b).base + (off + len) * j.size by rw [Nat.add_mul]; omega]
                simp [r1]
              · have := VRel.slice (n := σ.next + 1) (ι := upd ι σ.next p) (H := H) σ.next 0 (len + xs.length) cap (by omega) hfit (by simp [upd_self, p])
                rw [g1]
                simp only [upd_self, p, Nat.zero_mul, Nat.add_zero] at this
                exact this
              · refine hR.renew hg (p := p) rfl (by rw [r2]; simp) ?_ r3 hheap ?_
                · intro c' hne
                  rw [r2]; simp [Ne.symm hne]
                · have hD3 := g5.drop off
                  refine ⟨rfl, by simp [hdl]; exact hfit, _, _, fr, hheap, by rw [splice_size]; exact gf, ?_, ?_, rfl⟩
                  · have h1 : (off + cap) * j.size = (ι b).cap * j.size := by rw [hcap]
                    rw [Nat.add_mul] at h1
                    rw [splice_size]; show (ι b).base + off * j.size + cap * j.size ≤ c.size; omega
                  · have h1 : (off + cap) * j.size = (ι b).cap * j.size := by rw [hcap]
                    have h2 : (len + xs.length) * j.size ≤ cap * j.size := Nat.mul_le_mul_right _ hfit
                    rw [Nat.add_mul] at h1
                    have := extend_rel hD3 hwD hws (by rw [hdl]; omega)
                    rw [hdl, show (ι b).base + off * j.size + len * j.size = (ι b).base + (off + len) * j.size by rw [Nat.add_mul]; omega] at this
                    exact this
            · -- a new array
              have hD' : DRel σ.next ι H (rd w (ι b).blk) j.size (els.drop off) ((ι b).base + off * j.size) := by
                rw [rd_cells g3]; exact g5.drop off
              obtain ⟨us, u1, u2, u3⟩ := hD'.flat
              rw [hdl] at u1 u2
              obtain ⟨ι', w', r1, r2, r3, r4, r5⟩ := grow (some ⟨(ι b).blk, (ι b).base + off * (ι b).sz, none⟩) len cap (els.drop off) us (by omega) hbd hb0 hdl u3 u1 (by
                have := run_loadCells E.P w.drew (ι b).blk ((ι b).base + off * j.size) (len * j.size) us u1 (fun k hk => by
                  have := u2 k hk
                  simpa [rd] using this)
                rw [g1]
                exact this)
              refine ⟨_, w', ι', H, r1, r4, ?_, r3, fun _ _ => r5⟩
              refine r2.restrict rfl ?_ (fun _ h => h)
              intro b' x' hx'
              have hget : ∀ b', ((σ.del b).alloc (.cells j.size (els.drop off ++ xs))).get b' = if b' = σ.next then some (.cells j.size (els.drop off ++ xs)) else if b' = b then none else σ.get b' := by
                intro b'
                rw [AStore.get_alloc, AStore.get_del]; rfl
              have hget2 : ∀ b', (σ.alloc (.cells j.size (els.drop off ++ xs))).get b' = if b' = σ.next then some (.cells j.size (els.drop off ++ xs)) else σ.get b' := fun _ => AStore.get_alloc _ _ _
              rw [hget] at hx'
              rw [hget2]
              split at hx'
              · rename_i e1; rw [if_pos e1]; exact hx'
              · rename_i e1
                rw [if_neg e1]
                split at hx'
                · cases hx'
                · exact hx'
          · cases h
      · cases h
    · cases h
  · rename_i b off len
    split at h
    · rename_i hz
      cases h
      obtain ⟨rfl, hb, hcap⟩ := hvs.view_inv
      rw [room _ len len (by omega)]
      obtain ⟨_, ws, hws, hwD, hfirst⟩ := aSrc_sound hR hvx hxs
      have := hfirst E.P 0 (Nat.zero_le _)
      refine SndT.same hR (v' := .slice (some ⟨(ι b).blk, (ι b).base + off * (ι b).sz, none⟩) len len) ?_ hvs
      simp only [hz, Sem.run_bind, this, Result.andThen_ok]
      simp [storeCells]
    · rename_i hz
      split at h
      · rename_i els hels
        split at h
        · rename_i hc
          obtain ⟨h2, h3, h4⟩ := hc
          cases h
          obtain ⟨a, cap, h5, us, u1, u2, u3⟩ := aElems_sound hR.drew hvs (by simpa [aElems] using hels)
          obtain ⟨h6, hb, hcap⟩ := hvs.view_inv
          rw [h6] at h5
          cases h5
          rw [h6]
          have u3' := u3 E.P els.length (Nat.le_refl _)
          rw [List.take_of_length_le (by rw [u1]; exact Nat.le_refl _), h6] at u3'
          rw [← h4] at u3' ⊢
          obtain ⟨ι', w', r1, r2, r3, r4, r5⟩ := grow _ els.length els.length els us (by omega) h2 h3 rfl u2 u1 u3'
          exact ⟨_, w', ι', H, r1, r4, r2, r3, fun _ _ => r5⟩
        · cases h
      · cases h
  · rename_i sz' tt els
    obtain ⟨b, o, cap, rfl, hl, hD, htt⟩ := hvs.data_inv
    split at h
    · rename_i hz
      cases h
      rw [room _ els.length cap (by omega)]
      obtain ⟨_, ws, hws, hwD, hfirst⟩ := aSrc_sound hR hvx hxs
      have := hfirst E.P 0 (Nat.zero_le _)
      refine SndT.same hR (v' := .slice (some ⟨b, o, none⟩) els.length cap) ?_ hvs
      simp only [hz, Sem.run_bind, this, Result.andThen_ok]
      simp [storeCells]
    · rename_i hz
      split at h
      · rename_i hc
        obtain ⟨h1, rfl, h2, h3⟩ := hc
        cases h
        have hcap := htt h1
        obtain ⟨us, u1, u2, u3⟩ := (hD.ext (Ext.refl _ _ _) (rd_imm hR.imm b)).flat
        obtain ⟨ι', w', r1, r2, r3, r4, r5⟩ := grow (some ⟨b, o, none⟩) els.length cap els us (by omega) h2 h3 rfl u3 u1 (by
          exact run_loadCells E.P w.drew b o (els.length * j.size) us u1 (fun k hk => by
            have := u2 k hk
            simpa [rd] using this))
        exact ⟨_, w', ι', H, r1, r4, r2, r3, fun _ _ => r5⟩
      · cases h
  · cases h

/-- Behind the last element too. -/
def aAppend (sz bytes : Nat) (s : AVal) (xs : List AVal) (σ : AStore) : Option (AVal × AStore) :=
  match s with
  | .endS b off =>
    match σ.get b with
    | some (.cells sz' els) =>
      if sz' = sz ∧ sz ≠ 0 ∧ bytes ≠ 0 ∧ off = els.length ∧ allCells xs = true ∧ xs.length ≠ 0 ∧ xs.length * bytes ≤ 140737488355328 then some (.slice σ.next 0 xs.length, (σ.del b).alloc (.cells sz xs)) else none
    | _ => none
  | s => aAppend0 sz bytes s xs σ

theorem aAppend_sound (hR : Rel E ι H σ w) {t : TypeId} {i : TyI} (hs : E.ty t = some i) {el : TypeId} (hd : i.desc = .slice el) {j : TyI} (hj : E.ty el = some j) (hjz : j.okz = true)
    {t2 : TypeId} {i2 : TyI} (hs2 : E.ty t2 = some i2) (hni : (∃ e2, i2.desc = .slice e2) ∨ i2.desc = .string) {s x v : AVal} {s' x' : Value} (hvs : VRel σ.next ι H s s') (hvx : VRel σ.next ι H x x')
    {xs : List AVal} (hxs : aSrc j.size x σ = some xs) (h : aAppend j.size j.bytes s xs σ = some (v, σ')) (rt : TypeId) :
    SndT (tagS σ s el) el E ι H σ ((Builtin.append_ #[t, t2] rt #[s', x']).run E.P w) v σ' := by
  unfold aAppend at h
  split at h
  · rename_i b off
    obtain ⟨o, cap, rfl, hb, hc, ho⟩ := hvs.endS_inv
    split at h
    · rename_i sz' els hg
      split at h
      · rename_i hcond
        obtain ⟨rfl, h1, h2, h3, h4, h5, h6⟩ := hcond
        cases h
        by_cases hcap : cap = 0
        · subst hcap
          have hv2 : VRel σ.next ι H (.data j.size true []) (.slice (some ⟨(ι b).blk, o, none⟩) 0 0) := .data _ true [] _ o 0 0 rfl (Nat.le_refl _) (fun _ => rfl) (.nil _ _ _)
          obtain ⟨v', w', ι', H', q1, q2, q3, q4, _⟩ := aAppend0_sound (v := .slice σ.next 0 xs.length) (σ' := σ.alloc (.cells j.size xs)) hR hs hd hj hjz hs2 hni hv2 hvx hxs (by simp [aAppend0, h5, h2, h6]) rt
          refine ⟨v', w', ι', H', q1, q2, q3.restrict rfl ?_ (fun _ h => h), q4, fun hh => by cases hh⟩
          intro b' y hy
          rw [AStore.get_alloc] at hy ⊢
          have hn : (σ.del b).next = σ.next := rfl
          rw [hn] at hy
          split at hy
          · rename_i e; rw [if_pos e]; exact hy
          · rename_i e
            rw [if_neg e]
            rw [AStore.get_del] at hy
            split at hy
            · cases hy
            · exact hy
        · have hv2 : VRel σ.next ι H (.slice b off 0) (.slice (some ⟨(ι b).blk, o, none⟩) 0 cap) := by rw [ho hcap]; exact .slice b off 0 cap hb (Nat.zero_le _) hc
          refine SndT.weak (aAppend0_sound hR hs hd hj hjz hs2 hni hv2 hvx hxs ?_ rt)
          have : ¬ (els.length + xs.length ≤ els.length) := by omega
          simp [aAppend0, hg, h1, h2, h3, h4, h6]
          exact fun hh => absurd hh this
      · cases h
    · cases h
  · exact aAppend0_sound hR hs hd hj hjz hs2 hni hvs hvx hxs h rt
end
end Abs
end

/-
  Part of the abstract layer (G): values, stores and steps that stand for those of the model, and the proof that they do. It proves no statement by itself.
-/
import Derived.Test.YtmimfnjcnndhpaaGreatAbsF
noncomputable section
namespace Abs
set_option linter.unusedVariables false
set_option linter.unusedSimpArgs false
set_option linter.unusedSectionVars false
open Go

section
variable {E : Env} {ι : Inj} {H : Imm} {σ σ' : AStore} {w : World}

/-! ### Slices made -/

def TyI.okz (i : TyI) : Bool := i.zero.cells.size == i.size

theorem splice_upd {n : Nat} {c : Array Value} {sz i : Nat} {els : List AVal} {e : AVal} {ws : List Value} (hD : DRel n ι H (c[·]?) sz els 0) (he : LRel n ι H e.cells ws) (hs : e.cells.length = sz)
    (hi : i * sz + sz ≤ c.size) : DRel n ι H ((splice c (i * sz) ws)[·]?) sz (els.set i e) 0 := by
  have hl : ws.length = sz := by rw [← he.length, hs]
  have hsp := splice_get ws c (i * sz)
  refine DRel.upd hD ?_ ?_ hs
  · intro j hj
    show (splice c (i * sz) ws)[j]? = c[j]?
    rw [hsp j (by omega), if_neg (by omega)]
  · apply CRel.of_list he
    intro k hk
    show (splice c (i * sz) ws)[0 + i * sz + k]? = ws[k]?
    rw [hsp _ (by omega), if_pos (by omega)]
    congr 1; omega

def aSetParts (sz len : Nat) (els : List AVal) : List (Nat × AVal) → Option (List AVal)
  | [] => some els
  | (i, v) :: rest => if v.cells.length = sz ∧ v.fit = true ∧ i < len then aSetParts sz len (els.set i v) rest else none

theorem aSetParts_sound {n sz len : Nat} : ∀ {parts : List (Nat × AVal)} {parts' : List (Nat × Value)} {els els' : List AVal} {c : Array Value},
    PRel n ι H parts parts' → DRel n ι H (c[·]?) sz els 0 → c.size = len * sz → aSetParts sz len els parts = some els' →
    ∃ c', Instr.fill (fun i => some (i * sz, sz)) c parts' = some c' ∧ DRel n ι H (c'[·]?) sz els' 0 ∧ c'.size = c.size ∧ els'.length = els.length
  | _, _, _, _, c, .nil, hD, _, h => by simp [aSetParts] at h; subst h; exact ⟨c, rfl, hD, rfl, rfl⟩
  | _, _, els, els', c, .cons i v w vs ws hv hs, hD, hc, h => by
      unfold aSetParts at h
      split at h
      · rename_i hh
        have hcs := hv.cells' hh.2.1
        have h1 : w.cells.size = sz := by have := hcs.length; simp at this; omega
        have h2 : i * sz + sz ≤ c.size := by
          have : (i + 1) * sz ≤ len * sz := Nat.mul_le_mul_right _ hh.2.2
          rw [Nat.add_mul] at this; omega
        rw [fill_cons _ c i w ws rfl h1 h2]
        obtain ⟨c', q1, q2, q3, q4⟩ := aSetParts_sound (len := len) hs (splice_upd hD hcs hh.1 h2) (by rw [splice_size]; exact hc) h
        exact ⟨c', q1, q2, by rw [q3, splice_size], by rw [q4]; simp⟩
      · cases h

def aBuildSlice (j : TyI) (len : Nat) (parts : List (Nat × AVal)) (σ : AStore) : Option (AVal × AStore) :=
  if j.okz = true ∧ j.size ≠ 0 ∧ len * j.size ≤ 2 ^ 24 then
    (aSetParts j.size len (List.replicate len (absV j.zero)) parts).map fun els => (.slice σ.next 0 len, σ.alloc (.cells j.size els))
  else none

theorem run_buildSlice {n : Nat} {t : TypeId} {i : TyI} (ht : E.ty t = some i) {el : TypeId} (hd : i.desc = .slice el) {j : TyI} (hj : E.ty el = some j) {len : Nat}
    {parts : List (Nat × AVal)} {parts' : Array (Nat × Value)} (hp : PRel n ι H parts parts'.toList) (hz : j.okz = true) (hs : j.size ≠ 0) (hb : len * j.size ≤ 2 ^ 24) {els : List AVal}
    (hf : aSetParts j.size len (List.replicate len (absV j.zero)) parts = some els) :
    ∃ c' : Array Value, (Instr.buildSlice t len parts').run E.P w = .ok (.slice (some ⟨w.heap.size, 0, none⟩) len len) { w with heap := w.heap.push (.cells c' el) } ∧
      DRel n ι H (c'[·]?) j.size els 0 ∧ c'.size = len * j.size ∧ els.length = len := by
  have hz' : j.zero.cells.size = j.size := by simpa [TyI.okz] using hz
  have key : ∀ z0 : Array Value, (len * j.size = 0 ∨ z0 = j.zero.cells) → ∃ c', Instr.fill (fun i => some (i * j.size, j.size)) ((Array.range (len * j.size)).map (z0[· % z0.size]!)) parts'.toList = some c' ∧
      DRel n ι H (c'[·]?) j.size els 0 ∧ c'.size = len * j.size ∧ els.length = len := by
    intro z0 hz0
    have hD0 : DRel n ι H (((Array.range (len * j.size)).map (z0[· % z0.size]!))[·]?) j.size (List.replicate len (absV j.zero)) 0 := by
      rcases hz0 with h0 | rfl
      · have : len = 0 := by
          rcases Nat.mul_eq_zero.1 h0 with h | h
          · exact h
          · exact absurd h hs
        subst this
        exact .nil _ _ _
      · have := DRel.replicate (ι := ι) (H := H) (n := n) (z := j.zero) (m := len) (g := fun o => ((Array.range (len * j.size)).map (j.zero.cells[· % j.zero.cells.size]!))[o]?) (by
          intro o ho
          rw [hz'] at ho
          exact zeros_get _ _ _ (by omega) ho)
        rw [hz'] at this
        rw [hz']
        exact this
    obtain ⟨c', q1, q2, q3, q4⟩ := aSetParts_sound (len := len) hp hD0 (by simp) hf
    exact ⟨c', q1, q2, by rw [q3]; simp, by rw [q4]; simp⟩
  have hb' : ¬ (2 ^ 24 < len * j.size) := by omega
  simp only [Instr.buildSlice, Sem.run_bind, run_underlying E.ok ht, Result.andThen_ok, hd, run_sizeOf E.ok hj]
  rw [if_neg (by simpa using hb')]
  by_cases h0 : len * j.size = 0
  · obtain ⟨c', q1, q2, q3, q4⟩ := key #[] (.inl h0)
    simp only [if_pos h0, Sem.run_bind, Sem.run_pure, Result.andThen_ok, q1]
    exact ⟨c', rfl, q2, q3, q4⟩
  · obtain ⟨c', q1, q2, q3, q4⟩ := key j.zero.cells (.inr rfl)
    simp only [if_neg h0, Sem.run_bind, run_zeroValue E.ok hj, Sem.run_pure, Result.andThen_ok, q1]
    exact ⟨c', rfl, q2, q3, q4⟩

theorem aBuildSlice_sound (hR : Rel E ι H σ w) {t : TypeId} {i : TyI} (ht : E.ty t = some i) {el : TypeId} (hd : i.desc = .slice el) {j : TyI} (hj : E.ty el = some j) {len : Nat}
    {parts : List (Nat × AVal)} {parts' : Array (Nat × Value)} (hp : PRel σ.next ι H parts parts'.toList) {v : AVal} (h : aBuildSlice j len parts σ = some (v, σ')) :
    SndV E ι H σ ((Instr.buildSlice t len parts').run E.P w) v σ' := by
  unfold aBuildSlice at h
  split at h
  · rename_i hc
    obtain ⟨hz, hs, hb⟩ := hc
    cases hf : aSetParts j.size len (List.replicate len (absV j.zero)) parts with
    | none => simp [hf] at h
    | some els =>
      simp [hf] at h
      obtain ⟨rfl, rfl⟩ := h
      obtain ⟨c', q1, q2, q3, q4⟩ := run_buildSlice (w := w) ht hd hj hp hz hs hb hf
      obtain ⟨ι', r1, r2, r3, _⟩ := hR.newRow el (cap := len) (len := len) q2 (by omega) (by omega) (Nat.le_refl _) (FrOk.zero _)
      exact ⟨_, _, ι', H, q1, r3, r1, r2⟩
  · cases h

/-- A new block that no one will write. -/
def Imm.with (H : Imm) (b : Nat) (o : Obj) : Imm := fun c => if c = b then some (true, o) else H c

theorem Rel.frozen (hR : Rel E ι H σ w) (o : Obj) : Rel E ι (H.with w.heap.size o) σ { w with heap := w.heap.push o } ∧ Ext σ.next ι H σ.next ι (H.with w.heap.size o) := by
  have hH : ∀ c o', H c = some o' → c < w.heap.size := by
    intro c o' hc
    have := hR.imm c o' hc
    rcases Nat.lt_or_ge c w.heap.size with h' | h'
    · exact h'
    · simp [Array.getElem?_eq_none h'] at this
  have hLe : H.Le (H.with w.heap.size o) := by
    intro c o' hc
    have := hH c o' hc
    simp [Imm.with, Nat.ne_of_lt this, hc]
  have he : Ext σ.next ι H σ.next ι (H.with w.heap.size o) := ⟨Nat.le_refl _, fun _ _ => rfl, hLe⟩
  have hlt : ∀ (c : Nat), c < w.heap.size → (w.heap.push o)[c]? = w.heap[c]? := by
    intro c hc
    simp [Array.getElem?_push, Nat.ne_of_lt hc]
  refine ⟨⟨?_, ?_, hR.inj, fun g => (hR.glob g).ext he, hR.keep, hR.tys⟩, he⟩
  · intro c o' hc
    simp only [Imm.with] at hc
    split at hc
    · rename_i e; cases hc; subst e; simp
    · rw [hlt c (hH c o' hc)]; exact hR.imm c o' hc
  · intro b x hb
    obtain ⟨h1, h2, h3⟩ := hR.live b x hb
    refine ⟨h1.ext he (hlt _ h3) (by simp) ?_, by simp [Imm.with, Nat.ne_of_lt h3, h2], by simp; omega⟩
    intro m since seen hy
    subst hy
    exact hlt _ h1.1.2.1

/-- A literal slice that no one will write: as data. -/
def aLitSlice (j : TyI) (len : Nat) (parts : List (Nat × AVal)) : Option AVal :=
  if j.okz = true ∧ j.size ≠ 0 ∧ len * j.size ≤ 2 ^ 24 then
    (aSetParts j.size len (List.replicate len (absV j.zero)) parts).map fun els => .data j.size true els
  else none

theorem aLitSlice_sound (hR : Rel E ι H σ w) {t : TypeId} {i : TyI} (ht : E.ty t = some i) {el : TypeId} (hd : i.desc = .slice el) {j : TyI} (hj : E.ty el = some j) {len : Nat}
    {parts : List (Nat × AVal)} {parts' : Array (Nat × Value)} (hp : PRel σ.next ι H parts parts'.toList) {v : AVal} (h : aLitSlice j len parts = some v) :
    SndV E ι H σ ((Instr.buildSlice t len parts').run E.P w) v σ := by
  unfold aLitSlice at h
  split at h
  · rename_i hc
    obtain ⟨hz, hs, hb⟩ := hc
    cases hf : aSetParts j.size len (List.replicate len (absV j.zero)) parts with
    | none => simp [hf] at h
    | some els =>
      simp [hf] at h
      subst h
      obtain ⟨c', q1, q2, q3, q4⟩ := run_buildSlice (w := w) ht hd hj hp hz hs hb hf
      obtain ⟨r1, r2⟩ := hR.frozen (.cells c' el)
      refine ⟨_, _, ι, H.with w.heap.size (.cells c' el), q1, ?_, r1, r2⟩
      refine .data _ _ _ _ _ _ _ q4.symm (Nat.le_refl _) (fun _ => rfl) ?_
      refine q2.ext r2 ?_
      intro o v ho
      have ho' : c'[o]? = some v := ho
      simp [Imm.cell?, Imm.with, ho']
  · cases h

def aMakeSlice (j : TyI) (l c : AVal) (σ : AStore) : Option (AVal × AStore) :=
  match l, c with
  | .sc (.int _ l), .sc (.int _ c) =>
    if j.okz = true ∧ j.size ≠ 0 ∧ 0 ≤ l ∧ l ≤ c ∧ j.bytes * c ≤ 2 ^ 48 ∧ c < 2 ^ 62 then
      some (.slice σ.next 0 l.toNat, σ.alloc (.cells j.size (List.replicate c.toNat (absV j.zero))))
    else none
  | _, _ => none

theorem wrap64_small {x : Int} (h0 : 0 ≤ x) (h1 : x < 2 ^ 62) : IntKind.i64.wrap x = x := by
  simp only [IntKind.wrap, IntKind.bits, IntKind.signed]
  have : x % 2 ^ 64 = x := by omega
  simp only [this]
  simp; omega

theorem aMakeSlice_sound (hR : Rel E ι H σ w) {t : TypeId} {i : TyI} (ht : E.ty t = some i) {el : TypeId} (hd : i.desc = .slice el) {j : TyI} (hj : E.ty el = some j)
    {l c v : AVal} {l' c' : Value} (hl : VRel σ.next ι H l l') (hc : VRel σ.next ι H c c') (h : aMakeSlice j l c σ = some (v, σ')) :
    SndV E ι H σ ((Instr.makeSlice t l' c').run E.P w) v σ' := by
  unfold aMakeSlice at h
  split at h
  · rename_i k l k' c
    obtain rfl := hl.sc_inv
    obtain rfl := hc.sc_inv
    split at h
    · rename_i hh
      obtain ⟨hz, hs, h0, h1, h2, h3⟩ := hh
      cases h
      have hz' : j.zero.cells.size = j.size := by simpa [TyI.okz] using hz
      obtain ⟨info, hi1, hi2, hi3, hi4⟩ := run_typeInfo E.ok hj w
      have hwl : IntKind.i64.wrap l = l := wrap64_small h0 (by omega)
      have hwc : IntKind.i64.wrap c = c := wrap64_small (by omega) h3
      have hnot : ¬ ((decide (c < 0) || decide (2 ^ 48 < (j.bytes : Int) * c) || decide (l < 0) || decide (c < l)) = true) := by simp; omega
      have fin : ∀ c0 : Array Value, c0 = (Array.range (c.toNat * j.size)).map (j.zero.cells[· % j.zero.cells.size]!) → 
          SndV E ι H σ (.ok (.slice (some ⟨w.heap.size, 0, none⟩) l.toNat c.toNat) { w with heap := w.heap.push (.cells c0 el) }) (.slice σ.next 0 l.toNat)
            (σ.alloc (.cells j.size (List.replicate c.toNat (absV j.zero)))) := by
        intro c0 hc0
        have hD : DRel σ.next ι H (c0[·]?) j.size (List.replicate c.toNat (absV j.zero)) 0 := by
          have := DRel.replicate (ι := ι) (H := H) (n := σ.next) (z := j.zero) (m := c.toNat) (g := fun o => c0[o]?) (by
            intro o ho
            rw [hz'] at ho
            show c0[o]? = _
            rw [hc0]
            exact zeros_get _ _ _ (by omega) ho)
          rw [hz'] at this
          exact this
        obtain ⟨ι', r1, r2, r3, _⟩ := hR.newRow el (cap := c.toNat) (len := l.toNat) hD (by simp [hc0]) (by simp) (by omega) (FrOk.zero _)
        exact ⟨_, _, ι', H, rfl, r3, r1, r2⟩
      simp only [Instr.makeSlice, Sem.run_bind, run_underlying E.ok ht, Result.andThen_ok, hd, asInt, asIntOf, Sem.run_pure, hi1, hi3, hwl, hwc]
      have e1 : (decide (c < 0) || decide ((j.bytes : Int) * c > 2 ^ 48) || decide (l < 0) || decide (l > c)) = false := by simpa using hnot
      simp only [e1, Bool.false_eq_true, if_false, Sem.run_bind, run_askRoom, Result.andThen_ok, run_sizeOf E.ok hj]
      by_cases hn : c.toNat * j.size = 0
      · have hempty : ∀ f : Nat → Value, (Array.range (c.toNat * j.size)).map f = #[] := by intro f; rw [hn]; simp
        have := fin _ rfl
        simp only [hempty] at this
        rw [if_pos hn]
        show SndV E ι H σ (Sem.run E.P (do
          let a ← newRow el ((Array.range (c.toNat * j.size)).map fun x => (#[] : Array Value)[x % (#[] : Array Value).size]!)
          pure (Value.slice (some a) l.toNat c.toNat)) w) _ _
        rw [hempty]
        exact this
      · simp only [if_neg hn, Sem.run_bind, run_zeroValue E.ok hj, Sem.run_pure, Result.andThen_ok]
        exact fin _ rfl
    · cases h
  · cases h
end
end Abs

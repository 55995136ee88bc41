/-
  Part of the abstract layer (H): values, stores and steps that stand for those of the model, and the proof that they do. It proves no statement by itself.
-/
import Derived.Test.YtmimfnjcnndhpaaGreatAbsG
noncomputable section
namespace Abs
set_option linter.unusedVariables false
set_option linter.unusedSimpArgs false
set_option linter.unusedSectionVars false
open Go

section
variable {E : Env} {ι : Inj} {H : Imm} {σ σ' : AStore} {w : World}

/-! ### Slicing -/

def optInt : Option AVal → Option (Option Int)
  | none => some none
  | some (.sc (.int _ n)) => some (some n)
  | _ => none

/-- The bounds of a slice expression: 0 ≤ l ≤ h ≤ len. -/
def aBounds (len : Nat) (lo hi : Option AVal) : Option (Nat × Nat) :=
  match optInt lo, optInt hi with
  | some lo, some hi =>
    let l := lo.getD 0
    let h := hi.getD len
    if 0 ≤ l ∧ l ≤ h ∧ h ≤ len then some (l.toNat, h.toNat) else none
  | _, _ => none

inductive ORel (n : Nat) (ι : Inj) (H : Imm) : Option AVal → Option Value → Prop
  | none : ORel n ι H none none
  | some (v : AVal) (w : Value) (h : VRel n ι H v w) : ORel n ι H (some v) (some w)

theorem optInt_some {n : Nat} {x : Option AVal} {x' : Option Value} (h : ORel n ι H x x') {r : Option Int} (hr : optInt x = some r) :
    (x' = none ∧ r = none) ∨ ∃ k z, x' = some (.int k z) ∧ r = some z := by
  cases h with
  | none => simp [optInt] at hr; exact .inl ⟨rfl, hr.symm⟩
  | some v w hv =>
    unfold optInt at hr
    split at hr
    · simp at *
    · rename_i k z he
      simp at he
      subst he
      cases hr
      exact .inr ⟨k, z, by rw [hv.sc_inv], rfl⟩
    · cases hr

theorem run_sliceBounds {n : Nat} {lo hi : Option AVal} {lo' hi' : Option Value} (hlo : ORel n ι H lo lo') (hhi : ORel n ι H hi hi') {len cap l h : Nat} (isS : Bool) (hcap : len ≤ cap)
    (hb : aBounds len lo hi = some (l, h)) (P : Program) : (Instr.sliceBounds isS len cap lo' hi' none).run P w = .ok (l, h, cap) w ∧ l ≤ h ∧ h ≤ len := by
  unfold aBounds at hb
  split at hb
  · rename_i zl zh hl hh
    simp only [] at hb
    split at hb
    · rename_i hc
      obtain ⟨h1, h2, h3⟩ := hc
      cases hb
      refine ⟨?_, by omega, by omega⟩
      rcases optInt_some hlo hl with ⟨rfl, rfl⟩ | ⟨k, z, rfl, rfl⟩ <;> rcases optInt_some hhi hh with ⟨rfl, rfl⟩ | ⟨k', z', rfl, rfl⟩
      · simp [Instr.sliceBounds]
      · simp at h1 h2 h3
        have : 0 ≤ z' ∧ z' ≤ (cap : Int) := by omega
        simp [Instr.sliceBounds, Instr.sliceBound, asIntOf, this]
      · simp at h1 h2 h3
        simp [Instr.sliceBounds, Instr.sliceBound, asIntOf, h1, h2]
      · simp at h1 h2 h3
        have : 0 ≤ z' ∧ z' ≤ (cap : Int) := by omega
        have h5 : 0 ≤ z ∧ z ≤ (z'.toNat : Int) := by omega
        simp [Instr.sliceBounds, Instr.sliceBound, asIntOf, this]
        intro hc
        exact absurd hc (by omega)
    · cases hb
  · cases hb

def aSliceStr (x : AVal) (lo hi : Option AVal) : Option AVal :=
  match x with
  | .sc (.string s) => (aBounds s.size lo hi).map fun p => .sc (.string (s.extract p.1 p.2))
  | _ => none

theorem aSliceStr_sound (hR : Rel E ι H σ w) {t : TypeId} {i : TyI} (hs : E.ty t = some i) (hd : i.desc = .string) {x v : AVal} {x' : Value} (hx : VRel σ.next ι H x x')
    {lo hi : Option AVal} {lo' hi' : Option Value} (hlo : ORel σ.next ι H lo lo') (hhi : ORel σ.next ι H hi hi') (h : aSliceStr x lo hi = some v) :
    SndV E ι H σ ((Instr.sliceAt t x' lo' hi' none).run E.P w) v σ := by
  unfold aSliceStr at h
  split at h
  · rename_i s
    obtain rfl := hx.sc_inv
    cases hb : aBounds s.size lo hi with
    | none => simp [hb] at h
    | some p =>
      obtain ⟨l, hh⟩ := p
      simp [hb] at h
      subst h
      obtain ⟨h1, _, _⟩ := run_sliceBounds (w := w) hlo hhi false (Nat.le_refl _) hb E.P
      refine SndV.same hR (v' := .string (s.extract l hh)) ?_ (.sc _)
      simp [Instr.sliceAt, Instr.slice, run_underlying E.ok hs, hd, h1]
  · cases h

def aSlice (sz : Nat) (x : AVal) (lo hi : Option AVal) (σ : AStore) : Option AVal :=
  match x with
  | .slice b off len =>
    match σ.get b with
    | some (.cells sz' _) =>
      if sz' = sz then
        match aBounds len lo hi with
        | some (l, h) => if l ≠ 0 ∧ l = h ∧ off + l = (off + len) then some (.endS b (off + l)) else if l ≠ 0 ∧ l = h then some (.data sz false []) else some (.slice b (off + l) (h - l))
        | none => none
      else none
    | _ => none
  | .data sz' t els =>
    if sz' = sz then
      match aBounds els.length lo hi with
      | some (l, h) => some (.data sz (t && h == els.length) ((els.drop l).take (h - l)))
      | none => none
    else none
  | .sc (.slice none 0 0) =>
    match aBounds 0 lo hi with
    | some _ => some (.sc (.slice none 0 0))
    | none => none
  | _ => none

theorem DRel.drop {n : Nat} {g : Nat → Option Value} {sz : Nat} {els : List AVal} {o : Nat} (h : DRel n ι H g sz els o) (k : Nat) : DRel n ι H g sz (els.drop k) (o + k * sz) := by
  apply DRel.of_get
  intro i e he
  rw [List.getElem?_drop] at he
  have := h.get he
  rw [Nat.add_mul, ← Nat.add_assoc] at this
  exact this
theorem DRel.take {n : Nat} {g : Nat → Option Value} {sz : Nat} {els : List AVal} {o : Nat} (h : DRel n ι H g sz els o) (k : Nat) : DRel n ι H g sz (els.take k) o := by
  apply DRel.of_get
  intro i e he
  rw [List.getElem?_take] at he
  split at he
  · exact h.get he
  · cases he

theorem run_sliceAt {t : TypeId} {i : TyI} (hs : E.ty t = some i) {el : TypeId} (hd : i.desc = .slice el) {j : TyI} (hj : E.ty el = some j) {a : Option Addr} {len cap : Nat} {lo' hi' : Option Value}
    {l h : Nat} (h1 : (Instr.sliceBounds true len cap lo' hi' none).run E.P w = .ok (l, h, cap) w) :
    (Instr.sliceAt t (.slice a len cap) lo' hi' none).run E.P w = .ok (.slice (if cap = l then a else a.map (·.add (l * j.size))) (h - l) (cap - l)) w := by
  simp [Instr.sliceAt, Instr.slice, run_underlying E.ok hs, hd, h1, run_sizeOf E.ok hj]

/-- A view of a row: 's[l:h:h]'. -/
def aSlice3 (sz : Nat) (x : AVal) (lo hi mx : Option AVal) (σ : AStore) : Option AVal :=
  match lo, hi, mx with
  | some (.sc (.int _ l)), some (.sc (.int _ h)), some (.sc (.int _ m)) =>
    if 0 ≤ l ∧ l < h ∧ h = m then
      match x with
      | .slice b off len =>
        match σ.get b with
        | some (.cells sz' els) => if sz' = sz ∧ m.toNat ≤ len ∧ off + m.toNat ≤ els.length then some (.view b (off + l.toNat) (h - l).toNat) else none
        | _ => none
      | .view b off len =>
        match σ.get b with
        | some (.cells sz' els) => if sz' = sz ∧ m.toNat ≤ len ∧ off + m.toNat ≤ els.length then some (.view b (off + l.toNat) (h - l).toNat) else none
        | _ => none
      | .data sz' _ els => if sz' = sz ∧ m.toNat ≤ els.length then some (.data sz true ((els.drop l.toNat).take (h - l).toNat)) else none
      | _ => none
    else none
  | _, _, _ => none

theorem run_sliceAt3 {t : TypeId} {i : TyI} (hs : E.ty t = some i) {el : TypeId} (hd : i.desc = .slice el) {j : TyI} (hj : E.ty el = some j) {a : Option Addr} {len cap : Nat} {k1 k2 k3 : IntKind} {l h : Int}
    (h0 : 0 ≤ l) (h1 : l < h) (h2 : h.toNat ≤ cap) :
    (Instr.sliceAt t (.slice a len cap) (some (.int k1 l)) (some (.int k2 h)) (some (.int k3 h))).run E.P w = .ok (.slice (a.map (·.add (l.toNat * j.size))) (h - l).toNat (h - l).toNat) w := by
  have e1 : 0 ≤ h := by omega
  have e2 : h ≤ (cap : Int) := by omega
  have e3 : ¬ h.toNat = l.toNat := by omega
  have e4 : h.toNat - l.toNat = (h - l).toNat := by omega
  have e5 : max h 0 = h := by omega
  have e6 : l ≤ h := by omega
  simp [Instr.sliceAt, Instr.slice, Instr.sliceBounds, Instr.sliceBound, asIntOf, run_underlying E.ok hs, hd, run_sizeOf E.ok hj, h0, e1, e2, e3, e4, e5, e6]

theorem aSlice3_sound (hR : Rel E ι H σ w) {t : TypeId} {i : TyI} (hs : E.ty t = some i) {el : TypeId} (hd : i.desc = .slice el) {j : TyI} (hj : E.ty el = some j)
    {x v : AVal} {x' : Value} (hx : VRel σ.next ι H x x') {lo hi mx : Option AVal} {lo' hi' mx' : Option Value} (hlo : ORel σ.next ι H lo lo') (hhi : ORel σ.next ι H hi hi') (hmx : ORel σ.next ι H mx mx')
    (h : aSlice3 j.size x lo hi mx σ = some v) : SndV E ι H σ ((Instr.sliceAt t x' lo' hi' mx').run E.P w) v σ := by
  unfold aSlice3 at h
  split at h
  · rename_i k1 l k2 hh k3 m
    cases hlo with
    | some _ lo' hlo =>
    cases hhi with
    | some _ hi' hhi =>
    cases hmx with
    | some _ mx' hmx =>
    obtain rfl := hlo.sc_inv
    obtain rfl := hhi.sc_inv
    obtain rfl := hmx.sc_inv
    split at h
    · rename_i hc
      obtain ⟨h0, h1, rfl⟩ := hc
      split at h
      · rename_i b off len
        obtain ⟨cap, rfl, hb, hl, hcap⟩ := hx.slice_inv
        split at h
        · rename_i sz' els hg
          split at h
          · rename_i hc2
            obtain ⟨rfl, h2, h3⟩ := hc2
            cases h
            have hsz := ((hR.live b _ hg).1).1
            refine SndV.same hR (v' := .slice (some ⟨(ι b).blk, (ι b).base + (off + l.toNat) * (ι b).sz, none⟩) (hh - l).toNat (hh - l).toNat) ?_ (.view _ _ _ hb (by omega))
            rw [run_sliceAt3 hs hd hj h0 h1 (by omega)]
            simp [add_mk, hsz, Nat.add_mul, Nat.add_assoc]
          · cases h
        · cases h
      · rename_i b off len
        obtain ⟨rfl, hb, hcap⟩ := hx.view_inv
        split at h
        · rename_i sz' els hg
          split at h
          · rename_i hc2
            obtain ⟨rfl, h2, h3⟩ := hc2
            cases h
            have hsz := ((hR.live b _ hg).1).1
            refine SndV.same hR (v' := .slice (some ⟨(ι b).blk, (ι b).base + (off + l.toNat) * (ι b).sz, none⟩) (hh - l).toNat (hh - l).toNat) ?_ (.view _ _ _ hb (by omega))
            rw [run_sliceAt3 hs hd hj h0 h1 (by omega)]
            simp [add_mk, hsz, Nat.add_mul, Nat.add_assoc]
          · cases h
        · cases h
      · rename_i sz' tt els
        obtain ⟨b, o, cap, rfl, hl, hD, htt⟩ := hx.data_inv
        split at h
        · rename_i hc2
          obtain ⟨rfl, h2⟩ := hc2
          cases h
          refine SndV.same hR (v' := .slice (some ⟨b, o + l.toNat * j.size, none⟩) (hh - l).toNat (hh - l).toNat) ?_ (.data _ _ _ _ _ _ _ (by simp; omega) (Nat.le_refl _) (fun _ => rfl) ((hD.drop _).take _))
          rw [run_sliceAt3 hs hd hj h0 h1 (by omega)]
          simp [add_mk]
        · cases h
      · cases h
    · cases h
  · cases h

/-- A block's memory is told of from now on; no one writes it again. -/
theorem Rel.freeze (h : Rel E ι H σ w) {b : Nat} {x : ABlk} (hb : σ.get b = some x) {o : Obj} (ho : w.heap[(ι b).blk]? = some o) :
    Rel E ι (H.with (ι b).blk o) (σ.del b) w ∧ Ext σ.next ι H σ.next ι (H.with (ι b).blk o) := by
  obtain ⟨l1, l2, l3⟩ := h.live b _ hb
  have hLe : H.Le (H.with (ι b).blk o) := by
    intro c o' hc
    have : c ≠ (ι b).blk := by intro e; subst e; rw [l2] at hc; cases hc
    simp [Imm.with, this, hc]
  have he : Ext σ.next ι H σ.next ι (H.with (ι b).blk o) := ⟨Nat.le_refl _, fun _ _ => rfl, hLe⟩
  have hget : ∀ b' y, (σ.del b).get b' = some y → b' ≠ b ∧ σ.get b' = some y := by
    intro b' y hy
    rw [AStore.get_del] at hy
    split at hy
    · cases hy
    · rename_i hne; exact ⟨hne, hy⟩
  refine ⟨⟨?_, ?_, ?_, fun g => (h.glob g).ext he, h.keep, h.tys⟩, he⟩
  · intro c o' hc
    simp only [Imm.with] at hc
    split at hc
    · rename_i e; cases hc; subst e; exact ho
    · exact h.imm c o' hc
  · intro b' y hy
    obtain ⟨hne, hy⟩ := hget b' y hy
    obtain ⟨h1, h2, h3⟩ := h.live b' _ hy
    have hne' : (ι b').blk ≠ (ι b).blk := fun hc => hne (h.inj b' b _ _ hy hb hc)
    exact ⟨h1.ext he rfl (Nat.le_refl _) (fun _ _ _ _ => rfl), by simp [Imm.with, hne', h2], h3⟩
  · intro b1 b2 x1 x2 h1 h2 hh
    exact h.inj b1 b2 x1 x2 (hget _ _ h1).2 (hget _ _ h2).2 hh

/-- 'p[l:h]' of an array of cells: its memory is given up, and told of. -/
def aSliceArr (n sz : Nat) (x : AVal) (lo hi : Option AVal) (σ : AStore) : Option (AVal × AStore) :=
  match x with
  | .ptr b i k =>
    match σ.get b with
    | some (.cells _ els) =>
      match els[i]? with
      | some e =>
        match aBounds n lo hi with
        | some (l, h) =>
          if sz = 1 ∧ l < h ∧ k + n ≤ e.cells.length ∧ (e.cells.all fun v => !v.isAgg) = true then
            some (.data 1 (Nat.beq h n) ((e.cells.drop (k + l)).take (h - l)), σ.del b)
          else none
        | none => none
      | none => none
    | _ => none
  | _ => none

theorem DRel.ones {n : Nat} {g : Nat → Option Value} : ∀ {cs : List AVal} {o : Nat}, CRel n ι H g cs o → (∀ v ∈ cs, v.isAgg = false) → DRel n ι H g 1 cs o
  | _, _, .nil _ _, _ => .nil _ _ _
  | _, _, .cons _ v w vs o hg h hs, ha => .one _ v w vs o (ha v (by simp)) hg h (DRel.ones hs (fun v hv => ha v (by simp [hv])))

theorem aSliceArr_sound (hR : Rel E ι H σ w) {t : TypeId} {i : TyI} (hs : E.ty t = some i) {arr : TypeId} (hd : i.desc = .pointer arr) {ia : TyI} (hia : E.ty arr = some ia) {n : Nat} {el : TypeId} (hda : ia.desc = .array n el)
    {j : TyI} (hj : E.ty el = some j) {x v : AVal} {σ' : AStore} {x' : Value} (hx : VRel σ.next ι H x x') {lo hi : Option AVal} {lo' hi' : Option Value} (hlo : ORel σ.next ι H lo lo') (hhi : ORel σ.next ι H hi hi')
    (h : aSliceArr n j.size x lo hi σ = some (v, σ')) : SndV E ι H σ ((Instr.sliceAt t x' lo' hi' none).run E.P w) v σ' := by
  unfold aSliceArr at h
  split at h
  · rename_i b q k
    obtain ⟨hb, rfl⟩ := hx.ptr_inv
    split at h
    · rename_i sz els hg
      split at h
      · rename_i e he
        split at h
        · rename_i l hh hbd
          split at h
          · rename_i hc
            obtain ⟨hsz, hlh, hk, hall⟩ := hc
            cases h
            obtain ⟨h1, h2, h3⟩ := run_sliceBounds (w := w) hlo hhi false (Nat.le_refl n) hbd E.P
            obtain ⟨l1, l2, l3⟩ := hR.live b _ hg
            obtain ⟨g1, g2, c, elem, fr, g3, gf, g4, g5, _⟩ := l1
            obtain ⟨f1, f2⟩ := hR.freeze hg g3
            have hD := (g5.get he).1
            have hD2 := ((hD.drop (k + l)).take (hh - l))
            have hwf : CRel σ.next ι (H.with (ι b).blk (.cells c elem fr)) ((H.with (ι b).blk (.cells c elem fr)).cell? (ι b).blk) ((e.cells.drop (k + l)).take (hh - l)) ((ι b).base + q * sz + (k + l)) :=
              hD2.ext f2 (fun o v hv => by simpa [Imm.cell?, Imm.with] using hv)
            refine ⟨.slice (some ⟨(ι b).blk, (ι b).base + q * (ι b).sz + k + l, none⟩) (hh - l) (n - l), w, ι, H.with (ι b).blk (.cells c elem fr), ?_, ?_, f1, f2⟩
            · have hnl : ¬ n = l := by omega
              have hu2 := run_underlying E.ok hia w
              simp [Instr.sliceAt, Instr.slice, asAddr, run_underlying E.ok hs, hd, hu2, hda, h1, run_sizeOf E.ok hj, hnl, hsz, add_mk]
            · rw [g1]
              refine .data 1 (Nat.beq hh n) _ (ι b).blk _ _ _ (by simp; omega) (by omega) (fun hb => by have := Nat.eq_of_beq_eq_true hb; omega) ?_
              have := DRel.ones hwf (by
                intro v hv
                have hv1 := List.mem_of_mem_drop (List.mem_of_mem_take hv)
                rw [List.all_eq_true] at hall
                simpa using hall v hv1)
              rw [show (ι b).base + q * sz + k + l = (ι b).base + q * sz + (k + l) by omega]
              exact this
          · cases h
        · cases h
      · cases h
    · cases h
  · cases h

theorem aSliceArr_soundA (hR : Rel E ι H σ w) {t : TypeId} {i : TyI} (hs : E.ty t = some i) {n : Nat} {el : TypeId} (hd : i.desc = .array n el)
    {j : TyI} (hj : E.ty el = some j) {x v : AVal} {σ' : AStore} {x' : Value} (hx : VRel σ.next ι H x x') {lo hi : Option AVal} {lo' hi' : Option Value} (hlo : ORel σ.next ι H lo lo') (hhi : ORel σ.next ι H hi hi')
    (h : aSliceArr n j.size x lo hi σ = some (v, σ')) : SndV E ι H σ ((Instr.sliceAt t x' lo' hi' none).run E.P w) v σ' := by
  unfold aSliceArr at h
  split at h
  · rename_i b q k
    obtain ⟨hb, rfl⟩ := hx.ptr_inv
    split at h
    · rename_i sz els hg
      split at h
      · rename_i e he
        split at h
        · rename_i l hh hbd
          split at h
          · rename_i hc
            obtain ⟨hsz, hlh, hk, hall⟩ := hc
            cases h
            obtain ⟨h1, h2, h3⟩ := run_sliceBounds (w := w) hlo hhi false (Nat.le_refl n) hbd E.P
            obtain ⟨l1, l2, l3⟩ := hR.live b _ hg
            obtain ⟨g1, g2, c, elem, fr, g3, gf, g4, g5, _⟩ := l1
            obtain ⟨f1, f2⟩ := hR.freeze hg g3
            have hD := (g5.get he).1
            have hD2 := ((hD.drop (k + l)).take (hh - l))
            have hwf : CRel σ.next ι (H.with (ι b).blk (.cells c elem fr)) ((H.with (ι b).blk (.cells c elem fr)).cell? (ι b).blk) ((e.cells.drop (k + l)).take (hh - l)) ((ι b).base + q * sz + (k + l)) :=
              hD2.ext f2 (fun o v hv => by simpa [Imm.cell?, Imm.with] using hv)
            refine ⟨.slice (some ⟨(ι b).blk, (ι b).base + q * (ι b).sz + k + l, none⟩) (hh - l) (n - l), w, ι, H.with (ι b).blk (.cells c elem fr), ?_, ?_, f1, f2⟩
            · have hnl : ¬ n = l := by omega
              simp [Instr.sliceAt, Instr.sureAddr, run_underlying E.ok hs, hd, h1, run_sizeOf E.ok hj, hnl, hsz, add_mk]
            · rw [g1]
              refine .data 1 (Nat.beq hh n) _ (ι b).blk _ _ _ (by simp; omega) (by omega) (fun hb => by have := Nat.eq_of_beq_eq_true hb; omega) ?_
              have := DRel.ones hwf (by
                intro v hv
                have hv1 := List.mem_of_mem_drop (List.mem_of_mem_take hv)
                rw [List.all_eq_true] at hall
                simpa using hall v hv1)
              rw [show (ι b).base + q * sz + k + l = (ι b).base + q * sz + (k + l) by omega]
              exact this
          · cases h
        · cases h
      · cases h
    · cases h
  · cases h

theorem aSlice_sound (hR : Rel E ι H σ w) {t : TypeId} {i : TyI} (hs : E.ty t = some i) {el : TypeId} (hd : i.desc = .slice el) {j : TyI} (hj : E.ty el = some j)
    {x v : AVal} {x' : Value} (hx : VRel σ.next ι H x x') {lo hi : Option AVal} {lo' hi' : Option Value} (hlo : ORel σ.next ι H lo lo') (hhi : ORel σ.next ι H hi hi')
    (h : aSlice j.size x lo hi σ = some v) : SndV E ι H σ ((Instr.sliceAt t x' lo' hi' none).run E.P w) v σ := by
  unfold aSlice at h
  split at h
  · rename_i b off len
    obtain ⟨cap, rfl, hb, hl, hcap⟩ := hx.slice_inv
    split at h
    · rename_i sz' els hg
      split at h
      · rename_i hsz
        subst hsz
        split at h
        · rename_i l hh hbd
          obtain ⟨h1, h2, h3⟩ := run_sliceBounds (w := w) hlo hhi true hl hbd E.P
          have hsz := ((hR.live b _ hg).1).1
          split at h
          · rename_i hlh
            cases h
            by_cases hm : cap = l
            · refine SndV.same hR (v' := .slice (some ⟨(ι b).blk, (ι b).base + off * (ι b).sz, none⟩) 0 0) ?_ (.endS _ _ _ 0 hb (by omega) (by simp))
              rw [run_sliceAt hs hd hj h1, if_pos hm, show hh - l = 0 by omega, show cap - l = 0 by omega]
            · refine SndV.same hR (v' := .slice (some ⟨(ι b).blk, (ι b).base + off * (ι b).sz + l * j.size, none⟩) 0 (cap - l)) ?_ (.endS _ _ _ (cap - l) hb (by omega) (fun _ => by rw [Nat.add_mul, hsz]; omega))
              rw [run_sliceAt hs hd hj h1, if_neg hm, show hh - l = 0 by omega]; simp [add_mk]
          split at h
          · rename_i hlh
            cases h
            have : ∃ o, (Instr.sliceAt t (.slice (some ⟨(ι b).blk, (ι b).base + off * (ι b).sz, none⟩) len cap) lo' hi' none).run E.P w = .ok (.slice (some ⟨(ι b).blk, o, none⟩) 0 (cap - l)) w := by
              by_cases hm : cap = l
              · exact ⟨(ι b).base + off * (ι b).sz, by rw [run_sliceAt hs hd hj h1, if_pos hm, show hh - l = 0 by omega]⟩
              · exact ⟨(ι b).base + off * (ι b).sz + l * j.size, by rw [run_sliceAt hs hd hj h1, if_neg hm, show hh - l = 0 by omega]; simp [add_mk]⟩
            obtain ⟨o, ho⟩ := this
            exact SndV.same hR ho (.data _ _ [] _ o 0 _ rfl (by omega) (by simp) (.nil _ _ _))
          · rename_i hlh
            cases h
            refine SndV.same hR (v' := .slice (some ⟨(ι b).blk, (ι b).base + (off + l) * (ι b).sz, none⟩) (hh - l) (cap - l)) ?_ (.slice _ _ _ _ hb (by omega) (by omega))
            by_cases hm : cap = l
            · have : l = 0 := by omega
              subst this
              rw [run_sliceAt hs hd hj h1, if_pos hm]; simp
            · rw [run_sliceAt hs hd hj h1, if_neg hm]; simp [add_mk, hsz, Nat.add_mul, Nat.add_assoc]
        · cases h
      · cases h
    · cases h
  · rename_i sz' tt els
    obtain ⟨b, o, cap, rfl, hl, hD, htt⟩ := hx.data_inv
    split at h
    · rename_i hsz
      subst hsz
      split at h
      · rename_i l hh hbd
        obtain ⟨h1, h2, h3⟩ := run_sliceBounds (w := w) hlo hhi true hl hbd E.P
        cases h
        by_cases hm : cap = l
        · have e : ((els.drop l).take (hh - l)) = [] := by
            rw [show hh - l = 0 by omega]; simp
          rw [e]
          refine SndV.same hR (v' := .slice (some ⟨b, o, none⟩) (hh - l) (cap - l)) ?_ (.data _ _ [] _ o _ _ (by simp; omega) (by omega) (by intro _; omega) (.nil _ _ _))
          rw [run_sliceAt hs hd hj h1, if_pos hm]
        · refine SndV.same hR (v' := .slice (some ⟨b, o + l * j.size, none⟩) (hh - l) (cap - l)) ?_ (.data _ _ _ _ _ _ _ (by simp; omega) (by omega) (by intro ht; simp at ht; have := htt ht.1; omega) ((hD.drop l).take _))
          rw [run_sliceAt hs hd hj h1, if_neg hm]; simp [add_mk]
      · cases h
    · cases h
  · obtain rfl := hx.sc_inv
    split at h
    · rename_i p hbd
      obtain ⟨l, hh⟩ := p
      obtain ⟨h1, h2, h3⟩ := run_sliceBounds (w := w) hlo hhi true (Nat.le_refl 0) hbd E.P
      cases h
      have e1 : l = 0 := by omega
      have e2 : hh = 0 := by omega
      subst e1 e2
      refine SndV.same hR (v' := .slice none 0 0) ?_ (.sc _)
      rw [run_sliceAt hs hd hj h1]; simp
    · cases h
  · cases h

/-! ### Elements of a slice; len -/

/-- The elements of a slice. -/
def aElems (sz : Nat) (x : AVal) (σ : AStore) : Option (List AVal) :=
  match x with
  | .slice b off len =>
    match σ.get b with
    | some (.cells sz' els) => if sz' = sz ∧ off + len ≤ els.length then some ((els.drop off).take len) else none
    | _ => none
  | .view b off len =>
    match σ.get b with
    | some (.cells sz' els) => if sz' = sz ∧ off + len ≤ els.length then some ((els.drop off).take len) else none
    | _ => none
  | .endS _ _ => some []
  | .data sz' _ els => if sz' = sz then some els else none
  | .sc (.slice none 0 0) => some []
  | _ => none

theorem DRel.flat {n : Nat} {g : Nat → Option Value} : ∀ {els : List AVal} {sz o : Nat}, DRel n ι H g sz els o → ∃ ws : List Value,
    ws.length = els.length * sz ∧ (∀ k, k < els.length * sz → g (o + k) = ws[k]?) ∧ DRel n ι H (ws[·]?) sz els 0
  | [], sz, o, _ => ⟨[], by simp, by simp, .nil _ _ _⟩
  | e :: es, sz, o, h => by
      have h0 := h.get (i := 0) (e := e) (by simp)
      simp only [Nat.zero_mul, Nat.add_zero] at h0
      obtain ⟨us, u1, u2⟩ := h0.1.list
      rw [h0.2] at u2
      have hul : us.length = sz := by rw [← u1.length, h0.2]
      have ht : DRel n ι H g sz es (o + sz) := by
        have := h.drop 1
        simpa using this
      obtain ⟨ws, w1, w2, w3⟩ := ht.flat
      have hg : ∀ k, k < (es.length + 1) * sz → g (o + k) = (us ++ ws)[k]? := by
        intro k hk
        rw [Nat.add_mul] at hk
        by_cases hks : k < sz
        · rw [u2 k hks, List.getElem?_append_left (by omega)]
        · rw [List.getElem?_append_right (by omega), ← w2 (k - us.length) (by omega)]
          congr 1; omega
      refine ⟨us ++ ws, by simp [hul, w1, Nat.add_mul]; omega, by simpa using hg, ?_⟩
      apply DRel.of_get
      intro i x hx
      have := h.get hx
      refine ⟨?_, this.2⟩
      have hi : i < es.length + 1 := by
        rcases Nat.lt_or_ge i (es.length + 1) with h' | h'
        · exact h'
        · rw [List.getElem?_eq_none (by simpa using h')] at hx; cases hx
      obtain ⟨vs, v1, v2⟩ := this.1.list
      rw [this.2] at v2
      have hvl : vs.length = sz := by rw [← v1.length, this.2]
      refine CRel.of_list v1 ?_
      intro k hk
      have hik : i * sz + k < (es.length + 1) * sz := by
        have : (i + 1) * sz ≤ (es.length + 1) * sz := Nat.mul_le_mul_right _ hi
        rw [Nat.add_mul] at this; omega
      show (us ++ ws)[0 + i * sz + k]? = vs[k]?
      rw [← v2 k (by omega), show o + i * sz + k = o + (i * sz + k) by omega, hg _ hik]
      congr 1; omega

theorem aElems_sound (hR : Rel E ι H σ w) {sz : Nat} {x : AVal} {x' : Value} (hx : VRel σ.next ι H x x') {els : List AVal} (h : aElems sz x σ = some els) :
    ∃ a cap, x' = .slice a els.length cap ∧ ∃ ws : List Value, ws.length = els.length * sz ∧ DRel σ.next ι H (ws[·]?) sz els 0 ∧
      ∀ P m, m ≤ els.length → (Builtin.firstCells sz m x').run P w = .ok (ws.take (m * sz)).toArray w := by
  have load : ∀ (b o cap : Nat), DRel σ.next ι H (rd w b) sz els o → ∃ ws : List Value, ws.length = els.length * sz ∧ DRel σ.next ι H (ws[·]?) sz els 0 ∧
      ∀ P m, m ≤ els.length → (Builtin.firstCells sz m (.slice (some ⟨b, o, none⟩) els.length cap)).run P w = .ok (ws.take (m * sz)).toArray w := by
    intro b o cap hD
    obtain ⟨ws, h1, h2, h3⟩ := hD.flat
    refine ⟨ws, h1, h3, ?_⟩
    intro P m hm
    have hms : m * sz ≤ els.length * sz := Nat.mul_le_mul_right _ hm
    refine run_loadCells P w b o (m * sz) (ws.take (m * sz)) (by simp; omega) ?_
    intro k hk
    rw [h2 k (by omega), List.getElem?_take, if_pos hk]
  unfold aElems at h
  split at h
  · rename_i b off len
    obtain ⟨cap, rfl, hb, hl, hcap⟩ := hx.slice_inv
    split at h
    · rename_i sz' els' hg
      split at h
      · rename_i hc
        obtain ⟨rfl, hc⟩ := hc
        cases h
        obtain ⟨hs, hD⟩ := (hR.live b _ hg).1.cells_rd
        have hD' := (hD.drop off).take len
        have hlen : ((els'.drop off).take len).length = len := by simp; omega
        rw [← hs] at hD' ⊢
        obtain ⟨ws, q1, q2, q3⟩ := load (ι b).blk ((ι b).base + off * (ι b).sz) cap (by simpa [hs] using hD')
        rw [hlen] at q3
        rw [hlen]
        exact ⟨_, cap, rfl, ws, by rw [q1, hlen]; simp [hs], by simpa [hs] using q2, by simpa [hs] using q3⟩
      · cases h
    · cases h
  · rename_i b off len
    obtain ⟨rfl, hb, hcap⟩ := hx.view_inv
    split at h
    · rename_i sz' els' hg
      split at h
      · rename_i hc
        obtain ⟨rfl, hc⟩ := hc
        cases h
        obtain ⟨hs, hD⟩ := (hR.live b _ hg).1.cells_rd
        have hD' := (hD.drop off).take len
        have hlen : ((els'.drop off).take len).length = len := by simp; omega
        rw [← hs] at hD' ⊢
        obtain ⟨ws, q1, q2, q3⟩ := load (ι b).blk ((ι b).base + off * (ι b).sz) len (by simpa [hs] using hD')
        rw [hlen] at q3
        rw [hlen]
        exact ⟨_, len, rfl, ws, by rw [q1, hlen]; simp [hs], by simpa [hs] using q2, by simpa [hs] using q3⟩
      · cases h
    · cases h
  · rename_i b off
    obtain ⟨o, cap, rfl, _⟩ := hx.endS_inv
    cases h
    refine ⟨_, cap, rfl, [], by simp, .nil _ _ _, ?_⟩
    intro P m hm
    have hm0 : m = 0 := by simpa using hm
    exact run_loadCells P w (ι b).blk o (m * sz) (([] : List Value).take (m * sz)) (by simp [hm0]) (by intro k hk; simp [hm0] at hk)
  · rename_i sz' tt els'
    obtain ⟨b, o, cap, rfl, hl, hD, _⟩ := hx.data_inv
    split at h
    · rename_i hsz
      subst hsz
      cases h
      obtain ⟨ws, q1, q2, q3⟩ := load b o cap (hD.ext (Ext.refl _ _ _) (rd_imm hR.imm b))
      exact ⟨_, cap, rfl, ws, q1, q2, q3⟩
    · cases h
  · obtain rfl := hx.sc_inv
    cases h
    refine ⟨none, 0, rfl, [], by simp, .nil _ _ _, ?_⟩
    intro P m hm
    simp [Builtin.firstCells]
  · cases h

end
end Abs

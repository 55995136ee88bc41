/-
  Part of the abstract layer (E): values, stores and steps that stand for those of the model, and the proof that they do. It proves no statement by itself.
-/
import Derived.Test.YtmimfnjcnndhpaaGreatAbsD
noncomputable section
namespace Abs
set_option linter.unusedVariables false
set_option linter.unusedSimpArgs false
set_option linter.unusedSectionVars false
open Go

/-- What an operation that gives a value comes to. -/
def SndV (E : Env) (ι : Inj) (H : Imm) (σ : AStore) (r : Result Value) (v : AVal) (σ' : AStore) : Prop :=
  ∃ v' w' ι' H', r = .ok v' w' ∧ VRel σ'.next ι' H' v v' ∧ Rel E ι' H' σ' w' ∧ Ext σ.next ι H σ'.next ι' H'

/-- .. and what is told of a new block's type. -/
def SndT (tg : Bool) (el : Nat) (E : Env) (ι : Inj) (H : Imm) (σ : AStore) (r : Result Value) (v : AVal) (σ' : AStore) : Prop :=
  ∃ v' w' ι' H', r = .ok v' w' ∧ VRel σ'.next ι' H' v v' ∧ Rel E ι' H' σ' w' ∧ Ext σ.next ι H σ'.next ι' H' ∧ (tg = true → σ'.next = σ.next + 1 → (ι' σ.next).el = el ∧ (ι' σ.next).base = 0)

theorem SndT.snd {tg : Bool} {el : Nat} {E : Env} {ι : Inj} {H : Imm} {σ σ' : AStore} {r : Result Value} {v : AVal} (h : SndT tg el E ι H σ r v σ') : SndV E ι H σ r v σ' := by
  obtain ⟨v', w', ι', H', h1, h2, h3, h4, _⟩ := h
  exact ⟨v', w', ι', H', h1, h2, h3, h4⟩

/-- The result with its tag. -/
def tagNew (tg : Bool) (t : Nat) (σ : AStore) : Option (AVal × AStore) → Option (AVal × AStore)
  | some (p, σ') => match tg && Nat.beq σ'.next (Nat.succ σ.next) with
    | true => some (p, σ'.tag σ.next t)
    | false => some (p, σ')
  | none => none

theorem SndT.tag {tg : Bool} {el : Nat} {E : Env} {ι : Inj} {H : Imm} {σ σ' : AStore} {r : Result Value} {v : AVal} {o : Option (AVal × AStore)} (h : ∀ v σ', o = some (v, σ') → SndT tg el E ι H σ r v σ') (ho : tagNew tg el σ o = some (v, σ')) :
    SndV E ι H σ r v σ' := by
  unfold tagNew at ho
  split at ho
  · rename_i p σ1
    split at ho
    · rename_i hc
      cases ho
      rw [Bool.and_eq_true] at hc
      have hn : σ1.next = σ.next + 1 := Nat.eq_of_beq_eq_true hc.2
      obtain ⟨v', w', ι', H', h1, h2, h3, h4, h5⟩ := h _ _ rfl
      obtain ⟨g1, g2⟩ := h5 hc.1 hn
      exact ⟨v', w', ι', H', h1, h2, h3.tag (by omega) g1 g2, h4⟩
    · cases ho
      exact (h _ _ rfl).snd
  · cases ho

theorem tagNew_false {t : Nat} {σ : AStore} : ∀ {o : Option (AVal × AStore)}, tagNew false t σ o = o
  | some _ => rfl
  | none => rfl

theorem SndT.weak {tg : Bool} {el : Nat} {E : Env} {ι : Inj} {H : Imm} {σ σ' : AStore} {r : Result Value} {v : AVal} (h : SndT tg el E ι H σ r v σ') : SndT false el E ι H σ r v σ' := by
  obtain ⟨v', w', ι', H', h1, h2, h3, h4, _⟩ := h
  exact ⟨v', w', ι', H', h1, h2, h3, h4, fun hh => by cases hh⟩

theorem SndT.same {tg : Bool} {el : Nat} {E : Env} {ι : Inj} {H : Imm} {σ : AStore} {w : World} (hR : Rel E ι H σ w) {r : Result Value} {v : AVal} {v' : Value} (hr : r = .ok v' w)
    (hv : VRel σ.next ι H v v') : SndT tg el E ι H σ r v σ := ⟨v', w, ι, H, hr, hv, hR, Ext.refl _ _ _, fun _ hh => by omega⟩

theorem SndV.same {E : Env} {ι : Inj} {H : Imm} {σ : AStore} {w : World} (hR : Rel E ι H σ w) {r : Result Value} {v : AVal} {v' : Value} (hr : r = .ok v' w)
    (hv : VRel σ.next ι H v v') : SndV E ι H σ r v σ := ⟨v', w, ι, H, hr, hv, hR, Ext.refl _ _ _⟩

/-- Is the type of the new row known? -/
def hasTy (l : List (Nat × Nat)) (b t : Nat) : Bool := l.any fun p => Nat.beq p.1 b && Nat.beq p.2 t
theorem hasTy_mem {l : List (Nat × Nat)} {b t : Nat} (h : hasTy l b t = true) : (b, t) ∈ l := by
  unfold hasTy at h
  rw [List.any_eq_true] at h
  obtain ⟨⟨x, y⟩, h1, h2⟩ := h
  rw [Bool.and_eq_true] at h2
  obtain rfl := Nat.eq_of_beq_eq_true h2.1
  obtain rfl := Nat.eq_of_beq_eq_true h2.2
  exact h1
def tagS (σ : AStore) (s : AVal) (el : Nat) : Bool :=
  match s with
  | .sc (.slice none 0 0) => true
  | .slice b 0 _ => hasTy σ.tys b el
  | _ => false

/-- A block is given up, and its place is written. -/
theorem Rel.give {E : Env} {ι : Inj} {H : Imm} {σ : AStore} {w : World} (h : Rel E ι H σ w) {b : Nat} {x : ABlk} (hb : σ.get b = some x) {o : Obj} (ho : ∀ es clock, o ≠ .map es clock) :
    Rel E ι H (σ.del b) { w with heap := w.heap.setIfInBounds (ι b).blk o } := by
  obtain ⟨l1, l2, l3⟩ := h.live b _ hb
  have hget : ∀ b' y, (σ.del b).get b' = some y → b' ≠ b ∧ σ.get b' = some y := by
    intro b' y hy
    rw [AStore.get_del] at hy
    split at hy
    · cases hy
    · rename_i hne; exact ⟨hne, hy⟩
  refine ⟨?_, ?_, ?_, h.glob, ⟨h.keep.1, h.keep.2⟩, h.tys⟩
  · intro c o' hc
    have hne : (ι b).blk ≠ c := by intro e; subst e; rw [l2] at hc; cases hc
    simp [hne, h.imm c o' hc]
  · intro b' y hy
    obtain ⟨hne, hy⟩ := hget b' y hy
    obtain ⟨h1, h2, h3⟩ := h.live b' _ hy
    have hne' : (ι b).blk ≠ (ι b').blk := fun hc => hne (h.inj b b' _ _ hb hy hc).symm
    refine ⟨?_, h2, by simpa using h3⟩
    cases y with
    | miter m since seen =>
      obtain ⟨⟨g0, g0', g0''⟩, s', se', st2, q1, q2, q3, q4⟩ := h1
      refine ⟨⟨g0, by simpa using g0', g0''⟩, s', se', st2, by simp [hne']; exact q1, q2, q3, ?_⟩
      intro es clock hh
      by_cases hm : (ι b).blk = (ι m).blk
      · rw [← hm] at hh
        simp [l3] at hh
        exact absurd hh (ho es clock)
      · simp [hm] at hh
        exact q4 es clock hh
    | _ => exact BlkRel.ext (Ext.refl _ _ _) h1 (by simp [hne']) (by simp) (by simp)
  · intro b1 b2 x1 x2 h1 h2 hh
    exact h.inj b1 b2 x1 x2 (hget _ _ h1).2 (hget _ _ h2).2 hh

section
variable {E : Env} {ι : Inj} {H : Imm} {σ σ' : AStore} {w : World}

/-! ### New variables -/

def aNew (v : AVal) (σ : AStore) : Option (AVal × AStore) :=
  if v.fit then some (.ptr σ.next 0 0, σ.alloc (.cells v.cells.length [v])) else none

theorem World.heap_push_get (w : World) (o : Obj) : (w.heap.push o)[w.heap.size]? = some o := by simp

theorem CRel.of_LRel {n : Nat} {ι : Inj} {H : Imm} {vs : List AVal} {c : Array Value} (h : LRel n ι H vs c.toList) : CRel n ι H (c[·]?) vs 0 :=
  CRel.of_list h (fun k _ => by simp)

theorem DRel.single {n : Nat} {ι : Inj} {H : Imm} {g : Nat → Option Value} {v : AVal} {o sz : Nat} (h : CRel n ι H g v.cells o) (hs : v.cells.length = sz) : DRel n ι H g sz [v] o := by
  apply DRel.of_get
  intro i e he
  match i, he with
  | 0, he => simp at he; subst he; simpa using ⟨h, hs⟩
  | i + 1, he => simp at he

theorem aNew_sound (hR : Rel E ι H σ w) (t : TypeId) {v p : AVal} {v' : Value} (hv : VRel σ.next ι H v v') (h : aNew v σ = some (p, σ')) :
    SndT true t E ι H σ ((do pure (.pointer (some (← newVar t v'))) : Sem Value).run E.P w) p σ' := by
  unfold aNew at h
  split at h
  · rename_i hf
    cases h
    have hc := hv.cells' hf
    refine ⟨.pointer (some ⟨w.heap.size, 0, none⟩), { w with heap := w.heap.push (.cells v'.cells t) }, upd ι σ.next ⟨w.heap.size, 0, v.cells.length, 1, t⟩, H, rfl, ?_, ?_, Ext.upd _ _ _ _, fun _ _ => by simp [upd_self]⟩
    · have := VRel.ptr (n := (σ.alloc (.cells v.cells.length [v])).next) (ι := upd ι σ.next ⟨w.heap.size, 0, v.cells.length, 1, t⟩) (H := H) σ.next 0 0 (by simp [AStore.alloc])
      simpa [upd_self] using this
    · refine hR.alloc rfl ?_
      refine ⟨rfl, by simp, v'.cells, t, (0, 0), by simp, ?_, ?_, ?_, rfl⟩
      · intro o _; simp
      · have := hc.length; simp at this; simp [this]
      · exact DRel.single (CRel.of_LRel hc) rfl
  · cases h

/-! ### Addresses -/

def aField (off : Nat) (p : AVal) : Option AVal :=
  match p with
  | .ptr b i k => some (.ptr b i (k + off))
  | .iptr cs => some (.iptr (cs.drop off))
  | _ => none

theorem aField_sound (hR : Rel E ι H σ w) {s : TypeId} {i : TyI} (hs : E.ty s = some i) {fs : Array Field} (hd : i.desc = .struct fs) {f : Nat} {fd : Field} (hf : fs[f]? = some fd)
    {j : TyI} (ht : E.ty fd.type = some j) (hj : j.size ≠ 0) {p q : AVal} {p' : Value} (hp : VRel σ.next ι H p p') (h : aField fd.offset p = some q) :
    SndV E ι H σ ((Instr.fieldAt s p' f).run E.P w) q σ := by
  unfold aField at h
  split at h
  · rename_i b i k
    obtain ⟨hb, rfl⟩ := hp.ptr_inv
    cases h
    refine SndV.same hR (v' := .pointer (some ⟨(ι b).blk, (ι b).base + i * (ι b).sz + (k + fd.offset), none⟩)) ?_ (.ptr _ _ _ hb)
    simp [Instr.fieldAt, run_underlying E.ok hs, hd, hf, Instr.sureAddr, fieldPlace, run_sizeOf E.ok ht, hj, add_mk, Nat.add_assoc]
  · rename_i cs
    obtain ⟨b, o, rfl, hc⟩ := hp.iptr_inv
    cases h
    refine SndV.same hR (v' := .pointer (some ⟨b, o + fd.offset, none⟩)) ?_ (.iptr _ _ _ (hc.drop _))
    simp [Instr.fieldAt, run_underlying E.ok hs, hd, hf, Instr.sureAddr, fieldPlace, run_sizeOf E.ok ht, hj, add_mk]
  · cases h

/-- An index is in range. -/
def aIdx (ix : AVal) (len : Nat) : Option Nat :=
  match ix with
  | .sc (.int _ i) => if 0 ≤ i ∧ i < len then some i.toNat else none
  | _ => none

theorem aIdx_some {ix : AVal} {len j : Nat} (h : aIdx ix len = some j) : ∃ k i, ix = .sc (.int k i) ∧ 0 ≤ i ∧ i < len ∧ j = i.toNat := by
  unfold aIdx at h
  split at h
  · rename_i k i
    split at h
    · rename_i hc; cases h; exact ⟨k, i, rfl, hc.1, hc.2, rfl⟩
    · cases h
  · cases h

def aIndexS (sz : Nat) (x ix : AVal) (σ : AStore) : Option AVal :=
  match x with
  | .slice b off len =>
    match σ.get b with
    | some (.cells sz' _) => if sz' = sz then (aIdx ix len).map fun j => .ptr b (off + j) 0 else none
    | _ => none
  | .view b off len =>
    match σ.get b with
    | some (.cells sz' _) => if sz' = sz then (aIdx ix len).map fun j => .ptr b (off + j) 0 else none
    | _ => none
  | .data sz' _ els => if sz' = sz then
      match aIdx ix els.length with
      | some j => (els[j]?).map fun e => .iptr e.cells
      | none => none
    else none
  | _ => none

theorem aIndexS_sound (hR : Rel E ι H σ w) {t : TypeId} {i : TyI} (hs : E.ty t = some i) {el : TypeId} (hd : i.desc = .slice el) {j : TyI} (ht : E.ty el = some j)
    {x ix q : AVal} {x' ix' : Value} (hx : VRel σ.next ι H x x') (hix : VRel σ.next ι H ix ix') (h : aIndexS j.size x ix σ = some q) :
    SndV E ι H σ ((Instr.indexAt t x' ix').run E.P w) q σ := by
  unfold aIndexS at h
  split at h
  · rename_i b off len
    obtain ⟨cap, rfl, hb, hl, hcap⟩ := hx.slice_inv
    split at h
    · rename_i sz' els hg
      split at h
      · rename_i hsz
        subst hsz
        cases hm : aIdx ix len with
        | none => simp [hm] at h
        | some m =>
          simp [hm] at h
          subst h
          obtain ⟨k, z, rfl, h0, h1, rfl⟩ := aIdx_some hm
          obtain rfl := hix.sc_inv
          have hsz := ((hR.live b _ hg).1).1
          refine SndV.same hR (v' := .pointer (some ⟨(ι b).blk, (ι b).base + (off + z.toNat) * (ι b).sz + 0, none⟩)) ?_ (.ptr _ _ _ hb)
          simp [Instr.indexAt, asIntOf, run_underlying E.ok hs, hd, h0, h1, run_sizeOf E.ok ht, add_mk, hsz, Nat.add_mul, Nat.add_assoc]
      · cases h
    · cases h
  · rename_i b off len
    obtain ⟨rfl, hb, hcap⟩ := hx.view_inv
    split at h
    · rename_i sz' els hg
      split at h
      · rename_i hsz
        subst hsz
        cases hm : aIdx ix len with
        | none => simp [hm] at h
        | some m =>
          simp [hm] at h
          subst h
          obtain ⟨k, z, rfl, h0, h1, rfl⟩ := aIdx_some hm
          obtain rfl := hix.sc_inv
          have hsz := ((hR.live b _ hg).1).1
          refine SndV.same hR (v' := .pointer (some ⟨(ι b).blk, (ι b).base + (off + z.toNat) * (ι b).sz + 0, none⟩)) ?_ (.ptr _ _ _ hb)
          simp [Instr.indexAt, asIntOf, run_underlying E.ok hs, hd, h0, h1, run_sizeOf E.ok ht, add_mk, hsz, Nat.add_mul, Nat.add_assoc]
      · cases h
    · cases h
  · rename_i sz' tt els
    obtain ⟨b, o, cap, rfl, hl, hD, _⟩ := hx.data_inv
    split at h
    · rename_i hsz
      subst hsz
      split at h
      · rename_i m hm
        obtain ⟨k, z, rfl, h0, h1, rfl⟩ := aIdx_some hm
        obtain rfl := hix.sc_inv
        cases he : els[z.toNat]? with
        | none => simp [he] at h
        | some e =>
          simp [he] at h
          subst h
          obtain ⟨q1, q2⟩ := hD.get he
          refine SndV.same hR (v' := .pointer (some ⟨b, o + z.toNat * j.size, none⟩)) ?_ (.iptr _ _ _ q1)
          simp [Instr.indexAt, asIntOf, run_underlying E.ok hs, hd, h0, h1, run_sizeOf E.ok ht, add_mk]
      · cases h
    · cases h
  · cases h

def aIndexA (len sz : Nat) (x ix : AVal) : Option AVal :=
  match aIdx ix len with
  | some j => aField (j * sz) x
  | none => none

theorem aIndexA_sound (hR : Rel E ι H σ w) {t : TypeId} {i : TyI} (hs : E.ty t = some i) {len : Nat} {el : TypeId} (hd : i.desc = .array len el) {j : TyI} (ht : E.ty el = some j)
    {x ix q : AVal} {x' ix' : Value} (hx : VRel σ.next ι H x x') (hix : VRel σ.next ι H ix ix') (h : aIndexA len j.size x ix = some q) :
    SndV E ι H σ ((Instr.indexAt t x' ix').run E.P w) q σ := by
  unfold aIndexA at h
  split at h
  · rename_i m hm
    obtain ⟨k, z, rfl, h0, h1, rfl⟩ := aIdx_some hm
    obtain rfl := hix.sc_inv
    unfold aField at h
    split at h
    · rename_i b i k
      obtain ⟨hb, rfl⟩ := hx.ptr_inv
      cases h
      refine SndV.same hR (v' := .pointer (some ⟨(ι b).blk, (ι b).base + i * (ι b).sz + (k + z.toNat * j.size), none⟩)) ?_ (.ptr _ _ _ hb)
      simp [Instr.indexAt, asIntOf, Instr.sureAddr, run_underlying E.ok hs, hd, h0, h1, run_sizeOf E.ok ht, add_mk, Nat.add_assoc]
    · rename_i cs
      obtain ⟨b, o, rfl, hc⟩ := hx.iptr_inv
      cases h
      refine SndV.same hR (v' := .pointer (some ⟨b, o + z.toNat * j.size, none⟩)) ?_ (.iptr _ _ _ (hc.drop _))
      simp [Instr.indexAt, asIntOf, Instr.sureAddr, run_underlying E.ok hs, hd, h0, h1, run_sizeOf E.ok ht, add_mk]
    · cases h
  · cases h

/-! ### Parts of aggregates -/

def aPart (isA : Bool) (m k : Nat) (x : AVal) : Option AVal :=
  match x with
  | .agg cs => loadCs isA m k cs
  | _ => none

theorem run_part {t : TypeId} {i : TyI} (ht : E.ty t = some i) {n : Nat} {cs : List AVal} {cs' : List Value} (h : LRel n ι H cs cs') {k : Nat} {v : AVal} (hl : loadCs i.isA i.size k cs = some v) :
    ∃ v', (part t cs'.toArray k).run E.P w = .ok v' w ∧ VRel n ι H v v' := by
  unfold loadCs at hl
  by_cases hA : i.isA = true
  · rw [if_pos hA] at hl
    split at hl
    · rename_i hk
      cases hl
      refine ⟨.agg ((cs'.drop k).take i.size).toArray, ?_, .agg _ _ ((h.drop k).take i.size)⟩
      simp [part, run_isAgg E.ok ht, hA, run_sizeOf E.ok ht, List.extract_toArray]
    · cases hl
  · rw [if_neg hA] at hl
    obtain ⟨v', h1, h2⟩ := h.get hl
    refine ⟨v', ?_, h2⟩
    simp [part, run_isAgg E.ok ht, hA, h1]

theorem aPart_field_sound (hR : Rel E ι H σ w) {s : TypeId} {i : TyI} (hs : E.ty s = some i) {fs : Array Field} (hd : i.desc = .struct fs) {f : Nat} {fd : Field} (hf : fs[f]? = some fd)
    {j : TyI} (ht : E.ty fd.type = some j) {x q : AVal} {x' : Value} (hx : VRel σ.next ι H x x') (h : aPart j.isA j.size fd.offset x = some q) :
    SndV E ι H σ ((Instr.field s x' f).run E.P w) q σ := by
  unfold aPart at h
  split at h
  · obtain ⟨cs', rfl, hc⟩ := hx.agg_inv
    obtain ⟨v', h1, h2⟩ := run_part (E := E) (w := w) ht hc h
    refine SndV.same hR (v' := v') ?_ h2
    simp [Instr.field, run_underlying E.ok hs, hd, hf, asAgg, h1]
  · cases h

def aIndexV (len : Nat) (isA : Bool) (m : Nat) (x ix : AVal) : Option AVal :=
  match aIdx ix len with
  | some j => aPart isA m (j * m) x
  | none => none

theorem aIndexV_sound (hR : Rel E ι H σ w) {t : TypeId} {i : TyI} (hs : E.ty t = some i) {len : Nat} {el : TypeId} (hd : i.desc = .array len el) {j : TyI} (ht : E.ty el = some j)
    {x ix q : AVal} {x' ix' : Value} (hx : VRel σ.next ι H x x') (hix : VRel σ.next ι H ix ix') (h : aIndexV len j.isA j.size x ix = some q) :
    SndV E ι H σ ((Instr.index t x' ix').run E.P w) q σ := by
  unfold aIndexV at h
  split at h
  · rename_i m hm
    obtain ⟨k, z, rfl, h0, h1, rfl⟩ := aIdx_some hm
    obtain rfl := hix.sc_inv
    unfold aPart at h
    split at h
    · obtain ⟨cs', rfl, hc⟩ := hx.agg_inv
      obtain ⟨v', g1, g2⟩ := run_part (E := E) (w := w) ht hc h
      refine SndV.same hR (v' := v') ?_ g2
      simp [Instr.index, asIntOf, run_underlying E.ok hs, hd, h0, h1, run_sizeOf E.ok ht, g1]
    · cases h
  · cases h

def aIndexStr (x ix : AVal) : Option AVal :=
  match x, ix with
  | .sc (.string s), .sc (.int _ i) => if 0 ≤ i then (s[i.toNat]?).map fun b => .sc (.int .u8 b.toNat) else none
  | _, _ => none

theorem aIndexStr_sound (hR : Rel E ι H σ w) {t : TypeId} {i : TyI} (hs : E.ty t = some i) (hd : i.desc = .string)
    {x ix q : AVal} {x' ix' : Value} (hx : VRel σ.next ι H x x') (hix : VRel σ.next ι H ix ix') (h : aIndexStr x ix = some q) :
    SndV E ι H σ ((Instr.index t x' ix').run E.P w) q σ := by
  unfold aIndexStr at h
  split at h
  · rename_i s k z
    obtain rfl := hx.sc_inv
    obtain rfl := hix.sc_inv
    split at h
    · rename_i h0
      cases hz : s[z.toNat]? with
      | none => simp [hz] at h
      | some b =>
        simp [hz] at h
        subst h
        refine SndV.same hR (v' := .int .u8 b.toNat) ?_ (.sc _)
        simp [Instr.index, asIntOf, run_underlying E.ok hs, hd, h0, hz]
    · cases h
  · cases h
end
end Abs

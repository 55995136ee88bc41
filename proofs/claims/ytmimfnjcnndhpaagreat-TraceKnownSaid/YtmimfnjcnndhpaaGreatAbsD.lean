/-
  Part of the abstract layer (D): values, stores and steps that stand for those of the model, and the proof that they do. It proves no statement by itself.
-/
import Derived.Test.YtmimfnjcnndhpaaGreatAbsC
noncomputable section
namespace Abs
set_option linter.unusedVariables false
set_option linter.unusedSimpArgs false
set_option linter.unusedSectionVars false
open Go


section inv
variable {n : Nat} {ι : Inj} {H : Imm} {w : Value}
theorem VRel.sc_inv {v : Value} (h : VRel n ι H (.sc v) w) : w = v := by cases h; rfl
theorem VRel.iptr_inv {cs : List AVal} (h : VRel n ι H (.iptr cs) w) : ∃ b o, w = .pointer (some ⟨b, o, none⟩) ∧ CRel n ι H (H.cell? b) cs o := by
  cases h; exact ⟨_, _, rfl, by assumption⟩
theorem VRel.ptr_inv {b i k : Nat} (h : VRel n ι H (.ptr b i k) w) : b < n ∧ w = .pointer (some ⟨(ι b).blk, (ι b).base + i * (ι b).sz + k, none⟩) := by
  cases h; exact ⟨by assumption, rfl⟩
theorem VRel.slice_inv {b off len : Nat} (h : VRel n ι H (.slice b off len) w) : ∃ cap, w = .slice (some ⟨(ι b).blk, (ι b).base + off * (ι b).sz, none⟩) len cap ∧
    b < n ∧ len ≤ cap ∧ off + cap = (ι b).cap := by cases h; exact ⟨_, rfl, by assumption, by assumption, by assumption⟩
theorem VRel.view_inv {b off len : Nat} (h : VRel n ι H (.view b off len) w) : w = .slice (some ⟨(ι b).blk, (ι b).base + off * (ι b).sz, none⟩) len len ∧
    b < n ∧ off + len ≤ (ι b).cap := by cases h; exact ⟨rfl, by assumption, by assumption⟩
theorem VRel.endS_inv {b off : Nat} (h : VRel n ι H (.endS b off) w) : ∃ o cap, w = .slice (some ⟨(ι b).blk, o, none⟩) 0 cap ∧
    b < n ∧ off + cap = (ι b).cap ∧ (cap ≠ 0 → o = (ι b).base + off * (ι b).sz) := by cases h; exact ⟨_, _, rfl, by assumption, by assumption, by assumption⟩
theorem VRel.data_inv {sz : Nat} {t : Bool} {els : List AVal} (h : VRel n ι H (.data sz t els) w) : ∃ b o cap, w = .slice (some ⟨b, o, none⟩) els.length cap ∧ els.length ≤ cap ∧
    DRel n ι H (H.cell? b) sz els o ∧ (t = true → cap = els.length) := by cases h; subst_vars; exact ⟨_, _, _, rfl, by assumption, by assumption, by assumption⟩
theorem VRel.map_inv {b : Nat} (h : VRel n ι H (.map b) w) : b < n ∧ w = .map (some (ι b).blk) := by cases h; exact ⟨by assumption, rfl⟩
theorem VRel.yld_inv {b : Nat} (h : VRel n ι H (.yld b) w) : w = .func (.yield (ι b).blk) #[] #[] ∧ b < n := by cases h; exact ⟨rfl, by assumption⟩
theorem VRel.func_inv {fn : Fn} {fs cs : List AVal} (h : VRel n ι H (.func fn fs cs) w) : ∃ fs' cs' : List Value, w = .func fn fs'.toArray cs'.toArray ∧ LRel n ι H fs fs' ∧ LRel n ι H cs cs' := by
  cases h; exact ⟨_, _, rfl, by assumption, by assumption⟩
theorem VRel.iface_inv {t : TypeId} {v : AVal} (h : VRel n ι H (.iface t v) w) : ∃ v', w = .iface t v' ∧ VRel n ι H v v' := by cases h; exact ⟨_, rfl, by assumption⟩
theorem VRel.agg_inv {cs : List AVal} (h : VRel n ι H (.agg cs) w) : ∃ cs' : List Value, w = .agg cs'.toArray ∧ LRel n ι H cs cs' := by cases h; exact ⟨_, rfl, by assumption⟩
theorem VRel.tuple_inv {cs : List AVal} (h : VRel n ι H (.tuple cs) w) : ∃ cs' : List Value, w = .tuple cs'.toArray ∧ LRel n ι H cs cs' := by cases h; exact ⟨_, rfl, by assumption⟩
end inv

section types
variable {P : Program} {ty : Nat → Option TyI} (hty : TyOk P ty) {t : TypeId} {i : TyI} (h : ty t = some i) (w : World)
include hty h
theorem run_underlying : (underlying t).run P w = .ok i.desc w := by
  simp [underlying, (hty t i h).1]
theorem run_isAgg : (isAgg t).run P w = .ok i.isA w := by
  simp only [isAgg, Sem.run_bind, run_underlying hty h, Result.andThen_ok]
  unfold TyI.isA
  split <;> simp_all
theorem run_typeInfo : ∃ info, (typeInfo t).run P w = .ok info w ∧ info.size = i.size ∧ info.bytes = i.bytes ∧ info.zero = some i.zero := by
  obtain ⟨_, info, h1, h2, h3, h4⟩ := hty t i h
  exact ⟨info, by simp [typeInfo, h1], h2, h3, h4⟩
theorem run_sizeOf : (Go.sizeOf t).run P w = .ok i.size w := by
  obtain ⟨info, h1, h2, _⟩ := run_typeInfo hty h w
  simp [Go.sizeOf, h1, h2]
theorem run_zeroValue : (zeroValue t).run P w = .ok i.zero w := by
  obtain ⟨info, h1, h2, h3, h4⟩ := run_typeInfo hty h w
  simp [zeroValue, h1, h4]
theorem run_loadVar (b o : Nat) (hr : i.isA = true) (ws : List Value) (hl : ws.length = i.size) (hg : ∀ k, k < i.size → rd w b (o + k) = ws[k]?) :
    (loadVar t ⟨b, o, none⟩).run P w = .ok (.agg ws.toArray) w := by
  simp only [loadVar, Sem.run_bind, run_isAgg hty h, Result.andThen_ok, hr, if_true, run_sizeOf hty h, run_loadCells P w b o i.size ws hl hg, Sem.run_pure]
theorem run_loadVar_one (b o : Nat) (hr : i.isA = false) (v : Value) (hg : rd w b o = some v) :
    (loadVar t ⟨b, o, none⟩).run P w = .ok v w := by
  have : w.cell? ⟨b, o, none⟩ = some v := hg
  simp only [loadVar, Sem.run_bind, run_isAgg hty h, Result.andThen_ok, hr, Bool.false_eq_true, if_false, run_load, this]
end types

/-- A constant. -/
def absV : Value → AVal
  | .agg cs => .agg (cs.toList.map .sc)
  | v => .sc v

theorem absV_rel (n : Nat) (ι : Inj) (H : Imm) (v : Value) : VRel n ι H (absV v) v := by
  cases v with
  | agg cs => exact .agg _ cs.toList (LRel.sc _)
  | _ => exact .sc _

/-- Not an aggregate as a bare scalar. -/
def AVal.fit : AVal → Bool
  | .sc (.agg _) => false
  | _ => true

theorem VRel.cells' {n : Nat} {ι : Inj} {H : Imm} {v : AVal} {w : Value} (h : VRel n ι H v w) (hs : v.fit = true) : LRel n ι H v.cells w.cells.toList := by
  have one : ∀ {v : AVal} {w : Value}, VRel n ι H v w → v.cells = [v] → w.cells = #[w] → LRel n ι H v.cells w.cells.toList := by
    intro v w h h1 h2
    rw [h1, h2]; exact .cons _ _ _ _ h .nil
  cases v with
  | agg cs => obtain ⟨cs', rfl, h'⟩ := h.agg_inv; simpa [AVal.cells, Value.cells] using h'
  | sc v => obtain rfl := h.sc_inv; cases w <;> first | exact one h rfl rfl | simp [AVal.fit] at hs
  | ptr b i k => obtain ⟨_, rfl⟩ := h.ptr_inv; exact one h rfl rfl
  | iptr cs => obtain ⟨_, _, rfl, _⟩ := h.iptr_inv; exact one h rfl rfl
  | slice b o l => obtain ⟨_, rfl, _⟩ := h.slice_inv; exact one h rfl rfl
  | view b o l => obtain ⟨rfl, _⟩ := h.view_inv; exact one h rfl rfl
  | endS b o => obtain ⟨_, _, rfl, _⟩ := h.endS_inv; exact one h rfl rfl
  | data sz t els => obtain ⟨_, _, _, rfl, _⟩ := h.data_inv; exact one h rfl rfl
  | map b => obtain ⟨_, rfl⟩ := h.map_inv; exact one h rfl rfl
  | yld b => obtain ⟨rfl, _⟩ := h.yld_inv; exact one h rfl rfl
  | func fn fs cs => obtain ⟨_, _, rfl, _⟩ := h.func_inv; exact one h rfl rfl
  | iface t v => obtain ⟨_, rfl, _⟩ := h.iface_inv; exact one h rfl rfl
  | tuple cs => obtain ⟨_, rfl, _⟩ := h.tuple_inv; exact one h rfl rfl

def AVal.isCell : AVal → Bool
  | .agg _ | .tuple _ => false
  | .sc v => isCellV v
  | _ => true

theorem VRel.isCell {n : Nat} {ι : Inj} {H : Imm} {v : AVal} {w : Value} (h : VRel n ι H v w) (hs : v.isCell = true) : isCellV w = true := by
  cases h <;> simp_all [AVal.isCell, isCellV]

theorem LRel.isCell {n : Nat} {ι : Inj} {H : Imm} : ∀ {vs : List AVal} {ws : List Value}, LRel n ι H vs ws → vs.all AVal.isCell = true → ∀ w ∈ ws, isCellV w = true
  | _, _, .nil, _, _, h => by simp at h
  | _, _, .cons v w vs ws h hs, ha, x, hx => by
      simp at ha hx
      rcases hx with rfl | hx
      · exact h.isCell ha.1
      · exact hs.isCell (by simpa using ha.2) x hx

/-! ### Loads and stores -/

def loadCs (isA : Bool) (m k : Nat) (cs : List AVal) : Option AVal :=
  if isA then (if k + m ≤ cs.length then some (.agg ((cs.drop k).take m)) else none) else cs[k]?

def aLoad (isA : Bool) (m : Nat) (p : AVal) (σ : AStore) : Option AVal :=
  match p with
  | .iptr cs => loadCs isA m 0 cs
  | .ptr b i k =>
    match σ.get b with
    | some (.cells _ els) =>
      match els[i]? with
      | some e => loadCs isA m k e.cells
      | none => none
    | _ => none
  | _ => none

theorem loadCs_sound {P : Program} {ty : Nat → Option TyI} (hty : TyOk P ty) {t : TypeId} {i : TyI} (h : ty t = some i) {n : Nat} {ι : Inj} {H : Imm} {w : World} {b o k : Nat}
    {cs : List AVal} {v : AVal} (hc : CRel n ι H (rd w b) cs o) (hl : loadCs i.isA i.size k cs = some v) :
    ∃ v', (loadVar t ⟨b, o + k, none⟩).run P w = .ok v' w ∧ VRel n ι H v v' := by
  unfold loadCs at hl
  by_cases hA : i.isA = true
  · rw [if_pos hA] at hl
    split at hl
    · rename_i hk
      cases hl
      obtain ⟨ws, h1, h2⟩ := ((hc.drop k).take i.size).list
      have hlen : ((cs.drop k).take i.size).length = i.size := by simp; omega
      rw [hlen] at h2
      exact ⟨_, run_loadVar hty h w b (o + k) hA ws (by rw [← h1.length, hlen]) h2, .agg _ _ h1⟩
    · cases hl
  · rw [if_neg hA] at hl
    obtain ⟨v', h1, h2⟩ := hc.get hl
    exact ⟨v', run_loadVar_one hty h w b (o + k) (by simpa using hA) v' h1, h2⟩

theorem BlkRel.cells_rd {n : Nat} {ι : Inj} {H : Imm} {w : World} {p : Place} {sz : Nat} {els : List AVal} (h : BlkRel n ι H w p (.cells sz els)) :
    p.sz = sz ∧ DRel n ι H (rd w p.blk) sz els p.base := by
  obtain ⟨h1, _, c, e, fr, h2, _, _, h3, _⟩ := h
  exact ⟨h1, by rw [rd_cells h2]; exact h3⟩

theorem aLoad_sound {E : Env} {t : TypeId} {i : TyI} (h : E.ty t = some i) {ι : Inj} {H : Imm} {σ : AStore} {w : World} (hR : Rel E ι H σ w)
    {p : AVal} {p' : Value} (hp : VRel σ.next ι H p p') {v : AVal} (hl : aLoad i.isA i.size p σ = some v) :
    ∃ v', (Instr.loadAt t p').run E.P w = .ok v' w ∧ VRel σ.next ι H v v' := by
  unfold aLoad at hl
  split at hl
  · obtain ⟨b, o, rfl, hc⟩ := hp.iptr_inv
    have hc' : CRel σ.next ι H (rd w b) _ o := hc.ext (Ext.refl _ _ _) (rd_imm hR.imm b)
    obtain ⟨v', h1, h2⟩ := loadCs_sound E.ok h hc' hl
    exact ⟨v', by simpa [Instr.loadAt, Instr.sureAddr] using h1, h2⟩
  · rename_i b j k
    obtain ⟨hb, rfl⟩ := hp.ptr_inv
    split at hl
    · rename_i sz els hg
      split at hl
      · rename_i e he
        obtain ⟨hs, hd⟩ := (hR.live b _ hg).1.cells_rd
        obtain ⟨h1, h2⟩ := hd.get he
        obtain ⟨v', h3, h4⟩ := loadCs_sound E.ok h h1 hl
        refine ⟨v', ?_, h4⟩
        rw [hs]
        simpa [Instr.loadAt, Instr.sureAddr] using h3
      · cases hl
    · cases hl
  · cases hl

def spliceL (cs : List AVal) (k : Nat) : List AVal → List AVal
  | [] => cs
  | v :: vs => spliceL (cs.set k v) (k + 1) vs

theorem spliceL_length : ∀ (vs cs : List AVal) (k : Nat), (spliceL cs k vs).length = cs.length
  | [], _, _ => rfl
  | v :: vs, cs, k => by rw [spliceL, spliceL_length vs]; simp

theorem spliceL_get : ∀ (vs cs : List AVal) (o i : Nat), o + vs.length ≤ cs.length →
    (spliceL cs o vs)[i]? = if o ≤ i ∧ i < o + vs.length then vs[i - o]? else cs[i]?
  | [], cs, o, i, _ => by simp [spliceL]; intro h1 h2; omega
  | v :: vs, cs, o, i, h => by
      simp at h
      rw [spliceL, spliceL_get vs _ _ _ (by simp; omega)]
      by_cases h1 : o + 1 ≤ i ∧ i < o + 1 + vs.length
      · rw [if_pos h1, if_pos (by simp; omega)]
        rw [show i - o = (i - (o + 1)) + 1 by omega]; simp
      · rw [if_neg h1]
        by_cases h2 : o = i
        · subst h2
          rw [if_pos (by simp)]
          simp [show o < cs.length by omega]
        · rw [if_neg (by simp; omega)]
          simp [h2]

/-- The element behind a store of cells. -/
def storeEl (e : AVal) (k : Nat) (vs : List AVal) : AVal :=
  match e with
  | .agg cs => .agg (spliceL cs k vs)
  | e => (vs[0]?).getD e

theorem storeEl_cells {e : AVal} {k : Nat} {vs : List AVal} (hk : k + vs.length ≤ e.cells.length) (h0 : 0 < vs.length) (hc : vs.all AVal.isCell = true) :
    (storeEl e k vs).cells = spliceL e.cells k vs := by
  by_cases he : e.isAgg = true
  · cases e with
    | agg cs => rfl
    | _ => simp [AVal.isAgg] at he
  · have he' : e.isAgg = false := by simpa using he
    rw [AVal.cells_one he'] at hk ⊢
    simp at hk
    obtain rfl : k = 0 := by omega
    match vs, h0, hk, hc with
    | [x], _, _, hc =>
      have : storeEl e 0 [x] = x := by cases e <;> first | rfl | simp [AVal.isAgg] at he
      rw [this]
      simp at hc
      cases x <;> simp_all [AVal.isCell, AVal.cells, spliceL]
    | x :: y :: zs, _, hk, _ => simp at hk

def aStore (m : Nat) (p v : AVal) (σ : AStore) : Option AStore :=
  match p with
  | .ptr b i k =>
    match σ.get b with
    | some (.cells sz els) =>
      match els[i]? with
      | some e =>
        if v.cells.length = m ∧ 0 < m ∧ k + m ≤ e.cells.length ∧ v.cells.all AVal.isCell = true then some (σ.set b (.cells sz (els.set i (storeEl e k v.cells)))) else none
      | none => none
    | _ => none
  | _ => none

theorem CRel.congr {n : Nat} {ι : Inj} {H : Imm} {g g' : Nat → Option Value} : ∀ {vs : List AVal} {o : Nat}, CRel n ι H g vs o →
    (∀ k, o ≤ k → k < o + vs.length → g' k = g k) → CRel n ι H g' vs o
  | _, _, .nil _ o, _ => .nil _ o
  | _, _, .cons _ v w vs o ho h hs, hg => .cons g' v w vs o (by rw [hg o (Nat.le_refl _) (by simp), ho]) h
      (hs.congr (fun k h1 h2 => hg k (by omega) (by simp; omega)))

/-- One element is turned. -/
theorem DRel.upd {n : Nat} {ι : Inj} {H : Imm} {g g' : Nat → Option Value} {els : List AVal} {sz o i : Nat} {e' : AVal} (h : DRel n ι H g sz els o)
    (hg : ∀ j, (j < o + i * sz ∨ o + i * sz + sz ≤ j) → g' j = g j) (he : CRel n ι H g' e'.cells (o + i * sz)) (hl : e'.cells.length = sz) :
    DRel n ι H g' sz (els.set i e') o := by
  apply DRel.of_get
  intro j x hx
  rw [List.getElem?_set] at hx
  split at hx
  · rename_i hij
    split at hx
    · cases hx; subst hij; exact ⟨he, hl⟩
    · cases hx
  · rename_i hij
    obtain ⟨h1, h2⟩ := h.get hx
    refine ⟨h1.congr ?_, h2⟩
    intro k hk1 hk2
    apply hg
    rcases Nat.lt_or_gt_of_ne hij with hlt | hlt
    · right
      have : (i + 1) * sz ≤ j * sz := Nat.mul_le_mul_right _ hlt
      rw [Nat.add_mul] at this; omega
    · left
      have : (j + 1) * sz ≤ i * sz := Nat.mul_le_mul_right _ hlt
      rw [Nat.add_mul] at this; omega

theorem CRel.of_getElem {n : Nat} {ι : Inj} {H : Imm} {g : Nat → Option Value} : ∀ {vs : List AVal} {o : Nat},
    (∀ k v, vs[k]? = some v → ∃ w, g (o + k) = some w ∧ VRel n ι H v w) → CRel n ι H g vs o
  | [], _, _ => .nil _ _
  | v :: vs, o, h => by
      obtain ⟨w, h1, h2⟩ := h 0 v (by simp)
      refine .cons g v w vs o (by simpa using h1) h2 (CRel.of_getElem ?_)
      intro k x hx
      obtain ⟨w', h3, h4⟩ := h (k + 1) x (by simpa using hx)
      exact ⟨w', by rw [show o + 1 + k = o + (k + 1) by omega]; exact h3, h4⟩

theorem aStore_sound {E : Env} {t : TypeId} {i : TyI} (h : E.ty t = some i) {ι : Inj} {H : Imm} {σ σ' : AStore} {w : World} (hR : Rel E ι H σ w)
    {p v : AVal} {p' v' : Value} (hp : VRel σ.next ι H p p') (hv : VRel σ.next ι H v v') (hs : aStore i.size p v σ = some σ') :
    ∃ w', (Instr.storeAt t p' v').run E.P w = .ok () w' ∧ Rel E ι H σ' w' ∧ σ'.next = σ.next := by
  unfold aStore at hs
  split at hs
  · rename_i b j k
    obtain ⟨hb, rfl⟩ := hp.ptr_inv
    split at hs
    · rename_i sz els hg
      split at hs
      · rename_i e he
        split at hs
        · rename_i hc
          obtain ⟨hc1, hc2, hc3, hc4⟩ := hc
          cases hs
          obtain ⟨hb1, hb2, hb3⟩ := hR.live b _ hg
          obtain ⟨g1, g2, c, el, fr, g3, gf, g4, g5, g6⟩ := hb1
          have hfit : v.fit = true := by
            cases v with
            | sc x => cases x <;> simp_all [AVal.fit, AVal.cells, AVal.isCell, isCellV]
            | _ => rfl
          have hcs := hv.cells' hfit
          have hws := hcs.isCell hc4
          have hlen : v'.cells.toList.length = i.size := by rw [← hcs.length, hc1]
          have hjl : j < els.length := by
            rcases Nat.lt_or_ge j els.length with h' | h'
            · exact h'
            · simp [List.getElem?_eq_none h'] at he
          obtain ⟨q1, q2⟩ := g5.get he
          have hin : (ι b).base + j * sz + k + v'.cells.toList.length ≤ c.size := by
            have : (j + 1) * sz ≤ (ι b).cap * sz := Nat.mul_le_mul_right _ (by omega)
            rw [Nat.add_mul] at this
            omega
          obtain ⟨w', r1, r2, r3⟩ := run_storeCells E.P (ι b).blk ((ι b).base + j * (ι b).sz + k) el fr v'.cells.toList w c 0 g3 gf hws (by rw [g1]; omega)
          refine ⟨w', ?_, ?_, rfl⟩
          · have hsz : v'.cells.size = i.size := by simpa using hlen
            simp [Instr.storeAt, Instr.sureAddr, storeVar, run_sizeOf E.ok h, hsz, r1]
          · have hheap : w'.heap[(ι b).blk]? = some (.cells (splice c ((ι b).base + j * (ι b).sz + k) v'.cells.toList) el fr) := by
              rw [r2]; simp [hb3]
            refine hR.set_cells hg (by rw [r2]; simp) ?_ r3 hheap ?_
            · intro c' hne
              rw [r2]; simp [Ne.symm hne]
            · refine ⟨g1, by simpa using g2, _, _, fr, hheap, by rw [splice_size]; exact gf, by rw [splice_size]; exact g4, ?_, g6⟩
              rw [g1]
              have hspl := splice_get v'.cells.toList c ((ι b).base + j * sz + k)
              have hse : (storeEl e k v.cells).cells = spliceL e.cells k v.cells := storeEl_cells (by omega) (by omega) hc4
              refine DRel.upd g5 ?_ ?_ ?_
              · intro x hx
                show (splice c ((ι b).base + j * sz + k) v'.cells.toList)[x]? = c[x]?
                rw [hspl x (by omega), if_neg (by omega)]
              · rw [hse]
                apply CRel.of_getElem
                intro x y hy
                show ∃ w_1, (splice c ((ι b).base + j * sz + k) v'.cells.toList)[(ι b).base + j * sz + x]? = some w_1 ∧ VRel σ.next ι H y w_1
                rw [hspl _ (by omega)]
                rw [spliceL_get _ _ _ _ (by omega)] at hy
                by_cases hx : k ≤ x ∧ x < k + v.cells.length
                · rw [if_pos hx] at hy
                  rw [if_pos (by omega)]
                  obtain ⟨u, u1, u2⟩ := hcs.get hy
                  exact ⟨u, by rw [show (ι b).base + j * sz + x - ((ι b).base + j * sz + k) = x - k by omega]; exact u1, u2⟩
                · rw [if_neg hx] at hy
                  rw [if_neg (by omega)]
                  exact q1.get hy
              · rw [hse, spliceL_length]; exact q2
        · cases hs
      · cases hs
    · cases hs
  · cases hs
end Abs

/-
  Part of the abstract layer (I): values, stores and steps that stand for those of the model, and the proof that they do. It proves no statement by itself.
-/
import Derived.Test.YtmimfnjcnndhpaaGreatAbsH
import Derived.Laws.Append
noncomputable section
namespace Abs
set_option linter.unusedVariables false
set_option linter.unusedSimpArgs false
set_option linter.unusedSectionVars false
open Go

section
variable {E : Env} {ι : Inj} {H : Imm} {σ σ' : AStore} {w : World}

/-! ### append -/

/-- The elements that are appended: of a slice, or of a string. -/
def aSrc (sz : Nat) (x : AVal) (σ : AStore) : Option (List AVal) :=
  match x with
  | .sc (.string s) => if sz = 1 then some (s.data.toList.map fun b => .sc (.int .u8 b.toNat)) else none
  | x => aElems sz x σ

theorem aSrc_sound (hR : Rel E ι H σ w) {sz : Nat} {x : AVal} {x' : Value} (hx : VRel σ.next ι H x x') {els : List AVal} (h : aSrc sz x σ = some els) :
    (∀ P, (Builtin.lenOf x').run P w = .ok els.length w) ∧ ∃ ws : List Value, ws.length = els.length * sz ∧ DRel σ.next ι H (ws[·]?) sz els 0 ∧
      ∀ P m, m ≤ els.length → (Builtin.firstCells sz m x').run P w = .ok (ws.take (m * sz)).toArray w := by
  by_cases hstr : ∃ s, x = .sc (.string s)
  · obtain ⟨s, rfl⟩ := hstr
    simp only [aSrc] at h
    split at h
    · rename_i h1
      subst h1
      cases h
      obtain rfl := hx.sc_inv
      refine ⟨fun P => by simp [Builtin.lenOf], s.data.toList.map fun b => .int .u8 b.toNat, by simp, ?_, ?_⟩
      · apply DRel.of_get
        intro i e he
        rw [List.getElem?_map] at he
        cases hb : s.data.toList[i]? with
        | none => simp [hb] at he
        | some b =>
          simp [hb] at he
          subst he
          refine ⟨.cons _ _ (.int .u8 b.toNat) _ _ ?_ (.sc _) (.nil _ _), rfl⟩
          show (s.data.toList.map fun b => Value.int .u8 b.toNat)[0 + i * 1]? = _
          rw [List.getElem?_map, show 0 + i * 1 = i by omega, hb]
          rfl
      · intro P m hm
        simp at hm
        simp only [Builtin.firstCells, Sem.run_pure]
        congr 1
        apply Array.ext'
        simp [ByteArray.extract, ByteArray.copySlice]
    · cases h
  · have h' : aElems sz x σ = some els := by
      unfold aSrc at h
      split at h
      · exact absurd ⟨_, rfl⟩ hstr
      · exact h
    obtain ⟨a, cap, rfl, ws, h1, h2, h3⟩ := aElems_sound hR hx h'
    exact ⟨fun P => by simp [Builtin.lenOf], ws, h1, h2, h3⟩

/-- 'els' with the elements from 'o' on laid over. -/
def overlay (els : List AVal) (o : Nat) : List AVal → List AVal
  | [] => els
  | v :: vs => overlay (els.set o v) (o + 1) vs

theorem overlay_length : ∀ (vs els : List AVal) (o : Nat), (overlay els o vs).length = els.length
  | [], _, _ => rfl
  | v :: vs, els, o => by rw [overlay, overlay_length vs]; simp

theorem overlay_get : ∀ (vs els : List AVal) (o i : Nat), o + vs.length ≤ els.length →
    (overlay els o vs)[i]? = if o ≤ i ∧ i < o + vs.length then vs[i - o]? else els[i]?
  | [], els, o, i, _ => by simp [overlay]; intro h1 h2; omega
  | v :: vs, els, o, i, h => by
      simp at h
      rw [overlay, overlay_get vs _ _ _ (by simp; omega)]
      by_cases h1 : o + 1 ≤ i ∧ i < o + 1 + vs.length
      · rw [if_pos h1, if_pos (by simp; omega)]
        rw [show i - o = (i - (o + 1)) + 1 by omega]; simp
      · rw [if_neg h1]
        by_cases h2 : o = i
        · subst h2
          rw [if_pos (by simp)]
          simp [show o < els.length by omega]
        · rw [if_neg (by simp; omega)]
          simp [h2]

def allCells (els : List AVal) : Bool := els.all fun e => e.cells.all AVal.isCell

/-- 'append(s, xs...)' at elements of 'sz' cells and 'bytes' bytes. -/
def aAppend0 (sz bytes : Nat) (s : AVal) (xs : List AVal) (σ : AStore) : Option (AVal × AStore) :=
  match s with
  | .sc (.slice none 0 0) =>
    match xs with
    | [] => some (s, σ)
    | _ => if xs.length * bytes ≤ 140737488355328 ∧ sz ≠ 0 ∧ bytes ≠ 0 then some (.slice σ.next 0 xs.length, σ.alloc (.cells sz xs)) else none
  | .slice b off len =>
    match σ.get b with
    | some (.cells sz' els) =>
      if sz' = sz ∧ sz ≠ 0 ∧ bytes ≠ 0 ∧ off + len ≤ els.length ∧ allCells xs = true then
        if off + len + xs.length ≤ els.length then
          some (.slice b off (len + xs.length), σ.set b (.cells sz (overlay els (off + len) xs)))
        else if off + len = els.length ∧ (len + xs.length) * bytes ≤ 140737488355328 then
          some (.slice σ.next 0 (len + xs.length), (σ.del b).alloc (.cells sz (els.drop off ++ xs)))
        else none
      else none
    | _ => none
  | .view b off len =>
    if xs.length = 0 then some (.view b off len, σ)
    else match aElems sz (.view b off len) σ with
      | some els => if (els.length + xs.length) * bytes ≤ 140737488355328 ∧ bytes ≠ 0 ∧ els.length = len then
          some (.slice σ.next 0 (els.length + xs.length), σ.alloc (.cells sz (els ++ xs)))
        else none
      | none => none
  | .data sz' t els =>
    if xs.length = 0 then some (.data sz' t els, σ)
    else if t = true ∧ sz' = sz ∧ (els.length + xs.length) * bytes ≤ 140737488355328 ∧ bytes ≠ 0 then
      some (.slice σ.next 0 (els.length + xs.length), σ.alloc (.cells sz (els ++ xs)))
    else none
  | _ => none

theorem DRel.append {n : Nat} {us ws : List Value} {sz : Nat} {els xs : List AVal} (h : DRel n ι H (us[·]?) sz els 0) (hu : us.length = els.length * sz) (h' : DRel n ι H (ws[·]?) sz xs 0) :
    DRel n ι H ((us ++ ws)[·]?) sz (els ++ xs) 0 := by
  apply DRel.of_get
  intro i e he
  by_cases hi : i < els.length
  · rw [List.getElem?_append_left hi] at he
    obtain ⟨h1, h2⟩ := h.get he
    refine ⟨h1.congr ?_, h2⟩
    intro k hk1 hk2
    have : (i + 1) * sz ≤ els.length * sz := Nat.mul_le_mul_right _ hi
    rw [Nat.add_mul] at this
    show (us ++ ws)[k]? = us[k]?
    rw [List.getElem?_append_left (by omega)]
  · rw [List.getElem?_append_right (by omega)] at he
    obtain ⟨h1, h2⟩ := h'.get he
    refine ⟨?_, h2⟩
    obtain ⟨vs, v1, v2⟩ := h1.list
    rw [h2] at v2
    refine CRel.of_list v1 ?_
    intro k hk
    have hvl := v1.length
    show (us ++ ws)[0 + i * sz + k]? = vs[k]?
    have hm : i * sz = els.length * sz + (i - els.length) * sz := by rw [← Nat.add_mul]; congr 1; omega
    rw [List.getElem?_append_right (by omega), ← v2 k (by omega)]
    show ws[_]? = ws[_]?
    congr 1; omega

theorem overlay_rel {n : Nat} {c : Array Value} {sz base : Nat} {els xs : List AVal} {ws : List Value} {o : Nat} (hD : DRel n ι H (c[·]?) sz els base) (hx : DRel n ι H (ws[·]?) sz xs 0)
    (hw : ws.length = xs.length * sz) (ho : o + xs.length ≤ els.length) (hc : base + els.length * sz ≤ c.size) :
    DRel n ι H ((splice c (base + o * sz) ws)[·]?) sz (overlay els o xs) base := by
  have hsp := splice_get ws c (base + o * sz)
  have hle : base + o * sz + ws.length ≤ c.size := by
    have : (o + xs.length) * sz ≤ els.length * sz := Nat.mul_le_mul_right _ ho
    rw [Nat.add_mul] at this; omega
  apply DRel.of_get
  intro i e he
  rw [overlay_get _ _ _ _ ho] at he
  by_cases h1 : o ≤ i ∧ i < o + xs.length
  · rw [if_pos h1] at he
    obtain ⟨q1, q2⟩ := hx.get he
    refine ⟨?_, q2⟩
    obtain ⟨vs, v1, v2⟩ := q1.list
    rw [q2] at v2
    refine CRel.of_list v1 ?_
    intro k hk
    have hvl := v1.length
    show (splice c (base + o * sz) ws)[base + i * sz + k]? = vs[k]?
    have hm : i * sz = o * sz + (i - o) * sz := by rw [← Nat.add_mul]; congr 1; omega
    have hm2 : (i - o + 1) * sz ≤ xs.length * sz := Nat.mul_le_mul_right _ (by omega)
    rw [Nat.add_mul] at hm2
    rw [hsp _ hle, if_pos (by omega), ← v2 k (by omega)]
    show ws[_]? = ws[_]?
    congr 1; omega
  · rw [if_neg h1] at he
    obtain ⟨q1, q2⟩ := hD.get he
    refine ⟨q1.congr ?_, q2⟩
    intro k hk1 hk2
    rw [q2] at hk2
    show (splice c (base + o * sz) ws)[k]? = c[k]?
    rw [hsp _ hle, if_neg ?_]
    intro ⟨a1, a2⟩
    rw [hw] at a2
    rcases Nat.lt_or_ge i o with h | h
    · have : (i + 1) * sz ≤ o * sz := Nat.mul_le_mul_right _ h
      rw [Nat.add_mul] at this; omega
    · have : (o + xs.length) * sz ≤ i * sz := Nat.mul_le_mul_right _ (by omega)
      rw [Nat.add_mul] at this; omega

theorem extend_rel {n : Nat} {c : Array Value} {sz base : Nat} {els xs : List AVal} {ws : List Value} (hD : DRel n ι H (c[·]?) sz els base) (hx : DRel n ι H (ws[·]?) sz xs 0)
    (hw : ws.length = xs.length * sz) (hc : base + (els.length + xs.length) * sz ≤ c.size) :
    DRel n ι H ((splice c (base + els.length * sz) ws)[·]?) sz (els ++ xs) base := by
  have hsp := splice_get ws c (base + els.length * sz)
  rw [Nat.add_mul] at hc
  have hle : base + els.length * sz + ws.length ≤ c.size := by omega
  apply DRel.of_get
  intro i e he
  by_cases hi : i < els.length
  · rw [List.getElem?_append_left hi] at he
    obtain ⟨q1, q2⟩ := hD.get he
    refine ⟨q1.congr ?_, q2⟩
    intro k hk1 hk2
    rw [q2] at hk2
    have : (i + 1) * sz ≤ els.length * sz := Nat.mul_le_mul_right _ hi
    rw [Nat.add_mul] at this
    show (splice c (base + els.length * sz) ws)[k]? = c[k]?
    rw [hsp _ hle, if_neg (by omega)]
  · rw [List.getElem?_append_right (by omega)] at he
    have hil : i - els.length < xs.length := by
      rcases Nat.lt_or_ge (i - els.length) xs.length with h | h
      · exact h
      · rw [List.getElem?_eq_none h] at he; cases he
    obtain ⟨q1, q2⟩ := hx.get he
    refine ⟨?_, q2⟩
    obtain ⟨vs, v1, v2⟩ := q1.list
    rw [q2] at v2
    refine CRel.of_list v1 ?_
    intro k hk
    have hvl := v1.length
    show (splice c (base + els.length * sz) ws)[base + i * sz + k]? = vs[k]?
    have hm : i * sz = els.length * sz + (i - els.length) * sz := by rw [← Nat.add_mul]; congr 1; omega
    have hm2 : (i - els.length + 1) * sz ≤ xs.length * sz := Nat.mul_le_mul_right _ (by omega)
    rw [Nat.add_mul] at hm2
    rw [hsp _ hle, if_pos (by omega), ← v2 k (by omega)]
    show ws[_]? = ws[_]?
    congr 1; omega

theorem DRel.isCell {n : Nat} {sz : Nat} : ∀ {xs : List AVal} {ws : List Value}, DRel n ι H (ws[·]?) sz xs 0 → ws.length = xs.length * sz → allCells xs = true → ∀ v ∈ ws, isCellV v = true := by
  intro xs ws h hl ha v hv
  obtain ⟨k, hk, rfl⟩ := List.mem_iff_getElem.1 hv
  have hsz : 0 < sz := by
    rcases Nat.eq_zero_or_pos sz with h0 | h0
    · subst h0; simp at hl; simp [hl] at hk
    · exact h0
  have hi : k / sz < xs.length := by rw [Nat.div_lt_iff_lt_mul hsz]; omega
  obtain ⟨h1, h2⟩ := h.get (List.getElem?_eq_getElem hi)
  obtain ⟨vs, v1, v2⟩ := h1.list
  have hm : k % sz < sz := Nat.mod_lt _ hsz
  have hall : xs[k / sz].cells.all AVal.isCell = true := by
    have := List.all_eq_true.1 ha xs[k / sz] (List.getElem_mem hi)
    exact this
  have := v1.isCell hall
  have e := v2 (k % sz) (by omega)
  have e2 : 0 + k / sz * sz + k % sz = k := by rw [Nat.zero_add, Nat.mul_comm]; exact Nat.div_add_mod k sz
  rw [e2] at e
  rw [List.getElem?_eq_getElem hk] at e
  exact this _ (List.mem_of_getElem? e.symm)

theorem Rel.drew (hR : Rel E ι H σ w) : Rel E ι H σ w.drew := hR.congr rfl ⟨rfl, rfl⟩

theorem cap_le (w : World) (need old : Nat) (e : TypeId) : need ≤ grownCap w need old e := by
  simp only [grownCap, Question.cut]; omega

/-- The row that an append makes. -/
theorem Rel.appended (hR : Rel E ι H σ w) (el : TypeId) {sz cap : Nat} {els : List AVal} {us zs : List Value} (hD : DRel σ.next ι H (us[·]?) sz els 0) (hu : us.length = els.length * sz)
    (hc : els.length ≤ cap) (hz : zs.length = (cap - els.length) * sz) :
    ∃ ι', Rel E ι' H (σ.alloc (.cells sz els)) { w with heap := w.heap.push (.cells (us ++ zs).toArray el) } ∧ Ext σ.next ι H (σ.next + 1) ι' H ∧
      VRel (σ.next + 1) ι' H (.slice σ.next 0 els.length) (.slice (some ⟨w.heap.size, 0, none⟩) els.length cap) ∧ (ι' σ.next).el = el ∧ (ι' σ.next).base = 0 := by
  refine hR.newRow el (c := (us ++ zs).toArray) (cap := cap) (len := els.length) ?_ ?_ hc hc (FrOk.zero _)
  · have := hD.append (els := els) (xs := []) (ws := zs) hu (.nil _ _ _)
    simpa using this
  · have : cap * sz = els.length * sz + (cap - els.length) * sz := by rw [← Nat.add_mul]; congr 1; omega
    simp [hu, hz]; omega

/-- A block of the call's own goes on under a new number. -/
theorem Rel.renew (h : Rel E ι H σ w) {w' : World} {b : Nat} {sz : Nat} {els : List AVal} {x : ABlk} (hb : σ.get b = some (.cells sz els)) {p : Place} (hp : p.blk = (ι b).blk)
    (hsz : w'.heap.size = w.heap.size) (ho : ∀ c, c ≠ (ι b).blk → w'.heap[c]? = w.heap[c]?) (hk : Same w w') {c' : Array Value} {elem' : TypeId} {fr' : Nat × Nat}
    (hc' : w'.heap[(ι b).blk]? = some (.cells c' elem' fr')) (hx : BlkRel σ.next ι H w' p x) : Rel E (upd ι σ.next p) H ((σ.del b).alloc x) w' := by
  have he : Ext σ.next ι H (σ.next + 1) (upd ι σ.next p) H := Ext.upd _ _ _ _
  obtain ⟨l1, l2, l3⟩ := h.live b _ hb
  have hget : ∀ b', ((σ.del b).alloc x).get b' = if b' = σ.next then some x else if b' = b then none else σ.get b' := by
    intro b'
    rw [AStore.get_alloc, AStore.get_del]; rfl
  refine ⟨?_, ?_, ?_, fun g => (h.glob g).ext he, hk.trans_keep h.keep, ?_⟩
  rotate_left 3
  · intro b' t hb'
    obtain ⟨h1, h2, h3⟩ := h.tys b' t hb'
    have h4 : upd ι σ.next p b' = ι b' := upd_ne _ _ (by omega)
    rw [h4]
    exact ⟨Nat.lt_succ_of_lt h1, h2, h3⟩
  · intro c o hc
    rw [ho c]
    · exact h.imm c o hc
    · intro hcb; subst hcb; rw [l2] at hc; cases hc
  · intro b' y hy
    rw [hget] at hy
    split at hy
    · rename_i e1
      cases hy
      subst e1
      rw [upd_self]
      exact ⟨hx.ext he rfl (Nat.le_refl _) (fun _ _ _ _ => rfl), by rw [hp]; exact l2, by rw [hp, hsz]; exact l3⟩
    · rename_i e1
      split at hy
      · cases hy
      · rename_i e2
        obtain ⟨h1, h2, h3⟩ := h.live b' y hy
        have hne : (ι b').blk ≠ (ι b).blk := fun hc => e2 (h.inj b' b _ _ hy hb hc)
        rw [upd_ne _ _ e1]
        refine ⟨?_, h2, by rw [hsz]; exact h3⟩
        by_cases hmm : ∃ m since seen, y = .miter m since seen ∧ (ι m).blk = (ι b).blk
        · obtain ⟨m, since, seen, rfl, hmb⟩ := hmm
          obtain ⟨⟨g0, g0', g0''⟩, s', se', st, g1, g2, g3, g4⟩ := h1
          have hmn : m ≠ σ.next := by omega
          refine ⟨⟨by show m < σ.next + 1; omega, by rw [upd_ne _ _ hmn]; omega, g0''⟩, s', se', st, by rw [upd_ne _ _ hmn, ho _ hne]; exact g1, g2, g3, ?_⟩
          intro es clock hh
          rw [upd_ne _ _ hmn, hmb, hc'] at hh
          cases hh
        · refine h1.ext he (ho _ hne) (by omega) ?_
          intro m since seen hz'
          exact ho _ (fun hc => hmm ⟨m, since, seen, hz', hc⟩)
  · intro b1 b2 x1 x2 h1 h2 hbb
    rw [hget] at h1 h2
    have key : ∀ b2 x2, b2 ≠ σ.next → (if b2 = b then none else σ.get b2) = some x2 → p.blk = (ι b2).blk → False := by
      intro b2 x2 hn hx2 hpb
      split at hx2
      · cases hx2
      · rename_i e2
        exact e2 (h.inj b2 b _ _ hx2 hb (by rw [← hpb, hp]))
    by_cases e1 : b1 = σ.next <;> by_cases e2 : b2 = σ.next
    · omega
    · rw [if_neg e2] at h2
      rw [e1, upd_self, upd_ne _ _ e2] at hbb
      exact (key b2 x2 e2 h2 hbb).elim
    · rw [if_neg e1] at h1
      rw [e2, upd_self, upd_ne _ _ e1] at hbb
      exact (key b1 x1 e1 h1 hbb.symm).elim
    · rw [if_neg e1] at h1
      rw [if_neg e2] at h2
      rw [upd_ne _ _ e1, upd_ne _ _ e2] at hbb
      split at h1
      · cases h1
      · split at h2
        · cases h2
        · exact h.inj b1 b2 _ _ h1 h2 hbb

set_option maxHeartbeats 1000000 in
theorem aAppend0_sound (hR : Rel E ι H σ w) {t : TypeId} {i : TyI} (hs : E.ty t = some i) {el : TypeId} (hd : i.desc = .slice el) {j : TyI} (hj : E.ty el = some j) (hjz : j.okz = true)
    {t2 : TypeId} {i2 : TyI} (hs2 : E.ty t2 = some i2) (hni : (∃ e2, i2.desc = .slice e2) ∨ i2.desc = .string) {s x v : AVal} {s' x' : Value} (hvs : VRel σ.next ι H s s') (hvx : VRel σ.next ι H x x')
    {xs : List AVal} (hxs : aSrc j.size x σ = some xs) (h : aAppend0 j.size j.bytes s xs σ = some (v, σ')) (rt : TypeId) :
    SndT (tagS σ s el) el E ι H σ ((Builtin.append_ #[t, t2] rt #[s', x']).run E.P w) v σ' := by
  have hzz : j.zero.cells.size = j.size := by simpa [TyI.okz] using hjz
  obtain ⟨_, info, hi, hi2, hi3, hi4⟩ := E.ok el j hj
  have hu1 : ∀ w : World, (underlying t).run E.P w = .ok (.slice el) w := fun w => by rw [run_underlying E.ok hs w, hd]
  have hu2 : ∀ w : World, (underlying t2).run E.P w = .ok i2.desc w := run_underlying E.ok hs2
  -- room
  have room : ∀ (base : Option Addr) (sLen sCap : Nat), sLen + xs.length ≤ sCap → (Builtin.append_ #[t, t2] rt #[.slice base sLen sCap, x']).run E.P w =
      ((do let new ← Builtin.firstCells j.size xs.length x'
           if let some a := base then storeCells (a.add (sLen * j.size)) new.toList
           pure (.slice base (sLen + xs.length) sCap)) : Sem Value).run E.P w := by
    intro base sLen sCap hr
    obtain ⟨hlen, _⟩ := aSrc_sound hR hvx hxs
    rcases hni with ⟨e2, hdd⟩ | hdd <;> (simp [Builtin.append_, hu1, hu2, Go.sizeOf, typeInfo, hi, hi2, hlen, hr, hdd]; rfl)
  -- growth
  have grow : ∀ (base : Option Addr) (sLen sCap : Nat) (els : List AVal) (us : List Value), sCap < sLen + xs.length → (sLen + xs.length) * j.bytes ≤ 140737488355328 → j.bytes ≠ 0 →
      els.length = sLen → DRel σ.next ι H (us[·]?) j.size els 0 → us.length = sLen * j.size →
      (Builtin.firstCells j.size sLen (.slice base sLen sCap)).run E.P w.drew = .ok us.toArray w.drew →
      ∃ ι' w', (Builtin.append_ #[t, t2] rt #[.slice base sLen sCap, x']).run E.P w = .ok (.slice (some ⟨w.heap.size, 0, none⟩) (sLen + xs.length) (grownCap w (sLen + xs.length) sCap el)) w' ∧
        Rel E ι' H (σ.alloc (.cells j.size (els ++ xs))) w' ∧ Ext σ.next ι H (σ.next + 1) ι' H ∧
        VRel (σ.next + 1) ι' H (.slice σ.next 0 (sLen + xs.length)) (.slice (some ⟨w.heap.size, 0, none⟩) (sLen + xs.length) (grownCap w (sLen + xs.length) sCap el)) ∧ (ι' σ.next).el = el ∧ (ι' σ.next).base = 0 := by
    intro base sLen sCap els us hg hb hb0 hel hD hul hf
    obtain ⟨hlen, ws, hws, hwD, hfirst⟩ := aSrc_sound hR.drew hvx hxs
    obtain ⟨hlen', _⟩ := aSrc_sound hR hvx hxs
    have hfull := hfirst E.P xs.length (Nat.le_refl _)
    rw [← hws, List.take_length] at hfull
    have hn : ¬ (sLen + xs.length ≤ sCap) := by omega
    have h48 := growslice_fits (old := sCap) hg hb
    have h48' : ¬ (281474976710656 < Builtin.nextslicecap (sLen + xs.length) sCap * j.bytes) := by omega
    have hneed : sLen + xs.length ≤ 140737488355328 := by
      have : (sLen + xs.length) * 1 ≤ (sLen + xs.length) * j.bytes := Nat.mul_le_mul_left _ (by omega)
      omega
    have h63 : ¬ (9223372036854775807 < ((sLen : Int) + (xs.length : Int))) := by omega
    have hcap := cap_le w (sLen + xs.length) sCap el
    have hD2 := hD.append (xs := xs) (ws := ws) (by rw [hel]; exact hul) hwD
    obtain ⟨ι', q1, q2, q3, q4⟩ := (hR.drew).appended el (cap := grownCap w (sLen + xs.length) sCap el) (els := els ++ xs) (us := us ++ ws)
      (zs := (Builtin.zeroCells j.zero.cells (grownCap w (sLen + xs.length) sCap el - (sLen + xs.length))).toList) hD2 (by simp [hul, hws, hel, Nat.add_mul]) (by simp [hel]; exact hcap)
      (by simp [Builtin.zeroCells, hzz, hel])
    have e1 : (us ++ ws ++ (Builtin.zeroCells j.zero.cells (grownCap w (sLen + xs.length) sCap el - (sLen + xs.length))).toList).toArray =
        us.toArray ++ (ws.toArray ++ Builtin.zeroCells j.zero.cells (grownCap w (sLen + xs.length) sCap el - (sLen + xs.length))) := by
      apply Array.ext'; simp
    rw [e1] at q1
    refine ⟨ι', w.drew.alloc (.cells (us.toArray ++ (ws.toArray ++ Builtin.zeroCells j.zero.cells (grownCap w (sLen + xs.length) sCap el - (sLen + xs.length)))) el), ?_, q1, q2, by simpa [hel] using q3, q4⟩
    have hc2 : (Question.appendCap (sLen + xs.length) sCap el).cut (w.tape w.drawn (.appendCap (sLen + xs.length) sCap el)) = grownCap w (sLen + xs.length) sCap el := rfl
    rcases hni with ⟨e2, hdd⟩ | hdd
    · simp [Builtin.append_, hu1, hu2, Go.sizeOf, typeInfo, zeroValue, hi, hi2, hi3, hi4, hlen', hn, hdd, h63, h48', Question.forced, hf, hfull, newRow, hc2]
    · simp [Builtin.append_, hu1, hu2, Go.sizeOf, typeInfo, zeroValue, hi, hi2, hi3, hi4, hlen', hn, hdd, h63, h48', Question.forced, hf, hfull, newRow, hc2]
  unfold aAppend0 at h
  split at h
  · -- nil
    obtain rfl := hvs.sc_inv
    split at h
    · cases h
      rw [room none 0 0 (by simp)]
      obtain ⟨_, ws, hws, hwD, hfirst⟩ := aSrc_sound hR hvx hxs
      have := hfirst E.P 0 (Nat.zero_le _)
      refine SndT.same hR (v' := .slice none 0 0) ?_ (.sc _)
      simp only [List.length_nil, Sem.run_bind, this, Result.andThen_ok]
      rfl
    · rename_i hne
      split at h
      · rename_i hc
        cases h
        have hpos : 0 < xs.length := by
          cases xs with
          | nil => exact absurd rfl hne
          | cons a b => simp
        obtain ⟨ι', w', r1, r2, r3, r4, r5⟩ := grow none 0 0 [] [] (by omega) (by simpa using hc.1) hc.2.2 rfl (.nil _ _ _) (by simp) (by simp [Builtin.firstCells])
        simp only [Nat.zero_add, List.nil_append] at r1 r2 r4
        exact ⟨_, w', ι', H, r1, r4, r2, r3, fun _ _ => r5⟩
      · cases h
  · rename_i b off len
    obtain ⟨cap, rfl, hb, hl, hcap⟩ := hvs.slice_inv
    split at h
    · rename_i sz' els hg
      split at h
      · rename_i hc
        obtain ⟨rfl, hs0, hb0, hoff, hall⟩ := hc
        obtain ⟨hb1, hb2, hb3⟩ := hR.live b _ hg
        obtain ⟨g1, g2, c, el', fr, g3, gf, g4, g5, g6⟩ := hb1
        split at h
        · -- there is room in what is known
          rename_i hroom
          cases h
          rw [room _ len cap (by omega)]
          obtain ⟨_, ws, hws, hwD, hfirst⟩ := aSrc_sound hR hvx hxs
          have hfull := hfirst E.P xs.length (Nat.le_refl _)
          rw [← hws, List.take_length] at hfull
          have hcell := DRel.isCell hwD hws hall
          have hle : (ι b).base + (off + len) * j.size + ws.length ≤ c.size := by
            have h1 : (off + len + xs.length) * j.size ≤ els.length * j.size := Nat.mul_le_mul_right _ hroom
            have h2 : els.length * j.size ≤ (ι b).cap * j.size := Nat.mul_le_mul_right _ g2
            rw [Nat.add_mul] at h1; omega
          obtain ⟨w', r1, r2, r3⟩ := run_storeCells E.P (ι b).blk ((ι b).base + (off + len) * j.size) el' fr ws w c 0 g3 gf hcell (by omega)
          have hheap : w'.heap[(ι b).blk]? = some (.cells (splice c ((ι b).base + (off + len) * j.size) ws) el' fr) := by
            rw [r2]; simp [hb3]
          refine ⟨.slice (some ⟨(ι b).blk, (ι b).base + off * (ι b).sz, none⟩) (len + xs.length) cap, w', ι, H, ?_, ?_, ?_, Ext.refl _ _ _, fun _ hh => by simp [AStore.set] at hh⟩
          · simp only [Sem.run_bind, hfull, Result.andThen_ok, add_mk, g1]
            rw [show (ι b).base + off * j.size + len * j.size = (ι b).base + (off + len) * j.size by rw [Nat.add_mul]; omega]
            simp [r1]
          · exact .slice _ _ _ _ hb (by omega) hcap
          · refine hR.set_cells hg (by rw [r2]; simp) ?_ r3 hheap ?_
            · intro c' hne
              rw [r2]; simp [Ne.symm hne]
            · refine ⟨g1, by rw [overlay_length]; exact g2, _, _, fr, hheap, by rw [splice_size]; exact gf, by rw [splice_size]; exact g4, ?_, g6⟩
              refine overlay_rel g5 hwD hws (by omega) ?_
              have h2 : els.length * j.size ≤ (ι b).cap * j.size := Nat.mul_le_mul_right _ g2
              omega
        · split at h
          · rename_i hnr hh
            obtain ⟨hend, hbd⟩ := hh
            cases h
            have hR2 : Rel E ι H (σ.del b) w := hR.restrict rfl (by
              intro b' x' hx'
              rw [AStore.get_del] at hx'
              split at hx'
              · cases hx'
              · exact hx') (fun _ h => h)
            have hdl : (els.drop off).length = len := by simp; omega
            by_cases hfit : len + xs.length ≤ cap
            · -- in place
              rw [room _ len cap hfit]
              obtain ⟨_, ws, hws, hwD, hfirst⟩ := aSrc_sound hR hvx hxs
              have hfull := hfirst E.P xs.length (Nat.le_refl _)
              rw [← hws, List.take_length] at hfull
              have hcell := DRel.isCell hwD hws hall
              have hle : (ι b).base + (off + len) * j.size + ws.length ≤ c.size := by
                have h1 : (off + len + xs.length) * j.size ≤ (ι b).cap * j.size := Nat.mul_le_mul_right _ (by omega)
                rw [Nat.add_mul] at h1; omega
              obtain ⟨w', r1, r2, r3⟩ := run_storeCells E.P (ι b).blk ((ι b).base + (off + len) * j.size) el' fr ws w c 0 g3 gf hcell (by omega)
              have hheap : w'.heap[(ι b).blk]? = some (.cells (splice c ((ι b).base + (off + len) * j.size) ws) el' fr) := by
                rw [r2]; simp [hb3]
              let p : Place := ⟨(ι b).blk, (ι b).base + off * j.size, j.size, cap, el'⟩
              refine ⟨.slice (some ⟨(ι b).blk, (ι b).base + off * (ι b).sz, none⟩) (len + xs.length) cap, w', upd ι σ.next p, H, ?_, ?_, ?_, Ext.upd _ _ _ _, ?_⟩
              rotate_left 3
              · intro htg _
                rw [upd_self]
                unfold tagS at htg
                split at htg
                · rename_i heq; cases heq
                · rename_i heq
                  injection heq with e1 e2 e3
                  subst e1 e2
                  obtain ⟨_, t2, t3⟩ := hR.tys _ _ (hasTy_mem htg)
                  exact ⟨g6.trans t2, by simp [p, t3]⟩
                · cases htg
              · simp only [Sem.run_bind, hfull, Result.andThen_ok, add_mk, g1]
                rw [show (ι b).base + off * j.size + len * j.size = (ι b).base + (off + len) * j.size by rw [Nat.add_mul]; omega]
                simp [r1]
              · have := VRel.slice (n := σ.next + 1) (ι := upd ι σ.next p) (H := H) σ.next 0 (len + xs.length) cap (by omega) hfit (by simp [upd_self, p])
                rw [g1]
                simp only [upd_self, p, Nat.zero_mul, Nat.add_zero] at this
                exact this
              · refine hR.renew hg (p := p) rfl (by rw [r2]; simp) ?_ r3 hheap ?_
                · intro c' hne
                  rw [r2]; simp [Ne.symm hne]
                · have hD3 := g5.drop off
                  refine ⟨rfl, by simp [hdl]; exact hfit, _, _, fr, hheap, by rw [splice_size]; exact gf, ?_, ?_, rfl⟩
                  · have h1 : (off + cap) * j.size = (ι b).cap * j.size := by rw [hcap]
                    rw [Nat.add_mul] at h1
                    rw [splice_size]; show (ι b).base + off * j.size + cap * j.size ≤ c.size; omega
                  · have h1 : (off + cap) * j.size = (ι b).cap * j.size := by rw [hcap]
                    have h2 : (len + xs.length) * j.size ≤ cap * j.size := Nat.mul_le_mul_right _ hfit
                    rw [Nat.add_mul] at h1
                    have := extend_rel hD3 hwD hws (by rw [hdl]; omega)
                    rw [hdl, show (ι b).base + off * j.size + len * j.size = (ι b).base + (off + len) * j.size by rw [Nat.add_mul]; omega] at this
                    exact this
            · -- a new array
              have hD' : DRel σ.next ι H (rd w (ι b).blk) j.size (els.drop off) ((ι b).base + off * j.size) := by
                rw [rd_cells g3]; exact g5.drop off
              obtain ⟨us, u1, u2, u3⟩ := hD'.flat
              rw [hdl] at u1 u2
              obtain ⟨ι', w', r1, r2, r3, r4, r5⟩ := grow (some ⟨(ι b).blk, (ι b).base + off * (ι b).sz, none⟩) len cap (els.drop off) us (by omega) hbd hb0 hdl u3 u1 (by
                have := run_loadCells E.P w.drew (ι b).blk ((ι b).base + off * j.size) (len * j.size) us u1 (fun k hk => by
                  have := u2 k hk
                  simpa [rd] using this)
                rw [g1]
                exact this)
              refine ⟨_, w', ι', H, r1, r4, ?_, r3, fun _ _ => r5⟩
              refine r2.restrict rfl ?_ (fun _ h => h)
              intro b' x' hx'
              have hget : ∀ b', ((σ.del b).alloc (.cells j.size (els.drop off ++ xs))).get b' = if b' = σ.next then some (.cells j.size (els.drop off ++ xs)) else if b' = b then none else σ.get b' := by
                intro b'
                rw [AStore.get_alloc, AStore.get_del]; rfl
              have hget2 : ∀ b', (σ.alloc (.cells j.size (els.drop off ++ xs))).get b' = if b' = σ.next then some (.cells j.size (els.drop off ++ xs)) else σ.get b' := fun _ => AStore.get_alloc _ _ _
              rw [hget] at hx'
              rw [hget2]
              split at hx'
              · rename_i e1; rw [if_pos e1]; exact hx'
              · rename_i e1
                rw [if_neg e1]
                split at hx'
                · cases hx'
                · exact hx'
          · cases h
      · cases h
    · cases h
  · rename_i b off len
    split at h
    · rename_i hz
      cases h
      obtain ⟨rfl, hb, hcap⟩ := hvs.view_inv
      rw [room _ len len (by omega)]
      obtain ⟨_, ws, hws, hwD, hfirst⟩ := aSrc_sound hR hvx hxs
      have := hfirst E.P 0 (Nat.zero_le _)
      refine SndT.same hR (v' := .slice (some ⟨(ι b).blk, (ι b).base + off * (ι b).sz, none⟩) len len) ?_ hvs
      simp only [hz, Sem.run_bind, this, Result.andThen_ok]
      simp [storeCells]
    · rename_i hz
      split at h
      · rename_i els hels
        split at h
        · rename_i hc
          obtain ⟨h2, h3, h4⟩ := hc
          cases h
          obtain ⟨a, cap, h5, us, u1, u2, u3⟩ := aElems_sound hR.drew hvs (by simpa [aElems] using hels)
          obtain ⟨h6, hb, hcap⟩ := hvs.view_inv
          rw [h6] at h5
          cases h5
          rw [h6]
          have u3' := u3 E.P els.length (Nat.le_refl _)
          rw [List.take_of_length_le (by rw [u1]; exact Nat.le_refl _), h6] at u3'
          rw [← h4] at u3' ⊢
          obtain ⟨ι', w', r1, r2, r3, r4, r5⟩ := grow _ els.length els.length els us (by omega) h2 h3 rfl u2 u1 u3'
          exact ⟨_, w', ι', H, r1, r4, r2, r3, fun _ _ => r5⟩
        · cases h
      · cases h
  · rename_i sz' tt els
    obtain ⟨b, o, cap, rfl, hl, hD, htt⟩ := hvs.data_inv
    split at h
    · rename_i hz
      cases h
      rw [room _ els.length cap (by omega)]
      obtain ⟨_, ws, hws, hwD, hfirst⟩ := aSrc_sound hR hvx hxs
      have := hfirst E.P 0 (Nat.zero_le _)
      refine SndT.same hR (v' := .slice (some ⟨b, o, none⟩) els.length cap) ?_ hvs
      simp only [hz, Sem.run_bind, this, Result.andThen_ok]
      simp [storeCells]
    · rename_i hz
      split at h
      · rename_i hc
        obtain ⟨h1, rfl, h2, h3⟩ := hc
        cases h
        have hcap := htt h1
        obtain ⟨us, u1, u2, u3⟩ := (hD.ext (Ext.refl _ _ _) (rd_imm hR.imm b)).flat
        obtain ⟨ι', w', r1, r2, r3, r4, r5⟩ := grow (some ⟨b, o, none⟩) els.length cap els us (by omega) h2 h3 rfl u3 u1 (by
          exact run_loadCells E.P w.drew b o (els.length * j.size) us u1 (fun k hk => by
            have := u2 k hk
            simpa [rd] using this))
        exact ⟨_, w', ι', H, r1, r4, r2, r3, fun _ _ => r5⟩
      · cases h
  · cases h

/-- Behind the last element too. -/
def aAppend (sz bytes : Nat) (s : AVal) (xs : List AVal) (σ : AStore) : Option (AVal × AStore) :=
  match s with
  | .endS b off =>
    match σ.get b with
    | some (.cells sz' els) =>
      if sz' = sz ∧ sz ≠ 0 ∧ bytes ≠ 0 ∧ off = els.length ∧ allCells xs = true ∧ xs.length ≠ 0 ∧ xs.length * bytes ≤ 140737488355328 then some (.slice σ.next 0 xs.length, (σ.del b).alloc (.cells sz xs)) else none
    | _ => none
  | s => aAppend0 sz bytes s xs σ

theorem aAppend_sound (hR : Rel E ι H σ w) {t : TypeId} {i : TyI} (hs : E.ty t = some i) {el : TypeId} (hd : i.desc = .slice el) {j : TyI} (hj : E.ty el = some j) (hjz : j.okz = true)
    {t2 : TypeId} {i2 : TyI} (hs2 : E.ty t2 = some i2) (hni : (∃ e2, i2.desc = .slice e2) ∨ i2.desc = .string) {s x v : AVal} {s' x' : Value} (hvs : VRel σ.next ι H s s') (hvx : VRel σ.next ι H x x')
    {xs : List AVal} (hxs : aSrc j.size x σ = some xs) (h : aAppend j.size j.bytes s xs σ = some (v, σ')) (rt : TypeId) :
    SndT (tagS σ s el) el E ι H σ ((Builtin.append_ #[t, t2] rt #[s', x']).run E.P w) v σ' := by
  unfold aAppend at h
  split at h
  · rename_i b off
    obtain ⟨o, cap, rfl, hb, hc, ho⟩ := hvs.endS_inv
    split at h
    · rename_i sz' els hg
      split at h
      · rename_i hcond
        obtain ⟨rfl, h1, h2, h3, h4, h5, h6⟩ := hcond
        cases h
        by_cases hcap : cap = 0
        · subst hcap
          have hv2 : VRel σ.next ι H (.data j.size true []) (.slice (some ⟨(ι b).blk, o, none⟩) 0 0) := .data _ true [] _ o 0 0 rfl (Nat.le_refl _) (fun _ => rfl) (.nil _ _ _)
          obtain ⟨v', w', ι', H', q1, q2, q3, q4, _⟩ := aAppend0_sound (v := .slice σ.next 0 xs.length) (σ' := σ.alloc (.cells j.size xs)) hR hs hd hj hjz hs2 hni hv2 hvx hxs (by simp [aAppend0, h5, h2, h6]) rt
          refine ⟨v', w', ι', H', q1, q2, q3.restrict rfl ?_ (fun _ h => h), q4, fun hh => by cases hh⟩
          intro b' y hy
          rw [AStore.get_alloc] at hy ⊢
          have hn : (σ.del b).next = σ.next := rfl
          rw [hn] at hy
          split at hy
          · rename_i e; rw [if_pos e]; exact hy
          · rename_i e
            rw [if_neg e]
            rw [AStore.get_del] at hy
            split at hy
            · cases hy
            · exact hy
        · have hv2 : VRel σ.next ι H (.slice b off 0) (.slice (some ⟨(ι b).blk, o, none⟩) 0 cap) := by rw [ho hcap]; exact .slice b off 0 cap hb (Nat.zero_le _) hc
          refine SndT.weak (aAppend0_sound hR hs hd hj hjz hs2 hni hv2 hvx hxs ?_ rt)
          have : ¬ (els.length + xs.length ≤ els.length) := by omega
          simp [aAppend0, hg, h1, h2, h3, h4, h6]
          exact fun hh => absurd hh this
      · cases h
    · cases h
  · exact aAppend0_sound hR hs hd hj hjz hs2 hni hvs hvx hxs h rt
end
end Abs

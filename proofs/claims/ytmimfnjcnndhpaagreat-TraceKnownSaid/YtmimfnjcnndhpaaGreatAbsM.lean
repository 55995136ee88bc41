/-
  Part of the abstract layer (M): values, stores and steps that stand for those of the model, and the proof that they do. It proves no statement by itself.
-/
import Derived.Test.YtmimfnjcnndhpaaGreatAbsL
noncomputable section
namespace Abs
set_option linter.unusedVariables false
set_option linter.unusedSimpArgs false
set_option linter.unusedSectionVars false
open Go

section
variable {E : Env} {ι : Inj} {H : Imm} {σ σ' : AStore} {w : World}

/-! ### Iterating -/

def veq : Value → Value → Bool
  | .int k a, .int k' b => decide (k = k') && decide (a = b)
  | .string a, .string b => decide (a = b)
  | .bool a, .bool b => a == b
  | _, _ => false

def isPlain : Value → Bool
  | .int _ _ | .string _ | .bool _ => true
  | _ => false

theorem veq_iff {a b : Value} (ha : isPlain a = true) : veq a b = true ↔ a = b := by
  cases a <;> simp [isPlain] at ha <;> cases b <;> simp [veq]

def aRange (d : TypeDesc) (x : AVal) (σ : AStore) : Option (AVal × AStore) :=
  match d, x with
  | .string, .sc (.string s) => some (.ptr σ.next 0 0, σ.alloc (.siter s 0))
  | .map _ _, .sc (.map none) => some (.ptr σ.next 0 0, σ.alloc .mitern)
  | .map _ _, .map b =>
    match σ.get b with
    | some (.map _ clock) => some (.ptr σ.next 0 0, σ.alloc (.miter b clock []))
    | _ => none
  | _, _ => none

theorem aRange_sound (hR : Rel E ι H σ w) {t : TypeId} {i : TyI} (hs : E.ty t = some i) {x v : AVal} {x' : Value} (hx : VRel σ.next ι H x x') (h : aRange i.desc x σ = some (v, σ')) :
    SndV E ι H σ ((Instr.range t x').run E.P w) v σ' := by
  have hu := run_underlying E.ok hs w
  have fin : ∀ (o : Obj) (y : ABlk), BlkRel σ.next ι H { w with heap := w.heap.push o } ⟨w.heap.size, 0, 0, 0, 0⟩ y →
      SndV E ι H σ (.ok (.pointer (some ⟨w.heap.size, 0, none⟩)) { w with heap := w.heap.push o }) (.ptr σ.next 0 0) (σ.alloc y) := by
    intro o y hy
    refine ⟨_, _, upd ι σ.next ⟨w.heap.size, 0, 0, 0, 0⟩, H, rfl, ?_, hR.alloc rfl hy, Ext.upd _ _ _ _⟩
    have := VRel.ptr (n := σ.next + 1) (ι := upd ι σ.next ⟨w.heap.size, 0, 0, 0, 0⟩) (H := H) σ.next 0 0 (by omega)
    simp only [upd_self, Nat.zero_mul, Nat.add_zero] at this
    exact this
  unfold aRange at h
  split at h
  · rename_i s hd
    obtain rfl := hx.sc_inv
    cases h
    have := fin (.stringIter s 0) (.siter s 0) (by simp [BlkRel])
    simp only [Instr.range, Sem.run_bind, hu, Result.andThen_ok, hd]
    exact this
  · rename_i hd
    obtain rfl := hx.sc_inv
    cases h
    have := fin (.mapIter none 0 #[] 0) .mitern ⟨rfl, 0, #[], 0, by simp⟩
    simp only [Instr.range, Sem.run_bind, hu, Result.andThen_ok, hd]
    exact this
  · rename_i b hd
    obtain ⟨hb, rfl⟩ := hx.map_inv
    split at h
    · rename_i kvs clock hg
      cases h
      obtain ⟨hb1, _, hb3⟩ := hR.live _ _ hg
      obtain ⟨es, h1, h2, h3, h4, h5⟩ := hb1
      have hne : (ι b).blk ≠ w.heap.size := by omega
      have hpush : ∀ o, (w.heap.push o)[(ι b).blk]? = some (.map es clock) := by
        intro o; simp [Array.getElem?_push, hne, h1]
      have := fin (.mapIter (some (ι b).blk) clock #[] clock) (.miter b clock []) ⟨⟨hb, by simp; omega, rfl⟩, clock, #[], clock, by simp, rfl, rfl, by
        intro es' clock' hh
        have hh' := (hpush (.mapIter (some (ι b).blk) clock #[] clock)).symm.trans hh
        cases hh'
        exact ⟨Nat.le_refl _, fun _ e _ => by simp⟩⟩
      simp only [Instr.range, Sem.run_bind, hu, Result.andThen_ok, hd, run_getObj_map h1]
      exact this
    · cases h
  · cases h

def unseen (seen : List Value) : List (AVal × AVal) → Option (List (AVal × AVal))
  | [] => some []
  | (.sc k, v) :: rest =>
    if isPlain k then
      match unseen seen rest with
      | some l => some (if seen.any (veq k) then l else (.sc k, v) :: l)
      | none => none
    else none
  | _ :: _ => none

def keyV : AVal → Value
  | .sc k => k
  | _ => .bool false

def aNext (iter : AVal) (isString : Bool) (σ : AStore) : Option (List (AVal × AStore)) :=
  match iter with
  | .ptr b 0 0 =>
    match σ.get b, isString with
    | some (.siter s pos), true =>
      if pos < s.size then
        let r := Utf8.decode s pos
        some [(.tuple [.sc (.bool true), .sc (.int .i64 pos), .sc (.int .i32 r.1)], σ.set b (.siter s (pos + r.2)))]
      else some [(.tuple [.sc (.bool false)], σ)]
    | some .mitern, false => some [(.tuple [.sc (.bool false)], σ)]
    | some (.miter m since seen), false =>
      match σ.get m with
      | some (.map kvs clock) =>
        if clock = since then
          match unseen seen kvs with
          | some [] => some [(.tuple [.sc (.bool false)], σ)]
          | some l => some (l.map fun kv => (.tuple [.sc (.bool true), kv.1, kv.2], σ.set b (.miter m since (seen ++ [keyV kv.1]))))
          | none => none
        else none
      | _ => none
    | _, _ => none
  | _ => none

theorem unseen_sound {n : Nat} {seen : List Value} {seen' : Array Nat} : ∀ {kvs : List (AVal × AVal)} {es : List MapEntry} {l : List (AVal × AVal)}, KRel n ι H kvs es →
    (∀ e ∈ es, (e.born ∈ seen' ↔ e.key ∈ seen)) → unseen seen kvs = some l → KRel n ι H l (es.filter fun e => !seen'.contains e.born) ∧ ∀ kv ∈ l, ∃ k, kv.1 = .sc k ∧ isPlain k = true
  | _, _, l, .nil, _, h => by simp [unseen] at h; subst h; exact ⟨.nil, by simp⟩
  | _, _, l, .cons key v e kvs es hk hv hs, hse, h => by
      cases key with
      | sc k =>
        obtain rfl := hk.sc_inv
        simp only [unseen] at h
        split at h
        · rename_i hp
          cases hr : unseen seen kvs with
          | none => simp [hr] at h
          | some l' =>
            simp only [hr] at h
            obtain ⟨i1, i2⟩ := unseen_sound hs (fun e he => hse e (by simp [he])) hr
            have hany : (seen.any (veq e.key)) = seen'.contains e.born := by
              have h0 := hse e (by simp)
              rw [Bool.eq_iff_iff, List.any_eq_true]
              simp only [Array.contains_iff_mem]
              rw [h0]
              constructor
              · rintro ⟨x, hx, hv⟩
                rw [(veq_iff hp).1 hv]; exact hx
              · intro hx
                exact ⟨e.key, hx, (veq_iff hp).2 rfl⟩
            cases hc : seen'.contains e.born with
            | true =>
              rw [hany, hc] at h
              simp at h
              subst h
              exact ⟨by rw [List.filter_cons, hc]; simpa using i1, i2⟩
            | false =>
              rw [hany, hc] at h
              simp at h
              subst h
              refine ⟨by rw [List.filter_cons, hc]; exact KRel.cons (.sc e.key) v e _ _ hk hv i1, ?_⟩
              intro kv hkv
              simp at hkv
              rcases hkv with rfl | hkv
              · exact ⟨e.key, rfl, hp⟩
              · exact i2 kv hkv
        · cases h
      | _ => simp [unseen] at h

theorem nodup_inj {α β : Type} (f : α → β) : ∀ {l : List α}, (l.map f).Nodup → ∀ {x y : α}, x ∈ l → y ∈ l → f x = f y → x = y
  | [], _, _, _, h, _, _ => by simp at h
  | a :: l, hn, x, y, hx, hy, hf => by
      simp only [List.map_cons, List.nodup_cons, List.mem_map, not_exists, not_and] at hn
      simp at hx hy
      rcases hx with rfl | hx <;> rcases hy with rfl | hy
      · rfl
      · exact absurd hf.symm (hn.1 y hy)
      · exact absurd hf (hn.1 x hx)
      · exact nodup_inj f hn.2 hx hy hf

/-- One of the ways. -/
def SndL (E : Env) (ι : Inj) (H : Imm) (σ : AStore) (r : Result Value) (l : List (AVal × AStore)) : Prop := ∃ p ∈ l, SndV E ι H σ r p.1 p.2

theorem run_chooseNext (P : Program) (m : Nat) (hm : 0 < m) : ∃ i w', i < m ∧ (choose (.mapNext m)).run P w = .ok i w' ∧ w'.heap = w.heap ∧ Same w w' := by
  by_cases hf : m ≤ 1
  · exact ⟨0, w, hm, by simp [Question.forced, hf], rfl, ⟨rfl, rfl⟩⟩
  · refine ⟨(Question.mapNext m).cut (w.tape w.drawn (.mapNext m)), { w with drawn := w.drawn + 1 }, ?_, by simp [Question.forced, hf], rfl, ⟨rfl, rfl⟩⟩
    simp only [Question.cut]
    exact Nat.mod_lt _ hm

theorem aNext_sound (hR : Rel E ι H σ w) {x : AVal} {x' : Value} (hx : VRel σ.next ι H x x') {isS : Bool} {l : List (AVal × AStore)} (h : aNext x isS σ = some l) (t : TypeId) :
    SndL E ι H σ ((Instr.next x' isS t).run E.P w) l := by
  unfold aNext at h
  split at h
  · rename_i b
    obtain ⟨hb, rfl⟩ := hx.ptr_inv
    split at h
    · -- a string's
      rename_i s pos hg
      obtain ⟨⟨hbase, hb1⟩, hb2, hb3⟩ := hR.live _ _ hg
      have hget : ∀ w' : World, w'.heap = w.heap → (getObj (ι b).blk).run E.P w' = .ok (.stringIter s pos) w' := by
        intro w' hw'; simp [getObj, Sem.run, hw', hb1]
      split at h
      · rename_i hlt
        cases h
        refine ⟨_, List.mem_singleton.2 rfl, .tuple #[.bool true, .int .i64 pos, .int .i32 (Utf8.decode s pos).1], { w with heap := w.heap.setIfInBounds (ι b).blk (.stringIter s (pos + (Utf8.decode s pos).2)) }, ι, H, ?_, ?_, ?_, Ext.refl _ _ _⟩
        · simp only [Instr.next, Nat.zero_mul, Nat.add_zero, hbase, Sem.run_bind, hget w rfl, Result.andThen_ok, if_pos hlt]
          simp [setObj, Sem.run, hb1, goInt]
        · exact .tuple _ [_, _, _] (.cons _ _ _ _ (.sc _) (.cons _ _ _ _ (.sc _) (.cons _ _ _ _ (.sc _) .nil)))
        · refine hR.set hg (by simp) (fun c hc => by simp [Ne.symm hc]) ⟨rfl, rfl⟩ ⟨hbase, by simp [hb3]⟩ ?_
          intro b' m since seen hne hz hmb
          obtain ⟨h1, h2, h3⟩ := hR.live b' _ hz
          have hne' : (ι b').blk ≠ (ι b).blk := fun hc => hne (hR.inj b' b _ _ hz hg hc)
          obtain ⟨⟨g0, g0', g0''⟩, s', se', st, g1, g2, g3, g4⟩ := h1
          refine ⟨⟨g0, by simpa using g0', g0''⟩, s', se', st, by simp [Ne.symm hne', g1], g2, g3, ?_⟩
          intro es clock hh
          rw [hmb] at hh
          simp [hb3] at hh
      · rename_i hlt
        cases h
        refine ⟨_, List.mem_singleton.2 rfl, SndV.same hR (v' := .tuple #[.bool false]) ?_ (.tuple _ [_] (.cons _ _ _ _ (.sc _) .nil))⟩
        simp only [Instr.next, Nat.zero_mul, Nat.add_zero, hbase, Sem.run_bind, hget w rfl, Result.andThen_ok, if_neg hlt, Sem.run_pure]
    · -- a nil map's
      rename_i hg
      obtain ⟨⟨hbase, si, se, st, hb1⟩, hb2, hb3⟩ := hR.live _ _ hg
      cases h
      refine ⟨_, List.mem_singleton.2 rfl, SndV.same hR (v' := .tuple #[.bool false]) ?_ (.tuple _ [_] (.cons _ _ _ _ (.sc _) .nil))⟩
      have hget : (getObj (ι b).blk).run E.P w = .ok (.mapIter none si se st) w := by simp [getObj, Sem.run, hb1]
      simp only [Instr.next, Nat.zero_mul, Nat.add_zero, hbase, Sem.run_bind, hget, Result.andThen_ok, Sem.run_pure]
    · -- a map's
      rename_i m since seen hg
      obtain ⟨hb1, hb2, hb3⟩ := hR.live _ _ hg
      obtain ⟨⟨g0, g0', g0''⟩, s', se', st, g1, g2, g3, g4⟩ := hb1
      subst g2
      split at h
      · rename_i kvs clock hgm
        split at h
        · rename_i hcl
          obtain ⟨es, e1, e2, e3, e4, e5⟩ := (hR.live _ _ hgm).1
          obtain ⟨q1, q2⟩ := g4 es clock e1
          have q2' : ∀ e ∈ es.toList, (e.born ∈ se' ↔ e.key ∈ seen) := fun e he => (q2 hcl e he).1
          have g3 := g3.symm
          subst g3
          have hget : (getObj (ι b).blk).run E.P w = .ok (.mapIter (some (ι m).blk) s' se' s') w := by simp [getObj, Sem.run, g1]
          have hgetm : (getObj (ι m).blk).run E.P w = .ok (.map es clock) w := run_getObj_map e1
          have hguard : ((!se'.isEmpty && !es.isEmpty && es.all (fun e => decide (e.born ≥ s'))) = true) = False := by
            simp only [eq_iff_iff, iff_false]
            intro hc
            simp only [Bool.and_eq_true, Bool.not_eq_true'] at hc
            obtain ⟨⟨_, hne⟩, hall⟩ := hc
            have : 0 < es.size := by
              rcases Nat.eq_zero_or_pos es.size with h0 | h0
              · simp [Array.isEmpty, h0] at hne
              · exact h0
            have h0 : es[0] ∈ es.toList := by simp
            have hb0 := e4 _ h0
            rw [Array.all_eq_true] at hall
            have := hall 0 this
            simp at this
            omega
          -- what is left
          have hold : (es.filter fun e => !se'.contains e.born).filter (fun e => decide (e.born < s')) = es.filter fun e => !se'.contains e.born := by
            rw [Array.filter_eq_self]
            intro e he
            have := e4 e (by simpa using (Array.mem_filter.1 he).1)
            simp; omega
          have hnew : (es.filter fun e => !se'.contains e.born).filter (fun e => decide (e.born ≥ s')) = #[] := by
            rw [Array.filter_eq_empty_iff]
            intro e he
            have := e4 e (by simpa using (Array.mem_filter.1 he).1)
            simp; omega
          cases hu : unseen seen kvs with
          | none => simp [hu] at h
          | some ll =>
            obtain ⟨u1, u2⟩ := unseen_sound e2 q2' hu
            have ulen := u1.length
            have hfl : (es.filter fun e => !se'.contains e.born).toList = es.toList.filter fun e => !se'.contains e.born := by simp
            generalize hL : (es.filter fun e => !se'.contains e.born) = L at hold hnew hfl
            rw [← hfl] at u1 ulen
            cases ll with
            | nil =>
              simp [hu] at h
              subst h
              have hL0 : L = #[] := by
                have : L.toList = [] := List.length_eq_zero_iff.1 (by simpa using ulen.symm)
                exact Array.toList_eq_nil_iff.1 this
              refine ⟨_, List.mem_singleton.2 rfl, SndV.same hR (v' := .tuple #[.bool false]) ?_ (.tuple _ [_] (.cons _ _ _ _ (.sc _) .nil))⟩
              simp only [Instr.next, Nat.zero_mul, Nat.add_zero, g0'', Sem.run_bind, hget, hgetm, Result.andThen_ok, hguard, if_false, hL, hL0]
              simp [Question.forced]
            | cons kv0 lr =>
              simp only [hu, Option.some.injEq] at h
              subst h
              have hLpos : 0 < L.size := by
                have : L.toList.length = (kv0 :: lr).length := ulen.symm
                simp at this; omega
              have hLne : L.isEmpty = false := by
                cases hE : L.isEmpty with
                | false => rfl
                | true =>
                  rw [Array.isEmpty_iff] at hE
                  rw [hE] at hLpos; simp at hLpos
              obtain ⟨i, w1, hi, hch, hw1, hs1⟩ := run_chooseNext (w := w) E.P L.size hLpos
              have hgi : L.toList[i]? = some L[i] := by simp [hi]
              obtain ⟨k, v, hkv, hk, hv⟩ := u1.get hgi
              obtain ⟨k0, hk0, hpk⟩ := u2 (k, v) (List.mem_of_getElem? hkv)
              simp only at hk0
              subst hk0
              obtain hkk := hk.sc_inv
              have hcand : ((if L.isEmpty = true then #[none] else #[]) ++ (L ++ #[]).map some : Array (Option MapEntry)) = L.map some := by simp [hLne]
              have hR1 : Rel E ι H σ w1 := hR.congr hw1 hs1
              have hb1' : w1.heap[(ι b).blk]? = some (.mapIter (some (ι m).blk) s' se' s') := by rw [hw1]; exact g1
              have hb3' : (ι b).blk < w1.heap.size := by rw [hw1]; exact hb3
              have hLi : L[i] ∈ es.toList := by
                have : L[i] ∈ L.toList := by simp
                rw [hfl] at this
                exact (List.mem_filter.1 this).1
              refine ⟨(.tuple [.sc (.bool true), .sc k0, v], σ.set b (.miter m s' (seen ++ [k0]))), ?_, .tuple #[.bool true, L[i].key, L[i].val],
                { w1 with heap := w1.heap.setIfInBounds (ι b).blk (.mapIter (some (ι m).blk) s' (se'.push L[i].born) clock) }, ι, H, ?_, ?_, ?_, Ext.refl _ _ _⟩
              · exact List.mem_map.2 ⟨(.sc k0, v), List.mem_of_getElem? hkv, rfl⟩
              · simp only [Instr.next, Nat.zero_mul, Nat.add_zero, g0'', Sem.run_bind, hget, hgetm, Result.andThen_ok, hguard, if_false, hL, hold, hnew, hcand, Array.size_map, hch]
                have hci : (L.map some)[i]? = some (some L[i]) := by simp [hi]
                rw [hci]
                simp [setObj, Sem.run, hb1']
              · rw [hkk] at *
                exact .tuple _ [_, _, _] (.cons _ _ _ _ (.sc _) (.cons _ _ _ _ (.sc _) (.cons _ _ _ _ hv .nil)))
              · refine hR1.set hg (by simp) (fun c hc => by simp [Ne.symm hc]) ⟨rfl, rfl⟩ ?_ ?_
                · have hne : (ι m).blk ≠ (ι b).blk := by
                    intro hc
                    have := hR.inj m b _ _ hgm hg hc
                    subst this
                    rw [hg] at hgm; cases hgm
                  refine ⟨⟨g0, by simp [hw1]; exact g0', g0''⟩, s', se'.push L[i].born, clock, by simp [hb3'], rfl, by omega, ?_⟩
                  intro es' clock' hh
                  simp [Ne.symm hne, hw1, e1] at hh
                  obtain ⟨rfl, rfl⟩ := hh
                  refine ⟨by omega, fun _ e he => ⟨?_, ?_⟩⟩
                  · rw [Array.mem_push, List.mem_append, q2' e he]
                    constructor
                    · rintro (h' | h')
                      · exact .inl h'
                      · right
                        have : e = L[i] := nodup_inj (·.born) e3 he hLi h'
                        rw [this, hkk]; simp
                    · rintro (h' | h')
                      · exact .inl h'
                      · right
                        simp at h'
                        have : e = L[i] := nodup_inj (·.key) e5 he hLi (by rw [h', hkk])
                        rw [this]
                  · simp only [Array.back?_push, List.getLast?_append, List.getLast?_singleton, Option.some_or, Option.some.injEq]
                    constructor
                    · intro h'
                      have : e = L[i] := nodup_inj (·.born) e3 he hLi h'.symm
                      rw [this, hkk]
                    · intro h'
                      have : e = L[i] := nodup_inj (·.key) e5 he hLi (by rw [← h', hkk])
                      rw [this]
                · intro b' m' since seen' hne hz hmb
                  obtain ⟨h1, h2, h3⟩ := hR1.live b' _ hz
                  have hne' : (ι b').blk ≠ (ι b).blk := fun hc => hne (hR1.inj b' b _ _ hz hg hc)
                  obtain ⟨⟨f0, f0', f0''⟩, s'', se'', st', f1, f2, f3, f4⟩ := h1
                  refine ⟨⟨f0, by simpa using f0', f0''⟩, s'', se'', st', by simp [Ne.symm hne', f1], f2, f3, ?_⟩
                  intro es' clock' hh
                  rw [hmb] at hh
                  simp [hb3'] at hh
        · cases h
      · cases h
    · cases h
  · cases h

/-! ### The entry of the last step -/

def findKey (k : Value) : List (AVal × AVal) → Option AVal
  | [] => none
  | (.sc k', v) :: rest => if veq k k' then some v else findKey k rest
  | _ :: _ => none

def aEntry (iter : AVal) (σ : AStore) : Option AVal :=
  match iter with
  | .ptr b 0 0 =>
    match σ.get b with
    | some (.miter m since seen) =>
      match seen.getLast?, σ.get m with
      | some k, some (.map kvs clock) =>
        if clock = since then
          if isPlain k then
            match findKey k kvs with
            | some v => some (.tuple [.sc k, v])
            | none => none
          else none
        else none
      | _, _ => none
    | _ => none
  | _ => none

theorem findKey_sound {n : Nat} {k : Value} (hp : isPlain k = true) : ∀ {kvs : List (AVal × AVal)} {es : List MapEntry} {v : AVal}, KRel n ι H kvs es → findKey k kvs = some v →
    ∃ e ∈ es, e.key = k ∧ VRel n ι H v e.val
  | _, _, v, .nil, h => by simp [findKey] at h
  | _, _, v, .cons key v0 e kvs es hk hv hs, h => by
      cases key with
      | sc k' =>
        obtain hkk := hk.sc_inv
        simp only [findKey] at h
        split at h
        · rename_i hq
          cases h
          exact ⟨e, by simp, by rw [hkk]; exact ((veq_iff hp).1 hq).symm, hv⟩
        · obtain ⟨e', h1, h2, h3⟩ := findKey_sound hp hs h
          exact ⟨e', by simp [h1], h2, h3⟩
      | _ => simp [findKey] at h

theorem find_born {es : List MapEntry} (hn : (es.map (·.born)).Nodup) {e : MapEntry} (he : e ∈ es) : es.find? (fun x => x.born == e.born) = some e := by
  induction es with
  | nil => simp at he
  | cons x es ih =>
    simp only [List.map_cons, List.nodup_cons, List.mem_map, not_exists, not_and] at hn
    rw [List.find?_cons]
    simp at he
    rcases he with rfl | he
    · simp
    · have hne : (x.born == e.born) = false := by
        rw [beq_eq_false_iff_ne]
        intro hc
        exact hn.1 e he hc.symm
      rw [hne]
      exact ih hn.2 he

theorem aEntry_sound (hR : Rel E ι H σ w) {x v : AVal} {x' : Value} (hx : VRel σ.next ι H x x') (h : aEntry x σ = some v) :
    SndV E ι H σ ((Instr.entry x').run E.P w) v σ := by
  unfold aEntry at h
  split at h
  · rename_i b
    obtain ⟨hb, rfl⟩ := hx.ptr_inv
    split at h
    · rename_i m since seen hg
      split at h
      · rename_i k kvs clock hlast hgm
        split at h
        · rename_i hcl
          split at h
          · rename_i hp
            split at h
            · rename_i v0 hf
              cases h
              obtain ⟨hb1, hb2, hb3⟩ := hR.live _ _ hg
              obtain ⟨⟨g0, g0', g0''⟩, s', se', st, g1, g2, g3, g4⟩ := hb1
              subst g2
              have g3 := g3.symm
              subst g3
              obtain ⟨es, e1, e2, e3, e4, e5⟩ := (hR.live _ _ hgm).1
              obtain ⟨e, he, hek, hev⟩ := findKey_sound hp e2 hf
              have hbk := (((g4 es clock e1).2 hcl e he).2).2 (by rw [hlast, hek])
              have hget : (getObj (ι b).blk).run E.P w = .ok (.mapIter (some (ι m).blk) s' se' s') w := by simp [getObj, Sem.run, g1]
              have hgetm : (getObj (ι m).blk).run E.P w = .ok (.map es clock) w := run_getObj_map e1
              have hfind : es.find? (fun x => x.born == e.born) = some e := by
                rw [← Array.find?_toList]; exact find_born e3 he
              refine SndV.same hR (v' := .tuple #[e.key, e.val]) ?_ (.tuple _ [_, _] (.cons _ _ _ _ (by rw [hek]; exact .sc _) (.cons _ _ _ _ hev .nil)))
              simp only [Instr.entry, Nat.zero_mul, Nat.add_zero, g0'', Sem.run_bind, hget, hgetm, Result.andThen_ok, hbk, hcl, bne_self_eq_false, Bool.false_eq_true, if_false, hfind, Sem.run_pure]
            · cases h
          · cases h
        · cases h
      · cases h
    · cases h
  · cases h
end
end Abs

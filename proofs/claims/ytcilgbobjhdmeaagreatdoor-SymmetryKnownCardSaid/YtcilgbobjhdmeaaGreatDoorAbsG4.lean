/-
  Part of the abstract layer (M Nu N O P): values, stores and steps that stand for those of the model, and the proof that they do. It proves no statement by itself.
-/
import Derived.Test.YtcilgbobjhdmeaaGreatDoorAbsG3
import Derived.RangeFuncLeaves
import Derived.OrdersIn
import Derived.RangeFuncCalls
import Derived.Scope
import Derived.ScopeJumps
import Derived.Deep.LoopGhost
noncomputable section
namespace Abs
set_option linter.unusedVariables false
set_option linter.unusedSimpArgs false
set_option linter.unusedSectionVars false
open Go

section
variable {E : Env} {ι : Inj} {H : Imm} {σ σ' : AStore} {w : World}

/-! ### Iterating -/

def veq : Value → Value → Bool
  | .int k a, .int k' b => decide (k = k') && decide (a = b)
  | .string a, .string b => decide (a = b)
  | .bool a, .bool b => a == b
  | _, _ => false

def isPlain : Value → Bool
  | .int _ _ | .string _ | .bool _ => true
  | _ => false

theorem veq_iff {a b : Value} (ha : isPlain a = true) : veq a b = true ↔ a = b := by
  cases a <;> simp [isPlain] at ha <;> cases b <;> simp [veq]

def aRange (d : TypeDesc) (x : AVal) (σ : AStore) : Option (AVal × AStore) :=
  match d, x with
  | .string, .sc (.string s) => some (.ptr σ.next 0 0, σ.alloc (.siter s 0))
  | .map _ _, .sc (.map none) => some (.ptr σ.next 0 0, σ.alloc .mitern)
  | .map _ _, .map b =>
    match σ.get b with
    | some (.map _ clock) => some (.ptr σ.next 0 0, σ.alloc (.miter b clock []))
    | _ => none
  | _, _ => none

theorem aRange_sound (hR : Rel E ι H σ w) {t : TypeId} {i : TyI} (hs : E.ty t = some i) {x v : AVal} {x' : Value} (hx : VRel σ.next ι H x x') (h : aRange i.desc x σ = some (v, σ')) :
    SndV E ι H σ ((Instr.range t x').run E.P w) v σ' := by
  have hu := run_underlying E.ok hs w
  have fin : ∀ (o : Obj) (y : ABlk), BlkRel σ.next ι H { w with heap := w.heap.push o } ⟨w.heap.size, 0, 0, 0, 0⟩ y →
      SndV E ι H σ (.ok (.pointer (some ⟨w.heap.size, 0, none⟩)) { w with heap := w.heap.push o }) (.ptr σ.next 0 0) (σ.alloc y) := by
    intro o y hy
    refine ⟨_, _, upd ι σ.next ⟨w.heap.size, 0, 0, 0, 0⟩, H, rfl, ?_, hR.alloc rfl hy, Ext.upd _ _ _ _⟩
    have := VRel.ptr (n := σ.next + 1) (ι := upd ι σ.next ⟨w.heap.size, 0, 0, 0, 0⟩) (H := H) σ.next 0 0 (by omega)
    simp only [upd_self, Nat.zero_mul, Nat.add_zero] at this
    exact this
  unfold aRange at h
  split at h
  · rename_i s hd
    obtain rfl := hx.sc_inv
    cases h
    have := fin (.stringIter s 0) (.siter s 0) (by simp [BlkRel])
    simp only [Instr.range, Sem.run_bind, hu, Result.andThen_ok, hd]
    exact this
  · rename_i hd
    obtain rfl := hx.sc_inv
    cases h
    have := fin (.mapIter none 0 #[] 0) .mitern ⟨rfl, 0, #[], 0, by simp⟩
    simp only [Instr.range, Sem.run_bind, hu, Result.andThen_ok, hd]
    exact this
  · rename_i b hd
    obtain ⟨hb, rfl⟩ := hx.map_inv
    split at h
    · rename_i kvs clock hg
      cases h
      obtain ⟨hb1, _, hb3⟩ := hR.live _ _ hg
      obtain ⟨es, h1, h2, h3, h4, h5⟩ := hb1
      have hne : (ι b).blk ≠ w.heap.size := by omega
      have hpush : ∀ o, (w.heap.push o)[(ι b).blk]? = some (.map es clock) := by
        intro o; simp [Array.getElem?_push, hne, h1]
      have := fin (.mapIter (some (ι b).blk) clock #[] clock) (.miter b clock []) ⟨⟨hb, by simp; omega, rfl⟩, clock, #[], clock, by simp, rfl, rfl, by
        intro es' clock' hh
        have hh' := (hpush (.mapIter (some (ι b).blk) clock #[] clock)).symm.trans hh
        cases hh'
        exact ⟨Nat.le_refl _, fun _ e _ => by simp⟩⟩
      simp only [Instr.range, Sem.run_bind, hu, Result.andThen_ok, hd, run_getObj_map h1]
      exact this
    · cases h
  · cases h

def unseen (seen : List Value) : List (AVal × AVal) → Option (List (AVal × AVal))
  | [] => some []
  | (.sc k, v) :: rest =>
    if isPlain k then
      match unseen seen rest with
      | some l => some (if seen.any (veq k) then l else (.sc k, v) :: l)
      | none => none
    else none
  | _ :: _ => none

def keyV : AVal → Value
  | .sc k => k
  | _ => .bool false

def aNext (iter : AVal) (isString : Bool) (σ : AStore) : Option (List (AVal × AStore)) :=
  match iter with
  | .ptr b 0 0 =>
    match σ.get b, isString with
    | some (.siter s pos), true =>
      if pos < s.size then
        let r := Utf8.decode s pos
        some [(.tuple [.sc (.bool true), .sc (.int .i64 pos), .sc (.int .i32 r.1)], σ.set b (.siter s (pos + r.2)))]
      else some [(.tuple [.sc (.bool false)], σ)]
    | some .mitern, false => some [(.tuple [.sc (.bool false)], σ)]
    | some (.miter m since seen), false =>
      match σ.get m with
      | some (.map kvs clock) =>
        if clock = since then
          match unseen seen kvs with
          | some [] => some [(.tuple [.sc (.bool false)], σ)]
          | some l => some (l.map fun kv => (.tuple [.sc (.bool true), kv.1, kv.2], σ.set b (.miter m since (seen ++ [keyV kv.1]))))
          | none => none
        else none
      | _ => none
    | _, _ => none
  | _ => none

theorem unseen_sound {n : Nat} {seen : List Value} {seen' : Array Nat} : ∀ {kvs : List (AVal × AVal)} {es : List MapEntry} {l : List (AVal × AVal)}, KRel n ι H kvs es →
    (∀ e ∈ es, (e.born ∈ seen' ↔ e.key ∈ seen)) → unseen seen kvs = some l → KRel n ι H l (es.filter fun e => !seen'.contains e.born) ∧ ∀ kv ∈ l, ∃ k, kv.1 = .sc k ∧ isPlain k = true
  | _, _, l, .nil, _, h => by simp [unseen] at h; subst h; exact ⟨.nil, by simp⟩
  | _, _, l, .cons key v e kvs es hk hv hs, hse, h => by
      cases key with
      | sc k =>
        obtain rfl := hk.sc_inv
        simp only [unseen] at h
        split at h
        · rename_i hp
          cases hr : unseen seen kvs with
          | none => simp [hr] at h
          | some l' =>
            simp only [hr] at h
            obtain ⟨i1, i2⟩ := unseen_sound hs (fun e he => hse e (by simp [he])) hr
            have hany : (seen.any (veq e.key)) = seen'.contains e.born := by
              have h0 := hse e (by simp)
              rw [Bool.eq_iff_iff, List.any_eq_true]
              simp only [Array.contains_iff_mem]
              rw [h0]
              constructor
              · rintro ⟨x, hx, hv⟩
                rw [(veq_iff hp).1 hv]; exact hx
              · intro hx
                exact ⟨e.key, hx, (veq_iff hp).2 rfl⟩
            cases hc : seen'.contains e.born with
            | true =>
              rw [hany, hc] at h
              simp at h
              subst h
              exact ⟨by rw [List.filter_cons, hc]; simpa using i1, i2⟩
            | false =>
              rw [hany, hc] at h
              simp at h
              subst h
              refine ⟨by rw [List.filter_cons, hc]; exact KRel.cons (.sc e.key) v e _ _ hk hv i1, ?_⟩
              intro kv hkv
              simp at hkv
              rcases hkv with rfl | hkv
              · exact ⟨e.key, rfl, hp⟩
              · exact i2 kv hkv
        · cases h
      | _ => simp [unseen] at h

theorem nodup_inj {α β : Type} (f : α → β) : ∀ {l : List α}, (l.map f).Nodup → ∀ {x y : α}, x ∈ l → y ∈ l → f x = f y → x = y
  | [], _, _, _, h, _, _ => by simp at h
  | a :: l, hn, x, y, hx, hy, hf => by
      simp only [List.map_cons, List.nodup_cons, List.mem_map, not_exists, not_and] at hn
      simp at hx hy
      rcases hx with rfl | hx <;> rcases hy with rfl | hy
      · rfl
      · exact absurd hf.symm (hn.1 y hy)
      · exact absurd hf (hn.1 x hx)
      · exact nodup_inj f hn.2 hx hy hf

/-- One of the ways. -/
def SndL (E : Env) (ι : Inj) (H : Imm) (σ : AStore) (r : Result Value) (l : List (AVal × AStore)) : Prop := ∃ p ∈ l, SndV E ι H σ r p.1 p.2

theorem run_chooseNext (P : Program) (m : Nat) (hm : 0 < m) : ∃ i w', i < m ∧ (choose (.mapNext m)).run P w = .ok i w' ∧ w'.heap = w.heap ∧ Same w w' := by
  by_cases hf : m ≤ 1
  · exact ⟨0, w, hm, by simp [Question.forced, hf], rfl, ⟨rfl, rfl⟩⟩
  · refine ⟨(Question.mapNext m).cut (w.tape w.drawn (.mapNext m)), { w with drawn := w.drawn + 1 }, ?_, by simp [Question.forced, hf], rfl, ⟨rfl, rfl⟩⟩
    simp only [Question.cut]
    exact Nat.mod_lt _ hm

theorem aNext_sound (hR : Rel E ι H σ w) {x : AVal} {x' : Value} (hx : VRel σ.next ι H x x') {isS : Bool} {l : List (AVal × AStore)} (h : aNext x isS σ = some l) (t : TypeId) :
    SndL E ι H σ ((Instr.next x' isS t).run E.P w) l := by
  unfold aNext at h
  split at h
  · rename_i b
    obtain ⟨hb, rfl⟩ := hx.ptr_inv
    split at h
    · -- a string's
      rename_i s pos hg
      obtain ⟨⟨hbase, hb1⟩, hb2, hb3⟩ := hR.live _ _ hg
      have hget : ∀ w' : World, w'.heap = w.heap → (getObj (ι b).blk).run E.P w' = .ok (.stringIter s pos) w' := by
        intro w' hw'; simp [getObj, Sem.run, hw', hb1]
      split at h
      · rename_i hlt
        cases h
        refine ⟨_, List.mem_singleton.2 rfl, .tuple #[.bool true, .int .i64 pos, .int .i32 (Utf8.decode s pos).1], { w with heap := w.heap.setIfInBounds (ι b).blk (.stringIter s (pos + (Utf8.decode s pos).2)) }, ι, H, ?_, ?_, ?_, Ext.refl _ _ _⟩
        · simp only [Instr.next, Nat.zero_mul, Nat.add_zero, hbase, Sem.run_bind, hget w rfl, Result.andThen_ok, if_pos hlt]
          simp [setObj, Sem.run, hb1, goInt]
        · exact .tuple _ [_, _, _] (.cons _ _ _ _ (.sc _) (.cons _ _ _ _ (.sc _) (.cons _ _ _ _ (.sc _) .nil)))
        · refine hR.set hg (by simp) (fun c hc => by simp [Ne.symm hc]) ⟨rfl, rfl⟩ ⟨hbase, by simp [hb3]⟩ ?_
          intro b' m since seen hne hz hmb
          obtain ⟨h1, h2, h3⟩ := hR.live b' _ hz
          have hne' : (ι b').blk ≠ (ι b).blk := fun hc => hne (hR.inj b' b _ _ hz hg hc)
          obtain ⟨⟨g0, g0', g0''⟩, s', se', st, g1, g2, g3, g4⟩ := h1
          refine ⟨⟨g0, by simpa using g0', g0''⟩, s', se', st, by simp [Ne.symm hne', g1], g2, g3, ?_⟩
          intro es clock hh
          rw [hmb] at hh
          simp [hb3] at hh
      · rename_i hlt
        cases h
        refine ⟨_, List.mem_singleton.2 rfl, SndV.same hR (v' := .tuple #[.bool false]) ?_ (.tuple _ [_] (.cons _ _ _ _ (.sc _) .nil))⟩
        simp only [Instr.next, Nat.zero_mul, Nat.add_zero, hbase, Sem.run_bind, hget w rfl, Result.andThen_ok, if_neg hlt, Sem.run_pure]
    · -- a nil map's
      rename_i hg
      obtain ⟨⟨hbase, si, se, st, hb1⟩, hb2, hb3⟩ := hR.live _ _ hg
      cases h
      refine ⟨_, List.mem_singleton.2 rfl, SndV.same hR (v' := .tuple #[.bool false]) ?_ (.tuple _ [_] (.cons _ _ _ _ (.sc _) .nil))⟩
      have hget : (getObj (ι b).blk).run E.P w = .ok (.mapIter none si se st) w := by simp [getObj, Sem.run, hb1]
      simp only [Instr.next, Nat.zero_mul, Nat.add_zero, hbase, Sem.run_bind, hget, Result.andThen_ok, Sem.run_pure]
    · -- a map's
      rename_i m since seen hg
      obtain ⟨hb1, hb2, hb3⟩ := hR.live _ _ hg
      obtain ⟨⟨g0, g0', g0''⟩, s', se', st, g1, g2, g3, g4⟩ := hb1
      subst g2
      split at h
      · rename_i kvs clock hgm
        split at h
        · rename_i hcl
          obtain ⟨es, e1, e2, e3, e4, e5⟩ := (hR.live _ _ hgm).1
          obtain ⟨q1, q2⟩ := g4 es clock e1
          have q2' : ∀ e ∈ es.toList, (e.born ∈ se' ↔ e.key ∈ seen) := fun e he => (q2 hcl e he).1
          have g3 := g3.symm
          subst g3
          have hget : (getObj (ι b).blk).run E.P w = .ok (.mapIter (some (ι m).blk) s' se' s') w := by simp [getObj, Sem.run, g1]
          have hgetm : (getObj (ι m).blk).run E.P w = .ok (.map es clock) w := run_getObj_map e1
          have hguard : ((!se'.isEmpty && !es.isEmpty && es.all (fun e => decide (e.born ≥ s'))) = true) = False := by
            simp only [eq_iff_iff, iff_false]
            intro hc
            simp only [Bool.and_eq_true, Bool.not_eq_true'] at hc
            obtain ⟨⟨_, hne⟩, hall⟩ := hc
            have : 0 < es.size := by
              rcases Nat.eq_zero_or_pos es.size with h0 | h0
              · simp [Array.isEmpty, h0] at hne
              · exact h0
            have h0 : es[0] ∈ es.toList := by simp
            have hb0 := e4 _ h0
            rw [Array.all_eq_true] at hall
            have := hall 0 this
            simp at this
            omega
          -- what is left
          have hold : (es.filter fun e => !se'.contains e.born).filter (fun e => decide (e.born < s')) = es.filter fun e => !se'.contains e.born := by
            rw [Array.filter_eq_self]
            intro e he
            have := e4 e (by simpa using (Array.mem_filter.1 he).1)
            simp; omega
          have hnew : (es.filter fun e => !se'.contains e.born).filter (fun e => decide (e.born ≥ s')) = #[] := by
            rw [Array.filter_eq_empty_iff]
            intro e he
            have := e4 e (by simpa using (Array.mem_filter.1 he).1)
            simp; omega
          cases hu : unseen seen kvs with
          | none => simp [hu] at h
          | some ll =>
            obtain ⟨u1, u2⟩ := unseen_sound e2 q2' hu
            have ulen := u1.length
            have hfl : (es.filter fun e => !se'.contains e.born).toList = es.toList.filter fun e => !se'.contains e.born := by simp
            generalize hL : (es.filter fun e => !se'.contains e.born) = L at hold hnew hfl
            rw [← hfl] at u1 ulen
            cases ll with
            | nil =>
              simp [hu] at h
              subst h
              have hL0 : L = #[] := by
                have : L.toList = [] := List.length_eq_zero_iff.1 (by simpa using ulen.symm)
                exact Array.toList_eq_nil_iff.1 this
              refine ⟨_, List.mem_singleton.2 rfl, SndV.same hR (v' := .tuple #[.bool false]) ?_ (.tuple _ [_] (.cons _ _ _ _ (.sc _) .nil))⟩
              simp only [Instr.next, Nat.zero_mul, Nat.add_zero, g0'', Sem.run_bind, hget, hgetm, Result.andThen_ok, hguard, if_false, hL, hL0]
              simp [Question.forced]
            | cons kv0 lr =>
              simp only [hu, Option.some.injEq] at h
              subst h
              have hLpos : 0 < L.size := by
                have : L.toList.length = (kv0 :: lr).length := ulen.symm
                simp at this; omega
              have hLne : L.isEmpty = false := by
                cases hE : L.isEmpty with
                | false => rfl
                | true =>
                  rw [Array.isEmpty_iff] at hE
                  rw [hE] at hLpos; simp at hLpos
              obtain ⟨i, w1, hi, hch, hw1, hs1⟩ := run_chooseNext (w := w) E.P L.size hLpos
              have hgi : L.toList[i]? = some L[i] := by simp [hi]
              obtain ⟨k, v, hkv, hk, hv⟩ := u1.get hgi
              obtain ⟨k0, hk0, hpk⟩ := u2 (k, v) (List.mem_of_getElem? hkv)
              simp only at hk0
              subst hk0
              obtain hkk := hk.sc_inv
              have hcand : ((if L.isEmpty = true then #[none] else #[]) ++ (L ++ #[]).map some : Array (Option MapEntry)) = L.map some := by simp [hLne]
              have hR1 : Rel E ι H σ w1 := hR.congr hw1 hs1
              have hb1' : w1.heap[(ι b).blk]? = some (.mapIter (some (ι m).blk) s' se' s') := by rw [hw1]; exact g1
              have hb3' : (ι b).blk < w1.heap.size := by rw [hw1]; exact hb3
              have hLi : L[i] ∈ es.toList := by
                have : L[i] ∈ L.toList := by simp
                rw [hfl] at this
                exact (List.mem_filter.1 this).1
              refine ⟨(.tuple [.sc (.bool true), .sc k0, v], σ.set b (.miter m s' (seen ++ [k0]))), ?_, .tuple #[.bool true, L[i].key, L[i].val],
                { w1 with heap := w1.heap.setIfInBounds (ι b).blk (.mapIter (some (ι m).blk) s' (se'.push L[i].born) clock) }, ι, H, ?_, ?_, ?_, Ext.refl _ _ _⟩
              · exact List.mem_map.2 ⟨(.sc k0, v), List.mem_of_getElem? hkv, rfl⟩
              · simp only [Instr.next, Nat.zero_mul, Nat.add_zero, g0'', Sem.run_bind, hget, hgetm, Result.andThen_ok, hguard, if_false, hL, hold, hnew, hcand, Array.size_map, hch]
                have hci : (L.map some)[i]? = some (some L[i]) := by simp [hi]
                rw [hci]
                simp [setObj, Sem.run, hb1']
              · rw [hkk] at *
                exact .tuple _ [_, _, _] (.cons _ _ _ _ (.sc _) (.cons _ _ _ _ (.sc _) (.cons _ _ _ _ hv .nil)))
              · refine hR1.set hg (by simp) (fun c hc => by simp [Ne.symm hc]) ⟨rfl, rfl⟩ ?_ ?_
                · have hne : (ι m).blk ≠ (ι b).blk := by
                    intro hc
                    have := hR.inj m b _ _ hgm hg hc
                    subst this
                    rw [hg] at hgm; cases hgm
                  refine ⟨⟨g0, by simp [hw1]; exact g0', g0''⟩, s', se'.push L[i].born, clock, by simp [hb3'], rfl, by omega, ?_⟩
                  intro es' clock' hh
                  simp [Ne.symm hne, hw1, e1] at hh
                  obtain ⟨rfl, rfl⟩ := hh
                  refine ⟨by omega, fun _ e he => ⟨?_, ?_⟩⟩
                  · rw [Array.mem_push, List.mem_append, q2' e he]
                    constructor
                    · rintro (h' | h')
                      · exact .inl h'
                      · right
                        have : e = L[i] := nodup_inj (·.born) e3 he hLi h'
                        rw [this, hkk]; simp
                    · rintro (h' | h')
                      · exact .inl h'
                      · right
                        simp at h'
                        have : e = L[i] := nodup_inj (·.key) e5 he hLi (by rw [h', hkk])
                        rw [this]
                  · simp only [Array.back?_push, List.getLast?_append, List.getLast?_singleton, Option.some_or, Option.some.injEq]
                    constructor
                    · intro h'
                      have : e = L[i] := nodup_inj (·.born) e3 he hLi h'.symm
                      rw [this, hkk]
                    · intro h'
                      have : e = L[i] := nodup_inj (·.key) e5 he hLi (by rw [← h', hkk])
                      rw [this]
                · intro b' m' since seen' hne hz hmb
                  obtain ⟨h1, h2, h3⟩ := hR1.live b' _ hz
                  have hne' : (ι b').blk ≠ (ι b).blk := fun hc => hne (hR1.inj b' b _ _ hz hg hc)
                  obtain ⟨⟨f0, f0', f0''⟩, s'', se'', st', f1, f2, f3, f4⟩ := h1
                  refine ⟨⟨f0, by simpa using f0', f0''⟩, s'', se'', st', by simp [Ne.symm hne', f1], f2, f3, ?_⟩
                  intro es' clock' hh
                  rw [hmb] at hh
                  simp [hb3'] at hh
        · cases h
      · cases h
    · cases h
  · cases h

/-! ### The entry of the last step -/

def findKey (k : Value) : List (AVal × AVal) → Option AVal
  | [] => none
  | (.sc k', v) :: rest => if veq k k' then some v else findKey k rest
  | _ :: _ => none

def aEntry (iter : AVal) (σ : AStore) : Option AVal :=
  match iter with
  | .ptr b 0 0 =>
    match σ.get b with
    | some (.miter m since seen) =>
      match seen.getLast?, σ.get m with
      | some k, some (.map kvs clock) =>
        if clock = since then
          if isPlain k then
            match findKey k kvs with
            | some v => some (.tuple [.sc k, v])
            | none => none
          else none
        else none
      | _, _ => none
    | _ => none
  | _ => none

theorem findKey_sound {n : Nat} {k : Value} (hp : isPlain k = true) : ∀ {kvs : List (AVal × AVal)} {es : List MapEntry} {v : AVal}, KRel n ι H kvs es → findKey k kvs = some v →
    ∃ e ∈ es, e.key = k ∧ VRel n ι H v e.val
  | _, _, v, .nil, h => by simp [findKey] at h
  | _, _, v, .cons key v0 e kvs es hk hv hs, h => by
      cases key with
      | sc k' =>
        obtain hkk := hk.sc_inv
        simp only [findKey] at h
        split at h
        · rename_i hq
          cases h
          exact ⟨e, by simp, by rw [hkk]; exact ((veq_iff hp).1 hq).symm, hv⟩
        · obtain ⟨e', h1, h2, h3⟩ := findKey_sound hp hs h
          exact ⟨e', by simp [h1], h2, h3⟩
      | _ => simp [findKey] at h

theorem find_born {es : List MapEntry} (hn : (es.map (·.born)).Nodup) {e : MapEntry} (he : e ∈ es) : es.find? (fun x => x.born == e.born) = some e := by
  induction es with
  | nil => simp at he
  | cons x es ih =>
    simp only [List.map_cons, List.nodup_cons, List.mem_map, not_exists, not_and] at hn
    rw [List.find?_cons]
    simp at he
    rcases he with rfl | he
    · simp
    · have hne : (x.born == e.born) = false := by
        rw [beq_eq_false_iff_ne]
        intro hc
        exact hn.1 e he hc.symm
      rw [hne]
      exact ih hn.2 he

theorem aEntry_sound (hR : Rel E ι H σ w) {x v : AVal} {x' : Value} (hx : VRel σ.next ι H x x') (h : aEntry x σ = some v) :
    SndV E ι H σ ((Instr.entry x').run E.P w) v σ := by
  unfold aEntry at h
  split at h
  · rename_i b
    obtain ⟨hb, rfl⟩ := hx.ptr_inv
    split at h
    · rename_i m since seen hg
      split at h
      · rename_i k kvs clock hlast hgm
        split at h
        · rename_i hcl
          split at h
          · rename_i hp
            split at h
            · rename_i v0 hf
              cases h
              obtain ⟨hb1, hb2, hb3⟩ := hR.live _ _ hg
              obtain ⟨⟨g0, g0', g0''⟩, s', se', st, g1, g2, g3, g4⟩ := hb1
              subst g2
              have g3 := g3.symm
              subst g3
              obtain ⟨es, e1, e2, e3, e4, e5⟩ := (hR.live _ _ hgm).1
              obtain ⟨e, he, hek, hev⟩ := findKey_sound hp e2 hf
              have hbk := (((g4 es clock e1).2 hcl e he).2).2 (by rw [hlast, hek])
              have hget : (getObj (ι b).blk).run E.P w = .ok (.mapIter (some (ι m).blk) s' se' s') w := by simp [getObj, Sem.run, g1]
              have hgetm : (getObj (ι m).blk).run E.P w = .ok (.map es clock) w := run_getObj_map e1
              have hfind : es.find? (fun x => x.born == e.born) = some e := by
                rw [← Array.find?_toList]; exact find_born e3 he
              refine SndV.same hR (v' := .tuple #[e.key, e.val]) ?_ (.tuple _ [_, _] (.cons _ _ _ _ (by rw [hek]; exact .sc _) (.cons _ _ _ _ hev .nil)))
              simp only [Instr.entry, Nat.zero_mul, Nat.add_zero, g0'', Sem.run_bind, hget, hgetm, Result.andThen_ok, hbk, hcl, bne_self_eq_false, Bool.false_eq_true, if_false, hfind, Sem.run_pure]
            · cases h
          · cases h
        · cases h
      · cases h
    · cases h
  · cases h
end
end Abs
end
noncomputable section
namespace Abs
set_option linter.unusedVariables false
set_option linter.unusedSimpArgs false
set_option linter.unusedSectionVars false
open Go

/-! ### What is told of a new block's type; bytes seen as a string -/

def sliceElem (E : Env) (t : TypeId) : Option TyI :=
  match E.ty t with
  | some i => match i.desc with
    | .slice e => E.ty e
    | _ => none
  | none => none

def u8z : AVal → Bool
  | .sc (.int .u8 _) => true
  | _ => false

def byteElem (E : Env) (t : TypeId) : Option Nat :=
  match E.ty t with
  | some i => match i.desc with
    | .slice e => match E.ty e with
      | some j => match u8z (absV j.zero) with
        | true => some e
        | false => none
      | none => none
    | _ => none
  | none => none

def appTag (E : Env) (t : TypeId) (s : AVal) (σ : AStore) (o : Option (AVal × AStore)) : Option (AVal × AStore) :=
  match byteElem E t with
  | some e => tagNew (tagS σ s e) e σ o
  | none => o

/-- Two cells, a pointer and a slice. -/
def isBld : AVal → Bool
  | .agg [.sc (.pointer none), .sc (.slice none 0 0)] => true
  | _ => false

def aSliceData (x : AVal) : Option AVal :=
  match x with
  | .sc (.slice none _ _) => some (.sc (.pointer none))
  | .slice b off len => if len ≠ 0 then some (.ptr b off 0) else none
  | _ => none

def ptrElem (E : Env) (t : TypeId) : Option (Nat × TyI) :=
  match E.ty t with
  | some i => match i.desc with
    | .pointer e => (E.ty e).map fun j => (e, j)
    | _ => none
  | none => none

def aUStr (E : Env) (pt : TypeId) (p n : AVal) (σ : AStore) : Option (AVal × AStore) :=
  match p, n with
  | .sc (.pointer none), .sc (.int .i64 0) => some (.sc (.string ByteArray.empty), σ)
  | .ptr b 0 0, .sc (.int .i64 n) =>
    match ptrElem E pt, σ.get b with
    | some (e, j), some (.cells sz els) =>
      if j.size = 1 ∧ sz = 1 ∧ 0 < n ∧ n < 4611686018427387904 ∧ n.toNat ≤ els.length ∧ hasTy σ.tys b e = true then
        match unbytes (els.take n.toNat) with
        | some ns => if (ns.all fun z => decide (0 ≤ z) && decide (z < 256)) = true then some (.sc (.string (strOf ns)), σ.del b) else none
        | none => none
      else none
    | _, _ => none
  | _, _ => none

section
variable {E : Env} {ι : Inj} {H : Imm} {σ σ' : AStore} {w : World}

theorem byteElem_none {t : TypeId} {j : TyI} (h : sliceElem E t = some j) (hz : u8z (absV j.zero) = false) : byteElem E t = none := by
  unfold sliceElem at h
  unfold byteElem
  split at h
  · rename_i i hi
    split at h
    · rename_i e hd
      simp only [h, hz]
    · cases h
  · cases h

theorem byteElem_some {t : TypeId} {e : Nat} (h : byteElem E t = some e) : ∃ i j, E.ty t = some i ∧ i.desc = .slice e ∧ E.ty e = some j := by
  unfold byteElem at h
  split at h
  · rename_i i hi
    split at h
    · rename_i e' hd
      split at h
      · rename_i j hj
        split at h
        · cases h; exact ⟨i, j, hi, hd, hj⟩
        · cases h
      · cases h
    · cases h
  · cases h

theorem appTag_sound {t : TypeId} {s v : AVal} {o : Option (AVal × AStore)} {r : Result Value}
    (hT : ∀ e i, E.ty t = some i → i.desc = .slice e → ∀ v σ', o = some (v, σ') → SndT (tagS σ s e) e E ι H σ r v σ') (hs : ∃ e i, E.ty t = some i ∧ i.desc = .slice e) (h : appTag E t s σ o = some (v, σ')) : SndV E ι H σ r v σ' := by
  unfold appTag at h
  split at h
  · rename_i e he
    obtain ⟨i, j, h1, h2, _⟩ := byteElem_some he
    exact SndT.tag (hT e i h1 h2) h
  · obtain ⟨e, i, h1, h2⟩ := hs
    exact (hT e i h1 h2 v σ' h).snd

theorem aSliceData_sound (hR : Rel E ι H σ w) {x v : AVal} {x' : Value} (hx : VRel σ.next ι H x x') (h : aSliceData x = some v) (ts : Array TypeId) (ty : TypeId) :
    SndV E ι H σ ((Builtin.unsafeSliceData_ ts ty #[x']).run E.P w) v σ := by
  unfold aSliceData at h
  split at h
  · obtain rfl := hx.sc_inv
    cases h
    exact SndV.same hR rfl (.sc _)
  · rename_i b off len
    obtain ⟨cap, rfl, hb, hl, hcap⟩ := hx.slice_inv
    split at h
    · rename_i hn
      cases h
      refine SndV.same hR (Lib.run_unsafeSliceData_row w ts ty _ len cap (by omega)) ?_
      have := VRel.ptr (n := σ.next) (ι := ι) (H := H) b off 0 hb
      rwa [Nat.add_zero] at this
    · cases h
  · cases h

theorem ptrElem_some {t : TypeId} {e : Nat} {j : TyI} (h : ptrElem E t = some (e, j)) : ∃ i, E.ty t = some i ∧ i.desc = .pointer e ∧ E.ty e = some j := by
  unfold ptrElem at h
  split at h
  · rename_i i hi
    split at h
    · rename_i e' hd
      cases hj : E.ty e' with
      | none => rw [hj] at h; cases h
      | some j' => rw [hj] at h; cases h; exact ⟨i, hi, hd, hj⟩
    · cases h
  · cases h

theorem strOf_eq (ns : List Int) : strOf ns = ⟨(ns.map fun z => UInt8.ofNat z.toNat).toArray⟩ := by
  have : ∀ (l : List Int) (r : ByteArray), l.foldl (fun r n => r.push (UInt8.ofNat n.toNat)) r = ⟨r.data ++ (l.map fun z => UInt8.ofNat z.toNat).toArray⟩ := by
    intro l
    induction l with
    | nil => intro r; simp
    | cons z l ih =>
      intro r
      rw [List.foldl_cons, ih]
      simp [ByteArray.push]
  have h := this ns ByteArray.empty
  unfold strOf
  rw [h]
  simp [ByteArray.empty, ByteArray.emptyWithCapacity]
  rfl

theorem freeze_eq {c : Array Value} {el : TypeId} {fr : Nat × Nat} {b n : Nat} (h : w.heap[b]? = some (.cells c el fr)) (hn : n ≠ 0) :
    ∃ fr', w.freeze ⟨b, 0, none⟩ n = { w with heap := w.heap.setIfInBounds b (.cells c el fr') } := by
  obtain ⟨lo, hi⟩ := fr
  refine ⟨(if lo == hi then (0, 0 + n) else (min lo 0, max hi (0 + n))), ?_⟩
  unfold World.freeze
  rw [if_neg hn]
  congr 1
  apply Array.ext_getElem?
  intro i
  rw [Array.getElem?_modify, Array.getElem?_setIfInBounds]
  have hb : b < w.heap.size := by
    rcases Nat.lt_or_ge b w.heap.size with h' | h'
    · exact h'
    · simp [Array.getElem?_eq_none h'] at h
  by_cases hi2 : b = i
  · subst hi2
    simp [hb] at h ⊢
    rw [h]
  · simp [hi2]

theorem aUStr_sound (hR : Rel E ι H σ w) {pt it : TypeId} {p n v : AVal} {p' n' : Value} (hp : VRel σ.next ι H p p') (hn : VRel σ.next ι H n n') (h : aUStr E pt p n σ = some (v, σ')) (ty : TypeId) :
    SndV E ι H σ ((Builtin.unsafeString_ #[pt, it] ty #[p', n']).run E.P w) v σ' := by
  unfold aUStr at h
  split at h
  · obtain rfl := hp.sc_inv
    obtain rfl := hn.sc_inv
    cases h
    exact SndV.same hR (Lib.run_unsafeString_none w pt it ty none) (.sc _)
  · rename_i b n
    obtain ⟨hb, rfl⟩ := hp.ptr_inv
    obtain rfl := hn.sc_inv
    split at h
    · rename_i e j sz els he hg
      split at h
      · rename_i hc
        obtain ⟨h1, h2, h3, h4, h5, h6⟩ := hc
        split at h
        · rename_i ns hns
          split at h
          · rename_i hall
            cases h
            subst h2
            obtain ⟨i, i1, i2, i3⟩ := ptrElem_some he
            obtain ⟨_, t2, t3⟩ := hR.tys _ _ (hasTy_mem h6)
            obtain ⟨⟨g1, g2, c, elem, fr, g3, gf, g4, g5, g6⟩, l2, l3⟩ := hR.live b _ hg
            have hel : elem = e := g6.trans t2
            subst hel
            have htk := unbytes_map hns
            have hlen : ns.length = n.toNat := by
              have := congrArg List.length htk
              rw [List.length_take, List.length_map] at this
              omega
            have hpu : E.P.underlying pt = some (.pointer elem) := by rw [(E.ok pt i i1).1, i2]
            have hsh : w.shape? (ι b).blk = some (elem, c.size) := by simp [World.shape?, g3]
            have hle : n.toNat ≤ c.size := by
              have : els.length * 1 ≤ (ι b).cap * 1 := Nat.mul_le_mul_right _ g2
              omega
            have hcell : ∀ (k : Nat) (x : UInt8), (ns.map fun z => UInt8.ofNat z.toNat)[k]? = some x → w.cell? ((⟨(ι b).blk, 0, none⟩ : Addr).add k) = some (.int .u8 x.toNat) := by
              intro k x hx
              rw [List.getElem?_map] at hx
              cases hz : ns[k]? with
              | none => rw [hz] at hx; cases hx
              | some z =>
                rw [hz] at hx
                cases hx
                have hk : k < ns.length := by
                  rcases Nat.lt_or_ge k ns.length with h' | h'
                  · exact h'
                  · rw [List.getElem?_eq_none h'] at hz; cases hz
                have hz256 : 0 ≤ z ∧ z < 256 := by
                  rw [List.all_eq_true] at hall
                  have := hall z (List.mem_of_getElem? hz)
                  simpa using this
                have hek : els[k]? = some (.sc (.int .u8 z)) := by
                  have h7 : (els.take n.toNat)[k]? = els[k]? := by rw [List.getElem?_take, if_pos (by omega)]
                  rw [← h7, htk, List.getElem?_map, hz]; rfl
                obtain ⟨q1, _⟩ := g5.get hek
                obtain ⟨y, hy, hv⟩ := q1.get (k := 0) (v := .sc (.int .u8 z)) rfl
                obtain rfl := hv.sc_inv
                rw [add_mk]
                have hrd := congrFun (rd_cells g3) (0 + k)
                have : rd w (ι b).blk (0 + k) = some (.int .u8 z) := by
                  rw [hrd]
                  rw [t3] at hy
                  simpa using hy
                rw [show w.cell? ⟨(ι b).blk, 0 + k, none⟩ = some (.int .u8 z) from this]
                have : ((UInt8.ofNat z.toNat).toNat : Int) = z := by
                  have : z.toNat < 256 := by omega
                  simp [UInt8.toNat_ofNat', Nat.mod_eq_of_lt this]; omega
                rw [this]
            have hrun := Lib.run_unsafeString_row (P := E.P) w pt it ty elem hpu (by rw [cellsOf_ty i3, h1]) (ι b).blk c.size hsh (ns.map fun z => UInt8.ofNat z.toNat)
              (by intro hnil; have := congrArg List.length hnil; rw [List.length_map] at this; simp only [List.length_nil] at this; omega) (by rw [List.length_map]; omega) (by rw [List.length_map]; omega) hcell
            have hn' : ((ns.map fun z => UInt8.ofNat z.toNat).length : Int) = n := by rw [List.length_map]; omega
            obtain ⟨fr', hfr⟩ := freeze_eq (n := (ns.map fun z => UInt8.ofNat z.toNat).length) g3 (by rw [List.length_map]; omega)
            rw [hfr, hn'] at hrun
            refine ⟨.string (strOf ns), _, ι, H, ?_, .sc _, hR.give hg (o := .cells c elem fr') (by intro es clock hh; cases hh), Ext.refl _ _ _⟩
            rw [strOf_eq, t3]
            simp only [Nat.zero_mul, Nat.add_zero]
            exact hrun
          · cases h
        · cases h
      · cases h
    · cases h
  · cases h
end
end Abs
end
noncomputable section
namespace Abs
set_option linter.unusedVariables false
set_option linter.unusedSimpArgs false
set_option linter.unusedSectionVars false
open Go

/-- What is called: a function; the round of a loop over a function. -/
inductive Tgt where
  | fn (f : FuncId)
  | yld (b : Nat)

inductive ARes where
  | val (v : AVal) (σ : AStore)
  | vals (l : List (AVal × AStore))
  | skip (σ : AStore)
  | enter (f : Tgt) (args : List AVal)
  | dfr (d : ADef)
  | pan (v : AVal)
  | recov
  | bad

def ARes.ofO : Option (AVal × AStore) → ARes
  | some (v, σ) => .val v σ
  | none => .bad
def ARes.ofV (σ : AStore) : Option AVal → ARes
  | some v => .val v σ
  | none => .bad
def ARes.ofS : Option AStore → ARes
  | some σ => .skip σ
  | none => .bad
def ARes.ofL : Option (List (AVal × AStore)) → ARes
  | some l => .vals l
  | none => .bad

abbrev ARho := Operand → Option AVal

def allSome (ρ : ARho) : List Operand → Option (List AVal)
  | [] => some []
  | x :: xs => match ρ x, allSome ρ xs with
    | some v, some vs => some (v :: vs)
    | _, _ => none

def partsSome (ρ : ARho) : List (Nat × Operand) → Option (List (Nat × AVal))
  | [] => some []
  | (i, x) :: xs => match ρ x, partsSome ρ xs with
    | some v, some vs => some ((i, v) :: vs)
    | _, _ => none

def optSome (ρ : ARho) : Option Operand → Option (Option AVal)
  | none => some none
  | some x => (ρ x).map some

/-! ### What the types say -/

def fieldOf (E : Env) (s : TypeId) (f : Nat) : Option (Nat × TyI) :=
  match E.ty s with
  | some i => match i.desc with
    | .struct fs => match fs[f]? with
      | some fd => (E.ty fd.type).map fun j => (fd.offset, j)
      | none => none
    | _ => none
  | none => none

def arrayOf (E : Env) (t : TypeId) : Option (Nat × TyI) :=
  match E.ty t with
  | some i => match i.desc with
    | .array n e => (E.ty e).map fun j => (n, j)
    | _ => none
  | none => none

def mapOf (E : Env) (t : TypeId) : Option (TyI × TyI) :=
  match E.ty t with
  | some i => match i.desc with
    | .map k e => match E.ty k, E.ty e with
      | some a, some b => some (a, b)
      | _, _ => none
    | _ => none
  | none => none

def srcOk : TypeDesc → Bool
  | .slice _ | .string => true
  | _ => false

def max2 (big : Bool) (x : Option AVal) (y : AVal) : Option AVal :=
  match x, y with
  | some (.sc (.int k a)), .sc (.int _ b) => some (.sc (.int k (if big then (if b > a then b else a) else (if b < a then b else a))))
  | _, _ => none

def aBuiltin (E : Env) (b : Builtin) (ats : List TypeId) (args : List AVal) (σ : AStore) : ARes :=
  match b, ats, args with
  | .append, [t, t2], [s, x] =>
    match sliceElem E t, E.ty t2 with
    | some j, some i2 => if j.okz = true ∧ srcOk i2.desc = true then
        (match aSrc j.size x σ with
        | some xs => .ofO (appTag E t s σ (aAppend j.size j.bytes s xs σ))
        | none => .bad) else .bad
    | _, _ => .bad
  | .len, [t], [x] =>
    match E.ty t with
    | some i => .ofV σ (aLen i.desc x σ)
    | none => .bad
  | .copy, t :: _, [d, s] =>
    match sliceElem E t with
    | some j => .ofO (aCopy j.size d s σ)
    | none => .bad
  | .delete, t :: _, [m, k] =>
    match mapOf E t with
    | some (ki, _) => match aMapDel ki.desc m k σ with
      | some σ' => .val (.tuple []) σ'
      | none => .bad
    | none => .bad
  | .max, _, x :: xs => .ofV σ (xs.foldl (max2 true) (some x))
  | .min, _, x :: xs => .ofV σ (xs.foldl (max2 false) (some x))
  | .recover, _, _ => .recov
  | .unsafeSliceData, _, [x] => .ofV σ (aSliceData x)
  | .unsafeString, [pt, _], [p, n] => .ofO (aUStr E pt p n σ)
  | _, _, _ => .bad

def aOp (E : Env) (lit : Bool) (op : Op) (ρ : ARho) (σ : AStore) : ARes :=
  match op with
  | .move x | .assign x => .ofV σ (ρ x)
  | .pick c a b =>
    match ρ c with
    | some (.sc (.bool t)) => .ofV σ (if t then ρ a else ρ b)
    | _ => .bad
  | .alloc t =>
    match E.ty t with
    | some i => .ofO (tagNew (isBld (absV i.zero)) t σ (aNew (absV i.zero) σ))
    | none => .bad
  | .box _ x =>
    match ρ x with
    | some v => .ofO (aNew v σ)
    | none => .bad
  | .build t parts =>
    match E.ty t, partsSome ρ parts.toList with
    | some i, some ps =>
      match i.desc with
      | .struct fs => .ofV σ (aBuildS E.ty fs i.zero ps)
      | .array _ e => match E.ty e with
        | some j => .ofV σ (aBuildA j.size i.zero ps)
        | none => .bad
      | _ => .bad
    | _, _ => .bad
  | .buildSlice t len parts =>
    match sliceElem E t, partsSome ρ parts.toList with
    | some j, some ps => if lit then .ofV σ (aLitSlice j len ps) else .ofO (aBuildSlice j len ps σ)
    | _, _ => .bad
  | .load t a =>
    match E.ty t, ρ a with
    | some i, some p => .ofV σ (aLoad i.isA i.size p σ)
    | _, _ => .bad
  | .store t a x =>
    match E.ty t, ρ a, ρ x with
    | some i, some p, some v => .ofS (aStore i.size p v σ)
    | _, _, _ => .bad
  | .nilCheck x =>
    match ρ x with
    | some (.ptr b i k) => .val (.ptr b i k) σ
    | some (.iptr cs) => .val (.iptr cs) σ
    | some (.func (.func f) a b) => .val (.func (.func f) a b) σ
    | some (.iface t v) => .val (.iface t v) σ
    | _ => .bad
  | .binOp op t x y _ =>
    match E.ty t, ρ x, ρ y with
    | some i, some a, some b => .ofV σ (aBin2 E t i.desc op (isConstOp x || isConstOp y) a b)
    | _, _, _ => .bad
  | .unOp op _ x =>
    match ρ x with
    | some a => .ofV σ (aUn op a)
    | none => .bad
  | .convert s d x =>
    match E.ty s, E.ty d, ρ x with
    | some i, some j, some a => .ofO (aConv E.ty i.desc j.desc a σ)
    | _, _, _ => .bad
  | .makeInterface t x =>
    match E.ty t, ρ x with
    | some i, some a => .ofV σ (aIface i.desc t a)
    | _, _ => .bad
  | .makeFunc fn first captured =>
    match allSome ρ first.toList, allSome ρ captured.toList with
    | some a, some b => .val (.func fn a b) σ
    | _, _ => .bad
  | .makeMap _ none => .val (.map σ.next) (σ.alloc (.map [] 0))
  | .makeMap t (some r) =>
    match mapOf E t, ρ r with
    | some _, some (.sc (.int _ _)) => .val (.map σ.next) (σ.alloc (.map [] 0))
    | _, _ => .bad
  | .makeSlice t l c =>
    match sliceElem E t, ρ l, ρ c with
    | some j, some a, some b => .ofO (aMakeSlice j a b σ)
    | _, _, _ => .bad
  | .slice t x lo hi none =>
    match E.ty t, ρ x, optSome ρ lo, optSome ρ hi with
    | some i, some a, some l, some h =>
      match i.desc with
      | .string => .ofV σ (aSliceStr a l h)
      | .slice e => match E.ty e with
        | some j => .ofV σ (aSlice j.size a l h σ)
        | none => .bad
      | .pointer arr => match E.ty arr with
        | some ia => match ia.desc with
          | .array n e => match E.ty e with
            | some j => .ofO (aSliceArr n j.size a l h σ)
            | none => .bad
          | _ => .bad
        | none => .bad
      | .array n e => match E.ty e with
        | some j => .ofO (aSliceArr n j.size a l h σ)
        | none => .bad
      | _ => .bad
    | _, _, _, _ => .bad
  | .slice t x lo hi (some m) =>
    match E.ty t, ρ x, optSome ρ lo, optSome ρ hi, optSome ρ (some m) with
    | some i, some a, some l, some h, some mx =>
      match i.desc with
      | .slice e => match E.ty e with
        | some j => .ofV σ (aSlice3 j.size a l h mx σ)
        | none => .bad
      | _ => .bad
    | _, _, _, _, _ => .bad
  | .fieldAddr s x f =>
    match fieldOf E s f, ρ x with
    | some (off, j), some p => if j.size ≠ 0 then .ofV σ (aField off p) else .bad
    | _, _ => .bad
  | .field s x f =>
    match fieldOf E s f, ρ x with
    | some (off, j), some a => .ofV σ (aPart j.isA j.size off a)
    | _, _ => .bad
  | .indexAddr t x ix =>
    match ρ x, ρ ix with
    | some a, some i =>
      match sliceElem E t with
      | some j => .ofV σ (aIndexS j.size a i σ)
      | none => match arrayOf E t with
        | some (n, j) => .ofV σ (aIndexA n j.size a i)
        | none => .bad
    | _, _ => .bad
  | .index t x ix =>
    match ρ x, ρ ix with
    | some a, some i =>
      match arrayOf E t with
      | some (n, j) => .ofV σ (aIndexV n j.isA j.size a i)
      | none => match E.ty t with
        | some ti => match ti.desc with
          | .string => .ofV σ (aIndexStr a i)
          | _ => .bad
        | none => .bad
    | _, _ => .bad
  | .lookup t x ix ok =>
    match mapOf E t, ρ x, ρ ix with
    | some (ki, ei), some a, some k => .ofV σ (aLookup ki.desc ei.zero ok a k σ)
    | _, _, _ => .bad
  | .mapUpdate t m k x | .insert t m k x =>
    match mapOf E t, ρ m, ρ k, ρ x with
    | some (ki, _), some a, some k, some v => .ofS (aMapSet ki.desc a k v σ)
    | _, _, _, _ => .bad
  | .range t x =>
    match E.ty t, ρ x with
    | some i, some a => .ofO (aRange i.desc a σ)
    | _, _ => .bad
  | .next it isS =>
    match ρ it with
    | some a => .ofL (aNext a isS σ)
    | none => .bad
  | .entry it =>
    match ρ it with
    | some a => .ofV σ (aEntry a σ)
    | none => .bad
  | .typeAssert x _ t ok =>
    match E.ty t, ρ x with
    | some i, some a => .ofV σ (aAssert i.desc t i.zero ok a)
    | _, _ => .bad
  | .extract t ix =>
    match ρ t with
    | some a => .ofV σ (aExtract a ix)
    | none => .bad
  | .call c =>
    match allSome ρ c.args.toList with
    | some args =>
      match c.callee with
      | .builtin b => aBuiltin E b c.argTypes.toList args σ
      | .value f =>
        match ρ f with
        | some (.func (.func g) first cap) => if E.fns g = true then .enter (.fn g) (first ++ args ++ cap) else if E.nes g = true then (match first ++ args ++ cap with | [x] => .val x σ | _ => .bad) else .bad
        | some (.yld b) => match σ.get b with
          | some (.loop _ _ ps _ _ _ nt _) => if args.length = ps.size ∧ (ps.toList.all fun t => Nat.blt t nt) = true ∧ nt < 1000000 then .enter (.yld b) args else .bad
          | _ => .bad
        | _ => .bad
      | .invoke _ _ => .bad
    | none => .bad
  | .defer c =>
    match allSome ρ c.args.toList with
    | some args =>
      match c.callee with
      | .value f =>
        match ρ f with
        | some (.func (.func g) first cap) => .dfr ⟨.func g, cap, first ++ args⟩
        | _ => .bad
      | _ => .bad
    | none => .bad
  | .panic x =>
    match ρ x with
    | some (.iface t v) => .pan (.iface t v)
    | _ => .bad
  | _ => .bad

structure DefRel (n : Nat) (ι : Inj) (H : Imm) (d : ADef) (d' : Deferred) : Prop where
  tgt : ∃ cap' : List Value, d'.target = .fn d.fn cap'.toArray ∧ LRel n ι H d.cap cap'
  args : ∃ args' : List Value, d'.args = args'.toArray ∧ LRel n ι H d.args args'
  ny : ∃ g, d.fn = .func g

def ValRel (E : Env) (ι : Inj) (H : Imm) (σ : AStore) (r : Result Next) (v : AVal) (σ' : AStore) : Prop :=
  ∃ v' w' ι' H', r = .ok (.value v') w' ∧ VRel σ'.next ι' H' v v' ∧ Rel E ι' H' σ' w' ∧ Ext σ.next ι H σ'.next ι' H'

def ResRel (E : Env) (ι : Inj) (H : Imm) (σ : AStore) (w : World) (r : Result Next) : ARes → Prop
  | .val v σ' => ValRel E ι H σ r v σ'
  | .vals l => ∃ p ∈ l, ValRel E ι H σ r p.1 p.2
  | .skip σ' => ∃ w', r = .ok .skip w' ∧ Rel E ι H σ' w' ∧ σ'.next = σ.next
  | .enter (.fn f) args => ∃ args' : List Value, r = .ok (.enter f args'.toArray) w ∧ LRel σ.next ι H args args'
  | .enter (.yld b) args => ∃ args' : List Value, LRel σ.next ι H args args' ∧ ∃ st pend ps as bd tm nt d fn tmps, σ.get b = some (.loop st pend ps as bd tm nt d) ∧ args.length = ps.size ∧ (ps.toList.all fun t => Nat.blt t nt) = true ∧ nt < 1000000 ∧
      tmps.size = nt ∧ (∀ t v, tm.get t = some v → t < nt ∧ VRel σ.next ι H v (tmps.getD t undef)) ∧
      r = .ok (.round (ι b).blk fn ((ps.toList.zip args').foldl (fun tmps x => tmps.setIfInBounds x.1 x.2) tmps) as bd) w
  | .dfr d => ∃ d', r = .ok (.defer d') w ∧ DefRel σ.next ι H d d'
  | .pan v => ∃ v', r = .halt (.panic v') w ∧ VRel σ.next ι H v v'
  | .recov => r = .ok .recover w
  | .bad => True

section
variable {E : Env} {ι : Inj} {H : Imm} {σ σ' : AStore} {w : World}

theorem SndV.next {r : Result Value} {v : AVal} (h : SndV E ι H σ r v σ') : ValRel E ι H σ (r.andThen fun a w' => .ok (.value a) w') v σ' := by
  obtain ⟨v', w', ι', H', rfl, h⟩ := h
  exact ⟨v', w', ι', H', rfl, h⟩

theorem ResRel.ofO {r : Result Value} {o : Option (AVal × AStore)} (h : ∀ v σ', o = some (v, σ') → SndV E ι H σ r v σ') :
    ResRel E ι H σ w (r.andThen fun a w' => .ok (.value a) w') (.ofO o) := by
  cases o with
  | none => trivial
  | some p => obtain ⟨v, σ'⟩ := p; exact (h v σ' rfl).next
theorem ResRel.ofV {r : Result Value} {o : Option AVal} (h : ∀ v, o = some v → SndV E ι H σ r v σ) :
    ResRel E ι H σ w (r.andThen fun a w' => .ok (.value a) w') (.ofV σ o) := by
  cases o with
  | none => trivial
  | some v => exact (h v rfl).next
theorem ResRel.ofS {r : Result Unit} {o : Option AStore} (h : ∀ σ', o = some σ' → ∃ w', r = .ok () w' ∧ Rel E ι H σ' w' ∧ σ'.next = σ.next) :
    ResRel E ι H σ w (r.andThen fun _ w' => .ok .skip w') (.ofS o) := by
  cases o with
  | none => trivial
  | some σ' => obtain ⟨w', rfl, h1, h2⟩ := h σ' rfl; exact ⟨w', rfl, h1, h2⟩

/-- Operands. -/
def RhoRel (n : Nat) (ι : Inj) (H : Imm) (ρ : ARho) (ρ' : Operand → Value) : Prop := ∀ x v, ρ x = some v → VRel n ι H v (ρ' x)

theorem allSome_rel {n : Nat} {ρ : ARho} {ρ' : Operand → Value} (hρ : RhoRel n ι H ρ ρ') : ∀ {xs : List Operand} {vs : List AVal}, allSome ρ xs = some vs → LRel n ι H vs (xs.map ρ')
  | [], vs, h => by simp [allSome] at h; subst h; exact .nil
  | x :: xs, vs, h => by
      unfold allSome at h
      split at h
      · rename_i v vs' h1 h2
        cases h
        exact .cons _ _ _ _ (hρ x v h1) (allSome_rel hρ h2)
      · cases h

theorem partsSome_rel {n : Nat} {ρ : ARho} {ρ' : Operand → Value} (hρ : RhoRel n ι H ρ ρ') : ∀ {xs : List (Nat × Operand)} {vs : List (Nat × AVal)}, partsSome ρ xs = some vs →
    PRel n ι H vs (xs.map fun (i, x) => (i, ρ' x))
  | [], vs, h => by simp [partsSome] at h; subst h; exact .nil
  | (i, x) :: xs, vs, h => by
      unfold partsSome at h
      split at h
      · rename_i v vs' h1 h2
        cases h
        exact .cons _ _ _ _ _ (hρ x v h1) (partsSome_rel hρ h2)
      · cases h

theorem optSome_rel {n : Nat} {ρ : ARho} {ρ' : Operand → Value} (hρ : RhoRel n ι H ρ ρ') {x : Option Operand} {v : Option AVal} (h : optSome ρ x = some v) : ORel n ι H v (x.map ρ') := by
  cases x with
  | none => simp [optSome] at h; subst h; exact .none
  | some x =>
    simp only [optSome] at h
    cases hx : ρ x with
    | none => simp [hx] at h
    | some y => simp [hx] at h; subst h; exact .some _ _ (hρ x y hx)

theorem sliceElem_some {t : TypeId} {j : TyI} (h : sliceElem E t = some j) : ∃ i e, E.ty t = some i ∧ i.desc = .slice e ∧ E.ty e = some j := by
  unfold sliceElem at h
  split at h
  · rename_i i hi
    split at h
    · rename_i e he; exact ⟨i, e, hi, he, h⟩
    · cases h
  · cases h
theorem arrayOf_some {t : TypeId} {p : Nat × TyI} (h : arrayOf E t = some p) : ∃ i e, E.ty t = some i ∧ i.desc = .array p.1 e ∧ E.ty e = some p.2 := by
  unfold arrayOf at h
  split at h
  · rename_i i hi
    split at h
    · rename_i n e he
      cases hj : E.ty e with
      | none => simp [hj] at h
      | some j => simp [hj] at h; subst h; exact ⟨i, e, hi, he, hj⟩
    · cases h
  · cases h
theorem fieldOf_some {t : TypeId} {f : Nat} {p : Nat × TyI} (h : fieldOf E t f = some p) : ∃ i fs fd, E.ty t = some i ∧ i.desc = .struct fs ∧ fs[f]? = some fd ∧ fd.offset = p.1 ∧ E.ty fd.type = some p.2 := by
  unfold fieldOf at h
  split at h
  · rename_i i hi
    split at h
    · rename_i fs he
      split at h
      · rename_i fd hfd
        cases hj : E.ty fd.type with
        | none => simp [hj] at h
        | some j => simp [hj] at h; subst h; exact ⟨i, fs, fd, hi, he, hfd, rfl, hj⟩
      · cases h
    · cases h
  · cases h
theorem mapOf_some {t : TypeId} {p : TyI × TyI} (h : mapOf E t = some p) : ∃ i k e, E.ty t = some i ∧ i.desc = .map k e ∧ E.ty k = some p.1 ∧ E.ty e = some p.2 := by
  unfold mapOf at h
  split at h
  · rename_i i hi
    split at h
    · rename_i k e he
      split at h
      · rename_i a b h1 h2; cases h; exact ⟨i, k, e, hi, he, h1, h2⟩
      · cases h
    · cases h
  · cases h

theorem run_max2 (big : Bool) (P : Program) : ∀ (xs : List AVal) (ws : List Value) (x : AVal) (x' : Value) {n : Nat} {v : AVal}, LRel n ι H xs ws → VRel n ι H x x' → xs.foldl (max2 big) (some x) = some v →
    ∃ v', (ws.foldlM (if big then Builtin.max2 else Builtin.min2) x' : Sem Value).run P w = .ok v' w ∧ VRel n ι H v v' := by
  intro xs
  induction xs with
  | nil =>
    intro ws x x' n v h hx hf
    cases h
    simp at hf
    subst hf
    exact ⟨x', by simp, hx⟩
  | cons y ys ih =>
    intro ws x x' n v h hx hf
    cases h with
    | cons _ y' _ ws hy hs =>
      simp only [List.foldl_cons] at hf
      have hnone : ∀ l : List AVal, l.foldl (max2 big) none = none := by
        intro l
        induction l with
        | nil => rfl
        | cons a l ih => simpa [max2] using ih
      cases hm : max2 big (some x) y with
      | none => rw [hm, hnone] at hf; cases hf
      | some z =>
        rw [hm] at hf
        unfold max2 at hm
        split at hm
        · rename_i _ _ k a k' b h1
          obtain rfl := Option.some.inj h1
          obtain rfl := hx.sc_inv
          obtain rfl := hy.sc_inv
          cases hm
          obtain ⟨v', r1, r2⟩ := ih ws _ (.int k (if big then (if b > a then b else a) else (if b < a then b else a))) hs (.sc _) hf
          refine ⟨v', ?_, r2⟩
          rw [← r1]
          cases big <;> simp [Builtin.max2, Builtin.min2]
        · cases hm

end
end Abs
end
noncomputable section
namespace Abs
set_option linter.unusedVariables false
set_option linter.unusedSimpArgs false
set_option linter.unusedSectionVars false
open Go

section
variable {E : Env} {ι : Inj} {H : Imm} {σ σ' : AStore} {w : World}

theorem run_callFunc {f : FuncId} (hf : E.fns f = true) (args : Array Value) : (callFunc f args).run E.P w = .ok (.enter f args) w := by
  obtain ⟨fn, h1, h2, h3⟩ := E.fok f hf
  simp only [callFunc, Sem.run_bind, run_program, Result.andThen_ok, h1, h2, h3, Bool.false_eq_true, if_false, Sem.run_pure]

theorem run_noesc {f : FuncId} (hf : E.nes f = true) (x : Value) : (callFunc f #[x]).run E.P w = .ok (.value x) w := by
  obtain ⟨fn, h1, h2, h3, h4, h5⟩ := E.nok f hf
  have h6 : (mark (Mark.extern f)).run E.P w = .ok () w := rfl
  simp only [callFunc, Sem.run_bind, run_program, Result.andThen_ok, h1, h2, h3, h4, h5, h6, Bool.false_eq_true, if_false, if_true, Sem.run_pure, Lib.run_noEscape]

theorem LRel.cons_inv {n : Nat} {v : AVal} {vs : List AVal} {ws : List Value} (h : LRel n ι H (v :: vs) ws) : ∃ w ws', ws = w :: ws' ∧ VRel n ι H v w ∧ LRel n ι H vs ws' := by
  cases h; exact ⟨_, _, rfl, by assumption, by assumption⟩
theorem LRel.nil_inv {n : Nat} {ws : List Value} (h : LRel n ι H [] ws) : ws = [] := by cases h; rfl

theorem aBuiltin_sound (hR : Rel E ι H σ w) {b : Builtin} {ats : Array TypeId} {args : List AVal} {args' : List Value} (ha : LRel σ.next ι H args args') (rt : TypeId) (cs : Array Bool) :
    ResRel E ι H σ w ((builtin b ats rt cs args'.toArray).run E.P w) (aBuiltin E b ats.toList args σ) := by
  have v : ∀ s : Sem Value, ((do pure (Next.value (← s)) : Sem Next)).run E.P w = (s.run E.P w).andThen fun a w' => .ok (.value a) w' := fun s => by simp
  unfold aBuiltin
  split
  · rename_i t t2 s x hats
    obtain ⟨s', _, rfl, hs, ha⟩ := ha.cons_inv
    obtain ⟨x', _, rfl, hx, ha⟩ := ha.cons_inv
    obtain rfl := ha.nil_inv
    obtain rfl : ats = #[t, t2] := by cases ats; simpa using hats
    split
    · rename_i j i2 hj hi2
      split
      · rename_i hc
        split
        · rename_i xs hxs
          obtain ⟨i, e, h1, h2, h3⟩ := sliceElem_some hj
          simp only [builtin, v]
          refine ResRel.ofO fun y σ' hy => ?_
          refine appTag_sound ?_ ⟨e, i, h1, h2⟩ hy
          intro e' i' g1 g2 y σ' hy
          rw [h1] at g1
          cases g1
          rw [h2] at g2
          cases g2
          refine aAppend_sound hR h1 h2 h3 hc.1 hi2 ?_ hs hx hxs hy rt
          have := hc.2
          unfold srcOk at this
          split at this
          · rename_i e he; exact .inl ⟨e, he⟩
          · rename_i he; exact .inr he
          · cases this
        · trivial
      · trivial
    · trivial
  · rename_i t x hats
    obtain ⟨x', _, rfl, hx, ha⟩ := ha.cons_inv
    obtain rfl := ha.nil_inv
    obtain rfl : ats = #[t] := by cases ats; simpa using hats
    split
    · rename_i i hi
      simp only [builtin, v]
      exact ResRel.ofV fun y hy => aLen_sound hR hi hx hy rt rfl
    · trivial
  · rename_i t tr d s hats
    obtain ⟨d', _, rfl, hd, ha⟩ := ha.cons_inv
    obtain ⟨s', _, rfl, hs, ha⟩ := ha.cons_inv
    obtain rfl := ha.nil_inv
    have h0 : ats[0]? = some t := by cases ats; simp at hats; simp [hats]
    split
    · rename_i j hj
      obtain ⟨i, e, h1, h2, h3⟩ := sliceElem_some hj
      simp only [builtin, v]
      exact ResRel.ofO fun y σ' hy => aCopy_sound hR h1 h2 h3 hd hs hy rt h0
    · trivial
  · rename_i t tr m k hats
    obtain ⟨m', _, rfl, hm, ha⟩ := ha.cons_inv
    obtain ⟨k', _, rfl, hk, ha⟩ := ha.cons_inv
    obtain rfl := ha.nil_inv
    have h0 : ats[0]? = some t := by cases ats; simp at hats; simp [hats]
    split
    · rename_i ki ei hj
      obtain ⟨i, kt, et, h1, h2, h3, h4⟩ := mapOf_some hj
      split
      · rename_i σ1 hσ
        obtain ⟨w', r1, r2, r3⟩ := aMapDel_sound hR h1 h2 h3 hm hk hσ rt h0
        refine ⟨.tuple #[], w', ι, H, ?_, .tuple [] [] .nil, r2, ⟨by omega, fun _ _ => rfl, Imm.Le.refl _⟩⟩
        simp only [builtin, v, r1, Result.andThen_ok]
      · trivial
    · trivial
  · rename_i x xs
    obtain ⟨x', ws, rfl, hx, ha⟩ := ha.cons_inv
    simp only [builtin, v]
    refine ResRel.ofV fun y hy => ?_
    obtain ⟨v', r1, r2⟩ := run_max2 (w := w) true E.P xs ws x x' ha hx hy
    exact SndV.same hR (by simpa [Builtin.max_] using r1) r2
  · rename_i x xs
    obtain ⟨x', ws, rfl, hx, ha⟩ := ha.cons_inv
    simp only [builtin, v]
    refine ResRel.ofV fun y hy => ?_
    obtain ⟨v', r1, r2⟩ := run_max2 (w := w) false E.P xs ws x x' ha hx hy
    exact SndV.same hR (by simpa [Builtin.min_] using r1) r2
  · simp [ResRel, builtin]
  · rename_i x
    obtain ⟨x', _, rfl, hx, ha⟩ := ha.cons_inv
    obtain rfl := ha.nil_inv
    simp only [builtin, v]
    exact ResRel.ofV fun y hy => aSliceData_sound hR hx hy ats rt
  · rename_i pt it p n hats
    obtain ⟨p', _, rfl, hp, ha⟩ := ha.cons_inv
    obtain ⟨n', _, rfl, hn, ha⟩ := ha.cons_inv
    obtain rfl := ha.nil_inv
    obtain rfl : ats = #[pt, it] := by cases ats; simpa using hats
    simp only [builtin, v]
    exact ResRel.ofO fun y σ' hy => aUStr_sound hR hp hn hy rt
  · trivial

theorem aOp_sound (hR : Rel E ι H σ w) {ρ : ARho} {ρ' : Operand → Value} (hρ : RhoRel σ.next ι H ρ ρ') (lit : Bool) (o : Oper) : ResRel E ι H σ w ((execOp ρ' o).run E.P w) (aOp E lit o.op ρ σ) := by
  have v : ∀ s : Sem Value, ((do pure (Next.value (← s)) : Sem Next)).run E.P w = (s.run E.P w).andThen fun a w' => .ok (.value a) w' := fun s => by simp
  have u : ∀ s : Sem Unit, ((do s; pure Next.skip : Sem Next)).run E.P w = (s.run E.P w).andThen fun _ w' => .ok .skip w' := fun s => by simp
  have mv : ∀ x, ResRel E ι H σ w (.ok (.value (ρ' x)) w) (.ofV σ (ρ x)) := by
    intro x
    cases hx : ρ x with
    | none => trivial
    | some y => exact ⟨_, w, ι, H, rfl, hρ x y hx, hR, Ext.refl _ _ _⟩
  obtain ⟨dst, op, ty, pos, after, guard⟩ := o
  cases op
  case move x => exact mv x
  case assign x => exact mv x
  case pick c a b =>
    simp only [aOp]
    split
    · rename_i t ht
      have hc := (hρ c _ ht).sc_inv
      simp only [execOp, Sem.run_bind, hc, asBool, Sem.run_pure, Result.andThen_ok]
      cases t <;> simp <;> exact mv _
    · trivial
  case alloc t =>
    simp only [aOp]
    split
    · rename_i i hi
      simp only [execOp, v]
      refine ResRel.ofO fun y σ' hy => ?_
      refine SndT.tag (tg := isBld (absV i.zero)) (el := t) ?_ hy
      intro y σ' hy
      have := aNew_sound hR t (absV_rel _ _ _ i.zero) hy
      obtain ⟨v', w', ι', H', h1, h2, h3, h4, h5⟩ := this
      refine ⟨v', w', ι', H', ?_, h2, h3, h4, fun _ => h5 rfl⟩
      simpa [Instr.alloc, run_zeroValue E.ok hi] using h1
    · trivial
  case box t x =>
    simp only [aOp]
    split
    · rename_i y hy
      simp only [execOp, v]
      exact ResRel.ofO fun z σ' hz => (aNew_sound hR t (hρ x y hy) hz).snd
    · trivial
  case build t parts =>
    simp only [aOp]
    split
    · rename_i i ps hi hps
      have hp := partsSome_rel hρ hps
      have e : (parts.map fun (i, x) => (i, ρ' x)).toList = parts.toList.map fun (i, x) => (i, ρ' x) := by simp
      rw [← e] at hp
      split
      · rename_i fs hd
        simp only [execOp, v]
        exact ResRel.ofV fun y hy => aBuildS_sound hR hi hd hp hy
      · rename_i n el hd
        split
        · rename_i j hj
          simp only [execOp, v]
          exact ResRel.ofV fun y hy => aBuildA_sound hR hi hd hj hp hy
        · trivial
      · trivial
    · trivial
  case buildSlice t len parts =>
    simp only [aOp]
    split
    · rename_i j ps hj hps
      have hp := partsSome_rel hρ hps
      have e : (parts.map fun (i, x) => (i, ρ' x)).toList = parts.toList.map fun (i, x) => (i, ρ' x) := by simp
      rw [← e] at hp
      obtain ⟨i, el, h1, h2, h3⟩ := sliceElem_some hj
      simp only [execOp, v]
      cases lit with
      | true => exact ResRel.ofV fun y hy => aLitSlice_sound hR h1 h2 h3 hp hy
      | false => exact ResRel.ofO fun y σ' hy => aBuildSlice_sound hR h1 h2 h3 hp hy
    · trivial
  case load t a =>
    simp only [aOp]
    split
    · rename_i i p hi hp
      simp only [execOp, v]
      refine ResRel.ofV fun y hy => ?_
      obtain ⟨v', r1, r2⟩ := aLoad_sound hi hR (hρ a p hp) hy
      exact SndV.same hR r1 r2
    · trivial
  case store t a x =>
    simp only [aOp]
    split
    · rename_i i p y hi hp hy
      simp only [execOp, u]
      exact ResRel.ofS fun σ' h => aStore_sound hi hR (hρ a p hp) (hρ x y hy) h
    · trivial
  case nilCheck x =>
    simp only [aOp]
    split
    · rename_i b i k hx
      have h := hρ x _ hx
      obtain ⟨_, he⟩ := h.ptr_inv
      refine ⟨_, w, ι, H, ?_, h, hR, Ext.refl _ _ _⟩
      simp only [execOp, he, Sem.run_pure]
    · rename_i cs hx
      have h := hρ x _ hx
      obtain ⟨_, _, he, _⟩ := h.iptr_inv
      refine ⟨_, w, ι, H, ?_, h, hR, Ext.refl _ _ _⟩
      simp only [execOp, he, Sem.run_pure]
    · rename_i f a b hx
      have h := hρ x _ hx
      obtain ⟨_, _, he, _⟩ := h.func_inv
      refine ⟨_, w, ι, H, ?_, h, hR, Ext.refl _ _ _⟩
      simp only [execOp, he, Sem.run_pure]
    · rename_i t y hx
      have h := hρ x _ hx
      obtain ⟨_, he, _⟩ := h.iface_inv
      refine ⟨_, w, ι, H, ?_, h, hR, Ext.refl _ _ _⟩
      simp only [execOp, he, Sem.run_pure]
    · trivial
  case binOp op t x y yt =>
    simp only [aOp]
    split
    · rename_i i a b hi ha hb
      simp only [execOp, v]
      exact ResRel.ofV fun z hz => aBin2_sound hR hi (hρ x a ha) (hρ y b hb) hz
    · trivial
  case unOp op t x =>
    simp only [aOp]
    split
    · rename_i a ha
      simp only [execOp, v]
      exact ResRel.ofV fun z hz => aUn_sound hR (hρ x a ha) hz
    · trivial
  case convert s d x =>
    simp only [aOp]
    split
    · rename_i i j a hi hj ha
      simp only [execOp, v]
      exact ResRel.ofO fun z σ' hz => aConv_sound hR hi hj (hρ x a ha) hz
    · trivial
  case makeInterface t x =>
    simp only [aOp]
    split
    · rename_i i a hi ha
      simp only [execOp, v]
      exact ResRel.ofV fun z hz => aIface_sound hR hi (hρ x a ha) hz
    · trivial
  case makeFunc fn first captured =>
    simp only [aOp]
    split
    · rename_i a b ha hb
      have h1 := allSome_rel hρ ha
      have h2 := allSome_rel hρ hb
      refine ⟨.func fn (first.map ρ') (captured.map ρ'), w, ι, H, ?_, ?_, hR, Ext.refl _ _ _⟩
      · simp [execOp, Instr.makeFunc]
      · have := VRel.func fn a b _ _ h1 h2
        rw [← Array.toList_map, ← Array.toList_map, Array.toArray_toList, Array.toArray_toList] at this
        exact this
    · trivial
  case makeMap t r =>
    have fin : ValRel E ι H σ (.ok (.value (.map (some w.heap.size))) { w with heap := w.heap.push (.map #[] 0) }) (.map σ.next) (σ.alloc (.map [] 0)) := by
      refine ⟨_, _, upd ι σ.next ⟨w.heap.size, 0, 0, 0, 0⟩, H, rfl, ?_, hR.alloc rfl ⟨#[], by simp, .nil, by simp, by simp, by simp⟩, Ext.upd _ _ _ _⟩
      have := VRel.map (n := σ.next + 1) (ι := upd ι σ.next ⟨w.heap.size, 0, 0, 0, 0⟩) (H := H) σ.next (by omega)
      simp only [upd_self] at this
      exact this
    cases r with
    | none =>
      simp only [aOp]
      exact fin
    | some r =>
      simp only [aOp]
      split
      · rename_i p k n hp hr
        obtain ⟨i, kt, et, h1, h2, h3, h4⟩ := mapOf_some hp
        have hc := (hρ r _ hr).sc_inv
        have : (execOp ρ' { dst := dst, op := .makeMap t (some r), type := ty, pos := pos, after := after, guard := guard }).run E.P w =
            .ok (.value (.map (some w.heap.size))) { w with heap := w.heap.push (.map #[] 0) } := by
          simp [execOp, Instr.makeMap, run_underlying E.ok h1, h2, hc, asInt, asIntOf]
        rw [this]
        exact fin
      · trivial
  case makeSlice t l c =>
    simp only [aOp]
    split
    · rename_i j a b hj ha hb
      obtain ⟨i, el, h1, h2, h3⟩ := sliceElem_some hj
      simp only [execOp, v]
      exact ResRel.ofO fun z σ' hz => aMakeSlice_sound hR h1 h2 h3 (hρ l a ha) (hρ c b hb) hz
    · trivial
  case slice t x lo hi mx =>
    cases mx with
    | some m =>
      simp only [aOp]
      split
      · rename_i i a l h mx hi1 ha hl hh hm
        have o1 := optSome_rel hρ hl
        have o2 := optSome_rel hρ hh
        have o3 := optSome_rel hρ hm
        split
        · rename_i e hd
          split
          · rename_i j hj
            simp only [execOp, v]
            exact ResRel.ofV fun z hz => aSlice3_sound hR hi1 hd hj (hρ x a ha) o1 o2 o3 hz
          · trivial
        · trivial
      · trivial
    | none =>
      simp only [aOp]
      split
      · rename_i i a l h hi1 ha hl hh
        have o1 := optSome_rel hρ hl
        have o2 := optSome_rel hρ hh
        split
        · rename_i hd
          simp only [execOp, v]
          exact ResRel.ofV fun z hz => aSliceStr_sound hR hi1 hd (hρ x a ha) o1 o2 hz
        · rename_i e hd
          split
          · rename_i j hj
            simp only [execOp, v]
            exact ResRel.ofV fun z hz => aSlice_sound hR hi1 hd hj (hρ x a ha) o1 o2 hz
          · trivial
        · rename_i arr hd
          split
          · rename_i ia hia
            split
            · rename_i n e hda
              split
              · rename_i j hj
                simp only [execOp, v]
                exact ResRel.ofO fun z σ' hz => aSliceArr_sound hR hi1 hd hia hda hj (hρ x a ha) o1 o2 hz
              · trivial
            · trivial
          · trivial
        · rename_i n e hd
          split
          · rename_i j hj
            simp only [execOp, v]
            exact ResRel.ofO fun z σ' hz => aSliceArr_soundA hR hi1 hd hj (hρ x a ha) o1 o2 hz
          · trivial
        · trivial
      · trivial
  case fieldAddr s x f =>
    simp only [aOp]
    split
    · rename_i off j p hf hp
      obtain ⟨i, fs, fd, h1, h2, h3, h4, h5⟩ := fieldOf_some hf
      simp only at h4 h5
      subst h4
      split
      · rename_i hj
        simp only [execOp, v]
        exact ResRel.ofV fun z hz => aField_sound hR h1 h2 h3 h5 hj (hρ x p hp) hz
      · trivial
    · trivial
  case field s x f =>
    simp only [aOp]
    split
    · rename_i off j p hf hp
      obtain ⟨i, fs, fd, h1, h2, h3, h4, h5⟩ := fieldOf_some hf
      simp only at h4 h5
      subst h4
      simp only [execOp, v]
      exact ResRel.ofV fun z hz => aPart_field_sound hR h1 h2 h3 h5 (hρ x p hp) hz
    · trivial
  case indexAddr t x ix =>
    simp only [aOp]
    split
    · rename_i a i ha hi
      split
      · rename_i j hj
        obtain ⟨ti, el, h1, h2, h3⟩ := sliceElem_some hj
        simp only [execOp, v]
        exact ResRel.ofV fun z hz => aIndexS_sound hR h1 h2 h3 (hρ x a ha) (hρ ix i hi) hz
      · split
        · rename_i n j hj
          obtain ⟨ti, el, h1, h2, h3⟩ := arrayOf_some hj
          simp only [execOp, v]
          exact ResRel.ofV fun z hz => aIndexA_sound hR h1 h2 h3 (hρ x a ha) (hρ ix i hi) hz
        · trivial
    · trivial
  case index t x ix =>
    simp only [aOp]
    split
    · rename_i a i ha hi
      split
      · rename_i n j hj
        obtain ⟨ti, el, h1, h2, h3⟩ := arrayOf_some hj
        simp only [execOp, v]
        exact ResRel.ofV fun z hz => aIndexV_sound hR h1 h2 h3 (hρ x a ha) (hρ ix i hi) hz
      · split
        · rename_i ti hti
          split
          · rename_i hd
            simp only [execOp, v]
            exact ResRel.ofV fun z hz => aIndexStr_sound hR hti hd (hρ x a ha) (hρ ix i hi) hz
          · trivial
        · trivial
    · trivial
  case lookup t x ix ok =>
    simp only [aOp]
    split
    · rename_i ki ei a k hm ha hk
      obtain ⟨i, kt, et, h1, h2, h3, h4⟩ := mapOf_some hm
      simp only [execOp, v]
      exact ResRel.ofV fun z hz => aLookup_sound hR h1 h2 h3 h4 (hρ x a ha) (hρ ix k hk) hz
    · trivial
  case mapUpdate t m k x =>
    simp only [aOp]
    split
    · rename_i ki ei a b c hm ha hb hc
      obtain ⟨i, kt, et, h1, h2, h3, h4⟩ := mapOf_some hm
      simp only [execOp, u]
      exact ResRel.ofS fun σ' h => aMapSet_sound hR h1 h2 h3 (hρ m a ha) (hρ k b hb) (hρ x c hc) h
    · trivial
  case insert t m k x =>
    simp only [aOp]
    split
    · rename_i ki ei a b c hm ha hb hc
      obtain ⟨i, kt, et, h1, h2, h3, h4⟩ := mapOf_some hm
      simp only [execOp, u]
      exact ResRel.ofS fun σ' h => aMapSet_sound hR h1 h2 h3 (hρ m a ha) (hρ k b hb) (hρ x c hc) h
    · trivial
  case range t x =>
    simp only [aOp]
    split
    · rename_i i a hi ha
      simp only [execOp, v]
      exact ResRel.ofO fun z σ' hz => aRange_sound hR hi (hρ x a ha) hz
    · trivial
  case next it isS =>
    simp only [aOp]
    split
    · rename_i a ha
      simp only [execOp, v]
      cases hn : aNext a isS σ with
      | none => trivial
      | some l =>
        obtain ⟨p, hp, h⟩ := aNext_sound hR (hρ it a ha) hn ty
        exact ⟨p, hp, h.next⟩
    · trivial
  case entry it =>
    simp only [aOp]
    split
    · rename_i a ha
      simp only [execOp, v]
      exact ResRel.ofV fun z hz => aEntry_sound hR (hρ it a ha) hz
    · trivial
  case typeAssert x xt t ok =>
    simp only [aOp]
    split
    · rename_i i a hi ha
      simp only [execOp, v]
      exact ResRel.ofV fun z hz => aAssert_sound hR hi (hρ x a ha) hz
    · trivial
  case extract t ix =>
    simp only [aOp]
    split
    · rename_i a ha
      simp only [execOp, v]
      exact ResRel.ofV fun z hz => aExtract_sound hR (hρ t a ha) hz
    · trivial
  case call c =>
    obtain ⟨callee, args, ats⟩ := c
    simp only [aOp]
    split
    · rename_i as has
      have h1 := allSome_rel hρ has
      cases callee with
      | builtin b =>
        simp only []
        have key : ∀ cs, ResRel E ι H σ w ((builtin b ats ty cs (args.map ρ')).run E.P w) (aBuiltin E b ats.toList as σ) := by
          intro cs
          have := aBuiltin_sound hR (b := b) (ats := ats) h1 ty cs
          rw [← Array.toList_map, Array.toArray_toList] at this
          exact this
        simp only [execOp, resolve, invoke, Sem.run_bind, Sem.run_pure, Result.andThen_ok]
        exact key _
      | value f =>
        simp only []
        split
        · rename_i g first cap hf
          split
          · rename_i hg
            obtain ⟨fs', cs', he, hfs, hcs⟩ := (hρ f _ hf).func_inv
            refine ⟨fs' ++ args.toList.map ρ' ++ cs', ?_, (hfs.append h1).append hcs⟩
            simp [execOp, resolve, invoke, he, Deferred.ofValue, run_callFunc hg]
          · split
            · rename_i hg
              split
              · rename_i x hx
                obtain ⟨fs', cs', he, hfs, hcs⟩ := (hρ f _ hf).func_inv
                have hl := (hfs.append h1).append hcs
                rw [hx] at hl
                obtain ⟨x', _, hx', hxr, hn⟩ := hl.cons_inv
                obtain rfl := hn.nil_inv
                refine ⟨x', w, ι, H, ?_, hxr, hR, Ext.refl _ _ _⟩
                have h7 : fs'.toArray ++ args.map ρ' ++ cs'.toArray = #[x'] := by
                  apply Array.ext'
                  simpa using hx'
                have := run_noesc (w := w) hg x'
                rw [← h7] at this
                simp only [execOp, resolve, invoke, he, Deferred.ofValue, Sem.run_bind, Sem.run_pure, Result.andThen_ok]
                exact this
              · trivial
            · trivial
        · rename_i b hf
          split
          · rename_i st pend ps as bd tm nt d hg
            split
            · rename_i hc
              obtain ⟨hc1, hc2, hc3⟩ := hc
              obtain ⟨he, hb⟩ := (hρ f _ hf).yld_inv
              obtain ⟨z, hd, fn, tmps, g1, g2, g3⟩ := (hR.live b _ hg).1
              have hl := h1.length
              refine ⟨args.toList.map ρ', h1, st, pend, ps, as, bd, tm, nt, d, fn, tmps, hg, hc1, hc2, hc3, g2, g3, ?_⟩
              have hsz : (args.map ρ').size = ps.size := by simp; simp at hl; omega
              have hz : (Array.zip ps (args.map ρ')).foldl (fun tmps (x : Tmp × Value) => tmps.setIfInBounds x.1 x.2) tmps = ((ps.toList.zip (args.toList.map ρ')).foldl (fun tmps x => tmps.setIfInBounds x.1 x.2) tmps) := by
                rw [← Array.foldl_toList]
                simp
              have hgo : (getObj (ι b).blk).run E.P w = .ok (.loop ⟨st, pend, fn, tmps, ps, as, bd, (ι d).blk⟩) w := by simp [getObj, Sem.run, g1]
              simp [execOp, resolve, invoke, he, Deferred.ofValue, Instr.yield, Instr.getLoop, hgo, hsz, ← hz]
            · trivial
          · trivial
        · trivial
      | invoke r m => trivial
    · trivial
  case defer c =>
    obtain ⟨callee, args, ats⟩ := c
    simp only [aOp]
    split
    · rename_i as has
      have h1 := allSome_rel hρ has
      cases callee with
      | builtin b => trivial
      | value f =>
        simp only []
        split
        · rename_i fn first cap hf
          obtain ⟨fs', cs', he, hfs, hcs⟩ := (hρ f _ hf).func_inv
          refine ⟨{ target := .fn (.func fn) cs'.toArray, args := (fs' ++ args.toList.map ρ').toArray }, ?_, ⟨cs', rfl, hcs⟩, ⟨_, rfl, hfs.append h1⟩, ⟨_, rfl⟩⟩
          simp [execOp, resolve, he, Deferred.ofValue]
        · trivial
      | invoke r m => trivial
    · trivial
  case panic x =>
    simp only [aOp]
    split
    · rename_i t y hx
      have h := hρ x _ hx
      obtain ⟨y', he, hy⟩ := h.iface_inv
      refine ⟨_, ?_, h⟩
      simp [execOp, he, Instr.panic]
    · trivial
  all_goals trivial
end
end Abs
end
noncomputable section
namespace Abs
set_option linter.unusedVariables false
set_option linter.unusedSimpArgs false
set_option linter.unusedSectionVars false
open Go

structure AAct where
  tmps : T AVal
  n : Nat
  defers : List ADef

def AAct.ev (G : Nat → AVal) (a : AAct) : ARho
  | .tmp t => a.tmps.get t
  | .const v => some (absV v)
  | .global g => some (G g)
  | .func f => some (.func (.func f) [] [])

def AAct.put (a : AAct) (dst : Option Tmp) (x : Option AVal) : AAct :=
  match a with
  | ⟨t, n, ds⟩ => match dst with
    | some d => ⟨T.put 20 t d x, n, ds⟩
    | none => ⟨t, n, ds⟩

theorem AAct.put_eq (a : AAct) (dst : Option Tmp) (x : Option AVal) : a.put dst x = match dst with
    | some d => { a with tmps := T.put 20 a.tmps d x }
    | none => a := by
  cases a; cases dst <;> rfl

/-- May it be written? -/
def AAct.fits (a : AAct) (dst : Option Tmp) : Bool :=
  match dst with
  | some d => Nat.blt d a.n && Nat.blt a.n 1000000
  | none => true

inductive DefsRel (n : Nat) (ι : Inj) (H : Imm) : List ADef → List Deferred → Prop
  | nil : DefsRel n ι H [] []
  | cons (d : ADef) (d' : Deferred) (ds : List ADef) (ds' : List Deferred) (h : DefRel n ι H d d') (hs : DefsRel n ι H ds ds') : DefsRel n ι H (d :: ds) (d' :: ds')
  | mark (b : Nat) (ds : List ADef) (ds' : List Deferred) (h : b < n) (hs : DefsRel n ι H ds ds') : DefsRel n ι H (⟨.yield b, [], []⟩ :: ds) ({ target := .collected (ι b).blk, args := #[] } :: ds')

structure ActRel (n : Nat) (ι : Inj) (H : Imm) (a : AAct) (a' : Act) : Prop where
  size : a'.tmps.size = a.n
  tmps : ∀ t v, a.tmps.get t = some v → t < a.n ∧ VRel n ι H v (a'.tmps.getD t undef)
  defers : DefsRel n ι H a.defers a'.defers

section
variable {n n' : Nat} {ι ι' : Inj} {H H' : Imm}

theorem DefRel.ext (he : Ext n ι H n' ι' H') {d : ADef} {d' : Deferred} (h : DefRel n ι H d d') : DefRel n' ι' H' d d' := by
  obtain ⟨⟨c, h1, h2⟩, ⟨a, h3, h4⟩, h5⟩ := h
  exact ⟨⟨c, h1, h2.ext he⟩, ⟨a, h3, h4.ext he⟩, h5⟩
theorem DefsRel.ext (he : Ext n ι H n' ι' H') : ∀ {d : List ADef} {d' : List Deferred}, DefsRel n ι H d d' → DefsRel n' ι' H' d d'
  | _, _, .nil => .nil
  | _, _, .cons d d' ds ds' h hs => .cons d d' ds ds' (h.ext he) (hs.ext he)
  | _, _, .mark b ds ds' h hs => by rw [← he.inj b h]; exact .mark b ds ds' (Nat.lt_of_lt_of_le h he.next) (hs.ext he)
theorem ActRel.ext (he : Ext n ι H n' ι' H') {a : AAct} {a' : Act} (h : ActRel n ι H a a') : ActRel n' ι' H' a a' :=
  ⟨h.size, fun t v ht => ⟨(h.tmps t v ht).1, (h.tmps t v ht).2.ext he⟩, h.defers.ext he⟩

theorem ActRel.put {a : AAct} {a' : Act} (h : ActRel n ι H a a') {dst : Option Tmp} (hf : a.fits dst = true) {v : AVal} {v' : Value} (hv : VRel n ι H v v') :
    ActRel n ι H (a.put dst (some v)) (a'.put dst v') := by
  cases dst with
  | none => exact h
  | some d =>
    simp only [AAct.fits, Bool.and_eq_true, Nat.blt_eq] at hf
    refine ⟨by simp [Act.put, AAct.put_eq, h.size], ?_, h.defers⟩
    intro t x ht
    simp only [AAct.put_eq] at ht ⊢
    rw [T.get_put _ _ _ _ _ (by omega)] at ht
    simp only [Act.put]
    split at ht
    · rename_i e
      cases ht
      subst e
      refine ⟨hf.1, ?_⟩
      have : t < a'.tmps.size := by rw [h.size]; exact hf.1
      simp [this, hv]
    · rename_i e
      obtain ⟨h1, h2⟩ := h.tmps t x ht
      refine ⟨h1, ?_⟩
      have : (a'.tmps.setIfInBounds d v').getD t undef = a'.tmps.getD t undef := by
        simp [Array.getD_eq_getD_getElem?, Ne.symm e]
      rw [this]; exact h2

theorem ActRel.putN {a : AAct} {a' : Act} (h : ActRel n ι H a a') {dst : Option Tmp} (hf : a.fits dst = true) (v' : Value) : ActRel n ι H (a.put dst none) (a'.put dst v') := by
  cases dst with
  | none => exact h
  | some d =>
    simp only [AAct.fits, Bool.and_eq_true, Nat.blt_eq] at hf
    refine ⟨by simp [Act.put, AAct.put_eq, h.size], ?_, h.defers⟩
    intro t x ht
    simp only [AAct.put_eq] at ht ⊢
    rw [T.get_put _ _ _ _ _ (by omega)] at ht
    simp only [Act.put]
    split at ht
    · cases ht
    · rename_i e
      obtain ⟨h1, h2⟩ := h.tmps t x ht
      refine ⟨h1, ?_⟩
      have : (a'.tmps.setIfInBounds d v').getD t undef = a'.tmps.getD t undef := by
        simp [Array.getD_eq_getD_getElem?, Ne.symm e]
      rw [this]; exact h2

theorem ActRel.rho {E : Env} {σ : AStore} {w : World} (hR : Rel E ι H σ w) {a : AAct} {a' : Act} (h : ActRel σ.next ι H a a') : RhoRel σ.next ι H (a.ev E.G) a'.eval := by
  intro x v hx
  cases x with
  | tmp t => exact (h.tmps t v hx).2
  | const c => simp [AAct.ev] at hx; subst hx; exact absV_rel _ _ _ _
  | global g => simp [AAct.ev] at hx; subst hx; exact hR.glob g
  | func f =>
    simp [AAct.ev] at hx
    subst hx
    exact .func _ [] [] [] [] .nil .nil
end

/-! ### Calls and code, on abstract states -/

inductive AEnd where
  | ret (v : AVal)
  | pan (v : AVal)

inductive EndRel (n : Nat) (ι : Inj) (H : Imm) : AEnd → Ending → Prop
  | ret (v : AVal) (w : Value) (h : VRel n ι H v w) : EndRel n ι H (.ret v) (.returned w)
  | pan (v : AVal) (w : Value) (h : VRel n ι H v w) : EndRel n ι H (.pan v) (.panicked [{ v := w, recovered := false }])

/-- Whatever stands for it calls so. -/
def ACalls (E : Env) (f : FuncId) (args : List AVal) (σ : AStore) (R : AEnd → AStore → Prop) : Prop :=
  ∀ ι H w (args' : List Value), Rel E ι H σ w → LRel σ.next ι H args args' →
    Calls E.P f args'.toArray w fun e w' => ∃ ι' H' σ' ae, R ae σ' ∧ EndRel σ'.next ι' H' ae e ∧ Rel E ι' H' σ' w' ∧ Ext σ.next ι H σ'.next ι' H'

inductive AExit where
  | normal
  | exit (id : Nat)
  | goto (l : Nat)
  | ret
  | pan (v : AVal)

inductive ExitRel (n : Nat) (ι : Inj) (H : Imm) : AExit → Exit → Prop
  | normal : ExitRel n ι H .normal .normal
  | exit (id : Nat) : ExitRel n ι H (.exit id) (.exit id)
  | goto (l : Nat) : ExitRel n ι H (.goto l) (.goto l)
  | ret : ExitRel n ι H .ret .ret
  | pan (v : AVal) (w : Value) (h : VRel n ι H v w) : ExitRel n ι H (.pan v) (.panic [{ v := w, recovered := false }])

abbrev APred := AExit → AAct → AStore → Prop

def APost (E : Env) (n : Nat) (ι : Inj) (H : Imm) (Q : APred) : Exit → Act → World → Prop := fun e a' w' =>
  ∃ ι' H' σ' a ae, Q ae a σ' ∧ ExitRel σ'.next ι' H' ae e ∧ ActRel σ'.next ι' H' a a' ∧ Rel E ι' H' σ' w' ∧ Ext n ι H σ'.next ι' H'

/-- No fence but the round. -/
def FR (ι : Inj) (rd : Option Nat) : Fence := { Fence.wide with round := rd.map fun b => (ι b).blk }

def RdOk (rd : Option Nat) (n : Nat) : Prop := ∀ b, rd = some b → b < n

theorem FR_ext {n n' : Nat} {ι ι' : Inj} {H H' : Imm} (he : Ext n ι H n' ι' H') {rd : Option Nat} (hr : RdOk rd n) : FR ι' rd = FR ι rd := by
  cases rd with
  | none => rfl
  | some b => simp [FR, he.inj b (hr b rfl)]

theorem RdOk.ext {n n' : Nat} {ι ι' : Inj} {H H' : Imm} (he : Ext n ι H n' ι' H') {rd : Option Nat} (hr : RdOk rd n) : RdOk rd n' := fun b hb => Nat.lt_of_lt_of_le (hr b hb) he.next

theorem FR_none (ι : Inj) : FR ι none = Fence.wide := rfl

theorem callsIn_FR {ι : Inj} {rd : Option Nat} {n : Nat} {P : Program} {f : FuncId} {args : Array Value} {w : World} {R : Ending → World → Prop} (h : Calls P f args w R) : CallsIn (FR ι rd) n P f args w R := by
  have h' := (callsIn_wide (n := n)).2 h
  cases rd with
  | none => exact h'
  | some b => exact CallsIn.inRound _ h'

def AWp (E : Env) (c : Code) (Q : APred) (a : AAct) (σ : AStore) : Prop :=
  ∀ ι H w a', Rel E ι H σ w → ActRel σ.next ι H a a' → RdOk E.rd σ.next → c.wpIn (FR ι E.rd) 0 E.P (APost E σ.next ι H Q) a' w

section
variable {E : Env} {Q Q' : APred} {a : AAct} {σ : AStore}

theorem APost.trans {n n1 : Nat} {ι ι1 : Inj} {H H1 : Imm} (he : Ext n ι H n1 ι1 H1) {e : Exit} {a' : Act} {w : World} (h : APost E n1 ι1 H1 Q e a' w) : APost E n ι H Q e a' w := by
  obtain ⟨ι', H', σ', a, ae, h1, h2, h3, h4, h5⟩ := h
  exact ⟨ι', H', σ', a, ae, h1, h2, h3, h4, he.trans h5⟩

theorem APost.mono {n : Nat} {ι : Inj} {H : Imm} (hq : ∀ e a σ, Q e a σ → Q' e a σ) {e : Exit} {a' : Act} {w : World} (h : APost E n ι H Q e a' w) : APost E n ι H Q' e a' w := by
  obtain ⟨ι', H', σ', a, ae, h1, h2⟩ := h
  exact ⟨ι', H', σ', a, ae, hq _ _ _ h1, h2⟩

theorem AWp.mono {c : Code} (h : AWp E c Q a σ) (hq : ∀ e a σ, Q e a σ → Q' e a σ) : AWp E c Q' a σ :=
  fun ι H w a' hR ha hr => wpIn_mono (h ι H w a' hR ha hr) fun _ _ _ => APost.mono hq

theorem ACalls.mono {f : FuncId} {args : List AVal} {R R' : AEnd → AStore → Prop} (h : ACalls E f args σ R) (hr : ∀ e σ, R e σ → R' e σ) : ACalls E f args σ R' :=
  fun ι H w args' hR ha => (h ι H w args' hR ha).mono fun _ _ ⟨ι', H', σ', ae, h1, h2⟩ => ⟨ι', H', σ', ae, hr _ _ h1, h2⟩

theorem apost_normal {n : Nat} {ι : Inj} {H : Imm} {a' : Act} {w : World} (hR : Rel E ι H σ w) (ha : ActRel σ.next ι H a a') {ae : AExit} {e : Exit} (hx : ExitRel σ.next ι H ae e)
    (hn : Ext n ι H σ.next ι H) (h : Q ae a σ) : APost E n ι H Q e a' w := ⟨ι, H, σ, a, ae, h, hx, ha, hR, hn⟩

theorem AWp.skip (h : Q .normal a σ) : AWp E .skip Q a σ := fun _ _ _ _ hR ha _ => wpIn_skip (apost_normal hR ha .normal (Ext.refl _ _ _) h)
theorem AWp.label {l : Nat} (h : Q .normal a σ) : AWp E (.label l) Q a σ := fun _ _ _ _ hR ha _ => wpIn_label (apost_normal hR ha .normal (Ext.refl _ _ _) h)
theorem AWp.exit {id : Nat} (h : Q (.exit id) a σ) : AWp E (.exit id) Q a σ := fun _ _ _ _ hR ha _ => wpIn_exit (apost_normal hR ha (.exit id) (Ext.refl _ _ _) h)
theorem AWp.goto {l : Nat} (h : Q (.goto l) a σ) : AWp E (.goto l) Q a σ := fun _ _ _ _ hR ha _ => wpIn_goto (apost_normal hR ha (.goto l) (Ext.refl _ _ _) h)
theorem AWp.ret (h : Q .ret a σ) : AWp E .ret Q a σ := fun _ _ _ _ hR ha _ => wpIn_ret (apost_normal hR ha .ret (Ext.refl _ _ _) h)

def AExit.then (next : AAct → AStore → Prop) (Q : APred) : APred
  | .normal, a, σ => next a σ
  | e, a, σ => Q e a σ

theorem AWp.seq {x y : Code} (h : AWp E x (AExit.then (AWp E y Q) Q) a σ) : AWp E (.seq x y) Q a σ := by
  intro ι H w a' hR ha hr
  refine wpIn_seq (wpIn_mono (h ι H w a' hR ha hr) ?_)
  rintro e a1 w1 ⟨ι1, H1, σ1, a1', ae, hq, hx, ha1, hR1, he1⟩
  cases hx with
  | normal =>
    have h2 := hq ι1 H1 w1 a1 hR1 ha1 (hr.ext he1)
    rw [FR_ext he1 hr] at h2
    exact wpIn_mono h2 fun _ _ _ => APost.trans he1
  | exit id => exact ⟨ι1, H1, σ1, a1', _, hq, .exit id, ha1, hR1, he1⟩
  | goto l => exact ⟨ι1, H1, σ1, a1', _, hq, .goto l, ha1, hR1, he1⟩
  | ret => exact ⟨ι1, H1, σ1, a1', _, hq, .ret, ha1, hR1, he1⟩
  | pan v w hv => exact ⟨ι1, H1, σ1, a1', _, hq, .pan v w hv, ha1, hR1, he1⟩

theorem AWp.cond {c : Operand} {x y : Code} {b : Bool} (hc : a.ev E.G c = some (.sc (.bool b))) (hx : b = true → AWp E x Q a σ) (hy : b = false → AWp E y Q a σ) : AWp E (.cond c x y) Q a σ := by
  intro ι H w a' hR ha hr
  have := (ha.rho hR c _ hc).sc_inv
  exact wpIn_cond_split this (fun hb => hx hb ι H w a' hR ha hr) (fun hb => hy hb ι H w a' hR ha hr)

def AExit.inBlock (id : Nat) (Q : APred) : APred
  | .exit id', a, σ => if id' = id then Q .normal a σ else Q (.exit id') a σ
  | e, a, σ => Q e a σ

theorem AWp.block {id : Nat} {c : Code} (h : AWp E c (AExit.inBlock id Q) a σ) : AWp E (.block id c) Q a σ := by
  intro ι H w a' hR ha hr
  refine wpIn_block (wpIn_mono (h ι H w a' hR ha hr) ?_)
  rintro e a1 w1 ⟨ι1, H1, σ1, a1', ae, hq, hx, ha1, hR1, he1⟩
  cases hx with
  | normal => exact ⟨ι1, H1, σ1, a1', _, hq, .normal, ha1, hR1, he1⟩
  | exit id' =>
    simp only [AExit.inBlock] at hq
    simp only [Exit.inBlock]
    split at hq
    · rename_i hid; rw [if_pos hid]; exact ⟨ι1, H1, σ1, a1', _, hq, .normal, ha1, hR1, he1⟩
    · rename_i hid; rw [if_neg hid]; exact ⟨ι1, H1, σ1, a1', _, hq, .exit id', ha1, hR1, he1⟩
  | goto l => exact ⟨ι1, H1, σ1, a1', _, hq, .goto l, ha1, hR1, he1⟩
  | ret => exact ⟨ι1, H1, σ1, a1', _, hq, .ret, ha1, hR1, he1⟩
  | pan v w hv => exact ⟨ι1, H1, σ1, a1', _, hq, .pan v w hv, ha1, hR1, he1⟩

/-- The act knows no more than the other. -/
def AAct.Le (a b : AAct) : Prop := a.n = b.n ∧ a.defers = b.defers ∧ ∀ t v, a.tmps.get t = some v → b.tmps.get t = some v

theorem ActRel.le {n : Nat} {ι : Inj} {H : Imm} {a b : AAct} {a' : Act} (hl : a.Le b) (h : ActRel n ι H b a') : ActRel n ι H a a' :=
  ⟨by rw [hl.1]; exact h.size, fun t v ht => by rw [hl.1]; exact h.tmps t v (hl.2.2 t v ht), by rw [hl.2.1]; exact h.defers⟩

theorem AWp.weaken {c : Code} {b : AAct} (hl : b.Le a) (h : AWp E c Q b σ) : AWp E c Q a σ := fun ι H w a' hR ha hr => h ι H w a' hR (ha.le hl) hr

theorem wpIn_loop_ghost {F : Fence} {n : Nat} {P : Program} {Q : Exit → Act → World → Prop} {a : Act} {w : World} {c : Code} (I : Nat → Act → World → Prop) (m : Nat) (h₀ : I m a w)
    (round : ∀ m a w, I m a w → c.wpIn F n P (Exit.then (fun a' w' => ∃ k, k < m ∧ I k a' w') Q) a w) : (Code.loop c).wpIn F n P Q a w := by
  intro b k cs hro hb hr
  have key : ∀ j a w, I j a w →
      ∃ e a' w', Q e a' w' ∧ ArrivesIn (Machine.fenced P F) P (lone (b.atR a (.code c :: .inLoop c :: k)) cs w) b k cs e a' w' := by
    intro j
    induction j using Nat.strongRecOn with
    | _ j ih =>
      intro a w hI
      obtain ⟨e, a₁, w₁, hq, harr⟩ := round j a w hI b (.inLoop c :: k) cs hro hb hr
      cases e with
      | normal =>
        obtain ⟨k', hlt, hI₁⟩ := hq
        obtain ⟨e₂, a₂, w₂, hq₂, harr₂⟩ := ih k' hlt a₁ w₁ hI₁
        exact ⟨e₂, a₂, w₂, hq₂, .of_steps (StepsIn.trans harr (.one (fenced_calm hb hr rfl) stepR_inLoop)) harr₂⟩
      | exit id => exact ⟨_, a₁, w₁, hq, .pass (x := .inLoop c) rfl (fun _ _ => .inl (by simp)) harr⟩
      | goto l => exact ⟨_, a₁, w₁, hq, .pass (x := .inLoop c) rfl (fun _ _ => .inl (by simp)) harr⟩
      | ret => exact ⟨_, a₁, w₁, hq, .pass (x := .inLoop c) rfl (fun _ _ => .inl (by simp)) harr⟩
      | panic ch => exact ⟨_, a₁, w₁, hq, .pass (x := .inLoop c) rfl (fun _ _ => .inl (by simp)) harr⟩
      | outgrown => exact ⟨_, a₁, w₁, hq, .pass (x := .inLoop c) rfl (fun _ _ => .inl (by simp)) harr⟩
  obtain ⟨e, a', w', hq, harr⟩ := key m a w h₀
  exact ⟨e, a', w', hq, .of_steps (.one (fenced_calm hb hr rfl) stepR_loop) harr⟩

theorem AWp.loop {c : Code} (I : Nat → AAct → AStore → Prop) (m : Nat) (h0 : I m a σ)
    (round : ∀ m a σ, I m a σ → AWp E c (AExit.then (fun a' σ' => ∃ b k, b.Le a' ∧ k < m ∧ I k b σ') Q) a σ) : AWp E (.loop c) Q a σ := by
  intro ι H w a' hR ha hr
  refine wpIn_loop_ghost (fun k a1' w1 => ∃ ι1 H1 σ1 a1, I k a1 σ1 ∧ ActRel σ1.next ι1 H1 a1 a1' ∧ Rel E ι1 H1 σ1 w1 ∧ Ext σ.next ι H σ1.next ι1 H1) m ⟨ι, H, σ, a, h0, ha, hR, Ext.refl _ _ _⟩ ?_
  rintro k a1' w1 ⟨ι1, H1, σ1, a1, hI, ha1, hR1, he1⟩
  have h2 := round k a1 σ1 hI ι1 H1 w1 a1' hR1 ha1 (hr.ext he1)
  rw [FR_ext he1 hr] at h2
  refine wpIn_mono h2 ?_
  rintro e a2 w2 ⟨ι2, H2, σ2, a2', ae, hq, hx, ha2, hR2, he2⟩
  cases hx with
  | normal =>
    obtain ⟨b, k', hl, hk, hI'⟩ := hq
    exact ⟨k', hk, ι2, H2, σ2, b, hI', ha2.le hl, hR2, he1.trans he2⟩
  | exit id => exact ⟨ι2, H2, σ2, a2', _, hq, .exit id, ha2, hR2, he1.trans he2⟩
  | goto l => exact ⟨ι2, H2, σ2, a2', _, hq, .goto l, ha2, hR2, he1.trans he2⟩
  | ret => exact ⟨ι2, H2, σ2, a2', _, hq, .ret, ha2, hR2, he1.trans he2⟩
  | pan v w hv => exact ⟨ι2, H2, σ2, a2', _, hq, .pan v w hv, ha2, hR2, he1.trans he2⟩
end
end Abs
end

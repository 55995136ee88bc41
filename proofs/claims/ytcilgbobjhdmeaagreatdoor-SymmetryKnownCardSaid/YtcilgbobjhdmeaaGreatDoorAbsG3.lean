/-
  Part of the abstract layer (J K K2 L): values, stores and steps that stand for those of the model, and the proof that they do. It proves no statement by itself.
-/
import Derived.Test.YtcilgbobjhdmeaaGreatDoorAbsG2
import Derived.Test.YtcilgbobjhdmeaaGreatDoorAbsG1
import Derived.LaidEqlPtr
import Derived.Lib.Builder
import Derived.Lib.UnsafeStr
import Derived.Laws.IdiomStrings
import Derived.Laws.BytesString
noncomputable section
namespace Abs
set_option linter.unusedVariables false
set_option linter.unusedSimpArgs false
set_option linter.unusedSectionVars false
open Go

section
variable {E : Env} {ι : Inj} {H : Imm} {σ σ' : AStore} {w : World}

/-! ### len, copy -/

def aLen (d : TypeDesc) (x : AVal) (σ : AStore) : Option AVal :=
  match d, x with
  | .string, .sc (.string s) => some (.sc (.int .i64 s.size))
  | .array n _, _ => some (.sc (.int .i64 n))
  | .slice _, .slice _ _ n => some (.sc (.int .i64 n))
  | .slice _, .view _ _ n => some (.sc (.int .i64 n))
  | .slice _, .endS _ _ => some (.sc (.int .i64 0))
  | .slice _, .data _ _ els => some (.sc (.int .i64 els.length))
  | .slice _, .sc (.slice _ n _) => some (.sc (.int .i64 n))
  | .map _ _, .sc (.map none) => some (.sc (.int .i64 0))
  | .map _ _, .map b =>
    match σ.get b with
    | some (.map kvs _) => some (.sc (.int .i64 kvs.length))
    | _ => none
  | _, _ => none

theorem KRel.length {n : Nat} : ∀ {kvs : List (AVal × AVal)} {es : List MapEntry}, KRel n ι H kvs es → kvs.length = es.length
  | _, _, .nil => rfl
  | _, _, .cons _ _ _ _ _ _ _ hs => by simp [hs.length]

theorem run_getObj_map {P : Program} {r : Nat} {es : Array MapEntry} {clock : Nat} (h : w.heap[r]? = some (.map es clock)) : (getObj r).run P w = .ok (.map es clock) w := by
  simp [getObj, Sem.run, h]

theorem aLen_sound (hR : Rel E ι H σ w) {t : TypeId} {i : TyI} (hs : E.ty t = some i) {x v : AVal} {x' : Value} (hx : VRel σ.next ι H x x') (h : aLen i.desc x σ = some v) (rt : TypeId)
    {ats : Array TypeId} (ha : ats[0]? = some t) : SndV E ι H σ ((Builtin.len_ ats rt #[x']).run E.P w) v σ := by
  have hu := run_underlying E.ok hs w
  have e0 : (#[x'] : Array Value)[0]? = some x' := rfl
  unfold aLen at h
  split at h
  · rename_i hd
    obtain rfl := hx.sc_inv; cases h
    refine SndV.same hR (v' := goInt _) ?_ (.sc _)
    simp [Builtin.len_, ha, hu, hd, goInt]
  · rename_i hd
    cases h
    refine SndV.same hR (v' := goInt _) ?_ (.sc _)
    simp [Builtin.len_, ha, hu, hd, goInt]
  · rename_i hd
    obtain ⟨cap, rfl, _⟩ := hx.slice_inv; cases h
    refine SndV.same hR (v' := goInt _) ?_ (.sc _)
    simp [Builtin.len_, ha, hu, hd, goInt]
  · rename_i hd
    obtain ⟨rfl, _⟩ := hx.view_inv; cases h
    refine SndV.same hR (v' := goInt _) ?_ (.sc _)
    simp [Builtin.len_, ha, hu, hd, goInt]
  · rename_i hd
    obtain ⟨_, _, rfl, _⟩ := hx.endS_inv; cases h
    refine SndV.same hR (v' := goInt 0) ?_ (.sc _)
    simp [Builtin.len_, ha, hu, hd, goInt]
  · rename_i hd
    obtain ⟨_, _, cap, rfl, _⟩ := hx.data_inv; cases h
    refine SndV.same hR (v' := goInt _) ?_ (.sc _)
    simp [Builtin.len_, ha, hu, hd, goInt]
  · rename_i hd
    obtain rfl := hx.sc_inv; cases h
    refine SndV.same hR (v' := goInt _) ?_ (.sc _)
    simp [Builtin.len_, ha, hu, hd, goInt]
  · rename_i hd
    obtain rfl := hx.sc_inv; cases h
    refine SndV.same hR (v' := goInt 0) ?_ (.sc _)
    simp [Builtin.len_, ha, hu, hd, goInt]
  · rename_i hd
    obtain ⟨hb, rfl⟩ := hx.map_inv
    split at h
    · rename_i kvs clock hg
      cases h
      obtain ⟨es, h1, h2, _⟩ := (hR.live _ _ hg).1
      refine SndV.same hR (v' := goInt es.size) ?_ (by rw [h2.length]; exact .sc _)
      simp [Builtin.len_, ha, hu, hd, run_getObj_map h1]
    · cases h
  · cases h

/-! ### Maps -/

/-- A key is looked for. -/
def aFind (d : TypeDesc) (k : Value) : List (AVal × AVal) → Nat → Option (Option (Nat × AVal))
  | [], _ => some none
  | (.sc key, v) :: rest, i =>
    match Instr.sameNow d k key with
    | some true => some (some (i, v))
    | some false => aFind d k rest (i + 1)
    | none => none
  | _ :: _, _ => none

def plainKey : TypeDesc → Bool
  | .int _ | .string | .bool => true
  | _ => false

theorem aFind_sound {n : Nat} (d : TypeDesc) (k : Value) : ∀ {kvs : List (AVal × AVal)} {es : List MapEntry} (i : Nat) {r : Option (Nat × AVal)}, KRel n ι H kvs es → aFind d k kvs i = some r →
    (r = none ∧ Instr.findNow d k es i = some none) ∨
    ∃ j v v' e, r = some (i + j, v) ∧ Instr.findNow d k es i = some (some (i + j, v')) ∧ VRel n ι H v v' ∧ es[j]? = some e ∧ e.val = v' ∧ Instr.sameNow d k e.key = some true ∧
      kvs[j]? = some (.sc e.key, v)
  | _, _, i, r, .nil, h => by simp [aFind] at h; exact .inl ⟨h.symm, rfl⟩
  | _, _, i, r, .cons key v e kvs es hk hv hs, h => by
      cases key with
      | sc key =>
        obtain rfl := hk.sc_inv
        simp only [aFind] at h
        cases hn : Instr.sameNow d k e.key with
        | none => simp [hn] at h
        | some b =>
          cases b with
          | true =>
            simp [hn] at h
            subst h
            exact .inr ⟨0, v, e.val, e, rfl, by simp [Instr.findNow, hn], hv, rfl, rfl, hn, rfl⟩
          | false =>
            simp [hn] at h
            rcases aFind_sound d k (i + 1) hs h with ⟨rfl, h1⟩ | ⟨j, v1, v2, e1, rfl, h1, h2, h3, h4, h5, h6⟩
            · exact .inl ⟨rfl, by simp [Instr.findNow, hn, h1]⟩
            · refine .inr ⟨j + 1, v1, v2, e1, by simp; omega, ?_, h2, by simpa using h3, h4, h5, by simpa using h6⟩
              rw [show i + (j + 1) = i + 1 + j by omega]
              simp [Instr.findNow, hn, h1]
      | _ => simp [aFind] at h

theorem run_checkKey {t : TypeId} {i : TyI} (hs : E.ty t = some i) (hp : plainKey i.desc = true) (b : Bool) (v : Value) : (Instr.checkKey b 10000 t v).run E.P w = .ok () w := by
  have hu := run_underlying E.ok hs w
  rw [show (10000 : Nat) = 9999 + 1 from rfl, Instr.checkKey]
  cases hd : i.desc <;> simp [plainKey, hd] at hp <;> simp [hu, hd]

theorem run_findKey {t : TypeId} {i : TyI} (hs : E.ty t = some i) {k : Value} {es : List MapEntry} {r : Option (Nat × Value)} (h : Instr.findNow i.desc k es 0 = some r) :
    (Instr.findKey t k es).run E.P w = .ok r w := by
  simp [Instr.findKey, run_underlying E.ok hs w, h]

def aLookup (kd : TypeDesc) (z : Value) (ok : Bool) (x k : AVal) (σ : AStore) : Option AVal :=
  let out (v : AVal) (b : Bool) : AVal := if ok then .tuple [v, .sc (.bool b)] else v
  if plainKey kd then
    match k with
    | .sc k =>
      match x with
      | .sc (.map none) => some (out (absV z) false)
      | .map b =>
        match σ.get b with
        | some (.map kvs _) =>
          match aFind kd k kvs 0 with
          | some (some (_, v)) => some (out v true)
          | some none => some (out (absV z) false)
          | none => none
        | _ => none
      | _ => none
    | _ => none
  else none

theorem out_rel {n : Nat} (ok b : Bool) {v : AVal} {v' : Value} (h : VRel n ι H v v') :
    VRel n ι H (if ok then .tuple [v, .sc (.bool b)] else v) (if ok then .tuple #[v', .bool b] else v') := by
  cases ok with
  | false => exact h
  | true => exact .tuple [v, .sc (.bool b)] [v', .bool b] (.cons _ _ _ _ h (.cons _ _ _ _ (.sc _) .nil))

theorem aLookup_sound (hR : Rel E ι H σ w) {t : TypeId} {i : TyI} (hs : E.ty t = some i) {kt et : TypeId} (hd : i.desc = .map kt et) {ki ei : TyI} (hk : E.ty kt = some ki) (he : E.ty et = some ei)
    {x k v : AVal} {x' k' : Value} (hx : VRel σ.next ι H x x') (hkr : VRel σ.next ι H k k') {ok : Bool} (h : aLookup ki.desc ei.zero ok x k σ = some v) :
    SndV E ι H σ ((Instr.lookup t x' k' ok).run E.P w) v σ := by
  have hu := run_underlying E.ok hs w
  have hz := run_zeroValue E.ok he w
  simp only [aLookup] at h
  split at h
  · rename_i hp
    split at h
    · rename_i kk
      obtain rfl := hkr.sc_inv
      split at h
      · obtain rfl := hx.sc_inv
        cases h
        refine SndV.same hR (v' := if ok then .tuple #[ei.zero, .bool false] else ei.zero) ?_ (out_rel ok false (absV_rel _ _ _ _))
        have hf : Instr.findNow ki.desc k' [] 0 = some none := rfl
        simp [Instr.lookup, hu, hd, run_checkKey hk hp, run_findKey hk hf, hz]
      · rename_i b
        obtain ⟨hb, rfl⟩ := hx.map_inv
        split at h
        · rename_i kvs clock hg
          obtain ⟨es, h1, h2, h3⟩ := (hR.live _ _ hg).1
          cases hfnd : aFind ki.desc k' kvs 0 with
          | none => simp [hfnd] at h
          | some r =>
            simp only [hfnd] at h
            rcases aFind_sound ki.desc k' 0 h2 hfnd with ⟨rfl, hf⟩ | ⟨j, v1, v2, e1, rfl, hf, hv, _⟩
            · cases h
              refine SndV.same hR (v' := if ok then .tuple #[ei.zero, .bool false] else ei.zero) ?_ (out_rel ok false (absV_rel _ _ _ _))
              simp [Instr.lookup, hu, hd, run_getObj_map h1, run_checkKey hk hp, run_findKey hk hf, hz]
            · cases h
              refine SndV.same hR (v' := if ok then .tuple #[v2, .bool true] else v2) ?_ (out_rel ok true hv)
              simp [Instr.lookup, hu, hd, run_getObj_map h1, run_checkKey hk hp, run_findKey hk hf]
        · cases h
      · cases h
    · cases h
  · cases h

/-- A map is turned. -/
theorem Rel.set_map (h : Rel E ι H σ w) {w' : World} {b : Nat} {kvs kvs' : List (AVal × AVal)} {clock clock' : Nat} (hb : σ.get b = some (.map kvs clock)) {es es' : Array MapEntry}
    (hes : w.heap[(ι b).blk]? = some (.map es clock)) (hw : w' = { w with heap := w.heap.setIfInBounds (ι b).blk (.map es' clock') })
    (hk : KRel σ.next ι H kvs' es'.toList) (hnd : (es'.toList.map (·.born)).Nodup) (hlt : ∀ e ∈ es'.toList, e.born < clock') (hkn : (es'.toList.map (·.key)).Nodup)
    (hcl : (clock' = clock ∧ ∀ e' ∈ es'.toList, ∃ e ∈ es.toList, e.born = e'.born ∧ e.key = e'.key) ∨ clock < clock') :
    Rel E ι H (σ.set b (.map kvs' clock')) w' := by
  have hlt' := h.blk_lt hb
  have hheap : w'.heap[(ι b).blk]? = some (.map es' clock') := by subst hw; simp [hlt']
  have ho : ∀ c, c ≠ (ι b).blk → w'.heap[c]? = w.heap[c]? := by
    intro c hc
    subst hw; simp [Ne.symm hc]
  refine h.set hb (by subst hw; simp) ho (by subst hw; exact ⟨rfl, rfl⟩) ⟨es', hheap, hk, hnd, hlt, hkn⟩ ?_
  intro b' m since seen hne hz hmb
  obtain ⟨h1, h2, h3⟩ := h.live b' _ hz
  have hne' : (ι b').blk ≠ (ι b).blk := fun hc => hne (h.inj b' b _ _ hz hb hc)
  obtain ⟨⟨g0, g0', g0''⟩, s', se', st, g1, g2, g3, g4⟩ := h1
  refine ⟨⟨g0, by subst hw; simpa using g0', g0''⟩, s', se', st, by rw [ho _ hne']; exact g1, g2, g3, ?_⟩
  intro es1 clock1 hh
  rw [hmb, hheap] at hh
  cases hh
  obtain ⟨q1, q2⟩ := g4 es clock (by rw [hmb]; exact hes)
  rcases hcl with ⟨rfl, hcl⟩ | hcl
  · refine ⟨q1, fun hc e' he' => ?_⟩
    obtain ⟨e, he, e1, e2⟩ := hcl e' he'
    rw [← e1, ← e2]
    exact q2 hc e he
  · exact ⟨by omega, fun hc => by omega⟩

theorem bytes_beq (a b : ByteArray) : (a == b) = true ↔ a = b := by
  obtain ⟨x⟩ := a
  obtain ⟨y⟩ := b
  constructor
  · intro h
    have e : x = y := by simpa using (show (x == y) = true from h)
    rw [e]
  · intro h
    cases h
    show (x == x) = true
    simp

theorem sameNow_eq {d : TypeDesc} {a b : Value} (h : Instr.sameNow d a b = some true) : b = a ∧ Instr.sameBits 10000 b a = true := by
  unfold Instr.sameNow at h
  split at h
  · rename_i k x k' y
    split at h
    · rename_i hk
      subst hk
      simp at h
      subst h
      exact ⟨rfl, by simp [Instr.sameBits]⟩
    · cases h
  · simp only [Option.some.injEq] at h
    have := (bytes_beq _ _).1 h; subst this; exact ⟨rfl, by simpa [Instr.sameBits] using h⟩
  · simp at h; subst h; exact ⟨rfl, by simp [Instr.sameBits]⟩
  · cases h

theorem sameNow_self {d : TypeDesc} {a : Value} : Instr.sameNow d a a ≠ some false := by
  have hs : ∀ x : ByteArray, (x == x) = true := fun x => (bytes_beq x x).2 rfl
  cases d <;> cases a <;> simp [Instr.sameNow, hs]

theorem findNow_none {d : TypeDesc} {k : Value} : ∀ {es : List MapEntry} {i : Nat}, Instr.findNow d k es i = some none → ∀ {e : MapEntry}, e ∈ es → e.key ≠ k
  | [], _, _, _, he => by simp at he
  | x :: es, i, h, e, he => by
      simp only [Instr.findNow] at h
      split at h
      · cases h
      · rename_i hs
        simp at he
        rcases he with rfl | he
        · intro hk; rw [hk] at hs; exact sameNow_self hs
        · exact findNow_none h he
      · cases h

theorem KRel.get {n : Nat} : ∀ {kvs : List (AVal × AVal)} {es : List MapEntry} {j : Nat} {e : MapEntry}, KRel n ι H kvs es → es[j]? = some e →
    ∃ k v, kvs[j]? = some (k, v) ∧ VRel n ι H k e.key ∧ VRel n ι H v e.val
  | _, _, 0, _, .cons k v e _ _ hk hv _, h => by simp at h; subst h; exact ⟨k, v, rfl, hk, hv⟩
  | _, _, j + 1, _, .cons _ _ _ _ _ _ _ hs, h => by simp at h; obtain ⟨k, v, h1, h2⟩ := hs.get h; exact ⟨k, v, by simpa using h1, h2⟩

theorem KRel.set {n : Nat} : ∀ {kvs : List (AVal × AVal)} {es : List MapEntry} (j : Nat) {k v : AVal} {e : MapEntry}, KRel n ι H kvs es → VRel n ι H k e.key → VRel n ι H v e.val →
    KRel n ι H (kvs.set j (k, v)) (es.set j e)
  | _, _, _, _, _, _, .nil, _, _ => by simpa using KRel.nil
  | _, _, 0, k, v, e, .cons _ _ _ kvs es _ _ hs, hk, hv => by simpa using KRel.cons k v e kvs es hk hv hs
  | _, _, j + 1, _, _, _, .cons k0 v0 e0 kvs es hk0 hv0 hs, hk, hv => by simpa using KRel.cons k0 v0 e0 _ _ hk0 hv0 (hs.set j hk hv)

theorem KRel.append {n : Nat} {kvs' : List (AVal × AVal)} {es' : List MapEntry} (h' : KRel n ι H kvs' es') : ∀ {kvs : List (AVal × AVal)} {es : List MapEntry}, KRel n ι H kvs es → KRel n ι H (kvs ++ kvs') (es ++ es')
  | _, _, .nil => h'
  | _, _, .cons k v e kvs es hk hv hs => .cons k v e _ _ hk hv (KRel.append h' hs)

theorem KRel.erase {n : Nat} : ∀ {kvs : List (AVal × AVal)} {es : List MapEntry} (j : Nat), KRel n ι H kvs es → KRel n ι H (kvs.eraseIdx j) (es.eraseIdx j)
  | _, _, _, .nil => by simpa using KRel.nil
  | _, _, 0, .cons _ _ _ _ _ _ _ hs => by simpa using hs
  | _, _, j + 1, .cons k v e kvs es hk hv hs => by simpa using KRel.cons k v e _ _ hk hv (hs.erase j)

def aMapSet (kd : TypeDesc) (x k v : AVal) (σ : AStore) : Option AStore :=
  if plainKey kd then
    match x, k with
    | .map b, .sc k =>
      match σ.get b with
      | some (.map kvs clock) =>
        match aFind kd k kvs 0 with
        | some (some (i, _)) => some (σ.set b (.map (kvs.set i (.sc k, v)) clock))
        | some none => some (σ.set b (.map (kvs ++ [(.sc k, v)]) (clock + 1)))
        | none => none
      | _ => none
    | _, _ => none
  else none

theorem run_setObj {P : Program} {r : Nat} {es : Array MapEntry} {clock : Nat} (h : w.heap[r]? = some (.map es clock)) (o : Obj) :
    (setObj r o).run P w = .ok () { w with heap := w.heap.setIfInBounds r o } := by
  simp [setObj, Sem.run, h]

theorem aMapSet_sound (hR : Rel E ι H σ w) {t : TypeId} {i : TyI} (hs : E.ty t = some i) {kt et : TypeId} (hd : i.desc = .map kt et) {ki : TyI} (hk : E.ty kt = some ki)
    {x k v : AVal} {x' k' v' : Value} (hx : VRel σ.next ι H x x') (hkr : VRel σ.next ι H k k') (hv : VRel σ.next ι H v v') (h : aMapSet ki.desc x k v σ = some σ') :
    ∃ w', (Instr.mapUpdate t x' k' v').run E.P w = .ok () w' ∧ Rel E ι H σ' w' ∧ σ'.next = σ.next := by
  have hu := run_underlying E.ok hs w
  simp only [aMapSet] at h
  split at h
  · rename_i hp
    split at h
    · rename_i b kk
      obtain rfl := hkr.sc_inv
      obtain ⟨hb, rfl⟩ := hx.map_inv
      split at h
      · rename_i kvs clock hg
        obtain ⟨es, h1, h2, h3, h4, h5⟩ := (hR.live _ _ hg).1
        cases hfnd : aFind ki.desc k' kvs 0 with
        | none => simp [hfnd] at h
        | some r =>
          simp only [hfnd] at h
          rcases aFind_sound ki.desc k' 0 h2 hfnd with ⟨rfl, hf⟩ | ⟨j, v1, v2, e1, rfl, hf, hv1, he1, he2, hsame, hkv⟩
          · cases h
            refine ⟨{ w with heap := w.heap.setIfInBounds (ι b).blk (.map (es.push { key := k', val := v', born := clock }) (clock + 1)) }, ?_, ?_, rfl⟩
            · simp [Instr.mapUpdate, hu, hd, run_getObj_map h1, run_checkKey hk hp, run_findKey hk hf, run_setObj h1]
            · refine hR.set_map hg h1 rfl ?_ ?_ ?_ ?_ (.inr (by omega))
              · simpa using KRel.append (.cons (.sc k') v { key := k', val := v', born := clock } [] [] (.sc _) hv .nil) h2
              · simp only [Array.toList_push, List.map_append, List.map_cons, List.map_nil, List.nodup_append]
                refine ⟨h3, by simp, ?_⟩
                intro a ha b hb2
                obtain ⟨e, he, rfl⟩ := List.mem_map.1 ha
                simp at hb2
                have := h4 e he
                omega
              · intro e he
                simp at he
                rcases he with he | rfl
                · have := h4 e (by simpa using he); omega
                · simp
              · simp only [Array.toList_push, List.map_append, List.map_cons, List.map_nil, List.nodup_append]
                refine ⟨h5, by simp, ?_⟩
                intro a ha b hb2
                obtain ⟨e, he, rfl⟩ := List.mem_map.1 ha
                simp at hb2
                subst hb2
                exact findNow_none hf he
          · cases h
            obtain ⟨hkeq, hbits⟩ := sameNow_eq hsame
            have hjl : j < es.size := by
              rcases Nat.lt_or_ge j es.size with h' | h'
              · exact h'
              · simp [h'] at he1
            have hej : es[j]? = some e1 := by simpa using he1
            have hej2 : es[j] = e1 := by rw [Array.getElem?_eq_getElem hjl] at hej; exact Option.some.inj hej
            have hmod : (es.modify j fun e => { e with key := k', val := v' }) = es.setIfInBounds j { e1 with key := k', val := v' } := by
              apply Array.ext_getElem?
              intro q
              rw [Array.getElem?_modify, Array.getElem?_setIfInBounds]
              split
              · rename_i hq; subst hq; simp [hjl, hej2]
              · rfl
            refine ⟨{ w with heap := w.heap.setIfInBounds (ι b).blk (.map (es.modify j fun e => { e with key := k', val := v' }) clock) }, ?_, ?_, rfl⟩
            · have e3 : ((es[0 + j]?).map (·.key)).getD k' = e1.key := by rw [Nat.zero_add, hej]; rfl
              simp only [Nat.zero_add] at hf e3
              simp [Instr.mapUpdate, hu, hd, run_getObj_map h1, run_checkKey hk hp, run_findKey hk hf, Instr.keyThatStays]
              rw [e3, hbits]
              simp [run_setObj h1]
            · simp only [Nat.zero_add]
              refine hR.set_map hg h1 rfl ?_ ?_ ?_ ?_ (.inl ⟨rfl, ?_⟩)
              · rw [hmod]
                simpa using h2.set j (e := { e1 with key := k', val := v' }) (.sc _) hv
              · rw [hmod]
                have : (es.setIfInBounds j { e1 with key := k', val := v' }).toList.map (·.born) = es.toList.map (·.born) := by
                  apply List.ext_getElem?
                  intro q
                  simp only [Array.toList_setIfInBounds, List.getElem?_map, List.getElem?_set]
                  split
                  · rename_i hq; subst hq; simp [hjl, hej2]
                  · rfl
                rw [this]; exact h3
              · rw [hmod]
                intro e he
                simp only [Array.toList_setIfInBounds] at he
                rcases List.mem_or_eq_of_mem_set he with he | rfl
                · exact h4 e he
                · exact h4 e1 (List.mem_of_getElem? he1)
              · rw [hmod]
                have : (es.setIfInBounds j { e1 with key := k', val := v' }).toList.map (·.key) = es.toList.map (·.key) := by
                  apply List.ext_getElem?
                  intro q
                  simp only [Array.toList_setIfInBounds, List.getElem?_map, List.getElem?_set]
                  split
                  · rename_i hq; subst hq; simp [hjl, hej2, hkeq]
                  · rfl
                rw [this]; exact h5
              · rw [hmod]
                intro e he
                simp only [Array.toList_setIfInBounds] at he
                rcases List.mem_or_eq_of_mem_set he with he | rfl
                · exact ⟨e, he, rfl, rfl⟩
                · exact ⟨e1, List.mem_of_getElem? he1, rfl, hkeq⟩
      · cases h
    · cases h
  · cases h

def aMapDel (kd : TypeDesc) (x k : AVal) (σ : AStore) : Option AStore :=
  if plainKey kd then
    match x, k with
    | .sc (.map none), .sc _ => some σ
    | .map b, .sc k =>
      match σ.get b with
      | some (.map kvs clock) =>
        match aFind kd k kvs 0 with
        | some (some (i, _)) => some (σ.set b (.map (kvs.eraseIdx i) clock))
        | some none => some (σ.set b (.map kvs clock))
        | none => none
      | _ => none
    | _, _ => none
  else none

theorem aMapDel_sound (hR : Rel E ι H σ w) {t : TypeId} {i : TyI} (hs : E.ty t = some i) {kt et : TypeId} (hd : i.desc = .map kt et) {ki : TyI} (hk : E.ty kt = some ki)
    {x k : AVal} {x' k' : Value} (hx : VRel σ.next ι H x x') (hkr : VRel σ.next ι H k k') (h : aMapDel ki.desc x k σ = some σ') (rt : TypeId) {ats : Array TypeId} (ha : ats[0]? = some t) :
    ∃ w', (Builtin.delete_ ats rt #[x', k']).run E.P w = .ok (.tuple #[]) w' ∧ Rel E ι H σ' w' ∧ σ'.next = σ.next := by
  have hu := run_underlying E.ok hs w
  simp only [aMapDel] at h
  split at h
  · rename_i hp
    split at h
    · obtain rfl := hx.sc_inv
      cases h
      exact ⟨w, by simp [Builtin.delete_, ha, hu, hd, run_checkKey hk hp], hR, rfl⟩
    · rename_i b kk
      obtain rfl := hkr.sc_inv
      obtain ⟨hb, rfl⟩ := hx.map_inv
      split at h
      · rename_i kvs clock hg
        obtain ⟨es, h1, h2, h3, h4, h5⟩ := (hR.live _ _ hg).1
        cases hfnd : aFind ki.desc k' kvs 0 with
        | none => simp [hfnd] at h
        | some r =>
          simp only [hfnd] at h
          rcases aFind_sound ki.desc k' 0 h2 hfnd with ⟨rfl, hf⟩ | ⟨j, v1, v2, e1, rfl, hf, hv1, he1, he2, hsame, hkv⟩
          · cases h
            refine ⟨{ w with heap := w.heap.setIfInBounds (ι b).blk (.map es clock) }, ?_, ?_, rfl⟩
            · simp [Builtin.delete_, ha, hu, hd, run_getObj_map h1, run_checkKey hk hp, run_findKey hk hf, run_setObj h1]
            · exact hR.set_map hg h1 rfl h2 h3 h4 h5 (.inl ⟨rfl, fun e he => ⟨e, he, rfl, rfl⟩⟩)
          · cases h
            simp only [Nat.zero_add] at hf ⊢
            have e5 : (es.eraseIdxIfInBounds j).toList = es.toList.eraseIdx j := by simp
            refine ⟨{ w with heap := w.heap.setIfInBounds (ι b).blk (.map (es.eraseIdxIfInBounds j) clock) }, ?_, ?_, rfl⟩
            · simp [Builtin.delete_, ha, hu, hd, run_getObj_map h1, run_checkKey hk hp, run_findKey hk hf, run_setObj h1]
            · refine hR.set_map hg h1 rfl ?_ ?_ ?_ ?_ (.inl ⟨rfl, ?_⟩)
              · rw [e5]; exact h2.erase j
              · rw [e5]
                exact List.Nodup.sublist ((List.eraseIdx_sublist _ _).map _) h3
              · rw [e5]
                intro e he
                exact h4 e ((List.eraseIdx_sublist _ _).mem he)
              · rw [e5]
                exact List.Nodup.sublist ((List.eraseIdx_sublist _ _).map _) h5
              · rw [e5]
                intro e he
                exact ⟨e, (List.eraseIdx_sublist _ _).mem he, rfl, rfl⟩
      · cases h
    · cases h
  · cases h
end
end Abs
end
noncomputable section
namespace Abs
set_option linter.unusedVariables false
set_option linter.unusedSimpArgs false
set_option linter.unusedSectionVars false
open Go

section
variable {E : Env} {ι : Inj} {H : Imm} {σ σ' : AStore} {w : World}

/-! ### Operators -/

def scBin (op : BinOp) (x y : Value) : Option Value :=
  match x, y with
  | .int k a, .int k' b =>
    match op with
    | .shl => if 0 ≤ b then some (.int k (k.wrap (a * 2 ^ (min b.toNat k.bits)))) else none
    | .shr => if 0 ≤ b then some (.int k (a.fdiv (2 ^ (min b.toNat k.bits)))) else none
    | _ =>
      if k = k' then
        match op with
        | .add => some (.int k (k.wrap (a + b)))
        | .sub => some (.int k (k.wrap (a - b)))
        | .mul => some (.int k (k.wrap (a * b)))
        | .quo => if b = 0 then none else some (.int k (k.wrap (a.tdiv b)))
        | .rem => if b = 0 then none else some (.int k (a.tmod b))
        | .and => some (.int k (k.wrap (BitVec.ofInt k.bits a &&& BitVec.ofInt k.bits b).toNat))
        | .or => some (.int k (k.wrap (BitVec.ofInt k.bits a ||| BitVec.ofInt k.bits b).toNat))
        | .xor => some (.int k (k.wrap (BitVec.ofInt k.bits a ^^^ BitVec.ofInt k.bits b).toNat))
        | .andNot => some (.int k (k.wrap (BitVec.ofInt k.bits a &&& ~~~BitVec.ofInt k.bits b).toNat))
        | .eql => some (.bool (a == b))
        | .neq => some (.bool (a != b))
        | .lss => some (.bool (a < b))
        | .leq => some (.bool (a ≤ b))
        | .gtr => some (.bool (a > b))
        | .geq => some (.bool (a ≥ b))
        | _ => none
      else none
  | .string a, .string b =>
    match op with
    | .add => if ((a.size + b.size : Nat) : Int) ≤ 9223372036854775807 then some (.string (a ++ b)) else none
    | .eql => some (.bool (a.toList == b.toList))
    | .neq => some (.bool (!(a.toList == b.toList)))
    | .lss => some (.bool (Op.bytesLess a.toList b.toList))
    | .leq => some (.bool (Op.bytesLess a.toList b.toList || a.toList == b.toList))
    | .gtr => some (.bool (!(Op.bytesLess a.toList b.toList || a.toList == b.toList)))
    | .geq => some (.bool (!(Op.bytesLess a.toList b.toList)))
    | _ => none
  | _, _ => none

theorem scBin_sound {op : BinOp} {x y v : Value} (h : scBin op x y = some v) (t : TypeId) (P : Program) : (binOp op t x y).run P w = .ok v w := by
  unfold scBin at h
  split at h
  · rename_i k a k' b
    split at h
    · split at h
      · rename_i hb
        cases h
        have : ¬ b < 0 := by omega
        simp [binOp, Op.shift, this]
      · cases h
    · split at h
      · rename_i hb
        cases h
        have : ¬ b < 0 := by omega
        simp [binOp, Op.shift, this]
      · cases h
    · rename_i o1 o2
      split at h
      · rename_i hk
        subst hk
        cases op <;> simp at h o1 o2 <;> first
          | (subst h; simp [binOp, Op.intArith, Op.intBits, Op.intCmp]; done)
          | (obtain ⟨h0, rfl⟩ := h; simp [binOp, Op.intDiv, h0]; done)
          | skip
      · cases h
  · rename_i a b
    cases op <;> simp at h <;> first
      | (subst h; simp [binOp, Op.stringOp]; done)
      | (obtain ⟨h0, rfl⟩ := h
         have : ¬ (9223372036854775807 < ((a.size : Int) + (b.size : Int))) := by omega
         have e : IntKind.i64.max = 9223372036854775807 := by decide
         simp [binOp, Op.stringOp, e, this]; done)
  · cases h

/-- '==' where a nil stands beside something. -/
def aEq (d : TypeDesc) (cst : Bool) (x y : AVal) : Option Bool :=
  match d, x, y with
  | .bool, .sc (.bool a), .sc (.bool b) => some (a == b)
  | .pointer _, .sc (.pointer none), .sc (.pointer none) => some true
  | .pointer _, .sc (.pointer none), .ptr _ _ _ => some false
  | .pointer _, .sc (.pointer none), .iptr _ => some false
  | .pointer _, .ptr _ _ _, .sc (.pointer none) => some false
  | .pointer _, .iptr _, .sc (.pointer none) => some false
  | .slice _, .sc (.slice none _ _), .sc (.slice none _ _) => some true
  | .slice _, .sc (.slice none _ _), .slice _ _ _ => some false
  | .slice _, .sc (.slice none _ _), .view _ _ _ => some false
  | .slice _, .sc (.slice none _ _), .endS _ _ => some false
  | .slice _, .sc (.slice none _ _), .data _ _ _ => some false
  | .slice _, .slice _ _ _, .sc (.slice none _ _) => some false
  | .slice _, .view _ _ _, .sc (.slice none _ _) => some false
  | .slice _, .endS _ _, .sc (.slice none _ _) => some false
  | .slice _, .data _ _ _, .sc (.slice none _ _) => some false
  | .map _ _, .sc (.map none), .sc (.map none) => some true
  | .map _ _, .map _, .sc (.map none) => some false
  | .map _ _, .sc (.map none), .map _ => some false
  | .func _ _ _, .sc .nilFunc, .sc .nilFunc => some true
  | .func _ _ _, .func _ _ _, .sc .nilFunc => some false
  | .func _ _ _, .sc .nilFunc, .func _ _ _ => some false
  | .interface _, .sc .nilIface, .iface _ _ => some false
  | .interface _, .iface _ _, .sc .nilIface => some false
  | .interface _, .sc .nilIface, .sc .nilIface => if cst then some true else none
  | _, _, _ => none

theorem run_equal {t : TypeId} {d : TypeDesc} {x y : Value} (hu : (underlying t).run E.P w = .ok d w) : (Op.equal t x y).run E.P w =
    (match d, x, y with
    | .bool, .bool a, .bool b => .ok (a == b) w
    | .pointer _, .pointer none, .pointer b => .ok b.isNone w
    | .pointer _, .pointer _, .pointer none => .ok false w
    | .interface _, .nilIface, .nilIface => .ok true w
    | .interface _, .nilIface, .iface _ _ => .ok false w
    | .interface _, .iface _ _, .nilIface => .ok false w
    | .slice _, .slice none _ _, .slice b _ _ => .ok b.isNone w
    | .slice _, .slice _ _ _, .slice none _ _ => .ok false w
    | .map _ _, .map none, .map b => .ok b.isNone w
    | .map _ _, .map _, .map none => .ok false w
    | .func _ _ _, .nilFunc, .nilFunc => .ok true w
    | .func _ _ _, .nilFunc, .func _ _ _ => .ok false w
    | .func _ _ _, .func _ _ _, .nilFunc => .ok false w
    | _, _, _ => (Op.equal t x y).run E.P w) := by
  have e : ∀ x y, (Op.equal t x y) = Op.equalIn (9999 + 1) t x y := fun _ _ => rfl
  split
  all_goals first
    | rfl
    | (rename_i hu'; rw [e, Op.equalIn, Sem.run_bind, hu']; rfl)
    | (rename_i hu' hne; rw [e, Op.equalIn, Sem.run_bind, hu']; simp only [Result.andThen_ok]; rfl)

theorem aEq_sound {t : TypeId} {i : TyI} (hs : E.ty t = some i) {n : Nat} {x y : AVal} {x' y' : Value} (hx : VRel n ι H x x') (hy : VRel n ι H y y') {cst : Bool} {b : Bool} (h : aEq i.desc cst x y = some b) :
    (Op.equal t x' y').run E.P w = .ok b w ∧ (∀ a a', x' ≠ .int a a') ∧ (∀ a, x' ≠ .string a) ∧ (∀ a b', x' ≠ .float a b') ∧ (∀ a b' c, x' ≠ .complex a b' c) ∧ (∀ a, x' ≠ .agg a) ∧
      (∀ a, y' ≠ .agg a) ∧ ((x' = .nilIface ∧ y' = .nilIface) → cst = true) := by
  have hu := run_underlying E.ok hs w
  unfold aEq at h
  split at h
  all_goals first
    | (cases h; done)
    | skip
  all_goals
    rename_i hd
    first
      | (obtain rfl := hx.sc_inv; obtain rfl := hy.sc_inv)
      | (obtain rfl := hx.sc_inv; obtain ⟨_, rfl⟩ := hy.ptr_inv)
      | (obtain rfl := hx.sc_inv; obtain ⟨_, _, rfl, _⟩ := hy.iptr_inv)
      | (obtain rfl := hy.sc_inv; obtain ⟨_, rfl⟩ := hx.ptr_inv)
      | (obtain rfl := hy.sc_inv; obtain ⟨_, _, rfl, _⟩ := hx.iptr_inv)
      | (obtain rfl := hx.sc_inv; obtain ⟨_, rfl, _⟩ := hy.slice_inv)
      | (obtain rfl := hx.sc_inv; obtain ⟨rfl, _⟩ := hy.view_inv)
      | (obtain rfl := hx.sc_inv; obtain ⟨_, _, rfl, _⟩ := hy.endS_inv)
      | (obtain rfl := hx.sc_inv; obtain ⟨_, _, _, rfl, _⟩ := hy.data_inv)
      | (obtain rfl := hy.sc_inv; obtain ⟨_, rfl, _⟩ := hx.slice_inv)
      | (obtain rfl := hy.sc_inv; obtain ⟨rfl, _⟩ := hx.view_inv)
      | (obtain rfl := hy.sc_inv; obtain ⟨_, _, rfl, _⟩ := hx.endS_inv)
      | (obtain rfl := hy.sc_inv; obtain ⟨_, _, _, rfl, _⟩ := hx.data_inv)
      | (obtain rfl := hx.sc_inv; obtain ⟨_, rfl⟩ := hy.map_inv)
      | (obtain rfl := hy.sc_inv; obtain ⟨_, rfl⟩ := hx.map_inv)
      | (obtain rfl := hx.sc_inv; obtain ⟨_, _, rfl, _⟩ := hy.func_inv)
      | (obtain rfl := hy.sc_inv; obtain ⟨_, _, rfl, _⟩ := hx.func_inv)
      | (obtain rfl := hx.sc_inv; obtain ⟨_, rfl, _⟩ := hy.iface_inv)
      | (obtain rfl := hy.sc_inv; obtain ⟨_, rfl, _⟩ := hx.iface_inv)
    simp at h
    first
      | (subst h
         refine ⟨?_, by simp, by simp, by simp, by simp, by simp, by simp, by simp⟩
         exact run_equal (hd ▸ hu))
      | (have h1 := h.1
         have h2 := h.2
         subst h2
         refine ⟨?_, by simp, by simp, by simp, by simp, by simp, by simp, fun _ => h1⟩
         exact run_equal (hd ▸ hu))

def isConstOp : Operand → Bool
  | .const _ => true
  | _ => false

def aBin (d : TypeDesc) (op : BinOp) (cst : Bool) (x y : AVal) : Option AVal :=
  match x, y with
  | .sc (.int k a), .sc y => (scBin op (.int k a) y).map .sc
  | .sc (.string a), .sc y => (scBin op (.string a) y).map .sc
  | x, y =>
    match op with
    | .eql => (aEq d cst x y).map fun b => .sc (.bool b)
    | .neq => (aEq d cst x y).map fun b => .sc (.bool !b)
    | _ => none

theorem run_eqGuard {op : BinOp} {t : TypeId} {x y : Operand} {a b : Value} (h1 : ∀ c, a ≠ .agg c) (h2 : (a = .nilIface ∧ b = .nilIface) → (isConstOp x || isConstOp y) = true) :
    (eqGuard op t x y a b).run E.P w = .ok () w := by
  unfold eqGuard
  by_cases hop : op = .eql ∨ op = .neq
  · have : (!(match op with | .eql => true | .neq => true | _ => false)) = false := by rcases hop with rfl | rfl <;> rfl
    by_cases hn : a = .nilIface ∧ b = .nilIface
    · obtain ⟨rfl, rfl⟩ := hn
      have hc := h2 ⟨rfl, rfl⟩
      rcases hop with rfl | rfl <;> (cases x <;> cases y <;> simp [isConstOp] at hc <;> simp)
    · rcases hop with rfl | rfl <;> (cases a <;> first | exact absurd rfl (h1 _) | (cases b <;> first | exact absurd ⟨rfl, rfl⟩ hn | simp))
  · have : op ≠ .eql ∧ op ≠ .neq := by simpa using hop
    cases op <;> simp_all

theorem aBin_sound (hR : Rel E ι H σ w) {t : TypeId} {i : TyI} (hs : E.ty t = some i) {op : BinOp} {x y : Operand} {a b v : AVal} {a' b' : Value} (ha : VRel σ.next ι H a a') (hb : VRel σ.next ι H b b')
    (h : aBin i.desc op (isConstOp x || isConstOp y) a b = some v) :
    SndV E ι H σ ((do eqGuard op t x y a' b'; binOp op t a' b' : Sem Value).run E.P w) v σ := by
  have key : ∀ b0, aEq i.desc (isConstOp x || isConstOp y) a b = some b0 → (op = .eql ∧ v = .sc (.bool b0) ∨ op = .neq ∧ v = .sc (.bool !b0)) →
      SndV E ι H σ ((do eqGuard op t x y a' b'; binOp op t a' b' : Sem Value).run E.P w) v σ := by
    intro b0 he hv
    obtain ⟨q1, q2, q3, q4, q5, q6, q7, q8⟩ := aEq_sound (E := E) (w := w) hs ha hb he
    have hg := run_eqGuard (E := E) (w := w) (op := op) (t := t) (x := x) (y := y) (a := a') (b := b') q6 q8
    rcases hv with ⟨rfl, rfl⟩ | ⟨rfl, rfl⟩
    · refine SndV.same hR (v' := .bool b0) ?_ (.sc _)
      simp only [Sem.run_bind, hg, Result.andThen_ok]
      cases a' <;> first | exact absurd rfl (q2 _ _) | exact absurd rfl (q3 _) | exact absurd rfl (q4 _ _) | exact absurd rfl (q5 _ _ _) | simp [binOp, q1]
    · refine SndV.same hR (v' := .bool !b0) ?_ (.sc _)
      simp only [Sem.run_bind, hg, Result.andThen_ok]
      cases a' <;> first | exact absurd rfl (q2 _ _) | exact absurd rfl (q3 _) | exact absurd rfl (q4 _ _) | exact absurd rfl (q5 _ _ _) | simp [binOp, q1]
  have key2 : ∀ x0 y0 v0, a = .sc x0 → b = .sc y0 → (∀ c, x0 ≠ .agg c) → x0 ≠ .nilIface → scBin op x0 y0 = some v0 → v = .sc v0 →
      SndV E ι H σ ((do eqGuard op t x y a' b'; binOp op t a' b' : Sem Value).run E.P w) v σ := by
    intro x0 y0 v0 h1 h2 h3 h4 h5 h6
    subst h1 h2 h6
    obtain rfl := ha.sc_inv
    obtain rfl := hb.sc_inv
    have hg := run_eqGuard (E := E) (w := w) (op := op) (t := t) (x := x) (y := y) (a := a') (b := b') h3 (fun hc => absurd hc.1 h4)
    refine SndV.same hR (v' := v0) ?_ (.sc _)
    simp only [Sem.run_bind, hg, Result.andThen_ok]
    exact scBin_sound h5 t E.P
  unfold aBin at h
  split at h
  · rename_i k z y0
    cases hh : scBin op (.int k z) y0 with
    | none => simp [hh] at h
    | some v0 => simp [hh] at h; exact key2 _ _ v0 rfl rfl (by simp) (by simp) hh h.symm
  · rename_i z y0
    cases hh : scBin op (.string z) y0 with
    | none => simp [hh] at h
    | some v0 => simp [hh] at h; exact key2 _ _ v0 rfl rfl (by simp) (by simp) hh h.symm
  · split at h
    · cases he : aEq i.desc (isConstOp x || isConstOp y) a b with
      | none => simp [he] at h
      | some b0 => simp [he] at h; exact key b0 he (.inl ⟨rfl, h.symm⟩)
    · cases he : aEq i.desc (isConstOp x || isConstOp y) a b with
      | none => simp [he] at h
      | some b0 => simp [he] at h; exact key b0 he (.inr ⟨rfl, h.symm⟩)
    · cases h

def aUn (op : UnOp) (x : AVal) : Option AVal :=
  match op, x with
  | .neg, .sc (.int k n) => some (.sc (.int k (k.wrap (0 - n))))
  | .xor, .sc (.int k n) => some (.sc (.int k (k.wrap (BitVec.ofInt k.bits (if k.signed then -1 else k.max) ^^^ BitVec.ofInt k.bits n).toNat)))
  | .not, .sc (.bool b) => some (.sc (.bool !b))
  | _, _ => none

theorem aUn_sound (hR : Rel E ι H σ w) {op : UnOp} {x v : AVal} {x' : Value} (hx : VRel σ.next ι H x x') (h : aUn op x = some v) : SndV E ι H σ ((Op.unary op x').run E.P w) v σ := by
  unfold aUn at h
  split at h
  · obtain rfl := hx.sc_inv; cases h; exact SndV.same hR (v' := .int _ _) (by simp [Op.unary, Op.intArith]) (.sc _)
  · obtain rfl := hx.sc_inv; cases h; exact SndV.same hR (v' := .int _ _) (by simp [Op.unary, Op.intBits]) (.sc _)
  · obtain rfl := hx.sc_inv; cases h; exact SndV.same hR (v' := .bool _) (by simp [Op.unary]) (.sc _)
  · cases h
end
end Abs
end
noncomputable section
namespace Abs
set_option linter.unusedVariables false
set_option linter.unusedSimpArgs false
set_option linter.unusedSectionVars false
open Go

/-! ### Structs side by side -/

def aEqFs (E : Env) (f : TypeId → AVal → AVal → Option Bool) (xs ys : List AVal) : List Field → Option Bool
  | [] => some true
  | fd :: r =>
    match decide (fd.name = "_") with
    | true => aEqFs E f xs ys r
    | false =>
      match E.ty fd.type with
      | some j =>
        match loadCs j.isA j.size fd.offset xs, loadCs j.isA j.size fd.offset ys with
        | some a, some b =>
          match f fd.type a b with
          | some true => aEqFs E f xs ys r
          | some false => some false
          | none => none
        | _, _ => none
      | none => none

def aEqIn (E : Env) : Nat → TypeId → AVal → AVal → Option Bool
  | 0, _, _, _ => none
  | d + 1, t, x, y =>
    match E.ty t with
    | none => none
    | some i =>
      match i.desc, x, y with
      | .bool, .sc (.bool a), .sc (.bool b) => some (a == b)
      | .int _, .sc (.int k a), .sc (.int k' b) => if k = k' then some (a == b) else none
      | .string, .sc (.string a), .sc (.string b) => some (a == b)
      | .struct fs, .agg xs, .agg ys =>
        match E.P.stoodInHeld t with
        | true => none
        | false => aEqFs E (aEqIn E d) xs ys fs.toList
      | _, _, _ => none

section
variable {E : Env} {ι : Inj} {H : Imm} {w : World} {n : Nat}

theorem aEqFs_sound {d : Nat} {f : TypeId → AVal → AVal → Option Bool}
    (hf : ∀ t x y x' y' b, VRel n ι H x x' → VRel n ι H y y' → f t x y = some b → (Op.equalIn d t x' y').run E.P w = .ok b w)
    {xs ys : List AVal} {xs' ys' : List Value} (hx : LRel n ι H xs xs') (hy : LRel n ι H ys ys') : ∀ (fs : List Field) (b : Bool), aEqFs E f xs ys fs = some b →
    (forIn (m := Sem) fs ((none, ()) : Option Bool × Unit) fun fd _ => if fd.name ≠ "_" then (do
        let a ← part fd.type xs'.toArray fd.offset
        let b ← part fd.type ys'.toArray fd.offset
        let r ← Op.equalIn d fd.type a b
        if (!r) = true then pure (ForInStep.done (some false, ())) else pure (ForInStep.yield (none, ())) : Sem (ForInStep (Option Bool × Unit))) else pure (ForInStep.yield (none, ()))).run E.P w = .ok (if b then (none, ()) else (some false, ())) w
  | [], b, h => by
      cases h
      simp
  | fd :: r, b, h => by
      unfold aEqFs at h
      rw [List.forIn_cons, Sem.run_bind]
      split at h
      · rename_i hn
        have hn : fd.name = "_" := by simpa using hn
        simp only [hn, ne_eq, not_true_eq_false, if_false, Sem.run_pure, Result.andThen_ok]
        exact aEqFs_sound hf hx hy r b h
      · rename_i hn
        have hn : ¬ fd.name = "_" := by simpa using hn
        split at h
        · rename_i j hj
          split at h
          · rename_i a b' ha hb
            obtain ⟨a', p1, p2⟩ := run_part (E := E) (w := w) hj hx ha
            obtain ⟨b'', p3, p4⟩ := run_part (E := E) (w := w) hj hy hb
            split at h
            · rename_i hr
              have := hf _ _ _ _ _ _ p2 p4 hr
              simp only [hn, ne_eq, not_false_eq_true, if_true, Sem.run_bind, p1, p3, Result.andThen_ok, this, Bool.not_true, Bool.false_eq_true, if_false, Sem.run_pure]
              exact aEqFs_sound hf hx hy r b h
            · rename_i hr
              cases h
              have := hf _ _ _ _ _ _ p2 p4 hr
              simp [hn, Sem.run_bind, p1, p3, this]
            · cases h
          · cases h
        · cases h

theorem aEqIn_sound : ∀ (d : Nat) (t : TypeId) (x y : AVal) (x' y' : Value) (b : Bool), VRel n ι H x x' → VRel n ι H y y' → aEqIn E d t x y = some b → (Op.equalIn d t x' y').run E.P w = .ok b w
  | 0, _, _, _, _, _, _, _, _, h => by cases h
  | d + 1, t, x, y, x', y', b, hx, hy, h => by
      unfold aEqIn at h
      split at h
      · cases h
      · rename_i i hi
        have hu := run_underlying E.ok hi w
        split at h
        · rename_i hd
          obtain rfl := hx.sc_inv; obtain rfl := hy.sc_inv
          cases h
          rw [Op.equalIn, Sem.run_bind, hu, hd]; rfl
        · rename_i hd
          obtain rfl := hx.sc_inv; obtain rfl := hy.sc_inv
          split at h
          · rename_i hk
            cases h
            subst hk
            rw [Op.equalIn, Sem.run_bind, hu, hd]; simp
          · cases h
        · rename_i hd
          obtain rfl := hx.sc_inv; obtain rfl := hy.sc_inv
          cases h
          rw [Op.equalIn, Sem.run_bind, hu, hd]; rfl
        · rename_i fs xs ys hd
          obtain ⟨xs', rfl, hxs⟩ := hx.agg_inv
          obtain ⟨ys', rfl, hys⟩ := hy.agg_inv
          split at h
          · cases h
          · rename_i hst
            have := aEqFs_sound (E := E) (w := w) (d := d) (fun t x y x' y' b => aEqIn_sound d t x y x' y' b) hxs hys fs.toList b h
            rw [Op.equalIn, Sem.run_bind, hu, hd]
            have hp : (program : Sem Program).run E.P w = .ok E.P w := rfl
            simp only [Result.andThen_ok, Sem.run_bind, hp, hst, Bool.false_eq_true, if_false]
            rw [← Array.forIn_toList, this]
            cases b <;> simp
        · cases h

/-- '==' and '!=' of structs too. -/
def aBin2 (E : Env) (t : TypeId) (d : TypeDesc) (op : BinOp) (cst : Bool) (x y : AVal) : Option AVal :=
  match x, y with
  | .agg xs, .agg ys =>
    match E.P.eqGuardType E.P.depth t with
    | true => none
    | false =>
      match op with
      | .eql => (aEqIn E 10000 t (.agg xs) (.agg ys)).map fun b => .sc (.bool b)
      | .neq => (aEqIn E 10000 t (.agg xs) (.agg ys)).map fun b => .sc (.bool !b)
      | _ => none
  | .ptr b i k, .ptr b' i' k' =>
    match d with
    | .pointer te =>
      match E.ty te, Nat.beq b b' && (Nat.beq i i' && Nat.beq k k'), op with
      | some _, true, .eql => some (.sc (.bool true))
      | some _, true, .neq => some (.sc (.bool false))
      | _, _, _ => none
    | _ => none
  | x, y => aBin d op cst x y

theorem run_eql_ptr_same {P : Program} {w : World} {tp te : TypeId} {j : TypeInfo} (a : Addr) (hp : P.underlying tp = some (.pointer te)) (hte : P.info? te = some j) :
    (Op.equal tp (.pointer (some a)) (.pointer (some a))).run P w = .ok true w := by
  have h : ∀ d : Nat, (Op.equalIn (d + 1) tp (.pointer (some a)) (.pointer (some a))).run P w = .ok true w := fun d => by
    simp [Op.equalIn, Go.run_underlying hp, Go.sizeOf, typeInfo, hte, run_sameAddr_same]
  exact h 9999

theorem aBin2_sound {σ : AStore} (hR : Rel E ι H σ w) {t : TypeId} {i : TyI} (hs : E.ty t = some i) {op : BinOp} {x y : Operand} {a b v : AVal} {a' b' : Value} (ha : VRel σ.next ι H a a') (hb : VRel σ.next ι H b b')
    (h : aBin2 E t i.desc op (isConstOp x || isConstOp y) a b = some v) :
    SndV E ι H σ ((do eqGuard op t x y a' b'; binOp op t a' b' : Sem Value).run E.P w) v σ := by
  unfold aBin2 at h
  split at h
  · rename_i xs ys
    have ha0 := ha
    have hb0 := hb
    obtain ⟨xs', rfl, hxs⟩ := ha.agg_inv
    obtain ⟨ys', rfl, hys⟩ := hb.agg_inv
    split at h
    · cases h
    · rename_i hg
      have hp : (program : Sem Program).run E.P w = .ok E.P w := rfl
      split at h
      · cases he : aEqIn E 10000 t (.agg xs) (.agg ys) with
        | none => rw [he] at h; cases h
        | some b0 =>
          rw [he] at h
          cases h
          have h1 : (Op.equal t (.agg xs'.toArray) (.agg ys'.toArray)).run E.P w = .ok b0 w := aEqIn_sound 10000 t _ _ _ _ b0 ha0 hb0 he
          refine SndV.same hR (v' := .bool b0) ?_ (.sc _)
          simp [eqGuard, hp, hg, binOp, h1]
      · cases he : aEqIn E 10000 t (.agg xs) (.agg ys) with
        | none => rw [he] at h; cases h
        | some b0 =>
          rw [he] at h
          cases h
          have h1 : (Op.equal t (.agg xs'.toArray) (.agg ys'.toArray)).run E.P w = .ok b0 w := aEqIn_sound 10000 t _ _ _ _ b0 ha0 hb0 he
          refine SndV.same hR (v' := .bool !b0) ?_ (.sc _)
          simp [eqGuard, hp, hg, binOp, h1]
      · cases h
  · rename_i b0 i0 k0 b1 i1 k1
    split at h
    · rename_i te hd
      split at h
      · rename_i j hj hbb
        rw [Bool.and_eq_true, Bool.and_eq_true] at hbb
        obtain ⟨e1, e2, e3⟩ := hbb
        obtain rfl := Nat.eq_of_beq_eq_true e1
        obtain rfl := Nat.eq_of_beq_eq_true e2
        obtain rfl := Nat.eq_of_beq_eq_true e3
        cases h
        obtain ⟨_, rfl⟩ := ha.ptr_inv
        obtain ⟨_, rfl⟩ := hb.ptr_inv
        obtain ⟨_, info, q1, _⟩ := E.ok te j hj
        have hp : E.P.underlying t = some (.pointer te) := by rw [(E.ok t i hs).1, hd]
        have hg := run_eqGuard (E := E) (w := w) (op := .eql) (t := t) (x := x) (y := y) (a := .pointer (some ⟨(ι b0).blk, (ι b0).base + i0 * (ι b0).sz + k0, none⟩)) (b := .pointer (some ⟨(ι b0).blk, (ι b0).base + i0 * (ι b0).sz + k0, none⟩)) (by intro c hc; cases hc) (by rintro ⟨hc, _⟩; cases hc)
        have h1 := run_eql_ptr_same (w := w) ⟨(ι b0).blk, (ι b0).base + i0 * (ι b0).sz + k0, none⟩ hp q1
        refine SndV.same hR (v' := .bool true) ?_ (.sc _)
        simp only [Sem.run_bind, hg, Result.andThen_ok]
        simp [binOp, h1]
      · rename_i j hj hbb
        rw [Bool.and_eq_true, Bool.and_eq_true] at hbb
        obtain ⟨e1, e2, e3⟩ := hbb
        obtain rfl := Nat.eq_of_beq_eq_true e1
        obtain rfl := Nat.eq_of_beq_eq_true e2
        obtain rfl := Nat.eq_of_beq_eq_true e3
        cases h
        obtain ⟨_, rfl⟩ := ha.ptr_inv
        obtain ⟨_, rfl⟩ := hb.ptr_inv
        obtain ⟨_, info, q1, _⟩ := E.ok te j hj
        have hp : E.P.underlying t = some (.pointer te) := by rw [(E.ok t i hs).1, hd]
        have hg := run_eqGuard (E := E) (w := w) (op := .neq) (t := t) (x := x) (y := y) (a := .pointer (some ⟨(ι b0).blk, (ι b0).base + i0 * (ι b0).sz + k0, none⟩)) (b := .pointer (some ⟨(ι b0).blk, (ι b0).base + i0 * (ι b0).sz + k0, none⟩)) (by intro c hc; cases hc) (by rintro ⟨hc, _⟩; cases hc)
        have h1 := run_eql_ptr_same (w := w) ⟨(ι b0).blk, (ι b0).base + i0 * (ι b0).sz + k0, none⟩ hp q1
        refine SndV.same hR (v' := .bool false) ?_ (.sc _)
        simp only [Sem.run_bind, hg, Result.andThen_ok]
        simp [binOp, h1]
      · cases h
    · cases h
  · exact aBin_sound hR hs ha hb h
end
end Abs
end
noncomputable section
namespace Abs
set_option linter.unusedVariables false
set_option linter.unusedSimpArgs false
set_option linter.unusedSectionVars false
open Go

section
variable {E : Env} {ι : Inj} {H : Imm} {σ σ' : AStore} {w : World}

/-! ### Conversions -/

def bytesOf (s : ByteArray) : List AVal := s.data.toList.map fun b => .sc (.int .u8 b.toNat)

/-- The bytes that elements are. -/
def unbytes : List AVal → Option (List Int)
  | [] => some []
  | .sc (.int .u8 n) :: rest => (unbytes rest).map (n :: ·)
  | _ :: _ => none

def strOf (ns : List Int) : ByteArray := ns.foldl (fun r n => r.push (UInt8.ofNat n.toNat)) ByteArray.empty

/-- To a raw pointer, and back. -/
def aToU (ty : Nat → Option TyI) (t : TypeId) (x : AVal) (σ : AStore) : Option (AVal × AStore) :=
  match x with
  | .sc (.pointer none) => some (.sc (.pointer none), σ)
  | .ptr b i k =>
    match ty t, σ.get b with
    | some j, some (.cells sz els) => if j.size ≠ 0 ∧ i < els.length ∧ k < sz then some (.ptr b i k, σ) else none
    | _, _ => none
  | _ => none
def aFromU (ty : Nat → Option TyI) (u : TypeId) (x : AVal) (σ : AStore) : Option (AVal × AStore) :=
  match x with
  | .sc (.pointer none) => some (.sc (.pointer none), σ)
  | .ptr b 0 0 =>
    match ty u, σ.get b with
    | some j, some (.cells sz els) => if j.size = sz ∧ sz ≠ 0 ∧ 1 ≤ els.length ∧ hasTy σ.tys b u = true then some (.ptr b 0 0, σ) else none
    | _, _ => none
  | _ => none

def aConv (ty : Nat → Option TyI) (s d : TypeDesc) (x : AVal) (σ : AStore) : Option (AVal × AStore) :=
  match d, x with
  | .int k, .sc (.int _ n) => some (.sc (.int k (k.wrap n)), σ)
  | .string, .sc (.string b) => match s with | .string => some (.sc (.string b), σ) | _ => none
  | .slice e, .sc (.string b) =>
    match s, ty e with
    | .string, some i => match i.desc with | .int .u8 => some (.slice σ.next 0 b.size, σ.alloc (.cells 1 (bytesOf b))) | _ => none
    | _, _ => none
  | .string, x =>
    match s with
    | .slice e =>
      match ty e with
      | some i =>
        match i.desc with
        | .int .u8 =>
          match aElems 1 x σ with
          | some els => (unbytes els).map fun ns => (.sc (.string (strOf ns)), σ)
          | none => none
        | _ => none
      | none => none
    | _ => none
  | .unsafePointer, x => match s with
    | .pointer t => aToU ty t x σ
    | _ => none
  | .pointer u, x => match s with
    | .unsafePointer => aFromU ty u x σ
    | _ => none
  | _, _ => none

theorem unbytes_map : ∀ {els : List AVal} {ns : List Int}, unbytes els = some ns → els = ns.map fun n => .sc (.int .u8 n)
  | [], ns, h => by simp [unbytes] at h; subst h; rfl
  | e :: els, ns, h => by
      unfold unbytes at h
      split at h
      · rename_i h'; cases h'
      · rename_i n rest h'
        cases h'
        cases hr : unbytes els with
        | none => simp [hr] at h
        | some ms => simp [hr] at h; subst h; simp [unbytes_map hr]
      · cases h

theorem DRel.scs {n : Nat} : ∀ {ms : List Int} {ws : List Value}, DRel n ι H (ws[·]?) 1 (ms.map fun z => .sc (.int .u8 z)) 0 → ws.length = ms.length → ws = ms.map (Value.int .u8) := by
  intro ms ws h hl
  apply List.ext_getElem?
  intro i
  by_cases hi : i < ms.length
  · have := (h.get (i := i) (e := .sc (.int .u8 ms[i])) (by simp [hi])).1
    simp only [AVal.cells] at this
    cases this with
    | cons _ _ v _ _ ho hv _ =>
      have := hv.sc_inv
      subst this
      have ho' : ws[0 + i * 1]? = some (Value.int .u8 ms[i]) := ho
      rw [show 0 + i * 1 = i by omega] at ho'
      rw [ho']
      simp [hi]
  · rw [List.getElem?_eq_none (by omega), List.getElem?_eq_none (by simp; omega)]

theorem bytesRow_rel {n : Nat} (s : ByteArray) (m : Nat) : DRel n ι H ((bytesRow s m)[·]?) 1 (bytesOf s) 0 := by
  apply DRel.of_get
  intro i e he
  unfold bytesOf at he
  rw [List.getElem?_map] at he
  cases hb : s.data.toList[i]? with
  | none => simp [hb] at he
  | some b =>
    simp [hb] at he
    subst he
    refine ⟨.cons _ _ (.int .u8 b.toNat) _ _ ?_ (.sc _) (.nil _ _), rfl⟩
    have hi : i < s.data.size := by
      rcases Nat.lt_or_ge i s.data.size with h | h
      · exact h
      · rw [List.getElem?_eq_none (by simpa using h)] at hb; cases hb
    show (bytesRow s m)[0 + i * 1]? = _
    rw [show 0 + i * 1 = i by omega]
    unfold bytesRow
    rw [Array.getElem?_append_left (by simpa using hi)]
    simp at hb
    simp [hb]

theorem liesAt_self {P : Program} {e : TypeId} (hc : P.cellsOf e ≠ 0) (count n : Nat) (hn : n ≤ count) : liesAt P P.depth e count 0 e n = true := by
  have hd : P.depth = (2 * (P.types.size + Made.depth) + 1) + 1 := rfl
  rw [hd]
  simp only [liesAt, Bool.or_eq_true]
  left
  rw [hd]
  simp [rowAt, hc, hn, sameLayout]

theorem cellsOf_ty {t : TypeId} {j : TyI} (h : E.ty t = some j) : E.P.cellsOf t = j.size := by
  obtain ⟨_, info, h1, h2, _⟩ := E.ok t j h
  simp [Program.cellsOf, h1, h2]

theorem aToU_sound (hR : Rel E ι H σ w) {s d t : TypeId} (hs : E.P.underlying s = some (.pointer t)) (hd : E.P.underlying d = some .unsafePointer) {x v : AVal} {x' : Value} (hx : VRel σ.next ι H x x')
    (h : aToU E.ty t x σ = some (v, σ')) : SndV E ι H σ ((convert s d x').run E.P w) v σ' := by
  unfold aToU at h
  split at h
  · obtain rfl := hx.sc_inv
    cases h
    refine SndV.same hR (v' := .pointer none) ?_ (.sc _)
    simp [convert, Go.run_underlying hs, Go.run_underlying hd, Conv.unsafePointer]
  · rename_i b i k
    obtain ⟨hb, rfl⟩ := hx.ptr_inv
    split at h
    · rename_i j sz els hj hg
      split at h
      · rename_i hc
        obtain ⟨h1, h2, h3⟩ := hc
        cases h
        obtain ⟨g1, g2, c, elem, fr, g3, gf, g4, g5, g6⟩ := (hR.live b _ hg).1
        obtain ⟨_, info, i1, i2, _⟩ := E.ok t j hj
        refine SndV.same hR ?_ hx
        have hsh : w.shape? (ι b).blk = some (elem, c.size) := by simp [World.shape?, g3]
        have hoff : (ι b).base + i * (ι b).sz + k < c.size := by
          have : (i + 1) * sz ≤ (ι b).cap * sz := Nat.mul_le_mul_right _ (by omega)
          rw [Nat.add_mul] at this
          rw [g1]; omega
        have hn : ¬ c.size ≤ (ι b).base + i * (ι b).sz + k := by omega
        simp [convert, Go.run_underlying hs, Go.run_underlying hd, Conv.unsafePointer, Conv.seenAt, viewAt, cellsIn, hsh, Go.sizeOf, typeInfo, i1, i2, h1, hn]
      · cases h
    · cases h
  · cases h

theorem aFromU_sound (hR : Rel E ι H σ w) {s d u : TypeId} (hs : E.P.underlying s = some .unsafePointer) (hd : E.P.underlying d = some (.pointer u)) {x v : AVal} {x' : Value} (hx : VRel σ.next ι H x x')
    (h : aFromU E.ty u x σ = some (v, σ')) : SndV E ι H σ ((convert s d x').run E.P w) v σ' := by
  unfold aFromU at h
  split at h
  · obtain rfl := hx.sc_inv
    cases h
    refine SndV.same hR (v' := .pointer none) ?_ (.sc _)
    simp [convert, Go.run_underlying hs, Go.run_underlying hd, Conv.unsafePointer]
  · rename_i b
    obtain ⟨hb, rfl⟩ := hx.ptr_inv
    split at h
    · rename_i j sz els hj hg
      split at h
      · rename_i hc
        obtain ⟨h1, h2, h3, h4⟩ := hc
        cases h
        obtain ⟨g1, g2, c, elem, fr, g3, gf, g4, g5, g6⟩ := (hR.live b _ hg).1
        obtain ⟨_, t2, t3⟩ := hR.tys _ _ (hasTy_mem h4)
        obtain ⟨_, info, i1, i2, _⟩ := E.ok u j hj
        have he : elem = u := g6.trans t2
        subst he
        refine SndV.same hR ?_ hx
        have hsh : w.shape? (ι b).blk = some (elem, c.size) := by simp [World.shape?, g3]
        have hcell := cellsOf_ty hj
        have hle : 1 ≤ c.size / j.size := by
          rw [Nat.le_div_iff_mul_le (by omega)]
          have : 1 * sz ≤ (ι b).cap * sz := Nat.mul_le_mul_right _ (by omega)
          rw [h1]; omega
        have hlies := liesAt_self (P := E.P) (e := elem) (by rw [hcell]; omega) (c.size / E.P.cellsOf elem) 1 (by rw [hcell]; exact hle)
        simp [convert, Go.run_underlying hs, Go.run_underlying hd, Conv.unsafePointer, Conv.seenAt, viewAt, hsh, variablesAt, hlies, t3, Go.sizeOf, typeInfo, i1]
      · cases h
    · cases h
  · cases h

theorem aConv_sound (hR : Rel E ι H σ w) {s d : TypeId} {si di : TyI} (hs : E.ty s = some si) (hd : E.ty d = some di) {x v : AVal} {x' : Value} (hx : VRel σ.next ι H x x')
    (h : aConv E.ty si.desc di.desc x σ = some (v, σ')) : SndV E ι H σ ((convert s d x').run E.P w) v σ' := by
  have hu1 := run_underlying E.ok hs w
  have hu2 := run_underlying E.ok hd w
  have hp1 := (E.ok s si hs).1
  have hp2 := (E.ok d di hd).1
  unfold aConv at h
  split at h
  · rename_i k k' n hdd
    obtain rfl := hx.sc_inv
    cases h
    refine SndV.same hR (v' := .int k (k.wrap n)) ?_ (.sc _)
    simp only [convert, Sem.run_bind, hu1, hu2, Result.andThen_ok, hdd]
    cases si.desc <;> rfl
  · rename_i b hdd
    obtain rfl := hx.sc_inv
    split at h
    · rename_i hss
      cases h
      refine SndV.same hR (v' := .string b) ?_ (.sc _)
      simp [convert, hu1, hu2, hdd, hss]
    · cases h
  · rename_i e b hdd
    obtain rfl := hx.sc_inv
    split at h
    · rename_i i hss he
      split at h
      · rename_i hii
        cases h
        have hr := run_bytes_of_string (P := E.P) w s d e b (by rw [hp1, hss]) (by rw [hp2, hdd]) (by rw [(E.ok e i he).1, hii])
        have hcap := cap_le w b.size 0 e
        have hsz : (bytesRow b (grownCap w b.size 0 e)).size = grownCap w b.size 0 e := by
          simp [bytesRow]; show b.data.size + _ = _; have : b.data.size = b.size := rfl; omega
        obtain ⟨ι', r1, r2, r3, _⟩ := (hR.drew).newRow e (c := bytesRow b (grownCap w b.size 0 e)) (sz := 1) (cap := grownCap w b.size 0 e) (len := b.size) (els := bytesOf b) (bytesRow_rel b _)
          (by rw [hsz]; omega) (by simp [bytesOf]; exact hcap) hcap (fr := ((bytesRow b (grownCap w b.size 0 e)).size, (bytesRow b (grownCap w b.size 0 e)).size + 1)) (by intro o ho; simp; omega)
        exact ⟨_, _, ι', H, hr, r3, r1, r2⟩
      · cases h
    · cases h
  · rename_i hdd hnot
    split at h
    · rename_i e hss
      split at h
      · rename_i i he
        split at h
        · rename_i hii
          split at h
          · rename_i els hels
            cases hun : unbytes els with
            | none => simp [hun] at h
            | some ns =>
              simp [hun] at h
              obtain ⟨rfl, rfl⟩ := h
              obtain ⟨a, cap, rfl, ws, h1, h2, h3⟩ := aElems_sound hR hx hels
              refine SndV.same hR (v' := .string (strOf ns)) ?_ (.sc _)
              rw [run_convert_bytes_string w s d e a els.length cap (by rw [hp1, hss]) (by rw [(E.ok e i he).1, hii]) (by rw [hp2, hdd])]
              obtain rfl := unbytes_map hun
              have hws := DRel.scs h2 (by simpa using h1)
              subst hws
              have hf := h3 E.P _ (Nat.le_refl _)
              cases a with
              | none =>
                simp only [Builtin.firstCells, Sem.run_pure] at hf
                have hz : ns = [] := by
                  have := congrArg (fun r => match r with | Result.ok a _ => a.size | _ => 0) hf
                  simp at this
                  exact List.length_eq_zero_iff.1 this.symm
                subst hz
                rfl
              | some a =>
                refine run_bytesToString w a _ cap ns ?_
                have : (loadCells a ((List.map (fun n => AVal.sc (Value.int IntKind.u8 n)) ns).length * 1)).run E.P w = _ := hf
                rw [Nat.mul_one] at this
                rw [this]
                simp only [List.length_map]
                rw [List.take_of_length_le (by simp)]
          · cases h
        · cases h
      · cases h
    · cases h
  · rename_i hdd
    split at h
    · rename_i hss
      exact aToU_sound hR (by rw [hp1, hss]) (by rw [hp2, hdd]) hx h
    · cases h
  · rename_i hdd
    split at h
    · rename_i hss
      exact aFromU_sound hR (by rw [hp1, hss]) (by rw [hp2, hdd]) hx h
    · cases h
  · cases h

/-! ### Interface values, tuples -/

def aIface (d : TypeDesc) (t : TypeId) (x : AVal) : Option AVal :=
  match d with
  | .interface _ => none
  | _ => some (.iface t x)

theorem aIface_sound (hR : Rel E ι H σ w) {t : TypeId} {i : TyI} (hs : E.ty t = some i) {x v : AVal} {x' : Value} (hx : VRel σ.next ι H x x') (h : aIface i.desc t x = some v) :
    SndV E ι H σ ((Instr.makeInterface t x').run E.P w) v σ := by
  have hu := run_underlying E.ok hs w
  unfold aIface at h
  split at h
  · cases h
  · rename_i hne
    cases h
    refine SndV.same hR (v' := .iface t x') ?_ (.iface _ _ _ hx)
    simp only [Instr.makeInterface, Sem.run_bind, hu, Result.andThen_ok]
    cases hd : i.desc <;> first | exact absurd hd (hne _) | rfl

def aAssert (d : TypeDesc) (t : TypeId) (z : Value) (ok : Bool) (x : AVal) : Option AVal :=
  match d with
  | .interface _ => none
  | _ =>
    match x with
    | .iface t' v => if t' = t then some (if ok then .tuple [v, .sc (.bool true)] else v) else if ok then some (.tuple [absV z, .sc (.bool false)]) else none
    | .sc .nilIface => if ok then some (.tuple [absV z, .sc (.bool false)]) else none
    | _ => none

theorem aAssert_sound (hR : Rel E ι H σ w) {t xt : TypeId} {i : TyI} (hs : E.ty t = some i) {x v : AVal} {x' : Value} (hx : VRel σ.next ι H x x') {ok : Bool} (h : aAssert i.desc t i.zero ok x = some v) :
    SndV E ι H σ ((Instr.typeAssert x' xt t ok).run E.P w) v σ := by
  have hu := run_underlying E.ok hs w
  have hz := run_zeroValue E.ok hs w
  unfold aAssert at h
  split at h
  · cases h
  · rename_i hne
    split at h
    · rename_i t' y
      obtain ⟨y', rfl, hy⟩ := hx.iface_inv
      split at h
      · rename_i ht
        subst ht
        cases h
        refine SndV.same hR (v' := if ok then .tuple #[y', .bool true] else y') ?_ (out_rel ok true hy)
        simp only [Instr.typeAssert, Sem.run_bind, hu, Result.andThen_ok, if_true]
        cases hd : i.desc <;> first | exact absurd hd (hne _) | rfl
      · rename_i ht
        split at h
        · rename_i hok
          cases h
          subst hok
          refine SndV.same hR (v' := .tuple #[i.zero, .bool false]) ?_ (out_rel true false (absV_rel _ _ _ _))
          simp only [Instr.typeAssert, Sem.run_bind, hu, Result.andThen_ok, if_true, if_neg ht]
          cases hd : i.desc <;> first | exact absurd hd (hne _) | simp [hz]
        · cases h
    · obtain rfl := hx.sc_inv
      split at h
      · rename_i hok
        cases h
        subst hok
        refine SndV.same hR (v' := .tuple #[i.zero, .bool false]) ?_ (out_rel true false (absV_rel _ _ _ _))
        simp only [Instr.typeAssert, Sem.run_bind, hu, Result.andThen_ok, if_true]
        cases hd : i.desc <;> first | exact absurd hd (hne _) | simp [hz]
      · cases h
    · cases h

def aExtract (x : AVal) (k : Nat) : Option AVal :=
  match x with
  | .tuple vs => vs[k]?
  | _ => none

theorem aExtract_sound (hR : Rel E ι H σ w) {x v : AVal} {x' : Value} (hx : VRel σ.next ι H x x') {k : Nat} (h : aExtract x k = some v) : SndV E ι H σ ((Instr.extract x' k).run E.P w) v σ := by
  unfold aExtract at h
  split at h
  · obtain ⟨vs', rfl, hv⟩ := hx.tuple_inv
    obtain ⟨v', h1, h2⟩ := hv.get h
    refine SndV.same hR (v' := v') ?_ h2
    simp [Instr.extract, h1]
  · cases h

/-! ### Copy -/

def aCopy (sz : Nat) (dst src : AVal) (σ : AStore) : Option (AVal × AStore) :=
  match aSrc sz src σ with
  | some xs =>
    match dst with
    | .sc (.slice none 0 0) => some (.sc (.int .i64 0), σ)
    | .slice b off len =>
      match σ.get b with
      | some (.cells sz' els) =>
        let m := min xs.length len
        if sz' = sz ∧ off + m ≤ els.length ∧ allCells xs = true then
          some (.sc (.int .i64 m), σ.set b (.cells sz (overlay els off (xs.take m))))
        else none
      | _ => none
    | .view b off len =>
      match σ.get b with
      | some (.cells sz' els) =>
        let m := min xs.length len
        if sz' = sz ∧ off + m ≤ els.length ∧ allCells xs = true then
          some (.sc (.int .i64 m), σ.set b (.cells sz (overlay els off (xs.take m))))
        else none
      | _ => none
    | .data sz' _ els => if els.length = 0 ∧ sz' = sz then some (.sc (.int .i64 0), σ) else none
    | _ => none
  | none => none

theorem aCopy_sound (hR : Rel E ι H σ w) {t : TypeId} {i : TyI} (hs : E.ty t = some i) {el : TypeId} (hd : i.desc = .slice el) {j : TyI} (hj : E.ty el = some j) {dst src v : AVal} {dst' src' : Value}
    (hdst : VRel σ.next ι H dst dst') (hsrc : VRel σ.next ι H src src') (h : aCopy j.size dst src σ = some (v, σ')) (rt : TypeId) {ats : Array TypeId} (ha : ats[0]? = some t) :
    SndV E ι H σ ((Builtin.copy_ ats rt #[dst', src']).run E.P w) v σ' := by
  have hu := run_underlying E.ok hs w
  have hz := run_sizeOf E.ok hj w
  unfold aCopy at h
  split at h
  · rename_i xs hxs
    obtain ⟨hlen, ws, hws, hwD, hfirst⟩ := aSrc_sound hR hsrc hxs
    split at h
    · obtain rfl := hdst.sc_inv
      cases h
      refine SndV.same hR (v' := goInt 0) ?_ (.sc _)
      have := hfirst E.P 0 (Nat.zero_le _)
      simp [Builtin.copy_, ha, hu, hd, hlen, hz, this]
    · rename_i b off len
      obtain ⟨cap, rfl, hb, hl, hcap⟩ := hdst.slice_inv
      split at h
      · rename_i sz' els hg
        simp only [] at h
        split at h
        · rename_i hc
          obtain ⟨rfl, hoff, hall⟩ := hc
          cases h
          obtain ⟨hb1, hb2, hb3⟩ := hR.live b _ hg
          obtain ⟨g1, g2, c, el', fr, g3, gf, g4, g5, g6⟩ := hb1
          have hm : min xs.length len ≤ xs.length := Nat.min_le_left _ _
          have hf := hfirst E.P _ hm
          have hall' : allCells (xs.take (min xs.length len)) = true := by
            unfold allCells at hall ⊢
            rw [List.all_eq_true] at hall ⊢
            intro x hx
            exact hall x (List.mem_of_mem_take hx)
          have hlt : (xs.take (min xs.length len)).length = min xs.length len := by simp
          have hwl : (ws.take (min xs.length len * j.size)).length = (xs.take (min xs.length len)).length * j.size := by
            rw [hlt, List.length_take, hws]
            have : min xs.length len * j.size ≤ xs.length * j.size := Nat.mul_le_mul_right _ hm
            omega
          have hwD' : DRel σ.next ι H ((ws.take (min xs.length len * j.size))[·]?) j.size (xs.take (min xs.length len)) 0 := by
            apply DRel.of_get
            intro q e he
            have hq : q < min xs.length len := by
              rcases Nat.lt_or_ge q (min xs.length len) with h' | h'
              · exact h'
              · rw [List.getElem?_eq_none (by omega)] at he; cases he
            rw [List.getElem?_take, if_pos hq] at he
            obtain ⟨a1, a2⟩ := hwD.get he
            refine ⟨a1.congr ?_, a2⟩
            intro k hk1 hk2
            show (ws.take _)[k]? = ws[k]?
            have : (q + 1) * j.size ≤ min xs.length len * j.size := Nat.mul_le_mul_right _ hq
            rw [Nat.add_mul] at this
            rw [List.getElem?_take, if_pos (by omega)]
          have hcell := DRel.isCell hwD' hwl hall'
          have hle : (ι b).base + off * j.size + (ws.take (min xs.length len * j.size)).length ≤ c.size := by
            have h1 : (off + min xs.length len) * j.size ≤ els.length * j.size := Nat.mul_le_mul_right _ hoff
            have h2 : els.length * j.size ≤ (ι b).cap * j.size := Nat.mul_le_mul_right _ g2
            rw [Nat.add_mul] at h1; rw [hwl, hlt]; omega
          obtain ⟨w', r1, r2, r3⟩ := run_storeCells E.P (ι b).blk ((ι b).base + off * j.size) el' fr (ws.take (min xs.length len * j.size)) w c 0 g3 gf hcell (by omega)
          have hheap : w'.heap[(ι b).blk]? = some (.cells (splice c ((ι b).base + off * j.size) (ws.take (min xs.length len * j.size))) el' fr) := by
            rw [r2]; simp [hb3]
          refine ⟨goInt (min xs.length len : Nat), w', ι, H, ?_, .sc _, ?_, Ext.refl _ _ _⟩
          · have e1 : Nat.min xs.length len = min xs.length len := rfl
            simp [Builtin.copy_, ha, hu, hd, hlen, hz, e1, hf, g1, r1]
          · refine hR.set_cells hg (by rw [r2]; simp) ?_ r3 hheap ?_
            · intro c' hne
              rw [r2]; simp [Ne.symm hne]
            · refine ⟨g1, by rw [overlay_length]; exact g2, _, _, fr, hheap, by rw [splice_size]; exact gf, by rw [splice_size]; exact g4, ?_, g6⟩
              refine overlay_rel g5 hwD' hwl (by rw [hlt]; exact hoff) ?_
              have h2 : els.length * j.size ≤ (ι b).cap * j.size := Nat.mul_le_mul_right _ g2
              omega
        · cases h
      · cases h
    · rename_i b off len
      obtain ⟨rfl, hb, hcap⟩ := hdst.view_inv
      split at h
      · rename_i sz' els hg
        simp only [] at h
        split at h
        · rename_i hc
          obtain ⟨rfl, hoff, hall⟩ := hc
          cases h
          obtain ⟨hb1, hb2, hb3⟩ := hR.live b _ hg
          obtain ⟨g1, g2, c, el', fr, g3, gf, g4, g5, g6⟩ := hb1
          have hm : min xs.length len ≤ xs.length := Nat.min_le_left _ _
          have hf := hfirst E.P _ hm
          have hall' : allCells (xs.take (min xs.length len)) = true := by
            unfold allCells at hall ⊢
            rw [List.all_eq_true] at hall ⊢
            intro x hx
            exact hall x (List.mem_of_mem_take hx)
          have hlt : (xs.take (min xs.length len)).length = min xs.length len := by simp
          have hwl : (ws.take (min xs.length len * j.size)).length = (xs.take (min xs.length len)).length * j.size := by
            rw [hlt, List.length_take, hws]
            have : min xs.length len * j.size ≤ xs.length * j.size := Nat.mul_le_mul_right _ hm
            omega
          have hwD' : DRel σ.next ι H ((ws.take (min xs.length len * j.size))[·]?) j.size (xs.take (min xs.length len)) 0 := by
            apply DRel.of_get
            intro q e he
            have hq : q < min xs.length len := by
              rcases Nat.lt_or_ge q (min xs.length len) with h' | h'
              · exact h'
              · rw [List.getElem?_eq_none (by omega)] at he; cases he
            rw [List.getElem?_take, if_pos hq] at he
            obtain ⟨a1, a2⟩ := hwD.get he
            refine ⟨a1.congr ?_, a2⟩
            intro k hk1 hk2
            show (ws.take _)[k]? = ws[k]?
            have : (q + 1) * j.size ≤ min xs.length len * j.size := Nat.mul_le_mul_right _ hq
            rw [Nat.add_mul] at this
            rw [List.getElem?_take, if_pos (by omega)]
          have hcell := DRel.isCell hwD' hwl hall'
          have hle : (ι b).base + off * j.size + (ws.take (min xs.length len * j.size)).length ≤ c.size := by
            have h1 : (off + min xs.length len) * j.size ≤ els.length * j.size := Nat.mul_le_mul_right _ hoff
            have h2 : els.length * j.size ≤ (ι b).cap * j.size := Nat.mul_le_mul_right _ g2
            rw [Nat.add_mul] at h1; rw [hwl, hlt]; omega
          obtain ⟨w', r1, r2, r3⟩ := run_storeCells E.P (ι b).blk ((ι b).base + off * j.size) el' fr (ws.take (min xs.length len * j.size)) w c 0 g3 gf hcell (by omega)
          have hheap : w'.heap[(ι b).blk]? = some (.cells (splice c ((ι b).base + off * j.size) (ws.take (min xs.length len * j.size))) el' fr) := by
            rw [r2]; simp [hb3]
          refine ⟨goInt (min xs.length len : Nat), w', ι, H, ?_, .sc _, ?_, Ext.refl _ _ _⟩
          · have e1 : Nat.min xs.length len = min xs.length len := rfl
            simp [Builtin.copy_, ha, hu, hd, hlen, hz, e1, hf, g1, r1]
          · refine hR.set_cells hg (by rw [r2]; simp) ?_ r3 hheap ?_
            · intro c' hne
              rw [r2]; simp [Ne.symm hne]
            · refine ⟨g1, by rw [overlay_length]; exact g2, _, _, fr, hheap, by rw [splice_size]; exact gf, by rw [splice_size]; exact g4, ?_, g6⟩
              refine overlay_rel g5 hwD' hwl (by rw [hlt]; exact hoff) ?_
              have h2 : els.length * j.size ≤ (ι b).cap * j.size := Nat.mul_le_mul_right _ g2
              omega
        · cases h
      · cases h
    · rename_i sz' tt els
      obtain ⟨b, o, cap, rfl, hl, hD, _⟩ := hdst.data_inv
      split at h
      · rename_i hc
        cases h
        have h0 := hc.1
        refine SndV.same hR (v' := goInt 0) ?_ (.sc _)
        have := hfirst E.P 0 (Nat.zero_le _)
        have e1 : Nat.min xs.length els.length = 0 := by rw [h0]; exact Nat.min_zero _
        simp [Builtin.copy_, ha, hu, hd, hlen, hz, e1, this, storeCells]
      · cases h
    · cases h
  · cases h
end
end Abs
end

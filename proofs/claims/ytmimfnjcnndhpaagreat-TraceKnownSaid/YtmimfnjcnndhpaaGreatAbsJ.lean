/-
  Part of the abstract layer (J): values, stores and steps that stand for those of the model, and the proof that they do. It proves no statement by itself.
-/
import Derived.Test.YtmimfnjcnndhpaaGreatAbsI
noncomputable section
namespace Abs
set_option linter.unusedVariables false
set_option linter.unusedSimpArgs false
set_option linter.unusedSectionVars false
open Go

section
variable {E : Env} {ι : Inj} {H : Imm} {σ σ' : AStore} {w : World}

/-! ### len, copy -/

def aLen (d : TypeDesc) (x : AVal) (σ : AStore) : Option AVal :=
  match d, x with
  | .string, .sc (.string s) => some (.sc (.int .i64 s.size))
  | .array n _, _ => some (.sc (.int .i64 n))
  | .slice _, .slice _ _ n => some (.sc (.int .i64 n))
  | .slice _, .view _ _ n => some (.sc (.int .i64 n))
  | .slice _, .endS _ _ => some (.sc (.int .i64 0))
  | .slice _, .data _ _ els => some (.sc (.int .i64 els.length))
  | .slice _, .sc (.slice _ n _) => some (.sc (.int .i64 n))
  | .map _ _, .sc (.map none) => some (.sc (.int .i64 0))
  | .map _ _, .map b =>
    match σ.get b with
    | some (.map kvs _) => some (.sc (.int .i64 kvs.length))
    | _ => none
  | _, _ => none

theorem KRel.length {n : Nat} : ∀ {kvs : List (AVal × AVal)} {es : List MapEntry}, KRel n ι H kvs es → kvs.length = es.length
  | _, _, .nil => rfl
  | _, _, .cons _ _ _ _ _ _ _ hs => by simp [hs.length]

theorem run_getObj_map {P : Program} {r : Nat} {es : Array MapEntry} {clock : Nat} (h : w.heap[r]? = some (.map es clock)) : (getObj r).run P w = .ok (.map es clock) w := by
  simp [getObj, Sem.run, h]

theorem aLen_sound (hR : Rel E ι H σ w) {t : TypeId} {i : TyI} (hs : E.ty t = some i) {x v : AVal} {x' : Value} (hx : VRel σ.next ι H x x') (h : aLen i.desc x σ = some v) (rt : TypeId)
    {ats : Array TypeId} (ha : ats[0]? = some t) : SndV E ι H σ ((Builtin.len_ ats rt #[x']).run E.P w) v σ := by
  have hu := run_underlying E.ok hs w
  have e0 : (#[x'] : Array Value)[0]? = some x' := rfl
  unfold aLen at h
  split at h
  · rename_i hd
    obtain rfl := hx.sc_inv; cases h
    refine SndV.same hR (v' := goInt _) ?_ (.sc _)
    simp [Builtin.len_, ha, hu, hd, goInt]
  · rename_i hd
    cases h
    refine SndV.same hR (v' := goInt _) ?_ (.sc _)
    simp [Builtin.len_, ha, hu, hd, goInt]
  · rename_i hd
    obtain ⟨cap, rfl, _⟩ := hx.slice_inv; cases h
    refine SndV.same hR (v' := goInt _) ?_ (.sc _)
    simp [Builtin.len_, ha, hu, hd, goInt]
  · rename_i hd
    obtain ⟨rfl, _⟩ := hx.view_inv; cases h
    refine SndV.same hR (v' := goInt _) ?_ (.sc _)
    simp [Builtin.len_, ha, hu, hd, goInt]
  · rename_i hd
    obtain ⟨_, _, rfl, _⟩ := hx.endS_inv; cases h
    refine SndV.same hR (v' := goInt 0) ?_ (.sc _)
    simp [Builtin.len_, ha, hu, hd, goInt]
  · rename_i hd
    obtain ⟨_, _, cap, rfl, _⟩ := hx.data_inv; cases h
    refine SndV.same hR (v' := goInt _) ?_ (.sc _)
    simp [Builtin.len_, ha, hu, hd, goInt]
  · rename_i hd
    obtain rfl := hx.sc_inv; cases h
    refine SndV.same hR (v' := goInt _) ?_ (.sc _)
    simp [Builtin.len_, ha, hu, hd, goInt]
  · rename_i hd
    obtain rfl := hx.sc_inv; cases h
    refine SndV.same hR (v' := goInt 0) ?_ (.sc _)
    simp [Builtin.len_, ha, hu, hd, goInt]
  · rename_i hd
    obtain ⟨hb, rfl⟩ := hx.map_inv
    split at h
    · rename_i kvs clock hg
      cases h
      obtain ⟨es, h1, h2, _⟩ := (hR.live _ _ hg).1
      refine SndV.same hR (v' := goInt es.size) ?_ (by rw [h2.length]; exact .sc _)
      simp [Builtin.len_, ha, hu, hd, run_getObj_map h1]
    · cases h
  · cases h

/-! ### Maps -/

/-- A key is looked for. -/
def aFind (d : TypeDesc) (k : Value) : List (AVal × AVal) → Nat → Option (Option (Nat × AVal))
  | [], _ => some none
  | (.sc key, v) :: rest, i =>
    match Instr.sameNow d k key with
    | some true => some (some (i, v))
    | some false => aFind d k rest (i + 1)
    | none => none
  | _ :: _, _ => none

def plainKey : TypeDesc → Bool
  | .int _ | .string | .bool => true
  | _ => false

theorem aFind_sound {n : Nat} (d : TypeDesc) (k : Value) : ∀ {kvs : List (AVal × AVal)} {es : List MapEntry} (i : Nat) {r : Option (Nat × AVal)}, KRel n ι H kvs es → aFind d k kvs i = some r →
    (r = none ∧ Instr.findNow d k es i = some none) ∨
    ∃ j v v' e, r = some (i + j, v) ∧ Instr.findNow d k es i = some (some (i + j, v')) ∧ VRel n ι H v v' ∧ es[j]? = some e ∧ e.val = v' ∧ Instr.sameNow d k e.key = some true ∧
      kvs[j]? = some (.sc e.key, v)
  | _, _, i, r, .nil, h => by simp [aFind] at h; exact .inl ⟨h.symm, rfl⟩
  | _, _, i, r, .cons key v e kvs es hk hv hs, h => by
      cases key with
      | sc key =>
        obtain rfl := hk.sc_inv
        simp only [aFind] at h
        cases hn : Instr.sameNow d k e.key with
        | none => simp [hn] at h
        | some b =>
          cases b with
          | true =>
            simp [hn] at h
            subst h
            exact .inr ⟨0, v, e.val, e, rfl, by simp [Instr.findNow, hn], hv, rfl, rfl, hn, rfl⟩
          | false =>
            simp [hn] at h
            rcases aFind_sound d k (i + 1) hs h with ⟨rfl, h1⟩ | ⟨j, v1, v2, e1, rfl, h1, h2, h3, h4, h5, h6⟩
            · exact .inl ⟨rfl, by simp [Instr.findNow, hn, h1]⟩
            · refine .inr ⟨j + 1, v1, v2, e1, by simp; omega, ?_, h2, by simpa using h3, h4, h5, by simpa using h6⟩
              rw [show i + (j + 1) = i + 1 + j by omega]
              simp [Instr.findNow, hn, h1]
      | _ => simp [aFind] at h

theorem run_checkKey {t : TypeId} {i : TyI} (hs : E.ty t = some i) (hp : plainKey i.desc = true) (b : Bool) (v : Value) : (Instr.checkKey b 10000 t v).run E.P w = .ok () w := by
  have hu := run_underlying E.ok hs w
  rw [show (10000 : Nat) = 9999 + 1 from rfl, Instr.checkKey]
  cases hd : i.desc <;> simp [plainKey, hd] at hp <;> simp [hu, hd]

theorem run_findKey {t : TypeId} {i : TyI} (hs : E.ty t = some i) {k : Value} {es : List MapEntry} {r : Option (Nat × Value)} (h : Instr.findNow i.desc k es 0 = some r) :
    (Instr.findKey t k es).run E.P w = .ok r w := by
  simp [Instr.findKey, run_underlying E.ok hs w, h]

def aLookup (kd : TypeDesc) (z : Value) (ok : Bool) (x k : AVal) (σ : AStore) : Option AVal :=
  let out (v : AVal) (b : Bool) : AVal := if ok then .tuple [v, .sc (.bool b)] else v
  if plainKey kd then
    match k with
    | .sc k =>
      match x with
      | .sc (.map none) => some (out (absV z) false)
      | .map b =>
        match σ.get b with
        | some (.map kvs _) =>
          match aFind kd k kvs 0 with
          | some (some (_, v)) => some (out v true)
          | some none => some (out (absV z) false)
          | none => none
        | _ => none
      | _ => none
    | _ => none
  else none

theorem out_rel {n : Nat} (ok b : Bool) {v : AVal} {v' : Value} (h : VRel n ι H v v') :
    VRel n ι H (if ok then .tuple [v, .sc (.bool b)] else v) (if ok then .tuple #[v', .bool b] else v') := by
  cases ok with
  | false => exact h
  | true => exact .tuple [v, .sc (.bool b)] [v', .bool b] (.cons _ _ _ _ h (.cons _ _ _ _ (.sc _) .nil))

theorem aLookup_sound (hR : Rel E ι H σ w) {t : TypeId} {i : TyI} (hs : E.ty t = some i) {kt et : TypeId} (hd : i.desc = .map kt et) {ki ei : TyI} (hk : E.ty kt = some ki) (he : E.ty et = some ei)
    {x k v : AVal} {x' k' : Value} (hx : VRel σ.next ι H x x') (hkr : VRel σ.next ι H k k') {ok : Bool} (h : aLookup ki.desc ei.zero ok x k σ = some v) :
    SndV E ι H σ ((Instr.lookup t x' k' ok).run E.P w) v σ := by
  have hu := run_underlying E.ok hs w
  have hz := run_zeroValue E.ok he w
  simp only [aLookup] at h
  split at h
  · rename_i hp
    split at h
    · rename_i kk
      obtain rfl := hkr.sc_inv
      split at h
      · obtain rfl := hx.sc_inv
        cases h
        refine SndV.same hR (v' := if ok then .tuple #[ei.zero, .bool false] else ei.zero) ?_ (out_rel ok false (absV_rel _ _ _ _))
        have hf : Instr.findNow ki.desc k' [] 0 = some none := rfl
        simp [Instr.lookup, hu, hd, run_checkKey hk hp, run_findKey hk hf, hz]
      · rename_i b
        obtain ⟨hb, rfl⟩ := hx.map_inv
        split at h
        · rename_i kvs clock hg
          obtain ⟨es, h1, h2, h3⟩ := (hR.live _ _ hg).1
          cases hfnd : aFind ki.desc k' kvs 0 with
          | none => simp [hfnd] at h
          | some r =>
            simp only [hfnd] at h
            rcases aFind_sound ki.desc k' 0 h2 hfnd with ⟨rfl, hf⟩ | ⟨j, v1, v2, e1, rfl, hf, hv, _⟩
            · cases h
              refine SndV.same hR (v' := if ok then .tuple #[ei.zero, .bool false] else ei.zero) ?_ (out_rel ok false (absV_rel _ _ _ _))
              simp [Instr.lookup, hu, hd, run_getObj_map h1, run_checkKey hk hp, run_findKey hk hf, hz]
            · cases h
              refine SndV.same hR (v' := if ok then .tuple #[v2, .bool true] else v2) ?_ (out_rel ok true hv)
              simp [Instr.lookup, hu, hd, run_getObj_map h1, run_checkKey hk hp, run_findKey hk hf]
        · cases h
      · cases h
    · cases h
  · cases h

/-- A map is turned. -/
theorem Rel.set_map (h : Rel E ι H σ w) {w' : World} {b : Nat} {kvs kvs' : List (AVal × AVal)} {clock clock' : Nat} (hb : σ.get b = some (.map kvs clock)) {es es' : Array MapEntry}
    (hes : w.heap[(ι b).blk]? = some (.map es clock)) (hw : w' = { w with heap := w.heap.setIfInBounds (ι b).blk (.map es' clock') })
    (hk : KRel σ.next ι H kvs' es'.toList) (hnd : (es'.toList.map (·.born)).Nodup) (hlt : ∀ e ∈ es'.toList, e.born < clock') (hkn : (es'.toList.map (·.key)).Nodup)
    (hcl : (clock' = clock ∧ ∀ e' ∈ es'.toList, ∃ e ∈ es.toList, e.born = e'.born ∧ e.key = e'.key) ∨ clock < clock') :
    Rel E ι H (σ.set b (.map kvs' clock')) w' := by
  have hlt' := h.blk_lt hb
  have hheap : w'.heap[(ι b).blk]? = some (.map es' clock') := by subst hw; simp [hlt']
  have ho : ∀ c, c ≠ (ι b).blk → w'.heap[c]? = w.heap[c]? := by
    intro c hc
    subst hw; simp [Ne.symm hc]
  refine h.set hb (by subst hw; simp) ho (by subst hw; exact ⟨rfl, rfl⟩) ⟨es', hheap, hk, hnd, hlt, hkn⟩ ?_
  intro b' m since seen hne hz hmb
  obtain ⟨h1, h2, h3⟩ := h.live b' _ hz
  have hne' : (ι b').blk ≠ (ι b).blk := fun hc => hne (h.inj b' b _ _ hz hb hc)
  obtain ⟨⟨g0, g0', g0''⟩, s', se', st, g1, g2, g3, g4⟩ := h1
  refine ⟨⟨g0, by subst hw; simpa using g0', g0''⟩, s', se', st, by rw [ho _ hne']; exact g1, g2, g3, ?_⟩
  intro es1 clock1 hh
  rw [hmb, hheap] at hh
  cases hh
  obtain ⟨q1, q2⟩ := g4 es clock (by rw [hmb]; exact hes)
  rcases hcl with ⟨rfl, hcl⟩ | hcl
  · refine ⟨q1, fun hc e' he' => ?_⟩
    obtain ⟨e, he, e1, e2⟩ := hcl e' he'
    rw [← e1, ← e2]
    exact q2 hc e he
  · exact ⟨by omega, fun hc => by omega⟩

theorem bytes_beq (a b : ByteArray) : (a == b) = true ↔ a = b := by
  obtain ⟨x⟩ := a
  obtain ⟨y⟩ := b
  constructor
  · intro h
    have e : x = y := by simpa using (show (x == y) = true from h)
    rw [e]
  · intro h
    cases h
    show (x == x) = true
    simp

theorem sameNow_eq {d : TypeDesc} {a b : Value} (h : Instr.sameNow d a b = some true) : b = a ∧ Instr.sameBits 10000 b a = true := by
  unfold Instr.sameNow at h
  split at h
  · rename_i k x k' y
    split at h
    · rename_i hk
      subst hk
      simp at h
      subst h
      exact ⟨rfl, by simp [Instr.sameBits]⟩
    · cases h
  · simp only [Option.some.injEq] at h
    have := (bytes_beq _ _).1 h; subst this; exact ⟨rfl, by simpa [Instr.sameBits] using h⟩
  · simp at h; subst h; exact ⟨rfl, by simp [Instr.sameBits]⟩
  · cases h

theorem sameNow_self {d : TypeDesc} {a : Value} : Instr.sameNow d a a ≠ some false := by
  have hs : ∀ x : ByteArray, (x == x) = true := fun x => (bytes_beq x x).2 rfl
  cases d <;> cases a <;> simp [Instr.sameNow, hs]

theorem findNow_none {d : TypeDesc} {k : Value} : ∀ {es : List MapEntry} {i : Nat}, Instr.findNow d k es i = some none → ∀ {e : MapEntry}, e ∈ es → e.key ≠ k
  | [], _, _, _, he => by simp at he
  | x :: es, i, h, e, he => by
      simp only [Instr.findNow] at h
      split at h
      · cases h
      · rename_i hs
        simp at he
        rcases he with rfl | he
        · intro hk; rw [hk] at hs; exact sameNow_self hs
        · exact findNow_none h he
      · cases h

theorem KRel.get {n : Nat} : ∀ {kvs : List (AVal × AVal)} {es : List MapEntry} {j : Nat} {e : MapEntry}, KRel n ι H kvs es → es[j]? = some e →
    ∃ k v, kvs[j]? = some (k, v) ∧ VRel n ι H k e.key ∧ VRel n ι H v e.val
  | _, _, 0, _, .cons k v e _ _ hk hv _, h => by simp at h; subst h; exact ⟨k, v, rfl, hk, hv⟩
  | _, _, j + 1, _, .cons _ _ _ _ _ _ _ hs, h => by simp at h; obtain ⟨k, v, h1, h2⟩ := hs.get h; exact ⟨k, v, by simpa using h1, h2⟩

theorem KRel.set {n : Nat} : ∀ {kvs : List (AVal × AVal)} {es : List MapEntry} (j : Nat) {k v : AVal} {e : MapEntry}, KRel n ι H kvs es → VRel n ι H k e.key → VRel n ι H v e.val →
    KRel n ι H (kvs.set j (k, v)) (es.set j e)
  | _, _, _, _, _, _, .nil, _, _ => by simpa using KRel.nil
  | _, _, 0, k, v, e, .cons _ _ _ kvs es _ _ hs, hk, hv => by simpa using KRel.cons k v e kvs es hk hv hs
  | _, _, j + 1, _, _, _, .cons k0 v0 e0 kvs es hk0 hv0 hs, hk, hv => by simpa using KRel.cons k0 v0 e0 _ _ hk0 hv0 (hs.set j hk hv)

theorem KRel.append {n : Nat} {kvs' : List (AVal × AVal)} {es' : List MapEntry} (h' : KRel n ι H kvs' es') : ∀ {kvs : List (AVal × AVal)} {es : List MapEntry}, KRel n ι H kvs es → KRel n ι H (kvs ++ kvs') (es ++ es')
  | _, _, .nil => h'
  | _, _, .cons k v e kvs es hk hv hs => .cons k v e _ _ hk hv (KRel.append h' hs)

theorem KRel.erase {n : Nat} : ∀ {kvs : List (AVal × AVal)} {es : List MapEntry} (j : Nat), KRel n ι H kvs es → KRel n ι H (kvs.eraseIdx j) (es.eraseIdx j)
  | _, _, _, .nil => by simpa using KRel.nil
  | _, _, 0, .cons _ _ _ _ _ _ _ hs => by simpa using hs
  | _, _, j + 1, .cons k v e kvs es hk hv hs => by simpa using KRel.cons k v e _ _ hk hv (hs.erase j)

def aMapSet (kd : TypeDesc) (x k v : AVal) (σ : AStore) : Option AStore :=
  if plainKey kd then
    match x, k with
    | .map b, .sc k =>
      match σ.get b with
      | some (.map kvs clock) =>
        match aFind kd k kvs 0 with
        | some (some (i, _)) => some (σ.set b (.map (kvs.set i (.sc k, v)) clock))
        | some none => some (σ.set b (.map (kvs ++ [(.sc k, v)]) (clock + 1)))
        | none => none
      | _ => none
    | _, _ => none
  else none

theorem run_setObj {P : Program} {r : Nat} {es : Array MapEntry} {clock : Nat} (h : w.heap[r]? = some (.map es clock)) (o : Obj) :
    (setObj r o).run P w = .ok () { w with heap := w.heap.setIfInBounds r o } := by
  simp [setObj, Sem.run, h]

theorem aMapSet_sound (hR : Rel E ι H σ w) {t : TypeId} {i : TyI} (hs : E.ty t = some i) {kt et : TypeId} (hd : i.desc = .map kt et) {ki : TyI} (hk : E.ty kt = some ki)
    {x k v : AVal} {x' k' v' : Value} (hx : VRel σ.next ι H x x') (hkr : VRel σ.next ι H k k') (hv : VRel σ.next ι H v v') (h : aMapSet ki.desc x k v σ = some σ') :
    ∃ w', (Instr.mapUpdate t x' k' v').run E.P w = .ok () w' ∧ Rel E ι H σ' w' ∧ σ'.next = σ.next := by
  have hu := run_underlying E.ok hs w
  simp only [aMapSet] at h
  split at h
  · rename_i hp
    split at h
    · rename_i b kk
      obtain rfl := hkr.sc_inv
      obtain ⟨hb, rfl⟩ := hx.map_inv
      split at h
      · rename_i kvs clock hg
        obtain ⟨es, h1, h2, h3, h4, h5⟩ := (hR.live _ _ hg).1
        cases hfnd : aFind ki.desc k' kvs 0 with
        | none => simp [hfnd] at h
        | some r =>
          simp only [hfnd] at h
          rcases aFind_sound ki.desc k' 0 h2 hfnd with ⟨rfl, hf⟩ | ⟨j, v1, v2, e1, rfl, hf, hv1, he1, he2, hsame, hkv⟩
          · cases h
            refine ⟨{ w with heap := w.heap.setIfInBounds (ι b).blk (.map (es.push { key := k', val := v', born := clock }) (clock + 1)) }, ?_, ?_, rfl⟩
            · simp [Instr.mapUpdate, hu, hd, run_getObj_map h1, run_checkKey hk hp, run_findKey hk hf, run_setObj h1]
            · refine hR.set_map hg h1 rfl ?_ ?_ ?_ ?_ (.inr (by omega))
              · simpa using KRel.append (.cons (.sc k') v { key := k', val := v', born := clock } [] [] (.sc _) hv .nil) h2
              · simp only [Array.toList_push, List.map_append, List.map_cons, List.map_nil, List.nodup_append]
                refine ⟨h3, by simp, ?_⟩
                intro a ha b hb2
                obtain ⟨e, he, rfl⟩ := List.mem_map.1 ha
                simp at hb2
                have := h4 e he
                omega
              · intro e he
                simp at he
                rcases he with he | rfl
                · have := h4 e (by simpa using he); omega
                · simp
              · simp only [Array.toList_push, List.map_append, List.map_cons, List.map_nil, List.nodup_append]
                refine ⟨h5, by simp, ?_⟩
                intro a ha b hb2
                obtain ⟨e, he, rfl⟩ := List.mem_map.1 ha
                simp at hb2
                subst hb2
                exact findNow_none hf he
          · cases h
            obtain ⟨hkeq, hbits⟩ := sameNow_eq hsame
            have hjl : j < es.size := by
              rcases Nat.lt_or_ge j es.size with h' | h'
              · exact h'
              · simp [h'] at he1
            have hej : es[j]? = some e1 := by simpa using he1
            have hej2 : es[j] = e1 := by rw [Array.getElem?_eq_getElem hjl] at hej; exact Option.some.inj hej
            have hmod : (es.modify j fun e => { e with key := k', val := v' }) = es.setIfInBounds j { e1 with key := k', val := v' } := by
              apply Array.ext_getElem?
              intro q
              rw [Array.getElem?_modify, Array.getElem?_setIfInBounds]
              split
              · rename_i hq; subst hq; simp [hjl, hej2]
              · rfl
            refine ⟨{ w with heap := w.heap.setIfInBounds (ι b).blk (.map (es.modify j fun e => { e with key := k', val := v' }) clock) }, ?_, ?_, rfl⟩
            · have e3 : ((es[0 + j]?).map (·.key)).getD k' = e1.key := by rw [Nat.zero_add, hej]; rfl
              simp only [Nat.zero_add] at hf e3
              simp [Instr.mapUpdate, hu, hd, run_getObj_map h1, run_checkKey hk hp, run_findKey hk hf, Instr.keyThatStays]
              rw [e3, hbits]
              simp [run_setObj h1]
            · simp only [Nat.zero_add]
              refine hR.set_map hg h1 rfl ?_ ?_ ?_ ?_ (.inl ⟨rfl, ?_⟩)
              · rw [hmod]
                simpa using h2.set j (e := { e1 with key := k', val := v' }) (.sc _) hv
              · rw [hmod]
                have : (es.setIfInBounds j { e1 with key := k', val := v' }).toList.map (·.born) = es.toList.map (·.born) := by
                  apply List.ext_getElem?
                  intro q
                  simp only [Array.toList_setIfInBounds, List.getElem?_map, List.getElem?_set]
                  split
                  · rename_i hq; subst hq; simp [hjl, hej2]
                  · rfl
                rw [this]; exact h3
              · rw [hmod]
                intro e he
                simp only [Array.toList_setIfInBounds] at he
                rcases List.mem_or_eq_of_mem_set he with he | rfl
                · exact h4 e he
                · exact h4 e1 (List.mem_of_getElem? he1)
              · rw [hmod]
                have : (es.setIfInBounds j { e1 with key := k', val := v' }).toList.map (·.key) = es.toList.map (·.key) := by
                  apply List.ext_getElem?
                  intro q
                  simp only [Array.toList_setIfInBounds, List.getElem?_map, List.getElem?_set]
                  split
                  · rename_i hq; subst hq; simp [hjl, hej2, hkeq]
                  · rfl
                rw [this]; exact h5
              · rw [hmod]
                intro e he
                simp only [Array.toList_setIfInBounds] at he
                rcases List.mem_or_eq_of_mem_set he with he | rfl
                · exact ⟨e, he, rfl, rfl⟩
                · exact ⟨e1, List.mem_of_getElem? he1, rfl, hkeq⟩
      · cases h
    · cases h
  · cases h

def aMapDel (kd : TypeDesc) (x k : AVal) (σ : AStore) : Option AStore :=
  if plainKey kd then
    match x, k with
    | .sc (.map none), .sc _ => some σ
    | .map b, .sc k =>
      match σ.get b with
      | some (.map kvs clock) =>
        match aFind kd k kvs 0 with
        | some (some (i, _)) => some (σ.set b (.map (kvs.eraseIdx i) clock))
        | some none => some (σ.set b (.map kvs clock))
        | none => none
      | _ => none
    | _, _ => none
  else none

theorem aMapDel_sound (hR : Rel E ι H σ w) {t : TypeId} {i : TyI} (hs : E.ty t = some i) {kt et : TypeId} (hd : i.desc = .map kt et) {ki : TyI} (hk : E.ty kt = some ki)
    {x k : AVal} {x' k' : Value} (hx : VRel σ.next ι H x x') (hkr : VRel σ.next ι H k k') (h : aMapDel ki.desc x k σ = some σ') (rt : TypeId) {ats : Array TypeId} (ha : ats[0]? = some t) :
    ∃ w', (Builtin.delete_ ats rt #[x', k']).run E.P w = .ok (.tuple #[]) w' ∧ Rel E ι H σ' w' ∧ σ'.next = σ.next := by
  have hu := run_underlying E.ok hs w
  simp only [aMapDel] at h
  split at h
  · rename_i hp
    split at h
    · obtain rfl := hx.sc_inv
      cases h
      exact ⟨w, by simp [Builtin.delete_, ha, hu, hd, run_checkKey hk hp], hR, rfl⟩
    · rename_i b kk
      obtain rfl := hkr.sc_inv
      obtain ⟨hb, rfl⟩ := hx.map_inv
      split at h
      · rename_i kvs clock hg
        obtain ⟨es, h1, h2, h3, h4, h5⟩ := (hR.live _ _ hg).1
        cases hfnd : aFind ki.desc k' kvs 0 with
        | none => simp [hfnd] at h
        | some r =>
          simp only [hfnd] at h
          rcases aFind_sound ki.desc k' 0 h2 hfnd with ⟨rfl, hf⟩ | ⟨j, v1, v2, e1, rfl, hf, hv1, he1, he2, hsame, hkv⟩
          · cases h
            refine ⟨{ w with heap := w.heap.setIfInBounds (ι b).blk (.map es clock) }, ?_, ?_, rfl⟩
            · simp [Builtin.delete_, ha, hu, hd, run_getObj_map h1, run_checkKey hk hp, run_findKey hk hf, run_setObj h1]
            · exact hR.set_map hg h1 rfl h2 h3 h4 h5 (.inl ⟨rfl, fun e he => ⟨e, he, rfl, rfl⟩⟩)
          · cases h
            simp only [Nat.zero_add] at hf ⊢
            have e5 : (es.eraseIdxIfInBounds j).toList = es.toList.eraseIdx j := by simp
            refine ⟨{ w with heap := w.heap.setIfInBounds (ι b).blk (.map (es.eraseIdxIfInBounds j) clock) }, ?_, ?_, rfl⟩
            · simp [Builtin.delete_, ha, hu, hd, run_getObj_map h1, run_checkKey hk hp, run_findKey hk hf, run_setObj h1]
            · refine hR.set_map hg h1 rfl ?_ ?_ ?_ ?_ (.inl ⟨rfl, ?_⟩)
              · rw [e5]; exact h2.erase j
              · rw [e5]
                exact List.Nodup.sublist ((List.eraseIdx_sublist _ _).map _) h3
              · rw [e5]
                intro e he
                exact h4 e ((List.eraseIdx_sublist _ _).mem he)
              · rw [e5]
                exact List.Nodup.sublist ((List.eraseIdx_sublist _ _).map _) h5
              · rw [e5]
                intro e he
                exact ⟨e, (List.eraseIdx_sublist _ _).mem he, rfl, rfl⟩
      · cases h
    · cases h
  · cases h
end
end Abs

/-
  Part of the abstract layer (B): values, stores and steps that stand for those of the model, and the proof that they do. It proves no statement by itself.
-/
import Derived.Test.YtmimfnjcnndhpaaGreatAbsA
noncomputable section
namespace Abs
set_option linter.unusedVariables false
set_option linter.unusedSimpArgs false
set_option linter.unusedSectionVars false
open Go

/-! ### A tree by binary digits -/

inductive T (α : Type) where
  | leaf
  | node (l : T α) (v : Option α) (r : T α)

def T.getS {α : Type} : T α → Nat → Option α
  | .leaf, _ => none
  | .node l v r, k =>
    match Nat.beq k 0 with
    | true => v
    | false => match Nat.beq (k % 2) 1 with
      | true => l.getS (k / 2)
      | false => r.getS (k / 2 - 1)

def T.putS {α : Type} : Nat → T α → Nat → Option α → T α
  | 0, t, _, _ => t
  | f + 1, .leaf, k, x =>
    match Nat.beq k 0 with
    | true => .node .leaf x .leaf
    | false => match Nat.beq (k % 2) 1 with
      | true => .node (T.putS f .leaf (k / 2) x) none .leaf
      | false => .node .leaf none (T.putS f .leaf (k / 2 - 1) x)
  | f + 1, .node l v r, k, x =>
    match Nat.beq k 0 with
    | true => .node l x r
    | false => match Nat.beq (k % 2) 1 with
      | true => .node (T.putS f l (k / 2) x) v r
      | false => .node l v (T.putS f r (k / 2 - 1) x)

theorem nbeq_false {a b : Nat} (h : a ≠ b) : Nat.beq a b = false := by
  cases hh : Nat.beq a b with
  | false => rfl
  | true => exact absurd (Nat.eq_of_beq_eq_true hh) h

theorem T.getS_leaf {α : Type} (k : Nat) : T.getS (.leaf : T α) k = none := rfl

theorem T.getS_put {α : Type} : ∀ (f : Nat) (t : T α) (k k' : Nat) (x : Option α), k < 2 ^ f - 1 → (T.putS f t k x).getS k' = if k' = k then x else t.getS k' := by
  intro f
  induction f with
  | zero => intro t k k' x h; simp at h
  | succ f ih =>
    intro t k k' x h
    have hk : k / 2 < 2 ^ f - 1 ∨ k = 2 ^ (f + 1) - 2 ∨ k = 0 := by rw [Nat.pow_succ] at h ⊢; omega
    have key : ∀ (l : T α) (v : Option α) (r : T α), T.getS (match Nat.beq k 0 with
        | true => T.node l x r
        | false => match Nat.beq (k % 2) 1 with
          | true => .node (T.putS f l (k / 2) x) v r
          | false => .node l v (T.putS f r (k / 2 - 1) x)) k' = if k' = k then x else T.getS (.node l v r) k' := by
      intro l v r
      by_cases h0 : k = 0
      · subst h0
        simp only [T.getS]
        by_cases h1 : k' = 0
        · subst h1; simp
        · have : Nat.beq k' 0 = false := nbeq_false h1
          simp [this, h1]
      · have e0 : Nat.beq k 0 = false := nbeq_false h0
        simp only [e0]
        by_cases h2 : k % 2 = 1
        · have e1 : Nat.beq (k % 2) 1 = true := by rw [h2]; rfl
          simp only [e1, T.getS]
          by_cases h1 : k' = 0
          · subst h1; simp; intro hc; omega
          · have e2 : Nat.beq k' 0 = false := nbeq_false h1
            simp only [e2]
            by_cases h3 : k' % 2 = 1
            · have e3 : Nat.beq (k' % 2) 1 = true := by rw [h3]; rfl
              simp only [e3]
              rw [ih _ _ _ _ (by rw [Nat.pow_succ] at h; omega)]
              by_cases h4 : k' = k
              · subst h4; simp
              · have : k' / 2 ≠ k / 2 := by omega
                simp [h4, this]
            · have e3 : Nat.beq (k' % 2) 1 = false := nbeq_false h3
              simp only [e3]
              have : k' ≠ k := by intro hc; subst hc; exact h3 h2
              simp [this]
        · have e1 : Nat.beq (k % 2) 1 = false := nbeq_false h2
          simp only [e1, T.getS]
          by_cases h1 : k' = 0
          · subst h1; simp; intro hc; omega
          · have e2 : Nat.beq k' 0 = false := nbeq_false h1
            simp only [e2]
            by_cases h3 : k' % 2 = 1
            · have e3 : Nat.beq (k' % 2) 1 = true := by rw [h3]; rfl
              simp only [e3]
              have : k' ≠ k := by intro hc; subst hc; exact h2 h3
              simp [this]
            · have e3 : Nat.beq (k' % 2) 1 = false := nbeq_false h3
              simp only [e3]
              rw [ih _ _ _ _ (by rw [Nat.pow_succ] at h; omega)]
              by_cases h4 : k' = k
              · subst h4; simp
              · have : k' / 2 - 1 ≠ k / 2 - 1 := by omega
                simp [h4, this]
    cases t with
    | leaf =>
      have := key .leaf none .leaf
      have e : T.getS (.node .leaf none .leaf : T α) k' = T.getS .leaf k' := by
        simp only [T.getS]
        split
        · rfl
        · split <;> rfl
      rw [e] at this
      exact this
    | node l v r => exact key l v r

/-- Written out for the kernel. -/
def T.get {α : Type} (t : T α) : Nat → Option α :=
  @T.rec α (fun _ => Nat → Option α) (fun _ => none)
    (fun _ v _ l r k => @Bool.rec (fun _ => Option α) (@Bool.rec (fun _ => Option α) (r (Nat.sub (Nat.div k 2) 1)) (l (Nat.div k 2)) (Nat.beq (Nat.mod k 2) 1)) v (Nat.beq k 0)) t

theorem T.get_eq {α : Type} : ∀ (t : T α) (k : Nat), t.get k = t.getS k
  | .leaf, k => rfl
  | .node l v r, k => by
      show @Bool.rec (fun _ => Option α) (@Bool.rec (fun _ => Option α) (r.get (Nat.sub (Nat.div k 2) 1)) (l.get (Nat.div k 2)) (Nat.beq (Nat.mod k 2) 1)) v (Nat.beq k 0) = _
      rw [T.get_eq l, T.get_eq r]
      conv => rhs; unfold T.getS
      show @Bool.rec (fun _ => Option α) (@Bool.rec (fun _ => Option α) (r.getS (k / 2 - 1)) (l.getS (k / 2)) (Nat.beq (k % 2) 1)) v (Nat.beq k 0) = _
      cases Nat.beq k 0 <;> cases Nat.beq (k % 2) 1 <;> rfl

def T.put {α : Type} (f : Nat) : T α → Nat → Option α → T α :=
  @Nat.rec (fun _ => T α → Nat → Option α → T α) (fun t _ _ => t)
    (fun _ ih t => @T.rec α (fun _ => Nat → Option α → T α)
      (fun k x => @Bool.rec (fun _ => T α) (@Bool.rec (fun _ => T α) (.node .leaf none (ih .leaf (Nat.sub (Nat.div k 2) 1) x)) (.node (ih .leaf (Nat.div k 2) x) none .leaf) (Nat.beq (Nat.mod k 2) 1)) (.node .leaf x .leaf) (Nat.beq k 0))
      (fun l v r _ _ k x => @Bool.rec (fun _ => T α) (@Bool.rec (fun _ => T α) (.node l v (ih r (Nat.sub (Nat.div k 2) 1) x)) (.node (ih l (Nat.div k 2) x) v r) (Nat.beq (Nat.mod k 2) 1)) (.node l x r) (Nat.beq k 0)) t) f

theorem T.put_eq {α : Type} : ∀ (f : Nat) (t : T α) (k : Nat) (x : Option α), T.put f t k x = T.putS f t k x
  | 0, t, k, x => by cases t <;> rfl
  | f + 1, .leaf, k, x => by
      show @Bool.rec (fun _ => T α) (@Bool.rec (fun _ => T α) (.node .leaf none (T.put f .leaf (k / 2 - 1) x)) (.node (T.put f .leaf (k / 2) x) none .leaf) (Nat.beq (k % 2) 1)) (.node .leaf x .leaf) (Nat.beq k 0) = _
      rw [T.put_eq f, T.put_eq f]
      conv => rhs; unfold T.putS
      cases Nat.beq k 0 <;> cases Nat.beq (k % 2) 1 <;> rfl
  | f + 1, .node l v r, k, x => by
      show @Bool.rec (fun _ => T α) (@Bool.rec (fun _ => T α) (.node l v (T.put f r (k / 2 - 1) x)) (.node (T.put f l (k / 2) x) v r) (Nat.beq (k % 2) 1)) (.node l x r) (Nat.beq k 0) = _
      rw [T.put_eq f, T.put_eq f]
      conv => rhs; unfold T.putS
      cases Nat.beq k 0 <;> cases Nat.beq (k % 2) 1 <;> rfl

theorem T.get_leaf {α : Type} (k : Nat) : T.get (.leaf : T α) k = none := rfl

theorem T.get_put {α : Type} (f : Nat) (t : T α) (k k' : Nat) (x : Option α) (h : k < 2 ^ f - 1) : (T.put f t k x).get k' = if k' = k then x else t.get k' := by
  rw [T.put_eq, T.get_eq, T.get_eq]
  exact T.getS_put f t k k' x h

inductive ABlk where
  | cells (sz : Nat) (els : List AVal)
  | map (kvs : List (AVal × AVal)) (clock : Nat)
  | miter (m : Nat) (since : Nat) (seen : List Value)
  | mitern
  | siter (s : ByteArray) (pos : Nat)
  | loop (st : LoopState) (pend : Option Code) (ps : Array Tmp) (as bd : Code) (tm : T AVal) (nt d : Nat)
  | dfd

/-- 'tys': the types of some blocks' elements. -/
structure AStore where
  t : T ABlk
  next : Nat
  tys : List (Nat × Nat)

def AStore.get (σ : AStore) (b : Nat) : Option ABlk :=
  match Nat.blt b σ.next with
  | true => σ.t.get b
  | false => none

theorem AStore.fin (σ : AStore) (b : Nat) (h : σ.next ≤ b) : σ.get b = none := by
  have : Nat.blt b σ.next = false := by
    cases hh : Nat.blt b σ.next with
    | false => rfl
    | true => rw [Nat.blt_eq] at hh; omega
  simp [AStore.get, this]

def AStore.alloc (σ : AStore) (x : ABlk) : AStore := ⟨T.put (σ.next + 1) σ.t σ.next (some x), σ.next + 1, σ.tys⟩

def AStore.set (σ : AStore) (b : Nat) (x : ABlk) : AStore := ⟨T.put (b + 1) σ.t b (some x), σ.next, σ.tys⟩

def AStore.del (σ : AStore) (b : Nat) : AStore := ⟨T.put (b + 1) σ.t b none, σ.next, σ.tys⟩

/-- The type of a block's elements is known. -/
def AStore.tag (σ : AStore) (b t : Nat) : AStore := ⟨σ.t, σ.next, (b, t) :: σ.tys⟩

theorem lt_two_pow_sub (k : Nat) : k < 2 ^ (k + 1) - 1 := by
  have : k < 2 ^ k := Nat.lt_two_pow_self
  rw [Nat.pow_succ]; omega

theorem AStore.get_of_lt {σ : AStore} {b : Nat} (h : b < σ.next) : σ.get b = σ.t.get b := by
  have : Nat.blt b σ.next = true := by rw [Nat.blt_eq]; exact h
  simp [AStore.get, this]

theorem AStore.get_alloc (σ : AStore) (x : ABlk) (b : Nat) : (σ.alloc x).get b = if b = σ.next then some x else σ.get b := by
  by_cases hb : b < σ.next + 1
  · rw [AStore.get_of_lt (σ := σ.alloc x) hb, AStore.alloc, T.get_put _ _ _ _ _ (lt_two_pow_sub _)]
    by_cases h : b = σ.next
    · simp [h]
    · rw [if_neg h, if_neg h, AStore.get_of_lt (by omega)]
  · rw [AStore.fin _ _ (show (σ.alloc x).next ≤ b by simp [AStore.alloc]; omega), if_neg (by omega), AStore.fin _ _ (by omega)]

theorem AStore.get_set (σ : AStore) (b : Nat) (x : ABlk) (b' : Nat) : (σ.set b x).get b' = if b' = b ∧ b < σ.next then some x else σ.get b' := by
  by_cases hb : b' < σ.next
  · rw [AStore.get_of_lt (σ := σ.set b x) hb, AStore.set, T.get_put _ _ _ _ _ (lt_two_pow_sub _)]
    by_cases h : b' = b
    · subst h; simp [hb]
    · rw [if_neg h, if_neg (fun hh => h hh.1), AStore.get_of_lt hb]
  · rw [AStore.fin _ _ (show (σ.set b x).next ≤ b' by simp [AStore.set]; omega), if_neg (by omega), AStore.fin _ _ (by omega)]

theorem AStore.get_del (σ : AStore) (b b' : Nat) : (σ.del b).get b' = if b' = b then none else σ.get b' := by
  by_cases hb : b' < σ.next
  · rw [AStore.get_of_lt (σ := σ.del b) hb, AStore.del, T.get_put _ _ _ _ _ (lt_two_pow_sub _)]
    by_cases h : b' = b
    · simp [h]
    · rw [if_neg h, if_neg h, AStore.get_of_lt hb]
  · rw [AStore.fin _ _ (show (σ.del b).next ≤ b' by simp [AStore.del]; omega), AStore.fin _ _ (by omega)]; split <;> rfl

theorem AStore.lt_of_get {σ : AStore} {b : Nat} {x : ABlk} (h : σ.get b = some x) : b < σ.next := by
  rcases Nat.lt_or_ge b σ.next with h' | h'
  · exact h'
  · simp [σ.fin b h'] at h

inductive KRel (n : Nat) (ι : Inj) (H : Imm) : List (AVal × AVal) → List MapEntry → Prop
  | nil : KRel n ι H [] []
  | cons (k v : AVal) (e : MapEntry) (kvs : List (AVal × AVal)) (es : List MapEntry) (hk : VRel n ι H k e.key) (hv : VRel n ι H v e.val)
      (hs : KRel n ι H kvs es) : KRel n ι H ((k, v) :: kvs) (e :: es)

/-- No cell of the block is shut. -/
def FrOk (m : Nat) (fr : Nat × Nat) : Prop := ∀ o, o < m → ¬ (fr.1 ≤ o ∧ o < fr.2)

/-- The block at 'p' is that. -/
def BlkRel (n : Nat) (ι : Inj) (H : Imm) (w : World) (p : Place) : ABlk → Prop
  | .cells sz els => p.sz = sz ∧ els.length ≤ p.cap ∧ ∃ c elem fr, w.heap[p.blk]? = some (.cells c elem fr) ∧ FrOk c.size fr ∧ p.base + p.cap * sz ≤ c.size ∧
      DRel n ι H (c[·]?) sz els p.base ∧ elem = p.el
  | .map kvs clock => ∃ es, w.heap[p.blk]? = some (.map es clock) ∧ KRel n ι H kvs es.toList ∧ (es.toList.map (·.born)).Nodup ∧ (∀ e ∈ es.toList, e.born < clock) ∧ (es.toList.map (·.key)).Nodup
  | .miter m since seen => (m < n ∧ (ι m).blk < w.heap.size ∧ p.base = 0) ∧ ∃ since' seen' stepped, w.heap[p.blk]? = some (.mapIter (some (ι m).blk) since' seen' stepped) ∧ since' = since ∧ stepped = since ∧
      ∀ es clock, w.heap[(ι m).blk]? = some (.map es clock) → since ≤ clock ∧ (clock = since → ∀ e ∈ es.toList, (e.born ∈ seen' ↔ e.key ∈ seen) ∧ (seen'.back? = some e.born ↔ seen.getLast? = some e.key))
  | .mitern => p.base = 0 ∧ ∃ since seen stepped, w.heap[p.blk]? = some (.mapIter none since seen stepped)
  | .siter s pos => p.base = 0 ∧ w.heap[p.blk]? = some (.stringIter s pos)
  | .loop st pend ps as bd tm nt d => p.base = 0 ∧ d < n ∧ ∃ fn tmps, w.heap[p.blk]? = some (.loop ⟨st, pend, fn, tmps, ps, as, bd, (ι d).blk⟩) ∧ tmps.size = nt ∧
      ∀ t v, tm.get t = some v → t < nt ∧ VRel n ι H v (tmps.getD t undef)
  | .dfd => p.base = 0 ∧ w.heap[p.blk]? = some (.deferred (some []))

structure TyI where
  desc : TypeDesc
  size : Nat
  bytes : Nat
  zero : Value

def TyI.isA (i : TyI) : Bool :=
  match i.desc with
  | .struct _ | .array _ _ => true
  | _ => false

/-- A type table that the program has. -/
def TyOk (P : Program) (ty : Nat → Option TyI) : Prop :=
  ∀ t i, ty t = some i → P.underlying t = some i.desc ∧ ∃ info, P.info? t = some info ∧ info.size = i.size ∧ info.bytes = i.bytes ∧ info.zero = some i.zero

structure Env where
  P : Program
  G : Nat → AVal
  ty : Nat → Option TyI
  ok : TyOk P ty
  fns : Nat → Bool
  fok : ∀ f, fns f = true → ∃ fn, P.funcs[f]? = some fn ∧ fn.body.isNone = false ∧ (fn.name == "runtime.NumGoroutine") = false
  /-- Functions that give back what they are given. -/
  nes : Nat → Bool
  nok : ∀ f, nes f = true → ∃ fn, P.funcs[f]? = some fn ∧ fn.body.isNone = true ∧ (fn.name == "runtime.NumGoroutine") = false ∧ Extern.findNext fn = none ∧ Extern.find fn = some Extern.AbiNoEscape.same
  /-- The world at the start. -/
  w0 : World
  /-- The loop over a function, by its record's number, of which the code is a round's. -/
  rd : Option Nat

/-- The outside is as it is there. -/
def Same (w0 w : World) : Prop := w.os = w0.os ∧ w.output = w0.output

structure Rel (E : Env) (ι : Inj) (H : Imm) (σ : AStore) (w : World) : Prop where
  imm : ∀ c o, H c = some o → w.heap[c]? = some o.2
  live : ∀ b x, σ.get b = some x → BlkRel σ.next ι H w (ι b) x ∧ H (ι b).blk = none ∧ (ι b).blk < w.heap.size
  inj : ∀ b b' x x', σ.get b = some x → σ.get b' = some x' → (ι b).blk = (ι b').blk → b = b'
  glob : ∀ g, VRel σ.next ι H (E.G g) (.pointer (some ⟨g, 0, none⟩))
  keep : Same E.w0 w
  tys : ∀ b t, (b, t) ∈ σ.tys → b < σ.next ∧ (ι b).el = t ∧ (ι b).base = 0

theorem Same.refl (w : World) : Same w w := ⟨rfl, rfl⟩
theorem Same.trans_keep {a b c : World} (h2 : Same b c) (h : Same a b) : Same a c := ⟨h2.1.trans h.1, h2.2.trans h.2⟩
theorem Same.trans {a b c : World} (h : Same a b) (h2 : Same b c) : Same a c := ⟨h2.1.trans h.1, h2.2.trans h.2⟩

/-- The same, of another round. -/
theorem Rel.rd {E : Env} {ι : Inj} {H : Imm} {σ : AStore} {w : World} (h : Rel E ι H σ w) (r : Option Nat) : Rel { E with rd := r } ι H σ w := ⟨h.imm, h.live, h.inj, h.glob, h.keep, h.tys⟩
theorem Rel.unrd {E : Env} {r : Option Nat} {ι : Inj} {H : Imm} {σ : AStore} {w : World} (h : Rel { E with rd := r } ι H σ w) : Rel E ι H σ w := ⟨h.imm, h.live, h.inj, h.glob, h.keep, h.tys⟩

theorem KRel.ext {n n' : Nat} {ι ι' : Inj} {H H' : Imm} (he : Ext n ι H n' ι' H') : ∀ {kvs : List (AVal × AVal)} {es : List MapEntry}, KRel n ι H kvs es → KRel n' ι' H' kvs es
  | _, _, .nil => .nil
  | _, _, .cons k v e kvs es hk hv hs => .cons k v e kvs es (hk.ext he) (hv.ext he) (hs.ext he)

theorem DRel.ext {n n' : Nat} {ι ι' : Inj} {H H' : Imm} (he : Ext n ι H n' ι' H') {g g' : Nat → Option Value} (hg : RLe g g') {sz : Nat} {els : List AVal} {o : Nat}
    (h : DRel n ι H g sz els o) : DRel n' ι' H' g' sz els o := h.mono he.inj he.next he.imm.cle hg h.wf
theorem CRel.ext {n n' : Nat} {ι ι' : Inj} {H H' : Imm} (he : Ext n ι H n' ι' H') {g g' : Nat → Option Value} (hg : RLe g g') {els : List AVal} {o : Nat}
    (h : CRel n ι H g els o) : CRel n' ι' H' g' els o := h.mono he.inj he.next he.imm.cle hg h.wf

/-- A block's relation goes on where its own place, and what it looks at, stay. -/
theorem BlkRel.ext {n n' : Nat} {ι ι' : Inj} {H H' : Imm} (he : Ext n ι H n' ι' H') {w w' : World} {p : Place} {x : ABlk} (h : BlkRel n ι H w p x)
    (hb : w'.heap[p.blk]? = w.heap[p.blk]?) (hs : w.heap.size ≤ w'.heap.size)
    (hm : ∀ m since seen, x = .miter m since seen → w'.heap[(ι m).blk]? = w.heap[(ι m).blk]?) : BlkRel n' ι' H' w' p x := by
  cases x with
  | cells sz els =>
    obtain ⟨h1, h2, c, elem, fr, h3, hf, h4, h5, h6⟩ := h
    exact ⟨h1, h2, c, elem, fr, by rw [hb]; exact h3, hf, h4, h5.ext he (fun _ _ h => h), h6⟩
  | map kvs clock =>
    obtain ⟨es, h1, h2, h3⟩ := h
    exact ⟨es, by rw [hb]; exact h1, h2.ext he, h3⟩
  | miter m since seen =>
    obtain ⟨⟨h0, h0', h0''⟩, s', se', st, h1, h2, h3, h4⟩ := h
    refine ⟨⟨Nat.lt_of_lt_of_le h0 he.next, by rw [he.inj m h0]; omega, h0''⟩, s', se', st, ?_, h2, h3, ?_⟩
    · rw [hb, he.inj m h0]; exact h1
    · intro es clock hh
      rw [he.inj m h0, hm m since seen rfl] at hh
      exact h4 es clock hh
  | mitern =>
    obtain ⟨z, a, b, c, h⟩ := h
    exact ⟨z, a, b, c, by rw [hb]; exact h⟩
  | siter s pos => exact ⟨h.1, hb.trans h.2⟩
  | loop st pend ps as bd tm nt d =>
    obtain ⟨z, hd, fn, tmps, h1, h2, h3⟩ := h
    refine ⟨z, Nat.lt_of_lt_of_le hd he.next, fn, tmps, ?_, h2, fun t v ht => ⟨(h3 t v ht).1, (h3 t v ht).2.ext he⟩⟩
    rw [hb, he.inj d hd]; exact h1
  | dfd => exact ⟨h.1, hb.trans h.2⟩

theorem Rel.congr {E : Env} {ι : Inj} {H : Imm} {σ : AStore} {w w' : World} (h : Rel E ι H σ w) (hw : w'.heap = w.heap) (hk : Same w w') : Rel E ι H σ w' where
  imm c o hc := by rw [hw]; exact h.imm c o hc
  live b x hb := by
    obtain ⟨h1, h2, h3⟩ := h.live b x hb
    exact ⟨h1.ext (Ext.refl _ _ _) (by rw [hw]) (by rw [hw]; exact Nat.le_refl _) (fun _ _ _ _ => by rw [hw]), h2, by rw [hw]; exact h3⟩
  inj := h.inj
  glob := h.glob
  keep := ⟨hk.1.trans h.keep.1, hk.2.trans h.keep.2⟩
  tys := h.tys

/-- Fewer blocks are looked at. -/
theorem Rel.restrict {E : Env} {ι : Inj} {H : Imm} {σ τ : AStore} {w : World} (h : Rel E ι H σ w) (hn : τ.next = σ.next) (hs : ∀ b x, τ.get b = some x → σ.get b = some x) (ht : ∀ p ∈ τ.tys, p ∈ σ.tys) :
    Rel E ι H τ w where
  imm := h.imm
  live b x hb := by rw [hn]; exact h.live b x (hs b x hb)
  inj b b' x x' hb hb' := h.inj b b' x x' (hs b x hb) (hs b' x' hb')
  glob := by rw [hn]; exact h.glob
  keep := h.keep
  tys b t hb := by rw [hn]; exact h.tys b t (ht _ hb)

def upd (ι : Inj) (b : Nat) (p : Place) : Inj := fun b' => if b' = b then p else ι b'

theorem upd_self (ι : Inj) (b : Nat) (p : Place) : upd ι b p b = p := by simp [upd]
theorem upd_ne (ι : Inj) {b b' : Nat} (p : Place) (h : b' ≠ b) : upd ι b p b' = ι b' := by simp [upd, h]

theorem Ext.upd (n : Nat) (ι : Inj) (H : Imm) (p : Place) : Ext n ι H (n + 1) (upd ι n p) H :=
  ⟨by omega, fun b hb => upd_ne ι p (by omega), Imm.Le.refl _⟩

theorem Rel.blk_lt {E : Env} {ι : Inj} {H : Imm} {σ : AStore} {w : World} (h : Rel E ι H σ w) {b : Nat} {x : ABlk} (hb : σ.get b = some x) : (ι b).blk < w.heap.size :=
  (h.live b x hb).2.2

/-- A new block. -/
theorem Rel.alloc {E : Env} {ι : Inj} {H : Imm} {σ : AStore} {w : World} (h : Rel E ι H σ w) {o : Obj} {p : Place} {x : ABlk} (hp : p.blk = w.heap.size)
    (hx : BlkRel σ.next ι H { w with heap := w.heap.push o } p x) :
    Rel E (upd ι σ.next p) H (σ.alloc x) { w with heap := w.heap.push o } := by
  have hold : ∀ (c : Nat) (o' : Obj), w.heap[c]? = some o' → (w.heap.push o)[c]? = some o' := by
    intro c o' hc
    have : c < w.heap.size := by
      rcases Nat.lt_or_ge c w.heap.size with h' | h'
      · exact h'
      · simp [Array.getElem?_eq_none h'] at hc
    simp [Array.getElem?_push, Nat.ne_of_lt this, hc]
  have hlt : ∀ (c : Nat), c < w.heap.size → (w.heap.push o)[c]? = w.heap[c]? := by
    intro c hc
    simp [Array.getElem?_push, Nat.ne_of_lt hc]
  have he : Ext σ.next ι H (σ.next + 1) (upd ι σ.next p) H := Ext.upd _ _ _ _
  have hH : ∀ c o', H c = some o' → c < w.heap.size := by
    intro c o' hc
    have := h.imm c o' hc
    rcases Nat.lt_or_ge c w.heap.size with h' | h'
    · exact h'
    · simp [Array.getElem?_eq_none h'] at this
  refine ⟨fun c o' hc => hold c _ (h.imm c o' hc), ?_, ?_, fun g => (h.glob g).ext he, h.keep, ?_⟩
  rotate_left 2
  · intro b t hb
    obtain ⟨h1, h2, h3⟩ := h.tys b t hb
    have h4 : upd ι σ.next p b = ι b := upd_ne _ _ (by omega)
    rw [h4]
    exact ⟨Nat.lt_succ_of_lt h1, h2, h3⟩
  · intro b y hb
    rw [AStore.get_alloc] at hb
    split at hb
    · rename_i hbn
      cases hb
      subst hbn
      rw [upd_self]
      refine ⟨hx.ext he rfl (Nat.le_refl _) (fun _ _ _ _ => rfl), ?_, ?_⟩
      · cases hc : H p.blk with
        | none => rfl
        | some o' => have := hH _ _ hc; omega
      · simp [hp]
    · rename_i hbn
      obtain ⟨h1, h2, h3⟩ := h.live b y hb
      rw [upd_ne _ _ hbn]
      refine ⟨h1.ext he (hlt _ h3) (by simp) ?_, h2, by simp; omega⟩
      intro m since seen hy
      subst hy
      exact hlt _ h1.1.2.1
  · intro b b' y y' hb hb' hbb
    rw [AStore.get_alloc] at hb hb'
    by_cases h1 : b = σ.next <;> by_cases h2 : b' = σ.next
    · omega
    · simp only [h1, upd_self, upd_ne _ _ h2] at hbb
      simp only [h2, if_false] at hb'
      have := h.blk_lt hb'; omega
    · simp only [h2, upd_self, upd_ne _ _ h1] at hbb
      simp only [h1, if_false] at hb
      have := h.blk_lt hb; omega
    · simp only [h1, h2, if_false] at hb hb'
      rw [upd_ne _ _ h1, upd_ne _ _ h2] at hbb
      exact h.inj b b' y y' hb hb' hbb
/-- A block of the call's own is turned. -/
theorem Rel.set {E : Env} {ι : Inj} {H : Imm} {σ : AStore} {w w' : World} (h : Rel E ι H σ w) {b : Nat} {y x : ABlk} (hb : σ.get b = some y)
    (hsz : w'.heap.size = w.heap.size) (ho : ∀ c, c ≠ (ι b).blk → w'.heap[c]? = w.heap[c]?) (hk : Same w w')
    (hx : BlkRel σ.next ι H w' (ι b) x)
    (hm : ∀ b' m since seen, b' ≠ b → σ.get b' = some (.miter m since seen) → (ι m).blk = (ι b).blk → BlkRel σ.next ι H w' (ι b') (.miter m since seen)) :
    Rel E ι H (σ.set b x) w' := by
  have hlt := AStore.lt_of_get hb
  refine ⟨?_, ?_, ?_, h.glob, ⟨hk.1.trans h.keep.1, hk.2.trans h.keep.2⟩, h.tys⟩
  · intro c o hc
    rw [ho c]
    · exact h.imm c o hc
    · intro hcb
      subst hcb
      rw [(h.live b y hb).2.1] at hc
      cases hc
  · intro b' z hz
    rw [AStore.get_set] at hz
    simp only [hlt, and_true] at hz
    split at hz
    · rename_i hbb
      cases hz
      subst hbb
      exact ⟨hx, (h.live b' y hb).2.1, by rw [hsz]; exact (h.live b' y hb).2.2⟩
    · rename_i hbb
      obtain ⟨h1, h2, h3⟩ := h.live b' z hz
      have hne : (ι b').blk ≠ (ι b).blk := fun hc => hbb (h.inj b' b z y hz hb hc)
      refine ⟨?_, h2, by rw [hsz]; exact h3⟩
      by_cases hmm : ∃ m since seen, z = .miter m since seen ∧ (ι m).blk = (ι b).blk
      · obtain ⟨m, since, seen, rfl, hmb⟩ := hmm
        exact hm b' m since seen hbb hz hmb
      · refine h1.ext (Ext.refl _ _ _) (ho _ hne) (by omega) ?_
        intro m since seen hz'
        exact ho _ (fun hc => hmm ⟨m, since, seen, hz', hc⟩)
  · intro b1 b2 x1 x2 h1 h2
    rw [AStore.get_set] at h1 h2
    simp only [hlt, and_true] at h1 h2
    split at h1 <;> split at h2
    · rename_i e1 e2; intro _; omega
    · rename_i e1 e2; subst e1; exact h.inj b1 b2 _ _ hb h2
    · rename_i e1 e2; subst e2; exact h.inj b1 b2 _ _ h1 hb
    · exact h.inj b1 b2 _ _ h1 h2

/-- A block of cells is turned. -/
theorem Rel.set_cells {E : Env} {ι : Inj} {H : Imm} {σ : AStore} {w w' : World} (h : Rel E ι H σ w) {b : Nat} {sz : Nat} {els : List AVal} {x : ABlk} (hb : σ.get b = some (.cells sz els))
    (hsz : w'.heap.size = w.heap.size) (ho : ∀ c, c ≠ (ι b).blk → w'.heap[c]? = w.heap[c]?) (hk : Same w w')
    {c' : Array Value} {elem' : TypeId} {fr' : Nat × Nat} (hc' : w'.heap[(ι b).blk]? = some (.cells c' elem' fr'))
    (hx : BlkRel σ.next ι H w' (ι b) x) : Rel E ι H (σ.set b x) w' := by
  refine h.set hb hsz ho hk hx ?_
  intro b' m since seen hne hz hmb
  obtain ⟨h1, h2, h3⟩ := h.live b' _ hz
  have hne' : (ι b').blk ≠ (ι b).blk := fun hc => hne (h.inj b' b _ _ hz hb hc)
  obtain ⟨⟨g0, g0', g0''⟩, s', se', st, g1, g2, g3, g4⟩ := h1
  refine ⟨⟨g0, by omega, g0''⟩, s', se', st, by rw [ho _ hne']; exact g1, g2, g3, ?_⟩
  intro es clock hh
  rw [hmb, hc'] at hh
  cases hh

theorem Rel.tag {E : Env} {ι : Inj} {H : Imm} {σ : AStore} {w : World} (h : Rel E ι H σ w) {b t : Nat} (h1 : b < σ.next) (h2 : (ι b).el = t) (h3 : (ι b).base = 0) : Rel E ι H (σ.tag b t) w :=
  ⟨h.imm, h.live, h.inj, h.glob, h.keep, fun b' t' hb => by
    simp only [AStore.tag, List.mem_cons, Prod.mk.injEq] at hb
    rcases hb with ⟨rfl, rfl⟩ | hb
    · exact ⟨h1, h2, h3⟩
    · exact h.tys b' t' hb⟩
end Abs

/-
  Part of the abstract layer (L): values, stores and steps that stand for those of the model, and the proof that they do. It proves no statement by itself.
-/
import Derived.Test.YtmimfnjcnndhpaaGreatAbsK
import Derived.Test.YtmimfnjcnndhpaaGreatAbsE
import Derived.Lib.Builder
import Derived.Lib.UnsafeStr
import Derived.Laws.IdiomStrings
import Derived.Laws.BytesString
noncomputable section
namespace Abs
set_option linter.unusedVariables false
set_option linter.unusedSimpArgs false
set_option linter.unusedSectionVars false
open Go

section
variable {E : Env} {ι : Inj} {H : Imm} {σ σ' : AStore} {w : World}

/-! ### Conversions -/

def bytesOf (s : ByteArray) : List AVal := s.data.toList.map fun b => .sc (.int .u8 b.toNat)

/-- The bytes that elements are. -/
def unbytes : List AVal → Option (List Int)
  | [] => some []
  | .sc (.int .u8 n) :: rest => (unbytes rest).map (n :: ·)
  | _ :: _ => none

def strOf (ns : List Int) : ByteArray := ns.foldl (fun r n => r.push (UInt8.ofNat n.toNat)) ByteArray.empty

/-- To a raw pointer, and back. -/
def aToU (ty : Nat → Option TyI) (t : TypeId) (x : AVal) (σ : AStore) : Option (AVal × AStore) :=
  match x with
  | .sc (.pointer none) => some (.sc (.pointer none), σ)
  | .ptr b i k =>
    match ty t, σ.get b with
    | some j, some (.cells sz els) => if j.size ≠ 0 ∧ i < els.length ∧ k < sz then some (.ptr b i k, σ) else none
    | _, _ => none
  | _ => none
def aFromU (ty : Nat → Option TyI) (u : TypeId) (x : AVal) (σ : AStore) : Option (AVal × AStore) :=
  match x with
  | .sc (.pointer none) => some (.sc (.pointer none), σ)
  | .ptr b 0 0 =>
    match ty u, σ.get b with
    | some j, some (.cells sz els) => if j.size = sz ∧ sz ≠ 0 ∧ 1 ≤ els.length ∧ hasTy σ.tys b u = true then some (.ptr b 0 0, σ) else none
    | _, _ => none
  | _ => none

def aConv (ty : Nat → Option TyI) (s d : TypeDesc) (x : AVal) (σ : AStore) : Option (AVal × AStore) :=
  match d, x with
  | .int k, .sc (.int _ n) => some (.sc (.int k (k.wrap n)), σ)
  | .string, .sc (.string b) => match s with | .string => some (.sc (.string b), σ) | _ => none
  | .slice e, .sc (.string b) =>
    match s, ty e with
    | .string, some i => match i.desc with | .int .u8 => some (.slice σ.next 0 b.size, σ.alloc (.cells 1 (bytesOf b))) | _ => none
    | _, _ => none
  | .string, x =>
    match s with
    | .slice e =>
      match ty e with
      | some i =>
        match i.desc with
        | .int .u8 =>
          match aElems 1 x σ with
          | some els => (unbytes els).map fun ns => (.sc (.string (strOf ns)), σ)
          | none => none
        | _ => none
      | none => none
    | _ => none
  | .unsafePointer, x => match s with
    | .pointer t => aToU ty t x σ
    | _ => none
  | .pointer u, x => match s with
    | .unsafePointer => aFromU ty u x σ
    | _ => none
  | _, _ => none

theorem unbytes_map : ∀ {els : List AVal} {ns : List Int}, unbytes els = some ns → els = ns.map fun n => .sc (.int .u8 n)
  | [], ns, h => by simp [unbytes] at h; subst h; rfl
  | e :: els, ns, h => by
      unfold unbytes at h
      split at h
      · rename_i h'; cases h'
      · rename_i n rest h'
        cases h'
        cases hr : unbytes els with
        | none => simp [hr] at h
        | some ms => simp [hr] at h; subst h; simp [unbytes_map hr]
      · cases h

theorem DRel.scs {n : Nat} : ∀ {ms : List Int} {ws : List Value}, DRel n ι H (ws[·]?) 1 (ms.map fun z => .sc (.int .u8 z)) 0 → ws.length = ms.length → ws = ms.map (Value.int .u8) := by
  intro ms ws h hl
  apply List.ext_getElem?
  intro i
  by_cases hi : i < ms.length
  · have := (h.get (i := i) (e := .sc (.int .u8 ms[i])) (by simp [hi])).1
    simp only [AVal.cells] at this
    cases this with
    | cons _ _ v _ _ ho hv _ =>
      have := hv.sc_inv
      subst this
      have ho' : ws[0 + i * 1]? = some (Value.int .u8 ms[i]) := ho
      rw [show 0 + i * 1 = i by omega] at ho'
      rw [ho']
      simp [hi]
  · rw [List.getElem?_eq_none (by omega), List.getElem?_eq_none (by simp; omega)]

theorem bytesRow_rel {n : Nat} (s : ByteArray) (m : Nat) : DRel n ι H ((bytesRow s m)[·]?) 1 (bytesOf s) 0 := by
  apply DRel.of_get
  intro i e he
  unfold bytesOf at he
  rw [List.getElem?_map] at he
  cases hb : s.data.toList[i]? with
  | none => simp [hb] at he
  | some b =>
    simp [hb] at he
    subst he
    refine ⟨.cons _ _ (.int .u8 b.toNat) _ _ ?_ (.sc _) (.nil _ _), rfl⟩
    have hi : i < s.data.size := by
      rcases Nat.lt_or_ge i s.data.size with h | h
      · exact h
      · rw [List.getElem?_eq_none (by simpa using h)] at hb; cases hb
    show (bytesRow s m)[0 + i * 1]? = _
    rw [show 0 + i * 1 = i by omega]
    unfold bytesRow
    rw [Array.getElem?_append_left (by simpa using hi)]
    simp at hb
    simp [hb]

theorem liesAt_self {P : Program} {e : TypeId} (hc : P.cellsOf e ≠ 0) (count n : Nat) (hn : n ≤ count) : liesAt P P.depth e count 0 e n = true := by
  have hd : P.depth = (2 * (P.types.size + Made.depth) + 1) + 1 := rfl
  rw [hd]
  simp only [liesAt, Bool.or_eq_true]
  left
  rw [hd]
  simp [rowAt, hc, hn, sameLayout]

theorem cellsOf_ty {t : TypeId} {j : TyI} (h : E.ty t = some j) : E.P.cellsOf t = j.size := by
  obtain ⟨_, info, h1, h2, _⟩ := E.ok t j h
  simp [Program.cellsOf, h1, h2]

theorem aToU_sound (hR : Rel E ι H σ w) {s d t : TypeId} (hs : E.P.underlying s = some (.pointer t)) (hd : E.P.underlying d = some .unsafePointer) {x v : AVal} {x' : Value} (hx : VRel σ.next ι H x x')
    (h : aToU E.ty t x σ = some (v, σ')) : SndV E ι H σ ((convert s d x').run E.P w) v σ' := by
  unfold aToU at h
  split at h
  · obtain rfl := hx.sc_inv
    cases h
    refine SndV.same hR (v' := .pointer none) ?_ (.sc _)
    simp [convert, Go.run_underlying hs, Go.run_underlying hd, Conv.unsafePointer]
  · rename_i b i k
    obtain ⟨hb, rfl⟩ := hx.ptr_inv
    split at h
    · rename_i j sz els hj hg
      split at h
      · rename_i hc
        obtain ⟨h1, h2, h3⟩ := hc
        cases h
        obtain ⟨g1, g2, c, elem, fr, g3, gf, g4, g5, g6⟩ := (hR.live b _ hg).1
        obtain ⟨_, info, i1, i2, _⟩ := E.ok t j hj
        refine SndV.same hR ?_ hx
        have hsh : w.shape? (ι b).blk = some (elem, c.size) := by simp [World.shape?, g3]
        have hoff : (ι b).base + i * (ι b).sz + k < c.size := by
          have : (i + 1) * sz ≤ (ι b).cap * sz := Nat.mul_le_mul_right _ (by omega)
          rw [Nat.add_mul] at this
          rw [g1]; omega
        have hn : ¬ c.size ≤ (ι b).base + i * (ι b).sz + k := by omega
        simp [convert, Go.run_underlying hs, Go.run_underlying hd, Conv.unsafePointer, Conv.seenAt, viewAt, cellsIn, hsh, Go.sizeOf, typeInfo, i1, i2, h1, hn]
      · cases h
    · cases h
  · cases h

theorem aFromU_sound (hR : Rel E ι H σ w) {s d u : TypeId} (hs : E.P.underlying s = some .unsafePointer) (hd : E.P.underlying d = some (.pointer u)) {x v : AVal} {x' : Value} (hx : VRel σ.next ι H x x')
    (h : aFromU E.ty u x σ = some (v, σ')) : SndV E ι H σ ((convert s d x').run E.P w) v σ' := by
  unfold aFromU at h
  split at h
  · obtain rfl := hx.sc_inv
    cases h
    refine SndV.same hR (v' := .pointer none) ?_ (.sc _)
    simp [convert, Go.run_underlying hs, Go.run_underlying hd, Conv.unsafePointer]
  · rename_i b
    obtain ⟨hb, rfl⟩ := hx.ptr_inv
    split at h
    · rename_i j sz els hj hg
      split at h
      · rename_i hc
        obtain ⟨h1, h2, h3, h4⟩ := hc
        cases h
        obtain ⟨g1, g2, c, elem, fr, g3, gf, g4, g5, g6⟩ := (hR.live b _ hg).1
        obtain ⟨_, t2, t3⟩ := hR.tys _ _ (hasTy_mem h4)
        obtain ⟨_, info, i1, i2, _⟩ := E.ok u j hj
        have he : elem = u := g6.trans t2
        subst he
        refine SndV.same hR ?_ hx
        have hsh : w.shape? (ι b).blk = some (elem, c.size) := by simp [World.shape?, g3]
        have hcell := cellsOf_ty hj
        have hle : 1 ≤ c.size / j.size := by
          rw [Nat.le_div_iff_mul_le (by omega)]
          have : 1 * sz ≤ (ι b).cap * sz := Nat.mul_le_mul_right _ (by omega)
          rw [h1]; omega
        have hlies := liesAt_self (P := E.P) (e := elem) (by rw [hcell]; omega) (c.size / E.P.cellsOf elem) 1 (by rw [hcell]; exact hle)
        simp [convert, Go.run_underlying hs, Go.run_underlying hd, Conv.unsafePointer, Conv.seenAt, viewAt, hsh, variablesAt, hlies, t3, Go.sizeOf, typeInfo, i1]
      · cases h
    · cases h
  · cases h

theorem aConv_sound (hR : Rel E ι H σ w) {s d : TypeId} {si di : TyI} (hs : E.ty s = some si) (hd : E.ty d = some di) {x v : AVal} {x' : Value} (hx : VRel σ.next ι H x x')
    (h : aConv E.ty si.desc di.desc x σ = some (v, σ')) : SndV E ι H σ ((convert s d x').run E.P w) v σ' := by
  have hu1 := run_underlying E.ok hs w
  have hu2 := run_underlying E.ok hd w
  have hp1 := (E.ok s si hs).1
  have hp2 := (E.ok d di hd).1
  unfold aConv at h
  split at h
  · rename_i k k' n hdd
    obtain rfl := hx.sc_inv
    cases h
    refine SndV.same hR (v' := .int k (k.wrap n)) ?_ (.sc _)
    simp only [convert, Sem.run_bind, hu1, hu2, Result.andThen_ok, hdd]
    cases si.desc <;> rfl
  · rename_i b hdd
    obtain rfl := hx.sc_inv
    split at h
    · rename_i hss
      cases h
      refine SndV.same hR (v' := .string b) ?_ (.sc _)
      simp [convert, hu1, hu2, hdd, hss]
    · cases h
  · rename_i e b hdd
    obtain rfl := hx.sc_inv
    split at h
    · rename_i i hss he
      split at h
      · rename_i hii
        cases h
        have hr := run_bytes_of_string (P := E.P) w s d e b (by rw [hp1, hss]) (by rw [hp2, hdd]) (by rw [(E.ok e i he).1, hii])
        have hcap := cap_le w b.size 0 e
        have hsz : (bytesRow b (grownCap w b.size 0 e)).size = grownCap w b.size 0 e := by
          simp [bytesRow]; show b.data.size + _ = _; have : b.data.size = b.size := rfl; omega
        obtain ⟨ι', r1, r2, r3, _⟩ := (hR.drew).newRow e (c := bytesRow b (grownCap w b.size 0 e)) (sz := 1) (cap := grownCap w b.size 0 e) (len := b.size) (els := bytesOf b) (bytesRow_rel b _)
          (by rw [hsz]; omega) (by simp [bytesOf]; exact hcap) hcap (fr := ((bytesRow b (grownCap w b.size 0 e)).size, (bytesRow b (grownCap w b.size 0 e)).size + 1)) (by intro o ho; simp; omega)
        exact ⟨_, _, ι', H, hr, r3, r1, r2⟩
      · cases h
    · cases h
  · rename_i hdd hnot
    split at h
    · rename_i e hss
      split at h
      · rename_i i he
        split at h
        · rename_i hii
          split at h
          · rename_i els hels
            cases hun : unbytes els with
            | none => simp [hun] at h
            | some ns =>
              simp [hun] at h
              obtain ⟨rfl, rfl⟩ := h
              obtain ⟨a, cap, rfl, ws, h1, h2, h3⟩ := aElems_sound hR hx hels
              refine SndV.same hR (v' := .string (strOf ns)) ?_ (.sc _)
              rw [run_convert_bytes_string w s d e a els.length cap (by rw [hp1, hss]) (by rw [(E.ok e i he).1, hii]) (by rw [hp2, hdd])]
              obtain rfl := unbytes_map hun
              have hws := DRel.scs h2 (by simpa using h1)
              subst hws
              have hf := h3 E.P _ (Nat.le_refl _)
              cases a with
              | none =>
                simp only [Builtin.firstCells, Sem.run_pure] at hf
                have hz : ns = [] := by
                  have := congrArg (fun r => match r with | Result.ok a _ => a.size | _ => 0) hf
                  simp at this
                  exact List.length_eq_zero_iff.1 this.symm
                subst hz
                rfl
              | some a =>
                refine run_bytesToString w a _ cap ns ?_
                have : (loadCells a ((List.map (fun n => AVal.sc (Value.int IntKind.u8 n)) ns).length * 1)).run E.P w = _ := hf
                rw [Nat.mul_one] at this
                rw [this]
                simp only [List.length_map]
                rw [List.take_of_length_le (by simp)]
          · cases h
        · cases h
      · cases h
    · cases h
  · rename_i hdd
    split at h
    · rename_i hss
      exact aToU_sound hR (by rw [hp1, hss]) (by rw [hp2, hdd]) hx h
    · cases h
  · rename_i hdd
    split at h
    · rename_i hss
      exact aFromU_sound hR (by rw [hp1, hss]) (by rw [hp2, hdd]) hx h
    · cases h
  · cases h

/-! ### Interface values, tuples -/

def aIface (d : TypeDesc) (t : TypeId) (x : AVal) : Option AVal :=
  match d with
  | .interface _ => none
  | _ => some (.iface t x)

theorem aIface_sound (hR : Rel E ι H σ w) {t : TypeId} {i : TyI} (hs : E.ty t = some i) {x v : AVal} {x' : Value} (hx : VRel σ.next ι H x x') (h : aIface i.desc t x = some v) :
    SndV E ι H σ ((Instr.makeInterface t x').run E.P w) v σ := by
  have hu := run_underlying E.ok hs w
  unfold aIface at h
  split at h
  · cases h
  · rename_i hne
    cases h
    refine SndV.same hR (v' := .iface t x') ?_ (.iface _ _ _ hx)
    simp only [Instr.makeInterface, Sem.run_bind, hu, Result.andThen_ok]
    cases hd : i.desc <;> first | exact absurd hd (hne _) | rfl

def aAssert (d : TypeDesc) (t : TypeId) (z : Value) (ok : Bool) (x : AVal) : Option AVal :=
  match d with
  | .interface _ => none
  | _ =>
    match x with
    | .iface t' v => if t' = t then some (if ok then .tuple [v, .sc (.bool true)] else v) else if ok then some (.tuple [absV z, .sc (.bool false)]) else none
    | .sc .nilIface => if ok then some (.tuple [absV z, .sc (.bool false)]) else none
    | _ => none

theorem aAssert_sound (hR : Rel E ι H σ w) {t xt : TypeId} {i : TyI} (hs : E.ty t = some i) {x v : AVal} {x' : Value} (hx : VRel σ.next ι H x x') {ok : Bool} (h : aAssert i.desc t i.zero ok x = some v) :
    SndV E ι H σ ((Instr.typeAssert x' xt t ok).run E.P w) v σ := by
  have hu := run_underlying E.ok hs w
  have hz := run_zeroValue E.ok hs w
  unfold aAssert at h
  split at h
  · cases h
  · rename_i hne
    split at h
    · rename_i t' y
      obtain ⟨y', rfl, hy⟩ := hx.iface_inv
      split at h
      · rename_i ht
        subst ht
        cases h
        refine SndV.same hR (v' := if ok then .tuple #[y', .bool true] else y') ?_ (out_rel ok true hy)
        simp only [Instr.typeAssert, Sem.run_bind, hu, Result.andThen_ok, if_true]
        cases hd : i.desc <;> first | exact absurd hd (hne _) | rfl
      · rename_i ht
        split at h
        · rename_i hok
          cases h
          subst hok
          refine SndV.same hR (v' := .tuple #[i.zero, .bool false]) ?_ (out_rel true false (absV_rel _ _ _ _))
          simp only [Instr.typeAssert, Sem.run_bind, hu, Result.andThen_ok, if_true, if_neg ht]
          cases hd : i.desc <;> first | exact absurd hd (hne _) | simp [hz]
        · cases h
    · obtain rfl := hx.sc_inv
      split at h
      · rename_i hok
        cases h
        subst hok
        refine SndV.same hR (v' := .tuple #[i.zero, .bool false]) ?_ (out_rel true false (absV_rel _ _ _ _))
        simp only [Instr.typeAssert, Sem.run_bind, hu, Result.andThen_ok, if_true]
        cases hd : i.desc <;> first | exact absurd hd (hne _) | simp [hz]
      · cases h
    · cases h

def aExtract (x : AVal) (k : Nat) : Option AVal :=
  match x with
  | .tuple vs => vs[k]?
  | _ => none

theorem aExtract_sound (hR : Rel E ι H σ w) {x v : AVal} {x' : Value} (hx : VRel σ.next ι H x x') {k : Nat} (h : aExtract x k = some v) : SndV E ι H σ ((Instr.extract x' k).run E.P w) v σ := by
  unfold aExtract at h
  split at h
  · obtain ⟨vs', rfl, hv⟩ := hx.tuple_inv
    obtain ⟨v', h1, h2⟩ := hv.get h
    refine SndV.same hR (v' := v') ?_ h2
    simp [Instr.extract, h1]
  · cases h

/-! ### Copy -/

def aCopy (sz : Nat) (dst src : AVal) (σ : AStore) : Option (AVal × AStore) :=
  match aSrc sz src σ with
  | some xs =>
    match dst with
    | .sc (.slice none 0 0) => some (.sc (.int .i64 0), σ)
    | .slice b off len =>
      match σ.get b with
      | some (.cells sz' els) =>
        let m := min xs.length len
        if sz' = sz ∧ off + m ≤ els.length ∧ allCells xs = true then
          some (.sc (.int .i64 m), σ.set b (.cells sz (overlay els off (xs.take m))))
        else none
      | _ => none
    | .view b off len =>
      match σ.get b with
      | some (.cells sz' els) =>
        let m := min xs.length len
        if sz' = sz ∧ off + m ≤ els.length ∧ allCells xs = true then
          some (.sc (.int .i64 m), σ.set b (.cells sz (overlay els off (xs.take m))))
        else none
      | _ => none
    | .data sz' _ els => if els.length = 0 ∧ sz' = sz then some (.sc (.int .i64 0), σ) else none
    | _ => none
  | none => none

theorem aCopy_sound (hR : Rel E ι H σ w) {t : TypeId} {i : TyI} (hs : E.ty t = some i) {el : TypeId} (hd : i.desc = .slice el) {j : TyI} (hj : E.ty el = some j) {dst src v : AVal} {dst' src' : Value}
    (hdst : VRel σ.next ι H dst dst') (hsrc : VRel σ.next ι H src src') (h : aCopy j.size dst src σ = some (v, σ')) (rt : TypeId) {ats : Array TypeId} (ha : ats[0]? = some t) :
    SndV E ι H σ ((Builtin.copy_ ats rt #[dst', src']).run E.P w) v σ' := by
  have hu := run_underlying E.ok hs w
  have hz := run_sizeOf E.ok hj w
  unfold aCopy at h
  split at h
  · rename_i xs hxs
    obtain ⟨hlen, ws, hws, hwD, hfirst⟩ := aSrc_sound hR hsrc hxs
    split at h
    · obtain rfl := hdst.sc_inv
      cases h
      refine SndV.same hR (v' := goInt 0) ?_ (.sc _)
      have := hfirst E.P 0 (Nat.zero_le _)
      simp [Builtin.copy_, ha, hu, hd, hlen, hz, this]
    · rename_i b off len
      obtain ⟨cap, rfl, hb, hl, hcap⟩ := hdst.slice_inv
      split at h
      · rename_i sz' els hg
        simp only [] at h
        split at h
        · rename_i hc
          obtain ⟨rfl, hoff, hall⟩ := hc
          cases h
          obtain ⟨hb1, hb2, hb3⟩ := hR.live b _ hg
          obtain ⟨g1, g2, c, el', fr, g3, gf, g4, g5, g6⟩ := hb1
          have hm : min xs.length len ≤ xs.length := Nat.min_le_left _ _
          have hf := hfirst E.P _ hm
          have hall' : allCells (xs.take (min xs.length len)) = true := by
            unfold allCells at hall ⊢
            rw [List.all_eq_true] at hall ⊢
            intro x hx
            exact hall x (List.mem_of_mem_take hx)
          have hlt : (xs.take (min xs.length len)).length = min xs.length len := by simp
          have hwl : (ws.take (min xs.length len * j.size)).length = (xs.take (min xs.length len)).length * j.size := by
            rw [hlt, List.length_take, hws]
            have : min xs.length len * j.size ≤ xs.length * j.size := Nat.mul_le_mul_right _ hm
            omega
          have hwD' : DRel σ.next ι H ((ws.take (min xs.length len * j.size))[·]?) j.size (xs.take (min xs.length len)) 0 := by
            apply DRel.of_get
            intro q e he
            have hq : q < min xs.length len := by
              rcases Nat.lt_or_ge q (min xs.length len) with h' | h'
              · exact h'
              · rw [List.getElem?_eq_none (by omega)] at he; cases he
            rw [List.getElem?_take, if_pos hq] at he
            obtain ⟨a1, a2⟩ := hwD.get he
            refine ⟨a1.congr ?_, a2⟩
            intro k hk1 hk2
            show (ws.take _)[k]? = ws[k]?
            have : (q + 1) * j.size ≤ min xs.length len * j.size := Nat.mul_le_mul_right _ hq
            rw [Nat.add_mul] at this
            rw [List.getElem?_take, if_pos (by omega)]
          have hcell := DRel.isCell hwD' hwl hall'
          have hle : (ι b).base + off * j.size + (ws.take (min xs.length len * j.size)).length ≤ c.size := by
            have h1 : (off + min xs.length len) * j.size ≤ els.length * j.size := Nat.mul_le_mul_right _ hoff
            have h2 : els.length * j.size ≤ (ι b).cap * j.size := Nat.mul_le_mul_right _ g2
            rw [Nat.add_mul] at h1; rw [hwl, hlt]; omega
          obtain ⟨w', r1, r2, r3⟩ := run_storeCells E.P (ι b).blk ((ι b).base + off * j.size) el' fr (ws.take (min xs.length len * j.size)) w c 0 g3 gf hcell (by omega)
          have hheap : w'.heap[(ι b).blk]? = some (.cells (splice c ((ι b).base + off * j.size) (ws.take (min xs.length len * j.size))) el' fr) := by
            rw [r2]; simp [hb3]
          refine ⟨goInt (min xs.length len : Nat), w', ι, H, ?_, .sc _, ?_, Ext.refl _ _ _⟩
          · have e1 : Nat.min xs.length len = min xs.length len := rfl
            simp [Builtin.copy_, ha, hu, hd, hlen, hz, e1, hf, g1, r1]
          · refine hR.set_cells hg (by rw [r2]; simp) ?_ r3 hheap ?_
            · intro c' hne
              rw [r2]; simp [Ne.symm hne]
            · refine ⟨g1, by rw [overlay_length]; exact g2, _, _, fr, hheap, by rw [splice_size]; exact gf, by rw [splice_size]; exact g4, ?_, g6⟩
              refine overlay_rel g5 hwD' hwl (by rw [hlt]; exact hoff) ?_
              have h2 : els.length * j.size ≤ (ι b).cap * j.size := Nat.mul_le_mul_right _ g2
              omega
        · cases h
      · cases h
    · rename_i b off len
      obtain ⟨rfl, hb, hcap⟩ := hdst.view_inv
      split at h
      · rename_i sz' els hg
        simp only [] at h
        split at h
        · rename_i hc
          obtain ⟨rfl, hoff, hall⟩ := hc
          cases h
          obtain ⟨hb1, hb2, hb3⟩ := hR.live b _ hg
          obtain ⟨g1, g2, c, el', fr, g3, gf, g4, g5, g6⟩ := hb1
          have hm : min xs.length len ≤ xs.length := Nat.min_le_left _ _
          have hf := hfirst E.P _ hm
          have hall' : allCells (xs.take (min xs.length len)) = true := by
            unfold allCells at hall ⊢
            rw [List.all_eq_true] at hall ⊢
            intro x hx
            exact hall x (List.mem_of_mem_take hx)
          have hlt : (xs.take (min xs.length len)).length = min xs.length len := by simp
          have hwl : (ws.take (min xs.length len * j.size)).length = (xs.take (min xs.length len)).length * j.size := by
            rw [hlt, List.length_take, hws]
            have : min xs.length len * j.size ≤ xs.length * j.size := Nat.mul_le_mul_right _ hm
            omega
          have hwD' : DRel σ.next ι H ((ws.take (min xs.length len * j.size))[·]?) j.size (xs.take (min xs.length len)) 0 := by
            apply DRel.of_get
            intro q e he
            have hq : q < min xs.length len := by
              rcases Nat.lt_or_ge q (min xs.length len) with h' | h'
              · exact h'
              · rw [List.getElem?_eq_none (by omega)] at he; cases he
            rw [List.getElem?_take, if_pos hq] at he
            obtain ⟨a1, a2⟩ := hwD.get he
            refine ⟨a1.congr ?_, a2⟩
            intro k hk1 hk2
            show (ws.take _)[k]? = ws[k]?
            have : (q + 1) * j.size ≤ min xs.length len * j.size := Nat.mul_le_mul_right _ hq
            rw [Nat.add_mul] at this
            rw [List.getElem?_take, if_pos (by omega)]
          have hcell := DRel.isCell hwD' hwl hall'
          have hle : (ι b).base + off * j.size + (ws.take (min xs.length len * j.size)).length ≤ c.size := by
            have h1 : (off + min xs.length len) * j.size ≤ els.length * j.size := Nat.mul_le_mul_right _ hoff
            have h2 : els.length * j.size ≤ (ι b).cap * j.size := Nat.mul_le_mul_right _ g2
            rw [Nat.add_mul] at h1; rw [hwl, hlt]; omega
          obtain ⟨w', r1, r2, r3⟩ := run_storeCells E.P (ι b).blk ((ι b).base + off * j.size) el' fr (ws.take (min xs.length len * j.size)) w c 0 g3 gf hcell (by omega)
          have hheap : w'.heap[(ι b).blk]? = some (.cells (splice c ((ι b).base + off * j.size) (ws.take (min xs.length len * j.size))) el' fr) := by
            rw [r2]; simp [hb3]
          refine ⟨goInt (min xs.length len : Nat), w', ι, H, ?_, .sc _, ?_, Ext.refl _ _ _⟩
          · have e1 : Nat.min xs.length len = min xs.length len := rfl
            simp [Builtin.copy_, ha, hu, hd, hlen, hz, e1, hf, g1, r1]
          · refine hR.set_cells hg (by rw [r2]; simp) ?_ r3 hheap ?_
            · intro c' hne
              rw [r2]; simp [Ne.symm hne]
            · refine ⟨g1, by rw [overlay_length]; exact g2, _, _, fr, hheap, by rw [splice_size]; exact gf, by rw [splice_size]; exact g4, ?_, g6⟩
              refine overlay_rel g5 hwD' hwl (by rw [hlt]; exact hoff) ?_
              have h2 : els.length * j.size ≤ (ι b).cap * j.size := Nat.mul_le_mul_right _ g2
              omega
        · cases h
      · cases h
    · rename_i sz' tt els
      obtain ⟨b, o, cap, rfl, hl, hD, _⟩ := hdst.data_inv
      split at h
      · rename_i hc
        cases h
        have h0 := hc.1
        refine SndV.same hR (v' := goInt 0) ?_ (.sc _)
        have := hfirst E.P 0 (Nat.zero_le _)
        have e1 : Nat.min xs.length els.length = 0 := by rw [h0]; exact Nat.min_zero _
        simp [Builtin.copy_, ha, hu, hd, hlen, hz, e1, this, storeCells]
      · cases h
    · cases h
  · cases h
end
end Abs

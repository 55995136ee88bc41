/-
  Two calls of Go's library that the law makes, by the contracts of the kit's shelf: strconv's text of -1, and strings.Join of two texts. It proves no statement by itself.
-/
import Derived.Test.YtcilgbobjhdmeaaGreatDoorSh
import Derived.Test.YtcilgbobjhdmeaaGreatDoorAbsG19
import Derived.Lib.Walk
import Derived.Lib.ItoaMem
import Derived.WalkKit
import Derived.BigCall
import Derived.BigGuard
namespace Go.Proofs
open Go.Shelf Go.RowKit Go.Sort Go.Lib

set_option maxHeartbeats 2000000 in
set_option maxRecDepth 100000 in
theorem Tryz.num1 (w : World) (hc : w.cell? ⟨1, 0, none⟩ = some (.int .u64 1)) :
    Calls Tryz.prog 222 #[.int .u64 1] w fun e w' => e = .returned (.int .i64 1) ∧ w' = w := by
  have mixed := Tryz.laysM284.mixed
  have hl : Lib.bitLen (1 : Int).toNat = 1 := by decide
  have h1 : Lib.l10 1 = 0 := by decide
  have t53 := Tryz.laysM284.t53; have a53 := Tryz.laysM284.a53; have z53 := Tryz.laysM284.z53; have v53 := Tryz.laysM284.v53
  have t3 := Tryz.laysM284.t3; have a3 := Tryz.laysM284.a3; have z3 := Tryz.laysM284.z3; have v3 := Tryz.laysM284.v3
  have t212 := Tryz.laysM284.t212; have a212 := Tryz.laysM284.a212; have z212 := Tryz.laysM284.z212; have v212 := Tryz.laysM284.v212
  go_enter Tryz.func222, Tryz.ntmps222
  go_wp2_with (first
    | (go_at_call 242; refine (Tryz.bits_Len64 _ _ (by omega) (by omega)).mono ?_; rintro e w' ⟨rfl, rfl⟩)
    | (go_at_call 279; refine (Tryz.internal_strconv_log10Pow2 1 (by omega) _).mono ?_; rintro e w' ⟨rfl, rfl⟩)
    | (go_at_call 280; refine (Tryz.internal_strconv_bool2_int _ _).mono ?_; rintro e w' ⟨rfl, rfl⟩))
  all_goals go_ret
  all_goals (refine ⟨?_, rfl⟩; simp_all)

set_option maxHeartbeats 6400000 in
set_option maxRecDepth 100000 in
/-- strconv's text of -1: the table is asked for its first cell alone. -/
theorem Tryz.fmtNeg1 (w : World) (hlt : 1 < w.heap.size) (hc : w.cell? ⟨1, 0, none⟩ = some (.int .u64 1)) :
    Calls Tryz.prog 178 #[.int .i64 (-1), .int .i64 10] w fun e w' => e = .returned (.string ⟨#[45, 49]⟩) ∧ Abs.Keeps w w' := by
  have mixed := Tryz.laysM246.mixed
  have hwr : IntKind.u64.wrap (-IntKind.u64.wrap (-1)) = 1 := by decide
  have hal : Tryz.prog.arrayLen 337 = 24 := by kernel_rfl
  have hsl1 : ∀ W, (Instr.sliceAt 337 (.pointer (some ⟨w.heap.size, 0, none⟩)) (some (.int .i64 1)) (some (.int .i64 2)) none).run Tryz.prog W = .ok (.slice (some ⟨w.heap.size, 1, none⟩) 1 23) W := fun W => by
    rw [run_sliceAt_array_lh W 337 ⟨w.heap.size, 0, none⟩ (by kernel_rfl) .i64 .i64 1 2 (by omega) (by omega) (by rw [hal]; omega)]
    go_simp
  have hn1 : Lib.nDigits 1 = 1 := by simp [Lib.nDigits]
  have hH0 := Lib.holds_zero w 337 1 (by omega)
  have hfmt := Tryz.internal_strconv_formatBase10 w.heap.size 1 23 1 (Array.replicate 1 0) (w.alloc (.cells Lib.zeros24 337)) hH0 (by simp) (by omega) (by simp)
  have hsz : (Array.replicate 1 (0 : UInt8)).size = 1 := by simp
  rw [hsz] at hfmt
  have HH0 := Lib.hid hH0
  have hcell : ∀ o, (w.alloc o).cell? ⟨1, 0, none⟩ = some (.int .u64 1) := fun o => by rw [World.cell?_of_block (w := w) (Below.heap_alloc w o 1 hlt)]; exact hc
  have HC := Lib.hid hcell
  clear hH0 hal hcell hc
  go_enter Tryz.func178, Tryz.ntmps178
  go_wp2_with (first
    | (go_at_call 222; refine (Tryz.num1 _ (HC.out _)).mono ?_; rintro e w' ⟨rfl, rfl⟩))
  go_at_call 223
  refine hfmt.mono ?_
  rintro e w' ⟨rfl, k, v', dk, rfl, hF⟩
  have hdd : Lib.decDigits 1 = [49] := by rw [Lib.decDigits]; rfl
  have hds : dk.size = 1 := hF.size
  obtain ⟨os, eX⟩ := Lib.fin_pos w (.cells Lib.zeros24 337) dk k
  have c0 : ((putRow (fun (b : UInt8) => Value.int .u8 (b.toNat : Int)) (w.alloc (.cells Lib.zeros24 337)) w.heap.size 1 dk).drewN k).cell? ⟨w.heap.size, 0, none⟩ = some (.int .u8 0) := by
    rw [World.cell?_drewN, cell?_putRow_other _ _ _ _ _ _ (Or.inr (Or.inl (Nat.zero_lt_one))), World.cell?_alloc_new]
    exact Lib.zeros24_at 0 (by omega)
  have f0 : ((putRow (fun (b : UInt8) => Value.int .u8 (b.toNat : Int)) (w.alloc (.cells Lib.zeros24 337)) w.heap.size 1 dk).drewN k).frozen? ⟨w.heap.size, 0, none⟩ = false := by
    rw [World.frozen?_drewN, frozen?_putRow]
    exact World.frozen?_alloc_new _ _ _ _
  have c1 : ((putRow (fun (b : UInt8) => Value.int .u8 (b.toNat : Int)) (w.alloc (.cells Lib.zeros24 337)) w.heap.size 1 dk).drewN k).cell? ⟨w.heap.size, 1, none⟩ = some (.int .u8 49) := by
    have h := Lib.row_is_numeral (u := 1) (by rw [hn1]; exact hF) 0 (by rw [hdd]; simp)
    rw [World.cell?_drewN]
    have h2 := cell?_putRow (fun (b : UInt8) => Value.int .u8 (b.toNat : Int)) (w.alloc (.cells Lib.zeros24 337)) w.heap.size 1 (Array.replicate 1 0) dk HH0.out (by rw [hds]; simp) 0 (by rw [hds]; omega)
    rw [h2, ← h]
    simp [hdd]
  generalize (putRow (fun (b : UInt8) => Value.int .u8 (b.toNat : Int)) (w.alloc (.cells Lib.zeros24 337)) w.heap.size 1 dk).drewN k = X at eX c0 f0 c1 ⊢
  clear hfmt HH0 HC hsl1 hF hds hwr
  have hal : Tryz.prog.arrayLen 337 = 24 := by kernel_rfl
  have hsl2 : ∀ W, (Instr.sliceAt 337 (.pointer (some ⟨w.heap.size, 0, none⟩)) none (some (.int .i64 2)) none).run Tryz.prog W = .ok (.slice (some ⟨w.heap.size, 0, none⟩) 2 24) W := fun W => by
    rw [run_sliceAt_array_h W 337 ⟨w.heap.size, 0, none⟩ (by kernel_rfl) .i64 2 (by omega) (by rw [hal]; omega)]
    go_simp
  clear hal
  have hcv : (convert 190 9 (.slice (some ⟨w.heap.size, 0, none⟩) 2 24)).run Tryz.prog (X.setCell ⟨w.heap.size, 0, none⟩ (.int .u8 45)) = .ok (.string ⟨#[45, 49]⟩) (X.setCell ⟨w.heap.size, 0, none⟩ (.int .u8 45)) :=
    run_convert_bytes_back (P := Tryz.prog) (X.setCell ⟨w.heap.size, 0, none⟩ (.int .u8 45)) 190 9 5 ⟨w.heap.size, 0, none⟩ 24 [45, 49] Tryz.underlying190 Tryz.underlying5 Tryz.underlying9 (fun j hj => by
      rw [Lib.add_plain]
      match j, hj with
      | 0, _ => exact World.cell?_setCell_same _ _ _ c0
      | 1, _ => rw [World.cell?_setCell_other _ _ _ _ (by simp)]; exact c1)
  have EX := Lib.hid eX
  clear eX
  go_wp2
  go_ret
  refine ⟨rfl, ?_⟩
  have eX := EX.out
  subst eX
  refine ⟨rfl, rfl, ?_, ?_⟩
  · simp [World.setCell, grow]
  · intro i hi
    rw [RowKit.Below.heap_setCell _ _ _ _ (by show i ≠ w.heap.size; omega)]
    show ((w.drewN k).heap ++ os)[i]? = _
    have hd : (w.drewN k).heap = w.heap := by simp
    rw [hd, Array.getElem?_append_left hi]
end Go.Proofs
namespace Go.Proofs
open Abs

theorem Tryz.fmtA {E : Env} (hP : E.P = Tryz.prog) {cs : List AVal} (hG : E.G 1 = .iptr (.sc (.int .u64 1) :: cs)) :
    ACalls E 178 [.sc (.int .i64 (-1)), .sc (.int .i64 10)] empty fun e _ => e = .ret (.sc (.string ⟨#[45, 49]⟩)) := by
  refine ACalls.ofE ?_
  intro ι H w args' hR ha
  cases ha with
  | cons _ x _ xs hx hxs =>
    cases hxs with
    | cons _ y _ ys hy hys =>
      cases hys
      obtain rfl := hx.sc_inv
      obtain rfl := hy.sc_inv
      have hg := hR.glob 1
      rw [hG] at hg
      have key : H.cell? 1 0 = some (.int .u64 1) := by
        cases hg with
        | iptr _ b o h =>
          cases h with
          | cons _ _ v _ _ hv h0 hs =>
            obtain rfl := h0.sc_inv
            exact hv
      unfold Imm.cell? at key
      split at key
      · rename_i c e f hb
        have hh := hR.imm 1 _ hb
        have hlt : 1 < w.heap.size := by
          rcases Nat.lt_or_ge 1 w.heap.size with h | h
          · exact h
          · rw [Array.getElem?_eq_none h] at hh; cases hh
        rw [hP]
        exact Tryz.fmtNeg1 w hlt (by simp [World.cell?, hh, key])
      · cases key

def Tryz.keyA : ByteArray := ⟨#[40, 49, 32, 48, 32, 49, 32, 48, 102, 97, 108, 115, 101, 102, 97, 108, 115, 101, 48, 32, 48, 46, 46, 48, 46, 48, 32, 41]⟩
def Tryz.keyB : ByteArray := ⟨#[40, 49, 32, 49, 32, 49, 32, 48, 102, 97, 108, 115, 101, 102, 97, 108, 115, 101, 48, 32, 48, 46, 46, 48, 46, 48, 32, 41]⟩
def Tryz.keyAB : ByteArray := ⟨#[40, 49, 32, 48, 32, 49, 32, 48, 102, 97, 108, 115, 101, 102, 97, 108, 115, 101, 48, 32, 48, 46, 46, 48, 46, 48, 32, 41, 40, 49, 32, 49, 32, 49, 32, 48, 102, 97, 108, 115, 101, 102, 97, 108, 115, 101, 48, 32, 48, 46, 46, 48, 46, 48, 32, 41]⟩
theorem Tryz.joinA {E : Env} (hP : E.P = Tryz.prog) :
    ACalls E 149 [.data 1 false [.sc (.string Tryz.keyA), .sc (.string Tryz.keyB)], .sc (.string ⟨#[]⟩)] empty fun e _ => e = .ret (.sc (.string Tryz.keyAB)) := by
  refine ACalls.ofE ?_
  intro ι H w args' hR ha
  obtain ⟨b, o, cap, rfl, h1, h2, h3⟩ := strs_inv hR (xs := [Tryz.keyA, Tryz.keyB]) ha
  rw [hP]
  refine (Tryz.strings_Join b o cap [Tryz.keyA, Tryz.keyB] ⟨#[]⟩ w h3 (h2 (by simp)) (by simp) h1 (by decide)).mono ?_
  rintro e w' ⟨rfl, hb⟩
  exact ⟨by rfl, .of hb⟩
end Go.Proofs

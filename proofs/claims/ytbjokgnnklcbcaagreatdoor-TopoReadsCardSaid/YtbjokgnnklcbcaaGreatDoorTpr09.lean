import Derived.Test.YtbjokgnnklcbcaaGreatDoorTpr05
import Derived.Lib.SliceRun
import Derived.Lib.Walk
import Derived.Shelf.Abstract
import Derived.Laws.EntriesVeiled
import Derived.Test.YtbjokgnnklcbcaaGreatDoorTpr03
import Derived.Deep.WholeRow
import Derived.Laws.ResultCell
import Derived.Laws.CopyOwn
import Derived.Test.YtbjokgnnklcbcaaGreatDoorTpr08
import Derived.Deep.DeepCutAuto
set_option linter.all false
/-! The document's numbers (quillonref01): bits of a number. -/
namespace Go.Proofs.YtbjokgnnklcbcaaGreatDoor
open Go.RowKit
def bitI (x : Int) (j : Nat) : Bool := decide (x / 2 ^ j % 2 = 1)
/-- The row of bits, as far as k rounds have laid it. -/
def rowV (hi lo : Int) (k j : Nat) : Value := .bool (if j < 64 then decide (j < k) && bitI lo j else decide (j < 64 + k) && bitI hi (j - 64))
def rowC (hi lo : Int) (k : Nat) : Array Value := ((List.range 128).map (rowV hi lo k)).toArray
theorem rowC_get (hi lo : Int) (k j : Nat) (hj : j < 128) : (rowC hi lo k)[j]? = some (rowV hi lo k j) := by
 simp [rowC, hj]
theorem rowC_size (hi lo : Int) (k : Nat) : (rowC hi lo k).size = 128 := by simp [rowC]
theorem rowC_one (hi lo : Int) (k : Nat) : (rowC hi lo k).all (·.oneCell') = true := by
 simp [rowC, rowV, Value.oneCell', List.all_eq_true]
theorem rowC_zero (hi lo : Int) : rowC hi lo 0 = Tryz.zeroCells193 := by
 have h : rowC hi lo 0 = Array.replicate 128 (.bool false) := by
  apply Array.ext_getElem?
  intro j
  by_cases hj : j < 128
  ·rw [rowC_get _ _ _ _ hj]
   by_cases h64 : j < 64 <;> simp [rowV, hj, h64]
  ·simp [rowC, hj]
 exact h.trans (Eq.symm (by rfl))
theorem rowC_succ (hi lo : Int) {k : Nat} (hk : k < 64) : ((rowC hi lo k).setIfInBounds k (.bool (bitI lo k))).setIfInBounds (64 + k) (.bool (bitI hi k)) = rowC hi lo (k + 1) := by
 apply Array.ext_getElem?
 intro j
 by_cases hj : j < 128
 ·rw [Array.getElem?_setIfInBounds, Array.getElem?_setIfInBounds, rowC_get _ _ _ _ hj, rowC_get _ _ _ _ hj]
  simp only [Array.size_setIfInBounds, rowC_size]
  by_cases h1 : 64 + k = j
  ·subst h1
   simp [rowV, hj, hk]
   omega
  ·by_cases h2 : k = j
   ·subst h2
    simp [rowV, h1, hk]
    omega
   ·simp only [if_neg h1, if_neg h2, rowV]
    by_cases h64 : j < 64
    ·have : (decide (j < k)) = decide (j < k + 1) := by rw [decide_eq_decide]; omega
     simp [h64, this]
    ·have : (decide (j < 64 + k)) = decide (j < 64 + (k + 1)) := by rw [decide_eq_decide]; omega
     simp [h64, this]
 ·have h : ∀ a : Array Value, a.size = 128 → a[j]? = none := fun a ha => Array.getElem?_eq_none (by omega)
  rw [h _ (by simp [rowC_size]), h _ (rowC_size _ _ _)]
theorem pow_pos2 (k : Nat) : (0 : Int) < 2 ^ k := Int.pow_pos (by decide)
theorem div_pow {x : Int} (h0 : 0 ≤ x) (h1 : x < 18446744073709551616) (k : Nat) : 0 ≤ x / 2 ^ k ∧ x / 2 ^ k < 18446744073709551616 :=
 ⟨Int.ediv_nonneg h0 (Int.le_of_lt (pow_pos2 k)), Int.lt_of_le_of_lt (Int.ediv_le_self _ h0) h1⟩
theorem div_succ (x : Int) (k : Nat) : x / 2 ^ (k + 1) = x / 2 ^ k / 2 := by
 rw [Int.pow_succ, Int.ediv_ediv_of_nonneg (Int.le_of_lt (pow_pos2 k))]
/-- A whole row out of memory, into memory: kept from being opened. -/
def LoadG (v : Value) : Sem Value := Instr.loadAt 193 v
theorem load_eq (v : Value) : Instr.loadAt 193 v = LoadG v := rfl
def StoreG (v u : Value) : Sem Unit := Instr.storeAt 193 v u
theorem store_eq (v u : Value) : Instr.storeAt 193 v u = StoreG v u := rfl
theorem row_info : (Tryz.prog.info? 193).map (·.size) = some 128 := by kernel_rfl
theorem loadG_run {W : World} {g : Nat} {C : Array Value} {t : TypeId} {fr : Nat × Nat} (h : W.heap[g]? = some (.cells C t fr)) (hs : C.size = 128) : (LoadG (.pointer (some ⟨g, 0, none⟩))).run Tryz.prog W = .ok (.agg C) W := by
 unfold LoadG
 simp only [Instr.loadAt, Instr.sureAddr, Sem.run_bind, Sem.run_pure, Result.andThen]
 exact run_loadVar_row W g t _ C fr _ h Tryz.underlying193 rfl (by rw [hs]; exact row_info)
theorem storeG_run {W : World} {g : Nat} {C C' : Array Value} {t : TypeId} (h : W.heap[g]? = some (.cells C t (0, 0))) (hs : C.size = 128) (hs' : C'.size = 128) (h1 : C'.all (·.oneCell') = true) : (StoreG (.pointer (some ⟨g, 0, none⟩)) (.agg C')).run Tryz.prog W = .ok () (W.setRow g C') := by
 unfold StoreG
 simp only [Instr.storeAt, Instr.sureAddr, Sem.run_bind, Sem.run_pure, Result.andThen]
 exact run_storeVar_row W g t _ C C' h (by rw [hs']; exact row_info) (by omega) h1
theorem setRow_at {W : World} {g : Nat} {C C' : Array Value} {t : TypeId} {fr : Nat × Nat} (h : W.heap[g]? = some (.cells C t fr)) : (W.setRow g C').heap[g]? = some (.cells C' t fr) := by
 simp [World.setRow, Array.getElem?_modify, h]
theorem setRow_far {W : World} {g b : Nat} {C' : Array Value} (h : b ≠ g) : (W.setRow g C').heap[b]? = W.heap[b]? := by
 simp only [World.setRow, Array.getElem?_modify]
 rw [if_neg (Ne.symm h)]
attribute [local go_sem ↓] load_eq store_eq
set_option maxRecDepth 100000 in
set_option maxHeartbeats 400000 in
theorem bits01_any (hi lo : Int) (w : World) (hh : u64 hi) (hl : u64 lo) : Calls Tryz.prog 169 #[.agg #[.int .u64 hi, .int .u64 lo]] w fun e w' => e = .returned (.agg (rowC hi lo 64)) ∧ Below w.heap.size w w' := by
 obtain ⟨hh1, hh2⟩ := hh
 obtain ⟨hl1, hl2⟩ := hl
 go_enter Tryz.func169, Tryz.ntmps169
 go_wp2
 rw [← rowC_zero hi lo]
 go_loopw [4] (fun i wr => ∃ k : Nat, k ≤ 64 ∧ i = .int .i64 k ∧ wr = ((w.alloc (.cells #[.int .u64 (hi / 2 ^ k), .int .u64 (lo / 2 ^ k)] 62)).alloc (.cells (rowC hi lo 0) 193)).alloc (.cells (rowC hi lo k) 193)) (fun i _ => 64 - (intOf i).toNat)
 case atStart => exact ⟨0, Nat.zero_le _, rfl, by simp⟩
 case round =>
  obtain ⟨k, hk, rfl, rfl⟩ := hrel
  have hs1 := rowC_size hi lo k
  have hs0 := rowC_size hi lo 0
  by_cases hlt : k < 64
  ·have hltz : (k : Int) < 64 := by omega
   have hsucc := hide (rowC_succ hi lo hlt)
   obtain ⟨hx1, hx2⟩ := div_pow hh1 hh2 k
   obtain ⟨hy1, hy2⟩ := div_pow hl1 hl2 k
   have hxs := div_succ hi k
   have hys := div_succ lo k
   have hbx : bitI hi k = decide (hi / 2 ^ k % 2 = 1) := rfl
   have hby : bitI lo k = decide (lo / 2 ^ k % 2 = 1) := rfl
   rw [hbx, hby] at hsucc
   clear hbx hby
   generalize hi / 2 ^ k = x at *
   generalize lo / 2 ^ k = y at *
   have hc1 : (rowC hi lo k)[k]? = some (rowV hi lo k k) := rowC_get _ _ _ _ (by omega)
   have hc2 : (rowC hi lo k)[64 + k]? = some (rowV hi lo k (64 + k)) := rowC_get _ _ _ _ (by omega)
   replace hxs := hide hxs
   replace hys := hide hys
   go_wp2
   go_roundw
   case rel => exact ⟨k + 1, by omega, by go_num, by rw [hxs.out, hys.out, ← hsucc.out]; rfl⟩
   case measure => simp [intOf]; omega
  ·obtain rfl : k = 64 := by omega
   generalize hi / 2 ^ 64 = x
   generalize lo / 2 ^ 64 = y
   obtain ⟨W, hW⟩ : ∃ W, ((w.alloc (.cells #[.int .u64 x, .int .u64 y] 62)).alloc (.cells (rowC hi lo 0) 193)).alloc (.cells (rowC hi lo 64) 193) = W := ⟨_, rfl⟩
   have hb : Below w.heap.size w W := by
    rw [← hW]
    exact (((Below.refl _ _).alloc (Nat.le_refl _) _).alloc (by simp) _).alloc (by simp; omega) _
   have hg2 : W.heap[w.heap.size + 1 + 1]? = some (.cells (rowC hi lo 64) 193 (0, 0)) := by
    rw [← hW]
    have := heap_alloc_last ((w.alloc (.cells #[.int .u64 x, .int .u64 y] 62)).alloc (.cells (rowC hi lo 0) 193)) (.cells (rowC hi lo 64) 193)
    simpa using this
   have hg1 : W.heap[w.heap.size + 1]? = some (.cells (rowC hi lo 0) 193 (0, 0)) := by
    rw [← hW]
    have := heap_alloc_last (w.alloc (.cells #[.int .u64 x, .int .u64 y] 62)) (.cells (rowC hi lo 0) 193)
    rw [Below.heap_alloc _ _ _ (by simp)]
    simpa using this
   have hld := loadG_run hg2 hs1
   have hst := storeG_run hg1 hs0 hs1 (rowC_one hi lo 64)
   have hg3 := setRow_at (C' := rowC hi lo 64) hg1
   have hb2 : Below w.heap.size w (W.setRow (w.heap.size + 1) (rowC hi lo 64)) := below_setRow hb (by omega) _
   generalize W.setRow (w.heap.size + 1) (rowC hi lo 64) = W2 at hst hg3 hb2
   have hlv := run_loadVar_row (P := Tryz.prog) W2 (w.heap.size + 1) _ 193 (rowC hi lo 64) _ _ hg3 Tryz.underlying193 rfl (by rw [hs1]; exact row_info)
   replace hb2 := hide hb2
   clear hb hg1 hg2 hg3 hs1 hs0
   go_wp2
   exact bodyPost_ret (v := .agg (rowC hi lo 64)) (by simp [results, Tryz.results169, asAddr, Result.andThen, hlv]) rfl ⟨rfl, hb2.out⟩
end Go.Proofs.YtbjokgnnklcbcaaGreatDoor
/-! The document's numbers: of bits. -/
namespace Go.Proofs.YtbjokgnnklcbcaaGreatDoor
open Go.RowKit
attribute [local go_sem ↓] load_eq store_eq
theorem rowC_lo (hi lo : Int) {j : Nat} (hj : j < 64) : (rowC hi lo 64)[j]? = some (.bool (bitI lo j)) := by
 rw [rowC_get _ _ _ _ (by omega)]
 simp [rowV, hj]
theorem rowC_hi (hi lo : Int) {j : Nat} (hj : j < 64) : (rowC hi lo 64)[64 + j]? = some (.bool (bitI hi j)) := by
 rw [rowC_get _ _ _ _ (by omega)]
 simp [rowV, show ¬ (64 + j < 64) by omega, show 64 + j < 128 by omega]
theorem bit_step {x : Int} (h0 : 0 ≤ x) (h1 : x < 18446744073709551616) (t : Nat) : x / 2 ^ t = x / 2 ^ (t + 1) * 2 + (if bitI x t then 1 else 0) ∧ 0 ≤ x / 2 ^ (t + 1) ∧ x / 2 ^ (t + 1) < 9223372036854775808 := by
 have h := div_succ x t
 obtain ⟨h2, h3⟩ := div_pow h0 h1 t
 unfold bitI
 generalize x / 2 ^ t = y at *
 rw [h]
 by_cases hb : y % 2 = 1
 ·simp only [hb, decide_true, if_true]; omega
 ·simp only [hb, decide_false, Bool.false_eq_true, if_false]; omega
set_option maxRecDepth 100000 in
set_option maxHeartbeats 400000 in
theorem num01_any (hi lo : Int) (w : World) (hh : u64 hi) (hl : u64 lo) : Calls Tryz.prog 170 #[.agg (rowC hi lo 64)] w fun e w' => e = .returned (.agg #[.int .u64 hi, .int .u64 lo]) ∧ Below w.heap.size w w' := by
 obtain ⟨hh1, hh2⟩ := hh
 obtain ⟨hl1, hl2⟩ := hl
 go_enter Tryz.func170, Tryz.ntmps170
 go_wp2
 go_loopw [4] (fun i wr => ∃ j : Nat, j ≤ 64 ∧ (∃ i' : Int, i = .int .i64 i' ∧ i' = (j : Int) - 1) ∧ wr = ((w.alloc (.cells (rowC hi lo 64) 193)).alloc (.cells #[.int .u64 0, .int .u64 0] 62)).alloc (.cells #[.int .u64 (hi / 2 ^ j), .int .u64 (lo / 2 ^ j)] 62)) (fun i _ => (intOf i + 1).toNat)
 case atStart => exact ⟨64, Nat.le_refl _, ⟨_, rfl, by decide⟩, by
  rw [show hi / 2 ^ 64 = 0 from Int.ediv_eq_zero_of_lt hh1 (by simpa using hh2), show lo / 2 ^ 64 = 0 from Int.ediv_eq_zero_of_lt hl1 (by simpa using hl2)]⟩
 case round =>
  obtain ⟨j, hj, ⟨i', rfl, hi'⟩, rfl⟩ := hrel
  cases j with
  | succ t =>
   obtain rfl : i' = (t : Int) := by omega
   clear hi'
   have htz : (0 : Int) ≤ (t : Int) := by omega
   have ht64 : (t : Int) < 64 := by omega
   obtain ⟨ex, hx1, hx2⟩ := bit_step hh1 hh2 t
   obtain ⟨ey, hy1, hy2⟩ := bit_step hl1 hl2 t
   have hc1 := rowC_lo hi lo (show t < 64 by omega)
   have hc2 := rowC_hi hi lo (show t < 64 by omega)
   generalize bitI lo t = b1 at *
   generalize bitI hi t = b2 at *
   generalize hi / 2 ^ (t + 1) = x at *
   generalize lo / 2 ^ (t + 1) = y at *
   replace ex := hide ex
   replace ey := hide ey
   cases b1 with
   | false =>
    cases b2 with
    | false =>
     go_wp2
     go_roundw
     case rel => exact ⟨t, by omega, ⟨_, rfl, rfl⟩, by rw [ex.out, ey.out]; simp⟩
     case measure => simp [intOf]
    | true =>
     go_wp2
     go_roundw
     case rel => exact ⟨t, by omega, ⟨_, rfl, rfl⟩, by rw [ex.out, ey.out]; simp⟩
     case measure => simp [intOf]
   | true =>
    cases b2 with
    | false =>
     go_wp2
     go_roundw
     case rel => exact ⟨t, by omega, ⟨_, rfl, rfl⟩, by rw [ex.out, ey.out]; simp⟩
     case measure => simp [intOf]
    | true =>
     go_wp2
     go_roundw
     case rel => exact ⟨t, by omega, ⟨_, rfl, rfl⟩, by rw [ex.out, ey.out]; simp⟩
     case measure => simp [intOf]
  | zero =>
   obtain rfl : i' = -1 := by omega
   simp only [Int.pow_zero, Int.ediv_one]
   generalize rowC hi lo 64 = C
   clear hi' hj
   go_wp2
   exact bodyPost_ret (v := .agg #[.int .u64 hi, .int .u64 lo]) (by simp [results, Tryz.results170, go_sem]) rfl ⟨rfl, (((Below.refl _ _).alloc (Nat.le_refl _) _).alloc (by simp) _).alloc (by simp; omega) _⟩
end Go.Proofs.YtbjokgnnklcbcaaGreatDoor
/-! The document's numbers: cut, fits. -/
namespace Go.Proofs.YtbjokgnnklcbcaaGreatDoor
open Go.RowKit
attribute [local go_sem ↓] load_eq store_eq
theorem bitI_nat (X j : Nat) : bitI (X : Int) j = X.testBit j := by
 unfold bitI
 rw [Nat.testBit_eq_decide_div_mod_eq, decide_eq_decide]
 have h : (X : Int) / 2 ^ j = ((X / 2 ^ j : Nat) : Int) := by simp
 rw [h]
 omega
theorem bitI_mod {x : Int} (h0 : 0 ≤ x) (n j : Nat) : bitI (x % 2 ^ n) j = (decide (j < n) && bitI x j) := by
 obtain ⟨X, rfl⟩ := Int.eq_ofNat_of_zero_le h0
 have h : ((X : Int) % 2 ^ n) = ((X % 2 ^ n : Nat) : Int) := by simp
 rw [h, bitI_nat, bitI_nat, Nat.testBit_mod_two_pow]
/-- The halves of what is left of a number of n bits. -/
def cutL (lo : Int) (n : Nat) : Int := lo % 2 ^ min n 64
def cutH (hi : Int) (n : Nat) : Int := hi % 2 ^ (n - 64)
def maskV (hi lo : Int) (n k j : Nat) : Value := .bool ((if j < 64 then bitI lo j else bitI hi (j - 64)) && (decide (k ≤ j) || decide (j < n)))
def maskC (hi lo : Int) (n k : Nat) : Array Value := ((List.range 128).map (maskV hi lo n k)).toArray
theorem maskC_get (hi lo : Int) (n k j : Nat) (hj : j < 128) : (maskC hi lo n k)[j]? = some (maskV hi lo n k j) := by simp [maskC, hj]
theorem maskC_size (hi lo : Int) (n k : Nat) : (maskC hi lo n k).size = 128 := by simp [maskC]
theorem row_ext {a b : Array Value} (ha : a.size = 128) (hb : b.size = 128) (h : ∀ j, j < 128 → a[j]? = b[j]?) : a = b := by
 apply Array.ext_getElem?
 intro j
 by_cases hj : j < 128
 ·exact h j hj
 ·rw [Array.getElem?_eq_none (by omega), Array.getElem?_eq_none (by omega)]
theorem maskC_zero (hi lo : Int) (n : Nat) : maskC hi lo n 0 = rowC hi lo 64 := row_ext (maskC_size _ _ _ _) (rowC_size _ _ _) fun j hj => by
 rw [maskC_get _ _ _ _ _ hj, rowC_get _ _ _ _ hj]
 by_cases h : j < 64 <;> simp [maskV, rowV, h]
 omega
theorem maskC_succ (hi lo : Int) (n : Nat) {k : Nat} (hk : k < 128) : (maskC hi lo n k).setIfInBounds k (.bool ((if k < 64 then bitI lo k else bitI hi (k - 64)) && decide (k < n))) = maskC hi lo n (k + 1) :=
 row_ext (by simp [maskC_size]) (maskC_size _ _ _ _) fun j hj => by
  rw [Array.getElem?_setIfInBounds, maskC_get _ _ _ _ _ hj, maskC_get _ _ _ _ _ hj]
  simp only [maskC_size]
  by_cases h : k = j
  ·subst h
   simp [maskV, hk, show ¬ (k + 1 ≤ k) by omega]
  ·rw [if_neg h]
   have : decide (k ≤ j) = decide (k + 1 ≤ j) := by rw [decide_eq_decide]; omega
   simp [maskV, this]
theorem maskC_end {hi lo : Int} (hh : 0 ≤ hi) (hl : 0 ≤ lo) (n : Nat) : maskC hi lo n 128 = rowC (cutH hi n) (cutL lo n) 64 := row_ext (maskC_size _ _ _ _) (rowC_size _ _ _) fun j hj => by
 rw [maskC_get _ _ _ _ _ hj, rowC_get _ _ _ _ hj]
 unfold maskV rowV cutH cutL
 rw [bitI_mod hl, bitI_mod hh]
 by_cases h : j < 64
 ·have h1 : decide (j < min n 64) = decide (j < n) := by rw [decide_eq_decide]; omega
  simp [h, h1, show ¬ (128 ≤ j) by omega, Bool.and_comm]
 ·have h1 : decide (j - 64 < n - 64) = decide (j < n) := by rw [decide_eq_decide]; omega
  simp [h, h1, show ¬ (128 ≤ j) by omega, show j < 64 + 64 by omega, Bool.and_comm]
theorem emod_le {a : Int} (h : 0 ≤ a) (n : Nat) : a % 2 ^ n ≤ a := by
 have h1 := Int.emod_add_mul_ediv a (2 ^ n)
 have h2 := Int.mul_nonneg (Int.le_of_lt (pow_pos2 n)) (Int.ediv_nonneg h (Int.le_of_lt (pow_pos2 n)))
 omega
theorem cutH_ok {hi : Int} (hh : u64 hi) (n : Nat) : u64 (cutH hi n) :=
 ⟨Int.emod_nonneg _ (Int.ne_of_gt (pow_pos2 _)), Int.lt_of_le_of_lt (emod_le hh.1 _) hh.2⟩
theorem cutL_ok {lo : Int} (hl : u64 lo) (n : Nat) : u64 (cutL lo n) :=
 ⟨Int.emod_nonneg _ (Int.ne_of_gt (pow_pos2 _)), Int.lt_of_le_of_lt (emod_le hl.1 _) hl.2⟩
set_option maxRecDepth 100000 in
set_option maxHeartbeats 400000 in
theorem cut01_of (hi lo z : Int) (n : Nat) (w : World) (hh : u64 hi) (hl : u64 lo) (hz : ∀ k : Nat, k < 128 → ((k : Int) < z ↔ k < n)) : Calls Tryz.prog 130 #[.agg #[.int .u64 hi, .int .u64 lo], .int .i64 z] w fun e w' => e = .returned (.agg #[.int .u64 (cutH hi n), .int .u64 (cutL lo n)]) ∧ Below w.heap.size w w' := by
 have hB := hide (fun W => bits01_any hi lo W hh hl)
 have hN := hide (fun W => num01_any (cutH hi n) (cutL lo n) W (cutH_ok hh n) (cutL_ok hl n))
 have hend := hide (maskC_end hh.1 hl.1 n)
 clear hh hl
 obtain ⟨wa, hwa, hsa, hba, hca, -⟩ := box1 w #[.int .u64 hi, .int .u64 lo] 62
 have y0 : wa.cell? ⟨w.heap.size, 0, none⟩ = some (.int .u64 hi) := hca 0
 have y1 : wa.cell? ⟨w.heap.size, 1, none⟩ = some (.int .u64 lo) := hca 1
 obtain ⟨wb, hwb, hsb, hbb, hcb, -⟩ := box1 wa #[.int .u64 0, .int .u64 0] 62
 have hg1 : wb.heap[w.heap.size + 1]? = some (.cells #[.int .u64 0, .int .u64 0] 62 (0, 0)) := by rw [← hwb, ← hsa]; exact heap_alloc_last wa _
 have y0' : wb.cell? ⟨w.heap.size, 0, none⟩ = some (.int .u64 hi) := (hbb.cell (p := ⟨w.heap.size, 0, none⟩) (by show w.heap.size < _; omega)).trans y0
 have y1' : wb.cell? ⟨w.heap.size, 1, none⟩ = some (.int .u64 lo) := (hbb.cell (p := ⟨w.heap.size, 1, none⟩) (by show w.heap.size < _; omega)).trans y1
 have hbw := hide (hba.trans (hbb.mono (by omega)))
 have hszb : wb.heap.size = w.heap.size + 2 := by omega
 replace hg1 := hide hg1
 clear hba hbb hca hcb
 go_enter Tryz.func130, Tryz.ntmps130
 go_wp2_with fail
 refine (hB.out _).mono ?_
 rintro e w1 ⟨rfl, hb1⟩
 have hst : (StoreG (.pointer (some ⟨w1.heap.size, 0, none⟩)) (.agg (rowC hi lo 64))).run Tryz.prog (w1.alloc (.cells Tryz.zeroCells193 193)) = .ok () (w1.alloc (.cells (maskC hi lo n 0) 193)) := by
  rw [storeG_run (heap_alloc_last w1 _) (by rfl) (rowC_size _ _ _) (rowC_one _ _ _), World.setRow_alloc_new, maskC_zero]
 go_wp2
 have hB1 := hide (hbw.out.trans (hb1.mono (by omega)))
 have hg1' : w1.heap[w.heap.size + 1]? = some (.cells #[.int .u64 0, .int .u64 0] 62 (0, 0)) := (hb1.block _ (by omega)).trans hg1.out
 have hzz : wb.heap.size ≤ w1.heap.size := hb1.size
 have hsz1 : w.heap.size + 1 < w1.heap.size := by omega
 replace hg1' := hide hg1'
 clear hst hb1 hB hg1 hsb hsa hwa hwb y0 y1 y0' y1' hbw
 go_loopw [6] (fun i wr => ∃ k : Nat, k ≤ 128 ∧ i = .int .i64 k ∧ wr = w1.alloc (.cells (maskC hi lo n k) 193)) (fun i _ => 128 - (intOf i).toNat)
 case atStart => exact ⟨0, Nat.zero_le _, rfl, rfl⟩
 case round =>
  obtain ⟨k, hk, rfl, rfl⟩ := hrel
  have hs1 := maskC_size hi lo n k
  by_cases hlt : k < 128
  ·have hltz : (k : Int) < 128 := by omega
   have hsucc := maskC_succ hi lo n hlt
   have hc : (maskC hi lo n k)[k]? = some (.bool (if k < 64 then bitI lo k else bitI hi (k - 64))) := by
    rw [maskC_get _ _ _ _ _ hlt]; simp [maskV]
   generalize (if k < 64 then bitI lo k else bitI hi (k - 64)) = b at hsucc hc
   clear hs1
   cases b with
   | false =>
    rw [Bool.false_and] at hsucc
    replace hsucc := hide hsucc
    go_wp2
    go_roundw
    case rel => exact ⟨k + 1, by omega, by go_num, by rw [hsucc.out]⟩
    case measure => simp [intOf]; omega
   | true =>
    rw [Bool.true_and] at hsucc
    by_cases hkn : k < n
    ·have hknz : (k : Int) < z := (hz k hlt).2 hkn
     rw [decide_eq_true hkn] at hsucc
     replace hsucc := hide hsucc
     go_wp2
     go_roundw
     case rel => exact ⟨k + 1, by omega, by go_num, by rw [hsucc.out]⟩
     case measure => simp [intOf]; omega
    ·have hknz : ¬ (k : Int) < z := fun g => hkn ((hz k hlt).1 g)
     rw [decide_eq_false hkn] at hsucc
     replace hsucc := hide hsucc
     go_wp2
     go_roundw
     case rel => exact ⟨k + 1, by omega, by go_num, by rw [hsucc.out]⟩
     case measure => simp [intOf]; omega
  ·obtain rfl : k = 128 := by omega
   rw [hend.out]
   rw [hend.out] at hs1
   have hlast := heap_alloc_last w1 (.cells (rowC (cutH hi n) (cutL lo n) 64) 193)
   have hbl : Below w1.heap.size w1 (w1.alloc (.cells (rowC (cutH hi n) (cutL lo n) 64) 193)) := (Below.refl _ _).alloc (Nat.le_refl _) _
   obtain ⟨W, hW⟩ : ∃ W, w1.alloc (.cells (rowC (cutH hi n) (cutL lo n) 64) 193) = W := ⟨_, rfl⟩
   rw [hW] at hlast hbl
   have hld := loadG_run hlast hs1
   have hzW : w1.heap.size ≤ W.heap.size := hbl.size
   have hBW := hide (hB1.out.trans (hbl.mono (by omega)))
   have hgW := hide ((hbl.block _ (by omega)).trans hg1'.out)
   clear hs1 hlast hbl
   go_wp2_with fail
   refine (hN.out _).mono ?_
   rintro e w2 ⟨rfl, hb2⟩
   have hg2 : w2.heap[w.heap.size + 1]? = some (.cells #[.int .u64 0, .int .u64 0] 62 (0, 0)) := (hb2.block _ (by omega)).trans hgW.out
   have hB2 := hide (hBW.out.trans (hb2.mono (by omega)))
   have k0 : w2.cell? ⟨w.heap.size + 1, 0, none⟩ = some (.int .u64 0) := by simp [World.cell?, hg2]
   have k1 : w2.cell? ⟨w.heap.size + 1, 1, none⟩ = some (.int .u64 0) := by simp [World.cell?, hg2]
   have f0 : w2.frozen? ⟨w.heap.size + 1, 0, none⟩ = false := by simp [World.frozen?, hg2]
   have f1 : w2.frozen? ⟨w.heap.size + 1, 1, none⟩ = false := by simp [World.frozen?, hg2]
   clear hg2 hld
   go_wp2
   exact bodyPost_ret (v := .agg #[.int .u64 (cutH hi n), .int .u64 (cutL lo n)]) (by simp [results, Tryz.results130, go_sem, k0, k1]) rfl ⟨rfl, (hB2.out.setCell (by show w.heap.size ≤ w.heap.size + 1; omega) _).setCell (by show w.heap.size ≤ w.heap.size + 1; omega) _⟩
end Go.Proofs.YtbjokgnnklcbcaaGreatDoor
/-! The document's numbers: fits. -/
namespace Go.Proofs.YtbjokgnnklcbcaaGreatDoor
open Go.RowKit
theorem cut_and (l : Lt) (n : Nat) (hl : okLt l) (h2 : n ≤ 128) : cutH l.2.1 n = andI l.2.1 (maskH n) ∧ cutL l.2.2 n = andI l.2.2 (maskL n) := by
 obtain ⟨-, ⟨a0, a1⟩, b0, b1⟩ := hl
 unfold cutH cutL maskH maskL
 by_cases h : n ≤ 64
 ·rw [if_pos h, if_pos h, and_mask _ n b0 b1 h]
  have e0 : andI l.2.1 0 = 0 := by have := and_mask l.2.1 0 a0 a1 (by omega); simpa using this
  rw [e0, show n - 64 = 0 by omega, show min n 64 = n by omega]
  simp
 ·rw [if_neg h, if_neg h, and_mask _ (n - 64) a0 a1 (by omega)]
  have e1 : andI l.2.2 18446744073709551615 = l.2.2 := by
   have := and_mask l.2.2 64 b0 b1 (by omega)
   rw [Int.emod_eq_of_lt b0 (by simpa using b1)] at this
   simpa using this
  rw [e1, show min n 64 = 64 by omega]
  exact ⟨rfl, Int.emod_eq_of_lt b0 (by simpa using b1)⟩
theorem fits01_eq (l : Lt) (n : Nat) (hl : okLt l) (h1 : 1 ≤ n) (h2 : n ≤ 128) : (cutH l.2.1 n == l.2.1 && cutL l.2.2 n == l.2.2) = fitsB (n : Int) l := by
 rw [← fits_eq l n hl h1 h2, (cut_and l n hl h2).1, (cut_and l n hl h2).2]
set_option maxRecDepth 100000 in
set_option maxHeartbeats 400000 in
theorem fits01_of (hi lo z a b : Int) (w : World) (hC : ∀ W, Calls Tryz.prog 130 #[.agg #[.int .u64 hi, .int .u64 lo], .int .i64 z] W fun e w' => e = .returned (.agg #[.int .u64 a, .int .u64 b]) ∧ Below W.heap.size W w') : Calls Tryz.prog 100 #[.agg #[.int .u64 hi, .int .u64 lo], .int .i64 z] w fun e w' => e = .returned (.bool (a == hi && b == lo)) ∧ Below w.heap.size w w' := by
 obtain ⟨wa, hwa, hsa, hba, hca, -⟩ := box1 w #[.int .u64 hi, .int .u64 lo] 62
 have y0 : wa.cell? ⟨w.heap.size, 0, none⟩ = some (.int .u64 hi) := hca 0
 have y1 : wa.cell? ⟨w.heap.size, 1, none⟩ = some (.int .u64 lo) := hca 1
 have hX : ∀ d os, Hid (Calls Tryz.prog 130 #[.agg #[.int .u64 hi, .int .u64 lo], .int .i64 z] (Go.Sort.grow (redrawn wa d) os) _) := fun d os => hide (hC _)
 have hg := gcell' (show Below wa.heap.size wa wa from Below.refl _ _) (Nat.le_refl _)
 have hlt : w.heap.size < wa.heap.size := by omega
 replace hba := hide hba
 clear hca hC hsa
 by_cases e1 : a = hi
 ·subst e1
  by_cases e2 : b = lo
  ·subst e2
   go_enter Tryz.func100, Tryz.ntmps100
   go_wp2_with fail
   refine wp_region_quiet_below (by kernel_rfl) (by kernel_rfl) ?_
   repeat (any_goals (first | go_big_quiet_step ((go_at_call 130; with_reducible exact Calls.regrown_of (hX _ _).out)) | quiet_step ((go_at_call 130; with_reducible exact Calls.regrown_of (hX _ _).out))))
   refine wpQuiet_nil ?_
   intro w1 hw1
   replace hw1 := below_of_regrown hw1
   go_wp2
   go_ret
   exact ⟨ret_b (by simp), hba.out.trans (hw1.mono (Nat.le_of_lt hlt))⟩
  ·have e2' : (b == lo) = false := beq_eq_false_iff_ne.2 e2
   go_enter Tryz.func100, Tryz.ntmps100
   go_wp2_with fail
   refine wp_region_quiet_below (by kernel_rfl) (by kernel_rfl) ?_
   repeat (any_goals (first | go_big_quiet_step ((go_at_call 130; with_reducible exact Calls.regrown_of (hX _ _).out)) | quiet_step ((go_at_call 130; with_reducible exact Calls.regrown_of (hX _ _).out))))
   refine wpQuiet_nil ?_
   intro w1 hw1
   replace hw1 := below_of_regrown hw1
   go_wp2
   go_ret
   exact ⟨ret_b (by simp [e2']), hba.out.trans (hw1.mono (Nat.le_of_lt hlt))⟩
 ·have e1' : (a == hi) = false := beq_eq_false_iff_ne.2 e1
  go_enter Tryz.func100, Tryz.ntmps100
  go_wp2_with fail
  refine wp_region_quiet_below (by kernel_rfl) (by kernel_rfl) ?_
  repeat (any_goals (first | go_big_quiet_step ((go_at_call 130; with_reducible exact Calls.regrown_of (hX _ _).out)) | quiet_step ((go_at_call 130; with_reducible exact Calls.regrown_of (hX _ _).out))))
  refine wpQuiet_nil ?_
  intro w1 hw1
  replace hw1 := below_of_regrown hw1
  go_wp2
  go_ret
  exact ⟨ret_b (by simp [e1']), hba.out.trans (hw1.mono (Nat.le_of_lt hlt))⟩
end Go.Proofs.YtbjokgnnklcbcaaGreatDoor
/-! Layer 1: Fits at any width. -/
namespace Go.Proofs.YtbjokgnnklcbcaaGreatDoor
open Go.RowKit
def clN (z : Int) : Nat := if z < 1 then 0 else (min z 128).toNat
theorem clN_le (z : Int) : clN z ≤ 128 := by unfold clN; split <;> omega
theorem clN_lt (z : Int) (k : Nat) (hk : k < 128) : (k : Int) < z ↔ k < clN z := by unfold clN; split <;> omega
theorem u64_lt {hi lo : Int} (h : u64 hi ∧ u64 lo) : 0 ≤ numV (0, hi, lo) ∧ numV (0, hi, lo) < 2 ^ 128 := by
 obtain ⟨⟨a0, a1⟩, b0, b1⟩ := h
 unfold numV
 simp only
 have : (2 : Int) ^ 128 = 18446744073709551616 * 18446744073709551616 := by decide
 omega
theorem fitN_lo {z hi lo : Int} (h : u64 hi ∧ u64 lo) (hz : z < 1) : fitN z hi lo = (decide (hi = 0) && decide (lo = 0)) := by
 obtain ⟨⟨a0, a1⟩, b0, b1⟩ := h
 unfold fitN fitsB numV
 rw [show z.toNat = 0 by omega]
 rw [Bool.eq_iff_iff]
 simp only [Bool.and_eq_true, decide_eq_true_eq]
 omega
theorem fitN_hi {z hi lo : Int} (h : u64 hi ∧ u64 lo) (hz : 128 ≤ z) : fitN z hi lo = true := by
 unfold fitN fitsB
 have h1 := (u64_lt h).2
 have h2 : (2 : Int) ^ 128 ≤ 2 ^ z.toNat := by
  have := Nat.pow_le_pow_right (n := 2) (by omega) (show 128 ≤ z.toNat by omega)
  have h3 := Int.ofNat_le.2 this
  rw [Int.natCast_pow, Int.natCast_pow] at h3
  exact h3
 rw [decide_eq_true_eq]; omega
set_option maxHeartbeats 1000000 in
theorem mask_zero (z : Int) (w : World) (hz : z < 1) : Calls Tryz.prog 159 #[.int .i64 z] w fun e w' => e = .returned (.agg #[.int .u64 0, .int .u64 0]) ∧ Below w.heap.size w w' := by
 obtain ⟨wa, hwa, hsa, hba, hca, hfa⟩ := box1 w #[.int .u64 0, .int .u64 0] 62
 obtain ⟨wb, hwb, hsb, hbb, hcb, -⟩ := box1 wa #[.int .u64 18446744073709551615, .int .u64 18446744073709551615] 62
 have hw := hba.trans (hbb.mono (by omega))
 have x0 : wb.cell? ⟨w.heap.size, 0, none⟩ = some (.int .u64 0) := (hbb.cell (p := ⟨w.heap.size, 0, none⟩) (by show w.heap.size < _; omega)).trans (hca 0)
 have x1 : wb.cell? ⟨w.heap.size, 1, none⟩ = some (.int .u64 0) := (hbb.cell (p := ⟨w.heap.size, 1, none⟩) (by show w.heap.size < _; omega)).trans (hca 1)
 have f0 : ∀ i, wb.frozen? ⟨w.heap.size, i, none⟩ = false := fun i => (hbb.frozen (p := ⟨w.heap.size, i, none⟩) (by show w.heap.size < _; omega)).trans (hfa i)
 simp only [hsa] at hcb
 have y0 : wb.cell? ⟨w.heap.size + 1, 0, none⟩ = some (.int .u64 18446744073709551615) := hcb 0
 have y1 : wb.cell? ⟨w.heap.size + 1, 1, none⟩ = some (.int .u64 18446744073709551615) := hcb 1
 have hzz : w.heap.size < wb.heap.size := by omega
 replace hw := hide hw
 replace hsb := hide hsb
 clear hca hcb hba hbb hfa
 go_enter Tryz.func159, Tryz.ntmps159
 go_wp2
 refine bodyPost_ret (v := .agg #[.int .u64 0, .int .u64 0]) (by simp [results, Tryz.results159, go_sem, hzz, x0, x1]) rfl ⟨rfl, ?_⟩
 exact ((hw.out).setCell (by simp) _).setCell (by simp) _
theorem mask_all (z : Int) (w : World) : Calls Tryz.prog 159 #[.int .i64 z] w fun e w' => e = .returned (.agg #[.int .u64 (maskH (clN z)), .int .u64 (maskL (clN z))]) ∧ Below w.heap.size w w' := by
 by_cases hz : z < 1
 ·have : clN z = 0 := by simp [clN, hz]
  rw [this]
  exact mask_zero z w hz
 ·refine mask_of z (clN z) w ?_ (clN_le z) ?_ hz
  ·unfold clN; rw [if_neg hz]; omega
  ·unfold clN; rw [if_neg hz]; omega
theorem fits_all (hi lo z : Int) (W : World) (h : u64 hi ∧ u64 lo) : Calls Tryz.prog 92 #[.agg #[.int .u64 hi, .int .u64 lo], .int .i64 z] W fun e w' => e = .returned (.bool (fitN z hi lo)) ∧ Below W.heap.size W w' := by
 have hF := fits_of hi lo z _ _ W fun W => cut_of hi lo z _ _ W fun W => mask_all z W
 have e : (andI hi (maskH (clN z)) == hi && andI lo (maskL (clN z)) == lo) = fitN z hi lo := by
  by_cases hz : z < 1
  ·have hc : clN z = 0 := by simp [clN, hz]
   rw [hc, fitN_lo h hz]
   have e1 : ∀ x : Int, u64 x → andI x 0 = 0 := fun x hx => by have := and_mask x 0 hx.1 hx.2 (by omega); simpa using this
   simp only [maskH, maskL, Nat.zero_le, if_true, Int.pow_zero]
   rw [show (1 : Int) - 1 = 0 from rfl, e1 hi h.1, e1 lo h.2, Bool.eq_iff_iff]
   simp only [Bool.and_eq_true, beq_iff_eq, decide_eq_true_eq]
   constructor <;> rintro ⟨a, b⟩ <;> exact ⟨a.symm, b.symm⟩
  ·have h0 : okLt (0, hi, lo) := ⟨by simp [i64], h.1, h.2⟩
   have h1 : 1 ≤ clN z := by unfold clN; rw [if_neg hz]; omega
   rw [fits_eq (0, hi, lo) (clN z) h0 h1 (clN_le z)]
   by_cases hz2 : z < 128
   ·have : (clN z : Int) = z := by unfold clN; rw [if_neg hz]; omega
    rw [this]; rfl
   ·have : (clN z : Int) = 128 := by unfold clN; rw [if_neg hz]; omega
    rw [fitN_hi h (by omega), this]
    exact fitN_hi (z := 128) h (by omega)
 rw [← e]; exact hF
theorem fits01_all (hi lo z : Int) (W : World) (h : u64 hi ∧ u64 lo) : Calls Tryz.prog 100 #[.agg #[.int .u64 hi, .int .u64 lo], .int .i64 z] W fun e w' => e = .returned (.bool (fitN z hi lo)) ∧ Below W.heap.size W w' := by
 have hF := fits01_of hi lo z _ _ W fun W => cut01_of hi lo z (clN z) W h.1 h.2 fun k hk => clN_lt z k hk
 have e : (cutH hi (clN z) == hi && cutL lo (clN z) == lo) = fitN z hi lo := by
  by_cases hz : z < 1
  ·have hc : clN z = 0 := by simp [clN, hz]
   rw [hc, fitN_lo h hz]
   unfold cutH cutL
   rw [show (0 : Nat) - 64 = 0 from rfl, show min 0 64 = 0 from rfl, Int.pow_zero, Int.emod_one, Int.emod_one, Bool.eq_iff_iff]
   simp only [Bool.and_eq_true, beq_iff_eq, decide_eq_true_eq]
   constructor <;> rintro ⟨a, b⟩ <;> exact ⟨a.symm, b.symm⟩
  ·have h0 : okLt (0, hi, lo) := ⟨by simp [i64], h.1, h.2⟩
   have h1 : 1 ≤ clN z := by unfold clN; rw [if_neg hz]; omega
   rw [fits01_eq (0, hi, lo) (clN z) h0 h1 (clN_le z)]
   by_cases hz2 : z < 128
   ·have : (clN z : Int) = z := by unfold clN; rw [if_neg hz]; omega
    rw [this]; rfl
   ·have : (clN z : Int) = 128 := by unfold clN; rw [if_neg hz]; omega
    rw [fitN_hi h (by omega), this]
    exact fitN_hi (z := 128) h (by omega)
 rw [← e]; exact hF
end Go.Proofs.YtbjokgnnklcbcaaGreatDoor

import Derived.Test.YtbjokgnnklcbcaaGreatDoorTpb06
import Derived.Lib.SliceRun
import Derived.Lib.Walk
import Derived.Shelf.Abstract
import Derived.Laws.EntriesVeiled
import Derived.Test.YtbjokgnnklcbcaaGreatDoorTpb04
import Derived.Laws.Shifts
import Derived.Laws.ShiftsVar
import Derived.StillTailTactics
import Derived.Test.YtbjokgnnklcbcaaGreatDoorTpb05
import Derived.Laws.Externs
set_option linter.all false
/-! Layer 1: numbers' masks. -/
namespace Go.Proofs.YtbjokgnnklcbcaaGreatDoor
open Go.RowKit
set_option maxHeartbeats 400000 in
theorem shift_any (k : Int) (w : World) (h0 : 0 ≤ k) (h1 : k ≤ 128) : Calls Tryz.prog 194 #[.int .i64 k] w fun e w' => e = .returned (.int .u64 k) ∧ w = w' := by
 have e1 : min k 128 = k := by omega
 have e2 : max 0 k = k := by omega
 go_enter Tryz.func194, Tryz.ntmps194
 go_wp2
 go_ret
 exact ⟨ret_int (by simp [e1, e2]), rfl⟩
theorem shr_lowN : ∀ k : Fin 64, (18446744073709551615 / 2 ^ k.val : Int) = 2 ^ (64 - k.val) - 1 ∧ bits .or .u64 (18446744073709551615 / 2 ^ k.val : Int) (IntKind.u64.wrap (18446744073709551615 * 2 ^ (64 - k.val))) = 18446744073709551615 := by decide +kernel
theorem shr_highN : ∀ k : Fin 64, (18446744073709551615 / 2 ^ k.val : Int) = 2 ^ (64 - k.val) - 1 := by decide +kernel
set_option maxHeartbeats 1000000 in
theorem shr_low (k : Nat) (w : World) (h1 : k < 64) : Calls Tryz.prog 186 #[.agg #[.int .u64 18446744073709551615, .int .u64 18446744073709551615], .int .i64 (k : Int)] w fun e w' => e = .returned (.agg #[.int .u64 ((2 : Int) ^ (64 - k) - 1), .int .u64 18446744073709551615]) ∧ Below w.heap.size w w' := by
 obtain ⟨q1, q2⟩ := shr_lowN ⟨k, h1⟩
 replace q1 := hide q1
 replace q2 := hide q2
 go_enter Tryz.func186, Tryz.ntmps186
 go_wp2_with (go_at_call 194; refine (shift_any _ _ (by omega) (by omega)).mono ?_; rintro e w' ⟨rfl, rfl⟩)
 refine bodyPost_ret (v := .agg #[.int .u64 (18446744073709551615 / 2 ^ k), .int .u64 (bits .or .u64 (18446744073709551615 / 2 ^ k : Int) (IntKind.u64.wrap (18446744073709551615 * 2 ^ (64 - k))))]) (by simp [results, Tryz.results186, go_sem]) rfl ⟨?_, ((Below.refl _ _).alloc (Nat.le_refl _) _).alloc (by simp) _⟩
 rw [q2.out, q1.out]
set_option maxHeartbeats 1000000 in
theorem shr_high (k : Nat) (w : World) (h1 : k < 64) : Calls Tryz.prog 186 #[.agg #[.int .u64 18446744073709551615, .int .u64 18446744073709551615], .int .i64 ((k : Int) + 64)] w fun e w' => e = .returned (.agg #[.int .u64 0, .int .u64 ((2 : Int) ^ (64 - k) - 1)]) ∧ Below w.heap.size w w' := by
 have q1 := hide (shr_highN ⟨k, h1⟩)
 go_enter Tryz.func186, Tryz.ntmps186
 go_wp2_with (go_at_call 194; refine (shift_any _ _ (by omega) (by omega)).mono ?_; rintro e w' ⟨rfl, rfl⟩)
 refine bodyPost_ret (v := .agg #[.int .u64 0, .int .u64 (18446744073709551615 / 2 ^ k)]) (by simp [results, Tryz.results186, go_sem]) rfl ⟨?_, ((Below.refl _ _).alloc (Nat.le_refl _) _).alloc (by simp) _⟩
 rw [q1.out]
/-- The halves of a number of so many ones. -/
def maskH (n : Nat) : Int := if n ≤ 64 then 0 else 2 ^ (n - 64) - 1
def maskL (n : Nat) : Int := if n ≤ 64 then 2 ^ n - 1 else 18446744073709551615
set_option maxHeartbeats 1000000 in
theorem mask_of (z : Int) (n : Nat) (w : World) (h1 : 1 ≤ n) (h2 : n ≤ 128) (e1 : min z 128 = n) (e2 : ¬ z < 1) : Calls Tryz.prog 159 #[.int .i64 z] w fun e w' => e = .returned (.agg #[.int .u64 (maskH n), .int .u64 (maskL n)]) ∧ Below w.heap.size w w' := by
 obtain ⟨wa, hwa, hsa, hba, hca, hfa⟩ := box1 w #[.int .u64 0, .int .u64 0] 62
 obtain ⟨wb, hwb, hsb, hbb, hcb, -⟩ := box1 wa #[.int .u64 18446744073709551615, .int .u64 18446744073709551615] 62
 have hw := hba.trans (hbb.mono (by omega))
 have x0 : wb.cell? ⟨w.heap.size, 0, none⟩ = some (.int .u64 0) := (hbb.cell (p := ⟨w.heap.size, 0, none⟩) (by show w.heap.size < _; omega)).trans (hca 0)
 have x1 : wb.cell? ⟨w.heap.size, 1, none⟩ = some (.int .u64 0) := (hbb.cell (p := ⟨w.heap.size, 1, none⟩) (by show w.heap.size < _; omega)).trans (hca 1)
 have f0 : ∀ i, wb.frozen? ⟨w.heap.size, i, none⟩ = false := fun i => (hbb.frozen (p := ⟨w.heap.size, i, none⟩) (by show w.heap.size < _; omega)).trans (hfa i)
 simp only [hsa] at hcb
 have y0 : wb.cell? ⟨w.heap.size + 1, 0, none⟩ = some (.int .u64 18446744073709551615) := hcb 0
 have y1 : wb.cell? ⟨w.heap.size + 1, 1, none⟩ = some (.int .u64 18446744073709551615) := hcb 1
 have hz : w.heap.size < wb.heap.size := by omega
 replace hw := hide hw
 replace hsb := hide hsb
 clear hca hcb hba hbb hfa
 by_cases h : n ≤ 64
 ·have hk := hide (shr_high (64 - n) wb (by omega))
  have ek : (128 : Int) - (n : Int) = ((64 - n : Nat) : Int) + 64 := by omega
  have hv := hide (show maskH n = 0 ∧ maskL n = 2 ^ (64 - (64 - n)) - 1 from by simp only [maskH, maskL, if_pos h]; rw [show 64 - (64 - n) = n by omega]; simp)
  go_enter Tryz.func159, Tryz.ntmps159
  go_wp2_with fail
  refine hk.out.mono ?_
  rintro e w1 ⟨rfl, hb⟩
  obtain ⟨hc, hf, hz1⟩ := bcell hb
  replace hb := hide hb
  go_wp2
  refine bodyPost_ret (v := .agg #[.int .u64 0, .int .u64 ((2 : Int) ^ (64 - (64 - n)) - 1)]) (by simp [results, Tryz.results159, go_sem, hc, hz, x0, x1]) rfl ⟨by rw [hv.out.1, hv.out.2], ?_⟩
  exact ((hw.out.trans (hb.out.mono (by omega))).setCell (by simp) _).setCell (by simp) _
 ·have hk := hide (shr_low (128 - n) wb (by omega))
  have ek : (128 : Int) - (n : Int) = ((128 - n : Nat) : Int) := by omega
  have hv := hide (show maskH n = 2 ^ (64 - (128 - n)) - 1 ∧ maskL n = 18446744073709551615 from by simp only [maskH, maskL, if_neg h]; rw [show 64 - (128 - n) = n - 64 by omega]; simp)
  go_enter Tryz.func159, Tryz.ntmps159
  go_wp2_with fail
  refine hk.out.mono ?_
  rintro e w1 ⟨rfl, hb⟩
  obtain ⟨hc, hf, hz1⟩ := bcell hb
  replace hb := hide hb
  go_wp2
  refine bodyPost_ret (v := .agg #[.int .u64 ((2 : Int) ^ (64 - (128 - n)) - 1), .int .u64 18446744073709551615]) (by simp [results, Tryz.results159, go_sem, hc, hz, x0, x1]) rfl ⟨by rw [hv.out.1, hv.out.2], ?_⟩
  exact ((hw.out.trans (hb.out.mono (by omega))).setCell (by simp) _).setCell (by simp) _
def andI (a b : Int) : Int := bits .and .u64 a b
set_option maxHeartbeats 400000 in
theorem and1_any (a b : Int) (w : World) : Calls Tryz.prog 185 #[.int .u64 a, .int .u64 b] w fun e w' => e = .returned (.int .u64 (andI a b)) ∧ w' = w := by
 go_enter Tryz.func185, Tryz.ntmps185
 go_wp2
 go_ret
 exact ⟨rfl, rfl⟩
theorem enters_and1 : ∀ args w, (callFunc 185 args).run Tryz.prog w = .ok (.enter 185 args) w := enters_of Tryz.func185 (by kernel_rfl) rfl
set_option maxRecDepth 100000 in
set_option maxHeartbeats 1000000 in
theorem both_any (a b c d : Int) (w : World) : Calls Tryz.prog 184 #[.agg #[.int .u64 a, .int .u64 b], .agg #[.int .u64 c, .int .u64 d], .func (.func 185) #[] #[]] w fun e w' => e = .returned (.agg #[.int .u64 (andI a c), .int .u64 (andI b d)]) ∧ Below w.heap.size w w' := by
 have eg := enters_and1
 go_enter Tryz.func184, Tryz.ntmps184
 go_wp2_with fail
 refine wp_region_still_tail 13 (by kernel_rfl) (by kernel_rfl) ?_
 simp only [List.take_succ_cons, List.take_zero, List.drop_succ_cons, List.drop_zero]
 change wpStill _ _ (World.drew _) _ _ _
 iterate 5 still_step
 still_call (and1_any _ _ _)
 iterate 5 still_step
 still_call (and1_any _ _ _)
 still_step
 refine wpStill_nil ?_
 change wpList _ _ _ _ _ (World.drew _)
 have hb3 : Below w.heap.size w (((w.alloc (.cells #[.int .u64 a, .int .u64 b] 62)).alloc (.cells #[.int .u64 c, .int .u64 d] 62)).alloc (.cells #[.int .u64 0, .int .u64 0] 62)).drew := ((((Below.refl _ _).alloc (Nat.le_refl _) _).alloc (by simp) _).alloc (by simp; omega) _).drew
 have n0 : (((w.alloc (.cells #[.int .u64 a, .int .u64 b] 62)).alloc (.cells #[.int .u64 c, .int .u64 d] 62)).alloc (.cells #[.int .u64 0, .int .u64 0] 62)).drew.heap[w.heap.size + 1 + 1]? = some (.cells #[.int .u64 0, .int .u64 0] 62) := by
  have := heap_alloc_new ((w.alloc (.cells #[.int .u64 a, .int .u64 b] 62)).alloc (.cells #[.int .u64 c, .int .u64 d] 62)) (.cells #[.int .u64 0, .int .u64 0] 62)
  rw [World.size_alloc, World.size_alloc] at this
  exact this
 generalize hwd : (((w.alloc (.cells #[.int .u64 a, .int .u64 b] 62)).alloc (.cells #[.int .u64 c, .int .u64 d] 62)).alloc (.cells #[.int .u64 0, .int .u64 0] 62)).drew = wd at hb3 n0
 clear hwd
 have m0 : wd.cell? ⟨w.heap.size + 1 + 1, 0, none⟩ = some (.int .u64 0) := by simp [World.cell?, n0]
 have m1 : wd.cell? ⟨w.heap.size + 1 + 1, 1, none⟩ = some (.int .u64 0) := by simp [World.cell?, n0]
 have m2 : wd.frozen? ⟨w.heap.size + 1 + 1, 0, none⟩ = false := by simp [World.frozen?, n0]
 have m3 : wd.frozen? ⟨w.heap.size + 1 + 1, 1, none⟩ = false := by simp [World.frozen?, n0]
 have m4 : w.heap.size + 1 + 1 < wd.heap.size := (Array.getElem?_eq_some_iff.1 n0).1
 replace hb3 := hide hb3
 replace n0 := hide n0
 go_wp2
 refine bodyPost_ret (v := .agg #[.int .u64 (andI a c), .int .u64 (andI b d)]) (by simp [results, Tryz.results184, go_sem, m0, m1, m4]) rfl ⟨rfl, (hb3.out.setCell (by simp; omega) _).setCell (by simp; omega) _⟩
set_option maxHeartbeats 1000000 in
theorem and_any (a b c d : Int) (w : World) : Calls Tryz.prog 158 #[.agg #[.int .u64 a, .int .u64 b], .agg #[.int .u64 c, .int .u64 d]] w fun e w' => e = .returned (.agg #[.int .u64 (andI a c), .int .u64 (andI b d)]) ∧ Below w.heap.size w w' := by
 obtain ⟨wa, hwa, hsa, hba, hca, -⟩ := box1 w #[.int .u64 a, .int .u64 b] 62
 obtain ⟨wb, hwb, hsb, hbb, hcb, -⟩ := box1 wa #[.int .u64 c, .int .u64 d] 62
 obtain ⟨wc, hwc, hsc, hbc, hcc, hfc⟩ := box1 wb #[.int .u64 0, .int .u64 0] 62
 have hw := hba.trans ((hbb.mono (by omega)).trans (hbc.mono (by omega)))
 have x0 : wc.cell? ⟨w.heap.size, 0, none⟩ = some (.int .u64 a) := (hbc.cell (p := ⟨w.heap.size, 0, none⟩) (by show w.heap.size < _; omega)).trans ((hbb.cell (p := ⟨w.heap.size, 0, none⟩) (by show w.heap.size < _; omega)).trans (hca 0))
 have x1 : wc.cell? ⟨w.heap.size, 1, none⟩ = some (.int .u64 b) := (hbc.cell (p := ⟨w.heap.size, 1, none⟩) (by show w.heap.size < _; omega)).trans ((hbb.cell (p := ⟨w.heap.size, 1, none⟩) (by show w.heap.size < _; omega)).trans (hca 1))
 simp only [hsa] at hcb
 have y0 : wc.cell? ⟨w.heap.size + 1, 0, none⟩ = some (.int .u64 c) := (hbc.cell (p := ⟨w.heap.size + 1, 0, none⟩) (by show w.heap.size + 1 < _; omega)).trans (hcb 0)
 have y1 : wc.cell? ⟨w.heap.size + 1, 1, none⟩ = some (.int .u64 d) := (hbc.cell (p := ⟨w.heap.size + 1, 1, none⟩) (by show w.heap.size + 1 < _; omega)).trans (hcb 1)
 simp only [hsb, hsa] at hcc hfc
 have z0 : wc.cell? ⟨w.heap.size + 1 + 1, 0, none⟩ = some (.int .u64 0) := hcc 0
 have z1 : wc.cell? ⟨w.heap.size + 1 + 1, 1, none⟩ = some (.int .u64 0) := hcc 1
 have hk3 : w.heap.size + 1 + 1 < wc.heap.size := by omega
 have hB := hide (both_any a b c d wc)
 replace hw := hide hw
 replace hsc := hide hsc
 clear hca hcb hcc hba hbb hbc
 go_enter Tryz.func158, Tryz.ntmps158
 go_wp2_with fail
 refine hB.out.mono ?_
 rintro e w1 ⟨rfl, hb⟩
 obtain ⟨hc, hf, hz1⟩ := bcell hb
 replace hb := hide hb
 have m0 : w1.cell? ⟨w.heap.size + 1 + 1, 0, none⟩ = some (.int .u64 0) := (hc _ _ hk3).trans z0
 have m1 : w1.cell? ⟨w.heap.size + 1 + 1, 1, none⟩ = some (.int .u64 0) := (hc _ _ hk3).trans z1
 have m2 : w1.frozen? ⟨w.heap.size + 1 + 1, 0, none⟩ = false := (hf _ _ hk3).trans (hfc 0)
 have m3 : w1.frozen? ⟨w.heap.size + 1 + 1, 1, none⟩ = false := (hf _ _ hk3).trans (hfc 1)
 have m4 : w.heap.size + 1 + 1 < w1.heap.size := by omega
 clear hc hf hfc
 go_wp2
 refine bodyPost_ret (v := .agg #[.int .u64 (andI a c), .int .u64 (andI b d)]) (by simp [results, Tryz.results158, go_sem, m0, m1, m4]) rfl ⟨rfl, ((hw.out.trans (hb.out.mono (by omega))).setCell (by simp; omega) _).setCell (by simp; omega) _⟩
set_option maxHeartbeats 1000000 in
theorem cut_of (a b z mh ml : Int) (w : World) (hMk : ∀ W, Calls Tryz.prog 159 #[.int .i64 z] W fun e w' => e = .returned (.agg #[.int .u64 mh, .int .u64 ml]) ∧ Below W.heap.size W w') : Calls Tryz.prog 114 #[.agg #[.int .u64 a, .int .u64 b], .int .i64 z] w fun e w' => e = .returned (.agg #[.int .u64 (andI a mh), .int .u64 (andI b ml)]) ∧ Below w.heap.size w w' := by
 obtain ⟨wa, hwa, hsa, hba, hca, -⟩ := box1 w #[.int .u64 a, .int .u64 b] 62
 obtain ⟨wc, hwc, hsc, hbc, hcc, hfc⟩ := box1 wa #[.int .u64 0, .int .u64 0] 62
 have hw := hba.trans (hbc.mono (by omega))
 have x0 : wc.cell? ⟨w.heap.size, 0, none⟩ = some (.int .u64 a) := (hbc.cell (p := ⟨w.heap.size, 0, none⟩) (by show w.heap.size < _; omega)).trans (hca 0)
 have x1 : wc.cell? ⟨w.heap.size, 1, none⟩ = some (.int .u64 b) := (hbc.cell (p := ⟨w.heap.size, 1, none⟩) (by show w.heap.size < _; omega)).trans (hca 1)
 simp only [hsa] at hcc hfc
 have z0 : wc.cell? ⟨w.heap.size + 1, 0, none⟩ = some (.int .u64 0) := hcc 0
 have z1 : wc.cell? ⟨w.heap.size + 1, 1, none⟩ = some (.int .u64 0) := hcc 1
 have hk2 : w.heap.size < wc.heap.size := by omega
 have hk3 : w.heap.size + 1 < wc.heap.size := by omega
 have hM := hide hMk
 have hA := hide (fun W => and_any a b mh ml W)
 replace hw := hide hw
 replace hsc := hide hsc
 clear hca hcc hba hbc hMk
 go_enter Tryz.func114, Tryz.ntmps114
 go_wp2_with fail
 go_region_with (first | (go_at_call 159; refine (hM.out _).mono ?_; rintro e w1 ⟨rfl, hb⟩; have u0 : w1.cell? ⟨w.heap.size, 0, none⟩ = some (.int .u64 a) := (hb.cell (p := ⟨w.heap.size, 0, none⟩) hk2).trans x0; have u1 : w1.cell? ⟨w.heap.size, 1, none⟩ = some (.int .u64 b) := (hb.cell (p := ⟨w.heap.size, 1, none⟩) hk2).trans x1; have v0 : w1.cell? ⟨w.heap.size + 1, 0, none⟩ = some (.int .u64 0) := (hb.cell (p := ⟨w.heap.size + 1, 0, none⟩) hk3).trans z0; have v1 : w1.cell? ⟨w.heap.size + 1, 1, none⟩ = some (.int .u64 0) := (hb.cell (p := ⟨w.heap.size + 1, 1, none⟩) hk3).trans z1; have t0 : w1.frozen? ⟨w.heap.size + 1, 0, none⟩ = false := (hb.frozen (p := ⟨w.heap.size + 1, 0, none⟩) hk3).trans (hfc 0); have t1 : w1.frozen? ⟨w.heap.size + 1, 1, none⟩ = false := (hb.frozen (p := ⟨w.heap.size + 1, 1, none⟩) hk3).trans (hfc 1); have k1 : w.heap.size + 1 < w1.heap.size := Nat.lt_of_lt_of_le hk3 hb.size; replace hb := hide hb) | (go_at_call 158; refine (hA.out _).mono ?_; rintro e w2 ⟨rfl, hb2⟩; have v2 : w2.cell? ⟨w.heap.size + 1, 0, none⟩ = some (.int .u64 0) := (hb2.cell (p := ⟨w.heap.size + 1, 0, none⟩) k1).trans v0; have v3 : w2.cell? ⟨w.heap.size + 1, 1, none⟩ = some (.int .u64 0) := (hb2.cell (p := ⟨w.heap.size + 1, 1, none⟩) k1).trans v1; have t2 : w2.frozen? ⟨w.heap.size + 1, 0, none⟩ = false := (hb2.frozen (p := ⟨w.heap.size + 1, 0, none⟩) k1).trans t0; have t3 : w2.frozen? ⟨w.heap.size + 1, 1, none⟩ = false := (hb2.frozen (p := ⟨w.heap.size + 1, 1, none⟩) k1).trans t1; have k2 : w.heap.size + 1 < w2.heap.size := Nat.lt_of_lt_of_le k1 hb2.size; replace hb2 := hide hb2))
 all_goals
  go_wp2
  refine bodyPost_ret (v := .agg #[.int .u64 (andI a mh), .int .u64 (andI b ml)]) (by simp [results, Tryz.results114, go_sem, v2, v3, k2]) rfl ⟨rfl, ((((hw.out.drew).trans (hb.out.mono (by show w.heap.size ≤ wc.heap.size; omega))).trans (hb2.out.mono (by omega))).setCell (by simp) _).setCell (by simp) _⟩
end Go.Proofs.YtbjokgnnklcbcaaGreatDoor
/-! Layer 1: Fits; layer 4: isLit. -/
namespace Go.Proofs.YtbjokgnnklcbcaaGreatDoor
open Go.RowKit
set_option maxHeartbeats 1000000 in
theorem fits_of (a b z mh ml : Int) (w : World) (hCt : ∀ W, Calls Tryz.prog 114 #[.agg #[.int .u64 a, .int .u64 b], .int .i64 z] W fun e w' => e = .returned (.agg #[.int .u64 mh, .int .u64 ml]) ∧ Below W.heap.size W w') : Calls Tryz.prog 92 #[.agg #[.int .u64 a, .int .u64 b], .int .i64 z] w fun e w' => e = .returned (.bool (mh == a && ml == b)) ∧ Below w.heap.size w w' := by
 obtain ⟨wa, hwa, hsa, hba, hca, -⟩ := box1 w #[.int .u64 a, .int .u64 b] 62
 have x0 : wa.cell? ⟨w.heap.size, 0, none⟩ = some (.int .u64 a) := hca 0
 have x1 : wa.cell? ⟨w.heap.size, 1, none⟩ = some (.int .u64 b) := hca 1
 have hk2 : w.heap.size < wa.heap.size := by omega
 have hM : ∀ d os, Hid (Calls Tryz.prog 114 #[.agg #[.int .u64 a, .int .u64 b], .int .i64 z] (Go.Sort.grow (redrawn wa d) os) _) := fun d os => hide (hCt _)
 have hg := gcell' (show Below wa.heap.size wa wa from Below.refl _ _) (Nat.le_refl _)
 replace hba := hide hba
 replace hsa := hide hsa
 clear hca
 have hfin := hide (fun w1 (h : Below wa.heap.size wa w1) => hba.out.trans (h.mono (show w.heap.size ≤ wa.heap.size by omega)))
 clear hCt
 by_cases e1 : mh = a
 ·subst e1
  by_cases e2 : ml = b
  ·subst e2
   go_enter Tryz.func92, Tryz.ntmps92
   go_wp2_with fail
   refine wp_region_quiet_below (by kernel_rfl) (by kernel_rfl) ?_
   repeat (any_goals (first | go_big_quiet_step (first | (go_at_call 114; with_reducible exact Calls.regrown_of (hM _ _).out) | fail) | quiet_step (first | (go_at_call 114; with_reducible exact Calls.regrown_of (hM _ _).out) | fail)))
   refine wpQuiet_nil ?_
   intro w1 hw1
   replace hw1 := below_of_regrown hw1
   go_wp2
   go_ret
   exact ⟨ret_b (by simp), hfin.out _ hw1⟩
  ·have hv := hide (beq_eq_false_iff_ne.2 e2)
   go_enter Tryz.func92, Tryz.ntmps92
   go_wp2_with fail
   refine wp_region_quiet_below (by kernel_rfl) (by kernel_rfl) ?_
   repeat (any_goals (first | go_big_quiet_step (first | (go_at_call 114; with_reducible exact Calls.regrown_of (hM _ _).out) | fail) | quiet_step (first | (go_at_call 114; with_reducible exact Calls.regrown_of (hM _ _).out) | fail)))
   refine wpQuiet_nil ?_
   intro w1 hw1
   replace hw1 := below_of_regrown hw1
   go_wp2
   go_ret
   exact ⟨ret_b (by rw [hv.out]; simp), hfin.out _ hw1⟩
 ·have hv := hide (beq_eq_false_iff_ne.2 e1)
  go_enter Tryz.func92, Tryz.ntmps92
  go_wp2_with fail
  refine wp_region_quiet_below (by kernel_rfl) (by kernel_rfl) ?_
  repeat (any_goals (first | go_big_quiet_step (first | (go_at_call 114; with_reducible exact Calls.regrown_of (hM _ _).out) | fail) | quiet_step (first | (go_at_call 114; with_reducible exact Calls.regrown_of (hM _ _).out) | fail)))
  refine wpQuiet_nil ?_
  intro w1 hw1
  replace hw1 := below_of_regrown hw1
  go_wp2
  go_ret
  exact ⟨ret_b (by rw [hv.out]; simp), hfin.out _ hw1⟩
theorem and_mask (x : Int) (m : Nat) (h0 : 0 ≤ x) (h1 : x < 18446744073709551616) (hm : m ≤ 64) : andI x (2 ^ m - 1) = x % 2 ^ m := by
 obtain ⟨X, rfl⟩ := Int.eq_ofNat_of_zero_le h0
 have hp : 0 < 2 ^ m := Nat.two_pow_pos m
 have hle : 2 ^ m ≤ 2 ^ 64 := Nat.pow_le_pow_right (by omega) hm
 have e : ((2 : Int) ^ m - 1) = ((2 ^ m - 1 : Nat) : Int) := by rw [Int.ofNat_sub hp]; simp
 rw [andI, e, u64_and_nat X (2 ^ m - 1) (by omega) (by omega), Nat.and_two_pow_sub_one_eq_mod]
 simp
theorem fits_eq (l : Lt) (n : Nat) (hl : okLt l) (h1 : 1 ≤ n) (h2 : n ≤ 128) : (andI l.2.1 (maskH n) == l.2.1 && andI l.2.2 (maskL n) == l.2.2) = fitsB (n : Int) l := by
 obtain ⟨-, ⟨a0, a1⟩, b0, b1⟩ := hl
 unfold fitsB numV maskH maskL
 rw [Int.toNat_natCast]
 rw [Bool.eq_iff_iff]
 simp only [Bool.and_eq_true, beq_iff_eq, decide_eq_true_eq]
 by_cases h : n ≤ 64
 ·rw [if_pos h, if_pos h, and_mask _ n b0 b1 h]
  have e0 : andI l.2.1 0 = 0 := by have := and_mask l.2.1 0 a0 a1 (by omega); simpa using this
  rw [e0]
  have hp : (0 : Int) < 2 ^ n := Int.pow_pos (by omega)
  have hle : (2 : Int) ^ n ≤ 18446744073709551616 := by
   have h3 : (2 : Nat) ^ n ≤ 18446744073709551616 := Nat.le_trans (Nat.pow_le_pow_right (by omega) h) (by decide)
   have h4 := Int.ofNat_le.2 h3
   rw [Int.natCast_pow] at h4
   exact h4
  constructor
  ·rintro ⟨h3, h4⟩
   have := Int.emod_lt_of_pos l.2.2 hp
   omega
  ·intro h3
   have : l.2.1 = 0 := by omega
   exact ⟨this.symm, Int.emod_eq_of_lt b0 (by omega)⟩
 ·rw [if_neg h, if_neg h, and_mask _ (n - 64) a0 a1 (by omega)]
  have e1 : andI l.2.2 18446744073709551615 = l.2.2 := by
   have := and_mask l.2.2 64 b0 b1 (by omega)
   rw [Int.emod_eq_of_lt b0 (by simpa using b1)] at this
   simpa using this
  rw [e1]
  have hp : (0 : Int) < 2 ^ (n - 64) := Int.pow_pos (by omega)
  have hs : (2 : Int) ^ n = 2 ^ (n - 64) * 18446744073709551616 := by
   have : (2 : Int) ^ (n - 64 + 64) = 2 ^ (n - 64) * 2 ^ 64 := Int.pow_add 2 (n - 64) 64
   rw [show n - 64 + 64 = n by omega] at this
   simpa using this
  rw [hs]
  generalize (2 : Int) ^ (n - 64) = q at *
  constructor
  ·rintro ⟨h3, -⟩
   have := Int.emod_lt_of_pos l.2.1 hp
   have h5 : l.2.1 + 1 ≤ q := by omega
   have := Int.mul_le_mul_of_nonneg_right h5 (show (0 : Int) ≤ 18446744073709551616 by omega)
   omega
  ·intro h3
   refine ⟨Int.emod_eq_of_lt a0 ?_, rfl⟩
   rcases Int.lt_or_le l.2.1 q with h5 | h5
   ·exact h5
   ·have := Int.mul_le_mul_of_nonneg_right h5 (show (0 : Int) ≤ 18446744073709551616 by omega)
    omega
end Go.Proofs.YtbjokgnnklcbcaaGreatDoor
/-! Layer 1: times. -/
namespace Go.Proofs.YtbjokgnnklcbcaaGreatDoor
open Go.RowKit
theorem add64_run (x y c : Nat) (hc : c ≤ 1) (w : World) : (callFunc 154 #[.int .u64 x, .int .u64 y, .int .u64 c]).run Tryz.prog w =
   .ok (.value (.tuple #[.int .u64 (((x + y + c) % 18446744073709551616 : Nat) : Int), .int .u64 (((x + y + c) / 18446744073709551616 : Nat) : Int)])) w := by
 rw [run_callFunc_extern Tryz.func154 (by kernel_rfl) (by kernel_rfl) (by kernel_rfl) (e := add64Entry) (by kernel_rfl), run_add64 x y c (by omega) (by omega) (by omega) (by omega)]
 simp only [Result.andThen]
 congr 5 <;> omega
/-- A number's next one: times a base, and a digit. -/
def nextV (H L b d : Nat) : Nat := (H * 18446744073709551616 + L) * b + d
set_option maxRecDepth 100000 in
set_option maxHeartbeats 4000000 in
theorem times_any (H L b d : Nat) (hH : H < 18446744073709551616) (hL : L < 18446744073709551616) (hb : b ≤ 16) (hd : d < 18446744073709551616) (w : World) :
  Calls Tryz.prog 112 #[.agg #[.int .u64 H, .int .u64 L], .int .u64 b, .int .u64 d] w fun e w' => e = .returned (.tuple #[.agg #[.int .u64 ((nextV H L b d / 18446744073709551616 % 18446744073709551616 : Nat) : Int), .int .u64 ((nextV H L b d % 18446744073709551616 : Nat) : Int)], .bool (decide (nextV H L b d < 340282366920938463463374607431768211456))]) ∧ Below w.heap.size w w' := by
 obtain ⟨wa, hwa, hsa, hba, hca, -⟩ := box1 w #[.int .u64 (H : Int), .int .u64 (L : Int)] 62
 obtain ⟨wb, hwb, hsb, hbb, hcb, hfb⟩ := box1 wa #[.int .u64 0, .int .u64 0] 62
 have hw := hide (hba.trans (hbb.mono (by omega)))
 have x0 : wb.cell? ⟨w.heap.size, 0, none⟩ = some (.int .u64 H) := (hbb.cell (p := ⟨w.heap.size, 0, none⟩) (by show w.heap.size < _; omega)).trans (hca 0)
 have x1 : wb.cell? ⟨w.heap.size, 1, none⟩ = some (.int .u64 L) := (hbb.cell (p := ⟨w.heap.size, 1, none⟩) (by show w.heap.size < _; omega)).trans (hca 1)
 have z0 : wb.cell? ⟨wa.heap.size, 0, none⟩ = some (.int .u64 0) := hcb 0
 have z1 : wb.cell? ⟨wa.heap.size, 1, none⟩ = some (.int .u64 0) := hcb 1
 have f0 := hfb 0
 have f1 := hfb 1
 have hle : w.heap.size ≤ wa.heap.size := by omega
 have hl1 : w.heap.size < wb.heap.size := by omega
 have hl2 : wa.heap.size < wb.heap.size := by omega
 have hM1 := hide (fun W => Tryz.bits_Mul64 L b hL (by omega) W)
 have hM2 := hide (fun W => Tryz.bits_Mul64 H b hH (by omega) W)
 have hT := hide (show nextV H L b d = H * b * 18446744073709551616 + L * b + d from by unfold nextV; rw [Nat.add_mul, Nat.mul_right_comm])
 have hLb : L * b ≤ L * 16 := Nat.mul_le_mul_left _ hb
 have hHb : H * b ≤ H * 16 := Nat.mul_le_mul_left _ hb
 generalize hQ : L * b = Q at hM1 hT hLb
 generalize hP : H * b = P at hM2 hT hHb
 generalize nextV H L b d = T at hT ⊢
 obtain ⟨cr, hcr⟩ : ∃ cr, cr = Q / 18446744073709551616 := ⟨_, rfl⟩
 obtain ⟨lo, hlo⟩ : ∃ lo, lo = Q % 18446744073709551616 := ⟨_, rfl⟩
 obtain ⟨ov, hov⟩ : ∃ ov, ov = P / 18446744073709551616 := ⟨_, rfl⟩
 obtain ⟨hi, hhi⟩ : ∃ hi, hi = P % 18446744073709551616 := ⟨_, rfl⟩
 rw [← hcr, ← hlo] at hM1
 rw [← hov, ← hhi] at hM2
 have hA1 := fun W => add64_run lo d 0 (by omega) W
 obtain ⟨l2, hl2'⟩ : ∃ l2, l2 = (lo + d + 0) % 18446744073709551616 := ⟨_, rfl⟩
 obtain ⟨cc, hcc⟩ : ∃ cc, cc = (lo + d + 0) / 18446744073709551616 := ⟨_, rfl⟩
 rw [← hl2', ← hcc] at hA1
 have hA2 := fun W => add64_run hi cr cc (by omega) W
 obtain ⟨h2, hh2⟩ : ∃ h2, h2 = (hi + cr + cc) % 18446744073709551616 := ⟨_, rfl⟩
 obtain ⟨c2, hc2⟩ : ∃ c2, c2 = (hi + cr + cc) / 18446744073709551616 := ⟨_, rfl⟩
 rw [← hh2, ← hc2] at hA2
 have e1 : l2 = T % 18446744073709551616 := by rw [hT.out]; omega
 have e2 : h2 = T / 18446744073709551616 % 18446744073709551616 := by rw [hT.out]; omega
 have e3 : decide (T < 340282366920938463463374607431768211456) = (decide ((ov : Int) = 0) && decide ((c2 : Int) = 0)) := by
  rw [hT.out, Bool.eq_iff_iff]
  simp only [Bool.and_eq_true, decide_eq_true_eq]
  omega
 rw [← e1, ← e2, e3]
 clear e1 e2 e3 hcr hlo hov hhi hl2' hcc hh2 hc2 hLb hHb hQ hP hT
 replace hsa := hide hsa
 replace hsb := hide hsb
 clear hca hcb hba hbb hfb
 have hA1' : ∀ W, (callFunc 154 #[.int .u64 (lo : Int), .int .u64 (d : Int), .int .u64 0]).run Tryz.prog W = .ok (.value (.tuple #[.int .u64 (l2 : Int), .int .u64 (cc : Int)])) W := hA1
 have hfin := hide (show ∀ v v', Below w.heap.size w ((wb.setCell ⟨wa.heap.size, 0, none⟩ v).setCell ⟨wa.heap.size, 1, none⟩ v') from fun v v' => (hw.out.setCell (p := ⟨wa.heap.size, 0, none⟩) hle _).setCell (p := ⟨wa.heap.size, 1, none⟩) hle _)
 clear hA1 hw hle
 have key : ∀ (p1 p2 : Bool), ((ov : Int) == 0) = p1 → ((c2 : Int) == 0) = p2 → Calls Tryz.prog 112 #[.agg #[.int .u64 H, .int .u64 L], .int .u64 b, .int .u64 d] w fun e w' => e = .returned (.tuple #[.agg #[.int .u64 (h2 : Int), .int .u64 (l2 : Int)], .bool (p1 && p2)]) ∧ Below w.heap.size w w' := by
  intro p1 p2 q1 q2
  cases p1 <;> cases p2
  all_goals
   go_enter Tryz.func112, Tryz.ntmps112
   go_wp2_with (go_at_call 153; first | ((with_reducible refine (hM1.out _).mono ?_); rintro e w' ⟨rfl, rfl⟩) | ((with_reducible refine (hM2.out _).mono ?_); rintro e w' ⟨rfl, rfl⟩))
   refine bodyPost_ret (v := .tuple #[.agg #[.int .u64 (h2 : Int), .int .u64 (l2 : Int)], .bool _]) (by simp [results, Tryz.results112, go_sem, z0, z1]) rfl ⟨rfl, hfin.out _ _⟩
 have h := key _ _ rfl rfl
 have e : ((ov : Int) == 0 && (c2 : Int) == 0) = (decide ((ov : Int) = 0) && decide ((c2 : Int) = 0)) := rfl
 rw [e] at h
 exact h
end Go.Proofs.YtbjokgnnklcbcaaGreatDoor

import Derived.Test.YtmfpbahifhndjaaGreatLow03
import Derived.Laws.Shifts
import Derived.Laws.ShiftsVar
import Derived.StillTailTactics
set_option linter.all false
/-! Layer 1: numbers' masks. -/
namespace Go.Proofs.YtmfpbahifhndjaaGreat
open Go.RowKit
set_option maxHeartbeats 400000 in
theorem shift_any (k : Int) (w : World) (h0 : 0 ≤ k) (h1 : k ≤ 128) : Calls Tryz.prog 130 #[.int .i64 k] w fun e w' => e = .returned (.int .u64 k) ∧ w = w' := by
 have e1 : min k 128 = k := by omega
 have e2 : max 0 k = k := by omega
 go_enter Tryz.func130, Tryz.ntmps130
 go_wp2
 go_ret
 exact ⟨ret_int (by simp [e1, e2]), rfl⟩
theorem shr_lowN : ∀ k : Fin 64, (18446744073709551615 / 2 ^ k.val : Int) = 2 ^ (64 - k.val) - 1 ∧ bits .or .u64 (18446744073709551615 / 2 ^ k.val : Int) (IntKind.u64.wrap (18446744073709551615 * 2 ^ (64 - k.val))) = 18446744073709551615 := by decide +kernel
theorem shr_highN : ∀ k : Fin 64, (18446744073709551615 / 2 ^ k.val : Int) = 2 ^ (64 - k.val) - 1 := by decide +kernel
set_option maxHeartbeats 1000000 in
theorem shr_low (k : Nat) (w : World) (h1 : k < 64) : Calls Tryz.prog 116 #[.agg #[.int .u64 18446744073709551615, .int .u64 18446744073709551615], .int .i64 (k : Int)] w fun e w' => e = .returned (.agg #[.int .u64 ((2 : Int) ^ (64 - k) - 1), .int .u64 18446744073709551615]) ∧ Below w.heap.size w w' := by
 obtain ⟨q1, q2⟩ := shr_lowN ⟨k, h1⟩
 replace q1 := hide q1
 replace q2 := hide q2
 go_enter Tryz.func116, Tryz.ntmps116
 go_wp2_with (go_at_call 130; refine (shift_any _ _ (by omega) (by omega)).mono ?_; rintro e w' ⟨rfl, rfl⟩)
 refine bodyPost_ret (v := .agg #[.int .u64 (18446744073709551615 / 2 ^ k), .int .u64 (bits .or .u64 (18446744073709551615 / 2 ^ k : Int) (IntKind.u64.wrap (18446744073709551615 * 2 ^ (64 - k))))]) (by simp [results, Tryz.results116, go_sem]) rfl ⟨?_, ((Below.refl _ _).alloc (Nat.le_refl _) _).alloc (by simp) _⟩
 rw [q2.out, q1.out]
set_option maxHeartbeats 1000000 in
theorem shr_high (k : Nat) (w : World) (h1 : k < 64) : Calls Tryz.prog 116 #[.agg #[.int .u64 18446744073709551615, .int .u64 18446744073709551615], .int .i64 ((k : Int) + 64)] w fun e w' => e = .returned (.agg #[.int .u64 0, .int .u64 ((2 : Int) ^ (64 - k) - 1)]) ∧ Below w.heap.size w w' := by
 have q1 := hide (shr_highN ⟨k, h1⟩)
 go_enter Tryz.func116, Tryz.ntmps116
 go_wp2_with (go_at_call 130; refine (shift_any _ _ (by omega) (by omega)).mono ?_; rintro e w' ⟨rfl, rfl⟩)
 refine bodyPost_ret (v := .agg #[.int .u64 0, .int .u64 (18446744073709551615 / 2 ^ k)]) (by simp [results, Tryz.results116, go_sem]) rfl ⟨?_, ((Below.refl _ _).alloc (Nat.le_refl _) _).alloc (by simp) _⟩
 rw [q1.out]
/-- The halves of a number of so many ones. -/
def maskH (n : Nat) : Int := if n ≤ 64 then 0 else 2 ^ (n - 64) - 1
def maskL (n : Nat) : Int := if n ≤ 64 then 2 ^ n - 1 else 18446744073709551615
set_option maxHeartbeats 1000000 in
theorem mask_of (z : Int) (n : Nat) (w : World) (h1 : 1 ≤ n) (h2 : n ≤ 128) (e1 : min z 128 = n) (e2 : ¬ z < 1) : Calls Tryz.prog 93 #[.int .i64 z] w fun e w' => e = .returned (.agg #[.int .u64 (maskH n), .int .u64 (maskL n)]) ∧ Below w.heap.size w w' := by
 obtain ⟨wa, hwa, hsa, hba, hca, hfa⟩ := box1 w #[.int .u64 0, .int .u64 0] 60
 obtain ⟨wb, hwb, hsb, hbb, hcb, -⟩ := box1 wa #[.int .u64 18446744073709551615, .int .u64 18446744073709551615] 60
 have hw := hba.trans (hbb.mono (by omega))
 have x0 : wb.cell? ⟨w.heap.size, 0, none⟩ = some (.int .u64 0) := (hbb.cell (p := ⟨w.heap.size, 0, none⟩) (by show w.heap.size < _; omega)).trans (hca 0)
 have x1 : wb.cell? ⟨w.heap.size, 1, none⟩ = some (.int .u64 0) := (hbb.cell (p := ⟨w.heap.size, 1, none⟩) (by show w.heap.size < _; omega)).trans (hca 1)
 have f0 : ∀ i, wb.frozen? ⟨w.heap.size, i, none⟩ = false := fun i => (hbb.frozen (p := ⟨w.heap.size, i, none⟩) (by show w.heap.size < _; omega)).trans (hfa i)
 simp only [hsa] at hcb
 have y0 : wb.cell? ⟨w.heap.size + 1, 0, none⟩ = some (.int .u64 18446744073709551615) := hcb 0
 have y1 : wb.cell? ⟨w.heap.size + 1, 1, none⟩ = some (.int .u64 18446744073709551615) := hcb 1
 have hz : w.heap.size < wb.heap.size := by omega
 replace hw := hide hw
 replace hsb := hide hsb
 clear hca hcb hba hbb hfa
 by_cases h : n ≤ 64
 ·have hk := hide (shr_high (64 - n) wb (by omega))
  have ek : (128 : Int) - (n : Int) = ((64 - n : Nat) : Int) + 64 := by omega
  have hv := hide (show maskH n = 0 ∧ maskL n = 2 ^ (64 - (64 - n)) - 1 from by simp only [maskH, maskL, if_pos h]; rw [show 64 - (64 - n) = n by omega]; simp)
  go_enter Tryz.func93, Tryz.ntmps93
  go_wp2_with fail
  refine hk.out.mono ?_
  rintro e w1 ⟨rfl, hb⟩
  obtain ⟨hc, hf, hz1⟩ := bcell hb
  replace hb := hide hb
  go_wp2
  refine bodyPost_ret (v := .agg #[.int .u64 0, .int .u64 ((2 : Int) ^ (64 - (64 - n)) - 1)]) (by simp [results, Tryz.results93, go_sem, hc, hz, x0, x1]) rfl ⟨by rw [hv.out.1, hv.out.2], ?_⟩
  exact ((hw.out.trans (hb.out.mono (by omega))).setCell (by simp) _).setCell (by simp) _
 ·have hk := hide (shr_low (128 - n) wb (by omega))
  have ek : (128 : Int) - (n : Int) = ((128 - n : Nat) : Int) := by omega
  have hv := hide (show maskH n = 2 ^ (64 - (128 - n)) - 1 ∧ maskL n = 18446744073709551615 from by simp only [maskH, maskL, if_neg h]; rw [show 64 - (128 - n) = n - 64 by omega]; simp)
  go_enter Tryz.func93, Tryz.ntmps93
  go_wp2_with fail
  refine hk.out.mono ?_
  rintro e w1 ⟨rfl, hb⟩
  obtain ⟨hc, hf, hz1⟩ := bcell hb
  replace hb := hide hb
  go_wp2
  refine bodyPost_ret (v := .agg #[.int .u64 ((2 : Int) ^ (64 - (128 - n)) - 1), .int .u64 18446744073709551615]) (by simp [results, Tryz.results93, go_sem, hc, hz, x0, x1]) rfl ⟨by rw [hv.out.1, hv.out.2], ?_⟩
  exact ((hw.out.trans (hb.out.mono (by omega))).setCell (by simp) _).setCell (by simp) _
theorem mask_any (n : Nat) (w : World) (h1 : 1 ≤ n) (h2 : n ≤ 128) : Calls Tryz.prog 93 #[.int .i64 (n : Int)] w fun e w' => e = .returned (.agg #[.int .u64 (maskH n), .int .u64 (maskL n)]) ∧ Below w.heap.size w w' := mask_of n n w h1 h2 (by omega) (by omega)
def andI (a b : Int) : Int := bits .and .u64 a b
set_option maxHeartbeats 400000 in
theorem and1_any (a b : Int) (w : World) : Calls Tryz.prog 115 #[.int .u64 a, .int .u64 b] w fun e w' => e = .returned (.int .u64 (andI a b)) ∧ w' = w := by
 go_enter Tryz.func115, Tryz.ntmps115
 go_wp2
 go_ret
 exact ⟨rfl, rfl⟩
theorem enters_and1 : ∀ args w, (callFunc 115 args).run Tryz.prog w = .ok (.enter 115 args) w := enters_of Tryz.func115 (by kernel_rfl) rfl
set_option maxRecDepth 100000 in
set_option maxHeartbeats 1000000 in
theorem both_any (a b c d : Int) (w : World) : Calls Tryz.prog 114 #[.agg #[.int .u64 a, .int .u64 b], .agg #[.int .u64 c, .int .u64 d], .func (.func 115) #[] #[]] w fun e w' => e = .returned (.agg #[.int .u64 (andI a c), .int .u64 (andI b d)]) ∧ Below w.heap.size w w' := by
 have eg := enters_and1
 go_enter Tryz.func114, Tryz.ntmps114
 go_wp2_with fail
 refine wp_region_still_tail 13 (by kernel_rfl) (by kernel_rfl) ?_
 simp only [List.take_succ_cons, List.take_zero, List.drop_succ_cons, List.drop_zero]
 change wpStill _ _ (World.drew _) _ _ _
 iterate 5 still_step
 still_call (and1_any _ _ _)
 iterate 5 still_step
 still_call (and1_any _ _ _)
 still_step
 refine wpStill_nil ?_
 change wpList _ _ _ _ _ (World.drew _)
 have hb3 : Below w.heap.size w (((w.alloc (.cells #[.int .u64 a, .int .u64 b] 60)).alloc (.cells #[.int .u64 c, .int .u64 d] 60)).alloc (.cells #[.int .u64 0, .int .u64 0] 60)).drew := ((((Below.refl _ _).alloc (Nat.le_refl _) _).alloc (by simp) _).alloc (by simp; omega) _).drew
 have n0 : (((w.alloc (.cells #[.int .u64 a, .int .u64 b] 60)).alloc (.cells #[.int .u64 c, .int .u64 d] 60)).alloc (.cells #[.int .u64 0, .int .u64 0] 60)).drew.heap[w.heap.size + 1 + 1]? = some (.cells #[.int .u64 0, .int .u64 0] 60) := by
  have := heap_alloc_new ((w.alloc (.cells #[.int .u64 a, .int .u64 b] 60)).alloc (.cells #[.int .u64 c, .int .u64 d] 60)) (.cells #[.int .u64 0, .int .u64 0] 60)
  rw [World.size_alloc, World.size_alloc] at this
  exact this
 generalize hwd : (((w.alloc (.cells #[.int .u64 a, .int .u64 b] 60)).alloc (.cells #[.int .u64 c, .int .u64 d] 60)).alloc (.cells #[.int .u64 0, .int .u64 0] 60)).drew = wd at hb3 n0
 clear hwd
 have m0 : wd.cell? ⟨w.heap.size + 1 + 1, 0, none⟩ = some (.int .u64 0) := by simp [World.cell?, n0]
 have m1 : wd.cell? ⟨w.heap.size + 1 + 1, 1, none⟩ = some (.int .u64 0) := by simp [World.cell?, n0]
 have m2 : wd.frozen? ⟨w.heap.size + 1 + 1, 0, none⟩ = false := by simp [World.frozen?, n0]
 have m3 : wd.frozen? ⟨w.heap.size + 1 + 1, 1, none⟩ = false := by simp [World.frozen?, n0]
 have m4 : w.heap.size + 1 + 1 < wd.heap.size := (Array.getElem?_eq_some_iff.1 n0).1
 replace hb3 := hide hb3
 replace n0 := hide n0
 go_wp2
 refine bodyPost_ret (v := .agg #[.int .u64 (andI a c), .int .u64 (andI b d)]) (by simp [results, Tryz.results114, go_sem, m0, m1, m4]) rfl ⟨rfl, (hb3.out.setCell (by simp; omega) _).setCell (by simp; omega) _⟩
set_option maxHeartbeats 1000000 in
theorem and_any (a b c d : Int) (w : World) : Calls Tryz.prog 90 #[.agg #[.int .u64 a, .int .u64 b], .agg #[.int .u64 c, .int .u64 d]] w fun e w' => e = .returned (.agg #[.int .u64 (andI a c), .int .u64 (andI b d)]) ∧ Below w.heap.size w w' := by
 obtain ⟨wa, hwa, hsa, hba, hca, -⟩ := box1 w #[.int .u64 a, .int .u64 b] 60
 obtain ⟨wb, hwb, hsb, hbb, hcb, -⟩ := box1 wa #[.int .u64 c, .int .u64 d] 60
 obtain ⟨wc, hwc, hsc, hbc, hcc, hfc⟩ := box1 wb #[.int .u64 0, .int .u64 0] 60
 have hw := hba.trans ((hbb.mono (by omega)).trans (hbc.mono (by omega)))
 have x0 : wc.cell? ⟨w.heap.size, 0, none⟩ = some (.int .u64 a) := (hbc.cell (p := ⟨w.heap.size, 0, none⟩) (by show w.heap.size < _; omega)).trans ((hbb.cell (p := ⟨w.heap.size, 0, none⟩) (by show w.heap.size < _; omega)).trans (hca 0))
 have x1 : wc.cell? ⟨w.heap.size, 1, none⟩ = some (.int .u64 b) := (hbc.cell (p := ⟨w.heap.size, 1, none⟩) (by show w.heap.size < _; omega)).trans ((hbb.cell (p := ⟨w.heap.size, 1, none⟩) (by show w.heap.size < _; omega)).trans (hca 1))
 simp only [hsa] at hcb
 have y0 : wc.cell? ⟨w.heap.size + 1, 0, none⟩ = some (.int .u64 c) := (hbc.cell (p := ⟨w.heap.size + 1, 0, none⟩) (by show w.heap.size + 1 < _; omega)).trans (hcb 0)
 have y1 : wc.cell? ⟨w.heap.size + 1, 1, none⟩ = some (.int .u64 d) := (hbc.cell (p := ⟨w.heap.size + 1, 1, none⟩) (by show w.heap.size + 1 < _; omega)).trans (hcb 1)
 simp only [hsb, hsa] at hcc hfc
 have z0 : wc.cell? ⟨w.heap.size + 1 + 1, 0, none⟩ = some (.int .u64 0) := hcc 0
 have z1 : wc.cell? ⟨w.heap.size + 1 + 1, 1, none⟩ = some (.int .u64 0) := hcc 1
 have hk3 : w.heap.size + 1 + 1 < wc.heap.size := by omega
 have hB := hide (both_any a b c d wc)
 replace hw := hide hw
 replace hsc := hide hsc
 clear hca hcb hcc hba hbb hbc
 go_enter Tryz.func90, Tryz.ntmps90
 go_wp2_with fail
 refine hB.out.mono ?_
 rintro e w1 ⟨rfl, hb⟩
 obtain ⟨hc, hf, hz1⟩ := bcell hb
 replace hb := hide hb
 have m0 : w1.cell? ⟨w.heap.size + 1 + 1, 0, none⟩ = some (.int .u64 0) := (hc _ _ hk3).trans z0
 have m1 : w1.cell? ⟨w.heap.size + 1 + 1, 1, none⟩ = some (.int .u64 0) := (hc _ _ hk3).trans z1
 have m2 : w1.frozen? ⟨w.heap.size + 1 + 1, 0, none⟩ = false := (hf _ _ hk3).trans (hfc 0)
 have m3 : w1.frozen? ⟨w.heap.size + 1 + 1, 1, none⟩ = false := (hf _ _ hk3).trans (hfc 1)
 have m4 : w.heap.size + 1 + 1 < w1.heap.size := by omega
 clear hc hf hfc
 go_wp2
 refine bodyPost_ret (v := .agg #[.int .u64 (andI a c), .int .u64 (andI b d)]) (by simp [results, Tryz.results90, go_sem, m0, m1, m4]) rfl ⟨rfl, ((hw.out.trans (hb.out.mono (by omega))).setCell (by simp; omega) _).setCell (by simp; omega) _⟩
set_option maxHeartbeats 1000000 in
theorem cut_of (a b z mh ml : Int) (w : World) (hMk : ∀ W, Calls Tryz.prog 93 #[.int .i64 z] W fun e w' => e = .returned (.agg #[.int .u64 mh, .int .u64 ml]) ∧ Below W.heap.size W w') : Calls Tryz.prog 74 #[.agg #[.int .u64 a, .int .u64 b], .int .i64 z] w fun e w' => e = .returned (.agg #[.int .u64 (andI a mh), .int .u64 (andI b ml)]) ∧ Below w.heap.size w w' := by
 obtain ⟨wa, hwa, hsa, hba, hca, -⟩ := box1 w #[.int .u64 a, .int .u64 b] 60
 obtain ⟨wc, hwc, hsc, hbc, hcc, hfc⟩ := box1 wa #[.int .u64 0, .int .u64 0] 60
 have hw := hba.trans (hbc.mono (by omega))
 have x0 : wc.cell? ⟨w.heap.size, 0, none⟩ = some (.int .u64 a) := (hbc.cell (p := ⟨w.heap.size, 0, none⟩) (by show w.heap.size < _; omega)).trans (hca 0)
 have x1 : wc.cell? ⟨w.heap.size, 1, none⟩ = some (.int .u64 b) := (hbc.cell (p := ⟨w.heap.size, 1, none⟩) (by show w.heap.size < _; omega)).trans (hca 1)
 simp only [hsa] at hcc hfc
 have z0 : wc.cell? ⟨w.heap.size + 1, 0, none⟩ = some (.int .u64 0) := hcc 0
 have z1 : wc.cell? ⟨w.heap.size + 1, 1, none⟩ = some (.int .u64 0) := hcc 1
 have hk2 : w.heap.size < wc.heap.size := by omega
 have hk3 : w.heap.size + 1 < wc.heap.size := by omega
 have hM := hide hMk
 have hA := hide (fun W => and_any a b mh ml W)
 replace hw := hide hw
 replace hsc := hide hsc
 clear hca hcc hba hbc hMk
 go_enter Tryz.func74, Tryz.ntmps74
 go_wp2_with fail
 go_region_with (first | (go_at_call 93; refine (hM.out _).mono ?_; rintro e w1 ⟨rfl, hb⟩; have u0 : w1.cell? ⟨w.heap.size, 0, none⟩ = some (.int .u64 a) := (hb.cell (p := ⟨w.heap.size, 0, none⟩) hk2).trans x0; have u1 : w1.cell? ⟨w.heap.size, 1, none⟩ = some (.int .u64 b) := (hb.cell (p := ⟨w.heap.size, 1, none⟩) hk2).trans x1; have v0 : w1.cell? ⟨w.heap.size + 1, 0, none⟩ = some (.int .u64 0) := (hb.cell (p := ⟨w.heap.size + 1, 0, none⟩) hk3).trans z0; have v1 : w1.cell? ⟨w.heap.size + 1, 1, none⟩ = some (.int .u64 0) := (hb.cell (p := ⟨w.heap.size + 1, 1, none⟩) hk3).trans z1; have t0 : w1.frozen? ⟨w.heap.size + 1, 0, none⟩ = false := (hb.frozen (p := ⟨w.heap.size + 1, 0, none⟩) hk3).trans (hfc 0); have t1 : w1.frozen? ⟨w.heap.size + 1, 1, none⟩ = false := (hb.frozen (p := ⟨w.heap.size + 1, 1, none⟩) hk3).trans (hfc 1); have k1 : w.heap.size + 1 < w1.heap.size := Nat.lt_of_lt_of_le hk3 hb.size; replace hb := hide hb) | (go_at_call 90; refine (hA.out _).mono ?_; rintro e w2 ⟨rfl, hb2⟩; have v2 : w2.cell? ⟨w.heap.size + 1, 0, none⟩ = some (.int .u64 0) := (hb2.cell (p := ⟨w.heap.size + 1, 0, none⟩) k1).trans v0; have v3 : w2.cell? ⟨w.heap.size + 1, 1, none⟩ = some (.int .u64 0) := (hb2.cell (p := ⟨w.heap.size + 1, 1, none⟩) k1).trans v1; have t2 : w2.frozen? ⟨w.heap.size + 1, 0, none⟩ = false := (hb2.frozen (p := ⟨w.heap.size + 1, 0, none⟩) k1).trans t0; have t3 : w2.frozen? ⟨w.heap.size + 1, 1, none⟩ = false := (hb2.frozen (p := ⟨w.heap.size + 1, 1, none⟩) k1).trans t1; have k2 : w.heap.size + 1 < w2.heap.size := Nat.lt_of_lt_of_le k1 hb2.size; replace hb2 := hide hb2))
 all_goals
  go_wp2
  refine bodyPost_ret (v := .agg #[.int .u64 (andI a mh), .int .u64 (andI b ml)]) (by simp [results, Tryz.results74, go_sem, v2, v3, k2]) rfl ⟨rfl, ((((hw.out.drew).trans (hb.out.mono (by show w.heap.size ≤ wc.heap.size; omega))).trans (hb2.out.mono (by omega))).setCell (by simp) _).setCell (by simp) _⟩
theorem cut_any (a b : Int) (n : Nat) (w : World) (h1 : 1 ≤ n) (h2 : n ≤ 128) : Calls Tryz.prog 74 #[.agg #[.int .u64 a, .int .u64 b], .int .i64 (n : Int)] w fun e w' => e = .returned (.agg #[.int .u64 (andI a (maskH n)), .int .u64 (andI b (maskL n))]) ∧ Below w.heap.size w w' := cut_of a b n _ _ w fun W => mask_any n W h1 h2
end Go.Proofs.YtmfpbahifhndjaaGreat

import Derived.Test.YtmfpbahifhndjaaGreatLow07
import Derived.Test.YtmfpbahifhndjaaGreatLow04
set_option linter.all false
/-! Layer 10: one of some; widths. -/
namespace Go.Proofs.YtmfpbahifhndjaaGreat
open Go.RowKit
theorem nat_of {i : Int} {n : Nat} (h0 : ¬ i < 0) (h1 : ¬ (n : Int) ≤ i) : ∃ k : Nat, i = k ∧ k < n := by
 obtain ⟨k, rfl⟩ := Int.eq_ofNat_of_zero_le (show 0 ≤ i by omega)
 exact ⟨k, rfl, by omega⟩
theorem at0_no {l : List Int} {i : Int} (h : ¬ (0 ≤ i ∧ i < l.length)) : at0 l i = 0 := by unfold at0; rw [Sl.nth_no h]; rfl
theorem at0_at {l : List Int} {k : Nat} (h : k < l.length) : at0 l (k : Int) = l[k] := by unfold at0; rw [nth_at k h]; rfl
theorem inB_no {n : Nat} {i : Int} (h : ¬ (0 ≤ i ∧ i < n)) : inB n i = false := by
 unfold inB
 by_cases h0 : 0 ≤ i
 ·simp only [h0, decide_true, Bool.true_and, decide_eq_false_iff_not]; omega
 ·simp [h0]
theorem inB_at {k n : Nat} (h : k < n) : inB n (k : Int) = true := by unfold inB; simp [h]
theorem lisWidth_any (n : Int) (w : World) : Calls Tryz.prog 16 #[.int .i64 n] w fun e w' => e = .returned (.bool (widthB n)) ∧ w = w' := by
 go_enter Tryz.func16, Tryz.ntmps16
 by_cases h1 : 1 ≤ n
 ·by_cases h2 : n ≤ 128
  ·go_wp2
   go_ret
   exact ⟨ret_b (by simp [widthB, h1, h2]), rfl⟩
  ·go_wp2
   go_ret
   exact ⟨ret_b (by simp [widthB, h2]), rfl⟩
 ·go_wp2
  go_ret
  exact ⟨ret_b (by simp [widthB]; omega), rfl⟩
theorem rok_any (n : Int) (w : World) : Calls Tryz.prog 21 #[.int .i64 n] w fun e w' => e = .returned (.bool (widthB n)) ∧ w = w' := by
 go_enter Tryz.func21, Tryz.ntmps21
 by_cases h1 : 0 < n
 ·by_cases h2 : n < 129
  ·go_wp2
   go_ret
   exact ⟨ret_b (by simp [widthB]; omega), rfl⟩
  ·go_wp2
   go_ret
   exact ⟨ret_b (by simp [widthB]; omega), rfl⟩
 ·go_wp2
  go_ret
  exact ⟨ret_b (by simp [widthB]; omega), rfl⟩
set_option maxHeartbeats 1000000 in
theorem atI_any (A : Option Addr) (cap : Nat) (xs : List Int) (i : Int) (w : World) (h : Sl 1 rInt w w.heap.size A xs) :
  Calls Tryz.prog 87 #[.slice A xs.length cap, .int .i64 i] w fun e w' => e = .returned (.tuple #[.int .i64 (at0 xs i), .bool (inB xs.length i)]) ∧ w = w' := by
 have hl := h.len
 go_enter Tryz.func87, Tryz.ntmps87
 by_cases h0 : i < 0
 ·have e1 := hide (at0_no (l := xs) (i := i) (by omega))
  have e2 := hide (inB_no (n := xs.length) (i := i) (by omega))
  go_wp2
  refine bodyPost_ret (results_tmp2 rfl _ _ _) rfl ?_
  exact ⟨by rw [e1.out, e2.out] <;> rfl, rfl⟩
 ·by_cases h1 : (xs.length : Int) ≤ i
  ·have e1 := hide (at0_no (l := xs) (i := i) (by omega))
   have e2 := hide (inB_no (n := xs.length) (i := i) (by omega))
   go_wp2
   refine bodyPost_ret (results_tmp2 rfl _ _ _) rfl ?_
   exact ⟨by rw [e1.out, e2.out] <;> rfl, rfl⟩
  ·obtain ⟨k, rfl, hk⟩ := nat_of h0 h1
   have e1 := hide (at0_at hk)
   have e2 := hide (inB_at hk)
   obtain ⟨b, o, rfl, hb, hc⟩ := h.int hk
   have hki : (k : Int) < (xs.length : Int) := by omega
   go_wp2
   refine bodyPost_ret (results_tmp2 rfl _ _ _) rfl ?_
   exact ⟨by rw [e1.out, e2.out] <;> rfl, rfl⟩
set_option maxHeartbeats 1000000 in
theorem atL_any (A : Option Addr) (cap : Nat) (xs : List (List Int)) (i : Int) (w : World) (h : Sl 1 (rSl 1 rInt) w w.heap.size A xs) :
  Calls Tryz.prog 86 #[.slice A xs.length cap, .int .i64 i] w fun e w' => ∃ A' c', e = .returned (.tuple #[.slice A' ((nth xs i).getD []).length c', .bool (inB xs.length i)]) ∧ Sl 1 rInt w w.heap.size A' ((nth xs i).getD []) ∧ w = w' := by
 have hl := h.len
 go_enter Tryz.func86, Tryz.ntmps86
 by_cases h0 : i < 0
 ·have e1 := hide (Sl.nth_no (l := xs) (i := i) (by omega))
  have e2 := hide (inB_no (n := xs.length) (i := i) (by omega))
  go_wp2
  refine bodyPost_ret (results_tmp2 rfl _ _ _) rfl ?_
  exact ⟨none, 0, by rw [e1.out, e2.out] <;> rfl, by rw [e1.out]; exact Sl.nil_, rfl⟩
 ·by_cases h1 : (xs.length : Int) ≤ i
  ·have e1 := hide (Sl.nth_no (l := xs) (i := i) (by omega))
   have e2 := hide (inB_no (n := xs.length) (i := i) (by omega))
   go_wp2
   refine bodyPost_ret (results_tmp2 rfl _ _ _) rfl ?_
   exact ⟨none, ⟨0, by rw [e1.out, e2.out] <;> rfl⟩, by rw [e1.out]; exact Sl.nil_, rfl⟩
  ·obtain ⟨k, rfl, hk⟩ := nat_of h0 h1
   have e1 := hide (nth_at k hk)
   have e2 := hide (inB_at hk)
   obtain ⟨b, o, A', c', rfl, hb, hc, hs⟩ := h.ints hk
   have hki : (k : Int) < (xs.length : Int) := by omega
   clear h
   replace hs := hide hs
   go_wp2
   refine bodyPost_ret (results_tmp2 rfl _ _ _) rfl ?_
   exact ⟨A', ⟨c', by rw [e1.out, e2.out] <;> rfl⟩, by rw [e1.out]; exact hs.out, rfl⟩
set_option maxHeartbeats 1000000 in
theorem atA_any (A : Option Addr) (cap : Nat) (xs : List Lac) (i : Int) (w : World) (h : Sl 2 rLac w w.heap.size A xs) :
  Calls Tryz.prog 43 #[.slice A xs.length cap, .int .i64 i] w fun e w' => ∃ A1 c1 A2 n2 c2, e = .returned (.tuple #[.agg #[.slice A1 (((nth xs i).map Lac.params).getD []).length c1, .slice A2 n2 c2], .bool (inB xs.length i)]) ∧ Sl 1 rInt w w.heap.size A1 (((nth xs i).map Lac.params).getD []) ∧ Below w.heap.size w w' := by
 have hl := h.len
 go_enter Tryz.func43, Tryz.ntmps43
 by_cases h0 : i < 0
 ·have e1 := hide (Sl.nth_no (l := xs) (i := i) (by omega))
  have e2 := hide (inB_no (n := xs.length) (i := i) (by omega))
  go_wp2
  refine bodyPost_ret (v := .tuple #[.agg #[.slice none 0 0, .slice none 0 0], .bool false]) (by simp [results, Tryz.results43, go_sem]) rfl ?_
  exact ⟨none, 0, none, 0, 0, by rw [e1.out, e2.out] <;> rfl, by rw [e1.out]; exact Sl.nil_, (Below.refl _ _).alloc (Nat.le_refl _) _⟩
 ·by_cases h1 : (xs.length : Int) ≤ i
  ·have e1 := hide (Sl.nth_no (l := xs) (i := i) (by omega))
   have e2 := hide (inB_no (n := xs.length) (i := i) (by omega))
   go_wp2
   refine bodyPost_ret (v := .tuple #[.agg #[.slice none 0 0, .slice none 0 0], .bool false]) (by simp [results, Tryz.results43, go_sem]) rfl ?_
   exact ⟨none, ⟨0, none, 0, 0, by rw [e1.out, e2.out] <;> rfl⟩, by rw [e1.out]; exact Sl.nil_, (Below.refl _ _).alloc (Nat.le_refl _) _⟩
  ·obtain ⟨k, rfl, hk⟩ := nat_of h0 h1
   have e1 := hide (nth_at k hk)
   have e2 := hide (inB_at hk)
   obtain ⟨b, o, ecs, rfl, hb, hn, hcell, A1, A2, c1, c2, rfl, hs1, hs2⟩ := h.2 k _ (List.getElem?_eq_getElem hk)
   have x0 : w.cell? ⟨b, o + k * 2, none⟩ = some (.slice A1 xs[k].params.length c1) := hcell 0 _ rfl
   have x1 : w.cell? ⟨b, o + k * 2 + 1, none⟩ = some (.slice A2 xs[k].body.length c2) := hcell 1 _ rfl
   have hki : (k : Int) < (xs.length : Int) := by omega
   clear h hs2 hcell hn
   replace hs1 := hide hs1
   go_wp2
   refine bodyPost_ret (v := .tuple #[.agg #[.slice A1 xs[k].params.length c1, .slice A2 xs[k].body.length c2], .bool true]) (by simp [results, Tryz.results43, go_sem]) rfl ?_
   exact ⟨A1, ⟨c1, A2, _, c2, by rw [e1.out, e2.out] <;> rfl⟩, by rw [e1.out]; exact hs1.out, (Below.refl _ _).alloc (Nat.le_refl _) _⟩
set_option maxHeartbeats 1000000 in
theorem rof_any (A : Option Addr) (cap : Nat) (xs : List Int) (i : Int) (w : World) (h : Sl 1 rInt w w.heap.size A xs) :
  Calls Tryz.prog 53 #[.slice A xs.length cap, .int .i64 i] w fun e w' => e = .returned (.int .i64 (at0 xs i)) ∧ w = w' := by
 have hl := h.len
 go_enter Tryz.func53, Tryz.ntmps53
 by_cases h0 : i < 0
 ·have e1 := hide (at0_no (l := xs) (i := i) (by omega))
  go_wp2
  go_ret
  exact ⟨ret_int e1.out.symm, rfl⟩
 ·by_cases h1 : (xs.length : Int) ≤ i
  ·have e1 := hide (at0_no (l := xs) (i := i) (by omega))
   go_wp2
   go_ret
   exact ⟨ret_int e1.out.symm, rfl⟩
  ·obtain ⟨k, rfl, hk⟩ := nat_of h0 h1
   have e1 := hide (at0_at hk)
   obtain ⟨b, o, rfl, hb, hc⟩ := h.int hk
   have hki : (k : Int) < (xs.length : Int) := by omega
   go_wp2
   go_ret
   exact ⟨ret_int e1.out.symm, rfl⟩
end Go.Proofs.YtmfpbahifhndjaaGreat
/-! Layer 1: Fits; layer 4: isLit. -/
namespace Go.Proofs.YtmfpbahifhndjaaGreat
open Go.RowKit
set_option maxHeartbeats 1000000 in
theorem fits_of (a b z mh ml : Int) (w : World) (hCt : ∀ W, Calls Tryz.prog 74 #[.agg #[.int .u64 a, .int .u64 b], .int .i64 z] W fun e w' => e = .returned (.agg #[.int .u64 mh, .int .u64 ml]) ∧ Below W.heap.size W w') : Calls Tryz.prog 46 #[.agg #[.int .u64 a, .int .u64 b], .int .i64 z] w fun e w' => e = .returned (.bool (mh == a && ml == b)) ∧ Below w.heap.size w w' := by
 obtain ⟨wa, hwa, hsa, hba, hca, -⟩ := box1 w #[.int .u64 a, .int .u64 b] 60
 have x0 : wa.cell? ⟨w.heap.size, 0, none⟩ = some (.int .u64 a) := hca 0
 have x1 : wa.cell? ⟨w.heap.size, 1, none⟩ = some (.int .u64 b) := hca 1
 have hk2 : w.heap.size < wa.heap.size := by omega
 have hM : ∀ d os, Hid (Calls Tryz.prog 74 #[.agg #[.int .u64 a, .int .u64 b], .int .i64 z] (Go.Sort.grow (redrawn wa d) os) _) := fun d os => hide (hCt _)
 have hg := gcell' (show Below wa.heap.size wa wa from Below.refl _ _) (Nat.le_refl _)
 replace hba := hide hba
 replace hsa := hide hsa
 clear hca
 have hfin := hide (fun w1 (h : Below wa.heap.size wa w1) => hba.out.trans (h.mono (show w.heap.size ≤ wa.heap.size by omega)))
 clear hCt
 by_cases e1 : mh = a
 ·subst e1
  by_cases e2 : ml = b
  ·subst e2
   go_enter Tryz.func46, Tryz.ntmps46
   go_wp2_with fail
   refine wp_region_quiet_below (by kernel_rfl) (by kernel_rfl) ?_
   repeat (any_goals (first | go_big_quiet_step (first | (go_at_call 74; with_reducible exact Calls.regrown_of (hM _ _).out) | fail) | quiet_step (first | (go_at_call 74; with_reducible exact Calls.regrown_of (hM _ _).out) | fail)))
   refine wpQuiet_nil ?_
   intro w1 hw1
   replace hw1 := below_of_regrown hw1
   go_wp2
   go_ret
   exact ⟨ret_b (by simp), hfin.out _ hw1⟩
  ·have hv := hide (beq_eq_false_iff_ne.2 e2)
   go_enter Tryz.func46, Tryz.ntmps46
   go_wp2_with fail
   refine wp_region_quiet_below (by kernel_rfl) (by kernel_rfl) ?_
   repeat (any_goals (first | go_big_quiet_step (first | (go_at_call 74; with_reducible exact Calls.regrown_of (hM _ _).out) | fail) | quiet_step (first | (go_at_call 74; with_reducible exact Calls.regrown_of (hM _ _).out) | fail)))
   refine wpQuiet_nil ?_
   intro w1 hw1
   replace hw1 := below_of_regrown hw1
   go_wp2
   go_ret
   exact ⟨ret_b (by rw [hv.out]; simp), hfin.out _ hw1⟩
 ·have hv := hide (beq_eq_false_iff_ne.2 e1)
  go_enter Tryz.func46, Tryz.ntmps46
  go_wp2_with fail
  refine wp_region_quiet_below (by kernel_rfl) (by kernel_rfl) ?_
  repeat (any_goals (first | go_big_quiet_step (first | (go_at_call 74; with_reducible exact Calls.regrown_of (hM _ _).out) | fail) | quiet_step (first | (go_at_call 74; with_reducible exact Calls.regrown_of (hM _ _).out) | fail)))
  refine wpQuiet_nil ?_
  intro w1 hw1
  replace hw1 := below_of_regrown hw1
  go_wp2
  go_ret
  exact ⟨ret_b (by rw [hv.out]; simp), hfin.out _ hw1⟩
theorem fits_any (a b : Int) (n : Nat) (w : World) (h1 : 1 ≤ n) (h2 : n ≤ 128) : Calls Tryz.prog 46 #[.agg #[.int .u64 a, .int .u64 b], .int .i64 (n : Int)] w fun e w' => e = .returned (.bool (andI a (maskH n) == a && andI b (maskL n) == b)) ∧ Below w.heap.size w w' := fits_of a b n _ _ w fun W => cut_any a b n W h1 h2
theorem and_mask (x : Int) (m : Nat) (h0 : 0 ≤ x) (h1 : x < 18446744073709551616) (hm : m ≤ 64) : andI x (2 ^ m - 1) = x % 2 ^ m := by
 obtain ⟨X, rfl⟩ := Int.eq_ofNat_of_zero_le h0
 have hp : 0 < 2 ^ m := Nat.two_pow_pos m
 have hle : 2 ^ m ≤ 2 ^ 64 := Nat.pow_le_pow_right (by omega) hm
 have e : ((2 : Int) ^ m - 1) = ((2 ^ m - 1 : Nat) : Int) := by rw [Int.ofNat_sub hp]; simp
 rw [andI, e, u64_and_nat X (2 ^ m - 1) (by omega) (by omega), Nat.and_two_pow_sub_one_eq_mod]
 simp
theorem fits_eq (l : Lt) (n : Nat) (hl : okLt l) (h1 : 1 ≤ n) (h2 : n ≤ 128) : (andI l.2.1 (maskH n) == l.2.1 && andI l.2.2 (maskL n) == l.2.2) = fitsB (n : Int) l := by
 obtain ⟨-, ⟨a0, a1⟩, b0, b1⟩ := hl
 unfold fitsB numV maskH maskL
 rw [Int.toNat_natCast]
 rw [Bool.eq_iff_iff]
 simp only [Bool.and_eq_true, beq_iff_eq, decide_eq_true_eq]
 by_cases h : n ≤ 64
 ·rw [if_pos h, if_pos h, and_mask _ n b0 b1 h]
  have e0 : andI l.2.1 0 = 0 := by have := and_mask l.2.1 0 a0 a1 (by omega); simpa using this
  rw [e0]
  have hp : (0 : Int) < 2 ^ n := Int.pow_pos (by omega)
  have hle : (2 : Int) ^ n ≤ 18446744073709551616 := by
   have h3 : (2 : Nat) ^ n ≤ 18446744073709551616 := Nat.le_trans (Nat.pow_le_pow_right (by omega) h) (by decide)
   have h4 := Int.ofNat_le.2 h3
   rw [Int.natCast_pow] at h4
   exact h4
  constructor
  ·rintro ⟨h3, h4⟩
   have := Int.emod_lt_of_pos l.2.2 hp
   omega
  ·intro h3
   have : l.2.1 = 0 := by omega
   exact ⟨this.symm, Int.emod_eq_of_lt b0 (by omega)⟩
 ·rw [if_neg h, if_neg h, and_mask _ (n - 64) a0 a1 (by omega)]
  have e1 : andI l.2.2 18446744073709551615 = l.2.2 := by
   have := and_mask l.2.2 64 b0 b1 (by omega)
   rw [Int.emod_eq_of_lt b0 (by simpa using b1)] at this
   simpa using this
  rw [e1]
  have hp : (0 : Int) < 2 ^ (n - 64) := Int.pow_pos (by omega)
  have hs : (2 : Int) ^ n = 2 ^ (n - 64) * 18446744073709551616 := by
   have : (2 : Int) ^ (n - 64 + 64) = 2 ^ (n - 64) * 2 ^ 64 := Int.pow_add 2 (n - 64) 64
   rw [show n - 64 + 64 = n by omega] at this
   simpa using this
  rw [hs]
  generalize (2 : Int) ^ (n - 64) = q at *
  constructor
  ·rintro ⟨h3, -⟩
   have := Int.emod_lt_of_pos l.2.1 hp
   have h5 : l.2.1 + 1 ≤ q := by omega
   have := Int.mul_le_mul_of_nonneg_right h5 (show (0 : Int) ≤ 18446744073709551616 by omega)
   omega
  ·intro h3
   refine ⟨Int.emod_eq_of_lt a0 ?_, rfl⟩
   rcases Int.lt_or_le l.2.1 q with h5 | h5
   ·exact h5
   ·have := Int.mul_le_mul_of_nonneg_right h5 (show (0 : Int) ≤ 18446744073709551616 by omega)
    omega
set_option maxHeartbeats 1000000 in
theorem isLit_any (l : Lt) (w : World) (hl : okLt l) : Calls Tryz.prog 100 #[.agg #[.int .i64 l.1, .int .u64 l.2.1, .int .u64 l.2.2]] w fun e w' => e = .returned (.bool (litB l)) ∧ Below w.heap.size w w' := by
 obtain ⟨wa, hwa, hsa, hba, hca, -⟩ := box1 w #[.int .i64 l.1, .int .u64 l.2.1, .int .u64 l.2.2] 62
 have x0 : wa.cell? ⟨w.heap.size, 0, none⟩ = some (.int .i64 l.1) := hca 0
 have x1 : wa.cell? ⟨w.heap.size, 1, none⟩ = some (.int .u64 l.2.1) := hca 1
 have x2 : wa.cell? ⟨w.heap.size, 2, none⟩ = some (.int .u64 l.2.2) := hca 2
 replace hba := hide hba
 clear hca
 have hle : w.heap.size ≤ wa.heap.size := by omega
 replace hsa := hide hsa
 by_cases h0 : l.1 = 0
 ·have hv := hide (show litB l = true from by simp [litB, h0])
  have h0' : (l.1 == 0) = true := beq_iff_eq.2 h0
  clear h0
  go_enter Tryz.func100, Tryz.ntmps100
  go_wp2
  go_ret
  exact ⟨ret_b (by rw [hv.out]), hba.out⟩
 ·have h0' : (l.1 == 0) = false := beq_eq_false_iff_ne.2 h0
  have hW := isWidth_any l.1 wa
  cases hw : widthB l.1 with
  | false =>
   rw [hw] at hW
   have hv := hide (show litB l = false from by simp [litB, h0, hw])
   replace hW := hide hW
   clear hw h0
   go_enter Tryz.func100, Tryz.ntmps100
   go_wp2_with (go_at_call 118; refine hW.out.mono ?_; rintro e w' ⟨rfl, rfl⟩)
   go_ret
   exact ⟨ret_b (by rw [hv.out]), hba.out⟩
  | true =>
   rw [hw] at hW
   have hn : 1 ≤ l.1 ∧ l.1 ≤ 128 := by simpa [widthB] using hw
   obtain ⟨n, hn0⟩ := Int.eq_ofNat_of_zero_le (show 0 ≤ l.1 by omega)
   have hF := fits_any l.2.1 l.2.2 n wa (by omega) (by omega)
   rw [fits_eq l n hl (by omega) (by omega), ← hn0] at hF
   have hv := hide (show litB l = fitsB l.1 l from by simp [litB, h0, hw])
   generalize fitsB l.1 l = z at hv hF
   replace hW := hide hW
   replace hF := hide hF
   clear hw h0 hn hn0
   go_enter Tryz.func100, Tryz.ntmps100
   go_wp2_with (first | (go_at_call 118; refine hW.out.mono ?_; rintro e w' ⟨rfl, rfl⟩) | (go_at_call 46; refine hF.out.mono ?_; rintro e w1 ⟨rfl, hb1⟩))
   go_ret
   exact ⟨ret_b (by rw [hv.out]), hba.out.trans (hb1.mono (by omega))⟩
end Go.Proofs.YtmfpbahifhndjaaGreat

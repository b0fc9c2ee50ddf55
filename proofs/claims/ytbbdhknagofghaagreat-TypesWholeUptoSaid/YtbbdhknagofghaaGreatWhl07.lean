import Derived.Test.YtbbdhknagofghaaGreatWhl01
import Derived.Test.YtbbdhknagofghaaGreatWhl02
import Derived.Test.YtbbdhknagofghaaGreatShelf
import Derived.Test.YtbbdhknagofghaaGreatWhl06
import Derived.Laws.Shifts
import Derived.Laws.ShiftsVar
import Derived.StillTailTactics
set_option linter.all false
/-! Layer 3: names and keywords (the part of DnB, DnC, DnE that speaks of them). -/
namespace Go.Proofs.YtbbdhknagofghaaGreat
open Go.RowKit
set_option maxHeartbeats 400000 in
theorem isDigit_any (c : Int) (w : World) : Calls Tryz.prog 126 #[.int .u8 c] w fun e w' => e = .returned (.bool (digitB c)) ∧ w = w' := by
 go_enter Tryz.func126, Tryz.ntmps126
 go_wp2
 all_goals
  go_ret
  exact ⟨ret_bool (by simp [digitB]; omega), rfl⟩
set_option maxHeartbeats 400000 in
theorem isWord_any (c : Int) (w : World) : Calls Tryz.prog 186 #[.int .u8 c] w fun e w' => e = .returned (.bool (wordB c)) ∧ w = w' := by
 go_enter Tryz.func186, Tryz.ntmps186
 go_wp2_with (go_at_call 126; refine (isDigit_any _ _).mono ?_; rintro e w' ⟨rfl, rfl⟩)
 all_goals
  go_ret
  refine ⟨ret_bool ?_, rfl⟩
  simp only [digitB, decide_eq_true_eq, decide_eq_false_iff_not] at *
  simp [wordB, digitB, letterB]; try omega
set_option maxHeartbeats 400000 in
theorem word_any (s : ByteArray) (w : World) (hs : s.size ≤ maxLen) :
  Calls Tryz.prog 125 #[.string s] w fun e w' => e = .returned (.string (s.extract 0 (wlen s))) ∧ w = w' := by
 have hl : s.size ≤ 9223372036854775807 := hs
 go_enter Tryz.func125, Tryz.ntmps125
 go_wp2
 go_loop [3] (fun i => ∃ k : Nat, k ≤ s.size ∧ i = .int .i64 k ∧ k ≤ wlen s) (fun i => s.size - (intOf i).toNat)
 case atStart => exact ⟨0, Nat.zero_le _, rfl, Nat.zero_le _⟩
 case round =>
  obtain ⟨k, hk, rfl, hc⟩ := hrel
  by_cases hlt : k < s.size
  ·go_wp2_with (go_at_call 186; refine (isWord_any _ _).mono ?_; rintro e w' ⟨rfl, rfl⟩)
   ·go_round
    case rel => exact ⟨k + 1, by omega, by go_num, wlen_succ hlt hc (by assumption)⟩
    case measure => simp [intOf]; omega
   ·go_ret
    rw [wlen_stop hlt hc (by assumption)]
    exact ⟨rfl, rfl⟩
  ·go_wp2_with (go_at_call 186; refine (isWord_any _ _).mono ?_; rintro e w' ⟨rfl, rfl⟩)
   go_ret
   rw [wlen_end hk hlt hc]
   exact ⟨rfl, rfl⟩
set_option maxHeartbeats 400000 in
theorem isKeyword_any (s : ByteArray) (m : Int) (w : World) (hs : s.size < 4294967281) (hm : w.cell? ⟨0, 0, none⟩ = some (.int .i64 m)) :
  Calls Tryz.prog 127 #[.string s] w fun e w' => e = .returned (.bool (kwB s)) ∧ w = w' := by
 go_enter Tryz.func127, Tryz.ntmps127
 by_cases h0 : s.toList = []
 ·have h0' : s.toList.isEmpty = true := by simp [h0]
  go_wp2
  go_ret
  exact ⟨ret_b (kwB_empty h0).symm, rfl⟩
 ·have h0' : s.toList.isEmpty = false := by simp [h0]
  go_wp2_with fail
  refine (Tryz.strings_Contains _ _ m _ hs hm).mono ?_
  rintro e w' ⟨rfl, rfl⟩
  cases hb : Go.Lib.contains s.data.toList (ByteArray.mk #[32]).data.toList with
  | true =>
   go_wp2_with fail
   go_ret
   exact ⟨ret_b (kwB_blank hb).symm, rfl⟩
  | false =>
   go_wp2_with fail
   refine (Tryz.strings_Contains _ _ m _ (by decide +kernel) hm).mono ?_
   rintro e w' ⟨rfl, rfl⟩
   rw [kwB_eq s _ (by decide +kernel) h0 (by assumption)]
   go_wp2_with fail
   go_ret
   exact ⟨rfl, rfl⟩
set_option maxHeartbeats 1000000 in
theorem isName_any (s : ByteArray) (m : Int) (w : World) (hs : s.size ≤ maxLen) (hm : w.cell? ⟨0, 0, none⟩ = some (.int .i64 m)) :
  Calls Tryz.prog 58 #[.string s] w fun e w' => e = .returned (.bool (nameB s)) ∧ w = w' := by
 have hn := hide (nameB_eq s)
 go_enter Tryz.func58, Tryz.ntmps58
 cases ha : ((s.extract 0 (wlen s)).toList == s.toList) with
 | false =>
  go_wp2_with (go_at_call 125; refine (word_any _ _ hs).mono ?_; rintro e w' ⟨rfl, rfl⟩)
  go_ret
  exact ⟨ret_b (by rw [hn.out, ha]; rfl), rfl⟩
 | true =>
  by_cases h0 : 0 < s.size
  ·have h0' : s.toList.isEmpty = false := isEmpty_false h0
   by_cases h16 : s.size ≤ 16
   ·cases hd : digitB (s[0].toNat : Nat) with
    | true =>
     go_wp2_with (first | (go_at_call 125; refine (word_any _ _ hs).mono ?_; rintro e w' ⟨rfl, rfl⟩) | (go_at_call 126; refine (isDigit_any _ _).mono ?_; rintro e w' ⟨rfl, rfl⟩))
     go_ret
     exact ⟨ret_b (by rw [hn.out, headD_eq h0, hd]; simp), rfl⟩
    | false =>
     go_wp2_with (first | (go_at_call 125; refine (word_any _ _ hs).mono ?_; rintro e w' ⟨rfl, rfl⟩) | (go_at_call 126; refine (isDigit_any _ _).mono ?_; rintro e w' ⟨rfl, rfl⟩) | (go_at_call 127; refine (isKeyword_any _ m _ (by omega) hm).mono ?_; rintro e w' ⟨rfl, rfl⟩))
     go_ret
     exact ⟨ret_b (by rw [hn.out, headD_eq h0, hd, ha, h0']; simp [h16]), rfl⟩
   ·go_wp2_with (go_at_call 125; refine (word_any _ _ hs).mono ?_; rintro e w' ⟨rfl, rfl⟩)
    go_ret
    exact ⟨ret_b (by rw [hn.out]; simp [h16]), rfl⟩
  ·have h0' : s.toList.isEmpty = true := isEmpty_true h0
   go_wp2_with (go_at_call 125; refine (word_any _ _ hs).mono ?_; rintro e w' ⟨rfl, rfl⟩)
   go_ret
   exact ⟨ret_b (by rw [hn.out, h0']; simp), rfl⟩
end Go.Proofs.YtbbdhknagofghaaGreat
/-! Layer 4's small questions: widths, targets, names that are asked for, fields. -/
namespace Go.Proofs.YtbbdhknagofghaaGreat
open Go.RowKit
theorem lit_iff {s : ByteArray} (l : List UInt8) : s = ByteArray.mk l.toArray ↔ s.toList = l := by
 rw [ByteArray.toList_eq]
 constructor
 ·intro h; rw [h]
 ·intro h; rw [← h]
theorem acc_iff {s : ByteArray} : s = accS ↔ s.toList = [97, 99, 99, 101, 112, 116] := lit_iff _
theorem rej_iff {s : ByteArray} : s = rejS ↔ s.toList = [114, 101, 106, 101, 99, 116] := lit_iff _
theorem emp_iff {s : ByteArray} : s = strE ↔ s.toList = [] := lit_iff _
set_option maxHeartbeats 400000 in
theorem isWidth_any (n : Int) (w : World) : Calls Tryz.prog 119 #[.int .i64 n] w fun e w' => e = .returned (.bool (widthB n)) ∧ w = w' := by
 go_enter Tryz.func119, Tryz.ntmps119
 by_cases h1 : 1 ≤ n
 ·by_cases h2 : n ≤ 128
  ·go_wp2
   go_ret
   exact ⟨ret_b (by simp [widthB, h1, h2]), rfl⟩
  ·go_wp2
   go_ret
   exact ⟨ret_b (by simp [widthB, h2]), rfl⟩
 ·go_wp2
  go_ret
  exact ⟨ret_b (by simp [widthB]; omega), rfl⟩
set_option maxHeartbeats 1000000 in
theorem isTarget_any (s : ByteArray) (m : Int) (w : World) (hs : s.size ≤ maxLen) (hm : w.cell? ⟨0, 0, none⟩ = some (.int .i64 m)) :
  Calls Tryz.prog 134 #[.string s] w fun e w' => e = .returned (.bool (targetB s)) ∧ w = w' := by
 go_enter Tryz.func134, Tryz.ntmps134
 by_cases h1 : s = accS
 ·have e1 := acc_iff.1 h1
  have hv := hide (show targetB s = true from by simp [targetB, h1])
  clear h1
  go_wp2
  go_ret
  exact ⟨ret_b hv.out.symm, rfl⟩
 ·have e1 := fun h => h1 (acc_iff.2 h)
  by_cases h2 : s = rejS
  ·have e2 := rej_iff.1 h2
   have hv := hide (show targetB s = true from by simp [targetB, h2])
   clear h1 h2
   go_wp2
   go_ret
   exact ⟨ret_b hv.out.symm, rfl⟩
  ·have e2 := fun h => h2 (rej_iff.2 h)
   have hv := hide (show targetB s = nameB s from by simp [targetB, h1, h2])
   clear h1 h2
   go_wp2_with (go_at_call 58; refine (isName_any s m _ hs hm).mono ?_; rintro e w' ⟨rfl, rfl⟩)
   go_ret
   exact ⟨ret_b (by rw [hv.out, beq_eq_false_iff_ne.2 e1, beq_eq_false_iff_ne.2 e2]; rfl), rfl⟩
set_option maxHeartbeats 1000000 in
theorem named_any (s : ByteArray) (b : Bool) (m : Int) (w : World) (hs : s.size ≤ maxLen) (hm : w.cell? ⟨0, 0, none⟩ = some (.int .i64 m)) :
  Calls Tryz.prog 48 #[.string s, .bool b] w fun e w' => e = .returned (.bool (namedB s b)) ∧ w = w' := by
 go_enter Tryz.func48, Tryz.ntmps48
 cases b with
 | true =>
  cases hn : nameB s with
  | true =>
   have hv := hide hn
   have hc := isName_any s m w hs hm
   rw [hn] at hc
   clear hn
   go_wp2_with (go_at_call 58; refine hc.mono ?_; rintro e w' ⟨rfl, rfl⟩)
   go_ret
   exact ⟨ret_b (by simp [namedB, hv.out]), rfl⟩
  | false =>
   have hv := hide hn
   have hc := isName_any s m w hs hm
   rw [hn] at hc
   clear hn
   go_wp2_with (go_at_call 58; refine hc.mono ?_; rintro e w' ⟨rfl, rfl⟩)
   go_ret
   exact ⟨ret_b (by simp [namedB, hv.out]), rfl⟩
 | false =>
  by_cases h1 : s = strE
  ·have e1 := emp_iff.1 h1
   have hv := hide (show namedB s false = true from by simp [namedB, h1])
   clear h1
   go_wp2
   go_ret
   exact ⟨ret_b hv.out.symm, rfl⟩
  ·have e1 := fun h => h1 (emp_iff.2 h)
   have hv := hide (show namedB s false = false from by simp [namedB, h1])
   clear h1
   go_wp2
   go_ret
   exact ⟨ret_b (by rw [hv.out]; simpa using e1), rfl⟩
set_option maxHeartbeats 1000000 in
theorem isField_any (f : Fd) (m : Int) (w : World) (hs : f.1.size ≤ maxLen) (hm : w.cell? ⟨0, 0, none⟩ = some (.int .i64 m)) :
  Calls Tryz.prog 60 #[.agg #[.string f.1, .int .i64 f.2]] w fun e w' => e = .returned (.bool (fdB f)) ∧ Below w.heap.size w w' := by
 obtain ⟨wb, hwb, hsz, hw, hcb, -⟩ := box1 w #[.string f.1, .int .i64 f.2] 84
 have y0 : wb.cell? ⟨w.heap.size, 0, none⟩ = some (.string f.1) := hcb 0
 have y1 : wb.cell? ⟨w.heap.size, 1, none⟩ = some (.int .i64 f.2) := hcb 1
 have hm' : wb.cell? ⟨0, 0, none⟩ = some (.int .i64 m) := (hw.cell (p := ⟨0, 0, none⟩) (World.block_lt_of_cell? w _ hm)).trans hm
 have hc := isName_any f.1 m wb hs hm'
 have hv := hide (show fdB f = (nameB f.1 && widthB f.2) from rfl)
 replace hw := hide hw
 clear hcb hm hm'
 go_enter Tryz.func60, Tryz.ntmps60
 cases hn : nameB f.1 with
 | true =>
  rw [hn] at hc hv
  clear hn
  go_wp2_with (first | (go_at_call 58; refine hc.mono ?_; rintro e w' ⟨rfl, rfl⟩) | (go_at_call 119; refine (isWidth_any _ _).mono ?_; rintro e w' ⟨rfl, rfl⟩))
  go_ret
  exact ⟨ret_b (by rw [hv.out]; simp), hw.out⟩
 | false =>
  rw [hn] at hc hv
  clear hn
  go_wp2_with (go_at_call 58; refine hc.mono ?_; rintro e w' ⟨rfl, rfl⟩)
  go_ret
  exact ⟨ret_b (by rw [hv.out]; simp), hw.out⟩
end Go.Proofs.YtbbdhknagofghaaGreat
/-! Layer 1: numbers' masks. -/
namespace Go.Proofs.YtbbdhknagofghaaGreat
open Go.RowKit
set_option maxHeartbeats 400000 in
theorem shift_any (k : Int) (w : World) (h0 : 0 ≤ k) (h1 : k ≤ 128) : Calls Tryz.prog 232 #[.int .i64 k] w fun e w' => e = .returned (.int .u64 k) ∧ w = w' := by
 have e1 : min k 128 = k := by omega
 have e2 : max 0 k = k := by omega
 go_enter Tryz.func232, Tryz.ntmps232
 go_wp2
 go_ret
 exact ⟨ret_int (by simp [e1, e2]), rfl⟩
theorem shr_lowN : ∀ k : Fin 64, (18446744073709551615 / 2 ^ k.val : Int) = 2 ^ (64 - k.val) - 1 ∧ bits .or .u64 (18446744073709551615 / 2 ^ k.val : Int) (IntKind.u64.wrap (18446744073709551615 * 2 ^ (64 - k.val))) = 18446744073709551615 := by decide +kernel
theorem shr_highN : ∀ k : Fin 64, (18446744073709551615 / 2 ^ k.val : Int) = 2 ^ (64 - k.val) - 1 := by decide +kernel
set_option maxHeartbeats 1000000 in
theorem shr_low (k : Nat) (w : World) (h1 : k < 64) : Calls Tryz.prog 226 #[.agg #[.int .u64 18446744073709551615, .int .u64 18446744073709551615], .int .i64 (k : Int)] w fun e w' => e = .returned (.agg #[.int .u64 ((2 : Int) ^ (64 - k) - 1), .int .u64 18446744073709551615]) ∧ Below w.heap.size w w' := by
 obtain ⟨q1, q2⟩ := shr_lowN ⟨k, h1⟩
 replace q1 := hide q1
 replace q2 := hide q2
 go_enter Tryz.func226, Tryz.ntmps226
 go_wp2_with (go_at_call 232; refine (shift_any _ _ (by omega) (by omega)).mono ?_; rintro e w' ⟨rfl, rfl⟩)
 refine bodyPost_ret (v := .agg #[.int .u64 (18446744073709551615 / 2 ^ k), .int .u64 (bits .or .u64 (18446744073709551615 / 2 ^ k : Int) (IntKind.u64.wrap (18446744073709551615 * 2 ^ (64 - k))))]) (by simp [results, Tryz.results226, go_sem]) rfl ⟨?_, ((Below.refl _ _).alloc (Nat.le_refl _) _).alloc (by simp) _⟩
 rw [q2.out, q1.out]
set_option maxHeartbeats 1000000 in
theorem shr_high (k : Nat) (w : World) (h1 : k < 64) : Calls Tryz.prog 226 #[.agg #[.int .u64 18446744073709551615, .int .u64 18446744073709551615], .int .i64 ((k : Int) + 64)] w fun e w' => e = .returned (.agg #[.int .u64 0, .int .u64 ((2 : Int) ^ (64 - k) - 1)]) ∧ Below w.heap.size w w' := by
 have q1 := hide (shr_highN ⟨k, h1⟩)
 go_enter Tryz.func226, Tryz.ntmps226
 go_wp2_with (go_at_call 232; refine (shift_any _ _ (by omega) (by omega)).mono ?_; rintro e w' ⟨rfl, rfl⟩)
 refine bodyPost_ret (v := .agg #[.int .u64 0, .int .u64 (18446744073709551615 / 2 ^ k)]) (by simp [results, Tryz.results226, go_sem]) rfl ⟨?_, ((Below.refl _ _).alloc (Nat.le_refl _) _).alloc (by simp) _⟩
 rw [q1.out]
/-- The halves of a number of so many ones. -/
def maskH (n : Nat) : Int := if n ≤ 64 then 0 else 2 ^ (n - 64) - 1
def maskL (n : Nat) : Int := if n ≤ 64 then 2 ^ n - 1 else 18446744073709551615
set_option maxHeartbeats 1000000 in
theorem mask_any (n : Nat) (w : World) (h1 : 1 ≤ n) (h2 : n ≤ 128) : Calls Tryz.prog 209 #[.int .i64 (n : Int)] w fun e w' => e = .returned (.agg #[.int .u64 (maskH n), .int .u64 (maskL n)]) ∧ Below w.heap.size w w' := by
 have e1 : min (n : Int) 128 = n := by omega
 have e2 : ¬ (n : Int) < 1 := by omega
 obtain ⟨wa, hwa, hsa, hba, hca, hfa⟩ := box1 w #[.int .u64 0, .int .u64 0] 40
 obtain ⟨wb, hwb, hsb, hbb, hcb, -⟩ := box1 wa #[.int .u64 18446744073709551615, .int .u64 18446744073709551615] 40
 have hw := hba.trans (hbb.mono (by omega))
 have x0 : wb.cell? ⟨w.heap.size, 0, none⟩ = some (.int .u64 0) := (hbb.cell (p := ⟨w.heap.size, 0, none⟩) (by show w.heap.size < _; omega)).trans (hca 0)
 have x1 : wb.cell? ⟨w.heap.size, 1, none⟩ = some (.int .u64 0) := (hbb.cell (p := ⟨w.heap.size, 1, none⟩) (by show w.heap.size < _; omega)).trans (hca 1)
 have f0 : ∀ i, wb.frozen? ⟨w.heap.size, i, none⟩ = false := fun i => (hbb.frozen (p := ⟨w.heap.size, i, none⟩) (by show w.heap.size < _; omega)).trans (hfa i)
 simp only [hsa] at hcb
 have y0 : wb.cell? ⟨w.heap.size + 1, 0, none⟩ = some (.int .u64 18446744073709551615) := hcb 0
 have y1 : wb.cell? ⟨w.heap.size + 1, 1, none⟩ = some (.int .u64 18446744073709551615) := hcb 1
 have hz : w.heap.size < wb.heap.size := by omega
 replace hw := hide hw
 replace hsb := hide hsb
 clear hca hcb hba hbb hfa
 by_cases h : n ≤ 64
 ·have hk := hide (shr_high (64 - n) wb (by omega))
  have ek : (128 : Int) - (n : Int) = ((64 - n : Nat) : Int) + 64 := by omega
  have hv := hide (show maskH n = 0 ∧ maskL n = 2 ^ (64 - (64 - n)) - 1 from by simp only [maskH, maskL, if_pos h]; rw [show 64 - (64 - n) = n by omega]; simp)
  go_enter Tryz.func209, Tryz.ntmps209
  go_wp2_with fail
  refine hk.out.mono ?_
  rintro e w1 ⟨rfl, hb⟩
  obtain ⟨hc, hf, hz1⟩ := bcell hb
  replace hb := hide hb
  go_wp2
  refine bodyPost_ret (v := .agg #[.int .u64 0, .int .u64 ((2 : Int) ^ (64 - (64 - n)) - 1)]) (by simp [results, Tryz.results209, go_sem, hc, hz, x0, x1]) rfl ⟨by rw [hv.out.1, hv.out.2], ?_⟩
  exact ((hw.out.trans (hb.out.mono (by omega))).setCell (by simp) _).setCell (by simp) _
 ·have hk := hide (shr_low (128 - n) wb (by omega))
  have ek : (128 : Int) - (n : Int) = ((128 - n : Nat) : Int) := by omega
  have hv := hide (show maskH n = 2 ^ (64 - (128 - n)) - 1 ∧ maskL n = 18446744073709551615 from by simp only [maskH, maskL, if_neg h]; rw [show 64 - (128 - n) = n - 64 by omega]; simp)
  go_enter Tryz.func209, Tryz.ntmps209
  go_wp2_with fail
  refine hk.out.mono ?_
  rintro e w1 ⟨rfl, hb⟩
  obtain ⟨hc, hf, hz1⟩ := bcell hb
  replace hb := hide hb
  go_wp2
  refine bodyPost_ret (v := .agg #[.int .u64 ((2 : Int) ^ (64 - (128 - n)) - 1), .int .u64 18446744073709551615]) (by simp [results, Tryz.results209, go_sem, hc, hz, x0, x1]) rfl ⟨by rw [hv.out.1, hv.out.2], ?_⟩
  exact ((hw.out.trans (hb.out.mono (by omega))).setCell (by simp) _).setCell (by simp) _
def andI (a b : Int) : Int := bits .and .u64 a b
set_option maxHeartbeats 400000 in
theorem and1_any (a b : Int) (w : World) : Calls Tryz.prog 225 #[.int .u64 a, .int .u64 b] w fun e w' => e = .returned (.int .u64 (andI a b)) ∧ w' = w := by
 go_enter Tryz.func225, Tryz.ntmps225
 go_wp2
 go_ret
 exact ⟨rfl, rfl⟩
theorem enters_and1 : ∀ args w, (callFunc 225 args).run Tryz.prog w = .ok (.enter 225 args) w := enters_of Tryz.func225 (by kernel_rfl) rfl
set_option maxRecDepth 100000 in
set_option maxHeartbeats 1000000 in
theorem both_any (a b c d : Int) (w : World) : Calls Tryz.prog 224 #[.agg #[.int .u64 a, .int .u64 b], .agg #[.int .u64 c, .int .u64 d], .func (.func 225) #[] #[]] w fun e w' => e = .returned (.agg #[.int .u64 (andI a c), .int .u64 (andI b d)]) ∧ Below w.heap.size w w' := by
 have eg := enters_and1
 go_enter Tryz.func224, Tryz.ntmps224
 go_wp2_with fail
 refine wp_region_still_tail 13 (by kernel_rfl) (by kernel_rfl) ?_
 simp only [List.take_succ_cons, List.take_zero, List.drop_succ_cons, List.drop_zero]
 change wpStill _ _ (World.drew _) _ _ _
 iterate 5 still_step
 still_call (and1_any _ _ _)
 iterate 5 still_step
 still_call (and1_any _ _ _)
 still_step
 refine wpStill_nil ?_
 change wpList _ _ _ _ _ (World.drew _)
 have hb3 : Below w.heap.size w (((w.alloc (.cells #[.int .u64 a, .int .u64 b] 40)).alloc (.cells #[.int .u64 c, .int .u64 d] 40)).alloc (.cells #[.int .u64 0, .int .u64 0] 40)).drew := ((((Below.refl _ _).alloc (Nat.le_refl _) _).alloc (by simp) _).alloc (by simp; omega) _).drew
 have n0 : (((w.alloc (.cells #[.int .u64 a, .int .u64 b] 40)).alloc (.cells #[.int .u64 c, .int .u64 d] 40)).alloc (.cells #[.int .u64 0, .int .u64 0] 40)).drew.heap[w.heap.size + 1 + 1]? = some (.cells #[.int .u64 0, .int .u64 0] 40) := by
  have := heap_alloc_new ((w.alloc (.cells #[.int .u64 a, .int .u64 b] 40)).alloc (.cells #[.int .u64 c, .int .u64 d] 40)) (.cells #[.int .u64 0, .int .u64 0] 40)
  rw [World.size_alloc, World.size_alloc] at this
  exact this
 generalize hwd : (((w.alloc (.cells #[.int .u64 a, .int .u64 b] 40)).alloc (.cells #[.int .u64 c, .int .u64 d] 40)).alloc (.cells #[.int .u64 0, .int .u64 0] 40)).drew = wd at hb3 n0
 clear hwd
 have m0 : wd.cell? ⟨w.heap.size + 1 + 1, 0, none⟩ = some (.int .u64 0) := by simp [World.cell?, n0]
 have m1 : wd.cell? ⟨w.heap.size + 1 + 1, 1, none⟩ = some (.int .u64 0) := by simp [World.cell?, n0]
 have m2 : wd.frozen? ⟨w.heap.size + 1 + 1, 0, none⟩ = false := by simp [World.frozen?, n0]
 have m3 : wd.frozen? ⟨w.heap.size + 1 + 1, 1, none⟩ = false := by simp [World.frozen?, n0]
 have m4 : w.heap.size + 1 + 1 < wd.heap.size := (Array.getElem?_eq_some_iff.1 n0).1
 replace hb3 := hide hb3
 replace n0 := hide n0
 go_wp2
 refine bodyPost_ret (v := .agg #[.int .u64 (andI a c), .int .u64 (andI b d)]) (by simp [results, Tryz.results224, go_sem, m0, m1, m4]) rfl ⟨rfl, (hb3.out.setCell (by simp; omega) _).setCell (by simp; omega) _⟩
set_option maxHeartbeats 1000000 in
theorem and_any (a b c d : Int) (w : World) : Calls Tryz.prog 208 #[.agg #[.int .u64 a, .int .u64 b], .agg #[.int .u64 c, .int .u64 d]] w fun e w' => e = .returned (.agg #[.int .u64 (andI a c), .int .u64 (andI b d)]) ∧ Below w.heap.size w w' := by
 obtain ⟨wa, hwa, hsa, hba, hca, -⟩ := box1 w #[.int .u64 a, .int .u64 b] 40
 obtain ⟨wb, hwb, hsb, hbb, hcb, -⟩ := box1 wa #[.int .u64 c, .int .u64 d] 40
 obtain ⟨wc, hwc, hsc, hbc, hcc, hfc⟩ := box1 wb #[.int .u64 0, .int .u64 0] 40
 have hw := hba.trans ((hbb.mono (by omega)).trans (hbc.mono (by omega)))
 have x0 : wc.cell? ⟨w.heap.size, 0, none⟩ = some (.int .u64 a) := (hbc.cell (p := ⟨w.heap.size, 0, none⟩) (by show w.heap.size < _; omega)).trans ((hbb.cell (p := ⟨w.heap.size, 0, none⟩) (by show w.heap.size < _; omega)).trans (hca 0))
 have x1 : wc.cell? ⟨w.heap.size, 1, none⟩ = some (.int .u64 b) := (hbc.cell (p := ⟨w.heap.size, 1, none⟩) (by show w.heap.size < _; omega)).trans ((hbb.cell (p := ⟨w.heap.size, 1, none⟩) (by show w.heap.size < _; omega)).trans (hca 1))
 simp only [hsa] at hcb
 have y0 : wc.cell? ⟨w.heap.size + 1, 0, none⟩ = some (.int .u64 c) := (hbc.cell (p := ⟨w.heap.size + 1, 0, none⟩) (by show w.heap.size + 1 < _; omega)).trans (hcb 0)
 have y1 : wc.cell? ⟨w.heap.size + 1, 1, none⟩ = some (.int .u64 d) := (hbc.cell (p := ⟨w.heap.size + 1, 1, none⟩) (by show w.heap.size + 1 < _; omega)).trans (hcb 1)
 simp only [hsb, hsa] at hcc hfc
 have z0 : wc.cell? ⟨w.heap.size + 1 + 1, 0, none⟩ = some (.int .u64 0) := hcc 0
 have z1 : wc.cell? ⟨w.heap.size + 1 + 1, 1, none⟩ = some (.int .u64 0) := hcc 1
 have hk3 : w.heap.size + 1 + 1 < wc.heap.size := by omega
 have hB := hide (both_any a b c d wc)
 replace hw := hide hw
 replace hsc := hide hsc
 clear hca hcb hcc hba hbb hbc
 go_enter Tryz.func208, Tryz.ntmps208
 go_wp2_with fail
 refine hB.out.mono ?_
 rintro e w1 ⟨rfl, hb⟩
 obtain ⟨hc, hf, hz1⟩ := bcell hb
 replace hb := hide hb
 have m0 : w1.cell? ⟨w.heap.size + 1 + 1, 0, none⟩ = some (.int .u64 0) := (hc _ _ hk3).trans z0
 have m1 : w1.cell? ⟨w.heap.size + 1 + 1, 1, none⟩ = some (.int .u64 0) := (hc _ _ hk3).trans z1
 have m2 : w1.frozen? ⟨w.heap.size + 1 + 1, 0, none⟩ = false := (hf _ _ hk3).trans (hfc 0)
 have m3 : w1.frozen? ⟨w.heap.size + 1 + 1, 1, none⟩ = false := (hf _ _ hk3).trans (hfc 1)
 have m4 : w.heap.size + 1 + 1 < w1.heap.size := by omega
 clear hc hf hfc
 go_wp2
 refine bodyPost_ret (v := .agg #[.int .u64 (andI a c), .int .u64 (andI b d)]) (by simp [results, Tryz.results208, go_sem, m0, m1, m4]) rfl ⟨rfl, ((hw.out.trans (hb.out.mono (by omega))).setCell (by simp; omega) _).setCell (by simp; omega) _⟩
set_option maxHeartbeats 1000000 in
theorem cut_any (a b : Int) (n : Nat) (w : World) (h1 : 1 ≤ n) (h2 : n ≤ 128) : Calls Tryz.prog 161 #[.agg #[.int .u64 a, .int .u64 b], .int .i64 (n : Int)] w fun e w' => e = .returned (.agg #[.int .u64 (andI a (maskH n)), .int .u64 (andI b (maskL n))]) ∧ Below w.heap.size w w' := by
 obtain ⟨wa, hwa, hsa, hba, hca, -⟩ := box1 w #[.int .u64 a, .int .u64 b] 40
 obtain ⟨wc, hwc, hsc, hbc, hcc, hfc⟩ := box1 wa #[.int .u64 0, .int .u64 0] 40
 have hw := hba.trans (hbc.mono (by omega))
 have x0 : wc.cell? ⟨w.heap.size, 0, none⟩ = some (.int .u64 a) := (hbc.cell (p := ⟨w.heap.size, 0, none⟩) (by show w.heap.size < _; omega)).trans (hca 0)
 have x1 : wc.cell? ⟨w.heap.size, 1, none⟩ = some (.int .u64 b) := (hbc.cell (p := ⟨w.heap.size, 1, none⟩) (by show w.heap.size < _; omega)).trans (hca 1)
 simp only [hsa] at hcc hfc
 have z0 : wc.cell? ⟨w.heap.size + 1, 0, none⟩ = some (.int .u64 0) := hcc 0
 have z1 : wc.cell? ⟨w.heap.size + 1, 1, none⟩ = some (.int .u64 0) := hcc 1
 have hk2 : w.heap.size < wc.heap.size := by omega
 have hk3 : w.heap.size + 1 < wc.heap.size := by omega
 have hM := hide (fun W => mask_any n W h1 h2)
 have hA := hide (fun W => and_any a b (maskH n) (maskL n) W)
 replace hw := hide hw
 replace hsc := hide hsc
 clear hca hcc hba hbc
 generalize maskH n = mh at *
 generalize maskL n = ml at *
 go_enter Tryz.func161, Tryz.ntmps161
 go_wp2_with fail
 go_region_with (first | (go_at_call 209; refine (hM.out _).mono ?_; rintro e w1 ⟨rfl, hb⟩; have u0 : w1.cell? ⟨w.heap.size, 0, none⟩ = some (.int .u64 a) := (hb.cell (p := ⟨w.heap.size, 0, none⟩) hk2).trans x0; have u1 : w1.cell? ⟨w.heap.size, 1, none⟩ = some (.int .u64 b) := (hb.cell (p := ⟨w.heap.size, 1, none⟩) hk2).trans x1; have v0 : w1.cell? ⟨w.heap.size + 1, 0, none⟩ = some (.int .u64 0) := (hb.cell (p := ⟨w.heap.size + 1, 0, none⟩) hk3).trans z0; have v1 : w1.cell? ⟨w.heap.size + 1, 1, none⟩ = some (.int .u64 0) := (hb.cell (p := ⟨w.heap.size + 1, 1, none⟩) hk3).trans z1; have t0 : w1.frozen? ⟨w.heap.size + 1, 0, none⟩ = false := (hb.frozen (p := ⟨w.heap.size + 1, 0, none⟩) hk3).trans (hfc 0); have t1 : w1.frozen? ⟨w.heap.size + 1, 1, none⟩ = false := (hb.frozen (p := ⟨w.heap.size + 1, 1, none⟩) hk3).trans (hfc 1); have k1 : w.heap.size + 1 < w1.heap.size := Nat.lt_of_lt_of_le hk3 hb.size; replace hb := hide hb) | (go_at_call 208; refine (hA.out _).mono ?_; rintro e w2 ⟨rfl, hb2⟩; have v2 : w2.cell? ⟨w.heap.size + 1, 0, none⟩ = some (.int .u64 0) := (hb2.cell (p := ⟨w.heap.size + 1, 0, none⟩) k1).trans v0; have v3 : w2.cell? ⟨w.heap.size + 1, 1, none⟩ = some (.int .u64 0) := (hb2.cell (p := ⟨w.heap.size + 1, 1, none⟩) k1).trans v1; have t2 : w2.frozen? ⟨w.heap.size + 1, 0, none⟩ = false := (hb2.frozen (p := ⟨w.heap.size + 1, 0, none⟩) k1).trans t0; have t3 : w2.frozen? ⟨w.heap.size + 1, 1, none⟩ = false := (hb2.frozen (p := ⟨w.heap.size + 1, 1, none⟩) k1).trans t1; have k2 : w.heap.size + 1 < w2.heap.size := Nat.lt_of_lt_of_le k1 hb2.size; replace hb2 := hide hb2))
 all_goals
  go_wp2
  refine bodyPost_ret (v := .agg #[.int .u64 (andI a mh), .int .u64 (andI b ml)]) (by simp [results, Tryz.results161, go_sem, v2, v3, k2]) rfl ⟨rfl, ((((hw.out.drew).trans (hb.out.mono (by show w.heap.size ≤ wc.heap.size; omega))).trans (hb2.out.mono (by omega))).setCell (by simp) _).setCell (by simp) _⟩
end Go.Proofs.YtbbdhknagofghaaGreat
/-! Layer 1: Fits; layer 4: isLit. -/
namespace Go.Proofs.YtbbdhknagofghaaGreat
open Go.RowKit
set_option maxHeartbeats 1000000 in
theorem fits_any (a b : Int) (n : Nat) (w : World) (h1 : 1 ≤ n) (h2 : n ≤ 128) : Calls Tryz.prog 95 #[.agg #[.int .u64 a, .int .u64 b], .int .i64 (n : Int)] w fun e w' => e = .returned (.bool (andI a (maskH n) == a && andI b (maskL n) == b)) ∧ Below w.heap.size w w' := by
 obtain ⟨wa, hwa, hsa, hba, hca, -⟩ := box1 w #[.int .u64 a, .int .u64 b] 40
 have x0 : wa.cell? ⟨w.heap.size, 0, none⟩ = some (.int .u64 a) := hca 0
 have x1 : wa.cell? ⟨w.heap.size, 1, none⟩ = some (.int .u64 b) := hca 1
 have hk2 : w.heap.size < wa.heap.size := by omega
 have hM : ∀ d os, Hid (Calls Tryz.prog 161 #[.agg #[.int .u64 a, .int .u64 b], .int .i64 (n : Int)] (Go.Sort.grow (redrawn wa d) os) _) := fun d os => hide (cut_any a b n _ h1 h2)
 have hg := gcell' (show Below wa.heap.size wa wa from Below.refl _ _) (Nat.le_refl _)
 replace hba := hide hba
 replace hsa := hide hsa
 clear hca
 have hfin := hide (fun w1 (h : Below wa.heap.size wa w1) => hba.out.trans (h.mono (show w.heap.size ≤ wa.heap.size by omega)))
 generalize andI a (maskH n) = mh at *
 generalize andI b (maskL n) = ml at *
 by_cases e1 : mh = a
 ·subst e1
  by_cases e2 : ml = b
  ·subst e2
   go_enter Tryz.func95, Tryz.ntmps95
   go_wp2_with fail
   refine wp_region_quiet_below (by kernel_rfl) (by kernel_rfl) ?_
   repeat (any_goals (first | go_big_quiet_step (first | (go_at_call 161; with_reducible exact Calls.regrown_of (hM _ _).out) | fail) | quiet_step (first | (go_at_call 161; with_reducible exact Calls.regrown_of (hM _ _).out) | fail)))
   refine wpQuiet_nil ?_
   intro w1 hw1
   replace hw1 := below_of_regrown hw1
   go_wp2
   go_ret
   exact ⟨ret_b (by simp), hfin.out _ hw1⟩
  ·have hv := hide (beq_eq_false_iff_ne.2 e2)
   go_enter Tryz.func95, Tryz.ntmps95
   go_wp2_with fail
   refine wp_region_quiet_below (by kernel_rfl) (by kernel_rfl) ?_
   repeat (any_goals (first | go_big_quiet_step (first | (go_at_call 161; with_reducible exact Calls.regrown_of (hM _ _).out) | fail) | quiet_step (first | (go_at_call 161; with_reducible exact Calls.regrown_of (hM _ _).out) | fail)))
   refine wpQuiet_nil ?_
   intro w1 hw1
   replace hw1 := below_of_regrown hw1
   go_wp2
   go_ret
   exact ⟨ret_b (by rw [hv.out]; simp), hfin.out _ hw1⟩
 ·have hv := hide (beq_eq_false_iff_ne.2 e1)
  go_enter Tryz.func95, Tryz.ntmps95
  go_wp2_with fail
  refine wp_region_quiet_below (by kernel_rfl) (by kernel_rfl) ?_
  repeat (any_goals (first | go_big_quiet_step (first | (go_at_call 161; with_reducible exact Calls.regrown_of (hM _ _).out) | fail) | quiet_step (first | (go_at_call 161; with_reducible exact Calls.regrown_of (hM _ _).out) | fail)))
  refine wpQuiet_nil ?_
  intro w1 hw1
  replace hw1 := below_of_regrown hw1
  go_wp2
  go_ret
  exact ⟨ret_b (by rw [hv.out]; simp), hfin.out _ hw1⟩
theorem and_mask (x : Int) (m : Nat) (h0 : 0 ≤ x) (h1 : x < 18446744073709551616) (hm : m ≤ 64) : andI x (2 ^ m - 1) = x % 2 ^ m := by
 obtain ⟨X, rfl⟩ := Int.eq_ofNat_of_zero_le h0
 have hp : 0 < 2 ^ m := Nat.two_pow_pos m
 have hle : 2 ^ m ≤ 2 ^ 64 := Nat.pow_le_pow_right (by omega) hm
 have e : ((2 : Int) ^ m - 1) = ((2 ^ m - 1 : Nat) : Int) := by rw [Int.ofNat_sub hp]; simp
 rw [andI, e, u64_and_nat X (2 ^ m - 1) (by omega) (by omega), Nat.and_two_pow_sub_one_eq_mod]
 simp
theorem fits_eq (l : Lt) (n : Nat) (hl : okLt l) (h1 : 1 ≤ n) (h2 : n ≤ 128) : (andI l.2.1 (maskH n) == l.2.1 && andI l.2.2 (maskL n) == l.2.2) = fitsB (n : Int) l := by
 obtain ⟨-, ⟨a0, a1⟩, b0, b1⟩ := hl
 unfold fitsB numV maskH maskL
 rw [Int.toNat_natCast]
 rw [Bool.eq_iff_iff]
 simp only [Bool.and_eq_true, beq_iff_eq, decide_eq_true_eq]
 by_cases h : n ≤ 64
 ·rw [if_pos h, if_pos h, and_mask _ n b0 b1 h]
  have e0 : andI l.2.1 0 = 0 := by have := and_mask l.2.1 0 a0 a1 (by omega); simpa using this
  rw [e0]
  have hp : (0 : Int) < 2 ^ n := Int.pow_pos (by omega)
  have hle : (2 : Int) ^ n ≤ 18446744073709551616 := by
   have h3 : (2 : Nat) ^ n ≤ 18446744073709551616 := Nat.le_trans (Nat.pow_le_pow_right (by omega) h) (by decide)
   have h4 := Int.ofNat_le.2 h3
   rw [Int.natCast_pow] at h4
   exact h4
  constructor
  ·rintro ⟨h3, h4⟩
   have := Int.emod_lt_of_pos l.2.2 hp
   omega
  ·intro h3
   have : l.2.1 = 0 := by omega
   exact ⟨this.symm, Int.emod_eq_of_lt b0 (by omega)⟩
 ·rw [if_neg h, if_neg h, and_mask _ (n - 64) a0 a1 (by omega)]
  have e1 : andI l.2.2 18446744073709551615 = l.2.2 := by
   have := and_mask l.2.2 64 b0 b1 (by omega)
   rw [Int.emod_eq_of_lt b0 (by simpa using b1)] at this
   simpa using this
  rw [e1]
  have hp : (0 : Int) < 2 ^ (n - 64) := Int.pow_pos (by omega)
  have hs : (2 : Int) ^ n = 2 ^ (n - 64) * 18446744073709551616 := by
   have : (2 : Int) ^ (n - 64 + 64) = 2 ^ (n - 64) * 2 ^ 64 := Int.pow_add 2 (n - 64) 64
   rw [show n - 64 + 64 = n by omega] at this
   simpa using this
  rw [hs]
  generalize (2 : Int) ^ (n - 64) = q at *
  constructor
  ·rintro ⟨h3, -⟩
   have := Int.emod_lt_of_pos l.2.1 hp
   have h5 : l.2.1 + 1 ≤ q := by omega
   have := Int.mul_le_mul_of_nonneg_right h5 (show (0 : Int) ≤ 18446744073709551616 by omega)
   omega
  ·intro h3
   refine ⟨Int.emod_eq_of_lt a0 ?_, rfl⟩
   rcases Int.lt_or_le l.2.1 q with h5 | h5
   ·exact h5
   ·have := Int.mul_le_mul_of_nonneg_right h5 (show (0 : Int) ≤ 18446744073709551616 by omega)
    omega
set_option maxHeartbeats 1000000 in
theorem isLit_any (l : Lt) (w : World) (hl : okLt l) : Calls Tryz.prog 49 #[.agg #[.int .i64 l.1, .int .u64 l.2.1, .int .u64 l.2.2]] w fun e w' => e = .returned (.bool (litB l)) ∧ Below w.heap.size w w' := by
 obtain ⟨wa, hwa, hsa, hba, hca, -⟩ := box1 w #[.int .i64 l.1, .int .u64 l.2.1, .int .u64 l.2.2] 42
 have x0 : wa.cell? ⟨w.heap.size, 0, none⟩ = some (.int .i64 l.1) := hca 0
 have x1 : wa.cell? ⟨w.heap.size, 1, none⟩ = some (.int .u64 l.2.1) := hca 1
 have x2 : wa.cell? ⟨w.heap.size, 2, none⟩ = some (.int .u64 l.2.2) := hca 2
 replace hba := hide hba
 clear hca
 have hle : w.heap.size ≤ wa.heap.size := by omega
 replace hsa := hide hsa
 by_cases h0 : l.1 = 0
 ·have hv := hide (show litB l = true from by simp [litB, h0])
  have h0' : (l.1 == 0) = true := beq_iff_eq.2 h0
  clear h0
  go_enter Tryz.func49, Tryz.ntmps49
  go_wp2
  go_ret
  exact ⟨ret_b (by rw [hv.out]), hba.out⟩
 ·have h0' : (l.1 == 0) = false := beq_eq_false_iff_ne.2 h0
  have hW := isWidth_any l.1 wa
  cases hw : widthB l.1 with
  | false =>
   rw [hw] at hW
   have hv := hide (show litB l = false from by simp [litB, h0, hw])
   replace hW := hide hW
   clear hw h0
   go_enter Tryz.func49, Tryz.ntmps49
   go_wp2_with (go_at_call 119; refine hW.out.mono ?_; rintro e w' ⟨rfl, rfl⟩)
   go_ret
   exact ⟨ret_b (by rw [hv.out]), hba.out⟩
  | true =>
   rw [hw] at hW
   have hn : 1 ≤ l.1 ∧ l.1 ≤ 128 := by simpa [widthB] using hw
   obtain ⟨n, hn0⟩ := Int.eq_ofNat_of_zero_le (show 0 ≤ l.1 by omega)
   have hF := fits_any l.2.1 l.2.2 n wa (by omega) (by omega)
   rw [fits_eq l n hl (by omega) (by omega), ← hn0] at hF
   have hv := hide (show litB l = fitsB l.1 l from by simp [litB, h0, hw])
   generalize fitsB l.1 l = z at hv hF
   replace hW := hide hW
   replace hF := hide hF
   clear hw h0 hn hn0
   go_enter Tryz.func49, Tryz.ntmps49
   go_wp2_with (first | (go_at_call 119; refine hW.out.mono ?_; rintro e w' ⟨rfl, rfl⟩) | (go_at_call 95; refine hF.out.mono ?_; rintro e w1 ⟨rfl, hb1⟩))
   go_ret
   exact ⟨ret_b (by rw [hv.out]), hba.out.trans (hb1.mono (by omega))⟩
end Go.Proofs.YtbbdhknagofghaaGreat

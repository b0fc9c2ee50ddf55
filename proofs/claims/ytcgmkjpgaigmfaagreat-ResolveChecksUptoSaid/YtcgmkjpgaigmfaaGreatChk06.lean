import Derived.Test.YtcgmkjpgaigmfaaGreatChk01
import Derived.Test.YtcgmkjpgaigmfaaGreatChk02
import Derived.Test.YtcgmkjpgaigmfaaGreatShelf
import Derived.Test.YtcgmkjpgaigmfaaGreatChk05
import Derived.Laws.Shifts
import Derived.Laws.ShiftsVar
import Derived.StillTailTactics
set_option linter.all false
/-! Layer 3: names and keywords (the part of DnB, DnC, DnE that speaks of them). -/
namespace Go.Proofs.YtcgmkjpgaigmfaaGreat
open Go.RowKit
set_option maxHeartbeats 400000 in
theorem digit03_any (c : Int) (w : World) : Calls Tryz.prog 122 #[.int .u8 c] w fun e w' => e = .returned (.bool (digitB c)) ∧ w = w' := by
 go_enter Tryz.func122, Tryz.ntmps122
 go_wp2
 all_goals
  go_ret
  exact ⟨ret_bool (by simp [digitB]; omega), rfl⟩
set_option maxHeartbeats 400000 in
theorem isDigit_any (c : Int) (w : World) : Calls Tryz.prog 89 #[.int .u8 c] w fun e w' => e = .returned (.bool (digitB c)) ∧ w = w' := by
 go_enter Tryz.func89, Tryz.ntmps89
 go_wp2
 all_goals
  go_ret
  exact ⟨ret_bool (by simp [digitB]; omega), rfl⟩
set_option maxHeartbeats 400000 in
theorem letter03_any (c : Int) (w : World) : Calls Tryz.prog 124 #[.int .u8 c] w fun e w' => e = .returned (.bool (letterB c)) ∧ w = w' := by
 go_enter Tryz.func124, Tryz.ntmps124
 go_wp2
 all_goals
  go_ret
  exact ⟨ret_bool (by simp [letterB]; omega), rfl⟩
set_option maxHeartbeats 400000 in
theorem isWord_any (c : Int) (w : World) : Calls Tryz.prog 141 #[.int .u8 c] w fun e w' => e = .returned (.bool (wordB c)) ∧ w = w' := by
 go_enter Tryz.func141, Tryz.ntmps141
 go_wp2_with (go_at_call 89; refine (isDigit_any _ _).mono ?_; rintro e w' ⟨rfl, rfl⟩)
 all_goals
  go_ret
  refine ⟨ret_bool ?_, rfl⟩
  simp only [digitB, decide_eq_true_eq, decide_eq_false_iff_not] at *
  simp [wordB, digitB, letterB]; try omega
set_option maxHeartbeats 400000 in
theorem word_any (s : ByteArray) (w : World) (hs : s.size ≤ maxLen) :
  Calls Tryz.prog 88 #[.string s] w fun e w' => e = .returned (.string (s.extract 0 (wlen s))) ∧ w = w' := by
 have hl : s.size ≤ 9223372036854775807 := hs
 go_enter Tryz.func88, Tryz.ntmps88
 go_wp2
 go_loop [3] (fun i => ∃ k : Nat, k ≤ s.size ∧ i = .int .i64 k ∧ k ≤ wlen s) (fun i => s.size - (intOf i).toNat)
 case atStart => exact ⟨0, Nat.zero_le _, rfl, Nat.zero_le _⟩
 case round =>
  obtain ⟨k, hk, rfl, hc⟩ := hrel
  by_cases hlt : k < s.size
  ·go_wp2_with (go_at_call 141; refine (isWord_any _ _).mono ?_; rintro e w' ⟨rfl, rfl⟩)
   ·go_round
    case rel => exact ⟨k + 1, by omega, by go_num, wlen_succ hlt hc (by assumption)⟩
    case measure => simp [intOf]; omega
   ·go_ret
    rw [wlen_stop hlt hc (by assumption)]
    exact ⟨rfl, rfl⟩
  ·go_wp2_with (go_at_call 141; refine (isWord_any _ _).mono ?_; rintro e w' ⟨rfl, rfl⟩)
   go_ret
   rw [wlen_end hk hlt hc]
   exact ⟨rfl, rfl⟩
set_option maxHeartbeats 400000 in
theorem isKeyword_any (s : ByteArray) (m : Int) (w : World) (hs : s.size < 4294967281) (hm : w.cell? ⟨0, 0, none⟩ = some (.int .i64 m)) :
  Calls Tryz.prog 90 #[.string s] w fun e w' => e = .returned (.bool (kwB s)) ∧ w = w' := by
 go_enter Tryz.func90, Tryz.ntmps90
 by_cases h0 : s.toList = []
 ·have h0' : s.toList.isEmpty = true := by simp [h0]
  go_wp2
  go_ret
  exact ⟨ret_b (kwB_empty h0).symm, rfl⟩
 ·have h0' : s.toList.isEmpty = false := by simp [h0]
  go_wp2_with fail
  refine (Tryz.strings_Contains _ _ m _ hs hm).mono ?_
  rintro e w' ⟨rfl, rfl⟩
  cases hb : Go.Lib.contains s.data.toList (ByteArray.mk #[32]).data.toList with
  | true =>
   go_wp2_with fail
   go_ret
   exact ⟨ret_b (kwB_blank hb).symm, rfl⟩
  | false =>
   go_wp2_with fail
   refine (Tryz.strings_Contains _ _ m _ (by decide +kernel) hm).mono ?_
   rintro e w' ⟨rfl, rfl⟩
   rw [kwB_eq s _ (by decide +kernel) h0 (by assumption)]
   go_wp2_with fail
   go_ret
   exact ⟨rfl, rfl⟩
set_option maxHeartbeats 1000000 in
theorem isName_any (s : ByteArray) (m : Int) (w : World) (hs : s.size ≤ maxLen) (hm : w.cell? ⟨0, 0, none⟩ = some (.int .i64 m)) :
  Calls Tryz.prog 35 #[.string s] w fun e w' => e = .returned (.bool (nameB s)) ∧ w = w' := by
 have hn := hide (nameB_eq s)
 go_enter Tryz.func35, Tryz.ntmps35
 cases ha : ((s.extract 0 (wlen s)).toList == s.toList) with
 | false =>
  go_wp2_with (go_at_call 88; refine (word_any _ _ hs).mono ?_; rintro e w' ⟨rfl, rfl⟩)
  go_ret
  exact ⟨ret_b (by rw [hn.out, ha]; rfl), rfl⟩
 | true =>
  by_cases h0 : 0 < s.size
  ·have h0' : s.toList.isEmpty = false := isEmpty_false h0
   by_cases h16 : s.size ≤ 16
   ·cases hd : digitB (s[0].toNat : Nat) with
    | true =>
     go_wp2_with (first | (go_at_call 88; refine (word_any _ _ hs).mono ?_; rintro e w' ⟨rfl, rfl⟩) | (go_at_call 89; refine (isDigit_any _ _).mono ?_; rintro e w' ⟨rfl, rfl⟩))
     go_ret
     exact ⟨ret_b (by rw [hn.out, headD_eq h0, hd]; simp), rfl⟩
    | false =>
     go_wp2_with (first | (go_at_call 88; refine (word_any _ _ hs).mono ?_; rintro e w' ⟨rfl, rfl⟩) | (go_at_call 89; refine (isDigit_any _ _).mono ?_; rintro e w' ⟨rfl, rfl⟩) | (go_at_call 90; refine (isKeyword_any _ m _ (by omega) hm).mono ?_; rintro e w' ⟨rfl, rfl⟩))
     go_ret
     exact ⟨ret_b (by rw [hn.out, headD_eq h0, hd, ha, h0']; simp [h16]), rfl⟩
   ·go_wp2_with (go_at_call 88; refine (word_any _ _ hs).mono ?_; rintro e w' ⟨rfl, rfl⟩)
    go_ret
    exact ⟨ret_b (by rw [hn.out]; simp [h16]), rfl⟩
  ·have h0' : s.toList.isEmpty = true := isEmpty_true h0
   go_wp2_with (go_at_call 88; refine (word_any _ _ hs).mono ?_; rintro e w' ⟨rfl, rfl⟩)
   go_ret
   exact ⟨ret_b (by rw [hn.out, h0']; simp), rfl⟩
theorem kwArr_sl (w : World) (t : TypeId) : Sl 1 rStr (w.alloc (.cells (kwArr.map Value.string).toArray t)) (w.heap.size + 1) (some ⟨w.heap.size, 0, none⟩) kwArr :=
 Sl.new1 kwArr Value.string t (by decide) fun x hx => ⟨rfl, by have := kwArr_size x hx; simp [maxLen]; omega⟩
theorem kwArr_len : kwArr.length = 32 := rfl
set_option maxHeartbeats 400000 in
theorem isKeyword03_any (s : ByteArray) (w : World) :
  Calls Tryz.prog 123 #[.string s] w fun e w' => e = .returned (.bool (kwB s)) ∧ Below w.heap.size w w' := by
 have hkb := hide (kwB_arr s)
 go_enter Tryz.func123, Tryz.ntmps123
 go_wp2
 have hb1 : Below w.heap.size w (w.alloc (.cells (kwArr.map Value.string).toArray 9)) := (Below.refl _ _).alloc (Nat.le_refl _) _
 have hsl := kwArr_sl w 9
 change Code.wp _ _ _ _ (w.alloc (.cells (kwArr.map Value.string).toArray 9))
 generalize w.alloc (.cells (kwArr.map Value.string).toArray 9) = w1 at hb1 hsl ⊢
 go_loop [4] (fun i => ∃ k : Nat, k ≤ 32 ∧ i = .int .i64 k ∧ s ∉ kwArr.take k) (fun i => 32 - (intOf i).toNat)
 case atStart => exact ⟨0, Nat.zero_le _, rfl, by simp⟩
 case round =>
  obtain ⟨k, hk, rfl, hc⟩ := hrel
  by_cases hlt : k < 32
  ·obtain ⟨b, o, hA, hb, hcell, -⟩ := hsl.str (i := k) (by rw [kwArr_len]; exact hlt)
   obtain ⟨rfl, rfl⟩ : b = w.heap.size ∧ o = 0 := by simp at hA; omega
   have hk' : k < kwArr.length := by rw [kwArr_len]; exact hlt
   simp only [Nat.zero_add] at hcell
   clear hA hsl
   by_cases he : kwArr[k] = s
   ·have ht := str_eq he
    have hv := hide (show s ∈ kwArr from by rw [← he]; exact List.getElem_mem _)
    clear he
    generalize kwArr[k] = kk at hcell ht
    go_wp2
    go_ret
    exact ⟨ret_b (by rw [hkb.out]; simpa using hv.out), hb1⟩
   ·have ht := str_ne he
    have hv := hide (notMem_take_snoc hk' hc he)
    clear he
    generalize kwArr[k] = kk at hcell ht
    go_wp2
    go_round
    case rel => exact ⟨k + 1, by omega, by go_num, hv.out⟩
    case measure => simp [intOf]; omega
  ·go_wp2
   go_ret
   exact ⟨ret_b (by rw [hkb.out]; simpa using notMem_of_take (xs := kwArr) hk hlt hc), hb1⟩
set_option maxHeartbeats 1000000 in
theorem isName03_any (s : ByteArray) (w : World) :
  Calls Tryz.prog 67 #[.string s] w fun e w' => e = .returned (.bool (nameB s)) ∧ Below w.heap.size w w' := by
 go_enter Tryz.func67, Tryz.ntmps67
 by_cases h0 : s.size < 1
 ·have hv := hide (show nameB s = false from by simp [nameB]; omega)
  go_wp2
  go_ret
  exact ⟨ret_b hv.out.symm, bl_self⟩
 ·by_cases h16 : 16 < s.size
  ·have hv := hide (show nameB s = false from by simp [nameB]; omega)
   go_wp2
   go_ret
   exact ⟨ret_b hv.out.symm, bl_self⟩
  ·have h0' : 0 < s.size := by omega
   have hhd := hide (headD_eq h0')
   cases hd : digitB (s[0].toNat : Nat) with
   | true =>
    have hv := hide (show nameB s = false from by rw [nameB, hhd.out, hd]; simp)
    go_wp2_with (go_at_call 122; refine (digit03_any _ _).mono ?_; rintro e w' ⟨rfl, rfl⟩)
    go_ret
    exact ⟨ret_b hv.out.symm, bl_self⟩
   | false =>
    cases hkw : kwB s with
    | true =>
     have hv := hide (show nameB s = false from by simp [nameB, hkw])
     go_wp2_with (first | (go_at_call 122; refine (digit03_any _ _).mono ?_; rintro e w' ⟨rfl, rfl⟩) | (go_at_call 123; refine (isKeyword03_any _ _).mono ?_; rintro e w1 ⟨rfl, hb1⟩))
     go_ret
     exact ⟨ret_b hv.out.symm, hb1⟩
    | false =>
     have hv := hide (show nameB s = s.data.toList.all (fun c => wordB c.toNat) from by rw [nameB, hhd.out, hd, hkw]; simp; omega)
     go_wp2_with (first | (go_at_call 122; refine (digit03_any _ _).mono ?_; rintro e w' ⟨rfl, rfl⟩) | (go_at_call 123; refine (isKeyword03_any _ _).mono ?_; rintro e w1 ⟨rfl, hb1⟩))
     go_loop [3] (fun i => ∃ k : Nat, k ≤ s.size ∧ i = .int .i64 k ∧ k ≤ wlen s) (fun i => s.size - (intOf i).toNat)
     case atStart => exact ⟨0, Nat.zero_le _, rfl, Nat.zero_le _⟩
     case round =>
      obtain ⟨k, hk, rfl, hc⟩ := hrel
      by_cases hlt : k < s.size
      ·cases hw : wordB (s[k].toNat : Nat) with
       | true =>
        have hv' := hide (wlen_succ hlt hc hw)
        cases hl : letterB (s[k].toNat : Nat) with
        | true =>
         go_wp2_with (first | (go_at_call 122; refine (digit03_any _ _).mono ?_; rintro e w' ⟨rfl, rfl⟩) | (go_at_call 124; refine (letter03_any _ _).mono ?_; rintro e w' ⟨rfl, rfl⟩))
         go_round
         case rel => exact ⟨k + 1, by omega, by go_num, hv'.out⟩
         case measure => simp [intOf]; omega
        | false =>
         have hdd : digitB (s[k].toNat : Nat) = true := by simpa [wordB, hl] using hw
         go_wp2_with (first | (go_at_call 122; refine (digit03_any _ _).mono ?_; rintro e w' ⟨rfl, rfl⟩) | (go_at_call 124; refine (letter03_any _ _).mono ?_; rintro e w' ⟨rfl, rfl⟩))
         go_round
         case rel => exact ⟨k + 1, by omega, by go_num, hv'.out⟩
         case measure => simp [intOf]; omega
       | false =>
        have hv' := hide (show nameB s = false from by
         have := wlen_stop hlt hc hw
         rw [hv.out, Bool.eq_false_iff, Ne, ← wlenL_all]
         simp [wlen] at this ⊢; omega)
        have hl : letterB (s[k].toNat : Nat) = false := by simp [wordB] at hw; exact hw.2
        have hdd : digitB (s[k].toNat : Nat) = false := by simp [wordB] at hw; exact hw.1
        go_wp2_with (first | (go_at_call 122; refine (digit03_any _ _).mono ?_; rintro e w' ⟨rfl, rfl⟩) | (go_at_call 124; refine (letter03_any _ _).mono ?_; rintro e w' ⟨rfl, rfl⟩))
        go_ret
        exact ⟨ret_b hv'.out.symm, hb1⟩
      ·have hv' := hide (show nameB s = true from by
        have := wlen_end hk hlt hc
        rw [hv.out, ← wlenL_all]
        simp [wlen] at this ⊢; omega)
       go_wp2
       go_ret
       exact ⟨ret_b hv'.out.symm, hb1⟩
end Go.Proofs.YtcgmkjpgaigmfaaGreat
/-! Layer 4's small questions: widths, targets, names that are asked for, fields. -/
namespace Go.Proofs.YtcgmkjpgaigmfaaGreat
open Go.RowKit
theorem lit_iff {s : ByteArray} (l : List UInt8) : s = ByteArray.mk l.toArray ↔ s.toList = l := by
 rw [ByteArray.toList_eq]
 constructor
 ·intro h; rw [h]
 ·intro h; rw [← h]
theorem acc_iff {s : ByteArray} : s = accS ↔ s.toList = [97, 99, 99, 101, 112, 116] := lit_iff _
theorem rej_iff {s : ByteArray} : s = rejS ↔ s.toList = [114, 101, 106, 101, 99, 116] := lit_iff _
theorem emp_iff {s : ByteArray} : s = strE ↔ s.toList = [] := lit_iff _
set_option maxHeartbeats 400000 in
theorem isWidth_any (n : Int) (w : World) : Calls Tryz.prog 93 #[.int .i64 n] w fun e w' => e = .returned (.bool (widthB n)) ∧ w = w' := by
 go_enter Tryz.func93, Tryz.ntmps93
 by_cases h1 : 1 ≤ n
 ·by_cases h2 : n ≤ 128
  ·go_wp2
   go_ret
   exact ⟨ret_b (by simp [widthB, h1, h2]), rfl⟩
  ·go_wp2
   go_ret
   exact ⟨ret_b (by simp [widthB, h2]), rfl⟩
 ·go_wp2
  go_ret
  exact ⟨ret_b (by simp [widthB]; omega), rfl⟩
set_option maxHeartbeats 1000000 in
theorem isTarget_any (s : ByteArray) (m : Int) (w : World) (hs : s.size ≤ maxLen) (hm : w.cell? ⟨0, 0, none⟩ = some (.int .i64 m)) :
  Calls Tryz.prog 98 #[.string s] w fun e w' => e = .returned (.bool (targetB s)) ∧ w = w' := by
 go_enter Tryz.func98, Tryz.ntmps98
 by_cases h1 : s = accS
 ·have e1 := acc_iff.1 h1
  have hv := hide (show targetB s = true from by simp [targetB, h1])
  clear h1
  go_wp2
  go_ret
  exact ⟨ret_b hv.out.symm, rfl⟩
 ·have e1 := fun h => h1 (acc_iff.2 h)
  by_cases h2 : s = rejS
  ·have e2 := rej_iff.1 h2
   have hv := hide (show targetB s = true from by simp [targetB, h2])
   clear h1 h2
   go_wp2
   go_ret
   exact ⟨ret_b hv.out.symm, rfl⟩
  ·have e2 := fun h => h2 (rej_iff.2 h)
   have hv := hide (show targetB s = nameB s from by simp [targetB, h1, h2])
   clear h1 h2
   go_wp2_with (go_at_call 35; refine (isName_any s m _ hs hm).mono ?_; rintro e w' ⟨rfl, rfl⟩)
   go_ret
   exact ⟨ret_b (by rw [hv.out, beq_eq_false_iff_ne.2 e1, beq_eq_false_iff_ne.2 e2]; rfl), rfl⟩
set_option maxHeartbeats 1000000 in
theorem named_any (s : ByteArray) (b : Bool) (m : Int) (w : World) (hs : s.size ≤ maxLen) (hm : w.cell? ⟨0, 0, none⟩ = some (.int .i64 m)) :
  Calls Tryz.prog 148 #[.string s, .bool b] w fun e w' => e = .returned (.bool (namedB s b)) ∧ w = w' := by
 go_enter Tryz.func148, Tryz.ntmps148
 cases b with
 | true =>
  cases hn : nameB s with
  | true =>
   have hv := hide hn
   have hc := isName_any s m w hs hm
   rw [hn] at hc
   clear hn
   go_wp2_with (go_at_call 35; refine hc.mono ?_; rintro e w' ⟨rfl, rfl⟩)
   go_ret
   exact ⟨ret_b (by simp [namedB, hv.out]), rfl⟩
  | false =>
   have hv := hide hn
   have hc := isName_any s m w hs hm
   rw [hn] at hc
   clear hn
   go_wp2_with (go_at_call 35; refine hc.mono ?_; rintro e w' ⟨rfl, rfl⟩)
   go_ret
   exact ⟨ret_b (by simp [namedB, hv.out]), rfl⟩
 | false =>
  by_cases h1 : s = strE
  ·have e1 := emp_iff.1 h1
   have hv := hide (show namedB s false = true from by simp [namedB, h1])
   clear h1
   go_wp2
   go_ret
   exact ⟨ret_b hv.out.symm, rfl⟩
  ·have e1 := fun h => h1 (emp_iff.2 h)
   have hv := hide (show namedB s false = false from by simp [namedB, h1])
   clear h1
   go_wp2
   go_ret
   exact ⟨ret_b (by rw [hv.out]; simpa using e1), rfl⟩
set_option maxHeartbeats 1000000 in
theorem isField_any (f : Fd) (m : Int) (w : World) (hs : f.1.size ≤ maxLen) (hm : w.cell? ⟨0, 0, none⟩ = some (.int .i64 m)) :
  Calls Tryz.prog 37 #[.agg #[.string f.1, .int .i64 f.2]] w fun e w' => e = .returned (.bool (fdB f)) ∧ Below w.heap.size w w' := by
 obtain ⟨wb, hwb, hsz, hw, hcb, -⟩ := box1 w #[.string f.1, .int .i64 f.2] 84
 have y0 : wb.cell? ⟨w.heap.size, 0, none⟩ = some (.string f.1) := hcb 0
 have y1 : wb.cell? ⟨w.heap.size, 1, none⟩ = some (.int .i64 f.2) := hcb 1
 have hm' : wb.cell? ⟨0, 0, none⟩ = some (.int .i64 m) := (hw.cell (p := ⟨0, 0, none⟩) (World.block_lt_of_cell? w _ hm)).trans hm
 have hc := isName_any f.1 m wb hs hm'
 have hv := hide (show fdB f = (nameB f.1 && widthB f.2) from rfl)
 replace hw := hide hw
 clear hcb hm hm'
 go_enter Tryz.func37, Tryz.ntmps37
 cases hn : nameB f.1 with
 | true =>
  rw [hn] at hc hv
  clear hn
  go_wp2_with (first | (go_at_call 35; refine hc.mono ?_; rintro e w' ⟨rfl, rfl⟩) | (go_at_call 93; refine (isWidth_any _ _).mono ?_; rintro e w' ⟨rfl, rfl⟩))
  go_ret
  exact ⟨ret_b (by rw [hv.out]; simp), hw.out⟩
 | false =>
  rw [hn] at hc hv
  clear hn
  go_wp2_with (go_at_call 35; refine hc.mono ?_; rintro e w' ⟨rfl, rfl⟩)
  go_ret
  exact ⟨ret_b (by rw [hv.out]; simp), hw.out⟩
end Go.Proofs.YtcgmkjpgaigmfaaGreat
/-! Layer 1: numbers' masks. -/
namespace Go.Proofs.YtcgmkjpgaigmfaaGreat
open Go.RowKit
set_option maxHeartbeats 400000 in
theorem shift_any (k : Int) (w : World) (h0 : 0 ≤ k) (h1 : k ≤ 128) : Calls Tryz.prog 202 #[.int .i64 k] w fun e w' => e = .returned (.int .u64 k) ∧ w = w' := by
 have e1 : min k 128 = k := by omega
 have e2 : max 0 k = k := by omega
 go_enter Tryz.func202, Tryz.ntmps202
 go_wp2
 go_ret
 exact ⟨ret_int (by simp [e1, e2]), rfl⟩
theorem shr_lowN : ∀ k : Fin 64, (18446744073709551615 / 2 ^ k.val : Int) = 2 ^ (64 - k.val) - 1 ∧ bits .or .u64 (18446744073709551615 / 2 ^ k.val : Int) (IntKind.u64.wrap (18446744073709551615 * 2 ^ (64 - k.val))) = 18446744073709551615 := by decide +kernel
theorem shr_highN : ∀ k : Fin 64, (18446744073709551615 / 2 ^ k.val : Int) = 2 ^ (64 - k.val) - 1 := by decide +kernel
set_option maxHeartbeats 1000000 in
theorem shr_low (k : Nat) (w : World) (h1 : k < 64) : Calls Tryz.prog 199 #[.agg #[.int .u64 18446744073709551615, .int .u64 18446744073709551615], .int .i64 (k : Int)] w fun e w' => e = .returned (.agg #[.int .u64 ((2 : Int) ^ (64 - k) - 1), .int .u64 18446744073709551615]) ∧ Below w.heap.size w w' := by
 obtain ⟨q1, q2⟩ := shr_lowN ⟨k, h1⟩
 replace q1 := hide q1
 replace q2 := hide q2
 go_enter Tryz.func199, Tryz.ntmps199
 go_wp2_with (go_at_call 202; refine (shift_any _ _ (by omega) (by omega)).mono ?_; rintro e w' ⟨rfl, rfl⟩)
 refine bodyPost_ret (v := .agg #[.int .u64 (18446744073709551615 / 2 ^ k), .int .u64 (bits .or .u64 (18446744073709551615 / 2 ^ k : Int) (IntKind.u64.wrap (18446744073709551615 * 2 ^ (64 - k))))]) (by simp [results, Tryz.results199, go_sem]) rfl ⟨?_, ((Below.refl _ _).alloc (Nat.le_refl _) _).alloc (by simp) _⟩
 rw [q2.out, q1.out]
set_option maxHeartbeats 1000000 in
theorem shr_high (k : Nat) (w : World) (h1 : k < 64) : Calls Tryz.prog 199 #[.agg #[.int .u64 18446744073709551615, .int .u64 18446744073709551615], .int .i64 ((k : Int) + 64)] w fun e w' => e = .returned (.agg #[.int .u64 0, .int .u64 ((2 : Int) ^ (64 - k) - 1)]) ∧ Below w.heap.size w w' := by
 have q1 := hide (shr_highN ⟨k, h1⟩)
 go_enter Tryz.func199, Tryz.ntmps199
 go_wp2_with (go_at_call 202; refine (shift_any _ _ (by omega) (by omega)).mono ?_; rintro e w' ⟨rfl, rfl⟩)
 refine bodyPost_ret (v := .agg #[.int .u64 0, .int .u64 (18446744073709551615 / 2 ^ k)]) (by simp [results, Tryz.results199, go_sem]) rfl ⟨?_, ((Below.refl _ _).alloc (Nat.le_refl _) _).alloc (by simp) _⟩
 rw [q1.out]
/-- The halves of a number of so many ones. -/
def maskH (n : Nat) : Int := if n ≤ 64 then 0 else 2 ^ (n - 64) - 1
def maskL (n : Nat) : Int := if n ≤ 64 then 2 ^ n - 1 else 18446744073709551615
set_option maxHeartbeats 1000000 in
theorem mask_any (n : Nat) (w : World) (h1 : 1 ≤ n) (h2 : n ≤ 128) : Calls Tryz.prog 189 #[.int .i64 (n : Int)] w fun e w' => e = .returned (.agg #[.int .u64 (maskH n), .int .u64 (maskL n)]) ∧ Below w.heap.size w w' := by
 have e1 : min (n : Int) 128 = n := by omega
 have e2 : ¬ (n : Int) < 1 := by omega
 obtain ⟨wa, hwa, hsa, hba, hca, hfa⟩ := box1 w #[.int .u64 0, .int .u64 0] 64
 obtain ⟨wb, hwb, hsb, hbb, hcb, -⟩ := box1 wa #[.int .u64 18446744073709551615, .int .u64 18446744073709551615] 64
 have hw := hba.trans (hbb.mono (by omega))
 have x0 : wb.cell? ⟨w.heap.size, 0, none⟩ = some (.int .u64 0) := (hbb.cell (p := ⟨w.heap.size, 0, none⟩) (by show w.heap.size < _; omega)).trans (hca 0)
 have x1 : wb.cell? ⟨w.heap.size, 1, none⟩ = some (.int .u64 0) := (hbb.cell (p := ⟨w.heap.size, 1, none⟩) (by show w.heap.size < _; omega)).trans (hca 1)
 have f0 : ∀ i, wb.frozen? ⟨w.heap.size, i, none⟩ = false := fun i => (hbb.frozen (p := ⟨w.heap.size, i, none⟩) (by show w.heap.size < _; omega)).trans (hfa i)
 simp only [hsa] at hcb
 have y0 : wb.cell? ⟨w.heap.size + 1, 0, none⟩ = some (.int .u64 18446744073709551615) := hcb 0
 have y1 : wb.cell? ⟨w.heap.size + 1, 1, none⟩ = some (.int .u64 18446744073709551615) := hcb 1
 have hz : w.heap.size < wb.heap.size := by omega
 replace hw := hide hw
 replace hsb := hide hsb
 clear hca hcb hba hbb hfa
 by_cases h : n ≤ 64
 ·have hk := hide (shr_high (64 - n) wb (by omega))
  have ek : (128 : Int) - (n : Int) = ((64 - n : Nat) : Int) + 64 := by omega
  have hv := hide (show maskH n = 0 ∧ maskL n = 2 ^ (64 - (64 - n)) - 1 from by simp only [maskH, maskL, if_pos h]; rw [show 64 - (64 - n) = n by omega]; simp)
  go_enter Tryz.func189, Tryz.ntmps189
  go_wp2_with fail
  refine hk.out.mono ?_
  rintro e w1 ⟨rfl, hb⟩
  obtain ⟨hc, hf, hz1⟩ := bcell hb
  replace hb := hide hb
  go_wp2
  refine bodyPost_ret (v := .agg #[.int .u64 0, .int .u64 ((2 : Int) ^ (64 - (64 - n)) - 1)]) (by simp [results, Tryz.results189, go_sem, hc, hz, x0, x1]) rfl ⟨by rw [hv.out.1, hv.out.2], ?_⟩
  exact ((hw.out.trans (hb.out.mono (by omega))).setCell (by simp) _).setCell (by simp) _
 ·have hk := hide (shr_low (128 - n) wb (by omega))
  have ek : (128 : Int) - (n : Int) = ((128 - n : Nat) : Int) := by omega
  have hv := hide (show maskH n = 2 ^ (64 - (128 - n)) - 1 ∧ maskL n = 18446744073709551615 from by simp only [maskH, maskL, if_neg h]; rw [show 64 - (128 - n) = n - 64 by omega]; simp)
  go_enter Tryz.func189, Tryz.ntmps189
  go_wp2_with fail
  refine hk.out.mono ?_
  rintro e w1 ⟨rfl, hb⟩
  obtain ⟨hc, hf, hz1⟩ := bcell hb
  replace hb := hide hb
  go_wp2
  refine bodyPost_ret (v := .agg #[.int .u64 ((2 : Int) ^ (64 - (128 - n)) - 1), .int .u64 18446744073709551615]) (by simp [results, Tryz.results189, go_sem, hc, hz, x0, x1]) rfl ⟨by rw [hv.out.1, hv.out.2], ?_⟩
  exact ((hw.out.trans (hb.out.mono (by omega))).setCell (by simp) _).setCell (by simp) _
def andI (a b : Int) : Int := bits .and .u64 a b
set_option maxHeartbeats 400000 in
theorem and1_any (a b : Int) (w : World) : Calls Tryz.prog 198 #[.int .u64 a, .int .u64 b] w fun e w' => e = .returned (.int .u64 (andI a b)) ∧ w' = w := by
 go_enter Tryz.func198, Tryz.ntmps198
 go_wp2
 go_ret
 exact ⟨rfl, rfl⟩
theorem enters_and1 : ∀ args w, (callFunc 198 args).run Tryz.prog w = .ok (.enter 198 args) w := enters_of Tryz.func198 (by kernel_rfl) rfl
set_option maxRecDepth 100000 in
set_option maxHeartbeats 1000000 in
theorem both_any (a b c d : Int) (w : World) : Calls Tryz.prog 197 #[.agg #[.int .u64 a, .int .u64 b], .agg #[.int .u64 c, .int .u64 d], .func (.func 198) #[] #[]] w fun e w' => e = .returned (.agg #[.int .u64 (andI a c), .int .u64 (andI b d)]) ∧ Below w.heap.size w w' := by
 have eg := enters_and1
 go_enter Tryz.func197, Tryz.ntmps197
 go_wp2_with fail
 refine wp_region_still_tail 13 (by kernel_rfl) (by kernel_rfl) ?_
 simp only [List.take_succ_cons, List.take_zero, List.drop_succ_cons, List.drop_zero]
 change wpStill _ _ (World.drew _) _ _ _
 iterate 5 still_step
 still_call (and1_any _ _ _)
 iterate 5 still_step
 still_call (and1_any _ _ _)
 still_step
 refine wpStill_nil ?_
 change wpList _ _ _ _ _ (World.drew _)
 have hb3 : Below w.heap.size w (((w.alloc (.cells #[.int .u64 a, .int .u64 b] 64)).alloc (.cells #[.int .u64 c, .int .u64 d] 64)).alloc (.cells #[.int .u64 0, .int .u64 0] 64)).drew := ((((Below.refl _ _).alloc (Nat.le_refl _) _).alloc (by simp) _).alloc (by simp; omega) _).drew
 have n0 : (((w.alloc (.cells #[.int .u64 a, .int .u64 b] 64)).alloc (.cells #[.int .u64 c, .int .u64 d] 64)).alloc (.cells #[.int .u64 0, .int .u64 0] 64)).drew.heap[w.heap.size + 1 + 1]? = some (.cells #[.int .u64 0, .int .u64 0] 64) := by
  have := heap_alloc_new ((w.alloc (.cells #[.int .u64 a, .int .u64 b] 64)).alloc (.cells #[.int .u64 c, .int .u64 d] 64)) (.cells #[.int .u64 0, .int .u64 0] 64)
  rw [World.size_alloc, World.size_alloc] at this
  exact this
 generalize hwd : (((w.alloc (.cells #[.int .u64 a, .int .u64 b] 64)).alloc (.cells #[.int .u64 c, .int .u64 d] 64)).alloc (.cells #[.int .u64 0, .int .u64 0] 64)).drew = wd at hb3 n0
 clear hwd
 have m0 : wd.cell? ⟨w.heap.size + 1 + 1, 0, none⟩ = some (.int .u64 0) := by simp [World.cell?, n0]
 have m1 : wd.cell? ⟨w.heap.size + 1 + 1, 1, none⟩ = some (.int .u64 0) := by simp [World.cell?, n0]
 have m2 : wd.frozen? ⟨w.heap.size + 1 + 1, 0, none⟩ = false := by simp [World.frozen?, n0]
 have m3 : wd.frozen? ⟨w.heap.size + 1 + 1, 1, none⟩ = false := by simp [World.frozen?, n0]
 have m4 : w.heap.size + 1 + 1 < wd.heap.size := (Array.getElem?_eq_some_iff.1 n0).1
 replace hb3 := hide hb3
 replace n0 := hide n0
 go_wp2
 refine bodyPost_ret (v := .agg #[.int .u64 (andI a c), .int .u64 (andI b d)]) (by simp [results, Tryz.results197, go_sem, m0, m1, m4]) rfl ⟨rfl, (hb3.out.setCell (by simp; omega) _).setCell (by simp; omega) _⟩
set_option maxHeartbeats 1000000 in
theorem and_any (a b c d : Int) (w : World) : Calls Tryz.prog 188 #[.agg #[.int .u64 a, .int .u64 b], .agg #[.int .u64 c, .int .u64 d]] w fun e w' => e = .returned (.agg #[.int .u64 (andI a c), .int .u64 (andI b d)]) ∧ Below w.heap.size w w' := by
 obtain ⟨wa, hwa, hsa, hba, hca, -⟩ := box1 w #[.int .u64 a, .int .u64 b] 64
 obtain ⟨wb, hwb, hsb, hbb, hcb, -⟩ := box1 wa #[.int .u64 c, .int .u64 d] 64
 obtain ⟨wc, hwc, hsc, hbc, hcc, hfc⟩ := box1 wb #[.int .u64 0, .int .u64 0] 64
 have hw := hba.trans ((hbb.mono (by omega)).trans (hbc.mono (by omega)))
 have x0 : wc.cell? ⟨w.heap.size, 0, none⟩ = some (.int .u64 a) := (hbc.cell (p := ⟨w.heap.size, 0, none⟩) (by show w.heap.size < _; omega)).trans ((hbb.cell (p := ⟨w.heap.size, 0, none⟩) (by show w.heap.size < _; omega)).trans (hca 0))
 have x1 : wc.cell? ⟨w.heap.size, 1, none⟩ = some (.int .u64 b) := (hbc.cell (p := ⟨w.heap.size, 1, none⟩) (by show w.heap.size < _; omega)).trans ((hbb.cell (p := ⟨w.heap.size, 1, none⟩) (by show w.heap.size < _; omega)).trans (hca 1))
 simp only [hsa] at hcb
 have y0 : wc.cell? ⟨w.heap.size + 1, 0, none⟩ = some (.int .u64 c) := (hbc.cell (p := ⟨w.heap.size + 1, 0, none⟩) (by show w.heap.size + 1 < _; omega)).trans (hcb 0)
 have y1 : wc.cell? ⟨w.heap.size + 1, 1, none⟩ = some (.int .u64 d) := (hbc.cell (p := ⟨w.heap.size + 1, 1, none⟩) (by show w.heap.size + 1 < _; omega)).trans (hcb 1)
 simp only [hsb, hsa] at hcc hfc
 have z0 : wc.cell? ⟨w.heap.size + 1 + 1, 0, none⟩ = some (.int .u64 0) := hcc 0
 have z1 : wc.cell? ⟨w.heap.size + 1 + 1, 1, none⟩ = some (.int .u64 0) := hcc 1
 have hk3 : w.heap.size + 1 + 1 < wc.heap.size := by omega
 have hB := hide (both_any a b c d wc)
 replace hw := hide hw
 replace hsc := hide hsc
 clear hca hcb hcc hba hbb hbc
 go_enter Tryz.func188, Tryz.ntmps188
 go_wp2_with fail
 refine hB.out.mono ?_
 rintro e w1 ⟨rfl, hb⟩
 obtain ⟨hc, hf, hz1⟩ := bcell hb
 replace hb := hide hb
 have m0 : w1.cell? ⟨w.heap.size + 1 + 1, 0, none⟩ = some (.int .u64 0) := (hc _ _ hk3).trans z0
 have m1 : w1.cell? ⟨w.heap.size + 1 + 1, 1, none⟩ = some (.int .u64 0) := (hc _ _ hk3).trans z1
 have m2 : w1.frozen? ⟨w.heap.size + 1 + 1, 0, none⟩ = false := (hf _ _ hk3).trans (hfc 0)
 have m3 : w1.frozen? ⟨w.heap.size + 1 + 1, 1, none⟩ = false := (hf _ _ hk3).trans (hfc 1)
 have m4 : w.heap.size + 1 + 1 < w1.heap.size := by omega
 clear hc hf hfc
 go_wp2
 refine bodyPost_ret (v := .agg #[.int .u64 (andI a c), .int .u64 (andI b d)]) (by simp [results, Tryz.results188, go_sem, m0, m1, m4]) rfl ⟨rfl, ((hw.out.trans (hb.out.mono (by omega))).setCell (by simp; omega) _).setCell (by simp; omega) _⟩
set_option maxHeartbeats 1000000 in
theorem cut_any (a b : Int) (n : Nat) (w : World) (h1 : 1 ≤ n) (h2 : n ≤ 128) : Calls Tryz.prog 179 #[.agg #[.int .u64 a, .int .u64 b], .int .i64 (n : Int)] w fun e w' => e = .returned (.agg #[.int .u64 (andI a (maskH n)), .int .u64 (andI b (maskL n))]) ∧ Below w.heap.size w w' := by
 obtain ⟨wa, hwa, hsa, hba, hca, -⟩ := box1 w #[.int .u64 a, .int .u64 b] 64
 obtain ⟨wc, hwc, hsc, hbc, hcc, hfc⟩ := box1 wa #[.int .u64 0, .int .u64 0] 64
 have hw := hba.trans (hbc.mono (by omega))
 have x0 : wc.cell? ⟨w.heap.size, 0, none⟩ = some (.int .u64 a) := (hbc.cell (p := ⟨w.heap.size, 0, none⟩) (by show w.heap.size < _; omega)).trans (hca 0)
 have x1 : wc.cell? ⟨w.heap.size, 1, none⟩ = some (.int .u64 b) := (hbc.cell (p := ⟨w.heap.size, 1, none⟩) (by show w.heap.size < _; omega)).trans (hca 1)
 simp only [hsa] at hcc hfc
 have z0 : wc.cell? ⟨w.heap.size + 1, 0, none⟩ = some (.int .u64 0) := hcc 0
 have z1 : wc.cell? ⟨w.heap.size + 1, 1, none⟩ = some (.int .u64 0) := hcc 1
 have hk2 : w.heap.size < wc.heap.size := by omega
 have hk3 : w.heap.size + 1 < wc.heap.size := by omega
 have hM := hide (fun W => mask_any n W h1 h2)
 have hA := hide (fun W => and_any a b (maskH n) (maskL n) W)
 replace hw := hide hw
 replace hsc := hide hsc
 clear hca hcc hba hbc
 generalize maskH n = mh at *
 generalize maskL n = ml at *
 go_enter Tryz.func179, Tryz.ntmps179
 go_wp2_with fail
 go_region_with (first | (go_at_call 189; refine (hM.out _).mono ?_; rintro e w1 ⟨rfl, hb⟩; have u0 : w1.cell? ⟨w.heap.size, 0, none⟩ = some (.int .u64 a) := (hb.cell (p := ⟨w.heap.size, 0, none⟩) hk2).trans x0; have u1 : w1.cell? ⟨w.heap.size, 1, none⟩ = some (.int .u64 b) := (hb.cell (p := ⟨w.heap.size, 1, none⟩) hk2).trans x1; have v0 : w1.cell? ⟨w.heap.size + 1, 0, none⟩ = some (.int .u64 0) := (hb.cell (p := ⟨w.heap.size + 1, 0, none⟩) hk3).trans z0; have v1 : w1.cell? ⟨w.heap.size + 1, 1, none⟩ = some (.int .u64 0) := (hb.cell (p := ⟨w.heap.size + 1, 1, none⟩) hk3).trans z1; have t0 : w1.frozen? ⟨w.heap.size + 1, 0, none⟩ = false := (hb.frozen (p := ⟨w.heap.size + 1, 0, none⟩) hk3).trans (hfc 0); have t1 : w1.frozen? ⟨w.heap.size + 1, 1, none⟩ = false := (hb.frozen (p := ⟨w.heap.size + 1, 1, none⟩) hk3).trans (hfc 1); have k1 : w.heap.size + 1 < w1.heap.size := Nat.lt_of_lt_of_le hk3 hb.size; replace hb := hide hb) | (go_at_call 188; refine (hA.out _).mono ?_; rintro e w2 ⟨rfl, hb2⟩; have v2 : w2.cell? ⟨w.heap.size + 1, 0, none⟩ = some (.int .u64 0) := (hb2.cell (p := ⟨w.heap.size + 1, 0, none⟩) k1).trans v0; have v3 : w2.cell? ⟨w.heap.size + 1, 1, none⟩ = some (.int .u64 0) := (hb2.cell (p := ⟨w.heap.size + 1, 1, none⟩) k1).trans v1; have t2 : w2.frozen? ⟨w.heap.size + 1, 0, none⟩ = false := (hb2.frozen (p := ⟨w.heap.size + 1, 0, none⟩) k1).trans t0; have t3 : w2.frozen? ⟨w.heap.size + 1, 1, none⟩ = false := (hb2.frozen (p := ⟨w.heap.size + 1, 1, none⟩) k1).trans t1; have k2 : w.heap.size + 1 < w2.heap.size := Nat.lt_of_lt_of_le k1 hb2.size; replace hb2 := hide hb2))
 all_goals
  go_wp2
  refine bodyPost_ret (v := .agg #[.int .u64 (andI a mh), .int .u64 (andI b ml)]) (by simp [results, Tryz.results179, go_sem, v2, v3, k2]) rfl ⟨rfl, ((((hw.out.drew).trans (hb.out.mono (by show w.heap.size ≤ wc.heap.size; omega))).trans (hb2.out.mono (by omega))).setCell (by simp) _).setCell (by simp) _⟩
end Go.Proofs.YtcgmkjpgaigmfaaGreat

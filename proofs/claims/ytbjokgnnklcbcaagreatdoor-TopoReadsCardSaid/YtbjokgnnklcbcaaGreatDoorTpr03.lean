import Derived.Test.YtbjokgnnklcbcaaGreatDoorTpr02
import Derived.Test.YtbjokgnnklcbcaaGreatDoorTpr01
import Derived.Test.YtbjokgnnklcbcaaGreatDoorShelf
set_option linter.all false
/-! Layer 3: names and keywords (the part of DnB, DnC, DnE that speaks of them). -/
namespace Go.Proofs.YtbjokgnnklcbcaaGreatDoor
open Go.RowKit
set_option maxHeartbeats 400000 in
theorem digit03_any (c : Int) (w : World) : Calls Tryz.prog 77 #[.int .u8 c] w fun e w' => e = .returned (.bool (digitB c)) ∧ w = w' := by
 go_enter Tryz.func77, Tryz.ntmps77
 go_wp2
 all_goals
  go_ret
  exact ⟨ret_bool (by simp [digitB]; omega), rfl⟩
set_option maxHeartbeats 400000 in
theorem isDigit_any (c : Int) (w : World) : Calls Tryz.prog 62 #[.int .u8 c] w fun e w' => e = .returned (.bool (digitB c)) ∧ w = w' := by
 go_enter Tryz.func62, Tryz.ntmps62
 go_wp2
 all_goals
  go_ret
  exact ⟨ret_bool (by simp [digitB]; omega), rfl⟩
set_option maxHeartbeats 400000 in
theorem letter03_any (c : Int) (w : World) : Calls Tryz.prog 76 #[.int .u8 c] w fun e w' => e = .returned (.bool (letterB c)) ∧ w = w' := by
 go_enter Tryz.func76, Tryz.ntmps76
 go_wp2
 all_goals
  go_ret
  exact ⟨ret_bool (by simp [letterB]; omega), rfl⟩
set_option maxHeartbeats 400000 in
theorem isWord_any (c : Int) (w : World) : Calls Tryz.prog 82 #[.int .u8 c] w fun e w' => e = .returned (.bool (wordB c)) ∧ w = w' := by
 go_enter Tryz.func82, Tryz.ntmps82
 go_wp2_with (go_at_call 62; refine (isDigit_any _ _).mono ?_; rintro e w' ⟨rfl, rfl⟩)
 all_goals
  go_ret
  refine ⟨ret_bool ?_, rfl⟩
  simp only [digitB, decide_eq_true_eq, decide_eq_false_iff_not] at *
  simp [wordB, digitB, letterB]; try omega
set_option maxHeartbeats 400000 in
theorem word_any (s : ByteArray) (w : World) (hs : s.size ≤ maxLen) :
  Calls Tryz.prog 61 #[.string s] w fun e w' => e = .returned (.string (s.extract 0 (wlen s))) ∧ w = w' := by
 have hl : s.size ≤ 9223372036854775807 := hs
 go_enter Tryz.func61, Tryz.ntmps61
 go_wp2
 go_loop [3] (fun i => ∃ k : Nat, k ≤ s.size ∧ i = .int .i64 k ∧ k ≤ wlen s) (fun i => s.size - (intOf i).toNat)
 case atStart => exact ⟨0, Nat.zero_le _, rfl, Nat.zero_le _⟩
 case round =>
  obtain ⟨k, hk, rfl, hc⟩ := hrel
  by_cases hlt : k < s.size
  ·go_wp2_with (go_at_call 82; refine (isWord_any _ _).mono ?_; rintro e w' ⟨rfl, rfl⟩)
   ·go_round
    case rel => exact ⟨k + 1, by omega, by go_num, wlen_succ hlt hc (by assumption)⟩
    case measure => simp [intOf]; omega
   ·go_ret
    rw [wlen_stop hlt hc (by assumption)]
    exact ⟨rfl, rfl⟩
  ·go_wp2_with (go_at_call 82; refine (isWord_any _ _).mono ?_; rintro e w' ⟨rfl, rfl⟩)
   go_ret
   rw [wlen_end hk hlt hc]
   exact ⟨rfl, rfl⟩
set_option maxHeartbeats 400000 in
theorem isKeyword_any (s : ByteArray) (m : Int) (w : World) (hs : s.size < 4294967281) (hm : w.cell? ⟨0, 0, none⟩ = some (.int .i64 m)) :
  Calls Tryz.prog 63 #[.string s] w fun e w' => e = .returned (.bool (kwB s)) ∧ w = w' := by
 go_enter Tryz.func63, Tryz.ntmps63
 by_cases h0 : s.toList = []
 ·have h0' : s.toList.isEmpty = true := by simp [h0]
  go_wp2
  go_ret
  exact ⟨ret_b (kwB_empty h0).symm, rfl⟩
 ·have h0' : s.toList.isEmpty = false := by simp [h0]
  go_wp2_with fail
  refine (Tryz.strings_Contains _ _ m _ hs hm).mono ?_
  rintro e w' ⟨rfl, rfl⟩
  cases hb : Go.Lib.contains s.data.toList (ByteArray.mk #[32]).data.toList with
  | true =>
   go_wp2_with fail
   go_ret
   exact ⟨ret_b (kwB_blank hb).symm, rfl⟩
  | false =>
   go_wp2_with fail
   refine (Tryz.strings_Contains _ _ m _ (by decide +kernel) hm).mono ?_
   rintro e w' ⟨rfl, rfl⟩
   rw [kwB_eq s _ (by decide +kernel) h0 (by assumption)]
   go_wp2_with fail
   go_ret
   exact ⟨rfl, rfl⟩
set_option maxHeartbeats 1000000 in
theorem isName_any (s : ByteArray) (m : Int) (w : World) (hs : s.size ≤ maxLen) (hm : w.cell? ⟨0, 0, none⟩ = some (.int .i64 m)) :
  Calls Tryz.prog 29 #[.string s] w fun e w' => e = .returned (.bool (nameB s)) ∧ w = w' := by
 have hn := hide (nameB_eq s)
 go_enter Tryz.func29, Tryz.ntmps29
 cases ha : ((s.extract 0 (wlen s)).toList == s.toList) with
 | false =>
  go_wp2_with (go_at_call 61; refine (word_any _ _ hs).mono ?_; rintro e w' ⟨rfl, rfl⟩)
  go_ret
  exact ⟨ret_b (by rw [hn.out, ha]; rfl), rfl⟩
 | true =>
  by_cases h0 : 0 < s.size
  ·have h0' : s.toList.isEmpty = false := isEmpty_false h0
   by_cases h16 : s.size ≤ 16
   ·cases hd : digitB (s[0].toNat : Nat) with
    | true =>
     go_wp2_with (first | (go_at_call 61; refine (word_any _ _ hs).mono ?_; rintro e w' ⟨rfl, rfl⟩) | (go_at_call 62; refine (isDigit_any _ _).mono ?_; rintro e w' ⟨rfl, rfl⟩))
     go_ret
     exact ⟨ret_b (by rw [hn.out, headD_eq h0, hd]; simp), rfl⟩
    | false =>
     go_wp2_with (first | (go_at_call 61; refine (word_any _ _ hs).mono ?_; rintro e w' ⟨rfl, rfl⟩) | (go_at_call 62; refine (isDigit_any _ _).mono ?_; rintro e w' ⟨rfl, rfl⟩) | (go_at_call 63; refine (isKeyword_any _ m _ (by omega) hm).mono ?_; rintro e w' ⟨rfl, rfl⟩))
     go_ret
     exact ⟨ret_b (by rw [hn.out, headD_eq h0, hd, ha, h0']; simp [h16]), rfl⟩
   ·go_wp2_with (go_at_call 61; refine (word_any _ _ hs).mono ?_; rintro e w' ⟨rfl, rfl⟩)
    go_ret
    exact ⟨ret_b (by rw [hn.out]; simp [h16]), rfl⟩
  ·have h0' : s.toList.isEmpty = true := isEmpty_true h0
   go_wp2_with (go_at_call 61; refine (word_any _ _ hs).mono ?_; rintro e w' ⟨rfl, rfl⟩)
   go_ret
   exact ⟨ret_b (by rw [hn.out, h0']; simp), rfl⟩
theorem kwArr_sl (w : World) (t : TypeId) : Sl 1 rStr (w.alloc (.cells (kwArr.map Value.string).toArray t)) (w.heap.size + 1) (some ⟨w.heap.size, 0, none⟩) kwArr :=
 Sl.new1 kwArr Value.string t (by decide) fun x hx => ⟨rfl, by have := kwArr_size x hx; simp [maxLen]; omega⟩
theorem kwArr_len : kwArr.length = 32 := rfl
set_option maxHeartbeats 400000 in
theorem isKeyword03_any (s : ByteArray) (w : World) :
  Calls Tryz.prog 80 #[.string s] w fun e w' => e = .returned (.bool (kwB s)) ∧ Below w.heap.size w w' := by
 have hkb := hide (kwB_arr s)
 go_enter Tryz.func80, Tryz.ntmps80
 go_wp2
 have hb1 : Below w.heap.size w (w.alloc (.cells (kwArr.map Value.string).toArray 9)) := (Below.refl _ _).alloc (Nat.le_refl _) _
 have hsl := kwArr_sl w 9
 change Code.wp _ _ _ _ (w.alloc (.cells (kwArr.map Value.string).toArray 9))
 generalize w.alloc (.cells (kwArr.map Value.string).toArray 9) = w1 at hb1 hsl ⊢
 go_loop [4] (fun i => ∃ k : Nat, k ≤ 32 ∧ i = .int .i64 k ∧ s ∉ kwArr.take k) (fun i => 32 - (intOf i).toNat)
 case atStart => exact ⟨0, Nat.zero_le _, rfl, by simp⟩
 case round =>
  obtain ⟨k, hk, rfl, hc⟩ := hrel
  by_cases hlt : k < 32
  ·obtain ⟨b, o, hA, hb, hcell, -⟩ := hsl.str (i := k) (by rw [kwArr_len]; exact hlt)
   obtain ⟨rfl, rfl⟩ : b = w.heap.size ∧ o = 0 := by simp at hA; omega
   have hk' : k < kwArr.length := by rw [kwArr_len]; exact hlt
   simp only [Nat.zero_add] at hcell
   clear hA hsl
   by_cases he : kwArr[k] = s
   ·have ht := str_eq he
    have hv := hide (show s ∈ kwArr from by rw [← he]; exact List.getElem_mem _)
    clear he
    generalize kwArr[k] = kk at hcell ht
    go_wp2
    go_ret
    exact ⟨ret_b (by rw [hkb.out]; simpa using hv.out), hb1⟩
   ·have ht := str_ne he
    have hv := hide (notMem_take_snoc hk' hc he)
    clear he
    generalize kwArr[k] = kk at hcell ht
    go_wp2
    go_round
    case rel => exact ⟨k + 1, by omega, by go_num, hv.out⟩
    case measure => simp [intOf]; omega
  ·go_wp2
   go_ret
   exact ⟨ret_b (by rw [hkb.out]; simpa using notMem_of_take (xs := kwArr) hk hlt hc), hb1⟩
set_option maxHeartbeats 1000000 in
theorem isName03_any (s : ByteArray) (w : World) :
  Calls Tryz.prog 55 #[.string s] w fun e w' => e = .returned (.bool (nameB s)) ∧ Below w.heap.size w w' := by
 go_enter Tryz.func55, Tryz.ntmps55
 by_cases h0 : s.size < 1
 ·have hv := hide (show nameB s = false from by simp [nameB]; omega)
  go_wp2
  go_ret
  exact ⟨ret_b hv.out.symm, bl_self⟩
 ·by_cases h16 : 16 < s.size
  ·have hv := hide (show nameB s = false from by simp [nameB]; omega)
   go_wp2
   go_ret
   exact ⟨ret_b hv.out.symm, bl_self⟩
  ·have h0' : 0 < s.size := by omega
   have hhd := hide (headD_eq h0')
   cases hd : digitB (s[0].toNat : Nat) with
   | true =>
    have hv := hide (show nameB s = false from by rw [nameB, hhd.out, hd]; simp)
    go_wp2_with (go_at_call 77; refine (digit03_any _ _).mono ?_; rintro e w' ⟨rfl, rfl⟩)
    go_ret
    exact ⟨ret_b hv.out.symm, bl_self⟩
   | false =>
    cases hkw : kwB s with
    | true =>
     have hv := hide (show nameB s = false from by simp [nameB, hkw])
     go_wp2_with (first | (go_at_call 77; refine (digit03_any _ _).mono ?_; rintro e w' ⟨rfl, rfl⟩) | (go_at_call 80; refine (isKeyword03_any _ _).mono ?_; rintro e w1 ⟨rfl, hb1⟩))
     go_ret
     exact ⟨ret_b hv.out.symm, hb1⟩
    | false =>
     have hv := hide (show nameB s = s.data.toList.all (fun c => wordB c.toNat) from by rw [nameB, hhd.out, hd, hkw]; simp; omega)
     go_wp2_with (first | (go_at_call 77; refine (digit03_any _ _).mono ?_; rintro e w' ⟨rfl, rfl⟩) | (go_at_call 80; refine (isKeyword03_any _ _).mono ?_; rintro e w1 ⟨rfl, hb1⟩))
     go_loop [3] (fun i => ∃ k : Nat, k ≤ s.size ∧ i = .int .i64 k ∧ k ≤ wlen s) (fun i => s.size - (intOf i).toNat)
     case atStart => exact ⟨0, Nat.zero_le _, rfl, Nat.zero_le _⟩
     case round =>
      obtain ⟨k, hk, rfl, hc⟩ := hrel
      by_cases hlt : k < s.size
      ·cases hw : wordB (s[k].toNat : Nat) with
       | true =>
        have hv' := hide (wlen_succ hlt hc hw)
        cases hl : letterB (s[k].toNat : Nat) with
        | true =>
         go_wp2_with (first | (go_at_call 77; refine (digit03_any _ _).mono ?_; rintro e w' ⟨rfl, rfl⟩) | (go_at_call 76; refine (letter03_any _ _).mono ?_; rintro e w' ⟨rfl, rfl⟩))
         go_round
         case rel => exact ⟨k + 1, by omega, by go_num, hv'.out⟩
         case measure => simp [intOf]; omega
        | false =>
         have hdd : digitB (s[k].toNat : Nat) = true := by simpa [wordB, hl] using hw
         go_wp2_with (first | (go_at_call 77; refine (digit03_any _ _).mono ?_; rintro e w' ⟨rfl, rfl⟩) | (go_at_call 76; refine (letter03_any _ _).mono ?_; rintro e w' ⟨rfl, rfl⟩))
         go_round
         case rel => exact ⟨k + 1, by omega, by go_num, hv'.out⟩
         case measure => simp [intOf]; omega
       | false =>
        have hv' := hide (show nameB s = false from by
         have := wlen_stop hlt hc hw
         rw [hv.out, Bool.eq_false_iff, Ne, ← wlenL_all]
         simp [wlen] at this ⊢; omega)
        have hl : letterB (s[k].toNat : Nat) = false := by simp [wordB] at hw; exact hw.2
        have hdd : digitB (s[k].toNat : Nat) = false := by simp [wordB] at hw; exact hw.1
        go_wp2_with (first | (go_at_call 77; refine (digit03_any _ _).mono ?_; rintro e w' ⟨rfl, rfl⟩) | (go_at_call 76; refine (letter03_any _ _).mono ?_; rintro e w' ⟨rfl, rfl⟩))
        go_ret
        exact ⟨ret_b hv'.out.symm, hb1⟩
      ·have hv' := hide (show nameB s = true from by
        have := wlen_end hk hlt hc
        rw [hv.out, ← wlenL_all]
        simp [wlen] at this ⊢; omega)
       go_wp2
       go_ret
       exact ⟨ret_b hv'.out.symm, hb1⟩
end Go.Proofs.YtbjokgnnklcbcaaGreatDoor
/-! Layer 3: what stands between tokens. -/
namespace Go.Proofs.YtbjokgnnklcbcaaGreatDoor
open Go.RowKit
set_option maxRecDepth 100000 in
set_option maxHeartbeats 2000000 in
theorem between_any (s : ByteArray) (w : World) (hs : s.size ≤ maxLen) :
  Calls Tryz.prog 43 #[.string s] w fun e w' => e = .returned (.int .i64 (gapAt s 0)) ∧ w' = w := by
 have hl : s.size ≤ 9223372036854775807 := hs
 go_enter Tryz.func43, Tryz.ntmps43
 go_wp2
 go_loop [3, 5] (fun i _ => ∃ k : Nat, k ≤ s.size ∧ i = .int .i64 k ∧ gapAt s k = gapAt s 0) (fun i _ => s.size - (intOf i).toNat)
 case atStart => exact ⟨0, Nat.zero_le _, rfl, rfl⟩
 case round =>
  obtain ⟨k, hk, rfl, hg⟩ := hrel
  by_cases hlt : k < s.size
  ·have hkz : (k : Int) < (s.size : Int) := by omega
   have hP := fun W => Tryz.strings_HasPrefix (s.extract k s.size) ⟨#[47, 47]⟩ W
   rw [ext_drop] at hP
   have hI := fun W => Tryz.strings_IndexByte (s.extract k s.size) 10 W
   rw [ext_drop] at hI
   generalize hp : Lib.hasPrefix (s.data.toList.drop k) [47, 47] = pb at hP
   generalize hi : Lib.indexByte (s.data.toList.drop k) (10 : Int).toNat.toUInt8 = ib at hI
   replace hp := hide hp
   replace hi := hide hi
   cases pb with
   | false =>
    go_wp2_with (go_at_call 68; refine (hP _).mono ?_; rintro e w' ⟨rfl, rfl⟩)
    all_goals try simp only [beq_iff_eq, beq_eq_false_iff_ne, ne_eq] at *
    all_goals first
     | (have hw : wsB s[k] = true := (ws_iff _).2 (by omega)
        go_round
        case rel => exact ⟨k + 1, by omega, by go_num, (gapAt_ws hlt hw).trans hg⟩
        case measure => simp [intOf]; omega)
     | (have hw : wsB s[k] = false := by rw [← Bool.not_eq_true, ws_iff]; omega
        go_ret
        rw [show gapAt s 0 = k from hg.symm.trans (gapAt_stop hlt hw hp.out)]
        exact ⟨rfl, rfl⟩)
   | true =>
    by_cases hin : ib = -1
    ·subst hin
     have hz : (-1 : Int) < 0 := by omega
     go_wp2_with (first
      | (go_at_call 68; refine (hP _).mono ?_; rintro e w' ⟨rfl, rfl⟩)
      | (go_at_call 69; refine (hI _).mono ?_; rintro e w' ⟨rfl, rfl⟩))
     all_goals try simp only [beq_iff_eq, beq_eq_false_iff_ne, ne_eq] at *
     all_goals first
      | (have hw : wsB s[k] = true := (ws_iff _).2 (by omega)
         go_round
         case rel => exact ⟨k + 1, by omega, by go_num, (gapAt_ws hlt hw).trans hg⟩
         case measure => simp [intOf]; omega)
      | (go_ret
         rw [show gapAt s 0 = s.size from hg.symm.trans (gapAt_eof (Nat.le_of_lt hlt) hp.out hi.out)]
         exact ⟨rfl, rfl⟩)
    ·obtain ⟨n, hn1, hn2, hn3, hn4⟩ := gapAt_line (Nat.le_of_lt hlt) hp.out (show Lib.indexByte (s.data.toList.drop k) 10 ≠ -1 from fun e => hin (hi.out.symm.trans e))
     have hib : ib = (n : Int) := hi.out.symm.trans hn1
     subst hib
     have hz : ¬ ((n : Int) < 0) := by omega
     replace hn1 := hide hn1
     go_wp2_with (first
      | (go_at_call 68; refine (hP _).mono ?_; rintro e w' ⟨rfl, rfl⟩)
      | (go_at_call 69; refine (hI _).mono ?_; rintro e w' ⟨rfl, rfl⟩))
     all_goals try simp only [beq_iff_eq, beq_eq_false_iff_ne, ne_eq] at *
     all_goals first
      | (have hw : wsB s[k] = true := (ws_iff _).2 (by omega)
         go_round
         case rel => exact ⟨k + 1, by omega, by go_num, (gapAt_ws hlt hw).trans hg⟩
         case measure => simp [intOf]; omega)
      | (go_round
         case rel => exact ⟨k + n, by omega, by go_num, hn4.trans hg⟩
         case measure => simp [intOf]; omega)
  ·have he := gapAt_end hlt
   go_wp2
   go_ret
   rw [show gapAt s 0 = k from hg.symm.trans he]
   exact ⟨rfl, rfl⟩
end Go.Proofs.YtbjokgnnklcbcaaGreatDoor

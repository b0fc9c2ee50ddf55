import Derived.Test.YtjijggighppjbaaDnD
namespace Go.Proofs.Ytjijggighppjbaa
open Go.RowKit
set_option maxHeartbeats 1000000 in
theorem isName_any (s : ByteArray) (m : Int) (w : World) (hs : s.size ≤ maxLen) (hm : w.cell? ⟨0, 0, none⟩ = some (.int .i64 m)) :
    Calls Try.prog 31 #[.string s] w fun e w' => e = .returned (.bool (nameB s)) ∧ w = w' := by
  have hn := hide (nameB_eq s)
  go_enter Try.func31, Try.ntmps31
  cases ha : ((s.extract 0 (wlen s)).toList == s.toList) with
  | false =>
    go_wp2_with (go_at_call 43; refine (word_any _ _ hs).mono ?_; rintro e w' ⟨rfl, rfl⟩)
    go_ret
    exact ⟨ret_b (by rw [hn.out, ha]; rfl), rfl⟩
  | true =>
    by_cases h0 : 0 < s.size
    · have h0' : s.toList.isEmpty = false := isEmpty_false h0
      by_cases h16 : s.size ≤ 16
      · cases hd : digitB (s[0].toNat : Nat) with
        | true =>
          go_wp2_with (first | (go_at_call 43; refine (word_any _ _ hs).mono ?_; rintro e w' ⟨rfl, rfl⟩) | (go_at_call 44; refine (isDigit_any _ _).mono ?_; rintro e w' ⟨rfl, rfl⟩))
          go_ret
          exact ⟨ret_b (by rw [hn.out, headD_eq h0, hd]; simp), rfl⟩
        | false =>
          go_wp2_with (first | (go_at_call 43; refine (word_any _ _ hs).mono ?_; rintro e w' ⟨rfl, rfl⟩) | (go_at_call 44; refine (isDigit_any _ _).mono ?_; rintro e w' ⟨rfl, rfl⟩) | (go_at_call 45; refine (isKeyword_any _ m _ (by omega) hm).mono ?_; rintro e w' ⟨rfl, rfl⟩))
          go_ret
          exact ⟨ret_b (by rw [hn.out, headD_eq h0, hd, ha, h0']; simp [h16]), rfl⟩
      · go_wp2_with (go_at_call 43; refine (word_any _ _ hs).mono ?_; rintro e w' ⟨rfl, rfl⟩)
        go_ret
        exact ⟨ret_b (by rw [hn.out]; simp [h16]), rfl⟩
    · have h0' : s.toList.isEmpty = true := isEmpty_true h0
      go_wp2_with (go_at_call 43; refine (word_any _ _ hs).mono ?_; rintro e w' ⟨rfl, rfl⟩)
      go_ret
      exact ⟨ret_b (by rw [hn.out, h0']; simp), rfl⟩
theorem kwArr_sl (w : World) (t : TypeId) : Sl 1 rStr (w.alloc (.cells (kwArr.map Value.string).toArray t)) (w.heap.size + 1) (some ⟨w.heap.size, 0, none⟩) kwArr :=
  Sl.new1 kwArr Value.string t (by decide) fun x hx => ⟨rfl, by have := kwArr_size x hx; simp [maxLen]; omega⟩
theorem kwArr_len : kwArr.length = 32 := rfl
set_option maxHeartbeats 400000 in
theorem isKeyword03_any (s : ByteArray) (w : World) :
    Calls Try.prog 37 #[.string s] w fun e w' => e = .returned (.bool (kwB s)) ∧ Below w.heap.size w w' := by
  have hkb := hide (kwB_arr s)
  go_enter Try.func37, Try.ntmps37
  go_wp2
  have hb1 : Below w.heap.size w (w.alloc (.cells (kwArr.map Value.string).toArray 9)) := (Below.refl _ _).alloc (Nat.le_refl _) _
  have hsl := kwArr_sl w 9
  change Code.wp _ _ _ _ (w.alloc (.cells (kwArr.map Value.string).toArray 9))
  generalize w.alloc (.cells (kwArr.map Value.string).toArray 9) = w1 at hb1 hsl ⊢
  go_loop [4] (fun i => ∃ k : Nat, k ≤ 32 ∧ i = .int .i64 k ∧ s ∉ kwArr.take k) (fun i => 32 - (intOf i).toNat)
  case atStart => exact ⟨0, Nat.zero_le _, rfl, by simp⟩
  case round =>
    obtain ⟨k, hk, rfl, hc⟩ := hrel
    by_cases hlt : k < 32
    · obtain ⟨b, o, hA, hb, hcell, -⟩ := hsl.str (i := k) (by rw [kwArr_len]; exact hlt)
      obtain ⟨rfl, rfl⟩ : b = w.heap.size ∧ o = 0 := by simp at hA; omega
      have hk' : k < kwArr.length := by rw [kwArr_len]; exact hlt
      simp only [Nat.zero_add] at hcell
      clear hA hsl
      by_cases he : kwArr[k] = s
      · have ht := str_eq he
        have hv := hide (show s ∈ kwArr from by rw [← he]; exact List.getElem_mem _)
        clear he
        generalize kwArr[k] = kk at hcell ht
        go_wp2
        go_ret
        exact ⟨ret_b (by rw [hkb.out]; simpa using hv.out), hb1⟩
      · have ht := str_ne he
        have hv := hide (notMem_take_snoc hk' hc he)
        clear he
        generalize kwArr[k] = kk at hcell ht
        go_wp2
        go_round
        case rel => exact ⟨k + 1, by omega, by go_num, hv.out⟩
        case measure => simp [intOf]; omega
    · go_wp2
      go_ret
      exact ⟨ret_b (by rw [hkb.out]; simpa using notMem_of_take (xs := kwArr) hk hlt hc), hb1⟩
set_option maxHeartbeats 1000000 in
theorem isName03_any (s : ByteArray) (w : World) :
    Calls Try.prog 25 #[.string s] w fun e w' => e = .returned (.bool (nameB s)) ∧ Below w.heap.size w w' := by
  go_enter Try.func25, Try.ntmps25
  by_cases h0 : s.size < 1
  · have hv := hide (show nameB s = false from by simp [nameB]; omega)
    go_wp2
    go_ret
    exact ⟨ret_b hv.out.symm, bl_self⟩
  · by_cases h16 : 16 < s.size
    · have hv := hide (show nameB s = false from by simp [nameB]; omega)
      go_wp2
      go_ret
      exact ⟨ret_b hv.out.symm, bl_self⟩
    · have h0' : 0 < s.size := by omega
      have hhd := hide (headD_eq h0')
      cases hd : digitB (s[0].toNat : Nat) with
      | true =>
        have hv := hide (show nameB s = false from by rw [nameB, hhd.out, hd]; simp)
        go_wp2_with (go_at_call 36; refine (digit03_any _ _).mono ?_; rintro e w' ⟨rfl, rfl⟩)
        go_ret
        exact ⟨ret_b hv.out.symm, bl_self⟩
      | false =>
        cases hkw : kwB s with
        | true =>
          have hv := hide (show nameB s = false from by simp [nameB, hkw])
          go_wp2_with (first | (go_at_call 36; refine (digit03_any _ _).mono ?_; rintro e w' ⟨rfl, rfl⟩) | (go_at_call 37; refine (isKeyword03_any _ _).mono ?_; rintro e w1 ⟨rfl, hb1⟩))
          go_ret
          exact ⟨ret_b hv.out.symm, hb1⟩
        | false =>
          have hv := hide (show nameB s = s.data.toList.all (fun c => wordB c.toNat) from by rw [nameB, hhd.out, hd, hkw]; simp; omega)
          go_wp2_with (first | (go_at_call 36; refine (digit03_any _ _).mono ?_; rintro e w' ⟨rfl, rfl⟩) | (go_at_call 37; refine (isKeyword03_any _ _).mono ?_; rintro e w1 ⟨rfl, hb1⟩))
          go_loop [3] (fun i => ∃ k : Nat, k ≤ s.size ∧ i = .int .i64 k ∧ k ≤ wlen s) (fun i => s.size - (intOf i).toNat)
          case atStart => exact ⟨0, Nat.zero_le _, rfl, Nat.zero_le _⟩
          case round =>
            obtain ⟨k, hk, rfl, hc⟩ := hrel
            by_cases hlt : k < s.size
            · cases hw : wordB (s[k].toNat : Nat) with
              | true =>
                have hv' := hide (wlen_succ hlt hc hw)
                cases hl : letterB (s[k].toNat : Nat) with
                | true =>
                  go_wp2_with (first | (go_at_call 36; refine (digit03_any _ _).mono ?_; rintro e w' ⟨rfl, rfl⟩) | (go_at_call 38; refine (letter03_any _ _).mono ?_; rintro e w' ⟨rfl, rfl⟩))
                  go_round
                  case rel => exact ⟨k + 1, by omega, by go_num, hv'.out⟩
                  case measure => simp [intOf]; omega
                | false =>
                  have hdd : digitB (s[k].toNat : Nat) = true := by simpa [wordB, hl] using hw
                  go_wp2_with (first | (go_at_call 36; refine (digit03_any _ _).mono ?_; rintro e w' ⟨rfl, rfl⟩) | (go_at_call 38; refine (letter03_any _ _).mono ?_; rintro e w' ⟨rfl, rfl⟩))
                  go_round
                  case rel => exact ⟨k + 1, by omega, by go_num, hv'.out⟩
                  case measure => simp [intOf]; omega
              | false =>
                have hv' := hide (show nameB s = false from by
                  have := wlen_stop hlt hc hw
                  rw [hv.out, Bool.eq_false_iff, Ne, ← wlenL_all]
                  simp [wlen] at this ⊢; omega)
                have hl : letterB (s[k].toNat : Nat) = false := by simp [wordB] at hw; exact hw.2
                have hdd : digitB (s[k].toNat : Nat) = false := by simp [wordB] at hw; exact hw.1
                go_wp2_with (first | (go_at_call 36; refine (digit03_any _ _).mono ?_; rintro e w' ⟨rfl, rfl⟩) | (go_at_call 38; refine (letter03_any _ _).mono ?_; rintro e w' ⟨rfl, rfl⟩))
                go_ret
                exact ⟨ret_b hv'.out.symm, hb1⟩
            · have hv' := hide (show nameB s = true from by
                have := wlen_end hk hlt hc
                rw [hv.out, ← wlenL_all]
                simp [wlen] at this ⊢; omega)
              go_wp2
              go_ret
              exact ⟨ret_b hv'.out.symm, hb1⟩
end Go.Proofs.Ytjijggighppjbaa

import Derived.Test.YtjijggighppjbaaDnB
import Derived.Test.YtjijggighppjbaaShelf
namespace Go.Proofs.Ytjijggighppjbaa
open Go.RowKit
set_option maxHeartbeats 400000 in
theorem sindex_any (A : Option Addr) (cap : Nat) (xs : List Int) (n : Int) (w : World) (h : Sl 1 rInt w w.heap.size A xs) :
    Calls Try.prog 14 #[.slice A xs.length cap, .int .i64 n] w fun e w' => e = .returned (.int .i64 (findI xs n)) ∧ w = w' := by
  have hl := h.len
  go_enter Try.func14, Try.ntmps14
  go_wp2
  go_loop [8] (fun i => ∃ k : Nat, k ≤ xs.length ∧ i = .int .i64 k ∧ n ∉ xs.take k) (fun i => xs.length - (intOf i).toNat)
  case atStart => exact ⟨0, Nat.zero_le _, rfl, by simp⟩
  case round =>
    obtain ⟨k, hk, rfl, hc⟩ := hrel
    by_cases hlt : k < xs.length
    · obtain ⟨b, o, rfl, hb, hcell⟩ := h.int hlt
      clear h
      by_cases he : xs[k] = n
      · have ht : (n == xs[k]) = true := by simp [he]
        have hv := hide (findI_at hlt hc he)
        clear he
        go_wp2
        go_ret
        exact ⟨ret_int hv.out.symm, rfl⟩
      · have ht : (n == xs[k]) = false := by simp; exact fun e => he e.symm
        have hv := hide (notMem_take_snoc hlt hc he)
        clear he
        go_wp2
        go_round
        case rel => exact ⟨k + 1, by omega, by go_num, hv.out⟩
        case measure => simp [intOf]; omega
    · have hv := hide (findI_no (notMem_of_take hk hlt hc))
      go_wp2
      go_ret
      exact ⟨ret_int hv.out.symm, rfl⟩
set_option maxHeartbeats 400000 in
theorem word_any (s : ByteArray) (w : World) (hs : s.size ≤ maxLen) :
    Calls Try.prog 43 #[.string s] w fun e w' => e = .returned (.string (s.extract 0 (wlen s))) ∧ w = w' := by
  have hl : s.size ≤ 9223372036854775807 := hs
  go_enter Try.func43, Try.ntmps43
  go_wp2
  go_loop [3] (fun i => ∃ k : Nat, k ≤ s.size ∧ i = .int .i64 k ∧ k ≤ wlen s) (fun i => s.size - (intOf i).toNat)
  case atStart => exact ⟨0, Nat.zero_le _, rfl, Nat.zero_le _⟩
  case round =>
    obtain ⟨k, hk, rfl, hc⟩ := hrel
    by_cases hlt : k < s.size
    · go_wp2_with (go_at_call 48; refine (isWord_any _ _).mono ?_; rintro e w' ⟨rfl, rfl⟩)
      · go_round
        case rel => exact ⟨k + 1, by omega, by go_num, wlen_succ hlt hc (by assumption)⟩
        case measure => simp [intOf]; omega
      · go_ret
        rw [wlen_stop hlt hc (by assumption)]
        exact ⟨rfl, rfl⟩
    · go_wp2_with (go_at_call 48; refine (isWord_any _ _).mono ?_; rintro e w' ⟨rfl, rfl⟩)
      go_ret
      rw [wlen_end hk hlt hc]
      exact ⟨rfl, rfl⟩
set_option maxHeartbeats 400000 in
theorem isKeyword_any (s : ByteArray) (m : Int) (w : World) (hs : s.size < 4294967281) (hm : w.cell? ⟨0, 0, none⟩ = some (.int .i64 m)) :
    Calls Try.prog 45 #[.string s] w fun e w' => e = .returned (.bool (kwB s)) ∧ w = w' := by
  go_enter Try.func45, Try.ntmps45
  by_cases h0 : s.toList = []
  · have h0' : s.toList.isEmpty = true := by simp [h0]
    go_wp2
    go_ret
    exact ⟨ret_b (kwB_empty h0).symm, rfl⟩
  · have h0' : s.toList.isEmpty = false := by simp [h0]
    go_wp2_with fail
    refine (Try.strings_Contains _ _ m _ hs hm).mono ?_
    rintro e w' ⟨rfl, rfl⟩
    cases hb : Go.Lib.contains s.data.toList (ByteArray.mk #[32]).data.toList with
    | true =>
      go_wp2_with fail
      go_ret
      exact ⟨ret_b (kwB_blank hb).symm, rfl⟩
    | false =>
      go_wp2_with fail
      refine (Try.strings_Contains _ _ m _ (by decide +kernel) hm).mono ?_
      rintro e w' ⟨rfl, rfl⟩
      rw [kwB_eq s _ (by decide +kernel) h0 (by assumption)]
      go_wp2_with fail
      go_ret
      exact ⟨rfl, rfl⟩
end Go.Proofs.Ytjijggighppjbaa

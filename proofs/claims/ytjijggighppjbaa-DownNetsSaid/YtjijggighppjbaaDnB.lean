import Derived.Test.YtjijggighppjbaaDnA
namespace Go.Proofs.Ytjijggighppjbaa
open Go.RowKit
set_option maxHeartbeats 400000 in
theorem has1_any (A : Option Addr) (cap : Nat) (xs : List Int) (n : Int) (w : World) (h : Sl 1 rInt w w.heap.size A xs) :
    Calls Try.prog 39 #[.slice A xs.length cap, .int .i64 n] w fun e w' => e = .returned (.bool (decide (n ∈ xs))) ∧ w = w' := by
  have hl := h.len
  go_enter Try.func39, Try.ntmps39
  go_wp2
  go_loop [5] (fun i => ∃ k : Nat, k ≤ xs.length ∧ i = .int .i64 k ∧ n ∉ xs.take k) (fun i => xs.length - (intOf i).toNat)
  case atStart => exact ⟨0, Nat.zero_le _, rfl, by simp⟩
  case round =>
    obtain ⟨k, hk, rfl, hc⟩ := hrel
    by_cases hlt : k < xs.length
    · obtain ⟨b, o, rfl, hb, hcell⟩ := h.int hlt
      clear h
      by_cases he : (xs[k] == n) = true
      · go_wp2
        go_ret
        have : n ∈ xs := by rw [beq_iff_eq] at he; subst he; exact List.getElem_mem _
        simp [this]
      · have he' : (xs[k] == n) = false := by simpa using he
        have hs := hide (notMem_take_succ hlt hc he')
        go_wp2
        go_round
        case rel => exact ⟨k + 1, by omega, by go_num, hs.out⟩
        case measure => simp [intOf]; omega
    · go_wp2
      go_ret
      rw [List.take_of_length_le (by omega)] at hc
      simp [hc]
theorem thereB_in {n : Net} {k : Nat} {p : Int} (hk : k < n.ports.length) : thereB n ((k : Int), p) = decide (p ∈ n.ports[k]) := by
  simp [thereB, hk]
theorem thereB_lo {n : Net} {s p : Int} (hk : ¬ 0 ≤ s) : thereB n (s, p) = false := by
  simp only [thereB, decide_eq_false_iff_not]; omega
theorem thereB_hi {n : Net} {s p : Int} (hk : ¬ s < (n.ports.length : Int)) : thereB n (s, p) = false := by
  simp only [thereB, decide_eq_false_iff_not]; omega
set_option maxHeartbeats 400000 in
theorem there13_any (n : Net) (A1 A2 A3 : Option Addr) (c1 c2 c3 : Nat) (s p : Int) (w : World) (h : NetS w w.heap.size A1 A2 A3 n) :
    Calls Try.prog 27 #[netV n A1 A2 A3 c1 c2 c3, .agg #[.int .i64 s, .int .i64 p]] w fun e w' => e = .returned (.bool (thereB n (s, p))) ∧ Below w.heap.size w w' := by
  obtain ⟨h1, h2, h3⟩ := h
  have l2 := h2.len
  clear h1 h3
  go_enter Try.func27, Try.ntmps27
  by_cases h0 : 0 ≤ s
  · by_cases hlt : s < (n.ports.length : Int)
    · obtain ⟨k, rfl⟩ := Int.eq_ofNat_of_zero_le h0
      have hk : k < n.ports.length := by omega
      obtain ⟨b, o, A', cap', rfl, hb, hcell, hin⟩ := h2.ints hk
      have hv := hide (thereB_in (p := p) hk)
      clear h2
      go_wp2_with fail
      go_quiet ((go_at_call 39; exact quiet_same (has1_any _ _ _ _ _ (((hin.alloc sta_int (Nat.le_refl _) _).alloc sta_int (by simp) _ |>.drewN sta_int _).more sta_int (by simp; omega)))))
      go_wp2
      go_ret
      exact ⟨ret_b hv.out.symm, below_drewN (((Below.refl _ _).alloc (Nat.le_refl _) _).alloc (by simp) _) _⟩
    · have hd : decide (s < (n.ports.length : Int)) = false := by simpa using hlt
      have hv := hide (thereB_hi (p := p) hlt)
      go_wp2_with fail
      go_quiet (fail)
      go_wp2
      go_ret
      exact ⟨ret_b hv.out.symm, below_drewN (((Below.refl _ _).alloc (Nat.le_refl _) _).alloc (by simp) _) _⟩
  · have hd : decide (0 ≤ s) = false := by simpa using h0
    have hv := hide (thereB_lo (n := n) (p := p) h0)
    go_wp2_with fail
    go_quiet (fail)
    go_wp2
    go_ret
    exact ⟨ret_b hv.out.symm, below_drewN (((Below.refl _ _).alloc (Nat.le_refl _) _).alloc (by simp) _) _⟩
set_option maxHeartbeats 400000 in
theorem find13_any (n : Net) (A1 A2 A3 : Option Addr) (c1 c2 c3 : Nat) (s : ByteArray) (w : World) (h : NetS w w.heap.size A1 A2 A3 n) :
    Calls Try.prog 26 #[netV n A1 A2 A3 c1 c2 c3, .string s] w fun e w' => e = .returned (.int .i64 (findI n.sw s)) ∧ Below w.heap.size w w' := by
  obtain ⟨h1, h2, h3⟩ := h
  have l1 := h1.len
  go_enter Try.func26, Try.ntmps26
  go_wp2
  go_loop [5] (fun i => ∃ k : Nat, k ≤ n.sw.length ∧ i = .int .i64 k ∧ s ∉ n.sw.take k) (fun i => n.sw.length - (intOf i).toNat)
  case atStart => exact ⟨0, Nat.zero_le _, rfl, by simp⟩
  case round =>
    obtain ⟨k, hk, rfl, hc⟩ := hrel
    by_cases hlt : k < n.sw.length
    · obtain ⟨b, o, rfl, hb, hcell, hz⟩ := h1.str hlt
      clear h1
      by_cases he : n.sw[k] = s
      · have ht := str_eq he
        have hv := hide (findI_at hlt hc he)
        clear he
        go_wp2
        go_ret
        exact ⟨ret_int hv.out.symm, (Below.refl _ _).alloc (Nat.le_refl _) _⟩
      · have ht := str_ne he
        have hv := hide (notMem_take_snoc hlt hc he)
        clear he
        go_wp2
        go_round
        case rel => exact ⟨k + 1, by omega, by go_num, hv.out⟩
        case measure => simp [intOf]; omega
    · have hv := hide (findI_no (notMem_of_take hk hlt hc))
      go_wp2
      go_ret
      exact ⟨ret_int hv.out.symm, (Below.refl _ _).alloc (Nat.le_refl _) _⟩
set_option maxHeartbeats 400000 in
theorem digit03_any (c : Int) (w : World) : Calls Try.prog 36 #[.int .u8 c] w fun e w' => e = .returned (.bool (digitB c)) ∧ w = w' := by
  go_enter Try.func36, Try.ntmps36
  go_wp2
  all_goals
    go_ret
    exact ⟨ret_bool (by simp [digitB]; omega), rfl⟩
set_option maxHeartbeats 400000 in
theorem isDigit_any (c : Int) (w : World) : Calls Try.prog 44 #[.int .u8 c] w fun e w' => e = .returned (.bool (digitB c)) ∧ w = w' := by
  go_enter Try.func44, Try.ntmps44
  go_wp2
  all_goals
    go_ret
    exact ⟨ret_bool (by simp [digitB]; omega), rfl⟩
set_option maxHeartbeats 400000 in
theorem letter03_any (c : Int) (w : World) : Calls Try.prog 38 #[.int .u8 c] w fun e w' => e = .returned (.bool (letterB c)) ∧ w = w' := by
  go_enter Try.func38, Try.ntmps38
  go_wp2
  all_goals
    go_ret
    exact ⟨ret_bool (by simp [letterB]; omega), rfl⟩
set_option maxHeartbeats 400000 in
theorem isWord_any (c : Int) (w : World) : Calls Try.prog 48 #[.int .u8 c] w fun e w' => e = .returned (.bool (wordB c)) ∧ w = w' := by
  go_enter Try.func48, Try.ntmps48
  go_wp2_with (go_at_call 44; refine (isDigit_any _ _).mono ?_; rintro e w' ⟨rfl, rfl⟩)
  all_goals
    go_ret
    refine ⟨ret_bool ?_, rfl⟩
    simp only [digitB, decide_eq_true_eq, decide_eq_false_iff_not] at *
    simp [wordB, digitB, letterB]; try omega
end Go.Proofs.Ytjijggighppjbaa

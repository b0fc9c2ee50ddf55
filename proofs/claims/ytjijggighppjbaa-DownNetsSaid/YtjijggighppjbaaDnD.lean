import Derived.Test.YtjijggighppjbaaDnC
namespace Go.Proofs.Ytjijggighppjbaa
open Go.RowKit
theorem findI_nonneg {α : Type} [DecidableEq α] (l : List α) (a : α) : decide (0 ≤ findI l a) = decide (a ∈ l) := by
  unfold findI
  by_cases h : a ∈ l <;> simp [h]
set_option maxHeartbeats 400000 in
theorem scontains_any (A : Option Addr) (cap : Nat) (xs : List Int) (n : Int) (w : World) (h : Sl 1 rInt w w.heap.size A xs) :
    Calls Try.prog 22 #[.slice A xs.length cap, .int .i64 n] w fun e w' => e = .returned (.bool (decide (n ∈ xs))) ∧ w = w' := by
  have hv := hide (findI_nonneg xs n)
  go_enter Try.func22, Try.ntmps22
  go_wp2_with (go_at_call 14; refine (sindex_any _ _ _ _ _ h).mono ?_; rintro e w' ⟨rfl, rfl⟩)
  go_ret
  exact ⟨ret_b hv.out, rfl⟩
set_option maxHeartbeats 400000 in
theorem sindexS_any (A : Option Addr) (cap : Nat) (xs : List ByteArray) (n : ByteArray) (w : World) (h : Sl 1 rStr w w.heap.size A xs) :
    Calls Try.prog 46 #[.slice A xs.length cap, .string n] w fun e w' => e = .returned (.int .i64 (findI xs n)) ∧ w = w' := by
  have hl := h.len
  go_enter Try.func46, Try.ntmps46
  go_wp2
  go_loop [8] (fun i => ∃ k : Nat, k ≤ xs.length ∧ i = .int .i64 k ∧ n ∉ xs.take k) (fun i => xs.length - (intOf i).toNat)
  case atStart => exact ⟨0, Nat.zero_le _, rfl, by simp⟩
  case round =>
    obtain ⟨k, hk, rfl, hc⟩ := hrel
    by_cases hlt : k < xs.length
    · obtain ⟨b, o, rfl, hb, hcell, -⟩ := h.str hlt
      clear h
      by_cases he : xs[k] = n
      · have ht := str_eq he.symm
        have hv := hide (findI_at hlt hc he)
        clear he
        go_wp2
        go_ret
        exact ⟨ret_int hv.out.symm, rfl⟩
      · have ht := str_ne (fun e => he (Eq.symm e))
        have hv := hide (notMem_take_snoc hlt hc he)
        clear he
        go_wp2
        go_round
        case rel => exact ⟨k + 1, by omega, by go_num, hv.out⟩
        case measure => simp [intOf]; omega
    · have hv := hide (findI_no (notMem_of_take hk hlt hc))
      go_wp2
      go_ret
      exact ⟨ret_int hv.out.symm, rfl⟩
set_option maxHeartbeats 400000 in
theorem tfind_any (n : Net) (A1 A2 A3 : Option Addr) (c1 c2 c3 : Nat) (s : ByteArray) (w : World) (h : NetS w w.heap.size A1 A2 A3 n) :
    Calls Try.prog 32 #[netV n A1 A2 A3 c1 c2 c3, .string s] w fun e w' => e = .returned (.int .i64 (findI n.sw s)) ∧ Below w.heap.size w w' := by
  obtain ⟨h1, -, -⟩ := h
  go_enter Try.func32, Try.ntmps32
  go_wp2_with (go_at_call 46; refine (sindexS_any _ _ _ _ _ ((h1.alloc sta_str (Nat.le_refl _) _).more sta_str (by simp))).mono ?_; rintro e w' ⟨rfl, rfl⟩)
  go_ret
  exact ⟨rfl, (Below.refl _ _).alloc (Nat.le_refl _) _⟩
set_option maxHeartbeats 400000 in
theorem tthere_any (n : Net) (A1 A2 A3 : Option Addr) (c1 c2 c3 : Nat) (s p : Int) (w : World) (h : NetS w w.heap.size A1 A2 A3 n) :
    Calls Try.prog 34 #[netV n A1 A2 A3 c1 c2 c3, .agg #[.int .i64 s, .int .i64 p]] w fun e w' => e = .returned (.bool (thereB n (s, p))) ∧ Below w.heap.size w w' := by
  obtain ⟨-, h2, -⟩ := h
  have l2 := h2.len
  go_enter Try.func34, Try.ntmps34
  by_cases h0 : 0 ≤ s
  · by_cases hlt : s < (n.ports.length : Int)
    · obtain ⟨k, rfl⟩ := Int.eq_ofNat_of_zero_le h0
      have hk : k < n.ports.length := by omega
      obtain ⟨b, o, A', cap', rfl, hb, hcell, hin⟩ := h2.ints hk
      have hv := hide (thereB_in (p := p) hk)
      clear h2
      go_wp2_with fail
      go_quiet ((go_at_call 22; exact quiet_same (scontains_any _ _ _ _ _ (((hin.alloc sta_int (Nat.le_refl _) _).alloc sta_int (by simp) _ |>.drewN sta_int _).more sta_int (by simp; omega)))))
      go_wp2
      go_ret
      exact ⟨ret_b hv.out.symm, below_drewN (((Below.refl _ _).alloc (Nat.le_refl _) _).alloc (by simp) _) _⟩
    · have hd : decide (s < (n.ports.length : Int)) = false := by simpa using hlt
      have hv := hide (thereB_hi (p := p) hlt)
      go_wp2_with fail
      go_quiet (fail)
      go_wp2
      go_ret
      exact ⟨ret_b hv.out.symm, below_drewN (((Below.refl _ _).alloc (Nat.le_refl _) _).alloc (by simp) _) _⟩
  · have hd : decide (0 ≤ s) = false := by simpa using h0
    have hv := hide (thereB_lo (n := n) (p := p) h0)
    go_wp2_with fail
    go_quiet (fail)
    go_wp2
    go_ret
    exact ⟨ret_b hv.out.symm, below_drewN (((Below.refl _ _).alloc (Nat.le_refl _) _).alloc (by simp) _) _⟩
theorem take_snoc_eq {α : Type} {xs ys : List α} {k : Nat} (h1 : k < xs.length) (h2 : k < ys.length) (hc : xs.take k = ys.take k) (he : xs[k] = ys[k]) : xs.take (k + 1) = ys.take (k + 1) := by
  rw [List.take_succ_eq_append_getElem h1, List.take_succ_eq_append_getElem h2, hc, he]
set_option maxHeartbeats 400000 in
theorem ints_any (A A' : Option Addr) (cap cap' : Nat) (xs ys : List Int) (w : World) (h : Sl 1 rInt w w.heap.size A xs) (h' : Sl 1 rInt w w.heap.size A' ys) :
    Calls Try.prog 12 #[.slice A xs.length cap, .slice A' ys.length cap'] w fun e w' => e = .returned (.bool (decide (xs = ys))) ∧ ∃ m, w' = w.drewN m := by
  have hl := h.len
  have hl' := h'.len
  go_enter Try.func12, Try.ntmps12
  by_cases hn : xs.length = ys.length
  · have hn' : ((xs.length : Int) != ys.length) = false := by simp [hn]
    have H := hide hn
    clear hn
    go_wp2
    go_loopw [5] (fun i wr => ∃ k : Nat, k ≤ xs.length ∧ i = .int .i64 k ∧ xs.take k = ys.take k ∧ ∃ m, wr = w.drewN m) (fun i _ => xs.length - (intOf i).toNat)
    case atStart => exact ⟨0, Nat.zero_le _, rfl, by simp, 0, rfl⟩
    case round =>
      obtain ⟨k, hk, rfl, hc, m, rfl⟩ := hrel
      have hc := hide hc
      by_cases hlt : k < xs.length
      · obtain ⟨b, o, rfl, hb, hcell⟩ := h.int hlt
        have hlt' : k < ys.length := by have := H.out; omega
        obtain ⟨b', o', rfl, hb', hcell'⟩ := h'.int hlt'
        clear h h'
        by_cases he : xs[k] = ys[k]
        · have hb1 : (xs[k] != ys[k]) = false := by simp [he]
          have hv := hide (take_snoc_eq hlt hlt' hc.out he)
          clear he
          go_wp2_with fail
          go_quiet (fail)
          go_wp2
          go_roundw
          case rel => exact ⟨k + 1, by omega, by go_num, hv.out, m + nq, rfl⟩
          case measure => simp [intOf]; omega
        · have hb1 : (xs[k] != ys[k]) = true := by simp [he]
          have hv := hide (show ¬ xs = ys from fun e => he (by subst e; rfl))
          clear he
          go_wp2_with fail
          go_quiet (fail)
          go_wp2
          go_ret
          exact ⟨ret_b (by have := hv.out; simp [this]), m + nq, by simp⟩
      · have hv := hide (show xs = ys from by have h1 := hc.out; have := H.out; rwa [List.take_of_length_le (by omega), List.take_of_length_le (by omega)] at h1)
        go_wp2
        go_ret
        exact ⟨ret_b (by simpa using hv.out), _, rfl⟩
  · have hn' : ((xs.length : Int) != ys.length) = true := by simp; omega
    go_wp2
    go_ret
    refine ⟨ret_b ?_, 0, rfl⟩
    symm; rw [decide_eq_false_iff_not]; intro e; exact hn (by rw [e])
set_option maxHeartbeats 400000 in
theorem mayPorts_any (A : Option Addr) (cap : Nat) (xs : List Int) (w : World) (h : Sl 1 rInt w w.heap.size A xs) :
    Calls Try.prog 33 #[.slice A xs.length cap] w fun e w' => e = .returned (.bool (mayPortsB xs)) ∧ w = w' := by
  have hl := h.len
  go_enter Try.func33, Try.ntmps33
  go_wp2
  go_loop [7] (fun i => ∃ k : Nat, k ≤ xs.length ∧ i = .int .i64 k ∧ portsTo xs k) (fun i => xs.length - (intOf i).toNat)
  case atStart => exact ⟨0, Nat.zero_le _, rfl, fun i hi => by omega⟩
  case round =>
    obtain ⟨k, hk, rfl, hc⟩ := hrel
    by_cases hlt : k < xs.length
    · obtain ⟨b, o, rfl, hb, hcell⟩ := h.int hlt
      cases k with
      | zero =>
        clear h
        simp only [Nat.add_zero] at hcell
        by_cases hp : portAt xs 0
        · have hv := hide (portsTo_succ hc hp)
          simp [portAt, List.getD_eq_getElem?_getD, hlt] at hp
          clear hc
          obtain ⟨p1, p2⟩ := hp
          go_wp2
          go_round
          case rel => exact ⟨1, by omega, by go_num, hv.out⟩
          case measure => simp [intOf]; omega
        · have hv := hide (mayPorts_no hlt hp)
          simp [portAt, List.getD_eq_getElem?_getD, hlt] at hp
          go_wp2
          all_goals
            go_ret
            exact ⟨ret_b hv.out.symm, rfl⟩
      | succ j =>
        obtain ⟨b', o', he, -, hcell'⟩ := h.int (i := j) (by omega)
        cases he
        clear h
        by_cases hp : portAt xs (j + 1)
        · have hv := hide (portsTo_succ hc hp)
          simp [portAt, List.getD_eq_getElem?_getD, hlt, show j < xs.length by omega] at hp
          clear hc
          obtain ⟨p1, p2, p3⟩ := hp
          go_wp2
          go_round
          case rel => exact ⟨j + 2, by omega, by go_num, hv.out⟩
          case measure => simp [intOf]; omega
        · have hv := hide (mayPorts_no hlt hp)
          simp [portAt, List.getD_eq_getElem?_getD, hlt, show j < xs.length by omega] at hp
          go_wp2
          all_goals
            go_ret
            exact ⟨ret_b hv.out.symm, rfl⟩
    · go_wp2
      go_ret
      refine ⟨ret_bool ?_, rfl⟩
      have hc' : portsTo xs xs.length := by rwa [show k = xs.length by omega] at hc
      simp [mayPortsB, hc']; omega
end Go.Proofs.Ytjijggighppjbaa

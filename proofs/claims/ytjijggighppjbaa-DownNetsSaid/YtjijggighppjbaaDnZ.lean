import Derived.Test.YtjijggighppjbaaDnY
namespace Go.Proofs.Ytjijggighppjbaa
open Go.RowKit
attribute [local go_sem ↓] app_eq
theorem clamp_cases (x : Int) (c : Nat) : (x < 0 ∧ ((clamp x c : Nat) : Int) = 0) ∨ ((¬ x < 0 ∧ (c : Int) < x) ∧ ((clamp x c : Nat) : Int) = c) ∨ ((¬ x < 0 ∧ ¬ (c : Int) < x) ∧ ((clamp x c : Nat) : Int) = x) := by unfold clamp; omega
theorem not_own_of_lt {w : World} {base base' : Nat} {e e' : TypeId} {size size' n n' : Nat} {v v' : Value} {xs xs' : List Value} (h : w.ownsRow base e size v n xs) (h' : w.ownsRow base' e' size' v' n' xs') (hb : ∀ g, v.ownBlock = some g → g < base') : v'.ownBlock = none ∨ v'.ownBlock ≠ v.ownBlock := by
  cases hv : v'.ownBlock with
  | none => exact .inl rfl
  | some g =>
    right
    intro e
    have h1 := (h'.lt g hv).1
    have h2 := hb g e.symm
    omega
theorem refNow_le {n : Nat} (hn : n ≤ 32) {i : Nat} (hi : i ≤ 3) : (refNow n i).length ≤ 40000 := by
  refine Nat.le_trans (refNow_len hn i) ?_
  rcases (show i = 0 ∨ i = 1 ∨ i = 2 ∨ i = 3 by omega) with rfl | rfl | rfl | rfl <;> decide
theorem refNow_le2 {n : Nat} (hn : n ≤ 32) {i : Nat} (hi : i ≤ 2) : (refNow n i).length ≤ 1024 := by
  refine Nat.le_trans (refNow_len hn i) ?_
  rcases (show i = 0 ∨ i = 1 ∨ i = 2 by omega) with rfl | rfl | rfl <;> decide
set_option maxRecDepth 100000 in
set_option maxHeartbeats 4000000 in
theorem rsets_any (n k : Int) (w : World) : Calls Try.prog 11 #[.int .i64 n, .int .i64 k] w fun e w' => ∃ v, e = .returned v ∧ RowsS w' w.heap.size v (refSets n k) ∧ Below w.heap.size w w' := by
  have hN32 := clamp_le n 32
  have hK3 := clamp_le k 3
  have hset := hide (show refSets n k = refOut (clamp n 32) (clamp k 3) from rfl)
  have hkc : (3 < k ∧ ∀ i : Nat, ¬ i < clamp k 3 → ¬ (i : Int) < 3) ∨ (¬ 3 < k ∧ ∀ i : Nat, ¬ i < clamp k 3 → ¬ (i : Int) < k) := by
    by_cases h : 3 < k
    · exact .inl ⟨h, fun i hi => by unfold clamp at hi; omega⟩
    · exact .inr ⟨h, fun i hi => by unfold clamp at hi; omega⟩
  have hlo : ∀ i : Nat, i < clamp k 3 → (i : Int) < k := fun i hi => by unfold clamp at hi; omega
  replace hlo := hide hlo
  have hcc := clamp_cases n 32
  generalize clamp n 32 = N at hN32 hset hcc
  generalize clamp k 3 = K at hK3 hset hkc hlo
  go_enter Try.func11, Try.ntmps11
  rcases hcc with ⟨p1, hn'⟩ | ⟨⟨p1, p2⟩, hn'⟩ | ⟨⟨p1, p2⟩, hn'⟩ <;> rcases hkc with ⟨p3, hex⟩ | ⟨p3, hex⟩
  all_goals
    replace hn' := hide hn'
    replace hex := hide hex
    go_wp2
    obtain ⟨w1, hw1⟩ : ∃ w1, (w.alloc (.cells #[.slice none 0 0] 27)).alloc (.cells #[.slice none 0 0] 27) = w1 := ⟨_, rfl⟩
    have hb1 : Below w.heap.size w w1 := by rw [← hw1]; exact ((Below.refl _ _).alloc (Nat.le_refl _) _).alloc (by simp) _
    have hR1 : RowsS w1 w.heap.size (.slice (some ⟨w.heap.size, 0, none⟩) 1 1) [[]] := rowsS_first (by rw [← hw1, Below.heap_alloc _ _ _ (by simp)]; exact heap_alloc_new w _) (Nat.le_refl _)
    have hR2 : RowsS w1 w.heap.size (.slice (some ⟨w.heap.size + 1, 0, none⟩) 1 1) [[]] := rowsS_first (by rw [← hw1]; have := heap_alloc_new (w.alloc (.cells #[.slice none 0 0] 27)) (.cells #[.slice none 0 0] 27); simpa using this) (by omega)
    rw [hw1]
    clear hw1
    go_loopw [5, 6, 7] (fun a b c wr => ∃ i : Nat, i ≤ K ∧ c = .int .i64 i ∧ Hid (RowsS wr w.heap.size a (refNow N i)) ∧ Hid (RowsS wr w.heap.size b (refOut N i)) ∧ Hid (Below w.heap.size w wr)) (fun _ _ c _ => K - (intOf c).toNat)
    case atStart => exact ⟨0, Nat.zero_le _, rfl, hide hR1, hide hR2, hide hb1⟩
    case round =>
      clear hR1 hR2 hb1
      obtain ⟨i, hi, rfl, hA, hB, hbr⟩ := hrel
      by_cases hlt : i < K
      · have hl1 : (i : Int) < 3 := by omega
        have hl2 : (i : Int) < k := hlo.out i hlt
        obtain ⟨A, cap, rfl, hS⟩ := hA.out.sl
        have hrl := hbr.out.size
        have hmm : ∀ s ∈ refNow N i, s.length ≤ 8 ∧ ∀ y ∈ s, 0 ≤ y ∧ y ≤ 32 := fun s hs => ⟨by have := (refNow_mem hN32 hs).1; omega, (refNow_mem hN32 hs).2⟩
        have hi2 : (refNow N i).length ≤ 1024 := refNow_le2 hN32 (by omega)
        have hc : Calls Try.prog 30 #[.int .i64 (N : Int), .slice A (refNow N i).length cap] wr fun e w' => ∃ v, e = .returned v ∧ RowsS w' wr.heap.size v (refNow N (i + 1)) ∧ Below wr.heap.size wr w' :=
          with_any N A cap (refNow N i) wr hS (by omega) hmm (fun j => by
            have := withF_len hN32 (l := (refNow N i).take j) (fun s hs => (hmm s (List.mem_of_mem_take hs)).2)
            rw [List.length_take] at this
            omega)
        rw [hn'.out] at hc
        replace hc := hide hc
        have hnl : (refNow N (i + 1)).length ≤ 40000 := refNow_le hN32 (by omega)
        have hol : (refOut N i).length ≤ 40000 := refOut_len hN32 (by omega)
        have hro := hide (show refOut N (i + 1) = refOut N i ++ refNow N (i + 1) from rfl)
        obtain ⟨vs, hv1, hv2, hv3⟩ := hB.out
        generalize refNow N i = XI at hc hA hS hmm hi2
        clear hS hmm hA
        go_wp2_with fail
        refine hc.out.mono ?_
        rintro e w2 ⟨v2, rfl, ⟨us, hu1, hu2, hu3⟩, hb2⟩
        have hb2s := hb2.size
        have ho2 := own_below hv2 hb2 (Nat.le_refl _)
        obtain ⟨v3, w3, hr3, ho3, hg3⟩ := append_rows ho2 hu2 (rows_one hu1 hu3) (by omega) (by omega)
        have hdj := not_own_of_lt ho2 hu2 (fun g hg => by have := (hv2.lt g hg).2; exact this)
        have hbN := hide (hbr.out.trans ((hb2.mono hrl).trans (below_own_grown ho2 hg3 (Nat.le_refl w.heap.size) (by omega))))
        have hAN := hide (show RowsS w3 w.heap.size v2 (refNow N (i + 1)) from ⟨us, hu1, own_mono (hu2.kept hg3 hdj) hrl, fun i u x hu hx => row_kept (hu3 i u x hu hx) ho2 (by decide) hg3⟩)
        have hBN := hide (RowsS.join hv1 (fun i u x hu hx => row_kept (own_below (hv3 i u x hu hx) hb2 (Nat.le_refl _)) ho2 (by decide) hg3) hu1 (fun i u x hu hx => row_kept (hu3 i u x hu hx) ho2 (by decide) hg3) ho3)
        rw [← hro.out] at hBN
        clear hv1 hv2 hv3 hu1 hu2 hu3 hb2 ho2 ho3 hg3 hdj hB hbr hnl hol
        go_wp2
        go_roundw
        case rel => exact ⟨i + 1, by omega, by go_num, hAN, hBN, hbN⟩
        case measure => simp [intOf]; omega
      · have hie : i = K := by omega
        have hx := hex.out i hlt
        have hfin := hide (show RowsS wr w.heap.size _ (refSets n k) from by rw [hset.out, ← hie]; exact hB.out)
        clear hie
        go_wp2
        go_ret
        exact ⟨_, rfl, hfin.out, hbr.out⟩
end Go.Proofs.Ytjijggighppjbaa

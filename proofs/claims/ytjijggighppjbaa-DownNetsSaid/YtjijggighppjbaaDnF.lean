import Derived.Test.YtjijggighppjbaaDnE
namespace Go.Proofs.Ytjijggighppjbaa
open Go.RowKit
set_option maxHeartbeats 1000000 in
theorem next_any (n : Net) (A1 A2 A3 : Option Addr) (c1 c2 c3 : Nat) (s p : Int) (w : World) (h : NetS w w.heap.size A1 A2 A3 n) :
    Calls Try.prog 24 #[netV n A1 A2 A3 c1 c2 c3, .agg #[.int .i64 s, .int .i64 p]] w fun e w' =>
      e = .returned (.tuple #[.agg #[.int .i64 (nextB n (s, p)).1.1, .int .i64 (nextB n (s, p)).1.2], .bool (nextB n (s, p)).2.1, .bool (nextB n (s, p)).2.2]) ∧ Below w.heap.size w w' := by
  obtain ⟨h1, h2, h3⟩ := h
  have l3 := h3.len
  have hnet : ∀ o1 o2 o3 : Obj, NetS (((w.alloc o1).alloc o2).alloc o3) (((w.alloc o1).alloc o2).alloc o3).heap.size A1 A2 A3 n := fun o1 o2 o3 =>
    ((((NetS.alloc ⟨h1, h2, h3⟩ (Nat.le_refl _) o1).alloc (by simp) o2).alloc (by simp; omega) o3).more (by simp; omega))
  have hb0 : ∀ o1 o2 o3 : Obj, Below w.heap.size w (((w.alloc o1).alloc o2).alloc o3) := fun o1 o2 o3 => (((Below.refl _ _).alloc (Nat.le_refl _) _).alloc (by simp) _).alloc (by simp; omega) _
  go_enter Try.func24, Try.ntmps24
  cases ht : thereB n (s, p) with
  | false =>
    have hv := hide (show nextB n (s, p) = ((0, 0), false, false) from by simp [nextB, ht])
    go_wp2_with (go_at_call 27; refine (there13_any n _ _ _ _ _ _ _ _ _ (hnet _ _ _)).mono ?_; rintro e w1 ⟨rfl, hb1⟩; obtain ⟨hc1, hf1, hz1⟩ := bcell hb1; have hbA := (hb0 _ _ _).trans (hb1.mono (by simp; try omega)); clear hb1; simp at hz1)
    refine bodyPost_ret (v := .tuple #[.agg #[.int .i64 0, .int .i64 0], .bool false, .bool false]) (by simp [results, Try.results24, go_sem, hc1]) rfl ⟨by rw [hv.out], ?_⟩
    exact (hbA.setCell (by simp; omega) _).setCell (by simp; omega) _
  | true =>
    have hv := hide (show nextB n (s, p) = nextT (nextL n.links (s, p)) from by simp [nextB, ht])
    go_wp2_with (go_at_call 27; refine (there13_any n _ _ _ _ _ _ _ _ _ (hnet _ _ _)).mono ?_; rintro e w1 ⟨rfl, hb1⟩; obtain ⟨hc1, hf1, hz1⟩ := bcell hb1; have hbA := (hb0 _ _ _).trans (hb1.mono (by simp; try omega)); clear hb1; simp at hz1)
    have h3' := h3.below sta_link hbA
    clear h1 h2 h3 hnet hb0
    go_loopw [7] (fun i wr => ∃ k : Nat, k ≤ n.links.length ∧ i = .int .i64 k ∧ offL (n.links.take k) (s, p) ∧ ∃ m, wr = w1.drewN m) (fun i _ => n.links.length - (intOf i).toNat)
    case atStart => exact ⟨0, Nat.zero_le _, rfl, by simp [offL], 0, rfl⟩
    case round =>
      obtain ⟨k, hk, rfl, hoff, m, rfl⟩ := hrel
      have hoff := hide hoff
      by_cases hlt : k < n.links.length
      · obtain ⟨b, o, rfl, hb, x1, x2, x3, x4⟩ := h3'.link hlt
        have hn := hide (nextL_at hlt hoff.out)
        clear h3'
        by_cases he : n.links[k].1 = (s, p)
        · have hvk := hide (show nextB n (s, p) = (n.links[k].2, true, true) from by rw [hv.out, hn.out, if_pos he]; rfl)
          go_wp2_with fail
          go_quiet (fail)
          go_wp2
          refine bodyPost_ret (v := .tuple #[endV n.links[k].2, .bool true, .bool true]) (by simp [results, Try.results24, go_sem, hc1]) rfl ⟨by rw [hvk.out], ?_⟩
          refine ((below_drewN hbA _).setCell ?_ _).setCell ?_ _ <;> simp <;> omega
        · have he' := hide he
          by_cases he2 : n.links[k].2 = (s, p)
          · have hvk := hide (show nextB n (s, p) = (n.links[k].1, true, true) from by rw [hv.out, hn.out, if_neg he, if_pos he2]; rfl)
            have he2' := hide he2
            rcases end_ne he with e1 | ⟨e1, e2⟩ <;> clear he
            all_goals
              go_wp2_with fail
              go_quiet (fail)
              go_wp2
              go_quiet (fail)
              go_wp2
              refine bodyPost_ret (v := .tuple #[endV n.links[k].1, .bool true, .bool true]) (by simp [results, Try.results24, go_sem, hc1]; try exact e1.symm) rfl ⟨by rw [hvk.out], ?_⟩
              refine ((below_drewN hbA _).setCell ?_ _).setCell ?_ _ <;> simp <;> omega
          · have hvk := hide (offL_succ hlt hoff.out he he2)
            have he2' := hide he2
            rcases end_ne he with e1 | ⟨e1, e2⟩ <;> rcases end_ne he2 with f1 | ⟨f1, f2⟩ <;> clear he he2
            all_goals
              go_wp2_with fail
              go_quiet (fail)
              go_wp2
              go_quiet (fail)
              go_wp2
              go_roundw
              case rel => exact ⟨k + 1, by omega, by go_num, hvk.out, _, rfl⟩
              case measure => simp [intOf]; omega
      · have hvk := hide (show nextB n (s, p) = ((0, 0), true, false) from by rw [hv.out, nextL_none (by have := hoff.out; rwa [List.take_of_length_le (by omega)] at this)]; rfl)
        go_wp2
        refine bodyPost_ret (v := .tuple #[.agg #[.int .i64 0, .int .i64 0], .bool true, .bool false]) (by simp [results, Try.results24, go_sem, hc1]) rfl ⟨by rw [hvk.out], ?_⟩
        refine ((below_drewN hbA _).setCell ?_ _).setCell ?_ _ <;> simp <;> omega
end Go.Proofs.Ytjijggighppjbaa

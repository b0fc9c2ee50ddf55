import Derived.Test.YtmfpbahifhndjaaGreatLow39
set_option linter.all false
/-! Layer 10: heads, the document's. -/
set_option linter.all false
namespace Go.Proofs.YtmfpbahifhndjaaGreat
open Go.RowKit
set_option maxRecDepth 100000 in
set_option maxHeartbeats 4000000 in
theorem rheads_any (A1 A2 A3 A4 A5 A6 A7 A8 A9 A10 A11 A12 : Option Addr) (p : Lp) (c1 c2 c3 c4 c5 c6 c7 c8 c9 c10 c11 c12 : Nat) (w : World) (h : LpS w w.heap.size A1 A2 A3 A4 A5 A6 A7 A8 A9 A10 A11 A12 p) :
  Calls Tryz.prog 36 #[.agg #[.slice A1 p.heads.length c1, .slice A2 p.metas.length c2, .slice A3 p.steps.length c3, .slice A4 p.acts.length c4, .slice A5 p.tabs.length c5, .slice A6 p.control.length c6, .slice A7 p.emit.length c7, .slice A8 p.nh.length c8, .slice A9 p.nf.length c9, .slice A10 p.nm.length c10, .slice A11 p.na.length c11, .slice A12 p.nt.length c12]] w fun e w' => e = .returned (.bool (headsR p)) ∧ Below w.heap.size w w' := by
 have l1 := h.heads.len
 have l8 := h.nh.len
 have l9 := h.nf.len
 obtain ⟨wz, hwz, hsz, hbz, hcz, -⟩ := box1 w #[.slice A1 p.heads.length c1, .slice A2 p.metas.length c2, .slice A3 p.steps.length c3, .slice A4 p.acts.length c4, .slice A5 p.tabs.length c5, .slice A6 p.control.length c6, .slice A7 p.emit.length c7, .slice A8 p.nh.length c8, .slice A9 p.nf.length c9, .slice A10 p.nm.length c10, .slice A11 p.na.length c11, .slice A12 p.nt.length c12] 33
 have lx : w.heap.size < wz.heap.size := by omega
 have hP := (h.below hbz).more hbz.size
 have hHd := hide hP.heads
 have hNf := hide hP.nf
 obtain ⟨y0, -, -, -, -, -, -, y7, y8, -, -, -⟩ := row12 hcz
 have hgo := hide hbz
 have hv := hide (show headsR p = (decide (p.heads.length ≤ 8) && decide (p.nh.length = p.heads.length) && decide (p.nf.length = p.heads.length) && allN (fun i => atD headB p.heads i && atD (fun l => atD (fun n => decide (n.length = l.length)) p.nf i) p.heads i) p.heads.length) from rfl)
 replace hsz := hide hsz
 clear hcz hbz h hP
 generalize hF : (fun i => atD headB p.heads i && atD (fun l => atD (fun (n : List ByteArray) => decide (n.length = l.length)) p.nf i) p.heads i) = F at hv
 replace hF := hide hF
 go_enter Tryz.func36, Tryz.ntmps36
 by_cases a1 : p.heads.length ≤ 8
 ·have a1z : ¬ (8 : Int) < (p.heads.length : Int) := by omega
  rw [decide_eq_true a1, Bool.true_and] at hv
  by_cases a2 : p.nh.length = p.heads.length
  ·have a2z : ((p.nh.length : Int) != (p.heads.length : Int)) = false := by rw [a2]; exact bne_self_eq_false _
   rw [decide_eq_true a2, Bool.true_and] at hv
   replace a2 := hide a2
   by_cases a3 : p.nf.length = p.heads.length
   ·have a3z : ((p.nf.length : Int) != (p.heads.length : Int)) = false := by rw [a3]; exact bne_self_eq_false _
    rw [decide_eq_true a3, Bool.true_and] at hv
    replace a3 := hide a3
    go_wp2
    go_loop [3, 4, 5, 6] (fun i _ _ _ => ∃ k : Nat, k ≤ p.heads.length ∧ i = .int .i64 k ∧ Hid (allN F k = true)) (fun i _ _ _ => p.heads.length - (intOf i).toNat)
    case atStart => exact ⟨0, Nat.zero_le _, rfl, hide rfl⟩
    case round =>
     obtain ⟨k, hk, rfl, hcn⟩ := hrel
     by_cases hlt : k < p.heads.length
     ·have hkz : (k : Int) < (p.heads.length : Int) := by omega
      have hlt9 : k < p.nf.length := by rw [a3.out]; exact hlt
      have hkz9 : (k : Int) < (p.nf.length : Int) := by omega
      obtain ⟨b, o, A', c', hA1, hb, hcell, hE⟩ := hHd.out.ints hlt
      obtain ⟨b9, o9, A9', c9', hA9, hb9, hcell9, hl9⟩ := hNf.out.strs hlt9
      subst hA1
      subst hA9
      have hFk : F k = (headB p.heads[k] && decide (p.nf[k].length = p.heads[k].length)) := by rw [← hF.out]; simp only [atD_at _ hlt, atD_at _ hlt9]
      have hNx := hide (fun (g : F k = true) => show allN F (k + 1) = true from by rw [allN, hcn.out, g]; rfl)
      have hlo := hide (fun (g : F k = false) => show allN F p.heads.length = false from allN_no hlt g)
      generalize p.heads[k] = xs at hcell hE hFk
      generalize p.nf[k] = ns at hcell9 hl9 hFk
      replace hFk := hide hFk
      have hls := hE.len
      have hC := hide (widths_any A' c' xs wz hE)
      have hvf := hide (fun (g : F k = false) => hv.out.trans (hlo.out g))
      go_wp2
      go_loop [5, 6] (fun s i => ∃ m : Nat, m ≤ xs.length ∧ i = .int .i64 m ∧ ∃ n, s = .int .i64 n ∧ Hid (wsum 0 (xs.take m) = n)) (fun _ i => xs.length - (intOf i).toNat)
      case atStart => exact ⟨0, Nat.zero_le _, rfl, 0, rfl, hide rfl⟩
      case round =>
       obtain ⟨m, hm, rfl, n, rfl, hn⟩ := hrel
       by_cases hlt2 : m < xs.length
       ·obtain ⟨b', o', hA2, hb', hcell'⟩ := hE.int hlt2
        subst hA2
        have hmz : (m : Int) < (xs.length : Int) := by omega
        have hs := hide (show wsum 0 (xs.take (m + 1)) = wrap64 (n + xs[m]) from by rw [wsum_take hlt2, hn.out])
        go_wp2
        go_round
        case rel => exact ⟨m + 1, by omega, by go_num, _, rfl, hs⟩
        case measure => simp [intOf]; omega
       ·have hke : m = xs.length := by omega
        rw [hke, List.take_length] at hn
        by_cases c1 : 1 ≤ xs.length
        ·have c1z : ¬ (xs.length : Int) < 1 := by omega
         by_cases c2 : xs.length ≤ 16
         ·have c2z : ¬ (16 : Int) < (xs.length : Int) := by omega
          cases hzz : xs.all widthB with
          | false =>
           rw [hzz] at hC
           have hz := hvf.out (by rw [hFk.out]; simp [headB, wdsB, hn.out, hzz])
           replace hz := hide hz
           go_wp2_with (go_at_call 37; refine hC.out.mono ?_; rintro e w' ⟨rfl, rfl⟩)
           all_goals go_ret
           all_goals exact ⟨ret_b hz.out.symm, hgo.out⟩
          | true =>
           rw [hzz] at hC
           by_cases c4 : n.tmod 8 = 0
           ·have c4z : (n.tmod 8 != 0) = false := by rw [c4]; rfl
            by_cases c5 : n ≤ 256
            ·have c5z : ¬ 256 < n := by omega
             by_cases c6 : ns.length = xs.length
             ·have c6z : ((ns.length : Int) != (xs.length : Int)) = false := by rw [c6]; exact bne_self_eq_false _
              have hz := hide (hNx.out (by rw [hFk.out]; simp only [headB, wdsB, hn.out, hzz, decide_eq_true c1, decide_eq_true c2, decide_eq_true c4, decide_eq_true c5, decide_eq_true c6, Bool.and_true]))
              replace c6 := hide c6
              replace c4 := hide c4
              go_wp2_with (go_at_call 37; refine hC.out.mono ?_; rintro e w' ⟨rfl, rfl⟩)
              go_round
              case rel => exact ⟨k + 1, by omega, by go_num, hz⟩
              case measure => simp [intOf]; omega
             ·have c6z : ((ns.length : Int) != (xs.length : Int)) = true := by rw [bne_iff_ne]; omega
              have hz := hvf.out (by rw [hFk.out, decide_eq_false c6, Bool.and_false])
              replace hz := hide hz
              replace c6 := hide c6
              replace c4 := hide c4
              go_wp2_with (go_at_call 37; refine hC.out.mono ?_; rintro e w' ⟨rfl, rfl⟩)
              all_goals go_ret
              all_goals exact ⟨ret_b hz.out.symm, hgo.out⟩
            ·have c5z : 256 < n := by omega
             have c4h := hide c4
             replace c4 := hide c4
             have hz := hvf.out (by rw [hFk.out]; simp [headB, wdsB, hn.out, c5])
             replace hz := hide hz
             go_wp2_with (go_at_call 37; refine hC.out.mono ?_; rintro e w' ⟨rfl, rfl⟩)
             all_goals go_ret
             all_goals exact ⟨ret_b hz.out.symm, hgo.out⟩
           ·have c4z : (n.tmod 8 != 0) = true := by rw [bne_iff_ne]; exact c4
            have hz := hvf.out (by rw [hFk.out]; simp [headB, wdsB, hn.out, c4])
            replace hz := hide hz
            go_wp2_with (go_at_call 37; refine hC.out.mono ?_; rintro e w' ⟨rfl, rfl⟩)
            all_goals go_ret
            all_goals exact ⟨ret_b hz.out.symm, hgo.out⟩
         ·have c2z : (16 : Int) < (xs.length : Int) := by omega
          have hz := hvf.out (by rw [hFk.out]; simp [headB, wdsB, c2])
          replace hz := hide hz
          go_wp2_with (go_at_call 37; refine hC.out.mono ?_; rintro e w' ⟨rfl, rfl⟩)
          all_goals go_ret
          all_goals exact ⟨ret_b hz.out.symm, hgo.out⟩
        ·have c1z : (xs.length : Int) < 1 := by omega
         have hz := hvf.out (by rw [hFk.out]; simp [headB, wdsB, c1])
         replace hz := hide hz
         go_wp2_with (go_at_call 37; refine hC.out.mono ?_; rintro e w' ⟨rfl, rfl⟩)
         all_goals go_ret
         all_goals exact ⟨ret_b hz.out.symm, hgo.out⟩
     ·have hke : k = p.heads.length := by omega
      subst hke
      rw [hcn.out] at hv
      go_wp2
      go_ret
      exact ⟨ret_b hv.out.symm, hgo.out⟩
   ·have a3z : ((p.nf.length : Int) != (p.heads.length : Int)) = true := by rw [bne_iff_ne]; omega
    rw [decide_eq_false a3, Bool.false_and] at hv
    replace a3 := hide a3
    go_wp2
    go_ret
    exact ⟨ret_b hv.out.symm, hgo.out⟩
  ·have a2z : ((p.nh.length : Int) != (p.heads.length : Int)) = true := by rw [bne_iff_ne]; omega
   rw [decide_eq_false a2, Bool.false_and, Bool.false_and] at hv
   replace a2 := hide a2
   go_wp2
   go_ret
   exact ⟨ret_b hv.out.symm, hgo.out⟩
 ·have a1z : (8 : Int) < (p.heads.length : Int) := by omega
  rw [decide_eq_false a1, Bool.false_and, Bool.false_and, Bool.false_and] at hv
  go_wp2
  go_ret
  exact ⟨ret_b hv.out.symm, hgo.out⟩
end Go.Proofs.YtmfpbahifhndjaaGreat

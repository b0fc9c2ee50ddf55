import Derived.Test.YtcgmkjpgaigmfaaGreatChk34
import Derived.Test.YtcgmkjpgaigmfaaGreatChk12
set_option linter.all false
/-! Printed by gen_tab4.py. The document's layer 4: MayState. -/
namespace Go.Proofs.YtcgmkjpgaigmfaaGreat
open Go.RowKit
set_option maxRecDepth 100000 in
set_option maxHeartbeats 2000000 in
theorem mayState04_any {B : Nat} (s : Sa) (cs : List Value) (w : World) (hB : B ≤ w.heap.size) (hr : rSa w B cs s) :
  Calls Tryz.prog 69 #[.agg cs.toArray] w fun r w' => r = .returned (.bool (saB s)) ∧ Below w.heap.size w w' := by
 obtain ⟨A1, c1, A2, c2, A3, c3, rfl, hn, hd, hT, hK, hC⟩ := hr
 have l1 := hT.len
 have l2 := hK.len
 have l3 := hC.len
 obtain ⟨wa, hwa, hsa, hba, hca, -⟩ := box1 w #[.string s.name, .slice A1 s.takes.length c1, .string s.dest, .slice A2 s.keys.length c2, .slice A3 s.cases_.length c3] 52
 obtain ⟨y0, y1, y2, y3, y4⟩ := row5 hca
 have hb0 : Below wa.heap.size wa wa := Below.refl _ _
 have hBk := hide (show ∀ W, Below wa.heap.size wa W → Below w.heap.size w W from fun W hb => hba.trans (hb.mono (by omega)))
 have hk : ∀ W, Below wa.heap.size wa W → Below B w W := fun W hb => (hba.trans (hb.mono (by omega))).mono hB
 have hBW : ∀ W, Below wa.heap.size wa W → B ≤ W.heap.size := fun W hb => by have := hb.size; omega
 have hl0 : w.heap.size < wa.heap.size := by omega
 have q1 := hide (fun (W : World) (hb : Below wa.heap.size wa W) => (isName03_any s.name W).mono (fun e w' h => (⟨h.1, hb.trans (h.2.mono hb.size)⟩ : e = _ ∧ Below wa.heap.size wa w')))
 have q2 := hide (fun (W : World) (hb : Below wa.heap.size wa W) => (names04p_any s.takes A1 c1 W (hBW W hb) (hT.below sta_str (hk W hb))).mono (fun e w' h => (⟨h.1, hb.trans (h.2.mono hb.size)⟩ : e = _ ∧ Below wa.heap.size wa w')))
 have q3 := hide (fun (W : World) (hb : Below wa.heap.size wa W) => (target04_any s.dest W).mono (fun e w' h => (⟨h.1, hb.trans (h.2.mono hb.size)⟩ : e = _ ∧ Below wa.heap.size wa w')))
 have q4 := hide (fun (W : World) (hb : Below wa.heap.size wa W) => (exprs04_any s.keys A2 c2 W (hBW W hb) (hK.below sta_ex (hk W hb))).mono (fun e w' h => (⟨h.1, hb.trans (h.2.mono hb.size)⟩ : e = _ ∧ Below wa.heap.size wa w')))
 have hCa := hide (hC.below sta_ca (hk wa hb0))
 show Calls _ _ #[.agg #[.string s.name, .slice A1 s.takes.length c1, .string s.dest, .slice A2 s.keys.length c2, .slice A3 s.cases_.length c3]] _ _
 generalize hzn : nameB s.name = z1 at q1
 generalize hzt : s.takes.all nameB = z2 at q2
 clear hca hba hk hBW hT hK hC hsa
 by_cases hs : s.dest = strE
 ·have hv0 : saB s = (z1 && (decide (s.takes.length ≤ 8) && (z2 && (decide (1 ≤ s.keys.length) && (decide (s.keys.length ≤ 4) && (decide (1 ≤ s.cases_.length) && (decide (s.cases_.length ≤ 16) && (s.keys.all mayE && s.cases_.all (caB s.keys.length))))))))) := by
   unfold saB
   rw [if_pos hs, hzn, hzt]
   simp only [Bool.decide_and, Bool.and_assoc]
  have e1 := emp_iff.1 hs
  clear hs hzn hzt q3
  generalize s.keys.all mayE = z4 at q4 hv0
  go_enter Tryz.func69, Tryz.ntmps69
  cases z1 with
  | false =>
   rw [Bool.false_and] at hv0
   have hv := hide hv0
   clear hv0
   go_wp2_with (first | (go_at_call 67; first | (with_reducible refine (q1.out _ (by assumption)).mono ?_; rintro e w1 ⟨rfl, hb1⟩; have khb1 := bcell' hb1)) | (go_at_call 72; first | (with_reducible refine (q2.out _ (by assumption)).mono ?_; rintro e w1 ⟨rfl, hb2⟩; have khb2 := bcell' hb2)) | (go_at_call 127; first | (with_reducible refine (q4.out _ (by assumption)).mono ?_; rintro e w1 ⟨rfl, hb3⟩; have khb3 := bcell' hb3)))
   go_ret
   exact ⟨ret_b hv.out.symm, hBk.out _ (by assumption)⟩
  | true =>
   rw [Bool.true_and] at hv0
   by_cases n1 : s.takes.length ≤ 8
   ·rw [decide_eq_true n1, Bool.true_and] at hv0
    have i1 : (s.takes.length : Int) ≤ 8 := by omega
    have j1 : ¬ ((8 : Int) < (s.takes.length : Int)) := by omega
    cases z2 with
    | false =>
     rw [Bool.false_and] at hv0
     have hv := hide hv0
     clear hv0
     go_wp2_with (first | (go_at_call 67; first | (with_reducible refine (q1.out _ (by assumption)).mono ?_; rintro e w1 ⟨rfl, hb1⟩; have khb1 := bcell' hb1)) | (go_at_call 72; first | (with_reducible refine (q2.out _ (by assumption)).mono ?_; rintro e w1 ⟨rfl, hb2⟩; have khb2 := bcell' hb2)) | (go_at_call 127; first | (with_reducible refine (q4.out _ (by assumption)).mono ?_; rintro e w1 ⟨rfl, hb3⟩; have khb3 := bcell' hb3)))
     go_ret
     exact ⟨ret_b hv.out.symm, hBk.out _ (by assumption)⟩
    | true =>
     rw [Bool.true_and] at hv0
     by_cases n3 : 1 ≤ s.keys.length
     ·rw [decide_eq_true n3, Bool.true_and] at hv0
      have i3 : 1 ≤ (s.keys.length : Int) := by omega
      have j3 : ¬ ((s.keys.length : Int) < 1) := by omega
      by_cases n4 : s.keys.length ≤ 4
      ·rw [decide_eq_true n4, Bool.true_and] at hv0
       have i4 : (s.keys.length : Int) ≤ 4 := by omega
       have j4 : ¬ ((4 : Int) < (s.keys.length : Int)) := by omega
       by_cases n5 : 1 ≤ s.cases_.length
       ·rw [decide_eq_true n5, Bool.true_and] at hv0
        have i5 : 1 ≤ (s.cases_.length : Int) := by omega
        have j5 : ¬ ((s.cases_.length : Int) < 1) := by omega
        by_cases n6 : s.cases_.length ≤ 16
        ·rw [decide_eq_true n6, Bool.true_and] at hv0
         have i6 : (s.cases_.length : Int) ≤ 16 := by omega
         have j6 : ¬ ((16 : Int) < (s.cases_.length : Int)) := by omega
         cases z4 with
         | false =>
          rw [Bool.false_and] at hv0
          have hv := hide hv0
          clear hv0
          go_wp2_with (first | (go_at_call 67; first | (with_reducible refine (q1.out _ (by assumption)).mono ?_; rintro e w1 ⟨rfl, hb1⟩; have khb1 := bcell' hb1)) | (go_at_call 72; first | (with_reducible refine (q2.out _ (by assumption)).mono ?_; rintro e w1 ⟨rfl, hb2⟩; have khb2 := bcell' hb2)) | (go_at_call 127; first | (with_reducible refine (q4.out _ (by assumption)).mono ?_; rintro e w1 ⟨rfl, hb3⟩; have khb3 := bcell' hb3)))
          go_ret
          exact ⟨ret_b hv.out.symm, hBk.out _ (by assumption)⟩
         | true =>
          rw [Bool.true_and] at hv0
          have hv := hide hv0
          clear hv0
          go_wp2_with (first | (go_at_call 67; first | (with_reducible refine (q1.out _ (by assumption)).mono ?_; rintro e w1 ⟨rfl, hb1⟩; have khb1 := bcell' hb1)) | (go_at_call 72; first | (with_reducible refine (q2.out _ (by assumption)).mono ?_; rintro e w1 ⟨rfl, hb2⟩; have khb2 := bcell' hb2)) | (go_at_call 127; first | (with_reducible refine (q4.out _ (by assumption)).mono ?_; rintro e w1 ⟨rfl, hb3⟩; have khb3 := bcell' hb3)))
          have hb4 := hide hb3
          clear q1 q2 q4 hb1 hb2 hb3 khb1 khb2 khb3 hb0 e1
          go_loopw [3] (fun i wr => ∃ k : Nat, k ≤ s.cases_.length ∧ i = .int .i64 k ∧ Hid ((s.cases_.take k).all (caB s.keys.length) = true) ∧ Hid (Below wa.heap.size wa wr)) (fun i _ => s.cases_.length - (intOf i).toNat)
          case atStart => exact ⟨0, Nat.zero_le _, rfl, hide (by simp), hb4⟩
          case round =>
           clear hb4
           obtain ⟨k, hkk, rfl, hq, hbr⟩ := hrel
           have hc := bcell' hbr.out
           have hzr := hbr.out.size
           by_cases hlt : k < s.cases_.length
           ·obtain ⟨b, o, ecs, hA, hb, hel, hcell, CA, cc, rfl, hcd, hSs⟩ := hCa.out.2 k _ (List.getElem?_eq_getElem hlt)
            subst hA
            have hltz : (k : Int) < (s.cases_.length : Int) := by omega
            have hbw : b < wa.heap.size := by omega
            have hcl := hSs.len
            have hnext := hide (fun h => all_next (p := caB s.keys.length) hlt hq.out h)
            have hstop := hide (fun h => all_stop (p := caB s.keys.length) hlt h)
            have hcb : caB s.keys.length s.cases_[k] = (targetB s.cases_[k].dest && decide (s.cases_[k].sets.length = if s.cases_[k].dflt then 0 else s.keys.length) && s.cases_[k].sets.all seB) := rfl
            rw [hcb] at hnext hstop
            clear hcb
            generalize s.cases_[k] = cx at hcell hSs hcl hnext hstop hcd
            obtain ⟨N, hN⟩ : ∃ N, cx.sets.length = N := ⟨_, rfl⟩
            rw [hN] at hcell hcl
            replace hSs := hide hSs
            obtain ⟨x0, x1, x2⟩ := srow3 hcell
            have hN' := hN
            rw [hN] at hnext hstop
            replace hN := hide hN'
            clear hcell hN' hel hcd
            generalize cx.dflt = df at *
            obtain ⟨ws, hws, hszs, hwS, hcs, -⟩ := box1 wr #[.bool df, .slice CA N cc, .string cx.dest] 57
            obtain ⟨v0, v1, v2⟩ := row3 hcs
            have hbs := hide (hbr.out.trans (hwS.mono hzr))
            have hzs : wa.heap.size ≤ ws.heap.size := hbs.out.size
            have ks := bcell' hbs.out
            have zz1 : wr.heap.size < ws.heap.size := by omega
            have zz2 : w.heap.size < ws.heap.size := by omega
            have hTg : Calls Tryz.prog 126 #[.string cx.dest] ws fun e w' => e = .returned (.bool (targetB cx.dest)) ∧ (Below ws.heap.size ws w' ∧ Below wa.heap.size wa w') := (target04_any cx.dest ws).mono fun e w' h => ⟨h.1, h.2, hbs.out.trans (h.2.mono hzs)⟩
            generalize targetB cx.dest = zt at hTg hnext hstop
            clear hcs hwS hszs hbr
            obtain ⟨wo, rfl⟩ : ∃ wo : World, wo = wr := ⟨_, rfl⟩
            cases zt with
            | false =>
             go_wp2_with (go_at_call 126; refine hTg.mono ?_; rintro e w4 ⟨rfl, hb4, hbw4⟩; have k4 := bcell' hb4; have k5 := bcell' hbw4; have z4a := Nat.lt_of_lt_of_le zz1 hb4.size; have z4b := Nat.lt_of_lt_of_le zz2 hb4.size)
             go_ret
             exact ⟨ret_b (hv.out.trans (hstop.out (by simp [*]))).symm, hBk.out _ hbw4⟩
            | true =>
             cases df with
             | true =>
              by_cases hn0 : N = 0
              ·subst hn0
               go_wp2_with (go_at_call 126; refine hTg.mono ?_; rintro e w4 ⟨rfl, hb4, hbw4⟩; have k4 := bcell' hb4; have k5 := bcell' hbw4; have z4a := Nat.lt_of_lt_of_le zz1 hb4.size; have z4b := Nat.lt_of_lt_of_le zz2 hb4.size)
               have hb5 := hide hb4
               clear hb4 hbw4 k4 k5 hTg z4a z4b
               go_loopw [5] (fun i wx => ∃ q : Nat, q ≤ 0 ∧ i = .int .i64 q ∧ Hid ((cx.sets.take q).all seB = true) ∧ Hid (Below ws.heap.size ws wx)) (fun i _ => 0 - (intOf i).toNat)
               case atStart => exact ⟨0, Nat.zero_le _, rfl, hide (by simp), hb5⟩
               case round =>
                clear hb5
                obtain ⟨q, hqq, rfl, hqa, hbx⟩ := hrel
                have hbv := hide (hbs.out.trans (hbx.out.mono hzs))
                have kx := bcell' hbx.out
                have kv := bcell' hbv.out
                have hzx := hbx.out.size
                have zx1 : wo.heap.size < wr.heap.size := by omega
                have zx2 : w.heap.size < wr.heap.size := by omega
                by_cases hqt : q < 0
                ·exact absurd hqt (Nat.not_lt_zero _)
                ·have hres := hide (all_end (p := seB) hqa.out (show ¬ q < cx.sets.length by have := hN.out; omega))
                 go_wp2
                 go_roundw
                 case rel => exact ⟨k + 1, by omega, by go_num, hide (hnext.out (by rw [hres.out]; simp)), hbv⟩
                 case measure => simp [intOf]; omega
              ·have hn0' : (0 : Int) < (N : Int) := by omega
               go_wp2_with (go_at_call 126; refine hTg.mono ?_; rintro e w4 ⟨rfl, hb4, hbw4⟩; have k4 := bcell' hb4; have k5 := bcell' hbw4; have z4a := Nat.lt_of_lt_of_le zz1 hb4.size; have z4b := Nat.lt_of_lt_of_le zz2 hb4.size)
               go_ret
               exact ⟨ret_b (hv.out.trans (hstop.out (by simp [*]))).symm, hBk.out _ hbw4⟩
             | false =>
              by_cases hn0 : N = s.keys.length
              ·subst hn0
               go_wp2_with (go_at_call 126; refine hTg.mono ?_; rintro e w4 ⟨rfl, hb4, hbw4⟩; have k4 := bcell' hb4; have k5 := bcell' hbw4; have z4a := Nat.lt_of_lt_of_le zz1 hb4.size; have z4b := Nat.lt_of_lt_of_le zz2 hb4.size)
               have hb5 := hide hb4
               clear hb4 hbw4 k4 k5 hTg z4a z4b
               go_loopw [5] (fun i wx => ∃ q : Nat, q ≤ s.keys.length ∧ i = .int .i64 q ∧ Hid ((cx.sets.take q).all seB = true) ∧ Hid (Below ws.heap.size ws wx)) (fun i _ => s.keys.length - (intOf i).toNat)
               case atStart => exact ⟨0, Nat.zero_le _, rfl, hide (by simp), hb5⟩
               case round =>
                clear hb5
                obtain ⟨q, hqq, rfl, hqa, hbx⟩ := hrel
                have hbv := hide (hbs.out.trans (hbx.out.mono hzs))
                have kx := bcell' hbx.out
                have kv := bcell' hbv.out
                have hzx := hbx.out.size
                have zx1 : wo.heap.size < wr.heap.size := by omega
                have zx2 : w.heap.size < wr.heap.size := by omega
                by_cases hqt : q < s.keys.length
                ·have hqn : q < cx.sets.length := by have := hN.out; omega
                 obtain ⟨b', o', ecs', hA', hb', hel', hcell', rfl, u1, u2, u3⟩ := hSs.out.2 q _ (List.getElem?_eq_getElem hqn)
                 subst hA'
                 have hqz : (q : Int) < (s.keys.length : Int) := by omega
                 have hbb : b' < wa.heap.size := by omega
                 have hX := maySet04_any cx.sets[q] wr u1 u2 u3
                 have hnx := fun h => all_next (p := seB) hqn hqa.out h
                 have hst := fun h => all_stop (p := seB) hqn h
                 generalize cx.sets[q] = x at hX hnx hst hcell'
                 obtain ⟨x0, x1, x2, x3, x4, x5, x6⟩ := srow7 hcell'
                 clear hcell' u1 u2 u3 hel'
                 generalize seB x = z at hX hnx hst
                 cases z with
                 | false =>
                  have hres := hide (hst rfl)
                  clear hnx hst
                  go_wp2_with (go_at_call 128; refine hX.mono ?_; rintro e w6 ⟨rfl, hb6⟩)
                  go_ret
                  exact ⟨ret_b (hv.out.trans (hstop.out (by rw [hres.out]; simp))).symm, hBk.out _ (hbv.out.trans (hb6.mono hbv.out.size))⟩
                 | true =>
                  have hres := hide (hnx rfl)
                  clear hnx hst
                  go_wp2_with (go_at_call 128; refine hX.mono ?_; rintro e w6 ⟨rfl, hb6⟩)
                  go_roundw
                  case rel => exact ⟨q + 1, by omega, by go_num, hres, hide (hbx.out.trans (hb6.mono hzx))⟩
                  case measure => simp [intOf]; omega
                ·have hres := hide (all_end (p := seB) hqa.out (show ¬ q < cx.sets.length by have := hN.out; omega))
                 go_wp2
                 go_roundw
                 case rel => exact ⟨k + 1, by omega, by go_num, hide (hnext.out (by rw [hres.out]; simp)), hbv⟩
                 case measure => simp [intOf]; omega
              ·have hn0' : ¬ (N : Int) = (s.keys.length : Int) := by omega
               go_wp2_with (go_at_call 126; refine hTg.mono ?_; rintro e w4 ⟨rfl, hb4, hbw4⟩; have k4 := bcell' hb4; have k5 := bcell' hbw4; have z4a := Nat.lt_of_lt_of_le zz1 hb4.size; have z4b := Nat.lt_of_lt_of_le zz2 hb4.size)
               go_ret
               exact ⟨ret_b (hv.out.trans (hstop.out (by simp [*]))).symm, hBk.out _ hbw4⟩
           ·have hres := hide (all_end hq.out hlt)
            go_wp2
            go_ret
            exact ⟨ret_b (hv.out.trans hres.out).symm, hBk.out _ hbr.out⟩
        ·rw [decide_eq_false n6, Bool.false_and] at hv0
         have i6 : ¬ ((s.cases_.length : Int) ≤ 16) := by omega
         have j6 : (16 : Int) < (s.cases_.length : Int) := by omega
         have hv := hide hv0
         clear hv0
         go_wp2_with (first | (go_at_call 67; first | (with_reducible refine (q1.out _ (by assumption)).mono ?_; rintro e w1 ⟨rfl, hb1⟩; have khb1 := bcell' hb1)) | (go_at_call 72; first | (with_reducible refine (q2.out _ (by assumption)).mono ?_; rintro e w1 ⟨rfl, hb2⟩; have khb2 := bcell' hb2)) | (go_at_call 127; first | (with_reducible refine (q4.out _ (by assumption)).mono ?_; rintro e w1 ⟨rfl, hb3⟩; have khb3 := bcell' hb3)))
         go_ret
         exact ⟨ret_b hv.out.symm, hBk.out _ (by assumption)⟩
       ·rw [decide_eq_false n5, Bool.false_and] at hv0
        have i5 : ¬ (1 ≤ (s.cases_.length : Int)) := by omega
        have j5 : (s.cases_.length : Int) < 1 := by omega
        have hv := hide hv0
        clear hv0
        go_wp2_with (first | (go_at_call 67; first | (with_reducible refine (q1.out _ (by assumption)).mono ?_; rintro e w1 ⟨rfl, hb1⟩; have khb1 := bcell' hb1)) | (go_at_call 72; first | (with_reducible refine (q2.out _ (by assumption)).mono ?_; rintro e w1 ⟨rfl, hb2⟩; have khb2 := bcell' hb2)) | (go_at_call 127; first | (with_reducible refine (q4.out _ (by assumption)).mono ?_; rintro e w1 ⟨rfl, hb3⟩; have khb3 := bcell' hb3)))
        go_ret
        exact ⟨ret_b hv.out.symm, hBk.out _ (by assumption)⟩
      ·rw [decide_eq_false n4, Bool.false_and] at hv0
       have i4 : ¬ ((s.keys.length : Int) ≤ 4) := by omega
       have j4 : (4 : Int) < (s.keys.length : Int) := by omega
       have hv := hide hv0
       clear hv0
       go_wp2_with (first | (go_at_call 67; first | (with_reducible refine (q1.out _ (by assumption)).mono ?_; rintro e w1 ⟨rfl, hb1⟩; have khb1 := bcell' hb1)) | (go_at_call 72; first | (with_reducible refine (q2.out _ (by assumption)).mono ?_; rintro e w1 ⟨rfl, hb2⟩; have khb2 := bcell' hb2)) | (go_at_call 127; first | (with_reducible refine (q4.out _ (by assumption)).mono ?_; rintro e w1 ⟨rfl, hb3⟩; have khb3 := bcell' hb3)))
       go_ret
       exact ⟨ret_b hv.out.symm, hBk.out _ (by assumption)⟩
     ·rw [decide_eq_false n3, Bool.false_and] at hv0
      have i3 : ¬ (1 ≤ (s.keys.length : Int)) := by omega
      have j3 : (s.keys.length : Int) < 1 := by omega
      have hv := hide hv0
      clear hv0
      go_wp2_with (first | (go_at_call 67; first | (with_reducible refine (q1.out _ (by assumption)).mono ?_; rintro e w1 ⟨rfl, hb1⟩; have khb1 := bcell' hb1)) | (go_at_call 72; first | (with_reducible refine (q2.out _ (by assumption)).mono ?_; rintro e w1 ⟨rfl, hb2⟩; have khb2 := bcell' hb2)) | (go_at_call 127; first | (with_reducible refine (q4.out _ (by assumption)).mono ?_; rintro e w1 ⟨rfl, hb3⟩; have khb3 := bcell' hb3)))
      go_ret
      exact ⟨ret_b hv.out.symm, hBk.out _ (by assumption)⟩
   ·rw [decide_eq_false n1, Bool.false_and] at hv0
    have i1 : ¬ ((s.takes.length : Int) ≤ 8) := by omega
    have j1 : (8 : Int) < (s.takes.length : Int) := by omega
    have hv := hide hv0
    clear hv0
    go_wp2_with (first | (go_at_call 67; first | (with_reducible refine (q1.out _ (by assumption)).mono ?_; rintro e w1 ⟨rfl, hb1⟩; have khb1 := bcell' hb1)) | (go_at_call 72; first | (with_reducible refine (q2.out _ (by assumption)).mono ?_; rintro e w1 ⟨rfl, hb2⟩; have khb2 := bcell' hb2)) | (go_at_call 127; first | (with_reducible refine (q4.out _ (by assumption)).mono ?_; rintro e w1 ⟨rfl, hb3⟩; have khb3 := bcell' hb3)))
    go_ret
    exact ⟨ret_b hv.out.symm, hBk.out _ (by assumption)⟩
 ·have hv0 : saB s = (z1 && (decide (s.takes.length ≤ 8) && (z2 && (targetB s.dest && (decide (s.keys.length = 0) && decide (s.cases_.length = 0)))))) := by
   unfold saB
   rw [if_neg hs, hzn, hzt]
   have e2 : s.keys.isEmpty = decide (s.keys.length = 0) := by cases s.keys <;> simp
   have e3 : s.cases_.isEmpty = decide (s.cases_.length = 0) := by cases s.cases_ <;> simp
   rw [e2, e3]
   simp only [Bool.and_assoc]
  have e1 : s.dest.toList.isEmpty = false := by rw [Bool.eq_false_iff]; exact fun h => hs (emp_iff.2 (List.isEmpty_iff.1 h))
  clear hs hzn hzt q4 hCa
  generalize targetB s.dest = z4 at q3 hv0
  generalize s.keys.length = n2 at *
  generalize s.cases_.length = n3 at *
  go_enter Tryz.func69, Tryz.ntmps69
  cases z1 with
  | false =>
   rw [Bool.false_and] at hv0
   have hv := hide hv0
   clear hv0
   go_wp2_with (first | (go_at_call 67; first | (with_reducible refine (q1.out _ (by assumption)).mono ?_; rintro e w1 ⟨rfl, hb1⟩; have khb1 := bcell' hb1)) | (go_at_call 72; first | (with_reducible refine (q2.out _ (by assumption)).mono ?_; rintro e w1 ⟨rfl, hb2⟩; have khb2 := bcell' hb2)) | (go_at_call 126; first | (with_reducible refine (q3.out _ (by assumption)).mono ?_; rintro e w1 ⟨rfl, hb3⟩; have khb3 := bcell' hb3)))
   go_ret
   exact ⟨ret_b hv.out.symm, hBk.out _ (by assumption)⟩
  | true =>
   rw [Bool.true_and] at hv0
   by_cases n1 : s.takes.length ≤ 8
   ·rw [decide_eq_true n1, Bool.true_and] at hv0
    have i1 : (s.takes.length : Int) ≤ 8 := by omega
    have j1 : ¬ ((8 : Int) < (s.takes.length : Int)) := by omega
    cases z2 with
    | false =>
     rw [Bool.false_and] at hv0
     have hv := hide hv0
     clear hv0
     go_wp2_with (first | (go_at_call 67; first | (with_reducible refine (q1.out _ (by assumption)).mono ?_; rintro e w1 ⟨rfl, hb1⟩; have khb1 := bcell' hb1)) | (go_at_call 72; first | (with_reducible refine (q2.out _ (by assumption)).mono ?_; rintro e w1 ⟨rfl, hb2⟩; have khb2 := bcell' hb2)) | (go_at_call 126; first | (with_reducible refine (q3.out _ (by assumption)).mono ?_; rintro e w1 ⟨rfl, hb3⟩; have khb3 := bcell' hb3)))
     go_ret
     exact ⟨ret_b hv.out.symm, hBk.out _ (by assumption)⟩
    | true =>
     rw [Bool.true_and] at hv0
     cases z4 with
     | false =>
      rw [Bool.false_and] at hv0
      have hv := hide hv0
      clear hv0
      go_wp2_with (first | (go_at_call 67; first | (with_reducible refine (q1.out _ (by assumption)).mono ?_; rintro e w1 ⟨rfl, hb1⟩; have khb1 := bcell' hb1)) | (go_at_call 72; first | (with_reducible refine (q2.out _ (by assumption)).mono ?_; rintro e w1 ⟨rfl, hb2⟩; have khb2 := bcell' hb2)) | (go_at_call 126; first | (with_reducible refine (q3.out _ (by assumption)).mono ?_; rintro e w1 ⟨rfl, hb3⟩; have khb3 := bcell' hb3)))
      go_ret
      exact ⟨ret_b hv.out.symm, hBk.out _ (by assumption)⟩
     | true =>
      rw [Bool.true_and] at hv0
      by_cases m2 : n2 = 0
      ·rw [decide_eq_true m2, Bool.true_and] at hv0
       by_cases m3 : n3 = 0
       ·rw [decide_eq_true m3] at hv0
        have hv := hide hv0
        clear hv0
        subst m2 m3
        go_wp2_with (first | (go_at_call 67; first | (with_reducible refine (q1.out _ (by assumption)).mono ?_; rintro e w1 ⟨rfl, hb1⟩; have khb1 := bcell' hb1)) | (go_at_call 72; first | (with_reducible refine (q2.out _ (by assumption)).mono ?_; rintro e w1 ⟨rfl, hb2⟩; have khb2 := bcell' hb2)) | (go_at_call 126; first | (with_reducible refine (q3.out _ (by assumption)).mono ?_; rintro e w1 ⟨rfl, hb3⟩; have khb3 := bcell' hb3)))
        go_ret
        exact ⟨ret_b hv.out.symm, hBk.out _ (by assumption)⟩
       ·rw [decide_eq_false m3] at hv0
        have hv := hide hv0
        have m3' : ¬ (n3 : Int) = 0 := by omega
        clear hv0
        subst m2
        go_wp2_with (first | (go_at_call 67; first | (with_reducible refine (q1.out _ (by assumption)).mono ?_; rintro e w1 ⟨rfl, hb1⟩; have khb1 := bcell' hb1)) | (go_at_call 72; first | (with_reducible refine (q2.out _ (by assumption)).mono ?_; rintro e w1 ⟨rfl, hb2⟩; have khb2 := bcell' hb2)) | (go_at_call 126; first | (with_reducible refine (q3.out _ (by assumption)).mono ?_; rintro e w1 ⟨rfl, hb3⟩; have khb3 := bcell' hb3)))
        go_ret
        exact ⟨ret_b (Eq.trans (by simp; try omega) hv.out.symm), hBk.out _ (by assumption)⟩
      ·rw [decide_eq_false m2, Bool.false_and] at hv0
       have hv := hide hv0
       have m2' : ¬ (n2 : Int) = 0 := by omega
       clear hv0
       go_wp2_with (first | (go_at_call 67; first | (with_reducible refine (q1.out _ (by assumption)).mono ?_; rintro e w1 ⟨rfl, hb1⟩; have khb1 := bcell' hb1)) | (go_at_call 72; first | (with_reducible refine (q2.out _ (by assumption)).mono ?_; rintro e w1 ⟨rfl, hb2⟩; have khb2 := bcell' hb2)) | (go_at_call 126; first | (with_reducible refine (q3.out _ (by assumption)).mono ?_; rintro e w1 ⟨rfl, hb3⟩; have khb3 := bcell' hb3)))
       go_ret
       exact ⟨ret_b (Eq.trans (by simp; try omega) hv.out.symm), hBk.out _ (by assumption)⟩
   ·rw [decide_eq_false n1, Bool.false_and] at hv0
    have i1 : ¬ ((s.takes.length : Int) ≤ 8) := by omega
    have j1 : (8 : Int) < (s.takes.length : Int) := by omega
    have hv := hide hv0
    clear hv0
    go_wp2_with (first | (go_at_call 67; first | (with_reducible refine (q1.out _ (by assumption)).mono ?_; rintro e w1 ⟨rfl, hb1⟩; have khb1 := bcell' hb1)) | (go_at_call 72; first | (with_reducible refine (q2.out _ (by assumption)).mono ?_; rintro e w1 ⟨rfl, hb2⟩; have khb2 := bcell' hb2)) | (go_at_call 126; first | (with_reducible refine (q3.out _ (by assumption)).mono ?_; rintro e w1 ⟨rfl, hb3⟩; have khb3 := bcell' hb3)))
    go_ret
    exact ⟨ret_b hv.out.symm, hBk.out _ (by assumption)⟩
end Go.Proofs.YtcgmkjpgaigmfaaGreat

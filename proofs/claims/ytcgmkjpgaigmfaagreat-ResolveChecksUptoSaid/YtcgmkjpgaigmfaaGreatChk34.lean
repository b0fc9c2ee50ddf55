import Derived.Test.YtcgmkjpgaigmfaaGreatChk33
import Derived.Test.YtcgmkjpgaigmfaaGreatChk11
set_option linter.all false
/-! Printed by gen_tab4.py. The document's layer 4: MayTable. -/
namespace Go.Proofs.YtcgmkjpgaigmfaaGreat
open Go.RowKit
set_option maxRecDepth 100000 in
set_option maxHeartbeats 2000000 in
theorem mayTable04_any {B : Nat} (t : Ta) (cs : List Value) (w : World) (hB : B ≤ w.heap.size) (hr : rTa w B cs t) :
  Calls Tryz.prog 71 #[.agg cs.toArray] w fun r w' => r = .returned (.bool (taB t)) ∧ Below w.heap.size w w' := by
 obtain ⟨A1, c1, A2, c2, A3, c3, rfl, hn, hd, hK, hT, hL⟩ := hr
 have l1 := hK.len
 have l2 := hT.len
 have l3 := hL.len
 obtain ⟨wa, hwa, hsa, hba, hca, -⟩ := box1 w #[.string t.name, .slice A1 t.keys.length c1, .slice A2 t.actions.length c2, .string t.dname, .slice A3 t.dargs.length c3] 48
 obtain ⟨y0, y1, y2, y3, y4⟩ := row5 hca
 have hb0 : Below wa.heap.size wa wa := Below.refl _ _
 have hBk := hide (show ∀ W, Below wa.heap.size wa W → Below w.heap.size w W from fun W hb => hba.trans (hb.mono (by omega)))
 have hk : ∀ W, Below wa.heap.size wa W → Below B w W := fun W hb => (hba.trans (hb.mono (by omega))).mono hB
 have hBW : ∀ W, Below wa.heap.size wa W → B ≤ W.heap.size := fun W hb => by have := hb.size; omega
 have hl0 : w.heap.size < wa.heap.size := by omega
 have q1 := hide (fun (W : World) (hb : Below wa.heap.size wa W) => (isName03_any t.name W).mono (fun e w' h => (⟨h.1, hb.trans (h.2.mono hb.size)⟩ : e = _ ∧ Below wa.heap.size wa w')))
 have q2 := hide (fun (W : World) (hb : Below wa.heap.size wa W) => (names04p_any t.actions A2 c2 W (hBW W hb) (hT.below sta_str (hk W hb))).mono (fun e w' h => (⟨h.1, hb.trans (h.2.mono hb.size)⟩ : e = _ ∧ Below wa.heap.size wa w')))
 have q3 := hide (fun (W : World) (hb : Below wa.heap.size wa W) => (isName03_any t.dname W).mono (fun e w' h => (⟨h.1, hb.trans (h.2.mono hb.size)⟩ : e = _ ∧ Below wa.heap.size wa w')))
 have hKa := hide (hK.below sta_ky (hk wa hb0))
 have hLa := hide (hL.below sta_lt (hk wa hb0))
 have hv0 : taB t = (nameB t.name && (decide (1 ≤ t.keys.length) && (decide (t.keys.length ≤ 4) && (decide (1 ≤ t.actions.length) && (decide (t.actions.length ≤ 16) && (t.actions.all nameB && (nameB t.dname && (decide (t.dargs.length ≤ 8) && (t.keys.all kyB && t.dargs.all litB))))))))) := by
  simp only [taB, Bool.decide_and, Bool.and_assoc]
  generalize t.keys.all kyB = a
  generalize t.actions.all nameB = b
  generalize nameB t.dname = c
  generalize t.dargs.all litB = d
  generalize decide (1 ≤ t.actions.length) = f
  generalize decide (t.actions.length ≤ 16) = g
  generalize decide (t.dargs.length ≤ 8) = h
  cases a <;> cases b <;> cases c <;> cases d <;> cases f <;> cases g <;> cases h <;> simp
 generalize nameB t.name = z1 at q1 hv0
 generalize t.actions.all nameB = z2 at q2 hv0
 generalize nameB t.dname = z3 at q3 hv0
 show Calls _ _ #[.agg #[.string t.name, .slice A1 t.keys.length c1, .slice A2 t.actions.length c2, .string t.dname, .slice A3 t.dargs.length c3]] _ _
 clear hca hba hk hBW hK hT hL hsa
 go_enter Tryz.func71, Tryz.ntmps71
 cases z1 with
 | false =>
  rw [Bool.false_and] at hv0
  have hv := hide hv0
  clear hv0
  go_wp2_with (first | (go_at_call 67; first | (with_reducible refine (q1.out _ (by assumption)).mono ?_; rintro e w1 ⟨rfl, hb1⟩; have khb1 := bcell' hb1) | (with_reducible refine (q3.out _ (by assumption)).mono ?_; rintro e w1 ⟨rfl, hb3⟩; have khb3 := bcell' hb3)) | (go_at_call 72; first | (with_reducible refine (q2.out _ (by assumption)).mono ?_; rintro e w1 ⟨rfl, hb2⟩; have khb2 := bcell' hb2)))
  go_ret
  exact ⟨ret_b hv.out.symm, hBk.out _ (by assumption)⟩
 | true =>
  rw [Bool.true_and] at hv0
  by_cases n1 : 1 ≤ t.keys.length
  ·rw [decide_eq_true n1, Bool.true_and] at hv0
   have i1 : 1 ≤ (t.keys.length : Int) := by omega
   have j1 : ¬ ((t.keys.length : Int) < 1) := by omega
   by_cases n2 : t.keys.length ≤ 4
   ·rw [decide_eq_true n2, Bool.true_and] at hv0
    have i2 : (t.keys.length : Int) ≤ 4 := by omega
    have j2 : ¬ ((4 : Int) < (t.keys.length : Int)) := by omega
    by_cases n3 : 1 ≤ t.actions.length
    ·rw [decide_eq_true n3, Bool.true_and] at hv0
     have i3 : 1 ≤ (t.actions.length : Int) := by omega
     have j3 : ¬ ((t.actions.length : Int) < 1) := by omega
     by_cases n4 : t.actions.length ≤ 16
     ·rw [decide_eq_true n4, Bool.true_and] at hv0
      have i4 : (t.actions.length : Int) ≤ 16 := by omega
      have j4 : ¬ ((16 : Int) < (t.actions.length : Int)) := by omega
      cases z2 with
      | false =>
       rw [Bool.false_and] at hv0
       have hv := hide hv0
       clear hv0
       go_wp2_with (first | (go_at_call 67; first | (with_reducible refine (q1.out _ (by assumption)).mono ?_; rintro e w1 ⟨rfl, hb1⟩; have khb1 := bcell' hb1) | (with_reducible refine (q3.out _ (by assumption)).mono ?_; rintro e w1 ⟨rfl, hb3⟩; have khb3 := bcell' hb3)) | (go_at_call 72; first | (with_reducible refine (q2.out _ (by assumption)).mono ?_; rintro e w1 ⟨rfl, hb2⟩; have khb2 := bcell' hb2)))
       go_ret
       exact ⟨ret_b hv.out.symm, hBk.out _ (by assumption)⟩
      | true =>
       rw [Bool.true_and] at hv0
       cases z3 with
       | false =>
        rw [Bool.false_and] at hv0
        have hv := hide hv0
        clear hv0
        go_wp2_with (first | (go_at_call 67; first | (with_reducible refine (q1.out _ (by assumption)).mono ?_; rintro e w1 ⟨rfl, hb1⟩; have khb1 := bcell' hb1) | (with_reducible refine (q3.out _ (by assumption)).mono ?_; rintro e w1 ⟨rfl, hb3⟩; have khb3 := bcell' hb3)) | (go_at_call 72; first | (with_reducible refine (q2.out _ (by assumption)).mono ?_; rintro e w1 ⟨rfl, hb2⟩; have khb2 := bcell' hb2)))
        go_ret
        exact ⟨ret_b hv.out.symm, hBk.out _ (by assumption)⟩
       | true =>
        rw [Bool.true_and] at hv0
        by_cases n7 : t.dargs.length ≤ 8
        ·rw [decide_eq_true n7, Bool.true_and] at hv0
         have i7 : (t.dargs.length : Int) ≤ 8 := by omega
         have j7 : ¬ ((8 : Int) < (t.dargs.length : Int)) := by omega
         have hv := hide hv0
         clear hv0
         go_wp2_with (first | (go_at_call 67; first | (with_reducible refine (q1.out _ (by assumption)).mono ?_; rintro e w1 ⟨rfl, hb1⟩; have khb1 := bcell' hb1) | (with_reducible refine (q3.out _ (by assumption)).mono ?_; rintro e w1 ⟨rfl, hb3⟩; have khb3 := bcell' hb3)) | (go_at_call 72; first | (with_reducible refine (q2.out _ (by assumption)).mono ?_; rintro e w1 ⟨rfl, hb2⟩; have khb2 := bcell' hb2)))
         have hb4 := hide hb3
         clear q1 q2 q3 hb1 hb2 hb3 khb1 khb2 khb3 hb0
         clear n1 i1 j1 n2 i2 j2 n3 i3 j3 n4 i4 j4 n7 i7 j7
         go_loopw [3] (fun i wr => ∃ k : Nat, k ≤ t.keys.length ∧ i = .int .i64 k ∧ Hid ((t.keys.take k).all kyB = true) ∧ Hid (Below wa.heap.size wa wr)) (fun i _ => t.keys.length - (intOf i).toNat)
         case atStart => exact ⟨0, Nat.zero_le _, rfl, hide (by simp), hb4⟩
         case round =>
          clear hb4
          obtain ⟨k, hkk, rfl, hq, hbr⟩ := hrel
          have hc := bcell' hbr.out
          have hzr := hbr.out.size
          by_cases hlt : k < t.keys.length
          ·obtain ⟨b, o, ecs, hA, hb, hel, hcell, es, hes, hk8, hr'⟩ := hKa.out.2 k _ (List.getElem?_eq_getElem hlt)
           subst hA
           have hltz : (k : Int) < (t.keys.length : Int) := by omega
           have hbw : b < wa.heap.size := by omega
           have hcall := fun cs (hcs : rEx wa B cs t.keys[k].e) => mayExpr04_any t.keys[k].e cs wr (show B ≤ wr.heap.size by omega) (sta_ex.keep hcs fun q hq => hbr.out.cell (Nat.lt_of_lt_of_le hq (by omega)))
           have hnx := fun h => all_next (p := kyB) hlt hq.out h
           have hst := fun h => all_stop (p := kyB) hlt h
           have hre := hr'
           have hky : kyB t.keys[k] = (mayE t.keys[k].e && decide (1 ≤ t.keys[k].kind ∧ t.keys[k].kind ≤ 3)) := rfl
           rw [hky] at hnx hst
           generalize t.keys[k] = kx at hr' hre hcall hnx hst hky hk8 hes
           obtain ⟨⟨xop, xlit, xhead, xname, xhi, xlo, xargs⟩, xk⟩ := kx
           obtain ⟨XA, xcap, rfl, -, -, -, -, -, -, xs⟩ := RE.inv hr'
           have hla2 := xs.len
           have hes' : ecs = [.int .u8 xop, .int .i64 xlit.1, .int .u64 xlit.2.1, .int .u64 xlit.2.2, .string xhead, .string xname, .int .i64 xhi, .int .i64 xlo, .slice XA xargs.length xcap, .int .u8 xk] := by rw [hes]; simp only [exC, List.cons_append, List.nil_append]
           clear hes
           subst hes'
           obtain ⟨x0, x1, x2, x3, x4, x5, x6, x7, x8, x9⟩ := srow10 hcell
           have hX : Calls Tryz.prog 130 #[.agg #[.int .u8 xop, .int .i64 xlit.1, .int .u64 xlit.2.1, .int .u64 xlit.2.2, .string xhead, .string xname, .int .i64 xhi, .int .i64 xlo, .slice XA xargs.length xcap]] wr fun r w' => r = .returned (.bool (mayE (.mk xop xlit xhead xname xhi xlo xargs))) ∧ (Below wr.heap.size wr w' ∧ Below wa.heap.size wa w') := (hcall _ hre).mono fun e w' h => ⟨h.1, h.2, hbr.out.trans (h.2.mono hzr)⟩
           clear hcell hr' hre hcall xs hky hk8 hel
           simp only at hnx hst
           generalize mayE (.mk xop xlit xhead xname xhi xlo xargs) = z at hX hnx hst
           cases z with
           | false =>
            have hres := hide (hst rfl)
            clear hnx hst
            go_wp2_with (go_at_call 130; refine hX.mono ?_; rintro e w2 ⟨rfl, hb2, hbw2⟩)
            go_ret
            exact ⟨ret_b (hv.out.trans (by rw [hres.out]; rfl)).symm, hBk.out _ hbw2⟩
           | true =>
            by_cases g1 : 1 ≤ xk
            ·by_cases g2 : xk ≤ 3
             ·have hres := hide (hnx (by simp [g1, g2]))
              have g1' : ¬ xk < 1 := by omega
              have g2' : ¬ 3 < xk := by omega
              clear hnx hst
              go_wp2_with (go_at_call 130; refine hX.mono ?_; rintro e w2 ⟨rfl, hb2, hbw2⟩; have k2 := bcell' hbw2)
              go_roundw
              case rel => exact ⟨k + 1, by omega, by go_num, hres, hide hbw2⟩
              case measure => simp [intOf]; omega
             ·have hres := hide (hst (by simp [g2]))
              have g1' : ¬ xk < 1 := by omega
              have g2' : 3 < xk := by omega
              clear hnx hst
              go_wp2_with (go_at_call 130; refine hX.mono ?_; rintro e w2 ⟨rfl, hb2, hbw2⟩; have k2 := bcell' hbw2)
              go_ret
              exact ⟨ret_b (hv.out.trans (by rw [hres.out]; rfl)).symm, hBk.out _ hbw2⟩
            ·have hres := hide (hst (by simp [g1]))
             have g1' : xk < 1 := by omega
             clear hnx hst
             go_wp2_with (go_at_call 130; refine hX.mono ?_; rintro e w2 ⟨rfl, hb2, hbw2⟩; have k2 := bcell' hbw2)
             go_ret
             exact ⟨ret_b (hv.out.trans (by rw [hres.out]; rfl)).symm, hBk.out _ hbw2⟩
          ·have hkeys := hide (all_end hq.out hlt)
           go_wp2
           have hbr0 := hbr
           clear hbr hq hlt hkk hc hzr
           go_loopw [4] (fun i wr => ∃ k : Nat, k ≤ t.dargs.length ∧ i = .int .i64 k ∧ Hid ((t.dargs.take k).all litB = true) ∧ Hid (Below wa.heap.size wa wr)) (fun i _ => t.dargs.length - (intOf i).toNat)
           case atStart => exact ⟨0, Nat.zero_le _, rfl, hide (by simp), hbr0⟩
           case round =>
            clear hbr0
            obtain ⟨k, hkk, rfl, hq, hbr⟩ := hrel
            have hc := bcell' hbr.out
            have hzr := hbr.out.size
            by_cases hlt : k < t.dargs.length
            ·obtain ⟨b, o, ecs, hA, hb, hel, hcell, rfl, hok⟩ := hLa.out.2 k _ (List.getElem?_eq_getElem hlt)
             subst hA
             have hltz : (k : Int) < (t.dargs.length : Int) := by omega
             have hbw : b < wa.heap.size := by omega
             have hX := mayLit04_any t.dargs[k] wr hok
             have hnx := fun h => all_next (p := litB) hlt hq.out h
             have hst := fun h => all_stop (p := litB) hlt h
             generalize t.dargs[k] = x at hX hnx hst hcell
             obtain ⟨x0, x1, x2⟩ := srow3 hcell
             clear hcell hok hel
             generalize litB x = z at hX hnx hst
             cases z with
             | false =>
              have hres := hide (hst rfl)
              clear hnx hst
              go_wp2_with (go_at_call 131; refine hX.mono ?_; rintro e w2 ⟨rfl, hb2⟩)
              go_ret
              exact ⟨ret_b (hv.out.trans (by rw [hkeys.out, hres.out]; rfl)).symm, hBk.out _ (hbr.out.trans (hb2.mono hzr))⟩
             | true =>
              have hres := hide (hnx rfl)
              clear hnx hst
              go_wp2_with (go_at_call 131; refine hX.mono ?_; rintro e w2 ⟨rfl, hb2⟩)
              go_roundw
              case rel => exact ⟨k + 1, by omega, by go_num, hres, hide (hbr.out.trans (hb2.mono hzr))⟩
              case measure => simp [intOf]; omega
            ·have hres := hide (all_end hq.out hlt)
             go_wp2
             go_ret
             exact ⟨ret_b (hv.out.trans (by rw [hkeys.out, hres.out]; rfl)).symm, hBk.out _ hbr.out⟩
        ·rw [decide_eq_false n7, Bool.false_and] at hv0
         have i7 : ¬ ((t.dargs.length : Int) ≤ 8) := by omega
         have j7 : (8 : Int) < (t.dargs.length : Int) := by omega
         have hv := hide hv0
         clear hv0
         go_wp2_with (first | (go_at_call 67; first | (with_reducible refine (q1.out _ (by assumption)).mono ?_; rintro e w1 ⟨rfl, hb1⟩; have khb1 := bcell' hb1) | (with_reducible refine (q3.out _ (by assumption)).mono ?_; rintro e w1 ⟨rfl, hb3⟩; have khb3 := bcell' hb3)) | (go_at_call 72; first | (with_reducible refine (q2.out _ (by assumption)).mono ?_; rintro e w1 ⟨rfl, hb2⟩; have khb2 := bcell' hb2)))
         go_ret
         exact ⟨ret_b hv.out.symm, hBk.out _ (by assumption)⟩
     ·rw [decide_eq_false n4, Bool.false_and] at hv0
      have i4 : ¬ ((t.actions.length : Int) ≤ 16) := by omega
      have j4 : (16 : Int) < (t.actions.length : Int) := by omega
      have hv := hide hv0
      clear hv0
      go_wp2_with (first | (go_at_call 67; first | (with_reducible refine (q1.out _ (by assumption)).mono ?_; rintro e w1 ⟨rfl, hb1⟩; have khb1 := bcell' hb1) | (with_reducible refine (q3.out _ (by assumption)).mono ?_; rintro e w1 ⟨rfl, hb3⟩; have khb3 := bcell' hb3)) | (go_at_call 72; first | (with_reducible refine (q2.out _ (by assumption)).mono ?_; rintro e w1 ⟨rfl, hb2⟩; have khb2 := bcell' hb2)))
      go_ret
      exact ⟨ret_b hv.out.symm, hBk.out _ (by assumption)⟩
    ·rw [decide_eq_false n3, Bool.false_and] at hv0
     have i3 : ¬ (1 ≤ (t.actions.length : Int)) := by omega
     have j3 : (t.actions.length : Int) < 1 := by omega
     have hv := hide hv0
     clear hv0
     go_wp2_with (first | (go_at_call 67; first | (with_reducible refine (q1.out _ (by assumption)).mono ?_; rintro e w1 ⟨rfl, hb1⟩; have khb1 := bcell' hb1) | (with_reducible refine (q3.out _ (by assumption)).mono ?_; rintro e w1 ⟨rfl, hb3⟩; have khb3 := bcell' hb3)) | (go_at_call 72; first | (with_reducible refine (q2.out _ (by assumption)).mono ?_; rintro e w1 ⟨rfl, hb2⟩; have khb2 := bcell' hb2)))
     go_ret
     exact ⟨ret_b hv.out.symm, hBk.out _ (by assumption)⟩
   ·rw [decide_eq_false n2, Bool.false_and] at hv0
    have i2 : ¬ ((t.keys.length : Int) ≤ 4) := by omega
    have j2 : (4 : Int) < (t.keys.length : Int) := by omega
    have hv := hide hv0
    clear hv0
    go_wp2_with (first | (go_at_call 67; first | (with_reducible refine (q1.out _ (by assumption)).mono ?_; rintro e w1 ⟨rfl, hb1⟩; have khb1 := bcell' hb1) | (with_reducible refine (q3.out _ (by assumption)).mono ?_; rintro e w1 ⟨rfl, hb3⟩; have khb3 := bcell' hb3)) | (go_at_call 72; first | (with_reducible refine (q2.out _ (by assumption)).mono ?_; rintro e w1 ⟨rfl, hb2⟩; have khb2 := bcell' hb2)))
    go_ret
    exact ⟨ret_b hv.out.symm, hBk.out _ (by assumption)⟩
  ·rw [decide_eq_false n1, Bool.false_and] at hv0
   have i1 : ¬ (1 ≤ (t.keys.length : Int)) := by omega
   have j1 : (t.keys.length : Int) < 1 := by omega
   have hv := hide hv0
   clear hv0
   go_wp2_with (first | (go_at_call 67; first | (with_reducible refine (q1.out _ (by assumption)).mono ?_; rintro e w1 ⟨rfl, hb1⟩; have khb1 := bcell' hb1) | (with_reducible refine (q3.out _ (by assumption)).mono ?_; rintro e w1 ⟨rfl, hb3⟩; have khb3 := bcell' hb3)) | (go_at_call 72; first | (with_reducible refine (q2.out _ (by assumption)).mono ?_; rintro e w1 ⟨rfl, hb2⟩; have khb2 := bcell' hb2)))
   go_ret
   exact ⟨ret_b hv.out.symm, hBk.out _ (by assumption)⟩
end Go.Proofs.YtcgmkjpgaigmfaaGreat

import Derived.Test.YtmfpbahifhndjaaGreatLow41
import Derived.Test.YtmfpbahifhndjaaGreatLow43
import Derived.Test.YtmfpbahifhndjaaGreatLow44
import Derived.Test.YtmfpbahifhndjaaGreatLow45
import Derived.Test.YtmfpbahifhndjaaGreatLow46
set_option linter.all false
/-! Layer 10: May, the document's. -/
set_option linter.all false
namespace Go.Proofs.YtmfpbahifhndjaaGreat
open Go.RowKit
theorem stepR_brs {p : Lp} {x : Stp} (h : stepR p x = true) : x.brs.length ≤ 1000 := by
 unfold stepR at h
 simp only [Bool.and_eq_true] at h
 have h2 := h.2
 split at h2
 ·have := of_decide_eq_true h2; omega
 ·simp only [Bool.and_eq_true, decide_eq_true_eq] at h2
  omega
theorem stepR_to {p : Lp} {x : Stp} (h : stepR p x = true) : ∀ t ∈ tosOf x, t < p.steps.length := by
 intro t ht
 unfold stepR at h
 simp only [Bool.and_eq_true, decide_eq_true_eq] at h
 obtain ⟨⟨⟨⟨h1, h2⟩, h3⟩, h4⟩, h5⟩ := h
 simp only [toB, Bool.and_eq_true, decide_eq_true_eq] at h3
 unfold tosOf at ht
 rcases List.mem_append.1 ht with ht | ht
 ·split at ht
  ·simp at ht; omega
  ·simp at ht
 ·obtain ⟨b, hb, rfl⟩ := List.mem_map.1 ht
  split at h5
  ·have : x.brs = [] := List.eq_nil_of_length_eq_zero (of_decide_eq_true h5)
   rw [this] at hb; simp at hb
  ·rename_i hk0
   simp only [Bool.and_eq_true, decide_eq_true_eq] at h5
   obtain ⟨i, hi, rfl⟩ := List.getElem_of_mem hb
   have hk := (allN_iff _ _).1 h5.2 0 (by omega)
   unfold keyR at hk
   rw [atD_at _ (show 0 < x.keys.length by omega)] at hk
   cases hw : wdR p (-1) x.keys[0] with
   | none => rw [hw] at hk; cases hk
   | some w =>
    rw [hw] at hk
    simp only at hk
    have hb2 := (allN_iff _ _).1 hk i hi
    rw [atD_at _ hi] at hb2
    simp only [brR, toB, Bool.and_eq_true, decide_eq_true_eq] at hb2
    exact hb2.1.1.2
theorem stepR_graph {p : Lp} (h : allN (atD (stepR p) p.steps) p.steps.length = true) : ∀ i, ∀ t ∈ graph p.steps i, t < p.steps.length := by
 intro i t ht
 unfold graph at ht
 cases hn : nth p.steps i with
 | none => rw [hn] at ht; simp at ht
 | some s =>
  rw [hn] at ht
  simp only [Option.map_some, Option.getD_some] at ht
  obtain ⟨j, hj, rfl⟩ := List.getElem_of_mem (nth_mem hn)
  have := (allN_iff _ _).1 h j hj
  rw [atD_at _ hj] at this
  exact stepR_to this t ht
theorem stepR_few {p : Lp} (h : allN (atD (stepR p) p.steps) p.steps.length = true) : ∀ x ∈ p.steps, x.brs.length ≤ 1000 := by
 intro x hx
 obtain ⟨j, hj, rfl⟩ := List.getElem_of_mem hx
 have := (allN_iff _ _).1 h j hj
 rw [atD_at _ hj] at this
 exact stepR_brs this
set_option maxRecDepth 100000 in
set_option maxHeartbeats 8000000 in
theorem rmay_any (A1 A2 A3 A4 A5 A6 A7 A8 A9 A10 A11 A12 : Option Addr) (p : Lp) (c1 c2 c3 c4 c5 c6 c7 c8 c9 c10 c11 c12 : Nat) (w : World) (h : LpS w w.heap.size A1 A2 A3 A4 A5 A6 A7 A8 A9 A10 A11 A12 p) (hE : p.emit.length ≤ c7) :
  Calls Tryz.prog 9 #[.agg #[.slice A1 p.heads.length c1, .slice A2 p.metas.length c2, .slice A3 p.steps.length c3, .slice A4 p.acts.length c4, .slice A5 p.tabs.length c5, .slice A6 p.control.length c6, .slice A7 p.emit.length c7, .slice A8 p.nh.length c8, .slice A9 p.nf.length c9, .slice A10 p.nm.length c10, .slice A11 p.na.length c11, .slice A12 p.nt.length c12]] w fun e w' => e = .returned (.bool (lmayR p)) ∧ Below w.heap.size w w' := by
 have l0 := h.heads.len
 have l1 := h.metas.len
 have l2 := h.steps.len
 have l3 := h.acts.len
 have l4 := h.tabs.len
 have lm := h.nm.len
 have la := h.na.len
 have lt := h.nt.len
 obtain ⟨wz, hwz, hsz, hbz, hcz, -⟩ := box1 w #[.slice A1 p.heads.length c1, .slice A2 p.metas.length c2, .slice A3 p.steps.length c3, .slice A4 p.acts.length c4, .slice A5 p.tabs.length c5, .slice A6 p.control.length c6, .slice A7 p.emit.length c7, .slice A8 p.nh.length c8, .slice A9 p.nf.length c9, .slice A10 p.nm.length c10, .slice A11 p.na.length c11, .slice A12 p.nt.length c12] 33
 obtain ⟨wa, hwa, hsa, hba, hca, -⟩ := box1 wz #[.slice A8 p.nh.length c8, .slice A9 p.nf.length c9, .slice A10 p.nm.length c10, .slice A11 p.na.length c11, .slice A12 p.nt.length c12] 31
 have k0 : w.heap.size < wz.heap.size := by omega
 obtain ⟨z0, z1, z2, z3, z4, z5, z6, z7, z8, z9, z10, z11⟩ := row12 hcz
 obtain ⟨y0, y1, y2, y3, y4, y5, y6, y7, y8, y9, y10, y11⟩ := row12 fun i => (hba.cell (p := ⟨w.heap.size, i, none⟩) k0).trans (hcz i)
 obtain ⟨x0, x1, x2, x3, x4⟩ := row5 hca
 have hl1 : w.heap.size < wa.heap.size := by omega
 have hl2 : wz.heap.size < wa.heap.size := by omega
 have hw : Below w.heap.size w wa := hbz.trans (hba.mono (by omega))
 have hP : ∀ W, Below wa.heap.size wa W → LpS W W.heap.size A1 A2 A3 A4 A5 A6 A7 A8 A9 A10 A11 A12 p := fun W hW => ((h.below hw).below (hW.mono hw.size)).more (Nat.le_trans hw.size hW.size)
 have hgo := hide (fun W (hW : Below wa.heap.size wa W) => hw.trans (hW.mono hw.size))
 have hv := hide (show lmayR p = (headsR p && (decide (p.metas.length ≤ 16) && (p.metas.all widthB && (decide (p.nm.length = p.metas.length) && (decide (p.na.length = p.acts.length) && (decide (p.nt.length = p.tabs.length) &&
  (decide (1 ≤ p.steps.length) && (decide (p.steps.length ≤ 16) && (decide (p.acts.length ≤ 16) && (decide (p.tabs.length ≤ 8) && (dstR p.emit p.heads.length && (inssR p (-1) p.control &&
  (allN (atD (stepR p) p.steps) p.steps.length && (allN (fun i => !cycR p.steps (i : Nat)) p.steps.length && (allN (fun i => atD (actR p i) p.acts i) p.acts.length && allN (atD (tabR p) p.tabs) p.tabs.length))))))))))))))) from by
  unfold lmayR wdsB; simp only [Bool.and_assoc])
 have hH := hide (fun W hW => rheads_any A1 A2 A3 A4 A5 A6 A7 A8 A9 A10 A11 A12 p c1 c2 c3 c4 c5 c6 c7 c8 c9 c10 c11 c12 W (hP W hW))
 have hW := hide (fun W hW => widths_any A2 c2 p.metas W (hP W hW).metas)
 have hD := hide (fun W hW => lists_any A7 c7 p.emit p.heads.length W (hP W hW).emit hE)
 have hC := hide (fun W hW => rmayInsts_any A1 A2 A3 A4 A5 A6 A7 A8 A9 A10 A11 A12 p c1 c2 c3 c4 c5 c6 c7 c8 c9 c10 c11 c12 (-1) p.control A6 c6 W (hP W hW) (hP W hW).control)
 have hSt := hide (fun x P1 P2 P3 d1 d2 d3 W hW h1 h2 h3 => rmayStep_any A1 A2 A3 A4 A5 A6 A7 A8 A9 A10 A11 A12 p c1 c2 c3 c4 c5 c6 c7 c8 c9 c10 c11 c12 x P1 P2 P3 d1 d2 d3 W (hP W hW) h1 h2 h3)
 have hCy := hide (fun s W hW hs hg hb h16 => onCycle_any A1 A2 A3 A4 A5 A6 A7 A8 A9 A10 A11 A12 p c1 c2 c3 c4 c5 c6 c7 c8 c9 c10 c11 c12 s W (hP W hW) hs hg hb h16)
 have hIa := hide (fun act l A c W hW hL => rmayInsts_any A1 A2 A3 A4 A5 A6 A7 A8 A9 A10 A11 A12 p c1 c2 c3 c4 c5 c6 c7 c8 c9 c10 c11 c12 act l A c W (hP W hW) hL)
 have hTa := hide (fun x P1 P2 P3 P4 d1 d2 d3 d4 W hW h1 h2 h3 h4 h5 => rmayTab_any A1 A2 A3 A4 A5 A6 A7 A8 A9 A10 A11 A12 p c1 c2 c3 c4 c5 c6 c7 c8 c9 c10 c11 c12 x P1 P2 P3 P4 d1 d2 d3 d4 W (hP W hW) h1 h2 h3 h4 h5)
 have hPs := hide (fun W hW => (hP W hW).steps)
 have hPa := hide (fun W hW => (hP W hW).acts)
 have hPt := hide (fun W hW => (hP W hW).tabs)
 generalize lmayR p = RES at hv ⊢
 generalize headsR p = H at hH hv
 generalize p.metas.all widthB = Q at hW hv
 generalize dstR p.emit p.heads.length = D at hD hv
 generalize inssR p (-1) p.control = C at hC hv
 replace hw := hide hw
 replace hsa := hide hsa
 replace hsz := hide hsz
 clear hca hcz hbz h hP hba
 go_enter Tryz.func9, Tryz.ntmps9
 go_upto_region 2 with fail
 clear z0 z1 z2 z3 z4 z5 z6 z7 z8 z9 z10 z11
 cases H with
 | false =>
  rw [Bool.false_and] at hv
  go_wp2_with (go_at_call 36; refine (hH.out _ (Below.refl _ _)).mono ?_; rintro e w3 ⟨rfl, hb3⟩; have ku := bcell' hb3; have u0 := (ku.1 _ 0 hl1).trans y0; have u1 := (ku.1 _ 1 hl1).trans y1; have u2 := (ku.1 _ 2 hl1).trans y2; have u3 := (ku.1 _ 3 hl1).trans y3; have u4 := (ku.1 _ 4 hl1).trans y4; have u5 := (ku.1 _ 5 hl1).trans y5; have u6 := (ku.1 _ 6 hl1).trans y6; have u7 := (ku.1 _ 7 hl1).trans y7; have u8 := (ku.1 _ 8 hl1).trans y8; have u9 := (ku.1 _ 9 hl1).trans y9; have u10 := (ku.1 _ 10 hl1).trans y10; have u11 := (ku.1 _ 11 hl1).trans y11; clear ku; have lyu := Nat.lt_of_lt_of_le hl1 hb3.size; have ju := bcell' hb3; have ux0 := (ju.1 _ 0 hl2).trans x0; have ux1 := (ju.1 _ 1 hl2).trans x1; have ux2 := (ju.1 _ 2 hl2).trans x2; have ux3 := (ju.1 _ 3 hl2).trans x3; have ux4 := (ju.1 _ 4 hl2).trans x4; clear ju; have lxu := Nat.lt_of_lt_of_le hl2 hb3.size)
  go_ret
  exact ⟨ret_b hv.out.symm, hgo.out _ hb3⟩
 | true =>
  rw [Bool.true_and] at hv
  by_cases hs1 : p.metas.length ≤ 16
  ·rw [decide_eq_true hs1, Bool.true_and] at hv
   have es1 : ¬ ((16 : Int) < (p.metas.length : Int)) := by omega
   have ds1 : decide ((16 : Int) < (p.metas.length : Int)) = false := decide_eq_false es1
   cases Q with
   | false =>
    rw [Bool.false_and] at hv
    go_wp2_with (first | (go_at_call 36; refine (hH.out _ (Below.refl _ _)).mono ?_; rintro e w3 ⟨rfl, hb3⟩; have ku := bcell' hb3; have u0 := (ku.1 _ 0 hl1).trans y0; have u1 := (ku.1 _ 1 hl1).trans y1; have u2 := (ku.1 _ 2 hl1).trans y2; have u3 := (ku.1 _ 3 hl1).trans y3; have u4 := (ku.1 _ 4 hl1).trans y4; have u5 := (ku.1 _ 5 hl1).trans y5; have u6 := (ku.1 _ 6 hl1).trans y6; have u7 := (ku.1 _ 7 hl1).trans y7; have u8 := (ku.1 _ 8 hl1).trans y8; have u9 := (ku.1 _ 9 hl1).trans y9; have u10 := (ku.1 _ 10 hl1).trans y10; have u11 := (ku.1 _ 11 hl1).trans y11; clear ku; have lyu := Nat.lt_of_lt_of_le hl1 hb3.size; have ju := bcell' hb3; have ux0 := (ju.1 _ 0 hl2).trans x0; have ux1 := (ju.1 _ 1 hl2).trans x1; have ux2 := (ju.1 _ 2 hl2).trans x2; have ux3 := (ju.1 _ 3 hl2).trans x3; have ux4 := (ju.1 _ 4 hl2).trans x4; clear ju; have lxu := Nat.lt_of_lt_of_le hl2 hb3.size) | (go_at_call 37; refine (hW.out _ hb3).mono ?_; rintro e w' ⟨rfl, rfl⟩))
    go_ret
    exact ⟨ret_b hv.out.symm, hgo.out _ hb3⟩
   | true =>
    rw [Bool.true_and] at hv
    by_cases hs2 : p.nm.length = p.metas.length
    ·rw [decide_eq_true hs2, Bool.true_and] at hv
     have es2 : (((p.nm.length : Nat) : Int) != ((p.metas.length : Nat) : Int)) = false := by simpa using congrArg Int.ofNat hs2
     replace hs2 := hide hs2
     by_cases hs3 : p.na.length = p.acts.length
     ·rw [decide_eq_true hs3, Bool.true_and] at hv
      have es3 : (((p.na.length : Nat) : Int) != ((p.acts.length : Nat) : Int)) = false := by simpa using congrArg Int.ofNat hs3
      replace hs3 := hide hs3
      by_cases hs4 : p.nt.length = p.tabs.length
      ·rw [decide_eq_true hs4, Bool.true_and] at hv
       have es4 : (((p.nt.length : Nat) : Int) != ((p.tabs.length : Nat) : Int)) = false := by simpa using congrArg Int.ofNat hs4
       replace hs4 := hide hs4
       by_cases hs5 : 1 ≤ p.steps.length
       ·rw [decide_eq_true hs5, Bool.true_and] at hv
        have es5 : ¬ ((p.steps.length : Int) < 1) := by omega
        have ds5 : decide ((p.steps.length : Int) < 1) = false := decide_eq_false es5
        by_cases hs6 : p.steps.length ≤ 16
        ·rw [decide_eq_true hs6, Bool.true_and] at hv
         have es6 : ¬ ((16 : Int) < (p.steps.length : Int)) := by omega
         have ds6 : decide ((16 : Int) < (p.steps.length : Int)) = false := decide_eq_false es6
         by_cases hs7 : p.acts.length ≤ 16
         ·rw [decide_eq_true hs7, Bool.true_and] at hv
          have es7 : ¬ ((16 : Int) < (p.acts.length : Int)) := by omega
          have ds7 : decide ((16 : Int) < (p.acts.length : Int)) = false := decide_eq_false es7
          by_cases hs8 : p.tabs.length ≤ 8
          ·rw [decide_eq_true hs8, Bool.true_and] at hv
           have es8 : ¬ ((8 : Int) < (p.tabs.length : Int)) := by omega
           have ds8 : decide ((8 : Int) < (p.tabs.length : Int)) = false := decide_eq_false es8
           cases D with
           | false =>
            rw [Bool.false_and] at hv
            go_wp2_with (first | (go_at_call 36; refine (hH.out _ (Below.refl _ _)).mono ?_; rintro e w3 ⟨rfl, hb3⟩; have ku := bcell' hb3; have u0 := (ku.1 _ 0 hl1).trans y0; have u1 := (ku.1 _ 1 hl1).trans y1; have u2 := (ku.1 _ 2 hl1).trans y2; have u3 := (ku.1 _ 3 hl1).trans y3; have u4 := (ku.1 _ 4 hl1).trans y4; have u5 := (ku.1 _ 5 hl1).trans y5; have u6 := (ku.1 _ 6 hl1).trans y6; have u7 := (ku.1 _ 7 hl1).trans y7; have u8 := (ku.1 _ 8 hl1).trans y8; have u9 := (ku.1 _ 9 hl1).trans y9; have u10 := (ku.1 _ 10 hl1).trans y10; have u11 := (ku.1 _ 11 hl1).trans y11; clear ku; have lyu := Nat.lt_of_lt_of_le hl1 hb3.size; have ju := bcell' hb3; have ux0 := (ju.1 _ 0 hl2).trans x0; have ux1 := (ju.1 _ 1 hl2).trans x1; have ux2 := (ju.1 _ 2 hl2).trans x2; have ux3 := (ju.1 _ 3 hl2).trans x3; have ux4 := (ju.1 _ 4 hl2).trans x4; clear ju; have lxu := Nat.lt_of_lt_of_le hl2 hb3.size) | (go_at_call 37; refine (hW.out _ hb3).mono ?_; rintro e w' ⟨rfl, rfl⟩) | (go_at_call 38; refine (hD.out _ hb3).mono ?_; rintro e w4 ⟨rfl, hb4'⟩; have hb4 := hb3.trans (hb4'.mono hb3.size); have kt := bcell' hb4; have t0 := (kt.1 _ 0 hl1).trans y0; have t1 := (kt.1 _ 1 hl1).trans y1; have t2 := (kt.1 _ 2 hl1).trans y2; have t3 := (kt.1 _ 3 hl1).trans y3; have t4 := (kt.1 _ 4 hl1).trans y4; have t5 := (kt.1 _ 5 hl1).trans y5; have t6 := (kt.1 _ 6 hl1).trans y6; have t7 := (kt.1 _ 7 hl1).trans y7; have t8 := (kt.1 _ 8 hl1).trans y8; have t9 := (kt.1 _ 9 hl1).trans y9; have t10 := (kt.1 _ 10 hl1).trans y10; have t11 := (kt.1 _ 11 hl1).trans y11; clear kt; have lyt := Nat.lt_of_lt_of_le hl1 hb4.size))
            go_ret
            exact ⟨ret_b hv.out.symm, hgo.out _ hb4⟩
           | true =>
            rw [Bool.true_and] at hv
            cases C with
            | false =>
             rw [Bool.false_and] at hv
             go_wp2_with (first | (go_at_call 36; refine (hH.out _ (Below.refl _ _)).mono ?_; rintro e w3 ⟨rfl, hb3⟩; have ku := bcell' hb3; have u0 := (ku.1 _ 0 hl1).trans y0; have u1 := (ku.1 _ 1 hl1).trans y1; have u2 := (ku.1 _ 2 hl1).trans y2; have u3 := (ku.1 _ 3 hl1).trans y3; have u4 := (ku.1 _ 4 hl1).trans y4; have u5 := (ku.1 _ 5 hl1).trans y5; have u6 := (ku.1 _ 6 hl1).trans y6; have u7 := (ku.1 _ 7 hl1).trans y7; have u8 := (ku.1 _ 8 hl1).trans y8; have u9 := (ku.1 _ 9 hl1).trans y9; have u10 := (ku.1 _ 10 hl1).trans y10; have u11 := (ku.1 _ 11 hl1).trans y11; clear ku; have lyu := Nat.lt_of_lt_of_le hl1 hb3.size; have ju := bcell' hb3; have ux0 := (ju.1 _ 0 hl2).trans x0; have ux1 := (ju.1 _ 1 hl2).trans x1; have ux2 := (ju.1 _ 2 hl2).trans x2; have ux3 := (ju.1 _ 3 hl2).trans x3; have ux4 := (ju.1 _ 4 hl2).trans x4; clear ju; have lxu := Nat.lt_of_lt_of_le hl2 hb3.size) | (go_at_call 37; refine (hW.out _ hb3).mono ?_; rintro e w' ⟨rfl, rfl⟩) | (go_at_call 38; refine (hD.out _ hb3).mono ?_; rintro e w4 ⟨rfl, hb4'⟩; have hb4 := hb3.trans (hb4'.mono hb3.size); have kt := bcell' hb4; have t0 := (kt.1 _ 0 hl1).trans y0; have t1 := (kt.1 _ 1 hl1).trans y1; have t2 := (kt.1 _ 2 hl1).trans y2; have t3 := (kt.1 _ 3 hl1).trans y3; have t4 := (kt.1 _ 4 hl1).trans y4; have t5 := (kt.1 _ 5 hl1).trans y5; have t6 := (kt.1 _ 6 hl1).trans y6; have t7 := (kt.1 _ 7 hl1).trans y7; have t8 := (kt.1 _ 8 hl1).trans y8; have t9 := (kt.1 _ 9 hl1).trans y9; have t10 := (kt.1 _ 10 hl1).trans y10; have t11 := (kt.1 _ 11 hl1).trans y11; clear kt; have lyt := Nat.lt_of_lt_of_le hl1 hb4.size) | (go_at_call 39; refine (hC.out _ hb4).mono ?_; rintro e w5 ⟨rfl, hb5'⟩; have hb5 := hb4.trans (hb5'.mono hb4.size)))
             go_ret
             exact ⟨ret_b hv.out.symm, hgo.out _ hb5⟩
            | true =>
             rw [Bool.true_and] at hv
             go_wp2_with (first | (go_at_call 36; refine (hH.out _ (Below.refl _ _)).mono ?_; rintro e w3 ⟨rfl, hb3⟩; have ku := bcell' hb3; have u0 := (ku.1 _ 0 hl1).trans y0; have u1 := (ku.1 _ 1 hl1).trans y1; have u2 := (ku.1 _ 2 hl1).trans y2; have u3 := (ku.1 _ 3 hl1).trans y3; have u4 := (ku.1 _ 4 hl1).trans y4; have u5 := (ku.1 _ 5 hl1).trans y5; have u6 := (ku.1 _ 6 hl1).trans y6; have u7 := (ku.1 _ 7 hl1).trans y7; have u8 := (ku.1 _ 8 hl1).trans y8; have u9 := (ku.1 _ 9 hl1).trans y9; have u10 := (ku.1 _ 10 hl1).trans y10; have u11 := (ku.1 _ 11 hl1).trans y11; clear ku; have lyu := Nat.lt_of_lt_of_le hl1 hb3.size; have ju := bcell' hb3; have ux0 := (ju.1 _ 0 hl2).trans x0; have ux1 := (ju.1 _ 1 hl2).trans x1; have ux2 := (ju.1 _ 2 hl2).trans x2; have ux3 := (ju.1 _ 3 hl2).trans x3; have ux4 := (ju.1 _ 4 hl2).trans x4; clear ju; have lxu := Nat.lt_of_lt_of_le hl2 hb3.size) | (go_at_call 37; refine (hW.out _ hb3).mono ?_; rintro e w' ⟨rfl, rfl⟩) | (go_at_call 38; refine (hD.out _ hb3).mono ?_; rintro e w4 ⟨rfl, hb4'⟩; have hb4 := hb3.trans (hb4'.mono hb3.size); have kt := bcell' hb4; have t0 := (kt.1 _ 0 hl1).trans y0; have t1 := (kt.1 _ 1 hl1).trans y1; have t2 := (kt.1 _ 2 hl1).trans y2; have t3 := (kt.1 _ 3 hl1).trans y3; have t4 := (kt.1 _ 4 hl1).trans y4; have t5 := (kt.1 _ 5 hl1).trans y5; have t6 := (kt.1 _ 6 hl1).trans y6; have t7 := (kt.1 _ 7 hl1).trans y7; have t8 := (kt.1 _ 8 hl1).trans y8; have t9 := (kt.1 _ 9 hl1).trans y9; have t10 := (kt.1 _ 10 hl1).trans y10; have t11 := (kt.1 _ 11 hl1).trans y11; clear kt; have lyt := Nat.lt_of_lt_of_le hl1 hb4.size) | (go_at_call 39; refine (hC.out _ hb4).mono ?_; rintro e w5 ⟨rfl, hb5'⟩; have hb5 := hb4.trans (hb5'.mono hb4.size)))
             replace hb5 := hide hb5
             clear hb3 hb4 hb4' hb5' hH hW hD hC u0 u1 u2 u3 u4 u5 u6 u7 u8 u9 u10 u11 t0 t1 t2 t3 t4 t5 t6 t7 t8 t9 t10 t11 ux0 x0 ux1 x1 ux2 x2 ux3 x3 ux4 x4 lyu lxu lyt
             generalize hF1 : atD (stepR p) p.steps = F1 at hv
             generalize hF2 : (fun i => !cycR p.steps (i : Nat)) = F2 at hv
             generalize hF3 : (fun i => atD (actR p i) p.acts i) = F3 at hv
             generalize hF4 : atD (tabR p) p.tabs = F4 at hv
             go_loopw [4] (fun i wr => ∃ k : Nat, k ≤ p.steps.length ∧ i = .int .i64 k ∧ Hid (allN F1 k = true) ∧ Hid (Below wa.heap.size wa wr)) (fun i _ => p.steps.length - (intOf i).toNat)
             case atStart => exact ⟨0, Nat.zero_le _, rfl, hide rfl, hb5⟩
             case round =>
              obtain ⟨k, hk, rfl, hcn, hG⟩ := hrel
              have hzr := hG.out.size
              have hgG := hide (fun W (hW : Below wr.heap.size wr W) => hG.out.trans (hW.mono hzr))
              by_cases hlt : k < p.steps.length
              ·have hkz : (k : Int) < (p.steps.length : Int) := by omega
               have hNx := hide (fun (g : F1 k = true) => show allN F1 (k + 1) = true from by rw [allN, hcn.out, g]; rfl)
               have hlo := hide (fun (g : F1 k = false) => show allN F1 p.steps.length = false from allN_no hlt g)
               obtain ⟨b, o, B1, B2, B3, d1, d2, d3, hA3, hgl, n0, n1, n2, n3, hE1, hE2, hE3, -⟩ := (hPs.out wa (Below.refl _ _)).stp hlt
               subst hA3
               have hFk : F1 k = stepR p p.steps[k] := by rw [← hF1]; simp only [atD_at _ hlt]
               generalize p.steps[k] = x at n0 n1 n2 n3 hE1 hE2 hE3 hFk
               have hX : ∀ d os, Hid (Calls Tryz.prog 40 #[.agg #[.slice A1 p.heads.length c1, .slice A2 p.metas.length c2, .slice (some ⟨b, o, none⟩) p.steps.length c3, .slice A4 p.acts.length c4, .slice A5 p.tabs.length c5, .slice A6 p.control.length c6, .slice A7 p.emit.length c7, .slice A8 p.nh.length c8, .slice A9 p.nf.length c9, .slice A10 p.nm.length c10, .slice A11 p.na.length c11, .slice A12 p.nt.length c12], .agg #[.slice B1 x.takes.length d1, .slice B2 x.keys.length d2, .slice B3 x.brs.length d3, .int .i64 x.to]] (Go.Sort.grow (redrawn wr d) os) _) := fun d os => hide (hSt.out x B1 B2 B3 d1 d2 d3 _ (below_grow hG.out hzr d os) ((hE1.below sta_int (below_grow hG.out hzr d os)).more sta_int (Nat.le_trans hzr (below_regrown wr d os).size)) ((hE2.below sta_cd (below_grow hG.out hzr d os)).more sta_cd (Nat.le_trans hzr (below_regrown wr d os).size)) ((hE3.below sta_br (below_grow hG.out hzr d os)).more sta_br (Nat.le_trans hzr (below_regrown wr d os).size)))
               obtain ⟨tks, ks, bs, tt⟩ := x
               simp only at n0 n1 n2 n3 hFk hX
               generalize stepR p ⟨tks, ks, bs, tt⟩ = z at hX hFk
               have kbr := bcell' hG.out
               have f0 := (kbr.1 _ (o + k * 4) hgl).trans n0
               have f1 := (kbr.1 _ (o + k * 4 + 1) hgl).trans n1
               have f2 := (kbr.1 _ (o + k * 4 + 2) hgl).trans n2
               have f3 := (kbr.1 _ (o + k * 4 + 3) hgl).trans n3
               have q0 := (kbr.1 _ 0 hl1).trans y0
               have q1 := (kbr.1 _ 1 hl1).trans y1
               have q2 := (kbr.1 _ 2 hl1).trans y2
               have q3 := (kbr.1 _ 3 hl1).trans y3
               have q4 := (kbr.1 _ 4 hl1).trans y4
               have q5 := (kbr.1 _ 5 hl1).trans y5
               have q6 := (kbr.1 _ 6 hl1).trans y6
               have q7 := (kbr.1 _ 7 hl1).trans y7
               have q8 := (kbr.1 _ 8 hl1).trans y8
               have q9 := (kbr.1 _ 9 hl1).trans y9
               have q10 := (kbr.1 _ 10 hl1).trans y10
               have q11 := (kbr.1 _ 11 hl1).trans y11
               have hgw := gcell' (show Below wr.heap.size wr wr from Below.refl _ _) (Nat.le_refl _)
               have hB1 := Nat.lt_of_lt_of_le hl1 hzr
               have hB2 := Nat.lt_of_lt_of_le hgl hzr
               clear kbr n0 n1 n2 n3 y0 y1 y2 y3 y4 y5 y6 y7 y8 y9 y10 y11 hE1 hE2 hE3
               cases z with
               | false =>
                rw [hlo.out hFk, Bool.false_and] at hv
                replace hFk := hide hFk
                go_wp2_with fail
                refine wp_region_quiet_below (by kernel_rfl) (by kernel_rfl) ?_
                repeat (any_goals (first | go_big_quiet_step ((go_at_call 40; with_reducible exact Calls.regrown_of (hX _ _).out)) | quiet_step ((go_at_call 40; with_reducible exact Calls.regrown_of (hX _ _).out))))
                refine wpQuiet_nil ?_
                intro wq hwq
                replace hwq := below_of_regrown hwq
                go_wp2
                go_ret
                exact ⟨ret_b hv.out.symm, hgo.out _ (hgG.out _ hwq)⟩
               | true =>
                replace hNx := hide (hNx.out hFk)
                replace hFk := hide hFk
                go_wp2_with fail
                refine wp_region_quiet_below (by kernel_rfl) (by kernel_rfl) ?_
                repeat (any_goals (first | go_big_quiet_step ((go_at_call 40; with_reducible exact Calls.regrown_of (hX _ _).out)) | quiet_step ((go_at_call 40; with_reducible exact Calls.regrown_of (hX _ _).out))))
                refine wpQuiet_nil ?_
                intro wq hwq
                replace hwq := below_of_regrown hwq
                go_wp2
                go_roundw
                case rel => exact ⟨k + 1, by omega, by go_num, hNx, hide (hgG.out _ hwq)⟩
                case measure => simp [intOf]; omega
              ·have hke : k = p.steps.length := by omega
               subst hke
               rw [hcn.out, Bool.true_and] at hv
               have hgr := hide (stepR_graph (p := p) (by rw [hF1]; exact hcn.out))
               have hfew := hide (stepR_few (p := p) (by rw [hF1]; exact hcn.out))
               replace hcn := hide hcn.out
               clear hgG hSt hPs hF1
               obtain ⟨wb, rfl⟩ : ∃ wb : World, wb = wr := ⟨_, rfl⟩
               have kbr := bcell' hG.out
               have q0 := (kbr.1 _ 0 hl1).trans y0
               have q1 := (kbr.1 _ 1 hl1).trans y1
               have q2 := (kbr.1 _ 2 hl1).trans y2
               have q3 := (kbr.1 _ 3 hl1).trans y3
               have q4 := (kbr.1 _ 4 hl1).trans y4
               have q5 := (kbr.1 _ 5 hl1).trans y5
               have q6 := (kbr.1 _ 6 hl1).trans y6
               have q7 := (kbr.1 _ 7 hl1).trans y7
               have q8 := (kbr.1 _ 8 hl1).trans y8
               have q9 := (kbr.1 _ 9 hl1).trans y9
               have q10 := (kbr.1 _ 10 hl1).trans y10
               have q11 := (kbr.1 _ 11 hl1).trans y11
               have hB1 := Nat.lt_of_lt_of_le hl1 hzr
               clear kbr
               go_wp2
               clear hB1 q0 q1 q2 q3 q4 q5 q6 q7 q8 q9 q10 q11
               go_loopw [5] (fun i wr => ∃ k : Nat, k ≤ p.steps.length ∧ i = .int .i64 k ∧ Hid (allN F2 k = true) ∧ Hid (Below wa.heap.size wa wr)) (fun i _ => p.steps.length - (intOf i).toNat)
               case atStart => exact ⟨0, Nat.zero_le _, rfl, hide rfl, hG⟩
               case round =>
                clear hG hzr
                obtain ⟨k, hk, rfl, hcn, hG⟩ := hrel
                have hzr := hG.out.size
                have hgG := hide (fun W (hW : Below wr.heap.size wr W) => hG.out.trans (hW.mono hzr))
                by_cases hlt : k < p.steps.length
                ·have hkz : (k : Int) < (p.steps.length : Int) := by omega
                 have hNx := hide (fun (g : F2 k = true) => show allN F2 (k + 1) = true from by rw [allN, hcn.out, g]; rfl)
                 have hlo := hide (fun (g : F2 k = false) => show allN F2 p.steps.length = false from allN_no hlt g)
                 have hFk : F2 k = !cycR p.steps k := by rw [← hF2]
                 have hX := hCy.out k wr hG.out hlt hgr.out hfew.out hs6
                 generalize cycR p.steps (k : Nat) = z at hX hFk
                 replace hX := hide hX
                 have kbr := bcell' hG.out
                 have q0 := (kbr.1 _ 0 hl1).trans y0
                 have q1 := (kbr.1 _ 1 hl1).trans y1
                 have q2 := (kbr.1 _ 2 hl1).trans y2
                 have q3 := (kbr.1 _ 3 hl1).trans y3
                 have q4 := (kbr.1 _ 4 hl1).trans y4
                 have q5 := (kbr.1 _ 5 hl1).trans y5
                 have q6 := (kbr.1 _ 6 hl1).trans y6
                 have q7 := (kbr.1 _ 7 hl1).trans y7
                 have q8 := (kbr.1 _ 8 hl1).trans y8
                 have q9 := (kbr.1 _ 9 hl1).trans y9
                 have q10 := (kbr.1 _ 10 hl1).trans y10
                 have q11 := (kbr.1 _ 11 hl1).trans y11
                 have hB1 := Nat.lt_of_lt_of_le hl1 hzr
                 clear kbr y0 y1 y2 y3 y4 y5 y6 y7 y8 y9 y10 y11
                 cases z with
                 | true =>
                  rw [hlo.out hFk, Bool.false_and] at hv
                  replace hFk := hide hFk
                  go_wp2_with (go_at_call 41; refine hX.out.mono ?_; rintro e w6 ⟨rfl, hb6⟩)
                  go_ret
                  exact ⟨ret_b hv.out.symm, hgo.out _ (hgG.out _ hb6)⟩
                 | false =>
                  replace hNx := hide (hNx.out hFk)
                  replace hFk := hide hFk
                  go_wp2_with (go_at_call 41; refine hX.out.mono ?_; rintro e w6 ⟨rfl, hb6⟩)
                  go_roundw
                  case rel => exact ⟨k + 1, by omega, by go_num, hNx, hide (hgG.out _ hb6)⟩
                  case measure => simp [intOf]; omega
                ·have hke : k = p.steps.length := by omega
                 subst hke
                 rw [hcn.out, Bool.true_and] at hv
                 replace hcn := hide hcn.out
                 clear hgG hCy hF2 hgr hfew
                 obtain ⟨wc, rfl⟩ : ∃ wc : World, wc = wr := ⟨_, rfl⟩
                 have kbr := bcell' hG.out
                 have q0 := (kbr.1 _ 0 hl1).trans y0
                 have q1 := (kbr.1 _ 1 hl1).trans y1
                 have q2 := (kbr.1 _ 2 hl1).trans y2
                 have q3 := (kbr.1 _ 3 hl1).trans y3
                 have q4 := (kbr.1 _ 4 hl1).trans y4
                 have q5 := (kbr.1 _ 5 hl1).trans y5
                 have q6 := (kbr.1 _ 6 hl1).trans y6
                 have q7 := (kbr.1 _ 7 hl1).trans y7
                 have q8 := (kbr.1 _ 8 hl1).trans y8
                 have q9 := (kbr.1 _ 9 hl1).trans y9
                 have q10 := (kbr.1 _ 10 hl1).trans y10
                 have q11 := (kbr.1 _ 11 hl1).trans y11
                 have hB1 := Nat.lt_of_lt_of_le hl1 hzr
                 clear kbr
                 go_wp2
                 clear hB1 q0 q1 q2 q3 q4 q5 q6 q7 q8 q9 q10 q11
                 go_loopw [6, 7] (fun i _ wr => ∃ k : Nat, k ≤ p.acts.length ∧ i = .int .i64 k ∧ Hid (allN F3 k = true) ∧ Hid (Below wa.heap.size wa wr)) (fun i _ _ => p.acts.length - (intOf i).toNat)
                 case atStart => exact ⟨0, Nat.zero_le _, rfl, hide rfl, hG⟩
                 case round =>
                  clear hG hzr
                  obtain ⟨k, hk, rfl, hcn, hG⟩ := hrel
                  have hzr := hG.out.size
                  have hgG := hide (fun W (hW : Below wr.heap.size wr W) => hG.out.trans (hW.mono hzr))
                  by_cases hlt : k < p.acts.length
                  ·have hkz : (k : Int) < (p.acts.length : Int) := by omega
                   have hNx := hide (fun (g : F3 k = true) => show allN F3 (k + 1) = true from by rw [allN, hcn.out, g]; rfl)
                   have hlo := hide (fun (g : F3 k = false) => show allN F3 p.acts.length = false from allN_no hlt g)
                   obtain ⟨b, o, A', B', ca, cb, hAe, hb, n0, n1, hE1, hE2⟩ := (hPa.out wr hG.out).act hlt
                   subst hAe
                   have hFk : F3 k = (wdsB p.acts[k].params 8 && inssR p k p.acts[k].body) := by rw [← hF3]; simp only [atD_at _ hlt]; rfl
                   generalize p.acts[k] = x at n0 n1 hE1 hE2 hFk
                   obtain ⟨ps, body⟩ := x
                   simp only at n0 n1 hE1 hE2 hFk
                   rw [wdsB, Bool.and_assoc] at hFk
                   have lps := hE1.len
                   have lbd := hE2.len
                   obtain ⟨wn, hwn, hsn, hbn, hcl, -⟩ := box1 wr #[.slice A' ps.length ca, .slice B' body.length cb] 54
                   have kbw := bcell' hG.out
                   have v3 := (kbw.1 _ 3 hl1).trans y3
                   clear kbw
                   have hB0 : w.heap.size < wr.heap.size := Nat.lt_of_lt_of_le hl1 hzr
                   have m0 : wn.cell? ⟨wr.heap.size, 0, none⟩ = some (.slice A' ps.length ca) := hcl 0
                   have m1 : wn.cell? ⟨wr.heap.size, 1, none⟩ = some (.slice B' body.length cb) := hcl 1
                   have hGn : Below wa.heap.size wa wn := hG.out.trans (hbn.mono hzr)
                   have kbr := bcell' hGn
                   have q0 := (kbr.1 _ 0 hl1).trans y0
                   have q1 := (kbr.1 _ 1 hl1).trans y1
                   have q2 := (kbr.1 _ 2 hl1).trans y2
                   have q3 := (kbr.1 _ 3 hl1).trans y3
                   have q4 := (kbr.1 _ 4 hl1).trans y4
                   have q5 := (kbr.1 _ 5 hl1).trans y5
                   have q6 := (kbr.1 _ 6 hl1).trans y6
                   have q7 := (kbr.1 _ 7 hl1).trans y7
                   have q8 := (kbr.1 _ 8 hl1).trans y8
                   have q9 := (kbr.1 _ 9 hl1).trans y9
                   have q10 := (kbr.1 _ 10 hl1).trans y10
                   have q11 := (kbr.1 _ 11 hl1).trans y11
                   have hB1 : w.heap.size < wn.heap.size := Nat.lt_of_lt_of_le hl1 hGn.size
                   have hB2 : wr.heap.size < wn.heap.size := by omega
                   have hW8 := widths_any A' ca ps wn ((hE1.below sta_int hbn).more sta_int hbn.size)
                   have hE2n := (hE2.below sta_ins hbn).more sta_ins hbn.size
                   have hI8 := hIa.out k body B' cb wn hGn hE2n
                   generalize ps.all widthB = W1 at hW8 hFk
                   generalize inssR p k body = I1 at hI8 hFk
                   replace hW8 := hide hW8
                   replace hI8 := hide hI8
                   replace hGn := hide hGn
                   replace hsn := hide hsn
                   clear hcl hbn hE1 hE2 hE2n kbr y0 y1 y2 y3 y4 y5 y6 y7 y8 y9 y10 y11
                   by_cases h8 : ps.length ≤ 8
                   ·rw [decide_eq_true h8, Bool.true_and] at hFk
                    have h8z : ¬ ((8 : Int) < (ps.length : Int)) := by omega
                    cases W1 with
                    | false =>
                     rw [Bool.false_and] at hFk
                     rw [hlo.out hFk, Bool.false_and] at hv
                     replace hFk := hide hFk
                     go_wp2_with (go_at_call 37; refine hW8.out.mono ?_; rintro e w' ⟨rfl, rfl⟩)
                     go_ret
                     exact ⟨ret_b hv.out.symm, hgo.out _ hGn.out⟩
                    | true =>
                     rw [Bool.true_and] at hFk
                     cases I1 with
                     | false =>
                      rw [hlo.out hFk, Bool.false_and] at hv
                      replace hFk := hide hFk
                      go_wp2_with (first | (go_at_call 37; refine hW8.out.mono ?_; rintro e w' ⟨rfl, rfl⟩) | (go_at_call 39; refine hI8.out.mono ?_; rintro e w7 ⟨rfl, hb7⟩))
                      go_ret
                      exact ⟨ret_b hv.out.symm, hgo.out _ (hGn.out.trans (hb7.mono hGn.out.size))⟩
                     | true =>
                      replace hNx := hide (hNx.out hFk)
                      replace hFk := hide hFk
                      go_wp2_with (first | (go_at_call 37; refine hW8.out.mono ?_; rintro e w' ⟨rfl, rfl⟩) | (go_at_call 39; refine hI8.out.mono ?_; rintro e w7 ⟨rfl, hb7⟩))
                      go_roundw
                      case rel => exact ⟨k + 1, by omega, by go_num, hNx, hide (hGn.out.trans (hb7.mono hGn.out.size))⟩
                      case measure => simp [intOf]; omega
                   ·rw [decide_eq_false h8, Bool.false_and] at hFk
                    rw [hlo.out hFk, Bool.false_and] at hv
                    have h8z : ((8 : Int) < (ps.length : Int)) := by omega
                    replace hFk := hide hFk
                    go_wp2
                    go_ret
                    exact ⟨ret_b hv.out.symm, hgo.out _ hGn.out⟩
                  ·have hke : k = p.acts.length := by omega
                   subst hke
                   rw [hcn.out, Bool.true_and] at hv
                   replace hcn := hide hcn.out
                   clear hgG hIa hPa hF3
                   obtain ⟨wd, rfl⟩ : ∃ wd : World, wd = wr := ⟨_, rfl⟩
                   have kbr := bcell' hG.out
                   have q0 := (kbr.1 _ 0 hl1).trans y0
                   have q1 := (kbr.1 _ 1 hl1).trans y1
                   have q2 := (kbr.1 _ 2 hl1).trans y2
                   have q3 := (kbr.1 _ 3 hl1).trans y3
                   have q4 := (kbr.1 _ 4 hl1).trans y4
                   have q5 := (kbr.1 _ 5 hl1).trans y5
                   have q6 := (kbr.1 _ 6 hl1).trans y6
                   have q7 := (kbr.1 _ 7 hl1).trans y7
                   have q8 := (kbr.1 _ 8 hl1).trans y8
                   have q9 := (kbr.1 _ 9 hl1).trans y9
                   have q10 := (kbr.1 _ 10 hl1).trans y10
                   have q11 := (kbr.1 _ 11 hl1).trans y11
                   have hB1 := Nat.lt_of_lt_of_le hl1 hzr
                   clear kbr
                   go_wp2
                   clear hB1 q0 q1 q2 q3 q4 q5 q6 q7 q8 q9 q10 q11
                   go_loopw [8] (fun i wr => ∃ k : Nat, k ≤ p.tabs.length ∧ i = .int .i64 k ∧ Hid (allN F4 k = true) ∧ Hid (Below wa.heap.size wa wr)) (fun i _ => p.tabs.length - (intOf i).toNat)
                   case atStart => exact ⟨0, Nat.zero_le _, rfl, hide rfl, hG⟩
                   case round =>
                    clear hG hzr
                    obtain ⟨k, hk, rfl, hcn, hG⟩ := hrel
                    have hzr := hG.out.size
                    have hgG := hide (fun W (hW : Below wr.heap.size wr W) => hG.out.trans (hW.mono hzr))
                    by_cases hlt : k < p.tabs.length
                    ·have hkz : (k : Int) < (p.tabs.length : Int) := by omega
                     have hNx := hide (fun (g : F4 k = true) => show allN F4 (k + 1) = true from by rw [allN, hcn.out, g]; rfl)
                     have hlo := hide (fun (g : F4 k = false) => show allN F4 p.tabs.length = false from allN_no hlt g)
                     obtain ⟨b, o, B1, B2, B3, B4, d1, d2, d3, d4, hA5, hgl, n0, n1, n2, n3, n4, hE1, hE2, hE3, hE4, hE5⟩ := (hPt.out wa (Below.refl _ _)).ltb hlt
                     subst hA5
                     have hFk : F4 k = tabR p p.tabs[k] := by rw [← hF4]; simp only [atD_at _ hlt]
                     generalize p.tabs[k] = x at n0 n1 n2 n3 n4 hE1 hE2 hE3 hE4 hE5 hFk
                     have hX : ∀ d os, Hid (Calls Tryz.prog 42 #[.agg #[.slice A1 p.heads.length c1, .slice A2 p.metas.length c2, .slice A3 p.steps.length c3, .slice A4 p.acts.length c4, .slice (some ⟨b, o, none⟩) p.tabs.length c5, .slice A6 p.control.length c6, .slice A7 p.emit.length c7, .slice A8 p.nh.length c8, .slice A9 p.nf.length c9, .slice A10 p.nm.length c10, .slice A11 p.na.length c11, .slice A12 p.nt.length c12], .agg #[.slice B1 x.keys.length d1, .slice B2 x.kinds.length d2, .slice B3 x.acts.length d3, .int .i64 x.run.act, .slice B4 x.run.args.length d4]] (Go.Sort.grow (redrawn wr d) os) _) := fun d os => hide (hTa.out x B1 B2 B3 B4 d1 d2 d3 d4 _ (below_grow hG.out hzr d os) ((hE1.below sta_cd (below_grow hG.out hzr d os)).more sta_cd (Nat.le_trans hzr (below_regrown wr d os).size)) ((hE2.below sta_u8 (below_grow hG.out hzr d os)).more sta_u8 (Nat.le_trans hzr (below_regrown wr d os).size)) ((hE3.below sta_int (below_grow hG.out hzr d os)).more sta_int (Nat.le_trans hzr (below_regrown wr d os).size)) ((hE4.below sta_nu (below_grow hG.out hzr d os)).more sta_nu (Nat.le_trans hzr (below_regrown wr d os).size)) hE5)
                     obtain ⟨tks, kds, acs, ⟨ra, rg⟩⟩ := x
                     simp only at n0 n1 n2 n3 n4 hFk hX
                     generalize tabR p ⟨tks, kds, acs, ⟨ra, rg⟩⟩ = z at hX hFk
                     have kbr := bcell' hG.out
                     have f0 := (kbr.1 _ (o + k * 5) hgl).trans n0
                     have f1 := (kbr.1 _ (o + k * 5 + 1) hgl).trans n1
                     have f2 := (kbr.1 _ (o + k * 5 + 2) hgl).trans n2
                     have f3 := (kbr.1 _ (o + k * 5 + 3) hgl).trans n3
                     have f4 := (kbr.1 _ (o + k * 5 + 4) hgl).trans n4
                     have q0 := (kbr.1 _ 0 hl1).trans y0
                     have q1 := (kbr.1 _ 1 hl1).trans y1
                     have q2 := (kbr.1 _ 2 hl1).trans y2
                     have q3 := (kbr.1 _ 3 hl1).trans y3
                     have q4 := (kbr.1 _ 4 hl1).trans y4
                     have q5 := (kbr.1 _ 5 hl1).trans y5
                     have q6 := (kbr.1 _ 6 hl1).trans y6
                     have q7 := (kbr.1 _ 7 hl1).trans y7
                     have q8 := (kbr.1 _ 8 hl1).trans y8
                     have q9 := (kbr.1 _ 9 hl1).trans y9
                     have q10 := (kbr.1 _ 10 hl1).trans y10
                     have q11 := (kbr.1 _ 11 hl1).trans y11
                     have hgw := gcell' (show Below wr.heap.size wr wr from Below.refl _ _) (Nat.le_refl _)
                     have hB1 := Nat.lt_of_lt_of_le hl1 hzr
                     have hB2 := Nat.lt_of_lt_of_le hgl hzr
                     clear kbr n0 n1 n2 n3 n4 y0 y1 y2 y3 y4 y5 y6 y7 y8 y9 y10 y11 hE1 hE2 hE3 hE4
                     cases z with
                     | false =>
                      rw [hlo.out hFk] at hv
                      replace hFk := hide hFk
                      go_wp2_with fail
                      refine wp_region_quiet_below (by kernel_rfl) (by kernel_rfl) ?_
                      repeat (any_goals (first | go_big_quiet_step ((go_at_call 42; with_reducible exact Calls.regrown_of (hX _ _).out)) | quiet_step ((go_at_call 42; with_reducible exact Calls.regrown_of (hX _ _).out))))
                      refine wpQuiet_nil ?_
                      intro wq hwq
                      replace hwq := below_of_regrown hwq
                      go_wp2
                      go_ret
                      exact ⟨ret_b hv.out.symm, hgo.out _ (hgG.out _ hwq)⟩
                     | true =>
                      replace hNx := hide (hNx.out hFk)
                      replace hFk := hide hFk
                      go_wp2_with fail
                      refine wp_region_quiet_below (by kernel_rfl) (by kernel_rfl) ?_
                      repeat (any_goals (first | go_big_quiet_step ((go_at_call 42; with_reducible exact Calls.regrown_of (hX _ _).out)) | quiet_step ((go_at_call 42; with_reducible exact Calls.regrown_of (hX _ _).out))))
                      refine wpQuiet_nil ?_
                      intro wq hwq
                      replace hwq := below_of_regrown hwq
                      go_wp2
                      go_roundw
                      case rel => exact ⟨k + 1, by omega, by go_num, hNx, hide (hgG.out _ hwq)⟩
                      case measure => simp [intOf]; omega
                    ·have hke : k = p.tabs.length := by omega
                     subst hke
                     rw [hcn.out] at hv
                     have kbr := bcell' hG.out
                     have q0 := (kbr.1 _ 0 hl1).trans y0
                     have q1 := (kbr.1 _ 1 hl1).trans y1
                     have q2 := (kbr.1 _ 2 hl1).trans y2
                     have q3 := (kbr.1 _ 3 hl1).trans y3
                     have q4 := (kbr.1 _ 4 hl1).trans y4
                     have q5 := (kbr.1 _ 5 hl1).trans y5
                     have q6 := (kbr.1 _ 6 hl1).trans y6
                     have q7 := (kbr.1 _ 7 hl1).trans y7
                     have q8 := (kbr.1 _ 8 hl1).trans y8
                     have q9 := (kbr.1 _ 9 hl1).trans y9
                     have q10 := (kbr.1 _ 10 hl1).trans y10
                     have q11 := (kbr.1 _ 11 hl1).trans y11
                     have hB1 := Nat.lt_of_lt_of_le hl1 hzr
                     clear kbr
                     go_wp2
                     go_ret
                     exact ⟨ret_b hv.out.symm, hgo.out _ hG.out⟩
          ·rw [decide_eq_false hs8] at hv
           have es8 : ((8 : Int) < (p.tabs.length : Int)) := by omega
           have ds8 : decide ((8 : Int) < (p.tabs.length : Int)) = true := decide_eq_true es8
           rw [Bool.false_and] at hv
           go_wp2_with (first | (go_at_call 36; refine (hH.out _ (Below.refl _ _)).mono ?_; rintro e w3 ⟨rfl, hb3⟩; have ku := bcell' hb3; have u0 := (ku.1 _ 0 hl1).trans y0; have u1 := (ku.1 _ 1 hl1).trans y1; have u2 := (ku.1 _ 2 hl1).trans y2; have u3 := (ku.1 _ 3 hl1).trans y3; have u4 := (ku.1 _ 4 hl1).trans y4; have u5 := (ku.1 _ 5 hl1).trans y5; have u6 := (ku.1 _ 6 hl1).trans y6; have u7 := (ku.1 _ 7 hl1).trans y7; have u8 := (ku.1 _ 8 hl1).trans y8; have u9 := (ku.1 _ 9 hl1).trans y9; have u10 := (ku.1 _ 10 hl1).trans y10; have u11 := (ku.1 _ 11 hl1).trans y11; clear ku; have lyu := Nat.lt_of_lt_of_le hl1 hb3.size; have ju := bcell' hb3; have ux0 := (ju.1 _ 0 hl2).trans x0; have ux1 := (ju.1 _ 1 hl2).trans x1; have ux2 := (ju.1 _ 2 hl2).trans x2; have ux3 := (ju.1 _ 3 hl2).trans x3; have ux4 := (ju.1 _ 4 hl2).trans x4; clear ju; have lxu := Nat.lt_of_lt_of_le hl2 hb3.size) | (go_at_call 37; refine (hW.out _ hb3).mono ?_; rintro e w' ⟨rfl, rfl⟩))
           go_ret
           exact ⟨ret_b hv.out.symm, hgo.out _ hb3⟩
         ·rw [decide_eq_false hs7] at hv
          have es7 : ((16 : Int) < (p.acts.length : Int)) := by omega
          have ds7 : decide ((16 : Int) < (p.acts.length : Int)) = true := decide_eq_true es7
          rw [Bool.false_and] at hv
          go_wp2_with (first | (go_at_call 36; refine (hH.out _ (Below.refl _ _)).mono ?_; rintro e w3 ⟨rfl, hb3⟩; have ku := bcell' hb3; have u0 := (ku.1 _ 0 hl1).trans y0; have u1 := (ku.1 _ 1 hl1).trans y1; have u2 := (ku.1 _ 2 hl1).trans y2; have u3 := (ku.1 _ 3 hl1).trans y3; have u4 := (ku.1 _ 4 hl1).trans y4; have u5 := (ku.1 _ 5 hl1).trans y5; have u6 := (ku.1 _ 6 hl1).trans y6; have u7 := (ku.1 _ 7 hl1).trans y7; have u8 := (ku.1 _ 8 hl1).trans y8; have u9 := (ku.1 _ 9 hl1).trans y9; have u10 := (ku.1 _ 10 hl1).trans y10; have u11 := (ku.1 _ 11 hl1).trans y11; clear ku; have lyu := Nat.lt_of_lt_of_le hl1 hb3.size; have ju := bcell' hb3; have ux0 := (ju.1 _ 0 hl2).trans x0; have ux1 := (ju.1 _ 1 hl2).trans x1; have ux2 := (ju.1 _ 2 hl2).trans x2; have ux3 := (ju.1 _ 3 hl2).trans x3; have ux4 := (ju.1 _ 4 hl2).trans x4; clear ju; have lxu := Nat.lt_of_lt_of_le hl2 hb3.size) | (go_at_call 37; refine (hW.out _ hb3).mono ?_; rintro e w' ⟨rfl, rfl⟩))
          go_ret
          exact ⟨ret_b hv.out.symm, hgo.out _ hb3⟩
        ·rw [decide_eq_false hs6] at hv
         have es6 : ((16 : Int) < (p.steps.length : Int)) := by omega
         have ds6 : decide ((16 : Int) < (p.steps.length : Int)) = true := decide_eq_true es6
         rw [Bool.false_and] at hv
         go_wp2_with (first | (go_at_call 36; refine (hH.out _ (Below.refl _ _)).mono ?_; rintro e w3 ⟨rfl, hb3⟩; have ku := bcell' hb3; have u0 := (ku.1 _ 0 hl1).trans y0; have u1 := (ku.1 _ 1 hl1).trans y1; have u2 := (ku.1 _ 2 hl1).trans y2; have u3 := (ku.1 _ 3 hl1).trans y3; have u4 := (ku.1 _ 4 hl1).trans y4; have u5 := (ku.1 _ 5 hl1).trans y5; have u6 := (ku.1 _ 6 hl1).trans y6; have u7 := (ku.1 _ 7 hl1).trans y7; have u8 := (ku.1 _ 8 hl1).trans y8; have u9 := (ku.1 _ 9 hl1).trans y9; have u10 := (ku.1 _ 10 hl1).trans y10; have u11 := (ku.1 _ 11 hl1).trans y11; clear ku; have lyu := Nat.lt_of_lt_of_le hl1 hb3.size; have ju := bcell' hb3; have ux0 := (ju.1 _ 0 hl2).trans x0; have ux1 := (ju.1 _ 1 hl2).trans x1; have ux2 := (ju.1 _ 2 hl2).trans x2; have ux3 := (ju.1 _ 3 hl2).trans x3; have ux4 := (ju.1 _ 4 hl2).trans x4; clear ju; have lxu := Nat.lt_of_lt_of_le hl2 hb3.size) | (go_at_call 37; refine (hW.out _ hb3).mono ?_; rintro e w' ⟨rfl, rfl⟩))
         go_ret
         exact ⟨ret_b hv.out.symm, hgo.out _ hb3⟩
       ·rw [decide_eq_false hs5] at hv
        have es5 : ((p.steps.length : Int) < 1) := by omega
        have ds5 : decide ((p.steps.length : Int) < 1) = true := decide_eq_true es5
        rw [Bool.false_and] at hv
        go_wp2_with (first | (go_at_call 36; refine (hH.out _ (Below.refl _ _)).mono ?_; rintro e w3 ⟨rfl, hb3⟩; have ku := bcell' hb3; have u0 := (ku.1 _ 0 hl1).trans y0; have u1 := (ku.1 _ 1 hl1).trans y1; have u2 := (ku.1 _ 2 hl1).trans y2; have u3 := (ku.1 _ 3 hl1).trans y3; have u4 := (ku.1 _ 4 hl1).trans y4; have u5 := (ku.1 _ 5 hl1).trans y5; have u6 := (ku.1 _ 6 hl1).trans y6; have u7 := (ku.1 _ 7 hl1).trans y7; have u8 := (ku.1 _ 8 hl1).trans y8; have u9 := (ku.1 _ 9 hl1).trans y9; have u10 := (ku.1 _ 10 hl1).trans y10; have u11 := (ku.1 _ 11 hl1).trans y11; clear ku; have lyu := Nat.lt_of_lt_of_le hl1 hb3.size; have ju := bcell' hb3; have ux0 := (ju.1 _ 0 hl2).trans x0; have ux1 := (ju.1 _ 1 hl2).trans x1; have ux2 := (ju.1 _ 2 hl2).trans x2; have ux3 := (ju.1 _ 3 hl2).trans x3; have ux4 := (ju.1 _ 4 hl2).trans x4; clear ju; have lxu := Nat.lt_of_lt_of_le hl2 hb3.size) | (go_at_call 37; refine (hW.out _ hb3).mono ?_; rintro e w' ⟨rfl, rfl⟩))
        go_ret
        exact ⟨ret_b hv.out.symm, hgo.out _ hb3⟩
      ·rw [decide_eq_false hs4] at hv
       have es4 : (((p.nt.length : Nat) : Int) != ((p.tabs.length : Nat) : Int)) = true := by rw [bne_iff_ne]; omega
       replace hs4 := hide hs4
       rw [Bool.false_and] at hv
       go_wp2_with (first | (go_at_call 36; refine (hH.out _ (Below.refl _ _)).mono ?_; rintro e w3 ⟨rfl, hb3⟩; have ku := bcell' hb3; have u0 := (ku.1 _ 0 hl1).trans y0; have u1 := (ku.1 _ 1 hl1).trans y1; have u2 := (ku.1 _ 2 hl1).trans y2; have u3 := (ku.1 _ 3 hl1).trans y3; have u4 := (ku.1 _ 4 hl1).trans y4; have u5 := (ku.1 _ 5 hl1).trans y5; have u6 := (ku.1 _ 6 hl1).trans y6; have u7 := (ku.1 _ 7 hl1).trans y7; have u8 := (ku.1 _ 8 hl1).trans y8; have u9 := (ku.1 _ 9 hl1).trans y9; have u10 := (ku.1 _ 10 hl1).trans y10; have u11 := (ku.1 _ 11 hl1).trans y11; clear ku; have lyu := Nat.lt_of_lt_of_le hl1 hb3.size; have ju := bcell' hb3; have ux0 := (ju.1 _ 0 hl2).trans x0; have ux1 := (ju.1 _ 1 hl2).trans x1; have ux2 := (ju.1 _ 2 hl2).trans x2; have ux3 := (ju.1 _ 3 hl2).trans x3; have ux4 := (ju.1 _ 4 hl2).trans x4; clear ju; have lxu := Nat.lt_of_lt_of_le hl2 hb3.size) | (go_at_call 37; refine (hW.out _ hb3).mono ?_; rintro e w' ⟨rfl, rfl⟩))
       go_ret
       exact ⟨ret_b hv.out.symm, hgo.out _ hb3⟩
     ·rw [decide_eq_false hs3] at hv
      have es3 : (((p.na.length : Nat) : Int) != ((p.acts.length : Nat) : Int)) = true := by rw [bne_iff_ne]; omega
      replace hs3 := hide hs3
      rw [Bool.false_and] at hv
      go_wp2_with (first | (go_at_call 36; refine (hH.out _ (Below.refl _ _)).mono ?_; rintro e w3 ⟨rfl, hb3⟩; have ku := bcell' hb3; have u0 := (ku.1 _ 0 hl1).trans y0; have u1 := (ku.1 _ 1 hl1).trans y1; have u2 := (ku.1 _ 2 hl1).trans y2; have u3 := (ku.1 _ 3 hl1).trans y3; have u4 := (ku.1 _ 4 hl1).trans y4; have u5 := (ku.1 _ 5 hl1).trans y5; have u6 := (ku.1 _ 6 hl1).trans y6; have u7 := (ku.1 _ 7 hl1).trans y7; have u8 := (ku.1 _ 8 hl1).trans y8; have u9 := (ku.1 _ 9 hl1).trans y9; have u10 := (ku.1 _ 10 hl1).trans y10; have u11 := (ku.1 _ 11 hl1).trans y11; clear ku; have lyu := Nat.lt_of_lt_of_le hl1 hb3.size; have ju := bcell' hb3; have ux0 := (ju.1 _ 0 hl2).trans x0; have ux1 := (ju.1 _ 1 hl2).trans x1; have ux2 := (ju.1 _ 2 hl2).trans x2; have ux3 := (ju.1 _ 3 hl2).trans x3; have ux4 := (ju.1 _ 4 hl2).trans x4; clear ju; have lxu := Nat.lt_of_lt_of_le hl2 hb3.size) | (go_at_call 37; refine (hW.out _ hb3).mono ?_; rintro e w' ⟨rfl, rfl⟩))
      go_ret
      exact ⟨ret_b hv.out.symm, hgo.out _ hb3⟩
    ·rw [decide_eq_false hs2] at hv
     have es2 : (((p.nm.length : Nat) : Int) != ((p.metas.length : Nat) : Int)) = true := by rw [bne_iff_ne]; omega
     replace hs2 := hide hs2
     rw [Bool.false_and] at hv
     go_wp2_with (first | (go_at_call 36; refine (hH.out _ (Below.refl _ _)).mono ?_; rintro e w3 ⟨rfl, hb3⟩; have ku := bcell' hb3; have u0 := (ku.1 _ 0 hl1).trans y0; have u1 := (ku.1 _ 1 hl1).trans y1; have u2 := (ku.1 _ 2 hl1).trans y2; have u3 := (ku.1 _ 3 hl1).trans y3; have u4 := (ku.1 _ 4 hl1).trans y4; have u5 := (ku.1 _ 5 hl1).trans y5; have u6 := (ku.1 _ 6 hl1).trans y6; have u7 := (ku.1 _ 7 hl1).trans y7; have u8 := (ku.1 _ 8 hl1).trans y8; have u9 := (ku.1 _ 9 hl1).trans y9; have u10 := (ku.1 _ 10 hl1).trans y10; have u11 := (ku.1 _ 11 hl1).trans y11; clear ku; have lyu := Nat.lt_of_lt_of_le hl1 hb3.size; have ju := bcell' hb3; have ux0 := (ju.1 _ 0 hl2).trans x0; have ux1 := (ju.1 _ 1 hl2).trans x1; have ux2 := (ju.1 _ 2 hl2).trans x2; have ux3 := (ju.1 _ 3 hl2).trans x3; have ux4 := (ju.1 _ 4 hl2).trans x4; clear ju; have lxu := Nat.lt_of_lt_of_le hl2 hb3.size) | (go_at_call 37; refine (hW.out _ hb3).mono ?_; rintro e w' ⟨rfl, rfl⟩))
     go_ret
     exact ⟨ret_b hv.out.symm, hgo.out _ hb3⟩
  ·rw [decide_eq_false hs1] at hv
   have es1 : ((16 : Int) < (p.metas.length : Int)) := by omega
   have ds1 : decide ((16 : Int) < (p.metas.length : Int)) = true := decide_eq_true es1
   rw [Bool.false_and] at hv
   go_wp2_with (go_at_call 36; refine (hH.out _ (Below.refl _ _)).mono ?_; rintro e w3 ⟨rfl, hb3⟩; have ku := bcell' hb3; have u0 := (ku.1 _ 0 hl1).trans y0; have u1 := (ku.1 _ 1 hl1).trans y1; have u2 := (ku.1 _ 2 hl1).trans y2; have u3 := (ku.1 _ 3 hl1).trans y3; have u4 := (ku.1 _ 4 hl1).trans y4; have u5 := (ku.1 _ 5 hl1).trans y5; have u6 := (ku.1 _ 6 hl1).trans y6; have u7 := (ku.1 _ 7 hl1).trans y7; have u8 := (ku.1 _ 8 hl1).trans y8; have u9 := (ku.1 _ 9 hl1).trans y9; have u10 := (ku.1 _ 10 hl1).trans y10; have u11 := (ku.1 _ 11 hl1).trans y11; clear ku; have lyu := Nat.lt_of_lt_of_le hl1 hb3.size; have ju := bcell' hb3; have ux0 := (ju.1 _ 0 hl2).trans x0; have ux1 := (ju.1 _ 1 hl2).trans x1; have ux2 := (ju.1 _ 2 hl2).trans x2; have ux3 := (ju.1 _ 3 hl2).trans x3; have ux4 := (ju.1 _ 4 hl2).trans x4; clear ju; have lxu := Nat.lt_of_lt_of_le hl2 hb3.size)
   go_ret
   exact ⟨ret_b hv.out.symm, hgo.out _ hb3⟩
end Go.Proofs.YtmfpbahifhndjaaGreat

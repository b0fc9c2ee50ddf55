import Derived.Test.YtmfpbahifhndjaaGreatLow38
set_option linter.all false
/-! Layer 10: May. -/
set_option linter.all false
namespace Go.Proofs.YtmfpbahifhndjaaGreat
open Go.RowKit
set_option maxRecDepth 100000 in
set_option maxHeartbeats 8000000 in
theorem lmay_any (A1 A2 A3 A4 A5 A6 A7 A8 A9 A10 A11 A12 : Option Addr) (p : Lp) (c1 c2 c3 c4 c5 c6 c7 c8 c9 c10 c11 c12 : Nat) (w : World) (h : LpS w w.heap.size A1 A2 A3 A4 A5 A6 A7 A8 A9 A10 A11 A12 p) :
  Calls Tryz.prog 8 #[.agg #[.slice A1 p.heads.length c1, .slice A2 p.metas.length c2, .slice A3 p.steps.length c3, .slice A4 p.acts.length c4, .slice A5 p.tabs.length c5, .slice A6 p.control.length c6, .slice A7 p.emit.length c7, .slice A8 p.nh.length c8, .slice A9 p.nf.length c9, .slice A10 p.nm.length c10, .slice A11 p.na.length c11, .slice A12 p.nt.length c12]] w fun e w' => e = .returned (.bool (lmayL p)) ∧ Below w.heap.size w w' := by
 have l1 := h.heads.len
 have l3 := h.steps.len
 have l4 := h.acts.len
 have l5 := h.tabs.len
 obtain ⟨wz, hwz, hsz, hbz, hcz, -⟩ := box1 w #[.slice A1 p.heads.length c1, .slice A2 p.metas.length c2, .slice A3 p.steps.length c3, .slice A4 p.acts.length c4, .slice A5 p.tabs.length c5, .slice A6 p.control.length c6, .slice A7 p.emit.length c7, .slice A8 p.nh.length c8, .slice A9 p.nf.length c9, .slice A10 p.nm.length c10, .slice A11 p.na.length c11, .slice A12 p.nt.length c12] 33
 have lx : w.heap.size < wz.heap.size := by omega
 have hP : ∀ W, Below wz.heap.size wz W → LpS W W.heap.size A1 A2 A3 A4 A5 A6 A7 A8 A9 A10 A11 A12 p := fun W hW => ((h.below hbz).below (hW.mono hbz.size)).more (Nat.le_trans hbz.size hW.size)
 have hv := hide (show lmayL p = (decide (p.heads.length ≤ 8) && decide (1 ≤ p.steps.length) && decide (p.steps.length ≤ 16) && decide (p.acts.length ≤ 16) && decide (p.tabs.length ≤ 8) &&
  p.heads.all headB && wdsB p.metas 16 && namesL p && dstL p.emit p.heads.length && allN (fun i => atD (actL p i) p.acts i) p.acts.length && p.steps.all (stepL p) && !cycL p.steps && p.tabs.all (tabL p) && inssL p (-1) p.control) from rfl)
 have hH := hide (fun W hW => heads_any A1 c1 p.heads W (hP W hW).heads)
 have hW := hide (fun W hW => mayWidths_any A2 c2 p.metas 16 W (hP W hW).metas)
 have hN := hide (fun W hW => mayNames_any A1 A2 A3 A4 A5 A6 A7 A8 A9 A10 A11 A12 p c1 c2 c3 c4 c5 c6 c7 c8 c9 c10 c11 c12 W (hP W hW))
 have hD := hide (fun W hW => distinct_any A7 c7 p.emit p.heads.length W (hP W hW).emit)
 have hS := hide (fun W hW lx Y => steps_any A1 A2 A3 A4 A5 A6 A7 A8 A9 A10 A11 A12 p c1 c2 c3 c4 c5 c6 c7 c8 c9 c10 c11 c12 w.heap.size W (hP W hW) lx Y)
 have hT := hide (fun W hW lx Y => tabs_any A1 A2 A3 A4 A5 A6 A7 A8 A9 A10 A11 A12 p c1 c2 c3 c4 c5 c6 c7 c8 c9 c10 c11 c12 w.heap.size W (hP W hW) lx Y)
 have hI := hide (fun W hW => mayInsts_any A1 A2 A3 A4 A5 A6 A7 A8 A9 A10 A11 A12 p c1 c2 c3 c4 c5 c6 c7 c8 c9 c10 c11 c12 (-1) p.control A6 c6 W (hP W hW) (hP W hW).control)
 have hC := hide (fun W hW hg hb => cyclic_any p.steps A3 c3 W (hP W hW).steps hg hb)
 have hIa := hide (fun act l A c W hW hL => mayInsts_any A1 A2 A3 A4 A5 A6 A7 A8 A9 A10 A11 A12 p c1 c2 c3 c4 c5 c6 c7 c8 c9 c10 c11 c12 act l A c W (hP W hW) hL)
 have hP' := hide hP
 have Y := hide hcz
 have hgo := hide (fun W (hW : Below wz.heap.size wz W) => hbz.trans (hW.mono hbz.size))
 obtain ⟨y0, y1, y2, y3, y4, y5, y6, y7, y8, y9, y10, y11⟩ := row12 hcz
 replace hsz := hide hsz
 clear hcz hbz h hP
 go_enter Tryz.func8, Tryz.ntmps8
 go_upto_region 1 with fail
 generalize hmn : (decide (p.heads.length ≤ 8) && decide (1 ≤ p.steps.length) && decide (p.steps.length ≤ 16) && decide (p.acts.length ≤ 16) && decide (p.tabs.length ≤ 8)) = mn at hv
 go_cut [3] (fun u wx => u = .bool mn ∧ wx = wz)
 case first =>
  go_wp2
  all_goals go_meet
  all_goals refine ⟨congrArg Value.bool ?_, rfl⟩
  all_goals clear hv hH hW hN hD hS hT hI hC hP' Y hgo y0 y1 y2 y3 y4 y5 y6 y7 y8 y9 y10 y11
  all_goals (rw [← hmn, Bool.eq_iff_iff]; simp only [Bool.and_eq_true, decide_eq_true_eq, Bool.false_eq_true, eq_self_iff_true, true_iff, false_iff]; try omega)
 case rest =>
  obtain ⟨rfl, hcx⟩ := hcut
  replace hcx := hcx.symm
  subst hcx
  clear hmn
  generalize p.heads.all headB = H at hH hv
  generalize wdsB p.metas 16 = W at hW hv
  generalize namesL p = N at hN hv
  generalize dstL p.emit p.heads.length = D at hD hv
  cases mn with
  | false =>
   rw [Bool.false_and, Bool.false_and, Bool.false_and, Bool.false_and, Bool.false_and, Bool.false_and, Bool.false_and, Bool.false_and, Bool.false_and] at hv
   go_wp2
   go_ret
   exact ⟨ret_b hv.out.symm, hgo.out _ (Below.refl _ _)⟩
  | true =>
   rw [Bool.true_and] at hv
   cases H with
   | false =>
    rw [Bool.false_and, Bool.false_and, Bool.false_and, Bool.false_and, Bool.false_and, Bool.false_and, Bool.false_and, Bool.false_and] at hv
    go_wp2_with (go_at_call 22; refine (hH.out _ (Below.refl _ _)).mono ?_; rintro e w3 ⟨rfl, hb3⟩; obtain ⟨t0, t1, t2, t3, t4, t5, t6, t7, t8, t9, t10, t11⟩ := row12 fun i => (hb3.cell (p := ⟨w.heap.size, i, none⟩) lx).trans (Y.out i); have tl := Nat.lt_of_lt_of_le lx hb3.size)
    go_ret
    exact ⟨ret_b hv.out.symm, hgo.out _ hb3⟩
   | true =>
    rw [Bool.true_and] at hv
    cases W with
    | false =>
     rw [Bool.false_and, Bool.false_and, Bool.false_and, Bool.false_and, Bool.false_and, Bool.false_and, Bool.false_and] at hv
     go_wp2_with (first | (go_at_call 22; refine (hH.out _ (Below.refl _ _)).mono ?_; rintro e w3 ⟨rfl, hb3⟩; obtain ⟨t0, t1, t2, t3, t4, t5, t6, t7, t8, t9, t10, t11⟩ := row12 fun i => (hb3.cell (p := ⟨w.heap.size, i, none⟩) lx).trans (Y.out i); have tl := Nat.lt_of_lt_of_le lx hb3.size) | (go_at_call 25; refine (hW.out _ hb3).mono ?_; rintro e w4 ⟨rfl, hb4'⟩; have hb4 := hb3.trans (hb4'.mono hb3.size); obtain ⟨u0, u1, u2, u3, u4, u5, u6, u7, u8, u9, u10, u11⟩ := row12 fun i => (hb4.cell (p := ⟨w.heap.size, i, none⟩) lx).trans (Y.out i); have ul := Nat.lt_of_lt_of_le lx hb4.size))
     go_ret
     exact ⟨ret_b hv.out.symm, hgo.out _ hb4⟩
    | true =>
     rw [Bool.true_and] at hv
     cases N with
     | false =>
      rw [Bool.false_and, Bool.false_and, Bool.false_and, Bool.false_and, Bool.false_and, Bool.false_and] at hv
      go_wp2_with (first | (go_at_call 22; refine (hH.out _ (Below.refl _ _)).mono ?_; rintro e w3 ⟨rfl, hb3⟩; obtain ⟨t0, t1, t2, t3, t4, t5, t6, t7, t8, t9, t10, t11⟩ := row12 fun i => (hb3.cell (p := ⟨w.heap.size, i, none⟩) lx).trans (Y.out i); have tl := Nat.lt_of_lt_of_le lx hb3.size) | (go_at_call 25; refine (hW.out _ hb3).mono ?_; rintro e w4 ⟨rfl, hb4'⟩; have hb4 := hb3.trans (hb4'.mono hb3.size); obtain ⟨u0, u1, u2, u3, u4, u5, u6, u7, u8, u9, u10, u11⟩ := row12 fun i => (hb4.cell (p := ⟨w.heap.size, i, none⟩) lx).trans (Y.out i); have ul := Nat.lt_of_lt_of_le lx hb4.size) | (go_at_call 26; refine (hN.out _ hb4).mono ?_; rintro e w5 ⟨rfl, hb5'⟩; have hb5 := hb4.trans (hb5'.mono hb4.size); obtain ⟨v0, v1, v2, v3, v4, v5, v6, v7, v8, v9, v10, v11⟩ := row12 fun i => (hb5.cell (p := ⟨w.heap.size, i, none⟩) lx).trans (Y.out i); have vl := Nat.lt_of_lt_of_le lx hb5.size))
      go_ret
      exact ⟨ret_b hv.out.symm, hgo.out _ hb5⟩
     | true =>
      rw [Bool.true_and] at hv
      cases D with
      | false =>
       rw [Bool.false_and, Bool.false_and, Bool.false_and, Bool.false_and, Bool.false_and] at hv
       go_wp2_with (first | (go_at_call 22; refine (hH.out _ (Below.refl _ _)).mono ?_; rintro e w3 ⟨rfl, hb3⟩; obtain ⟨t0, t1, t2, t3, t4, t5, t6, t7, t8, t9, t10, t11⟩ := row12 fun i => (hb3.cell (p := ⟨w.heap.size, i, none⟩) lx).trans (Y.out i); have tl := Nat.lt_of_lt_of_le lx hb3.size) | (go_at_call 25; refine (hW.out _ hb3).mono ?_; rintro e w4 ⟨rfl, hb4'⟩; have hb4 := hb3.trans (hb4'.mono hb3.size); obtain ⟨u0, u1, u2, u3, u4, u5, u6, u7, u8, u9, u10, u11⟩ := row12 fun i => (hb4.cell (p := ⟨w.heap.size, i, none⟩) lx).trans (Y.out i); have ul := Nat.lt_of_lt_of_le lx hb4.size) | (go_at_call 26; refine (hN.out _ hb4).mono ?_; rintro e w5 ⟨rfl, hb5'⟩; have hb5 := hb4.trans (hb5'.mono hb4.size); obtain ⟨v0, v1, v2, v3, v4, v5, v6, v7, v8, v9, v10, v11⟩ := row12 fun i => (hb5.cell (p := ⟨w.heap.size, i, none⟩) lx).trans (Y.out i); have vl := Nat.lt_of_lt_of_le lx hb5.size) | (go_at_call 27; refine (hD.out _ hb5).mono ?_; rintro e w' ⟨rfl, rfl⟩))
       go_ret
       exact ⟨ret_b hv.out.symm, hgo.out _ hb5⟩
      | true =>
       rw [Bool.true_and] at hv
       go_upto_region 4 with (first | (go_at_call 22; refine (hH.out _ (Below.refl _ _)).mono ?_; rintro e w3 ⟨rfl, hb3⟩; obtain ⟨t0, t1, t2, t3, t4, t5, t6, t7, t8, t9, t10, t11⟩ := row12 fun i => (hb3.cell (p := ⟨w.heap.size, i, none⟩) lx).trans (Y.out i); have tl := Nat.lt_of_lt_of_le lx hb3.size) | (go_at_call 25; refine (hW.out _ hb3).mono ?_; rintro e w4 ⟨rfl, hb4'⟩; have hb4 := hb3.trans (hb4'.mono hb3.size); obtain ⟨u0, u1, u2, u3, u4, u5, u6, u7, u8, u9, u10, u11⟩ := row12 fun i => (hb4.cell (p := ⟨w.heap.size, i, none⟩) lx).trans (Y.out i); have ul := Nat.lt_of_lt_of_le lx hb4.size) | (go_at_call 26; refine (hN.out _ hb4).mono ?_; rintro e w5 ⟨rfl, hb5'⟩; have hb5 := hb4.trans (hb5'.mono hb4.size); obtain ⟨v0, v1, v2, v3, v4, v5, v6, v7, v8, v9, v10, v11⟩ := row12 fun i => (hb5.cell (p := ⟨w.heap.size, i, none⟩) lx).trans (Y.out i); have vl := Nat.lt_of_lt_of_le lx hb5.size) | (go_at_call 27; refine (hD.out _ hb5).mono ?_; rintro e w' ⟨rfl, rfl⟩))
       generalize hF : (fun i => atD (actL p i) p.acts i) = F at hv
       generalize hSt : p.steps.all (stepL p) = St at hS hv
       generalize cycL p.steps = Cy at hC hv
       generalize p.tabs.all (tabL p) = Tb at hT hv
       generalize inssL p (-1) p.control = In at hI hv
       clear y0 y1 y2 y3 y4 y5 y6 y7 y8 y9 y10 y11 hH hW hN hD
       replace hb5 := hide hb5
       replace hF := hide hF
       replace hSt := hide hSt
       go_wp2
       go_loopw [4, 5, 65] (fun _ _ i wr => ∃ k : Nat, k ≤ p.acts.length ∧ i = .int .i64 k ∧ Hid (allN F k = true) ∧ Hid (Below wz.heap.size wz wr)) (fun _ _ i _ => p.acts.length - (intOf i).toNat)
       case atStart => exact ⟨0, Nat.zero_le _, rfl, hide rfl, hb5⟩
       case round =>
        obtain ⟨k, hk, rfl, hcn, hG⟩ := hrel
        have hzr := hG.out.size
        have lr := Nat.lt_of_lt_of_le lx hzr
        clear v0 v1 v2 v3 v4 v5 v6 v7 v8 v9 v10 v11
        by_cases hlt : k < p.acts.length
        ·have hkz : (k : Int) < (p.acts.length : Int) := by omega
         obtain ⟨b, o, A', B', ca, cb, hAe, hb, n0, n1, hE1, hE2⟩ := (hP'.out wr hG.out).acts.act hlt
         subst hAe
         have hFk : F k = (wdsB p.acts[k].params 8 && inssL p k p.acts[k].body) := by rw [← hF.out]; simp only [atD_at _ hlt]; rfl
         have hNx := hide (fun (g : F k = true) => show allN F (k + 1) = true from by rw [allN, hcn.out, g]; rfl)
         have hlo := hide (fun (g : F k = false) => show allN F p.acts.length = false from allN_no hlt g)
         generalize p.acts[k] = x at n0 n1 hE1 hE2 hFk
         obtain ⟨ps, body⟩ := x
         simp only at n0 n1 hE1 hE2 hFk
         have lps := hE1.len
         have lbd := hE2.len
         obtain ⟨wn, hwn, hsn, hbn, hcl, -⟩ := box1 wr #[.slice A' ps.length ca, .slice B' body.length cb] 54
         have m0 : wn.cell? ⟨wr.heap.size, 0, none⟩ = some (.slice A' ps.length ca) := hcl 0
         have m1 : wn.cell? ⟨wr.heap.size, 1, none⟩ = some (.slice B' body.length cb) := hcl 1
         have hGn : Below wz.heap.size wz wn := hG.out.trans (hbn.mono hzr)
         have lw1 : w.heap.size < wn.heap.size := Nat.lt_of_lt_of_le lr hbn.size
         have lw2 : wr.heap.size < wn.heap.size := by omega
         obtain ⟨y0, y1, y2, y3, y4, y5, y6, y7, y8, y9, y10, y11⟩ := row12 fun i => (hGn.cell (p := ⟨w.heap.size, i, none⟩) lx).trans (Y.out i)
         have hW8 := mayWidths_any A' ca ps 8 wn ((hE1.below sta_int hbn).more sta_int hbn.size)
         have hE2n := (hE2.below sta_ins hbn).more sta_ins hbn.size
         have hI8 := fun W (hW : Below wn.heap.size wn W) => hIa.out k body B' cb W (hGn.trans (hW.mono hGn.size)) ((hE2n.below sta_ins hW).more sta_ins hW.size)
         generalize wdsB ps 8 = W1 at hW8 hFk
         generalize inssL p k body = I1 at hI8 hFk
         replace hW8 := hide hW8
         replace hI8 := hide hI8
         replace hGn := hide hGn
         replace hsn := hide hsn
         clear hcl hbn hE1 hE2 hE2n
         cases W1 with
         | false =>
          rw [Bool.false_and] at hFk
          rw [hlo.out hFk, Bool.false_and, Bool.false_and, Bool.false_and, Bool.false_and] at hv
          replace hFk := hide hFk
          go_wp2_with (go_at_call 25; refine hW8.out.mono ?_; rintro e w6 ⟨rfl, hb6⟩)
          go_ret
          exact ⟨ret_b hv.out.symm, hgo.out _ (hGn.out.trans (hb6.mono hGn.out.size))⟩
         | true =>
          rw [Bool.true_and] at hFk
          cases I1 with
          | false =>
           rw [hlo.out hFk, Bool.false_and, Bool.false_and, Bool.false_and, Bool.false_and] at hv
           replace hFk := hide hFk
           go_wp2_with (first | (go_at_call 25; refine hW8.out.mono ?_; rintro e w6 ⟨rfl, hb6⟩; have q1 := (hb6.cell (p := ⟨wr.heap.size, 1, none⟩) lw2).trans m1; have ll6 := Nat.lt_of_lt_of_le lw2 hb6.size; have lm6 := Nat.lt_of_lt_of_le lw1 hb6.size; have hB6 := hGn.out.trans (hb6.mono hGn.out.size); obtain ⟨t0, t1, t2, t3, t4, t5, t6, t7, t8, t9, t10, t11⟩ := row12 fun i => (hB6.cell (p := ⟨w.heap.size, i, none⟩) lx).trans (Y.out i)) | (go_at_call 28; refine (hI8.out _ hb6).mono ?_; rintro e w7 ⟨rfl, hb7'⟩; have hb7 := hb6.trans (hb7'.mono hb6.size)))
           go_ret
           exact ⟨ret_b hv.out.symm, hgo.out _ (hGn.out.trans (hb7.mono hGn.out.size))⟩
          | true =>
           replace hNx := hide (hNx.out hFk)
           replace hFk := hide hFk
           go_wp2_with (first | (go_at_call 25; refine hW8.out.mono ?_; rintro e w6 ⟨rfl, hb6⟩; have q1 := (hb6.cell (p := ⟨wr.heap.size, 1, none⟩) lw2).trans m1; have ll6 := Nat.lt_of_lt_of_le lw2 hb6.size; have lm6 := Nat.lt_of_lt_of_le lw1 hb6.size; have hB6 := hGn.out.trans (hb6.mono hGn.out.size); obtain ⟨t0, t1, t2, t3, t4, t5, t6, t7, t8, t9, t10, t11⟩ := row12 fun i => (hB6.cell (p := ⟨w.heap.size, i, none⟩) lx).trans (Y.out i)) | (go_at_call 28; refine (hI8.out _ hb6).mono ?_; rintro e w7 ⟨rfl, hb7'⟩; have hb7 := hb6.trans (hb7'.mono hb6.size)))
           go_roundw
           case rel => exact ⟨k + 1, by omega, by go_num, hNx, hide (hGn.out.trans (hb7.mono hGn.out.size))⟩
           case measure => simp [intOf]; omega
        ·have hke : k = p.acts.length := by omega
         rw [hke] at hcn
         rw [hcn.out, Bool.true_and] at hv
         obtain ⟨y0, y1, y2, y3, y4, y5, y6, y7, y8, y9, y10, y11⟩ := row12 fun i => (hG.out.cell (p := ⟨w.heap.size, i, none⟩) lx).trans (Y.out i)
         cases St with
         | false =>
          rw [Bool.false_and, Bool.false_and, Bool.false_and] at hv
          go_wp2_with (go_at_call 29; refine (hS.out _ hG.out (Nat.lt_of_lt_of_le lx hG.out.size) (fun i => (hG.out.cell (p := ⟨w.heap.size, i, none⟩) lx).trans (Y.out i))).mono ?_; rintro e w6 ⟨rfl, hb6'⟩; have hb6 := hG.out.trans (hb6'.mono hG.out.size); obtain ⟨t0, t1, t2, t3, t4, t5, t6, t7, t8, t9, t10, t11⟩ := row12 fun i => (hb6.cell (p := ⟨w.heap.size, i, none⟩) lx).trans (Y.out i); have ll6 := Nat.lt_of_lt_of_le lx hb6.size)
          go_ret
          exact ⟨ret_b hv.out.symm, hgo.out _ hb6⟩
         | true =>
          rw [Bool.true_and] at hv
          replace hC := hide (fun W hW => hC.out W hW (graph_lt p hSt.out) (brs_few hSt.out))
          cases Cy with
          | true =>
           rw [Bool.not_true, Bool.false_and, Bool.false_and] at hv
           go_wp2_with (first | (go_at_call 29; refine (hS.out _ hG.out (Nat.lt_of_lt_of_le lx hG.out.size) (fun i => (hG.out.cell (p := ⟨w.heap.size, i, none⟩) lx).trans (Y.out i))).mono ?_; rintro e w6 ⟨rfl, hb6'⟩; have hb6 := hG.out.trans (hb6'.mono hG.out.size); obtain ⟨t0, t1, t2, t3, t4, t5, t6, t7, t8, t9, t10, t11⟩ := row12 fun i => (hb6.cell (p := ⟨w.heap.size, i, none⟩) lx).trans (Y.out i); have ll6 := Nat.lt_of_lt_of_le lx hb6.size) | (go_at_call 32; refine (hC.out _ hb6).mono ?_; rintro e w7 ⟨rfl, hb7'⟩; have hb7 := hb6.trans (hb7'.mono hb6.size); obtain ⟨u0, u1, u2, u3, u4, u5, u6, u7, u8, u9, u10, u11⟩ := row12 fun i => (hb7.cell (p := ⟨w.heap.size, i, none⟩) lx).trans (Y.out i); have ll7 := Nat.lt_of_lt_of_le lx hb7.size))
           go_ret
           exact ⟨ret_b hv.out.symm, hgo.out _ hb7⟩
          | false =>
           rw [Bool.not_false, Bool.true_and] at hv
           cases Tb with
           | false =>
            rw [Bool.false_and] at hv
            go_wp2_with (first | (go_at_call 29; refine (hS.out _ hG.out (Nat.lt_of_lt_of_le lx hG.out.size) (fun i => (hG.out.cell (p := ⟨w.heap.size, i, none⟩) lx).trans (Y.out i))).mono ?_; rintro e w6 ⟨rfl, hb6'⟩; have hb6 := hG.out.trans (hb6'.mono hG.out.size); obtain ⟨t0, t1, t2, t3, t4, t5, t6, t7, t8, t9, t10, t11⟩ := row12 fun i => (hb6.cell (p := ⟨w.heap.size, i, none⟩) lx).trans (Y.out i); have ll6 := Nat.lt_of_lt_of_le lx hb6.size) | (go_at_call 32; refine (hC.out _ hb6).mono ?_; rintro e w7 ⟨rfl, hb7'⟩; have hb7 := hb6.trans (hb7'.mono hb6.size); obtain ⟨u0, u1, u2, u3, u4, u5, u6, u7, u8, u9, u10, u11⟩ := row12 fun i => (hb7.cell (p := ⟨w.heap.size, i, none⟩) lx).trans (Y.out i); have ll7 := Nat.lt_of_lt_of_le lx hb7.size) | (go_at_call 33; refine (hT.out _ hb7 (Nat.lt_of_lt_of_le lx hb7.size) (fun i => (hb7.cell (p := ⟨w.heap.size, i, none⟩) lx).trans (Y.out i))).mono ?_; rintro e w8 ⟨rfl, hb8'⟩; have hb8 := hb7.trans (hb8'.mono hb7.size); obtain ⟨v0, v1, v2, v3, v4, v5, v6, v7, v8, v9, v10, v11⟩ := row12 fun i => (hb8.cell (p := ⟨w.heap.size, i, none⟩) lx).trans (Y.out i); have ll8 := Nat.lt_of_lt_of_le lx hb8.size))
            go_ret
            exact ⟨ret_b hv.out.symm, hgo.out _ hb8⟩
           | true =>
            rw [Bool.true_and] at hv
            go_wp2_with (first | (go_at_call 29; refine (hS.out _ hG.out (Nat.lt_of_lt_of_le lx hG.out.size) (fun i => (hG.out.cell (p := ⟨w.heap.size, i, none⟩) lx).trans (Y.out i))).mono ?_; rintro e w6 ⟨rfl, hb6'⟩; have hb6 := hG.out.trans (hb6'.mono hG.out.size); obtain ⟨t0, t1, t2, t3, t4, t5, t6, t7, t8, t9, t10, t11⟩ := row12 fun i => (hb6.cell (p := ⟨w.heap.size, i, none⟩) lx).trans (Y.out i); have ll6 := Nat.lt_of_lt_of_le lx hb6.size) | (go_at_call 32; refine (hC.out _ hb6).mono ?_; rintro e w7 ⟨rfl, hb7'⟩; have hb7 := hb6.trans (hb7'.mono hb6.size); obtain ⟨u0, u1, u2, u3, u4, u5, u6, u7, u8, u9, u10, u11⟩ := row12 fun i => (hb7.cell (p := ⟨w.heap.size, i, none⟩) lx).trans (Y.out i); have ll7 := Nat.lt_of_lt_of_le lx hb7.size) | (go_at_call 33; refine (hT.out _ hb7 (Nat.lt_of_lt_of_le lx hb7.size) (fun i => (hb7.cell (p := ⟨w.heap.size, i, none⟩) lx).trans (Y.out i))).mono ?_; rintro e w8 ⟨rfl, hb8'⟩; have hb8 := hb7.trans (hb8'.mono hb7.size); obtain ⟨v0, v1, v2, v3, v4, v5, v6, v7, v8, v9, v10, v11⟩ := row12 fun i => (hb8.cell (p := ⟨w.heap.size, i, none⟩) lx).trans (Y.out i); have ll8 := Nat.lt_of_lt_of_le lx hb8.size) | (go_at_call 28; refine (hI.out _ hb8).mono ?_; rintro e w9 ⟨rfl, hb9'⟩; have hb9 := hb8.trans (hb9'.mono hb8.size)))
            go_ret
            exact ⟨ret_b hv.out.symm, hgo.out _ hb9⟩
end Go.Proofs.YtmfpbahifhndjaaGreat

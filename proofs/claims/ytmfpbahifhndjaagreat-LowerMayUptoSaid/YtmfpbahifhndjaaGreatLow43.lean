import Derived.Test.YtmfpbahifhndjaaGreatLow31
import Derived.Test.YtmfpbahifhndjaaGreatLow40
import Derived.Test.YtmfpbahifhndjaaGreatLow42
set_option linter.all false
/-! Layer 10: a step, the document's. -/
set_option linter.all false
namespace Go.Proofs.YtmfpbahifhndjaaGreat
open Go.RowKit
theorem Sl.pat {w : World} {B : Nat} {A : Option Addr} {xs : List Pt} (h : Sl 4 rPt w B A xs) {i : Nat} (hi : i < xs.length) : ∃ b o, A = some ⟨b, o, none⟩ ∧ b < B ∧ w.cell? ⟨b, o + i * 4, none⟩ = some (.int .u64 xs[i].vh) ∧ w.cell? ⟨b, o + i * 4 + 1, none⟩ = some (.int .u64 xs[i].vl) ∧ w.cell? ⟨b, o + i * 4 + 2, none⟩ = some (.int .u64 xs[i].mh) ∧ w.cell? ⟨b, o + i * 4 + 3, none⟩ = some (.int .u64 xs[i].ml) ∧ (u64 xs[i].vh ∧ u64 xs[i].vl ∧ u64 xs[i].mh ∧ u64 xs[i].ml) := by
 obtain ⟨b, o, ecs, hA, hb, hl, hc, rfl, h1⟩ := h.2 i xs[i] (List.getElem?_eq_getElem hi)
 exact ⟨b, o, hA, hb, hc 0 _ rfl, hc 1 _ rfl, hc 2 _ rfl, hc 3 _ rfl, h1⟩
set_option maxRecDepth 100000 in
set_option maxHeartbeats 8000000 in
theorem rmayStep_any (A1 A2 A3 A4 A5 A6 A7 A8 A9 A10 A11 A12 : Option Addr) (p : Lp) (c1 c2 c3 c4 c5 c6 c7 c8 c9 c10 c11 c12 : Nat) (s : Stp) (P1 P2 P3 : Option Addr) (d1 d2 d3 : Nat) (w : World) (h : LpS w w.heap.size A1 A2 A3 A4 A5 A6 A7 A8 A9 A10 A11 A12 p) (h1 : Sl 1 rInt w w.heap.size P1 s.takes) (h2 : Sl 1 rCd w w.heap.size P2 s.keys) (h3 : Sl 2 rBr w w.heap.size P3 s.brs) :
  Calls Tryz.prog 40 #[.agg #[.slice A1 p.heads.length c1, .slice A2 p.metas.length c2, .slice A3 p.steps.length c3, .slice A4 p.acts.length c4, .slice A5 p.tabs.length c5, .slice A6 p.control.length c6, .slice A7 p.emit.length c7, .slice A8 p.nh.length c8, .slice A9 p.nf.length c9, .slice A10 p.nm.length c10, .slice A11 p.na.length c11, .slice A12 p.nt.length c12], .agg #[.slice P1 s.takes.length d1, .slice P2 s.keys.length d2, .slice P3 s.brs.length d3, .int .i64 s.to]] w fun e w' => e = .returned (.bool (stepR p s)) ∧ Below w.heap.size w w' := by
 obtain ⟨takes, ks, brs, tt⟩ := s
 simp only at h1 h2 h3 ⊢
 have lt1 := h1.len
 have lt2 := h2.len
 have lt3 := h3.len
 have ls := h.steps.len
 have lh := h.heads.len
 obtain ⟨wz, hwz, hsz, hbz, hcz, -⟩ := box1 w #[.slice A1 p.heads.length c1, .slice A2 p.metas.length c2, .slice A3 p.steps.length c3, .slice A4 p.acts.length c4, .slice A5 p.tabs.length c5, .slice A6 p.control.length c6, .slice A7 p.emit.length c7, .slice A8 p.nh.length c8, .slice A9 p.nf.length c9, .slice A10 p.nm.length c10, .slice A11 p.na.length c11, .slice A12 p.nt.length c12] 33
 obtain ⟨wa, hwa, hsa, hba, hca, -⟩ := box1 wz #[.slice P1 takes.length d1, .slice P2 ks.length d2, .slice P3 brs.length d3, .int .i64 tt] 49
 have k0 : w.heap.size < wz.heap.size := by omega
 obtain ⟨y0, y1, y2, y3, y4, y5, y6, y7, y8, y9, y10, y11⟩ := row12 fun i => (hba.cell (p := ⟨w.heap.size, i, none⟩) k0).trans (hcz i)
 rw [hsz] at hca
 have x0 : wa.cell? ⟨w.heap.size + 1, 0, none⟩ = some (.slice P1 takes.length d1) := hca 0
 have x1 : wa.cell? ⟨w.heap.size + 1, 1, none⟩ = some (.slice P2 ks.length d2) := hca 1
 have x2 : wa.cell? ⟨w.heap.size + 1, 2, none⟩ = some (.slice P3 brs.length d3) := hca 2
 have x3 : wa.cell? ⟨w.heap.size + 1, 3, none⟩ = some (.int .i64 tt) := hca 3
 have hl1 : w.heap.size < wa.heap.size := by omega
 have hl2 : w.heap.size + 1 < wa.heap.size := by omega
 have hw : Below w.heap.size w wa := hbz.trans (hba.mono (by omega))
 have hP := hide ((h.below hw).more (B' := wa.heap.size) hw.size)
 have hT := hide ((h1.below sta_int hw).more (B' := wa.heap.size) sta_int hw.size)
 have hK := hide ((h2.below sta_cd hw).more (B' := wa.heap.size) sta_cd hw.size)
 have hB := hide ((h3.below sta_br hw).more (B' := wa.heap.size) sta_br hw.size)
 have hv := hide (show stepR p ⟨takes, ks, brs, tt⟩ = (decide (takes.length ≤ 8) && decide (ks.length ≤ 4) && toB p tt && allN (atD (inB p.heads.length) takes) takes.length && (if ks.length = 0 then decide (brs.length = 0) else
  decide (tt = 0) && decide (1 ≤ brs.length) && decide (brs.length ≤ 16) && allN (keyR p ⟨takes, ks, brs, tt⟩) ks.length)) from rfl)
 replace hw := hide hw
 replace hsa := hide hsa
 clear hca hcz hba hbz h h1 h2 h3
 go_enter Tryz.func40, Tryz.ntmps40
 by_cases a1 : takes.length ≤ 8
 ·have a1z : ¬ (8 : Int) < (takes.length : Int) := by omega
  rw [decide_eq_true a1, Bool.true_and] at hv
  by_cases a2 : ks.length ≤ 4
  ·have a2z : ¬ (4 : Int) < (ks.length : Int) := by omega
   rw [decide_eq_true a2, Bool.true_and] at hv
   by_cases a3 : tt < -2
   ·rw [show toB p tt = false from by unfold toB; rw [decide_eq_false (show ¬ (-2 : Int) ≤ tt by omega)]; rfl, Bool.false_and, Bool.false_and] at hv
    go_wp2
    go_ret
    exact ⟨ret_b hv.out.symm, hw.out⟩
   ·by_cases a4 : (p.steps.length : Int) ≤ tt
    ·rw [show toB p tt = false from by unfold toB; rw [decide_eq_false (show ¬ tt < (p.steps.length : Int) by omega), Bool.and_false], Bool.false_and, Bool.false_and] at hv
     go_wp2
     go_ret
     exact ⟨ret_b hv.out.symm, hw.out⟩
    ·rw [show toB p tt = true from by unfold toB; rw [decide_eq_true (show (-2 : Int) ≤ tt by omega), decide_eq_true (show tt < (p.steps.length : Int) by omega)]; rfl, Bool.true_and] at hv
     go_wp2
     go_loopw [5] (fun i wr => ∃ k : Nat, k ≤ takes.length ∧ i = .int .i64 k ∧ Hid (allN (atD (inB p.heads.length) takes) k = true) ∧ Hid (Below wa.heap.size wa wr)) (fun i _ => takes.length - (intOf i).toNat)
     case atStart => exact ⟨0, Nat.zero_le _, rfl, hide rfl, hide (Below.refl _ _)⟩
     case round =>
      obtain ⟨k, hk, rfl, hcn, hG⟩ := hrel
      have kbr := bcell' hG.out
      have hzr := hG.out.size
      have r0 := (kbr.1 _ 0 hl1).trans y0
      have r2 := (kbr.1 _ 2 hl1).trans y2
      have q0 := (kbr.1 _ 0 hl2).trans x0
      have q1 := (kbr.1 _ 1 hl2).trans x1
      have q2 := (kbr.1 _ 2 hl2).trans x2
      have q3 := (kbr.1 _ 3 hl2).trans x3
      by_cases hlt : k < takes.length
      ·have hkz : (k : Int) < (takes.length : Int) := by omega
       obtain ⟨b, o, hA1, hb, hcell⟩ := hT.out.int hlt
       subst hA1
       have n0 := (kbr.1 _ (o + k) hb).trans hcell
       have hN := hide (fun (g : inB p.heads.length takes[k] = true) => show allN (atD (inB p.heads.length) takes) (k + 1) = true from by rw [allN, hcn.out, atD_at _ hlt, g]; rfl)
       have hlo := hide (fun (g : inB p.heads.length takes[k] = false) => show allN (atD (inB p.heads.length) takes) takes.length = false from allN_no hlt (by rw [atD_at _ hlt]; exact g))
       have hwd := hide (fun m => hw.out.trans ((hG.out.trans (below_drewN ((Below.refl wr.heap.size wr).mono hzr) m)).mono hw.out.size))
       have hgd := hide (fun m => hG.out.trans (below_drewN ((Below.refl wr.heap.size wr).mono hzr) m))
       generalize takes[k] = x at hcell n0 hN hlo
       clear kbr x0 x1 x2 x3 y0 y1 y2 y3 y4 y5 y6 y7 y8 y9 y10 y11 hcell
       by_cases c1 : x < 0
       ·have c1z : decide (x < 0) = true := decide_eq_true c1
        rw [hlo.out (inB_no (by omega)), Bool.false_and] at hv
        go_wp2_with fail
        go_quiet (fail)
        go_wp2
        go_ret
        exact ⟨ret_b hv.out.symm, hwd.out _⟩
       ·have c1z : decide (x < 0) = false := decide_eq_false c1
        by_cases c2 : (p.heads.length : Int) ≤ x
        ·have c2z : decide ((p.heads.length : Int) ≤ x) = true := decide_eq_true c2
         rw [hlo.out (inB_no (by omega)), Bool.false_and] at hv
         go_wp2_with fail
         go_quiet (fail)
         go_wp2
         go_ret
         exact ⟨ret_b hv.out.symm, hwd.out _⟩
        ·have c2z : decide ((p.heads.length : Int) ≤ x) = false := decide_eq_false c2
         replace hN := hide (hN.out (by unfold inB; rw [decide_eq_true (show 0 ≤ x by omega), decide_eq_true (show x < (p.heads.length : Int) by omega)]; rfl))
         go_wp2_with fail
         go_quiet (fail)
         go_wp2
         go_roundw
         case rel => exact ⟨k + 1, by omega, by go_num, hN, hide (hgd.out _)⟩
         case measure => simp [intOf]; omega
      ·have hke : k = takes.length := by omega
       subst hke
       rw [hcn.out, Bool.true_and] at hv
       obtain ⟨w2, rfl⟩ : ∃ w2 : World, w2 = wr := ⟨_, rfl⟩
       have r1 := (kbr.1 _ 1 hl1).trans y1
       have r3 := (kbr.1 _ 3 hl1).trans y3
       have r4 := (kbr.1 _ 4 hl1).trans y4
       have r5 := (kbr.1 _ 5 hl1).trans y5
       have r6 := (kbr.1 _ 6 hl1).trans y6
       have r7 := (kbr.1 _ 7 hl1).trans y7
       have r8 := (kbr.1 _ 8 hl1).trans y8
       have r9 := (kbr.1 _ 9 hl1).trans y9
       have r10 := (kbr.1 _ 10 hl1).trans y10
       have r11 := (kbr.1 _ 11 hl1).trans y11
       have m1 := Nat.lt_of_lt_of_le hl1 hzr
       have m2 := Nat.lt_of_lt_of_le hl2 hzr
       have hP2 := hide ((hP.out.below hG.out).more (B' := w2.heap.size) hzr)
       have hK2 := hide ((hK.out.below sta_cd hG.out).more (B' := w2.heap.size) sta_cd hzr)
       have hB2 := hide ((hB.out.below sta_br hG.out).more (B' := w2.heap.size) sta_br hzr)
       have hw2 := hide (hw.out.trans (hG.out.mono hw.out.size))
       clear kbr x0 x1 x2 x3 y0 y1 y2 y3 y4 y5 y6 y7 y8 y9 y10 y11 hP hT hK hB hG hcn
       by_cases b0 : ks.length = 0
       ·have b0z : ((ks.length : Int) == 0) = true := by rw [beq_iff_eq]; omega
        rw [if_pos b0] at hv
        by_cases b1 : brs.length = 0
        ·have b1z : ((brs.length : Int) == 0) = true := by rw [beq_iff_eq]; omega
         rw [decide_eq_true b1] at hv
         replace b0 := hide b0
         replace b1 := hide b1
         go_wp2
         go_ret
         exact ⟨ret_b hv.out.symm, hw2.out⟩
        ·have b1z : ((brs.length : Int) == 0) = false := by rw [beq_eq_false_iff_ne]; omega
         rw [decide_eq_false b1] at hv
         replace b0 := hide b0
         go_wp2
         go_ret
         exact ⟨ret_b hv.out.symm, hw2.out⟩
       ·have b0z : ((ks.length : Int) == 0) = false := by rw [beq_eq_false_iff_ne]; omega
        rw [if_neg b0] at hv
        by_cases b2 : tt = 0
        ·rw [decide_eq_true b2, Bool.true_and] at hv
         subst b2
         by_cases b3 : 1 ≤ brs.length
         ·rw [decide_eq_true b3, Bool.true_and] at hv
          have b3z : ¬ (brs.length : Int) < 1 := by omega
          by_cases b4 : brs.length ≤ 16
          ·rw [decide_eq_true b4, Bool.true_and] at hv
           have b4z : ¬ (16 : Int) < (brs.length : Int) := by omega
           have hkey := hide (fun (k : Nat) (hlt : k < ks.length) => show keyR p ⟨takes, ks, brs, 0⟩ k = (match wdR p (-1) ks[k] with
            | none => false
            | some w => allN (atD (brR p ks.length k w) brs) brs.length) from atD_at (fun c => match wdR p (-1) c with
            | none => false
            | some w => allN (atD (brR p ks.length k w) brs) brs.length) hlt)
           generalize keyR p ⟨takes, ks, brs, 0⟩ = KR at hv hkey
           go_wp2
           go_loopw [6, 7, 8, 9, 10] (fun ki _ _ _ _ wr => ∃ k : Nat, k ≤ ks.length ∧ ki = .int .i64 k ∧ Hid (allN KR k = true) ∧ Hid (Below w2.heap.size w2 wr)) (fun ki _ _ _ _ _ => ks.length - (intOf ki).toNat)
           case atStart => exact ⟨0, Nat.zero_le _, rfl, hide rfl, hide (Below.refl _ _)⟩
           case round =>
            obtain ⟨k, hk, rfl, hcn, hG⟩ := hrel
            have kbr := bcell' hG.out
            have hzr := hG.out.size
            have hgo := hide (fun W (hW : Below wr.heap.size wr W) => hw2.out.trans ((hG.out.trans (hW.mono hzr)).mono hw2.out.size))
            by_cases hlt : k < ks.length
            ·have hkz : (k : Int) < (ks.length : Int) := by omega
             obtain ⟨b, o, A', c', hA1, hb, hcell, hE⟩ := hK2.out.code hlt
             subst hA1
             have hkv := hkey.out k hlt
             have hX : ∀ d os, Hid (Calls Tryz.prog 7 #[.agg #[.slice A1 p.heads.length c1, .slice A2 p.metas.length c2, .slice A3 p.steps.length c3, .slice A4 p.acts.length c4, .slice A5 p.tabs.length c5, .slice A6 p.control.length c6, .slice A7 p.emit.length c7, .slice A8 p.nh.length c8, .slice A9 p.nf.length c9, .slice A10 p.nm.length c10, .slice A11 p.na.length c11, .slice A12 p.nt.length c12], .int .i64 (-1), .slice A' ks[k].length c'] (Go.Sort.grow (redrawn wr d) os) _) := fun d os => hide (rwidth_any A1 A2 A3 A4 A5 A6 A7 A8 A9 A10 A11 A12 p c1 c2 c3 c4 c5 c6 c7 c8 c9 c10 c11 c12 (-1) ks[k] A' c' _ ((hP2.out.below (below_grow hG.out hzr d os)).more (Nat.le_trans hzr (below_regrown wr d os).size)) ((hE.below sta_nd (below_grow hG.out hzr d os)).more sta_nd (Nat.le_trans hzr (below_regrown wr d os).size)))
             have hN := hide (fun (g : KR k = true) => show allN KR (k + 1) = true from by rw [allN, hcn.out, g]; rfl)
             have hlo := hide (fun (g : KR k = false) => show allN KR ks.length = false from allN_no hlt g)
             unfold wdV at hX
             generalize ks[k] = ec at hcell hE hX hkv
             generalize wdR p (-1) ec = D at hX hkv
             have n0 := (kbr.1 _ (o + k) hb).trans hcell
             have u0 := (kbr.1 _ 0 m1).trans r0
             have u1 := (kbr.1 _ 1 m1).trans r1
             have u2 := (kbr.1 _ 2 m1).trans r2
             have u3 := (kbr.1 _ 3 m1).trans r3
             have u4 := (kbr.1 _ 4 m1).trans r4
             have u5 := (kbr.1 _ 5 m1).trans r5
             have u6 := (kbr.1 _ 6 m1).trans r6
             have u7 := (kbr.1 _ 7 m1).trans r7
             have u8 := (kbr.1 _ 8 m1).trans r8
             have u9 := (kbr.1 _ 9 m1).trans r9
             have u10 := (kbr.1 _ 10 m1).trans r10
             have u11 := (kbr.1 _ 11 m1).trans r11
             have v1 := (kbr.1 _ 1 m2).trans q1
             have hgw := gcell' (show Below wr.heap.size wr wr from Below.refl _ _) (Nat.le_refl _)
             have hB1 := Nat.lt_of_lt_of_le m1 hzr
             have hB2' := Nat.lt_of_lt_of_le m2 hzr
             have hB3 := Nat.lt_of_lt_of_le hb hzr
             clear kbr hcell hE
             cases D with
             | none =>
              simp only at hkv
              rw [hlo.out hkv] at hv
              replace hkv := hide hkv
              simp only [Option.getD_none, Option.isSome_none] at hX
              go_wp2_with fail
              refine wp_region_quiet_below (by kernel_rfl) (by kernel_rfl) ?_
              repeat (any_goals (first | go_big_quiet_step ((go_at_call 7; with_reducible exact Calls.regrown_of (hX _ _).out)) | quiet_step ((go_at_call 7; with_reducible exact Calls.regrown_of (hX _ _).out))))
              refine wpQuiet_nil ?_
              intro wq hwq
              replace hwq := below_of_regrown hwq
              go_wp2
              go_ret
              exact ⟨ret_b hv.out.symm, hgo.out _ hwq⟩
             | some y =>
              simp only at hkv
              simp only [Option.getD_some, Option.isSome_some] at hX
              replace hkv := hide hkv
              go_wp2_with fail
              refine wp_region_quiet_below (by kernel_rfl) (by kernel_rfl) ?_
              repeat (any_goals (first | go_big_quiet_step ((go_at_call 7; with_reducible exact Calls.regrown_of (hX _ _).out)) | quiet_step ((go_at_call 7; with_reducible exact Calls.regrown_of (hX _ _).out))))
              refine wpQuiet_nil ?_
              intro wq hwq
              replace hwq := below_of_regrown hwq
              have hGq := hide (hG.out.trans (hwq.mono hzr))
              clear n0 u0 u1 u2 u3 u4 u5 u6 u7 u8 u9 u10 u11 v1 hgw hB1 hB2' hB3 hX hwq
              obtain ⟨w3, rfl⟩ : ∃ w3 : World, w3 = wr := ⟨_, rfl⟩
              have hzq := hGq.out.size
              have kq := bcell' hGq.out
              have s1 := (kq.1 _ 1 m2).trans q1
              have s2 := (kq.1 _ 2 m2).trans q2
              generalize hBR : atD (brR p ks.length k y) brs = BR at hkv
              go_wp2
              go_loopw [9, 10] (fun ii _ wr => ∃ i : Nat, i ≤ brs.length ∧ ii = .int .i64 i ∧ Hid (allN BR i = true) ∧ Hid (Below w2.heap.size w2 wr)) (fun ii _ _ => brs.length - (intOf ii).toNat)
              case atStart => exact ⟨0, Nat.zero_le _, rfl, hide rfl, hGq⟩
              case round =>
               obtain ⟨i, hi, rfl, hci, hI⟩ := hrel
               have kbi := bcell' hI.out
               have hzi := hI.out.size
               have hgi := hide (fun W (hW : Below wr.heap.size wr W) => hw2.out.trans ((hI.out.trans (hW.mono hzi)).mono hw2.out.size))
               have hgI := hide (fun W (hW : Below wr.heap.size wr W) => hI.out.trans (hW.mono hzi))
               have t1 := (kbi.1 _ 1 m2).trans q1
               have t2 := (kbi.1 _ 2 m2).trans q2
               by_cases hlt2 : i < brs.length
               ·have hiz : (i : Int) < (brs.length : Int) := by omega
                obtain ⟨g, og, PA, pc, hA3, hg, g0, g1, hs⟩ := hB2.out.br hlt2
                subst hA3
                have g0' := (kbi.1 _ (og + i * 2) hg).trans g0
                have g1' := (kbi.1 _ (og + i * 2 + 1) hg).trans g1
                have hbv : BR i = brR p ks.length k y brs[i] := by rw [← hBR, atD_at _ hlt2]
                have hNi := hide (fun (g : BR i = true) => show allN BR (i + 1) = true from by rw [allN, hci.out, g]; rfl)
                have hli := hide (fun (g : BR i = false) => hlo.out (hkv.out.trans (allN_no hlt2 g)))
                have hs' := (hs.below sta_pt hI.out).more sta_pt hzi
                generalize brs[i] = br at g0 g1 g0' g1' hbv hs hs'
                obtain ⟨pats, bt⟩ := br
                simp only at g0 g1 g0' g1' hs hs'
                have hbe : BR i = (toB p bt && decide (pats.length = ks.length) && atD (fun x => patB x y) pats k) := hbv
                clear hbv g0 g1 hs
                have lp := hs'.len
                obtain ⟨wn, hwn, hsn, hbn, hcl, -⟩ := box1 wr #[.slice PA pats.length pc, .int .i64 bt] 52
                have z0 : wn.cell? ⟨wr.heap.size, 0, none⟩ = some (.slice PA pats.length pc) := hcl 0
                have z1 : wn.cell? ⟨wr.heap.size, 1, none⟩ = some (.int .i64 bt) := hcl 1
                have z2 := (hbn.cell (p := ⟨w.heap.size, 2, none⟩) (Nat.lt_of_lt_of_le m1 hzi)).trans ((kbi.1 _ 2 m1).trans r2)
                have z3 := (hbn.cell (p := ⟨w.heap.size + 1, 1, none⟩) (Nat.lt_of_lt_of_le m2 hzi)).trans t1
                have hgn := hide (fun W (hW : Below wn.heap.size wn W) => hgi.out W (hbn.trans (hW.mono hbn.size)))
                have hgN := hide (fun W (hW : Below wn.heap.size wn W) => hgI.out W (hbn.trans (hW.mono hbn.size)))
                have hs2 := hide (hs'.below sta_pt hbn)
                replace hsn := hide hsn
                clear hcl hbn hs' kbi
                by_cases c1 : bt < -2
                ·rw [hli.out (by rw [hbe, show toB p bt = false from by unfold toB; rw [decide_eq_false (show ¬ (-2 : Int) ≤ bt by omega)]; rfl, Bool.false_and, Bool.false_and])] at hv
                 replace hbe := hide hbe
                 go_wp2
                 go_ret
                 exact ⟨ret_b hv.out.symm, hgn.out _ (Below.refl _ _)⟩
                ·by_cases c2 : (p.steps.length : Int) ≤ bt
                 ·rw [hli.out (by rw [hbe, show toB p bt = false from by unfold toB; rw [decide_eq_false (show ¬ bt < (p.steps.length : Int) by omega), Bool.and_false], Bool.false_and, Bool.false_and])] at hv
                  replace hbe := hide hbe
                  go_wp2
                  go_ret
                  exact ⟨ret_b hv.out.symm, hgn.out _ (Below.refl _ _)⟩
                 ·rw [show toB p bt = true from by unfold toB; rw [decide_eq_true (show (-2 : Int) ≤ bt by omega), decide_eq_true (show bt < (p.steps.length : Int) by omega)]; rfl, Bool.true_and] at hbe
                  by_cases c3 : pats.length = ks.length
                  ·have hkp : k < pats.length := by omega
                   rw [decide_eq_true c3, Bool.true_and, atD_at _ hkp] at hbe
                   have c3z : ((pats.length : Int) != (ks.length : Int)) = false := by rw [c3]; exact bne_self_eq_false _
                   have hkpz : (k : Int) < (pats.length : Int) := by omega
                   replace c3 := hide c3
                   obtain ⟨g2, o2, hA4, hg2, e0, e1, e2, e3, hu⟩ := hs2.out.pat hkp
                   subst hA4
                   generalize pats[k] = x at e0 e1 e2 e3 hu hbe
                   have hM := rmayPat_any x y wn hu
                   obtain ⟨vh, vl, mh, ml⟩ := x
                   simp only at e0 e1 e2 e3 hM
                   generalize patB ⟨vh, vl, mh, ml⟩ y = z at hM hbe
                   replace hM := hide hM
                   cases z with
                   | false =>
                    rw [hli.out hbe] at hv
                    replace hbe := hide hbe
                    go_wp2_with (go_at_call 73; refine hM.out.mono ?_; rintro e w5 ⟨rfl, hb5⟩)
                    go_ret
                    exact ⟨ret_b hv.out.symm, hgn.out _ hb5⟩
                   | true =>
                    replace hNi := hide (hNi.out hbe)
                    replace hbe := hide hbe
                    go_wp2_with (go_at_call 73; refine hM.out.mono ?_; rintro e w5 ⟨rfl, hb5⟩)
                    go_roundw
                    case rel => exact ⟨i + 1, by omega, by go_num, hNi, hide (hgN.out _ hb5)⟩
                    case measure => simp [intOf]; omega
                  ·have c3z : ((pats.length : Int) != (ks.length : Int)) = true := by rw [bne_iff_ne]; omega
                   rw [hli.out (by rw [hbe, decide_eq_false c3, Bool.false_and])] at hv
                   replace hbe := hide hbe
                   replace c3 := hide c3
                   go_wp2
                   go_ret
                   exact ⟨ret_b hv.out.symm, hgn.out _ (Below.refl _ _)⟩
               ·have hie : i = brs.length := by omega
                subst hie
                replace hN := hide (hN.out (hkv.out.trans hci.out))
                go_wp2
                go_roundw
                case rel => exact ⟨k + 1, by omega, by go_num, hN, hI⟩
                case measure => simp [intOf]; omega
            ·have hke : k = ks.length := by omega
             subst hke
             rw [hcn.out] at hv
             go_wp2
             go_ret
             exact ⟨ret_b hv.out.symm, hgo.out _ (Below.refl _ _)⟩
          ·rw [decide_eq_false b4, Bool.false_and] at hv
           have b4z : (16 : Int) < (brs.length : Int) := by omega
           go_wp2
           go_ret
           exact ⟨ret_b hv.out.symm, hw2.out⟩
         ·rw [decide_eq_false b3, Bool.false_and, Bool.false_and] at hv
          have b3z : (brs.length : Int) < 1 := by omega
          go_wp2
          go_ret
          exact ⟨ret_b hv.out.symm, hw2.out⟩
        ·rw [decide_eq_false b2, Bool.false_and, Bool.false_and, Bool.false_and] at hv
         have b2z : (tt != 0) = true := by simpa using b2
         go_wp2
         go_ret
         exact ⟨ret_b hv.out.symm, hw2.out⟩
  ·have a2z : (4 : Int) < (ks.length : Int) := by omega
   rw [decide_eq_false a2, Bool.false_and, Bool.false_and, Bool.false_and] at hv
   go_wp2
   go_ret
   exact ⟨ret_b hv.out.symm, hw.out⟩
 ·have a1z : (8 : Int) < (takes.length : Int) := by omega
  rw [decide_eq_false a1, Bool.false_and, Bool.false_and, Bool.false_and, Bool.false_and] at hv
  go_wp2
  go_ret
  exact ⟨ret_b hv.out.symm, hw.out⟩
end Go.Proofs.YtmfpbahifhndjaaGreat

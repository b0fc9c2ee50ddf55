import Derived.Test.YtmfpbahifhndjaaGreatLow12
import Derived.Test.YtmfpbahifhndjaaGreatLow31
import Derived.Test.YtmfpbahifhndjaaGreatLow36
import Derived.Test.YtmfpbahifhndjaaGreatLow40
import Derived.Test.YtmfpbahifhndjaaGreatLow42
set_option linter.all false
/-! The document's layer 10: numbers none twice. -/
set_option linter.all false
namespace Go.Proofs.YtmfpbahifhndjaaGreat
open Go.RowKit
theorem Sl.take {α : Type} {R : CR α} {k : Nat} {w : World} {B : Nat} {A : Option Addr} {xs : List α} (h : Sl k R w B A xs) (n : Nat) : Sl k R w B A (xs.take n) := by
 refine ⟨Nat.le_trans (by rw [List.length_take]; omega) h.1, fun i x hx => ?_⟩
 rw [List.getElem?_take] at hx
 split at hx
 ·exact h.2 i x hx
 ·cases hx
set_option maxRecDepth 100000 in
set_option maxHeartbeats 2000000 in
theorem lists_any (A : Option Addr) (cap : Nat) (xs : List Int) (n : Nat) (w : World) (h : Sl 1 rInt w w.heap.size A xs) (hcap : xs.length ≤ cap) :
  Calls Tryz.prog 38 #[.slice A xs.length cap, .int .i64 (n : Int)] w fun e w' => e = .returned (.bool (dstR xs n)) ∧ Below w.heap.size w w' := by
 have hl := h.len
 have hv := hide (show dstR xs n = allN (fun i => atD (fun x => inB n x && !decide (x ∈ xs.take i)) xs i) xs.length from rfl)
 generalize hF : (fun i : Nat => atD (fun x => inB n x && !decide (x ∈ xs.take i)) xs i) = F at hv
 have hI := hide (fun k y m => in10_any A cap (xs.take k) y (w.drewN m) (((h.take k).drewN sta_int m).more sta_int (by simp)))
 go_enter Tryz.func38, Tryz.ntmps38
 go_wp2
 go_loopw [5] (fun i wr => ∃ k : Nat, k ≤ xs.length ∧ i = .int .i64 k ∧ Hid (allN F k = true) ∧ ∃ m, wr = w.drewN m) (fun i _ => xs.length - (intOf i).toNat)
 case atStart => exact ⟨0, Nat.zero_le _, rfl, hide rfl, 0, rfl⟩
 case round =>
  obtain ⟨k, hk, rfl, hc, m, rfl⟩ := hrel
  by_cases hlt : k < xs.length
  ·obtain ⟨b, o, rfl, hb, hcell⟩ := h.int hlt
   have hkz : (k : Int) < (xs.length : Int) := by omega
   have hkc : (k : Int) ≤ (cap : Int) := by omega
   have hFk : F k = (inB n xs[k] && !decide (xs[k] ∈ xs.take k)) := by rw [← hF]; simp only [atD_at _ hlt]
   have hN := hide (fun (g : F k = true) => show allN F (k + 1) = true from by rw [allN, hc.out, g]; rfl)
   have hlo := hide (fun (g : F k = false) => show allN F xs.length = false from allN_no hlt g)
   have hIy := fun m' => hI.out k xs[k] (m + m')
   have hlk : (xs.take k).length = k := by rw [List.length_take]; omega
   rw [hlk] at hIy
   clear h hF hI
   generalize xs[k] = x at *
   by_cases c1 : x < 0
   ·have d1 : decide (x < 0) = true := decide_eq_true c1
    replace hlo := hide (hlo.out (by rw [hFk, inB_no (by omega)]; rfl))
    clear hFk hN
    go_wp2_with fail
    go_quiet (fail)
    go_wp2
    go_ret
    exact ⟨ret_b (by rw [hv.out, hlo.out]), below_drewN (below_drewN (Below.refl _ _) _) _⟩
   ·have d1 : decide (x < 0) = false := decide_eq_false c1
    by_cases c2 : (n : Int) ≤ x
    ·have d2 : decide ((n : Int) ≤ x) = true := decide_eq_true c2
     replace hlo := hide (hlo.out (by rw [hFk, inB_no (by omega)]; rfl))
     clear hFk hN
     go_wp2_with fail
     go_quiet (fail)
     go_wp2
     go_ret
     exact ⟨ret_b (by rw [hv.out, hlo.out]), below_drewN (below_drewN (Below.refl _ _) _) _⟩
    ·have d2 : decide ((n : Int) ≤ x) = false := decide_eq_false c2
     have hin : inB n x = true := by unfold inB; simp; omega
     rw [hin, Bool.true_and] at hFk
     generalize decide (x ∈ xs.take k) = z at hFk hIy
     replace hIy := hide hIy
     cases z with
     | true =>
      replace hlo := hide (hlo.out (by rw [hFk]; rfl))
      clear hFk hN
      go_wp2_with fail
      go_quiet ((go_at_call 47; with_reducible exact quiet_add_same (hIy.out _)))
      go_wp2
      go_ret
      exact ⟨ret_b (by rw [hv.out, hlo.out]), below_drewN (below_drewN (Below.refl _ _) _) _⟩
     | false =>
      replace hN := hide (hN.out (by rw [hFk]; rfl))
      clear hFk hlo
      go_wp2_with fail
      go_quiet ((go_at_call 47; with_reducible exact quiet_add_same (hIy.out _)))
      go_wp2
      go_roundw
      case rel => exact ⟨k + 1, by omega, by go_num, hN, _, rfl⟩
      case measure => simp [intOf]; omega
  ·have hke : k = xs.length := by omega
   subst hke
   go_wp2
   go_ret
   exact ⟨ret_b (by rw [hv.out, hc.out]), below_drewN (Below.refl _ _) _⟩
end Go.Proofs.YtmfpbahifhndjaaGreat
/-! Layer 10: a table, the document's. -/
set_option linter.all false
namespace Go.Proofs.YtmfpbahifhndjaaGreat
open Go.RowKit
set_option maxRecDepth 100000 in
set_option maxHeartbeats 8000000 in
theorem rmayTab_any (A1 A2 A3 A4 A5 A6 A7 A8 A9 A10 A11 A12 : Option Addr) (p : Lp) (c1 c2 c3 c4 c5 c6 c7 c8 c9 c10 c11 c12 : Nat) (t : Ltb) (P1 P2 P3 P4 : Option Addr) (d1 d2 d3 d4 : Nat) (w : World) (h : LpS w w.heap.size A1 A2 A3 A4 A5 A6 A7 A8 A9 A10 A11 A12 p) (h1 : Sl 1 rCd w w.heap.size P1 t.keys) (h2 : Sl 1 rU8 w w.heap.size P2 t.kinds) (h3 : Sl 1 rInt w w.heap.size P3 t.acts) (h4 : Sl 2 rNu w w.heap.size P4 t.run.args) (h5 : t.acts.length ≤ d3) :
  Calls Tryz.prog 42 #[.agg #[.slice A1 p.heads.length c1, .slice A2 p.metas.length c2, .slice A3 p.steps.length c3, .slice A4 p.acts.length c4, .slice A5 p.tabs.length c5, .slice A6 p.control.length c6, .slice A7 p.emit.length c7, .slice A8 p.nh.length c8, .slice A9 p.nf.length c9, .slice A10 p.nm.length c10, .slice A11 p.na.length c11, .slice A12 p.nt.length c12], .agg #[.slice P1 t.keys.length d1, .slice P2 t.kinds.length d2, .slice P3 t.acts.length d3, .int .i64 t.run.act, .slice P4 t.run.args.length d4]] w fun e w' => e = .returned (.bool (tabR p t)) ∧ Below w.heap.size w w' := by
 obtain ⟨ks, kinds, acts, ra, rg⟩ := t
 simp only at h1 h2 h3 h4 h5 ⊢
 have lt1 := h1.len
 have lt2 := h2.len
 have lt3 := h3.len
 have la := h.acts.len
 obtain ⟨wz, hwz, hsz, hbz, hcz, -⟩ := box1 w #[.slice A1 p.heads.length c1, .slice A2 p.metas.length c2, .slice A3 p.steps.length c3, .slice A4 p.acts.length c4, .slice A5 p.tabs.length c5, .slice A6 p.control.length c6, .slice A7 p.emit.length c7, .slice A8 p.nh.length c8, .slice A9 p.nf.length c9, .slice A10 p.nm.length c10, .slice A11 p.na.length c11, .slice A12 p.nt.length c12] 33
 obtain ⟨wa, hwa, hsa, hba, hca, -⟩ := box1 wz #[.slice P1 ks.length d1, .slice P2 kinds.length d2, .slice P3 acts.length d3, .int .i64 ra, .slice P4 rg.length d4] 57
 have k0 : w.heap.size < wz.heap.size := by omega
 obtain ⟨y0, y1, y2, y3, y4, y5, y6, y7, y8, y9, y10, y11⟩ := row12 fun i => (hba.cell (p := ⟨w.heap.size, i, none⟩) k0).trans (hcz i)
 rw [hsz] at hca
 obtain ⟨x0, x1, x2, x3, x4⟩ := row5 hca
 have hl1 : w.heap.size < wa.heap.size := by omega
 have hl2 : w.heap.size + 1 < wa.heap.size := by omega
 have hw : Below w.heap.size w wa := hbz.trans (hba.mono (by omega))
 have hP := hide ((h.below hw).more (B' := wa.heap.size) hw.size)
 have hK := hide ((h1.below sta_cd hw).more (B' := wa.heap.size) sta_cd hw.size)
 have hk := hide ((h2.below sta_u8 hw).more (B' := wa.heap.size) sta_u8 hw.size)
 have hA := hide ((h3.below sta_int hw).more (B' := wa.heap.size) sta_int hw.size)
 have hG := hide ((h4.below sta_nu hw).more (B' := wa.heap.size) sta_nu hw.size)
 have hv := hide (show tabR p ⟨ks, kinds, acts, ⟨ra, rg⟩⟩ = (decide (1 ≤ ks.length) && decide (ks.length ≤ 4) && decide (kinds.length = ks.length) && decide (1 ≤ acts.length) && decide (acts.length ≤ 16) && dstR acts p.acts.length &&
  allN (fun i => atD (fun c => (wdR p (-1) c).isSome) ks i && atD kindB kinds i) ks.length && decide (prefs kinds < 2) && lrunB p acts ⟨ra, rg⟩) from rfl)
 have hDi := lists_any P3 d3 acts p.acts.length wa hA.out h5
 generalize hF : (fun i => atD (fun c => (wdR p (-1) c).isSome) ks i && atD kindB kinds i) = F at hv
 generalize dstR acts p.acts.length = S at hDi hv
 replace hDi := hide hDi
 replace hw := hide hw
 replace hsa := hide hsa
 replace hF := hide hF
 clear hca hcz hba hbz h h1 h2 h3 h4
 go_enter Tryz.func42, Tryz.ntmps42
 by_cases a1 : 1 ≤ ks.length
 ·have a1z : ¬ (ks.length : Int) < 1 := by omega
  rw [decide_eq_true a1, Bool.true_and] at hv
  by_cases a2 : ks.length ≤ 4
  ·have a2z : ¬ (4 : Int) < (ks.length : Int) := by omega
   rw [decide_eq_true a2, Bool.true_and] at hv
   by_cases a3 : kinds.length = ks.length
   ·have a3z : ((kinds.length : Int) != (ks.length : Int)) = false := by rw [a3]; exact bne_self_eq_false _
    rw [decide_eq_true a3, Bool.true_and] at hv
    replace a3 := hide a3
    by_cases a4 : 1 ≤ acts.length
    ·have a4z : ¬ (acts.length : Int) < 1 := by omega
     rw [decide_eq_true a4, Bool.true_and] at hv
     by_cases a5 : acts.length ≤ 16
     ·have a5z : ¬ (16 : Int) < (acts.length : Int) := by omega
      rw [decide_eq_true a5, Bool.true_and] at hv
      cases S with
      | false =>
       rw [Bool.false_and, Bool.false_and, Bool.false_and] at hv
       go_wp2_with (go_at_call 38; refine hDi.out.mono ?_; rintro e w3 ⟨rfl, hb3⟩)
       go_ret
       exact ⟨ret_b hv.out.symm, hw.out.trans (hb3.mono hw.out.size)⟩
      | true =>
       rw [Bool.true_and] at hv
       go_wp2_with (go_at_call 38; refine hDi.out.mono ?_; rintro e w3 ⟨rfl, hb3⟩)
       have hD0 := hide hb3
       clear hb3
       go_loopw [5, 6, 7, 8] (fun s i _ _ wr => ∃ (k n : Nat), k ≤ ks.length ∧ i = .int .i64 k ∧ s = .int .i64 n ∧ n ≤ k ∧ Hid (prefs (kinds.take k) = n) ∧ Hid (allN F k = true) ∧ Hid (Below wa.heap.size wa wr)) (fun _ i _ _ _ => ks.length - (intOf i).toNat)
       case atStart => exact ⟨0, 0, Nat.zero_le _, rfl, rfl, Nat.le_refl _, hide rfl, hide rfl, hD0⟩
       case round =>
        obtain ⟨k, n, hk1, rfl, rfl, hnk, hn, hcn, hI⟩ := hrel
        have kbr := bcell' hI.out
        have hzr := hI.out.size
        have hgo := hide (fun W (hW : Below wr.heap.size wr W) => hw.out.trans ((hI.out.trans (hW.mono hzr)).mono hw.out.size))
        have u0 := (kbr.1 _ 0 hl1).trans y0
        have u1 := (kbr.1 _ 1 hl1).trans y1
        have u2 := (kbr.1 _ 2 hl1).trans y2
        have u3 := (kbr.1 _ 3 hl1).trans y3
        have u4 := (kbr.1 _ 4 hl1).trans y4
        have u5 := (kbr.1 _ 5 hl1).trans y5
        have u6 := (kbr.1 _ 6 hl1).trans y6
        have u7 := (kbr.1 _ 7 hl1).trans y7
        have u8 := (kbr.1 _ 8 hl1).trans y8
        have u9 := (kbr.1 _ 9 hl1).trans y9
        have u10 := (kbr.1 _ 10 hl1).trans y10
        have u11 := (kbr.1 _ 11 hl1).trans y11
        have v0 := (kbr.1 _ 0 hl2).trans x0
        by_cases hlt : k < ks.length
        ·have hkz : (k : Int) < (ks.length : Int) := by omega
         have hlt' : k < kinds.length := by rw [a3.out]; exact hlt
         have hkz' : (k : Int) < (kinds.length : Int) := by omega
         obtain ⟨b, o, A', c', hA1, hb, hcell, hE⟩ := hK.out.code hlt
         subst hA1
         obtain ⟨g, og, hA2, hg, hcell2⟩ := hk.out.byte hlt'
         subst hA2
         have hX : ∀ d os, Hid (Calls Tryz.prog 7 #[.agg #[.slice A1 p.heads.length c1, .slice A2 p.metas.length c2, .slice A3 p.steps.length c3, .slice A4 p.acts.length c4, .slice A5 p.tabs.length c5, .slice A6 p.control.length c6, .slice A7 p.emit.length c7, .slice A8 p.nh.length c8, .slice A9 p.nf.length c9, .slice A10 p.nm.length c10, .slice A11 p.na.length c11, .slice A12 p.nt.length c12], .int .i64 (-1), .slice A' ks[k].length c'] (Go.Sort.grow (redrawn wr d) os) _) := fun d os => hide (rwidth_any A1 A2 A3 A4 A5 A6 A7 A8 A9 A10 A11 A12 p c1 c2 c3 c4 c5 c6 c7 c8 c9 c10 c11 c12 (-1) ks[k] A' c' _ ((hP.out.below (below_grow hI.out hzr d os)).more (Nat.le_trans hzr (below_regrown wr d os).size)) ((hE.below sta_nd (below_grow hI.out hzr d os)).more sta_nd (Nat.le_trans hzr (below_regrown wr d os).size)))
         have hFk : F k = ((wdR p (-1) ks[k]).isSome && kindB kinds[k]) := by rw [← hF.out]; simp only [atD_at _ hlt, atD_at _ hlt']
         have hp := prefs_take hlt'
         rw [hn.out] at hp
         have hN := hide (fun (g : F k = true) => show allN F (k + 1) = true from by rw [allN, hcn.out, g]; rfl)
         have hlo := hide (fun (g : F k = false) => show allN F ks.length = false from allN_no hlt g)
         unfold wdV at hX
         generalize ks[k] = ec at hcell hE hX hFk
         generalize wdR p (-1) ec = D at hX hFk
         generalize kinds[k] = x at hcell2 hFk hp
         have n0 := (kbr.1 _ (o + k) hb).trans hcell
         have hgw := gcell' (show Below wr.heap.size wr wr from Below.refl _ _) (Nat.le_refl _)
         have hB1 := Nat.lt_of_lt_of_le hl1 hzr
         have hB2' := Nat.lt_of_lt_of_le hl2 hzr
         have hB3 := Nat.lt_of_lt_of_le hb hzr
         have g0 := (kbr.1 _ (og + k) hg).trans hcell2
         have v1 := (kbr.1 _ 1 hl2).trans x1
         have hB4 := Nat.lt_of_lt_of_le hg hzr
         clear kbr hcell hcell2 hE
         cases D with
         | none =>
          rw [hlo.out (by rw [hFk]; rfl), Bool.false_and, Bool.false_and] at hv
          replace hFk := hide hFk
          replace hp := hide hp
          simp only [Option.getD_none, Option.isSome_none] at hX
          go_wp2_with fail
          refine wp_region_quiet_below (by kernel_rfl) (by kernel_rfl) ?_
          repeat (any_goals (first | go_big_quiet_step ((go_at_call 7; with_reducible exact Calls.regrown_of (hX _ _).out)) | quiet_step ((go_at_call 7; with_reducible exact Calls.regrown_of (hX _ _).out))))
          refine wpQuiet_nil ?_
          intro wq hwq
          replace hwq := below_of_regrown hwq
          go_wp2
          go_ret
          exact ⟨ret_b hv.out.symm, hgo.out _ hwq⟩
         | some y =>
          simp only [Option.isSome_some, Bool.true_and] at hFk
          simp only [Option.getD_some, Option.isSome_some] at hX
          have hgG := hide (fun W (hW : Below wr.heap.size wr W) => hI.out.trans (hW.mono hzr))
          by_cases c1 : 1 ≤ x ∧ x ≤ 3
          ·obtain ⟨c2, c3⟩ := c1
           replace hN := hide (hN.out (by rw [hFk]; simp [kindB, c2, c3]))
           have c2z : ¬ x < 1 := by omega
           have c3z : ¬ 3 < x := by omega
           replace hFk := hide hFk
           by_cases c4 : x = 2
           ·subst c4
            rw [if_pos rfl] at hp
            replace hp := hide hp
            go_wp2_with fail
            refine wp_region_quiet_below (by kernel_rfl) (by kernel_rfl) ?_
            repeat (any_goals (first | go_big_quiet_step ((go_at_call 7; with_reducible exact Calls.regrown_of (hX _ _).out)) | quiet_step ((go_at_call 7; with_reducible exact Calls.regrown_of (hX _ _).out))))
            refine wpQuiet_nil ?_
            intro wq hwq
            replace hwq := below_of_regrown hwq
            have g0q := (hwq.cell (p := ⟨g, og + k, none⟩) hB4).trans g0
            have v1q := (hwq.cell (p := ⟨w.heap.size + 1, 1, none⟩) hB2').trans v1
            have hwQ := hide (hgG.out _ hwq)
            clear g0 v1 hwq u0 u1 u2 u3 u4 u5 u6 u7 u8 u9 u10 u11 v0 n0 hX hgw
            go_wp2
            go_roundw
            case rel => exact ⟨k + 1, n + 1, by omega, by go_num, by go_num, by omega, hp, hN, hwQ⟩
            case measure => simp [intOf]; omega
           ·have c4z : (x == 2) = false := beq_eq_false_iff_ne.2 c4
            rw [if_neg c4, Nat.add_zero] at hp
            replace hp := hide hp
            go_wp2_with fail
            refine wp_region_quiet_below (by kernel_rfl) (by kernel_rfl) ?_
            repeat (any_goals (first | go_big_quiet_step ((go_at_call 7; with_reducible exact Calls.regrown_of (hX _ _).out)) | quiet_step ((go_at_call 7; with_reducible exact Calls.regrown_of (hX _ _).out))))
            refine wpQuiet_nil ?_
            intro wq hwq
            replace hwq := below_of_regrown hwq
            have g0q := (hwq.cell (p := ⟨g, og + k, none⟩) hB4).trans g0
            have v1q := (hwq.cell (p := ⟨w.heap.size + 1, 1, none⟩) hB2').trans v1
            have hwQ := hide (hgG.out _ hwq)
            clear g0 v1 hwq u0 u1 u2 u3 u4 u5 u6 u7 u8 u9 u10 u11 v0 n0 hX hgw
            go_wp2
            go_roundw
            case rel => exact ⟨k + 1, n, by omega, by go_num, rfl, by omega, hp, hN, hwQ⟩
            case measure => simp [intOf]; omega
          ·rw [hlo.out (by rw [hFk]; simp only [kindB, Bool.and_eq_false_iff, decide_eq_false_iff_not]; omega), Bool.false_and, Bool.false_and] at hv
           replace hFk := hide hFk
           replace hp := hide hp
           go_wp2_with fail
           refine wp_region_quiet_below (by kernel_rfl) (by kernel_rfl) ?_
           repeat (any_goals (first | go_big_quiet_step ((go_at_call 7; with_reducible exact Calls.regrown_of (hX _ _).out)) | quiet_step ((go_at_call 7; with_reducible exact Calls.regrown_of (hX _ _).out))))
           refine wpQuiet_nil ?_
           intro wq hwq
           replace hwq := below_of_regrown hwq
           have g0q := (hwq.cell (p := ⟨g, og + k, none⟩) hB4).trans g0
           have v1q := (hwq.cell (p := ⟨w.heap.size + 1, 1, none⟩) hB2').trans v1
           have hwQ := hide (hgo.out _ hwq)
           clear g0 v1 hwq u0 u1 u2 u3 u4 u5 u6 u7 u8 u9 u10 u11 v0 n0 hX hgw
           by_cases c2 : x < 1
           ·go_wp2
            go_ret
            exact ⟨ret_b hv.out.symm, hwQ.out⟩
           ·have c3 : 3 < x := by omega
            go_wp2
            go_ret
            exact ⟨ret_b hv.out.symm, hwQ.out⟩
        ·have hke : k = ks.length := by omega
         subst hke
         rw [← a3.out, List.take_length] at hn
         rw [hcn.out, hn.out, Bool.true_and] at hv
         have hlr : Below wa.heap.size wa wr := hI.out
         have hR := rmayRun_any A1 A2 A3 A4 A5 A6 A7 A8 A9 A10 A11 A12 p c1 c2 c3 c4 c5 c6 c7 c8 c9 c10 c11 c12 P3 P4 d3 d4 acts ⟨ra, rg⟩ wr ((hP.out.below hlr).more hzr) ((hA.out.below sta_int hlr).more sta_int hzr) ((hG.out.below sta_nu hlr).more sta_nu hzr)
         simp only at hR
         generalize lrunB p acts ⟨ra, rg⟩ = R at hR hv
         replace hR := hide hR
         have v2 := (kbr.1 _ 2 hl2).trans x2
         have v3 := (kbr.1 _ 3 hl2).trans x3
         have v4 := (kbr.1 _ 4 hl2).trans x4
         clear kbr hlr
         by_cases b1 : n < 2
         ·have b1z : (n : Int) < 2 := by omega
          rw [decide_eq_true b1, Bool.true_and] at hv
          go_wp2_with (go_at_call 11; refine hR.out.mono ?_; rintro e w5 ⟨rfl, hb5⟩)
          go_ret
          exact ⟨ret_b hv.out.symm, hgo.out _ hb5⟩
         ·have b1z : ¬ (n : Int) < 2 := by omega
          rw [decide_eq_false b1, Bool.false_and] at hv
          go_wp2
          go_ret
          exact ⟨ret_b hv.out.symm, hgo.out _ (Below.refl _ _)⟩
     ·have a5z : (16 : Int) < (acts.length : Int) := by omega
      rw [decide_eq_false a5, Bool.false_and, Bool.false_and, Bool.false_and, Bool.false_and] at hv
      go_wp2
      go_ret
      exact ⟨ret_b hv.out.symm, hw.out⟩
    ·have a4z : (acts.length : Int) < 1 := by omega
     rw [decide_eq_false a4, Bool.false_and, Bool.false_and, Bool.false_and, Bool.false_and, Bool.false_and] at hv
     go_wp2
     go_ret
     exact ⟨ret_b hv.out.symm, hw.out⟩
   ·have a3z : ((kinds.length : Int) != (ks.length : Int)) = true := by rw [bne_iff_ne]; omega
    rw [decide_eq_false a3, Bool.false_and, Bool.false_and, Bool.false_and, Bool.false_and, Bool.false_and, Bool.false_and] at hv
    replace a3 := hide a3
    go_wp2
    go_ret
    exact ⟨ret_b hv.out.symm, hw.out⟩
  ·have a2z : (4 : Int) < (ks.length : Int) := by omega
   rw [decide_eq_false a2, Bool.false_and, Bool.false_and, Bool.false_and, Bool.false_and, Bool.false_and, Bool.false_and, Bool.false_and] at hv
   go_wp2
   go_ret
   exact ⟨ret_b hv.out.symm, hw.out⟩
 ·have a1z : (ks.length : Int) < 1 := by omega
  rw [decide_eq_false a1, Bool.false_and, Bool.false_and, Bool.false_and, Bool.false_and, Bool.false_and, Bool.false_and, Bool.false_and, Bool.false_and] at hv
  go_wp2
  go_ret
  exact ⟨ret_b hv.out.symm, hw.out⟩
end Go.Proofs.YtmfpbahifhndjaaGreat

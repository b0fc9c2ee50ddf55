import Derived.Test.YtmfpbahifhndjaaGreatLow31
import Derived.Test.YtmfpbahifhndjaaGreatLow40
import Derived.Deep.CutBlock
set_option linter.all false
/-! Layer 10: an instruction, for the document. -/
set_option linter.all false
namespace Go.Proofs.YtmfpbahifhndjaaGreat
open Go.RowKit
/-- What the switch asks. -/
def askB (p : Lp) (act : Int) (x : Ins) : Bool := (tgt p x).2 && !(decide (0 ≤ act) && decide (x.kind = 3))
set_option maxRecDepth 100000 in
set_option maxHeartbeats 4000000 in
theorem rmayInst_any (A1 A2 A3 A4 A5 A6 A7 A8 A9 A10 A11 A12 : Option Addr) (p : Lp) (c1 c2 c3 c4 c5 c6 c7 c8 c9 c10 c11 c12 : Nat) (act : Int) (x : Ins) (A' : Option Addr) (c' i many : Nat) (w : World) (h : LpS w w.heap.size A1 A2 A3 A4 A5 A6 A7 A8 A9 A10 A11 A12 p) (hE : Sl 6 rNd w w.heap.size A' x.e) (hi : i < many) (hm : many ≤ 65536) :
  Calls Tryz.prog 72 #[.agg #[.slice A1 p.heads.length c1, .slice A2 p.metas.length c2, .slice A3 p.steps.length c3, .slice A4 p.acts.length c4, .slice A5 p.tabs.length c5, .slice A6 p.control.length c6, .slice A7 p.emit.length c7, .slice A8 p.nh.length c8, .slice A9 p.nf.length c9, .slice A10 p.nm.length c10, .slice A11 p.na.length c11, .slice A12 p.nt.length c12], .int .i64 act, .agg #[.int .u8 x.kind, .int .i64 x.a, .int .i64 x.b, .slice A' x.e.length c', .int .i64 x.to], .int .i64 i, .int .i64 many] w fun e w' => e = .returned (.bool (insB (cdR p act) p act many i x)) ∧ Below w.heap.size w w' := by
 obtain ⟨kd, a, b, ec, tt⟩ := x
 simp only at hE ⊢
 have lec := hE.len
 have l1 := h.heads.len
 have l2 := h.metas.len
 have l5 := h.tabs.len
 obtain ⟨wz, hwz, hsz, hbz, hcz, -⟩ := box1 w #[.slice A1 p.heads.length c1, .slice A2 p.metas.length c2, .slice A3 p.steps.length c3, .slice A4 p.acts.length c4, .slice A5 p.tabs.length c5, .slice A6 p.control.length c6, .slice A7 p.emit.length c7, .slice A8 p.nh.length c8, .slice A9 p.nf.length c9, .slice A10 p.nm.length c10, .slice A11 p.na.length c11, .slice A12 p.nt.length c12] 33
 obtain ⟨wa, hwa, hsa, hba, hca, -⟩ := box1 wz #[.int .u8 kd, .int .i64 a, .int .i64 b, .slice A' ec.length c', .int .i64 tt] 105
 have k0 : w.heap.size < wz.heap.size := by omega
 obtain ⟨y0, y1, y2, y3, y4, y5, y6, y7, y8, y9, y10, y11⟩ := row12 fun i => (hba.cell (p := ⟨w.heap.size, i, none⟩) k0).trans (hcz i)
 rw [hsz] at hca
 obtain ⟨x0, x1, x2, x3, x4⟩ := row5 hca
 have hl1 : w.heap.size < wa.heap.size := by omega
 have hl2 : w.heap.size + 1 < wa.heap.size := by omega
 have hw : Below w.heap.size w wa := hbz.trans (hba.mono (by omega))
 have hS := hide ((h.below hw).more (B' := wa.heap.size) hw.size)
 have hEn := hide ((hE.below sta_nd hw).more (B' := wa.heap.size) sta_nd hw.size)
 have hwd := hide (fun m => hw.trans (below_drewN ((Below.refl wa.heap.size wa).mono hw.size) m))
 have hv := hide (show insB (cdR p act) p act many i ⟨kd, a, b, ec, tt⟩ = (askB p act ⟨kd, a, b, ec, tt⟩ && jmpB ⟨kd, a, b, ec, tt⟩ i many && cdR p act (tgt p ⟨kd, a, b, ec, tt⟩).1 ec) from rfl)
 replace hw := hide hw
 replace hsa := hide hsa
 clear hca hcz hba hbz h hE
 go_enter Tryz.func72, Tryz.ntmps72
 go_upto_region 2 with (fail)
 generalize hB0 : inB p.heads.length a = hd0
 go_cut [12] (fun u wx => u = .bool hd0 ∧ wx = wa)
 case first =>
  go_wp2
  all_goals go_meet
  all_goals refine ⟨congrArg Value.bool ?_, rfl⟩
  all_goals rw [← hB0]
  all_goals clear hv hwd hEn hS hw hsa hB0
  all_goals (unfold inB; rw [Bool.eq_iff_iff]; simp only [Bool.and_eq_true, decide_eq_true_eq, Bool.false_eq_true, eq_self_iff_true, true_iff, false_iff]; try omega)
 case rest =>
  obtain ⟨rfl, hcx⟩ := hcut
  replace hcx := hcx.symm
  subst hcx
  go_upto_block 0 with (fail)
  go_cut [11] (fun u wx => askB p act ⟨kd, a, b, ec, tt⟩ = true ∧ u = .int .i64 (tgt p ⟨kd, a, b, ec, tt⟩).1 ∧ Hid (Below wa.heap.size wa wx))
  case first =>
   have hbad := hide (fun (g : askB p act ⟨kd, a, b, ec, tt⟩ = false) => show insB (cdR p act) p act many i ⟨kd, a, b, ec, tt⟩ = false from by rw [hv.out, g, Bool.false_and, Bool.false_and])
   by_cases k1 : kd = 1
   ·subst k1
    have hask : askB p act ⟨1, a, b, ec, tt⟩ = inB ((nth p.heads a).getD []).length b := by unfold askB tgt; simp
    rcases nth_cases p.heads a with ⟨k, rfl, hk, hn⟩ | ⟨hn, hb0, -⟩
    ·rw [inB_at hk] at hB0
     subst hB0
     rw [hn] at hask
     simp only [Option.getD_some] at hask
     obtain ⟨g, o, A1', c1', hA1, hg, hcell, hrow⟩ := hS.out.heads.ints hk
     subst hA1
     have hrl := hrow.len
     have htg : (tgt p ⟨1, (k : Int), b, ec, tt⟩).1 = at0 p.heads[k] b := by unfold tgt; simp [hn]
     generalize p.heads[k] = xs at hask htg hcell hrow hrl
     clear hn
     by_cases b0 : b < 0
     ·have b0z : decide (b < 0) = true := decide_eq_true b0
      have hf := hide (hbad.out (by rw [hask]; exact inB_no (by omega)))
      go_wp2_with fail
      go_quiet (fail)
      go_wp2
      go_ret
      exact ⟨ret_b hf.out.symm, hwd.out _⟩
     ·have b0z : decide (b < 0) = false := decide_eq_false b0
      by_cases b1 : (xs.length : Int) ≤ b
      ·have b1z : decide ((xs.length : Int) ≤ b) = true := decide_eq_true b1
       have hf := hide (hbad.out (by rw [hask]; exact inB_no (by omega)))
       go_wp2_with fail
       go_quiet (fail)
       go_wp2
       go_ret
       exact ⟨ret_b hf.out.symm, hwd.out _⟩
      ·have b1z : decide ((xs.length : Int) ≤ b) = false := decide_eq_false b1
       obtain ⟨m, rfl, hm⟩ := nat_of b0 b1
       obtain ⟨g2, o2, rfl, hg2, hc2⟩ := hrow.int hm
       have b1y : decide (xs.length ≤ m) = false := decide_eq_false (by omega)
       have hki : (k : Int) < (p.heads.length : Int) := by omega
       have hmi : (m : Int) < (xs.length : Int) := by omega
       have hf := hide (show askB p act ⟨1, (k : Int), (m : Int), ec, tt⟩ = true from by rw [hask]; exact inB_at hm)
       have ht := hide (show (tgt p ⟨1, (k : Int), (m : Int), ec, tt⟩).1 = xs[m] from by rw [htg]; exact at0_at hm)
       go_wp2_with fail
       go_quiet (fail)
       go_wp2_with fail
       go_quiet (fail)
       go_wp2
       go_meet
       exact ⟨hf.out, by rw [ht.out], hide (below_drewN (below_drewN (Below.refl _ _) _) _)⟩
    ·rw [hb0] at hB0
     subst hB0
     have hf := hide (hbad.out (by rw [hask, hn]; exact inB_no (by simp)))
     go_wp2_with fail
     go_quiet (fail)
     go_wp2
     go_ret
     exact ⟨ret_b hf.out.symm, hwd.out _⟩
   ·by_cases k2 : kd = 2
    ·subst k2
     have hask : askB p act ⟨2, a, b, ec, tt⟩ = (inB p.metas.length a && decide (b = 0)) := by unfold askB tgt; simp
     by_cases a0 : a < 0
     ·skip
      have hf := hide (hbad.out (by rw [hask, inB_no (by omega)]; rfl))
      go_wp2
      go_ret
      exact ⟨ret_b hf.out.symm, hw.out⟩
     ·by_cases a1 : (p.metas.length : Int) ≤ a
      ·skip
       have hf := hide (hbad.out (by rw [hask, inB_no (by omega)]; rfl))
       go_wp2
       go_ret
       exact ⟨ret_b hf.out.symm, hw.out⟩
      ·obtain ⟨m, rfl, hm⟩ := nat_of a0 a1
       obtain ⟨g2, o2, hA2, hg2, hc2⟩ := hS.out.metas.int hm
       subst hA2
       have a1y : ¬ p.metas.length ≤ m := by omega
       have a1x : (m : Int) < (p.metas.length : Int) := by omega
       by_cases b0 : b = 0
       ·subst b0
        have hf := hide (show askB p act ⟨2, (m : Int), 0, ec, tt⟩ = true from by rw [hask, inB_at hm]; rfl)
        have ht := hide (show (tgt p ⟨2, (m : Int), 0, ec, tt⟩).1 = p.metas[m] from by unfold tgt; simp [at0_at hm])
        go_wp2
        go_meet
        exact ⟨hf.out, by rw [ht.out], hide (Below.refl _ _)⟩
       ·have b0z : (b != 0) = true := by simpa using b0
        have hf := hide (hbad.out (by rw [hask, decide_eq_false b0, Bool.and_false]))
        go_wp2
        go_ret
        exact ⟨ret_b hf.out.symm, hw.out⟩
    ·by_cases k3 : kd = 3
     ·subst k3
      have hask : askB p act ⟨3, a, b, ec, tt⟩ = (inB p.tabs.length a && decide (b = 0) && !decide (0 ≤ act)) := by unfold askB tgt; simp
      by_cases q0 : 0 ≤ act
      ·skip
       have hf := hide (hbad.out (by rw [hask, decide_eq_true q0]; simp))
       go_wp2
       go_ret
       exact ⟨ret_b hf.out.symm, hw.out⟩
      ·rw [decide_eq_false q0, Bool.not_false, Bool.and_true] at hask
       by_cases a0 : a < 0
       ·skip
        have hf := hide (hbad.out (by rw [hask, inB_no (by omega)]; rfl))
        go_wp2
        go_ret
        exact ⟨ret_b hf.out.symm, hw.out⟩
       ·by_cases a1 : (p.tabs.length : Int) ≤ a
        ·skip
         have hf := hide (hbad.out (by rw [hask, inB_no (by omega)]; rfl))
         go_wp2
         go_ret
         exact ⟨ret_b hf.out.symm, hw.out⟩
        ·obtain ⟨m, rfl, hm⟩ := nat_of a0 a1
         have a1y : ¬ p.tabs.length ≤ m := by omega
         by_cases b0 : b = 0
         ·subst b0
          have hf := hide (show askB p act ⟨3, (m : Int), 0, ec, tt⟩ = true from by rw [hask, inB_at hm]; rfl)
          have ht := hide (show (tgt p ⟨3, (m : Int), 0, ec, tt⟩).1 = 0 from by unfold tgt; simp)
          go_wp2
          go_meet
          exact ⟨hf.out, by rw [ht.out], hide (Below.refl _ _)⟩
         ·have b0z : (b != 0) = true := by simpa using b0
          have hf := hide (hbad.out (by rw [hask, decide_eq_false b0, Bool.and_false]))
          go_wp2
          go_ret
          exact ⟨ret_b hf.out.symm, hw.out⟩
     ·by_cases k6 : kd = 6
      ·subst k6
       have hask : askB p act ⟨6, a, b, ec, tt⟩ = (hd0 && (decide (b = 0) || decide (b = 1))) := by unfold askB tgt; simp [hB0]
       cases hd0 with
       | false =>
        have hf := hide (hbad.out (by rw [hask]; rfl))
        go_wp2
        go_ret
        exact ⟨ret_b hf.out.symm, hw.out⟩
       | true =>
        by_cases b0 : b = 0
        ·subst b0
         have hf := hide (show askB p act ⟨6, a, 0, ec, tt⟩ = true from by rw [hask]; rfl)
         have ht := hide (show (tgt p ⟨6, a, 0, ec, tt⟩).1 = 0 from by unfold tgt; simp)
         go_wp2
         go_meet
         exact ⟨hf.out, by rw [ht.out], hide (Below.refl _ _)⟩
        ·have b0z : (b != 0) = true := by simpa using b0
         have b0y : (b == 0) = false := by simpa using b0
         by_cases b1 : b = 1
         ·subst b1
          have hf := hide (show askB p act ⟨6, a, 1, ec, tt⟩ = true from by rw [hask]; rfl)
          have ht := hide (show (tgt p ⟨6, a, 1, ec, tt⟩).1 = 0 from by unfold tgt; simp)
          go_wp2
          go_meet
          exact ⟨hf.out, by rw [ht.out], hide (Below.refl _ _)⟩
         ·have b1z : (b != 1) = true := by simpa using b1
          have b1y : (b == 1) = false := by simpa using b1
          have hf := hide (hbad.out (by rw [hask, decide_eq_false b0, decide_eq_false b1]; rfl))
          go_wp2
          go_ret
          exact ⟨ret_b hf.out.symm, hw.out⟩
      ·by_cases k7 : kd = 7 ∨ kd = 5 ∨ kd = 4 ∨ kd = 8
       ·have hask : askB p act ⟨kd, a, b, ec, tt⟩ = (decide (a = 0) && decide (b = 0)) := by unfold askB tgt; rcases k7 with rfl | rfl | rfl | rfl <;> simp
        by_cases a0 : a = 0
        ·subst a0
         by_cases b0 : b = 0
         ·subst b0
          have hf := hide (show askB p act ⟨kd, 0, 0, ec, tt⟩ = true from by rw [hask]; rfl)
          rcases k7 with rfl | rfl | rfl | rfl
          all_goals go_wp2
          all_goals go_meet
          all_goals exact ⟨hf.out, rfl, hide (Below.refl _ _)⟩
         ·have b0z : (b != 0) = true := by simpa using b0
          have hf := hide (hbad.out (by rw [hask, decide_eq_false b0, Bool.and_false]))
          rcases k7 with rfl | rfl | rfl | rfl
          all_goals go_wp2
          all_goals go_ret
          all_goals exact ⟨ret_b hf.out.symm, hw.out⟩
        ·have a0z : (a != 0) = true := by simpa using a0
         have hf := hide (hbad.out (by rw [hask, decide_eq_false a0, Bool.false_and]))
         rcases k7 with rfl | rfl | rfl | rfl
         all_goals go_wp2
         all_goals go_ret
         all_goals exact ⟨ret_b hf.out.symm, hw.out⟩
       ·simp only [not_or] at k7
        obtain ⟨k7, k5, k4, k8⟩ := k7
        have z1 := beq_eq_false_iff_ne.2 k1
        have z2 := beq_eq_false_iff_ne.2 k2
        have z3 := beq_eq_false_iff_ne.2 k3
        have z6 := beq_eq_false_iff_ne.2 k6
        have z7 := beq_eq_false_iff_ne.2 k7
        have z5 := beq_eq_false_iff_ne.2 k5
        have z4 := beq_eq_false_iff_ne.2 k4
        have z8 := beq_eq_false_iff_ne.2 k8
        have hf := hide (hbad.out (by unfold askB tgt; simp only [if_neg k1, if_neg k2, if_neg k3, if_neg k6, if_neg k7, if_neg k5, decide_eq_false k4, decide_eq_false k8, Bool.false_or, Bool.false_and]))
        go_wp2
        go_ret
        exact ⟨ret_b hf.out.symm, hw.out⟩
  case rest =>
   obtain ⟨hok, rfl, hD⟩ := hcut
   have hT9 := rwidth_any A1 A2 A3 A4 A5 A6 A7 A8 A9 A10 A11 A12 p c1 c2 c3 c4 c5 c6 c7 c8 c9 c10 c11 c12 act ec A' c' wc ((hS.out.below hD.out).more hD.out.size) ((hEn.out.below sta_nd hD.out).more sta_nd hD.out.size)
   have hv2 := hide (show insB (cdR p act) p act many i ⟨kd, a, b, ec, tt⟩ = (jmpB ⟨kd, a, b, ec, tt⟩ i many && cdR p act (tgt p ⟨kd, a, b, ec, tt⟩).1 ec) from by rw [hv.out, hok, Bool.true_and])
   have hg := hide (hw.out.trans (hD.out.mono hw.out.size))
   have g1 := Nat.lt_of_lt_of_le hl1 hD.out.size
   have g2 := Nat.lt_of_lt_of_le hl2 hD.out.size
   have hY := fun i => hD.out.cell (p := ⟨w.heap.size, i, none⟩) hl1
   have hX := fun i => hD.out.cell (p := ⟨w.heap.size + 1, i, none⟩) hl2
   have q0 := (hY 0).trans y0
   have q1 := (hY 1).trans y1
   have q2 := (hY 2).trans y2
   have q3 := (hY 3).trans y3
   have q4 := (hY 4).trans y4
   have q5 := (hY 5).trans y5
   have q6 := (hY 6).trans y6
   have q7 := (hY 7).trans y7
   have q8 := (hY 8).trans y8
   have q9 := (hY 9).trans y9
   have q10 := (hY 10).trans y10
   have q11 := (hY 11).trans y11
   have r0 := (hX 0).trans x0
   have r1 := (hX 1).trans x1
   have r2 := (hX 2).trans x2
   have r3 := (hX 3).trans x3
   have r4 := (hX 4).trans x4
   clear y0 y1 y2 y3 y4 y5 y6 y7 y8 y9 y10 y11 x0 x1 x2 x3 x4 hY hX hS hEn hwd hok hv hw hB0
   unfold wdV at hT9
   replace hT9 := hide hT9
   have hcd := hide (fun (T : Int) => show cdR p act T ec = (if T = 0 then ec.isEmpty else decide (wdR p act ec = some T)) from rfl)
   generalize hTT : (tgt p ⟨kd, a, b, ec, tt⟩).1 = T at hv2 ⊢
   replace hTT := hide hTT
   generalize wdR p act ec = D at hT9 hcd
   by_cases k78 : kd = 7 ∨ kd = 8
   ·have hjv : jmpB ⟨kd, a, b, ec, tt⟩ i many = (decide ((i : Int) < tt) && decide (tt ≤ many)) := by unfold jmpB; rw [if_pos k78]
    by_cases t0 : tt ≤ (i : Int)
    ·have hf := hide (show insB (cdR p act) p act many i ⟨kd, a, b, ec, tt⟩ = false from by rw [hv2.out, hjv, decide_eq_false (by omega)]; rfl)
     rcases k78 with rfl | rfl
     all_goals go_wp2
     all_goals go_ret
     all_goals exact ⟨ret_b hf.out.symm, hg.out⟩
    ·by_cases t1 : (many : Int) < tt
     ·have hf := hide (show insB (cdR p act) p act many i ⟨kd, a, b, ec, tt⟩ = false from by rw [hv2.out, hjv, decide_eq_false (show ¬ tt ≤ (many : Int) by omega), Bool.and_false]; rfl)
      rcases k78 with rfl | rfl
      all_goals go_wp2
      all_goals go_ret
      all_goals exact ⟨ret_b hf.out.symm, hg.out⟩
     ·rw [decide_eq_true (show (i : Int) < tt by omega), decide_eq_true (show tt ≤ (many : Int) by omega), Bool.and_self] at hjv
      rcases k78 with rfl | rfl
      ·skip
       have hj := hide (hjv)
       by_cases hT : T = 0
       ·subst hT
        have hf := hide (show insB (cdR p act) p act many i ⟨7, a, b, ec, tt⟩ = ((ec.length : Int) == 0) from by rw [hv2.out, hj.out, Bool.true_and, hcd.out, if_pos rfl]; cases ec <;> simp <;> omega)
        go_wp2
        go_ret
        exact ⟨ret_b hf.out.symm, hg.out⟩
       ·have hTz : (T == 0) = false := by simpa using hT
        have hf := hide (show insB (cdR p act) p act many i ⟨7, a, b, ec, tt⟩ = decide (D = some T) from by rw [hv2.out, hj.out, Bool.true_and, hcd.out, if_neg hT])
        cases D with
        | none =>
         simp only [Option.getD_none, Option.isSome_none] at hT9
         go_wp2_with (go_at_call 7; refine hT9.out.mono ?_; rintro e w5 ⟨rfl, hb5⟩)
         go_ret
         exact ⟨ret_b hf.out.symm, hg.out.trans (hb5.mono hg.out.size)⟩
        | some y =>
         simp only [Option.getD_some, Option.isSome_some] at hT9
         replace hf := hide (hf.out.trans (show decide (some y = some T) = (y == T) from by rw [Bool.eq_iff_iff]; simp))
         go_wp2_with (go_at_call 7; refine hT9.out.mono ?_; rintro e w5 ⟨rfl, hb5⟩)
         go_ret
         exact ⟨ret_b hf.out.symm, hg.out.trans (hb5.mono hg.out.size)⟩
      ·skip
       have hj := hide (hjv)
       by_cases hT : T = 0
       ·subst hT
        have hf := hide (show insB (cdR p act) p act many i ⟨8, a, b, ec, tt⟩ = ((ec.length : Int) == 0) from by rw [hv2.out, hj.out, Bool.true_and, hcd.out, if_pos rfl]; cases ec <;> simp <;> omega)
        go_wp2
        go_ret
        exact ⟨ret_b hf.out.symm, hg.out⟩
       ·have hTz : (T == 0) = false := by simpa using hT
        have hf := hide (show insB (cdR p act) p act many i ⟨8, a, b, ec, tt⟩ = decide (D = some T) from by rw [hv2.out, hj.out, Bool.true_and, hcd.out, if_neg hT])
        cases D with
        | none =>
         simp only [Option.getD_none, Option.isSome_none] at hT9
         go_wp2_with (go_at_call 7; refine hT9.out.mono ?_; rintro e w5 ⟨rfl, hb5⟩)
         go_ret
         exact ⟨ret_b hf.out.symm, hg.out.trans (hb5.mono hg.out.size)⟩
        | some y =>
         simp only [Option.getD_some, Option.isSome_some] at hT9
         replace hf := hide (hf.out.trans (show decide (some y = some T) = (y == T) from by rw [Bool.eq_iff_iff]; simp))
         go_wp2_with (go_at_call 7; refine hT9.out.mono ?_; rintro e w5 ⟨rfl, hb5⟩)
         go_ret
         exact ⟨ret_b hf.out.symm, hg.out.trans (hb5.mono hg.out.size)⟩
   ·have hjv : jmpB ⟨kd, a, b, ec, tt⟩ i many = decide (tt = 0) := by unfold jmpB; rw [if_neg k78]
    simp only [not_or] at k78
    have z7 := beq_eq_false_iff_ne.2 k78.1
    have z8 := beq_eq_false_iff_ne.2 k78.2
    by_cases t0 : tt = 0
    ·subst t0
     replace hjv : jmpB ⟨kd, a, b, ec, 0⟩ i many = true := hjv
     have hj := hide (hjv)
     by_cases hT : T = 0
     ·subst hT
      have hf := hide (show insB (cdR p act) p act many i ⟨kd, a, b, ec, 0⟩ = ((ec.length : Int) == 0) from by rw [hv2.out, hj.out, Bool.true_and, hcd.out, if_pos rfl]; cases ec <;> simp <;> omega)
      go_wp2
      go_ret
      exact ⟨ret_b hf.out.symm, hg.out⟩
     ·have hTz : (T == 0) = false := by simpa using hT
      have hf := hide (show insB (cdR p act) p act many i ⟨kd, a, b, ec, 0⟩ = decide (D = some T) from by rw [hv2.out, hj.out, Bool.true_and, hcd.out, if_neg hT])
      cases D with
      | none =>
       simp only [Option.getD_none, Option.isSome_none] at hT9
       go_wp2_with (go_at_call 7; refine hT9.out.mono ?_; rintro e w5 ⟨rfl, hb5⟩)
       go_ret
       exact ⟨ret_b hf.out.symm, hg.out.trans (hb5.mono hg.out.size)⟩
      | some y =>
       simp only [Option.getD_some, Option.isSome_some] at hT9
       replace hf := hide (hf.out.trans (show decide (some y = some T) = (y == T) from by rw [Bool.eq_iff_iff]; simp))
       go_wp2_with (go_at_call 7; refine hT9.out.mono ?_; rintro e w5 ⟨rfl, hb5⟩)
       go_ret
       exact ⟨ret_b hf.out.symm, hg.out.trans (hb5.mono hg.out.size)⟩
    ·have t0z : (tt != 0) = true := by simpa using t0
     have hf := hide (show insB (cdR p act) p act many i ⟨kd, a, b, ec, tt⟩ = false from by rw [hv2.out, hjv, decide_eq_false t0]; rfl)
     go_wp2
     go_ret
     exact ⟨ret_b hf.out.symm, hg.out⟩
end Go.Proofs.YtmfpbahifhndjaaGreat
/-! Layer 10: instructions, the document's. -/
set_option linter.all false
namespace Go.Proofs.YtmfpbahifhndjaaGreat
open Go.RowKit
set_option maxRecDepth 100000 in
set_option maxHeartbeats 4000000 in
theorem rmayInsts_any (A1 A2 A3 A4 A5 A6 A7 A8 A9 A10 A11 A12 : Option Addr) (p : Lp) (c1 c2 c3 c4 c5 c6 c7 c8 c9 c10 c11 c12 : Nat) (act : Int) (l : List Ins) (A : Option Addr) (cap : Nat) (w : World) (h : LpS w w.heap.size A1 A2 A3 A4 A5 A6 A7 A8 A9 A10 A11 A12 p) (hc : Sl 5 rIns w w.heap.size A l) :
  Calls Tryz.prog 39 #[.agg #[.slice A1 p.heads.length c1, .slice A2 p.metas.length c2, .slice A3 p.steps.length c3, .slice A4 p.acts.length c4, .slice A5 p.tabs.length c5, .slice A6 p.control.length c6, .slice A7 p.emit.length c7, .slice A8 p.nh.length c8, .slice A9 p.nf.length c9, .slice A10 p.nm.length c10, .slice A11 p.na.length c11, .slice A12 p.nt.length c12], .int .i64 act, .slice A l.length cap] w fun e w' => e = .returned (.bool (inssR p act l)) ∧ Below w.heap.size w w' := by
 have hlen := hc.len
 obtain ⟨wz, hwz, hsz, hbz, hcz, -⟩ := box1 w #[.slice A1 p.heads.length c1, .slice A2 p.metas.length c2, .slice A3 p.steps.length c3, .slice A4 p.acts.length c4, .slice A5 p.tabs.length c5, .slice A6 p.control.length c6, .slice A7 p.emit.length c7, .slice A8 p.nh.length c8, .slice A9 p.nf.length c9, .slice A10 p.nm.length c10, .slice A11 p.na.length c11, .slice A12 p.nt.length c12] 33
 have hP := hide (h.below hbz)
 have hC := hide (hc.below sta_ins hbz)
 have hl1 : w.heap.size < wz.heap.size := by omega
 have hlw : w.heap.size ≤ wz.heap.size := by omega
 obtain ⟨y0, y1, y2, y3, y4, y5, y6, y7, y8, y9, y10, y11⟩ := row12 hcz
 replace hbz := hide hbz
 replace hsz := hide hsz
 by_cases h6 : 65536 < l.length
 ·have h6z : (65536 : Int) < (l.length : Int) := by omega
  have hv := hide (show inssR p act l = false from by unfold inssR inssB; rw [decide_eq_false (by omega), Bool.false_and])
  clear hcz h hc
  go_enter Tryz.func39, Tryz.ntmps39
  go_wp2
  go_ret
  exact ⟨ret_b hv.out.symm, hbz.out⟩
 ·have h6z : ¬ (65536 : Int) < (l.length : Int) := by omega
  have hv := hide (show inssR p act l = allN (fun i => atD (insB (cdR p act) p act l.length i) l i) l.length from by unfold inssR inssB; rw [decide_eq_true (by omega), Bool.true_and])
  generalize hF : (fun i => atD (insB (cdR p act) p act l.length i) l i) = F at hv
  clear h hc hcz
  go_enter Tryz.func39, Tryz.ntmps39
  go_wp2
  go_loopw [7] (fun i wr => ∃ k : Nat, k ≤ l.length ∧ i = .int .i64 k ∧ Hid (allN F k = true) ∧ Hid (Below wz.heap.size wz wr)) (fun i _ => l.length - (intOf i).toNat)
  case atStart => exact ⟨0, Nat.zero_le _, rfl, hide rfl, hide (Below.refl _ _)⟩
  case round =>
   obtain ⟨k, hk, rfl, hcn, hG⟩ := hrel
   have hzr := hG.out.size
   have hgo := hide (fun W (hW : Below wr.heap.size wr W) => hbz.out.trans ((hG.out.trans (hW.mono hzr)).mono hbz.out.size))
   have hgG := hide (fun W (hW : Below wr.heap.size wr W) => hG.out.trans (hW.mono hzr))
   by_cases hlt : k < l.length
   ·have hkz : (k : Int) < (l.length : Int) := by omega
    obtain ⟨b, o, A', c', rfl, hb, n0, n1, n2, n3, n4, hE⟩ := hC.out.ins hlt
    have hFk : F k = insB (cdR p act) p act l.length k l[k] := by rw [← hF]; simp only [atD_at _ hlt]
    have hN := hide (fun (g : F k = true) => show allN F (k + 1) = true from by rw [allN, hcn.out, g]; rfl)
    have hlo := hide (fun (g : F k = false) => show allN F l.length = false from allN_no hlt g)
    clear hF
    generalize l[k] = x at n0 n1 n2 n3 n4 hE hFk
    have hX : ∀ d os, Hid (Calls Tryz.prog 72 #[.agg #[.slice A1 p.heads.length c1, .slice A2 p.metas.length c2, .slice A3 p.steps.length c3, .slice A4 p.acts.length c4, .slice A5 p.tabs.length c5, .slice A6 p.control.length c6, .slice A7 p.emit.length c7, .slice A8 p.nh.length c8, .slice A9 p.nf.length c9, .slice A10 p.nm.length c10, .slice A11 p.na.length c11, .slice A12 p.nt.length c12], .int .i64 act, .agg #[.int .u8 x.kind, .int .i64 x.a, .int .i64 x.b, .slice A' x.e.length c', .int .i64 x.to], .int .i64 (k : Int), .int .i64 (l.length : Int)] (Go.Sort.grow (redrawn wr d) os) _) := fun d os => hide (rmayInst_any A1 A2 A3 A4 A5 A6 A7 A8 A9 A10 A11 A12 p c1 c2 c3 c4 c5 c6 c7 c8 c9 c10 c11 c12 act x A' c' k l.length _ ((hP.out.below ((below_grow hG.out hzr d os).mono hlw)).more (Nat.le_trans hlw (Nat.le_trans hzr (below_regrown wr d os).size))) ((hE.below sta_nd ((below_grow hG.out hzr d os).mono hlw)).more sta_nd (Nat.le_trans hlw (Nat.le_trans hzr (below_regrown wr d os).size))) hlt (by omega))
    obtain ⟨kd, a, b2, ec, tt⟩ := x
    simp only at n0 n1 n2 n3 n4 hFk hX
    generalize insB (cdR p act) p act l.length k ⟨kd, a, b2, ec, tt⟩ = z at hX hFk
    have kbr := bcell' hG.out
    have hbz1 : b < wz.heap.size := Nat.lt_of_lt_of_le hb hlw
    have n0r := (kbr.1 _ (o + k * 5) hbz1).trans n0
    have n1r := (kbr.1 _ (o + k * 5 + 1) hbz1).trans n1
    have n2r := (kbr.1 _ (o + k * 5 + 2) hbz1).trans n2
    have n3r := (kbr.1 _ (o + k * 5 + 3) hbz1).trans n3
    have n4r := (kbr.1 _ (o + k * 5 + 4) hbz1).trans n4
    have q0 := (kbr.1 _ 0 hl1).trans y0
    have q1 := (kbr.1 _ 1 hl1).trans y1
    have q2 := (kbr.1 _ 2 hl1).trans y2
    have q3 := (kbr.1 _ 3 hl1).trans y3
    have q4 := (kbr.1 _ 4 hl1).trans y4
    have q5 := (kbr.1 _ 5 hl1).trans y5
    have q6 := (kbr.1 _ 6 hl1).trans y6
    have q7 := (kbr.1 _ 7 hl1).trans y7
    have q8 := (kbr.1 _ 8 hl1).trans y8
    have q9 := (kbr.1 _ 9 hl1).trans y9
    have q10 := (kbr.1 _ 10 hl1).trans y10
    have q11 := (kbr.1 _ 11 hl1).trans y11
    have hgw := gcell' (show Below wr.heap.size wr wr from Below.refl _ _) (Nat.le_refl _)
    have hB1 := Nat.lt_of_lt_of_le hl1 hzr
    have hB2 := Nat.lt_of_lt_of_le hbz1 hzr
    clear kbr n0 n1 n2 n3 n4 y0 y1 y2 y3 y4 y5 y6 y7 y8 y9 y10 y11 hE
    cases z with
    | false =>
     replace hlo := hide (hlo.out hFk)
     replace hFk := hide hFk
     go_wp2_with fail
     refine wp_region_quiet_below (by kernel_rfl) (by kernel_rfl) ?_
     repeat (any_goals (first | go_big_quiet_step ((go_at_call 72; with_reducible exact Calls.regrown_of (hX _ _).out)) | quiet_step ((go_at_call 72; with_reducible exact Calls.regrown_of (hX _ _).out))))
     refine wpQuiet_nil ?_
     intro wq hwq
     replace hwq := below_of_regrown hwq
     go_wp2
     go_ret
     exact ⟨ret_b (by rw [hv.out, hlo.out]), hgo.out _ hwq⟩
    | true =>
     replace hN := hide (hN.out hFk)
     replace hFk := hide hFk
     go_wp2_with fail
     refine wp_region_quiet_below (by kernel_rfl) (by kernel_rfl) ?_
     repeat (any_goals (first | go_big_quiet_step ((go_at_call 72; with_reducible exact Calls.regrown_of (hX _ _).out)) | quiet_step ((go_at_call 72; with_reducible exact Calls.regrown_of (hX _ _).out))))
     refine wpQuiet_nil ?_
     intro wq hwq
     replace hwq := below_of_regrown hwq
     go_wp2
     go_roundw
     case rel => exact ⟨k + 1, by omega, by go_num, hN, hide (hgG.out _ hwq)⟩
     case measure => simp [intOf]; omega
   ·have hke : k = l.length := by omega
    subst hke
    go_wp2
    go_ret
    exact ⟨ret_b (by rw [hv.out, hcn.out]), hgo.out _ (Below.refl _ _)⟩
end Go.Proofs.YtmfpbahifhndjaaGreat

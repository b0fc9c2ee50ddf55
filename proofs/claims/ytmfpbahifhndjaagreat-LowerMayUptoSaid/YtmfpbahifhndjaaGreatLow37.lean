import Derived.Test.YtmfpbahifhndjaaGreatLow36
set_option linter.all false
/-! Layer 10: what an instruction asks. -/
set_option linter.all false
namespace Go.Proofs.YtmfpbahifhndjaaGreat
open Go.RowKit
def TabV (v : Value) : Prop := ∃ A1 n1 c1 A2 n2 c2 A3 n3 c3 i A4 n4 c4, v = .agg #[.slice A1 n1 c1, .slice A2 n2 c2, .slice A3 n3 c3, .int .i64 i, .slice A4 n4 c4]
set_option maxHeartbeats 1000000 in
theorem atT2_any (A : Option Addr) (cap : Nat) (xs : List Ltb) (i : Int) (w : World) (h : Sl 5 rLtb w w.heap.size A xs) :
  Calls Tryz.prog 89 #[.slice A xs.length cap, .int .i64 i] w fun e w' => ∃ v, (TabV v ∧ e = .returned (.tuple #[v, .bool (inB xs.length i)])) ∧ Below w.heap.size w w' := by
 have hl := h.len
 go_enter Tryz.func89, Tryz.ntmps89
 by_cases h0 : i < 0
 ·have e2 := hide (inB_no (n := xs.length) (i := i) (by omega))
  go_wp2
  refine bodyPost_ret (v := .tuple #[.agg #[.slice none 0 0, .slice none 0 0, .slice none 0 0, .int .i64 0, .slice none 0 0], .bool false]) (by simp [results, Tryz.results89, go_sem]) rfl ?_
  exact ⟨_, ⟨⟨none, 0, 0, none, 0, 0, none, 0, 0, 0, none, 0, 0, rfl⟩, by rw [e2.out]⟩, (Below.refl _ _).alloc (Nat.le_refl _) _⟩
 ·by_cases h1 : (xs.length : Int) ≤ i
  ·have e2 := hide (inB_no (n := xs.length) (i := i) (by omega))
   go_wp2
   refine bodyPost_ret (v := .tuple #[.agg #[.slice none 0 0, .slice none 0 0, .slice none 0 0, .int .i64 0, .slice none 0 0], .bool false]) (by simp [results, Tryz.results89, go_sem]) rfl ?_
   exact ⟨⟨_, ⟨none, 0, 0, none, 0, 0, none, 0, 0, 0, none, 0, 0, rfl⟩, by rw [e2.out]⟩, (Below.refl _ _).alloc (Nat.le_refl _) _⟩
  ·obtain ⟨k, rfl, hk⟩ := nat_of h0 h1
   have e2 := hide (inB_at hk)
   obtain ⟨b, o, ecs, rfl, hb, hn, hcell, A1, A2, A3, A4, c1, c2, c3, c4, rfl, -⟩ := h.2 k _ (List.getElem?_eq_getElem hk)
   have x0 : w.cell? ⟨b, o + k * 5, none⟩ = some (.slice A1 xs[k].keys.length c1) := hcell 0 _ rfl
   have x1 : w.cell? ⟨b, o + k * 5 + 1, none⟩ = some (.slice A2 xs[k].kinds.length c2) := hcell 1 _ rfl
   have x2 : w.cell? ⟨b, o + k * 5 + 2, none⟩ = some (.slice A3 xs[k].acts.length c3) := hcell 2 _ rfl
   have x3 : w.cell? ⟨b, o + k * 5 + 3, none⟩ = some (.int .i64 xs[k].run.act) := hcell 3 _ rfl
   have x4 : w.cell? ⟨b, o + k * 5 + 4, none⟩ = some (.slice A4 xs[k].run.args.length c4) := hcell 4 _ rfl
   have hki : (k : Int) < (xs.length : Int) := by omega
   clear h hcell hn
   go_wp2
   refine bodyPost_ret (v := .tuple #[.agg #[.slice A1 xs[k].keys.length c1, .slice A2 xs[k].kinds.length c2, .slice A3 xs[k].acts.length c3, .int .i64 xs[k].run.act, .slice A4 xs[k].run.args.length c4], .bool true]) (by simp [results, Tryz.results89, go_sem]) rfl ?_
   exact ⟨⟨_, ⟨A1, _, c1, A2, _, c2, A3, _, c3, _, A4, _, c4, rfl⟩, by rw [e2.out]⟩, (Below.refl _ _).alloc (Nat.le_refl _) _⟩
set_option maxRecDepth 100000 in
set_option maxHeartbeats 4000000 in
theorem target_any (A1 A2 A3 A4 A5 A6 A7 A8 A9 A10 A11 A12 : Option Addr) (p : Lp) (c1 c2 c3 c4 c5 c6 c7 c8 c9 c10 c11 c12 : Nat) (x : Ins) (A' : Option Addr) (c' : Nat) (w : World) (h : LpS w w.heap.size A1 A2 A3 A4 A5 A6 A7 A8 A9 A10 A11 A12 p) :
  Calls Tryz.prog 60 #[.agg #[.slice A1 p.heads.length c1, .slice A2 p.metas.length c2, .slice A3 p.steps.length c3, .slice A4 p.acts.length c4, .slice A5 p.tabs.length c5, .slice A6 p.control.length c6, .slice A7 p.emit.length c7, .slice A8 p.nh.length c8, .slice A9 p.nf.length c9, .slice A10 p.nm.length c10, .slice A11 p.na.length c11, .slice A12 p.nt.length c12], .agg #[.int .u8 x.kind, .int .i64 x.a, .int .i64 x.b, .slice A' x.e.length c', .int .i64 x.to]] w fun e w' => e = .returned (.tuple #[.int .i64 (tgt p x).1, .bool (tgt p x).2]) ∧ Below w.heap.size w w' := by
 obtain ⟨kd, a, b, ec, tt⟩ := x
 simp only
 obtain ⟨wz, hwz, hsz, hbz, hcz, -⟩ := box1 w #[.slice A1 p.heads.length c1, .slice A2 p.metas.length c2, .slice A3 p.steps.length c3, .slice A4 p.acts.length c4, .slice A5 p.tabs.length c5, .slice A6 p.control.length c6, .slice A7 p.emit.length c7, .slice A8 p.nh.length c8, .slice A9 p.nf.length c9, .slice A10 p.nm.length c10, .slice A11 p.na.length c11, .slice A12 p.nt.length c12] 33
 obtain ⟨wa, hwa, hsa, hba, hca, -⟩ := box1 wz #[.int .u8 kd, .int .i64 a, .int .i64 b, .slice A' ec.length c', .int .i64 tt] 105
 have Y := fun i => (hba.cell (p := ⟨w.heap.size, i, none⟩) (by show w.heap.size < _; omega)).trans (hcz i)
 have y0 := Y 0
 have y1 := Y 1
 have y4 := Y 4
 simp only [List.getElem?_toArray, List.getElem?_cons_zero, List.getElem?_cons_succ] at y0 y1 y4
 rw [hsz] at hca
 have x0 : wa.cell? ⟨w.heap.size + 1, 0, none⟩ = some (.int .u8 kd) := hca 0
 have x1 : wa.cell? ⟨w.heap.size + 1, 1, none⟩ = some (.int .i64 a) := hca 1
 have x2 : wa.cell? ⟨w.heap.size + 1, 2, none⟩ = some (.int .i64 b) := hca 2
 have hl1 : w.heap.size < wa.heap.size := by omega
 have hl2 : w.heap.size + 1 < wa.heap.size := by omega
 have hw : Below w.heap.size w wa := hbz.trans (hba.mono (by omega))
 have hS := (h.below hw).more hw.size
 have hA1 := hide hS.heads
 have hA2 := hide hS.metas
 have hA5 := hide hS.tabs
 have hwd := hide (fun m => hw.trans (below_drewN ((Below.refl wa.heap.size wa).mono hw.size) m))
 replace hw := hide hw
 replace hsa := hide hsa
 clear hca hcz hba hbz h hS Y
 go_enter Tryz.func60, Tryz.ntmps60
 by_cases k1 : kd = 1
 ·subst k1
  have hv := hide (show tgt p ⟨1, a, b, ec, tt⟩ = (at0 ((nth p.heads a).getD []) b, inB ((nth p.heads a).getD []).length b) from rfl)
  go_wp2_with (first | (go_at_call 86; refine (atL_any _ _ _ _ _ hA1.out).mono ?_; rintro e w' ⟨A', c', rfl, hs, rfl⟩) | (go_at_call 87; refine (atI_any _ _ _ _ _ hs).mono ?_; rintro e w' ⟨rfl, rfl⟩))
  exact bodyPost_ret (results_tmp2 rfl _ _ _) rfl ⟨by rw [hv.out] <;> rfl, hw.out⟩
 ·by_cases k2 : kd = 2
  ·subst k2
   have hv := hide (show tgt p ⟨2, a, b, ec, tt⟩ = (at0 p.metas a, inB p.metas.length a && decide (b = 0)) from rfl)
   have hC := atI_any A2 c2 p.metas a wa hA2.out
   cases hz : inB p.metas.length a
   ·rw [hz] at hC hv
    replace hC := hide hC
    go_wp2_with (go_at_call 87; refine hC.out.mono ?_; rintro e w' ⟨rfl, rfl⟩)
    go_quiet (fail)
    go_wp2
    exact bodyPost_ret (results_tmp2 rfl _ _ _) rfl ⟨by rw [hv.out] <;> rfl, hwd.out _⟩
   ·rw [hz] at hC hv
    replace hC := hide hC
    by_cases hb : b = 0
    ·subst hb
     go_wp2_with (go_at_call 87; refine hC.out.mono ?_; rintro e w' ⟨rfl, rfl⟩)
     go_quiet (fail)
     go_wp2
     exact bodyPost_ret (results_tmp2 rfl _ _ _) rfl ⟨by rw [hv.out] <;> rfl, hwd.out _⟩
    ·have hbz : (b == 0) = false := beq_eq_false_iff_ne.2 hb
     rw [decide_eq_false hb] at hv
     go_wp2_with (go_at_call 87; refine hC.out.mono ?_; rintro e w' ⟨rfl, rfl⟩)
     go_quiet (fail)
     go_wp2
     exact bodyPost_ret (results_tmp2 rfl _ _ _) rfl ⟨by rw [hv.out] <;> rfl, hwd.out _⟩
  ·by_cases k3 : kd = 3
   ·subst k3
    have hv := hide (show tgt p ⟨3, a, b, ec, tt⟩ = (0, inB p.tabs.length a && decide (b = 0)) from rfl)
    have hC := atT2_any A5 c5 p.tabs a wa hA5.out
    cases hz : inB p.tabs.length a
    ·rw [hz] at hC hv
     replace hC := hide hC
     go_wp2_with (go_at_call 89; refine hC.out.mono ?_; rintro e w3 ⟨v, ⟨⟨B1, m1, d1, B2, m2, d2, B3, m3, d3, i3, B4, m4, d4, rfl⟩, rfl⟩, hb3⟩; have kb3 := bcell hb3; have hq := Nat.lt_of_lt_of_le hl2 hb3.size; have hE := hide (fun o m => hw.out.trans (below_drewN ((hb3.alloc hb3.size o).mono hw.out.size) m)))
     go_quiet (fail)
     go_wp2
     exact bodyPost_ret (results_tmp2 rfl _ _ _) rfl ⟨by rw [hv.out] <;> rfl, hE.out _ _⟩
    ·rw [hz] at hC hv
     replace hC := hide hC
     by_cases hb : b = 0
     ·subst hb
      go_wp2_with (go_at_call 89; refine hC.out.mono ?_; rintro e w3 ⟨v, ⟨⟨B1, m1, d1, B2, m2, d2, B3, m3, d3, i3, B4, m4, d4, rfl⟩, rfl⟩, hb3⟩; have kb3 := bcell hb3; have hq := Nat.lt_of_lt_of_le hl2 hb3.size; have hE := hide (fun o m => hw.out.trans (below_drewN ((hb3.alloc hb3.size o).mono hw.out.size) m)))
      go_quiet (fail)
      go_wp2
      exact bodyPost_ret (results_tmp2 rfl _ _ _) rfl ⟨by rw [hv.out] <;> rfl, hE.out _ _⟩
     ·have hbz : (b == 0) = false := beq_eq_false_iff_ne.2 hb
      rw [decide_eq_false hb] at hv
      go_wp2_with (go_at_call 89; refine hC.out.mono ?_; rintro e w3 ⟨v, ⟨⟨B1, m1, d1, B2, m2, d2, B3, m3, d3, i3, B4, m4, d4, rfl⟩, rfl⟩, hb3⟩; have kb3 := bcell hb3; have hq := Nat.lt_of_lt_of_le hl2 hb3.size; have hE := hide (fun o m => hw.out.trans (below_drewN ((hb3.alloc hb3.size o).mono hw.out.size) m)))
      go_quiet (fail)
      go_wp2
      exact bodyPost_ret (results_tmp2 rfl _ _ _) rfl ⟨by rw [hv.out] <;> rfl, hE.out _ _⟩
   ·by_cases k6 : kd = 6
    ·subst k6
     have hv := hide (show tgt p ⟨6, a, b, ec, tt⟩ = (0, inB p.heads.length a && (decide (b = 0) || decide (b = 1))) from rfl)
     have hC := atL_any A1 c1 p.heads a wa hA1.out
     cases hz : inB p.heads.length a
     ·rw [hz] at hC hv
      replace hC := hide hC
      go_wp2_with (go_at_call 86; refine hC.out.mono ?_; rintro e w' ⟨A', c', rfl, hs, rfl⟩)
      go_quiet (fail)
      go_wp2
      exact bodyPost_ret (results_tmp2 rfl _ _ _) rfl ⟨by rw [hv.out] <;> rfl, hwd.out _⟩
     ·rw [hz] at hC hv
      replace hC := hide hC
      by_cases hb : b = 0
      ·subst hb
       go_wp2_with (go_at_call 86; refine hC.out.mono ?_; rintro e w' ⟨A', c', rfl, hs, rfl⟩)
       go_quiet (fail)
       go_wp2
       exact bodyPost_ret (results_tmp2 rfl _ _ _) rfl ⟨by rw [hv.out] <;> rfl, hwd.out _⟩
      ·have hbz : (b == 0) = false := beq_eq_false_iff_ne.2 hb
       rw [decide_eq_false hb] at hv
       by_cases hb1 : b = 1
       ·subst hb1
        go_wp2_with (go_at_call 86; refine hC.out.mono ?_; rintro e w' ⟨A', c', rfl, hs, rfl⟩)
        go_quiet (fail)
        go_wp2
        exact bodyPost_ret (results_tmp2 rfl _ _ _) rfl ⟨by rw [hv.out] <;> rfl, hwd.out _⟩
       ·have hbz1 : (b == 1) = false := beq_eq_false_iff_ne.2 hb1
        rw [decide_eq_false hb1] at hv
        go_wp2_with (go_at_call 86; refine hC.out.mono ?_; rintro e w' ⟨A', c', rfl, hs, rfl⟩)
        go_quiet (fail)
        go_wp2
        exact bodyPost_ret (results_tmp2 rfl _ _ _) rfl ⟨by rw [hv.out] <;> rfl, hwd.out _⟩
    ·by_cases k7 : kd = 7 ∨ kd = 5
     ·have hv := hide (show tgt p ⟨kd, a, b, ec, tt⟩ = (if kd = 7 then 1 else 9, decide (a = 0) && decide (b = 0)) from by rcases k7 with rfl | rfl <;> rfl)
      by_cases ha : a = 0
      ·rw [decide_eq_true ha, Bool.true_and] at hv
       subst ha
       by_cases hb : b = 0
       ·rw [decide_eq_true hb] at hv
        subst hb
        rcases k7 with rfl | rfl
        all_goals
         go_wp2_with fail
         go_quiet (fail)
         go_wp2
         exact bodyPost_ret (results_tmp2 rfl _ _ _) rfl ⟨by rw [hv.out] <;> rfl, hwd.out _⟩
       ·have hbz : (b == 0) = false := beq_eq_false_iff_ne.2 hb
        rw [decide_eq_false hb] at hv
        rcases k7 with rfl | rfl
        all_goals
         go_wp2_with fail
         go_quiet (fail)
         go_wp2
         exact bodyPost_ret (results_tmp2 rfl _ _ _) rfl ⟨by rw [hv.out] <;> rfl, hwd.out _⟩
      ·have haz : (a == 0) = false := beq_eq_false_iff_ne.2 ha
       rw [decide_eq_false ha, Bool.false_and] at hv
       rcases k7 with rfl | rfl
       all_goals
        go_wp2_with fail
        go_quiet (fail)
        go_wp2
        exact bodyPost_ret (results_tmp2 rfl _ _ _) rfl ⟨by rw [hv.out] <;> rfl, hwd.out _⟩
     ·have hv := hide (show tgt p ⟨kd, a, b, ec, tt⟩ = (0, (decide (kd = 4) || decide (kd = 8)) && decide (a = 0) && decide (b = 0)) from by
       unfold tgt; simp only [if_neg k1, if_neg k2, if_neg k3, if_neg k6, if_neg (fun g => k7 (.inl g)), if_neg (fun g => k7 (.inr g))])
      simp only [not_or] at k7
      obtain ⟨k7, k5⟩ := k7
      have z1 := beq_eq_false_iff_ne.2 k1
      have z2 := beq_eq_false_iff_ne.2 k2
      have z3 := beq_eq_false_iff_ne.2 k3
      have z6 := beq_eq_false_iff_ne.2 k6
      have z7 := beq_eq_false_iff_ne.2 k7
      have z5 := beq_eq_false_iff_ne.2 k5
      by_cases k4 : kd = 4 ∨ kd = 8
      ·have hv2 := hide (show (decide (kd = 4) || decide (kd = 8)) = true from by rcases k4 with rfl | rfl <;> rfl)
       rw [hv2.out, Bool.true_and] at hv
       by_cases ha : a = 0
       ·rw [decide_eq_true ha, Bool.true_and] at hv
        subst ha
        by_cases hb : b = 0
        ·rw [decide_eq_true hb] at hv
         subst hb
         rcases k4 with rfl | rfl
         all_goals
          go_wp2_with fail
          go_quiet (fail)
          go_wp2
          exact bodyPost_ret (results_tmp2 rfl _ _ _) rfl ⟨by rw [hv.out] <;> rfl, hwd.out _⟩
        ·have hbz : (b == 0) = false := beq_eq_false_iff_ne.2 hb
         rw [decide_eq_false hb] at hv
         rcases k4 with rfl | rfl
         all_goals
          go_wp2_with fail
          go_quiet (fail)
          go_wp2
          exact bodyPost_ret (results_tmp2 rfl _ _ _) rfl ⟨by rw [hv.out] <;> rfl, hwd.out _⟩
       ·have haz : (a == 0) = false := beq_eq_false_iff_ne.2 ha
        rw [decide_eq_false ha, Bool.false_and] at hv
        rcases k4 with rfl | rfl
        all_goals
         go_wp2_with fail
         go_quiet (fail)
         go_wp2
         exact bodyPost_ret (results_tmp2 rfl _ _ _) rfl ⟨by rw [hv.out] <;> rfl, hwd.out _⟩
      ·simp only [not_or] at k4
       obtain ⟨k4, k8⟩ := k4
       rw [decide_eq_false k4, decide_eq_false k8] at hv
       have z4 := beq_eq_false_iff_ne.2 k4
       have z8 := beq_eq_false_iff_ne.2 k8
       go_wp2_with fail
       go_quiet (fail)
       go_wp2
       exact bodyPost_ret (results_tmp2 rfl _ _ _) rfl ⟨by rw [hv.out] <;> rfl, hwd.out _⟩
end Go.Proofs.YtmfpbahifhndjaaGreat

import Derived.Test.YtcgmkjpgaigmfaaGreatOnc34
set_option linter.all false
/-! Printed by gen_may.py. Layer 4: mayAction. -/
namespace Go.Proofs.YtcgmkjpgaigmfaaGreat
open Go.RowKit
set_option maxRecDepth 100000 in
set_option maxHeartbeats 1000000 in
theorem mayAction_any {m : Int} {B : Nat} (a : Ac) (cs : List Value) (w : World) (hB : B ≤ w.heap.size) (h0 : 0 < B) (hz : w.cell? ⟨0, 0, none⟩ = some (.int .i64 m)) (hr : rAc w B cs a) :
    Calls Tryz.prog 42 #[.agg cs.toArray] w fun r w' => r = .returned (.bool (acB a)) ∧ Below w.heap.size w w' := by
  obtain ⟨A1, c1, A2, c2, rfl, hn, hP, hS⟩ := hr
  have l1 := hP.len
  have l2 := hS.len
  obtain ⟨wa, hwa, hsa, hba, hca, -⟩ := box1 w #[.string a.name, .slice A1 a.params.length c1, .slice A2 a.body.length c2] 42
  have y0 : wa.cell? ⟨w.heap.size, 0, none⟩ = some (.string a.name) := hca 0
  have y1 : wa.cell? ⟨w.heap.size, 1, none⟩ = some (.slice A1 a.params.length c1) := hca 1
  have y2 : wa.cell? ⟨w.heap.size, 2, none⟩ = some (.slice A2 a.body.length c2) := hca 2
  have hb0 : Below wa.heap.size wa wa := Below.refl _ _
  have hBk := hide (show ∀ W, Below wa.heap.size wa W → Below w.heap.size w W from fun W hb => hba.trans (hb.mono (by omega)))
  have hc0 : ∀ W, Below wa.heap.size wa W → W.cell? ⟨0, 0, none⟩ = some (.int .i64 m) := fun W hb => ((hb.cell (p := ⟨0, 0, none⟩) (by show 0 < _; omega)).trans ((hba.cell (p := ⟨0, 0, none⟩) (by show 0 < _; omega)).trans hz))
  have hBW : ∀ W, Below wa.heap.size wa W → B ≤ W.heap.size := fun W hb => by have := hb.size; omega
  have hk : ∀ W, Below wa.heap.size wa W → Below B w W := fun W hb => (hba.trans (hb.mono (by omega))).mono hB
  have q1 := hide (fun W hb => isName_any a.name m W hn (hc0 W hb))
  have q2 := hide (fun (W : World) (hb : Below wa.heap.size wa W) => (fields_all a.params A1 c1 W (hBW W hb) h0 (hc0 W hb) (hP.below sta_fd (hk W hb))).mono (fun e w' h => (⟨h.1, hb.trans (h.2.mono hb.size)⟩ : e = _ ∧ Below wa.heap.size wa w')))
  have q3 := hide (fun (W : World) (hb : Below wa.heap.size wa W) => (mayb_of a.body (fun x _ => maySt_all x) A2 c2 W 1 (by omega) (hBW W hb) h0 (hc0 W hb) (hS.below sta_st (hk W hb))).mono (fun e w' h => (⟨h.1, hb.trans (h.2.mono hb.size)⟩ : e = _ ∧ Below wa.heap.size wa w')))
  have hv : acB a = (nameB a.name && (decide (a.params.length ≤ 8) && (a.params.all fdB && mayBlk a.body 1))) := by
    simp only [acB, Bool.and_assoc]
  rw [hv]
  generalize nameB a.name = z1 at q1 ⊢
  generalize a.params.all fdB = z2 at q2 ⊢
  generalize mayBlk a.body 1 = z3 at q3 ⊢
  show Calls _ _ #[.agg #[.string a.name, .slice A1 a.params.length c1, .slice A2 a.body.length c2]] _ _
  clear hca hba hc0 hBW hv hk hP hS hz
  cases z1 with
  | false =>
    go_enter Tryz.func42, Tryz.ntmps42
    go_wp2_with (first | (go_at_call 35; (with_reducible refine (q1.out _ (by assumption)).mono ?_; rintro e w1 ⟨rfl, rfl⟩)) | (go_at_call 36; refine (q2.out _ (by assumption)).mono ?_; rintro e w1 ⟨rfl, hb2⟩; have khb2 := bcell' hb2) | (go_at_call 45; refine (q3.out _ (by assumption)).mono ?_; rintro e w1 ⟨rfl, hb3⟩; have khb3 := bcell' hb3))
    go_ret
    exact ⟨ret_b (by simp), hBk.out _ (by assumption)⟩
  | true =>
    by_cases n1 : a.params.length ≤ 8
    · rw [decide_eq_true n1]
      have i1 : (a.params.length : Int) ≤ 8 := by omega
      cases z2 with
      | false =>
        go_enter Tryz.func42, Tryz.ntmps42
        go_wp2_with (first | (go_at_call 35; (with_reducible refine (q1.out _ (by assumption)).mono ?_; rintro e w1 ⟨rfl, rfl⟩)) | (go_at_call 36; refine (q2.out _ (by assumption)).mono ?_; rintro e w1 ⟨rfl, hb2⟩; have khb2 := bcell' hb2) | (go_at_call 45; refine (q3.out _ (by assumption)).mono ?_; rintro e w1 ⟨rfl, hb3⟩; have khb3 := bcell' hb3))
        go_ret
        exact ⟨ret_b (by simp), hBk.out _ (by assumption)⟩
      | true =>
        cases z3 with
        | false =>
          go_enter Tryz.func42, Tryz.ntmps42
          go_wp2_with (first | (go_at_call 35; (with_reducible refine (q1.out _ (by assumption)).mono ?_; rintro e w1 ⟨rfl, rfl⟩)) | (go_at_call 36; refine (q2.out _ (by assumption)).mono ?_; rintro e w1 ⟨rfl, hb2⟩; have khb2 := bcell' hb2) | (go_at_call 45; refine (q3.out _ (by assumption)).mono ?_; rintro e w1 ⟨rfl, hb3⟩; have khb3 := bcell' hb3))
          go_ret
          exact ⟨ret_b (by simp), hBk.out _ (by assumption)⟩
        | true =>
          go_enter Tryz.func42, Tryz.ntmps42
          go_wp2_with (first | (go_at_call 35; (with_reducible refine (q1.out _ (by assumption)).mono ?_; rintro e w1 ⟨rfl, rfl⟩)) | (go_at_call 36; refine (q2.out _ (by assumption)).mono ?_; rintro e w1 ⟨rfl, hb2⟩; have khb2 := bcell' hb2) | (go_at_call 45; refine (q3.out _ (by assumption)).mono ?_; rintro e w1 ⟨rfl, hb3⟩; have khb3 := bcell' hb3))
          go_ret
          exact ⟨ret_b (by simp), hBk.out _ (by assumption)⟩
    · rw [decide_eq_false n1]
      have i1 : ¬ ((a.params.length : Int) ≤ 8) := by omega
      go_enter Tryz.func42, Tryz.ntmps42
      go_wp2_with (first | (go_at_call 35; (with_reducible refine (q1.out _ (by assumption)).mono ?_; rintro e w1 ⟨rfl, rfl⟩)) | (go_at_call 36; refine (q2.out _ (by assumption)).mono ?_; rintro e w1 ⟨rfl, hb2⟩; have khb2 := bcell' hb2) | (go_at_call 45; refine (q3.out _ (by assumption)).mono ?_; rintro e w1 ⟨rfl, hb3⟩; have khb3 := bcell' hb3))
      go_ret
      exact ⟨ret_b (by simp), hBk.out _ (by assumption)⟩
end Go.Proofs.YtcgmkjpgaigmfaaGreat

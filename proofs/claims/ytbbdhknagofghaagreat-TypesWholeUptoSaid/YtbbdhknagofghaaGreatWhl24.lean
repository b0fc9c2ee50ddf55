import Derived.Test.YtbbdhknagofghaaGreatWhl22
import Derived.Test.YtbbdhknagofghaaGreatWhl23
set_option linter.all false
/-! Printed by gen_may.py. Layer 4: May. -/
namespace Go.Proofs.YtbbdhknagofghaaGreat
open Go.RowKit
theorem enters_hd : ∀ args w, (callFunc 57 args).run Tryz.prog w = .ok (.enter 57 args) w := enters_of Tryz.func57 (by kernel_rfl) rfl
theorem enters_mayst : ∀ args w, (callFunc 63 args).run Tryz.prog w = .ok (.enter 63 args) w := enters_of Tryz.func63 (by kernel_rfl) rfl
theorem enters_mayac : ∀ args w, (callFunc 65 args).run Tryz.prog w = .ok (.enter 65 args) w := enters_of Tryz.func65 (by kernel_rfl) rfl
theorem enters_mayta : ∀ args w, (callFunc 67 args).run Tryz.prog w = .ok (.enter 67 args) w := enters_of Tryz.func67 (by kernel_rfl) rfl
set_option maxRecDepth 100000 in
set_option maxHeartbeats 400000 in
theorem head_any {m : Int} {B : Nat} (h : Hd) (cs : List Value) (w : World) (hB : B ≤ w.heap.size) (h0 : 0 < B) (hz : w.cell? ⟨0, 0, none⟩ = some (.int .i64 m)) (hr : rHd w B cs h) :
  Calls Tryz.prog 57 #[.agg cs.toArray] w fun r w' => r = .returned (.bool (hdB h)) ∧ Below w.heap.size w w' := by
 obtain ⟨A1, c1, rfl, hn, hS⟩ := hr
 have l1 := hS.len
 obtain ⟨wa, hwa, hsa, hba, hca, -⟩ := box1 w #[.string h.name, .slice A1 h.fields.length c1] 66
 have y0 : wa.cell? ⟨w.heap.size, 0, none⟩ = some (.string h.name) := hca 0
 have y1 : wa.cell? ⟨w.heap.size, 1, none⟩ = some (.slice A1 h.fields.length c1) := hca 1
 have hb0 : Below wa.heap.size wa wa := Below.refl _ _
 have hBk := hide (show ∀ W, Below wa.heap.size wa W → Below w.heap.size w W from fun W hb => hba.trans (hb.mono (by omega)))
 have hc0 : ∀ W, Below wa.heap.size wa W → W.cell? ⟨0, 0, none⟩ = some (.int .i64 m) := fun W hb => ((hb.cell (p := ⟨0, 0, none⟩) (by show 0 < _; omega)).trans ((hba.cell (p := ⟨0, 0, none⟩) (by show 0 < _; omega)).trans hz))
 have hBW : ∀ W, Below wa.heap.size wa W → B ≤ W.heap.size := fun W hb => by have := hb.size; omega
 have hk : ∀ W, Below wa.heap.size wa W → Below B w W := fun W hb => (hba.trans (hb.mono (by omega))).mono hB
 have q1 := hide (fun W hb => isName_any h.name m W hn (hc0 W hb))
 have q2 := hide (fun (W : World) (hb : Below wa.heap.size wa W) => (fields_all h.fields A1 c1 W (hBW W hb) h0 (hc0 W hb) (hS.below sta_fd (hk W hb))).mono (fun e w' h => (⟨h.1, hb.trans (h.2.mono hb.size)⟩ : e = _ ∧ Below wa.heap.size wa w')))
 have hv : hdB h = (nameB h.name && (decide (1 ≤ h.fields.length) && (decide (h.fields.length ≤ 16) && h.fields.all fdB))) := by
  simp only [hdB, Bool.decide_and, Bool.and_assoc]
 rw [hv]
 generalize nameB h.name = z1 at q1 ⊢
 generalize h.fields.all fdB = z2 at q2 ⊢
 show Calls _ _ #[.agg #[.string h.name, .slice A1 h.fields.length c1]] _ _
 clear hca hba hc0 hBW hv hk hS hz
 cases z1 with
 | false =>
  go_enter Tryz.func57, Tryz.ntmps57
  go_wp2_with (first | (go_at_call 58; (with_reducible refine (q1.out _ (by assumption)).mono ?_; rintro e w1 ⟨rfl, rfl⟩)) | (go_at_call 59; refine (q2.out _ (by assumption)).mono ?_; rintro e w1 ⟨rfl, hb2⟩; have khb2 := bcell' hb2))
  go_ret
  exact ⟨ret_b (by first | (simp; done) | (simp; omega) | (simp; unfold wrap64; omega)), hBk.out _ (by assumption)⟩
 | true =>
  by_cases n1 : 1 ≤ h.fields.length
  ·rw [decide_eq_true n1]
   have i1 : 1 ≤ (h.fields.length : Int) := by omega
   by_cases n2 : h.fields.length ≤ 16
   ·rw [decide_eq_true n2]
    have i2 : (h.fields.length : Int) ≤ 16 := by omega
    cases z2 with
    | false =>
     go_enter Tryz.func57, Tryz.ntmps57
     go_wp2_with (first | (go_at_call 58; (with_reducible refine (q1.out _ (by assumption)).mono ?_; rintro e w1 ⟨rfl, rfl⟩)) | (go_at_call 59; refine (q2.out _ (by assumption)).mono ?_; rintro e w1 ⟨rfl, hb2⟩; have khb2 := bcell' hb2))
     go_ret
     exact ⟨ret_b (by first | (simp; done) | (simp; omega) | (simp; unfold wrap64; omega)), hBk.out _ (by assumption)⟩
    | true =>
     go_enter Tryz.func57, Tryz.ntmps57
     go_wp2_with (first | (go_at_call 58; (with_reducible refine (q1.out _ (by assumption)).mono ?_; rintro e w1 ⟨rfl, rfl⟩)) | (go_at_call 59; refine (q2.out _ (by assumption)).mono ?_; rintro e w1 ⟨rfl, hb2⟩; have khb2 := bcell' hb2))
     go_ret
     exact ⟨ret_b (by first | (simp; done) | (simp; omega) | (simp; unfold wrap64; omega)), hBk.out _ (by assumption)⟩
   ·rw [decide_eq_false n2]
    have i2 : ¬ ((h.fields.length : Int) ≤ 16) := by omega
    go_enter Tryz.func57, Tryz.ntmps57
    go_wp2_with (first | (go_at_call 58; (with_reducible refine (q1.out _ (by assumption)).mono ?_; rintro e w1 ⟨rfl, rfl⟩)) | (go_at_call 59; refine (q2.out _ (by assumption)).mono ?_; rintro e w1 ⟨rfl, hb2⟩; have khb2 := bcell' hb2))
    go_ret
    exact ⟨ret_b (by first | (simp; done) | (simp; omega) | (simp; unfold wrap64; omega)), hBk.out _ (by assumption)⟩
  ·rw [decide_eq_false n1]
   have i1 : ¬ (1 ≤ (h.fields.length : Int)) := by omega
   go_enter Tryz.func57, Tryz.ntmps57
   go_wp2_with (first | (go_at_call 58; (with_reducible refine (q1.out _ (by assumption)).mono ?_; rintro e w1 ⟨rfl, rfl⟩)) | (go_at_call 59; refine (q2.out _ (by assumption)).mono ?_; rintro e w1 ⟨rfl, hb2⟩; have khb2 := bcell' hb2))
   go_ret
   exact ⟨ret_b (by first | (simp; done) | (simp; omega) | (simp; unfold wrap64; omega)), hBk.out _ (by assumption)⟩
theorem heads_all {m : Int} {B : Nat} (l : List Hd) (A : Option Addr) (cap : Nat) (w : World) (hB : B ≤ w.heap.size) (h0 : 0 < B) (hz : w.cell? ⟨0, 0, none⟩ = some (.int .i64 m)) (h : Sl 2 rHd w B A l) :
  Calls Tryz.prog 61 #[.slice A l.length cap, .func (.func 57) #[] #[]] w fun e w' => e = .returned (.bool (l.all hdB)) ∧ Below w.heap.size w w' :=
 all_Header sta_hd 57 #[] enters_hd hdB A cap l w hB h (fun i x cs W hx hb hr hel => head_any x cs W (by have := hb.size; omega) h0 (zcell (by omega) hz hb) hr)
theorem states_all {m : Int} {B : Nat} (l : List Sa) (A : Option Addr) (cap : Nat) (w : World) (hB : B ≤ w.heap.size) (h0 : 0 < B) (hz : w.cell? ⟨0, 0, none⟩ = some (.int .i64 m)) (h : Sl 5 rSa w B A l) :
  Calls Tryz.prog 62 #[.slice A l.length cap, .func (.func 63) #[] #[]] w fun e w' => e = .returned (.bool (l.all saB)) ∧ Below w.heap.size w w' :=
 all_State sta_sa 63 #[] enters_mayst saB A cap l w hB h (fun i x cs W hx hb hr hel => mayState_any x cs W (by have := hb.size; omega) h0 (zcell (by omega) hz hb) hr)
theorem acts_all {m : Int} {B : Nat} (l : List Ac) (A : Option Addr) (cap : Nat) (w : World) (hB : B ≤ w.heap.size) (h0 : 0 < B) (hz : w.cell? ⟨0, 0, none⟩ = some (.int .i64 m)) (h : Sl 3 rAc w B A l) :
  Calls Tryz.prog 64 #[.slice A l.length cap, .func (.func 65) #[] #[]] w fun e w' => e = .returned (.bool (l.all acB)) ∧ Below w.heap.size w w' :=
 all_Action sta_ac 65 #[] enters_mayac acB A cap l w hB h (fun i x cs W hx hb hr hel => mayAction_any x cs W (by have := hb.size; omega) h0 (zcell (by omega) hz hb) hr)
theorem tabs_all {m : Int} {B : Nat} (l : List Ta) (A : Option Addr) (cap : Nat) (w : World) (hB : B ≤ w.heap.size) (h0 : 0 < B) (hz : w.cell? ⟨0, 0, none⟩ = some (.int .i64 m)) (h : Sl 5 rTa w B A l) :
  Calls Tryz.prog 66 #[.slice A l.length cap, .func (.func 67) #[] #[]] w fun e w' => e = .returned (.bool (l.all taB)) ∧ Below w.heap.size w w' :=
 all_Table sta_ta 67 #[] enters_mayta taB A cap l w hB h (fun i x cs W hx hb hr hel => mayTable_any x cs W (by have := hb.size; omega) h0 (zcell (by omega) hz hb) hr)
set_option maxRecDepth 100000 in
set_option maxHeartbeats 1000000 in
theorem may_any {m : Int} {B : Nat} (w : World) (A1 A2 A3 A4 A5 A6 A7 : Option Addr) (p : Pg) (c1 c2 c3 c4 c5 c6 c7 : Nat) (hB : B ≤ w.heap.size) (h0 : 0 < B) (hz : w.cell? ⟨0, 0, none⟩ = some (.int .i64 m)) (h : PgS w B A1 A2 A3 A4 A5 A6 A7 p) :
  Calls Tryz.prog 30 #[.agg #[.slice A1 p.headers.length c1, .slice A2 p.metas.length c2, .slice A3 p.states.length c3, .slice A4 p.actions.length c4, .slice A5 p.tables.length c5, .slice A6 p.control.length c6, .slice A7 p.emit.length c7]] w fun r w' => r = .returned (.bool (mayP p)) ∧ Below w.heap.size w w' := by
 have l1 := h.1.len
 have l2 := h.2.len
 have l3 := h.3.len
 have l4 := h.4.len
 have l5 := h.5.len
 have l6 := h.6.len
 have l7 := h.7.len
 obtain ⟨wa, hwa, hsa, hba, hca, -⟩ := box1 w #[.slice A1 p.headers.length c1, .slice A2 p.metas.length c2, .slice A3 p.states.length c3, .slice A4 p.actions.length c4, .slice A5 p.tables.length c5, .slice A6 p.control.length c6, .slice A7 p.emit.length c7] 30
 obtain ⟨y0, y1, y2, y3, y4, y5, y6⟩ := row7 (w := wa) (a := w.heap.size) fun i => hca i
 have hb0 : Below wa.heap.size wa wa := Below.refl _ _
 have hBk := hide (show ∀ W, Below wa.heap.size wa W → Below w.heap.size w W from fun W hb => hba.trans (hb.mono (by omega)))
 have hc0 : ∀ W, Below wa.heap.size wa W → W.cell? ⟨0, 0, none⟩ = some (.int .i64 m) := fun W hb => ((hb.cell (p := ⟨0, 0, none⟩) (by show 0 < _; omega)).trans ((hba.cell (p := ⟨0, 0, none⟩) (by show 0 < _; omega)).trans hz))
 have hBW : ∀ W, Below wa.heap.size wa W → B ≤ W.heap.size := fun W hb => by have := hb.size; omega
 have hk : ∀ W, Below wa.heap.size wa W → PgS W B A1 A2 A3 A4 A5 A6 A7 p := fun W hb => h.below ((hba.trans (hb.mono (by omega))).mono hB)
 have q1 := hide (fun (W : World) (hb : Below wa.heap.size wa W) => (heads_all p.headers A1 c1 W (hBW W hb) h0 (hc0 W hb) (hk W hb).headers).mono (fun e w' h => (⟨h.1, hb.trans (h.2.mono hb.size)⟩ : e = _ ∧ Below wa.heap.size wa w')))
 have q2 := hide (fun (W : World) (hb : Below wa.heap.size wa W) => (fields_all p.metas A2 c2 W (hBW W hb) h0 (hc0 W hb) (hk W hb).metas).mono (fun e w' h => (⟨h.1, hb.trans (h.2.mono hb.size)⟩ : e = _ ∧ Below wa.heap.size wa w')))
 have q3 := hide (fun (W : World) (hb : Below wa.heap.size wa W) => (states_all p.states A3 c3 W (hBW W hb) h0 (hc0 W hb) (hk W hb).states).mono (fun e w' h => (⟨h.1, hb.trans (h.2.mono hb.size)⟩ : e = _ ∧ Below wa.heap.size wa w')))
 have q4 := hide (fun (W : World) (hb : Below wa.heap.size wa W) => (acts_all p.actions A4 c4 W (hBW W hb) h0 (hc0 W hb) (hk W hb).actions).mono (fun e w' h => (⟨h.1, hb.trans (h.2.mono hb.size)⟩ : e = _ ∧ Below wa.heap.size wa w')))
 have q5 := hide (fun (W : World) (hb : Below wa.heap.size wa W) => (tabs_all p.tables A5 c5 W (hBW W hb) h0 (hc0 W hb) (hk W hb).tables).mono (fun e w' h => (⟨h.1, hb.trans (h.2.mono hb.size)⟩ : e = _ ∧ Below wa.heap.size wa w')))
 have q6 := hide (fun (W : World) (hb : Below wa.heap.size wa W) => (mayb_of p.control (fun x _ => maySt_all x) A6 c6 W 1 (by omega) (hBW W hb) h0 (hc0 W hb) (hk W hb).control).mono (fun e w' h => (⟨h.1, hb.trans (h.2.mono hb.size)⟩ : e = _ ∧ Below wa.heap.size wa w')))
 have q7 := hide (fun (W : World) (hb : Below wa.heap.size wa W) => (names_all p.emit A7 c7 W (hBW W hb) h0 (hc0 W hb) (hk W hb).emit).mono (fun e w' h => (⟨h.1, hb.trans (h.2.mono hb.size)⟩ : e = _ ∧ Below wa.heap.size wa w')))
 have hv : mayP p = (decide (p.headers.length ≤ 8) && (decide (p.metas.length ≤ 16) && (decide (1 ≤ p.states.length) && (decide (p.states.length ≤ 16) && (decide (p.actions.length ≤ 16) && (decide (p.tables.length ≤ 8) && (decide (p.emit.length ≤ 8) && (p.headers.all hdB && (p.metas.all fdB && (p.states.all saB && (p.actions.all acB && (p.tables.all taB && (mayBlk p.control 1 && p.emit.all nameB))))))))))))) := by
  simp only [mayP, manyB, Bool.decide_and, Bool.and_assoc]
 rw [hv]
 generalize p.headers.all hdB = z1 at q1 ⊢
 generalize p.metas.all fdB = z2 at q2 ⊢
 generalize p.states.all saB = z3 at q3 ⊢
 generalize p.actions.all acB = z4 at q4 ⊢
 generalize p.tables.all taB = z5 at q5 ⊢
 generalize mayBlk p.control 1 = z6 at q6 ⊢
 generalize p.emit.all nameB = z7 at q7 ⊢
 clear hca hba hc0 hBW hv hk hz h
 have eg1 := enters_hd
 by_cases n0 : p.headers.length ≤ 8
 ·rw [decide_eq_true n0]
  have i0 : (p.headers.length : Int) ≤ 8 := by omega
  by_cases n1 : p.metas.length ≤ 16
  ·rw [decide_eq_true n1]
   have i1 : (p.metas.length : Int) ≤ 16 := by omega
   by_cases n2 : 1 ≤ p.states.length
   ·rw [decide_eq_true n2]
    have i2 : 1 ≤ (p.states.length : Int) := by omega
    by_cases n3 : p.states.length ≤ 16
    ·rw [decide_eq_true n3]
     have i3 : (p.states.length : Int) ≤ 16 := by omega
     by_cases n4 : p.actions.length ≤ 16
     ·rw [decide_eq_true n4]
      have i4 : (p.actions.length : Int) ≤ 16 := by omega
      by_cases n5 : p.tables.length ≤ 8
      ·rw [decide_eq_true n5]
       have i5 : (p.tables.length : Int) ≤ 8 := by omega
       by_cases n6 : p.emit.length ≤ 8
       ·rw [decide_eq_true n6]
        have i6 : (p.emit.length : Int) ≤ 8 := by omega
        cases z1 with
        | false =>
         go_enter Tryz.func30, Tryz.ntmps30
         go_wp2_with (first | (go_at_call 61; refine (q1.out _ (by assumption)).mono ?_; rintro e w1 ⟨rfl, hb1⟩; have khb1 := bcell' hb1) | (go_at_call 59; refine (q2.out _ (by assumption)).mono ?_; rintro e w1 ⟨rfl, hb2⟩; have khb2 := bcell' hb2) | (go_at_call 62; refine (q3.out _ (by assumption)).mono ?_; rintro e w1 ⟨rfl, hb3⟩; have khb3 := bcell' hb3) | (go_at_call 64; refine (q4.out _ (by assumption)).mono ?_; rintro e w1 ⟨rfl, hb4⟩; have khb4 := bcell' hb4) | (go_at_call 66; refine (q5.out _ (by assumption)).mono ?_; rintro e w1 ⟨rfl, hb5⟩; have khb5 := bcell' hb5) | (go_at_call 68; refine (q6.out _ (by assumption)).mono ?_; rintro e w1 ⟨rfl, hb6⟩; have khb6 := bcell' hb6) | (go_at_call 69; refine (q7.out _ (by assumption)).mono ?_; rintro e w1 ⟨rfl, hb7⟩; have khb7 := bcell' hb7))
         go_ret
         exact ⟨ret_b (by first | (simp; done) | (simp; omega) | (simp; unfold wrap64; omega)), hBk.out _ (by assumption)⟩
        | true =>
         cases z2 with
         | false =>
          go_enter Tryz.func30, Tryz.ntmps30
          go_wp2_with (first | (go_at_call 61; refine (q1.out _ (by assumption)).mono ?_; rintro e w1 ⟨rfl, hb1⟩; have khb1 := bcell' hb1) | (go_at_call 59; refine (q2.out _ (by assumption)).mono ?_; rintro e w1 ⟨rfl, hb2⟩; have khb2 := bcell' hb2) | (go_at_call 62; refine (q3.out _ (by assumption)).mono ?_; rintro e w1 ⟨rfl, hb3⟩; have khb3 := bcell' hb3) | (go_at_call 64; refine (q4.out _ (by assumption)).mono ?_; rintro e w1 ⟨rfl, hb4⟩; have khb4 := bcell' hb4) | (go_at_call 66; refine (q5.out _ (by assumption)).mono ?_; rintro e w1 ⟨rfl, hb5⟩; have khb5 := bcell' hb5) | (go_at_call 68; refine (q6.out _ (by assumption)).mono ?_; rintro e w1 ⟨rfl, hb6⟩; have khb6 := bcell' hb6) | (go_at_call 69; refine (q7.out _ (by assumption)).mono ?_; rintro e w1 ⟨rfl, hb7⟩; have khb7 := bcell' hb7))
          go_ret
          exact ⟨ret_b (by first | (simp; done) | (simp; omega) | (simp; unfold wrap64; omega)), hBk.out _ (by assumption)⟩
         | true =>
          cases z3 with
          | false =>
           go_enter Tryz.func30, Tryz.ntmps30
           go_wp2_with (first | (go_at_call 61; refine (q1.out _ (by assumption)).mono ?_; rintro e w1 ⟨rfl, hb1⟩; have khb1 := bcell' hb1) | (go_at_call 59; refine (q2.out _ (by assumption)).mono ?_; rintro e w1 ⟨rfl, hb2⟩; have khb2 := bcell' hb2) | (go_at_call 62; refine (q3.out _ (by assumption)).mono ?_; rintro e w1 ⟨rfl, hb3⟩; have khb3 := bcell' hb3) | (go_at_call 64; refine (q4.out _ (by assumption)).mono ?_; rintro e w1 ⟨rfl, hb4⟩; have khb4 := bcell' hb4) | (go_at_call 66; refine (q5.out _ (by assumption)).mono ?_; rintro e w1 ⟨rfl, hb5⟩; have khb5 := bcell' hb5) | (go_at_call 68; refine (q6.out _ (by assumption)).mono ?_; rintro e w1 ⟨rfl, hb6⟩; have khb6 := bcell' hb6) | (go_at_call 69; refine (q7.out _ (by assumption)).mono ?_; rintro e w1 ⟨rfl, hb7⟩; have khb7 := bcell' hb7))
           go_ret
           exact ⟨ret_b (by first | (simp; done) | (simp; omega) | (simp; unfold wrap64; omega)), hBk.out _ (by assumption)⟩
          | true =>
           cases z4 with
           | false =>
            go_enter Tryz.func30, Tryz.ntmps30
            go_wp2_with (first | (go_at_call 61; refine (q1.out _ (by assumption)).mono ?_; rintro e w1 ⟨rfl, hb1⟩; have khb1 := bcell' hb1) | (go_at_call 59; refine (q2.out _ (by assumption)).mono ?_; rintro e w1 ⟨rfl, hb2⟩; have khb2 := bcell' hb2) | (go_at_call 62; refine (q3.out _ (by assumption)).mono ?_; rintro e w1 ⟨rfl, hb3⟩; have khb3 := bcell' hb3) | (go_at_call 64; refine (q4.out _ (by assumption)).mono ?_; rintro e w1 ⟨rfl, hb4⟩; have khb4 := bcell' hb4) | (go_at_call 66; refine (q5.out _ (by assumption)).mono ?_; rintro e w1 ⟨rfl, hb5⟩; have khb5 := bcell' hb5) | (go_at_call 68; refine (q6.out _ (by assumption)).mono ?_; rintro e w1 ⟨rfl, hb6⟩; have khb6 := bcell' hb6) | (go_at_call 69; refine (q7.out _ (by assumption)).mono ?_; rintro e w1 ⟨rfl, hb7⟩; have khb7 := bcell' hb7))
            go_ret
            exact ⟨ret_b (by first | (simp; done) | (simp; omega) | (simp; unfold wrap64; omega)), hBk.out _ (by assumption)⟩
           | true =>
            cases z5 with
            | false =>
             go_enter Tryz.func30, Tryz.ntmps30
             go_wp2_with (first | (go_at_call 61; refine (q1.out _ (by assumption)).mono ?_; rintro e w1 ⟨rfl, hb1⟩; have khb1 := bcell' hb1) | (go_at_call 59; refine (q2.out _ (by assumption)).mono ?_; rintro e w1 ⟨rfl, hb2⟩; have khb2 := bcell' hb2) | (go_at_call 62; refine (q3.out _ (by assumption)).mono ?_; rintro e w1 ⟨rfl, hb3⟩; have khb3 := bcell' hb3) | (go_at_call 64; refine (q4.out _ (by assumption)).mono ?_; rintro e w1 ⟨rfl, hb4⟩; have khb4 := bcell' hb4) | (go_at_call 66; refine (q5.out _ (by assumption)).mono ?_; rintro e w1 ⟨rfl, hb5⟩; have khb5 := bcell' hb5) | (go_at_call 68; refine (q6.out _ (by assumption)).mono ?_; rintro e w1 ⟨rfl, hb6⟩; have khb6 := bcell' hb6) | (go_at_call 69; refine (q7.out _ (by assumption)).mono ?_; rintro e w1 ⟨rfl, hb7⟩; have khb7 := bcell' hb7))
             go_ret
             exact ⟨ret_b (by first | (simp; done) | (simp; omega) | (simp; unfold wrap64; omega)), hBk.out _ (by assumption)⟩
            | true =>
             cases z6 with
             | false =>
              go_enter Tryz.func30, Tryz.ntmps30
              go_wp2_with (first | (go_at_call 61; refine (q1.out _ (by assumption)).mono ?_; rintro e w1 ⟨rfl, hb1⟩; have khb1 := bcell' hb1) | (go_at_call 59; refine (q2.out _ (by assumption)).mono ?_; rintro e w1 ⟨rfl, hb2⟩; have khb2 := bcell' hb2) | (go_at_call 62; refine (q3.out _ (by assumption)).mono ?_; rintro e w1 ⟨rfl, hb3⟩; have khb3 := bcell' hb3) | (go_at_call 64; refine (q4.out _ (by assumption)).mono ?_; rintro e w1 ⟨rfl, hb4⟩; have khb4 := bcell' hb4) | (go_at_call 66; refine (q5.out _ (by assumption)).mono ?_; rintro e w1 ⟨rfl, hb5⟩; have khb5 := bcell' hb5) | (go_at_call 68; refine (q6.out _ (by assumption)).mono ?_; rintro e w1 ⟨rfl, hb6⟩; have khb6 := bcell' hb6) | (go_at_call 69; refine (q7.out _ (by assumption)).mono ?_; rintro e w1 ⟨rfl, hb7⟩; have khb7 := bcell' hb7))
              go_ret
              exact ⟨ret_b (by first | (simp; done) | (simp; omega) | (simp; unfold wrap64; omega)), hBk.out _ (by assumption)⟩
             | true =>
              cases z7 with
              | false =>
               go_enter Tryz.func30, Tryz.ntmps30
               go_wp2_with (first | (go_at_call 61; refine (q1.out _ (by assumption)).mono ?_; rintro e w1 ⟨rfl, hb1⟩; have khb1 := bcell' hb1) | (go_at_call 59; refine (q2.out _ (by assumption)).mono ?_; rintro e w1 ⟨rfl, hb2⟩; have khb2 := bcell' hb2) | (go_at_call 62; refine (q3.out _ (by assumption)).mono ?_; rintro e w1 ⟨rfl, hb3⟩; have khb3 := bcell' hb3) | (go_at_call 64; refine (q4.out _ (by assumption)).mono ?_; rintro e w1 ⟨rfl, hb4⟩; have khb4 := bcell' hb4) | (go_at_call 66; refine (q5.out _ (by assumption)).mono ?_; rintro e w1 ⟨rfl, hb5⟩; have khb5 := bcell' hb5) | (go_at_call 68; refine (q6.out _ (by assumption)).mono ?_; rintro e w1 ⟨rfl, hb6⟩; have khb6 := bcell' hb6) | (go_at_call 69; refine (q7.out _ (by assumption)).mono ?_; rintro e w1 ⟨rfl, hb7⟩; have khb7 := bcell' hb7))
               go_ret
               exact ⟨ret_b (by first | (simp; done) | (simp; omega) | (simp; unfold wrap64; omega)), hBk.out _ (by assumption)⟩
              | true =>
               go_enter Tryz.func30, Tryz.ntmps30
               go_wp2_with (first | (go_at_call 61; refine (q1.out _ (by assumption)).mono ?_; rintro e w1 ⟨rfl, hb1⟩; have khb1 := bcell' hb1) | (go_at_call 59; refine (q2.out _ (by assumption)).mono ?_; rintro e w1 ⟨rfl, hb2⟩; have khb2 := bcell' hb2) | (go_at_call 62; refine (q3.out _ (by assumption)).mono ?_; rintro e w1 ⟨rfl, hb3⟩; have khb3 := bcell' hb3) | (go_at_call 64; refine (q4.out _ (by assumption)).mono ?_; rintro e w1 ⟨rfl, hb4⟩; have khb4 := bcell' hb4) | (go_at_call 66; refine (q5.out _ (by assumption)).mono ?_; rintro e w1 ⟨rfl, hb5⟩; have khb5 := bcell' hb5) | (go_at_call 68; refine (q6.out _ (by assumption)).mono ?_; rintro e w1 ⟨rfl, hb6⟩; have khb6 := bcell' hb6) | (go_at_call 69; refine (q7.out _ (by assumption)).mono ?_; rintro e w1 ⟨rfl, hb7⟩; have khb7 := bcell' hb7))
               go_ret
               exact ⟨ret_b (by first | (simp; done) | (simp; omega) | (simp; unfold wrap64; omega)), hBk.out _ (by assumption)⟩
       ·rw [decide_eq_false n6]
        have i6 : ¬ ((p.emit.length : Int) ≤ 8) := by omega
        go_enter Tryz.func30, Tryz.ntmps30
        go_wp2_with (first | (go_at_call 61; refine (q1.out _ (by assumption)).mono ?_; rintro e w1 ⟨rfl, hb1⟩; have khb1 := bcell' hb1) | (go_at_call 59; refine (q2.out _ (by assumption)).mono ?_; rintro e w1 ⟨rfl, hb2⟩; have khb2 := bcell' hb2) | (go_at_call 62; refine (q3.out _ (by assumption)).mono ?_; rintro e w1 ⟨rfl, hb3⟩; have khb3 := bcell' hb3) | (go_at_call 64; refine (q4.out _ (by assumption)).mono ?_; rintro e w1 ⟨rfl, hb4⟩; have khb4 := bcell' hb4) | (go_at_call 66; refine (q5.out _ (by assumption)).mono ?_; rintro e w1 ⟨rfl, hb5⟩; have khb5 := bcell' hb5) | (go_at_call 68; refine (q6.out _ (by assumption)).mono ?_; rintro e w1 ⟨rfl, hb6⟩; have khb6 := bcell' hb6) | (go_at_call 69; refine (q7.out _ (by assumption)).mono ?_; rintro e w1 ⟨rfl, hb7⟩; have khb7 := bcell' hb7))
        go_ret
        exact ⟨ret_b (by first | (simp; done) | (simp; omega) | (simp; unfold wrap64; omega)), hBk.out _ (by assumption)⟩
      ·rw [decide_eq_false n5]
       have i5 : ¬ ((p.tables.length : Int) ≤ 8) := by omega
       go_enter Tryz.func30, Tryz.ntmps30
       go_wp2_with (first | (go_at_call 61; refine (q1.out _ (by assumption)).mono ?_; rintro e w1 ⟨rfl, hb1⟩; have khb1 := bcell' hb1) | (go_at_call 59; refine (q2.out _ (by assumption)).mono ?_; rintro e w1 ⟨rfl, hb2⟩; have khb2 := bcell' hb2) | (go_at_call 62; refine (q3.out _ (by assumption)).mono ?_; rintro e w1 ⟨rfl, hb3⟩; have khb3 := bcell' hb3) | (go_at_call 64; refine (q4.out _ (by assumption)).mono ?_; rintro e w1 ⟨rfl, hb4⟩; have khb4 := bcell' hb4) | (go_at_call 66; refine (q5.out _ (by assumption)).mono ?_; rintro e w1 ⟨rfl, hb5⟩; have khb5 := bcell' hb5) | (go_at_call 68; refine (q6.out _ (by assumption)).mono ?_; rintro e w1 ⟨rfl, hb6⟩; have khb6 := bcell' hb6) | (go_at_call 69; refine (q7.out _ (by assumption)).mono ?_; rintro e w1 ⟨rfl, hb7⟩; have khb7 := bcell' hb7))
       go_ret
       exact ⟨ret_b (by first | (simp; done) | (simp; omega) | (simp; unfold wrap64; omega)), hBk.out _ (by assumption)⟩
     ·rw [decide_eq_false n4]
      have i4 : ¬ ((p.actions.length : Int) ≤ 16) := by omega
      go_enter Tryz.func30, Tryz.ntmps30
      go_wp2_with (first | (go_at_call 61; refine (q1.out _ (by assumption)).mono ?_; rintro e w1 ⟨rfl, hb1⟩; have khb1 := bcell' hb1) | (go_at_call 59; refine (q2.out _ (by assumption)).mono ?_; rintro e w1 ⟨rfl, hb2⟩; have khb2 := bcell' hb2) | (go_at_call 62; refine (q3.out _ (by assumption)).mono ?_; rintro e w1 ⟨rfl, hb3⟩; have khb3 := bcell' hb3) | (go_at_call 64; refine (q4.out _ (by assumption)).mono ?_; rintro e w1 ⟨rfl, hb4⟩; have khb4 := bcell' hb4) | (go_at_call 66; refine (q5.out _ (by assumption)).mono ?_; rintro e w1 ⟨rfl, hb5⟩; have khb5 := bcell' hb5) | (go_at_call 68; refine (q6.out _ (by assumption)).mono ?_; rintro e w1 ⟨rfl, hb6⟩; have khb6 := bcell' hb6) | (go_at_call 69; refine (q7.out _ (by assumption)).mono ?_; rintro e w1 ⟨rfl, hb7⟩; have khb7 := bcell' hb7))
      go_ret
      exact ⟨ret_b (by first | (simp; done) | (simp; omega) | (simp; unfold wrap64; omega)), hBk.out _ (by assumption)⟩
    ·rw [decide_eq_false n3]
     have i3 : ¬ ((p.states.length : Int) ≤ 16) := by omega
     go_enter Tryz.func30, Tryz.ntmps30
     go_wp2_with (first | (go_at_call 61; refine (q1.out _ (by assumption)).mono ?_; rintro e w1 ⟨rfl, hb1⟩; have khb1 := bcell' hb1) | (go_at_call 59; refine (q2.out _ (by assumption)).mono ?_; rintro e w1 ⟨rfl, hb2⟩; have khb2 := bcell' hb2) | (go_at_call 62; refine (q3.out _ (by assumption)).mono ?_; rintro e w1 ⟨rfl, hb3⟩; have khb3 := bcell' hb3) | (go_at_call 64; refine (q4.out _ (by assumption)).mono ?_; rintro e w1 ⟨rfl, hb4⟩; have khb4 := bcell' hb4) | (go_at_call 66; refine (q5.out _ (by assumption)).mono ?_; rintro e w1 ⟨rfl, hb5⟩; have khb5 := bcell' hb5) | (go_at_call 68; refine (q6.out _ (by assumption)).mono ?_; rintro e w1 ⟨rfl, hb6⟩; have khb6 := bcell' hb6) | (go_at_call 69; refine (q7.out _ (by assumption)).mono ?_; rintro e w1 ⟨rfl, hb7⟩; have khb7 := bcell' hb7))
     go_ret
     exact ⟨ret_b (by first | (simp; done) | (simp; omega) | (simp; unfold wrap64; omega)), hBk.out _ (by assumption)⟩
   ·rw [decide_eq_false n2]
    have i2 : ¬ (1 ≤ (p.states.length : Int)) := by omega
    go_enter Tryz.func30, Tryz.ntmps30
    go_wp2_with (first | (go_at_call 61; refine (q1.out _ (by assumption)).mono ?_; rintro e w1 ⟨rfl, hb1⟩; have khb1 := bcell' hb1) | (go_at_call 59; refine (q2.out _ (by assumption)).mono ?_; rintro e w1 ⟨rfl, hb2⟩; have khb2 := bcell' hb2) | (go_at_call 62; refine (q3.out _ (by assumption)).mono ?_; rintro e w1 ⟨rfl, hb3⟩; have khb3 := bcell' hb3) | (go_at_call 64; refine (q4.out _ (by assumption)).mono ?_; rintro e w1 ⟨rfl, hb4⟩; have khb4 := bcell' hb4) | (go_at_call 66; refine (q5.out _ (by assumption)).mono ?_; rintro e w1 ⟨rfl, hb5⟩; have khb5 := bcell' hb5) | (go_at_call 68; refine (q6.out _ (by assumption)).mono ?_; rintro e w1 ⟨rfl, hb6⟩; have khb6 := bcell' hb6) | (go_at_call 69; refine (q7.out _ (by assumption)).mono ?_; rintro e w1 ⟨rfl, hb7⟩; have khb7 := bcell' hb7))
    go_ret
    exact ⟨ret_b (by first | (simp; done) | (simp; omega) | (simp; unfold wrap64; omega)), hBk.out _ (by assumption)⟩
  ·rw [decide_eq_false n1]
   have i1 : ¬ ((p.metas.length : Int) ≤ 16) := by omega
   go_enter Tryz.func30, Tryz.ntmps30
   go_wp2_with (first | (go_at_call 61; refine (q1.out _ (by assumption)).mono ?_; rintro e w1 ⟨rfl, hb1⟩; have khb1 := bcell' hb1) | (go_at_call 59; refine (q2.out _ (by assumption)).mono ?_; rintro e w1 ⟨rfl, hb2⟩; have khb2 := bcell' hb2) | (go_at_call 62; refine (q3.out _ (by assumption)).mono ?_; rintro e w1 ⟨rfl, hb3⟩; have khb3 := bcell' hb3) | (go_at_call 64; refine (q4.out _ (by assumption)).mono ?_; rintro e w1 ⟨rfl, hb4⟩; have khb4 := bcell' hb4) | (go_at_call 66; refine (q5.out _ (by assumption)).mono ?_; rintro e w1 ⟨rfl, hb5⟩; have khb5 := bcell' hb5) | (go_at_call 68; refine (q6.out _ (by assumption)).mono ?_; rintro e w1 ⟨rfl, hb6⟩; have khb6 := bcell' hb6) | (go_at_call 69; refine (q7.out _ (by assumption)).mono ?_; rintro e w1 ⟨rfl, hb7⟩; have khb7 := bcell' hb7))
   go_ret
   exact ⟨ret_b (by first | (simp; done) | (simp; omega) | (simp; unfold wrap64; omega)), hBk.out _ (by assumption)⟩
 ·rw [decide_eq_false n0]
  have i0 : ¬ ((p.headers.length : Int) ≤ 8) := by omega
  go_enter Tryz.func30, Tryz.ntmps30
  go_wp2_with (first | (go_at_call 61; refine (q1.out _ (by assumption)).mono ?_; rintro e w1 ⟨rfl, hb1⟩; have khb1 := bcell' hb1) | (go_at_call 59; refine (q2.out _ (by assumption)).mono ?_; rintro e w1 ⟨rfl, hb2⟩; have khb2 := bcell' hb2) | (go_at_call 62; refine (q3.out _ (by assumption)).mono ?_; rintro e w1 ⟨rfl, hb3⟩; have khb3 := bcell' hb3) | (go_at_call 64; refine (q4.out _ (by assumption)).mono ?_; rintro e w1 ⟨rfl, hb4⟩; have khb4 := bcell' hb4) | (go_at_call 66; refine (q5.out _ (by assumption)).mono ?_; rintro e w1 ⟨rfl, hb5⟩; have khb5 := bcell' hb5) | (go_at_call 68; refine (q6.out _ (by assumption)).mono ?_; rintro e w1 ⟨rfl, hb6⟩; have khb6 := bcell' hb6) | (go_at_call 69; refine (q7.out _ (by assumption)).mono ?_; rintro e w1 ⟨rfl, hb7⟩; have khb7 := bcell' hb7))
  go_ret
  exact ⟨ret_b (by first | (simp; done) | (simp; omega) | (simp; unfold wrap64; omega)), hBk.out _ (by assumption)⟩
end Go.Proofs.YtbbdhknagofghaaGreat

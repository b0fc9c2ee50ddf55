import Derived.Test.YtbbdhknagofghaaGreatWhl21
set_option linter.all false
/-! Printed by gen_may.py. Layer 4: mayState. -/
namespace Go.Proofs.YtbbdhknagofghaaGreat
open Go.RowKit
theorem enters_case : ∀ args w, (callFunc 136 args).run Tryz.prog w = .ok (.enter 136 args) w := enters_of Tryz.func136 (by kernel_rfl) rfl
set_option maxRecDepth 100000 in
set_option maxHeartbeats 400000 in
theorem case_any {m : Int} {B : Nat} (keys : Nat) (A2 : Option Addr) (c2 bs : Nat) (c : Ca) (cs : List Value) (w : World) (hB : B ≤ w.heap.size) (h0 : 0 < B) (hz : w.cell? ⟨0, 0, none⟩ = some (.int .i64 m)) (hkl : keys ≤ maxLen) (hs3 : w.cell? ⟨bs, 3, none⟩ = some (.slice A2 keys c2)) (hr : rCa w B cs c) :
  Calls Tryz.prog 136 #[.agg cs.toArray, .pointer (some ⟨bs, 0, none⟩)] w fun r w' => r = .returned (.bool (caB keys c)) ∧ Below w.heap.size w w' := by
 obtain ⟨A1, c1, rfl, hn, hS⟩ := hr
 have l1 := hS.len
 have hkl' : keys ≤ 9223372036854775807 := hkl
 obtain ⟨wa, hwa, hsa, hba, hca, -⟩ := box1 w #[.bool c.dflt, .slice A1 c.sets.length c1, .string c.dest] 70
 obtain ⟨y0, y1, y2⟩ := row3 hca
 have hbs : bs < w.heap.size := World.block_lt_of_cell? w _ hs3
 have s3 : wa.cell? ⟨bs, 3, none⟩ = some (.slice A2 keys c2) := (hba.cell (p := ⟨bs, 3, none⟩) hbs).trans hs3
 have hb0 : Below wa.heap.size wa wa := Below.refl _ _
 have hBk := hide (show ∀ W, Below wa.heap.size wa W → Below w.heap.size w W from fun W hb => hba.trans (hb.mono (by omega)))
 have hc0 : ∀ W, Below wa.heap.size wa W → W.cell? ⟨0, 0, none⟩ = some (.int .i64 m) := fun W hb => ((hb.cell (p := ⟨0, 0, none⟩) (by show 0 < _; omega)).trans ((hba.cell (p := ⟨0, 0, none⟩) (by show 0 < _; omega)).trans hz))
 have hBW : ∀ W, Below wa.heap.size wa W → B ≤ W.heap.size := fun W hb => by have := hb.size; omega
 have hk : ∀ W, Below wa.heap.size wa W → Below B w W := fun W hb => (hba.trans (hb.mono (by omega))).mono hB
 have q1 := hide (fun W hb => isTarget_any c.dest m W hn (hc0 W hb))
 have q2 := hide (fun (W : World) (hb : Below wa.heap.size wa W) => (sets_all c.sets A1 c1 W (hBW W hb) h0 (hc0 W hb) (hS.below sta_se (hk W hb))).mono (fun e w' h => (⟨h.1, hb.trans (h.2.mono hb.size)⟩ : e = _ ∧ Below wa.heap.size wa w')))
 generalize hnn : (if c.dflt then 0 else keys) = n
 have hv : caB keys c = (targetB c.dest && (decide (c.sets.length = n) && c.sets.all seB)) := by
  simp only [caB, Bool.and_assoc, hnn]
 rw [hv]
 generalize targetB c.dest = z1 at q1 ⊢
 generalize c.sets.all seB = z2 at q2 ⊢
 show Calls _ _ #[.agg #[.bool c.dflt, .slice A1 c.sets.length c1, .string c.dest], .pointer (some ⟨bs, 0, none⟩)] _ _
 clear hca hba hc0 hBW hv hk hS hz hs3
 generalize c.dflt = df at *
 generalize c.sets.length = N at *
 cases df with
 | true =>
  obtain rfl : 0 = n := hnn
  cases z1 with
  | false =>
   go_enter Tryz.func136, Tryz.ntmps136
   go_wp2_with (first | (go_at_call 134; (with_reducible refine (q1.out _ (by assumption)).mono ?_; rintro e w1 ⟨rfl, rfl⟩)) | (go_at_call 137; refine (q2.out _ (by assumption)).mono ?_; rintro e w1 ⟨rfl, hb2⟩; have khb2 := bcell' hb2))
   go_ret
   exact ⟨ret_b (by first | (simp; done) | (simp; omega) | (simp; unfold wrap64; omega)), hBk.out _ (by assumption)⟩
  | true =>
   by_cases n1 : N = 0
   ·rw [decide_eq_true n1]
    subst n1
    cases z2 with
    | false =>
     go_enter Tryz.func136, Tryz.ntmps136
     go_wp2_with (first | (go_at_call 134; (with_reducible refine (q1.out _ (by assumption)).mono ?_; rintro e w1 ⟨rfl, rfl⟩)) | (go_at_call 137; refine (q2.out _ (by assumption)).mono ?_; rintro e w1 ⟨rfl, hb2⟩; have khb2 := bcell' hb2))
     go_ret
     exact ⟨ret_b (by first | (simp; done) | (simp; omega) | (simp; unfold wrap64; omega)), hBk.out _ (by assumption)⟩
    | true =>
     go_enter Tryz.func136, Tryz.ntmps136
     go_wp2_with (first | (go_at_call 134; (with_reducible refine (q1.out _ (by assumption)).mono ?_; rintro e w1 ⟨rfl, rfl⟩)) | (go_at_call 137; refine (q2.out _ (by assumption)).mono ?_; rintro e w1 ⟨rfl, hb2⟩; have khb2 := bcell' hb2))
     go_ret
     exact ⟨ret_b (by first | (simp; done) | (simp; omega) | (simp; unfold wrap64; omega)), hBk.out _ (by assumption)⟩
   ·rw [decide_eq_false n1]
    have i1 : ¬ ((N : Int) = 0) := by omega
    go_enter Tryz.func136, Tryz.ntmps136
    go_wp2_with (first | (go_at_call 134; (with_reducible refine (q1.out _ (by assumption)).mono ?_; rintro e w1 ⟨rfl, rfl⟩)) | (go_at_call 137; refine (q2.out _ (by assumption)).mono ?_; rintro e w1 ⟨rfl, hb2⟩; have khb2 := bcell' hb2))
    go_ret
    exact ⟨ret_b (by first | (simp; done) | (simp; omega) | (simp; unfold wrap64; omega)), hBk.out _ (by assumption)⟩
 | false =>
  obtain rfl : keys = n := hnn
  cases z1 with
  | false =>
   go_enter Tryz.func136, Tryz.ntmps136
   go_wp2_with (first | (go_at_call 134; (with_reducible refine (q1.out _ (by assumption)).mono ?_; rintro e w1 ⟨rfl, rfl⟩)) | (go_at_call 137; refine (q2.out _ (by assumption)).mono ?_; rintro e w1 ⟨rfl, hb2⟩; have khb2 := bcell' hb2))
   go_ret
   exact ⟨ret_b (by first | (simp; done) | (simp; omega) | (simp; unfold wrap64; omega)), hBk.out _ (by assumption)⟩
  | true =>
   by_cases n1 : N = keys
   ·rw [decide_eq_true n1]
    subst n1
    cases z2 with
    | false =>
     go_enter Tryz.func136, Tryz.ntmps136
     go_wp2_with (first | (go_at_call 134; (with_reducible refine (q1.out _ (by assumption)).mono ?_; rintro e w1 ⟨rfl, rfl⟩)) | (go_at_call 137; refine (q2.out _ (by assumption)).mono ?_; rintro e w1 ⟨rfl, hb2⟩; have khb2 := bcell' hb2))
     go_ret
     exact ⟨ret_b (by first | (simp; done) | (simp; omega) | (simp; unfold wrap64; omega)), hBk.out _ (by assumption)⟩
    | true =>
     go_enter Tryz.func136, Tryz.ntmps136
     go_wp2_with (first | (go_at_call 134; (with_reducible refine (q1.out _ (by assumption)).mono ?_; rintro e w1 ⟨rfl, rfl⟩)) | (go_at_call 137; refine (q2.out _ (by assumption)).mono ?_; rintro e w1 ⟨rfl, hb2⟩; have khb2 := bcell' hb2))
     go_ret
     exact ⟨ret_b (by first | (simp; done) | (simp; omega) | (simp; unfold wrap64; omega)), hBk.out _ (by assumption)⟩
   ·rw [decide_eq_false n1]
    have i1 : ¬ ((N : Int) = (keys : Int)) := by omega
    go_enter Tryz.func136, Tryz.ntmps136
    go_wp2_with (first | (go_at_call 134; (with_reducible refine (q1.out _ (by assumption)).mono ?_; rintro e w1 ⟨rfl, rfl⟩)) | (go_at_call 137; refine (q2.out _ (by assumption)).mono ?_; rintro e w1 ⟨rfl, hb2⟩; have khb2 := bcell' hb2))
    go_ret
    exact ⟨ret_b (by first | (simp; done) | (simp; omega) | (simp; unfold wrap64; omega)), hBk.out _ (by assumption)⟩
theorem cases_all {m : Int} {B : Nat} (keys : Nat) (A2 : Option Addr) (c2 bs : Nat) (l : List Ca) (A : Option Addr) (cap : Nat) (w : World) (hB : B ≤ w.heap.size) (h0 : 0 < B) (hz : w.cell? ⟨0, 0, none⟩ = some (.int .i64 m)) (hkl : keys ≤ maxLen) (hs3 : w.cell? ⟨bs, 3, none⟩ = some (.slice A2 keys c2)) (h : Sl 3 rCa w B A l) :
  Calls Tryz.prog 135 #[.slice A l.length cap, .func (.func 136) #[] #[.pointer (some ⟨bs, 0, none⟩)]] w fun e w' => e = .returned (.bool (l.all (caB keys))) ∧ Below w.heap.size w w' :=
 all_Case sta_ca 136 #[.pointer (some ⟨bs, 0, none⟩)] enters_case (caB keys) A cap l w hB h (fun i x cs W hx hb hr hel => case_any keys A2 c2 bs x cs W (by have := hb.size; omega) h0 (zcell (by omega) hz hb) hkl ((hb.cell (p := ⟨bs, 3, none⟩) (World.block_lt_of_cell? w _ hs3)).trans hs3) hr)
set_option maxRecDepth 100000 in
set_option maxHeartbeats 1000000 in
theorem mayState_any {m : Int} {B : Nat} (s : Sa) (cs : List Value) (w : World) (hB : B ≤ w.heap.size) (h0 : 0 < B) (hz : w.cell? ⟨0, 0, none⟩ = some (.int .i64 m)) (hr : rSa w B cs s) :
  Calls Tryz.prog 63 #[.agg cs.toArray] w fun r w' => r = .returned (.bool (saB s)) ∧ Below w.heap.size w w' := by
 obtain ⟨A1, c1, A2, c2, A3, c3, rfl, hn, hd, hT, hK, hC⟩ := hr
 have l1 := hT.len
 have l2 := hK.len
 have l3 := hC.len
 obtain ⟨wa, hwa, hsa, hba, hca, -⟩ := box1 w #[.string s.name, .slice A1 s.takes.length c1, .string s.dest, .slice A2 s.keys.length c2, .slice A3 s.cases_.length c3] 61
 obtain ⟨y0, y1, y2, y3, y4⟩ := row5 hca
 have hb0 : Below wa.heap.size wa wa := Below.refl _ _
 have hBk := hide (show ∀ W, Below wa.heap.size wa W → Below w.heap.size w W from fun W hb => hba.trans (hb.mono (by omega)))
 have hc0 : ∀ W, Below wa.heap.size wa W → W.cell? ⟨0, 0, none⟩ = some (.int .i64 m) := fun W hb => ((hb.cell (p := ⟨0, 0, none⟩) (by show 0 < _; omega)).trans ((hba.cell (p := ⟨0, 0, none⟩) (by show 0 < _; omega)).trans hz))
 have hBW : ∀ W, Below wa.heap.size wa W → B ≤ W.heap.size := fun W hb => by have := hb.size; omega
 have hk : ∀ W, Below wa.heap.size wa W → Below B w W := fun W hb => (hba.trans (hb.mono (by omega))).mono hB
 have q1 := hide (fun W hb => isName_any s.name m W hn (hc0 W hb))
 have q3 := hide (fun W hb => isTarget_any s.dest m W hd (hc0 W hb))
 have q2 := hide (fun (W : World) (hb : Below wa.heap.size wa W) => (names_all s.takes A1 c1 W (hBW W hb) h0 (hc0 W hb) (hT.below sta_str (hk W hb))).mono (fun e w' h => (⟨h.1, hb.trans (h.2.mono hb.size)⟩ : e = _ ∧ Below wa.heap.size wa w')))
 have q4 := hide (fun (W : World) (hb : Below wa.heap.size wa W) => (exprs_all s.keys A2 c2 W (hBW W hb) h0 (hc0 W hb) (hK.below sta_ex (hk W hb))).mono (fun e w' h => (⟨h.1, hb.trans (h.2.mono hb.size)⟩ : e = _ ∧ Below wa.heap.size wa w')))
 have q5 := hide (fun (W : World) (hb : Below wa.heap.size wa W) => (cases_all s.keys.length A2 c2 w.heap.size s.cases_ A3 c3 W (hBW W hb) h0 (hc0 W hb) l2 ((hb.cell (p := ⟨w.heap.size, 3, none⟩) (by show w.heap.size < _; omega)).trans y3) (hC.below sta_ca (hk W hb))).mono (fun e w' h => (⟨h.1, hb.trans (h.2.mono hb.size)⟩ : e = _ ∧ Below wa.heap.size wa w')))
 have eg := enters_case
 have hle : w.heap.size ≤ wa.heap.size := by omega
 by_cases hs : s.dest = strE
 ·have hv : saB s = (nameB s.name && (decide (s.takes.length ≤ 8) && (s.takes.all nameB && (decide (1 ≤ s.keys.length) && (decide (s.keys.length ≤ 4) && (decide (1 ≤ s.cases_.length) && (decide (s.cases_.length ≤ 16) && (s.keys.all mayE && s.cases_.all (caB s.keys.length))))))))) := by
   unfold saB
   rw [if_pos hs]
   simp only [Bool.decide_and, Bool.and_assoc]
  rw [hv]
  have e1 := emp_iff.1 hs
  generalize nameB s.name = z1 at q1 ⊢
  generalize s.takes.all nameB = z2 at q2 ⊢
  generalize s.keys.all mayE = z4 at q4 ⊢
  generalize s.cases_.all (caB s.keys.length) = z5 at q5 ⊢
  show Calls _ _ #[.agg #[.string s.name, .slice A1 s.takes.length c1, .string s.dest, .slice A2 s.keys.length c2, .slice A3 s.cases_.length c3]] _ _
  clear hca hba hc0 hBW hv hk hT hK hC hz hs q3
  cases z1 with
  | false =>
   go_enter Tryz.func63, Tryz.ntmps63
   go_wp2_with (first | (go_at_call 58; (with_reducible refine (q1.out _ (by assumption)).mono ?_; rintro e w1 ⟨rfl, rfl⟩)) | (go_at_call 69; refine (q2.out _ (by assumption)).mono ?_; rintro e w1 ⟨rfl, hb2⟩; have khb2 := bcell' hb2) | (go_at_call 52; refine (q4.out _ (by assumption)).mono ?_; rintro e w1 ⟨rfl, hb4⟩; have khb4 := bcell' hb4) | (go_at_call 135; refine (q5.out _ (by assumption)).mono ?_; rintro e w1 ⟨rfl, hb5⟩; have khb5 := bcell' hb5))
   go_ret
   exact ⟨ret_b (by first | (simp; done) | (simp; omega) | (simp; unfold wrap64; omega)), hBk.out _ (by assumption)⟩
  | true =>
   by_cases n1 : s.takes.length ≤ 8
   ·rw [decide_eq_true n1]
    have i1 : (s.takes.length : Int) ≤ 8 := by omega
    cases z2 with
    | false =>
     go_enter Tryz.func63, Tryz.ntmps63
     go_wp2_with (first | (go_at_call 58; (with_reducible refine (q1.out _ (by assumption)).mono ?_; rintro e w1 ⟨rfl, rfl⟩)) | (go_at_call 69; refine (q2.out _ (by assumption)).mono ?_; rintro e w1 ⟨rfl, hb2⟩; have khb2 := bcell' hb2) | (go_at_call 52; refine (q4.out _ (by assumption)).mono ?_; rintro e w1 ⟨rfl, hb4⟩; have khb4 := bcell' hb4) | (go_at_call 135; refine (q5.out _ (by assumption)).mono ?_; rintro e w1 ⟨rfl, hb5⟩; have khb5 := bcell' hb5))
     go_ret
     exact ⟨ret_b (by first | (simp; done) | (simp; omega) | (simp; unfold wrap64; omega)), hBk.out _ (by assumption)⟩
    | true =>
     by_cases n3 : 1 ≤ s.keys.length
     ·rw [decide_eq_true n3]
      have i3 : 1 ≤ (s.keys.length : Int) := by omega
      by_cases n4 : s.keys.length ≤ 4
      ·rw [decide_eq_true n4]
       have i4 : (s.keys.length : Int) ≤ 4 := by omega
       by_cases n5 : 1 ≤ s.cases_.length
       ·rw [decide_eq_true n5]
        have i5 : 1 ≤ (s.cases_.length : Int) := by omega
        by_cases n6 : s.cases_.length ≤ 16
        ·rw [decide_eq_true n6]
         have i6 : (s.cases_.length : Int) ≤ 16 := by omega
         cases z4 with
         | false =>
          go_enter Tryz.func63, Tryz.ntmps63
          go_wp2_with (first | (go_at_call 58; (with_reducible refine (q1.out _ (by assumption)).mono ?_; rintro e w1 ⟨rfl, rfl⟩)) | (go_at_call 69; refine (q2.out _ (by assumption)).mono ?_; rintro e w1 ⟨rfl, hb2⟩; have khb2 := bcell' hb2) | (go_at_call 52; refine (q4.out _ (by assumption)).mono ?_; rintro e w1 ⟨rfl, hb4⟩; have khb4 := bcell' hb4) | (go_at_call 135; refine (q5.out _ (by assumption)).mono ?_; rintro e w1 ⟨rfl, hb5⟩; have khb5 := bcell' hb5))
          go_ret
          exact ⟨ret_b (by first | (simp; done) | (simp; omega) | (simp; unfold wrap64; omega)), hBk.out _ (by assumption)⟩
         | true =>
          cases z5 with
          | false =>
           go_enter Tryz.func63, Tryz.ntmps63
           go_wp2_with (first | (go_at_call 58; (with_reducible refine (q1.out _ (by assumption)).mono ?_; rintro e w1 ⟨rfl, rfl⟩)) | (go_at_call 69; refine (q2.out _ (by assumption)).mono ?_; rintro e w1 ⟨rfl, hb2⟩; have khb2 := bcell' hb2) | (go_at_call 52; refine (q4.out _ (by assumption)).mono ?_; rintro e w1 ⟨rfl, hb4⟩; have khb4 := bcell' hb4) | (go_at_call 135; refine (q5.out _ (by assumption)).mono ?_; rintro e w1 ⟨rfl, hb5⟩; have khb5 := bcell' hb5))
           go_ret
           exact ⟨ret_b (by first | (simp; done) | (simp; omega) | (simp; unfold wrap64; omega)), hBk.out _ (by assumption)⟩
          | true =>
           go_enter Tryz.func63, Tryz.ntmps63
           go_wp2_with (first | (go_at_call 58; (with_reducible refine (q1.out _ (by assumption)).mono ?_; rintro e w1 ⟨rfl, rfl⟩)) | (go_at_call 69; refine (q2.out _ (by assumption)).mono ?_; rintro e w1 ⟨rfl, hb2⟩; have khb2 := bcell' hb2) | (go_at_call 52; refine (q4.out _ (by assumption)).mono ?_; rintro e w1 ⟨rfl, hb4⟩; have khb4 := bcell' hb4) | (go_at_call 135; refine (q5.out _ (by assumption)).mono ?_; rintro e w1 ⟨rfl, hb5⟩; have khb5 := bcell' hb5))
           go_ret
           exact ⟨ret_b (by first | (simp; done) | (simp; omega) | (simp; unfold wrap64; omega)), hBk.out _ (by assumption)⟩
        ·rw [decide_eq_false n6]
         have i6 : ¬ ((s.cases_.length : Int) ≤ 16) := by omega
         go_enter Tryz.func63, Tryz.ntmps63
         go_wp2_with (first | (go_at_call 58; (with_reducible refine (q1.out _ (by assumption)).mono ?_; rintro e w1 ⟨rfl, rfl⟩)) | (go_at_call 69; refine (q2.out _ (by assumption)).mono ?_; rintro e w1 ⟨rfl, hb2⟩; have khb2 := bcell' hb2) | (go_at_call 52; refine (q4.out _ (by assumption)).mono ?_; rintro e w1 ⟨rfl, hb4⟩; have khb4 := bcell' hb4) | (go_at_call 135; refine (q5.out _ (by assumption)).mono ?_; rintro e w1 ⟨rfl, hb5⟩; have khb5 := bcell' hb5))
         go_ret
         exact ⟨ret_b (by first | (simp; done) | (simp; omega) | (simp; unfold wrap64; omega)), hBk.out _ (by assumption)⟩
       ·rw [decide_eq_false n5]
        have i5 : ¬ (1 ≤ (s.cases_.length : Int)) := by omega
        go_enter Tryz.func63, Tryz.ntmps63
        go_wp2_with (first | (go_at_call 58; (with_reducible refine (q1.out _ (by assumption)).mono ?_; rintro e w1 ⟨rfl, rfl⟩)) | (go_at_call 69; refine (q2.out _ (by assumption)).mono ?_; rintro e w1 ⟨rfl, hb2⟩; have khb2 := bcell' hb2) | (go_at_call 52; refine (q4.out _ (by assumption)).mono ?_; rintro e w1 ⟨rfl, hb4⟩; have khb4 := bcell' hb4) | (go_at_call 135; refine (q5.out _ (by assumption)).mono ?_; rintro e w1 ⟨rfl, hb5⟩; have khb5 := bcell' hb5))
        go_ret
        exact ⟨ret_b (by first | (simp; done) | (simp; omega) | (simp; unfold wrap64; omega)), hBk.out _ (by assumption)⟩
      ·rw [decide_eq_false n4]
       have i4 : ¬ ((s.keys.length : Int) ≤ 4) := by omega
       go_enter Tryz.func63, Tryz.ntmps63
       go_wp2_with (first | (go_at_call 58; (with_reducible refine (q1.out _ (by assumption)).mono ?_; rintro e w1 ⟨rfl, rfl⟩)) | (go_at_call 69; refine (q2.out _ (by assumption)).mono ?_; rintro e w1 ⟨rfl, hb2⟩; have khb2 := bcell' hb2) | (go_at_call 52; refine (q4.out _ (by assumption)).mono ?_; rintro e w1 ⟨rfl, hb4⟩; have khb4 := bcell' hb4) | (go_at_call 135; refine (q5.out _ (by assumption)).mono ?_; rintro e w1 ⟨rfl, hb5⟩; have khb5 := bcell' hb5))
       go_ret
       exact ⟨ret_b (by first | (simp; done) | (simp; omega) | (simp; unfold wrap64; omega)), hBk.out _ (by assumption)⟩
     ·rw [decide_eq_false n3]
      have i3 : ¬ (1 ≤ (s.keys.length : Int)) := by omega
      go_enter Tryz.func63, Tryz.ntmps63
      go_wp2_with (first | (go_at_call 58; (with_reducible refine (q1.out _ (by assumption)).mono ?_; rintro e w1 ⟨rfl, rfl⟩)) | (go_at_call 69; refine (q2.out _ (by assumption)).mono ?_; rintro e w1 ⟨rfl, hb2⟩; have khb2 := bcell' hb2) | (go_at_call 52; refine (q4.out _ (by assumption)).mono ?_; rintro e w1 ⟨rfl, hb4⟩; have khb4 := bcell' hb4) | (go_at_call 135; refine (q5.out _ (by assumption)).mono ?_; rintro e w1 ⟨rfl, hb5⟩; have khb5 := bcell' hb5))
      go_ret
      exact ⟨ret_b (by first | (simp; done) | (simp; omega) | (simp; unfold wrap64; omega)), hBk.out _ (by assumption)⟩
   ·rw [decide_eq_false n1]
    have i1 : ¬ ((s.takes.length : Int) ≤ 8) := by omega
    go_enter Tryz.func63, Tryz.ntmps63
    go_wp2_with (first | (go_at_call 58; (with_reducible refine (q1.out _ (by assumption)).mono ?_; rintro e w1 ⟨rfl, rfl⟩)) | (go_at_call 69; refine (q2.out _ (by assumption)).mono ?_; rintro e w1 ⟨rfl, hb2⟩; have khb2 := bcell' hb2) | (go_at_call 52; refine (q4.out _ (by assumption)).mono ?_; rintro e w1 ⟨rfl, hb4⟩; have khb4 := bcell' hb4) | (go_at_call 135; refine (q5.out _ (by assumption)).mono ?_; rintro e w1 ⟨rfl, hb5⟩; have khb5 := bcell' hb5))
    go_ret
    exact ⟨ret_b (by first | (simp; done) | (simp; omega) | (simp; unfold wrap64; omega)), hBk.out _ (by assumption)⟩
 ·have hv : saB s = (nameB s.name && (decide (s.takes.length ≤ 8) && (s.takes.all nameB && (targetB s.dest && decide (s.keys.length + s.cases_.length = 0))))) := by
   unfold saB
   rw [if_neg hs]
   have : (s.keys.isEmpty && s.cases_.isEmpty) = decide (s.keys.length + s.cases_.length = 0) := by
    cases s.keys <;> cases s.cases_ <;> simp
   rw [← this]
   simp only [Bool.and_assoc]
  rw [hv]
  have e1 : s.dest.toList.isEmpty = false := by rw [Bool.eq_false_iff]; exact fun h => hs (emp_iff.2 (List.isEmpty_iff.1 h))
  generalize nameB s.name = z1 at q1 ⊢
  generalize s.takes.all nameB = z2 at q2 ⊢
  generalize targetB s.dest = z3 at q3 ⊢
  show Calls _ _ #[.agg #[.string s.name, .slice A1 s.takes.length c1, .string s.dest, .slice A2 s.keys.length c2, .slice A3 s.cases_.length c3]] _ _
  clear hca hba hc0 hBW hv hk hT hK hC hz hs q4 q5
  cases z1 with
  | false =>
   go_enter Tryz.func63, Tryz.ntmps63
   go_wp2_with (first | (go_at_call 58; (with_reducible refine (q1.out _ (by assumption)).mono ?_; rintro e w1 ⟨rfl, rfl⟩)) | (go_at_call 134; (with_reducible refine (q3.out _ (by assumption)).mono ?_; rintro e w1 ⟨rfl, rfl⟩)) | (go_at_call 69; refine (q2.out _ (by assumption)).mono ?_; rintro e w1 ⟨rfl, hb2⟩; have khb2 := bcell' hb2))
   go_ret
   exact ⟨ret_b (by first | (simp; done) | (simp; omega) | (simp; unfold wrap64; omega)), hBk.out _ (by assumption)⟩
  | true =>
   by_cases n1 : s.takes.length ≤ 8
   ·rw [decide_eq_true n1]
    have i1 : (s.takes.length : Int) ≤ 8 := by omega
    cases z2 with
    | false =>
     go_enter Tryz.func63, Tryz.ntmps63
     go_wp2_with (first | (go_at_call 58; (with_reducible refine (q1.out _ (by assumption)).mono ?_; rintro e w1 ⟨rfl, rfl⟩)) | (go_at_call 134; (with_reducible refine (q3.out _ (by assumption)).mono ?_; rintro e w1 ⟨rfl, rfl⟩)) | (go_at_call 69; refine (q2.out _ (by assumption)).mono ?_; rintro e w1 ⟨rfl, hb2⟩; have khb2 := bcell' hb2))
     go_ret
     exact ⟨ret_b (by first | (simp; done) | (simp; omega) | (simp; unfold wrap64; omega)), hBk.out _ (by assumption)⟩
    | true =>
     cases z3 with
     | false =>
      go_enter Tryz.func63, Tryz.ntmps63
      go_wp2_with (first | (go_at_call 58; (with_reducible refine (q1.out _ (by assumption)).mono ?_; rintro e w1 ⟨rfl, rfl⟩)) | (go_at_call 134; (with_reducible refine (q3.out _ (by assumption)).mono ?_; rintro e w1 ⟨rfl, rfl⟩)) | (go_at_call 69; refine (q2.out _ (by assumption)).mono ?_; rintro e w1 ⟨rfl, hb2⟩; have khb2 := bcell' hb2))
      go_ret
      exact ⟨ret_b (by first | (simp; done) | (simp; omega) | (simp; unfold wrap64; omega)), hBk.out _ (by assumption)⟩
     | true =>
      by_cases n4 : s.keys.length + s.cases_.length = 0
      ·rw [decide_eq_true n4]
       have i4 : wrap64 ((s.keys.length : Int) + (s.cases_.length : Int)) = 0 := by unfold wrap64; omega
       go_enter Tryz.func63, Tryz.ntmps63
       go_wp2_with (first | (go_at_call 58; (with_reducible refine (q1.out _ (by assumption)).mono ?_; rintro e w1 ⟨rfl, rfl⟩)) | (go_at_call 134; (with_reducible refine (q3.out _ (by assumption)).mono ?_; rintro e w1 ⟨rfl, rfl⟩)) | (go_at_call 69; refine (q2.out _ (by assumption)).mono ?_; rintro e w1 ⟨rfl, hb2⟩; have khb2 := bcell' hb2))
       go_ret
       exact ⟨ret_b (by first | (simp; done) | (simp; omega) | (simp; unfold wrap64; omega)), hBk.out _ (by assumption)⟩
      ·rw [decide_eq_false n4]
       have i4 : ¬ (wrap64 ((s.keys.length : Int) + (s.cases_.length : Int)) = 0) := by unfold wrap64; omega
       go_enter Tryz.func63, Tryz.ntmps63
       go_wp2_with (first | (go_at_call 58; (with_reducible refine (q1.out _ (by assumption)).mono ?_; rintro e w1 ⟨rfl, rfl⟩)) | (go_at_call 134; (with_reducible refine (q3.out _ (by assumption)).mono ?_; rintro e w1 ⟨rfl, rfl⟩)) | (go_at_call 69; refine (q2.out _ (by assumption)).mono ?_; rintro e w1 ⟨rfl, hb2⟩; have khb2 := bcell' hb2))
       go_ret
       exact ⟨ret_b (by first | (simp; done) | (simp; omega) | (simp; unfold wrap64; omega)), hBk.out _ (by assumption)⟩
   ·rw [decide_eq_false n1]
    have i1 : ¬ ((s.takes.length : Int) ≤ 8) := by omega
    go_enter Tryz.func63, Tryz.ntmps63
    go_wp2_with (first | (go_at_call 58; (with_reducible refine (q1.out _ (by assumption)).mono ?_; rintro e w1 ⟨rfl, rfl⟩)) | (go_at_call 134; (with_reducible refine (q3.out _ (by assumption)).mono ?_; rintro e w1 ⟨rfl, rfl⟩)) | (go_at_call 69; refine (q2.out _ (by assumption)).mono ?_; rintro e w1 ⟨rfl, hb2⟩; have khb2 := bcell' hb2))
    go_ret
    exact ⟨ret_b (by first | (simp; done) | (simp; omega) | (simp; unfold wrap64; omega)), hBk.out _ (by assumption)⟩
end Go.Proofs.YtbbdhknagofghaaGreat

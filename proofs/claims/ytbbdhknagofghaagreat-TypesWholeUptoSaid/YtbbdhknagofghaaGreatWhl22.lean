import Derived.Test.YtbbdhknagofghaaGreatWhl21
set_option linter.all false
/-! Printed by gen_may.py. Layer 4: mayTable. -/
namespace Go.Proofs.YtbbdhknagofghaaGreat
open Go.RowKit
theorem enters_key : ∀ args w, (callFunc 143 args).run Tryz.prog w = .ok (.enter 143 args) w := enters_of Tryz.func143 (by kernel_rfl) rfl
set_option maxRecDepth 100000 in
set_option maxHeartbeats 400000 in
theorem key_any {m : Int} {B : Nat} (k : Ky) (cs : List Value) (w : World) (hB : B ≤ w.heap.size) (h0 : 0 < B) (hz : w.cell? ⟨0, 0, none⟩ = some (.int .i64 m)) (hr : rKy w B cs k) :
  Calls Tryz.prog 143 #[.agg cs.toArray] w fun r w' => r = .returned (.bool (kyB k)) ∧ Below w.heap.size w w' := by
 obtain ⟨es, hcs, hu, he⟩ := hr
 obtain ⟨⟨op, lit, head, name, hi, lo, args⟩, kind⟩ := k
 replace hu : u8 kind := hu
 replace he : rEx w B es (.mk op lit head name hi lo args) := he
 obtain ⟨A, cap, rfl, -, -, -, -, -, -, hs⟩ := RE.inv he
 have hcs' : cs = [.int .u8 op, .int .i64 lit.1, .int .u64 lit.2.1, .int .u64 lit.2.2, .string head, .string name, .int .i64 hi, .int .i64 lo, .slice A args.length cap, .int .u8 kind] := by rw [hcs]; simp only [exC, List.cons_append, List.nil_append]
 clear hcs
 subst hcs'
 have hla := hs.len
 obtain ⟨wa, hwa, hsa, hba, hca, -⟩ := box1 w #[.int .u8 op, .int .i64 lit.1, .int .u64 lit.2.1, .int .u64 lit.2.2, .string head, .string name, .int .i64 hi, .int .i64 lo, .slice A args.length cap, .int .u8 kind] 52
 obtain ⟨y0, y1, y2, y3, y4, y5, y6, y7, y8, y9⟩ := row10 hca
 have hb0 : Below wa.heap.size wa wa := Below.refl _ _
 have hBk := hide (show ∀ W, Below wa.heap.size wa W → Below w.heap.size w W from fun W hb => hba.trans (hb.mono (by omega)))
 have hc0 : ∀ W, Below wa.heap.size wa W → W.cell? ⟨0, 0, none⟩ = some (.int .i64 m) := fun W hb => ((hb.cell (p := ⟨0, 0, none⟩) (by show 0 < _; omega)).trans ((hba.cell (p := ⟨0, 0, none⟩) (by show 0 < _; omega)).trans hz))
 have hBW : ∀ W, Below wa.heap.size wa W → B ≤ W.heap.size := fun W hb => by have := hb.size; omega
 have q1 : Hid (∀ (W : World), Below wa.heap.size wa W → Calls Tryz.prog 28 #[.agg #[.int .u8 op, .int .i64 lit.1, .int .u64 lit.2.1, .int .u64 lit.2.2, .string head, .string name, .int .i64 hi, .int .i64 lo, .slice A args.length cap]] W fun e w' => e = .returned (.bool (mayE (.mk op lit head name hi lo args))) ∧ Below wa.heap.size wa w') := hide (fun (W : World) (hb : Below wa.heap.size wa W) => (mayexpr_any (.mk op lit head name hi lo args) (exC op lit head name hi lo A args.length cap) W (hBW W hb) h0 (hc0 W hb) (sta_ex.keep he fun q hq => (hba.trans (hb.mono (by omega))).cell (Nat.lt_of_lt_of_le hq hB))).mono (fun e w' h => (⟨h.1, hb.trans (h.2.mono hb.size)⟩ : e = _ ∧ Below wa.heap.size wa w')))
 have hv : kyB ⟨.mk op lit head name hi lo args, kind⟩ = (mayE (.mk op lit head name hi lo args) && (decide (1 ≤ kind) && decide (kind ≤ 3))) := by simp only [kyB, Bool.decide_and]
 rw [hv]
 generalize mayE (.mk op lit head name hi lo args) = z1 at q1 ⊢
 show Calls _ _ #[.agg #[.int .u8 op, .int .i64 lit.1, .int .u64 lit.2.1, .int .u64 lit.2.2, .string head, .string name, .int .i64 hi, .int .i64 lo, .slice A args.length cap, .int .u8 kind]] _ _
 clear hca hba hc0 hBW hv he hs hz
 cases z1 with
 | false =>
  go_enter Tryz.func143, Tryz.ntmps143
  go_wp2_with (first | (go_at_call 28; refine (q1.out _ (by assumption)).mono ?_; rintro e w1 ⟨rfl, hb1⟩; have khb1 := bcell' hb1))
  go_ret
  exact ⟨ret_b (by first | (simp; done) | (simp; omega) | (simp; unfold wrap64; omega)), hBk.out _ (by assumption)⟩
 | true =>
  by_cases n1 : 1 ≤ kind
  ·rw [decide_eq_true n1]
   have i1 : 1 ≤ kind := by omega
   by_cases n2 : kind ≤ 3
   ·rw [decide_eq_true n2]
    have i2 : kind ≤ 3 := by omega
    go_enter Tryz.func143, Tryz.ntmps143
    go_wp2_with (first | (go_at_call 28; refine (q1.out _ (by assumption)).mono ?_; rintro e w1 ⟨rfl, hb1⟩; have khb1 := bcell' hb1))
    go_ret
    exact ⟨ret_b (by first | (simp; done) | (simp; omega) | (simp; unfold wrap64; omega)), hBk.out _ (by assumption)⟩
   ·rw [decide_eq_false n2]
    have i2 : ¬ (kind ≤ 3) := by omega
    go_enter Tryz.func143, Tryz.ntmps143
    go_wp2_with (first | (go_at_call 28; refine (q1.out _ (by assumption)).mono ?_; rintro e w1 ⟨rfl, hb1⟩; have khb1 := bcell' hb1))
    go_ret
    exact ⟨ret_b (by first | (simp; done) | (simp; omega) | (simp; unfold wrap64; omega)), hBk.out _ (by assumption)⟩
  ·rw [decide_eq_false n1]
   have i1 : ¬ (1 ≤ kind) := by omega
   go_enter Tryz.func143, Tryz.ntmps143
   go_wp2_with (first | (go_at_call 28; refine (q1.out _ (by assumption)).mono ?_; rintro e w1 ⟨rfl, hb1⟩; have khb1 := bcell' hb1))
   go_ret
   exact ⟨ret_b (by first | (simp; done) | (simp; omega) | (simp; unfold wrap64; omega)), hBk.out _ (by assumption)⟩
theorem keys_all {m : Int} {B : Nat} (l : List Ky) (A : Option Addr) (cap : Nat) (w : World) (hB : B ≤ w.heap.size) (h0 : 0 < B) (hz : w.cell? ⟨0, 0, none⟩ = some (.int .i64 m)) (h : Sl 10 rKy w B A l) :
  Calls Tryz.prog 144 #[.slice A l.length cap, .func (.func 143) #[] #[]] w fun e w' => e = .returned (.bool (l.all kyB)) ∧ Below w.heap.size w w' :=
 all_Key sta_ky 143 #[] enters_key kyB A cap l w hB h (fun i x cs W hx hb hr hel => key_any x cs W (by have := hb.size; omega) h0 (zcell (by omega) hz hb) hr)
set_option maxRecDepth 100000 in
set_option maxHeartbeats 1000000 in
theorem mayTable_any {m : Int} {B : Nat} (t : Ta) (cs : List Value) (w : World) (hB : B ≤ w.heap.size) (h0 : 0 < B) (hz : w.cell? ⟨0, 0, none⟩ = some (.int .i64 m)) (hr : rTa w B cs t) :
  Calls Tryz.prog 67 #[.agg cs.toArray] w fun r w' => r = .returned (.bool (taB t)) ∧ Below w.heap.size w w' := by
 obtain ⟨A1, c1, A2, c2, A3, c3, rfl, hn, hd, hK, hT, hL⟩ := hr
 have l1 := hK.len
 have l2 := hT.len
 have l3 := hL.len
 obtain ⟨wa, hwa, hsa, hba, hca, -⟩ := box1 w #[.string t.name, .slice A1 t.keys.length c1, .slice A2 t.actions.length c2, .string t.dname, .slice A3 t.dargs.length c3] 58
 obtain ⟨y0, y1, y2, y3, y4⟩ := row5 hca
 have hb0 : Below wa.heap.size wa wa := Below.refl _ _
 have hBk := hide (show ∀ W, Below wa.heap.size wa W → Below w.heap.size w W from fun W hb => hba.trans (hb.mono (by omega)))
 have hc0 : ∀ W, Below wa.heap.size wa W → W.cell? ⟨0, 0, none⟩ = some (.int .i64 m) := fun W hb => ((hb.cell (p := ⟨0, 0, none⟩) (by show 0 < _; omega)).trans ((hba.cell (p := ⟨0, 0, none⟩) (by show 0 < _; omega)).trans hz))
 have hBW : ∀ W, Below wa.heap.size wa W → B ≤ W.heap.size := fun W hb => by have := hb.size; omega
 have hk : ∀ W, Below wa.heap.size wa W → Below B w W := fun W hb => (hba.trans (hb.mono (by omega))).mono hB
 have q1 := hide (fun W hb => isName_any t.name m W hn (hc0 W hb))
 have q4 := hide (fun W hb => isName_any t.dname m W hd (hc0 W hb))
 have q2 := hide (fun (W : World) (hb : Below wa.heap.size wa W) => (keys_all t.keys A1 c1 W (hBW W hb) h0 (hc0 W hb) (hK.below sta_ky (hk W hb))).mono (fun e w' h => (⟨h.1, hb.trans (h.2.mono hb.size)⟩ : e = _ ∧ Below wa.heap.size wa w')))
 have q3 := hide (fun (W : World) (hb : Below wa.heap.size wa W) => (names_all t.actions A2 c2 W (hBW W hb) h0 (hc0 W hb) (hT.below sta_str (hk W hb))).mono (fun e w' h => (⟨h.1, hb.trans (h.2.mono hb.size)⟩ : e = _ ∧ Below wa.heap.size wa w')))
 have q5 := hide (fun (W : World) (hb : Below wa.heap.size wa W) => (lits_all t.dargs A3 c3 W (hBW W hb) h0 (hc0 W hb) (hL.below sta_lt (hk W hb))).mono (fun e w' h => (⟨h.1, hb.trans (h.2.mono hb.size)⟩ : e = _ ∧ Below wa.heap.size wa w')))
 have hv : taB t = (nameB t.name && (decide (1 ≤ t.keys.length) && (decide (t.keys.length ≤ 4) && (t.keys.all kyB && (decide (1 ≤ t.actions.length) && (decide (t.actions.length ≤ 16) && (t.actions.all nameB && (nameB t.dname && (decide (t.dargs.length ≤ 8) && t.dargs.all litB))))))))) := by
  simp only [taB, Bool.decide_and, Bool.and_assoc]
 rw [hv]
 generalize nameB t.name = z1 at q1 ⊢
 generalize t.keys.all kyB = z2 at q2 ⊢
 generalize t.actions.all nameB = z3 at q3 ⊢
 generalize nameB t.dname = z4 at q4 ⊢
 generalize t.dargs.all litB = z5 at q5 ⊢
 show Calls _ _ #[.agg #[.string t.name, .slice A1 t.keys.length c1, .slice A2 t.actions.length c2, .string t.dname, .slice A3 t.dargs.length c3]] _ _
 clear hca hba hc0 hBW hv hk hK hT hL hz
 have eg := enters_key
 cases z1 with
 | false =>
  go_enter Tryz.func67, Tryz.ntmps67
  go_wp2_with (first | (go_at_call 58; first | (with_reducible refine (q1.out _ (by assumption)).mono ?_; rintro e w1 ⟨rfl, rfl⟩) | (with_reducible refine (q4.out _ (by assumption)).mono ?_; rintro e w1 ⟨rfl, rfl⟩)) | (go_at_call 144; refine (q2.out _ (by assumption)).mono ?_; rintro e w1 ⟨rfl, hb2⟩; have khb2 := bcell' hb2) | (go_at_call 69; refine (q3.out _ (by assumption)).mono ?_; rintro e w1 ⟨rfl, hb3⟩; have khb3 := bcell' hb3) | (go_at_call 145; refine (q5.out _ (by assumption)).mono ?_; rintro e w1 ⟨rfl, hb5⟩; have khb5 := bcell' hb5))
  go_ret
  exact ⟨ret_b (by first | (simp; done) | (simp; omega) | (simp; unfold wrap64; omega)), hBk.out _ (by assumption)⟩
 | true =>
  by_cases n1 : 1 ≤ t.keys.length
  ·rw [decide_eq_true n1]
   have i1 : 1 ≤ (t.keys.length : Int) := by omega
   by_cases n2 : t.keys.length ≤ 4
   ·rw [decide_eq_true n2]
    have i2 : (t.keys.length : Int) ≤ 4 := by omega
    cases z2 with
    | false =>
     go_enter Tryz.func67, Tryz.ntmps67
     go_wp2_with (first | (go_at_call 58; first | (with_reducible refine (q1.out _ (by assumption)).mono ?_; rintro e w1 ⟨rfl, rfl⟩) | (with_reducible refine (q4.out _ (by assumption)).mono ?_; rintro e w1 ⟨rfl, rfl⟩)) | (go_at_call 144; refine (q2.out _ (by assumption)).mono ?_; rintro e w1 ⟨rfl, hb2⟩; have khb2 := bcell' hb2) | (go_at_call 69; refine (q3.out _ (by assumption)).mono ?_; rintro e w1 ⟨rfl, hb3⟩; have khb3 := bcell' hb3) | (go_at_call 145; refine (q5.out _ (by assumption)).mono ?_; rintro e w1 ⟨rfl, hb5⟩; have khb5 := bcell' hb5))
     go_ret
     exact ⟨ret_b (by first | (simp; done) | (simp; omega) | (simp; unfold wrap64; omega)), hBk.out _ (by assumption)⟩
    | true =>
     by_cases n4 : 1 ≤ t.actions.length
     ·rw [decide_eq_true n4]
      have i4 : 1 ≤ (t.actions.length : Int) := by omega
      by_cases n5 : t.actions.length ≤ 16
      ·rw [decide_eq_true n5]
       have i5 : (t.actions.length : Int) ≤ 16 := by omega
       cases z3 with
       | false =>
        go_enter Tryz.func67, Tryz.ntmps67
        go_wp2_with (first | (go_at_call 58; first | (with_reducible refine (q1.out _ (by assumption)).mono ?_; rintro e w1 ⟨rfl, rfl⟩) | (with_reducible refine (q4.out _ (by assumption)).mono ?_; rintro e w1 ⟨rfl, rfl⟩)) | (go_at_call 144; refine (q2.out _ (by assumption)).mono ?_; rintro e w1 ⟨rfl, hb2⟩; have khb2 := bcell' hb2) | (go_at_call 69; refine (q3.out _ (by assumption)).mono ?_; rintro e w1 ⟨rfl, hb3⟩; have khb3 := bcell' hb3) | (go_at_call 145; refine (q5.out _ (by assumption)).mono ?_; rintro e w1 ⟨rfl, hb5⟩; have khb5 := bcell' hb5))
        go_ret
        exact ⟨ret_b (by first | (simp; done) | (simp; omega) | (simp; unfold wrap64; omega)), hBk.out _ (by assumption)⟩
       | true =>
        cases z4 with
        | false =>
         go_enter Tryz.func67, Tryz.ntmps67
         go_wp2_with (first | (go_at_call 58; first | (with_reducible refine (q1.out _ (by assumption)).mono ?_; rintro e w1 ⟨rfl, rfl⟩) | (with_reducible refine (q4.out _ (by assumption)).mono ?_; rintro e w1 ⟨rfl, rfl⟩)) | (go_at_call 144; refine (q2.out _ (by assumption)).mono ?_; rintro e w1 ⟨rfl, hb2⟩; have khb2 := bcell' hb2) | (go_at_call 69; refine (q3.out _ (by assumption)).mono ?_; rintro e w1 ⟨rfl, hb3⟩; have khb3 := bcell' hb3) | (go_at_call 145; refine (q5.out _ (by assumption)).mono ?_; rintro e w1 ⟨rfl, hb5⟩; have khb5 := bcell' hb5))
         go_ret
         exact ⟨ret_b (by first | (simp; done) | (simp; omega) | (simp; unfold wrap64; omega)), hBk.out _ (by assumption)⟩
        | true =>
         by_cases n8 : t.dargs.length ≤ 8
         ·rw [decide_eq_true n8]
          have i8 : (t.dargs.length : Int) ≤ 8 := by omega
          cases z5 with
          | false =>
           go_enter Tryz.func67, Tryz.ntmps67
           go_wp2_with (first | (go_at_call 58; first | (with_reducible refine (q1.out _ (by assumption)).mono ?_; rintro e w1 ⟨rfl, rfl⟩) | (with_reducible refine (q4.out _ (by assumption)).mono ?_; rintro e w1 ⟨rfl, rfl⟩)) | (go_at_call 144; refine (q2.out _ (by assumption)).mono ?_; rintro e w1 ⟨rfl, hb2⟩; have khb2 := bcell' hb2) | (go_at_call 69; refine (q3.out _ (by assumption)).mono ?_; rintro e w1 ⟨rfl, hb3⟩; have khb3 := bcell' hb3) | (go_at_call 145; refine (q5.out _ (by assumption)).mono ?_; rintro e w1 ⟨rfl, hb5⟩; have khb5 := bcell' hb5))
           go_ret
           exact ⟨ret_b (by first | (simp; done) | (simp; omega) | (simp; unfold wrap64; omega)), hBk.out _ (by assumption)⟩
          | true =>
           go_enter Tryz.func67, Tryz.ntmps67
           go_wp2_with (first | (go_at_call 58; first | (with_reducible refine (q1.out _ (by assumption)).mono ?_; rintro e w1 ⟨rfl, rfl⟩) | (with_reducible refine (q4.out _ (by assumption)).mono ?_; rintro e w1 ⟨rfl, rfl⟩)) | (go_at_call 144; refine (q2.out _ (by assumption)).mono ?_; rintro e w1 ⟨rfl, hb2⟩; have khb2 := bcell' hb2) | (go_at_call 69; refine (q3.out _ (by assumption)).mono ?_; rintro e w1 ⟨rfl, hb3⟩; have khb3 := bcell' hb3) | (go_at_call 145; refine (q5.out _ (by assumption)).mono ?_; rintro e w1 ⟨rfl, hb5⟩; have khb5 := bcell' hb5))
           go_ret
           exact ⟨ret_b (by first | (simp; done) | (simp; omega) | (simp; unfold wrap64; omega)), hBk.out _ (by assumption)⟩
         ·rw [decide_eq_false n8]
          have i8 : ¬ ((t.dargs.length : Int) ≤ 8) := by omega
          go_enter Tryz.func67, Tryz.ntmps67
          go_wp2_with (first | (go_at_call 58; first | (with_reducible refine (q1.out _ (by assumption)).mono ?_; rintro e w1 ⟨rfl, rfl⟩) | (with_reducible refine (q4.out _ (by assumption)).mono ?_; rintro e w1 ⟨rfl, rfl⟩)) | (go_at_call 144; refine (q2.out _ (by assumption)).mono ?_; rintro e w1 ⟨rfl, hb2⟩; have khb2 := bcell' hb2) | (go_at_call 69; refine (q3.out _ (by assumption)).mono ?_; rintro e w1 ⟨rfl, hb3⟩; have khb3 := bcell' hb3) | (go_at_call 145; refine (q5.out _ (by assumption)).mono ?_; rintro e w1 ⟨rfl, hb5⟩; have khb5 := bcell' hb5))
          go_ret
          exact ⟨ret_b (by first | (simp; done) | (simp; omega) | (simp; unfold wrap64; omega)), hBk.out _ (by assumption)⟩
      ·rw [decide_eq_false n5]
       have i5 : ¬ ((t.actions.length : Int) ≤ 16) := by omega
       go_enter Tryz.func67, Tryz.ntmps67
       go_wp2_with (first | (go_at_call 58; first | (with_reducible refine (q1.out _ (by assumption)).mono ?_; rintro e w1 ⟨rfl, rfl⟩) | (with_reducible refine (q4.out _ (by assumption)).mono ?_; rintro e w1 ⟨rfl, rfl⟩)) | (go_at_call 144; refine (q2.out _ (by assumption)).mono ?_; rintro e w1 ⟨rfl, hb2⟩; have khb2 := bcell' hb2) | (go_at_call 69; refine (q3.out _ (by assumption)).mono ?_; rintro e w1 ⟨rfl, hb3⟩; have khb3 := bcell' hb3) | (go_at_call 145; refine (q5.out _ (by assumption)).mono ?_; rintro e w1 ⟨rfl, hb5⟩; have khb5 := bcell' hb5))
       go_ret
       exact ⟨ret_b (by first | (simp; done) | (simp; omega) | (simp; unfold wrap64; omega)), hBk.out _ (by assumption)⟩
     ·rw [decide_eq_false n4]
      have i4 : ¬ (1 ≤ (t.actions.length : Int)) := by omega
      go_enter Tryz.func67, Tryz.ntmps67
      go_wp2_with (first | (go_at_call 58; first | (with_reducible refine (q1.out _ (by assumption)).mono ?_; rintro e w1 ⟨rfl, rfl⟩) | (with_reducible refine (q4.out _ (by assumption)).mono ?_; rintro e w1 ⟨rfl, rfl⟩)) | (go_at_call 144; refine (q2.out _ (by assumption)).mono ?_; rintro e w1 ⟨rfl, hb2⟩; have khb2 := bcell' hb2) | (go_at_call 69; refine (q3.out _ (by assumption)).mono ?_; rintro e w1 ⟨rfl, hb3⟩; have khb3 := bcell' hb3) | (go_at_call 145; refine (q5.out _ (by assumption)).mono ?_; rintro e w1 ⟨rfl, hb5⟩; have khb5 := bcell' hb5))
      go_ret
      exact ⟨ret_b (by first | (simp; done) | (simp; omega) | (simp; unfold wrap64; omega)), hBk.out _ (by assumption)⟩
   ·rw [decide_eq_false n2]
    have i2 : ¬ ((t.keys.length : Int) ≤ 4) := by omega
    go_enter Tryz.func67, Tryz.ntmps67
    go_wp2_with (first | (go_at_call 58; first | (with_reducible refine (q1.out _ (by assumption)).mono ?_; rintro e w1 ⟨rfl, rfl⟩) | (with_reducible refine (q4.out _ (by assumption)).mono ?_; rintro e w1 ⟨rfl, rfl⟩)) | (go_at_call 144; refine (q2.out _ (by assumption)).mono ?_; rintro e w1 ⟨rfl, hb2⟩; have khb2 := bcell' hb2) | (go_at_call 69; refine (q3.out _ (by assumption)).mono ?_; rintro e w1 ⟨rfl, hb3⟩; have khb3 := bcell' hb3) | (go_at_call 145; refine (q5.out _ (by assumption)).mono ?_; rintro e w1 ⟨rfl, hb5⟩; have khb5 := bcell' hb5))
    go_ret
    exact ⟨ret_b (by first | (simp; done) | (simp; omega) | (simp; unfold wrap64; omega)), hBk.out _ (by assumption)⟩
  ·rw [decide_eq_false n1]
   have i1 : ¬ (1 ≤ (t.keys.length : Int)) := by omega
   go_enter Tryz.func67, Tryz.ntmps67
   go_wp2_with (first | (go_at_call 58; first | (with_reducible refine (q1.out _ (by assumption)).mono ?_; rintro e w1 ⟨rfl, rfl⟩) | (with_reducible refine (q4.out _ (by assumption)).mono ?_; rintro e w1 ⟨rfl, rfl⟩)) | (go_at_call 144; refine (q2.out _ (by assumption)).mono ?_; rintro e w1 ⟨rfl, hb2⟩; have khb2 := bcell' hb2) | (go_at_call 69; refine (q3.out _ (by assumption)).mono ?_; rintro e w1 ⟨rfl, hb3⟩; have khb3 := bcell' hb3) | (go_at_call 145; refine (q5.out _ (by assumption)).mono ?_; rintro e w1 ⟨rfl, hb5⟩; have khb5 := bcell' hb5))
   go_ret
   exact ⟨ret_b (by first | (simp; done) | (simp; omega) | (simp; unfold wrap64; omega)), hBk.out _ (by assumption)⟩
end Go.Proofs.YtbbdhknagofghaaGreat
/-! Printed by gen_may.py. Layer 4: mayAction. -/
namespace Go.Proofs.YtbbdhknagofghaaGreat
open Go.RowKit
set_option maxRecDepth 100000 in
set_option maxHeartbeats 1000000 in
theorem mayAction_any {m : Int} {B : Nat} (a : Ac) (cs : List Value) (w : World) (hB : B ≤ w.heap.size) (h0 : 0 < B) (hz : w.cell? ⟨0, 0, none⟩ = some (.int .i64 m)) (hr : rAc w B cs a) :
  Calls Tryz.prog 65 #[.agg cs.toArray] w fun r w' => r = .returned (.bool (acB a)) ∧ Below w.heap.size w w' := by
 obtain ⟨A1, c1, A2, c2, rfl, hn, hP, hS⟩ := hr
 have l1 := hP.len
 have l2 := hS.len
 obtain ⟨wa, hwa, hsa, hba, hca, -⟩ := box1 w #[.string a.name, .slice A1 a.params.length c1, .slice A2 a.body.length c2] 72
 obtain ⟨y0, y1, y2⟩ := row3 hca
 have hb0 : Below wa.heap.size wa wa := Below.refl _ _
 have hBk := hide (show ∀ W, Below wa.heap.size wa W → Below w.heap.size w W from fun W hb => hba.trans (hb.mono (by omega)))
 have hc0 : ∀ W, Below wa.heap.size wa W → W.cell? ⟨0, 0, none⟩ = some (.int .i64 m) := fun W hb => ((hb.cell (p := ⟨0, 0, none⟩) (by show 0 < _; omega)).trans ((hba.cell (p := ⟨0, 0, none⟩) (by show 0 < _; omega)).trans hz))
 have hBW : ∀ W, Below wa.heap.size wa W → B ≤ W.heap.size := fun W hb => by have := hb.size; omega
 have hk : ∀ W, Below wa.heap.size wa W → Below B w W := fun W hb => (hba.trans (hb.mono (by omega))).mono hB
 have q1 := hide (fun W hb => isName_any a.name m W hn (hc0 W hb))
 have q2 := hide (fun (W : World) (hb : Below wa.heap.size wa W) => (fields_all a.params A1 c1 W (hBW W hb) h0 (hc0 W hb) (hP.below sta_fd (hk W hb))).mono (fun e w' h => (⟨h.1, hb.trans (h.2.mono hb.size)⟩ : e = _ ∧ Below wa.heap.size wa w')))
 have q3 := hide (fun (W : World) (hb : Below wa.heap.size wa W) => (mayb_of a.body (fun x _ => maySt_all x) A2 c2 W 1 (by omega) (hBW W hb) h0 (hc0 W hb) (hS.below sta_st (hk W hb))).mono (fun e w' h => (⟨h.1, hb.trans (h.2.mono hb.size)⟩ : e = _ ∧ Below wa.heap.size wa w')))
 have hv : acB a = (nameB a.name && (decide (a.params.length ≤ 8) && (a.params.all fdB && mayBlk a.body 1))) := by
  simp only [acB, Bool.and_assoc]
 rw [hv]
 generalize nameB a.name = z1 at q1 ⊢
 generalize a.params.all fdB = z2 at q2 ⊢
 generalize mayBlk a.body 1 = z3 at q3 ⊢
 show Calls _ _ #[.agg #[.string a.name, .slice A1 a.params.length c1, .slice A2 a.body.length c2]] _ _
 clear hca hba hc0 hBW hv hk hP hS hz
 cases z1 with
 | false =>
  go_enter Tryz.func65, Tryz.ntmps65
  go_wp2_with (first | (go_at_call 58; (with_reducible refine (q1.out _ (by assumption)).mono ?_; rintro e w1 ⟨rfl, rfl⟩)) | (go_at_call 59; refine (q2.out _ (by assumption)).mono ?_; rintro e w1 ⟨rfl, hb2⟩; have khb2 := bcell' hb2) | (go_at_call 68; refine (q3.out _ (by assumption)).mono ?_; rintro e w1 ⟨rfl, hb3⟩; have khb3 := bcell' hb3))
  go_ret
  exact ⟨ret_b (by first | (simp; done) | (simp; omega) | (simp; unfold wrap64; omega)), hBk.out _ (by assumption)⟩
 | true =>
  by_cases n1 : a.params.length ≤ 8
  ·rw [decide_eq_true n1]
   have i1 : (a.params.length : Int) ≤ 8 := by omega
   cases z2 with
   | false =>
    go_enter Tryz.func65, Tryz.ntmps65
    go_wp2_with (first | (go_at_call 58; (with_reducible refine (q1.out _ (by assumption)).mono ?_; rintro e w1 ⟨rfl, rfl⟩)) | (go_at_call 59; refine (q2.out _ (by assumption)).mono ?_; rintro e w1 ⟨rfl, hb2⟩; have khb2 := bcell' hb2) | (go_at_call 68; refine (q3.out _ (by assumption)).mono ?_; rintro e w1 ⟨rfl, hb3⟩; have khb3 := bcell' hb3))
    go_ret
    exact ⟨ret_b (by first | (simp; done) | (simp; omega) | (simp; unfold wrap64; omega)), hBk.out _ (by assumption)⟩
   | true =>
    cases z3 with
    | false =>
     go_enter Tryz.func65, Tryz.ntmps65
     go_wp2_with (first | (go_at_call 58; (with_reducible refine (q1.out _ (by assumption)).mono ?_; rintro e w1 ⟨rfl, rfl⟩)) | (go_at_call 59; refine (q2.out _ (by assumption)).mono ?_; rintro e w1 ⟨rfl, hb2⟩; have khb2 := bcell' hb2) | (go_at_call 68; refine (q3.out _ (by assumption)).mono ?_; rintro e w1 ⟨rfl, hb3⟩; have khb3 := bcell' hb3))
     go_ret
     exact ⟨ret_b (by first | (simp; done) | (simp; omega) | (simp; unfold wrap64; omega)), hBk.out _ (by assumption)⟩
    | true =>
     go_enter Tryz.func65, Tryz.ntmps65
     go_wp2_with (first | (go_at_call 58; (with_reducible refine (q1.out _ (by assumption)).mono ?_; rintro e w1 ⟨rfl, rfl⟩)) | (go_at_call 59; refine (q2.out _ (by assumption)).mono ?_; rintro e w1 ⟨rfl, hb2⟩; have khb2 := bcell' hb2) | (go_at_call 68; refine (q3.out _ (by assumption)).mono ?_; rintro e w1 ⟨rfl, hb3⟩; have khb3 := bcell' hb3))
     go_ret
     exact ⟨ret_b (by first | (simp; done) | (simp; omega) | (simp; unfold wrap64; omega)), hBk.out _ (by assumption)⟩
  ·rw [decide_eq_false n1]
   have i1 : ¬ ((a.params.length : Int) ≤ 8) := by omega
   go_enter Tryz.func65, Tryz.ntmps65
   go_wp2_with (first | (go_at_call 58; (with_reducible refine (q1.out _ (by assumption)).mono ?_; rintro e w1 ⟨rfl, rfl⟩)) | (go_at_call 59; refine (q2.out _ (by assumption)).mono ?_; rintro e w1 ⟨rfl, hb2⟩; have khb2 := bcell' hb2) | (go_at_call 68; refine (q3.out _ (by assumption)).mono ?_; rintro e w1 ⟨rfl, hb3⟩; have khb3 := bcell' hb3))
   go_ret
   exact ⟨ret_b (by first | (simp; done) | (simp; omega) | (simp; unfold wrap64; omega)), hBk.out _ (by assumption)⟩
end Go.Proofs.YtbbdhknagofghaaGreat

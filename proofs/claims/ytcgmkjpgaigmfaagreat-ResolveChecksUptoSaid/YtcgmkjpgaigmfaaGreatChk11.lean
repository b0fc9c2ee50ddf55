import Derived.Test.YtcgmkjpgaigmfaaGreatChk10
set_option linter.all false
/-! Layer 4: mayStmt at an if; mayStmt of any statement. -/
namespace Go.Proofs.YtcgmkjpgaigmfaaGreat
open Go.RowKit
set_option maxRecDepth 200000 in
set_option maxHeartbeats 400000 in
theorem mays_if {m : Int} {B : Nat} (kind : Int) (hk : kind = 2) (head name : ByteArray) (e : Ex) (thn els : List St) (cs : List Value) (w : World) (deep : Nat) (hr : rSt w B cs (.mk kind head name e thn els)) (hel : cs.length = 14)
  (hB : B ≤ w.heap.size) (h00 : 0 < B) (hz : w.cell? ⟨0, 0, none⟩ = some (.int .i64 m)) (hd : deep ≤ 8) (ih1 : ∀ x ∈ thn, MayStIs m B x) (ih2 : ∀ x ∈ els, MayStIs m B x) :
  Calls Tryz.prog 115 #[.agg cs.toArray, .int .i64 (deep : Int)] w fun r w' => r = .returned (.bool (mayS (.mk kind head name e thn els) deep)) ∧ Below w.heap.size w w' := by
 have hv : mayS (.mk kind head name e thn els) deep = (decide (head = strE ∧ name = strE) && (mayE e && (mayBlk thn (deep + 1) && mayBlk els (deep + 1)))) := by
  simp only [mayS, hk, if_neg (show ¬ (2 : Int) = 1 by decide), if_true, mayBlk, Bool.decide_and, Bool.and_assoc]
 rw [hv]
 clear hv
 obtain ⟨es, A1, c1, A2, c2, rfl, h0, h1, h2', he, hT, hE⟩ := RS.inv hr
 have hsm := RS.small hr
 have l1 := hT.len
 have l2 := hE.len
 have hX0 := fun (W : World) (hb : Below w.heap.size w W) => mayexpr_any e es W (Nat.le_trans hB hb.size) h00 (zcell (Nat.lt_of_lt_of_le h00 hB) hz hb) (sta_ex.keep he fun q hq => (hb.mono hB).cell hq)
 obtain ⟨op, lit, eh, en, hi, lo, args⟩ := e
 obtain ⟨A, cap, rfl, -, -, -, -, -, -, hs⟩ := RE.inv he
 have hla := hs.len
 obtain ⟨wa, hwa, hsa, hba, hca, -⟩ := box1 w #[.int .u8 kind, .string head, .string name, .int .u8 op, .int .i64 lit.1, .int .u64 lit.2.1, .int .u64 lit.2.2, .string eh, .string en, .int .i64 hi, .int .i64 lo, .slice A args.length cap, .slice A1 thn.length c1, .slice A2 els.length c2] 75
 obtain ⟨y0, y1, y2, y3, y4, y5, y6, y7, y8, y9, y10, y11, y12, y13⟩ := row14 hca
 have hb0 : Below wa.heap.size wa wa := Below.refl _ _
 have hBk := hide (show ∀ W, Below wa.heap.size wa W → Below w.heap.size w W from fun W hb => hba.trans (hb.mono (by omega)))
 have hc0 : ∀ W, Below wa.heap.size wa W → W.cell? ⟨0, 0, none⟩ = some (.int .i64 m) := fun W hb => ((hb.cell (p := ⟨0, 0, none⟩) (by show 0 < _; omega)).trans ((hba.cell (p := ⟨0, 0, none⟩) (by show 0 < _; omega)).trans hz))
 have hBW : ∀ W, Below wa.heap.size wa W → B ≤ W.heap.size := fun W hb => by have := hb.size; omega
 have q1 : Hid (∀ (W : World), Below wa.heap.size wa W → Calls Tryz.prog 100 #[.agg #[.int .u8 op, .int .i64 lit.1, .int .u64 lit.2.1, .int .u64 lit.2.2, .string eh, .string en, .int .i64 hi, .int .i64 lo, .slice A args.length cap]] W fun r w' => r = .returned (.bool (mayE (.mk op lit eh en hi lo args))) ∧ Below wa.heap.size wa w') := hide (fun W hb => (hX0 W (hBk.out W hb)).mono fun e w' h => ⟨h.1, hb.trans (h.2.mono hb.size)⟩)
 have hdd : ((deep + 1 : Nat) : Int) = (deep : Int) + 1 := by omega
 have q2 : Hid (∀ (W : World), Below wa.heap.size wa W → Calls Tryz.prog 45 #[.slice A1 thn.length c1, .int .i64 ((deep : Int) + 1)] W fun r w' => r = .returned (.bool (mayBlk thn (deep + 1))) ∧ Below wa.heap.size wa w') := hide (fun W hb => by
  rw [← hdd]
  exact (mayb_of thn ih1 A1 c1 W (deep + 1) (by omega) (hBW W hb) h00 (hc0 W hb) (hT.below sta_st ((hBk.out W hb).mono hB))).mono fun e w' h => ⟨h.1, hb.trans (h.2.mono hb.size)⟩)
 have q3 : Hid (∀ (W : World), Below wa.heap.size wa W → Calls Tryz.prog 45 #[.slice A2 els.length c2, .int .i64 ((deep : Int) + 1)] W fun r w' => r = .returned (.bool (mayBlk els (deep + 1))) ∧ Below wa.heap.size wa w') := hide (fun W hb => by
  rw [← hdd]
  exact (mayb_of els ih2 A2 c2 W (deep + 1) (by omega) (hBW W hb) h00 (hc0 W hb) (hE.below sta_st ((hBk.out W hb).mono hB))).mono fun e w' h => ⟨h.1, hb.trans (h.2.mono hb.size)⟩)
 have hbw : (thn.length : Int) + (els.length : Int) ≤ 9223372036854775807 := by unfold sm at hsm; omega
 have hcat : head.size + name.size ≤ 9223372036854775807 := by unfold sm at h1 h2'; omega
 have hdz : (deep : Int) ≤ 8 := by omega
 clear hca hX0 hr he hT hE hs hel hba hc0 hBW hz ih1 ih2 hdd
 subst hk
 generalize mayE (.mk op lit eh en hi lo args) = z1 at q1 ⊢
 generalize mayBlk thn (deep + 1) = z2 at q2 ⊢
 generalize mayBlk els (deep + 1) = z3 at q3 ⊢
 show Calls _ _ #[.agg #[.int .u8 2, .string head, .string name, .int .u8 op, .int .i64 lit.1, .int .u64 lit.2.1, .int .u64 lit.2.2, .string eh, .string en, .int .i64 hi, .int .i64 lo, .slice A args.length cap, .slice A1 thn.length c1, .slice A2 els.length c2], .int .i64 (deep : Int)] _ _
 by_cases e1 : head = strE ∧ name = strE
 ·rw [decide_eq_true e1]
  have q0 := emp_add.1 e1
  clear e1
  cases z1 with
  | false =>
   go_enter Tryz.func115, Tryz.ntmps115
   go_wp2_with (first | (go_at_call 100; refine (q1.out _ (by assumption)).mono ?_; rintro e w1 ⟨rfl, hb1⟩; have khb1 := bcell' hb1) | (go_at_call 45; first | (with_reducible refine (q2.out _ (by assumption)).mono ?_; rintro e w1 ⟨rfl, hb2⟩; have khb2 := bcell' hb2) | (with_reducible refine (q3.out _ (by assumption)).mono ?_; rintro e w1 ⟨rfl, hb3⟩)))
   go_ret
   exact ⟨ret_b (by simp), hBk.out _ (by assumption)⟩
  | true =>
   cases z2 with
   | false =>
    go_enter Tryz.func115, Tryz.ntmps115
    go_wp2_with (first | (go_at_call 100; refine (q1.out _ (by assumption)).mono ?_; rintro e w1 ⟨rfl, hb1⟩; have khb1 := bcell' hb1) | (go_at_call 45; first | (with_reducible refine (q2.out _ (by assumption)).mono ?_; rintro e w1 ⟨rfl, hb2⟩; have khb2 := bcell' hb2) | (with_reducible refine (q3.out _ (by assumption)).mono ?_; rintro e w1 ⟨rfl, hb3⟩)))
    go_ret
    exact ⟨ret_b (by simp), hBk.out _ (by assumption)⟩
   | true =>
    cases z3 with
    | false =>
     go_enter Tryz.func115, Tryz.ntmps115
     go_wp2_with (first | (go_at_call 100; refine (q1.out _ (by assumption)).mono ?_; rintro e w1 ⟨rfl, hb1⟩; have khb1 := bcell' hb1) | (go_at_call 45; first | (with_reducible refine (q2.out _ (by assumption)).mono ?_; rintro e w1 ⟨rfl, hb2⟩; have khb2 := bcell' hb2) | (with_reducible refine (q3.out _ (by assumption)).mono ?_; rintro e w1 ⟨rfl, hb3⟩)))
     go_ret
     exact ⟨ret_b (by simp), hBk.out _ (by assumption)⟩
    | true =>
     go_enter Tryz.func115, Tryz.ntmps115
     go_wp2_with (first | (go_at_call 100; refine (q1.out _ (by assumption)).mono ?_; rintro e w1 ⟨rfl, hb1⟩; have khb1 := bcell' hb1) | (go_at_call 45; first | (with_reducible refine (q2.out _ (by assumption)).mono ?_; rintro e w1 ⟨rfl, hb2⟩; have khb2 := bcell' hb2) | (with_reducible refine (q3.out _ (by assumption)).mono ?_; rintro e w1 ⟨rfl, hb3⟩)))
     go_ret
     exact ⟨ret_b (by simp), hBk.out _ (by assumption)⟩
 ·rw [decide_eq_false e1]
  have q0 := fun h => e1 (emp_add.2 h)
  clear e1 q1 q2 q3
  go_enter Tryz.func115, Tryz.ntmps115
  go_wp2
  go_ret
  exact ⟨by simp, hBk.out _ hb0⟩
theorem rst_len {w : World} {B : Nat} {cs : List Value} {s : St} (h : rSt w B cs s) : cs.length = 14 := by
 obtain ⟨kind, head, name, e, thn, els⟩ := s
 obtain ⟨es, A1, c1, A2, c2, rfl, -, -, -, he, -, -⟩ := RS.inv h
 obtain ⟨op, lit, eh, en, hi, lo, args⟩ := e
 obtain ⟨A, cap, rfl, -⟩ := RE.inv he
 rfl
theorem maySt_all {m : Int} {B : Nat} (s : St) : MayStIs m B s := by
 induction s using St.ind with
 | h kind head name e thn els ih1 ih2 =>
  intro cs w deep hd hB h00 hz hr
  have hel := rst_len hr
  by_cases h2 : kind = 2
  ·exact mays_if kind h2 head name e thn els cs w deep hr hel hB h00 hz hd ih1 ih2
  ·by_cases hb : thn.length + els.length = 0
   ·by_cases h1 : kind = 1
    ·exact mays_set kind h1 head name e thn els cs w deep hr hel hB h00 hz hb
    by_cases h3 : kind = 3
    ·exact mays_apply kind h3 head name e thn els cs w deep hr hel hB h00 hz hb
    by_cases h4 : kind = 4
    ·exact mays_drop kind h4 head name e thn els cs w deep hr hel hB h00 hz hb
    by_cases h5 : kind = 5
    ·exact mays_fwd kind h5 head name e thn els cs w deep hr hel hB h00 hz hb
    by_cases h6 : kind = 6
    ·exact mays_valid6 kind h6 head name e thn els cs w deep hr hel hB h00 hz hb
    by_cases h7 : kind = 7
    ·exact mays_valid7 kind h7 head name e thn els cs w deep hr hel hB h00 hz hb
    exact mays_other (m := m) (B := B) kind head name e thn els cs w deep hr hel h1 h2 h3 h4 h5 h6 h7 hb (by omega)
   ·have hsm := RS.small hr
    unfold sm at hsm
    exact mays_bodies (m := m) (B := B) kind head name e thn els cs w deep hr hel h2 hb (by omega)
end Go.Proofs.YtcgmkjpgaigmfaaGreat
/-! Printed by gen_may.py. Layer 4: all of a list's names, fields, numbers, expressions, sets. -/
namespace Go.Proofs.YtcgmkjpgaigmfaaGreat
open Go.RowKit
theorem enters_isname : ∀ args w, (callFunc 35 args).run Tryz.prog w = .ok (.enter 35 args) w := enters_of Tryz.func35 (by kernel_rfl) rfl
theorem enters_isfield : ∀ args w, (callFunc 37 args).run Tryz.prog w = .ok (.enter 37 args) w := enters_of Tryz.func37 (by kernel_rfl) rfl
theorem enters_islit : ∀ args w, (callFunc 112 args).run Tryz.prog w = .ok (.enter 112 args) w := enters_of Tryz.func112 (by kernel_rfl) rfl
theorem enters_isset : ∀ args w, (callFunc 104 args).run Tryz.prog w = .ok (.enter 104 args) w := enters_of Tryz.func104 (by kernel_rfl) rfl
theorem enters_mayexpr : ∀ args w, (callFunc 100 args).run Tryz.prog w = .ok (.enter 100 args) w := enters_of Tryz.func100 (by kernel_rfl) rfl
theorem names_all {m : Int} {B : Nat} (l : List ByteArray) (A : Option Addr) (cap : Nat) (w : World) (hB : B ≤ w.heap.size) (h0 : 0 < B) (hz : w.cell? ⟨0, 0, none⟩ = some (.int .i64 m)) (h : Sl 1 rStr w B A l) :
  Calls Tryz.prog 46 #[.slice A l.length cap, .func (.func 35) #[] #[]] w fun e w' => e = .returned (.bool (l.all nameB)) ∧ Below w.heap.size w w' :=
 all_string sta_str 35 #[] enters_isname nameB A cap l w hB h (fun i x cs W hx hb hr hel => by
  obtain ⟨rfl, hs⟩ := hr
  exact (isName_any x m W hs (zcell (by omega) hz hb)).mono fun e w' h => ⟨h.1, h.2 ▸ Below.refl _ _⟩)
theorem fields_all {m : Int} {B : Nat} (l : List Fd) (A : Option Addr) (cap : Nat) (w : World) (hB : B ≤ w.heap.size) (h0 : 0 < B) (hz : w.cell? ⟨0, 0, none⟩ = some (.int .i64 m)) (h : Sl 2 rFd w B A l) :
  Calls Tryz.prog 36 #[.slice A l.length cap, .func (.func 37) #[] #[]] w fun e w' => e = .returned (.bool (l.all fdB)) ∧ Below w.heap.size w w' :=
 all_Field sta_fd 37 #[] enters_isfield fdB A cap l w hB h (fun i x cs W hx hb hr hel => by
  obtain ⟨rfl, hs, -⟩ := hr
  exact isField_any x m W hs (zcell (by omega) hz hb))
theorem lits_all {m : Int} {B : Nat} (l : List Lt) (A : Option Addr) (cap : Nat) (w : World) (hB : B ≤ w.heap.size) (h0 : 0 < B) (hz : w.cell? ⟨0, 0, none⟩ = some (.int .i64 m)) (h : Sl 3 rLt w B A l) :
  Calls Tryz.prog 111 #[.slice A l.length cap, .func (.func 112) #[] #[]] w fun e w' => e = .returned (.bool (l.all litB)) ∧ Below w.heap.size w w' :=
 all_Lit sta_lt 112 #[] enters_islit litB A cap l w hB h (fun i x cs W hx hb hr hel => by
  obtain ⟨rfl, hs⟩ := hr
  exact isLit_any x W hs)
theorem sets_all {m : Int} {B : Nat} (l : List Se) (A : Option Addr) (cap : Nat) (w : World) (hB : B ≤ w.heap.size) (h0 : 0 < B) (hz : w.cell? ⟨0, 0, none⟩ = some (.int .i64 m)) (h : Sl 7 rSe w B A l) :
  Calls Tryz.prog 103 #[.slice A l.length cap, .func (.func 104) #[] #[]] w fun e w' => e = .returned (.bool (l.all seB)) ∧ Below w.heap.size w w' :=
 all_Set sta_se 104 #[] enters_isset seB A cap l w hB h (fun i x cs W hx hb hr hel => by
  obtain ⟨rfl, h1, h2, h3⟩ := hr
  exact isSet_any x W h1 h2 h3)
theorem exprs_all {m : Int} {B : Nat} (l : List Ex) (A : Option Addr) (cap : Nat) (w : World) (hB : B ≤ w.heap.size) (h0 : 0 < B) (hz : w.cell? ⟨0, 0, none⟩ = some (.int .i64 m)) (h : Sl 9 rEx w B A l) :
  Calls Tryz.prog 99 #[.slice A l.length cap, .func (.func 100) #[] #[]] w fun e w' => e = .returned (.bool (l.all mayE)) ∧ Below w.heap.size w w' :=
 all_Expr sta_ex 100 #[] enters_mayexpr mayE A cap l w hB h (fun i x cs W hx hb hr hel => by
  exact mayexpr_any x cs W (by have := hb.size; omega) h0 (zcell (by omega) hz hb) hr)
end Go.Proofs.YtcgmkjpgaigmfaaGreat
/-! Printed by gen_may.py. Layer 4: mayTable. -/
namespace Go.Proofs.YtcgmkjpgaigmfaaGreat
open Go.RowKit
theorem enters_key : ∀ args w, (callFunc 109 args).run Tryz.prog w = .ok (.enter 109 args) w := enters_of Tryz.func109 (by kernel_rfl) rfl
set_option maxRecDepth 100000 in
set_option maxHeartbeats 400000 in
theorem key_any {m : Int} {B : Nat} (k : Ky) (cs : List Value) (w : World) (hB : B ≤ w.heap.size) (h0 : 0 < B) (hz : w.cell? ⟨0, 0, none⟩ = some (.int .i64 m)) (hr : rKy w B cs k) :
  Calls Tryz.prog 109 #[.agg cs.toArray] w fun r w' => r = .returned (.bool (kyB k)) ∧ Below w.heap.size w w' := by
 obtain ⟨es, hcs, hu, he⟩ := hr
 obtain ⟨⟨op, lit, head, name, hi, lo, args⟩, kind⟩ := k
 replace hu : u8 kind := hu
 replace he : rEx w B es (.mk op lit head name hi lo args) := he
 obtain ⟨A, cap, rfl, -, -, -, -, -, -, hs⟩ := RE.inv he
 have hcs' : cs = [.int .u8 op, .int .i64 lit.1, .int .u64 lit.2.1, .int .u64 lit.2.2, .string head, .string name, .int .i64 hi, .int .i64 lo, .slice A args.length cap, .int .u8 kind] := by rw [hcs]; simp only [exC, List.cons_append, List.nil_append]
 clear hcs
 subst hcs'
 have hla := hs.len
 obtain ⟨wa, hwa, hsa, hba, hca, -⟩ := box1 w #[.int .u8 op, .int .i64 lit.1, .int .u64 lit.2.1, .int .u64 lit.2.2, .string head, .string name, .int .i64 hi, .int .i64 lo, .slice A args.length cap, .int .u8 kind] 70
 obtain ⟨y0, y1, y2, y3, y4, y5, y6, y7, y8, y9⟩ := row10 hca
 have hb0 : Below wa.heap.size wa wa := Below.refl _ _
 have hBk := hide (show ∀ W, Below wa.heap.size wa W → Below w.heap.size w W from fun W hb => hba.trans (hb.mono (by omega)))
 have hc0 : ∀ W, Below wa.heap.size wa W → W.cell? ⟨0, 0, none⟩ = some (.int .i64 m) := fun W hb => ((hb.cell (p := ⟨0, 0, none⟩) (by show 0 < _; omega)).trans ((hba.cell (p := ⟨0, 0, none⟩) (by show 0 < _; omega)).trans hz))
 have hBW : ∀ W, Below wa.heap.size wa W → B ≤ W.heap.size := fun W hb => by have := hb.size; omega
 have q1 : Hid (∀ (W : World), Below wa.heap.size wa W → Calls Tryz.prog 100 #[.agg #[.int .u8 op, .int .i64 lit.1, .int .u64 lit.2.1, .int .u64 lit.2.2, .string head, .string name, .int .i64 hi, .int .i64 lo, .slice A args.length cap]] W fun e w' => e = .returned (.bool (mayE (.mk op lit head name hi lo args))) ∧ Below wa.heap.size wa w') := hide (fun (W : World) (hb : Below wa.heap.size wa W) => (mayexpr_any (.mk op lit head name hi lo args) (exC op lit head name hi lo A args.length cap) W (hBW W hb) h0 (hc0 W hb) (sta_ex.keep he fun q hq => (hba.trans (hb.mono (by omega))).cell (Nat.lt_of_lt_of_le hq hB))).mono (fun e w' h => (⟨h.1, hb.trans (h.2.mono hb.size)⟩ : e = _ ∧ Below wa.heap.size wa w')))
 have hv : kyB ⟨.mk op lit head name hi lo args, kind⟩ = (mayE (.mk op lit head name hi lo args) && (decide (1 ≤ kind) && decide (kind ≤ 3))) := by simp only [kyB, Bool.decide_and]
 rw [hv]
 generalize mayE (.mk op lit head name hi lo args) = z1 at q1 ⊢
 show Calls _ _ #[.agg #[.int .u8 op, .int .i64 lit.1, .int .u64 lit.2.1, .int .u64 lit.2.2, .string head, .string name, .int .i64 hi, .int .i64 lo, .slice A args.length cap, .int .u8 kind]] _ _
 clear hca hba hc0 hBW hv he hs hz
 cases z1 with
 | false =>
  go_enter Tryz.func109, Tryz.ntmps109
  go_wp2_with (first | (go_at_call 100; refine (q1.out _ (by assumption)).mono ?_; rintro e w1 ⟨rfl, hb1⟩; have khb1 := bcell' hb1))
  go_ret
  exact ⟨ret_b (by first | (simp; done) | (simp; omega) | (simp; unfold wrap64; omega)), hBk.out _ (by assumption)⟩
 | true =>
  by_cases n1 : 1 ≤ kind
  ·rw [decide_eq_true n1]
   have i1 : 1 ≤ kind := by omega
   by_cases n2 : kind ≤ 3
   ·rw [decide_eq_true n2]
    have i2 : kind ≤ 3 := by omega
    go_enter Tryz.func109, Tryz.ntmps109
    go_wp2_with (first | (go_at_call 100; refine (q1.out _ (by assumption)).mono ?_; rintro e w1 ⟨rfl, hb1⟩; have khb1 := bcell' hb1))
    go_ret
    exact ⟨ret_b (by first | (simp; done) | (simp; omega) | (simp; unfold wrap64; omega)), hBk.out _ (by assumption)⟩
   ·rw [decide_eq_false n2]
    have i2 : ¬ (kind ≤ 3) := by omega
    go_enter Tryz.func109, Tryz.ntmps109
    go_wp2_with (first | (go_at_call 100; refine (q1.out _ (by assumption)).mono ?_; rintro e w1 ⟨rfl, hb1⟩; have khb1 := bcell' hb1))
    go_ret
    exact ⟨ret_b (by first | (simp; done) | (simp; omega) | (simp; unfold wrap64; omega)), hBk.out _ (by assumption)⟩
  ·rw [decide_eq_false n1]
   have i1 : ¬ (1 ≤ kind) := by omega
   go_enter Tryz.func109, Tryz.ntmps109
   go_wp2_with (first | (go_at_call 100; refine (q1.out _ (by assumption)).mono ?_; rintro e w1 ⟨rfl, hb1⟩; have khb1 := bcell' hb1))
   go_ret
   exact ⟨ret_b (by first | (simp; done) | (simp; omega) | (simp; unfold wrap64; omega)), hBk.out _ (by assumption)⟩
theorem keys_all {m : Int} {B : Nat} (l : List Ky) (A : Option Addr) (cap : Nat) (w : World) (hB : B ≤ w.heap.size) (h0 : 0 < B) (hz : w.cell? ⟨0, 0, none⟩ = some (.int .i64 m)) (h : Sl 10 rKy w B A l) :
  Calls Tryz.prog 110 #[.slice A l.length cap, .func (.func 109) #[] #[]] w fun e w' => e = .returned (.bool (l.all kyB)) ∧ Below w.heap.size w w' :=
 all_Key sta_ky 109 #[] enters_key kyB A cap l w hB h (fun i x cs W hx hb hr hel => key_any x cs W (by have := hb.size; omega) h0 (zcell (by omega) hz hb) hr)
set_option maxRecDepth 100000 in
set_option maxHeartbeats 1000000 in
theorem mayTable_any {m : Int} {B : Nat} (t : Ta) (cs : List Value) (w : World) (hB : B ≤ w.heap.size) (h0 : 0 < B) (hz : w.cell? ⟨0, 0, none⟩ = some (.int .i64 m)) (hr : rTa w B cs t) :
  Calls Tryz.prog 44 #[.agg cs.toArray] w fun r w' => r = .returned (.bool (taB t)) ∧ Below w.heap.size w w' := by
 obtain ⟨A1, c1, A2, c2, A3, c3, rfl, hn, hd, hK, hT, hL⟩ := hr
 have l1 := hK.len
 have l2 := hT.len
 have l3 := hL.len
 obtain ⟨wa, hwa, hsa, hba, hca, -⟩ := box1 w #[.string t.name, .slice A1 t.keys.length c1, .slice A2 t.actions.length c2, .string t.dname, .slice A3 t.dargs.length c3] 48
 obtain ⟨y0, y1, y2, y3, y4⟩ := row5 hca
 have hb0 : Below wa.heap.size wa wa := Below.refl _ _
 have hBk := hide (show ∀ W, Below wa.heap.size wa W → Below w.heap.size w W from fun W hb => hba.trans (hb.mono (by omega)))
 have hc0 : ∀ W, Below wa.heap.size wa W → W.cell? ⟨0, 0, none⟩ = some (.int .i64 m) := fun W hb => ((hb.cell (p := ⟨0, 0, none⟩) (by show 0 < _; omega)).trans ((hba.cell (p := ⟨0, 0, none⟩) (by show 0 < _; omega)).trans hz))
 have hBW : ∀ W, Below wa.heap.size wa W → B ≤ W.heap.size := fun W hb => by have := hb.size; omega
 have hk : ∀ W, Below wa.heap.size wa W → Below B w W := fun W hb => (hba.trans (hb.mono (by omega))).mono hB
 have q1 := hide (fun W hb => isName_any t.name m W hn (hc0 W hb))
 have q4 := hide (fun W hb => isName_any t.dname m W hd (hc0 W hb))
 have q2 := hide (fun (W : World) (hb : Below wa.heap.size wa W) => (keys_all t.keys A1 c1 W (hBW W hb) h0 (hc0 W hb) (hK.below sta_ky (hk W hb))).mono (fun e w' h => (⟨h.1, hb.trans (h.2.mono hb.size)⟩ : e = _ ∧ Below wa.heap.size wa w')))
 have q3 := hide (fun (W : World) (hb : Below wa.heap.size wa W) => (names_all t.actions A2 c2 W (hBW W hb) h0 (hc0 W hb) (hT.below sta_str (hk W hb))).mono (fun e w' h => (⟨h.1, hb.trans (h.2.mono hb.size)⟩ : e = _ ∧ Below wa.heap.size wa w')))
 have q5 := hide (fun (W : World) (hb : Below wa.heap.size wa W) => (lits_all t.dargs A3 c3 W (hBW W hb) h0 (hc0 W hb) (hL.below sta_lt (hk W hb))).mono (fun e w' h => (⟨h.1, hb.trans (h.2.mono hb.size)⟩ : e = _ ∧ Below wa.heap.size wa w')))
 have hv : taB t = (nameB t.name && (decide (1 ≤ t.keys.length) && (decide (t.keys.length ≤ 4) && (t.keys.all kyB && (decide (1 ≤ t.actions.length) && (decide (t.actions.length ≤ 16) && (t.actions.all nameB && (nameB t.dname && (decide (t.dargs.length ≤ 8) && t.dargs.all litB))))))))) := by
  simp only [taB, Bool.decide_and, Bool.and_assoc]
 rw [hv]
 generalize nameB t.name = z1 at q1 ⊢
 generalize t.keys.all kyB = z2 at q2 ⊢
 generalize t.actions.all nameB = z3 at q3 ⊢
 generalize nameB t.dname = z4 at q4 ⊢
 generalize t.dargs.all litB = z5 at q5 ⊢
 show Calls _ _ #[.agg #[.string t.name, .slice A1 t.keys.length c1, .slice A2 t.actions.length c2, .string t.dname, .slice A3 t.dargs.length c3]] _ _
 clear hca hba hc0 hBW hv hk hK hT hL hz
 have eg := enters_key
 cases z1 with
 | false =>
  go_enter Tryz.func44, Tryz.ntmps44
  go_wp2_with (first | (go_at_call 35; first | (with_reducible refine (q1.out _ (by assumption)).mono ?_; rintro e w1 ⟨rfl, rfl⟩) | (with_reducible refine (q4.out _ (by assumption)).mono ?_; rintro e w1 ⟨rfl, rfl⟩)) | (go_at_call 110; refine (q2.out _ (by assumption)).mono ?_; rintro e w1 ⟨rfl, hb2⟩; have khb2 := bcell' hb2) | (go_at_call 46; refine (q3.out _ (by assumption)).mono ?_; rintro e w1 ⟨rfl, hb3⟩; have khb3 := bcell' hb3) | (go_at_call 111; refine (q5.out _ (by assumption)).mono ?_; rintro e w1 ⟨rfl, hb5⟩; have khb5 := bcell' hb5))
  go_ret
  exact ⟨ret_b (by first | (simp; done) | (simp; omega) | (simp; unfold wrap64; omega)), hBk.out _ (by assumption)⟩
 | true =>
  by_cases n1 : 1 ≤ t.keys.length
  ·rw [decide_eq_true n1]
   have i1 : 1 ≤ (t.keys.length : Int) := by omega
   by_cases n2 : t.keys.length ≤ 4
   ·rw [decide_eq_true n2]
    have i2 : (t.keys.length : Int) ≤ 4 := by omega
    cases z2 with
    | false =>
     go_enter Tryz.func44, Tryz.ntmps44
     go_wp2_with (first | (go_at_call 35; first | (with_reducible refine (q1.out _ (by assumption)).mono ?_; rintro e w1 ⟨rfl, rfl⟩) | (with_reducible refine (q4.out _ (by assumption)).mono ?_; rintro e w1 ⟨rfl, rfl⟩)) | (go_at_call 110; refine (q2.out _ (by assumption)).mono ?_; rintro e w1 ⟨rfl, hb2⟩; have khb2 := bcell' hb2) | (go_at_call 46; refine (q3.out _ (by assumption)).mono ?_; rintro e w1 ⟨rfl, hb3⟩; have khb3 := bcell' hb3) | (go_at_call 111; refine (q5.out _ (by assumption)).mono ?_; rintro e w1 ⟨rfl, hb5⟩; have khb5 := bcell' hb5))
     go_ret
     exact ⟨ret_b (by first | (simp; done) | (simp; omega) | (simp; unfold wrap64; omega)), hBk.out _ (by assumption)⟩
    | true =>
     by_cases n4 : 1 ≤ t.actions.length
     ·rw [decide_eq_true n4]
      have i4 : 1 ≤ (t.actions.length : Int) := by omega
      by_cases n5 : t.actions.length ≤ 16
      ·rw [decide_eq_true n5]
       have i5 : (t.actions.length : Int) ≤ 16 := by omega
       cases z3 with
       | false =>
        go_enter Tryz.func44, Tryz.ntmps44
        go_wp2_with (first | (go_at_call 35; first | (with_reducible refine (q1.out _ (by assumption)).mono ?_; rintro e w1 ⟨rfl, rfl⟩) | (with_reducible refine (q4.out _ (by assumption)).mono ?_; rintro e w1 ⟨rfl, rfl⟩)) | (go_at_call 110; refine (q2.out _ (by assumption)).mono ?_; rintro e w1 ⟨rfl, hb2⟩; have khb2 := bcell' hb2) | (go_at_call 46; refine (q3.out _ (by assumption)).mono ?_; rintro e w1 ⟨rfl, hb3⟩; have khb3 := bcell' hb3) | (go_at_call 111; refine (q5.out _ (by assumption)).mono ?_; rintro e w1 ⟨rfl, hb5⟩; have khb5 := bcell' hb5))
        go_ret
        exact ⟨ret_b (by first | (simp; done) | (simp; omega) | (simp; unfold wrap64; omega)), hBk.out _ (by assumption)⟩
       | true =>
        cases z4 with
        | false =>
         go_enter Tryz.func44, Tryz.ntmps44
         go_wp2_with (first | (go_at_call 35; first | (with_reducible refine (q1.out _ (by assumption)).mono ?_; rintro e w1 ⟨rfl, rfl⟩) | (with_reducible refine (q4.out _ (by assumption)).mono ?_; rintro e w1 ⟨rfl, rfl⟩)) | (go_at_call 110; refine (q2.out _ (by assumption)).mono ?_; rintro e w1 ⟨rfl, hb2⟩; have khb2 := bcell' hb2) | (go_at_call 46; refine (q3.out _ (by assumption)).mono ?_; rintro e w1 ⟨rfl, hb3⟩; have khb3 := bcell' hb3) | (go_at_call 111; refine (q5.out _ (by assumption)).mono ?_; rintro e w1 ⟨rfl, hb5⟩; have khb5 := bcell' hb5))
         go_ret
         exact ⟨ret_b (by first | (simp; done) | (simp; omega) | (simp; unfold wrap64; omega)), hBk.out _ (by assumption)⟩
        | true =>
         by_cases n8 : t.dargs.length ≤ 8
         ·rw [decide_eq_true n8]
          have i8 : (t.dargs.length : Int) ≤ 8 := by omega
          cases z5 with
          | false =>
           go_enter Tryz.func44, Tryz.ntmps44
           go_wp2_with (first | (go_at_call 35; first | (with_reducible refine (q1.out _ (by assumption)).mono ?_; rintro e w1 ⟨rfl, rfl⟩) | (with_reducible refine (q4.out _ (by assumption)).mono ?_; rintro e w1 ⟨rfl, rfl⟩)) | (go_at_call 110; refine (q2.out _ (by assumption)).mono ?_; rintro e w1 ⟨rfl, hb2⟩; have khb2 := bcell' hb2) | (go_at_call 46; refine (q3.out _ (by assumption)).mono ?_; rintro e w1 ⟨rfl, hb3⟩; have khb3 := bcell' hb3) | (go_at_call 111; refine (q5.out _ (by assumption)).mono ?_; rintro e w1 ⟨rfl, hb5⟩; have khb5 := bcell' hb5))
           go_ret
           exact ⟨ret_b (by first | (simp; done) | (simp; omega) | (simp; unfold wrap64; omega)), hBk.out _ (by assumption)⟩
          | true =>
           go_enter Tryz.func44, Tryz.ntmps44
           go_wp2_with (first | (go_at_call 35; first | (with_reducible refine (q1.out _ (by assumption)).mono ?_; rintro e w1 ⟨rfl, rfl⟩) | (with_reducible refine (q4.out _ (by assumption)).mono ?_; rintro e w1 ⟨rfl, rfl⟩)) | (go_at_call 110; refine (q2.out _ (by assumption)).mono ?_; rintro e w1 ⟨rfl, hb2⟩; have khb2 := bcell' hb2) | (go_at_call 46; refine (q3.out _ (by assumption)).mono ?_; rintro e w1 ⟨rfl, hb3⟩; have khb3 := bcell' hb3) | (go_at_call 111; refine (q5.out _ (by assumption)).mono ?_; rintro e w1 ⟨rfl, hb5⟩; have khb5 := bcell' hb5))
           go_ret
           exact ⟨ret_b (by first | (simp; done) | (simp; omega) | (simp; unfold wrap64; omega)), hBk.out _ (by assumption)⟩
         ·rw [decide_eq_false n8]
          have i8 : ¬ ((t.dargs.length : Int) ≤ 8) := by omega
          go_enter Tryz.func44, Tryz.ntmps44
          go_wp2_with (first | (go_at_call 35; first | (with_reducible refine (q1.out _ (by assumption)).mono ?_; rintro e w1 ⟨rfl, rfl⟩) | (with_reducible refine (q4.out _ (by assumption)).mono ?_; rintro e w1 ⟨rfl, rfl⟩)) | (go_at_call 110; refine (q2.out _ (by assumption)).mono ?_; rintro e w1 ⟨rfl, hb2⟩; have khb2 := bcell' hb2) | (go_at_call 46; refine (q3.out _ (by assumption)).mono ?_; rintro e w1 ⟨rfl, hb3⟩; have khb3 := bcell' hb3) | (go_at_call 111; refine (q5.out _ (by assumption)).mono ?_; rintro e w1 ⟨rfl, hb5⟩; have khb5 := bcell' hb5))
          go_ret
          exact ⟨ret_b (by first | (simp; done) | (simp; omega) | (simp; unfold wrap64; omega)), hBk.out _ (by assumption)⟩
      ·rw [decide_eq_false n5]
       have i5 : ¬ ((t.actions.length : Int) ≤ 16) := by omega
       go_enter Tryz.func44, Tryz.ntmps44
       go_wp2_with (first | (go_at_call 35; first | (with_reducible refine (q1.out _ (by assumption)).mono ?_; rintro e w1 ⟨rfl, rfl⟩) | (with_reducible refine (q4.out _ (by assumption)).mono ?_; rintro e w1 ⟨rfl, rfl⟩)) | (go_at_call 110; refine (q2.out _ (by assumption)).mono ?_; rintro e w1 ⟨rfl, hb2⟩; have khb2 := bcell' hb2) | (go_at_call 46; refine (q3.out _ (by assumption)).mono ?_; rintro e w1 ⟨rfl, hb3⟩; have khb3 := bcell' hb3) | (go_at_call 111; refine (q5.out _ (by assumption)).mono ?_; rintro e w1 ⟨rfl, hb5⟩; have khb5 := bcell' hb5))
       go_ret
       exact ⟨ret_b (by first | (simp; done) | (simp; omega) | (simp; unfold wrap64; omega)), hBk.out _ (by assumption)⟩
     ·rw [decide_eq_false n4]
      have i4 : ¬ (1 ≤ (t.actions.length : Int)) := by omega
      go_enter Tryz.func44, Tryz.ntmps44
      go_wp2_with (first | (go_at_call 35; first | (with_reducible refine (q1.out _ (by assumption)).mono ?_; rintro e w1 ⟨rfl, rfl⟩) | (with_reducible refine (q4.out _ (by assumption)).mono ?_; rintro e w1 ⟨rfl, rfl⟩)) | (go_at_call 110; refine (q2.out _ (by assumption)).mono ?_; rintro e w1 ⟨rfl, hb2⟩; have khb2 := bcell' hb2) | (go_at_call 46; refine (q3.out _ (by assumption)).mono ?_; rintro e w1 ⟨rfl, hb3⟩; have khb3 := bcell' hb3) | (go_at_call 111; refine (q5.out _ (by assumption)).mono ?_; rintro e w1 ⟨rfl, hb5⟩; have khb5 := bcell' hb5))
      go_ret
      exact ⟨ret_b (by first | (simp; done) | (simp; omega) | (simp; unfold wrap64; omega)), hBk.out _ (by assumption)⟩
   ·rw [decide_eq_false n2]
    have i2 : ¬ ((t.keys.length : Int) ≤ 4) := by omega
    go_enter Tryz.func44, Tryz.ntmps44
    go_wp2_with (first | (go_at_call 35; first | (with_reducible refine (q1.out _ (by assumption)).mono ?_; rintro e w1 ⟨rfl, rfl⟩) | (with_reducible refine (q4.out _ (by assumption)).mono ?_; rintro e w1 ⟨rfl, rfl⟩)) | (go_at_call 110; refine (q2.out _ (by assumption)).mono ?_; rintro e w1 ⟨rfl, hb2⟩; have khb2 := bcell' hb2) | (go_at_call 46; refine (q3.out _ (by assumption)).mono ?_; rintro e w1 ⟨rfl, hb3⟩; have khb3 := bcell' hb3) | (go_at_call 111; refine (q5.out _ (by assumption)).mono ?_; rintro e w1 ⟨rfl, hb5⟩; have khb5 := bcell' hb5))
    go_ret
    exact ⟨ret_b (by first | (simp; done) | (simp; omega) | (simp; unfold wrap64; omega)), hBk.out _ (by assumption)⟩
  ·rw [decide_eq_false n1]
   have i1 : ¬ (1 ≤ (t.keys.length : Int)) := by omega
   go_enter Tryz.func44, Tryz.ntmps44
   go_wp2_with (first | (go_at_call 35; first | (with_reducible refine (q1.out _ (by assumption)).mono ?_; rintro e w1 ⟨rfl, rfl⟩) | (with_reducible refine (q4.out _ (by assumption)).mono ?_; rintro e w1 ⟨rfl, rfl⟩)) | (go_at_call 110; refine (q2.out _ (by assumption)).mono ?_; rintro e w1 ⟨rfl, hb2⟩; have khb2 := bcell' hb2) | (go_at_call 46; refine (q3.out _ (by assumption)).mono ?_; rintro e w1 ⟨rfl, hb3⟩; have khb3 := bcell' hb3) | (go_at_call 111; refine (q5.out _ (by assumption)).mono ?_; rintro e w1 ⟨rfl, hb5⟩; have khb5 := bcell' hb5))
   go_ret
   exact ⟨ret_b (by first | (simp; done) | (simp; omega) | (simp; unfold wrap64; omega)), hBk.out _ (by assumption)⟩
end Go.Proofs.YtcgmkjpgaigmfaaGreat

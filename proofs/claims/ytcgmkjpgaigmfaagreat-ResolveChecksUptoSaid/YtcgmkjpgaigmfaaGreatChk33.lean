import Derived.Test.YtcgmkjpgaigmfaaGreatChk32
set_option linter.all false
/-! Printed by gen_st4.py. The document's layer 4: statements. -/
namespace Go.Proofs.YtcgmkjpgaigmfaaGreat
open Go.RowKit
theorem mayS_ways (kind : Int) (head name : ByteArray) (e : Ex) (thn els : List St) (deep : Nat) : mayS (.mk kind head name e thn els) deep =
  if kind = 1 then (thn.isEmpty && els.isEmpty) && (nameB name && ((decide (head = strE) || nameB head) && mayE e))
  else if kind = 2 then decide (name = strE) && (decide (head = strE) && (mayE e && (mayBlk thn (deep + 1) && mayBlk els (deep + 1))))
  else if kind = 3 then (thn.isEmpty && els.isEmpty) && (noEx e && (decide (head = strE) && nameB name))
  else if kind = 4 then (thn.isEmpty && els.isEmpty) && (noEx e && (decide (head = strE) && decide (name = strE)))
  else if kind = 5 then (thn.isEmpty && els.isEmpty) && (decide (head = strE) && (decide (name = strE) && mayE e))
  else if kind = 6 ∨ kind = 7 then (thn.isEmpty && els.isEmpty) && (noEx e && (decide (name = strE) && nameB head))
  else false := by
 simp only [mayS, mayBlk]
 generalize thn.isEmpty = a
 generalize els.isEmpty = b
 generalize nameB name = c
 generalize nameB head = d
 generalize mayE e = f
 generalize noEx e = g
 generalize decide (head = strE) = h
 generalize decide (name = strE) = i
 repeat' split
 all_goals first | rfl | (cases a <;> cases b <;> cases c <;> cases d <;> cases f <;> cases g <;> cases h <;> cases i <;> rfl) | (cases f <;> cases h <;> cases i <;> simp)
set_option maxRecDepth 100000 in
set_option maxHeartbeats 4000000 in
theorem maySt4_of {B : Nat} (kind : Int) (head name : ByteArray) (e : Ex) (thn els : List St) (ih1 : ∀ x ∈ thn, MaySt4 B x) (ih2 : ∀ x ∈ els, MaySt4 B x) : MaySt4 B (.mk kind head name e thn els) := by
 intro cs w deep hd hB hr
 obtain ⟨es, A1, c1, A2, c2, rfl, h0, h1, h2', he, hT, hE⟩ := RS.inv hr
 have hsm := RS.small hr
 have l1 := hT.len
 have l2 := hE.len
 have hX0 := fun (W : World) (hb : Below w.heap.size w W) => mayExpr04_any e es W (Nat.le_trans hB hb.size) (sta_ex.keep he fun q hq => (hb.mono hB).cell hq)
 obtain ⟨op, lit, eh, en, hi, lo, args⟩ := e
 obtain ⟨A, cap, rfl, hop, -, -, -, -, -, hs⟩ := RE.inv he
 have hla := hs.len
 obtain ⟨wa, hwa, hsa, hba, hca, -⟩ := box1 w #[.int .u8 kind, .string head, .string name, .int .u8 op, .int .i64 lit.1, .int .u64 lit.2.1, .int .u64 lit.2.2, .string eh, .string en, .int .i64 hi, .int .i64 lo, .slice A args.length cap, .slice A1 thn.length c1, .slice A2 els.length c2] 75
 obtain ⟨y0, y1, y2, y3, y4, y5, y6, y7, y8, y9, y10, y11, y12, y13⟩ := row14 hca
 have hb0 : Below wa.heap.size wa wa := Below.refl _ _
 have hBk := hide (show ∀ W, Below wa.heap.size wa W → Below w.heap.size w W from fun W hb => hba.trans (hb.mono (by omega)))
 have hBW : ∀ W, Below wa.heap.size wa W → B ≤ W.heap.size := fun W hb => by have := hb.size; omega
 have q1 := hide (fun (W : World) (hb : Below wa.heap.size wa W) => (isName03_any head W).mono (fun e w' h => (⟨h.1, hb.trans (h.2.mono hb.size)⟩ : e = _ ∧ Below wa.heap.size wa w')))
 have q2 := hide (fun (W : World) (hb : Below wa.heap.size wa W) => (isName03_any name W).mono (fun e w' h => (⟨h.1, hb.trans (h.2.mono hb.size)⟩ : e = _ ∧ Below wa.heap.size wa w')))
 have q3 : Hid (∀ (W : World), Below wa.heap.size wa W → Calls Tryz.prog 130 #[.agg #[.int .u8 op, .int .i64 lit.1, .int .u64 lit.2.1, .int .u64 lit.2.2, .string eh, .string en, .int .i64 hi, .int .i64 lo, .slice A args.length cap]] W fun r w' => r = .returned (.bool (mayE (.mk op lit eh en hi lo args))) ∧ Below wa.heap.size wa w') := hide (fun W hb => (hX0 W (hBk.out W hb)).mono fun e w' h => ⟨h.1, hb.trans (h.2.mono hb.size)⟩)
 have hdd : ((deep + 1 : Nat) : Int) = (deep : Int) + 1 := by omega
 have q4 : Hid (∀ (W : World), Below wa.heap.size wa W → Calls Tryz.prog 70 #[.slice A1 thn.length c1, .int .i64 ((deep : Int) + 1)] W fun r w' => r = .returned (.bool (mayBlk thn (deep + 1))) ∧ Below wa.heap.size wa w') := hide (fun W hb => by
  rw [← hdd]
  exact (mayb4_of thn ih1 A1 c1 W (deep + 1) (by omega) (hBW W hb) (hT.below sta_st ((hBk.out W hb).mono hB))).mono fun e w' h => ⟨h.1, hb.trans (h.2.mono hb.size)⟩)
 have q5 : Hid (∀ (W : World), Below wa.heap.size wa W → Calls Tryz.prog 70 #[.slice A2 els.length c2, .int .i64 ((deep : Int) + 1)] W fun r w' => r = .returned (.bool (mayBlk els (deep + 1))) ∧ Below wa.heap.size wa w') := hide (fun W hb => by
  rw [← hdd]
  exact (mayb4_of els ih2 A2 c2 W (deep + 1) (by omega) (hBW W hb) (hE.below sta_st ((hBk.out W hb).mono hB))).mono fun e w' h => ⟨h.1, hb.trans (h.2.mono hb.size)⟩)
 have hdz : (deep : Int) ≤ 8 := by omega
 have hv0 := mayS_ways kind head name (.mk op lit eh en hi lo args) thn els deep
 have hno : noEx (.mk op lit eh en hi lo args) = (decide (op = 0) && (decide (args.length = 0) && (decide (lit = zLt) && (decide (eh = strE) && (decide (en = strE) && (decide (hi = 0) && decide (lo = 0))))))) := by
  have : args.isEmpty = decide (args.length = 0) := by cases args <;> simp
  simp only [noEx, this]
  cases decide (op = 0) <;> cases decide (args.length = 0) <;> simp [Bool.and_assoc]
 have hbl : (thn.isEmpty && els.isEmpty) = (decide (thn.length = 0) && decide (els.length = 0)) := by
  cases thn <;> cases els <;> simp
 show Calls _ _ #[.agg #[.int .u8 kind, .string head, .string name, .int .u8 op, .int .i64 lit.1, .int .u64 lit.2.1, .int .u64 lit.2.2, .string eh, .string en, .int .i64 hi, .int .i64 lo, .slice A args.length cap, .slice A1 thn.length c1, .slice A2 els.length c2], .int .i64 (deep : Int)] _ _
 clear hX0 hr he hT hE hs hca hba hBW ih1 ih2 hdd hd hsm h0 h1 h2'
 generalize thn.length = n1 at *
 generalize els.length = n2 at *
 generalize args.length = nn at *
 go_enter Tryz.func129, Tryz.ntmps129
 go_upto_region 1 with (fail)
 go_cut [5] from 7 to 24 (fun s5 wx => s5 = .bool (!noEx (.mk op lit eh en hi lo args)) ∧ Hid (Below wa.heap.size wa wx))
 case first =>
  clear q1 q2 q3 q4 q5
  by_cases o1 : op = 0
  ·rw [decide_eq_true o1, Bool.true_and] at hno
   by_cases o2 : nn = 0
   ·rw [decide_eq_true o2, Bool.true_and] at hno
    have hn := hide hno
    have hS := same04_nil lit eh en hi lo A cap wa
    generalize (decide (lit = zLt) && (decide (eh = strE) && (decide (en = strE) && (decide (hi = 0) && decide (lo = 0))))) = z at hS hn
    clear hno hv0 hbl
    subst o1 o2
    go_wp2_with (go_at_call 166; refine hS.mono ?_; rintro e w1 ⟨rfl, hb1⟩)
    go_meet
    exact ⟨by rw [hn.out], hide hb1⟩
   ·have o2' : (0 : Int) < (nn : Int) := by omega
    rw [decide_eq_false o2, Bool.false_and] at hno
    have hn := hide hno
    clear hno hv0 hbl o2
    subst o1
    go_wp2
    go_meet
    exact ⟨by rw [hn.out]; rfl, hide hb0⟩
  ·rw [decide_eq_false o1, Bool.false_and] at hno
   have hn := hide hno
   clear hno hv0 hbl
   go_wp2
   go_meet
   exact ⟨by rw [hn.out]; rfl, hide hb0⟩
 case rest =>
  obtain ⟨rfl, hb1⟩ := hcut
  go_upto_region 2 with (fail)
  go_cut [6] from 25 to 34 (fun s6 wx => s6 = .bool (!(thn.isEmpty && els.isEmpty)) ∧ wx = wc)
  case first =>
   have kc := bcell' hb1.out
   clear q1 q2 q3 q4 q5 hno hv0
   by_cases o1 : n1 = 0
   ·rw [decide_eq_true o1, Bool.true_and] at hbl
    by_cases o2 : n2 = 0
    ·rw [decide_eq_true o2] at hbl
     have hn := hide hbl
     clear hbl
     subst o1 o2
     go_wp2
     go_meet
     exact ⟨by rw [hn.out]; first | rfl | (simp; omega), rfl⟩
    ·have o2' : (0 : Int) < (n2 : Int) := by omega
     rw [decide_eq_false o2] at hbl
     have hn := hide hbl
     clear o2 hbl
     subst o1
     go_wp2
     go_meet
     exact ⟨by rw [hn.out]; first | rfl | (simp; omega), rfl⟩
   ·have o1' : (0 : Int) < (n1 : Int) := by omega
    rw [decide_eq_false o1, Bool.false_and] at hbl
    have hn := hide hbl
    clear o1 hbl
    go_wp2
    go_meet
    exact ⟨by rw [hn.out]; first | rfl | (simp; omega), rfl⟩
  case rest =>
   obtain ⟨rfl, rfl⟩ := hcut
   have hb2 := hb1.out
   have kc := bcell' hb2
   clear hno hbl hb0 hb1
   rw [← Bool.not_not (noEx (.mk op lit eh en hi lo args))] at hv0
   rw [← Bool.not_not (thn.isEmpty && els.isEmpty)] at hv0
   generalize (!noEx (.mk op lit eh en hi lo args)) = ne at *
   generalize (!(thn.isEmpty && els.isEmpty)) = bl at *
   generalize nameB head = zh at q1 hv0
   generalize nameB name = zn at q2 hv0
   generalize mayE (.mk op lit eh en hi lo args) = ze at q3 hv0
   generalize mayBlk thn (deep + 1) = z4 at q4 hv0
   generalize mayBlk els (deep + 1) = z5 at q5 hv0
   replace hv0 := hide hv0
   by_cases k1 : kind = 1
   ·subst k1
    cases bl with
    | true =>
     have hv := hide (hv0.out.trans (by simp []) : mayS (.mk 1 head name (.mk op lit eh en hi lo args) thn els) deep = false)
     try clear e0
     try clear e1
     try clear e2
     try clear e3
     try clear e4
     try clear e5
     try clear e6
     try clear e7
     try clear e8
     go_wp2_with (first | (go_at_call 67; first | (with_reducible refine (q1.out _ (by assumption)).mono ?_; rintro e w1 ⟨rfl, hb1⟩; have kb1 := bcell' hb1) | (with_reducible refine (q2.out _ (by assumption)).mono ?_; rintro e w2 ⟨rfl, hb2⟩; have kb2 := bcell' hb2)) | (go_at_call 130; refine (q3.out _ (by assumption)).mono ?_; rintro e w3 ⟨rfl, hb3⟩; have kb3 := bcell' hb3) | (go_at_call 70; first | (with_reducible refine (q4.out _ (by assumption)).mono ?_; rintro e w4 ⟨rfl, hb4⟩; have kb4 := bcell' hb4) | (with_reducible refine (q5.out _ (by assumption)).mono ?_; rintro e w5 ⟨rfl, hb5⟩)))
     go_ret
     exact ⟨ret_b hv.out.symm, hBk.out _ (by assumption)⟩
    | false =>
     cases zn with
     | false =>
      have hv := hide (hv0.out.trans (by simp []) : mayS (.mk 1 head name (.mk op lit eh en hi lo args) thn els) deep = false)
      try clear e0
      try clear e1
      try clear e2
      try clear e3
      try clear e4
      try clear e5
      try clear e6
      try clear e7
      try clear e8
      go_wp2_with (first | (go_at_call 67; first | (with_reducible refine (q1.out _ (by assumption)).mono ?_; rintro e w1 ⟨rfl, hb1⟩; have kb1 := bcell' hb1) | (with_reducible refine (q2.out _ (by assumption)).mono ?_; rintro e w2 ⟨rfl, hb2⟩; have kb2 := bcell' hb2)) | (go_at_call 130; refine (q3.out _ (by assumption)).mono ?_; rintro e w3 ⟨rfl, hb3⟩; have kb3 := bcell' hb3) | (go_at_call 70; first | (with_reducible refine (q4.out _ (by assumption)).mono ?_; rintro e w4 ⟨rfl, hb4⟩; have kb4 := bcell' hb4) | (with_reducible refine (q5.out _ (by assumption)).mono ?_; rintro e w5 ⟨rfl, hb5⟩)))
      go_ret
      exact ⟨ret_b hv.out.symm, hBk.out _ (by assumption)⟩
     | true =>
      by_cases e2 : head = strE
      ·have t2 := emp_iff.1 e2
       cases ze with
       | false =>
        have hv := hide (hv0.out.trans (by simp []) : mayS (.mk 1 head name (.mk op lit eh en hi lo args) thn els) deep = false)
        try clear e0
        try clear e1
        try clear e2
        try clear e3
        try clear e4
        try clear e5
        try clear e6
        try clear e7
        try clear e8
        go_wp2_with (first | (go_at_call 67; first | (with_reducible refine (q1.out _ (by assumption)).mono ?_; rintro e w1 ⟨rfl, hb1⟩; have kb1 := bcell' hb1) | (with_reducible refine (q2.out _ (by assumption)).mono ?_; rintro e w2 ⟨rfl, hb2⟩; have kb2 := bcell' hb2)) | (go_at_call 130; refine (q3.out _ (by assumption)).mono ?_; rintro e w3 ⟨rfl, hb3⟩; have kb3 := bcell' hb3) | (go_at_call 70; first | (with_reducible refine (q4.out _ (by assumption)).mono ?_; rintro e w4 ⟨rfl, hb4⟩; have kb4 := bcell' hb4) | (with_reducible refine (q5.out _ (by assumption)).mono ?_; rintro e w5 ⟨rfl, hb5⟩)))
        go_ret
        exact ⟨ret_b hv.out.symm, hBk.out _ (by assumption)⟩
       | true =>
        have hv := hide (hv0.out.trans (by simp [e2]) : mayS (.mk 1 head name (.mk op lit eh en hi lo args) thn els) deep = true)
        try clear e0
        try clear e1
        try clear e2
        try clear e3
        try clear e4
        try clear e5
        try clear e6
        try clear e7
        try clear e8
        go_wp2_with (first | (go_at_call 67; first | (with_reducible refine (q1.out _ (by assumption)).mono ?_; rintro e w1 ⟨rfl, hb1⟩; have kb1 := bcell' hb1) | (with_reducible refine (q2.out _ (by assumption)).mono ?_; rintro e w2 ⟨rfl, hb2⟩; have kb2 := bcell' hb2)) | (go_at_call 130; refine (q3.out _ (by assumption)).mono ?_; rintro e w3 ⟨rfl, hb3⟩; have kb3 := bcell' hb3) | (go_at_call 70; first | (with_reducible refine (q4.out _ (by assumption)).mono ?_; rintro e w4 ⟨rfl, hb4⟩; have kb4 := bcell' hb4) | (with_reducible refine (q5.out _ (by assumption)).mono ?_; rintro e w5 ⟨rfl, hb5⟩)))
        go_ret
        exact ⟨ret_b hv.out.symm, hBk.out _ (by assumption)⟩
      ·have t2 : head.toList.isEmpty = false := by rw [Bool.eq_false_iff]; exact fun h => e2 (emp_iff.2 (List.isEmpty_iff.1 h))
       cases zh with
       | false =>
        have hv := hide (hv0.out.trans (by simp [e2]) : mayS (.mk 1 head name (.mk op lit eh en hi lo args) thn els) deep = false)
        try clear e0
        try clear e1
        try clear e2
        try clear e3
        try clear e4
        try clear e5
        try clear e6
        try clear e7
        try clear e8
        go_wp2_with (first | (go_at_call 67; first | (with_reducible refine (q1.out _ (by assumption)).mono ?_; rintro e w1 ⟨rfl, hb1⟩; have kb1 := bcell' hb1) | (with_reducible refine (q2.out _ (by assumption)).mono ?_; rintro e w2 ⟨rfl, hb2⟩; have kb2 := bcell' hb2)) | (go_at_call 130; refine (q3.out _ (by assumption)).mono ?_; rintro e w3 ⟨rfl, hb3⟩; have kb3 := bcell' hb3) | (go_at_call 70; first | (with_reducible refine (q4.out _ (by assumption)).mono ?_; rintro e w4 ⟨rfl, hb4⟩; have kb4 := bcell' hb4) | (with_reducible refine (q5.out _ (by assumption)).mono ?_; rintro e w5 ⟨rfl, hb5⟩)))
        go_ret
        exact ⟨ret_b hv.out.symm, hBk.out _ (by assumption)⟩
       | true =>
        cases ze with
        | false =>
         have hv := hide (hv0.out.trans (by simp []) : mayS (.mk 1 head name (.mk op lit eh en hi lo args) thn els) deep = false)
         try clear e0
         try clear e1
         try clear e2
         try clear e3
         try clear e4
         try clear e5
         try clear e6
         try clear e7
         try clear e8
         go_wp2_with (first | (go_at_call 67; first | (with_reducible refine (q1.out _ (by assumption)).mono ?_; rintro e w1 ⟨rfl, hb1⟩; have kb1 := bcell' hb1) | (with_reducible refine (q2.out _ (by assumption)).mono ?_; rintro e w2 ⟨rfl, hb2⟩; have kb2 := bcell' hb2)) | (go_at_call 130; refine (q3.out _ (by assumption)).mono ?_; rintro e w3 ⟨rfl, hb3⟩; have kb3 := bcell' hb3) | (go_at_call 70; first | (with_reducible refine (q4.out _ (by assumption)).mono ?_; rintro e w4 ⟨rfl, hb4⟩; have kb4 := bcell' hb4) | (with_reducible refine (q5.out _ (by assumption)).mono ?_; rintro e w5 ⟨rfl, hb5⟩)))
         go_ret
         exact ⟨ret_b hv.out.symm, hBk.out _ (by assumption)⟩
        | true =>
         have hv := hide (hv0.out.trans (by simp [e2]) : mayS (.mk 1 head name (.mk op lit eh en hi lo args) thn els) deep = true)
         try clear e0
         try clear e1
         try clear e2
         try clear e3
         try clear e4
         try clear e5
         try clear e6
         try clear e7
         try clear e8
         go_wp2_with (first | (go_at_call 67; first | (with_reducible refine (q1.out _ (by assumption)).mono ?_; rintro e w1 ⟨rfl, hb1⟩; have kb1 := bcell' hb1) | (with_reducible refine (q2.out _ (by assumption)).mono ?_; rintro e w2 ⟨rfl, hb2⟩; have kb2 := bcell' hb2)) | (go_at_call 130; refine (q3.out _ (by assumption)).mono ?_; rintro e w3 ⟨rfl, hb3⟩; have kb3 := bcell' hb3) | (go_at_call 70; first | (with_reducible refine (q4.out _ (by assumption)).mono ?_; rintro e w4 ⟨rfl, hb4⟩; have kb4 := bcell' hb4) | (with_reducible refine (q5.out _ (by assumption)).mono ?_; rintro e w5 ⟨rfl, hb5⟩)))
         go_ret
         exact ⟨ret_b hv.out.symm, hBk.out _ (by assumption)⟩
   ·skip
    by_cases k2 : kind = 2
    ·subst k2
     by_cases e0 : name = strE
     ·have t0 := emp_iff.1 e0
      by_cases e1 : head = strE
      ·have t1 := emp_iff.1 e1
       cases ze with
       | false =>
        have hv := hide (hv0.out.trans (by simp []) : mayS (.mk 2 head name (.mk op lit eh en hi lo args) thn els) deep = false)
        try clear e0
        try clear e1
        try clear e2
        try clear e3
        try clear e4
        try clear e5
        try clear e6
        try clear e7
        try clear e8
        go_wp2_with (first | (go_at_call 67; first | (with_reducible refine (q1.out _ (by assumption)).mono ?_; rintro e w1 ⟨rfl, hb1⟩; have kb1 := bcell' hb1) | (with_reducible refine (q2.out _ (by assumption)).mono ?_; rintro e w2 ⟨rfl, hb2⟩; have kb2 := bcell' hb2)) | (go_at_call 130; refine (q3.out _ (by assumption)).mono ?_; rintro e w3 ⟨rfl, hb3⟩; have kb3 := bcell' hb3) | (go_at_call 70; first | (with_reducible refine (q4.out _ (by assumption)).mono ?_; rintro e w4 ⟨rfl, hb4⟩; have kb4 := bcell' hb4) | (with_reducible refine (q5.out _ (by assumption)).mono ?_; rintro e w5 ⟨rfl, hb5⟩)))
        go_ret
        exact ⟨ret_b hv.out.symm, hBk.out _ (by assumption)⟩
       | true =>
        cases z4 with
        | false =>
         have hv := hide (hv0.out.trans (by simp []) : mayS (.mk 2 head name (.mk op lit eh en hi lo args) thn els) deep = false)
         try clear e0
         try clear e1
         try clear e2
         try clear e3
         try clear e4
         try clear e5
         try clear e6
         try clear e7
         try clear e8
         go_wp2_with (first | (go_at_call 67; first | (with_reducible refine (q1.out _ (by assumption)).mono ?_; rintro e w1 ⟨rfl, hb1⟩; have kb1 := bcell' hb1) | (with_reducible refine (q2.out _ (by assumption)).mono ?_; rintro e w2 ⟨rfl, hb2⟩; have kb2 := bcell' hb2)) | (go_at_call 130; refine (q3.out _ (by assumption)).mono ?_; rintro e w3 ⟨rfl, hb3⟩; have kb3 := bcell' hb3) | (go_at_call 70; first | (with_reducible refine (q4.out _ (by assumption)).mono ?_; rintro e w4 ⟨rfl, hb4⟩; have kb4 := bcell' hb4) | (with_reducible refine (q5.out _ (by assumption)).mono ?_; rintro e w5 ⟨rfl, hb5⟩)))
         go_ret
         exact ⟨ret_b hv.out.symm, hBk.out _ (by assumption)⟩
        | true =>
         cases z5 with
         | false =>
          have hv := hide (hv0.out.trans (by simp []) : mayS (.mk 2 head name (.mk op lit eh en hi lo args) thn els) deep = false)
          try clear e0
          try clear e1
          try clear e2
          try clear e3
          try clear e4
          try clear e5
          try clear e6
          try clear e7
          try clear e8
          go_wp2_with (first | (go_at_call 67; first | (with_reducible refine (q1.out _ (by assumption)).mono ?_; rintro e w1 ⟨rfl, hb1⟩; have kb1 := bcell' hb1) | (with_reducible refine (q2.out _ (by assumption)).mono ?_; rintro e w2 ⟨rfl, hb2⟩; have kb2 := bcell' hb2)) | (go_at_call 130; refine (q3.out _ (by assumption)).mono ?_; rintro e w3 ⟨rfl, hb3⟩; have kb3 := bcell' hb3) | (go_at_call 70; first | (with_reducible refine (q4.out _ (by assumption)).mono ?_; rintro e w4 ⟨rfl, hb4⟩; have kb4 := bcell' hb4) | (with_reducible refine (q5.out _ (by assumption)).mono ?_; rintro e w5 ⟨rfl, hb5⟩)))
          go_ret
          exact ⟨ret_b hv.out.symm, hBk.out _ (by assumption)⟩
         | true =>
          have hv := hide (hv0.out.trans (by simp [e0, e1]) : mayS (.mk 2 head name (.mk op lit eh en hi lo args) thn els) deep = true)
          try clear e0
          try clear e1
          try clear e2
          try clear e3
          try clear e4
          try clear e5
          try clear e6
          try clear e7
          try clear e8
          go_wp2_with (first | (go_at_call 67; first | (with_reducible refine (q1.out _ (by assumption)).mono ?_; rintro e w1 ⟨rfl, hb1⟩; have kb1 := bcell' hb1) | (with_reducible refine (q2.out _ (by assumption)).mono ?_; rintro e w2 ⟨rfl, hb2⟩; have kb2 := bcell' hb2)) | (go_at_call 130; refine (q3.out _ (by assumption)).mono ?_; rintro e w3 ⟨rfl, hb3⟩; have kb3 := bcell' hb3) | (go_at_call 70; first | (with_reducible refine (q4.out _ (by assumption)).mono ?_; rintro e w4 ⟨rfl, hb4⟩; have kb4 := bcell' hb4) | (with_reducible refine (q5.out _ (by assumption)).mono ?_; rintro e w5 ⟨rfl, hb5⟩)))
          go_ret
          exact ⟨ret_b hv.out.symm, hBk.out _ (by assumption)⟩
      ·have t1 : head.toList.isEmpty = false := by rw [Bool.eq_false_iff]; exact fun h => e1 (emp_iff.2 (List.isEmpty_iff.1 h))
       have hv := hide (hv0.out.trans (by simp [e1]) : mayS (.mk 2 head name (.mk op lit eh en hi lo args) thn els) deep = false)
       try clear e0
       try clear e1
       try clear e2
       try clear e3
       try clear e4
       try clear e5
       try clear e6
       try clear e7
       try clear e8
       go_wp2_with (first | (go_at_call 67; first | (with_reducible refine (q1.out _ (by assumption)).mono ?_; rintro e w1 ⟨rfl, hb1⟩; have kb1 := bcell' hb1) | (with_reducible refine (q2.out _ (by assumption)).mono ?_; rintro e w2 ⟨rfl, hb2⟩; have kb2 := bcell' hb2)) | (go_at_call 130; refine (q3.out _ (by assumption)).mono ?_; rintro e w3 ⟨rfl, hb3⟩; have kb3 := bcell' hb3) | (go_at_call 70; first | (with_reducible refine (q4.out _ (by assumption)).mono ?_; rintro e w4 ⟨rfl, hb4⟩; have kb4 := bcell' hb4) | (with_reducible refine (q5.out _ (by assumption)).mono ?_; rintro e w5 ⟨rfl, hb5⟩)))
       go_ret
       exact ⟨ret_b hv.out.symm, hBk.out _ (by assumption)⟩
     ·have t0 : name.toList.isEmpty = false := by rw [Bool.eq_false_iff]; exact fun h => e0 (emp_iff.2 (List.isEmpty_iff.1 h))
      have hv := hide (hv0.out.trans (by simp [e0]) : mayS (.mk 2 head name (.mk op lit eh en hi lo args) thn els) deep = false)
      try clear e0
      try clear e1
      try clear e2
      try clear e3
      try clear e4
      try clear e5
      try clear e6
      try clear e7
      try clear e8
      go_wp2_with (first | (go_at_call 67; first | (with_reducible refine (q1.out _ (by assumption)).mono ?_; rintro e w1 ⟨rfl, hb1⟩; have kb1 := bcell' hb1) | (with_reducible refine (q2.out _ (by assumption)).mono ?_; rintro e w2 ⟨rfl, hb2⟩; have kb2 := bcell' hb2)) | (go_at_call 130; refine (q3.out _ (by assumption)).mono ?_; rintro e w3 ⟨rfl, hb3⟩; have kb3 := bcell' hb3) | (go_at_call 70; first | (with_reducible refine (q4.out _ (by assumption)).mono ?_; rintro e w4 ⟨rfl, hb4⟩; have kb4 := bcell' hb4) | (with_reducible refine (q5.out _ (by assumption)).mono ?_; rintro e w5 ⟨rfl, hb5⟩)))
      go_ret
      exact ⟨ret_b hv.out.symm, hBk.out _ (by assumption)⟩
    ·skip
     by_cases k3 : kind = 3
     ·subst k3
      cases bl with
      | true =>
       have hv := hide (hv0.out.trans (by simp []) : mayS (.mk 3 head name (.mk op lit eh en hi lo args) thn els) deep = false)
       try clear e0
       try clear e1
       try clear e2
       try clear e3
       try clear e4
       try clear e5
       try clear e6
       try clear e7
       try clear e8
       go_wp2_with (first | (go_at_call 67; first | (with_reducible refine (q1.out _ (by assumption)).mono ?_; rintro e w1 ⟨rfl, hb1⟩; have kb1 := bcell' hb1) | (with_reducible refine (q2.out _ (by assumption)).mono ?_; rintro e w2 ⟨rfl, hb2⟩; have kb2 := bcell' hb2)) | (go_at_call 130; refine (q3.out _ (by assumption)).mono ?_; rintro e w3 ⟨rfl, hb3⟩; have kb3 := bcell' hb3) | (go_at_call 70; first | (with_reducible refine (q4.out _ (by assumption)).mono ?_; rintro e w4 ⟨rfl, hb4⟩; have kb4 := bcell' hb4) | (with_reducible refine (q5.out _ (by assumption)).mono ?_; rintro e w5 ⟨rfl, hb5⟩)))
       go_ret
       exact ⟨ret_b hv.out.symm, hBk.out _ (by assumption)⟩
      | false =>
       cases ne with
       | true =>
        have hv := hide (hv0.out.trans (by simp []) : mayS (.mk 3 head name (.mk op lit eh en hi lo args) thn els) deep = false)
        try clear e0
        try clear e1
        try clear e2
        try clear e3
        try clear e4
        try clear e5
        try clear e6
        try clear e7
        try clear e8
        go_wp2_with (first | (go_at_call 67; first | (with_reducible refine (q1.out _ (by assumption)).mono ?_; rintro e w1 ⟨rfl, hb1⟩; have kb1 := bcell' hb1) | (with_reducible refine (q2.out _ (by assumption)).mono ?_; rintro e w2 ⟨rfl, hb2⟩; have kb2 := bcell' hb2)) | (go_at_call 130; refine (q3.out _ (by assumption)).mono ?_; rintro e w3 ⟨rfl, hb3⟩; have kb3 := bcell' hb3) | (go_at_call 70; first | (with_reducible refine (q4.out _ (by assumption)).mono ?_; rintro e w4 ⟨rfl, hb4⟩; have kb4 := bcell' hb4) | (with_reducible refine (q5.out _ (by assumption)).mono ?_; rintro e w5 ⟨rfl, hb5⟩)))
        go_ret
        exact ⟨ret_b hv.out.symm, hBk.out _ (by assumption)⟩
       | false =>
        by_cases e2 : head = strE
        ·have t2 := emp_iff.1 e2
         cases zn with
         | false =>
          have hv := hide (hv0.out.trans (by simp []) : mayS (.mk 3 head name (.mk op lit eh en hi lo args) thn els) deep = false)
          try clear e0
          try clear e1
          try clear e2
          try clear e3
          try clear e4
          try clear e5
          try clear e6
          try clear e7
          try clear e8
          go_wp2_with (first | (go_at_call 67; first | (with_reducible refine (q1.out _ (by assumption)).mono ?_; rintro e w1 ⟨rfl, hb1⟩; have kb1 := bcell' hb1) | (with_reducible refine (q2.out _ (by assumption)).mono ?_; rintro e w2 ⟨rfl, hb2⟩; have kb2 := bcell' hb2)) | (go_at_call 130; refine (q3.out _ (by assumption)).mono ?_; rintro e w3 ⟨rfl, hb3⟩; have kb3 := bcell' hb3) | (go_at_call 70; first | (with_reducible refine (q4.out _ (by assumption)).mono ?_; rintro e w4 ⟨rfl, hb4⟩; have kb4 := bcell' hb4) | (with_reducible refine (q5.out _ (by assumption)).mono ?_; rintro e w5 ⟨rfl, hb5⟩)))
          go_ret
          exact ⟨ret_b hv.out.symm, hBk.out _ (by assumption)⟩
         | true =>
          have hv := hide (hv0.out.trans (by simp [e2]) : mayS (.mk 3 head name (.mk op lit eh en hi lo args) thn els) deep = true)
          try clear e0
          try clear e1
          try clear e2
          try clear e3
          try clear e4
          try clear e5
          try clear e6
          try clear e7
          try clear e8
          go_wp2_with (first | (go_at_call 67; first | (with_reducible refine (q1.out _ (by assumption)).mono ?_; rintro e w1 ⟨rfl, hb1⟩; have kb1 := bcell' hb1) | (with_reducible refine (q2.out _ (by assumption)).mono ?_; rintro e w2 ⟨rfl, hb2⟩; have kb2 := bcell' hb2)) | (go_at_call 130; refine (q3.out _ (by assumption)).mono ?_; rintro e w3 ⟨rfl, hb3⟩; have kb3 := bcell' hb3) | (go_at_call 70; first | (with_reducible refine (q4.out _ (by assumption)).mono ?_; rintro e w4 ⟨rfl, hb4⟩; have kb4 := bcell' hb4) | (with_reducible refine (q5.out _ (by assumption)).mono ?_; rintro e w5 ⟨rfl, hb5⟩)))
          go_ret
          exact ⟨ret_b hv.out.symm, hBk.out _ (by assumption)⟩
        ·have t2 : head.toList.isEmpty = false := by rw [Bool.eq_false_iff]; exact fun h => e2 (emp_iff.2 (List.isEmpty_iff.1 h))
         have hv := hide (hv0.out.trans (by simp [e2]) : mayS (.mk 3 head name (.mk op lit eh en hi lo args) thn els) deep = false)
         try clear e0
         try clear e1
         try clear e2
         try clear e3
         try clear e4
         try clear e5
         try clear e6
         try clear e7
         try clear e8
         go_wp2_with (first | (go_at_call 67; first | (with_reducible refine (q1.out _ (by assumption)).mono ?_; rintro e w1 ⟨rfl, hb1⟩; have kb1 := bcell' hb1) | (with_reducible refine (q2.out _ (by assumption)).mono ?_; rintro e w2 ⟨rfl, hb2⟩; have kb2 := bcell' hb2)) | (go_at_call 130; refine (q3.out _ (by assumption)).mono ?_; rintro e w3 ⟨rfl, hb3⟩; have kb3 := bcell' hb3) | (go_at_call 70; first | (with_reducible refine (q4.out _ (by assumption)).mono ?_; rintro e w4 ⟨rfl, hb4⟩; have kb4 := bcell' hb4) | (with_reducible refine (q5.out _ (by assumption)).mono ?_; rintro e w5 ⟨rfl, hb5⟩)))
         go_ret
         exact ⟨ret_b hv.out.symm, hBk.out _ (by assumption)⟩
     ·skip
      by_cases k4 : kind = 4
      ·subst k4
       cases bl with
       | true =>
        have hv := hide (hv0.out.trans (by simp []) : mayS (.mk 4 head name (.mk op lit eh en hi lo args) thn els) deep = false)
        try clear e0
        try clear e1
        try clear e2
        try clear e3
        try clear e4
        try clear e5
        try clear e6
        try clear e7
        try clear e8
        go_wp2_with (first | (go_at_call 67; first | (with_reducible refine (q1.out _ (by assumption)).mono ?_; rintro e w1 ⟨rfl, hb1⟩; have kb1 := bcell' hb1) | (with_reducible refine (q2.out _ (by assumption)).mono ?_; rintro e w2 ⟨rfl, hb2⟩; have kb2 := bcell' hb2)) | (go_at_call 130; refine (q3.out _ (by assumption)).mono ?_; rintro e w3 ⟨rfl, hb3⟩; have kb3 := bcell' hb3) | (go_at_call 70; first | (with_reducible refine (q4.out _ (by assumption)).mono ?_; rintro e w4 ⟨rfl, hb4⟩; have kb4 := bcell' hb4) | (with_reducible refine (q5.out _ (by assumption)).mono ?_; rintro e w5 ⟨rfl, hb5⟩)))
        go_ret
        exact ⟨ret_b hv.out.symm, hBk.out _ (by assumption)⟩
       | false =>
        cases ne with
        | true =>
         have hv := hide (hv0.out.trans (by simp []) : mayS (.mk 4 head name (.mk op lit eh en hi lo args) thn els) deep = false)
         try clear e0
         try clear e1
         try clear e2
         try clear e3
         try clear e4
         try clear e5
         try clear e6
         try clear e7
         try clear e8
         go_wp2_with (first | (go_at_call 67; first | (with_reducible refine (q1.out _ (by assumption)).mono ?_; rintro e w1 ⟨rfl, hb1⟩; have kb1 := bcell' hb1) | (with_reducible refine (q2.out _ (by assumption)).mono ?_; rintro e w2 ⟨rfl, hb2⟩; have kb2 := bcell' hb2)) | (go_at_call 130; refine (q3.out _ (by assumption)).mono ?_; rintro e w3 ⟨rfl, hb3⟩; have kb3 := bcell' hb3) | (go_at_call 70; first | (with_reducible refine (q4.out _ (by assumption)).mono ?_; rintro e w4 ⟨rfl, hb4⟩; have kb4 := bcell' hb4) | (with_reducible refine (q5.out _ (by assumption)).mono ?_; rintro e w5 ⟨rfl, hb5⟩)))
         go_ret
         exact ⟨ret_b hv.out.symm, hBk.out _ (by assumption)⟩
        | false =>
         by_cases e2 : head = strE
         ·have t2 := emp_iff.1 e2
          by_cases e3 : name = strE
          ·have t3 := emp_iff.1 e3
           have hv := hide (hv0.out.trans (by simp [e2, e3]) : mayS (.mk 4 head name (.mk op lit eh en hi lo args) thn els) deep = true)
           try clear e0
           try clear e1
           try clear e2
           try clear e3
           try clear e4
           try clear e5
           try clear e6
           try clear e7
           try clear e8
           go_wp2_with (first | (go_at_call 67; first | (with_reducible refine (q1.out _ (by assumption)).mono ?_; rintro e w1 ⟨rfl, hb1⟩; have kb1 := bcell' hb1) | (with_reducible refine (q2.out _ (by assumption)).mono ?_; rintro e w2 ⟨rfl, hb2⟩; have kb2 := bcell' hb2)) | (go_at_call 130; refine (q3.out _ (by assumption)).mono ?_; rintro e w3 ⟨rfl, hb3⟩; have kb3 := bcell' hb3) | (go_at_call 70; first | (with_reducible refine (q4.out _ (by assumption)).mono ?_; rintro e w4 ⟨rfl, hb4⟩; have kb4 := bcell' hb4) | (with_reducible refine (q5.out _ (by assumption)).mono ?_; rintro e w5 ⟨rfl, hb5⟩)))
           go_ret
           exact ⟨ret_b hv.out.symm, hBk.out _ (by assumption)⟩
          ·have t3 : name.toList.isEmpty = false := by rw [Bool.eq_false_iff]; exact fun h => e3 (emp_iff.2 (List.isEmpty_iff.1 h))
           have hv := hide (hv0.out.trans (by simp [e3]) : mayS (.mk 4 head name (.mk op lit eh en hi lo args) thn els) deep = false)
           try clear e0
           try clear e1
           try clear e2
           try clear e3
           try clear e4
           try clear e5
           try clear e6
           try clear e7
           try clear e8
           go_wp2_with (first | (go_at_call 67; first | (with_reducible refine (q1.out _ (by assumption)).mono ?_; rintro e w1 ⟨rfl, hb1⟩; have kb1 := bcell' hb1) | (with_reducible refine (q2.out _ (by assumption)).mono ?_; rintro e w2 ⟨rfl, hb2⟩; have kb2 := bcell' hb2)) | (go_at_call 130; refine (q3.out _ (by assumption)).mono ?_; rintro e w3 ⟨rfl, hb3⟩; have kb3 := bcell' hb3) | (go_at_call 70; first | (with_reducible refine (q4.out _ (by assumption)).mono ?_; rintro e w4 ⟨rfl, hb4⟩; have kb4 := bcell' hb4) | (with_reducible refine (q5.out _ (by assumption)).mono ?_; rintro e w5 ⟨rfl, hb5⟩)))
           go_ret
           exact ⟨ret_b hv.out.symm, hBk.out _ (by assumption)⟩
         ·have t2 : head.toList.isEmpty = false := by rw [Bool.eq_false_iff]; exact fun h => e2 (emp_iff.2 (List.isEmpty_iff.1 h))
          have hv := hide (hv0.out.trans (by simp [e2]) : mayS (.mk 4 head name (.mk op lit eh en hi lo args) thn els) deep = false)
          try clear e0
          try clear e1
          try clear e2
          try clear e3
          try clear e4
          try clear e5
          try clear e6
          try clear e7
          try clear e8
          go_wp2_with (first | (go_at_call 67; first | (with_reducible refine (q1.out _ (by assumption)).mono ?_; rintro e w1 ⟨rfl, hb1⟩; have kb1 := bcell' hb1) | (with_reducible refine (q2.out _ (by assumption)).mono ?_; rintro e w2 ⟨rfl, hb2⟩; have kb2 := bcell' hb2)) | (go_at_call 130; refine (q3.out _ (by assumption)).mono ?_; rintro e w3 ⟨rfl, hb3⟩; have kb3 := bcell' hb3) | (go_at_call 70; first | (with_reducible refine (q4.out _ (by assumption)).mono ?_; rintro e w4 ⟨rfl, hb4⟩; have kb4 := bcell' hb4) | (with_reducible refine (q5.out _ (by assumption)).mono ?_; rintro e w5 ⟨rfl, hb5⟩)))
          go_ret
          exact ⟨ret_b hv.out.symm, hBk.out _ (by assumption)⟩
      ·skip
       by_cases k5 : kind = 5
       ·subst k5
        cases bl with
        | true =>
         have hv := hide (hv0.out.trans (by simp []) : mayS (.mk 5 head name (.mk op lit eh en hi lo args) thn els) deep = false)
         try clear e0
         try clear e1
         try clear e2
         try clear e3
         try clear e4
         try clear e5
         try clear e6
         try clear e7
         try clear e8
         go_wp2_with (first | (go_at_call 67; first | (with_reducible refine (q1.out _ (by assumption)).mono ?_; rintro e w1 ⟨rfl, hb1⟩; have kb1 := bcell' hb1) | (with_reducible refine (q2.out _ (by assumption)).mono ?_; rintro e w2 ⟨rfl, hb2⟩; have kb2 := bcell' hb2)) | (go_at_call 130; refine (q3.out _ (by assumption)).mono ?_; rintro e w3 ⟨rfl, hb3⟩; have kb3 := bcell' hb3) | (go_at_call 70; first | (with_reducible refine (q4.out _ (by assumption)).mono ?_; rintro e w4 ⟨rfl, hb4⟩; have kb4 := bcell' hb4) | (with_reducible refine (q5.out _ (by assumption)).mono ?_; rintro e w5 ⟨rfl, hb5⟩)))
         go_ret
         exact ⟨ret_b hv.out.symm, hBk.out _ (by assumption)⟩
        | false =>
         by_cases e1 : head = strE
         ·have t1 := emp_iff.1 e1
          by_cases e2 : name = strE
          ·have t2 := emp_iff.1 e2
           cases ze with
           | false =>
            have hv := hide (hv0.out.trans (by simp []) : mayS (.mk 5 head name (.mk op lit eh en hi lo args) thn els) deep = false)
            try clear e0
            try clear e1
            try clear e2
            try clear e3
            try clear e4
            try clear e5
            try clear e6
            try clear e7
            try clear e8
            go_wp2_with (first | (go_at_call 67; first | (with_reducible refine (q1.out _ (by assumption)).mono ?_; rintro e w1 ⟨rfl, hb1⟩; have kb1 := bcell' hb1) | (with_reducible refine (q2.out _ (by assumption)).mono ?_; rintro e w2 ⟨rfl, hb2⟩; have kb2 := bcell' hb2)) | (go_at_call 130; refine (q3.out _ (by assumption)).mono ?_; rintro e w3 ⟨rfl, hb3⟩; have kb3 := bcell' hb3) | (go_at_call 70; first | (with_reducible refine (q4.out _ (by assumption)).mono ?_; rintro e w4 ⟨rfl, hb4⟩; have kb4 := bcell' hb4) | (with_reducible refine (q5.out _ (by assumption)).mono ?_; rintro e w5 ⟨rfl, hb5⟩)))
            go_ret
            exact ⟨ret_b hv.out.symm, hBk.out _ (by assumption)⟩
           | true =>
            have hv := hide (hv0.out.trans (by simp [e1, e2]) : mayS (.mk 5 head name (.mk op lit eh en hi lo args) thn els) deep = true)
            try clear e0
            try clear e1
            try clear e2
            try clear e3
            try clear e4
            try clear e5
            try clear e6
            try clear e7
            try clear e8
            go_wp2_with (first | (go_at_call 67; first | (with_reducible refine (q1.out _ (by assumption)).mono ?_; rintro e w1 ⟨rfl, hb1⟩; have kb1 := bcell' hb1) | (with_reducible refine (q2.out _ (by assumption)).mono ?_; rintro e w2 ⟨rfl, hb2⟩; have kb2 := bcell' hb2)) | (go_at_call 130; refine (q3.out _ (by assumption)).mono ?_; rintro e w3 ⟨rfl, hb3⟩; have kb3 := bcell' hb3) | (go_at_call 70; first | (with_reducible refine (q4.out _ (by assumption)).mono ?_; rintro e w4 ⟨rfl, hb4⟩; have kb4 := bcell' hb4) | (with_reducible refine (q5.out _ (by assumption)).mono ?_; rintro e w5 ⟨rfl, hb5⟩)))
            go_ret
            exact ⟨ret_b hv.out.symm, hBk.out _ (by assumption)⟩
          ·have t2 : name.toList.isEmpty = false := by rw [Bool.eq_false_iff]; exact fun h => e2 (emp_iff.2 (List.isEmpty_iff.1 h))
           have hv := hide (hv0.out.trans (by simp [e2]) : mayS (.mk 5 head name (.mk op lit eh en hi lo args) thn els) deep = false)
           try clear e0
           try clear e1
           try clear e2
           try clear e3
           try clear e4
           try clear e5
           try clear e6
           try clear e7
           try clear e8
           go_wp2_with (first | (go_at_call 67; first | (with_reducible refine (q1.out _ (by assumption)).mono ?_; rintro e w1 ⟨rfl, hb1⟩; have kb1 := bcell' hb1) | (with_reducible refine (q2.out _ (by assumption)).mono ?_; rintro e w2 ⟨rfl, hb2⟩; have kb2 := bcell' hb2)) | (go_at_call 130; refine (q3.out _ (by assumption)).mono ?_; rintro e w3 ⟨rfl, hb3⟩; have kb3 := bcell' hb3) | (go_at_call 70; first | (with_reducible refine (q4.out _ (by assumption)).mono ?_; rintro e w4 ⟨rfl, hb4⟩; have kb4 := bcell' hb4) | (with_reducible refine (q5.out _ (by assumption)).mono ?_; rintro e w5 ⟨rfl, hb5⟩)))
           go_ret
           exact ⟨ret_b hv.out.symm, hBk.out _ (by assumption)⟩
         ·have t1 : head.toList.isEmpty = false := by rw [Bool.eq_false_iff]; exact fun h => e1 (emp_iff.2 (List.isEmpty_iff.1 h))
          have hv := hide (hv0.out.trans (by simp [e1]) : mayS (.mk 5 head name (.mk op lit eh en hi lo args) thn els) deep = false)
          try clear e0
          try clear e1
          try clear e2
          try clear e3
          try clear e4
          try clear e5
          try clear e6
          try clear e7
          try clear e8
          go_wp2_with (first | (go_at_call 67; first | (with_reducible refine (q1.out _ (by assumption)).mono ?_; rintro e w1 ⟨rfl, hb1⟩; have kb1 := bcell' hb1) | (with_reducible refine (q2.out _ (by assumption)).mono ?_; rintro e w2 ⟨rfl, hb2⟩; have kb2 := bcell' hb2)) | (go_at_call 130; refine (q3.out _ (by assumption)).mono ?_; rintro e w3 ⟨rfl, hb3⟩; have kb3 := bcell' hb3) | (go_at_call 70; first | (with_reducible refine (q4.out _ (by assumption)).mono ?_; rintro e w4 ⟨rfl, hb4⟩; have kb4 := bcell' hb4) | (with_reducible refine (q5.out _ (by assumption)).mono ?_; rintro e w5 ⟨rfl, hb5⟩)))
          go_ret
          exact ⟨ret_b hv.out.symm, hBk.out _ (by assumption)⟩
       ·skip
        by_cases k6 : kind = 6
        ·subst k6
         cases bl with
         | true =>
          have hv := hide (hv0.out.trans (by simp []) : mayS (.mk 6 head name (.mk op lit eh en hi lo args) thn els) deep = false)
          try clear e0
          try clear e1
          try clear e2
          try clear e3
          try clear e4
          try clear e5
          try clear e6
          try clear e7
          try clear e8
          go_wp2_with (first | (go_at_call 67; first | (with_reducible refine (q1.out _ (by assumption)).mono ?_; rintro e w1 ⟨rfl, hb1⟩; have kb1 := bcell' hb1) | (with_reducible refine (q2.out _ (by assumption)).mono ?_; rintro e w2 ⟨rfl, hb2⟩; have kb2 := bcell' hb2)) | (go_at_call 130; refine (q3.out _ (by assumption)).mono ?_; rintro e w3 ⟨rfl, hb3⟩; have kb3 := bcell' hb3) | (go_at_call 70; first | (with_reducible refine (q4.out _ (by assumption)).mono ?_; rintro e w4 ⟨rfl, hb4⟩; have kb4 := bcell' hb4) | (with_reducible refine (q5.out _ (by assumption)).mono ?_; rintro e w5 ⟨rfl, hb5⟩)))
          go_ret
          exact ⟨ret_b hv.out.symm, hBk.out _ (by assumption)⟩
         | false =>
          cases ne with
          | true =>
           have hv := hide (hv0.out.trans (by simp []) : mayS (.mk 6 head name (.mk op lit eh en hi lo args) thn els) deep = false)
           try clear e0
           try clear e1
           try clear e2
           try clear e3
           try clear e4
           try clear e5
           try clear e6
           try clear e7
           try clear e8
           go_wp2_with (first | (go_at_call 67; first | (with_reducible refine (q1.out _ (by assumption)).mono ?_; rintro e w1 ⟨rfl, hb1⟩; have kb1 := bcell' hb1) | (with_reducible refine (q2.out _ (by assumption)).mono ?_; rintro e w2 ⟨rfl, hb2⟩; have kb2 := bcell' hb2)) | (go_at_call 130; refine (q3.out _ (by assumption)).mono ?_; rintro e w3 ⟨rfl, hb3⟩; have kb3 := bcell' hb3) | (go_at_call 70; first | (with_reducible refine (q4.out _ (by assumption)).mono ?_; rintro e w4 ⟨rfl, hb4⟩; have kb4 := bcell' hb4) | (with_reducible refine (q5.out _ (by assumption)).mono ?_; rintro e w5 ⟨rfl, hb5⟩)))
           go_ret
           exact ⟨ret_b hv.out.symm, hBk.out _ (by assumption)⟩
          | false =>
           by_cases e2 : name = strE
           ·have t2 := emp_iff.1 e2
            cases zh with
            | false =>
             have hv := hide (hv0.out.trans (by simp []) : mayS (.mk 6 head name (.mk op lit eh en hi lo args) thn els) deep = false)
             try clear e0
             try clear e1
             try clear e2
             try clear e3
             try clear e4
             try clear e5
             try clear e6
             try clear e7
             try clear e8
             go_wp2_with (first | (go_at_call 67; first | (with_reducible refine (q1.out _ (by assumption)).mono ?_; rintro e w1 ⟨rfl, hb1⟩; have kb1 := bcell' hb1) | (with_reducible refine (q2.out _ (by assumption)).mono ?_; rintro e w2 ⟨rfl, hb2⟩; have kb2 := bcell' hb2)) | (go_at_call 130; refine (q3.out _ (by assumption)).mono ?_; rintro e w3 ⟨rfl, hb3⟩; have kb3 := bcell' hb3) | (go_at_call 70; first | (with_reducible refine (q4.out _ (by assumption)).mono ?_; rintro e w4 ⟨rfl, hb4⟩; have kb4 := bcell' hb4) | (with_reducible refine (q5.out _ (by assumption)).mono ?_; rintro e w5 ⟨rfl, hb5⟩)))
             go_ret
             exact ⟨ret_b hv.out.symm, hBk.out _ (by assumption)⟩
            | true =>
             have hv := hide (hv0.out.trans (by simp [e2]) : mayS (.mk 6 head name (.mk op lit eh en hi lo args) thn els) deep = true)
             try clear e0
             try clear e1
             try clear e2
             try clear e3
             try clear e4
             try clear e5
             try clear e6
             try clear e7
             try clear e8
             go_wp2_with (first | (go_at_call 67; first | (with_reducible refine (q1.out _ (by assumption)).mono ?_; rintro e w1 ⟨rfl, hb1⟩; have kb1 := bcell' hb1) | (with_reducible refine (q2.out _ (by assumption)).mono ?_; rintro e w2 ⟨rfl, hb2⟩; have kb2 := bcell' hb2)) | (go_at_call 130; refine (q3.out _ (by assumption)).mono ?_; rintro e w3 ⟨rfl, hb3⟩; have kb3 := bcell' hb3) | (go_at_call 70; first | (with_reducible refine (q4.out _ (by assumption)).mono ?_; rintro e w4 ⟨rfl, hb4⟩; have kb4 := bcell' hb4) | (with_reducible refine (q5.out _ (by assumption)).mono ?_; rintro e w5 ⟨rfl, hb5⟩)))
             go_ret
             exact ⟨ret_b hv.out.symm, hBk.out _ (by assumption)⟩
           ·have t2 : name.toList.isEmpty = false := by rw [Bool.eq_false_iff]; exact fun h => e2 (emp_iff.2 (List.isEmpty_iff.1 h))
            have hv := hide (hv0.out.trans (by simp [e2]) : mayS (.mk 6 head name (.mk op lit eh en hi lo args) thn els) deep = false)
            try clear e0
            try clear e1
            try clear e2
            try clear e3
            try clear e4
            try clear e5
            try clear e6
            try clear e7
            try clear e8
            go_wp2_with (first | (go_at_call 67; first | (with_reducible refine (q1.out _ (by assumption)).mono ?_; rintro e w1 ⟨rfl, hb1⟩; have kb1 := bcell' hb1) | (with_reducible refine (q2.out _ (by assumption)).mono ?_; rintro e w2 ⟨rfl, hb2⟩; have kb2 := bcell' hb2)) | (go_at_call 130; refine (q3.out _ (by assumption)).mono ?_; rintro e w3 ⟨rfl, hb3⟩; have kb3 := bcell' hb3) | (go_at_call 70; first | (with_reducible refine (q4.out _ (by assumption)).mono ?_; rintro e w4 ⟨rfl, hb4⟩; have kb4 := bcell' hb4) | (with_reducible refine (q5.out _ (by assumption)).mono ?_; rintro e w5 ⟨rfl, hb5⟩)))
            go_ret
            exact ⟨ret_b hv.out.symm, hBk.out _ (by assumption)⟩
        ·skip
         by_cases k7 : kind = 7
         ·subst k7
          cases bl with
          | true =>
           have hv := hide (hv0.out.trans (by simp []) : mayS (.mk 7 head name (.mk op lit eh en hi lo args) thn els) deep = false)
           try clear e0
           try clear e1
           try clear e2
           try clear e3
           try clear e4
           try clear e5
           try clear e6
           try clear e7
           try clear e8
           go_wp2_with (first | (go_at_call 67; first | (with_reducible refine (q1.out _ (by assumption)).mono ?_; rintro e w1 ⟨rfl, hb1⟩; have kb1 := bcell' hb1) | (with_reducible refine (q2.out _ (by assumption)).mono ?_; rintro e w2 ⟨rfl, hb2⟩; have kb2 := bcell' hb2)) | (go_at_call 130; refine (q3.out _ (by assumption)).mono ?_; rintro e w3 ⟨rfl, hb3⟩; have kb3 := bcell' hb3) | (go_at_call 70; first | (with_reducible refine (q4.out _ (by assumption)).mono ?_; rintro e w4 ⟨rfl, hb4⟩; have kb4 := bcell' hb4) | (with_reducible refine (q5.out _ (by assumption)).mono ?_; rintro e w5 ⟨rfl, hb5⟩)))
           go_ret
           exact ⟨ret_b hv.out.symm, hBk.out _ (by assumption)⟩
          | false =>
           cases ne with
           | true =>
            have hv := hide (hv0.out.trans (by simp []) : mayS (.mk 7 head name (.mk op lit eh en hi lo args) thn els) deep = false)
            try clear e0
            try clear e1
            try clear e2
            try clear e3
            try clear e4
            try clear e5
            try clear e6
            try clear e7
            try clear e8
            go_wp2_with (first | (go_at_call 67; first | (with_reducible refine (q1.out _ (by assumption)).mono ?_; rintro e w1 ⟨rfl, hb1⟩; have kb1 := bcell' hb1) | (with_reducible refine (q2.out _ (by assumption)).mono ?_; rintro e w2 ⟨rfl, hb2⟩; have kb2 := bcell' hb2)) | (go_at_call 130; refine (q3.out _ (by assumption)).mono ?_; rintro e w3 ⟨rfl, hb3⟩; have kb3 := bcell' hb3) | (go_at_call 70; first | (with_reducible refine (q4.out _ (by assumption)).mono ?_; rintro e w4 ⟨rfl, hb4⟩; have kb4 := bcell' hb4) | (with_reducible refine (q5.out _ (by assumption)).mono ?_; rintro e w5 ⟨rfl, hb5⟩)))
            go_ret
            exact ⟨ret_b hv.out.symm, hBk.out _ (by assumption)⟩
           | false =>
            by_cases e2 : name = strE
            ·have t2 := emp_iff.1 e2
             cases zh with
             | false =>
              have hv := hide (hv0.out.trans (by simp []) : mayS (.mk 7 head name (.mk op lit eh en hi lo args) thn els) deep = false)
              try clear e0
              try clear e1
              try clear e2
              try clear e3
              try clear e4
              try clear e5
              try clear e6
              try clear e7
              try clear e8
              go_wp2_with (first | (go_at_call 67; first | (with_reducible refine (q1.out _ (by assumption)).mono ?_; rintro e w1 ⟨rfl, hb1⟩; have kb1 := bcell' hb1) | (with_reducible refine (q2.out _ (by assumption)).mono ?_; rintro e w2 ⟨rfl, hb2⟩; have kb2 := bcell' hb2)) | (go_at_call 130; refine (q3.out _ (by assumption)).mono ?_; rintro e w3 ⟨rfl, hb3⟩; have kb3 := bcell' hb3) | (go_at_call 70; first | (with_reducible refine (q4.out _ (by assumption)).mono ?_; rintro e w4 ⟨rfl, hb4⟩; have kb4 := bcell' hb4) | (with_reducible refine (q5.out _ (by assumption)).mono ?_; rintro e w5 ⟨rfl, hb5⟩)))
              go_ret
              exact ⟨ret_b hv.out.symm, hBk.out _ (by assumption)⟩
             | true =>
              have hv := hide (hv0.out.trans (by simp [e2]) : mayS (.mk 7 head name (.mk op lit eh en hi lo args) thn els) deep = true)
              try clear e0
              try clear e1
              try clear e2
              try clear e3
              try clear e4
              try clear e5
              try clear e6
              try clear e7
              try clear e8
              go_wp2_with (first | (go_at_call 67; first | (with_reducible refine (q1.out _ (by assumption)).mono ?_; rintro e w1 ⟨rfl, hb1⟩; have kb1 := bcell' hb1) | (with_reducible refine (q2.out _ (by assumption)).mono ?_; rintro e w2 ⟨rfl, hb2⟩; have kb2 := bcell' hb2)) | (go_at_call 130; refine (q3.out _ (by assumption)).mono ?_; rintro e w3 ⟨rfl, hb3⟩; have kb3 := bcell' hb3) | (go_at_call 70; first | (with_reducible refine (q4.out _ (by assumption)).mono ?_; rintro e w4 ⟨rfl, hb4⟩; have kb4 := bcell' hb4) | (with_reducible refine (q5.out _ (by assumption)).mono ?_; rintro e w5 ⟨rfl, hb5⟩)))
              go_ret
              exact ⟨ret_b hv.out.symm, hBk.out _ (by assumption)⟩
            ·have t2 : name.toList.isEmpty = false := by rw [Bool.eq_false_iff]; exact fun h => e2 (emp_iff.2 (List.isEmpty_iff.1 h))
             have hv := hide (hv0.out.trans (by simp [e2]) : mayS (.mk 7 head name (.mk op lit eh en hi lo args) thn els) deep = false)
             try clear e0
             try clear e1
             try clear e2
             try clear e3
             try clear e4
             try clear e5
             try clear e6
             try clear e7
             try clear e8
             go_wp2_with (first | (go_at_call 67; first | (with_reducible refine (q1.out _ (by assumption)).mono ?_; rintro e w1 ⟨rfl, hb1⟩; have kb1 := bcell' hb1) | (with_reducible refine (q2.out _ (by assumption)).mono ?_; rintro e w2 ⟨rfl, hb2⟩; have kb2 := bcell' hb2)) | (go_at_call 130; refine (q3.out _ (by assumption)).mono ?_; rintro e w3 ⟨rfl, hb3⟩; have kb3 := bcell' hb3) | (go_at_call 70; first | (with_reducible refine (q4.out _ (by assumption)).mono ?_; rintro e w4 ⟨rfl, hb4⟩; have kb4 := bcell' hb4) | (with_reducible refine (q5.out _ (by assumption)).mono ?_; rintro e w5 ⟨rfl, hb5⟩)))
             go_ret
             exact ⟨ret_b hv.out.symm, hBk.out _ (by assumption)⟩
         ·skip
          have hv := hide (hv0.out.trans (by simp [k1, k2, k3, k4, k5, k6, k7]) : mayS (.mk kind head name (.mk op lit eh en hi lo args) thn els) deep = false)
          go_wp2
          go_ret
          exact ⟨ret_b hv.out.symm, hBk.out _ hb2⟩
theorem maySt4_all {B : Nat} (s : St) : MaySt4 B s := by
 induction s using St.ind with
 | h kind head name e thn els ih1 ih2 => exact maySt4_of kind head name e thn els ih1 ih2
end Go.Proofs.YtcgmkjpgaigmfaaGreat

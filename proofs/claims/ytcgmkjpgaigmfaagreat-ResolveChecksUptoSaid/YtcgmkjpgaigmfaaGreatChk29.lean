import Derived.Test.YtcgmkjpgaigmfaaGreatChk28
import Derived.Deep.DeepCutAuto
import Derived.Deep.CutBlock
set_option linter.all false
/-! Printed by gen_one.py. The document's layer 4: one expression, but for its arguments. -/
namespace Go.Proofs.YtcgmkjpgaigmfaaGreat
open Go.RowKit
theorem form_ways {op : Int} {f : (Bool × Bool × Bool × Bool) × Int} (h : formOf op = some f) :
  f.1 = (false, false, true, false) ∨ f.1 = (true, true, false, false) ∨ f.1 = (false, true, false, false) ∨ f.1 = (false, false, false, false) ∨ f.1 = (true, false, false, false) ∨ f.1 = (false, false, false, true) := by
 unfold formOf at h
 repeat' split at h
 all_goals first | (injection h with h; subst h; simp) | (cases h)
/-- What the tests behind the form ask. -/
def restB (h nm l en : Bool) (a : Int) (lit : Lt) (head name : ByteArray) (hi lo : Int) (n : Nat) : Bool :=
 decide ((n : Int) = a) && namedB head h && namedB name nm && (if l then litB lit else decide (lit = zLt)) && (if en then decide (0 ≤ lo ∧ lo ≤ hi ∧ hi < 128) else decide (hi = 0 ∧ lo = 0))
theorem one_some {op : Int} {h nm l en : Bool} {a : Int} (hf : formOf op = some ((h, nm, l, en), a)) (lit : Lt) (head name : ByteArray) (hi lo : Int) (n : Nat) : oneB op lit head name hi lo n = restB h nm l en a lit head name hi lo n := by
 unfold oneB restB; rw [hf]
theorem one_none {op : Int} (hf : formOf op = none) (lit : Lt) (head name : ByteArray) (hi lo : Int) (n : Nat) : oneB op lit head name hi lo n = false := by
 unfold oneB; rw [hf]
theorem below_new {wb W : World} (h : Below wb.heap.size wb W) (o : Obj) : Below wb.heap.size wb (W.alloc o) := h.alloc h.size o
theorem nameB_emp : nameB strE = false := by decide +kernel
set_option maxRecDepth 100000 in
set_option maxHeartbeats 4000000 in
theorem one04_any (op : Int) (lit : Lt) (head name : ByteArray) (hi lo : Int) (A : Option Addr) (n cap : Nat) (w : World) (hop : u8 op) (hlit : okLt lit) (hn : n ≤ 9223372036854775807) :
  Calls Tryz.prog 183 #[.agg #[.int .u8 op, .int .i64 lit.1, .int .u64 lit.2.1, .int .u64 lit.2.2, .string head, .string name, .int .i64 hi, .int .i64 lo, .slice A n cap]] w fun e w' => e = .returned (.bool (oneB op lit head name hi lo n)) ∧ Below w.heap.size w w' := by
 obtain ⟨wb, hwb, hsz, hba, hcb, -⟩ := box1 w #[.int .u8 op, .int .i64 lit.1, .int .u64 lit.2.1, .int .u64 lit.2.2, .string head, .string name, .int .i64 hi, .int .i64 lo, .slice A n cap] 68
 obtain ⟨y0, y1, y2, y3, y4, y5, y6, y7, y8⟩ := row9 hcb
 have hb0 : Below wb.heap.size wb wb := Below.refl _ _
 have hBk := hide (show ∀ W, Below wb.heap.size wb W → Below w.heap.size w W from fun W hb => hba.trans (hb.mono (by omega)))
 have hl1 : w.heap.size < wb.heap.size := by omega
 have q1 := hide (fun (W : World) (hb : Below wb.heap.size wb W) => (isName03_any head W).mono (fun e w' h => (⟨h.1, hb.trans (h.2.mono hb.size)⟩ : e = _ ∧ Below wb.heap.size wb w')))
 have q2 := hide (fun (W : World) (hb : Below wb.heap.size wb W) => (isName03_any name W).mono (fun e w' h => (⟨h.1, hb.trans (h.2.mono hb.size)⟩ : e = _ ∧ Below wb.heap.size wb w')))
 have q3 := hide (fun (W : World) (hb : Below wb.heap.size wb W) => (mayLit04_any lit W hlit).mono (fun e w' h => (⟨h.1, hb.trans (h.2.mono hb.size)⟩ : e = _ ∧ Below wb.heap.size wb w')))
 clear hcb hba hlit
 obtain ⟨ho1, ho2⟩ := hop
 go_enter Tryz.func183, Tryz.ntmps183
 go_upto_block 0 with (fail)
 go_cut [3, 4, 5, 6, 7] (fun sa sh sn sl se wx => ∃ (a : Int) (h nm l en : Bool), sa = .int .i64 a ∧ sh = .bool h ∧ sn = .bool nm ∧ sl = .bool l ∧ se = .bool en ∧ wx = wb ∧ Hid (formOf op = some ((h, nm, l, en), a)))
 case first =>
  clear q1 q2 q3
  by_cases o0 : op = 1
  ·subst o0
   go_wp2
   go_meet
   exact ⟨0, false, false, true, false, rfl, rfl, rfl, rfl, rfl, rfl, hide (by decide)⟩
  ·skip
   by_cases o1 : op = 2
   ·subst o1
    go_wp2
    go_meet
    exact ⟨0, true, true, false, false, rfl, rfl, rfl, rfl, rfl, rfl, hide (by decide)⟩
   ·skip
    by_cases o2 : op = 3
    ·subst o2
     go_wp2
     go_meet
     exact ⟨0, false, true, false, false, rfl, rfl, rfl, rfl, rfl, rfl, hide (by decide)⟩
    ·skip
     by_cases o3 : op = 4
     ·subst o3
      go_wp2
      go_meet
      exact ⟨0, false, true, false, false, rfl, rfl, rfl, rfl, rfl, rfl, hide (by decide)⟩
     ·skip
      by_cases o4 : op = 5
      ·subst o4
       go_wp2
       go_meet
       exact ⟨0, false, false, false, false, rfl, rfl, rfl, rfl, rfl, rfl, hide (by decide)⟩
      ·skip
       by_cases o5 : op = 6
       ·subst o5
        go_wp2
        go_meet
        exact ⟨0, true, false, false, false, rfl, rfl, rfl, rfl, rfl, rfl, hide (by decide)⟩
       ·skip
        have hor : (op == 3 || op == 4) = false := by simp [o2, o3]
        by_cases p1 : 7 ≤ op ∧ op ≤ 9
        ·obtain ⟨p2, p3⟩ := p1
         go_wp2
         go_meet
         exact ⟨1, false, false, false, false, rfl, rfl, rfl, rfl, rfl, rfl, hide (by simp [formOf, o0, o1, o2, o3, o4, o5, p2, p3])⟩
        ·have hp := hide p1
         by_cases p0 : op = 10
         ·subst p0
          clear p1 hor
          go_wp2
          go_meet
          exact ⟨1, false, false, false, true, rfl, rfl, rfl, rfl, rfl, rfl, hide (by decide)⟩
         ·by_cases p4 : 11 ≤ op ∧ op ≤ 26
          ·obtain ⟨p5, p6⟩ := p4
           have p7 : ¬ op ≤ 9 := by omega
           have p8 : 7 ≤ op := by omega
           clear p1
           go_wp2
           go_meet
           exact ⟨2, false, false, false, false, rfl, rfl, rfl, rfl, rfl, rfl, hide (by simp [formOf, o0, o1, o2, o3, o4, o5, p0, p5, p6, p7])⟩
          ·have hv := hide (one_none (op := op) (by simp [formOf, o0, o1, o2, o3, o4, o5, p0, hp.out, p4]; try omega) lit head name hi lo n)
           by_cases r1 : op ≤ 26
           ·have r2 : op < 7 := by omega
            have r3 : ¬ 7 ≤ op := by omega
            have r4 : ¬ 11 ≤ op := by omega
            clear p1 p4
            go_wp2
            go_ret
            exact ⟨ret_b hv.out.symm, hBk.out _ hb0⟩
           ·have r2 : 7 ≤ op := by omega
            have r3 : ¬ op ≤ 9 := by omega
            have r4 : 11 ≤ op := by omega
            clear p1 p4
            go_wp2
            go_ret
            exact ⟨ret_b hv.out.symm, hBk.out _ hb0⟩
 case rest =>
  obtain ⟨a, h, nm, l, en, rfl, rfl, rfl, rfl, rfl, rfl, hf⟩ := hcut
  have hv0 := hide (one_some hf.out lit head name hi lo n)
  have hw6 := form_ways hf.out
  simp only [Prod.mk.injEq] at hw6
  clear hf
  rcases hw6 with ⟨rfl, rfl, rfl, rfl⟩ | ⟨rfl, rfl, rfl, rfl⟩ | ⟨rfl, rfl, rfl, rfl⟩ | ⟨rfl, rfl, rfl, rfl⟩ | ⟨rfl, rfl, rfl, rfl⟩ | ⟨rfl, rfl, rfl, rfl⟩
  ·by_cases ca : (n : Int) = a
   ·subst ca
    by_cases e1 : head = strE
    ·have t1 := emp_iff.1 e1
     by_cases e2 : name = strE
     ·have t2 := emp_iff.1 e2
      cases hz3 : litB lit with
      | false =>
       rw [hz3] at q3
       have hv := hide (show restB false false true false (n : Int) lit head name hi lo n = false from by rw [restB]; simp [namedB, hz3])
       try clear e1
       try clear e2
       try clear e3
       go_wp2_with (first | (go_at_call 67; first | (with_reducible refine (q1.out _ (by assumption)).mono ?_; rintro e w1 ⟨rfl, hb1⟩; have kb1 := bcell' hb1; have zz1 := Nat.lt_of_lt_of_le hl1 hb1.size) | (with_reducible refine (q2.out _ (by assumption)).mono ?_; rintro e w2 ⟨rfl, hb2⟩; have kb2 := bcell' hb2; have zz2 := Nat.lt_of_lt_of_le hl1 hb2.size)) | (go_at_call 131; with_reducible refine (q3.out _ (by first | assumption | exact below_new (by assumption) _)).mono ?_; rintro e w3 ⟨rfl, hb3⟩; have kb3 := bcell' hb3))
       go_ret
       exact ⟨ret_b (Eq.trans (by first | rfl | (simp [*]; done) | (simp; omega)) (hv0.out.trans hv.out).symm), hBk.out _ (by first | assumption | exact below_new (by assumption) _)⟩
      | true =>
       rw [hz3] at q3
       by_cases d0 : hi = 0
       ·skip
        by_cases d1 : lo = 0
        ·skip
         have hv := hide (show restB false false true false (n : Int) lit head name hi lo n = true from by rw [restB]; simp [namedB, e1, e2, hz3]; try omega)
         try clear e1
         try clear e2
         try clear e3
         go_wp2_with (first | (go_at_call 67; first | (with_reducible refine (q1.out _ (by assumption)).mono ?_; rintro e w1 ⟨rfl, hb1⟩; have kb1 := bcell' hb1; have zz1 := Nat.lt_of_lt_of_le hl1 hb1.size) | (with_reducible refine (q2.out _ (by assumption)).mono ?_; rintro e w2 ⟨rfl, hb2⟩; have kb2 := bcell' hb2; have zz2 := Nat.lt_of_lt_of_le hl1 hb2.size)) | (go_at_call 131; with_reducible refine (q3.out _ (by first | assumption | exact below_new (by assumption) _)).mono ?_; rintro e w3 ⟨rfl, hb3⟩; have kb3 := bcell' hb3))
         go_ret
         exact ⟨ret_b (Eq.trans (by first | rfl | (simp [*]; done) | (simp; omega)) (hv0.out.trans hv.out).symm), hBk.out _ (by first | assumption | exact below_new (by assumption) _)⟩
        ·have hv := hide (show restB false false true false (n : Int) lit head name hi lo n = false from by rw [restB]; simp [namedB, e1, e2, hz3]; try omega)
         try clear e1
         try clear e2
         try clear e3
         go_wp2_with (first | (go_at_call 67; first | (with_reducible refine (q1.out _ (by assumption)).mono ?_; rintro e w1 ⟨rfl, hb1⟩; have kb1 := bcell' hb1; have zz1 := Nat.lt_of_lt_of_le hl1 hb1.size) | (with_reducible refine (q2.out _ (by assumption)).mono ?_; rintro e w2 ⟨rfl, hb2⟩; have kb2 := bcell' hb2; have zz2 := Nat.lt_of_lt_of_le hl1 hb2.size)) | (go_at_call 131; with_reducible refine (q3.out _ (by first | assumption | exact below_new (by assumption) _)).mono ?_; rintro e w3 ⟨rfl, hb3⟩; have kb3 := bcell' hb3))
         go_ret
         exact ⟨ret_b (Eq.trans (by first | rfl | (simp [*]; done) | (simp; omega)) (hv0.out.trans hv.out).symm), hBk.out _ (by first | assumption | exact below_new (by assumption) _)⟩
       ·have hv := hide (show restB false false true false (n : Int) lit head name hi lo n = false from by rw [restB]; simp [namedB, e1, e2, hz3]; try omega)
        try clear e1
        try clear e2
        try clear e3
        go_wp2_with (first | (go_at_call 67; first | (with_reducible refine (q1.out _ (by assumption)).mono ?_; rintro e w1 ⟨rfl, hb1⟩; have kb1 := bcell' hb1; have zz1 := Nat.lt_of_lt_of_le hl1 hb1.size) | (with_reducible refine (q2.out _ (by assumption)).mono ?_; rintro e w2 ⟨rfl, hb2⟩; have kb2 := bcell' hb2; have zz2 := Nat.lt_of_lt_of_le hl1 hb2.size)) | (go_at_call 131; with_reducible refine (q3.out _ (by first | assumption | exact below_new (by assumption) _)).mono ?_; rintro e w3 ⟨rfl, hb3⟩; have kb3 := bcell' hb3))
        go_ret
        exact ⟨ret_b (Eq.trans (by first | rfl | (simp [*]; done) | (simp; omega)) (hv0.out.trans hv.out).symm), hBk.out _ (by first | assumption | exact below_new (by assumption) _)⟩
     ·have t2 : name.toList.isEmpty = false := by rw [Bool.eq_false_iff]; exact fun h => e2 (emp_iff.2 (List.isEmpty_iff.1 h))
      have hv := hide (show restB false false true false (n : Int) lit head name hi lo n = false from by rw [restB]; simp [namedB, e2])
      try clear e1
      try clear e2
      try clear e3
      go_wp2_with (first | (go_at_call 67; first | (with_reducible refine (q1.out _ (by assumption)).mono ?_; rintro e w1 ⟨rfl, hb1⟩; have kb1 := bcell' hb1; have zz1 := Nat.lt_of_lt_of_le hl1 hb1.size) | (with_reducible refine (q2.out _ (by assumption)).mono ?_; rintro e w2 ⟨rfl, hb2⟩; have kb2 := bcell' hb2; have zz2 := Nat.lt_of_lt_of_le hl1 hb2.size)) | (go_at_call 131; with_reducible refine (q3.out _ (by first | assumption | exact below_new (by assumption) _)).mono ?_; rintro e w3 ⟨rfl, hb3⟩; have kb3 := bcell' hb3))
      go_ret
      exact ⟨ret_b (Eq.trans (by first | rfl | (simp [*]; done) | (simp; omega)) (hv0.out.trans hv.out).symm), hBk.out _ (by first | assumption | exact below_new (by assumption) _)⟩
    ·have t1 : head.toList.isEmpty = false := by rw [Bool.eq_false_iff]; exact fun h => e1 (emp_iff.2 (List.isEmpty_iff.1 h))
     have hv := hide (show restB false false true false (n : Int) lit head name hi lo n = false from by rw [restB]; simp [namedB, e1])
     try clear e1
     try clear e2
     try clear e3
     go_wp2_with (first | (go_at_call 67; first | (with_reducible refine (q1.out _ (by assumption)).mono ?_; rintro e w1 ⟨rfl, hb1⟩; have kb1 := bcell' hb1; have zz1 := Nat.lt_of_lt_of_le hl1 hb1.size) | (with_reducible refine (q2.out _ (by assumption)).mono ?_; rintro e w2 ⟨rfl, hb2⟩; have kb2 := bcell' hb2; have zz2 := Nat.lt_of_lt_of_le hl1 hb2.size)) | (go_at_call 131; with_reducible refine (q3.out _ (by first | assumption | exact below_new (by assumption) _)).mono ?_; rintro e w3 ⟨rfl, hb3⟩; have kb3 := bcell' hb3))
     go_ret
     exact ⟨ret_b (Eq.trans (by first | rfl | (simp [*]; done) | (simp; omega)) (hv0.out.trans hv.out).symm), hBk.out _ (by first | assumption | exact below_new (by assumption) _)⟩
   ·have hv := hide (show restB false false true false a lit head name hi lo n = false from by simp [restB, ca])
    have ca' : ((n : Int) == a) = false := beq_eq_false_iff_ne.2 ca
    try clear e1
    try clear e2
    try clear e3
    go_wp2_with (first | (go_at_call 67; first | (with_reducible refine (q1.out _ (by assumption)).mono ?_; rintro e w1 ⟨rfl, hb1⟩; have kb1 := bcell' hb1; have zz1 := Nat.lt_of_lt_of_le hl1 hb1.size) | (with_reducible refine (q2.out _ (by assumption)).mono ?_; rintro e w2 ⟨rfl, hb2⟩; have kb2 := bcell' hb2; have zz2 := Nat.lt_of_lt_of_le hl1 hb2.size)) | (go_at_call 131; with_reducible refine (q3.out _ (by first | assumption | exact below_new (by assumption) _)).mono ?_; rintro e w3 ⟨rfl, hb3⟩; have kb3 := bcell' hb3))
    go_ret
    exact ⟨ret_b (Eq.trans (by first | rfl | (simp [*]; done) | (simp; omega)) (hv0.out.trans hv.out).symm), hBk.out _ (by first | assumption | exact below_new (by assumption) _)⟩
  ·by_cases ca : (n : Int) = a
   ·subst ca
    by_cases e1 : head = strE
    ·have t1 := emp_iff.1 e1
     have hv := hide (show restB true true false false (n : Int) lit head name hi lo n = false from by rw [restB]; simp [namedB, nameB_emp, e1])
     try clear e1
     try clear e2
     try clear e3
     go_wp2_with (first | (go_at_call 67; first | (with_reducible refine (q1.out _ (by assumption)).mono ?_; rintro e w1 ⟨rfl, hb1⟩; have kb1 := bcell' hb1; have zz1 := Nat.lt_of_lt_of_le hl1 hb1.size) | (with_reducible refine (q2.out _ (by assumption)).mono ?_; rintro e w2 ⟨rfl, hb2⟩; have kb2 := bcell' hb2; have zz2 := Nat.lt_of_lt_of_le hl1 hb2.size)) | (go_at_call 131; with_reducible refine (q3.out _ (by first | assumption | exact below_new (by assumption) _)).mono ?_; rintro e w3 ⟨rfl, hb3⟩; have kb3 := bcell' hb3))
     go_ret
     exact ⟨ret_b (Eq.trans (by first | rfl | (simp [*]; done) | (simp; omega)) (hv0.out.trans hv.out).symm), hBk.out _ (by first | assumption | exact below_new (by assumption) _)⟩
    ·have t1 : head.toList.isEmpty = false := by rw [Bool.eq_false_iff]; exact fun h => e1 (emp_iff.2 (List.isEmpty_iff.1 h))
     by_cases e2 : name = strE
     ·have t2 := emp_iff.1 e2
      have hv := hide (show restB true true false false (n : Int) lit head name hi lo n = false from by rw [restB]; simp [namedB, nameB_emp, e2])
      try clear e1
      try clear e2
      try clear e3
      go_wp2_with (first | (go_at_call 67; first | (with_reducible refine (q1.out _ (by assumption)).mono ?_; rintro e w1 ⟨rfl, hb1⟩; have kb1 := bcell' hb1; have zz1 := Nat.lt_of_lt_of_le hl1 hb1.size) | (with_reducible refine (q2.out _ (by assumption)).mono ?_; rintro e w2 ⟨rfl, hb2⟩; have kb2 := bcell' hb2; have zz2 := Nat.lt_of_lt_of_le hl1 hb2.size)) | (go_at_call 131; with_reducible refine (q3.out _ (by first | assumption | exact below_new (by assumption) _)).mono ?_; rintro e w3 ⟨rfl, hb3⟩; have kb3 := bcell' hb3))
      go_ret
      exact ⟨ret_b (Eq.trans (by first | rfl | (simp [*]; done) | (simp; omega)) (hv0.out.trans hv.out).symm), hBk.out _ (by first | assumption | exact below_new (by assumption) _)⟩
     ·have t2 : name.toList.isEmpty = false := by rw [Bool.eq_false_iff]; exact fun h => e2 (emp_iff.2 (List.isEmpty_iff.1 h))
      cases hz1 : nameB head with
      | false =>
       rw [hz1] at q1
       have hv := hide (show restB true true false false (n : Int) lit head name hi lo n = false from by rw [restB]; simp [namedB, hz1])
       try clear e1
       try clear e2
       try clear e3
       go_wp2_with (first | (go_at_call 67; first | (with_reducible refine (q1.out _ (by assumption)).mono ?_; rintro e w1 ⟨rfl, hb1⟩; have kb1 := bcell' hb1; have zz1 := Nat.lt_of_lt_of_le hl1 hb1.size) | (with_reducible refine (q2.out _ (by assumption)).mono ?_; rintro e w2 ⟨rfl, hb2⟩; have kb2 := bcell' hb2; have zz2 := Nat.lt_of_lt_of_le hl1 hb2.size)) | (go_at_call 131; with_reducible refine (q3.out _ (by first | assumption | exact below_new (by assumption) _)).mono ?_; rintro e w3 ⟨rfl, hb3⟩; have kb3 := bcell' hb3))
       go_ret
       exact ⟨ret_b (Eq.trans (by first | rfl | (simp [*]; done) | (simp; omega)) (hv0.out.trans hv.out).symm), hBk.out _ (by first | assumption | exact below_new (by assumption) _)⟩
      | true =>
       rw [hz1] at q1
       cases hz2 : nameB name with
       | false =>
        rw [hz2] at q2
        have hv := hide (show restB true true false false (n : Int) lit head name hi lo n = false from by rw [restB]; simp [namedB, hz2])
        try clear e1
        try clear e2
        try clear e3
        go_wp2_with (first | (go_at_call 67; first | (with_reducible refine (q1.out _ (by assumption)).mono ?_; rintro e w1 ⟨rfl, hb1⟩; have kb1 := bcell' hb1; have zz1 := Nat.lt_of_lt_of_le hl1 hb1.size) | (with_reducible refine (q2.out _ (by assumption)).mono ?_; rintro e w2 ⟨rfl, hb2⟩; have kb2 := bcell' hb2; have zz2 := Nat.lt_of_lt_of_le hl1 hb2.size)) | (go_at_call 131; with_reducible refine (q3.out _ (by first | assumption | exact below_new (by assumption) _)).mono ?_; rintro e w3 ⟨rfl, hb3⟩; have kb3 := bcell' hb3))
        go_ret
        exact ⟨ret_b (Eq.trans (by first | rfl | (simp [*]; done) | (simp; omega)) (hv0.out.trans hv.out).symm), hBk.out _ (by first | assumption | exact below_new (by assumption) _)⟩
       | true =>
        rw [hz2] at q2
        by_cases e3 : lit = zLt
        ·obtain ⟨r1, r2, r3⟩ := (zlt_iff lit).1 e3
         replace r1 := eq_true r1
         replace r2 := eq_true r2
         replace r3 := eq_true r3
         by_cases d0 : hi = 0
         ·skip
          by_cases d1 : lo = 0
          ·skip
           have hv := hide (show restB true true false false (n : Int) lit head name hi lo n = true from by rw [restB]; simp [namedB, hz1, hz2, e3]; try omega)
           try clear e1
           try clear e2
           try clear e3
           go_wp2_with (first | (go_at_call 67; first | (with_reducible refine (q1.out _ (by assumption)).mono ?_; rintro e w1 ⟨rfl, hb1⟩; have kb1 := bcell' hb1; have zz1 := Nat.lt_of_lt_of_le hl1 hb1.size) | (with_reducible refine (q2.out _ (by assumption)).mono ?_; rintro e w2 ⟨rfl, hb2⟩; have kb2 := bcell' hb2; have zz2 := Nat.lt_of_lt_of_le hl1 hb2.size)) | (go_at_call 131; with_reducible refine (q3.out _ (by first | assumption | exact below_new (by assumption) _)).mono ?_; rintro e w3 ⟨rfl, hb3⟩; have kb3 := bcell' hb3))
           go_ret
           exact ⟨ret_b (Eq.trans (by first | rfl | (simp [*]; done) | (simp; omega)) (hv0.out.trans hv.out).symm), hBk.out _ (by first | assumption | exact below_new (by assumption) _)⟩
          ·have hv := hide (show restB true true false false (n : Int) lit head name hi lo n = false from by rw [restB]; simp [namedB, hz1, hz2, e3]; try omega)
           try clear e1
           try clear e2
           try clear e3
           go_wp2_with (first | (go_at_call 67; first | (with_reducible refine (q1.out _ (by assumption)).mono ?_; rintro e w1 ⟨rfl, hb1⟩; have kb1 := bcell' hb1; have zz1 := Nat.lt_of_lt_of_le hl1 hb1.size) | (with_reducible refine (q2.out _ (by assumption)).mono ?_; rintro e w2 ⟨rfl, hb2⟩; have kb2 := bcell' hb2; have zz2 := Nat.lt_of_lt_of_le hl1 hb2.size)) | (go_at_call 131; with_reducible refine (q3.out _ (by first | assumption | exact below_new (by assumption) _)).mono ?_; rintro e w3 ⟨rfl, hb3⟩; have kb3 := bcell' hb3))
           go_ret
           exact ⟨ret_b (Eq.trans (by first | rfl | (simp [*]; done) | (simp; omega)) (hv0.out.trans hv.out).symm), hBk.out _ (by first | assumption | exact below_new (by assumption) _)⟩
         ·have hv := hide (show restB true true false false (n : Int) lit head name hi lo n = false from by rw [restB]; simp [namedB, hz1, hz2, e3]; try omega)
          try clear e1
          try clear e2
          try clear e3
          go_wp2_with (first | (go_at_call 67; first | (with_reducible refine (q1.out _ (by assumption)).mono ?_; rintro e w1 ⟨rfl, hb1⟩; have kb1 := bcell' hb1; have zz1 := Nat.lt_of_lt_of_le hl1 hb1.size) | (with_reducible refine (q2.out _ (by assumption)).mono ?_; rintro e w2 ⟨rfl, hb2⟩; have kb2 := bcell' hb2; have zz2 := Nat.lt_of_lt_of_le hl1 hb2.size)) | (go_at_call 131; with_reducible refine (q3.out _ (by first | assumption | exact below_new (by assumption) _)).mono ?_; rintro e w3 ⟨rfl, hb3⟩; have kb3 := bcell' hb3))
          go_ret
          exact ⟨ret_b (Eq.trans (by first | rfl | (simp [*]; done) | (simp; omega)) (hv0.out.trans hv.out).symm), hBk.out _ (by first | assumption | exact below_new (by assumption) _)⟩
        ·have hv := hide (show restB true true false false (n : Int) lit head name hi lo n = false from by rw [restB]; simp [e3])
         have hyy := hide (fun h => e3 ((zlt_iff lit).2 h))
         by_cases r1 : lit.1 = 0
         ·by_cases r2 : lit.2.1 = 0
          ·by_cases r3 : lit.2.2 = 0
           ·exact absurd ⟨r1, r2, r3⟩ hyy.out
           ·replace r1 := eq_true r1
            replace r2 := eq_true r2
            try clear e1
            try clear e2
            try clear e3
            go_wp2_with (first | (go_at_call 67; first | (with_reducible refine (q1.out _ (by assumption)).mono ?_; rintro e w1 ⟨rfl, hb1⟩; have kb1 := bcell' hb1; have zz1 := Nat.lt_of_lt_of_le hl1 hb1.size) | (with_reducible refine (q2.out _ (by assumption)).mono ?_; rintro e w2 ⟨rfl, hb2⟩; have kb2 := bcell' hb2; have zz2 := Nat.lt_of_lt_of_le hl1 hb2.size)) | (go_at_call 131; with_reducible refine (q3.out _ (by first | assumption | exact below_new (by assumption) _)).mono ?_; rintro e w3 ⟨rfl, hb3⟩; have kb3 := bcell' hb3))
            go_ret
            exact ⟨ret_b (Eq.trans (by first | rfl | (simp [*]; done) | (simp; omega)) (hv0.out.trans hv.out).symm), hBk.out _ (by first | assumption | exact below_new (by assumption) _)⟩
          ·replace r1 := eq_true r1
           try clear e1
           try clear e2
           try clear e3
           go_wp2_with (first | (go_at_call 67; first | (with_reducible refine (q1.out _ (by assumption)).mono ?_; rintro e w1 ⟨rfl, hb1⟩; have kb1 := bcell' hb1; have zz1 := Nat.lt_of_lt_of_le hl1 hb1.size) | (with_reducible refine (q2.out _ (by assumption)).mono ?_; rintro e w2 ⟨rfl, hb2⟩; have kb2 := bcell' hb2; have zz2 := Nat.lt_of_lt_of_le hl1 hb2.size)) | (go_at_call 131; with_reducible refine (q3.out _ (by first | assumption | exact below_new (by assumption) _)).mono ?_; rintro e w3 ⟨rfl, hb3⟩; have kb3 := bcell' hb3))
           go_ret
           exact ⟨ret_b (Eq.trans (by first | rfl | (simp [*]; done) | (simp; omega)) (hv0.out.trans hv.out).symm), hBk.out _ (by first | assumption | exact below_new (by assumption) _)⟩
         ·skip
          try clear e1
          try clear e2
          try clear e3
          go_wp2_with (first | (go_at_call 67; first | (with_reducible refine (q1.out _ (by assumption)).mono ?_; rintro e w1 ⟨rfl, hb1⟩; have kb1 := bcell' hb1; have zz1 := Nat.lt_of_lt_of_le hl1 hb1.size) | (with_reducible refine (q2.out _ (by assumption)).mono ?_; rintro e w2 ⟨rfl, hb2⟩; have kb2 := bcell' hb2; have zz2 := Nat.lt_of_lt_of_le hl1 hb2.size)) | (go_at_call 131; with_reducible refine (q3.out _ (by first | assumption | exact below_new (by assumption) _)).mono ?_; rintro e w3 ⟨rfl, hb3⟩; have kb3 := bcell' hb3))
          go_ret
          exact ⟨ret_b (Eq.trans (by first | rfl | (simp [*]; done) | (simp; omega)) (hv0.out.trans hv.out).symm), hBk.out _ (by first | assumption | exact below_new (by assumption) _)⟩
   ·have hv := hide (show restB true true false false a lit head name hi lo n = false from by simp [restB, ca])
    have ca' : ((n : Int) == a) = false := beq_eq_false_iff_ne.2 ca
    try clear e1
    try clear e2
    try clear e3
    go_wp2_with (first | (go_at_call 67; first | (with_reducible refine (q1.out _ (by assumption)).mono ?_; rintro e w1 ⟨rfl, hb1⟩; have kb1 := bcell' hb1; have zz1 := Nat.lt_of_lt_of_le hl1 hb1.size) | (with_reducible refine (q2.out _ (by assumption)).mono ?_; rintro e w2 ⟨rfl, hb2⟩; have kb2 := bcell' hb2; have zz2 := Nat.lt_of_lt_of_le hl1 hb2.size)) | (go_at_call 131; with_reducible refine (q3.out _ (by first | assumption | exact below_new (by assumption) _)).mono ?_; rintro e w3 ⟨rfl, hb3⟩; have kb3 := bcell' hb3))
    go_ret
    exact ⟨ret_b (Eq.trans (by first | rfl | (simp [*]; done) | (simp; omega)) (hv0.out.trans hv.out).symm), hBk.out _ (by first | assumption | exact below_new (by assumption) _)⟩
  ·by_cases ca : (n : Int) = a
   ·subst ca
    by_cases e1 : head = strE
    ·have t1 := emp_iff.1 e1
     by_cases e2 : name = strE
     ·have t2 := emp_iff.1 e2
      have hv := hide (show restB false true false false (n : Int) lit head name hi lo n = false from by rw [restB]; simp [namedB, nameB_emp, e2])
      try clear e1
      try clear e2
      try clear e3
      go_wp2_with (first | (go_at_call 67; first | (with_reducible refine (q1.out _ (by assumption)).mono ?_; rintro e w1 ⟨rfl, hb1⟩; have kb1 := bcell' hb1; have zz1 := Nat.lt_of_lt_of_le hl1 hb1.size) | (with_reducible refine (q2.out _ (by assumption)).mono ?_; rintro e w2 ⟨rfl, hb2⟩; have kb2 := bcell' hb2; have zz2 := Nat.lt_of_lt_of_le hl1 hb2.size)) | (go_at_call 131; with_reducible refine (q3.out _ (by first | assumption | exact below_new (by assumption) _)).mono ?_; rintro e w3 ⟨rfl, hb3⟩; have kb3 := bcell' hb3))
      go_ret
      exact ⟨ret_b (Eq.trans (by first | rfl | (simp [*]; done) | (simp; omega)) (hv0.out.trans hv.out).symm), hBk.out _ (by first | assumption | exact below_new (by assumption) _)⟩
     ·have t2 : name.toList.isEmpty = false := by rw [Bool.eq_false_iff]; exact fun h => e2 (emp_iff.2 (List.isEmpty_iff.1 h))
      cases hz2 : nameB name with
      | false =>
       rw [hz2] at q2
       have hv := hide (show restB false true false false (n : Int) lit head name hi lo n = false from by rw [restB]; simp [namedB, hz2])
       try clear e1
       try clear e2
       try clear e3
       go_wp2_with (first | (go_at_call 67; first | (with_reducible refine (q1.out _ (by assumption)).mono ?_; rintro e w1 ⟨rfl, hb1⟩; have kb1 := bcell' hb1; have zz1 := Nat.lt_of_lt_of_le hl1 hb1.size) | (with_reducible refine (q2.out _ (by assumption)).mono ?_; rintro e w2 ⟨rfl, hb2⟩; have kb2 := bcell' hb2; have zz2 := Nat.lt_of_lt_of_le hl1 hb2.size)) | (go_at_call 131; with_reducible refine (q3.out _ (by first | assumption | exact below_new (by assumption) _)).mono ?_; rintro e w3 ⟨rfl, hb3⟩; have kb3 := bcell' hb3))
       go_ret
       exact ⟨ret_b (Eq.trans (by first | rfl | (simp [*]; done) | (simp; omega)) (hv0.out.trans hv.out).symm), hBk.out _ (by first | assumption | exact below_new (by assumption) _)⟩
      | true =>
       rw [hz2] at q2
       by_cases e3 : lit = zLt
       ·obtain ⟨r1, r2, r3⟩ := (zlt_iff lit).1 e3
        replace r1 := eq_true r1
        replace r2 := eq_true r2
        replace r3 := eq_true r3
        by_cases d0 : hi = 0
        ·skip
         by_cases d1 : lo = 0
         ·skip
          have hv := hide (show restB false true false false (n : Int) lit head name hi lo n = true from by rw [restB]; simp [namedB, e1, hz2, e3]; try omega)
          try clear e1
          try clear e2
          try clear e3
          go_wp2_with (first | (go_at_call 67; first | (with_reducible refine (q1.out _ (by assumption)).mono ?_; rintro e w1 ⟨rfl, hb1⟩; have kb1 := bcell' hb1; have zz1 := Nat.lt_of_lt_of_le hl1 hb1.size) | (with_reducible refine (q2.out _ (by assumption)).mono ?_; rintro e w2 ⟨rfl, hb2⟩; have kb2 := bcell' hb2; have zz2 := Nat.lt_of_lt_of_le hl1 hb2.size)) | (go_at_call 131; with_reducible refine (q3.out _ (by first | assumption | exact below_new (by assumption) _)).mono ?_; rintro e w3 ⟨rfl, hb3⟩; have kb3 := bcell' hb3))
          go_ret
          exact ⟨ret_b (Eq.trans (by first | rfl | (simp [*]; done) | (simp; omega)) (hv0.out.trans hv.out).symm), hBk.out _ (by first | assumption | exact below_new (by assumption) _)⟩
         ·have hv := hide (show restB false true false false (n : Int) lit head name hi lo n = false from by rw [restB]; simp [namedB, e1, hz2, e3]; try omega)
          try clear e1
          try clear e2
          try clear e3
          go_wp2_with (first | (go_at_call 67; first | (with_reducible refine (q1.out _ (by assumption)).mono ?_; rintro e w1 ⟨rfl, hb1⟩; have kb1 := bcell' hb1; have zz1 := Nat.lt_of_lt_of_le hl1 hb1.size) | (with_reducible refine (q2.out _ (by assumption)).mono ?_; rintro e w2 ⟨rfl, hb2⟩; have kb2 := bcell' hb2; have zz2 := Nat.lt_of_lt_of_le hl1 hb2.size)) | (go_at_call 131; with_reducible refine (q3.out _ (by first | assumption | exact below_new (by assumption) _)).mono ?_; rintro e w3 ⟨rfl, hb3⟩; have kb3 := bcell' hb3))
          go_ret
          exact ⟨ret_b (Eq.trans (by first | rfl | (simp [*]; done) | (simp; omega)) (hv0.out.trans hv.out).symm), hBk.out _ (by first | assumption | exact below_new (by assumption) _)⟩
        ·have hv := hide (show restB false true false false (n : Int) lit head name hi lo n = false from by rw [restB]; simp [namedB, e1, hz2, e3]; try omega)
         try clear e1
         try clear e2
         try clear e3
         go_wp2_with (first | (go_at_call 67; first | (with_reducible refine (q1.out _ (by assumption)).mono ?_; rintro e w1 ⟨rfl, hb1⟩; have kb1 := bcell' hb1; have zz1 := Nat.lt_of_lt_of_le hl1 hb1.size) | (with_reducible refine (q2.out _ (by assumption)).mono ?_; rintro e w2 ⟨rfl, hb2⟩; have kb2 := bcell' hb2; have zz2 := Nat.lt_of_lt_of_le hl1 hb2.size)) | (go_at_call 131; with_reducible refine (q3.out _ (by first | assumption | exact below_new (by assumption) _)).mono ?_; rintro e w3 ⟨rfl, hb3⟩; have kb3 := bcell' hb3))
         go_ret
         exact ⟨ret_b (Eq.trans (by first | rfl | (simp [*]; done) | (simp; omega)) (hv0.out.trans hv.out).symm), hBk.out _ (by first | assumption | exact below_new (by assumption) _)⟩
       ·have hv := hide (show restB false true false false (n : Int) lit head name hi lo n = false from by rw [restB]; simp [e3])
        have hyy := hide (fun h => e3 ((zlt_iff lit).2 h))
        by_cases r1 : lit.1 = 0
        ·by_cases r2 : lit.2.1 = 0
         ·by_cases r3 : lit.2.2 = 0
          ·exact absurd ⟨r1, r2, r3⟩ hyy.out
          ·replace r1 := eq_true r1
           replace r2 := eq_true r2
           try clear e1
           try clear e2
           try clear e3
           go_wp2_with (first | (go_at_call 67; first | (with_reducible refine (q1.out _ (by assumption)).mono ?_; rintro e w1 ⟨rfl, hb1⟩; have kb1 := bcell' hb1; have zz1 := Nat.lt_of_lt_of_le hl1 hb1.size) | (with_reducible refine (q2.out _ (by assumption)).mono ?_; rintro e w2 ⟨rfl, hb2⟩; have kb2 := bcell' hb2; have zz2 := Nat.lt_of_lt_of_le hl1 hb2.size)) | (go_at_call 131; with_reducible refine (q3.out _ (by first | assumption | exact below_new (by assumption) _)).mono ?_; rintro e w3 ⟨rfl, hb3⟩; have kb3 := bcell' hb3))
           go_ret
           exact ⟨ret_b (Eq.trans (by first | rfl | (simp [*]; done) | (simp; omega)) (hv0.out.trans hv.out).symm), hBk.out _ (by first | assumption | exact below_new (by assumption) _)⟩
         ·replace r1 := eq_true r1
          try clear e1
          try clear e2
          try clear e3
          go_wp2_with (first | (go_at_call 67; first | (with_reducible refine (q1.out _ (by assumption)).mono ?_; rintro e w1 ⟨rfl, hb1⟩; have kb1 := bcell' hb1; have zz1 := Nat.lt_of_lt_of_le hl1 hb1.size) | (with_reducible refine (q2.out _ (by assumption)).mono ?_; rintro e w2 ⟨rfl, hb2⟩; have kb2 := bcell' hb2; have zz2 := Nat.lt_of_lt_of_le hl1 hb2.size)) | (go_at_call 131; with_reducible refine (q3.out _ (by first | assumption | exact below_new (by assumption) _)).mono ?_; rintro e w3 ⟨rfl, hb3⟩; have kb3 := bcell' hb3))
          go_ret
          exact ⟨ret_b (Eq.trans (by first | rfl | (simp [*]; done) | (simp; omega)) (hv0.out.trans hv.out).symm), hBk.out _ (by first | assumption | exact below_new (by assumption) _)⟩
        ·skip
         try clear e1
         try clear e2
         try clear e3
         go_wp2_with (first | (go_at_call 67; first | (with_reducible refine (q1.out _ (by assumption)).mono ?_; rintro e w1 ⟨rfl, hb1⟩; have kb1 := bcell' hb1; have zz1 := Nat.lt_of_lt_of_le hl1 hb1.size) | (with_reducible refine (q2.out _ (by assumption)).mono ?_; rintro e w2 ⟨rfl, hb2⟩; have kb2 := bcell' hb2; have zz2 := Nat.lt_of_lt_of_le hl1 hb2.size)) | (go_at_call 131; with_reducible refine (q3.out _ (by first | assumption | exact below_new (by assumption) _)).mono ?_; rintro e w3 ⟨rfl, hb3⟩; have kb3 := bcell' hb3))
         go_ret
         exact ⟨ret_b (Eq.trans (by first | rfl | (simp [*]; done) | (simp; omega)) (hv0.out.trans hv.out).symm), hBk.out _ (by first | assumption | exact below_new (by assumption) _)⟩
    ·have t1 : head.toList.isEmpty = false := by rw [Bool.eq_false_iff]; exact fun h => e1 (emp_iff.2 (List.isEmpty_iff.1 h))
     have hv := hide (show restB false true false false (n : Int) lit head name hi lo n = false from by rw [restB]; simp [namedB, e1])
     try clear e1
     try clear e2
     try clear e3
     go_wp2_with (first | (go_at_call 67; first | (with_reducible refine (q1.out _ (by assumption)).mono ?_; rintro e w1 ⟨rfl, hb1⟩; have kb1 := bcell' hb1; have zz1 := Nat.lt_of_lt_of_le hl1 hb1.size) | (with_reducible refine (q2.out _ (by assumption)).mono ?_; rintro e w2 ⟨rfl, hb2⟩; have kb2 := bcell' hb2; have zz2 := Nat.lt_of_lt_of_le hl1 hb2.size)) | (go_at_call 131; with_reducible refine (q3.out _ (by first | assumption | exact below_new (by assumption) _)).mono ?_; rintro e w3 ⟨rfl, hb3⟩; have kb3 := bcell' hb3))
     go_ret
     exact ⟨ret_b (Eq.trans (by first | rfl | (simp [*]; done) | (simp; omega)) (hv0.out.trans hv.out).symm), hBk.out _ (by first | assumption | exact below_new (by assumption) _)⟩
   ·have hv := hide (show restB false true false false a lit head name hi lo n = false from by simp [restB, ca])
    have ca' : ((n : Int) == a) = false := beq_eq_false_iff_ne.2 ca
    try clear e1
    try clear e2
    try clear e3
    go_wp2_with (first | (go_at_call 67; first | (with_reducible refine (q1.out _ (by assumption)).mono ?_; rintro e w1 ⟨rfl, hb1⟩; have kb1 := bcell' hb1; have zz1 := Nat.lt_of_lt_of_le hl1 hb1.size) | (with_reducible refine (q2.out _ (by assumption)).mono ?_; rintro e w2 ⟨rfl, hb2⟩; have kb2 := bcell' hb2; have zz2 := Nat.lt_of_lt_of_le hl1 hb2.size)) | (go_at_call 131; with_reducible refine (q3.out _ (by first | assumption | exact below_new (by assumption) _)).mono ?_; rintro e w3 ⟨rfl, hb3⟩; have kb3 := bcell' hb3))
    go_ret
    exact ⟨ret_b (Eq.trans (by first | rfl | (simp [*]; done) | (simp; omega)) (hv0.out.trans hv.out).symm), hBk.out _ (by first | assumption | exact below_new (by assumption) _)⟩
  ·by_cases ca : (n : Int) = a
   ·subst ca
    by_cases e1 : head = strE
    ·have t1 := emp_iff.1 e1
     by_cases e2 : name = strE
     ·have t2 := emp_iff.1 e2
      by_cases e3 : lit = zLt
      ·obtain ⟨r1, r2, r3⟩ := (zlt_iff lit).1 e3
       replace r1 := eq_true r1
       replace r2 := eq_true r2
       replace r3 := eq_true r3
       by_cases d0 : hi = 0
       ·skip
        by_cases d1 : lo = 0
        ·skip
         have hv := hide (show restB false false false false (n : Int) lit head name hi lo n = true from by rw [restB]; simp [namedB, e1, e2, e3]; try omega)
         try clear e1
         try clear e2
         try clear e3
         go_wp2_with (first | (go_at_call 67; first | (with_reducible refine (q1.out _ (by assumption)).mono ?_; rintro e w1 ⟨rfl, hb1⟩; have kb1 := bcell' hb1; have zz1 := Nat.lt_of_lt_of_le hl1 hb1.size) | (with_reducible refine (q2.out _ (by assumption)).mono ?_; rintro e w2 ⟨rfl, hb2⟩; have kb2 := bcell' hb2; have zz2 := Nat.lt_of_lt_of_le hl1 hb2.size)) | (go_at_call 131; with_reducible refine (q3.out _ (by first | assumption | exact below_new (by assumption) _)).mono ?_; rintro e w3 ⟨rfl, hb3⟩; have kb3 := bcell' hb3))
         go_ret
         exact ⟨ret_b (Eq.trans (by first | rfl | (simp [*]; done) | (simp; omega)) (hv0.out.trans hv.out).symm), hBk.out _ (by first | assumption | exact below_new (by assumption) _)⟩
        ·have hv := hide (show restB false false false false (n : Int) lit head name hi lo n = false from by rw [restB]; simp [namedB, e1, e2, e3]; try omega)
         try clear e1
         try clear e2
         try clear e3
         go_wp2_with (first | (go_at_call 67; first | (with_reducible refine (q1.out _ (by assumption)).mono ?_; rintro e w1 ⟨rfl, hb1⟩; have kb1 := bcell' hb1; have zz1 := Nat.lt_of_lt_of_le hl1 hb1.size) | (with_reducible refine (q2.out _ (by assumption)).mono ?_; rintro e w2 ⟨rfl, hb2⟩; have kb2 := bcell' hb2; have zz2 := Nat.lt_of_lt_of_le hl1 hb2.size)) | (go_at_call 131; with_reducible refine (q3.out _ (by first | assumption | exact below_new (by assumption) _)).mono ?_; rintro e w3 ⟨rfl, hb3⟩; have kb3 := bcell' hb3))
         go_ret
         exact ⟨ret_b (Eq.trans (by first | rfl | (simp [*]; done) | (simp; omega)) (hv0.out.trans hv.out).symm), hBk.out _ (by first | assumption | exact below_new (by assumption) _)⟩
       ·have hv := hide (show restB false false false false (n : Int) lit head name hi lo n = false from by rw [restB]; simp [namedB, e1, e2, e3]; try omega)
        try clear e1
        try clear e2
        try clear e3
        go_wp2_with (first | (go_at_call 67; first | (with_reducible refine (q1.out _ (by assumption)).mono ?_; rintro e w1 ⟨rfl, hb1⟩; have kb1 := bcell' hb1; have zz1 := Nat.lt_of_lt_of_le hl1 hb1.size) | (with_reducible refine (q2.out _ (by assumption)).mono ?_; rintro e w2 ⟨rfl, hb2⟩; have kb2 := bcell' hb2; have zz2 := Nat.lt_of_lt_of_le hl1 hb2.size)) | (go_at_call 131; with_reducible refine (q3.out _ (by first | assumption | exact below_new (by assumption) _)).mono ?_; rintro e w3 ⟨rfl, hb3⟩; have kb3 := bcell' hb3))
        go_ret
        exact ⟨ret_b (Eq.trans (by first | rfl | (simp [*]; done) | (simp; omega)) (hv0.out.trans hv.out).symm), hBk.out _ (by first | assumption | exact below_new (by assumption) _)⟩
      ·have hv := hide (show restB false false false false (n : Int) lit head name hi lo n = false from by rw [restB]; simp [e3])
       have hyy := hide (fun h => e3 ((zlt_iff lit).2 h))
       by_cases r1 : lit.1 = 0
       ·by_cases r2 : lit.2.1 = 0
        ·by_cases r3 : lit.2.2 = 0
         ·exact absurd ⟨r1, r2, r3⟩ hyy.out
         ·replace r1 := eq_true r1
          replace r2 := eq_true r2
          try clear e1
          try clear e2
          try clear e3
          go_wp2_with (first | (go_at_call 67; first | (with_reducible refine (q1.out _ (by assumption)).mono ?_; rintro e w1 ⟨rfl, hb1⟩; have kb1 := bcell' hb1; have zz1 := Nat.lt_of_lt_of_le hl1 hb1.size) | (with_reducible refine (q2.out _ (by assumption)).mono ?_; rintro e w2 ⟨rfl, hb2⟩; have kb2 := bcell' hb2; have zz2 := Nat.lt_of_lt_of_le hl1 hb2.size)) | (go_at_call 131; with_reducible refine (q3.out _ (by first | assumption | exact below_new (by assumption) _)).mono ?_; rintro e w3 ⟨rfl, hb3⟩; have kb3 := bcell' hb3))
          go_ret
          exact ⟨ret_b (Eq.trans (by first | rfl | (simp [*]; done) | (simp; omega)) (hv0.out.trans hv.out).symm), hBk.out _ (by first | assumption | exact below_new (by assumption) _)⟩
        ·replace r1 := eq_true r1
         try clear e1
         try clear e2
         try clear e3
         go_wp2_with (first | (go_at_call 67; first | (with_reducible refine (q1.out _ (by assumption)).mono ?_; rintro e w1 ⟨rfl, hb1⟩; have kb1 := bcell' hb1; have zz1 := Nat.lt_of_lt_of_le hl1 hb1.size) | (with_reducible refine (q2.out _ (by assumption)).mono ?_; rintro e w2 ⟨rfl, hb2⟩; have kb2 := bcell' hb2; have zz2 := Nat.lt_of_lt_of_le hl1 hb2.size)) | (go_at_call 131; with_reducible refine (q3.out _ (by first | assumption | exact below_new (by assumption) _)).mono ?_; rintro e w3 ⟨rfl, hb3⟩; have kb3 := bcell' hb3))
         go_ret
         exact ⟨ret_b (Eq.trans (by first | rfl | (simp [*]; done) | (simp; omega)) (hv0.out.trans hv.out).symm), hBk.out _ (by first | assumption | exact below_new (by assumption) _)⟩
       ·skip
        try clear e1
        try clear e2
        try clear e3
        go_wp2_with (first | (go_at_call 67; first | (with_reducible refine (q1.out _ (by assumption)).mono ?_; rintro e w1 ⟨rfl, hb1⟩; have kb1 := bcell' hb1; have zz1 := Nat.lt_of_lt_of_le hl1 hb1.size) | (with_reducible refine (q2.out _ (by assumption)).mono ?_; rintro e w2 ⟨rfl, hb2⟩; have kb2 := bcell' hb2; have zz2 := Nat.lt_of_lt_of_le hl1 hb2.size)) | (go_at_call 131; with_reducible refine (q3.out _ (by first | assumption | exact below_new (by assumption) _)).mono ?_; rintro e w3 ⟨rfl, hb3⟩; have kb3 := bcell' hb3))
        go_ret
        exact ⟨ret_b (Eq.trans (by first | rfl | (simp [*]; done) | (simp; omega)) (hv0.out.trans hv.out).symm), hBk.out _ (by first | assumption | exact below_new (by assumption) _)⟩
     ·have t2 : name.toList.isEmpty = false := by rw [Bool.eq_false_iff]; exact fun h => e2 (emp_iff.2 (List.isEmpty_iff.1 h))
      have hv := hide (show restB false false false false (n : Int) lit head name hi lo n = false from by rw [restB]; simp [namedB, e2])
      try clear e1
      try clear e2
      try clear e3
      go_wp2_with (first | (go_at_call 67; first | (with_reducible refine (q1.out _ (by assumption)).mono ?_; rintro e w1 ⟨rfl, hb1⟩; have kb1 := bcell' hb1; have zz1 := Nat.lt_of_lt_of_le hl1 hb1.size) | (with_reducible refine (q2.out _ (by assumption)).mono ?_; rintro e w2 ⟨rfl, hb2⟩; have kb2 := bcell' hb2; have zz2 := Nat.lt_of_lt_of_le hl1 hb2.size)) | (go_at_call 131; with_reducible refine (q3.out _ (by first | assumption | exact below_new (by assumption) _)).mono ?_; rintro e w3 ⟨rfl, hb3⟩; have kb3 := bcell' hb3))
      go_ret
      exact ⟨ret_b (Eq.trans (by first | rfl | (simp [*]; done) | (simp; omega)) (hv0.out.trans hv.out).symm), hBk.out _ (by first | assumption | exact below_new (by assumption) _)⟩
    ·have t1 : head.toList.isEmpty = false := by rw [Bool.eq_false_iff]; exact fun h => e1 (emp_iff.2 (List.isEmpty_iff.1 h))
     have hv := hide (show restB false false false false (n : Int) lit head name hi lo n = false from by rw [restB]; simp [namedB, e1])
     try clear e1
     try clear e2
     try clear e3
     go_wp2_with (first | (go_at_call 67; first | (with_reducible refine (q1.out _ (by assumption)).mono ?_; rintro e w1 ⟨rfl, hb1⟩; have kb1 := bcell' hb1; have zz1 := Nat.lt_of_lt_of_le hl1 hb1.size) | (with_reducible refine (q2.out _ (by assumption)).mono ?_; rintro e w2 ⟨rfl, hb2⟩; have kb2 := bcell' hb2; have zz2 := Nat.lt_of_lt_of_le hl1 hb2.size)) | (go_at_call 131; with_reducible refine (q3.out _ (by first | assumption | exact below_new (by assumption) _)).mono ?_; rintro e w3 ⟨rfl, hb3⟩; have kb3 := bcell' hb3))
     go_ret
     exact ⟨ret_b (Eq.trans (by first | rfl | (simp [*]; done) | (simp; omega)) (hv0.out.trans hv.out).symm), hBk.out _ (by first | assumption | exact below_new (by assumption) _)⟩
   ·have hv := hide (show restB false false false false a lit head name hi lo n = false from by simp [restB, ca])
    have ca' : ((n : Int) == a) = false := beq_eq_false_iff_ne.2 ca
    try clear e1
    try clear e2
    try clear e3
    go_wp2_with (first | (go_at_call 67; first | (with_reducible refine (q1.out _ (by assumption)).mono ?_; rintro e w1 ⟨rfl, hb1⟩; have kb1 := bcell' hb1; have zz1 := Nat.lt_of_lt_of_le hl1 hb1.size) | (with_reducible refine (q2.out _ (by assumption)).mono ?_; rintro e w2 ⟨rfl, hb2⟩; have kb2 := bcell' hb2; have zz2 := Nat.lt_of_lt_of_le hl1 hb2.size)) | (go_at_call 131; with_reducible refine (q3.out _ (by first | assumption | exact below_new (by assumption) _)).mono ?_; rintro e w3 ⟨rfl, hb3⟩; have kb3 := bcell' hb3))
    go_ret
    exact ⟨ret_b (Eq.trans (by first | rfl | (simp [*]; done) | (simp; omega)) (hv0.out.trans hv.out).symm), hBk.out _ (by first | assumption | exact below_new (by assumption) _)⟩
  ·by_cases ca : (n : Int) = a
   ·subst ca
    by_cases e1 : head = strE
    ·have t1 := emp_iff.1 e1
     have hv := hide (show restB true false false false (n : Int) lit head name hi lo n = false from by rw [restB]; simp [namedB, nameB_emp, e1])
     try clear e1
     try clear e2
     try clear e3
     go_wp2_with (first | (go_at_call 67; first | (with_reducible refine (q1.out _ (by assumption)).mono ?_; rintro e w1 ⟨rfl, hb1⟩; have kb1 := bcell' hb1; have zz1 := Nat.lt_of_lt_of_le hl1 hb1.size) | (with_reducible refine (q2.out _ (by assumption)).mono ?_; rintro e w2 ⟨rfl, hb2⟩; have kb2 := bcell' hb2; have zz2 := Nat.lt_of_lt_of_le hl1 hb2.size)) | (go_at_call 131; with_reducible refine (q3.out _ (by first | assumption | exact below_new (by assumption) _)).mono ?_; rintro e w3 ⟨rfl, hb3⟩; have kb3 := bcell' hb3))
     go_ret
     exact ⟨ret_b (Eq.trans (by first | rfl | (simp [*]; done) | (simp; omega)) (hv0.out.trans hv.out).symm), hBk.out _ (by first | assumption | exact below_new (by assumption) _)⟩
    ·have t1 : head.toList.isEmpty = false := by rw [Bool.eq_false_iff]; exact fun h => e1 (emp_iff.2 (List.isEmpty_iff.1 h))
     by_cases e2 : name = strE
     ·have t2 := emp_iff.1 e2
      cases hz1 : nameB head with
      | false =>
       rw [hz1] at q1
       have hv := hide (show restB true false false false (n : Int) lit head name hi lo n = false from by rw [restB]; simp [namedB, hz1])
       try clear e1
       try clear e2
       try clear e3
       go_wp2_with (first | (go_at_call 67; first | (with_reducible refine (q1.out _ (by assumption)).mono ?_; rintro e w1 ⟨rfl, hb1⟩; have kb1 := bcell' hb1; have zz1 := Nat.lt_of_lt_of_le hl1 hb1.size) | (with_reducible refine (q2.out _ (by assumption)).mono ?_; rintro e w2 ⟨rfl, hb2⟩; have kb2 := bcell' hb2; have zz2 := Nat.lt_of_lt_of_le hl1 hb2.size)) | (go_at_call 131; with_reducible refine (q3.out _ (by first | assumption | exact below_new (by assumption) _)).mono ?_; rintro e w3 ⟨rfl, hb3⟩; have kb3 := bcell' hb3))
       go_ret
       exact ⟨ret_b (Eq.trans (by first | rfl | (simp [*]; done) | (simp; omega)) (hv0.out.trans hv.out).symm), hBk.out _ (by first | assumption | exact below_new (by assumption) _)⟩
      | true =>
       rw [hz1] at q1
       by_cases e3 : lit = zLt
       ·obtain ⟨r1, r2, r3⟩ := (zlt_iff lit).1 e3
        replace r1 := eq_true r1
        replace r2 := eq_true r2
        replace r3 := eq_true r3
        by_cases d0 : hi = 0
        ·skip
         by_cases d1 : lo = 0
         ·skip
          have hv := hide (show restB true false false false (n : Int) lit head name hi lo n = true from by rw [restB]; simp [namedB, hz1, e2, e3]; try omega)
          try clear e1
          try clear e2
          try clear e3
          go_wp2_with (first | (go_at_call 67; first | (with_reducible refine (q1.out _ (by assumption)).mono ?_; rintro e w1 ⟨rfl, hb1⟩; have kb1 := bcell' hb1; have zz1 := Nat.lt_of_lt_of_le hl1 hb1.size) | (with_reducible refine (q2.out _ (by assumption)).mono ?_; rintro e w2 ⟨rfl, hb2⟩; have kb2 := bcell' hb2; have zz2 := Nat.lt_of_lt_of_le hl1 hb2.size)) | (go_at_call 131; with_reducible refine (q3.out _ (by first | assumption | exact below_new (by assumption) _)).mono ?_; rintro e w3 ⟨rfl, hb3⟩; have kb3 := bcell' hb3))
          go_ret
          exact ⟨ret_b (Eq.trans (by first | rfl | (simp [*]; done) | (simp; omega)) (hv0.out.trans hv.out).symm), hBk.out _ (by first | assumption | exact below_new (by assumption) _)⟩
         ·have hv := hide (show restB true false false false (n : Int) lit head name hi lo n = false from by rw [restB]; simp [namedB, hz1, e2, e3]; try omega)
          try clear e1
          try clear e2
          try clear e3
          go_wp2_with (first | (go_at_call 67; first | (with_reducible refine (q1.out _ (by assumption)).mono ?_; rintro e w1 ⟨rfl, hb1⟩; have kb1 := bcell' hb1; have zz1 := Nat.lt_of_lt_of_le hl1 hb1.size) | (with_reducible refine (q2.out _ (by assumption)).mono ?_; rintro e w2 ⟨rfl, hb2⟩; have kb2 := bcell' hb2; have zz2 := Nat.lt_of_lt_of_le hl1 hb2.size)) | (go_at_call 131; with_reducible refine (q3.out _ (by first | assumption | exact below_new (by assumption) _)).mono ?_; rintro e w3 ⟨rfl, hb3⟩; have kb3 := bcell' hb3))
          go_ret
          exact ⟨ret_b (Eq.trans (by first | rfl | (simp [*]; done) | (simp; omega)) (hv0.out.trans hv.out).symm), hBk.out _ (by first | assumption | exact below_new (by assumption) _)⟩
        ·have hv := hide (show restB true false false false (n : Int) lit head name hi lo n = false from by rw [restB]; simp [namedB, hz1, e2, e3]; try omega)
         try clear e1
         try clear e2
         try clear e3
         go_wp2_with (first | (go_at_call 67; first | (with_reducible refine (q1.out _ (by assumption)).mono ?_; rintro e w1 ⟨rfl, hb1⟩; have kb1 := bcell' hb1; have zz1 := Nat.lt_of_lt_of_le hl1 hb1.size) | (with_reducible refine (q2.out _ (by assumption)).mono ?_; rintro e w2 ⟨rfl, hb2⟩; have kb2 := bcell' hb2; have zz2 := Nat.lt_of_lt_of_le hl1 hb2.size)) | (go_at_call 131; with_reducible refine (q3.out _ (by first | assumption | exact below_new (by assumption) _)).mono ?_; rintro e w3 ⟨rfl, hb3⟩; have kb3 := bcell' hb3))
         go_ret
         exact ⟨ret_b (Eq.trans (by first | rfl | (simp [*]; done) | (simp; omega)) (hv0.out.trans hv.out).symm), hBk.out _ (by first | assumption | exact below_new (by assumption) _)⟩
       ·have hv := hide (show restB true false false false (n : Int) lit head name hi lo n = false from by rw [restB]; simp [e3])
        have hyy := hide (fun h => e3 ((zlt_iff lit).2 h))
        by_cases r1 : lit.1 = 0
        ·by_cases r2 : lit.2.1 = 0
         ·by_cases r3 : lit.2.2 = 0
          ·exact absurd ⟨r1, r2, r3⟩ hyy.out
          ·replace r1 := eq_true r1
           replace r2 := eq_true r2
           try clear e1
           try clear e2
           try clear e3
           go_wp2_with (first | (go_at_call 67; first | (with_reducible refine (q1.out _ (by assumption)).mono ?_; rintro e w1 ⟨rfl, hb1⟩; have kb1 := bcell' hb1; have zz1 := Nat.lt_of_lt_of_le hl1 hb1.size) | (with_reducible refine (q2.out _ (by assumption)).mono ?_; rintro e w2 ⟨rfl, hb2⟩; have kb2 := bcell' hb2; have zz2 := Nat.lt_of_lt_of_le hl1 hb2.size)) | (go_at_call 131; with_reducible refine (q3.out _ (by first | assumption | exact below_new (by assumption) _)).mono ?_; rintro e w3 ⟨rfl, hb3⟩; have kb3 := bcell' hb3))
           go_ret
           exact ⟨ret_b (Eq.trans (by first | rfl | (simp [*]; done) | (simp; omega)) (hv0.out.trans hv.out).symm), hBk.out _ (by first | assumption | exact below_new (by assumption) _)⟩
         ·replace r1 := eq_true r1
          try clear e1
          try clear e2
          try clear e3
          go_wp2_with (first | (go_at_call 67; first | (with_reducible refine (q1.out _ (by assumption)).mono ?_; rintro e w1 ⟨rfl, hb1⟩; have kb1 := bcell' hb1; have zz1 := Nat.lt_of_lt_of_le hl1 hb1.size) | (with_reducible refine (q2.out _ (by assumption)).mono ?_; rintro e w2 ⟨rfl, hb2⟩; have kb2 := bcell' hb2; have zz2 := Nat.lt_of_lt_of_le hl1 hb2.size)) | (go_at_call 131; with_reducible refine (q3.out _ (by first | assumption | exact below_new (by assumption) _)).mono ?_; rintro e w3 ⟨rfl, hb3⟩; have kb3 := bcell' hb3))
          go_ret
          exact ⟨ret_b (Eq.trans (by first | rfl | (simp [*]; done) | (simp; omega)) (hv0.out.trans hv.out).symm), hBk.out _ (by first | assumption | exact below_new (by assumption) _)⟩
        ·skip
         try clear e1
         try clear e2
         try clear e3
         go_wp2_with (first | (go_at_call 67; first | (with_reducible refine (q1.out _ (by assumption)).mono ?_; rintro e w1 ⟨rfl, hb1⟩; have kb1 := bcell' hb1; have zz1 := Nat.lt_of_lt_of_le hl1 hb1.size) | (with_reducible refine (q2.out _ (by assumption)).mono ?_; rintro e w2 ⟨rfl, hb2⟩; have kb2 := bcell' hb2; have zz2 := Nat.lt_of_lt_of_le hl1 hb2.size)) | (go_at_call 131; with_reducible refine (q3.out _ (by first | assumption | exact below_new (by assumption) _)).mono ?_; rintro e w3 ⟨rfl, hb3⟩; have kb3 := bcell' hb3))
         go_ret
         exact ⟨ret_b (Eq.trans (by first | rfl | (simp [*]; done) | (simp; omega)) (hv0.out.trans hv.out).symm), hBk.out _ (by first | assumption | exact below_new (by assumption) _)⟩
     ·have t2 : name.toList.isEmpty = false := by rw [Bool.eq_false_iff]; exact fun h => e2 (emp_iff.2 (List.isEmpty_iff.1 h))
      have hv := hide (show restB true false false false (n : Int) lit head name hi lo n = false from by rw [restB]; simp [namedB, e2])
      try clear e1
      try clear e2
      try clear e3
      go_wp2_with (first | (go_at_call 67; first | (with_reducible refine (q1.out _ (by assumption)).mono ?_; rintro e w1 ⟨rfl, hb1⟩; have kb1 := bcell' hb1; have zz1 := Nat.lt_of_lt_of_le hl1 hb1.size) | (with_reducible refine (q2.out _ (by assumption)).mono ?_; rintro e w2 ⟨rfl, hb2⟩; have kb2 := bcell' hb2; have zz2 := Nat.lt_of_lt_of_le hl1 hb2.size)) | (go_at_call 131; with_reducible refine (q3.out _ (by first | assumption | exact below_new (by assumption) _)).mono ?_; rintro e w3 ⟨rfl, hb3⟩; have kb3 := bcell' hb3))
      go_ret
      exact ⟨ret_b (Eq.trans (by first | rfl | (simp [*]; done) | (simp; omega)) (hv0.out.trans hv.out).symm), hBk.out _ (by first | assumption | exact below_new (by assumption) _)⟩
   ·have hv := hide (show restB true false false false a lit head name hi lo n = false from by simp [restB, ca])
    have ca' : ((n : Int) == a) = false := beq_eq_false_iff_ne.2 ca
    try clear e1
    try clear e2
    try clear e3
    go_wp2_with (first | (go_at_call 67; first | (with_reducible refine (q1.out _ (by assumption)).mono ?_; rintro e w1 ⟨rfl, hb1⟩; have kb1 := bcell' hb1; have zz1 := Nat.lt_of_lt_of_le hl1 hb1.size) | (with_reducible refine (q2.out _ (by assumption)).mono ?_; rintro e w2 ⟨rfl, hb2⟩; have kb2 := bcell' hb2; have zz2 := Nat.lt_of_lt_of_le hl1 hb2.size)) | (go_at_call 131; with_reducible refine (q3.out _ (by first | assumption | exact below_new (by assumption) _)).mono ?_; rintro e w3 ⟨rfl, hb3⟩; have kb3 := bcell' hb3))
    go_ret
    exact ⟨ret_b (Eq.trans (by first | rfl | (simp [*]; done) | (simp; omega)) (hv0.out.trans hv.out).symm), hBk.out _ (by first | assumption | exact below_new (by assumption) _)⟩
  ·by_cases ca : (n : Int) = a
   ·subst ca
    by_cases e1 : head = strE
    ·have t1 := emp_iff.1 e1
     by_cases e2 : name = strE
     ·have t2 := emp_iff.1 e2
      by_cases e3 : lit = zLt
      ·obtain ⟨r1, r2, r3⟩ := (zlt_iff lit).1 e3
       replace r1 := eq_true r1
       replace r2 := eq_true r2
       replace r3 := eq_true r3
       by_cases d0 : 0 ≤ lo
       ·skip
        by_cases d1 : lo ≤ hi
        ·skip
         by_cases d2 : hi ≤ 127
         ·skip
          have hv := hide (show restB false false false true (n : Int) lit head name hi lo n = true from by rw [restB]; simp [namedB, e1, e2, e3]; try omega)
          try clear e1
          try clear e2
          try clear e3
          go_wp2_with (first | (go_at_call 67; first | (with_reducible refine (q1.out _ (by assumption)).mono ?_; rintro e w1 ⟨rfl, hb1⟩; have kb1 := bcell' hb1; have zz1 := Nat.lt_of_lt_of_le hl1 hb1.size) | (with_reducible refine (q2.out _ (by assumption)).mono ?_; rintro e w2 ⟨rfl, hb2⟩; have kb2 := bcell' hb2; have zz2 := Nat.lt_of_lt_of_le hl1 hb2.size)) | (go_at_call 131; with_reducible refine (q3.out _ (by first | assumption | exact below_new (by assumption) _)).mono ?_; rintro e w3 ⟨rfl, hb3⟩; have kb3 := bcell' hb3))
          go_ret
          exact ⟨ret_b (Eq.trans (by first | rfl | (simp [*]; done) | (simp; omega)) (hv0.out.trans hv.out).symm), hBk.out _ (by first | assumption | exact below_new (by assumption) _)⟩
         ·have hv := hide (show restB false false false true (n : Int) lit head name hi lo n = false from by rw [restB]; simp [namedB, e1, e2, e3]; try omega)
          try clear e1
          try clear e2
          try clear e3
          go_wp2_with (first | (go_at_call 67; first | (with_reducible refine (q1.out _ (by assumption)).mono ?_; rintro e w1 ⟨rfl, hb1⟩; have kb1 := bcell' hb1; have zz1 := Nat.lt_of_lt_of_le hl1 hb1.size) | (with_reducible refine (q2.out _ (by assumption)).mono ?_; rintro e w2 ⟨rfl, hb2⟩; have kb2 := bcell' hb2; have zz2 := Nat.lt_of_lt_of_le hl1 hb2.size)) | (go_at_call 131; with_reducible refine (q3.out _ (by first | assumption | exact below_new (by assumption) _)).mono ?_; rintro e w3 ⟨rfl, hb3⟩; have kb3 := bcell' hb3))
          go_ret
          exact ⟨ret_b (Eq.trans (by first | rfl | (simp [*]; done) | (simp; omega)) (hv0.out.trans hv.out).symm), hBk.out _ (by first | assumption | exact below_new (by assumption) _)⟩
        ·have hv := hide (show restB false false false true (n : Int) lit head name hi lo n = false from by rw [restB]; simp [namedB, e1, e2, e3]; try omega)
         try clear e1
         try clear e2
         try clear e3
         go_wp2_with (first | (go_at_call 67; first | (with_reducible refine (q1.out _ (by assumption)).mono ?_; rintro e w1 ⟨rfl, hb1⟩; have kb1 := bcell' hb1; have zz1 := Nat.lt_of_lt_of_le hl1 hb1.size) | (with_reducible refine (q2.out _ (by assumption)).mono ?_; rintro e w2 ⟨rfl, hb2⟩; have kb2 := bcell' hb2; have zz2 := Nat.lt_of_lt_of_le hl1 hb2.size)) | (go_at_call 131; with_reducible refine (q3.out _ (by first | assumption | exact below_new (by assumption) _)).mono ?_; rintro e w3 ⟨rfl, hb3⟩; have kb3 := bcell' hb3))
         go_ret
         exact ⟨ret_b (Eq.trans (by first | rfl | (simp [*]; done) | (simp; omega)) (hv0.out.trans hv.out).symm), hBk.out _ (by first | assumption | exact below_new (by assumption) _)⟩
       ·have hv := hide (show restB false false false true (n : Int) lit head name hi lo n = false from by rw [restB]; simp [namedB, e1, e2, e3]; try omega)
        try clear e1
        try clear e2
        try clear e3
        go_wp2_with (first | (go_at_call 67; first | (with_reducible refine (q1.out _ (by assumption)).mono ?_; rintro e w1 ⟨rfl, hb1⟩; have kb1 := bcell' hb1; have zz1 := Nat.lt_of_lt_of_le hl1 hb1.size) | (with_reducible refine (q2.out _ (by assumption)).mono ?_; rintro e w2 ⟨rfl, hb2⟩; have kb2 := bcell' hb2; have zz2 := Nat.lt_of_lt_of_le hl1 hb2.size)) | (go_at_call 131; with_reducible refine (q3.out _ (by first | assumption | exact below_new (by assumption) _)).mono ?_; rintro e w3 ⟨rfl, hb3⟩; have kb3 := bcell' hb3))
        go_ret
        exact ⟨ret_b (Eq.trans (by first | rfl | (simp [*]; done) | (simp; omega)) (hv0.out.trans hv.out).symm), hBk.out _ (by first | assumption | exact below_new (by assumption) _)⟩
      ·have hv := hide (show restB false false false true (n : Int) lit head name hi lo n = false from by rw [restB]; simp [e3])
       have hyy := hide (fun h => e3 ((zlt_iff lit).2 h))
       by_cases r1 : lit.1 = 0
       ·by_cases r2 : lit.2.1 = 0
        ·by_cases r3 : lit.2.2 = 0
         ·exact absurd ⟨r1, r2, r3⟩ hyy.out
         ·replace r1 := eq_true r1
          replace r2 := eq_true r2
          try clear e1
          try clear e2
          try clear e3
          go_wp2_with (first | (go_at_call 67; first | (with_reducible refine (q1.out _ (by assumption)).mono ?_; rintro e w1 ⟨rfl, hb1⟩; have kb1 := bcell' hb1; have zz1 := Nat.lt_of_lt_of_le hl1 hb1.size) | (with_reducible refine (q2.out _ (by assumption)).mono ?_; rintro e w2 ⟨rfl, hb2⟩; have kb2 := bcell' hb2; have zz2 := Nat.lt_of_lt_of_le hl1 hb2.size)) | (go_at_call 131; with_reducible refine (q3.out _ (by first | assumption | exact below_new (by assumption) _)).mono ?_; rintro e w3 ⟨rfl, hb3⟩; have kb3 := bcell' hb3))
          go_ret
          exact ⟨ret_b (Eq.trans (by first | rfl | (simp [*]; done) | (simp; omega)) (hv0.out.trans hv.out).symm), hBk.out _ (by first | assumption | exact below_new (by assumption) _)⟩
        ·replace r1 := eq_true r1
         try clear e1
         try clear e2
         try clear e3
         go_wp2_with (first | (go_at_call 67; first | (with_reducible refine (q1.out _ (by assumption)).mono ?_; rintro e w1 ⟨rfl, hb1⟩; have kb1 := bcell' hb1; have zz1 := Nat.lt_of_lt_of_le hl1 hb1.size) | (with_reducible refine (q2.out _ (by assumption)).mono ?_; rintro e w2 ⟨rfl, hb2⟩; have kb2 := bcell' hb2; have zz2 := Nat.lt_of_lt_of_le hl1 hb2.size)) | (go_at_call 131; with_reducible refine (q3.out _ (by first | assumption | exact below_new (by assumption) _)).mono ?_; rintro e w3 ⟨rfl, hb3⟩; have kb3 := bcell' hb3))
         go_ret
         exact ⟨ret_b (Eq.trans (by first | rfl | (simp [*]; done) | (simp; omega)) (hv0.out.trans hv.out).symm), hBk.out _ (by first | assumption | exact below_new (by assumption) _)⟩
       ·skip
        try clear e1
        try clear e2
        try clear e3
        go_wp2_with (first | (go_at_call 67; first | (with_reducible refine (q1.out _ (by assumption)).mono ?_; rintro e w1 ⟨rfl, hb1⟩; have kb1 := bcell' hb1; have zz1 := Nat.lt_of_lt_of_le hl1 hb1.size) | (with_reducible refine (q2.out _ (by assumption)).mono ?_; rintro e w2 ⟨rfl, hb2⟩; have kb2 := bcell' hb2; have zz2 := Nat.lt_of_lt_of_le hl1 hb2.size)) | (go_at_call 131; with_reducible refine (q3.out _ (by first | assumption | exact below_new (by assumption) _)).mono ?_; rintro e w3 ⟨rfl, hb3⟩; have kb3 := bcell' hb3))
        go_ret
        exact ⟨ret_b (Eq.trans (by first | rfl | (simp [*]; done) | (simp; omega)) (hv0.out.trans hv.out).symm), hBk.out _ (by first | assumption | exact below_new (by assumption) _)⟩
     ·have t2 : name.toList.isEmpty = false := by rw [Bool.eq_false_iff]; exact fun h => e2 (emp_iff.2 (List.isEmpty_iff.1 h))
      have hv := hide (show restB false false false true (n : Int) lit head name hi lo n = false from by rw [restB]; simp [namedB, e2])
      try clear e1
      try clear e2
      try clear e3
      go_wp2_with (first | (go_at_call 67; first | (with_reducible refine (q1.out _ (by assumption)).mono ?_; rintro e w1 ⟨rfl, hb1⟩; have kb1 := bcell' hb1; have zz1 := Nat.lt_of_lt_of_le hl1 hb1.size) | (with_reducible refine (q2.out _ (by assumption)).mono ?_; rintro e w2 ⟨rfl, hb2⟩; have kb2 := bcell' hb2; have zz2 := Nat.lt_of_lt_of_le hl1 hb2.size)) | (go_at_call 131; with_reducible refine (q3.out _ (by first | assumption | exact below_new (by assumption) _)).mono ?_; rintro e w3 ⟨rfl, hb3⟩; have kb3 := bcell' hb3))
      go_ret
      exact ⟨ret_b (Eq.trans (by first | rfl | (simp [*]; done) | (simp; omega)) (hv0.out.trans hv.out).symm), hBk.out _ (by first | assumption | exact below_new (by assumption) _)⟩
    ·have t1 : head.toList.isEmpty = false := by rw [Bool.eq_false_iff]; exact fun h => e1 (emp_iff.2 (List.isEmpty_iff.1 h))
     have hv := hide (show restB false false false true (n : Int) lit head name hi lo n = false from by rw [restB]; simp [namedB, e1])
     try clear e1
     try clear e2
     try clear e3
     go_wp2_with (first | (go_at_call 67; first | (with_reducible refine (q1.out _ (by assumption)).mono ?_; rintro e w1 ⟨rfl, hb1⟩; have kb1 := bcell' hb1; have zz1 := Nat.lt_of_lt_of_le hl1 hb1.size) | (with_reducible refine (q2.out _ (by assumption)).mono ?_; rintro e w2 ⟨rfl, hb2⟩; have kb2 := bcell' hb2; have zz2 := Nat.lt_of_lt_of_le hl1 hb2.size)) | (go_at_call 131; with_reducible refine (q3.out _ (by first | assumption | exact below_new (by assumption) _)).mono ?_; rintro e w3 ⟨rfl, hb3⟩; have kb3 := bcell' hb3))
     go_ret
     exact ⟨ret_b (Eq.trans (by first | rfl | (simp [*]; done) | (simp; omega)) (hv0.out.trans hv.out).symm), hBk.out _ (by first | assumption | exact below_new (by assumption) _)⟩
   ·have hv := hide (show restB false false false true a lit head name hi lo n = false from by simp [restB, ca])
    have ca' : ((n : Int) == a) = false := beq_eq_false_iff_ne.2 ca
    try clear e1
    try clear e2
    try clear e3
    go_wp2_with (first | (go_at_call 67; first | (with_reducible refine (q1.out _ (by assumption)).mono ?_; rintro e w1 ⟨rfl, hb1⟩; have kb1 := bcell' hb1; have zz1 := Nat.lt_of_lt_of_le hl1 hb1.size) | (with_reducible refine (q2.out _ (by assumption)).mono ?_; rintro e w2 ⟨rfl, hb2⟩; have kb2 := bcell' hb2; have zz2 := Nat.lt_of_lt_of_le hl1 hb2.size)) | (go_at_call 131; with_reducible refine (q3.out _ (by first | assumption | exact below_new (by assumption) _)).mono ?_; rintro e w3 ⟨rfl, hb3⟩; have kb3 := bcell' hb3))
    go_ret
    exact ⟨ret_b (Eq.trans (by first | rfl | (simp [*]; done) | (simp; omega)) (hv0.out.trans hv.out).symm), hBk.out _ (by first | assumption | exact below_new (by assumption) _)⟩
end Go.Proofs.YtcgmkjpgaigmfaaGreat

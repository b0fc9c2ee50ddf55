import Derived.Test.YtcgmkjpgaigmfaaGreatChk31
import Derived.Test.YtcgmkjpgaigmfaaGreatChk11
import Derived.Deep.DeepCutAuto
import Derived.Deep.CutBlock
set_option linter.all false
/-! The document's layer 4: an expression may be; all of a list; one that is nought. -/
namespace Go.Proofs.YtcgmkjpgaigmfaaGreat
open Go.RowKit
theorem cmps_hold : Cmps := fun h1 l1 h2 l2 w a b c d => cmp01_any h1 l1 h2 l2 w a b c d
set_option maxRecDepth 100000 in
set_option maxHeartbeats 400000 in
theorem mayExpr04_any {B : Nat} (e : Ex) (cs : List Value) (w : World) (hB : B ≤ w.heap.size) (he : rEx w B cs e) :
  Calls Tryz.prog 130 #[.agg cs.toArray] w fun r w' => r = .returned (.bool (mayE e)) ∧ Below w.heap.size w w' := by
 have hD0 := fun (W : World) (hb : Below w.heap.size w W) => depth04_any e cs W (sta_ex.more (sta_ex.keep he fun q hq => hb.cell (Nat.lt_of_lt_of_le hq hB)) (Nat.le_trans hB hb.size))
 have hA0 := fun (W : World) (hb : Below w.heap.size w W) => all04_any cmps_hold e cs W (sta_ex.more (sta_ex.keep he fun q hq => hb.cell (Nat.lt_of_lt_of_le hq hB)) (Nat.le_trans hB hb.size))
 have hds := he.2
 obtain ⟨op, lit, head, name, hi, lo, args⟩ := e
 obtain ⟨A, cap, rfl, -, -, -, -, -, -, hs⟩ := RE.inv he
 have hl := hs.len
 obtain ⟨wb, hwb, hsz, hba, hcb, -⟩ := box1 w #[.int .u8 op, .int .i64 lit.1, .int .u64 lit.2.1, .int .u64 lit.2.2, .string head, .string name, .int .i64 hi, .int .i64 lo, .slice A args.length cap] 68
 obtain ⟨y0, y1, y2, y3, y4, y5, y6, y7, y8⟩ := row9 hcb
 have hb0 : Below wb.heap.size wb wb := Below.refl _ _
 have hBk := hide (show ∀ W, Below wb.heap.size wb W → Below w.heap.size w W from fun W hb => hba.trans (hb.mono (by omega)))
 have q1 : Hid (∀ (W : World), Below wb.heap.size wb W → Calls Tryz.prog 167 #[.agg #[.int .u8 op, .int .i64 lit.1, .int .u64 lit.2.1, .int .u64 lit.2.2, .string head, .string name, .int .i64 hi, .int .i64 lo, .slice A args.length cap]] W fun r w' => r = .returned (.int .i64 (depthE (.mk op lit head name hi lo args) : Int)) ∧ Below wb.heap.size wb w') := hide (fun W hb => (hD0 W (hBk.out W hb)).mono fun e w' h => ⟨h.1, hb.trans (h.2.mono hb.size)⟩)
 have q2 : Hid (∀ (W : World), Below wb.heap.size wb W → Calls Tryz.prog 168 #[.agg #[.int .u8 op, .int .i64 lit.1, .int .u64 lit.2.1, .int .u64 lit.2.2, .string head, .string name, .int .i64 hi, .int .i64 lo, .slice A args.length cap]] W fun r w' => r = .returned (.bool (allE (.mk op lit head name hi lo args))) ∧ Below wb.heap.size wb w') := hide (fun W hb => (hA0 W (hBk.out W hb)).mono fun e w' h => ⟨h.1, hb.trans (h.2.mono hb.size)⟩)
 have hv : mayE (.mk op lit head name hi lo args) = (decide (depthE (.mk op lit head name hi lo args) ≤ 16) && allE (.mk op lit head name hi lo args)) := rfl
 rw [hv]
 generalize depthE (.mk op lit head name hi lo args) = d at q1 hds ⊢
 generalize allE (.mk op lit head name hi lo args) = z at q2 ⊢
 show Calls _ _ #[.agg #[.int .u8 op, .int .i64 lit.1, .int .u64 lit.2.1, .int .u64 lit.2.2, .string head, .string name, .int .i64 hi, .int .i64 lo, .slice A args.length cap]] _ _
 clear hD0 hA0 he hs hcb hba hv
 by_cases hd : d ≤ 16
 ·rw [decide_eq_true hd]
  have hdz : (d : Int) ≤ 16 := by omega
  go_enter Tryz.func130, Tryz.ntmps130
  go_wp2_with (first | (go_at_call 167; refine (q1.out _ (by assumption)).mono ?_; rintro e w1 ⟨rfl, hb1⟩; have kb1 := bcell' hb1) | (go_at_call 168; refine (q2.out _ (by assumption)).mono ?_; rintro e w2 ⟨rfl, hb2⟩))
  go_ret
  exact ⟨ret_b (by simp), hBk.out _ (by assumption)⟩
 ·rw [decide_eq_false hd]
  have hdz : ¬ (d : Int) ≤ 16 := by omega
  go_enter Tryz.func130, Tryz.ntmps130
  go_wp2_with (first | (go_at_call 167; refine (q1.out _ (by assumption)).mono ?_; rintro e w1 ⟨rfl, hb1⟩; have kb1 := bcell' hb1) | (go_at_call 168; refine (q2.out _ (by assumption)).mono ?_; rintro e w2 ⟨rfl, hb2⟩))
  go_ret
  exact ⟨ret_b (by simp), hBk.out _ (by assumption)⟩
set_option maxRecDepth 100000 in
set_option maxHeartbeats 400000 in
theorem exprs04_any {B : Nat} (l : List Ex) (A : Option Addr) (cap : Nat) (w : World) (hB : B ≤ w.heap.size) (h : Sl 9 rEx w B A l) :
  Calls Tryz.prog 127 #[.slice A l.length cap] w fun e w' => e = .returned (.bool (l.all mayE)) ∧ Below w.heap.size w w' := by
 have hl := h.len
 have hS := hide h
 clear h
 go_enter Tryz.func127, Tryz.ntmps127
 go_wp2
 go_loopw [3] (fun i wr => ∃ k : Nat, k ≤ l.length ∧ i = .int .i64 k ∧ Hid ((l.take k).all mayE = true) ∧ Hid (Below w.heap.size w wr)) (fun i _ => l.length - (intOf i).toNat)
 case atStart => exact ⟨0, Nat.zero_le _, rfl, hide (by simp), hide (Below.refl _ _)⟩
 case round =>
  obtain ⟨k, hk, rfl, hq, hbr⟩ := hrel
  have hc := bcell' hbr.out
  have hzr := hbr.out.size
  by_cases hlt : k < l.length
  ·obtain ⟨b, o, ecs, hA, hb, hel, hcell, hr⟩ := hS.out.2 k _ (List.getElem?_eq_getElem hlt)
   subst hA
   have hltz : (k : Int) < (l.length : Int) := by omega
   have hbw : b < w.heap.size := by omega
   have hcall := fun cs (hcs : rEx w B cs l[k]) => mayExpr04_any l[k] cs wr (Nat.le_trans hB hzr) (sta_ex.keep hcs fun q hq => hbr.out.cell (Nat.lt_of_lt_of_le hq hB))
   have hnx := fun h => all_next (p := mayE) hlt hq.out h
   have hst := fun h => all_stop (p := mayE) hlt h
   have hre := hr
   generalize l[k] = x at hr hre hcall hnx hst
   obtain ⟨xop, xlit, xhead, xname, xhi, xlo, xargs⟩ := x
   obtain ⟨XA, xcap, rfl, -, -, -, -, -, -, xs⟩ := RE.inv hr
   have hla2 := xs.len
   obtain ⟨x0, x1, x2, x3, x4, x5, x6, x7, x8⟩ := srow9 hcell
   have hX : Calls Tryz.prog 130 #[.agg #[.int .u8 xop, .int .i64 xlit.1, .int .u64 xlit.2.1, .int .u64 xlit.2.2, .string xhead, .string xname, .int .i64 xhi, .int .i64 xlo, .slice XA xargs.length xcap]] wr fun r w' => r = .returned (.bool (mayE (.mk xop xlit xhead xname xhi xlo xargs))) ∧ Below wr.heap.size wr w' := hcall _ hre
   clear hcell hr hre hcall xs
   generalize mayE (.mk xop xlit xhead xname xhi xlo xargs) = z at hX hnx hst
   cases z with
   | false =>
    have hr := hide (hst rfl)
    clear hnx hst
    go_wp2_with (go_at_call 130; refine hX.mono ?_; rintro e w1 ⟨rfl, hb1⟩)
    go_ret
    exact ⟨ret_b hr.out.symm, hbr.out.trans (hb1.mono hzr)⟩
   | true =>
    have hr := hide (hnx rfl)
    clear hnx hst
    go_wp2_with (go_at_call 130; refine hX.mono ?_; rintro e w1 ⟨rfl, hb1⟩)
    go_roundw
    case rel => exact ⟨k + 1, by omega, by go_num, hr, hide (hbr.out.trans (hb1.mono hzr))⟩
    case measure => simp [intOf]; omega
  ·go_wp2
   go_ret
   exact ⟨ret_b (all_end hq.out hlt).symm, hbr.out⟩
set_option maxHeartbeats 400000 in
theorem sameExprs0_any (A : Option Addr) (cap : Nat) (w : World) : Calls Tryz.prog 182 #[.slice A 0 cap, .slice none 0 0] w fun r w' => r = .returned (.bool true) ∧ w = w' := by
 go_enter Tryz.func182, Tryz.ntmps182
 go_wp2
 go_loopw [5] (fun i wr => i = .int .i64 0 ∧ wr = w) (fun i _ => 0)
 case atStart => exact ⟨rfl, rfl⟩
 case round =>
  obtain ⟨rfl, rfl⟩ := hrel
  go_wp2
  go_ret
  exact ⟨rfl, rfl⟩
set_option maxRecDepth 100000 in
set_option maxHeartbeats 1000000 in
theorem same04_nil (lit : Lt) (head name : ByteArray) (hi lo : Int) (A : Option Addr) (cap : Nat) (w : World) :
  Calls Tryz.prog 166 #[.agg #[.int .u8 0, .int .i64 lit.1, .int .u64 lit.2.1, .int .u64 lit.2.2, .string head, .string name, .int .i64 hi, .int .i64 lo, .slice A 0 cap], .agg #[.int .u8 0, .int .i64 0, .int .u64 0, .int .u64 0, .string (ByteArray.mk #[]), .string (ByteArray.mk #[]), .int .i64 0, .int .i64 0, .slice none 0 0]] w fun r w' => r = .returned (.bool (decide (lit = zLt) && (decide (head = strE) && (decide (name = strE) && (decide (hi = 0) && decide (lo = 0)))))) ∧ Below w.heap.size w w' := by
 obtain ⟨wa, hwa, hsa, hba, hca, -⟩ := box1 w #[.int .u8 0, .int .i64 lit.1, .int .u64 lit.2.1, .int .u64 lit.2.2, .string head, .string name, .int .i64 hi, .int .i64 lo, .slice A 0 cap] 68
 obtain ⟨wb, hwb, hsb, hbb, hcb, -⟩ := box1 wa #[.int .u8 0, .int .i64 0, .int .u64 0, .int .u64 0, .string (ByteArray.mk #[]), .string (ByteArray.mk #[]), .int .i64 0, .int .i64 0, .slice none 0 0] 68
 have y0 : wb.cell? ⟨w.heap.size, 0, none⟩ = some (.int .u8 0) := (hbb.cell (p := ⟨w.heap.size, 0, none⟩) (by show w.heap.size < _; omega)).trans (hca 0)
 have y1 : wb.cell? ⟨w.heap.size, 1, none⟩ = some (.int .i64 lit.1) := (hbb.cell (p := ⟨w.heap.size, 1, none⟩) (by show w.heap.size < _; omega)).trans (hca 1)
 have y2 : wb.cell? ⟨w.heap.size, 2, none⟩ = some (.int .u64 lit.2.1) := (hbb.cell (p := ⟨w.heap.size, 2, none⟩) (by show w.heap.size < _; omega)).trans (hca 2)
 have y3 : wb.cell? ⟨w.heap.size, 3, none⟩ = some (.int .u64 lit.2.2) := (hbb.cell (p := ⟨w.heap.size, 3, none⟩) (by show w.heap.size < _; omega)).trans (hca 3)
 have y4 : wb.cell? ⟨w.heap.size, 4, none⟩ = some (.string head) := (hbb.cell (p := ⟨w.heap.size, 4, none⟩) (by show w.heap.size < _; omega)).trans (hca 4)
 have y5 : wb.cell? ⟨w.heap.size, 5, none⟩ = some (.string name) := (hbb.cell (p := ⟨w.heap.size, 5, none⟩) (by show w.heap.size < _; omega)).trans (hca 5)
 have y6 : wb.cell? ⟨w.heap.size, 6, none⟩ = some (.int .i64 hi) := (hbb.cell (p := ⟨w.heap.size, 6, none⟩) (by show w.heap.size < _; omega)).trans (hca 6)
 have y7 : wb.cell? ⟨w.heap.size, 7, none⟩ = some (.int .i64 lo) := (hbb.cell (p := ⟨w.heap.size, 7, none⟩) (by show w.heap.size < _; omega)).trans (hca 7)
 have y8 : wb.cell? ⟨w.heap.size, 8, none⟩ = some (.slice A 0 cap) := (hbb.cell (p := ⟨w.heap.size, 8, none⟩) (by show w.heap.size < _; omega)).trans (hca 8)
 have z0 : wb.cell? ⟨w.heap.size + 1, 0, none⟩ = some (.int .u8 0) := by rw [← hsa]; exact hcb 0
 have z1 : wb.cell? ⟨w.heap.size + 1, 1, none⟩ = some (.int .i64 0) := by rw [← hsa]; exact hcb 1
 have z2 : wb.cell? ⟨w.heap.size + 1, 2, none⟩ = some (.int .u64 0) := by rw [← hsa]; exact hcb 2
 have z3 : wb.cell? ⟨w.heap.size + 1, 3, none⟩ = some (.int .u64 0) := by rw [← hsa]; exact hcb 3
 have z4 : wb.cell? ⟨w.heap.size + 1, 4, none⟩ = some (.string (ByteArray.mk #[])) := by rw [← hsa]; exact hcb 4
 have z5 : wb.cell? ⟨w.heap.size + 1, 5, none⟩ = some (.string (ByteArray.mk #[])) := by rw [← hsa]; exact hcb 5
 have z6 : wb.cell? ⟨w.heap.size + 1, 6, none⟩ = some (.int .i64 0) := by rw [← hsa]; exact hcb 6
 have z7 : wb.cell? ⟨w.heap.size + 1, 7, none⟩ = some (.int .i64 0) := by rw [← hsa]; exact hcb 7
 have z8 : wb.cell? ⟨w.heap.size + 1, 8, none⟩ = some (.slice none 0 0) := by rw [← hsa]; exact hcb 8
 have hw := hide (hba.trans (hbb.mono (by omega)))
 clear hca hcb hba hbb
 by_cases e3 : lit = zLt
 ·rw [decide_eq_true e3]
  obtain ⟨r1, r2, r3⟩ := (zlt_iff lit).1 e3
  replace r1 := eq_true r1
  replace r2 := eq_true r2
  replace r3 := eq_true r3
  clear e3
  by_cases e1 : head = strE
  ·rw [decide_eq_true e1]
   have t1 : head.toList.isEmpty = true := by rw [emp_iff.1 e1]; rfl
   have t1' := emp_iff.1 e1
   clear e1
   by_cases e2 : name = strE
   ·rw [decide_eq_true e2]
    have t2 : name.toList.isEmpty = true := by rw [emp_iff.1 e2]; rfl
    have t2' := emp_iff.1 e2
    clear e2
    by_cases e4 : hi = 0
    ·rw [decide_eq_true e4]
     by_cases e5 : lo = 0
     ·rw [decide_eq_true e5]
      subst e4 e5
      go_enter Tryz.func166, Tryz.ntmps166
      go_wp2_with (go_at_call 182; refine (sameExprs0_any _ _ _).mono ?_; rintro e w1 ⟨rfl, rfl⟩)
      go_ret
      exact ⟨rfl, hw.out⟩
     ·rw [decide_eq_false e5]
      subst e4
      go_enter Tryz.func166, Tryz.ntmps166
      go_wp2_with (go_at_call 182; refine (sameExprs0_any _ _ _).mono ?_; rintro e w1 ⟨rfl, rfl⟩)
      go_ret
      exact ⟨rfl, hw.out⟩
    ·rw [decide_eq_false e4]
     go_enter Tryz.func166, Tryz.ntmps166
     go_wp2_with (go_at_call 182; refine (sameExprs0_any _ _ _).mono ?_; rintro e w1 ⟨rfl, rfl⟩)
     go_ret
     exact ⟨rfl, hw.out⟩
   ·rw [decide_eq_false e2]
    have t2 : name.toList.isEmpty = false := by rw [Bool.eq_false_iff]; exact fun h => e2 (emp_iff.2 (List.isEmpty_iff.1 h))
    clear e2
    go_enter Tryz.func166, Tryz.ntmps166
    go_wp2_with (go_at_call 182; refine (sameExprs0_any _ _ _).mono ?_; rintro e w1 ⟨rfl, rfl⟩)
    go_ret
    exact ⟨rfl, hw.out⟩
  ·rw [decide_eq_false e1]
   have t1 : head.toList.isEmpty = false := by rw [Bool.eq_false_iff]; exact fun h => e1 (emp_iff.2 (List.isEmpty_iff.1 h))
   clear e1
   go_enter Tryz.func166, Tryz.ntmps166
   go_wp2_with (go_at_call 182; refine (sameExprs0_any _ _ _).mono ?_; rintro e w1 ⟨rfl, rfl⟩)
   go_ret
   exact ⟨rfl, hw.out⟩
 ·rw [decide_eq_false e3]
  have hyy := hide (fun h => e3 ((zlt_iff lit).2 h))
  clear e3
  by_cases r1 : lit.1 = 0
  ·by_cases r2 : lit.2.1 = 0
   ·by_cases r3 : lit.2.2 = 0
    ·exact absurd ⟨r1, r2, r3⟩ hyy.out
    ·replace r1 := eq_true r1
     replace r2 := eq_true r2
     go_enter Tryz.func166, Tryz.ntmps166
     go_wp2_with (go_at_call 182; refine (sameExprs0_any _ _ _).mono ?_; rintro e w1 ⟨rfl, rfl⟩)
     go_ret
     exact ⟨rfl, hw.out⟩
   ·replace r1 := eq_true r1
    go_enter Tryz.func166, Tryz.ntmps166
    go_wp2_with (go_at_call 182; refine (sameExprs0_any _ _ _).mono ?_; rintro e w1 ⟨rfl, rfl⟩)
    go_ret
    exact ⟨rfl, hw.out⟩
  ·skip
   go_enter Tryz.func166, Tryz.ntmps166
   go_wp2_with (go_at_call 182; refine (sameExprs0_any _ _ _).mono ?_; rintro e w1 ⟨rfl, rfl⟩)
   go_ret
   exact ⟨rfl, hw.out⟩
end Go.Proofs.YtcgmkjpgaigmfaaGreat
/-! The document's layer 4: a set may be. -/
namespace Go.Proofs.YtcgmkjpgaigmfaaGreat
open Go.RowKit
set_option maxRecDepth 100000 in
set_option maxHeartbeats 4000000 in
theorem maySet04_any (s : Se) (w : World) (hk : u8 s.kind) (hv : okLt s.v) (hm : okLt s.m) :
  Calls Tryz.prog 128 #[.agg #[.int .u8 s.kind, .int .i64 s.v.1, .int .u64 s.v.2.1, .int .u64 s.v.2.2, .int .i64 s.m.1, .int .u64 s.m.2.1, .int .u64 s.m.2.2]] w fun e w' => e = .returned (.bool (seB s)) ∧ Below w.heap.size w w' := by
 obtain ⟨kind, v, m⟩ := s
 show Calls _ _ #[.agg #[.int .u8 kind, .int .i64 v.1, .int .u64 v.2.1, .int .u64 v.2.2, .int .i64 m.1, .int .u64 m.2.1, .int .u64 m.2.2]] _ _
 replace hv : okLt v := hv
 replace hm : okLt m := hm
 obtain ⟨wa, hwa, hsa, hba, hca, -⟩ := box1 w #[.int .u8 kind, .int .i64 v.1, .int .u64 v.2.1, .int .u64 v.2.2, .int .i64 m.1, .int .u64 m.2.1, .int .u64 m.2.2] 135
 obtain ⟨x0, x1, x2, x3, x4, x5, x6⟩ := row7 hca
 have hw := hide (hba.alloc (show w.heap.size ≤ wa.heap.size by omega) (.cells #[.int .i64 0, .int .u64 0, .int .u64 0] 66))
 clear hca hba
 -- a number is nought, or not
 have zero_ : ∀ l : Lt, l = zLt → (l.1 = 0) = True ∧ (l.2.1 = 0) = True ∧ (l.2.2 = 0) = True := fun l h => by rw [zlt_iff] at h; exact ⟨eq_true h.1, eq_true h.2.1, eq_true h.2.2⟩
 have zz := hide zero_
 clear zero_
 by_cases k1 : kind = 1
 ·subst k1
  have hs : seB ⟨1, v, m⟩ = (decide (v = zLt) && decide (m = zLt)) := rfl
  by_cases hz : v = zLt
  ·obtain ⟨p1, p2, p3⟩ := zz.out v hz
   by_cases hy : m = zLt
   ·obtain ⟨r1, r2, r3⟩ := zz.out m hy
    have hvv := hide (show seB ⟨1, v, m⟩ = true from by rw [hs, decide_eq_true hz, decide_eq_true hy]; rfl)
    clear hs hz hy
    go_enter Tryz.func128, Tryz.ntmps128
    go_wp2
    go_ret
    exact ⟨ret_b hvv.out.symm, hw.out⟩
   ·have hvv := hide (show seB ⟨1, v, m⟩ = false from by rw [hs, decide_eq_false hy]; simp)
    have hyy := hide (fun h => hy ((zlt_iff m).2 h))
    clear hs hz hy
    by_cases r1 : m.1 = 0
    ·by_cases r2 : m.2.1 = 0
     ·by_cases r3 : m.2.2 = 0
      ·exact absurd ⟨r1, r2, r3⟩ hyy.out
      ·replace r1 := eq_true r1
       replace r2 := eq_true r2
       go_enter Tryz.func128, Tryz.ntmps128
       go_wp2
       go_ret
       exact ⟨ret_b hvv.out.symm, hw.out⟩
     ·replace r1 := eq_true r1
      go_enter Tryz.func128, Tryz.ntmps128
      go_wp2
      go_ret
      exact ⟨ret_b hvv.out.symm, hw.out⟩
    ·go_enter Tryz.func128, Tryz.ntmps128
     go_wp2
     go_ret
     exact ⟨ret_b hvv.out.symm, hw.out⟩
  ·have hvv := hide (show seB ⟨1, v, m⟩ = false from by rw [hs, decide_eq_false hz]; rfl)
   have hyy := hide (fun h => hz ((zlt_iff v).2 h))
   clear hs hz
   by_cases r1 : v.1 = 0
   ·by_cases r2 : v.2.1 = 0
    ·by_cases r3 : v.2.2 = 0
     ·exact absurd ⟨r1, r2, r3⟩ hyy.out
     ·replace r1 := eq_true r1
      replace r2 := eq_true r2
      go_enter Tryz.func128, Tryz.ntmps128
      go_wp2
      go_ret
      exact ⟨ret_b hvv.out.symm, hw.out⟩
    ·replace r1 := eq_true r1
     go_enter Tryz.func128, Tryz.ntmps128
     go_wp2
     go_ret
     exact ⟨ret_b hvv.out.symm, hw.out⟩
   ·go_enter Tryz.func128, Tryz.ntmps128
    go_wp2
    go_ret
    exact ⟨ret_b hvv.out.symm, hw.out⟩
 ·have hLa := fun W => mayLit04_any v W hv
  by_cases k2 : kind = 2
  ·subst k2
   have hs : seB ⟨2, v, m⟩ = (litB v && decide (m = zLt)) := rfl
   cases hb : litB v with
   | false =>
    rw [hb] at hLa
    have hLv := hide hLa
    have hvv := hide (show seB ⟨2, v, m⟩ = false from by rw [hs, hb]; rfl)
    clear hs hb k1 hLa
    go_enter Tryz.func128, Tryz.ntmps128
    go_wp2_with (go_at_call 131; refine (hLv.out _).mono ?_; rintro e w1 ⟨rfl, hb1⟩; have hc1 := bcell hb1)
    go_ret
    exact ⟨ret_b hvv.out.symm, hw.out.trans (hb1.mono (by simp; omega))⟩
   | true =>
    rw [hb] at hLa
    have hLv := hide hLa
    clear hLa k1
    by_cases hy : m = zLt
    ·obtain ⟨r1, r2, r3⟩ := zz.out m hy
     have hvv := hide (show seB ⟨2, v, m⟩ = true from by rw [hs, hb, decide_eq_true hy]; rfl)
     clear hs hb hy
     go_enter Tryz.func128, Tryz.ntmps128
     go_wp2_with (go_at_call 131; refine (hLv.out _).mono ?_; rintro e w1 ⟨rfl, hb1⟩; have hc1 := bcell hb1)
     go_ret
     exact ⟨ret_b hvv.out.symm, hw.out.trans (hb1.mono (by simp; omega))⟩
    ·have hvv := hide (show seB ⟨2, v, m⟩ = false from by rw [hs, decide_eq_false hy]; simp)
     clear hb
     have hyy := hide (fun h => hy ((zlt_iff m).2 h))
     clear hs hy
     by_cases r1 : m.1 = 0
     ·by_cases r2 : m.2.1 = 0
      ·by_cases r3 : m.2.2 = 0
       ·exact absurd ⟨r1, r2, r3⟩ hyy.out
       ·replace r1 := eq_true r1
        replace r2 := eq_true r2
        go_enter Tryz.func128, Tryz.ntmps128
        go_wp2_with (go_at_call 131; refine (hLv.out _).mono ?_; rintro e w1 ⟨rfl, hb1⟩; have hc1 := bcell hb1)
        go_ret
        exact ⟨ret_b hvv.out.symm, hw.out.trans (hb1.mono (by simp; omega))⟩
      ·replace r1 := eq_true r1
       go_enter Tryz.func128, Tryz.ntmps128
       go_wp2_with (go_at_call 131; refine (hLv.out _).mono ?_; rintro e w1 ⟨rfl, hb1⟩; have hc1 := bcell hb1)
       go_ret
       exact ⟨ret_b hvv.out.symm, hw.out.trans (hb1.mono (by simp; omega))⟩
     ·go_enter Tryz.func128, Tryz.ntmps128
      go_wp2_with (go_at_call 131; refine (hLv.out _).mono ?_; rintro e w1 ⟨rfl, hb1⟩; have hc1 := bcell hb1)
      go_ret
      exact ⟨ret_b hvv.out.symm, hw.out.trans (hb1.mono (by simp; omega))⟩
  ·by_cases k3 : kind = 3
   ·subst k3
    have hs : seB ⟨3, v, m⟩ = (litB v && litB m) := rfl
    have hMa := fun W => mayLit04_any m W hm
    cases hb : litB v with
    | false =>
     rw [hb] at hLa
     have hLv := hide hLa
     have hvv := hide (show seB ⟨3, v, m⟩ = false from by rw [hs, hb]; rfl)
     clear hs hb k1 k2 hLa hMa
     go_enter Tryz.func128, Tryz.ntmps128
     go_wp2_with (go_at_call 131; refine (hLv.out _).mono ?_; rintro e w1 ⟨rfl, hb1⟩; have hc1 := bcell hb1)
     go_ret
     exact ⟨ret_b hvv.out.symm, hw.out.trans (hb1.mono (by simp; omega))⟩
    | true =>
     rw [hb] at hLa
     have hLv := hide hLa
     have hLm := hide hMa
     have hvv := hide (show seB ⟨3, v, m⟩ = litB m from by rw [hs, hb]; rfl)
     clear hs hb k1 k2 hLa hMa
     generalize litB m = z at hvv hLm
     go_enter Tryz.func128, Tryz.ntmps128
     go_wp2_with fail
     refine (hLv.out _).mono ?_
     rintro e w1 ⟨rfl, hb1⟩
     have hc1 := bcell hb1
     go_wp2_with fail
     refine (hLm.out _).mono ?_
     rintro e w2 ⟨rfl, hb2⟩
     go_wp2
     go_ret
     exact ⟨ret_b hvv.out.symm, (hw.out.trans (hb1.mono (by simp; omega))).trans (hb2.mono (by have := hb1.size; simp at this; omega))⟩
   ·have hvv := hide (show seB ⟨kind, v, m⟩ = false from by unfold seB; rw [if_neg k1, if_neg k2, if_neg k3])
    clear hLa
    go_enter Tryz.func128, Tryz.ntmps128
    go_wp2
    go_ret
    exact ⟨ret_b hvv.out.symm, hw.out⟩
end Go.Proofs.YtcgmkjpgaigmfaaGreat
/-! Printed by gen_st4.py. The document's layer 4: blocks, statements. -/
namespace Go.Proofs.YtcgmkjpgaigmfaaGreat
open Go.RowKit
def MaySt4 (B : Nat) (s : St) : Prop := ∀ (cs : List Value) (w : World) (deep : Nat), deep ≤ 8 → B ≤ w.heap.size → rSt w B cs s →
 Calls Tryz.prog 129 #[.agg cs.toArray, .int .i64 (deep : Int)] w fun r w' => r = .returned (.bool (mayS s deep)) ∧ Below w.heap.size w w'
set_option maxRecDepth 100000 in
set_option maxHeartbeats 400000 in
theorem mayb4_of {B : Nat} (l : List St) (ih : ∀ x ∈ l, MaySt4 B x) (A : Option Addr) (cap : Nat) (w : World) (deep : Nat) (hd : deep ≤ 9) (hB : B ≤ w.heap.size) (h : Sl 14 rSt w B A l) :
  Calls Tryz.prog 70 #[.slice A l.length cap, .int .i64 (deep : Int)] w fun r w' => r = .returned (.bool (mayBlk l deep)) ∧ Below w.heap.size w w' := by
 have hl := h.len
 have hS := hide h
 have hm : mayBlk l deep = (decide (l.length = 0) || (decide (deep ≤ 8) && decide (l.length ≤ 32) && l.all fun s => mayS s deep)) := by
  unfold mayBlk
  rw [mayL_all]
  cases l <;> simp
 replace ih := hide ih
 clear h
 by_cases h32 : l.length ≤ 32
 ·have h3z : (l.length : Int) ≤ 32 := by omega
  by_cases hn : l.length = 0
  ·have hv := hide (hm.trans (by simp [hn]) : mayBlk l deep = true)
   have hnz : ¬ (0 : Int) < (l.length : Int) := by omega
   clear hm hn
   go_enter Tryz.func70, Tryz.ntmps70
   go_wp2
   go_loopw [5] (fun i wr => i = .int .i64 0 ∧ wr = w) (fun i _ => 0)
   case atStart => exact ⟨rfl, rfl⟩
   case round =>
    obtain ⟨rfl, rfl⟩ := hrel
    go_wp2
    go_ret
    exact ⟨ret_b hv.out.symm, Below.refl _ _⟩
  ·have hnz : (0 : Int) < (l.length : Int) := by omega
   by_cases hd8 : deep ≤ 8
   ·have hdz : (deep : Int) ≤ 8 := by omega
    have hv := hide (hm.trans (by simp [hn, hd8, h32]) : mayBlk l deep = l.all fun s => mayS s deep)
    clear hm hn
    go_enter Tryz.func70, Tryz.ntmps70
    go_wp2
    go_loopw [5] (fun i wr => ∃ k : Nat, k ≤ l.length ∧ i = .int .i64 k ∧ Hid ((l.take k).all (fun s => mayS s deep) = true) ∧ Hid (Below w.heap.size w wr)) (fun i _ => l.length - (intOf i).toNat)
    case atStart => exact ⟨0, Nat.zero_le _, rfl, hide (by simp), hide (Below.refl _ _)⟩
    case round =>
     obtain ⟨k, hk, rfl, hq, hbr⟩ := hrel
     have hc := bcell' hbr.out
     have hzr := hbr.out.size
     by_cases hlt : k < l.length
     ·obtain ⟨b, o, ecs, hA, hb, hel, hcell, hr⟩ := hS.out.2 k _ (List.getElem?_eq_getElem hlt)
      subst hA
      have hltz : (k : Int) < (l.length : Int) := by omega
      have hbw : b < w.heap.size := by omega
      obtain ⟨a0, a1, a2, a3, a4, a5, a6, a7, a8, a9, a10, a11, a12, a13, rfl⟩ := len14 hel
      obtain ⟨x0, x1, x2, x3, x4, x5, x6, x7, x8, x9, x10, x11, x12, x13⟩ := srow14 hcell
      have hX : Calls Tryz.prog 129 #[.agg #[a0, a1, a2, a3, a4, a5, a6, a7, a8, a9, a10, a11, a12, a13], .int .i64 (deep : Int)] wr fun r w' => r = .returned (.bool (mayS l[k] deep)) ∧ Below wr.heap.size wr w' := ih.out _ (List.getElem_mem hlt) [a0, a1, a2, a3, a4, a5, a6, a7, a8, a9, a10, a11, a12, a13] wr deep hd8 (Nat.le_trans hB hzr) (sta_st.keep hr fun q hq => hbr.out.cell (Nat.lt_of_lt_of_le hq hB))
      have hnx := fun h => all_next (p := fun s => mayS s deep) hlt hq.out h
      have hst := fun h => all_stop (p := fun s => mayS s deep) hlt h
      clear hcell hr
      generalize mayS l[k] deep = z at hX hnx hst
      cases z with
      | false =>
       have hres := hide (hst rfl)
       clear hnx hst
       go_wp2_with (go_at_call 129; refine hX.mono ?_; rintro e w2 ⟨rfl, hb2⟩)
       go_ret
       exact ⟨ret_b (hv.out.trans hres.out).symm, hbr.out.trans (hb2.mono hzr)⟩
      | true =>
       have hres := hide (hnx rfl)
       clear hnx hst
       go_wp2_with (go_at_call 129; refine hX.mono ?_; rintro e w2 ⟨rfl, hb2⟩)
       go_roundw
       case rel => exact ⟨k + 1, by omega, by go_num, hres, hide (hbr.out.trans (hb2.mono hzr))⟩
       case measure => simp [intOf]; omega
     ·have hres := hide (all_end hq.out hlt)
      go_wp2
      go_ret
      exact ⟨ret_b (hv.out.trans hres.out).symm, hbr.out⟩
   ·have hdz : ¬ (deep : Int) ≤ 8 := by omega
    have hdz' : (8 : Int) < (deep : Int) := by omega
    have hv := hide (hm.trans (by simp [hn, hd8]) : mayBlk l deep = false)
    clear hm hn
    go_enter Tryz.func70, Tryz.ntmps70
    go_wp2
    go_ret
    exact ⟨ret_b hv.out.symm, Below.refl _ _⟩
 ·have h3z : ¬ (l.length : Int) ≤ 32 := by omega
  have h3z' : (32 : Int) < (l.length : Int) := by omega
  have hv := hide (hm.trans (by simp [h32]; intro h; rw [h] at h32; simp at h32) : mayBlk l deep = false)
  clear hm
  go_enter Tryz.func70, Tryz.ntmps70
  go_wp2
  go_ret
  exact ⟨ret_b hv.out.symm, Below.refl _ _⟩
end Go.Proofs.YtcgmkjpgaigmfaaGreat

import Derived.Test.YtcgmkjpgaigmfaaGreatChk38
import Derived.Test.YtcgmkjpgaigmfaaGreatChk16
set_option linter.all false
/-! Printed by gen_r7f.py. The document's layer 7: stmt. -/
namespace Go.Proofs.YtcgmkjpgaigmfaaGreat
open Go.RowKit
def stmtB (p : Pg) (act : Int) : St → Bool
 | .mk kind head name e _ _ =>
  if kind = 3 then decide (0 ≤ tableI p name)
  else if kind = 6 ∨ kind = 7 then decide (0 ≤ headerI p head)
  else if kind = 4 then true
  else if kind = 1 then (if head = strE then decide (0 ≤ metaI p name) else decide (0 ≤ fieldI p (headerI p head) name)) && thereE p act e
  else thereE p act e
theorem is_not (b : Bool) : isI (!b) 7 = if b then 0 else 7 := by cases b <;> rfl
theorem dec_lt {n : Int} : decide (n < 0) = !decide (0 ≤ n) := by
 by_cases h : 0 ≤ n
 ·rw [decide_eq_true h, decide_eq_false (by omega)]; rfl
 ·rw [decide_eq_false h, decide_eq_true (by omega)]; rfl
theorem stmtI_is (p : Pg) (act : Int) (kind : Int) (head name : ByteArray) (e : Ex) (thn els : List St) :
  stmtI p act (.mk kind head name e thn els) = if kind = 3 ∧ 0 ≤ act then 9 else isI (!stmtB p act (.mk kind head name e thn els)) 7 := by
 by_cases h3 : kind = 3
 ·subst h3
  by_cases ha : 0 ≤ act
  ·simp [stmtI, eitherI, isI, ha]
  ·simp [stmtI, stmtB, eitherI, isI, ha, dec_lt]
 ·by_cases h67 : kind = 6 ∨ kind = 7
  ·simp [stmtI, stmtB, h3, h67, dec_lt]
  ·by_cases h4 : kind = 4
   ·simp [stmtI, stmtB, h4, isI]
   ·by_cases h1 : kind = 1
    ·subst h1
     by_cases hh : head = strE
     ·cases hd : decide (0 ≤ metaI p name) <;> simp [stmtI, stmtB, hh, dec_lt, hd, eitherI, isI, namesI]
     ·cases hd : decide (0 ≤ fieldI p (headerI p head) name) <;> simp [stmtI, stmtB, hh, dec_lt, hd, eitherI, isI, namesI]
    ·simp [stmtI, stmtB, h3, h67, h4, h1, namesI]
set_option maxRecDepth 100000 in
set_option maxHeartbeats 4000000 in
theorem stmt07_any (A1 A2 A3 A4 A5 A6 A7 : Option Addr) (p : Pg) (c1 c2 c3 c4 c5 c6 c7 : Nat) (act : Int) (B : Nat) (s : St) (cs : List Value) (w : World) (hB : B ≤ w.heap.size) (hP : PgS w B A1 A2 A3 A4 A5 A6 A7 p) (h : rSt w B cs s) :
  Calls Tryz.prog 77 #[.agg #[.slice A1 p.headers.length c1, .slice A2 p.metas.length c2, .slice A3 p.states.length c3, .slice A4 p.actions.length c4, .slice A5 p.tables.length c5, .slice A6 p.control.length c6, .slice A7 p.emit.length c7], .int .i64 act, .agg cs.toArray] w fun r w' => r = .returned (.bool (stmtB p act s)) ∧ Below w.heap.size w w' := by
 obtain ⟨kind, head, name, e, thn, els⟩ := s
 obtain ⟨es, A, cap, A', cap', rfl, -, -, -, he, hT, hE⟩ := RS.inv h
 have l1 := hT.len
 have l2 := hE.len
 obtain ⟨op, lit, ehead, ename, hi, lo, args⟩ := e
 have he' := he
 obtain ⟨Ae, ecap, rfl, -, -, -, -, -, -, hs⟩ := RE.inv he'
 have l3 := hs.len
 show Calls _ _ #[.agg #[.slice A1 p.headers.length c1, .slice A2 p.metas.length c2, .slice A3 p.states.length c3, .slice A4 p.actions.length c4, .slice A5 p.tables.length c5, .slice A6 p.control.length c6, .slice A7 p.emit.length c7], .int .i64 act, .agg #[.int .u8 kind, .string head, .string name, .int .u8 op, .int .i64 lit.1, .int .u64 lit.2.1, .int .u64 lit.2.2, .string ehead, .string ename, .int .i64 hi, .int .i64 lo, .slice Ae args.length ecap, .slice A thn.length cap, .slice A' els.length cap']] _ _
 obtain ⟨wa, hwa, hsa, hba, hca, -⟩ := box1 w #[.slice A1 p.headers.length c1, .slice A2 p.metas.length c2, .slice A3 p.states.length c3, .slice A4 p.actions.length c4, .slice A5 p.tables.length c5, .slice A6 p.control.length c6, .slice A7 p.emit.length c7] 30
 obtain ⟨wb, hwb, hsb, hbb, hcb, -⟩ := box1 wa #[.int .u8 kind, .string head, .string name, .int .u8 op, .int .i64 lit.1, .int .u64 lit.2.1, .int .u64 lit.2.2, .string ehead, .string ename, .int .i64 hi, .int .i64 lo, .slice Ae args.length ecap, .slice A thn.length cap, .slice A' els.length cap'] 75
 have hw := hba.trans (hbb.mono (by omega))
 have q : ∀ i, wb.cell? ⟨w.heap.size, i, none⟩ = wa.cell? ⟨w.heap.size, i, none⟩ := fun i => hbb.cell (p := ⟨w.heap.size, i, none⟩) (by show w.heap.size < _; omega)
 obtain ⟨z0, z1, z2, z3, z4, z5, z6⟩ := row7 (w := wb) (a := w.heap.size) fun i => (q _).trans <| hca i
 simp only [hsa] at hcb
 have y0 : wb.cell? ⟨w.heap.size + 1, 0, none⟩ = some (.int .u8 kind) := hcb 0
 have y1 : wb.cell? ⟨w.heap.size + 1, 1, none⟩ = some (.string head) := hcb 1
 have y2 : wb.cell? ⟨w.heap.size + 1, 2, none⟩ = some (.string name) := hcb 2
 have y3 : wb.cell? ⟨w.heap.size + 1, 3, none⟩ = some (.int .u8 op) := hcb 3
 have y4 : wb.cell? ⟨w.heap.size + 1, 4, none⟩ = some (.int .i64 lit.1) := hcb 4
 have y5 : wb.cell? ⟨w.heap.size + 1, 5, none⟩ = some (.int .u64 lit.2.1) := hcb 5
 have y6 : wb.cell? ⟨w.heap.size + 1, 6, none⟩ = some (.int .u64 lit.2.2) := hcb 6
 have y7 : wb.cell? ⟨w.heap.size + 1, 7, none⟩ = some (.string ehead) := hcb 7
 have y8 : wb.cell? ⟨w.heap.size + 1, 8, none⟩ = some (.string ename) := hcb 8
 have y9 : wb.cell? ⟨w.heap.size + 1, 9, none⟩ = some (.int .i64 hi) := hcb 9
 have y10 : wb.cell? ⟨w.heap.size + 1, 10, none⟩ = some (.int .i64 lo) := hcb 10
 have y11 : wb.cell? ⟨w.heap.size + 1, 11, none⟩ = some (.slice Ae args.length ecap) := hcb 11
 have hl1 : w.heap.size < wb.heap.size := by omega
 have hl2 : w.heap.size + 1 < wb.heap.size := by omega
 have hz2 : w.heap.size + 2 ≤ wb.heap.size := by omega
 have hBb : B ≤ wb.heap.size := by omega
 have hP2 := hide (hP.below (hw.mono hB))
 have hE2 := hide (sta_ex.keep he fun q hq => (hw.mono hB).cell hq)
 obtain ⟨r, hr⟩ : ∃ r, stmtB p act (.mk kind head name (.mk op lit ehead ename hi lo args) thn els) = r := ⟨_, rfl⟩
 have hv := hide hr
 simp only [stmtB] at hv
 replace hr := hide hr
 have hN : ∀ W, B ≤ W.heap.size → Below wb.heap.size wb W → Calls Tryz.prog 76 #[.agg #[.slice A1 p.headers.length c1, .slice A2 p.metas.length c2, .slice A3 p.states.length c3, .slice A4 p.actions.length c4, .slice A5 p.tables.length c5, .slice A6 p.control.length c6, .slice A7 p.emit.length c7], .int .i64 act, .agg #[.int .u8 op, .int .i64 lit.1, .int .u64 lit.2.1, .int .u64 lit.2.2, .string ehead, .string ename, .int .i64 hi, .int .i64 lo, .slice Ae args.length ecap]] W _ :=
  fun W h1 h2 => there07_any A1 A2 A3 A4 A5 A6 A7 p c1 c2 c3 c4 c5 c6 c7 act B (.mk op lit ehead ename hi lo args) _ W h1 (hP2.out.below (h2.mono hBb)) (sta_ex.keep hE2.out fun q hq => (h2.mono hBb).cell hq)
 generalize thereE p act (.mk op lit ehead ename hi lo args) = nm at hv hN
 replace hN := hide hN
 replace hw := hide hw
 have hb0 : Below wb.heap.size wb wb := Below.refl _ _
 have hg := gcell' hb0 (Nat.le_refl _)
 clear hca hcb hs hP q hba hbb h he he' hT hE
 replace hsb := hide hsb
 by_cases h3 : kind = 3
 ·subst h3
  simp only [if_true] at hv
  have hT := hide (table07_any wb A1 A2 A3 A4 A5 A6 A7 p c1 c2 c3 c4 c5 c6 c7 name hBb hP2.out)
  generalize tableI p name = z at hv hT
  clear hg hb0
  go_enter Tryz.func77, Tryz.ntmps77
  go_wp2_with (go_at_call 137; refine hT.out.mono ?_; rintro e w1 ⟨rfl, hw1⟩)
  go_ret
  exact ⟨ret_b (hv.out.trans hr.out.symm), hw.out.trans (hw1.mono (by omega))⟩
 ·by_cases h67 : kind = 6 ∨ kind = 7
  ·simp only [if_neg h3, if_pos h67] at hv
   have hH := header07_any wb A1 A2 A3 A4 A5 A6 A7 p c1 c2 c3 c4 c5 c6 c7 head hBb hP2.out
   generalize headerI p head = z at hv hH
   replace hH := hide hH
   clear hg hb0 h3
   go_enter Tryz.func77, Tryz.ntmps77
   rcases h67 with rfl | rfl
   all_goals
    go_wp2_with (go_at_call 132; refine hH.out.mono ?_; rintro e w1 ⟨rfl, hw1⟩)
    go_ret
    exact ⟨ret_b (hv.out.trans hr.out.symm), hw.out.trans (hw1.mono (by omega))⟩
  ·by_cases h4 : kind = 4
   ·simp only [if_neg h3, if_neg h67, if_pos h4] at hv
    subst h4
    clear hg hb0 h3 h67
    go_enter Tryz.func77, Tryz.ntmps77
    go_wp2
    go_ret
    exact ⟨ret_b (hv.out.trans hr.out.symm), hw.out⟩
   ·by_cases h1 : kind = 1
    ·simp only [if_neg h3, if_neg h67, if_neg h4, if_pos h1] at hv
     subst h1
     clear h3 h67 h4
     have hM : ∀ d os, Hid (Calls Tryz.prog 135 #[.agg #[.slice A1 p.headers.length c1, .slice A2 p.metas.length c2, .slice A3 p.states.length c3, .slice A4 p.actions.length c4, .slice A5 p.tables.length c5, .slice A6 p.control.length c6, .slice A7 p.emit.length c7], .string name] (Go.Sort.grow (redrawn wb d) os) _) := fun d os => hide (meta07_any _ A1 A2 A3 A4 A5 A6 A7 p c1 c2 c3 c4 c5 c6 c7 name (hP2.out.grown hBb d os).1 (hP2.out.grown hBb d os).2)
     have hH : ∀ d os, Hid (Calls Tryz.prog 132 #[.agg #[.slice A1 p.headers.length c1, .slice A2 p.metas.length c2, .slice A3 p.states.length c3, .slice A4 p.actions.length c4, .slice A5 p.tables.length c5, .slice A6 p.control.length c6, .slice A7 p.emit.length c7], .string head] (Go.Sort.grow (redrawn wb d) os) _) := fun d os => hide (header07_any _ A1 A2 A3 A4 A5 A6 A7 p c1 c2 c3 c4 c5 c6 c7 head (hP2.out.grown hBb d os).1 (hP2.out.grown hBb d os).2)
     have hF : ∀ d os, Hid (Calls Tryz.prog 134 #[.agg #[.slice A1 p.headers.length c1, .slice A2 p.metas.length c2, .slice A3 p.states.length c3, .slice A4 p.actions.length c4, .slice A5 p.tables.length c5, .slice A6 p.control.length c6, .slice A7 p.emit.length c7], .int .i64 (headerI p head), .string name] (Go.Sort.grow (redrawn wb d) os) _) := fun d os => hide (field07_any _ A1 A2 A3 A4 A5 A6 A7 p c1 c2 c3 c4 c5 c6 c7 (headerI p head) name (hP2.out.grown hBb d os).1 (hP2.out.grown hBb d os).2)
     generalize metaI p name = zm at hv hM
     generalize fieldI p (headerI p head) name = zf at hv hF
     generalize headerI p head = zh at hH hF
     go_enter Tryz.func77, Tryz.ntmps77
     by_cases hh : head = strE
     ·have q1 : (head.toList == []) = true := by rw [emp_iff.1 hh]; rfl
      have q2 : head.toList.isEmpty = true := by rw [emp_iff.1 hh]; rfl
      have q3 : head.toList = [] := emp_iff.1 hh
      simp only [if_pos hh] at hv
      clear hh
      by_cases hd : zm < 0
      ·rw [decide_eq_false (by omega), Bool.false_and] at hv
       go_wp2_with fail
       refine wp_region_quiet_below (by kernel_rfl) (by kernel_rfl) ?_
       repeat (any_goals (first | go_big_quiet_step (first | (go_at_call 135; with_reducible exact Calls.regrown_of (hM _ _).out) | (go_at_call 132; with_reducible exact Calls.regrown_of (hH _ _).out) | (go_at_call 134; with_reducible exact Calls.regrown_of (hF _ _).out)) | quiet_step (first | (go_at_call 135; with_reducible exact Calls.regrown_of (hM _ _).out) | (go_at_call 132; with_reducible exact Calls.regrown_of (hH _ _).out) | (go_at_call 134; with_reducible exact Calls.regrown_of (hF _ _).out))))
       refine wpQuiet_nil ?_
       intro w1 hw1
       replace hw1 := below_of_regrown hw1
       go_wp2
       go_ret
       exact ⟨ret_b (hv.out.trans hr.out.symm), hw.out.trans (hw1.mono (by omega))⟩
      ·rw [decide_eq_true (by omega), Bool.true_and] at hv
       go_wp2_with fail
       refine wp_region_quiet_below (by kernel_rfl) (by kernel_rfl) ?_
       repeat (any_goals (first | go_big_quiet_step (first | (go_at_call 135; with_reducible exact Calls.regrown_of (hM _ _).out) | (go_at_call 132; with_reducible exact Calls.regrown_of (hH _ _).out) | (go_at_call 134; with_reducible exact Calls.regrown_of (hF _ _).out)) | quiet_step (first | (go_at_call 135; with_reducible exact Calls.regrown_of (hM _ _).out) | (go_at_call 132; with_reducible exact Calls.regrown_of (hH _ _).out) | (go_at_call 134; with_reducible exact Calls.regrown_of (hF _ _).out))))
       refine wpQuiet_nil ?_
       intro w1 hw1
       replace hw1 := below_of_regrown hw1
       have hc1 := bcell' hw1
       have zz1 := Nat.lt_of_lt_of_le hl1 hw1.size
       have zz2 := Nat.lt_of_lt_of_le hl2 hw1.size
       have hn1 := hide (hN.out w1 (by have := hw1.size; omega) hw1)
       replace hw1 := hide hw1
       clear hg
       go_wp2_with (go_at_call 76; refine hn1.out.mono ?_; rintro e w2 ⟨rfl, hw2⟩)
       go_ret
       exact ⟨ret_b (hv.out.trans hr.out.symm), (hw.out.trans (hw1.out.mono (by omega))).trans (hw2.mono (by have := hw1.out.size; omega))⟩
     ·have q1 : (head.toList == []) = false := by rw [beq_eq_false_iff_ne]; exact fun h => hh (emp_iff.2 h)
      have q2 : head.toList.isEmpty = false := by rw [List.isEmpty_eq_false_iff]; exact fun h => hh (emp_iff.2 h)
      have q3 : ¬ head.toList = [] := fun h => hh (emp_iff.2 h)
      simp only [if_neg hh] at hv
      clear hh
      by_cases hd : zf < 0
      ·rw [decide_eq_false (by omega), Bool.false_and] at hv
       go_wp2_with fail
       refine wp_region_quiet_below (by kernel_rfl) (by kernel_rfl) ?_
       repeat (any_goals (first | go_big_quiet_step (first | (go_at_call 135; with_reducible exact Calls.regrown_of (hM _ _).out) | (go_at_call 132; with_reducible exact Calls.regrown_of (hH _ _).out) | (go_at_call 134; with_reducible exact Calls.regrown_of (hF _ _).out)) | quiet_step (first | (go_at_call 135; with_reducible exact Calls.regrown_of (hM _ _).out) | (go_at_call 132; with_reducible exact Calls.regrown_of (hH _ _).out) | (go_at_call 134; with_reducible exact Calls.regrown_of (hF _ _).out))))
       refine wpQuiet_nil ?_
       intro w1 hw1
       replace hw1 := below_of_regrown hw1
       go_wp2
       go_ret
       exact ⟨ret_b (hv.out.trans hr.out.symm), hw.out.trans (hw1.mono (by omega))⟩
      ·rw [decide_eq_true (by omega), Bool.true_and] at hv
       go_wp2_with fail
       refine wp_region_quiet_below (by kernel_rfl) (by kernel_rfl) ?_
       repeat (any_goals (first | go_big_quiet_step (first | (go_at_call 135; with_reducible exact Calls.regrown_of (hM _ _).out) | (go_at_call 132; with_reducible exact Calls.regrown_of (hH _ _).out) | (go_at_call 134; with_reducible exact Calls.regrown_of (hF _ _).out)) | quiet_step (first | (go_at_call 135; with_reducible exact Calls.regrown_of (hM _ _).out) | (go_at_call 132; with_reducible exact Calls.regrown_of (hH _ _).out) | (go_at_call 134; with_reducible exact Calls.regrown_of (hF _ _).out))))
       refine wpQuiet_nil ?_
       intro w1 hw1
       replace hw1 := below_of_regrown hw1
       have hc1 := bcell' hw1
       have zz1 := Nat.lt_of_lt_of_le hl1 hw1.size
       have zz2 := Nat.lt_of_lt_of_le hl2 hw1.size
       have hn1 := hide (hN.out w1 (by have := hw1.size; omega) hw1)
       replace hw1 := hide hw1
       clear hg
       go_wp2_with (go_at_call 76; refine hn1.out.mono ?_; rintro e w2 ⟨rfl, hw2⟩)
       go_ret
       exact ⟨ret_b (hv.out.trans hr.out.symm), (hw.out.trans (hw1.out.mono (by omega))).trans (hw2.mono (by have := hw1.out.size; omega))⟩
    ·simp only [if_neg h3, if_neg h67, if_neg h4, if_neg h1] at hv
     have hX := hide (hN.out wb hBb hb0)
     have n6 : ¬ kind = 6 := fun h => h67 (.inl h)
     have n7 : ¬ kind = 7 := fun h => h67 (.inr h)
     clear hg hb0 h67
     go_enter Tryz.func77, Tryz.ntmps77
     go_wp2_with (go_at_call 76; refine hX.out.mono ?_; rintro e w1 ⟨rfl, hw1⟩)
     go_ret
     exact ⟨ret_b (hv.out.trans hr.out.symm), hw.out.trans (hw1.mono (by omega))⟩
end Go.Proofs.YtcgmkjpgaigmfaaGreat

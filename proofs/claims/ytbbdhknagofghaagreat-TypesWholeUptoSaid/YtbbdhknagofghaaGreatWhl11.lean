import Derived.Test.YtbbdhknagofghaaGreatWhl10
set_option linter.all false
/-! Layer 7: stmt: what is wrong with a statement. -/
namespace Go.Proofs.YtbbdhknagofghaaGreat
open Go.RowKit
theorem is_b (b : Bool) (n : Int) (w : World) : Calls Tryz.prog 80 #[.bool b, .int .i64 n] w fun e w' => e = .returned (.int .i64 (isI b n)) ∧ Below w.heap.size w w' :=
 (is_any b n w).mono fun _ _ ⟨h1, h2⟩ => ⟨h1, h2 ▸ Below.refl _ _⟩
theorem either_b (e f : Int) (w : World) : Calls Tryz.prog 82 #[.int .i64 e, .int .i64 f] w fun r w' => r = .returned (.int .i64 (eitherI e f)) ∧ Below w.heap.size w w' :=
 (either_any e f w).mono fun _ _ ⟨h1, h2⟩ => ⟨h1, h2 ▸ Below.refl _ _⟩
/-- A program lies in a world and in what has grown of it. -/
theorem PgS.grown {wb : World} {B : Nat} {A1 A2 A3 A4 A5 A6 A7 : Option Addr} {p : Pg} (h : PgS wb B A1 A2 A3 A4 A5 A6 A7 p) (hB : B ≤ wb.heap.size) (d : Nat) (os : Array Obj) :
  B ≤ (Go.Sort.grow (redrawn wb d) os).heap.size ∧ PgS (Go.Sort.grow (redrawn wb d) os) B A1 A2 A3 A4 A5 A6 A7 p :=
 ⟨Nat.le_trans hB (gsize wb d os), h.below ((below_regrown wb d os).mono hB)⟩
set_option maxRecDepth 100000 in
set_option maxHeartbeats 4000000 in
theorem stmt_any (A1 A2 A3 A4 A5 A6 A7 : Option Addr) (p : Pg) (c1 c2 c3 c4 c5 c6 c7 : Nat) (act : Int) (B : Nat) (s : St) (cs : List Value) (w : World) (hB : B ≤ w.heap.size) (hP : PgS w B A1 A2 A3 A4 A5 A6 A7 p) (h : rSt w B cs s) :
  Calls Tryz.prog 89 #[.agg #[.slice A1 p.headers.length c1, .slice A2 p.metas.length c2, .slice A3 p.states.length c3, .slice A4 p.actions.length c4, .slice A5 p.tables.length c5, .slice A6 p.control.length c6, .slice A7 p.emit.length c7], .int .i64 act, .agg cs.toArray] w fun r w' => r = .returned (.int .i64 (stmtI p act s)) ∧ Below w.heap.size w w' := by
 obtain ⟨kind, head, name, e, thn, els⟩ := s
 obtain ⟨es, A, cap, A', cap', rfl, -, -, -, he, hT, hE⟩ := RS.inv h
 have l1 := hT.len
 have l2 := hE.len
 obtain ⟨op, lit, ehead, ename, hi, lo, args⟩ := e
 have he' := he
 obtain ⟨Ae, ecap, rfl, -, -, -, -, -, -, hs⟩ := RE.inv he'
 have l3 := hs.len
 show Calls _ _ #[.agg #[.slice A1 p.headers.length c1, .slice A2 p.metas.length c2, .slice A3 p.states.length c3, .slice A4 p.actions.length c4, .slice A5 p.tables.length c5, .slice A6 p.control.length c6, .slice A7 p.emit.length c7], .int .i64 act, .agg #[.int .u8 kind, .string head, .string name, .int .u8 op, .int .i64 lit.1, .int .u64 lit.2.1, .int .u64 lit.2.2, .string ehead, .string ename, .int .i64 hi, .int .i64 lo, .slice Ae args.length ecap, .slice A thn.length cap, .slice A' els.length cap']] _ _
 obtain ⟨wa, hwa, hsa, hba, hca, -⟩ := box1 w #[.slice A1 p.headers.length c1, .slice A2 p.metas.length c2, .slice A3 p.states.length c3, .slice A4 p.actions.length c4, .slice A5 p.tables.length c5, .slice A6 p.control.length c6, .slice A7 p.emit.length c7] 30
 obtain ⟨wb, hwb, hsb, hbb, hcb, -⟩ := box1 wa #[.int .u8 kind, .string head, .string name, .int .u8 op, .int .i64 lit.1, .int .u64 lit.2.1, .int .u64 lit.2.2, .string ehead, .string ename, .int .i64 hi, .int .i64 lo, .slice Ae args.length ecap, .slice A thn.length cap, .slice A' els.length cap'] 47
 have hw := hba.trans (hbb.mono (by omega))
 have q : ∀ i, wb.cell? ⟨w.heap.size, i, none⟩ = wa.cell? ⟨w.heap.size, i, none⟩ := fun i => hbb.cell (p := ⟨w.heap.size, i, none⟩) (by show w.heap.size < _; omega)
 obtain ⟨z0, z1, z2, z3, z4, z5, z6⟩ := row7 (w := wb) (a := w.heap.size) fun i => (q _).trans <| hca i
 simp only [hsa] at hcb
 have y0 : wb.cell? ⟨w.heap.size + 1, 0, none⟩ = some (.int .u8 kind) := hcb 0
 have y1 : wb.cell? ⟨w.heap.size + 1, 1, none⟩ = some (.string head) := hcb 1
 have y2 : wb.cell? ⟨w.heap.size + 1, 2, none⟩ = some (.string name) := hcb 2
 have y3 : wb.cell? ⟨w.heap.size + 1, 3, none⟩ = some (.int .u8 op) := hcb 3
 have y4 : wb.cell? ⟨w.heap.size + 1, 4, none⟩ = some (.int .i64 lit.1) := hcb 4
 have y5 : wb.cell? ⟨w.heap.size + 1, 5, none⟩ = some (.int .u64 lit.2.1) := hcb 5
 have y6 : wb.cell? ⟨w.heap.size + 1, 6, none⟩ = some (.int .u64 lit.2.2) := hcb 6
 have y7 : wb.cell? ⟨w.heap.size + 1, 7, none⟩ = some (.string ehead) := hcb 7
 have y8 : wb.cell? ⟨w.heap.size + 1, 8, none⟩ = some (.string ename) := hcb 8
 have y9 : wb.cell? ⟨w.heap.size + 1, 9, none⟩ = some (.int .i64 hi) := hcb 9
 have y10 : wb.cell? ⟨w.heap.size + 1, 10, none⟩ = some (.int .i64 lo) := hcb 10
 have y11 : wb.cell? ⟨w.heap.size + 1, 11, none⟩ = some (.slice Ae args.length ecap) := hcb 11
 have hl1 : w.heap.size < wb.heap.size := by omega
 have hl2 : w.heap.size + 1 < wb.heap.size := by omega
 have hz2 : w.heap.size + 2 ≤ wb.heap.size := by omega
 have hBb : B ≤ wb.heap.size := by omega
 have hP2 := hide (hP.below (hw.mono hB))
 have hE2 := hide (sta_ex.keep he fun q hq => (hw.mono hB).cell hq)
 obtain ⟨r, hr⟩ : ∃ r, stmtI p act (.mk kind head name (.mk op lit ehead ename hi lo args) thn els) = r := ⟨_, rfl⟩
 have hv := hide hr
 simp only [stmtI] at hv
 replace hr := hide hr
 have hN : ∀ W, B ≤ W.heap.size → Below wb.heap.size wb W → Calls Tryz.prog 91 #[.agg #[.slice A1 p.headers.length c1, .slice A2 p.metas.length c2, .slice A3 p.states.length c3, .slice A4 p.actions.length c4, .slice A5 p.tables.length c5, .slice A6 p.control.length c6, .slice A7 p.emit.length c7], .int .i64 act, .agg #[.int .u8 op, .int .i64 lit.1, .int .u64 lit.2.1, .int .u64 lit.2.2, .string ehead, .string ename, .int .i64 hi, .int .i64 lo, .slice Ae args.length ecap]] W _ :=
  fun W h1 h2 => names_any A1 A2 A3 A4 A5 A6 A7 p c1 c2 c3 c4 c5 c6 c7 act B (.mk op lit ehead ename hi lo args) _ W h1 (hP2.out.below (h2.mono hBb)) (sta_ex.keep hE2.out fun q hq => (h2.mono hBb).cell hq)
 generalize namesI p act (.mk op lit ehead ename hi lo args) = nm at hv hN
 replace hN := hide hN
 replace hw := hide hw
 have hb0 : Below wb.heap.size wb wb := Below.refl _ _
 have hg := gcell' hb0 (Nat.le_refl _)
 have hI : ∀ b n d os, Hid (Calls Tryz.prog 80 #[.bool b, .int .i64 n] (Go.Sort.grow (redrawn wb d) os) _) := fun b n d os => hide (is_b b n _)
 have hEi : ∀ x y d os, Hid (Calls Tryz.prog 82 #[.int .i64 x, .int .i64 y] (Go.Sort.grow (redrawn wb d) os) _) := fun x y d os => hide (either_b x y _)
 clear hca hcb hs hP q hba hbb h he he' hT hE
 replace hsb := hide hsb
 by_cases h3 : kind = 3
 ·subst h3
  simp only [if_true] at hv
  have hT : ∀ d os, Hid (Calls Tryz.prog 90 #[.agg #[.slice A1 p.headers.length c1, .slice A2 p.metas.length c2, .slice A3 p.states.length c3, .slice A4 p.actions.length c4, .slice A5 p.tables.length c5, .slice A6 p.control.length c6, .slice A7 p.emit.length c7], .string name] (Go.Sort.grow (redrawn wb d) os) _) := fun d os => hide (table_any _ A1 A2 A3 A4 A5 A6 A7 p c1 c2 c3 c4 c5 c6 c7 name (hP2.out.grown hBb d os).1 (hP2.out.grown hBb d os).2)
  generalize tableI p name = z at hv hT
  go_enter Tryz.func89, Tryz.ntmps89
  go_wp2_with fail
  refine wp_region_quiet_below (by kernel_rfl) (by kernel_rfl) ?_
  repeat (any_goals (first | go_big_quiet_step (first | (go_at_call 80; with_reducible exact Calls.regrown_of (hI _ _ _ _).out) | (go_at_call 82; with_reducible exact Calls.regrown_of (hEi _ _ _ _).out) | (go_at_call 90; with_reducible exact Calls.regrown_of (hT _ _).out)) | quiet_step (first | (go_at_call 80; with_reducible exact Calls.regrown_of (hI _ _ _ _).out) | (go_at_call 82; with_reducible exact Calls.regrown_of (hEi _ _ _ _).out) | (go_at_call 90; with_reducible exact Calls.regrown_of (hT _ _).out))))
  refine wpQuiet_nil ?_
  intro w1 hw1
  replace hw1 := below_of_regrown hw1
  go_wp2
  go_ret
  exact ⟨ret_int (hv.out.trans hr.out.symm), hw.out.trans (hw1.mono (by omega))⟩
 ·by_cases h67 : kind = 6 ∨ kind = 7
  ·simp only [if_neg h3, if_pos h67] at hv
   have hH := header_any wb A1 A2 A3 A4 A5 A6 A7 p c1 c2 c3 c4 c5 c6 c7 head hBb hP2.out
   generalize headerI p head = z at hv hH
   replace hH := hide hH
   clear hg hb0 h3
   go_enter Tryz.func89, Tryz.ntmps89
   rcases h67 with rfl | rfl
   all_goals
    go_wp2_with (first | (go_at_call 83; refine hH.out.mono ?_; rintro e w1 ⟨rfl, hw1⟩) | (go_at_call 80; refine (is_any _ _ _).mono ?_; rintro e w' ⟨rfl, rfl⟩))
    go_ret
    exact ⟨ret_int (hv.out.trans hr.out.symm), hw.out.trans (hw1.mono (by omega))⟩
  ·by_cases h4 : kind = 4
   ·simp only [if_neg h3, if_neg h67, if_pos h4] at hv
    subst h4
    clear hg hb0 h3 h67
    go_enter Tryz.func89, Tryz.ntmps89
    go_wp2
    go_ret
    exact ⟨ret_int (hv.out.trans hr.out.symm), hw.out⟩
   ·by_cases h1 : kind = 1
    ·simp only [if_neg h3, if_neg h67, if_neg h4, if_pos h1] at hv
     subst h1
     clear h3 h67 h4
     have hM : ∀ d os, Hid (Calls Tryz.prog 85 #[.agg #[.slice A1 p.headers.length c1, .slice A2 p.metas.length c2, .slice A3 p.states.length c3, .slice A4 p.actions.length c4, .slice A5 p.tables.length c5, .slice A6 p.control.length c6, .slice A7 p.emit.length c7], .string name] (Go.Sort.grow (redrawn wb d) os) _) := fun d os => hide (meta_any _ A1 A2 A3 A4 A5 A6 A7 p c1 c2 c3 c4 c5 c6 c7 name (hP2.out.grown hBb d os).1 (hP2.out.grown hBb d os).2)
     have hH : ∀ d os, Hid (Calls Tryz.prog 83 #[.agg #[.slice A1 p.headers.length c1, .slice A2 p.metas.length c2, .slice A3 p.states.length c3, .slice A4 p.actions.length c4, .slice A5 p.tables.length c5, .slice A6 p.control.length c6, .slice A7 p.emit.length c7], .string head] (Go.Sort.grow (redrawn wb d) os) _) := fun d os => hide (header_any _ A1 A2 A3 A4 A5 A6 A7 p c1 c2 c3 c4 c5 c6 c7 head (hP2.out.grown hBb d os).1 (hP2.out.grown hBb d os).2)
     have hF : ∀ d os, Hid (Calls Tryz.prog 84 #[.agg #[.slice A1 p.headers.length c1, .slice A2 p.metas.length c2, .slice A3 p.states.length c3, .slice A4 p.actions.length c4, .slice A5 p.tables.length c5, .slice A6 p.control.length c6, .slice A7 p.emit.length c7], .int .i64 (headerI p head), .string name] (Go.Sort.grow (redrawn wb d) os) _) := fun d os => hide (field_any _ A1 A2 A3 A4 A5 A6 A7 p c1 c2 c3 c4 c5 c6 c7 (headerI p head) name (hP2.out.grown hBb d os).1 (hP2.out.grown hBb d os).2)
     generalize metaI p name = zm at hv hM
     generalize fieldI p (headerI p head) name = zf at hv hF
     generalize headerI p head = zh at hH hF
     have wn : wb.heap.size ≤ wb.heap.size := Nat.le_refl _
     go_enter Tryz.func89, Tryz.ntmps89
     by_cases hh : head = strE
     ·have q1 : (head.toList == []) = true := by rw [emp_iff.1 hh]; rfl
      have q2 : head.toList.isEmpty = true := by rw [emp_iff.1 hh]; rfl
      simp only [if_pos hh] at hv
      clear hh
      cases hd : decide (zm < 0) with
      | true =>
       rw [hd] at hv
       go_wp2_with fail
       refine wp_region_quiet_below (by kernel_rfl) (by kernel_rfl) ?_
       repeat (any_goals (first | go_big_quiet_step (first | (go_at_call 85; with_reducible exact Calls.regrown_of (hM _ _).out) | (go_at_call 83; with_reducible exact Calls.regrown_of (hH _ _).out) | (go_at_call 84; with_reducible exact Calls.regrown_of (hF _ _).out)) | quiet_step (first | (go_at_call 85; with_reducible exact Calls.regrown_of (hM _ _).out) | (go_at_call 83; with_reducible exact Calls.regrown_of (hH _ _).out) | (go_at_call 84; with_reducible exact Calls.regrown_of (hF _ _).out))))
       refine wpQuiet_nil ?_
       intro w1 hw1
       replace hw1 := below_of_regrown hw1
       go_wp2_with fail
       have hn1 : ∀ d os, Hid (Calls Tryz.prog 91 #[.agg #[.slice A1 p.headers.length c1, .slice A2 p.metas.length c2, .slice A3 p.states.length c3, .slice A4 p.actions.length c4, .slice A5 p.tables.length c5, .slice A6 p.control.length c6, .slice A7 p.emit.length c7], .int .i64 act, .agg #[.int .u8 op, .int .i64 lit.1, .int .u64 lit.2.1, .int .u64 lit.2.2, .string ehead, .string ename, .int .i64 hi, .int .i64 lo, .slice Ae args.length ecap]] (Go.Sort.grow (redrawn w1 d) os) _) := fun d os => hide (hN.out _ (by have := gsize w1 d os; have := hw1.size; omega) (below_grow hw1 hw1.size d os))
       have hi1 : ∀ b n d os, Hid (Calls Tryz.prog 80 #[.bool b, .int .i64 n] (Go.Sort.grow (redrawn w1 d) os) _) := fun b n d os => hide (is_b b n _)
       have he1 : ∀ x y d os, Hid (Calls Tryz.prog 82 #[.int .i64 x, .int .i64 y] (Go.Sort.grow (redrawn w1 d) os) _) := fun x y d os => hide (either_b x y _)
       have hg1 := gcell' hw1 hw1.size
       have hc1 := bcell' hw1
       replace hw1 := hide hw1
       clear hg
       refine wp_region_quiet_below (by kernel_rfl) (by kernel_rfl) ?_
       repeat (any_goals (first | go_big_quiet_step (first | (go_at_call 80; with_reducible exact Calls.regrown_of (hi1 _ _ _ _).out) | (go_at_call 82; with_reducible exact Calls.regrown_of (he1 _ _ _ _).out) | (go_at_call 91; with_reducible exact Calls.regrown_of (hn1 _ _).out)) | quiet_step (first | (go_at_call 80; with_reducible exact Calls.regrown_of (hi1 _ _ _ _).out) | (go_at_call 82; with_reducible exact Calls.regrown_of (he1 _ _ _ _).out) | (go_at_call 91; with_reducible exact Calls.regrown_of (hn1 _ _).out))))
       refine wpQuiet_nil ?_
       intro w2 hw2
       replace hw2 := below_of_regrown hw2
       go_wp2
       go_ret
       exact ⟨ret_int (hv.out.trans hr.out.symm), (hw.out.trans (hw1.out.mono (by omega))).trans (hw2.mono (by have := hw1.out.size; omega))⟩
      | false =>
       rw [hd] at hv
       go_wp2_with fail
       refine wp_region_quiet_below (by kernel_rfl) (by kernel_rfl) ?_
       repeat (any_goals (first | go_big_quiet_step (first | (go_at_call 85; with_reducible exact Calls.regrown_of (hM _ _).out) | (go_at_call 83; with_reducible exact Calls.regrown_of (hH _ _).out) | (go_at_call 84; with_reducible exact Calls.regrown_of (hF _ _).out)) | quiet_step (first | (go_at_call 85; with_reducible exact Calls.regrown_of (hM _ _).out) | (go_at_call 83; with_reducible exact Calls.regrown_of (hH _ _).out) | (go_at_call 84; with_reducible exact Calls.regrown_of (hF _ _).out))))
       refine wpQuiet_nil ?_
       intro w1 hw1
       replace hw1 := below_of_regrown hw1
       go_wp2_with fail
       have hn1 : ∀ d os, Hid (Calls Tryz.prog 91 #[.agg #[.slice A1 p.headers.length c1, .slice A2 p.metas.length c2, .slice A3 p.states.length c3, .slice A4 p.actions.length c4, .slice A5 p.tables.length c5, .slice A6 p.control.length c6, .slice A7 p.emit.length c7], .int .i64 act, .agg #[.int .u8 op, .int .i64 lit.1, .int .u64 lit.2.1, .int .u64 lit.2.2, .string ehead, .string ename, .int .i64 hi, .int .i64 lo, .slice Ae args.length ecap]] (Go.Sort.grow (redrawn w1 d) os) _) := fun d os => hide (hN.out _ (by have := gsize w1 d os; have := hw1.size; omega) (below_grow hw1 hw1.size d os))
       have hi1 : ∀ b n d os, Hid (Calls Tryz.prog 80 #[.bool b, .int .i64 n] (Go.Sort.grow (redrawn w1 d) os) _) := fun b n d os => hide (is_b b n _)
       have he1 : ∀ x y d os, Hid (Calls Tryz.prog 82 #[.int .i64 x, .int .i64 y] (Go.Sort.grow (redrawn w1 d) os) _) := fun x y d os => hide (either_b x y _)
       have hg1 := gcell' hw1 hw1.size
       have hc1 := bcell' hw1
       replace hw1 := hide hw1
       clear hg
       refine wp_region_quiet_below (by kernel_rfl) (by kernel_rfl) ?_
       repeat (any_goals (first | go_big_quiet_step (first | (go_at_call 80; with_reducible exact Calls.regrown_of (hi1 _ _ _ _).out) | (go_at_call 82; with_reducible exact Calls.regrown_of (he1 _ _ _ _).out) | (go_at_call 91; with_reducible exact Calls.regrown_of (hn1 _ _).out)) | quiet_step (first | (go_at_call 80; with_reducible exact Calls.regrown_of (hi1 _ _ _ _).out) | (go_at_call 82; with_reducible exact Calls.regrown_of (he1 _ _ _ _).out) | (go_at_call 91; with_reducible exact Calls.regrown_of (hn1 _ _).out))))
       refine wpQuiet_nil ?_
       intro w2 hw2
       replace hw2 := below_of_regrown hw2
       go_wp2
       go_ret
       exact ⟨ret_int (hv.out.trans hr.out.symm), (hw.out.trans (hw1.out.mono (by omega))).trans (hw2.mono (by have := hw1.out.size; omega))⟩
     ·have q1 : (head.toList == []) = false := by rw [beq_eq_false_iff_ne]; exact fun h => hh (emp_iff.2 h)
      have q2 : head.toList.isEmpty = false := by rw [List.isEmpty_eq_false_iff]; exact fun h => hh (emp_iff.2 h)
      simp only [if_neg hh] at hv
      clear hh
      cases hd : decide (zf < 0) with
      | true =>
       rw [hd] at hv
       go_wp2_with fail
       refine wp_region_quiet_below (by kernel_rfl) (by kernel_rfl) ?_
       repeat (any_goals (first | go_big_quiet_step (first | (go_at_call 85; with_reducible exact Calls.regrown_of (hM _ _).out) | (go_at_call 83; with_reducible exact Calls.regrown_of (hH _ _).out) | (go_at_call 84; with_reducible exact Calls.regrown_of (hF _ _).out)) | quiet_step (first | (go_at_call 85; with_reducible exact Calls.regrown_of (hM _ _).out) | (go_at_call 83; with_reducible exact Calls.regrown_of (hH _ _).out) | (go_at_call 84; with_reducible exact Calls.regrown_of (hF _ _).out))))
       refine wpQuiet_nil ?_
       intro w1 hw1
       replace hw1 := below_of_regrown hw1
       go_wp2_with fail
       have hn1 : ∀ d os, Hid (Calls Tryz.prog 91 #[.agg #[.slice A1 p.headers.length c1, .slice A2 p.metas.length c2, .slice A3 p.states.length c3, .slice A4 p.actions.length c4, .slice A5 p.tables.length c5, .slice A6 p.control.length c6, .slice A7 p.emit.length c7], .int .i64 act, .agg #[.int .u8 op, .int .i64 lit.1, .int .u64 lit.2.1, .int .u64 lit.2.2, .string ehead, .string ename, .int .i64 hi, .int .i64 lo, .slice Ae args.length ecap]] (Go.Sort.grow (redrawn w1 d) os) _) := fun d os => hide (hN.out _ (by have := gsize w1 d os; have := hw1.size; omega) (below_grow hw1 hw1.size d os))
       have hi1 : ∀ b n d os, Hid (Calls Tryz.prog 80 #[.bool b, .int .i64 n] (Go.Sort.grow (redrawn w1 d) os) _) := fun b n d os => hide (is_b b n _)
       have he1 : ∀ x y d os, Hid (Calls Tryz.prog 82 #[.int .i64 x, .int .i64 y] (Go.Sort.grow (redrawn w1 d) os) _) := fun x y d os => hide (either_b x y _)
       have hg1 := gcell' hw1 hw1.size
       have hc1 := bcell' hw1
       replace hw1 := hide hw1
       clear hg
       refine wp_region_quiet_below (by kernel_rfl) (by kernel_rfl) ?_
       repeat (any_goals (first | go_big_quiet_step (first | (go_at_call 80; with_reducible exact Calls.regrown_of (hi1 _ _ _ _).out) | (go_at_call 82; with_reducible exact Calls.regrown_of (he1 _ _ _ _).out) | (go_at_call 91; with_reducible exact Calls.regrown_of (hn1 _ _).out)) | quiet_step (first | (go_at_call 80; with_reducible exact Calls.regrown_of (hi1 _ _ _ _).out) | (go_at_call 82; with_reducible exact Calls.regrown_of (he1 _ _ _ _).out) | (go_at_call 91; with_reducible exact Calls.regrown_of (hn1 _ _).out))))
       refine wpQuiet_nil ?_
       intro w2 hw2
       replace hw2 := below_of_regrown hw2
       go_wp2
       go_ret
       exact ⟨ret_int (hv.out.trans hr.out.symm), (hw.out.trans (hw1.out.mono (by omega))).trans (hw2.mono (by have := hw1.out.size; omega))⟩
      | false =>
       rw [hd] at hv
       go_wp2_with fail
       refine wp_region_quiet_below (by kernel_rfl) (by kernel_rfl) ?_
       repeat (any_goals (first | go_big_quiet_step (first | (go_at_call 85; with_reducible exact Calls.regrown_of (hM _ _).out) | (go_at_call 83; with_reducible exact Calls.regrown_of (hH _ _).out) | (go_at_call 84; with_reducible exact Calls.regrown_of (hF _ _).out)) | quiet_step (first | (go_at_call 85; with_reducible exact Calls.regrown_of (hM _ _).out) | (go_at_call 83; with_reducible exact Calls.regrown_of (hH _ _).out) | (go_at_call 84; with_reducible exact Calls.regrown_of (hF _ _).out))))
       refine wpQuiet_nil ?_
       intro w1 hw1
       replace hw1 := below_of_regrown hw1
       go_wp2_with fail
       have hn1 : ∀ d os, Hid (Calls Tryz.prog 91 #[.agg #[.slice A1 p.headers.length c1, .slice A2 p.metas.length c2, .slice A3 p.states.length c3, .slice A4 p.actions.length c4, .slice A5 p.tables.length c5, .slice A6 p.control.length c6, .slice A7 p.emit.length c7], .int .i64 act, .agg #[.int .u8 op, .int .i64 lit.1, .int .u64 lit.2.1, .int .u64 lit.2.2, .string ehead, .string ename, .int .i64 hi, .int .i64 lo, .slice Ae args.length ecap]] (Go.Sort.grow (redrawn w1 d) os) _) := fun d os => hide (hN.out _ (by have := gsize w1 d os; have := hw1.size; omega) (below_grow hw1 hw1.size d os))
       have hi1 : ∀ b n d os, Hid (Calls Tryz.prog 80 #[.bool b, .int .i64 n] (Go.Sort.grow (redrawn w1 d) os) _) := fun b n d os => hide (is_b b n _)
       have he1 : ∀ x y d os, Hid (Calls Tryz.prog 82 #[.int .i64 x, .int .i64 y] (Go.Sort.grow (redrawn w1 d) os) _) := fun x y d os => hide (either_b x y _)
       have hg1 := gcell' hw1 hw1.size
       have hc1 := bcell' hw1
       replace hw1 := hide hw1
       clear hg
       refine wp_region_quiet_below (by kernel_rfl) (by kernel_rfl) ?_
       repeat (any_goals (first | go_big_quiet_step (first | (go_at_call 80; with_reducible exact Calls.regrown_of (hi1 _ _ _ _).out) | (go_at_call 82; with_reducible exact Calls.regrown_of (he1 _ _ _ _).out) | (go_at_call 91; with_reducible exact Calls.regrown_of (hn1 _ _).out)) | quiet_step (first | (go_at_call 80; with_reducible exact Calls.regrown_of (hi1 _ _ _ _).out) | (go_at_call 82; with_reducible exact Calls.regrown_of (he1 _ _ _ _).out) | (go_at_call 91; with_reducible exact Calls.regrown_of (hn1 _ _).out))))
       refine wpQuiet_nil ?_
       intro w2 hw2
       replace hw2 := below_of_regrown hw2
       go_wp2
       go_ret
       exact ⟨ret_int (hv.out.trans hr.out.symm), (hw.out.trans (hw1.out.mono (by omega))).trans (hw2.mono (by have := hw1.out.size; omega))⟩
    ·simp only [if_neg h3, if_neg h67, if_neg h4, if_neg h1] at hv
     have hX := hide (hN.out wb hBb hb0)
     have n6 : ¬ kind = 6 := fun h => h67 (.inl h)
     have n7 : ¬ kind = 7 := fun h => h67 (.inr h)
     clear hg hb0 h67
     go_enter Tryz.func89, Tryz.ntmps89
     go_wp2_with (go_at_call 91; refine hX.out.mono ?_; rintro e w1 ⟨rfl, hw1⟩)
     go_ret
     exact ⟨ret_int (hv.out.trans hr.out.symm), hw.out.trans (hw1.mono (by omega))⟩
end Go.Proofs.YtbbdhknagofghaaGreat
/-! Layer 7: fixed: what is wrong with a default. -/
namespace Go.Proofs.YtbbdhknagofghaaGreat
open Go.RowKit
theorem findI_range {α : Type} [DecidableEq α] {l : List α} {a : α} (h : ¬ findI l a < 0) : ∃ k : Nat, k < l.length ∧ findI l a = (k : Int) := by
 unfold findI at h ⊢
 by_cases hm : a ∈ l
 ·rw [if_pos hm]; exact ⟨_, idx_lt a l hm, rfl⟩
 ·rw [if_neg hm] at h; omega
set_option maxRecDepth 100000 in
set_option maxHeartbeats 4000000 in
theorem fixed_any (A1 A2 A3 A4 A5 A6 A7 : Option Addr) (p : Pg) (c1 c2 c3 c4 c5 c6 c7 : Nat) (B : Nat) (t : Ta) (B1 B2 B3 : Option Addr) (d1 d2 d3 : Nat) (w : World) (hB : B ≤ w.heap.size) (hP : PgS w B A1 A2 A3 A4 A5 A6 A7 p) (lk : t.keys.length ≤ maxLen) (hA : Sl 1 rStr w B B2 t.actions) (ld : t.dargs.length ≤ maxLen) :
  Calls Tryz.prog 93 #[.agg #[.slice A1 p.headers.length c1, .slice A2 p.metas.length c2, .slice A3 p.states.length c3, .slice A4 p.actions.length c4, .slice A5 p.tables.length c5, .slice A6 p.control.length c6, .slice A7 p.emit.length c7], .agg #[.string t.name, .slice B1 t.keys.length d1, .slice B2 t.actions.length d2, .string t.dname, .slice B3 t.dargs.length d3]] w fun r w' => r = .returned (.int .i64 (fixedI p t)) ∧ Below w.heap.size w w' := by
 have l1 : t.keys.length ≤ 9223372036854775807 := lk
 have l2 := hA.len
 have l3 : t.dargs.length ≤ 9223372036854775807 := ld
 obtain ⟨wa, hwa, hsa, hba, hca, -⟩ := box1 w #[.slice A1 p.headers.length c1, .slice A2 p.metas.length c2, .slice A3 p.states.length c3, .slice A4 p.actions.length c4, .slice A5 p.tables.length c5, .slice A6 p.control.length c6, .slice A7 p.emit.length c7] 30
 obtain ⟨wb, hwb, hsb, hbb, hcb, -⟩ := box1 wa #[.string t.name, .slice B1 t.keys.length d1, .slice B2 t.actions.length d2, .string t.dname, .slice B3 t.dargs.length d3] 58
 have hw := hba.trans (hbb.mono (by omega))
 have q : ∀ i, wb.cell? ⟨w.heap.size, i, none⟩ = wa.cell? ⟨w.heap.size, i, none⟩ := fun i => hbb.cell (p := ⟨w.heap.size, i, none⟩) (by show w.heap.size < _; omega)
 obtain ⟨z0, z1, z2, z3, z4, z5, z6⟩ := row7 (w := wb) (a := w.heap.size) fun i => (q _).trans <| hca i
 simp only [hsa] at hcb
 obtain ⟨y0, y1, y2, y3, y4⟩ := row5 hcb
 have hl1 : w.heap.size < wb.heap.size := by omega
 have hl2 : w.heap.size + 1 < wb.heap.size := by omega
 have hz2 : w.heap.size + 2 ≤ wb.heap.size := by omega
 have hBb : B ≤ wb.heap.size := by omega
 have hP2 := hide (hP.below (hw.mono hB))
 have hA2 := hide ((hA.below sta_str (hw.mono hB)).more sta_str hBb)
 have la := hP.actions.len
 obtain ⟨r, hr⟩ : ∃ r, fixedI p t = r := ⟨_, rfl⟩
 have hv := hide hr
 simp only [fixedI] at hv
 replace hr := hide hr
 replace hw := hide hw
 have hb0 : Below wb.heap.size wb wb := Below.refl _ _
 have hC := scontainsS_any B2 d2 t.actions t.dname wb hA2.out
 have hAc := hide (action_any wb A1 A2 A3 A4 A5 A6 A7 p c1 c2 c3 c4 c5 c6 c7 t.dname hBb hP2.out)
 clear hca hcb hP q hba hbb hA
 replace hsb := hide hsb
 go_enter Tryz.func93, Tryz.ntmps93
 by_cases hm : t.dname ∈ t.actions
 ·rw [decide_eq_true hm] at hC
  replace hC := hide hC
  simp only [if_pos hm] at hv
  clear hm
  by_cases h0 : actionI p t.dname < 0
  ·simp only [if_pos h0] at hv
   generalize actionI p t.dname = z at h0 hAc
   go_wp2_with (first | (go_at_call 160; refine hC.out.mono ?_; rintro e w' ⟨rfl, rfl⟩) | (go_at_call 38; refine hAc.out.mono ?_; rintro e w1 ⟨rfl, hw1⟩))
   go_ret
   exact ⟨ret_int (hv.out.trans hr.out.symm), hw.out.trans (hw1.mono (by omega))⟩
  ·simp only [if_neg h0] at hv
   obtain ⟨k, hk, he⟩ := findI_range (l := p.actions.map Ac.name) (a := t.dname) h0
   rw [List.length_map] at hk
   have hvk : actionI p t.dname = (k : Int) := he
   rw [hvk, Int.toNat_natCast, List.getElem?_eq_getElem hk, Option.elim_some] at hv
   rw [hvk] at hAc
   clear he h0 hvk
   obtain ⟨b, o, ecs, hA4, hb, hel, hcell, A', c', A'', c'', rfl, hn, hF, hG⟩ := hP2.out.actions.2 k _ (List.getElem?_eq_getElem hk)
   subst hA4
   have l4 := hF.len
   have l5 := hG.len
   have hbw : b < wb.heap.size := by omega
   obtain ⟨x0, x1, x2⟩ := srow3 hcell
   have hkz : (k : Int) < (p.actions.length : Int) := by omega
   clear hcell hF hG
   generalize p.actions[k].params.length = n at *
   simp only [Int.ofNat_lt] at hv
   go_wp2_with (first | (go_at_call 160; refine hC.out.mono ?_; rintro e w' ⟨rfl, rfl⟩) | (go_at_call 38; refine hAc.out.mono ?_; rintro e w1 ⟨rfl, hw1⟩; have hc1 := bcell' hw1))
   have hg1 := gcell' hw1 hw1.size
   have hi1 : ∀ b n d os, Hid (Calls Tryz.prog 80 #[.bool b, .int .i64 n] (Go.Sort.grow (redrawn w1 d) os) _) := fun b n d os => hide (is_b b n _)
   have he1 : ∀ x y d os, Hid (Calls Tryz.prog 82 #[.int .i64 x, .int .i64 y] (Go.Sort.grow (redrawn w1 d) os) _) := fun x y d os => hide (either_b x y _)
   replace hw1 := hide hw1
   refine wp_region_quiet_below (by kernel_rfl) (by kernel_rfl) ?_
   repeat (any_goals (first | go_big_quiet_step (first | (go_at_call 80; with_reducible exact Calls.regrown_of (hi1 _ _ _ _).out) | (go_at_call 82; with_reducible exact Calls.regrown_of (he1 _ _ _ _).out)) | quiet_step (first | (go_at_call 80; with_reducible exact Calls.regrown_of (hi1 _ _ _ _).out) | (go_at_call 82; with_reducible exact Calls.regrown_of (he1 _ _ _ _).out))))
   refine wpQuiet_nil ?_
   intro w2 hw2
   replace hw2 := below_of_regrown hw2
   go_wp2
   go_ret
   exact ⟨ret_int (hv.out.trans hr.out.symm), (hw.out.trans (hw1.out.mono (by omega))).trans (hw2.mono (by have := hw1.out.size; omega))⟩
 ·rw [decide_eq_false hm] at hC
  replace hC := hide hC
  simp only [if_neg hm] at hv
  go_wp2_with (go_at_call 160; refine hC.out.mono ?_; rintro e w' ⟨rfl, rfl⟩)
  go_ret
  exact ⟨ret_int (hv.out.trans hr.out.symm), hw.out⟩
end Go.Proofs.YtbbdhknagofghaaGreat

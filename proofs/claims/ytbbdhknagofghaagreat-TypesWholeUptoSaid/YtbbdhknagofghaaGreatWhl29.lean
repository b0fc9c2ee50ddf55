import Derived.Test.YtbbdhknagofghaaGreatWhl28
set_option linter.all false
/-! Printed by gen_check.py. Layer 7: check: what is wrong with an item. -/
namespace Go.Proofs.YtbbdhknagofghaaGreat
open Go.RowKit
set_option maxRecDepth 100000 in
set_option maxHeartbeats 8000000 in
theorem check_state (A1 A2 A3 A4 A5 A6 A7 : Option Addr) (p : Pg) (c1 c2 c3 c4 c5 c6 c7 : Nat) (B i : Nat) (f : Sa) (s0 s1 s2 s3 s4 s5 s6 s7 s8 s9 s10 s11 s12 s13 : Value) (w : World) (hB : B ≤ w.heap.size) (hP : PgS w B A1 A2 A3 A4 A5 A6 A7 p) (hi : p.states[i]? = some f) :
  Calls Tryz.prog 32 #[.agg #[.slice A1 p.headers.length c1, .slice A2 p.metas.length c2, .slice A3 p.states.length c3, .slice A4 p.actions.length c4, .slice A5 p.tables.length c5, .slice A6 p.control.length c6, .slice A7 p.emit.length c7], .agg #[.int .u8 4, .int .i64 (i : Int), .int .i64 0, s0, s1, s2, s3, s4, s5, s6, s7, s8, s9, s10, s11, s12, s13]] w fun r w' => r = .returned (.int .i64 (isI (decide (stateI p f.name < (i : Int))) 8)) ∧ Below w.heap.size w w' := by
 obtain ⟨wa, hwa, hsa, hba, hca, -⟩ := box1 w #[.slice A1 p.headers.length c1, .slice A2 p.metas.length c2, .slice A3 p.states.length c3, .slice A4 p.actions.length c4, .slice A5 p.tables.length c5, .slice A6 p.control.length c6, .slice A7 p.emit.length c7] 30
 obtain ⟨wb, hwb, hsb, hbb, hcb, -⟩ := box1 wa #[.int .u8 4, .int .i64 (i : Int), .int .i64 0, s0, s1, s2, s3, s4, s5, s6, s7, s8, s9, s10, s11, s12, s13] 49
 have hw := hba.trans (hbb.mono (by omega))
 have q : ∀ i, wb.cell? ⟨w.heap.size, i, none⟩ = wa.cell? ⟨w.heap.size, i, none⟩ := fun i => hbb.cell (p := ⟨w.heap.size, i, none⟩) (by show w.heap.size < _; omega)
 have hqz := fun i => (q i).trans (hca i)
 obtain ⟨z0, z1, z2, z3, z4, z5, z6⟩ := row7 (w := wb) (a := w.heap.size) fun i => hqz i
 simp only [hsa] at hcb
 obtain ⟨y0, y1, y2, y3, y4, y5, y6, y7, y8, y9, y10, y11, y12, y13, y14, y15, y16⟩ := row17 hcb
 have hl1 : w.heap.size < wb.heap.size := by omega
 have hl2 : w.heap.size + 1 < wb.heap.size := by omega
 have hz2 : w.heap.size + 2 ≤ wb.heap.size := by omega
 have hBb : B ≤ wb.heap.size := by omega
 have hP2 := hP.below (hw.mono hB)
 have hb0 : Below wb.heap.size wb wb := Below.refl _ _
 have hwC := hide hw
 replace hsb := hide hsb
 have eg := enters_twice
 clear hP hqz q hbb hba hca hcb
 have lst := hP2.states.len
 obtain ⟨b, o, ecs, hA, hb, hel, hcell, B1, d1, B2, d2, B3, d3, rfl, hn, hd, hF, hG, hH⟩ := hP2.states.2 i _ hi
 subst hA
 obtain ⟨x0, x1, x2, x3, x4⟩ := srow5 hcell
 have hbw : b < wb.heap.size := by omega
 have hiz : (i : Int) < (p.states.length : Int) := by have := (List.getElem?_eq_some_iff.1 hi).1; omega
 have hg := gcell' hb0 hb0.size
 have hX : ∀ d os, Hid (Calls Tryz.prog 86 #[.agg #[.slice A1 p.headers.length c1, .slice A2 p.metas.length c2, .slice (some ⟨b, o, none⟩) p.states.length c3, .slice A4 p.actions.length c4, .slice A5 p.tables.length c5, .slice A6 p.control.length c6, .slice A7 p.emit.length c7], .string f.name] (Go.Sort.grow (redrawn wb d) os) _) := fun d os => hide (state_any _ A1 A2 (some ⟨b, o, none⟩) A4 A5 A6 A7 p c1 c2 c3 c4 c5 c6 c7 f.name (hP2.grown hBb d os).1 (hP2.grown hBb d os).2)
 generalize stateI p f.name = zz at hX ⊢
 generalize stateB p f.name = zb at hX
 replace hP2 := hide hP2
 clear hb0 hcell hi
 go_enter Tryz.func32, Tryz.ntmps32
 go_wp2_with fail
 refine wp_region_quiet_below (by kernel_rfl) (by kernel_rfl) ?_
 repeat (any_goals (first | go_big_quiet_step (first | (go_at_call 86; with_reducible exact Calls.regrown_of (hX _ _).out) | fail) | quiet_step (first | (go_at_call 86; with_reducible exact Calls.regrown_of (hX _ _).out) | fail)))
 refine wpQuiet_nil ?_
 intro w1 hw1
 replace hw1 := below_of_regrown hw1
 have hc1 := bcell' hw1
 have hT := hide (twice_b zz (i : Int) (w.heap.size + 1) w1 ((hc1.1 _ _ hl2).trans y1))
 have hB1 : wb.heap.size ≤ w1.heap.size := hw1.size
 replace hw1 := hide hw1
 go_wp2_with (go_at_fn 79; refine hT.out.mono ?_; rintro e w2 ⟨rfl, hw2⟩)
 go_ret
 exact ⟨rfl, (hwC.out.trans (hw1.out.mono (by omega))).trans (hw2.mono (by omega))⟩
set_option maxRecDepth 100000 in
set_option maxHeartbeats 8000000 in
theorem check_take (A1 A2 A3 A4 A5 A6 A7 : Option Addr) (p : Pg) (c1 c2 c3 c4 c5 c6 c7 : Nat) (B i : Nat) (s : Sa) (j : Nat) (nm : ByteArray) (s0 s1 s2 s3 s4 s5 s6 s7 s8 s9 s10 s11 s12 s13 : Value) (w : World) (hB : B ≤ w.heap.size) (hP : PgS w B A1 A2 A3 A4 A5 A6 A7 p) (hi : p.states[i]? = some s) (hj : s.takes[j]? = some nm) :
  Calls Tryz.prog 32 #[.agg #[.slice A1 p.headers.length c1, .slice A2 p.metas.length c2, .slice A3 p.states.length c3, .slice A4 p.actions.length c4, .slice A5 p.tables.length c5, .slice A6 p.control.length c6, .slice A7 p.emit.length c7], .agg #[.int .u8 5, .int .i64 (i : Int), .int .i64 (j : Int), s0, s1, s2, s3, s4, s5, s6, s7, s8, s9, s10, s11, s12, s13]] w fun r w' => r = .returned (.int .i64 (isI (decide (headerI p nm < 0)) 7)) ∧ Below w.heap.size w w' := by
 obtain ⟨wa, hwa, hsa, hba, hca, -⟩ := box1 w #[.slice A1 p.headers.length c1, .slice A2 p.metas.length c2, .slice A3 p.states.length c3, .slice A4 p.actions.length c4, .slice A5 p.tables.length c5, .slice A6 p.control.length c6, .slice A7 p.emit.length c7] 30
 obtain ⟨wb, hwb, hsb, hbb, hcb, -⟩ := box1 wa #[.int .u8 5, .int .i64 (i : Int), .int .i64 (j : Int), s0, s1, s2, s3, s4, s5, s6, s7, s8, s9, s10, s11, s12, s13] 49
 have hw := hba.trans (hbb.mono (by omega))
 have q : ∀ i, wb.cell? ⟨w.heap.size, i, none⟩ = wa.cell? ⟨w.heap.size, i, none⟩ := fun i => hbb.cell (p := ⟨w.heap.size, i, none⟩) (by show w.heap.size < _; omega)
 have hqz := fun i => (q i).trans (hca i)
 obtain ⟨z0, z1, z2, z3, z4, z5, z6⟩ := row7 (w := wb) (a := w.heap.size) fun i => hqz i
 simp only [hsa] at hcb
 obtain ⟨y0, y1, y2, y3, y4, y5, y6, y7, y8, y9, y10, y11, y12, y13, y14, y15, y16⟩ := row17 hcb
 have hl1 : w.heap.size < wb.heap.size := by omega
 have hl2 : w.heap.size + 1 < wb.heap.size := by omega
 have hz2 : w.heap.size + 2 ≤ wb.heap.size := by omega
 have hBb : B ≤ wb.heap.size := by omega
 have hP2 := hP.below (hw.mono hB)
 have hb0 : Below wb.heap.size wb wb := Below.refl _ _
 have hwC := hide hw
 replace hsb := hide hsb
 have eg := enters_twice
 clear hP hqz q hbb hba hca hcb
 have hX := hide (parsed_take A1 A2 A3 A4 A5 A6 A7 p c1 c2 c3 c4 c5 c6 c7 B i s j nm s0 s1 s2 s3 s4 s5 s6 s7 s8 s9 s10 s11 s12 s13 wb hBb hP2 hi hj)
 replace hP2 := hide hP2
 clear hb0 hi eg
 go_enter Tryz.func32, Tryz.ntmps32
 go_wp2_with (go_at_call 87; refine hX.out.mono ?_; rintro e w1 ⟨rfl, hw1⟩)
 go_ret
 exact ⟨rfl, hwC.out.trans (hw1.mono (by omega))⟩
set_option maxRecDepth 100000 in
set_option maxHeartbeats 8000000 in
theorem check_next (A1 A2 A3 A4 A5 A6 A7 : Option Addr) (p : Pg) (c1 c2 c3 c4 c5 c6 c7 : Nat) (B i : Nat) (s : Sa) (j : Int) (s0 s1 s2 s3 s4 s5 s6 s7 s8 s9 s10 s11 s12 s13 : Value) (w : World) (hB : B ≤ w.heap.size) (hP : PgS w B A1 A2 A3 A4 A5 A6 A7 p) (hi : p.states[i]? = some s) :
  Calls Tryz.prog 32 #[.agg #[.slice A1 p.headers.length c1, .slice A2 p.metas.length c2, .slice A3 p.states.length c3, .slice A4 p.actions.length c4, .slice A5 p.tables.length c5, .slice A6 p.control.length c6, .slice A7 p.emit.length c7], .agg #[.int .u8 6, .int .i64 (i : Int), .int .i64 j, s0, s1, s2, s3, s4, s5, s6, s7, s8, s9, s10, s11, s12, s13]] w fun r w' => r = .returned (.int .i64 (nextI p s)) ∧ Below w.heap.size w w' := by
 obtain ⟨wa, hwa, hsa, hba, hca, -⟩ := box1 w #[.slice A1 p.headers.length c1, .slice A2 p.metas.length c2, .slice A3 p.states.length c3, .slice A4 p.actions.length c4, .slice A5 p.tables.length c5, .slice A6 p.control.length c6, .slice A7 p.emit.length c7] 30
 obtain ⟨wb, hwb, hsb, hbb, hcb, -⟩ := box1 wa #[.int .u8 6, .int .i64 (i : Int), .int .i64 j, s0, s1, s2, s3, s4, s5, s6, s7, s8, s9, s10, s11, s12, s13] 49
 have hw := hba.trans (hbb.mono (by omega))
 have q : ∀ i, wb.cell? ⟨w.heap.size, i, none⟩ = wa.cell? ⟨w.heap.size, i, none⟩ := fun i => hbb.cell (p := ⟨w.heap.size, i, none⟩) (by show w.heap.size < _; omega)
 have hqz := fun i => (q i).trans (hca i)
 obtain ⟨z0, z1, z2, z3, z4, z5, z6⟩ := row7 (w := wb) (a := w.heap.size) fun i => hqz i
 simp only [hsa] at hcb
 obtain ⟨y0, y1, y2, y3, y4, y5, y6, y7, y8, y9, y10, y11, y12, y13, y14, y15, y16⟩ := row17 hcb
 have hl1 : w.heap.size < wb.heap.size := by omega
 have hl2 : w.heap.size + 1 < wb.heap.size := by omega
 have hz2 : w.heap.size + 2 ≤ wb.heap.size := by omega
 have hBb : B ≤ wb.heap.size := by omega
 have hP2 := hP.below (hw.mono hB)
 have hb0 : Below wb.heap.size wb wb := Below.refl _ _
 have hwC := hide hw
 replace hsb := hide hsb
 have eg := enters_twice
 clear hP hqz q hbb hba hca hcb
 have hX := hide (parsed_next A1 A2 A3 A4 A5 A6 A7 p c1 c2 c3 c4 c5 c6 c7 B i s j s0 s1 s2 s3 s4 s5 s6 s7 s8 s9 s10 s11 s12 s13 wb hBb hP2 hi)
 replace hP2 := hide hP2
 clear hb0 hi eg
 go_enter Tryz.func32, Tryz.ntmps32
 go_wp2_with (go_at_call 87; refine hX.out.mono ?_; rintro e w1 ⟨rfl, hw1⟩)
 go_ret
 exact ⟨rfl, hwC.out.trans (hw1.mono (by omega))⟩
set_option maxRecDepth 100000 in
set_option maxHeartbeats 8000000 in
theorem check_case (A1 A2 A3 A4 A5 A6 A7 : Option Addr) (p : Pg) (c1 c2 c3 c4 c5 c6 c7 : Nat) (B i : Nat) (s : Sa) (j : Nat) (c : Ca) (s0 s1 s2 s3 s4 s5 s6 s7 s8 s9 s10 s11 s12 s13 : Value) (w : World) (hB : B ≤ w.heap.size) (hP : PgS w B A1 A2 A3 A4 A5 A6 A7 p) (hi : p.states[i]? = some s) (hj : s.cases_[j]? = some c) :
  Calls Tryz.prog 32 #[.agg #[.slice A1 p.headers.length c1, .slice A2 p.metas.length c2, .slice A3 p.states.length c3, .slice A4 p.actions.length c4, .slice A5 p.tables.length c5, .slice A6 p.control.length c6, .slice A7 p.emit.length c7], .agg #[.int .u8 7, .int .i64 (i : Int), .int .i64 (j : Int), s0, s1, s2, s3, s4, s5, s6, s7, s8, s9, s10, s11, s12, s13]] w fun r w' => r = .returned (.int .i64 (toI p c.dest)) ∧ Below w.heap.size w w' := by
 obtain ⟨wa, hwa, hsa, hba, hca, -⟩ := box1 w #[.slice A1 p.headers.length c1, .slice A2 p.metas.length c2, .slice A3 p.states.length c3, .slice A4 p.actions.length c4, .slice A5 p.tables.length c5, .slice A6 p.control.length c6, .slice A7 p.emit.length c7] 30
 obtain ⟨wb, hwb, hsb, hbb, hcb, -⟩ := box1 wa #[.int .u8 7, .int .i64 (i : Int), .int .i64 (j : Int), s0, s1, s2, s3, s4, s5, s6, s7, s8, s9, s10, s11, s12, s13] 49
 have hw := hba.trans (hbb.mono (by omega))
 have q : ∀ i, wb.cell? ⟨w.heap.size, i, none⟩ = wa.cell? ⟨w.heap.size, i, none⟩ := fun i => hbb.cell (p := ⟨w.heap.size, i, none⟩) (by show w.heap.size < _; omega)
 have hqz := fun i => (q i).trans (hca i)
 obtain ⟨z0, z1, z2, z3, z4, z5, z6⟩ := row7 (w := wb) (a := w.heap.size) fun i => hqz i
 simp only [hsa] at hcb
 obtain ⟨y0, y1, y2, y3, y4, y5, y6, y7, y8, y9, y10, y11, y12, y13, y14, y15, y16⟩ := row17 hcb
 have hl1 : w.heap.size < wb.heap.size := by omega
 have hl2 : w.heap.size + 1 < wb.heap.size := by omega
 have hz2 : w.heap.size + 2 ≤ wb.heap.size := by omega
 have hBb : B ≤ wb.heap.size := by omega
 have hP2 := hP.below (hw.mono hB)
 have hb0 : Below wb.heap.size wb wb := Below.refl _ _
 have hwC := hide hw
 replace hsb := hide hsb
 have eg := enters_twice
 clear hP hqz q hbb hba hca hcb
 have hX := hide (parsed_case A1 A2 A3 A4 A5 A6 A7 p c1 c2 c3 c4 c5 c6 c7 B i s j c s0 s1 s2 s3 s4 s5 s6 s7 s8 s9 s10 s11 s12 s13 wb hBb hP2 hi hj)
 replace hP2 := hide hP2
 clear hb0 hi eg
 go_enter Tryz.func32, Tryz.ntmps32
 go_wp2_with (go_at_call 87; refine hX.out.mono ?_; rintro e w1 ⟨rfl, hw1⟩)
 go_ret
 exact ⟨rfl, hwC.out.trans (hw1.mono (by omega))⟩
end Go.Proofs.YtbbdhknagofghaaGreat
/-! Printed by gen_check.py. Layer 7: check: what is wrong with an item. -/
namespace Go.Proofs.YtbbdhknagofghaaGreat
open Go.RowKit
set_option maxRecDepth 100000 in
set_option maxHeartbeats 8000000 in
theorem check_stmt (A1 A2 A3 A4 A5 A6 A7 : Option Addr) (p : Pg) (c1 c2 c3 c4 c5 c6 c7 : Nat) (B : Nat) (act : Int) (st : St) (s0 s1 s2 s3 s4 s5 s6 s7 s8 s9 s10 s11 s12 s13 : Value) (w : World) (hB : B ≤ w.heap.size) (hP : PgS w B A1 A2 A3 A4 A5 A6 A7 p) (hst : rSt w B [s0, s1, s2, s3, s4, s5, s6, s7, s8, s9, s10, s11, s12, s13] st) :
  Calls Tryz.prog 32 #[.agg #[.slice A1 p.headers.length c1, .slice A2 p.metas.length c2, .slice A3 p.states.length c3, .slice A4 p.actions.length c4, .slice A5 p.tables.length c5, .slice A6 p.control.length c6, .slice A7 p.emit.length c7], .agg #[.int .u8 10, .int .i64 act, .int .i64 0, s0, s1, s2, s3, s4, s5, s6, s7, s8, s9, s10, s11, s12, s13]] w fun r w' => r = .returned (.int .i64 (stmtI p act st)) ∧ Below w.heap.size w w' := by
 obtain ⟨wa, hwa, hsa, hba, hca, -⟩ := box1 w #[.slice A1 p.headers.length c1, .slice A2 p.metas.length c2, .slice A3 p.states.length c3, .slice A4 p.actions.length c4, .slice A5 p.tables.length c5, .slice A6 p.control.length c6, .slice A7 p.emit.length c7] 30
 obtain ⟨wb, hwb, hsb, hbb, hcb, -⟩ := box1 wa #[.int .u8 10, .int .i64 act, .int .i64 0, s0, s1, s2, s3, s4, s5, s6, s7, s8, s9, s10, s11, s12, s13] 49
 have hw := hba.trans (hbb.mono (by omega))
 have q : ∀ i, wb.cell? ⟨w.heap.size, i, none⟩ = wa.cell? ⟨w.heap.size, i, none⟩ := fun i => hbb.cell (p := ⟨w.heap.size, i, none⟩) (by show w.heap.size < _; omega)
 have hqz := fun i => (q i).trans (hca i)
 obtain ⟨z0, z1, z2, z3, z4, z5, z6⟩ := row7 (w := wb) (a := w.heap.size) fun i => hqz i
 simp only [hsa] at hcb
 obtain ⟨y0, y1, y2, y3, y4, y5, y6, y7, y8, y9, y10, y11, y12, y13, y14, y15, y16⟩ := row17 hcb
 have hl1 : w.heap.size < wb.heap.size := by omega
 have hl2 : w.heap.size + 1 < wb.heap.size := by omega
 have hz2 : w.heap.size + 2 ≤ wb.heap.size := by omega
 have hBb : B ≤ wb.heap.size := by omega
 have hP2 := hP.below (hw.mono hB)
 have hb0 : Below wb.heap.size wb wb := Below.refl _ _
 have hwC := hide hw
 replace hsb := hide hsb
 have eg := enters_twice
 clear hP hqz q hbb hba hca hcb
 have hX := hide (stmt_any A1 A2 A3 A4 A5 A6 A7 p c1 c2 c3 c4 c5 c6 c7 act B st [s0, s1, s2, s3, s4, s5, s6, s7, s8, s9, s10, s11, s12, s13] wb hBb hP2 (sta_st.keep hst fun q hq => (hwC.out.mono hB).cell hq))
 replace hP2 := hide hP2
 clear hb0 hst eg
 go_enter Tryz.func32, Tryz.ntmps32
 go_wp2_with (go_at_call 89; refine hX.out.mono ?_; rintro e w1 ⟨rfl, hw1⟩)
 go_ret
 exact ⟨rfl, hwC.out.trans (hw1.mono (by omega))⟩
set_option maxRecDepth 100000 in
set_option maxHeartbeats 8000000 in
theorem check_key (A1 A2 A3 A4 A5 A6 A7 : Option Addr) (p : Pg) (c1 c2 c3 c4 c5 c6 c7 : Nat) (B i : Nat) (j : Nat) (f : Ta) (g : Ky) (s0 s1 s2 s3 s4 s5 s6 s7 s8 s9 s10 s11 s12 s13 : Value) (w : World) (hB : B ≤ w.heap.size) (hP : PgS w B A1 A2 A3 A4 A5 A6 A7 p) (hi : p.tables[i]? = some f) (hj : f.keys[j]? = some g) :
  Calls Tryz.prog 32 #[.agg #[.slice A1 p.headers.length c1, .slice A2 p.metas.length c2, .slice A3 p.states.length c3, .slice A4 p.actions.length c4, .slice A5 p.tables.length c5, .slice A6 p.control.length c6, .slice A7 p.emit.length c7], .agg #[.int .u8 12, .int .i64 (i : Int), .int .i64 (j : Int), s0, s1, s2, s3, s4, s5, s6, s7, s8, s9, s10, s11, s12, s13]] w fun r w' => r = .returned (.int .i64 (namesI p (-1) g.e)) ∧ Below w.heap.size w w' := by
 obtain ⟨wa, hwa, hsa, hba, hca, -⟩ := box1 w #[.slice A1 p.headers.length c1, .slice A2 p.metas.length c2, .slice A3 p.states.length c3, .slice A4 p.actions.length c4, .slice A5 p.tables.length c5, .slice A6 p.control.length c6, .slice A7 p.emit.length c7] 30
 obtain ⟨wb, hwb, hsb, hbb, hcb, -⟩ := box1 wa #[.int .u8 12, .int .i64 (i : Int), .int .i64 (j : Int), s0, s1, s2, s3, s4, s5, s6, s7, s8, s9, s10, s11, s12, s13] 49
 have hw := hba.trans (hbb.mono (by omega))
 have q : ∀ i, wb.cell? ⟨w.heap.size, i, none⟩ = wa.cell? ⟨w.heap.size, i, none⟩ := fun i => hbb.cell (p := ⟨w.heap.size, i, none⟩) (by show w.heap.size < _; omega)
 have hqz := fun i => (q i).trans (hca i)
 obtain ⟨z0, z1, z2, z3, z4, z5, z6⟩ := row7 (w := wb) (a := w.heap.size) fun i => hqz i
 simp only [hsa] at hcb
 obtain ⟨y0, y1, y2, y3, y4, y5, y6, y7, y8, y9, y10, y11, y12, y13, y14, y15, y16⟩ := row17 hcb
 have hl1 : w.heap.size < wb.heap.size := by omega
 have hl2 : w.heap.size + 1 < wb.heap.size := by omega
 have hz2 : w.heap.size + 2 ≤ wb.heap.size := by omega
 have hBb : B ≤ wb.heap.size := by omega
 have hP2 := hP.below (hw.mono hB)
 have hb0 : Below wb.heap.size wb wb := Below.refl _ _
 have hwC := hide hw
 replace hsb := hide hsb
 have eg := enters_twice
 clear hP hqz q hbb hba hca hcb
 have lst := hP2.tables.len
 obtain ⟨b, o, ecs, hA, hb, hel, hcell, B1, d1, B2, d2, B3, d3, rfl, hn, hd, hF, hG, hH⟩ := hP2.tables.2 i _ hi
 subst hA
 obtain ⟨x0, x1, x2, x3, x4⟩ := srow5 hcell
 have hbw : b < wb.heap.size := by omega
 have hiz : (i : Int) < (p.tables.length : Int) := by have := (List.getElem?_eq_some_iff.1 hi).1; omega
 have hlf := hF.len
 obtain ⟨b', o', ecs', hA', hb', hel', hcell', es, rfl, hz, he⟩ := hF.2 j _ hj
 subst hA'
 have hN : ∀ d os, Hid (Calls Tryz.prog 91 #[.agg #[.slice A1 p.headers.length c1, .slice A2 p.metas.length c2, .slice A3 p.states.length c3, .slice A4 p.actions.length c4, .slice (some ⟨b, o, none⟩) p.tables.length c5, .slice A6 p.control.length c6, .slice A7 p.emit.length c7], .int .i64 (-1), .agg es.toArray] (Go.Sort.grow (redrawn wb d) os) _) := fun d os => hide (names_any A1 A2 A3 A4 (some ⟨b, o, none⟩) A6 A7 p c1 c2 c3 c4 c5 c6 c7 (-1) B g.e es _ (hP2.grown hBb d os).1 (hP2.grown hBb d os).2 (sta_ex.keep he fun q hq => ((below_regrown wb d os).mono hBb).cell hq))
 obtain ⟨ge, gk⟩ := g
 obtain ⟨op, lit, head, name, hi0, lo, args⟩ := ge
 obtain ⟨Ae, ecap, rfl, -, -, -, -, -, -, hs⟩ := RE.inv he
 have le := hs.len
 obtain ⟨n0, n1, n2, n3, n4, n5, n6, n7, n8, n9⟩ := srow10 hcell'
 have hbw' : b' < wb.heap.size := by omega
 have hjz : (j : Int) < (f.keys.length : Int) := by have := (List.getElem?_eq_some_iff.1 hj).1; omega
 replace hN : ∀ d os, Hid (Calls Tryz.prog 91 #[.agg #[.slice A1 p.headers.length c1, .slice A2 p.metas.length c2, .slice A3 p.states.length c3, .slice A4 p.actions.length c4, .slice (some ⟨b, o, none⟩) p.tables.length c5, .slice A6 p.control.length c6, .slice A7 p.emit.length c7], .int .i64 (-1), .agg #[.int .u8 op, .int .i64 lit.1, .int .u64 lit.2.1, .int .u64 lit.2.2, .string head, .string name, .int .i64 hi0, .int .i64 lo, .slice Ae args.length ecap]] (Go.Sort.grow (redrawn wb d) os) _) := hN
 have hg := gcell' hb0 hb0.size
 show Calls _ _ _ _ fun r w' => r = .returned (.int .i64 (namesI p (-1) (.mk op lit head name hi0 lo args))) ∧ _
 generalize namesI p (-1) (.mk op lit head name hi0 lo args) = zz at hN ⊢
 replace hP2 := hide hP2
 clear hb0 hcell hcell' hi hj eg he hs
 go_enter Tryz.func32, Tryz.ntmps32
 go_wp2_with fail
 refine wp_region_quiet_below (by kernel_rfl) (by kernel_rfl) ?_
 repeat (any_goals (first | go_big_quiet_step (first | (go_at_call 91; with_reducible exact Calls.regrown_of (hN _ _).out) | fail) | quiet_step (first | (go_at_call 91; with_reducible exact Calls.regrown_of (hN _ _).out) | fail)))
 refine wpQuiet_nil ?_
 intro w1 hw1
 replace hw1 := below_of_regrown hw1
 go_wp2
 go_ret
 exact ⟨rfl, hwC.out.trans (hw1.mono (by omega))⟩
set_option maxRecDepth 100000 in
set_option maxHeartbeats 8000000 in
theorem check_default (A1 A2 A3 A4 A5 A6 A7 : Option Addr) (p : Pg) (c1 c2 c3 c4 c5 c6 c7 : Nat) (B i : Nat) (f : Ta) (s0 s1 s2 s3 s4 s5 s6 s7 s8 s9 s10 s11 s12 s13 : Value) (w : World) (hB : B ≤ w.heap.size) (hP : PgS w B A1 A2 A3 A4 A5 A6 A7 p) (hi : p.tables[i]? = some f) :
  Calls Tryz.prog 32 #[.agg #[.slice A1 p.headers.length c1, .slice A2 p.metas.length c2, .slice A3 p.states.length c3, .slice A4 p.actions.length c4, .slice A5 p.tables.length c5, .slice A6 p.control.length c6, .slice A7 p.emit.length c7], .agg #[.int .u8 14, .int .i64 (i : Int), .int .i64 0, s0, s1, s2, s3, s4, s5, s6, s7, s8, s9, s10, s11, s12, s13]] w fun r w' => r = .returned (.int .i64 (fixedI p f)) ∧ Below w.heap.size w w' := by
 obtain ⟨wa, hwa, hsa, hba, hca, -⟩ := box1 w #[.slice A1 p.headers.length c1, .slice A2 p.metas.length c2, .slice A3 p.states.length c3, .slice A4 p.actions.length c4, .slice A5 p.tables.length c5, .slice A6 p.control.length c6, .slice A7 p.emit.length c7] 30
 obtain ⟨wb, hwb, hsb, hbb, hcb, -⟩ := box1 wa #[.int .u8 14, .int .i64 (i : Int), .int .i64 0, s0, s1, s2, s3, s4, s5, s6, s7, s8, s9, s10, s11, s12, s13] 49
 have hw := hba.trans (hbb.mono (by omega))
 have q : ∀ i, wb.cell? ⟨w.heap.size, i, none⟩ = wa.cell? ⟨w.heap.size, i, none⟩ := fun i => hbb.cell (p := ⟨w.heap.size, i, none⟩) (by show w.heap.size < _; omega)
 have hqz := fun i => (q i).trans (hca i)
 obtain ⟨z0, z1, z2, z3, z4, z5, z6⟩ := row7 (w := wb) (a := w.heap.size) fun i => hqz i
 simp only [hsa] at hcb
 obtain ⟨y0, y1, y2, y3, y4, y5, y6, y7, y8, y9, y10, y11, y12, y13, y14, y15, y16⟩ := row17 hcb
 have hl1 : w.heap.size < wb.heap.size := by omega
 have hl2 : w.heap.size + 1 < wb.heap.size := by omega
 have hz2 : w.heap.size + 2 ≤ wb.heap.size := by omega
 have hBb : B ≤ wb.heap.size := by omega
 have hP2 := hP.below (hw.mono hB)
 have hb0 : Below wb.heap.size wb wb := Below.refl _ _
 have hwC := hide hw
 replace hsb := hide hsb
 have eg := enters_twice
 clear hP hqz q hbb hba hca hcb
 have lst := hP2.tables.len
 obtain ⟨b, o, ecs, hA, hb, hel, hcell, B1, d1, B2, d2, B3, d3, rfl, hn, hd, hF, hG, hH⟩ := hP2.tables.2 i _ hi
 subst hA
 obtain ⟨x0, x1, x2, x3, x4⟩ := srow5 hcell
 have hbw : b < wb.heap.size := by omega
 have hiz : (i : Int) < (p.tables.length : Int) := by have := (List.getElem?_eq_some_iff.1 hi).1; omega
 have hlf := hF.len
 have hlg := hG.len
 have hlh := hH.len
 have hX : ∀ d os, Hid (Calls Tryz.prog 93 #[.agg #[.slice A1 p.headers.length c1, .slice A2 p.metas.length c2, .slice A3 p.states.length c3, .slice A4 p.actions.length c4, .slice (some ⟨b, o, none⟩) p.tables.length c5, .slice A6 p.control.length c6, .slice A7 p.emit.length c7], .agg #[.string f.name, .slice B1 f.keys.length d1, .slice B2 f.actions.length d2, .string f.dname, .slice B3 f.dargs.length d3]] (Go.Sort.grow (redrawn wb d) os) _) := fun d os => hide (fixed_any A1 A2 A3 A4 (some ⟨b, o, none⟩) A6 A7 p c1 c2 c3 c4 c5 c6 c7 B f B1 B2 B3 d1 d2 d3 _ (hP2.grown hBb d os).1 (hP2.grown hBb d os).2 hF.1 (hG.below sta_str ((below_regrown wb d os).mono hBb)) hH.1)
 have hg := gcell' hb0 hb0.size
 generalize fixedI p f = zz at hX ⊢
 replace hP2 := hide hP2
 clear hb0 hcell hi eg hF hG hH
 go_enter Tryz.func32, Tryz.ntmps32
 go_wp2_with fail
 refine wp_region_quiet_below (by kernel_rfl) (by kernel_rfl) ?_
 repeat (any_goals (first | go_big_quiet_step (first | (go_at_call 93; with_reducible exact Calls.regrown_of (hX _ _).out) | fail) | quiet_step (first | (go_at_call 93; with_reducible exact Calls.regrown_of (hX _ _).out) | fail)))
 refine wpQuiet_nil ?_
 intro w1 hw1
 replace hw1 := below_of_regrown hw1
 go_wp2
 go_ret
 exact ⟨rfl, hwC.out.trans (hw1.mono (by omega))⟩
end Go.Proofs.YtbbdhknagofghaaGreat
/-! Printed by gen_check.py. Layer 7: check: what is wrong with an item. -/
namespace Go.Proofs.YtbbdhknagofghaaGreat
open Go.RowKit
theorem sindexS_b (A : Option Addr) (cap : Nat) (xs : List ByteArray) (n : ByteArray) (w : World) (h : Sl 1 rStr w w.heap.size A xs) :
  Calls Tryz.prog 92 #[.slice A xs.length cap, .string n] w fun e w' => e = .returned (.int .i64 (findI xs n)) ∧ Below w.heap.size w w' :=
 (sindexS_any A cap xs n w h).mono fun _ _ ⟨h1, h2⟩ => ⟨h1, h2 ▸ Below.refl _ _⟩
theorem Sl.grownS {α : Type} {R : CR α} {k : Nat} {w : World} {B : Nat} {A : Option Addr} {xs : List α} (sR : Sta R) (h : Sl k R w B A xs) (hB : B ≤ w.heap.size) (d : Nat) (os : Array Obj) :
  Sl k R (Go.Sort.grow (redrawn w d) os) (Go.Sort.grow (redrawn w d) os).heap.size A xs :=
 (h.below sR ((below_regrown w d os).mono hB)).more sR (Nat.le_trans hB (gsize w d os))
set_option maxRecDepth 100000 in
set_option maxHeartbeats 8000000 in
theorem check_listed (A1 A2 A3 A4 A5 A6 A7 : Option Addr) (p : Pg) (c1 c2 c3 c4 c5 c6 c7 : Nat) (B i : Nat) (j : Nat) (f : Ta) (g : ByteArray) (s0 s1 s2 s3 s4 s5 s6 s7 s8 s9 s10 s11 s12 s13 : Value) (w : World) (hB : B ≤ w.heap.size) (hP : PgS w B A1 A2 A3 A4 A5 A6 A7 p) (hi : p.tables[i]? = some f) (hj : f.actions[j]? = some g) :
  Calls Tryz.prog 32 #[.agg #[.slice A1 p.headers.length c1, .slice A2 p.metas.length c2, .slice A3 p.states.length c3, .slice A4 p.actions.length c4, .slice A5 p.tables.length c5, .slice A6 p.control.length c6, .slice A7 p.emit.length c7], .agg #[.int .u8 13, .int .i64 (i : Int), .int .i64 (j : Int), s0, s1, s2, s3, s4, s5, s6, s7, s8, s9, s10, s11, s12, s13]] w fun r w' => r = .returned (.int .i64 (eitherI (isI (decide (actionI p g < 0)) 7) (isI (decide (findI f.actions g < (j : Int))) 8))) ∧ Below w.heap.size w w' := by
 obtain ⟨wa, hwa, hsa, hba, hca, -⟩ := box1 w #[.slice A1 p.headers.length c1, .slice A2 p.metas.length c2, .slice A3 p.states.length c3, .slice A4 p.actions.length c4, .slice A5 p.tables.length c5, .slice A6 p.control.length c6, .slice A7 p.emit.length c7] 30
 obtain ⟨wb, hwb, hsb, hbb, hcb, -⟩ := box1 wa #[.int .u8 13, .int .i64 (i : Int), .int .i64 (j : Int), s0, s1, s2, s3, s4, s5, s6, s7, s8, s9, s10, s11, s12, s13] 49
 have hw := hba.trans (hbb.mono (by omega))
 have q : ∀ i, wb.cell? ⟨w.heap.size, i, none⟩ = wa.cell? ⟨w.heap.size, i, none⟩ := fun i => hbb.cell (p := ⟨w.heap.size, i, none⟩) (by show w.heap.size < _; omega)
 have hqz := fun i => (q i).trans (hca i)
 obtain ⟨z0, z1, z2, z3, z4, z5, z6⟩ := row7 (w := wb) (a := w.heap.size) fun i => hqz i
 simp only [hsa] at hcb
 obtain ⟨y0, y1, y2, y3, y4, y5, y6, y7, y8, y9, y10, y11, y12, y13, y14, y15, y16⟩ := row17 hcb
 have hl1 : w.heap.size < wb.heap.size := by omega
 have hl2 : w.heap.size + 1 < wb.heap.size := by omega
 have hz2 : w.heap.size + 2 ≤ wb.heap.size := by omega
 have hBb : B ≤ wb.heap.size := by omega
 have hP2 := hP.below (hw.mono hB)
 have hb0 : Below wb.heap.size wb wb := Below.refl _ _
 have hwC := hide hw
 replace hsb := hide hsb
 have eg := enters_twice
 clear hP hqz q hbb hba hca hcb
 have lst := hP2.tables.len
 obtain ⟨b, o, ecs, hA, hb, hel, hcell, B1, d1, B2, d2, B3, d3, rfl, hn, hd, hF, hG, hH⟩ := hP2.tables.2 i _ hi
 subst hA
 obtain ⟨x0, x1, x2, x3, x4⟩ := srow5 hcell
 have hbw : b < wb.heap.size := by omega
 have hiz : (i : Int) < (p.tables.length : Int) := by have := (List.getElem?_eq_some_iff.1 hi).1; omega
 have hlf := hF.len
 have hlg := hG.len
 have hlh := hH.len
 have hjl := (List.getElem?_eq_some_iff.1 hj).1
 obtain ⟨b', o', u, hA', hb', hcell', hr, hz⟩ := hG.at1 hjl
 subst hA'
 cases hr
 rw [(List.getElem?_eq_some_iff.1 hj).2] at hcell' hz
 have hbw' : b' < wb.heap.size := by omega
 have hjz : (j : Int) < (f.actions.length : Int) := by omega
 have hg := gcell' hb0 hb0.size
 go_enter Tryz.func32, Tryz.ntmps32
 replace hP2 := hide hP2
 replace hG := hide hG
 clear hcell hi hj eg hF hH
 go_wp2_with fail
 refine wp_region_quiet_below (by kernel_rfl) (by kernel_rfl) ?_
 repeat (any_goals (first | go_big_quiet_step (fail) | quiet_step (fail)))
 refine wpQuiet_nil ?_
 intro w1 hw1
 replace hw1 := below_of_regrown hw1
 clear hg
 have hc1 := bcell' hw1
 have hB1 : B ≤ w1.heap.size := by have := hw1.size; omega
 have hP1 := hP2.out.below (hw1.mono hBb)
 have hG1 := hG.out.below sta_str (hw1.mono hBb)
 have hg := gcell' hw1 hw1.size
 have hI : ∀ b n d os, Hid (Calls Tryz.prog 80 #[.bool b, .int .i64 n] (Go.Sort.grow (redrawn w1 d) os) _) := fun b n d os => hide (is_b b n _)
 have hE : ∀ x y d os, Hid (Calls Tryz.prog 82 #[.int .i64 x, .int .i64 y] (Go.Sort.grow (redrawn w1 d) os) _) := fun x y d os => hide (either_b x y _)
 have hX : ∀ d os, Hid (Calls Tryz.prog 38 #[.agg #[.slice A1 p.headers.length c1, .slice A2 p.metas.length c2, .slice A3 p.states.length c3, .slice A4 p.actions.length c4, .slice (some ⟨b, o, none⟩) p.tables.length c5, .slice A6 p.control.length c6, .slice A7 p.emit.length c7], .string g] (Go.Sort.grow (redrawn w1 d) os) _) := fun d os => hide (action_any _ A1 A2 A3 A4 (some ⟨b, o, none⟩) A6 A7 p c1 c2 c3 c4 c5 c6 c7 g (hP1.grown hB1 d os).1 (hP1.grown hB1 d os).2)
 have hS : ∀ d os, Hid (Calls Tryz.prog 92 #[.slice (some ⟨b', o', none⟩) f.actions.length d2, .string g] (Go.Sort.grow (redrawn w1 d) os) _) := fun d os => hide (sindexS_b _ d2 f.actions g _ (hG1.grownS sta_str hB1 d os))
 generalize hzz : actionI p g = zz at hX
 generalize hzf : findI f.actions g = zf at hS
 replace hzz := hide hzz
 replace hzf := hide hzf
 replace hP1 := hide hP1
 replace hG1 := hide hG1
 replace hw1 := hide hw1
 clear hb0
 go_wp2_with fail
 refine wp_region_quiet_below (by kernel_rfl) (by kernel_rfl) ?_
 repeat (any_goals (first | go_big_quiet_step (first | (go_at_call 80; with_reducible exact Calls.regrown_of (hI _ _ _ _).out) | (go_at_call 82; with_reducible exact Calls.regrown_of (hE _ _ _ _).out) | (go_at_call 38; with_reducible exact Calls.regrown_of (hX _ _).out) | (go_at_call 92; with_reducible exact Calls.regrown_of (hS _ _).out)) | quiet_step (first | (go_at_call 80; with_reducible exact Calls.regrown_of (hI _ _ _ _).out) | (go_at_call 82; with_reducible exact Calls.regrown_of (hE _ _ _ _).out) | (go_at_call 38; with_reducible exact Calls.regrown_of (hX _ _).out) | (go_at_call 92; with_reducible exact Calls.regrown_of (hS _ _).out))))
 refine wpQuiet_nil ?_
 intro w2 hw2
 replace hw2 := below_of_regrown hw2
 go_wp2
 go_ret
 exact ⟨ret_int (by rw [hzz.out, hzf.out]), (hwC.out.trans (hw1.out.mono (by omega))).trans (hw2.mono (by have := hw1.out.size; omega))⟩
set_option maxRecDepth 100000 in
set_option maxHeartbeats 8000000 in
theorem check_emit (A1 A2 A3 A4 A5 A6 A7 : Option Addr) (p : Pg) (c1 c2 c3 c4 c5 c6 c7 : Nat) (B i : Nat) (g : ByteArray) (s0 s1 s2 s3 s4 s5 s6 s7 s8 s9 s10 s11 s12 s13 : Value) (w : World) (hB : B ≤ w.heap.size) (hP : PgS w B A1 A2 A3 A4 A5 A6 A7 p) (hi : p.emit[i]? = some g) :
  Calls Tryz.prog 32 #[.agg #[.slice A1 p.headers.length c1, .slice A2 p.metas.length c2, .slice A3 p.states.length c3, .slice A4 p.actions.length c4, .slice A5 p.tables.length c5, .slice A6 p.control.length c6, .slice A7 p.emit.length c7], .agg #[.int .u8 15, .int .i64 (i : Int), .int .i64 0, s0, s1, s2, s3, s4, s5, s6, s7, s8, s9, s10, s11, s12, s13]] w fun r w' => r = .returned (.int .i64 (eitherI (isI (decide (headerI p g < 0)) 7) (isI (decide (findI p.emit g < (i : Int))) 8))) ∧ Below w.heap.size w w' := by
 obtain ⟨wa, hwa, hsa, hba, hca, -⟩ := box1 w #[.slice A1 p.headers.length c1, .slice A2 p.metas.length c2, .slice A3 p.states.length c3, .slice A4 p.actions.length c4, .slice A5 p.tables.length c5, .slice A6 p.control.length c6, .slice A7 p.emit.length c7] 30
 obtain ⟨wb, hwb, hsb, hbb, hcb, -⟩ := box1 wa #[.int .u8 15, .int .i64 (i : Int), .int .i64 0, s0, s1, s2, s3, s4, s5, s6, s7, s8, s9, s10, s11, s12, s13] 49
 have hw := hba.trans (hbb.mono (by omega))
 have q : ∀ i, wb.cell? ⟨w.heap.size, i, none⟩ = wa.cell? ⟨w.heap.size, i, none⟩ := fun i => hbb.cell (p := ⟨w.heap.size, i, none⟩) (by show w.heap.size < _; omega)
 have hqz := fun i => (q i).trans (hca i)
 obtain ⟨z0, z1, z2, z3, z4, z5, z6⟩ := row7 (w := wb) (a := w.heap.size) fun i => hqz i
 simp only [hsa] at hcb
 obtain ⟨y0, y1, y2, y3, y4, y5, y6, y7, y8, y9, y10, y11, y12, y13, y14, y15, y16⟩ := row17 hcb
 have hl1 : w.heap.size < wb.heap.size := by omega
 have hl2 : w.heap.size + 1 < wb.heap.size := by omega
 have hz2 : w.heap.size + 2 ≤ wb.heap.size := by omega
 have hBb : B ≤ wb.heap.size := by omega
 have hP2 := hP.below (hw.mono hB)
 have hb0 : Below wb.heap.size wb wb := Below.refl _ _
 have hwC := hide hw
 replace hsb := hide hsb
 have eg := enters_twice
 clear hP hqz q hbb hba hca hcb
 have lst := hP2.emit.len
 have hil := (List.getElem?_eq_some_iff.1 hi).1
 obtain ⟨b, o, u, hA, hb, hcell, hr, hz⟩ := hP2.emit.at1 hil
 subst hA
 cases hr
 rw [(List.getElem?_eq_some_iff.1 hi).2] at hcell hz
 have hbw : b < wb.heap.size := by omega
 have hiz : (i : Int) < (p.emit.length : Int) := by omega
 have hg := gcell' hb0 hb0.size
 have hI : ∀ b n d os, Hid (Calls Tryz.prog 80 #[.bool b, .int .i64 n] (Go.Sort.grow (redrawn wb d) os) _) := fun b n d os => hide (is_b b n _)
 have hE : ∀ x y d os, Hid (Calls Tryz.prog 82 #[.int .i64 x, .int .i64 y] (Go.Sort.grow (redrawn wb d) os) _) := fun x y d os => hide (either_b x y _)
 have hX : ∀ d os, Hid (Calls Tryz.prog 83 #[.agg #[.slice A1 p.headers.length c1, .slice A2 p.metas.length c2, .slice A3 p.states.length c3, .slice A4 p.actions.length c4, .slice A5 p.tables.length c5, .slice A6 p.control.length c6, .slice (some ⟨b, o, none⟩) p.emit.length c7], .string g] (Go.Sort.grow (redrawn wb d) os) _) := fun d os => hide (header_any _ A1 A2 A3 A4 A5 A6 (some ⟨b, o, none⟩) p c1 c2 c3 c4 c5 c6 c7 g (hP2.grown hBb d os).1 (hP2.grown hBb d os).2)
 have hS : ∀ d os, Hid (Calls Tryz.prog 92 #[.slice (some ⟨b, o, none⟩) p.emit.length c7, .string g] (Go.Sort.grow (redrawn wb d) os) _) := fun d os => hide (sindexS_b _ c7 p.emit g _ (hP2.emit.grownS sta_str hBb d os))
 generalize headerI p g = zz at hX ⊢
 generalize findI p.emit g = zf at hS ⊢
 replace hP2 := hide hP2
 clear hb0 hi eg
 go_enter Tryz.func32, Tryz.ntmps32
 go_wp2_with fail
 refine wp_region_quiet_below (by kernel_rfl) (by kernel_rfl) ?_
 repeat (any_goals (first | go_big_quiet_step (first | (go_at_call 80; with_reducible exact Calls.regrown_of (hI _ _ _ _).out) | (go_at_call 82; with_reducible exact Calls.regrown_of (hE _ _ _ _).out) | (go_at_call 83; with_reducible exact Calls.regrown_of (hX _ _).out) | (go_at_call 92; with_reducible exact Calls.regrown_of (hS _ _).out)) | quiet_step (first | (go_at_call 80; with_reducible exact Calls.regrown_of (hI _ _ _ _).out) | (go_at_call 82; with_reducible exact Calls.regrown_of (hE _ _ _ _).out) | (go_at_call 83; with_reducible exact Calls.regrown_of (hX _ _).out) | (go_at_call 92; with_reducible exact Calls.regrown_of (hS _ _).out))))
 refine wpQuiet_nil ?_
 intro w1 hw1
 replace hw1 := below_of_regrown hw1
 go_wp2
 go_ret
 exact ⟨rfl, hwC.out.trans (hw1.mono (by omega))⟩
end Go.Proofs.YtbbdhknagofghaaGreat

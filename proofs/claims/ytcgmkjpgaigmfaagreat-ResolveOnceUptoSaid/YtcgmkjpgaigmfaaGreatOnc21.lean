import Derived.Test.YtcgmkjpgaigmfaaGreatOnc18
set_option linter.all false
/-! Printed by gen_check.py. Layer 7: check: what is wrong with an item. -/
namespace Go.Proofs.YtcgmkjpgaigmfaaGreat
open Go.RowKit
set_option maxRecDepth 100000 in
set_option maxHeartbeats 8000000 in
theorem check_stmt (A1 A2 A3 A4 A5 A6 A7 : Option Addr) (p : Pg) (c1 c2 c3 c4 c5 c6 c7 : Nat) (B : Nat) (act : Int) (st : St) (s0 s1 s2 s3 s4 s5 s6 s7 s8 s9 s10 s11 s12 s13 : Value) (w : World) (hB : B ≤ w.heap.size) (hP : PgS w B A1 A2 A3 A4 A5 A6 A7 p) (hst : rSt w B [s0, s1, s2, s3, s4, s5, s6, s7, s8, s9, s10, s11, s12, s13] st) :
    Calls Tryz.prog 21 #[.agg #[.slice A1 p.headers.length c1, .slice A2 p.metas.length c2, .slice A3 p.states.length c3, .slice A4 p.actions.length c4, .slice A5 p.tables.length c5, .slice A6 p.control.length c6, .slice A7 p.emit.length c7], .agg #[.int .u8 10, .int .i64 act, .int .i64 0, s0, s1, s2, s3, s4, s5, s6, s7, s8, s9, s10, s11, s12, s13]] w fun r w' => r = .returned (.int .i64 (stmtI p act st)) ∧ Below w.heap.size w w' := by
  obtain ⟨wa, hwa, hsa, hba, hca, -⟩ := box1 w #[.slice A1 p.headers.length c1, .slice A2 p.metas.length c2, .slice A3 p.states.length c3, .slice A4 p.actions.length c4, .slice A5 p.tables.length c5, .slice A6 p.control.length c6, .slice A7 p.emit.length c7] 30
  obtain ⟨wb, hwb, hsb, hbb, hcb, -⟩ := box1 wa #[.int .u8 10, .int .i64 act, .int .i64 0, s0, s1, s2, s3, s4, s5, s6, s7, s8, s9, s10, s11, s12, s13] 77
  have hw := hba.trans (hbb.mono (by omega))
  have q : ∀ i, wb.cell? ⟨w.heap.size, i, none⟩ = wa.cell? ⟨w.heap.size, i, none⟩ := fun i => hbb.cell (p := ⟨w.heap.size, i, none⟩) (by show w.heap.size < _; omega)
  have hqz : ∀ i, wb.cell? ⟨w.heap.size, i, none⟩ = (#[.slice A1 p.headers.length c1, .slice A2 p.metas.length c2, .slice A3 p.states.length c3, .slice A4 p.actions.length c4, .slice A5 p.tables.length c5, .slice A6 p.control.length c6, .slice A7 p.emit.length c7] : Array Value)[i]? := fun i => (q i).trans (hca i)
  have z0 : wb.cell? ⟨w.heap.size, 0, none⟩ = some (.slice A1 p.headers.length c1) := hqz 0
  have z1 : wb.cell? ⟨w.heap.size, 1, none⟩ = some (.slice A2 p.metas.length c2) := hqz 1
  have z2 : wb.cell? ⟨w.heap.size, 2, none⟩ = some (.slice A3 p.states.length c3) := hqz 2
  have z3 : wb.cell? ⟨w.heap.size, 3, none⟩ = some (.slice A4 p.actions.length c4) := hqz 3
  have z4 : wb.cell? ⟨w.heap.size, 4, none⟩ = some (.slice A5 p.tables.length c5) := hqz 4
  have z5 : wb.cell? ⟨w.heap.size, 5, none⟩ = some (.slice A6 p.control.length c6) := hqz 5
  have z6 : wb.cell? ⟨w.heap.size, 6, none⟩ = some (.slice A7 p.emit.length c7) := hqz 6
  simp only [hsa] at hcb
  have y0 : wb.cell? ⟨w.heap.size + 1, 0, none⟩ = some (.int .u8 10) := hcb 0
  have y1 : wb.cell? ⟨w.heap.size + 1, 1, none⟩ = some (.int .i64 act) := hcb 1
  have y2 : wb.cell? ⟨w.heap.size + 1, 2, none⟩ = some (.int .i64 0) := hcb 2
  have y3 : wb.cell? ⟨w.heap.size + 1, 3, none⟩ = some (s0) := hcb 3
  have y4 : wb.cell? ⟨w.heap.size + 1, 4, none⟩ = some (s1) := hcb 4
  have y5 : wb.cell? ⟨w.heap.size + 1, 5, none⟩ = some (s2) := hcb 5
  have y6 : wb.cell? ⟨w.heap.size + 1, 6, none⟩ = some (s3) := hcb 6
  have y7 : wb.cell? ⟨w.heap.size + 1, 7, none⟩ = some (s4) := hcb 7
  have y8 : wb.cell? ⟨w.heap.size + 1, 8, none⟩ = some (s5) := hcb 8
  have y9 : wb.cell? ⟨w.heap.size + 1, 9, none⟩ = some (s6) := hcb 9
  have y10 : wb.cell? ⟨w.heap.size + 1, 10, none⟩ = some (s7) := hcb 10
  have y11 : wb.cell? ⟨w.heap.size + 1, 11, none⟩ = some (s8) := hcb 11
  have y12 : wb.cell? ⟨w.heap.size + 1, 12, none⟩ = some (s9) := hcb 12
  have y13 : wb.cell? ⟨w.heap.size + 1, 13, none⟩ = some (s10) := hcb 13
  have y14 : wb.cell? ⟨w.heap.size + 1, 14, none⟩ = some (s11) := hcb 14
  have y15 : wb.cell? ⟨w.heap.size + 1, 15, none⟩ = some (s12) := hcb 15
  have y16 : wb.cell? ⟨w.heap.size + 1, 16, none⟩ = some (s13) := hcb 16
  have hl1 : w.heap.size < wb.heap.size := by omega
  have hl2 : w.heap.size + 1 < wb.heap.size := by omega
  have hz2 : w.heap.size + 2 ≤ wb.heap.size := by omega
  have hBb : B ≤ wb.heap.size := by omega
  have hP2 := hP.below (hw.mono hB)
  have hb0 : Below wb.heap.size wb wb := Below.refl _ _
  have hwC := hide hw
  replace hsb := hide hsb
  have eg := enters_twice
  clear hP hqz q hbb hba hca hcb
  have hX := hide (stmt_any A1 A2 A3 A4 A5 A6 A7 p c1 c2 c3 c4 c5 c6 c7 act B st [s0, s1, s2, s3, s4, s5, s6, s7, s8, s9, s10, s11, s12, s13] wb hBb hP2 (sta_st.keep hst fun q hq => (hwC.out.mono hB).cell hq))
  replace hP2 := hide hP2
  clear hb0 hst eg
  go_enter Tryz.func21, Tryz.ntmps21
  go_wp2_with (go_at_call 63; refine hX.out.mono ?_; rintro e w1 ⟨rfl, hw1⟩)
  go_ret
  exact ⟨rfl, hwC.out.trans (hw1.mono (by omega))⟩
set_option maxRecDepth 100000 in
set_option maxHeartbeats 8000000 in
theorem check_key (A1 A2 A3 A4 A5 A6 A7 : Option Addr) (p : Pg) (c1 c2 c3 c4 c5 c6 c7 : Nat) (B i : Nat) (j : Nat) (f : Ta) (g : Ky) (s0 s1 s2 s3 s4 s5 s6 s7 s8 s9 s10 s11 s12 s13 : Value) (w : World) (hB : B ≤ w.heap.size) (hP : PgS w B A1 A2 A3 A4 A5 A6 A7 p) (hi : p.tables[i]? = some f) (hj : f.keys[j]? = some g) :
    Calls Tryz.prog 21 #[.agg #[.slice A1 p.headers.length c1, .slice A2 p.metas.length c2, .slice A3 p.states.length c3, .slice A4 p.actions.length c4, .slice A5 p.tables.length c5, .slice A6 p.control.length c6, .slice A7 p.emit.length c7], .agg #[.int .u8 12, .int .i64 (i : Int), .int .i64 (j : Int), s0, s1, s2, s3, s4, s5, s6, s7, s8, s9, s10, s11, s12, s13]] w fun r w' => r = .returned (.int .i64 (namesI p (-1) g.e)) ∧ Below w.heap.size w w' := by
  obtain ⟨wa, hwa, hsa, hba, hca, -⟩ := box1 w #[.slice A1 p.headers.length c1, .slice A2 p.metas.length c2, .slice A3 p.states.length c3, .slice A4 p.actions.length c4, .slice A5 p.tables.length c5, .slice A6 p.control.length c6, .slice A7 p.emit.length c7] 30
  obtain ⟨wb, hwb, hsb, hbb, hcb, -⟩ := box1 wa #[.int .u8 12, .int .i64 (i : Int), .int .i64 (j : Int), s0, s1, s2, s3, s4, s5, s6, s7, s8, s9, s10, s11, s12, s13] 77
  have hw := hba.trans (hbb.mono (by omega))
  have q : ∀ i, wb.cell? ⟨w.heap.size, i, none⟩ = wa.cell? ⟨w.heap.size, i, none⟩ := fun i => hbb.cell (p := ⟨w.heap.size, i, none⟩) (by show w.heap.size < _; omega)
  have hqz : ∀ i, wb.cell? ⟨w.heap.size, i, none⟩ = (#[.slice A1 p.headers.length c1, .slice A2 p.metas.length c2, .slice A3 p.states.length c3, .slice A4 p.actions.length c4, .slice A5 p.tables.length c5, .slice A6 p.control.length c6, .slice A7 p.emit.length c7] : Array Value)[i]? := fun i => (q i).trans (hca i)
  have z0 : wb.cell? ⟨w.heap.size, 0, none⟩ = some (.slice A1 p.headers.length c1) := hqz 0
  have z1 : wb.cell? ⟨w.heap.size, 1, none⟩ = some (.slice A2 p.metas.length c2) := hqz 1
  have z2 : wb.cell? ⟨w.heap.size, 2, none⟩ = some (.slice A3 p.states.length c3) := hqz 2
  have z3 : wb.cell? ⟨w.heap.size, 3, none⟩ = some (.slice A4 p.actions.length c4) := hqz 3
  have z4 : wb.cell? ⟨w.heap.size, 4, none⟩ = some (.slice A5 p.tables.length c5) := hqz 4
  have z5 : wb.cell? ⟨w.heap.size, 5, none⟩ = some (.slice A6 p.control.length c6) := hqz 5
  have z6 : wb.cell? ⟨w.heap.size, 6, none⟩ = some (.slice A7 p.emit.length c7) := hqz 6
  simp only [hsa] at hcb
  have y0 : wb.cell? ⟨w.heap.size + 1, 0, none⟩ = some (.int .u8 12) := hcb 0
  have y1 : wb.cell? ⟨w.heap.size + 1, 1, none⟩ = some (.int .i64 (i : Int)) := hcb 1
  have y2 : wb.cell? ⟨w.heap.size + 1, 2, none⟩ = some (.int .i64 (j : Int)) := hcb 2
  have y3 : wb.cell? ⟨w.heap.size + 1, 3, none⟩ = some (s0) := hcb 3
  have y4 : wb.cell? ⟨w.heap.size + 1, 4, none⟩ = some (s1) := hcb 4
  have y5 : wb.cell? ⟨w.heap.size + 1, 5, none⟩ = some (s2) := hcb 5
  have y6 : wb.cell? ⟨w.heap.size + 1, 6, none⟩ = some (s3) := hcb 6
  have y7 : wb.cell? ⟨w.heap.size + 1, 7, none⟩ = some (s4) := hcb 7
  have y8 : wb.cell? ⟨w.heap.size + 1, 8, none⟩ = some (s5) := hcb 8
  have y9 : wb.cell? ⟨w.heap.size + 1, 9, none⟩ = some (s6) := hcb 9
  have y10 : wb.cell? ⟨w.heap.size + 1, 10, none⟩ = some (s7) := hcb 10
  have y11 : wb.cell? ⟨w.heap.size + 1, 11, none⟩ = some (s8) := hcb 11
  have y12 : wb.cell? ⟨w.heap.size + 1, 12, none⟩ = some (s9) := hcb 12
  have y13 : wb.cell? ⟨w.heap.size + 1, 13, none⟩ = some (s10) := hcb 13
  have y14 : wb.cell? ⟨w.heap.size + 1, 14, none⟩ = some (s11) := hcb 14
  have y15 : wb.cell? ⟨w.heap.size + 1, 15, none⟩ = some (s12) := hcb 15
  have y16 : wb.cell? ⟨w.heap.size + 1, 16, none⟩ = some (s13) := hcb 16
  have hl1 : w.heap.size < wb.heap.size := by omega
  have hl2 : w.heap.size + 1 < wb.heap.size := by omega
  have hz2 : w.heap.size + 2 ≤ wb.heap.size := by omega
  have hBb : B ≤ wb.heap.size := by omega
  have hP2 := hP.below (hw.mono hB)
  have hb0 : Below wb.heap.size wb wb := Below.refl _ _
  have hwC := hide hw
  replace hsb := hide hsb
  have eg := enters_twice
  clear hP hqz q hbb hba hca hcb
  have lst := hP2.tables.len
  obtain ⟨b, o, ecs, hA, hb, hel, hcell, B1, d1, B2, d2, B3, d3, rfl, hn, hd, hF, hG, hH⟩ := hP2.tables.2 i _ hi
  subst hA
  have x0 : wb.cell? ⟨b, o + i * 5, none⟩ = some (.string f.name) := by simpa using hcell 0 _ rfl
  have x1 : wb.cell? ⟨b, o + i * 5 + 1, none⟩ = some (.slice B1 f.keys.length d1) := hcell 1 _ rfl
  have x2 : wb.cell? ⟨b, o + i * 5 + 2, none⟩ = some (.slice B2 f.actions.length d2) := hcell 2 _ rfl
  have x3 : wb.cell? ⟨b, o + i * 5 + 3, none⟩ = some (.string f.dname) := hcell 3 _ rfl
  have x4 : wb.cell? ⟨b, o + i * 5 + 4, none⟩ = some (.slice B3 f.dargs.length d3) := hcell 4 _ rfl
  have hbw : b < wb.heap.size := by omega
  have hiz : (i : Int) < (p.tables.length : Int) := by have := (List.getElem?_eq_some_iff.1 hi).1; omega
  have hlf := hF.len
  obtain ⟨b', o', ecs', hA', hb', hel', hcell', es, rfl, hz, he⟩ := hF.2 j _ hj
  subst hA'
  have hN : ∀ d os, Hid (Calls Tryz.prog 64 #[.agg #[.slice A1 p.headers.length c1, .slice A2 p.metas.length c2, .slice A3 p.states.length c3, .slice A4 p.actions.length c4, .slice (some ⟨b, o, none⟩) p.tables.length c5, .slice A6 p.control.length c6, .slice A7 p.emit.length c7], .int .i64 (-1), .agg es.toArray] (Go.Sort.grow (redrawn wb d) os) _) := fun d os => hide (names_any A1 A2 A3 A4 (some ⟨b, o, none⟩) A6 A7 p c1 c2 c3 c4 c5 c6 c7 (-1) B g.e es _ (hP2.grown hBb d os).1 (hP2.grown hBb d os).2 (sta_ex.keep he fun q hq => ((below_regrown wb d os).mono hBb).cell hq))
  obtain ⟨ge, gk⟩ := g
  obtain ⟨op, lit, head, name, hi0, lo, args⟩ := ge
  obtain ⟨Ae, ecap, rfl, -, -, -, -, -, -, hs⟩ := RE.inv he
  have le := hs.len
  have n0 : wb.cell? ⟨b', o' + j * 10, none⟩ = some (.int .u8 op) := by simpa using hcell' 0 _ rfl
  have n1 : wb.cell? ⟨b', o' + j * 10 + 1, none⟩ = some (.int .i64 lit.1) := hcell' 1 _ rfl
  have n2 : wb.cell? ⟨b', o' + j * 10 + 2, none⟩ = some (.int .u64 lit.2.1) := hcell' 2 _ rfl
  have n3 : wb.cell? ⟨b', o' + j * 10 + 3, none⟩ = some (.int .u64 lit.2.2) := hcell' 3 _ rfl
  have n4 : wb.cell? ⟨b', o' + j * 10 + 4, none⟩ = some (.string head) := hcell' 4 _ rfl
  have n5 : wb.cell? ⟨b', o' + j * 10 + 5, none⟩ = some (.string name) := hcell' 5 _ rfl
  have n6 : wb.cell? ⟨b', o' + j * 10 + 6, none⟩ = some (.int .i64 hi0) := hcell' 6 _ rfl
  have n7 : wb.cell? ⟨b', o' + j * 10 + 7, none⟩ = some (.int .i64 lo) := hcell' 7 _ rfl
  have n8 : wb.cell? ⟨b', o' + j * 10 + 8, none⟩ = some (.slice Ae args.length ecap) := hcell' 8 _ rfl
  have n9 : wb.cell? ⟨b', o' + j * 10 + 9, none⟩ = some (.int .u8 gk) := hcell' 9 _ rfl
  have hbw' : b' < wb.heap.size := by omega
  have hjz : (j : Int) < (f.keys.length : Int) := by have := (List.getElem?_eq_some_iff.1 hj).1; omega
  replace hN : ∀ d os, Hid (Calls Tryz.prog 64 #[.agg #[.slice A1 p.headers.length c1, .slice A2 p.metas.length c2, .slice A3 p.states.length c3, .slice A4 p.actions.length c4, .slice (some ⟨b, o, none⟩) p.tables.length c5, .slice A6 p.control.length c6, .slice A7 p.emit.length c7], .int .i64 (-1), .agg #[.int .u8 op, .int .i64 lit.1, .int .u64 lit.2.1, .int .u64 lit.2.2, .string head, .string name, .int .i64 hi0, .int .i64 lo, .slice Ae args.length ecap]] (Go.Sort.grow (redrawn wb d) os) _) := hN
  have hg := gcell' hb0 hb0.size
  show Calls _ _ _ _ fun r w' => r = .returned (.int .i64 (namesI p (-1) (.mk op lit head name hi0 lo args))) ∧ _
  generalize namesI p (-1) (.mk op lit head name hi0 lo args) = zz at hN ⊢
  replace hP2 := hide hP2
  clear hb0 hcell hcell' hi hj eg he hs
  go_enter Tryz.func21, Tryz.ntmps21
  go_wp2_with fail
  refine wp_region_quiet_below (by kernel_rfl) (by kernel_rfl) ?_
  repeat (any_goals (first | go_big_quiet_step (first | (go_at_call 64; with_reducible exact Calls.regrown_of (hN _ _).out) | fail) | quiet_step (first | (go_at_call 64; with_reducible exact Calls.regrown_of (hN _ _).out) | fail)))
  refine wpQuiet_nil ?_
  intro w1 hw1
  replace hw1 := below_of_regrown hw1
  go_wp2
  go_ret
  exact ⟨rfl, hwC.out.trans (hw1.mono (by omega))⟩
set_option maxRecDepth 100000 in
set_option maxHeartbeats 8000000 in
theorem check_default (A1 A2 A3 A4 A5 A6 A7 : Option Addr) (p : Pg) (c1 c2 c3 c4 c5 c6 c7 : Nat) (B i : Nat) (f : Ta) (s0 s1 s2 s3 s4 s5 s6 s7 s8 s9 s10 s11 s12 s13 : Value) (w : World) (hB : B ≤ w.heap.size) (hP : PgS w B A1 A2 A3 A4 A5 A6 A7 p) (hi : p.tables[i]? = some f) :
    Calls Tryz.prog 21 #[.agg #[.slice A1 p.headers.length c1, .slice A2 p.metas.length c2, .slice A3 p.states.length c3, .slice A4 p.actions.length c4, .slice A5 p.tables.length c5, .slice A6 p.control.length c6, .slice A7 p.emit.length c7], .agg #[.int .u8 14, .int .i64 (i : Int), .int .i64 0, s0, s1, s2, s3, s4, s5, s6, s7, s8, s9, s10, s11, s12, s13]] w fun r w' => r = .returned (.int .i64 (fixedI p f)) ∧ Below w.heap.size w w' := by
  obtain ⟨wa, hwa, hsa, hba, hca, -⟩ := box1 w #[.slice A1 p.headers.length c1, .slice A2 p.metas.length c2, .slice A3 p.states.length c3, .slice A4 p.actions.length c4, .slice A5 p.tables.length c5, .slice A6 p.control.length c6, .slice A7 p.emit.length c7] 30
  obtain ⟨wb, hwb, hsb, hbb, hcb, -⟩ := box1 wa #[.int .u8 14, .int .i64 (i : Int), .int .i64 0, s0, s1, s2, s3, s4, s5, s6, s7, s8, s9, s10, s11, s12, s13] 77
  have hw := hba.trans (hbb.mono (by omega))
  have q : ∀ i, wb.cell? ⟨w.heap.size, i, none⟩ = wa.cell? ⟨w.heap.size, i, none⟩ := fun i => hbb.cell (p := ⟨w.heap.size, i, none⟩) (by show w.heap.size < _; omega)
  have hqz : ∀ i, wb.cell? ⟨w.heap.size, i, none⟩ = (#[.slice A1 p.headers.length c1, .slice A2 p.metas.length c2, .slice A3 p.states.length c3, .slice A4 p.actions.length c4, .slice A5 p.tables.length c5, .slice A6 p.control.length c6, .slice A7 p.emit.length c7] : Array Value)[i]? := fun i => (q i).trans (hca i)
  have z0 : wb.cell? ⟨w.heap.size, 0, none⟩ = some (.slice A1 p.headers.length c1) := hqz 0
  have z1 : wb.cell? ⟨w.heap.size, 1, none⟩ = some (.slice A2 p.metas.length c2) := hqz 1
  have z2 : wb.cell? ⟨w.heap.size, 2, none⟩ = some (.slice A3 p.states.length c3) := hqz 2
  have z3 : wb.cell? ⟨w.heap.size, 3, none⟩ = some (.slice A4 p.actions.length c4) := hqz 3
  have z4 : wb.cell? ⟨w.heap.size, 4, none⟩ = some (.slice A5 p.tables.length c5) := hqz 4
  have z5 : wb.cell? ⟨w.heap.size, 5, none⟩ = some (.slice A6 p.control.length c6) := hqz 5
  have z6 : wb.cell? ⟨w.heap.size, 6, none⟩ = some (.slice A7 p.emit.length c7) := hqz 6
  simp only [hsa] at hcb
  have y0 : wb.cell? ⟨w.heap.size + 1, 0, none⟩ = some (.int .u8 14) := hcb 0
  have y1 : wb.cell? ⟨w.heap.size + 1, 1, none⟩ = some (.int .i64 (i : Int)) := hcb 1
  have y2 : wb.cell? ⟨w.heap.size + 1, 2, none⟩ = some (.int .i64 0) := hcb 2
  have y3 : wb.cell? ⟨w.heap.size + 1, 3, none⟩ = some (s0) := hcb 3
  have y4 : wb.cell? ⟨w.heap.size + 1, 4, none⟩ = some (s1) := hcb 4
  have y5 : wb.cell? ⟨w.heap.size + 1, 5, none⟩ = some (s2) := hcb 5
  have y6 : wb.cell? ⟨w.heap.size + 1, 6, none⟩ = some (s3) := hcb 6
  have y7 : wb.cell? ⟨w.heap.size + 1, 7, none⟩ = some (s4) := hcb 7
  have y8 : wb.cell? ⟨w.heap.size + 1, 8, none⟩ = some (s5) := hcb 8
  have y9 : wb.cell? ⟨w.heap.size + 1, 9, none⟩ = some (s6) := hcb 9
  have y10 : wb.cell? ⟨w.heap.size + 1, 10, none⟩ = some (s7) := hcb 10
  have y11 : wb.cell? ⟨w.heap.size + 1, 11, none⟩ = some (s8) := hcb 11
  have y12 : wb.cell? ⟨w.heap.size + 1, 12, none⟩ = some (s9) := hcb 12
  have y13 : wb.cell? ⟨w.heap.size + 1, 13, none⟩ = some (s10) := hcb 13
  have y14 : wb.cell? ⟨w.heap.size + 1, 14, none⟩ = some (s11) := hcb 14
  have y15 : wb.cell? ⟨w.heap.size + 1, 15, none⟩ = some (s12) := hcb 15
  have y16 : wb.cell? ⟨w.heap.size + 1, 16, none⟩ = some (s13) := hcb 16
  have hl1 : w.heap.size < wb.heap.size := by omega
  have hl2 : w.heap.size + 1 < wb.heap.size := by omega
  have hz2 : w.heap.size + 2 ≤ wb.heap.size := by omega
  have hBb : B ≤ wb.heap.size := by omega
  have hP2 := hP.below (hw.mono hB)
  have hb0 : Below wb.heap.size wb wb := Below.refl _ _
  have hwC := hide hw
  replace hsb := hide hsb
  have eg := enters_twice
  clear hP hqz q hbb hba hca hcb
  have lst := hP2.tables.len
  obtain ⟨b, o, ecs, hA, hb, hel, hcell, B1, d1, B2, d2, B3, d3, rfl, hn, hd, hF, hG, hH⟩ := hP2.tables.2 i _ hi
  subst hA
  have x0 : wb.cell? ⟨b, o + i * 5, none⟩ = some (.string f.name) := by simpa using hcell 0 _ rfl
  have x1 : wb.cell? ⟨b, o + i * 5 + 1, none⟩ = some (.slice B1 f.keys.length d1) := hcell 1 _ rfl
  have x2 : wb.cell? ⟨b, o + i * 5 + 2, none⟩ = some (.slice B2 f.actions.length d2) := hcell 2 _ rfl
  have x3 : wb.cell? ⟨b, o + i * 5 + 3, none⟩ = some (.string f.dname) := hcell 3 _ rfl
  have x4 : wb.cell? ⟨b, o + i * 5 + 4, none⟩ = some (.slice B3 f.dargs.length d3) := hcell 4 _ rfl
  have hbw : b < wb.heap.size := by omega
  have hiz : (i : Int) < (p.tables.length : Int) := by have := (List.getElem?_eq_some_iff.1 hi).1; omega
  have hlf := hF.len
  have hlg := hG.len
  have hlh := hH.len
  have hX : ∀ d os, Hid (Calls Tryz.prog 66 #[.agg #[.slice A1 p.headers.length c1, .slice A2 p.metas.length c2, .slice A3 p.states.length c3, .slice A4 p.actions.length c4, .slice (some ⟨b, o, none⟩) p.tables.length c5, .slice A6 p.control.length c6, .slice A7 p.emit.length c7], .agg #[.string f.name, .slice B1 f.keys.length d1, .slice B2 f.actions.length d2, .string f.dname, .slice B3 f.dargs.length d3]] (Go.Sort.grow (redrawn wb d) os) _) := fun d os => hide (fixed_any A1 A2 A3 A4 (some ⟨b, o, none⟩) A6 A7 p c1 c2 c3 c4 c5 c6 c7 B f B1 B2 B3 d1 d2 d3 _ (hP2.grown hBb d os).1 (hP2.grown hBb d os).2 hF.1 (hG.below sta_str ((below_regrown wb d os).mono hBb)) hH.1)
  have hg := gcell' hb0 hb0.size
  generalize fixedI p f = zz at hX ⊢
  replace hP2 := hide hP2
  clear hb0 hcell hi eg hF hG hH
  go_enter Tryz.func21, Tryz.ntmps21
  go_wp2_with fail
  refine wp_region_quiet_below (by kernel_rfl) (by kernel_rfl) ?_
  repeat (any_goals (first | go_big_quiet_step (first | (go_at_call 66; with_reducible exact Calls.regrown_of (hX _ _).out) | fail) | quiet_step (first | (go_at_call 66; with_reducible exact Calls.regrown_of (hX _ _).out) | fail)))
  refine wpQuiet_nil ?_
  intro w1 hw1
  replace hw1 := below_of_regrown hw1
  go_wp2
  go_ret
  exact ⟨rfl, hwC.out.trans (hw1.mono (by omega))⟩
end Go.Proofs.YtcgmkjpgaigmfaaGreat

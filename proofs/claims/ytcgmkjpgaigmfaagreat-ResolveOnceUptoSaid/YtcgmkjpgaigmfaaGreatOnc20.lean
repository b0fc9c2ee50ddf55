import Derived.Test.YtcgmkjpgaigmfaaGreatOnc18
set_option linter.all false
/-! Printed by gen_check.py. Layer 7: check: what is wrong with an item. -/
namespace Go.Proofs.YtcgmkjpgaigmfaaGreat
open Go.RowKit
set_option maxRecDepth 100000 in
set_option maxHeartbeats 8000000 in
theorem check_state (A1 A2 A3 A4 A5 A6 A7 : Option Addr) (p : Pg) (c1 c2 c3 c4 c5 c6 c7 : Nat) (B i : Nat) (f : Sa) (s0 s1 s2 s3 s4 s5 s6 s7 s8 s9 s10 s11 s12 s13 : Value) (w : World) (hB : B ≤ w.heap.size) (hP : PgS w B A1 A2 A3 A4 A5 A6 A7 p) (hi : p.states[i]? = some f) :
    Calls Tryz.prog 21 #[.agg #[.slice A1 p.headers.length c1, .slice A2 p.metas.length c2, .slice A3 p.states.length c3, .slice A4 p.actions.length c4, .slice A5 p.tables.length c5, .slice A6 p.control.length c6, .slice A7 p.emit.length c7], .agg #[.int .u8 4, .int .i64 (i : Int), .int .i64 0, s0, s1, s2, s3, s4, s5, s6, s7, s8, s9, s10, s11, s12, s13]] w fun r w' => r = .returned (.int .i64 (isI (decide (stateI p f.name < (i : Int))) 8)) ∧ Below w.heap.size w w' := by
  obtain ⟨wa, hwa, hsa, hba, hca, -⟩ := box1 w #[.slice A1 p.headers.length c1, .slice A2 p.metas.length c2, .slice A3 p.states.length c3, .slice A4 p.actions.length c4, .slice A5 p.tables.length c5, .slice A6 p.control.length c6, .slice A7 p.emit.length c7] 30
  obtain ⟨wb, hwb, hsb, hbb, hcb, -⟩ := box1 wa #[.int .u8 4, .int .i64 (i : Int), .int .i64 0, s0, s1, s2, s3, s4, s5, s6, s7, s8, s9, s10, s11, s12, s13] 77
  have hw := hba.trans (hbb.mono (by omega))
  have q : ∀ i, wb.cell? ⟨w.heap.size, i, none⟩ = wa.cell? ⟨w.heap.size, i, none⟩ := fun i => hbb.cell (p := ⟨w.heap.size, i, none⟩) (by show w.heap.size < _; omega)
  have hqz : ∀ i, wb.cell? ⟨w.heap.size, i, none⟩ = (#[.slice A1 p.headers.length c1, .slice A2 p.metas.length c2, .slice A3 p.states.length c3, .slice A4 p.actions.length c4, .slice A5 p.tables.length c5, .slice A6 p.control.length c6, .slice A7 p.emit.length c7] : Array Value)[i]? := fun i => (q i).trans (hca i)
  have z0 : wb.cell? ⟨w.heap.size, 0, none⟩ = some (.slice A1 p.headers.length c1) := hqz 0
  have z1 : wb.cell? ⟨w.heap.size, 1, none⟩ = some (.slice A2 p.metas.length c2) := hqz 1
  have z2 : wb.cell? ⟨w.heap.size, 2, none⟩ = some (.slice A3 p.states.length c3) := hqz 2
  have z3 : wb.cell? ⟨w.heap.size, 3, none⟩ = some (.slice A4 p.actions.length c4) := hqz 3
  have z4 : wb.cell? ⟨w.heap.size, 4, none⟩ = some (.slice A5 p.tables.length c5) := hqz 4
  have z5 : wb.cell? ⟨w.heap.size, 5, none⟩ = some (.slice A6 p.control.length c6) := hqz 5
  have z6 : wb.cell? ⟨w.heap.size, 6, none⟩ = some (.slice A7 p.emit.length c7) := hqz 6
  simp only [hsa] at hcb
  have y0 : wb.cell? ⟨w.heap.size + 1, 0, none⟩ = some (.int .u8 4) := hcb 0
  have y1 : wb.cell? ⟨w.heap.size + 1, 1, none⟩ = some (.int .i64 (i : Int)) := hcb 1
  have y2 : wb.cell? ⟨w.heap.size + 1, 2, none⟩ = some (.int .i64 0) := hcb 2
  have y3 : wb.cell? ⟨w.heap.size + 1, 3, none⟩ = some (s0) := hcb 3
  have y4 : wb.cell? ⟨w.heap.size + 1, 4, none⟩ = some (s1) := hcb 4
  have y5 : wb.cell? ⟨w.heap.size + 1, 5, none⟩ = some (s2) := hcb 5
  have y6 : wb.cell? ⟨w.heap.size + 1, 6, none⟩ = some (s3) := hcb 6
  have y7 : wb.cell? ⟨w.heap.size + 1, 7, none⟩ = some (s4) := hcb 7
  have y8 : wb.cell? ⟨w.heap.size + 1, 8, none⟩ = some (s5) := hcb 8
  have y9 : wb.cell? ⟨w.heap.size + 1, 9, none⟩ = some (s6) := hcb 9
  have y10 : wb.cell? ⟨w.heap.size + 1, 10, none⟩ = some (s7) := hcb 10
  have y11 : wb.cell? ⟨w.heap.size + 1, 11, none⟩ = some (s8) := hcb 11
  have y12 : wb.cell? ⟨w.heap.size + 1, 12, none⟩ = some (s9) := hcb 12
  have y13 : wb.cell? ⟨w.heap.size + 1, 13, none⟩ = some (s10) := hcb 13
  have y14 : wb.cell? ⟨w.heap.size + 1, 14, none⟩ = some (s11) := hcb 14
  have y15 : wb.cell? ⟨w.heap.size + 1, 15, none⟩ = some (s12) := hcb 15
  have y16 : wb.cell? ⟨w.heap.size + 1, 16, none⟩ = some (s13) := hcb 16
  have hl1 : w.heap.size < wb.heap.size := by omega
  have hl2 : w.heap.size + 1 < wb.heap.size := by omega
  have hz2 : w.heap.size + 2 ≤ wb.heap.size := by omega
  have hBb : B ≤ wb.heap.size := by omega
  have hP2 := hP.below (hw.mono hB)
  have hb0 : Below wb.heap.size wb wb := Below.refl _ _
  have hwC := hide hw
  replace hsb := hide hsb
  have eg := enters_twice
  clear hP hqz q hbb hba hca hcb
  have lst := hP2.states.len
  obtain ⟨b, o, ecs, hA, hb, hel, hcell, B1, d1, B2, d2, B3, d3, rfl, hn, hd, hF, hG, hH⟩ := hP2.states.2 i _ hi
  subst hA
  have x0 : wb.cell? ⟨b, o + i * 5, none⟩ = some (.string f.name) := by simpa using hcell 0 _ rfl
  have x1 : wb.cell? ⟨b, o + i * 5 + 1, none⟩ = some (.slice B1 f.takes.length d1) := hcell 1 _ rfl
  have x2 : wb.cell? ⟨b, o + i * 5 + 2, none⟩ = some (.string f.dest) := hcell 2 _ rfl
  have x3 : wb.cell? ⟨b, o + i * 5 + 3, none⟩ = some (.slice B2 f.keys.length d2) := hcell 3 _ rfl
  have x4 : wb.cell? ⟨b, o + i * 5 + 4, none⟩ = some (.slice B3 f.cases_.length d3) := hcell 4 _ rfl
  have hbw : b < wb.heap.size := by omega
  have hiz : (i : Int) < (p.states.length : Int) := by have := (List.getElem?_eq_some_iff.1 hi).1; omega
  have hg := gcell' hb0 hb0.size
  have hX : ∀ d os, Hid (Calls Tryz.prog 14 #[.agg #[.slice A1 p.headers.length c1, .slice A2 p.metas.length c2, .slice (some ⟨b, o, none⟩) p.states.length c3, .slice A4 p.actions.length c4, .slice A5 p.tables.length c5, .slice A6 p.control.length c6, .slice A7 p.emit.length c7], .string f.name] (Go.Sort.grow (redrawn wb d) os) _) := fun d os => hide (state_any _ A1 A2 (some ⟨b, o, none⟩) A4 A5 A6 A7 p c1 c2 c3 c4 c5 c6 c7 f.name (hP2.grown hBb d os).1 (hP2.grown hBb d os).2)
  generalize stateI p f.name = zz at hX ⊢
  generalize stateB p f.name = zb at hX
  replace hP2 := hide hP2
  clear hb0 hcell hi
  go_enter Tryz.func21, Tryz.ntmps21
  go_wp2_with fail
  refine wp_region_quiet_below (by kernel_rfl) (by kernel_rfl) ?_
  repeat (any_goals (first | go_big_quiet_step (first | (go_at_call 14; with_reducible exact Calls.regrown_of (hX _ _).out) | fail) | quiet_step (first | (go_at_call 14; with_reducible exact Calls.regrown_of (hX _ _).out) | fail)))
  refine wpQuiet_nil ?_
  intro w1 hw1
  replace hw1 := below_of_regrown hw1
  have hc1 := bcell' hw1
  have hT := hide (twice_b zz (i : Int) (w.heap.size + 1) w1 ((hc1.1 _ _ hl2).trans y1))
  have hB1 : wb.heap.size ≤ w1.heap.size := hw1.size
  replace hw1 := hide hw1
  go_wp2_with (go_at_fn 56; refine hT.out.mono ?_; rintro e w2 ⟨rfl, hw2⟩)
  go_ret
  exact ⟨rfl, (hwC.out.trans (hw1.out.mono (by omega))).trans (hw2.mono (by omega))⟩
set_option maxRecDepth 100000 in
set_option maxHeartbeats 8000000 in
theorem check_take (A1 A2 A3 A4 A5 A6 A7 : Option Addr) (p : Pg) (c1 c2 c3 c4 c5 c6 c7 : Nat) (B i : Nat) (s : Sa) (j : Nat) (nm : ByteArray) (s0 s1 s2 s3 s4 s5 s6 s7 s8 s9 s10 s11 s12 s13 : Value) (w : World) (hB : B ≤ w.heap.size) (hP : PgS w B A1 A2 A3 A4 A5 A6 A7 p) (hi : p.states[i]? = some s) (hj : s.takes[j]? = some nm) :
    Calls Tryz.prog 21 #[.agg #[.slice A1 p.headers.length c1, .slice A2 p.metas.length c2, .slice A3 p.states.length c3, .slice A4 p.actions.length c4, .slice A5 p.tables.length c5, .slice A6 p.control.length c6, .slice A7 p.emit.length c7], .agg #[.int .u8 5, .int .i64 (i : Int), .int .i64 (j : Int), s0, s1, s2, s3, s4, s5, s6, s7, s8, s9, s10, s11, s12, s13]] w fun r w' => r = .returned (.int .i64 (isI (decide (headerI p nm < 0)) 7)) ∧ Below w.heap.size w w' := by
  obtain ⟨wa, hwa, hsa, hba, hca, -⟩ := box1 w #[.slice A1 p.headers.length c1, .slice A2 p.metas.length c2, .slice A3 p.states.length c3, .slice A4 p.actions.length c4, .slice A5 p.tables.length c5, .slice A6 p.control.length c6, .slice A7 p.emit.length c7] 30
  obtain ⟨wb, hwb, hsb, hbb, hcb, -⟩ := box1 wa #[.int .u8 5, .int .i64 (i : Int), .int .i64 (j : Int), s0, s1, s2, s3, s4, s5, s6, s7, s8, s9, s10, s11, s12, s13] 77
  have hw := hba.trans (hbb.mono (by omega))
  have q : ∀ i, wb.cell? ⟨w.heap.size, i, none⟩ = wa.cell? ⟨w.heap.size, i, none⟩ := fun i => hbb.cell (p := ⟨w.heap.size, i, none⟩) (by show w.heap.size < _; omega)
  have hqz : ∀ i, wb.cell? ⟨w.heap.size, i, none⟩ = (#[.slice A1 p.headers.length c1, .slice A2 p.metas.length c2, .slice A3 p.states.length c3, .slice A4 p.actions.length c4, .slice A5 p.tables.length c5, .slice A6 p.control.length c6, .slice A7 p.emit.length c7] : Array Value)[i]? := fun i => (q i).trans (hca i)
  have z0 : wb.cell? ⟨w.heap.size, 0, none⟩ = some (.slice A1 p.headers.length c1) := hqz 0
  have z1 : wb.cell? ⟨w.heap.size, 1, none⟩ = some (.slice A2 p.metas.length c2) := hqz 1
  have z2 : wb.cell? ⟨w.heap.size, 2, none⟩ = some (.slice A3 p.states.length c3) := hqz 2
  have z3 : wb.cell? ⟨w.heap.size, 3, none⟩ = some (.slice A4 p.actions.length c4) := hqz 3
  have z4 : wb.cell? ⟨w.heap.size, 4, none⟩ = some (.slice A5 p.tables.length c5) := hqz 4
  have z5 : wb.cell? ⟨w.heap.size, 5, none⟩ = some (.slice A6 p.control.length c6) := hqz 5
  have z6 : wb.cell? ⟨w.heap.size, 6, none⟩ = some (.slice A7 p.emit.length c7) := hqz 6
  simp only [hsa] at hcb
  have y0 : wb.cell? ⟨w.heap.size + 1, 0, none⟩ = some (.int .u8 5) := hcb 0
  have y1 : wb.cell? ⟨w.heap.size + 1, 1, none⟩ = some (.int .i64 (i : Int)) := hcb 1
  have y2 : wb.cell? ⟨w.heap.size + 1, 2, none⟩ = some (.int .i64 (j : Int)) := hcb 2
  have y3 : wb.cell? ⟨w.heap.size + 1, 3, none⟩ = some (s0) := hcb 3
  have y4 : wb.cell? ⟨w.heap.size + 1, 4, none⟩ = some (s1) := hcb 4
  have y5 : wb.cell? ⟨w.heap.size + 1, 5, none⟩ = some (s2) := hcb 5
  have y6 : wb.cell? ⟨w.heap.size + 1, 6, none⟩ = some (s3) := hcb 6
  have y7 : wb.cell? ⟨w.heap.size + 1, 7, none⟩ = some (s4) := hcb 7
  have y8 : wb.cell? ⟨w.heap.size + 1, 8, none⟩ = some (s5) := hcb 8
  have y9 : wb.cell? ⟨w.heap.size + 1, 9, none⟩ = some (s6) := hcb 9
  have y10 : wb.cell? ⟨w.heap.size + 1, 10, none⟩ = some (s7) := hcb 10
  have y11 : wb.cell? ⟨w.heap.size + 1, 11, none⟩ = some (s8) := hcb 11
  have y12 : wb.cell? ⟨w.heap.size + 1, 12, none⟩ = some (s9) := hcb 12
  have y13 : wb.cell? ⟨w.heap.size + 1, 13, none⟩ = some (s10) := hcb 13
  have y14 : wb.cell? ⟨w.heap.size + 1, 14, none⟩ = some (s11) := hcb 14
  have y15 : wb.cell? ⟨w.heap.size + 1, 15, none⟩ = some (s12) := hcb 15
  have y16 : wb.cell? ⟨w.heap.size + 1, 16, none⟩ = some (s13) := hcb 16
  have hl1 : w.heap.size < wb.heap.size := by omega
  have hl2 : w.heap.size + 1 < wb.heap.size := by omega
  have hz2 : w.heap.size + 2 ≤ wb.heap.size := by omega
  have hBb : B ≤ wb.heap.size := by omega
  have hP2 := hP.below (hw.mono hB)
  have hb0 : Below wb.heap.size wb wb := Below.refl _ _
  have hwC := hide hw
  replace hsb := hide hsb
  have eg := enters_twice
  clear hP hqz q hbb hba hca hcb
  have hX := hide (parsed_take A1 A2 A3 A4 A5 A6 A7 p c1 c2 c3 c4 c5 c6 c7 B i s j nm s0 s1 s2 s3 s4 s5 s6 s7 s8 s9 s10 s11 s12 s13 wb hBb hP2 hi hj)
  replace hP2 := hide hP2
  clear hb0 hi eg
  go_enter Tryz.func21, Tryz.ntmps21
  go_wp2_with (go_at_call 61; refine hX.out.mono ?_; rintro e w1 ⟨rfl, hw1⟩)
  go_ret
  exact ⟨rfl, hwC.out.trans (hw1.mono (by omega))⟩
set_option maxRecDepth 100000 in
set_option maxHeartbeats 8000000 in
theorem check_next (A1 A2 A3 A4 A5 A6 A7 : Option Addr) (p : Pg) (c1 c2 c3 c4 c5 c6 c7 : Nat) (B i : Nat) (s : Sa) (j : Int) (s0 s1 s2 s3 s4 s5 s6 s7 s8 s9 s10 s11 s12 s13 : Value) (w : World) (hB : B ≤ w.heap.size) (hP : PgS w B A1 A2 A3 A4 A5 A6 A7 p) (hi : p.states[i]? = some s) :
    Calls Tryz.prog 21 #[.agg #[.slice A1 p.headers.length c1, .slice A2 p.metas.length c2, .slice A3 p.states.length c3, .slice A4 p.actions.length c4, .slice A5 p.tables.length c5, .slice A6 p.control.length c6, .slice A7 p.emit.length c7], .agg #[.int .u8 6, .int .i64 (i : Int), .int .i64 j, s0, s1, s2, s3, s4, s5, s6, s7, s8, s9, s10, s11, s12, s13]] w fun r w' => r = .returned (.int .i64 (nextI p s)) ∧ Below w.heap.size w w' := by
  obtain ⟨wa, hwa, hsa, hba, hca, -⟩ := box1 w #[.slice A1 p.headers.length c1, .slice A2 p.metas.length c2, .slice A3 p.states.length c3, .slice A4 p.actions.length c4, .slice A5 p.tables.length c5, .slice A6 p.control.length c6, .slice A7 p.emit.length c7] 30
  obtain ⟨wb, hwb, hsb, hbb, hcb, -⟩ := box1 wa #[.int .u8 6, .int .i64 (i : Int), .int .i64 j, s0, s1, s2, s3, s4, s5, s6, s7, s8, s9, s10, s11, s12, s13] 77
  have hw := hba.trans (hbb.mono (by omega))
  have q : ∀ i, wb.cell? ⟨w.heap.size, i, none⟩ = wa.cell? ⟨w.heap.size, i, none⟩ := fun i => hbb.cell (p := ⟨w.heap.size, i, none⟩) (by show w.heap.size < _; omega)
  have hqz : ∀ i, wb.cell? ⟨w.heap.size, i, none⟩ = (#[.slice A1 p.headers.length c1, .slice A2 p.metas.length c2, .slice A3 p.states.length c3, .slice A4 p.actions.length c4, .slice A5 p.tables.length c5, .slice A6 p.control.length c6, .slice A7 p.emit.length c7] : Array Value)[i]? := fun i => (q i).trans (hca i)
  have z0 : wb.cell? ⟨w.heap.size, 0, none⟩ = some (.slice A1 p.headers.length c1) := hqz 0
  have z1 : wb.cell? ⟨w.heap.size, 1, none⟩ = some (.slice A2 p.metas.length c2) := hqz 1
  have z2 : wb.cell? ⟨w.heap.size, 2, none⟩ = some (.slice A3 p.states.length c3) := hqz 2
  have z3 : wb.cell? ⟨w.heap.size, 3, none⟩ = some (.slice A4 p.actions.length c4) := hqz 3
  have z4 : wb.cell? ⟨w.heap.size, 4, none⟩ = some (.slice A5 p.tables.length c5) := hqz 4
  have z5 : wb.cell? ⟨w.heap.size, 5, none⟩ = some (.slice A6 p.control.length c6) := hqz 5
  have z6 : wb.cell? ⟨w.heap.size, 6, none⟩ = some (.slice A7 p.emit.length c7) := hqz 6
  simp only [hsa] at hcb
  have y0 : wb.cell? ⟨w.heap.size + 1, 0, none⟩ = some (.int .u8 6) := hcb 0
  have y1 : wb.cell? ⟨w.heap.size + 1, 1, none⟩ = some (.int .i64 (i : Int)) := hcb 1
  have y2 : wb.cell? ⟨w.heap.size + 1, 2, none⟩ = some (.int .i64 j) := hcb 2
  have y3 : wb.cell? ⟨w.heap.size + 1, 3, none⟩ = some (s0) := hcb 3
  have y4 : wb.cell? ⟨w.heap.size + 1, 4, none⟩ = some (s1) := hcb 4
  have y5 : wb.cell? ⟨w.heap.size + 1, 5, none⟩ = some (s2) := hcb 5
  have y6 : wb.cell? ⟨w.heap.size + 1, 6, none⟩ = some (s3) := hcb 6
  have y7 : wb.cell? ⟨w.heap.size + 1, 7, none⟩ = some (s4) := hcb 7
  have y8 : wb.cell? ⟨w.heap.size + 1, 8, none⟩ = some (s5) := hcb 8
  have y9 : wb.cell? ⟨w.heap.size + 1, 9, none⟩ = some (s6) := hcb 9
  have y10 : wb.cell? ⟨w.heap.size + 1, 10, none⟩ = some (s7) := hcb 10
  have y11 : wb.cell? ⟨w.heap.size + 1, 11, none⟩ = some (s8) := hcb 11
  have y12 : wb.cell? ⟨w.heap.size + 1, 12, none⟩ = some (s9) := hcb 12
  have y13 : wb.cell? ⟨w.heap.size + 1, 13, none⟩ = some (s10) := hcb 13
  have y14 : wb.cell? ⟨w.heap.size + 1, 14, none⟩ = some (s11) := hcb 14
  have y15 : wb.cell? ⟨w.heap.size + 1, 15, none⟩ = some (s12) := hcb 15
  have y16 : wb.cell? ⟨w.heap.size + 1, 16, none⟩ = some (s13) := hcb 16
  have hl1 : w.heap.size < wb.heap.size := by omega
  have hl2 : w.heap.size + 1 < wb.heap.size := by omega
  have hz2 : w.heap.size + 2 ≤ wb.heap.size := by omega
  have hBb : B ≤ wb.heap.size := by omega
  have hP2 := hP.below (hw.mono hB)
  have hb0 : Below wb.heap.size wb wb := Below.refl _ _
  have hwC := hide hw
  replace hsb := hide hsb
  have eg := enters_twice
  clear hP hqz q hbb hba hca hcb
  have hX := hide (parsed_next A1 A2 A3 A4 A5 A6 A7 p c1 c2 c3 c4 c5 c6 c7 B i s j s0 s1 s2 s3 s4 s5 s6 s7 s8 s9 s10 s11 s12 s13 wb hBb hP2 hi)
  replace hP2 := hide hP2
  clear hb0 hi eg
  go_enter Tryz.func21, Tryz.ntmps21
  go_wp2_with (go_at_call 61; refine hX.out.mono ?_; rintro e w1 ⟨rfl, hw1⟩)
  go_ret
  exact ⟨rfl, hwC.out.trans (hw1.mono (by omega))⟩
set_option maxRecDepth 100000 in
set_option maxHeartbeats 8000000 in
theorem check_case (A1 A2 A3 A4 A5 A6 A7 : Option Addr) (p : Pg) (c1 c2 c3 c4 c5 c6 c7 : Nat) (B i : Nat) (s : Sa) (j : Nat) (c : Ca) (s0 s1 s2 s3 s4 s5 s6 s7 s8 s9 s10 s11 s12 s13 : Value) (w : World) (hB : B ≤ w.heap.size) (hP : PgS w B A1 A2 A3 A4 A5 A6 A7 p) (hi : p.states[i]? = some s) (hj : s.cases_[j]? = some c) :
    Calls Tryz.prog 21 #[.agg #[.slice A1 p.headers.length c1, .slice A2 p.metas.length c2, .slice A3 p.states.length c3, .slice A4 p.actions.length c4, .slice A5 p.tables.length c5, .slice A6 p.control.length c6, .slice A7 p.emit.length c7], .agg #[.int .u8 7, .int .i64 (i : Int), .int .i64 (j : Int), s0, s1, s2, s3, s4, s5, s6, s7, s8, s9, s10, s11, s12, s13]] w fun r w' => r = .returned (.int .i64 (toI p c.dest)) ∧ Below w.heap.size w w' := by
  obtain ⟨wa, hwa, hsa, hba, hca, -⟩ := box1 w #[.slice A1 p.headers.length c1, .slice A2 p.metas.length c2, .slice A3 p.states.length c3, .slice A4 p.actions.length c4, .slice A5 p.tables.length c5, .slice A6 p.control.length c6, .slice A7 p.emit.length c7] 30
  obtain ⟨wb, hwb, hsb, hbb, hcb, -⟩ := box1 wa #[.int .u8 7, .int .i64 (i : Int), .int .i64 (j : Int), s0, s1, s2, s3, s4, s5, s6, s7, s8, s9, s10, s11, s12, s13] 77
  have hw := hba.trans (hbb.mono (by omega))
  have q : ∀ i, wb.cell? ⟨w.heap.size, i, none⟩ = wa.cell? ⟨w.heap.size, i, none⟩ := fun i => hbb.cell (p := ⟨w.heap.size, i, none⟩) (by show w.heap.size < _; omega)
  have hqz : ∀ i, wb.cell? ⟨w.heap.size, i, none⟩ = (#[.slice A1 p.headers.length c1, .slice A2 p.metas.length c2, .slice A3 p.states.length c3, .slice A4 p.actions.length c4, .slice A5 p.tables.length c5, .slice A6 p.control.length c6, .slice A7 p.emit.length c7] : Array Value)[i]? := fun i => (q i).trans (hca i)
  have z0 : wb.cell? ⟨w.heap.size, 0, none⟩ = some (.slice A1 p.headers.length c1) := hqz 0
  have z1 : wb.cell? ⟨w.heap.size, 1, none⟩ = some (.slice A2 p.metas.length c2) := hqz 1
  have z2 : wb.cell? ⟨w.heap.size, 2, none⟩ = some (.slice A3 p.states.length c3) := hqz 2
  have z3 : wb.cell? ⟨w.heap.size, 3, none⟩ = some (.slice A4 p.actions.length c4) := hqz 3
  have z4 : wb.cell? ⟨w.heap.size, 4, none⟩ = some (.slice A5 p.tables.length c5) := hqz 4
  have z5 : wb.cell? ⟨w.heap.size, 5, none⟩ = some (.slice A6 p.control.length c6) := hqz 5
  have z6 : wb.cell? ⟨w.heap.size, 6, none⟩ = some (.slice A7 p.emit.length c7) := hqz 6
  simp only [hsa] at hcb
  have y0 : wb.cell? ⟨w.heap.size + 1, 0, none⟩ = some (.int .u8 7) := hcb 0
  have y1 : wb.cell? ⟨w.heap.size + 1, 1, none⟩ = some (.int .i64 (i : Int)) := hcb 1
  have y2 : wb.cell? ⟨w.heap.size + 1, 2, none⟩ = some (.int .i64 (j : Int)) := hcb 2
  have y3 : wb.cell? ⟨w.heap.size + 1, 3, none⟩ = some (s0) := hcb 3
  have y4 : wb.cell? ⟨w.heap.size + 1, 4, none⟩ = some (s1) := hcb 4
  have y5 : wb.cell? ⟨w.heap.size + 1, 5, none⟩ = some (s2) := hcb 5
  have y6 : wb.cell? ⟨w.heap.size + 1, 6, none⟩ = some (s3) := hcb 6
  have y7 : wb.cell? ⟨w.heap.size + 1, 7, none⟩ = some (s4) := hcb 7
  have y8 : wb.cell? ⟨w.heap.size + 1, 8, none⟩ = some (s5) := hcb 8
  have y9 : wb.cell? ⟨w.heap.size + 1, 9, none⟩ = some (s6) := hcb 9
  have y10 : wb.cell? ⟨w.heap.size + 1, 10, none⟩ = some (s7) := hcb 10
  have y11 : wb.cell? ⟨w.heap.size + 1, 11, none⟩ = some (s8) := hcb 11
  have y12 : wb.cell? ⟨w.heap.size + 1, 12, none⟩ = some (s9) := hcb 12
  have y13 : wb.cell? ⟨w.heap.size + 1, 13, none⟩ = some (s10) := hcb 13
  have y14 : wb.cell? ⟨w.heap.size + 1, 14, none⟩ = some (s11) := hcb 14
  have y15 : wb.cell? ⟨w.heap.size + 1, 15, none⟩ = some (s12) := hcb 15
  have y16 : wb.cell? ⟨w.heap.size + 1, 16, none⟩ = some (s13) := hcb 16
  have hl1 : w.heap.size < wb.heap.size := by omega
  have hl2 : w.heap.size + 1 < wb.heap.size := by omega
  have hz2 : w.heap.size + 2 ≤ wb.heap.size := by omega
  have hBb : B ≤ wb.heap.size := by omega
  have hP2 := hP.below (hw.mono hB)
  have hb0 : Below wb.heap.size wb wb := Below.refl _ _
  have hwC := hide hw
  replace hsb := hide hsb
  have eg := enters_twice
  clear hP hqz q hbb hba hca hcb
  have hX := hide (parsed_case A1 A2 A3 A4 A5 A6 A7 p c1 c2 c3 c4 c5 c6 c7 B i s j c s0 s1 s2 s3 s4 s5 s6 s7 s8 s9 s10 s11 s12 s13 wb hBb hP2 hi hj)
  replace hP2 := hide hP2
  clear hb0 hi eg
  go_enter Tryz.func21, Tryz.ntmps21
  go_wp2_with (go_at_call 61; refine hX.out.mono ?_; rintro e w1 ⟨rfl, hw1⟩)
  go_ret
  exact ⟨rfl, hwC.out.trans (hw1.mono (by omega))⟩
end Go.Proofs.YtcgmkjpgaigmfaaGreat

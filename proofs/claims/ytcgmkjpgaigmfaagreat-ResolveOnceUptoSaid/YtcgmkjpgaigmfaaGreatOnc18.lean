import Derived.Test.YtcgmkjpgaigmfaaGreatOnc16
import Derived.Test.YtcgmkjpgaigmfaaGreatOnc17
set_option linter.all false
/-! Printed by gen_check.py. Layer 7: check: what is wrong with an item. -/
namespace Go.Proofs.YtcgmkjpgaigmfaaGreat
open Go.RowKit
set_option maxHeartbeats 1000000 in
theorem twice_b (n m : Int) (a : Nat) (w : World) (h : w.cell? ⟨a, 1, none⟩ = some (.int .i64 m)) :
    Calls Tryz.prog 56 #[.int .i64 n, .pointer (some ⟨a, 0, none⟩)] w fun r w' => r = .returned (.int .i64 (isI (decide (n < m)) 8)) ∧ Below w.heap.size w w' := by
  go_enter Tryz.func56, Tryz.ntmps56
  go_wp2_with (go_at_call 57; refine (is_any _ _ _).mono ?_; rintro e w' ⟨rfl, rfl⟩)
  go_ret
  exact ⟨rfl, Below.refl _ _⟩
theorem enters_twice : ∀ args w, (callFunc 56 args).run Tryz.prog w = .ok (.enter 56 args) w := enters_of Tryz.func56 (by kernel_rfl) rfl
set_option maxRecDepth 100000 in
set_option maxHeartbeats 8000000 in
theorem check_meta (A1 A2 A3 A4 A5 A6 A7 : Option Addr) (p : Pg) (c1 c2 c3 c4 c5 c6 c7 : Nat) (B i : Nat) (f : Fd) (s0 s1 s2 s3 s4 s5 s6 s7 s8 s9 s10 s11 s12 s13 : Value) (w : World) (hB : B ≤ w.heap.size) (hP : PgS w B A1 A2 A3 A4 A5 A6 A7 p) (hi : p.metas[i]? = some f) :
    Calls Tryz.prog 21 #[.agg #[.slice A1 p.headers.length c1, .slice A2 p.metas.length c2, .slice A3 p.states.length c3, .slice A4 p.actions.length c4, .slice A5 p.tables.length c5, .slice A6 p.control.length c6, .slice A7 p.emit.length c7], .agg #[.int .u8 3, .int .i64 (i : Int), .int .i64 0, s0, s1, s2, s3, s4, s5, s6, s7, s8, s9, s10, s11, s12, s13]] w fun r w' => r = .returned (.int .i64 (isI (decide (metaI p f.1 < (i : Int))) 8)) ∧ Below w.heap.size w w' := by
  obtain ⟨wa, hwa, hsa, hba, hca, -⟩ := box1 w #[.slice A1 p.headers.length c1, .slice A2 p.metas.length c2, .slice A3 p.states.length c3, .slice A4 p.actions.length c4, .slice A5 p.tables.length c5, .slice A6 p.control.length c6, .slice A7 p.emit.length c7] 30
  obtain ⟨wb, hwb, hsb, hbb, hcb, -⟩ := box1 wa #[.int .u8 3, .int .i64 (i : Int), .int .i64 0, s0, s1, s2, s3, s4, s5, s6, s7, s8, s9, s10, s11, s12, s13] 77
  have hw := hba.trans (hbb.mono (by omega))
  have q : ∀ i, wb.cell? ⟨w.heap.size, i, none⟩ = wa.cell? ⟨w.heap.size, i, none⟩ := fun i => hbb.cell (p := ⟨w.heap.size, i, none⟩) (by show w.heap.size < _; omega)
  have hqz : ∀ i, wb.cell? ⟨w.heap.size, i, none⟩ = (#[.slice A1 p.headers.length c1, .slice A2 p.metas.length c2, .slice A3 p.states.length c3, .slice A4 p.actions.length c4, .slice A5 p.tables.length c5, .slice A6 p.control.length c6, .slice A7 p.emit.length c7] : Array Value)[i]? := fun i => (q i).trans (hca i)
  have z0 : wb.cell? ⟨w.heap.size, 0, none⟩ = some (.slice A1 p.headers.length c1) := hqz 0
  have z1 : wb.cell? ⟨w.heap.size, 1, none⟩ = some (.slice A2 p.metas.length c2) := hqz 1
  have z2 : wb.cell? ⟨w.heap.size, 2, none⟩ = some (.slice A3 p.states.length c3) := hqz 2
  have z3 : wb.cell? ⟨w.heap.size, 3, none⟩ = some (.slice A4 p.actions.length c4) := hqz 3
  have z4 : wb.cell? ⟨w.heap.size, 4, none⟩ = some (.slice A5 p.tables.length c5) := hqz 4
  have z5 : wb.cell? ⟨w.heap.size, 5, none⟩ = some (.slice A6 p.control.length c6) := hqz 5
  have z6 : wb.cell? ⟨w.heap.size, 6, none⟩ = some (.slice A7 p.emit.length c7) := hqz 6
  simp only [hsa] at hcb
  have y0 : wb.cell? ⟨w.heap.size + 1, 0, none⟩ = some (.int .u8 3) := hcb 0
  have y1 : wb.cell? ⟨w.heap.size + 1, 1, none⟩ = some (.int .i64 (i : Int)) := hcb 1
  have y2 : wb.cell? ⟨w.heap.size + 1, 2, none⟩ = some (.int .i64 0) := hcb 2
  have y3 : wb.cell? ⟨w.heap.size + 1, 3, none⟩ = some (s0) := hcb 3
  have y4 : wb.cell? ⟨w.heap.size + 1, 4, none⟩ = some (s1) := hcb 4
  have y5 : wb.cell? ⟨w.heap.size + 1, 5, none⟩ = some (s2) := hcb 5
  have y6 : wb.cell? ⟨w.heap.size + 1, 6, none⟩ = some (s3) := hcb 6
  have y7 : wb.cell? ⟨w.heap.size + 1, 7, none⟩ = some (s4) := hcb 7
  have y8 : wb.cell? ⟨w.heap.size + 1, 8, none⟩ = some (s5) := hcb 8
  have y9 : wb.cell? ⟨w.heap.size + 1, 9, none⟩ = some (s6) := hcb 9
  have y10 : wb.cell? ⟨w.heap.size + 1, 10, none⟩ = some (s7) := hcb 10
  have y11 : wb.cell? ⟨w.heap.size + 1, 11, none⟩ = some (s8) := hcb 11
  have y12 : wb.cell? ⟨w.heap.size + 1, 12, none⟩ = some (s9) := hcb 12
  have y13 : wb.cell? ⟨w.heap.size + 1, 13, none⟩ = some (s10) := hcb 13
  have y14 : wb.cell? ⟨w.heap.size + 1, 14, none⟩ = some (s11) := hcb 14
  have y15 : wb.cell? ⟨w.heap.size + 1, 15, none⟩ = some (s12) := hcb 15
  have y16 : wb.cell? ⟨w.heap.size + 1, 16, none⟩ = some (s13) := hcb 16
  have hl1 : w.heap.size < wb.heap.size := by omega
  have hl2 : w.heap.size + 1 < wb.heap.size := by omega
  have hz2 : w.heap.size + 2 ≤ wb.heap.size := by omega
  have hBb : B ≤ wb.heap.size := by omega
  have hP2 := hP.below (hw.mono hB)
  have hb0 : Below wb.heap.size wb wb := Below.refl _ _
  have hwC := hide hw
  replace hsb := hide hsb
  have eg := enters_twice
  clear hP hqz q hbb hba hca hcb
  have lst := hP2.metas.len
  obtain ⟨b, o, ecs, hA, hb, hel, hcell, rfl, hn, hi6⟩ := hP2.metas.2 i _ hi
  subst hA
  have x0 : wb.cell? ⟨b, o + i * 2, none⟩ = some (.string f.1) := by simpa using hcell 0 _ rfl
  have x1 : wb.cell? ⟨b, o + i * 2 + 1, none⟩ = some (.int .i64 f.2) := hcell 1 _ rfl
  have hbw : b < wb.heap.size := by omega
  have hiz : (i : Int) < (p.metas.length : Int) := by have := (List.getElem?_eq_some_iff.1 hi).1; omega
  have hg := gcell' hb0 hb0.size
  have hT : ∀ n d os, Hid (Calls Tryz.prog 56 #[.int .i64 n, .pointer (some ⟨w.heap.size + 1, 0, none⟩)] (Go.Sort.grow (redrawn wb d) os) _) := fun n d os => hide (twice_b n (i : Int) (w.heap.size + 1) _ ((hg d os _ _ (by omega)).trans y1))
  have hX : ∀ d os, Hid (Calls Tryz.prog 60 #[.agg #[.slice A1 p.headers.length c1, .slice (some ⟨b, o, none⟩) p.metas.length c2, .slice A3 p.states.length c3, .slice A4 p.actions.length c4, .slice A5 p.tables.length c5, .slice A6 p.control.length c6, .slice A7 p.emit.length c7], .string f.1] (Go.Sort.grow (redrawn wb d) os) _) := fun d os => hide (meta_any _ A1 (some ⟨b, o, none⟩) A3 A4 A5 A6 A7 p c1 c2 c3 c4 c5 c6 c7 f.1 (hP2.grown hBb d os).1 (hP2.grown hBb d os).2)
  generalize metaI p f.1 = zz at hX ⊢
  replace hP2 := hide hP2
  clear hb0 hcell hi
  go_enter Tryz.func21, Tryz.ntmps21
  go_wp2_with fail
  refine wp_region_quiet_below (by kernel_rfl) (by kernel_rfl) ?_
  repeat (any_goals (first | go_big_quiet_step (first | (go_at_fn 56; with_reducible exact Calls.regrown_of (hT _ _ _).out) | (go_at_call 60; with_reducible exact Calls.regrown_of (hX _ _).out)) | quiet_step (first | (go_at_fn 56; with_reducible exact Calls.regrown_of (hT _ _ _).out) | (go_at_call 60; with_reducible exact Calls.regrown_of (hX _ _).out))))
  refine wpQuiet_nil ?_
  intro w1 hw1
  replace hw1 := below_of_regrown hw1
  go_wp2
  go_ret
  exact ⟨rfl, hwC.out.trans (hw1.mono (by omega))⟩
set_option maxRecDepth 100000 in
set_option maxHeartbeats 8000000 in
theorem check_action (A1 A2 A3 A4 A5 A6 A7 : Option Addr) (p : Pg) (c1 c2 c3 c4 c5 c6 c7 : Nat) (B i : Nat) (f : Ac) (s0 s1 s2 s3 s4 s5 s6 s7 s8 s9 s10 s11 s12 s13 : Value) (w : World) (hB : B ≤ w.heap.size) (hP : PgS w B A1 A2 A3 A4 A5 A6 A7 p) (hi : p.actions[i]? = some f) :
    Calls Tryz.prog 21 #[.agg #[.slice A1 p.headers.length c1, .slice A2 p.metas.length c2, .slice A3 p.states.length c3, .slice A4 p.actions.length c4, .slice A5 p.tables.length c5, .slice A6 p.control.length c6, .slice A7 p.emit.length c7], .agg #[.int .u8 8, .int .i64 (i : Int), .int .i64 0, s0, s1, s2, s3, s4, s5, s6, s7, s8, s9, s10, s11, s12, s13]] w fun r w' => r = .returned (.int .i64 (isI (decide (actionI p f.name < (i : Int))) 8)) ∧ Below w.heap.size w w' := by
  obtain ⟨wa, hwa, hsa, hba, hca, -⟩ := box1 w #[.slice A1 p.headers.length c1, .slice A2 p.metas.length c2, .slice A3 p.states.length c3, .slice A4 p.actions.length c4, .slice A5 p.tables.length c5, .slice A6 p.control.length c6, .slice A7 p.emit.length c7] 30
  obtain ⟨wb, hwb, hsb, hbb, hcb, -⟩ := box1 wa #[.int .u8 8, .int .i64 (i : Int), .int .i64 0, s0, s1, s2, s3, s4, s5, s6, s7, s8, s9, s10, s11, s12, s13] 77
  have hw := hba.trans (hbb.mono (by omega))
  have q : ∀ i, wb.cell? ⟨w.heap.size, i, none⟩ = wa.cell? ⟨w.heap.size, i, none⟩ := fun i => hbb.cell (p := ⟨w.heap.size, i, none⟩) (by show w.heap.size < _; omega)
  have hqz : ∀ i, wb.cell? ⟨w.heap.size, i, none⟩ = (#[.slice A1 p.headers.length c1, .slice A2 p.metas.length c2, .slice A3 p.states.length c3, .slice A4 p.actions.length c4, .slice A5 p.tables.length c5, .slice A6 p.control.length c6, .slice A7 p.emit.length c7] : Array Value)[i]? := fun i => (q i).trans (hca i)
  have z0 : wb.cell? ⟨w.heap.size, 0, none⟩ = some (.slice A1 p.headers.length c1) := hqz 0
  have z1 : wb.cell? ⟨w.heap.size, 1, none⟩ = some (.slice A2 p.metas.length c2) := hqz 1
  have z2 : wb.cell? ⟨w.heap.size, 2, none⟩ = some (.slice A3 p.states.length c3) := hqz 2
  have z3 : wb.cell? ⟨w.heap.size, 3, none⟩ = some (.slice A4 p.actions.length c4) := hqz 3
  have z4 : wb.cell? ⟨w.heap.size, 4, none⟩ = some (.slice A5 p.tables.length c5) := hqz 4
  have z5 : wb.cell? ⟨w.heap.size, 5, none⟩ = some (.slice A6 p.control.length c6) := hqz 5
  have z6 : wb.cell? ⟨w.heap.size, 6, none⟩ = some (.slice A7 p.emit.length c7) := hqz 6
  simp only [hsa] at hcb
  have y0 : wb.cell? ⟨w.heap.size + 1, 0, none⟩ = some (.int .u8 8) := hcb 0
  have y1 : wb.cell? ⟨w.heap.size + 1, 1, none⟩ = some (.int .i64 (i : Int)) := hcb 1
  have y2 : wb.cell? ⟨w.heap.size + 1, 2, none⟩ = some (.int .i64 0) := hcb 2
  have y3 : wb.cell? ⟨w.heap.size + 1, 3, none⟩ = some (s0) := hcb 3
  have y4 : wb.cell? ⟨w.heap.size + 1, 4, none⟩ = some (s1) := hcb 4
  have y5 : wb.cell? ⟨w.heap.size + 1, 5, none⟩ = some (s2) := hcb 5
  have y6 : wb.cell? ⟨w.heap.size + 1, 6, none⟩ = some (s3) := hcb 6
  have y7 : wb.cell? ⟨w.heap.size + 1, 7, none⟩ = some (s4) := hcb 7
  have y8 : wb.cell? ⟨w.heap.size + 1, 8, none⟩ = some (s5) := hcb 8
  have y9 : wb.cell? ⟨w.heap.size + 1, 9, none⟩ = some (s6) := hcb 9
  have y10 : wb.cell? ⟨w.heap.size + 1, 10, none⟩ = some (s7) := hcb 10
  have y11 : wb.cell? ⟨w.heap.size + 1, 11, none⟩ = some (s8) := hcb 11
  have y12 : wb.cell? ⟨w.heap.size + 1, 12, none⟩ = some (s9) := hcb 12
  have y13 : wb.cell? ⟨w.heap.size + 1, 13, none⟩ = some (s10) := hcb 13
  have y14 : wb.cell? ⟨w.heap.size + 1, 14, none⟩ = some (s11) := hcb 14
  have y15 : wb.cell? ⟨w.heap.size + 1, 15, none⟩ = some (s12) := hcb 15
  have y16 : wb.cell? ⟨w.heap.size + 1, 16, none⟩ = some (s13) := hcb 16
  have hl1 : w.heap.size < wb.heap.size := by omega
  have hl2 : w.heap.size + 1 < wb.heap.size := by omega
  have hz2 : w.heap.size + 2 ≤ wb.heap.size := by omega
  have hBb : B ≤ wb.heap.size := by omega
  have hP2 := hP.below (hw.mono hB)
  have hb0 : Below wb.heap.size wb wb := Below.refl _ _
  have hwC := hide hw
  replace hsb := hide hsb
  have eg := enters_twice
  clear hP hqz q hbb hba hca hcb
  have lst := hP2.actions.len
  obtain ⟨b, o, ecs, hA, hb, hel, hcell, B1, d1, B2, d2, rfl, hn, hF, hG⟩ := hP2.actions.2 i _ hi
  subst hA
  have x0 : wb.cell? ⟨b, o + i * 3, none⟩ = some (.string f.name) := by simpa using hcell 0 _ rfl
  have x1 : wb.cell? ⟨b, o + i * 3 + 1, none⟩ = some (.slice B1 f.params.length d1) := hcell 1 _ rfl
  have x2 : wb.cell? ⟨b, o + i * 3 + 2, none⟩ = some (.slice B2 f.body.length d2) := hcell 2 _ rfl
  have hbw : b < wb.heap.size := by omega
  have hiz : (i : Int) < (p.actions.length : Int) := by have := (List.getElem?_eq_some_iff.1 hi).1; omega
  have hg := gcell' hb0 hb0.size
  have hT : ∀ n d os, Hid (Calls Tryz.prog 56 #[.int .i64 n, .pointer (some ⟨w.heap.size + 1, 0, none⟩)] (Go.Sort.grow (redrawn wb d) os) _) := fun n d os => hide (twice_b n (i : Int) (w.heap.size + 1) _ ((hg d os _ _ (by omega)).trans y1))
  have hX : ∀ d os, Hid (Calls Tryz.prog 12 #[.agg #[.slice A1 p.headers.length c1, .slice A2 p.metas.length c2, .slice A3 p.states.length c3, .slice (some ⟨b, o, none⟩) p.actions.length c4, .slice A5 p.tables.length c5, .slice A6 p.control.length c6, .slice A7 p.emit.length c7], .string f.name] (Go.Sort.grow (redrawn wb d) os) _) := fun d os => hide (action_any _ A1 A2 A3 (some ⟨b, o, none⟩) A5 A6 A7 p c1 c2 c3 c4 c5 c6 c7 f.name (hP2.grown hBb d os).1 (hP2.grown hBb d os).2)
  generalize actionI p f.name = zz at hX ⊢
  replace hP2 := hide hP2
  clear hb0 hcell hi
  go_enter Tryz.func21, Tryz.ntmps21
  go_wp2_with fail
  refine wp_region_quiet_below (by kernel_rfl) (by kernel_rfl) ?_
  repeat (any_goals (first | go_big_quiet_step (first | (go_at_fn 56; with_reducible exact Calls.regrown_of (hT _ _ _).out) | (go_at_call 12; with_reducible exact Calls.regrown_of (hX _ _).out)) | quiet_step (first | (go_at_fn 56; with_reducible exact Calls.regrown_of (hT _ _ _).out) | (go_at_call 12; with_reducible exact Calls.regrown_of (hX _ _).out))))
  refine wpQuiet_nil ?_
  intro w1 hw1
  replace hw1 := below_of_regrown hw1
  go_wp2
  go_ret
  exact ⟨rfl, hwC.out.trans (hw1.mono (by omega))⟩
set_option maxRecDepth 100000 in
set_option maxHeartbeats 8000000 in
theorem check_table (A1 A2 A3 A4 A5 A6 A7 : Option Addr) (p : Pg) (c1 c2 c3 c4 c5 c6 c7 : Nat) (B i : Nat) (f : Ta) (s0 s1 s2 s3 s4 s5 s6 s7 s8 s9 s10 s11 s12 s13 : Value) (w : World) (hB : B ≤ w.heap.size) (hP : PgS w B A1 A2 A3 A4 A5 A6 A7 p) (hi : p.tables[i]? = some f) :
    Calls Tryz.prog 21 #[.agg #[.slice A1 p.headers.length c1, .slice A2 p.metas.length c2, .slice A3 p.states.length c3, .slice A4 p.actions.length c4, .slice A5 p.tables.length c5, .slice A6 p.control.length c6, .slice A7 p.emit.length c7], .agg #[.int .u8 11, .int .i64 (i : Int), .int .i64 0, s0, s1, s2, s3, s4, s5, s6, s7, s8, s9, s10, s11, s12, s13]] w fun r w' => r = .returned (.int .i64 (isI (decide (tableI p f.name < (i : Int))) 8)) ∧ Below w.heap.size w w' := by
  obtain ⟨wa, hwa, hsa, hba, hca, -⟩ := box1 w #[.slice A1 p.headers.length c1, .slice A2 p.metas.length c2, .slice A3 p.states.length c3, .slice A4 p.actions.length c4, .slice A5 p.tables.length c5, .slice A6 p.control.length c6, .slice A7 p.emit.length c7] 30
  obtain ⟨wb, hwb, hsb, hbb, hcb, -⟩ := box1 wa #[.int .u8 11, .int .i64 (i : Int), .int .i64 0, s0, s1, s2, s3, s4, s5, s6, s7, s8, s9, s10, s11, s12, s13] 77
  have hw := hba.trans (hbb.mono (by omega))
  have q : ∀ i, wb.cell? ⟨w.heap.size, i, none⟩ = wa.cell? ⟨w.heap.size, i, none⟩ := fun i => hbb.cell (p := ⟨w.heap.size, i, none⟩) (by show w.heap.size < _; omega)
  have hqz : ∀ i, wb.cell? ⟨w.heap.size, i, none⟩ = (#[.slice A1 p.headers.length c1, .slice A2 p.metas.length c2, .slice A3 p.states.length c3, .slice A4 p.actions.length c4, .slice A5 p.tables.length c5, .slice A6 p.control.length c6, .slice A7 p.emit.length c7] : Array Value)[i]? := fun i => (q i).trans (hca i)
  have z0 : wb.cell? ⟨w.heap.size, 0, none⟩ = some (.slice A1 p.headers.length c1) := hqz 0
  have z1 : wb.cell? ⟨w.heap.size, 1, none⟩ = some (.slice A2 p.metas.length c2) := hqz 1
  have z2 : wb.cell? ⟨w.heap.size, 2, none⟩ = some (.slice A3 p.states.length c3) := hqz 2
  have z3 : wb.cell? ⟨w.heap.size, 3, none⟩ = some (.slice A4 p.actions.length c4) := hqz 3
  have z4 : wb.cell? ⟨w.heap.size, 4, none⟩ = some (.slice A5 p.tables.length c5) := hqz 4
  have z5 : wb.cell? ⟨w.heap.size, 5, none⟩ = some (.slice A6 p.control.length c6) := hqz 5
  have z6 : wb.cell? ⟨w.heap.size, 6, none⟩ = some (.slice A7 p.emit.length c7) := hqz 6
  simp only [hsa] at hcb
  have y0 : wb.cell? ⟨w.heap.size + 1, 0, none⟩ = some (.int .u8 11) := hcb 0
  have y1 : wb.cell? ⟨w.heap.size + 1, 1, none⟩ = some (.int .i64 (i : Int)) := hcb 1
  have y2 : wb.cell? ⟨w.heap.size + 1, 2, none⟩ = some (.int .i64 0) := hcb 2
  have y3 : wb.cell? ⟨w.heap.size + 1, 3, none⟩ = some (s0) := hcb 3
  have y4 : wb.cell? ⟨w.heap.size + 1, 4, none⟩ = some (s1) := hcb 4
  have y5 : wb.cell? ⟨w.heap.size + 1, 5, none⟩ = some (s2) := hcb 5
  have y6 : wb.cell? ⟨w.heap.size + 1, 6, none⟩ = some (s3) := hcb 6
  have y7 : wb.cell? ⟨w.heap.size + 1, 7, none⟩ = some (s4) := hcb 7
  have y8 : wb.cell? ⟨w.heap.size + 1, 8, none⟩ = some (s5) := hcb 8
  have y9 : wb.cell? ⟨w.heap.size + 1, 9, none⟩ = some (s6) := hcb 9
  have y10 : wb.cell? ⟨w.heap.size + 1, 10, none⟩ = some (s7) := hcb 10
  have y11 : wb.cell? ⟨w.heap.size + 1, 11, none⟩ = some (s8) := hcb 11
  have y12 : wb.cell? ⟨w.heap.size + 1, 12, none⟩ = some (s9) := hcb 12
  have y13 : wb.cell? ⟨w.heap.size + 1, 13, none⟩ = some (s10) := hcb 13
  have y14 : wb.cell? ⟨w.heap.size + 1, 14, none⟩ = some (s11) := hcb 14
  have y15 : wb.cell? ⟨w.heap.size + 1, 15, none⟩ = some (s12) := hcb 15
  have y16 : wb.cell? ⟨w.heap.size + 1, 16, none⟩ = some (s13) := hcb 16
  have hl1 : w.heap.size < wb.heap.size := by omega
  have hl2 : w.heap.size + 1 < wb.heap.size := by omega
  have hz2 : w.heap.size + 2 ≤ wb.heap.size := by omega
  have hBb : B ≤ wb.heap.size := by omega
  have hP2 := hP.below (hw.mono hB)
  have hb0 : Below wb.heap.size wb wb := Below.refl _ _
  have hwC := hide hw
  replace hsb := hide hsb
  have eg := enters_twice
  clear hP hqz q hbb hba hca hcb
  have lst := hP2.tables.len
  obtain ⟨b, o, ecs, hA, hb, hel, hcell, B1, d1, B2, d2, B3, d3, rfl, hn, hd, hF, hG, hH⟩ := hP2.tables.2 i _ hi
  subst hA
  have x0 : wb.cell? ⟨b, o + i * 5, none⟩ = some (.string f.name) := by simpa using hcell 0 _ rfl
  have x1 : wb.cell? ⟨b, o + i * 5 + 1, none⟩ = some (.slice B1 f.keys.length d1) := hcell 1 _ rfl
  have x2 : wb.cell? ⟨b, o + i * 5 + 2, none⟩ = some (.slice B2 f.actions.length d2) := hcell 2 _ rfl
  have x3 : wb.cell? ⟨b, o + i * 5 + 3, none⟩ = some (.string f.dname) := hcell 3 _ rfl
  have x4 : wb.cell? ⟨b, o + i * 5 + 4, none⟩ = some (.slice B3 f.dargs.length d3) := hcell 4 _ rfl
  have hbw : b < wb.heap.size := by omega
  have hiz : (i : Int) < (p.tables.length : Int) := by have := (List.getElem?_eq_some_iff.1 hi).1; omega
  have hg := gcell' hb0 hb0.size
  have hT : ∀ n d os, Hid (Calls Tryz.prog 56 #[.int .i64 n, .pointer (some ⟨w.heap.size + 1, 0, none⟩)] (Go.Sort.grow (redrawn wb d) os) _) := fun n d os => hide (twice_b n (i : Int) (w.heap.size + 1) _ ((hg d os _ _ (by omega)).trans y1))
  have hX : ∀ d os, Hid (Calls Tryz.prog 13 #[.agg #[.slice A1 p.headers.length c1, .slice A2 p.metas.length c2, .slice A3 p.states.length c3, .slice A4 p.actions.length c4, .slice (some ⟨b, o, none⟩) p.tables.length c5, .slice A6 p.control.length c6, .slice A7 p.emit.length c7], .string f.name] (Go.Sort.grow (redrawn wb d) os) _) := fun d os => hide (table_any _ A1 A2 A3 A4 (some ⟨b, o, none⟩) A6 A7 p c1 c2 c3 c4 c5 c6 c7 f.name (hP2.grown hBb d os).1 (hP2.grown hBb d os).2)
  generalize tableI p f.name = zz at hX ⊢
  replace hP2 := hide hP2
  clear hb0 hcell hi
  go_enter Tryz.func21, Tryz.ntmps21
  go_wp2_with fail
  refine wp_region_quiet_below (by kernel_rfl) (by kernel_rfl) ?_
  repeat (any_goals (first | go_big_quiet_step (first | (go_at_fn 56; with_reducible exact Calls.regrown_of (hT _ _ _).out) | (go_at_call 13; with_reducible exact Calls.regrown_of (hX _ _).out)) | quiet_step (first | (go_at_fn 56; with_reducible exact Calls.regrown_of (hT _ _ _).out) | (go_at_call 13; with_reducible exact Calls.regrown_of (hX _ _).out))))
  refine wpQuiet_nil ?_
  intro w1 hw1
  replace hw1 := below_of_regrown hw1
  go_wp2
  go_ret
  exact ⟨rfl, hwC.out.trans (hw1.mono (by omega))⟩
end Go.Proofs.YtcgmkjpgaigmfaaGreat

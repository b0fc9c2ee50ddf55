import Derived.Test.YtcgmkjpgaigmfaaGreatChk38
import Derived.Test.YtcgmkjpgaigmfaaGreatChk20
set_option linter.all false
/-! Printed by gen_r7c.py. The document's layer 7: decl. -/
namespace Go.Proofs.YtcgmkjpgaigmfaaGreat
open Go.RowKit
theorem findAt_le {α β : Type} [DecidableEq β] {l : List α} {f : α → β} {i : Nat} {a : α} (h : l[i]? = some a) : 0 ≤ findI (l.map f) (f a) ∧ findI (l.map f) (f a) ≤ (i : Int) := by
 obtain ⟨hi, rfl⟩ := List.getElem?_eq_some_iff.1 h
 have hm : f l[i] ∈ l.map f := List.mem_map_of_mem (List.getElem_mem hi)
 unfold findI
 rw [if_pos hm]
 have := idx_le (l.map f) i (by simpa using hi)
 simp only [List.getElem_map] at this
 omega
theorem stateI_le {p : Pg} {i : Nat} {f : Sa} (h : p.states[i]? = some f) : stateI p f.name ≤ (i : Int) := by
 have := findAt_le (f := Sa.name) h
 unfold stateI stateR
 split
 ·omega
 ·split
  ·omega
  ·omega
set_option maxRecDepth 100000 in
set_option maxHeartbeats 8000000 in
theorem decl07_meta (A1 A2 A3 A4 A5 A6 A7 : Option Addr) (p : Pg) (c1 c2 c3 c4 c5 c6 c7 : Nat) (B i : Nat) (f : Fd) (s0 s1 s2 s3 s4 s5 s6 s7 s8 s9 s10 s11 s12 s13 : Value) (w : World) (hB : B ≤ w.heap.size) (hP : PgS w B A1 A2 A3 A4 A5 A6 A7 p) (hi : p.metas[i]? = some f) :
  Calls Tryz.prog 79 #[.agg #[.slice A1 p.headers.length c1, .slice A2 p.metas.length c2, .slice A3 p.states.length c3, .slice A4 p.actions.length c4, .slice A5 p.tables.length c5, .slice A6 p.control.length c6, .slice A7 p.emit.length c7], .agg #[.int .u8 3, .int .i64 (i : Int), .int .i64 0, s0, s1, s2, s3, s4, s5, s6, s7, s8, s9, s10, s11, s12, s13]] w fun r w' => r = .returned (.int .i64 (isI (decide (metaI p f.1 < (i : Int))) 8)) ∧ Below w.heap.size w w' := by
 obtain ⟨wa, hwa, hsa, hba, hca, -⟩ := box1 w #[.slice A1 p.headers.length c1, .slice A2 p.metas.length c2, .slice A3 p.states.length c3, .slice A4 p.actions.length c4, .slice A5 p.tables.length c5, .slice A6 p.control.length c6, .slice A7 p.emit.length c7] 30
 obtain ⟨wb, hwb, hsb, hbb, hcb, -⟩ := box1 wa #[.int .u8 3, .int .i64 (i : Int), .int .i64 0, s0, s1, s2, s3, s4, s5, s6, s7, s8, s9, s10, s11, s12, s13] 77
 have hw := hba.trans (hbb.mono (by omega))
 have q : ∀ i, wb.cell? ⟨w.heap.size, i, none⟩ = wa.cell? ⟨w.heap.size, i, none⟩ := fun i => hbb.cell (p := ⟨w.heap.size, i, none⟩) (by show w.heap.size < _; omega)
 have hqz := fun i => (q i).trans (hca i)
 obtain ⟨z0, z1, z2, z3, z4, z5, z6⟩ := row7 (w := wb) (a := w.heap.size) fun i => hqz i
 simp only [hsa] at hcb
 obtain ⟨y0, y1, y2, y3, y4, y5, y6, y7, y8, y9, y10, y11, y12, y13, y14, y15, y16⟩ := row17 hcb
 have hl1 : w.heap.size < wb.heap.size := by omega
 have hl2 : w.heap.size + 1 < wb.heap.size := by omega
 have hz2 : w.heap.size + 2 ≤ wb.heap.size := by omega
 have hBb : B ≤ wb.heap.size := by omega
 have hP2 := hP.below (hw.mono hB)
 have hb0 : Below wb.heap.size wb wb := Below.refl _ _
 have hwC := hide hw
 replace hsb := hide hsb
 clear hP hqz q hbb hba hca hcb
 have lst := hP2.metas.len
 obtain ⟨b, o, ecs, hA, hb, hel, hcell, rfl, hn, hi6⟩ := hP2.metas.2 i _ hi
 subst hA
 have x0 : wb.cell? ⟨b, o + i * 2, none⟩ = some (.string f.1) := by simpa using hcell 0 _ rfl
 have x1 : wb.cell? ⟨b, o + i * 2 + 1, none⟩ = some (.int .i64 f.2) := hcell 1 _ rfl
 have hbw : b < wb.heap.size := by omega
 have hiz : (i : Int) < (p.metas.length : Int) := by have := (List.getElem?_eq_some_iff.1 hi).1; omega
 have hg := gcell' hb0 hb0.size
 have hX : ∀ d os, Hid (Calls Tryz.prog 135 #[.agg #[.slice A1 p.headers.length c1, .slice (some ⟨b, o, none⟩) p.metas.length c2, .slice A3 p.states.length c3, .slice A4 p.actions.length c4, .slice A5 p.tables.length c5, .slice A6 p.control.length c6, .slice A7 p.emit.length c7], .string f.1] (Go.Sort.grow (redrawn wb d) os) _) := fun d os => hide (meta07_any _ A1 (some ⟨b, o, none⟩) A3 A4 A5 A6 A7 p c1 c2 c3 c4 c5 c6 c7 f.1 (hP2.grown hBb d os).1 (hP2.grown hBb d os).2)
 have hle := (show metaI p f.1 ≤ (i : Int) from (findAt_le (f := Prod.fst) hi).2)
 generalize metaI p f.1 = zz at hX hle ⊢
 replace hP2 := hide hP2
 clear hb0 hcell hi
 by_cases hz : zz = (i : Int)
 ·subst hz
  go_enter Tryz.func79, Tryz.ntmps79
  go_wp2_with fail
  refine wp_region_quiet_below (by kernel_rfl) (by kernel_rfl) ?_
  repeat (any_goals (first | go_big_quiet_step (first | (go_at_call 135; with_reducible exact Calls.regrown_of (hX _ _).out)) | quiet_step (first | (go_at_call 135; with_reducible exact Calls.regrown_of (hX _ _).out))))
  refine wpQuiet_nil ?_
  intro w1 hw1
  replace hw1 := below_of_regrown hw1
  have hc1 := bcell' hw1
  go_wp2
  go_ret
  exact ⟨ret_int (by simp [isI]), hwC.out.trans (hw1.mono (by omega))⟩
 ·have hz1 : zz < (i : Int) := by omega
  have hz2 : ¬ (i : Int) = zz := fun h => hz h.symm
  clear hle
  go_enter Tryz.func79, Tryz.ntmps79
  go_wp2_with fail
  refine wp_region_quiet_below (by kernel_rfl) (by kernel_rfl) ?_
  repeat (any_goals (first | go_big_quiet_step (first | (go_at_call 135; with_reducible exact Calls.regrown_of (hX _ _).out)) | quiet_step (first | (go_at_call 135; with_reducible exact Calls.regrown_of (hX _ _).out))))
  refine wpQuiet_nil ?_
  intro w1 hw1
  replace hw1 := below_of_regrown hw1
  have hc1 := bcell' hw1
  go_wp2
  go_ret
  exact ⟨ret_int (by simp [isI, hz1]), hwC.out.trans (hw1.mono (by omega))⟩
set_option maxRecDepth 100000 in
set_option maxHeartbeats 8000000 in
theorem decl07_action (A1 A2 A3 A4 A5 A6 A7 : Option Addr) (p : Pg) (c1 c2 c3 c4 c5 c6 c7 : Nat) (B i : Nat) (f : Ac) (s0 s1 s2 s3 s4 s5 s6 s7 s8 s9 s10 s11 s12 s13 : Value) (w : World) (hB : B ≤ w.heap.size) (hP : PgS w B A1 A2 A3 A4 A5 A6 A7 p) (hi : p.actions[i]? = some f) :
  Calls Tryz.prog 79 #[.agg #[.slice A1 p.headers.length c1, .slice A2 p.metas.length c2, .slice A3 p.states.length c3, .slice A4 p.actions.length c4, .slice A5 p.tables.length c5, .slice A6 p.control.length c6, .slice A7 p.emit.length c7], .agg #[.int .u8 8, .int .i64 (i : Int), .int .i64 0, s0, s1, s2, s3, s4, s5, s6, s7, s8, s9, s10, s11, s12, s13]] w fun r w' => r = .returned (.int .i64 (isI (decide (actionI p f.name < (i : Int))) 8)) ∧ Below w.heap.size w w' := by
 obtain ⟨wa, hwa, hsa, hba, hca, -⟩ := box1 w #[.slice A1 p.headers.length c1, .slice A2 p.metas.length c2, .slice A3 p.states.length c3, .slice A4 p.actions.length c4, .slice A5 p.tables.length c5, .slice A6 p.control.length c6, .slice A7 p.emit.length c7] 30
 obtain ⟨wb, hwb, hsb, hbb, hcb, -⟩ := box1 wa #[.int .u8 8, .int .i64 (i : Int), .int .i64 0, s0, s1, s2, s3, s4, s5, s6, s7, s8, s9, s10, s11, s12, s13] 77
 have hw := hba.trans (hbb.mono (by omega))
 have q : ∀ i, wb.cell? ⟨w.heap.size, i, none⟩ = wa.cell? ⟨w.heap.size, i, none⟩ := fun i => hbb.cell (p := ⟨w.heap.size, i, none⟩) (by show w.heap.size < _; omega)
 have hqz := fun i => (q i).trans (hca i)
 obtain ⟨z0, z1, z2, z3, z4, z5, z6⟩ := row7 (w := wb) (a := w.heap.size) fun i => hqz i
 simp only [hsa] at hcb
 obtain ⟨y0, y1, y2, y3, y4, y5, y6, y7, y8, y9, y10, y11, y12, y13, y14, y15, y16⟩ := row17 hcb
 have hl1 : w.heap.size < wb.heap.size := by omega
 have hl2 : w.heap.size + 1 < wb.heap.size := by omega
 have hz2 : w.heap.size + 2 ≤ wb.heap.size := by omega
 have hBb : B ≤ wb.heap.size := by omega
 have hP2 := hP.below (hw.mono hB)
 have hb0 : Below wb.heap.size wb wb := Below.refl _ _
 have hwC := hide hw
 replace hsb := hide hsb
 clear hP hqz q hbb hba hca hcb
 have lst := hP2.actions.len
 obtain ⟨b, o, ecs, hA, hb, hel, hcell, B1, d1, B2, d2, rfl, hn, hF, hG⟩ := hP2.actions.2 i _ hi
 subst hA
 obtain ⟨x0, x1, x2⟩ := srow3 hcell
 have hbw : b < wb.heap.size := by omega
 have hiz : (i : Int) < (p.actions.length : Int) := by have := (List.getElem?_eq_some_iff.1 hi).1; omega
 have hg := gcell' hb0 hb0.size
 have hX : ∀ d os, Hid (Calls Tryz.prog 139 #[.agg #[.slice A1 p.headers.length c1, .slice A2 p.metas.length c2, .slice A3 p.states.length c3, .slice (some ⟨b, o, none⟩) p.actions.length c4, .slice A5 p.tables.length c5, .slice A6 p.control.length c6, .slice A7 p.emit.length c7], .string f.name] (Go.Sort.grow (redrawn wb d) os) _) := fun d os => hide (action07_any _ A1 A2 A3 (some ⟨b, o, none⟩) A5 A6 A7 p c1 c2 c3 c4 c5 c6 c7 f.name (hP2.grown hBb d os).1 (hP2.grown hBb d os).2)
 have hle := (show actionI p f.name ≤ (i : Int) from (findAt_le (f := Ac.name) hi).2)
 generalize actionI p f.name = zz at hX hle ⊢
 replace hP2 := hide hP2
 clear hb0 hcell hi
 by_cases hz : zz = (i : Int)
 ·subst hz
  go_enter Tryz.func79, Tryz.ntmps79
  go_wp2_with fail
  refine wp_region_quiet_below (by kernel_rfl) (by kernel_rfl) ?_
  repeat (any_goals (first | go_big_quiet_step (first | (go_at_call 139; with_reducible exact Calls.regrown_of (hX _ _).out)) | quiet_step (first | (go_at_call 139; with_reducible exact Calls.regrown_of (hX _ _).out))))
  refine wpQuiet_nil ?_
  intro w1 hw1
  replace hw1 := below_of_regrown hw1
  have hc1 := bcell' hw1
  go_wp2
  go_ret
  exact ⟨ret_int (by simp [isI]), hwC.out.trans (hw1.mono (by omega))⟩
 ·have hz1 : zz < (i : Int) := by omega
  have hz2 : ¬ (i : Int) = zz := fun h => hz h.symm
  clear hle
  go_enter Tryz.func79, Tryz.ntmps79
  go_wp2_with fail
  refine wp_region_quiet_below (by kernel_rfl) (by kernel_rfl) ?_
  repeat (any_goals (first | go_big_quiet_step (first | (go_at_call 139; with_reducible exact Calls.regrown_of (hX _ _).out)) | quiet_step (first | (go_at_call 139; with_reducible exact Calls.regrown_of (hX _ _).out))))
  refine wpQuiet_nil ?_
  intro w1 hw1
  replace hw1 := below_of_regrown hw1
  have hc1 := bcell' hw1
  go_wp2
  go_ret
  exact ⟨ret_int (by simp [isI, hz1]), hwC.out.trans (hw1.mono (by omega))⟩
set_option maxRecDepth 100000 in
set_option maxHeartbeats 8000000 in
theorem decl07_table (A1 A2 A3 A4 A5 A6 A7 : Option Addr) (p : Pg) (c1 c2 c3 c4 c5 c6 c7 : Nat) (B i : Nat) (f : Ta) (s0 s1 s2 s3 s4 s5 s6 s7 s8 s9 s10 s11 s12 s13 : Value) (w : World) (hB : B ≤ w.heap.size) (hP : PgS w B A1 A2 A3 A4 A5 A6 A7 p) (hi : p.tables[i]? = some f) :
  Calls Tryz.prog 79 #[.agg #[.slice A1 p.headers.length c1, .slice A2 p.metas.length c2, .slice A3 p.states.length c3, .slice A4 p.actions.length c4, .slice A5 p.tables.length c5, .slice A6 p.control.length c6, .slice A7 p.emit.length c7], .agg #[.int .u8 11, .int .i64 (i : Int), .int .i64 0, s0, s1, s2, s3, s4, s5, s6, s7, s8, s9, s10, s11, s12, s13]] w fun r w' => r = .returned (.int .i64 (isI (decide (tableI p f.name < (i : Int))) 8)) ∧ Below w.heap.size w w' := by
 obtain ⟨wa, hwa, hsa, hba, hca, -⟩ := box1 w #[.slice A1 p.headers.length c1, .slice A2 p.metas.length c2, .slice A3 p.states.length c3, .slice A4 p.actions.length c4, .slice A5 p.tables.length c5, .slice A6 p.control.length c6, .slice A7 p.emit.length c7] 30
 obtain ⟨wb, hwb, hsb, hbb, hcb, -⟩ := box1 wa #[.int .u8 11, .int .i64 (i : Int), .int .i64 0, s0, s1, s2, s3, s4, s5, s6, s7, s8, s9, s10, s11, s12, s13] 77
 have hw := hba.trans (hbb.mono (by omega))
 have q : ∀ i, wb.cell? ⟨w.heap.size, i, none⟩ = wa.cell? ⟨w.heap.size, i, none⟩ := fun i => hbb.cell (p := ⟨w.heap.size, i, none⟩) (by show w.heap.size < _; omega)
 have hqz := fun i => (q i).trans (hca i)
 obtain ⟨z0, z1, z2, z3, z4, z5, z6⟩ := row7 (w := wb) (a := w.heap.size) fun i => hqz i
 simp only [hsa] at hcb
 obtain ⟨y0, y1, y2, y3, y4, y5, y6, y7, y8, y9, y10, y11, y12, y13, y14, y15, y16⟩ := row17 hcb
 have hl1 : w.heap.size < wb.heap.size := by omega
 have hl2 : w.heap.size + 1 < wb.heap.size := by omega
 have hz2 : w.heap.size + 2 ≤ wb.heap.size := by omega
 have hBb : B ≤ wb.heap.size := by omega
 have hP2 := hP.below (hw.mono hB)
 have hb0 : Below wb.heap.size wb wb := Below.refl _ _
 have hwC := hide hw
 replace hsb := hide hsb
 clear hP hqz q hbb hba hca hcb
 have lst := hP2.tables.len
 obtain ⟨b, o, ecs, hA, hb, hel, hcell, B1, d1, B2, d2, B3, d3, rfl, hn, hd, hF, hG, hH⟩ := hP2.tables.2 i _ hi
 subst hA
 obtain ⟨x0, x1, x2, x3, x4⟩ := srow5 hcell
 have hbw : b < wb.heap.size := by omega
 have hiz : (i : Int) < (p.tables.length : Int) := by have := (List.getElem?_eq_some_iff.1 hi).1; omega
 have hg := gcell' hb0 hb0.size
 have hX : ∀ d os, Hid (Calls Tryz.prog 137 #[.agg #[.slice A1 p.headers.length c1, .slice A2 p.metas.length c2, .slice A3 p.states.length c3, .slice A4 p.actions.length c4, .slice (some ⟨b, o, none⟩) p.tables.length c5, .slice A6 p.control.length c6, .slice A7 p.emit.length c7], .string f.name] (Go.Sort.grow (redrawn wb d) os) _) := fun d os => hide (table07_any _ A1 A2 A3 A4 (some ⟨b, o, none⟩) A6 A7 p c1 c2 c3 c4 c5 c6 c7 f.name (hP2.grown hBb d os).1 (hP2.grown hBb d os).2)
 have hle := (show tableI p f.name ≤ (i : Int) from (findAt_le (f := Ta.name) hi).2)
 generalize tableI p f.name = zz at hX hle ⊢
 replace hP2 := hide hP2
 clear hb0 hcell hi
 by_cases hz : zz = (i : Int)
 ·subst hz
  go_enter Tryz.func79, Tryz.ntmps79
  go_wp2_with fail
  refine wp_region_quiet_below (by kernel_rfl) (by kernel_rfl) ?_
  repeat (any_goals (first | go_big_quiet_step (first | (go_at_call 137; with_reducible exact Calls.regrown_of (hX _ _).out)) | quiet_step (first | (go_at_call 137; with_reducible exact Calls.regrown_of (hX _ _).out))))
  refine wpQuiet_nil ?_
  intro w1 hw1
  replace hw1 := below_of_regrown hw1
  have hc1 := bcell' hw1
  go_wp2
  go_ret
  exact ⟨ret_int (by simp [isI]), hwC.out.trans (hw1.mono (by omega))⟩
 ·have hz1 : zz < (i : Int) := by omega
  have hz2 : ¬ (i : Int) = zz := fun h => hz h.symm
  clear hle
  go_enter Tryz.func79, Tryz.ntmps79
  go_wp2_with fail
  refine wp_region_quiet_below (by kernel_rfl) (by kernel_rfl) ?_
  repeat (any_goals (first | go_big_quiet_step (first | (go_at_call 137; with_reducible exact Calls.regrown_of (hX _ _).out)) | quiet_step (first | (go_at_call 137; with_reducible exact Calls.regrown_of (hX _ _).out))))
  refine wpQuiet_nil ?_
  intro w1 hw1
  replace hw1 := below_of_regrown hw1
  have hc1 := bcell' hw1
  go_wp2
  go_ret
  exact ⟨ret_int (by simp [isI, hz1]), hwC.out.trans (hw1.mono (by omega))⟩
set_option maxRecDepth 100000 in
set_option maxHeartbeats 8000000 in
theorem decl07_state (A1 A2 A3 A4 A5 A6 A7 : Option Addr) (p : Pg) (c1 c2 c3 c4 c5 c6 c7 : Nat) (B i : Nat) (f : Sa) (s0 s1 s2 s3 s4 s5 s6 s7 s8 s9 s10 s11 s12 s13 : Value) (w : World) (hB : B ≤ w.heap.size) (hP : PgS w B A1 A2 A3 A4 A5 A6 A7 p) (hi : p.states[i]? = some f) :
  Calls Tryz.prog 79 #[.agg #[.slice A1 p.headers.length c1, .slice A2 p.metas.length c2, .slice A3 p.states.length c3, .slice A4 p.actions.length c4, .slice A5 p.tables.length c5, .slice A6 p.control.length c6, .slice A7 p.emit.length c7], .agg #[.int .u8 4, .int .i64 (i : Int), .int .i64 0, s0, s1, s2, s3, s4, s5, s6, s7, s8, s9, s10, s11, s12, s13]] w fun r w' => r = .returned (.int .i64 (isI (decide (stateI p f.name < (i : Int))) 8)) ∧ Below w.heap.size w w' := by
 obtain ⟨wa, hwa, hsa, hba, hca, -⟩ := box1 w #[.slice A1 p.headers.length c1, .slice A2 p.metas.length c2, .slice A3 p.states.length c3, .slice A4 p.actions.length c4, .slice A5 p.tables.length c5, .slice A6 p.control.length c6, .slice A7 p.emit.length c7] 30
 obtain ⟨wb, hwb, hsb, hbb, hcb, -⟩ := box1 wa #[.int .u8 4, .int .i64 (i : Int), .int .i64 0, s0, s1, s2, s3, s4, s5, s6, s7, s8, s9, s10, s11, s12, s13] 77
 have hw := hba.trans (hbb.mono (by omega))
 have q : ∀ i, wb.cell? ⟨w.heap.size, i, none⟩ = wa.cell? ⟨w.heap.size, i, none⟩ := fun i => hbb.cell (p := ⟨w.heap.size, i, none⟩) (by show w.heap.size < _; omega)
 have hqz := fun i => (q i).trans (hca i)
 obtain ⟨z0, z1, z2, z3, z4, z5, z6⟩ := row7 (w := wb) (a := w.heap.size) fun i => hqz i
 simp only [hsa] at hcb
 obtain ⟨y0, y1, y2, y3, y4, y5, y6, y7, y8, y9, y10, y11, y12, y13, y14, y15, y16⟩ := row17 hcb
 have hl1 : w.heap.size < wb.heap.size := by omega
 have hl2 : w.heap.size + 1 < wb.heap.size := by omega
 have hz2 : w.heap.size + 2 ≤ wb.heap.size := by omega
 have hBb : B ≤ wb.heap.size := by omega
 have hP2 := hP.below (hw.mono hB)
 have hb0 : Below wb.heap.size wb wb := Below.refl _ _
 have hwC := hide hw
 replace hsb := hide hsb
 clear hP hqz q hbb hba hca hcb
 have lst := hP2.states.len
 obtain ⟨b, o, ecs, hA, hb, hel, hcell, B1, d1, B2, d2, B3, d3, rfl, hn, hd, hF, hG, hH⟩ := hP2.states.2 i _ hi
 subst hA
 obtain ⟨x0, x1, x2, x3, x4⟩ := srow5 hcell
 have hbw : b < wb.heap.size := by omega
 have hiz : (i : Int) < (p.states.length : Int) := by have := (List.getElem?_eq_some_iff.1 hi).1; omega
 have hg := gcell' hb0 hb0.size
 have hX : ∀ d os, Hid (Calls Tryz.prog 133 #[.agg #[.slice A1 p.headers.length c1, .slice A2 p.metas.length c2, .slice (some ⟨b, o, none⟩) p.states.length c3, .slice A4 p.actions.length c4, .slice A5 p.tables.length c5, .slice A6 p.control.length c6, .slice A7 p.emit.length c7], .string f.name] (Go.Sort.grow (redrawn wb d) os) _) := fun d os => hide (state07_any _ A1 A2 (some ⟨b, o, none⟩) A4 A5 A6 A7 p c1 c2 c3 c4 c5 c6 c7 f.name (hP2.grown hBb d os).1 (hP2.grown hBb d os).2)
 have hle := (show stateI p f.name ≤ (i : Int) from stateI_le hi)
 generalize stateI p f.name = zz at hX hle ⊢
 generalize stateB p f.name = zb at hX
 replace hP2 := hide hP2
 clear hb0 hcell hi
 by_cases hz : zz = (i : Int)
 ·subst hz
  go_enter Tryz.func79, Tryz.ntmps79
  go_wp2_with fail
  refine wp_region_quiet_below (by kernel_rfl) (by kernel_rfl) ?_
  repeat (any_goals (first | go_big_quiet_step (first | (go_at_call 133; with_reducible exact Calls.regrown_of (hX _ _).out)) | quiet_step (first | (go_at_call 133; with_reducible exact Calls.regrown_of (hX _ _).out))))
  refine wpQuiet_nil ?_
  intro w1 hw1
  replace hw1 := below_of_regrown hw1
  have hc1 := bcell' hw1
  go_wp2
  go_ret
  exact ⟨ret_int (by simp [isI]), hwC.out.trans (hw1.mono (by omega))⟩
 ·have hz1 : zz < (i : Int) := by omega
  have hz2 : ¬ (i : Int) = zz := fun h => hz h.symm
  clear hle
  go_enter Tryz.func79, Tryz.ntmps79
  go_wp2_with fail
  refine wp_region_quiet_below (by kernel_rfl) (by kernel_rfl) ?_
  repeat (any_goals (first | go_big_quiet_step (first | (go_at_call 133; with_reducible exact Calls.regrown_of (hX _ _).out)) | quiet_step (first | (go_at_call 133; with_reducible exact Calls.regrown_of (hX _ _).out))))
  refine wpQuiet_nil ?_
  intro w1 hw1
  replace hw1 := below_of_regrown hw1
  have hc1 := bcell' hw1
  go_wp2
  go_ret
  exact ⟨ret_int (by simp [isI, hz1]), hwC.out.trans (hw1.mono (by omega))⟩
end Go.Proofs.YtcgmkjpgaigmfaaGreat

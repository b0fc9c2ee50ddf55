import Derived.Test.YtbbdhknagofghaaGreatWhl27
import Derived.Test.YtbbdhknagofghaaGreatWhl11
set_option linter.all false
/-! Printed by gen_check.py. Layer 7: check: what is wrong with an item. -/
namespace Go.Proofs.YtbbdhknagofghaaGreat
open Go.RowKit
set_option maxHeartbeats 1000000 in
theorem twice_b (n m : Int) (a : Nat) (w : World) (h : w.cell? ⟨a, 1, none⟩ = some (.int .i64 m)) :
  Calls Tryz.prog 79 #[.int .i64 n, .pointer (some ⟨a, 0, none⟩)] w fun r w' => r = .returned (.int .i64 (isI (decide (n < m)) 8)) ∧ Below w.heap.size w w' := by
 go_enter Tryz.func79, Tryz.ntmps79
 go_wp2_with (go_at_call 80; refine (is_any _ _ _).mono ?_; rintro e w' ⟨rfl, rfl⟩)
 go_ret
 exact ⟨rfl, Below.refl _ _⟩
theorem enters_twice : ∀ args w, (callFunc 79 args).run Tryz.prog w = .ok (.enter 79 args) w := enters_of Tryz.func79 (by kernel_rfl) rfl
set_option maxRecDepth 100000 in
set_option maxHeartbeats 8000000 in
theorem check_meta (A1 A2 A3 A4 A5 A6 A7 : Option Addr) (p : Pg) (c1 c2 c3 c4 c5 c6 c7 : Nat) (B i : Nat) (f : Fd) (s0 s1 s2 s3 s4 s5 s6 s7 s8 s9 s10 s11 s12 s13 : Value) (w : World) (hB : B ≤ w.heap.size) (hP : PgS w B A1 A2 A3 A4 A5 A6 A7 p) (hi : p.metas[i]? = some f) :
  Calls Tryz.prog 32 #[.agg #[.slice A1 p.headers.length c1, .slice A2 p.metas.length c2, .slice A3 p.states.length c3, .slice A4 p.actions.length c4, .slice A5 p.tables.length c5, .slice A6 p.control.length c6, .slice A7 p.emit.length c7], .agg #[.int .u8 3, .int .i64 (i : Int), .int .i64 0, s0, s1, s2, s3, s4, s5, s6, s7, s8, s9, s10, s11, s12, s13]] w fun r w' => r = .returned (.int .i64 (isI (decide (metaI p f.1 < (i : Int))) 8)) ∧ Below w.heap.size w w' := by
 obtain ⟨wa, hwa, hsa, hba, hca, -⟩ := box1 w #[.slice A1 p.headers.length c1, .slice A2 p.metas.length c2, .slice A3 p.states.length c3, .slice A4 p.actions.length c4, .slice A5 p.tables.length c5, .slice A6 p.control.length c6, .slice A7 p.emit.length c7] 30
 obtain ⟨wb, hwb, hsb, hbb, hcb, -⟩ := box1 wa #[.int .u8 3, .int .i64 (i : Int), .int .i64 0, s0, s1, s2, s3, s4, s5, s6, s7, s8, s9, s10, s11, s12, s13] 49
 have hw := hba.trans (hbb.mono (by omega))
 have q : ∀ i, wb.cell? ⟨w.heap.size, i, none⟩ = wa.cell? ⟨w.heap.size, i, none⟩ := fun i => hbb.cell (p := ⟨w.heap.size, i, none⟩) (by show w.heap.size < _; omega)
 have hqz := fun i => (q i).trans (hca i)
 obtain ⟨z0, z1, z2, z3, z4, z5, z6⟩ := row7 (w := wb) (a := w.heap.size) fun i => hqz i
 simp only [hsa] at hcb
 obtain ⟨y0, y1, y2, y3, y4, y5, y6, y7, y8, y9, y10, y11, y12, y13, y14, y15, y16⟩ := row17 hcb
 have hl1 : w.heap.size < wb.heap.size := by omega
 have hl2 : w.heap.size + 1 < wb.heap.size := by omega
 have hz2 : w.heap.size + 2 ≤ wb.heap.size := by omega
 have hBb : B ≤ wb.heap.size := by omega
 have hP2 := hP.below (hw.mono hB)
 have hb0 : Below wb.heap.size wb wb := Below.refl _ _
 have hwC := hide hw
 replace hsb := hide hsb
 have eg := enters_twice
 clear hP hqz q hbb hba hca hcb
 have lst := hP2.metas.len
 obtain ⟨b, o, ecs, hA, hb, hel, hcell, rfl, hn, hi6⟩ := hP2.metas.2 i _ hi
 subst hA
 have x0 : wb.cell? ⟨b, o + i * 2, none⟩ = some (.string f.1) := by simpa using hcell 0 _ rfl
 have x1 : wb.cell? ⟨b, o + i * 2 + 1, none⟩ = some (.int .i64 f.2) := hcell 1 _ rfl
 have hbw : b < wb.heap.size := by omega
 have hiz : (i : Int) < (p.metas.length : Int) := by have := (List.getElem?_eq_some_iff.1 hi).1; omega
 have hg := gcell' hb0 hb0.size
 have hT : ∀ n d os, Hid (Calls Tryz.prog 79 #[.int .i64 n, .pointer (some ⟨w.heap.size + 1, 0, none⟩)] (Go.Sort.grow (redrawn wb d) os) _) := fun n d os => hide (twice_b n (i : Int) (w.heap.size + 1) _ ((hg d os _ _ (by omega)).trans y1))
 have hX : ∀ d os, Hid (Calls Tryz.prog 85 #[.agg #[.slice A1 p.headers.length c1, .slice (some ⟨b, o, none⟩) p.metas.length c2, .slice A3 p.states.length c3, .slice A4 p.actions.length c4, .slice A5 p.tables.length c5, .slice A6 p.control.length c6, .slice A7 p.emit.length c7], .string f.1] (Go.Sort.grow (redrawn wb d) os) _) := fun d os => hide (meta_any _ A1 (some ⟨b, o, none⟩) A3 A4 A5 A6 A7 p c1 c2 c3 c4 c5 c6 c7 f.1 (hP2.grown hBb d os).1 (hP2.grown hBb d os).2)
 generalize metaI p f.1 = zz at hX ⊢
 replace hP2 := hide hP2
 clear hb0 hcell hi
 go_enter Tryz.func32, Tryz.ntmps32
 go_wp2_with fail
 refine wp_region_quiet_below (by kernel_rfl) (by kernel_rfl) ?_
 repeat (any_goals (first | go_big_quiet_step (first | (go_at_fn 79; with_reducible exact Calls.regrown_of (hT _ _ _).out) | (go_at_call 85; with_reducible exact Calls.regrown_of (hX _ _).out)) | quiet_step (first | (go_at_fn 79; with_reducible exact Calls.regrown_of (hT _ _ _).out) | (go_at_call 85; with_reducible exact Calls.regrown_of (hX _ _).out))))
 refine wpQuiet_nil ?_
 intro w1 hw1
 replace hw1 := below_of_regrown hw1
 go_wp2
 go_ret
 exact ⟨rfl, hwC.out.trans (hw1.mono (by omega))⟩
set_option maxRecDepth 100000 in
set_option maxHeartbeats 8000000 in
theorem check_action (A1 A2 A3 A4 A5 A6 A7 : Option Addr) (p : Pg) (c1 c2 c3 c4 c5 c6 c7 : Nat) (B i : Nat) (f : Ac) (s0 s1 s2 s3 s4 s5 s6 s7 s8 s9 s10 s11 s12 s13 : Value) (w : World) (hB : B ≤ w.heap.size) (hP : PgS w B A1 A2 A3 A4 A5 A6 A7 p) (hi : p.actions[i]? = some f) :
  Calls Tryz.prog 32 #[.agg #[.slice A1 p.headers.length c1, .slice A2 p.metas.length c2, .slice A3 p.states.length c3, .slice A4 p.actions.length c4, .slice A5 p.tables.length c5, .slice A6 p.control.length c6, .slice A7 p.emit.length c7], .agg #[.int .u8 8, .int .i64 (i : Int), .int .i64 0, s0, s1, s2, s3, s4, s5, s6, s7, s8, s9, s10, s11, s12, s13]] w fun r w' => r = .returned (.int .i64 (isI (decide (actionI p f.name < (i : Int))) 8)) ∧ Below w.heap.size w w' := by
 obtain ⟨wa, hwa, hsa, hba, hca, -⟩ := box1 w #[.slice A1 p.headers.length c1, .slice A2 p.metas.length c2, .slice A3 p.states.length c3, .slice A4 p.actions.length c4, .slice A5 p.tables.length c5, .slice A6 p.control.length c6, .slice A7 p.emit.length c7] 30
 obtain ⟨wb, hwb, hsb, hbb, hcb, -⟩ := box1 wa #[.int .u8 8, .int .i64 (i : Int), .int .i64 0, s0, s1, s2, s3, s4, s5, s6, s7, s8, s9, s10, s11, s12, s13] 49
 have hw := hba.trans (hbb.mono (by omega))
 have q : ∀ i, wb.cell? ⟨w.heap.size, i, none⟩ = wa.cell? ⟨w.heap.size, i, none⟩ := fun i => hbb.cell (p := ⟨w.heap.size, i, none⟩) (by show w.heap.size < _; omega)
 have hqz := fun i => (q i).trans (hca i)
 obtain ⟨z0, z1, z2, z3, z4, z5, z6⟩ := row7 (w := wb) (a := w.heap.size) fun i => hqz i
 simp only [hsa] at hcb
 obtain ⟨y0, y1, y2, y3, y4, y5, y6, y7, y8, y9, y10, y11, y12, y13, y14, y15, y16⟩ := row17 hcb
 have hl1 : w.heap.size < wb.heap.size := by omega
 have hl2 : w.heap.size + 1 < wb.heap.size := by omega
 have hz2 : w.heap.size + 2 ≤ wb.heap.size := by omega
 have hBb : B ≤ wb.heap.size := by omega
 have hP2 := hP.below (hw.mono hB)
 have hb0 : Below wb.heap.size wb wb := Below.refl _ _
 have hwC := hide hw
 replace hsb := hide hsb
 have eg := enters_twice
 clear hP hqz q hbb hba hca hcb
 have lst := hP2.actions.len
 obtain ⟨b, o, ecs, hA, hb, hel, hcell, B1, d1, B2, d2, rfl, hn, hF, hG⟩ := hP2.actions.2 i _ hi
 subst hA
 obtain ⟨x0, x1, x2⟩ := srow3 hcell
 have hbw : b < wb.heap.size := by omega
 have hiz : (i : Int) < (p.actions.length : Int) := by have := (List.getElem?_eq_some_iff.1 hi).1; omega
 have hg := gcell' hb0 hb0.size
 have hT : ∀ n d os, Hid (Calls Tryz.prog 79 #[.int .i64 n, .pointer (some ⟨w.heap.size + 1, 0, none⟩)] (Go.Sort.grow (redrawn wb d) os) _) := fun n d os => hide (twice_b n (i : Int) (w.heap.size + 1) _ ((hg d os _ _ (by omega)).trans y1))
 have hX : ∀ d os, Hid (Calls Tryz.prog 38 #[.agg #[.slice A1 p.headers.length c1, .slice A2 p.metas.length c2, .slice A3 p.states.length c3, .slice (some ⟨b, o, none⟩) p.actions.length c4, .slice A5 p.tables.length c5, .slice A6 p.control.length c6, .slice A7 p.emit.length c7], .string f.name] (Go.Sort.grow (redrawn wb d) os) _) := fun d os => hide (action_any _ A1 A2 A3 (some ⟨b, o, none⟩) A5 A6 A7 p c1 c2 c3 c4 c5 c6 c7 f.name (hP2.grown hBb d os).1 (hP2.grown hBb d os).2)
 generalize actionI p f.name = zz at hX ⊢
 replace hP2 := hide hP2
 clear hb0 hcell hi
 go_enter Tryz.func32, Tryz.ntmps32
 go_wp2_with fail
 refine wp_region_quiet_below (by kernel_rfl) (by kernel_rfl) ?_
 repeat (any_goals (first | go_big_quiet_step (first | (go_at_fn 79; with_reducible exact Calls.regrown_of (hT _ _ _).out) | (go_at_call 38; with_reducible exact Calls.regrown_of (hX _ _).out)) | quiet_step (first | (go_at_fn 79; with_reducible exact Calls.regrown_of (hT _ _ _).out) | (go_at_call 38; with_reducible exact Calls.regrown_of (hX _ _).out))))
 refine wpQuiet_nil ?_
 intro w1 hw1
 replace hw1 := below_of_regrown hw1
 go_wp2
 go_ret
 exact ⟨rfl, hwC.out.trans (hw1.mono (by omega))⟩
set_option maxRecDepth 100000 in
set_option maxHeartbeats 8000000 in
theorem check_table (A1 A2 A3 A4 A5 A6 A7 : Option Addr) (p : Pg) (c1 c2 c3 c4 c5 c6 c7 : Nat) (B i : Nat) (f : Ta) (s0 s1 s2 s3 s4 s5 s6 s7 s8 s9 s10 s11 s12 s13 : Value) (w : World) (hB : B ≤ w.heap.size) (hP : PgS w B A1 A2 A3 A4 A5 A6 A7 p) (hi : p.tables[i]? = some f) :
  Calls Tryz.prog 32 #[.agg #[.slice A1 p.headers.length c1, .slice A2 p.metas.length c2, .slice A3 p.states.length c3, .slice A4 p.actions.length c4, .slice A5 p.tables.length c5, .slice A6 p.control.length c6, .slice A7 p.emit.length c7], .agg #[.int .u8 11, .int .i64 (i : Int), .int .i64 0, s0, s1, s2, s3, s4, s5, s6, s7, s8, s9, s10, s11, s12, s13]] w fun r w' => r = .returned (.int .i64 (isI (decide (tableI p f.name < (i : Int))) 8)) ∧ Below w.heap.size w w' := by
 obtain ⟨wa, hwa, hsa, hba, hca, -⟩ := box1 w #[.slice A1 p.headers.length c1, .slice A2 p.metas.length c2, .slice A3 p.states.length c3, .slice A4 p.actions.length c4, .slice A5 p.tables.length c5, .slice A6 p.control.length c6, .slice A7 p.emit.length c7] 30
 obtain ⟨wb, hwb, hsb, hbb, hcb, -⟩ := box1 wa #[.int .u8 11, .int .i64 (i : Int), .int .i64 0, s0, s1, s2, s3, s4, s5, s6, s7, s8, s9, s10, s11, s12, s13] 49
 have hw := hba.trans (hbb.mono (by omega))
 have q : ∀ i, wb.cell? ⟨w.heap.size, i, none⟩ = wa.cell? ⟨w.heap.size, i, none⟩ := fun i => hbb.cell (p := ⟨w.heap.size, i, none⟩) (by show w.heap.size < _; omega)
 have hqz := fun i => (q i).trans (hca i)
 obtain ⟨z0, z1, z2, z3, z4, z5, z6⟩ := row7 (w := wb) (a := w.heap.size) fun i => hqz i
 simp only [hsa] at hcb
 obtain ⟨y0, y1, y2, y3, y4, y5, y6, y7, y8, y9, y10, y11, y12, y13, y14, y15, y16⟩ := row17 hcb
 have hl1 : w.heap.size < wb.heap.size := by omega
 have hl2 : w.heap.size + 1 < wb.heap.size := by omega
 have hz2 : w.heap.size + 2 ≤ wb.heap.size := by omega
 have hBb : B ≤ wb.heap.size := by omega
 have hP2 := hP.below (hw.mono hB)
 have hb0 : Below wb.heap.size wb wb := Below.refl _ _
 have hwC := hide hw
 replace hsb := hide hsb
 have eg := enters_twice
 clear hP hqz q hbb hba hca hcb
 have lst := hP2.tables.len
 obtain ⟨b, o, ecs, hA, hb, hel, hcell, B1, d1, B2, d2, B3, d3, rfl, hn, hd, hF, hG, hH⟩ := hP2.tables.2 i _ hi
 subst hA
 obtain ⟨x0, x1, x2, x3, x4⟩ := srow5 hcell
 have hbw : b < wb.heap.size := by omega
 have hiz : (i : Int) < (p.tables.length : Int) := by have := (List.getElem?_eq_some_iff.1 hi).1; omega
 have hg := gcell' hb0 hb0.size
 have hT : ∀ n d os, Hid (Calls Tryz.prog 79 #[.int .i64 n, .pointer (some ⟨w.heap.size + 1, 0, none⟩)] (Go.Sort.grow (redrawn wb d) os) _) := fun n d os => hide (twice_b n (i : Int) (w.heap.size + 1) _ ((hg d os _ _ (by omega)).trans y1))
 have hX : ∀ d os, Hid (Calls Tryz.prog 90 #[.agg #[.slice A1 p.headers.length c1, .slice A2 p.metas.length c2, .slice A3 p.states.length c3, .slice A4 p.actions.length c4, .slice (some ⟨b, o, none⟩) p.tables.length c5, .slice A6 p.control.length c6, .slice A7 p.emit.length c7], .string f.name] (Go.Sort.grow (redrawn wb d) os) _) := fun d os => hide (table_any _ A1 A2 A3 A4 (some ⟨b, o, none⟩) A6 A7 p c1 c2 c3 c4 c5 c6 c7 f.name (hP2.grown hBb d os).1 (hP2.grown hBb d os).2)
 generalize tableI p f.name = zz at hX ⊢
 replace hP2 := hide hP2
 clear hb0 hcell hi
 go_enter Tryz.func32, Tryz.ntmps32
 go_wp2_with fail
 refine wp_region_quiet_below (by kernel_rfl) (by kernel_rfl) ?_
 repeat (any_goals (first | go_big_quiet_step (first | (go_at_fn 79; with_reducible exact Calls.regrown_of (hT _ _ _).out) | (go_at_call 90; with_reducible exact Calls.regrown_of (hX _ _).out)) | quiet_step (first | (go_at_fn 79; with_reducible exact Calls.regrown_of (hT _ _ _).out) | (go_at_call 90; with_reducible exact Calls.regrown_of (hX _ _).out))))
 refine wpQuiet_nil ?_
 intro w1 hw1
 replace hw1 := below_of_regrown hw1
 go_wp2
 go_ret
 exact ⟨rfl, hwC.out.trans (hw1.mono (by omega))⟩
end Go.Proofs.YtbbdhknagofghaaGreat
/-! Printed by gen_check.py. Layer 7: check: what is wrong with an item. -/
namespace Go.Proofs.YtbbdhknagofghaaGreat
open Go.RowKit
set_option maxRecDepth 100000 in
set_option maxHeartbeats 8000000 in
theorem check_header (A1 A2 A3 A4 A5 A6 A7 : Option Addr) (p : Pg) (c1 c2 c3 c4 c5 c6 c7 : Nat) (B i : Nat) (f : Hd) (s0 s1 s2 s3 s4 s5 s6 s7 s8 s9 s10 s11 s12 s13 : Value) (w : World) (hB : B ≤ w.heap.size) (hP : PgS w B A1 A2 A3 A4 A5 A6 A7 p) (hm : hdB f = true) (hi : p.headers[i]? = some f) :
  Calls Tryz.prog 32 #[.agg #[.slice A1 p.headers.length c1, .slice A2 p.metas.length c2, .slice A3 p.states.length c3, .slice A4 p.actions.length c4, .slice A5 p.tables.length c5, .slice A6 p.control.length c6, .slice A7 p.emit.length c7], .agg #[.int .u8 1, .int .i64 (i : Int), .int .i64 0, s0, s1, s2, s3, s4, s5, s6, s7, s8, s9, s10, s11, s12, s13]] w fun r w' => r = .returned (.int .i64 (eitherI (isI (decide (headerI p f.name < (i : Int))) 8) (isI (decide (bitsI f % 8 ≠ 0) || decide (256 < bitsI f)) 10))) ∧ Below w.heap.size w w' := by
 obtain ⟨wa, hwa, hsa, hba, hca, -⟩ := box1 w #[.slice A1 p.headers.length c1, .slice A2 p.metas.length c2, .slice A3 p.states.length c3, .slice A4 p.actions.length c4, .slice A5 p.tables.length c5, .slice A6 p.control.length c6, .slice A7 p.emit.length c7] 30
 obtain ⟨wb, hwb, hsb, hbb, hcb, -⟩ := box1 wa #[.int .u8 1, .int .i64 (i : Int), .int .i64 0, s0, s1, s2, s3, s4, s5, s6, s7, s8, s9, s10, s11, s12, s13] 49
 have hw := hba.trans (hbb.mono (by omega))
 have q : ∀ i, wb.cell? ⟨w.heap.size, i, none⟩ = wa.cell? ⟨w.heap.size, i, none⟩ := fun i => hbb.cell (p := ⟨w.heap.size, i, none⟩) (by show w.heap.size < _; omega)
 have hqz := fun i => (q i).trans (hca i)
 obtain ⟨z0, z1, z2, z3, z4, z5, z6⟩ := row7 (w := wb) (a := w.heap.size) fun i => hqz i
 simp only [hsa] at hcb
 obtain ⟨y0, y1, y2, y3, y4, y5, y6, y7, y8, y9, y10, y11, y12, y13, y14, y15, y16⟩ := row17 hcb
 have hl1 : w.heap.size < wb.heap.size := by omega
 have hl2 : w.heap.size + 1 < wb.heap.size := by omega
 have hz2 : w.heap.size + 2 ≤ wb.heap.size := by omega
 have hBb : B ≤ wb.heap.size := by omega
 have hP2 := hP.below (hw.mono hB)
 have hb0 : Below wb.heap.size wb wb := Below.refl _ _
 have hwC := hide hw
 replace hsb := hide hsb
 have eg := enters_twice
 clear hP hqz q hbb hba hca hcb
 have lst := hP2.headers.len
 obtain ⟨b, o, ecs, hA, hb, hel, hcell, B1, d1, rfl, hn, hF⟩ := hP2.headers.2 i _ hi
 subst hA
 have x0 : wb.cell? ⟨b, o + i * 2, none⟩ = some (.string f.name) := by simpa using hcell 0 _ rfl
 have x1 : wb.cell? ⟨b, o + i * 2 + 1, none⟩ = some (.slice B1 f.fields.length d1) := hcell 1 _ rfl
 have hbw : b < wb.heap.size := by omega
 have hiz : (i : Int) < (p.headers.length : Int) := by have := (List.getElem?_eq_some_iff.1 hi).1; omega
 have hBt := hide (bits_any f B1 d1 wb hBb hF hm)
 have hb2 := hide (show 0 ≤ bitsI f ∧ bitsI f ≤ 2048 from by
  simp only [hdB, Bool.and_eq_true, decide_eq_true_eq] at hm
  have := bitsN_le (l := f.fields) fun x hx => by
   have := List.all_eq_true.1 hm.2 x hx
   simp only [fdB, widthB, Bool.and_eq_true, decide_eq_true_eq] at this
   exact this.2
  have e : bitsI f = bitsN f.fields := rfl
  rw [e]; omega)
 generalize bitsI f = n at hBt hb2 ⊢
 obtain ⟨n0, n1⟩ := hb2.out
 have hlf := hF.len
 replace hP2 := hide hP2
 have eg1 := hide eg
 clear hcell hi hm hF hb2
 generalize hmm : n.tmod 8 = m at *
 have hme : n % 8 = m := by rw [← hmm, Int.tmod_eq_emod_of_nonneg n0]
 have hv := hide (show (decide (n % 8 ≠ 0) || decide (256 < n)) = ((m != 0) || decide (256 < n)) from by rw [hme]; congr 1; rw [Bool.eq_iff_iff]; simp)
 go_enter Tryz.func32, Tryz.ntmps32
 go_wp2_with (go_at_call 81; refine hBt.out.mono ?_; rintro e w1 ⟨rfl, hw1⟩)
 have hB1 : B ≤ w1.heap.size := by have := hw1.size; omega
 have hc1 := bcell' hw1
 have hP1 := hP2.out.below (hw1.mono hBb)
 have hg := gcell' hw1 hw1.size
 have hI : ∀ b n d os, Hid (Calls Tryz.prog 80 #[.bool b, .int .i64 n] (Go.Sort.grow (redrawn w1 d) os) _) := fun b n d os => hide (is_b b n _)
 have hE : ∀ x y d os, Hid (Calls Tryz.prog 82 #[.int .i64 x, .int .i64 y] (Go.Sort.grow (redrawn w1 d) os) _) := fun x y d os => hide (either_b x y _)
 have hT : ∀ n d os, Hid (Calls Tryz.prog 79 #[.int .i64 n, .pointer (some ⟨w.heap.size + 1, 0, none⟩)] (Go.Sort.grow (redrawn w1 d) os) _) := fun n d os => hide (twice_b n (i : Int) (w.heap.size + 1) _ ((hg d os _ _ (by omega)).trans y1))
 have hX : ∀ d os, Hid (Calls Tryz.prog 83 #[.agg #[.slice (some ⟨b, o, none⟩) p.headers.length c1, .slice A2 p.metas.length c2, .slice A3 p.states.length c3, .slice A4 p.actions.length c4, .slice A5 p.tables.length c5, .slice A6 p.control.length c6, .slice A7 p.emit.length c7], .string f.name] (Go.Sort.grow (redrawn w1 d) os) _) := fun d os => hide (header_any _ (some ⟨b, o, none⟩) A2 A3 A4 A5 A6 A7 p c1 c2 c3 c4 c5 c6 c7 f.name (hP1.grown hB1 d os).1 (hP1.grown hB1 d os).2)
 generalize hzz : headerI p f.name = zz at hX
 replace hzz := hide hzz
 replace hP1 := hide hP1
 replace hw1 := hide hw1
 cases hb8 : (m != 0) with
 | true =>
  rw [hb8] at hv
  refine wp_region_quiet_below (by kernel_rfl) (by kernel_rfl) ?_
  repeat (any_goals (first | go_big_quiet_step (first | (go_at_fn 79; with_reducible exact Calls.regrown_of (hT _ _ _).out) | (go_at_call 80; with_reducible exact Calls.regrown_of (hI _ _ _ _).out) | (go_at_call 82; with_reducible exact Calls.regrown_of (hE _ _ _ _).out) | (go_at_call 83; with_reducible exact Calls.regrown_of (hX _ _).out)) | quiet_step (first | (go_at_fn 79; with_reducible exact Calls.regrown_of (hT _ _ _).out) | (go_at_call 80; with_reducible exact Calls.regrown_of (hI _ _ _ _).out) | (go_at_call 82; with_reducible exact Calls.regrown_of (hE _ _ _ _).out) | (go_at_call 83; with_reducible exact Calls.regrown_of (hX _ _).out))))
  refine wpQuiet_nil ?_
  intro w2 hw2
  replace hw2 := below_of_regrown hw2
  go_wp2
  go_ret
  exact ⟨ret_int (by rw [hv.out, hzz.out]; rfl), (hwC.out.trans (hw1.out.mono (by omega))).trans (hw2.mono (by have := hw1.out.size; omega))⟩
 | false =>
  rw [hb8] at hv
  refine wp_region_quiet_below (by kernel_rfl) (by kernel_rfl) ?_
  repeat (any_goals (first | go_big_quiet_step (first | (go_at_fn 79; with_reducible exact Calls.regrown_of (hT _ _ _).out) | (go_at_call 80; with_reducible exact Calls.regrown_of (hI _ _ _ _).out) | (go_at_call 82; with_reducible exact Calls.regrown_of (hE _ _ _ _).out) | (go_at_call 83; with_reducible exact Calls.regrown_of (hX _ _).out)) | quiet_step (first | (go_at_fn 79; with_reducible exact Calls.regrown_of (hT _ _ _).out) | (go_at_call 80; with_reducible exact Calls.regrown_of (hI _ _ _ _).out) | (go_at_call 82; with_reducible exact Calls.regrown_of (hE _ _ _ _).out) | (go_at_call 83; with_reducible exact Calls.regrown_of (hX _ _).out))))
  refine wpQuiet_nil ?_
  intro w2 hw2
  replace hw2 := below_of_regrown hw2
  go_wp2
  go_ret
  exact ⟨ret_int (by rw [hv.out, hzz.out]; rfl), (hwC.out.trans (hw1.out.mono (by omega))).trans (hw2.mono (by have := hw1.out.size; omega))⟩
end Go.Proofs.YtbbdhknagofghaaGreat
/-! Printed by gen_check.py. Layer 7: check: what is wrong with an item. -/
namespace Go.Proofs.YtbbdhknagofghaaGreat
open Go.RowKit
set_option maxRecDepth 100000 in
set_option maxHeartbeats 8000000 in
theorem check_field (A1 A2 A3 A4 A5 A6 A7 : Option Addr) (p : Pg) (c1 c2 c3 c4 c5 c6 c7 : Nat) (B i : Nat) (j : Nat) (f : Hd) (g : Fd) (s0 s1 s2 s3 s4 s5 s6 s7 s8 s9 s10 s11 s12 s13 : Value) (w : World) (hB : B ≤ w.heap.size) (hP : PgS w B A1 A2 A3 A4 A5 A6 A7 p) (hi : p.headers[i]? = some f) (hj : f.fields[j]? = some g) :
  Calls Tryz.prog 32 #[.agg #[.slice A1 p.headers.length c1, .slice A2 p.metas.length c2, .slice A3 p.states.length c3, .slice A4 p.actions.length c4, .slice A5 p.tables.length c5, .slice A6 p.control.length c6, .slice A7 p.emit.length c7], .agg #[.int .u8 2, .int .i64 (i : Int), .int .i64 (j : Int), s0, s1, s2, s3, s4, s5, s6, s7, s8, s9, s10, s11, s12, s13]] w fun r w' => r = .returned (.int .i64 (isI (decide (fieldI p (i : Int) g.1 < (j : Int))) 8)) ∧ Below w.heap.size w w' := by
 obtain ⟨wa, hwa, hsa, hba, hca, -⟩ := box1 w #[.slice A1 p.headers.length c1, .slice A2 p.metas.length c2, .slice A3 p.states.length c3, .slice A4 p.actions.length c4, .slice A5 p.tables.length c5, .slice A6 p.control.length c6, .slice A7 p.emit.length c7] 30
 obtain ⟨wb, hwb, hsb, hbb, hcb, -⟩ := box1 wa #[.int .u8 2, .int .i64 (i : Int), .int .i64 (j : Int), s0, s1, s2, s3, s4, s5, s6, s7, s8, s9, s10, s11, s12, s13] 49
 have hw := hba.trans (hbb.mono (by omega))
 have q : ∀ i, wb.cell? ⟨w.heap.size, i, none⟩ = wa.cell? ⟨w.heap.size, i, none⟩ := fun i => hbb.cell (p := ⟨w.heap.size, i, none⟩) (by show w.heap.size < _; omega)
 have hqz := fun i => (q i).trans (hca i)
 obtain ⟨z0, z1, z2, z3, z4, z5, z6⟩ := row7 (w := wb) (a := w.heap.size) fun i => hqz i
 simp only [hsa] at hcb
 obtain ⟨y0, y1, y2, y3, y4, y5, y6, y7, y8, y9, y10, y11, y12, y13, y14, y15, y16⟩ := row17 hcb
 have hl1 : w.heap.size < wb.heap.size := by omega
 have hl2 : w.heap.size + 1 < wb.heap.size := by omega
 have hz2 : w.heap.size + 2 ≤ wb.heap.size := by omega
 have hBb : B ≤ wb.heap.size := by omega
 have hP2 := hP.below (hw.mono hB)
 have hb0 : Below wb.heap.size wb wb := Below.refl _ _
 have hwC := hide hw
 replace hsb := hide hsb
 have eg := enters_twice
 clear hP hqz q hbb hba hca hcb
 have lst := hP2.headers.len
 obtain ⟨b, o, ecs, hA, hb, hel, hcell, B1, d1, rfl, hn, hF⟩ := hP2.headers.2 i _ hi
 subst hA
 have x0 : wb.cell? ⟨b, o + i * 2, none⟩ = some (.string f.name) := by simpa using hcell 0 _ rfl
 have x1 : wb.cell? ⟨b, o + i * 2 + 1, none⟩ = some (.slice B1 f.fields.length d1) := hcell 1 _ rfl
 have hbw : b < wb.heap.size := by omega
 have hiz : (i : Int) < (p.headers.length : Int) := by have := (List.getElem?_eq_some_iff.1 hi).1; omega
 have hlf := hF.len
 obtain ⟨b', o', ecs', hA', hb', hel', hcell', rfl, hz, hi6⟩ := hF.2 j _ hj
 subst hA'
 have n0 : wb.cell? ⟨b', o' + j * 2, none⟩ = some (.string g.1) := by simpa using hcell' 0 _ rfl
 have n1 : wb.cell? ⟨b', o' + j * 2 + 1, none⟩ = some (.int .i64 g.2) := hcell' 1 _ rfl
 have hbw' : b' < wb.heap.size := by omega
 have hjz : (j : Int) < (f.fields.length : Int) := by have := (List.getElem?_eq_some_iff.1 hj).1; omega
 have hg := gcell' hb0 hb0.size
 have hI : ∀ b n d os, Hid (Calls Tryz.prog 80 #[.bool b, .int .i64 n] (Go.Sort.grow (redrawn wb d) os) _) := fun b n d os => hide (is_b b n _)
 have hX : ∀ d os, Hid (Calls Tryz.prog 84 #[.agg #[.slice (some ⟨b, o, none⟩) p.headers.length c1, .slice A2 p.metas.length c2, .slice A3 p.states.length c3, .slice A4 p.actions.length c4, .slice A5 p.tables.length c5, .slice A6 p.control.length c6, .slice A7 p.emit.length c7], .int .i64 (i : Int), .string g.1] (Go.Sort.grow (redrawn wb d) os) _) := fun d os => hide (field_any _ (some ⟨b, o, none⟩) A2 A3 A4 A5 A6 A7 p c1 c2 c3 c4 c5 c6 c7 ((i : Int)) g.1 (hP2.grown hBb d os).1 (hP2.grown hBb d os).2)
 generalize fieldI p (i : Int) g.1 = zz at hX ⊢
 replace hP2 := hide hP2
 clear hb0 hcell hcell' hi hj eg
 go_enter Tryz.func32, Tryz.ntmps32
 go_wp2_with fail
 refine wp_region_quiet_below (by kernel_rfl) (by kernel_rfl) ?_
 repeat (any_goals (first | go_big_quiet_step (first | (go_at_call 80; with_reducible exact Calls.regrown_of (hI _ _ _ _).out) | (go_at_call 84; with_reducible exact Calls.regrown_of (hX _ _).out)) | quiet_step (first | (go_at_call 80; with_reducible exact Calls.regrown_of (hI _ _ _ _).out) | (go_at_call 84; with_reducible exact Calls.regrown_of (hX _ _).out))))
 refine wpQuiet_nil ?_
 intro w1 hw1
 replace hw1 := below_of_regrown hw1
 go_wp2
 go_ret
 exact ⟨rfl, hwC.out.trans (hw1.mono (by omega))⟩
set_option maxRecDepth 100000 in
set_option maxHeartbeats 8000000 in
theorem check_param (A1 A2 A3 A4 A5 A6 A7 : Option Addr) (p : Pg) (c1 c2 c3 c4 c5 c6 c7 : Nat) (B i : Nat) (j : Nat) (f : Ac) (g : Fd) (s0 s1 s2 s3 s4 s5 s6 s7 s8 s9 s10 s11 s12 s13 : Value) (w : World) (hB : B ≤ w.heap.size) (hP : PgS w B A1 A2 A3 A4 A5 A6 A7 p) (hi : p.actions[i]? = some f) (hj : f.params[j]? = some g) :
  Calls Tryz.prog 32 #[.agg #[.slice A1 p.headers.length c1, .slice A2 p.metas.length c2, .slice A3 p.states.length c3, .slice A4 p.actions.length c4, .slice A5 p.tables.length c5, .slice A6 p.control.length c6, .slice A7 p.emit.length c7], .agg #[.int .u8 9, .int .i64 (i : Int), .int .i64 (j : Int), s0, s1, s2, s3, s4, s5, s6, s7, s8, s9, s10, s11, s12, s13]] w fun r w' => r = .returned (.int .i64 (isI (decide (paramI p (i : Int) g.1 < (j : Int))) 8)) ∧ Below w.heap.size w w' := by
 obtain ⟨wa, hwa, hsa, hba, hca, -⟩ := box1 w #[.slice A1 p.headers.length c1, .slice A2 p.metas.length c2, .slice A3 p.states.length c3, .slice A4 p.actions.length c4, .slice A5 p.tables.length c5, .slice A6 p.control.length c6, .slice A7 p.emit.length c7] 30
 obtain ⟨wb, hwb, hsb, hbb, hcb, -⟩ := box1 wa #[.int .u8 9, .int .i64 (i : Int), .int .i64 (j : Int), s0, s1, s2, s3, s4, s5, s6, s7, s8, s9, s10, s11, s12, s13] 49
 have hw := hba.trans (hbb.mono (by omega))
 have q : ∀ i, wb.cell? ⟨w.heap.size, i, none⟩ = wa.cell? ⟨w.heap.size, i, none⟩ := fun i => hbb.cell (p := ⟨w.heap.size, i, none⟩) (by show w.heap.size < _; omega)
 have hqz := fun i => (q i).trans (hca i)
 obtain ⟨z0, z1, z2, z3, z4, z5, z6⟩ := row7 (w := wb) (a := w.heap.size) fun i => hqz i
 simp only [hsa] at hcb
 obtain ⟨y0, y1, y2, y3, y4, y5, y6, y7, y8, y9, y10, y11, y12, y13, y14, y15, y16⟩ := row17 hcb
 have hl1 : w.heap.size < wb.heap.size := by omega
 have hl2 : w.heap.size + 1 < wb.heap.size := by omega
 have hz2 : w.heap.size + 2 ≤ wb.heap.size := by omega
 have hBb : B ≤ wb.heap.size := by omega
 have hP2 := hP.below (hw.mono hB)
 have hb0 : Below wb.heap.size wb wb := Below.refl _ _
 have hwC := hide hw
 replace hsb := hide hsb
 have eg := enters_twice
 clear hP hqz q hbb hba hca hcb
 have lst := hP2.actions.len
 obtain ⟨b, o, ecs, hA, hb, hel, hcell, B1, d1, B2, d2, rfl, hn, hF, hG⟩ := hP2.actions.2 i _ hi
 subst hA
 obtain ⟨x0, x1, x2⟩ := srow3 hcell
 have hbw : b < wb.heap.size := by omega
 have hiz : (i : Int) < (p.actions.length : Int) := by have := (List.getElem?_eq_some_iff.1 hi).1; omega
 have hlf := hF.len
 obtain ⟨b', o', ecs', hA', hb', hel', hcell', rfl, hz, hi6⟩ := hF.2 j _ hj
 subst hA'
 have n0 : wb.cell? ⟨b', o' + j * 2, none⟩ = some (.string g.1) := by simpa using hcell' 0 _ rfl
 have n1 : wb.cell? ⟨b', o' + j * 2 + 1, none⟩ = some (.int .i64 g.2) := hcell' 1 _ rfl
 have hbw' : b' < wb.heap.size := by omega
 have hjz : (j : Int) < (f.params.length : Int) := by have := (List.getElem?_eq_some_iff.1 hj).1; omega
 have hg := gcell' hb0 hb0.size
 have hI : ∀ b n d os, Hid (Calls Tryz.prog 80 #[.bool b, .int .i64 n] (Go.Sort.grow (redrawn wb d) os) _) := fun b n d os => hide (is_b b n _)
 have hX : ∀ d os, Hid (Calls Tryz.prog 88 #[.agg #[.slice A1 p.headers.length c1, .slice A2 p.metas.length c2, .slice A3 p.states.length c3, .slice (some ⟨b, o, none⟩) p.actions.length c4, .slice A5 p.tables.length c5, .slice A6 p.control.length c6, .slice A7 p.emit.length c7], .int .i64 (i : Int), .string g.1] (Go.Sort.grow (redrawn wb d) os) _) := fun d os => hide (param_any _ A1 A2 A3 (some ⟨b, o, none⟩) A5 A6 A7 p c1 c2 c3 c4 c5 c6 c7 ((i : Int)) g.1 (hP2.grown hBb d os).1 (hP2.grown hBb d os).2)
 generalize paramI p (i : Int) g.1 = zz at hX ⊢
 replace hP2 := hide hP2
 clear hb0 hcell hcell' hi hj eg
 go_enter Tryz.func32, Tryz.ntmps32
 go_wp2_with fail
 refine wp_region_quiet_below (by kernel_rfl) (by kernel_rfl) ?_
 repeat (any_goals (first | go_big_quiet_step (first | (go_at_call 80; with_reducible exact Calls.regrown_of (hI _ _ _ _).out) | (go_at_call 88; with_reducible exact Calls.regrown_of (hX _ _).out)) | quiet_step (first | (go_at_call 80; with_reducible exact Calls.regrown_of (hI _ _ _ _).out) | (go_at_call 88; with_reducible exact Calls.regrown_of (hX _ _).out))))
 refine wpQuiet_nil ?_
 intro w1 hw1
 replace hw1 := below_of_regrown hw1
 go_wp2
 go_ret
 exact ⟨rfl, hwC.out.trans (hw1.mono (by omega))⟩
end Go.Proofs.YtbbdhknagofghaaGreat

import Derived.Test.YtcgmkjpgaigmfaaGreatOnc18
set_option linter.all false
/-! Printed by gen_check.py. Layer 7: check: what is wrong with an item. -/
namespace Go.Proofs.YtcgmkjpgaigmfaaGreat
open Go.RowKit
theorem sindexS_b (A : Option Addr) (cap : Nat) (xs : List ByteArray) (n : ByteArray) (w : World) (h : Sl 1 rStr w w.heap.size A xs) :
    Calls Tryz.prog 65 #[.slice A xs.length cap, .string n] w fun e w' => e = .returned (.int .i64 (findI xs n)) ∧ Below w.heap.size w w' :=
  (sindexS_any A cap xs n w h).mono fun _ _ ⟨h1, h2⟩ => ⟨h1, h2 ▸ Below.refl _ _⟩
theorem Sl.grownS {α : Type} {R : CR α} {k : Nat} {w : World} {B : Nat} {A : Option Addr} {xs : List α} (sR : Sta R) (h : Sl k R w B A xs) (hB : B ≤ w.heap.size) (d : Nat) (os : Array Obj) :
    Sl k R (Go.Sort.grow (redrawn w d) os) (Go.Sort.grow (redrawn w d) os).heap.size A xs :=
  (h.below sR ((below_regrown w d os).mono hB)).more sR (Nat.le_trans hB (gsize w d os))
set_option maxRecDepth 100000 in
set_option maxHeartbeats 8000000 in
theorem check_listed (A1 A2 A3 A4 A5 A6 A7 : Option Addr) (p : Pg) (c1 c2 c3 c4 c5 c6 c7 : Nat) (B i : Nat) (j : Nat) (f : Ta) (g : ByteArray) (s0 s1 s2 s3 s4 s5 s6 s7 s8 s9 s10 s11 s12 s13 : Value) (w : World) (hB : B ≤ w.heap.size) (hP : PgS w B A1 A2 A3 A4 A5 A6 A7 p) (hi : p.tables[i]? = some f) (hj : f.actions[j]? = some g) :
    Calls Tryz.prog 21 #[.agg #[.slice A1 p.headers.length c1, .slice A2 p.metas.length c2, .slice A3 p.states.length c3, .slice A4 p.actions.length c4, .slice A5 p.tables.length c5, .slice A6 p.control.length c6, .slice A7 p.emit.length c7], .agg #[.int .u8 13, .int .i64 (i : Int), .int .i64 (j : Int), s0, s1, s2, s3, s4, s5, s6, s7, s8, s9, s10, s11, s12, s13]] w fun r w' => r = .returned (.int .i64 (eitherI (isI (decide (actionI p g < 0)) 7) (isI (decide (findI f.actions g < (j : Int))) 8))) ∧ Below w.heap.size w w' := by
  obtain ⟨wa, hwa, hsa, hba, hca, -⟩ := box1 w #[.slice A1 p.headers.length c1, .slice A2 p.metas.length c2, .slice A3 p.states.length c3, .slice A4 p.actions.length c4, .slice A5 p.tables.length c5, .slice A6 p.control.length c6, .slice A7 p.emit.length c7] 30
  obtain ⟨wb, hwb, hsb, hbb, hcb, -⟩ := box1 wa #[.int .u8 13, .int .i64 (i : Int), .int .i64 (j : Int), s0, s1, s2, s3, s4, s5, s6, s7, s8, s9, s10, s11, s12, s13] 77
  have hw := hba.trans (hbb.mono (by omega))
  have q : ∀ i, wb.cell? ⟨w.heap.size, i, none⟩ = wa.cell? ⟨w.heap.size, i, none⟩ := fun i => hbb.cell (p := ⟨w.heap.size, i, none⟩) (by show w.heap.size < _; omega)
  have hqz : ∀ i, wb.cell? ⟨w.heap.size, i, none⟩ = (#[.slice A1 p.headers.length c1, .slice A2 p.metas.length c2, .slice A3 p.states.length c3, .slice A4 p.actions.length c4, .slice A5 p.tables.length c5, .slice A6 p.control.length c6, .slice A7 p.emit.length c7] : Array Value)[i]? := fun i => (q i).trans (hca i)
  have z0 : wb.cell? ⟨w.heap.size, 0, none⟩ = some (.slice A1 p.headers.length c1) := hqz 0
  have z1 : wb.cell? ⟨w.heap.size, 1, none⟩ = some (.slice A2 p.metas.length c2) := hqz 1
  have z2 : wb.cell? ⟨w.heap.size, 2, none⟩ = some (.slice A3 p.states.length c3) := hqz 2
  have z3 : wb.cell? ⟨w.heap.size, 3, none⟩ = some (.slice A4 p.actions.length c4) := hqz 3
  have z4 : wb.cell? ⟨w.heap.size, 4, none⟩ = some (.slice A5 p.tables.length c5) := hqz 4
  have z5 : wb.cell? ⟨w.heap.size, 5, none⟩ = some (.slice A6 p.control.length c6) := hqz 5
  have z6 : wb.cell? ⟨w.heap.size, 6, none⟩ = some (.slice A7 p.emit.length c7) := hqz 6
  simp only [hsa] at hcb
  have y0 : wb.cell? ⟨w.heap.size + 1, 0, none⟩ = some (.int .u8 13) := hcb 0
  have y1 : wb.cell? ⟨w.heap.size + 1, 1, none⟩ = some (.int .i64 (i : Int)) := hcb 1
  have y2 : wb.cell? ⟨w.heap.size + 1, 2, none⟩ = some (.int .i64 (j : Int)) := hcb 2
  have y3 : wb.cell? ⟨w.heap.size + 1, 3, none⟩ = some (s0) := hcb 3
  have y4 : wb.cell? ⟨w.heap.size + 1, 4, none⟩ = some (s1) := hcb 4
  have y5 : wb.cell? ⟨w.heap.size + 1, 5, none⟩ = some (s2) := hcb 5
  have y6 : wb.cell? ⟨w.heap.size + 1, 6, none⟩ = some (s3) := hcb 6
  have y7 : wb.cell? ⟨w.heap.size + 1, 7, none⟩ = some (s4) := hcb 7
  have y8 : wb.cell? ⟨w.heap.size + 1, 8, none⟩ = some (s5) := hcb 8
  have y9 : wb.cell? ⟨w.heap.size + 1, 9, none⟩ = some (s6) := hcb 9
  have y10 : wb.cell? ⟨w.heap.size + 1, 10, none⟩ = some (s7) := hcb 10
  have y11 : wb.cell? ⟨w.heap.size + 1, 11, none⟩ = some (s8) := hcb 11
  have y12 : wb.cell? ⟨w.heap.size + 1, 12, none⟩ = some (s9) := hcb 12
  have y13 : wb.cell? ⟨w.heap.size + 1, 13, none⟩ = some (s10) := hcb 13
  have y14 : wb.cell? ⟨w.heap.size + 1, 14, none⟩ = some (s11) := hcb 14
  have y15 : wb.cell? ⟨w.heap.size + 1, 15, none⟩ = some (s12) := hcb 15
  have y16 : wb.cell? ⟨w.heap.size + 1, 16, none⟩ = some (s13) := hcb 16
  have hl1 : w.heap.size < wb.heap.size := by omega
  have hl2 : w.heap.size + 1 < wb.heap.size := by omega
  have hz2 : w.heap.size + 2 ≤ wb.heap.size := by omega
  have hBb : B ≤ wb.heap.size := by omega
  have hP2 := hP.below (hw.mono hB)
  have hb0 : Below wb.heap.size wb wb := Below.refl _ _
  have hwC := hide hw
  replace hsb := hide hsb
  have eg := enters_twice
  clear hP hqz q hbb hba hca hcb
  have lst := hP2.tables.len
  obtain ⟨b, o, ecs, hA, hb, hel, hcell, B1, d1, B2, d2, B3, d3, rfl, hn, hd, hF, hG, hH⟩ := hP2.tables.2 i _ hi
  subst hA
  have x0 : wb.cell? ⟨b, o + i * 5, none⟩ = some (.string f.name) := by simpa using hcell 0 _ rfl
  have x1 : wb.cell? ⟨b, o + i * 5 + 1, none⟩ = some (.slice B1 f.keys.length d1) := hcell 1 _ rfl
  have x2 : wb.cell? ⟨b, o + i * 5 + 2, none⟩ = some (.slice B2 f.actions.length d2) := hcell 2 _ rfl
  have x3 : wb.cell? ⟨b, o + i * 5 + 3, none⟩ = some (.string f.dname) := hcell 3 _ rfl
  have x4 : wb.cell? ⟨b, o + i * 5 + 4, none⟩ = some (.slice B3 f.dargs.length d3) := hcell 4 _ rfl
  have hbw : b < wb.heap.size := by omega
  have hiz : (i : Int) < (p.tables.length : Int) := by have := (List.getElem?_eq_some_iff.1 hi).1; omega
  have hlf := hF.len
  have hlg := hG.len
  have hlh := hH.len
  have hjl := (List.getElem?_eq_some_iff.1 hj).1
  obtain ⟨b', o', u, hA', hb', hcell', hr, hz⟩ := hG.at1 hjl
  subst hA'
  cases hr
  rw [(List.getElem?_eq_some_iff.1 hj).2] at hcell' hz
  have hbw' : b' < wb.heap.size := by omega
  have hjz : (j : Int) < (f.actions.length : Int) := by omega
  have hg := gcell' hb0 hb0.size
  go_enter Tryz.func21, Tryz.ntmps21
  replace hP2 := hide hP2
  replace hG := hide hG
  clear hcell hi hj eg hF hH
  go_wp2_with fail
  refine wp_region_quiet_below (by kernel_rfl) (by kernel_rfl) ?_
  repeat (any_goals (first | go_big_quiet_step (fail) | quiet_step (fail)))
  refine wpQuiet_nil ?_
  intro w1 hw1
  replace hw1 := below_of_regrown hw1
  clear hg
  have hc1 := bcell' hw1
  have hB1 : B ≤ w1.heap.size := by have := hw1.size; omega
  have hP1 := hP2.out.below (hw1.mono hBb)
  have hG1 := hG.out.below sta_str (hw1.mono hBb)
  have hg := gcell' hw1 hw1.size
  have hI : ∀ b n d os, Hid (Calls Tryz.prog 57 #[.bool b, .int .i64 n] (Go.Sort.grow (redrawn w1 d) os) _) := fun b n d os => hide (is_b b n _)
  have hE : ∀ x y d os, Hid (Calls Tryz.prog 58 #[.int .i64 x, .int .i64 y] (Go.Sort.grow (redrawn w1 d) os) _) := fun x y d os => hide (either_b x y _)
  have hX : ∀ d os, Hid (Calls Tryz.prog 12 #[.agg #[.slice A1 p.headers.length c1, .slice A2 p.metas.length c2, .slice A3 p.states.length c3, .slice A4 p.actions.length c4, .slice (some ⟨b, o, none⟩) p.tables.length c5, .slice A6 p.control.length c6, .slice A7 p.emit.length c7], .string g] (Go.Sort.grow (redrawn w1 d) os) _) := fun d os => hide (action_any _ A1 A2 A3 A4 (some ⟨b, o, none⟩) A6 A7 p c1 c2 c3 c4 c5 c6 c7 g (hP1.grown hB1 d os).1 (hP1.grown hB1 d os).2)
  have hS : ∀ d os, Hid (Calls Tryz.prog 65 #[.slice (some ⟨b', o', none⟩) f.actions.length d2, .string g] (Go.Sort.grow (redrawn w1 d) os) _) := fun d os => hide (sindexS_b _ d2 f.actions g _ (hG1.grownS sta_str hB1 d os))
  generalize hzz : actionI p g = zz at hX
  generalize hzf : findI f.actions g = zf at hS
  replace hzz := hide hzz
  replace hzf := hide hzf
  replace hP1 := hide hP1
  replace hG1 := hide hG1
  replace hw1 := hide hw1
  clear hb0
  go_wp2_with fail
  refine wp_region_quiet_below (by kernel_rfl) (by kernel_rfl) ?_
  repeat (any_goals (first | go_big_quiet_step (first | (go_at_call 57; with_reducible exact Calls.regrown_of (hI _ _ _ _).out) | (go_at_call 58; with_reducible exact Calls.regrown_of (hE _ _ _ _).out) | (go_at_call 12; with_reducible exact Calls.regrown_of (hX _ _).out) | (go_at_call 65; with_reducible exact Calls.regrown_of (hS _ _).out)) | quiet_step (first | (go_at_call 57; with_reducible exact Calls.regrown_of (hI _ _ _ _).out) | (go_at_call 58; with_reducible exact Calls.regrown_of (hE _ _ _ _).out) | (go_at_call 12; with_reducible exact Calls.regrown_of (hX _ _).out) | (go_at_call 65; with_reducible exact Calls.regrown_of (hS _ _).out))))
  refine wpQuiet_nil ?_
  intro w2 hw2
  replace hw2 := below_of_regrown hw2
  go_wp2
  go_ret
  exact ⟨ret_int (by rw [hzz.out, hzf.out]), (hwC.out.trans (hw1.out.mono (by omega))).trans (hw2.mono (by have := hw1.out.size; omega))⟩
set_option maxRecDepth 100000 in
set_option maxHeartbeats 8000000 in
theorem check_emit (A1 A2 A3 A4 A5 A6 A7 : Option Addr) (p : Pg) (c1 c2 c3 c4 c5 c6 c7 : Nat) (B i : Nat) (g : ByteArray) (s0 s1 s2 s3 s4 s5 s6 s7 s8 s9 s10 s11 s12 s13 : Value) (w : World) (hB : B ≤ w.heap.size) (hP : PgS w B A1 A2 A3 A4 A5 A6 A7 p) (hi : p.emit[i]? = some g) :
    Calls Tryz.prog 21 #[.agg #[.slice A1 p.headers.length c1, .slice A2 p.metas.length c2, .slice A3 p.states.length c3, .slice A4 p.actions.length c4, .slice A5 p.tables.length c5, .slice A6 p.control.length c6, .slice A7 p.emit.length c7], .agg #[.int .u8 15, .int .i64 (i : Int), .int .i64 0, s0, s1, s2, s3, s4, s5, s6, s7, s8, s9, s10, s11, s12, s13]] w fun r w' => r = .returned (.int .i64 (eitherI (isI (decide (headerI p g < 0)) 7) (isI (decide (findI p.emit g < (i : Int))) 8))) ∧ Below w.heap.size w w' := by
  obtain ⟨wa, hwa, hsa, hba, hca, -⟩ := box1 w #[.slice A1 p.headers.length c1, .slice A2 p.metas.length c2, .slice A3 p.states.length c3, .slice A4 p.actions.length c4, .slice A5 p.tables.length c5, .slice A6 p.control.length c6, .slice A7 p.emit.length c7] 30
  obtain ⟨wb, hwb, hsb, hbb, hcb, -⟩ := box1 wa #[.int .u8 15, .int .i64 (i : Int), .int .i64 0, s0, s1, s2, s3, s4, s5, s6, s7, s8, s9, s10, s11, s12, s13] 77
  have hw := hba.trans (hbb.mono (by omega))
  have q : ∀ i, wb.cell? ⟨w.heap.size, i, none⟩ = wa.cell? ⟨w.heap.size, i, none⟩ := fun i => hbb.cell (p := ⟨w.heap.size, i, none⟩) (by show w.heap.size < _; omega)
  have hqz : ∀ i, wb.cell? ⟨w.heap.size, i, none⟩ = (#[.slice A1 p.headers.length c1, .slice A2 p.metas.length c2, .slice A3 p.states.length c3, .slice A4 p.actions.length c4, .slice A5 p.tables.length c5, .slice A6 p.control.length c6, .slice A7 p.emit.length c7] : Array Value)[i]? := fun i => (q i).trans (hca i)
  have z0 : wb.cell? ⟨w.heap.size, 0, none⟩ = some (.slice A1 p.headers.length c1) := hqz 0
  have z1 : wb.cell? ⟨w.heap.size, 1, none⟩ = some (.slice A2 p.metas.length c2) := hqz 1
  have z2 : wb.cell? ⟨w.heap.size, 2, none⟩ = some (.slice A3 p.states.length c3) := hqz 2
  have z3 : wb.cell? ⟨w.heap.size, 3, none⟩ = some (.slice A4 p.actions.length c4) := hqz 3
  have z4 : wb.cell? ⟨w.heap.size, 4, none⟩ = some (.slice A5 p.tables.length c5) := hqz 4
  have z5 : wb.cell? ⟨w.heap.size, 5, none⟩ = some (.slice A6 p.control.length c6) := hqz 5
  have z6 : wb.cell? ⟨w.heap.size, 6, none⟩ = some (.slice A7 p.emit.length c7) := hqz 6
  simp only [hsa] at hcb
  have y0 : wb.cell? ⟨w.heap.size + 1, 0, none⟩ = some (.int .u8 15) := hcb 0
  have y1 : wb.cell? ⟨w.heap.size + 1, 1, none⟩ = some (.int .i64 (i : Int)) := hcb 1
  have y2 : wb.cell? ⟨w.heap.size + 1, 2, none⟩ = some (.int .i64 0) := hcb 2
  have y3 : wb.cell? ⟨w.heap.size + 1, 3, none⟩ = some (s0) := hcb 3
  have y4 : wb.cell? ⟨w.heap.size + 1, 4, none⟩ = some (s1) := hcb 4
  have y5 : wb.cell? ⟨w.heap.size + 1, 5, none⟩ = some (s2) := hcb 5
  have y6 : wb.cell? ⟨w.heap.size + 1, 6, none⟩ = some (s3) := hcb 6
  have y7 : wb.cell? ⟨w.heap.size + 1, 7, none⟩ = some (s4) := hcb 7
  have y8 : wb.cell? ⟨w.heap.size + 1, 8, none⟩ = some (s5) := hcb 8
  have y9 : wb.cell? ⟨w.heap.size + 1, 9, none⟩ = some (s6) := hcb 9
  have y10 : wb.cell? ⟨w.heap.size + 1, 10, none⟩ = some (s7) := hcb 10
  have y11 : wb.cell? ⟨w.heap.size + 1, 11, none⟩ = some (s8) := hcb 11
  have y12 : wb.cell? ⟨w.heap.size + 1, 12, none⟩ = some (s9) := hcb 12
  have y13 : wb.cell? ⟨w.heap.size + 1, 13, none⟩ = some (s10) := hcb 13
  have y14 : wb.cell? ⟨w.heap.size + 1, 14, none⟩ = some (s11) := hcb 14
  have y15 : wb.cell? ⟨w.heap.size + 1, 15, none⟩ = some (s12) := hcb 15
  have y16 : wb.cell? ⟨w.heap.size + 1, 16, none⟩ = some (s13) := hcb 16
  have hl1 : w.heap.size < wb.heap.size := by omega
  have hl2 : w.heap.size + 1 < wb.heap.size := by omega
  have hz2 : w.heap.size + 2 ≤ wb.heap.size := by omega
  have hBb : B ≤ wb.heap.size := by omega
  have hP2 := hP.below (hw.mono hB)
  have hb0 : Below wb.heap.size wb wb := Below.refl _ _
  have hwC := hide hw
  replace hsb := hide hsb
  have eg := enters_twice
  clear hP hqz q hbb hba hca hcb
  have lst := hP2.emit.len
  have hil := (List.getElem?_eq_some_iff.1 hi).1
  obtain ⟨b, o, u, hA, hb, hcell, hr, hz⟩ := hP2.emit.at1 hil
  subst hA
  cases hr
  rw [(List.getElem?_eq_some_iff.1 hi).2] at hcell hz
  have hbw : b < wb.heap.size := by omega
  have hiz : (i : Int) < (p.emit.length : Int) := by omega
  have hg := gcell' hb0 hb0.size
  have hI : ∀ b n d os, Hid (Calls Tryz.prog 57 #[.bool b, .int .i64 n] (Go.Sort.grow (redrawn wb d) os) _) := fun b n d os => hide (is_b b n _)
  have hE : ∀ x y d os, Hid (Calls Tryz.prog 58 #[.int .i64 x, .int .i64 y] (Go.Sort.grow (redrawn wb d) os) _) := fun x y d os => hide (either_b x y _)
  have hX : ∀ d os, Hid (Calls Tryz.prog 10 #[.agg #[.slice A1 p.headers.length c1, .slice A2 p.metas.length c2, .slice A3 p.states.length c3, .slice A4 p.actions.length c4, .slice A5 p.tables.length c5, .slice A6 p.control.length c6, .slice (some ⟨b, o, none⟩) p.emit.length c7], .string g] (Go.Sort.grow (redrawn wb d) os) _) := fun d os => hide (header_any _ A1 A2 A3 A4 A5 A6 (some ⟨b, o, none⟩) p c1 c2 c3 c4 c5 c6 c7 g (hP2.grown hBb d os).1 (hP2.grown hBb d os).2)
  have hS : ∀ d os, Hid (Calls Tryz.prog 65 #[.slice (some ⟨b, o, none⟩) p.emit.length c7, .string g] (Go.Sort.grow (redrawn wb d) os) _) := fun d os => hide (sindexS_b _ c7 p.emit g _ (hP2.emit.grownS sta_str hBb d os))
  generalize headerI p g = zz at hX ⊢
  generalize findI p.emit g = zf at hS ⊢
  replace hP2 := hide hP2
  clear hb0 hi eg
  go_enter Tryz.func21, Tryz.ntmps21
  go_wp2_with fail
  refine wp_region_quiet_below (by kernel_rfl) (by kernel_rfl) ?_
  repeat (any_goals (first | go_big_quiet_step (first | (go_at_call 57; with_reducible exact Calls.regrown_of (hI _ _ _ _).out) | (go_at_call 58; with_reducible exact Calls.regrown_of (hE _ _ _ _).out) | (go_at_call 10; with_reducible exact Calls.regrown_of (hX _ _).out) | (go_at_call 65; with_reducible exact Calls.regrown_of (hS _ _).out)) | quiet_step (first | (go_at_call 57; with_reducible exact Calls.regrown_of (hI _ _ _ _).out) | (go_at_call 58; with_reducible exact Calls.regrown_of (hE _ _ _ _).out) | (go_at_call 10; with_reducible exact Calls.regrown_of (hX _ _).out) | (go_at_call 65; with_reducible exact Calls.regrown_of (hS _ _).out))))
  refine wpQuiet_nil ?_
  intro w1 hw1
  replace hw1 := below_of_regrown hw1
  go_wp2
  go_ret
  exact ⟨rfl, hwC.out.trans (hw1.mono (by omega))⟩
end Go.Proofs.YtcgmkjpgaigmfaaGreat

import Derived.Test.YtcgmkjpgaigmfaaGreatChk38
import Derived.Test.YtcgmkjpgaigmfaaGreatChk17
import Derived.Test.YtcgmkjpgaigmfaaGreatChk20
set_option linter.all false
/-! Printed by gen_r7e.py. The document's layer 7: parsed. -/
namespace Go.Proofs.YtcgmkjpgaigmfaaGreat
open Go.RowKit
def nextB (p : Pg) (s : Sa) : Bool := if s.dest = strE then s.keys.all (thereE p (-1)) else stateB p s.dest
set_option maxRecDepth 100000 in
set_option maxHeartbeats 4000000 in
theorem parsed07_take (A1 A2 A3 A4 A5 A6 A7 : Option Addr) (p : Pg) (c1 c2 c3 c4 c5 c6 c7 : Nat) (B i : Nat) (s : Sa) (j : Nat) (nm : ByteArray) (s0 s1 s2 s3 s4 s5 s6 s7 s8 s9 s10 s11 s12 s13 : Value) (w : World) (hB : B ≤ w.heap.size) (hP : PgS w B A1 A2 A3 A4 A5 A6 A7 p) (hi : p.states[i]? = some s) (hj : s.takes[j]? = some nm) :
  Calls Tryz.prog 75 #[.agg #[.slice A1 p.headers.length c1, .slice A2 p.metas.length c2, .slice A3 p.states.length c3, .slice A4 p.actions.length c4, .slice A5 p.tables.length c5, .slice A6 p.control.length c6, .slice A7 p.emit.length c7], .agg #[.int .u8 5, .int .i64 (i : Int), .int .i64 (j : Int), s0, s1, s2, s3, s4, s5, s6, s7, s8, s9, s10, s11, s12, s13]] w fun r w' => r = .returned (.bool (decide (0 ≤ headerI p nm))) ∧ Below w.heap.size w w' := by
 have hs := List.getElem?_eq_some_iff.1 hi
 obtain ⟨hlt, hst⟩ := hs
 obtain ⟨wa, hwa, hsa, hba, hca, -⟩ := box1 w #[.slice A1 p.headers.length c1, .slice A2 p.metas.length c2, .slice A3 p.states.length c3, .slice A4 p.actions.length c4, .slice A5 p.tables.length c5, .slice A6 p.control.length c6, .slice A7 p.emit.length c7] 30
 obtain ⟨wb, hwb, hsb, hbb, hcb, -⟩ := box1 wa #[.int .u8 5, .int .i64 (i : Int), .int .i64 (j : Int), s0, s1, s2, s3, s4, s5, s6, s7, s8, s9, s10, s11, s12, s13] 77
 have hw := hba.trans (hbb.mono (by omega))
 have q : ∀ i, wb.cell? ⟨w.heap.size, i, none⟩ = wa.cell? ⟨w.heap.size, i, none⟩ := fun i => hbb.cell (p := ⟨w.heap.size, i, none⟩) (by show w.heap.size < _; omega)
 have hqz := fun i => (q i).trans (hca i)
 obtain ⟨z0, z1, z2, z3, z4, z5, z6⟩ := row7 (w := wb) (a := w.heap.size) fun i => hqz i
 simp only [hsa] at hcb
 have y0 : wb.cell? ⟨w.heap.size + 1, 0, none⟩ = some (.int .u8 5) := hcb 0
 have y1 : wb.cell? ⟨w.heap.size + 1, 1, none⟩ = some (.int .i64 (i : Int)) := hcb 1
 have y2 : wb.cell? ⟨w.heap.size + 1, 2, none⟩ = some (.int .i64 (j : Int)) := hcb 2
 have hl1 : w.heap.size < wb.heap.size := by omega
 have hl2 : w.heap.size + 1 < wb.heap.size := by omega
 have hz2 : w.heap.size + 2 = wb.heap.size := by omega
 have hBb : B ≤ wb.heap.size := by omega
 have hP2 := hP.below (hw.mono hB)
 have lst := hP2.states.len
 obtain ⟨b, o, ecs, hA3, hb, hel, hcell, B1, d1, B2, d2, B3, d3, rfl, hn, hd, hT, hK, hC⟩ := hP2.states.2 i s hi
 subst hA3
 have m1 := hT.len
 have m2 := hK.len
 have m3 := hC.len
 obtain ⟨x0, x1, x2, x3, x4⟩ := srow5 hcell
 obtain ⟨wc, hwc, hsc, hbc, hcc, -⟩ := box1 wb #[.string s.name, .slice B1 s.takes.length d1, .string s.dest, .slice B2 s.keys.length d2, .slice B3 s.cases_.length d3] 52
 have hwC := hw.trans (hbc.mono (by omega))
 have r1 : ∀ i, wc.cell? ⟨w.heap.size, i, none⟩ = wb.cell? ⟨w.heap.size, i, none⟩ := fun i => hbc.cell (p := ⟨w.heap.size, i, none⟩) (by show w.heap.size < _; omega)
 have r2 : ∀ i, wc.cell? ⟨w.heap.size + 1, i, none⟩ = wb.cell? ⟨w.heap.size + 1, i, none⟩ := fun i => hbc.cell (p := ⟨w.heap.size + 1, i, none⟩) (by show w.heap.size + 1 < _; omega)
 have hcz : ∀ i, wc.cell? ⟨w.heap.size, i, none⟩ = (#[.slice A1 p.headers.length c1, .slice A2 p.metas.length c2, .slice (some ⟨b, o, none⟩) p.states.length c3, .slice A4 p.actions.length c4, .slice A5 p.tables.length c5, .slice A6 p.control.length c6, .slice A7 p.emit.length c7] : Array Value)[i]? := fun i => (r1 i).trans (hqz i)
 obtain ⟨f0, f1, f2, f3, f4, f5, f6⟩ := row7 (w := wc) (a := w.heap.size) fun i => hcz i
 have g0 : wc.cell? ⟨w.heap.size + 1, 0, none⟩ = some (.int .u8 5) := (r2 0).trans y0
 have g1 : wc.cell? ⟨w.heap.size + 1, 1, none⟩ = some (.int .i64 (i : Int)) := (r2 1).trans y1
 have g2 : wc.cell? ⟨w.heap.size + 1, 2, none⟩ = some (.int .i64 (j : Int)) := (r2 2).trans y2
 simp only [hsb, hsa] at hcc
 obtain ⟨v0, v1, v2, v3, v4⟩ := row5 hcc
 have hk1 : w.heap.size < wc.heap.size := by omega
 have hk2 : w.heap.size + 1 < wc.heap.size := by omega
 have hk3 : w.heap.size + 1 + 1 < wc.heap.size := by omega
 have hBc : B ≤ wc.heap.size := by omega
 have hbw : b < wc.heap.size := by omega
 have hiz : (i : Int) < (p.states.length : Int) := by omega
 have hwC' := hide hwC
 have hP3 := hide (hP2.below (hbc.mono hBb))
 have hT3 := hide (hT.below sta_str (hbc.mono hBb))
 have hK3 := hide (hK.below sta_ex (hbc.mono hBb))
 have hC3 := hide (hC.below sta_ca (hbc.mono hBb))
 have hcz' := hide hcz
 clear hcell hT hK hC hP2 hP hw hqz q r1 r2 hbc hbb hba hca hcb hcc hcz hwC hst
 replace hz2 := hide hz2
 replace hsc := hide hsc
 have hjl := (List.getElem?_eq_some_iff.1 hj).1
 have hjz : (j : Int) < (s.takes.length : Int) := by omega
 obtain ⟨b', o', u, hA', hb', hcell', hr, hz⟩ := hT3.out.at1 hjl
 subst hA'
 cases hr
 rw [(List.getElem?_eq_some_iff.1 hj).2] at hcell' hz
 have hbw' : b' < wc.heap.size := by omega
 have hb0 : Below wc.heap.size wc wc := Below.refl _ _
 have hg := gcell' hb0 (Nat.le_refl _)
 have hX : ∀ d os, Hid (Calls Tryz.prog 132 #[.agg #[.slice A1 p.headers.length c1, .slice A2 p.metas.length c2, .slice (some ⟨b, o, none⟩) p.states.length c3, .slice A4 p.actions.length c4, .slice A5 p.tables.length c5, .slice A6 p.control.length c6, .slice A7 p.emit.length c7], .string nm] (Go.Sort.grow (redrawn wc d) os) _) := fun d os => hide (header07_any _ A1 A2 (some ⟨b, o, none⟩) A4 A5 A6 A7 p c1 c2 c3 c4 c5 c6 c7 nm (hP3.out.grown hBc d os).1 (hP3.out.grown hBc d os).2)
 generalize headerI p nm = zz at hX ⊢
 clear hb0 hi
 go_enter Tryz.func75, Tryz.ntmps75
 go_wp2_with fail
 refine wp_region_quiet_below (by kernel_rfl) (by kernel_rfl) ?_
 repeat (any_goals (first | go_big_quiet_step (first | (go_at_call 132; with_reducible exact Calls.regrown_of (hX _ _).out)) | quiet_step (first | (go_at_call 132; with_reducible exact Calls.regrown_of (hX _ _).out))))
 refine wpQuiet_nil ?_
 intro w1 hw1
 replace hw1 := below_of_regrown hw1
 go_wp2
 go_ret
 exact ⟨ret_b (by first | rfl | simp), hwC'.out.trans (hw1.mono (by omega))⟩
set_option maxRecDepth 100000 in
set_option maxHeartbeats 4000000 in
theorem parsed07_case (A1 A2 A3 A4 A5 A6 A7 : Option Addr) (p : Pg) (c1 c2 c3 c4 c5 c6 c7 : Nat) (B i : Nat) (s : Sa) (j : Nat) (c : Ca) (s0 s1 s2 s3 s4 s5 s6 s7 s8 s9 s10 s11 s12 s13 : Value) (w : World) (hB : B ≤ w.heap.size) (hP : PgS w B A1 A2 A3 A4 A5 A6 A7 p) (hi : p.states[i]? = some s) (hj : s.cases_[j]? = some c) :
  Calls Tryz.prog 75 #[.agg #[.slice A1 p.headers.length c1, .slice A2 p.metas.length c2, .slice A3 p.states.length c3, .slice A4 p.actions.length c4, .slice A5 p.tables.length c5, .slice A6 p.control.length c6, .slice A7 p.emit.length c7], .agg #[.int .u8 7, .int .i64 (i : Int), .int .i64 (j : Int), s0, s1, s2, s3, s4, s5, s6, s7, s8, s9, s10, s11, s12, s13]] w fun r w' => r = .returned (.bool (stateB p c.dest)) ∧ Below w.heap.size w w' := by
 have hs := List.getElem?_eq_some_iff.1 hi
 obtain ⟨hlt, hst⟩ := hs
 obtain ⟨wa, hwa, hsa, hba, hca, -⟩ := box1 w #[.slice A1 p.headers.length c1, .slice A2 p.metas.length c2, .slice A3 p.states.length c3, .slice A4 p.actions.length c4, .slice A5 p.tables.length c5, .slice A6 p.control.length c6, .slice A7 p.emit.length c7] 30
 obtain ⟨wb, hwb, hsb, hbb, hcb, -⟩ := box1 wa #[.int .u8 7, .int .i64 (i : Int), .int .i64 (j : Int), s0, s1, s2, s3, s4, s5, s6, s7, s8, s9, s10, s11, s12, s13] 77
 have hw := hba.trans (hbb.mono (by omega))
 have q : ∀ i, wb.cell? ⟨w.heap.size, i, none⟩ = wa.cell? ⟨w.heap.size, i, none⟩ := fun i => hbb.cell (p := ⟨w.heap.size, i, none⟩) (by show w.heap.size < _; omega)
 have hqz := fun i => (q i).trans (hca i)
 obtain ⟨z0, z1, z2, z3, z4, z5, z6⟩ := row7 (w := wb) (a := w.heap.size) fun i => hqz i
 simp only [hsa] at hcb
 have y0 : wb.cell? ⟨w.heap.size + 1, 0, none⟩ = some (.int .u8 7) := hcb 0
 have y1 : wb.cell? ⟨w.heap.size + 1, 1, none⟩ = some (.int .i64 (i : Int)) := hcb 1
 have y2 : wb.cell? ⟨w.heap.size + 1, 2, none⟩ = some (.int .i64 (j : Int)) := hcb 2
 have hl1 : w.heap.size < wb.heap.size := by omega
 have hl2 : w.heap.size + 1 < wb.heap.size := by omega
 have hz2 : w.heap.size + 2 = wb.heap.size := by omega
 have hBb : B ≤ wb.heap.size := by omega
 have hP2 := hP.below (hw.mono hB)
 have lst := hP2.states.len
 obtain ⟨b, o, ecs, hA3, hb, hel, hcell, B1, d1, B2, d2, B3, d3, rfl, hn, hd, hT, hK, hC⟩ := hP2.states.2 i s hi
 subst hA3
 have m1 := hT.len
 have m2 := hK.len
 have m3 := hC.len
 obtain ⟨x0, x1, x2, x3, x4⟩ := srow5 hcell
 obtain ⟨wc, hwc, hsc, hbc, hcc, -⟩ := box1 wb #[.string s.name, .slice B1 s.takes.length d1, .string s.dest, .slice B2 s.keys.length d2, .slice B3 s.cases_.length d3] 52
 have hwC := hw.trans (hbc.mono (by omega))
 have r1 : ∀ i, wc.cell? ⟨w.heap.size, i, none⟩ = wb.cell? ⟨w.heap.size, i, none⟩ := fun i => hbc.cell (p := ⟨w.heap.size, i, none⟩) (by show w.heap.size < _; omega)
 have r2 : ∀ i, wc.cell? ⟨w.heap.size + 1, i, none⟩ = wb.cell? ⟨w.heap.size + 1, i, none⟩ := fun i => hbc.cell (p := ⟨w.heap.size + 1, i, none⟩) (by show w.heap.size + 1 < _; omega)
 have hcz : ∀ i, wc.cell? ⟨w.heap.size, i, none⟩ = (#[.slice A1 p.headers.length c1, .slice A2 p.metas.length c2, .slice (some ⟨b, o, none⟩) p.states.length c3, .slice A4 p.actions.length c4, .slice A5 p.tables.length c5, .slice A6 p.control.length c6, .slice A7 p.emit.length c7] : Array Value)[i]? := fun i => (r1 i).trans (hqz i)
 obtain ⟨f0, f1, f2, f3, f4, f5, f6⟩ := row7 (w := wc) (a := w.heap.size) fun i => hcz i
 have g0 : wc.cell? ⟨w.heap.size + 1, 0, none⟩ = some (.int .u8 7) := (r2 0).trans y0
 have g1 : wc.cell? ⟨w.heap.size + 1, 1, none⟩ = some (.int .i64 (i : Int)) := (r2 1).trans y1
 have g2 : wc.cell? ⟨w.heap.size + 1, 2, none⟩ = some (.int .i64 (j : Int)) := (r2 2).trans y2
 simp only [hsb, hsa] at hcc
 obtain ⟨v0, v1, v2, v3, v4⟩ := row5 hcc
 have hk1 : w.heap.size < wc.heap.size := by omega
 have hk2 : w.heap.size + 1 < wc.heap.size := by omega
 have hk3 : w.heap.size + 1 + 1 < wc.heap.size := by omega
 have hBc : B ≤ wc.heap.size := by omega
 have hbw : b < wc.heap.size := by omega
 have hiz : (i : Int) < (p.states.length : Int) := by omega
 have hwC' := hide hwC
 have hP3 := hide (hP2.below (hbc.mono hBb))
 have hT3 := hide (hT.below sta_str (hbc.mono hBb))
 have hK3 := hide (hK.below sta_ex (hbc.mono hBb))
 have hC3 := hide (hC.below sta_ca (hbc.mono hBb))
 have hcz' := hide hcz
 clear hcell hT hK hC hP2 hP hw hqz q r1 r2 hbc hbb hba hca hcb hcc hcz hwC hst
 replace hz2 := hide hz2
 replace hsc := hide hsc
 have hjl := (List.getElem?_eq_some_iff.1 hj).1
 have hjz : (j : Int) < (s.cases_.length : Int) := by omega
 obtain ⟨b', o', ecs', hA', hb', hel', hcell', B4, d4, rfl, hz, hS4⟩ := hC3.out.2 j c hj
 subst hA'
 have hbw' : b' < wc.heap.size := by omega
 obtain ⟨n0, n1, n2⟩ := srow3 hcell'
 have hb0 : Below wc.heap.size wc wc := Below.refl _ _
 have hg := gcell' hb0 (Nat.le_refl _)
 have hX : ∀ d os, Hid (Calls Tryz.prog 133 #[.agg #[.slice A1 p.headers.length c1, .slice A2 p.metas.length c2, .slice (some ⟨b, o, none⟩) p.states.length c3, .slice A4 p.actions.length c4, .slice A5 p.tables.length c5, .slice A6 p.control.length c6, .slice A7 p.emit.length c7], .string c.dest] (Go.Sort.grow (redrawn wc d) os) _) := fun d os => hide (state07_any _ A1 A2 (some ⟨b, o, none⟩) A4 A5 A6 A7 p c1 c2 c3 c4 c5 c6 c7 c.dest (hP3.out.grown hBc d os).1 (hP3.out.grown hBc d os).2)
 generalize stateI p c.dest = zi at hX
 generalize stateB p c.dest = zz at hX ⊢
 clear hi hcell' hS4 hb0
 go_enter Tryz.func75, Tryz.ntmps75
 go_wp2_with fail
 refine wp_region_quiet_below (by kernel_rfl) (by kernel_rfl) ?_
 repeat (any_goals (first | go_big_quiet_step (first | (go_at_call 133; with_reducible exact Calls.regrown_of (hX _ _).out)) | quiet_step (first | (go_at_call 133; with_reducible exact Calls.regrown_of (hX _ _).out))))
 refine wpQuiet_nil ?_
 intro w1 hw1
 replace hw1 := below_of_regrown hw1
 go_wp2
 go_ret
 exact ⟨rfl, hwC'.out.trans (hw1.mono (by omega))⟩
set_option maxRecDepth 100000 in
set_option maxHeartbeats 4000000 in
theorem parsed07_next (A1 A2 A3 A4 A5 A6 A7 : Option Addr) (p : Pg) (c1 c2 c3 c4 c5 c6 c7 : Nat) (B i : Nat) (s : Sa) (j : Int) (s0 s1 s2 s3 s4 s5 s6 s7 s8 s9 s10 s11 s12 s13 : Value) (w : World) (hB : B ≤ w.heap.size) (hP : PgS w B A1 A2 A3 A4 A5 A6 A7 p) (hi : p.states[i]? = some s) :
  Calls Tryz.prog 75 #[.agg #[.slice A1 p.headers.length c1, .slice A2 p.metas.length c2, .slice A3 p.states.length c3, .slice A4 p.actions.length c4, .slice A5 p.tables.length c5, .slice A6 p.control.length c6, .slice A7 p.emit.length c7], .agg #[.int .u8 6, .int .i64 (i : Int), .int .i64 j, s0, s1, s2, s3, s4, s5, s6, s7, s8, s9, s10, s11, s12, s13]] w fun r w' => r = .returned (.bool (nextB p s)) ∧ Below w.heap.size w w' := by
 have hs := List.getElem?_eq_some_iff.1 hi
 obtain ⟨hlt, hst⟩ := hs
 obtain ⟨wa, hwa, hsa, hba, hca, -⟩ := box1 w #[.slice A1 p.headers.length c1, .slice A2 p.metas.length c2, .slice A3 p.states.length c3, .slice A4 p.actions.length c4, .slice A5 p.tables.length c5, .slice A6 p.control.length c6, .slice A7 p.emit.length c7] 30
 obtain ⟨wb, hwb, hsb, hbb, hcb, -⟩ := box1 wa #[.int .u8 6, .int .i64 (i : Int), .int .i64 j, s0, s1, s2, s3, s4, s5, s6, s7, s8, s9, s10, s11, s12, s13] 77
 have hw := hba.trans (hbb.mono (by omega))
 have q : ∀ i, wb.cell? ⟨w.heap.size, i, none⟩ = wa.cell? ⟨w.heap.size, i, none⟩ := fun i => hbb.cell (p := ⟨w.heap.size, i, none⟩) (by show w.heap.size < _; omega)
 have hqz := fun i => (q i).trans (hca i)
 obtain ⟨z0, z1, z2, z3, z4, z5, z6⟩ := row7 (w := wb) (a := w.heap.size) fun i => hqz i
 simp only [hsa] at hcb
 have y0 : wb.cell? ⟨w.heap.size + 1, 0, none⟩ = some (.int .u8 6) := hcb 0
 have y1 : wb.cell? ⟨w.heap.size + 1, 1, none⟩ = some (.int .i64 (i : Int)) := hcb 1
 have y2 : wb.cell? ⟨w.heap.size + 1, 2, none⟩ = some (.int .i64 j) := hcb 2
 have hl1 : w.heap.size < wb.heap.size := by omega
 have hl2 : w.heap.size + 1 < wb.heap.size := by omega
 have hz2 : w.heap.size + 2 = wb.heap.size := by omega
 have hBb : B ≤ wb.heap.size := by omega
 have hP2 := hP.below (hw.mono hB)
 have lst := hP2.states.len
 obtain ⟨b, o, ecs, hA3, hb, hel, hcell, B1, d1, B2, d2, B3, d3, rfl, hn, hd, hT, hK, hC⟩ := hP2.states.2 i s hi
 subst hA3
 have m1 := hT.len
 have m2 := hK.len
 have m3 := hC.len
 obtain ⟨x0, x1, x2, x3, x4⟩ := srow5 hcell
 obtain ⟨wc, hwc, hsc, hbc, hcc, -⟩ := box1 wb #[.string s.name, .slice B1 s.takes.length d1, .string s.dest, .slice B2 s.keys.length d2, .slice B3 s.cases_.length d3] 52
 have hwC := hw.trans (hbc.mono (by omega))
 have r1 : ∀ i, wc.cell? ⟨w.heap.size, i, none⟩ = wb.cell? ⟨w.heap.size, i, none⟩ := fun i => hbc.cell (p := ⟨w.heap.size, i, none⟩) (by show w.heap.size < _; omega)
 have r2 : ∀ i, wc.cell? ⟨w.heap.size + 1, i, none⟩ = wb.cell? ⟨w.heap.size + 1, i, none⟩ := fun i => hbc.cell (p := ⟨w.heap.size + 1, i, none⟩) (by show w.heap.size + 1 < _; omega)
 have hcz : ∀ i, wc.cell? ⟨w.heap.size, i, none⟩ = (#[.slice A1 p.headers.length c1, .slice A2 p.metas.length c2, .slice (some ⟨b, o, none⟩) p.states.length c3, .slice A4 p.actions.length c4, .slice A5 p.tables.length c5, .slice A6 p.control.length c6, .slice A7 p.emit.length c7] : Array Value)[i]? := fun i => (r1 i).trans (hqz i)
 obtain ⟨f0, f1, f2, f3, f4, f5, f6⟩ := row7 (w := wc) (a := w.heap.size) fun i => hcz i
 have g0 : wc.cell? ⟨w.heap.size + 1, 0, none⟩ = some (.int .u8 6) := (r2 0).trans y0
 have g1 : wc.cell? ⟨w.heap.size + 1, 1, none⟩ = some (.int .i64 (i : Int)) := (r2 1).trans y1
 have g2 : wc.cell? ⟨w.heap.size + 1, 2, none⟩ = some (.int .i64 j) := (r2 2).trans y2
 simp only [hsb, hsa] at hcc
 obtain ⟨v0, v1, v2, v3, v4⟩ := row5 hcc
 have hk1 : w.heap.size < wc.heap.size := by omega
 have hk2 : w.heap.size + 1 < wc.heap.size := by omega
 have hk3 : w.heap.size + 1 + 1 < wc.heap.size := by omega
 have hBc : B ≤ wc.heap.size := by omega
 have hbw : b < wc.heap.size := by omega
 have hiz : (i : Int) < (p.states.length : Int) := by omega
 have hwC' := hide hwC
 have hP3 := hide (hP2.below (hbc.mono hBb))
 have hT3 := hide (hT.below sta_str (hbc.mono hBb))
 have hK3 := hide (hK.below sta_ex (hbc.mono hBb))
 have hC3 := hide (hC.below sta_ca (hbc.mono hBb))
 have hcz' := hide hcz
 clear hcell hT hK hC hP2 hP hw hqz q r1 r2 hbc hbb hba hca hcb hcc hcz hwC hst
 replace hz2 := hide hz2
 replace hsc := hide hsc
 clear hi
 by_cases hdd : s.dest = strE
 ·have q1 : (s.dest.toList == []) = true := by rw [emp_iff.1 hdd]; rfl
  have q2 : s.dest.toList.isEmpty = true := by rw [emp_iff.1 hdd]; rfl
  have hv := hide (show nextB p s = s.keys.all (thereE p (-1)) from by unfold nextB; rw [if_pos hdd])
  clear hdd
  go_enter Tryz.func75, Tryz.ntmps75
  go_wp2
  go_loopw [10] (fun n wr => ∃ k : Nat, k ≤ s.keys.length ∧ n = .int .i64 k ∧ Hid ((s.keys.take k).all (thereE p (-1)) = true) ∧ Hid (Below wc.heap.size wc wr) ∧ wc.heap.size ≤ wr.heap.size) (fun n _ => s.keys.length - (intOf n).toNat)
  case atStart => exact ⟨0, Nat.zero_le _, rfl, hide (by simp), hide (Below.refl _ _), Nat.le_refl _⟩
  case round =>
   obtain ⟨k, hk, rfl, hall, hbr, hzr⟩ := hrel
   have hc := bcell' hbr.out
   by_cases hltk : k < s.keys.length
   ·obtain ⟨b', o', ecs, hA', hb', hel', hcell', hr⟩ := hK3.out.2 k _ (List.getElem?_eq_getElem hltk)
    subst hA'
    have hltz : (k : Int) < (s.keys.length : Int) := by omega
    have hX0 := fun d os => there07_any A1 A2 (some ⟨b, o, none⟩) A4 A5 A6 A7 p c1 c2 c3 c4 c5 c6 c7 (-1) B s.keys[k] ecs (Go.Sort.grow (redrawn wr d) os) (by have := gsize wr d os; omega) (hP3.out.below ((below_grow hbr.out hzr d os).mono (by omega))) (sta_ex.keep hr fun q hq => ((below_grow hbr.out hzr d os).mono (show B ≤ _ by omega)).cell hq)
    have ht := hide (fun h => all_next (p := thereE p (-1)) hltk hall.out h)
    have hfa := hide (fun h => all_stop (p := thereE p (-1)) hltk h)
    generalize thereE p (-1) s.keys[k] = tx at ht hfa hX0
    generalize s.keys[k] = x at hr
    obtain ⟨op', lit', head', name', hi', lo', args'⟩ := x
    obtain ⟨A', cap', rfl, -, -, -, -, -, -, hs'⟩ := RE.inv hr
    have hl' := hs'.len
    obtain ⟨n0, n1, n2, n3, n4, n5, n6, n7, n8⟩ := srow9 hcell'
    have hX : ∀ d os, Hid (Calls Tryz.prog 76 #[.agg #[.slice A1 p.headers.length c1, .slice A2 p.metas.length c2, .slice (some ⟨b, o, none⟩) p.states.length c3, .slice A4 p.actions.length c4, .slice A5 p.tables.length c5, .slice A6 p.control.length c6, .slice A7 p.emit.length c7], .int .i64 (-1), .agg #[.int .u8 op', .int .i64 lit'.1, .int .u64 lit'.2.1, .int .u64 lit'.2.2, .string head', .string name', .int .i64 hi', .int .i64 lo', .slice A' args'.length cap']] (Go.Sort.grow (redrawn wr d) os) _) := fun d os => hide (hX0 d os)
    have hg := gcell' hbr.out hzr
    have hb'' : b' < wc.heap.size := by omega
    clear hcell' hr hX0 hs' hel'
    cases tx with
    | true =>
     have hres := hide (ht.out rfl)
     clear ht hfa
     go_wp2_with fail
     refine wp_region_quiet_below (by kernel_rfl) (by kernel_rfl) ?_
     repeat (any_goals (first | go_big_quiet_step (first | (go_at_call 76; with_reducible exact Calls.regrown_of (hX _ _).out)) | quiet_step (first | (go_at_call 76; with_reducible exact Calls.regrown_of (hX _ _).out))))
     refine wpQuiet_nil ?_
     intro w1 hw1
     replace hw1 := below_of_regrown hw1
     go_wp2
     go_roundw
     case rel => exact ⟨k + 1, by omega, by go_num, hres, hide (hbr.out.trans (hw1.mono (by omega))), by have := hw1.size; omega⟩
     case measure => simp [intOf]; omega
    | false =>
     have hfa' := hide (hfa.out rfl)
     clear ht hfa
     go_wp2_with fail
     refine wp_region_quiet_below (by kernel_rfl) (by kernel_rfl) ?_
     repeat (any_goals (first | go_big_quiet_step (first | (go_at_call 76; with_reducible exact Calls.regrown_of (hX _ _).out)) | quiet_step (first | (go_at_call 76; with_reducible exact Calls.regrown_of (hX _ _).out))))
     refine wpQuiet_nil ?_
     intro w1 hw1
     replace hw1 := below_of_regrown hw1
     go_wp2
     go_ret
     exact ⟨ret_b (by rw [hv.out, hfa'.out]), hwC'.out.trans ((hbr.out.trans (hw1.mono (by omega))).mono (by omega))⟩
   ·have hfull := hide (show s.keys.all (thereE p (-1)) = true from by rw [← hall.out, List.take_of_length_le (by omega)])
    go_wp2
    go_ret
    exact ⟨ret_b (by rw [hv.out, hfull.out]), hwC'.out.trans (hbr.out.mono (by omega))⟩
 ·have q1 : (s.dest.toList == []) = false := by rw [beq_eq_false_iff_ne]; exact fun h => hdd (emp_iff.2 h)
  have q2 : s.dest.toList.isEmpty = false := by rw [List.isEmpty_eq_false_iff]; exact fun h => hdd (emp_iff.2 h)
  have hv := hide (show nextB p s = stateB p s.dest from by unfold nextB; rw [if_neg hdd])
  have hX := hide (state07_any wc A1 A2 (some ⟨b, o, none⟩) A4 A5 A6 A7 p c1 c2 c3 c4 c5 c6 c7 s.dest hBc hP3.out)
  generalize stateI p s.dest = zi at hX
  generalize stateB p s.dest = zz at hX hv
  clear hdd
  go_enter Tryz.func75, Tryz.ntmps75
  go_wp2_with (go_at_call 133; refine hX.out.mono ?_; rintro e w1 ⟨rfl, hw1⟩)
  go_ret
  exact ⟨ret_b hv.out.symm, hwC'.out.trans (hw1.mono (by omega))⟩
end Go.Proofs.YtcgmkjpgaigmfaaGreat
/-! Printed by gen_r7h.py. The document's layer 7: One, at some kinds. -/
namespace Go.Proofs.YtcgmkjpgaigmfaaGreat
open Go.RowKit
set_option maxRecDepth 100000 in
set_option maxHeartbeats 16000000 in
theorem one07_parsed5 (A1 A2 A3 A4 A5 A6 A7 : Option Addr) (p : Pg) (c1 c2 c3 c4 c5 c6 c7 : Nat) (B : Nat) (k : Int) (hk : k = 5) (a b : Int) (z : Bool) (s0 s1 s2 s3 s4 s5 s6 s7 s8 s9 s10 s11 s12 s13 : Value) (w : World) (hB : B ≤ w.heap.size)
  (hX0 : ∀ W, B ≤ W.heap.size → Below w.heap.size w W → Calls Tryz.prog 75 #[.agg #[.slice A1 p.headers.length c1, .slice A2 p.metas.length c2, .slice A3 p.states.length c3, .slice A4 p.actions.length c4, .slice A5 p.tables.length c5, .slice A6 p.control.length c6, .slice A7 p.emit.length c7], .agg #[.int .u8 k, .int .i64 a, .int .i64 b, s0, s1, s2, s3, s4, s5, s6, s7, s8, s9, s10, s11, s12, s13]] W fun r W' => r = .returned (.bool z) ∧ Below W.heap.size W W') :
  Calls Tryz.prog 24 #[.agg #[.slice A1 p.headers.length c1, .slice A2 p.metas.length c2, .slice A3 p.states.length c3, .slice A4 p.actions.length c4, .slice A5 p.tables.length c5, .slice A6 p.control.length c6, .slice A7 p.emit.length c7], .agg #[.int .u8 k, .int .i64 a, .int .i64 b, s0, s1, s2, s3, s4, s5, s6, s7, s8, s9, s10, s11, s12, s13]] w fun r w' => r = .returned (.int .i64 (isI (!z) 7)) ∧ Below w.heap.size w w' := by
 obtain ⟨wa, hwa, hsa, hba, hca, -⟩ := box1 w #[.slice A1 p.headers.length c1, .slice A2 p.metas.length c2, .slice A3 p.states.length c3, .slice A4 p.actions.length c4, .slice A5 p.tables.length c5, .slice A6 p.control.length c6, .slice A7 p.emit.length c7] 30
 obtain ⟨wb, hwb, hsb, hbb, hcb, -⟩ := box1 wa #[.int .u8 k, .int .i64 a, .int .i64 b, s0, s1, s2, s3, s4, s5, s6, s7, s8, s9, s10, s11, s12, s13] 77
 have hw := hba.trans (hbb.mono (by omega))
 have q : ∀ i, wb.cell? ⟨w.heap.size, i, none⟩ = wa.cell? ⟨w.heap.size, i, none⟩ := fun i => hbb.cell (p := ⟨w.heap.size, i, none⟩) (by show w.heap.size < _; omega)
 have hqz := fun i => (q i).trans (hca i)
 obtain ⟨z0, z1, z2, z3, z4, z5, z6⟩ := row7 (w := wb) (a := w.heap.size) fun i => hqz i
 simp only [hsa] at hcb
 obtain ⟨y0, y1, y2, y3, y4, y5, y6, y7, y8, y9, y10, y11, y12, y13, y14, y15, y16⟩ := row17 hcb
 have hl1 : w.heap.size < wb.heap.size := by omega
 have hl2 : w.heap.size + 1 < wb.heap.size := by omega
 have hz2 : w.heap.size + 2 ≤ wb.heap.size := by omega
 have hBb : B ≤ wb.heap.size := by omega
 have hb0 : Below wb.heap.size wb wb := Below.refl _ _
 have hwC := hide hw
 replace hsb := hide hsb
 clear hqz q hbb hba hca hcb
 have hX := hide (hX0 wb hBb (hwC.out))
 clear hX0 hb0
 rcases hk with rfl <;> cases z <;> (
  go_enter Tryz.func24, Tryz.ntmps24
  go_wp2_with (go_at_call 75; refine hX.out.mono ?_; rintro e w1 ⟨rfl, hw1⟩)
  go_ret
  exact ⟨rfl, hwC.out.trans (hw1.mono (by omega))⟩)
set_option maxRecDepth 100000 in
set_option maxHeartbeats 16000000 in
theorem one07_parsed6 (A1 A2 A3 A4 A5 A6 A7 : Option Addr) (p : Pg) (c1 c2 c3 c4 c5 c6 c7 : Nat) (B : Nat) (k : Int) (hk : k = 6) (a b : Int) (z : Bool) (s0 s1 s2 s3 s4 s5 s6 s7 s8 s9 s10 s11 s12 s13 : Value) (w : World) (hB : B ≤ w.heap.size)
  (hX0 : ∀ W, B ≤ W.heap.size → Below w.heap.size w W → Calls Tryz.prog 75 #[.agg #[.slice A1 p.headers.length c1, .slice A2 p.metas.length c2, .slice A3 p.states.length c3, .slice A4 p.actions.length c4, .slice A5 p.tables.length c5, .slice A6 p.control.length c6, .slice A7 p.emit.length c7], .agg #[.int .u8 k, .int .i64 a, .int .i64 b, s0, s1, s2, s3, s4, s5, s6, s7, s8, s9, s10, s11, s12, s13]] W fun r W' => r = .returned (.bool z) ∧ Below W.heap.size W W') :
  Calls Tryz.prog 24 #[.agg #[.slice A1 p.headers.length c1, .slice A2 p.metas.length c2, .slice A3 p.states.length c3, .slice A4 p.actions.length c4, .slice A5 p.tables.length c5, .slice A6 p.control.length c6, .slice A7 p.emit.length c7], .agg #[.int .u8 k, .int .i64 a, .int .i64 b, s0, s1, s2, s3, s4, s5, s6, s7, s8, s9, s10, s11, s12, s13]] w fun r w' => r = .returned (.int .i64 (isI (!z) 7)) ∧ Below w.heap.size w w' := by
 obtain ⟨wa, hwa, hsa, hba, hca, -⟩ := box1 w #[.slice A1 p.headers.length c1, .slice A2 p.metas.length c2, .slice A3 p.states.length c3, .slice A4 p.actions.length c4, .slice A5 p.tables.length c5, .slice A6 p.control.length c6, .slice A7 p.emit.length c7] 30
 obtain ⟨wb, hwb, hsb, hbb, hcb, -⟩ := box1 wa #[.int .u8 k, .int .i64 a, .int .i64 b, s0, s1, s2, s3, s4, s5, s6, s7, s8, s9, s10, s11, s12, s13] 77
 have hw := hba.trans (hbb.mono (by omega))
 have q : ∀ i, wb.cell? ⟨w.heap.size, i, none⟩ = wa.cell? ⟨w.heap.size, i, none⟩ := fun i => hbb.cell (p := ⟨w.heap.size, i, none⟩) (by show w.heap.size < _; omega)
 have hqz := fun i => (q i).trans (hca i)
 obtain ⟨z0, z1, z2, z3, z4, z5, z6⟩ := row7 (w := wb) (a := w.heap.size) fun i => hqz i
 simp only [hsa] at hcb
 obtain ⟨y0, y1, y2, y3, y4, y5, y6, y7, y8, y9, y10, y11, y12, y13, y14, y15, y16⟩ := row17 hcb
 have hl1 : w.heap.size < wb.heap.size := by omega
 have hl2 : w.heap.size + 1 < wb.heap.size := by omega
 have hz2 : w.heap.size + 2 ≤ wb.heap.size := by omega
 have hBb : B ≤ wb.heap.size := by omega
 have hb0 : Below wb.heap.size wb wb := Below.refl _ _
 have hwC := hide hw
 replace hsb := hide hsb
 clear hqz q hbb hba hca hcb
 have hX := hide (hX0 wb hBb (hwC.out))
 clear hX0 hb0
 rcases hk with rfl <;> cases z <;> (
  go_enter Tryz.func24, Tryz.ntmps24
  go_wp2_with (go_at_call 75; refine hX.out.mono ?_; rintro e w1 ⟨rfl, hw1⟩)
  go_ret
  exact ⟨rfl, hwC.out.trans (hw1.mono (by omega))⟩)
set_option maxRecDepth 100000 in
set_option maxHeartbeats 16000000 in
theorem one07_parsed7 (A1 A2 A3 A4 A5 A6 A7 : Option Addr) (p : Pg) (c1 c2 c3 c4 c5 c6 c7 : Nat) (B : Nat) (k : Int) (hk : k = 7) (a b : Int) (z : Bool) (s0 s1 s2 s3 s4 s5 s6 s7 s8 s9 s10 s11 s12 s13 : Value) (w : World) (hB : B ≤ w.heap.size)
  (hX0 : ∀ W, B ≤ W.heap.size → Below w.heap.size w W → Calls Tryz.prog 75 #[.agg #[.slice A1 p.headers.length c1, .slice A2 p.metas.length c2, .slice A3 p.states.length c3, .slice A4 p.actions.length c4, .slice A5 p.tables.length c5, .slice A6 p.control.length c6, .slice A7 p.emit.length c7], .agg #[.int .u8 k, .int .i64 a, .int .i64 b, s0, s1, s2, s3, s4, s5, s6, s7, s8, s9, s10, s11, s12, s13]] W fun r W' => r = .returned (.bool z) ∧ Below W.heap.size W W') :
  Calls Tryz.prog 24 #[.agg #[.slice A1 p.headers.length c1, .slice A2 p.metas.length c2, .slice A3 p.states.length c3, .slice A4 p.actions.length c4, .slice A5 p.tables.length c5, .slice A6 p.control.length c6, .slice A7 p.emit.length c7], .agg #[.int .u8 k, .int .i64 a, .int .i64 b, s0, s1, s2, s3, s4, s5, s6, s7, s8, s9, s10, s11, s12, s13]] w fun r w' => r = .returned (.int .i64 (isI (!z) 7)) ∧ Below w.heap.size w w' := by
 obtain ⟨wa, hwa, hsa, hba, hca, -⟩ := box1 w #[.slice A1 p.headers.length c1, .slice A2 p.metas.length c2, .slice A3 p.states.length c3, .slice A4 p.actions.length c4, .slice A5 p.tables.length c5, .slice A6 p.control.length c6, .slice A7 p.emit.length c7] 30
 obtain ⟨wb, hwb, hsb, hbb, hcb, -⟩ := box1 wa #[.int .u8 k, .int .i64 a, .int .i64 b, s0, s1, s2, s3, s4, s5, s6, s7, s8, s9, s10, s11, s12, s13] 77
 have hw := hba.trans (hbb.mono (by omega))
 have q : ∀ i, wb.cell? ⟨w.heap.size, i, none⟩ = wa.cell? ⟨w.heap.size, i, none⟩ := fun i => hbb.cell (p := ⟨w.heap.size, i, none⟩) (by show w.heap.size < _; omega)
 have hqz := fun i => (q i).trans (hca i)
 obtain ⟨z0, z1, z2, z3, z4, z5, z6⟩ := row7 (w := wb) (a := w.heap.size) fun i => hqz i
 simp only [hsa] at hcb
 obtain ⟨y0, y1, y2, y3, y4, y5, y6, y7, y8, y9, y10, y11, y12, y13, y14, y15, y16⟩ := row17 hcb
 have hl1 : w.heap.size < wb.heap.size := by omega
 have hl2 : w.heap.size + 1 < wb.heap.size := by omega
 have hz2 : w.heap.size + 2 ≤ wb.heap.size := by omega
 have hBb : B ≤ wb.heap.size := by omega
 have hb0 : Below wb.heap.size wb wb := Below.refl _ _
 have hwC := hide hw
 replace hsb := hide hsb
 clear hqz q hbb hba hca hcb
 have hX := hide (hX0 wb hBb (hwC.out))
 clear hX0 hb0
 rcases hk with rfl <;> cases z <;> (
  go_enter Tryz.func24, Tryz.ntmps24
  go_wp2_with (go_at_call 75; refine hX.out.mono ?_; rintro e w1 ⟨rfl, hw1⟩)
  go_ret
  exact ⟨rfl, hwC.out.trans (hw1.mono (by omega))⟩)
end Go.Proofs.YtcgmkjpgaigmfaaGreat

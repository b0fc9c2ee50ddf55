import Derived.Test.YtcgmkjpgaigmfaaGreatChk38
import Derived.Test.YtcgmkjpgaigmfaaGreatChk17
import Derived.Test.YtcgmkjpgaigmfaaGreatChk20
set_option linter.all false
/-! Printed by gen_r7g.py. The document's layer 7: listed. -/
namespace Go.Proofs.YtcgmkjpgaigmfaaGreat
open Go.RowKit
theorem index07_b (l : List ByteArray) (A : Option Addr) (cap : Nat) (s : ByteArray) (w : World) {B : Nat} (h : Sl 1 rStr w B A l) :
  Calls Tryz.prog 138 #[.slice A l.length cap, .string s] w fun e w' => e = .returned (.int .i64 (findI l s)) ∧ Below w.heap.size w w' :=
 (index07_any l A cap s w h).mono fun _ _ h => ⟨h.1, h.2 ▸ Below.refl _ _⟩
set_option maxRecDepth 100000 in
set_option maxHeartbeats 4000000 in
theorem listed07_emit (A1 A2 A3 A4 A5 A6 A7 : Option Addr) (p : Pg) (c1 c2 c3 c4 c5 c6 c7 : Nat) (B i : Nat) (nm : ByteArray) (s0 s1 s2 s3 s4 s5 s6 s7 s8 s9 s10 s11 s12 s13 : Value) (w : World) (hB : B ≤ w.heap.size) (hP : PgS w B A1 A2 A3 A4 A5 A6 A7 p) (hi : p.emit[i]? = some nm) :
  Calls Tryz.prog 78 #[.agg #[.slice A1 p.headers.length c1, .slice A2 p.metas.length c2, .slice A3 p.states.length c3, .slice A4 p.actions.length c4, .slice A5 p.tables.length c5, .slice A6 p.control.length c6, .slice A7 p.emit.length c7], .agg #[.int .u8 15, .int .i64 (i : Int), .int .i64 0, s0, s1, s2, s3, s4, s5, s6, s7, s8, s9, s10, s11, s12, s13]] w fun r w' => r = .returned (.int .i64 (eitherI (isI (decide (headerI p nm < 0)) 7) (isI (decide (findI p.emit nm < (i : Int))) 8))) ∧ Below w.heap.size w w' := by
 have hs := List.getElem?_eq_some_iff.1 hi
 obtain ⟨hlt, hst⟩ := hs
 obtain ⟨wa, hwa, hsa, hba, hca, -⟩ := box1 w #[.slice A1 p.headers.length c1, .slice A2 p.metas.length c2, .slice A3 p.states.length c3, .slice A4 p.actions.length c4, .slice A5 p.tables.length c5, .slice A6 p.control.length c6, .slice A7 p.emit.length c7] 30
 obtain ⟨wb, hwb, hsb, hbb, hcb, -⟩ := box1 wa #[.int .u8 15, .int .i64 (i : Int), .int .i64 0, s0, s1, s2, s3, s4, s5, s6, s7, s8, s9, s10, s11, s12, s13] 77
 have hw := hba.trans (hbb.mono (by omega))
 have q : ∀ i, wb.cell? ⟨w.heap.size, i, none⟩ = wa.cell? ⟨w.heap.size, i, none⟩ := fun i => hbb.cell (p := ⟨w.heap.size, i, none⟩) (by show w.heap.size < _; omega)
 have hqz := fun i => (q i).trans (hca i)
 obtain ⟨z0, z1, z2, z3, z4, z5, z6⟩ := row7 (w := wb) (a := w.heap.size) fun i => hqz i
 simp only [hsa] at hcb
 have y0 : wb.cell? ⟨w.heap.size + 1, 0, none⟩ = some (.int .u8 15) := hcb 0
 have y1 : wb.cell? ⟨w.heap.size + 1, 1, none⟩ = some (.int .i64 (i : Int)) := hcb 1
 have y2 : wb.cell? ⟨w.heap.size + 1, 2, none⟩ = some (.int .i64 0) := hcb 2
 have hl1 : w.heap.size < wb.heap.size := by omega
 have hl2 : w.heap.size + 1 < wb.heap.size := by omega
 have hz2 : w.heap.size + 2 = wb.heap.size := by omega
 have hBb : B ≤ wb.heap.size := by omega
 have hP2 := hP.below (hw.mono hB)
 have lst := hP2.emit.len
 obtain ⟨b, o, hA7, hb, hcell, hr⟩ := hP2.emit.str hlt
 subst hA7
 rw [hst] at hcell
 have hbw : b < wb.heap.size := by omega
 have hiz : (i : Int) < (p.emit.length : Int) := by omega
 have hwC := hide hw
 have hb0 : Below wb.heap.size wb wb := Below.refl _ _
 have hg := gcell' hb0 (Nat.le_refl _)
 have hX : ∀ d os, Hid (Calls Tryz.prog 132 #[.agg #[.slice A1 p.headers.length c1, .slice A2 p.metas.length c2, .slice A3 p.states.length c3, .slice A4 p.actions.length c4, .slice A5 p.tables.length c5, .slice A6 p.control.length c6, .slice (some ⟨b, o, none⟩) p.emit.length c7], .string nm] (Go.Sort.grow (redrawn wb d) os) _) := fun d os => hide (header07_any _ A1 A2 A3 A4 A5 A6 (some ⟨b, o, none⟩) p c1 c2 c3 c4 c5 c6 c7 nm (hP2.grown hBb d os).1 (hP2.grown hBb d os).2)
 have hI : ∀ (W : World), Below wb.heap.size wb W → ∀ d os, Hid (Calls Tryz.prog 138 #[.slice (some ⟨b, o, none⟩) p.emit.length c7, .string nm] (Go.Sort.grow (redrawn W d) os) _) := fun W hb d os => hide (index07_b p.emit (some ⟨b, o, none⟩) c7 nm _ (hP2.emit.below sta_str ((below_grow hb hb.size d os).mono hBb)))
 generalize headerI p nm = zz at hX ⊢
 generalize findI p.emit nm = zi at hI ⊢
 replace hI := hide hI
 clear hP hP2 hb0 hqz q hbb hba hca hcb hst hi hw
 replace hsb := hide hsb
 replace hz2 := hide hz2
 go_enter Tryz.func78, Tryz.ntmps78
 by_cases hz : zz < 0
 ·go_wp2_with fail
  refine wp_region_quiet_below (by kernel_rfl) (by kernel_rfl) ?_
  repeat (any_goals (first | go_big_quiet_step (first | (go_at_call 132; with_reducible exact Calls.regrown_of (hX _ _).out)) | quiet_step (first | (go_at_call 132; with_reducible exact Calls.regrown_of (hX _ _).out))))
  refine wpQuiet_nil ?_
  intro w1 hw1
  replace hw1 := below_of_regrown hw1
  go_wp2
  go_ret
  exact ⟨ret_int (by simp [isI, eitherI, hz]), hwC.out.trans (hw1.mono (by omega))⟩
 ·go_wp2_with fail
  refine wp_region_quiet_below (by kernel_rfl) (by kernel_rfl) ?_
  repeat (any_goals (first | go_big_quiet_step (first | (go_at_call 132; with_reducible exact Calls.regrown_of (hX _ _).out)) | quiet_step (first | (go_at_call 132; with_reducible exact Calls.regrown_of (hX _ _).out))))
  refine wpQuiet_nil ?_
  intro w1 hw1
  replace hw1 := below_of_regrown hw1
  have hI1 := hI.out w1 hw1
  have hg1 := gcell' hw1 hw1.size
  have hc1 := bcell' hw1
  have zz1 := hw1.size
  replace hw1 := hide hw1
  clear hg
  by_cases hzi : zi < (i : Int)
  ·go_wp2_with fail
   refine wp_region_quiet_below (by kernel_rfl) (by kernel_rfl) ?_
   repeat (any_goals (first | go_big_quiet_step (first | (go_at_call 138; with_reducible exact Calls.regrown_of (hI1 _ _).out)) | quiet_step (first | (go_at_call 138; with_reducible exact Calls.regrown_of (hI1 _ _).out))))
   refine wpQuiet_nil ?_
   intro w2 hw2
   replace hw2 := below_of_regrown hw2
   go_wp2
   go_ret
   exact ⟨ret_int (by simp [isI, eitherI, hz, hzi]), (hwC.out.trans (hw1.out.mono (by omega))).trans (hw2.mono (by omega))⟩
  ·go_wp2_with fail
   refine wp_region_quiet_below (by kernel_rfl) (by kernel_rfl) ?_
   repeat (any_goals (first | go_big_quiet_step (first | (go_at_call 138; with_reducible exact Calls.regrown_of (hI1 _ _).out)) | quiet_step (first | (go_at_call 138; with_reducible exact Calls.regrown_of (hI1 _ _).out))))
   refine wpQuiet_nil ?_
   intro w2 hw2
   replace hw2 := below_of_regrown hw2
   go_wp2
   go_ret
   exact ⟨ret_int (by simp [isI, eitherI, hz, hzi]), (hwC.out.trans (hw1.out.mono (by omega))).trans (hw2.mono (by omega))⟩
set_option maxRecDepth 100000 in
set_option maxHeartbeats 4000000 in
theorem listed07_listed (A1 A2 A3 A4 A5 A6 A7 : Option Addr) (p : Pg) (c1 c2 c3 c4 c5 c6 c7 : Nat) (B i : Nat) (j : Nat) (f : Ta) (nm : ByteArray) (s0 s1 s2 s3 s4 s5 s6 s7 s8 s9 s10 s11 s12 s13 : Value) (w : World) (hB : B ≤ w.heap.size) (hP : PgS w B A1 A2 A3 A4 A5 A6 A7 p) (hi : p.tables[i]? = some f) (hj : f.actions[j]? = some nm) :
  Calls Tryz.prog 78 #[.agg #[.slice A1 p.headers.length c1, .slice A2 p.metas.length c2, .slice A3 p.states.length c3, .slice A4 p.actions.length c4, .slice A5 p.tables.length c5, .slice A6 p.control.length c6, .slice A7 p.emit.length c7], .agg #[.int .u8 13, .int .i64 (i : Int), .int .i64 (j : Int), s0, s1, s2, s3, s4, s5, s6, s7, s8, s9, s10, s11, s12, s13]] w fun r w' => r = .returned (.int .i64 (eitherI (isI (decide (actionI p nm < 0)) 7) (isI (decide (findI f.actions nm < (j : Int))) 8))) ∧ Below w.heap.size w w' := by
 have hs := List.getElem?_eq_some_iff.1 hi
 obtain ⟨hlt, hst⟩ := hs
 obtain ⟨wa, hwa, hsa, hba, hca, -⟩ := box1 w #[.slice A1 p.headers.length c1, .slice A2 p.metas.length c2, .slice A3 p.states.length c3, .slice A4 p.actions.length c4, .slice A5 p.tables.length c5, .slice A6 p.control.length c6, .slice A7 p.emit.length c7] 30
 obtain ⟨wb, hwb, hsb, hbb, hcb, -⟩ := box1 wa #[.int .u8 13, .int .i64 (i : Int), .int .i64 (j : Int), s0, s1, s2, s3, s4, s5, s6, s7, s8, s9, s10, s11, s12, s13] 77
 have hw := hba.trans (hbb.mono (by omega))
 have q : ∀ i, wb.cell? ⟨w.heap.size, i, none⟩ = wa.cell? ⟨w.heap.size, i, none⟩ := fun i => hbb.cell (p := ⟨w.heap.size, i, none⟩) (by show w.heap.size < _; omega)
 have hqz := fun i => (q i).trans (hca i)
 obtain ⟨z0, z1, z2, z3, z4, z5, z6⟩ := row7 (w := wb) (a := w.heap.size) fun i => hqz i
 simp only [hsa] at hcb
 have y0 : wb.cell? ⟨w.heap.size + 1, 0, none⟩ = some (.int .u8 13) := hcb 0
 have y1 : wb.cell? ⟨w.heap.size + 1, 1, none⟩ = some (.int .i64 (i : Int)) := hcb 1
 have y2 : wb.cell? ⟨w.heap.size + 1, 2, none⟩ = some (.int .i64 (j : Int)) := hcb 2
 have hl1 : w.heap.size < wb.heap.size := by omega
 have hl2 : w.heap.size + 1 < wb.heap.size := by omega
 have hz2 : w.heap.size + 2 = wb.heap.size := by omega
 have hBb : B ≤ wb.heap.size := by omega
 have hP2 := hP.below (hw.mono hB)
 have lst := hP2.tables.len
 obtain ⟨b, o, ecs, hA3, hb, hel, hcell, B1, d1, B2, d2, B3, d3, rfl, hn, hd, hT, hK, hC⟩ := hP2.tables.2 i f hi
 subst hA3
 have m1 := hT.len
 have m2 := hK.len
 have m3 := hC.len
 obtain ⟨x0, x1, x2, x3, x4⟩ := srow5 hcell
 obtain ⟨wc, hwc, hsc, hbc, hcc, -⟩ := box1 wb #[.string f.name, .slice B1 f.keys.length d1, .slice B2 f.actions.length d2, .string f.dname, .slice B3 f.dargs.length d3] 48
 have hwC := hw.trans (hbc.mono (by omega))
 have r1 : ∀ i, wc.cell? ⟨w.heap.size, i, none⟩ = wb.cell? ⟨w.heap.size, i, none⟩ := fun i => hbc.cell (p := ⟨w.heap.size, i, none⟩) (by show w.heap.size < _; omega)
 have r2 : ∀ i, wc.cell? ⟨w.heap.size + 1, i, none⟩ = wb.cell? ⟨w.heap.size + 1, i, none⟩ := fun i => hbc.cell (p := ⟨w.heap.size + 1, i, none⟩) (by show w.heap.size + 1 < _; omega)
 have hcz : ∀ i, wc.cell? ⟨w.heap.size, i, none⟩ = (#[.slice A1 p.headers.length c1, .slice A2 p.metas.length c2, .slice A3 p.states.length c3, .slice A4 p.actions.length c4, .slice (some ⟨b, o, none⟩) p.tables.length c5, .slice A6 p.control.length c6, .slice A7 p.emit.length c7] : Array Value)[i]? := fun i => (r1 i).trans (hqz i)
 obtain ⟨f0, f1, f2, f3, f4, f5, f6⟩ := row7 (w := wc) (a := w.heap.size) fun i => hcz i
 have g0 : wc.cell? ⟨w.heap.size + 1, 0, none⟩ = some (.int .u8 13) := (r2 0).trans y0
 have g1 : wc.cell? ⟨w.heap.size + 1, 1, none⟩ = some (.int .i64 (i : Int)) := (r2 1).trans y1
 have g2 : wc.cell? ⟨w.heap.size + 1, 2, none⟩ = some (.int .i64 (j : Int)) := (r2 2).trans y2
 simp only [hsb, hsa] at hcc
 obtain ⟨v0, v1, v2, v3, v4⟩ := row5 hcc
 have hk1 : w.heap.size < wc.heap.size := by omega
 have hk2 : w.heap.size + 1 < wc.heap.size := by omega
 have hk3 : w.heap.size + 1 + 1 < wc.heap.size := by omega
 have hBc : B ≤ wc.heap.size := by omega
 have hbw : b < wc.heap.size := by omega
 have hiz : (i : Int) < (p.tables.length : Int) := by omega
 have hwC' := hide hwC
 have hP3 := hide (hP2.below (hbc.mono hBb))
 have hK3 := hide (hK.below sta_str (hbc.mono hBb))
 clear hcell hT hK hC hP2 hP hw hqz q r1 r2 hbc hbb hba hca hcb hcc hcz hwC hst
 replace hz2 := hide hz2
 replace hsc := hide hsc
 have hb0 : Below wc.heap.size wc wc := Below.refl _ _
 have hg := gcell' hb0 (Nat.le_refl _)
 have hjl := (List.getElem?_eq_some_iff.1 hj).1
 have hjz : (j : Int) < (f.actions.length : Int) := by omega
 obtain ⟨b', o', hA', hb', hcell', hz⟩ := hK3.out.str hjl
 subst hA'
 rw [(List.getElem?_eq_some_iff.1 hj).2] at hcell'
 have hbw' : b' < wc.heap.size := by omega
 have hX : ∀ d os, Hid (Calls Tryz.prog 139 #[.agg #[.slice A1 p.headers.length c1, .slice A2 p.metas.length c2, .slice A3 p.states.length c3, .slice A4 p.actions.length c4, .slice (some ⟨b, o, none⟩) p.tables.length c5, .slice A6 p.control.length c6, .slice A7 p.emit.length c7], .string nm] (Go.Sort.grow (redrawn wc d) os) _) := fun d os => hide (action07_any _ A1 A2 A3 A4 (some ⟨b, o, none⟩) A6 A7 p c1 c2 c3 c4 c5 c6 c7 nm (hP3.out.grown hBc d os).1 (hP3.out.grown hBc d os).2)
 have hI : ∀ (W : World), Below wc.heap.size wc W → ∀ d os, Hid (Calls Tryz.prog 138 #[.slice (some ⟨b', o', none⟩) f.actions.length d2, .string nm] (Go.Sort.grow (redrawn W d) os) _) := fun W hb d os => hide (index07_b f.actions (some ⟨b', o', none⟩) d2 nm _ (hK3.out.below sta_str ((below_grow hb hb.size d os).mono hBc)))
 generalize actionI p nm = zz at hX ⊢
 generalize findI f.actions nm = zi at hI ⊢
 replace hI := hide hI
 clear hb0 hi hj
 go_enter Tryz.func78, Tryz.ntmps78
 by_cases hz : zz < 0
 ·go_wp2_with fail
  refine wp_region_quiet_below (by kernel_rfl) (by kernel_rfl) ?_
  repeat (any_goals (first | go_big_quiet_step (first | (go_at_call 139; with_reducible exact Calls.regrown_of (hX _ _).out)) | quiet_step (first | (go_at_call 139; with_reducible exact Calls.regrown_of (hX _ _).out))))
  refine wpQuiet_nil ?_
  intro w1 hw1
  replace hw1 := below_of_regrown hw1
  go_wp2
  go_ret
  exact ⟨ret_int (by simp [isI, eitherI, hz]), hwC'.out.trans (hw1.mono (by omega))⟩
 ·go_wp2_with fail
  refine wp_region_quiet_below (by kernel_rfl) (by kernel_rfl) ?_
  repeat (any_goals (first | go_big_quiet_step (first | (go_at_call 139; with_reducible exact Calls.regrown_of (hX _ _).out)) | quiet_step (first | (go_at_call 139; with_reducible exact Calls.regrown_of (hX _ _).out))))
  refine wpQuiet_nil ?_
  intro w1 hw1
  replace hw1 := below_of_regrown hw1
  have hI1 := hI.out w1 hw1
  have hg1 := gcell' hw1 hw1.size
  have hc1 := bcell' hw1
  have zz1 := hw1.size
  replace hw1 := hide hw1
  clear hg
  by_cases hzi : zi < (j : Int)
  ·go_wp2_with fail
   refine wp_region_quiet_below (by kernel_rfl) (by kernel_rfl) ?_
   repeat (any_goals (first | go_big_quiet_step (first | (go_at_call 138; with_reducible exact Calls.regrown_of (hI1 _ _).out)) | quiet_step (first | (go_at_call 138; with_reducible exact Calls.regrown_of (hI1 _ _).out))))
   refine wpQuiet_nil ?_
   intro w2 hw2
   replace hw2 := below_of_regrown hw2
   go_wp2
   go_ret
   exact ⟨ret_int (by simp [isI, eitherI, hz, hzi]), (hwC'.out.trans (hw1.out.mono (by omega))).trans (hw2.mono (by omega))⟩
  ·go_wp2_with fail
   refine wp_region_quiet_below (by kernel_rfl) (by kernel_rfl) ?_
   repeat (any_goals (first | go_big_quiet_step (first | (go_at_call 138; with_reducible exact Calls.regrown_of (hI1 _ _).out)) | quiet_step (first | (go_at_call 138; with_reducible exact Calls.regrown_of (hI1 _ _).out))))
   refine wpQuiet_nil ?_
   intro w2 hw2
   replace hw2 := below_of_regrown hw2
   go_wp2
   go_ret
   exact ⟨ret_int (by simp [isI, eitherI, hz, hzi]), (hwC'.out.trans (hw1.out.mono (by omega))).trans (hw2.mono (by omega))⟩
set_option maxRecDepth 100000 in
set_option maxHeartbeats 4000000 in
theorem listed07_default (A1 A2 A3 A4 A5 A6 A7 : Option Addr) (p : Pg) (c1 c2 c3 c4 c5 c6 c7 : Nat) (B i : Nat) (f : Ta) (s0 s1 s2 s3 s4 s5 s6 s7 s8 s9 s10 s11 s12 s13 : Value) (w : World) (hB : B ≤ w.heap.size) (hP : PgS w B A1 A2 A3 A4 A5 A6 A7 p) (hi : p.tables[i]? = some f) :
  Calls Tryz.prog 78 #[.agg #[.slice A1 p.headers.length c1, .slice A2 p.metas.length c2, .slice A3 p.states.length c3, .slice A4 p.actions.length c4, .slice A5 p.tables.length c5, .slice A6 p.control.length c6, .slice A7 p.emit.length c7], .agg #[.int .u8 14, .int .i64 (i : Int), .int .i64 0, s0, s1, s2, s3, s4, s5, s6, s7, s8, s9, s10, s11, s12, s13]] w fun r w' => r = .returned (.int .i64 (fixedI p f)) ∧ Below w.heap.size w w' := by
 have hs := List.getElem?_eq_some_iff.1 hi
 obtain ⟨hlt, hst⟩ := hs
 obtain ⟨wa, hwa, hsa, hba, hca, -⟩ := box1 w #[.slice A1 p.headers.length c1, .slice A2 p.metas.length c2, .slice A3 p.states.length c3, .slice A4 p.actions.length c4, .slice A5 p.tables.length c5, .slice A6 p.control.length c6, .slice A7 p.emit.length c7] 30
 obtain ⟨wb, hwb, hsb, hbb, hcb, -⟩ := box1 wa #[.int .u8 14, .int .i64 (i : Int), .int .i64 0, s0, s1, s2, s3, s4, s5, s6, s7, s8, s9, s10, s11, s12, s13] 77
 have hw := hba.trans (hbb.mono (by omega))
 have q : ∀ i, wb.cell? ⟨w.heap.size, i, none⟩ = wa.cell? ⟨w.heap.size, i, none⟩ := fun i => hbb.cell (p := ⟨w.heap.size, i, none⟩) (by show w.heap.size < _; omega)
 have hqz := fun i => (q i).trans (hca i)
 obtain ⟨z0, z1, z2, z3, z4, z5, z6⟩ := row7 (w := wb) (a := w.heap.size) fun i => hqz i
 simp only [hsa] at hcb
 have y0 : wb.cell? ⟨w.heap.size + 1, 0, none⟩ = some (.int .u8 14) := hcb 0
 have y1 : wb.cell? ⟨w.heap.size + 1, 1, none⟩ = some (.int .i64 (i : Int)) := hcb 1
 have y2 : wb.cell? ⟨w.heap.size + 1, 2, none⟩ = some (.int .i64 0) := hcb 2
 have hl1 : w.heap.size < wb.heap.size := by omega
 have hl2 : w.heap.size + 1 < wb.heap.size := by omega
 have hz2 : w.heap.size + 2 = wb.heap.size := by omega
 have hBb : B ≤ wb.heap.size := by omega
 have hP2 := hP.below (hw.mono hB)
 have lst := hP2.tables.len
 obtain ⟨b, o, ecs, hA3, hb, hel, hcell, B1, d1, B2, d2, B3, d3, rfl, hn, hd, hT, hK, hC⟩ := hP2.tables.2 i f hi
 subst hA3
 have m1 := hT.len
 have m2 := hK.len
 have m3 := hC.len
 obtain ⟨x0, x1, x2, x3, x4⟩ := srow5 hcell
 obtain ⟨wc, hwc, hsc, hbc, hcc, -⟩ := box1 wb #[.string f.name, .slice B1 f.keys.length d1, .slice B2 f.actions.length d2, .string f.dname, .slice B3 f.dargs.length d3] 48
 have hwC := hw.trans (hbc.mono (by omega))
 have r1 : ∀ i, wc.cell? ⟨w.heap.size, i, none⟩ = wb.cell? ⟨w.heap.size, i, none⟩ := fun i => hbc.cell (p := ⟨w.heap.size, i, none⟩) (by show w.heap.size < _; omega)
 have r2 : ∀ i, wc.cell? ⟨w.heap.size + 1, i, none⟩ = wb.cell? ⟨w.heap.size + 1, i, none⟩ := fun i => hbc.cell (p := ⟨w.heap.size + 1, i, none⟩) (by show w.heap.size + 1 < _; omega)
 have hcz : ∀ i, wc.cell? ⟨w.heap.size, i, none⟩ = (#[.slice A1 p.headers.length c1, .slice A2 p.metas.length c2, .slice A3 p.states.length c3, .slice A4 p.actions.length c4, .slice (some ⟨b, o, none⟩) p.tables.length c5, .slice A6 p.control.length c6, .slice A7 p.emit.length c7] : Array Value)[i]? := fun i => (r1 i).trans (hqz i)
 obtain ⟨f0, f1, f2, f3, f4, f5, f6⟩ := row7 (w := wc) (a := w.heap.size) fun i => hcz i
 have g0 : wc.cell? ⟨w.heap.size + 1, 0, none⟩ = some (.int .u8 14) := (r2 0).trans y0
 have g1 : wc.cell? ⟨w.heap.size + 1, 1, none⟩ = some (.int .i64 (i : Int)) := (r2 1).trans y1
 have g2 : wc.cell? ⟨w.heap.size + 1, 2, none⟩ = some (.int .i64 0) := (r2 2).trans y2
 simp only [hsb, hsa] at hcc
 obtain ⟨v0, v1, v2, v3, v4⟩ := row5 hcc
 have hk1 : w.heap.size < wc.heap.size := by omega
 have hk2 : w.heap.size + 1 < wc.heap.size := by omega
 have hk3 : w.heap.size + 1 + 1 < wc.heap.size := by omega
 have hBc : B ≤ wc.heap.size := by omega
 have hbw : b < wc.heap.size := by omega
 have hiz : (i : Int) < (p.tables.length : Int) := by omega
 have hwC' := hide hwC
 have hP3 := hide (hP2.below (hbc.mono hBb))
 have hK3 := hide (hK.below sta_str (hbc.mono hBb))
 clear hcell hT hK hC hP2 hP hw hqz q r1 r2 hbc hbb hba hca hcb hcc hcz hwC hst
 replace hz2 := hide hz2
 replace hsc := hide hsc
 have hb0 : Below wc.heap.size wc wc := Below.refl _ _
 have hg := gcell' hb0 (Nat.le_refl _)
 have hX := hide (action07_any wc A1 A2 A3 A4 (some ⟨b, o, none⟩) A6 A7 p c1 c2 c3 c4 c5 c6 c7 f.dname hBc hP3.out)
 have hI : ∀ (W : World), Below wc.heap.size wc W → Calls Tryz.prog 138 #[.slice B2 f.actions.length d2, .string f.dname] W _ := fun W hb => index07_any f.actions B2 d2 f.dname W (hK3.out.below sta_str (hb.mono hBc))
 have hin : f.dname ∈ f.actions ↔ 0 ≤ findI f.actions f.dname := by
  unfold findI
  by_cases h : f.dname ∈ f.actions
  ·simp only [if_pos h]; exact ⟨fun _ => by omega, fun _ => h⟩
  ·simp only [if_neg h]; exact ⟨fun h' => absurd h' h, fun h' => by omega⟩
 obtain ⟨r, hr⟩ : ∃ r, fixedI p f = r := ⟨_, rfl⟩
 have hv := hide hr
 simp only [fixedI] at hv
 replace hr := hide hr
 have hP4 := hP3
 generalize findI f.actions f.dname = zi at hI hin
 replace hI := hide hI
 clear hi
 go_enter Tryz.func78, Tryz.ntmps78
 by_cases h0 : actionI p f.dname < 0
 ·have hv2 := hide (show r = 7 from by
   rw [← hv.out]
   split
   ·rfl
   ·rfl)
  simp only [if_pos h0] at hv
  generalize actionI p f.dname = zz at hX h0
  go_wp2_with (go_at_call 139; refine hX.out.mono ?_; rintro e w1 ⟨rfl, hw1⟩; have hc1 := bcell' hw1; have zk1 := Nat.lt_of_lt_of_le hk1 hw1.size; have zk2 := Nat.lt_of_lt_of_le hk2 hw1.size; have zk3 := Nat.lt_of_lt_of_le hk3 hw1.size)
  have hI1 := hide (hI.out w1 hw1)
  replace hw1 := hide hw1
  clear hg
  by_cases hzi : zi < 0
  ·refine hI1.out.mono ?_
   rintro e w2 ⟨rfl, rfl⟩
   go_wp2
   go_ret
   exact ⟨ret_int (hv2.out.symm.trans hr.out.symm), hwC'.out.trans (hw1.out.mono (by omega))⟩
  ·refine hI1.out.mono ?_
   rintro e w2 ⟨rfl, rfl⟩
   go_wp2
   go_ret
   exact ⟨ret_int (hv2.out.symm.trans hr.out.symm), hwC'.out.trans (hw1.out.mono (by omega))⟩
 ·obtain ⟨k, hk, he⟩ := findI_range (l := p.actions.map Ac.name) (a := f.dname) h0
  rw [List.length_map] at hk
  have hvk : actionI p f.dname = (k : Int) := he
  simp only [if_neg h0] at hv
  rw [hvk, Int.toNat_natCast, List.getElem?_eq_getElem hk, Option.elim_some] at hv
  rw [hvk] at hX
  clear he h0 hvk
  have la := hP3.out.actions.len
  obtain ⟨b2, o2, ecs2, hA4, hb2, hel2, hcell2, C1, e1, C2, e2, rfl, hn2, hF2, hG2⟩ := hP3.out.actions.2 k _ (List.getElem?_eq_getElem hk)
  subst hA4
  have l4 := hF2.len
  have l5 := hG2.len
  have hbw2 : b2 < wc.heap.size := by omega
  obtain ⟨n0, n1, n2⟩ := srow3 hcell2
  have hkz : (k : Int) < (p.actions.length : Int) := by omega
  clear hcell2 hF2 hG2 hP3 hP4
  generalize p.actions[k].params.length = m at *
  simp only [Int.ofNat_lt] at hv
  go_wp2_with (go_at_call 139; refine hX.out.mono ?_; rintro e w1 ⟨rfl, hw1⟩; have hc1 := bcell' hw1; have zk1 := Nat.lt_of_lt_of_le hk1 hw1.size; have zk2 := Nat.lt_of_lt_of_le hk2 hw1.size; have zk3 := Nat.lt_of_lt_of_le hk3 hw1.size)
  have hI1 := hide (hI.out w1 hw1)
  replace hw1 := hide hw1
  clear hg
  by_cases hzi : zi < 0
  ·have hm : ¬ f.dname ∈ f.actions := fun h => by have := hin.1 h; omega
   simp only [if_neg hm] at hv
   refine hI1.out.mono ?_
   rintro e w2 ⟨rfl, rfl⟩
   go_wp2
   go_ret
   exact ⟨ret_int (hv.out.trans hr.out.symm), hwC'.out.trans (hw1.out.mono (by omega))⟩
  ·have hm : f.dname ∈ f.actions := hin.2 (by omega)
   simp only [if_pos hm] at hv
   clear hm hin
   by_cases t1 : f.dargs.length < m
   ·have hv2 := hide (show r = 13 from by rw [← hv.out]; simp [isI, eitherI, t1])
    have t1z : (f.dargs.length : Int) < (m : Int) := by omega
    refine hI1.out.mono ?_
    rintro e w2 ⟨rfl, rfl⟩
    go_wp2
    go_quiet (fail)
    go_wp2
    go_ret
    exact ⟨ret_int (hv2.out.symm.trans hr.out.symm), hwC'.out.trans ((below_drewN hw1.out _).mono (by omega))⟩
   ·by_cases t2 : m < f.dargs.length
    ·have hv2 := hide (show r = 5 from by rw [← hv.out]; simp [isI, eitherI, t1, t2])
     have t2z : (m : Int) < (f.dargs.length : Int) := by omega
     refine hI1.out.mono ?_
     rintro e w2 ⟨rfl, rfl⟩
     go_wp2
     go_quiet (fail)
     go_wp2
     go_quiet (fail)
     go_wp2
     go_ret
     exact ⟨ret_int (hv2.out.symm.trans hr.out.symm), hwC'.out.trans ((below_drewN (below_drewN hw1.out _) _).mono (by omega))⟩
    ·have hv2 := hide (show r = 0 from by rw [← hv.out]; simp [isI, eitherI, t1, t2])
     have t3 : m = f.dargs.length := by omega
     refine hI1.out.mono ?_
     rintro e w2 ⟨rfl, rfl⟩
     go_wp2
     go_quiet (fail)
     go_wp2
     go_quiet (fail)
     go_wp2
     go_ret
     exact ⟨ret_int (hv2.out.symm.trans hr.out.symm), hwC'.out.trans ((below_drewN (below_drewN hw1.out _) _).mono (by omega))⟩
end Go.Proofs.YtcgmkjpgaigmfaaGreat
/-! Printed by gen_r7h.py. The document's layer 7: One, at some kinds. -/
namespace Go.Proofs.YtcgmkjpgaigmfaaGreat
open Go.RowKit
set_option maxRecDepth 100000 in
set_option maxHeartbeats 16000000 in
theorem one07_listed13 (A1 A2 A3 A4 A5 A6 A7 : Option Addr) (p : Pg) (c1 c2 c3 c4 c5 c6 c7 : Nat) (B : Nat) (k : Int) (hk : k = 13) (a b : Int) (z : Int) (s0 s1 s2 s3 s4 s5 s6 s7 s8 s9 s10 s11 s12 s13 : Value) (w : World) (hB : B ≤ w.heap.size)
  (hX0 : ∀ W, B ≤ W.heap.size → Below w.heap.size w W → Calls Tryz.prog 78 #[.agg #[.slice A1 p.headers.length c1, .slice A2 p.metas.length c2, .slice A3 p.states.length c3, .slice A4 p.actions.length c4, .slice A5 p.tables.length c5, .slice A6 p.control.length c6, .slice A7 p.emit.length c7], .agg #[.int .u8 k, .int .i64 a, .int .i64 b, s0, s1, s2, s3, s4, s5, s6, s7, s8, s9, s10, s11, s12, s13]] W fun r W' => r = .returned (.int .i64 z) ∧ Below W.heap.size W W') :
  Calls Tryz.prog 24 #[.agg #[.slice A1 p.headers.length c1, .slice A2 p.metas.length c2, .slice A3 p.states.length c3, .slice A4 p.actions.length c4, .slice A5 p.tables.length c5, .slice A6 p.control.length c6, .slice A7 p.emit.length c7], .agg #[.int .u8 k, .int .i64 a, .int .i64 b, s0, s1, s2, s3, s4, s5, s6, s7, s8, s9, s10, s11, s12, s13]] w fun r w' => r = .returned (.int .i64 (z)) ∧ Below w.heap.size w w' := by
 obtain ⟨wa, hwa, hsa, hba, hca, -⟩ := box1 w #[.slice A1 p.headers.length c1, .slice A2 p.metas.length c2, .slice A3 p.states.length c3, .slice A4 p.actions.length c4, .slice A5 p.tables.length c5, .slice A6 p.control.length c6, .slice A7 p.emit.length c7] 30
 obtain ⟨wb, hwb, hsb, hbb, hcb, -⟩ := box1 wa #[.int .u8 k, .int .i64 a, .int .i64 b, s0, s1, s2, s3, s4, s5, s6, s7, s8, s9, s10, s11, s12, s13] 77
 have hw := hba.trans (hbb.mono (by omega))
 have q : ∀ i, wb.cell? ⟨w.heap.size, i, none⟩ = wa.cell? ⟨w.heap.size, i, none⟩ := fun i => hbb.cell (p := ⟨w.heap.size, i, none⟩) (by show w.heap.size < _; omega)
 have hqz := fun i => (q i).trans (hca i)
 obtain ⟨z0, z1, z2, z3, z4, z5, z6⟩ := row7 (w := wb) (a := w.heap.size) fun i => hqz i
 simp only [hsa] at hcb
 obtain ⟨y0, y1, y2, y3, y4, y5, y6, y7, y8, y9, y10, y11, y12, y13, y14, y15, y16⟩ := row17 hcb
 have hl1 : w.heap.size < wb.heap.size := by omega
 have hl2 : w.heap.size + 1 < wb.heap.size := by omega
 have hz2 : w.heap.size + 2 ≤ wb.heap.size := by omega
 have hBb : B ≤ wb.heap.size := by omega
 have hb0 : Below wb.heap.size wb wb := Below.refl _ _
 have hwC := hide hw
 replace hsb := hide hsb
 clear hqz q hbb hba hca hcb
 have hX := hide (hX0 wb hBb (hwC.out))
 clear hX0 hb0
 rcases hk with rfl <;> (
  go_enter Tryz.func24, Tryz.ntmps24
  go_wp2_with (go_at_call 78; refine hX.out.mono ?_; rintro e w1 ⟨rfl, hw1⟩)
  go_ret
  exact ⟨rfl, hwC.out.trans (hw1.mono (by omega))⟩)
set_option maxRecDepth 100000 in
set_option maxHeartbeats 16000000 in
theorem one07_listed14 (A1 A2 A3 A4 A5 A6 A7 : Option Addr) (p : Pg) (c1 c2 c3 c4 c5 c6 c7 : Nat) (B : Nat) (k : Int) (hk : k = 14) (a b : Int) (z : Int) (s0 s1 s2 s3 s4 s5 s6 s7 s8 s9 s10 s11 s12 s13 : Value) (w : World) (hB : B ≤ w.heap.size)
  (hX0 : ∀ W, B ≤ W.heap.size → Below w.heap.size w W → Calls Tryz.prog 78 #[.agg #[.slice A1 p.headers.length c1, .slice A2 p.metas.length c2, .slice A3 p.states.length c3, .slice A4 p.actions.length c4, .slice A5 p.tables.length c5, .slice A6 p.control.length c6, .slice A7 p.emit.length c7], .agg #[.int .u8 k, .int .i64 a, .int .i64 b, s0, s1, s2, s3, s4, s5, s6, s7, s8, s9, s10, s11, s12, s13]] W fun r W' => r = .returned (.int .i64 z) ∧ Below W.heap.size W W') :
  Calls Tryz.prog 24 #[.agg #[.slice A1 p.headers.length c1, .slice A2 p.metas.length c2, .slice A3 p.states.length c3, .slice A4 p.actions.length c4, .slice A5 p.tables.length c5, .slice A6 p.control.length c6, .slice A7 p.emit.length c7], .agg #[.int .u8 k, .int .i64 a, .int .i64 b, s0, s1, s2, s3, s4, s5, s6, s7, s8, s9, s10, s11, s12, s13]] w fun r w' => r = .returned (.int .i64 (z)) ∧ Below w.heap.size w w' := by
 obtain ⟨wa, hwa, hsa, hba, hca, -⟩ := box1 w #[.slice A1 p.headers.length c1, .slice A2 p.metas.length c2, .slice A3 p.states.length c3, .slice A4 p.actions.length c4, .slice A5 p.tables.length c5, .slice A6 p.control.length c6, .slice A7 p.emit.length c7] 30
 obtain ⟨wb, hwb, hsb, hbb, hcb, -⟩ := box1 wa #[.int .u8 k, .int .i64 a, .int .i64 b, s0, s1, s2, s3, s4, s5, s6, s7, s8, s9, s10, s11, s12, s13] 77
 have hw := hba.trans (hbb.mono (by omega))
 have q : ∀ i, wb.cell? ⟨w.heap.size, i, none⟩ = wa.cell? ⟨w.heap.size, i, none⟩ := fun i => hbb.cell (p := ⟨w.heap.size, i, none⟩) (by show w.heap.size < _; omega)
 have hqz := fun i => (q i).trans (hca i)
 obtain ⟨z0, z1, z2, z3, z4, z5, z6⟩ := row7 (w := wb) (a := w.heap.size) fun i => hqz i
 simp only [hsa] at hcb
 obtain ⟨y0, y1, y2, y3, y4, y5, y6, y7, y8, y9, y10, y11, y12, y13, y14, y15, y16⟩ := row17 hcb
 have hl1 : w.heap.size < wb.heap.size := by omega
 have hl2 : w.heap.size + 1 < wb.heap.size := by omega
 have hz2 : w.heap.size + 2 ≤ wb.heap.size := by omega
 have hBb : B ≤ wb.heap.size := by omega
 have hb0 : Below wb.heap.size wb wb := Below.refl _ _
 have hwC := hide hw
 replace hsb := hide hsb
 clear hqz q hbb hba hca hcb
 have hX := hide (hX0 wb hBb (hwC.out))
 clear hX0 hb0
 rcases hk with rfl <;> (
  go_enter Tryz.func24, Tryz.ntmps24
  go_wp2_with (go_at_call 78; refine hX.out.mono ?_; rintro e w1 ⟨rfl, hw1⟩)
  go_ret
  exact ⟨rfl, hwC.out.trans (hw1.mono (by omega))⟩)
set_option maxRecDepth 100000 in
set_option maxHeartbeats 16000000 in
theorem one07_listed15 (A1 A2 A3 A4 A5 A6 A7 : Option Addr) (p : Pg) (c1 c2 c3 c4 c5 c6 c7 : Nat) (B : Nat) (k : Int) (hk : k = 15) (a b : Int) (z : Int) (s0 s1 s2 s3 s4 s5 s6 s7 s8 s9 s10 s11 s12 s13 : Value) (w : World) (hB : B ≤ w.heap.size)
  (hX0 : ∀ W, B ≤ W.heap.size → Below w.heap.size w W → Calls Tryz.prog 78 #[.agg #[.slice A1 p.headers.length c1, .slice A2 p.metas.length c2, .slice A3 p.states.length c3, .slice A4 p.actions.length c4, .slice A5 p.tables.length c5, .slice A6 p.control.length c6, .slice A7 p.emit.length c7], .agg #[.int .u8 k, .int .i64 a, .int .i64 b, s0, s1, s2, s3, s4, s5, s6, s7, s8, s9, s10, s11, s12, s13]] W fun r W' => r = .returned (.int .i64 z) ∧ Below W.heap.size W W') :
  Calls Tryz.prog 24 #[.agg #[.slice A1 p.headers.length c1, .slice A2 p.metas.length c2, .slice A3 p.states.length c3, .slice A4 p.actions.length c4, .slice A5 p.tables.length c5, .slice A6 p.control.length c6, .slice A7 p.emit.length c7], .agg #[.int .u8 k, .int .i64 a, .int .i64 b, s0, s1, s2, s3, s4, s5, s6, s7, s8, s9, s10, s11, s12, s13]] w fun r w' => r = .returned (.int .i64 (z)) ∧ Below w.heap.size w w' := by
 obtain ⟨wa, hwa, hsa, hba, hca, -⟩ := box1 w #[.slice A1 p.headers.length c1, .slice A2 p.metas.length c2, .slice A3 p.states.length c3, .slice A4 p.actions.length c4, .slice A5 p.tables.length c5, .slice A6 p.control.length c6, .slice A7 p.emit.length c7] 30
 obtain ⟨wb, hwb, hsb, hbb, hcb, -⟩ := box1 wa #[.int .u8 k, .int .i64 a, .int .i64 b, s0, s1, s2, s3, s4, s5, s6, s7, s8, s9, s10, s11, s12, s13] 77
 have hw := hba.trans (hbb.mono (by omega))
 have q : ∀ i, wb.cell? ⟨w.heap.size, i, none⟩ = wa.cell? ⟨w.heap.size, i, none⟩ := fun i => hbb.cell (p := ⟨w.heap.size, i, none⟩) (by show w.heap.size < _; omega)
 have hqz := fun i => (q i).trans (hca i)
 obtain ⟨z0, z1, z2, z3, z4, z5, z6⟩ := row7 (w := wb) (a := w.heap.size) fun i => hqz i
 simp only [hsa] at hcb
 obtain ⟨y0, y1, y2, y3, y4, y5, y6, y7, y8, y9, y10, y11, y12, y13, y14, y15, y16⟩ := row17 hcb
 have hl1 : w.heap.size < wb.heap.size := by omega
 have hl2 : w.heap.size + 1 < wb.heap.size := by omega
 have hz2 : w.heap.size + 2 ≤ wb.heap.size := by omega
 have hBb : B ≤ wb.heap.size := by omega
 have hb0 : Below wb.heap.size wb wb := Below.refl _ _
 have hwC := hide hw
 replace hsb := hide hsb
 clear hqz q hbb hba hca hcb
 have hX := hide (hX0 wb hBb (hwC.out))
 clear hX0 hb0
 rcases hk with rfl <;> (
  go_enter Tryz.func24, Tryz.ntmps24
  go_wp2_with (go_at_call 78; refine hX.out.mono ?_; rintro e w1 ⟨rfl, hw1⟩)
  go_ret
  exact ⟨rfl, hwC.out.trans (hw1.mono (by omega))⟩)
end Go.Proofs.YtcgmkjpgaigmfaaGreat

import Derived.Test.YtcgmkjpgaigmfaaGreatChk41
import Derived.Test.YtcgmkjpgaigmfaaGreatChk20
set_option linter.all false
/-! Printed by gen_r7d.py. The document's layer 7: decl, of fields, params, headers. -/
namespace Go.Proofs.YtcgmkjpgaigmfaaGreat
open Go.RowKit
theorem fieldI_le {p : Pg} {i j : Nat} {f : Hd} {g : Fd} (hi : p.headers[i]? = some f) (hj : f.fields[j]? = some g) : fieldI p (i : Int) g.1 ≤ (j : Int) := by
 have h0 : ¬ (i : Int) < 0 := by omega
 simp only [fieldI, if_neg h0, Int.toNat_natCast, hi, Option.elim]
 exact (findAt_le (f := Prod.fst) hj).2
theorem paramI_le {p : Pg} {i j : Nat} {f : Ac} {g : Fd} (hi : p.actions[i]? = some f) (hj : f.params[j]? = some g) : paramI p (i : Int) g.1 ≤ (j : Int) := by
 have h0 : ¬ (i : Int) < 0 := by omega
 simp only [paramI, if_neg h0, Int.toNat_natCast, hi, Option.elim]
 exact (findAt_le (f := Prod.fst) hj).2
set_option maxRecDepth 100000 in
set_option maxHeartbeats 8000000 in
theorem decl07_field (A1 A2 A3 A4 A5 A6 A7 : Option Addr) (p : Pg) (c1 c2 c3 c4 c5 c6 c7 : Nat) (B i : Nat) (j : Nat) (f : Hd) (g : Fd) (s0 s1 s2 s3 s4 s5 s6 s7 s8 s9 s10 s11 s12 s13 : Value) (w : World) (hB : B ≤ w.heap.size) (hP : PgS w B A1 A2 A3 A4 A5 A6 A7 p) (hi : p.headers[i]? = some f) (hj : f.fields[j]? = some g) :
  Calls Tryz.prog 79 #[.agg #[.slice A1 p.headers.length c1, .slice A2 p.metas.length c2, .slice A3 p.states.length c3, .slice A4 p.actions.length c4, .slice A5 p.tables.length c5, .slice A6 p.control.length c6, .slice A7 p.emit.length c7], .agg #[.int .u8 2, .int .i64 (i : Int), .int .i64 (j : Int), s0, s1, s2, s3, s4, s5, s6, s7, s8, s9, s10, s11, s12, s13]] w fun r w' => r = .returned (.int .i64 (isI (decide (fieldI p (i : Int) g.1 < (j : Int))) 8)) ∧ Below w.heap.size w w' := by
 obtain ⟨wa, hwa, hsa, hba, hca, -⟩ := box1 w #[.slice A1 p.headers.length c1, .slice A2 p.metas.length c2, .slice A3 p.states.length c3, .slice A4 p.actions.length c4, .slice A5 p.tables.length c5, .slice A6 p.control.length c6, .slice A7 p.emit.length c7] 30
 obtain ⟨wb, hwb, hsb, hbb, hcb, -⟩ := box1 wa #[.int .u8 2, .int .i64 (i : Int), .int .i64 (j : Int), s0, s1, s2, s3, s4, s5, s6, s7, s8, s9, s10, s11, s12, s13] 77
 have hw := hba.trans (hbb.mono (by omega))
 have q : ∀ i, wb.cell? ⟨w.heap.size, i, none⟩ = wa.cell? ⟨w.heap.size, i, none⟩ := fun i => hbb.cell (p := ⟨w.heap.size, i, none⟩) (by show w.heap.size < _; omega)
 have hqz := fun i => (q i).trans (hca i)
 obtain ⟨z0, z1, z2, z3, z4, z5, z6⟩ := row7 (w := wb) (a := w.heap.size) fun i => hqz i
 simp only [hsa] at hcb
 obtain ⟨y0, y1, y2, y3, y4, y5, y6, y7, y8, y9, y10, y11, y12, y13, y14, y15, y16⟩ := row17 hcb
 have hl1 : w.heap.size < wb.heap.size := by omega
 have hl2 : w.heap.size + 1 < wb.heap.size := by omega
 have hz2 : w.heap.size + 2 ≤ wb.heap.size := by omega
 have hBb : B ≤ wb.heap.size := by omega
 have hP2 := hP.below (hw.mono hB)
 have hb0 : Below wb.heap.size wb wb := Below.refl _ _
 have hwC := hide hw
 replace hsb := hide hsb
 clear hP hqz q hbb hba hca hcb
 have lst := hP2.headers.len
 obtain ⟨b, o, ecs, hA, hb, hel, hcell, B1, d1, rfl, hn, hF⟩ := hP2.headers.2 i _ hi
 subst hA
 have x0 : wb.cell? ⟨b, o + i * 2, none⟩ = some (.string f.name) := by simpa using hcell 0 _ rfl
 have x1 : wb.cell? ⟨b, o + i * 2 + 1, none⟩ = some (.slice B1 f.fields.length d1) := hcell 1 _ rfl
 have hbw : b < wb.heap.size := by omega
 have hiz : (i : Int) < (p.headers.length : Int) := by have := (List.getElem?_eq_some_iff.1 hi).1; omega
 have hlf := hF.len
 obtain ⟨b', o', ecs', hA', hb', hel', hcell', rfl, hzq, hi6⟩ := hF.2 j _ hj
 subst hA'
 have n0 : wb.cell? ⟨b', o' + j * 2, none⟩ = some (.string g.1) := by simpa using hcell' 0 _ rfl
 have n1 : wb.cell? ⟨b', o' + j * 2 + 1, none⟩ = some (.int .i64 g.2) := hcell' 1 _ rfl
 have hbw' : b' < wb.heap.size := by omega
 have hjz : (j : Int) < (f.fields.length : Int) := by have := (List.getElem?_eq_some_iff.1 hj).1; omega
 have hg := gcell' hb0 hb0.size
 have hX : ∀ d os, Hid (Calls Tryz.prog 134 #[.agg #[.slice (some ⟨b, o, none⟩) p.headers.length c1, .slice A2 p.metas.length c2, .slice A3 p.states.length c3, .slice A4 p.actions.length c4, .slice A5 p.tables.length c5, .slice A6 p.control.length c6, .slice A7 p.emit.length c7], .int .i64 (i : Int), .string g.1] (Go.Sort.grow (redrawn wb d) os) _) := fun d os => hide (field07_any _ (some ⟨b, o, none⟩) A2 A3 A4 A5 A6 A7 p c1 c2 c3 c4 c5 c6 c7 (i : Int) g.1 (hP2.grown hBb d os).1 (hP2.grown hBb d os).2)
 have hle := (show fieldI p (i : Int) g.1 ≤ (j : Int) from fieldI_le hi hj)
 generalize fieldI p (i : Int) g.1 = zz at hX hle ⊢
 replace hP2 := hide hP2
 clear hb0 hcell hi hj hcell'
 by_cases hz : zz = (j : Int)
 ·subst hz
  go_enter Tryz.func79, Tryz.ntmps79
  go_wp2_with fail
  refine wp_region_quiet_below (by kernel_rfl) (by kernel_rfl) ?_
  repeat (any_goals (first | go_big_quiet_step (first | (go_at_call 134; with_reducible exact Calls.regrown_of (hX _ _).out)) | quiet_step (first | (go_at_call 134; with_reducible exact Calls.regrown_of (hX _ _).out))))
  refine wpQuiet_nil ?_
  intro w1 hw1
  replace hw1 := below_of_regrown hw1
  have hc1 := bcell' hw1
  go_wp2
  go_ret
  exact ⟨ret_int (by simp [isI]), hwC.out.trans (hw1.mono (by omega))⟩
 ·have hz1 : zz < (j : Int) := by omega
  have hz2 : ¬ (j : Int) = zz := fun h => hz h.symm
  clear hle
  go_enter Tryz.func79, Tryz.ntmps79
  go_wp2_with fail
  refine wp_region_quiet_below (by kernel_rfl) (by kernel_rfl) ?_
  repeat (any_goals (first | go_big_quiet_step (first | (go_at_call 134; with_reducible exact Calls.regrown_of (hX _ _).out)) | quiet_step (first | (go_at_call 134; with_reducible exact Calls.regrown_of (hX _ _).out))))
  refine wpQuiet_nil ?_
  intro w1 hw1
  replace hw1 := below_of_regrown hw1
  have hc1 := bcell' hw1
  go_wp2
  go_ret
  exact ⟨ret_int (by simp [isI, hz1]), hwC.out.trans (hw1.mono (by omega))⟩
set_option maxRecDepth 100000 in
set_option maxHeartbeats 8000000 in
theorem decl07_param (A1 A2 A3 A4 A5 A6 A7 : Option Addr) (p : Pg) (c1 c2 c3 c4 c5 c6 c7 : Nat) (B i : Nat) (j : Nat) (f : Ac) (g : Fd) (s0 s1 s2 s3 s4 s5 s6 s7 s8 s9 s10 s11 s12 s13 : Value) (w : World) (hB : B ≤ w.heap.size) (hP : PgS w B A1 A2 A3 A4 A5 A6 A7 p) (hi : p.actions[i]? = some f) (hj : f.params[j]? = some g) :
  Calls Tryz.prog 79 #[.agg #[.slice A1 p.headers.length c1, .slice A2 p.metas.length c2, .slice A3 p.states.length c3, .slice A4 p.actions.length c4, .slice A5 p.tables.length c5, .slice A6 p.control.length c6, .slice A7 p.emit.length c7], .agg #[.int .u8 9, .int .i64 (i : Int), .int .i64 (j : Int), s0, s1, s2, s3, s4, s5, s6, s7, s8, s9, s10, s11, s12, s13]] w fun r w' => r = .returned (.int .i64 (isI (decide (paramI p (i : Int) g.1 < (j : Int))) 8)) ∧ Below w.heap.size w w' := by
 obtain ⟨wa, hwa, hsa, hba, hca, -⟩ := box1 w #[.slice A1 p.headers.length c1, .slice A2 p.metas.length c2, .slice A3 p.states.length c3, .slice A4 p.actions.length c4, .slice A5 p.tables.length c5, .slice A6 p.control.length c6, .slice A7 p.emit.length c7] 30
 obtain ⟨wb, hwb, hsb, hbb, hcb, -⟩ := box1 wa #[.int .u8 9, .int .i64 (i : Int), .int .i64 (j : Int), s0, s1, s2, s3, s4, s5, s6, s7, s8, s9, s10, s11, s12, s13] 77
 have hw := hba.trans (hbb.mono (by omega))
 have q : ∀ i, wb.cell? ⟨w.heap.size, i, none⟩ = wa.cell? ⟨w.heap.size, i, none⟩ := fun i => hbb.cell (p := ⟨w.heap.size, i, none⟩) (by show w.heap.size < _; omega)
 have hqz := fun i => (q i).trans (hca i)
 obtain ⟨z0, z1, z2, z3, z4, z5, z6⟩ := row7 (w := wb) (a := w.heap.size) fun i => hqz i
 simp only [hsa] at hcb
 obtain ⟨y0, y1, y2, y3, y4, y5, y6, y7, y8, y9, y10, y11, y12, y13, y14, y15, y16⟩ := row17 hcb
 have hl1 : w.heap.size < wb.heap.size := by omega
 have hl2 : w.heap.size + 1 < wb.heap.size := by omega
 have hz2 : w.heap.size + 2 ≤ wb.heap.size := by omega
 have hBb : B ≤ wb.heap.size := by omega
 have hP2 := hP.below (hw.mono hB)
 have hb0 : Below wb.heap.size wb wb := Below.refl _ _
 have hwC := hide hw
 replace hsb := hide hsb
 clear hP hqz q hbb hba hca hcb
 have lst := hP2.actions.len
 obtain ⟨b, o, ecs, hA, hb, hel, hcell, B1, d1, B2, d2, rfl, hn, hF, hG⟩ := hP2.actions.2 i _ hi
 subst hA
 obtain ⟨x0, x1, x2⟩ := srow3 hcell
 have hbw : b < wb.heap.size := by omega
 have hiz : (i : Int) < (p.actions.length : Int) := by have := (List.getElem?_eq_some_iff.1 hi).1; omega
 have hlf := hF.len
 obtain ⟨b', o', ecs', hA', hb', hel', hcell', rfl, hzq, hi6⟩ := hF.2 j _ hj
 subst hA'
 have n0 : wb.cell? ⟨b', o' + j * 2, none⟩ = some (.string g.1) := by simpa using hcell' 0 _ rfl
 have n1 : wb.cell? ⟨b', o' + j * 2 + 1, none⟩ = some (.int .i64 g.2) := hcell' 1 _ rfl
 have hbw' : b' < wb.heap.size := by omega
 have hjz : (j : Int) < (f.params.length : Int) := by have := (List.getElem?_eq_some_iff.1 hj).1; omega
 have hg := gcell' hb0 hb0.size
 have hX : ∀ d os, Hid (Calls Tryz.prog 136 #[.agg #[.slice A1 p.headers.length c1, .slice A2 p.metas.length c2, .slice A3 p.states.length c3, .slice (some ⟨b, o, none⟩) p.actions.length c4, .slice A5 p.tables.length c5, .slice A6 p.control.length c6, .slice A7 p.emit.length c7], .int .i64 (i : Int), .string g.1] (Go.Sort.grow (redrawn wb d) os) _) := fun d os => hide (param07_any _ A1 A2 A3 (some ⟨b, o, none⟩) A5 A6 A7 p c1 c2 c3 c4 c5 c6 c7 (i : Int) g.1 (hP2.grown hBb d os).1 (hP2.grown hBb d os).2)
 have hle := (show paramI p (i : Int) g.1 ≤ (j : Int) from paramI_le hi hj)
 generalize paramI p (i : Int) g.1 = zz at hX hle ⊢
 replace hP2 := hide hP2
 clear hb0 hcell hi hj hcell'
 by_cases hz : zz = (j : Int)
 ·subst hz
  go_enter Tryz.func79, Tryz.ntmps79
  go_wp2_with fail
  refine wp_region_quiet_below (by kernel_rfl) (by kernel_rfl) ?_
  repeat (any_goals (first | go_big_quiet_step (first | (go_at_call 136; with_reducible exact Calls.regrown_of (hX _ _).out)) | quiet_step (first | (go_at_call 136; with_reducible exact Calls.regrown_of (hX _ _).out))))
  refine wpQuiet_nil ?_
  intro w1 hw1
  replace hw1 := below_of_regrown hw1
  have hc1 := bcell' hw1
  go_wp2
  go_ret
  exact ⟨ret_int (by simp [isI]), hwC.out.trans (hw1.mono (by omega))⟩
 ·have hz1 : zz < (j : Int) := by omega
  have hz2 : ¬ (j : Int) = zz := fun h => hz h.symm
  clear hle
  go_enter Tryz.func79, Tryz.ntmps79
  go_wp2_with fail
  refine wp_region_quiet_below (by kernel_rfl) (by kernel_rfl) ?_
  repeat (any_goals (first | go_big_quiet_step (first | (go_at_call 136; with_reducible exact Calls.regrown_of (hX _ _).out)) | quiet_step (first | (go_at_call 136; with_reducible exact Calls.regrown_of (hX _ _).out))))
  refine wpQuiet_nil ?_
  intro w1 hw1
  replace hw1 := below_of_regrown hw1
  have hc1 := bcell' hw1
  go_wp2
  go_ret
  exact ⟨ret_int (by simp [isI, hz1]), hwC.out.trans (hw1.mono (by omega))⟩
set_option maxRecDepth 100000 in
set_option maxHeartbeats 8000000 in
theorem decl07_header (A1 A2 A3 A4 A5 A6 A7 : Option Addr) (p : Pg) (c1 c2 c3 c4 c5 c6 c7 : Nat) (B i : Nat) (f : Hd) (s0 s1 s2 s3 s4 s5 s6 s7 s8 s9 s10 s11 s12 s13 : Value) (w : World) (hB : B ≤ w.heap.size) (hP : PgS w B A1 A2 A3 A4 A5 A6 A7 p) (hm : hdB f = true) (hi : p.headers[i]? = some f) :
  Calls Tryz.prog 79 #[.agg #[.slice A1 p.headers.length c1, .slice A2 p.metas.length c2, .slice A3 p.states.length c3, .slice A4 p.actions.length c4, .slice A5 p.tables.length c5, .slice A6 p.control.length c6, .slice A7 p.emit.length c7], .agg #[.int .u8 1, .int .i64 (i : Int), .int .i64 0, s0, s1, s2, s3, s4, s5, s6, s7, s8, s9, s10, s11, s12, s13]] w fun r w' => r = .returned (.int .i64 (eitherI (isI (decide (headerI p f.name < (i : Int))) 8) (isI (decide (bitsI f % 8 ≠ 0) || decide (256 < bitsI f)) 10))) ∧ Below w.heap.size w w' := by
 obtain ⟨wa, hwa, hsa, hba, hca, -⟩ := box1 w #[.slice A1 p.headers.length c1, .slice A2 p.metas.length c2, .slice A3 p.states.length c3, .slice A4 p.actions.length c4, .slice A5 p.tables.length c5, .slice A6 p.control.length c6, .slice A7 p.emit.length c7] 30
 obtain ⟨wb, hwb, hsb, hbb, hcb, -⟩ := box1 wa #[.int .u8 1, .int .i64 (i : Int), .int .i64 0, s0, s1, s2, s3, s4, s5, s6, s7, s8, s9, s10, s11, s12, s13] 77
 have hw := hba.trans (hbb.mono (by omega))
 have q : ∀ i, wb.cell? ⟨w.heap.size, i, none⟩ = wa.cell? ⟨w.heap.size, i, none⟩ := fun i => hbb.cell (p := ⟨w.heap.size, i, none⟩) (by show w.heap.size < _; omega)
 have hqz := fun i => (q i).trans (hca i)
 obtain ⟨z0, z1, z2, z3, z4, z5, z6⟩ := row7 (w := wb) (a := w.heap.size) fun i => hqz i
 simp only [hsa] at hcb
 obtain ⟨y0, y1, y2, y3, y4, y5, y6, y7, y8, y9, y10, y11, y12, y13, y14, y15, y16⟩ := row17 hcb
 have hl1 : w.heap.size < wb.heap.size := by omega
 have hl2 : w.heap.size + 1 < wb.heap.size := by omega
 have hz2 : w.heap.size + 2 ≤ wb.heap.size := by omega
 have hBb : B ≤ wb.heap.size := by omega
 have hP2 := hP.below (hw.mono hB)
 have hb0 : Below wb.heap.size wb wb := Below.refl _ _
 have hwC := hide hw
 replace hsb := hide hsb
 clear hP hqz q hbb hba hca hcb
 have lst := hP2.headers.len
 obtain ⟨b, o, ecs, hA, hb, hel, hcell, B1, d1, rfl, hn, hF⟩ := hP2.headers.2 i _ hi
 subst hA
 have x0 : wb.cell? ⟨b, o + i * 2, none⟩ = some (.string f.name) := by simpa using hcell 0 _ rfl
 have x1 : wb.cell? ⟨b, o + i * 2 + 1, none⟩ = some (.slice B1 f.fields.length d1) := hcell 1 _ rfl
 have hbw : b < wb.heap.size := by omega
 have hiz : (i : Int) < (p.headers.length : Int) := by have := (List.getElem?_eq_some_iff.1 hi).1; omega
 have hBt := hide (fun (W : World) (hb : Below wb.heap.size wb W) => (bits07_any f B1 d1 W (B := B) (by have := hb.size; omega) (hF.below sta_fd (hb.mono hBb)) hm).mono (fun e w' h => (⟨h.1, hb.trans (h.2.mono hb.size)⟩ : e = _ ∧ Below wb.heap.size wb w')))
 have hb2 := hide (show 0 ≤ bitsI f ∧ bitsI f ≤ 2048 from by
  simp only [hdB, Bool.and_eq_true, decide_eq_true_eq] at hm
  have := bitsN_le (l := f.fields) fun x hx => by
   have := List.all_eq_true.1 hm.2 x hx
   simp only [fdB, widthB, Bool.and_eq_true, decide_eq_true_eq] at this
   exact this.2
  have e : bitsI f = bitsN f.fields := rfl
  rw [e]; omega)
 have hlf := hF.len
 have hg := gcell' hb0 hb0.size
 have hX : ∀ d os, Hid (Calls Tryz.prog 132 #[.agg #[.slice (some ⟨b, o, none⟩) p.headers.length c1, .slice A2 p.metas.length c2, .slice A3 p.states.length c3, .slice A4 p.actions.length c4, .slice A5 p.tables.length c5, .slice A6 p.control.length c6, .slice A7 p.emit.length c7], .string f.name] (Go.Sort.grow (redrawn wb d) os) _) := fun d os => hide (header07_any _ (some ⟨b, o, none⟩) A2 A3 A4 A5 A6 A7 p c1 c2 c3 c4 c5 c6 c7 f.name (hP2.grown hBb d os).1 (hP2.grown hBb d os).2)
 have hle := (show headerI p f.name ≤ (i : Int) from (findAt_le (f := Hd.name) hi).2)
 generalize headerI p f.name = zz at hX hle ⊢
 generalize bitsI f = n at hBt hb2 ⊢
 obtain ⟨n0, n1⟩ := hb2.out
 replace hP2 := hide hP2
 have hBk := hide (show ∀ W, Below wb.heap.size wb W → Below w.heap.size w W from fun W hb => hwC.out.trans (hb.mono (by omega)))
 clear hb0 hcell hi hm hF hb2
 by_cases hz : zz = (i : Int)
 ·subst hz
  have hm8 : n.tmod 8 = n % 8 := Int.tmod_eq_emod_of_nonneg n0
  generalize hmm : n % 8 = m at hm8
  by_cases h8 : m = 0
  ·have hmm' := hide hmm
   clear hmm
   subst h8
   by_cases h256 : 256 < n
   ·go_enter Tryz.func79, Tryz.ntmps79
    go_wp2_with fail
    refine wp_region_quiet_below (by kernel_rfl) (by kernel_rfl) ?_
    repeat (any_goals (first | go_big_quiet_step (first | (go_at_call 132; with_reducible exact Calls.regrown_of (hX _ _).out)) | quiet_step (first | (go_at_call 132; with_reducible exact Calls.regrown_of (hX _ _).out))))
    refine wpQuiet_nil ?_
    intro w1 hw1
    replace hw1 := below_of_regrown hw1
    have hc1 := bcell' hw1
    have zc1 := Nat.lt_of_lt_of_le hl1 hw1.size
    have zc2 := Nat.lt_of_lt_of_le hl2 hw1.size
    go_wp2_with (go_at_call 140; refine (hBt.out _ (by assumption)).mono ?_; rintro e w2 ⟨rfl, hw2⟩; have hc2 := bcell' hw2; have ze1 := Nat.lt_of_lt_of_le hl1 hw2.size; have ze2 := Nat.lt_of_lt_of_le hl2 hw2.size)
    go_ret
    exact ⟨ret_int (by simp [isI, eitherI, h256]), hBk.out _ (by assumption)⟩
   ·have hn256 : n ≤ 256 := by omega
    go_enter Tryz.func79, Tryz.ntmps79
    go_wp2_with fail
    refine wp_region_quiet_below (by kernel_rfl) (by kernel_rfl) ?_
    repeat (any_goals (first | go_big_quiet_step (first | (go_at_call 132; with_reducible exact Calls.regrown_of (hX _ _).out)) | quiet_step (first | (go_at_call 132; with_reducible exact Calls.regrown_of (hX _ _).out))))
    refine wpQuiet_nil ?_
    intro w1 hw1
    replace hw1 := below_of_regrown hw1
    have hc1 := bcell' hw1
    have zc1 := Nat.lt_of_lt_of_le hl1 hw1.size
    have zc2 := Nat.lt_of_lt_of_le hl2 hw1.size
    go_wp2_with (go_at_call 140; refine (hBt.out _ (by assumption)).mono ?_; rintro e w2 ⟨rfl, hw2⟩; have hc2 := bcell' hw2; have ze1 := Nat.lt_of_lt_of_le hl1 hw2.size; have ze2 := Nat.lt_of_lt_of_le hl2 hw2.size)
    go_ret
    exact ⟨ret_int (by simp [isI, eitherI, h256, hmm'.out]), hBk.out _ (by assumption)⟩
  ·have hmm' := hide hmm
   clear hmm
   go_enter Tryz.func79, Tryz.ntmps79
   go_wp2_with fail
   refine wp_region_quiet_below (by kernel_rfl) (by kernel_rfl) ?_
   repeat (any_goals (first | go_big_quiet_step (first | (go_at_call 132; with_reducible exact Calls.regrown_of (hX _ _).out)) | quiet_step (first | (go_at_call 132; with_reducible exact Calls.regrown_of (hX _ _).out))))
   refine wpQuiet_nil ?_
   intro w1 hw1
   replace hw1 := below_of_regrown hw1
   have hc1 := bcell' hw1
   have zc1 := Nat.lt_of_lt_of_le hl1 hw1.size
   have zc2 := Nat.lt_of_lt_of_le hl2 hw1.size
   go_wp2_with (go_at_call 140; refine (hBt.out _ (by assumption)).mono ?_; rintro e w2 ⟨rfl, hw2⟩; have hc2 := bcell' hw2; have ze1 := Nat.lt_of_lt_of_le hl1 hw2.size; have ze2 := Nat.lt_of_lt_of_le hl2 hw2.size)
   go_ret
   exact ⟨ret_int (by simp [isI, eitherI, hmm'.out, h8]), hBk.out _ (by assumption)⟩
 ·have hz1 : zz < (i : Int) := by omega
  have hz2 : ¬ (i : Int) = zz := fun h => hz h.symm
  clear hle
  go_enter Tryz.func79, Tryz.ntmps79
  go_wp2_with fail
  refine wp_region_quiet_below (by kernel_rfl) (by kernel_rfl) ?_
  repeat (any_goals (first | go_big_quiet_step (first | (go_at_call 132; with_reducible exact Calls.regrown_of (hX _ _).out)) | quiet_step (first | (go_at_call 132; with_reducible exact Calls.regrown_of (hX _ _).out))))
  refine wpQuiet_nil ?_
  intro w1 hw1
  replace hw1 := below_of_regrown hw1
  have hc1 := bcell' hw1
  go_wp2
  go_ret
  exact ⟨ret_int (by simp [isI, eitherI, hz1]), hBk.out _ hw1⟩
end Go.Proofs.YtcgmkjpgaigmfaaGreat
/-! Printed by gen_r7h.py. The document's layer 7: One, at some kinds. -/
namespace Go.Proofs.YtcgmkjpgaigmfaaGreat
open Go.RowKit
set_option maxRecDepth 100000 in
set_option maxHeartbeats 16000000 in
theorem one07_decl (A1 A2 A3 A4 A5 A6 A7 : Option Addr) (p : Pg) (c1 c2 c3 c4 c5 c6 c7 : Nat) (B : Nat) (k : Int) (hk : ¬ k = 5 ∧ ¬ k = 6 ∧ ¬ k = 7 ∧ ¬ k = 12 ∧ ¬ k = 10 ∧ ¬ k = 13 ∧ ¬ k = 14 ∧ ¬ k = 15) (a b : Int) (z : Int) (s0 s1 s2 s3 s4 s5 s6 s7 s8 s9 s10 s11 s12 s13 : Value) (w : World) (hB : B ≤ w.heap.size)
  (hX0 : ∀ W, B ≤ W.heap.size → Below w.heap.size w W → Calls Tryz.prog 79 #[.agg #[.slice A1 p.headers.length c1, .slice A2 p.metas.length c2, .slice A3 p.states.length c3, .slice A4 p.actions.length c4, .slice A5 p.tables.length c5, .slice A6 p.control.length c6, .slice A7 p.emit.length c7], .agg #[.int .u8 k, .int .i64 a, .int .i64 b, s0, s1, s2, s3, s4, s5, s6, s7, s8, s9, s10, s11, s12, s13]] W fun r W' => r = .returned (.int .i64 z) ∧ Below W.heap.size W W') :
  Calls Tryz.prog 24 #[.agg #[.slice A1 p.headers.length c1, .slice A2 p.metas.length c2, .slice A3 p.states.length c3, .slice A4 p.actions.length c4, .slice A5 p.tables.length c5, .slice A6 p.control.length c6, .slice A7 p.emit.length c7], .agg #[.int .u8 k, .int .i64 a, .int .i64 b, s0, s1, s2, s3, s4, s5, s6, s7, s8, s9, s10, s11, s12, s13]] w fun r w' => r = .returned (.int .i64 (z)) ∧ Below w.heap.size w w' := by
 obtain ⟨wa, hwa, hsa, hba, hca, -⟩ := box1 w #[.slice A1 p.headers.length c1, .slice A2 p.metas.length c2, .slice A3 p.states.length c3, .slice A4 p.actions.length c4, .slice A5 p.tables.length c5, .slice A6 p.control.length c6, .slice A7 p.emit.length c7] 30
 obtain ⟨wb, hwb, hsb, hbb, hcb, -⟩ := box1 wa #[.int .u8 k, .int .i64 a, .int .i64 b, s0, s1, s2, s3, s4, s5, s6, s7, s8, s9, s10, s11, s12, s13] 77
 have hw := hba.trans (hbb.mono (by omega))
 have q : ∀ i, wb.cell? ⟨w.heap.size, i, none⟩ = wa.cell? ⟨w.heap.size, i, none⟩ := fun i => hbb.cell (p := ⟨w.heap.size, i, none⟩) (by show w.heap.size < _; omega)
 have hqz := fun i => (q i).trans (hca i)
 obtain ⟨z0, z1, z2, z3, z4, z5, z6⟩ := row7 (w := wb) (a := w.heap.size) fun i => hqz i
 simp only [hsa] at hcb
 obtain ⟨y0, y1, y2, y3, y4, y5, y6, y7, y8, y9, y10, y11, y12, y13, y14, y15, y16⟩ := row17 hcb
 have hl1 : w.heap.size < wb.heap.size := by omega
 have hl2 : w.heap.size + 1 < wb.heap.size := by omega
 have hz2 : w.heap.size + 2 ≤ wb.heap.size := by omega
 have hBb : B ≤ wb.heap.size := by omega
 have hb0 : Below wb.heap.size wb wb := Below.refl _ _
 have hwC := hide hw
 replace hsb := hide hsb
 clear hqz q hbb hba hca hcb
 have hX := hide (hX0 wb hBb (hwC.out))
 clear hX0 hb0
 obtain ⟨n5, n6, n7, n12, n10, n13, n14, n15⟩ := hk
 go_enter Tryz.func24, Tryz.ntmps24
 go_wp2_with (go_at_call 79; refine hX.out.mono ?_; rintro e w1 ⟨rfl, hw1⟩)
 go_ret
 exact ⟨rfl, hwC.out.trans (hw1.mono (by omega))⟩
end Go.Proofs.YtcgmkjpgaigmfaaGreat

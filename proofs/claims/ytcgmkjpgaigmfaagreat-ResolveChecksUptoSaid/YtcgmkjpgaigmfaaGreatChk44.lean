import Derived.Test.YtcgmkjpgaigmfaaGreatChk39
import Derived.Test.YtcgmkjpgaigmfaaGreatChk40
import Derived.Test.YtcgmkjpgaigmfaaGreatChk42
import Derived.Test.YtcgmkjpgaigmfaaGreatChk43
import Derived.Test.YtcgmkjpgaigmfaaGreatChk20
set_option linter.all false
/-! Printed by gen_r7h.py. The document's layer 7: One. -/
namespace Go.Proofs.YtcgmkjpgaigmfaaGreat
open Go.RowKit
theorem isI_iff {b : Bool} {n : Int} : (isI b n == 0) = (!b || decide (n = 0)) := by cases b <;> simp [isI]; by_cases h : n = 0 <;> simp [h]
set_option maxRecDepth 100000 in
set_option maxHeartbeats 4000000 in
theorem one07_stmt (A1 A2 A3 A4 A5 A6 A7 : Option Addr) (p : Pg) (c1 c2 c3 c4 c5 c6 c7 : Nat) (B : Nat) (act : Int) (st : St) (s0 s1 s2 s3 s4 s5 s6 s7 s8 s9 s10 s11 s12 s13 : Value) (w : World) (hB : B ≤ w.heap.size) (hP : PgS w B A1 A2 A3 A4 A5 A6 A7 p) (hst : rSt w B [s0, s1, s2, s3, s4, s5, s6, s7, s8, s9, s10, s11, s12, s13] st) :
  Calls Tryz.prog 24 #[.agg #[.slice A1 p.headers.length c1, .slice A2 p.metas.length c2, .slice A3 p.states.length c3, .slice A4 p.actions.length c4, .slice A5 p.tables.length c5, .slice A6 p.control.length c6, .slice A7 p.emit.length c7], .agg #[.int .u8 10, .int .i64 act, .int .i64 0, s0, s1, s2, s3, s4, s5, s6, s7, s8, s9, s10, s11, s12, s13]] w fun r w' => r = .returned (.int .i64 (stmtI p act st)) ∧ Below w.heap.size w w' := by
 obtain ⟨kind, head, name, e, thn, els⟩ := st
 have hs0 : s0 = .int .u8 kind := by
  obtain ⟨es, A, cap, A', cap', he, -⟩ := RS.inv hst
  have := congrArg List.head? he
  simpa [stC] using this
 subst hs0
 obtain ⟨wa, hwa, hsa, hba, hca, -⟩ := box1 w #[.slice A1 p.headers.length c1, .slice A2 p.metas.length c2, .slice A3 p.states.length c3, .slice A4 p.actions.length c4, .slice A5 p.tables.length c5, .slice A6 p.control.length c6, .slice A7 p.emit.length c7] 30
 obtain ⟨wb, hwb, hsb, hbb, hcb, -⟩ := box1 wa #[.int .u8 10, .int .i64 act, .int .i64 0, .int .u8 kind, s1, s2, s3, s4, s5, s6, s7, s8, s9, s10, s11, s12, s13] 77
 have hw := hba.trans (hbb.mono (by omega))
 have q : ∀ i, wb.cell? ⟨w.heap.size, i, none⟩ = wa.cell? ⟨w.heap.size, i, none⟩ := fun i => hbb.cell (p := ⟨w.heap.size, i, none⟩) (by show w.heap.size < _; omega)
 have hqz := fun i => (q i).trans (hca i)
 obtain ⟨z0, z1, z2, z3, z4, z5, z6⟩ := row7 (w := wb) (a := w.heap.size) fun i => hqz i
 simp only [hsa] at hcb
 obtain ⟨y0, y1, y2, y3, y4, y5, y6, y7, y8, y9, y10, y11, y12, y13, y14, y15, y16⟩ := row17 hcb
 have hl1 : w.heap.size < wb.heap.size := by omega
 have hl2 : w.heap.size + 1 < wb.heap.size := by omega
 have hz2 : w.heap.size + 2 ≤ wb.heap.size := by omega
 have hBb : B ≤ wb.heap.size := by omega
 have hP2 := hP.below (hw.mono hB)
 have hb0 : Below wb.heap.size wb wb := Below.refl _ _
 have hwC := hide hw
 replace hsb := hide hsb
 clear hP hqz q hbb hba hca hcb
 have hX := hide (stmt07_any A1 A2 A3 A4 A5 A6 A7 p c1 c2 c3 c4 c5 c6 c7 act B (.mk kind head name e thn els) [.int .u8 kind, s1, s2, s3, s4, s5, s6, s7, s8, s9, s10, s11, s12, s13] wb hBb hP2 (sta_st.keep hst fun q hq => (hwC.out.mono hB).cell hq))
 have hv := hide (stmtI_is p act kind head name e thn els)
 replace hP2 := hide hP2
 generalize stmtB p act (.mk kind head name e thn els) = z at hX hv
 clear hb0 hst
 by_cases h3 : kind = 3
 ·by_cases ha : 0 ≤ act
  ·replace hv := hide (hv.out.trans (if_pos ⟨h3, ha⟩))
   subst h3
   go_enter Tryz.func24, Tryz.ntmps24
   go_wp2
   go_ret
   exact ⟨ret_int hv.out.symm, hwC.out⟩
  ·replace hv := hide (hv.out.trans (if_neg fun h => ha h.2))
   subst h3
   cases z <;> (
    go_enter Tryz.func24, Tryz.ntmps24
    go_wp2_with (go_at_call 77; refine hX.out.mono ?_; rintro e w1 ⟨rfl, hw1⟩)
    go_ret
    exact ⟨ret_int hv.out.symm, hwC.out.trans (hw1.mono (by omega))⟩)
 ·replace hv := hide (hv.out.trans (if_neg fun h => h3 h.1))
  cases z <;> (
   go_enter Tryz.func24, Tryz.ntmps24
   go_wp2_with (go_at_call 77; refine hX.out.mono ?_; rintro e w1 ⟨rfl, hw1⟩)
   go_ret
   exact ⟨ret_int hv.out.symm, hwC.out.trans (hw1.mono (by omega))⟩)
set_option maxRecDepth 100000 in
set_option maxHeartbeats 4000000 in
theorem one07_key (A1 A2 A3 A4 A5 A6 A7 : Option Addr) (p : Pg) (c1 c2 c3 c4 c5 c6 c7 : Nat) (B i : Nat) (j : Nat) (f : Ta) (g : Ky) (s0 s1 s2 s3 s4 s5 s6 s7 s8 s9 s10 s11 s12 s13 : Value) (w : World) (hB : B ≤ w.heap.size) (hP : PgS w B A1 A2 A3 A4 A5 A6 A7 p) (hi : p.tables[i]? = some f) (hj : f.keys[j]? = some g) :
  Calls Tryz.prog 24 #[.agg #[.slice A1 p.headers.length c1, .slice A2 p.metas.length c2, .slice A3 p.states.length c3, .slice A4 p.actions.length c4, .slice A5 p.tables.length c5, .slice A6 p.control.length c6, .slice A7 p.emit.length c7], .agg #[.int .u8 12, .int .i64 (i : Int), .int .i64 (j : Int), s0, s1, s2, s3, s4, s5, s6, s7, s8, s9, s10, s11, s12, s13]] w fun r w' => r = .returned (.int .i64 (namesI p (-1) g.e)) ∧ Below w.heap.size w w' := by
 obtain ⟨wa, hwa, hsa, hba, hca, -⟩ := box1 w #[.slice A1 p.headers.length c1, .slice A2 p.metas.length c2, .slice A3 p.states.length c3, .slice A4 p.actions.length c4, .slice A5 p.tables.length c5, .slice A6 p.control.length c6, .slice A7 p.emit.length c7] 30
 obtain ⟨wb, hwb, hsb, hbb, hcb, -⟩ := box1 wa #[.int .u8 12, .int .i64 (i : Int), .int .i64 (j : Int), s0, s1, s2, s3, s4, s5, s6, s7, s8, s9, s10, s11, s12, s13] 77
 have hw := hba.trans (hbb.mono (by omega))
 have q : ∀ i, wb.cell? ⟨w.heap.size, i, none⟩ = wa.cell? ⟨w.heap.size, i, none⟩ := fun i => hbb.cell (p := ⟨w.heap.size, i, none⟩) (by show w.heap.size < _; omega)
 have hqz := fun i => (q i).trans (hca i)
 obtain ⟨z0, z1, z2, z3, z4, z5, z6⟩ := row7 (w := wb) (a := w.heap.size) fun i => hqz i
 simp only [hsa] at hcb
 obtain ⟨y0, y1, y2, y3, y4, y5, y6, y7, y8, y9, y10, y11, y12, y13, y14, y15, y16⟩ := row17 hcb
 have hl1 : w.heap.size < wb.heap.size := by omega
 have hl2 : w.heap.size + 1 < wb.heap.size := by omega
 have hz2 : w.heap.size + 2 ≤ wb.heap.size := by omega
 have hBb : B ≤ wb.heap.size := by omega
 have hP2 := hP.below (hw.mono hB)
 have hb0 : Below wb.heap.size wb wb := Below.refl _ _
 have hwC := hide hw
 replace hsb := hide hsb
 clear hP hqz q hbb hba hca hcb
 have lst := hP2.tables.len
 obtain ⟨b, o, ecs, hA, hb, hel, hcell, B1, d1, B2, d2, B3, d3, rfl, hn, hd, hF, hG, hH⟩ := hP2.tables.2 i _ hi
 subst hA
 obtain ⟨x0, x1, x2, x3, x4⟩ := srow5 hcell
 have hbw : b < wb.heap.size := by omega
 have hiz : (i : Int) < (p.tables.length : Int) := by have := (List.getElem?_eq_some_iff.1 hi).1; omega
 have hlf := hF.len
 obtain ⟨b', o', ecs', hA', hb', hel', hcell', es, rfl, hz, he⟩ := hF.2 j _ hj
 subst hA'
 have hN : ∀ d os, Hid (Calls Tryz.prog 76 #[.agg #[.slice A1 p.headers.length c1, .slice A2 p.metas.length c2, .slice A3 p.states.length c3, .slice A4 p.actions.length c4, .slice (some ⟨b, o, none⟩) p.tables.length c5, .slice A6 p.control.length c6, .slice A7 p.emit.length c7], .int .i64 (-1), .agg es.toArray] (Go.Sort.grow (redrawn wb d) os) _) := fun d os => hide (there07_any A1 A2 A3 A4 (some ⟨b, o, none⟩) A6 A7 p c1 c2 c3 c4 c5 c6 c7 (-1) B g.e es _ (hP2.grown hBb d os).1 (hP2.grown hBb d os).2 (sta_ex.keep he fun q hq => ((below_regrown wb d os).mono hBb).cell hq))
 obtain ⟨ge, gk⟩ := g
 obtain ⟨op, lit, head, name, hi0, lo, args⟩ := ge
 obtain ⟨Ae, ecap, rfl, -, -, -, -, -, -, hs⟩ := RE.inv he
 have le := hs.len
 obtain ⟨n0, n1, n2, n3, n4, n5, n6, n7, n8, n9⟩ := srow10 hcell'
 have hbw' : b' < wb.heap.size := by omega
 have hjz : (j : Int) < (f.keys.length : Int) := by have := (List.getElem?_eq_some_iff.1 hj).1; omega
 replace hN : ∀ d os, Hid (Calls Tryz.prog 76 #[.agg #[.slice A1 p.headers.length c1, .slice A2 p.metas.length c2, .slice A3 p.states.length c3, .slice A4 p.actions.length c4, .slice (some ⟨b, o, none⟩) p.tables.length c5, .slice A6 p.control.length c6, .slice A7 p.emit.length c7], .int .i64 (-1), .agg #[.int .u8 op, .int .i64 lit.1, .int .u64 lit.2.1, .int .u64 lit.2.2, .string head, .string name, .int .i64 hi0, .int .i64 lo, .slice Ae args.length ecap]] (Go.Sort.grow (redrawn wb d) os) _) := hN
 have hg := gcell' hb0 hb0.size
 show Calls _ _ _ _ fun r w' => r = .returned (.int .i64 (isI (!thereE p (-1) (.mk op lit head name hi0 lo args)) 7)) ∧ _
 change ∀ d os, Hid (Calls _ _ _ _ fun r w' => r = .returned (.bool (thereE p (-1) (.mk op lit head name hi0 lo args))) ∧ _) at hN
 generalize thereE p (-1) (.mk op lit head name hi0 lo args) = zz at hN ⊢
 replace hP2 := hide hP2
 clear hb0 hcell hcell' hi hj he hs
 cases zz <;> (
  go_enter Tryz.func24, Tryz.ntmps24
  go_wp2_with fail
  refine wp_region_quiet_below (by kernel_rfl) (by kernel_rfl) ?_
  repeat (any_goals (first | go_big_quiet_step (first | (go_at_call 76; with_reducible exact Calls.regrown_of (hN _ _).out) | fail) | quiet_step (first | (go_at_call 76; with_reducible exact Calls.regrown_of (hN _ _).out) | fail)))
  refine wpQuiet_nil ?_
  intro w1 hw1
  replace hw1 := below_of_regrown hw1
  go_wp2
  go_ret
  exact ⟨rfl, hwC.out.trans (hw1.mono (by omega))⟩)
theorem isI_dec {h : Int} : isI (!decide (0 ≤ h)) 7 = isI (decide (h < 0)) 7 := by rw [dec_lt]
theorem nextI_is (p : Pg) (s : Sa) : nextI p s = isI (!nextB p s) 7 := by
 unfold nextI nextB
 by_cases h : s.dest = strE
 ·rw [if_pos h, if_pos h]
 ·rw [if_neg h, if_neg h]; rfl
set_option maxRecDepth 100000 in
set_option maxHeartbeats 4000000 in
theorem one07_any (A1 A2 A3 A4 A5 A6 A7 : Option Addr) (p : Pg) (c1 c2 c3 c4 c5 c6 c7 : Nat) (B : Nat) (hm : mayP p = true) : ∀ x ∈ itemsP p, ∀ (cs : List Value) (w : World), B ≤ w.heap.size → PgS w B A1 A2 A3 A4 A5 A6 A7 p → rIt w B cs x →
  Calls Tryz.prog 24 #[.agg #[.slice A1 p.headers.length c1, .slice A2 p.metas.length c2, .slice A3 p.states.length c3, .slice A4 p.actions.length c4, .slice A5 p.tables.length c5, .slice A6 p.control.length c6, .slice A7 p.emit.length c7], .agg cs.toArray] w fun r w' => r = .returned (.int .i64 (checkI p x)) ∧ Below w.heap.size w w' := by
 have hh : ∀ (i : Nat) (f : Hd), p.headers[i]? = some f → hdB f = true := fun i f hi => by
  simp only [mayP, Bool.and_eq_true] at hm
  exact List.all_eq_true.1 hm.1.1.1.1.1.1.2 f (List.mem_of_getElem? hi)
 refine items_elim ?_ ?_ ?_ ?_ ?_ ?_ ?_ ?_ ?_ ?_ ?_ ?_ ?_ ?_ ?_
 ·rintro i f hi cs w hB hP ⟨scs, rfl, hs⟩
  obtain ⟨s0, s1, s2, s3, s4, s5, s6, s7, s8, s9, s10, s11, s12, s13, rfl⟩ := rSt_form hs
  refine (one07_decl A1 A2 A3 A4 A5 A6 A7 p c1 c2 c3 c4 c5 c6 c7 B 1 (by decide) (i : Int) 0 _ s0 s1 s2 s3 s4 s5 s6 s7 s8 s9 s10 s11 s12 s13 w hB fun W h1 h2 => decl07_header A1 A2 A3 A4 A5 A6 A7 p c1 c2 c3 c4 c5 c6 c7 B i f s0 s1 s2 s3 s4 s5 s6 s7 s8 s9 s10 s11 s12 s13 W h1 (hP.below (h2.mono hB)) (hh i f hi) hi).mono ?_
  rintro e w' ⟨rfl, hb⟩
  exact ⟨ret_int (by simp [checkI, hi]), hb⟩
 ·rintro i j f g hi hj cs w hB hP ⟨scs, rfl, hs⟩
  obtain ⟨s0, s1, s2, s3, s4, s5, s6, s7, s8, s9, s10, s11, s12, s13, rfl⟩ := rSt_form hs
  refine (one07_decl A1 A2 A3 A4 A5 A6 A7 p c1 c2 c3 c4 c5 c6 c7 B 2 (by decide) (i : Int) (j : Int) _ s0 s1 s2 s3 s4 s5 s6 s7 s8 s9 s10 s11 s12 s13 w hB fun W h1 h2 => decl07_field A1 A2 A3 A4 A5 A6 A7 p c1 c2 c3 c4 c5 c6 c7 B i j f g s0 s1 s2 s3 s4 s5 s6 s7 s8 s9 s10 s11 s12 s13 W h1 (hP.below (h2.mono hB)) hi hj).mono ?_
  rintro e w' ⟨rfl, hb⟩
  exact ⟨ret_int (by simp [checkI, hi, hj]), hb⟩
 ·rintro i f hi cs w hB hP ⟨scs, rfl, hs⟩
  obtain ⟨s0, s1, s2, s3, s4, s5, s6, s7, s8, s9, s10, s11, s12, s13, rfl⟩ := rSt_form hs
  refine (one07_decl A1 A2 A3 A4 A5 A6 A7 p c1 c2 c3 c4 c5 c6 c7 B 3 (by decide) (i : Int) 0 _ s0 s1 s2 s3 s4 s5 s6 s7 s8 s9 s10 s11 s12 s13 w hB fun W h1 h2 => decl07_meta A1 A2 A3 A4 A5 A6 A7 p c1 c2 c3 c4 c5 c6 c7 B i f s0 s1 s2 s3 s4 s5 s6 s7 s8 s9 s10 s11 s12 s13 W h1 (hP.below (h2.mono hB)) hi).mono ?_
  rintro e w' ⟨rfl, hb⟩
  exact ⟨ret_int (by simp [checkI, hi]), hb⟩
 ·rintro i f hi cs w hB hP ⟨scs, rfl, hs⟩
  obtain ⟨s0, s1, s2, s3, s4, s5, s6, s7, s8, s9, s10, s11, s12, s13, rfl⟩ := rSt_form hs
  refine (one07_decl A1 A2 A3 A4 A5 A6 A7 p c1 c2 c3 c4 c5 c6 c7 B 4 (by decide) (i : Int) 0 _ s0 s1 s2 s3 s4 s5 s6 s7 s8 s9 s10 s11 s12 s13 w hB fun W h1 h2 => decl07_state A1 A2 A3 A4 A5 A6 A7 p c1 c2 c3 c4 c5 c6 c7 B i f s0 s1 s2 s3 s4 s5 s6 s7 s8 s9 s10 s11 s12 s13 W h1 (hP.below (h2.mono hB)) hi).mono ?_
  rintro e w' ⟨rfl, hb⟩
  exact ⟨ret_int (by simp [checkI, hi]), hb⟩
 ·rintro i j f g hi hj cs w hB hP ⟨scs, rfl, hs⟩
  obtain ⟨s0, s1, s2, s3, s4, s5, s6, s7, s8, s9, s10, s11, s12, s13, rfl⟩ := rSt_form hs
  refine (one07_parsed5 A1 A2 A3 A4 A5 A6 A7 p c1 c2 c3 c4 c5 c6 c7 B 5 (by decide) (i : Int) (j : Int) _ s0 s1 s2 s3 s4 s5 s6 s7 s8 s9 s10 s11 s12 s13 w hB fun W h1 h2 => parsed07_take A1 A2 A3 A4 A5 A6 A7 p c1 c2 c3 c4 c5 c6 c7 B i f j g s0 s1 s2 s3 s4 s5 s6 s7 s8 s9 s10 s11 s12 s13 W h1 (hP.below (h2.mono hB)) hi hj).mono ?_
  rintro e w' ⟨rfl, hb⟩
  exact ⟨ret_int (by simp [checkI, hi, hj, isI_dec]), hb⟩
 ·rintro i f hi cs w hB hP ⟨scs, rfl, hs⟩
  obtain ⟨s0, s1, s2, s3, s4, s5, s6, s7, s8, s9, s10, s11, s12, s13, rfl⟩ := rSt_form hs
  refine (one07_parsed6 A1 A2 A3 A4 A5 A6 A7 p c1 c2 c3 c4 c5 c6 c7 B 6 (by decide) (i : Int) 0 _ s0 s1 s2 s3 s4 s5 s6 s7 s8 s9 s10 s11 s12 s13 w hB fun W h1 h2 => parsed07_next A1 A2 A3 A4 A5 A6 A7 p c1 c2 c3 c4 c5 c6 c7 B i f 0 s0 s1 s2 s3 s4 s5 s6 s7 s8 s9 s10 s11 s12 s13 W h1 (hP.below (h2.mono hB)) hi).mono ?_
  rintro e w' ⟨rfl, hb⟩
  exact ⟨ret_int (by simp [checkI, hi, nextI_is]), hb⟩
 ·rintro i j f g hi hj cs w hB hP ⟨scs, rfl, hs⟩
  obtain ⟨s0, s1, s2, s3, s4, s5, s6, s7, s8, s9, s10, s11, s12, s13, rfl⟩ := rSt_form hs
  refine (one07_parsed7 A1 A2 A3 A4 A5 A6 A7 p c1 c2 c3 c4 c5 c6 c7 B 7 (by decide) (i : Int) (j : Int) _ s0 s1 s2 s3 s4 s5 s6 s7 s8 s9 s10 s11 s12 s13 w hB fun W h1 h2 => parsed07_case A1 A2 A3 A4 A5 A6 A7 p c1 c2 c3 c4 c5 c6 c7 B i f j g s0 s1 s2 s3 s4 s5 s6 s7 s8 s9 s10 s11 s12 s13 W h1 (hP.below (h2.mono hB)) hi hj).mono ?_
  rintro e w' ⟨rfl, hb⟩
  exact ⟨ret_int (by simp [checkI, hi, hj, toI]), hb⟩
 ·rintro i f hi cs w hB hP ⟨scs, rfl, hs⟩
  obtain ⟨s0, s1, s2, s3, s4, s5, s6, s7, s8, s9, s10, s11, s12, s13, rfl⟩ := rSt_form hs
  refine (one07_decl A1 A2 A3 A4 A5 A6 A7 p c1 c2 c3 c4 c5 c6 c7 B 8 (by decide) (i : Int) 0 _ s0 s1 s2 s3 s4 s5 s6 s7 s8 s9 s10 s11 s12 s13 w hB fun W h1 h2 => decl07_action A1 A2 A3 A4 A5 A6 A7 p c1 c2 c3 c4 c5 c6 c7 B i f s0 s1 s2 s3 s4 s5 s6 s7 s8 s9 s10 s11 s12 s13 W h1 (hP.below (h2.mono hB)) hi).mono ?_
  rintro e w' ⟨rfl, hb⟩
  exact ⟨ret_int (by simp [checkI, hi]), hb⟩
 ·rintro i j f g hi hj cs w hB hP ⟨scs, rfl, hs⟩
  obtain ⟨s0, s1, s2, s3, s4, s5, s6, s7, s8, s9, s10, s11, s12, s13, rfl⟩ := rSt_form hs
  refine (one07_decl A1 A2 A3 A4 A5 A6 A7 p c1 c2 c3 c4 c5 c6 c7 B 9 (by decide) (i : Int) (j : Int) _ s0 s1 s2 s3 s4 s5 s6 s7 s8 s9 s10 s11 s12 s13 w hB fun W h1 h2 => decl07_param A1 A2 A3 A4 A5 A6 A7 p c1 c2 c3 c4 c5 c6 c7 B i j f g s0 s1 s2 s3 s4 s5 s6 s7 s8 s9 s10 s11 s12 s13 W h1 (hP.below (h2.mono hB)) hi hj).mono ?_
  rintro e w' ⟨rfl, hb⟩
  exact ⟨ret_int (by simp [checkI, hi, hj]), hb⟩
 ·rintro a st cs w hB hP ⟨scs, rfl, hs⟩
  obtain ⟨s0, s1, s2, s3, s4, s5, s6, s7, s8, s9, s10, s11, s12, s13, rfl⟩ := rSt_form hs
  refine (one07_stmt A1 A2 A3 A4 A5 A6 A7 p c1 c2 c3 c4 c5 c6 c7 B a st s0 s1 s2 s3 s4 s5 s6 s7 s8 s9 s10 s11 s12 s13 w hB hP hs).mono ?_
  rintro e w' ⟨rfl, hb⟩
  exact ⟨ret_int (by simp [checkI]), hb⟩
 ·rintro i f hi cs w hB hP ⟨scs, rfl, hs⟩
  obtain ⟨s0, s1, s2, s3, s4, s5, s6, s7, s8, s9, s10, s11, s12, s13, rfl⟩ := rSt_form hs
  refine (one07_decl A1 A2 A3 A4 A5 A6 A7 p c1 c2 c3 c4 c5 c6 c7 B 11 (by decide) (i : Int) 0 _ s0 s1 s2 s3 s4 s5 s6 s7 s8 s9 s10 s11 s12 s13 w hB fun W h1 h2 => decl07_table A1 A2 A3 A4 A5 A6 A7 p c1 c2 c3 c4 c5 c6 c7 B i f s0 s1 s2 s3 s4 s5 s6 s7 s8 s9 s10 s11 s12 s13 W h1 (hP.below (h2.mono hB)) hi).mono ?_
  rintro e w' ⟨rfl, hb⟩
  exact ⟨ret_int (by simp [checkI, hi]), hb⟩
 ·rintro i j f g hi hj cs w hB hP ⟨scs, rfl, hs⟩
  obtain ⟨s0, s1, s2, s3, s4, s5, s6, s7, s8, s9, s10, s11, s12, s13, rfl⟩ := rSt_form hs
  refine (one07_key A1 A2 A3 A4 A5 A6 A7 p c1 c2 c3 c4 c5 c6 c7 B i j f g s0 s1 s2 s3 s4 s5 s6 s7 s8 s9 s10 s11 s12 s13 w hB hP hi hj).mono ?_
  rintro e w' ⟨rfl, hb⟩
  exact ⟨ret_int (by simp [checkI, hi, hj]), hb⟩
 ·rintro i j f g hi hj cs w hB hP ⟨scs, rfl, hs⟩
  obtain ⟨s0, s1, s2, s3, s4, s5, s6, s7, s8, s9, s10, s11, s12, s13, rfl⟩ := rSt_form hs
  refine (one07_listed13 A1 A2 A3 A4 A5 A6 A7 p c1 c2 c3 c4 c5 c6 c7 B 13 (by decide) (i : Int) (j : Int) _ s0 s1 s2 s3 s4 s5 s6 s7 s8 s9 s10 s11 s12 s13 w hB fun W h1 h2 => listed07_listed A1 A2 A3 A4 A5 A6 A7 p c1 c2 c3 c4 c5 c6 c7 B i j f g s0 s1 s2 s3 s4 s5 s6 s7 s8 s9 s10 s11 s12 s13 W h1 (hP.below (h2.mono hB)) hi hj).mono ?_
  rintro e w' ⟨rfl, hb⟩
  exact ⟨ret_int (by simp [checkI, hi, hj]), hb⟩
 ·rintro i f hi cs w hB hP ⟨scs, rfl, hs⟩
  obtain ⟨s0, s1, s2, s3, s4, s5, s6, s7, s8, s9, s10, s11, s12, s13, rfl⟩ := rSt_form hs
  refine (one07_listed14 A1 A2 A3 A4 A5 A6 A7 p c1 c2 c3 c4 c5 c6 c7 B 14 (by decide) (i : Int) 0 _ s0 s1 s2 s3 s4 s5 s6 s7 s8 s9 s10 s11 s12 s13 w hB fun W h1 h2 => listed07_default A1 A2 A3 A4 A5 A6 A7 p c1 c2 c3 c4 c5 c6 c7 B i f s0 s1 s2 s3 s4 s5 s6 s7 s8 s9 s10 s11 s12 s13 W h1 (hP.below (h2.mono hB)) hi).mono ?_
  rintro e w' ⟨rfl, hb⟩
  exact ⟨ret_int (by simp [checkI, hi]), hb⟩
 ·rintro i f hi cs w hB hP ⟨scs, rfl, hs⟩
  obtain ⟨s0, s1, s2, s3, s4, s5, s6, s7, s8, s9, s10, s11, s12, s13, rfl⟩ := rSt_form hs
  refine (one07_listed15 A1 A2 A3 A4 A5 A6 A7 p c1 c2 c3 c4 c5 c6 c7 B 15 (by decide) (i : Int) 0 _ s0 s1 s2 s3 s4 s5 s6 s7 s8 s9 s10 s11 s12 s13 w hB fun W h1 h2 => listed07_emit A1 A2 A3 A4 A5 A6 A7 p c1 c2 c3 c4 c5 c6 c7 B i f s0 s1 s2 s3 s4 s5 s6 s7 s8 s9 s10 s11 s12 s13 W h1 (hP.below (h2.mono hB)) hi).mono ?_
  rintro e w' ⟨rfl, hb⟩
  exact ⟨ret_int (by simp [checkI, hi]), hb⟩
end Go.Proofs.YtcgmkjpgaigmfaaGreat

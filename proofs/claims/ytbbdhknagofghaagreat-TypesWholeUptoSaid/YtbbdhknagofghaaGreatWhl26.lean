import Derived.Test.YtbbdhknagofghaaGreatWhl25
set_option linter.all false
/-! Printed by gen_typk.py. Layer 8: stmt. -/
namespace Go.Proofs.YtbbdhknagofghaaGreat
open Go.RowKit
set_option maxRecDepth 100000 in
set_option maxHeartbeats 8000000 in
theorem tst_meta (A1 A2 A3 A4 A5 A6 A7 : Option Addr) (p : Pg) (c1 c2 c3 c4 c5 c6 c7 : Nat) (act : Int) (B : Nat) (hm : mayP p = true) (head name : ByteArray) (e : Ex) (thn els : List St) (n : Nat) (h1 : 1 ≤ n) (h2 : n ≤ 128) (k : Nat) (hk : k < p.metas.length) (hkz : metaI p name = (k : Int)) (hn : p.metas[k].2 = (n : Int)) (hh : head = strE) (he : allE e = true) (cs : List Value) (w : World) (hB : B ≤ w.heap.size) (hP : PgS w B A1 A2 A3 A4 A5 A6 A7 p) (h : rSt w B cs (.mk 1 head name e thn els)) :
  Calls Tryz.prog 37 #[.agg #[.slice A1 p.headers.length c1, .slice A2 p.metas.length c2, .slice A3 p.states.length c3, .slice A4 p.actions.length c4, .slice A5 p.tables.length c5, .slice A6 p.control.length c6, .slice A7 p.emit.length c7, .int .i64 act], .agg cs.toArray] w fun z7 w' => z7 = endU (goesR p act e n) ∧ Below w.heap.size w w' := by
 obtain ⟨es, A, cap, A', cap', rfl, -, -, -, hE, hT, hL⟩ := RS.inv h
 have l1 := hT.len
 have l2 := hL.len
 have hG0 := hide (fun (W : World) (hb : Below w.heap.size w W) => tgoes_any A1 A2 A3 A4 A5 A6 A7 p c1 c2 c3 c4 c5 c6 c7 act B hm e he n h1 h2 es W (Nat.le_trans hB hb.size) (hP.below (hb.mono hB)) (sta_ex.keep hE fun q hq => (hb.mono hB).cell hq))
 generalize goesR p act e n = r at hG0 ⊢
 obtain ⟨op, lit, ehead, ename, hi, lo, args⟩ := e
 obtain ⟨Ae, ecap, rfl, -, -, -, -, -, -, hs⟩ := RE.inv hE
 have l3 := hs.len
 clear hs h hT hL he hE
 show Calls _ _ #[.agg #[.slice A1 p.headers.length c1, .slice A2 p.metas.length c2, .slice A3 p.states.length c3, .slice A4 p.actions.length c4, .slice A5 p.tables.length c5, .slice A6 p.control.length c6, .slice A7 p.emit.length c7, .int .i64 act], .agg #[.int .u8 1, .string head, .string name, .int .u8 op, .int .i64 lit.1, .int .u64 lit.2.1, .int .u64 lit.2.2, .string ehead, .string ename, .int .i64 hi, .int .i64 lo, .slice Ae args.length ecap, .slice A thn.length cap, .slice A' els.length cap']] _ _
 obtain ⟨wv, hwv, hsv, hbv, hcv, hfv⟩ := box1 w #[.slice A1 p.headers.length c1, .slice A2 p.metas.length c2, .slice A3 p.states.length c3, .slice A4 p.actions.length c4, .slice A5 p.tables.length c5, .slice A6 p.control.length c6, .slice A7 p.emit.length c7, .int .i64 act] 88
 obtain ⟨wz, hwz, hsz, hbz, hcz, hfz⟩ := box1 wv #[.int .u8 1, .string head, .string name, .int .u8 op, .int .i64 lit.1, .int .u64 lit.2.1, .int .u64 lit.2.2, .string ehead, .string ename, .int .i64 hi, .int .i64 lo, .slice Ae args.length ecap, .slice A thn.length cap, .slice A' els.length cap'] 47
 have hEz : Below wz.heap.size wz wz := Below.refl _ _
 have hEv : Below wv.heap.size wv wz := hbz.trans (hEz.mono (by omega))
 have hw := hide (hbv.trans (hEv.mono (by omega)))
 have cv := fun i => (hEv.cell (p := ⟨w.heap.size, i, none⟩) (by show w.heap.size < _; omega)).trans (hcv i)
 have cz := fun i => (hEz.cell (p := ⟨wv.heap.size, i, none⟩) (by show wv.heap.size < _; omega)).trans (hcz i)
 have hfr := hfz
 simp only [hsv] at cz hfr
 obtain ⟨v0, v1, v2, v3, v4, v5, v6, v7⟩ := row8 cv
 obtain ⟨z0, z1, z2, z3, z4, z5, z6, z7, z8, z9, z10, z11, z12, z13⟩ := row14 cz
 have hl1 : w.heap.size < wz.heap.size := by omega
 have hl2 : w.heap.size + 1 < wz.heap.size := by omega
 clear cv hcv hbv hfv cz hcz hbz hfz hEv hEz
 replace hsz := hide hsz
 have hG : Hid (∀ W, Below wz.heap.size wz W → Calls Tryz.prog 96 #[.agg #[.slice A1 p.headers.length c1, .slice A2 p.metas.length c2, .slice A3 p.states.length c3, .slice A4 p.actions.length c4, .slice A5 p.tables.length c5, .slice A6 p.control.length c6, .slice A7 p.emit.length c7, .int .i64 act], .agg #[.int .u8 op, .int .i64 lit.1, .int .u64 lit.2.1, .int .u64 lit.2.2, .string ehead, .string ename, .int .i64 hi, .int .i64 lo, .slice Ae args.length ecap], .int .i64 (n : Int)] W fun e w' => e = endU r ∧ Below W.heap.size W w') := hide (fun W hb => hG0.out W (hw.out.trans (hb.mono (by omega))))
 clear hG0
 have hBz : B ≤ wz.heap.size := by omega
 have hPz := hide (hP.below (hw.out.mono hB))
 clear hP
 have q1 : (head.toList == []) = true := by rw [emp_iff.1 hh]; rfl
 have q2 : head.toList.isEmpty = true := by rw [emp_iff.1 hh]; rfl
 have q3 : head.toList = [] := emp_iff.1 hh
 have hFl : ∀ d os, Hid (Calls Tryz.prog 85 #[.agg #[.slice A1 p.headers.length c1, .slice A2 p.metas.length c2, .slice A3 p.states.length c3, .slice A4 p.actions.length c4, .slice A5 p.tables.length c5, .slice A6 p.control.length c6, .slice A7 p.emit.length c7], .string name] (Go.Sort.grow (redrawn wz d) os) _) := fun d os => hide (meta_any _ A1 A2 A3 A4 A5 A6 A7 p c1 c2 c3 c4 c5 c6 c7 name (Nat.le_trans hBz (gsize wz d os)) (hPz.out.below ((below_regrown wz d os).mono hBz)))
 rw [hkz] at hFl
 obtain ⟨b, o, ecs, hA, hb, hel, hcell, hf, -, -⟩ := hPz.out.metas.2 k _ (List.getElem?_eq_getElem hk)
 subst hA
 subst hf
 have lm := hPz.out.metas.len
 have x1 : wz.cell? ⟨b, o + k * 2 + 1, none⟩ = some (.int .i64 n) := by rw [← hn]; exact hcell 1 _ rfl
 have hbw : b < wz.heap.size := by omega
 have hkz' : (k : Int) < (p.metas.length : Int) := by omega
 clear hcell hPz hn hkz hh hel
 have hb0 : Below wz.heap.size wz wz := Below.refl _ _
 have hg := gcell' hb0 hb0.size
 go_enter Tryz.func37, Tryz.ntmps37
 go_wp2_with fail
 refine wp_region_quiet_tail 14 (by kernel_rfl) (by kernel_rfl) ?_
 simp only [List.take_succ_cons, List.take_zero, List.drop_succ_cons, List.drop_zero]
 repeat (any_goals (first | go_big_quiet_step (first | (go_at_call 85; with_reducible exact Calls.regrown_of (hFl _ _).out)) | quiet_step (first | (go_at_call 85; with_reducible exact Calls.regrown_of (hFl _ _).out))))
 refine wpQuiet_nil ?_
 intro w2 hw2
 clear hg hFl
 have hG2 := hide (hG.out w2 hw2)
 clear hG
 cases r with
 | error n7 =>
  replace hG2 := hide (show Calls Tryz.prog _ _ w2 fun e w' => e = noE n7 ∧ Below w2.heap.size w2 w' from hG2.out)
  go_wp2_with (go_at_call 96; refine hG2.out.mono ?_; rintro e w3 ⟨rfl, hb3⟩)
  exact ⟨rfl, rfl, hw.out.trans ((hw2.trans (hb3.mono hw2.size)).mono (by omega))⟩
 | ok u =>
  replace hG2 := hide (show Calls Tryz.prog _ _ w2 fun e w' => e = .returned (.tuple #[]) ∧ Below w2.heap.size w2 w' from hG2.out)
  go_wp2_with (go_at_call 96; refine hG2.out.mono ?_; rintro e w3 ⟨rfl, hb3⟩)
  first
   | (go_end0; exact ⟨rfl, hw.out.trans ((hw2.trans (hb3.mono hw2.size)).mono (by omega))⟩)
   | ((try simp only [Exit.inBlock, Exit.then]); refine bodyPost_ret (results_none rfl _ _ _) rfl ?_; exact ⟨rfl, hw.out.trans ((hw2.trans (hb3.mono hw2.size)).mono (by omega))⟩)
set_option maxRecDepth 100000 in
set_option maxHeartbeats 8000000 in
theorem tst_field (A1 A2 A3 A4 A5 A6 A7 : Option Addr) (p : Pg) (c1 c2 c3 c4 c5 c6 c7 : Nat) (act : Int) (B : Nat) (hm : mayP p = true) (head name : ByteArray) (e : Ex) (thn els : List St) (n : Nat) (h1 : 1 ≤ n) (h2 : n ≤ 128) (k : Nat) (hk : k < p.headers.length) (hkz : headerI p head = (k : Int)) (j : Nat) (hj : j < p.headers[k].fields.length) (hjz : fieldI p (k : Int) name = (j : Int)) (hn : p.headers[k].fields[j].2 = (n : Int)) (hh : ¬ head = strE) (he : allE e = true) (cs : List Value) (w : World) (hB : B ≤ w.heap.size) (hP : PgS w B A1 A2 A3 A4 A5 A6 A7 p) (h : rSt w B cs (.mk 1 head name e thn els)) :
  Calls Tryz.prog 37 #[.agg #[.slice A1 p.headers.length c1, .slice A2 p.metas.length c2, .slice A3 p.states.length c3, .slice A4 p.actions.length c4, .slice A5 p.tables.length c5, .slice A6 p.control.length c6, .slice A7 p.emit.length c7, .int .i64 act], .agg cs.toArray] w fun z7 w' => z7 = endU (goesR p act e n) ∧ Below w.heap.size w w' := by
 obtain ⟨es, A, cap, A', cap', rfl, -, -, -, hE, hT, hL⟩ := RS.inv h
 have l1 := hT.len
 have l2 := hL.len
 have hG0 := hide (fun (W : World) (hb : Below w.heap.size w W) => tgoes_any A1 A2 A3 A4 A5 A6 A7 p c1 c2 c3 c4 c5 c6 c7 act B hm e he n h1 h2 es W (Nat.le_trans hB hb.size) (hP.below (hb.mono hB)) (sta_ex.keep hE fun q hq => (hb.mono hB).cell hq))
 generalize goesR p act e n = r at hG0 ⊢
 obtain ⟨op, lit, ehead, ename, hi, lo, args⟩ := e
 obtain ⟨Ae, ecap, rfl, -, -, -, -, -, -, hs⟩ := RE.inv hE
 have l3 := hs.len
 clear hs h hT hL he hE
 show Calls _ _ #[.agg #[.slice A1 p.headers.length c1, .slice A2 p.metas.length c2, .slice A3 p.states.length c3, .slice A4 p.actions.length c4, .slice A5 p.tables.length c5, .slice A6 p.control.length c6, .slice A7 p.emit.length c7, .int .i64 act], .agg #[.int .u8 1, .string head, .string name, .int .u8 op, .int .i64 lit.1, .int .u64 lit.2.1, .int .u64 lit.2.2, .string ehead, .string ename, .int .i64 hi, .int .i64 lo, .slice Ae args.length ecap, .slice A thn.length cap, .slice A' els.length cap']] _ _
 obtain ⟨wv, hwv, hsv, hbv, hcv, hfv⟩ := box1 w #[.slice A1 p.headers.length c1, .slice A2 p.metas.length c2, .slice A3 p.states.length c3, .slice A4 p.actions.length c4, .slice A5 p.tables.length c5, .slice A6 p.control.length c6, .slice A7 p.emit.length c7, .int .i64 act] 88
 obtain ⟨wz, hwz, hsz, hbz, hcz, hfz⟩ := box1 wv #[.int .u8 1, .string head, .string name, .int .u8 op, .int .i64 lit.1, .int .u64 lit.2.1, .int .u64 lit.2.2, .string ehead, .string ename, .int .i64 hi, .int .i64 lo, .slice Ae args.length ecap, .slice A thn.length cap, .slice A' els.length cap'] 47
 have hEz : Below wz.heap.size wz wz := Below.refl _ _
 have hEv : Below wv.heap.size wv wz := hbz.trans (hEz.mono (by omega))
 have hw := hide (hbv.trans (hEv.mono (by omega)))
 have cv := fun i => (hEv.cell (p := ⟨w.heap.size, i, none⟩) (by show w.heap.size < _; omega)).trans (hcv i)
 have cz := fun i => (hEz.cell (p := ⟨wv.heap.size, i, none⟩) (by show wv.heap.size < _; omega)).trans (hcz i)
 have hfr := hfz
 simp only [hsv] at cz hfr
 obtain ⟨v0, v1, v2, v3, v4, v5, v6, v7⟩ := row8 cv
 obtain ⟨z0, z1, z2, z3, z4, z5, z6, z7, z8, z9, z10, z11, z12, z13⟩ := row14 cz
 have hl1 : w.heap.size < wz.heap.size := by omega
 have hl2 : w.heap.size + 1 < wz.heap.size := by omega
 clear cv hcv hbv hfv cz hcz hbz hfz hEv hEz
 replace hsz := hide hsz
 have hG : Hid (∀ W, Below wz.heap.size wz W → Calls Tryz.prog 96 #[.agg #[.slice A1 p.headers.length c1, .slice A2 p.metas.length c2, .slice A3 p.states.length c3, .slice A4 p.actions.length c4, .slice A5 p.tables.length c5, .slice A6 p.control.length c6, .slice A7 p.emit.length c7, .int .i64 act], .agg #[.int .u8 op, .int .i64 lit.1, .int .u64 lit.2.1, .int .u64 lit.2.2, .string ehead, .string ename, .int .i64 hi, .int .i64 lo, .slice Ae args.length ecap], .int .i64 (n : Int)] W fun e w' => e = endU r ∧ Below W.heap.size W w') := hide (fun W hb => hG0.out W (hw.out.trans (hb.mono (by omega))))
 clear hG0
 have hBz : B ≤ wz.heap.size := by omega
 have hPz := hide (hP.below (hw.out.mono hB))
 clear hP
 have q1 : (head.toList == []) = false := by rw [beq_eq_false_iff_ne]; exact fun h => hh (emp_iff.2 h)
 have q2 : head.toList.isEmpty = false := by rw [List.isEmpty_eq_false_iff]; exact fun h => hh (emp_iff.2 h)
 have q3 : ¬ head.toList = [] := fun h => hh (emp_iff.2 h)
 have hH := hide (header_any wz A1 A2 A3 A4 A5 A6 A7 p c1 c2 c3 c4 c5 c6 c7 head hBz hPz.out)
 have hFl : ∀ W, Below wz.heap.size wz W → ∀ d os, Hid (Calls Tryz.prog 84 #[.agg #[.slice A1 p.headers.length c1, .slice A2 p.metas.length c2, .slice A3 p.states.length c3, .slice A4 p.actions.length c4, .slice A5 p.tables.length c5, .slice A6 p.control.length c6, .slice A7 p.emit.length c7], .int .i64 (k : Int), .string name] (Go.Sort.grow (redrawn W d) os) _) := fun W hb d os => hide (field_any _ A1 A2 A3 A4 A5 A6 A7 p c1 c2 c3 c4 c5 c6 c7 (k : Int) name (Nat.le_trans hBz (Nat.le_trans hb.size (gsize W d os))) (hPz.out.below ((below_grow hb hb.size d os).mono hBz)))
 rw [hjz] at hFl
 rw [hkz] at hH
 obtain ⟨b, o, ecs, hA, hb, hel, hcell, A2', c2', hf, hnm, hS⟩ := hPz.out.headers.2 k _ (List.getElem?_eq_getElem hk)
 subst hA
 subst hf
 have x0 : wz.cell? ⟨b, o + k * 2, none⟩ = some (.string p.headers[k].name) := by simpa using hcell 0 _ rfl
 have x1 : wz.cell? ⟨b, o + k * 2 + 1, none⟩ = some (.slice A2' p.headers[k].fields.length c2') := hcell 1 _ rfl
 obtain ⟨b2, o2, ecs2, hA2, hb2', hel2, hcell2, hf2, -, -⟩ := hS.2 j _ (List.getElem?_eq_getElem hj)
 subst hA2
 subst hf2
 have y1 : wz.cell? ⟨b2, o2 + j * 2 + 1, none⟩ = some (.int .i64 n) := by rw [← hn]; exact hcell2 1 _ rfl
 have lm := hPz.out.headers.len
 have lf := hS.len
 have hbw : b < wz.heap.size := by omega
 have hbw2 : b2 < wz.heap.size := by omega
 have hkl : (k : Int) < (p.headers.length : Int) := by omega
 have hjl : (j : Int) < (p.headers[k].fields.length : Int) := by omega
 clear hcell hcell2 hPz hn hkz hjz hh hel hel2 hS
 generalize p.headers[k].fields.length = nf at *
 generalize p.headers[k].name = nh at *
 replace hFl := hide hFl
 go_enter Tryz.func37, Tryz.ntmps37
 go_wp2_with (go_at_call 83; refine hH.out.mono ?_; rintro e w1 ⟨rfl, hb1⟩; have kb1 := bcell' hb1; have qb1 := Nat.lt_of_lt_of_le hl1 hb1.size; have qb2 := Nat.lt_of_lt_of_le hl2 hb1.size)
 have hF1 := hFl.out w1 hb1
 have hg := gcell' hb1 hb1.size
 refine wp_region_quiet_tail 19 (by kernel_rfl) (by kernel_rfl) ?_
 simp only [List.take_succ_cons, List.take_zero, List.drop_succ_cons, List.drop_zero]
 repeat (any_goals (first | go_big_quiet_step (first | (go_at_call 84; with_reducible exact Calls.regrown_of (hF1 _ _).out)) | quiet_step (first | (go_at_call 84; with_reducible exact Calls.regrown_of (hF1 _ _).out))))
 refine wpQuiet_nil ?_
 intro w2 hw2
 have hb2 := hb1.trans (hw2.mono hb1.size)
 clear hg hF1 hFl
 have hG2 := hide (hG.out w2 hb2)
 clear hG
 cases r with
 | error n7 =>
  replace hG2 := hide (show Calls Tryz.prog _ _ w2 fun e w' => e = noE n7 ∧ Below w2.heap.size w2 w' from hG2.out)
  go_wp2_with (go_at_call 96; refine hG2.out.mono ?_; rintro e w3 ⟨rfl, hb3⟩)
  exact ⟨rfl, rfl, hw.out.trans ((hb2.trans (hb3.mono hb2.size)).mono (by omega))⟩
 | ok u =>
  replace hG2 := hide (show Calls Tryz.prog _ _ w2 fun e w' => e = .returned (.tuple #[]) ∧ Below w2.heap.size w2 w' from hG2.out)
  go_wp2_with (go_at_call 96; refine hG2.out.mono ?_; rintro e w3 ⟨rfl, hb3⟩)
  first
   | (go_end0; exact ⟨rfl, hw.out.trans ((hb2.trans (hb3.mono hb2.size)).mono (by omega))⟩)
   | ((try simp only [Exit.inBlock, Exit.then]); refine bodyPost_ret (results_none rfl _ _ _) rfl ?_; exact ⟨rfl, hw.out.trans ((hb2.trans (hb3.mono hb2.size)).mono (by omega))⟩)
def ifR : Rs Ty → Rs Unit
 | .error n => .error n
 | .ok t => if t.truth then .ok () else .error 9
def fwdR (fe : Bool) : Rs Ty → Rs Unit
 | .error n => .error n
 | .ok t => if t.truth then .error 9 else if t.free then (if fe then .ok () else .error 5) else .ok ()
set_option maxRecDepth 100000 in
set_option maxHeartbeats 8000000 in
theorem tst_if (A1 A2 A3 A4 A5 A6 A7 : Option Addr) (p : Pg) (c1 c2 c3 c4 c5 c6 c7 : Nat) (act : Int) (B : Nat) (hm : mayP p = true) (head name : ByteArray) (e : Ex) (thn els : List St) (r : Rs Unit) (hrr : ifR (ofR p act e) = r) (he : allE e = true) (cs : List Value) (w : World) (hB : B ≤ w.heap.size) (hP : PgS w B A1 A2 A3 A4 A5 A6 A7 p) (h : rSt w B cs (.mk 2 head name e thn els)) :
  Calls Tryz.prog 37 #[.agg #[.slice A1 p.headers.length c1, .slice A2 p.metas.length c2, .slice A3 p.states.length c3, .slice A4 p.actions.length c4, .slice A5 p.tables.length c5, .slice A6 p.control.length c6, .slice A7 p.emit.length c7, .int .i64 act], .agg cs.toArray] w fun z7 w' => z7 = endU (r) ∧ Below w.heap.size w w' := by
 obtain ⟨es, A, cap, A', cap', rfl, -, -, -, hE, hT, hL⟩ := RS.inv h
 have l1 := hT.len
 have l2 := hL.len
 have hX0 := hide (fun (W : World) (hb : Below w.heap.size w W) => tof_any A1 A2 A3 A4 A5 A6 A7 p c1 c2 c3 c4 c5 c6 c7 act B hm e he es W (Nat.le_trans hB hb.size) (hP.below (hb.mono hB)) (sta_ex.keep hE fun q hq => (hb.mono hB).cell hq))
 generalize ofR p act e = ra at hX0 hrr
 obtain ⟨op, lit, ehead, ename, hi, lo, args⟩ := e
 obtain ⟨Ae, ecap, rfl, -, -, -, -, -, -, hs⟩ := RE.inv hE
 have l3 := hs.len
 clear hs h hT hL he hE
 show Calls _ _ #[.agg #[.slice A1 p.headers.length c1, .slice A2 p.metas.length c2, .slice A3 p.states.length c3, .slice A4 p.actions.length c4, .slice A5 p.tables.length c5, .slice A6 p.control.length c6, .slice A7 p.emit.length c7, .int .i64 act], .agg #[.int .u8 2, .string head, .string name, .int .u8 op, .int .i64 lit.1, .int .u64 lit.2.1, .int .u64 lit.2.2, .string ehead, .string ename, .int .i64 hi, .int .i64 lo, .slice Ae args.length ecap, .slice A thn.length cap, .slice A' els.length cap']] _ _
 obtain ⟨wv, hwv, hsv, hbv, hcv, hfv⟩ := box1 w #[.slice A1 p.headers.length c1, .slice A2 p.metas.length c2, .slice A3 p.states.length c3, .slice A4 p.actions.length c4, .slice A5 p.tables.length c5, .slice A6 p.control.length c6, .slice A7 p.emit.length c7, .int .i64 act] 88
 obtain ⟨wz, hwz, hsz, hbz, hcz, hfz⟩ := box1 wv #[.int .u8 2, .string head, .string name, .int .u8 op, .int .i64 lit.1, .int .u64 lit.2.1, .int .u64 lit.2.2, .string ehead, .string ename, .int .i64 hi, .int .i64 lo, .slice Ae args.length ecap, .slice A thn.length cap, .slice A' els.length cap'] 47
 have hEz : Below wz.heap.size wz wz := Below.refl _ _
 have hEv : Below wv.heap.size wv wz := hbz.trans (hEz.mono (by omega))
 have hw := hide (hbv.trans (hEv.mono (by omega)))
 have cv := fun i => (hEv.cell (p := ⟨w.heap.size, i, none⟩) (by show w.heap.size < _; omega)).trans (hcv i)
 have cz := fun i => (hEz.cell (p := ⟨wv.heap.size, i, none⟩) (by show wv.heap.size < _; omega)).trans (hcz i)
 have hfr := hfz
 simp only [hsv] at cz hfr
 obtain ⟨v0, v1, v2, v3, v4, v5, v6, v7⟩ := row8 cv
 obtain ⟨z0, z1, z2, z3, z4, z5, z6, z7, z8, z9, z10, z11, z12, z13⟩ := row14 cz
 have hl1 : w.heap.size < wz.heap.size := by omega
 have hl2 : w.heap.size + 1 < wz.heap.size := by omega
 clear cv hcv hbv hfv cz hcz hbz hfz hEv hEz
 replace hsz := hide hsz
 have hX := hide (show Calls Tryz.prog 29 #[.agg #[.slice A1 p.headers.length c1, .slice A2 p.metas.length c2, .slice A3 p.states.length c3, .slice A4 p.actions.length c4, .slice A5 p.tables.length c5, .slice A6 p.control.length c6, .slice A7 p.emit.length c7, .int .i64 act], .agg #[.int .u8 op, .int .i64 lit.1, .int .u64 lit.2.1, .int .u64 lit.2.2, .string ehead, .string ename, .int .i64 hi, .int .i64 lo, .slice Ae args.length ecap]] wz _ from hX0.out wz hw.out)
 clear hX0
 have hBz : B ≤ wz.heap.size := by omega
 have hPz := hide (hP.below (hw.out.mono hB))
 clear hP
 cases ra with
 | error n7 =>
  replace hX := hide (show Calls Tryz.prog _ _ wz fun e w' => e = noE n7 ∧ Below wz.heap.size wz w' from hX.out)
  go_enter Tryz.func37, Tryz.ntmps37
  go_wp2_with (go_at_call 29; refine hX.out.mono ?_; rintro e w3 ⟨rfl, hb3⟩)
  exact ⟨rfl, by rw [← hrr]; rfl, hw.out.trans (hb3.mono (by omega))⟩
 | ok t =>
  obtain ⟨tw, tr, tf⟩ := t
  replace hX := hide (show Calls Tryz.prog _ _ wz fun e w' => e = .returned (.agg #[.int .i64 tw, .bool tr, .bool tf]) ∧ Below wz.heap.size wz w' from hX.out)
  replace hrr := hide hrr
  have hfs : ∀ W : World, (Instr.field 75 (.agg #[.int .i64 tw, .bool tr, .bool tf]) 1).run Tryz.prog W = .ok (.bool tr) W := fun _ => by kernel_rfl
  clear hPz
  cases tr with
  | true =>
   go_enter Tryz.func37, Tryz.ntmps37
   go_wp2_with (first | (go_at_call 27; with_reducible refine (ask_yes _ _).mono ?_; rintro e w' ⟨rfl, rfl⟩) | (go_at_call 29; refine hX.out.mono ?_; rintro e w3 ⟨rfl, hb3⟩; have kb3 := bcell' hb3; have q3 := Nat.lt_of_lt_of_le hl1 hb3.size; have q4 := Nat.lt_of_lt_of_le hl2 hb3.size))
   (try simp only [Exit.inBlock, Exit.then])
   refine bodyPost_end (results_none rfl _ _ _) rfl ?_
   exact ⟨by rw [← hrr.out]; rfl, hw.out.trans ((hb3).mono (by omega))⟩
  | false =>
   go_enter Tryz.func37, Tryz.ntmps37
   go_wp2_with (first | (go_at_call 27; with_reducible refine (ask_no _ _).mono ?_; rintro e w' ⟨rfl, rfl⟩) | (go_at_call 29; refine hX.out.mono ?_; rintro e w3 ⟨rfl, hb3⟩; have kb3 := bcell' hb3; have q3 := Nat.lt_of_lt_of_le hl1 hb3.size; have q4 := Nat.lt_of_lt_of_le hl2 hb3.size))
   exact ⟨rfl, by rw [← hrr.out]; rfl, hw.out.trans ((hb3).mono (by omega))⟩
set_option maxRecDepth 100000 in
set_option maxHeartbeats 8000000 in
theorem tst_fwd (A1 A2 A3 A4 A5 A6 A7 : Option Addr) (p : Pg) (c1 c2 c3 c4 c5 c6 c7 : Nat) (act : Int) (B : Nat) (hm : mayP p = true) (head name : ByteArray) (e : Ex) (thn els : List St) (r : Rs Unit) (hrr : fwdR (fitsE ((9 : Nat) : Int) e) (ofR p act e) = r) (he : allE e = true) (cs : List Value) (w : World) (hB : B ≤ w.heap.size) (hP : PgS w B A1 A2 A3 A4 A5 A6 A7 p) (h : rSt w B cs (.mk 5 head name e thn els)) :
  Calls Tryz.prog 37 #[.agg #[.slice A1 p.headers.length c1, .slice A2 p.metas.length c2, .slice A3 p.states.length c3, .slice A4 p.actions.length c4, .slice A5 p.tables.length c5, .slice A6 p.control.length c6, .slice A7 p.emit.length c7, .int .i64 act], .agg cs.toArray] w fun z7 w' => z7 = endU (r) ∧ Below w.heap.size w w' := by
 obtain ⟨es, A, cap, A', cap', rfl, -, -, -, hE, hT, hL⟩ := RS.inv h
 have l1 := hT.len
 have l2 := hL.len
 have hX0 := hide (fun (W : World) (hb : Below w.heap.size w W) => tof_any A1 A2 A3 A4 A5 A6 A7 p c1 c2 c3 c4 c5 c6 c7 act B hm e he es W (Nat.le_trans hB hb.size) (hP.below (hb.mono hB)) (sta_ex.keep hE fun q hq => (hb.mono hB).cell hq))
 have hF0 := hide (fun (W : World) (hb : Below w.heap.size w W) => tfits_any 9 (by omega) (by omega) e es W B (Nat.le_trans hB hb.size) (sta_ex.keep hE fun q hq => (hb.mono hB).cell hq))
 generalize fitsE ((9 : Nat) : Int) e = fe at hF0 hrr
 generalize ofR p act e = ra at hX0 hrr
 obtain ⟨op, lit, ehead, ename, hi, lo, args⟩ := e
 obtain ⟨Ae, ecap, rfl, -, -, -, -, -, -, hs⟩ := RE.inv hE
 have l3 := hs.len
 clear hs h hT hL he hE
 show Calls _ _ #[.agg #[.slice A1 p.headers.length c1, .slice A2 p.metas.length c2, .slice A3 p.states.length c3, .slice A4 p.actions.length c4, .slice A5 p.tables.length c5, .slice A6 p.control.length c6, .slice A7 p.emit.length c7, .int .i64 act], .agg #[.int .u8 5, .string head, .string name, .int .u8 op, .int .i64 lit.1, .int .u64 lit.2.1, .int .u64 lit.2.2, .string ehead, .string ename, .int .i64 hi, .int .i64 lo, .slice Ae args.length ecap, .slice A thn.length cap, .slice A' els.length cap']] _ _
 obtain ⟨wv, hwv, hsv, hbv, hcv, hfv⟩ := box1 w #[.slice A1 p.headers.length c1, .slice A2 p.metas.length c2, .slice A3 p.states.length c3, .slice A4 p.actions.length c4, .slice A5 p.tables.length c5, .slice A6 p.control.length c6, .slice A7 p.emit.length c7, .int .i64 act] 88
 obtain ⟨wz, hwz, hsz, hbz, hcz, hfz⟩ := box1 wv #[.int .u8 5, .string head, .string name, .int .u8 op, .int .i64 lit.1, .int .u64 lit.2.1, .int .u64 lit.2.2, .string ehead, .string ename, .int .i64 hi, .int .i64 lo, .slice Ae args.length ecap, .slice A thn.length cap, .slice A' els.length cap'] 47
 have hEz : Below wz.heap.size wz wz := Below.refl _ _
 have hEv : Below wv.heap.size wv wz := hbz.trans (hEz.mono (by omega))
 have hw := hide (hbv.trans (hEv.mono (by omega)))
 have cv := fun i => (hEv.cell (p := ⟨w.heap.size, i, none⟩) (by show w.heap.size < _; omega)).trans (hcv i)
 have cz := fun i => (hEz.cell (p := ⟨wv.heap.size, i, none⟩) (by show wv.heap.size < _; omega)).trans (hcz i)
 have hfr := hfz
 simp only [hsv] at cz hfr
 obtain ⟨v0, v1, v2, v3, v4, v5, v6, v7⟩ := row8 cv
 obtain ⟨z0, z1, z2, z3, z4, z5, z6, z7, z8, z9, z10, z11, z12, z13⟩ := row14 cz
 have hl1 : w.heap.size < wz.heap.size := by omega
 have hl2 : w.heap.size + 1 < wz.heap.size := by omega
 clear cv hcv hbv hfv cz hcz hbz hfz hEv hEz
 replace hsz := hide hsz
 have hX := hide (show Calls Tryz.prog 29 #[.agg #[.slice A1 p.headers.length c1, .slice A2 p.metas.length c2, .slice A3 p.states.length c3, .slice A4 p.actions.length c4, .slice A5 p.tables.length c5, .slice A6 p.control.length c6, .slice A7 p.emit.length c7, .int .i64 act], .agg #[.int .u8 op, .int .i64 lit.1, .int .u64 lit.2.1, .int .u64 lit.2.2, .string ehead, .string ename, .int .i64 hi, .int .i64 lo, .slice Ae args.length ecap]] wz _ from hX0.out wz hw.out)
 clear hX0
 have hF : Hid (∀ W, Below w.heap.size w W → Calls Tryz.prog 97 #[.agg #[.int .u8 op, .int .i64 lit.1, .int .u64 lit.2.1, .int .u64 lit.2.2, .string ehead, .string ename, .int .i64 hi, .int .i64 lo, .slice Ae args.length ecap], .int .i64 9] W _) := hF0
 clear hF0
 have hBz : B ≤ wz.heap.size := by omega
 have hPz := hide (hP.below (hw.out.mono hB))
 clear hP
 cases ra with
 | error n7 =>
  replace hX := hide (show Calls Tryz.prog _ _ wz fun e w' => e = noE n7 ∧ Below wz.heap.size wz w' from hX.out)
  go_enter Tryz.func37, Tryz.ntmps37
  go_wp2_with (go_at_call 29; refine hX.out.mono ?_; rintro e w3 ⟨rfl, hb3⟩)
  exact ⟨rfl, by rw [← hrr]; rfl, hw.out.trans (hb3.mono (by omega))⟩
 | ok t =>
  obtain ⟨tw, tr, tf⟩ := t
  replace hX := hide (show Calls Tryz.prog _ _ wz fun e w' => e = .returned (.agg #[.int .i64 tw, .bool tr, .bool tf]) ∧ Below wz.heap.size wz w' from hX.out)
  replace hrr := hide hrr
  clear hPz
  cases tr with
  | true =>
   go_enter Tryz.func37, Tryz.ntmps37
   go_wp2_with (first | (go_at_call 27; with_reducible refine (ask_no _ _).mono ?_; rintro e w' ⟨rfl, rfl⟩) | (go_at_call 29; refine hX.out.mono ?_; rintro e w3 ⟨rfl, hb3⟩; have kb3 := bcell' hb3; have q3 := Nat.lt_of_lt_of_le hl1 hb3.size; have q4 := Nat.lt_of_lt_of_le hl2 hb3.size))
   exact ⟨rfl, by rw [← hrr.out]; rfl, hw.out.trans ((hb3.alloc hb3.size _).mono (by omega))⟩
  | false =>
   cases tf with
   | true =>
    cases fe with
    | true =>
     go_enter Tryz.func37, Tryz.ntmps37
     go_wp2_with (first | (go_at_call 27; with_reducible refine (ask_yes _ _).mono ?_; rintro e w' ⟨rfl, rfl⟩) | (go_at_call 97; refine (hF.out _ (hw.out.trans ((hb3.alloc hb3.size _).mono (by omega)))).mono ?_; rintro e w6 ⟨rfl, hb6⟩) | (go_at_call 29; refine hX.out.mono ?_; rintro e w3 ⟨rfl, hb3⟩; have kb3 := bcell' hb3; have q3 := Nat.lt_of_lt_of_le hl1 hb3.size; have q4 := Nat.lt_of_lt_of_le hl2 hb3.size))
     (try simp only [Exit.inBlock, Exit.then])
     refine bodyPost_end (results_none rfl _ _ _) rfl ?_
     exact ⟨by rw [← hrr.out]; rfl, hw.out.trans (((hb3.alloc hb3.size _).trans (hb6.mono (hb3.alloc hb3.size _).size)).mono (by omega))⟩
    | false =>
     go_enter Tryz.func37, Tryz.ntmps37
     go_wp2_with (first | (go_at_call 27; first | (with_reducible refine (ask_yes _ _).mono ?_; rintro e w' ⟨rfl, rfl⟩) | (with_reducible refine (ask_no _ _).mono ?_; rintro e w' ⟨rfl, rfl⟩)) | (go_at_call 97; refine (hF.out _ (hw.out.trans ((hb3.alloc hb3.size _).mono (by omega)))).mono ?_; rintro e w6 ⟨rfl, hb6⟩) | (go_at_call 29; refine hX.out.mono ?_; rintro e w3 ⟨rfl, hb3⟩; have kb3 := bcell' hb3; have q3 := Nat.lt_of_lt_of_le hl1 hb3.size; have q4 := Nat.lt_of_lt_of_le hl2 hb3.size))
     exact ⟨rfl, by rw [← hrr.out]; rfl, hw.out.trans (((hb3.alloc hb3.size _).trans (hb6.mono (hb3.alloc hb3.size _).size)).mono (by omega))⟩
   | false =>
    go_enter Tryz.func37, Tryz.ntmps37
    go_wp2_with (first | (go_at_call 27; with_reducible refine (ask_yes _ _).mono ?_; rintro e w' ⟨rfl, rfl⟩) | (go_at_call 29; refine hX.out.mono ?_; rintro e w3 ⟨rfl, hb3⟩; have kb3 := bcell' hb3; have q3 := Nat.lt_of_lt_of_le hl1 hb3.size; have q4 := Nat.lt_of_lt_of_le hl2 hb3.size))
    (try simp only [Exit.inBlock, Exit.then])
    refine bodyPost_end (results_none rfl _ _ _) rfl ?_
    exact ⟨by rw [← hrr.out]; rfl, hw.out.trans ((hb3.alloc hb3.size _).mono (by omega))⟩
set_option maxRecDepth 100000 in
set_option maxHeartbeats 8000000 in
theorem tst_other (A1 A2 A3 A4 A5 A6 A7 : Option Addr) (p : Pg) (c1 c2 c3 c4 c5 c6 c7 : Nat) (act : Int) (B : Nat) (hm : mayP p = true) (kind : Int) (head name : ByteArray) (e : Ex) (thn els : List St) (n1 : ¬ kind = 1) (n2 : ¬ kind = 2) (n5 : ¬ kind = 5) (cs : List Value) (w : World) (hB : B ≤ w.heap.size) (hP : PgS w B A1 A2 A3 A4 A5 A6 A7 p) (h : rSt w B cs (.mk kind head name e thn els)) :
  Calls Tryz.prog 37 #[.agg #[.slice A1 p.headers.length c1, .slice A2 p.metas.length c2, .slice A3 p.states.length c3, .slice A4 p.actions.length c4, .slice A5 p.tables.length c5, .slice A6 p.control.length c6, .slice A7 p.emit.length c7, .int .i64 act], .agg cs.toArray] w fun z7 w' => z7 = endU (.ok ()) ∧ Below w.heap.size w w' := by
 obtain ⟨es, A, cap, A', cap', rfl, -, -, -, hE, hT, hL⟩ := RS.inv h
 have l1 := hT.len
 have l2 := hL.len
 obtain ⟨op, lit, ehead, ename, hi, lo, args⟩ := e
 obtain ⟨Ae, ecap, rfl, -, -, -, -, -, -, hs⟩ := RE.inv hE
 have l3 := hs.len
 clear hs h hT hL hE
 show Calls _ _ #[.agg #[.slice A1 p.headers.length c1, .slice A2 p.metas.length c2, .slice A3 p.states.length c3, .slice A4 p.actions.length c4, .slice A5 p.tables.length c5, .slice A6 p.control.length c6, .slice A7 p.emit.length c7, .int .i64 act], .agg #[.int .u8 kind, .string head, .string name, .int .u8 op, .int .i64 lit.1, .int .u64 lit.2.1, .int .u64 lit.2.2, .string ehead, .string ename, .int .i64 hi, .int .i64 lo, .slice Ae args.length ecap, .slice A thn.length cap, .slice A' els.length cap']] _ _
 obtain ⟨wv, hwv, hsv, hbv, hcv, hfv⟩ := box1 w #[.slice A1 p.headers.length c1, .slice A2 p.metas.length c2, .slice A3 p.states.length c3, .slice A4 p.actions.length c4, .slice A5 p.tables.length c5, .slice A6 p.control.length c6, .slice A7 p.emit.length c7, .int .i64 act] 88
 obtain ⟨wz, hwz, hsz, hbz, hcz, hfz⟩ := box1 wv #[.int .u8 kind, .string head, .string name, .int .u8 op, .int .i64 lit.1, .int .u64 lit.2.1, .int .u64 lit.2.2, .string ehead, .string ename, .int .i64 hi, .int .i64 lo, .slice Ae args.length ecap, .slice A thn.length cap, .slice A' els.length cap'] 47
 have hEz : Below wz.heap.size wz wz := Below.refl _ _
 have hEv : Below wv.heap.size wv wz := hbz.trans (hEz.mono (by omega))
 have hw := hide (hbv.trans (hEv.mono (by omega)))
 have cv := fun i => (hEv.cell (p := ⟨w.heap.size, i, none⟩) (by show w.heap.size < _; omega)).trans (hcv i)
 have cz := fun i => (hEz.cell (p := ⟨wv.heap.size, i, none⟩) (by show wv.heap.size < _; omega)).trans (hcz i)
 have hfr := hfz
 simp only [hsv] at cz hfr
 obtain ⟨v0, v1, v2, v3, v4, v5, v6, v7⟩ := row8 cv
 obtain ⟨z0, z1, z2, z3, z4, z5, z6, z7, z8, z9, z10, z11, z12, z13⟩ := row14 cz
 have hl1 : w.heap.size < wz.heap.size := by omega
 have hl2 : w.heap.size + 1 < wz.heap.size := by omega
 clear cv hcv hbv hfv cz hcz hbz hfz hEv hEz
 replace hsz := hide hsz
 have hBz : B ≤ wz.heap.size := by omega
 have hPz := hide (hP.below (hw.out.mono hB))
 clear hP
 clear hPz
 have i1 : (kind == 1) = false := beq_eq_false_iff_ne.2 n1
 have i2 : (kind == 2) = false := beq_eq_false_iff_ne.2 n2
 have i5 : (kind == 5) = false := beq_eq_false_iff_ne.2 n5
 go_enter Tryz.func37, Tryz.ntmps37
 go_wp2
 (try simp only [Exit.inBlock, Exit.then])
 refine bodyPost_end (results_none rfl _ _ _) rfl ?_
 exact ⟨rfl, hw.out⟩
end Go.Proofs.YtbbdhknagofghaaGreat
/-! Layer 8: stmt of any statement whose names are there. -/
namespace Go.Proofs.YtbbdhknagofghaaGreat
open Go.RowKit
/-- What a statement sets is there. -/
def setB (p : Pg) (head name : ByteArray) : Prop := if head = strE then 0 ≤ metaI p name else 0 ≤ fieldI p (headerI p head) name
theorem meta_range {p : Pg} {s : ByteArray} (h : 0 ≤ metaI p s) : ∃ k : Nat, k < p.metas.length ∧ metaI p s = (k : Int) := by
 obtain ⟨k, hk, he⟩ := findI_range (l := p.metas.map Prod.fst) (a := s) (by show ¬ metaI p s < 0; omega)
 exact ⟨k, by simpa using hk, he⟩
theorem field_range {p : Pg} {head name : ByteArray} (h : 0 ≤ fieldI p (headerI p head) name) :
  ∃ (k : Nat) (hk : k < p.headers.length) (j : Nat) (_ : j < p.headers[k].fields.length), headerI p head = (k : Int) ∧ fieldI p (k : Int) name = (j : Int) := by
 by_cases hh : headerI p head < 0
 ·unfold fieldI at h; rw [if_pos hh] at h; omega
 ·obtain ⟨k, hk, he⟩ := headerI_range hh
  rw [he, fieldI_at hk] at h
  obtain ⟨j, hj, hf⟩ := findI_range (l := p.headers[k].fields.map Prod.fst) (a := name) (by show ¬ fieldsI p.headers[k].fields name < 0; omega)
  exact ⟨k, hk, j, by simpa using hj, he, by rw [fieldI_at hk]; exact hf⟩
theorem width_nat {l : List Fd} (h : l.all fdB = true) {k : Nat} (hk : k < l.length) : ∃ n : Nat, 1 ≤ n ∧ n ≤ 128 ∧ l[k].2 = (n : Int) := by
 have := widths_of h l[k] (List.getElem_mem hk)
 exact ⟨l[k].2.toNat, by omega, by omega, by omega⟩
theorem tstmt_any (A1 A2 A3 A4 A5 A6 A7 : Option Addr) (p : Pg) (c1 c2 c3 c4 c5 c6 c7 : Nat) (act : Int) (B : Nat) (hm : mayP p = true) (s : St) (he : ∀ kind head name e thn els, s = .mk kind head name e thn els → (kind = 1 ∨ kind = 2 ∨ kind = 5 → allE e = true) ∧ (kind = 1 → setB p head name)) (cs : List Value) (w : World) (hB : B ≤ w.heap.size) (hP : PgS w B A1 A2 A3 A4 A5 A6 A7 p) (h : rSt w B cs s) :
  Calls Tryz.prog 37 #[.agg #[.slice A1 p.headers.length c1, .slice A2 p.metas.length c2, .slice A3 p.states.length c3, .slice A4 p.actions.length c4, .slice A5 p.tables.length c5, .slice A6 p.control.length c6, .slice A7 p.emit.length c7, .int .i64 act], .agg cs.toArray] w fun z w' => z = endU (stR p act s) ∧ Below w.heap.size w w' := by
 obtain ⟨kind, head, name, e, thn, els⟩ := s
 obtain ⟨hE, hset⟩ := he _ _ _ _ _ _ rfl
 have hm' := hm
 simp only [mayP, Bool.and_eq_true] at hm'
 obtain ⟨⟨⟨⟨⟨⟨⟨_, hh⟩, hmt⟩, _⟩, _⟩, _⟩, _⟩, _⟩ := hm'
 by_cases h1 : kind = 1
 ·subst h1
  have hs := hset rfl
  unfold setB at hs
  by_cases h0 : head = strE
  ·rw [if_pos h0] at hs
   obtain ⟨k, hk, hkz⟩ := meta_range hs
   obtain ⟨n, n1, n2, hn⟩ := width_nat hmt hk
   have hr : stR p act (.mk 1 head name e thn els) = goesR p act e (n : Int) := by
    simp only [stR, if_true, setW, if_pos h0, fieldW, hkz, Int.toNat_natCast, List.getElem?_eq_getElem hk, Option.elim, hn]
   rw [hr]
   exact tst_meta A1 A2 A3 A4 A5 A6 A7 p c1 c2 c3 c4 c5 c6 c7 act B hm head name e thn els n n1 n2 k hk hkz hn h0 (hE (.inl rfl)) cs w hB hP h
  ·rw [if_neg h0] at hs
   obtain ⟨k, hk, j, hj, hkz, hjz⟩ := field_range hs
   have hd := List.all_eq_true.1 hh _ (List.getElem_mem hk)
   simp only [hdB, Bool.and_eq_true] at hd
   obtain ⟨n, n1, n2, hn⟩ := width_nat hd.2 hj
   have hr : stR p act (.mk 1 head name e thn els) = goesR p act e (n : Int) := by
    simp only [stR, if_true, setW, if_neg h0, fieldW, hkz, hjz, Int.toNat_natCast, List.getElem?_eq_getElem hk, Option.elim, List.getElem?_eq_getElem hj, hn]
   rw [hr]
   exact tst_field A1 A2 A3 A4 A5 A6 A7 p c1 c2 c3 c4 c5 c6 c7 act B hm head name e thn els n n1 n2 k hk hkz j hj hjz hn h0 (hE (.inl rfl)) cs w hB hP h
 ·by_cases h2 : kind = 2
  ·subst h2
   exact tst_if A1 A2 A3 A4 A5 A6 A7 p c1 c2 c3 c4 c5 c6 c7 act B hm head name e thn els _ (by simp only [stR, if_neg h1, if_true]; cases ofR p act e <;> rfl) (hE (.inr (.inl rfl))) cs w hB hP h
  ·by_cases h5 : kind = 5
   ·subst h5
    exact tst_fwd A1 A2 A3 A4 A5 A6 A7 p c1 c2 c3 c4 c5 c6 c7 act B hm head name e thn els _ (by simp only [stR, if_neg h1, if_neg h2, if_true]; cases ofR p act e <;> rfl) (hE (.inr (.inr rfl))) cs w hB hP h
   ·rw [show stR p act (.mk kind head name e thn els) = .ok () from by simp only [stR, if_neg h1, if_neg h2, if_neg h5]]
    exact tst_other A1 A2 A3 A4 A5 A6 A7 p c1 c2 c3 c4 c5 c6 c7 act B hm kind head name e thn els h1 h2 h5 cs w hB hP h
end Go.Proofs.YtbbdhknagofghaaGreat

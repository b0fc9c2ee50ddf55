import Derived.Test.YtcgmkjpgaigmfaaGreatChk37
set_option linter.all false
/-! The document's layer 7: Bits, There. -/
namespace Go.Proofs.YtcgmkjpgaigmfaaGreat
open Go.RowKit
set_option maxHeartbeats 1000000 in
theorem bits07_any (h : Hd) (A : Option Addr) (cap : Nat) (w : World) {B : Nat} (hB : B ≤ w.heap.size) (hF : Sl 2 rFd w B A h.fields) (hm : hdB h = true) :
  Calls Tryz.prog 140 #[.agg #[.string h.name, .slice A h.fields.length cap]] w fun e w' => e = .returned (.int .i64 (bitsI h)) ∧ Below w.heap.size w w' := by
 obtain ⟨wb, hwb, hsz, hw, hcb, -⟩ := box1 w #[.string h.name, .slice A h.fields.length cap] 38
 have y0 : wb.cell? ⟨w.heap.size, 0, none⟩ = some (.string h.name) := hcb 0
 have y1 : wb.cell? ⟨w.heap.size, 1, none⟩ = some (.slice A h.fields.length cap) := hcb 1
 have hl := hF.len
 have hS := hide (hF.below sta_fd (hw.mono hB))
 simp only [hdB, Bool.and_eq_true, decide_eq_true_eq] at hm
 have hle := hm.1.2.2
 have hws : ∀ f ∈ h.fields, 1 ≤ f.2 ∧ f.2 ≤ 128 := fun f hf => by
  have := List.all_eq_true.1 hm.2 f hf
  simp only [fdB, widthB, Bool.and_eq_true, decide_eq_true_eq] at this
  exact this.2
 have hsum : ∀ k, 0 ≤ bitsN (h.fields.take k) ∧ bitsN (h.fields.take k) ≤ 2048 := fun k => by
  have := bitsN_le (l := h.fields.take k) fun f hf => hws f (List.mem_of_mem_take hf)
  rw [List.length_take] at this
  omega
 have hws' := hide hws
 have hsum' := hide hsum
 have hv := hide (show bitsI h = bitsN h.fields from rfl)
 replace hw := hide hw
 clear hcb hm hws hsum hF
 go_enter Tryz.func140, Tryz.ntmps140
 go_wp2
 go_loop [3, 4] (fun n i => ∃ k : Nat, k ≤ h.fields.length ∧ i = .int .i64 k ∧ n = .int .i64 (bitsN (h.fields.take k))) (fun _ i => h.fields.length - (intOf i).toNat)
 case atStart => exact ⟨0, Nat.zero_le _, rfl, by simp [bitsN]⟩
 case round =>
  obtain ⟨k, hk, rfl, rfl⟩ := hrel
  by_cases hlt : k < h.fields.length
  ·obtain ⟨b, o, ecs, hA, hb, hel, hcell, rfl, hz, hi⟩ := hS.out.2 k _ (List.getElem?_eq_getElem hlt)
   subst hA
   have hltz : (k : Int) < (h.fields.length : Int) := by omega
   have x0 : wb.cell? ⟨b, o + k * 2, none⟩ = some (.string h.fields[k].1) := by simpa using hcell 0 _ rfl
   have x1 : wb.cell? ⟨b, o + k * 2 + 1, none⟩ = some (.int .i64 h.fields[k].2) := hcell 1 _ rfl
   have ht := hide (bitsN_take hlt)
   obtain ⟨s1, s2⟩ := hsum'.out k
   obtain ⟨t1, t2⟩ := hws'.out _ (List.getElem_mem hlt)
   clear hcell
   generalize bitsN (h.fields.take k) = z at *
   go_wp2
   go_round
   case rel => exact ⟨k + 1, by omega, by go_num, by rw [ht.out]⟩
   case measure => simp [intOf]; omega
  ·have he : h.fields.take k = h.fields := List.take_of_length_le (by omega)
   go_wp2
   go_ret
   exact ⟨ret_int (by first | rw [hv.out] | rw [hv.out, he]), hw.out⟩
set_option maxRecDepth 100000 in
set_option maxHeartbeats 4000000 in
theorem there07_any (A1 A2 A3 A4 A5 A6 A7 : Option Addr) (p : Pg) (c1 c2 c3 c4 c5 c6 c7 : Nat) (act : Int) (B : Nat) (e : Ex) : ∀ (cs : List Value) (w : World), B ≤ w.heap.size → PgS w B A1 A2 A3 A4 A5 A6 A7 p → rEx w B cs e →
  Calls Tryz.prog 76 #[.agg #[.slice A1 p.headers.length c1, .slice A2 p.metas.length c2, .slice A3 p.states.length c3, .slice A4 p.actions.length c4, .slice A5 p.tables.length c5, .slice A6 p.control.length c6, .slice A7 p.emit.length c7], .int .i64 act, .agg cs.toArray] w fun r w' => r = .returned (.bool (thereE p act e)) ∧ Below w.heap.size w w' := by
 induction e using Ex.ind with
 | h op lit head name hi lo args ih =>
  intro cs w hB hP h
  obtain ⟨A, cap, rfl, -, -, -, -, -, -, hs⟩ := RE.inv h
  have hl := hs.len
  replace ih := hide ih
  clear h
  show Calls _ _ #[.agg #[.slice A1 p.headers.length c1, .slice A2 p.metas.length c2, .slice A3 p.states.length c3, .slice A4 p.actions.length c4, .slice A5 p.tables.length c5, .slice A6 p.control.length c6, .slice A7 p.emit.length c7], .int .i64 act, .agg #[.int .u8 op, .int .i64 lit.1, .int .u64 lit.2.1, .int .u64 lit.2.2, .string head, .string name, .int .i64 hi, .int .i64 lo, .slice A args.length cap]] _ _
  obtain ⟨wa, hwa, hsa, hba, hca, -⟩ := box1 w #[.slice A1 p.headers.length c1, .slice A2 p.metas.length c2, .slice A3 p.states.length c3, .slice A4 p.actions.length c4, .slice A5 p.tables.length c5, .slice A6 p.control.length c6, .slice A7 p.emit.length c7] 30
  obtain ⟨wb, hwb, hsb, hbb, hcb, -⟩ := box1 wa #[.int .u8 op, .int .i64 lit.1, .int .u64 lit.2.1, .int .u64 lit.2.2, .string head, .string name, .int .i64 hi, .int .i64 lo, .slice A args.length cap] 68
  have hw := hba.trans (hbb.mono (by omega))
  obtain ⟨y0, y1, y2, y3, y4, y5, y6⟩ := row7 (w := wa) (a := w.heap.size) fun i => hca i
  have q : ∀ i, wb.cell? ⟨w.heap.size, i, none⟩ = wa.cell? ⟨w.heap.size, i, none⟩ := fun i => hbb.cell (p := ⟨w.heap.size, i, none⟩) (by show w.heap.size < _; omega)
  obtain ⟨z0, z1, z2, z3, z4, z5, z6⟩ := row7 (w := wb) (a := w.heap.size) fun i => (q _).trans <| hca i
  have e0 : wb.cell? ⟨w.heap.size + 1, 0, none⟩ = some (.int .u8 op) := by have := hcb 0; rw [hsa] at this; exact this
  have e4 : wb.cell? ⟨w.heap.size + 1, 4, none⟩ = some (.string head) := by have := hcb 4; rw [hsa] at this; exact this
  have e5 : wb.cell? ⟨w.heap.size + 1, 5, none⟩ = some (.string name) := by have := hcb 5; rw [hsa] at this; exact this
  have e8 : wb.cell? ⟨w.heap.size + 1, 8, none⟩ = some (.slice A args.length cap) := by have := hcb 8; rw [hsa] at this; exact this
  have hS := hide (hs.below sta_ex (hw.mono hB))
  have hP2 := hide (hP.below (hw.mono hB))
  have hv := hide (show thereE p act (.mk op lit head name hi lo args) = (ownB p act op head name && args.all (thereE p act)) from by simp only [thereE, thereL_all])
  have hb0 : Below wb.heap.size wb wb := Below.refl _ _
  have hBk := hide (show ∀ W, Below wb.heap.size wb W → Below w.heap.size w W from fun W hb => hw.trans (hb.mono (by omega)))
  have hl1 : w.heap.size < wb.heap.size := by omega
  have hl2 : w.heap.size + 1 < wb.heap.size := by omega
  have hBw : B ≤ wb.heap.size := by omega
  clear hca hcb hs hP q y0 y1 y2 y3 y4 y5 y6 hba hbb hw
  replace hsb := hide hsb
  have qH := hide (fun (s : ByteArray) (W : World) (hb : Below wb.heap.size wb W) => (header07_any W A1 A2 A3 A4 A5 A6 A7 p c1 c2 c3 c4 c5 c6 c7 s (by have := hb.size; omega) (hP2.out.below (hb.mono hBw))).mono (fun e w' h => (⟨h.1, hb.trans (h.2.mono hb.size)⟩ : e = _ ∧ Below wb.heap.size wb w')))
  have qF := hide (fun (n : Int) (s : ByteArray) (W : World) (hb : Below wb.heap.size wb W) => (field07_any W A1 A2 A3 A4 A5 A6 A7 p c1 c2 c3 c4 c5 c6 c7 n s (by have := hb.size; omega) (hP2.out.below (hb.mono hBw))).mono (fun e w' h => (⟨h.1, hb.trans (h.2.mono hb.size)⟩ : e = _ ∧ Below wb.heap.size wb w')))
  have qM := hide (meta07_any wb A1 A2 A3 A4 A5 A6 A7 p c1 c2 c3 c4 c5 c6 c7 name hBw hP2.out)
  have qP := hide (param07_any wb A1 A2 A3 A4 A5 A6 A7 p c1 c2 c3 c4 c5 c6 c7 act name hBw hP2.out)
  go_enter Tryz.func76, Tryz.ntmps76
  go_upto_block 0 with (fail)
  go_cut [] (fun wx => ownB p act op head name = true ∧ Hid (Below wb.heap.size wb wx))
  case first =>
   have hg := gcell' hb0 (Nat.le_refl _)
   by_cases h2 : op = 2
   ·have o2 := hide (show ownB p act op head name = decide (0 ≤ fieldI p (headerI p head) name) from by simp [ownB, h2])
    have hH : ∀ d os, Hid (Calls Tryz.prog 132 #[.agg #[.slice A1 p.headers.length c1, .slice A2 p.metas.length c2, .slice A3 p.states.length c3, .slice A4 p.actions.length c4, .slice A5 p.tables.length c5, .slice A6 p.control.length c6, .slice A7 p.emit.length c7], .string head] (Go.Sort.grow (redrawn wb d) os) _) := fun d os => hide (header07_any _ A1 A2 A3 A4 A5 A6 A7 p c1 c2 c3 c4 c5 c6 c7 head (by have := gsize wb d os; omega) (hP2.out.below ((below_grow hb0 (by omega) d os).mono (by omega))))
    have hF : ∀ d os, Hid (Calls Tryz.prog 134 #[.agg #[.slice A1 p.headers.length c1, .slice A2 p.metas.length c2, .slice A3 p.states.length c3, .slice A4 p.actions.length c4, .slice A5 p.tables.length c5, .slice A6 p.control.length c6, .slice A7 p.emit.length c7], .int .i64 (headerI p head), .string name] (Go.Sort.grow (redrawn wb d) os) _) := fun d os => hide (field07_any _ A1 A2 A3 A4 A5 A6 A7 p c1 c2 c3 c4 c5 c6 c7 (headerI p head) name (by have := gsize wb d os; omega) (hP2.out.below ((below_grow hb0 (by omega) d os).mono (by omega))))
    clear qH qF qM qP
    generalize fieldI p (headerI p head) name = z at o2 hF
    generalize headerI p head = y at hH hF
    subst h2
    by_cases hz : z < 0
    ·replace hv := hide (hv.out.trans (show _ = false from by rw [o2.out, decide_eq_false (by omega), Bool.false_and]))
     go_wp2_with fail
     refine wp_region_quiet_below (by kernel_rfl) (by kernel_rfl) ?_
     repeat (any_goals (first | go_big_quiet_step (first | (go_at_call 132; with_reducible exact Calls.regrown_of (hH _ _).out) | (go_at_call 134; with_reducible exact Calls.regrown_of (hF _ _).out)) | quiet_step (first | (go_at_call 132; with_reducible exact Calls.regrown_of (hH _ _).out) | (go_at_call 134; with_reducible exact Calls.regrown_of (hF _ _).out))))
     refine wpQuiet_nil ?_
     intro w1 hw1
     replace hw1 := below_of_regrown hw1
     go_wp2
     go_ret
     exact ⟨ret_b hv.out.symm, hBk.out _ hw1⟩
    ·have hz0 := hide (show decide (0 ≤ z) = true from decide_eq_true (by omega))
     clear hv
     go_wp2_with fail
     refine wp_region_quiet_below (by kernel_rfl) (by kernel_rfl) ?_
     repeat (any_goals (first | go_big_quiet_step (first | (go_at_call 132; with_reducible exact Calls.regrown_of (hH _ _).out) | (go_at_call 134; with_reducible exact Calls.regrown_of (hF _ _).out)) | quiet_step (first | (go_at_call 132; with_reducible exact Calls.regrown_of (hH _ _).out) | (go_at_call 134; with_reducible exact Calls.regrown_of (hF _ _).out))))
     refine wpQuiet_nil ?_
     intro w1 hw1
     replace hw1 := below_of_regrown hw1
     go_wp2
     go_meet
     exact ⟨o2.out.trans hz0.out, hide hw1⟩
   ·by_cases h3 : op = 3
    ·have o2 := hide (show ownB p act op head name = decide (0 ≤ metaI p name) from by simp [ownB, h3])
     clear qH qF qP h2
     subst h3
     generalize metaI p name = z at o2 qM
     by_cases hz : z < 0
     ·replace hv := hide (hv.out.trans (show _ = false from by rw [o2.out, decide_eq_false (by omega), Bool.false_and]))
      go_wp2_with (go_at_call 135; refine qM.out.mono ?_; rintro e w1 ⟨rfl, hw1⟩)
      go_ret
      exact ⟨ret_b hv.out.symm, hBk.out _ hw1⟩
     ·have hz0 := hide (show decide (0 ≤ z) = true from decide_eq_true (by omega))
      clear hv
      go_wp2_with (go_at_call 135; refine qM.out.mono ?_; rintro e w1 ⟨rfl, hw1⟩)
      go_meet
      exact ⟨o2.out.trans hz0.out, hide hw1⟩
    ·by_cases h4 : op = 4
     ·have o2 := hide (show ownB p act op head name = decide (0 ≤ paramI p act name) from by simp [ownB, h4])
      clear qH qF qM h2 h3
      subst h4
      generalize paramI p act name = z at o2 qP
      by_cases hz : z < 0
      ·replace hv := hide (hv.out.trans (show _ = false from by rw [o2.out, decide_eq_false (by omega), Bool.false_and]))
       go_wp2_with (go_at_call 136; refine qP.out.mono ?_; rintro e w1 ⟨rfl, hw1⟩)
       go_ret
       exact ⟨ret_b hv.out.symm, hBk.out _ hw1⟩
      ·have hz0 := hide (show decide (0 ≤ z) = true from decide_eq_true (by omega))
       clear hv
       go_wp2_with (go_at_call 136; refine qP.out.mono ?_; rintro e w1 ⟨rfl, hw1⟩)
       go_meet
       exact ⟨o2.out.trans hz0.out, hide hw1⟩
     ·by_cases h6 : op = 6
      ·have o2 := hide (show ownB p act op head name = decide (0 ≤ headerI p head) from by simp [ownB, h6])
       have hX := hide (qH.out head wb hb0)
       clear qH qF qM qP h2 h3 h4
       subst h6
       generalize headerI p head = z at o2 hX
       by_cases hz : z < 0
       ·replace hv := hide (hv.out.trans (show _ = false from by rw [o2.out, decide_eq_false (by omega), Bool.false_and]))
        go_wp2_with (go_at_call 132; refine hX.out.mono ?_; rintro e w1 ⟨rfl, hw1⟩)
        go_ret
        exact ⟨ret_b hv.out.symm, hBk.out _ hw1⟩
       ·have hz0 := hide (show decide (0 ≤ z) = true from decide_eq_true (by omega))
        clear hv
        go_wp2_with (go_at_call 132; refine hX.out.mono ?_; rintro e w1 ⟨rfl, hw1⟩)
        go_meet
        exact ⟨o2.out.trans hz0.out, hide hw1⟩
      ·have o2 := hide (show ownB p act op head name = true from by simp [ownB, h2, h3, h4, h6])
       clear hv qH qF qM qP
       go_wp2
       go_meet
       exact ⟨o2.out, hide hb0⟩
  case rest =>
   obtain ⟨hg, hbc⟩ := hcut
   obtain ⟨wd, rfl⟩ : ∃ wd : World, wd = wc := ⟨_, rfl⟩
   have hc := bcell' hbc.out
   replace hv := hide (hv.out.trans (show _ = args.all (thereE p act) from by rw [hg, Bool.true_and]))
   clear hg qH qF qM qP
   go_wp2
   go_loopw [7] (fun i wr => ∃ k : Nat, k ≤ args.length ∧ i = .int .i64 k ∧ Hid ((args.take k).all (thereE p act) = true) ∧ Hid (Below wb.heap.size wb wr)) (fun i _ => args.length - (intOf i).toNat)
   case atStart => exact ⟨0, Nat.zero_le _, rfl, hide (by simp), hbc⟩
   case round =>
    clear hc hbc
    obtain ⟨k, hk, rfl, ht0, hbr⟩ := hrel
    have hzr := hbr.out.size
    have hc := bcell' hbr.out
    by_cases hlt : k < args.length
    ·obtain ⟨b, o, ecs, hA, hb, hel, hcell, hr⟩ := hS.out.2 k _ (List.getElem?_eq_getElem hlt)
     subst hA
     have hltz : (k : Int) < (args.length : Int) := by omega
     have hX0 := fun d os => ih.out _ (List.getElem_mem hlt) ecs (Go.Sort.grow (redrawn wr d) os) (by have := gsize wr d os; omega) (hP2.out.below ((below_grow hbr.out hzr d os).mono (by omega))) (sta_ex.keep hr fun q hq => ((below_grow hbr.out hzr d os).mono (show B ≤ _ by omega)).cell hq)
     have hst := hide (fun h => all_stop (p := thereE p act) hlt h)
     have hnx := hide (fun h => all_next (p := thereE p act) hlt ht0.out h)
     generalize thereE p act args[k] = t at hX0 hst hnx
     generalize args[k] = x at hr
     obtain ⟨op', lit', head', name', hi', lo', args'⟩ := x
     obtain ⟨A', cap', rfl, -, -, -, -, -, -, hs'⟩ := RE.inv hr
     have hl' := hs'.len
     obtain ⟨x0, x1, x2, x3, x4, x5, x6, x7, x8⟩ := srow9 hcell
     have hX' : ∀ d os, Hid (Calls Tryz.prog 76 #[.agg #[.slice A1 p.headers.length c1, .slice A2 p.metas.length c2, .slice A3 p.states.length c3, .slice A4 p.actions.length c4, .slice A5 p.tables.length c5, .slice A6 p.control.length c6, .slice A7 p.emit.length c7], .int .i64 act, .agg #[.int .u8 op', .int .i64 lit'.1, .int .u64 lit'.2.1, .int .u64 lit'.2.2, .string head', .string name', .int .i64 hi', .int .i64 lo', .slice A' args'.length cap']] (Go.Sort.grow (redrawn wr d) os) _) := fun d os => hide (hX0 d os)
     have hg := gcell' hbr.out hzr
     have hb' : b < wb.heap.size := by omega
     clear hcell hr hX0 hs' hel
     cases t with
     | true =>
      have hres := hide (hnx.out rfl)
      clear hnx hst
      go_wp2_with fail
      refine wp_region_quiet_below (by kernel_rfl) (by kernel_rfl) ?_
      repeat (any_goals (first | go_big_quiet_step (first | (go_at_call 76; with_reducible exact Calls.regrown_of (hX' _ _).out)) | quiet_step (first | (go_at_call 76; with_reducible exact Calls.regrown_of (hX' _ _).out))))
      refine wpQuiet_nil ?_
      intro w1 hw1
      replace hw1 := below_of_regrown hw1
      go_wp2
      go_roundw
      case rel => exact ⟨k + 1, by omega, by go_num, hres, hide (hbr.out.trans (hw1.mono hzr))⟩
      case measure => simp [intOf]; omega
     | false =>
      have hres := hst.out rfl
      clear hnx hst
      replace hres := hide hres
      go_wp2_with fail
      refine wp_region_quiet_below (by kernel_rfl) (by kernel_rfl) ?_
      repeat (any_goals (first | go_big_quiet_step (first | (go_at_call 76; with_reducible exact Calls.regrown_of (hX' _ _).out)) | quiet_step (first | (go_at_call 76; with_reducible exact Calls.regrown_of (hX' _ _).out))))
      refine wpQuiet_nil ?_
      intro w1 hw1
      replace hw1 := below_of_regrown hw1
      go_wp2
      go_ret
      exact ⟨ret_b (hv.out.trans hres.out).symm, hBk.out _ (hbr.out.trans (hw1.mono hzr))⟩
    ·have hres := hide (all_end ht0.out hlt)
     go_wp2
     go_ret
     exact ⟨ret_b (hv.out.trans hres.out).symm, hBk.out _ hbr.out⟩
end Go.Proofs.YtcgmkjpgaigmfaaGreat

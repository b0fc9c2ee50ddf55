import Derived.Test.YtcgmkjpgaigmfaaGreatOnc06
import Derived.Test.YtcgmkjpgaigmfaaGreatOnc40
set_option linter.all false
/-! The document's count of a program's items. -/
namespace Go.Proofs.YtcgmkjpgaigmfaaGreat
open Go.RowKit
set_option maxRecDepth 100000 in
set_option maxHeartbeats 2000000 in
theorem items04_any (w : World) (A1 A2 A3 A4 A5 A6 A7 : Option Addr) (p : Pg) (c1 c2 c3 c4 c5 c6 c7 : Nat) (h : PgS w w.heap.size A1 A2 A3 A4 A5 A6 A7 p) :
    Calls Tryz.prog 9 #[.agg (pgC p A1 A2 A3 A4 A5 A6 A7 c1 c2 c3 c4 c5 c6 c7).toArray] w fun r w' => (∃ z : Int, r = .returned (.int .i64 z) ∧ (countP p ≤ bigN → z = countP p)) ∧ Below w.heap.size w w' := by
  show Calls _ _ #[.agg #[.slice A1 p.headers.length c1, .slice A2 p.metas.length c2, .slice A3 p.states.length c3, .slice A4 p.actions.length c4, .slice A5 p.tables.length c5, .slice A6 p.control.length c6, .slice A7 p.emit.length c7]] _ _
  obtain ⟨wb, hwb, hsz, hw, hcb, -⟩ := box1 w #[.slice A1 p.headers.length c1, .slice A2 p.metas.length c2, .slice A3 p.states.length c3, .slice A4 p.actions.length c4, .slice A5 p.tables.length c5, .slice A6 p.control.length c6, .slice A7 p.emit.length c7] 30
  have y0 : wb.cell? ⟨w.heap.size, 0, none⟩ = some (.slice A1 p.headers.length c1) := hcb 0
  have y1 : wb.cell? ⟨w.heap.size, 1, none⟩ = some (.slice A2 p.metas.length c2) := hcb 1
  have y2 : wb.cell? ⟨w.heap.size, 2, none⟩ = some (.slice A3 p.states.length c3) := hcb 2
  have y3 : wb.cell? ⟨w.heap.size, 3, none⟩ = some (.slice A4 p.actions.length c4) := hcb 3
  have y4 : wb.cell? ⟨w.heap.size, 4, none⟩ = some (.slice A5 p.tables.length c5) := hcb 4
  have y5 : wb.cell? ⟨w.heap.size, 5, none⟩ = some (.slice A6 p.control.length c6) := hcb 5
  have y6 : wb.cell? ⟨w.heap.size, 6, none⟩ = some (.slice A7 p.emit.length c7) := hcb 6
  have l1 := h.1.len
  have l2 := h.2.len
  have l3 := h.3.len
  have l4 := h.4.len
  have l5 := h.5.len
  have l6 := h.6.len
  have l7 := h.7.len
  have hP := hide (h.below hw)
  have hb0 := hide (show Below (w.heap.size + 1) wb wb from Below.refl _ _)
  have hz0 : w.heap.size + 1 ≤ wb.heap.size := by omega
  replace hw := hide hw
  clear hcb h
  go_enter Tryz.func9, Tryz.ntmps9
  go_wp2
  go_loopw [3, 4] (fun n i wr => ∃ k : Nat, k ≤ p.headers.length ∧ i = .int .i64 k ∧ (∃ z : Int, n = .int .i64 z ∧ Hid (countP p ≤ bigN → z = sH p k)) ∧ Hid (Below (w.heap.size + 1) wb wr) ∧ w.heap.size + 1 ≤ wr.heap.size) (fun _ i _ => p.headers.length - (intOf i).toNat)
  case atStart => exact ⟨0, Nat.zero_le _, rfl, ⟨0, rfl, hide (fun _ => rfl)⟩, hb0, hz0⟩
  case round =>
    obtain ⟨k, hk, rfl, ⟨z, rfl, hz⟩, hbr, hzr⟩ := hrel
    have hc := bcell' hbr.out
    by_cases hlt : k < p.headers.length
    · obtain ⟨b, o, ecs, hA, hb, hel, hcell, A', c', rfl, hn, hF⟩ := hP.out.headers.2 k _ (List.getElem?_eq_getElem hlt)
      subst hA
      have hltz : (k : Int) < (p.headers.length : Int) := by omega
      have hl' := hF.len
      have hq := hide (itm_head hlt hz.out)
      have x0 : wb.cell? ⟨b, o + k * 2, none⟩ = some (.string p.headers[k].name) := by simpa using hcell 0 _ rfl
      have x1 : wb.cell? ⟨b, o + k * 2 + 1, none⟩ = some (.slice A' p.headers[k].fields.length c') := hcell 1 _ rfl
      clear hcell hF hz
      go_wp2
      go_roundw
      case rel => exact ⟨k + 1, by omega, by go_num, ⟨_, rfl, hq⟩, hbr, hzr⟩
      case measure => simp [intOf]; omega
    · have hq := hide (itm_meta (by omega) hz.out)
      clear hz
      go_wp2
      generalize k = k0
      go_loopw [3, 5] (fun n i wr => ∃ k : Nat, k ≤ p.states.length ∧ i = .int .i64 k ∧ (∃ z : Int, n = .int .i64 z ∧ Hid (countP p ≤ bigN → z = (sH p p.headers.length + p.metas.length + sS p k : Nat))) ∧ Hid (Below (w.heap.size + 1) wb wr) ∧ w.heap.size + 1 ≤ wr.heap.size) (fun _ i _ => p.states.length - (intOf i).toNat)
      case atStart => exact ⟨0, Nat.zero_le _, rfl, ⟨_, rfl, hq⟩, hbr, hzr⟩
      case round =>
        clear hbr hzr hc hq
        obtain ⟨k, hk, rfl, ⟨z, rfl, hz⟩, hbr, hzr⟩ := hrel
        have hc := bcell' hbr.out
        by_cases hlt : k < p.states.length
        · obtain ⟨b, o, ecs, hA, hb, hel, hcell, B1, d1, B2, d2, B3, d3, rfl, hn, hd, hT, hK, hCs⟩ := hP.out.states.2 k _ (List.getElem?_eq_getElem hlt)
          subst hA
          have hltz : (k : Int) < (p.states.length : Int) := by omega
          have m1 := hT.len
          have m2 := hK.len
          have m3 := hCs.len
          have hq := hide (itm_state hlt hz.out)
          have x0 : wb.cell? ⟨b, o + k * 5, none⟩ = some (.string p.states[k].name) := by simpa using hcell 0 _ rfl
          have x1 : wb.cell? ⟨b, o + k * 5 + 1, none⟩ = some (.slice B1 p.states[k].takes.length d1) := hcell 1 _ rfl
          have x2 : wb.cell? ⟨b, o + k * 5 + 2, none⟩ = some (.string p.states[k].dest) := hcell 2 _ rfl
          have x3 : wb.cell? ⟨b, o + k * 5 + 3, none⟩ = some (.slice B2 p.states[k].keys.length d2) := hcell 3 _ rfl
          have x4 : wb.cell? ⟨b, o + k * 5 + 4, none⟩ = some (.slice B3 p.states[k].cases_.length d3) := hcell 4 _ rfl
          clear hcell hT hK hCs hz
          go_wp2_with fail
          go_quiet (fail)
          go_wp2
          go_roundw
          case rel => exact ⟨k + 1, by omega, by go_num, ⟨_, rfl, hq⟩, hide (below_drewN hbr.out _), by simpa using hzr⟩
          case measure => simp [intOf]; omega
        · go_wp2
          generalize k = k1 at *
          have hk1 : p.states.length ≤ k1 := by omega
          go_loopw [3, 6] (fun n i wr => ∃ k : Nat, k ≤ p.actions.length ∧ i = .int .i64 k ∧ (∃ z : Int, n = .int .i64 z ∧ Hid (countP p ≤ bigN → z = (sH p p.headers.length + p.metas.length + sS p k1 + sA p k : Nat))) ∧ Hid (Below (w.heap.size + 1) wb wr) ∧ w.heap.size + 1 ≤ wr.heap.size) (fun _ i _ => p.actions.length - (intOf i).toNat)
          case atStart => exact ⟨0, Nat.zero_le _, rfl, ⟨_, rfl, hz⟩, hbr, hzr⟩
          case round =>
            clear hbr hzr hc hz
            obtain ⟨k, hk, rfl, ⟨z, rfl, hz⟩, hbr, hzr⟩ := hrel
            have hc := bcell' hbr.out
            have hg := gcell' hbr.out hzr
            by_cases hlt : k < p.actions.length
            · obtain ⟨b, o, ecs, hA, hb, hel, hcell, B1, d1, B2, d2, rfl, hn, hT, hK⟩ := hP.out.actions.2 k _ (List.getElem?_eq_getElem hlt)
              subst hA
              have hltz : (k : Int) < (p.actions.length : Int) := by omega
              have m1 := hT.len
              have m2 := hK.len
              have x0 : wb.cell? ⟨b, o + k * 3, none⟩ = some (.string p.actions[k].name) := by simpa using hcell 0 _ rfl
              have x1 : wb.cell? ⟨b, o + k * 3 + 1, none⟩ = some (.slice B1 p.actions[k].params.length d1) := hcell 1 _ rfl
              have x2 : wb.cell? ⟨b, o + k * 3 + 2, none⟩ = some (.slice B2 p.actions[k].body.length d2) := hcell 2 _ rfl
              have hX : ∀ d os, Hid (Calls Tryz.prog 25 #[.slice B2 p.actions[k].body.length d2] (Go.Sort.grow (redrawn wr d) os) _) := fun d os => hide (stmts04_any p.actions[k].body B2 d2 _ (hK.grown2 sta_st hbr.out (Nat.le_succ _) hzr d os))
              have hcn := cntL_eq p.actions[k].body
              generalize cntL _ _ = zf at hX hcn
              have hq := hide (itm_act hk1 hlt hcn hz.out)
              clear hcell hT hK hz hcn
              go_wp2_with fail
              refine wp_region_quiet_below (by kernel_rfl) (by kernel_rfl) ?_
              repeat (any_goals (first | go_big_quiet_step (first | (go_at_call 25; with_reducible exact Calls.regrown_of (hX _ _).out) | fail) | quiet_step (first | (go_at_call 25; with_reducible exact Calls.regrown_of (hX _ _).out) | fail)))
              refine wpQuiet_nil ?_
              intro w2 hw2
              replace hw2 := below_of_regrown hw2
              go_wp2
              go_roundw
              case rel => exact ⟨k + 1, by omega, by go_num, ⟨_, rfl, hq⟩, hide (hbr.out.trans (hw2.mono hzr)), by have := hw2.size; omega⟩
              case measure => simp [intOf]; omega
            · clear hg
              go_wp2
              generalize k = k2 at *
              have hk2 : p.actions.length ≤ k2 := by omega
              go_loopw [3, 7] (fun n i wr => ∃ k : Nat, k ≤ p.tables.length ∧ i = .int .i64 k ∧ (∃ z : Int, n = .int .i64 z ∧ Hid (countP p ≤ bigN → z = (sH p p.headers.length + p.metas.length + sS p k1 + sA p k2 + sT p k : Nat))) ∧ Hid (Below (w.heap.size + 1) wb wr) ∧ w.heap.size + 1 ≤ wr.heap.size) (fun _ i _ => p.tables.length - (intOf i).toNat)
              case atStart => exact ⟨0, Nat.zero_le _, rfl, ⟨_, rfl, hz⟩, hbr, hzr⟩
              case round =>
                clear hbr hzr hc hz
                obtain ⟨k, hk, rfl, ⟨z, rfl, hz⟩, hbr, hzr⟩ := hrel
                have hc := bcell' hbr.out
                by_cases hlt : k < p.tables.length
                · obtain ⟨b, o, ecs, hA, hb, hel, hcell, B1, d1, B2, d2, B3, d3, rfl, hn, hd, hK, hT, hL⟩ := hP.out.tables.2 k _ (List.getElem?_eq_getElem hlt)
                  subst hA
                  have hltz : (k : Int) < (p.tables.length : Int) := by omega
                  have m1 := hT.len
                  have m2 := hK.len
                  have m3 := hL.len
                  have hq := hide (itm_tab hk1 hk2 hlt hz.out)
                  have x0 : wb.cell? ⟨b, o + k * 5, none⟩ = some (.string p.tables[k].name) := by simpa using hcell 0 _ rfl
                  have x1 : wb.cell? ⟨b, o + k * 5 + 1, none⟩ = some (.slice B1 p.tables[k].keys.length d1) := hcell 1 _ rfl
                  have x2 : wb.cell? ⟨b, o + k * 5 + 2, none⟩ = some (.slice B2 p.tables[k].actions.length d2) := hcell 2 _ rfl
                  have x3 : wb.cell? ⟨b, o + k * 5 + 3, none⟩ = some (.string p.tables[k].dname) := hcell 3 _ rfl
                  have x4 : wb.cell? ⟨b, o + k * 5 + 4, none⟩ = some (.slice B3 p.tables[k].dargs.length d3) := hcell 4 _ rfl
                  clear hcell hT hK hL hz
                  go_wp2_with fail
                  go_quiet (fail)
                  go_wp2
                  go_roundw
                  case rel => exact ⟨k + 1, by omega, by go_num, ⟨_, rfl, hq⟩, hide (below_drewN hbr.out _), by simpa using hzr⟩
                  case measure => simp [intOf]; omega
                · have hg := gcell' hbr.out hzr
                  have hX : ∀ d os, Hid (Calls Tryz.prog 25 #[.slice A6 p.control.length c6] (Go.Sort.grow (redrawn wr d) os) _) := fun d os => hide (stmts04_any p.control A6 c6 _ (hP.out.control.grown2 sta_st hbr.out (Nat.le_succ _) hzr d os))
                  have hcn := cntL_eq p.control
                  generalize cntL _ _ = zf at hX hcn
                  have hq := hide (itm_end hk1 hk2 (show p.tables.length ≤ k by omega) hcn hz.out)
                  clear hz hcn
                  go_wp2_with fail
                  refine wp_region_quiet_below (by kernel_rfl) (by kernel_rfl) ?_
                  repeat (any_goals (first | go_big_quiet_step (first | (go_at_call 25; with_reducible exact Calls.regrown_of (hX _ _).out) | fail) | quiet_step (first | (go_at_call 25; with_reducible exact Calls.regrown_of (hX _ _).out) | fail)))
                  refine wpQuiet_nil ?_
                  intro w2 hw2
                  replace hw2 := below_of_regrown hw2
                  go_wp2
                  go_ret
                  exact ⟨⟨_, rfl, hq.out⟩, hw.out.trans ((hbr.out.trans (hw2.mono hzr)).mono (Nat.le_succ _))⟩
end Go.Proofs.YtcgmkjpgaigmfaaGreat

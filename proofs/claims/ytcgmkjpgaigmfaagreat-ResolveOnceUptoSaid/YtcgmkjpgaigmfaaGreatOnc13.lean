import Derived.Test.YtcgmkjpgaigmfaaGreatOnc12
import Derived.Deep.DeepCutAuto
import Derived.Deep.CutBlock
set_option linter.all false
/-! Layer 7: Names: is all that an expression names there? -/
namespace Go.Proofs.YtcgmkjpgaigmfaaGreat
open Go.RowKit
theorem namesI_ne (p : Pg) (act : Int) (e : Ex) : (namesI p act e != 0) = !thereE p act e := by
  unfold namesI isI
  cases thereE p act e <;> rfl
theorem all_take_succ {α : Type} {f : α → Bool} {l : List α} {k : Nat} (hk : k < l.length) : (l.take (k + 1)).all f = ((l.take k).all f && f l[k]) := by
  rw [List.take_succ_eq_append_getElem hk, List.all_append]; simp
theorem PgS.more {w : World} {B B' : Nat} {A1 A2 A3 A4 A5 A6 A7 : Option Addr} {p : Pg} (h : PgS w B A1 A2 A3 A4 A5 A6 A7 p) (hB : B ≤ B') : PgS w B' A1 A2 A3 A4 A5 A6 A7 p :=
  ⟨h.1.more sta_hd hB, h.2.more sta_fd hB, h.3.more sta_sa hB, h.4.more sta_ac hB, h.5.more sta_ta hB, h.6.more sta_st hB, h.7.more sta_str hB⟩
set_option maxRecDepth 100000 in
set_option maxHeartbeats 4000000 in
theorem names_any (A1 A2 A3 A4 A5 A6 A7 : Option Addr) (p : Pg) (c1 c2 c3 c4 c5 c6 c7 : Nat) (act : Int) (B : Nat) (e : Ex) : ∀ (cs : List Value) (w : World), B ≤ w.heap.size → PgS w B A1 A2 A3 A4 A5 A6 A7 p → rEx w B cs e →
    Calls Tryz.prog 64 #[.agg #[.slice A1 p.headers.length c1, .slice A2 p.metas.length c2, .slice A3 p.states.length c3, .slice A4 p.actions.length c4, .slice A5 p.tables.length c5, .slice A6 p.control.length c6, .slice A7 p.emit.length c7], .int .i64 act, .agg cs.toArray] w fun r w' => r = .returned (.int .i64 (namesI p act e)) ∧ Below w.heap.size w w' := by
  induction e using Ex.ind with
  | h op lit head name hi lo args ih =>
    intro cs w hB hP h
    obtain ⟨A, cap, rfl, -, -, -, -, -, -, hs⟩ := RE.inv h
    have hl := hs.len
    replace ih := hide ih
    clear h
    show Calls _ _ #[.agg #[.slice A1 p.headers.length c1, .slice A2 p.metas.length c2, .slice A3 p.states.length c3, .slice A4 p.actions.length c4, .slice A5 p.tables.length c5, .slice A6 p.control.length c6, .slice A7 p.emit.length c7], .int .i64 act, .agg #[.int .u8 op, .int .i64 lit.1, .int .u64 lit.2.1, .int .u64 lit.2.2, .string head, .string name, .int .i64 hi, .int .i64 lo, .slice A args.length cap]] _ _
    obtain ⟨wa, hwa, hsa, hba, hca, -⟩ := box1 w #[.slice A1 p.headers.length c1, .slice A2 p.metas.length c2, .slice A3 p.states.length c3, .slice A4 p.actions.length c4, .slice A5 p.tables.length c5, .slice A6 p.control.length c6, .slice A7 p.emit.length c7] 30
    obtain ⟨wb, hwb, hsb, hbb, hcb, -⟩ := box1 wa #[.int .u8 op, .int .i64 lit.1, .int .u64 lit.2.1, .int .u64 lit.2.2, .string head, .string name, .int .i64 hi, .int .i64 lo, .slice A args.length cap] 68
    have hw := hba.trans (hbb.mono (by omega))
    have y0 : wa.cell? ⟨w.heap.size, 0, none⟩ = some (.slice A1 p.headers.length c1) := hca 0
    have y1 : wa.cell? ⟨w.heap.size, 1, none⟩ = some (.slice A2 p.metas.length c2) := hca 1
    have y2 : wa.cell? ⟨w.heap.size, 2, none⟩ = some (.slice A3 p.states.length c3) := hca 2
    have y3 : wa.cell? ⟨w.heap.size, 3, none⟩ = some (.slice A4 p.actions.length c4) := hca 3
    have y4 : wa.cell? ⟨w.heap.size, 4, none⟩ = some (.slice A5 p.tables.length c5) := hca 4
    have y5 : wa.cell? ⟨w.heap.size, 5, none⟩ = some (.slice A6 p.control.length c6) := hca 5
    have y6 : wa.cell? ⟨w.heap.size, 6, none⟩ = some (.slice A7 p.emit.length c7) := hca 6
    have q : ∀ i, wb.cell? ⟨w.heap.size, i, none⟩ = wa.cell? ⟨w.heap.size, i, none⟩ := fun i => hbb.cell (p := ⟨w.heap.size, i, none⟩) (by show w.heap.size < _; omega)
    have z0 : wb.cell? ⟨w.heap.size, 0, none⟩ = some (.slice A1 p.headers.length c1) := (q _).trans <| hca 0
    have z1 : wb.cell? ⟨w.heap.size, 1, none⟩ = some (.slice A2 p.metas.length c2) := (q _).trans <| hca 1
    have z2 : wb.cell? ⟨w.heap.size, 2, none⟩ = some (.slice A3 p.states.length c3) := (q _).trans <| hca 2
    have z3 : wb.cell? ⟨w.heap.size, 3, none⟩ = some (.slice A4 p.actions.length c4) := (q _).trans <| hca 3
    have z4 : wb.cell? ⟨w.heap.size, 4, none⟩ = some (.slice A5 p.tables.length c5) := (q _).trans <| hca 4
    have z5 : wb.cell? ⟨w.heap.size, 5, none⟩ = some (.slice A6 p.control.length c6) := (q _).trans <| hca 5
    have z6 : wb.cell? ⟨w.heap.size, 6, none⟩ = some (.slice A7 p.emit.length c7) := (q _).trans <| hca 6
    have e0 : wb.cell? ⟨w.heap.size + 1, 0, none⟩ = some (.int .u8 op) := by have := hcb 0; rw [hsa] at this; exact this
    have e4 : wb.cell? ⟨w.heap.size + 1, 4, none⟩ = some (.string head) := by have := hcb 4; rw [hsa] at this; exact this
    have e5 : wb.cell? ⟨w.heap.size + 1, 5, none⟩ = some (.string name) := by have := hcb 5; rw [hsa] at this; exact this
    have e8 : wb.cell? ⟨w.heap.size + 1, 8, none⟩ = some (.slice A args.length cap) := by have := hcb 8; rw [hsa] at this; exact this
    have hS := hide (hs.below sta_ex (hw.mono hB))
    have hP2 := hide (hP.below (hw.mono hB))
    have hzb : w.heap.size + 2 = wb.heap.size := by omega
    have hv := hide (show namesI p act (.mk op lit head name hi lo args) = isI (!(ownB p act op head name && args.all (thereE p act))) 7 from by simp only [namesI, thereE, thereL_all])
    replace hw := hide hw
    have hb0 : Below wb.heap.size wb wb := Below.refl _ _
    have hl1 : w.heap.size < wb.heap.size := by omega
    have hl2 : w.heap.size + 1 < wb.heap.size := by omega
    have hz2 : w.heap.size + 2 ≤ wb.heap.size := by omega
    clear hca hcb hs hP q y0 y1 y2 y3 y4 y5 y6 hba hbb hzb

    replace hsb := hide hsb
    go_enter Tryz.func64, Tryz.ntmps64
    go_upto_block 0 with (fail)
    go_cut [7] (fun m wx => ∃ t : Bool, m = .bool t ∧ Hid (t = !ownB p act op head name) ∧ Hid (Below wb.heap.size wb wx) ∧ wb.heap.size ≤ wx.heap.size)
    case first =>
      have hg := gcell' hb0 (Nat.le_refl _)
      by_cases h2 : op = 2
      · have o2 := hide (show ownB p act op head name = decide (0 ≤ fieldI p (headerI p head) name) from by simp [ownB, h2])
        subst h2
        have hH : ∀ d os, Hid (Calls Tryz.prog 10 #[.agg #[.slice A1 p.headers.length c1, .slice A2 p.metas.length c2, .slice A3 p.states.length c3, .slice A4 p.actions.length c4, .slice A5 p.tables.length c5, .slice A6 p.control.length c6, .slice A7 p.emit.length c7], .string head] (Go.Sort.grow (redrawn wb d) os) _) := fun d os => hide (header_any _ A1 A2 A3 A4 A5 A6 A7 p c1 c2 c3 c4 c5 c6 c7 head (by have := gsize wb d os; omega) (hP2.out.below ((below_grow hb0 (by omega) d os).mono (by omega))))
        have hF : ∀ d os, Hid (Calls Tryz.prog 59 #[.agg #[.slice A1 p.headers.length c1, .slice A2 p.metas.length c2, .slice A3 p.states.length c3, .slice A4 p.actions.length c4, .slice A5 p.tables.length c5, .slice A6 p.control.length c6, .slice A7 p.emit.length c7], .int .i64 (headerI p head), .string name] (Go.Sort.grow (redrawn wb d) os) _) := fun d os => hide (field_any _ A1 A2 A3 A4 A5 A6 A7 p c1 c2 c3 c4 c5 c6 c7 (headerI p head) name (by have := gsize wb d os; omega) (hP2.out.below ((below_grow hb0 (by omega) d os).mono (by omega))))
        generalize fieldI p (headerI p head) name = z at o2 hF
        generalize headerI p head = y at hH hF
        go_wp2_with fail
        refine wp_region_quiet_below (by kernel_rfl) (by kernel_rfl) ?_
        repeat (any_goals (first | go_big_quiet_step (first | (go_at_call 10; with_reducible exact Calls.regrown_of (hH _ _).out) | (go_at_call 59; with_reducible exact Calls.regrown_of (hF _ _).out)) | quiet_step (first | (go_at_call 10; with_reducible exact Calls.regrown_of (hH _ _).out) | (go_at_call 59; with_reducible exact Calls.regrown_of (hF _ _).out))))
        refine wpQuiet_nil ?_
        intro w1 hw1
        replace hw1 := below_of_regrown hw1
        go_wp2
        go_meet
        exact ⟨_, rfl, hide (by rw [o2.out, ← decide_not]; simp), hide hw1, hw1.size⟩
      · by_cases h3 : op = 3
        · have o2 := hide (show ownB p act op head name = decide (0 ≤ metaI p name) from by simp [ownB, h3])
          have hX := hide (meta_any wb A1 A2 A3 A4 A5 A6 A7 p c1 c2 c3 c4 c5 c6 c7 name (show B ≤ wb.heap.size by omega) hP2.out)
          generalize metaI p name = z at o2 hX
          subst h3
          clear h2
          go_wp2_with (go_at_call 60; refine hX.out.mono ?_; rintro e w1 ⟨rfl, hw1⟩)
          go_meet
          exact ⟨_, rfl, hide (by rw [o2.out, ← decide_not]; simp), hide hw1, hw1.size⟩
        · by_cases h4 : op = 4
          · have o2 := hide (show ownB p act op head name = decide (0 ≤ paramI p act name) from by simp [ownB, h4])
            have hX := hide (param_any wb A1 A2 A3 A4 A5 A6 A7 p c1 c2 c3 c4 c5 c6 c7 act name (show B ≤ wb.heap.size by omega) hP2.out)
            generalize paramI p act name = z at o2 hX
            subst h4
            clear h2 h3
            go_wp2_with (go_at_call 62; refine hX.out.mono ?_; rintro e w1 ⟨rfl, hw1⟩)
            go_meet
            exact ⟨_, rfl, hide (by rw [o2.out, ← decide_not]; simp), hide hw1, hw1.size⟩
          · by_cases h6 : op = 6
            · have o2 := hide (show ownB p act op head name = decide (0 ≤ headerI p head) from by simp [ownB, h6])
              have hX := hide (header_any wb A1 A2 A3 A4 A5 A6 A7 p c1 c2 c3 c4 c5 c6 c7 head (show B ≤ wb.heap.size by omega) hP2.out)
              generalize headerI p head = z at o2 hX
              subst h6
              clear h2 h3 h4
              go_wp2_with (go_at_call 10; refine hX.out.mono ?_; rintro e w1 ⟨rfl, hw1⟩)
              go_meet
              exact ⟨_, rfl, hide (by rw [o2.out, ← decide_not]; simp), hide hw1, hw1.size⟩
            · have o2 := hide (show ownB p act op head name = true from by simp [ownB, h2, h3, h4, h6])
              go_wp2
              go_meet
              exact ⟨_, rfl, hide (by rw [o2.out]; rfl), hide hb0, Nat.le_refl _⟩
    case rest =>
      obtain ⟨t, rfl, hct, hbc, hzc⟩ := hcut
      obtain ⟨wd, rfl⟩ : ∃ wd : World, wd = wc := ⟨_, rfl⟩
      have hc := bcell' hbc.out
      generalize ownB p act op head name = g at hv hct
      go_wp2
      go_loopw [7, 48] (fun m i wr => ∃ k : Nat, k ≤ args.length ∧ i = .int .i64 k ∧ (∃ t : Bool, m = .bool t ∧ Hid (t = !(g && (args.take k).all (thereE p act)))) ∧ Hid (Below wb.heap.size wb wr) ∧ wb.heap.size ≤ wr.heap.size) (fun _ i _ => args.length - (intOf i).toNat)
      case atStart => exact ⟨0, Nat.zero_le _, rfl, ⟨t, rfl, hide (by rw [hct.out]; simp)⟩, hbc, hzc⟩
      case round =>
        clear hc hbc hzc hct t
        obtain ⟨k, hk, rfl, ⟨t, rfl, ht0⟩, hbr, hzr⟩ := hrel
        have hc := bcell' hbr.out
        by_cases hlt : k < args.length
        · obtain ⟨b, o, ecs, hA, hb, hel, hcell, hr⟩ := hS.out.2 k _ (List.getElem?_eq_getElem hlt)
          subst hA
          have hltz : (k : Int) < (args.length : Int) := by omega
          have hcall := fun (wx : World) (h1 : wb.heap.size ≤ wx.heap.size) (h2 : Below wb.heap.size wb wx) => ih.out _ (List.getElem_mem hlt) ecs wx (by omega) (hP2.out.below (h2.mono (by omega))) (sta_ex.keep hr fun q hq => (h2.mono (show B ≤ _ by omega)).cell hq)
          have hne := hide (namesI_ne p act args[k])
          have ht := hide (all_take_succ (f := thereE p act) hlt)
          have hrc := hide hr
          generalize args[k] = x at hr
          obtain ⟨op', lit', head', name', hi', lo', args'⟩ := x
          obtain ⟨A', cap', rfl, -, -, -, -, -, -, hs'⟩ := RE.inv hr
          have hl' := hs'.len
          obtain ⟨wx, hwx, hzx, hbx, hcx, -⟩ := box1 wr #[.int .u8 op', .int .i64 lit'.1, .int .u64 lit'.2.1, .int .u64 lit'.2.2, .string head', .string name', .int .i64 hi', .int .i64 lo', .slice A' args'.length cap'] 68
          have x0 : wb.cell? ⟨b, o + k * 9, none⟩ = some (.int .u8 op') := by simpa using hcell 0 _ rfl
          have x1 : wb.cell? ⟨b, o + k * 9 + 1, none⟩ = some (.int .i64 lit'.1) := hcell 1 _ rfl
          have x2 : wb.cell? ⟨b, o + k * 9 + 2, none⟩ = some (.int .u64 lit'.2.1) := hcell 2 _ rfl
          have x3 : wb.cell? ⟨b, o + k * 9 + 3, none⟩ = some (.int .u64 lit'.2.2) := hcell 3 _ rfl
          have x4 : wb.cell? ⟨b, o + k * 9 + 4, none⟩ = some (.string head') := hcell 4 _ rfl
          have x5 : wb.cell? ⟨b, o + k * 9 + 5, none⟩ = some (.string name') := hcell 5 _ rfl
          have x6 : wb.cell? ⟨b, o + k * 9 + 6, none⟩ = some (.int .i64 hi') := hcell 6 _ rfl
          have x7 : wb.cell? ⟨b, o + k * 9 + 7, none⟩ = some (.int .i64 lo') := hcell 7 _ rfl
          have x8 : wb.cell? ⟨b, o + k * 9 + 8, none⟩ = some (.slice A' args'.length cap') := hcell 8 _ rfl
          have v0 : wx.cell? ⟨wr.heap.size, 0, none⟩ = some (.int .u8 op') := hcx 0
          have v1 : wx.cell? ⟨wr.heap.size, 1, none⟩ = some (.int .i64 lit'.1) := hcx 1
          have v2 : wx.cell? ⟨wr.heap.size, 2, none⟩ = some (.int .u64 lit'.2.1) := hcx 2
          have v3 : wx.cell? ⟨wr.heap.size, 3, none⟩ = some (.int .u64 lit'.2.2) := hcx 3
          have v4 : wx.cell? ⟨wr.heap.size, 4, none⟩ = some (.string head') := hcx 4
          have v5 : wx.cell? ⟨wr.heap.size, 5, none⟩ = some (.string name') := hcx 5
          have v6 : wx.cell? ⟨wr.heap.size, 6, none⟩ = some (.int .i64 hi') := hcx 6
          have v7 : wx.cell? ⟨wr.heap.size, 7, none⟩ = some (.int .i64 lo') := hcx 7
          have v8 : wx.cell? ⟨wr.heap.size, 8, none⟩ = some (.slice A' args'.length cap') := hcx 8
          have hbX := hbr.out.trans (hbx.mono hzr)
          have hcX := bcell' hbX
          have hX : Calls Tryz.prog 64 #[.agg #[.slice A1 p.headers.length c1, .slice A2 p.metas.length c2, .slice A3 p.states.length c3, .slice A4 p.actions.length c4, .slice A5 p.tables.length c5, .slice A6 p.control.length c6, .slice A7 p.emit.length c7], .int .i64 act, .agg #[.int .u8 op', .int .i64 lit'.1, .int .u64 lit'.2.1, .int .u64 lit'.2.2, .string head', .string name', .int .i64 hi', .int .i64 lo', .slice A' args'.length cap']] wx _ := hcall wx (by omega) hbX
          replace hbX := hide hbX
          have hb' : b < wb.heap.size := by omega
          have hX' := hide hX
          clear hcell hr hcx hbx hcall hX hrc hs'
          cases t with
          | true =>
            go_wp2
            go_roundw
            case rel => exact ⟨k + 1, by omega, by go_num, ⟨_, rfl, hide (by rw [ht.out]; have := ht0.out; revert this; cases g <;> cases (args.take k).all (thereE p act) <;> simp)⟩, hbX, by omega⟩
            case measure => simp [intOf]; omega
          | false =>
            go_wp2_with (go_at_call 64; refine hX'.out.mono ?_; rintro e w' ⟨rfl, hw1⟩)
            go_roundw
            case rel => exact ⟨k + 1, by omega, by go_num, ⟨_, rfl, hide (by rw [ht.out]; have := ht0.out; revert this; rw [hne.out]; cases g <;> cases (args.take k).all (thereE p act) <;> simp)⟩, hide (hbX.out.trans (hw1.mono (by omega))), by have := hw1.size; omega⟩
            case measure => simp [intOf]; omega
        · have hfull := hide (show t = !(g && args.all (thereE p act)) from by rw [ht0.out, List.take_of_length_le (by omega)])
          go_wp2_with (go_at_call 57; refine (is_any _ _ _).mono ?_; rintro e w' ⟨rfl, rfl⟩)
          go_ret
          exact ⟨ret_int (by rw [hv.out, hfull.out]), hw.out.trans (hbr.out.mono (by omega))⟩
end Go.Proofs.YtcgmkjpgaigmfaaGreat

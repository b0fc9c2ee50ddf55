import Derived.Test.YtcgmkjpgaigmfaaGreatOnc14
set_option linter.all false
/-! Layer 7: fixed: what is wrong with a default. -/
namespace Go.Proofs.YtcgmkjpgaigmfaaGreat
open Go.RowKit
theorem findI_range {α : Type} [DecidableEq α] {l : List α} {a : α} (h : ¬ findI l a < 0) : ∃ k : Nat, k < l.length ∧ findI l a = (k : Int) := by
  unfold findI at h ⊢
  by_cases hm : a ∈ l
  · rw [if_pos hm]; exact ⟨_, idx_lt a l hm, rfl⟩
  · rw [if_neg hm] at h; omega
set_option maxRecDepth 100000 in
set_option maxHeartbeats 4000000 in
theorem fixed_any (A1 A2 A3 A4 A5 A6 A7 : Option Addr) (p : Pg) (c1 c2 c3 c4 c5 c6 c7 : Nat) (B : Nat) (t : Ta) (B1 B2 B3 : Option Addr) (d1 d2 d3 : Nat) (w : World) (hB : B ≤ w.heap.size) (hP : PgS w B A1 A2 A3 A4 A5 A6 A7 p) (lk : t.keys.length ≤ maxLen) (hA : Sl 1 rStr w B B2 t.actions) (ld : t.dargs.length ≤ maxLen) :
    Calls Tryz.prog 66 #[.agg #[.slice A1 p.headers.length c1, .slice A2 p.metas.length c2, .slice A3 p.states.length c3, .slice A4 p.actions.length c4, .slice A5 p.tables.length c5, .slice A6 p.control.length c6, .slice A7 p.emit.length c7], .agg #[.string t.name, .slice B1 t.keys.length d1, .slice B2 t.actions.length d2, .string t.dname, .slice B3 t.dargs.length d3]] w fun r w' => r = .returned (.int .i64 (fixedI p t)) ∧ Below w.heap.size w w' := by
  have l1 : t.keys.length ≤ 9223372036854775807 := lk
  have l2 := hA.len
  have l3 : t.dargs.length ≤ 9223372036854775807 := ld
  obtain ⟨wa, hwa, hsa, hba, hca, -⟩ := box1 w #[.slice A1 p.headers.length c1, .slice A2 p.metas.length c2, .slice A3 p.states.length c3, .slice A4 p.actions.length c4, .slice A5 p.tables.length c5, .slice A6 p.control.length c6, .slice A7 p.emit.length c7] 30
  obtain ⟨wb, hwb, hsb, hbb, hcb, -⟩ := box1 wa #[.string t.name, .slice B1 t.keys.length d1, .slice B2 t.actions.length d2, .string t.dname, .slice B3 t.dargs.length d3] 48
  have hw := hba.trans (hbb.mono (by omega))
  have q : ∀ i, wb.cell? ⟨w.heap.size, i, none⟩ = wa.cell? ⟨w.heap.size, i, none⟩ := fun i => hbb.cell (p := ⟨w.heap.size, i, none⟩) (by show w.heap.size < _; omega)
  have z0 : wb.cell? ⟨w.heap.size, 0, none⟩ = some (.slice A1 p.headers.length c1) := (q _).trans <| hca 0
  have z1 : wb.cell? ⟨w.heap.size, 1, none⟩ = some (.slice A2 p.metas.length c2) := (q _).trans <| hca 1
  have z2 : wb.cell? ⟨w.heap.size, 2, none⟩ = some (.slice A3 p.states.length c3) := (q _).trans <| hca 2
  have z3 : wb.cell? ⟨w.heap.size, 3, none⟩ = some (.slice A4 p.actions.length c4) := (q _).trans <| hca 3
  have z4 : wb.cell? ⟨w.heap.size, 4, none⟩ = some (.slice A5 p.tables.length c5) := (q _).trans <| hca 4
  have z5 : wb.cell? ⟨w.heap.size, 5, none⟩ = some (.slice A6 p.control.length c6) := (q _).trans <| hca 5
  have z6 : wb.cell? ⟨w.heap.size, 6, none⟩ = some (.slice A7 p.emit.length c7) := (q _).trans <| hca 6
  simp only [hsa] at hcb
  have y0 : wb.cell? ⟨w.heap.size + 1, 0, none⟩ = some (.string t.name) := hcb 0
  have y1 : wb.cell? ⟨w.heap.size + 1, 1, none⟩ = some (.slice B1 t.keys.length d1) := hcb 1
  have y2 : wb.cell? ⟨w.heap.size + 1, 2, none⟩ = some (.slice B2 t.actions.length d2) := hcb 2
  have y3 : wb.cell? ⟨w.heap.size + 1, 3, none⟩ = some (.string t.dname) := hcb 3
  have y4 : wb.cell? ⟨w.heap.size + 1, 4, none⟩ = some (.slice B3 t.dargs.length d3) := hcb 4
  have hl1 : w.heap.size < wb.heap.size := by omega
  have hl2 : w.heap.size + 1 < wb.heap.size := by omega
  have hz2 : w.heap.size + 2 ≤ wb.heap.size := by omega
  have hBb : B ≤ wb.heap.size := by omega
  have hP2 := hide (hP.below (hw.mono hB))
  have hA2 := hide ((hA.below sta_str (hw.mono hB)).more sta_str hBb)
  have la := hP.actions.len
  obtain ⟨r, hr⟩ : ∃ r, fixedI p t = r := ⟨_, rfl⟩
  have hv := hide hr
  simp only [fixedI] at hv
  replace hr := hide hr
  replace hw := hide hw
  have hb0 : Below wb.heap.size wb wb := Below.refl _ _
  have hC := scontainsS_any B2 d2 t.actions t.dname wb hA2.out
  have hAc := hide (action_any wb A1 A2 A3 A4 A5 A6 A7 p c1 c2 c3 c4 c5 c6 c7 t.dname hBb hP2.out)
  clear hca hcb hP q hba hbb hA
  replace hsb := hide hsb
  go_enter Tryz.func66, Tryz.ntmps66
  by_cases hm : t.dname ∈ t.actions
  · rw [decide_eq_true hm] at hC
    replace hC := hide hC
    simp only [if_pos hm] at hv
    clear hm
    by_cases h0 : actionI p t.dname < 0
    · simp only [if_pos h0] at hv
      generalize actionI p t.dname = z at h0 hAc
      go_wp2_with (first | (go_at_call 121; refine hC.out.mono ?_; rintro e w' ⟨rfl, rfl⟩) | (go_at_call 12; refine hAc.out.mono ?_; rintro e w1 ⟨rfl, hw1⟩))
      go_ret
      exact ⟨ret_int (hv.out.trans hr.out.symm), hw.out.trans (hw1.mono (by omega))⟩
    · simp only [if_neg h0] at hv
      obtain ⟨k, hk, he⟩ := findI_range (l := p.actions.map Ac.name) (a := t.dname) h0
      rw [List.length_map] at hk
      have hvk : actionI p t.dname = (k : Int) := he
      rw [hvk, Int.toNat_natCast, List.getElem?_eq_getElem hk, Option.elim_some] at hv
      rw [hvk] at hAc
      clear he h0 hvk
      obtain ⟨b, o, ecs, hA4, hb, hel, hcell, A', c', A'', c'', rfl, hn, hF, hG⟩ := hP2.out.actions.2 k _ (List.getElem?_eq_getElem hk)
      subst hA4
      have l4 := hF.len
      have l5 := hG.len
      have hbw : b < wb.heap.size := by omega
      have x0 : wb.cell? ⟨b, o + k * 3, none⟩ = some (.string p.actions[k].name) := by simpa using hcell 0 _ rfl
      have x1 : wb.cell? ⟨b, o + k * 3 + 1, none⟩ = some (.slice A' p.actions[k].params.length c') := hcell 1 _ rfl
      have x2 : wb.cell? ⟨b, o + k * 3 + 2, none⟩ = some (.slice A'' p.actions[k].body.length c'') := hcell 2 _ rfl
      have hkz : (k : Int) < (p.actions.length : Int) := by omega
      clear hcell hF hG
      generalize p.actions[k].params.length = n at *
      simp only [Int.ofNat_lt] at hv
      go_wp2_with (first | (go_at_call 121; refine hC.out.mono ?_; rintro e w' ⟨rfl, rfl⟩) | (go_at_call 12; refine hAc.out.mono ?_; rintro e w1 ⟨rfl, hw1⟩; have hc1 := bcell' hw1))
      have hg1 := gcell' hw1 hw1.size
      have hi1 : ∀ b n d os, Hid (Calls Tryz.prog 57 #[.bool b, .int .i64 n] (Go.Sort.grow (redrawn w1 d) os) _) := fun b n d os => hide (is_b b n _)
      have he1 : ∀ x y d os, Hid (Calls Tryz.prog 58 #[.int .i64 x, .int .i64 y] (Go.Sort.grow (redrawn w1 d) os) _) := fun x y d os => hide (either_b x y _)
      replace hw1 := hide hw1
      refine wp_region_quiet_below (by kernel_rfl) (by kernel_rfl) ?_
      repeat (any_goals (first | go_big_quiet_step (first | (go_at_call 57; with_reducible exact Calls.regrown_of (hi1 _ _ _ _).out) | (go_at_call 58; with_reducible exact Calls.regrown_of (he1 _ _ _ _).out)) | quiet_step (first | (go_at_call 57; with_reducible exact Calls.regrown_of (hi1 _ _ _ _).out) | (go_at_call 58; with_reducible exact Calls.regrown_of (he1 _ _ _ _).out))))
      refine wpQuiet_nil ?_
      intro w2 hw2
      replace hw2 := below_of_regrown hw2
      go_wp2
      go_ret
      exact ⟨ret_int (hv.out.trans hr.out.symm), (hw.out.trans (hw1.out.mono (by omega))).trans (hw2.mono (by have := hw1.out.size; omega))⟩
  · rw [decide_eq_false hm] at hC
    replace hC := hide hC
    simp only [if_neg hm] at hv
    go_wp2_with (go_at_call 121; refine hC.out.mono ?_; rintro e w' ⟨rfl, rfl⟩)
    go_ret
    exact ⟨ret_int (hv.out.trans hr.out.symm), hw.out⟩
end Go.Proofs.YtcgmkjpgaigmfaaGreat

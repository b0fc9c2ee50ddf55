import Derived.Test.YtcgmkjpgaigmfaaGreatOnc08
set_option linter.all false
namespace Go.Proofs.YtcgmkjpgaigmfaaGreat
open Go.RowKit
set_option maxHeartbeats 1000000 in
theorem ofField_any (s : ByteArray) (a1 : Value) (w : World) : Calls Tryz.prog 119 #[.agg #[.string s, a1]] w fun e w' => e = .returned (.string s) ∧ Below w.heap.size w w' := by
  obtain ⟨wb, hwb, hsz, hw, hcb, -⟩ := box1 w #[.string s, a1] 84
  have y0 : wb.cell? ⟨w.heap.size, 0, none⟩ = some (.string s) := hcb 0
  have y1 : wb.cell? ⟨w.heap.size, 1, none⟩ = some a1 := hcb 1
  replace hw := hide hw
  clear hcb
  go_enter Tryz.func119, Tryz.ntmps119
  go_wp2
  go_ret
  exact ⟨rfl, hw.out⟩
theorem enters_ofField : ∀ args w, (callFunc 119 args).run Tryz.prog w = .ok (.enter 119 args) w := enters_of Tryz.func119 (by kernel_rfl) rfl
theorem enters_find_Field : ∀ args w, (callFunc 165 args).run Tryz.prog w = .ok (.enter 165 args) w := enters_of Tryz.func165 (by kernel_rfl) rfl
set_option maxHeartbeats 1000000 in
theorem find_Field (A : Option Addr) (cap : Nat) (xs : List Fd) (s : ByteArray) (w : World) {B : Nat} (hB : B ≤ w.heap.size) (h : Sl 2 rFd w B A xs) :
    Calls Tryz.prog 118 #[.slice A xs.length cap, .string s, .func (.func 119) #[] #[]] w fun e w' => e = .returned (.int .i64 (fieldsI xs s)) ∧ Below w.heap.size w w' := by
  obtain ⟨w1, hw1, hz1, hb1, hc1, -⟩ := box1 w #[.string s] 9
  obtain ⟨w2, hw2, hz2, hb2, hc2, -⟩ := box1 w1 #[.func (.func 119) #[] #[]] 146
  have hb12 := hb1.trans (hb2.mono (by omega))
  have hg : FnR aggV 2 B rFd 165 #[.pointer (some ⟨(w.heap.size + 1), 0, none⟩), .pointer (some ⟨w.heap.size, 0, none⟩)] (fun x : Fd => decide (x.1 = s)) xs w2 := fun i x cs W hx hb hr hel => by
    obtain ⟨rfl, -, -⟩ := hr
    obtain ⟨wc, hwc, hzc, hc, hcc, -⟩ := box1 W #[.string x.1, .int .i64 x.2] 84
    have hsW := hb.size
    have y0 : wc.cell? ⟨W.heap.size, 0, none⟩ = some (.string x.1) := hcc 0
    have y1 : wc.cell? ⟨W.heap.size, 1, none⟩ = some (.int .i64 x.2) := hcc 1
    have e1 : wc.cell? ⟨(w.heap.size + 1), 0, none⟩ = some (.func (.func 119) #[] #[]) := (hc.cell (p := ⟨(w.heap.size + 1), 0, none⟩) (by show w.heap.size + 1 < _; omega)).trans ((hb.cell (p := ⟨(w.heap.size + 1), 0, none⟩) (by show w.heap.size + 1 < _; omega)).trans (by have := hc2 0; rw [hz1] at this; exact this))
    have e0' : W.cell? ⟨w.heap.size, 0, none⟩ = some (.string s) := (hb.cell (p := ⟨w.heap.size, 0, none⟩) (by show w.heap.size < _; omega)).trans ((hb2.cell (p := ⟨w.heap.size, 0, none⟩) (by show w.heap.size < _; omega)).trans (hc1 0))
    have e0 : wc.cell? ⟨w.heap.size, 0, none⟩ = some (.string s) := (hc.cell (p := ⟨w.heap.size, 0, none⟩) (by show w.heap.size < _; omega)).trans e0'
    have hcall : ∀ d os, Hid (Calls Tryz.prog 119 #[.agg #[.string x.1, .int .i64 x.2]] (Go.Sort.grow (redrawn wc d) os) _) := fun d os => hide (ofField_any x.1 (.int .i64 x.2) _)
    have hg := gcell' (show Below wc.heap.size wc wc from Below.refl _ _) (Nat.le_refl _)
    have hlt1 : (w.heap.size + 1) < wc.heap.size := by omega
    have hlt2 : W.heap.size < wc.heap.size := by omega
    have hlt3 : w.heap.size < W.heap.size := by omega
    have hlt4 : w.heap.size < W.heap.size + 1 := by omega
    have hlt5 : w.heap.size + 1 < W.heap.size := by omega
    have hlt0 : w.heap.size < wc.heap.size := by omega
    have eg := enters_ofField
    replace hc := hide hc
    clear hcc
    show Calls _ _ (#[.agg #[.string x.1, .int .i64 x.2], .pointer (some ⟨(w.heap.size + 1), 0, none⟩), .pointer (some ⟨w.heap.size, 0, none⟩)]) _ _
    go_enter Tryz.func165, Tryz.ntmps165
    go_wp2_with fail
    replace hg := fun d os b o h => hg d os b o h
    refine wp_region_quiet_below (by kernel_rfl) (by kernel_rfl) ?_
    repeat (any_goals (first | go_big_quiet_step (first | (go_at_fn 119; with_reducible exact Calls.regrown_of (hcall _ _).out) | (go_at_call 119; with_reducible exact Calls.regrown_of (hcall _ _).out)) | quiet_step (first | (go_at_fn 119; with_reducible exact Calls.regrown_of (hcall _ _).out) | (go_at_call 119; with_reducible exact Calls.regrown_of (hcall _ _).out))))
    refine wpQuiet_nil ?_
    intro w3 hw3
    replace hw3 := below_of_regrown hw3
    go_wp2
    go_ret
    exact ⟨ret_b (str_beq _ _), hc.out.trans (hw3.mono (by omega))⟩
  have hv := hide (idxA_name Prod.fst s xs)
  have hS := hide (h.below sta_fd (hb12.mono hB))
  replace hg := hide hg
  clear hc1 hc2
  go_enter Tryz.func118, Tryz.ntmps118
  go_wp2_with (go_at_call 143; refine (indexFunc_Field (R := rFd) (B := B) sta_fd 165 #[.pointer (some ⟨(w.heap.size + 1), 0, none⟩), .pointer (some ⟨w.heap.size, 0, none⟩)] enters_find_Field (fun x : Fd => decide (x.1 = s)) A cap xs w2 (by omega) hS.out hg.out).mono ?_; rintro e w' ⟨rfl, hb⟩)
  go_ret
  exact ⟨ret_int hv.out, hb12.trans (hb.mono (by omega))⟩
end Go.Proofs.YtcgmkjpgaigmfaaGreat

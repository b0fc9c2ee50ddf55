import Derived.Test.YtbbdhknagofghaaGreatWhl06
set_option linter.all false
namespace Go.Proofs.YtbbdhknagofghaaGreat
open Go.RowKit
set_option maxHeartbeats 1000000 in
theorem ofField_any (s : ByteArray) (a1 : Value) (w : World) : Calls Tryz.prog 154 #[.agg #[.string s, a1]] w fun e w' => e = .returned (.string s) ∧ Below w.heap.size w w' := by
 obtain ⟨wb, hwb, hsz, hw, hcb, -⟩ := box1 w #[.string s, a1] 84
 have y0 : wb.cell? ⟨w.heap.size, 0, none⟩ = some (.string s) := hcb 0
 have y1 : wb.cell? ⟨w.heap.size, 1, none⟩ = some a1 := hcb 1
 replace hw := hide hw
 clear hcb
 go_enter Tryz.func154, Tryz.ntmps154
 go_wp2
 go_ret
 exact ⟨rfl, hw.out⟩
theorem enters_ofField : ∀ args w, (callFunc 154 args).run Tryz.prog w = .ok (.enter 154 args) w := enters_of Tryz.func154 (by kernel_rfl) rfl
theorem enters_find_Field : ∀ args w, (callFunc 205 args).run Tryz.prog w = .ok (.enter 205 args) w := enters_of Tryz.func205 (by kernel_rfl) rfl
set_option maxHeartbeats 1000000 in
theorem find_Field (A : Option Addr) (cap : Nat) (xs : List Fd) (s : ByteArray) (w : World) {B : Nat} (hB : B ≤ w.heap.size) (h : Sl 2 rFd w B A xs) :
  Calls Tryz.prog 153 #[.slice A xs.length cap, .string s, .func (.func 154) #[] #[]] w fun e w' => e = .returned (.int .i64 (fieldsI xs s)) ∧ Below w.heap.size w w' := by
 obtain ⟨w1, hw1, hz1, hb1, hc1, -⟩ := box1 w #[.string s] 9
 obtain ⟨w2, hw2, hz2, hb2, hc2, -⟩ := box1 w1 #[.func (.func 154) #[] #[]] 175
 have hb12 := hb1.trans (hb2.mono (by omega))
 have hg : FnR aggV 2 B rFd 205 #[.pointer (some ⟨(w.heap.size + 1), 0, none⟩), .pointer (some ⟨w.heap.size, 0, none⟩)] (fun x : Fd => decide (x.1 = s)) xs w2 := fun i x cs W hx hb hr hel => by
  obtain ⟨rfl, -, -⟩ := hr
  obtain ⟨wc, hwc, hzc, hc, hcc, -⟩ := box1 W #[.string x.1, .int .i64 x.2] 84
  have hsW := hb.size
  have y0 : wc.cell? ⟨W.heap.size, 0, none⟩ = some (.string x.1) := hcc 0
  have y1 : wc.cell? ⟨W.heap.size, 1, none⟩ = some (.int .i64 x.2) := hcc 1
  have e1 : wc.cell? ⟨(w.heap.size + 1), 0, none⟩ = some (.func (.func 154) #[] #[]) := (hc.cell (p := ⟨(w.heap.size + 1), 0, none⟩) (by show w.heap.size + 1 < _; omega)).trans ((hb.cell (p := ⟨(w.heap.size + 1), 0, none⟩) (by show w.heap.size + 1 < _; omega)).trans (by have := hc2 0; rw [hz1] at this; exact this))
  have e0' : W.cell? ⟨w.heap.size, 0, none⟩ = some (.string s) := (hb.cell (p := ⟨w.heap.size, 0, none⟩) (by show w.heap.size < _; omega)).trans ((hb2.cell (p := ⟨w.heap.size, 0, none⟩) (by show w.heap.size < _; omega)).trans (hc1 0))
  have e0 : wc.cell? ⟨w.heap.size, 0, none⟩ = some (.string s) := (hc.cell (p := ⟨w.heap.size, 0, none⟩) (by show w.heap.size < _; omega)).trans e0'
  have hcall : ∀ d os, Hid (Calls Tryz.prog 154 #[.agg #[.string x.1, .int .i64 x.2]] (Go.Sort.grow (redrawn wc d) os) _) := fun d os => hide (ofField_any x.1 (.int .i64 x.2) _)
  have hg := gcell' (show Below wc.heap.size wc wc from Below.refl _ _) (Nat.le_refl _)
  have hlt1 : (w.heap.size + 1) < wc.heap.size := by omega
  have hlt2 : W.heap.size < wc.heap.size := by omega
  have hlt3 : w.heap.size < W.heap.size := by omega
  have hlt4 : w.heap.size < W.heap.size + 1 := by omega
  have hlt5 : w.heap.size + 1 < W.heap.size := by omega
  have hlt0 : w.heap.size < wc.heap.size := by omega
  have eg := enters_ofField
  replace hc := hide hc
  clear hcc
  show Calls _ _ (#[.agg #[.string x.1, .int .i64 x.2], .pointer (some ⟨(w.heap.size + 1), 0, none⟩), .pointer (some ⟨w.heap.size, 0, none⟩)]) _ _
  go_enter Tryz.func205, Tryz.ntmps205
  go_wp2_with fail
  replace hg := fun d os b o h => hg d os b o h
  refine wp_region_quiet_below (by kernel_rfl) (by kernel_rfl) ?_
  repeat (any_goals (first | go_big_quiet_step (first | (go_at_fn 154; with_reducible exact Calls.regrown_of (hcall _ _).out) | (go_at_call 154; with_reducible exact Calls.regrown_of (hcall _ _).out)) | quiet_step (first | (go_at_fn 154; with_reducible exact Calls.regrown_of (hcall _ _).out) | (go_at_call 154; with_reducible exact Calls.regrown_of (hcall _ _).out))))
  refine wpQuiet_nil ?_
  intro w3 hw3
  replace hw3 := below_of_regrown hw3
  go_wp2
  go_ret
  exact ⟨ret_b (str_beq _ _), hc.out.trans (hw3.mono (by omega))⟩
 have hv := hide (idxA_name Prod.fst s xs)
 have hS := hide (h.below sta_fd (hb12.mono hB))
 replace hg := hide hg
 clear hc1 hc2
 go_enter Tryz.func153, Tryz.ntmps153
 go_wp2_with (go_at_call 188; refine (indexFunc_Field (R := rFd) (B := B) sta_fd 205 #[.pointer (some ⟨(w.heap.size + 1), 0, none⟩), .pointer (some ⟨w.heap.size, 0, none⟩)] enters_find_Field (fun x : Fd => decide (x.1 = s)) A cap xs w2 (by omega) hS.out hg.out).mono ?_; rintro e w' ⟨rfl, hb⟩)
 go_ret
 exact ⟨ret_int hv.out, hb12.trans (hb.mono (by omega))⟩
end Go.Proofs.YtbbdhknagofghaaGreat
/-! Printed by gen_find.py: resolve.find over headers, actions, tables, states. -/
namespace Go.Proofs.YtbbdhknagofghaaGreat
open Go.RowKit
theorem first_Header {w : World} {B : Nat} {cs : List Value} {x : Hd} (h : rHd w B cs x) : ∃ tl, cs = .string x.name :: tl := by
 obtain ⟨A, cap, rfl, _⟩ := h
 exact ⟨_, rfl⟩
set_option maxHeartbeats 1000000 in
theorem ofHeader_any (s : ByteArray) (a1 : Value) (w : World) : Calls Tryz.prog 152 #[.agg #[.string s, a1]] w fun e w' => e = .returned (.string s) ∧ Below w.heap.size w w' := by
 obtain ⟨wb, hwb, hsz, hw, hcb, -⟩ := box1 w #[.string s, a1] 66
 have y0 : wb.cell? ⟨w.heap.size, 0, none⟩ = some (.string s) := hcb 0
 have y1 : wb.cell? ⟨w.heap.size, 1, none⟩ = some a1 := hcb 1
 replace hw := hide hw
 clear hcb
 go_enter Tryz.func152, Tryz.ntmps152
 go_wp2
 go_ret
 exact ⟨rfl, hw.out⟩
theorem enters_ofHeader : ∀ args w, (callFunc 152 args).run Tryz.prog w = .ok (.enter 152 args) w := enters_of Tryz.func152 (by kernel_rfl) rfl
theorem enters_find_Header : ∀ args w, (callFunc 204 args).run Tryz.prog w = .ok (.enter 204 args) w := enters_of Tryz.func204 (by kernel_rfl) rfl
set_option maxHeartbeats 1000000 in
theorem find_Header (A : Option Addr) (cap : Nat) (xs : List Hd) (s : ByteArray) (w : World) {B : Nat} (hB : B ≤ w.heap.size) (h : Sl 2 rHd w B A xs) :
  Calls Tryz.prog 151 #[.slice A xs.length cap, .string s, .func (.func 152) #[] #[]] w fun e w' => e = .returned (.int .i64 (findI (xs.map Hd.name) s)) ∧ Below w.heap.size w w' := by
 obtain ⟨w1, hw1, hz1, hb1, hc1, -⟩ := box1 w #[.string s] 9
 obtain ⟨w2, hw2, hz2, hb2, hc2, -⟩ := box1 w1 #[.func (.func 152) #[] #[]] 173
 have hb12 := hb1.trans (hb2.mono (by omega))
 have hg : FnR aggV 2 B rHd 204 #[.pointer (some ⟨(w.heap.size + 1), 0, none⟩), .pointer (some ⟨w.heap.size, 0, none⟩)] (fun x : Hd => decide (x.name = s)) xs w2 := fun i x cs W hx hb hr hel => by
  obtain ⟨tl, rfl⟩ : ∃ tl, cs = .string x.name :: tl := first_Header hr
  obtain ⟨a1, rfl⟩ : ∃ a1, tl = [a1] := by
   match tl, hel with
   | [a1], _ => exact ⟨a1, rfl⟩
  obtain ⟨wc, hwc, hzc, hc, hcc, -⟩ := box1 W #[.string x.name, a1] 66
  have hsW := hb.size
  have y0 : wc.cell? ⟨W.heap.size, 0, none⟩ = some (.string x.name) := hcc 0
  have y1 : wc.cell? ⟨W.heap.size, 1, none⟩ = some a1 := hcc 1
  have e1 : wc.cell? ⟨(w.heap.size + 1), 0, none⟩ = some (.func (.func 152) #[] #[]) := (hc.cell (p := ⟨(w.heap.size + 1), 0, none⟩) (by show w.heap.size + 1 < _; omega)).trans ((hb.cell (p := ⟨(w.heap.size + 1), 0, none⟩) (by show w.heap.size + 1 < _; omega)).trans (by have := hc2 0; rw [hz1] at this; exact this))
  have e0' : W.cell? ⟨w.heap.size, 0, none⟩ = some (.string s) := (hb.cell (p := ⟨w.heap.size, 0, none⟩) (by show w.heap.size < _; omega)).trans ((hb2.cell (p := ⟨w.heap.size, 0, none⟩) (by show w.heap.size < _; omega)).trans (hc1 0))
  have e0 : wc.cell? ⟨w.heap.size, 0, none⟩ = some (.string s) := (hc.cell (p := ⟨w.heap.size, 0, none⟩) (by show w.heap.size < _; omega)).trans e0'
  have hcall : ∀ d os, Hid (Calls Tryz.prog 152 #[.agg #[.string x.name, a1]] (Go.Sort.grow (redrawn wc d) os) _) := fun d os => hide (ofHeader_any x.name a1 _)
  have hg := gcell' (show Below wc.heap.size wc wc from Below.refl _ _) (Nat.le_refl _)
  have hlt1 : (w.heap.size + 1) < wc.heap.size := by omega
  have hlt2 : W.heap.size < wc.heap.size := by omega
  have hlt3 : w.heap.size < W.heap.size := by omega
  have hlt4 : w.heap.size < W.heap.size + 1 := by omega
  have hlt5 : w.heap.size + 1 < W.heap.size := by omega
  have hlt0 : w.heap.size < wc.heap.size := by omega
  have eg := enters_ofHeader
  replace hc := hide hc
  clear hcc
  show Calls _ _ (#[.agg #[.string x.name, a1], .pointer (some ⟨(w.heap.size + 1), 0, none⟩), .pointer (some ⟨w.heap.size, 0, none⟩)]) _ _
  go_enter Tryz.func204, Tryz.ntmps204
  go_wp2_with fail
  replace hg := fun d os b o h => hg d os b o h
  refine wp_region_quiet_below (by kernel_rfl) (by kernel_rfl) ?_
  repeat (any_goals (first | go_big_quiet_step (first | (go_at_fn 152; with_reducible exact Calls.regrown_of (hcall _ _).out) | (go_at_call 152; with_reducible exact Calls.regrown_of (hcall _ _).out)) | quiet_step (first | (go_at_fn 152; with_reducible exact Calls.regrown_of (hcall _ _).out) | (go_at_call 152; with_reducible exact Calls.regrown_of (hcall _ _).out))))
  refine wpQuiet_nil ?_
  intro w3 hw3
  replace hw3 := below_of_regrown hw3
  go_wp2
  go_ret
  exact ⟨ret_b (str_beq _ _), hc.out.trans (hw3.mono (by omega))⟩
 have hv := hide (idxA_name Hd.name s xs)
 have hS := hide (h.below sta_hd (hb12.mono hB))
 replace hg := hide hg
 clear hc1 hc2
 go_enter Tryz.func151, Tryz.ntmps151
 go_wp2_with (go_at_call 189; refine (indexFunc_Header (R := rHd) (B := B) sta_hd 204 #[.pointer (some ⟨(w.heap.size + 1), 0, none⟩), .pointer (some ⟨w.heap.size, 0, none⟩)] enters_find_Header (fun x : Hd => decide (x.name = s)) A cap xs w2 (by omega) hS.out hg.out).mono ?_; rintro e w' ⟨rfl, hb⟩)
 go_ret
 exact ⟨ret_int hv.out, hb12.trans (hb.mono (by omega))⟩
theorem first_Action {w : World} {B : Nat} {cs : List Value} {x : Ac} (h : rAc w B cs x) : ∃ tl, cs = .string x.name :: tl := by
 obtain ⟨A1, c1, A2, c2, rfl, _⟩ := h
 exact ⟨_, rfl⟩
set_option maxHeartbeats 1000000 in
theorem ofAction_any (s : ByteArray) (a1 a2 : Value) (w : World) : Calls Tryz.prog 99 #[.agg #[.string s, a1, a2]] w fun e w' => e = .returned (.string s) ∧ Below w.heap.size w w' := by
 obtain ⟨wb, hwb, hsz, hw, hcb, -⟩ := box1 w #[.string s, a1, a2] 72
 have y0 : wb.cell? ⟨w.heap.size, 0, none⟩ = some (.string s) := hcb 0
 have y1 : wb.cell? ⟨w.heap.size, 1, none⟩ = some a1 := hcb 1
 have y2 : wb.cell? ⟨w.heap.size, 2, none⟩ = some a2 := hcb 2
 replace hw := hide hw
 clear hcb
 go_enter Tryz.func99, Tryz.ntmps99
 go_wp2
 go_ret
 exact ⟨rfl, hw.out⟩
theorem enters_ofAction : ∀ args w, (callFunc 99 args).run Tryz.prog w = .ok (.enter 99 args) w := enters_of Tryz.func99 (by kernel_rfl) rfl
theorem enters_find_Action : ∀ args w, (callFunc 163 args).run Tryz.prog w = .ok (.enter 163 args) w := enters_of Tryz.func163 (by kernel_rfl) rfl
set_option maxHeartbeats 1000000 in
theorem find_Action (A : Option Addr) (cap : Nat) (xs : List Ac) (s : ByteArray) (w : World) {B : Nat} (hB : B ≤ w.heap.size) (h : Sl 3 rAc w B A xs) :
  Calls Tryz.prog 98 #[.slice A xs.length cap, .string s, .func (.func 99) #[] #[]] w fun e w' => e = .returned (.int .i64 (findI (xs.map Ac.name) s)) ∧ Below w.heap.size w w' := by
 obtain ⟨w1, hw1, hz1, hb1, hc1, -⟩ := box1 w #[.string s] 9
 obtain ⟨w2, hw2, hz2, hb2, hc2, -⟩ := box1 w1 #[.func (.func 99) #[] #[]] 150
 have hb12 := hb1.trans (hb2.mono (by omega))
 have hg : FnR aggV 3 B rAc 163 #[.pointer (some ⟨(w.heap.size + 1), 0, none⟩), .pointer (some ⟨w.heap.size, 0, none⟩)] (fun x : Ac => decide (x.name = s)) xs w2 := fun i x cs W hx hb hr hel => by
  obtain ⟨tl, rfl⟩ : ∃ tl, cs = .string x.name :: tl := first_Action hr
  obtain ⟨a1, a2, rfl⟩ : ∃ a1 a2, tl = [a1, a2] := by
   match tl, hel with
   | [a1, a2], _ => exact ⟨a1, a2, rfl⟩
  obtain ⟨wc, hwc, hzc, hc, hcc, -⟩ := box1 W #[.string x.name, a1, a2] 72
  have hsW := hb.size
  have y0 : wc.cell? ⟨W.heap.size, 0, none⟩ = some (.string x.name) := hcc 0
  have y1 : wc.cell? ⟨W.heap.size, 1, none⟩ = some a1 := hcc 1
  have y2 : wc.cell? ⟨W.heap.size, 2, none⟩ = some a2 := hcc 2
  have e1 : wc.cell? ⟨(w.heap.size + 1), 0, none⟩ = some (.func (.func 99) #[] #[]) := (hc.cell (p := ⟨(w.heap.size + 1), 0, none⟩) (by show w.heap.size + 1 < _; omega)).trans ((hb.cell (p := ⟨(w.heap.size + 1), 0, none⟩) (by show w.heap.size + 1 < _; omega)).trans (by have := hc2 0; rw [hz1] at this; exact this))
  have e0' : W.cell? ⟨w.heap.size, 0, none⟩ = some (.string s) := (hb.cell (p := ⟨w.heap.size, 0, none⟩) (by show w.heap.size < _; omega)).trans ((hb2.cell (p := ⟨w.heap.size, 0, none⟩) (by show w.heap.size < _; omega)).trans (hc1 0))
  have e0 : wc.cell? ⟨w.heap.size, 0, none⟩ = some (.string s) := (hc.cell (p := ⟨w.heap.size, 0, none⟩) (by show w.heap.size < _; omega)).trans e0'
  have hcall : ∀ d os, Hid (Calls Tryz.prog 99 #[.agg #[.string x.name, a1, a2]] (Go.Sort.grow (redrawn wc d) os) _) := fun d os => hide (ofAction_any x.name a1 a2 _)
  have hg := gcell' (show Below wc.heap.size wc wc from Below.refl _ _) (Nat.le_refl _)
  have hlt1 : (w.heap.size + 1) < wc.heap.size := by omega
  have hlt2 : W.heap.size < wc.heap.size := by omega
  have hlt3 : w.heap.size < W.heap.size := by omega
  have hlt4 : w.heap.size < W.heap.size + 1 := by omega
  have hlt5 : w.heap.size + 1 < W.heap.size := by omega
  have hlt0 : w.heap.size < wc.heap.size := by omega
  have eg := enters_ofAction
  replace hc := hide hc
  clear hcc
  show Calls _ _ (#[.agg #[.string x.name, a1, a2], .pointer (some ⟨(w.heap.size + 1), 0, none⟩), .pointer (some ⟨w.heap.size, 0, none⟩)]) _ _
  go_enter Tryz.func163, Tryz.ntmps163
  go_wp2_with fail
  replace hg := fun d os b o h => hg d os b o h
  refine wp_region_quiet_below (by kernel_rfl) (by kernel_rfl) ?_
  repeat (any_goals (first | go_big_quiet_step (first | (go_at_fn 99; with_reducible exact Calls.regrown_of (hcall _ _).out) | (go_at_call 99; with_reducible exact Calls.regrown_of (hcall _ _).out)) | quiet_step (first | (go_at_fn 99; with_reducible exact Calls.regrown_of (hcall _ _).out) | (go_at_call 99; with_reducible exact Calls.regrown_of (hcall _ _).out))))
  refine wpQuiet_nil ?_
  intro w3 hw3
  replace hw3 := below_of_regrown hw3
  go_wp2
  go_ret
  exact ⟨ret_b (str_beq _ _), hc.out.trans (hw3.mono (by omega))⟩
 have hv := hide (idxA_name Ac.name s xs)
 have hS := hide (h.below sta_ac (hb12.mono hB))
 replace hg := hide hg
 clear hc1 hc2
 go_enter Tryz.func98, Tryz.ntmps98
 go_wp2_with (go_at_call 162; refine (indexFunc_Action (R := rAc) (B := B) sta_ac 163 #[.pointer (some ⟨(w.heap.size + 1), 0, none⟩), .pointer (some ⟨w.heap.size, 0, none⟩)] enters_find_Action (fun x : Ac => decide (x.name = s)) A cap xs w2 (by omega) hS.out hg.out).mono ?_; rintro e w' ⟨rfl, hb⟩)
 go_ret
 exact ⟨ret_int hv.out, hb12.trans (hb.mono (by omega))⟩
theorem first_Table {w : World} {B : Nat} {cs : List Value} {x : Ta} (h : rTa w B cs x) : ∃ tl, cs = .string x.name :: tl := by
 obtain ⟨A1, c1, A2, c2, A3, c3, rfl, _⟩ := h
 exact ⟨_, rfl⟩
set_option maxHeartbeats 1000000 in
theorem ofTable_any (s : ByteArray) (a1 a2 a3 a4 : Value) (w : World) : Calls Tryz.prog 159 #[.agg #[.string s, a1, a2, a3, a4]] w fun e w' => e = .returned (.string s) ∧ Below w.heap.size w w' := by
 obtain ⟨wb, hwb, hsz, hw, hcb, -⟩ := box1 w #[.string s, a1, a2, a3, a4] 58
 have y0 : wb.cell? ⟨w.heap.size, 0, none⟩ = some (.string s) := hcb 0
 have y1 : wb.cell? ⟨w.heap.size, 1, none⟩ = some a1 := hcb 1
 have y2 : wb.cell? ⟨w.heap.size, 2, none⟩ = some a2 := hcb 2
 have y3 : wb.cell? ⟨w.heap.size, 3, none⟩ = some a3 := hcb 3
 have y4 : wb.cell? ⟨w.heap.size, 4, none⟩ = some a4 := hcb 4
 replace hw := hide hw
 clear hcb
 go_enter Tryz.func159, Tryz.ntmps159
 go_wp2
 go_ret
 exact ⟨rfl, hw.out⟩
theorem enters_ofTable : ∀ args w, (callFunc 159 args).run Tryz.prog w = .ok (.enter 159 args) w := enters_of Tryz.func159 (by kernel_rfl) rfl
theorem enters_find_Table : ∀ args w, (callFunc 207 args).run Tryz.prog w = .ok (.enter 207 args) w := enters_of Tryz.func207 (by kernel_rfl) rfl
set_option maxHeartbeats 1000000 in
theorem find_Table (A : Option Addr) (cap : Nat) (xs : List Ta) (s : ByteArray) (w : World) {B : Nat} (hB : B ≤ w.heap.size) (h : Sl 5 rTa w B A xs) :
  Calls Tryz.prog 158 #[.slice A xs.length cap, .string s, .func (.func 159) #[] #[]] w fun e w' => e = .returned (.int .i64 (findI (xs.map Ta.name) s)) ∧ Below w.heap.size w w' := by
 obtain ⟨w1, hw1, hz1, hb1, hc1, -⟩ := box1 w #[.string s] 9
 obtain ⟨w2, hw2, hz2, hb2, hc2, -⟩ := box1 w1 #[.func (.func 159) #[] #[]] 180
 have hb12 := hb1.trans (hb2.mono (by omega))
 have hg : FnR aggV 5 B rTa 207 #[.pointer (some ⟨(w.heap.size + 1), 0, none⟩), .pointer (some ⟨w.heap.size, 0, none⟩)] (fun x : Ta => decide (x.name = s)) xs w2 := fun i x cs W hx hb hr hel => by
  obtain ⟨tl, rfl⟩ : ∃ tl, cs = .string x.name :: tl := first_Table hr
  obtain ⟨a1, a2, a3, a4, rfl⟩ : ∃ a1 a2 a3 a4, tl = [a1, a2, a3, a4] := by
   match tl, hel with
   | [a1, a2, a3, a4], _ => exact ⟨a1, a2, a3, a4, rfl⟩
  obtain ⟨wc, hwc, hzc, hc, hcc, -⟩ := box1 W #[.string x.name, a1, a2, a3, a4] 58
  have hsW := hb.size
  have y0 : wc.cell? ⟨W.heap.size, 0, none⟩ = some (.string x.name) := hcc 0
  have y1 : wc.cell? ⟨W.heap.size, 1, none⟩ = some a1 := hcc 1
  have y2 : wc.cell? ⟨W.heap.size, 2, none⟩ = some a2 := hcc 2
  have y3 : wc.cell? ⟨W.heap.size, 3, none⟩ = some a3 := hcc 3
  have y4 : wc.cell? ⟨W.heap.size, 4, none⟩ = some a4 := hcc 4
  have e1 : wc.cell? ⟨(w.heap.size + 1), 0, none⟩ = some (.func (.func 159) #[] #[]) := (hc.cell (p := ⟨(w.heap.size + 1), 0, none⟩) (by show w.heap.size + 1 < _; omega)).trans ((hb.cell (p := ⟨(w.heap.size + 1), 0, none⟩) (by show w.heap.size + 1 < _; omega)).trans (by have := hc2 0; rw [hz1] at this; exact this))
  have e0' : W.cell? ⟨w.heap.size, 0, none⟩ = some (.string s) := (hb.cell (p := ⟨w.heap.size, 0, none⟩) (by show w.heap.size < _; omega)).trans ((hb2.cell (p := ⟨w.heap.size, 0, none⟩) (by show w.heap.size < _; omega)).trans (hc1 0))
  have e0 : wc.cell? ⟨w.heap.size, 0, none⟩ = some (.string s) := (hc.cell (p := ⟨w.heap.size, 0, none⟩) (by show w.heap.size < _; omega)).trans e0'
  have hcall : ∀ d os, Hid (Calls Tryz.prog 159 #[.agg #[.string x.name, a1, a2, a3, a4]] (Go.Sort.grow (redrawn wc d) os) _) := fun d os => hide (ofTable_any x.name a1 a2 a3 a4 _)
  have hg := gcell' (show Below wc.heap.size wc wc from Below.refl _ _) (Nat.le_refl _)
  have hlt1 : (w.heap.size + 1) < wc.heap.size := by omega
  have hlt2 : W.heap.size < wc.heap.size := by omega
  have hlt3 : w.heap.size < W.heap.size := by omega
  have hlt4 : w.heap.size < W.heap.size + 1 := by omega
  have hlt5 : w.heap.size + 1 < W.heap.size := by omega
  have hlt0 : w.heap.size < wc.heap.size := by omega
  have eg := enters_ofTable
  replace hc := hide hc
  clear hcc
  show Calls _ _ (#[.agg #[.string x.name, a1, a2, a3, a4], .pointer (some ⟨(w.heap.size + 1), 0, none⟩), .pointer (some ⟨w.heap.size, 0, none⟩)]) _ _
  go_enter Tryz.func207, Tryz.ntmps207
  go_wp2_with fail
  replace hg := fun d os b o h => hg d os b o h
  refine wp_region_quiet_below (by kernel_rfl) (by kernel_rfl) ?_
  repeat (any_goals (first | go_big_quiet_step (first | (go_at_fn 159; with_reducible exact Calls.regrown_of (hcall _ _).out) | (go_at_call 159; with_reducible exact Calls.regrown_of (hcall _ _).out)) | quiet_step (first | (go_at_fn 159; with_reducible exact Calls.regrown_of (hcall _ _).out) | (go_at_call 159; with_reducible exact Calls.regrown_of (hcall _ _).out))))
  refine wpQuiet_nil ?_
  intro w3 hw3
  replace hw3 := below_of_regrown hw3
  go_wp2
  go_ret
  exact ⟨ret_b (str_beq _ _), hc.out.trans (hw3.mono (by omega))⟩
 have hv := hide (idxA_name Ta.name s xs)
 have hS := hide (h.below sta_ta (hb12.mono hB))
 replace hg := hide hg
 clear hc1 hc2
 go_enter Tryz.func158, Tryz.ntmps158
 go_wp2_with (go_at_call 195; refine (indexFunc_Table (R := rTa) (B := B) sta_ta 207 #[.pointer (some ⟨(w.heap.size + 1), 0, none⟩), .pointer (some ⟨w.heap.size, 0, none⟩)] enters_find_Table (fun x : Ta => decide (x.name = s)) A cap xs w2 (by omega) hS.out hg.out).mono ?_; rintro e w' ⟨rfl, hb⟩)
 go_ret
 exact ⟨ret_int hv.out, hb12.trans (hb.mono (by omega))⟩
theorem first_State {w : World} {B : Nat} {cs : List Value} {x : Sa} (h : rSa w B cs x) : ∃ tl, cs = .string x.name :: tl := by
 obtain ⟨A1, c1, A2, c2, A3, c3, rfl, _⟩ := h
 exact ⟨_, rfl⟩
set_option maxHeartbeats 1000000 in
theorem ofState_any (s : ByteArray) (a1 a2 a3 a4 : Value) (w : World) : Calls Tryz.prog 156 #[.agg #[.string s, a1, a2, a3, a4]] w fun e w' => e = .returned (.string s) ∧ Below w.heap.size w w' := by
 obtain ⟨wb, hwb, hsz, hw, hcb, -⟩ := box1 w #[.string s, a1, a2, a3, a4] 61
 have y0 : wb.cell? ⟨w.heap.size, 0, none⟩ = some (.string s) := hcb 0
 have y1 : wb.cell? ⟨w.heap.size, 1, none⟩ = some a1 := hcb 1
 have y2 : wb.cell? ⟨w.heap.size, 2, none⟩ = some a2 := hcb 2
 have y3 : wb.cell? ⟨w.heap.size, 3, none⟩ = some a3 := hcb 3
 have y4 : wb.cell? ⟨w.heap.size, 4, none⟩ = some a4 := hcb 4
 replace hw := hide hw
 clear hcb
 go_enter Tryz.func156, Tryz.ntmps156
 go_wp2
 go_ret
 exact ⟨rfl, hw.out⟩
theorem enters_ofState : ∀ args w, (callFunc 156 args).run Tryz.prog w = .ok (.enter 156 args) w := enters_of Tryz.func156 (by kernel_rfl) rfl
theorem enters_find_State : ∀ args w, (callFunc 206 args).run Tryz.prog w = .ok (.enter 206 args) w := enters_of Tryz.func206 (by kernel_rfl) rfl
set_option maxHeartbeats 1000000 in
theorem find_State (A : Option Addr) (cap : Nat) (xs : List Sa) (s : ByteArray) (w : World) {B : Nat} (hB : B ≤ w.heap.size) (h : Sl 5 rSa w B A xs) :
  Calls Tryz.prog 155 #[.slice A xs.length cap, .string s, .func (.func 156) #[] #[]] w fun e w' => e = .returned (.int .i64 (findI (xs.map Sa.name) s)) ∧ Below w.heap.size w w' := by
 obtain ⟨w1, hw1, hz1, hb1, hc1, -⟩ := box1 w #[.string s] 9
 obtain ⟨w2, hw2, hz2, hb2, hc2, -⟩ := box1 w1 #[.func (.func 156) #[] #[]] 177
 have hb12 := hb1.trans (hb2.mono (by omega))
 have hg : FnR aggV 5 B rSa 206 #[.pointer (some ⟨(w.heap.size + 1), 0, none⟩), .pointer (some ⟨w.heap.size, 0, none⟩)] (fun x : Sa => decide (x.name = s)) xs w2 := fun i x cs W hx hb hr hel => by
  obtain ⟨tl, rfl⟩ : ∃ tl, cs = .string x.name :: tl := first_State hr
  obtain ⟨a1, a2, a3, a4, rfl⟩ : ∃ a1 a2 a3 a4, tl = [a1, a2, a3, a4] := by
   match tl, hel with
   | [a1, a2, a3, a4], _ => exact ⟨a1, a2, a3, a4, rfl⟩
  obtain ⟨wc, hwc, hzc, hc, hcc, -⟩ := box1 W #[.string x.name, a1, a2, a3, a4] 61
  have hsW := hb.size
  have y0 : wc.cell? ⟨W.heap.size, 0, none⟩ = some (.string x.name) := hcc 0
  have y1 : wc.cell? ⟨W.heap.size, 1, none⟩ = some a1 := hcc 1
  have y2 : wc.cell? ⟨W.heap.size, 2, none⟩ = some a2 := hcc 2
  have y3 : wc.cell? ⟨W.heap.size, 3, none⟩ = some a3 := hcc 3
  have y4 : wc.cell? ⟨W.heap.size, 4, none⟩ = some a4 := hcc 4
  have e1 : wc.cell? ⟨(w.heap.size + 1), 0, none⟩ = some (.func (.func 156) #[] #[]) := (hc.cell (p := ⟨(w.heap.size + 1), 0, none⟩) (by show w.heap.size + 1 < _; omega)).trans ((hb.cell (p := ⟨(w.heap.size + 1), 0, none⟩) (by show w.heap.size + 1 < _; omega)).trans (by have := hc2 0; rw [hz1] at this; exact this))
  have e0' : W.cell? ⟨w.heap.size, 0, none⟩ = some (.string s) := (hb.cell (p := ⟨w.heap.size, 0, none⟩) (by show w.heap.size < _; omega)).trans ((hb2.cell (p := ⟨w.heap.size, 0, none⟩) (by show w.heap.size < _; omega)).trans (hc1 0))
  have e0 : wc.cell? ⟨w.heap.size, 0, none⟩ = some (.string s) := (hc.cell (p := ⟨w.heap.size, 0, none⟩) (by show w.heap.size < _; omega)).trans e0'
  have hcall : ∀ d os, Hid (Calls Tryz.prog 156 #[.agg #[.string x.name, a1, a2, a3, a4]] (Go.Sort.grow (redrawn wc d) os) _) := fun d os => hide (ofState_any x.name a1 a2 a3 a4 _)
  have hg := gcell' (show Below wc.heap.size wc wc from Below.refl _ _) (Nat.le_refl _)
  have hlt1 : (w.heap.size + 1) < wc.heap.size := by omega
  have hlt2 : W.heap.size < wc.heap.size := by omega
  have hlt3 : w.heap.size < W.heap.size := by omega
  have hlt4 : w.heap.size < W.heap.size + 1 := by omega
  have hlt5 : w.heap.size + 1 < W.heap.size := by omega
  have hlt0 : w.heap.size < wc.heap.size := by omega
  have eg := enters_ofState
  replace hc := hide hc
  clear hcc
  show Calls _ _ (#[.agg #[.string x.name, a1, a2, a3, a4], .pointer (some ⟨(w.heap.size + 1), 0, none⟩), .pointer (some ⟨w.heap.size, 0, none⟩)]) _ _
  go_enter Tryz.func206, Tryz.ntmps206
  go_wp2_with fail
  replace hg := fun d os b o h => hg d os b o h
  refine wp_region_quiet_below (by kernel_rfl) (by kernel_rfl) ?_
  repeat (any_goals (first | go_big_quiet_step (first | (go_at_fn 156; with_reducible exact Calls.regrown_of (hcall _ _).out) | (go_at_call 156; with_reducible exact Calls.regrown_of (hcall _ _).out)) | quiet_step (first | (go_at_fn 156; with_reducible exact Calls.regrown_of (hcall _ _).out) | (go_at_call 156; with_reducible exact Calls.regrown_of (hcall _ _).out))))
  refine wpQuiet_nil ?_
  intro w3 hw3
  replace hw3 := below_of_regrown hw3
  go_wp2
  go_ret
  exact ⟨ret_b (str_beq _ _), hc.out.trans (hw3.mono (by omega))⟩
 have hv := hide (idxA_name Sa.name s xs)
 have hS := hide (h.below sta_sa (hb12.mono hB))
 replace hg := hide hg
 clear hc1 hc2
 go_enter Tryz.func155, Tryz.ntmps155
 go_wp2_with (go_at_call 190; refine (indexFunc_State (R := rSa) (B := B) sta_sa 206 #[.pointer (some ⟨(w.heap.size + 1), 0, none⟩), .pointer (some ⟨w.heap.size, 0, none⟩)] enters_find_State (fun x : Sa => decide (x.name = s)) A cap xs w2 (by omega) hS.out hg.out).mono ?_; rintro e w' ⟨rfl, hb⟩)
 go_ret
 exact ⟨ret_int hv.out, hb12.trans (hb.mono (by omega))⟩
end Go.Proofs.YtbbdhknagofghaaGreat
/-! Layer 7: Meta. -/
namespace Go.Proofs.YtbbdhknagofghaaGreat
open Go.RowKit
set_option maxHeartbeats 1000000 in
theorem meta_any (w : World) (A1 A2 A3 A4 A5 A6 A7 : Option Addr) (p : Pg) (c1 c2 c3 c4 c5 c6 c7 : Nat) (s : ByteArray) {B : Nat} (hB : B ≤ w.heap.size) (h : PgS w B A1 A2 A3 A4 A5 A6 A7 p) :
  Calls Tryz.prog 85 #[.agg #[.slice A1 p.headers.length c1, .slice A2 p.metas.length c2, .slice A3 p.states.length c3, .slice A4 p.actions.length c4, .slice A5 p.tables.length c5, .slice A6 p.control.length c6, .slice A7 p.emit.length c7], .string s] w fun e w' => e = .returned (.int .i64 (metaI p s)) ∧ Below w.heap.size w w' := by
 obtain ⟨wb, hwb, hsz, hw, hcb, -⟩ := box1 w #[.slice A1 p.headers.length c1, .slice A2 p.metas.length c2, .slice A3 p.states.length c3, .slice A4 p.actions.length c4, .slice A5 p.tables.length c5, .slice A6 p.control.length c6, .slice A7 p.emit.length c7] 30
 have y1 : wb.cell? ⟨w.heap.size, 1, none⟩ = some (.slice A2 p.metas.length c2) := hcb 1
 have hcall := find_Field A2 c2 p.metas s wb (by omega) (h.metas.below sta_fd (hw.mono hB))
 replace hw := hide hw
 clear hcb h
 go_enter Tryz.func85, Tryz.ntmps85
 go_wp2_with (go_at_call 153; refine hcall.mono ?_; rintro e w' ⟨rfl, hb⟩)
 go_ret
 exact ⟨rfl, hw.out.trans (hb.mono (by omega))⟩
end Go.Proofs.YtbbdhknagofghaaGreat
/-! Layer 7: Field. -/
namespace Go.Proofs.YtbbdhknagofghaaGreat
open Go.RowKit
set_option maxHeartbeats 1000000 in
theorem field_any (w : World) (A1 A2 A3 A4 A5 A6 A7 : Option Addr) (p : Pg) (c1 c2 c3 c4 c5 c6 c7 : Nat) (x : Int) (s : ByteArray) {B : Nat} (hB : B ≤ w.heap.size) (h : PgS w B A1 A2 A3 A4 A5 A6 A7 p) :
  Calls Tryz.prog 84 #[.agg #[.slice A1 p.headers.length c1, .slice A2 p.metas.length c2, .slice A3 p.states.length c3, .slice A4 p.actions.length c4, .slice A5 p.tables.length c5, .slice A6 p.control.length c6, .slice A7 p.emit.length c7], .int .i64 x, .string s] w fun e w' => e = .returned (.int .i64 (fieldI p x s)) ∧ Below w.heap.size w w' := by
 obtain ⟨wb, hwb, hsz, hw, hcb, -⟩ := box1 w #[.slice A1 p.headers.length c1, .slice A2 p.metas.length c2, .slice A3 p.states.length c3, .slice A4 p.actions.length c4, .slice A5 p.tables.length c5, .slice A6 p.control.length c6, .slice A7 p.emit.length c7] 30
 have y0 : wb.cell? ⟨w.heap.size, 0, none⟩ = some (.slice A1 p.headers.length c1) := hcb 0
 have hl := h.headers.len
 have hS := h.headers.below sta_hd (hw.mono hB)
 replace hw := hide hw
 clear hcb h
 go_enter Tryz.func84, Tryz.ntmps84
 by_cases h0 : x < 0
 ·have hv := hide (show fieldI p x s = -1 from by unfold fieldI; rw [if_pos h0])
  go_wp2
  go_ret
  exact ⟨ret_int hv.out.symm, hw.out⟩
 ·by_cases h1 : x < (p.headers.length : Int)
  ·obtain ⟨k, rfl⟩ := Int.eq_ofNat_of_zero_le (show 0 ≤ x by omega)
   have hlt : k < p.headers.length := by omega
   obtain ⟨b, o, ecs, rfl, hb, hel, hcell, A', c', rfl, hn, hF⟩ := hS.2 k _ (List.getElem?_eq_getElem hlt)
   have hv := hide (show fieldI p (k : Int) s = fieldsI p.headers[k].fields s from by unfold fieldI; rw [if_neg h0, Int.toNat_natCast, List.getElem?_eq_getElem hlt]; rfl)
   have hl' := hF.len
   have x0 : wb.cell? ⟨b, o + k * 2, none⟩ = some (.string p.headers[k].name) := by simpa using hcell 0 _ rfl
   have x1 : wb.cell? ⟨b, o + k * 2 + 1, none⟩ = some (.slice A' p.headers[k].fields.length c') := hcell 1 _ rfl
   have hcall := find_Field A' c' p.headers[k].fields s wb (by omega) hF
   clear hcell hF hS
   go_wp2_with (go_at_call 153; refine hcall.mono ?_; rintro e w' ⟨rfl, hb⟩)
   go_ret
   exact ⟨ret_int hv.out.symm, hw.out.trans (hb.mono (by omega))⟩
  ·have hv := hide (show fieldI p x s = -1 from by unfold fieldI; rw [if_neg h0, List.getElem?_eq_none (by omega)]; rfl)
   go_wp2
   go_ret
   exact ⟨ret_int hv.out.symm, hw.out⟩
end Go.Proofs.YtbbdhknagofghaaGreat
/-! Layer 7: Param. -/
namespace Go.Proofs.YtbbdhknagofghaaGreat
open Go.RowKit
set_option maxHeartbeats 1000000 in
theorem param_any (w : World) (A1 A2 A3 A4 A5 A6 A7 : Option Addr) (p : Pg) (c1 c2 c3 c4 c5 c6 c7 : Nat) (x : Int) (s : ByteArray) {B : Nat} (hB : B ≤ w.heap.size) (h : PgS w B A1 A2 A3 A4 A5 A6 A7 p) :
  Calls Tryz.prog 88 #[.agg #[.slice A1 p.headers.length c1, .slice A2 p.metas.length c2, .slice A3 p.states.length c3, .slice A4 p.actions.length c4, .slice A5 p.tables.length c5, .slice A6 p.control.length c6, .slice A7 p.emit.length c7], .int .i64 x, .string s] w fun e w' => e = .returned (.int .i64 (paramI p x s)) ∧ Below w.heap.size w w' := by
 obtain ⟨wb, hwb, hsz, hw, hcb, -⟩ := box1 w #[.slice A1 p.headers.length c1, .slice A2 p.metas.length c2, .slice A3 p.states.length c3, .slice A4 p.actions.length c4, .slice A5 p.tables.length c5, .slice A6 p.control.length c6, .slice A7 p.emit.length c7] 30
 have y0 : wb.cell? ⟨w.heap.size, 3, none⟩ = some (.slice A4 p.actions.length c4) := hcb 3
 have hl := h.actions.len
 have hS := h.actions.below sta_ac (hw.mono hB)
 replace hw := hide hw
 clear hcb h
 go_enter Tryz.func88, Tryz.ntmps88
 by_cases h0 : x < 0
 ·have hv := hide (show paramI p x s = -1 from by unfold paramI; rw [if_pos h0])
  go_wp2
  go_ret
  exact ⟨ret_int hv.out.symm, hw.out⟩
 ·by_cases h1 : x < (p.actions.length : Int)
  ·obtain ⟨k, rfl⟩ := Int.eq_ofNat_of_zero_le (show 0 ≤ x by omega)
   have hlt : k < p.actions.length := by omega
   obtain ⟨b, o, ecs, rfl, hb, hel, hcell, A', c', A'', c'', rfl, hn, hF, hG⟩ := hS.2 k _ (List.getElem?_eq_getElem hlt)
   have hv := hide (show paramI p (k : Int) s = fieldsI p.actions[k].params s from by unfold paramI; rw [if_neg h0, Int.toNat_natCast, List.getElem?_eq_getElem hlt]; rfl)
   have hl' := hF.len
   have x0 : wb.cell? ⟨b, o + k * 3, none⟩ = some (.string p.actions[k].name) := by simpa using hcell 0 _ rfl
   have x1 : wb.cell? ⟨b, o + k * 3 + 1, none⟩ = some (.slice A' p.actions[k].params.length c') := hcell 1 _ rfl
   have x2 : wb.cell? ⟨b, o + k * 3 + 2, none⟩ = some (.slice A'' p.actions[k].body.length c'') := hcell 2 _ rfl
   have hl2 := hG.len
   have hcall := find_Field A' c' p.actions[k].params s wb (by omega) hF
   clear hcell hF hS hG
   go_wp2_with (go_at_call 153; refine hcall.mono ?_; rintro e w' ⟨rfl, hb⟩)
   go_ret
   exact ⟨ret_int hv.out.symm, hw.out.trans (hb.mono (by omega))⟩
  ·have hv := hide (show paramI p x s = -1 from by unfold paramI; rw [if_neg h0, List.getElem?_eq_none (by omega)]; rfl)
   go_wp2
   go_ret
   exact ⟨ret_int hv.out.symm, hw.out⟩
end Go.Proofs.YtbbdhknagofghaaGreat

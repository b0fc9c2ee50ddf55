import Derived.Test.YtmfpbahifhndjaaGreatLow03
import Derived.Deep.DeepCutAuto
import Derived.Deep.CutBlock
set_option linter.all false
namespace Go.Proofs.YtmfpbahifhndjaaGreat
open Go.RowKit
set_option maxHeartbeats 1000000 in
theorem ofField_any (s : ByteArray) (a1 : Value) (w : World) : Calls Tryz.prog 128 #[.agg #[.string s, a1]] w fun e w' => e = .returned (.string s) ∧ Below w.heap.size w w' := by
 obtain ⟨wb, hwb, hsz, hw, hcb, -⟩ := box1 w #[.string s, a1] 189
 have y0 : wb.cell? ⟨w.heap.size, 0, none⟩ = some (.string s) := hcb 0
 have y1 : wb.cell? ⟨w.heap.size, 1, none⟩ = some a1 := hcb 1
 replace hw := hide hw
 clear hcb
 go_enter Tryz.func128, Tryz.ntmps128
 go_wp2
 go_ret
 exact ⟨rfl, hw.out⟩
theorem enters_ofField : ∀ args w, (callFunc 128 args).run Tryz.prog w = .ok (.enter 128 args) w := enters_of Tryz.func128 (by kernel_rfl) rfl
theorem enters_find_Field : ∀ args w, (callFunc 139 args).run Tryz.prog w = .ok (.enter 139 args) w := enters_of Tryz.func139 (by kernel_rfl) rfl
set_option maxHeartbeats 1000000 in
theorem find_Field (A : Option Addr) (cap : Nat) (xs : List Fd) (s : ByteArray) (w : World) {B : Nat} (hB : B ≤ w.heap.size) (h : Sl 2 rFd w B A xs) :
  Calls Tryz.prog 127 #[.slice A xs.length cap, .string s, .func (.func 128) #[] #[]] w fun e w' => e = .returned (.int .i64 (fieldsI xs s)) ∧ Below w.heap.size w w' := by
 obtain ⟨w1, hw1, hz1, hb1, hc1, -⟩ := box1 w #[.string s] 9
 obtain ⟨w2, hw2, hz2, hb2, hc2, -⟩ := box1 w1 #[.func (.func 128) #[] #[]] 190
 have hb12 := hb1.trans (hb2.mono (by omega))
 have hg : FnR aggV 2 B rFd 139 #[.pointer (some ⟨(w.heap.size + 1), 0, none⟩), .pointer (some ⟨w.heap.size, 0, none⟩)] (fun x : Fd => decide (x.1 = s)) xs w2 := fun i x cs W hx hb hr hel => by
  obtain ⟨rfl, -, -⟩ := hr
  obtain ⟨wc, hwc, hzc, hc, hcc, -⟩ := box1 W #[.string x.1, .int .i64 x.2] 189
  have hsW := hb.size
  have y0 : wc.cell? ⟨W.heap.size, 0, none⟩ = some (.string x.1) := hcc 0
  have y1 : wc.cell? ⟨W.heap.size, 1, none⟩ = some (.int .i64 x.2) := hcc 1
  have e1 : wc.cell? ⟨(w.heap.size + 1), 0, none⟩ = some (.func (.func 128) #[] #[]) := (hc.cell (p := ⟨(w.heap.size + 1), 0, none⟩) (by show w.heap.size + 1 < _; omega)).trans ((hb.cell (p := ⟨(w.heap.size + 1), 0, none⟩) (by show w.heap.size + 1 < _; omega)).trans (by have := hc2 0; rw [hz1] at this; exact this))
  have e0' : W.cell? ⟨w.heap.size, 0, none⟩ = some (.string s) := (hb.cell (p := ⟨w.heap.size, 0, none⟩) (by show w.heap.size < _; omega)).trans ((hb2.cell (p := ⟨w.heap.size, 0, none⟩) (by show w.heap.size < _; omega)).trans (hc1 0))
  have e0 : wc.cell? ⟨w.heap.size, 0, none⟩ = some (.string s) := (hc.cell (p := ⟨w.heap.size, 0, none⟩) (by show w.heap.size < _; omega)).trans e0'
  have hcall : ∀ d os, Hid (Calls Tryz.prog 128 #[.agg #[.string x.1, .int .i64 x.2]] (Go.Sort.grow (redrawn wc d) os) _) := fun d os => hide (ofField_any x.1 (.int .i64 x.2) _)
  have hg := gcell' (show Below wc.heap.size wc wc from Below.refl _ _) (Nat.le_refl _)
  have hlt1 : (w.heap.size + 1) < wc.heap.size := by omega
  have hlt2 : W.heap.size < wc.heap.size := by omega
  have hlt3 : w.heap.size < W.heap.size := by omega
  have hlt4 : w.heap.size < W.heap.size + 1 := by omega
  have hlt5 : w.heap.size + 1 < W.heap.size := by omega
  have hlt0 : w.heap.size < wc.heap.size := by omega
  have eg := enters_ofField
  replace hc := hide hc
  clear hcc
  show Calls _ _ (#[.agg #[.string x.1, .int .i64 x.2], .pointer (some ⟨(w.heap.size + 1), 0, none⟩), .pointer (some ⟨w.heap.size, 0, none⟩)]) _ _
  go_enter Tryz.func139, Tryz.ntmps139
  go_wp2_with fail
  replace hg := fun d os b o h => hg d os b o h
  refine wp_region_quiet_below (by kernel_rfl) (by kernel_rfl) ?_
  repeat (any_goals (first | go_big_quiet_step (first | (go_at_fn 128; with_reducible exact Calls.regrown_of (hcall _ _).out) | (go_at_call 128; with_reducible exact Calls.regrown_of (hcall _ _).out)) | quiet_step (first | (go_at_fn 128; with_reducible exact Calls.regrown_of (hcall _ _).out) | (go_at_call 128; with_reducible exact Calls.regrown_of (hcall _ _).out))))
  refine wpQuiet_nil ?_
  intro w3 hw3
  replace hw3 := below_of_regrown hw3
  go_wp2
  go_ret
  exact ⟨ret_b (str_beq _ _), hc.out.trans (hw3.mono (by omega))⟩
 have hv := hide (idxA_name Prod.fst s xs)
 have hS := hide (h.below sta_fd (hb12.mono hB))
 replace hg := hide hg
 clear hc1 hc2
 go_enter Tryz.func127, Tryz.ntmps127
 go_wp2_with (go_at_call 138; refine (indexFunc_Field (R := rFd) (B := B) sta_fd 139 #[.pointer (some ⟨(w.heap.size + 1), 0, none⟩), .pointer (some ⟨w.heap.size, 0, none⟩)] enters_find_Field (fun x : Fd => decide (x.1 = s)) A cap xs w2 (by omega) hS.out hg.out).mono ?_; rintro e w' ⟨rfl, hb⟩)
 go_ret
 exact ⟨ret_int hv.out, hb12.trans (hb.mono (by omega))⟩
end Go.Proofs.YtmfpbahifhndjaaGreat
/-! Printed by gen_find.py: resolve.find over headers, actions, tables, states. -/
namespace Go.Proofs.YtmfpbahifhndjaaGreat
open Go.RowKit
theorem first_Header {w : World} {B : Nat} {cs : List Value} {x : Hd} (h : rHd w B cs x) : ∃ tl, cs = .string x.name :: tl := by
 obtain ⟨A, cap, rfl, _⟩ := h
 exact ⟨_, rfl⟩
set_option maxHeartbeats 1000000 in
theorem ofHeader_any (s : ByteArray) (a1 : Value) (w : World) : Calls Tryz.prog 126 #[.agg #[.string s, a1]] w fun e w' => e = .returned (.string s) ∧ Below w.heap.size w w' := by
 obtain ⟨wb, hwb, hsz, hw, hcb, -⟩ := box1 w #[.string s, a1] 182
 have y0 : wb.cell? ⟨w.heap.size, 0, none⟩ = some (.string s) := hcb 0
 have y1 : wb.cell? ⟨w.heap.size, 1, none⟩ = some a1 := hcb 1
 replace hw := hide hw
 clear hcb
 go_enter Tryz.func126, Tryz.ntmps126
 go_wp2
 go_ret
 exact ⟨rfl, hw.out⟩
theorem enters_ofHeader : ∀ args w, (callFunc 126 args).run Tryz.prog w = .ok (.enter 126 args) w := enters_of Tryz.func126 (by kernel_rfl) rfl
theorem enters_find_Header : ∀ args w, (callFunc 137 args).run Tryz.prog w = .ok (.enter 137 args) w := enters_of Tryz.func137 (by kernel_rfl) rfl
set_option maxHeartbeats 1000000 in
theorem find_Header (A : Option Addr) (cap : Nat) (xs : List Hd) (s : ByteArray) (w : World) {B : Nat} (hB : B ≤ w.heap.size) (h : Sl 2 rHd w B A xs) :
  Calls Tryz.prog 125 #[.slice A xs.length cap, .string s, .func (.func 126) #[] #[]] w fun e w' => e = .returned (.int .i64 (findI (xs.map Hd.name) s)) ∧ Below w.heap.size w w' := by
 obtain ⟨w1, hw1, hz1, hb1, hc1, -⟩ := box1 w #[.string s] 9
 obtain ⟨w2, hw2, hz2, hb2, hc2, -⟩ := box1 w1 #[.func (.func 126) #[] #[]] 186
 have hb12 := hb1.trans (hb2.mono (by omega))
 have hg : FnR aggV 2 B rHd 137 #[.pointer (some ⟨(w.heap.size + 1), 0, none⟩), .pointer (some ⟨w.heap.size, 0, none⟩)] (fun x : Hd => decide (x.name = s)) xs w2 := fun i x cs W hx hb hr hel => by
  obtain ⟨tl, rfl⟩ : ∃ tl, cs = .string x.name :: tl := first_Header hr
  obtain ⟨a1, rfl⟩ : ∃ a1, tl = [a1] := by
   match tl, hel with
   | [a1], _ => exact ⟨a1, rfl⟩
  obtain ⟨wc, hwc, hzc, hc, hcc, -⟩ := box1 W #[.string x.name, a1] 182
  have hsW := hb.size
  have y0 : wc.cell? ⟨W.heap.size, 0, none⟩ = some (.string x.name) := hcc 0
  have y1 : wc.cell? ⟨W.heap.size, 1, none⟩ = some a1 := hcc 1
  have e1 : wc.cell? ⟨(w.heap.size + 1), 0, none⟩ = some (.func (.func 126) #[] #[]) := (hc.cell (p := ⟨(w.heap.size + 1), 0, none⟩) (by show w.heap.size + 1 < _; omega)).trans ((hb.cell (p := ⟨(w.heap.size + 1), 0, none⟩) (by show w.heap.size + 1 < _; omega)).trans (by have := hc2 0; rw [hz1] at this; exact this))
  have e0' : W.cell? ⟨w.heap.size, 0, none⟩ = some (.string s) := (hb.cell (p := ⟨w.heap.size, 0, none⟩) (by show w.heap.size < _; omega)).trans ((hb2.cell (p := ⟨w.heap.size, 0, none⟩) (by show w.heap.size < _; omega)).trans (hc1 0))
  have e0 : wc.cell? ⟨w.heap.size, 0, none⟩ = some (.string s) := (hc.cell (p := ⟨w.heap.size, 0, none⟩) (by show w.heap.size < _; omega)).trans e0'
  have hcall : ∀ d os, Hid (Calls Tryz.prog 126 #[.agg #[.string x.name, a1]] (Go.Sort.grow (redrawn wc d) os) _) := fun d os => hide (ofHeader_any x.name a1 _)
  have hg := gcell' (show Below wc.heap.size wc wc from Below.refl _ _) (Nat.le_refl _)
  have hlt1 : (w.heap.size + 1) < wc.heap.size := by omega
  have hlt2 : W.heap.size < wc.heap.size := by omega
  have hlt3 : w.heap.size < W.heap.size := by omega
  have hlt4 : w.heap.size < W.heap.size + 1 := by omega
  have hlt5 : w.heap.size + 1 < W.heap.size := by omega
  have hlt0 : w.heap.size < wc.heap.size := by omega
  have eg := enters_ofHeader
  replace hc := hide hc
  clear hcc
  show Calls _ _ (#[.agg #[.string x.name, a1], .pointer (some ⟨(w.heap.size + 1), 0, none⟩), .pointer (some ⟨w.heap.size, 0, none⟩)]) _ _
  go_enter Tryz.func137, Tryz.ntmps137
  go_wp2_with fail
  replace hg := fun d os b o h => hg d os b o h
  refine wp_region_quiet_below (by kernel_rfl) (by kernel_rfl) ?_
  repeat (any_goals (first | go_big_quiet_step (first | (go_at_fn 126; with_reducible exact Calls.regrown_of (hcall _ _).out) | (go_at_call 126; with_reducible exact Calls.regrown_of (hcall _ _).out)) | quiet_step (first | (go_at_fn 126; with_reducible exact Calls.regrown_of (hcall _ _).out) | (go_at_call 126; with_reducible exact Calls.regrown_of (hcall _ _).out))))
  refine wpQuiet_nil ?_
  intro w3 hw3
  replace hw3 := below_of_regrown hw3
  go_wp2
  go_ret
  exact ⟨ret_b (str_beq _ _), hc.out.trans (hw3.mono (by omega))⟩
 have hv := hide (idxA_name Hd.name s xs)
 have hS := hide (h.below sta_hd (hb12.mono hB))
 replace hg := hide hg
 clear hc1 hc2
 go_enter Tryz.func125, Tryz.ntmps125
 go_wp2_with (go_at_call 136; refine (indexFunc_Header (R := rHd) (B := B) sta_hd 137 #[.pointer (some ⟨(w.heap.size + 1), 0, none⟩), .pointer (some ⟨w.heap.size, 0, none⟩)] enters_find_Header (fun x : Hd => decide (x.name = s)) A cap xs w2 (by omega) hS.out hg.out).mono ?_; rintro e w' ⟨rfl, hb⟩)
 go_ret
 exact ⟨ret_int hv.out, hb12.trans (hb.mono (by omega))⟩
end Go.Proofs.YtmfpbahifhndjaaGreat
/-! Layer 7: Meta. -/
namespace Go.Proofs.YtmfpbahifhndjaaGreat
open Go.RowKit
set_option maxHeartbeats 1000000 in
theorem meta_any (w : World) (A1 A2 A3 A4 A5 A6 A7 : Option Addr) (p : Pg) (c1 c2 c3 c4 c5 c6 c7 : Nat) (s : ByteArray) {B : Nat} (hB : B ≤ w.heap.size) (h : PgS w B A1 A2 A3 A4 A5 A6 A7 p) :
  Calls Tryz.prog 111 #[.agg #[.slice A1 p.headers.length c1, .slice A2 p.metas.length c2, .slice A3 p.states.length c3, .slice A4 p.actions.length c4, .slice A5 p.tables.length c5, .slice A6 p.control.length c6, .slice A7 p.emit.length c7], .string s] w fun e w' => e = .returned (.int .i64 (metaI p s)) ∧ Below w.heap.size w w' := by
 obtain ⟨wb, hwb, hsz, hw, hcb, -⟩ := box1 w #[.slice A1 p.headers.length c1, .slice A2 p.metas.length c2, .slice A3 p.states.length c3, .slice A4 p.actions.length c4, .slice A5 p.tables.length c5, .slice A6 p.control.length c6, .slice A7 p.emit.length c7] 76
 have y1 : wb.cell? ⟨w.heap.size, 1, none⟩ = some (.slice A2 p.metas.length c2) := hcb 1
 have hcall := find_Field A2 c2 p.metas s wb (by omega) (h.metas.below sta_fd (hw.mono hB))
 replace hw := hide hw
 clear hcb h
 go_enter Tryz.func111, Tryz.ntmps111
 go_wp2_with (go_at_call 127; refine hcall.mono ?_; rintro e w' ⟨rfl, hb⟩)
 go_ret
 exact ⟨rfl, hw.out.trans (hb.mono (by omega))⟩
end Go.Proofs.YtmfpbahifhndjaaGreat
/-! Layer 7: Field. -/
namespace Go.Proofs.YtmfpbahifhndjaaGreat
open Go.RowKit
set_option maxHeartbeats 1000000 in
theorem field_any (w : World) (A1 A2 A3 A4 A5 A6 A7 : Option Addr) (p : Pg) (c1 c2 c3 c4 c5 c6 c7 : Nat) (x : Int) (s : ByteArray) {B : Nat} (hB : B ≤ w.heap.size) (h : PgS w B A1 A2 A3 A4 A5 A6 A7 p) :
  Calls Tryz.prog 110 #[.agg #[.slice A1 p.headers.length c1, .slice A2 p.metas.length c2, .slice A3 p.states.length c3, .slice A4 p.actions.length c4, .slice A5 p.tables.length c5, .slice A6 p.control.length c6, .slice A7 p.emit.length c7], .int .i64 x, .string s] w fun e w' => e = .returned (.int .i64 (fieldI p x s)) ∧ Below w.heap.size w w' := by
 obtain ⟨wb, hwb, hsz, hw, hcb, -⟩ := box1 w #[.slice A1 p.headers.length c1, .slice A2 p.metas.length c2, .slice A3 p.states.length c3, .slice A4 p.actions.length c4, .slice A5 p.tables.length c5, .slice A6 p.control.length c6, .slice A7 p.emit.length c7] 76
 have y0 : wb.cell? ⟨w.heap.size, 0, none⟩ = some (.slice A1 p.headers.length c1) := hcb 0
 have hl := h.headers.len
 have hS := h.headers.below sta_hd (hw.mono hB)
 replace hw := hide hw
 clear hcb h
 go_enter Tryz.func110, Tryz.ntmps110
 by_cases h0 : x < 0
 ·have hv := hide (show fieldI p x s = -1 from by unfold fieldI; rw [if_pos h0])
  go_wp2
  go_ret
  exact ⟨ret_int hv.out.symm, hw.out⟩
 ·by_cases h1 : x < (p.headers.length : Int)
  ·obtain ⟨k, rfl⟩ := Int.eq_ofNat_of_zero_le (show 0 ≤ x by omega)
   have hlt : k < p.headers.length := by omega
   obtain ⟨b, o, ecs, rfl, hb, hel, hcell, A', c', rfl, hn, hF⟩ := hS.2 k _ (List.getElem?_eq_getElem hlt)
   have hv := hide (show fieldI p (k : Int) s = fieldsI p.headers[k].fields s from by unfold fieldI; rw [if_neg h0, Int.toNat_natCast, List.getElem?_eq_getElem hlt]; rfl)
   have hl' := hF.len
   have x0 : wb.cell? ⟨b, o + k * 2, none⟩ = some (.string p.headers[k].name) := by simpa using hcell 0 _ rfl
   have x1 : wb.cell? ⟨b, o + k * 2 + 1, none⟩ = some (.slice A' p.headers[k].fields.length c') := hcell 1 _ rfl
   have hcall := find_Field A' c' p.headers[k].fields s wb (by omega) hF
   clear hcell hF hS
   go_wp2_with (go_at_call 127; refine hcall.mono ?_; rintro e w' ⟨rfl, hb⟩)
   go_ret
   exact ⟨ret_int hv.out.symm, hw.out.trans (hb.mono (by omega))⟩
  ·have hv := hide (show fieldI p x s = -1 from by unfold fieldI; rw [if_neg h0, List.getElem?_eq_none (by omega)]; rfl)
   go_wp2
   go_ret
   exact ⟨ret_int hv.out.symm, hw.out⟩
end Go.Proofs.YtmfpbahifhndjaaGreat
/-! Layer 7: Param. -/
namespace Go.Proofs.YtmfpbahifhndjaaGreat
open Go.RowKit
set_option maxHeartbeats 1000000 in
theorem param_any (w : World) (A1 A2 A3 A4 A5 A6 A7 : Option Addr) (p : Pg) (c1 c2 c3 c4 c5 c6 c7 : Nat) (x : Int) (s : ByteArray) {B : Nat} (hB : B ≤ w.heap.size) (h : PgS w B A1 A2 A3 A4 A5 A6 A7 p) :
  Calls Tryz.prog 112 #[.agg #[.slice A1 p.headers.length c1, .slice A2 p.metas.length c2, .slice A3 p.states.length c3, .slice A4 p.actions.length c4, .slice A5 p.tables.length c5, .slice A6 p.control.length c6, .slice A7 p.emit.length c7], .int .i64 x, .string s] w fun e w' => e = .returned (.int .i64 (paramI p x s)) ∧ Below w.heap.size w w' := by
 obtain ⟨wb, hwb, hsz, hw, hcb, -⟩ := box1 w #[.slice A1 p.headers.length c1, .slice A2 p.metas.length c2, .slice A3 p.states.length c3, .slice A4 p.actions.length c4, .slice A5 p.tables.length c5, .slice A6 p.control.length c6, .slice A7 p.emit.length c7] 76
 have y0 : wb.cell? ⟨w.heap.size, 3, none⟩ = some (.slice A4 p.actions.length c4) := hcb 3
 have hl := h.actions.len
 have hS := h.actions.below sta_ac (hw.mono hB)
 replace hw := hide hw
 clear hcb h
 go_enter Tryz.func112, Tryz.ntmps112
 by_cases h0 : x < 0
 ·have hv := hide (show paramI p x s = -1 from by unfold paramI; rw [if_pos h0])
  go_wp2
  go_ret
  exact ⟨ret_int hv.out.symm, hw.out⟩
 ·by_cases h1 : x < (p.actions.length : Int)
  ·obtain ⟨k, rfl⟩ := Int.eq_ofNat_of_zero_le (show 0 ≤ x by omega)
   have hlt : k < p.actions.length := by omega
   obtain ⟨b, o, ecs, rfl, hb, hel, hcell, A', c', A'', c'', rfl, hn, hF, hG⟩ := hS.2 k _ (List.getElem?_eq_getElem hlt)
   have hv := hide (show paramI p (k : Int) s = fieldsI p.actions[k].params s from by unfold paramI; rw [if_neg h0, Int.toNat_natCast, List.getElem?_eq_getElem hlt]; rfl)
   have hl' := hF.len
   have x0 : wb.cell? ⟨b, o + k * 3, none⟩ = some (.string p.actions[k].name) := by simpa using hcell 0 _ rfl
   have x1 : wb.cell? ⟨b, o + k * 3 + 1, none⟩ = some (.slice A' p.actions[k].params.length c') := hcell 1 _ rfl
   have x2 : wb.cell? ⟨b, o + k * 3 + 2, none⟩ = some (.slice A'' p.actions[k].body.length c'') := hcell 2 _ rfl
   have hl2 := hG.len
   have hcall := find_Field A' c' p.actions[k].params s wb (by omega) hF
   clear hcell hF hS hG
   go_wp2_with (go_at_call 127; refine hcall.mono ?_; rintro e w' ⟨rfl, hb⟩)
   go_ret
   exact ⟨ret_int hv.out.symm, hw.out.trans (hb.mono (by omega))⟩
  ·have hv := hide (show paramI p x s = -1 from by unfold paramI; rw [if_neg h0, List.getElem?_eq_none (by omega)]; rfl)
   go_wp2
   go_ret
   exact ⟨ret_int hv.out.symm, hw.out⟩
end Go.Proofs.YtmfpbahifhndjaaGreat
/-! Printed by gen_g.py: resolve.Header, Action, Table. -/
namespace Go.Proofs.YtmfpbahifhndjaaGreat
open Go.RowKit
set_option maxHeartbeats 1000000 in
theorem header_any (w : World) (A1 A2 A3 A4 A5 A6 A7 : Option Addr) (p : Pg) (c1 c2 c3 c4 c5 c6 c7 : Nat) (s : ByteArray) {B : Nat} (hB : B ≤ w.heap.size) (h : PgS w B A1 A2 A3 A4 A5 A6 A7 p) :
  Calls Tryz.prog 109 #[.agg #[.slice A1 p.headers.length c1, .slice A2 p.metas.length c2, .slice A3 p.states.length c3, .slice A4 p.actions.length c4, .slice A5 p.tables.length c5, .slice A6 p.control.length c6, .slice A7 p.emit.length c7], .string s] w fun e w' => e = .returned (.int .i64 (headerI p s)) ∧ Below w.heap.size w w' := by
 obtain ⟨wb, hwb, hsz, hw, hcb, -⟩ := box1 w #[.slice A1 p.headers.length c1, .slice A2 p.metas.length c2, .slice A3 p.states.length c3, .slice A4 p.actions.length c4, .slice A5 p.tables.length c5, .slice A6 p.control.length c6, .slice A7 p.emit.length c7] 76
 have y1 : wb.cell? ⟨w.heap.size, 0, none⟩ = some (.slice A1 p.headers.length c1) := hcb 0
 have hcall := find_Header A1 c1 p.headers s wb (by omega) (h.headers.below sta_hd (hw.mono hB))
 replace hw := hide hw
 clear hcb h
 go_enter Tryz.func109, Tryz.ntmps109
 go_wp2_with (go_at_call 125; refine hcall.mono ?_; rintro e w' ⟨rfl, hb⟩)
 go_ret
 exact ⟨rfl, hw.out.trans (hb.mono (by omega))⟩
end Go.Proofs.YtmfpbahifhndjaaGreat
/-! Layer 7: Names: is all that an expression names there? -/
namespace Go.Proofs.YtmfpbahifhndjaaGreat
open Go.RowKit
theorem PgS.more {w : World} {B B' : Nat} {A1 A2 A3 A4 A5 A6 A7 : Option Addr} {p : Pg} (h : PgS w B A1 A2 A3 A4 A5 A6 A7 p) (hB : B ≤ B') : PgS w B' A1 A2 A3 A4 A5 A6 A7 p :=
 ⟨h.1.more sta_hd hB, h.2.more sta_fd hB, h.3.more sta_sa hB, h.4.more sta_ac hB, h.5.more sta_ta hB, h.6.more sta_st hB, h.7.more sta_str hB⟩
end Go.Proofs.YtmfpbahifhndjaaGreat
/-! Layer 7: stmt: what is wrong with a statement. -/
namespace Go.Proofs.YtmfpbahifhndjaaGreat
open Go.RowKit
/-- A program lies in a world and in what has grown of it. -/
theorem PgS.grown {wb : World} {B : Nat} {A1 A2 A3 A4 A5 A6 A7 : Option Addr} {p : Pg} (h : PgS wb B A1 A2 A3 A4 A5 A6 A7 p) (hB : B ≤ wb.heap.size) (d : Nat) (os : Array Obj) :
  B ≤ (Go.Sort.grow (redrawn wb d) os).heap.size ∧ PgS (Go.Sort.grow (redrawn wb d) os) B A1 A2 A3 A4 A5 A6 A7 p :=
 ⟨Nat.le_trans hB (gsize wb d os), h.below ((below_regrown wb d os).mono hB)⟩
end Go.Proofs.YtmfpbahifhndjaaGreat
/-! Layer 7: fixed: what is wrong with a default. -/
namespace Go.Proofs.YtmfpbahifhndjaaGreat
open Go.RowKit
theorem findI_range {α : Type} [DecidableEq α] {l : List α} {a : α} (h : ¬ findI l a < 0) : ∃ k : Nat, k < l.length ∧ findI l a = (k : Int) := by
 unfold findI at h ⊢
 by_cases hm : a ∈ l
 ·rw [if_pos hm]; exact ⟨_, idx_lt a l hm, rfl⟩
 ·rw [if_neg hm] at h; omega
end Go.Proofs.YtmfpbahifhndjaaGreat

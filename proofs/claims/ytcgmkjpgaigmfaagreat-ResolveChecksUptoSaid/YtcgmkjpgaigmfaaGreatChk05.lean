import Derived.Test.YtcgmkjpgaigmfaaGreatChk04
import Derived.Laws.EntriesVeiled
set_option linter.all false
/-! Printed by gen_ast.py: ast.all of each type. -/
namespace Go.Proofs.YtcgmkjpgaigmfaaGreat
open Go.RowKit
theorem enters_all_Header : ∀ args w, (callFunc 95 args).run Tryz.prog w = .ok (.enter 95 args) w := enters_of Tryz.func95 (by kernel_rfl) rfl
set_option maxHeartbeats 1000000 in
theorem all_Header {α : Type} {R : CR α} (sR : Sta R) {B : Nat} (fid : Nat) (lb : Array Value) (eg : ∀ args w, (callFunc fid args).run Tryz.prog w = .ok (.enter fid args) w) (p : α → Bool) (A : Option Addr) (cap : Nat) (xs : List α) (w : World) (hB : B ≤ w.heap.size) (h : Sl 2 R w B A xs) (hf : FnR aggV 2 B R fid lb p xs w) :
  Calls Tryz.prog 38 #[.slice A xs.length cap, .func (.func fid) #[] lb] w fun e w' => e = .returned (.bool (xs.all p)) ∧ Below w.heap.size w w' := by
 obtain ⟨wb, hwb, hsz, hw, hcb, -⟩ := box1 w #[.func (.func fid) #[] lb] 94
 have hg : FnR aggV 2 B R 95 #[.pointer (some ⟨w.heap.size, 0, none⟩)] (fun x => !p x) xs wb := fun i x cs W hx hb hr hel => by
  have hbw := hw.trans (hb.mono (by omega))
  match cs, hel with
  | [a0, a1], _ =>
   obtain ⟨wc, hwc, hzc, hc, hcc, -⟩ := box1 W #[a0, a1] 38
   have hBW : B ≤ W.heap.size := Nat.le_trans hB hbw.size
   have hcall : Calls Tryz.prog fid (#[.agg #[a0, a1]] ++ lb) wc _ := hf i x [a0, a1] wc hx (hbw.trans (hc.mono hbw.size)) (sR.keep hr fun q hq => hc.cell (Nat.lt_of_lt_of_le hq hBW)) rfl
   have hbox : wc.cell? ⟨w.heap.size, 0, none⟩ = some (.func (.func fid) #[] lb) := (hc.cell (p := ⟨w.heap.size, 0, none⟩) (by show w.heap.size < _; have := hb.size; omega)).trans ((hb.cell (p := ⟨w.heap.size, 0, none⟩) (by show w.heap.size < _; omega)).trans (hcb 0))
   have y0 : wc.cell? ⟨W.heap.size, 0, none⟩ = some a0 := hcc 0
   have y1 : wc.cell? ⟨W.heap.size, 1, none⟩ = some a1 := hcc 1
   replace hc := hide hc
   clear hf hr hwb hcc
   show Calls _ _ (#[.agg #[a0, a1], .pointer (some ⟨w.heap.size, 0, none⟩)]) _ _
   go_enter Tryz.func95, Tryz.ntmps95
   go_wp2_with (go_at_fn fid; refine hcall.mono ?_; rintro e w' ⟨rfl, hb1⟩)
   go_ret
   exact ⟨rfl, hc.out.trans (hb1.mono (by omega))⟩
 have hv := hide (show (!xs.any fun x => !p x) = xs.all p from by rw [List.all_eq_not_any_not])
 have hS := hide (h.below sR (hw.mono hB))
 replace hg := hide hg
 replace hf := hide hf
 clear hcb
 go_enter Tryz.func38, Tryz.ntmps38
 go_wp2_with (go_at_call 94; refine (containsFunc_Header sR _ _ enters_all_Header _ _ _ _ _ (by omega) hS.out hg.out).mono ?_; rintro e w' ⟨rfl, hb⟩)
 go_ret
 exact ⟨ret_b hv.out, hw.trans (hb.mono (by omega))⟩
theorem enters_all_Field : ∀ args w, (callFunc 92 args).run Tryz.prog w = .ok (.enter 92 args) w := enters_of Tryz.func92 (by kernel_rfl) rfl
set_option maxHeartbeats 1000000 in
theorem all_Field {α : Type} {R : CR α} (sR : Sta R) {B : Nat} (fid : Nat) (lb : Array Value) (eg : ∀ args w, (callFunc fid args).run Tryz.prog w = .ok (.enter fid args) w) (p : α → Bool) (A : Option Addr) (cap : Nat) (xs : List α) (w : World) (hB : B ≤ w.heap.size) (h : Sl 2 R w B A xs) (hf : FnR aggV 2 B R fid lb p xs w) :
  Calls Tryz.prog 36 #[.slice A xs.length cap, .func (.func fid) #[] lb] w fun e w' => e = .returned (.bool (xs.all p)) ∧ Below w.heap.size w w' := by
 obtain ⟨wb, hwb, hsz, hw, hcb, -⟩ := box1 w #[.func (.func fid) #[] lb] 93
 have hg : FnR aggV 2 B R 92 #[.pointer (some ⟨w.heap.size, 0, none⟩)] (fun x => !p x) xs wb := fun i x cs W hx hb hr hel => by
  have hbw := hw.trans (hb.mono (by omega))
  match cs, hel with
  | [a0, a1], _ =>
   obtain ⟨wc, hwc, hzc, hc, hcc, -⟩ := box1 W #[a0, a1] 84
   have hBW : B ≤ W.heap.size := Nat.le_trans hB hbw.size
   have hcall : Calls Tryz.prog fid (#[.agg #[a0, a1]] ++ lb) wc _ := hf i x [a0, a1] wc hx (hbw.trans (hc.mono hbw.size)) (sR.keep hr fun q hq => hc.cell (Nat.lt_of_lt_of_le hq hBW)) rfl
   have hbox : wc.cell? ⟨w.heap.size, 0, none⟩ = some (.func (.func fid) #[] lb) := (hc.cell (p := ⟨w.heap.size, 0, none⟩) (by show w.heap.size < _; have := hb.size; omega)).trans ((hb.cell (p := ⟨w.heap.size, 0, none⟩) (by show w.heap.size < _; omega)).trans (hcb 0))
   have y0 : wc.cell? ⟨W.heap.size, 0, none⟩ = some a0 := hcc 0
   have y1 : wc.cell? ⟨W.heap.size, 1, none⟩ = some a1 := hcc 1
   replace hc := hide hc
   clear hf hr hwb hcc
   show Calls _ _ (#[.agg #[a0, a1], .pointer (some ⟨w.heap.size, 0, none⟩)]) _ _
   go_enter Tryz.func92, Tryz.ntmps92
   go_wp2_with (go_at_fn fid; refine hcall.mono ?_; rintro e w' ⟨rfl, hb1⟩)
   go_ret
   exact ⟨rfl, hc.out.trans (hb1.mono (by omega))⟩
 have hv := hide (show (!xs.any fun x => !p x) = xs.all p from by rw [List.all_eq_not_any_not])
 have hS := hide (h.below sR (hw.mono hB))
 replace hg := hide hg
 replace hf := hide hf
 clear hcb
 go_enter Tryz.func36, Tryz.ntmps36
 go_wp2_with (go_at_call 91; refine (containsFunc_Field sR _ _ enters_all_Field _ _ _ _ _ (by omega) hS.out hg.out).mono ?_; rintro e w' ⟨rfl, hb⟩)
 go_ret
 exact ⟨ret_b hv.out, hw.trans (hb.mono (by omega))⟩
theorem enters_all_State : ∀ args w, (callFunc 97 args).run Tryz.prog w = .ok (.enter 97 args) w := enters_of Tryz.func97 (by kernel_rfl) rfl
set_option maxHeartbeats 1000000 in
theorem all_State {α : Type} {R : CR α} (sR : Sta R) {B : Nat} (fid : Nat) (lb : Array Value) (eg : ∀ args w, (callFunc fid args).run Tryz.prog w = .ok (.enter fid args) w) (p : α → Bool) (A : Option Addr) (cap : Nat) (xs : List α) (w : World) (hB : B ≤ w.heap.size) (h : Sl 5 R w B A xs) (hf : FnR aggV 5 B R fid lb p xs w) :
  Calls Tryz.prog 39 #[.slice A xs.length cap, .func (.func fid) #[] lb] w fun e w' => e = .returned (.bool (xs.all p)) ∧ Below w.heap.size w w' := by
 obtain ⟨wb, hwb, hsz, hw, hcb, -⟩ := box1 w #[.func (.func fid) #[] lb] 97
 have hg : FnR aggV 5 B R 97 #[.pointer (some ⟨w.heap.size, 0, none⟩)] (fun x => !p x) xs wb := fun i x cs W hx hb hr hel => by
  have hbw := hw.trans (hb.mono (by omega))
  match cs, hel with
  | [a0, a1, a2, a3, a4], _ =>
   obtain ⟨wc, hwc, hzc, hc, hcc, -⟩ := box1 W #[a0, a1, a2, a3, a4] 52
   have hBW : B ≤ W.heap.size := Nat.le_trans hB hbw.size
   have hcall : Calls Tryz.prog fid (#[.agg #[a0, a1, a2, a3, a4]] ++ lb) wc _ := hf i x [a0, a1, a2, a3, a4] wc hx (hbw.trans (hc.mono hbw.size)) (sR.keep hr fun q hq => hc.cell (Nat.lt_of_lt_of_le hq hBW)) rfl
   have hbox : wc.cell? ⟨w.heap.size, 0, none⟩ = some (.func (.func fid) #[] lb) := (hc.cell (p := ⟨w.heap.size, 0, none⟩) (by show w.heap.size < _; have := hb.size; omega)).trans ((hb.cell (p := ⟨w.heap.size, 0, none⟩) (by show w.heap.size < _; omega)).trans (hcb 0))
   have y0 : wc.cell? ⟨W.heap.size, 0, none⟩ = some a0 := hcc 0
   have y1 : wc.cell? ⟨W.heap.size, 1, none⟩ = some a1 := hcc 1
   have y2 : wc.cell? ⟨W.heap.size, 2, none⟩ = some a2 := hcc 2
   have y3 : wc.cell? ⟨W.heap.size, 3, none⟩ = some a3 := hcc 3
   have y4 : wc.cell? ⟨W.heap.size, 4, none⟩ = some a4 := hcc 4
   replace hc := hide hc
   clear hf hr hwb hcc
   show Calls _ _ (#[.agg #[a0, a1, a2, a3, a4], .pointer (some ⟨w.heap.size, 0, none⟩)]) _ _
   go_enter Tryz.func97, Tryz.ntmps97
   go_wp2_with (go_at_fn fid; refine hcall.mono ?_; rintro e w' ⟨rfl, hb1⟩)
   go_ret
   exact ⟨rfl, hc.out.trans (hb1.mono (by omega))⟩
 have hv := hide (show (!xs.any fun x => !p x) = xs.all p from by rw [List.all_eq_not_any_not])
 have hS := hide (h.below sR (hw.mono hB))
 replace hg := hide hg
 replace hf := hide hf
 clear hcb
 go_enter Tryz.func39, Tryz.ntmps39
 go_wp2_with (go_at_call 96; refine (containsFunc_State sR _ _ enters_all_State _ _ _ _ _ (by omega) hS.out hg.out).mono ?_; rintro e w' ⟨rfl, hb⟩)
 go_ret
 exact ⟨ret_b hv.out, hw.trans (hb.mono (by omega))⟩
theorem enters_all_Action : ∀ args w, (callFunc 106 args).run Tryz.prog w = .ok (.enter 106 args) w := enters_of Tryz.func106 (by kernel_rfl) rfl
set_option maxHeartbeats 1000000 in
theorem all_Action {α : Type} {R : CR α} (sR : Sta R) {B : Nat} (fid : Nat) (lb : Array Value) (eg : ∀ args w, (callFunc fid args).run Tryz.prog w = .ok (.enter fid args) w) (p : α → Bool) (A : Option Addr) (cap : Nat) (xs : List α) (w : World) (hB : B ≤ w.heap.size) (h : Sl 3 R w B A xs) (hf : FnR aggV 3 B R fid lb p xs w) :
  Calls Tryz.prog 41 #[.slice A xs.length cap, .func (.func fid) #[] lb] w fun e w' => e = .returned (.bool (xs.all p)) ∧ Below w.heap.size w w' := by
 obtain ⟨wb, hwb, hsz, hw, hcb, -⟩ := box1 w #[.func (.func fid) #[] lb] 99
 have hg : FnR aggV 3 B R 106 #[.pointer (some ⟨w.heap.size, 0, none⟩)] (fun x => !p x) xs wb := fun i x cs W hx hb hr hel => by
  have hbw := hw.trans (hb.mono (by omega))
  match cs, hel with
  | [a0, a1, a2], _ =>
   obtain ⟨wc, hwc, hzc, hc, hcc, -⟩ := box1 W #[a0, a1, a2] 42
   have hBW : B ≤ W.heap.size := Nat.le_trans hB hbw.size
   have hcall : Calls Tryz.prog fid (#[.agg #[a0, a1, a2]] ++ lb) wc _ := hf i x [a0, a1, a2] wc hx (hbw.trans (hc.mono hbw.size)) (sR.keep hr fun q hq => hc.cell (Nat.lt_of_lt_of_le hq hBW)) rfl
   have hbox : wc.cell? ⟨w.heap.size, 0, none⟩ = some (.func (.func fid) #[] lb) := (hc.cell (p := ⟨w.heap.size, 0, none⟩) (by show w.heap.size < _; have := hb.size; omega)).trans ((hb.cell (p := ⟨w.heap.size, 0, none⟩) (by show w.heap.size < _; omega)).trans (hcb 0))
   have y0 : wc.cell? ⟨W.heap.size, 0, none⟩ = some a0 := hcc 0
   have y1 : wc.cell? ⟨W.heap.size, 1, none⟩ = some a1 := hcc 1
   have y2 : wc.cell? ⟨W.heap.size, 2, none⟩ = some a2 := hcc 2
   replace hc := hide hc
   clear hf hr hwb hcc
   show Calls _ _ (#[.agg #[a0, a1, a2], .pointer (some ⟨w.heap.size, 0, none⟩)]) _ _
   go_enter Tryz.func106, Tryz.ntmps106
   go_wp2_with (go_at_fn fid; refine hcall.mono ?_; rintro e w' ⟨rfl, hb1⟩)
   go_ret
   exact ⟨rfl, hc.out.trans (hb1.mono (by omega))⟩
 have hv := hide (show (!xs.any fun x => !p x) = xs.all p from by rw [List.all_eq_not_any_not])
 have hS := hide (h.below sR (hw.mono hB))
 replace hg := hide hg
 replace hf := hide hf
 clear hcb
 go_enter Tryz.func41, Tryz.ntmps41
 go_wp2_with (go_at_call 105; refine (containsFunc_Action sR _ _ enters_all_Action _ _ _ _ _ (by omega) hS.out hg.out).mono ?_; rintro e w' ⟨rfl, hb⟩)
 go_ret
 exact ⟨ret_b hv.out, hw.trans (hb.mono (by omega))⟩
theorem enters_all_Table : ∀ args w, (callFunc 108 args).run Tryz.prog w = .ok (.enter 108 args) w := enters_of Tryz.func108 (by kernel_rfl) rfl
set_option maxHeartbeats 1000000 in
theorem all_Table {α : Type} {R : CR α} (sR : Sta R) {B : Nat} (fid : Nat) (lb : Array Value) (eg : ∀ args w, (callFunc fid args).run Tryz.prog w = .ok (.enter fid args) w) (p : α → Bool) (A : Option Addr) (cap : Nat) (xs : List α) (w : World) (hB : B ≤ w.heap.size) (h : Sl 5 R w B A xs) (hf : FnR aggV 5 B R fid lb p xs w) :
  Calls Tryz.prog 43 #[.slice A xs.length cap, .func (.func fid) #[] lb] w fun e w' => e = .returned (.bool (xs.all p)) ∧ Below w.heap.size w w' := by
 obtain ⟨wb, hwb, hsz, hw, hcb, -⟩ := box1 w #[.func (.func fid) #[] lb] 101
 have hg : FnR aggV 5 B R 108 #[.pointer (some ⟨w.heap.size, 0, none⟩)] (fun x => !p x) xs wb := fun i x cs W hx hb hr hel => by
  have hbw := hw.trans (hb.mono (by omega))
  match cs, hel with
  | [a0, a1, a2, a3, a4], _ =>
   obtain ⟨wc, hwc, hzc, hc, hcc, -⟩ := box1 W #[a0, a1, a2, a3, a4] 48
   have hBW : B ≤ W.heap.size := Nat.le_trans hB hbw.size
   have hcall : Calls Tryz.prog fid (#[.agg #[a0, a1, a2, a3, a4]] ++ lb) wc _ := hf i x [a0, a1, a2, a3, a4] wc hx (hbw.trans (hc.mono hbw.size)) (sR.keep hr fun q hq => hc.cell (Nat.lt_of_lt_of_le hq hBW)) rfl
   have hbox : wc.cell? ⟨w.heap.size, 0, none⟩ = some (.func (.func fid) #[] lb) := (hc.cell (p := ⟨w.heap.size, 0, none⟩) (by show w.heap.size < _; have := hb.size; omega)).trans ((hb.cell (p := ⟨w.heap.size, 0, none⟩) (by show w.heap.size < _; omega)).trans (hcb 0))
   have y0 : wc.cell? ⟨W.heap.size, 0, none⟩ = some a0 := hcc 0
   have y1 : wc.cell? ⟨W.heap.size, 1, none⟩ = some a1 := hcc 1
   have y2 : wc.cell? ⟨W.heap.size, 2, none⟩ = some a2 := hcc 2
   have y3 : wc.cell? ⟨W.heap.size, 3, none⟩ = some a3 := hcc 3
   have y4 : wc.cell? ⟨W.heap.size, 4, none⟩ = some a4 := hcc 4
   replace hc := hide hc
   clear hf hr hwb hcc
   show Calls _ _ (#[.agg #[a0, a1, a2, a3, a4], .pointer (some ⟨w.heap.size, 0, none⟩)]) _ _
   go_enter Tryz.func108, Tryz.ntmps108
   go_wp2_with (go_at_fn fid; refine hcall.mono ?_; rintro e w' ⟨rfl, hb1⟩)
   go_ret
   exact ⟨rfl, hc.out.trans (hb1.mono (by omega))⟩
 have hv := hide (show (!xs.any fun x => !p x) = xs.all p from by rw [List.all_eq_not_any_not])
 have hS := hide (h.below sR (hw.mono hB))
 replace hg := hide hg
 replace hf := hide hf
 clear hcb
 go_enter Tryz.func43, Tryz.ntmps43
 go_wp2_with (go_at_call 107; refine (containsFunc_Table sR _ _ enters_all_Table _ _ _ _ _ (by omega) hS.out hg.out).mono ?_; rintro e w' ⟨rfl, hb⟩)
 go_ret
 exact ⟨ret_b hv.out, hw.trans (hb.mono (by omega))⟩
theorem enters_all_string : ∀ args w, (callFunc 117 args).run Tryz.prog w = .ok (.enter 117 args) w := enters_of Tryz.func117 (by kernel_rfl) rfl
set_option maxHeartbeats 1000000 in
theorem all_string {α : Type} {R : CR α} (sR : Sta R) {B : Nat} (fid : Nat) (lb : Array Value) (eg : ∀ args w, (callFunc fid args).run Tryz.prog w = .ok (.enter fid args) w) (p : α → Bool) (A : Option Addr) (cap : Nat) (xs : List α) (w : World) (hB : B ≤ w.heap.size) (h : Sl 1 R w B A xs) (hf : FnR oneV 1 B R fid lb p xs w) :
  Calls Tryz.prog 46 #[.slice A xs.length cap, .func (.func fid) #[] lb] w fun e w' => e = .returned (.bool (xs.all p)) ∧ Below w.heap.size w w' := by
 obtain ⟨wb, hwb, hsz, hw, hcb, -⟩ := box1 w #[.func (.func fid) #[] lb] 91
 have hg : FnR oneV 1 B R 117 #[.pointer (some ⟨w.heap.size, 0, none⟩)] (fun x => !p x) xs wb := fun i x cs W hx hb hr hel => by
  have hbw := hw.trans (hb.mono (by omega))
  match cs, hel with
  | [a0], _ =>
   have hcall : Calls Tryz.prog fid (#[a0] ++ lb) W _ := hf i x [a0] W hx hbw hr rfl
   have hbox : W.cell? ⟨w.heap.size, 0, none⟩ = some (.func (.func fid) #[] lb) := (hb.cell (p := ⟨w.heap.size, 0, none⟩) (by show w.heap.size < _; omega)).trans (hcb 0)
   clear hf hr hwb
   show Calls _ _ (#[a0, .pointer (some ⟨w.heap.size, 0, none⟩)]) _ _
   go_enter Tryz.func117, Tryz.ntmps117
   go_wp2_with (go_at_fn fid; refine hcall.mono ?_; rintro e w' ⟨rfl, hb1⟩)
   go_ret
   exact ⟨rfl, hb1⟩
 have hv := hide (show (!xs.any fun x => !p x) = xs.all p from by rw [List.all_eq_not_any_not])
 have hS := hide (h.below sR (hw.mono hB))
 replace hg := hide hg
 replace hf := hide hf
 clear hcb
 go_enter Tryz.func46, Tryz.ntmps46
 go_wp2_with (go_at_call 116; refine (containsFunc_string sR _ _ enters_all_string _ _ _ _ _ (by omega) hS.out hg.out).mono ?_; rintro e w' ⟨rfl, hb⟩)
 go_ret
 exact ⟨ret_b hv.out, hw.trans (hb.mono (by omega))⟩
theorem enters_all_Expr : ∀ args w, (callFunc 145 args).run Tryz.prog w = .ok (.enter 145 args) w := enters_of Tryz.func145 (by kernel_rfl) rfl
set_option maxHeartbeats 1000000 in
theorem all_Expr {α : Type} {R : CR α} (sR : Sta R) {B : Nat} (fid : Nat) (lb : Array Value) (eg : ∀ args w, (callFunc fid args).run Tryz.prog w = .ok (.enter fid args) w) (p : α → Bool) (A : Option Addr) (cap : Nat) (xs : List α) (w : World) (hB : B ≤ w.heap.size) (h : Sl 9 R w B A xs) (hf : FnR aggV 9 B R fid lb p xs w) :
  Calls Tryz.prog 99 #[.slice A xs.length cap, .func (.func fid) #[] lb] w fun e w' => e = .returned (.bool (xs.all p)) ∧ Below w.heap.size w w' := by
 obtain ⟨wb, hwb, hsz, hw, hcb, -⟩ := box1 w #[.func (.func fid) #[] lb] 131
 have hg : FnR aggV 9 B R 145 #[.pointer (some ⟨w.heap.size, 0, none⟩)] (fun x => !p x) xs wb := fun i x cs W hx hb hr hel => by
  have hbw := hw.trans (hb.mono (by omega))
  match cs, hel with
  | [a0, a1, a2, a3, a4, a5, a6, a7, a8], _ =>
   obtain ⟨wc, hwc, hzc, hc, hcc, -⟩ := box1 W #[a0, a1, a2, a3, a4, a5, a6, a7, a8] 68
   have hBW : B ≤ W.heap.size := Nat.le_trans hB hbw.size
   have hcall : Calls Tryz.prog fid (#[.agg #[a0, a1, a2, a3, a4, a5, a6, a7, a8]] ++ lb) wc _ := hf i x [a0, a1, a2, a3, a4, a5, a6, a7, a8] wc hx (hbw.trans (hc.mono hbw.size)) (sR.keep hr fun q hq => hc.cell (Nat.lt_of_lt_of_le hq hBW)) rfl
   have hbox : wc.cell? ⟨w.heap.size, 0, none⟩ = some (.func (.func fid) #[] lb) := (hc.cell (p := ⟨w.heap.size, 0, none⟩) (by show w.heap.size < _; have := hb.size; omega)).trans ((hb.cell (p := ⟨w.heap.size, 0, none⟩) (by show w.heap.size < _; omega)).trans (hcb 0))
   have y0 : wc.cell? ⟨W.heap.size, 0, none⟩ = some a0 := hcc 0
   have y1 : wc.cell? ⟨W.heap.size, 1, none⟩ = some a1 := hcc 1
   have y2 : wc.cell? ⟨W.heap.size, 2, none⟩ = some a2 := hcc 2
   have y3 : wc.cell? ⟨W.heap.size, 3, none⟩ = some a3 := hcc 3
   have y4 : wc.cell? ⟨W.heap.size, 4, none⟩ = some a4 := hcc 4
   have y5 : wc.cell? ⟨W.heap.size, 5, none⟩ = some a5 := hcc 5
   have y6 : wc.cell? ⟨W.heap.size, 6, none⟩ = some a6 := hcc 6
   have y7 : wc.cell? ⟨W.heap.size, 7, none⟩ = some a7 := hcc 7
   have y8 : wc.cell? ⟨W.heap.size, 8, none⟩ = some a8 := hcc 8
   replace hc := hide hc
   clear hf hr hwb hcc
   show Calls _ _ (#[.agg #[a0, a1, a2, a3, a4, a5, a6, a7, a8], .pointer (some ⟨w.heap.size, 0, none⟩)]) _ _
   go_enter Tryz.func145, Tryz.ntmps145
   go_wp2_with (go_at_fn fid; refine hcall.mono ?_; rintro e w' ⟨rfl, hb1⟩)
   go_ret
   exact ⟨rfl, hc.out.trans (hb1.mono (by omega))⟩
 have hv := hide (show (!xs.any fun x => !p x) = xs.all p from by rw [List.all_eq_not_any_not])
 have hS := hide (h.below sR (hw.mono hB))
 replace hg := hide hg
 replace hf := hide hf
 clear hcb
 go_enter Tryz.func99, Tryz.ntmps99
 go_wp2_with (go_at_call 144; refine (containsFunc_Expr sR _ _ enters_all_Expr _ _ _ _ _ (by omega) hS.out hg.out).mono ?_; rintro e w' ⟨rfl, hb⟩)
 go_ret
 exact ⟨ret_b hv.out, hw.trans (hb.mono (by omega))⟩
theorem enters_all_Case : ∀ args w, (callFunc 153 args).run Tryz.prog w = .ok (.enter 153 args) w := enters_of Tryz.func153 (by kernel_rfl) rfl
set_option maxHeartbeats 1000000 in
theorem all_Case {α : Type} {R : CR α} (sR : Sta R) {B : Nat} (fid : Nat) (lb : Array Value) (eg : ∀ args w, (callFunc fid args).run Tryz.prog w = .ok (.enter fid args) w) (p : α → Bool) (A : Option Addr) (cap : Nat) (xs : List α) (w : World) (hB : B ≤ w.heap.size) (h : Sl 3 R w B A xs) (hf : FnR aggV 3 B R fid lb p xs w) :
  Calls Tryz.prog 101 #[.slice A xs.length cap, .func (.func fid) #[] lb] w fun e w' => e = .returned (.bool (xs.all p)) ∧ Below w.heap.size w w' := by
 obtain ⟨wb, hwb, hsz, hw, hcb, -⟩ := box1 w #[.func (.func fid) #[] lb] 137
 have hg : FnR aggV 3 B R 153 #[.pointer (some ⟨w.heap.size, 0, none⟩)] (fun x => !p x) xs wb := fun i x cs W hx hb hr hel => by
  have hbw := hw.trans (hb.mono (by omega))
  match cs, hel with
  | [a0, a1, a2], _ =>
   obtain ⟨wc, hwc, hzc, hc, hcc, -⟩ := box1 W #[a0, a1, a2] 57
   have hBW : B ≤ W.heap.size := Nat.le_trans hB hbw.size
   have hcall : Calls Tryz.prog fid (#[.agg #[a0, a1, a2]] ++ lb) wc _ := hf i x [a0, a1, a2] wc hx (hbw.trans (hc.mono hbw.size)) (sR.keep hr fun q hq => hc.cell (Nat.lt_of_lt_of_le hq hBW)) rfl
   have hbox : wc.cell? ⟨w.heap.size, 0, none⟩ = some (.func (.func fid) #[] lb) := (hc.cell (p := ⟨w.heap.size, 0, none⟩) (by show w.heap.size < _; have := hb.size; omega)).trans ((hb.cell (p := ⟨w.heap.size, 0, none⟩) (by show w.heap.size < _; omega)).trans (hcb 0))
   have y0 : wc.cell? ⟨W.heap.size, 0, none⟩ = some a0 := hcc 0
   have y1 : wc.cell? ⟨W.heap.size, 1, none⟩ = some a1 := hcc 1
   have y2 : wc.cell? ⟨W.heap.size, 2, none⟩ = some a2 := hcc 2
   replace hc := hide hc
   clear hf hr hwb hcc
   show Calls _ _ (#[.agg #[a0, a1, a2], .pointer (some ⟨w.heap.size, 0, none⟩)]) _ _
   go_enter Tryz.func153, Tryz.ntmps153
   go_wp2_with (go_at_fn fid; refine hcall.mono ?_; rintro e w' ⟨rfl, hb1⟩)
   go_ret
   exact ⟨rfl, hc.out.trans (hb1.mono (by omega))⟩
 have hv := hide (show (!xs.any fun x => !p x) = xs.all p from by rw [List.all_eq_not_any_not])
 have hS := hide (h.below sR (hw.mono hB))
 replace hg := hide hg
 replace hf := hide hf
 clear hcb
 go_enter Tryz.func101, Tryz.ntmps101
 go_wp2_with (go_at_call 152; refine (containsFunc_Case sR _ _ enters_all_Case _ _ _ _ _ (by omega) hS.out hg.out).mono ?_; rintro e w' ⟨rfl, hb⟩)
 go_ret
 exact ⟨ret_b hv.out, hw.trans (hb.mono (by omega))⟩
theorem enters_all_Set : ∀ args w, (callFunc 155 args).run Tryz.prog w = .ok (.enter 155 args) w := enters_of Tryz.func155 (by kernel_rfl) rfl
set_option maxHeartbeats 1000000 in
theorem all_Set {α : Type} {R : CR α} (sR : Sta R) {B : Nat} (fid : Nat) (lb : Array Value) (eg : ∀ args w, (callFunc fid args).run Tryz.prog w = .ok (.enter fid args) w) (p : α → Bool) (A : Option Addr) (cap : Nat) (xs : List α) (w : World) (hB : B ≤ w.heap.size) (h : Sl 7 R w B A xs) (hf : FnR aggV 7 B R fid lb p xs w) :
  Calls Tryz.prog 103 #[.slice A xs.length cap, .func (.func fid) #[] lb] w fun e w' => e = .returned (.bool (xs.all p)) ∧ Below w.heap.size w w' := by
 obtain ⟨wb, hwb, hsz, hw, hcb, -⟩ := box1 w #[.func (.func fid) #[] lb] 136
 have hg : FnR aggV 7 B R 155 #[.pointer (some ⟨w.heap.size, 0, none⟩)] (fun x => !p x) xs wb := fun i x cs W hx hb hr hel => by
  have hbw := hw.trans (hb.mono (by omega))
  match cs, hel with
  | [a0, a1, a2, a3, a4, a5, a6], _ =>
   obtain ⟨wc, hwc, hzc, hc, hcc, -⟩ := box1 W #[a0, a1, a2, a3, a4, a5, a6] 135
   have hBW : B ≤ W.heap.size := Nat.le_trans hB hbw.size
   have hcall : Calls Tryz.prog fid (#[.agg #[a0, a1, a2, a3, a4, a5, a6]] ++ lb) wc _ := hf i x [a0, a1, a2, a3, a4, a5, a6] wc hx (hbw.trans (hc.mono hbw.size)) (sR.keep hr fun q hq => hc.cell (Nat.lt_of_lt_of_le hq hBW)) rfl
   have hbox : wc.cell? ⟨w.heap.size, 0, none⟩ = some (.func (.func fid) #[] lb) := (hc.cell (p := ⟨w.heap.size, 0, none⟩) (by show w.heap.size < _; have := hb.size; omega)).trans ((hb.cell (p := ⟨w.heap.size, 0, none⟩) (by show w.heap.size < _; omega)).trans (hcb 0))
   have y0 : wc.cell? ⟨W.heap.size, 0, none⟩ = some a0 := hcc 0
   have y1 : wc.cell? ⟨W.heap.size, 1, none⟩ = some a1 := hcc 1
   have y2 : wc.cell? ⟨W.heap.size, 2, none⟩ = some a2 := hcc 2
   have y3 : wc.cell? ⟨W.heap.size, 3, none⟩ = some a3 := hcc 3
   have y4 : wc.cell? ⟨W.heap.size, 4, none⟩ = some a4 := hcc 4
   have y5 : wc.cell? ⟨W.heap.size, 5, none⟩ = some a5 := hcc 5
   have y6 : wc.cell? ⟨W.heap.size, 6, none⟩ = some a6 := hcc 6
   replace hc := hide hc
   clear hf hr hwb hcc
   show Calls _ _ (#[.agg #[a0, a1, a2, a3, a4, a5, a6], .pointer (some ⟨w.heap.size, 0, none⟩)]) _ _
   go_enter Tryz.func155, Tryz.ntmps155
   go_wp2_with (go_at_fn fid; refine hcall.mono ?_; rintro e w' ⟨rfl, hb1⟩)
   go_ret
   exact ⟨rfl, hc.out.trans (hb1.mono (by omega))⟩
 have hv := hide (show (!xs.any fun x => !p x) = xs.all p from by rw [List.all_eq_not_any_not])
 have hS := hide (h.below sR (hw.mono hB))
 replace hg := hide hg
 replace hf := hide hf
 clear hcb
 go_enter Tryz.func103, Tryz.ntmps103
 go_wp2_with (go_at_call 154; refine (containsFunc_Set sR _ _ enters_all_Set _ _ _ _ _ (by omega) hS.out hg.out).mono ?_; rintro e w' ⟨rfl, hb⟩)
 go_ret
 exact ⟨ret_b hv.out, hw.trans (hb.mono (by omega))⟩
theorem enters_all_Key : ∀ args w, (callFunc 157 args).run Tryz.prog w = .ok (.enter 157 args) w := enters_of Tryz.func157 (by kernel_rfl) rfl
set_option maxHeartbeats 1000000 in
theorem all_Key {α : Type} {R : CR α} (sR : Sta R) {B : Nat} (fid : Nat) (lb : Array Value) (eg : ∀ args w, (callFunc fid args).run Tryz.prog w = .ok (.enter fid args) w) (p : α → Bool) (A : Option Addr) (cap : Nat) (xs : List α) (w : World) (hB : B ≤ w.heap.size) (h : Sl 10 R w B A xs) (hf : FnR aggV 10 B R fid lb p xs w) :
  Calls Tryz.prog 110 #[.slice A xs.length cap, .func (.func fid) #[] lb] w fun e w' => e = .returned (.bool (xs.all p)) ∧ Below w.heap.size w w' := by
 obtain ⟨wb, hwb, hsz, hw, hcb, -⟩ := box1 w #[.func (.func fid) #[] lb] 138
 have hg : FnR aggV 10 B R 157 #[.pointer (some ⟨w.heap.size, 0, none⟩)] (fun x => !p x) xs wb := fun i x cs W hx hb hr hel => by
  have hbw := hw.trans (hb.mono (by omega))
  match cs, hel with
  | [a0, a1, a2, a3, a4, a5, a6, a7, a8, a9], _ =>
   obtain ⟨wc, hwc, hzc, hc, hcc, -⟩ := box1 W #[a0, a1, a2, a3, a4, a5, a6, a7, a8, a9] 70
   have hBW : B ≤ W.heap.size := Nat.le_trans hB hbw.size
   have hcall : Calls Tryz.prog fid (#[.agg #[a0, a1, a2, a3, a4, a5, a6, a7, a8, a9]] ++ lb) wc _ := hf i x [a0, a1, a2, a3, a4, a5, a6, a7, a8, a9] wc hx (hbw.trans (hc.mono hbw.size)) (sR.keep hr fun q hq => hc.cell (Nat.lt_of_lt_of_le hq hBW)) rfl
   have hbox : wc.cell? ⟨w.heap.size, 0, none⟩ = some (.func (.func fid) #[] lb) := (hc.cell (p := ⟨w.heap.size, 0, none⟩) (by show w.heap.size < _; have := hb.size; omega)).trans ((hb.cell (p := ⟨w.heap.size, 0, none⟩) (by show w.heap.size < _; omega)).trans (hcb 0))
   have y0 : wc.cell? ⟨W.heap.size, 0, none⟩ = some a0 := hcc 0
   have y1 : wc.cell? ⟨W.heap.size, 1, none⟩ = some a1 := hcc 1
   have y2 : wc.cell? ⟨W.heap.size, 2, none⟩ = some a2 := hcc 2
   have y3 : wc.cell? ⟨W.heap.size, 3, none⟩ = some a3 := hcc 3
   have y4 : wc.cell? ⟨W.heap.size, 4, none⟩ = some a4 := hcc 4
   have y5 : wc.cell? ⟨W.heap.size, 5, none⟩ = some a5 := hcc 5
   have y6 : wc.cell? ⟨W.heap.size, 6, none⟩ = some a6 := hcc 6
   have y7 : wc.cell? ⟨W.heap.size, 7, none⟩ = some a7 := hcc 7
   have y8 : wc.cell? ⟨W.heap.size, 8, none⟩ = some a8 := hcc 8
   have y9 : wc.cell? ⟨W.heap.size, 9, none⟩ = some a9 := hcc 9
   replace hc := hide hc
   clear hf hr hwb hcc
   show Calls _ _ (#[.agg #[a0, a1, a2, a3, a4, a5, a6, a7, a8, a9], .pointer (some ⟨w.heap.size, 0, none⟩)]) _ _
   go_enter Tryz.func157, Tryz.ntmps157
   go_wp2_with (go_at_fn fid; refine hcall.mono ?_; rintro e w' ⟨rfl, hb1⟩)
   go_ret
   exact ⟨rfl, hc.out.trans (hb1.mono (by omega))⟩
 have hv := hide (show (!xs.any fun x => !p x) = xs.all p from by rw [List.all_eq_not_any_not])
 have hS := hide (h.below sR (hw.mono hB))
 replace hg := hide hg
 replace hf := hide hf
 clear hcb
 go_enter Tryz.func110, Tryz.ntmps110
 go_wp2_with (go_at_call 156; refine (containsFunc_Key sR _ _ enters_all_Key _ _ _ _ _ (by omega) hS.out hg.out).mono ?_; rintro e w' ⟨rfl, hb⟩)
 go_ret
 exact ⟨ret_b hv.out, hw.trans (hb.mono (by omega))⟩
theorem enters_all_Lit : ∀ args w, (callFunc 159 args).run Tryz.prog w = .ok (.enter 159 args) w := enters_of Tryz.func159 (by kernel_rfl) rfl
set_option maxHeartbeats 1000000 in
theorem all_Lit {α : Type} {R : CR α} (sR : Sta R) {B : Nat} (fid : Nat) (lb : Array Value) (eg : ∀ args w, (callFunc fid args).run Tryz.prog w = .ok (.enter fid args) w) (p : α → Bool) (A : Option Addr) (cap : Nat) (xs : List α) (w : World) (hB : B ≤ w.heap.size) (h : Sl 3 R w B A xs) (hf : FnR aggV 3 B R fid lb p xs w) :
  Calls Tryz.prog 111 #[.slice A xs.length cap, .func (.func fid) #[] lb] w fun e w' => e = .returned (.bool (xs.all p)) ∧ Below w.heap.size w w' := by
 obtain ⟨wb, hwb, hsz, hw, hcb, -⟩ := box1 w #[.func (.func fid) #[] lb] 141
 have hg : FnR aggV 3 B R 159 #[.pointer (some ⟨w.heap.size, 0, none⟩)] (fun x => !p x) xs wb := fun i x cs W hx hb hr hel => by
  have hbw := hw.trans (hb.mono (by omega))
  match cs, hel with
  | [a0, a1, a2], _ =>
   obtain ⟨wc, hwc, hzc, hc, hcc, -⟩ := box1 W #[a0, a1, a2] 66
   have hBW : B ≤ W.heap.size := Nat.le_trans hB hbw.size
   have hcall : Calls Tryz.prog fid (#[.agg #[a0, a1, a2]] ++ lb) wc _ := hf i x [a0, a1, a2] wc hx (hbw.trans (hc.mono hbw.size)) (sR.keep hr fun q hq => hc.cell (Nat.lt_of_lt_of_le hq hBW)) rfl
   have hbox : wc.cell? ⟨w.heap.size, 0, none⟩ = some (.func (.func fid) #[] lb) := (hc.cell (p := ⟨w.heap.size, 0, none⟩) (by show w.heap.size < _; have := hb.size; omega)).trans ((hb.cell (p := ⟨w.heap.size, 0, none⟩) (by show w.heap.size < _; omega)).trans (hcb 0))
   have y0 : wc.cell? ⟨W.heap.size, 0, none⟩ = some a0 := hcc 0
   have y1 : wc.cell? ⟨W.heap.size, 1, none⟩ = some a1 := hcc 1
   have y2 : wc.cell? ⟨W.heap.size, 2, none⟩ = some a2 := hcc 2
   replace hc := hide hc
   clear hf hr hwb hcc
   show Calls _ _ (#[.agg #[a0, a1, a2], .pointer (some ⟨w.heap.size, 0, none⟩)]) _ _
   go_enter Tryz.func159, Tryz.ntmps159
   go_wp2_with (go_at_fn fid; refine hcall.mono ?_; rintro e w' ⟨rfl, hb1⟩)
   go_ret
   exact ⟨rfl, hc.out.trans (hb1.mono (by omega))⟩
 have hv := hide (show (!xs.any fun x => !p x) = xs.all p from by rw [List.all_eq_not_any_not])
 have hS := hide (h.below sR (hw.mono hB))
 replace hg := hide hg
 replace hf := hide hf
 clear hcb
 go_enter Tryz.func111, Tryz.ntmps111
 go_wp2_with (go_at_call 158; refine (containsFunc_Lit sR _ _ enters_all_Lit _ _ _ _ _ (by omega) hS.out hg.out).mono ?_; rintro e w' ⟨rfl, hb⟩)
 go_ret
 exact ⟨ret_b hv.out, hw.trans (hb.mono (by omega))⟩
theorem enters_all_Stmt : ∀ args w, (callFunc 162 args).run Tryz.prog w = .ok (.enter 162 args) w := enters_of Tryz.func162 (by kernel_rfl) rfl
set_option maxHeartbeats 1000000 in
theorem all_Stmt {α : Type} {R : CR α} (sR : Sta R) {B : Nat} (fid : Nat) (lb : Array Value) (eg : ∀ args w, (callFunc fid args).run Tryz.prog w = .ok (.enter fid args) w) (p : α → Bool) (A : Option Addr) (cap : Nat) (xs : List α) (w : World) (hB : B ≤ w.heap.size) (h : Sl 14 R w B A xs) (hf : FnR aggV 14 B R fid lb p xs w) :
  Calls Tryz.prog 113 #[.slice A xs.length cap, .func (.func fid) #[] lb] w fun e w' => e = .returned (.bool (xs.all p)) ∧ Below w.heap.size w w' := by
 obtain ⟨wb, hwb, hsz, hw, hcb, -⟩ := box1 w #[.func (.func fid) #[] lb] 144
 have hg : FnR aggV 14 B R 162 #[.pointer (some ⟨w.heap.size, 0, none⟩)] (fun x => !p x) xs wb := fun i x cs W hx hb hr hel => by
  have hbw := hw.trans (hb.mono (by omega))
  match cs, hel with
  | [a0, a1, a2, a3, a4, a5, a6, a7, a8, a9, a10, a11, a12, a13], _ =>
   obtain ⟨wc, hwc, hzc, hc, hcc, -⟩ := box1 W #[a0, a1, a2, a3, a4, a5, a6, a7, a8, a9, a10, a11, a12, a13] 75
   have hBW : B ≤ W.heap.size := Nat.le_trans hB hbw.size
   have hcall : Calls Tryz.prog fid (#[.agg #[a0, a1, a2, a3, a4, a5, a6, a7, a8, a9, a10, a11, a12, a13]] ++ lb) wc _ := hf i x [a0, a1, a2, a3, a4, a5, a6, a7, a8, a9, a10, a11, a12, a13] wc hx (hbw.trans (hc.mono hbw.size)) (sR.keep hr fun q hq => hc.cell (Nat.lt_of_lt_of_le hq hBW)) rfl
   have hbox : wc.cell? ⟨w.heap.size, 0, none⟩ = some (.func (.func fid) #[] lb) := (hc.cell (p := ⟨w.heap.size, 0, none⟩) (by show w.heap.size < _; have := hb.size; omega)).trans ((hb.cell (p := ⟨w.heap.size, 0, none⟩) (by show w.heap.size < _; omega)).trans (hcb 0))
   have y0 : wc.cell? ⟨W.heap.size, 0, none⟩ = some a0 := hcc 0
   have y1 : wc.cell? ⟨W.heap.size, 1, none⟩ = some a1 := hcc 1
   have y2 : wc.cell? ⟨W.heap.size, 2, none⟩ = some a2 := hcc 2
   have y3 : wc.cell? ⟨W.heap.size, 3, none⟩ = some a3 := hcc 3
   have y4 : wc.cell? ⟨W.heap.size, 4, none⟩ = some a4 := hcc 4
   have y5 : wc.cell? ⟨W.heap.size, 5, none⟩ = some a5 := hcc 5
   have y6 : wc.cell? ⟨W.heap.size, 6, none⟩ = some a6 := hcc 6
   have y7 : wc.cell? ⟨W.heap.size, 7, none⟩ = some a7 := hcc 7
   have y8 : wc.cell? ⟨W.heap.size, 8, none⟩ = some a8 := hcc 8
   have y9 : wc.cell? ⟨W.heap.size, 9, none⟩ = some a9 := hcc 9
   have y10 : wc.cell? ⟨W.heap.size, 10, none⟩ = some a10 := hcc 10
   have y11 : wc.cell? ⟨W.heap.size, 11, none⟩ = some a11 := hcc 11
   have y12 : wc.cell? ⟨W.heap.size, 12, none⟩ = some a12 := hcc 12
   have y13 : wc.cell? ⟨W.heap.size, 13, none⟩ = some a13 := hcc 13
   replace hc := hide hc
   clear hf hr hwb hcc
   show Calls _ _ (#[.agg #[a0, a1, a2, a3, a4, a5, a6, a7, a8, a9, a10, a11, a12, a13], .pointer (some ⟨w.heap.size, 0, none⟩)]) _ _
   go_enter Tryz.func162, Tryz.ntmps162
   go_wp2_with (go_at_fn fid; refine hcall.mono ?_; rintro e w' ⟨rfl, hb1⟩)
   go_ret
   exact ⟨rfl, hc.out.trans (hb1.mono (by omega))⟩
 have hv := hide (show (!xs.any fun x => !p x) = xs.all p from by rw [List.all_eq_not_any_not])
 have hS := hide (h.below sR (hw.mono hB))
 replace hg := hide hg
 replace hf := hide hf
 clear hcb
 go_enter Tryz.func113, Tryz.ntmps113
 go_wp2_with (go_at_call 161; refine (containsFunc_Stmt sR _ _ enters_all_Stmt _ _ _ _ _ (by omega) hS.out hg.out).mono ?_; rintro e w' ⟨rfl, hb⟩)
 go_ret
 exact ⟨ret_b hv.out, hw.trans (hb.mono (by omega))⟩
end Go.Proofs.YtcgmkjpgaigmfaaGreat

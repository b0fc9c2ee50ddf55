import Derived.Test.YtbbdhknagofghaaGreatWhl05
import Derived.Laws.EntriesVeiled
set_option linter.all false
/-! Printed by gen_ast.py: ast.all of each type. -/
namespace Go.Proofs.YtbbdhknagofghaaGreat
open Go.RowKit
theorem enters_all_Header : ∀ args w, (callFunc 131 args).run Tryz.prog w = .ok (.enter 131 args) w := enters_of Tryz.func131 (by kernel_rfl) rfl
set_option maxHeartbeats 1000000 in
theorem all_Header {α : Type} {R : CR α} (sR : Sta R) {B : Nat} (fid : Nat) (lb : Array Value) (eg : ∀ args w, (callFunc fid args).run Tryz.prog w = .ok (.enter fid args) w) (p : α → Bool) (A : Option Addr) (cap : Nat) (xs : List α) (w : World) (hB : B ≤ w.heap.size) (h : Sl 2 R w B A xs) (hf : FnR aggV 2 B R fid lb p xs w) :
  Calls Tryz.prog 61 #[.slice A xs.length cap, .func (.func fid) #[] lb] w fun e w' => e = .returned (.bool (xs.all p)) ∧ Below w.heap.size w w' := by
 obtain ⟨wb, hwb, hsz, hw, hcb, -⟩ := box1 w #[.func (.func fid) #[] lb] 121
 have hg : FnR aggV 2 B R 131 #[.pointer (some ⟨w.heap.size, 0, none⟩)] (fun x => !p x) xs wb := fun i x cs W hx hb hr hel => by
  have hbw := hw.trans (hb.mono (by omega))
  match cs, hel with
  | [a0, a1], _ =>
   obtain ⟨wc, hwc, hzc, hc, hcc, -⟩ := box1 W #[a0, a1] 66
   have hBW : B ≤ W.heap.size := Nat.le_trans hB hbw.size
   have hcall : Calls Tryz.prog fid (#[.agg #[a0, a1]] ++ lb) wc _ := hf i x [a0, a1] wc hx (hbw.trans (hc.mono hbw.size)) (sR.keep hr fun q hq => hc.cell (Nat.lt_of_lt_of_le hq hBW)) rfl
   have hbox : wc.cell? ⟨w.heap.size, 0, none⟩ = some (.func (.func fid) #[] lb) := (hc.cell (p := ⟨w.heap.size, 0, none⟩) (by show w.heap.size < _; have := hb.size; omega)).trans ((hb.cell (p := ⟨w.heap.size, 0, none⟩) (by show w.heap.size < _; omega)).trans (hcb 0))
   have y0 : wc.cell? ⟨W.heap.size, 0, none⟩ = some a0 := hcc 0
   have y1 : wc.cell? ⟨W.heap.size, 1, none⟩ = some a1 := hcc 1
   replace hc := hide hc
   clear hf hr hwb hcc
   show Calls _ _ (#[.agg #[a0, a1], .pointer (some ⟨w.heap.size, 0, none⟩)]) _ _
   go_enter Tryz.func131, Tryz.ntmps131
   go_wp2_with (go_at_fn fid; refine hcall.mono ?_; rintro e w' ⟨rfl, hb1⟩)
   go_ret
   exact ⟨rfl, hc.out.trans (hb1.mono (by omega))⟩
 have hv := hide (show (!xs.any fun x => !p x) = xs.all p from by rw [List.all_eq_not_any_not])
 have hS := hide (h.below sR (hw.mono hB))
 replace hg := hide hg
 replace hf := hide hf
 clear hcb
 go_enter Tryz.func61, Tryz.ntmps61
 go_wp2_with (go_at_call 130; refine (containsFunc_Header sR _ _ enters_all_Header _ _ _ _ _ (by omega) hS.out hg.out).mono ?_; rintro e w' ⟨rfl, hb⟩)
 go_ret
 exact ⟨ret_b hv.out, hw.trans (hb.mono (by omega))⟩
theorem enters_all_Field : ∀ args w, (callFunc 129 args).run Tryz.prog w = .ok (.enter 129 args) w := enters_of Tryz.func129 (by kernel_rfl) rfl
set_option maxHeartbeats 1000000 in
theorem all_Field {α : Type} {R : CR α} (sR : Sta R) {B : Nat} (fid : Nat) (lb : Array Value) (eg : ∀ args w, (callFunc fid args).run Tryz.prog w = .ok (.enter fid args) w) (p : α → Bool) (A : Option Addr) (cap : Nat) (xs : List α) (w : World) (hB : B ≤ w.heap.size) (h : Sl 2 R w B A xs) (hf : FnR aggV 2 B R fid lb p xs w) :
  Calls Tryz.prog 59 #[.slice A xs.length cap, .func (.func fid) #[] lb] w fun e w' => e = .returned (.bool (xs.all p)) ∧ Below w.heap.size w w' := by
 obtain ⟨wb, hwb, hsz, hw, hcb, -⟩ := box1 w #[.func (.func fid) #[] lb] 120
 have hg : FnR aggV 2 B R 129 #[.pointer (some ⟨w.heap.size, 0, none⟩)] (fun x => !p x) xs wb := fun i x cs W hx hb hr hel => by
  have hbw := hw.trans (hb.mono (by omega))
  match cs, hel with
  | [a0, a1], _ =>
   obtain ⟨wc, hwc, hzc, hc, hcc, -⟩ := box1 W #[a0, a1] 84
   have hBW : B ≤ W.heap.size := Nat.le_trans hB hbw.size
   have hcall : Calls Tryz.prog fid (#[.agg #[a0, a1]] ++ lb) wc _ := hf i x [a0, a1] wc hx (hbw.trans (hc.mono hbw.size)) (sR.keep hr fun q hq => hc.cell (Nat.lt_of_lt_of_le hq hBW)) rfl
   have hbox : wc.cell? ⟨w.heap.size, 0, none⟩ = some (.func (.func fid) #[] lb) := (hc.cell (p := ⟨w.heap.size, 0, none⟩) (by show w.heap.size < _; have := hb.size; omega)).trans ((hb.cell (p := ⟨w.heap.size, 0, none⟩) (by show w.heap.size < _; omega)).trans (hcb 0))
   have y0 : wc.cell? ⟨W.heap.size, 0, none⟩ = some a0 := hcc 0
   have y1 : wc.cell? ⟨W.heap.size, 1, none⟩ = some a1 := hcc 1
   replace hc := hide hc
   clear hf hr hwb hcc
   show Calls _ _ (#[.agg #[a0, a1], .pointer (some ⟨w.heap.size, 0, none⟩)]) _ _
   go_enter Tryz.func129, Tryz.ntmps129
   go_wp2_with (go_at_fn fid; refine hcall.mono ?_; rintro e w' ⟨rfl, hb1⟩)
   go_ret
   exact ⟨rfl, hc.out.trans (hb1.mono (by omega))⟩
 have hv := hide (show (!xs.any fun x => !p x) = xs.all p from by rw [List.all_eq_not_any_not])
 have hS := hide (h.below sR (hw.mono hB))
 replace hg := hide hg
 replace hf := hide hf
 clear hcb
 go_enter Tryz.func59, Tryz.ntmps59
 go_wp2_with (go_at_call 128; refine (containsFunc_Field sR _ _ enters_all_Field _ _ _ _ _ (by omega) hS.out hg.out).mono ?_; rintro e w' ⟨rfl, hb⟩)
 go_ret
 exact ⟨ret_b hv.out, hw.trans (hb.mono (by omega))⟩
theorem enters_all_State : ∀ args w, (callFunc 133 args).run Tryz.prog w = .ok (.enter 133 args) w := enters_of Tryz.func133 (by kernel_rfl) rfl
set_option maxHeartbeats 1000000 in
theorem all_State {α : Type} {R : CR α} (sR : Sta R) {B : Nat} (fid : Nat) (lb : Array Value) (eg : ∀ args w, (callFunc fid args).run Tryz.prog w = .ok (.enter fid args) w) (p : α → Bool) (A : Option Addr) (cap : Nat) (xs : List α) (w : World) (hB : B ≤ w.heap.size) (h : Sl 5 R w B A xs) (hf : FnR aggV 5 B R fid lb p xs w) :
  Calls Tryz.prog 62 #[.slice A xs.length cap, .func (.func fid) #[] lb] w fun e w' => e = .returned (.bool (xs.all p)) ∧ Below w.heap.size w w' := by
 obtain ⟨wb, hwb, hsz, hw, hcb, -⟩ := box1 w #[.func (.func fid) #[] lb] 124
 have hg : FnR aggV 5 B R 133 #[.pointer (some ⟨w.heap.size, 0, none⟩)] (fun x => !p x) xs wb := fun i x cs W hx hb hr hel => by
  have hbw := hw.trans (hb.mono (by omega))
  match cs, hel with
  | [a0, a1, a2, a3, a4], _ =>
   obtain ⟨wc, hwc, hzc, hc, hcc, -⟩ := box1 W #[a0, a1, a2, a3, a4] 61
   have hBW : B ≤ W.heap.size := Nat.le_trans hB hbw.size
   have hcall : Calls Tryz.prog fid (#[.agg #[a0, a1, a2, a3, a4]] ++ lb) wc _ := hf i x [a0, a1, a2, a3, a4] wc hx (hbw.trans (hc.mono hbw.size)) (sR.keep hr fun q hq => hc.cell (Nat.lt_of_lt_of_le hq hBW)) rfl
   have hbox : wc.cell? ⟨w.heap.size, 0, none⟩ = some (.func (.func fid) #[] lb) := (hc.cell (p := ⟨w.heap.size, 0, none⟩) (by show w.heap.size < _; have := hb.size; omega)).trans ((hb.cell (p := ⟨w.heap.size, 0, none⟩) (by show w.heap.size < _; omega)).trans (hcb 0))
   have y0 : wc.cell? ⟨W.heap.size, 0, none⟩ = some a0 := hcc 0
   have y1 : wc.cell? ⟨W.heap.size, 1, none⟩ = some a1 := hcc 1
   have y2 : wc.cell? ⟨W.heap.size, 2, none⟩ = some a2 := hcc 2
   have y3 : wc.cell? ⟨W.heap.size, 3, none⟩ = some a3 := hcc 3
   have y4 : wc.cell? ⟨W.heap.size, 4, none⟩ = some a4 := hcc 4
   replace hc := hide hc
   clear hf hr hwb hcc
   show Calls _ _ (#[.agg #[a0, a1, a2, a3, a4], .pointer (some ⟨w.heap.size, 0, none⟩)]) _ _
   go_enter Tryz.func133, Tryz.ntmps133
   go_wp2_with (go_at_fn fid; refine hcall.mono ?_; rintro e w' ⟨rfl, hb1⟩)
   go_ret
   exact ⟨rfl, hc.out.trans (hb1.mono (by omega))⟩
 have hv := hide (show (!xs.any fun x => !p x) = xs.all p from by rw [List.all_eq_not_any_not])
 have hS := hide (h.below sR (hw.mono hB))
 replace hg := hide hg
 replace hf := hide hf
 clear hcb
 go_enter Tryz.func62, Tryz.ntmps62
 go_wp2_with (go_at_call 132; refine (containsFunc_State sR _ _ enters_all_State _ _ _ _ _ (by omega) hS.out hg.out).mono ?_; rintro e w' ⟨rfl, hb⟩)
 go_ret
 exact ⟨ret_b hv.out, hw.trans (hb.mono (by omega))⟩
theorem enters_all_Action : ∀ args w, (callFunc 140 args).run Tryz.prog w = .ok (.enter 140 args) w := enters_of Tryz.func140 (by kernel_rfl) rfl
set_option maxHeartbeats 1000000 in
theorem all_Action {α : Type} {R : CR α} (sR : Sta R) {B : Nat} (fid : Nat) (lb : Array Value) (eg : ∀ args w, (callFunc fid args).run Tryz.prog w = .ok (.enter fid args) w) (p : α → Bool) (A : Option Addr) (cap : Nat) (xs : List α) (w : World) (hB : B ≤ w.heap.size) (h : Sl 3 R w B A xs) (hf : FnR aggV 3 B R fid lb p xs w) :
  Calls Tryz.prog 64 #[.slice A xs.length cap, .func (.func fid) #[] lb] w fun e w' => e = .returned (.bool (xs.all p)) ∧ Below w.heap.size w w' := by
 obtain ⟨wb, hwb, hsz, hw, hcb, -⟩ := box1 w #[.func (.func fid) #[] lb] 126
 have hg : FnR aggV 3 B R 140 #[.pointer (some ⟨w.heap.size, 0, none⟩)] (fun x => !p x) xs wb := fun i x cs W hx hb hr hel => by
  have hbw := hw.trans (hb.mono (by omega))
  match cs, hel with
  | [a0, a1, a2], _ =>
   obtain ⟨wc, hwc, hzc, hc, hcc, -⟩ := box1 W #[a0, a1, a2] 72
   have hBW : B ≤ W.heap.size := Nat.le_trans hB hbw.size
   have hcall : Calls Tryz.prog fid (#[.agg #[a0, a1, a2]] ++ lb) wc _ := hf i x [a0, a1, a2] wc hx (hbw.trans (hc.mono hbw.size)) (sR.keep hr fun q hq => hc.cell (Nat.lt_of_lt_of_le hq hBW)) rfl
   have hbox : wc.cell? ⟨w.heap.size, 0, none⟩ = some (.func (.func fid) #[] lb) := (hc.cell (p := ⟨w.heap.size, 0, none⟩) (by show w.heap.size < _; have := hb.size; omega)).trans ((hb.cell (p := ⟨w.heap.size, 0, none⟩) (by show w.heap.size < _; omega)).trans (hcb 0))
   have y0 : wc.cell? ⟨W.heap.size, 0, none⟩ = some a0 := hcc 0
   have y1 : wc.cell? ⟨W.heap.size, 1, none⟩ = some a1 := hcc 1
   have y2 : wc.cell? ⟨W.heap.size, 2, none⟩ = some a2 := hcc 2
   replace hc := hide hc
   clear hf hr hwb hcc
   show Calls _ _ (#[.agg #[a0, a1, a2], .pointer (some ⟨w.heap.size, 0, none⟩)]) _ _
   go_enter Tryz.func140, Tryz.ntmps140
   go_wp2_with (go_at_fn fid; refine hcall.mono ?_; rintro e w' ⟨rfl, hb1⟩)
   go_ret
   exact ⟨rfl, hc.out.trans (hb1.mono (by omega))⟩
 have hv := hide (show (!xs.any fun x => !p x) = xs.all p from by rw [List.all_eq_not_any_not])
 have hS := hide (h.below sR (hw.mono hB))
 replace hg := hide hg
 replace hf := hide hf
 clear hcb
 go_enter Tryz.func64, Tryz.ntmps64
 go_wp2_with (go_at_call 139; refine (containsFunc_Action sR _ _ enters_all_Action _ _ _ _ _ (by omega) hS.out hg.out).mono ?_; rintro e w' ⟨rfl, hb⟩)
 go_ret
 exact ⟨ret_b hv.out, hw.trans (hb.mono (by omega))⟩
theorem enters_all_Table : ∀ args w, (callFunc 142 args).run Tryz.prog w = .ok (.enter 142 args) w := enters_of Tryz.func142 (by kernel_rfl) rfl
set_option maxHeartbeats 1000000 in
theorem all_Table {α : Type} {R : CR α} (sR : Sta R) {B : Nat} (fid : Nat) (lb : Array Value) (eg : ∀ args w, (callFunc fid args).run Tryz.prog w = .ok (.enter fid args) w) (p : α → Bool) (A : Option Addr) (cap : Nat) (xs : List α) (w : World) (hB : B ≤ w.heap.size) (h : Sl 5 R w B A xs) (hf : FnR aggV 5 B R fid lb p xs w) :
  Calls Tryz.prog 66 #[.slice A xs.length cap, .func (.func fid) #[] lb] w fun e w' => e = .returned (.bool (xs.all p)) ∧ Below w.heap.size w w' := by
 obtain ⟨wb, hwb, hsz, hw, hcb, -⟩ := box1 w #[.func (.func fid) #[] lb] 128
 have hg : FnR aggV 5 B R 142 #[.pointer (some ⟨w.heap.size, 0, none⟩)] (fun x => !p x) xs wb := fun i x cs W hx hb hr hel => by
  have hbw := hw.trans (hb.mono (by omega))
  match cs, hel with
  | [a0, a1, a2, a3, a4], _ =>
   obtain ⟨wc, hwc, hzc, hc, hcc, -⟩ := box1 W #[a0, a1, a2, a3, a4] 58
   have hBW : B ≤ W.heap.size := Nat.le_trans hB hbw.size
   have hcall : Calls Tryz.prog fid (#[.agg #[a0, a1, a2, a3, a4]] ++ lb) wc _ := hf i x [a0, a1, a2, a3, a4] wc hx (hbw.trans (hc.mono hbw.size)) (sR.keep hr fun q hq => hc.cell (Nat.lt_of_lt_of_le hq hBW)) rfl
   have hbox : wc.cell? ⟨w.heap.size, 0, none⟩ = some (.func (.func fid) #[] lb) := (hc.cell (p := ⟨w.heap.size, 0, none⟩) (by show w.heap.size < _; have := hb.size; omega)).trans ((hb.cell (p := ⟨w.heap.size, 0, none⟩) (by show w.heap.size < _; omega)).trans (hcb 0))
   have y0 : wc.cell? ⟨W.heap.size, 0, none⟩ = some a0 := hcc 0
   have y1 : wc.cell? ⟨W.heap.size, 1, none⟩ = some a1 := hcc 1
   have y2 : wc.cell? ⟨W.heap.size, 2, none⟩ = some a2 := hcc 2
   have y3 : wc.cell? ⟨W.heap.size, 3, none⟩ = some a3 := hcc 3
   have y4 : wc.cell? ⟨W.heap.size, 4, none⟩ = some a4 := hcc 4
   replace hc := hide hc
   clear hf hr hwb hcc
   show Calls _ _ (#[.agg #[a0, a1, a2, a3, a4], .pointer (some ⟨w.heap.size, 0, none⟩)]) _ _
   go_enter Tryz.func142, Tryz.ntmps142
   go_wp2_with (go_at_fn fid; refine hcall.mono ?_; rintro e w' ⟨rfl, hb1⟩)
   go_ret
   exact ⟨rfl, hc.out.trans (hb1.mono (by omega))⟩
 have hv := hide (show (!xs.any fun x => !p x) = xs.all p from by rw [List.all_eq_not_any_not])
 have hS := hide (h.below sR (hw.mono hB))
 replace hg := hide hg
 replace hf := hide hf
 clear hcb
 go_enter Tryz.func66, Tryz.ntmps66
 go_wp2_with (go_at_call 141; refine (containsFunc_Table sR _ _ enters_all_Table _ _ _ _ _ (by omega) hS.out hg.out).mono ?_; rintro e w' ⟨rfl, hb⟩)
 go_ret
 exact ⟨ret_b hv.out, hw.trans (hb.mono (by omega))⟩
theorem enters_all_string : ∀ args w, (callFunc 150 args).run Tryz.prog w = .ok (.enter 150 args) w := enters_of Tryz.func150 (by kernel_rfl) rfl
set_option maxHeartbeats 1000000 in
theorem all_string {α : Type} {R : CR α} (sR : Sta R) {B : Nat} (fid : Nat) (lb : Array Value) (eg : ∀ args w, (callFunc fid args).run Tryz.prog w = .ok (.enter fid args) w) (p : α → Bool) (A : Option Addr) (cap : Nat) (xs : List α) (w : World) (hB : B ≤ w.heap.size) (h : Sl 1 R w B A xs) (hf : FnR oneV 1 B R fid lb p xs w) :
  Calls Tryz.prog 69 #[.slice A xs.length cap, .func (.func fid) #[] lb] w fun e w' => e = .returned (.bool (xs.all p)) ∧ Below w.heap.size w w' := by
 obtain ⟨wb, hwb, hsz, hw, hcb, -⟩ := box1 w #[.func (.func fid) #[] lb] 118
 have hg : FnR oneV 1 B R 150 #[.pointer (some ⟨w.heap.size, 0, none⟩)] (fun x => !p x) xs wb := fun i x cs W hx hb hr hel => by
  have hbw := hw.trans (hb.mono (by omega))
  match cs, hel with
  | [a0], _ =>
   have hcall : Calls Tryz.prog fid (#[a0] ++ lb) W _ := hf i x [a0] W hx hbw hr rfl
   have hbox : W.cell? ⟨w.heap.size, 0, none⟩ = some (.func (.func fid) #[] lb) := (hb.cell (p := ⟨w.heap.size, 0, none⟩) (by show w.heap.size < _; omega)).trans (hcb 0)
   clear hf hr hwb
   show Calls _ _ (#[a0, .pointer (some ⟨w.heap.size, 0, none⟩)]) _ _
   go_enter Tryz.func150, Tryz.ntmps150
   go_wp2_with (go_at_fn fid; refine hcall.mono ?_; rintro e w' ⟨rfl, hb1⟩)
   go_ret
   exact ⟨rfl, hb1⟩
 have hv := hide (show (!xs.any fun x => !p x) = xs.all p from by rw [List.all_eq_not_any_not])
 have hS := hide (h.below sR (hw.mono hB))
 replace hg := hide hg
 replace hf := hide hf
 clear hcb
 go_enter Tryz.func69, Tryz.ntmps69
 go_wp2_with (go_at_call 149; refine (containsFunc_string sR _ _ enters_all_string _ _ _ _ _ (by omega) hS.out hg.out).mono ?_; rintro e w' ⟨rfl, hb⟩)
 go_ret
 exact ⟨ret_b hv.out, hw.trans (hb.mono (by omega))⟩
theorem enters_all_Expr : ∀ args w, (callFunc 123 args).run Tryz.prog w = .ok (.enter 123 args) w := enters_of Tryz.func123 (by kernel_rfl) rfl
set_option maxHeartbeats 1000000 in
theorem all_Expr {α : Type} {R : CR α} (sR : Sta R) {B : Nat} (fid : Nat) (lb : Array Value) (eg : ∀ args w, (callFunc fid args).run Tryz.prog w = .ok (.enter fid args) w) (p : α → Bool) (A : Option Addr) (cap : Nat) (xs : List α) (w : World) (hB : B ≤ w.heap.size) (h : Sl 9 R w B A xs) (hf : FnR aggV 9 B R fid lb p xs w) :
  Calls Tryz.prog 52 #[.slice A xs.length cap, .func (.func fid) #[] lb] w fun e w' => e = .returned (.bool (xs.all p)) ∧ Below w.heap.size w w' := by
 obtain ⟨wb, hwb, hsz, hw, hcb, -⟩ := box1 w #[.func (.func fid) #[] lb] 86
 have hg : FnR aggV 9 B R 123 #[.pointer (some ⟨w.heap.size, 0, none⟩)] (fun x => !p x) xs wb := fun i x cs W hx hb hr hel => by
  have hbw := hw.trans (hb.mono (by omega))
  match cs, hel with
  | [a0, a1, a2, a3, a4, a5, a6, a7, a8], _ =>
   obtain ⟨wc, hwc, hzc, hc, hcc, -⟩ := box1 W #[a0, a1, a2, a3, a4, a5, a6, a7, a8] 45
   have hBW : B ≤ W.heap.size := Nat.le_trans hB hbw.size
   have hcall : Calls Tryz.prog fid (#[.agg #[a0, a1, a2, a3, a4, a5, a6, a7, a8]] ++ lb) wc _ := hf i x [a0, a1, a2, a3, a4, a5, a6, a7, a8] wc hx (hbw.trans (hc.mono hbw.size)) (sR.keep hr fun q hq => hc.cell (Nat.lt_of_lt_of_le hq hBW)) rfl
   have hbox : wc.cell? ⟨w.heap.size, 0, none⟩ = some (.func (.func fid) #[] lb) := (hc.cell (p := ⟨w.heap.size, 0, none⟩) (by show w.heap.size < _; have := hb.size; omega)).trans ((hb.cell (p := ⟨w.heap.size, 0, none⟩) (by show w.heap.size < _; omega)).trans (hcb 0))
   have y0 : wc.cell? ⟨W.heap.size, 0, none⟩ = some a0 := hcc 0
   have y1 : wc.cell? ⟨W.heap.size, 1, none⟩ = some a1 := hcc 1
   have y2 : wc.cell? ⟨W.heap.size, 2, none⟩ = some a2 := hcc 2
   have y3 : wc.cell? ⟨W.heap.size, 3, none⟩ = some a3 := hcc 3
   have y4 : wc.cell? ⟨W.heap.size, 4, none⟩ = some a4 := hcc 4
   have y5 : wc.cell? ⟨W.heap.size, 5, none⟩ = some a5 := hcc 5
   have y6 : wc.cell? ⟨W.heap.size, 6, none⟩ = some a6 := hcc 6
   have y7 : wc.cell? ⟨W.heap.size, 7, none⟩ = some a7 := hcc 7
   have y8 : wc.cell? ⟨W.heap.size, 8, none⟩ = some a8 := hcc 8
   replace hc := hide hc
   clear hf hr hwb hcc
   show Calls _ _ (#[.agg #[a0, a1, a2, a3, a4, a5, a6, a7, a8], .pointer (some ⟨w.heap.size, 0, none⟩)]) _ _
   go_enter Tryz.func123, Tryz.ntmps123
   go_wp2_with (go_at_fn fid; refine hcall.mono ?_; rintro e w' ⟨rfl, hb1⟩)
   go_ret
   exact ⟨rfl, hc.out.trans (hb1.mono (by omega))⟩
 have hv := hide (show (!xs.any fun x => !p x) = xs.all p from by rw [List.all_eq_not_any_not])
 have hS := hide (h.below sR (hw.mono hB))
 replace hg := hide hg
 replace hf := hide hf
 clear hcb
 go_enter Tryz.func52, Tryz.ntmps52
 go_wp2_with (go_at_call 122; refine (containsFunc_Expr sR _ _ enters_all_Expr _ _ _ _ _ (by omega) hS.out hg.out).mono ?_; rintro e w' ⟨rfl, hb⟩)
 go_ret
 exact ⟨ret_b hv.out, hw.trans (hb.mono (by omega))⟩
theorem enters_all_Case : ∀ args w, (callFunc 192 args).run Tryz.prog w = .ok (.enter 192 args) w := enters_of Tryz.func192 (by kernel_rfl) rfl
set_option maxHeartbeats 1000000 in
theorem all_Case {α : Type} {R : CR α} (sR : Sta R) {B : Nat} (fid : Nat) (lb : Array Value) (eg : ∀ args w, (callFunc fid args).run Tryz.prog w = .ok (.enter fid args) w) (p : α → Bool) (A : Option Addr) (cap : Nat) (xs : List α) (w : World) (hB : B ≤ w.heap.size) (h : Sl 3 R w B A xs) (hf : FnR aggV 3 B R fid lb p xs w) :
  Calls Tryz.prog 135 #[.slice A xs.length cap, .func (.func fid) #[] lb] w fun e w' => e = .returned (.bool (xs.all p)) ∧ Below w.heap.size w w' := by
 obtain ⟨wb, hwb, hsz, hw, hcb, -⟩ := box1 w #[.func (.func fid) #[] lb] 165
 have hg : FnR aggV 3 B R 192 #[.pointer (some ⟨w.heap.size, 0, none⟩)] (fun x => !p x) xs wb := fun i x cs W hx hb hr hel => by
  have hbw := hw.trans (hb.mono (by omega))
  match cs, hel with
  | [a0, a1, a2], _ =>
   obtain ⟨wc, hwc, hzc, hc, hcc, -⟩ := box1 W #[a0, a1, a2] 70
   have hBW : B ≤ W.heap.size := Nat.le_trans hB hbw.size
   have hcall : Calls Tryz.prog fid (#[.agg #[a0, a1, a2]] ++ lb) wc _ := hf i x [a0, a1, a2] wc hx (hbw.trans (hc.mono hbw.size)) (sR.keep hr fun q hq => hc.cell (Nat.lt_of_lt_of_le hq hBW)) rfl
   have hbox : wc.cell? ⟨w.heap.size, 0, none⟩ = some (.func (.func fid) #[] lb) := (hc.cell (p := ⟨w.heap.size, 0, none⟩) (by show w.heap.size < _; have := hb.size; omega)).trans ((hb.cell (p := ⟨w.heap.size, 0, none⟩) (by show w.heap.size < _; omega)).trans (hcb 0))
   have y0 : wc.cell? ⟨W.heap.size, 0, none⟩ = some a0 := hcc 0
   have y1 : wc.cell? ⟨W.heap.size, 1, none⟩ = some a1 := hcc 1
   have y2 : wc.cell? ⟨W.heap.size, 2, none⟩ = some a2 := hcc 2
   replace hc := hide hc
   clear hf hr hwb hcc
   show Calls _ _ (#[.agg #[a0, a1, a2], .pointer (some ⟨w.heap.size, 0, none⟩)]) _ _
   go_enter Tryz.func192, Tryz.ntmps192
   go_wp2_with (go_at_fn fid; refine hcall.mono ?_; rintro e w' ⟨rfl, hb1⟩)
   go_ret
   exact ⟨rfl, hc.out.trans (hb1.mono (by omega))⟩
 have hv := hide (show (!xs.any fun x => !p x) = xs.all p from by rw [List.all_eq_not_any_not])
 have hS := hide (h.below sR (hw.mono hB))
 replace hg := hide hg
 replace hf := hide hf
 clear hcb
 go_enter Tryz.func135, Tryz.ntmps135
 go_wp2_with (go_at_call 191; refine (containsFunc_Case sR _ _ enters_all_Case _ _ _ _ _ (by omega) hS.out hg.out).mono ?_; rintro e w' ⟨rfl, hb⟩)
 go_ret
 exact ⟨ret_b hv.out, hw.trans (hb.mono (by omega))⟩
theorem enters_all_Set : ∀ args w, (callFunc 194 args).run Tryz.prog w = .ok (.enter 194 args) w := enters_of Tryz.func194 (by kernel_rfl) rfl
set_option maxHeartbeats 1000000 in
theorem all_Set {α : Type} {R : CR α} (sR : Sta R) {B : Nat} (fid : Nat) (lb : Array Value) (eg : ∀ args w, (callFunc fid args).run Tryz.prog w = .ok (.enter fid args) w) (p : α → Bool) (A : Option Addr) (cap : Nat) (xs : List α) (w : World) (hB : B ≤ w.heap.size) (h : Sl 7 R w B A xs) (hf : FnR aggV 7 B R fid lb p xs w) :
  Calls Tryz.prog 137 #[.slice A xs.length cap, .func (.func fid) #[] lb] w fun e w' => e = .returned (.bool (xs.all p)) ∧ Below w.heap.size w w' := by
 obtain ⟨wb, hwb, hsz, hw, hcb, -⟩ := box1 w #[.func (.func fid) #[] lb] 164
 have hg : FnR aggV 7 B R 194 #[.pointer (some ⟨w.heap.size, 0, none⟩)] (fun x => !p x) xs wb := fun i x cs W hx hb hr hel => by
  have hbw := hw.trans (hb.mono (by omega))
  match cs, hel with
  | [a0, a1, a2, a3, a4, a5, a6], _ =>
   obtain ⟨wc, hwc, hzc, hc, hcc, -⟩ := box1 W #[a0, a1, a2, a3, a4, a5, a6] 97
   have hBW : B ≤ W.heap.size := Nat.le_trans hB hbw.size
   have hcall : Calls Tryz.prog fid (#[.agg #[a0, a1, a2, a3, a4, a5, a6]] ++ lb) wc _ := hf i x [a0, a1, a2, a3, a4, a5, a6] wc hx (hbw.trans (hc.mono hbw.size)) (sR.keep hr fun q hq => hc.cell (Nat.lt_of_lt_of_le hq hBW)) rfl
   have hbox : wc.cell? ⟨w.heap.size, 0, none⟩ = some (.func (.func fid) #[] lb) := (hc.cell (p := ⟨w.heap.size, 0, none⟩) (by show w.heap.size < _; have := hb.size; omega)).trans ((hb.cell (p := ⟨w.heap.size, 0, none⟩) (by show w.heap.size < _; omega)).trans (hcb 0))
   have y0 : wc.cell? ⟨W.heap.size, 0, none⟩ = some a0 := hcc 0
   have y1 : wc.cell? ⟨W.heap.size, 1, none⟩ = some a1 := hcc 1
   have y2 : wc.cell? ⟨W.heap.size, 2, none⟩ = some a2 := hcc 2
   have y3 : wc.cell? ⟨W.heap.size, 3, none⟩ = some a3 := hcc 3
   have y4 : wc.cell? ⟨W.heap.size, 4, none⟩ = some a4 := hcc 4
   have y5 : wc.cell? ⟨W.heap.size, 5, none⟩ = some a5 := hcc 5
   have y6 : wc.cell? ⟨W.heap.size, 6, none⟩ = some a6 := hcc 6
   replace hc := hide hc
   clear hf hr hwb hcc
   show Calls _ _ (#[.agg #[a0, a1, a2, a3, a4, a5, a6], .pointer (some ⟨w.heap.size, 0, none⟩)]) _ _
   go_enter Tryz.func194, Tryz.ntmps194
   go_wp2_with (go_at_fn fid; refine hcall.mono ?_; rintro e w' ⟨rfl, hb1⟩)
   go_ret
   exact ⟨rfl, hc.out.trans (hb1.mono (by omega))⟩
 have hv := hide (show (!xs.any fun x => !p x) = xs.all p from by rw [List.all_eq_not_any_not])
 have hS := hide (h.below sR (hw.mono hB))
 replace hg := hide hg
 replace hf := hide hf
 clear hcb
 go_enter Tryz.func137, Tryz.ntmps137
 go_wp2_with (go_at_call 193; refine (containsFunc_Set sR _ _ enters_all_Set _ _ _ _ _ (by omega) hS.out hg.out).mono ?_; rintro e w' ⟨rfl, hb⟩)
 go_ret
 exact ⟨ret_b hv.out, hw.trans (hb.mono (by omega))⟩
theorem enters_all_Key : ∀ args w, (callFunc 197 args).run Tryz.prog w = .ok (.enter 197 args) w := enters_of Tryz.func197 (by kernel_rfl) rfl
set_option maxHeartbeats 1000000 in
theorem all_Key {α : Type} {R : CR α} (sR : Sta R) {B : Nat} (fid : Nat) (lb : Array Value) (eg : ∀ args w, (callFunc fid args).run Tryz.prog w = .ok (.enter fid args) w) (p : α → Bool) (A : Option Addr) (cap : Nat) (xs : List α) (w : World) (hB : B ≤ w.heap.size) (h : Sl 10 R w B A xs) (hf : FnR aggV 10 B R fid lb p xs w) :
  Calls Tryz.prog 144 #[.slice A xs.length cap, .func (.func fid) #[] lb] w fun e w' => e = .returned (.bool (xs.all p)) ∧ Below w.heap.size w w' := by
 obtain ⟨wb, hwb, hsz, hw, hcb, -⟩ := box1 w #[.func (.func fid) #[] lb] 166
 have hg : FnR aggV 10 B R 197 #[.pointer (some ⟨w.heap.size, 0, none⟩)] (fun x => !p x) xs wb := fun i x cs W hx hb hr hel => by
  have hbw := hw.trans (hb.mono (by omega))
  match cs, hel with
  | [a0, a1, a2, a3, a4, a5, a6, a7, a8, a9], _ =>
   obtain ⟨wc, hwc, hzc, hc, hcc, -⟩ := box1 W #[a0, a1, a2, a3, a4, a5, a6, a7, a8, a9] 52
   have hBW : B ≤ W.heap.size := Nat.le_trans hB hbw.size
   have hcall : Calls Tryz.prog fid (#[.agg #[a0, a1, a2, a3, a4, a5, a6, a7, a8, a9]] ++ lb) wc _ := hf i x [a0, a1, a2, a3, a4, a5, a6, a7, a8, a9] wc hx (hbw.trans (hc.mono hbw.size)) (sR.keep hr fun q hq => hc.cell (Nat.lt_of_lt_of_le hq hBW)) rfl
   have hbox : wc.cell? ⟨w.heap.size, 0, none⟩ = some (.func (.func fid) #[] lb) := (hc.cell (p := ⟨w.heap.size, 0, none⟩) (by show w.heap.size < _; have := hb.size; omega)).trans ((hb.cell (p := ⟨w.heap.size, 0, none⟩) (by show w.heap.size < _; omega)).trans (hcb 0))
   have y0 : wc.cell? ⟨W.heap.size, 0, none⟩ = some a0 := hcc 0
   have y1 : wc.cell? ⟨W.heap.size, 1, none⟩ = some a1 := hcc 1
   have y2 : wc.cell? ⟨W.heap.size, 2, none⟩ = some a2 := hcc 2
   have y3 : wc.cell? ⟨W.heap.size, 3, none⟩ = some a3 := hcc 3
   have y4 : wc.cell? ⟨W.heap.size, 4, none⟩ = some a4 := hcc 4
   have y5 : wc.cell? ⟨W.heap.size, 5, none⟩ = some a5 := hcc 5
   have y6 : wc.cell? ⟨W.heap.size, 6, none⟩ = some a6 := hcc 6
   have y7 : wc.cell? ⟨W.heap.size, 7, none⟩ = some a7 := hcc 7
   have y8 : wc.cell? ⟨W.heap.size, 8, none⟩ = some a8 := hcc 8
   have y9 : wc.cell? ⟨W.heap.size, 9, none⟩ = some a9 := hcc 9
   replace hc := hide hc
   clear hf hr hwb hcc
   show Calls _ _ (#[.agg #[a0, a1, a2, a3, a4, a5, a6, a7, a8, a9], .pointer (some ⟨w.heap.size, 0, none⟩)]) _ _
   go_enter Tryz.func197, Tryz.ntmps197
   go_wp2_with (go_at_fn fid; refine hcall.mono ?_; rintro e w' ⟨rfl, hb1⟩)
   go_ret
   exact ⟨rfl, hc.out.trans (hb1.mono (by omega))⟩
 have hv := hide (show (!xs.any fun x => !p x) = xs.all p from by rw [List.all_eq_not_any_not])
 have hS := hide (h.below sR (hw.mono hB))
 replace hg := hide hg
 replace hf := hide hf
 clear hcb
 go_enter Tryz.func144, Tryz.ntmps144
 go_wp2_with (go_at_call 196; refine (containsFunc_Key sR _ _ enters_all_Key _ _ _ _ _ (by omega) hS.out hg.out).mono ?_; rintro e w' ⟨rfl, hb⟩)
 go_ret
 exact ⟨ret_b hv.out, hw.trans (hb.mono (by omega))⟩
theorem enters_all_Lit : ∀ args w, (callFunc 199 args).run Tryz.prog w = .ok (.enter 199 args) w := enters_of Tryz.func199 (by kernel_rfl) rfl
set_option maxHeartbeats 1000000 in
theorem all_Lit {α : Type} {R : CR α} (sR : Sta R) {B : Nat} (fid : Nat) (lb : Array Value) (eg : ∀ args w, (callFunc fid args).run Tryz.prog w = .ok (.enter fid args) w) (p : α → Bool) (A : Option Addr) (cap : Nat) (xs : List α) (w : World) (hB : B ≤ w.heap.size) (h : Sl 3 R w B A xs) (hf : FnR aggV 3 B R fid lb p xs w) :
  Calls Tryz.prog 145 #[.slice A xs.length cap, .func (.func fid) #[] lb] w fun e w' => e = .returned (.bool (xs.all p)) ∧ Below w.heap.size w w' := by
 obtain ⟨wb, hwb, hsz, hw, hcb, -⟩ := box1 w #[.func (.func fid) #[] lb] 112
 have hg : FnR aggV 3 B R 199 #[.pointer (some ⟨w.heap.size, 0, none⟩)] (fun x => !p x) xs wb := fun i x cs W hx hb hr hel => by
  have hbw := hw.trans (hb.mono (by omega))
  match cs, hel with
  | [a0, a1, a2], _ =>
   obtain ⟨wc, hwc, hzc, hc, hcc, -⟩ := box1 W #[a0, a1, a2] 42
   have hBW : B ≤ W.heap.size := Nat.le_trans hB hbw.size
   have hcall : Calls Tryz.prog fid (#[.agg #[a0, a1, a2]] ++ lb) wc _ := hf i x [a0, a1, a2] wc hx (hbw.trans (hc.mono hbw.size)) (sR.keep hr fun q hq => hc.cell (Nat.lt_of_lt_of_le hq hBW)) rfl
   have hbox : wc.cell? ⟨w.heap.size, 0, none⟩ = some (.func (.func fid) #[] lb) := (hc.cell (p := ⟨w.heap.size, 0, none⟩) (by show w.heap.size < _; have := hb.size; omega)).trans ((hb.cell (p := ⟨w.heap.size, 0, none⟩) (by show w.heap.size < _; omega)).trans (hcb 0))
   have y0 : wc.cell? ⟨W.heap.size, 0, none⟩ = some a0 := hcc 0
   have y1 : wc.cell? ⟨W.heap.size, 1, none⟩ = some a1 := hcc 1
   have y2 : wc.cell? ⟨W.heap.size, 2, none⟩ = some a2 := hcc 2
   replace hc := hide hc
   clear hf hr hwb hcc
   show Calls _ _ (#[.agg #[a0, a1, a2], .pointer (some ⟨w.heap.size, 0, none⟩)]) _ _
   go_enter Tryz.func199, Tryz.ntmps199
   go_wp2_with (go_at_fn fid; refine hcall.mono ?_; rintro e w' ⟨rfl, hb1⟩)
   go_ret
   exact ⟨rfl, hc.out.trans (hb1.mono (by omega))⟩
 have hv := hide (show (!xs.any fun x => !p x) = xs.all p from by rw [List.all_eq_not_any_not])
 have hS := hide (h.below sR (hw.mono hB))
 replace hg := hide hg
 replace hf := hide hf
 clear hcb
 go_enter Tryz.func145, Tryz.ntmps145
 go_wp2_with (go_at_call 198; refine (containsFunc_Lit sR _ _ enters_all_Lit _ _ _ _ _ (by omega) hS.out hg.out).mono ?_; rintro e w' ⟨rfl, hb⟩)
 go_ret
 exact ⟨ret_b hv.out, hw.trans (hb.mono (by omega))⟩
theorem enters_all_Stmt : ∀ args w, (callFunc 201 args).run Tryz.prog w = .ok (.enter 201 args) w := enters_of Tryz.func201 (by kernel_rfl) rfl
set_option maxHeartbeats 1000000 in
theorem all_Stmt {α : Type} {R : CR α} (sR : Sta R) {B : Nat} (fid : Nat) (lb : Array Value) (eg : ∀ args w, (callFunc fid args).run Tryz.prog w = .ok (.enter fid args) w) (p : α → Bool) (A : Option Addr) (cap : Nat) (xs : List α) (w : World) (hB : B ≤ w.heap.size) (h : Sl 14 R w B A xs) (hf : FnR aggV 14 B R fid lb p xs w) :
  Calls Tryz.prog 146 #[.slice A xs.length cap, .func (.func fid) #[] lb] w fun e w' => e = .returned (.bool (xs.all p)) ∧ Below w.heap.size w w' := by
 obtain ⟨wb, hwb, hsz, hw, hcb, -⟩ := box1 w #[.func (.func fid) #[] lb] 171
 have hg : FnR aggV 14 B R 201 #[.pointer (some ⟨w.heap.size, 0, none⟩)] (fun x => !p x) xs wb := fun i x cs W hx hb hr hel => by
  have hbw := hw.trans (hb.mono (by omega))
  match cs, hel with
  | [a0, a1, a2, a3, a4, a5, a6, a7, a8, a9, a10, a11, a12, a13], _ =>
   obtain ⟨wc, hwc, hzc, hc, hcc, -⟩ := box1 W #[a0, a1, a2, a3, a4, a5, a6, a7, a8, a9, a10, a11, a12, a13] 47
   have hBW : B ≤ W.heap.size := Nat.le_trans hB hbw.size
   have hcall : Calls Tryz.prog fid (#[.agg #[a0, a1, a2, a3, a4, a5, a6, a7, a8, a9, a10, a11, a12, a13]] ++ lb) wc _ := hf i x [a0, a1, a2, a3, a4, a5, a6, a7, a8, a9, a10, a11, a12, a13] wc hx (hbw.trans (hc.mono hbw.size)) (sR.keep hr fun q hq => hc.cell (Nat.lt_of_lt_of_le hq hBW)) rfl
   have hbox : wc.cell? ⟨w.heap.size, 0, none⟩ = some (.func (.func fid) #[] lb) := (hc.cell (p := ⟨w.heap.size, 0, none⟩) (by show w.heap.size < _; have := hb.size; omega)).trans ((hb.cell (p := ⟨w.heap.size, 0, none⟩) (by show w.heap.size < _; omega)).trans (hcb 0))
   have y0 : wc.cell? ⟨W.heap.size, 0, none⟩ = some a0 := hcc 0
   have y1 : wc.cell? ⟨W.heap.size, 1, none⟩ = some a1 := hcc 1
   have y2 : wc.cell? ⟨W.heap.size, 2, none⟩ = some a2 := hcc 2
   have y3 : wc.cell? ⟨W.heap.size, 3, none⟩ = some a3 := hcc 3
   have y4 : wc.cell? ⟨W.heap.size, 4, none⟩ = some a4 := hcc 4
   have y5 : wc.cell? ⟨W.heap.size, 5, none⟩ = some a5 := hcc 5
   have y6 : wc.cell? ⟨W.heap.size, 6, none⟩ = some a6 := hcc 6
   have y7 : wc.cell? ⟨W.heap.size, 7, none⟩ = some a7 := hcc 7
   have y8 : wc.cell? ⟨W.heap.size, 8, none⟩ = some a8 := hcc 8
   have y9 : wc.cell? ⟨W.heap.size, 9, none⟩ = some a9 := hcc 9
   have y10 : wc.cell? ⟨W.heap.size, 10, none⟩ = some a10 := hcc 10
   have y11 : wc.cell? ⟨W.heap.size, 11, none⟩ = some a11 := hcc 11
   have y12 : wc.cell? ⟨W.heap.size, 12, none⟩ = some a12 := hcc 12
   have y13 : wc.cell? ⟨W.heap.size, 13, none⟩ = some a13 := hcc 13
   replace hc := hide hc
   clear hf hr hwb hcc
   show Calls _ _ (#[.agg #[a0, a1, a2, a3, a4, a5, a6, a7, a8, a9, a10, a11, a12, a13], .pointer (some ⟨w.heap.size, 0, none⟩)]) _ _
   go_enter Tryz.func201, Tryz.ntmps201
   go_wp2_with (go_at_fn fid; refine hcall.mono ?_; rintro e w' ⟨rfl, hb1⟩)
   go_ret
   exact ⟨rfl, hc.out.trans (hb1.mono (by omega))⟩
 have hv := hide (show (!xs.any fun x => !p x) = xs.all p from by rw [List.all_eq_not_any_not])
 have hS := hide (h.below sR (hw.mono hB))
 replace hg := hide hg
 replace hf := hide hf
 clear hcb
 go_enter Tryz.func146, Tryz.ntmps146
 go_wp2_with (go_at_call 200; refine (containsFunc_Stmt sR _ _ enters_all_Stmt _ _ _ _ _ (by omega) hS.out hg.out).mono ?_; rintro e w' ⟨rfl, hb⟩)
 go_ret
 exact ⟨ret_b hv.out, hw.trans (hb.mono (by omega))⟩
end Go.Proofs.YtbbdhknagofghaaGreat

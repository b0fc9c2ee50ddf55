import Derived.Test.YtbbdhknagofghaaGreatWhl02
set_option linter.all false
/-! Layer 8's small ones: ask, bits. -/
namespace Go.Proofs.YtbbdhknagofghaaGreat
open Go.RowKit
attribute [local go_sem] run_panic_iface
def tyC (t : Ty) : Array Value := #[.int .i64 t.w, .bool t.truth, .bool t.free]
/-- A panic with an error's number. -/
abbrev noE (n : Int) : Ending := .panicked [{ v := .iface 33 (.int .i64 n), recovered := false }]
def endR (r : Rs Ty) : Ending := match r with
 | .ok t => .returned (.agg (tyC t))
 | .error n => noE n
def endU (r : Rs Unit) : Ending := match r with
 | .ok _ => .returned (.tuple #[])
 | .error n => noE n
set_option maxHeartbeats 1000000 in
theorem ask_yes (n : Int) (w : World) : Calls Tryz.prog 27 #[.bool true, .int .i64 n] w fun e w' => e = .returned (.tuple #[]) ∧ w = w' := by
 go_enter Tryz.func27, Tryz.ntmps27
 go_wp2
 first | (go_end0; exact ⟨rfl, rfl⟩) | skip
set_option maxHeartbeats 1000000 in
theorem ask_no (n : Int) (w : World) : Calls Tryz.prog 27 #[.bool false, .int .i64 n] w fun e w' => e = noE n ∧ w = w' := by
 go_enter Tryz.func27, Tryz.ntmps27
 go_wp2
 exact ⟨rfl, rfl, rfl⟩
set_option maxHeartbeats 2000000 in
theorem tbits_any (t : Ty) (w : World) : Calls Tryz.prog 35 #[.agg (tyC t)] w fun e w' => e = endR (bitsR t) ∧ Below w.heap.size w w' := by
 show Calls _ _ #[.agg #[.int .i64 t.w, .bool t.truth, .bool t.free]] _ _
 obtain ⟨wa, hwa, hsa, hba, hca, -⟩ := box1 w #[.int .i64 t.w, .bool t.truth, .bool t.free] 75
 obtain ⟨wb, hwb, hsb, hbb, hcb, hfb⟩ := box1 wa #[.int .i64 0, .bool false, .bool false] 75
 have hw := hide (hba.trans (hbb.mono (by omega)))
 have q : ∀ i, wb.cell? ⟨w.heap.size, i, none⟩ = wa.cell? ⟨w.heap.size, i, none⟩ := fun i => hbb.cell (p := ⟨w.heap.size, i, none⟩) (by show w.heap.size < _; omega)
 obtain ⟨y0, y1, y2⟩ := row3 (w := wb) fun i => (q i).trans (hca i)
 rw [hsa] at hcb hfb
 obtain ⟨z0, z1, z2⟩ := row3 hcb
 have hl1 : w.heap.size < wb.heap.size := by omega
 have hl2 : w.heap.size + 1 < wb.heap.size := by omega
 have hv := hide (show bitsR t = if t.truth then .error 9 else if t.free then .error 10 else .ok t from rfl)
 obtain ⟨n, tr, fr⟩ := t
 clear q hca hcb hba hbb
 replace hsb := hide hsb
 simp only at *
 go_enter Tryz.func35, Tryz.ntmps35
 cases tr with
 | true =>
  go_wp2_with (go_at_call 27; refine (ask_no _ _).mono ?_; rintro e w' ⟨rfl, rfl⟩)
  exact ⟨rfl, by rw [hv.out]; rfl, hw.out⟩
 | false =>
  cases fr with
  | true =>
   go_wp2_with (go_at_call 27; first | (with_reducible refine (ask_yes _ _).mono ?_; rintro e w' ⟨rfl, rfl⟩) | (with_reducible refine (ask_no _ _).mono ?_; rintro e w' ⟨rfl, rfl⟩))
   exact ⟨rfl, by rw [hv.out]; rfl, hw.out⟩
  | false =>
   go_wp2_with (go_at_call 27; refine (ask_yes _ _).mono ?_; rintro e w' ⟨rfl, rfl⟩)
   refine bodyPost_ret (v := .agg #[.int .i64 n, .bool false, .bool false]) (by simp [results, Tryz.results35, go_sem, z0, z1, z2]) rfl ⟨by rw [hv.out]; rfl, ?_⟩
   exact ((hw.out.setCell (by show _ ≤ _ + 1; omega) _).setCell (by show _ ≤ _ + 1; omega) _).setCell (by show _ ≤ _ + 1; omega) _
theorem tbits_t (n : Int) (fr : Bool) (w : World) : Calls Tryz.prog 35 #[.agg #[.int .i64 n, .bool true, .bool fr]] w fun e w' => e = noE 9 ∧ Below w.heap.size w w' := tbits_any ⟨n, true, fr⟩ w
theorem tbits_f (n : Int) (w : World) : Calls Tryz.prog 35 #[.agg #[.int .i64 n, .bool false, .bool true]] w fun e w' => e = noE 10 ∧ Below w.heap.size w w' := tbits_any ⟨n, false, true⟩ w
theorem tbits_k (n : Int) (w : World) : Calls Tryz.prog 35 #[.agg #[.int .i64 n, .bool false, .bool false]] w fun e w' => e = .returned (.agg #[.int .i64 n, .bool false, .bool false]) ∧ Below w.heap.size w w' := tbits_any ⟨n, false, false⟩ w
end Go.Proofs.YtbbdhknagofghaaGreat

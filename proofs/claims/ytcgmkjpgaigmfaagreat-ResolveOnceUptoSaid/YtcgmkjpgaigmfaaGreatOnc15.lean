import Derived.Test.YtcgmkjpgaigmfaaGreatOnc14
set_option linter.all false
/-! Layer 7: parsed: what is wrong with an item of the parser. -/
namespace Go.Proofs.YtcgmkjpgaigmfaaGreat
open Go.RowKit
set_option maxRecDepth 100000 in
set_option maxHeartbeats 1000000 in
theorem to_any (A1 A2 A3 A4 A5 A6 A7 : Option Addr) (p : Pg) (c1 c2 c3 c4 c5 c6 c7 : Nat) (B a : Nat) (s : ByteArray) (w : World) (hB : B ≤ w.heap.size) (hP : PgS w B A1 A2 A3 A4 A5 A6 A7 p) (ha : a < w.heap.size) (hx : ∀ i, w.cell? ⟨a, i, none⟩ = (#[.slice A1 p.headers.length c1, .slice A2 p.metas.length c2, .slice A3 p.states.length c3, .slice A4 p.actions.length c4, .slice A5 p.tables.length c5, .slice A6 p.control.length c6, .slice A7 p.emit.length c7] : Array Value)[i]?) :
    Calls Tryz.prog 120 #[.string s, .pointer (some ⟨a, 0, none⟩)] w fun r w' => r = .returned (.int .i64 (toI p s)) ∧ Below w.heap.size w w' := by
  have z0 : w.cell? ⟨a, 0, none⟩ = some (.slice A1 p.headers.length c1) := hx 0
  have z1 : w.cell? ⟨a, 1, none⟩ = some (.slice A2 p.metas.length c2) := hx 1
  have z2 : w.cell? ⟨a, 2, none⟩ = some (.slice A3 p.states.length c3) := hx 2
  have z3 : w.cell? ⟨a, 3, none⟩ = some (.slice A4 p.actions.length c4) := hx 3
  have z4 : w.cell? ⟨a, 4, none⟩ = some (.slice A5 p.tables.length c5) := hx 4
  have z5 : w.cell? ⟨a, 5, none⟩ = some (.slice A6 p.control.length c6) := hx 5
  have z6 : w.cell? ⟨a, 6, none⟩ = some (.slice A7 p.emit.length c7) := hx 6
  have hS := hide (state_any w A1 A2 A3 A4 A5 A6 A7 p c1 c2 c3 c4 c5 c6 c7 s hB hP)
  have hv := hide (show toI p s = isI (!stateB p s) 7 from rfl)
  generalize stateI p s = x at hS
  generalize stateB p s = y at hS hv
  clear hx
  go_enter Tryz.func120, Tryz.ntmps120
  go_wp2_with (first | (go_at_call 14; refine hS.out.mono ?_; rintro e w1 ⟨rfl, hw1⟩) | (go_at_call 57; refine (is_any _ _ _).mono ?_; rintro e w' ⟨rfl, rfl⟩))
  go_ret
  exact ⟨ret_int hv.out.symm, hw1⟩
theorem enters_to : ∀ args w, (callFunc 120 args).run Tryz.prog w = .ok (.enter 120 args) w := enters_of Tryz.func120 (by kernel_rfl) rfl
end Go.Proofs.YtcgmkjpgaigmfaaGreat

import Derived.Test.YtmfpbahifhndjaaGreatLow30
import Derived.Test.YtmfpbahifhndjaaGreatLow47
import Derived.Test.YtmfpbahifhndjaaGreatLow39
import Derived.Test.YtmfpbahifhndjaaGreatLow35
import Derived.Test.YtmfpbahifhndjaaGreatLow01
import Derived.ProofKit
import Derived.Deep.Slices
import Derived.Test.YtmfpbahifhndjaaGreatLow02
set_option linter.all false
/-! LowerMay: the law's walk. -/
namespace Go.Proofs.YtmfpbahifhndjaaGreat
open Go.RowKit
theorem zcell10 {w W : World} {v : Value} (h0 : 0 < w.heap.size) (hz : w.cell? ⟨0, 0, none⟩ = some v) (hb : Below w.heap.size w W) : W.cell? ⟨0, 0, none⟩ = some v := (hb.cell (p := ⟨0, 0, none⟩) h0).trans hz
set_option maxRecDepth 100000 in
set_option maxHeartbeats 8000000 in
theorem lowermay_any {m : Int} (A1 A2 A3 A4 A5 A6 A7 A8 A9 A10 A11 A12 : Option Addr) (p : Lp) (c1 c2 c3 c4 c5 c6 c7 c8 c9 c10 c11 c12 : Nat) (act : Int) (c : List Nd) (Bc : Option Addr) (dc : Nat) (l : List Int) (Bl : Option Addr) (dl : Nat) (ra : Int) (rs : List (Int × Int)) (Br : Option Addr) (dr : Nat) (w : World)
  (hz : w.cell? ⟨0, 0, none⟩ = some (.int .i64 m)) (h : LpS w w.heap.size A1 A2 A3 A4 A5 A6 A7 A8 A9 A10 A11 A12 p) (hE : p.emit.length ≤ c7) (hO : OkP p) (hc : Sl 6 rNd w w.heap.size Bc c) (hoc : okC c) (hl : Sl 1 rInt w w.heap.size Bl l) (hr : Sl 2 rNu w w.heap.size Br rs) :
  Calls Tryz.prog 3 #[.agg #[.slice A1 p.heads.length c1, .slice A2 p.metas.length c2, .slice A3 p.steps.length c3, .slice A4 p.acts.length c4, .slice A5 p.tabs.length c5, .slice A6 p.control.length c6, .slice A7 p.emit.length c7, .slice A8 p.nh.length c8, .slice A9 p.nf.length c9, .slice A10 p.nm.length c10, .slice A11 p.na.length c11, .slice A12 p.nt.length c12], .int .i64 act, .slice Bc c.length dc, .slice Bl l.length dl, .agg #[.int .i64 ra, .slice Br rs.length dr]] w fun e w' => e = .returned (.bool true) ∧ Below w.heap.size w w' := by
 have h0 : 0 < w.heap.size := World.block_lt_of_cell? w _ hz
 have lc := hc.len
 have ll := hl.len
 have lr := hr.len
 obtain ⟨wa, hwa, hsa, hba, hca, -⟩ := box1 w #[.slice A1 p.heads.length c1, .slice A2 p.metas.length c2, .slice A3 p.steps.length c3, .slice A4 p.acts.length c4, .slice A5 p.tabs.length c5, .slice A6 p.control.length c6, .slice A7 p.emit.length c7, .slice A8 p.nh.length c8, .slice A9 p.nf.length c9, .slice A10 p.nm.length c10, .slice A11 p.na.length c11, .slice A12 p.nt.length c12] 33
 obtain ⟨wb, hwb, hsb, hbb, hcb, -⟩ := box1 wa #[.int .i64 ra, .slice Br rs.length dr] 38
 have hw : Below w.heap.size w wb := hba.trans (hbb.mono (by omega))
 have hl1 : w.heap.size < wb.heap.size := by omega
 have hl2 : wa.heap.size < wb.heap.size := by omega
 obtain ⟨y0, y1, y2, y3, y4, y5, y6, y7, y8, y9, y10, y11⟩ := row12 fun i => (hbb.cell (p := ⟨w.heap.size, i, none⟩) (by show w.heap.size < _; omega)).trans (hca i)
 have x0 : wb.cell? ⟨wa.heap.size, 0, none⟩ = some (.int .i64 ra) := hcb 0
 have x1 : wb.cell? ⟨wa.heap.size, 1, none⟩ = some (.slice Br rs.length dr) := hcb 1
 have hb0 : Below wb.heap.size wb wb := Below.refl _ _
 have hBk := hide (show ∀ W, Below wb.heap.size wb W → Below w.heap.size w W from fun W hb => hw.trans (hb.mono hw.size))
 have hP : ∀ W, Below wb.heap.size wb W → LpS W W.heap.size A1 A2 A3 A4 A5 A6 A7 A8 A9 A10 A11 A12 p := fun W hb => (h.below (hBk.out W hb)).more (hBk.out W hb).size
 have hC : ∀ W, Below wb.heap.size wb W → Sl 6 rNd W W.heap.size Bc c := fun W hb => (hc.below sta_nd (hBk.out W hb)).more sta_nd (hBk.out W hb).size
 have hL : ∀ W, Below wb.heap.size wb W → Sl 1 rInt W W.heap.size Bl l := fun W hb => (hl.below sta_int (hBk.out W hb)).more sta_int (hBk.out W hb).size
 have hR : ∀ W, Below wb.heap.size wb W → Sl 2 rNu W W.heap.size Br rs := fun W hb => (hr.below sta_nu (hBk.out W hb)).more sta_nu (hBk.out W hb).size
 have qG := hide (fun (W : World) (hb : Below wb.heap.size wb W) => (rgreat_any A1 A2 A3 A4 A5 A6 A7 A8 A9 A10 A11 A12 p c1 c2 c3 c4 c5 c6 c7 c8 c9 c10 c11 c12 W (hP W hb)).mono (fun e w' h => (⟨h.1, hb.trans (h.2.mono hb.size)⟩ : (∃ g, e = .returned (.bool g)) ∧ Below wb.heap.size wb w')))
 have qW := hide (fun (W : World) (hb : Below wb.heap.size wb W) => (width_any A1 A2 A3 A4 A5 A6 A7 A8 A9 A10 A11 A12 p c1 c2 c3 c4 c5 c6 c7 c8 c9 c10 c11 c12 act c Bc dc W (hP W hb) (hC W hb)).mono (fun e w' h => (⟨h.1, hb.trans (h.2.mono hb.size)⟩ : e = .returned (.tuple #[.int .i64 ((wdL p act c).getD 0), .bool (wdL p act c).isSome]) ∧ Below wb.heap.size wb w')))
 have qV := hide (fun (W : World) (hb : Below wb.heap.size wb W) => (rwidth_any A1 A2 A3 A4 A5 A6 A7 A8 A9 A10 A11 A12 p c1 c2 c3 c4 c5 c6 c7 c8 c9 c10 c11 c12 act c Bc dc W (hP W hb) (hC W hb)).mono (fun e w' h => (⟨h.1, hb.trans (h.2.mono hb.size)⟩ : e = .returned (.tuple #[.int .i64 ((wdR p act c).getD 0), .bool (wdR p act c).isSome]) ∧ Below wb.heap.size wb w')))
 have qA := fun (W : World) (hb : Below wb.heap.size wb W) => lmay_any A1 A2 A3 A4 A5 A6 A7 A8 A9 A10 A11 A12 p c1 c2 c3 c4 c5 c6 c7 c8 c9 c10 c11 c12 W (hP W hb)
 have qB := fun (W : World) (hb : Below wb.heap.size wb W) => rmay_any A1 A2 A3 A4 A5 A6 A7 A8 A9 A10 A11 A12 p c1 c2 c3 c4 c5 c6 c7 c8 c9 c10 c11 c12 W (hP W hb) hE
 have qM := fun (W : World) (hb : Below wb.heap.size wb W) => mayRun_any A1 A2 A3 A4 A5 A6 A7 A8 A9 A10 A11 A12 p c1 c2 c3 c4 c5 c6 c7 c8 c9 c10 c11 c12 Bl Br dl dr l ⟨ra, rs⟩ W (hP W hb) (hL W hb) (hR W hb)
 have qN := fun (W : World) (hb : Below wb.heap.size wb W) => rmayRun_any A1 A2 A3 A4 A5 A6 A7 A8 A9 A10 A11 A12 p c1 c2 c3 c4 c5 c6 c7 c8 c9 c10 c11 c12 Bl Br dl dr l ⟨ra, rs⟩ W (hP W hb) (hL W hb) (hR W hb)
 have qK := fun (W : World) (hb : Below wb.heap.size wb W) => known10_any m W (zcell10 h0 hz (hBk.out W hb))
 rw [← wdL_eq p act c hoc] at qV
 simp only [← may_eq p hO] at qB
 generalize (wdL p act c).getD 0 = z at qW qV
 generalize (wdL p act c).isSome = s at qW qV
 generalize lmayL p = X at qA qB
 generalize lrunB p l ⟨ra, rs⟩ = Y at qM qN
 replace qA := hide qA
 replace qB := hide qB
 replace qM := hide qM
 replace qN := hide qN
 replace qK := hide qK
 replace hsa := hide hsa
 replace hsb := hide hsb
 clear hcb hca hba hbb hz h hw hc hl hr hP hC hL hR h0
 simp only at qM qN
 go_enter Tryz.func3, Tryz.ntmps3
 go_wp2_with fail
 refine (qG.out _ hb0).mono ?_
 rintro e w1 ⟨⟨g, rfl⟩, hb1⟩
 have kk := bcell' hb1
 have p0 := (kk.1 _ 0 hl1).trans y0
 have p1 := (kk.1 _ 1 hl1).trans y1
 have p2 := (kk.1 _ 2 hl1).trans y2
 have p3 := (kk.1 _ 3 hl1).trans y3
 have p4 := (kk.1 _ 4 hl1).trans y4
 have p5 := (kk.1 _ 5 hl1).trans y5
 have p6 := (kk.1 _ 6 hl1).trans y6
 have p7 := (kk.1 _ 7 hl1).trans y7
 have p8 := (kk.1 _ 8 hl1).trans y8
 have p9 := (kk.1 _ 9 hl1).trans y9
 have p10 := (kk.1 _ 10 hl1).trans y10
 have p11 := (kk.1 _ 11 hl1).trans y11
 have px0 := (kk.1 _ 0 hl2).trans x0
 have px1 := (kk.1 _ 1 hl2).trans x1
 have ph1 := Nat.lt_of_lt_of_le hl1 hb1.size
 have ph2 := Nat.lt_of_lt_of_le hl2 hb1.size
 clear kk
 cases g with
 | true =>
  go_wp2_with (go_at_call 5; refine (qK.out _ hb1).mono ?_; rintro e w2 ⟨rfl, hb2⟩)
  go_ret
  exact ⟨rfl, hBk.out _ (hb1.trans (hb2.mono hb1.size))⟩
 | false =>
  by_cases h1 : (500 : Int) < (c.length : Int)
  ·have h1d : decide ((500 : Int) < (c.length : Int)) = true := decide_eq_true h1
   have h1n : decide (500 < c.length) = true := decide_eq_true (by omega)
   go_wp2_with (go_at_call 5; refine (qK.out _ hb1).mono ?_; rintro e w2 ⟨rfl, hb2⟩)
   go_ret
   exact ⟨rfl, hBk.out _ (hb1.trans (hb2.mono hb1.size))⟩
  ·have h1d : decide ((500 : Int) < (c.length : Int)) = false := decide_eq_false h1
   have h1n : decide (500 < c.length) = false := decide_eq_false (by omega)
   by_cases h2 : (40 : Int) < (l.length : Int)
   ·have h2d : decide ((40 : Int) < (l.length : Int)) = true := decide_eq_true h2
    have h2n : decide (40 < l.length) = true := decide_eq_true (by omega)
    go_wp2_with (go_at_call 5; refine (qK.out _ hb1).mono ?_; rintro e w2 ⟨rfl, hb2⟩)
    go_ret
    exact ⟨rfl, hBk.out _ (hb1.trans (hb2.mono hb1.size))⟩
   ·have h2d : decide ((40 : Int) < (l.length : Int)) = false := decide_eq_false h2
    have h2n : decide (40 < l.length) = false := decide_eq_false (by omega)
    by_cases h3 : (40 : Int) < (rs.length : Int)
    ·have h3d : decide ((40 : Int) < (rs.length : Int)) = true := decide_eq_true h3
     have h3n : decide (40 < rs.length) = true := decide_eq_true (by omega)
     go_wp2_with (go_at_call 5; refine (qK.out _ hb1).mono ?_; rintro e w2 ⟨rfl, hb2⟩)
     go_ret
     exact ⟨rfl, hBk.out _ (hb1.trans (hb2.mono hb1.size))⟩
    ·have h3d : decide ((40 : Int) < (rs.length : Int)) = false := decide_eq_false h3
     have h3n : decide (40 < rs.length) = false := decide_eq_false (by omega)
     clear qG
     go_wp2_with fail
     refine (qW.out _ hb1).mono ?_
     rintro e w2 ⟨rfl, hb2⟩
     have kk := bcell' hb2
     have q0 := (kk.1 _ 0 hl1).trans y0
     have q1 := (kk.1 _ 1 hl1).trans y1
     have q2 := (kk.1 _ 2 hl1).trans y2
     have q3 := (kk.1 _ 3 hl1).trans y3
     have q4 := (kk.1 _ 4 hl1).trans y4
     have q5 := (kk.1 _ 5 hl1).trans y5
     have q6 := (kk.1 _ 6 hl1).trans y6
     have q7 := (kk.1 _ 7 hl1).trans y7
     have q8 := (kk.1 _ 8 hl1).trans y8
     have q9 := (kk.1 _ 9 hl1).trans y9
     have q10 := (kk.1 _ 10 hl1).trans y10
     have q11 := (kk.1 _ 11 hl1).trans y11
     have qx0 := (kk.1 _ 0 hl2).trans x0
     have qx1 := (kk.1 _ 1 hl2).trans x1
     have qh1 := Nat.lt_of_lt_of_le hl1 hb2.size
     have qh2 := Nat.lt_of_lt_of_le hl2 hb2.size
     clear kk
     clear p0 p1 p2 p3 p4 p5 p6 p7 p8 p9 p10 p11 px0 px1 ph1 ph2 qW
     go_wp2_with fail
     refine (qV.out _ hb2).mono ?_
     rintro e w3 ⟨rfl, hb3⟩
     have kk := bcell' hb3
     have r0 := (kk.1 _ 0 hl1).trans y0
     have r1 := (kk.1 _ 1 hl1).trans y1
     have r2 := (kk.1 _ 2 hl1).trans y2
     have r3 := (kk.1 _ 3 hl1).trans y3
     have r4 := (kk.1 _ 4 hl1).trans y4
     have r5 := (kk.1 _ 5 hl1).trans y5
     have r6 := (kk.1 _ 6 hl1).trans y6
     have r7 := (kk.1 _ 7 hl1).trans y7
     have r8 := (kk.1 _ 8 hl1).trans y8
     have r9 := (kk.1 _ 9 hl1).trans y9
     have r10 := (kk.1 _ 10 hl1).trans y10
     have r11 := (kk.1 _ 11 hl1).trans y11
     have rx0 := (kk.1 _ 0 hl2).trans x0
     have rx1 := (kk.1 _ 1 hl2).trans x1
     have rh1 := Nat.lt_of_lt_of_le hl1 hb3.size
     have rh2 := Nat.lt_of_lt_of_le hl2 hb3.size
     clear kk
     clear q0 q1 q2 q3 q4 q5 q6 q7 q8 q9 q10 q11 qx0 qx1 qh1 qh2 qV
     have gA : ∀ d os, Hid (Calls Tryz.prog 8 #[.agg #[.slice A1 p.heads.length c1, .slice A2 p.metas.length c2, .slice A3 p.steps.length c3, .slice A4 p.acts.length c4, .slice A5 p.tabs.length c5, .slice A6 p.control.length c6, .slice A7 p.emit.length c7, .slice A8 p.nh.length c8, .slice A9 p.nf.length c9, .slice A10 p.nm.length c10, .slice A11 p.na.length c11, .slice A12 p.nt.length c12]] (Go.Sort.grow (redrawn w3 d) os) _) := fun d os => hide (qA.out _ (below_grow hb3 hb3.size d os))
     have gB : ∀ d os, Hid (Calls Tryz.prog 9 #[.agg #[.slice A1 p.heads.length c1, .slice A2 p.metas.length c2, .slice A3 p.steps.length c3, .slice A4 p.acts.length c4, .slice A5 p.tabs.length c5, .slice A6 p.control.length c6, .slice A7 p.emit.length c7, .slice A8 p.nh.length c8, .slice A9 p.nf.length c9, .slice A10 p.nm.length c10, .slice A11 p.na.length c11, .slice A12 p.nt.length c12]] (Go.Sort.grow (redrawn w3 d) os) _) := fun d os => hide (qB.out _ (below_grow hb3 hb3.size d os))
     have gM : ∀ d os, Hid (Calls Tryz.prog 10 #[.agg #[.slice A1 p.heads.length c1, .slice A2 p.metas.length c2, .slice A3 p.steps.length c3, .slice A4 p.acts.length c4, .slice A5 p.tabs.length c5, .slice A6 p.control.length c6, .slice A7 p.emit.length c7, .slice A8 p.nh.length c8, .slice A9 p.nf.length c9, .slice A10 p.nm.length c10, .slice A11 p.na.length c11, .slice A12 p.nt.length c12], .slice Bl l.length dl, .agg #[.int .i64 ra, .slice Br rs.length dr]] (Go.Sort.grow (redrawn w3 d) os) _) := fun d os => hide (qM.out _ (below_grow hb3 hb3.size d os))
     have gN : ∀ d os, Hid (Calls Tryz.prog 11 #[.agg #[.slice A1 p.heads.length c1, .slice A2 p.metas.length c2, .slice A3 p.steps.length c3, .slice A4 p.acts.length c4, .slice A5 p.tabs.length c5, .slice A6 p.control.length c6, .slice A7 p.emit.length c7, .slice A8 p.nh.length c8, .slice A9 p.nf.length c9, .slice A10 p.nm.length c10, .slice A11 p.na.length c11, .slice A12 p.nt.length c12], .slice Bl l.length dl, .agg #[.int .i64 ra, .slice Br rs.length dr]] (Go.Sort.grow (redrawn w3 d) os) _) := fun d os => hide (qN.out _ (below_grow hb3 hb3.size d os))
     have gK : ∀ d os, Hid (Calls Tryz.prog 5 #[] (Go.Sort.grow (redrawn w3 d) os) _) := fun d os => hide (qK.out _ (below_grow hb3 hb3.size d os))
     have hgw := gcell' (show Below w3.heap.size w3 w3 from Below.refl _ _) (Nat.le_refl _)
     have eX : (X == X) = true := beq_self_eq_true X
     have eY : (Y == Y) = true := beq_self_eq_true Y
     clear qA qB qM qN qK
     go_wp2_with fail
     refine wp_region_quiet_below (by kernel_rfl) (by kernel_rfl) ?_
     repeat (any_goals (first | go_big_quiet_step ((first | (go_at_call 8; with_reducible exact Calls.regrown_of (gA _ _).out) | (go_at_call 9; with_reducible exact Calls.regrown_of (gB _ _).out) | (go_at_call 10; with_reducible exact Calls.regrown_of (gM _ _).out) | (go_at_call 11; with_reducible exact Calls.regrown_of (gN _ _).out) | (go_at_call 5; with_reducible exact Calls.regrown_of (gK _ _).out))) | quiet_step ((first | (go_at_call 8; with_reducible exact Calls.regrown_of (gA _ _).out) | (go_at_call 9; with_reducible exact Calls.regrown_of (gB _ _).out) | (go_at_call 10; with_reducible exact Calls.regrown_of (gM _ _).out) | (go_at_call 11; with_reducible exact Calls.regrown_of (gN _ _).out) | (go_at_call 5; with_reducible exact Calls.regrown_of (gK _ _).out)))))
     refine wpQuiet_nil ?_
     intro w4 hw4
     replace hw4 := below_of_regrown hw4
     go_wp2
     go_ret
     exact ⟨rfl, hBk.out _ (hb3.trans (hw4.mono hb3.size))⟩
end Go.Proofs.YtmfpbahifhndjaaGreat
/-! Arguments opened to what the walks speak of: a type that reads as R. -/
namespace Go.Proofs.YtmfpbahifhndjaaGreat
open Go.ChangeShapes Go.WideShapes Go.ChangeAt Go.RowKit Go.Deep
/-- Whatever reads as data of type t, reads as R. -/
def Rd {α : Type} (t : TypeId) (R : CR α) : Prop :=
 ∀ (H : Type) (enc : TypeId × Value → H) (w : World) (fuel : Nat) (cs : List Value) (x : DataW H × List MemPlace), DataW.trod enc Tryz.prog w 0 (fun _ => true) true fuel t cs = some x → ∃ a, R w w.heap.size cs a
theorem rd_int {t : TypeId} (ht : Tryz.prog.underlying t = some (.int .i64)) : Rd t rInt := fun _ _ _ _ _ _ h => by
 obtain ⟨n, rfl, _, _⟩ := DataW.trod_int ht h
 exact ⟨n, rfl⟩
theorem rd_str {t : TypeId} (ht : Tryz.prog.underlying t = some .string) : Rd t rStr := fun _ _ _ _ _ _ h => by
 obtain ⟨s, rfl, _, hs⟩ := DataW.trod_string ht h
 exact ⟨s, rfl, hs⟩
theorem addr_spot {w : World} {a : Addr} {v : Value} (h : w.cell? a = some v) : ∃ b o, a = ⟨b, o, none⟩ := by
 obtain ⟨b, o, spot⟩ := a
 cases spot with
 | none => exact ⟨b, o, rfl⟩
 | some s => simp [World.cell?] at h; split at h <;> cases h
theorem exists_list {α : Type} {p : Nat → α → Prop} : ∀ len : Nat, (∀ i, i < len → ∃ a, p i a) → ∃ xs : List α, xs.length = len ∧ ∀ i x, xs[i]? = some x → p i x
 | 0, _ => ⟨[], rfl, fun i x h => by simp at h⟩
 | len + 1, h => by
  obtain ⟨xs, h1, h2⟩ := exists_list len (fun i hi => h i (by omega))
  obtain ⟨a, ha⟩ := h len (by omega)
  refine ⟨xs ++ [a], by simp [h1], fun i x hx => ?_⟩
  by_cases hi : i < len
  ·rw [List.getElem?_append_left (by omega)] at hx
   exact h2 i x hx
  ·have hil : i = len := by
    have := (List.getElem?_eq_some_iff.1 hx).1
    simp [h1] at this; omega
   subst hil
   rw [List.getElem?_append_right (by omega), h1] at hx
   simp at hx
   subst hx
   exact ha
/-- A row's last step where nothing that lay has turned; no 'again'. -/
theorem post_below {H : Type} {enc : TypeId × Value → H} {P : Program} {f : Func} {s : ChangeSpec} {apart fresh handsOn : Bool} {W W' : World} {args : Array Value} {v : Value} {ds gs : List (DataW H)} {before pa pv : List MemPlace}
  (hW : DataW.Whole enc P f.params.toList s.vars apart W args.toList ds gs before)
  (hres : ∀ (b : Nat) (sp : Nat → Bool) (hd : Bool), DataW.TrodAll enc P W' b sp hd f.resultTypes.toList (v.resultList f.resultTypes.size) (s.fn H (ds ++ gs)).results [])
  (hargs : DataW.TrodAll enc P W' 0 (fun b => decide (b < W.heap.size)) true f.params.toList args.toList (s.fn H (ds ++ gs)).args pa)
  (hvars : DataW.TrodVars enc P W' (fun b => decide (b < W.heap.size)) s.vars (s.fn H (ds ++ gs)).vars pv)
  (hps : before = pa ++ pv) (hb : Below W.heap.size W W') : s.post enc P f apart fresh handsOn false W args v W' := by
 have hlt : ∀ p ∈ before, p.block < W.heap.size := fun p hp => hW.lt p hp
 refine ⟨ds, gs, before, [], pa, pv, hW, hres _ _ _, hargs, hvars, World.keptBut_mono (fun p hp => ⟨hp, ?_⟩) (hb.frame (· ∈ before)), fun h => by cases h⟩
 rw [hps, List.mem_append] at hp
 exact Or.inr hp
end Go.Proofs.YtmfpbahifhndjaaGreat
/-! Openers where a reading is of so small a bulk: trees as they lie. -/
namespace Go.Proofs.YtmfpbahifhndjaaGreat
open Go.ChangeShapes Go.WideShapes Go.ChangeAt Go.RowKit Go.Deep
/-- Whatever reads as data of type t, of bulk at most m, reads as R. -/
def RdB {α : Type} (m : Nat) (t : TypeId) (R : CR α) : Prop :=
 ∀ (H : Type) (enc : TypeId × Value → H) (w : World) (fuel : Nat) (cs : List Value) (x : DataW H × List MemPlace), DataW.trod enc Tryz.prog w 0 (fun _ => true) true fuel t cs = some x → Rows.uptoBulk x.1 ≤ m → ∃ a, R w w.heap.size cs a
theorem rdb_of {α : Type} {m : Nat} {t : TypeId} {R : CR α} (h : Rd t R) : RdB m t R := fun H enc w fuel cs x hx _ => h H enc w fuel cs x hx
theorem bulk_mem {H : Type} {d : DataW H} : ∀ {l : List (DataW H)}, d ∈ l → Rows.uptoBulk d ≤ Rows.uptoBulkAll l
 | [], h => by simp at h
 | y :: l, h => by
  simp only [Rows.uptoBulkAll]
  rcases List.mem_cons.1 h with rfl | h
  ·omega
  ·have := bulk_mem h; omega
theorem rdb_slice {α : Type} {R : CR α} {t e : TypeId} {k m : Nat} (ht : Tryz.prog.underlying t = some (.slice e)) (hk : Tryz.prog.cellsOf e = k) (hk0 : 0 < k) (he : RdB m e R) : RdB (m + 1) t (rSl k R) := fun H enc w fuel cs x h hb => by
 rcases open_slice ht h with ⟨rfl, _⟩ | ⟨a, len, cap, mm, n, D, Pl, rfl, _, hl, hm, hmm, hxx, hx⟩
 ·exact ⟨[], none, 0, rfl, Sl.nil_⟩
 ·simp only [if_true] at hmm
  subst hmm
  have hbD : ∀ i, i < len → Rows.uptoBulk (D i) ≤ m := fun i hi => by
   rw [hxx] at hb
   simp only [Rows.uptoBulk] at hb
   have := bulk_mem (d := D i) (l := (List.range len).map D) (List.mem_map.2 ⟨i, List.mem_range.2 hi, rfl⟩)
   omega
  obtain ⟨xs, hlen, hxs⟩ := exists_list (p := fun i y => ∃ ecs : List Value, ecs.length = k ∧ (∀ j, j < k → w.cell? ((a.add (i * k)).add j) = ecs[j]?) ∧ R w w.heap.size ecs y) len (fun i hi => by
   obtain ⟨cs', hc, htr⟩ := hx i (by omega)
   rw [hk] at hc
   obtain ⟨_, h1, h2⟩ := World.cells?_some hc
   obtain ⟨y, hy⟩ := he H enc w n cs' _ htr (hbD i hi)
   exact ⟨y, cs', h1, h2, hy⟩)
  refine ⟨xs, some a, mm, by rw [hlen], by omega, fun i y hy => ?_⟩
  have hi : i < len := by rw [← hlen]; exact (List.getElem?_eq_some_iff.1 hy).1
  obtain ⟨ecs0, g1, g2, _⟩ := hxs 0 (xs[0]'(by omega)) (List.getElem?_eq_getElem (by omega))
  have hz : w.cell? a = some (ecs0[0]'(by omega)) := by
   have := g2 0 hk0
   rw [List.getElem?_eq_getElem (by omega)] at this
   simpa [Addr.add] using this
  obtain ⟨b, o, rfl⟩ := addr_spot hz
  have hb := World.block_lt_of_cell? w _ hz
  obtain ⟨ecs, h1, h2, h3⟩ := hxs i y hy
  have hadd : ∀ j, ((⟨b, o, none⟩ : Addr).add (i * k)).add j = ⟨b, o + i * k + j, none⟩ := fun j => by unfold Addr.add; split <;> split <;> simp_all
  refine ⟨b, o, ecs, rfl, hb, h1, fun j u hu => ?_, h3⟩
  have hj : j < k := by have := (List.getElem?_eq_some_iff.1 hu).1; omega
  rw [← hadd j, h2 j hj, hu]
theorem bulk_pos {H : Type} (d : DataW H) : 1 ≤ Rows.uptoBulk d := by
 cases d with
 | lit l => cases l <;> simp [Rows.uptoBulk]
 | _ => simp [Rows.uptoBulk]
end Go.Proofs.YtmfpbahifhndjaaGreat

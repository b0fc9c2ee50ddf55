import Derived.Test.YtmapiiclmmmpbaaGreatDoorTkb19
import Derived.Test.YtmapiiclmmmpbaaGreatDoorTkb15
import Derived.Deep.DeepCutAuto
import Derived.Deep.CutBlock
set_option linter.all false
/-! The document's numbers: compared. -/
namespace Go.Proofs.YtmapiiclmmmpbaaGreatDoor
open Go.RowKit
attribute [local go_sem ↓] load_eq store_eq
theorem wpOp_k {P : Program} {ops : Array Oper} {Q : Exit → Act → World → Prop} {i : Nat} {a : Act} {w : World} {K' : Act → World → Prop} (h : ∀ K : Act → World → Prop, (∀ a w, K' a w → K a w) → wpOp P ops Q i K a w) : wpOp P ops Q i K' a w := h K' fun _ _ h => h
def cmpAct (x y : Value) (n : Nat) (s5 s6 s8 s9 s10 s11 : Value) : Act :=
 { tmps := #[x, y, .pointer (some ⟨n, 0, none⟩), .pointer (some ⟨n + 1, 0, none⟩), .int .i64 0, s5, s6, undef, s8, s9, s10, s11, undef, undef, undef, undef, undef, undef, undef, undef, undef, undef, undef, undef, undef, undef, undef, undef, undef, undef, undef, undef, undef, undef], defers := [] }
/-- What holds when those operations have come up that are listed. -/
structure CmpL (x y : Value) (ra rb : Array Value) (n : Nat) (wb : World) (l0 l1 l2 l3 l4 l5 l6 l7 : Bool) (s5 s6 s8 s9 s10 s11 : Value) (g5 g6 : Nat) (w : World) : Prop where
 hb : Below wb.heap.size wb w
 i0 : l0 = true → s8 = x
 i1 : l1 = true → s9 = .agg ra
 i2 : l2 = true → s10 = y
 i3 : l3 = true → s11 = .agg rb
 i4 : l4 = true → s5 = .pointer (some ⟨g5, 0, none⟩) ∧ wb.heap.size ≤ g5 ∧ w.heap[g5]? = some (.cells (if l6 then ra else Tryz.zeroCells118) 118 (0, 0))
 i5 : l5 = true → s6 = .pointer (some ⟨g6, 0, none⟩) ∧ wb.heap.size ≤ g6 ∧ w.heap[g6]? = some (.cells (if l7 then rb else Tryz.zeroCells118) 118 (0, 0))
 i6 : l4 = true → l5 = true → g5 ≠ g6
 i7 : l6 = true → l4 = true
 i8 : l7 = true → l5 = true
def CmpInv (x y : Value) (ra rb : Array Value) (n : Nat) (wb : World) (l : Array Bool) (a : Act) (w : World) : Prop :=
 ∃ l0 l1 l2 l3 l4 l5 l6 l7 s5 s6 s8 s9 s10 s11 g5 g6, l = #[l0, l1, l2, l3, l4, l5, l6, l7] ∧ a = cmpAct x y n s5 s6 s8 s9 s10 s11 ∧ CmpL x y ra rb n wb l0 l1 l2 l3 l4 l5 l6 l7 s5 s6 s8 s9 s10 s11 g5 g6 w
theorem ready_nil {r : List Nat} {c : Bool} (hr : r = []) (h : (!r.isEmpty || c) = true) : c = true := by subst hr; simpa using h
theorem heap_lt {w : World} {g : Nat} {o : Obj} (h : w.heap[g]? = some o) : g < w.heap.size := (Array.getElem?_eq_some_iff.1 h).1
theorem CmpL.mono {x y : Value} {ra rb : Array Value} {n : Nat} {wb w w' : World} {l0 l1 l2 l3 l4 l5 l6 l7 : Bool} {s5 s6 s8 s9 s10 s11 : Value} {g5 g6 : Nat} (h : CmpL x y ra rb n wb l0 l1 l2 l3 l4 l5 l6 l7 s5 s6 s8 s9 s10 s11 g5 g6 w) (hb : Below w.heap.size w w') : CmpL x y ra rb n wb l0 l1 l2 l3 l4 l5 l6 l7 s5 s6 s8 s9 s10 s11 g5 g6 w' :=
 { h with
  hb := h.hb.trans (hb.mono h.hb.size)
  i4 := fun q => ⟨(h.i4 q).1, (h.i4 q).2.1, (hb.block _ (heap_lt (h.i4 q).2.2)).trans (h.i4 q).2.2⟩
  i5 := fun q => ⟨(h.i5 q).1, (h.i5 q).2.1, (hb.block _ (heap_lt (h.i5 q).2.2)).trans (h.i5 q).2.2⟩ }
set_option maxRecDepth 100000 in
set_option maxHeartbeats 1000000 in
theorem cmp01_any (h1 l1 h2 l2 : Int) (w : World) (u1 : u64 h1) (u2 : u64 l1) (u3 : u64 h2) (u4 : u64 l2) : Calls Tryz.prog 97 #[.agg #[.int .u64 h1, .int .u64 l1], .agg #[.int .u64 h2, .int .u64 l2]] w fun e w' => e = .returned (.int .i64 (cmpN (h1 * 18446744073709551616 + l1) (h2 * 18446744073709551616 + l2))) ∧ Below w.heap.size w w' := by
 have hG := hide (fun t a b c => cmp_one (t := t) u1 u2 u3 u4 a b c)
 have hL := hide (fun t a b c => cmp_neg (t := t) u1 u2 u3 u4 a b c)
 have hE := hide (fun a => cmp_zero u1 u2 u3 u4 a)
 have hBa := hide (fun W => bits01_any h1 l1 W u1 u2)
 have hBb := hide (fun W => bits01_any h2 l2 W u3 u4)
 obtain ⟨wa, hwa, hsa, hba, hca, -⟩ := box1 w #[.int .u64 h1, .int .u64 l1] 35
 obtain ⟨wb, hwb, hsb, hbb, hcb, -⟩ := box1 wa #[.int .u64 h2, .int .u64 l2] 35
 have y0 : wb.cell? ⟨w.heap.size, 0, none⟩ = some (.int .u64 h1) := (hbb.cell (p := ⟨w.heap.size, 0, none⟩) (by show w.heap.size < _; omega)).trans (hca 0)
 have y1 : wb.cell? ⟨w.heap.size, 1, none⟩ = some (.int .u64 l1) := (hbb.cell (p := ⟨w.heap.size, 1, none⟩) (by show w.heap.size < _; omega)).trans (hca 1)
 have y2 : wb.cell? ⟨w.heap.size + 1, 0, none⟩ = some (.int .u64 h2) := by rw [← hsa]; exact hcb 0
 have y3 : wb.cell? ⟨w.heap.size + 1, 1, none⟩ = some (.int .u64 l2) := by rw [← hsa]; exact hcb 1
 have hbw := hide (hba.trans (hbb.mono (by omega)))
 have hzb : w.heap.size + 1 < wb.heap.size := by omega
 clear hca hcb hba hbb
 go_enter Tryz.func97, Tryz.ntmps97
 go_upto_region 1 with (fail)
 go_cut [5, 6, 8, 9, 10, 11] (fun s5 s6 s8 s9 s10 s11 wx => ∃ g5 g6 : Nat, s5 = .pointer (some ⟨g5, 0, none⟩) ∧ s6 = .pointer (some ⟨g6, 0, none⟩) ∧ Hid (wx.heap[g5]? = some (.cells (rowC h1 l1 64) 118 (0, 0))) ∧ Hid (wx.heap[g6]? = some (.cells (rowC h2 l2 64) 118 (0, 0))) ∧ Hid (Below wb.heap.size wb wx))
 case first =>
  refine wp_region_any (by kernel_rfl) ?_
  refine wpAny_inv (CmpInv (.agg #[.int .u64 h1, .int .u64 l1]) (.agg #[.int .u64 h2, .int .u64 l2]) (rowC h1 l1 64) (rowC h2 l2 64) w.heap.size wb) ?_ ?_ _ _ _ _ (by simp) (by decide) ?_
  ·intro l a w1 i hs hi hI
   obtain ⟨l0, l1', l2', l3, l4, l5, l6, l7, s5, s6, s8, s9, s10, s11, g5, g6, rfl, rfl, hI⟩ := hI
   have hw0 : ((i == 0) || ((i == 1) && l0) || (i == 2) || ((i == 3) && l1' && l2') || ((i == 4) && !l4) || ((i == 5) && !l5) || ((i == 6) && l4 && l1' && !l6) || ((i == 7) && l5 && l3 && !l7)) = true := by
    refine (List.all_eq_true (p := fun i => ((i == 0) || ((i == 1) && l0) || (i == 2) || ((i == 3) && l1' && l2') || ((i == 4) && !l4) || ((i == 5) && !l5) || ((i == 6) && l4 && l1' && !l6) || ((i == 7) && l5 && l3 && !l7)))).1 ?_ i hi
    clear hs hI hi
    revert l0 l1' l2' l3 l4 l5 l6 l7
    decide +kernel
   have hw : (i = 0) ∨ (i = 1 ∧ l0 = true) ∨ (i = 2) ∨ (i = 3 ∧ l1' = true ∧ l2' = true) ∨ (i = 4 ∧ l4 = false) ∨ (i = 5 ∧ l5 = false) ∨ (i = 6 ∧ l4 = true ∧ l1' = true ∧ l6 = false) ∨ (i = 7 ∧ l5 = true ∧ l3 = true ∧ l7 = false) := by
    simpa [or_assoc, and_assoc] using hw0
   clear hw0
   clear hi hs
   have kb := bcell' hI.hb
   have hzw := hI.hb.size
   refine wpOp_k fun K hK => ?_
   replace hK := hide hK
   replace hI := hide hI
   rcases hw with rfl | ⟨rfl, q⟩ | rfl | ⟨rfl, q, q'⟩ | ⟨rfl, q⟩ | ⟨rfl, q⟩ | ⟨rfl, q, q', q''⟩ | ⟨rfl, q, q', q''⟩
   ·skip
    unfold wpOp cmpAct
    simp only [List.getElem?_toArray, List.getElem?_cons_zero, List.getElem?_cons_succ]
    rw [if_pos (by rfl)]
    refine Or.inl ?_
    go_wp2
    exact hK.out _ _ ⟨true, l1', l2', l3, l4, l5, l6, l7, s5, s6, _, s9, s10, s11, g5, g6, rfl, rfl, { hI.out with i0 := fun _ => rfl }⟩
   ·obtain rfl := hI.out.i0 q
    unfold wpOp cmpAct
    simp only [List.getElem?_toArray, List.getElem?_cons_zero, List.getElem?_cons_succ]
    rw [if_pos (by rfl)]
    refine Or.inl ?_
    go_wp2_with fail
    refine (hBa.out _).mono ?_
    rintro e w2 ⟨rfl, hb2⟩
    exact hK.out _ _ ⟨l0, true, l2', l3, l4, l5, l6, l7, s5, s6, _, _, s10, s11, g5, g6, rfl, rfl, { hI.out.mono hb2 with i1 := fun _ => rfl }⟩
   ·skip
    unfold wpOp cmpAct
    simp only [List.getElem?_toArray, List.getElem?_cons_zero, List.getElem?_cons_succ]
    rw [if_pos (by rfl)]
    refine Or.inl ?_
    go_wp2
    exact hK.out _ _ ⟨l0, l1', true, l3, l4, l5, l6, l7, s5, s6, s8, s9, _, s11, g5, g6, rfl, rfl, { hI.out with i2 := fun _ => rfl }⟩
   ·obtain rfl := hI.out.i2 q'
    unfold wpOp cmpAct
    simp only [List.getElem?_toArray, List.getElem?_cons_zero, List.getElem?_cons_succ]
    rw [if_pos (by rfl)]
    refine Or.inl ?_
    go_wp2_with fail
    refine (hBb.out _).mono ?_
    rintro e w2 ⟨rfl, hb2⟩
    exact hK.out _ _ ⟨l0, l1', l2', true, l4, l5, l6, l7, s5, s6, s8, s9, _, _, g5, g6, rfl, rfl, { hI.out.mono hb2 with i3 := fun _ => rfl }⟩
   ·skip
    unfold wpOp cmpAct
    simp only [List.getElem?_toArray, List.getElem?_cons_zero, List.getElem?_cons_succ]
    rw [if_pos (by rfl)]
    refine Or.inl ?_
    go_wp2
    have hb2 : Below w1.heap.size w1 (w1.alloc (.cells Tryz.zeroCells118 118)) := (Below.refl _ _).alloc (Nat.le_refl _) _
    have h6 : l6 = false := by
     cases h : l6 with
     | false => rfl
     | true => have := hI.out.i7 h; rw [q] at this; cases this
    refine hK.out _ _ ⟨l0, l1', l2', l3, true, l5, l6, l7, _, s6, s8, s9, s10, s11, w1.heap.size, g6, rfl, rfl, { hI.out.mono hb2 with i4 := fun _ => ⟨rfl, hzw, ?_⟩, i6 := fun _ h5 => ?_, i7 := fun _ => rfl }⟩
    ·rw [h6]; exact heap_alloc_last w1 _
    ·have := heap_lt (hI.out.i5 h5).2.2; omega
   ·skip
    unfold wpOp cmpAct
    simp only [List.getElem?_toArray, List.getElem?_cons_zero, List.getElem?_cons_succ]
    rw [if_pos (by rfl)]
    refine Or.inl ?_
    go_wp2
    have hb2 : Below w1.heap.size w1 (w1.alloc (.cells Tryz.zeroCells118 118)) := (Below.refl _ _).alloc (Nat.le_refl _) _
    have h7 : l7 = false := by
     cases h : l7 with
     | false => rfl
     | true => have := hI.out.i8 h; rw [q] at this; cases this
    refine hK.out _ _ ⟨l0, l1', l2', l3, l4, true, l6, l7, s5, _, s8, s9, s10, s11, g5, w1.heap.size, rfl, rfl, { hI.out.mono hb2 with i5 := fun _ => ⟨rfl, hzw, ?_⟩, i6 := fun h4 _ => ?_, i8 := fun _ => rfl }⟩
    ·rw [h7]; exact heap_alloc_last w1 _
    ·have := heap_lt (hI.out.i4 h4).2.2; omega
   ·obtain ⟨rfl, hg, hh⟩ := hI.out.i4 q
    obtain rfl := hI.out.i1 q'
    rw [q''] at hh
    have hst := storeG_run hh rfl (rowC_size _ _ _) (rowC_one h1 l1 64)
    have hat := setRow_at (C' := rowC h1 l1 64) hh
    unfold wpOp cmpAct
    simp only [List.getElem?_toArray, List.getElem?_cons_zero, List.getElem?_cons_succ]
    rw [if_pos (by rfl)]
    refine Or.inl ?_
    go_wp2
    refine hK.out _ _ ⟨l0, l1', l2', l3, l4, l5, true, l7, _, s6, s8, _, s10, s11, g5, g6, rfl, rfl, { hI.out with hb := below_setRow hI.out.hb hg _, i4 := fun _ => ⟨rfl, hg, hat⟩, i5 := fun h5 => ⟨(hI.out.i5 h5).1, (hI.out.i5 h5).2.1, ?_⟩, i7 := fun _ => q }⟩
    rw [setRow_far (Ne.symm (hI.out.i6 q h5))]
    exact (hI.out.i5 h5).2.2
   ·obtain ⟨rfl, hg, hh⟩ := hI.out.i5 q
    obtain rfl := hI.out.i3 q'
    rw [q''] at hh
    have hst := storeG_run hh rfl (rowC_size _ _ _) (rowC_one h2 l2 64)
    have hat := setRow_at (C' := rowC h2 l2 64) hh
    unfold wpOp cmpAct
    simp only [List.getElem?_toArray, List.getElem?_cons_zero, List.getElem?_cons_succ]
    rw [if_pos (by rfl)]
    refine Or.inl ?_
    go_wp2
    refine hK.out _ _ ⟨l0, l1', l2', l3, l4, l5, l6, true, s5, _, s8, s9, s10, _, g5, g6, rfl, rfl, { hI.out with hb := below_setRow hI.out.hb hg _, i5 := fun _ => ⟨rfl, hg, hat⟩, i4 := fun h4 => ⟨(hI.out.i4 h4).1, (hI.out.i4 h4).2.1, ?_⟩, i8 := fun _ => q }⟩
    rw [setRow_far (hI.out.i6 h4 q)]
    exact (hI.out.i4 h4).2.2
  ·intro l a w1 hs hr hI
   obtain ⟨l0, l1', l2', l3, l4, l5, l6, l7, s5, s6, s8, s9, s10, s11, g5, g6, rfl, rfl, hI⟩ := hI
   have hw : l4 = true ∧ l5 = true ∧ l6 = true ∧ l7 = true := by
    have hq : (l4 && l5 && l6 && l7) = true := by
     refine ready_nil hr ?_
     clear hs hI hr
     revert l0 l1' l2' l3 l4 l5 l6 l7
     decide +kernel
    simpa [and_assoc] using hq
   obtain ⟨rfl, rfl, rfl, rfl⟩ := hw
   obtain ⟨rfl, hg5, hh5⟩ := hI.i4 rfl
   obtain ⟨rfl, hg6, hh6⟩ := hI.i5 rfl
   simp only [cmpAct]
   go_wp2
   go_meet
   exact ⟨g5, g6, rfl, rfl, hide hh5, hide hh6, hide hI.hb⟩
  ·exact ⟨false, false, false, false, false, false, false, false, undef, undef, undef, undef, undef, undef, 0, 1, rfl, rfl, ⟨⟨rfl, rfl, rfl, Nat.le_refl _, fun _ _ => rfl⟩, nofun, nofun, nofun, nofun, nofun, nofun, nofun, nofun, nofun⟩⟩
 case rest =>
  obtain ⟨g5, g6, rfl, rfl, hg5, hg6, hbx⟩ := hcut
  have hlt5 := heap_lt hg5.out
  have hlt6 := heap_lt hg6.out
  have hBw := hide (hbw.out.trans (hbx.out.mono (by omega)))
  have c5 := hide (fun t (ht : t < 128) => (heap_cells hg5.out t).trans (rowC_bt h1 l1 ht))
  have c6 := hide (fun t (ht : t < 128) => (heap_cells hg6.out t).trans (rowC_bt h2 l2 ht))
  clear hg5 hg6 hbx hbw hBa hBb y0 y1 y2 y3 hwa hwb hsa hsb hzb u1 u2 u3 u4
  go_wp2
  obtain ⟨wx, rfl⟩ : ∃ wx : World, wx = wc := ⟨_, rfl⟩
  go_loopw [7] (fun i wr => ∃ j : Nat, j ≤ 128 ∧ (∃ i' : Int, i = .int .i64 i' ∧ i' = (j : Int) - 1) ∧ wr = wx ∧ Hid (∀ s, j ≤ s → s < 128 → btI h1 l1 s = btI h2 l2 s)) (fun i _ => (intOf i + 1).toNat)
  case atStart => exact ⟨128, Nat.le_refl _, ⟨_, rfl, by decide⟩, rfl, hide (fun s h g => by omega)⟩
  case round =>
   obtain ⟨j, hj, ⟨i', rfl, hi'⟩, rfl, heq⟩ := hrel
   cases j with
   | succ t =>
    obtain rfl : i' = (t : Int) := by omega
    clear hi'
    have htz : (0 : Int) ≤ (t : Int) := by omega
    have ht128 : (t : Int) < 128 := by omega
    have d5 := c5.out t (by omega)
    have d6 := c6.out t (by omega)
    have hab := fun s (h : t < s) (h' : s < 128) => heq.out s h h'
    cases e1 : btI h1 l1 t with
    | true =>
     cases e2 : btI h2 l2 t with
     | true =>
      have hn := hide (fun s (h : t ≤ s) (h' : s < 128) => show btI h1 l1 s = btI h2 l2 s from by
       rcases Nat.eq_or_lt_of_le h with rfl | h
       ·rw [e1, e2]
       ·exact hab s h h')
      rw [e1] at d5
      rw [e2] at d6
      clear hab e1 e2
      go_wp2
      go_roundw
      case rel => exact ⟨t, by omega, ⟨_, rfl, rfl⟩, by first | rfl | trivial, hn⟩
      case measure => simp [intOf]
     | false =>
      have hv := hide (hG.out t e1 e2 hab)
      rw [e1] at d5
      rw [e2] at d6
      clear hab e1 e2
      go_wp2
      go_ret
      exact ⟨by rw [hv.out]; rfl, hBw.out⟩
    | false =>
     cases e2 : btI h2 l2 t with
     | true =>
      have hv := hide (hL.out t e1 e2 hab)
      rw [e1] at d5
      rw [e2] at d6
      clear hab e1 e2
      go_wp2
      go_ret
      exact ⟨by rw [hv.out]; rfl, hBw.out⟩
     | false =>
      have hn := hide (fun s (h : t ≤ s) (h' : s < 128) => show btI h1 l1 s = btI h2 l2 s from by
       rcases Nat.eq_or_lt_of_le h with rfl | h
       ·rw [e1, e2]
       ·exact hab s h h')
      rw [e1] at d5
      rw [e2] at d6
      clear hab e1 e2
      go_wp2
      go_roundw
      case rel => exact ⟨t, by omega, ⟨_, rfl, rfl⟩, by first | rfl | trivial, hn⟩
      case measure => simp [intOf]
   | zero =>
    obtain rfl : i' = -1 := by omega
    have hv := hide (hE.out fun s h => heq.out s (Nat.zero_le _) h)
    clear heq hi' hj
    go_wp2
    go_ret
    exact ⟨by rw [hv.out]; rfl, hBw.out⟩
end Go.Proofs.YtmapiiclmmmpbaaGreatDoor

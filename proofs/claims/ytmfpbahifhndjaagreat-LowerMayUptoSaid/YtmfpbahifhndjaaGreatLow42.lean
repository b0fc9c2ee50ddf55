import Derived.Test.YtmfpbahifhndjaaGreatLow09
import Derived.Orders
import Derived.Deep.DeepCutAuto
import Derived.Deep.CutBlock
import Derived.Test.YtmfpbahifhndjaaGreatLow10
import Derived.Test.YtmfpbahifhndjaaGreatLow32
set_option linter.all false
/-! A region that draws its order, by what holds whichever operations have come up: eight operations. -/
namespace Go.Proofs.YtmfpbahifhndjaaGreat
open Go.RowKit
/-- How many have not come up. -/
def left8 (l : Array Bool) : Nat := (l.toList.filter (!·)).length
theorem left8_set {l : Array Bool} {i : Nat} (hi : l[i]? = some false) : left8 (l.setIfInBounds i true) + 1 = left8 l := by
 obtain ⟨l⟩ := l
 unfold left8
 simp only [List.setIfInBounds_toArray]
 simp at hi
 induction l generalizing i with
 | nil => simp at hi
 | cons x l ih =>
  cases i with
  | zero => simp at hi; subst hi; simp
  | succ i => 
   have := ih (i := i) (by simpa using hi)
   cases x <;> simp [List.filter_cons] at this ⊢ <;> omega
theorem ready_false {md : Region.Mode} {ops : Array Oper} {l : Array Bool} {i : Nat} (h : i ∈ Region.ready md ops l) (hs : l.size = ops.size) : l[i]? = some false := by
 unfold Region.ready at h
 obtain ⟨h1, h2⟩ := List.mem_filter.1 h
 have hi : i < l.size := by rw [hs]; exact List.mem_range.1 h1
 simp only [Bool.and_eq_true, Bool.not_eq_true'] at h2
 have := h2.1
 rw [Array.getD_eq_getD_getElem?, Array.getElem?_eq_getElem hi] at this
 rw [Array.getElem?_eq_getElem hi]
 simpa using this
theorem wpAny_inv {P : Program} {md : Region.Mode} {ops : Array Oper} {Q : Exit → Act → World → Prop} (Inv : Array Bool → Act → World → Prop)
  (hstep : ∀ l a w i, l.size = ops.size → i ∈ Region.ready md ops l → Inv l a w → wpOp P ops Q i (Inv (l.setIfInBounds i true)) a w)
  (hend : ∀ l a w, l.size = ops.size → Region.ready md ops l = [] → Inv l a w → Q .normal a w) :
  ∀ (fuel : Nat) (l : Array Bool) (a : Act) (w : World), l.size = ops.size → left8 l ≤ fuel → Inv l a w → wpAny P md ops Q fuel l a w := by
 intro fuel
 induction fuel with
 | zero =>
  intro l a w hs hl hI
  have hr : Region.ready md ops l = [] := by
   rcases hq : Region.ready md ops l with _ | ⟨i, r⟩
   ·rfl
   ·have hi : i ∈ Region.ready md ops l := by rw [hq]; exact List.mem_cons_self
    have := left8_set (ready_false hi hs)
    omega
  exact ⟨hr, hend l a w hs hr hI⟩
 | succ fuel ih =>
  intro l a w hs hl hI
  refine ⟨fun hr => hend l a w hs hr hI, fun i hi => ?_⟩
  have h1 := left8_set (ready_false hi hs)
  exact wpOp_mono (fun a' w' h' => ih _ a' w' (by simpa using hs) (by omega) h') (hstep l a w i hs hi hI)
end Go.Proofs.YtmfpbahifhndjaaGreat
/-! The document's numbers: And. -/
set_option linter.all false
namespace Go.Proofs.YtmfpbahifhndjaaGreat
open Go.RowKit
attribute [local go_sem ↓] load_eq store_eq
theorem wpOp_k {P : Program} {ops : Array Oper} {Q : Exit → Act → World → Prop} {i : Nat} {a : Act} {w : World} {K' : Act → World → Prop} (h : ∀ K : Act → World → Prop, (∀ a w, K' a w → K a w) → wpOp P ops Q i K a w) : wpOp P ops Q i K' a w := h K' fun _ _ h => h
/-- What holds when those operations have come up that are listed. -/
structure CmpL (x y : Value) (ra rb : Array Value) (n : Nat) (wb : World) (l0 l1 l2 l3 l4 l5 l6 l7 : Bool) (s5 s6 s8 s9 s10 s11 : Value) (g5 g6 : Nat) (w : World) : Prop where
 hb : Below wb.heap.size wb w
 i0 : l0 = true → s8 = x
 i1 : l1 = true → s9 = .agg ra
 i2 : l2 = true → s10 = y
 i3 : l3 = true → s11 = .agg rb
 i4 : l4 = true → s5 = .pointer (some ⟨g5, 0, none⟩) ∧ wb.heap.size ≤ g5 ∧ w.heap[g5]? = some (.cells (if l6 then ra else Tryz.zeroCells154) 154 (0, 0))
 i5 : l5 = true → s6 = .pointer (some ⟨g6, 0, none⟩) ∧ wb.heap.size ≤ g6 ∧ w.heap[g6]? = some (.cells (if l7 then rb else Tryz.zeroCells154) 154 (0, 0))
 i6 : l4 = true → l5 = true → g5 ≠ g6
 i7 : l6 = true → l4 = true
 i8 : l7 = true → l5 = true
theorem ready_nil {r : List Nat} {c : Bool} (hr : r = []) (h : (!r.isEmpty || c) = true) : c = true := by subst hr; simpa using h
theorem heap_lt {w : World} {g : Nat} {o : Obj} (h : w.heap[g]? = some o) : g < w.heap.size := (Array.getElem?_eq_some_iff.1 h).1
theorem CmpL.mono {x y : Value} {ra rb : Array Value} {n : Nat} {wb w w' : World} {l0 l1 l2 l3 l4 l5 l6 l7 : Bool} {s5 s6 s8 s9 s10 s11 : Value} {g5 g6 : Nat} (h : CmpL x y ra rb n wb l0 l1 l2 l3 l4 l5 l6 l7 s5 s6 s8 s9 s10 s11 g5 g6 w) (hb : Below w.heap.size w w') : CmpL x y ra rb n wb l0 l1 l2 l3 l4 l5 l6 l7 s5 s6 s8 s9 s10 s11 g5 g6 w' :=
 { h with
  hb := h.hb.trans (hb.mono h.hb.size)
  i4 := fun q => ⟨(h.i4 q).1, (h.i4 q).2.1, (hb.block _ (heap_lt (h.i4 q).2.2)).trans (h.i4 q).2.2⟩
  i5 := fun q => ⟨(h.i5 q).1, (h.i5 q).2.1, (hb.block _ (heap_lt (h.i5 q).2.2)).trans (h.i5 q).2.2⟩ }
def andAct (x y : Value) (n : Nat) (s5 s6 s8 s9 s10 s11 : Value) : Act :=
 { tmps := #[x, y, .pointer (some ⟨n, 0, none⟩), .pointer (some ⟨n + 1, 0, none⟩), .pointer (some ⟨n + 2, 0, none⟩), s5, s6, undef, s8, s9, s10, s11, undef, undef, undef, undef, undef, undef, undef, undef, undef, undef, undef, undef, undef, undef, undef, undef], defers := [] }
def AndInv (x y : Value) (ra rb : Array Value) (n : Nat) (wb : World) (l : Array Bool) (a : Act) (w : World) : Prop :=
 ∃ l0 l1 l2 l3 l4 l5 l6 l7 s5 s6 s8 s9 s10 s11 g5 g6, l = #[l0, l1, l2, l3, l4, l5, l6, l7] ∧ a = andAct x y n s5 s6 s8 s9 s10 s11 ∧ CmpL x y ra rb n wb l0 l1 l2 l3 l4 l5 l6 l7 s5 s6 s8 s9 s10 s11 g5 g6 w
def andV (h1 l1 h2 l2 : Int) (k j : Nat) : Value := .bool ((if j < 64 then bitI l1 j else bitI h1 (j - 64)) && (decide (k ≤ j) || (if j < 64 then bitI l2 j else bitI h2 (j - 64))))
def andC (h1 l1 h2 l2 : Int) (k : Nat) : Array Value := ((List.range 128).map (andV h1 l1 h2 l2 k)).toArray
theorem andC_get (h1 l1 h2 l2 : Int) (k j : Nat) (hj : j < 128) : (andC h1 l1 h2 l2 k)[j]? = some (andV h1 l1 h2 l2 k j) := by simp [andC, hj]
theorem andC_size (h1 l1 h2 l2 : Int) (k : Nat) : (andC h1 l1 h2 l2 k).size = 128 := by simp [andC]
theorem andC_zero (h1 l1 h2 l2 : Int) : andC h1 l1 h2 l2 0 = rowC h1 l1 64 := row_ext (andC_size _ _ _ _ _) (rowC_size _ _ _) fun j hj => by
 rw [andC_get _ _ _ _ _ _ hj, rowC_get _ _ _ _ hj]
 by_cases h : j < 64 <;> simp [andV, rowV, h]
 omega
theorem andC_succ (h1 l1 h2 l2 : Int) {k : Nat} (hk : k < 128) : (andC h1 l1 h2 l2 k).setIfInBounds k (.bool ((if k < 64 then bitI l1 k else bitI h1 (k - 64)) && (if k < 64 then bitI l2 k else bitI h2 (k - 64)))) = andC h1 l1 h2 l2 (k + 1) :=
 row_ext (by simp [andC_size]) (andC_size _ _ _ _ _) fun j hj => by
  rw [Array.getElem?_setIfInBounds, andC_get _ _ _ _ _ _ hj, andC_get _ _ _ _ _ _ hj]
  simp only [andC_size]
  by_cases h : k = j
  ·subst h
   simp [andV, hk, show ¬ (k + 1 ≤ k) by omega]
  ·rw [if_neg h]
   have : decide (k ≤ j) = decide (k + 1 ≤ j) := by rw [decide_eq_decide]; omega
   simp [andV, this]
theorem setCell_at {W : World} {g k : Nat} {C : Array Value} {t : TypeId} {fr : Nat × Nat} {v : Value} (h : W.heap[g]? = some (.cells C t fr)) : (W.setCell ⟨g, k, none⟩ v).heap[g]? = some (.cells (C.setIfInBounds k v) t fr) := by
 simp [World.setCell, Array.getElem?_modify, h]
theorem hcells {W : World} {g : Nat} {C : Array Value} {t : TypeId} {fr : Nat × Nat} (h : W.heap[g]? = some (.cells C t fr)) (k : Nat) : W.cell? ⟨g, k, none⟩ = C[k]? := by simp [World.cell?, h]
theorem hfroz {W : World} {g : Nat} {C : Array Value} {t : TypeId} (h : W.heap[g]? = some (.cells C t (0, 0))) (k : Nat) : W.frozen? ⟨g, k, none⟩ = false := by simp [World.frozen?, h]
theorem setCell_far {W : World} {g b k : Nat} {v : Value} (h : b ≠ g) : (W.setCell ⟨g, k, none⟩ v).heap[b]? = W.heap[b]? := by
 simp only [World.setCell, Array.getElem?_modify]
 rw [if_neg (Ne.symm h)]
theorem andI_nat {x y : Int} (hx : u64 x) (hy : u64 y) : ∃ X Y : Nat, x = X ∧ y = Y ∧ andI x y = ((X &&& Y : Nat) : Int) := by
 obtain ⟨a0, a1⟩ := hx
 obtain ⟨b0, b1⟩ := hy
 obtain ⟨X, rfl⟩ := Int.eq_ofNat_of_zero_le a0
 obtain ⟨Y, rfl⟩ := Int.eq_ofNat_of_zero_le b0
 exact ⟨X, Y, rfl, rfl, by rw [andI, u64_and_nat X Y (by omega) (by omega)]⟩
theorem andI_bit {x y : Int} (hx : u64 x) (hy : u64 y) (j : Nat) : bitI (andI x y) j = (bitI x j && bitI y j) := by
 obtain ⟨X, Y, rfl, rfl, h⟩ := andI_nat hx hy
 rw [h, bitI_nat, bitI_nat, bitI_nat, Nat.testBit_and]
theorem andI_ok {x y : Int} (hx : u64 x) (hy : u64 y) : u64 (andI x y) := by
 obtain ⟨X, Y, rfl, rfl, h⟩ := andI_nat hx hy
 rw [h]
 have := Nat.and_le_left (n := X) (m := Y)
 have := hx.2
 exact ⟨by omega, by omega⟩
theorem andC_end {h1 l1 h2 l2 : Int} (u1 : u64 h1) (u2 : u64 l1) (u3 : u64 h2) (u4 : u64 l2) : andC h1 l1 h2 l2 128 = rowC (andI h1 h2) (andI l1 l2) 64 := row_ext (andC_size _ _ _ _ _) (rowC_size _ _ _) fun j hj => by
 rw [andC_get _ _ _ _ _ _ hj, rowC_get _ _ _ _ hj]
 unfold andV rowV
 rw [andI_bit u2 u4, andI_bit u1 u3]
 by_cases h : j < 64
 ·simp [h, show ¬ (128 ≤ j) by omega]
 ·simp [h, show ¬ (128 ≤ j) by omega, show j < 64 + 64 by omega]
set_option maxRecDepth 100000 in
set_option maxHeartbeats 1000000 in
theorem and01_any (h1 l1 h2 l2 : Int) (w : World) (u1 : u64 h1) (u2 : u64 l1) (u3 : u64 h2) (u4 : u64 l2) : Calls Tryz.prog 92 #[.agg #[.int .u64 h1, .int .u64 l1], .agg #[.int .u64 h2, .int .u64 l2]] w fun e w' => e = .returned (.agg #[.int .u64 (andI h1 h2), .int .u64 (andI l1 l2)]) ∧ Below w.heap.size w w' := by
 have hN := hide (fun W => num01_any (andI h1 h2) (andI l1 l2) W (andI_ok u1 u3) (andI_ok u2 u4))
 have hend := hide (andC_end u1 u2 u3 u4)
 have hBa := hide (fun W => bits01_any h1 l1 W u1 u2)
 have hBb := hide (fun W => bits01_any h2 l2 W u3 u4)
 obtain ⟨wa, hwa, hsa, hba, hca, -⟩ := box1 w #[.int .u64 h1, .int .u64 l1] 60
 obtain ⟨wq, hwq, hsq, hbq, hcq, -⟩ := box1 wa #[.int .u64 h2, .int .u64 l2] 60
 obtain ⟨wb, hwb, hsb, hbb, hcb, -⟩ := box1 wq #[.int .u64 0, .int .u64 0] 60
 have y0 : wb.cell? ⟨w.heap.size, 0, none⟩ = some (.int .u64 h1) := (hbb.cell (p := ⟨w.heap.size, 0, none⟩) (by show w.heap.size < _; omega)).trans ((hbq.cell (p := ⟨w.heap.size, 0, none⟩) (by show w.heap.size < _; omega)).trans (hca 0))
 have y1 : wb.cell? ⟨w.heap.size, 1, none⟩ = some (.int .u64 l1) := (hbb.cell (p := ⟨w.heap.size, 1, none⟩) (by show w.heap.size < _; omega)).trans ((hbq.cell (p := ⟨w.heap.size, 1, none⟩) (by show w.heap.size < _; omega)).trans (hca 1))
 rw [hsa] at hcq
 have y2 : wb.cell? ⟨w.heap.size + 1, 0, none⟩ = some (.int .u64 h2) := (hbb.cell (p := ⟨w.heap.size + 1, 0, none⟩) (by show w.heap.size + 1 < _; omega)).trans (hcq 0)
 have y3 : wb.cell? ⟨w.heap.size + 1, 1, none⟩ = some (.int .u64 l2) := (hbb.cell (p := ⟨w.heap.size + 1, 1, none⟩) (by show w.heap.size + 1 < _; omega)).trans (hcq 1)
 have hg4 : wb.heap[w.heap.size + 2]? = some (.cells #[.int .u64 0, .int .u64 0] 60 (0, 0)) := by rw [← hwb, show w.heap.size + 2 = wq.heap.size by omega]; exact heap_alloc_last wq _
 have hbw := hide ((hba.trans (hbq.mono (by omega))).trans (hbb.mono (by omega)))
 have hzb : w.heap.size + 2 < wb.heap.size := by omega
 have hzb1 : w.heap.size + 1 < wb.heap.size := by omega
 have hzb0 : w.heap.size < wb.heap.size := by omega
 replace hg4 := hide hg4
 clear hca hcq hcb hba hbq hbb
 go_enter Tryz.func92, Tryz.ntmps92
 go_upto_region 1 with (fail)
 go_cut [5, 6, 8, 9, 10, 11] (fun s5 s6 s8 s9 s10 s11 wx => ∃ g5 g6 : Nat, s5 = .pointer (some ⟨g5, 0, none⟩) ∧ s6 = .pointer (some ⟨g6, 0, none⟩) ∧ Hid (wb.heap.size ≤ g5 ∧ g5 ≠ g6) ∧ Hid (wx.heap[g5]? = some (.cells (rowC h1 l1 64) 154 (0, 0))) ∧ Hid (wx.heap[g6]? = some (.cells (rowC h2 l2 64) 154 (0, 0))) ∧ Hid (Below wb.heap.size wb wx))
 case first =>
  refine wp_region_any (by kernel_rfl) ?_
  refine wpAny_inv (AndInv (.agg #[.int .u64 h1, .int .u64 l1]) (.agg #[.int .u64 h2, .int .u64 l2]) (rowC h1 l1 64) (rowC h2 l2 64) w.heap.size wb) ?_ ?_ _ _ _ _ (by simp) (by decide) ?_
  ·intro l a w1 i hs hi hI
   obtain ⟨l0, l1', l2', l3, l4, l5, l6, l7, s5, s6, s8, s9, s10, s11, g5, g6, rfl, rfl, hI⟩ := hI
   have hw0 : ((i == 0) || ((i == 1) && l0) || (i == 2) || ((i == 3) && l1' && l2') || ((i == 4) && !l4) || ((i == 5) && !l5) || ((i == 6) && l4 && l1' && !l6) || ((i == 7) && l5 && l3 && !l7)) = true := by
    refine (List.all_eq_true (p := fun i => ((i == 0) || ((i == 1) && l0) || (i == 2) || ((i == 3) && l1' && l2') || ((i == 4) && !l4) || ((i == 5) && !l5) || ((i == 6) && l4 && l1' && !l6) || ((i == 7) && l5 && l3 && !l7)))).1 ?_ i hi
    clear hs hI hi
    revert l0 l1' l2' l3 l4 l5 l6 l7
    decide +kernel
   have hw : (i = 0) ∨ (i = 1 ∧ l0 = true) ∨ (i = 2) ∨ (i = 3 ∧ l1' = true ∧ l2' = true) ∨ (i = 4 ∧ l4 = false) ∨ (i = 5 ∧ l5 = false) ∨ (i = 6 ∧ l4 = true ∧ l1' = true ∧ l6 = false) ∨ (i = 7 ∧ l5 = true ∧ l3 = true ∧ l7 = false) := by
    simpa [or_assoc, and_assoc] using hw0
   clear hw0
   clear hi hs
   have kb := bcell' hI.hb
   have hzw := hI.hb.size
   refine wpOp_k fun K hK => ?_
   replace hK := hide hK
   replace hI := hide hI
   rcases hw with rfl | ⟨rfl, q⟩ | rfl | ⟨rfl, q, q'⟩ | ⟨rfl, q⟩ | ⟨rfl, q⟩ | ⟨rfl, q, q', q''⟩ | ⟨rfl, q, q', q''⟩
   ·skip
    unfold wpOp andAct
    simp only [List.getElem?_toArray, List.getElem?_cons_zero, List.getElem?_cons_succ]
    rw [if_pos (by rfl)]
    refine Or.inl ?_
    go_wp2
    exact hK.out _ _ ⟨true, l1', l2', l3, l4, l5, l6, l7, s5, s6, _, s9, s10, s11, g5, g6, rfl, rfl, { hI.out with i0 := fun _ => rfl }⟩
   ·obtain rfl := hI.out.i0 q
    unfold wpOp andAct
    simp only [List.getElem?_toArray, List.getElem?_cons_zero, List.getElem?_cons_succ]
    rw [if_pos (by rfl)]
    refine Or.inl ?_
    go_wp2_with fail
    refine (hBa.out _).mono ?_
    rintro e w2 ⟨rfl, hb2⟩
    exact hK.out _ _ ⟨l0, true, l2', l3, l4, l5, l6, l7, s5, s6, _, _, s10, s11, g5, g6, rfl, rfl, { hI.out.mono hb2 with i1 := fun _ => rfl }⟩
   ·skip
    unfold wpOp andAct
    simp only [List.getElem?_toArray, List.getElem?_cons_zero, List.getElem?_cons_succ]
    rw [if_pos (by rfl)]
    refine Or.inl ?_
    go_wp2
    exact hK.out _ _ ⟨l0, l1', true, l3, l4, l5, l6, l7, s5, s6, s8, s9, _, s11, g5, g6, rfl, rfl, { hI.out with i2 := fun _ => rfl }⟩
   ·obtain rfl := hI.out.i2 q'
    unfold wpOp andAct
    simp only [List.getElem?_toArray, List.getElem?_cons_zero, List.getElem?_cons_succ]
    rw [if_pos (by rfl)]
    refine Or.inl ?_
    go_wp2_with fail
    refine (hBb.out _).mono ?_
    rintro e w2 ⟨rfl, hb2⟩
    exact hK.out _ _ ⟨l0, l1', l2', true, l4, l5, l6, l7, s5, s6, s8, s9, _, _, g5, g6, rfl, rfl, { hI.out.mono hb2 with i3 := fun _ => rfl }⟩
   ·skip
    unfold wpOp andAct
    simp only [List.getElem?_toArray, List.getElem?_cons_zero, List.getElem?_cons_succ]
    rw [if_pos (by rfl)]
    refine Or.inl ?_
    go_wp2
    have hb2 : Below w1.heap.size w1 (w1.alloc (.cells Tryz.zeroCells154 154)) := (Below.refl _ _).alloc (Nat.le_refl _) _
    have h6 : l6 = false := by
     cases h : l6 with
     | false => rfl
     | true => have := hI.out.i7 h; rw [q] at this; cases this
    refine hK.out _ _ ⟨l0, l1', l2', l3, true, l5, l6, l7, _, s6, s8, s9, s10, s11, w1.heap.size, g6, rfl, rfl, { hI.out.mono hb2 with i4 := fun _ => ⟨rfl, hzw, ?_⟩, i6 := fun _ h5 => ?_, i7 := fun _ => rfl }⟩
    ·rw [h6]; exact heap_alloc_last w1 _
    ·have := heap_lt (hI.out.i5 h5).2.2; omega
   ·skip
    unfold wpOp andAct
    simp only [List.getElem?_toArray, List.getElem?_cons_zero, List.getElem?_cons_succ]
    rw [if_pos (by rfl)]
    refine Or.inl ?_
    go_wp2
    have hb2 : Below w1.heap.size w1 (w1.alloc (.cells Tryz.zeroCells154 154)) := (Below.refl _ _).alloc (Nat.le_refl _) _
    have h7 : l7 = false := by
     cases h : l7 with
     | false => rfl
     | true => have := hI.out.i8 h; rw [q] at this; cases this
    refine hK.out _ _ ⟨l0, l1', l2', l3, l4, true, l6, l7, s5, _, s8, s9, s10, s11, g5, w1.heap.size, rfl, rfl, { hI.out.mono hb2 with i5 := fun _ => ⟨rfl, hzw, ?_⟩, i6 := fun h4 _ => ?_, i8 := fun _ => rfl }⟩
    ·rw [h7]; exact heap_alloc_last w1 _
    ·have := heap_lt (hI.out.i4 h4).2.2; omega
   ·obtain ⟨rfl, hg, hh⟩ := hI.out.i4 q
    obtain rfl := hI.out.i1 q'
    rw [q''] at hh
    have hst := storeG_run hh rfl (rowC_size _ _ _) (rowC_one h1 l1 64)
    have hat := setRow_at (C' := rowC h1 l1 64) hh
    unfold wpOp andAct
    simp only [List.getElem?_toArray, List.getElem?_cons_zero, List.getElem?_cons_succ]
    rw [if_pos (by rfl)]
    refine Or.inl ?_
    go_wp2
    refine hK.out _ _ ⟨l0, l1', l2', l3, l4, l5, true, l7, _, s6, s8, _, s10, s11, g5, g6, rfl, rfl, { hI.out with hb := below_setRow hI.out.hb hg _, i4 := fun _ => ⟨rfl, hg, hat⟩, i5 := fun h5 => ⟨(hI.out.i5 h5).1, (hI.out.i5 h5).2.1, ?_⟩, i7 := fun _ => q }⟩
    rw [setRow_far (Ne.symm (hI.out.i6 q h5))]
    exact (hI.out.i5 h5).2.2
   ·obtain ⟨rfl, hg, hh⟩ := hI.out.i5 q
    obtain rfl := hI.out.i3 q'
    rw [q''] at hh
    have hst := storeG_run hh rfl (rowC_size _ _ _) (rowC_one h2 l2 64)
    have hat := setRow_at (C' := rowC h2 l2 64) hh
    unfold wpOp andAct
    simp only [List.getElem?_toArray, List.getElem?_cons_zero, List.getElem?_cons_succ]
    rw [if_pos (by rfl)]
    refine Or.inl ?_
    go_wp2
    refine hK.out _ _ ⟨l0, l1', l2', l3, l4, l5, l6, true, s5, _, s8, s9, s10, _, g5, g6, rfl, rfl, { hI.out with hb := below_setRow hI.out.hb hg _, i5 := fun _ => ⟨rfl, hg, hat⟩, i4 := fun h4 => ⟨(hI.out.i4 h4).1, (hI.out.i4 h4).2.1, ?_⟩, i8 := fun _ => q }⟩
    rw [setRow_far (hI.out.i6 h4 q)]
    exact (hI.out.i4 h4).2.2
  ·intro l a w1 hs hr hI
   obtain ⟨l0, l1', l2', l3, l4, l5, l6, l7, s5, s6, s8, s9, s10, s11, g5, g6, rfl, rfl, hI⟩ := hI
   have hw : l4 = true ∧ l5 = true ∧ l6 = true ∧ l7 = true := by
    have hq : (l4 && l5 && l6 && l7) = true := by
     refine ready_nil hr ?_
     clear hs hI hr
     revert l0 l1' l2' l3 l4 l5 l6 l7
     decide +kernel
    simpa [and_assoc] using hq
   obtain ⟨rfl, rfl, rfl, rfl⟩ := hw
   obtain ⟨rfl, hg5, hh5⟩ := hI.i4 rfl
   obtain ⟨rfl, hg6, hh6⟩ := hI.i5 rfl
   simp only [andAct]
   go_wp2
   go_meet
   exact ⟨g5, g6, rfl, rfl, hide ⟨hg5, hI.i6 rfl rfl⟩, hide hh5, hide hh6, hide hI.hb⟩
  ·exact ⟨false, false, false, false, false, false, false, false, undef, undef, undef, undef, undef, undef, 0, 1, rfl, rfl, ⟨⟨rfl, rfl, rfl, Nat.le_refl _, fun _ _ => rfl⟩, nofun, nofun, nofun, nofun, nofun, nofun, nofun, nofun, nofun⟩⟩
 case rest =>
  obtain ⟨g5, g6, rfl, rfl, hgg, hg5, hg6, hbx⟩ := hcut
  rw [← andC_zero h1 l1 h2 l2] at hg5
  have hsz6 := rowC_size h2 l2 64
  clear hBa hBb y0 y1 y2 y3 hwa hwb hwq
  go_wp2
  go_loopw [7] (fun i wr => ∃ k : Nat, k ≤ 128 ∧ i = .int .i64 k ∧ Hid (wr.heap[g5]? = some (.cells (andC h1 l1 h2 l2 k) 154 (0, 0))) ∧ Hid (wr.heap[g6]? = some (.cells (rowC h2 l2 64) 154 (0, 0))) ∧ Hid (Below wb.heap.size wb wr)) (fun i _ => 128 - (intOf i).toNat)
  case atStart => exact ⟨0, Nat.zero_le _, rfl, hg5, hg6, hbx⟩
  case round =>
   obtain ⟨k, hk, rfl, hG5, hG6, hB⟩ := hrel
   have lt5 := heap_lt hG5.out
   have lt6 := heap_lt hG6.out
   by_cases hlt : k < 128
   ·have hltz : (k : Int) < 128 := by omega
    have hsucc := andC_succ h1 l1 h2 l2 hlt
    have d5 := (hcells hG5.out k).trans (andC_get h1 l1 h2 l2 k k hlt)
    have d6 := (hcells hG6.out k).trans (rowC_get h2 l2 64 k hlt)
    have e5 : andV h1 l1 h2 l2 k k = .bool (if k < 64 then bitI l1 k else bitI h1 (k - 64)) := by simp [andV]
    have e6 : rowV h2 l2 64 k = .bool (if k < 64 then bitI l2 k else bitI h2 (k - 64)) := by
     by_cases h : k < 64 <;> simp [rowV, h]
     omega
    rw [e5] at d5
    rw [e6] at d6
    have ff := hfroz hG5.out k
    generalize (if k < 64 then bitI l1 k else bitI h1 (k - 64)) = b1 at hsucc d5
    generalize (if k < 64 then bitI l2 k else bitI h2 (k - 64)) = b2 at hsucc d6
    have hnx := hide (fun (v : Value) (g : (andC h1 l1 h2 l2 k).setIfInBounds k v = andC h1 l1 h2 l2 (k + 1)) => show (wr.setCell ⟨g5, k, none⟩ v).heap[g5]? = some (.cells (andC h1 l1 h2 l2 (k + 1)) 154 (0, 0)) from by rw [← g]; exact setCell_at hG5.out)
    have hfa := hide (fun (v : Value) => (setCell_far (k := k) (v := v) (Ne.symm hgg.out.2)).trans hG6.out)
    have hbl := hide (fun (v : Value) => hB.out.setCell (p := ⟨g5, k, none⟩) hgg.out.1 v)
    replace hsucc := hide hsucc
    clear e5 e6
    cases b1 with
    | false =>
     rw [Bool.false_and] at hsucc
     go_wp2
     go_roundw
     case rel => exact ⟨k + 1, by omega, by go_num, hide (hnx.out _ hsucc.out), hide (hfa.out _), hide (hbl.out _)⟩
     case measure => simp [intOf]; omega
    | true =>
     rw [Bool.true_and] at hsucc
     go_wp2
     go_roundw
     case rel => exact ⟨k + 1, by omega, by go_num, hide (hnx.out _ hsucc.out), hide (hfa.out _), hide (hbl.out _)⟩
     case measure => simp [intOf]; omega
   ·obtain rfl : k = 128 := by omega
    rw [hend.out] at hG5
    have hs1 := rowC_size (andI h1 h2) (andI l1 l2) 64
    have hld := loadG_run hG5.out hs1
    have hgW := hide ((hB.out.block _ (by omega)).trans hg4.out)
    have hzW := hB.out.size
    have hBW := hide (hbw.out.trans (hB.out.mono (by omega)))
    clear hs1 hg5 hg6 hbx hG6 hend
    go_wp2_with fail
    refine (hN.out _).mono ?_
    rintro e w2 ⟨rfl, hb2⟩
    have hg2 : w2.heap[w.heap.size + 2]? = some (.cells #[.int .u64 0, .int .u64 0] 60 (0, 0)) := (hb2.block _ (by omega)).trans hgW.out
    have hB2 := hide (hBW.out.trans (hb2.mono (by omega)))
    have k0 : w2.cell? ⟨w.heap.size + 2, 0, none⟩ = some (.int .u64 0) := by simp [World.cell?, hg2]
    have k1 : w2.cell? ⟨w.heap.size + 2, 1, none⟩ = some (.int .u64 0) := by simp [World.cell?, hg2]
    have f0 : w2.frozen? ⟨w.heap.size + 2, 0, none⟩ = false := by simp [World.frozen?, hg2]
    have f1 : w2.frozen? ⟨w.heap.size + 2, 1, none⟩ = false := by simp [World.frozen?, hg2]
    clear hg2 hld
    go_wp2
    exact bodyPost_ret (v := .agg #[.int .u64 (andI h1 h2), .int .u64 (andI l1 l2)]) (by simp [results, Tryz.results92, go_sem, k0, k1]) rfl ⟨rfl, (hB2.out.setCell (by show w.heap.size ≤ w.heap.size + 2; omega) _).setCell (by show w.heap.size ≤ w.heap.size + 2; omega) _⟩
end Go.Proofs.YtmfpbahifhndjaaGreat
/-! Layer 10: which patterns may be, the document's. -/
set_option linter.all false
namespace Go.Proofs.YtmfpbahifhndjaaGreat
open Go.RowKit
set_option maxRecDepth 100000 in
set_option maxHeartbeats 4000000 in
theorem rmayPat_any (x : Pt) (y : Int) (w : World) (hx : u64 x.vh ∧ u64 x.vl ∧ u64 x.mh ∧ u64 x.ml) : Calls Tryz.prog 73 #[.agg #[.int .u64 x.vh, .int .u64 x.vl, .int .u64 x.mh, .int .u64 x.ml], .int .i64 y] w fun e w' => e = .returned (.bool (patB x y)) ∧ Below w.heap.size w w' := by
 obtain ⟨vh, vl, mh, ml⟩ := x
 simp only at hx ⊢
 obtain ⟨wa, hwa, hsa, hba, hca, -⟩ := box1 w #[.int .u64 vh, .int .u64 vl, .int .u64 mh, .int .u64 ml] 125
 have x0 : wa.cell? ⟨w.heap.size, 0, none⟩ = some (.int .u64 vh) := hca 0
 have x1 : wa.cell? ⟨w.heap.size, 1, none⟩ = some (.int .u64 vl) := hca 1
 have x2 : wa.cell? ⟨w.heap.size, 2, none⟩ = some (.int .u64 mh) := hca 2
 have x3 : wa.cell? ⟨w.heap.size, 3, none⟩ = some (.int .u64 ml) := hca 3
 have hlt : w.heap.size < wa.heap.size := by omega
 have hF : ∀ d os, Hid (Calls Tryz.prog 48 #[.agg #[.int .u64 vh, .int .u64 vl], .int .i64 y] (Go.Sort.grow (redrawn wa d) os) _) := fun d os => hide (fits01_all vh vl y _ ⟨hx.1, hx.2.1⟩)
 have hH : ∀ d os, Hid (Calls Tryz.prog 48 #[.agg #[.int .u64 mh, .int .u64 ml], .int .i64 y] (Go.Sort.grow (redrawn wa d) os) _) := fun d os => hide (fits01_all mh ml y _ ⟨hx.2.2.1, hx.2.2.2⟩)
 have hA : ∀ d os, Hid (Calls Tryz.prog 92 #[.agg #[.int .u64 vh, .int .u64 vl], .agg #[.int .u64 mh, .int .u64 ml]] (Go.Sort.grow (redrawn wa d) os) _) := fun d os => hide (and01_any vh vl mh ml _ hx.1 hx.2.1 hx.2.2.1 hx.2.2.2)
 have hv := hide (show patB ⟨vh, vl, mh, ml⟩ y = (fitN y vh vl && fitN y mh ml && (decide (andI vh mh = vh) && decide (andI vl ml = vl))) from rfl)
 have hg := gcell' (show Below wa.heap.size wa wa from Below.refl _ _) (Nat.le_refl _)
 have hfin := hide (fun w1 (h : Below wa.heap.size wa w1) => hba.trans (h.mono (show w.heap.size ≤ wa.heap.size by omega)))
 replace hsa := hide hsa
 clear hca hba hx
 generalize fitN y vh vl = F at hF hv
 generalize fitN y mh ml = H at hH hv
 generalize andI vh mh = a at hA hv
 generalize andI vl ml = b at hA hv
 cases F with
 | false =>
  rw [Bool.false_and, Bool.false_and] at hv
  go_enter Tryz.func73, Tryz.ntmps73
  go_wp2_with fail
  refine wp_region_quiet_below (by kernel_rfl) (by kernel_rfl) ?_
  repeat (any_goals (first | go_big_quiet_step ((go_at_call 48; with_reducible exact Calls.regrown_of (hF _ _).out)) | quiet_step ((go_at_call 48; with_reducible exact Calls.regrown_of (hF _ _).out))))
  refine wpQuiet_nil ?_
  intro w1 hw1
  replace hw1 := below_of_regrown hw1
  go_wp2
  go_ret
  exact ⟨ret_b hv.out.symm, hfin.out _ hw1⟩
 | true =>
  cases H with
  | false =>
   rw [Bool.true_and, Bool.false_and] at hv
   go_enter Tryz.func73, Tryz.ntmps73
   go_wp2_with fail
   refine wp_region_quiet_below (by kernel_rfl) (by kernel_rfl) ?_
   repeat (any_goals (first | go_big_quiet_step (first | (go_at_call 48; with_reducible exact Calls.regrown_of (hF _ _).out) | (go_at_call 48; with_reducible exact Calls.regrown_of (hH _ _).out)) | quiet_step (first | (go_at_call 48; with_reducible exact Calls.regrown_of (hF _ _).out) | (go_at_call 48; with_reducible exact Calls.regrown_of (hH _ _).out))))
   refine wpQuiet_nil ?_
   intro w1 hw1
   replace hw1 := below_of_regrown hw1
   go_wp2
   go_ret
   exact ⟨ret_b hv.out.symm, hfin.out _ hw1⟩
  | true =>
   rw [Bool.true_and, Bool.true_and] at hv
   by_cases e1 : a = vh
   ·subst e1
    by_cases e2 : b = vl
    ·subst e2
     go_enter Tryz.func73, Tryz.ntmps73
     go_wp2_with fail
     refine wp_region_quiet_below (by kernel_rfl) (by kernel_rfl) ?_
     repeat (any_goals (first | go_big_quiet_step (first | (go_at_call 48; with_reducible exact Calls.regrown_of (hF _ _).out) | (go_at_call 48; with_reducible exact Calls.regrown_of (hH _ _).out) | (go_at_call 92; with_reducible exact Calls.regrown_of (hA _ _).out)) | quiet_step (first | (go_at_call 48; with_reducible exact Calls.regrown_of (hF _ _).out) | (go_at_call 48; with_reducible exact Calls.regrown_of (hH _ _).out) | (go_at_call 92; with_reducible exact Calls.regrown_of (hA _ _).out))))
     refine wpQuiet_nil ?_
     intro w1 hw1
     replace hw1 := below_of_regrown hw1
     go_wp2
     go_ret
     exact ⟨ret_b (by rw [hv.out]; simp), hfin.out _ hw1⟩
    ·have e3 : (b == vl) = false := beq_eq_false_iff_ne.2 e2
     replace e2 := hide e2
     go_enter Tryz.func73, Tryz.ntmps73
     go_wp2_with fail
     refine wp_region_quiet_below (by kernel_rfl) (by kernel_rfl) ?_
     repeat (any_goals (first | go_big_quiet_step (first | (go_at_call 48; with_reducible exact Calls.regrown_of (hF _ _).out) | (go_at_call 48; with_reducible exact Calls.regrown_of (hH _ _).out) | (go_at_call 92; with_reducible exact Calls.regrown_of (hA _ _).out)) | quiet_step (first | (go_at_call 48; with_reducible exact Calls.regrown_of (hF _ _).out) | (go_at_call 48; with_reducible exact Calls.regrown_of (hH _ _).out) | (go_at_call 92; with_reducible exact Calls.regrown_of (hA _ _).out))))
     refine wpQuiet_nil ?_
     intro w1 hw1
     replace hw1 := below_of_regrown hw1
     go_wp2
     go_ret
     exact ⟨ret_b (by rw [hv.out]; simp [e2.out]), hfin.out _ hw1⟩
   ·have e3 : (a == vh) = false := beq_eq_false_iff_ne.2 e1
    replace e1 := hide e1
    go_enter Tryz.func73, Tryz.ntmps73
    go_wp2_with fail
    refine wp_region_quiet_below (by kernel_rfl) (by kernel_rfl) ?_
    repeat (any_goals (first | go_big_quiet_step (first | (go_at_call 48; with_reducible exact Calls.regrown_of (hF _ _).out) | (go_at_call 48; with_reducible exact Calls.regrown_of (hH _ _).out) | (go_at_call 92; with_reducible exact Calls.regrown_of (hA _ _).out)) | quiet_step (first | (go_at_call 48; with_reducible exact Calls.regrown_of (hF _ _).out) | (go_at_call 48; with_reducible exact Calls.regrown_of (hH _ _).out) | (go_at_call 92; with_reducible exact Calls.regrown_of (hA _ _).out))))
    refine wpQuiet_nil ?_
    intro w1 hw1
    replace hw1 := below_of_regrown hw1
    go_wp2
    go_ret
    exact ⟨ret_b (by rw [hv.out]; simp [e1.out]), hfin.out _ hw1⟩
end Go.Proofs.YtmfpbahifhndjaaGreat

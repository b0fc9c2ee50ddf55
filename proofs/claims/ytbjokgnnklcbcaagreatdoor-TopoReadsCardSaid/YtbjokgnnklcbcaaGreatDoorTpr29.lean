import Derived.Test.YtbjokgnnklcbcaaGreatDoorTpr28
import Derived.Test.YtbjokgnnklcbcaaGreatDoorTpr09
import Derived.Test.YtbjokgnnklcbcaaGreatDoorTpr01
import Derived.Deep.RegionWith
set_option linter.all false
/-! The document's numbers: added. -/
namespace Go.Proofs.YtbjokgnnklcbcaaGreatDoor
open Go.RowKit
attribute [local go_sem ↓] load_eq store_eq
def addAct (x y z : Value) (n : Nat) (s5 s6 s8 s9 s10 s11 : Value) : Act :=
 { tmps := #[x, y, z, .pointer (some ⟨n, 0, none⟩), .pointer (some ⟨n + 1, 0, none⟩), undef, .pointer (some ⟨n + 2, 0, none⟩), s5, s6, undef, undef, undef, s8, s9, s10, s11, undef, undef, undef, undef, undef, undef, undef, undef, undef, undef, undef, undef, undef, undef, undef, undef, undef, undef, undef, undef, undef, undef, undef, undef, undef, undef, undef, undef, undef, undef, undef, undef, undef, undef, undef, undef, undef, undef, undef, undef, undef, undef, undef, undef], defers := [] }
def AddInv (x y z : Value) (ra rb : Array Value) (n : Nat) (wb : World) (l : Array Bool) (a : Act) (w : World) : Prop :=
 ∃ l0 l1 l2 l3 l4 l5 l6 l7 s5 s6 s8 s9 s10 s11 g5 g6, l = #[l0, l1, l2, l3, l4, l5, l6, l7] ∧ a = addAct x y z n s5 s6 s8 s9 s10 s11 ∧ CmpL x y ra rb n wb l0 l1 l2 l3 l4 l5 l6 l7 s5 s6 s8 s9 s10 s11 g5 g6 w
/-- What is carried ahead of a bit. -/
def cyB (A B k : Nat) : Bool := BitVec.carry k (BitVec.ofNat 128 A) (BitVec.ofNat 128 B) false
theorem cyB_zero (A B : Nat) : cyB A B 0 = false := BitVec.carry_zero
theorem cyB_succ (A B : Nat) {k : Nat} (hk : k < 128) : cyB A B (k + 1) = (A.testBit k && B.testBit k || A.testBit k && cyB A B k || B.testBit k && cyB A B k) := by
 unfold cyB
 rw [BitVec.carry_succ, BitVec.getLsbD_ofNat, BitVec.getLsbD_ofNat, decide_eq_true hk, Bool.true_and, Bool.true_and]
theorem add_bit (A B : Nat) {k : Nat} (hk : k < 128) : (A + B).testBit k = ((A.testBit k != B.testBit k) != cyB A B k) := by
 have h := BitVec.getLsbD_add hk (BitVec.ofNat 128 A) (BitVec.ofNat 128 B)
 rw [BitVec.add_def, BitVec.getLsbD_ofNat, BitVec.getLsbD_ofNat, BitVec.getLsbD_ofNat, decide_eq_true hk, Bool.true_and, Bool.true_and, Bool.true_and] at h
 have e : ((BitVec.ofNat 128 A).toNat + (BitVec.ofNat 128 B).toNat).testBit k = (A + B).testBit k := by
  have h1 := BitVec.getLsbD_ofNat 128 ((BitVec.ofNat 128 A).toNat + (BitVec.ofNat 128 B).toNat) k
  have h2 := BitVec.getLsbD_ofNat 128 (A + B) k
  rw [decide_eq_true hk, Bool.true_and] at h1 h2
  rw [← h1, ← h2]
  congr 1
  apply BitVec.eq_of_toNat_eq
  simp
 rw [e, show BitVec.carry k (BitVec.ofNat 128 A) (BitVec.ofNat 128 B) false = cyB A B k from rfl] at h
 rw [h]
 cases A.testBit k <;> cases B.testBit k <;> cases cyB A B k <;> rfl
def addV (A B k j : Nat) : Value := .bool (if j < k then (A + B).testBit j else A.testBit j)
def addC (A B k : Nat) : Array Value := ((List.range 128).map (addV A B k)).toArray
theorem addC_get (A B k j : Nat) (hj : j < 128) : (addC A B k)[j]? = some (addV A B k j) := by simp [addC, hj]
theorem addC_size (A B k : Nat) : (addC A B k).size = 128 := by simp [addC]
theorem addC_succ (A B : Nat) {k : Nat} (hk : k < 128) : (addC A B k).setIfInBounds k (.bool ((A + B).testBit k)) = addC A B (k + 1) :=
 row_ext (by simp [addC_size]) (addC_size _ _ _) fun j hj => by
  rw [Array.getElem?_setIfInBounds, addC_get _ _ _ _ hj, addC_get _ _ _ _ hj]
  simp only [addC_size]
  by_cases h : k = j
  ·subst h
   simp [addV, hk]
  ·rw [if_neg h]
   by_cases h1 : j < k
   ·have h2 : j < k + 1 := by omega
    simp [addV, h1, h2]
   ·have h2 : ¬ j < k + 1 := by omega
    simp [addV, h1, h2]
theorem rowC_nat (H L : Nat) (hL : L < 2 ^ 64) {j : Nat} (hj : j < 128) : (rowC H L 64)[j]? = some (.bool ((2 ^ 64 * H + L).testBit j)) := by
 rw [rowC_bt _ _ hj, btI_nat H L j hL]
theorem addC_zero (H L B : Nat) (hL : L < 2 ^ 64) : addC (2 ^ 64 * H + L) B 0 = rowC H L 64 := row_ext (addC_size _ _ _) (rowC_size _ _ _) fun j hj => by
 rw [addC_get _ _ _ _ hj, rowC_nat H L hL hj]
 simp [addV]
theorem addC_end (A B : Nat) : addC A B 128 = rowC (((A + B) / 2 ^ 64 % 2 ^ 64 : Nat) : Int) (((A + B) % 2 ^ 64 : Nat) : Int) 64 := row_ext (addC_size _ _ _) (rowC_size _ _ _) fun j hj => by
 rw [addC_get _ _ _ _ hj, rowC_nat _ _ (Nat.mod_lt _ (by decide)) hj]
 have e : 2 ^ 64 * ((A + B) / 2 ^ 64 % 2 ^ 64) + (A + B) % 2 ^ 64 = (A + B) % 2 ^ 128 := by omega
 rw [e, Nat.testBit_mod_two_pow]
 simp [addV, hj]
theorem heap_setCell_row {W : World} {g k : Nat} {C : Array Value} {t : TypeId} (v : Value) (h : W.heap[g]? = some (.cells C t (0, 0))) : (W.setCell ⟨g, k, none⟩ v).heap[g]? = some (.cells (C.setIfInBounds k v) t (0, 0)) := by
 have hlt := heap_lt h
 have hg : W.heap[g] = .cells C t (0, 0) := by
  have := Array.getElem?_eq_getElem hlt
  rw [h] at this
  injection this with this
  exact this.symm
 simp [World.setCell, Array.modify, Array.modifyM, hlt, hg]
set_option maxRecDepth 100000 in
set_option maxHeartbeats 1000000 in
theorem add01_of (H1 L1 H2 L2 n : Nat) (z : Int) (w : World) (u1 : H1 < 2 ^ 64) (u2 : L1 < 2 ^ 64) (u3 : H2 < 2 ^ 64) (u4 : L2 < 2 ^ 64) (hz : ∀ k : Nat, k < 128 → ((k : Int) < z ↔ k < n)) : Calls Tryz.prog 167 #[.agg #[.int .u64 H1, .int .u64 L1], .agg #[.int .u64 H2, .int .u64 L2], .int .i64 z] w fun e w' => e = .returned (.agg #[.int .u64 (cutH ((2 ^ 64 * H1 + L1 + (2 ^ 64 * H2 + L2)) / 2 ^ 64 % 2 ^ 64 : Nat) n), .int .u64 (cutL ((2 ^ 64 * H1 + L1 + (2 ^ 64 * H2 + L2)) % 2 ^ 64 : Nat) n)]) ∧ Below w.heap.size w w' := by
 have v1 : u64 (H1 : Int) := ⟨by omega, by omega⟩
 have v2 : u64 (L1 : Int) := ⟨by omega, by omega⟩
 have v3 : u64 (H2 : Int) := ⟨by omega, by omega⟩
 have v4 : u64 (L2 : Int) := ⟨by omega, by omega⟩
 have hBa := hide (fun W => bits01_any H1 L1 W v1 v2)
 have hBb := hide (fun W => bits01_any H2 L2 W v3 v4)
 obtain ⟨T, hT⟩ : ∃ T, T = 2 ^ 64 * H1 + L1 + (2 ^ 64 * H2 + L2) := ⟨_, rfl⟩
 obtain ⟨X, hX⟩ : ∃ X, X = 2 ^ 64 * H1 + L1 := ⟨_, rfl⟩
 obtain ⟨Y, hY⟩ : ∃ Y, Y = 2 ^ 64 * H2 + L2 := ⟨_, rfl⟩
 have hTX : T = X + Y := by omega
 rw [← hT]
 have w1 : u64 ((T / 2 ^ 64 % 2 ^ 64 : Nat) : Int) := ⟨by omega, by omega⟩
 have w2 : u64 ((T % 2 ^ 64 : Nat) : Int) := ⟨by omega, by omega⟩
 obtain ⟨hiT, hhiT⟩ : ∃ hiT, hiT = ((T / 2 ^ 64 % 2 ^ 64 : Nat) : Int) := ⟨_, rfl⟩
 obtain ⟨loT, hloT⟩ : ∃ loT, loT = ((T % 2 ^ 64 : Nat) : Int) := ⟨_, rfl⟩
 have hend := hide (addC_end X Y)
 rw [← hTX, ← hhiT, ← hloT] at hend
 rw [← hhiT] at w1 ⊢
 rw [← hloT] at w2 ⊢
 have hN := hide (fun W => num01_any hiT loT W w1 w2)
 have hC := hide (fun W => cut01_of hiT loT z n W w1 w2 hz)
 have hz0 := addC_zero H1 L1 Y u2
 rw [← hX] at hz0
 have hb6 := hide (fun t (ht : t < 128) => show (rowC (H2 : Int) (L2 : Int) 64)[t]? = some (.bool (Y.testBit t)) from by rw [hY]; exact rowC_nat H2 L2 u4 ht)
 clear hX hY hT hTX hhiT hloT w1 w2 u1 u2 u3 u4 hz
 obtain ⟨wa, hwa, hsa, hba, hca, -⟩ := box1 w #[.int .u64 (H1 : Int), .int .u64 (L1 : Int)] 62
 obtain ⟨wb0, hwb0, hsb0, hbb0, hcb0, -⟩ := box1 wa #[.int .u64 (H2 : Int), .int .u64 (L2 : Int)] 62
 obtain ⟨wb, hwb, hsb, hbb, hcb, hfb⟩ := box1 wb0 #[.int .u64 0, .int .u64 0] 62
 have y0 : wb.cell? ⟨w.heap.size, 0, none⟩ = some (.int .u64 H1) := (hbb.cell (p := ⟨w.heap.size, 0, none⟩) (by show w.heap.size < _; omega)).trans ((hbb0.cell (p := ⟨w.heap.size, 0, none⟩) (by show w.heap.size < _; omega)).trans (hca 0))
 have y1 : wb.cell? ⟨w.heap.size, 1, none⟩ = some (.int .u64 L1) := (hbb.cell (p := ⟨w.heap.size, 1, none⟩) (by show w.heap.size < _; omega)).trans ((hbb0.cell (p := ⟨w.heap.size, 1, none⟩) (by show w.heap.size < _; omega)).trans (hca 1))
 have y2 : wb.cell? ⟨w.heap.size + 1, 0, none⟩ = some (.int .u64 H2) := (hbb.cell (p := ⟨w.heap.size + 1, 0, none⟩) (by show w.heap.size + 1 < _; omega)).trans (by rw [← hsa]; exact hcb0 0)
 have y3 : wb.cell? ⟨w.heap.size + 1, 1, none⟩ = some (.int .u64 L2) := (hbb.cell (p := ⟨w.heap.size + 1, 1, none⟩) (by show w.heap.size + 1 < _; omega)).trans (by rw [← hsa]; exact hcb0 1)
 have hs2 : wb0.heap.size = w.heap.size + 2 := by omega
 have z0 : wb.cell? ⟨w.heap.size + 2, 0, none⟩ = some (.int .u64 0) := by rw [← hs2]; exact hcb 0
 have z1 : wb.cell? ⟨w.heap.size + 2, 1, none⟩ = some (.int .u64 0) := by rw [← hs2]; exact hcb 1
 have f0 : ∀ i, wb.frozen? ⟨w.heap.size + 2, i, none⟩ = false := by rw [← hs2]; exact hfb
 have hbw := hide (hba.trans ((hbb0.trans (hbb.mono (by omega))).mono (by omega)))
 have hzb : w.heap.size + 2 < wb.heap.size := by omega
 clear hca hcb0 hcb hba hbb0 hbb hfb
 go_enter Tryz.func167, Tryz.ntmps167
 go_upto_region 1 with (fail)
 go_cut [7, 8, 12, 13, 14, 15] (fun s5 s6 s8 s9 s10 s11 wx => ∃ g5 g6 : Nat, s5 = .pointer (some ⟨g5, 0, none⟩) ∧ s6 = .pointer (some ⟨g6, 0, none⟩) ∧ g5 ≠ g6 ∧ wb.heap.size ≤ g5 ∧ Hid (wx.heap[g5]? = some (.cells (rowC H1 L1 64) 193 (0, 0))) ∧ Hid (wx.heap[g6]? = some (.cells (rowC H2 L2 64) 193 (0, 0))) ∧ Hid (Below wb.heap.size wb wx))
 case first =>
  refine wp_region_any (by kernel_rfl) ?_
  refine wpAny_inv (AddInv (.agg #[.int .u64 H1, .int .u64 L1]) (.agg #[.int .u64 H2, .int .u64 L2]) (.int .i64 z) (rowC H1 L1 64) (rowC H2 L2 64) w.heap.size wb) ?_ ?_ _ _ _ _ (by simp) (by decide) ?_
  ·intro l a w1 i hs hi hI
   obtain ⟨l0, l1', l2', l3, l4, l5, l6, l7, s5, s6, s8, s9, s10, s11, g5, g6, rfl, rfl, hI⟩ := hI
   have hw0 : ((i == 0) || ((i == 1) && l0) || (i == 2) || ((i == 3) && l1' && l2') || ((i == 4) && !l4) || ((i == 5) && !l5) || ((i == 6) && l4 && l1' && !l6) || ((i == 7) && l5 && l3 && !l7)) = true := by
    refine (List.all_eq_true (p := fun i => ((i == 0) || ((i == 1) && l0) || (i == 2) || ((i == 3) && l1' && l2') || ((i == 4) && !l4) || ((i == 5) && !l5) || ((i == 6) && l4 && l1' && !l6) || ((i == 7) && l5 && l3 && !l7)))).1 ?_ i hi
    clear hs hI hi
    revert l0 l1' l2' l3 l4 l5 l6 l7
    decide +kernel
   have hw : (i = 0) ∨ (i = 1 ∧ l0 = true) ∨ (i = 2) ∨ (i = 3 ∧ l1' = true ∧ l2' = true) ∨ (i = 4 ∧ l4 = false) ∨ (i = 5 ∧ l5 = false) ∨ (i = 6 ∧ l4 = true ∧ l1' = true ∧ l6 = false) ∨ (i = 7 ∧ l5 = true ∧ l3 = true ∧ l7 = false) := by
    simpa [or_assoc, and_assoc] using hw0
   clear hw0
   clear hi hs
   have kb := bcell' hI.hb
   have hzw := hI.hb.size
   refine wpOp_k fun K hK => ?_
   replace hK := hide hK
   replace hI := hide hI
   rcases hw with rfl | ⟨rfl, q⟩ | rfl | ⟨rfl, q, q'⟩ | ⟨rfl, q⟩ | ⟨rfl, q⟩ | ⟨rfl, q, q', q''⟩ | ⟨rfl, q, q', q''⟩
   ·skip
    unfold wpOp addAct
    simp only [List.getElem?_toArray, List.getElem?_cons_zero, List.getElem?_cons_succ]
    rw [if_pos (by rfl)]
    refine Or.inl ?_
    go_wp2
    exact hK.out _ _ ⟨true, l1', l2', l3, l4, l5, l6, l7, s5, s6, _, s9, s10, s11, g5, g6, rfl, rfl, { hI.out with i0 := fun _ => rfl }⟩
   ·obtain rfl := hI.out.i0 q
    unfold wpOp addAct
    simp only [List.getElem?_toArray, List.getElem?_cons_zero, List.getElem?_cons_succ]
    rw [if_pos (by rfl)]
    refine Or.inl ?_
    go_wp2_with fail
    refine (hBa.out _).mono ?_
    rintro e w2 ⟨rfl, hb2⟩
    exact hK.out _ _ ⟨l0, true, l2', l3, l4, l5, l6, l7, s5, s6, _, _, s10, s11, g5, g6, rfl, rfl, { hI.out.mono hb2 with i1 := fun _ => rfl }⟩
   ·skip
    unfold wpOp addAct
    simp only [List.getElem?_toArray, List.getElem?_cons_zero, List.getElem?_cons_succ]
    rw [if_pos (by rfl)]
    refine Or.inl ?_
    go_wp2
    exact hK.out _ _ ⟨l0, l1', true, l3, l4, l5, l6, l7, s5, s6, s8, s9, _, s11, g5, g6, rfl, rfl, { hI.out with i2 := fun _ => rfl }⟩
   ·obtain rfl := hI.out.i2 q'
    unfold wpOp addAct
    simp only [List.getElem?_toArray, List.getElem?_cons_zero, List.getElem?_cons_succ]
    rw [if_pos (by rfl)]
    refine Or.inl ?_
    go_wp2_with fail
    refine (hBb.out _).mono ?_
    rintro e w2 ⟨rfl, hb2⟩
    exact hK.out _ _ ⟨l0, l1', l2', true, l4, l5, l6, l7, s5, s6, s8, s9, _, _, g5, g6, rfl, rfl, { hI.out.mono hb2 with i3 := fun _ => rfl }⟩
   ·skip
    unfold wpOp addAct
    simp only [List.getElem?_toArray, List.getElem?_cons_zero, List.getElem?_cons_succ]
    rw [if_pos (by rfl)]
    refine Or.inl ?_
    go_wp2
    have hb2 : Below w1.heap.size w1 (w1.alloc (.cells Tryz.zeroCells193 193)) := (Below.refl _ _).alloc (Nat.le_refl _) _
    have h6 : l6 = false := by
     cases h : l6 with
     | false => rfl
     | true => have := hI.out.i7 h; rw [q] at this; cases this
    refine hK.out _ _ ⟨l0, l1', l2', l3, true, l5, l6, l7, _, s6, s8, s9, s10, s11, w1.heap.size, g6, rfl, rfl, { hI.out.mono hb2 with i4 := fun _ => ⟨rfl, hzw, ?_⟩, i6 := fun _ h5 => ?_, i7 := fun _ => rfl }⟩
    ·rw [h6]; exact heap_alloc_last w1 _
    ·have := heap_lt (hI.out.i5 h5).2.2; omega
   ·skip
    unfold wpOp addAct
    simp only [List.getElem?_toArray, List.getElem?_cons_zero, List.getElem?_cons_succ]
    rw [if_pos (by rfl)]
    refine Or.inl ?_
    go_wp2
    have hb2 : Below w1.heap.size w1 (w1.alloc (.cells Tryz.zeroCells193 193)) := (Below.refl _ _).alloc (Nat.le_refl _) _
    have h7 : l7 = false := by
     cases h : l7 with
     | false => rfl
     | true => have := hI.out.i8 h; rw [q] at this; cases this
    refine hK.out _ _ ⟨l0, l1', l2', l3, l4, true, l6, l7, s5, _, s8, s9, s10, s11, g5, w1.heap.size, rfl, rfl, { hI.out.mono hb2 with i5 := fun _ => ⟨rfl, hzw, ?_⟩, i6 := fun h4 _ => ?_, i8 := fun _ => rfl }⟩
    ·rw [h7]; exact heap_alloc_last w1 _
    ·have := heap_lt (hI.out.i4 h4).2.2; omega
   ·obtain ⟨rfl, hg, hh⟩ := hI.out.i4 q
    obtain rfl := hI.out.i1 q'
    rw [q''] at hh
    have hst := storeG_run hh rfl (rowC_size _ _ _) (rowC_one H1 L1 64)
    have hat := setRow_at (C' := rowC H1 L1 64) hh
    unfold wpOp addAct
    simp only [List.getElem?_toArray, List.getElem?_cons_zero, List.getElem?_cons_succ]
    rw [if_pos (by rfl)]
    refine Or.inl ?_
    go_wp2
    refine hK.out _ _ ⟨l0, l1', l2', l3, l4, l5, true, l7, _, s6, s8, _, s10, s11, g5, g6, rfl, rfl, { hI.out with hb := below_setRow hI.out.hb hg _, i4 := fun _ => ⟨rfl, hg, hat⟩, i5 := fun h5 => ⟨(hI.out.i5 h5).1, (hI.out.i5 h5).2.1, ?_⟩, i7 := fun _ => q }⟩
    rw [setRow_far (Ne.symm (hI.out.i6 q h5))]
    exact (hI.out.i5 h5).2.2
   ·obtain ⟨rfl, hg, hh⟩ := hI.out.i5 q
    obtain rfl := hI.out.i3 q'
    rw [q''] at hh
    have hst := storeG_run hh rfl (rowC_size _ _ _) (rowC_one H2 L2 64)
    have hat := setRow_at (C' := rowC H2 L2 64) hh
    unfold wpOp addAct
    simp only [List.getElem?_toArray, List.getElem?_cons_zero, List.getElem?_cons_succ]
    rw [if_pos (by rfl)]
    refine Or.inl ?_
    go_wp2
    refine hK.out _ _ ⟨l0, l1', l2', l3, l4, l5, l6, true, s5, _, s8, s9, s10, _, g5, g6, rfl, rfl, { hI.out with hb := below_setRow hI.out.hb hg _, i5 := fun _ => ⟨rfl, hg, hat⟩, i4 := fun h4 => ⟨(hI.out.i4 h4).1, (hI.out.i4 h4).2.1, ?_⟩, i8 := fun _ => q }⟩
    rw [setRow_far (hI.out.i6 h4 q)]
    exact (hI.out.i4 h4).2.2
  ·intro l a w1 hs hr hI
   obtain ⟨l0, l1', l2', l3, l4, l5, l6, l7, s5, s6, s8, s9, s10, s11, g5, g6, rfl, rfl, hI⟩ := hI
   have hw : l4 = true ∧ l5 = true ∧ l6 = true ∧ l7 = true := by
    have hq : (l4 && l5 && l6 && l7) = true := by
     refine ready_nil hr ?_
     clear hs hI hr
     revert l0 l1' l2' l3 l4 l5 l6 l7
     decide +kernel
    simpa [and_assoc] using hq
   obtain ⟨rfl, rfl, rfl, rfl⟩ := hw
   obtain ⟨rfl, hg5, hh5⟩ := hI.i4 rfl
   obtain ⟨rfl, hg6, hh6⟩ := hI.i5 rfl
   simp only [addAct]
   go_wp2
   go_meet
   exact ⟨g5, g6, rfl, rfl, hI.i6 rfl rfl, hg5, hide hh5, hide hh6, hide hI.hb⟩
  ·exact ⟨false, false, false, false, false, false, false, false, undef, undef, undef, undef, undef, undef, 0, 1, rfl, rfl, ⟨⟨rfl, rfl, rfl, Nat.le_refl _, fun _ _ => rfl⟩, nofun, nofun, nofun, nofun, nofun, nofun, nofun, nofun, nofun⟩⟩
 case rest =>
  obtain ⟨g5, g6, rfl, rfl, hne, hle5, hg5, hg6, hbx⟩ := hcut
  obtain ⟨wx, rfl⟩ : ∃ wx : World, wx = wc := ⟨_, rfl⟩
  rw [← hz0] at hg5
  clear hBa hBb y0 y1 y2 y3 hwa hwb0 hwb hsa hsb0 hsb hs2
  go_wp2
  go_loopw [9, 10] (fun c i wr => ∃ k : Nat, k ≤ 128 ∧ c = .bool (cyB X Y k) ∧ i = .int .i64 k ∧ Hid (wr.heap[g5]? = some (.cells (addC X Y k) 193 (0, 0))) ∧ Hid (wr.heap[g6]? = some (.cells (rowC H2 L2 64) 193 (0, 0))) ∧ Hid (Below wb.heap.size wb wr)) (fun _ i _ => 128 - (intOf i).toNat)
  case atStart => exact ⟨0, Nat.zero_le _, by rw [cyB_zero], rfl, hg5, hg6, hbx⟩
  case round =>
   obtain ⟨k, hk, rfl, rfl, h5, h6, hbr⟩ := hrel
   have hl5 := heap_lt h5.out
   have hl6 := heap_lt h6.out
   by_cases hlt : k < 128
   ·have hltz : (k : Int) < 128 := by omega
    have hgez : (0 : Int) ≤ (k : Int) := by omega
    have d5 : wr.cell? ⟨g5, k, none⟩ = some (.bool (X.testBit k)) := (heap_cells h5.out k).trans (by rw [addC_get _ _ _ _ hlt]; simp [addV])
    have d6 : wr.cell? ⟨g6, k, none⟩ = some (.bool (Y.testBit k)) := (heap_cells h6.out k).trans (hb6.out k hlt)
    have hfz : wr.frozen? ⟨g5, k, none⟩ = false := by simp [World.frozen?, h5.out]
    have hsum := add_bit X Y hlt
    have hcar := cyB_succ X Y hlt
    have hn5 : ∀ (m : Nat) v, v = .bool ((X + Y).testBit k) → Hid (((wr.drewN m).setCell ⟨g5, k, none⟩ v).heap[g5]? = some (.cells (addC X Y (k + 1)) 193 (0, 0))) := fun m v hv => by
     subst hv
     rw [← addC_succ X Y hlt]
     exact hide (heap_setCell_row _ (show (wr.drewN m).heap[g5]? = _ from h5.out))
    have hn6 : ∀ (m : Nat) v, Hid (((wr.drewN m).setCell ⟨g5, k, none⟩ v).heap[g6]? = some (.cells (rowC H2 L2 64) 193 (0, 0))) := fun m v => hide (by rw [Below.heap_setCell _ _ _ _ (show g6 ≠ g5 from fun h => hne h.symm)]; exact h6.out)
    have hnb : ∀ (m : Nat) v, Hid (Below wb.heap.size wb ((wr.drewN m).setCell ⟨g5, k, none⟩ v)) := fun m v => hide ((below_drewN hbr.out m).setCell (p := ⟨g5, k, none⟩) hle5 v)
    replace hn5 := hide hn5
    replace hn6 := hide hn6
    replace hnb := hide hnb
    clear h5 h6 hbr
    cases e1 : X.testBit k <;> cases e2 : Y.testBit k <;> cases e3 : cyB X Y k
    all_goals
     rw [e1, e2, e3] at hsum hcar
     rw [e1] at d5
     rw [e2] at d6
     replace hsum := hide hsum
     replace hcar := hide hcar
     clear e1 e2 e3
     go_wp2_with fail
     go_quiet (fail)
     go_wp2
     go_roundw
     case rel => exact ⟨k + 1, by omega, by rw [hcar.out]; rfl, by go_num, hn5.out _ _ (by rw [hsum.out]; rfl), hn6.out _ _, hnb.out _ _⟩
     case measure => simp [intOf]; omega
   ·obtain rfl : k = 128 := by omega
    rw [hend.out] at h5
    have hld := loadG_run h5.out (rowC_size _ _ _)
    have hzr := hbr.out.size
    go_wp2_with fail
    refine (hN.out _).mono ?_
    rintro e w2 ⟨rfl, hb2⟩
    have hz2 := hb2.size
    go_wp2_with fail
    refine (hC.out _).mono ?_
    rintro e w3 ⟨rfl, hb3⟩
    have hz3 := hb3.size
    have hb23 := hb2.trans (hb3.mono hz2)
    have k0 : w3.cell? ⟨w.heap.size + 2, 0, none⟩ = some (.int .u64 0) := (hb23.cell (p := ⟨w.heap.size + 2, 0, none⟩) (by show w.heap.size + 2 < _; omega)).trans ((hbr.out.cell (p := ⟨w.heap.size + 2, 0, none⟩) hzb).trans z0)
    have k1 : w3.cell? ⟨w.heap.size + 2, 1, none⟩ = some (.int .u64 0) := (hb23.cell (p := ⟨w.heap.size + 2, 1, none⟩) (by show w.heap.size + 2 < _; omega)).trans ((hbr.out.cell (p := ⟨w.heap.size + 2, 1, none⟩) hzb).trans z1)
    have g0 : w3.frozen? ⟨w.heap.size + 2, 0, none⟩ = false := (hb23.frozen (p := ⟨w.heap.size + 2, 0, none⟩) (by show w.heap.size + 2 < _; omega)).trans ((hbr.out.frozen (p := ⟨w.heap.size + 2, 0, none⟩) hzb).trans (f0 0))
    have g1 : w3.frozen? ⟨w.heap.size + 2, 1, none⟩ = false := (hb23.frozen (p := ⟨w.heap.size + 2, 1, none⟩) (by show w.heap.size + 2 < _; omega)).trans ((hbr.out.frozen (p := ⟨w.heap.size + 2, 1, none⟩) hzb).trans (f0 1))
    have hB3 := hide (hbw.out.trans ((hbr.out.trans (hb23.mono (by omega))).mono (by omega)))
    clear hb2 hb3 hb23 hld h5 h6 hbr
    go_wp2
    exact bodyPost_ret (v := .agg #[.int .u64 (cutH hiT n), .int .u64 (cutL loT n)]) (by simp [results, Tryz.results167, go_sem, k0, k1]) rfl ⟨rfl, (hB3.out.setCell (by show w.heap.size ≤ w.heap.size + 2; omega) _).setCell (by show w.heap.size ≤ w.heap.size + 2; omega) _⟩
theorem cutH_all {x : Int} (h : u64 x) : cutH x 128 = x := Int.emod_eq_of_lt h.1 h.2
theorem cutL_all {x : Int} (h : u64 x) : cutL x 128 = x := Int.emod_eq_of_lt h.1 h.2
/-- A number of 128 bits in its two halves. -/
abbrev n128 (T : Nat) : Value := .agg #[.int .u64 ((T / 18446744073709551616 : Nat) : Int), .int .u64 ((T % 18446744073709551616 : Nat) : Int)]
theorem add01_any (X Y : Nat) (w : World) (hX : X < two128) (hY : Y < two128) : Calls Tryz.prog 167 #[n128 X, n128 Y, .int .i64 128] w fun e w' => e = .returned (n128 ((X + Y) % two128)) ∧ Below w.heap.size w w' := by
 have h := add01_of (X / 18446744073709551616) (X % 18446744073709551616) (Y / 18446744073709551616) (Y % 18446744073709551616) 128 128 w (by unfold two128 at hX; omega) (by omega) (by unfold two128 at hY; omega) (by omega) (fun k hk => by omega)
 rw [cutH_all ⟨by omega, by omega⟩, cutL_all ⟨by omega, by omega⟩] at h
 have e : 2 ^ 64 * (X / 18446744073709551616) + X % 18446744073709551616 + (2 ^ 64 * (Y / 18446744073709551616) + Y % 18446744073709551616) = X + Y := by omega
 rw [e] at h
 have e1 : (X + Y) % two128 / 18446744073709551616 = (X + Y) / 2 ^ 64 % 2 ^ 64 := by unfold two128; omega
 have e2 : (X + Y) % two128 % 18446744073709551616 = (X + Y) % 2 ^ 64 := by unfold two128; omega
 unfold n128
 rw [e1, e2]
 exact h
end Go.Proofs.YtbjokgnnklcbcaaGreatDoor
/-! The document's numbers: of digits. -/
namespace Go.Proofs.YtbjokgnnklcbcaaGreatDoor
open Go.RowKit
/-- A digit of a base; 99: it is none. -/
def digR (hex : Bool) (c : Int) : Int := if 48 ≤ c ∧ c ≤ 57 then c - 48 else if hex then (if 97 ≤ c ∧ c ≤ 102 then c - 87 else if 65 ≤ c ∧ c ≤ 70 then c - 55 else 99) else 99
set_option maxHeartbeats 2000000 in
theorem digit01_any (hex : Bool) (c : Int) (w : World) (h0 : 0 ≤ c) (h1 : c < 256) : Calls Tryz.prog 127 #[.int .u8 c, .int .u64 (baseN hex : Int)] w fun e w' => e = .returned (.int .u64 (digR hex c)) ∧ w' = w := by
 obtain ⟨d, hd⟩ : ∃ d, d = digR hex c := ⟨_, rfl⟩
 rw [← hd]
 unfold digR at hd
 replace hd := hide hd
 cases hex
 all_goals
  go_enter Tryz.func127, Tryz.ntmps127
  go_wp2
  all_goals
   go_ret
   exact ⟨congrArg (fun x => Ending.returned (.int .u64 x)) (by
    have hq := hd.out
    simp only [baseN, if_true, Bool.false_eq_true, if_false] at *
    (repeat' split at hq) <;> omega), rfl⟩
set_option maxHeartbeats 400000 in
theorem of01_any (n : Int) (w : World) : Calls Tryz.prog 128 #[.int .u64 n] w fun e w' => e = .returned (.agg #[.int .u64 0, .int .u64 n]) ∧ Below w.heap.size w w' := by
 obtain ⟨wa, hwa, hsa, hba, hca, hfa⟩ := box1 w #[.int .u64 0, .int .u64 0] 62
 have z0 : wa.cell? ⟨w.heap.size, 0, none⟩ = some (.int .u64 0) := hca 0
 have z1 : wa.cell? ⟨w.heap.size, 1, none⟩ = some (.int .u64 0) := hca 1
 have f0 := hfa 0
 have f1 := hfa 1
 have hlt : w.heap.size < wa.heap.size := by omega
 replace hsa := hide hsa
 go_enter Tryz.func128, Tryz.ntmps128
 go_wp2
 exact bodyPost_ret (v := .agg #[.int .u64 0, .int .u64 n]) (by simp [results, Tryz.results128, go_sem, z0, z1]) rfl ⟨rfl, (hba.setCell (Nat.le_refl _) _).setCell (Nat.le_refl _) _⟩
set_option maxHeartbeats 2000000 in
theorem sum01_any (X Y : Nat) (w : World) (hX : X < two128) (hY : Y < two128) : Calls Tryz.prog 129 #[n128 X, n128 Y] w fun e w' => e = .returned (.tuple #[n128 ((X + Y) % two128), .bool (decide (two128 ≤ X + Y))]) ∧ Below w.heap.size w w' := by
 have hA := hide (fun W => add01_any X Y W hX hY)
 have hZ : (X + Y) % two128 < two128 := Nat.mod_lt _ (by decide)
 have hlt : decide (two128 ≤ X + Y) = decide ((X + Y) % two128 < X) := by
  unfold two128 at *
  rw [decide_eq_decide]; omega
 rw [hlt]
 obtain ⟨Z, hZe⟩ : ∃ Z, Z = (X + Y) % two128 := ⟨_, rfl⟩
 rw [← hZe] at hA hZ ⊢
 have hC0 := hide (fun W => cmp01_any ((Z / 18446744073709551616 : Nat) : Int) ((Z % 18446744073709551616 : Nat) : Int) ((X / 18446744073709551616 : Nat) : Int) ((X % 18446744073709551616 : Nat) : Int) W ⟨by omega, by unfold two128 at hZ; omega⟩ ⟨by omega, by omega⟩ ⟨by omega, by unfold two128 at hX; omega⟩ ⟨by omega, by omega⟩)
 have e1 : ((Z / 18446744073709551616 : Nat) : Int) * 18446744073709551616 + ((Z % 18446744073709551616 : Nat) : Int) = (Z : Int) := by omega
 have e2 : ((X / 18446744073709551616 : Nat) : Int) * 18446744073709551616 + ((X % 18446744073709551616 : Nat) : Int) = (X : Int) := by omega
 rw [e1, e2] at hC0
 clear e1 e2 hX hY hlt
 obtain ⟨zh, hzh⟩ : ∃ zh, zh = ((Z / 18446744073709551616 : Nat) : Int) := ⟨_, rfl⟩
 obtain ⟨zl, hzl⟩ : ∃ zl, zl = ((Z % 18446744073709551616 : Nat) : Int) := ⟨_, rfl⟩
 unfold n128 at hA ⊢
 rw [← hzh, ← hzl] at hA hC0 ⊢
 have hlt : decide (Z < X) = decide (cmpN (Z : Int) (X : Int) < 0) := by
  rw [decide_eq_decide]
  unfold cmpN
  split
  ·omega
  ·split <;> omega
 rw [hlt]
 generalize cmpN (Z : Int) (X : Int) = cm at hC0
 clear hlt hzh hzl hZe hZ
 generalize ((X / 18446744073709551616 : Nat) : Int) = xh at hA hC0
 generalize ((X % 18446744073709551616 : Nat) : Int) = xl at hA hC0
 generalize ((Y / 18446744073709551616 : Nat) : Int) = yh at hA
 generalize ((Y % 18446744073709551616 : Nat) : Int) = yl at hA
 obtain ⟨wa, hwa, hsa, hba, hca, -⟩ := box1 w #[.int .u64 xh, .int .u64 xl] 62
 obtain ⟨wb0, hwb0, hsb0, hbb0, hcb0, -⟩ := box1 wa #[.int .u64 yh, .int .u64 yl] 62
 obtain ⟨wb, hwb, hsb, hbb, hcb, hfb⟩ := box1 wb0 #[.int .u64 0, .int .u64 0] 62
 have y0 : wb.cell? ⟨w.heap.size, 0, none⟩ = some (.int .u64 xh) := (hbb.cell (p := ⟨w.heap.size, 0, none⟩) (by show w.heap.size < _; omega)).trans ((hbb0.cell (p := ⟨w.heap.size, 0, none⟩) (by show w.heap.size < _; omega)).trans (hca 0))
 have y1 : wb.cell? ⟨w.heap.size, 1, none⟩ = some (.int .u64 xl) := (hbb.cell (p := ⟨w.heap.size, 1, none⟩) (by show w.heap.size < _; omega)).trans ((hbb0.cell (p := ⟨w.heap.size, 1, none⟩) (by show w.heap.size < _; omega)).trans (hca 1))
 have y2 : wb.cell? ⟨w.heap.size + 1, 0, none⟩ = some (.int .u64 yh) := (hbb.cell (p := ⟨w.heap.size + 1, 0, none⟩) (by show w.heap.size + 1 < _; omega)).trans (by rw [← hsa]; exact hcb0 0)
 have y3 : wb.cell? ⟨w.heap.size + 1, 1, none⟩ = some (.int .u64 yl) := (hbb.cell (p := ⟨w.heap.size + 1, 1, none⟩) (by show w.heap.size + 1 < _; omega)).trans (by rw [← hsa]; exact hcb0 1)
 have hs2 : wb0.heap.size = w.heap.size + 1 + 1 := by omega
 have z0 : wb.cell? ⟨w.heap.size + 1 + 1, 0, none⟩ = some (.int .u64 0) := by rw [← hs2]; exact hcb 0
 have z1 : wb.cell? ⟨w.heap.size + 1 + 1, 1, none⟩ = some (.int .u64 0) := by rw [← hs2]; exact hcb 1
 have f0 : ∀ i, wb.frozen? ⟨w.heap.size + 1 + 1, i, none⟩ = false := by rw [← hs2]; exact hfb
 have hbw := hide (hba.trans ((hbb0.trans (hbb.mono (by omega))).mono (by omega)))
 have hl3 : w.heap.size + 1 + 1 < wb.heap.size := by omega
 have hl1 : w.heap.size < wb.heap.size := by omega
 clear hca hcb0 hcb hba hbb0 hbb hfb hs2
 replace hsb := hide hsb
 go_enter Tryz.func129, Tryz.ntmps129
 go_upto_region 2 with (go_at_call 167; refine (hA.out _).mono ?_; rintro e w1 ⟨rfl, hb1⟩; obtain ⟨w2, hw2, hs2, hb2, hc2, hf2⟩ := box1 w1 #[.int .u64 zh, .int .u64 zl] 62; have kb1 := bcell' hb1; have q1 := Nat.lt_of_lt_of_le hl1 hb1.size; have q3 := Nat.lt_of_lt_of_le hl3 hb1.size; have v0 := hc2 0; have v1 := hc2 1; replace hs2 := hide hs2)
 have hs2' := hs2.out
 have hb12 := hb1.trans (hb2.mono hb1.size)
 have kb2 := bcell' hb12
 have p1 := Nat.lt_of_lt_of_le hl1 hb12.size
 have p3 := Nat.lt_of_lt_of_le hl3 hb12.size
 have p4 : w1.heap.size < w2.heap.size := by omega
 have x0 := (kb2.1 _ 0 hl1).trans y0
 have x1 := (kb2.1 _ 1 hl1).trans y1
 have k0 := (kb2.1 _ 0 hl3).trans z0
 have k1 := (kb2.1 _ 1 hl3).trans z1
 have g0 := (kb2.2 _ 0 hl3).trans (f0 0)
 have g1 := (kb2.2 _ 1 hl3).trans (f0 1)
 have hBw := hide (hbw.out.trans (hb12.mono (Nat.le_of_lt hl1)))
 have hg := gcell w2
 simp at v0 v1
 clear hs2' kb1 kb2 hb12 hb1 hb2 hc2 hf2 y0 y1 y2 y3 z0 z1 f0 hwa hwb0 hwb hsa hsb0 hw2 q1 q3
 have hBd : Below w.heap.size w w2.drew := Below.drew hBw.out
 have hB3 := hide (fun W (hW : Below w2.drew.heap.size w2.drew W) => hBd.trans (hW.mono hBd.size))
 clear hg
 go_region_with (go_at_call 168; refine (hC0.out _).mono ?_; rintro e w3 ⟨rfl, hb3⟩; have kb3 := bcell' hb3; have r3 := Nat.lt_of_lt_of_le p3 hb3.size; have r4 := Nat.lt_of_lt_of_le p4 hb3.size; have k0' := (kb3.1 _ 0 p3).trans k0; have k1' := (kb3.1 _ 1 p3).trans k1; have g0' := (kb3.2 _ 0 p3).trans g0; have g1' := (kb3.2 _ 1 p3).trans g1; have v0' := (kb3.1 _ 0 p4).trans v0; have v1' := (kb3.1 _ 1 p4).trans v1)
 all_goals
  go_wp2
  exact bodyPost_ret (v := .tuple #[.agg #[.int .u64 zh, .int .u64 zl], .bool _]) (by simp [results, Tryz.results129, go_sem, k0', k1']) rfl ⟨rfl, ((hB3.out _ hb3).setCell (by show w.heap.size ≤ w.heap.size + 1 + 1; omega) _).setCell (by show w.heap.size ≤ w.heap.size + 1 + 1; omega) _⟩
end Go.Proofs.YtbjokgnnklcbcaaGreatDoor

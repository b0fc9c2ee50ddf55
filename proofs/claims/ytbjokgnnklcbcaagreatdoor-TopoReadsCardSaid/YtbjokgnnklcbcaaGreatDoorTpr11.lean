import Derived.Test.YtbjokgnnklcbcaaGreatDoorTpr10
import Derived.Test.YtbjokgnnklcbcaaGreatDoorTpr04
import Derived.Test.YtbjokgnnklcbcaaGreatDoorTpr05
import Derived.Lib.SliceRun
import Derived.Lib.Walk
import Derived.Shelf.Abstract
import Derived.Laws.EntriesVeiled
import Derived.Test.YtbjokgnnklcbcaaGreatDoorTpr03
import Derived.Deep.DeepCutAuto
import Derived.Deep.CutBlock
set_option linter.all false
/-! Layer 2: places, faults. -/
namespace Go.Proofs.YtbjokgnnklcbcaaGreatDoor
open Go.RowKit
/-- A box of a place's two halves. -/
structure PBox (W : World) (g : Nat) (x y : Int) : Prop where
 lt : g < W.heap.size
 c0 : W.cell? ⟨g, 0, none⟩ = some (.int .i64 x)
 c1 : W.cell? ⟨g, 1, none⟩ = some (.int .i64 y)
 f0 : W.frozen? ⟨g, 0, none⟩ = false
 f1 : W.frozen? ⟨g, 1, none⟩ = false
theorem PBox.below {W W' : World} {g B : Nat} {x y : Int} (h : PBox W g x y) (hb : Below B W W') (hg : g < B) : PBox W' g x y :=
 ⟨Nat.lt_of_lt_of_le h.lt hb.size, (hb.cell (p := ⟨g, 0, none⟩) hg).trans h.c0, (hb.cell (p := ⟨g, 1, none⟩) hg).trans h.c1, (hb.frozen (p := ⟨g, 0, none⟩) hg).trans h.f0, (hb.frozen (p := ⟨g, 1, none⟩) hg).trans h.f1⟩
theorem PBox.new (W : World) (x y : Int) (t : TypeId) : PBox (W.alloc (.cells #[.int .i64 x, .int .i64 y] t)) W.heap.size x y := by
 obtain ⟨wa, hwa, hsa, hba, hca, hfa⟩ := box1 W #[.int .i64 x, .int .i64 y] t
 rw [hwa]
 exact ⟨by omega, hca 0, hca 1, hfa 0, hfa 1⟩
theorem PBox.alloc {W : World} {g : Nat} {x y : Int} (h : PBox W g x y) (o : Obj) : PBox (W.alloc o) g x y := h.below ((Below.refl _ _).alloc (Nat.le_refl _) o) h.lt
theorem PBox.far {W : World} {g k i : Nat} {x y : Int} (h : PBox W g x y) (v : Value) (hk : k ≠ g) : PBox (W.setCell ⟨k, i, none⟩ v) g x y := by
 have hh : (W.setCell ⟨k, i, none⟩ v).heap[g]? = W.heap[g]? := Below.heap_setCell _ _ _ _ (fun e => hk e.symm)
 refine ⟨by rw [setCell_size]; exact h.lt, ?_, ?_, ?_, ?_⟩
 ·rw [← h.c0]; unfold World.cell?; rw [hh]
 ·rw [← h.c1]; unfold World.cell?; rw [hh]
 ·rw [← h.f0]; unfold World.frozen?; rw [hh]
 ·rw [← h.f1]; unfold World.frozen?; rw [hh]
theorem PBox.set {W : World} {g : Nat} {x y : Int} (h : PBox W g x y) (x' y' : Int) : PBox ((W.setCell ⟨g, 0, none⟩ (.int .i64 x')).setCell ⟨g, 1, none⟩ (.int .i64 y')) g x' y' := by
 obtain ⟨hl, c0, c1, f0, f1⟩ := h
 refine ⟨by rw [setCell_size, setCell_size]; exact hl, ?_, ?_, ?_, ?_⟩ <;> simp [go_sem, c0, c1, f0, f1]
theorem PBox.set1 {W : World} {g : Nat} {x y : Int} (h : PBox W g x y) (y' : Int) : PBox (W.setCell ⟨g, 1, none⟩ (.int .i64 y')) g x y' := by
 obtain ⟨hl, c0, c1, f0, f1⟩ := h
 refine ⟨by rw [setCell_size]; exact hl, ?_, ?_, ?_, ?_⟩ <;> simp [go_sem, c0, c1, f0, f1]
theorem pl_below2 {B g : Nat} {a w : World} (h : Below B a w) (hg : B ≤ g) (v0 v1 : Value) : Below B a ((w.setCell ⟨g, 0, none⟩ v0).setCell ⟨g, 1, none⟩ v1) := (h.setCell (p := ⟨g, 0, none⟩) hg _).setCell (p := ⟨g, 1, none⟩) hg _
theorem pl_below3 {B g : Nat} {a w : World} (h : Below B a w) (hg : B ≤ g) (v0 v1 v2 : Value) : Below B a (((w.setCell ⟨g, 0, none⟩ v0).setCell ⟨g, 1, none⟩ v1).setCell ⟨g, 2, none⟩ v2) := ((h.setCell (p := ⟨g, 0, none⟩) hg _).setCell (p := ⟨g, 1, none⟩) hg _).setCell (p := ⟨g, 2, none⟩) hg _
set_option maxRecDepth 100000 in
set_option maxHeartbeats 4000000 in
theorem where_any (s : ByteArray) (k : Nat) (w : World) (hk : k ≤ s.size) (hs : s.size < 4611686018427387904) :
  Calls Tryz.prog 45 #[.string s, .int .i64 (k : Int)] w fun e w' => e = .returned (.agg #[.int .i64 (((placeR (s.data.toList.take k)).1 : Nat) : Int), .int .i64 (((placeR (s.data.toList.take k)).2 : Nat) : Int)]) ∧ Below w.heap.size w w' := by
 obtain ⟨wa, hwa, hsa, hba, hca, hfa⟩ := box1 w #[.int .i64 0, .int .i64 0] 30
 have z0 := hca 0
 have z1 := hca 1
 have f0 := hfa 0
 have f1 := hfa 1
 simp at z0 z1
 have hla : w.heap.size < wa.heap.size := by omega
 have hsl : s.size ≤ 9223372036854775807 := by omega
 have e1 : min (k : Int) (s.size : Int) = k := by omega
 have e2 : max (0 : Int) (k : Int) = k := by omega
 have e3 : (0 : Int) ≤ (k : Int) := by omega
 have e4 : (k : Int) ≤ (s.size : Int) := by omega
 obtain ⟨t, ht⟩ : ∃ t, t = s.extract 0 k := ⟨_, rfl⟩
 have htl : t.data.toList = s.data.toList.take k := by rw [ht, ext_take]
 have htz : t.size = k := by rw [Lib.size_eq, htl, List.length_take, ← Lib.size_eq]; omega
 have hL := hide (fun W => Tryz.strings_LastIndexByte t 10 (by omega) W)
 have hC := hide (fun W => Tryz.strings_Count_one t 10 W)
 have hP := placeR_all t
 have hcl : Lib.countByte t.data.toList 10 ≤ t.data.toList.length := List.count_le_length
 rw [← Lib.size_eq] at hcl
 rw [← htl]
 obtain ⟨hp, hp1, hp2⟩ := hP
 rw [hp]
 generalize Lib.lastIndexByte t 10 = li at hL hp1 hp2
 generalize Lib.countByte t.data.toList 10 = ct at hC hcl
 have hre : Ending.returned (.agg #[.int .i64 (((ct + 1 : Nat)) : Int), .int .i64 ((((t.size : Int) - (li + 1) + 1).toNat : Nat) : Int)]) = .returned (.agg #[.int .i64 ((ct : Int) + 1), .int .i64 ((t.size : Int) - (li + 1) + 1)]) := by
  rw [Int.toNat_of_nonneg (by omega)]; rfl
 simp only
 rw [hre]
 have htb : t.size ≤ 4611686018427387904 := by omega
 have hfin := hide hba
 replace hsa := hide hsa
 replace ht := hide ht
 clear hca hfa hba htl hp hre hk hs
 replace htz := hide htz
 go_enter Tryz.func45, Tryz.ntmps45
 go_wp2_with (first | (go_at_call 72; (try rw [← ht.out]); refine (hL.out _).mono ?_; rintro e w' ⟨rfl, rfl⟩) | (go_at_call 73; (try rw [← ht.out]); refine (hC.out _).mono ?_; rintro e w' ⟨rfl, rfl⟩))
 exact bodyPost_ret (v := .agg #[.int .i64 ((ct : Int) + 1), .int .i64 ((t.size : Int) - (li + 1) + 1)]) (by simp [results, Tryz.results45, go_sem, z0, z1]) rfl ⟨rfl, pl_below2 hfin.out (Nat.le_refl _) _ _⟩
/-- A fault's value. -/
def faultV (n : Int) (l : List UInt8) : Value := .agg #[.int .i64 n, .int .i64 (((placeR l).1 : Nat) : Int), .int .i64 (((placeR l).2 : Nat) : Int)]
def noFault : Value := .agg #[.int .i64 0, .int .i64 0, .int .i64 0]
set_option maxRecDepth 100000 in
set_option maxHeartbeats 4000000 in
theorem fault_any (s : ByteArray) (k : Nat) (n : Int) (w : World) (hk : k ≤ s.size) (hs : s.size < 4611686018427387904) (hn : n ≠ 0) :
  Calls Tryz.prog 16 #[.string s, .int .i64 (k : Int), .int .i64 n] w fun e w' => e = .returned (faultV n (s.data.toList.take k)) ∧ Below w.heap.size w w' := by
 obtain ⟨wa, hwa, hsa, hba, hca, hfa⟩ := box1 w #[.int .i64 0, .int .i64 0, .int .i64 0] 32
 have z0 := hca 0
 have z1 := hca 1
 have z2 := hca 2
 have f0 := hfa 0
 have f1 := hfa 1
 have f2 := hfa 2
 simp at z0 z1 z2
 have hla : w.heap.size < wa.heap.size := by omega
 have hn0b : (n == 0) = false := beq_eq_false_iff_ne.2 hn
 have hn0 : ¬ n = 0 := hn
 have hW := hide (where_any s k wa hk hs)
 unfold faultV
 generalize (((placeR (s.data.toList.take k)).1 : Nat) : Int) = pl at hW ⊢
 generalize (((placeR (s.data.toList.take k)).2 : Nat) : Int) = pc at hW ⊢
 have hfin := hide hba
 replace hsa := hide hsa
 clear hca hfa hba hk hs hn
 go_enter Tryz.func16, Tryz.ntmps16
 go_wp2_with (go_at_call 45; refine hW.out.mono ?_; rintro e w3 ⟨rfl, hb3⟩; have kb := bcell' hb3; have q3 := Nat.lt_of_lt_of_le hla hb3.size; have y0 := (kb.1 _ 0 hla).trans z0; have y1 := (kb.1 _ 1 hla).trans z1; have y2 := (kb.1 _ 2 hla).trans z2; have g0 := (kb.2 _ 0 hla).trans f0; have g1 := (kb.2 _ 1 hla).trans f1; have g2 := (kb.2 _ 2 hla).trans f2)
 exact bodyPost_ret (v := .agg #[.int .i64 n, .int .i64 pl, .int .i64 pc]) (by simp [results, Tryz.results16, go_sem, y0, y1, y2, q3]) rfl ⟨rfl, pl_below3 (hfin.out.trans (hb3.mono (Nat.le_of_lt hla))) (Nat.le_refl _) _ _ _⟩
set_option maxRecDepth 100000 in
set_option maxHeartbeats 4000000 in
theorem where02_any (s : ByteArray) (k : Nat) (w : World) (hk : k ≤ s.size) (hs : s.size < 4611686018427387904) :
  Calls Tryz.prog 60 #[.string s, .int .i64 (k : Int)] w fun e w' => e = .returned (.agg #[.int .i64 (((placeR (s.data.toList.take k)).1 : Nat) : Int), .int .i64 (((placeR (s.data.toList.take k)).2 : Nat) : Int)]) ∧ Below w.heap.size w w' := by
 obtain ⟨wa, hwa, hsa, hba, hca, hfa⟩ := box1 w #[.int .i64 0, .int .i64 0] 30
 have z0 := hca 0
 have z1 := hca 1
 have f0 := hfa 0
 have f1 := hfa 1
 simp at z0 z1
 have hla : w.heap.size < wa.heap.size := by omega
 have hsl : s.size ≤ 9223372036854775807 := by omega
 obtain ⟨wb, hwb, hsb, hbb, hcb, hfb⟩ := box1 wa #[.int .i64 1, .int .i64 1] 30
 have hbw := hide (hba.trans (hbb.mono (by omega)))
 have hrow := hide (⟨by omega, hcb 0, hcb 1, hfb 0, hfb 1⟩ : PBox wb wa.heap.size 1 1)
 have hres := hide (PBox.below (⟨hla, z0, z1, f0, f1⟩ : PBox wa w.heap.size 0 0) hbb hla)
 replace hsa := hide hsa
 replace hsb := hide hsb
 clear hca hfa hba hcb hfb hbb z0 z1 f0 f1
 go_enter Tryz.func60, Tryz.ntmps60
 go_wp2
 go_loopw [6] (fun i wr => ∃ j : Nat, j ≤ k ∧ i = .int .i64 (j : Int) ∧ Hid (PBox wr wa.heap.size (((placeR (s.data.toList.take j)).1 : Nat) : Int) (((placeR (s.data.toList.take j)).2 : Nat) : Int)) ∧ Hid (PBox wr w.heap.size 0 0) ∧ Hid (Below w.heap.size w wr)) (fun i _ => k - (intOf i).toNat)
 case atStart => exact ⟨0, Nat.zero_le _, rfl, hrow, hres, hbw⟩
 case round =>
  clear hrow hres hbw
  obtain ⟨j, hj, rfl, hrow, hres, hbw⟩ := hrel
  obtain ⟨lr, c0, c1, f0, f1⟩ := hrow.out
  obtain ⟨l0, k0, k1, g0, g1⟩ := hres.out
  by_cases hlt : j < k
  ·have hjs : j < s.size := by omega
   have hz1 : (j : Int) < (k : Int) := by omega
   have hz2 : (j : Int) < (s.size : Int) := by omega
   have hz3 : (0 : Int) ≤ (j : Int) := by omega
   have hjl : j < s.data.toList.length := by rw [← Lib.size_eq]; exact hjs
   have hS := placeR_succ s.data.toList hjl
   have hpb := placeR_pos (s.data.toList.take j)
   have hlen : (s.data.toList.take j).length = j := by rw [List.length_take]; omega
   rw [hlen] at hpb
   have hc : s.data.toList[j]'hjl = s[j]'hjs := rfl
   rw [hc] at hS
   obtain ⟨lp, hlp⟩ : ∃ lp, lp = (placeR (s.data.toList.take j)).1 := ⟨_, rfl⟩
   obtain ⟨cp, hcp⟩ : ∃ cp, cp = (placeR (s.data.toList.take j)).2 := ⟨_, rfl⟩
   rw [← hlp, ← hcp] at hpb
   rw [← hlp, ← hcp] at hrow
   rw [← hlp] at c0
   rw [← hcp] at c1
   have hS1 : placeR (s.data.toList.take (j + 1)) = if s[j]'hjs = 10 then (lp + 1, 1) else (lp, cp + 1) := by rw [hS, hlp, hcp]; rfl
   clear hS hlp hcp hc hlen hjl
   have hb1 : (lp : Int) + 1 ≤ 9223372036854775807 := by omega
   have hb2 : (cp : Int) + 1 ≤ 9223372036854775807 := by omega
   by_cases hc : s[j]'hjs = 10
   ·rw [if_pos hc] at hS1
    have hcz : (((s[j]'hjs).toNat : Nat) : Int) = 10 := by rw [hc]; rfl
    have hF := hide (⟨hrow.out.set ((lp : Int) + 1) 1, (hres.out.far _ (by omega)).far _ (by omega), pl_below2 hbw.out (by omega) _ _⟩ : PBox ((wr.setCell ⟨wa.heap.size, 0, none⟩ (.int .i64 ((lp : Int) + 1))).setCell ⟨wa.heap.size, 1, none⟩ (.int .i64 1)) wa.heap.size ((lp : Int) + 1) 1 ∧ PBox ((wr.setCell ⟨wa.heap.size, 0, none⟩ (.int .i64 ((lp : Int) + 1))).setCell ⟨wa.heap.size, 1, none⟩ (.int .i64 1)) w.heap.size 0 0 ∧ Below w.heap.size w ((wr.setCell ⟨wa.heap.size, 0, none⟩ (.int .i64 ((lp : Int) + 1))).setCell ⟨wa.heap.size, 1, none⟩ (.int .i64 1)))
    replace hS1 := hide hS1
    clear hrow hres hbw hc k0 k1 g0 g1
    go_wp2
    go_roundw
    case rel => exact ⟨j + 1, by omega, by go_num, hide (by rw [hS1.out]; exact hF.out.1), hide hF.out.2.1, hide hF.out.2.2⟩
    case measure => simp [intOf]; omega
   ·rw [if_neg hc] at hS1
    have hcz : ¬ (((s[j]'hjs).toNat : Nat) : Int) = 10 := fun h => hc (UInt8.toNat_inj.1 (by show _ = 10; omega))
    have hF := hide (⟨hrow.out.set1 ((cp : Int) + 1), hres.out.far _ (by omega), hbw.out.setCell (p := ⟨wa.heap.size, 1, none⟩) (by show w.heap.size ≤ wa.heap.size; omega) _⟩ : PBox (wr.setCell ⟨wa.heap.size, 1, none⟩ (.int .i64 ((cp : Int) + 1))) wa.heap.size (lp : Int) ((cp : Int) + 1) ∧ PBox (wr.setCell ⟨wa.heap.size, 1, none⟩ (.int .i64 ((cp : Int) + 1))) w.heap.size 0 0 ∧ Below w.heap.size w (wr.setCell ⟨wa.heap.size, 1, none⟩ (.int .i64 ((cp : Int) + 1))))
    replace hS1 := hide hS1
    obtain ⟨cj, hcj⟩ : ∃ cj : Int, cj = (((s[j]'hjs).toNat : Nat) : Int) := ⟨_, rfl⟩
    have hix : ∀ W, (Instr.index 9 (.string s) (.int .i64 (j : Int))).run Tryz.prog W = .ok (.int .u8 cj) W := fun W => by rw [hcj]; go_simp
    rw [← hcj] at hcz
    have hczb : (cj == 10) = false := beq_eq_false_iff_ne.2 hcz
    replace hcj := hide hcj
    clear hrow hres hbw hc k0 k1 g0 g1 hz2 hz3
    go_wp2
    go_roundw
    case rel => exact ⟨j + 1, by omega, by go_num, hide (by rw [hS1.out]; exact hF.out.1), hide hF.out.2.1, hide hF.out.2.2⟩
    case measure => simp [intOf]; omega
  ·obtain rfl : j = k := by omega
   have hz1 : ¬ (j : Int) < (j : Int) := by omega
   clear hrow hres
   go_wp2
   exact bodyPost_ret (v := .agg #[.int .i64 (((placeR (s.data.toList.take j)).1 : Nat) : Int), .int .i64 (((placeR (s.data.toList.take j)).2 : Nat) : Int)]) (by simp [results, Tryz.results60, go_sem, k0, k1]) rfl ⟨rfl, pl_below2 hbw.out (Nat.le_refl _) _ _⟩
set_option maxRecDepth 100000 in
set_option maxHeartbeats 4000000 in
theorem fault02_any (s : ByteArray) (k : Nat) (n : Int) (w : World) (hk : k ≤ s.size) (hs : s.size < 4611686018427387904) (hn : n ≠ 0) :
  Calls Tryz.prog 28 #[.string s, .int .i64 (k : Int), .int .i64 n] w fun e w' => e = .returned (faultV n (s.data.toList.take k)) ∧ Below w.heap.size w w' := by
 obtain ⟨wa, hwa, hsa, hba, hca, hfa⟩ := box1 w #[.int .i64 0, .int .i64 0, .int .i64 0] 32
 have z0 := hca 0
 have z1 := hca 1
 have z2 := hca 2
 have f0 := hfa 0
 have f1 := hfa 1
 have f2 := hfa 2
 simp at z0 z1 z2
 have hla : w.heap.size < wa.heap.size := by omega
 have hn0b : (n == 0) = false := beq_eq_false_iff_ne.2 hn
 have hn0 : ¬ n = 0 := hn
 have hW := hide (where02_any s k wa hk hs)
 unfold faultV
 generalize (((placeR (s.data.toList.take k)).1 : Nat) : Int) = pl at hW ⊢
 generalize (((placeR (s.data.toList.take k)).2 : Nat) : Int) = pc at hW ⊢
 have hfin := hide hba
 replace hsa := hide hsa
 clear hca hfa hba hk hs hn
 go_enter Tryz.func28, Tryz.ntmps28
 go_wp2_with (go_at_call 60; refine hW.out.mono ?_; rintro e w3 ⟨rfl, hb3⟩; have kb := bcell' hb3; have q3 := Nat.lt_of_lt_of_le hla hb3.size; have y0 := (kb.1 _ 0 hla).trans z0; have y1 := (kb.1 _ 1 hla).trans z1; have y2 := (kb.1 _ 2 hla).trans z2; have g0 := (kb.2 _ 0 hla).trans f0; have g1 := (kb.2 _ 1 hla).trans f1; have g2 := (kb.2 _ 2 hla).trans f2)
 exact bodyPost_ret (v := .agg #[.int .i64 n, .int .i64 pl, .int .i64 pc]) (by simp [results, Tryz.results28, go_sem, y0, y1, y2, q3]) rfl ⟨rfl, pl_below3 (hfin.out.trans (hb3.mono (Nat.le_of_lt hla))) (Nat.le_refl _) _ _ _⟩
end Go.Proofs.YtbjokgnnklcbcaaGreatDoor
/-! Index and Contains over names, Bits. -/
namespace Go.Proofs.YtbjokgnnklcbcaaGreatDoor
open Go.RowKit
set_option maxHeartbeats 400000 in
theorem sindexS_any (A : Option Addr) (cap : Nat) (xs : List ByteArray) (n : ByteArray) (w : World) (h : Sl 1 rStr w w.heap.size A xs) :
  Calls Tryz.prog 64 #[.slice A xs.length cap, .string n] w fun e w' => e = .returned (.int .i64 (findI xs n)) ∧ w = w' := by
 have hl := h.len
 go_enter Tryz.func64, Tryz.ntmps64
 go_wp2
 go_loop [8] (fun i => ∃ k : Nat, k ≤ xs.length ∧ i = .int .i64 k ∧ n ∉ xs.take k) (fun i => xs.length - (intOf i).toNat)
 case atStart => exact ⟨0, Nat.zero_le _, rfl, by simp⟩
 case round =>
  obtain ⟨k, hk, rfl, hc⟩ := hrel
  by_cases hlt : k < xs.length
  ·obtain ⟨b, o, rfl, hb, hcell, -⟩ := h.str hlt
   clear h
   by_cases he : xs[k] = n
   ·have ht := str_eq he.symm
    have hv := hide (findI_at hlt hc he)
    clear he
    go_wp2
    go_ret
    exact ⟨ret_int hv.out.symm, rfl⟩
   ·have ht := str_ne (fun e => he (Eq.symm e))
    have hv := hide (notMem_take_snoc hlt hc he)
    clear he
    go_wp2
    go_round
    case rel => exact ⟨k + 1, by omega, by go_num, hv.out⟩
    case measure => simp [intOf]; omega
  ·have hv := hide (findI_no (notMem_of_take hk hlt hc))
   go_wp2
   go_ret
   exact ⟨ret_int hv.out.symm, rfl⟩
end Go.Proofs.YtbjokgnnklcbcaaGreatDoor
/-! Layer 7: Names: is all that an expression names there? -/
namespace Go.Proofs.YtbjokgnnklcbcaaGreatDoor
open Go.RowKit
theorem PgS.more {w : World} {B B' : Nat} {A1 A2 A3 A4 A5 A6 A7 : Option Addr} {p : Pg} (h : PgS w B A1 A2 A3 A4 A5 A6 A7 p) (hB : B ≤ B') : PgS w B' A1 A2 A3 A4 A5 A6 A7 p :=
 ⟨h.1.more sta_hd hB, h.2.more sta_fd hB, h.3.more sta_sa hB, h.4.more sta_ac hB, h.5.more sta_ta hB, h.6.more sta_st hB, h.7.more sta_str hB⟩
end Go.Proofs.YtbjokgnnklcbcaaGreatDoor
/-! Layer 7: stmt: what is wrong with a statement. -/
namespace Go.Proofs.YtbjokgnnklcbcaaGreatDoor
open Go.RowKit
/-- A program lies in a world and in what has grown of it. -/
theorem PgS.grown {wb : World} {B : Nat} {A1 A2 A3 A4 A5 A6 A7 : Option Addr} {p : Pg} (h : PgS wb B A1 A2 A3 A4 A5 A6 A7 p) (hB : B ≤ wb.heap.size) (d : Nat) (os : Array Obj) :
  B ≤ (Go.Sort.grow (redrawn wb d) os).heap.size ∧ PgS (Go.Sort.grow (redrawn wb d) os) B A1 A2 A3 A4 A5 A6 A7 p :=
 ⟨Nat.le_trans hB (gsize wb d os), h.below ((below_regrown wb d os).mono hB)⟩
end Go.Proofs.YtbjokgnnklcbcaaGreatDoor

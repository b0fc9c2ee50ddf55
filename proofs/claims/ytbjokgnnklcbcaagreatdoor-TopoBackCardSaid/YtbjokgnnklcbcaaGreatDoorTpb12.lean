import Derived.Test.YtbjokgnnklcbcaaGreatDoorTpb11
import Derived.Test.YtbjokgnnklcbcaaGreatDoorTpb02
import Derived.Lib.LastIndexByte
import Derived.Test.YtbjokgnnklcbcaaGreatDoorTpb05
import Derived.Test.YtbjokgnnklcbcaaGreatDoorTpb08
import Derived.Test.YtbjokgnnklcbcaaGreatDoorTpb06
import Derived.Lib.SliceRun
import Derived.Lib.Walk
import Derived.Shelf.Abstract
import Derived.Laws.EntriesVeiled
import Derived.Test.YtbjokgnnklcbcaaGreatDoorTpb04
import Derived.Deep.DeepCutAuto
import Derived.Deep.CutBlock
set_option linter.all false
/-! Layer 3: one token. -/
namespace Go.Proofs.YtbjokgnnklcbcaaGreatDoor
open Go.RowKit
/-- A token's cells. -/
def tkC (k : Nat) (s : ByteArray) (w n a : Nat) : List Value := [.int .u8 (k : Int), .string s, .int .i64 (w : Int), .int .u64 ((n / 18446744073709551616 : Nat) : Int), .int .u64 ((n % 18446744073709551616 : Nat) : Int), .int .i64 (a : Int)]
/-- How the call of one ends. -/
def oneE : Except Int (Nat × List UInt8 × Nat × Nat) → Ending
 | .error n => perr n
 | .ok x => .returned (.agg (tkC x.1 ⟨x.2.1.toArray⟩ x.2.2.1 x.2.2.2 0).toArray)
theorem below_set6 {B g : Nat} {a w : World} (h : Below B a w) (hg : B ≤ g) (v0 v1 v2 v3 v4 v5 : Value) : Below B a ((((((w.setCell ⟨g, 0, none⟩ v0).setCell ⟨g, 1, none⟩ v1).setCell ⟨g, 2, none⟩ v2).setCell ⟨g, 3, none⟩ v3).setCell ⟨g, 4, none⟩ v4).setCell ⟨g, 5, none⟩ v5) :=
 ((((((h.setCell (p := ⟨g, 0, none⟩) hg _).setCell (p := ⟨g, 1, none⟩) hg _).setCell (p := ⟨g, 2, none⟩) hg _).setCell (p := ⟨g, 3, none⟩) hg _).setCell (p := ⟨g, 4, none⟩) hg _).setCell (p := ⟨g, 5, none⟩) hg _)
theorem word_ascii (l : List UInt8) : ∀ c ∈ l.take (wlenL l), c.toNat < 128 ∧ wordB (c.toNat : Nat) = true := by
 intro c hc
 have h : wordB (c.toNat : Nat) = true := by
  unfold wlenL at hc
  have e : l.take (l.takeWhile fun c => wordB c.toNat).length = l.takeWhile fun c => wordB c.toNat := by
   have := List.takeWhile_prefix (fun c : UInt8 => wordB c.toNat) (l := l)
   exact (List.prefix_iff_eq_take.1 this).symm
  rw [e] at hc
  exact (List.all_eq_true.1 List.all_takeWhile) c hc
 refine ⟨?_, h⟩
 unfold wordB digitB letterB at h
 simp only [Bool.or_eq_true, decide_eq_true_eq] at h
 omega
attribute [local go_sem] run_panic_iface
set_option maxRecDepth 100000 in
set_option maxHeartbeats 8000000 in
theorem one_any (s : ByteArray) (w : World) (h0 : 0 < s.size) (hs : s.size ≤ 2000000) (hV : VarS w) :
  Calls Tryz.prog 44 #[.string s] w fun e w' => e = oneE (oneR s.data.toList) ∧ Below w.heap.size w w' := by
 obtain ⟨wa, hwa, hsa, hba, hca, hfa⟩ := box1 w #[.int .u8 0, .string ⟨#[]⟩, .int .i64 0, .int .u64 0, .int .u64 0, .int .i64 0] 64
 have z0 := hca 0
 have z1 := hca 1
 have z2 := hca 2
 have z3 := hca 3
 have z4 := hca 4
 have z5 := hca 5
 simp at z0 z1 z2 z3 z4 z5
 have hVa := hide (hV.below hba (Nat.le_refl _))
 have hla : w.heap.size < wa.heap.size := by omega
 have hfz := hfa
 have hfin := hide (fun W (hW : Below wa.heap.size wa W) => hba.trans (hW.mono hba.size))
 obtain ⟨wB, hwB⟩ : ∃ wB, wB = s.extract 0 (wlen s) := ⟨_, rfl⟩
 have hwl : wB.data.toList = s.data.toList.take (wlenL s.data.toList) := by rw [hwB, ext_take]; rfl
 have hW := hide (fun W => word_any s W (by unfold maxLen; omega))
 rw [← hwB] at hW
 have hws : wB.size ≤ s.size := by rw [Lib.size_eq, hwl, Lib.size_eq]; simp; omega
 have hwk : wB.size ≤ 2000000 := by omega
 have hasc := word_ascii s.data.toList
 rw [← hwl] at hasc
 unfold oneR
 rw [← hwl]
 simp only
 replace hsa := hide hsa
 clear hca hfa hV hba hwB hwl hws
 have f0 := hfz 0
 have f1 := hfz 1
 have f2 := hfz 2
 have f3 := hfz 3
 have f4 := hfz 4
 have f5 := hfz 5
 clear hfz
 by_cases he : wB.data.toList = []
 ·have hem : wB.toList.isEmpty = true := by rw [Lib.toList_data, he]; rfl
  have heb : (wB.toList == []) = true := by rw [Lib.toList_data, he]; rfl
  have hel : wB.toList = [] := by rw [Lib.toList_data, he]
  rw [if_pos he]
  have hM := mark_any s wa h0
  clear he hasc hwk hVa
  by_cases hm : markL s.data.toList = []
  ·rw [if_pos hm]
   have hM' := hide (hM.mono fun e w' h => (by
    rcases h with ⟨h1, ⟨-, h2⟩ | ⟨m, -, h3, -⟩⟩
    ·exact ⟨h2, h1⟩
    ·exact absurd hm h3 : e = perr 4 ∧ w' = wa))
   clear hM hm
   go_enter Tryz.func44, Tryz.ntmps44
   go_wp2_with (first | (go_at_call 61; refine (hW.out _).mono ?_; rintro e w' ⟨rfl, rfl⟩) | (go_at_call 70; refine hM'.out.mono ?_; rintro e w' ⟨rfl, rfl⟩))
   exact ⟨rfl, rfl, hfin.out _ (Below.refl _ _)⟩
  ·rw [if_neg hm]
   obtain ⟨mB, hmB⟩ : ∃ mB : ByteArray, mB = ⟨(markL s.data.toList).toArray⟩ := ⟨_, rfl⟩
   have hM' := hide (hM.mono fun e w' h => (by
    rcases h with ⟨h1, ⟨h3, -⟩ | ⟨m, h2, -, h4⟩⟩
    ·exact absurd h3 hm
    ·exact ⟨by rw [h4, hmB, ← h2], h1⟩ : e = .returned (.string mB) ∧ w' = wa))
   rw [show oneE (.ok (3, markL s.data.toList, 0, 0)) = .returned (.agg #[.int .u8 3, .string mB, .int .i64 0, .int .u64 0, .int .u64 0, .int .i64 0]) from by rw [hmB]; simp [oneE, tkC]]
   clear hM hm hmB
   go_enter Tryz.func44, Tryz.ntmps44
   go_wp2_with (first | (go_at_call 61; refine (hW.out _).mono ?_; rintro e w' ⟨rfl, rfl⟩) | (go_at_call 70; refine hM'.out.mono ?_; rintro e w' ⟨rfl, rfl⟩))
   exact bodyPost_ret (v := .agg #[.int .u8 3, .string mB, .int .i64 0, .int .u64 0, .int .u64 0, .int .i64 0]) (by simp [results, Tryz.results44, go_sem, z0, z1, z2, z3, z4, z5]) rfl ⟨rfl, below_set6 (hfin.out _ (Below.refl _ _)) (Nat.le_refl _) _ _ _ _ _ _⟩
 ·have hem : wB.toList.isEmpty = false := by
   rw [Lib.toList_data]; cases h : wB.data.toList with | nil => exact absurd h he | cons _ _ => rfl
  have hel : ¬ wB.toList = [] := by rw [Lib.toList_data]; exact he
  have heb : (wB.toList == []) = false := beq_eq_false_iff_ne.2 hel
  have hw0 : 0 < wB.size := by rw [Lib.size_eq]; exact List.length_pos_iff.2 he
  have hwz : (0 : Int) < (wB.size : Int) := by omega
  have hwl : wB.size ≤ 9223372036854775807 := by omega
  rw [if_neg he]
  have hhd : digB (wB.data.toList.headD 0) = digitB ((wB[0].toNat : Nat) : Int) := by rw [head_eq hw0]; rfl
  have hD := hide (fun W => isDigit_any ((wB[0].toNat : Nat) : Int) W)
  rw [← hhd] at hD
  clear hel he h0
  cases hd : digB (wB.data.toList.headD 0) with
  | true =>
   have hN := hide (fun (W : World) (hW : Below wa.heap.size wa W) => number_any wB W hwk (fun c hc => (hasc c hc).1) hd (hVa.out.below hW (Nat.le_refl _)))
   rw [hd] at hD
   rw [if_pos rfl]
   clear hhd hd hasc hVa
   generalize numR wB.data.toList = R at hN
   cases R with
   | error n =>
    replace hN := hide (fun (W : World) (hW : Below wa.heap.size wa W) => show Calls Tryz.prog _ _ W fun e w' => e = perr n ∧ Below W.heap.size W w' from hN.out W hW)
    go_enter Tryz.func44, Tryz.ntmps44
    go_wp2_with (first | (go_at_call 61; refine (hW.out _).mono ?_; rintro e w' ⟨rfl, rfl⟩) | (go_at_call 62; refine (hD.out _).mono ?_; rintro e w' ⟨rfl, rfl⟩) | (go_at_call 71; refine (hN.out _ (Below.refl _ _)).mono ?_; rintro e w3 ⟨rfl, hb3⟩))
    exact ⟨rfl, rfl, hfin.out _ hb3⟩
   | ok x =>
    obtain ⟨a, n⟩ := x
    show Calls _ _ _ _ fun e w' => e = .returned (.agg #[.int .u8 2, .string wB, .int .i64 (a : Int), .int .u64 ((n / 18446744073709551616 : Nat) : Int), .int .u64 ((n % 18446744073709551616 : Nat) : Int), .int .i64 0]) ∧ _
    replace hN := hide (fun (W : World) (hW : Below wa.heap.size wa W) => show Calls Tryz.prog _ _ W fun e w' => e = .returned (.tuple #[.int .i64 (a : Int), .agg #[.int .u64 ((n / 18446744073709551616 : Nat) : Int), .int .u64 ((n % 18446744073709551616 : Nat) : Int)]]) ∧ Below W.heap.size W w' from hN.out W hW)
    generalize ((n / 18446744073709551616 : Nat) : Int) = nh at hN
    generalize ((n % 18446744073709551616 : Nat) : Int) = nl at hN
    generalize (a : Int) = az at hN
    go_enter Tryz.func44, Tryz.ntmps44
    go_wp2_with (first | (go_at_call 61; refine (hW.out _).mono ?_; rintro e w' ⟨rfl, rfl⟩) | (go_at_call 62; refine (hD.out _).mono ?_; rintro e w' ⟨rfl, rfl⟩) | (go_at_call 71; refine (hN.out _ (Below.refl _ _)).mono ?_; rintro e w3 ⟨rfl, hb3⟩; obtain ⟨w4, hw4, hs4, hb4, hc4, hf4⟩ := box1 w3 #[.int .u64 nh, .int .u64 nl] 62; have x0 := hc4 0; have x1 := hc4 1; replace hs4 := hide hs4; simp at x0 x1; have hb34 := hb3.trans (hb4.mono hb3.size); have kb4 := bcell' hb34; have q4 := Nat.lt_of_lt_of_le hla hb34.size; have y0 := (kb4.1 _ 0 hla).trans z0; have y1 := (kb4.1 _ 1 hla).trans z1; have y2 := (kb4.1 _ 2 hla).trans z2; have y3 := (kb4.1 _ 3 hla).trans z3; have y4 := (kb4.1 _ 4 hla).trans z4; have y5 := (kb4.1 _ 5 hla).trans z5; have g0 := (kb4.2 _ 0 hla).trans f0; have g1 := (kb4.2 _ 1 hla).trans f1; have g2 := (kb4.2 _ 2 hla).trans f2; have g3 := (kb4.2 _ 3 hla).trans f3; have g4 := (kb4.2 _ 4 hla).trans f4; have g5 := (kb4.2 _ 5 hla).trans f5))
    exact bodyPost_ret (v := .agg #[.int .u8 2, .string wB, .int .i64 az, .int .u64 nh, .int .u64 nl, .int .i64 0]) (by simp [results, Tryz.results44, go_sem, y0, y1, y2, y3, y4, y5, q4]) rfl ⟨rfl, below_set6 (hfin.out _ hb34) (Nat.le_refl _) _ _ _ _ _ _⟩
  | false =>
   rw [hd] at hD
   rw [if_neg (by simp)]
   clear hhd hd hasc hVa
   by_cases h16 : 16 < wB.data.toList.length
   ·rw [if_pos h16]
    rw [← Lib.size_eq] at h16
    have h16z : (16 : Int) < (wB.size : Int) := by omega
    replace h16 := hide h16
    go_enter Tryz.func44, Tryz.ntmps44
    go_wp2_with (first | (go_at_call 61; refine (hW.out _).mono ?_; rintro e w' ⟨rfl, rfl⟩) | (go_at_call 62; refine (hD.out _).mono ?_; rintro e w' ⟨rfl, rfl⟩))
    exact ⟨rfl, rfl, hfin.out _ (Below.refl _ _)⟩
   ·rw [if_neg h16]
    rw [← Lib.size_eq] at h16
    have h16z : ¬ (16 : Int) < (wB.size : Int) := by omega
    replace h16 := hide h16
    rw [show oneE (.ok (1, wB.data.toList, 0, 0)) = .returned (.agg #[.int .u8 1, .string wB, .int .i64 0, .int .u64 0, .int .u64 0, .int .i64 0]) from by simp [oneE, tkC]]
    go_enter Tryz.func44, Tryz.ntmps44
    go_wp2_with (first | (go_at_call 61; refine (hW.out _).mono ?_; rintro e w' ⟨rfl, rfl⟩) | (go_at_call 62; refine (hD.out _).mono ?_; rintro e w' ⟨rfl, rfl⟩))
    exact bodyPost_ret (v := .agg #[.int .u8 1, .string wB, .int .i64 0, .int .u64 0, .int .u64 0, .int .i64 0]) (by simp [results, Tryz.results44, go_sem, z0, z1, z2, z3, z4, z5]) rfl ⟨rfl, below_set6 (hfin.out _ (Below.refl _ _)) (Nat.le_refl _) _ _ _ _ _ _⟩
end Go.Proofs.YtbjokgnnklcbcaaGreatDoor
/-! Plain: the place of a byte. -/
namespace Go.Proofs.YtbjokgnnklcbcaaGreatDoor
open Go.Lib
/-- A line and a column, one byte on. -/
def plS (p : Nat × Nat) (c : UInt8) : Nat × Nat := if c = 10 then (p.1 + 1, 1) else (p.1, p.2 + 1)
def placeR (l : List UInt8) : Nat × Nat := l.foldl plS (1, 1)
theorem placeR_succ (l : List UInt8) {k : Nat} (h : k < l.length) : placeR (l.take (k + 1)) = plS (placeR (l.take k)) l[k] := by
 unfold placeR
 rw [List.take_succ_eq_append_getElem h, List.foldl_append]
 rfl
theorem lastIdx_le (s : ByteArray) (c : Int) : ∀ k, -1 ≤ lastIdx s c k ∧ lastIdx s c k < (k : Int)
 | 0 => by simp [lastIdx]
 | k + 1 => by
  have := lastIdx_le s c k
  unfold lastIdx
  split <;> omega
theorem placeR_last (s : ByteArray) : ∀ k, k ≤ s.size → placeR (s.data.toList.take k) = (countByte (s.data.toList.take k) 10 + 1, ((k : Int) - (lastIdx s 10 k + 1) + 1).toNat)
 | 0, _ => by simp [placeR, countByte, lastIdx]
 | k + 1, h => by
  have ih := placeR_last s k (by omega)
  have hl : k < s.data.toList.length := by rw [← size_eq]; omega
  have hle := lastIdx_le s 10 k
  rw [placeR_succ _ hl, ih]
  have e : s.data[k]! = s.data.toList[k] := by
   rw [getElem!_pos s.data k (by simpa using hl)]
   simp
  have e0 : lastIdx s 10 (k + 1) = if ((s.data[k]!).toNat : Int) = 10 then (k : Int) else lastIdx s 10 k := rfl
  rw [e0, e]
  unfold countByte
  rw [List.take_succ_eq_append_getElem hl, List.count_append]
  generalize s.data.toList[k] = c
  by_cases hc : c = 10
  ·subst hc
   simp [plS]
  ·have hn : ¬ ((c.toNat : Nat) : Int) = 10 := fun h => hc (UInt8.toNat_inj.1 (by show _ = 10; omega))
   have h0 : List.count 10 [c] = 0 := by
    rw [List.count_eq_zero]
    simp only [List.mem_singleton]
    exact fun h => hc h.symm
   rw [if_neg hn, h0]
   unfold plS
   rw [if_neg hc]
   show (_, _) = (_, _)
   rw [Nat.add_zero]
   congr 1
   show _ + 1 = _
   omega
theorem placeR_all (s : ByteArray) : placeR s.data.toList = (countByte s.data.toList 10 + 1, ((s.size : Int) - (lastIndexByte s 10 + 1) + 1).toNat) ∧ -1 ≤ lastIndexByte s 10 ∧ lastIndexByte s 10 < s.size := by
 have := placeR_last s s.size (Nat.le_refl _)
 rw [List.take_of_length_le (by rw [← size_eq]; exact Nat.le_refl _)] at this
 exact ⟨this, lastIdx_le s 10 s.size⟩
end Go.Proofs.YtbjokgnnklcbcaaGreatDoor
/-! Layer 2: places, faults. -/
namespace Go.Proofs.YtbjokgnnklcbcaaGreatDoor
open Go.RowKit
/-- A box of a place's two halves. -/
structure PBox (W : World) (g : Nat) (x y : Int) : Prop where
 lt : g < W.heap.size
 c0 : W.cell? ⟨g, 0, none⟩ = some (.int .i64 x)
 c1 : W.cell? ⟨g, 1, none⟩ = some (.int .i64 y)
 f0 : W.frozen? ⟨g, 0, none⟩ = false
 f1 : W.frozen? ⟨g, 1, none⟩ = false
theorem PBox.below {W W' : World} {g B : Nat} {x y : Int} (h : PBox W g x y) (hb : Below B W W') (hg : g < B) : PBox W' g x y :=
 ⟨Nat.lt_of_lt_of_le h.lt hb.size, (hb.cell (p := ⟨g, 0, none⟩) hg).trans h.c0, (hb.cell (p := ⟨g, 1, none⟩) hg).trans h.c1, (hb.frozen (p := ⟨g, 0, none⟩) hg).trans h.f0, (hb.frozen (p := ⟨g, 1, none⟩) hg).trans h.f1⟩
theorem PBox.new (W : World) (x y : Int) (t : TypeId) : PBox (W.alloc (.cells #[.int .i64 x, .int .i64 y] t)) W.heap.size x y := by
 obtain ⟨wa, hwa, hsa, hba, hca, hfa⟩ := box1 W #[.int .i64 x, .int .i64 y] t
 rw [hwa]
 exact ⟨by omega, hca 0, hca 1, hfa 0, hfa 1⟩
theorem PBox.alloc {W : World} {g : Nat} {x y : Int} (h : PBox W g x y) (o : Obj) : PBox (W.alloc o) g x y := h.below ((Below.refl _ _).alloc (Nat.le_refl _) o) h.lt
theorem PBox.far {W : World} {g k i : Nat} {x y : Int} (h : PBox W g x y) (v : Value) (hk : k ≠ g) : PBox (W.setCell ⟨k, i, none⟩ v) g x y := by
 have hh : (W.setCell ⟨k, i, none⟩ v).heap[g]? = W.heap[g]? := Below.heap_setCell _ _ _ _ (fun e => hk e.symm)
 refine ⟨by rw [setCell_size]; exact h.lt, ?_, ?_, ?_, ?_⟩
 ·rw [← h.c0]; unfold World.cell?; rw [hh]
 ·rw [← h.c1]; unfold World.cell?; rw [hh]
 ·rw [← h.f0]; unfold World.frozen?; rw [hh]
 ·rw [← h.f1]; unfold World.frozen?; rw [hh]
theorem PBox.set {W : World} {g : Nat} {x y : Int} (h : PBox W g x y) (x' y' : Int) : PBox ((W.setCell ⟨g, 0, none⟩ (.int .i64 x')).setCell ⟨g, 1, none⟩ (.int .i64 y')) g x' y' := by
 obtain ⟨hl, c0, c1, f0, f1⟩ := h
 refine ⟨by rw [setCell_size, setCell_size]; exact hl, ?_, ?_, ?_, ?_⟩ <;> simp [go_sem, c0, c1, f0, f1]
theorem pl_below2 {B g : Nat} {a w : World} (h : Below B a w) (hg : B ≤ g) (v0 v1 : Value) : Below B a ((w.setCell ⟨g, 0, none⟩ v0).setCell ⟨g, 1, none⟩ v1) := (h.setCell (p := ⟨g, 0, none⟩) hg _).setCell (p := ⟨g, 1, none⟩) hg _
theorem pl_below3 {B g : Nat} {a w : World} (h : Below B a w) (hg : B ≤ g) (v0 v1 v2 : Value) : Below B a (((w.setCell ⟨g, 0, none⟩ v0).setCell ⟨g, 1, none⟩ v1).setCell ⟨g, 2, none⟩ v2) := ((h.setCell (p := ⟨g, 0, none⟩) hg _).setCell (p := ⟨g, 1, none⟩) hg _).setCell (p := ⟨g, 2, none⟩) hg _
set_option maxRecDepth 100000 in
set_option maxHeartbeats 4000000 in
theorem where_any (s : ByteArray) (k : Nat) (w : World) (hk : k ≤ s.size) (hs : s.size < 4611686018427387904) :
  Calls Tryz.prog 45 #[.string s, .int .i64 (k : Int)] w fun e w' => e = .returned (.agg #[.int .i64 (((placeR (s.data.toList.take k)).1 : Nat) : Int), .int .i64 (((placeR (s.data.toList.take k)).2 : Nat) : Int)]) ∧ Below w.heap.size w w' := by
 obtain ⟨wa, hwa, hsa, hba, hca, hfa⟩ := box1 w #[.int .i64 0, .int .i64 0] 30
 have z0 := hca 0
 have z1 := hca 1
 have f0 := hfa 0
 have f1 := hfa 1
 simp at z0 z1
 have hla : w.heap.size < wa.heap.size := by omega
 have hsl : s.size ≤ 9223372036854775807 := by omega
 have e1 : min (k : Int) (s.size : Int) = k := by omega
 have e2 : max (0 : Int) (k : Int) = k := by omega
 have e3 : (0 : Int) ≤ (k : Int) := by omega
 have e4 : (k : Int) ≤ (s.size : Int) := by omega
 obtain ⟨t, ht⟩ : ∃ t, t = s.extract 0 k := ⟨_, rfl⟩
 have htl : t.data.toList = s.data.toList.take k := by rw [ht, ext_take]
 have htz : t.size = k := by rw [Lib.size_eq, htl, List.length_take, ← Lib.size_eq]; omega
 have hL := hide (fun W => Tryz.strings_LastIndexByte t 10 (by omega) W)
 have hC := hide (fun W => Tryz.strings_Count_one t 10 W)
 have hP := placeR_all t
 have hcl : Lib.countByte t.data.toList 10 ≤ t.data.toList.length := List.count_le_length
 rw [← Lib.size_eq] at hcl
 rw [← htl]
 obtain ⟨hp, hp1, hp2⟩ := hP
 rw [hp]
 generalize Lib.lastIndexByte t 10 = li at hL hp1 hp2
 generalize Lib.countByte t.data.toList 10 = ct at hC hcl
 have hre : Ending.returned (.agg #[.int .i64 (((ct + 1 : Nat)) : Int), .int .i64 ((((t.size : Int) - (li + 1) + 1).toNat : Nat) : Int)]) = .returned (.agg #[.int .i64 ((ct : Int) + 1), .int .i64 ((t.size : Int) - (li + 1) + 1)]) := by
  rw [Int.toNat_of_nonneg (by omega)]; rfl
 simp only
 rw [hre]
 have htb : t.size ≤ 4611686018427387904 := by omega
 have hfin := hide hba
 replace hsa := hide hsa
 replace ht := hide ht
 clear hca hfa hba htl hp hre hk hs
 replace htz := hide htz
 go_enter Tryz.func45, Tryz.ntmps45
 go_wp2_with (first | (go_at_call 72; (try rw [← ht.out]); refine (hL.out _).mono ?_; rintro e w' ⟨rfl, rfl⟩) | (go_at_call 73; (try rw [← ht.out]); refine (hC.out _).mono ?_; rintro e w' ⟨rfl, rfl⟩))
 exact bodyPost_ret (v := .agg #[.int .i64 ((ct : Int) + 1), .int .i64 ((t.size : Int) - (li + 1) + 1)]) (by simp [results, Tryz.results45, go_sem, z0, z1]) rfl ⟨rfl, pl_below2 hfin.out (Nat.le_refl _) _ _⟩
/-- A fault's value. -/
def faultV (n : Int) (l : List UInt8) : Value := .agg #[.int .i64 n, .int .i64 (((placeR l).1 : Nat) : Int), .int .i64 (((placeR l).2 : Nat) : Int)]
def noFault : Value := .agg #[.int .i64 0, .int .i64 0, .int .i64 0]
set_option maxRecDepth 100000 in
set_option maxHeartbeats 4000000 in
theorem fault_any (s : ByteArray) (k : Nat) (n : Int) (w : World) (hk : k ≤ s.size) (hs : s.size < 4611686018427387904) (hn : n ≠ 0) :
  Calls Tryz.prog 16 #[.string s, .int .i64 (k : Int), .int .i64 n] w fun e w' => e = .returned (faultV n (s.data.toList.take k)) ∧ Below w.heap.size w w' := by
 obtain ⟨wa, hwa, hsa, hba, hca, hfa⟩ := box1 w #[.int .i64 0, .int .i64 0, .int .i64 0] 32
 have z0 := hca 0
 have z1 := hca 1
 have z2 := hca 2
 have f0 := hfa 0
 have f1 := hfa 1
 have f2 := hfa 2
 simp at z0 z1 z2
 have hla : w.heap.size < wa.heap.size := by omega
 have hn0b : (n == 0) = false := beq_eq_false_iff_ne.2 hn
 have hn0 : ¬ n = 0 := hn
 have hW := hide (where_any s k wa hk hs)
 unfold faultV
 generalize (((placeR (s.data.toList.take k)).1 : Nat) : Int) = pl at hW ⊢
 generalize (((placeR (s.data.toList.take k)).2 : Nat) : Int) = pc at hW ⊢
 have hfin := hide hba
 replace hsa := hide hsa
 clear hca hfa hba hk hs hn
 go_enter Tryz.func16, Tryz.ntmps16
 go_wp2_with (go_at_call 45; refine hW.out.mono ?_; rintro e w3 ⟨rfl, hb3⟩; have kb := bcell' hb3; have q3 := Nat.lt_of_lt_of_le hla hb3.size; have y0 := (kb.1 _ 0 hla).trans z0; have y1 := (kb.1 _ 1 hla).trans z1; have y2 := (kb.1 _ 2 hla).trans z2; have g0 := (kb.2 _ 0 hla).trans f0; have g1 := (kb.2 _ 1 hla).trans f1; have g2 := (kb.2 _ 2 hla).trans f2)
 exact bodyPost_ret (v := .agg #[.int .i64 n, .int .i64 pl, .int .i64 pc]) (by simp [results, Tryz.results16, go_sem, y0, y1, y2, q3]) rfl ⟨rfl, pl_below3 (hfin.out.trans (hb3.mono (Nat.le_of_lt hla))) (Nat.le_refl _) _ _ _⟩
end Go.Proofs.YtbjokgnnklcbcaaGreatDoor
/-! Index and Contains over names, Bits. -/
namespace Go.Proofs.YtbjokgnnklcbcaaGreatDoor
open Go.RowKit
set_option maxHeartbeats 400000 in
theorem sindexS_any (A : Option Addr) (cap : Nat) (xs : List ByteArray) (n : ByteArray) (w : World) (h : Sl 1 rStr w w.heap.size A xs) :
  Calls Tryz.prog 64 #[.slice A xs.length cap, .string n] w fun e w' => e = .returned (.int .i64 (findI xs n)) ∧ w = w' := by
 have hl := h.len
 go_enter Tryz.func64, Tryz.ntmps64
 go_wp2
 go_loop [8] (fun i => ∃ k : Nat, k ≤ xs.length ∧ i = .int .i64 k ∧ n ∉ xs.take k) (fun i => xs.length - (intOf i).toNat)
 case atStart => exact ⟨0, Nat.zero_le _, rfl, by simp⟩
 case round =>
  obtain ⟨k, hk, rfl, hc⟩ := hrel
  by_cases hlt : k < xs.length
  ·obtain ⟨b, o, rfl, hb, hcell, -⟩ := h.str hlt
   clear h
   by_cases he : xs[k] = n
   ·have ht := str_eq he.symm
    have hv := hide (findI_at hlt hc he)
    clear he
    go_wp2
    go_ret
    exact ⟨ret_int hv.out.symm, rfl⟩
   ·have ht := str_ne (fun e => he (Eq.symm e))
    have hv := hide (notMem_take_snoc hlt hc he)
    clear he
    go_wp2
    go_round
    case rel => exact ⟨k + 1, by omega, by go_num, hv.out⟩
    case measure => simp [intOf]; omega
  ·have hv := hide (findI_no (notMem_of_take hk hlt hc))
   go_wp2
   go_ret
   exact ⟨ret_int hv.out.symm, rfl⟩
end Go.Proofs.YtbjokgnnklcbcaaGreatDoor
/-! Layer 7: Names: is all that an expression names there? -/
namespace Go.Proofs.YtbjokgnnklcbcaaGreatDoor
open Go.RowKit
theorem PgS.more {w : World} {B B' : Nat} {A1 A2 A3 A4 A5 A6 A7 : Option Addr} {p : Pg} (h : PgS w B A1 A2 A3 A4 A5 A6 A7 p) (hB : B ≤ B') : PgS w B' A1 A2 A3 A4 A5 A6 A7 p :=
 ⟨h.1.more sta_hd hB, h.2.more sta_fd hB, h.3.more sta_sa hB, h.4.more sta_ac hB, h.5.more sta_ta hB, h.6.more sta_st hB, h.7.more sta_str hB⟩
end Go.Proofs.YtbjokgnnklcbcaaGreatDoor
/-! Layer 7: stmt: what is wrong with a statement. -/
namespace Go.Proofs.YtbjokgnnklcbcaaGreatDoor
open Go.RowKit
/-- A program lies in a world and in what has grown of it. -/
theorem PgS.grown {wb : World} {B : Nat} {A1 A2 A3 A4 A5 A6 A7 : Option Addr} {p : Pg} (h : PgS wb B A1 A2 A3 A4 A5 A6 A7 p) (hB : B ≤ wb.heap.size) (d : Nat) (os : Array Obj) :
  B ≤ (Go.Sort.grow (redrawn wb d) os).heap.size ∧ PgS (Go.Sort.grow (redrawn wb d) os) B A1 A2 A3 A4 A5 A6 A7 p :=
 ⟨Nat.le_trans hB (gsize wb d os), h.below ((below_regrown wb d os).mono hB)⟩
end Go.Proofs.YtbjokgnnklcbcaaGreatDoor

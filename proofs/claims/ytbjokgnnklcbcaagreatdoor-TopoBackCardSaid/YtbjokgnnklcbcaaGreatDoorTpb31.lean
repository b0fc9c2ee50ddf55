import Derived.Test.YtbjokgnnklcbcaaGreatDoorTpb11
import Derived.Orders
import Derived.Test.YtbjokgnnklcbcaaGreatDoorTpb07
import Derived.Test.YtbjokgnnklcbcaaGreatDoorTpb12
import Derived.Test.YtbjokgnnklcbcaaGreatDoorTpb13
import Derived.Shelf.Abstract
import Derived.OwnWalkIn
import Derived.TacticsInMore
import Derived.LoopNIn
import Derived.Laws.EntriesVeiled
import Derived.Outline
import Derived.Shelf.AbstractIn
import Derived.Deep.DeepCutAuto
import Derived.Deep.CutBlock
import Derived.Test.YtbjokgnnklcbcaaGreatDoorTpb01
import Derived.Test.YtbjokgnnklcbcaaGreatDoorTpb04
import Derived.Test.YtbjokgnnklcbcaaGreatDoorTpb30
import Derived.Test.YtbjokgnnklcbcaaGreatDoorTpb02
import Derived.Deep.RegionWith
import Derived.Test.YtbjokgnnklcbcaaGreatDoorTpb08
set_option linter.all false
/-! The document's numbers: compared. -/
namespace Go.Proofs.YtbjokgnnklcbcaaGreatDoor
open Go.RowKit
attribute [local go_sem ↓] load_eq store_eq
/-- What holds when those operations have come up that are listed. -/
structure CmpL (x y : Value) (ra rb : Array Value) (n : Nat) (wb : World) (l0 l1 l2 l3 l4 l5 l6 l7 : Bool) (s5 s6 s8 s9 s10 s11 : Value) (g5 g6 : Nat) (w : World) : Prop where
 hb : Below wb.heap.size wb w
 i0 : l0 = true → s8 = x
 i1 : l1 = true → s9 = .agg ra
 i2 : l2 = true → s10 = y
 i3 : l3 = true → s11 = .agg rb
 i4 : l4 = true → s5 = .pointer (some ⟨g5, 0, none⟩) ∧ wb.heap.size ≤ g5 ∧ w.heap[g5]? = some (.cells (if l6 then ra else Tryz.zeroCells193) 193 (0, 0))
 i5 : l5 = true → s6 = .pointer (some ⟨g6, 0, none⟩) ∧ wb.heap.size ≤ g6 ∧ w.heap[g6]? = some (.cells (if l7 then rb else Tryz.zeroCells193) 193 (0, 0))
 i6 : l4 = true → l5 = true → g5 ≠ g6
 i7 : l6 = true → l4 = true
 i8 : l7 = true → l5 = true
theorem heap_lt {w : World} {g : Nat} {o : Obj} (h : w.heap[g]? = some o) : g < w.heap.size := (Array.getElem?_eq_some_iff.1 h).1
theorem CmpL.mono {x y : Value} {ra rb : Array Value} {n : Nat} {wb w w' : World} {l0 l1 l2 l3 l4 l5 l6 l7 : Bool} {s5 s6 s8 s9 s10 s11 : Value} {g5 g6 : Nat} (h : CmpL x y ra rb n wb l0 l1 l2 l3 l4 l5 l6 l7 s5 s6 s8 s9 s10 s11 g5 g6 w) (hb : Below w.heap.size w w') : CmpL x y ra rb n wb l0 l1 l2 l3 l4 l5 l6 l7 s5 s6 s8 s9 s10 s11 g5 g6 w' :=
 { h with
  hb := h.hb.trans (hb.mono h.hb.size)
  i4 := fun q => ⟨(h.i4 q).1, (h.i4 q).2.1, (hb.block _ (heap_lt (h.i4 q).2.2)).trans (h.i4 q).2.2⟩
  i5 := fun q => ⟨(h.i5 q).1, (h.i5 q).2.1, (hb.block _ (heap_lt (h.i5 q).2.2)).trans (h.i5 q).2.2⟩ }
end Go.Proofs.YtbjokgnnklcbcaaGreatDoor
/-! Layer 3, the document's: one token. -/
namespace Go.Proofs.YtbjokgnnklcbcaaGreatDoor
open Go.RowKit
/-- A box of a token. -/
structure KBox (W : World) (g : Nat) (k : Int) (S : ByteArray) (wd nh nl a : Int) : Prop where
 lt : g < W.heap.size
 c0 : W.cell? ⟨g, 0, none⟩ = some (.int .u8 k)
 c1 : W.cell? ⟨g, 1, none⟩ = some (.string S)
 c2 : W.cell? ⟨g, 2, none⟩ = some (.int .i64 wd)
 c3 : W.cell? ⟨g, 3, none⟩ = some (.int .u64 nh)
 c4 : W.cell? ⟨g, 4, none⟩ = some (.int .u64 nl)
 c5 : W.cell? ⟨g, 5, none⟩ = some (.int .i64 a)
 f0 : W.frozen? ⟨g, 0, none⟩ = false
 f1 : W.frozen? ⟨g, 1, none⟩ = false
 f2 : W.frozen? ⟨g, 2, none⟩ = false
 f3 : W.frozen? ⟨g, 3, none⟩ = false
 f4 : W.frozen? ⟨g, 4, none⟩ = false
 f5 : W.frozen? ⟨g, 5, none⟩ = false
section
variable {W W' : World} {g B : Nat} {k : Int} {S : ByteArray} {wd nh nl a : Int}
theorem KBox.below (h : KBox W g k S wd nh nl a) (hb : Below B W W') (hg : g < B) : KBox W' g k S wd nh nl a := by
 have kk := bcell' hb
 exact ⟨Nat.lt_of_lt_of_le h.lt hb.size, (kk.1 g 0 hg).trans h.c0, (kk.1 g 1 hg).trans h.c1, (kk.1 g 2 hg).trans h.c2, (kk.1 g 3 hg).trans h.c3, (kk.1 g 4 hg).trans h.c4, (kk.1 g 5 hg).trans h.c5, (kk.2 g 0 hg).trans h.f0, (kk.2 g 1 hg).trans h.f1, (kk.2 g 2 hg).trans h.f2, (kk.2 g 3 hg).trans h.f3, (kk.2 g 4 hg).trans h.f4, (kk.2 g 5 hg).trans h.f5⟩
theorem KBox.new (W : World) (k : Int) (S : ByteArray) (wd nh nl a : Int) (t : TypeId) : KBox (W.alloc (.cells #[.int .u8 k, .string S, .int .i64 wd, .int .u64 nh, .int .u64 nl, .int .i64 a] t)) W.heap.size k S wd nh nl a := by
 obtain ⟨wa, hwa, hsa, hba, hca, hfa⟩ := box1 W #[.int .u8 k, .string S, .int .i64 wd, .int .u64 nh, .int .u64 nl, .int .i64 a] t
 rw [hwa]
 exact ⟨by omega, hca 0, hca 1, hca 2, hca 3, hca 4, hca 5, hfa 0, hfa 1, hfa 2, hfa 3, hfa 4, hfa 5⟩
theorem KBox.alloc (h : KBox W g k S wd nh nl a) (o : Obj) : KBox (W.alloc o) g k S wd nh nl a := h.below ((Below.refl _ _).alloc (Nat.le_refl _) o) h.lt
theorem KBox.far {q i : Nat} (h : KBox W g k S wd nh nl a) (v : Value) (hk : q ≠ g) : KBox (W.setCell ⟨q, i, none⟩ v) g k S wd nh nl a := by
 have hh : (W.setCell ⟨q, i, none⟩ v).heap[g]? = W.heap[g]? := Below.heap_setCell _ _ _ _ (fun e => hk e.symm)
 have hc : ∀ j, (W.setCell ⟨q, i, none⟩ v).cell? ⟨g, j, none⟩ = W.cell? ⟨g, j, none⟩ := fun j => by unfold World.cell?; rw [hh]
 have hf : ∀ j, (W.setCell ⟨q, i, none⟩ v).frozen? ⟨g, j, none⟩ = W.frozen? ⟨g, j, none⟩ := fun j => by unfold World.frozen?; rw [hh]
 exact ⟨by rw [setCell_size]; exact h.lt, (hc 0).trans h.c0, (hc 1).trans h.c1, (hc 2).trans h.c2, (hc 3).trans h.c3, (hc 4).trans h.c4, (hc 5).trans h.c5, (hf 0).trans h.f0, (hf 1).trans h.f1, (hf 2).trans h.f2, (hf 3).trans h.f3, (hf 4).trans h.f4, (hf 5).trans h.f5⟩
end
end Go.Proofs.YtbjokgnnklcbcaaGreatDoor
/-! Layer 3, the document's: Lex. -/
namespace Go.Proofs.YtbjokgnnklcbcaaGreatDoor
open Go.RowKit
attribute [local go_sem ↓] app_eq
/-- A box of a fault, as it was made. -/
structure FBox (W : World) (g : Nat) : Prop where
 lt : g < W.heap.size
 c0 : W.cell? ⟨g, 0, none⟩ = some (.int .i64 0)
 c1 : W.cell? ⟨g, 1, none⟩ = some (.int .i64 0)
 c2 : W.cell? ⟨g, 2, none⟩ = some (.int .i64 0)
 f0 : W.frozen? ⟨g, 0, none⟩ = false
 f1 : W.frozen? ⟨g, 1, none⟩ = false
 f2 : W.frozen? ⟨g, 2, none⟩ = false
theorem FBox.below {W W' : World} {g B : Nat} (h : FBox W g) (hb : Below B W W') (hg : g < B) : FBox W' g := by
 have kk := bcell' hb
 exact ⟨Nat.lt_of_lt_of_le h.lt hb.size, (kk.1 g 0 hg).trans h.c0, (kk.1 g 1 hg).trans h.c1, (kk.1 g 2 hg).trans h.c2, (kk.2 g 0 hg).trans h.f0, (kk.2 g 1 hg).trans h.f1, (kk.2 g 2 hg).trans h.f2⟩
end Go.Proofs.YtbjokgnnklcbcaaGreatDoor

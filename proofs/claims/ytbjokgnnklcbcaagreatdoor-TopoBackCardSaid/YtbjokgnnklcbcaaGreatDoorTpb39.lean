import Derived.Test.YtbjokgnnklcbcaaGreatDoorTpb38
import Derived.Test.YtbjokgnnklcbcaaGreatDoorTpb22
set_option linter.all false
/-! Layer 13: Text. -/
namespace Go.Proofs.YtbjokgnnklcbcaaGreatDoor
open Go.RowKit
/-- What Text holds: the network's box, the builder. -/
structure TxS (w W : World) (b : Nat) (n : Net) (A1 A2 A3 : Option Addr) (c1 c2 c3 : Nat) (l : List UInt8) : Prop where
 bel : Below w.heap.size w W
 bl : BlS W b l
 net : NetS W w.heap.size A1 A2 A3 n
 pow : PowS W
 gb : w.heap.size < b
 lt : b < W.heap.size
 x0 : W.cell? ⟨w.heap.size, 0, none⟩ = some (.slice A1 n.sw.length c1)
 x1 : W.cell? ⟨w.heap.size, 1, none⟩ = some (.slice A2 n.ports.length c2)
 x2 : W.cell? ⟨w.heap.size, 2, none⟩ = some (.slice A3 n.links.length c3)
theorem PowS.under {w w' : World} {B : Nat} (h : PowS w) (hb : Below B w w') (hg : 1 < B) : PowS w' := by
 unfold PowS Go.Lib.TabIs at *
 rw [← h]
 unfold World.var?
 rw [show Tryz.prog.globalNamed "internal/strconv.uint64pow10" = some 1 from by kernel_rfl]
 simp only [Option.bind_some]
 rw [hb.block _ hg]
theorem TxS.step {w W W' : World} {b : Nat} {n : Net} {A1 A2 A3 : Option Addr} {c1 c2 c3 : Nat} {l l' : List UInt8} (h : TxS w W b n A1 A2 A3 c1 c2 c3 l) (hp : 1 < w.heap.size) (hb : Below b W W') (hl : BlS W' b l') : TxS w W' b n A1 A2 A3 c1 c2 c3 l' :=
 have hg := h.gb
 have kk := bcell' hb
 ⟨h.bel.trans (hb.mono (Nat.le_of_lt hg)), hl, h.net.below (hb.mono (Nat.le_of_lt hg)), h.pow.under hb (Nat.lt_trans hp hg), hg, Nat.lt_of_lt_of_le h.lt hb.size, (kk.1 _ 0 hg).trans h.x0, (kk.1 _ 1 hg).trans h.x1, (kk.1 _ 2 hg).trans h.x2⟩
theorem BlS.below {w w' : World} {b : Nat} {l : List UInt8} (h : BlS w b l) (hb : Below w.heap.size w w') (hlt : b < w.heap.size) : BlS w' b l := by
 have key : ∀ p, Go.Lib.BuilderAt 80 5 b b p (Go.Lib.byteCells l) w → Go.Lib.BuilderAt 80 5 b b p (Go.Lib.byteCells l) w' := fun p hp => by
  obtain ⟨h1, v, h2, h3, h4⟩ := hp
  exact ⟨h1, v, (hb.block b hlt).trans h2, own_belowR h3 hb (Nat.le_refl _), h4⟩
 rcases h with h | h
 ·exact .inl (key _ h)
 ·exact .inr (key _ h)
theorem TxS.below {w W W' : World} {b : Nat} {n : Net} {A1 A2 A3 : Option Addr} {c1 c2 c3 : Nat} {l : List UInt8} (h : TxS w W b n A1 A2 A3 c1 c2 c3 l) (hp : 1 < w.heap.size) (hb : Below W.heap.size W W') : TxS w W' b n A1 A2 A3 c1 c2 c3 l :=
 h.step hp (hb.mono (Nat.le_of_lt h.lt)) (h.bl.below hb h.lt)
theorem TxS.write {w W : World} {b : Nat} {n : Net} {A1 A2 A3 : Option Addr} {c1 c2 c3 : Nat} {l r : List UInt8} (s : ByteArray) (h : TxS w W b n A1 A2 A3 c1 c2 c3 l) (hp : 1 < w.heap.size) (ht : textB n = l ++ (s.data.toList ++ r)) (hm : mayB n = true) :
  Calls Tryz.prog 33 #[.pointer (some ⟨b, 0, none⟩), .string s] W fun e w' => (∃ v, e = .returned v) ∧ TxS w w' b n A1 A2 A3 c1 c2 c3 (l ++ s.data.toList) := by
 have hl := (text_len hm).1
 rw [ht, List.length_append, List.length_append] at hl
 exact (write13 b l s W h.bl (by rw [Lib.size_eq]; omega) (Nat.le_of_lt h.lt)).mono fun e w' g => ⟨⟨_, g.1⟩, h.step hp g.2.2 g.2.1⟩
theorem sw_of {n : Net} (hm : mayB n = true) : n.ports.length = n.sw.length ∧ (∀ k (h : k < n.sw.length), n.sw[k].size ≤ 16) ∧ ∀ k (h : k < n.ports.length), ∀ p ∈ n.ports[k], 1 ≤ p ∧ p ≤ 511 := by
 obtain ⟨⟨h1, h2⟩, h3, -, -⟩ := mayB_iff.1 hm
 refine ⟨h2, fun k h => ?_, fun k h p hp => ?_⟩
 ·have := (h3 k h).1
  rw [show n.sw.getD k ByteArray.empty = n.sw[k] from getD_eq h] at this
  exact (name_parts this).2.2.2
 ·have := (h3 k (by omega)).2.2
  rw [show n.ports.getD k [] = n.ports[k] from getD_eq h] at this
  exact (may_ports this).1 p hp
theorem ln_of {n : Net} (hm : mayB n = true) (k : Nat) (h : k < n.links.length) : (∃ i, n.links[k].1.1 = ((i : Nat) : Int) ∧ i < n.sw.length) ∧ (1 ≤ n.links[k].1.2 ∧ n.links[k].1.2 ≤ 511) ∧ (∃ i, n.links[k].2.1 = ((i : Nat) : Int) ∧ i < n.sw.length) ∧ 1 ≤ n.links[k].2.2 ∧ n.links[k].2.2 ≤ 511 := by
 obtain ⟨⟨h1, h2⟩, -, h4, -⟩ := mayB_iff.1 hm
 have key : ∀ e : Int × Int, thereB n e = true → (∃ i, e.1 = ((i : Nat) : Int) ∧ i < n.sw.length) ∧ 1 ≤ e.2 ∧ e.2 ≤ 511 := by
  intro e he
  unfold thereB at he
  rw [decide_eq_true_eq] at he
  obtain ⟨a, b, c⟩ := he
  have hl : e.1.toNat < n.ports.length := by omega
  rw [getD_eq hl] at c
  exact ⟨⟨e.1.toNat, by omega, by omega⟩, (sw_of hm).2.2 _ hl _ c⟩
 have m1 : n.links[k].1 ∈ endsOf n.links := List.mem_flatMap.2 ⟨n.links[k], List.getElem_mem _, by simp⟩
 have m2 : n.links[k].2 ∈ endsOf n.links := List.mem_flatMap.2 ⟨n.links[k], List.getElem_mem _, by simp⟩
 have k1 := key _ (h4 _ m1)
 have k2 := key _ (h4 _ m2)
 exact ⟨k1.1, k1.2, k2.1, k2.2⟩
end Go.Proofs.YtbjokgnnklcbcaaGreatDoor

import Derived.Test.YtbjokgnnklcbcaaGreatDoorTpb23
set_option linter.all false
/-! The document's layer 13: a reader; now, fail, take. -/
namespace Go.Proofs.YtbjokgnnklcbcaaGreatDoor
open Go.RowKit
def wrN (r : Rf) : Int := (r.bad.getD (0, 0)).1
def atN (r : Rf) : Int := (((r.bad.getD (0, 0)).2 : Nat) : Int)
/-- The document's reader: where it is, the network so far, a fault. -/
def RfB (w : World) (g : Nat) (r : Rf) (v1 v2 v3 : Value) : Prop :=
 hasEnd r.l ∧ ∃ A cap T k, r.l = T.drop k ∧ Sl 6 rTk w g A T ∧ w.heap[g]? = some (.cells #[.slice A T.length cap, .int .i64 ((k : Nat) : Int), v1, v2, v3, .bool r.bad.isSome, .int .i64 (wrN r), .int .i64 (atN r)] 58 (0, 0))
theorem RfB.lt {w : World} {g : Nat} {r : Rf} {v1 v2 v3 : Value} (h : RfB w g r v1 v2 v3) : g < w.heap.size := by
 obtain ⟨-, A, cap, T, k, -, -, h⟩ := h
 exact (Array.getElem?_eq_some_iff.1 h).1
theorem RfB.below {w w' : World} {B g : Nat} {r : Rf} {v1 v2 v3 : Value} (h : RfB w g r v1 v2 v3) (hb : Below B w w') (hB : g < B) : RfB w' g r v1 v2 v3 := by
 obtain ⟨h0, A, cap, T, k, h1, h2, h3⟩ := h
 exact ⟨h0, A, cap, T, k, h1, h2.keep sta_tk fun q hq => hb.cell (Nat.lt_trans hq hB), (hb.block g hB).trans h3⟩
structure RfO (w : World) (g : Nat) (r : Rf) (v1 v2 v3 : Value) (b o cap m k : Nat) : Prop where
 lt : g < w.heap.size
 bg : b < g
 klt : k < m
 ml : m ≤ 9223372036854775807
 c0 : w.cell? ⟨g, 0, none⟩ = some (.slice (some ⟨b, o, none⟩) m cap)
 c1 : w.cell? ⟨g, 1, none⟩ = some (.int .i64 (k : Int))
 c2 : w.cell? ⟨g, 2, none⟩ = some v1
 c3 : w.cell? ⟨g, 3, none⟩ = some v2
 c4 : w.cell? ⟨g, 4, none⟩ = some v3
 c5 : w.cell? ⟨g, 5, none⟩ = some (.bool r.bad.isSome)
 c6 : w.cell? ⟨g, 6, none⟩ = some (.int .i64 (wrN r))
 c7 : w.cell? ⟨g, 7, none⟩ = some (.int .i64 (atN r))
 fr : ∀ i, w.frozen? ⟨g, i, none⟩ = false
 k0 : w.cell? ⟨b, o + k * 6, none⟩ = some (.int .u8 ((headT r.l).kind : Int))
 k1 : w.cell? ⟨b, o + k * 6 + 1, none⟩ = some (.string ⟨(headT r.l).s.toArray⟩)
 k2 : w.cell? ⟨b, o + k * 6 + 2, none⟩ = some (.int .i64 ((headT r.l).w : Int))
 k3 : w.cell? ⟨b, o + k * 6 + 3, none⟩ = some (.int .u64 (((headT r.l).n / 18446744073709551616 : Nat) : Int))
 k4 : w.cell? ⟨b, o + k * 6 + 4, none⟩ = some (.int .u64 (((headT r.l).n % 18446744073709551616 : Nat) : Int))
 k5 : w.cell? ⟨b, o + k * 6 + 5, none⟩ = some (.int .i64 ((headT r.l).pl : Int))
theorem RfB.open_ {w : World} {g : Nat} {r : Rf} {v1 v2 v3 : Value} (h : RfB w g r v1 v2 v3) : ∃ b o cap m k, RfO w g r v1 v2 v3 b o cap m k := by
 have hlt := h.lt
 obtain ⟨h0, A, cap, T, k, h1, h2, h3⟩ := h
 have hk : k < T.length := by
  rcases Nat.lt_or_ge k T.length with h4 | h4
  ·exact h4
  ·exact absurd (by rw [h1]; exact List.drop_eq_nil_of_le h4) h0.ne
 obtain ⟨b, o, rfl, hb, a0, a1, a2, a3, a4, a5⟩ := h2.tok hk
 have hh : T[k] = headT r.l := by rw [h1, List.drop_eq_getElem_cons hk]; rfl
 rw [hh] at a0 a1 a2 a3 a4 a5
 refine ⟨b, o, cap, T.length, k, hlt, hb, hk, h2.len, ?_, ?_, ?_, ?_, ?_, ?_, ?_, ?_, ?_, a0, a1, a2, a3, a4, a5⟩
 all_goals simp [World.cell?, World.frozen?, h3]
end Go.Proofs.YtbjokgnnklcbcaaGreatDoor
/-! The document's layer 13: fail, take, has, want. -/
namespace Go.Proofs.YtbjokgnnklcbcaaGreatDoor
open Go.RowKit
theorem Sl.setB {w : World} {g i : Nat} {A : Option Addr} {T : List Tk} (h : Sl 6 rTk w g A T) (v : Value) : Sl 6 rTk (w.setCell ⟨g, i, none⟩ v) g A T :=
 h.keep sta_tk fun q hq => World.cell?_of_block (Below.heap_setCell w ⟨g, i, none⟩ v q.block (by show q.block ≠ g; omega))
/-- A fault is laid. -/
theorem RfB.fault {w : World} {g : Nat} {l : List Tk} {n : Net} {v1 v2 v3 : Value} (h : RfB w g ⟨l, n, none⟩ v1 v2 v3) (e : Int) (pl : Nat) :
  RfB (((w.setCell ⟨g, 5, none⟩ (.bool true)).setCell ⟨g, 6, none⟩ (.int .i64 e)).setCell ⟨g, 7, none⟩ (.int .i64 (pl : Int))) g ⟨l, n, some (e, pl)⟩ v1 v2 v3 := by
 obtain ⟨h0, A, cap, T, k, h1, h2, h3⟩ := h
 refine ⟨h0, A, cap, T, k, h1, ?_, ?_⟩
 ·exact ((h2.setB _).setB _).setB _
 ·simp [World.setCell, Array.getElem?_modify, h3, wrN, atN]
theorem RfB.adv {w : World} {g k : Nat} {l : List Tk} {n : Net} {v1 v2 v3 : Value} (h : RfB w g ⟨l, n, none⟩ v1 v2 v3) (hc : w.cell? ⟨g, 1, none⟩ = some (.int .i64 (k : Int))) (hk : (headT l).kind ≠ 0) :
  RfB (w.setCell ⟨g, 1, none⟩ (.int .i64 ((k : Int) + 1))) g ⟨l.tail, n, none⟩ v1 v2 v3 := by
 obtain ⟨h0, A, cap, T, k', h1, h2, h3⟩ := h
 have hkk : k' = k := by
  have := hc
  simp [World.cell?, h3] at this
  omega
 subst hkk
 have hl : advT l = l.tail := by unfold advT; rw [if_neg hk]
 refine ⟨by show hasEnd l.tail; rw [← hl]; exact h0.adv, A, cap, T, k' + 1, ?_, ?_, ?_⟩
 ·show l.tail = T.drop (k' + 1)
  have h1' : l = T.drop k' := h1
  rw [h1', List.tail_drop]
 ·exact h2.setB _
 ·simp [World.setCell, Array.getElem?_modify, h3, wrN, atN]
end Go.Proofs.YtbjokgnnklcbcaaGreatDoor
/-! The document's layer 13: take, has, want. -/
namespace Go.Proofs.YtbjokgnnklcbcaaGreatDoor
open Go.RowKit
theorem RfB.setNew {g r i : Nat} {W : World} {rf : Rf} {v1 v2 v3 : Value} (h : RfB W g rf v1 v2 v3) (hr : g < r) (v : Value) : RfB (W.setCell ⟨r, i, none⟩ v) g rf v1 v2 v3 :=
 h.below (B := g + 1) ((Below.refl _ _).setCell (by show g + 1 ≤ r; omega) _) (Nat.lt_succ_self _)
theorem RfB.drew {g : Nat} {W : World} {rf : Rf} {v1 v2 v3 : Value} (h : RfB W g rf v1 v2 v3) : RfB W.drew g rf v1 v2 v3 := h
end Go.Proofs.YtbjokgnnklcbcaaGreatDoor
/-! The document's layer 13: ports (plain part). -/
namespace Go.Proofs.YtbjokgnnklcbcaaGreatDoor
open Go.RowKit
/-- How far a reader is from its end. -/
def leftR (g : Nat) (W : World) : Nat := match W.cell? ⟨g, 5, none⟩, W.cell? ⟨g, 0, none⟩, W.cell? ⟨g, 1, none⟩ with
 | some (.bool false), some (.slice _ m _), some (.int _ k) => m - k.toNat + 1
 | _, _, _ => 0
theorem RfB.left {w : World} {g : Nat} {r : Rf} {v1 v2 v3 : Value} (h : RfB w g r v1 v2 v3) : leftR g w = if r.bad.isSome then 0 else r.l.length + 1 := by
 obtain ⟨h0, A, cap, T, k, h1, h2, h3⟩ := h
 unfold leftR
 have c0 : w.cell? ⟨g, 0, none⟩ = some (.slice A T.length cap) := by simp [World.cell?, h3]
 have c1 : w.cell? ⟨g, 1, none⟩ = some (.int .i64 (k : Int)) := by simp [World.cell?, h3]
 have c5 : w.cell? ⟨g, 5, none⟩ = some (.bool r.bad.isSome) := by simp [World.cell?, h3]
 rw [c0, c1, c5]
 cases hb : r.bad.isSome with
 | true => rfl
 | false =>
  simp only [Int.toNat_natCast, Bool.false_eq_true, if_false]
  rw [h1, List.length_drop]
end Go.Proofs.YtbjokgnnklcbcaaGreatDoor

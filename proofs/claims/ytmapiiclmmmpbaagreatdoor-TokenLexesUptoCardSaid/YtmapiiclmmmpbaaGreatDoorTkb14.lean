import Derived.Test.YtmapiiclmmmpbaaGreatDoorTkb13
set_option linter.all false
/-! Layer 7: stmt: what is wrong with a statement. -/
namespace Go.Proofs.YtmapiiclmmmpbaaGreatDoor
open Go.RowKit
/-- A program lies in a world and in what has grown of it. -/
theorem PgS.grown {wb : World} {B : Nat} {A1 A2 A3 A4 A5 A6 A7 : Option Addr} {p : Pg} (h : PgS wb B A1 A2 A3 A4 A5 A6 A7 p) (hB : B ≤ wb.heap.size) (d : Nat) (os : Array Obj) :
  B ≤ (Go.Sort.grow (redrawn wb d) os).heap.size ∧ PgS (Go.Sort.grow (redrawn wb d) os) B A1 A2 A3 A4 A5 A6 A7 p :=
 ⟨Nat.le_trans hB (gsize wb d os), h.below ((below_regrown wb d os).mono hB)⟩
end Go.Proofs.YtmapiiclmmmpbaaGreatDoor

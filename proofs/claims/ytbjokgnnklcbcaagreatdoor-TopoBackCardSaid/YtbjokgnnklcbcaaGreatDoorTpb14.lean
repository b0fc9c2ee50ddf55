import Derived.Test.YtbjokgnnklcbcaaGreatDoorTpb12
import Derived.Test.YtbjokgnnklcbcaaGreatDoorTpb13
import Derived.Shelf.Abstract
import Derived.OwnWalkIn
import Derived.TacticsInMore
import Derived.LoopNIn
import Derived.Laws.EntriesVeiled
import Derived.Outline
import Derived.Shelf.AbstractIn
import Derived.Maps.AppendAt
import Derived.Laws.OwnMore
import Derived.Deep.AppendLies
import Derived.OwnWalk
set_option linter.all false
/-! Items in a row that a call has made: what append makes of them. -/
namespace Go.Proofs.YtbjokgnnklcbcaaGreatDoor
open Go.RowKit
/-- append, kept from being opened. -/
def AppG (ts : Array TypeId) (ty : TypeId) (args : Array Value) : Sem Value := Builtin.append_ ts ty args
theorem app_eq (ts : Array TypeId) (ty : TypeId) (args : Array Value) : Builtin.append_ ts ty args = AppG ts ty args := rfl
theorem own_belowR {w w' : World} {base B : Nat} {e : TypeId} {size : Nat} {v : Value} {n : Nat} {xs : List Value} (h : w.ownsRow base e size v n xs) (hb : Below B w w') (hB : w.heap.size ≤ B) : w'.ownsRow base e size v n xs := by
 refine ⟨h.1, ?_⟩
 rcases h.2 with h2 | ⟨g, cap, cur, rfl, hg, hh, r⟩
 ·exact .inl h2
 ·have := (h.lt g rfl).2
  exact .inr ⟨g, cap, cur, rfl, hg, (hb.block g (by omega)).trans hh, r⟩
/-- How many items a list may have at most. -/
def bigI : Nat := 100000000
end Go.Proofs.YtbjokgnnklcbcaaGreatDoor

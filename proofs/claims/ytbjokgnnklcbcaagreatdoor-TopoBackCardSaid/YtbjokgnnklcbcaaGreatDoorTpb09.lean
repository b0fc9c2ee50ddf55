import Derived.Test.YtbjokgnnklcbcaaGreatDoorTpb06
import Derived.Test.YtbjokgnnklcbcaaGreatDoorTpb07
set_option linter.all false
/-! Cycles: a search in depth that marks, and one in width from each step; both tell whether a step reaches itself. -/
namespace Go.Proofs.YtbjokgnnklcbcaaGreatDoor
def lkI : List (Int × Int) → Int → Int
 | [], _ => 0
 | x :: M, i => if i = x.1 then x.2 else lkI M i
def white (n : Nat) (M : List (Int × Int)) : Nat := ((List.range n).filter fun j : Nat => decide (lkI M (j : Int) = 0)).length
inductive Rch (g : Int → List Int) : Int → Int → Prop
 | one {i t : Int} : t ∈ g i → 0 ≤ t → Rch g i t
 | more {i t u : Int} : Rch g i t → u ∈ g t → 0 ≤ u → Rch g i u
theorem Rch.cons {g : Int → List Int} {i t u : Int} (h : t ∈ g i) (h0 : 0 ≤ t) (hr : Rch g t u) : Rch g i u := by
 induction hr with
 | one a b => exact .more (.one h h0) a b
 | more _ a b ih => exact .more ih a b
/-- Rch from i ends in a set that i's own next ones lie in, and that is shut. -/
theorem Rch.into {g : Int → List Int} {S : Int → Prop} (hS : ∀ j, S j → ∀ t ∈ g j, 0 ≤ t → S t) {i t : Int} (h : Rch g i t) (hi : ∀ t ∈ g i, 0 ≤ t → S t) : S t := by
 induction h with
 | one a b => exact hi _ a b
 | more _ a b ih => exact hS _ ih _ a b
structure Nxt (n : Nat) (M M' : List (Int × Int)) : Prop where
 gray : ∀ j, lkI M' j = 1 ↔ lkI M j = 1
 black : ∀ j, lkI M j = 2 → lkI M' j = 2
 white : white n M' ≤ white n M
theorem Nxt.refl (n : Nat) (M : List (Int × Int)) : Nxt n M M := ⟨fun _ => Iff.rfl, fun _ h => h, Nat.le_refl _⟩
theorem Nxt.trans {n : Nat} {M M' M'' : List (Int × Int)} (a : Nxt n M M') (b : Nxt n M' M'') : Nxt n M M'' := ⟨fun j => (b.gray j).trans (a.gray j), fun j h => b.black j (a.black j h), Nat.le_trans b.white a.white⟩
end Go.Proofs.YtbjokgnnklcbcaaGreatDoor
/-! Lowered programs, plain: which may be, by the program's functions and by the document's. -/
set_option linter.all false
namespace Go.Proofs.YtbjokgnnklcbcaaGreatDoor
open Go.RowKit
/-- Lowered programs, and which may be: as the program tells it (L), and as the document does (R). -/
structure Nd where
 op : Int
 w : Int
 a : Int
 b : Int
 hi : Int
 lo : Int
structure Ins where
 kind : Int
 a : Int
 b : Int
 e : List Nd
 to : Int
structure Pt where
 vh : Int
 vl : Int
 mh : Int
 ml : Int
structure Br where
 pats : List Pt
 to : Int
structure Stp where
 takes : List Int
 keys : List (List Nd)
 brs : List Br
 to : Int
structure Lac where
 params : List Int
 body : List Ins
structure Rn where
 act : Int
 args : List (Int × Int)
structure Ltb where
 keys : List (List Nd)
 kinds : List Int
 acts : List Int
 run : Rn
structure Lp where
 heads : List (List Int)
 metas : List Int
 steps : List Stp
 acts : List Lac
 tabs : List Ltb
 control : List Ins
 emit : List Int
 nh : List ByteArray
 nf : List (List ByteArray)
 nm : List ByteArray
 na : List ByteArray
 nt : List ByteArray
def fitN (w hi lo : Int) : Bool := fitsB w (0, hi, lo)
end Go.Proofs.YtbjokgnnklcbcaaGreatDoor

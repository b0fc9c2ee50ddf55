import Derived.Test.YtjijggighppjbaaDnP
/-! Links down: what the two texts compute, as plain lists. -/
namespace Go.Proofs.Ytjijggighppjbaa
def validTo (n : Net) (l : List Int) (k : Nat) : Prop := ∀ i, i < k → 0 ≤ l.getD i 0 ∧ l.getD i 0 < n.links.length ∧ l.getD i 0 ∉ l.take i
instance (n : Net) (l : List Int) (k : Nat) : Decidable (validTo n l k) := by unfold validTo; infer_instance
def keepL (ls : List ((Int × Int) × (Int × Int))) (l : List Int) (o : Nat) : List ((Int × Int) × (Int × Int)) :=
  ((ls.zipIdx o).filter fun x => decide ((x.2 : Int) ∉ l)).map fun x => x.1
theorem keepL_take {ls : List ((Int × Int) × (Int × Int))} {l : List Int} {k : Nat} (hk : k < ls.length) :
    keepL (ls.take (k + 1)) l 0 = keepL (ls.take k) l 0 ++ if (k : Int) ∈ l then [] else [ls[k]] := by
  have e : (ls.take k ++ [ls[k]]).zipIdx 0 = (ls.take k).zipIdx 0 ++ [(ls[k], k)] := by
    rw [List.zipIdx_append, List.length_take, Nat.min_eq_left (by omega)]; simp
  unfold keepL
  rw [List.take_succ_eq_append_getElem hk, e, List.filter_append, List.map_append]
  congr 1
  by_cases h : (k : Int) ∈ l <;> simp [h]
def stays (n m : Net) (i : Nat) (p : Int) : Bool := (nextB n (i, p)).2.2 == (nextB m (i, p)).2.2
def cutNet (n : Net) (l : List Int) : Net := ⟨n.sw, n.ports, keepL n.links l 0⟩
def outPort (n : Net) (l : List Int) (i : Nat) : List Int := (n.ports.getD i []).filter (stays n (cutNet n l) i)
def outNet (n : Net) (l : List Int) : Net := ⟨n.sw, (List.range n.sw.length).map (outPort n l), keepL n.links l 0⟩
def okNet (n : Net) (l : List Int) : Bool := mayB n && decide (validTo n l l.length)
def emptyNet : Net := ⟨[], [], []⟩
def refNet (n : Net) (l : List Int) : Net × Int := if okNet n l = true then (outNet n l, 0) else (emptyNet, 2)
theorem okNet_no {n : Net} {l : List Int} {k : Nat} (hk : k < l.length) (h : ¬ (0 ≤ l[k] ∧ l[k] < n.links.length ∧ l[k] ∉ l.take k)) : okNet n l = false := by
  rw [okNet, Bool.and_eq_false_iff]; right
  rw [decide_eq_false_iff_not]
  intro g
  have := g k hk
  simp only [List.getD_eq_getElem?_getD, List.getElem?_eq_getElem hk, Option.getD_some] at this
  exact h this
theorem validTo_succ {n : Net} {l : List Int} {k : Nat} (hk : k < l.length) (h : validTo n l k) (h1 : 0 ≤ l[k]) (h2 : l[k] < n.links.length) (h3 : l[k] ∉ l.take k) : validTo n l (k + 1) := upto_succ h (by
  simp only [List.getD_eq_getElem?_getD, List.getElem?_eq_getElem hk, Option.getD_some]
  exact ⟨h1, h2, h3⟩)
theorem filter_take_succ {p : Int → Bool} {xs : List Int} {j : Nat} (hj : j < xs.length) : (xs.take (j + 1)).filter p = (xs.take j).filter p ++ if p xs[j] = true then [xs[j]] else [] := by
  rw [List.take_succ_eq_append_getElem hj, List.filter_append]
  by_cases h : p xs[j] = true <;> simp [h]
theorem range_map_succ {α : Type} (f : Nat → α) (k : Nat) : (List.range (k + 1)).map f = (List.range k).map f ++ [f k] := by rw [List.range_succ, List.map_append]; rfl
end Go.Proofs.Ytjijggighppjbaa

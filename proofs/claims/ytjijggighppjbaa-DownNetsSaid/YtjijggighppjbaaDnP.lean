import Derived.Test.YtjijggighppjbaaMem
import Derived.Test.YtjijggighppjbaaTokP
namespace Go.Proofs.Ytjijggighppjbaa
structure Net where
  sw : List ByteArray
  ports : List (List Int)
  links : List ((Int × Int) × (Int × Int))
def greatB (n : Net) : Bool := n.sw.any (fun s => decide (40 < s.size)) || n.ports.any (fun l => decide (30 < l.length)) || (decide (12 < n.sw.length) || decide (12 < n.ports.length) || decide (60 < n.links.length))
def thereB (n : Net) (e : Int × Int) : Bool := decide (0 ≤ e.1 ∧ e.1 < n.ports.length ∧ e.2 ∈ n.ports.getD e.1.toNat [])
def nextL : List ((Int × Int) × (Int × Int)) → (Int × Int) → Option (Int × Int)
  | [], _ => none
  | l :: r, e => if l.1 = e then some l.2 else if l.2 = e then some l.1 else nextL r e
def offL (l : List ((Int × Int) × (Int × Int))) (e : Int × Int) : Prop := ∀ x ∈ l, ¬ x.1 = e ∧ ¬ x.2 = e
theorem nextL_none {l : List ((Int × Int) × (Int × Int))} {e : Int × Int} (h : offL l e) : nextL l e = none := by
  induction l with
  | nil => rfl
  | cons x l ih =>
    have h1 := h x List.mem_cons_self
    rw [nextL, if_neg h1.1, if_neg h1.2]; exact ih fun y hy => h y (List.mem_cons_of_mem _ hy)
theorem nextL_app {l r : List ((Int × Int) × (Int × Int))} {e : Int × Int} (h : offL l e) : nextL (l ++ r) e = nextL r e := by
  induction l with
  | nil => rfl
  | cons x l ih =>
    have h1 := h x List.mem_cons_self
    rw [List.cons_append, nextL, if_neg h1.1, if_neg h1.2]; exact ih fun y hy => h y (List.mem_cons_of_mem _ hy)
theorem nextL_at {l : List ((Int × Int) × (Int × Int))} {e : Int × Int} {k : Nat} (hk : k < l.length) (h : offL (l.take k) e) :
    nextL l e = if l[k].1 = e then some l[k].2 else if l[k].2 = e then some l[k].1 else nextL (l.drop (k + 1)) e := by
  have : l = l.take k ++ l[k] :: l.drop (k + 1) := by rw [List.getElem_cons_drop, List.take_append_drop]
  conv => lhs; rw [this]
  rw [nextL_app h]; rfl
theorem offL_succ {l : List ((Int × Int) × (Int × Int))} {e : Int × Int} {k : Nat} (hk : k < l.length) (h : offL (l.take k) e) (h1 : ¬ l[k].1 = e) (h2 : ¬ l[k].2 = e) : offL (l.take (k + 1)) e := by
  rw [List.take_succ_eq_append_getElem hk]
  intro x hx
  rcases List.mem_append.1 hx with hx | hx
  · exact h x hx
  · rw [List.mem_singleton] at hx; subst hx; exact ⟨h1, h2⟩
def nextT : Option (Int × Int) → (Int × Int) × Bool × Bool
  | some x => (x, true, true)
  | none => ((0, 0), true, false)
def nextB (n : Net) (e : Int × Int) : (Int × Int) × Bool × Bool :=
  if thereB n e = true then nextT (nextL n.links e) else ((0, 0), false, false)
@[reducible] def endV (e : Int × Int) : Value := .agg #[.int .i64 e.1, .int .i64 e.2]
def portAt (l : List Int) (i : Nat) : Prop := 1 ≤ l.getD i 0 ∧ l.getD i 0 ≤ 511 ∧ (0 < i → l.getD (i - 1) 0 < l.getD i 0)
def portsTo (l : List Int) (k : Nat) : Prop := ∀ i, i < k → portAt l i
instance (l : List Int) (i : Nat) : Decidable (portAt l i) := by unfold portAt; infer_instance
instance (l : List Int) (k : Nat) : Decidable (portsTo l k) := by unfold portsTo; infer_instance
def mayPortsB (l : List Int) : Bool := decide (portsTo l l.length) && decide (l.length ≤ 8)
theorem portsTo_succ {l : List Int} {k : Nat} (h : portsTo l k) (h1 : portAt l k) : portsTo l (k + 1) := fun i hi => by
  by_cases e : i = k
  · subst e; exact h1
  · exact h i (by omega)
theorem mayPorts_no {l : List Int} {k : Nat} (hk : k < l.length) (h : ¬ portAt l k) : mayPortsB l = false := by
  simp only [mayPortsB, Bool.and_eq_false_iff, decide_eq_false_iff_not]
  exact .inl fun g => h (g k hk)
def lastOf (l : List Int) (j : Nat) : Int := if j = 0 then 0 else l.getD (j - 1) 0
theorem portAt_iff {l : List Int} {j : Nat} (h : portsTo l j) (hj : j < l.length) : portAt l j ↔ (¬ l[j] ≤ lastOf l j ∧ ¬ 511 < l[j]) := by
  have e : l.getD j 0 = l[j] := by simp [List.getD_eq_getElem?_getD, hj]
  unfold portAt lastOf
  rw [e]
  by_cases hz : j = 0
  · subst hz; simp; omega
  · have h1 := h (j - 1) (by omega)
    unfold portAt at h1
    rw [if_neg hz]
    omega
theorem lastOf_succ {l : List Int} {j : Nat} (hj : j < l.length) : l[j] = lastOf l (j + 1) := by
  simp [lastOf, List.getD_eq_getElem?_getD, hj]
def endsOf (l : List ((Int × Int) × (Int × Int))) : List (Int × Int) := l.flatMap fun x => [x.1, x.2]
def endCells (l : List (Int × Int)) : List Value := l.flatMap fun e => [.int .i64 e.1, .int .i64 e.2]
theorem endsOf_succ {l : List ((Int × Int) × (Int × Int))} {k : Nat} (hk : k < l.length) : endsOf (l.take (k + 1)) = endsOf (l.take k) ++ [l[k].1, l[k].2] := by
  rw [List.take_succ_eq_append_getElem hk, endsOf, List.flatMap_append]; simp [endsOf]
theorem endCells_succ {l : List ((Int × Int) × (Int × Int))} {k : Nat} (hk : k < l.length) : endCells (endsOf (l.take (k + 1))) = endCells (endsOf (l.take k)) ++ [.int .i64 l[k].1.1, .int .i64 l[k].1.2, .int .i64 l[k].2.1, .int .i64 l[k].2.2] := by
  rw [endsOf_succ hk, endCells, List.flatMap_append]; simp [endCells]
theorem endsOf_len (l : List ((Int × Int) × (Int × Int))) : (endsOf l).length = 2 * l.length := by
  induction l with
  | nil => rfl
  | cons x l ih => simp [endsOf] at ih ⊢; omega
def swOk (n : Net) (i : Nat) : Prop := nameB (n.sw.getD i ByteArray.empty) = true ∧ n.sw.getD i ByteArray.empty ∉ n.sw.take i ∧ mayPortsB (n.ports.getD i []) = true
def endOk (n : Net) (es : List (Int × Int)) (i : Nat) : Prop := thereB n (es.getD i (0, 0)) = true ∧ es.getD i (0, 0) ∉ es.take i
instance (n : Net) (i : Nat) : Decidable (swOk n i) := by unfold swOk; infer_instance
instance (n : Net) (es : List (Int × Int)) (i : Nat) : Decidable (endOk n es i) := by unfold endOk; infer_instance
def mayB (n : Net) : Bool := decide (n.sw.length ≤ 8 ∧ n.ports.length = n.sw.length) && decide (∀ i, i < n.sw.length → swOk n i) && decide (∀ i, i < (endsOf n.links).length → endOk n (endsOf n.links) i)
theorem mayB_size {n : Net} (h : ¬ (n.sw.length ≤ 8 ∧ n.ports.length = n.sw.length)) : mayB n = false := by simp only [mayB, h, decide_false, Bool.false_and]
theorem mayB_sw {n : Net} {k : Nat} (hk : k < n.sw.length) (h : ¬ swOk n k) : mayB n = false := by
  have : decide (∀ i, i < n.sw.length → swOk n i) = false := by rw [decide_eq_false_iff_not]; exact fun g => h (g k hk)
  simp only [mayB, this, Bool.and_false, Bool.false_and]
theorem mayB_end {n : Net} {k : Nat} (hk : k < (endsOf n.links).length) (h : ¬ endOk n (endsOf n.links) k) : mayB n = false := by
  have : decide (∀ i, i < (endsOf n.links).length → endOk n (endsOf n.links) i) = false := by rw [decide_eq_false_iff_not]; exact fun g => h (g k hk)
  simp only [mayB, this, Bool.and_false]
theorem mayB_yes {n : Net} (h : n.sw.length ≤ 8 ∧ n.ports.length = n.sw.length) (h1 : ∀ i, i < n.sw.length → swOk n i) (h2 : ∀ i, i < (endsOf n.links).length → endOk n (endsOf n.links) i) : mayB n = true := by
  simp only [mayB, h, h1, h2, Bool.and_eq_true, decide_eq_true_eq]; exact ⟨⟨⟨trivial, trivial⟩, fun i hi => h1 i hi⟩, fun i hi => h2 i hi⟩
theorem upto_succ {p : Nat → Prop} {k : Nat} (h : ∀ i, i < k → p i) (h1 : p k) : ∀ i, i < k + 1 → p i := fun i hi => by
  by_cases e : i = k
  · subst e; exact h1
  · exact h i (by omega)
end Go.Proofs.Ytjijggighppjbaa

import Derived.Test.YtjijggighppjbaaDnX
namespace Go.Proofs.Ytjijggighppjbaa
open Go.RowKit
attribute [local go_sem ↓] app_eq
def refNow (n : Nat) : Nat → List (List Int)
  | 0 => [[]]
  | i + 1 => withF n (refNow n i)
def refOut (n : Nat) : Nat → List (List Int)
  | 0 => [[]]
  | i + 1 => refOut n i ++ refNow n (i + 1)
def refSets (n k : Int) : List (List Int) := refOut (clamp n 32) (clamp k 3)
def lastOr (f : Int) (s : List Int) : Int := match s.getLast? with
  | none => f
  | some y => y + 1
def extF (n : Int) (f : Int) (s : List Int) : List (List Int) := (List.range (n - lastOr f s).toNat).map fun j => s ++ [lastOr f s + (j : Nat)]
theorem extF_zero (n : Int) (s : List Int) : extF n 0 s = extL n s := rfl
theorem lastOr_cons (f x : Int) (s : List Int) : lastOr f (x :: s) = lastOr (x + 1) s := by
  unfold lastOr
  cases s with
  | nil => rfl
  | cons y s => rw [List.getLast?_cons_cons]; cases h : (y :: s).getLast? with
    | none => simp at h
    | some z => rfl
theorem extF_cons (n f x : Int) (s : List Int) : extF n f (x :: s) = (extF n (x + 1) s).map (x :: ·) := by
  unfold extF; rw [lastOr_cons, List.map_map]; rfl
theorem flatMap_congr' {α β : Type} {f g : α → List β} : ∀ {l : List α}, (∀ x ∈ l, f x = g x) → l.flatMap f = l.flatMap g
  | [], _ => rfl
  | x :: l, h => by rw [List.flatMap_cons, List.flatMap_cons, h x List.mem_cons_self, flatMap_congr' fun y hy => h y (List.mem_cons_of_mem _ hy)]
theorem comb_ext (n : Nat) : ∀ m f : Nat, (comb n m f).flatMap (extF n f) = comb n (m + 1) f
  | 0, f => by
    have e : ((n : Int) - (f : Int)).toNat = n - f := by omega
    simp only [comb, List.flatMap_cons, List.flatMap_nil, List.append_nil, extF, lastOr, List.getLast?_nil, e, List.nil_append, List.map_cons, List.map_nil]
    rw [List.map_eq_flatMap]
    simp
  | m + 1, f => by
    conv => lhs; rw [comb]
    rw [List.flatMap_assoc]
    conv => rhs; rw [comb]
    refine flatMap_congr' fun i _ => ?_
    rw [List.flatMap_map]
    have ih := comb_ext n m (f + i + 1)
    rw [← ih, List.map_flatMap]
    refine flatMap_congr' fun s _ => ?_
    rw [extF_cons]
    congr 1
theorem refNow_comb (n : Nat) : ∀ m, refNow n m = comb n m 0
  | 0 => rfl
  | m + 1 => by
    have := comb_ext n m 0
    rw [refNow, refNow_comb n m, ← this]
    rfl
theorem refOut_all (n : Nat) : ∀ k, refOut n k = allPre n (k + 1)
  | 0 => by simp [refOut, allPre, comb]
  | k + 1 => by rw [refOut, refOut_all n k, refNow_comb, ← allPre_succ]
theorem sets_same (n k : Int) : dnSets n k = refSets n k := by unfold dnSets refSets; rw [refOut_all]
theorem mem_extL {n : Int} {s x : List Int} (h : x ∈ extL n s) : ∃ j : Nat, lastI s + (j : Int) < n ∧ x = s ++ [lastI s + (j : Int)] := by
  unfold extL at h
  obtain ⟨j, hj, rfl⟩ := List.mem_map.1 h
  rw [List.mem_range] at hj
  exact ⟨j, by omega, rfl⟩
theorem refNow_mem {n : Nat} (hn : n ≤ 32) : ∀ {i : Nat} {s : List Int}, s ∈ refNow n i → s.length = i ∧ ∀ y ∈ s, 0 ≤ y ∧ y ≤ 32
  | 0, s, h => by simp [refNow] at h; subst h; simp
  | i + 1, s, h => by
    simp only [refNow, withF, List.mem_flatMap] at h
    obtain ⟨s', hs', hx⟩ := h
    obtain ⟨h1, h2⟩ := refNow_mem hn hs'
    obtain ⟨j, hj, rfl⟩ := mem_extL hx
    refine ⟨by simp [h1], fun y hy => ?_⟩
    rcases List.mem_append.1 hy with hy | hy
    · exact h2 y hy
    · rw [List.mem_singleton] at hy
      subst hy
      have := (lastI_bd h2).1
      omega
theorem withF_len {n : Nat} (hn : n ≤ 32) : ∀ {l : List (List Int)}, (∀ s ∈ l, ∀ y ∈ s, 0 ≤ y ∧ y ≤ 32) → (withF n l).length ≤ 32 * l.length
  | [], _ => by simp [withF]
  | s :: l, h => by
    have ih := withF_len hn (l := l) (fun s hs => h s (List.mem_cons_of_mem _ hs))
    have h1 := (lastI_bd (h s List.mem_cons_self)).1
    have h2 := extL_len n s
    simp only [withF, List.flatMap_cons, List.length_append, List.length_cons] at ih ⊢
    rw [h2]
    omega
theorem refNow_len {n : Nat} (hn : n ≤ 32) : ∀ i, (refNow n i).length ≤ 32 ^ i
  | 0 => by simp [refNow]
  | i + 1 => by
    have ih := refNow_len hn i
    have := withF_len hn (l := refNow n i) (fun s hs => (refNow_mem hn hs).2)
    rw [refNow, Nat.pow_succ]
    omega
theorem refOut_len {n : Nat} (hn : n ≤ 32) {i : Nat} (hi : i ≤ 3) : (refOut n i).length ≤ 40000 := by
  have h1 := refNow_len hn 1
  have h2 := refNow_len hn 2
  have h3 := refNow_len hn 3
  rcases (show i = 0 ∨ i = 1 ∨ i = 2 ∨ i = 3 by omega) with rfl | rfl | rfl | rfl <;> simp [refOut] <;> omega
/-- append of a slice of rows onto another of the call's own. -/
theorem append_rows {W : World} {base base' n m : Nat} {v u : Value} {vs us : List Value} (hd : W.ownsRow base 27 1 v n vs) (hs : W.ownsRow base' 27 1 u m us) (h1 : ∀ x ∈ us, x.oneCell' = true) (hb : base ≤ W.heap.size) (hz : n + m ≤ 200000) :
    ∃ v' w', (AppG #[23, 23] 23 #[v, u]).run Try.prog W = .ok v' w' ∧ w'.ownsRow base 27 1 v' (n + m) (vs ++ us) ∧ W.grownBy w' v.ownBlock := by
  obtain ⟨ir, hir, hzr0, hzr1, hzr2⟩ := info_parts introw_info
  rcases hs.2 with ⟨rfl, rfl⟩ | ⟨g, cap, cur, rfl, _, hg, _⟩
  · have hy : us = [] := List.eq_nil_of_length_eq_zero (by have := hs.1; omega)
    subst hy
    refine ⟨v, W, ?_, by simpa using hd, ⟨rfl, rfl, rfl, Nat.le_refl _, fun _ _ _ => rfl⟩⟩
    unfold AppG
    rcases hd.2 with ⟨rfl, rfl⟩ | ⟨g, cap, cur, rfl, _, _, hnc, _⟩
    · simp [Builtin.append_, run_underlying Try.underlying23, sizeOf, typeInfo, hir, Builtin.lenOf, Builtin.firstCells]
    · simp [Builtin.append_, run_underlying Try.underlying23, sizeOf, typeInfo, hir, Builtin.lenOf, Builtin.firstCells, hnc, storeCells]
  · obtain ⟨v', w', hrun, h2, h3, _, _⟩ := run_append_own_at (P := Try.prog) W base 23 23 27 ir (.slice none 0 0) 1 24 Try.underlying23 hir hzr0 hzr1 hzr2 rfl (by omega) v n _ hd ⟨g, 0, none⟩ m cap us hs.1
      (fun j x hx => hs.cells (g := g) rfl j x hx) h1 (by simp [maxLen]; omega) (by omega) hb
    exact ⟨v', w', hrun, h2, h3⟩
theorem rows_one {W : World} {vs : List Value} {xs : List (List Int)} (h1 : vs.length = xs.length) (h3 : ∀ (i : Nat) (u : Value) (x : List Int), vs[i]? = some u → xs[i]? = some x → rowR x u W) : ∀ u ∈ vs, u.oneCell' = true := fun u hu => by
  obtain ⟨i, hi, rfl⟩ := List.getElem_of_mem hu
  exact own_one (h3 i vs[i] xs[i] (List.getElem?_eq_getElem hi) (List.getElem?_eq_getElem (by omega))) _ (List.mem_singleton.2 rfl)
theorem RowsS.join {w' : World} {base : Nat} {v' : Value} {xs ys : List (List Int)} {vs us : List Value} (h1 : vs.length = xs.length) (h3 : ∀ (i : Nat) (u : Value) (x : List Int), vs[i]? = some u → xs[i]? = some x → rowR x u w')
    (g1 : us.length = ys.length) (g3 : ∀ (i : Nat) (u : Value) (x : List Int), us[i]? = some u → ys[i]? = some x → rowR x u w') (ho : w'.ownsRow base 27 1 v' (xs.length + ys.length) (vs ++ us)) : RowsS w' base v' (xs ++ ys) := by
  refine ⟨vs ++ us, by simp [h1, g1], by rw [List.length_append]; exact ho, fun i u' x' hu' hx' => ?_⟩
  by_cases hi : i < xs.length
  · rw [List.getElem?_append_left (by omega)] at hu' hx'
    exact h3 i u' x' hu' hx'
  · rw [List.getElem?_append_right (by omega)] at hu'
    rw [List.getElem?_append_right (by omega)] at hx'
    rw [h1] at hu'
    exact g3 _ u' x' hu' hx'
theorem RowsS.below {w w' : World} {base B : Nat} {v : Value} {xs : List (List Int)} (h : RowsS w base v xs) (hb : Below B w w') (hB : w.heap.size ≤ B) : RowsS w' base v xs := by
  obtain ⟨vs, h1, h2, h3⟩ := h
  exact ⟨vs, h1, own_below h2 hb hB, fun i u x hu hx => own_below (h3 i u x hu hx) hb hB⟩
theorem rowsS_first {w : World} {g : Nat} (hg : w.heap[g]? = some (.cells #[.slice none 0 0] 27 (0, 0))) {base : Nat} (hb : base ≤ g) : RowsS w base (.slice (some ⟨g, 0, none⟩) 1 1) [[]] := by
  refine ⟨[.slice none 0 0], rfl, ⟨rfl, .inr ⟨g, 1, _, rfl, hb, hg, Nat.le_refl _, by decide, rfl, rfl⟩⟩, fun i u x hu hx => ?_⟩
  cases i with
  | succ i => simp at hu
  | zero =>
    simp at hu hx
    subst hu hx
    exact World.ownsRow_nil _ _ _ _
end Go.Proofs.Ytjijggighppjbaa

import Derived.Test.YtcgmkjpgaigmfaaGreatOnc05
set_option linter.all false
/-! Plain: the document's count of items does not wrap where it is small. -/
namespace Go.Proofs.YtcgmkjpgaigmfaaGreat
open Go.RowKit
theorem wrap64_is {n : Int} (h0 : 0 ≤ n) (h1 : n < 9223372036854775808) : wrap64 n = n := by unfold wrap64; omega
theorem countS_pos (s : St) : 1 ≤ countS s := by
  obtain ⟨kind, head, name, e, thn, els⟩ := s
  simp only [countS]; omega
theorem len_countL (l : List St) : l.length ≤ countL l := by
  induction l with
  | nil => simp [countL]
  | cons x l ih => have := countS_pos x; simp only [countL, List.length_cons]; omega
theorem cntL_of {l : List St} (h : ∀ x ∈ l, ∀ n : Int, 0 ≤ n → n + countS x ≤ 4611686018427387905 → cntS n x = n + countS x - 1) :
    ∀ n : Int, 0 ≤ n → n + countL l ≤ l.length + 4611686018427387904 → cntL n l = n + countL l - l.length := by
  induction l with
  | nil => intro n _ _; simp [cntL, countL]
  | cons x l ih =>
    intro n h0 hn
    have h1 := len_countL l
    have h2 := countS_pos x
    simp only [cntL, countL, List.length_cons] at hn ⊢
    rw [h x List.mem_cons_self n h0 (by omega), ih (fun y hy => h y (List.mem_cons_of_mem _ hy)) _ (by omega) (by omega)]
    omega
theorem cntS_eq (s : St) : ∀ n : Int, 0 ≤ n → n + countS s ≤ 4611686018427387905 → cntS n s = n + countS s - 1 := by
  induction s using St.ind with
  | h kind head name e thn els ih1 ih2 =>
    intro n h0 hn
    simp only [countS] at hn ⊢
    simp only [cntS]
    rw [cntL_of ih1 _ (by omega) (by omega), cntL_of ih2 _ (by omega) (by omega)]
    unfold wrap64
    omega
theorem cntL_eq (l : List St) (h : countL l ≤ 4611686018427387904) : cntL l.length l = countL l := by
  rw [cntL_of (fun x _ => cntS_eq x) _ (by omega) (by omega)]
  omega
/-- A sum over the first k. -/
def sumK {α : Type} (f : α → Nat) (l : List α) (k : Nat) : Nat := ((l.take k).map f).sum
theorem sumK_zero {α : Type} (f : α → Nat) (l : List α) : sumK f l 0 = 0 := rfl
theorem sumK_succ {α : Type} (f : α → Nat) {l : List α} {k : Nat} (hk : k < l.length) : sumK f l (k + 1) = sumK f l k + f l[k] := by
  unfold sumK
  rw [List.take_succ_eq_append_getElem hk, List.map_append, List.sum_append]
  simp only [List.map_cons, List.map_nil, List.sum_cons, List.sum_nil, Nat.add_zero]
theorem sumK_all {α : Type} (f : α → Nat) {l : List α} {k : Nat} (hk : l.length ≤ k) : sumK f l k = (l.map f).sum := by
  unfold sumK
  rw [List.take_of_length_le hk]
theorem sumK_le {α : Type} (f : α → Nat) (l : List α) (k : Nat) : sumK f l k ≤ (l.map f).sum := by
  unfold sumK
  conv => rhs; rw [← List.take_append_drop k l, List.map_append, List.sum_append]
  exact Nat.le_add_right _ _
def sH (p : Pg) (k : Nat) : Nat := sumK (fun h => h.fields.length + 1) p.headers k
def sS (p : Pg) (k : Nat) : Nat := sumK (fun s => 1 + s.takes.length + 1 + s.cases_.length) p.states k
def sA (p : Pg) (k : Nat) : Nat := sumK (fun a => 1 + a.params.length + countL a.body) p.actions k
def sT (p : Pg) (k : Nat) : Nat := sumK (fun t => 1 + t.keys.length + t.actions.length + 1) p.tables k
def bigN : Nat := 4611686018427387904
theorem countP_is (p : Pg) {i j k n : Nat} (hi : p.headers.length ≤ i) (hj : p.states.length ≤ j) (hk : p.actions.length ≤ k) (hn : p.tables.length ≤ n) :
    countP p = sH p i + p.metas.length + sS p j + sA p k + sT p n + countL p.control + p.emit.length := by
  unfold countP sH sS sA sT
  rw [sumK_all _ hi, sumK_all _ hj, sumK_all _ hk, sumK_all _ hn]
theorem itm_head {p : Pg} {k : Nat} (hk : k < p.headers.length) {z : Int} (hz : countP p ≤ bigN → z = sH p k) : countP p ≤ bigN → wrap64 (wrap64 (z + p.headers[k].fields.length) + 1) = sH p (k + 1) := fun hs => by
  have h1 := countP_is p (Nat.le_refl _) (Nat.le_refl _) (Nat.le_refl _) (Nat.le_refl _)
  have h2 : sH p (k + 1) ≤ sH p p.headers.length := by unfold sH; rw [sumK_all _ (Nat.le_refl _)]; exact sumK_le _ _ _
  have h3 : sH p (k + 1) = sH p k + (p.headers[k].fields.length + 1) := sumK_succ _ hk
  have h4 := hz hs
  unfold bigN at hs
  unfold wrap64
  omega
theorem itm_meta {p : Pg} {k : Nat} (hk : p.headers.length ≤ k) {z : Int} (hz : countP p ≤ bigN → z = sH p k) : countP p ≤ bigN → wrap64 (z + p.metas.length) = (sH p p.headers.length + p.metas.length : Nat) := fun hs => by
  have h1 := countP_is p hk (Nat.le_refl _) (Nat.le_refl _) (Nat.le_refl _)
  have h2 := countP_is p (Nat.le_refl _) (Nat.le_refl _) (Nat.le_refl _) (Nat.le_refl _)
  have h4 := hz hs
  unfold bigN at hs
  unfold wrap64
  omega
theorem itm_state {p : Pg} {k : Nat} (hk : k < p.states.length) {z : Int} (hz : countP p ≤ bigN → z = (sH p p.headers.length + p.metas.length + sS p k : Nat)) :
    countP p ≤ bigN → wrap64 (wrap64 (wrap64 (wrap64 (z + 1) + p.states[k].takes.length) + 1) + p.states[k].cases_.length) = (sH p p.headers.length + p.metas.length + sS p (k + 1) : Nat) := fun hs => by
  have h1 := countP_is p (Nat.le_refl _) (Nat.le_refl _) (Nat.le_refl _) (Nat.le_refl _)
  have h2 : sS p (k + 1) ≤ sS p p.states.length := by unfold sS; rw [sumK_all _ (Nat.le_refl _)]; exact sumK_le _ _ _
  have h3 : sS p (k + 1) = sS p k + (1 + p.states[k].takes.length + 1 + p.states[k].cases_.length) := sumK_succ _ hk
  have h4 := hz hs
  unfold bigN at hs
  unfold wrap64
  omega
theorem itm_act {p : Pg} {j k : Nat} (hj : p.states.length ≤ j) (hk : k < p.actions.length) {z zf : Int} (hf : countL p.actions[k].body ≤ bigN → zf = countL p.actions[k].body) (hz : countP p ≤ bigN → z = (sH p p.headers.length + p.metas.length + sS p j + sA p k : Nat)) :
    countP p ≤ bigN → wrap64 (wrap64 (wrap64 (z + 1) + p.actions[k].params.length) + zf) = (sH p p.headers.length + p.metas.length + sS p j + sA p (k + 1) : Nat) := fun hs => by
  have h1 := countP_is p (Nat.le_refl _) hj (Nat.le_refl _) (Nat.le_refl _)
  have h2 : sA p (k + 1) ≤ sA p p.actions.length := by unfold sA; rw [sumK_all _ (Nat.le_refl _)]; exact sumK_le _ _ _
  have h3 : sA p (k + 1) = sA p k + (1 + p.actions[k].params.length + countL p.actions[k].body) := sumK_succ _ hk
  have h4 := hz hs
  have h5 := hf (by omega)
  unfold bigN at hs
  unfold wrap64
  omega
theorem itm_tab {p : Pg} {j i k : Nat} (hj : p.states.length ≤ j) (hi : p.actions.length ≤ i) (hk : k < p.tables.length) {z : Int} (hz : countP p ≤ bigN → z = (sH p p.headers.length + p.metas.length + sS p j + sA p i + sT p k : Nat)) :
    countP p ≤ bigN → wrap64 (wrap64 (wrap64 (wrap64 (z + 1) + p.tables[k].keys.length) + p.tables[k].actions.length) + 1) = (sH p p.headers.length + p.metas.length + sS p j + sA p i + sT p (k + 1) : Nat) := fun hs => by
  have h1 := countP_is p (Nat.le_refl _) hj hi (Nat.le_refl _)
  have h2 : sT p (k + 1) ≤ sT p p.tables.length := by unfold sT; rw [sumK_all _ (Nat.le_refl _)]; exact sumK_le _ _ _
  have h3 : sT p (k + 1) = sT p k + (1 + p.tables[k].keys.length + p.tables[k].actions.length + 1) := sumK_succ _ hk
  have h4 := hz hs
  unfold bigN at hs
  unfold wrap64
  omega
theorem itm_end {p : Pg} {j i k : Nat} (hj : p.states.length ≤ j) (hi : p.actions.length ≤ i) (hk : p.tables.length ≤ k) {z zf : Int} (hf : countL p.control ≤ bigN → zf = countL p.control) (hz : countP p ≤ bigN → z = (sH p p.headers.length + p.metas.length + sS p j + sA p i + sT p k : Nat)) :
    countP p ≤ bigN → wrap64 (wrap64 (z + zf) + p.emit.length) = countP p := fun hs => by
  have h1 := countP_is p (Nat.le_refl _) hj hi hk
  have h4 := hz hs
  have h5 := hf (by omega)
  unfold bigN at hs
  unfold wrap64
  omega
end Go.Proofs.YtcgmkjpgaigmfaaGreat
/-! Plain law of ResolveOnce, in the form in which the walk asks it. -/
namespace Go.Proofs.YtcgmkjpgaigmfaaGreat
open Go.RowKit
theorem chk_ok (p : Pg) (h : (checkR p).2 = 0) : mayP p = true ∧ (checkR p).1 = countP p ∧ Once p ∧ countP p ≤ bigN := by
  unfold checkR at h ⊢
  by_cases hm : mayP p = true
  · rw [if_pos hm] at h ⊢
    obtain ⟨h1, h2⟩ := firstBad_ok _ _ h
    exact ⟨hm, by rw [h1, length_itemsP]; simp, once_of hm h2, countP_le hm⟩
  · rw [if_neg hm] at h
    exact absurd h (by decide)
theorem chk_bad (p : Pg) (h : (checkR p).2 ≠ 0) : -1 ≤ (checkR p).1 ∧ ∀ z : Int, (countP p ≤ bigN → z = countP p) → (checkR p).1 < max 1 z := by
  unfold checkR at h ⊢
  by_cases hm : mayP p = true
  · rw [if_pos hm] at h ⊢
    have h1 := firstBad_bad _ _ h
    rw [length_itemsP] at h1
    exact ⟨by omega, fun z hz => by have := hz (countP_le hm); omega⟩
  · rw [if_neg hm]
    exact ⟨by decide, fun z hz => by simp only; omega⟩
end Go.Proofs.YtcgmkjpgaigmfaaGreat


set_option linter.all false
/-! Cycles: a search in depth that marks, and one in width from each step; both tell whether a step reaches itself. -/
namespace Go.Proofs.YtmfpbahifhndjaaGreat
def lkI : List (Int × Int) → Int → Int
 | [], _ => 0
 | x :: M, i => if i = x.1 then x.2 else lkI M i
def ptI : List (Int × Int) → Int → Int → List (Int × Int)
 | [], i, v => [(i, v)]
 | x :: M, i, v => if i = x.1 then (i, v) :: M else x :: ptI M i v
theorem lk_pt (M : List (Int × Int)) (i v j : Int) : lkI (ptI M i v) j = if j = i then v else lkI M j := by
 induction M with
 | nil => simp [ptI, lkI]
 | cons x M ih =>
  simp only [ptI]
  by_cases h : i = x.1
  ·subst h
   simp only [if_true, lkI]
   split <;> simp_all
  ·simp only [if_neg h, lkI, ih]
   by_cases h2 : j = x.1
   ·simp only [if_pos h2]
    rw [if_neg (by omega)]
   ·simp only [if_neg h2]
def anyD (d : List (Int × Int) → Int → Bool × List (Int × Int)) : List (Int × Int) → List Int → Bool × List (Int × Int)
 | M, [] => (false, M)
 | M, x :: l => if (d M x).1 = true then (true, (d M x).2) else anyD d (d M x).2 l
def dnD (g : Int → List Int) : Nat → List (Int × Int) → Int → Bool × List (Int × Int)
 | 0, M, _ => (false, M)
 | f + 1, M, i => if i < 0 then (false, M) else if 0 < lkI M i then (lkI M i == 1, M) else
  ((anyD (dnD g f) (ptI M i 1) (g i)).1, ptI (anyD (dnD g f) (ptI M i 1) (g i)).2 i 2)
def white (n : Nat) (M : List (Int × Int)) : Nat := ((List.range n).filter fun j : Nat => decide (lkI M (j : Int) = 0)).length
inductive Rch (g : Int → List Int) : Int → Int → Prop
 | one {i t : Int} : t ∈ g i → 0 ≤ t → Rch g i t
 | more {i t u : Int} : Rch g i t → u ∈ g t → 0 ≤ u → Rch g i u
theorem Rch.cons {g : Int → List Int} {i t u : Int} (h : t ∈ g i) (h0 : 0 ≤ t) (hr : Rch g t u) : Rch g i u := by
 induction hr with
 | one a b => exact .more (.one h h0) a b
 | more _ a b ih => exact .more ih a b
/-- Rch from i ends in a set that i's own next ones lie in, and that is shut. -/
theorem Rch.into {g : Int → List Int} {S : Int → Prop} (hS : ∀ j, S j → ∀ t ∈ g j, 0 ≤ t → S t) {i t : Int} (h : Rch g i t) (hi : ∀ t ∈ g i, 0 ≤ t → S t) : S t := by
 induction h with
 | one a b => exact hi _ a b
 | more _ a b ih => exact hS _ ih _ a b
structure Blk (g : Int → List Int) (M : List (Int × Int)) : Prop where
 val : ∀ j, lkI M j = 0 ∨ lkI M j = 1 ∨ lkI M j = 2
 shut : ∀ j, lkI M j = 2 → ∀ t ∈ g j, 0 ≤ t → lkI M t = 2
 none : ∀ j, lkI M j = 2 → ¬ Rch g j j
structure Nxt (n : Nat) (M M' : List (Int × Int)) : Prop where
 gray : ∀ j, lkI M' j = 1 ↔ lkI M j = 1
 black : ∀ j, lkI M j = 2 → lkI M' j = 2
 white : white n M' ≤ white n M
theorem Nxt.refl (n : Nat) (M : List (Int × Int)) : Nxt n M M := ⟨fun _ => Iff.rfl, fun _ h => h, Nat.le_refl _⟩
theorem Nxt.trans {n : Nat} {M M' M'' : List (Int × Int)} (a : Nxt n M M') (b : Nxt n M' M'') : Nxt n M M'' := ⟨fun j => (b.gray j).trans (a.gray j), fun j h => b.black j (a.black j h), Nat.le_trans b.white a.white⟩
theorem filter_le {α : Type} {p q : α → Bool} (l : List α) (h : ∀ x, p x = true → q x = true) : (l.filter p).length ≤ (l.filter q).length := by
 induction l with
 | nil => simp
 | cons x l ih =>
  by_cases hx : p x = true
  ·simp only [List.filter_cons, hx, h x hx, if_true, List.length_cons]; omega
  ·by_cases hy : q x = true
   ·simp only [List.filter_cons, hx, hy, if_true, Bool.false_eq_true, if_false, List.length_cons]; omega
   ·simp only [List.filter_cons, hx, hy, Bool.false_eq_true, if_false]; exact ih
theorem white_mono {n : Nat} {M M' : List (Int × Int)} (h : ∀ j, lkI M' j = 0 → lkI M j = 0) : white n M' ≤ white n M := by
 refine filter_le _ fun j hj => ?_
 simp only [decide_eq_true_eq] at hj ⊢
 exact h _ hj
theorem filter_lt {α : Type} {p q : α → Bool} (l : List α) (h : ∀ x, p x = true → q x = true) {a : α} (ha : a ∈ l) (hq : q a = true) (hp : p a = false) : (l.filter p).length < (l.filter q).length := by
 induction l with
 | nil => simp at ha
 | cons x l ih =>
  have hle : (l.filter p).length ≤ (l.filter q).length := filter_le l h
  rcases List.mem_cons.1 ha with rfl | ha
  ·simp only [List.filter_cons, hq, hp, if_true, Bool.false_eq_true, if_false, List.length_cons]; omega
  ·have := ih ha
   by_cases hx : p x = true
   ·simp only [List.filter_cons, hx, h x hx, if_true, List.length_cons]; omega
   ·by_cases hy : q x = true
    ·simp only [List.filter_cons, hx, hy, if_true, Bool.false_eq_true, if_false, List.length_cons]; omega
    ·simp only [List.filter_cons, hx, hy, Bool.false_eq_true, if_false]; exact this
theorem white_put {n : Nat} {M : List (Int × Int)} {i : Int} (h0 : 0 ≤ i) (h1 : i < n) (hz : lkI M i = 0) : white n (ptI M i 1) < white n M := by
 obtain ⟨k, rfl⟩ := Int.eq_ofNat_of_zero_le h0
 refine filter_lt (a := k) _ (fun j hj => ?_) (List.mem_range.2 (by omega)) (by simpa using hz) (by simp [lk_pt])
 simp only [decide_eq_true_eq, lk_pt] at hj ⊢
 split at hj
 ·omega
 ·exact hj
theorem anyD_ok {g : Int → List Int} {n : Nat} {d : List (Int × Int) → Int → Bool × List (Int × Int)} {F : Nat} {Gr : Int → Prop} : ∀ (l : List Int) (M : List (Int × Int)), white n M ≤ F → Blk g M → (∀ j, lkI M j = 1 → Gr j) →
  (∀ x ∈ l, ∀ M, white n M ≤ F → Blk g M → (∀ j, lkI M j = 1 → Gr j) → ((d M x).1 = true → ∃ j, 0 ≤ j ∧ Rch g j j) ∧ ((d M x).1 = false → Blk g (d M x).2 ∧ Nxt n M (d M x).2 ∧ (0 ≤ x → lkI (d M x).2 x = 2))) →
  ((anyD d M l).1 = true → ∃ j, 0 ≤ j ∧ Rch g j j) ∧ ((anyD d M l).1 = false → Blk g (anyD d M l).2 ∧ Nxt n M (anyD d M l).2 ∧ ∀ x ∈ l, 0 ≤ x → lkI (anyD d M l).2 x = 2)
 | [], M, _, hb, _, _ => by
  simp only [anyD]
  exact ⟨fun h => (by cases h), fun _ => ⟨hb, Nxt.refl _ _, fun x hx => by simp at hx⟩⟩
 | x :: l, M, hw, hb, hg, h => by
  have hx := h x (by simp) M hw hb hg
  simp only [anyD]
  by_cases hr : (d M x).1 = true
  ·simp only [if_pos hr]; exact ⟨fun _ => hx.1 hr, fun h => by cases h⟩
  ·simp only [if_neg hr]
   obtain ⟨h1, h2, h3⟩ := hx.2 (by simpa using hr)
   have hi := anyD_ok l (d M x).2 (Nat.le_trans h2.white hw) h1 (fun j hj => hg j ((h2.gray j).1 hj)) (fun y hy => h y (by simp [hy]))
   refine ⟨hi.1, fun hf => ?_⟩
   obtain ⟨k1, k2, k3⟩ := hi.2 hf
   refine ⟨k1, h2.trans k2, fun y hy hy0 => ?_⟩
   rcases List.mem_cons.1 hy with rfl | hy
   ·exact k2.black _ (h3 hy0)
   ·exact k3 y hy hy0
theorem dnD_ok {g : Int → List Int} {n : Nat} (hg : ∀ i, ∀ t ∈ g i, t < n) : ∀ (f : Nat) (M : List (Int × Int)) (i : Int), white n M < f → i < n → Blk g M → (∀ j, lkI M j = 1 → Rch g j i) →
  ((dnD g f M i).1 = true → ∃ j, 0 ≤ j ∧ Rch g j j) ∧ ((dnD g f M i).1 = false → Blk g (dnD g f M i).2 ∧ Nxt n M (dnD g f M i).2 ∧ (0 ≤ i → lkI (dnD g f M i).2 i = 2))
 | 0, M, i, hw, _, _, _ => by omega
 | f + 1, M, i, hw, hi, hb, hgr => by
  simp only [dnD]
  by_cases h0 : i < 0
  ·simp only [if_pos h0]; exact ⟨fun h => (by cases h), fun _ => ⟨hb, Nxt.refl _ _, fun h => by omega⟩⟩
  ·simp only [if_neg h0]
   rcases hb.val i with hv | hv | hv
   ·rw [if_neg (by omega)]
    have hM1 : ∀ j, lkI (ptI M i 1) j = if j = i then 1 else lkI M j := fun j => lk_pt M i 1 j
    have hb1 : Blk g (ptI M i 1) := ⟨fun j => by
      rw [hM1]
      split
      ·exact .inr (.inl rfl)
      ·exact hb.val j, fun j hj t ht ht0 => by
      rw [hM1] at hj ⊢
      split at hj
      ·omega
      ·have := hb.shut j hj t ht ht0
       rw [if_neg (fun e => by subst e; omega)]; exact this, fun j hj => by
      rw [hM1] at hj
      split at hj
      ·omega
      ·exact hb.none j hj⟩
    have hw1 := white_put (n := n) (by omega) hi hv
    have ha := anyD_ok (g := g) (n := n) (d := dnD g f) (F := white n (ptI M i 1)) (Gr := fun j => j = i ∨ Rch g j i) (g i) (ptI M i 1) (Nat.le_refl _) hb1 (fun j hj => by
      rw [hM1] at hj
      split at hj
      ·left; assumption
      ·right; exact hgr j hj) (fun x hx M' hw' hb' hg' => by
      by_cases hx0 : 0 ≤ x
      ·refine dnD_ok hg f M' x (by omega) (hg i x hx) hb' fun j hj => ?_
       rcases hg' j hj with rfl | h
       ·exact .one hx hx0
       ·exact .more h hx hx0
      ·cases f with
       | zero => omega
       | succ f =>
        simp only [dnD, if_pos (show x < 0 by omega)]
        exact ⟨fun h => (by cases h), fun _ => ⟨hb', Nxt.refl _ _, fun h => by omega⟩⟩)
    refine ⟨ha.1, fun hf => ?_⟩
    obtain ⟨k1, k2, k3⟩ := ha.2 hf
    have hA := anyD (dnD g f) (ptI M i 1) (g i)
    have hgi : lkI (anyD (dnD g f) (ptI M i 1) (g i)).2 i = 1 := (k2.gray i).2 (by rw [hM1, if_pos rfl])
    have hN : ∀ j, lkI (ptI (anyD (dnD g f) (ptI M i 1) (g i)).2 i 2) j = if j = i then 2 else lkI (anyD (dnD g f) (ptI M i 1) (g i)).2 j := fun j => lk_pt _ i 2 j
    refine ⟨⟨fun j => ?_, fun j hj t ht ht0 => ?_, fun j hj => ?_⟩, ⟨fun j => ?_, fun j hj => ?_, ?_⟩, fun _ => by rw [hN, if_pos rfl]⟩
    ·rw [hN]
     split
     ·exact .inr (.inr rfl)
     ·exact k1.val j
    ·rw [hN] at hj ⊢
     by_cases hti : t = i
     ·rw [if_pos hti]
     ·rw [if_neg hti]
      by_cases hji : j = i
      ·subst hji; exact k3 t ht ht0
      ·rw [if_neg hji] at hj; exact k1.shut j hj t ht ht0
    ·by_cases hji : j = i
     ·subst hji
      intro hr
      have := Rch.into (S := fun t => lkI (anyD (dnD g f) (ptI M j 1) (g j)).2 t = 2) (fun a ha t ht ht0 => k1.shut a ha t ht ht0) hr (fun t ht ht0 => k3 t ht ht0)
      omega
     ·rw [hN, if_neg hji] at hj; exact k1.none j hj
    ·rw [hN]
     by_cases hji : j = i
     ·subst hji; rw [if_pos rfl]; omega
     ·rw [if_neg hji, k2.gray, hM1, if_neg hji]
    ·have hji : j ≠ i := fun e => by subst e; omega
     rw [hN, if_neg hji]
     exact k2.black j (by rw [hM1, if_neg hji]; exact hj)
    ·refine white_mono fun j hj => ?_
     rw [hN] at hj
     split at hj
     ·omega
     ·rename_i hji
      rcases hb.val j with h | h | h
      ·exact h
      ·have := (k2.gray j).2 (by rw [hM1, if_neg hji]; exact h); omega
      ·have := k2.black j (by rw [hM1, if_neg hji]; exact h); omega
   ·rw [if_pos (by omega), hv]
    exact ⟨fun _ => ⟨i, by omega, hgr i hv⟩, fun h => by simp at h⟩
   ·rw [if_pos (by omega), hv]
    exact ⟨fun h => by simp at h, fun _ => ⟨hb, Nxt.refl _ _, fun _ => by first | exact hv | rfl⟩⟩
/-- The steps' numbers. -/
def upTo (n : Nat) : List Int := (List.range n).map (fun k : Nat => (k : Int))
theorem white_le (n : Nat) (M : List (Int × Int)) : white n M ≤ n := by
 unfold white
 have := List.length_filter_le (fun j : Nat => decide (lkI M (j : Int) = 0)) (List.range n)
 rw [List.length_range] at this; exact this
theorem cyc_iff {g : Int → List Int} {n : Nat} (hg : ∀ i, ∀ t ∈ g i, t < n) : (anyD (dnD g (n + 1)) [] (upTo n)).1 = true ↔ ∃ i : Nat, i < n ∧ Rch g (i : Int) (i : Int) := by
 have h := anyD_ok (g := g) (n := n) (d := dnD g (n + 1)) (F := n) (Gr := fun _ => False) (upTo n) [] (white_le _ _) ⟨fun j => .inl rfl, fun j h => by simp [lkI] at h, fun j h => by simp [lkI] at h⟩ (fun j h => by simp [lkI] at h)
  (fun x hx M hw hb hgr => dnD_ok hg (n + 1) M x (by omega) (by simp only [upTo, List.mem_map, List.mem_range] at hx; obtain ⟨k, hk, rfl⟩ := hx; omega) hb (fun j hj => (hgr j hj).elim))
 constructor
 ·intro ht
  obtain ⟨j, h0, hr⟩ := h.1 ht
  obtain ⟨k, rfl⟩ := Int.eq_ofNat_of_zero_le h0
  refine ⟨k, ?_, hr⟩
  have : ∀ {a b : Int}, Rch g a b → b < n := fun hr => by
   cases hr with
   | one a _ => exact hg _ _ a
   | more _ a _ => exact hg _ _ a
  have := this hr
  omega
 ·rintro ⟨i, hi, hr⟩
  cases hc : (anyD (dnD g (n + 1)) [] (upTo n)).1 with
  | true => rfl
  | false =>
   obtain ⟨k1, k2, k3⟩ := h.2 hc
   exact absurd hr (k1.none _ (k3 _ (by simp only [upTo, List.mem_map, List.mem_range]; exact ⟨i, hi, rfl⟩) (by omega)))
/-- One step's next ones, looked at in width: none: the step itself is among them. -/
def prT (s : Int) : List Int → List Int → List Int → Option (List Int × List Int)
 | seen, next, [] => some (seen, next)
 | seen, next, t :: l => if t = s then none else if 0 ≤ t ∧ t ∉ seen then prT s (seen ++ [t]) (next ++ [t]) l else prT s seen next l
def prN (g : Int → List Int) (s : Int) : List Int → List Int → List Int → Option (List Int × List Int)
 | seen, next, [] => some (seen, next)
 | seen, next, i :: l => match prT s seen next (g i) with
  | none => none
  | some r => prN g s r.1 r.2 l
def onC (g : Int → List Int) (s : Int) : Nat → List Int → List Int → Bool
 | _, _, [] => false
 | 0, _, _ :: _ => false
 | f + 1, seen, i :: now => match prN g s seen [] (i :: now) with
  | none => true
  | some r => onC g s f r.1 r.2
structure Sn (g : Int → List Int) (n : Nat) (s : Int) (seen : List Int) : Prop where
 nodup : seen.Nodup
 mem : ∀ t ∈ seen, 0 ≤ t ∧ t < n ∧ t ≠ s ∧ Rch g s t
theorem prT_ok {g : Int → List Int} {n : Nat} {s i : Int} (hg : ∀ i, ∀ t ∈ g i, t < n) (hi : i = s ∨ Rch g s i) : ∀ (l seen next : List Int), (∀ t ∈ l, t ∈ g i) → Sn g n s seen →
  match prT s seen next l with
  | none => 0 ≤ s → Rch g s s
  | some (seen', next') => ∃ m, seen' = seen ++ m ∧ next' = next ++ m ∧ Sn g n s seen' ∧ ∀ t ∈ l, t ≠ s ∧ (0 ≤ t → t ∈ seen')
 | [], seen, next, _, hs => by simp only [prT]; exact ⟨[], by simp, by simp, hs, fun t ht => by simp at ht⟩
 | t :: l, seen, next, hl, hs => by
  have ht : t ∈ g i := hl t (by simp)
  simp only [prT]
  by_cases h1 : t = s
  ·simp only [if_pos h1]
   intro h0
   subst h1
   rcases hi with rfl | hi
   ·exact .one ht h0
   ·exact .more hi ht h0
  ·simp only [if_neg h1]
   by_cases h2 : 0 ≤ t ∧ t ∉ seen
   ·simp only [if_pos h2]
    have hs' : Sn g n s (seen ++ [t]) := ⟨by rw [List.nodup_append]; exact ⟨hs.nodup, by simp, fun a ha b hb => by simp at hb; subst hb; exact fun e => h2.2 (e ▸ ha)⟩, fun u hu => by
     rcases List.mem_append.1 hu with hu | hu
     ·exact hs.mem u hu
     ·simp at hu; subst hu
      refine ⟨h2.1, hg i _ ht, h1, ?_⟩
      rcases hi with rfl | hi
      ·exact .one ht h2.1
      ·exact .more hi ht h2.1⟩
    have := prT_ok hg hi l (seen ++ [t]) (next ++ [t]) (fun u hu => hl u (by simp [hu])) hs'
    revert this
    cases prT s (seen ++ [t]) (next ++ [t]) l with
    | none => exact fun h => h
    | some r =>
     rintro ⟨m, e1, e2, h3, h4⟩
     refine ⟨t :: m, by simp [e1], by simp [e2], h3, fun u hu => ?_⟩
     rcases List.mem_cons.1 hu with rfl | hu
     ·exact ⟨h1, fun _ => by rw [e1]; simp⟩
     ·exact h4 u hu
   ·simp only [if_neg h2]
    have := prT_ok hg hi l seen next (fun u hu => hl u (by simp [hu])) hs
    revert this
    cases prT s seen next l with
    | none => exact fun h => h
    | some r =>
     rintro ⟨m, e1, e2, h3, h4⟩
     refine ⟨m, e1, e2, h3, fun u hu => ?_⟩
     rcases List.mem_cons.1 hu with rfl | hu
     ·refine ⟨h1, fun h0 => ?_⟩
      rw [e1]
      have : u ∈ seen := by
       by_cases hm : u ∈ seen
       ·exact hm
       ·exact absurd ⟨h0, hm⟩ h2
      simp [this]
     ·exact h4 u hu
theorem prN_ok {g : Int → List Int} {n : Nat} {s : Int} (hg : ∀ i, ∀ t ∈ g i, t < n) : ∀ (l seen next : List Int), (∀ i ∈ l, i = s ∨ Rch g s i) → Sn g n s seen →
  match prN g s seen next l with
  | none => 0 ≤ s → Rch g s s
  | some (seen', next') => ∃ m, seen' = seen ++ m ∧ next' = next ++ m ∧ Sn g n s seen' ∧ ∀ i ∈ l, ∀ t ∈ g i, t ≠ s ∧ (0 ≤ t → t ∈ seen')
 | [], seen, next, _, hs => by simp only [prN]; exact ⟨[], by simp, by simp, hs, fun t ht => by simp at ht⟩
 | i :: l, seen, next, hl, hs => by
  have h1 := prT_ok hg (hl i (by simp)) (g i) seen next (fun _ h => h) hs
  simp only [prN]
  revert h1
  cases hp : prT s seen next (g i) with
  | none => exact fun h => h
  | some r =>
   obtain ⟨s1, n1⟩ := r
   rintro ⟨m, e1, e2, h3, h4⟩
   have h5 := prN_ok hg l s1 n1 (fun j hj => hl j (by simp [hj])) h3
   revert h5
   simp only
   cases prN g s s1 n1 l with
   | none => exact fun h => h
   | some q =>
    rintro ⟨m2, e3, e4, h6, h7⟩
    refine ⟨m ++ m2, by simp [e3, e1], by simp [e4, e2], h6, fun j hj t ht => ?_⟩
    rcases List.mem_cons.1 hj with rfl | hj
    ·exact ⟨(h4 t ht).1, fun h0 => by rw [e3]; simp [(h4 t ht).2 h0]⟩
    ·exact h7 j hj t ht
theorem nodup_sub {l : List Int} : ∀ {m : List Int}, l.Nodup → l ⊆ m → l.length ≤ m.length := by
 induction l with
 | nil => intro m _ _; simp
 | cons x l ih =>
  intro m h hs
  rw [List.nodup_cons] at h
  have hx : x ∈ m := hs (by simp)
  have := ih (m := m.erase x) h.2 fun y hy => (List.mem_erase_of_ne (fun e => h.1 (by rw [← e]; exact hy))).2 (hs (by simp [hy]))
  rw [List.length_erase_of_mem hx] at this
  have hp : 0 < m.length := List.length_pos_of_mem hx
  simp only [List.length_cons]; omega
theorem nodup_len {n : Nat} {l : List Int} (h : l.Nodup) (hb : ∀ t ∈ l, 0 ≤ t ∧ t < n) : l.length ≤ n := by
 have hs : l ⊆ upTo n := fun t ht => by
  obtain ⟨h0, h1⟩ := hb t ht
  obtain ⟨k, rfl⟩ := Int.eq_ofNat_of_zero_le h0
  simp only [upTo, List.mem_map, List.mem_range]
  exact ⟨k, by omega, rfl⟩
 have := nodup_sub h hs
 simpa [upTo] using this
theorem onC_ok {g : Int → List Int} {n : Nat} {s : Int} (h0 : 0 ≤ s) (hg : ∀ i, ∀ t ∈ g i, t < n) : ∀ (f : Nat) (seen now : List Int), n + 1 ≤ seen.length + f → (now = [] ∨ n < seen.length + f ) → Sn g n s seen → (∀ i ∈ now, i = s ∨ Rch g s i) → (∀ i, (i = s ∨ i ∈ seen) → i ∉ now → ∀ t ∈ g i, t ≠ s ∧ (0 ≤ t → t ∈ seen)) →
  (onC g s f seen now = true ↔ Rch g s s)
 | f, seen, [], _, _, hs, _, hc => by
  simp only [onC, Bool.false_eq_true, false_iff]
  intro hr
  have := Rch.into (S := fun t => t ∈ seen) (fun j hj t ht ht0 => (hc j (.inr hj) (by simp) t ht).2 ht0) hr (fun t ht ht0 => (hc s (.inl rfl) (by simp) t ht).2 ht0)
  exact (hs.mem s this).2.2.1 rfl
 | 0, seen, i :: now, hf, _, hs, _, _ => by
  have := nodup_len hs.nodup (fun t ht => ⟨(hs.mem t ht).1, (hs.mem t ht).2.1⟩)
  omega
 | f + 1, seen, i :: now, hf, _, hs, hn, hc => by
  have h1 := prN_ok hg (i :: now) seen [] hn hs
  simp only [onC]
  revert h1
  cases hp : prN g s seen [] (i :: now) with
  | none => intro h; simpa using h h0
  | some r =>
   obtain ⟨s1, n1⟩ := r
   rintro ⟨m, e1, e2, h3, h4⟩
   simp only [List.nil_append] at e2
   subst e2
   have hlen := nodup_len h3.nodup (fun t ht => ⟨(h3.mem t ht).1, (h3.mem t ht).2.1⟩)
   by_cases hm : n1 = []
   ·subst hm
    simp only [List.append_nil] at e1
    subst e1
    have hf0 : onC g s f s1 [] = false := by cases f <;> rfl
    simp only [hf0, Bool.false_eq_true, false_iff]
    intro hr
    have hcl : ∀ j, (j = s ∨ j ∈ s1) → ∀ t ∈ g j, t ≠ s ∧ (0 ≤ t → t ∈ s1) := fun j hj t ht => by
     by_cases hj2 : j ∈ i :: now
     ·exact h4 j hj2 t ht
     ·exact hc j hj hj2 t ht
    have := Rch.into (S := fun t => t ∈ s1) (fun j hj t ht ht0 => (hcl j (.inr hj) t ht).2 ht0) hr (fun t ht ht0 => (hcl s (.inl rfl) t ht).2 ht0)
    exact (h3.mem s this).2.2.1 rfl
   ·have hml : 1 ≤ n1.length := by cases n1 with
     | nil => exact absurd rfl hm
     | cons a b => simp
    have hl1 : s1.length = seen.length + n1.length := by rw [e1, List.length_append]
    refine onC_ok h0 hg f s1 n1 (by omega) (.inr (by omega)) h3 (fun j hj => .inr (h3.mem j (by rw [e1]; simp [hj])).2.2.2) (fun j hj hjn t ht => ?_)
    by_cases hj2 : j ∈ i :: now
    ·exact h4 j hj2 t ht
    ·have : j = s ∨ j ∈ seen := by
      rcases hj with hj | hj
      ·exact .inl hj
      ·rw [e1] at hj
       rcases List.mem_append.1 hj with hj | hj
       ·exact .inr hj
       ·exact absurd hj hjn
     have h5 := hc j this hj2 t ht
     exact ⟨h5.1, fun ht0 => by rw [e1]; simp [h5.2 ht0]⟩
theorem onC_iff {g : Int → List Int} {n : Nat} {s : Int} (h0 : 0 ≤ s) (hg : ∀ i, ∀ t ∈ g i, t < n) : onC g s (n + 1) [] [s] = true ↔ Rch g s s :=
 onC_ok h0 hg (n + 1) [] [s] (by simp) (.inr (by simp)) ⟨List.nodup_nil, fun t h => by simp at h⟩ (fun i hi => by simp at hi; exact .inl hi) (fun i hi hn => by
  rcases hi with rfl | hi
  ·simp at hn
  ·simp at hi)
/-- Both searches tell the same. -/
theorem cyc_same {g : Int → List Int} {n : Nat} (hg : ∀ i, ∀ t ∈ g i, t < n) : (anyD (dnD g (n + 1)) [] (upTo n)).1 = (upTo n).any fun s => onC g s (n + 1) [] [s] := by
 rw [Bool.eq_iff_iff, cyc_iff hg, List.any_eq_true]
 constructor
 ·rintro ⟨i, hi, hr⟩
  exact ⟨i, by simp only [upTo, List.mem_map, List.mem_range]; exact ⟨i, hi, rfl⟩, (onC_iff (by omega) hg).2 hr⟩
 ·rintro ⟨s, hs, hr⟩
  simp only [upTo, List.mem_map, List.mem_range] at hs
  obtain ⟨i, hi, rfl⟩ := hs
  exact ⟨i, hi, (onC_iff (by omega) hg).1 hr⟩
end Go.Proofs.YtmfpbahifhndjaaGreat

import Derived.Test.YtbbdhknagofghaaGreatWhl33
import Derived.Test.YtbbdhknagofghaaGreatWhl30
set_option linter.all false
/-! Plain: in a program whose items resolve, what an item speaks of is there, if nothing ahead of it is wrong. -/
namespace Go.Proofs.YtbbdhknagofghaaGreat
theorem fieldR_err {l : List Fd} {i n : Int} (h : fieldR l i = .error n) : n ≠ 0 := by
 unfold fieldR at h
 split at h
 ·injection h with h; omega
 ·cases h
theorem leafR_err {p : Pg} {act op : Int} {lit : Lt} {head name : ByteArray} {n : Int} (h : leafR p act op lit head name = .error n) : n ≠ 0 := by
 unfold leafR at h
 repeat' split at h
 all_goals first
  | (cases h; done)
  | exact fieldR_err h
  | (injection h with h; omega)
theorem oneR_err {op hi lo : Int} {t : Ty} {n : Int} (h : oneR op hi lo t = .error n) : n ≠ 0 := by
 unfold oneR at h
 repeat' split at h
 all_goals first
  | (cases h; done)
  | (injection h with h; omega)
theorem bitsR_err {t : Ty} {n : Int} (h : bitsR t = .error n) : n ≠ 0 := by
 unfold bitsR at h
 repeat' split at h
 all_goals first
  | (cases h; done)
  | (injection h with h; omega)
theorem joinR_err {a b : Ex} {s t : Ty} {n : Int} (h : joinR a b s t = .error n) : n ≠ 0 := by
 unfold joinR at h
 repeat' split at h
 all_goals first
  | (cases h; done)
  | (injection h with h; omega)
theorem pairR_err {op : Int} {a b : Ex} {s t : Ty} {n : Int} (h : pairR op a b s t = .error n) : n ≠ 0 := by
 unfold pairR at h
 split at h
 ·repeat' split at h
  all_goals first
   | (cases h; done)
   | (injection h with h; omega)
 ·split at h
  ·split at h
   ·cases h
   ·injection h with h; omega
  ·split at h
   ·rename_i m hj
    injection h with h
    subst h
    exact joinR_err hj
   ·split at h <;> cases h
theorem ofR_err {p : Pg} (act : Int) (e : Ex) : ∀ n, ofR p act e = .error n → n ≠ 0 := by
 induction e using Ex.ind with
 | h op lit head name hi lo args ih =>
  intro n h
  match args, ih, h with
  | [], _, h => exact leafR_err (by simpa only [ofR] using h)
  | [a], ih, h =>
   simp only [ofR] at h
   split at h
   ·rename_i m hm
    injection h with h; subst h
    exact ih a (by simp) _ hm
   ·exact oneR_err h
  | a :: b :: l, ih, h =>
   simp only [ofR] at h
   split at h
   ·rename_i m hm
    injection h with h; subst h
    exact ih a (by simp) _ hm
   ·split at h
    ·exact bitsR_err h
    ·split at h
     ·rename_i m hm
      injection h with h; subst h
      exact ih b (by simp) _ hm
     ·exact pairR_err h
theorem keyR_err {p : Pg} {e : Ex} {n : Int} (h : keyR p e = .error n) : n ≠ 0 := by
 unfold keyR bitsU at h
 split at h
 ·rename_i m hm
  injection h with h; subst h
  exact ofR_err _ _ _ hm
 ·repeat' split at h
  all_goals first
   | (cases h; done)
   | (injection h with h; omega)
theorem firstE_err {α : Type} {f : α → Rs Unit} (hf : ∀ a n, f a = .error n → n ≠ 0) : ∀ (l : List α) (n : Int), firstE f l = .error n → n ≠ 0
 | [], n, h => by cases h
 | a :: l, n, h => by
  simp only [firstE] at h
  split at h
  ·rename_i m hm
   injection h with h; subst h
   exact hf _ _ hm
  ·exact firstE_err hf l n h
theorem errN_ok {r : Rs Unit} (hr : ∀ n, r = .error n → n ≠ 0) (h : errN r = 0) : r = .ok () := by
 cases r with
 | error n => exact absurd h (hr n rfl)
 | ok u => rfl
theorem mayS_items (a : Int) (s : St) : ∀ d, mayS s d = true → ∀ x ∈ itemsS a s, ∃ d', mayS x.s d' = true := by
 induction s using St.ind with
 | h kind head name e thn els ih1 ih2 =>
  intro d hd x hx
  have g : ∀ (l : List St) (d1 : Nat), (∀ y ∈ l, ∀ d, mayS y d = true → ∀ x ∈ itemsS a y, ∃ d', mayS x.s d' = true) → mayL l d1 = true → ∀ x ∈ itemsL a l, ∃ d', mayS x.s d' = true := by
   intro l d1 ih hl x hx
   rw [itemsL_flat, List.mem_flatMap] at hx
   obtain ⟨y, hy, hx⟩ := hx
   rw [mayL_all, List.all_eq_true] at hl
   exact ih y hy _ (hl y hy) x hx
  have hb : (thn = [] ∨ mayL thn (d + 1) = true) ∧ (els = [] ∨ mayL els (d + 1) = true) := by
   rw [mayS] at hd
   by_cases h2 : kind = 2
   ·subst h2
    simp only [show ¬ ((2 : Int) = 1) from by decide, if_false, if_true, Bool.and_eq_true, Bool.or_eq_true, List.isEmpty_iff] at hd
    exact ⟨hd.1.2.imp id fun h => h.2, hd.2.imp id fun h => h.2⟩
   ·rw [if_neg h2] at hd
    repeat' split at hd
    all_goals first
     | (cases hd; done)
     | (simp only [Bool.and_eq_true, List.isEmpty_iff] at hd; exact ⟨.inl hd.1.1.1.1.1, .inl hd.1.1.1.1.2⟩)
     | (simp only [Bool.and_eq_true, List.isEmpty_iff] at hd; exact ⟨.inl hd.1.1.1.1, .inl hd.1.1.1.2⟩)
     | (simp only [Bool.and_eq_true, List.isEmpty_iff] at hd; exact ⟨.inl hd.1.1.1, .inl hd.1.1.2⟩)
  simp only [itemsS, List.mem_cons, List.mem_append] at hx
  rcases hx with rfl | hx | hx
  ·exact ⟨d, hd⟩
  ·rcases hb.1 with rfl | h
   ·simp [itemsL] at hx
   ·exact g thn _ ih1 h x hx
  ·rcases hb.2 with rfl | h
   ·simp [itemsL] at hx
   ·exact g els _ ih2 h x hx
theorem mayL_items (a : Int) (l : List St) (h : mayBlk l 1 = true) : ∀ x ∈ itemsL a l, ∃ d, mayS x.s d = true := by
 intro x hx
 rw [itemsL_flat, List.mem_flatMap] at hx
 obtain ⟨y, hy, hx⟩ := hx
 simp only [mayBlk, Bool.or_eq_true, Bool.and_eq_true, List.isEmpty_iff] at h
 rcases h with rfl | h
 ·simp at hy
 ·have := h.2
  rw [mayL_all, List.all_eq_true] at this
  exact mayS_items a y _ (this y hy) x hx
theorem stmt_may {p : Pg} (hm : mayP p = true) : ∀ x ∈ itemsP p, x.kind = 10 → ∃ d, mayS x.s d = true := by
 simp only [mayP, Bool.and_eq_true] at hm
 obtain ⟨⟨⟨⟨⟨⟨⟨_, _⟩, _⟩, _⟩, hac⟩, _⟩, hct⟩, _⟩ := hm
 intro x hx hk
 simp only [itemsP, headsI, metasI, statesI, actsI, tabsI, emitsI, List.mem_append] at hx
 rcases hx with hx | hx | hx | hx | hx | hx | hx
 ·obtain ⟨i, f, hi, rfl | hx⟩ := mem_eachI' hx
  ·simp at hk
  ·obtain ⟨j, hj, rfl⟩ := mem_manyI' hx; simp at hk
 ·obtain ⟨i, f, hi, rfl | hx⟩ := mem_eachI' hx
  ·simp at hk
  ·simp at hx
 ·obtain ⟨i, f, hi, rfl | hx⟩ := mem_eachI' hx
  ·simp at hk
  ·rw [List.mem_append, List.mem_cons] at hx
   rcases hx with hx | rfl | hx
   ·obtain ⟨j, hj, rfl⟩ := mem_manyI' hx; simp at hk
   ·simp at hk
   ·obtain ⟨j, hj, rfl⟩ := mem_manyI' hx; simp at hk
 ·obtain ⟨i, f, hi, rfl | hx⟩ := mem_eachI' hx
  ·simp at hk
  ·rcases List.mem_append.1 hx with hx | hx
   ·obtain ⟨j, hj, rfl⟩ := mem_manyI' hx; simp at hk
   ·have := List.all_eq_true.1 hac f (List.mem_of_getElem? hi)
    simp only [acB, Bool.and_eq_true] at this
    exact mayL_items _ _ this.2 x hx
 ·obtain ⟨i, f, hi, rfl | hx⟩ := mem_eachI' hx
  ·simp at hk
  ·rw [List.mem_append, List.mem_append, List.mem_singleton] at hx
   rcases hx with hx | hx | rfl
   ·obtain ⟨j, hj, rfl⟩ := mem_manyI' hx; simp at hk
   ·obtain ⟨j, hj, rfl⟩ := mem_manyI' hx; simp at hk
   ·simp at hk
 ·exact mayL_items _ _ hct x hx
 ·obtain ⟨i, f, hi, rfl | hx⟩ := mem_eachI' hx
  ·simp at hk
  ·simp at hx
/-- A state's cases come behind its keys. -/
def Ahead (l : List It) : Prop := ∀ (k : Nat) (x : It), l[k]? = some x → x.kind = 7 → ∃ j, j < k ∧ l[j]? = some ⟨6, x.a, 0, zSt⟩
theorem ahead_none {l : List It} (h : ∀ x ∈ l, x.kind ≠ 7) : Ahead l := fun _ x hx h7 => absurd h7 (h x (List.mem_of_getElem? hx))
theorem ahead_app {l m : List It} (hl : Ahead l) (hm : Ahead m) : Ahead (l ++ m) := by
 intro k x hx h7
 by_cases hk : k < l.length
 ·rw [List.getElem?_append_left hk] at hx
  obtain ⟨j, hj, h⟩ := hl k x hx h7
  exact ⟨j, hj, by rw [List.getElem?_append_left (by omega)]; exact h⟩
 ·rw [List.getElem?_append_right (by omega)] at hx
  obtain ⟨j, hj, h⟩ := hm _ x hx h7
  exact ⟨l.length + j, by omega, by rw [List.getElem?_append_right (by omega), show l.length + j - l.length = j from by omega]; exact h⟩
theorem ahead_flat {α : Type} {f : α → List It} : ∀ {l : List α}, (∀ x ∈ l, Ahead (f x)) → Ahead (l.flatMap f)
 | [], _ => fun k x hx => by simp at hx
 | a :: l, h => by
  rw [List.flatMap_cons]
  exact ahead_app (h a (by simp)) (ahead_flat fun x hx => h x (List.mem_cons_of_mem _ hx))
theorem kind_manyI {kind : Int} {a n : Nat} (h : kind ≠ 7) : ∀ x ∈ manyI kind a n, x.kind ≠ 7 := fun x hx => by
 obtain ⟨j, -, rfl⟩ := mem_manyI' hx
 exact h
theorem kind_items (a : Int) (l : List St) : ∀ x ∈ itemsL a l, x.kind ≠ 7 := fun x hx => by
 obtain ⟨st, rfl⟩ := items_stmt _ _ x hx
 exact show (10 : Int) ≠ 7 from by decide
theorem ahead_state (i n m : Nat) : Ahead (⟨4, (i : Int), 0, zSt⟩ :: (manyI 5 i n ++ (⟨6, (i : Int), 0, zSt⟩ :: manyI 7 i m))) := by
 rw [show (⟨4, (i : Int), 0, zSt⟩ :: (manyI 5 i n ++ (⟨6, (i : Int), 0, zSt⟩ :: manyI 7 i m)) : List It) = [⟨4, (i : Int), 0, zSt⟩] ++ (manyI 5 i n ++ (⟨6, (i : Int), 0, zSt⟩ :: manyI 7 i m)) from rfl]
 refine ahead_app (ahead_none fun x hx => by rw [List.mem_singleton] at hx; subst hx; exact show (4 : Int) ≠ 7 from by decide) (ahead_app (ahead_none (kind_manyI (by decide))) ?_)
 intro k x hx h7
 cases k with
 | zero => simp at hx; subst hx; simp at h7
 | succ k =>
  rw [List.getElem?_cons_succ] at hx
  obtain ⟨j, -, rfl⟩ := mem_manyI' (List.mem_of_getElem? hx)
  exact ⟨0, by omega, rfl⟩
theorem ahead_items (p : Pg) : Ahead (itemsP p) := by
 have one : ∀ {kind : Int} {l : List It} {a : Int}, kind ≠ 7 → (∀ x ∈ l, x.kind ≠ 7) → Ahead (⟨kind, a, 0, zSt⟩ :: l) := fun h1 h2 => ahead_none fun x hx => by
  rcases List.mem_cons.1 hx with rfl | hx
  ·exact h1
  ·exact h2 x hx
 refine ahead_app (ahead_flat fun x _ => one (by decide) (kind_manyI (by decide))) (ahead_app (ahead_flat fun x _ => one (by decide) (by simp)) (ahead_app (ahead_flat fun x _ => ahead_state _ _ _) (ahead_app (ahead_flat fun x _ => one (by decide) ?_) (ahead_app (ahead_flat fun x _ => one (by decide) ?_) (ahead_app (ahead_none (kind_items _ _)) (ahead_flat fun x _ => one (by decide) (by simp)))))))
 ·intro y hy
  rcases List.mem_append.1 hy with hy | hy
  ·exact kind_manyI (by decide) y hy
  ·exact kind_items _ _ y hy
 ·intro y hy
  rw [List.mem_append, List.mem_append, List.mem_singleton] at hy
  rcases hy with hy | hy | rfl
  ·exact kind_manyI (by decide) y hy
  ·exact kind_manyI (by decide) y hy
  ·exact show (14 : Int) ≠ 7 from by decide
theorem keys_may {p : Pg} (hm : mayP p = true) {i : Nat} {f : Sa} (hi : p.states[i]? = some f) : (∀ e ∈ f.keys, allE e = true) ∧ ∀ c ∈ f.cases_, c.sets.length ≤ f.keys.length := by
 simp only [mayP, Bool.and_eq_true] at hm
 obtain ⟨⟨⟨⟨⟨⟨⟨_, _⟩, _⟩, hst⟩, _⟩, _⟩, _⟩, _⟩ := hm
 have := List.all_eq_true.1 hst f (List.mem_of_getElem? hi)
 unfold saB at this
 rw [Bool.and_eq_true] at this
 have h := this.2
 split at h
 ·simp only [Bool.and_eq_true, List.all_eq_true] at h
  refine ⟨fun e he => ?_, fun c hc => ?_⟩
  ·have := h.1.2 e he
   simp only [mayE, Bool.and_eq_true] at this
   exact this.2
  ·have := h.2 c hc
   simp only [caB, Bool.and_eq_true, decide_eq_true_eq] at this
   have h2 := this.1.2
   split at h2 <;> omega
 ·simp only [Bool.and_eq_true, List.isEmpty_iff] at h
  rw [h.1.2, h.2]
  exact ⟨by simp, by simp⟩
theorem item_there {p : Pg} (hm : mayP p = true) : ∀ x ∈ itemsP p, checkI p x = 0 → (x.kind = 10 → ∃ d, mayS x.s d = true) → (x.kind = 7 → ∀ (i : Nat) (f : Sa), x.a = (i : Int) → p.states[i]? = some f → firstE (keyR p) f.keys = .ok ()) → ItOk p x := by
 have no : ∀ {k : Int} {a b : Int} {s : St}, k ≠ 6 → k ≠ 7 → k ≠ 10 → k ≠ 12 → k ≠ 14 → ItOk p ⟨k, a, b, s⟩ := fun h6 h7 h10 h12 h14 => ⟨fun h => absurd h h6, fun h => absurd h h7, fun h => absurd h h10, fun h => absurd h h12, fun h => absurd h h14⟩
 refine items_elim ?_ ?_ ?_ ?_ ?_ ?_ ?_ ?_ ?_ ?_ ?_ ?_ ?_ ?_ ?_
 ·intros; exact no (by decide) (by decide) (by decide) (by decide) (by decide)
 ·intros; exact no (by decide) (by decide) (by decide) (by decide) (by decide)
 ·intros; exact no (by decide) (by decide) (by decide) (by decide) (by decide)
 ·intros; exact no (by decide) (by decide) (by decide) (by decide) (by decide)
 ·intros; exact no (by decide) (by decide) (by decide) (by decide) (by decide)
 ·intro i f hi _ _ _
  obtain ⟨hl, hf⟩ := List.getElem?_eq_some_iff.1 hi
  exact ⟨fun _ => ⟨i, hl, rfl, by rw [hf]; exact (keys_may hm hi).1⟩, fun h => absurd h (show ¬ ((6 : Int) = 7) by decide), fun h => absurd h (show ¬ ((6 : Int) = 10) by decide), fun h => absurd h (show ¬ ((6 : Int) = 12) by decide), fun h => absurd h (show ¬ ((6 : Int) = 14) by decide)⟩
 ·intro i j f g hi hj _ _ h7
  obtain ⟨hl, hf⟩ := List.getElem?_eq_some_iff.1 hi
  have hk := h7 rfl i f rfl hi
  subst hf
  obtain ⟨hl2, hg⟩ := List.getElem?_eq_some_iff.1 hj
  exact ⟨fun h => absurd h (show ¬ ((7 : Int) = 6) by decide), fun _ => ⟨i, hl, j, hl2, rfl, rfl, (keys_may hm hi).1, firstE_ok hk, (keys_may hm hi).2 _ (List.getElem_mem hl2)⟩, fun h => absurd h (show ¬ ((7 : Int) = 10) by decide), fun h => absurd h (show ¬ ((7 : Int) = 12) by decide), fun h => absurd h (show ¬ ((7 : Int) = 14) by decide)⟩
 ·intros; exact no (by decide) (by decide) (by decide) (by decide) (by decide)
 ·intros; exact no (by decide) (by decide) (by decide) (by decide) (by decide)
 ·intro a st hc h10 _
  obtain ⟨d, hd⟩ := h10 rfl
  refine ⟨fun h => absurd h (show ¬ ((10 : Int) = 6) by decide), fun h => absurd h (show ¬ ((10 : Int) = 7) by decide), fun _ => ?_, fun h => absurd h (show ¬ ((10 : Int) = 12) by decide), fun h => absurd h (show ¬ ((10 : Int) = 14) by decide)⟩
  rintro kind head name e thn els rfl
  rw [mayS] at hd
  refine ⟨fun hk => ?_, fun hk => ?_⟩
  ·rcases hk with rfl | rfl | rfl
   ·simp [mayE] at hd; exact hd.2.2
   ·simp [mayE] at hd; exact hd.1.1.2.2
   ·simp [mayE] at hd; exact hd.2.2
  ·subst hk
   simp only [checkI, stmtI] at hc
   simp only [show ¬ ((10 : Int) = 1) by decide, show ¬ ((10 : Int) = 2) by decide, show ¬ ((10 : Int) = 3) by decide, show ¬ ((10 : Int) = 4) by decide, show ¬ ((10 : Int) = 5) by decide, show ¬ ((10 : Int) = 6) by decide, show ¬ ((10 : Int) = 7) by decide, show ¬ ((10 : Int) = 8) by decide, show ¬ ((10 : Int) = 9) by decide, show ¬ ((1 : Int) = 3) by decide, show ¬ ((1 : Int) = 6 ∨ (1 : Int) = 7) by decide, show ¬ ((1 : Int) = 4) by decide, if_true, if_false] at hc
   have h1 := is_zero (by decide) (either_zero hc).1
   unfold setB
   split
   ·rename_i h; rw [if_pos h, decide_eq_false_iff_not] at h1; omega
   ·rename_i h; rw [if_neg h, decide_eq_false_iff_not] at h1; omega
 ·intros; exact no (by decide) (by decide) (by decide) (by decide) (by decide)
 ·intro i j f g hi hj _ _ _
  obtain ⟨hl, hf⟩ := List.getElem?_eq_some_iff.1 hi
  have hm' := hm
  simp only [mayP, Bool.and_eq_true] at hm'
  have ht := List.all_eq_true.1 hm'.1.1.2 f (List.mem_of_getElem? hi)
  simp only [taB, Bool.and_eq_true, List.all_eq_true] at ht
  have hk := ht.1.1.1.1.1.2 g (List.mem_of_getElem? hj)
  simp only [kyB, mayE, Bool.and_eq_true] at hk
  subst hf
  obtain ⟨hl2, hg⟩ := List.getElem?_eq_some_iff.1 hj
  exact ⟨fun h => absurd h (show ¬ ((12 : Int) = 6) by decide), fun h => absurd h (show ¬ ((12 : Int) = 7) by decide), fun h => absurd h (show ¬ ((12 : Int) = 10) by decide), fun _ => ⟨i, hl, j, hl2, rfl, rfl, by rw [hg]; exact hk.1.2⟩, fun h => absurd h (show ¬ ((12 : Int) = 14) by decide)⟩
 ·intros; exact no (by decide) (by decide) (by decide) (by decide) (by decide)
 ·intro i f hi hc _ _
  obtain ⟨hl, hf⟩ := List.getElem?_eq_some_iff.1 hi
  refine ⟨fun h => absurd h (show ¬ ((14 : Int) = 6) by decide), fun h => absurd h (show ¬ ((14 : Int) = 7) by decide), fun h => absurd h (show ¬ ((14 : Int) = 10) by decide), fun h => absurd h (show ¬ ((14 : Int) = 12) by decide), fun _ => ?_⟩
  have hc' : fixedI p f = 0 := by simpa [checkI, hi] using hc
  unfold fixedI at hc'
  split at hc'
  ·split at hc'
   ·omega
   ·rename_i hn
    obtain ⟨k, hk, he⟩ := findI_range (l := p.actions.map Ac.name) (a := f.dname) hn
    have hk2 : k < p.actions.length := by simpa using hk
    have hke : actionI p f.dname = (k : Int) := he
    rw [hke, Int.toNat_natCast, List.getElem?_eq_getElem hk2] at hc'
    obtain ⟨e1, e2⟩ := either_zero hc'
    have d1 : ¬ ((f.dargs.length : Int) < ((p.actions[k].params.length : Nat) : Int)) := decide_eq_false_iff_not.1 (is_zero (by decide) e1)
    have d2 : ¬ (((p.actions[k].params.length : Nat) : Int) < (f.dargs.length : Int)) := decide_eq_false_iff_not.1 (is_zero (by decide) e2)
    exact ⟨i, hl, k, hk2, rfl, by rw [hf]; exact hke, by rw [hf]; omega⟩
  ·omega
 ·intros; exact no (by decide) (by decide) (by decide) (by decide) (by decide)
theorem items_ok {p : Pg} (hm : mayP p = true) (hc : ∀ x ∈ itemsP p, checkI p x = 0) (k : Nat) (x : It) (hx : (itemsP p)[k]? = some x) (ha : ∀ (j : Nat) (y : It), j < k → (itemsP p)[j]? = some y → errN (itemR p y) = 0) : ItOk p x := by
 have hmem := List.mem_of_getElem? hx
 refine item_there hm x hmem (hc x hmem) (stmt_may hm x hmem) fun h7 i f hi hf => ?_
 obtain ⟨j, hj, hy⟩ := ahead_items p k x hx h7
 have h := ha j _ hj hy
 rw [show itemR p ⟨6, x.a, 0, zSt⟩ = firstE (keyR p) f.keys from by simp [itemR, hi, hf]] at h
 exact errN_ok (firstE_err (fun a n h => keyR_err h) f.keys) h
end Go.Proofs.YtbbdhknagofghaaGreat

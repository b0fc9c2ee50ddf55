import Derived.Test.YtcgmkjpgaigmfaaGreatChk03
import Derived.Test.YtcgmkjpgaigmfaaGreatChk23
set_option linter.all false
/-! Plain law of ResolveOnce: where nothing is wrong, each name means the one. -/
namespace Go.Proofs.YtcgmkjpgaigmfaaGreat
theorem firstBad_ok {p : Pg} : ∀ (l : List It) (n : Nat), (firstBad p l n).2 = 0 → (firstBad p l n).1 = ((n + l.length : Nat) : Int) ∧ ∀ x ∈ l, checkI p x = 0
 | [], n, _ => by simp [firstBad]
 | x :: l, n, h => by
  by_cases e : checkI p x = 0
  ·rw [firstBad, if_pos e] at h ⊢
   obtain ⟨h1, h2⟩ := firstBad_ok l (n + 1) h
   refine ⟨by rw [h1]; simp; omega, fun y hy => ?_⟩
   rcases List.mem_cons.1 hy with rfl | hy
   ·exact e
   ·exact h2 y hy
  ·rw [firstBad, if_neg e] at h
   exact absurd h e
theorem firstBad_bad {p : Pg} : ∀ (l : List It) (n : Nat), (firstBad p l n).2 ≠ 0 → (n : Int) ≤ (firstBad p l n).1 ∧ (firstBad p l n).1 < ((n + l.length : Nat) : Int)
 | [], n, h => by simp [firstBad] at h
 | x :: l, n, h => by
  by_cases e : checkI p x = 0
  ·rw [firstBad, if_pos e] at h ⊢
   have := firstBad_bad l (n + 1) h
   simp at this ⊢
   omega
  ·rw [firstBad, if_neg e]
   simp
   omega
theorem mem_eachI {α : Type} {kind : Int} {l : List α} {g : Nat → α → List It} {i : Nat} {a : α} (h : l[i]? = some a) : (⟨kind, (i : Int), 0, zSt⟩ : It) ∈ eachI kind l g ∧ ∀ y ∈ g i a, y ∈ eachI kind l g := by
 have hm : (a, i) ∈ l.zipIdx := by rw [List.mem_zipIdx_iff_getElem?]; exact h
 exact ⟨List.mem_flatMap.2 ⟨_, hm, List.mem_cons_self⟩, fun y hy => List.mem_flatMap.2 ⟨_, hm, List.mem_cons_of_mem _ hy⟩⟩
theorem mem_manyI {kind : Int} {a n j : Nat} (h : j < n) : (⟨kind, (a : Int), (j : Int), zSt⟩ : It) ∈ manyI kind a n := List.mem_map.2 ⟨j, List.mem_range.2 h, rfl⟩
theorem mem_heads {p : Pg} {x : It} (h : x ∈ headsI p) : x ∈ itemsP p := by simp [itemsP, h]
theorem mem_states {p : Pg} {x : It} (h : x ∈ statesI p) : x ∈ itemsP p := by simp [itemsP, h]
theorem mem_acts {p : Pg} {x : It} (h : x ∈ actsI p) : x ∈ itemsP p := by simp [itemsP, h]
theorem mem_tabs {p : Pg} {x : It} (h : x ∈ tabsI p) : x ∈ itemsP p := by simp [itemsP, h]
theorem either_zero {e f : Int} (h : eitherI e f = 0) : e = 0 ∧ f = 0 := by
 unfold eitherI at h
 split at h <;> simp_all
theorem is_zero {b : Bool} {e : Int} (he : e ≠ 0) (h : isI b e = 0) : b = false := by
 cases b
 ·rfl
 ·exact absurd h he
theorem findI_first {α : Type} {f : α → ByteArray} {l : List α} {i : Nat} {a : α} (h : l[i]? = some a) : findI (l.map f) (f a) ≤ (i : Int) ∧ 0 ≤ findI (l.map f) (f a) := by
 obtain ⟨hi, rfl⟩ := List.getElem?_eq_some_iff.1 h
 have := findI_le (l := l.map f) (k := i) (by simpa using hi)
 simpa using this
structure Once (p : Pg) : Prop where
 heads : ∀ (i : Nat) (h : Hd), p.headers[i]? = some h → headerI p h.name = (i : Int) ∧ bitsI h % 8 = 0
 acts : ∀ (i : Nat) (a : Ac), p.actions[i]? = some a → actionI p a.name = (i : Int)
 tabs : ∀ (i : Nat) (t : Ta), p.tables[i]? = some t → tableI p t.name = (i : Int) ∧ 0 ≤ actionI p t.dname
 stas : ∀ (i : Nat) (s : Sa), p.states[i]? = some s → stateB p s.name = true ∧ stateI p s.name = (i : Int) ∧ (∀ h ∈ s.takes, 0 ≤ headerI p h) ∧ (s.dest ≠ strE → stateB p s.dest = true) ∧ ∀ c ∈ s.cases_, stateB p c.dest = true
theorem acc_kw : nameB accS = false := by decide +kernel
theorem rej_kw : nameB rejS = false := by decide +kernel
theorem once_of {p : Pg} (hm : mayP p = true) (h : ∀ x ∈ itemsP p, checkI p x = 0) : Once p := by
 refine ⟨fun i x hx => ?_, fun i x hx => ?_, fun i x hx => ?_, fun i x hx => ?_⟩
 ·have h1 := h _ (mem_heads (mem_eachI hx).1)
  have h2 := findI_first (f := Hd.name) hx
  simp only [checkI, Int.toNat_natCast, hx, Option.elim_some, if_true] at h1
  obtain ⟨a, b⟩ := either_zero h1
  have a := is_zero (by decide) a
  have b := is_zero (by decide) b
  simp at a b
  unfold headerI at a ⊢
  exact ⟨by omega, b.1⟩
 ·have h1 := h _ (mem_acts (mem_eachI hx).1)
  have h2 := findI_first (f := Ac.name) hx
  simp [checkI, hx] at h1
  have a := is_zero (by decide) h1
  simp at a
  unfold actionI at a ⊢
  omega
 ·have h1 := h _ (mem_tabs (mem_eachI hx).1)
  have h3 := h ⟨14, (i : Int), 0, zSt⟩ (mem_tabs ((mem_eachI hx).2 _ (by simp)))
  have h2 := findI_first (f := Ta.name) hx
  simp [checkI, hx] at h1 h3
  have a := is_zero (by decide) h1
  simp at a
  refine ⟨by unfold tableI at a ⊢; omega, ?_⟩
  unfold fixedI at h3
  split at h3
  ·split at h3
   ·simp at h3
   ·omega
  ·simp at h3
 ·have h1 := h _ (mem_states (mem_eachI hx).1)
  have h6 := h ⟨6, (i : Int), 0, zSt⟩ (mem_states ((mem_eachI hx).2 _ (by simp)))
  have h5 : ∀ j, j < x.takes.length → _ := fun j hj => h ⟨5, (i : Int), (j : Int), zSt⟩ (mem_states ((mem_eachI hx).2 _ (List.mem_append_left _ (mem_manyI hj))))
  have h7 : ∀ j, j < x.cases_.length → _ := fun j hj => h ⟨7, (i : Int), (j : Int), zSt⟩ (mem_states ((mem_eachI hx).2 _ (List.mem_append_right _ (List.mem_cons_of_mem _ (mem_manyI hj)))))
  have hn : nameB x.name = true := by
   simp only [mayP, Bool.and_eq_true] at hm
   have := List.all_eq_true.1 hm.1.1.1.1.2 x (List.mem_of_getElem? hx)
   simp only [saB, Bool.and_eq_true] at this
   exact this.1.1.1
  have n1 : ¬ x.name = accS := fun e => by rw [e, acc_kw] at hn; cases hn
  have n2 : ¬ x.name = rejS := fun e => by rw [e, rej_kw] at hn; cases hn
  have h2 := findI_first (f := Sa.name) hx
  simp [checkI, hx] at h1 h6 h5 h7
  have a := is_zero (by decide) h1
  simp only [stateI, if_neg n1, if_neg n2, decide_eq_false_iff_not] at a
  refine ⟨?_, ?_, fun y hy => ?_, fun hd => ?_, fun c hc => ?_⟩
  ·simp only [stateB, if_neg n1, if_neg n2, decide_eq_true_eq]; exact h2.2
  ·simp only [stateI, if_neg n1, if_neg n2]
   unfold stateR at a ⊢
   omega
  ·obtain ⟨j, hj, rfl⟩ := List.getElem_of_mem hy
   have := h5 j hj
   rw [List.getElem?_eq_getElem hj] at this
   have := is_zero (by decide) this
   simpa using this
  ·unfold nextI at h6
   rw [if_neg hd] at h6
   have := is_zero (by decide) h6
   simpa using this
  ·obtain ⟨j, hj, rfl⟩ := List.getElem_of_mem hc
   have := h7 j hj
   rw [List.getElem?_eq_getElem hj] at this
   have := is_zero (by decide) this
   simpa using this
/-! How many items. -/
mutual
def countS : St → Nat
 | .mk _ _ _ _ thn els => 1 + countL thn + countL els
def countL : List St → Nat
 | [] => 0
 | s :: l => countS s + countL l
end
theorem count_items (a : Int) (s : St) : (itemsS a s).length = countS s := by
 have key : ∀ s : St, (itemsS a s).length = countS s := by
  intro s
  induction s using St.ind with
  | h kind head name e thn els ih1 ih2 =>
   have g : ∀ l : List St, (∀ x ∈ l, (itemsS a x).length = countS x) → (itemsL a l).length = countL l := by
    intro l
    induction l with
    | nil => intro _; rfl
    | cons x l ih => intro h; simp only [itemsL, countL, List.length_append, h x List.mem_cons_self, ih fun y hy => h y (List.mem_cons_of_mem _ hy)]
   simp only [itemsS, countS, List.length_cons, List.length_append, g thn ih1, g els ih2]
   omega
 exact key s
theorem count_itemsL (a : Int) : ∀ l : List St, (itemsL a l).length = countL l
 | [] => rfl
 | x :: l => by simp only [itemsL, countL, List.length_append, count_items, count_itemsL a l]
def countP (p : Pg) : Nat :=
 (p.headers.map fun h => h.fields.length + 1).sum + p.metas.length + (p.states.map fun s => 1 + s.takes.length + 1 + s.cases_.length).sum + (p.actions.map fun a => 1 + a.params.length + countL a.body).sum +
  (p.tables.map fun t => 1 + t.keys.length + t.actions.length + 1).sum + countL p.control + p.emit.length
theorem length_eachI {α : Type} {kind : Int} {g : Nat → α → List It} (f : α → Nat) (hg : ∀ i a, (g i a).length + 1 = f a) (l : List α) : (eachI kind l g).length = (l.map f).sum := by
 unfold eachI
 generalize hk : (0 : Nat) = k
 clear hk
 induction l generalizing k with
 | nil => simp
 | cons a l ih => simp only [List.zipIdx_cons, List.flatMap_cons, List.length_append, List.length_cons, List.map_cons, List.sum_cons, hg, ih (k + 1)]
theorem length_manyI {kind : Int} {a n : Nat} : (manyI kind a n).length = n := by simp [manyI]
theorem length_itemsP (p : Pg) : (itemsP p).length = countP p := by
 unfold itemsP headsI metasI statesI actsI tabsI emitsI
 simp only [List.length_append]
 rw [length_eachI (fun h : Hd => h.fields.length + 1) (by simp [length_manyI]), length_eachI (fun _ : Fd => 1) (by simp), length_eachI (fun s : Sa => 1 + s.takes.length + 1 + s.cases_.length) (by simp [length_manyI]; omega),
  length_eachI (fun a : Ac => 1 + a.params.length + countL a.body) (by simp [length_manyI, count_itemsL]; omega), length_eachI (fun t : Ta => 1 + t.keys.length + t.actions.length + 1) (by simp [length_manyI]; omega), count_itemsL, length_eachI (fun _ : ByteArray => 1) (by simp)]
 have c1 : ∀ {α : Type} (l : List α), (l.map fun _ => 1).sum = l.length := fun l => by induction l <;> simp_all <;> omega
 rw [c1, c1]
 unfold countP
 omega
/-- So many items has a statement of a block so deep at most. -/
theorem count_le (s : St) : ∀ d : Nat, mayS s d = true → d ≤ 8 → countS s ≤ 65 ^ (8 - d) := by
 induction s using St.ind with
 | h kind head name e thn els ih1 ih2 =>
  intro d hm hd
  have g : ∀ l : List St, (∀ x ∈ l, ∀ d : Nat, mayS x d = true → d ≤ 8 → countS x ≤ 65 ^ (8 - d)) → d + 1 ≤ 8 → mayL l (d + 1) = true → countL l ≤ l.length * 65 ^ (8 - (d + 1)) := by
   intro l
   induction l with
   | nil => intro _ _ _; simp [countL]
   | cons x l ih =>
    intro h hd1 hml
    simp only [mayL, Bool.and_eq_true] at hml
    have h1 := h x List.mem_cons_self (d + 1) hml.1 hd1
    have h2 := ih (fun y hy => h y (List.mem_cons_of_mem _ hy)) hd1 hml.2
    simp only [countL, List.length_cons, Nat.add_mul]
    omega
  have key : ∀ l : List St, (∀ x ∈ l, ∀ d : Nat, mayS x d = true → d ≤ 8 → countS x ≤ 65 ^ (8 - d)) → (l.isEmpty || (decide (d + 1 ≤ 8) && decide (l.length ≤ 32) && mayL l (d + 1))) = true → 2 * countL l + 1 ≤ 65 ^ (8 - d) := by
   intro l hl hb
   cases l with
   | nil => simp only [countL]; exact Nat.one_le_pow _ _ (by omega)
   | cons x l =>
    simp only [List.isEmpty_cons, Bool.false_or, Bool.and_eq_true, decide_eq_true_eq] at hb
    have h1 := g (x :: l) hl hb.1.1 hb.2
    have h2 : 8 - d = (8 - (d + 1)) + 1 := by omega
    rw [h2, Nat.pow_succ]
    have h3 : 1 ≤ 65 ^ (8 - (d + 1)) := Nat.one_le_pow _ _ (by omega)
    have h4 : (x :: l).length * 65 ^ (8 - (d + 1)) ≤ 32 * 65 ^ (8 - (d + 1)) := Nat.mul_le_mul_right _ hb.1.2
    omega
  have none_ : thn.isEmpty = true → els.isEmpty = true → countS (.mk kind head name e thn els) ≤ 65 ^ (8 - d) := by
   intro h1 h2
   rw [List.isEmpty_iff] at h1 h2
   subst h1 h2
   simp only [countS, countL]
   exact Nat.one_le_pow _ _ (by omega)
  unfold mayS at hm
  split at hm
  ·simp only [Bool.and_eq_true] at hm; exact none_ hm.1.1.1.1 hm.1.1.1.2
  split at hm
  ·simp only [Bool.and_eq_true] at hm
   have h1 := key thn ih1 hm.1.2
   have h2 := key els ih2 hm.2
   simp only [countS]
   omega
  split at hm
  ·simp only [Bool.and_eq_true] at hm; exact none_ hm.1.1.1.1 hm.1.1.1.2
  split at hm
  ·simp only [Bool.and_eq_true] at hm; exact none_ hm.1.1.1.1 hm.1.1.1.2
  split at hm
  ·simp only [Bool.and_eq_true] at hm; exact none_ hm.1.1.1.1 hm.1.1.1.2
  split at hm
  ·simp only [Bool.and_eq_true] at hm; exact none_ hm.1.1.1.1 hm.1.1.1.2
  ·cases hm
theorem countL_le (l : List St) (h : mayBlk l 1 = true) : countL l ≤ 156871292500000 := by
 unfold mayBlk at h
 cases l with
 | nil => simp [countL]
 | cons x l =>
  simp only [List.isEmpty_cons, Bool.false_or, Bool.and_eq_true, decide_eq_true_eq] at h
  have g : ∀ l : List St, mayL l 1 = true → countL l ≤ l.length * 65 ^ 7 := by
   intro l
   induction l with
   | nil => intro _; simp [countL]
   | cons x l ih =>
    intro hl
    simp only [mayL, Bool.and_eq_true] at hl
    have h1 := count_le x 1 hl.1 (by omega)
    have h2 := ih hl.2
    simp only [countL, List.length_cons, Nat.add_mul]
    omega
  have h1 := g _ h.2
  have h4 : (x :: l).length * 65 ^ 7 ≤ 156871292500000 := Nat.mul_le_mul_right _ h.1.2
  omega
theorem sum_le {α : Type} {f : α → Nat} {m : Nat} : ∀ {l : List α}, (∀ x ∈ l, f x ≤ m) → (l.map f).sum ≤ l.length * m
 | [], _ => by simp
 | x :: l, h => by
  have h1 := h x List.mem_cons_self
  have h2 := sum_le (l := l) fun y hy => h y (List.mem_cons_of_mem _ hy)
  simp only [List.map_cons, List.sum_cons, List.length_cons, Nat.add_mul]
  omega
set_option maxRecDepth 100000 in
theorem countP_le {p : Pg} (hm : mayP p = true) : countP p ≤ 4611686018427387904 := by
 simp only [mayP, manyB, Bool.and_eq_true, decide_eq_true_eq] at hm
 obtain ⟨⟨⟨⟨⟨⟨⟨⟨n1, n2, n3, n4, n5, n6, n7⟩, h1⟩, h2⟩, h3⟩, h4⟩, h5⟩, h6⟩, h7⟩ := hm
 have s1 : (p.headers.map fun h => h.fields.length + 1).sum ≤ p.headers.length * 17 := sum_le fun x hx => by
  have := List.all_eq_true.1 h1 x hx
  simp only [hdB, Bool.and_eq_true, decide_eq_true_eq] at this
  omega
 have s3 : (p.states.map fun s => 1 + s.takes.length + 1 + s.cases_.length).sum ≤ p.states.length * 26 := sum_le fun x hx => by
  have := List.all_eq_true.1 h3 x hx
  simp only [saB, Bool.and_eq_true, decide_eq_true_eq] at this
  obtain ⟨⟨⟨_, t1⟩, _⟩, t2⟩ := this
  split at t2
  ·simp only [Bool.and_eq_true, decide_eq_true_eq] at t2; omega
  ·simp only [Bool.and_eq_true, List.isEmpty_iff] at t2; rw [t2.2]; simp; omega
 have s4 : (p.actions.map fun a => 1 + a.params.length + countL a.body).sum ≤ p.actions.length * (9 + 156871292500000) := sum_le fun x hx => by
  have := List.all_eq_true.1 h4 x hx
  simp only [acB, Bool.and_eq_true, decide_eq_true_eq] at this
  have := countL_le _ this.2
  omega
 have s5 : (p.tables.map fun t => 1 + t.keys.length + t.actions.length + 1).sum ≤ p.tables.length * 22 := sum_le fun x hx => by
  have := List.all_eq_true.1 h5 x hx
  simp only [taB, Bool.and_eq_true, decide_eq_true_eq] at this
  omega
 have s6 := countL_le _ h6
 have t1 : p.headers.length * 17 ≤ 8 * 17 := Nat.mul_le_mul_right _ n1
 have t3 : p.states.length * 26 ≤ 16 * 26 := Nat.mul_le_mul_right _ n4
 have t4 : p.actions.length * (9 + 156871292500000) ≤ 16 * (9 + 156871292500000) := Nat.mul_le_mul_right _ n5
 have t5 : p.tables.length * 22 ≤ 8 * 22 := Nat.mul_le_mul_right _ n6
 unfold countP
 omega
end Go.Proofs.YtcgmkjpgaigmfaaGreat
/-! Layer 7: the parts of all, each as it is told. -/
namespace Go.Proofs.YtcgmkjpgaigmfaaGreat
open Go.RowKit
theorem part_heads {l B B0 : Nat} {w0 : World} {g : Nat → Bool} {J S : Nat → World → Prop} (A1 A2 A3 A4 A5 A6 A7 : Option Addr) (p : Pg) (c1 c2 c3 c4 c5 c6 c7 : Nat) (hY : Yl l B (itemsP p) g J S) (hown : OwnFrom B0 J) (hJK : ∀ k W, J k W → Below B w0 W) (hBB : B ≤ B0) (hP : PgS w0 B A1 A2 A3 A4 A5 A6 A7 p) (bp bo : Nat)
  (W : World) (hB0 : B0 ≤ W.heap.size) (hh : Held A1 A2 A3 A4 A5 A6 A7 p c1 c2 c3 c4 c5 c6 c7 l bp bo W) (hJ : J ([] : List It).length W) :
  Calls Tryz.prog 49 #[.int .u8 1, .int .i64 (p.headers.length : Int), .func (.yield l) #[] #[], .func (.func 50) #[] #[.pointer (some ⟨bp, 0, none⟩), .pointer (some ⟨bo, 0, none⟩)]] W (Told (itemsP p).length g J S W ([] : List It).length (headsI p).length) := by
 have hxs : itemsP p = ([] : List It) ++ (headsI p ++ (metasI p ++ (statesI p ++ (actsI p ++ (tabsI p ++ (itemsL (-1) p.control ++ (emitsI p))))))) := by simp [itemsP]
 refine part_each (f := fun h : Hd => h.fields.length) (by intro i a; exact length_manyI) hxs hY hP.headers.len 50 #[.pointer (some ⟨bp, 0, none⟩), .pointer (some ⟨bo, 0, none⟩)] enters_all2 W ?_ hJ
 intro i a j W1 ha hx hJ1 hk1
 exact heads_tells hY hown hJK A1 A2 A3 A4 A5 A6 A7 p c1 c2 c3 c4 c5 c6 c7 hP bp bo i j a ha W1 (by have := hk1.size; omega) (hh.kp hk1) (fun k hk => by rw [hx k hk]; exact many_get hk) hJ1
theorem part_metas {l B B0 : Nat} {w0 : World} {g : Nat → Bool} {J S : Nat → World → Prop} (A1 A2 A3 A4 A5 A6 A7 : Option Addr) (p : Pg) (c1 c2 c3 c4 c5 c6 c7 : Nat) (hY : Yl l B (itemsP p) g J S) (hown : OwnFrom B0 J) (hJK : ∀ k W, J k W → Below B w0 W) (hBB : B ≤ B0) (hP : PgS w0 B A1 A2 A3 A4 A5 A6 A7 p) (bp bo : Nat)
  (W : World) (hB0 : B0 ≤ W.heap.size) (hh : Held A1 A2 A3 A4 A5 A6 A7 p c1 c2 c3 c4 c5 c6 c7 l bp bo W) (hJ : J (headsI p).length W) :
  Calls Tryz.prog 49 #[.int .u8 3, .int .i64 (p.metas.length : Int), .func (.yield l) #[] #[], .func (.func 48) #[] #[]] W (Told (itemsP p).length g J S W (headsI p).length (metasI p).length) := by
 have hxs : itemsP p = (headsI p) ++ (metasI p ++ (statesI p ++ (actsI p ++ (tabsI p ++ (itemsL (-1) p.control ++ (emitsI p)))))) := by simp [itemsP]
 refine part_each (f := fun _ : Fd => 0) (by intro i a; rfl) hxs hY hP.metas.len 48 #[] enters_none W ?_ hJ
 intro i a j W1 ha hx hJ1 hk1
 exact none_tells (i : Int) W1 hJ1
theorem part_states {l B B0 : Nat} {w0 : World} {g : Nat → Bool} {J S : Nat → World → Prop} (A1 A2 A3 A4 A5 A6 A7 : Option Addr) (p : Pg) (c1 c2 c3 c4 c5 c6 c7 : Nat) (hY : Yl l B (itemsP p) g J S) (hown : OwnFrom B0 J) (hJK : ∀ k W, J k W → Below B w0 W) (hBB : B ≤ B0) (hP : PgS w0 B A1 A2 A3 A4 A5 A6 A7 p) (bp bo : Nat)
  (W : World) (hB0 : B0 ≤ W.heap.size) (hh : Held A1 A2 A3 A4 A5 A6 A7 p c1 c2 c3 c4 c5 c6 c7 l bp bo W) (hJ : J (headsI p ++ metasI p).length W) :
  Calls Tryz.prog 49 #[.int .u8 4, .int .i64 (p.states.length : Int), .func (.yield l) #[] #[], .func (.func 52) #[] #[.pointer (some ⟨bp, 0, none⟩), .pointer (some ⟨bo, 0, none⟩)]] W (Told (itemsP p).length g J S W (headsI p ++ metasI p).length (statesI p).length) := by
 have hxs : itemsP p = (headsI p ++ metasI p) ++ (statesI p ++ (actsI p ++ (tabsI p ++ (itemsL (-1) p.control ++ (emitsI p))))) := by simp [itemsP]
 refine part_each (f := fun s : Sa => s.takes.length + (1 + s.cases_.length)) (by intro i a; simp [length_manyI]; omega) hxs hY hP.states.len 52 #[.pointer (some ⟨bp, 0, none⟩), .pointer (some ⟨bo, 0, none⟩)] enters_all3 W ?_ hJ
 intro i a j W1 ha hx hJ1 hk1
 have hx1 : ∀ k : Nat, k < a.takes.length → (itemsP p)[j + k]? = some ⟨5, (i : Int), (k : Int), zSt⟩ := fun k hk => by
  rw [hx k (by omega), List.getElem?_append_left (by rw [length_manyI]; exact hk)]; exact many_get hk
 have hx2 : (itemsP p)[j + a.takes.length]? = some ⟨6, (i : Int), 0, zSt⟩ := by
  rw [hx _ (by omega), List.getElem?_append_right (by rw [length_manyI]; omega), length_manyI, Nat.sub_self]; rfl
 have hx3 : ∀ k : Nat, k < a.cases_.length → (itemsP p)[j + a.takes.length + 1 + k]? = some ⟨7, (i : Int), (k : Int), zSt⟩ := fun k hk => by
  rw [show j + a.takes.length + 1 + k = j + (a.takes.length + (k + 1)) by omega, hx _ (by omega), List.getElem?_append_right (by rw [length_manyI]; omega), length_manyI, Nat.add_sub_cancel_left, List.getElem?_cons_succ]; exact many_get hk
 exact stas_tells hY hown hJK A1 A2 A3 A4 A5 A6 A7 p c1 c2 c3 c4 c5 c6 c7 hP bp bo i j a ha W1 (by have := hk1.size; omega) (hh.kp hk1) hx1 hx2 hx3 hJ1
theorem part_acts {l B B0 : Nat} {w0 : World} {g : Nat → Bool} {J S : Nat → World → Prop} (A1 A2 A3 A4 A5 A6 A7 : Option Addr) (p : Pg) (c1 c2 c3 c4 c5 c6 c7 : Nat) (hY : Yl l B (itemsP p) g J S) (hown : OwnFrom B0 J) (hJK : ∀ k W, J k W → Below B w0 W) (hBB : B ≤ B0) (hP : PgS w0 B A1 A2 A3 A4 A5 A6 A7 p) (bp bo : Nat)
  (W : World) (hB0 : B0 ≤ W.heap.size) (hh : Held A1 A2 A3 A4 A5 A6 A7 p c1 c2 c3 c4 c5 c6 c7 l bp bo W) (hJ : J (headsI p ++ metasI p ++ statesI p).length W) :
  Calls Tryz.prog 49 #[.int .u8 8, .int .i64 (p.actions.length : Int), .func (.yield l) #[] #[], .func (.func 53) #[] #[.pointer (some ⟨bp, 0, none⟩), .pointer (some ⟨bo, 0, none⟩)]] W (Told (itemsP p).length g J S W (headsI p ++ metasI p ++ statesI p).length (actsI p).length) := by
 have hxs : itemsP p = (headsI p ++ metasI p ++ statesI p) ++ (actsI p ++ (tabsI p ++ (itemsL (-1) p.control ++ (emitsI p)))) := by simp [itemsP]
 refine part_each (f := fun s : Ac => s.params.length + countL s.body) (by intro i a; simp [length_manyI, count_itemsL]) hxs hY hP.actions.len 53 #[.pointer (some ⟨bp, 0, none⟩), .pointer (some ⟨bo, 0, none⟩)] enters_all4 W ?_ hJ
 intro i a j W1 ha hx hJ1 hk1
 have hx1 : ∀ k : Nat, k < a.params.length → (itemsP p)[j + k]? = some ⟨9, (i : Int), (k : Int), zSt⟩ := fun k hk => by
  rw [hx k (by omega), List.getElem?_append_left (by rw [length_manyI]; exact hk)]; exact many_get hk
 have hx2 : ∀ (k : Nat) (x : It), (itemsL (i : Int) a.body)[k]? = some x → (itemsP p)[j + a.params.length + k]? = some x := fun k x hx2 => by
  have hk := (List.getElem?_eq_some_iff.1 hx2).1
  rw [count_itemsL] at hk
  rw [show j + a.params.length + k = j + (a.params.length + k) by omega, hx _ (by omega), List.getElem?_append_right (by rw [length_manyI]; omega), length_manyI, Nat.add_sub_cancel_left]; exact hx2
 rw [← count_itemsL (i : Int) a.body]
 exact acts_tells hY hown hJK hBB A1 A2 A3 A4 A5 A6 A7 p c1 c2 c3 c4 c5 c6 c7 hP bp bo i j a ha W1 (by have := hk1.size; omega) (hh.kp hk1) hx1 hx2 hJ1
theorem part_tabs {l B B0 : Nat} {w0 : World} {g : Nat → Bool} {J S : Nat → World → Prop} (A1 A2 A3 A4 A5 A6 A7 : Option Addr) (p : Pg) (c1 c2 c3 c4 c5 c6 c7 : Nat) (hY : Yl l B (itemsP p) g J S) (hown : OwnFrom B0 J) (hJK : ∀ k W, J k W → Below B w0 W) (hBB : B ≤ B0) (hP : PgS w0 B A1 A2 A3 A4 A5 A6 A7 p) (bp bo : Nat)
  (W : World) (hB0 : B0 ≤ W.heap.size) (hh : Held A1 A2 A3 A4 A5 A6 A7 p c1 c2 c3 c4 c5 c6 c7 l bp bo W) (hJ : J (headsI p ++ metasI p ++ statesI p ++ actsI p).length W) :
  Calls Tryz.prog 49 #[.int .u8 11, .int .i64 (p.tables.length : Int), .func (.yield l) #[] #[], .func (.func 55) #[] #[.pointer (some ⟨bp, 0, none⟩), .pointer (some ⟨bo, 0, none⟩)]] W (Told (itemsP p).length g J S W (headsI p ++ metasI p ++ statesI p ++ actsI p).length (tabsI p).length) := by
 have hxs : itemsP p = (headsI p ++ metasI p ++ statesI p ++ actsI p) ++ (tabsI p ++ (itemsL (-1) p.control ++ (emitsI p))) := by simp [itemsP]
 refine part_each (f := fun s : Ta => s.keys.length + (s.actions.length + 1)) (by intro i a; simp [length_manyI]) hxs hY hP.tables.len 55 #[.pointer (some ⟨bp, 0, none⟩), .pointer (some ⟨bo, 0, none⟩)] enters_all5 W ?_ hJ
 intro i a j W1 ha hx hJ1 hk1
 have hx1 : ∀ k : Nat, k < a.keys.length → (itemsP p)[j + k]? = some ⟨12, (i : Int), (k : Int), zSt⟩ := fun k hk => by
  rw [hx k (by omega), List.getElem?_append_left (by rw [length_manyI]; exact hk)]; exact many_get hk
 have hx3 : ∀ k : Nat, k < a.actions.length → (itemsP p)[j + a.keys.length + k]? = some ⟨13, (i : Int), (k : Int), zSt⟩ := fun k hk => by
  rw [show j + a.keys.length + k = j + (a.keys.length + k) by omega, hx _ (by omega), List.getElem?_append_right (by rw [length_manyI]; omega), length_manyI, Nat.add_sub_cancel_left, List.getElem?_append_left (by rw [length_manyI]; exact hk)]; exact many_get hk
 have hx2 : (itemsP p)[j + a.keys.length + a.actions.length]? = some ⟨14, (i : Int), 0, zSt⟩ := by
  rw [show j + a.keys.length + a.actions.length = j + (a.keys.length + a.actions.length) by omega, hx _ (by omega), List.getElem?_append_right (by rw [length_manyI]; omega), length_manyI, Nat.add_sub_cancel_left, List.getElem?_append_right (by rw [length_manyI]; omega), length_manyI, Nat.sub_self]; rfl
 exact tabs_tells hY hown hJK A1 A2 A3 A4 A5 A6 A7 p c1 c2 c3 c4 c5 c6 c7 hP bp bo i j a ha W1 (by have := hk1.size; omega) (hh.kp hk1) hx1 hx3 hx2 hJ1
theorem part_ctrl {l B B0 : Nat} {w0 : World} {g : Nat → Bool} {J S : Nat → World → Prop} (A1 A2 A3 A4 A5 A6 A7 : Option Addr) (p : Pg) (c1 c2 c3 c4 c5 c6 c7 : Nat) (hY : Yl l B (itemsP p) g J S) (hown : OwnFrom B0 J) (hJK : ∀ k W, J k W → Below B w0 W) (hBB : B ≤ B0) (hP : PgS w0 B A1 A2 A3 A4 A5 A6 A7 p) (bp bo : Nat)
  (W : World) (hB0 : B0 ≤ W.heap.size) (hh : Held A1 A2 A3 A4 A5 A6 A7 p c1 c2 c3 c4 c5 c6 c7 l bp bo W) (A : Option Addr) (hS : Sl 14 rSt w0 B A p.control) (cap : Nat) (hJ : J (headsI p ++ metasI p ++ statesI p ++ actsI p ++ tabsI p).length W) :
  Calls Tryz.prog 54 #[.int .i64 (-1), .slice A p.control.length cap, .func (.yield l) #[] #[]] W (Told (itemsP p).length g J S W (headsI p ++ metasI p ++ statesI p ++ actsI p ++ tabsI p).length (itemsL (-1) p.control).length) := by
 have hxs : itemsP p = (headsI p ++ metasI p ++ statesI p ++ actsI p ++ tabsI p) ++ (itemsL (-1) p.control ++ (emitsI p)) := by simp [itemsP]
 exact stmts_tells hY hown hJK hBB p.control (-1) A cap W _ hS hB0 (fun k x hx => by rw [hxs, seg _ (List.getElem?_eq_some_iff.1 hx).1]; exact hx) hJ
theorem part_emits {l B B0 : Nat} {w0 : World} {g : Nat → Bool} {J S : Nat → World → Prop} (A1 A2 A3 A4 A5 A6 A7 : Option Addr) (p : Pg) (c1 c2 c3 c4 c5 c6 c7 : Nat) (hY : Yl l B (itemsP p) g J S) (hown : OwnFrom B0 J) (hJK : ∀ k W, J k W → Below B w0 W) (hBB : B ≤ B0) (hP : PgS w0 B A1 A2 A3 A4 A5 A6 A7 p) (bp bo : Nat)
  (W : World) (hB0 : B0 ≤ W.heap.size) (hh : Held A1 A2 A3 A4 A5 A6 A7 p c1 c2 c3 c4 c5 c6 c7 l bp bo W) (hJ : J (headsI p ++ metasI p ++ statesI p ++ actsI p ++ tabsI p ++ itemsL (-1) p.control).length W) :
  Calls Tryz.prog 49 #[.int .u8 15, .int .i64 (p.emit.length : Int), .func (.yield l) #[] #[], .func (.func 48) #[] #[]] W (Told (itemsP p).length g J S W (headsI p ++ metasI p ++ statesI p ++ actsI p ++ tabsI p ++ itemsL (-1) p.control).length (emitsI p).length) := by
 have hxs : itemsP p = (headsI p ++ metasI p ++ statesI p ++ actsI p ++ tabsI p ++ itemsL (-1) p.control) ++ (emitsI p ++ []) := by simp [itemsP]
 refine part_each (f := fun _ : ByteArray => 0) (by intro i a; rfl) hxs hY hP.emit.len 48 #[] enters_none W ?_ hJ
 intro i a j W1 ha hx hJ1 hk1
 exact none_tells (i : Int) W1 hJ1
end Go.Proofs.YtcgmkjpgaigmfaaGreat

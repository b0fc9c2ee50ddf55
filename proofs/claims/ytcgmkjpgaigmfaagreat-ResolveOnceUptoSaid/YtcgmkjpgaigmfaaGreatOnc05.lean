import Derived.Test.YtcgmkjpgaigmfaaGreatOnc03
import Derived.Test.YtcgmkjpgaigmfaaGreatOnc04
set_option linter.all false
/-! Plain law of ResolveOnce: where nothing is wrong, each name means the one. -/
namespace Go.Proofs.YtcgmkjpgaigmfaaGreat
theorem firstBad_ok {p : Pg} : ∀ (l : List It) (n : Nat), (firstBad p l n).2 = 0 → (firstBad p l n).1 = ((n + l.length : Nat) : Int) ∧ ∀ x ∈ l, checkI p x = 0
  | [], n, _ => by simp [firstBad]
  | x :: l, n, h => by
    by_cases e : checkI p x = 0
    · rw [firstBad, if_pos e] at h ⊢
      obtain ⟨h1, h2⟩ := firstBad_ok l (n + 1) h
      refine ⟨by rw [h1]; simp; omega, fun y hy => ?_⟩
      rcases List.mem_cons.1 hy with rfl | hy
      · exact e
      · exact h2 y hy
    · rw [firstBad, if_neg e] at h
      exact absurd h e
theorem firstBad_bad {p : Pg} : ∀ (l : List It) (n : Nat), (firstBad p l n).2 ≠ 0 → (n : Int) ≤ (firstBad p l n).1 ∧ (firstBad p l n).1 < ((n + l.length : Nat) : Int)
  | [], n, h => by simp [firstBad] at h
  | x :: l, n, h => by
    by_cases e : checkI p x = 0
    · rw [firstBad, if_pos e] at h ⊢
      have := firstBad_bad l (n + 1) h
      simp at this ⊢
      omega
    · rw [firstBad, if_neg e]
      simp
      omega
theorem mem_eachI {α : Type} {kind : Int} {l : List α} {g : Nat → α → List It} {i : Nat} {a : α} (h : l[i]? = some a) : (⟨kind, (i : Int), 0, zSt⟩ : It) ∈ eachI kind l g ∧ ∀ y ∈ g i a, y ∈ eachI kind l g := by
  have hm : (a, i) ∈ l.zipIdx := by rw [List.mem_zipIdx_iff_getElem?]; exact h
  exact ⟨List.mem_flatMap.2 ⟨_, hm, List.mem_cons_self⟩, fun y hy => List.mem_flatMap.2 ⟨_, hm, List.mem_cons_of_mem _ hy⟩⟩
theorem mem_manyI {kind : Int} {a n j : Nat} (h : j < n) : (⟨kind, (a : Int), (j : Int), zSt⟩ : It) ∈ manyI kind a n := List.mem_map.2 ⟨j, List.mem_range.2 h, rfl⟩
theorem mem_heads {p : Pg} {x : It} (h : x ∈ headsI p) : x ∈ itemsP p := by simp [itemsP, h]
theorem mem_states {p : Pg} {x : It} (h : x ∈ statesI p) : x ∈ itemsP p := by simp [itemsP, h]
theorem mem_acts {p : Pg} {x : It} (h : x ∈ actsI p) : x ∈ itemsP p := by simp [itemsP, h]
theorem mem_tabs {p : Pg} {x : It} (h : x ∈ tabsI p) : x ∈ itemsP p := by simp [itemsP, h]
theorem either_zero {e f : Int} (h : eitherI e f = 0) : e = 0 ∧ f = 0 := by
  unfold eitherI at h
  split at h <;> simp_all
theorem is_zero {b : Bool} {e : Int} (he : e ≠ 0) (h : isI b e = 0) : b = false := by
  cases b
  · rfl
  · exact absurd h he
theorem findI_first {α : Type} {f : α → ByteArray} {l : List α} {i : Nat} {a : α} (h : l[i]? = some a) : findI (l.map f) (f a) ≤ (i : Int) ∧ 0 ≤ findI (l.map f) (f a) := by
  obtain ⟨hi, rfl⟩ := List.getElem?_eq_some_iff.1 h
  have := findI_le (l := l.map f) (k := i) (by simpa using hi)
  simpa using this
structure Once (p : Pg) : Prop where
  heads : ∀ (i : Nat) (h : Hd), p.headers[i]? = some h → headerI p h.name = (i : Int) ∧ bitsI h % 8 = 0
  acts : ∀ (i : Nat) (a : Ac), p.actions[i]? = some a → actionI p a.name = (i : Int)
  tabs : ∀ (i : Nat) (t : Ta), p.tables[i]? = some t → tableI p t.name = (i : Int) ∧ 0 ≤ actionI p t.dname
  stas : ∀ (i : Nat) (s : Sa), p.states[i]? = some s → stateB p s.name = true ∧ stateI p s.name = (i : Int) ∧ (∀ h ∈ s.takes, 0 ≤ headerI p h) ∧ (s.dest ≠ strE → stateB p s.dest = true) ∧ ∀ c ∈ s.cases_, stateB p c.dest = true
theorem acc_kw : nameB accS = false := by decide +kernel
theorem rej_kw : nameB rejS = false := by decide +kernel
theorem once_of {p : Pg} (hm : mayP p = true) (h : ∀ x ∈ itemsP p, checkI p x = 0) : Once p := by
  refine ⟨fun i x hx => ?_, fun i x hx => ?_, fun i x hx => ?_, fun i x hx => ?_⟩
  · have h1 := h _ (mem_heads (mem_eachI hx).1)
    have h2 := findI_first (f := Hd.name) hx
    simp only [checkI, Int.toNat_natCast, hx, Option.elim_some, if_true] at h1
    obtain ⟨a, b⟩ := either_zero h1
    have a := is_zero (by decide) a
    have b := is_zero (by decide) b
    simp at a b
    unfold headerI at a ⊢
    exact ⟨by omega, b.1⟩
  · have h1 := h _ (mem_acts (mem_eachI hx).1)
    have h2 := findI_first (f := Ac.name) hx
    simp [checkI, hx] at h1
    have a := is_zero (by decide) h1
    simp at a
    unfold actionI at a ⊢
    omega
  · have h1 := h _ (mem_tabs (mem_eachI hx).1)
    have h3 := h ⟨14, (i : Int), 0, zSt⟩ (mem_tabs ((mem_eachI hx).2 _ (by simp)))
    have h2 := findI_first (f := Ta.name) hx
    simp [checkI, hx] at h1 h3
    have a := is_zero (by decide) h1
    simp at a
    refine ⟨by unfold tableI at a ⊢; omega, ?_⟩
    unfold fixedI at h3
    split at h3
    · split at h3
      · simp at h3
      · omega
    · simp at h3
  · have h1 := h _ (mem_states (mem_eachI hx).1)
    have h6 := h ⟨6, (i : Int), 0, zSt⟩ (mem_states ((mem_eachI hx).2 _ (by simp)))
    have h5 : ∀ j, j < x.takes.length → _ := fun j hj => h ⟨5, (i : Int), (j : Int), zSt⟩ (mem_states ((mem_eachI hx).2 _ (List.mem_append_left _ (mem_manyI hj))))
    have h7 : ∀ j, j < x.cases_.length → _ := fun j hj => h ⟨7, (i : Int), (j : Int), zSt⟩ (mem_states ((mem_eachI hx).2 _ (List.mem_append_right _ (List.mem_cons_of_mem _ (mem_manyI hj)))))
    have hn : nameB x.name = true := by
      simp only [mayP, Bool.and_eq_true] at hm
      have := List.all_eq_true.1 hm.1.1.1.1.2 x (List.mem_of_getElem? hx)
      simp only [saB, Bool.and_eq_true] at this
      exact this.1.1.1
    have n1 : ¬ x.name = accS := fun e => by rw [e, acc_kw] at hn; cases hn
    have n2 : ¬ x.name = rejS := fun e => by rw [e, rej_kw] at hn; cases hn
    have h2 := findI_first (f := Sa.name) hx
    simp [checkI, hx] at h1 h6 h5 h7
    have a := is_zero (by decide) h1
    simp only [stateI, if_neg n1, if_neg n2, decide_eq_false_iff_not] at a
    refine ⟨?_, ?_, fun y hy => ?_, fun hd => ?_, fun c hc => ?_⟩
    · simp only [stateB, if_neg n1, if_neg n2, decide_eq_true_eq]; exact h2.2
    · simp only [stateI, if_neg n1, if_neg n2]
      unfold stateR at a ⊢
      omega
    · obtain ⟨j, hj, rfl⟩ := List.getElem_of_mem hy
      have := h5 j hj
      rw [List.getElem?_eq_getElem hj] at this
      have := is_zero (by decide) this
      simpa using this
    · unfold nextI at h6
      rw [if_neg hd] at h6
      have := is_zero (by decide) h6
      simpa using this
    · obtain ⟨j, hj, rfl⟩ := List.getElem_of_mem hc
      have := h7 j hj
      rw [List.getElem?_eq_getElem hj] at this
      have := is_zero (by decide) this
      simpa using this
/-! How many items. -/
mutual
def countS : St → Nat
  | .mk _ _ _ _ thn els => 1 + countL thn + countL els
def countL : List St → Nat
  | [] => 0
  | s :: l => countS s + countL l
end
theorem count_items (a : Int) (s : St) : (itemsS a s).length = countS s := by
  have key : ∀ s : St, (itemsS a s).length = countS s := by
    intro s
    induction s using St.ind with
    | h kind head name e thn els ih1 ih2 =>
      have g : ∀ l : List St, (∀ x ∈ l, (itemsS a x).length = countS x) → (itemsL a l).length = countL l := by
        intro l
        induction l with
        | nil => intro _; rfl
        | cons x l ih => intro h; simp only [itemsL, countL, List.length_append, h x List.mem_cons_self, ih fun y hy => h y (List.mem_cons_of_mem _ hy)]
      simp only [itemsS, countS, List.length_cons, List.length_append, g thn ih1, g els ih2]
      omega
  exact key s
theorem count_itemsL (a : Int) : ∀ l : List St, (itemsL a l).length = countL l
  | [] => rfl
  | x :: l => by simp only [itemsL, countL, List.length_append, count_items, count_itemsL a l]
def countP (p : Pg) : Nat :=
  (p.headers.map fun h => h.fields.length + 1).sum + p.metas.length + (p.states.map fun s => 1 + s.takes.length + 1 + s.cases_.length).sum + (p.actions.map fun a => 1 + a.params.length + countL a.body).sum +
    (p.tables.map fun t => 1 + t.keys.length + t.actions.length + 1).sum + countL p.control + p.emit.length
theorem length_eachI {α : Type} {kind : Int} {g : Nat → α → List It} (f : α → Nat) (hg : ∀ i a, (g i a).length + 1 = f a) (l : List α) : (eachI kind l g).length = (l.map f).sum := by
  unfold eachI
  generalize hk : (0 : Nat) = k
  clear hk
  induction l generalizing k with
  | nil => simp
  | cons a l ih => simp only [List.zipIdx_cons, List.flatMap_cons, List.length_append, List.length_cons, List.map_cons, List.sum_cons, hg, ih (k + 1)]
theorem length_manyI {kind : Int} {a n : Nat} : (manyI kind a n).length = n := by simp [manyI]
theorem length_itemsP (p : Pg) : (itemsP p).length = countP p := by
  unfold itemsP headsI metasI statesI actsI tabsI emitsI
  simp only [List.length_append]
  rw [length_eachI (fun h : Hd => h.fields.length + 1) (by simp [length_manyI]), length_eachI (fun _ : Fd => 1) (by simp), length_eachI (fun s : Sa => 1 + s.takes.length + 1 + s.cases_.length) (by simp [length_manyI]; omega),
    length_eachI (fun a : Ac => 1 + a.params.length + countL a.body) (by simp [length_manyI, count_itemsL]; omega), length_eachI (fun t : Ta => 1 + t.keys.length + t.actions.length + 1) (by simp [length_manyI]; omega), count_itemsL, length_eachI (fun _ : ByteArray => 1) (by simp)]
  have c1 : ∀ {α : Type} (l : List α), (l.map fun _ => 1).sum = l.length := fun l => by induction l <;> simp_all <;> omega
  rw [c1, c1]
  unfold countP
  omega
/-- So many items has a statement of a block so deep at most. -/
theorem count_le (s : St) : ∀ d : Nat, mayS s d = true → d ≤ 8 → countS s ≤ 65 ^ (8 - d) := by
  induction s using St.ind with
  | h kind head name e thn els ih1 ih2 =>
    intro d hm hd
    have g : ∀ l : List St, (∀ x ∈ l, ∀ d : Nat, mayS x d = true → d ≤ 8 → countS x ≤ 65 ^ (8 - d)) → d + 1 ≤ 8 → mayL l (d + 1) = true → countL l ≤ l.length * 65 ^ (8 - (d + 1)) := by
      intro l
      induction l with
      | nil => intro _ _ _; simp [countL]
      | cons x l ih =>
        intro h hd1 hml
        simp only [mayL, Bool.and_eq_true] at hml
        have h1 := h x List.mem_cons_self (d + 1) hml.1 hd1
        have h2 := ih (fun y hy => h y (List.mem_cons_of_mem _ hy)) hd1 hml.2
        simp only [countL, List.length_cons, Nat.add_mul]
        omega
    have key : ∀ l : List St, (∀ x ∈ l, ∀ d : Nat, mayS x d = true → d ≤ 8 → countS x ≤ 65 ^ (8 - d)) → (l.isEmpty || (decide (d + 1 ≤ 8) && decide (l.length ≤ 32) && mayL l (d + 1))) = true → 2 * countL l + 1 ≤ 65 ^ (8 - d) := by
      intro l hl hb
      cases l with
      | nil => simp only [countL]; exact Nat.one_le_pow _ _ (by omega)
      | cons x l =>
        simp only [List.isEmpty_cons, Bool.false_or, Bool.and_eq_true, decide_eq_true_eq] at hb
        have h1 := g (x :: l) hl hb.1.1 hb.2
        have h2 : 8 - d = (8 - (d + 1)) + 1 := by omega
        rw [h2, Nat.pow_succ]
        have h3 : 1 ≤ 65 ^ (8 - (d + 1)) := Nat.one_le_pow _ _ (by omega)
        have h4 : (x :: l).length * 65 ^ (8 - (d + 1)) ≤ 32 * 65 ^ (8 - (d + 1)) := Nat.mul_le_mul_right _ hb.1.2
        omega
    have none_ : thn.isEmpty = true → els.isEmpty = true → countS (.mk kind head name e thn els) ≤ 65 ^ (8 - d) := by
      intro h1 h2
      rw [List.isEmpty_iff] at h1 h2
      subst h1 h2
      simp only [countS, countL]
      exact Nat.one_le_pow _ _ (by omega)
    unfold mayS at hm
    split at hm
    · simp only [Bool.and_eq_true] at hm; exact none_ hm.1.1.1.1 hm.1.1.1.2
    split at hm
    · simp only [Bool.and_eq_true] at hm
      have h1 := key thn ih1 hm.1.2
      have h2 := key els ih2 hm.2
      simp only [countS]
      omega
    split at hm
    · simp only [Bool.and_eq_true] at hm; exact none_ hm.1.1.1.1 hm.1.1.1.2
    split at hm
    · simp only [Bool.and_eq_true] at hm; exact none_ hm.1.1.1.1 hm.1.1.1.2
    split at hm
    · simp only [Bool.and_eq_true] at hm; exact none_ hm.1.1.1.1 hm.1.1.1.2
    split at hm
    · simp only [Bool.and_eq_true] at hm; exact none_ hm.1.1.1.1 hm.1.1.1.2
    · cases hm
theorem countL_le (l : List St) (h : mayBlk l 1 = true) : countL l ≤ 156871292500000 := by
  unfold mayBlk at h
  cases l with
  | nil => simp [countL]
  | cons x l =>
    simp only [List.isEmpty_cons, Bool.false_or, Bool.and_eq_true, decide_eq_true_eq] at h
    have g : ∀ l : List St, mayL l 1 = true → countL l ≤ l.length * 65 ^ 7 := by
      intro l
      induction l with
      | nil => intro _; simp [countL]
      | cons x l ih =>
        intro hl
        simp only [mayL, Bool.and_eq_true] at hl
        have h1 := count_le x 1 hl.1 (by omega)
        have h2 := ih hl.2
        simp only [countL, List.length_cons, Nat.add_mul]
        omega
    have h1 := g _ h.2
    have h4 : (x :: l).length * 65 ^ 7 ≤ 156871292500000 := Nat.mul_le_mul_right _ h.1.2
    omega
theorem sum_le {α : Type} {f : α → Nat} {m : Nat} : ∀ {l : List α}, (∀ x ∈ l, f x ≤ m) → (l.map f).sum ≤ l.length * m
  | [], _ => by simp
  | x :: l, h => by
    have h1 := h x List.mem_cons_self
    have h2 := sum_le (l := l) fun y hy => h y (List.mem_cons_of_mem _ hy)
    simp only [List.map_cons, List.sum_cons, List.length_cons, Nat.add_mul]
    omega
set_option maxRecDepth 100000 in
theorem countP_le {p : Pg} (hm : mayP p = true) : countP p ≤ 4611686018427387904 := by
  simp only [mayP, manyB, Bool.and_eq_true, decide_eq_true_eq] at hm
  obtain ⟨⟨⟨⟨⟨⟨⟨⟨n1, n2, n3, n4, n5, n6, n7⟩, h1⟩, h2⟩, h3⟩, h4⟩, h5⟩, h6⟩, h7⟩ := hm
  have s1 : (p.headers.map fun h => h.fields.length + 1).sum ≤ p.headers.length * 17 := sum_le fun x hx => by
    have := List.all_eq_true.1 h1 x hx
    simp only [hdB, Bool.and_eq_true, decide_eq_true_eq] at this
    omega
  have s3 : (p.states.map fun s => 1 + s.takes.length + 1 + s.cases_.length).sum ≤ p.states.length * 26 := sum_le fun x hx => by
    have := List.all_eq_true.1 h3 x hx
    simp only [saB, Bool.and_eq_true, decide_eq_true_eq] at this
    obtain ⟨⟨⟨_, t1⟩, _⟩, t2⟩ := this
    split at t2
    · simp only [Bool.and_eq_true, decide_eq_true_eq] at t2; omega
    · simp only [Bool.and_eq_true, List.isEmpty_iff] at t2; rw [t2.2]; simp; omega
  have s4 : (p.actions.map fun a => 1 + a.params.length + countL a.body).sum ≤ p.actions.length * (9 + 156871292500000) := sum_le fun x hx => by
    have := List.all_eq_true.1 h4 x hx
    simp only [acB, Bool.and_eq_true, decide_eq_true_eq] at this
    have := countL_le _ this.2
    omega
  have s5 : (p.tables.map fun t => 1 + t.keys.length + t.actions.length + 1).sum ≤ p.tables.length * 22 := sum_le fun x hx => by
    have := List.all_eq_true.1 h5 x hx
    simp only [taB, Bool.and_eq_true, decide_eq_true_eq] at this
    omega
  have s6 := countL_le _ h6
  have t1 : p.headers.length * 17 ≤ 8 * 17 := Nat.mul_le_mul_right _ n1
  have t3 : p.states.length * 26 ≤ 16 * 26 := Nat.mul_le_mul_right _ n4
  have t4 : p.actions.length * (9 + 156871292500000) ≤ 16 * (9 + 156871292500000) := Nat.mul_le_mul_right _ n5
  have t5 : p.tables.length * 22 ≤ 8 * 22 := Nat.mul_le_mul_right _ n6
  unfold countP
  omega
end Go.Proofs.YtcgmkjpgaigmfaaGreat
/-! Layer 4's count of items (Stmts). -/
namespace Go.Proofs.YtcgmkjpgaigmfaaGreat
open Go.RowKit
mutual
def cntS (n : Int) : St → Int
  | .mk _ _ _ _ thn els => wrap64 (wrap64 (n + cntL thn.length thn) + cntL els.length els)
def cntL (n : Int) : List St → Int
  | [] => n
  | s :: l => cntL (cntS n s) l
end
theorem cntL_snoc (l : List St) (x : St) : ∀ n : Int, cntL n (l ++ [x]) = cntS (cntL n l) x := by
  induction l with
  | nil => intro n; simp only [List.nil_append, cntL]
  | cons y l ih => intro n; simp only [List.cons_append, cntL, ih]
theorem cntL_take {l : List St} {k : Nat} (hk : k < l.length) (n : Int) : cntL n (l.take (k + 1)) = cntS (cntL n (l.take k)) l[k] := by
  rw [List.take_succ_eq_append_getElem hk, cntL_snoc]
def StmtsIs (l : List St) : Prop := ∀ (A : Option Addr) (cap : Nat) (w : World), Sl 14 rSt w w.heap.size A l → Calls Tryz.prog 25 #[.slice A l.length cap] w fun r w' => r = .returned (.int .i64 (cntL l.length l)) ∧ Below w.heap.size w w'
def StmtsIn : St → Prop
  | .mk _ _ _ _ thn els => StmtsIs thn ∧ StmtsIs els
set_option maxHeartbeats 1000000 in
theorem stmts04_of (l : List St) (ih : ∀ x ∈ l, StmtsIn x) : StmtsIs l := by
  intro A cap w hS
  have hl := hS.len
  replace ih := hide ih
  replace hS := hide hS
  go_enter Tryz.func25, Tryz.ntmps25
  go_wp2
  go_loopw [3, 4] (fun n i wr => ∃ k : Nat, k ≤ l.length ∧ i = .int .i64 k ∧ n = .int .i64 (cntL l.length (l.take k)) ∧ Hid (Below w.heap.size w wr)) (fun _ i _ => l.length - (intOf i).toNat)
  case atStart => exact ⟨0, Nat.zero_le _, rfl, by simp [cntL], hide (Below.refl _ _)⟩
  case round =>
    obtain ⟨k, hk, rfl, rfl, hbr⟩ := hrel
    have hg := gcell' hbr.out hbr.out.size
    have hc := bcell' hbr.out
    by_cases hlt : k < l.length
    · obtain ⟨b, o, ecs, hA, hb, hel, hcell, hr⟩ := hS.out.2 k _ (List.getElem?_eq_getElem hlt)
      subst hA
      have hltz : (k : Int) < (l.length : Int) := by omega
      have ht := cntL_take hlt l.length
      have hin := ih.out _ (List.getElem_mem hlt)
      generalize hx : l[k] = x at hr ht hin
      obtain ⟨kind, head, name, e, thn, els⟩ := x
      obtain ⟨es, A1, c1, A2, c2, rfl, h0, h1, h2, he, hT, hE⟩ := RS.inv hr
      have l1 := hT.len
      have l2 := hE.len
      simp only [cntS] at ht
      have hes : es.length = 9 := by simpa [stC] using hel
      match es, hes with
      | [e0, e1, e2, e3, e4, e5, e6, e7, e8], _ =>
        have x0 : w.cell? ⟨b, o + k * 14, none⟩ = some (.int .u8 kind) := by simpa using hcell 0 _ rfl
        have x1 : w.cell? ⟨b, o + k * 14 + 1, none⟩ = some (.string head) := hcell 1 _ rfl
        have x2 : w.cell? ⟨b, o + k * 14 + 2, none⟩ = some (.string name) := hcell 2 _ rfl
        have x3 : w.cell? ⟨b, o + k * 14 + 3, none⟩ = some e0 := hcell 3 _ rfl
        have x4 : w.cell? ⟨b, o + k * 14 + 4, none⟩ = some e1 := hcell 4 _ rfl
        have x5 : w.cell? ⟨b, o + k * 14 + 5, none⟩ = some e2 := hcell 5 _ rfl
        have x6 : w.cell? ⟨b, o + k * 14 + 6, none⟩ = some e3 := hcell 6 _ rfl
        have x7 : w.cell? ⟨b, o + k * 14 + 7, none⟩ = some e4 := hcell 7 _ rfl
        have x8 : w.cell? ⟨b, o + k * 14 + 8, none⟩ = some e5 := hcell 8 _ rfl
        have x9 : w.cell? ⟨b, o + k * 14 + 9, none⟩ = some e6 := hcell 9 _ rfl
        have x10 : w.cell? ⟨b, o + k * 14 + 10, none⟩ = some e7 := hcell 10 _ rfl
        have x11 : w.cell? ⟨b, o + k * 14 + 11, none⟩ = some e8 := hcell 11 _ rfl
        have x12 : w.cell? ⟨b, o + k * 14 + 12, none⟩ = some (.slice A1 thn.length c1) := hcell 12 _ rfl
        have x13 : w.cell? ⟨b, o + k * 14 + 13, none⟩ = some (.slice A2 els.length c2) := hcell 13 _ rfl
        have hTx : ∀ d os, Calls Tryz.prog 25 #[.slice A1 thn.length c1] (Go.Sort.grow (redrawn wr d) os) fun r w' => r = .returned (.int .i64 (cntL thn.length thn)) ∧ Below (Go.Sort.grow (redrawn wr d) os).heap.size (Go.Sort.grow (redrawn wr d) os) w' := fun d os =>
          hin.1 _ _ _ (hT.grown sta_st hbr.out d os)
        have hLx : ∀ d os, Calls Tryz.prog 25 #[.slice A2 els.length c2] (Go.Sort.grow (redrawn wr d) os) fun r w' => r = .returned (.int .i64 (cntL els.length els)) ∧ Below (Go.Sort.grow (redrawn wr d) os).heap.size (Go.Sort.grow (redrawn wr d) os) w' := fun d os =>
          hin.2 _ _ _ (hE.grown sta_st hbr.out d os)
        generalize cntL thn.length thn = zt at ht hTx
        generalize cntL els.length els = zs at ht hLx
        generalize thn.length = n1 at *
        generalize els.length = n2 at *
        replace hTx := fun d os => hide (hTx d os)
        replace hLx := fun d os => hide (hLx d os)
        replace ht := hide ht
        clear hin hcell hr hT hE he hel hx h0 h1 h2
        go_wp2_with fail
        refine wp_region_quiet_below (by kernel_rfl) (by kernel_rfl) ?_
        repeat (any_goals (first | go_big_quiet_step (first | (go_at_call 25; first | with_reducible exact Calls.regrown_of (hTx _ _).out | with_reducible exact Calls.regrown_of (hLx _ _).out)) | quiet_step (first | (go_at_call 25; first | with_reducible exact Calls.regrown_of (hTx _ _).out | with_reducible exact Calls.regrown_of (hLx _ _).out))))
        refine wpQuiet_nil ?_
        intro w1 hw1
        replace hw1 := below_of_regrown hw1
        go_wp2
        go_roundw
        case rel => exact ⟨k + 1, by omega, by go_num, by rw [ht.out], hide (hbr.out.trans (hw1.mono hbr.out.size))⟩
        case measure => simp [intOf]; omega
    · go_wp2
      go_ret
      rw [List.take_of_length_le (by omega)]
      exact ⟨rfl, hbr.out⟩
theorem stmts04_in (s : St) : StmtsIn s := by
  induction s using St.ind with
  | h kind head name e thn els ih1 ih2 => exact ⟨stmts04_of thn ih1, stmts04_of els ih2⟩
theorem stmts04_any (l : List St) : StmtsIs l := stmts04_of l fun x _ => stmts04_in x
end Go.Proofs.YtcgmkjpgaigmfaaGreat

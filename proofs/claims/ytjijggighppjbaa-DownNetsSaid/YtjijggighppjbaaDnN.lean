import Derived.Test.YtjijggighppjbaaDnI
import Derived.Test.YtjijggighppjbaaDnQ
namespace Go.Proofs.Ytjijggighppjbaa
open Go.RowKit
/-- Block g is just these cells. -/
def Bk (w : World) (g : Nat) (t : TypeId) (cs : Array Value) : Prop := w.heap[g]? = some (.cells cs t (0, 0))
section
variable {w w' : World} {g : Nat} {t : TypeId} {cs : Array Value}
theorem Bk.lt (h : Bk w g t cs) : g < w.heap.size := by
  rcases Nat.lt_or_ge g w.heap.size with h1 | h1
  · exact h1
  · unfold Bk at h; rw [Array.getElem?_eq_none h1] at h; cases h
theorem Bk.cell (h : Bk w g t cs) (i : Nat) : w.cell? ⟨g, i, none⟩ = cs[i]? := cell_of_row w g i cs t (0, 0) h
theorem Bk.frozen (h : Bk w g t cs) (i : Nat) : w.frozen? ⟨g, i, none⟩ = false := by unfold Bk at h; simp [World.frozen?, h]
theorem Bk.new (w : World) (t : TypeId) (cs : Array Value) : Bk (w.alloc (.cells cs t)) w.heap.size t cs := heap_alloc_new w _
theorem Bk.newAt {w : World} {t : TypeId} {cs : Array Value} {g : Nat} (hg : g = w.heap.size) : Bk (w.alloc (.cells cs t)) g t cs := by subst hg; exact heap_alloc_new w _
theorem Bk.alloc (h : Bk w g t cs) (o : Obj) : Bk (w.alloc o) g t cs := (Below.heap_alloc w o g h.lt).trans h
theorem Bk.drewN (h : Bk w g t cs) (n : Nat) : Bk (w.drewN n) g t cs := h
theorem Bk.drew (h : Bk w g t cs) : Bk w.drew g t cs := h
theorem Bk.set_ (h : Bk w g t cs) (i : Nat) (u : Value) : Bk (w.setCell ⟨g, i, none⟩ u) g t (cs.setIfInBounds i u) := by
  unfold Bk at h ⊢
  simp [World.setCell, Array.getElem?_modify, h]
theorem Bk.below {B : Nat} (h : Bk w g t cs) (hb : Below B w w') (hg : g < B) : Bk w' g t cs := (hb.block g hg).trans h
theorem Bk.grown {row : Option Nat} (h : Bk w g t cs) (hb : w.grownBy w' row) (hg : some g ≠ row) : Bk w' g t cs := (hb.block g h.lt hg).trans h
theorem Bk.far (h : Bk w g t cs) {p : Addr} (hp : g ≠ p.block) (u : Value) : Bk (w.setCell p u) g t cs := (Below.heap_setCell w p u g hp).trans h
theorem Bk.ne_own {base : Nat} {e : TypeId} {size n : Nat} {v : Value} {xs : List Value} (h : Bk w g t cs) (ho : w.ownsRow base e size v n xs) (hne : e ≠ t) : v.ownBlock ≠ some g := by
  rcases ho.2 with ⟨rfl, _⟩ | ⟨g', cap, cur, rfl, _, hh, _⟩
  · simp [Value.ownBlock]
  · intro he
    have : g' = g := by simpa [Value.ownBlock] using he
    subst this
    unfold Bk at h
    rw [h] at hh
    injection hh with hh
    injection hh with _ ht
    exact hne ht.symm
end
theorem own_ne_own {w : World} {base base' : Nat} {e e' : TypeId} {size size' n n' : Nat} {v v' : Value} {xs xs' : List Value} (h : w.ownsRow base e size v n xs) (h' : w.ownsRow base' e' size' v' n' xs') (hne : e ≠ e') :
    v'.ownBlock = none ∨ v'.ownBlock ≠ v.ownBlock := by
  rcases h'.2 with ⟨rfl, _⟩ | ⟨g', cap, cur, rfl, _, hh, _⟩
  · exact .inl rfl
  · right
    intro e
    exact Bk.ne_own (g := g') (t := e') (cs := cur) hh h hne (by rw [← e]; rfl)
theorem own_setCell {w : World} {base : Nat} {e : TypeId} {size : Nat} {v : Value} {n : Nat} {xs : List Value} (h : w.ownsRow base e size v n xs) {p : Addr} (hp : v.ownBlock ≠ some p.block) (u : Value) : (w.setCell p u).ownsRow base e size v n xs := by
  refine ⟨h.1, ?_⟩
  rcases h.2 with h2 | ⟨g, cap, cur, rfl, hg, hh, r⟩
  · exact .inl h2
  · refine .inr ⟨g, cap, cur, rfl, hg, ?_, r⟩
    rw [Below.heap_setCell _ _ _ _ (fun e => hp (by rw [← e]; rfl))]; exact hh
theorem own_below {w w' : World} {base B : Nat} {e : TypeId} {size : Nat} {v : Value} {n : Nat} {xs : List Value} (h : w.ownsRow base e size v n xs) (hb : Below B w w') (hB : w.heap.size ≤ B) : w'.ownsRow base e size v n xs := by
  refine ⟨h.1, ?_⟩
  rcases h.2 with h2 | ⟨g, cap, cur, rfl, hg, hh, r⟩
  · exact .inl h2
  · have := (h.lt g rfl).2
    exact .inr ⟨g, cap, cur, rfl, hg, (hb.block g (by omega)).trans hh, r⟩
theorem own_mono {w : World} {base base' : Nat} {e : TypeId} {size : Nat} {v : Value} {n : Nat} {xs : List Value} (h : w.ownsRow base e size v n xs) (hb : base' ≤ base) : w.ownsRow base' e size v n xs := by
  refine ⟨h.1, ?_⟩
  rcases h.2 with h2 | ⟨g, cap, cur, rfl, hg, r⟩
  · exact .inl h2
  · exact .inr ⟨g, cap, cur, rfl, by omega, r⟩
/-- What 'out' holds: names, rows of ports, links. -/
structure OutS (w : World) (base bo : Nat) (v0 v1 v2 : Value) (sw : List ByteArray) (ps : List (List Int)) (ls : List ((Int × Int) × (Int × Int))) : Prop where
  box : Bk w bo 26 #[v0, v1, v2]
  own0 : w.ownsRow base 9 1 v0 sw.length (sw.map Value.string)
  own2 : w.ownsRow base 40 4 v2 ls.length (ls.flatMap fun x => [.int .i64 x.1.1, .int .i64 x.1.2, .int .i64 x.2.1, .int .i64 x.2.2])
  own1 : ∃ vs : List Value, vs.length = ps.length ∧ w.ownsRow base 27 1 v1 ps.length vs ∧ ∀ (i : Nat) (v : Value) (p : List Int), vs[i]? = some v → ps[i]? = some p → w.ownsRow base 3 1 v p.length (p.map (Value.int .i64))
theorem OutS.below {w w' : World} {base bo B : Nat} {v0 v1 v2 : Value} {sw : List ByteArray} {ps : List (List Int)} {ls : List ((Int × Int) × (Int × Int))} (h : OutS w base bo v0 v1 v2 sw ps ls) (hb : Below B w w') (hB : w.heap.size ≤ B) : OutS w' base bo v0 v1 v2 sw ps ls :=
  ⟨h.box.below hb (by have := h.box.lt; omega), own_below h.own0 hb hB, own_below h.own2 hb hB, by
    obtain ⟨vs, h1, h2, h3⟩ := h.own1
    exact ⟨vs, h1, own_below h2 hb hB, fun i v p hv hp => own_below (h3 i v p hv hp) hb hB⟩⟩
theorem own_step {wr wz w1 : World} {base bo i : Nat} {e e' t : TypeId} {size size' n n' : Nat} {v v' u : Value} {xs xs' : List Value} {cs : Array Value} (h : wr.ownsRow base e size v n xs) (h' : wr.ownsRow base e' size' v' n' xs') (hne : e' ≠ e)
    (hz : Below wr.heap.size wr wz) (hg : wz.grownBy w1 v'.ownBlock) (hbo : Bk w1 bo t cs) (ht : e ≠ t) : (w1.setCell ⟨bo, i, none⟩ u).ownsRow base e size v n xs := by
  have h1 := own_below h hz (Nat.le_refl _)
  have h2 := own_below h' hz (Nat.le_refl _)
  have h3 : w1.ownsRow base e size v n xs := h1.kept hg (by
    rcases own_ne_own h2 h1 hne with h3 | h3
    · exact .inl h3
    · exact .inr h3)
  exact own_setCell h3 (Bk.ne_own hbo h3 ht) u
theorem OutS.step0 {wr wz w1 : World} {base bo gg cap : Nat} {v0 v1 v2 : Value} {sw : List ByteArray} {ps : List (List Int)} {ls : List ((Int × Int) × (Int × Int))} {s : ByteArray} {m : Nat} (h : OutS wr base bo v0 v1 v2 sw ps ls) (hm : sw.length = m)
    (hz : Below wr.heap.size wr wz) (hg : wz.grownBy w1 v0.ownBlock) (hown : w1.ownsRow base 9 1 (.slice (some ⟨gg, 0, none⟩) (m + 1) cap) (m + 1) (sw.map Value.string ++ [.string s])) :
    OutS (w1.setCell ⟨bo, 0, none⟩ (.slice (some ⟨gg, 0, none⟩) (m + 1) cap)) base bo (.slice (some ⟨gg, 0, none⟩) (m + 1) cap) v1 v2 (sw ++ [s]) ps ls := by
  subst hm
  have hbx := (h.box.below hz h.box.lt).grown hg (Ne.symm (Bk.ne_own h.box h.own0 (by decide)))
  refine ⟨by simpa using hbx.set_ 0 (.slice (some ⟨gg, 0, none⟩) (sw.length + 1) cap), ?_, own_step h.own2 h.own0 (by decide) hz hg hbx (by decide), ?_⟩
  · have := own_setCell hown (p := ⟨bo, 0, none⟩) (Bk.ne_own hbx hown (by decide)) (.slice (some ⟨gg, 0, none⟩) (sw.length + 1) cap)
    simpa using this
  · obtain ⟨vs, h1, h2, h3⟩ := h.own1
    exact ⟨vs, h1, own_step h2 h.own0 (by decide) hz hg hbx (by decide), fun i v p hv hp => own_step (h3 i v p hv hp) h.own0 (by decide) hz hg hbx (by decide)⟩
theorem OutS.step1 {wr wz w1 : World} {base bo gg cap : Nat} {v0 v1 v2 u : Value} {sw : List ByteArray} {ps : List (List Int)} {p : List Int} {ls : List ((Int × Int) × (Int × Int))} {m : Nat} (h : OutS wr base bo v0 v1 v2 sw ps ls) (hm : ps.length = m)
    (hu : wr.ownsRow base 3 1 u p.length (p.map (Value.int .i64)))
    (hz : Below wr.heap.size wr wz) (hg : wz.grownBy w1 v1.ownBlock) (hown : ∀ vs : List Value, vs.length = ps.length → wr.ownsRow base 27 1 v1 ps.length vs → w1.ownsRow base 27 1 (.slice (some ⟨gg, 0, none⟩) (m + 1) cap) (m + 1) (vs ++ [u])) :
    OutS (w1.setCell ⟨bo, 1, none⟩ (.slice (some ⟨gg, 0, none⟩) (m + 1) cap)) base bo v0 (.slice (some ⟨gg, 0, none⟩) (m + 1) cap) v2 sw (ps ++ [p]) ls := by
  subst hm
  obtain ⟨vs, h1, h2, h3⟩ := h.own1
  have hbx := (h.box.below hz h.box.lt).grown hg (Ne.symm (Bk.ne_own h.box h2 (by decide)))
  have hown := hown vs h1 h2
  refine ⟨by simpa using hbx.set_ 1 (.slice (some ⟨gg, 0, none⟩) (ps.length + 1) cap), own_step h.own0 h2 (by decide) hz hg hbx (by decide), own_step h.own2 h2 (by decide) hz hg hbx (by decide), vs ++ [u], by simp [h1], ?_, ?_⟩
  · have := own_setCell hown (p := ⟨bo, 1, none⟩) (Bk.ne_own hbx hown (by decide)) (.slice (some ⟨gg, 0, none⟩) (ps.length + 1) cap)
    simpa using this
  · intro i v q hv hq
    by_cases hi : i < ps.length
    · rw [List.getElem?_append_left (by omega)] at hv hq
      exact own_step (h3 i v q hv hq) h2 (by decide) hz hg hbx (by decide)
    · have hi' : i = ps.length := by
        have := (List.getElem?_eq_some_iff.1 hq).1
        simp at this; omega
      subst hi'
      rw [List.getElem?_append_right (by omega)] at hv
      rw [List.getElem?_append_right (by omega)] at hq
      simp [h1] at hv hq
      subst hv hq
      exact own_step hu h2 (by decide) hz hg hbx (by decide)
def linkCells (ls : List ((Int × Int) × (Int × Int))) : List Value := ls.flatMap fun x => [.int .i64 x.1.1, .int .i64 x.1.2, .int .i64 x.2.1, .int .i64 x.2.2]
theorem OutS.step2 {wr wz w1 : World} {base bo gg cap : Nat} {v0 v1 v2 : Value} {sw : List ByteArray} {ps : List (List Int)} {ls : List ((Int × Int) × (Int × Int))} {x : (Int × Int) × (Int × Int)} {m : Nat} (h : OutS wr base bo v0 v1 v2 sw ps ls) (hm : ls.length = m)
    (hz : Below wr.heap.size wr wz) (hg : wz.grownBy w1 v2.ownBlock) (hown : w1.ownsRow base 40 4 (.slice (some ⟨gg, 0, none⟩) (m + 1) cap) (m + 1) (linkCells ls ++ [.int .i64 x.1.1, .int .i64 x.1.2, .int .i64 x.2.1, .int .i64 x.2.2])) :
    OutS (w1.setCell ⟨bo, 2, none⟩ (.slice (some ⟨gg, 0, none⟩) (m + 1) cap)) base bo v0 v1 (.slice (some ⟨gg, 0, none⟩) (m + 1) cap) sw ps (ls ++ [x]) := by
  subst hm
  have hbx := (h.box.below hz h.box.lt).grown hg (Ne.symm (Bk.ne_own h.box h.own2 (by decide)))
  refine ⟨by simpa using hbx.set_ 2 (.slice (some ⟨gg, 0, none⟩) (ls.length + 1) cap), own_step h.own0 h.own2 (by decide) hz hg hbx (by decide), ?_, ?_⟩
  · have := own_setCell hown (p := ⟨bo, 2, none⟩) (Bk.ne_own hbx hown (by decide)) (.slice (some ⟨gg, 0, none⟩) (ls.length + 1) cap)
    simpa [linkCells] using this
  · obtain ⟨vs, h1, h2, h3⟩ := h.own1
    exact ⟨vs, h1, own_step h2 h.own2 (by decide) hz hg hbx (by decide), fun i v p hv hp => own_step (h3 i v p hv hp) h.own2 (by decide) hz hg hbx (by decide)⟩
theorem own_unique {w : World} {base base' : Nat} {e : TypeId} {size n : Nat} {v : Value} {xs ys : List Value} (h : w.ownsRow base e size v n xs) (h' : w.ownsRow base' e size v n ys) : xs = ys := by
  rcases h.2 with ⟨rfl, rfl⟩ | ⟨g, cap, cur, rfl, _, hh, _, _, _, hx⟩
  · have a := h.1
    have b := h'.1
    rw [Nat.zero_mul] at a b
    rw [List.eq_nil_of_length_eq_zero a, List.eq_nil_of_length_eq_zero b]
  · rcases h'.2 with ⟨e1, _⟩ | ⟨g', cap', cur', e1, _, hh', _, _, _, hy⟩
    · cases e1
    · injection e1 with e1
      injection e1 with e1
      injection e1 with e1
      subst e1
      rw [hh] at hh'
      injection hh' with hh'
      injection hh' with hh'
      subst hh'
      rw [← hx, ← hy]
theorem OutS.far {w : World} {base bo bo' i : Nat} {v0 v1 v2 u : Value} {sw : List ByteArray} {ps : List (List Int)} {ls : List ((Int × Int) × (Int × Int))} (h : OutS w base bo v0 v1 v2 sw ps ls) (h1 : bo' < base) (h2 : bo ≠ bo') :
    OutS (w.setCell ⟨bo', i, none⟩ u) base bo v0 v1 v2 sw ps ls :=
  ⟨h.box.far h2 u, own_setCell h.own0 (own_ne h.own0 h1) u, own_setCell h.own2 (own_ne h.own2 h1) u, by
    obtain ⟨vs, a, b, c⟩ := h.own1
    exact ⟨vs, a, own_setCell b (own_ne b h1) u, fun i v p hv hp => own_setCell (c i v p hv hp) (own_ne (c i v p hv hp) h1) u⟩⟩
theorem own_rows {w : World} {base : Nat} {e e' : TypeId} {v : Value} {ps : List (List Int)} {vs : List Value} (h1 : vs.length = ps.length) (h2 : w.ownsRow base e 1 v ps.length vs)
    (h3 : ∀ (i : Nat) (u : Value) (p : List Int), vs[i]? = some u → ps[i]? = some p → w.ownsRow base e' 1 u p.length (p.map (Value.int .i64))) : ∃ A cap, v = .slice A ps.length cap ∧ Sl 1 (rSl 1 rInt) w w.heap.size A ps := by
  have key : ∀ i p, ps[i]? = some p → ∃ A cap, vs[i]? = some (Value.slice A p.length cap) ∧ Sl 1 rInt w w.heap.size A p := fun i p hp => by
    have hi : i < vs.length := by have := (List.getElem?_eq_some_iff.1 hp).1; omega
    have h4 := h3 i vs[i] p (List.getElem?_eq_getElem hi) hp
    have h5 : w.ownsRow base e' 1 vs[i] p.length (p.flatMap fun x => [Value.int .i64 x]) := by rw [← List.map_eq_flatMap]; exact h4
    obtain ⟨A, cap, hv, hs⟩ := own_sl (w := w) (R := rInt) (k := 1) (f := fun x => [Value.int .i64 x]) (xs := p) (fun _ => rfl) (fun _ _ => rfl) h5
    exact ⟨A, cap, by rw [List.getElem?_eq_getElem hi, hv], hs⟩
  rcases h2.2 with ⟨rfl, hz⟩ | ⟨g, cap, cur, rfl, hb, hg, hl, hm, -⟩
  · have hz' : ps = [] := List.eq_nil_of_length_eq_zero hz
    subst hz'
    exact ⟨none, 0, rfl, Sl.nil_⟩
  · refine ⟨some ⟨g, 0, none⟩, cap, rfl, by omega, fun i p hp => ?_⟩
    obtain ⟨A, c, hv, hs⟩ := key i p hp
    refine ⟨g, 0, [.slice A p.length c], rfl, (h2.lt g rfl).2, rfl, fun j u hu => ?_, A, c, rfl, hs⟩
    cases j with
    | succ j => simp at hu
    | zero =>
      simp at hu; subst hu
      have := h2.cells (g := g) rfl i _ hv
      have e : (⟨g, 0, none⟩ : Addr).add i = ⟨g, 0 + i * 1 + 0, none⟩ := by unfold Addr.add; split <;> simp_all
      rw [← e]; exact this
theorem OutS.netS {w : World} {base bo : Nat} {v0 v1 v2 : Value} {sw : List ByteArray} {ps : List (List Int)} {ls : List ((Int × Int) × (Int × Int))} (h : OutS w base bo v0 v1 v2 sw ps ls) (hs : ∀ s ∈ sw, s.size ≤ maxLen) :
    ∃ A1 A2 A3 c1 c2 c3, Value.agg #[v0, v1, v2] = netV ⟨sw, ps, ls⟩ A1 A2 A3 c1 c2 c3 ∧ NetS w w.heap.size A1 A2 A3 ⟨sw, ps, ls⟩ := by
  have h5 : w.ownsRow base 9 1 v0 sw.length (sw.flatMap fun x => [Value.string x]) := by rw [← List.map_eq_flatMap]; exact h.own0
  obtain ⟨A1, c1, e1, s1⟩ := own_sl (R := rStr) (k := 1) (f := fun x => [Value.string x]) (xs := sw) (fun _ => rfl) (fun x hx => ⟨rfl, hs x hx⟩) h5
  obtain ⟨A3, c3, e3, s3⟩ := own_sl (R := rLink) (k := 4) (f := fun x => [.int .i64 x.1.1, .int .i64 x.1.2, .int .i64 x.2.1, .int .i64 x.2.2]) (xs := ls) (fun _ => rfl) (fun _ _ => rfl) h.own2
  obtain ⟨vs, h1, h2, h3⟩ := h.own1
  obtain ⟨A2, c2, e2, s2⟩ := own_rows h1 h2 h3
  exact ⟨A1, A2, A3, c1, c2, c3, by rw [e1, e2, e3], s1, s2, s3⟩
theorem Sl.strSize {w : World} {B : Nat} {A : Option Addr} {xs : List ByteArray} (h : Sl 1 rStr w B A xs) : ∀ s ∈ xs, s.size ≤ maxLen := fun s hs => by
  obtain ⟨i, hi, rfl⟩ := List.getElem_of_mem hs
  obtain ⟨_, _, _, _, _, hz⟩ := h.str hi
  exact hz
end Go.Proofs.Ytjijggighppjbaa

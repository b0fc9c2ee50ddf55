import Derived.Test.YtjijggighppjbaaDnT
/-! Plain laws of links down: what the two texts compute is one net; it may be; with none down it is as it was. -/
namespace Go.Proofs.Ytjijggighppjbaa
abbrev Lnk := (Int × Int) × (Int × Int)
theorem mem_keepL {ls : List Lnk} {l : List Int} {x : Lnk} : x ∈ keepL ls l 0 ↔ ∃ j : Nat, ls[j]? = some x ∧ (j : Int) ∉ l := by
  unfold keepL
  simp only [List.mem_map, List.mem_filter, decide_eq_true_eq]
  constructor
  · rintro ⟨⟨y, j⟩, ⟨h1, h2⟩, rfl⟩
    exact ⟨j, List.mem_zipIdx_iff_getElem?.1 h1, h2⟩
  · rintro ⟨j, h1, h2⟩
    exact ⟨(x, j), ⟨List.mem_zipIdx_iff_getElem?.2 h1, h2⟩, rfl⟩
theorem keepL_sub (ls : List Lnk) (l : List Int) : (keepL ls l 0).Sublist ls := by
  unfold keepL
  have h := (List.filter_sublist (p := fun x : Lnk × Nat => decide ((x.2 : Int) ∉ l)) (l := ls.zipIdx 0)).map Prod.fst
  rwa [List.zipIdx_map_fst] at h
theorem ends_sub {a b : List Lnk} (h : a.Sublist b) : (endsOf a).Sublist (endsOf b) := by
  induction h with
  | slnil => exact List.Sublist.refl _
  | cons x _ ih => exact ih.trans (List.sublist_append_right _ _)
  | cons_cons x _ ih => exact (List.Sublist.refl _).append ih
theorem nextL_some {ls : List Lnk} {e : Int × Int} : (nextL ls e).isSome = true ↔ ∃ x ∈ ls, x.1 = e ∨ x.2 = e := by
  induction ls with
  | nil => simp [nextL]
  | cons y ls ih =>
    simp only [nextL, List.mem_cons]
    by_cases h1 : y.1 = e
    · simp only [if_pos h1, Option.isSome_some, true_iff]; exact ⟨y, .inl rfl, .inl h1⟩
    · by_cases h2 : y.2 = e
      · simp only [if_neg h1, if_pos h2, Option.isSome_some, true_iff]; exact ⟨y, .inl rfl, .inr h2⟩
      · simp only [if_neg h1, if_neg h2, ih]
        constructor
        · rintro ⟨x, hx, hh⟩; exact ⟨x, .inr hx, hh⟩
        · rintro ⟨x, rfl | hx, hh⟩
          · rcases hh with hh | hh
            · exact absurd hh h1
            · exact absurd hh h2
          · exact ⟨x, hx, hh⟩
theorem distinct_nodup {α : Type} {es : List α} : (∀ i (hi : i < es.length), es[i] ∉ es.take i) ↔ es.Nodup := by
  rw [List.nodup_iff_pairwise_ne, List.pairwise_iff_getElem]
  constructor
  · intro h i j hi hj hij e
    exact h j hj (by rw [← e]; exact List.mem_take_iff_getElem.2 ⟨i, by omega, rfl⟩)
  · intro h i hi hm
    obtain ⟨j, hj, e⟩ := List.mem_take_iff_getElem.1 hm
    exact h j i (by omega) hi (by omega) e
theorem mayB_iff {n : Net} : mayB n = true ↔ (n.sw.length ≤ 8 ∧ n.ports.length = n.sw.length) ∧ (∀ i, i < n.sw.length → swOk n i) ∧ (∀ e ∈ endsOf n.links, thereB n e = true) ∧ (endsOf n.links).Nodup := by
  have key : (∀ i, i < (endsOf n.links).length → endOk n (endsOf n.links) i) ↔ (∀ e ∈ endsOf n.links, thereB n e = true) ∧ (endsOf n.links).Nodup := by
    rw [← distinct_nodup]
    constructor
    · intro h
      refine ⟨fun e he => ?_, fun i hi => ?_⟩
      · obtain ⟨i, hi, rfl⟩ := List.getElem_of_mem he
        have := (h i hi).1
        rwa [getD_eq hi] at this
      · have := (h i hi).2
        rwa [getD_eq hi] at this
    · rintro ⟨h1, h2⟩ i hi
      exact ⟨by rw [getD_eq hi]; exact h1 _ (List.getElem_mem _), by rw [getD_eq hi]; exact h2 i hi⟩
  rw [← key]
  unfold mayB
  rw [Bool.and_eq_true, Bool.and_eq_true, decide_eq_true_eq, decide_eq_true_eq, decide_eq_true_eq, and_assoc]
theorem ends_at {ls : List Lnk} {j : Nat} (hj : j < ls.length) : (endsOf ls)[2 * j]? = some ls[j].1 ∧ (endsOf ls)[2 * j + 1]? = some ls[j].2 := by
  induction ls generalizing j with
  | nil => simp at hj
  | cons x ls ih =>
    cases j with
    | zero => simp [endsOf]
    | succ j =>
      have := ih (j := j) (by simpa using hj)
      have e1 : 2 * (j + 1) = 2 * j + 2 := by omega
      simp only [endsOf, List.flatMap_cons, List.cons_append, List.nil_append] at this ⊢
      rw [e1]
      simpa using this
/-- No end is at two links. -/
theorem one_link {ls : List Lnk} (h : (endsOf ls).Nodup) {e : Int × Int} {i j : Nat} (hi : i < ls.length) (hj : j < ls.length) (h1 : ls[i].1 = e ∨ ls[i].2 = e) (h2 : ls[j].1 = e ∨ ls[j].2 = e) : i = j := by
  have key : ∀ {k : Nat} (hk : k < ls.length), ls[k].1 = e ∨ ls[k].2 = e → ∃ a, (a = 2 * k ∨ a = 2 * k + 1) ∧ (endsOf ls)[a]? = some e := fun hk hh => by
    obtain ⟨x, y⟩ := ends_at hk
    rcases hh with hh | hh
    · exact ⟨_, .inl rfl, by rw [x, hh]⟩
    · exact ⟨_, .inr rfl, by rw [y, hh]⟩
  obtain ⟨a, ha, ea⟩ := key hi h1
  obtain ⟨b, hb, eb⟩ := key hj h2
  obtain ⟨la, ga⟩ := List.getElem?_eq_some_iff.1 ea
  obtain ⟨lb, gb⟩ := List.getElem?_eq_some_iff.1 eb
  rw [List.nodup_iff_pairwise_ne, List.pairwise_iff_getElem] at h
  rcases Nat.lt_trichotomy a b with hab | hab | hab
  · exact absurd (ga.trans gb.symm) (h a b la lb hab)
  · omega
  · exact absurd (gb.trans ga.symm) (h b a lb la hab)
theorem mem_ends {ls : List Lnk} {e : Int × Int} : e ∈ endsOf ls ↔ ∃ x ∈ ls, x.1 = e ∨ x.2 = e := by
  simp only [endsOf, List.mem_flatMap, List.mem_cons, List.not_mem_nil, or_false]
  constructor
  · rintro ⟨x, hx, h⟩; exact ⟨x, hx, h.imp Eq.symm Eq.symm⟩
  · rintro ⟨x, hx, h⟩; exact ⟨x, hx, h.imp Eq.symm Eq.symm⟩
theorem goneB_iff {n : Net} {l : List Int} (hin : ∀ x ∈ l, 0 ≤ x ∧ x < n.links.length) {e : Int × Int} : goneB n l e = true ↔ ∃ (j : Nat) (hj : j < n.links.length), (j : Int) ∈ l ∧ (n.links[j].1 = e ∨ n.links[j].2 = e) := by
  unfold goneB
  rw [List.any_eq_true]
  constructor
  · rintro ⟨x, hx, ht⟩
    obtain ⟨h0, h1⟩ := hin x hx
    obtain ⟨j, rfl⟩ := Int.eq_ofNat_of_zero_le h0
    have hj : j < n.links.length := by omega
    rw [touchB_at hj] at ht
    exact ⟨j, hj, hx, by simpa using ht⟩
  · rintro ⟨j, hj, hm, ht⟩
    exact ⟨j, hm, by rw [touchB_at hj]; simpa using ht⟩
theorem stays_eq {n : Net} {l : List Int} (hn : (endsOf n.links).Nodup) (hin : ∀ x ∈ l, 0 ≤ x ∧ x < n.links.length) {i : Nat} {p : Int} (hi : i < n.ports.length) (hp : p ∈ n.ports[i]) : stays n (cutNet n l) i p = !goneB n l (i, p) := by
  have t1 : thereB n ((i : Int), p) = true := by rw [thereB_in hi]; simpa using hp
  have t2 : thereB (cutNet n l) ((i : Int), p) = true := t1
  have f : ∀ o : Option (Int × Int), (nextT o).2.2 = o.isSome := fun o => by cases o <;> rfl
  unfold stays
  rw [nextB, nextB, if_pos t1, if_pos t2, f, f]
  have hs := nextL_some (ls := n.links) (e := ((i : Int), p))
  have hs2 := nextL_some (ls := keepL n.links l 0) (e := ((i : Int), p))
  have hg := goneB_iff hin (e := ((i : Int), p))
  show ((nextL n.links (↑i, p)).isSome == (nextL (keepL n.links l 0) (↑i, p)).isSome) = !goneB n l (↑i, p)
  generalize (nextL n.links (↑i, p)).isSome = A at hs
  generalize (nextL (keepL n.links l 0) (↑i, p)).isSome = B at hs2
  generalize goneB n l (↑i, p) = G at hg
  by_cases hA : A = true
  · obtain ⟨x, hx, hh⟩ := hs.1 hA
    obtain ⟨j, hj, rfl⟩ := List.getElem_of_mem hx
    by_cases hl : (j : Int) ∈ l
    · have hG : G = true := hg.2 ⟨j, hj, hl, hh⟩
      have hB : ¬ B = true := fun hB => by
        obtain ⟨y, hy, hh2⟩ := hs2.1 hB
        obtain ⟨j2, e2, hl2⟩ := mem_keepL.1 hy
        obtain ⟨hj2, rfl⟩ := List.getElem?_eq_some_iff.1 e2
        have := one_link hn hj hj2 hh hh2
        subst this
        exact hl2 hl
      simp only [Bool.not_eq_true] at hB
      rw [hA, hB, hG]; rfl
    · have hB : B = true := hs2.2 ⟨_, mem_keepL.2 ⟨j, List.getElem?_eq_getElem hj, hl⟩, hh⟩
      have hG : ¬ G = true := fun hG => by
        obtain ⟨j2, hj2, hl2, hh2⟩ := hg.1 hG
        have := one_link hn hj hj2 hh hh2
        subst this
        exact hl hl2
      simp only [Bool.not_eq_true] at hG
      rw [hA, hB, hG]; rfl
  · have hB : ¬ B = true := fun hB => by
      obtain ⟨y, hy, hh2⟩ := hs2.1 hB
      exact hA (hs.2 ⟨y, (keepL_sub _ _).subset hy, hh2⟩)
    have hG : ¬ G = true := fun hG => by
      obtain ⟨j2, hj2, hl2, hh2⟩ := hg.1 hG
      exact hA (hs.2 ⟨_, List.getElem_mem _, hh2⟩)
    simp only [Bool.not_eq_true] at hA hB hG
    rw [hA, hB, hG]; rfl
theorem out_same {n : Net} {l : List Int} (h : okNet n l = true) : outNet n l = outNet2 n l := by
  unfold okNet at h
  rw [Bool.and_eq_true, decide_eq_true_eq] at h
  obtain ⟨hm, hv⟩ := h
  obtain ⟨⟨_, hlen⟩, _, _, hn⟩ := mayB_iff.1 hm
  have hin := validTo_in hv
  unfold outNet outNet2
  rw [hlen]
  congr 1
  refine List.map_congr_left fun i hi => ?_
  rw [List.mem_range] at hi
  have hi2 : i < n.ports.length := by omega
  unfold outPort outRow
  rw [getD_eq hi2]
  exact List.filter_congr fun p hp => stays_eq hn hin hi2 hp
theorem net_same (n : Net) (l : List Int) : refNet n l = downNet n l := by
  unfold refNet downNet
  by_cases h : okNet n l = true
  · rw [if_pos h, if_pos h, out_same h]
  · rw [if_neg h, if_neg h]
theorem ports_iff {l : List Int} : portsTo l l.length ↔ (∀ x ∈ l, 1 ≤ x ∧ x ≤ 511) ∧ l.Pairwise (· < ·) := by
  constructor
  · intro h
    refine ⟨fun x hx => ?_, ?_⟩
    · obtain ⟨i, hi, rfl⟩ := List.getElem_of_mem hx
      have := h i hi
      unfold portAt at this
      rw [getD_eq hi] at this
      exact ⟨this.1, this.2.1⟩
    · rw [List.pairwise_iff_getElem]
      intro i j hi hj hij
      have step : ∀ d (hd : i + d + 1 < l.length), l[i] < l[i + d + 1] := fun d => by
        induction d with
        | zero =>
          intro hd
          have := h (i + 1) hd
          unfold portAt at this
          rw [getD_eq hd, show i + 1 - 1 = i by omega, getD_eq hi] at this
          exact this.2.2 (by omega)
        | succ d ih =>
          intro hd
          have h1 := ih (by omega)
          have := h (i + (d + 1) + 1) hd
          unfold portAt at this
          rw [getD_eq hd, show i + (d + 1) + 1 - 1 = i + d + 1 by omega, getD_eq (show i + d + 1 < l.length by omega)] at this
          have := this.2.2 (by omega)
          omega
      have := step (j - i - 1) (by omega)
      simpa [show i + (j - i - 1) + 1 = j by omega] using this
  · rintro ⟨h1, h2⟩ i hi
    rw [List.pairwise_iff_getElem] at h2
    unfold portAt
    rw [getD_eq hi]
    have := h1 _ (List.getElem_mem hi)
    refine ⟨this.1, this.2, fun h0 => ?_⟩
    rw [getD_eq (show i - 1 < l.length by omega)]
    exact h2 (i - 1) i (by omega) hi (by omega)
theorem mayPorts_filter {l : List Int} (p : Int → Bool) (h : mayPortsB l = true) : mayPortsB (l.filter p) = true := by
  unfold mayPortsB at h ⊢
  rw [Bool.and_eq_true, decide_eq_true_eq, decide_eq_true_eq] at h ⊢
  rw [ports_iff] at h ⊢
  have := List.length_filter_le p l
  exact ⟨⟨fun x hx => h.1.1 x (List.mem_filter.1 hx).1, h.1.2.filter p⟩, by omega⟩
theorem range_getD {α β : Type} (xs : List α) (d : β) (f : Nat → β) (i : Nat) (hi : i < xs.length) : ((List.range xs.length).map f).getD i d = f i := by
  rw [getD_eq (by simpa using hi)]; simp
theorem may_out {n : Net} {l : List Int} (h : okNet n l = true) : mayB (outNet2 n l) = true := by
  unfold okNet at h
  rw [Bool.and_eq_true, decide_eq_true_eq] at h
  obtain ⟨hm, hv⟩ := h
  obtain ⟨⟨h8, hlen⟩, hsw, hth, hn⟩ := mayB_iff.1 hm
  have hin := validTo_in hv
  have hrow : ∀ i, i < n.ports.length → (outNet2 n l).ports.getD i [] = (n.ports.getD i []).filter fun p => !goneB n l (i, p) := fun i hi => range_getD n.ports [] (outRow n l) i hi
  refine mayB_iff.2 ⟨⟨h8, by simp [outNet2, hlen]⟩, fun i hi => ?_, fun e he => ?_, hn.sublist (ends_sub (keepL_sub _ _))⟩
  · have hi' : i < n.sw.length := hi
    obtain ⟨h1, h2, h3⟩ := hsw i hi'
    refine ⟨h1, h2, ?_⟩
    rw [hrow i (by omega)]
    exact mayPorts_filter _ h3
  · have he' := hth e ((ends_sub (keepL_sub _ _)).subset he)
    obtain ⟨x, hx, hh⟩ := mem_ends.1 he
    obtain ⟨j, e1, hl⟩ := mem_keepL.1 hx
    obtain ⟨hj, rfl⟩ := List.getElem?_eq_some_iff.1 e1
    obtain ⟨s, p⟩ := e
    unfold thereB at he' ⊢
    rw [decide_eq_true_eq] at he' ⊢
    obtain ⟨a1, a2, a3⟩ := he'
    obtain ⟨k, rfl⟩ := Int.eq_ofNat_of_zero_le a1
    simp only [Int.toNat_natCast] at a2 a3 ⊢
    have hk : k < n.ports.length := by omega
    refine ⟨a1, by simp only [outNet2, List.length_map, List.length_range]; exact a2, ?_⟩
    rw [hrow k hk, List.mem_filter]
    refine ⟨a3, ?_⟩
    have : ¬ goneB n l ((k : Int), p) = true := fun hg => by
      obtain ⟨j2, hj2, hl2, hh2⟩ := (goneB_iff hin).1 hg
      have := one_link hn hj hj2 hh hh2
      subst this
      exact hl hl2
    simpa using this
theorem down_may {n : Net} {l : List Int} (h : (downNet n l).2 = 0) : mayB (downNet n l).1 = true := by
  unfold downNet at h ⊢
  by_cases ho : okNet n l = true
  · rw [if_pos ho]; exact may_out ho
  · rw [if_neg ho] at h; cases h
theorem out_nil {n : Net} : outNet2 n [] = n := by
  have hr : ∀ i, i < n.ports.length → outRow n [] i = n.ports.getD i [] := fun i _ => List.filter_eq_self.2 fun _ _ => rfl
  have hk : keepL n.links [] 0 = n.links := by
    unfold keepL
    rw [List.filter_eq_self.2 (fun _ _ => by simp)]
    exact List.zipIdx_map_fst 0 n.links
  unfold outNet2
  rw [hk]
  have : (List.range n.ports.length).map (outRow n []) = n.ports := by
    apply List.ext_getElem
    · simp
    · intro i h1 h2
      rw [List.getElem_map, List.getElem_range, hr i h2, getD_eq h2]
  rw [this]
theorem down_nil {n : Net} (h : mayB n = true) : downNet n [] = (n, 0) := by
  unfold downNet
  have : okNet n [] = true := by
    unfold okNet
    rw [h, Bool.true_and, decide_eq_true_eq]
    exact fun i hi => by simp at hi
  rw [if_pos this, out_nil]
end Go.Proofs.Ytjijggighppjbaa

import Derived.Test.YtmfpbahifhndjaaGreatLow10
set_option linter.all false
/-! Layer 10: what a node leaves of a stack. -/
namespace Go.Proofs.YtmfpbahifhndjaaGreat
open Go.RowKit
/-- What does makes of a stack. -/
def DoesP (p : Lp) (act : Int) (g : Nat) (st : List Int) (n : Nd) (w : World) (e : Ending) (w' : World) : Prop :=
 Gr g w w' ∧ match doesL p act st n with
 | some (r, st') => e = .returned (.int .i64 r) ∧ Stk w' g st'.reverse false
 | none => (∃ r, e = .returned (.int .i64 r)) ∧ ∃ l, Stk w' g l true
theorem does_lo {p : Lp} {act : Int} {g : Nat} {st : List Int} {n : Nd} {w w' : World} {e : Ending} (h6 : n.op ≤ 6) (he : e = .returned (.int .i64 (givL p act n))) (hg : Gr g w w') (hs : Stk w' g st.reverse false) : DoesP p act g st n w e w' := by
 unfold DoesP doesL
 rw [if_pos h6]
 exact ⟨hg, he, hs⟩
theorem does_no {p : Lp} {act : Int} {g : Nat} {st : List Int} {n : Nd} {w w' : World} {r : Int} {l : List Int} (h6 : ¬ n.op ≤ 6) (hn : doesL p act st n = none) (hg : Gr g w w') (hs : Stk w' g l true) : DoesP p act g st n w (.returned (.int .i64 r)) w' := by
 unfold DoesP
 rw [hn]
 exact ⟨hg, ⟨r, rfl⟩, l, hs⟩
theorem does_one {p : Lp} {act : Int} {g : Nat} {st : List Int} {w1 r : Int} {n : Nd} {w w' : World} (h6 : ¬ n.op ≤ 6) (h1 : oneOp n.op = true) (hr : r = sngL n w1) (hg : Gr g w w') (hs : Stk w' g st.reverse false) : DoesP p act g (w1 :: st) n w (.returned (.int .i64 r)) w' := by
 unfold DoesP doesL
 rw [if_neg h6]
 simp only [if_pos h1]
 exact ⟨hg, by rw [hr], hs⟩
theorem does_two {p : Lp} {act : Int} {g : Nat} {st : List Int} {w1 v1 r : Int} {n : Nd} {w w' : World} (h6 : ¬ n.op ≤ 6) (h1 : ¬ oneOp n.op = true) (hr : r = prL n.op v1 w1) (hg : Gr g w w') (hs : Stk w' g st.reverse false) : DoesP p act g (w1 :: v1 :: st) n w (.returned (.int .i64 r)) w' := by
 unfold DoesP doesL
 rw [if_neg h6]
 simp only [if_neg h1]
 exact ⟨hg, by rw [hr], hs⟩
set_option maxRecDepth 100000 in
set_option maxHeartbeats 8000000 in
theorem does_any (A1 A2 A3 A4 A5 A6 A7 A8 A9 A10 A11 A12 : Option Addr) (p : Lp) (c1 c2 c3 c4 c5 c6 c7 c8 c9 c10 c11 c12 : Nat) (act : Int) (n : Nd) (st : List Int) (g : Nat) (w : World) (h : LpS w g A1 A2 A3 A4 A5 A6 A7 A8 A9 A10 A11 A12 p) (hn : u8 n.op ∧ u64 n.hi ∧ u64 n.lo) (hst : Stk w g st.reverse false) (hw : ∀ x ∈ st, 1 ≤ x ∧ x ≤ 128) (hlen : st.length ≤ 100000) :
  Calls Tryz.prog 15 #[.pointer (some ⟨g, 0, none⟩), .agg #[.slice A1 p.heads.length c1, .slice A2 p.metas.length c2, .slice A3 p.steps.length c3, .slice A4 p.acts.length c4, .slice A5 p.tabs.length c5, .slice A6 p.control.length c6, .slice A7 p.emit.length c7, .slice A8 p.nh.length c8, .slice A9 p.nf.length c9, .slice A10 p.nm.length c10, .slice A11 p.na.length c11, .slice A12 p.nt.length c12], .int .i64 act, .agg #[.int .u8 n.op, .int .i64 n.w, .int .i64 n.a, .int .i64 n.b, .int .u64 n.hi, .int .u64 n.lo]] w (DoesP p act g st n w) := by
 obtain ⟨op, nw, a, b, hi, lo⟩ := n
 simp only at hn ⊢
 have hgl := hst.lt
 obtain ⟨wz, hwz, hsz, hbz, hcz, -⟩ := box1 w #[.slice A1 p.heads.length c1, .slice A2 p.metas.length c2, .slice A3 p.steps.length c3, .slice A4 p.acts.length c4, .slice A5 p.tabs.length c5, .slice A6 p.control.length c6, .slice A7 p.emit.length c7, .slice A8 p.nh.length c8, .slice A9 p.nf.length c9, .slice A10 p.nm.length c10, .slice A11 p.na.length c11, .slice A12 p.nt.length c12] 33
 obtain ⟨wa, hwa, hsa, hba, hca, -⟩ := box1 wz #[.int .u8 op, .int .i64 nw, .int .i64 a, .int .i64 b, .int .u64 hi, .int .u64 lo] 79
 have Y := fun i => (hba.cell (p := ⟨w.heap.size, i, none⟩) (by show w.heap.size < _; omega)).trans (hcz i)
 simp only [hsz] at hca
 have x0 : wa.cell? ⟨w.heap.size + 1, 0, none⟩ = some (.int .u8 op) := hca 0
 have x1 : wa.cell? ⟨w.heap.size + 1, 1, none⟩ = some (.int .i64 nw) := hca 1
 have x2 : wa.cell? ⟨w.heap.size + 1, 2, none⟩ = some (.int .i64 a) := hca 2
 have x3 : wa.cell? ⟨w.heap.size + 1, 3, none⟩ = some (.int .i64 b) := hca 3
 have x4 : wa.cell? ⟨w.heap.size + 1, 4, none⟩ = some (.int .u64 hi) := hca 4
 have x5 : wa.cell? ⟨w.heap.size + 1, 5, none⟩ = some (.int .u64 lo) := hca 5
 have hl1 : w.heap.size < wa.heap.size := by omega
 have hl2 : w.heap.size + 1 < wa.heap.size := by omega
 have hbw : Below w.heap.size w wa := hbz.trans (hba.mono (by omega))
 have hG := hide (Gr.of (g := g) hbw)
 have hS := hide (hst.below hbw)
 have hP := (h.below (hbw.mono (by omega))).more (B' := wa.heap.size) (by omega)
 replace hbw := hide hbw
 replace hsa := hide hsa
 by_cases h6 : op ≤ 6
 ·have y0 := Y 0
  have y1 := Y 1
  have y2 := Y 2
  have y3 := Y 3
  have y4 := Y 4
  have y5 := Y 5
  have y6 := Y 6
  have y7 := Y 7
  have y8 := Y 8
  have y9 := Y 9
  have y10 := Y 10
  have y11 := Y 11
  simp only [List.getElem?_toArray, List.getElem?_cons_zero, List.getElem?_cons_succ] at y0 y1 y2 y3 y4 y5 y6 y7 y8 y9 y10 y11
  have hV := given_any A1 A2 A3 A4 A5 A6 A7 A8 A9 A10 A11 A12 p c1 c2 c3 c4 c5 c6 c7 c8 c9 c10 c11 c12 act ⟨op, nw, a, b, hi, lo⟩ wa hP hn.2
  generalize hgv : givL p act ⟨op, nw, a, b, hi, lo⟩ = G at hV
  replace hV := hide hV
  replace hgv := hide hgv
  clear hca hcz hba hbz h hP Y hw
  go_enter Tryz.func15, Tryz.ntmps15
  go_wp2_with (go_at_call 51; refine hV.out.mono ?_; rintro e w3 ⟨rfl, hb3⟩)
  go_ret
  exact does_lo h6 (ret_int hgv.out.symm) (hG.out.trans (Gr.of hb3)) (hS.out.below hb3)
 ·clear hca hcz hba hbz h hP Y
  have hgn : w.heap.size + 1 ≠ g := by omega
  have hgn : w.heap.size + 1 ≠ g := by omega
  match st, hS, hw, hlen with
  | [], hS, hw, hlen =>
   have hN := hide (pop_none wa g false hS.out)
   have hd := hide (show doesL p act [] ⟨op, nw, a, b, hi, lo⟩ = none from by simp [doesL, h6])
   clear hS hw hst
   go_enter Tryz.func15, Tryz.ntmps15
   go_wp2_with fail
   refine hN.out.mono ?_
   rintro e w3 ⟨rfl, hs3, hg3⟩
   have hz3 := Nat.lt_of_lt_of_le hl2 (hg3.size)
   have z0 := (hg3.cell (i := 0) hl2 (by omega)).trans x0
   have z2 := (hg3.cell (i := 2) hl2 (by omega)).trans x2
   have z3 := (hg3.cell (i := 3) hl2 (by omega)).trans x3
   go_wp2_with (go_at_call 52; refine (pop_none _ g _ hs3).mono ?_; rintro e w4 ⟨rfl, hs4, hg4⟩; have u0 := (hg4.cell (i := 0) hz3 (by omega)).trans z0; have u2 := (hg4.cell (i := 2) hz3 (by omega)).trans z2; have u3 := (hg4.cell (i := 3) hz3 (by omega)).trans z3)
   all_goals go_ret
   all_goals first | exact does_no (by simpa using h6) hd.out (hG.out.trans hg3) hs3 | exact does_no (by simpa using h6) hd.out ((hG.out.trans hg3).trans hg4) hs4
  | [w1], hS, hw, hlen =>
   obtain ⟨hw1, hw2⟩ := hw w1 (by simp)
   have hN := hide (pop_some wa g [] w1 false hS.out (by simp))
   have hd := hide (fun (g : ¬ oneOp op = true) => show doesL p act [w1] ⟨op, nw, a, b, hi, lo⟩ = none from by simp [doesL, h6, g])
   clear hS hw hst
   go_enter Tryz.func15, Tryz.ntmps15
   go_wp2_with fail
   refine hN.out.mono ?_
   rintro e w3 ⟨rfl, hs3, hg3⟩
   have hz3 := Nat.lt_of_lt_of_le hl2 (hg3.size)
   have z0 := (hg3.cell (i := 0) hl2 (by omega)).trans x0
   have z2 := (hg3.cell (i := 2) hl2 (by omega)).trans x2
   have z3 := (hg3.cell (i := 3) hl2 (by omega)).trans x3
   go_wp2_with (go_at_call 52; refine (pop_none _ g _ hs3).mono ?_; rintro e w4 ⟨rfl, hs4, hg4⟩; have u0 := (hg4.cell (i := 0) hz3 (by omega)).trans z0; have u2 := (hg4.cell (i := 2) hz3 (by omega)).trans z2; have u3 := (hg4.cell (i := 3) hz3 (by omega)).trans z3)
   all_goals go_ret
   all_goals simp only [beq_iff_eq, beq_eq_false_iff_ne] at *
   all_goals first | exact does_no (by simpa using h6) (hd.out (by simp [oneOp, *])) ((hG.out.trans hg3).trans hg4) hs4 | exact does_one (by simpa using h6) (by simp [oneOp, *]) (by simp [sngL, *] <;> omega) (hG.out.trans hg3) hs3
  | w1 :: v1 :: st, hS, hw, hlen =>
   obtain ⟨hw1, hw2⟩ := hw w1 (by simp)
   obtain ⟨hv1, hv2⟩ := hw v1 (by simp)
   simp only [List.length_cons] at hlen
   have hN := hide (pop_some wa g (v1 :: st).reverse w1 false (by rw [← List.reverse_cons]; exact hS.out) (by simp; omega))
   clear hS hw hst
   go_enter Tryz.func15, Tryz.ntmps15
   go_wp2_with fail
   refine hN.out.mono ?_
   rintro e w3 ⟨rfl, hs3, hg3⟩
   have hz3 := Nat.lt_of_lt_of_le hl2 (hg3.size)
   have z0 := (hg3.cell (i := 0) hl2 (by omega)).trans x0
   have z2 := (hg3.cell (i := 2) hl2 (by omega)).trans x2
   have z3 := (hg3.cell (i := 3) hl2 (by omega)).trans x3
   go_wp2_with (go_at_call 52; refine (pop_some _ g st.reverse v1 false (by rw [← List.reverse_cons]; exact hs3) (by simp; omega)).mono ?_; rintro e w4 ⟨rfl, hs4, hg4⟩; have u0 := (hg4.cell (i := 0) hz3 (by omega)).trans z0; have u2 := (hg4.cell (i := 2) hz3 (by omega)).trans z2; have u3 := (hg4.cell (i := 3) hz3 (by omega)).trans z3)
   all_goals go_ret
   all_goals simp only [beq_iff_eq, beq_eq_false_iff_ne, bne_iff_ne, bne_eq_false_iff_eq, Bool.or_eq_true, Bool.or_eq_false_iff, decide_eq_true_eq, decide_eq_false_iff_not, ne_eq, Decidable.not_not] at *
   all_goals first | exact does_one (by simpa using h6) (by simp [oneOp, *]) (by simp [sngL, *] <;> omega) (hG.out.trans hg3) hs3 | exact does_two (by simpa using h6) (by simp [oneOp, *]) (by show _ = prL op v1 w1; unfold prL; (repeat' split) <;> omega) ((hG.out.trans hg3).trans hg4) hs4
end Go.Proofs.YtmfpbahifhndjaaGreat
/-! Layer 10: a code's width. -/
namespace Go.Proofs.YtmfpbahifhndjaaGreat
open Go.RowKit
attribute [local go_sem ↓] app_eq
theorem foldN_app (f : List Int → Nd → Option (List Int)) : ∀ (a b : List Nd) (st : List Int), foldN f st (a ++ b) = match foldN f st a with
  | none => none
  | some s => foldN f s b
 | [], b, st => rfl
 | n :: a, b, st => by
  simp only [List.cons_append, foldN]
  cases f st n with
  | none => rfl
  | some s => exact foldN_app f a b s
theorem foldN_succ {f : List Int → Nd → Option (List Int)} {c : List Nd} {k : Nat} {st st' : List Int} (hk : k < c.length) (h : foldN f [] (c.take k) = some st) (hn : f st c[k] = some st') : foldN f [] (c.take (k + 1)) = some st' := by
 rw [List.take_succ_eq_append_getElem hk, foldN_app, h]
 simp only [foldN, hn]
theorem foldN_stop {f : List Int → Nd → Option (List Int)} {c : List Nd} {k : Nat} {st : List Int} (hk : k < c.length) (h : foldN f [] (c.take k) = some st) (hn : f st c[k] = none) : foldN f [] c = none := by
 have hc : c = c.take k ++ (c[k] :: c.drop (k + 1)) := by rw [List.getElem_cons_drop, List.take_append_drop]
 rw [hc, foldN_app, h]
 simp only [foldN, hn]
theorem does_len {p : Lp} {act : Int} {st : List Int} {n : Nd} {r : Int × List Int} (h : doesL p act st n = some r) : r.2.length ≤ st.length := by
 unfold doesL at h
 split at h
 ·cases h; exact Nat.le_refl _
 ·split at h
  ·cases h
  ·split at h
   ·cases h; simp
   ·split at h
    ·cases h
    ·cases h; simp; omega
theorem node_len {p : Lp} {act : Int} {st st' : List Int} {n : Nd} (h : nodeL p act st n = some st') : st'.length ≤ st.length + 1 := by
 unfold nodeL at h
 cases hd : doesL p act st n with
 | none => rw [hd] at h; cases h
 | some r =>
  obtain ⟨w, s⟩ := r
  have := does_len hd
  rw [hd] at h
  simp only at h this
  split at h
  ·injection h with h; subst h; simp; omega
  ·cases h
theorem fold_len {p : Lp} {act : Int} : ∀ (c : List Nd) (st st' : List Int), foldN (nodeL p act) st c = some st' → st'.length ≤ st.length + c.length
 | [], st, st', h => by simp only [foldN] at h; injection h with h; subst h; simp
 | n :: c, st, st', h => by
  simp only [foldN] at h
  cases hn : nodeL p act st n with
  | none => rw [hn] at h; cases h
  | some s =>
   rw [hn] at h
   have h1 := fold_len c s st' h
   have h2 := node_len hn
   simp only [List.length_cons]; omega
theorem Sl.node {w : World} {B : Nat} {A : Option Addr} {c : List Nd} (h : Sl 6 rNd w B A c) {i : Nat} (hi : i < c.length) : ∃ b o, A = some ⟨b, o, none⟩ ∧ b < B ∧ w.cell? ⟨b, o + i * 6, none⟩ = some (.int .u8 c[i].op) ∧ w.cell? ⟨b, o + i * 6 + 1, none⟩ = some (.int .i64 c[i].w) ∧ w.cell? ⟨b, o + i * 6 + 2, none⟩ = some (.int .i64 c[i].a) ∧ w.cell? ⟨b, o + i * 6 + 3, none⟩ = some (.int .i64 c[i].b) ∧ w.cell? ⟨b, o + i * 6 + 4, none⟩ = some (.int .u64 c[i].hi) ∧ w.cell? ⟨b, o + i * 6 + 5, none⟩ = some (.int .u64 c[i].lo) ∧ u8 c[i].op ∧ u64 c[i].hi ∧ u64 c[i].lo := by
 obtain ⟨b, o, ecs, hA, hb, hl, hc, rfl, h1, h2, h3⟩ := h.2 i c[i] (List.getElem?_eq_getElem hi)
 exact ⟨b, o, hA, hb, hc 0 _ rfl, hc 1 _ rfl, hc 2 _ rfl, hc 3 _ rfl, hc 4 _ rfl, hc 5 _ rfl, h1, h2, h3⟩
/-- What Width answers. -/
def wdV (o : Option Int) : Value := .tuple #[.int .i64 (o.getD 0), .bool o.isSome]
set_option maxRecDepth 100000 in
set_option maxHeartbeats 8000000 in
theorem width_any (A1 A2 A3 A4 A5 A6 A7 A8 A9 A10 A11 A12 : Option Addr) (p : Lp) (c1 c2 c3 c4 c5 c6 c7 c8 c9 c10 c11 c12 : Nat) (act : Int) (c : List Nd) (A : Option Addr) (cap : Nat) (w : World) (h : LpS w w.heap.size A1 A2 A3 A4 A5 A6 A7 A8 A9 A10 A11 A12 p) (hc : Sl 6 rNd w w.heap.size A c) :
  Calls Tryz.prog 6 #[.agg #[.slice A1 p.heads.length c1, .slice A2 p.metas.length c2, .slice A3 p.steps.length c3, .slice A4 p.acts.length c4, .slice A5 p.tabs.length c5, .slice A6 p.control.length c6, .slice A7 p.emit.length c7, .slice A8 p.nh.length c8, .slice A9 p.nf.length c9, .slice A10 p.nm.length c10, .slice A11 p.na.length c11, .slice A12 p.nt.length c12], .int .i64 act, .slice A c.length cap] w fun e w' => e = .returned (wdV (wdL p act c)) ∧ Below w.heap.size w w' := by
 have hlen := hc.len
 obtain ⟨wz, hwz, hsz, hbz, hcz, -⟩ := box1 w #[.slice A1 p.heads.length c1, .slice A2 p.metas.length c2, .slice A3 p.steps.length c3, .slice A4 p.acts.length c4, .slice A5 p.tabs.length c5, .slice A6 p.control.length c6, .slice A7 p.emit.length c7, .slice A8 p.nh.length c8, .slice A9 p.nf.length c9, .slice A10 p.nm.length c10, .slice A11 p.na.length c11, .slice A12 p.nt.length c12] 33
 replace hbz := hide hbz
 by_cases h6 : 65536 < c.length
 ·have h6z : (65536 : Int) < (c.length : Int) := by omega
  have hv := hide (show wdL p act c = none from by simp [wdL, wdN, h6])
  clear hcz h hc
  go_enter Tryz.func6, Tryz.ntmps6
  go_wp2
  exact bodyPost_ret (results_tmp2 rfl _ _ _) rfl ⟨by rw [hv.out] <;> rfl, hbz.out⟩
 ·have h6z : ¬ (65536 : Int) < (c.length : Int) := by omega
  obtain ⟨wa, hwa, hsa, hba, hca, hfa⟩ := box1 wz #[.slice none 0 0, .bool false] 82
  have Y := fun i => (hba.cell (p := ⟨w.heap.size, i, none⟩) (by show w.heap.size < _; omega)).trans (hcz i)
  have hbw : Below w.heap.size w wa := hbz.out.trans (hba.mono (by omega))
  have hst : Stk wa (w.heap.size + 1) [] false := ⟨.slice none 0 0, by rw [← hwa, ← hsz]; exact heap_alloc_last wz _, InS.nil_ _ _⟩
  have hP := hide (h.below hbw)
  have hC := hide (hc.below sta_nd hbw)
  replace hbw := hide hbw
  have hl2 : w.heap.size + 1 < wa.heap.size := by omega
  replace hsa := hide hsa
  replace hst := hide hst
  clear hca hcz hba h hc hfa
  go_enter Tryz.func6, Tryz.ntmps6
  go_wp2
  go_loopw [10, 11, 19] (fun _ _ i wr => ∃ (k : Nat) (st : List Int), k ≤ c.length ∧ i = .int .i64 k ∧ Hid (foldN (nodeL p act) [] (c.take k) = some st) ∧ Hid (Stk wr (w.heap.size + 1) st.reverse false) ∧ Hid (Below (w.heap.size + 1) wa wr)) (fun _ _ i _ => c.length - (intOf i).toNat)
  case atStart => exact ⟨0, [], Nat.zero_le _, rfl, hide rfl, hst, hide (Below.refl _ _)⟩
  case round =>
   obtain ⟨k, st, hk, rfl, hf, hS, hG⟩ := hrel
   have hwr : w.heap.size + 1 < wr.heap.size := hS.out.lt
   have hgo : ∀ W, Below (w.heap.size + 1) wr W → Below w.heap.size w W := fun W hW => hbw.out.trans ((hG.out.trans hW).mono (by omega))
   by_cases hlt : k < c.length
   ·have hltz : (k : Int) < (c.length : Int) := by omega
    obtain ⟨b, o, rfl, hb, n0, n1, n2, n3, n4, n5, u1, u2, u3⟩ := (hC.out.below sta_nd (hG.out.mono (by omega))).node hlt
    obtain ⟨wn, hwn, hsn, hbn, hcn, -⟩ := box1 wr #[.int .u8 c[k].op, .int .i64 c[k].w, .int .i64 c[k].a, .int .i64 c[k].b, .int .u64 c[k].hi, .int .u64 c[k].lo] 79
    have m0 : wn.cell? ⟨wr.heap.size, 0, none⟩ = some (.int .u8 c[k].op) := hcn 0
    have m1 : wn.cell? ⟨wr.heap.size, 1, none⟩ = some (.int .i64 c[k].w) := hcn 1
    have m2 : wn.cell? ⟨wr.heap.size, 2, none⟩ = some (.int .i64 c[k].a) := hcn 2
    have m3 : wn.cell? ⟨wr.heap.size, 3, none⟩ = some (.int .i64 c[k].b) := hcn 3
    have m4 : wn.cell? ⟨wr.heap.size, 4, none⟩ = some (.int .u64 c[k].hi) := hcn 4
    have m5 : wn.cell? ⟨wr.heap.size, 5, none⟩ = some (.int .u64 c[k].lo) := hcn 5
    have Yn := fun i => (hbn.cell (p := ⟨w.heap.size, i, none⟩) (by show w.heap.size < _; omega)).trans ((hG.out.cell (p := ⟨w.heap.size, i, none⟩) (by show w.heap.size < _; omega)).trans (Y i))
    have y0 := Yn 0
    have y1 := Yn 1
    have y2 := Yn 2
    have y3 := Yn 3
    have y4 := Yn 4
    have y5 := Yn 5
    have y6 := Yn 6
    have y7 := Yn 7
    have y8 := Yn 8
    have y9 := Yn 9
    have y10 := Yn 10
    have y11 := Yn 11
    simp only [List.getElem?_toArray, List.getElem?_cons_zero, List.getElem?_cons_succ] at y0 y1 y2 y3 y4 y5 y6 y7 y8 y9 y10 y11
    have hst60 : st.length ≤ 65536 := by have := fold_len _ _ _ hf.out; simp at this; omega
    have hpos := fold_pos _ _ _ hf.out (by simp)
    have hD := does_any A1 A2 A3 A4 A5 A6 A7 A8 A9 A10 A11 A12 p c1 c2 c3 c4 c5 c6 c7 c8 c9 c10 c11 c12 act c[k] st (w.heap.size + 1) wn (((hP.out.below (hG.out.mono (by omega))).below (hbn.mono (by omega))).more (by omega)) ⟨u1, u2, u3⟩ (hS.out.below hbn) (fun x hx => (widthB_iff x).1 (hpos x hx)) (by omega)
    have hwrn : wr.heap.size < wn.heap.size := by omega
    have hgw : Below (w.heap.size + 1) wr wn := hbn.mono (by omega)
    have hA := asks_any c[k]
    have hns := hide (fun st' (h : nodeL p act st c[k] = some st') => foldN_succ (st' := st') hlt hf.out h)
    have hnn := hide (fun (h : nodeL p act st c[k] = none) => show wdL p act c = none from by unfold wdL wdN; rw [if_neg (by omega), foldN_stop hlt hf.out h]; rfl)
    replace hgw := hide hgw
    replace hsn := hide hsn
    clear hbn hcn Yn hS hf hpos u1 u2 u3
    unfold nodeL at hns hnn
    unfold DoesP at hD
    cases hd : doesL p act st c[k] with
    | none =>
     rw [hd] at hD
     replace hnn := hide (hnn.out (by rw [hd]))
     clear hns
     replace hD := hide hD
     go_wp2_with (go_at_call 15; refine hD.out.mono ?_; rintro e w3 ⟨hg3, ⟨r, rfl⟩, l, hs3⟩; obtain ⟨v, s0, s1, f0, f1, hI⟩ := hs3.cells; have hl3 := hs3.lt)
     refine bodyPost_ret (results_tmp2 rfl _ _ _) rfl ⟨by rw [hnn.out] <;> rfl, hgo _ (hgw.out.trans (hg3.below (Nat.le_refl _) (by omega)))⟩
    | some r =>
     obtain ⟨r, t1⟩ := r
     rw [hd] at hD
     have hlen1 := does_len hd
     have hnn' := fun (h : ¬ (r = c[k].w ∧ widthB r = true ∧ asksB c[k] = true)) => hnn.out (by rw [hd]; simp only [if_neg h])
     have hns' := fun (h : r = c[k].w ∧ widthB r = true ∧ asksB c[k] = true) => hns.out (r :: t1) (by rw [hd]; simp only [if_pos h])
     clear hns hnn hd
     replace hD := hide hD
     have hWd := fun W => lisWidth_any r W
     generalize widthB r = z1 at hnn' hns' hWd
     generalize asksB c[k] = z2 at hnn' hns' hA
     by_cases e1 : r = c[k].w
     ·subst e1
      cases z1 with
      | false =>
       replace hnn' := hide (hnn' fun g => by cases g.2.1)
       clear hns' hA
       go_wp2_with (first | (go_at_call 15; refine hD.out.mono ?_; rintro e w3 ⟨hg3, rfl, hs3⟩; obtain ⟨v, s0, s1, f0, f1, hI⟩ := hs3.cells; have hl3 := hs3.lt; have q0 := (hg3.cell (i := 0) hwrn (by omega)).trans m0; have q1 := (hg3.cell (i := 1) hwrn (by omega)).trans m1; have q2 := (hg3.cell (i := 2) hwrn (by omega)).trans m2; have q3 := (hg3.cell (i := 3) hwrn (by omega)).trans m3; have q4 := (hg3.cell (i := 4) hwrn (by omega)).trans m4; have q5 := (hg3.cell (i := 5) hwrn (by omega)).trans m5; have q6 := Nat.lt_of_lt_of_le hwrn hg3.size) | (go_at_call 16; refine (hWd _).mono ?_; rintro e w' ⟨rfl, rfl⟩))
       refine bodyPost_ret (results_tmp2 rfl _ _ _) rfl ⟨by rw [hnn'.out] <;> rfl, hgo _ (hgw.out.trans (hg3.below (Nat.le_refl _) (by omega)))⟩
      | true =>
       cases z2 with
       | false =>
        replace hnn' := hide (hnn' fun g => by cases g.2.2)
        clear hns'
        go_wp2_with (first | (go_at_call 15; refine hD.out.mono ?_; rintro e w3 ⟨hg3, rfl, hs3⟩; obtain ⟨v, s0, s1, f0, f1, hI⟩ := hs3.cells; have hl3 := hs3.lt; have q0 := (hg3.cell (i := 0) hwrn (by omega)).trans m0; have q1 := (hg3.cell (i := 1) hwrn (by omega)).trans m1; have q2 := (hg3.cell (i := 2) hwrn (by omega)).trans m2; have q3 := (hg3.cell (i := 3) hwrn (by omega)).trans m3; have q4 := (hg3.cell (i := 4) hwrn (by omega)).trans m4; have q5 := (hg3.cell (i := 5) hwrn (by omega)).trans m5; have q6 := Nat.lt_of_lt_of_le hwrn hg3.size) | (go_at_call 16; refine (hWd _).mono ?_; rintro e w' ⟨rfl, rfl⟩) | (go_at_call 17; refine (hA _).mono ?_; rintro e w4 ⟨rfl, hb4⟩))
        refine bodyPost_ret (results_tmp2 rfl _ _ _) rfl ⟨by rw [hnn'.out] <;> rfl, hgo _ ((hgw.out.trans (hg3.below (Nat.le_refl _) (by omega))).trans (hb4.mono (by omega)))⟩
       | true =>
        replace hns' := hide (hns' ⟨rfl, rfl, rfl⟩)
        clear hnn'
        go_upto_region 10 with (first | (go_at_call 15; refine hD.out.mono ?_; rintro e w3 ⟨hg3, rfl, hs3⟩; have hl3 := hs3.lt; obtain ⟨v, hh, hI⟩ := hs3; have s0 : w3.cell? ⟨w.heap.size + 1, 0, none⟩ = some v := (by simp [World.cell?, hh]); have s1 : w3.cell? ⟨w.heap.size + 1, 1, none⟩ = some (.bool false) := (by simp [World.cell?, hh]); have f0 : w3.frozen? ⟨w.heap.size + 1, 0, none⟩ = false := (by simp [World.frozen?, hh]); replace hh := hide hh; have q0 := (hg3.cell (i := 0) hwrn (by omega)).trans m0; have q1 := (hg3.cell (i := 1) hwrn (by omega)).trans m1; have q2 := (hg3.cell (i := 2) hwrn (by omega)).trans m2; have q3 := (hg3.cell (i := 3) hwrn (by omega)).trans m3; have q4 := (hg3.cell (i := 4) hwrn (by omega)).trans m4; have q5 := (hg3.cell (i := 5) hwrn (by omega)).trans m5; have q6 := Nat.lt_of_lt_of_le hwrn hg3.size) | (go_at_call 16; refine (hWd _).mono ?_; rintro e w' ⟨rfl, rfl⟩) | (go_at_call 17; refine (hA _).mono ?_; rintro e w4 ⟨rfl, hb4⟩))
        obtain ⟨Av, cv, rfl⟩ := hI.form
        obtain ⟨v', w', hr, hI', hB'⟩ := append_i c[k].w (hI.below hb4 (Nat.le_refl _)) (Nat.le_trans hl3 hb4.size) (by simp [bigI]; omega)
        obtain ⟨Au, cu, rfl⟩ := hI'.form
        have hS' := hide (Stk.set0 hh.out ((hb4.mono hl3).trans hB') hI')
        have hB2 : Below (w.heap.size + 1) w4 (w'.setCell ⟨w.heap.size + 1, 0, none⟩ (.slice Au (t1.reverse ++ [c[k].w]).length cu)) := (hB'.mono (Nat.le_succ _)).setCell (Nat.le_refl (w.heap.size + 1)) _
        have hB3 := hide ((hg3.below (Nat.le_refl _) (by omega)).trans ((hb4.mono (Nat.le_of_lt hl3)).trans hB2))
        clear hB2
        have s04 := (hb4.cell (p := ⟨w.heap.size + 1, 0, none⟩) hl3).trans s0
        have f04 := (hb4.frozen (p := ⟨w.heap.size + 1, 0, none⟩) hl3).trans f0
        have s05 := (hB'.cell (p := ⟨w.heap.size + 1, 0, none⟩) (Nat.lt_succ_self _)).trans s04
        have f05 := (hB'.frozen (p := ⟨w.heap.size + 1, 0, none⟩) (Nat.lt_succ_self _)).trans f04
        have hl4 := Nat.lt_of_lt_of_le hl3 hb4.size
        have hl5 := Nat.lt_of_lt_of_le hl4 hB'.size
        simp only [List.length_append, List.length_reverse, List.length_cons, List.length_nil, Nat.zero_add] at hr hS' hB3 s04 s05
        clear hI hI' hB' hb4 hg3 s0 s1 f0
        go_wp2
        go_roundw
        case rel => exact ⟨k + 1, c[k].w :: t1, by omega, by go_num, hns', by rw [List.reverse_cons]; exact hS', hide (hG.out.trans (hgw.out.trans hB3.out))⟩
        case measure => simp [intOf]; omega
     ·replace hnn' := hide (hnn' fun g => e1 g.1)
      clear hns'
      go_wp2_with (go_at_call 15; refine hD.out.mono ?_; rintro e w3 ⟨hg3, rfl, hs3⟩; obtain ⟨v, s0, s1, f0, f1, hI⟩ := hs3.cells; have hl3 := hs3.lt; have q1 := (hg3.cell (i := 1) hwrn (by omega)).trans m1; have q0 := Nat.lt_of_lt_of_le hwrn hg3.size)
      refine bodyPost_ret (results_tmp2 rfl _ _ _) rfl ⟨by rw [hnn'.out] <;> rfl, hgo _ (hgw.out.trans (hg3.below (Nat.le_refl _) (by omega)))⟩
   ·have hke : k = c.length := by omega
    subst hke
    rw [List.take_length] at hf
    obtain ⟨v, s0, s1, f0, f1, hI⟩ := hS.out.cells
    obtain ⟨A', cap', rfl, hSl⟩ := hI.sl
    have hv := hide (show wdL p act c = lastW (some st) from by unfold wdL wdN; rw [if_neg (by omega), hf.out])
    have hbE := hide (hgo _ (Below.refl _ _))
    have hx : st.length = 1 → ∃ x, st = [x] := fun h => by
     match st, h with
     | [x], _ => exact ⟨x, rfl⟩
    simp only [List.length_reverse] at s0
    by_cases h1 : st.length = 1
    ·obtain ⟨x, rfl⟩ := hx h1
     obtain ⟨b, o, rfl, hb, hcx⟩ := hSl.int (i := 0) (by simp)
     simp only [List.reverse_cons, List.reverse_nil, List.nil_append, List.getElem_cons_zero, Nat.add_zero] at hcx
     clear hx hSl hI hS
     go_wp2
     exact bodyPost_ret (results_tmp2 rfl _ _ _) rfl ⟨by rw [hv.out] <;> rfl, hbE.out⟩
    ·have hne : ((st.length : Int) != 1) = true := by rw [bne_iff_ne]; omega
     have hl0 : lastW (some st) = none := by
      match st, h1 with
      | [], _ => rfl
      | [x], h1 => exact absurd rfl h1
      | x :: y :: l, _ => rfl
     rw [hl0] at hv
     clear hx hSl hI hS
     go_wp2
     exact bodyPost_ret (results_tmp2 rfl _ _ _) rfl ⟨by rw [hv.out] <;> rfl, hbE.out⟩
end Go.Proofs.YtmfpbahifhndjaaGreat

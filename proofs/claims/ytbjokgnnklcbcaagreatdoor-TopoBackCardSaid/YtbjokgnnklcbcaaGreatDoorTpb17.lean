import Derived.Test.YtbjokgnnklcbcaaGreatDoorTpb16
import Derived.Test.YtbjokgnnklcbcaaGreatDoorTpb04
set_option linter.all false
/-! Layer 13: port. -/
namespace Go.Proofs.YtbjokgnnklcbcaaGreatDoor
open Go.RowKit
attribute [local go_sem] run_panic_iface
/-- How port ends. -/
def portE (g : Nat) (w : World) (v1 v2 v3 : Value) (t : Tk) (r : Except (Int × Nat) (Int × List Tk)) (e : Ending) (w' : World) : Prop :=
 Grg g w w' ∧ match r with
  | .ok x => e = .returned (.tuple #[tkA t, .int .i64 x.1]) ∧ RdB w' g x.2 v1 v2 v3
  | .error x => e = pwr x
theorem Grg.drew {g : Nat} {w W : World} (h : Grg g w W) : Grg g w W.drew := ⟨h.os, h.tape, h.output, h.size, h.block⟩
theorem RdB.drew {g : Nat} {W : World} {l : List Tk} {v1 v2 v3 : Value} (h : RdB W g l v1 v2 v3) : RdB W.drew g l v1 v2 v3 := h
set_option maxRecDepth 100000 in
set_option maxHeartbeats 4000000 in
theorem port13p {w : World} {g : Nat} {l : List Tk} {v1 v2 v3 : Value} (h : RdB w g l v1 v2 v3) :
  Calls Tryz.prog 74 #[.pointer (some ⟨g, 0, none⟩)] w (portE g w v1 v2 v3 (headT l) (portT l)) := by
 have lt := h.lt
 obtain ⟨wa, hwa, hba, hsa, hla, z0, z1, z2, z3, z4, z5⟩ := tbox13 w 0 0 0 0 0 ⟨#[]⟩
 have hfa : ∀ i, wa.frozen? ⟨w.heap.size, i, none⟩ = false := by intro i; rw [← hwa]; exact World.frozen?_alloc_at _ _ _ _ rfl
 have hRa := h.below hba.out lt
 have hN := hide (next13p hRa)
 have hGa := hide (Grg.of (g := g) hba.out)
 have hv := hide (show portT l = if (headT l).kind ≠ 2 then .error (4, (headT l).pl) else if (headT l).w ≠ 0 then .error (10, (headT l).pl) else if (headT l).n < 1 ∨ 511 < (headT l).n then .error (5, (headT l).pl) else .ok (((headT l).n : Int), advT l) from rfl)
 have hA := hide (fun (b : Bool) (n : Int) (W : World) => ask13 b (headT l) n W)
 generalize portT l = RES at hv ⊢
 generalize headT l = t at hv hN hA ⊢
 obtain ⟨k, s, wd, m, pl⟩ := t
 unfold tkA at hA hN
 simp only at hv hA hN
 have hQ1 := hide (fun (W : World) (h1 : Grg g w W) (h2 : RdB W g (advT l) v1 v2 v3) (h3 : RES = .ok ((m : Int), advT l)) => show portE g w v1 v2 v3 ⟨k, s, wd, m, pl⟩ RES (.returned (.tuple #[tkA ⟨k, s, wd, m, pl⟩, .int .i64 (m : Int)])) W from by rw [h3]; exact ⟨h1, rfl, h2⟩)
 have hQ2 := hide (fun (W : World) (x : Int) (h1 : Grg g w W) (h3 : RES = .error (x, pl)) => show portE g w v1 v2 v3 ⟨k, s, wd, m, pl⟩ RES (pwr (x, pl)) W from by rw [h3]; exact ⟨h1, rfl⟩)
 generalize portE g w v1 v2 v3 ⟨k, s, wd, m, pl⟩ RES = Q at hQ1 hQ2 ⊢
 unfold tkA at hQ1
 simp only at hQ1
 generalize (⟨s.toArray⟩ : ByteArray) = S at hA hN hQ1
 generalize hhi : ((m / 18446744073709551616 : Nat) : Int) = hi at hA hN hQ1
 generalize hlo : ((m % 18446744073709551616 : Nat) : Int) = lo at hA hN hQ1
 clear h
 have hwg : w.heap.size ≠ g := by omega
 have hgw : g ≠ w.heap.size := by omega
 go_enter Tryz.func74, Tryz.ntmps74
 go_upto_region 2 with (go_at_call 48; refine hN.out.mono ?_; rintro e w2 ⟨rfl, hG2, hR2⟩; obtain ⟨w3, hw3, hb3, hs3, hl3, x0, x1, x2, x3, x4, x5⟩ := tbox13 w2 k wd hi lo pl S)
 have hG3 := hG2.trans (Grg.of (g := g) hb3.out)
 obtain ⟨u0, u1, u2, u3, u4, u5, uf⟩ := keep6 hG3 hla hwg z0 z1 z2 z3 z4 z5 hfa
 have hR3 := hide (hR2.below hb3.out hR2.lt)
 have hz3 := hG3.size
 have hz2 := hG2.size
 have hne1 : w2.heap.size ≠ w.heap.size := by omega
 have hne2 : w.heap.size ≠ w2.heap.size := by omega
 have g0 := uf 0
 have g1 := uf 1
 have g2 := uf 2
 have g3 := uf 3
 have g4 := uf 4
 have g5 := uf 5
 have hlw : w.heap.size < w3.heap.size := by omega
 have hG3w := hide (hGa.out.trans hG3)
 clear hG2 hR2 hw3 hb3 hs3 uf z0 z1 z2 z3 z4 z5 hfa hN hG3 hRa hz3 hz2
 by_cases hk : k = 2
 ·have ek : ((k : Int) == 2) = true := by rw [beq_iff_eq]; omega
  have hv1 := hide (show RES = if wd ≠ 0 then .error (10, pl) else if m < 1 ∨ 511 < m then .error (5, pl) else .ok ((m : Int), advT l) from by rw [hv.out, if_neg (by simp [hk])])
  have hA1 := hide (fun W => hA.out true 4 W)
  simp only [if_true] at hA1
  clear hv hk
  go_upto_region 3 with (go_at_call 47; refine (hA1.out _).mono ?_; rintro e w5 ⟨rfl, hb5⟩)
  have kk := bcell' hb5
  replace x0 := (kk.1 _ 0 hl3).trans x0
  replace x1 := (kk.1 _ 1 hl3).trans x1
  replace x2 := (kk.1 _ 2 hl3).trans x2
  replace x3 := (kk.1 _ 3 hl3).trans x3
  replace x4 := (kk.1 _ 4 hl3).trans x4
  replace x5 := (kk.1 _ 5 hl3).trans x5
  replace u0 := (kk.1 _ 0 hlw).trans u0
  replace u1 := (kk.1 _ 1 hlw).trans u1
  replace u2 := (kk.1 _ 2 hlw).trans u2
  replace u3 := (kk.1 _ 3 hlw).trans u3
  replace u4 := (kk.1 _ 4 hlw).trans u4
  replace u5 := (kk.1 _ 5 hlw).trans u5
  replace g0 := (kk.2 _ 0 hlw).trans g0
  replace g1 := (kk.2 _ 1 hlw).trans g1
  replace g2 := (kk.2 _ 2 hlw).trans g2
  replace g3 := (kk.2 _ 3 hlw).trans g3
  replace g4 := (kk.2 _ 4 hlw).trans g4
  replace g5 := (kk.2 _ 5 hlw).trans g5
  replace hG3w := hide (hG3w.out.trans (Grg.of hb5))
  replace hR3 := hide (hR3.out.below hb5 hR3.out.lt)
  replace hlw := Nat.lt_of_lt_of_le hlw (hb5).size
  replace hl3 := Nat.lt_of_lt_of_le hl3 (hb5).size
  clear kk hb5
  by_cases hw0 : wd = 0
  ·have ew : ((wd : Int) == 0) = true := by rw [beq_iff_eq]; omega
   have hv2 := hide (show RES = if m < 1 ∨ 511 < m then .error (5, pl) else .ok ((m : Int), advT l) from by rw [hv1.out, if_neg (by simp [hw0])])
   have hA2 := hide (fun W => hA.out true 10 W)
   simp only [if_true] at hA2
   clear hv1 hw0
   go_upto_region 4 with (go_at_call 47; refine (hA2.out _).mono ?_; rintro e w6 ⟨rfl, hb6⟩)
   have kk := bcell' hb6
   replace x0 := (kk.1 _ 0 hl3).trans x0
   replace x1 := (kk.1 _ 1 hl3).trans x1
   replace x2 := (kk.1 _ 2 hl3).trans x2
   replace x3 := (kk.1 _ 3 hl3).trans x3
   replace x4 := (kk.1 _ 4 hl3).trans x4
   replace x5 := (kk.1 _ 5 hl3).trans x5
   replace u0 := (kk.1 _ 0 hlw).trans u0
   replace u1 := (kk.1 _ 1 hlw).trans u1
   replace u2 := (kk.1 _ 2 hlw).trans u2
   replace u3 := (kk.1 _ 3 hlw).trans u3
   replace u4 := (kk.1 _ 4 hlw).trans u4
   replace u5 := (kk.1 _ 5 hlw).trans u5
   replace g0 := (kk.2 _ 0 hlw).trans g0
   replace g1 := (kk.2 _ 1 hlw).trans g1
   replace g2 := (kk.2 _ 2 hlw).trans g2
   replace g3 := (kk.2 _ 3 hlw).trans g3
   replace g4 := (kk.2 _ 4 hlw).trans g4
   replace g5 := (kk.2 _ 5 hlw).trans g5
   replace hG3w := hide (hG3w.out.trans (Grg.of hb6))
   replace hR3 := hide (hR3.out.below hb6 hR3.out.lt)
   replace hlw := Nat.lt_of_lt_of_le hlw (hb6).size
   replace hl3 := Nat.lt_of_lt_of_le hl3 (hb6).size
   clear kk hb6
   by_cases hn : m < 1 ∨ 511 < m
   ·have hv3 := hide (show RES = .error (5, pl) from by rw [hv2.out, if_pos hn])
    have hA3 := hide (fun W => hA.out false 5 W)
    simp only [Bool.false_eq_true, if_false] at hA3
    clear hv2
    by_cases h0 : hi = 0
    ·have e0 : (hi == 0) = true := by rw [beq_iff_eq]; exact h0
     by_cases h1 : (1 : Int) ≤ lo
     ·have h2 : ¬ lo ≤ 511 := by omega
      have d1 : decide ((1 : Int) ≤ lo) = true := decide_eq_true h1
      have d2 : decide (lo ≤ (511 : Int)) = false := decide_eq_false h2
      clear hhi hlo hn h0
      go_wp2_with (go_at_call 47; refine (hA3.out _).mono ?_; rintro e w7 ⟨rfl, hb7⟩)
      exact ⟨rfl, hQ2.out _ _ (hG3w.out.trans (Grg.of hb7)) hv3.out⟩
     ·have d1 : decide ((1 : Int) ≤ lo) = false := decide_eq_false h1
      clear hhi hlo hn h0
      go_wp2_with (go_at_call 47; refine (hA3.out _).mono ?_; rintro e w7 ⟨rfl, hb7⟩)
      exact ⟨rfl, hQ2.out _ _ (hG3w.out.trans (Grg.of hb7)) hv3.out⟩
    ·have e0 : (hi == 0) = false := beq_eq_false_iff_ne.2 h0
     clear hhi hlo hn
     go_wp2_with (go_at_call 47; refine (hA3.out _).mono ?_; rintro e w7 ⟨rfl, hb7⟩)
     exact ⟨rfl, hQ2.out _ _ (hG3w.out.trans (Grg.of hb7)) hv3.out⟩
   ·have hv3 := hide (show RES = .ok ((m : Int), advT l) from by rw [hv2.out, if_neg hn])
    have hA3 := hide (fun W => hA.out true 5 W)
    simp only [if_true] at hA3
    have h0 : hi = 0 := by omega
    have h1 : lo = (m : Int) := by omega
    have e0 : (hi == 0) = true := by rw [beq_iff_eq]; exact h0
    have d1 : decide ((1 : Int) ≤ lo) = true := decide_eq_true (by omega)
    have d2 : decide (lo ≤ (511 : Int)) = true := decide_eq_true (by omega)
    have d3 : (1 : Int) ≤ lo := by omega
    have d4 : lo ≤ (511 : Int) := by omega
    have hwr : IntKind.i64.wrap lo = lo := IntWalk.i64_in _ (by omega)
    rw [← h1] at hQ1
    replace h0 := hide h0
    replace h1 := hide h1
    clear hv2 hhi hlo hn
    go_upto_region 5 with (go_at_call 47; refine (hA3.out _).mono ?_; rintro e w7 ⟨rfl, hb7⟩)
    have kk := bcell' hb7
    replace x0 := (kk.1 _ 0 hl3).trans x0
    replace x1 := (kk.1 _ 1 hl3).trans x1
    replace x2 := (kk.1 _ 2 hl3).trans x2
    replace x3 := (kk.1 _ 3 hl3).trans x3
    replace x4 := (kk.1 _ 4 hl3).trans x4
    replace x5 := (kk.1 _ 5 hl3).trans x5
    replace u0 := (kk.1 _ 0 hlw).trans u0
    replace u1 := (kk.1 _ 1 hlw).trans u1
    replace u2 := (kk.1 _ 2 hlw).trans u2
    replace u3 := (kk.1 _ 3 hlw).trans u3
    replace u4 := (kk.1 _ 4 hlw).trans u4
    replace u5 := (kk.1 _ 5 hlw).trans u5
    replace g0 := (kk.2 _ 0 hlw).trans g0
    replace g1 := (kk.2 _ 1 hlw).trans g1
    replace g2 := (kk.2 _ 2 hlw).trans g2
    replace g3 := (kk.2 _ 3 hlw).trans g3
    replace g4 := (kk.2 _ 4 hlw).trans g4
    replace g5 := (kk.2 _ 5 hlw).trans g5
    replace hG3w := hide (hG3w.out.trans (Grg.of hb7))
    replace hR3 := hide (hR3.out.below hb7 hR3.out.lt)
    replace hlw := Nat.lt_of_lt_of_le hlw (hb7).size
    replace hl3 := Nat.lt_of_lt_of_le hl3 (hb7).size
    clear kk hb7
    go_wp2_with fail
    go_region
    go_wp2
    obtain ⟨q1, q2⟩ := set6 (r := w.heap.size) hG3w.out hR3.out (Nat.le_refl _) lt (.int .u8 (k : Int)) (.string S) (.int .i64 (wd : Int)) (.int .u64 hi) (.int .u64 lo) (.int .i64 (pl : Int))
    have q3 := hide (hQ1.out _ q1.drew q2.drew (by rw [h1.out]; exact hv3.out))
    refine bodyPost_ret (v := .tuple #[.agg #[.int .u8 (k : Int), .string S, .int .i64 (wd : Int), .int .u64 hi, .int .u64 lo, .int .i64 (pl : Int)], .int .i64 lo]) ?_ rfl ?_
    ·simp [results, Tryz.results74, go_sem, u0, u1, u2, u3, u4, u5]
    ·exact q3.out
  ·have ew : ((wd : Int) == 0) = false := by rw [beq_eq_false_iff_ne]; omega
   have hv2 := hide (show RES = .error (10, pl) from by rw [hv1.out, if_pos hw0])
   have hA2 := hide (fun W => hA.out false 10 W)
   simp only [Bool.false_eq_true, if_false] at hA2
   clear hv1 hw0
   go_wp2_with (go_at_call 47; refine (hA2.out _).mono ?_; rintro e w6 ⟨rfl, hb6⟩)
   exact ⟨rfl, hQ2.out _ _ (hG3w.out.trans (Grg.of hb6)) hv2.out⟩
 ·have ek : ((k : Int) == 2) = false := by rw [beq_eq_false_iff_ne]; omega
  have hv1 := hide (show RES = .error (4, pl) from by rw [hv.out, if_pos hk])
  have hA1 := hide (fun W => hA.out false 4 W)
  simp only [Bool.false_eq_true, if_false] at hA1
  clear hv hk
  go_wp2_with (go_at_call 47; refine (hA1.out _).mono ?_; rintro e w5 ⟨rfl, hb5⟩)
  exact ⟨rfl, hQ2.out _ _ (hG3w.out.trans (Grg.of hb5)) hv1.out⟩
end Go.Proofs.YtbjokgnnklcbcaaGreatDoor
/-! Plain: which networks may be (the part of DnK that speaks of them). -/
namespace Go.Proofs.YtbjokgnnklcbcaaGreatDoor
abbrev Lnk := (Int × Int) × (Int × Int)
theorem getD_eq {α : Type} {l : List α} {i : Nat} {d : α} (h : i < l.length) : l.getD i d = l[i] := by simp [List.getD_eq_getElem?_getD, h]
theorem distinct_nodup {α : Type} {es : List α} : (∀ i (hi : i < es.length), es[i] ∉ es.take i) ↔ es.Nodup := by
 rw [List.nodup_iff_pairwise_ne, List.pairwise_iff_getElem]
 constructor
 ·intro h i j hi hj hij e
  exact h j hj (by rw [← e]; exact List.mem_take_iff_getElem.2 ⟨i, by omega, rfl⟩)
 ·intro h i hi hm
  obtain ⟨j, hj, e⟩ := List.mem_take_iff_getElem.1 hm
  exact h j i (by omega) hi (by omega) e
theorem mayB_iff {n : Net} : mayB n = true ↔ (n.sw.length ≤ 8 ∧ n.ports.length = n.sw.length) ∧ (∀ i, i < n.sw.length → swOk n i) ∧ (∀ e ∈ endsOf n.links, thereB n e = true) ∧ (endsOf n.links).Nodup := by
 have key : (∀ i, i < (endsOf n.links).length → endOk n (endsOf n.links) i) ↔ (∀ e ∈ endsOf n.links, thereB n e = true) ∧ (endsOf n.links).Nodup := by
  rw [← distinct_nodup]
  constructor
  ·intro h
   refine ⟨fun e he => ?_, fun i hi => ?_⟩
   ·obtain ⟨i, hi, rfl⟩ := List.getElem_of_mem he
    have := (h i hi).1
    rwa [getD_eq hi] at this
   ·have := (h i hi).2
    rwa [getD_eq hi] at this
  ·rintro ⟨h1, h2⟩ i hi
   exact ⟨by rw [getD_eq hi]; exact h1 _ (List.getElem_mem _), by rw [getD_eq hi]; exact h2 i hi⟩
 rw [← key]
 unfold mayB
 rw [Bool.and_eq_true, Bool.and_eq_true, decide_eq_true_eq, decide_eq_true_eq, decide_eq_true_eq, and_assoc]
theorem ends_at {ls : List Lnk} {j : Nat} (hj : j < ls.length) : (endsOf ls)[2 * j]? = some ls[j].1 ∧ (endsOf ls)[2 * j + 1]? = some ls[j].2 := by
 induction ls generalizing j with
 | nil => simp at hj
 | cons x ls ih =>
  cases j with
  | zero => simp [endsOf]
  | succ j =>
   have := ih (j := j) (by simpa using hj)
   have e1 : 2 * (j + 1) = 2 * j + 2 := by omega
   simp only [endsOf, List.flatMap_cons, List.cons_append, List.nil_append] at this ⊢
   rw [e1]
   simpa using this
theorem one_link {ls : List Lnk} (h : (endsOf ls).Nodup) {e : Int × Int} {i j : Nat} (hi : i < ls.length) (hj : j < ls.length) (h1 : ls[i].1 = e ∨ ls[i].2 = e) (h2 : ls[j].1 = e ∨ ls[j].2 = e) : i = j := by
 have key : ∀ {k : Nat} (hk : k < ls.length), ls[k].1 = e ∨ ls[k].2 = e → ∃ a, (a = 2 * k ∨ a = 2 * k + 1) ∧ (endsOf ls)[a]? = some e := fun hk hh => by
  obtain ⟨x, y⟩ := ends_at hk
  rcases hh with hh | hh
  ·exact ⟨_, .inl rfl, by rw [x, hh]⟩
  ·exact ⟨_, .inr rfl, by rw [y, hh]⟩
 obtain ⟨a, ha, ea⟩ := key hi h1
 obtain ⟨b, hb, eb⟩ := key hj h2
 obtain ⟨la, ga⟩ := List.getElem?_eq_some_iff.1 ea
 obtain ⟨lb, gb⟩ := List.getElem?_eq_some_iff.1 eb
 rw [List.nodup_iff_pairwise_ne, List.pairwise_iff_getElem] at h
 rcases Nat.lt_trichotomy a b with hab | hab | hab
 ·exact absurd (ga.trans gb.symm) (h a b la lb hab)
 ·omega
 ·exact absurd (gb.trans ga.symm) (h b a lb la hab)
theorem mem_ends {ls : List Lnk} {e : Int × Int} : e ∈ endsOf ls ↔ ∃ x ∈ ls, x.1 = e ∨ x.2 = e := by
 simp only [endsOf, List.mem_flatMap, List.mem_cons, List.not_mem_nil, or_false]
 constructor
 ·rintro ⟨x, hx, h⟩; exact ⟨x, hx, h.imp Eq.symm Eq.symm⟩
 ·rintro ⟨x, hx, h⟩; exact ⟨x, hx, h.imp Eq.symm Eq.symm⟩
theorem ports_iff {l : List Int} : portsTo l l.length ↔ (∀ x ∈ l, 1 ≤ x ∧ x ≤ 511) ∧ l.Pairwise (· < ·) := by
 constructor
 ·intro h
  refine ⟨fun x hx => ?_, ?_⟩
  ·obtain ⟨i, hi, rfl⟩ := List.getElem_of_mem hx
   have := h i hi
   unfold portAt at this
   rw [getD_eq hi] at this
   exact ⟨this.1, this.2.1⟩
  ·rw [List.pairwise_iff_getElem]
   intro i j hi hj hij
   have step : ∀ d (hd : i + d + 1 < l.length), l[i] < l[i + d + 1] := fun d => by
    induction d with
    | zero =>
     intro hd
     have := h (i + 1) hd
     unfold portAt at this
     rw [getD_eq hd, show i + 1 - 1 = i by omega, getD_eq hi] at this
     exact this.2.2 (by omega)
    | succ d ih =>
     intro hd
     have h1 := ih (by omega)
     have := h (i + (d + 1) + 1) hd
     unfold portAt at this
     rw [getD_eq hd, show i + (d + 1) + 1 - 1 = i + d + 1 by omega, getD_eq (show i + d + 1 < l.length by omega)] at this
     have := this.2.2 (by omega)
     omega
   have := step (j - i - 1) (by omega)
   simpa [show i + (j - i - 1) + 1 = j by omega] using this
 ·rintro ⟨h1, h2⟩ i hi
  rw [List.pairwise_iff_getElem] at h2
  unfold portAt
  rw [getD_eq hi]
  have := h1 _ (List.getElem_mem hi)
  refine ⟨this.1, this.2, fun h0 => ?_⟩
  rw [getD_eq (show i - 1 < l.length by omega)]
  exact h2 (i - 1) i (by omega) hi (by omega)
theorem nextL_some {ls : List Lnk} {e : Int × Int} : (nextL ls e).isSome = true ↔ ∃ x ∈ ls, x.1 = e ∨ x.2 = e := by
 induction ls with
 | nil => simp [nextL]
 | cons y ls ih =>
  simp only [nextL, List.mem_cons]
  by_cases h1 : y.1 = e
  ·simp only [if_pos h1, Option.isSome_some, true_iff]; exact ⟨y, .inl rfl, .inl h1⟩
  ·by_cases h2 : y.2 = e
   ·simp only [if_neg h1, if_pos h2, Option.isSome_some, true_iff]; exact ⟨y, .inl rfl, .inr h2⟩
   ·simp only [if_neg h1, if_neg h2, ih]
    constructor
    ·rintro ⟨x, hx, hh⟩; exact ⟨x, .inr hx, hh⟩
    ·rintro ⟨x, rfl | hx, hh⟩
     ·rcases hh with hh | hh
      ·exact absurd hh h1
      ·exact absurd hh h2
     ·exact ⟨x, hx, hh⟩
end Go.Proofs.YtbjokgnnklcbcaaGreatDoor

import Derived.Test.YtjijggighppjbaaDnW
namespace Go.Proofs.Ytjijggighppjbaa
open Go.RowKit
attribute [local go_sem ↓] app_eq
def lastI (s : List Int) : Int := match s.getLast? with
  | none => 0
  | some y => y + 1
def extL (n : Int) (s : List Int) : List (List Int) := (List.range (n - lastI s).toNat).map fun j => s ++ [lastI s + (j : Nat)]
def withF (n : Int) (l : List (List Int)) : List (List Int) := l.flatMap (extL n)
theorem withF_succ {n : Int} {l : List (List Int)} {k : Nat} (hk : k < l.length) : withF n (l.take (k + 1)) = withF n (l.take k) ++ extL n l[k] := by
  unfold withF; rw [List.take_succ_eq_append_getElem hk, List.flatMap_append]; simp
theorem extL_len (n : Int) (s : List Int) : (extL n s).length = (n - lastI s).toNat := by simp [extL]
theorem extL_take {n : Int} {s : List Int} {j : Nat} (hj : j < (n - lastI s).toNat) : (extL n s).take (j + 1) = (extL n s).take j ++ [s ++ [lastI s + (j : Nat)]] := by
  rw [List.take_succ_eq_append_getElem (by rw [extL_len]; exact hj)]; simp [extL]
theorem lastI_eq {s : List Int} (h : 0 < s.length) : lastI s = s[s.length - 1] + 1 := by
  unfold lastI; rw [List.getLast?_eq_getElem?, List.getElem?_eq_getElem (by omega)]
theorem lastI_bd {s : List Int} (h : ∀ y ∈ s, 0 ≤ y ∧ y ≤ 32) : 0 ≤ lastI s ∧ lastI s ≤ 33 := by
  unfold lastI
  cases e : s.getLast? with
  | none => simp
  | some y => have := h y (List.mem_of_getLast? e); simp only; omega
theorem own_new0 {w : World} {e : TypeId} : (w.alloc (.cells #[] e)).ownsRow w.heap.size e 1 (.slice (some ⟨w.heap.size, 0, none⟩) 0 0) 0 [] :=
  ⟨rfl, .inr ⟨w.heap.size, 0, #[], rfl, Nat.le_refl _, heap_alloc_new w _, Nat.le_refl _, by decide, rfl, rfl⟩⟩
/-- append of a slice of ints that reads, onto a row of the call's own. -/
theorem append_sl {W : World} {base n B : Nat} {v : Value} {A : Option Addr} {c : Nat} {xs ys : List Int} (hd : W.ownsRow base 3 1 v n (xs.map (Value.int .i64))) (hs : Sl 1 rInt W B A ys) (hb : base ≤ W.heap.size) (hz : n + ys.length ≤ 100000) :
    ∃ v' w', (AppG #[27, 27] 27 #[v, .slice A ys.length c]).run Try.prog W = .ok v' w' ∧ w'.ownsRow base 3 1 v' (n + ys.length) ((xs ++ ys).map (Value.int .i64)) ∧ W.grownBy w' v.ownBlock := by
  obtain ⟨ii, hii, hzi0, hzi1, hzi2⟩ := info_parts int_info
  rcases A with _ | ad
  · have hy : ys = [] := hs.zero rfl
    subst hy
    refine ⟨v, W, ?_, by simpa using hd, ⟨rfl, rfl, rfl, Nat.le_refl _, fun _ _ _ => rfl⟩⟩
    unfold AppG
    rcases hd.2 with ⟨rfl, rfl⟩ | ⟨g, cap, cur, rfl, _, _, hnc, _⟩
    · simp [Builtin.append_, run_underlying Try.underlying27, sizeOf, typeInfo, hii, Builtin.lenOf, Builtin.firstCells]
    · simp [Builtin.append_, run_underlying Try.underlying27, sizeOf, typeInfo, hii, Builtin.lenOf, Builtin.firstCells, hnc, storeCells]
  · obtain ⟨v', w', hrun, h2, h3, _, _⟩ := run_append_own_at (P := Try.prog) W base 27 27 3 ii (.int .i64 0) 1 8 Try.underlying27 hii hzi0 hzi1 hzi2 rfl (by omega) v n _ hd ad ys.length c (ys.map (Value.int .i64)) (by simp)
      (fun j u hu => by
        rw [List.getElem?_map] at hu
        have hj : j < ys.length := by
          rcases Nat.lt_or_ge j ys.length with h | h
          · exact h
          · rw [List.getElem?_eq_none h] at hu; cases hu
        rw [List.getElem?_eq_getElem hj] at hu
        simp at hu
        subst hu
        obtain ⟨b, o, e1, _, hc⟩ := hs.int hj
        injection e1 with e1
        subst e1
        have e : (⟨b, o, none⟩ : Addr).add j = ⟨b, o + j, none⟩ := by unfold Addr.add; split <;> simp_all
        rw [e]; exact hc) (ints_one ys) (by simp [maxLen]; omega) (by omega) hb
    exact ⟨v', w', hrun, by simpa using h2, h3⟩
theorem append_one {W : World} {base n : Nat} {v : Value} {xs : List Int} (x : Int) (hd : W.ownsRow base 3 1 v n (xs.map (Value.int .i64))) (hb : base ≤ W.heap.size) (hz : n ≤ 100000) :
    ∃ v' w', (AppG #[27, 27] 27 #[v, .slice (some ⟨W.heap.size, 0, none⟩) 1 1]).run Try.prog (W.alloc (.cells #[.int .i64 x] 3)) = .ok v' w' ∧ w'.ownsRow base 3 1 v' (n + 1) ((xs ++ [x]).map (Value.int .i64)) ∧ (W.alloc (.cells #[.int .i64 x] 3)).grownBy w' v.ownBlock := by
  obtain ⟨ii, hii, hzi0, hzi1, hzi2⟩ := info_parts int_info
  obtain ⟨v', w', hrun, h2, h3, _, _⟩ := run_append_own_at (P := Try.prog) (W.alloc (.cells #[.int .i64 x] 3)) base 27 27 3 ii (.int .i64 0) 1 8 Try.underlying27 hii hzi0 hzi1 hzi2 rfl (by omega) v n _ (hd.alloc _) ⟨W.heap.size, 0, none⟩ 1 1 [.int .i64 x] rfl (World.news_of_block (cs := #[.int .i64 x]) (t := 3) (fr := (0, 0)) (heap_alloc_new W _)) (by simp [Value.oneCell']) (by simp [maxLen]; omega) (by omega) (by simp; omega)
  exact ⟨v', w', hrun, by simpa using h2, h3⟩
theorem append_row {W : World} {base n : Nat} {v u : Value} {vs : List Value} (hu : ∀ x ∈ [u], x.oneCell' = true) (hd : W.ownsRow base 27 1 v n vs) (hb : base ≤ W.heap.size) (hz : n ≤ 100000) :
    ∃ v' w', (AppG #[23, 23] 23 #[v, .slice (some ⟨W.heap.size, 0, none⟩) 1 1]).run Try.prog (W.alloc (.cells #[u] 27)) = .ok v' w' ∧ w'.ownsRow base 27 1 v' (n + 1) (vs ++ [u]) ∧ (W.alloc (.cells #[u] 27)).grownBy w' v.ownBlock := by
  obtain ⟨ir, hir, hzr0, hzr1, hzr2⟩ := info_parts introw_info
  obtain ⟨v', w', hrun, h2, h3, _, _⟩ := run_append_own_at (P := Try.prog) (W.alloc (.cells #[u] 27)) base 23 23 27 ir (.slice none 0 0) 1 24 Try.underlying23 hir hzr0 hzr1 hzr2 rfl (by omega) v n _ (hd.alloc _) ⟨W.heap.size, 0, none⟩ 1 1 [u] rfl (World.news_of_block (cs := #[u]) (t := 27) (fr := (0, 0)) (heap_alloc_new W _)) hu (by simp [maxLen]; omega) (by omega) (by simp; omega)
  exact ⟨v', w', hrun, h2, h3⟩
theorem below_own_grown {W w' : World} {B base : Nat} {e : TypeId} {size n : Nat} {v : Value} {xs : List Value} (ho : W.ownsRow base e size v n xs) (hg : W.grownBy w' v.ownBlock) (hB : B ≤ base) (hW : B ≤ W.heap.size) : Below B W w' :=
  (Below.refl _ _).grown hg hW (fun g e => Nat.le_trans hB (ho.lt g e).1)
/-- One more row at the end. -/
theorem RowsS.push {w' : World} {base n : Nat} {v' u : Value} {xs : List (List Int)} {x : List Int} {vs : List Value} (h1 : vs.length = xs.length) (h3 : ∀ (i : Nat) (u : Value) (x : List Int), vs[i]? = some u → xs[i]? = some x → rowR x u w')
    (ho : w'.ownsRow base 27 1 v' (n + 1) (vs ++ [u])) (hn : n = xs.length) (hu : rowR x u w') : RowsS w' base v' (xs ++ [x]) := by
  subst hn
  refine ⟨vs ++ [u], by simp [h1], by simpa using ho, fun i u' x' hu' hx' => ?_⟩
  by_cases hi : i < xs.length
  · rw [List.getElem?_append_left (by omega)] at hu' hx'
    exact h3 i u' x' hu' hx'
  · have hik : i = xs.length := by
      have := (List.getElem?_eq_some_iff.1 hx').1
      simp at this; omega
    subst hik
    rw [List.getElem?_append_right (by omega)] at hu'
    rw [List.getElem?_append_right (by omega)] at hx'
    simp [h1] at hu' hx'
    subst hu' hx'
    exact hu
theorem row_kept {W w' : World} {base : Nat} {e : TypeId} {n : Nat} {v : Value} {vs : List Value} {x : List Int} {u : Value} (h : rowR x u W) (ho : W.ownsRow base e 1 v n vs) (hne : e ≠ 3) (hg : W.grownBy w' v.ownBlock) : rowR x u w' := by
  refine World.ownsRow.kept h hg ?_
  rcases own_ne_own ho h hne with h3 | h3
  · exact .inl h3
  · exact .inr h3
set_option maxRecDepth 100000 in
set_option maxHeartbeats 4000000 in
theorem with_any (n : Int) (L : Option Addr) (lc : Nat) (l : List (List Int)) (w : World) (h : Sl 1 (rSl 1 rInt) w w.heap.size L l) (hn : n ≤ 32) (hs : ∀ s ∈ l, s.length ≤ 8 ∧ ∀ y ∈ s, 0 ≤ y ∧ y ≤ 32) (hz : ∀ k, (withF n (l.take k)).length ≤ 90000) :
    Calls Try.prog 30 #[.int .i64 n, .slice L l.length lc] w fun e w' => ∃ v, e = .returned v ∧ RowsS w' w.heap.size v (withF n l) ∧ Below w.heap.size w w' := by
  have hl := h.len
  replace h := hide h
  replace hs := hide hs
  replace hz := hide hz
  go_enter Try.func30, Try.ntmps30
  go_wp2
  go_loopw [5, 6] (fun v i wr => ∃ k : Nat, k ≤ l.length ∧ i = .int .i64 k ∧ Hid (RowsS wr w.heap.size v (withF n (l.take k))) ∧ Hid (Below w.heap.size w wr)) (fun _ i _ => l.length - (intOf i).toNat)
  case atStart => exact ⟨0, Nat.zero_le _, rfl, hide ⟨[], rfl, World.ownsRow_nil _ _ _ _, fun i u x hu => by simp at hu⟩, hide (Below.refl _ _)⟩
  case round =>
    obtain ⟨k, hk, rfl, hR, hbr⟩ := hrel
    by_cases hlt : k < l.length
    · obtain ⟨b, o, A, c, rfl, hb, hcell0, hrow0⟩ := h.out.ints hlt
      obtain ⟨hs8, hsy⟩ := hs.out l[k] (List.getElem_mem _)
      have hsucc := hide (withF_succ (n := n) hlt)
      have hzk := hz.out (k + 1)
      rw [hsucc.out, List.length_append] at hzk
      generalize l[k] = s at hcell0 hrow0 hs8 hsy hsucc hzk
      have hcell := (hbr.out.cell (p := ⟨b, o + k, none⟩) hb).trans hcell0
      have hrow := hrow0.below sta_int hbr.out
      have hlk := hide (extL_len n s)
      have hrl := hbr.out.size
      have hlti : (k : Int) < (l.length : Int) := by omega
      have hlow := hide (lastI_bd hsy)
      replace hrow0 := hide hrow0
      rcases Nat.eq_zero_or_pos s.length with h0 | h0
      case' inl =>
        have hla := hide (show lastI s = ((0 : Nat) : Int) from by rw [List.eq_nil_of_length_eq_zero h0]; rfl)
        have hl0 : ¬ 0 < s.length := by omega
        replace h0 := hide h0
        clear hrow
        go_wp2_with fail
        obtain ⟨wB, rfl⟩ : ∃ wB : World, wB = wr := ⟨_, rfl⟩
      case' inr =>
        obtain ⟨b2, o2, e2, hb2, hc2⟩ := hrow.int (i := s.length - 1) (by omega)
        subst e2
        have hla := hide (lastI_eq h0)
        have hly : 0 ≤ s[s.length - 1] ∧ s[s.length - 1] ≤ 32 := hsy _ (List.getElem_mem _)
        obtain ⟨hly1, hly2⟩ := hly
        generalize s[s.length - 1] = y at hc2 hla hly1 hly2
        have hi1 : (0 : Int) ≤ (s.length : Int) - 1 := by omega
        have hi2 : (s.length : Int) - 1 < (s.length : Int) := by omega
        have hn1 : ((s.length : Int) - 1).toNat = s.length - 1 := by omega
        clear hrow
        go_wp2_with fail
        go_quiet (fail)
        go_wp2
        replace hR := hide (show RowsS (wr.drewN nq) _ _ _ from hR.out)
        replace hbr := hide (below_drewN hbr.out nq)
        replace hrl := hbr.out.size
        clear hcell hc2 hi1 hi2 hn1
        generalize wr.drewN nq = wB at hR hbr hrl ⊢
      all_goals
        go_loopw [5, 8] (fun v x wr' => ∃ j : Nat, j ≤ (n - lastI s).toNat ∧ x = .int .i64 (lastI s + (j : Nat)) ∧ Hid (RowsS wr' w.heap.size v (withF n (l.take k) ++ (extL n s).take j)) ∧ Hid (Below w.heap.size w wr')) (fun _ x _ => (n - intOf x).toNat)
        case atStart => exact ⟨0, Nat.zero_le _, by rw [hla.out]; simp, hide (by rw [List.take_zero, List.append_nil]; exact hR.out), hbr⟩
        case round =>
          clear hR hbr hrl
          obtain ⟨j, hj, rfl, hR, hbr⟩ := hrel
          have hlb := hlow.out
          obtain ⟨hl0, hl33⟩ := hlb
          by_cases hlt2 : j < (n - lastI s).toNat
          · have hext := hide (extL_take hlt2)
            have hxn : lastI s + (j : Int) < n := by omega
            have hx0 : 0 ≤ lastI s + (j : Int) := by omega
            have hx33 : lastI s + (j : Int) ≤ 33 := by omega
            have hrl := hbr.out.size
            obtain ⟨vs, hv1, hv2, hv3⟩ := hR.out
            have hcl := (hbr.out.cell (p := ⟨b, o + k, none⟩) hb).trans hcell0
            have hro := (hrow0.out.below sta_int hbr.out).alloc sta_int hrl (.cells #[] 3)
            have hlr : (withF n (l.take k) ++ (extL n s).take j).length ≤ 90000 := by
              rw [List.length_append, List.length_take]; omega
            generalize hP : withF n (l.take k) ++ (extL n s).take j = P at hR hv1 hv2 hv3 hlr
            replace hP := hide hP
            obtain ⟨v1, w1, hr1, ho1, hg1⟩ := append_sl (base := wr.heap.size) (n := 0) (xs := []) (c := c) own_new0 hro (by simp) (by omega)
            have hb1 : Below wr.heap.size wr w1 := ((Below.refl _ _).alloc (Nat.le_refl _) _).grown hg1 (by simp) (fun g e => by cases e; exact Nat.le_refl _)
            simp only [List.nil_append, Nat.zero_add] at ho1
            obtain ⟨v2, w2, hr2, ho2, hg2⟩ := append_one (lastI s + (j : Int)) ho1 hb1.size (by omega)
            have hb2 : Below wr.heap.size wr w2 := (hb1.alloc hb1.size _).grown hg2 (by have := hb1.size; simp; omega) (fun g e => (ho1.lt g e).1)
            obtain ⟨V2, vc2, rfl⟩ := own_form ho2
            have ho5 := own_below hv2 hb2 (Nat.le_refl _)
            obtain ⟨v3, w3, hr3, ho3, hg3⟩ := append_row (own_one ho2) ho5 (by have := hb2.size; omega) (by omega)
            have hb5 := below_own_grown (ho5.alloc (.cells #[.slice V2 (s.length + 1) vc2] 27)) hg3 (Nat.le_refl w.heap.size) (by have := hb2.size; simp; omega)
            have hbN := hide (hbr.out.trans ((hb2.mono hrl).trans (((Below.refl _ _).alloc (by have := hb2.size; omega) (.cells #[.slice V2 (s.length + 1) vc2] 27)).trans hb5)))
            have hRN := hide (RowsS.push (x := s ++ [lastI s + (j : Int)]) hv1 (fun i u x hu hx => row_kept ((own_below (hv3 i u x hu hx) hb2 (Nat.le_refl _)).alloc _) (ho5.alloc _) (by decide) hg3) ho3 rfl (by
              have hrw : rowR (s ++ [lastI s + (j : Int)]) (.slice V2 (s.length + 1) vc2) (w2.alloc (.cells #[.slice V2 (s.length + 1) vc2] 27)) := by
                unfold rowR
                rw [List.length_append]
                exact (own_mono ho2 (Nat.zero_le _)).alloc _
              exact row_kept hrw (ho5.alloc _) (by decide) hg3))
            have hbw : b < wr.heap.size := by omega
            clear hR hbr hv1 hv2 hv3 hlr hro ho1 hg1 hb1 ho2 hg2 hb2 ho5 ho3 hg3 hb5 hj
            go_wp2
            go_roundw
            case rel => exact ⟨j + 1, by omega, by go_num, hide (by rw [hext.out, ← List.append_assoc, hP.out]; exact hRN.out), hbN⟩
            case measure => simp [intOf]; omega
          · have hje : j = (n - lastI s).toNat := by omega
            have hxn : ¬ lastI s + (j : Int) < n := by omega
            have hRN := hide (show RowsS wr w.heap.size _ (withF n (l.take (k + 1))) from by
              have := hR.out
              rw [hje, ← hlk.out, List.take_length] at this
              rw [hsucc.out]; exact this)
            clear hR hje hj
            go_wp2
            go_roundw
            case rel => exact ⟨k + 1, by omega, by go_num, hRN, hbr⟩
            case measure => simp [intOf]; omega
    · have hR' := hide (show RowsS wr w.heap.size _ (withF n l) from by have := hR.out; rwa [List.take_of_length_le (by omega)] at this)
      go_wp2
      go_ret
      exact ⟨_, rfl, hR'.out, hbr.out⟩
end Go.Proofs.Ytjijggighppjbaa

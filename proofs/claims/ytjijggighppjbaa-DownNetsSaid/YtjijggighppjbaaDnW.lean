import Derived.Test.YtjijggighppjbaaDnV
import Derived.Maps.AppendAt
import Derived.RangeFuncBox
namespace Go.Proofs.Ytjijggighppjbaa
open Go.RowKit Go.Shelf
attribute [local go_sem] Oper.semAt_some
theorem Kp.setCell {ex : TypeId → Bool} {W : World} {k i : Nat} {cs : Array Value} {t : TypeId} {fr : Nat × Nat} (hb : W.heap[k]? = some (.cells cs t fr)) (hex : ex t = true) (u : Value) : Kp ex W (W.setCell ⟨k, i, none⟩ u) :=
  Kp.of_grown (g := k) ⟨rfl, rfl, rfl, by simp [World.setCell], fun j _ hne => Below.heap_setCell W ⟨k, i, none⟩ u j (fun e => hne (by rw [e]))⟩ hb hex
theorem Kp.of_own {ex : TypeId → Bool} {W w' : World} {base : Nat} {e : TypeId} {size n : Nat} {v : Value} {xs : List Value} (ho : W.ownsRow base e size v n xs) (hex : ex e = true) (hg : W.grownBy w' v.ownBlock) : Kp ex W w' := by
  rcases ho.2 with ⟨rfl, _⟩ | ⟨g, cap, cur, rfl, _, hh, _⟩
  · exact ⟨hg.os, hg.tape, hg.output, hg.size, fun k o hk _ => (hg.block k (Array.getElem?_eq_some_iff.1 hk).1 (by simp [Value.ownBlock])).trans hk⟩
  · exact Kp.of_grown hg hh hex
/-- A slice of rows of ints, new. -/
def RowsS (w : World) (base : Nat) (v : Value) (xs : List (List Int)) : Prop :=
  ∃ vs : List Value, vs.length = xs.length ∧ w.ownsRow base 27 1 v xs.length vs ∧ ∀ (i : Nat) (u : Value) (x : List Int), vs[i]? = some u → xs[i]? = some x → rowR x u w
theorem RowsS.sl {w : World} {base : Nat} {v : Value} {xs : List (List Int)} (h : RowsS w base v xs) : ∃ A cap, v = .slice A xs.length cap ∧ Sl 1 (rSl 1 rInt) w w.heap.size A xs := by
  obtain ⟨vs, h1, h2, h3⟩ := h
  exact own_rows h1 (own_mono h2 (Nat.zero_le _)) (fun i u p hu hp => h3 i u p hu hp)
def SeqI (w : World) (B : Nat) (xs : List (List Int)) (k : Nat) (W : World) : Prop :=
  (∃ v, Boxed W B 23 v ∧ ∃ vs : List Value, vs.length = k ∧ W.ownsRow w.heap.size 27 1 v k vs ∧ ∀ (i : Nat) (u : Value) (x : List Int), vs[i]? = some u → xs[i]? = some x → rowR x u W) ∧ Below w.heap.size w W
theorem seqI_own (w : World) (B B' : Nat) (xs : List (List Int)) (hB' : w.heap.size ≤ B') : OwnFrom B' (SeqI w B xs) := by
  refine OwnFrom.and (I := fun k W => ∃ v, Boxed W B 23 v ∧ ∃ vs : List Value, vs.length = k ∧ W.ownsRow w.heap.size 27 1 v k vs ∧ ∀ (i : Nat) (u : Value) (x : List Int), vs[i]? = some u → xs[i]? = some x → rowR x u W) (Own.from ?_ _) (ownFrom_below (Nat.le_refl _) hB')
  rintro k X Y row ⟨v, hv, vs, h1, h2, h3⟩ hg hr
  exact ⟨v, boxed_own B 23 (fun _ : Unit => v) () X Y row hv hg hr, vs, h1, own_rowFrom (β := Unit) _ _ _ _ _ _ () X Y row h2 hg hr, fun i u x hu hx => own_rowFrom (β := Unit) _ _ _ _ _ _ () X Y row (h3 i u x hu hx) hg hr⟩
theorem rows_info : (Try.prog.info? 27).map (fun i => (i.zero, i.size, i.bytes)) = some (some (.slice none 0 0), 1, 24) := introw_info
set_option maxRecDepth 100000 in
set_option maxHeartbeats 2000000 in
theorem appendSeq_any (gf : Nat) (lb : Array Value) (eg : ∀ args w, (callFunc gf args).run Try.prog w = .ok (.enter gf args) w) (xs : List (List Int)) (hl : xs.length ≤ 100000) (w : World) (hseq : Gives Try.prog gf lb rowR exT xs w) :
    Calls Try.prog 40 #[.slice none 0 0, .func (.func gf) #[] lb] w fun e w' => ∃ v, e = .returned v ∧ RowsS w' w.heap.size v xs ∧ Below w.heap.size w w' := by
  obtain ⟨ir, hir, hzr0, hzr1, hzr2⟩ := info_parts introw_info
  refine (callsIn_wide (n := 3)).1 (callsIn_of_wp_marks Try.func40 rfl trivial ?_)
  simp only [Try.ntmps40, List.size_toArray, List.length_cons, List.length_nil, Nat.reduceAdd, Nat.reduceSub, Array.replicate_succ, Array.replicate_zero, List.push_toArray, List.append_toArray, List.nil_append, List.cons_append]
  gi_wp2
  obtain ⟨W1, hW1⟩ : ∃ W1, w.alloc (.cells #[.slice none 0 0] 23) = W1 := ⟨_, rfl⟩
  have hb1 : Below w.heap.size w W1 := by rw [← hW1]; exact (Below.refl _ _).alloc (Nat.le_refl _) _
  have hv1 : Boxed W1 w.heap.size 23 (.slice none 0 0) := by rw [← hW1]; exact Boxed.new w _ _
  have hz1 : w.heap.size + 1 ≤ W1.heap.size := by rw [← hW1]; simp
  rw [hW1]
  clear hW1
  refine wp_range (gf := gf) (lb := lb) rfl eg hseq hb1 rfl (fun x v => own_rowFrom 0 3 1 v x.length (x.map (Value.int .i64))) (SeqI w w.heap.size xs) (seqI_own w w.heap.size _ xs (by omega)) ⟨⟨_, hv1, [], rfl, World.ownsRow_nil _ _ _ _, fun i u x hu => by simp at hu⟩, hb1⟩
    (fun v => { tmps := #[.slice none 0 0, .func (.func gf) #[] lb, .pointer (some ⟨w.heap.size, 0, none⟩), undef, .slice none 0 0, v, .func (.func gf) #[] lb, v, undef, undef, undef, undef, undef], defers := [] }) ?hassign ?hbody ?hdone
  case hassign =>
    intro l' v W'' K' hK'
    gi_wp2
    exact hK'
  case hbody =>
    rintro l k x u W hl' hx ⟨⟨v, hv, vs, h1, h2, h3⟩, hbw⟩ hr
    have hkl : k < xs.length := (List.getElem?_eq_some_iff.1 hx).1
    have hv' := hv.cell
    obtain ⟨UA, uc, rfl⟩ := own_form hr
    have ho1 := own_one hr
    have hsz := hbw.size
    have hx' := hide hx
    have h1' := hide h1
    clear hx h1
    have hnr : v.ownBlock ≠ some w.heap.size := (hv.not_row (by decide) h2).symm
    gi_wp2_with (gi_at_builtin; refine wpListIn_append_own _ rfl _ _ 23 rfl w.heap.size 27 ir (.slice none 0 0) 1 24 Try.underlying23 hir hzr0 hzr1 hzr2 rfl (by decide) _ _ _ rfl (h2.alloc _) ⟨W.heap.size, 0, none⟩ 1 1 [.slice UA x.length uc] rfl rfl (cell_one_new _ _ _) ho1 (by simp [maxLen]; omega) (by omega) (by simp; omega) ?_; intro v' w1 hown' hgrow _; obtain ⟨g', cap', rfl⟩ := ownsRow_succ hown'; obtain ⟨hv1, hv2, hr2, hk2, hb2⟩ := hv.appended (by decide) h2 hsz (Nat.le_refl _) hown' hgrow; have hc1 := hv1.cell; have hf1 := hv1.frozen)
    have hkp : Kp exT W (w1.setCell ⟨w.heap.size, 0, none⟩ (.slice (some ⟨g', 0, none⟩) (k + 1) cap')) :=
      ((Kp.of_below exT ((Below.refl _ _).alloc (Nat.le_refl _) _)).trans (Kp.of_own (h2.alloc _) rfl hgrow)).trans (Kp.setCell hv1 rfl _)
    refine ⟨hkp, ⟨_, hv2, vs ++ [.slice UA x.length uc], by simp [h1'.out], hr2, fun i u' x' hu hx2 => ?_⟩, hbw.trans hb2⟩
    by_cases hi : i < k
    · rw [List.getElem?_append_left (by rw [h1'.out]; exact hi)] at hu
      exact hkp.own (h3 i u' x' hu hx2) rfl
    · have hik : i = k := by
        have := (List.getElem?_eq_some_iff.1 hu).1
        rw [List.length_append, h1'.out] at this
        simp at this; omega
      subst hik
      rw [List.getElem?_append_right (by rw [h1'.out]; exact Nat.le_refl _), h1'.out] at hu
      simp at hu
      subst hu
      have := hx'.out
      rw [hx2] at this
      injection this with this
      subst this
      exact hkp.own hr rfl
  case hdone =>
    rintro D W rfl ⟨⟨v, hv, vs, h1, h2, h3⟩, hbw⟩ hD hkD
    have hv' := hv.cell
    have h1' := hide h1
    clear h1
    dsimp only
    gi_wp2
    refine leaves_marks (B := w.heap.size) (fun X => RowsS X w.heap.size v xs ∧ Below w.heap.size w X) (OwnFrom.and (Own.from ?_ _) (ownFrom_below (Nat.le_refl _) (Nat.le_refl _))) ?_ [W1.heap.size] W ⟨by simp, fun D hD' => by simp at hD'; subst hD'; exact ⟨by omega, hD⟩⟩ ⟨⟨vs, h1'.out, h2, h3⟩, hbw⟩
    · rintro _ X Y row ⟨vs, h1, h2, h3⟩ hg hr
      exact ⟨vs, h1, own_rowFrom (β := Unit) _ _ _ _ _ _ () X Y row h2 hg hr, fun i u x hu hx => own_rowFrom (β := Unit) _ _ _ _ _ _ () X Y row (h3 i u x hu hx) hg hr⟩
    · exact fun X h => ⟨_, results_tmp rfl _ _ _, v, rfl, h⟩
set_option maxHeartbeats 1000000 in
theorem collect_any (gf : Nat) (lb : Array Value) (eg : ∀ args w, (callFunc gf args).run Try.prog w = .ok (.enter gf args) w) (xs : List (List Int)) (hl : xs.length ≤ 100000) (w : World) (hseq : Gives Try.prog gf lb rowR exT xs w) :
    Calls Try.prog 28 #[.func (.func gf) #[] lb] w fun e w' => ∃ v, e = .returned v ∧ RowsS w' w.heap.size v xs ∧ Below w.heap.size w w' := by
  have hc := hide (appendSeq_any gf lb eg xs hl w hseq)
  go_enter Try.func28, Try.ntmps28
  go_wp2_with (go_at_call 40; refine hc.out.mono ?_; rintro e w' ⟨v, rfl, hv, hb⟩)
  go_ret
  exact ⟨v, rfl, hv, hb⟩
/-- Clamped to 0 .. c. -/
def clamp (x : Int) (c : Nat) : Nat := (max 0 (min x c)).toNat
def dnSets (n k : Int) : List (List Int) := allPre (clamp n 32) (clamp k 3 + 1)
theorem clamp_le (x : Int) (c : Nat) : clamp x c ≤ c := by unfold clamp; omega
theorem clamp_int (x : Int) (c : Nat) : ((clamp x c : Nat) : Int) = max 0 (min x c) := by unfold clamp; omega
set_option maxHeartbeats 1000000 in
theorem sets10_any (n k : Int) (w : World) (hl : (dnSets n k).length ≤ 100000) :
    Calls Try.prog 10 #[.int .i64 n, .int .i64 k] w fun e w' => ∃ v, e = .returned v ∧ RowsS w' w.heap.size v (dnSets n k) ∧ Below w.heap.size w w' := by
  have hn := hide (clamp_int n 32)
  have hk := hide (clamp_int k 3)
  have ln := clamp_le n 32
  have lk := clamp_le k 3
  go_enter Try.func10, Try.ntmps10
  go_wp2_with fail
  refine (all_any _ _ _).mono ?_
  rintro e w1 ⟨rfl, rfl⟩
  have hb : Below w.heap.size w ((w.alloc (.cells #[.int .i64 (max 0 (min n 32))] 3)).alloc (.cells #[.int .i64 (max 0 (min k 3))] 3)) := ((Below.refl _ _).alloc (Nat.le_refl _) _).alloc (by simp) _
  have hseq := all_gives (clamp n 32) (clamp k 3) w.heap.size (w.heap.size + 1) ((w.alloc (.cells #[.int .i64 (max 0 (min n 32))] 3)).alloc (.cells #[.int .i64 (max 0 (min k 3))] 3))
    (by have := Boxed.new (w.alloc (.cells #[.int .i64 (max 0 (min n 32))] 3)) 3 (.int .i64 (max 0 (min k 3))); rw [hk.out]; simpa using this) (by rw [hn.out]; exact (Boxed.new w _ _).alloc _) ln lk
  replace hb := hide hb
  replace hseq := hide hseq
  go_wp2_with fail
  refine (collect_any _ _ (enters_of Try.func41 (by kernel_rfl) rfl) (dnSets n k) hl _ hseq.out).mono ?_
  rintro e w2 ⟨v, rfl, ⟨vs, h1, h2, h3⟩, hb2⟩
  replace h1 := hide h1
  go_wp2
  go_ret
  exact ⟨v, rfl, ⟨vs, h1.out, own_mono h2 hb.out.size, h3⟩, hb.out.trans (hb2.mono hb.out.size)⟩
end Go.Proofs.Ytjijggighppjbaa

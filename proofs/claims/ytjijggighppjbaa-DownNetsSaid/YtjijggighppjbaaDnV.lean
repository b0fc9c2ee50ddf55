import Derived.Test.YtjijggighppjbaaDnU
namespace Go.Proofs.Ytjijggighppjbaa
open Go.RowKit Go.Shelf
attribute [local go_sem] Oper.semAt_some
def allPre (n k : Nat) : List (List Int) := (List.range k).flatMap fun m => comb n m 0
theorem allPre_succ (n k : Nat) : allPre n (k + 1) = allPre n k ++ comb n k 0 := by
  unfold allPre; rw [List.range_succ, List.flatMap_append]; simp
theorem allPre_get {n k j : Nat} {x : List Int} : ∀ t, k < t → (comb n k 0)[j]? = some x → (allPre n t)[(allPre n k).length + j]? = some x
  | 0, h, _ => absurd h (Nat.not_lt_zero _)
  | t + 1, h, hx => by
    rw [allPre_succ]
    by_cases e : k = t
    · subst e
      rw [List.getElem?_append_right (by omega)]
      simpa using hx
    · have ih := allPre_get (n := n) t (by omega) hx
      rw [List.getElem?_append_left (List.getElem?_eq_some_iff.1 ih).1]
      exact ih
def muSlot (s n : Nat) (a : Act) (_ : World) : Nat := match a.tmps[s]? with
  | some (Value.int _ x) => ((n : Int) - x).toNat
  | _ => 0
set_option maxRecDepth 100000 in
set_option maxHeartbeats 2000000 in
theorem all_gives (n K bn bk : Nat) (w : World) (hk0 : Boxed w bk 3 (.int .i64 (K : Int))) (hn0 : Boxed w bn 3 (.int .i64 (n : Int))) (hn32 : n ≤ 32) (hK3 : K ≤ 3) :
    Gives Try.prog 41 #[.pointer (some ⟨bk, 0, none⟩), .pointer (some ⟨bn, 0, none⟩)] rowR exT (allPre n (K + 1)) w := by
  intro l J W hW hJ hY h0
  obtain ⟨W1, hW1⟩ : ∃ W1, W.alloc (.cells #[.func (.yield l) #[] #[]] 60) = W1 := ⟨_, rfl⟩
  have hb1 : Below W.heap.size W W1 := by rw [← hW1]; exact (Below.refl _ _).alloc (Nat.le_refl _) _
  have hy1 : Boxed W1 W.heap.size 60 (.func (.yield l) #[] #[]) := by rw [← hW1]; exact Boxed.new W _ _
  have hk1 : Boxed W1 bk 3 (.int .i64 (K : Int)) := (hb1.block bk (Nat.lt_of_lt_of_le hk0.lt hW.size)).trans ((hW.block bk hk0.lt).trans hk0)
  have hn1 : Boxed W1 bn 3 (.int .i64 (n : Int)) := (hb1.block bn (Nat.lt_of_lt_of_le hn0.lt hW.size)).trans ((hW.block bn hn0.lt).trans hn0)
  have hJ1 : J 0 W1 := own_step_none hJ h0 hb1
  have hkw := Kp.of_below exT hb1
  have ck := hk1.cell
  have lk := hk1.lt
  have lB : W.heap.size < W1.heap.size := hy1.lt
  clear hb1 h0 hk0 hn0
  refine (callsIn_wide (n := 3)).1 (callsIn_of_wp_marks Try.func41 rfl trivial ?_)
  simp only [Try.ntmps41, List.size_toArray, List.length_cons, List.length_nil, Nat.reduceAdd, Nat.reduceSub, Array.replicate_succ, Array.replicate_zero, List.push_toArray, List.append_toArray, List.nil_append, List.cons_append]
  gi_wp2
  clear hW1 ck lk
  refine wpIn_loop (fun a W' => ∃ (k : Nat) (Ds : List Nat) (u4 u9 u10 u11 u12 u13 u19 : Value), k ≤ K + 1 ∧ J (allPre n k).length W' ∧ Kp exT W1 W' ∧ Marked W.heap.size Ds W' ∧
      a = { tmps := #[.func (.yield l) #[] #[], .pointer (some ⟨bk, 0, none⟩), .pointer (some ⟨bn, 0, none⟩), .pointer (some ⟨W.heap.size, 0, none⟩), u4, undef, .int .i64 (K : Int), .int .i64 ((K : Int) + 1), .int .i64 (k : Int), u9, u10, u11, u12, u13, undef, undef, undef, undef, undef, u19], defers := Ds.map mark })
      (muSlot 8 (K + 1)) ⟨0, [], undef, undef, undef, undef, undef, undef, undef, Nat.zero_le _, hJ1, Kp.refl _ _, Marked.nil _ _, rfl⟩ ?_
  rintro a W' ⟨k, Ds, u4, u9, u10, u11, u12, u13, u19, hk, hJ', hkp, hmk, rfl⟩
  have cn := (hkp.box hn1 exT_int).cell
  have ln := (hkp.box hn1 exT_int).lt
  by_cases hlt : k < K + 1
  · have hlt1 : (k : Int) < (K : Int) + 1 := by omega
    gi_wp2_with (refine ⟨trivial, ?_⟩; gi_at_call 42; refine (callsIn_wide.2 (sets_any _ _ _ _)).mono ?_; rintro e w' ⟨rfl, rfl⟩)
    obtain ⟨W3, hW3⟩ : ∃ W3, ((W'.alloc (.cells #[.int .i64 (n : Int)] 3)).alloc (.cells #[.int .i64 (k : Int)] 3)).alloc (.cells #[.int .i64 0] 3) = W3 := ⟨_, rfl⟩
    have hb3 : Below W'.heap.size W' W3 := by rw [← hW3]; exact (((Below.refl _ _).alloc (Nat.le_refl _) _).alloc (by simp) _).alloc (by simp; omega) _
    have bn3 : Boxed W3 W'.heap.size 3 (.int .i64 (n : Int)) := by rw [← hW3]; exact ((Boxed.new W' _ _).alloc _).alloc _
    have bm3 : Boxed W3 (W'.heap.size + 1) 3 (.int .i64 (k : Int)) := by rw [← hW3]; have := (Boxed.new (W'.alloc (.cells #[.int .i64 (n : Int)] 3)) 3 (.int .i64 (k : Int))).alloc (.cells #[.int .i64 0] 3); simpa using this
    have bf3 : Boxed W3 (W'.heap.size + 2) 3 (.int .i64 ((0 : Nat) : Int)) := by rw [← hW3]; have := (Boxed.new ((W'.alloc (.cells #[.int .i64 (n : Int)] 3)).alloc (.cells #[.int .i64 (k : Int)] 3)) 3 (.int .i64 0)); simpa using this
    have hJ3 := own_step_none hJ hJ' hb3
    have hkp3 := Kp.of_below exT hb3
    have hmk3 := hmk.kp hkp3
    rw [hW3]
    clear hW3 cn ln
    have hseq := sets_gives k n 0 W'.heap.size (W'.heap.size + 1) (W'.heap.size + 2) W3 bm3 bf3 bn3 hn32 (by omega) (by omega)
    refine wp_range (gf := 47) (lb := #[.pointer (some ⟨W'.heap.size + 1, 0, none⟩), .pointer (some ⟨W'.heap.size + 2, 0, none⟩), .pointer (some ⟨W'.heap.size, 0, none⟩)]) rfl (enters_of Try.func47 (by kernel_rfl) rfl) hseq (Below.refl _ _) rfl ?hR
      (fun j W'' => J ((allPre n k).length + j) W'' ∧ Kp exT W3 W'') ?hI ⟨hJ3, Kp.refl _ _⟩ (fun v => { tmps := #[.func (.yield l) #[] #[], .pointer (some ⟨bk, 0, none⟩), .pointer (some ⟨bn, 0, none⟩), .pointer (some ⟨W.heap.size, 0, none⟩), .int .i64 (k : Int), v, .int .i64 (K : Int), .int .i64 ((K : Int) + 1), .int .i64 (k : Int), .bool true, .int .i64 (k : Int), .int .i64 (n : Int), .int .i64 (k : Int), .func (.func 47) #[] #[.pointer (some ⟨W'.heap.size + 1, 0, none⟩), .pointer (some ⟨W'.heap.size + 2, 0, none⟩), .pointer (some ⟨W'.heap.size, 0, none⟩)], v, undef, undef, undef, undef, u19], defers := [] }) ?hassign ?hbody ?hdone
    case hR => exact fun x v => own_rowFrom 0 3 1 v x.length (x.map (Value.int .i64))
    case hI => exact OwnFrom.and (own_to_from (ownFrom_shift hJ _) (by have := hb3.size; have := hkp.size; omega)) (ownFrom_kp exT W3 (Nat.le_refl _))
    case hassign =>
      intro l' v W'' K' hK'
      gi_wp2
      exact hK'
    case hbody =>
      rintro l' j x v W'' hl' hx ⟨hJ4, hk4⟩ hr
      have hget := allPre_get (n := n) (K + 1) hlt hx
      obtain ⟨mm, fn, tmps, assign, body, hy, hR⟩ := hY _ x v W'' hget hJ4 hr
      have cy4 := (hk4.box (hkp3.box (hkp.box hy1 exT_fn) exT_fn) exT_fn).cell
      clear hget hJ4 hr hx hJ3 hJ' hseq
      gi_wp2
      refine (round_wide hR).mono ?_
      rintro e W6 ⟨rfl, hJ6, hk6⟩
      gi_wp2
      exact ⟨hJ6, hk4.trans hk6⟩
    case hdone =>
      rintro D W'' rfl ⟨hJ4, hk4⟩ hD hkD
      have hkN := hide ((hkp.trans hkp3).trans hk4)
      have hmN := hide (hmk3.cons (by have := hkp.size; have := hb3.size; omega) (Nat.le_refl _) hD (fun E hE => hk4.other (hmk3.2 E hE).2 rfl))
      have hJN := hide (show J (allPre n (k + 1)).length W'' from by
        rw [allPre_succ, List.length_append]; exact hJ4)
      clear hJ3 hJ' hJ4 hseq hD
      dsimp only
      gi_wp2
      refine ⟨⟨k + 1, W3.heap.size :: Ds, _, _, _, _, _, _, _, by omega, hJN.out, hkN.out, hmN.out, rfl⟩, ?_⟩
      simp only [muSlot, List.getElem?_toArray, List.getElem?_cons_succ, List.getElem?_cons_zero]
      omega
  · have hlt1 : ¬ (k : Int) < (K : Int) + 1 := by omega
    have hke : k = K + 1 := by omega
    subst hke
    gi_wp2
    refine leaves_marks (B := W.heap.size) (fun X => J (allPre n (K + 1)).length X ∧ Kp exT W X) (OwnFrom.and ?_ ?_) ?_ Ds W' hmk ⟨hJ', hkw.trans hkp⟩
    · exact fun _ A B row hs hg hr => hJ _ A B row hs hg hr
    · exact ownFrom_kp exT W (Nat.le_refl _)
    · exact fun X h => ⟨_, results_none rfl _ _ _, ⟨_, rfl⟩, h⟩
end Go.Proofs.Ytjijggighppjbaa

import Derived.Test.YtjijggighppjbaaDnS
import Derived.Test.YtjijggighppjbaaRngL
import Derived.Shelf.Abstract
import Derived.Shelf.RegionOpen
import Derived.OwnWalkIn
import Derived.TacticsInMore
import Derived.LoopNIn
import Derived.Laws.EntriesVeiled
import Derived.Outline
namespace Go.Proofs.Ytjijggighppjbaa
open Go.RowKit Go.Shelf
attribute [local go_sem] Oper.semAt_some
def exT : TypeId → Bool := fun t => t == 23 || t == 27
def rowR (xs : List Int) (v : Value) (W : World) : Prop := W.ownsRow 0 3 1 v xs.length (xs.map (Value.int .i64))
def comb (n : Nat) : Nat → Nat → List (List Int)
  | 0, _ => [[]]
  | m + 1, f => (List.range (n - f)).flatMap fun i => (comb n m (f + i + 1)).map (((f + i : Nat) : Int) :: ·)
theorem sets_any (n m f : Int) (w : World) : Calls Try.prog 42 #[.int .i64 n, .int .i64 m, .int .i64 f] w fun e w' =>
    e = .returned (.func (.func 47) #[] #[.pointer (some ⟨w.heap.size + 1, 0, none⟩), .pointer (some ⟨w.heap.size + 2, 0, none⟩), .pointer (some ⟨w.heap.size, 0, none⟩)]) ∧
      w' = ((w.alloc (.cells #[.int .i64 n] 3)).alloc (.cells #[.int .i64 m] 3)).alloc (.cells #[.int .i64 f] 3) := by
  go_enter Try.func42, Try.ntmps42
  go_wp2
  go_ret
  exact ⟨rfl, rfl⟩
theorem all_any (n k : Int) (w : World) : Calls Try.prog 29 #[.int .i64 n, .int .i64 k] w fun e w' =>
    e = .returned (.func (.func 41) #[] #[.pointer (some ⟨w.heap.size + 1, 0, none⟩), .pointer (some ⟨w.heap.size, 0, none⟩)]) ∧
      w' = (w.alloc (.cells #[.int .i64 n] 3)).alloc (.cells #[.int .i64 k] 3) := by
  go_enter Try.func29, Try.ntmps29
  go_wp2
  go_ret
  exact ⟨rfl, rfl⟩
/-- What has come when k firsts are over. -/
def combPre (n m f k : Nat) : List (List Int) := (List.range k).flatMap fun i => (comb n m (f + i + 1)).map (((f + i : Nat) : Int) :: ·)
theorem combPre_succ (n m f k : Nat) : combPre n m f (k + 1) = combPre n m f k ++ (comb n m (f + k + 1)).map (((f + k : Nat) : Int) :: ·) := by
  unfold combPre; rw [List.range_succ, List.flatMap_append]; simp
theorem combPre_get {n m f : Nat} {k j : Nat} {x : List Int} : ∀ t, k < t → (comb n m (f + k + 1))[j]? = some x → (combPre n m f t)[(combPre n m f k).length + j]? = some (((f + k : Nat) : Int) :: x)
  | 0, h, _ => absurd h (Nat.not_lt_zero _)
  | t + 1, h, hx => by
    rw [combPre_succ]
    have hj : j < (comb n m (f + k + 1)).length := (List.getElem?_eq_some_iff.1 hx).1
    by_cases e : k = t
    · subst e
      rw [List.getElem?_append_right (by omega)]
      simp [hx]
    · have ih := combPre_get (n := n) (m := m) (f := f) t (by omega) hx
      rw [List.getElem?_append_left (List.getElem?_eq_some_iff.1 ih).1]
      exact ih
theorem comb_mem_len {n : Nat} : ∀ {m f : Nat} {x : List Int}, x ∈ comb n m f → x.length = m
  | 0, f, x, h => by simp [comb] at h; subst h; rfl
  | m + 1, f, x, h => by
    simp only [comb, List.mem_flatMap, List.mem_map] at h
    obtain ⟨i, _, y, hy, rfl⟩ := h
    rw [List.length_cons, comb_mem_len hy]
theorem own_to_from {β : Type} {B B' : Nat} {I : β → World → Prop} (h : OwnFrom B I) (hB : B ≤ B') : OwnFrom B' I := fun s W W' row hs hg hr => h s W W' row hs hg (fun r e => ⟨Nat.le_trans hB (hr r e).1, (hr r e).2⟩)
theorem ownFrom_kp {β : Type} (ex : TypeId → Bool) (w : World) {B : Nat} (hB : w.heap.size ≤ B) : OwnFrom B (fun (_ : β) W => Kp ex w W) := fun _ X Y row hs hg hr =>
  ⟨hg.os.trans hs.os, hg.tape.trans hs.tape, hg.output.trans hs.output, Nat.le_trans hs.size hg.size, fun k o hk ho => by
    have h1 := hs.same k o hk ho
    have h2 := (Array.getElem?_eq_some_iff.1 hk).1
    exact (hg.block k (Array.getElem?_eq_some_iff.1 h1).1 (fun e => by have := (hr k e.symm).1; omega)).trans h1⟩
theorem ownFrom_shift {B : Nat} {J : Nat → World → Prop} (h : OwnFrom B J) (c : Nat) : OwnFrom B (fun j W => J (c + j) W) := fun j => h (c + j)
theorem own_step_none {B : Nat} {J : Nat → World → Prop} (h : OwnFrom B J) {k : Nat} {W W' : World} (hs : J k W) (hb : Below W.heap.size W W') : J k W' :=
  h k W W' none hs ⟨hb.os, hb.tape, hb.output, hb.size, fun i hi _ => hb.block i hi⟩ (fun r e => by cases e)
theorem ints_one (xs : List Int) : ∀ u ∈ xs.map (Value.int .i64), u.oneCell' = true := fun u hu => by
  obtain ⟨x, _, rfl⟩ := List.mem_map.1 hu; rfl
/-- append of one row of ints onto another. -/
theorem append_ints {W : World} {base n m : Nat} {v v2 : Value} {xs ys : List Int} (hd : W.ownsRow base 3 1 v n (xs.map (Value.int .i64))) (hs : W.ownsRow 0 3 1 v2 m (ys.map (Value.int .i64))) (hb : base ≤ W.heap.size) (hz : n + m ≤ 100000) :
    ∃ v' w', (Builtin.append_ #[27, 27] 27 #[v, v2]).run Try.prog W = .ok v' w' ∧ w'.ownsRow base 3 1 v' (n + m) ((xs ++ ys).map (Value.int .i64)) ∧ W.grownBy w' v.ownBlock := by
  obtain ⟨ii, hii, hzi0, hzi1, hzi2⟩ := info_parts int_info
  rcases hs.2 with ⟨rfl, rfl⟩ | ⟨g, cap, cur, rfl, _, hg, _⟩
  · have hy : ys = [] := by have := hs.1; rw [List.length_map] at this; exact List.eq_nil_of_length_eq_zero (by omega)
    subst hy
    refine ⟨v, W, ?_, by simpa using hd, ⟨rfl, rfl, rfl, Nat.le_refl _, fun _ _ _ => rfl⟩⟩
    rcases hd.2 with ⟨rfl, rfl⟩ | ⟨g, cap, cur, rfl, _, _, hnc, _⟩
    · simp [Builtin.append_, run_underlying Try.underlying27, sizeOf, typeInfo, hii, Builtin.lenOf, Builtin.firstCells]
    · simp [Builtin.append_, run_underlying Try.underlying27, sizeOf, typeInfo, hii, Builtin.lenOf, Builtin.firstCells, hnc, storeCells]
  · obtain ⟨v', w', hrun, h2, h3, _, _⟩ := run_append_own_at (P := Try.prog) W base 27 27 3 ii (.int .i64 0) 1 8 Try.underlying27 hii hzi0 hzi1 hzi2 rfl (by omega) v n _ hd ⟨g, 0, none⟩ m cap (ys.map (Value.int .i64)) hs.1
      (fun j u hu => hs.cells (g := g) rfl j u hu) (ints_one ys) (by simp [maxLen]; omega) (by omega) hb
    exact ⟨v', w', hrun, by simpa using h2, h3⟩
/-- append, kept from being opened. -/
def AppG (ts : Array TypeId) (ty : TypeId) (args : Array Value) : Sem Value := Builtin.append_ ts ty args
theorem app_eq (ts : Array TypeId) (ty : TypeId) (args : Array Value) : Builtin.append_ ts ty args = AppG ts ty args := rfl
def muFirst (n : Nat) (a : Act) (W : World) : Nat := match a.tmps[5]? with
  | some (Value.pointer (some ad)) => match W.cell? ad with
    | some (Value.int _ x) => ((n : Int) - x).toNat
    | _ => 0
  | _ => 0
theorem exT_int : exT 3 = false := rfl
theorem exT_fn : exT 60 = false := rfl
attribute [local go_sem ↓] app_eq
set_option maxRecDepth 100000 in
set_option maxHeartbeats 2000000 in
theorem sets_gives (m : Nat) : ∀ (n f bn bm bf : Nat) (w : World), Boxed w bm 3 (.int .i64 (m : Int)) → Boxed w bf 3 (.int .i64 (f : Int)) → Boxed w bn 3 (.int .i64 (n : Int)) → n ≤ 32 → m ≤ 3 → f ≤ 33 →
    Gives Try.prog 47 #[.pointer (some ⟨bm, 0, none⟩), .pointer (some ⟨bf, 0, none⟩), .pointer (some ⟨bn, 0, none⟩)] rowR exT (comb n m f) w := by
  induction m with
  | zero =>
    intro n f bn bm bf w hm hf hn hn32 hm3 hf33 l J W hW hJ hY h0
    have cm := (hW.cell (p := ⟨bm, 0, none⟩) hm.lt).trans hm.cell
    have hbm : bm < W.heap.size := Nat.lt_of_lt_of_le hm.lt hW.size
    have hb1 : Below W.heap.size W (W.alloc (.cells #[.func (.yield l) #[] #[]] 60)) := (Below.refl _ _).alloc (Nat.le_refl _) _
    obtain ⟨mm, fn, tmps, assign, body, hy, hR⟩ := hY 0 [] (.slice none 0 0) (W.alloc (.cells #[.func (.yield l) #[] #[]] 60)) rfl (hJ.alloc _ h0) (World.ownsRow_nil _ _ _ _)
    replace hb1 := hide hb1
    refine (callsIn_wide (n := 3)).1 (callsIn_of_wp_marks Try.func47 rfl trivial ?_)
    simp only [Try.ntmps47, List.size_toArray, List.length_cons, List.length_nil, Nat.reduceAdd, Nat.reduceSub, Array.replicate_succ, Array.replicate_zero, List.push_toArray, List.append_toArray, List.nil_append, List.cons_append]
    gi_wp2
    refine (round_wide0 hR).mono ?_
    rintro e W3 ⟨rfl, hJ3, hk3⟩
    gi_wp2
    exact ⟨_, results_none rfl _ _ _, ⟨_, rfl⟩, hJ3, (Kp.of_below exT hb1.out).trans hk3⟩
  | succ m ih =>
    intro n f bn bm bf w hm hf hn hn32 hm3 hf33 l J W hW hJ hY h0
    replace hm : Boxed W bm _ _ := (hW.block bm hm.lt).trans hm
    replace hf : Boxed W bf _ _ := (hW.block bf hf.lt).trans hf
    replace hn : Boxed W bn _ _ := (hW.block bn hn.lt).trans hn
    obtain ⟨W1, hW1⟩ : ∃ W1, W.alloc (.cells #[.func (.yield l) #[] #[]] 60) = W1 := ⟨_, rfl⟩
    have hy1 : Boxed W1 W.heap.size 60 (.func (.yield l) #[] #[]) := by rw [← hW1]; exact Boxed.new W _ _
    have hm1 : Boxed W1 bm 3 (.int .i64 ((m + 1 : Nat) : Int)) := by rw [← hW1]; exact hm.alloc _
    have hf1 : Boxed W1 bf 3 (.int .i64 (f : Int)) := by rw [← hW1]; exact hf.alloc _
    have hn1 : Boxed W1 bn 3 (.int .i64 (n : Int)) := by rw [← hW1]; exact hn.alloc _
    have hJ1 : J 0 W1 := by rw [← hW1]; exact hJ.alloc _ h0
    have hk1 : Kp exT W W1 := Kp.of_below _ (by rw [← hW1]; exact (Below.refl _ _).alloc (Nat.le_refl _) _)
    have cm := hm1.cell
    have cf := hf1.cell
    have cn := hn1.cell
    have lm := hm1.lt
    have lf := hf1.lt
    have ln := hn1.lt
    clear hm hf hn h0
    refine (callsIn_wide (n := 3)).1 (callsIn_of_wp_marks Try.func47 rfl trivial ?_)
    simp only [Try.ntmps47, List.size_toArray, List.length_cons, List.length_nil, Nat.reduceAdd, Nat.reduceSub, Array.replicate_succ, Array.replicate_zero, List.push_toArray, List.append_toArray, List.nil_append, List.cons_append]
    have hz : (((m : Int) + 1) == 0) = false := beq_eq_false_iff_ne.2 (by omega)
    gi_wp2
    have hlenC : comb n (m + 1) f = combPre n m f (n - f) := rfl
    replace hlenC := hide hlenC
    have lB : W.heap.size < W1.heap.size := hy1.lt
    have hk2 := hide hk1
    obtain ⟨W2, hW2⟩ : ∃ W2, W1.alloc (.cells #[.int .i64 (f : Int)] 3) = W2 := ⟨_, rfl⟩
    have hb2 : Below W1.heap.size W1 W2 := by rw [← hW2]; exact (Below.refl _ _).alloc (Nat.le_refl _) _
    have hbx2 : Boxed W2 W1.heap.size 3 (.int .i64 (f : Int)) := by rw [← hW2]; exact Boxed.new W1 _ _
    have hJ2 : J 0 W2 := own_step_none hJ hJ1 hb2
    have hm2 : Boxed W2 bm _ _ := (hb2.block bm hm1.lt).trans hm1
    have hn2 : Boxed W2 bn _ _ := (hb2.block bn hn1.lt).trans hn1
    have hy2 : Boxed W2 W.heap.size _ _ := (hb2.block _ hy1.lt).trans hy1
    have hk3 := hk2.out.trans (Kp.of_below exT hb2)
    have hz2 := hb2.size
    rw [hW2]
    clear hW2 hW1 hb2 hJ1 hm1 hn1 hf1 hy1 cm cf cn lm lf ln hk1
    refine wpIn_loop (fun a W' => ∃ (k fb : Nat) (Ds : List Nat) (u12 u13 u14 u15 u16 u17 u18 u19 u20 u21 u22 u31 : Value), k ≤ n - f ∧ Boxed W' fb 3 (.int .i64 ((f + k : Nat) : Int)) ∧ J (combPre n m f k).length W' ∧ Kp exT W2 W' ∧ Marked W.heap.size Ds W' ∧
      a = { tmps := #[.func (.yield l) #[] #[], .pointer (some ⟨bm, 0, none⟩), .pointer (some ⟨bf, 0, none⟩), .pointer (some ⟨bn, 0, none⟩), .pointer (some ⟨W.heap.size, 0, none⟩), .pointer (some ⟨fb, 0, none⟩), undef, .int .i64 ((m : Int) + 1), .bool false, undef, undef, .int .i64 (f : Int), u12, u13, u14, u15, u16, u17, u18, u19, u20, u21, u22, undef, undef, undef, undef, undef, undef, undef, undef, u31], defers := Ds.map mark })
      (muFirst n) ⟨0, W1.heap.size, [], undef, undef, undef, undef, undef, undef, undef, undef, undef, undef, undef, undef, Nat.zero_le _, hbx2, hJ2, Kp.refl _ _, Marked.nil _ _, rfl⟩ ?_
    rintro a W' ⟨k, fb, Ds, u12, u13, u14, u15, u16, u17, u18, u19, u20, u21, u22, u31, hk, hfb, hJ', hkp, hmk, rfl⟩
    have cy := (hkp.box hy2 exT_fn).cell
    have cm := (hkp.box hm2 exT_int).cell
    have cn := (hkp.box hn2 exT_int).cell
    have cfb := hfb.cell
    have lfb := hfb.lt
    have lm := (hkp.box hm2 exT_int).lt
    have ln := (hkp.box hn2 exT_int).lt
    have ly := (hkp.box hy2 exT_fn).lt
    by_cases hlt : k < n - f
    · have hlt1 : (f : Int) + (k : Int) < (n : Int) := by omega
      have hfk : f + k < n := by omega
      gi_wp2_with (refine ⟨trivial, ?_⟩; gi_at_call 42; refine (callsIn_wide.2 (sets_any _ _ _ _)).mono ?_; rintro e w' ⟨rfl, rfl⟩)
      obtain ⟨W3, hW3⟩ : ∃ W3, ((W'.alloc (.cells #[.int .i64 (n : Int)] 3)).alloc (.cells #[.int .i64 (m : Int)] 3)).alloc (.cells #[.int .i64 ((f : Int) + (k : Int) + 1)] 3) = W3 := ⟨_, rfl⟩
      have hb3 : Below W'.heap.size W' W3 := by rw [← hW3]; exact (((Below.refl _ _).alloc (Nat.le_refl _) _).alloc (by simp) _).alloc (by simp; omega) _
      have bn3 : Boxed W3 W'.heap.size 3 (.int .i64 (n : Int)) := by rw [← hW3]; exact ((Boxed.new W' _ _).alloc _).alloc _
      have bm3 : Boxed W3 (W'.heap.size + 1) 3 (.int .i64 (m : Int)) := by rw [← hW3]; have := (Boxed.new (W'.alloc (.cells #[.int .i64 (n : Int)] 3)) 3 (.int .i64 (m : Int))).alloc (.cells #[.int .i64 ((f : Int) + (k : Int) + 1)] 3); simpa using this
      have bf3 : Boxed W3 (W'.heap.size + 2) 3 (.int .i64 ((f + k + 1 : Nat) : Int)) := by rw [← hW3]; have := (Boxed.new ((W'.alloc (.cells #[.int .i64 (n : Int)] 3)).alloc (.cells #[.int .i64 (m : Int)] 3)) 3 (.int .i64 ((f : Int) + (k : Int) + 1))); simpa using this
      have hJ3 := own_step_none hJ hJ' hb3
      have hkp3 := Kp.of_below exT hb3
      have hmk3 := hmk.kp hkp3
      have hfb3 : Boxed W3 fb _ _ := hkp3.box hfb exT_int
      have hz3 : W'.heap.size + 3 = W3.heap.size := by rw [← hW3]; simp
      rw [hW3]
      replace hz3 := hide hz3
      have hseq := ih n (f + k + 1) W'.heap.size (W'.heap.size + 1) (W'.heap.size + 2) W3 bm3 bf3 bn3 hn32 (by omega) (by omega)
      refine wp_range (gf := 47) (lb := #[.pointer (some ⟨W'.heap.size + 1, 0, none⟩), .pointer (some ⟨W'.heap.size + 2, 0, none⟩), .pointer (some ⟨W'.heap.size, 0, none⟩)]) rfl (enters_of Try.func47 (by kernel_rfl) rfl) hseq (Below.refl _ _) rfl ?hR
        (fun j W'' => J ((combPre n m f k).length + j) W'' ∧ Kp exT W3 W'') ?hI ⟨hJ3, Kp.refl _ _⟩ (fun v => { tmps := #[.func (.yield l) #[] #[], .pointer (some ⟨bm, 0, none⟩), .pointer (some ⟨bf, 0, none⟩), .pointer (some ⟨bn, 0, none⟩), .pointer (some ⟨W.heap.size, 0, none⟩), .pointer (some ⟨fb, 0, none⟩), v, .int .i64 ((m : Int) + 1), .bool false, undef, undef, .int .i64 (f : Int), .int .i64 ((f : Int) + k), .int .i64 (n : Int), .bool true, u15, u16, .int .i64 (n : Int), .int .i64 ((m : Int) + 1), .int .i64 (m : Int), .int .i64 ((f : Int) + k), .int .i64 ((f : Int) + k + 1), .func (.func 47) #[] #[.pointer (some ⟨W'.heap.size + 1, 0, none⟩), .pointer (some ⟨W'.heap.size + 2, 0, none⟩), .pointer (some ⟨W'.heap.size, 0, none⟩)], v, undef, undef, undef, undef, undef, undef, undef, u31], defers := [] }) ?hassign ?hbody ?hdone
      case hR => exact fun x v => own_rowFrom 0 3 1 v x.length (x.map (Value.int .i64))
      case hI => exact OwnFrom.and (own_to_from (ownFrom_shift hJ _) (by have := hb3.size; have := hkp.size; omega)) (ownFrom_kp exT W3 (Nat.le_refl _))
      case hassign =>
        intro l' v W'' K hK
        gi_wp2
        exact hK
      case hbody =>
        rintro l' j x v W'' hl' hx ⟨hJ4, hk4⟩ hr
        have hxl : x.length = m := comb_mem_len (List.mem_of_getElem? hx)
        have hget := combPre_get (n := n) (m := m) (f := f) (n - f) hlt hx
        obtain ⟨WA, hWA⟩ : ∃ WA, (W''.alloc (.cells #[.int .i64 ((f : Int) + (k : Int))] 3)).drew = WA := ⟨_, rfl⟩
        have hbA : Below W''.heap.size W'' WA := by rw [← hWA]; exact ((Below.refl _ _).alloc (Nat.le_refl _) _).drew
        have hd : WA.ownsRow W''.heap.size 3 1 (.slice (some ⟨W''.heap.size, 0, none⟩) 1 1) 1 ([(f : Int) + (k : Int)].map (Value.int .i64)) :=
          ⟨rfl, .inr ⟨W''.heap.size, 1, #[.int .i64 ((f : Int) + (k : Int))], rfl, Nat.le_refl _, by rw [← hWA]; exact heap_alloc_new W'' _, Nat.le_refl _, by decide, rfl, rfl⟩⟩
        obtain ⟨v', wA, hrun, hown', hgrow⟩ := append_ints hd (own_below hr hbA (Nat.le_refl _)) (by rw [← hWA]; simp) (by omega)
        have hbw : Below W''.heap.size W'' wA := hbA.grown hgrow (by rw [← hWA]; simp) (fun g e => by cases e; exact Nat.le_refl _)
        obtain ⟨mm, fn, tmps, assign, body, hy, hR⟩ := hY _ ((((f + k : Nat) : Int)) :: x) v' wA (by rw [hlenC.out]; exact hget) (own_step_none (own_to_from hJ (Nat.le_refl _)) hJ4 hbw) (by
          have := own_mono (base' := 0) hown' (Nat.zero_le _)
          unfold rowR
          rw [List.length_cons, Nat.add_comm x.length 1, Int.natCast_add]
          exact this)
        have cy4 := (hk4.box (hkp3.box (hkp.box hy2 exT_fn) exT_fn) exT_fn).cell
        have cf4 := (hk4.box hfb3 exT_int).cell
        have lf4 := (hk4.box hfb3 exT_int).lt
        have ly4 := (hk4.box (hkp3.box (hkp.box hy2 exT_fn) exT_fn) exT_fn).lt
        have cyA := (hbw.cell (p := ⟨W.heap.size, 0, none⟩) ly4).trans cy4
        rw [← hWA] at hrun
        replace hrun : (AppG #[27, 27] 27 #[.slice (some ⟨W''.heap.size, 0, none⟩) 1 1, v]).run Try.prog (W''.alloc (.cells #[.int .i64 ((f : Int) + (k : Int))] 3)).drew = .ok v' wA := hrun
        have hkpA := hide ((Kp.of_below exT hbw))
        clear hWA hbA hd hgrow hown' hbw hr hJ4 hget hW3 hb3 bn3 bm3 bf3 hJ3 hseq cy cm cn cfb hm2 hn2 hy2 hfb hfb3
        have hmix : Try.prog.follows .mixedOrders = true := by kernel_rfl
        gi_wp2
        gi_region_with_o (refine (round_wide hR).mono ?_; rintro e W6 ⟨rfl, hJ6, hk6⟩)
        all_goals gi_wp2
        all_goals exact ⟨hkpA.out.trans hk6, hJ6, (hk4.trans hkpA.out).trans hk6⟩
      case hdone =>
        rintro D W'' rfl ⟨hJ4, hk4⟩ hD hkD
        have cfb4 := (hk4.box hfb3 exT_int).cell
        have lfb4 := (hk4.box hfb3 exT_int).lt
        have cfb' := hfb.cell
        have hkW : Kp exT W'' (W''.alloc (.cells #[.int .i64 ((f : Int) + (k : Int) + 1)] 3)) := Kp.of_below _ ((Below.refl _ _).alloc (Nat.le_refl _) _)
        have hkN := hide (((hkp.trans hkp3).trans hk4).trans hkW)
        have hmN := hide ((hmk3.cons (by have := hkp.size; have := hb3.size; omega) (Nat.le_refl _) hD (fun E hE => hk4.other (hmk3.2 E hE).2 rfl)).kp hkW)
        have hJN := hide (show J (combPre n m f (k + 1)).length (W''.alloc (.cells #[.int .i64 ((f : Int) + (k : Int) + 1)] 3)) from by
          rw [combPre_succ, List.length_append, List.length_map]
          exact own_step_none hJ hJ4 ((Below.refl _ _).alloc (Nat.le_refl _) _))
        have hbN : Boxed (W''.alloc (.cells #[.int .i64 ((f : Int) + (k : Int) + 1)] 3)) W''.heap.size 3 (.int .i64 ((f + (k + 1) : Nat) : Int)) := by
          have := Boxed.new W'' 3 (.int .i64 ((f : Int) + (k : Int) + 1))
          rw [show ((f + (k + 1) : Nat) : Int) = (f : Int) + (k : Int) + 1 by omega]; exact this
        replace hbN := hide hbN
        clear hkW
        dsimp only
        gi_wp2
        refine ⟨⟨k + 1, W''.heap.size, _, _, _, _, _, _, _, _, _, _, _, _, _, by omega, hbN.out, hJN.out, hkN.out, hmN.out, rfl⟩, ?_⟩
        have h1 := hbN.out.cell
        simp only [muFirst, List.getElem?_toArray, List.getElem?_cons_succ, List.getElem?_cons_zero, h1, cfb']
        omega
    · have hlt1 : ¬ (f : Int) + (k : Int) < (n : Int) := by omega
      have hke : k = n - f := by omega
      subst hke
      gi_wp2
      refine leaves_marks (B := W.heap.size) (fun X => J (comb n (m + 1) f).length X ∧ Kp exT W X) (OwnFrom.and ?_ ?_) ?_ Ds W' hmk ⟨by rw [hlenC.out]; exact hJ', hk3.trans hkp⟩
      · exact fun _ A B row hs hg hr => hJ _ A B row hs hg hr
      · exact ownFrom_kp exT W (Nat.le_refl _)
      · exact fun X h => ⟨_, results_none rfl _ _ _, ⟨_, rfl⟩, h⟩
end Go.Proofs.Ytjijggighppjbaa

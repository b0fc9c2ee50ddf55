import Derived.Test.YtbbdhknagofghaaGreatWhl38
set_option linter.all false
/-! Layer 7: the closure of actions. -/
namespace Go.Proofs.YtbbdhknagofghaaGreat
open Go.RowKit
theorem wpAny_still_from {P : Program} {l : List Oper} {Q : Exit → Act → World → Prop} {a : Act} {w : World} {listed : Array Bool} (k fuel : Nat) (hs : Region.noSelect l.toArray = true) (hk : (l.drop k).length = fuel)
  (hB : Region.lexFrom .any l.toArray fuel k listed = true) (h : wpStill P l.toArray w (fun a' => Q .normal a' w) (l.drop k) a) : wpAny P .any l.toArray Q fuel listed a w := by
 subst hk
 exact wpAny_of_still (Q := fun a' => Q .normal a' w) (fun _ h => h) _ _ _ (wpAnyS_lex hs (l.drop k) k listed a (fun j => by simp [List.getElem?_drop]) hB h)
theorem wpAny_over {P : Program} {Q : Exit → Act → World → Prop} {a : Act} {w : World} (h : wpAny P .any ([] : List Oper).toArray Q 0 #[] a w) : Q .normal a w := h.2
theorem told_more {n : Nat} {g : Nat → Bool} {J S : Nat → World → Prop} {W W2 W4 : World} {j a b : Nat} {e : Ending} (h : runB g j a = true) (hk : Kp exI W W2) (ht : Told n g J S W2 (j + a) b e W4) : Told n g J S W j (a + b) e W4 := by
 obtain ⟨h1, h2, h3⟩ := ht
 have e1 : runB g j (a + b) = runB g (j + a) b := by rw [runB_add, h]; rfl
 exact ⟨by rw [e1]; exact h1, fun h' => by rw [e1] at h'; rw [← Nat.add_assoc]; exact ⟨(h2 h').1, hk.trans (h2 h').2⟩, fun h' => by rw [e1] at h'; exact h3 h'⟩
theorem told_less {n : Nat} {g : Nat → Bool} {J S : Nat → World → Prop} {W W4 : World} {j a b : Nat} (h : runB g j a = false) (hS : ∃ k, k < n ∧ S k W4) : Told n g J S W j (a + b) (.returned (.bool false)) W4 :=
 told_no (runB_stop h (Nat.le_add_right _ _)) hS
set_option maxRecDepth 100000 in
set_option maxHeartbeats 4000000 in
theorem acts_tells {l B B0 : Nat} {w0 : World} {xs : List It} {g : Nat → Bool} {J S : Nat → World → Prop} (hY : Yl l B xs g J S) (hown : OwnFrom B0 J) (hJK : ∀ k W, J k W → Below B w0 W) (hBB : B ≤ B0) (A1 A2 A3 A4 A5 A6 A7 : Option Addr) (p : Pg) (c1 c2 c3 c4 c5 c6 c7 : Nat) (hP : PgS w0 B A1 A2 A3 A4 A5 A6 A7 p) (bp bo i j : Nat) (f : Ac) (hi : p.actions[i]? = some f)
  (W : World) (hB0 : B0 ≤ W.heap.size) (hh : Held A1 A2 A3 A4 A5 A6 A7 p c1 c2 c3 c4 c5 c6 c7 l bp bo W) (hx : ∀ k : Nat, k < f.params.length → xs[j + k]? = some ⟨9, (i : Int), (k : Int), zSt⟩)
  (hx2 : ∀ (k : Nat) (x : It), (itemsL (i : Int) f.body)[k]? = some x → xs[j + f.params.length + k]? = some x) (hJ : J j W) :
  Calls Tryz.prog 76 #[.int .i64 (i : Int), .pointer (some ⟨bp, 0, none⟩), .pointer (some ⟨bo, 0, none⟩)] W (Told xs.length g J S W j (f.params.length + (itemsL (i : Int) f.body).length)) := by
 have hbW := hJK _ _ hJ
 have hPW := hP.below hbW
 have hil := (List.getElem?_eq_some_iff.1 hi).1
 have hiz : (i : Int) < (p.actions.length : Int) := by omega
 have lst := hPW.actions.len
 obtain ⟨b, o, ecs, hA, hb, hel, hcell, B1, d1, B2, d2, rfl, hn, hF, hG⟩ := hPW.actions.2 i f hi
 subst hA
 have lf := hF.len
 have lg := hG.len
 have hG0 : Sl 14 rSt w0 B B2 f.body := hG.keep sta_st fun q hq => (hbW.cell hq).symm
 have x2' : w0.cell? ⟨b, o + i * 3 + 2, none⟩ = some (.slice B2 f.body.length d2) := (hbW.cell (p := ⟨b, o + i * 3 + 2, none⟩) hb).symm.trans (hcell 2 _ rfl)
 obtain ⟨x0, x1, x2⟩ := srow3 hcell
 have hc := heap_cells hh.prog
 have hcy := heap_cells hh.yield
 obtain ⟨z0, z1, z2, z3, z4, z5, z6⟩ := row7 (w := W) (a := bp) fun i => hc i
 have y0 : W.cell? ⟨bo, 0, none⟩ = some (.func (.yield l) #[] #[]) := hcy 0
 have hM := fun (W1 : World) (h : J j W1) => many_tells hY 9 (i : Int) f.params.length j lf hx W1 h
 have hT := hide (fun (W1 : World) (h0 : B0 ≤ W1.heap.size) (h : J (j + f.params.length) W1) => stmts_tells hY hown hJK hBB f.body (i : Int) B2 d2 W1 (j + f.params.length) hG0 h0 hx2 h)
 have hJ1 := hide (own_step_none hown hJ (show Below W.heap.size W W.drew from (Below.refl _ _).drew))
 have hkd := hide (Kp.of_below exI (show Below W.heap.size W W.drew from (Below.refl _ _).drew))
 have hadd := hide (runB_add g j f.params.length (itemsL (i : Int) f.body).length)
 clear hcell hc hcy hJ hP hPW hF hG hi hx hbW hG0 hx2
 replace hh := hide hh
 replace hJK := hide hJK
 go_enter Tryz.func76, Tryz.ntmps76
 go_wp2_with fail
 cases hr : runB g j f.params.length with
 | true =>
  have hM1 := hide (fun (W1 : World) (h : J j W1) => (hM W1 h).mono (R' := fun e W' => e = .returned (.bool true) ∧ J (j + f.params.length) W' ∧ Kp exI W1 W') fun e W' ⟨h1, h2, _⟩ => ⟨by rw [h1, hr], h2 hr⟩)
  have hr' := hide hr
  clear hM hr
  go_region_with (first | (go_at_call 74; refine (hM1.out _ hJ1.out).mono ?_; rintro e W2 ⟨rfl, hJ2, hk2⟩; have c3 : W2.cell? ⟨bp, 3, none⟩ = some (.slice (some ⟨b, o, none⟩) p.actions.length c4) := heap_cells (hh.out.kp (hkd.out.trans hk2)).prog 3; have cy : W2.cell? ⟨bo, 0, none⟩ = some (.func (.yield l) #[] #[]) := heap_cells (hh.out.kp (hkd.out.trans hk2)).yield 0; have cx : W2.cell? ⟨b, o + i * 3 + 2, none⟩ = some (.slice B2 f.body.length d2) := ((hJK.out _ _ hJ2).cell (p := ⟨b, o + i * 3 + 2, none⟩) hb).trans x2'; have hk3 := hide (hkd.out.trans hk2); have hJ3 := hide hJ2; clear hJ2 hk2) | (go_at_call 77; refine (hT.out _ (by have := hk3.out.size; omega) hJ3.out).mono ?_; rintro e W4 ⟨rfl, h1, h2⟩; replace h1 := hide h1; replace h2 := hide h2))
  all_goals
   go_wp2
   go_ret
   exact told_more hr'.out hk3.out ⟨rfl, h1.out, h2.out⟩
 | false =>
  have hM1 := hide (fun (W1 : World) (h : J j W1) => (hM W1 h).mono (R' := fun e W' => e = .returned (.bool false) ∧ ∃ k, k < xs.length ∧ S k W') fun e W' ⟨h1, _, h3⟩ => ⟨by rw [h1, hr], h3 hr⟩)
  have hr' := hide hr
  clear hM hr hT hadd
  go_region_with (go_at_call 74; refine (hM1.out _ hJ1.out).mono ?_; rintro e W2 ⟨rfl, hS2⟩; replace hS2 := hide hS2; dsimp only; rename_i Kq hKq; refine hKq _ _ ?_; clear hKq Kq; refine wpAny_still_from 10 _ (by kernel_rfl) (by kernel_rfl) (by kernel_rfl) ?_; simp only [List.drop_succ_cons, List.drop_zero]; (iterate 12 ((with_reducible refine wpStill_step (fun K hK => ?_)); go_simp; (with_reducible refine hK _ ?_); clear hK K)); (with_reducible apply wpStill_nil); (refine wpAny_over (P := Tryz.prog) ?_))
  all_goals
   go_wp2
   go_ret
   exact told_less hr'.out hS2.out
end Go.Proofs.YtbbdhknagofghaaGreat
/-! Layer 7: the closures of states and tables. -/
namespace Go.Proofs.YtbbdhknagofghaaGreat
open Go.RowKit
attribute [local go_sem] Oper.semAt_some
set_option maxRecDepth 100000 in
set_option maxHeartbeats 4000000 in
theorem stas_tells {l B B0 : Nat} {w0 : World} {xs : List It} {g : Nat → Bool} {J S : Nat → World → Prop} (hY : Yl l B xs g J S) (hown : OwnFrom B0 J) (hJK : ∀ k W, J k W → Below B w0 W) (A1 A2 A3 A4 A5 A6 A7 : Option Addr) (p : Pg) (c1 c2 c3 c4 c5 c6 c7 : Nat) (hP : PgS w0 B A1 A2 A3 A4 A5 A6 A7 p) (bp bo i j : Nat) (f : Sa) (hi : p.states[i]? = some f)
  (W : World) (hB0 : B0 ≤ W.heap.size) (hh : Held A1 A2 A3 A4 A5 A6 A7 p c1 c2 c3 c4 c5 c6 c7 l bp bo W) (hx : ∀ k : Nat, k < f.takes.length → xs[j + k]? = some ⟨5, (i : Int), (k : Int), zSt⟩)
  (hx2 : xs[j + f.takes.length]? = some ⟨6, (i : Int), 0, zSt⟩) (hx3 : ∀ k : Nat, k < f.cases_.length → xs[j + f.takes.length + 1 + k]? = some ⟨7, (i : Int), (k : Int), zSt⟩) (hJ : J j W) :
  Calls Tryz.prog 75 #[.int .i64 (i : Int), .pointer (some ⟨bp, 0, none⟩), .pointer (some ⟨bo, 0, none⟩)] W (Told xs.length g J S W j (f.takes.length + (1 + f.cases_.length))) := by
 have hPW := hP.below (hJK _ _ hJ)
 have hil := (List.getElem?_eq_some_iff.1 hi).1
 have hiz : (i : Int) < (p.states.length : Int) := by omega
 have lst := hPW.states.len
 obtain ⟨b, o, ecs, hA, hb, hel, hcell, B1, d1, B2, d2, B3, d3, rfl, hn, hd, hF, hG, hH⟩ := hPW.states.2 i f hi
 subst hA
 have lf := hF.len
 have lg := hG.len
 have lh := hH.len
 obtain ⟨x0, x1, x2, x3, x4⟩ := srow5 hcell
 have hc := heap_cells hh.prog
 have hcy := heap_cells hh.yield
 obtain ⟨z0, z1, z2, z3, z4, z5, z6⟩ := row7 (w := W) (a := bp) fun i => hc i
 have y0 : W.cell? ⟨bo, 0, none⟩ = some (.func (.yield l) #[] #[]) := hcy 0
 obtain ⟨W1, hW1⟩ : ∃ W1, W.alloc (.cells #[.string f.name, .slice B1 f.takes.length d1, .string f.dest, .slice B2 f.keys.length d2, .slice B3 f.cases_.length d3] 61) = W1 := ⟨_, rfl⟩
 have hb1 : Below W.heap.size W W1 := by rw [← hW1]; exact (Below.refl _ _).alloc (Nat.le_refl _) _
 have hbox : W1.heap[W.heap.size]? = some (.cells #[.string f.name, .slice B1 f.takes.length d1, .string f.dest, .slice B2 f.keys.length d2, .slice B3 f.cases_.length d3] 61) := by rw [← hW1]; exact World.alloc_heap_new W _
 have hc1 := heap_cells hbox
 obtain ⟨v0, v1, v2, v3, v4⟩ := row5 hc1
 have hh1 := hh.kp (Kp.of_below exI hb1)
 have y1 : W1.cell? ⟨bo, 0, none⟩ = some (.func (.yield l) #[] #[]) := heap_cells hh1.yield 0
 have hW1s : W.heap.size < W1.heap.size := (Array.getElem?_eq_some_iff.1 hbox).1
 have hk1 := hide (Kp.of_below exI hb1)
 have hM := hide (many_tells hY 5 (i : Int) f.takes.length j lf hx W1 (own_step_none hown hJ hb1))
 have hM2 := hide (fun (W2 : World) (h : J (j + f.takes.length + 1) W2) => many_tells hY 7 (i : Int) f.cases_.length (j + f.takes.length + 1) lh hx3 W2 h)
 have hY2 := hide (fun (W2 : World) (h : J (j + f.takes.length) W2) => hY _ _ _ W2 hx2 h (itR_zero B 6 (i : Int) 0 W2))
 have hjl := hide ((List.getElem?_eq_some_iff.1 hx2).1)
 have hadd := hide (runB_add g j f.takes.length (1 + f.cases_.length))
 have hadd2 := hide (show runB g (j + f.takes.length) (1 + f.cases_.length) = (g (j + f.takes.length) && runB g (j + f.takes.length + 1) f.cases_.length) from by rw [runB_add, runB_one])
 replace hbox := hide hbox
 replace hh1 := hide hh1
 clear hcell hc hcy hJ hP hPW hF hG hH hh hi hx hx2 hx3 hJK hc1 hb1
 refine (callsIn_wide (n := 3)).1 (callsIn_of_wp_marks Tryz.func75 rfl trivial ?_)
 simp only [Tryz.ntmps75, List.size_toArray, List.length_cons, List.length_nil, Nat.reduceAdd, Nat.reduceSub, Array.replicate_succ, Array.replicate_zero, List.push_toArray, List.append_toArray, List.nil_append, List.cons_append]
 gi_wp2
 refine ⟨trivial, ?_⟩
 refine (callsIn_wide.2 hM.out).mono ?_
 rintro e W2 ⟨rfl, h1, h2⟩
 cases hr : runB g j f.takes.length with
 | false =>
  have hS2 := hide (h2 hr)
  replace hr := hide hr
  clear h1 h2 hM2 hY2
  gi_wp2_with (refine ⟨(fun _ _ => trivial), ?_⟩)
  all_goals exact ⟨_, results_tmp rfl _ _ _, told_less hr.out hS2.out⟩
 | true =>
  obtain ⟨hJ2, hk2⟩ := h1 hr
  have hh2 := hh1.out.kp hk2
  have y2 : W2.cell? ⟨bo, 0, none⟩ = some (.func (.yield l) #[] #[]) := heap_cells hh2.yield 0
  have hbox2 : W2.heap[W.heap.size]? = some (.cells #[.string f.name, .slice B1 f.takes.length d1, .string f.dest, .slice B2 f.keys.length d2, .slice B3 f.cases_.length d3] 61) := hk2.same _ _ hbox.out (fun cs t fr e => by cases e; rfl)
  have q4 : W2.cell? ⟨W.heap.size, 4, none⟩ = some (.slice B3 f.cases_.length d3) := heap_cells hbox2 4
  have hz2 : W.heap.size < W2.heap.size := (Array.getElem?_eq_some_iff.1 hbox2).1
  obtain ⟨mm, fn, tmps, assign, body, hy, hR⟩ := hY2.out W2 hJ2
  have hkW2 := hide (hk1.out.trans hk2)
  replace hr := hide hr
  replace hbox2 := hide hbox2
  replace hh2 := hide hh2
  clear h1 h2 hM hY2 hJ2 hk2
  gi_wp2
  refine (round_wide0 hR).mono ?_
  rintro e W3 ⟨rfl, h1, h2⟩
  cases hc : g (j + f.takes.length) with
  | false =>
   have hS3 := hide (h2 hc)
   have hrN := hide (show runB g j (f.takes.length + (1 + f.cases_.length)) = false from by rw [hadd.out, hadd2.out, hc]; simp)
   clear h1 h2 hc hM2
   gi_wp2_with (refine ⟨(fun _ _ => trivial), ?_⟩)
   all_goals exact ⟨_, results_tmp rfl _ _ _, told_no hrN.out ⟨_, hjl.out, hS3.out⟩⟩
  | true =>
   obtain ⟨hJ3, hk3⟩ := h1 hc
   have hh3 := hh2.out.kp hk3
   have y3 : W3.cell? ⟨bo, 0, none⟩ = some (.func (.yield l) #[] #[]) := heap_cells hh3.yield 0
   have hbox3 : W3.heap[W.heap.size]? = some (.cells #[.string f.name, .slice B1 f.takes.length d1, .string f.dest, .slice B2 f.keys.length d2, .slice B3 f.cases_.length d3] 61) := hk3.same _ _ hbox2.out (fun cs t fr e => by cases e; rfl)
   have r4 : W3.cell? ⟨W.heap.size, 4, none⟩ = some (.slice B3 f.cases_.length d3) := heap_cells hbox3 4
   have hz3 : W.heap.size < W3.heap.size := (Array.getElem?_eq_some_iff.1 hbox3).1
   have hkW3 := hide (hkW2.out.trans hk3)
   have hcall := hide (hM2.out W3 hJ3)
   replace hc := hide hc
   clear h1 h2 hM2 hJ3 hk3 hbox3 hh3
   gi_wp2_with fail
   refine ⟨trivial, ?_⟩
   refine (callsIn_wide.2 hcall.out).mono ?_
   rintro e W4 ⟨rfl, h1, h2⟩
   cases hd : runB g (j + f.takes.length + 1) f.cases_.length with
   | false =>
    have hS4 := hide (h2 hd)
    have hrN := hide (show runB g j (f.takes.length + (1 + f.cases_.length)) = false from by rw [hadd.out, hadd2.out, hd]; simp)
    clear h1 h2 hd
    gi_wp2
    exact ⟨_, results_tmp rfl _ _ _, told_no hrN.out hS4.out⟩
   | true =>
    obtain ⟨hJ4, hk4⟩ := h1 hd
    have hrN := hide (show runB g j (f.takes.length + (1 + f.cases_.length)) = true from by rw [hadd.out, hadd2.out, hr.out, hc.out, hd]; rfl)
    have hJN := hide (show J (j + (f.takes.length + (1 + f.cases_.length))) W4 from by rw [show j + (f.takes.length + (1 + f.cases_.length)) = j + f.takes.length + 1 + f.cases_.length by omega]; exact hJ4)
    have hkN := hide (hkW3.out.trans hk4)
    clear h1 h2 hd hJ4 hk4
    gi_wp2
    exact ⟨_, results_tmp rfl _ _ _, told_yes hrN.out hJN.out hkN.out⟩
set_option maxRecDepth 100000 in
set_option maxHeartbeats 4000000 in
theorem tabs_tells {l B B0 : Nat} {w0 : World} {xs : List It} {g : Nat → Bool} {J S : Nat → World → Prop} (hY : Yl l B xs g J S) (hown : OwnFrom B0 J) (hJK : ∀ k W, J k W → Below B w0 W) (A1 A2 A3 A4 A5 A6 A7 : Option Addr) (p : Pg) (c1 c2 c3 c4 c5 c6 c7 : Nat) (hP : PgS w0 B A1 A2 A3 A4 A5 A6 A7 p) (bp bo i j : Nat) (f : Ta) (hi : p.tables[i]? = some f)
  (W : World) (hB0 : B0 ≤ W.heap.size) (hh : Held A1 A2 A3 A4 A5 A6 A7 p c1 c2 c3 c4 c5 c6 c7 l bp bo W) (hx : ∀ k : Nat, k < f.keys.length → xs[j + k]? = some ⟨12, (i : Int), (k : Int), zSt⟩)
  (hx3 : ∀ k : Nat, k < f.actions.length → xs[j + f.keys.length + k]? = some ⟨13, (i : Int), (k : Int), zSt⟩) (hx2 : xs[j + f.keys.length + f.actions.length]? = some ⟨14, (i : Int), 0, zSt⟩) (hJ : J j W) :
  Calls Tryz.prog 78 #[.int .i64 (i : Int), .pointer (some ⟨bp, 0, none⟩), .pointer (some ⟨bo, 0, none⟩)] W (Told xs.length g J S W j (f.keys.length + (f.actions.length + 1))) := by
 have hPW := hP.below (hJK _ _ hJ)
 have hil := (List.getElem?_eq_some_iff.1 hi).1
 have hiz : (i : Int) < (p.tables.length : Int) := by omega
 have lst := hPW.tables.len
 obtain ⟨b, o, ecs, hA, hb, hel, hcell, B1, d1, B2, d2, B3, d3, rfl, hn, hd, hF, hG, hH⟩ := hPW.tables.2 i f hi
 subst hA
 have lf := hF.len
 have lg := hG.len
 have lh := hH.len
 obtain ⟨x0, x1, x2, x3, x4⟩ := srow5 hcell
 have hc := heap_cells hh.prog
 have hcy := heap_cells hh.yield
 obtain ⟨z0, z1, z2, z3, z4, z5, z6⟩ := row7 (w := W) (a := bp) fun i => hc i
 have y0 : W.cell? ⟨bo, 0, none⟩ = some (.func (.yield l) #[] #[]) := hcy 0
 obtain ⟨W1, hW1⟩ : ∃ W1, W.alloc (.cells #[.string f.name, .slice B1 f.keys.length d1, .slice B2 f.actions.length d2, .string f.dname, .slice B3 f.dargs.length d3] 58) = W1 := ⟨_, rfl⟩
 have hb1 : Below W.heap.size W W1 := by rw [← hW1]; exact (Below.refl _ _).alloc (Nat.le_refl _) _
 have hbox : W1.heap[W.heap.size]? = some (.cells #[.string f.name, .slice B1 f.keys.length d1, .slice B2 f.actions.length d2, .string f.dname, .slice B3 f.dargs.length d3] 58) := by rw [← hW1]; exact World.alloc_heap_new W _
 have hc1 := heap_cells hbox
 obtain ⟨v0, v1, v2, v3, v4⟩ := row5 hc1
 have hh1 := hh.kp (Kp.of_below exI hb1)
 have y1 : W1.cell? ⟨bo, 0, none⟩ = some (.func (.yield l) #[] #[]) := heap_cells hh1.yield 0
 have hW1s : W.heap.size < W1.heap.size := (Array.getElem?_eq_some_iff.1 hbox).1
 have hk1 := hide (Kp.of_below exI hb1)
 have hM := hide (many_tells hY 12 (i : Int) f.keys.length j lf hx W1 (own_step_none hown hJ hb1))
 have hM2 := hide (fun (W2 : World) (h : J (j + f.keys.length) W2) => many_tells hY 13 (i : Int) f.actions.length (j + f.keys.length) lg hx3 W2 h)
 have hY2 := hide (fun (W2 : World) (h : J (j + f.keys.length + f.actions.length) W2) => hY _ _ _ W2 hx2 h (itR_zero B 14 (i : Int) 0 W2))
 have hjl := hide ((List.getElem?_eq_some_iff.1 hx2).1)
 have hadd := hide (runB_add g j f.keys.length (f.actions.length + 1))
 have hadd2 := hide (runB_succ g (j + f.keys.length) f.actions.length)
 replace hbox := hide hbox
 replace hh1 := hide hh1
 clear hcell hc hcy hJ hP hPW hF hG hH hh hi hx hx2 hx3 hJK hc1 hb1
 refine (callsIn_wide (n := 3)).1 (callsIn_of_wp_marks Tryz.func78 rfl trivial ?_)
 simp only [Tryz.ntmps78, List.size_toArray, List.length_cons, List.length_nil, Nat.reduceAdd, Nat.reduceSub, Array.replicate_succ, Array.replicate_zero, List.push_toArray, List.append_toArray, List.nil_append, List.cons_append]
 gi_wp2
 refine ⟨trivial, ?_⟩
 refine (callsIn_wide.2 hM.out).mono ?_
 rintro e W2 ⟨rfl, h1, h2⟩
 cases hr : runB g j f.keys.length with
 | false =>
  have hS2 := hide (h2 hr)
  replace hr := hide hr
  clear h1 h2 hM2 hY2
  gi_wp2_with (refine ⟨(fun _ _ => trivial), ?_⟩)
  all_goals exact ⟨_, results_tmp rfl _ _ _, told_less hr.out hS2.out⟩
 | true =>
  obtain ⟨hJ2, hk2⟩ := h1 hr
  have hh2 := hh1.out.kp hk2
  have y2 : W2.cell? ⟨bo, 0, none⟩ = some (.func (.yield l) #[] #[]) := heap_cells hh2.yield 0
  have hbox2 : W2.heap[W.heap.size]? = some (.cells #[.string f.name, .slice B1 f.keys.length d1, .slice B2 f.actions.length d2, .string f.dname, .slice B3 f.dargs.length d3] 58) := hk2.same _ _ hbox.out (fun cs t fr e => by cases e; rfl)
  have q2 : W2.cell? ⟨W.heap.size, 2, none⟩ = some (.slice B2 f.actions.length d2) := heap_cells hbox2 2
  have hz2 : W.heap.size < W2.heap.size := (Array.getElem?_eq_some_iff.1 hbox2).1
  have hkW2 := hide (hk1.out.trans hk2)
  have hcall := hide (hM2.out W2 hJ2)
  replace hr := hide hr
  replace hh2 := hide hh2
  clear h1 h2 hM hJ2 hk2 hbox2
  gi_wp2_with fail
  refine ⟨trivial, ?_⟩
  refine (callsIn_wide.2 hcall.out).mono ?_
  rintro e W3 ⟨rfl, h1, h2⟩
  cases hc : runB g (j + f.keys.length) f.actions.length with
  | false =>
   have hS3 := hide (h2 hc)
   have hrN := hide (show runB g j (f.keys.length + (f.actions.length + 1)) = false from by rw [hadd.out, hadd2.out, hc]; simp)
   clear h1 h2 hc hM2 hY2
   gi_wp2_with (refine ⟨(fun _ _ => trivial), ?_⟩)
   all_goals exact ⟨_, results_tmp rfl _ _ _, told_no hrN.out hS3.out⟩
  | true =>
   obtain ⟨hJ3, hk3⟩ := h1 hc
   have hh3 := hh2.out.kp hk3
   have y3 : W3.cell? ⟨bo, 0, none⟩ = some (.func (.yield l) #[] #[]) := heap_cells hh3.yield 0
   obtain ⟨mm, fn, tmps, assign, body, hy, hR⟩ := hY2.out W3 hJ3
   have hkW3 := hide (hkW2.out.trans hk3)
   replace hc := hide hc
   clear h1 h2 hM2 hY2 hJ3 hk3 hh3
   gi_wp2
   refine (round_wide0 hR).mono ?_
   rintro e W4 ⟨rfl, h1, h2⟩
   cases hd : g (j + f.keys.length + f.actions.length) with
   | false =>
    have hS4 := hide (h2 hd)
    have hrN := hide (show runB g j (f.keys.length + (f.actions.length + 1)) = false from by rw [hadd.out, hadd2.out, hd]; simp)
    clear h1 h2 hd
    gi_wp2
    exact ⟨_, results_tmp rfl _ _ _, told_no hrN.out ⟨_, hjl.out, hS4.out⟩⟩
   | true =>
    obtain ⟨hJ4, hk4⟩ := h1 hd
    have hrN := hide (show runB g j (f.keys.length + (f.actions.length + 1)) = true from by rw [hadd.out, hadd2.out, hr.out, hc.out, hd]; rfl)
    have hJN := hide (show J (j + (f.keys.length + (f.actions.length + 1))) W4 from by rw [show j + (f.keys.length + (f.actions.length + 1)) = j + f.keys.length + f.actions.length + 1 by omega]; exact hJ4)
    have hkN := hide (hkW3.out.trans hk4)
    clear h1 h2 hd hJ4 hk4
    gi_wp2
    exact ⟨_, results_tmp rfl _ _ _, told_yes hrN.out hJN.out hkN.out⟩
end Go.Proofs.YtbbdhknagofghaaGreat
/-! Layer 7: the seven parts of all. -/
namespace Go.Proofs.YtbbdhknagofghaaGreat
open Go.RowKit
def totL (len : Nat → Nat) : Nat → Nat
 | 0 => 0
 | i + 1 => totL len i + (1 + len i)
section
variable {α : Type} {kind : Int} {l : List α} {g : Nat → α → List It} {f : α → Nat}
theorem zip_take (i : Nat) (hi : i < l.length) : l.zipIdx.take (i + 1) = l.zipIdx.take i ++ [(l[i], i)] := by
 rw [List.take_succ_eq_append_getElem (by simpa using hi)]
 simp
theorem pre_len (hg : ∀ i a, (g i a).length = f a) : ∀ i, i ≤ l.length → ((l.zipIdx.take i).flatMap fun x => (⟨kind, (x.2 : Int), 0, zSt⟩ : It) :: g x.2 x.1).length = totL (fun i => (l[i]?).elim 0 f) i
 | 0, _ => by simp [totL]
 | i + 1, hi => by
  have ih := pre_len hg i (by omega)
  rw [zip_take i (by omega), List.flatMap_append, List.length_append, ih]
  simp [totL, List.getElem?_eq_getElem (show i < l.length by omega), hg]
  omega
theorem each_len (hg : ∀ i a, (g i a).length = f a) : (eachI kind l g).length = totL (fun i => (l[i]?).elim 0 f) l.length := by
 have := pre_len (l := l) (kind := kind) hg l.length (Nat.le_refl _)
 rw [List.take_of_length_le (by simp)] at this
 exact this
theorem each_at (hg : ∀ i a, (g i a).length = f a) (i : Nat) (hi : i < l.length) (m : Nat) (hm : m < 1 + f l[i]) :
  (eachI kind l g)[totL (fun i => (l[i]?).elim 0 f) i + m]? = ((⟨kind, (i : Int), 0, zSt⟩ : It) :: g i l[i])[m]? := by
 have h1 := pre_len (l := l) (kind := kind) hg i (by omega)
 have e : eachI kind l g = (l.zipIdx.take i).flatMap (fun x => (⟨kind, (x.2 : Int), 0, zSt⟩ : It) :: g x.2 x.1) ++ (((⟨kind, (i : Int), 0, zSt⟩ : It) :: g i l[i]) ++ (l.zipIdx.drop (i + 1)).flatMap fun x => (⟨kind, (x.2 : Int), 0, zSt⟩ : It) :: g x.2 x.1) := by
  unfold eachI
  have h2 := zip_take (l := l) i hi
  conv => lhs; rw [← List.take_append_drop (i + 1) l.zipIdx, h2]
  simp
 rw [e, ← h1, List.getElem?_append_right (Nat.le_add_right _ _), Nat.add_sub_cancel_left, List.getElem?_append_left (by simp [hg]; omega)]
end
theorem seg {A M C : List It} (m : Nat) (hm : m < M.length) : (A ++ (M ++ C))[A.length + m]? = M[m]? := by
 rw [List.getElem?_append_right (Nat.le_add_right _ _), Nat.add_sub_cancel_left, List.getElem?_append_left hm]
theorem many_get {kind : Int} {a n k : Nat} (hk : k < n) : (manyI kind a n)[k]? = some ⟨kind, (a : Int), (k : Int), zSt⟩ := by
 simp [manyI, hk]
/-- The law for one part: a list whose each-items stand at j.. of xs. -/
theorem part_each {α : Type} {kind : Int} {L : List α} {gi : Nat → α → List It} {f : α → Nat} (hg : ∀ i a, (gi i a).length = f a) {A C xs : List It} (hxs : xs = A ++ (eachI kind L gi ++ C))
  {l B : Nat} {g : Nat → Bool} {J S : Nat → World → Prop} (hY : Yl l B xs g J S) (hn : L.length ≤ 9223372036854775807) (fid : Nat) (lb : Array Value)
  (eg : ∀ args w, (callFunc fid args).run Tryz.prog w = .ok (.enter fid args) w) (W : World)
  (hin : ∀ (i : Nat) (a : α) (j : Nat) (W1 : World), L[i]? = some a → (∀ k, k < f a → xs[j + k]? = (gi i a)[k]?) → J j W1 → Kp exI W W1 → Calls Tryz.prog fid (#[.int .i64 (i : Int)] ++ lb) W1 (Told xs.length g J S W1 j (f a))) (hJ : J A.length W) :
  Calls Tryz.prog 72 #[.int .u8 kind, .int .i64 (L.length : Int), .func (.yield l) #[] #[], .func (.func fid) #[] lb] W (Told xs.length g J S W A.length (eachI kind L gi).length) := by
 rw [each_len hg]
 have htot : ∀ i k, totL (fun i => (L[i]?).elim 0 f) i ≤ totL (fun i => (L[i]?).elim 0 f) (i + k) := fun i k => by
  induction k with
  | zero => exact Nat.le_refl _
  | succ k ih => rw [← Nat.add_assoc, totL]; omega
 have hle : ∀ i (hi : i < L.length), totL (fun i => (L[i]?).elim 0 f) i + (1 + f L[i]) ≤ (eachI kind L gi).length := fun i hi => by
  have h1 := htot (i + 1) (L.length - (i + 1))
  rw [show i + 1 + (L.length - (i + 1)) = L.length by omega] at h1
  rw [each_len hg]
  refine Nat.le_trans (Nat.le_of_eq ?_) h1
  rw [totL, List.getElem?_eq_getElem hi]; rfl
 have hat : ∀ i (hi : i < L.length) (m : Nat), m < 1 + f L[i] → xs[A.length + (totL (fun i => (L[i]?).elim 0 f) i + m)]? = ((⟨kind, (i : Int), 0, zSt⟩ : It) :: gi i L[i])[m]? := fun i hi m hm => by
  rw [hxs, seg _ (by have := hle i hi; omega), each_at hg i hi m hm]
 refine each_tells hY kind L.length hn A.length _ (fun i => (L[i]?).elim 0 f) rfl (fun i => rfl) fid lb eg W (fun i hi => ?_) (fun i hi W1 hJ1 hk1 => ?_) hJ
 ·have := hat i hi 0 (by omega)
  simpa using this
 ·have hf : (L[i]?).elim 0 f = f L[i] := by rw [List.getElem?_eq_getElem hi]; rfl
  show Calls _ _ _ _ (Told _ _ _ _ _ _ ((L[i]?).elim 0 f))
  rw [hf]
  refine hin i L[i] _ W1 (List.getElem?_eq_getElem hi) (fun k hk => ?_) hJ1 hk1
  have := hat i hi (k + 1) (by omega)
  rw [List.getElem?_cons_succ] at this
  rw [← this]; congr 1; omega
end Go.Proofs.YtbbdhknagofghaaGreat

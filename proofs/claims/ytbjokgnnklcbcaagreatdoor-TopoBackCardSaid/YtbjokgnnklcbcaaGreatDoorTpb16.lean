import Derived.Test.YtbjokgnnklcbcaaGreatDoorTpb15
import Derived.Test.YtbjokgnnklcbcaaGreatDoorTpb04
set_option linter.all false
/-! Layer 13: next. -/
namespace Go.Proofs.YtbjokgnnklcbcaaGreatDoor
open Go.RowKit
attribute [local go_sem] run_panic_iface
theorem Grg.setNew {g r i : Nat} {w W : World} (h : Grg g w W) (hr : w.heap.size ≤ r) (v : Value) : Grg g w (W.setCell ⟨r, i, none⟩ v) :=
 ⟨h.os, h.tape, h.output, by rw [setCell_size]; exact h.size, fun k hk hn => (Below.heap_setCell W ⟨r, i, none⟩ v k (by show k ≠ r; omega)).trans (h.block k hk hn)⟩
theorem RdB.setNew {g r i : Nat} {W : World} {l : List Tk} {v1 v2 v3 : Value} (h : RdB W g l v1 v2 v3) (hr : g < r) (v : Value) : RdB (W.setCell ⟨r, i, none⟩ v) g l v1 v2 v3 :=
 h.below (B := g + 1) ((Below.refl _ _).setCell (by show g + 1 ≤ r; omega) _) (Nat.lt_succ_self _)
/-- A token laid into a box of its own. -/
theorem set6 {g r : Nat} {w W : World} {l : List Tk} {v1 v2 v3 : Value} (hG : Grg g w W) (hR : RdB W g l v1 v2 v3) (hr : w.heap.size ≤ r) (hg : g < r) (a0 a1 a2 a3 a4 a5 : Value) :
  Grg g w ((((((W.setCell ⟨r, 0, none⟩ a0).setCell ⟨r, 1, none⟩ a1).setCell ⟨r, 2, none⟩ a2).setCell ⟨r, 3, none⟩ a3).setCell ⟨r, 4, none⟩ a4).setCell ⟨r, 5, none⟩ a5) ∧ RdB ((((((W.setCell ⟨r, 0, none⟩ a0).setCell ⟨r, 1, none⟩ a1).setCell ⟨r, 2, none⟩ a2).setCell ⟨r, 3, none⟩ a3).setCell ⟨r, 4, none⟩ a4).setCell ⟨r, 5, none⟩ a5) g l v1 v2 v3 :=
 ⟨(((((hG.setNew hr _).setNew hr _).setNew hr _).setNew hr _).setNew hr _).setNew hr _, (((((hR.setNew hg _).setNew hg _).setNew hg _).setNew hg _).setNew hg _).setNew hg _⟩
/-- The next token is gone. -/
theorem RdB.step {w : World} {g b o cap : Nat} {l : List Tk} {v1 v2 v3 : Value} (h : RdB w g l v1 v2 v3) (hO : w.cell? ⟨g, 0, none⟩ = some (.slice (some ⟨b, o, none⟩) l.length cap)) (hk : (headT l).kind ≠ 0) :
  RdB (w.setCell ⟨g, 0, none⟩ (.slice (some ⟨b, o + 6, none⟩) (l.length - 1) (cap - 1))) g (advT l) v1 v2 v3 := by
 have hA := advT_lt h.1 hk
 have hd : advT l = l.tail := by unfold advT; rw [if_neg hk]
 obtain ⟨h0, A, cap', h1, h2, h3, h4⟩ := h
 have hc : A = some ⟨b, o, none⟩ ∧ cap' = cap := by
  have := hO
  simp [World.cell?, h3] at this
  exact ⟨this.1, this.2⟩
 obtain ⟨rfl, rfl⟩ := hc
 refine ⟨h0.adv, some ⟨b, o + 6, none⟩, cap' - 1, by omega, by omega, ?_, ?_⟩
 ·have : (w.setCell ⟨g, 0, none⟩ (.slice (some ⟨b, o + 6, none⟩) (l.length - 1) (cap' - 1))).heap[g]? = some (.cells ((#[.slice (some ⟨b, o, none⟩) l.length cap', v1, v2, v3] : Array Value).setIfInBounds 0 (.slice (some ⟨b, o + 6, none⟩) (l.length - 1) (cap' - 1))) 54 (0, 0)) := by
   simp [World.setCell, Array.getElem?_modify, h3]
  rw [this, show (advT l).length = l.length - 1 by omega]
  rfl
 ·have h5 : Sl 6 rTk w g (some ⟨b, o + 6, none⟩) (advT l) := by
   rw [hd]
   refine ⟨by rw [List.length_tail]; have := h4.1; omega, fun i x hx => ?_⟩
   rw [List.getElem?_tail] at hx
   obtain ⟨b', o', ecs, e1, e2, e3, e4, e5⟩ := h4.2 (i + 1) x hx
   injection e1 with e1
   injection e1 with e1 e6 e7
   subst e1 e6
   refine ⟨b, o + 6, ecs, rfl, e2, e3, fun j u hu => ?_, e5⟩
   have := e4 j u hu
   rw [show o + 6 + i * 6 + j = o + (i + 1) * 6 + j by omega]
   exact this
  exact h5.keep sta_tk fun q hq => World.cell?_of_block (Below.heap_setCell w ⟨g, 0, none⟩ _ q.block (by show q.block ≠ g; omega))
set_option maxRecDepth 100000 in
set_option maxHeartbeats 4000000 in
theorem next13p {w : World} {g : Nat} {l : List Tk} {v1 v2 v3 : Value} (h : RdB w g l v1 v2 v3) : Calls Tryz.prog 48 #[.pointer (some ⟨g, 0, none⟩)] w fun e w' => e = .returned (tkA (headT l)) ∧ Grg g w w' ∧ RdB w' g (advT l) v1 v2 v3 := by
 obtain ⟨b, o, cap, hO⟩ := h.open_
 obtain ⟨lt, bg, pos, le, ml, c0, c1, c2, c3, f0, f1, f2, f3, k0, k1, k2, k3, k4, k5⟩ := hO
 obtain ⟨wa, hwa, hba, hsa, hla, z0, z1, z2, z3, z4, z5⟩ := tbox13 w 0 0 0 0 0 ⟨#[]⟩
 have hfa : ∀ i, wa.frozen? ⟨w.heap.size, i, none⟩ = false := by intro i; rw [← hwa]; exact World.frozen?_alloc_at _ _ _ _ rfl
 have kk := bcell' hba.out
 have d0 := (kk.1 g 0 lt).trans c0
 have e0 := (kk.2 g 0 lt).trans f0
 have hbl : b < w.heap.size := by omega
 have q0 := (kk.1 b o hbl).trans k0
 have q1 := (kk.1 b (o + 1) hbl).trans k1
 have q2 := (kk.1 b (o + 2) hbl).trans k2
 have q3 := (kk.1 b (o + 3) hbl).trans k3
 have q4 := (kk.1 b (o + 4) hbl).trans k4
 have q5 := (kk.1 b (o + 5) hbl).trans k5
 have hRa := h.below hba.out lt
 have hGa := Grg.of (g := g) hba.out
 have hlg : g < wa.heap.size := by omega
 have hlb : b < wa.heap.size := by omega
 have lz : (0 : Int) < (l.length : Int) := by omega
 have hk1 : (headT l).kind ≠ 0 → 2 ≤ cap := fun hk => by
  have h1 := advT_lt h.1 hk
  have h2 := List.length_pos_iff.2 h.1.adv.ne
  omega
 have hadv0 : (headT l).kind = 0 → advT l = l := fun hk => by unfold advT; rw [if_pos hk]
 have hstep := fun (W : World) (hW : RdB W g l v1 v2 v3) (hc : W.cell? ⟨g, 0, none⟩ = some (.slice (some ⟨b, o, none⟩) l.length cap)) (hk : (headT l).kind ≠ 0) => hW.step hc hk
 clear k0 k1 k2 k3 k4 k5 c0 c1 c2 c3 f0 f1 f2 f3 kk
 generalize headT l = t at q0 q1 q2 q3 q4 q5 hk1 hadv0 hstep ⊢
 obtain ⟨k, s, wd, m, pl⟩ := t
 simp only at q0 q1 q2 q3 q4 q5 hk1 hadv0 hstep
 unfold tkA
 simp only
 generalize (⟨s.toArray⟩ : ByteArray) = S at q1 ⊢
 generalize ((m / 18446744073709551616 : Nat) : Int) = hi at q3 ⊢
 generalize ((m % 18446744073709551616 : Nat) : Int) = lo at q4 ⊢
 obtain ⟨wb, hwb, hbb, hsb, hlb2, x0, x1, x2, x3, x4, x5⟩ := tbox13 wa k wd hi lo pl S
 have kb := bcell' hbb.out
 have d0' := (kb.1 g 0 hlg).trans d0
 have e0' := (kb.2 g 0 hlg).trans e0
 have hRb := hRa.below hbb.out hlg
 have hGb := hGa.trans (Grg.of (g := g) hbb.out)
 have y0 := (kb.1 w.heap.size 0 hla).trans z0
 have y1 := (kb.1 w.heap.size 1 hla).trans z1
 have y2 := (kb.1 w.heap.size 2 hla).trans z2
 have y3 := (kb.1 w.heap.size 3 hla).trans z3
 have y4 := (kb.1 w.heap.size 4 hla).trans z4
 have y5 := (kb.1 w.heap.size 5 hla).trans z5
 have g0 := (kb.2 w.heap.size 0 hla).trans (hfa 0)
 have g1 := (kb.2 w.heap.size 1 hla).trans (hfa 1)
 have g2 := (kb.2 w.heap.size 2 hla).trans (hfa 2)
 have g3 := (kb.2 w.heap.size 3 hla).trans (hfa 3)
 have g4 := (kb.2 w.heap.size 4 hla).trans (hfa 4)
 have g5 := (kb.2 w.heap.size 5 hla).trans (hfa 5)
 have hgn : g ≠ w.heap.size := by omega
 have hwn : w.heap.size ≠ g := by omega
 have hlw : w.heap.size < wb.heap.size := by omega
 have hlg2 : g < wb.heap.size := by omega
 have hpre := hide hRb
 have hGp := hide hGb
 have hstep' := hide (hstep wb hRb d0')
 clear h hRa hGa hRb hGb kb z0 z1 z2 z3 z4 z5 hfa hstep hba hbb
 go_enter Tryz.func48, Tryz.ntmps48
 by_cases hk : k = 0
 ·have ek : ((k : Int) != 0) = false := by simp [hk]
  have ha := hide (hadv0 hk)
  clear hk hk1 hadv0 hstep'
  go_wp2
  obtain ⟨r1, r2⟩ := set6 (r := w.heap.size) hGp.out hpre.out (Nat.le_refl _) lt (.int .u8 (k : Int)) (.string S) (.int .i64 (wd : Int)) (.int .u64 hi) (.int .u64 lo) (.int .i64 (pl : Int))
  refine bodyPost_ret (v := .agg #[.int .u8 (k : Int), .string S, .int .i64 (wd : Int), .int .u64 hi, .int .u64 lo, .int .i64 (pl : Int)]) (by simp [results, Tryz.results48, go_sem, y0, y1, y2, y3, y4, y5]) rfl ⟨rfl, r1, ?_⟩
  rw [ha.out]
  exact r2
 ·have ek : ((k : Int) != 0) = true := by simp; omega
  have hc2 := hk1 hk
  have hc1 : ¬ cap = 1 := by omega
  have hst := hide (hstep'.out hk)
  have hz1 : (1 : Int) ≤ (l.length : Int) := by omega
  clear hk hk1 hadv0 hstep'
  go_wp2
  have hgs := hGp.out.trans (Grg.set g wb 0 (.slice (some ⟨b, o + 6, none⟩) (l.length - 1) (cap - 1)))
  refine bodyPost_ret (v := .agg #[.int .u8 (k : Int), .string S, .int .i64 (wd : Int), .int .u64 hi, .int .u64 lo, .int .i64 (pl : Int)]) (by simp [results, Tryz.results48, go_sem, y0, y1, y2, y3, y4, y5, hgn, hwn]) rfl ⟨rfl, ?_⟩
  exact set6 (r := w.heap.size) hgs hst.out (Nat.le_refl _) lt (.int .u8 (k : Int)) (.string S) (.int .i64 (wd : Int)) (.int .u64 hi) (.int .u64 lo) (.int .i64 (pl : Int))
end Go.Proofs.YtbjokgnnklcbcaaGreatDoor
/-! Layer 13: want, name. -/
namespace Go.Proofs.YtbjokgnnklcbcaaGreatDoor
open Go.RowKit
attribute [local go_sem] run_panic_iface
/-- How a step of the reader ends, that takes a mark off. -/
def wantE (g : Nat) (w : World) (v1 v2 v3 : Value) (r : Except (Int × Nat) (List Tk)) (e : Ending) (w' : World) : Prop :=
 Grg g w w' ∧ match r with
  | .ok l' => e = .returned (.tuple #[]) ∧ RdB w' g l' v1 v2 v3
  | .error x => e = pwr x
set_option maxRecDepth 100000 in
set_option maxHeartbeats 4000000 in
theorem want13p (x : ByteArray) {w : World} {g : Nat} {l : List Tk} {v1 v2 v3 : Value} (h : RdB w g l v1 v2 v3) : Calls Tryz.prog 52 #[.pointer (some ⟨g, 0, none⟩), .string x] w (wantE g w v1 v2 v3 (wantT x.data.toList l)) := by
 obtain ⟨b, o, cap, hO⟩ := h.open_
 obtain ⟨lt, bg, pos, le, ml, c0, c1, c2, c3, f0, f1, f2, f3, k0, k1, k2, k3, k4, k5⟩ := hO
 have hI := hide (fun d os => is13 x (h.below (below_regrown w d os) lt))
 have hgc := gcell w
 have hbl : b < w.heap.size := by omega
 have lz : (0 : Int) < (l.length : Int) := by omega
 have hv := hide (show wantT x.data.toList l = if isT x.data.toList l then .ok (advT l) else .error (4, (headT l).pl) from rfl)
 generalize wantT x.data.toList l = RES at hv ⊢
 have hA := hide (fun (W : World) => ask13 (isT x.data.toList l) (headT l) 4 W)
 generalize hbz : isT x.data.toList l = bz at hI hv hA
 have hN := hide (fun (W : World) (hW : Below w.heap.size w W) => next13p (h.below hW lt))
 have hpl : (headT l).pl = (headT l).pl := rfl
 generalize headT l = t at k0 k1 k2 k3 k4 k5 hv hA hN
 obtain ⟨k, s, wd, m, pl⟩ := t
 unfold tkA at hA hN
 simp only at k0 k1 k2 k3 k4 k5 hv hA hN
 generalize (⟨s.toArray⟩ : ByteArray) = S at k1 hA hN
 generalize ((m / 18446744073709551616 : Nat) : Int) = hi at k3 hA hN
 generalize ((m % 18446744073709551616 : Nat) : Int) = lo at k4 hA hN
 clear hbz hpl
 clear f0 f1 f2 f3 c1 c2 c3 h
 cases bz with
 | true =>
  have hv' := hide (show RES = .ok (advT l) from by rw [hv.out]; rfl)
  simp only [if_true] at hA
  clear hv
  go_enter Tryz.func52, Tryz.ntmps52
  go_wp2_with fail
  refine wp_region_quiet_tail 9 (by kernel_rfl) (by kernel_rfl) ?_
  simp only [List.take_succ_cons, List.take_zero, List.drop_succ_cons, List.drop_zero]
  repeat (any_goals (first | go_big_quiet_step ((go_at_call 46; with_reducible exact Calls.regrown_of (hI.out _ _))) | quiet_step ((go_at_call 46; with_reducible exact Calls.regrown_of (hI.out _ _)))))
  refine wpQuiet_nil ?_
  intro w1 hw1
  go_wp2_with (first
   | (go_at_call 47; refine (hA.out _).mono ?_; rintro e w2 ⟨rfl, hb2⟩; have hb3 := hw1.trans (hb2.mono hw1.size))
   | (go_at_call 48; refine (hN.out _ hb3).mono ?_; rintro e w4 ⟨rfl, hG4, hR4⟩))
  go_end0
  unfold wantE
  rw [hv'.out]
  exact ⟨(Grg.of hb3).trans hG4, rfl, hR4⟩
 | false =>
  have hv' := hide (show RES = .error (4, pl) from by rw [hv.out]; rfl)
  simp only [Bool.false_eq_true, if_false] at hA
  clear hv
  go_enter Tryz.func52, Tryz.ntmps52
  go_wp2_with fail
  refine wp_region_quiet_tail 9 (by kernel_rfl) (by kernel_rfl) ?_
  simp only [List.take_succ_cons, List.take_zero, List.drop_succ_cons, List.drop_zero]
  repeat (any_goals (first | go_big_quiet_step ((go_at_call 46; with_reducible exact Calls.regrown_of (hI.out _ _))) | quiet_step ((go_at_call 46; with_reducible exact Calls.regrown_of (hI.out _ _)))))
  refine wpQuiet_nil ?_
  intro w1 hw1
  go_wp2_with (go_at_call 47; refine (hA.out _).mono ?_; rintro e w2 ⟨rfl, hb2⟩; have hb3 := hw1.trans (hb2.mono hw1.size))
  refine ⟨rfl, ?_⟩
  unfold wantE
  rw [hv'.out]
  exact ⟨Grg.of hb3, rfl⟩
end Go.Proofs.YtbjokgnnklcbcaaGreatDoor
/-! Layer 13: name. -/
namespace Go.Proofs.YtbjokgnnklcbcaaGreatDoor
open Go.RowKit
attribute [local go_sem] run_panic_iface
/-- How a step of the reader ends, that hands a token back. -/
def nameE (g : Nat) (w : World) (v1 v2 v3 : Value) (t : Tk) (r : Except (Int × Nat) (List UInt8 × List Tk)) (e : Ending) (w' : World) : Prop :=
 Grg g w w' ∧ match r with
  | .ok x => e = .returned (tkA t) ∧ RdB w' g x.2 v1 v2 v3
  | .error x => e = pwr x
/-- The box that a result lies in, behind other steps. -/
theorem keep6 {wa w2 : World} {r g : Nat} (hG : Grg g wa w2) (hr : r < wa.heap.size) (hn : r ≠ g) {v0 v1 v2 v3 v4 v5 : Value} (z0 : wa.cell? ⟨r, 0, none⟩ = some v0) (z1 : wa.cell? ⟨r, 1, none⟩ = some v1) (z2 : wa.cell? ⟨r, 2, none⟩ = some v2) (z3 : wa.cell? ⟨r, 3, none⟩ = some v3) (z4 : wa.cell? ⟨r, 4, none⟩ = some v4) (z5 : wa.cell? ⟨r, 5, none⟩ = some v5) (hf : ∀ i, wa.frozen? ⟨r, i, none⟩ = false) :
  w2.cell? ⟨r, 0, none⟩ = some v0 ∧ w2.cell? ⟨r, 1, none⟩ = some v1 ∧ w2.cell? ⟨r, 2, none⟩ = some v2 ∧ w2.cell? ⟨r, 3, none⟩ = some v3 ∧ w2.cell? ⟨r, 4, none⟩ = some v4 ∧ w2.cell? ⟨r, 5, none⟩ = some v5 ∧ ∀ i, w2.frozen? ⟨r, i, none⟩ = false :=
 ⟨(hG.cell hr hn).trans z0, (hG.cell hr hn).trans z1, (hG.cell hr hn).trans z2, (hG.cell hr hn).trans z3, (hG.cell hr hn).trans z4, (hG.cell hr hn).trans z5, fun i => (hG.frozen hr hn).trans (hf i)⟩
set_option maxRecDepth 100000 in
set_option maxHeartbeats 4000000 in
theorem name13p {w : World} {g : Nat} {l : List Tk} {v1 v2 v3 : Value} {mm : Int} (h : RdB w g l v1 v2 v3) (hg0 : 0 < g) (hm : w.cell? ⟨0, 0, none⟩ = some (.int .i64 mm)) :
  Calls Tryz.prog 49 #[.pointer (some ⟨g, 0, none⟩)] w (nameE g w v1 v2 v3 (headT l) (nameT l)) := by
 have lt := h.lt
 obtain ⟨wa, hwa, hba, hsa, hla, z0, z1, z2, z3, z4, z5⟩ := tbox13 w 0 0 0 0 0 ⟨#[]⟩
 have hfa : ∀ i, wa.frozen? ⟨w.heap.size, i, none⟩ = false := by intro i; rw [← hwa]; exact World.frozen?_alloc_at _ _ _ _ rfl
 have hRa := h.below hba.out lt
 have hma := ((bcell' hba.out).1 0 0 (by omega)).trans hm
 have hN := hide (next13p hRa)
 have hGa := hide (Grg.of (g := g) hba.out)
 have hv := hide (show nameT l = if nmT (headT l) then .ok ((headT l).s, advT l) else .error (4, (headT l).pl) from rfl)
 have hsz := h.1.head
 have hA := hide (fun (b : Bool) (W : World) => ask13 b (headT l) 4 W)
 unfold nmT at hv
 generalize nameT l = RES at hv ⊢
 generalize headT l = t at hv hN hsz hA ⊢
 obtain ⟨k, s, wd, m, pl⟩ := t
 unfold tkA at hA hN
 simp only at hv hA hN hsz
 have hI := hide (fun (W : World) (hW : W.cell? ⟨0, 0, none⟩ = some (.int .i64 mm)) => isName_any ⟨s.toArray⟩ mm W (by show s.toArray.size ≤ _; simp; unfold maxLen; omega) hW)
 have hQ1 := hide (fun (W : World) (h1 : Grg g w W) (h2 : RdB W g (advT l) v1 v2 v3) (h3 : RES = .ok (s, advT l)) => show nameE g w v1 v2 v3 ⟨k, s, wd, m, pl⟩ RES (.returned (tkA ⟨k, s, wd, m, pl⟩)) W from by rw [h3]; exact ⟨h1, rfl, h2⟩)
 have hQ2 := hide (fun (W : World) (h1 : Grg g w W) (h3 : RES = .error (4, pl)) => show nameE g w v1 v2 v3 ⟨k, s, wd, m, pl⟩ RES (pwr (4, pl)) W from by rw [h3]; exact ⟨h1, rfl⟩)
 generalize nameE g w v1 v2 v3 ⟨k, s, wd, m, pl⟩ RES = Q at hQ1 hQ2 ⊢
 unfold tkA at hQ1
 simp only at hQ1
 generalize (⟨s.toArray⟩ : ByteArray) = S at hv hI hA hN hQ1
 generalize hhi : ((m / 18446744073709551616 : Nat) : Int) = hi at hA hN hQ1
 generalize hlo : ((m % 18446744073709551616 : Nat) : Int) = lo at hA hN hQ1
 clear h hm hhi hlo hsz
 have hwg : w.heap.size ≠ g := by omega
 have hgw : g ≠ w.heap.size := by omega
 go_enter Tryz.func49, Tryz.ntmps49
 go_upto_region 2 with (go_at_call 48; refine hN.out.mono ?_; rintro e w2 ⟨rfl, hG2, hR2⟩; obtain ⟨w3, hw3, hb3, hs3, hl3, x0, x1, x2, x3, x4, x5⟩ := tbox13 w2 k wd hi lo pl S)
 obtain ⟨y0, y1, y2, y3, y4, y5, yf⟩ := keep6 hG2 hla hwg z0 z1 z2 z3 z4 z5 hfa
 have hG3 := hG2.trans (Grg.of (g := g) hb3.out)
 obtain ⟨u0, u1, u2, u3, u4, u5, uf⟩ := keep6 hG3 hla hwg z0 z1 z2 z3 z4 z5 hfa
 have hm3 : w3.cell? ⟨0, 0, none⟩ = some (.int .i64 mm) := (hG3.cell (by omega) (by omega)).trans hma
 have hR3 := hR2.below hb3.out hR2.lt
 have hz3 := hG3.size
 have g0 := uf 0
 have g1 := uf 1
 have g2 := uf 2
 have g3 := uf 3
 have g4 := uf 4
 have g5 := uf 5
 have hlw : w.heap.size < w3.heap.size := by omega
 have hIq := hide (fun d os => (hI.out (Go.Sort.grow (redrawn w3 d) os) ((gcell w3 d os 0 0 (by omega)).trans hm3)).mono fun e w' h => (⟨h.1, h.2 ▸ Below.refl _ _⟩ : e = .returned (.bool (nameB S)) ∧ Below (Go.Sort.grow (redrawn w3 d) os).heap.size (Go.Sort.grow (redrawn w3 d) os) w'))
 have hG3w := hide (hGa.out.trans hG3)
 replace hR3 := hide hR3
 have hgc := gcell w3
 clear hG2 hR2 hw3 hb3 hs3 y0 y1 y2 y3 y4 y5 yf uf z0 z1 z2 z3 z4 z5 hfa hN hG3 hma hRa hI hm3
 generalize nameB S = nb at hv hIq
 by_cases hk : k = 1
 ·have ek : ((k : Int) == 1) = true := by rw [beq_iff_eq]; omega
  rw [show (k == 1) = true from by simp [hk], Bool.true_and] at hv
  clear hk
  cases nb with
  | true =>
   have hv' := hide (show RES = .ok (s, advT l) from by rw [hv.out]; rfl)
   clear hv
   have hA' := hide (fun W => hA.out true W)
   simp only [if_true] at hA'
   clear hA
   go_wp2_with fail
   refine wp_region_quiet_tail 9 (by kernel_rfl) (by kernel_rfl) ?_
   simp only [List.take_succ_cons, List.take_zero, List.drop_succ_cons, List.drop_zero]
   repeat (any_goals (first | go_big_quiet_step ((go_at_call 29; with_reducible exact Calls.regrown_of (hIq.out _ _))) | quiet_step ((go_at_call 29; with_reducible exact Calls.regrown_of (hIq.out _ _)))))
   refine wpQuiet_nil ?_
   intro w4 hw4
   go_wp2_with (go_at_call 47; refine (hA'.out _).mono ?_; rintro e w5 ⟨rfl, hb5⟩; have hb6 := hw4.trans (hb5.mono hw4.size); have kk := bcell' hb6; have p0 := (kk.1 _ 0 hlw).trans u0; have p1 := (kk.1 _ 1 hlw).trans u1; have p2 := (kk.1 _ 2 hlw).trans u2; have p3 := (kk.1 _ 3 hlw).trans u3; have p4 := (kk.1 _ 4 hlw).trans u4; have p5 := (kk.1 _ 5 hlw).trans u5; have r0 := (kk.2 _ 0 hlw).trans g0; have r1 := (kk.2 _ 1 hlw).trans g1; have r2 := (kk.2 _ 2 hlw).trans g2; have r3 := (kk.2 _ 3 hlw).trans g3; have r4 := (kk.2 _ 4 hlw).trans g4; have r5 := (kk.2 _ 5 hlw).trans g5; have n0 := (kk.1 _ 0 hl3).trans x0; have n1 := (kk.1 _ 1 hl3).trans x1; have n2 := (kk.1 _ 2 hl3).trans x2; have n3 := (kk.1 _ 3 hl3).trans x3; have n4 := (kk.1 _ 4 hl3).trans x4; have n5 := (kk.1 _ 5 hl3).trans x5)
   obtain ⟨q1, q2⟩ := set6 (r := w.heap.size) (hG3w.out.trans (Grg.of hb6)) (hR3.out.below hb6 hR3.out.lt) (Nat.le_refl _) lt (.int .u8 (k : Int)) (.string S) (.int .i64 (wd : Int)) (.int .u64 hi) (.int .u64 lo) (.int .i64 (pl : Int))
   refine bodyPost_ret (v := .agg #[.int .u8 (k : Int), .string S, .int .i64 (wd : Int), .int .u64 hi, .int .u64 lo, .int .i64 (pl : Int)]) (by simp [results, Tryz.results49, go_sem, p0, p1, p2, p3, p4, p5]) rfl (hQ1.out _ q1 q2 hv'.out)
  | false =>
   have hv' := hide (show RES = .error (4, pl) from by rw [hv.out]; rfl)
   clear hv
   have hA' := hide (fun W => hA.out false W)
   simp only [Bool.false_eq_true, if_false] at hA'
   clear hA
   go_wp2_with fail
   refine wp_region_quiet_tail 9 (by kernel_rfl) (by kernel_rfl) ?_
   simp only [List.take_succ_cons, List.take_zero, List.drop_succ_cons, List.drop_zero]
   repeat (any_goals (first | go_big_quiet_step ((go_at_call 29; with_reducible exact Calls.regrown_of (hIq.out _ _))) | quiet_step ((go_at_call 29; with_reducible exact Calls.regrown_of (hIq.out _ _)))))
   refine wpQuiet_nil ?_
   intro w4 hw4
   go_wp2_with (go_at_call 47; refine (hA'.out _).mono ?_; rintro e w5 ⟨rfl, hb5⟩; have hb6 := hw4.trans (hb5.mono hw4.size))
   exact ⟨rfl, hQ2.out _ (hG3w.out.trans (Grg.of hb6)) hv'.out⟩
 ·have ek : ((k : Int) == 1) = false := by rw [beq_eq_false_iff_ne]; omega
  have hv' := hide (show RES = .error (4, pl) from by rw [hv.out, show (k == 1) = false from by simp [hk]]; rfl)
  clear hv hk
  have hA' := hide (fun W => hA.out false W)
  simp only [Bool.false_eq_true, if_false] at hA'
  clear hA
  go_wp2_with fail
  refine wp_region_quiet_tail 9 (by kernel_rfl) (by kernel_rfl) ?_
  simp only [List.take_succ_cons, List.take_zero, List.drop_succ_cons, List.drop_zero]
  repeat (any_goals (first | go_big_quiet_step ((go_at_call 29; with_reducible exact Calls.regrown_of (hIq.out _ _))) | quiet_step ((go_at_call 29; with_reducible exact Calls.regrown_of (hIq.out _ _)))))
  refine wpQuiet_nil ?_
  intro w4 hw4
  go_wp2_with (go_at_call 47; refine (hA'.out _).mono ?_; rintro e w5 ⟨rfl, hb5⟩; have hb6 := hw4.trans (hb5.mono hw4.size))
  exact ⟨rfl, hQ2.out _ (hG3w.out.trans (Grg.of hb6)) hv'.out⟩
end Go.Proofs.YtbjokgnnklcbcaaGreatDoor

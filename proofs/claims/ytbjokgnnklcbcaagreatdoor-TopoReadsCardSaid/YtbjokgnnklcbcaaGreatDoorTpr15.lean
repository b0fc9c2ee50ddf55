import Derived.Test.YtbjokgnnklcbcaaGreatDoorTpr14
import Derived.Test.YtbjokgnnklcbcaaGreatDoorTpr03
import Derived.Test.YtbjokgnnklcbcaaGreatDoorTpr02
import Derived.Test.YtbjokgnnklcbcaaGreatDoorShelf
set_option linter.all false
/-! Layer 13: name. -/
namespace Go.Proofs.YtbjokgnnklcbcaaGreatDoor
open Go.RowKit
attribute [local go_sem] run_panic_iface
/-- How a step of the reader ends, that hands a token back. -/
def nameE (g : Nat) (w : World) (v1 v2 v3 : Value) (t : Tk) (r : Except (Int × Nat) (List UInt8 × List Tk)) (e : Ending) (w' : World) : Prop :=
 Grg g w w' ∧ match r with
  | .ok x => e = .returned (tkA t) ∧ RdB w' g x.2 v1 v2 v3
  | .error x => e = pwr x
/-- The box that a result lies in, behind other steps. -/
theorem keep6 {wa w2 : World} {r g : Nat} (hG : Grg g wa w2) (hr : r < wa.heap.size) (hn : r ≠ g) {v0 v1 v2 v3 v4 v5 : Value} (z0 : wa.cell? ⟨r, 0, none⟩ = some v0) (z1 : wa.cell? ⟨r, 1, none⟩ = some v1) (z2 : wa.cell? ⟨r, 2, none⟩ = some v2) (z3 : wa.cell? ⟨r, 3, none⟩ = some v3) (z4 : wa.cell? ⟨r, 4, none⟩ = some v4) (z5 : wa.cell? ⟨r, 5, none⟩ = some v5) (hf : ∀ i, wa.frozen? ⟨r, i, none⟩ = false) :
  w2.cell? ⟨r, 0, none⟩ = some v0 ∧ w2.cell? ⟨r, 1, none⟩ = some v1 ∧ w2.cell? ⟨r, 2, none⟩ = some v2 ∧ w2.cell? ⟨r, 3, none⟩ = some v3 ∧ w2.cell? ⟨r, 4, none⟩ = some v4 ∧ w2.cell? ⟨r, 5, none⟩ = some v5 ∧ ∀ i, w2.frozen? ⟨r, i, none⟩ = false :=
 ⟨(hG.cell hr hn).trans z0, (hG.cell hr hn).trans z1, (hG.cell hr hn).trans z2, (hG.cell hr hn).trans z3, (hG.cell hr hn).trans z4, (hG.cell hr hn).trans z5, fun i => (hG.frozen hr hn).trans (hf i)⟩
set_option maxRecDepth 100000 in
set_option maxHeartbeats 4000000 in
theorem name13p {w : World} {g : Nat} {l : List Tk} {v1 v2 v3 : Value} {mm : Int} (h : RdB w g l v1 v2 v3) (hg0 : 0 < g) (hm : w.cell? ⟨0, 0, none⟩ = some (.int .i64 mm)) :
  Calls Tryz.prog 49 #[.pointer (some ⟨g, 0, none⟩)] w (nameE g w v1 v2 v3 (headT l) (nameT l)) := by
 have lt := h.lt
 obtain ⟨wa, hwa, hba, hsa, hla, z0, z1, z2, z3, z4, z5⟩ := tbox13 w 0 0 0 0 0 ⟨#[]⟩
 have hfa : ∀ i, wa.frozen? ⟨w.heap.size, i, none⟩ = false := by intro i; rw [← hwa]; exact World.frozen?_alloc_at _ _ _ _ rfl
 have hRa := h.below hba.out lt
 have hma := ((bcell' hba.out).1 0 0 (by omega)).trans hm
 have hN := hide (next13p hRa)
 have hGa := hide (Grg.of (g := g) hba.out)
 have hv := hide (show nameT l = if nmT (headT l) then .ok ((headT l).s, advT l) else .error (4, (headT l).pl) from rfl)
 have hsz := h.1.head
 have hA := hide (fun (b : Bool) (W : World) => ask13 b (headT l) 4 W)
 unfold nmT at hv
 generalize nameT l = RES at hv ⊢
 generalize headT l = t at hv hN hsz hA ⊢
 obtain ⟨k, s, wd, m, pl⟩ := t
 unfold tkA at hA hN
 simp only at hv hA hN hsz
 have hI := hide (fun (W : World) (hW : W.cell? ⟨0, 0, none⟩ = some (.int .i64 mm)) => isName_any ⟨s.toArray⟩ mm W (by show s.toArray.size ≤ _; simp; unfold maxLen; omega) hW)
 have hQ1 := hide (fun (W : World) (h1 : Grg g w W) (h2 : RdB W g (advT l) v1 v2 v3) (h3 : RES = .ok (s, advT l)) => show nameE g w v1 v2 v3 ⟨k, s, wd, m, pl⟩ RES (.returned (tkA ⟨k, s, wd, m, pl⟩)) W from by rw [h3]; exact ⟨h1, rfl, h2⟩)
 have hQ2 := hide (fun (W : World) (h1 : Grg g w W) (h3 : RES = .error (4, pl)) => show nameE g w v1 v2 v3 ⟨k, s, wd, m, pl⟩ RES (pwr (4, pl)) W from by rw [h3]; exact ⟨h1, rfl⟩)
 generalize nameE g w v1 v2 v3 ⟨k, s, wd, m, pl⟩ RES = Q at hQ1 hQ2 ⊢
 unfold tkA at hQ1
 simp only at hQ1
 generalize (⟨s.toArray⟩ : ByteArray) = S at hv hI hA hN hQ1
 generalize hhi : ((m / 18446744073709551616 : Nat) : Int) = hi at hA hN hQ1
 generalize hlo : ((m % 18446744073709551616 : Nat) : Int) = lo at hA hN hQ1
 clear h hm hhi hlo hsz
 have hwg : w.heap.size ≠ g := by omega
 have hgw : g ≠ w.heap.size := by omega
 go_enter Tryz.func49, Tryz.ntmps49
 go_upto_region 2 with (go_at_call 48; refine hN.out.mono ?_; rintro e w2 ⟨rfl, hG2, hR2⟩; obtain ⟨w3, hw3, hb3, hs3, hl3, x0, x1, x2, x3, x4, x5⟩ := tbox13 w2 k wd hi lo pl S)
 obtain ⟨y0, y1, y2, y3, y4, y5, yf⟩ := keep6 hG2 hla hwg z0 z1 z2 z3 z4 z5 hfa
 have hG3 := hG2.trans (Grg.of (g := g) hb3.out)
 obtain ⟨u0, u1, u2, u3, u4, u5, uf⟩ := keep6 hG3 hla hwg z0 z1 z2 z3 z4 z5 hfa
 have hm3 : w3.cell? ⟨0, 0, none⟩ = some (.int .i64 mm) := (hG3.cell (by omega) (by omega)).trans hma
 have hR3 := hR2.below hb3.out hR2.lt
 have hz3 := hG3.size
 have g0 := uf 0
 have g1 := uf 1
 have g2 := uf 2
 have g3 := uf 3
 have g4 := uf 4
 have g5 := uf 5
 have hlw : w.heap.size < w3.heap.size := by omega
 have hIq := hide (fun d os => (hI.out (Go.Sort.grow (redrawn w3 d) os) ((gcell w3 d os 0 0 (by omega)).trans hm3)).mono fun e w' h => (⟨h.1, h.2 ▸ Below.refl _ _⟩ : e = .returned (.bool (nameB S)) ∧ Below (Go.Sort.grow (redrawn w3 d) os).heap.size (Go.Sort.grow (redrawn w3 d) os) w'))
 have hG3w := hide (hGa.out.trans hG3)
 replace hR3 := hide hR3
 have hgc := gcell w3
 clear hG2 hR2 hw3 hb3 hs3 y0 y1 y2 y3 y4 y5 yf uf z0 z1 z2 z3 z4 z5 hfa hN hG3 hma hRa hI hm3
 generalize nameB S = nb at hv hIq
 by_cases hk : k = 1
 ·have ek : ((k : Int) == 1) = true := by rw [beq_iff_eq]; omega
  rw [show (k == 1) = true from by simp [hk], Bool.true_and] at hv
  clear hk
  cases nb with
  | true =>
   have hv' := hide (show RES = .ok (s, advT l) from by rw [hv.out]; rfl)
   clear hv
   have hA' := hide (fun W => hA.out true W)
   simp only [if_true] at hA'
   clear hA
   go_wp2_with fail
   refine wp_region_quiet_tail 9 (by kernel_rfl) (by kernel_rfl) ?_
   simp only [List.take_succ_cons, List.take_zero, List.drop_succ_cons, List.drop_zero]
   repeat (any_goals (first | go_big_quiet_step ((go_at_call 29; with_reducible exact Calls.regrown_of (hIq.out _ _))) | quiet_step ((go_at_call 29; with_reducible exact Calls.regrown_of (hIq.out _ _)))))
   refine wpQuiet_nil ?_
   intro w4 hw4
   go_wp2_with (go_at_call 47; refine (hA'.out _).mono ?_; rintro e w5 ⟨rfl, hb5⟩; have hb6 := hw4.trans (hb5.mono hw4.size); have kk := bcell' hb6; have p0 := (kk.1 _ 0 hlw).trans u0; have p1 := (kk.1 _ 1 hlw).trans u1; have p2 := (kk.1 _ 2 hlw).trans u2; have p3 := (kk.1 _ 3 hlw).trans u3; have p4 := (kk.1 _ 4 hlw).trans u4; have p5 := (kk.1 _ 5 hlw).trans u5; have r0 := (kk.2 _ 0 hlw).trans g0; have r1 := (kk.2 _ 1 hlw).trans g1; have r2 := (kk.2 _ 2 hlw).trans g2; have r3 := (kk.2 _ 3 hlw).trans g3; have r4 := (kk.2 _ 4 hlw).trans g4; have r5 := (kk.2 _ 5 hlw).trans g5; have n0 := (kk.1 _ 0 hl3).trans x0; have n1 := (kk.1 _ 1 hl3).trans x1; have n2 := (kk.1 _ 2 hl3).trans x2; have n3 := (kk.1 _ 3 hl3).trans x3; have n4 := (kk.1 _ 4 hl3).trans x4; have n5 := (kk.1 _ 5 hl3).trans x5)
   obtain ⟨q1, q2⟩ := set6 (r := w.heap.size) (hG3w.out.trans (Grg.of hb6)) (hR3.out.below hb6 hR3.out.lt) (Nat.le_refl _) lt (.int .u8 (k : Int)) (.string S) (.int .i64 (wd : Int)) (.int .u64 hi) (.int .u64 lo) (.int .i64 (pl : Int))
   refine bodyPost_ret (v := .agg #[.int .u8 (k : Int), .string S, .int .i64 (wd : Int), .int .u64 hi, .int .u64 lo, .int .i64 (pl : Int)]) (by simp [results, Tryz.results49, go_sem, p0, p1, p2, p3, p4, p5]) rfl (hQ1.out _ q1 q2 hv'.out)
  | false =>
   have hv' := hide (show RES = .error (4, pl) from by rw [hv.out]; rfl)
   clear hv
   have hA' := hide (fun W => hA.out false W)
   simp only [Bool.false_eq_true, if_false] at hA'
   clear hA
   go_wp2_with fail
   refine wp_region_quiet_tail 9 (by kernel_rfl) (by kernel_rfl) ?_
   simp only [List.take_succ_cons, List.take_zero, List.drop_succ_cons, List.drop_zero]
   repeat (any_goals (first | go_big_quiet_step ((go_at_call 29; with_reducible exact Calls.regrown_of (hIq.out _ _))) | quiet_step ((go_at_call 29; with_reducible exact Calls.regrown_of (hIq.out _ _)))))
   refine wpQuiet_nil ?_
   intro w4 hw4
   go_wp2_with (go_at_call 47; refine (hA'.out _).mono ?_; rintro e w5 ⟨rfl, hb5⟩; have hb6 := hw4.trans (hb5.mono hw4.size))
   exact ⟨rfl, hQ2.out _ (hG3w.out.trans (Grg.of hb6)) hv'.out⟩
 ·have ek : ((k : Int) == 1) = false := by rw [beq_eq_false_iff_ne]; omega
  have hv' := hide (show RES = .error (4, pl) from by rw [hv.out, show (k == 1) = false from by simp [hk]]; rfl)
  clear hv hk
  have hA' := hide (fun W => hA.out false W)
  simp only [Bool.false_eq_true, if_false] at hA'
  clear hA
  go_wp2_with fail
  refine wp_region_quiet_tail 9 (by kernel_rfl) (by kernel_rfl) ?_
  simp only [List.take_succ_cons, List.take_zero, List.drop_succ_cons, List.drop_zero]
  repeat (any_goals (first | go_big_quiet_step ((go_at_call 29; with_reducible exact Calls.regrown_of (hIq.out _ _))) | quiet_step ((go_at_call 29; with_reducible exact Calls.regrown_of (hIq.out _ _)))))
  refine wpQuiet_nil ?_
  intro w4 hw4
  go_wp2_with (go_at_call 47; refine (hA'.out _).mono ?_; rintro e w5 ⟨rfl, hb5⟩; have hb6 := hw4.trans (hb5.mono hw4.size))
  exact ⟨rfl, hQ2.out _ (hG3w.out.trans (Grg.of hb6)) hv'.out⟩
end Go.Proofs.YtbjokgnnklcbcaaGreatDoor
/-! Layer 13: port. -/
namespace Go.Proofs.YtbjokgnnklcbcaaGreatDoor
open Go.RowKit
attribute [local go_sem] run_panic_iface
/-- How port ends. -/
def portE (g : Nat) (w : World) (v1 v2 v3 : Value) (t : Tk) (r : Except (Int × Nat) (Int × List Tk)) (e : Ending) (w' : World) : Prop :=
 Grg g w w' ∧ match r with
  | .ok x => e = .returned (.tuple #[tkA t, .int .i64 x.1]) ∧ RdB w' g x.2 v1 v2 v3
  | .error x => e = pwr x
theorem Grg.drew {g : Nat} {w W : World} (h : Grg g w W) : Grg g w W.drew := ⟨h.os, h.tape, h.output, h.size, h.block⟩
theorem RdB.drew {g : Nat} {W : World} {l : List Tk} {v1 v2 v3 : Value} (h : RdB W g l v1 v2 v3) : RdB W.drew g l v1 v2 v3 := h
set_option maxRecDepth 100000 in
set_option maxHeartbeats 4000000 in
theorem port13p {w : World} {g : Nat} {l : List Tk} {v1 v2 v3 : Value} (h : RdB w g l v1 v2 v3) :
  Calls Tryz.prog 74 #[.pointer (some ⟨g, 0, none⟩)] w (portE g w v1 v2 v3 (headT l) (portT l)) := by
 have lt := h.lt
 obtain ⟨wa, hwa, hba, hsa, hla, z0, z1, z2, z3, z4, z5⟩ := tbox13 w 0 0 0 0 0 ⟨#[]⟩
 have hfa : ∀ i, wa.frozen? ⟨w.heap.size, i, none⟩ = false := by intro i; rw [← hwa]; exact World.frozen?_alloc_at _ _ _ _ rfl
 have hRa := h.below hba.out lt
 have hN := hide (next13p hRa)
 have hGa := hide (Grg.of (g := g) hba.out)
 have hv := hide (show portT l = if (headT l).kind ≠ 2 then .error (4, (headT l).pl) else if (headT l).w ≠ 0 then .error (10, (headT l).pl) else if (headT l).n < 1 ∨ 511 < (headT l).n then .error (5, (headT l).pl) else .ok (((headT l).n : Int), advT l) from rfl)
 have hA := hide (fun (b : Bool) (n : Int) (W : World) => ask13 b (headT l) n W)
 generalize portT l = RES at hv ⊢
 generalize headT l = t at hv hN hA ⊢
 obtain ⟨k, s, wd, m, pl⟩ := t
 unfold tkA at hA hN
 simp only at hv hA hN
 have hQ1 := hide (fun (W : World) (h1 : Grg g w W) (h2 : RdB W g (advT l) v1 v2 v3) (h3 : RES = .ok ((m : Int), advT l)) => show portE g w v1 v2 v3 ⟨k, s, wd, m, pl⟩ RES (.returned (.tuple #[tkA ⟨k, s, wd, m, pl⟩, .int .i64 (m : Int)])) W from by rw [h3]; exact ⟨h1, rfl, h2⟩)
 have hQ2 := hide (fun (W : World) (x : Int) (h1 : Grg g w W) (h3 : RES = .error (x, pl)) => show portE g w v1 v2 v3 ⟨k, s, wd, m, pl⟩ RES (pwr (x, pl)) W from by rw [h3]; exact ⟨h1, rfl⟩)
 generalize portE g w v1 v2 v3 ⟨k, s, wd, m, pl⟩ RES = Q at hQ1 hQ2 ⊢
 unfold tkA at hQ1
 simp only at hQ1
 generalize (⟨s.toArray⟩ : ByteArray) = S at hA hN hQ1
 generalize hhi : ((m / 18446744073709551616 : Nat) : Int) = hi at hA hN hQ1
 generalize hlo : ((m % 18446744073709551616 : Nat) : Int) = lo at hA hN hQ1
 clear h
 have hwg : w.heap.size ≠ g := by omega
 have hgw : g ≠ w.heap.size := by omega
 go_enter Tryz.func74, Tryz.ntmps74
 go_upto_region 2 with (go_at_call 48; refine hN.out.mono ?_; rintro e w2 ⟨rfl, hG2, hR2⟩; obtain ⟨w3, hw3, hb3, hs3, hl3, x0, x1, x2, x3, x4, x5⟩ := tbox13 w2 k wd hi lo pl S)
 have hG3 := hG2.trans (Grg.of (g := g) hb3.out)
 obtain ⟨u0, u1, u2, u3, u4, u5, uf⟩ := keep6 hG3 hla hwg z0 z1 z2 z3 z4 z5 hfa
 have hR3 := hide (hR2.below hb3.out hR2.lt)
 have hz3 := hG3.size
 have hz2 := hG2.size
 have hne1 : w2.heap.size ≠ w.heap.size := by omega
 have hne2 : w.heap.size ≠ w2.heap.size := by omega
 have g0 := uf 0
 have g1 := uf 1
 have g2 := uf 2
 have g3 := uf 3
 have g4 := uf 4
 have g5 := uf 5
 have hlw : w.heap.size < w3.heap.size := by omega
 have hG3w := hide (hGa.out.trans hG3)
 clear hG2 hR2 hw3 hb3 hs3 uf z0 z1 z2 z3 z4 z5 hfa hN hG3 hRa hz3 hz2
 by_cases hk : k = 2
 ·have ek : ((k : Int) == 2) = true := by rw [beq_iff_eq]; omega
  have hv1 := hide (show RES = if wd ≠ 0 then .error (10, pl) else if m < 1 ∨ 511 < m then .error (5, pl) else .ok ((m : Int), advT l) from by rw [hv.out, if_neg (by simp [hk])])
  have hA1 := hide (fun W => hA.out true 4 W)
  simp only [if_true] at hA1
  clear hv hk
  go_upto_region 3 with (go_at_call 47; refine (hA1.out _).mono ?_; rintro e w5 ⟨rfl, hb5⟩)
  have kk := bcell' hb5
  replace x0 := (kk.1 _ 0 hl3).trans x0
  replace x1 := (kk.1 _ 1 hl3).trans x1
  replace x2 := (kk.1 _ 2 hl3).trans x2
  replace x3 := (kk.1 _ 3 hl3).trans x3
  replace x4 := (kk.1 _ 4 hl3).trans x4
  replace x5 := (kk.1 _ 5 hl3).trans x5
  replace u0 := (kk.1 _ 0 hlw).trans u0
  replace u1 := (kk.1 _ 1 hlw).trans u1
  replace u2 := (kk.1 _ 2 hlw).trans u2
  replace u3 := (kk.1 _ 3 hlw).trans u3
  replace u4 := (kk.1 _ 4 hlw).trans u4
  replace u5 := (kk.1 _ 5 hlw).trans u5
  replace g0 := (kk.2 _ 0 hlw).trans g0
  replace g1 := (kk.2 _ 1 hlw).trans g1
  replace g2 := (kk.2 _ 2 hlw).trans g2
  replace g3 := (kk.2 _ 3 hlw).trans g3
  replace g4 := (kk.2 _ 4 hlw).trans g4
  replace g5 := (kk.2 _ 5 hlw).trans g5
  replace hG3w := hide (hG3w.out.trans (Grg.of hb5))
  replace hR3 := hide (hR3.out.below hb5 hR3.out.lt)
  replace hlw := Nat.lt_of_lt_of_le hlw (hb5).size
  replace hl3 := Nat.lt_of_lt_of_le hl3 (hb5).size
  clear kk hb5
  by_cases hw0 : wd = 0
  ·have ew : ((wd : Int) == 0) = true := by rw [beq_iff_eq]; omega
   have hv2 := hide (show RES = if m < 1 ∨ 511 < m then .error (5, pl) else .ok ((m : Int), advT l) from by rw [hv1.out, if_neg (by simp [hw0])])
   have hA2 := hide (fun W => hA.out true 10 W)
   simp only [if_true] at hA2
   clear hv1 hw0
   go_upto_region 4 with (go_at_call 47; refine (hA2.out _).mono ?_; rintro e w6 ⟨rfl, hb6⟩)
   have kk := bcell' hb6
   replace x0 := (kk.1 _ 0 hl3).trans x0
   replace x1 := (kk.1 _ 1 hl3).trans x1
   replace x2 := (kk.1 _ 2 hl3).trans x2
   replace x3 := (kk.1 _ 3 hl3).trans x3
   replace x4 := (kk.1 _ 4 hl3).trans x4
   replace x5 := (kk.1 _ 5 hl3).trans x5
   replace u0 := (kk.1 _ 0 hlw).trans u0
   replace u1 := (kk.1 _ 1 hlw).trans u1
   replace u2 := (kk.1 _ 2 hlw).trans u2
   replace u3 := (kk.1 _ 3 hlw).trans u3
   replace u4 := (kk.1 _ 4 hlw).trans u4
   replace u5 := (kk.1 _ 5 hlw).trans u5
   replace g0 := (kk.2 _ 0 hlw).trans g0
   replace g1 := (kk.2 _ 1 hlw).trans g1
   replace g2 := (kk.2 _ 2 hlw).trans g2
   replace g3 := (kk.2 _ 3 hlw).trans g3
   replace g4 := (kk.2 _ 4 hlw).trans g4
   replace g5 := (kk.2 _ 5 hlw).trans g5
   replace hG3w := hide (hG3w.out.trans (Grg.of hb6))
   replace hR3 := hide (hR3.out.below hb6 hR3.out.lt)
   replace hlw := Nat.lt_of_lt_of_le hlw (hb6).size
   replace hl3 := Nat.lt_of_lt_of_le hl3 (hb6).size
   clear kk hb6
   by_cases hn : m < 1 ∨ 511 < m
   ·have hv3 := hide (show RES = .error (5, pl) from by rw [hv2.out, if_pos hn])
    have hA3 := hide (fun W => hA.out false 5 W)
    simp only [Bool.false_eq_true, if_false] at hA3
    clear hv2
    by_cases h0 : hi = 0
    ·have e0 : (hi == 0) = true := by rw [beq_iff_eq]; exact h0
     by_cases h1 : (1 : Int) ≤ lo
     ·have h2 : ¬ lo ≤ 511 := by omega
      have d1 : decide ((1 : Int) ≤ lo) = true := decide_eq_true h1
      have d2 : decide (lo ≤ (511 : Int)) = false := decide_eq_false h2
      clear hhi hlo hn h0
      go_wp2_with (go_at_call 47; refine (hA3.out _).mono ?_; rintro e w7 ⟨rfl, hb7⟩)
      exact ⟨rfl, hQ2.out _ _ (hG3w.out.trans (Grg.of hb7)) hv3.out⟩
     ·have d1 : decide ((1 : Int) ≤ lo) = false := decide_eq_false h1
      clear hhi hlo hn h0
      go_wp2_with (go_at_call 47; refine (hA3.out _).mono ?_; rintro e w7 ⟨rfl, hb7⟩)
      exact ⟨rfl, hQ2.out _ _ (hG3w.out.trans (Grg.of hb7)) hv3.out⟩
    ·have e0 : (hi == 0) = false := beq_eq_false_iff_ne.2 h0
     clear hhi hlo hn
     go_wp2_with (go_at_call 47; refine (hA3.out _).mono ?_; rintro e w7 ⟨rfl, hb7⟩)
     exact ⟨rfl, hQ2.out _ _ (hG3w.out.trans (Grg.of hb7)) hv3.out⟩
   ·have hv3 := hide (show RES = .ok ((m : Int), advT l) from by rw [hv2.out, if_neg hn])
    have hA3 := hide (fun W => hA.out true 5 W)
    simp only [if_true] at hA3
    have h0 : hi = 0 := by omega
    have h1 : lo = (m : Int) := by omega
    have e0 : (hi == 0) = true := by rw [beq_iff_eq]; exact h0
    have d1 : decide ((1 : Int) ≤ lo) = true := decide_eq_true (by omega)
    have d2 : decide (lo ≤ (511 : Int)) = true := decide_eq_true (by omega)
    have d3 : (1 : Int) ≤ lo := by omega
    have d4 : lo ≤ (511 : Int) := by omega
    have hwr : IntKind.i64.wrap lo = lo := IntWalk.i64_in _ (by omega)
    rw [← h1] at hQ1
    replace h0 := hide h0
    replace h1 := hide h1
    clear hv2 hhi hlo hn
    go_upto_region 5 with (go_at_call 47; refine (hA3.out _).mono ?_; rintro e w7 ⟨rfl, hb7⟩)
    have kk := bcell' hb7
    replace x0 := (kk.1 _ 0 hl3).trans x0
    replace x1 := (kk.1 _ 1 hl3).trans x1
    replace x2 := (kk.1 _ 2 hl3).trans x2
    replace x3 := (kk.1 _ 3 hl3).trans x3
    replace x4 := (kk.1 _ 4 hl3).trans x4
    replace x5 := (kk.1 _ 5 hl3).trans x5
    replace u0 := (kk.1 _ 0 hlw).trans u0
    replace u1 := (kk.1 _ 1 hlw).trans u1
    replace u2 := (kk.1 _ 2 hlw).trans u2
    replace u3 := (kk.1 _ 3 hlw).trans u3
    replace u4 := (kk.1 _ 4 hlw).trans u4
    replace u5 := (kk.1 _ 5 hlw).trans u5
    replace g0 := (kk.2 _ 0 hlw).trans g0
    replace g1 := (kk.2 _ 1 hlw).trans g1
    replace g2 := (kk.2 _ 2 hlw).trans g2
    replace g3 := (kk.2 _ 3 hlw).trans g3
    replace g4 := (kk.2 _ 4 hlw).trans g4
    replace g5 := (kk.2 _ 5 hlw).trans g5
    replace hG3w := hide (hG3w.out.trans (Grg.of hb7))
    replace hR3 := hide (hR3.out.below hb7 hR3.out.lt)
    replace hlw := Nat.lt_of_lt_of_le hlw (hb7).size
    replace hl3 := Nat.lt_of_lt_of_le hl3 (hb7).size
    clear kk hb7
    go_wp2_with fail
    go_region
    go_wp2
    obtain ⟨q1, q2⟩ := set6 (r := w.heap.size) hG3w.out hR3.out (Nat.le_refl _) lt (.int .u8 (k : Int)) (.string S) (.int .i64 (wd : Int)) (.int .u64 hi) (.int .u64 lo) (.int .i64 (pl : Int))
    have q3 := hide (hQ1.out _ q1.drew q2.drew (by rw [h1.out]; exact hv3.out))
    refine bodyPost_ret (v := .tuple #[.agg #[.int .u8 (k : Int), .string S, .int .i64 (wd : Int), .int .u64 hi, .int .u64 lo, .int .i64 (pl : Int)], .int .i64 lo]) ?_ rfl ?_
    ·simp [results, Tryz.results74, go_sem, u0, u1, u2, u3, u4, u5]
    ·exact q3.out
  ·have ew : ((wd : Int) == 0) = false := by rw [beq_eq_false_iff_ne]; omega
   have hv2 := hide (show RES = .error (10, pl) from by rw [hv1.out, if_pos hw0])
   have hA2 := hide (fun W => hA.out false 10 W)
   simp only [Bool.false_eq_true, if_false] at hA2
   clear hv1 hw0
   go_wp2_with (go_at_call 47; refine (hA2.out _).mono ?_; rintro e w6 ⟨rfl, hb6⟩)
   exact ⟨rfl, hQ2.out _ _ (hG3w.out.trans (Grg.of hb6)) hv2.out⟩
 ·have ek : ((k : Int) == 2) = false := by rw [beq_eq_false_iff_ne]; omega
  have hv1 := hide (show RES = .error (4, pl) from by rw [hv.out, if_pos hk])
  have hA1 := hide (fun W => hA.out false 4 W)
  simp only [Bool.false_eq_true, if_false] at hA1
  clear hv hk
  go_wp2_with (go_at_call 47; refine (hA1.out _).mono ?_; rintro e w5 ⟨rfl, hb5⟩)
  exact ⟨rfl, hQ2.out _ _ (hG3w.out.trans (Grg.of hb5)) hv1.out⟩
end Go.Proofs.YtbjokgnnklcbcaaGreatDoor
/-! Plain: a network that is read may be; Next is its own way back. -/
namespace Go.Proofs.YtbjokgnnklcbcaaGreatDoor
open Go.Lib
theorem sortP_mem {l : List Int} {x : Int} : x ∈ sortP l ↔ (1 ≤ x ∧ x ≤ 511) ∧ x ∈ l := by
 unfold sortP
 rw [List.mem_filter, List.mem_map, decide_eq_true_eq]
 constructor
 ·rintro ⟨⟨i, hi, rfl⟩, h⟩
  rw [List.mem_range] at hi
  exact ⟨by omega, h⟩
 ·rintro ⟨h1, h2⟩
  exact ⟨⟨(x - 1).toNat, by rw [List.mem_range]; omega, by omega⟩, h2⟩
theorem sortP_rises (l : List Int) : (sortP l).Pairwise (· < ·) := by
 unfold sortP
 refine List.Pairwise.filter _ ?_
 rw [List.pairwise_map]
 exact List.pairwise_lt_range.imp fun h => by omega
theorem rise_ext' : ∀ (a b : List Int), a.Pairwise (· < ·) → b.Pairwise (· < ·) → (∀ x, x ∈ a ↔ x ∈ b) → a = b
 | [], [], _, _, _ => rfl
 | [], y :: b, _, _, h => absurd ((h y).2 List.mem_cons_self) (by simp)
 | x :: a, [], _, _, h => absurd ((h x).1 List.mem_cons_self) (by simp)
 | x :: a, y :: b, ha, hb, h => by
  rw [List.pairwise_cons] at ha hb
  have hxy : x = y := by
   rcases List.mem_cons.1 ((h x).1 List.mem_cons_self) with e | e
   ·exact e
   ·rcases List.mem_cons.1 ((h y).2 List.mem_cons_self) with e2 | e2
    ·exact e2.symm
    ·have := hb.1 x e
     have := ha.1 y e2
     omega
  subst hxy
  rw [rise_ext' a b ha.2 hb.2 fun z => ?_]
  constructor
  ·intro hz
   rcases List.mem_cons.1 ((h z).1 (List.mem_cons_of_mem _ hz)) with e | e
   ·have := ha.1 z hz; omega
   ·exact e
  ·intro hz
   rcases List.mem_cons.1 ((h z).2 (List.mem_cons_of_mem _ hz)) with e | e
   ·have := hb.1 z hz; omega
   ·exact e
theorem nameT_ok {l l' : List Tk} {s : List UInt8} (h : nameT l = .ok (s, l')) : nameB ⟨s.toArray⟩ = true ∧ s = (headT l).s ∧ l' = advT l := by
 unfold nameT at h
 split at h
 ·rename_i hn
  injection h with h
  injection h with h1 h2
  unfold nmT at hn
  rw [Bool.and_eq_true] at hn
  rw [← h1]
  exact ⟨hn.2, rfl, h2.symm⟩
 ·cases h
end Go.Proofs.YtbjokgnnklcbcaaGreatDoor
namespace Go.Proofs.YtbjokgnnklcbcaaGreatDoor
open Go.RowKit
@[reducible] def netV (n : Net) (A1 A2 A3 : Option Addr) (c1 c2 c3 : Nat) : Value := .agg #[.slice A1 n.sw.length c1, .slice A2 n.ports.length c2, .slice A3 n.links.length c3]
def NetS (w : World) (B : Nat) (A1 A2 A3 : Option Addr) (n : Net) : Prop := Sl 1 rStr w B A1 n.sw ∧ Sl 1 (rSl 1 rInt) w B A2 n.ports ∧ Sl 4 rLink w B A3 n.links
theorem NetS.keep {w w' : World} {B : Nat} {A1 A2 A3 : Option Addr} {n : Net} (h : NetS w B A1 A2 A3 n) (hk : ∀ p : Addr, p.block < B → w'.cell? p = w.cell? p) : NetS w' B A1 A2 A3 n :=
 ⟨h.1.keep sta_str hk, h.2.1.keep (sta_sl sta_int) hk, h.2.2.keep sta_link hk⟩
theorem NetS.more {w : World} {B B' : Nat} {A1 A2 A3 : Option Addr} {n : Net} (h : NetS w B A1 A2 A3 n) (hB : B ≤ B') : NetS w B' A1 A2 A3 n :=
 ⟨h.1.more sta_str hB, h.2.1.more (sta_sl sta_int) hB, h.2.2.more sta_link hB⟩
theorem NetS.below {w w' : World} {B : Nat} {A1 A2 A3 : Option Addr} {n : Net} (h : NetS w B A1 A2 A3 n) (hb : Below B w w') : NetS w' B A1 A2 A3 n := h.keep fun _ hp => hb.cell hp
theorem NetS.alloc {w : World} {B : Nat} {A1 A2 A3 : Option Addr} {n : Net} (h : NetS w B A1 A2 A3 n) (hB : B ≤ w.heap.size) (o : Obj) : NetS (w.alloc o) B A1 A2 A3 n := h.keep fun p hp => World.cell?_alloc_lt w o p (by omega)
end Go.Proofs.YtbjokgnnklcbcaaGreatDoor
namespace Go.Proofs.YtbjokgnnklcbcaaGreatDoor
open Go.RowKit
set_option maxHeartbeats 400000 in
theorem has1_any (A : Option Addr) (cap : Nat) (xs : List Int) (n : Int) (w : World) (h : Sl 1 rInt w w.heap.size A xs) :
  Calls Tryz.prog 57 #[.slice A xs.length cap, .int .i64 n] w fun e w' => e = .returned (.bool (decide (n ∈ xs))) ∧ w = w' := by
 have hl := h.len
 go_enter Tryz.func57, Tryz.ntmps57
 go_wp2
 go_loop [5] (fun i => ∃ k : Nat, k ≤ xs.length ∧ i = .int .i64 k ∧ n ∉ xs.take k) (fun i => xs.length - (intOf i).toNat)
 case atStart => exact ⟨0, Nat.zero_le _, rfl, by simp⟩
 case round =>
  obtain ⟨k, hk, rfl, hc⟩ := hrel
  by_cases hlt : k < xs.length
  ·obtain ⟨b, o, rfl, hb, hcell⟩ := h.int hlt
   clear h
   by_cases he : (xs[k] == n) = true
   ·go_wp2
    go_ret
    have : n ∈ xs := by rw [beq_iff_eq] at he; subst he; exact List.getElem_mem _
    simp [this]
   ·have he' : (xs[k] == n) = false := by simpa using he
    have hs := hide (notMem_take_succ hlt hc he')
    go_wp2
    go_round
    case rel => exact ⟨k + 1, by omega, by go_num, hs.out⟩
    case measure => simp [intOf]; omega
  ·go_wp2
   go_ret
   rw [List.take_of_length_le (by omega)] at hc
   simp [hc]
theorem thereB_in {n : Net} {k : Nat} {p : Int} (hk : k < n.ports.length) : thereB n ((k : Int), p) = decide (p ∈ n.ports[k]) := by
 simp [thereB, hk]
theorem thereB_lo {n : Net} {s p : Int} (hk : ¬ 0 ≤ s) : thereB n (s, p) = false := by
 simp only [thereB, decide_eq_false_iff_not]; omega
theorem thereB_hi {n : Net} {s p : Int} (hk : ¬ s < (n.ports.length : Int)) : thereB n (s, p) = false := by
 simp only [thereB, decide_eq_false_iff_not]; omega
set_option maxHeartbeats 400000 in
theorem there13_any (n : Net) (A1 A2 A3 : Option Addr) (c1 c2 c3 : Nat) (s p : Int) (w : World) (h : NetS w w.heap.size A1 A2 A3 n) :
  Calls Tryz.prog 81 #[netV n A1 A2 A3 c1 c2 c3, .agg #[.int .i64 s, .int .i64 p]] w fun e w' => e = .returned (.bool (thereB n (s, p))) ∧ Below w.heap.size w w' := by
 obtain ⟨h1, h2, h3⟩ := h
 have l2 := h2.len
 clear h1 h3
 go_enter Tryz.func81, Tryz.ntmps81
 by_cases h0 : 0 ≤ s
 ·by_cases hlt : s < (n.ports.length : Int)
  ·obtain ⟨k, rfl⟩ := Int.eq_ofNat_of_zero_le h0
   have hk : k < n.ports.length := by omega
   obtain ⟨b, o, A', cap', rfl, hb, hcell, hin⟩ := h2.ints hk
   have hv := hide (thereB_in (p := p) hk)
   clear h2
   go_wp2_with fail
   go_quiet ((go_at_call 57; exact quiet_same (has1_any _ _ _ _ _ (((hin.alloc sta_int (Nat.le_refl _) _).alloc sta_int (by simp) _ |>.drewN sta_int _).more sta_int (by simp; omega)))))
   go_wp2
   go_ret
   exact ⟨ret_b hv.out.symm, below_drewN (((Below.refl _ _).alloc (Nat.le_refl _) _).alloc (by simp) _) _⟩
  ·have hd : decide (s < (n.ports.length : Int)) = false := by simpa using hlt
   have hv := hide (thereB_hi (p := p) hlt)
   go_wp2_with fail
   go_quiet (fail)
   go_wp2
   go_ret
   exact ⟨ret_b hv.out.symm, below_drewN (((Below.refl _ _).alloc (Nat.le_refl _) _).alloc (by simp) _) _⟩
 ·have hd : decide (0 ≤ s) = false := by simpa using h0
  have hv := hide (thereB_lo (n := n) (p := p) h0)
  go_wp2_with fail
  go_quiet (fail)
  go_wp2
  go_ret
  exact ⟨ret_b hv.out.symm, below_drewN (((Below.refl _ _).alloc (Nat.le_refl _) _).alloc (by simp) _) _⟩
set_option maxHeartbeats 400000 in
theorem find13_any (n : Net) (A1 A2 A3 : Option Addr) (c1 c2 c3 : Nat) (s : ByteArray) (w : World) (h : NetS w w.heap.size A1 A2 A3 n) :
  Calls Tryz.prog 24 #[netV n A1 A2 A3 c1 c2 c3, .string s] w fun e w' => e = .returned (.int .i64 (findI n.sw s)) ∧ Below w.heap.size w w' := by
 obtain ⟨h1, h2, h3⟩ := h
 have l1 := h1.len
 go_enter Tryz.func24, Tryz.ntmps24
 go_wp2
 go_loop [5] (fun i => ∃ k : Nat, k ≤ n.sw.length ∧ i = .int .i64 k ∧ s ∉ n.sw.take k) (fun i => n.sw.length - (intOf i).toNat)
 case atStart => exact ⟨0, Nat.zero_le _, rfl, by simp⟩
 case round =>
  obtain ⟨k, hk, rfl, hc⟩ := hrel
  by_cases hlt : k < n.sw.length
  ·obtain ⟨b, o, rfl, hb, hcell, hz⟩ := h1.str hlt
   clear h1
   by_cases he : n.sw[k] = s
   ·have ht := str_eq he
    have hv := hide (findI_at hlt hc he)
    clear he
    go_wp2
    go_ret
    exact ⟨ret_int hv.out.symm, (Below.refl _ _).alloc (Nat.le_refl _) _⟩
   ·have ht := str_ne he
    have hv := hide (notMem_take_snoc hlt hc he)
    clear he
    go_wp2
    go_round
    case rel => exact ⟨k + 1, by omega, by go_num, hv.out⟩
    case measure => simp [intOf]; omega
  ·have hv := hide (findI_no (notMem_of_take hk hlt hc))
   go_wp2
   go_ret
   exact ⟨ret_int hv.out.symm, (Below.refl _ _).alloc (Nat.le_refl _) _⟩
end Go.Proofs.YtbjokgnnklcbcaaGreatDoor
namespace Go.Proofs.YtbjokgnnklcbcaaGreatDoor
open Go.RowKit
set_option maxHeartbeats 400000 in
theorem sindex_any (A : Option Addr) (cap : Nat) (xs : List Int) (n : Int) (w : World) (h : Sl 1 rInt w w.heap.size A xs) :
  Calls Tryz.prog 84 #[.slice A xs.length cap, .int .i64 n] w fun e w' => e = .returned (.int .i64 (findI xs n)) ∧ w = w' := by
 have hl := h.len
 go_enter Tryz.func84, Tryz.ntmps84
 go_wp2
 go_loop [8] (fun i => ∃ k : Nat, k ≤ xs.length ∧ i = .int .i64 k ∧ n ∉ xs.take k) (fun i => xs.length - (intOf i).toNat)
 case atStart => exact ⟨0, Nat.zero_le _, rfl, by simp⟩
 case round =>
  obtain ⟨k, hk, rfl, hc⟩ := hrel
  by_cases hlt : k < xs.length
  ·obtain ⟨b, o, rfl, hb, hcell⟩ := h.int hlt
   clear h
   by_cases he : xs[k] = n
   ·have ht : (n == xs[k]) = true := by simp [he]
    have hv := hide (findI_at hlt hc he)
    clear he
    go_wp2
    go_ret
    exact ⟨ret_int hv.out.symm, rfl⟩
   ·have ht : (n == xs[k]) = false := by simp; exact fun e => he e.symm
    have hv := hide (notMem_take_snoc hlt hc he)
    clear he
    go_wp2
    go_round
    case rel => exact ⟨k + 1, by omega, by go_num, hv.out⟩
    case measure => simp [intOf]; omega
  ·have hv := hide (findI_no (notMem_of_take hk hlt hc))
   go_wp2
   go_ret
   exact ⟨ret_int hv.out.symm, rfl⟩
end Go.Proofs.YtbjokgnnklcbcaaGreatDoor
namespace Go.Proofs.YtbjokgnnklcbcaaGreatDoor
open Go.RowKit
theorem findI_nonneg {α : Type} [DecidableEq α] (l : List α) (a : α) : decide (0 ≤ findI l a) = decide (a ∈ l) := by
 unfold findI
 by_cases h : a ∈ l <;> simp [h]
set_option maxHeartbeats 400000 in
theorem scontains_any (A : Option Addr) (cap : Nat) (xs : List Int) (n : Int) (w : World) (h : Sl 1 rInt w w.heap.size A xs) :
  Calls Tryz.prog 65 #[.slice A xs.length cap, .int .i64 n] w fun e w' => e = .returned (.bool (decide (n ∈ xs))) ∧ w = w' := by
 have hv := hide (findI_nonneg xs n)
 go_enter Tryz.func65, Tryz.ntmps65
 go_wp2_with (go_at_call 84; refine (sindex_any _ _ _ _ _ h).mono ?_; rintro e w' ⟨rfl, rfl⟩)
 go_ret
 exact ⟨ret_b hv.out, rfl⟩
set_option maxHeartbeats 400000 in
theorem tfind_any (n : Net) (A1 A2 A3 : Option Addr) (c1 c2 c3 : Nat) (s : ByteArray) (w : World) (h : NetS w w.heap.size A1 A2 A3 n) :
  Calls Tryz.prog 30 #[netV n A1 A2 A3 c1 c2 c3, .string s] w fun e w' => e = .returned (.int .i64 (findI n.sw s)) ∧ Below w.heap.size w w' := by
 obtain ⟨h1, -, -⟩ := h
 go_enter Tryz.func30, Tryz.ntmps30
 go_wp2_with (go_at_call 64; refine (sindexS_any _ _ _ _ _ ((h1.alloc sta_str (Nat.le_refl _) _).more sta_str (by simp))).mono ?_; rintro e w' ⟨rfl, rfl⟩)
 go_ret
 exact ⟨rfl, (Below.refl _ _).alloc (Nat.le_refl _) _⟩
set_option maxHeartbeats 400000 in
theorem tthere_any (n : Net) (A1 A2 A3 : Option Addr) (c1 c2 c3 : Nat) (s p : Int) (w : World) (h : NetS w w.heap.size A1 A2 A3 n) :
  Calls Tryz.prog 32 #[netV n A1 A2 A3 c1 c2 c3, .agg #[.int .i64 s, .int .i64 p]] w fun e w' => e = .returned (.bool (thereB n (s, p))) ∧ Below w.heap.size w w' := by
 obtain ⟨-, h2, -⟩ := h
 have l2 := h2.len
 go_enter Tryz.func32, Tryz.ntmps32
 by_cases h0 : 0 ≤ s
 ·by_cases hlt : s < (n.ports.length : Int)
  ·obtain ⟨k, rfl⟩ := Int.eq_ofNat_of_zero_le h0
   have hk : k < n.ports.length := by omega
   obtain ⟨b, o, A', cap', rfl, hb, hcell, hin⟩ := h2.ints hk
   have hv := hide (thereB_in (p := p) hk)
   clear h2
   go_wp2_with fail
   go_quiet ((go_at_call 65; exact quiet_same (scontains_any _ _ _ _ _ (((hin.alloc sta_int (Nat.le_refl _) _).alloc sta_int (by simp) _ |>.drewN sta_int _).more sta_int (by simp; omega)))))
   go_wp2
   go_ret
   exact ⟨ret_b hv.out.symm, below_drewN (((Below.refl _ _).alloc (Nat.le_refl _) _).alloc (by simp) _) _⟩
  ·have hd : decide (s < (n.ports.length : Int)) = false := by simpa using hlt
   have hv := hide (thereB_hi (p := p) hlt)
   go_wp2_with fail
   go_quiet (fail)
   go_wp2
   go_ret
   exact ⟨ret_b hv.out.symm, below_drewN (((Below.refl _ _).alloc (Nat.le_refl _) _).alloc (by simp) _) _⟩
 ·have hd : decide (0 ≤ s) = false := by simpa using h0
  have hv := hide (thereB_lo (n := n) (p := p) h0)
  go_wp2_with fail
  go_quiet (fail)
  go_wp2
  go_ret
  exact ⟨ret_b hv.out.symm, below_drewN (((Below.refl _ _).alloc (Nat.le_refl _) _).alloc (by simp) _) _⟩
theorem take_snoc_eq {α : Type} {xs ys : List α} {k : Nat} (h1 : k < xs.length) (h2 : k < ys.length) (hc : xs.take k = ys.take k) (he : xs[k] = ys[k]) : xs.take (k + 1) = ys.take (k + 1) := by
 rw [List.take_succ_eq_append_getElem h1, List.take_succ_eq_append_getElem h2, hc, he]
end Go.Proofs.YtbjokgnnklcbcaaGreatDoor

import Derived.Test.YtbjokgnnklcbcaaGreatDoorTpb19
import Derived.Lib.QuietBelow
import Derived.BigQuiet
set_option linter.all false
/-! Layer 13: ports. -/
namespace Go.Proofs.YtbjokgnnklcbcaaGreatDoor
open Go.RowKit
attribute [local go_sem] run_panic_iface
attribute [local go_sem ↓] app_eq
/-- How ports ends. -/
def portsE (g : Nat) (w : World) (v1 v2 v3 : Value) (r : Except (Int × Nat) (List Int × List Tk)) (e : Ending) (w' : World) : Prop :=
 Grg g w w' ∧ match r with
  | .ok x => (∃ V, e = .returned V ∧ IpS w' w.heap.size V x.1) ∧ RdB w' g x.2 v1 v2 v3
  | .error x => e = pwr x
theorem Grg.app {g : Nat} {w W W' : World} (h : Grg g w W) (hb : Below w.heap.size W W') : Grg g w W' :=
 ⟨hb.os.trans h.os, hb.tape.trans h.tape, hb.output.trans h.output, Nat.le_trans h.size hb.size, fun k hk hn => (hb.block k hk).trans (h.block k hk hn)⟩
/-- What stands behind the loop. -/
def finT : Except (Int × Nat) (List Int × List Tk) → Except (Int × Nat) (List Int × List Tk)
 | .error e => .error e
 | .ok (ps, l2) => match wantT bShut l2 with
  | .error e => .error e
  | .ok l3 => .ok (sortP ps, l3)
theorem prtsT_fin (l : List Tk) : prtsT l = match wantT bOpen l with
  | .error e => .error e
  | .ok l1 => finT (portsT l1.length [] l1) := by
 unfold prtsT finT
 cases wantT bOpen l with
 | error e => rfl
 | ok l1 =>
  simp only
  cases portsT l1.length [] l1 with
  | error e => rfl
  | ok x => rfl
/-- How many tokens a reader has left. -/
def leftN (g : Nat) (W : World) : Nat := match W.cell? ⟨g, 0, none⟩ with | some (.slice _ n _) => n | _ => 0
theorem RdB.left {w : World} {g : Nat} {l : List Tk} {v1 v2 v3 : Value} (h : RdB w g l v1 v2 v3) : leftN g w = l.length := by
 obtain ⟨b, o, cap, hO⟩ := h.open_
 unfold leftN
 rw [hO.c0]
/-- What is known of the ports so far. -/
structure PtK (acc : List Int) : Prop where
 few : acc.length ≤ 8
 nodup : acc.Nodup
 rng : ∀ x ∈ acc, 1 ≤ x ∧ x ≤ 511
set_option maxRecDepth 100000 in
set_option maxHeartbeats 8000000 in
theorem ports13p (hSo : SortC) {w : World} {g : Nat} {l : List Tk} {v1 v2 v3 : Value} (h : RdB w g l v1 v2 v3) :
  Calls Tryz.prog 50 #[.pointer (some ⟨g, 0, none⟩)] w (portsE g w v1 v2 v3 (prtsT l)) := by
 have lt := h.lt
 have hW0 := want13p ⟨#[123]⟩ h
 rw [show (⟨#[123]⟩ : ByteArray).data.toList = bOpen from rfl] at hW0
 have hv := hide (prtsT_fin l)
 generalize prtsT l = RES at hv ⊢
 have hQ1 := hide (fun (W : World) (V : Value) (x : List Int × List Tk) (h1 : Grg g w W) (h2 : IpS W w.heap.size V x.1) (h3 : RdB W g x.2 v1 v2 v3) (h4 : RES = .ok x) => show portsE g w v1 v2 v3 RES (.returned V) W from by rw [h4]; exact ⟨h1, ⟨V, rfl, h2⟩, h3⟩)
 have hQ2 := hide (fun (W : World) (x : Int × Nat) (h1 : Grg g w W) (h3 : RES = .error x) => show portsE g w v1 v2 v3 RES (pwr x) W from by rw [h3]; exact ⟨h1, rfl⟩)
 generalize portsE g w v1 v2 v3 RES = Q at hQ1 hQ2 ⊢
 cases hw0 : wantT bOpen l with
 | error x =>
  have hv' := hide (show RES = .error x from by rw [hv.out, hw0])
  have hW1 := hide (show Calls Tryz.prog 52 #[.pointer (some ⟨g, 0, none⟩), .string ⟨#[123]⟩] w fun e w' => Grg g w w' ∧ e = pwr x from by rw [hw0] at hW0; exact hW0)
  clear hv hW0 hw0
  go_enter Tryz.func50, Tryz.ntmps50
  go_wp2_with (go_at_call 52; refine hW1.out.mono ?_; rintro e w2 ⟨hG2, rfl⟩)
  exact ⟨rfl, hQ2.out _ _ hG2 hv'.out⟩
 | ok l1 =>
  have hv' := hide (show RES = finT (portsT l1.length [] l1) from by rw [hv.out, hw0])
  have hW1 := hide (show Calls Tryz.prog 52 #[.pointer (some ⟨g, 0, none⟩), .string ⟨#[123]⟩] w fun e w' => Grg g w w' ∧ e = .returned (.tuple #[]) ∧ RdB w' g l1 v1 v2 v3 from by rw [hw0] at hW0; exact hW0)
  clear hv hW0 hw0
  go_enter Tryz.func50, Tryz.ntmps50
  go_upto_region 2 with (go_at_call 52; refine hW1.out.mono ?_; rintro e w2 ⟨hG2, rfl, hR2⟩)
  have hz2 := hG2.size
  go_loopw [2, 3, 4] (fun ov _ _ wr => ∃ (f : Nat) (acc : List Int) (l' : List Tk), l'.length ≤ f ∧ Hid (PtK acc) ∧ Hid (RES = finT (portsT f acc l')) ∧ Hid (IpS wr w.heap.size ov acc) ∧ Hid (RdB wr g l' v1 v2 v3) ∧ Hid (Grg g w wr)) (fun _ _ _ wr => leftN g wr)
  case atStart => exact ⟨l1.length, [], l1, Nat.le_refl _, hide ⟨by simp, List.nodup_nil, by simp⟩, hv', hide (IpS.nil_ _ _), hide hR2, hide hG2⟩
  case round =>
   clear hv' hR2 hG2 hW1
   obtain ⟨f, acc, l', hf, hP, hR, hI, hB, hG⟩ := hrel
   have hl0 := hB.out.left
   have hpos := List.length_pos_iff.2 hB.out.1.ne
   obtain ⟨f', rfl⟩ : ∃ f', f = f' + 1 := ⟨f - 1, by omega⟩
   have hzr := hG.out.size
   obtain ⟨A, cap, rfl⟩ := hI.out.form
   have hIs := hide (is13 ⟨#[125]⟩ hB.out)
   rw [show (⟨#[125]⟩ : ByteArray).data.toList = bShut from rfl] at hIs
   cases hs : isT bShut l' with
   | true =>
    rw [hs] at hIs
    have hw : wantT bShut l' = .ok (advT l') := by unfold wantT; rw [if_pos hs]
    have hR2 := hide (show RES = .ok (sortP acc, advT l') from by rw [hR.out, portsT, if_pos hs, finT]; simp only [hw])
    have hWt := hide (fun (W : World) (hW : Below wr.heap.size wr W) => show Calls Tryz.prog 52 #[.pointer (some ⟨g, 0, none⟩), .string ⟨#[125]⟩] W fun e w' => Grg g W w' ∧ e = .returned (.tuple #[]) ∧ RdB w' g (advT l') v1 v2 v3 from by
     have h1 := want13p ⟨#[125]⟩ (hB.out.below hW hB.out.lt)
     rw [show (⟨#[125]⟩ : ByteArray).data.toList = bShut from rfl, hw] at h1
     exact h1)
    have hSt := hide (fun (W : World) (hW : Grg g wr W) => sort13 hSo (hI.out.grg hW lt) hP.out.nodup hP.out.rng (by have := hP.out.few; omega) lt (Nat.le_trans hzr hW.size))
    clear hR hs hw
    go_wp2_with (first
     | (go_at_call 46; refine hIs.out.mono ?_; rintro e w3 ⟨rfl, hb3⟩)
     | (go_at_call 52; refine (hWt.out _ hb3).mono ?_; rintro e w4 ⟨hG4, rfl, hB4⟩; have hG5 := (Grg.of hb3).trans hG4)
     | (go_at_call 75; refine (hSt.out _ hG5).mono ?_; rintro e w6 ⟨rfl, hI6, hl6, hb6⟩))
    have hfin := hide (hQ1.out w6 (.slice A acc.length cap) (sortP acc, advT l') ((hG.out.trans hG5).app hb6) hI6 (hB4.below hb6 lt) hR2.out)
    exact hfin.out
   | false =>
    rw [hs] at hIs
    obtain ⟨b, o, cp, hO⟩ := hB.out.open_
    obtain ⟨ltr, bg, pos, le, ml, c0, c1, c2, c3, f0, f1, f2, f3, k0, k1, k2, k3, k4, k5⟩ := hO
    have hA := hide (fun (bb : Bool) (n : Int) (W : World) => ask13 bb (headT l') n W)
    have hPt := hide (fun (W : World) (hW : Below wr.heap.size wr W) => port13p (hB.out.below hW hB.out.lt))
    have hpo := hide (fun (p : Int) (l2 : List Tk) (hp : portT l' = .ok (p, l2)) => portT_ok hp)
    have hpk := hide (show (headT l').kind ≠ 2 → portT l' = .error (4, (headT l').pl) from fun hk => by unfold portT; simp only; rw [if_pos hk])
    have hadv := hide (fun (hk : (headT l').kind ≠ 0) => advT_lt hB.out.1 hk)
    have hR1 := hide (show RES = finT (if ¬ (acc.length < 8 ∨ (headT l').kind ≠ 2) then .error (5, (headT l').pl) else match portT l' with
     | .error e => .error e
     | .ok (p, l1) => if p ∈ acc then .error (8, (headT l').pl) else match wantT bSemi l1 with
      | .error e => .error e
      | .ok l2 => portsT f' (acc ++ [p]) l2) from by rw [hR.out, portsT, hs]; rfl)
    clear hR hs f0 f1 f2 f3 c1 c2 c3
    generalize headT l' = t at *
    obtain ⟨k, s, wd, m, pl⟩ := t
    simp only at k0 k1 k2 k3 k4 k5 hA hPt hpo hpk hadv hR1
    obtain ⟨S, hS⟩ : ∃ S : ByteArray, S = ⟨s.toArray⟩ := ⟨_, rfl⟩
    obtain ⟨hi, hhi⟩ : ∃ hi : Int, hi = ((m / 18446744073709551616 : Nat) : Int) := ⟨_, rfl⟩
    obtain ⟨lo, hlo⟩ : ∃ lo : Int, lo = ((m % 18446744073709551616 : Nat) : Int) := ⟨_, rfl⟩
    have hA' := hide (fun (bb : Bool) (n : Int) (W : World) => show Calls Tryz.prog 47 #[.bool bb, .agg #[.int .u8 (k : Int), .string S, .int .i64 (wd : Int), .int .u64 hi, .int .u64 lo, .int .i64 (pl : Int)], .int .i64 n] W fun e w' => e = (if bb then .returned (.tuple #[]) else pwr (n, pl)) ∧ Below W.heap.size W w' from by rw [hS, hhi, hlo]; exact hA.out bb n W)
    have hPt' := hide (fun (W : World) (hW : Below wr.heap.size wr W) => show Calls Tryz.prog 74 #[.pointer (some ⟨g, 0, none⟩)] W fun e w' => Grg g W w' ∧ (match portT l' with
     | .ok x => e = .returned (.tuple #[.agg #[.int .u8 (k : Int), .string S, .int .i64 (wd : Int), .int .u64 hi, .int .u64 lo, .int .i64 (pl : Int)], .int .i64 x.1]) ∧ RdB w' g x.2 v1 v2 v3
     | .error x => e = pwr x) from by rw [hS, hhi, hlo]; exact hPt.out W hW)
    rw [← hS] at k1
    rw [← hhi] at k3
    rw [← hlo] at k4
    clear hA hS hhi hlo hPt
    have hbl : b < wr.heap.size := by omega
    have hfew := hP.out.few
    have lz : (0 : Int) < (l'.length : Int) := by omega
    go_upto_region 3 with (go_at_call 46; refine hIs.out.mono ?_; rintro e w3 ⟨rfl, hb3⟩)
    have kk := bcell' hb3
    replace c0 := (kk.1 _ 0 ltr).trans c0
    replace k0 := (kk.1 _ o hbl).trans k0
    replace k1 := (kk.1 _ (o + 1) hbl).trans k1
    replace k2 := (kk.1 _ (o + 2) hbl).trans k2
    replace k3 := (kk.1 _ (o + 3) hbl).trans k3
    replace k4 := (kk.1 _ (o + 4) hbl).trans k4
    replace k5 := (kk.1 _ (o + 5) hbl).trans k5
    have hz3 := hb3.size
    have hgc := gcell w3
    have hg3 : g < w3.heap.size := by omega
    have hb3l : b < w3.heap.size := by omega
    clear kk
    by_cases hc : acc.length < 8 ∨ k ≠ 2
    ·have hA1 := hide (fun W => hA'.out true 5 W)
     simp only [if_true] at hA1
     rw [if_neg (fun g => g hc)] at hR1
     by_cases h8 : acc.length < 8
     ·have d1 : decide ((acc.length : Int) < 8) = true := decide_eq_true (by omega)
      clear hpk hc
      go_wp2_with fail
      refine wp_region_quiet_tail 19 (by kernel_rfl) (by kernel_rfl) ?_
      simp only [List.take_succ_cons, List.take_zero, List.drop_succ_cons, List.drop_zero]
      repeat (any_goals (first | go_big_quiet_step (fail) | quiet_step (fail)))
      refine wpQuiet_nil ?_
      intro w4 hw4
      go_upto_region 4 with (go_at_call 47; refine (hA1.out _).mono ?_; rintro e w5 ⟨rfl, hb5⟩; have hb6 := hb3.trans (hw4.trans (hb5.mono hw4.size) |>.mono hz3))
      clear c0 k0 k1 k2 k3 k4 k5 hgc hg3 hb3l hb5 hw4
      cases hpt : portT l' with
      | error x =>
       have hR2 := hide (show RES = .error x from by rw [hR1.out, hpt]; rfl)
       have hPe := hide (fun (W : World) (hW : Below wr.heap.size wr W) => show Calls Tryz.prog 74 #[.pointer (some ⟨g, 0, none⟩)] W fun e w' => Grg g W w' ∧ e = pwr x from by have := hPt'.out W hW; rw [hpt] at this; exact this)
       clear hR1 hpo hPt' hpt
       go_wp2_with (go_at_call 74; refine (hPe.out _ hb6).mono ?_; rintro e w7 ⟨hG7, rfl⟩)
       exact ⟨rfl, hQ2.out _ _ (hG.out.trans ((Grg.of hb6).trans hG7)) hR2.out⟩
      | ok x =>
       obtain ⟨p, l1'⟩ := x
       obtain ⟨q1, q2, q3, q4, q5, q6⟩ := hpo.out p l1' hpt
       have hlt1 : l1'.length + 1 = l'.length := by rw [q6]; exact hadv.out (by omega)
       have hPe := hide (fun (W : World) (hW : Below wr.heap.size wr W) => show Calls Tryz.prog 74 #[.pointer (some ⟨g, 0, none⟩)] W fun e w' => Grg g W w' ∧ (e = .returned (.tuple #[.agg #[.int .u8 (k : Int), .string S, .int .i64 (wd : Int), .int .u64 hi, .int .u64 lo, .int .i64 (pl : Int)], .int .i64 p]) ∧ RdB w' g l1' v1 v2 v3) from by have := hPt'.out W hW; rw [hpt] at this; exact this)
       have hR2 := hide (show RES = finT (if p ∈ acc then .error (8, pl) else match wantT bSemi l1' with
        | .error e => .error e
        | .ok l2 => portsT f' (acc ++ [p]) l2) from by rw [hR1.out, hpt])
       have hpr : 1 ≤ p ∧ p ≤ 511 := by omega
       clear q1 q2 q3 q4 q5 q6
       clear hR1 hpo hPt' hpt
       go_upto_region 5 with (go_at_call 74; refine (hPe.out _ hb6).mono ?_; rintro e w7 ⟨hG7, rfl, hB7⟩; obtain ⟨w8, hw8, hb8, hs8, hl8, x0, x1, x2, x3, x4, x5⟩ := tbox13 w7 k wd hi lo pl S)
       have hG8 := hide ((Grg.of (g := g) hb6).trans (hG7.trans (Grg.of hb8.out)))
       have hB8 := hide (hB7.below hb8.out hB7.lt)
       have hI8 := hide (hI.out.grg hG8.out lt)
       have hz8 := hG8.out.size
       have hC := hide (fun d os => (scontains_any A cap acc p (Go.Sort.grow (redrawn w8 d) os) ((hI8.out.below (below_regrown w8 d os) (Nat.le_refl _)).sl)).mono fun e w' h => (⟨h.1, h.2 ▸ Below.refl _ _⟩ : e = .returned (.bool (decide (p ∈ acc))) ∧ Below (Go.Sort.grow (redrawn w8 d) os).heap.size (Go.Sort.grow (redrawn w8 d) os) w'))
       have hgc8 := gcell w8
       clear hG7 hB7 hw8 hb8 hs8 hPe hI
       by_cases hm : p ∈ acc
       ·have hR3 := hide (show RES = .error (8, pl) from by rw [hR2.out, if_pos hm]; rfl)
        rw [decide_eq_true hm] at hC
        have hA2 := hide (fun W => hA'.out false 8 W)
        simp only [Bool.false_eq_true, if_false] at hA2
        clear hR2 hm
        go_wp2_with fail
        refine wp_region_quiet_tail 5 (by kernel_rfl) (by kernel_rfl) ?_
        simp only [List.take_succ_cons, List.take_zero, List.drop_succ_cons, List.drop_zero]
        repeat (any_goals (first | go_big_quiet_step ((go_at_call 65; with_reducible exact Calls.regrown_of (hC.out _ _))) | quiet_step ((go_at_call 65; with_reducible exact Calls.regrown_of (hC.out _ _)))))
        refine wpQuiet_nil ?_
        intro w9 hw9
        go_wp2_with (go_at_call 47; refine (hA2.out _).mono ?_; rintro e w10 ⟨rfl, hb10⟩)
        exact ⟨rfl, hQ2.out _ _ (hG.out.trans (hG8.out.trans (Grg.of (hw9.trans (hb10.mono hw9.size))))) hR3.out⟩
       ·have hR3 := hide (show RES = finT (match wantT bSemi l1' with
         | .error e => .error e
         | .ok l2 => portsT f' (acc ++ [p]) l2) from by rw [hR2.out, if_neg hm])
        rw [decide_eq_false hm] at hC
        have hA2 := hide (fun W => hA'.out true 8 W)
        simp only [if_true] at hA2
        have hP2 := hide (show PtK (acc ++ [p]) from ⟨by simp; omega, by rw [List.nodup_append]; exact ⟨hP.out.nodup, by simp, fun a ha b hb => by simp at hb; subst hb; exact fun e => hm (e ▸ ha)⟩, fun y hy => by
         rcases List.mem_append.1 hy with hy | hy
         ·exact hP.out.rng y hy
         ·simp at hy; subst hy; exact hpr⟩)
        clear hR2 hm
        go_wp2_with fail
        refine wp_region_quiet_tail 5 (by kernel_rfl) (by kernel_rfl) ?_
        simp only [List.take_succ_cons, List.take_zero, List.drop_succ_cons, List.drop_zero]
        repeat (any_goals (first | go_big_quiet_step ((go_at_call 65; with_reducible exact Calls.regrown_of (hC.out _ _))) | quiet_step ((go_at_call 65; with_reducible exact Calls.regrown_of (hC.out _ _)))))
        refine wpQuiet_nil ?_
        intro w9 hw9
        go_upto_region 6 with (go_at_call 47; refine (hA2.out _).mono ?_; rintro e w10 ⟨rfl, hb10⟩; have hb11 := hw9.trans (hb10.mono hw9.size))
        have hI10 := hI8.out.below hb11 (Nat.le_refl _)
        have hB10 := hB8.out.below hb11 hB8.out.lt
        have hz10 : w.heap.size ≤ w10.heap.size := by have := hb11.size; omega
        obtain ⟨v', w12, hrun, hI12, hb12⟩ := append_ip p hI10 hz10 (by omega)
        obtain ⟨A2, cap2, rfl⟩ := hI12.form
        have hB12 := hide (hB10.below hb12 lt)
        have hG12 := hide ((hG.out.trans (hG8.out.trans (Grg.of hb11))).app hb12)
        replace hI12 := hide hI12
        have hgl : g < w12.heap.size := hB12.out.lt
        cases hwt : wantT bSemi l1' with
        | error x =>
         have hR4 := hide (show RES = .error x from by rw [hR3.out, hwt]; rfl)
         have hWe := hide (show Calls Tryz.prog 52 #[.pointer (some ⟨g, 0, none⟩), .string ⟨#[59]⟩] w12 fun e w' => Grg g w12 w' ∧ e = pwr x from by
          have h1 := want13p ⟨#[59]⟩ hB12.out
          rw [show (⟨#[59]⟩ : ByteArray).data.toList = bSemi from rfl, hwt] at h1
          exact h1)
         clear hR3 hwt hI10 hB10 hb11 hb12 hC hgc8
         go_wp2_with (go_at_call 52; refine hWe.out.mono ?_; rintro e w13 ⟨hG13, rfl⟩)
         exact ⟨rfl, hQ2.out _ _ (hG12.out.trans hG13) hR4.out⟩
        | ok l2 =>
         have hR4 := hide (show RES = finT (portsT f' (acc ++ [p]) l2) from by rw [hR3.out, hwt])
         obtain ⟨-, hl2⟩ := wantT_ok hwt
         have hl3 := advT_le l1'
         rw [← hl2] at hl3
         replace hl2 := hide hl2
         have hWe := hide (show Calls Tryz.prog 52 #[.pointer (some ⟨g, 0, none⟩), .string ⟨#[59]⟩] w12 fun e w' => Grg g w12 w' ∧ e = .returned (.tuple #[]) ∧ RdB w' g l2 v1 v2 v3 from by
          have h1 := want13p ⟨#[59]⟩ hB12.out
          rw [show (⟨#[59]⟩ : ByteArray).data.toList = bSemi from rfl, hwt] at h1
          exact h1)
         clear hR3 hwt hI10 hB10 hb11 hb12 hC hgc8
         go_wp2_with (go_at_call 52; refine hWe.out.mono ?_; rintro e w13 ⟨hG13, rfl, hB13⟩)
         have hI13 := hI12.out.grg hG13 lt
         rw [show (acc ++ [p]).length = acc.length + 1 from by simp] at hI13
         replace hI13 := hide hI13
         have hl13 := hB13.left
         replace hB13 := hide hB13
         have hG14 := hide (hG12.out.trans hG13)
         go_roundw
         case rel => exact ⟨f', acc ++ [p], l2, by omega, hP2, hR4, hI13, hB13, hG14⟩
         case measure => rw [hl13, hl0]; omega
     ·have hk2 : k ≠ 2 := by
       rcases hc with hc | hc
       ·exact absurd hc h8
       ·exact hc
      have d1 : decide ((acc.length : Int) < 8) = false := decide_eq_false (by omega)
      have d2 : ((k : Int) != 2) = true := by simp; omega
      have hpt := hpk.out hk2
      have hR2 := hide (show RES = .error (4, pl) from by rw [hR1.out, hpt]; rfl)
      have hPe := hide (fun (W : World) (hW : Below wr.heap.size wr W) => show Calls Tryz.prog 74 #[.pointer (some ⟨g, 0, none⟩)] W fun e w' => Grg g W w' ∧ e = pwr (4, pl) from by have := hPt'.out W hW; rw [hpt] at this; exact this)
      clear hR1 hpo hPt' hpt hpk hc h8 hk2
      go_wp2_with fail
      refine wp_region_quiet_tail 19 (by kernel_rfl) (by kernel_rfl) ?_
      simp only [List.take_succ_cons, List.take_zero, List.drop_succ_cons, List.drop_zero]
      repeat (any_goals (first | go_big_quiet_step (fail) | quiet_step (fail)))
      refine wpQuiet_nil ?_
      intro w4 hw4
      go_wp2_with (first
       | (go_at_call 47; refine (hA1.out _).mono ?_; rintro e w5 ⟨rfl, hb5⟩; have hb6 := hb3.trans (hw4.trans (hb5.mono hw4.size) |>.mono hz3))
       | (go_at_call 74; refine (hPe.out _ hb6).mono ?_; rintro e w7 ⟨hG7, rfl⟩))
      exact ⟨rfl, hQ2.out _ _ (hG.out.trans ((Grg.of hb6).trans hG7)) hR2.out⟩
    ·have h8 : ¬ acc.length < 8 := fun g => hc (.inl g)
     have hk2 : k = 2 := by
      rcases Nat.lt_or_ge k 2 with g | g
      ·exact absurd (.inr (by omega)) hc
      ·rcases Nat.eq_or_lt_of_le g with g | g
       ·exact g.symm
       ·exact absurd (.inr (by omega)) hc
     have hA1 := hide (fun W => hA'.out false 5 W)
     simp only [Bool.false_eq_true, if_false] at hA1
     have hR2 := hide (show RES = .error (5, pl) from by rw [hR1.out, if_pos hc]; rfl)
     have d1 : decide ((acc.length : Int) < 8) = false := decide_eq_false (by omega)
     have d2 : ((k : Int) != 2) = false := by simp [hk2]
     clear hR1 hpo hpk hPt' hc h8 hk2
     go_wp2_with fail
     refine wp_region_quiet_tail 19 (by kernel_rfl) (by kernel_rfl) ?_
     simp only [List.take_succ_cons, List.take_zero, List.drop_succ_cons, List.drop_zero]
     repeat (any_goals (first | go_big_quiet_step (fail) | quiet_step (fail)))
     refine wpQuiet_nil ?_
     intro w4 hw4
     go_wp2_with (go_at_call 47; refine (hA1.out _).mono ?_; rintro e w5 ⟨rfl, hb5⟩; have hb6 := hb3.trans (hw4.trans (hb5.mono hw4.size) |>.mono hz3))
     exact ⟨rfl, hQ2.out _ _ (hG.out.trans (Grg.of hb6)) hR2.out⟩
end Go.Proofs.YtbjokgnnklcbcaaGreatDoor

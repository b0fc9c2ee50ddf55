import Derived.Test.YtbjokgnnklcbcaaGreatDoorTpr20
set_option linter.all false
/-! The document's layer 13: port. -/
namespace Go.Proofs.YtbjokgnnklcbcaaGreatDoor
open Go.RowKit
theorem nat_beq (k c : Nat) : (k == c) = ((k : Int) == (c : Int)) := by
 rw [Bool.eq_iff_iff, beq_iff_eq, beq_iff_eq]; omega
set_option maxRecDepth 100000 in
set_option maxHeartbeats 4000000 in
theorem port13r {w : World} {g : Nat} {r : Rf} {v1 v2 v3 : Value} (h : RfB w g r v1 v2 v3) : Calls Tryz.prog 56 #[.pointer (some ⟨g, 0, none⟩)] w fun e w' => e = .returned (.tuple #[tkA (portF r).1, .int .i64 (portF r).2.1]) ∧ Grg g w w' ∧ RfB w' g (portF r).2.2 v1 v2 v3 := by
 have lt := h.lt
 obtain ⟨wa, hwa, hba, hsa, hla, z0, z1, z2, z3, z4, z5⟩ := tbox13 w 0 0 0 0 0 ⟨#[]⟩
 have hfa : ∀ i, wa.frozen? ⟨w.heap.size, i, none⟩ = false := by intro i; rw [← hwa]; exact World.frozen?_alloc_at _ _ _ _ rfl
 have hRa := h.below hba.out lt
 have hN := hide (take13r hRa)
 have hGa := hide (Grg.of (g := g) hba.out)
 show Calls _ _ _ w fun e w' => e = .returned (.tuple #[tkA (nowF r), .int .i64 (if (failF (decide (1 ≤ (nowF r).n ∧ (nowF r).n ≤ 511)) (nowF r) 5 (failF ((nowF r).w == 0) (nowF r) 10 (failF ((nowF r).kind == 2) (nowF r) 4 (takeF r)))).bad.isSome then 0 else ((nowF r).n : Int))]) ∧ Grg g w w' ∧ RfB w' g (failF (decide (1 ≤ (nowF r).n ∧ (nowF r).n ≤ 511)) (nowF r) 5 (failF ((nowF r).w == 0) (nowF r) 10 (failF ((nowF r).kind == 2) (nowF r) 4 (takeF r)))) v1 v2 v3
 generalize nowF r = t at hN ⊢
 generalize takeF r = R1 at hN ⊢
 obtain ⟨R2, hR2⟩ : ∃ R2, R2 = failF (t.kind == 2) t 4 R1 := ⟨_, rfl⟩
 obtain ⟨R3, hR3⟩ : ∃ R3, R3 = failF (t.w == 0) t 10 R2 := ⟨_, rfl⟩
 obtain ⟨R4, hR4⟩ : ∃ R4, R4 = failF (decide (1 ≤ t.n ∧ t.n ≤ 511)) t 5 R3 := ⟨_, rfl⟩
 rw [← hR2, ← hR3, ← hR4]
 have hF2 := hide (fun (W : World) (hW : RfB W g R1 v1 v2 v3) => hR2 ▸ fail13r (t.kind == 2) t 4 hW)
 have hF3 := hide (fun (W : World) (hW : RfB W g R2 v1 v2 v3) => hR3 ▸ fail13r (t.w == 0) t 10 hW)
 have hF4 := hide (fun (W : World) (hW : RfB W g R3 v1 v2 v3) => hR4 ▸ fail13r (decide (1 ≤ t.n ∧ t.n ≤ 511)) t 5 hW)
 have hbd := hide (show R4.bad.isSome = false → 1 ≤ t.n ∧ t.n ≤ 511 from fun hb => by
  by_cases hc : 1 ≤ t.n ∧ t.n ≤ 511
  ·exact hc
  ·rw [hR4] at hb
   unfold failF at hb
   rw [decide_eq_false hc] at hb
   cases hq : R3.bad.isSome with
   | true => rw [hq] at hb; simp at hb; rw [hb] at hq; cases hq
   | false => rw [hq] at hb; simp at hb)
 clear hR2 hR3 hR4
 obtain ⟨k, s, wd, m, pl⟩ := t
 unfold tkA at hN hF2 hF3 hF4 ⊢
 simp only at hN hF2 hF3 hF4 hbd ⊢
 rw [nat_beq] at hF2 hF3
 generalize (⟨s.toArray⟩ : ByteArray) = S at hN hF2 hF3 hF4 ⊢
 generalize hhi : ((m / 18446744073709551616 : Nat) : Int) = hi at hN hF2 hF3 hF4 ⊢
 generalize hlo : ((m % 18446744073709551616 : Nat) : Int) = lo at hN hF2 hF3 hF4 ⊢
 generalize hIF : (if R4.bad.isSome = true then (0 : Int) else (m : Int)) = PV
 replace hIF := hide hIF
 clear h hRa
 have hwg : w.heap.size ≠ g := by omega
 have hgw : g ≠ w.heap.size := by omega
 go_enter Tryz.func56, Tryz.ntmps56
 go_upto_region 2 with (go_at_call 22; refine hN.out.mono ?_; rintro e w2 ⟨rfl, hG2, hR2⟩; obtain ⟨w3, hw3, hb3, hs3, hl3, x0, x1, x2, x3, x4, x5⟩ := tbox13 w2 k wd hi lo pl S)
 have hG3 := hide (hG2.trans (Grg.of (g := g) hb3.out))
 have hR3 := hide (hR2.below hb3.out hR2.lt)
 have hz2 := hG2.size
 have hn1 : w2.heap.size ≠ g := by have := hR2.lt; omega
 have hwn1 : w2.heap.size ≠ w.heap.size := by omega
 have hwn2 : w.heap.size ≠ w2.heap.size := by omega
 clear hG2 hR2 hw3 hb3 hs3 hN
 go_upto_region 3 with (go_at_call 20; refine (hF2.out _ hR3.out).mono ?_; rintro e w4 ⟨rfl, hG4, hR4⟩)
 replace x0 := (hG4.cell hl3 hn1).trans x0
 replace x1 := (hG4.cell hl3 hn1).trans x1
 replace x2 := (hG4.cell hl3 hn1).trans x2
 replace x3 := (hG4.cell hl3 hn1).trans x3
 replace x4 := (hG4.cell hl3 hn1).trans x4
 replace x5 := (hG4.cell hl3 hn1).trans x5
 have hl4 := Nat.lt_of_lt_of_le hl3 hG4.size
 have hG4' := hide (hG3.out.trans hG4)
 replace hR4 := hide hR4
 clear hG3 hG4 hR3 hl3
 go_upto_region 4 with (go_at_call 20; refine (hF3.out _ hR4.out).mono ?_; rintro e w5 ⟨rfl, hG5, hR5⟩)
 replace x0 := (hG5.cell hl4 hn1).trans x0
 replace x1 := (hG5.cell hl4 hn1).trans x1
 replace x2 := (hG5.cell hl4 hn1).trans x2
 replace x3 := (hG5.cell hl4 hn1).trans x3
 replace x4 := (hG5.cell hl4 hn1).trans x4
 replace x5 := (hG5.cell hl4 hn1).trans x5
 have hl5 := Nat.lt_of_lt_of_le hl4 hG5.size
 have hG5' := hide (hG4'.out.trans hG5)
 replace hR5 := hide hR5
 clear hG4' hG5 hR4 hl4
 go_cut [] (fun wx => Hid (Grg g w5 wx) ∧ Hid (RfB wx g R4 v1 v2 v3))
 case first =>
  have hF5 := hide (hF4.out _ hR5.out)
  by_cases h0 : hi = 0
  ·have e0 : (hi == 0) = true := by rw [beq_iff_eq]; exact h0
   by_cases h1 : 0 < lo
   ·have d1 : decide (0 < lo) = true := decide_eq_true h1
    by_cases h2 : lo < 512
    ·have d2 : decide (lo < 512) = true := decide_eq_true h2
     rw [decide_eq_true (show 1 ≤ m ∧ m ≤ 511 by omega)] at hF5
     clear h0 hhi hlo
     go_wp2_with (go_at_call 20; refine hF5.out.mono ?_; rintro e w6 ⟨rfl, hG6, hR6⟩)
     go_meet
     exact ⟨hide hG6, hide hR6⟩
    ·have d2 : decide (lo < 512) = false := decide_eq_false h2
     rw [decide_eq_false (show ¬ (1 ≤ m ∧ m ≤ 511) by omega)] at hF5
     clear h0 hhi hlo
     go_wp2_with (go_at_call 20; refine hF5.out.mono ?_; rintro e w6 ⟨rfl, hG6, hR6⟩)
     go_meet
     exact ⟨hide hG6, hide hR6⟩
   ·have d1 : decide (0 < lo) = false := decide_eq_false h1
    rw [decide_eq_false (show ¬ (1 ≤ m ∧ m ≤ 511) by omega)] at hF5
    clear h0 hhi hlo
    go_wp2_with (go_at_call 20; refine hF5.out.mono ?_; rintro e w6 ⟨rfl, hG6, hR6⟩)
    go_meet
    exact ⟨hide hG6, hide hR6⟩
  ·have e0 : (hi == 0) = false := beq_eq_false_iff_ne.2 h0
   rw [decide_eq_false (show ¬ (1 ≤ m ∧ m ≤ 511) by omega)] at hF5
   clear hhi hlo
   go_wp2_with (go_at_call 20; refine hF5.out.mono ?_; rintro e w6 ⟨rfl, hG6, hR6⟩)
   go_meet
   exact ⟨hide hG6, hide hR6⟩
 case rest =>
  obtain ⟨hG6, hR6⟩ := hcut
  obtain ⟨w6, rfl⟩ : ∃ w6 : World, w6 = wc := ⟨_, rfl⟩
  replace x0 := (hG6.out.cell hl5 hn1).trans x0
  replace x1 := (hG6.out.cell hl5 hn1).trans x1
  replace x2 := (hG6.out.cell hl5 hn1).trans x2
  replace x3 := (hG6.out.cell hl5 hn1).trans x3
  replace x4 := (hG6.out.cell hl5 hn1).trans x4
  replace x5 := (hG6.out.cell hl5 hn1).trans x5
  have hl6 := Nat.lt_of_lt_of_le hl5 hG6.out.size
  have hGu := hG5'.out.trans hG6.out
  obtain ⟨u0, u1, u2, u3, u4, u5, uf⟩ := keep6 hGu hla hwg z0 z1 z2 z3 z4 z5 hfa
  have g0 := uf 0
  have g1 := uf 1
  have g2 := uf 2
  have g3 := uf 3
  have g4 := uf 4
  have g5 := uf 5
  have hlw : w.heap.size < w6.heap.size := by have := hGu.size; omega
  have hGf := hide (hGa.out.trans hGu)
  obtain ⟨b, o, cp, mm, kx, hO⟩ := hR6.out.open_
  have c5 := hO.c5
  have ltg := hO.lt
  clear hO hGu hG5' hG6 hR5 hl5 uf hfa z0 z1 z2 z3 z4 z5 hF2 hF3 hF4
  cases hb : R4.bad.isSome with
  | true =>
   rw [hb] at c5
   clear hhi hlo hbd
   go_wp2
   obtain ⟨q1, q2⟩ := set6r (r := w.heap.size) hGf.out hR6.out (Nat.le_refl _) lt (.int .u8 (k : Int)) (.string S) (.int .i64 (wd : Int)) (.int .u64 hi) (.int .u64 lo) (.int .i64 (pl : Int))
   have hPV : PV = 0 := by rw [← hIF.out, hb]; rfl
   refine bodyPost_ret (v := .tuple #[.agg #[.int .u8 (k : Int), .string S, .int .i64 (wd : Int), .int .u64 hi, .int .u64 lo, .int .i64 (pl : Int)], .int .i64 0]) ?_ rfl ⟨by rw [hPV], q1, q2⟩
   simp [results, Tryz.results56, go_sem, u0, u1, u2, u3, u4, u5]
  | false =>
   rw [hb] at c5
   have hm := hbd.out hb
   have hlm : lo = (m : Int) := by omega
   have hwr : IntKind.i64.wrap lo = lo := IntWalk.i64_in _ (by omega)
   replace hlm := hide hlm
   clear hhi hlo hbd
   go_wp2_with fail
   go_region
   go_wp2
   obtain ⟨q1, q2⟩ := set6r (r := w.heap.size) hGf.out hR6.out (Nat.le_refl _) lt (.int .u8 (k : Int)) (.string S) (.int .i64 (wd : Int)) (.int .u64 hi) (.int .u64 lo) (.int .i64 (pl : Int))
   refine bodyPost_ret (v := .tuple #[.agg #[.int .u8 (k : Int), .string S, .int .i64 (wd : Int), .int .u64 hi, .int .u64 lo, .int .i64 (pl : Int)], .int .i64 lo]) ?_ rfl ⟨?_, q1.drew, q2.drew⟩
   ·simp [results, Tryz.results56, go_sem, u0, u1, u2, u3, u4, u5]
   ·rw [hlm.out, show PV = (m : Int) from by rw [← hIF.out, hb]; rfl]
end Go.Proofs.YtbjokgnnklcbcaaGreatDoor
/-! The document's layer 13: sorted. -/
namespace Go.Proofs.YtbjokgnnklcbcaaGreatDoor
open Go.RowKit
attribute [local go_sem ↓] app_eq
/-- Those of 1 to k that are among some. -/
def sortK (l : List Int) (k : Nat) : List Int := ((List.range k).map fun i : Nat => ((i : Int) + 1)).filter fun x => decide (x ∈ l)
theorem sortK_all (l : List Int) : sortK l 511 = sortP l := rfl
theorem sortK_succ (l : List Int) (k : Nat) : sortK l (k + 1) = sortK l k ++ if ((k : Int) + 1) ∈ l then [(k : Int) + 1] else [] := by
 unfold sortK
 rw [List.range_succ, List.map_append, List.filter_append]
 congr 1
 by_cases h : ((k : Int) + 1) ∈ l
 ·simp [h]
 ·simp [h]
theorem sortK_len (l : List Int) (k : Nat) : (sortK l k).length ≤ k := by
 unfold sortK
 refine Nat.le_trans (List.length_filter_le _ _) ?_
 simp
set_option maxRecDepth 100000 in
set_option maxHeartbeats 4000000 in
theorem sorted13r (A : Option Addr) (cap : Nat) (l : List Int) (w : World) (h : Sl 1 rInt w w.heap.size A l) : Calls Tryz.prog 58 #[.slice A l.length cap] w fun e w' => (∃ V, e = .returned V ∧ IpS w' w.heap.size V (sortP l)) ∧ Below w.heap.size w w' := by
 have hl := h.len
 go_enter Tryz.func58, Tryz.ntmps58
 go_wp2
 go_loopw [3, 4] (fun ov nv wr => ∃ k : Nat, k ≤ 511 ∧ nv = .int .i64 ((k : Int) + 1) ∧ Hid (IpS wr w.heap.size ov (sortK l k)) ∧ Hid (Below w.heap.size w wr)) (fun _ nv _ => 512 - (intOf nv).toNat)
 case atStart => exact ⟨0, Nat.zero_le _, rfl, hide (IpS.nil_ _ _), hide (Below.refl _ _)⟩
 case round =>
  obtain ⟨k, hk, rfl, hI, hB⟩ := hrel
  have hzr := hB.out.size
  by_cases hlt : k < 511
  ·have hkz : (k : Int) + 1 < 512 := by omega
   have hC := hide (has1_any A cap l ((k : Int) + 1) wr ((h.below sta_int hB.out).more sta_int hzr))
   have hsu := hide (sortK_succ l k)
   have hkl := sortK_len l k
   have hkw : IntKind.i64.wrap ((k : Int) + 1 + 1) = ((k + 1 : Nat) : Int) + 1 := by rw [IntWalk.i64_in _ (by omega)]; omega
   obtain ⟨A2, c2, rfl⟩ := hI.out.form
   by_cases hm : ((k : Int) + 1) ∈ l
   ·rw [decide_eq_true hm] at hC
    rw [if_pos hm] at hsu
    obtain ⟨v', w3, hrun, hI3, hb3⟩ := append_ip ((k : Int) + 1) hI.out hzr (by omega)
    rw [← hsu.out] at hI3
    replace hI3 := hide hI3
    have hB3 := hide (hB.out.trans hb3)
    clear hm hsu hI hb3 h
    generalize (sortK l k).length = nk at hrun hkl ⊢
    go_wp2_with (go_at_call 57; refine hC.out.mono ?_; rintro e w4 ⟨rfl, rfl⟩)
    go_roundw
    case rel => exact ⟨k + 1, by omega, by go_num, hI3, hB3⟩
    case measure => simp [intOf]; omega
   ·rw [decide_eq_false hm] at hC
    rw [if_neg hm, List.append_nil] at hsu
    have hI3 := hI.out
    rw [← hsu.out] at hI3
    have hlen := hide (congrArg List.length hsu.out)
    replace hI3 := hide hI3
    clear hm hI h
    go_wp2_with (go_at_call 57; refine hC.out.mono ?_; rintro e w4 ⟨rfl, rfl⟩)
    go_roundw
    case rel => exact ⟨k + 1, by omega, by go_num, by rw [hlen.out] at *; exact hI3, hB⟩
    case measure => simp [intOf]; omega
  ·obtain rfl : k = 511 := by omega
   rw [sortK_all] at hI
   go_wp2
   go_ret
   exact ⟨⟨_, rfl, hI.out⟩, hB.out⟩
end Go.Proofs.YtbjokgnnklcbcaaGreatDoor
/-! The document's layer 13: ports (plain part). -/
namespace Go.Proofs.YtbjokgnnklcbcaaGreatDoor
open Go.RowKit
/-- A round ends in a fault, or has taken tokens off. -/
theorem port1F_less {l : List Tk} {n : Net} (out : List Int) (h : hasEnd l) : ((port1F out ⟨l, n, none⟩).2.bad.isSome = true ∨ ((port1F out ⟨l, n, none⟩).2.l.length < l.length ∧ out.length < 8)) := by
 unfold port1F
 by_cases h1 : out.length < 8 ∨ (headT l).kind ≠ 2
 ·have h1b : (decide (out.length < 8) || (headT l).kind != 2) = true := by simpa using h1
  have e1 : failF (decide (out.length < 8) || (nowF ⟨l, n, none⟩).kind != 2) (nowF ⟨l, n, none⟩) 5 ⟨l, n, none⟩ = ⟨l, n, none⟩ := by rw [now_none, h1b, fail_yes]
  simp only [e1, port_none]
  cases hp : portT l with
  | error e => left; simp only [fail_some, want_some]; rfl
  | ok x =>
   obtain ⟨p, l1⟩ := x
   obtain ⟨q1, -, -, -, -, q6⟩ := portT_ok hp
   have hlt := advT_lt h (by omega)
   rw [← q6] at hlt
   have h8 : out.length < 8 := by
    rcases h1 with h1 | h1
    ·exact h1
    ·exact absurd q1 h1
   simp only
   by_cases hm : p ∈ out
   ·left
    simp only [hm, decide_true, Bool.not_true, fail_no, want_some]
    rfl
   ·simp only [hm, decide_false, Bool.not_false, fail_yes, want_none]
    cases hw : wantT bSemi l1 with
    | error e => left; rfl
    | ok l2 =>
     right
     have := (wantT_ok hw).2
     have h3 := advT_le l1
     rw [← this] at h3
     exact ⟨by show l2.length < l.length; omega, h8⟩
 ·have h1b : (decide (out.length < 8) || (headT l).kind != 2) = false := by
   rw [Bool.eq_false_iff]; simpa using h1
  have e1 : failF (decide (out.length < 8) || (nowF ⟨l, n, none⟩).kind != 2) (nowF ⟨l, n, none⟩) 5 ⟨l, n, none⟩ = ⟨l, n, some (5, (headT l).pl)⟩ := by rw [now_none, h1b, fail_no]
  left
  simp only [e1, port_some, fail_some, want_some]
  rfl
theorem IpS.mono_ {w : World} {base base' : Nat} {v : Value} {l : List Int} (h : IpS w base v l) (hb : base' ≤ base) : IpS w base' v l := by
 refine ⟨h.1, ?_⟩
 rcases h.2 with h2 | ⟨g, cap, cur, rfl, hg, r⟩
 ·exact .inl h2
 ·exact .inr ⟨g, cap, cur, rfl, by omega, r⟩
/-- How far a reader is from its end. -/
def leftR (g : Nat) (W : World) : Nat := match W.cell? ⟨g, 5, none⟩, W.cell? ⟨g, 0, none⟩, W.cell? ⟨g, 1, none⟩ with
 | some (.bool false), some (.slice _ m _), some (.int _ k) => m - k.toNat + 1
 | _, _, _ => 0
theorem RfB.left {w : World} {g : Nat} {r : Rf} {v1 v2 v3 : Value} (h : RfB w g r v1 v2 v3) : leftR g w = if r.bad.isSome then 0 else r.l.length + 1 := by
 obtain ⟨h0, A, cap, T, k, h1, h2, h3⟩ := h
 unfold leftR
 have c0 : w.cell? ⟨g, 0, none⟩ = some (.slice A T.length cap) := by simp [World.cell?, h3]
 have c1 : w.cell? ⟨g, 1, none⟩ = some (.int .i64 (k : Int)) := by simp [World.cell?, h3]
 have c5 : w.cell? ⟨g, 5, none⟩ = some (.bool r.bad.isSome) := by simp [World.cell?, h3]
 rw [c0, c1, c5]
 cases hb : r.bad.isSome with
 | true => rfl
 | false =>
  simp only [Int.toNat_natCast, Bool.false_eq_true, if_false]
  rw [h1, List.length_drop]
end Go.Proofs.YtbjokgnnklcbcaaGreatDoor
/-! The document's layer 13: ports. -/
namespace Go.Proofs.YtbjokgnnklcbcaaGreatDoor
open Go.RowKit
attribute [local go_sem ↓] app_eq
set_option maxRecDepth 100000 in
set_option maxHeartbeats 8000000 in
theorem ports13r {w : World} {g : Nat} {r : Rf} {v1 v2 v3 : Value} (h : RfB w g r v1 v2 v3) : Calls Tryz.prog 25 #[.pointer (some ⟨g, 0, none⟩)] w fun e w' => (∃ V, e = .returned V ∧ IpS w' w.heap.size V (prtsF r).1) ∧ Grg g w w' ∧ RfB w' g (prtsF r).2 v1 v2 v3 := by
 have lt := h.lt
 have hW0 := want13r ⟨#[123]⟩ h
 rw [show (⟨#[123]⟩ : ByteArray).data.toList = bOpen from rfl] at hW0
 replace hW0 := hide hW0
 have hv := hide (show prtsF r = (sortP (portsF (wantF bOpen r).l.length [] (wantF bOpen r)).1, wantF bShut (portsF (wantF bOpen r).l.length [] (wantF bOpen r)).2) from rfl)
 generalize prtsF r = RES at hv ⊢
 generalize wantF bOpen r = R0 at hW0 hv
 generalize hX : portsF R0.l.length [] R0 = X at hv
 replace hX := hide hX
 have hvv : RES = (sortP X.1, wantF bShut X.2) := hv.out
 subst hvv
 clear hv
 go_enter Tryz.func25, Tryz.ntmps25
 go_upto_region 3 with (go_at_call 27; refine hW0.out.mono ?_; rintro e w2 ⟨rfl, hG2, hR2⟩)
 have hz2 := hG2.size
 go_loopw [3, 4, 5] (fun ov _ _ wr => ∃ (f : Nat) (out : List Int) (R : Rf), Hid (out.length ≤ 9 ∧ (R.bad.isSome = false → out.length ≤ 8 ∧ R.l.length ≤ f)) ∧ Hid (portsF f out R = X) ∧ Hid (IpS wr w.heap.size ov out) ∧ Hid (RfB wr g R v1 v2 v3) ∧ Hid (Grg g w wr)) (fun _ _ _ wr => leftR g wr)
 case atStart => exact ⟨R0.l.length, [], R0, hide ⟨by simp, fun _ => ⟨by simp, Nat.le_refl _⟩⟩, hX, hide (IpS.nil_ _ _), hide hR2, hide hG2⟩
 case round =>
  clear hX hR2 hG2 hW0 h
  obtain ⟨f, out, R, hL, hX, hI, hB, hG⟩ := hrel
  have hzr := hG.out.size
  have hlf := hB.out.left
  obtain ⟨A, cap, rfl⟩ := hI.out.form
  obtain ⟨b, o, cp, mm, kx, hO⟩ := hB.out.open_
  have c5 := hO.c5
  have ltg := hO.lt
  clear hO
  have hH := hide (has13r ⟨#[125]⟩ hB.out)
  rw [show (⟨#[125]⟩ : ByteArray).data.toList = bShut from rfl] at hH
  -- how it ends
  have hWt := hide (fun (W : World) (hW : Below wr.heap.size wr W) => show Calls Tryz.prog 27 #[.pointer (some ⟨g, 0, none⟩), .string ⟨#[125]⟩] W fun e w' => e = .returned (.tuple #[]) ∧ Grg g W w' ∧ RfB w' g (wantF bShut R) v1 v2 v3 from want13r ⟨#[125]⟩ (hB.out.below hW hB.out.lt))
  have hSt := hide (fun (W : World) (hW : Grg g wr W) => sorted13r A cap out W ((hI.out.grg hW lt).sl))
  cases hb : R.bad.isSome with
  | true =>
   rw [hb] at c5
   have hXe : X = (out, R) := by
    rw [← hX.out]
    obtain ⟨l, n, bad⟩ := R
    cases bad with
    | none => cases hb
    | some x => exact ports_some _ _ _ _ _
   clear hX hL
   subst hXe
   clear hH
   go_wp2_with (first
    | (go_at_call 27; refine (hWt.out _ (Below.refl _ _)).mono ?_; rintro e w4 ⟨rfl, hG4, hB4⟩)
    | (go_at_call 58; refine (hSt.out _ hG4).mono ?_; rintro e w6 ⟨⟨V, rfl, hI6⟩, hb6⟩))
   go_ret
   exact ⟨⟨V, rfl, hI6.mono_ (by have := hG4.size; omega)⟩, hG.out.trans (hG4.trans (Grg.of hb6)), hB4.below hb6 hB4.lt⟩
  | false =>
   rw [hb] at c5
   cases hs : hasF bShut R with
   | true =>
    rw [hs] at hH
    have hXe : X = (out, R) := by
     rw [← hX.out]
     cases f with
     | zero => rfl
     | succ f => unfold portsF; rw [hb, hs]; rfl
    clear hX hL
    subst hXe
    go_wp2_with (first
     | (go_at_call 19; refine hH.out.mono ?_; rintro e w3 ⟨rfl, hb3⟩)
     | (go_at_call 27; refine (hWt.out _ hb3).mono ?_; rintro e w4 ⟨rfl, hG4, hB4⟩; have hG5 := (Grg.of hb3).trans hG4)
     | (go_at_call 58; refine (hSt.out _ hG5).mono ?_; rintro e w6 ⟨⟨V, rfl, hI6⟩, hb6⟩))
    go_ret
    exact ⟨⟨V, rfl, hI6.mono_ (by have := hG5.size; omega)⟩, hG.out.trans (hG5.trans (Grg.of hb6)), hB4.below hb6 hB4.lt⟩
   | false =>
    rw [hs] at hH
    obtain ⟨hl8, hlR⟩ := hL.out.2 hb
    have hpos := List.length_pos_iff.2 hB.out.1.ne
    obtain ⟨f', rfl⟩ : ∃ f', f = f' + 1 := ⟨f - 1, by omega⟩
    have hX1 := hide (show portsF f' (port1F out R).1 (port1F out R).2 = X from by rw [← hX.out, portsF, hb, hs]; rfl)
    have hnew : (port1F out R).2.bad.isSome = true ∨ ((port1F out R).2.l.length < R.l.length ∧ out.length < 8) := by
     obtain ⟨l, n, bad⟩ := R
     cases bad with
     | some x => cases hb
     | none => exact port1F_less out hB.out.1
    rw [hb] at hlf
    simp only [Bool.false_eq_true, if_false] at hlf
    clear hX hL hWt hSt hs
    have hNow := hide (fun (W : World) (hW : Below wr.heap.size wr W) => now13r (hB.out.below hW hB.out.lt))
    obtain ⟨F1, hF1⟩ : ∃ F1, F1 = failF (decide (out.length < 8) || (nowF R).kind != 2) (nowF R) 5 R := ⟨_, rfl⟩
    have hF1c := hide (fun (W : World) (hW : Below wr.heap.size wr W) => hF1 ▸ fail13r (decide (out.length < 8) || (nowF R).kind != 2) (nowF R) 5 (hB.out.below hW hB.out.lt))
    have hP := hide (fun (W : World) (hW : RfB W g F1 v1 v2 v3) => port13r hW)
    have hp1 : port1F out R = (out ++ [(portF F1).2.1], wantF bSemi (failF (!decide ((portF F1).2.1 ∈ out)) (portF F1).1 8 (portF F1).2.2)) := by rw [hF1]; rfl
    rw [hp1] at hX1 hnew
    clear hF1 hp1
    generalize portF F1 = x at hP hX1 hnew
    obtain ⟨t2, p, R2⟩ := x
    simp only at hP hX1 hnew
    have hF3c := hide (fun (W : World) (hW : RfB W g R2 v1 v2 v3) => fail13r (!decide (p ∈ out)) t2 8 hW)
    generalize failF (!decide (p ∈ out)) t2 8 R2 = F3 at hF3c hX1 hnew
    have hW4 := hide (fun (W : World) (hW : RfB W g F3 v1 v2 v3) => show Calls Tryz.prog 27 #[.pointer (some ⟨g, 0, none⟩), .string ⟨#[59]⟩] W fun e w' => e = .returned (.tuple #[]) ∧ Grg g W w' ∧ RfB w' g (wantF bSemi F3) v1 v2 v3 from want13r ⟨#[59]⟩ hW)
    generalize wantF bSemi F3 = F4 at hW4 hX1 hnew
    generalize nowF R = t at hNow hF1c
    obtain ⟨k, s, wd, m, pl⟩ := t
    obtain ⟨k2, s2, wd2, m2, pl2⟩ := t2
    unfold tkA at hNow hF1c hP hF3c
    simp only at hNow hF1c hP hF3c
    generalize (⟨s.toArray⟩ : ByteArray) = S at hNow hF1c
    generalize ((m / 18446744073709551616 : Nat) : Int) = hi at hNow hF1c
    generalize ((m % 18446744073709551616 : Nat) : Int) = lo at hNow hF1c
    generalize (⟨s2.toArray⟩ : ByteArray) = S2 at hP hF3c
    generalize ((m2 / 18446744073709551616 : Nat) : Int) = hi2 at hP hF3c
    generalize ((m2 % 18446744073709551616 : Nat) : Int) = lo2 at hP hF3c
    go_upto_region 4 with (go_at_call 19; refine hH.out.mono ?_; rintro e w3 ⟨rfl, hb3⟩)
    go_cut [] (fun wx => Hid (Grg g wr wx) ∧ Hid (RfB wx g F1 v1 v2 v3))
    case first =>
     clear c5 ltg
     by_cases h8 : out.length < 8
     ·have d1 : decide ((out.length : Int) < 8) = true := decide_eq_true (by omega)
      have d0 : (out.length : Int) < 8 := by omega
      rw [decide_eq_true h8, Bool.true_or] at hF1c
      clear h8
      go_wp2_with (first
       | (go_at_call 21; refine (hNow.out _ hb3).mono ?_; rintro e w4 ⟨rfl, hb4⟩; have hb5 := hb3.trans (hb4.mono hb3.size))
       | (go_at_call 20; refine (hF1c.out _ hb5).mono ?_; rintro e w6 ⟨rfl, hG6, hR6⟩))
      go_meet
      exact ⟨hide ((Grg.of hb5).trans hG6), hide hR6⟩
     ·have d1 : decide ((out.length : Int) < 8) = false := decide_eq_false (by omega)
      have d0 : ¬ (out.length : Int) < 8 := by omega
      have hkk : (k != 2) = ((k : Int) != 2) := by
       rw [Bool.eq_iff_iff]; simp; omega
      rw [decide_eq_false h8, Bool.false_or, hkk] at hF1c
      clear h8 hkk
      have hfs : ∀ W, (Instr.field 64 (.agg #[.int .u8 (k : Int), .string S, .int .i64 (wd : Int), .int .u64 hi, .int .u64 lo, .int .i64 (pl : Int)]) 0).run Tryz.prog W = .ok (.int .u8 (k : Int)) W := fun _ => by kernel_rfl
      go_wp2_with (first
       | (go_at_call 21; refine (hNow.out _ hb5).mono ?_; rintro e w5 ⟨rfl, hb6⟩; have hb7 := hb5.trans (hb6.mono hb5.size))
       | (go_at_call 21; refine (hNow.out _ hb3).mono ?_; rintro e w4 ⟨rfl, hb4⟩; have hb5 := hb3.trans (hb4.mono hb3.size))
       | (go_at_call 20; refine (hF1c.out _ hb7).mono ?_; rintro e w6 ⟨rfl, hG6, hR6⟩))
      go_meet
      exact ⟨hide ((Grg.of hb7).trans hG6), hide hR6⟩
    case rest =>
     obtain ⟨hG6, hR6⟩ := hcut
     obtain ⟨w6, rfl⟩ : ∃ w6 : World, w6 = wc := ⟨_, rfl⟩
     clear hNow hF1c hH c5 ltg
     go_upto_region 6 with (go_at_call 56; refine (hP.out _ hR6.out).mono ?_; rintro e w7 ⟨rfl, hG7, hR7⟩; obtain ⟨w8, hw8, hb8, hs8, hl8', x0, x1, x2, x3, x4, x5⟩ := tbox13 w7 k2 wd2 hi2 lo2 pl2 S2)
     have hG8 := hide (hG6.out.trans (hG7.trans (Grg.of hb8.out)))
     have hR8 := hide (hR7.below hb8.out hR7.lt)
     have hI8 := hide (hI.out.grg hG8.out lt)
     have hC := hide (fun d os => (has1_any A cap out p (Go.Sort.grow (redrawn w8 d) os) ((hI8.out.below (below_regrown w8 d os) (Nat.le_refl _)).sl)).mono fun e w' h => (⟨h.1, h.2 ▸ Below.refl _ _⟩ : e = .returned (.bool (decide (p ∈ out))) ∧ Below (Go.Sort.grow (redrawn w8 d) os).heap.size (Go.Sort.grow (redrawn w8 d) os) w'))
     generalize decide (p ∈ out) = pm at hC hF3c
     have hgc := gcell w8
     clear hG7 hR7 hw8 hb8 hs8 hP hG6 hR6
     go_wp2_with fail
     refine wp_region_quiet_tail 6 (by kernel_rfl) (by kernel_rfl) ?_
     simp only [List.take_succ_cons, List.take_zero, List.drop_succ_cons, List.drop_zero]
     repeat (any_goals (first | go_big_quiet_step ((go_at_call 57; with_reducible exact Calls.regrown_of (hC.out _ _))) | quiet_step ((go_at_call 57; with_reducible exact Calls.regrown_of (hC.out _ _)))))
     refine wpQuiet_nil ?_
     intro w9 hw9
     go_upto_region 7 with (go_at_call 20; refine (hF3c.out _ (hR8.out.below hw9 hR8.out.lt)).mono ?_; rintro e w10 ⟨rfl, hG10, hR10⟩)
     have hG11 := hide (hG8.out.trans ((Grg.of hw9).trans hG10))
     replace hR10 := hide hR10
     clear hG10 hw9 hR8 hI8 hG8 hC hgc x0 x1 x2 x3 x4 x5 hF3c
     go_upto_region 8 with (go_at_call 27; refine (hW4.out _ hR10.out).mono ?_; rintro e w12 ⟨rfl, hG12, hR12⟩)
     have hG13 := hide (hG11.out.trans hG12)
     have hGw := hG.out.trans hG13.out
     have hI12 := hI.out.grg hG13.out lt
     obtain ⟨v', w14, hrun, hI14, hb14⟩ := append_ip p hI12 hGw.size (by omega)
     obtain ⟨A2, cap2, rfl⟩ := hI14.form
     rw [show (out ++ [p]).length = out.length + 1 from by simp] at hrun hI14
     have hR14 := hR12.below hb14 lt
     have hl14 := hR14.left
     replace hR14 := hide hR14
     replace hI14 := hide hI14
     have hG14 := hide (hGw.app hb14)
     clear hG13 hGw hI12 hR12 hG12 hb14 hI
     go_wp2
     go_roundw
     case rel => exact ⟨f', out ++ [p], F4, hide ⟨by simp; omega, fun hq => by
      rcases hnew with hn | ⟨hn1, hn2⟩
      ·rw [hq] at hn; cases hn
      ·exact ⟨by simp; omega, by omega⟩⟩, hX1, hI14, hR14, hG14⟩
     case measure =>
      rw [hl14, hlf]
      rcases hnew with hn | ⟨hn1, hn2⟩
      ·rw [hn]; simp
      ·split
       ·omega
       ·omega
end Go.Proofs.YtbjokgnnklcbcaaGreatDoor

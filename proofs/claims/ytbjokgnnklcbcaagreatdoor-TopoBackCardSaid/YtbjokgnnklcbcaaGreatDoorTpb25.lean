import Derived.Test.YtbjokgnnklcbcaaGreatDoorTpb23
import Derived.Deep.RegionHeld3
import Derived.Test.YtbjokgnnklcbcaaGreatDoorTpb24
set_option linter.all false
/-! Layer 13: end. -/
namespace Go.Proofs.YtbjokgnnklcbcaaGreatDoor
open Go.RowKit
attribute [local go_sem] run_panic_iface
/-- How end ends. -/
def endE (g : Nat) (w : World) (v1 v2 v3 : Value) (r : Except (Int × Nat) (Nat × (Int × Int) × List Tk)) (e : Ending) (w' : World) : Prop :=
 Grg g w w' ∧ match r with
  | .ok x => (∃ t : Tk, t.pl = x.1 ∧ e = .returned (.tuple #[tkA t, endV x.2.1])) ∧ RdB w' g x.2.2 v1 v2 v3
  | .error x => e = pwr x
theorem held13 {n : Nat} {wz W : World} (h : Below n wz W) : Below n wz W ∧ ∀ b o, b < n → W.cell? ⟨b, o, none⟩ = wz.cell? ⟨b, o, none⟩ := ⟨h, (bcell' h).1⟩
set_option maxRecDepth 100000 in
set_option maxHeartbeats 8000000 in
theorem end13p {w : World} {g : Nat} {l : List Tk} {v1 v2 v3 : Value} {n : Net} {mm : Int} (h : RdB w g l v1 v2 v3) (hN : NetN w g v1 v2 v3 n) (hg0 : 0 < g) (hm : w.cell? ⟨0, 0, none⟩ = some (.int .i64 mm)) :
  Calls Tryz.prog 51 #[.pointer (some ⟨g, 0, none⟩)] w (endE g w v1 v2 v3 (endT n l)) := by
 have lt := h.lt
 obtain ⟨wa, wb, hwa, hsa, hwb, hE⟩ := EnS.new h hN hg0 hm
 have hNm := name13p hE.out.rd hg0 hE.out.m
 have hv := hide (show endT n l = match nameT l with
  | .error e => .error e
  | .ok (s, l1) => if ⟨s.toArray⟩ ∈ n.sw then match wantT bColon l1 with
    | .error e => .error e
    | .ok l2 => match portT l2 with
     | .error e => .error e
     | .ok (p, l3) =>
      if thereB n (findI n.sw ⟨s.toArray⟩, p) = false then .error (7, (headT l2).pl)
      else if (nextB n (findI n.sw ⟨s.toArray⟩, p)).2.2 then .error (8, (headT l2).pl)
      else .ok ((headT l2).pl, (findI n.sw ⟨s.toArray⟩, p), l3)
   else .error (7, (headT l).pl) from rfl)
 generalize endT n l = RES at hv ⊢
 have hQ1 := hide (fun (W : World) (t : Tk) (e : Int × Int) (l3 : List Tk) (h1 : Grg g w W) (h2 : RdB W g l3 v1 v2 v3) (h3 : RES = .ok (t.pl, e, l3)) => show endE g w v1 v2 v3 RES (.returned (.tuple #[tkA t, endV e])) W from by rw [h3]; exact ⟨h1, ⟨t, rfl, rfl⟩, h2⟩)
 have hQ2 := hide (fun (W : World) (x : Int × Nat) (h1 : Grg g w W) (h3 : RES = .error x) => show endE g w v1 v2 v3 RES (pwr x) W from by rw [h3]; exact ⟨h1, rfl⟩)
 generalize endE g w v1 v2 v3 RES = Q at hQ1 hQ2 ⊢
 unfold nameE at hNm
 cases hnt : nameT l with
 | error x =>
  rw [hnt] at hNm hv
  replace hNm := hide (show Calls Tryz.prog 49 #[.pointer (some ⟨g, 0, none⟩)] wb fun e w' => Grg g wb w' ∧ e = pwr x from hNm)
  clear hnt
  go_enter Tryz.func51, Tryz.ntmps51
  go_wp2_with (go_at_call 49; refine hNm.out.mono ?_; rintro e w2 ⟨hG2, rfl⟩)
  exact ⟨rfl, hQ2.out _ _ (hE.out.grg.trans hG2) hv.out⟩
 | ok x =>
  obtain ⟨s, l1⟩ := x
  have hsh : s = (headT l).s := (nameT_ok hnt).2.1
  rw [hnt] at hNm hv
  simp only at hv
  have hA := hide (fun (b : Bool) (k : Int) (W : World) => ask13 b (headT l) k W)
  obtain ⟨S, hS⟩ : ∃ S : ByteArray, S = ⟨s.toArray⟩ := ⟨_, rfl⟩
  rw [← hS] at hv
  rw [hsh] at hS
  replace hNm := hide (show Calls Tryz.prog 49 #[.pointer (some ⟨g, 0, none⟩)] wb fun e w' => Grg g wb w' ∧ e = .returned (tkA (headT l)) ∧ RdB w' g l1 v1 v2 v3 from hNm)
  generalize headT l = t at hNm hA hv hS
  obtain ⟨k, s', wd, m, pl⟩ := t
  unfold tkA at hA hNm
  simp only at hA hNm hv hS
  rw [← hS] at hA hNm
  generalize ((m / 18446744073709551616 : Nat) : Int) = hi at hA hNm
  generalize ((m % 18446744073709551616 : Nat) : Int) = lo at hA hNm
  clear hS hsh hnt
  go_enter Tryz.func51, Tryz.ntmps51
  go_upto_region 2 with (go_at_call 49; refine hNm.out.mono ?_; rintro e w2 ⟨hG2, rfl, hR2⟩; obtain ⟨w3, hw3, hb3, hs3, hl3, x0, x1, x2, x3, x4, x5⟩ := tbox13 w2 k wd hi lo pl S)
  have hE3 := hide ((hE.out.step hg0 lt hG2 hR2).below hg0 lt hb3.out)
  obtain ⟨A1, A2, A3, c1, c2, c3, rfl, rfl, rfl, hNS⟩ := hE3.out.net.netS
  obtain ⟨b0, o0, cp, hO⟩ := hE3.out.rd.open_
  obtain ⟨ltr, bg, pos, le, ml, c0, d1, d2, d3, f0, f1, f2, f3, k0, k1, k2, k3, k4, k5⟩ := hO
  have hF := hide (fun d os => tfind_any n A1 A2 A3 c1 c2 c3 S (Go.Sort.grow (redrawn w3 d) os) ((hNS.below (below_regrown w3 d os)).more (gsize w3 d os)))
  have hgc := gcell w3
  clear hG2 hR2 hw3 hb3 hs3 hNm hE c0 f0 f1 f2 f3 k0 k1 k2 k3 k4 k5 le ml pos bg
  go_wp2_with fail
  refine wp_region_quiet_below (by kernel_rfl) (by kernel_rfl) ?_
  repeat (any_goals (first | go_big_quiet_step ((go_at_call 30; with_reducible exact Calls.regrown_of (hF.out _ _))) | quiet_step ((go_at_call 30; with_reducible exact Calls.regrown_of (hF.out _ _)))))
  refine wpQuiet_nil ?_
  intro w4 hw4
  replace hw4 := below_of_regrown hw4
  have kk := bcell' hw4
  replace x0 := (kk.1 _ 0 hl3).trans x0
  replace x1 := (kk.1 _ 1 hl3).trans x1
  replace x2 := (kk.1 _ 2 hl3).trans x2
  replace x3 := (kk.1 _ 3 hl3).trans x3
  replace x4 := (kk.1 _ 4 hl3).trans x4
  replace x5 := (kk.1 _ 5 hl3).trans x5
  have hE4 := hide (hE3.out.below hg0 lt hw4)
  replace hl3 := Nat.lt_of_lt_of_le hl3 hw4.size
  clear kk hw4 hE3 hF hgc d1 d2 d3 ltr hNS
  by_cases hS : S ∈ n.sw
  ·have hv1 := hide (show RES = match wantT bColon l1 with
    | .error e => .error e
    | .ok l2 => match portT l2 with
     | .error e => .error e
     | .ok (p, l3) =>
      if thereB n (findI n.sw S, p) = false then .error (7, (headT l2).pl)
      else if (nextB n (findI n.sw S, p)).2.2 then .error (8, (headT l2).pl)
      else .ok ((headT l2).pl, (findI n.sw S, p), l3) from by rw [hv.out, if_pos hS])
   have hix : decide (0 ≤ findI n.sw S) = true := decide_eq_true (by unfold findI; rw [if_pos hS]; omega)
   generalize findI n.sw S = ix at hv1 hix ⊢
   have hA1 := hide (fun W => hA.out true 7 W)
   simp only [if_true] at hA1
   clear hv hS hA
   go_upto_region 4 with (go_at_call 47; refine (hA1.out _).mono ?_; rintro e w5 ⟨rfl, hb5⟩)
   have hE5 := hide (hE4.out.below hg0 lt hb5)
   clear x0 x1 x2 x3 x4 x5 hA1 hl3 hb5 hE4 hix
   have hWn := want13p ⟨#[58]⟩ hE5.out.rd
   rw [show (⟨#[58]⟩ : ByteArray).data.toList = bColon from rfl] at hWn
   unfold wantE at hWn
   cases hwt : wantT bColon l1 with
   | error x =>
    rw [hwt] at hWn hv1
    replace hWn := hide (show Calls Tryz.prog 52 #[.pointer (some ⟨g, 0, none⟩), .string ⟨#[58]⟩] w5 fun e w' => Grg g w5 w' ∧ e = pwr x from hWn)
    clear hwt
    go_wp2_with (go_at_call 52; refine hWn.out.mono ?_; rintro e w6 ⟨hG6, rfl⟩)
    exact ⟨rfl, hQ2.out _ _ (hE5.out.grg.trans hG6) hv1.out⟩
   | ok l2 =>
    rw [hwt] at hWn hv1
    simp only at hv1
    replace hWn := hide (show Calls Tryz.prog 52 #[.pointer (some ⟨g, 0, none⟩), .string ⟨#[58]⟩] w5 fun e w' => Grg g w5 w' ∧ e = .returned (.tuple #[]) ∧ RdB w' g l2 (.slice A1 n.sw.length c1) (.slice A2 n.ports.length c2) (.slice A3 n.links.length c3) from hWn)
    clear hwt
    go_upto_region 5 with (go_at_call 52; refine hWn.out.mono ?_; rintro e w6 ⟨hG6, rfl, hR6⟩)
    have hE6 := hide (hE5.out.step hg0 lt hG6 hR6)
    clear hG6 hR6 hWn hE5
    have hPt := port13p hE6.out.rd
    unfold portE at hPt
    cases hpt : portT l2 with
    | error x =>
     rw [hpt] at hPt hv1
     replace hPt := hide (show Calls Tryz.prog 74 #[.pointer (some ⟨g, 0, none⟩)] w6 fun e w' => Grg g w6 w' ∧ e = pwr x from hPt)
     clear hpt
     go_wp2_with (go_at_call 74; refine hPt.out.mono ?_; rintro e w7 ⟨hG7, rfl⟩)
     exact ⟨rfl, hQ2.out _ _ (hE6.out.grg.trans hG7) hv1.out⟩
    | ok x =>
     obtain ⟨p, l3⟩ := x
     rw [hpt] at hPt hv1
     simp only at hv1
     replace hPt := hide (show Calls Tryz.prog 74 #[.pointer (some ⟨g, 0, none⟩)] w6 fun e w' => Grg g w6 w' ∧ e = .returned (.tuple #[tkA (headT l2), .int .i64 p]) ∧ RdB w' g l3 (.slice A1 n.sw.length c1) (.slice A2 n.ports.length c2) (.slice A3 n.links.length c3) from hPt)
     clear hpt
     have hA := hide (fun (b : Bool) (k : Int) (W : World) => ask13 b (headT l2) k W)
     have hQt := hide (fun (W : World) (h1 : Grg g w W) (h2 : RdB W g l3 (.slice A1 n.sw.length c1) (.slice A2 n.ports.length c2) (.slice A3 n.links.length c3)) (h3 : RES = .ok ((headT l2).pl, (ix, p), l3)) => hQ1.out W (headT l2) (ix, p) l3 h1 h2 h3)
     generalize headT l2 = t2 at hPt hA hv1 hQt
     obtain ⟨k2, s2, wd2, m2, pl2⟩ := t2
     unfold tkA at hA hPt hQt
     simp only at hA hPt hv1 hQt
     generalize (⟨s2.toArray⟩ : ByteArray) = S2 at hA hPt hQt
     generalize ((m2 / 18446744073709551616 : Nat) : Int) = hi2 at hA hPt hQt
     generalize ((m2 % 18446744073709551616 : Nat) : Int) = lo2 at hA hPt hQt
     go_upto_region 6 with (go_at_call 74; refine hPt.out.mono ?_; rintro e w7 ⟨hG7, rfl, hR7⟩; obtain ⟨w8, hw8, hb8, hs8, hl8, y0, y1, y2, y3, y4, y5⟩ := tbox13 w7 k2 wd2 hi2 lo2 pl2 S2)
     have hE8 := hide ((hE6.out.step hg0 lt hG7 hR7).below hg0 lt hb8.out)
     have hz7 := hG7.size
     have hl67 : w.heap.size + 1 < w7.heap.size := by have := hE6.out.lt; omega
     obtain ⟨w9, hw9, hs9, hb9, hc9, hf9⟩ := box1 w8 #[.int .i64 ix, .int .i64 p] 41
     have e0 := hc9 0
     have e1 := hc9 1
     simp at e0 e1
     have k9 := bcell' hb9
     replace y0 := (k9.1 _ 0 hl8).trans y0
     replace y1 := (k9.1 _ 1 hl8).trans y1
     replace y2 := (k9.1 _ 2 hl8).trans y2
     replace y3 := (k9.1 _ 3 hl8).trans y3
     replace y4 := (k9.1 _ 4 hl8).trans y4
     replace y5 := (k9.1 _ 5 hl8).trans y5
     have hE9 := hide (hE8.out.below hg0 lt hb9)
     have hle : w8.heap.size < w9.heap.size := by omega
     have hl89 : w7.heap.size < w8.heap.size := hl8
     replace hl8 := Nat.lt_of_lt_of_le hl8 hb9.size
     replace hs9 := hide hs9
     clear k9 hG7 hR7 hw8 hb8 hs8 hb9 hc9 hf9 hE8 hE6 hPt hz7
     obtain ⟨B1, B2, B3, d1, d2, d3, q1, q2, q3, hNS⟩ := hE9.out.net.netS
     injection q1 with q1 q1' q1''
     injection q2 with q2 q2' q2''
     injection q3 with q3 q3' q3''
     subst q1 q1'' q2 q2'' q3 q3''
     clear q1' q2' q3'
     obtain ⟨ng, nT, nL, hnb⟩ : ∃ a b c, nextB n (ix, p) = (a, b, c) := ⟨_, _, _, rfl⟩
     have hth : nT = thereB n (ix, p) := by
      have : (nextB n (ix, p)).2.1 = thereB n (ix, p) := by
       unfold nextB
       cases thereB n (ix, p) with
       | false => rfl
       | true =>
        simp only [if_true]
        cases nextL n.links (ix, p) <;> rfl
      rw [hnb] at this
      exact this
     rw [hnb, ← hth] at hv1
     simp only at hv1
     have hX := hide (fun (W : World) (hW : Below w9.heap.size w9 W) => (show Calls Tryz.prog 13 #[.agg #[.slice A1 n.sw.length c1, .slice A2 n.ports.length c2, .slice A3 n.links.length c3], .agg #[.int .i64 ix, .int .i64 p]] W fun e w' => e = .returned (.tuple #[.agg #[.int .i64 ng.1, .int .i64 ng.2], .bool nT, .bool nL]) ∧ Below w9.heap.size w9 w' ∧ Below W.heap.size W w' from (tnext_any n A1 A2 A3 c1 c2 c3 ix p W ((hNS.below hW).more hW.size)).mono fun e w' h => ⟨h.1.trans (by rw [hnb]), hW.trans (h.2.mono hW.size), h.2⟩))
     obtain ⟨b9, o9, cp9, hO9⟩ := hE9.out.rd.open_
     have r1 := hO9.c1
     have r2 := hO9.c2
     have r3 := hO9.c3
     have rl := hO9.lt
     clear hO9 hNS hnb hth
     go_upto_region 7 with fail
     go_cut [9, 10, 11] (fun sp tv lv wx => tv = .bool nT ∧ lv = .bool nL ∧ Hid (Below w9.heap.size w9 wx))
     case first =>
      go_region_held3 (fun w' => Below w9.heap.size w9 w' ∧ ∀ b o, b < w9.heap.size → w'.cell? ⟨b, o, none⟩ = w9.cell? ⟨b, o, none⟩) (first | exact held13 (Below.refl _ _).drew | exact held13 ((Below.refl _ _).drew.alloc (Nat.le_refl _) _) | (with_reducible exact held13 hb3) | (with_reducible exact held13 ((hb3.setCell (Nat.le_refl _) _).setCell (Nat.le_refl _) _)) | (with_reducible exact held13 (hb3.alloc hb3.size _)))
       ((go_at_call 13; refine (hX.out _ (by first | exact (Below.refl _ _).drew | exact (Below.refl _ _).drew.alloc (Nat.le_refl _) _)).mono ?_; rintro e w3 ⟨rfl, hb3, hb4⟩; have kb4 := bcell hb4))
      all_goals go_wp2
      all_goals go_meet
      all_goals first
       | (with_reducible exact ⟨rfl, rfl, hide (hb3.alloc hb3.size _)⟩)
       | (with_reducible exact ⟨rfl, rfl, hide ((hb3.setCell (Nat.le_refl _) _).setCell (Nat.le_refl _) _)⟩)
     case rest =>
      obtain ⟨rfl, rfl, hbc⟩ := hcut
      obtain ⟨w10, rfl⟩ : ∃ w10 : World, w10 = wc := ⟨_, rfl⟩
      have kk := bcell' hbc.out
      replace y0 := (kk.1 _ 0 hl8).trans y0
      replace y1 := (kk.1 _ 1 hl8).trans y1
      replace y2 := (kk.1 _ 2 hl8).trans y2
      replace y3 := (kk.1 _ 3 hl8).trans y3
      replace y4 := (kk.1 _ 4 hl8).trans y4
      replace y5 := (kk.1 _ 5 hl8).trans y5
      replace e0 := (kk.1 _ 0 hle).trans e0
      replace e1 := (kk.1 _ 1 hle).trans e1
      have hE10 := hide (hE9.out.below hg0 lt hbc.out)
      replace hl8 := Nat.lt_of_lt_of_le hl8 hbc.out.size
      replace hle := Nat.lt_of_lt_of_le hle hbc.out.size
      clear kk hX r1 r2 r3 rl hE9 hbc
      cases nT with
      | false =>
       have hv2 := hide (show RES = .error (7, pl2) from by rw [hv1, if_pos rfl])
       have hA1 := hide (fun W => hA.out false 7 W)
       simp only [Bool.false_eq_true, if_false] at hA1
       clear hv1
       go_wp2_with (go_at_call 47; refine (hA1.out _).mono ?_; rintro e w11 ⟨rfl, hb11⟩)
       exact ⟨rfl, hQ2.out _ _ (hE10.out.grg.trans (Grg.of hb11)) hv2.out⟩
      | true =>
       have hA1 := hide (fun W => hA.out true 7 W)
       simp only [if_true] at hA1
       cases nL with
       | true =>
        have hv2 := hide (show RES = .error (8, pl2) from by rw [hv1]; rfl)
        have hA2 := hide (fun W => hA.out false 8 W)
        simp only [Bool.false_eq_true, if_false] at hA2
        clear hv1
        go_upto_region 9 with (go_at_call 47; refine (hA1.out _).mono ?_; rintro e w11 ⟨rfl, hb11⟩; have kk := bcell' hb11; replace y0 := (kk.1 _ 0 hl8).trans y0; replace y1 := (kk.1 _ 1 hl8).trans y1; replace y2 := (kk.1 _ 2 hl8).trans y2; replace y3 := (kk.1 _ 3 hl8).trans y3; replace y4 := (kk.1 _ 4 hl8).trans y4; replace y5 := (kk.1 _ 5 hl8).trans y5; clear kk)
        go_wp2_with (go_at_call 47; refine (hA2.out _).mono ?_; rintro e w12 ⟨rfl, hb12⟩)
        exact ⟨rfl, hQ2.out _ _ (hE10.out.grg.trans (Grg.of (hb11.trans (hb12.mono hb11.size)))) hv2.out⟩
       | false =>
        have hv2 := hide (show RES = .ok (pl2, (ix, p), l3) from by rw [hv1]; rfl)
        have hA2 := hide (fun W => hA.out true 8 W)
        simp only [if_true] at hA2
        clear hv1
        go_upto_region 9 with (go_at_call 47; refine (hA1.out _).mono ?_; rintro e w11 ⟨rfl, hb11⟩; have kk := bcell' hb11; replace y0 := (kk.1 _ 0 hl8).trans y0; replace y1 := (kk.1 _ 1 hl8).trans y1; replace y2 := (kk.1 _ 2 hl8).trans y2; replace y3 := (kk.1 _ 3 hl8).trans y3; replace y4 := (kk.1 _ 4 hl8).trans y4; replace y5 := (kk.1 _ 5 hl8).trans y5; replace e0 := (kk.1 _ 0 hle).trans e0; replace e1 := (kk.1 _ 1 hle).trans e1; clear kk)
        replace hl8 := Nat.lt_of_lt_of_le hl8 hb11.size
        replace hle := Nat.lt_of_lt_of_le hle hb11.size
        have hE11 := hide (hE10.out.below hg0 lt hb11)
        go_upto_region 10 with (go_at_call 47; refine (hA2.out _).mono ?_; rintro e w12 ⟨rfl, hb12⟩; have kk := bcell' hb12; replace y0 := (kk.1 _ 0 hl8).trans y0; replace y1 := (kk.1 _ 1 hl8).trans y1; replace y2 := (kk.1 _ 2 hl8).trans y2; replace y3 := (kk.1 _ 3 hl8).trans y3; replace y4 := (kk.1 _ 4 hl8).trans y4; replace y5 := (kk.1 _ 5 hl8).trans y5; replace e0 := (kk.1 _ 0 hle).trans e0; replace e1 := (kk.1 _ 1 hle).trans e1; clear kk)
        replace hl8 := Nat.lt_of_lt_of_le hl8 hb12.size
        replace hle := Nat.lt_of_lt_of_le hle hb12.size
        have hE12 := hide (hE11.out.below hg0 lt hb12)
        obtain ⟨_, _, _, _, hlt12, u0, u1, u2, u3, u4, u5, z0, z1, fu, fz⟩ := hE12.out
        have g0 := fu 0
        have g1 := fu 1
        have g2 := fu 2
        have g3 := fu 3
        have g4 := fu 4
        have g5 := fu 5
        have j0 := fz 0
        have j1 := fz 1
        have n1 : w7.heap.size ≠ w.heap.size := by omega
        have n2 : w7.heap.size ≠ w.heap.size + 1 := by omega
        have n3 : w8.heap.size ≠ w.heap.size := by omega
        have n4 : w8.heap.size ≠ w.heap.size + 1 := by omega
        have n5 : w.heap.size ≠ w7.heap.size := by omega
        have n6 : w.heap.size + 1 ≠ w7.heap.size := by omega
        have n7 : w.heap.size ≠ w8.heap.size := by omega
        have n8 : w.heap.size + 1 ≠ w8.heap.size := by omega
        have n9 : w.heap.size ≠ w.heap.size + 1 := by omega
        have n10 : w.heap.size + 1 ≠ w.heap.size := by omega
        have hlt13 : w.heap.size < w12.heap.size := by omega
        clear fu fz hb11 hb12 hE11 hE10 hA1 hA2
        go_wp2_with fail
        go_region
        go_wp2
        obtain ⟨p1, p2⟩ := set6 (r := w.heap.size) hE12.out.grg hE12.out.rd (Nat.le_refl _) lt (.int .u8 (k2 : Int)) (.string S2) (.int .i64 (wd2 : Int)) (.int .u64 hi2) (.int .u64 lo2) (.int .i64 (pl2 : Int))
        have p3 := ((p1.setNew (r := w.heap.size + 1) (i := 0) (Nat.le_succ _) (.int .i64 ix)).setNew (r := w.heap.size + 1) (i := 1) (Nat.le_succ _) (.int .i64 p)).drew
        have p4 := ((p2.setNew (r := w.heap.size + 1) (i := 0) (by omega) (.int .i64 ix)).setNew (r := w.heap.size + 1) (i := 1) (by omega) (.int .i64 p)).drew
        have p5 := hide (hQt.out _ p3 p4 hv2.out)
        refine bodyPost_ret (v := .tuple #[.agg #[.int .u8 (k2 : Int), .string S2, .int .i64 (wd2 : Int), .int .u64 hi2, .int .u64 lo2, .int .i64 (pl2 : Int)], .agg #[.int .i64 ix, .int .i64 p]]) ?_ rfl ?_
        ·simp [results, Tryz.results51, go_sem, u0, u1, u2, u3, u4, u5, z0, z1, n9, n10]
        ·exact p5.out
  ·have hix : decide (0 ≤ findI n.sw S) = false := decide_eq_false (by unfold findI; rw [if_neg hS]; decide)
   have hv1 := hide (show RES = .error (7, pl) from by rw [hv.out, if_neg hS])
   generalize findI n.sw S = ix at hix ⊢
   have hA1 := hide (fun W => hA.out false 7 W)
   simp only [Bool.false_eq_true, if_false] at hA1
   clear hv hS hA
   go_wp2_with (go_at_call 47; refine (hA1.out _).mono ?_; rintro e w5 ⟨rfl, hb5⟩)
   exact ⟨rfl, hQ2.out _ _ (hE4.out.grg.trans (Grg.of hb5)) hv1.out⟩
end Go.Proofs.YtbjokgnnklcbcaaGreatDoor
/-! The document's layer 13: end. -/
namespace Go.Proofs.YtbjokgnnklcbcaaGreatDoor
open Go.RowKit
/-- What the document's end holds: two boxes for its results, and the reader. -/
structure EnR (w W : World) (g : Nat) (r : Rf) (v1 v2 v3 : Value) (n : Net) : Prop where
 grg : Grg g w W
 rd : RfB W g r v1 v2 v3
 net : NetN W g v1 v2 v3 n
 lt : w.heap.size + 1 < W.heap.size
 u0 : W.cell? ⟨w.heap.size, 0, none⟩ = some (.int .u8 0)
 u1 : W.cell? ⟨w.heap.size, 1, none⟩ = some (.string ⟨#[]⟩)
 u2 : W.cell? ⟨w.heap.size, 2, none⟩ = some (.int .i64 0)
 u3 : W.cell? ⟨w.heap.size, 3, none⟩ = some (.int .u64 0)
 u4 : W.cell? ⟨w.heap.size, 4, none⟩ = some (.int .u64 0)
 u5 : W.cell? ⟨w.heap.size, 5, none⟩ = some (.int .i64 0)
 z0 : W.cell? ⟨w.heap.size + 1, 0, none⟩ = some (.int .i64 0)
 z1 : W.cell? ⟨w.heap.size + 1, 1, none⟩ = some (.int .i64 0)
 fu : ∀ i, W.frozen? ⟨w.heap.size, i, none⟩ = false
 fz : ∀ i, W.frozen? ⟨w.heap.size + 1, i, none⟩ = false
theorem EnR.step {w W W' : World} {g : Nat} {r r' : Rf} {v1 v2 v3 : Value} {n : Net} (h : EnR w W g r v1 v2 v3 n) (hgw : g < w.heap.size) (hG : Grg g W W') (hR : RfB W' g r' v1 v2 v3) : EnR w W' g r' v1 v2 v3 n := by
 have hl := h.lt
 have hz := hG.size
 exact ⟨h.grg.trans hG, hR, h.net.grg hG, by omega, (hG.cell (by omega) (by omega)).trans h.u0, (hG.cell (by omega) (by omega)).trans h.u1, (hG.cell (by omega) (by omega)).trans h.u2, (hG.cell (by omega) (by omega)).trans h.u3, (hG.cell (by omega) (by omega)).trans h.u4, (hG.cell (by omega) (by omega)).trans h.u5, (hG.cell (by omega) (by omega)).trans h.z0, (hG.cell (by omega) (by omega)).trans h.z1, fun i => (hG.frozen (by omega) (by omega)).trans (h.fu i), fun i => (hG.frozen (by omega) (by omega)).trans (h.fz i)⟩
theorem EnR.below {w W W' : World} {g : Nat} {r : Rf} {v1 v2 v3 : Value} {n : Net} (h : EnR w W g r v1 v2 v3 n) (hgw : g < w.heap.size) (hb : Below W.heap.size W W') : EnR w W' g r v1 v2 v3 n :=
 h.step hgw (Grg.of hb) (h.rd.below hb h.rd.lt)
theorem EnR.new {w : World} {g : Nat} {r : Rf} {v1 v2 v3 : Value} {n : Net} (h : RfB w g r v1 v2 v3) (hN : NetN w g v1 v2 v3 n) :
  ∃ wa wb, w.alloc (.cells #[.int .u8 0, .string ⟨#[]⟩, .int .i64 0, .int .u64 0, .int .u64 0, .int .i64 0] 64) = wa ∧ wa.heap.size = w.heap.size + 1 ∧ wa.alloc (.cells #[.int .i64 0, .int .i64 0] 41) = wb ∧ Hid (EnR w wb g r v1 v2 v3 n) := by
 have lt := h.lt
 obtain ⟨wa, hwa, hba, hsa, hla, z0, z1, z2, z3, z4, z5⟩ := tbox13 w 0 0 0 0 0 ⟨#[]⟩
 have hfa : ∀ i, wa.frozen? ⟨w.heap.size, i, none⟩ = false := by intro i; rw [← hwa]; exact World.frozen?_alloc_at _ _ _ _ rfl
 obtain ⟨wb, hwb, hsb, hbb, hcb, hfb⟩ := box1 wa #[.int .i64 0, .int .i64 0] 41
 have kb := bcell' hbb
 have hB := hba.out.trans (hbb.mono (by omega))
 have hs := hsa.out
 have e0 := hcb 0
 have e1 := hcb 1
 rw [hs] at e0 e1 hfb
 simp at e0 e1
 exact ⟨wa, wb, hwa, hs, hwb, hide ⟨Grg.of hB, h.below hB lt, hN.grg (Grg.of hB), by omega, (kb.1 _ 0 hla).trans z0, (kb.1 _ 1 hla).trans z1, (kb.1 _ 2 hla).trans z2, (kb.1 _ 3 hla).trans z3, (kb.1 _ 4 hla).trans z4, (kb.1 _ 5 hla).trans z5, e0, e1, fun i => (kb.2 _ i hla).trans (hfa i), hfb⟩⟩
end Go.Proofs.YtbjokgnnklcbcaaGreatDoor

import Derived.Test.YtbjokgnnklcbcaaGreatDoorTpb27
import Derived.Deep.RegionHeld3
import Derived.RegionDies
set_option linter.all false
/-! Layer 13: all. -/
namespace Go.Proofs.YtbjokgnnklcbcaaGreatDoor
open Go.RowKit
attribute [local go_sem] run_panic_iface
attribute [local go_sem ↓] app_eq
set_option maxRecDepth 100000 in
set_option maxHeartbeats 8000000 in
theorem all13p (hSo : SortC) {w : World} {g : Nat} {l : List Tk} {mm : Int} (h : RdB w g l (.slice none 0 0) (.slice none 0 0) (.slice none 0 0)) (hg0 : 0 < g) (hm : w.cell? ⟨0, 0, none⟩ = some (.int .i64 mm)) (hlen : l.length ≤ 65537) :
  Calls Tryz.prog 17 #[.pointer (some ⟨g, 0, none⟩)] w (allE13 g w (allT l)) := by
 have lt := h.lt
 obtain ⟨wa, hwa, hsa, hba, hca, hfa⟩ := box1 w #[.slice none 0 0, .slice none 0 0, .slice none 0 0] 27
 have z0 := hca 0
 have z1 := hca 1
 have z2 := hca 2
 simp at z0 z1 z2
 have hA0 := hide (show AlS w wa g l (.slice none 0 0) (.slice none 0 0) (.slice none 0 0) emptyN mm from ⟨Grg.of hba, h.below hba lt, NetN.nil_ _ _, ((bcell' hba).1 0 0 (by omega)).trans hm, by omega, z0, z1, z2, hfa⟩)
 have hv := hide (allT_fin l)
 generalize allT l = RES at hv ⊢
 have hQ1 := hide (fun (W : World) (n : Net) (A1 A2 A3 : Option Addr) (c1 c2 c3 : Nat) (h1 : Grg g w W) (h2 : NetN W w.heap.size (.slice A1 n.sw.length c1) (.slice A2 n.ports.length c2) (.slice A3 n.links.length c3) n) (h3 : RES = .ok n) => show allE13 g w RES (.returned (.agg #[.slice A1 n.sw.length c1, .slice A2 n.ports.length c2, .slice A3 n.links.length c3])) W from by rw [h3]; exact ⟨h1, A1, A2, A3, c1, c2, c3, rfl, h2⟩)
 have hQ2 := hide (fun (W : World) (x : Int × Nat) (h1 : Grg g w W) (h3 : RES = .error x) => show allE13 g w RES (pwr x) W from by rw [h3]; exact ⟨h1, rfl⟩)
 generalize allE13 g w RES = Q at hQ1 hQ2 ⊢
 clear h hm hca hfa hba z0 z1 z2
 replace hsa := hide hsa
 go_enter Tryz.func17, Tryz.ntmps17
 go_upto_region 1 with fail
 go_loopw [3] (fun _ wr => ∃ (f : Nat) (n : Net) (l' : List Tk) (v1 v2 v3 : Value), Hid (AlS w wr g l' v1 v2 v3 n mm) ∧ Hid (RES = finS (swsT f n l')) ∧ Hid (l'.length ≤ f ∧ n.sw.length ≤ 8 ∧ n.ports.length ≤ n.sw.length ∧ n.links.length + l'.length ≤ 65537)) (fun _ wr => leftN g wr)
 case atStart => exact ⟨l.length, emptyN, l, _, _, _, hA0, hv, hide ⟨Nat.le_refl _, by simp [emptyN], by simp [emptyN], by simpa [emptyN] using hlen⟩⟩
 case round =>
  clear hv hA0 hlen hwa hsa
  obtain ⟨f, n, l', v1, v2, v3, hA, hR, hL⟩ := hrel
  have hl0 := hA.out.rd.left
  have hpos := List.length_pos_iff.2 hA.out.rd.1.ne
  obtain ⟨hf, h8, h8p, hlk⟩ := hL.out
  obtain ⟨f', rfl⟩ : ∃ f', f = f' + 1 := ⟨f - 1, by omega⟩
  clear hL
  obtain ⟨A1, A2, A3, c1, c2, c3, rfl, rfl, rfl, hNS⟩ := hA.out.net.netS
  clear hNS
  have hIs := hide (is13 ⟨#[115, 119, 105, 116, 99, 104]⟩ hA.out.rd)
  rw [show (⟨#[115, 119, 105, 116, 99, 104]⟩ : ByteArray).data.toList = bSwitch from rfl] at hIs
  cases hs : isT bSwitch l' with
  | true =>
   rw [hs] at hIs
   have hRe := hide (fun (x : Int × Nat) (h : swT n l' = .error x) => show RES = .error x from by rw [hR.out, sws_err hs h]; rfl)
   have hRo := hide (fun (n1 : Net) (l1 : List Tk) (h : swT n l' = .ok (n1, l1)) => show RES = finS (swsT f' n1 l1) from by rw [hR.out, sws_ok hs h])
   have hLs := hide (fun (n1 : Net) (l1 : List Tk) (h : swT n l' = .ok (n1, l1)) => (swT_less hA.out.rd.1 hs h).1)
   have hr5 := hide (fun (h : ¬ n.sw.length < 8) => hRe.out _ (sw_e5 h))
   have hAk := hide (fun (bb : Bool) (k : Int) (W : World) => ask13 bb (headT l') k W)
   clear hR hs
   go_upto_region 2 with (go_at_call 46; refine hIs.out.mono ?_; rintro e w3 ⟨rfl, hb3⟩)
   have hA3 := hide (hA.out.below hg0 lt hb3)
   obtain ⟨b, o, cp, hO⟩ := hA3.out.rd.open_
   obtain ⟨ltr, bg, pos, le, ml, d0, d1, d2, d3, f0, f1, f2, f3, k0, k1, k2, k3, k4, k5⟩ := hO
   have hNx := hide (fun (W : World) (hW : RdB W g l' (.slice A1 n.sw.length c1) (.slice A2 n.ports.length c2) (.slice A3 n.links.length c3)) => next13p hW)
   generalize headT l' = t at k0 k1 k2 k3 k4 k5 hr5 hAk hNx
   obtain ⟨k, s, wd, m, pl⟩ := t
   unfold tkA at hAk hNx
   simp only at k0 k1 k2 k3 k4 k5 hr5 hAk hNx
   generalize (⟨s.toArray⟩ : ByteArray) = S at k1 hAk hNx
   generalize ((m / 18446744073709551616 : Nat) : Int) = hi at k3 hAk hNx
   generalize ((m % 18446744073709551616 : Nat) : Int) = lo at k4 hAk hNx
   have hbl : b < w3.heap.size := by omega
   have lz : (0 : Int) < (l'.length : Int) := by omega
   have hgc := gcell w3
   clear f0 f1 f2 f3 d2 d3 hb3 hIs
   by_cases hn8 : n.sw.length < 8
   ·have q8 : decide ((n.sw.length : Int) < 8) = true := decide_eq_true (by omega)
    have hA1 := hide (fun W => hAk.out true 5 W)
    simp only [if_true] at hA1
    clear hr5 hAk
    go_wp2_with fail
    refine wp_region_quiet_tail 13 (by kernel_rfl) (by kernel_rfl) ?_
    simp only [List.take_succ_cons, List.take_zero, List.drop_succ_cons, List.drop_zero]
    repeat (any_goals (first | go_big_quiet_step (fail) | quiet_step (fail)))
    refine wpQuiet_nil ?_
    intro w4 hw4
    go_upto_region 3 with (go_at_call 47; refine (hA1.out _).mono ?_; rintro e w5 ⟨rfl, hb5⟩)
    have hA5 := hide ((hA3.out.below hg0 lt hw4).below hg0 lt hb5)
    clear k0 k1 k2 k3 k4 k5 d0 d1 hgc hb5 hw4 hA3 hA1 q8 bg pos le ml hbl lz ltr
    go_upto_region 4 with (go_at_call 48; refine (hNx.out _ hA5.out.rd).mono ?_; rintro e w6 ⟨rfl, hG6, hR6⟩)
    have hA6 := hide (hA5.out.step hg0 lt hG6 hR6)
    clear hG6 hR6 hNx hA5
    have hNm := name13p hA6.out.rd hg0 hA6.out.m
    unfold nameE at hNm
    cases hnt : nameT (advT l') with
    | error x =>
     rw [hnt] at hNm
     have hNe := hide (show Calls Tryz.prog 49 #[.pointer (some ⟨g, 0, none⟩)] w6 fun e w' => Grg g w6 w' ∧ e = pwr x from hNm)
     have hr7 := hide (hRe.out _ (sw_e4 hn8 hnt))
     clear hnt hNm hRe hRo hLs
     go_wp2_with (go_at_call 49; refine hNe.out.mono ?_; rintro e w7 ⟨hG7, rfl⟩)
     exact ⟨rfl, hQ2.out _ _ (hA6.out.grg.trans hG7) hr7.out⟩
    | ok x =>
     obtain ⟨s', l1⟩ := x
     have hsh : s' = (headT (advT l')).s := (nameT_ok hnt).2.1
     have hsb : s'.length ≤ 65536 := by rw [hsh]; exact hA6.out.rd.1.head
     rw [hnt] at hNm
     have hNe := hide (show Calls Tryz.prog 49 #[.pointer (some ⟨g, 0, none⟩)] w6 fun e w' => Grg g w6 w' ∧ e = .returned (tkA (headT (advT l'))) ∧ RdB w' g l1 (.slice A1 n.sw.length c1) (.slice A2 n.ports.length c2) (.slice A3 n.links.length c3) from hNm)
     have hr8 := hide (fun hm => hRe.out _ (sw_e8 hn8 hnt hm))
     have hrp := hide (fun hm x hp => hRe.out x (sw_ep hn8 hnt hm hp))
     have hrk := hide (fun hm ps l2 hp => (⟨hRo.out _ _ (sw_ok (l2 := l2) (ps := ps) hn8 hnt hm hp), hLs.out _ _ (sw_ok hn8 hnt hm hp)⟩ : _ ∧ _))
     have hAk2 := hide (fun (bb : Bool) (k : Int) (W : World) => ask13 bb (headT (advT l')) k W)
     clear hnt hNm hRe hRo hLs
     generalize headT (advT l') = t2 at hsh hNe hr8 hAk2
     obtain ⟨k2, s2, wd2, m2, pl2⟩ := t2
     simp only at hsh
     subst hsh
     unfold tkA at hNe hAk2
     simp only at hNe hAk2 hr8
     have hSz : s'.length = (⟨s'.toArray⟩ : ByteArray).size := rfl
     rw [hSz] at hsb
     clear hSz
     generalize (⟨s'.toArray⟩ : ByteArray) = S2 at hNe hAk2 hr8 hrp hrk hsb
     generalize ((m2 / 18446744073709551616 : Nat) : Int) = hi2 at hNe hAk2
     generalize ((m2 % 18446744073709551616 : Nat) : Int) = lo2 at hNe hAk2
     go_upto_region 5 with (go_at_call 49; refine hNe.out.mono ?_; rintro e w7 ⟨hG7, rfl, hR7⟩; obtain ⟨w8, hw8, hb8, hs8, hl8, x0, x1, x2, x3, x4, x5⟩ := tbox13 w7 k2 wd2 hi2 lo2 pl2 S2)
     have hA8 := hide ((hA6.out.step hg0 lt hG7 hR7).below hg0 lt hb8.out)
     have hBx : w8.heap[w7.heap.size]? = some (.cells #[.int .u8 (k2 : Int), .string S2, .int .i64 (wd2 : Int), .int .u64 hi2, .int .u64 lo2, .int .i64 (pl2 : Int)] 64 (0, 0)) := by rw [← hw8]; exact heap_alloc_new w7 _
     have htg : w7.heap.size ≠ g := by have := hR7.lt; omega
     have htw : w.heap.size + 1 ≤ w7.heap.size := by have := hA6.out.lt; have := hG7.size; omega
     obtain ⟨b8, o8, cp8, hO8⟩ := hA8.out.rd.open_
     have d1 := hO8.c1
     have d2 := hO8.c2
     have d3 := hO8.c3
     have ltr := hO8.lt
     obtain ⟨B1, B2, B3, e1, e2, e3, q1, q2, q3, hNS⟩ := hA8.out.net.netS
     injection q1 with q1 q1' q1''
     injection q2 with q2 q2' q2''
     injection q3 with q3 q3' q3''
     subst q1 q1'' q2 q2'' q3 q3''
     clear q1' q2' q3'
     have hF := hide (fun d os => tfind_any n A1 A2 A3 c1 c2 c3 S2 (Go.Sort.grow (redrawn w8 d) os) ((hNS.below (below_regrown w8 d os)).more (gsize w8 d os)))
     have hgc := gcell w8
     clear hG7 hR7 hw8 hb8 hs8 hNe hA6 hO8 hNS
     replace hBx := hide hBx
     by_cases hS : S2 ∈ n.sw
     ·have hix : decide (findI n.sw S2 < 0) = false := decide_eq_false (by unfold findI; rw [if_pos hS]; omega)
      have hr9 := hide (hr8.out hS)
      generalize findI n.sw S2 = ix at hix hF
      have hA1 := hide (fun W => hAk2.out false 8 W)
      simp only [Bool.false_eq_true, if_false] at hA1
      clear hr8 hrp hrk hS hAk2
      go_wp2_with fail
      refine wp_region_quiet_tail 9 (by kernel_rfl) (by kernel_rfl) ?_
      simp only [List.take_succ_cons, List.take_zero, List.drop_succ_cons, List.drop_zero]
      repeat (any_goals (first | go_big_quiet_step ((go_at_call 30; with_reducible exact Calls.regrown_of (hF.out _ _))) | quiet_step ((go_at_call 30; with_reducible exact Calls.regrown_of (hF.out _ _)))))
      refine wpQuiet_nil ?_
      intro w9 hw9
      go_wp2_with (go_at_call 47; refine (hA1.out _).mono ?_; rintro e w10 ⟨rfl, hb10⟩)
      exact ⟨rfl, hQ2.out _ _ ((hA8.out.below hg0 lt hw9).below hg0 lt hb10).grg hr9.out⟩
     ·have hix : decide (findI n.sw S2 < 0) = true := decide_eq_true (by unfold findI; rw [if_neg hS]; decide)
      generalize findI n.sw S2 = ix at hix hF
      have hA1 := hide (fun W => hAk2.out true 8 W)
      simp only [if_true] at hA1
      have hrp' := hide (hrp.out hS)
      have hrk' := hide (hrk.out hS)
      clear hr8 hrp hrk hS hAk2
      go_wp2_with fail
      refine wp_region_quiet_tail 9 (by kernel_rfl) (by kernel_rfl) ?_
      simp only [List.take_succ_cons, List.take_zero, List.drop_succ_cons, List.drop_zero]
      repeat (any_goals (first | go_big_quiet_step ((go_at_call 30; with_reducible exact Calls.regrown_of (hF.out _ _))) | quiet_step ((go_at_call 30; with_reducible exact Calls.regrown_of (hF.out _ _)))))
      refine wpQuiet_nil ?_
      intro w9 hw9
      go_upto_region 6 with (go_at_call 47; refine (hA1.out _).mono ?_; rintro e w10 ⟨rfl, hb10⟩)
      have hb8 := hw9.trans (hb10.mono hw9.size)
      have hA10 := hide (hA8.out.below hg0 lt hb8)
      have hBx10 := hide ((hb8.block _ hl8).trans hBx.out)
      replace hl8 := Nat.lt_of_lt_of_le hl8 hb8.size
      clear x0 x1 x2 x3 x4 x5 d1 d2 d3 ltr hF hgc hA1 hb10 hw9 hb8 hA8 hBx hix
      obtain ⟨b9, o9, cp9, hO9⟩ := hA10.out.rd.open_
      have d1 := hO9.c1
      have d2 := hO9.c2
      have ltr := hO9.lt
      have x1 : w10.cell? ⟨w7.heap.size, 1, none⟩ = some (.string S2) := by simp [World.cell?, hBx10.out]
      obtain ⟨v1', wA, hrun1, hNA, hbA, -, hkA⟩ := append_sw13 (W := w10.drew) (g := w.heap.size) S2 hA10.out.net.drew (by unfold maxLen; omega) (show w.heap.size + 1 ≤ w10.heap.size from hA10.out.lt) (by omega)
      obtain ⟨C1, k1, hC⟩ := own_formN hNA.own0
      rw [show (n.sw ++ [S2]).length = n.sw.length + 1 from by simp] at hC
      subst hC
      replace hrun1 : (AppG #[23, 23] 23 #[.slice A1 n.sw.length c1, .slice (some ⟨w10.heap.size, 0, none⟩) 1 1]).run Tryz.prog (w10.alloc (.cells #[.string S2] 9)).drew = .ok (.slice C1 (n.sw.length + 1) k1) wA := hrun1
      have hRA := hide (show RdB wA g l1 (.slice A1 n.sw.length c1) (.slice A2 n.ports.length c2) (.slice A3 n.links.length c3) from RdB.below (w := w10.drew) hA10.out.rd hbA (by omega))
      have hGA := hide ((show Grg g w w10.drew from hA10.out.grg.drew).app (hbA.mono (Nat.le_succ _)))
      have hzA : w.heap.size + 1 ≤ wA.heap.size := Nat.le_trans hA10.out.lt hbA.size
      have xA : wA.cell? ⟨w7.heap.size, 1, none⟩ = some (.string S2) := by simp [World.cell?, hkA _ _ _ _ hBx10.out (by decide)]
      obtain ⟨bA, oA, cpA, hOA⟩ := hRA.out.open_
      have dA := hOA.c2
      have ltA := hOA.lt
      clear hO9 hOA hkA hBx10
      replace hNA := hide hNA
      replace hbA := hide hbA
      cases hpt : prtsT l1 with
      | error x =>
       have hr10 := hide (hrp'.out x hpt)
       have hPe := hide (show Calls Tryz.prog 50 #[.pointer (some ⟨g, 0, none⟩)] wA fun e w' => Grg g wA w' ∧ e = pwr x from by have h0 := ports13p hSo hRA.out; rw [hpt] at h0; exact h0)
       clear hpt hrp' hrk'
       go_wp2_with fail
       go_region_dies
       all_goals (refine hPe.out.mono ?_; rintro e w11 ⟨hG11, rfl⟩; exact ⟨rfl, hQ2.out _ _ (hGA.out.trans hG11) hr10.out⟩)
      | ok x =>
       obtain ⟨ps, l2⟩ := x
       obtain ⟨hr10, hl2⟩ := hrk'.out ps l2 hpt
       have hP1 := hide (show Calls Tryz.prog 50 #[.pointer (some ⟨g, 0, none⟩)] wA fun e w3 => ∃ (Ap : Option Addr) (cpp : Nat) (D2 : Option Addr) (kk2 : Nat) (wB : World), e = .returned (.slice Ap ps.length cpp) ∧ (AppG #[24, 24] 24 #[.slice A2 n.ports.length c2, .slice (some ⟨w3.heap.size, 0, none⟩) 1 1]).run Tryz.prog (w3.alloc (.cells #[.slice Ap ps.length cpp] 39)) = .ok (.slice D2 (n.ports.length + 1) kk2) wB ∧ Hid (AlS w ((wB.setCell ⟨g, 1, none⟩ (.slice C1 (n.sw.length + 1) k1)).setCell ⟨g, 2, none⟩ (.slice D2 (n.ports.length + 1) kk2)) g l2 (.slice C1 (n.sw.length + 1) k1) (.slice D2 (n.ports.length + 1) kk2) (.slice A3 n.links.length c3) ⟨n.sw ++ [S2], n.ports ++ [ps], n.links⟩ mm) ∧ w3.cell? ⟨g, 2, none⟩ = some (.slice A2 n.ports.length c2) ∧ g < w3.heap.size ∧ g < wB.heap.size ∧ wB.frozen? ⟨g, 1, none⟩ = false ∧ wB.frozen? ⟨g, 2, none⟩ = false ∧ wB.cell? ⟨g, 1, none⟩ = some (.slice A1 n.sw.length c1) ∧ wB.cell? ⟨g, 2, none⟩ = some (.slice A2 n.ports.length c2) from by
        have h0 := ports13p hSo hRA.out
        rw [hpt] at h0
        refine h0.mono ?_
        intro e w3 h3
        obtain ⟨hG3, ⟨V, rfl, hI3⟩, hR3⟩ : Grg g wA w3 ∧ (∃ V, e = .returned V ∧ IpS w3 wA.heap.size V ps) ∧ RdB w3 g l2 (.slice A1 n.sw.length c1) (.slice A2 n.ports.length c2) (.slice A3 n.links.length c3) := h3
        obtain ⟨Ap, cpp, rfl⟩ := hI3.form
        have hN3 := hNA.out.grg' hG3 (Nat.le_of_lt lt)
        obtain ⟨v2', wB, hrun2, hNB, hbB, -⟩ := append_pt13 (g := w.heap.size) hN3 (own_monoN hI3 hzA) (Nat.le_trans hzA hG3.size) (by simp only; omega)
        have hfB : ∃ A cap, v2' = .slice A (n.ports.length + 1) cap := by
         obtain ⟨vs, -, h5, -⟩ := hNB.own1
         rw [← show (n.ports ++ [ps]).length = n.ports.length + 1 from by simp]
         exact own_formN h5
        obtain ⟨D2, kk2, rfl⟩ := hfB
        obtain ⟨b3, o3, cp3, hO3⟩ := hR3.open_
        have hRB := hR3.below hbB (by omega)
        obtain ⟨b4, o4, cp4, hO4⟩ := hRB.open_
        exact ⟨Ap, cpp, D2, kk2, wB, rfl, hrun2, hide (hA10.out.sw hg0 lt hbA.out hG3 hbB hRB hNB), hO3.c2, hO3.lt, hO4.lt, hO4.f1, hO4.f2, hO4.c1, hO4.c2⟩)
       clear hpt hrp' hrk'
       go_wp2_with fail
       go_region_with (go_at_call 50; refine hP1.out.mono ?_; rintro e w11 ⟨Ap, cpp, D2, kk2, wB, rfl, hrun2, hAB, y2, yl, zl, zf1, zf2, z1, z2⟩)
       all_goals (
        go_wp2
        go_roundw
        ·exact ⟨f', _, l2, _, _, _, hAB, hide hr10, hide ⟨by omega, by simp only [List.length_append, List.length_singleton]; omega, by simp only [List.length_append, List.length_singleton]; omega, by simp only; omega⟩⟩
        ·rw [hAB.out.rd.left, hl0]; omega)
   ·have q8 : decide ((n.sw.length : Int) < 8) = false := decide_eq_false (by omega)
    have hA1 := hide (fun W => hAk.out false 5 W)
    simp only [Bool.false_eq_true, if_false] at hA1
    have hr6 := hide (hr5.out hn8)
    clear hr5 hAk
    go_wp2_with fail
    refine wp_region_quiet_tail 13 (by kernel_rfl) (by kernel_rfl) ?_
    simp only [List.take_succ_cons, List.take_zero, List.drop_succ_cons, List.drop_zero]
    repeat (any_goals (first | go_big_quiet_step (fail) | quiet_step (fail)))
    refine wpQuiet_nil ?_
    intro w4 hw4
    go_wp2_with (go_at_call 47; refine (hA1.out _).mono ?_; rintro e w5 ⟨rfl, hb5⟩)
    exact ⟨rfl, hQ2.out _ _ ((hA3.out.below hg0 lt hw4).below hg0 lt hb5).grg hr6.out⟩
  | false =>
   rw [hs] at hIs
   have hR2 := hide (show RES = finL (lnsT l'.length n l') from by rw [hR.out, sws_end hs]; rfl)
   clear hR hs
   go_upto_region 7 with (go_at_call 46; refine hIs.out.mono ?_; rintro e w3 ⟨rfl, hb3⟩)
   have hA3 := hide (hA.out.below hg0 lt hb3)
   clear hA hb3 hIs hl0 hpos hf h8 h8p
   go_loopw [4, 5, 6, 7] (fun _ _ _ _ wr => ∃ (f : Nat) (n : Net) (l' : List Tk) (v1 v2 v3 : Value), Hid (AlS w wr g l' v1 v2 v3 n mm) ∧ Hid (RES = finL (lnsT f n l')) ∧ Hid (l'.length ≤ f ∧ n.links.length + l'.length ≤ 65537)) (fun _ _ _ _ wr => leftN g wr)
   case atStart => exact ⟨l'.length, n, l', _, _, _, hA3, hR2, hide ⟨Nat.le_refl _, hlk⟩⟩
   case round =>
    clear hA3 hR2 hlk
    clear f' l' n
    obtain ⟨f, n, l', v1, v2, v3, hA, hR, hL⟩ := hrel
    have hl0 := hA.out.rd.left
    have hpos := List.length_pos_iff.2 hA.out.rd.1.ne
    obtain ⟨hf, hlk⟩ := hL.out
    obtain ⟨f', rfl⟩ : ∃ f', f = f' + 1 := ⟨f - 1, by omega⟩
    clear hL
    obtain ⟨A1, A2, A3, c1, c2, c3, rfl, rfl, rfl, hNS⟩ := hA.out.net.netS
    clear hNS
    have hIs := hide (is13 ⟨#[108, 105, 110, 107]⟩ hA.out.rd)
    rw [show (⟨#[108, 105, 110, 107]⟩ : ByteArray).data.toList = bLink from rfl] at hIs
    cases hs : isT bLink l' with
    | true =>
     rw [hs] at hIs
     have hRe := hide (fun (x : Int × Nat) (h : lnT n l' = .error x) => show RES = .error x from by rw [hR.out, lns_err hs h]; rfl)
     have hRo := hide (fun (n1 : Net) (l1 : List Tk) (h : lnT n l' = .ok (n1, l1)) => show RES = finL (lnsT f' n1 l1) from by rw [hR.out, lns_ok hs h])
     have hLs := hide (fun (n1 : Net) (l1 : List Tk) (h : lnT n l' = .ok (n1, l1)) => lnT_less hA.out.rd.1 hs h)
     clear hR hs
     go_upto_region 8 with (go_at_call 46; refine hIs.out.mono ?_; rintro e w4 ⟨rfl, hb4⟩)
     have hA4 := hide (hA.out.below hg0 lt hb4)
     have hNx := hide (next13p hA4.out.rd)
     generalize headT l' = t at hNx
     clear hIs hb4
     go_upto_region 9 with (go_at_call 48; refine hNx.out.mono ?_; rintro e w5 ⟨rfl, hG5, hR5⟩)
     have hA5 := hide (hA4.out.step hg0 lt hG5 hR5)
     clear hG5 hR5 hA4 hNx
     have hEn := end13p hA5.out.rd (hA5.out.net.mono (Nat.le_of_lt lt)) hg0 hA5.out.m
     unfold endE at hEn
     cases he : endT n (advT l') with
     | error x =>
      rw [he] at hEn
      have hEe := hide (show Calls Tryz.prog 51 #[.pointer (some ⟨g, 0, none⟩)] w5 fun e w' => Grg g w5 w' ∧ e = pwr x from hEn)
      have hr := hide (hRe.out x (ln_e1 he))
      clear he hEn hRe hRo hLs
      go_wp2_with (go_at_call 51; refine hEe.out.mono ?_; rintro e w6 ⟨hG6, rfl⟩)
      exact ⟨rfl, hQ2.out _ _ (hA5.out.grg.trans hG6) hr.out⟩
     | ok x =>
      obtain ⟨pl, ea, l1⟩ := x
      rw [he] at hEn
      have hEe := hide (show Calls Tryz.prog 51 #[.pointer (some ⟨g, 0, none⟩)] w5 fun e w' => Grg g w5 w' ∧ (∃ (k wd hi lo : Int) (S : ByteArray), e = .returned (.tuple #[.agg #[.int .u8 k, .string S, .int .i64 wd, .int .u64 hi, .int .u64 lo, .int .i64 (pl : Int)], .agg #[.int .i64 ea.1, .int .i64 ea.2]])) ∧ RdB w' g l1 (.slice A1 n.sw.length c1) (.slice A2 n.ports.length c2) (.slice A3 n.links.length c3) from end_tk hEn)
      clear hEn
      go_upto_region 10 with (go_at_call 51; refine hEe.out.mono ?_; rintro e w6 ⟨hG6, ⟨k, wd, hi, lo, S, rfl⟩, hR6⟩)
      obtain ⟨w7, hw7, hb7, hs7, hl7, -⟩ := tbox13 w6 k wd hi lo pl S
      obtain ⟨w8, hw8, hs8, hb8, hc8, -⟩ := box1 w7 #[.int .i64 ea.1, .int .i64 ea.2] 41
      rw [hw7, hw8, ← hs7.out]
      have e0 := hc8 0
      have e1 := hc8 1
      simp at e0 e1
      have hA8 := hide (((hA5.out.step hg0 lt hG6 hR6).below hg0 lt hb7.out).below hg0 lt hb8)
      have hle : w7.heap.size < w8.heap.size := by omega
      have hne : w7.heap.size ≠ g := by have := hR6.lt; omega
      clear hG6 hR6 hw7 hb7 hs7 hl7 hw8 hs8 hb8 hc8 hEe hA5
      have hEn := end13p hA8.out.rd (hA8.out.net.mono (Nat.le_of_lt lt)) hg0 hA8.out.m
      unfold endE at hEn
      cases he2 : endT n l1 with
      | error x =>
       rw [he2] at hEn
       have hEe := hide (show Calls Tryz.prog 51 #[.pointer (some ⟨g, 0, none⟩)] w8 fun e w' => Grg g w8 w' ∧ e = pwr x from hEn)
       have hr := hide (hRe.out x (ln_e2 he he2))
       clear he he2 hEn hRe hRo hLs
       go_wp2_with (go_at_call 51; refine hEe.out.mono ?_; rintro e w9 ⟨hG9, rfl⟩)
       exact ⟨rfl, hQ2.out _ _ (hA8.out.grg.trans hG9) hr.out⟩
      | ok x =>
       obtain ⟨pl2, eb, l2⟩ := x
       rw [he2] at hEn
       have hEe := hide (show Calls Tryz.prog 51 #[.pointer (some ⟨g, 0, none⟩)] w8 fun e w' => Grg g w8 w' ∧ (∃ (k wd hi lo : Int) (S : ByteArray), e = .returned (.tuple #[.agg #[.int .u8 k, .string S, .int .i64 wd, .int .u64 hi, .int .u64 lo, .int .i64 (pl2 : Int)], .agg #[.int .i64 eb.1, .int .i64 eb.2]])) ∧ RdB w' g l2 (.slice A1 n.sw.length c1) (.slice A2 n.ports.length c2) (.slice A3 n.links.length c3) from end_tk hEn)
       clear hEn
       go_upto_region 11 with (go_at_call 51; refine hEe.out.mono ?_; rintro e w9 ⟨hG9, ⟨k2, wd2, hi2, lo2, S2, rfl⟩, hR9⟩)
       obtain ⟨w10, hw10, hb10, hs10, hl10, x0, x1, x2, x3, x4, x5⟩ := tbox13 w9 k2 wd2 hi2 lo2 pl2 S2
       obtain ⟨w11, hw11, hs11, hb11, hc11, -⟩ := box1 w10 #[.int .i64 eb.1, .int .i64 eb.2] 41
       rw [hw10, hw11, ← hs10.out]
       have f0 := hc11 0
       have f1 := hc11 1
       simp at f0 f1
       have kk := bcell' hb11
       replace x0 := (kk.1 _ 0 hl10).trans x0
       replace x1 := (kk.1 _ 1 hl10).trans x1
       replace x2 := (kk.1 _ 2 hl10).trans x2
       replace x3 := (kk.1 _ 3 hl10).trans x3
       replace x4 := (kk.1 _ 4 hl10).trans x4
       replace x5 := (kk.1 _ 5 hl10).trans x5
       have hG11 := hide (hG9.trans ((Grg.of (g := g) hb10.out).trans (Grg.of hb11)))
       replace e0 := (hG11.out.cell hle hne).trans e0
       replace e1 := (hG11.out.cell hle hne).trans e1
       have hA11 := hide (((hA8.out.step hg0 lt hG9 hR9).below hg0 lt hb10.out).below hg0 lt hb11)
       have hlf : w10.heap.size < w11.heap.size := by omega
       have hnf : w10.heap.size ≠ g := by have := hR9.lt; omega
       replace hle := Nat.lt_of_lt_of_le hle hG11.out.size
       replace hl10 := Nat.lt_of_lt_of_le hl10 hb11.size
       clear kk hG9 hR9 hw10 hb10 hs10 hw11 hs11 hb11 hc11 hEe hA8 hG11
       have hgc := gcell w11
       have hAk := hide (fun (bb : Bool) (k : Int) (W : World) => askv bb k2 wd2 hi2 lo2 pl2 S2 k W)
       by_cases hab : ea = eb
       ·have hr := hide (hRe.out _ (ln_e8 he he2 hab))
        have hA1 := hide (fun W => hAk.out false 8 W)
        simp only [Bool.false_eq_true, if_false] at hA1
        clear he he2 hRe hRo hLs hAk
        subst hab
        go_wp2_with fail
        refine wp_region_quiet_tail 4 (by kernel_rfl) (by kernel_rfl) ?_
        simp only [List.take_succ_cons, List.take_zero, List.drop_succ_cons, List.drop_zero]
        repeat (any_goals (first | go_big_quiet_step (fail) | quiet_step (fail)))
        refine wpQuiet_nil ?_
        intro w12 hw12
        go_wp2_with (go_at_call 47; refine (hA1.out _).mono ?_; rintro e w13 ⟨rfl, hb13⟩)
        exact ⟨rfl, hQ2.out _ _ ((hA11.out.below hg0 lt hw12).below hg0 lt hb13).grg hr.out⟩
       ·have hA1 := hide (fun W => hAk.out true 8 W)
        simp only [if_true] at hA1
        obtain ⟨a1, a2⟩ := ea
        obtain ⟨b1, b2⟩ := eb
        simp only at e0 e1 f0 f1
        go_wp2_with fail
        go_cut [] (fun wx => Hid (Below w11.heap.size w11 wx))
        case first =>
         by_cases h1 : a1 = b1
         ·have h2 : ¬ a2 = b2 := fun h => hab (by rw [h1, h])
          have h2b : (a2 = b2) = False := eq_false h2
          have h2c : (a2 == b2) = false := beq_eq_false_iff_ne.2 h2
          have h2d : decide (a2 = b2) = false := decide_eq_false h2
          subst h1
          clear he he2 hRe hRo hLs hAk
          refine wp_region_quiet_tail 4 (by kernel_rfl) (by kernel_rfl) ?_
          simp only [List.take_succ_cons, List.take_zero, List.drop_succ_cons, List.drop_zero]
          repeat (any_goals (first | go_big_quiet_step (fail) | quiet_step (fail)))
          refine wpQuiet_nil ?_
          intro w12 hw12
          go_wp2_with (go_at_call 47; refine (hA1.out _).mono ?_; rintro e w13 ⟨rfl, hb13⟩)
          go_meet
          exact hide (hw12.trans (hb13.mono hw12.size))
         ·have h1b : (a1 = b1) = False := eq_false h1
          have h1c : (a1 == b1) = false := beq_eq_false_iff_ne.2 h1
          have h1d : decide (a1 = b1) = false := decide_eq_false h1
          clear he he2 hRe hRo hLs hAk
          refine wp_region_quiet_tail 4 (by kernel_rfl) (by kernel_rfl) ?_
          simp only [List.take_succ_cons, List.take_zero, List.drop_succ_cons, List.drop_zero]
          repeat (any_goals (first | go_big_quiet_step (fail) | quiet_step (fail)))
          refine wpQuiet_nil ?_
          intro w12 hw12
          go_wp2_with (go_at_call 47; refine (hA1.out _).mono ?_; rintro e w13 ⟨rfl, hb13⟩)
          go_meet
          exact hide (hw12.trans (hb13.mono hw12.size))
        case rest =>
         obtain ⟨w13, rfl⟩ : ∃ w13 : World, w13 = wc := ⟨_, rfl⟩
         have kk := bcell' hcut.out
         replace e0 := (kk.1 _ 0 hle).trans e0
         replace e1 := (kk.1 _ 1 hle).trans e1
         replace f0 := (kk.1 _ 0 hlf).trans f0
         replace f1 := (kk.1 _ 1 hlf).trans f1
         have hA13 := hide (hA11.out.below hg0 lt hcut.out)
         replace hle := Nat.lt_of_lt_of_le hle hcut.out.size
         replace hlf := Nat.lt_of_lt_of_le hlf hcut.out.size
         clear kk hcut hA11 x0 x1 x2 x3 x4 x5 hl10 hgc hA1 hAk
         have hWn := want13p ⟨#[59]⟩ hA13.out.rd
         rw [show (⟨#[59]⟩ : ByteArray).data.toList = bSemi from rfl] at hWn
         unfold wantE at hWn
         cases hw : wantT bSemi l2 with
         | error x =>
          rw [hw] at hWn
          replace hWn := hide (show Calls Tryz.prog 52 #[.pointer (some ⟨g, 0, none⟩), .string ⟨#[59]⟩] w13 fun e w' => Grg g w13 w' ∧ e = pwr x from hWn)
          have hr := hide (hRe.out x (ln_e4 he he2 hab hw))
          clear hw he he2 hRe hRo hLs
          go_wp2_with (go_at_call 52; refine hWn.out.mono ?_; rintro e w14 ⟨hG14, rfl⟩)
          exact ⟨rfl, hQ2.out _ _ (hA13.out.grg.trans hG14) hr.out⟩
         | ok l3 =>
          rw [hw] at hWn
          replace hWn := hide (show Calls Tryz.prog 52 #[.pointer (some ⟨g, 0, none⟩), .string ⟨#[59]⟩] w13 fun e w' => Grg g w13 w' ∧ e = .returned (.tuple #[]) ∧ RdB w' g l3 (.slice A1 n.sw.length c1) (.slice A2 n.ports.length c2) (.slice A3 n.links.length c3) from hWn)
          have hr := hide (hRo.out _ _ (ln_ok he he2 hab hw))
          have hl3 := hLs.out _ _ (ln_ok he he2 hab hw)
          clear hw he he2 hRe hRo hLs
          go_upto_region 13 with (go_at_call 52; refine hWn.out.mono ?_; rintro e w14 ⟨hG14, rfl, hR14⟩)
          have hA14 := hide (hA13.out.step hg0 lt hG14 hR14)
          replace e0 := (hG14.cell hle hne).trans e0
          replace e1 := (hG14.cell hle hne).trans e1
          replace f0 := (hG14.cell hlf hnf).trans f0
          replace f1 := (hG14.cell hlf hnf).trans f1
          replace hle := Nat.lt_of_lt_of_le hle hG14.size
          replace hlf := Nat.lt_of_lt_of_le hlf hG14.size
          obtain ⟨b9, o9, cp9, hO9⟩ := hA14.out.rd.open_
          have d3 := hO9.c3
          have ltr := hO9.lt
          obtain ⟨v3', wA, hrun1, hNA, hbA⟩ := append_ln13 (W := w14.drew) (g := w.heap.size) (a1, a2) (b1, b2) hA14.out.net.drew (show w.heap.size + 1 ≤ w14.heap.size from hA14.out.lt) (by omega)
          have hfA : ∃ A cap, v3' = .slice A (n.links.length + 1) cap := by
           rw [← show (n.links ++ [((a1, a2), (b1, b2))]).length = n.links.length + 1 from by simp]
           exact own_formN hNA.own2
          obtain ⟨C3, k3, rfl⟩ := hfA
          replace hrun1 : (AppG #[25, 25] 25 #[.slice A3 n.links.length c3, .slice (some ⟨w14.heap.size, 0, none⟩) 1 1]).run Tryz.prog (w14.alloc (.cells #[.int .i64 a1, .int .i64 a2, .int .i64 b1, .int .i64 b2] 72)).drew = .ok (.slice C3 (n.links.length + 1) k3) wA := hrun1
          have hRA := RdB.below (w := w14.drew) hA14.out.rd hbA (by omega)
          obtain ⟨bA, oA, cpA, hOA⟩ := hRA.open_
          have y3 := hOA.c3
          have yf := hOA.f3
          have yl := hOA.lt
          have hAN := hide (hA14.out.ln hg0 lt hbA hNA)
          clear hO9 hOA hRA hNA hbA hA14 hA13 hG14 hR14 hWn
          go_wp2_with fail
          go_region
          go_wp2
          go_roundw
          case rel => exact ⟨f', _, l3, _, _, _, hAN, hr, hide ⟨by omega, by simp only [List.length_append, List.length_singleton]; omega⟩⟩
          case measure => rw [hAN.out.rd.left, hl0]; omega
    | false =>
     rw [hs] at hIs
     have hr := hide (show RES = if (headT l').kind = 0 then .ok n else .error (4, (headT l').pl) from by rw [hR.out, lns_end hs]; rfl)
     clear hR hs hl0 hpos hlk hf
     go_upto_region 14 with (go_at_call 46; refine hIs.out.mono ?_; rintro e w4 ⟨rfl, hb4⟩)
     have hA4 := hide (hA.out.below hg0 lt hb4)
     obtain ⟨b, o, cp, hO⟩ := hA4.out.rd.open_
     obtain ⟨ltr, bg, pos, le, ml, d0, d1, d2, d3, f0, f1, f2, f3, k0, k1, k2, k3, k4, k5⟩ := hO
     have hAk := hide (fun (bb : Bool) (k : Int) (W : World) => ask13 bb (headT l') k W)
     generalize headT l' = t at k0 k1 k2 k3 k4 k5 hAk hr
     obtain ⟨k, s, wd, m, pl⟩ := t
     unfold tkA at hAk
     simp only at k0 k1 k2 k3 k4 k5 hAk hr
     generalize (⟨s.toArray⟩ : ByteArray) = S at k1 hAk
     generalize ((m / 18446744073709551616 : Nat) : Int) = hi at k3 hAk
     generalize ((m % 18446744073709551616 : Nat) : Int) = lo at k4 hAk
     have hbl : b < w4.heap.size := by omega
     have lz : (0 : Int) < (l'.length : Int) := by omega
     have hgc := gcell w4
     clear f0 f1 f2 f3 d1 d2 d3 hb4 hIs hA
     by_cases hk : k = 0
     ·have hr1 := hide (show RES = .ok n from by rw [hr.out, if_pos hk])
      have hA1 := hide (fun W => hAk.out true 4 W)
      simp only [if_true] at hA1
      subst hk
      clear hr hAk
      go_wp2_with fail
      refine wp_region_quiet_tail 14 (by kernel_rfl) (by kernel_rfl) ?_
      simp only [List.take_succ_cons, List.take_zero, List.drop_succ_cons, List.drop_zero]
      repeat (any_goals (first | go_big_quiet_step (fail) | quiet_step (fail)))
      refine wpQuiet_nil ?_
      intro w5 hw5
      go_upto_region 15 with (go_at_call 47; refine (hA1.out _).mono ?_; rintro e w6 ⟨rfl, hb6⟩)
      have hA6 := hide ((hA4.out.below hg0 lt hw5).below hg0 lt hb6)
      clear d0 k0 k1 k2 k3 k4 k5 hgc hb6 hw5 hA4 hA1 hbl lz ltr bg pos le ml
      obtain ⟨b, o, cp, hO⟩ := hA6.out.rd.open_
      have d1 := hO.c1
      have d2 := hO.c2
      have d3 := hO.c3
      have ltr := hO.lt
      have z0 := hA6.out.z0
      have z1 := hA6.out.z1
      have z2 := hA6.out.z2
      have zf0 := hA6.out.fz 0
      have zf1 := hA6.out.fz 1
      have zf2 := hA6.out.fz 2
      have zl := hA6.out.lt
      have n1 : w.heap.size ≠ g := by omega
      have n2 : g ≠ w.heap.size := by omega
      have hfin := hide (fun (u1 u2 u3 : Value) => (⟨((hA6.out.grg.setNew (i := 0) (Nat.le_refl _) u1).setNew (i := 1) (Nat.le_refl _) u2).setNew (i := 2) (Nat.le_refl _) u3, ((hA6.out.net.set (i := 0) (u := u1)).set (i := 1) (u := u2)).set (i := 2) (u := u3)⟩ : _ ∧ _))
      clear hO
      go_wp2
      obtain ⟨hg1, hn1⟩ := hfin.out (.slice A1 n.sw.length c1) (.slice A2 n.ports.length c2) (.slice A3 n.links.length c3)
      have hq := hide (hQ1.out _ n A1 A2 A3 c1 c2 c3 hg1 hn1 hr1.out)
      refine bodyPost_ret (v := .agg #[.slice A1 n.sw.length c1, .slice A2 n.ports.length c2, .slice A3 n.links.length c3]) ?_ rfl hq.out
      simp [results, Tryz.results17, go_sem, z0, z1, z2]
     ·have hr1 := hide (show RES = .error (4, pl) from by rw [hr.out, if_neg hk])
      have hA1 := hide (fun W => hAk.out false 4 W)
      simp only [Bool.false_eq_true, if_false] at hA1
      have hk1 : ((k : Int) == 0) = false := by rw [beq_eq_false_iff_ne]; omega
      have hk2 : ¬ (k : Int) = 0 := by omega
      clear hr hAk
      go_wp2_with fail
      refine wp_region_quiet_tail 14 (by kernel_rfl) (by kernel_rfl) ?_
      simp only [List.take_succ_cons, List.take_zero, List.drop_succ_cons, List.drop_zero]
      repeat (any_goals (first | go_big_quiet_step (fail) | quiet_step (fail)))
      refine wpQuiet_nil ?_
      intro w5 hw5
      go_wp2_with (go_at_call 47; refine (hA1.out _).mono ?_; rintro e w6 ⟨rfl, hb6⟩)
      exact ⟨rfl, hQ2.out _ _ ((hA4.out.below hg0 lt hw5).below hg0 lt hb6).grg hr1.out⟩
end Go.Proofs.YtbjokgnnklcbcaaGreatDoor

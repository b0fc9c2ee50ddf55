import Derived.Test.YtbjokgnnklcbcaaGreatDoorTpb40
set_option linter.all false
/-! Layer 13: the law TopoBack. -/
namespace Go.Proofs.YtbjokgnnklcbcaaGreatDoor
open Go.RowKit
theorem readT_err {l : List UInt8} {x : Int × Nat} (h : readT l = .error x) : x.1 ≠ 0 := by
 unfold readT at h
 split at h
 ·rename_i e he
  injection h with h
  subst h
  exact lexR_ne' he
 ·rename_i r hr
  exact (all_err hr h).1
/-- What the law holds: the network's box. -/
structure BkN (w W : World) (n : Net) (A1 A2 A3 : Option Addr) (c1 c2 c3 : Nat) (mm : Int) : Prop where
 bel : Below w.heap.size w W
 net : NetS W w.heap.size A1 A2 A3 n
 lt : w.heap.size < W.heap.size
 x0 : W.cell? ⟨w.heap.size, 0, none⟩ = some (.slice A1 n.sw.length c1)
 x1 : W.cell? ⟨w.heap.size, 1, none⟩ = some (.slice A2 n.ports.length c2)
 x2 : W.cell? ⟨w.heap.size, 2, none⟩ = some (.slice A3 n.links.length c3)
 v : VarS W
 p : PowS W
 m : W.cell? ⟨0, 0, none⟩ = some (.int .i64 mm)
theorem BkN.below {w W W' : World} {n : Net} {A1 A2 A3 : Option Addr} {c1 c2 c3 : Nat} {mm : Int} (h : BkN w W n A1 A2 A3 c1 c2 c3 mm) (hb : Below W.heap.size W W') : BkN w W' n A1 A2 A3 c1 c2 c3 mm :=
 have kk := bcell' hb
 have hl := h.lt
 ⟨h.bel.trans (hb.mono h.bel.size), h.net.keep fun q hq => hb.cell (Nat.lt_trans hq hl), Nat.lt_of_lt_of_le hl hb.size, (kk.1 _ 0 hl).trans h.x0, (kk.1 _ 1 hl).trans h.x1, (kk.1 _ 2 hl).trans h.x2, h.v.below hb (Nat.le_refl _), h.p.belowR hb (Nat.le_refl _), (kk.1 0 0 (by omega)).trans h.m⟩
theorem BkN.sure {w W : World} {n : Net} {A1 A2 A3 : Option Addr} {c1 c2 c3 : Nat} {mm : Int} (h : BkN w W n A1 A2 A3 c1 c2 c3 mm) : NetS W W.heap.size A1 A2 A3 n := h.net.more (Nat.le_of_lt h.lt)
set_option maxRecDepth 100000 in
set_option maxHeartbeats 8000000 in
theorem topoback_any (hSo : SortC) (n : Net) (A1 A2 A3 : Option Addr) (c1 c2 c3 : Nat) (s : ByteArray) (w : World) (mm : Int) (hN : NetS w w.heap.size A1 A2 A3 n) (hs : s.size ≤ maxLen) (hV : VarS w) (hP : PowS w) (hm : w.cell? ⟨0, 0, none⟩ = some (.int .i64 mm)) (h0 : 0 < w.heap.size) :
  Calls Tryz.prog 4 #[netV n A1 A2 A3 c1 c2 c3, .string s] w fun e w' => e = .returned (.bool true) ∧ Below w.heap.size w w' := by
 obtain ⟨wa, hwa, hsa, hba, hca, -⟩ := box1 w #[.slice A1 n.sw.length c1, .slice A2 n.ports.length c2, .slice A3 n.links.length c3] 27
 have x0 := hca 0
 have x1 := hca 1
 have x2 := hca 2
 simp at x0 x1 x2
 have hBk := hide (show BkN w wa n A1 A2 A3 c1 c2 c3 mm from ⟨hba, hN.below hba, by omega, x0, x1, x2, hV.below hba (Nat.le_refl _), hP.belowR hba (Nat.le_refl _), ((bcell' hba).1 0 0 h0).trans hm⟩)
 have hKn := hide (fun (W : World) (h : BkN w W n A1 A2 A3 c1 c2 c3 mm) => known13_any hSo W mm h.v h.m (Nat.lt_of_le_of_lt (Nat.zero_le _) h.lt))
 have hGr := hide (fun (W : World) (h : BkN w W n A1 A2 A3 c1 c2 c3 mm) => great_any n A1 A2 A3 c1 c2 c3 W h.sure)
 have hsl : s.size ≤ 9223372036854775807 := hs
 have l1 := hN.1.len
 have l2 := hN.2.1.len
 have l3 := hN.2.2.len
 have hlw : w.heap.size < wa.heap.size := by omega
 replace hsa := hide hsa
 unfold netV at hGr ⊢
 clear hca hba hN hV hP hm
 by_cases hgr : greatB n = true
 ·rw [hgr] at hGr
  clear hgr
  go_enter Tryz.func4, Tryz.ntmps4
  go_wp2_with (first
   | (go_at_call 9; refine (hGr.out _ hBk.out).mono ?_; rintro e w1 ⟨rfl, hb1⟩; have hB1 := hBk.out.below hb1)
   | (go_at_call 5; refine (hKn.out _ hB1).mono ?_; rintro e w2 ⟨rfl, hb2⟩))
  go_ret
  exact ⟨rfl, (hB1.below hb2).bel⟩
 ·have hgr' : greatB n = false := by simpa using hgr
  rw [hgr'] at hGr
  by_cases hbig : 2000 < s.size
  ·have hz : (2000 : Int) < (s.size : Int) := by omega
   clear hgr hgr' hbig
   go_enter Tryz.func4, Tryz.ntmps4
   go_wp2_with (first
    | (go_at_call 9; refine (hGr.out _ hBk.out).mono ?_; rintro e w1 ⟨rfl, hb1⟩; have hB1 := hBk.out.below hb1)
    | (go_at_call 5; refine (hKn.out _ hB1).mono ?_; rintro e w2 ⟨rfl, hb2⟩))
   go_ret
   exact ⟨rfl, (hB1.below hb2).bel⟩
  ·have hz : ¬ (2000 : Int) < (s.size : Int) := by omega
   have hs2 : s.size ≤ 2000000 := by omega
   clear hgr hgr' hbig
   go_enter Tryz.func4, Tryz.ntmps4
   go_upto_region 3 with (go_at_call 9; refine (hGr.out _ hBk.out).mono ?_; rintro e w1 ⟨rfl, hb1⟩)
   have hB1 := hide (hBk.out.below hb1)
   clear hb1 x0 x1 x2 hBk hGr hlw
   have hT := tread_any hSo s w1 mm hs2 hB1.out.v hB1.out.m (Nat.lt_of_le_of_lt (Nat.zero_le _) hB1.out.lt)
   unfold ReadE at hT
   cases hr : readT s.data.toList with
   | error x =>
    have hx0 := readT_err hr
    obtain ⟨x, pk⟩ := x
    rw [hr] at hT
    simp only [faultV] at hT hx0
    generalize (((placeR (s.data.toList.take pk)).1 : Nat) : Int) = pl at hT
    generalize (((placeR (s.data.toList.take pk)).2 : Nat) : Int) = pc at hT
    have hx1 : (x = 0) = False := eq_false hx0
    have hx2 : (x == 0) = false := beq_eq_false_iff_ne.2 hx0
    have hx3 : decide (x = 0) = false := decide_eq_false hx0
    replace hT := hide hT
    clear hr
    go_upto_region 4 with (go_at_call 6; refine hT.out.mono ?_; rintro e w2 ⟨rfl, hb2⟩)
    have hB2 := hB1.out.below hb2
    obtain ⟨wx, hwx, hsx, hbx, hcx, -⟩ := box1 w2 #[.slice none 0 0, .slice none 0 0, .slice none 0 0] 27
    obtain ⟨wq, hwq, hsq, hbq, hcq, -⟩ := box1 wx #[.int .i64 x, .int .i64 pl, .int .i64 pc] 32
    rw [hwx, hwq]
    rw [hsx] at hcq
    have f0 := hcq 0
    have f1 := hcq 1
    have f2 := hcq 2
    simp at f0 f1 f2
    have hlf : w2.heap.size + 1 < wq.heap.size := by omega
    have hBq := hide ((hB2.below hbx).below hbq)
    replace hsx := hide hsx
    replace hsq := hide hsq
    clear hcx hcq hbx hbq hwx hwq hB2 hb2 hT hB1
    go_upto_region 6 with fail
    clear f0 f1 f2 hlf hx0 hx1 hx2 hx3
    obtain ⟨-, -, hlq, x0, x1, x2, -, -, -⟩ := hBq.out
    have hM := hide (tmay_any n A1 A2 A3 c1 c2 c3 mm wq hBq.out.sure hBq.out.m)
    have hTx := hide (fun (W : World) (h : BkN w W n A1 A2 A3 c1 c2 c3 mm) => ttext13 n A1 A2 A3 c1 c2 c3 mm W h.sure h.m h.p)
    unfold netV at hM hTx
    cases hmay : mayB n with
    | false =>
     rw [hmay] at hM hTx
     simp only [Bool.false_eq_true, if_false] at hTx
     clear hmay
     go_wp2_with (first
      | (go_at_call 10; refine hM.out.mono ?_; rintro e w3 ⟨rfl, hb3⟩; have hB3 := hBq.out.below hb3; obtain ⟨-, -, hl3, y0, y1, y2, -, -, -⟩ := (hBq.out.below hb3))
      | (go_at_call 11; refine (hTx.out _ hB3).mono ?_; rintro e w4 ⟨rfl, hb4⟩; have hB4 := hB3.below hb4)
      | (go_at_call 5; refine (hKn.out _ hB4).mono ?_; rintro e w5 ⟨rfl, hb5⟩))
     go_ret
     exact ⟨rfl, (hB4.below hb5).bel⟩
    | true =>
     rw [hmay] at hM hTx
     simp only [if_true] at hTx
     have htb := text_back hmay
     have hRd := hide (fun (W : World) (h : BkN w W n A1 A2 A3 c1 c2 c3 mm) => (tread_any hSo ⟨(textB n).toArray⟩ W mm (by have := (text_len hmay).1; show (textB n).length ≤ 2000000; omega) h.v h.m (Nat.lt_of_le_of_lt (Nat.zero_le _) h.lt)).mono fun e w' g => (⟨by
      have g1 := g.1
      unfold ReadE at g1
      rw [show (⟨(textB n).toArray⟩ : ByteArray).data.toList = textB n from by simp, htb] at g1
      exact g1, g.2⟩ : (∃ D1 D2 D3 d1 d2 d3, e = .returned (.tuple #[.agg #[.slice D1 n.sw.length d1, .slice D2 n.ports.length d2, .slice D3 n.links.length d3], .agg #[.int .i64 0, .int .i64 0, .int .i64 0]]) ∧ NetS w' w'.heap.size D1 D2 D3 n) ∧ Below W.heap.size W w'))
     clear htb
     replace hmay := hide hmay
     generalize (⟨(textB n).toArray⟩ : ByteArray) = TX at hTx hRd
     go_upto_region 8 with (go_at_call 10; refine hM.out.mono ?_; rintro e w3 ⟨rfl, hb3⟩)
     have hB3 := hide (hBq.out.below hb3)
     obtain ⟨-, -, hl3, x0, x1, x2, -, -, -⟩ := hB3.out
     clear hb3 hBq hM
     go_upto_region 9 with (first
      | (go_at_call 11; refine (hTx.out _ hB3.out).mono ?_; rintro e w4 ⟨rfl, hb4⟩; have hB4 := hB3.out.below hb4)
      | (go_at_call 6; refine (hRd.out _ hB4).mono ?_; rintro e w5 ⟨⟨D1, D2, D3, d1, d2, d3, rfl, hM5⟩, hb5⟩))
     have hB5 := hB4.below hb5
     obtain ⟨w6, hw6, hs6, hb6, hc6, -⟩ := box1 w5 #[.slice D1 n.sw.length d1, .slice D2 n.ports.length d2, .slice D3 n.links.length d3] 27
     obtain ⟨w7, hw7, hs7, hb7, hc7, -⟩ := box1 w6 #[.int .i64 0, .int .i64 0, .int .i64 0] 32
     rw [hw6, hw7]
     rw [hs6] at hc7
     have hb67 := hb6.trans (hb7.mono (by omega))
     have y0 := ((bcell' hb7).1 w5.heap.size 0 (by omega)).trans (hc6 0)
     have y1 := ((bcell' hb7).1 w5.heap.size 1 (by omega)).trans (hc6 1)
     have y2 := ((bcell' hb7).1 w5.heap.size 2 (by omega)).trans (hc6 2)
     have f0 := hc7 0
     have f1 := hc7 1
     have f2 := hc7 2
     simp at y0 y1 y2 f0 f1 f2
     have hB7 := hide (hB5.below hb67)
     have hM7 : NetS w7 w7.heap.size D1 D2 D3 n := (hM5.below hb67).more (by omega)
     have hSm := hide (tsame13 n D1 D2 D3 A1 A2 A3 d1 d2 d3 c1 c2 c3 w7 hM7 hB7.out.sure)
     unfold netV at hSm
     have hly : w5.heap.size < w7.heap.size := by omega
     have hlf : w5.heap.size + 1 < w7.heap.size := by omega
     clear x0 x1 x2 hl3 hB3 hB4 hb4 hb5 hB5 hs6 hs7 hb6 hb7 hc6 hc7 hw6 hw7 hb67 hM5 hM7 hTx hRd
     obtain ⟨-, -, hl7, x0, x1, x2, -, -, -⟩ := hB7.out
     go_upto_region 11 with (go_at_call 12; refine hSm.out.mono ?_; rintro e w8 ⟨rfl, hb8⟩)
     have hB8 := hide (hB7.out.below hb8)
     clear x0 x1 x2 y0 y1 y2 f0 f1 f2 hl7 hly hlf hSm hb8 hB7
     obtain ⟨-, -, hl8, x0, x1, x2, -, -, -⟩ := hB8.out
     go_upto_region 12 with fail
     clear x0 x1 x2 hl8
     go_loopw [67] (fun j wr => ∃ k : Nat, k ≤ n.sw.length ∧ j = .int .i64 k ∧ Hid (BkN w wr n A1 A2 A3 c1 c2 c3 mm)) (fun j _ => n.sw.length - (intOf j).toNat)
     case atStart => exact ⟨0, Nat.zero_le _, rfl, hB8⟩
     case round =>
      clear hB8
      obtain ⟨k, hk, rfl, hB⟩ := hrel
      by_cases hlt : k < n.sw.length
      ·have hkz : (k : Int) < (n.sw.length : Int) := by omega
       have hk0 : (0 : Int) ≤ (k : Int) := by omega
       have hkp : k < n.ports.length := by have := (sw_of hmay.out).1; omega
       have hkpz : (k : Int) < (n.ports.length : Int) := by omega
       obtain ⟨-, hnet, hlr, x0, x1, x2, -, -, -⟩ := hB.out
       obtain ⟨b2, o2, P2, p2, rfl, hb2, p0, hsl⟩ := hnet.2.1.ints hkp
       have hb2' : b2 < wr.heap.size := by omega
       have hnx := hide (fun p (hp : p ∈ n.ports[k]) => next_back hmay.out hlt (show p ∈ n.ports.getD k [] by rw [getD_eq hkp]; exact hp))
       have hl2 := hsl.len
       obtain ⟨ps, hps⟩ : ∃ ps, n.ports[k] = ps := ⟨_, rfl⟩
       rw [hps] at hnx hsl hl2 p0
       have hsl' := hide (show Sl 1 rInt wr w.heap.size P2 ps from hsl)
       clear hsl hps hnet
       go_upto_region 15 with fail
       clear x0 x1 x2 p0 hb2' hlr
       obtain ⟨wo, rfl⟩ : ∃ wo : World, wo = wr := ⟨_, rfl⟩
       have hlo := hB.out.lt
       go_loopw [76] (fun j wr => ∃ q : Nat, q ≤ ps.length ∧ j = .int .i64 q ∧ Hid (BkN w wr n A1 (some ⟨b2, o2, none⟩) A3 c1 c2 c3 mm) ∧ Hid (Below wo.heap.size wo wr)) (fun j _ => ps.length - (intOf j).toNat)
       case atStart => exact ⟨0, Nat.zero_le _, rfl, hB, hide (Below.refl _ _)⟩
       case round =>
        clear hB
        obtain ⟨q, hq, rfl, hB, hBo⟩ := hrel
        by_cases hlq : q < ps.length
        ·have hqz : (q : Int) < (ps.length : Int) := by omega
         have hq0 : (0 : Int) ≤ (q : Int) := by omega
         obtain ⟨b3, o3, rfl, hb3, a0⟩ := hsl'.out.int hlq
         replace a0 := ((bcell' hBo.out).1 _ _ (Nat.lt_trans hb3 hlo)).trans a0
         have hb3' : b3 < wr.heap.size := by have := hBo.out.size; omega
         obtain ⟨hn1, hn2⟩ := hnx.out _ (List.getElem_mem hlq)
         generalize ps[q] = p at a0 hn1 hn2
         obtain ⟨tg, th, lk, hnb⟩ : ∃ a b c, nextB n ((k : Int), p) = (a, b, c) := ⟨_, _, _, rfl⟩
         obtain ⟨bk, is2, lk2, hnb2⟩ : ∃ a b c, nextB n tg = (a, b, c) := ⟨_, _, _, rfl⟩
         obtain ⟨t1, t2⟩ := tg
         obtain ⟨z1, z2⟩ := bk
         rw [hnb] at hn1 hn2
         simp only at hn1 hn2
         subst hn1
         rw [hnb2] at hn2
         simp only at hn2
         replace hn2 := hide hn2
         go_upto_region 18 with fail
         obtain ⟨w9, hw9, hs9, hb9, hc9, -⟩ := box1 wr #[.int .i64 (k : Int), .int .i64 p] 41
         rw [hw9]
         have e0 := hc9 0
         have e1 := hc9 1
         simp at e0 e1
         have hB9 := hide (hB.out.below hb9)
         have hNx := hide ((tnext_any n A1 (some ⟨b2, o2, none⟩) A3 c1 c2 c3 k p w9 hB9.out.sure).mono fun e w' h => (⟨h.1.trans (by rw [hnb]), h.2⟩ : e = .returned (.tuple #[.agg #[.int .i64 t1, .int .i64 t2], .bool true, .bool lk]) ∧ Below w9.heap.size w9 w'))
         unfold netV at hNx
         have hle : wr.heap.size < w9.heap.size := by omega
         have hBo9 := hide (hBo.out.trans (hb9.mono hBo.out.size))
         clear a0 hb3' hc9 hb9 hw9 hs9 hB hBo hnb
         obtain ⟨-, -, hl9, x0, x1, x2, -, -, -⟩ := hB9.out
         go_upto_region 19 with (go_at_call 13; refine hNx.out.mono ?_; rintro e w10 ⟨rfl, hb10⟩)
         obtain ⟨w11, hw11, hs11, hb11, hc11, -⟩ := box1 w10 #[.int .i64 t1, .int .i64 t2] 41
         rw [hw11]
         have g0 := hc11 0
         have g1 := hc11 1
         simp at g0 g1
         have hb12 := hb10.trans (hb11.mono hb10.size)
         have hB11 := hide (hB9.out.below hb12)
         have kk := bcell' hb12
         replace e0 := (kk.1 _ 0 hle).trans e0
         replace e1 := (kk.1 _ 1 hle).trans e1
         have hz10 := hb10.size
         have hle' : wr.heap.size < w11.heap.size := by omega
         have hlg : w10.heap.size < w11.heap.size := by omega
         have hBo11 := hide (hBo9.out.trans (hb12.mono hBo9.out.size))
         have hNx2 := hide ((tnext_any n A1 (some ⟨b2, o2, none⟩) A3 c1 c2 c3 t1 t2 w11 hB11.out.sure).mono fun e w' h => (⟨h.1.trans (by rw [hnb2]), h.2⟩ : e = .returned (.tuple #[.agg #[.int .i64 z1, .int .i64 z2], .bool is2, .bool lk2]) ∧ Below w11.heap.size w11 w'))
         unfold netV at hNx2
         clear kk x0 x1 x2 hl9 hc11 hb10 hb11 hb12 hw11 hs11 hB9 hNx hle hz10 hnb2 hBo9
         obtain ⟨-, -, hl11, x0, x1, x2, -, -, -⟩ := hB11.out
         go_upto_region 21 with fail
         go_upto_region 22 with (go_at_call 13; refine hNx2.out.mono ?_; rintro e w12 ⟨rfl, hb12⟩)
         obtain ⟨w13, hw13, hs13, hb13, hc13, -⟩ := box1 w12 #[.int .i64 z1, .int .i64 z2] 41
         rw [hw13]
         have y0 := hc13 0
         have y1 := hc13 1
         simp at y0 y1
         have hb14 := hb12.trans (hb13.mono hb12.size)
         have hB13 := hide (hB11.out.below hb14)
         have kk := bcell' hb14
         replace e0 := (kk.1 _ 0 hle').trans e0
         replace e1 := (kk.1 _ 1 hle').trans e1
         replace g0 := (kk.1 _ 0 hlg).trans g0
         replace g1 := (kk.1 _ 1 hlg).trans g1
         have hBo13 := hide (hBo11.out.trans (hb14.mono hBo11.out.size))
         clear kk x0 x1 x2 hl11 hc13 hb12 hb13 hb14 hw13 hs13 hB11 hNx2 hle' hlg hBo11
         cases lk with
         | true =>
          obtain ⟨hbk, hl2', hne⟩ := hn2.out rfl
          injection hbk with hbk1 hbk2
          rw [hbk1] at y0
          rw [hbk2] at y1
          subst hl2'
          clear hbk1 hbk2
          by_cases h1 : t1 = (k : Int)
          ·have h2 : ¬ t2 = p := fun h => hne (by rw [h1, h])
           have h2b : (t2 = p) = False := eq_false h2
           have h2c : (t2 == p) = false := beq_eq_false_iff_ne.2 h2
           have h2d : decide (t2 = p) = false := decide_eq_false h2
           subst h1
           clear hn2 hne
           go_wp2
           go_roundw
           case rel => exact ⟨q + 1, by omega, by go_num, hB13, hBo13⟩
           case measure => simp [intOf]; omega
          ·have h1b : (t1 = (k : Int)) = False := eq_false h1
           have h1c : (t1 == (k : Int)) = false := beq_eq_false_iff_ne.2 h1
           have h1d : decide (t1 = (k : Int)) = false := decide_eq_false h1
           clear hn2 hne
           go_wp2
           go_roundw
           case rel => exact ⟨q + 1, by omega, by go_num, hB13, hBo13⟩
           case measure => simp [intOf]; omega
         | false =>
          clear hn2
          go_wp2
          go_roundw
          case rel => exact ⟨q + 1, by omega, by go_num, hB13, hBo13⟩
          case measure => simp [intOf]; omega
        ·have hqe : ¬ (q : Int) < (ps.length : Int) := by omega
         go_wp2
         go_roundw
         case rel => exact ⟨k + 1, by omega, by go_num, hB⟩
         case measure => simp [intOf]; omega
      ·have hke : ¬ (k : Int) < (n.sw.length : Int) := by omega
       have hK := hide (hKn.out _ hB.out)
       go_wp2_with (go_at_call 5; refine hK.out.mono ?_; rintro e w9 ⟨rfl, hb9⟩)
       go_ret
       exact ⟨rfl, (hB.out.below hb9).bel⟩
   | ok m =>
    rw [hr] at hT
    replace hT := hide (show Calls Tryz.prog 6 #[.string s] w1 fun e w' => (∃ D1 D2 D3 d1 d2 d3, e = .returned (.tuple #[.agg #[.slice D1 m.sw.length d1, .slice D2 m.ports.length d2, .slice D3 m.links.length d3], .agg #[.int .i64 0, .int .i64 0, .int .i64 0]]) ∧ NetS w' w'.heap.size D1 D2 D3 m) ∧ Below w1.heap.size w1 w' from hT)
    have hmm := read_may hr
    clear hr
    go_upto_region 4 with (go_at_call 6; refine hT.out.mono ?_; rintro e w2 ⟨⟨D1, D2, D3, d1, d2, d3, rfl, hM2⟩, hb2⟩)
    have hB2 := hB1.out.below hb2
    obtain ⟨wx, hwx, hsx, hbx, hcx, -⟩ := box1 w2 #[.slice D1 m.sw.length d1, .slice D2 m.ports.length d2, .slice D3 m.links.length d3] 27
    obtain ⟨wp, hwp, hsp, hbp, hcp, -⟩ := box1 wx #[.int .i64 0, .int .i64 0, .int .i64 0] 32
    rw [hwx, hwp]
    rw [hsx] at hcp
    have hbxp := hbx.trans (hbp.mono (by omega))
    have y0 := ((bcell' hbp).1 w2.heap.size 0 (by omega)).trans (hcx 0)
    have y1 := ((bcell' hbp).1 w2.heap.size 1 (by omega)).trans (hcx 1)
    have y2 := ((bcell' hbp).1 w2.heap.size 2 (by omega)).trans (hcx 2)
    have f0 := hcp 0
    have f1 := hcp 1
    have f2 := hcp 2
    simp at y0 y1 y2 f0 f1 f2
    have hlf : w2.heap.size + 1 < wp.heap.size := by omega
    have hly : w2.heap.size < wp.heap.size := by omega
    have hBp := hide (hB2.below hbxp)
    have hMy := hide (show Calls Tryz.prog 10 #[.agg #[.slice D1 m.sw.length d1, .slice D2 m.ports.length d2, .slice D3 m.links.length d3]] wp fun e w' => e = .returned (.bool true) ∧ Below wp.heap.size wp w' from (tmay_any m D1 D2 D3 d1 d2 d3 mm wp ((hM2.below hbxp).more (by omega)) hBp.out.m).mono fun e w' h => ⟨h.1.trans (by rw [hmm]), h.2⟩)
    replace hsx := hide hsx
    replace hsp := hide hsp
    clear hcx hcp hbx hbp hwx hwp hB2 hb2 hT hB1 hbxp hM2 hmm
    go_upto_region 6 with (go_at_call 10; refine hMy.out.mono ?_; rintro e wq ⟨rfl, hbq⟩)
    have hBq := hide (hBp.out.below hbq)
    clear f0 f1 f2 hlf y0 y1 y2 hly hMy hbq hBp
    obtain ⟨-, -, hlq, x0, x1, x2, -, -, -⟩ := hBq.out
    have hM := hide (tmay_any n A1 A2 A3 c1 c2 c3 mm wq hBq.out.sure hBq.out.m)
    have hTx := hide (fun (W : World) (h : BkN w W n A1 A2 A3 c1 c2 c3 mm) => ttext13 n A1 A2 A3 c1 c2 c3 mm W h.sure h.m h.p)
    unfold netV at hM hTx
    cases hmay : mayB n with
    | false =>
     rw [hmay] at hM hTx
     simp only [Bool.false_eq_true, if_false] at hTx
     clear hmay
     go_wp2_with (first
      | (go_at_call 10; refine hM.out.mono ?_; rintro e w3 ⟨rfl, hb3⟩; have hB3 := hBq.out.below hb3; obtain ⟨-, -, hl3, y0, y1, y2, -, -, -⟩ := (hBq.out.below hb3))
      | (go_at_call 11; refine (hTx.out _ hB3).mono ?_; rintro e w4 ⟨rfl, hb4⟩; have hB4 := hB3.below hb4)
      | (go_at_call 5; refine (hKn.out _ hB4).mono ?_; rintro e w5 ⟨rfl, hb5⟩))
     go_ret
     exact ⟨rfl, (hB4.below hb5).bel⟩
    | true =>
     rw [hmay] at hM hTx
     simp only [if_true] at hTx
     have htb := text_back hmay
     have hRd := hide (fun (W : World) (h : BkN w W n A1 A2 A3 c1 c2 c3 mm) => (tread_any hSo ⟨(textB n).toArray⟩ W mm (by have := (text_len hmay).1; show (textB n).length ≤ 2000000; omega) h.v h.m (Nat.lt_of_le_of_lt (Nat.zero_le _) h.lt)).mono fun e w' g => (⟨by
      have g1 := g.1
      unfold ReadE at g1
      rw [show (⟨(textB n).toArray⟩ : ByteArray).data.toList = textB n from by simp, htb] at g1
      exact g1, g.2⟩ : (∃ D1 D2 D3 d1 d2 d3, e = .returned (.tuple #[.agg #[.slice D1 n.sw.length d1, .slice D2 n.ports.length d2, .slice D3 n.links.length d3], .agg #[.int .i64 0, .int .i64 0, .int .i64 0]]) ∧ NetS w' w'.heap.size D1 D2 D3 n) ∧ Below W.heap.size W w'))
     clear htb
     replace hmay := hide hmay
     generalize (⟨(textB n).toArray⟩ : ByteArray) = TX at hTx hRd
     go_upto_region 8 with (go_at_call 10; refine hM.out.mono ?_; rintro e w3 ⟨rfl, hb3⟩)
     have hB3 := hide (hBq.out.below hb3)
     obtain ⟨-, -, hl3, x0, x1, x2, -, -, -⟩ := hB3.out
     clear hb3 hBq hM
     go_upto_region 9 with (first
      | (go_at_call 11; refine (hTx.out _ hB3.out).mono ?_; rintro e w4 ⟨rfl, hb4⟩; have hB4 := hB3.out.below hb4)
      | (go_at_call 6; refine (hRd.out _ hB4).mono ?_; rintro e w5 ⟨⟨D1, D2, D3, d1, d2, d3, rfl, hM5⟩, hb5⟩))
     have hB5 := hB4.below hb5
     obtain ⟨w6, hw6, hs6, hb6, hc6, -⟩ := box1 w5 #[.slice D1 n.sw.length d1, .slice D2 n.ports.length d2, .slice D3 n.links.length d3] 27
     obtain ⟨w7, hw7, hs7, hb7, hc7, -⟩ := box1 w6 #[.int .i64 0, .int .i64 0, .int .i64 0] 32
     rw [hw6, hw7]
     rw [hs6] at hc7
     have hb67 := hb6.trans (hb7.mono (by omega))
     have y0 := ((bcell' hb7).1 w5.heap.size 0 (by omega)).trans (hc6 0)
     have y1 := ((bcell' hb7).1 w5.heap.size 1 (by omega)).trans (hc6 1)
     have y2 := ((bcell' hb7).1 w5.heap.size 2 (by omega)).trans (hc6 2)
     have f0 := hc7 0
     have f1 := hc7 1
     have f2 := hc7 2
     simp at y0 y1 y2 f0 f1 f2
     have hB7 := hide (hB5.below hb67)
     have hM7 : NetS w7 w7.heap.size D1 D2 D3 n := (hM5.below hb67).more (by omega)
     have hSm := hide (tsame13 n D1 D2 D3 A1 A2 A3 d1 d2 d3 c1 c2 c3 w7 hM7 hB7.out.sure)
     unfold netV at hSm
     have hly : w5.heap.size < w7.heap.size := by omega
     have hlf : w5.heap.size + 1 < w7.heap.size := by omega
     clear x0 x1 x2 hl3 hB3 hB4 hb4 hb5 hB5 hs6 hs7 hb6 hb7 hc6 hc7 hw6 hw7 hb67 hM5 hM7 hTx hRd
     obtain ⟨-, -, hl7, x0, x1, x2, -, -, -⟩ := hB7.out
     go_upto_region 11 with (go_at_call 12; refine hSm.out.mono ?_; rintro e w8 ⟨rfl, hb8⟩)
     have hB8 := hide (hB7.out.below hb8)
     clear x0 x1 x2 y0 y1 y2 f0 f1 f2 hl7 hly hlf hSm hb8 hB7
     obtain ⟨-, -, hl8, x0, x1, x2, -, -, -⟩ := hB8.out
     go_upto_region 12 with fail
     clear x0 x1 x2 hl8
     go_loopw [67] (fun j wr => ∃ k : Nat, k ≤ n.sw.length ∧ j = .int .i64 k ∧ Hid (BkN w wr n A1 A2 A3 c1 c2 c3 mm)) (fun j _ => n.sw.length - (intOf j).toNat)
     case atStart => exact ⟨0, Nat.zero_le _, rfl, hB8⟩
     case round =>
      clear hB8
      obtain ⟨k, hk, rfl, hB⟩ := hrel
      by_cases hlt : k < n.sw.length
      ·have hkz : (k : Int) < (n.sw.length : Int) := by omega
       have hk0 : (0 : Int) ≤ (k : Int) := by omega
       have hkp : k < n.ports.length := by have := (sw_of hmay.out).1; omega
       have hkpz : (k : Int) < (n.ports.length : Int) := by omega
       obtain ⟨-, hnet, hlr, x0, x1, x2, -, -, -⟩ := hB.out
       obtain ⟨b2, o2, P2, p2, rfl, hb2, p0, hsl⟩ := hnet.2.1.ints hkp
       have hb2' : b2 < wr.heap.size := by omega
       have hnx := hide (fun p (hp : p ∈ n.ports[k]) => next_back hmay.out hlt (show p ∈ n.ports.getD k [] by rw [getD_eq hkp]; exact hp))
       have hl2 := hsl.len
       obtain ⟨ps, hps⟩ : ∃ ps, n.ports[k] = ps := ⟨_, rfl⟩
       rw [hps] at hnx hsl hl2 p0
       have hsl' := hide (show Sl 1 rInt wr w.heap.size P2 ps from hsl)
       clear hsl hps hnet
       go_upto_region 15 with fail
       clear x0 x1 x2 p0 hb2' hlr
       obtain ⟨wo, rfl⟩ : ∃ wo : World, wo = wr := ⟨_, rfl⟩
       have hlo := hB.out.lt
       go_loopw [76] (fun j wr => ∃ q : Nat, q ≤ ps.length ∧ j = .int .i64 q ∧ Hid (BkN w wr n A1 (some ⟨b2, o2, none⟩) A3 c1 c2 c3 mm) ∧ Hid (Below wo.heap.size wo wr)) (fun j _ => ps.length - (intOf j).toNat)
       case atStart => exact ⟨0, Nat.zero_le _, rfl, hB, hide (Below.refl _ _)⟩
       case round =>
        clear hB
        obtain ⟨q, hq, rfl, hB, hBo⟩ := hrel
        by_cases hlq : q < ps.length
        ·have hqz : (q : Int) < (ps.length : Int) := by omega
         have hq0 : (0 : Int) ≤ (q : Int) := by omega
         obtain ⟨b3, o3, rfl, hb3, a0⟩ := hsl'.out.int hlq
         replace a0 := ((bcell' hBo.out).1 _ _ (Nat.lt_trans hb3 hlo)).trans a0
         have hb3' : b3 < wr.heap.size := by have := hBo.out.size; omega
         obtain ⟨hn1, hn2⟩ := hnx.out _ (List.getElem_mem hlq)
         generalize ps[q] = p at a0 hn1 hn2
         obtain ⟨tg, th, lk, hnb⟩ : ∃ a b c, nextB n ((k : Int), p) = (a, b, c) := ⟨_, _, _, rfl⟩
         obtain ⟨bk, is2, lk2, hnb2⟩ : ∃ a b c, nextB n tg = (a, b, c) := ⟨_, _, _, rfl⟩
         obtain ⟨t1, t2⟩ := tg
         obtain ⟨z1, z2⟩ := bk
         rw [hnb] at hn1 hn2
         simp only at hn1 hn2
         subst hn1
         rw [hnb2] at hn2
         simp only at hn2
         replace hn2 := hide hn2
         go_upto_region 18 with fail
         obtain ⟨w9, hw9, hs9, hb9, hc9, -⟩ := box1 wr #[.int .i64 (k : Int), .int .i64 p] 41
         rw [hw9]
         have e0 := hc9 0
         have e1 := hc9 1
         simp at e0 e1
         have hB9 := hide (hB.out.below hb9)
         have hNx := hide ((tnext_any n A1 (some ⟨b2, o2, none⟩) A3 c1 c2 c3 k p w9 hB9.out.sure).mono fun e w' h => (⟨h.1.trans (by rw [hnb]), h.2⟩ : e = .returned (.tuple #[.agg #[.int .i64 t1, .int .i64 t2], .bool true, .bool lk]) ∧ Below w9.heap.size w9 w'))
         unfold netV at hNx
         have hle : wr.heap.size < w9.heap.size := by omega
         have hBo9 := hide (hBo.out.trans (hb9.mono hBo.out.size))
         clear a0 hb3' hc9 hb9 hw9 hs9 hB hBo hnb
         obtain ⟨-, -, hl9, x0, x1, x2, -, -, -⟩ := hB9.out
         go_upto_region 19 with (go_at_call 13; refine hNx.out.mono ?_; rintro e w10 ⟨rfl, hb10⟩)
         obtain ⟨w11, hw11, hs11, hb11, hc11, -⟩ := box1 w10 #[.int .i64 t1, .int .i64 t2] 41
         rw [hw11]
         have g0 := hc11 0
         have g1 := hc11 1
         simp at g0 g1
         have hb12 := hb10.trans (hb11.mono hb10.size)
         have hB11 := hide (hB9.out.below hb12)
         have kk := bcell' hb12
         replace e0 := (kk.1 _ 0 hle).trans e0
         replace e1 := (kk.1 _ 1 hle).trans e1
         have hz10 := hb10.size
         have hle' : wr.heap.size < w11.heap.size := by omega
         have hlg : w10.heap.size < w11.heap.size := by omega
         have hBo11 := hide (hBo9.out.trans (hb12.mono hBo9.out.size))
         have hNx2 := hide ((tnext_any n A1 (some ⟨b2, o2, none⟩) A3 c1 c2 c3 t1 t2 w11 hB11.out.sure).mono fun e w' h => (⟨h.1.trans (by rw [hnb2]), h.2⟩ : e = .returned (.tuple #[.agg #[.int .i64 z1, .int .i64 z2], .bool is2, .bool lk2]) ∧ Below w11.heap.size w11 w'))
         unfold netV at hNx2
         clear kk x0 x1 x2 hl9 hc11 hb10 hb11 hb12 hw11 hs11 hB9 hNx hle hz10 hnb2 hBo9
         obtain ⟨-, -, hl11, x0, x1, x2, -, -, -⟩ := hB11.out
         go_upto_region 21 with fail
         go_upto_region 22 with (go_at_call 13; refine hNx2.out.mono ?_; rintro e w12 ⟨rfl, hb12⟩)
         obtain ⟨w13, hw13, hs13, hb13, hc13, -⟩ := box1 w12 #[.int .i64 z1, .int .i64 z2] 41
         rw [hw13]
         have y0 := hc13 0
         have y1 := hc13 1
         simp at y0 y1
         have hb14 := hb12.trans (hb13.mono hb12.size)
         have hB13 := hide (hB11.out.below hb14)
         have kk := bcell' hb14
         replace e0 := (kk.1 _ 0 hle').trans e0
         replace e1 := (kk.1 _ 1 hle').trans e1
         replace g0 := (kk.1 _ 0 hlg).trans g0
         replace g1 := (kk.1 _ 1 hlg).trans g1
         have hBo13 := hide (hBo11.out.trans (hb14.mono hBo11.out.size))
         clear kk x0 x1 x2 hl11 hc13 hb12 hb13 hb14 hw13 hs13 hB11 hNx2 hle' hlg hBo11
         cases lk with
         | true =>
          obtain ⟨hbk, hl2', hne⟩ := hn2.out rfl
          injection hbk with hbk1 hbk2
          rw [hbk1] at y0
          rw [hbk2] at y1
          subst hl2'
          clear hbk1 hbk2
          by_cases h1 : t1 = (k : Int)
          ·have h2 : ¬ t2 = p := fun h => hne (by rw [h1, h])
           have h2b : (t2 = p) = False := eq_false h2
           have h2c : (t2 == p) = false := beq_eq_false_iff_ne.2 h2
           have h2d : decide (t2 = p) = false := decide_eq_false h2
           subst h1
           clear hn2 hne
           go_wp2
           go_roundw
           case rel => exact ⟨q + 1, by omega, by go_num, hB13, hBo13⟩
           case measure => simp [intOf]; omega
          ·have h1b : (t1 = (k : Int)) = False := eq_false h1
           have h1c : (t1 == (k : Int)) = false := beq_eq_false_iff_ne.2 h1
           have h1d : decide (t1 = (k : Int)) = false := decide_eq_false h1
           clear hn2 hne
           go_wp2
           go_roundw
           case rel => exact ⟨q + 1, by omega, by go_num, hB13, hBo13⟩
           case measure => simp [intOf]; omega
         | false =>
          clear hn2
          go_wp2
          go_roundw
          case rel => exact ⟨q + 1, by omega, by go_num, hB13, hBo13⟩
          case measure => simp [intOf]; omega
        ·have hqe : ¬ (q : Int) < (ps.length : Int) := by omega
         go_wp2
         go_roundw
         case rel => exact ⟨k + 1, by omega, by go_num, hB⟩
         case measure => simp [intOf]; omega
      ·have hke : ¬ (k : Int) < (n.sw.length : Int) := by omega
       have hK := hide (hKn.out _ hB.out)
       go_wp2_with (go_at_call 5; refine hK.out.mono ?_; rintro e w9 ⟨rfl, hb9⟩)
       go_ret
       exact ⟨rfl, (hB.out.below hb9).bel⟩
end Go.Proofs.YtbjokgnnklcbcaaGreatDoor

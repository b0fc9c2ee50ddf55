import Derived.Test.YtbjokgnnklcbcaaGreatDoorTpb39
set_option linter.all false
/-! Layer 13: Text, walked. -/
namespace Go.Proofs.YtbjokgnnklcbcaaGreatDoor
open Go.RowKit
/-- What of a network's text is to be written yet: from a switch on, from a link on. -/
def restL (n : Net) (k : Nat) : List UInt8 := (n.links.drop k).flatMap (lnTx n)
def restS (n : Net) (k : Nat) : List UInt8 := ((n.sw.zip n.ports).drop k).flatMap (fun x => swTx x.1 x.2) ++ restL n 0
def restP (ps : List Int) (j : Nat) (r : List UInt8) : List UInt8 := (ps.drop j).flatMap (fun p => 32 :: (Go.Lib.itoa p ++ [59])) ++ ([32, 125, 10] ++ r)
theorem textB_rest (n : Net) : textB n = restS n 0 := by simp [textB, restS, restL]
theorem restS_end {n : Net} (k : Nat) (h : n.sw.length ≤ k) : restS n k = restL n 0 := by
 unfold restS
 rw [List.drop_eq_nil_of_le (by rw [List.length_zip]; omega)]
 rfl
theorem restS_cut {n : Net} {k : Nat} (h : k < n.sw.length) (h' : k < n.ports.length) : restS n k = (bSwitch ++ 32 :: (n.sw[k].data.toList ++ [32, 123])) ++ restP n.ports[k] 0 (restS n (k + 1)) := by
 unfold restS restP
 rw [List.drop_eq_getElem_cons (by rw [List.length_zip]; omega)]
 simp [swTx, List.getElem_zip]
theorem restP_end {ps : List Int} {r : List UInt8} (j : Nat) (h : ps.length ≤ j) : restP ps j r = [32, 125, 10] ++ r := by
 unfold restP
 rw [List.drop_eq_nil_of_le h]
 rfl
theorem restP_cut {ps : List Int} {r : List UInt8} {j : Nat} (h : j < ps.length) : restP ps j r = (32 :: (Go.Lib.itoa ps[j] ++ [59])) ++ restP ps (j + 1) r := by
 unfold restP
 rw [List.drop_eq_getElem_cons h, List.flatMap_cons]
 simp
theorem restL_end {n : Net} (k : Nat) (h : n.links.length ≤ k) : restL n k = [] := by
 unfold restL
 rw [List.drop_eq_nil_of_le h]
 rfl
theorem restL_cut {n : Net} {k : Nat} (h : k < n.links.length) : restL n k = (bLink ++ (endTx n n.links[k].1 ++ (endTx n n.links[k].2 ++ [59, 10]))) ++ restL n (k + 1) := by
 unfold restL
 rw [List.drop_eq_getElem_cons h, List.flatMap_cons]
 simp [lnTx]
theorem cat_sw (S : ByteArray) : ((⟨#[115, 119, 105, 116, 99, 104, 32]⟩ : ByteArray) ++ S ++ ⟨#[32, 123]⟩).data.toList = bSwitch ++ 32 :: (S.data.toList ++ [32, 123]) := by
 simp [ByteArray.data_append, bSwitch]
theorem cat_pt (D : List UInt8) : ((⟨#[32]⟩ : ByteArray) ++ ⟨D.toArray⟩ ++ ⟨#[59]⟩).data.toList = 32 :: (D ++ [59]) := by
 simp [ByteArray.data_append]
theorem cat_ln (D E : List UInt8) : ((⟨#[108, 105, 110, 107]⟩ : ByteArray) ++ ⟨D.toArray⟩ ++ ⟨E.toArray⟩ ++ ⟨#[59, 10]⟩).data.toList = bLink ++ (D ++ (E ++ [59, 10])) := by
 simp [ByteArray.data_append, bLink]
theorem end_small {n : Net} (hm : mayB n = true) {i : Nat} (hi : i < n.sw.length) {p : Int} (h1 : 1 ≤ p) (h2 : p ≤ 511) : (endTx n ((i : Int), p)).length ≤ 30 := by
 have h3 : n.sw[i].data.size ≤ 16 := (sw_of hm).2.1 i hi
 have h3' : n.sw[i].size ≤ 16 := (sw_of hm).2.1 i hi
 have h4 := itoa_len h1 h2
 simp [endTx, List.getD_eq_getElem?_getD, hi]
 omega
set_option maxRecDepth 100000 in
set_option maxHeartbeats 8000000 in
theorem ttext13 (n : Net) (A1 A2 A3 : Option Addr) (c1 c2 c3 : Nat) (m : Int) (w : World) (hN : NetS w w.heap.size A1 A2 A3 n) (hm : w.cell? ⟨0, 0, none⟩ = some (.int .i64 m)) (hP : PowS w) :
  Calls Tryz.prog 11 #[netV n A1 A2 A3 c1 c2 c3] w fun e w' => e = .returned (.string (if mayB n then ⟨(textB n).toArray⟩ else ⟨#[]⟩)) ∧ Below w.heap.size w w' := by
 have hpl := hP.lt
 obtain ⟨wa, hwa, hsa, hba, hca, -⟩ := box1 w #[.slice A1 n.sw.length c1, .slice A2 n.ports.length c2, .slice A3 n.links.length c3] 27
 have x0 := hca 0
 have x1 := hca 1
 have x2 := hca 2
 simp at x0 x1 x2
 have hNa := hN.below hba
 have h00 : 0 < w.heap.size := by omega
 have hM := hide (tmay_any n A1 A2 A3 c1 c2 c3 m wa (hNa.more (by omega)) (((bcell' hba).1 0 0 h00).trans hm))
 have hlw : w.heap.size < wa.heap.size := by omega
 have hB0 := hide hba
 have hPa := hide (hP.belowR hba (Nat.le_refl _))
 replace hNa := hide hNa
 replace hsa := hide hsa
 have l1 := hN.1.len
 have l2 := hN.2.1.len
 have l3 := hN.2.2.len
 have hN0 := hide hN
 clear hca hba hN hm hP
 unfold netV at hM ⊢
 cases hmay : mayB n with
 | false =>
  rw [hmay] at hM
  simp only [Bool.false_eq_true, if_false]
  go_enter Tryz.func11, Tryz.ntmps11
  go_wp2_with (go_at_call 10; refine hM.out.mono ?_; rintro e w1 ⟨rfl, hb1⟩)
  go_ret
  exact ⟨rfl, hB0.out.trans (hb1.mono hB0.out.size)⟩
 | true =>
  rw [hmay] at hM
  simp only [if_true]
  go_enter Tryz.func11, Tryz.ntmps11
  go_upto_region 3 with (go_at_call 10; refine hM.out.mono ?_; rintro e w1 ⟨rfl, hb1⟩)
  obtain ⟨w2, hw2, hs2, hb2, hc2, -⟩ := box1 w1 #[.pointer none, .slice none 0 0] 80
  have hB2 := hb1.trans (hb2.mono hb1.size)
  have kk := bcell' hB2
  have hz1 := hb1.size
  have hblk : w2.heap[w1.heap.size]? = some (.cells #[.pointer none, .slice none 0 0] 80 (0, 0)) := by rw [← hw2]; exact heap_alloc_new w1 _
  have hT := hide (show TxS w w2 w1.heap.size n A1 A2 A3 c1 c2 c3 [] from ⟨hB0.out.trans (hB2.mono (Nat.le_of_lt hlw)), .inl ⟨Nat.le_refl _, .slice none 0 0, hblk, World.ownsRow_nil _ _ _ _, by simp [Value.ownBlock]⟩, hNa.out.keep fun q hq => hB2.cell (Nat.lt_trans hq hlw), hPa.out.belowR hB2 (Nat.le_refl _), by omega, by omega, (kk.1 _ 0 hlw).trans x0, (kk.1 _ 1 hlw).trans x1, (kk.1 _ 2 hlw).trans x2⟩)
  have hfr := hide (textB_rest n)
  replace hmay := hide hmay
  replace hs2 := hide hs2
  clear kk hz1 hblk hb1 hb2 hB2 hc2 x0 x1 x2 hNa hPa hB0 hM
  go_upto_region 4 with fail
  generalize w1.heap.size = b at *
  obtain ⟨-, -, -, -, -, -, x0, x1, x2⟩ := hT.out
  have hlb := hT.out.lt
  have hlg : w.heap.size < w2.heap.size := by have := hT.out.gb; omega
  go_upto_region 5 with fail
  clear x0 x1 x2 hlb hlg
  go_loopw [17] (fun j wr => ∃ (k : Nat) (l : List UInt8), k ≤ n.sw.length ∧ j = .int .i64 k ∧ Hid (TxS w wr b n A1 A2 A3 c1 c2 c3 l) ∧ Hid (textB n = l ++ restS n k)) (fun j _ => n.sw.length - (intOf j).toNat)
  case atStart => exact ⟨0, [], Nat.zero_le _, rfl, hT, hide hfr.out⟩
  case round =>
   clear hT hfr
   obtain ⟨k, l, hk, rfl, hT, hfr⟩ := hrel
   obtain ⟨hbel, -, -, -, hgb, hlb, x0, x1, x2⟩ := hT.out
   have kw := bcell' hbel
   have hlg : w.heap.size < wr.heap.size := by omega
   by_cases hlt : k < n.sw.length
   ·have hkz : (k : Int) < (n.sw.length : Int) := by omega
    have hk0 : (0 : Int) ≤ (k : Int) := by omega
    have hkp : k < n.ports.length := by have := (sw_of hmay.out).1; omega
    have hkpz : (k : Int) < (n.ports.length : Int) := by omega
    obtain ⟨b1, o1, rfl, hb1, s0, -⟩ := hN0.out.1.str hlt
    obtain ⟨b2, o2, D2, d2, rfl, hb2, p0, hsl⟩ := hN0.out.2.1.ints hkp
    replace s0 := (kw.1 _ _ hb1).trans s0
    have hb1' : b1 < wr.heap.size := by omega
    have hsz : n.sw[k].size ≤ 40 := Nat.le_trans ((sw_of hmay.out).2.1 k hlt) (by decide)
    have hpr := hide ((sw_of hmay.out).2.2 k hkp)
    have hcut : textB n = l ++ (((⟨#[115, 119, 105, 116, 99, 104, 32]⟩ : ByteArray) ++ n.sw[k] ++ ⟨#[32, 123]⟩).data.toList ++ restP n.ports[k] 0 (restS n (k + 1))) := by
     rw [cat_sw]; exact hfr.out.trans (congrArg (l ++ ·) (restS_cut hlt hkp))
    have hWr := hT.out.write ((⟨#[115, 119, 105, 116, 99, 104, 32]⟩ : ByteArray) ++ n.sw[k] ++ ⟨#[32, 123]⟩) hpl hcut hmay.out
    have hfr1 : textB n = (l ++ ((⟨#[115, 119, 105, 116, 99, 104, 32]⟩ : ByteArray) ++ n.sw[k] ++ ⟨#[32, 123]⟩).data.toList) ++ restP n.ports[k] 0 (restS n (k + 1)) := by rw [List.append_assoc]; exact hcut
    obtain ⟨l1, hl1⟩ : ∃ l1, l ++ ((⟨#[115, 119, 105, 116, 99, 104, 32]⟩ : ByteArray) ++ n.sw[k] ++ ⟨#[32, 123]⟩).data.toList = l1 := ⟨_, rfl⟩
    rw [hl1] at hWr hfr1
    replace hWr := hide hWr
    replace hfr1 := hide hfr1
    have hsl' := hide hsl
    have hl2 := hsl.len
    have p0' := hide p0
    clear hcut hl1 hfr kw hbel hT hsl p0
    generalize n.sw[k] = S at s0 hsz hWr
    obtain ⟨ps, hps⟩ : ∃ ps, ps = n.ports[k] := ⟨_, rfl⟩
    rw [← hps] at hpr hfr1 hsl' hl2 p0'
    replace hps := hide hps
    go_upto_region 8 with (go_at_call 33; refine hWr.out.mono ?_; rintro e w3 ⟨⟨v, rfl⟩, hT3⟩)
    replace hT3 := hide hT3
    clear x0 x1 x2 hlb hlg s0 hb1' hWr hgb
    obtain ⟨hbel, -, -, -, hgb, hlb, x0, x1, x2⟩ := hT3.out
    have kw := bcell' hbel
    have p1 := (kw.1 _ _ hb2).trans p0'.out
    have hb2' : b2 < w3.heap.size := by omega
    have hlg : w.heap.size < w3.heap.size := by omega
    clear kw hbel
    go_upto_region 9 with fail
    clear x0 x1 x2 hlb hlg p1 hb2' hgb
    obtain ⟨wq, rfl⟩ : ∃ wq : World, wq = wr := ⟨_, rfl⟩
    go_loopw [32] (fun j wr => ∃ (q : Nat) (l : List UInt8), q ≤ ps.length ∧ j = .int .i64 q ∧ Hid (TxS w wr b n (some ⟨b1, o1, none⟩) (some ⟨b2, o2, none⟩) A3 c1 c2 c3 l) ∧ Hid (textB n = l ++ restP ps q (restS n (k + 1)))) (fun j _ => ps.length - (intOf j).toNat)
    case atStart => exact ⟨0, l1, Nat.zero_le _, rfl, hT3, hfr1⟩
    case round =>
     clear hT3 hfr1
     clear l1
     obtain ⟨q, l, hq, rfl, hT, hfr⟩ := hrel
     obtain ⟨hbel, -, -, hpow, hgb, hlb, -, -, -⟩ := hT.out
     have kw := bcell' hbel
     by_cases hlq : q < ps.length
     ·have hqz : (q : Int) < (ps.length : Int) := by omega
      have hq0 : (0 : Int) ≤ (q : Int) := by omega
      obtain ⟨b3, o3, rfl, hb3, a0⟩ := hsl'.out.int hlq
      replace a0 := (kw.1 _ _ hb3).trans a0
      have hb3' : b3 < wr.heap.size := by omega
      obtain ⟨hp1, hp2⟩ := hpr.out _ (List.getElem_mem hlq)
      have hcut : textB n = l ++ (((⟨#[32]⟩ : ByteArray) ++ ⟨(Go.Lib.itoa ps[q]).toArray⟩ ++ ⟨#[59]⟩).data.toList ++ restP ps (q + 1) (restS n (k + 1))) := by
       rw [cat_pt]; exact hfr.out.trans (congrArg (l ++ ·) (restP_cut hlq))
      have hfr1 : textB n = (l ++ ((⟨#[32]⟩ : ByteArray) ++ ⟨(Go.Lib.itoa ps[q]).toArray⟩ ++ ⟨#[59]⟩).data.toList) ++ restP ps (q + 1) (restS n (k + 1)) := by rw [List.append_assoc]; exact hcut
      have hWr := fun (W : World) (hW : TxS w W b n (some ⟨b1, o1, none⟩) (some ⟨b2, o2, none⟩) A3 c1 c2 c3 l) => hW.write ((⟨#[32]⟩ : ByteArray) ++ ⟨(Go.Lib.itoa ps[q]).toArray⟩ ++ ⟨#[59]⟩) hpl hcut hmay.out
      have hI := itoa13 ps[q] wr (by omega) hp2 hpow
      have hds : (⟨(Go.Lib.itoa ps[q]).toArray⟩ : ByteArray).size ≤ 3 := itoa_len hp1 hp2
      obtain ⟨l1, hl1⟩ : ∃ l1, l ++ ((⟨#[32]⟩ : ByteArray) ++ ⟨(Go.Lib.itoa ps[q]).toArray⟩ ++ ⟨#[59]⟩).data.toList = l1 := ⟨_, rfl⟩
      rw [hl1] at hWr hfr1
      replace hWr := hide hWr
      replace hfr1 := hide hfr1
      replace hI := hide hI
      clear hcut hl1 hfr kw hbel hpow
      generalize (⟨(Go.Lib.itoa ps[q]).toArray⟩ : ByteArray) = D at hWr hI hds
      generalize ps[q] = p at a0 hI hp1 hp2
      go_wp2_with (first
       | (go_at_call 34; refine hI.out.mono ?_; rintro e w4 ⟨rfl, hb4⟩; have hT4 := hT.out.below hpl hb4)
       | (go_at_call 33; refine (hWr.out _ hT4).mono ?_; rintro e w5 ⟨⟨v5, rfl⟩, hT5⟩))
      go_roundw
      case rel => exact ⟨q + 1, l1, by omega, by go_num, hide hT5, hfr1⟩
      case measure => simp [intOf]; omega
     ·have hcut : textB n = l ++ ((⟨#[32, 125, 10]⟩ : ByteArray).data.toList ++ restS n (k + 1)) := hfr.out.trans (congrArg (l ++ ·) (restP_end q (by omega)))
      have hfr1 : textB n = (l ++ (⟨#[32, 125, 10]⟩ : ByteArray).data.toList) ++ restS n (k + 1) := by rw [List.append_assoc]; exact hcut
      have hWr := hide (hT.out.write ⟨#[32, 125, 10]⟩ hpl hcut hmay.out)
      have hqe : ¬ (q : Int) < (ps.length : Int) := by omega
      replace hfr1 := hide hfr1
      clear hcut hfr kw hbel hpow
      go_wp2_with (go_at_call 33; refine hWr.out.mono ?_; rintro e w5 ⟨⟨v5, rfl⟩, hT5⟩)
      go_roundw
      case rel => exact ⟨k + 1, _, by omega, by go_num, hide hT5, hfr1⟩
      case measure => simp [intOf]; omega
   ·have hke : ¬ (k : Int) < (n.sw.length : Int) := by omega
    have hfr1 := hide (show textB n = l ++ restL n 0 from hfr.out.trans (congrArg (l ++ ·) (restS_end k (by omega))))
    clear kw hfr hbel
    go_upto_region 17 with fail
    have eg : ∀ args w, (callFunc 35 args).run Tryz.prog w = .ok (.enter 35 args) w := enters_of Tryz.func35 (by kernel_rfl) rfl
    clear x0 x1 x2 hlb hlg hgb
    obtain ⟨wq, rfl⟩ : ∃ wq : World, wq = wr := ⟨_, rfl⟩
    clear hlt
    go_loopw [48] (fun j wr => ∃ (q : Nat) (l : List UInt8), q ≤ n.links.length ∧ j = .int .i64 q ∧ Hid (TxS w wr b n A1 A2 A3 c1 c2 c3 l) ∧ Hid (textB n = l ++ restL n q)) (fun j _ => n.links.length - (intOf j).toNat)
    case atStart => exact ⟨0, l, Nat.zero_le _, rfl, hT, hfr1⟩
    case round =>
     clear hT hfr1
     clear l
     obtain ⟨q, l, hq, rfl, hT, hfr⟩ := hrel
     obtain ⟨hbel, -, -, -, hgb, hlb, -, -, -⟩ := hT.out
     have kw := bcell' hbel
     by_cases hlq : q < n.links.length
     ·have hqz : (q : Int) < (n.links.length : Int) := by omega
      have hq0 : (0 : Int) ≤ (q : Int) := by omega
      obtain ⟨b3, o3, rfl, hb3, a0, a1, a2, a3⟩ := hN0.out.2.2.link hlq
      replace a0 := (kw.1 _ _ hb3).trans a0
      replace a1 := (kw.1 _ _ hb3).trans a1
      replace a2 := (kw.1 _ _ hb3).trans a2
      replace a3 := (kw.1 _ _ hb3).trans a3
      have hb3' : b3 < wr.heap.size := by omega
      obtain ⟨⟨i1, hi1, hi1'⟩, ⟨p1a, p1b⟩, ⟨i2, hi2, hi2'⟩, p2a, p2b⟩ := ln_of hmay.out q hlq
      have hx1 : n.links[q].1 = ((i1 : Int), n.links[q].1.2) := by rw [← hi1]
      have hx2 : n.links[q].2 = ((i2 : Int), n.links[q].2.2) := by rw [← hi2]
      have hcut0 := hfr.out.trans (congrArg (l ++ ·) (restL_cut hlq))
      rw [hi1] at a0
      rw [hi2] at a2
      rw [hx1, hx2] at hcut0
      obtain ⟨p1, hp1⟩ : ∃ p1, p1 = n.links[q].1.2 := ⟨_, rfl⟩
      obtain ⟨p2, hp2⟩ : ∃ p2, p2 = n.links[q].2.2 := ⟨_, rfl⟩
      rw [← hp1] at hcut0 a1 p1a p1b
      rw [← hp2] at hcut0 a3 p2a p2b
      have hcut : textB n = l ++ (((⟨#[108, 105, 110, 107]⟩ : ByteArray) ++ ⟨(endTx n ((i1 : Int), p1)).toArray⟩ ++ ⟨(endTx n ((i2 : Int), p2)).toArray⟩ ++ ⟨#[59, 10]⟩).data.toList ++ restL n (q + 1)) := by
       rw [cat_ln]; exact hcut0
      have hfr1 : textB n = (l ++ ((⟨#[108, 105, 110, 107]⟩ : ByteArray) ++ ⟨(endTx n ((i1 : Int), p1)).toArray⟩ ++ ⟨(endTx n ((i2 : Int), p2)).toArray⟩ ++ ⟨#[59, 10]⟩).data.toList) ++ restL n (q + 1) := by rw [List.append_assoc]; exact hcut
      have hWr := fun (W : World) (hW : TxS w W b n A1 A2 (some ⟨b3, o3, none⟩) c1 c2 c3 l) => hW.write ((⟨#[108, 105, 110, 107]⟩ : ByteArray) ++ ⟨(endTx n ((i1 : Int), p1)).toArray⟩ ++ ⟨(endTx n ((i2 : Int), p2)).toArray⟩ ++ ⟨#[59, 10]⟩) hpl hcut hmay.out
      have hE1 := fun (W : World) (hW : TxS w W b n A1 A2 (some ⟨b3, o3, none⟩) c1 c2 c3 l) => tend13 n A1 A2 (some ⟨b3, o3, none⟩) c1 w.heap.size i1 p1 W (hW.net.more (by have := hW.lt; have := hW.gb; omega)) (by have := hW.lt; have := hW.gb; omega) hW.x0 hi1' (Nat.le_trans ((sw_of hmay.out).2.1 i1 hi1') (by decide)) (by omega) p1b hW.pow
      have hE2 := fun (W : World) (hW : TxS w W b n A1 A2 (some ⟨b3, o3, none⟩) c1 c2 c3 l) => tend13 n A1 A2 (some ⟨b3, o3, none⟩) c1 w.heap.size i2 p2 W (hW.net.more (by have := hW.lt; have := hW.gb; omega)) (by have := hW.lt; have := hW.gb; omega) hW.x0 hi2' (Nat.le_trans ((sw_of hmay.out).2.1 i2 hi2') (by decide)) (by omega) p2b hW.pow
      have hd1 : (⟨(endTx n ((i1 : Int), p1)).toArray⟩ : ByteArray).size ≤ 30 := end_small hmay.out hi1' p1a p1b
      have hd2 : (⟨(endTx n ((i2 : Int), p2)).toArray⟩ : ByteArray).size ≤ 30 := end_small hmay.out hi2' p2a p2b
      obtain ⟨l1, hl1⟩ : ∃ l1, l ++ ((⟨#[108, 105, 110, 107]⟩ : ByteArray) ++ ⟨(endTx n ((i1 : Int), p1)).toArray⟩ ++ ⟨(endTx n ((i2 : Int), p2)).toArray⟩ ++ ⟨#[59, 10]⟩).data.toList = l1 := ⟨_, rfl⟩
      rw [hl1] at hWr hfr1
      replace hWr := hide hWr
      replace hfr1 := hide hfr1
      replace hE1 := hide hE1
      replace hE2 := hide hE2
      clear hcut hcut0 hl1 hfr kw hbel hx1 hx2 hi1 hi2 hp1 hp2
      generalize (⟨(endTx n ((i1 : Int), p1)).toArray⟩ : ByteArray) = X1 at hWr hE1 hd1
      generalize (⟨(endTx n ((i2 : Int), p2)).toArray⟩ : ByteArray) = X2 at hWr hE2 hd2
      obtain ⟨w4, hw4, hs4, hb4, hc4, -⟩ := box1 wr #[.int .i64 (i1 : Int), .int .i64 p1, .int .i64 (i2 : Int), .int .i64 p2] 72
      have y0 := hc4 0
      have y1 := hc4 1
      have y2 := hc4 2
      have y3 := hc4 3
      simp at y0 y1 y2 y3
      have hT4 := hide (hT.out.below hpl hb4)
      have hly : wr.heap.size < w4.heap.size := by omega
      have hc1 := hide (fun d os => hE1.out (Go.Sort.grow (redrawn w4 d) os) (hT4.out.below hpl (below_regrown w4 d os)))
      have hc2 := hide (fun d os => hE2.out (Go.Sort.grow (redrawn w4 d) os) (hT4.out.below hpl (below_regrown w4 d os)))
      have hgc := gcell w4
      replace hs4 := hide hs4
      clear hc4 hb4 hE1 hE2
      go_upto_region 19 with fail
      go_wp2_with fail
      refine wp_region_quiet_tail 11 (by kernel_rfl) (by kernel_rfl) ?_
      simp only [List.take_succ_cons, List.take_zero, List.drop_succ_cons, List.drop_zero]
      repeat (any_goals (first | go_big_quiet_step ((go_at_fn 35; first | (with_reducible exact Calls.regrown_of (hc1.out _ _)) | (with_reducible exact Calls.regrown_of (hc2.out _ _)))) | quiet_step ((go_at_fn 35; first | (with_reducible exact Calls.regrown_of (hc1.out _ _)) | (with_reducible exact Calls.regrown_of (hc2.out _ _))))))
      refine wpQuiet_nil ?_
      intro w5 hw5
      have hT5 := hT4.out.below hpl hw5
      go_wp2_with (go_at_call 33; refine (hWr.out _ hT5).mono ?_; rintro e w6 ⟨⟨v6, rfl⟩, hT6⟩)
      go_roundw
      case rel => exact ⟨q + 1, l1, by omega, by go_num, hide hT6, hfr1⟩
      case measure => simp [intOf]; omega
     ·have hqe : ¬ (q : Int) < (n.links.length : Int) := by omega
      have hl1 : l = textB n := by rw [hfr.out, restL_end q (by omega), List.append_nil]
      have hSt := hide (string13 b l wr hT.out.bl (Nat.le_of_lt hlb))
      have hgb' := Nat.le_of_lt hgb
      have hBl := hide hbel
      replace hl1 := hide hl1
      clear hfr kw hbel
      go_wp2_with (go_at_call 36; refine hSt.out.mono ?_; rintro e w5 ⟨rfl, hb5⟩)
      go_ret
      exact ⟨ret_st (congrArg (fun l : List UInt8 => (⟨l.toArray⟩ : ByteArray)) hl1.out), hBl.out.trans (hb5.mono hgb')⟩
end Go.Proofs.YtbjokgnnklcbcaaGreatDoor

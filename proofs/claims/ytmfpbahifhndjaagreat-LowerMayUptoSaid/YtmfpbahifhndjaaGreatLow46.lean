import Derived.Test.YtmfpbahifhndjaaGreatLow36
import Derived.Test.YtmfpbahifhndjaaGreatLow38
set_option linter.all false
/-! Layer 10: how great a lowered program is: only that it answers. -/
set_option linter.all false
namespace Go.Proofs.YtmfpbahifhndjaaGreat
open Go.RowKit
theorem Sl.ltb {w : World} {B : Nat} {A : Option Addr} {xs : List Ltb} (h : Sl 5 rLtb w B A xs) {i : Nat} (hi : i < xs.length) : ∃ b o A1 A2 A3 A4 c1 c2 c3 c4, A = some ⟨b, o, none⟩ ∧ b < B ∧ w.cell? ⟨b, o + i * 5, none⟩ = some (.slice A1 xs[i].keys.length c1) ∧ w.cell? ⟨b, o + i * 5 + 1, none⟩ = some (.slice A2 xs[i].kinds.length c2) ∧ w.cell? ⟨b, o + i * 5 + 2, none⟩ = some (.slice A3 xs[i].acts.length c3) ∧ w.cell? ⟨b, o + i * 5 + 3, none⟩ = some (.int .i64 xs[i].run.act) ∧ w.cell? ⟨b, o + i * 5 + 4, none⟩ = some (.slice A4 xs[i].run.args.length c4) ∧
  Sl 1 rCd w B A1 xs[i].keys ∧ Sl 1 rU8 w B A2 xs[i].kinds ∧ Sl 1 rInt w B A3 xs[i].acts ∧ Sl 2 rNu w B A4 xs[i].run.args ∧ xs[i].acts.length ≤ c3 := by
 obtain ⟨b, o, ecs, hA, hb, hl, hc, A1, A2, A3, A4, c1, c2, c3, c4, rfl, h1, h2, h3, h4, h5, h6⟩ := h.2 i xs[i] (List.getElem?_eq_getElem hi)
 exact ⟨b, o, A1, A2, A3, A4, c1, c2, c3, c4, hA, hb, hc 0 _ rfl, hc 1 _ rfl, hc 2 _ rfl, hc 3 _ rfl, hc 4 _ rfl, h1, h2, h3, h4, h6⟩
def wghI : Int → List Ins → Int
 | n, [] => n
 | n, x :: l => wghI (wrap64 (n + x.e.length)) l
set_option maxHeartbeats 2000000 in
theorem weigh10_any (A : Option Addr) (cap : Nat) (l : List Ins) (w : World) (h : Sl 5 rIns w w.heap.size A l) :
  Calls Tryz.prog 12 #[.slice A l.length cap] w fun e w' => e = .returned (.int .i64 (wghI l.length l)) ∧ w = w' := by
 have hl := h.len
 go_enter Tryz.func12, Tryz.ntmps12
 go_wp2
 go_loop [3, 4] (fun s i => ∃ (k : Nat) (n : Int), k ≤ l.length ∧ i = .int .i64 k ∧ s = .int .i64 n ∧ Hid (wghI n (l.drop k) = wghI l.length l)) (fun _ i => l.length - (intOf i).toNat)
 case atStart => exact ⟨0, _, Nat.zero_le _, rfl, rfl, hide rfl⟩
 case round =>
  obtain ⟨k, n, hk, rfl, rfl, hc⟩ := hrel
  by_cases hlt : k < l.length
  ·obtain ⟨b, o, A', c', rfl, hb, n0, n1, n2, n3, n4, hE⟩ := h.ins hlt
   have hkz : (k : Int) < (l.length : Int) := by omega
   have le := hE.len
   have hN := hide (show wghI (wrap64 (n + l[k].e.length)) (l.drop (k + 1)) = wghI l.length l from by rw [← hc.out, List.drop_eq_getElem_cons hlt]; rfl)
   generalize l[k] = x at n3 le hN
   clear n0 n1 n2 n4 hE
   go_wp2
   go_round
   case rel => exact ⟨k + 1, _, by omega, by go_num, rfl, hN⟩
   case measure => simp [intOf]; omega
  ·have hke : k = l.length := by omega
   subst hke
   have hf := hide (show n = wghI l.length l from by rw [← hc.out, List.drop_length]; rfl)
   go_wp2
   go_ret
   exact ⟨by rw [hf.out] <;> rfl, rfl⟩
set_option maxRecDepth 100000 in
set_option maxHeartbeats 8000000 in
theorem rgreat_any (A1 A2 A3 A4 A5 A6 A7 A8 A9 A10 A11 A12 : Option Addr) (p : Lp) (c1 c2 c3 c4 c5 c6 c7 c8 c9 c10 c11 c12 : Nat) (w : World) (h : LpS w w.heap.size A1 A2 A3 A4 A5 A6 A7 A8 A9 A10 A11 A12 p) :
  Calls Tryz.prog 4 #[.agg #[.slice A1 p.heads.length c1, .slice A2 p.metas.length c2, .slice A3 p.steps.length c3, .slice A4 p.acts.length c4, .slice A5 p.tabs.length c5, .slice A6 p.control.length c6, .slice A7 p.emit.length c7, .slice A8 p.nh.length c8, .slice A9 p.nf.length c9, .slice A10 p.nm.length c10, .slice A11 p.na.length c11, .slice A12 p.nt.length c12]] w fun e w' => (∃ b, e = .returned (.bool b)) ∧ Below w.heap.size w w' := by
 have l0 := h.heads.len
 have l1 := h.metas.len
 have l2 := h.steps.len
 have l3 := h.acts.len
 have l4 := h.tabs.len
 have l5 := h.control.len
 have l6 := h.emit.len
 obtain ⟨wz, hwz, hsz, hbz, hcz, -⟩ := box1 w #[.slice A1 p.heads.length c1, .slice A2 p.metas.length c2, .slice A3 p.steps.length c3, .slice A4 p.acts.length c4, .slice A5 p.tabs.length c5, .slice A6 p.control.length c6, .slice A7 p.emit.length c7, .slice A8 p.nh.length c8, .slice A9 p.nf.length c9, .slice A10 p.nm.length c10, .slice A11 p.na.length c11, .slice A12 p.nt.length c12] 33
 have hl1 : w.heap.size < wz.heap.size := by omega
 obtain ⟨y0, y1, y2, y3, y4, y5, y6, -, -, -, -, -⟩ := row12 hcz
 have hP := (h.below hbz).more (B' := wz.heap.size) hbz.size
 have hP0 := hide hP.heads
 have hP2 := hide hP.steps
 have hP3 := hide hP.acts
 have hP4 := hide hP.tabs
 have hWc := hide (fun m => weigh10_any A6 c6 p.control (wz.drewN m) ((hP.control.drewN sta_ins m).more sta_ins (by simp)))
 generalize wghI p.control.length p.control = W0 at hWc
 have hgo := hide (fun W (hW : Below wz.heap.size wz W) => hbz.trans (hW.mono hbz.size))
 replace hsz := hide hsz
 clear hcz hbz h hP
 go_enter Tryz.func4, Tryz.ntmps4
 go_wp2_with fail
 go_quiet ((go_at_call 12; with_reducible exact quiet_same (hWc.out _)))
 go_wp2
 go_loopw [3, 4] (fun s i wr => ∃ (k : Nat) (n : Int), k ≤ p.heads.length ∧ i = .int .i64 k ∧ s = .int .i64 n ∧ Hid (Below wz.heap.size wz wr)) (fun _ i _ => p.heads.length - (intOf i).toNat)
 case atStart => exact ⟨0, _, Nat.zero_le _, rfl, rfl, hide (below_drewN (Below.refl _ _) _)⟩
 case round =>
  obtain ⟨k, n, hk, rfl, rfl, hI⟩ := hrel
  have kbr := bcell' hI.out
  by_cases hlt : k < p.heads.length
  ·have hkz : (k : Int) < (p.heads.length : Int) := by omega
   have q0 := (kbr.1 _ 0 hl1).trans y0
   obtain ⟨b, o, A', c', hA, hb, hcell, hE⟩ := hP0.out.ints hlt
   subst hA
   have le := hE.len
   have n0 := (kbr.1 _ (o + k) hb).trans hcell
   generalize p.heads[k] = x at n0 le hcell hE
   clear kbr hcell hE
   go_wp2
   go_roundw
   case rel => exact ⟨k + 1, _, by omega, by go_num, rfl, hI⟩
   case measure => simp [intOf]; omega
  ·have hke : k = p.heads.length := by omega
   subst hke
   have q0 := (kbr.1 _ 0 hl1).trans y0
   obtain ⟨w2, rfl⟩ : ∃ w2 : World, w2 = wr := ⟨_, rfl⟩
   clear kbr
   generalize p.heads.length = kh at *
   go_wp2
   clear q0 y0
   go_loopw [3, 5, 6, 7] (fun s i _ _ wr => ∃ (k : Nat) (n : Int), k ≤ p.steps.length ∧ i = .int .i64 k ∧ s = .int .i64 n ∧ Hid (Below wz.heap.size wz wr)) (fun _ i _ _ _ => p.steps.length - (intOf i).toNat)
   case atStart => exact ⟨0, _, Nat.zero_le _, rfl, rfl, hI⟩
   case round =>
    obtain ⟨k, n, hk, rfl, rfl, hI⟩ := hrel
    have kbr := bcell' hI.out
    have q2 := (kbr.1 _ 2 hl1).trans y2
    by_cases hlt : k < p.steps.length
    ·have hkz : (k : Int) < (p.steps.length : Int) := by omega
     obtain ⟨b, o, A1', A2', A3', c1', c2', c3', hA, hb, e0, e1, e2, e3, hs1, hs2, hs3, -⟩ := hP2.out.stp hlt
     have f0 := (kbr.1 _ (o + k * 4) hb).trans e0
     have f1 := (kbr.1 _ (o + k * 4 + 1) hb).trans e1
     have f2 := (kbr.1 _ (o + k * 4 + 2) hb).trans e2
     have le1 := hs1.len
     have le2 := hs2.len
     have le3 := hs3.len
     subst hA
     generalize p.steps[k] = x at e0 e1 e2 e3 f0 f1 f2 le1 le2 le3 hs1 hs2 hs3
     clear kbr e0 e3
     go_wp2_with fail
     go_quiet (fail)
     have hI2 := hide (below_drewN hI.out nq)
     generalize wr.drewN nq = w3 at hI2
     have kb3 := bcell' hI2.out
     have q2' := (kb3.1 _ 2 hl1).trans y2
     have f1' := (kb3.1 _ (o + k * 4 + 1) hb).trans e1
     clear kb3 q2 f0 f1 f2
     go_wp2
     go_loopw [3, 6] (fun s i wr => ∃ (j : Nat) (n : Int), j ≤ x.keys.length ∧ i = .int .i64 j ∧ s = .int .i64 n ∧ Hid (Below wz.heap.size wz wr)) (fun _ i _ => x.keys.length - (intOf i).toNat)
     case atStart => exact ⟨0, _, Nat.zero_le _, rfl, rfl, hI2⟩
     case round =>
      obtain ⟨j, n, hj, rfl, rfl, hJ⟩ := hrel
      have kbj := bcell' hJ.out
      have r2 := (kbj.1 _ 2 hl1).trans y2
      have t1 := (kbj.1 _ (o + k * 4 + 1) hb).trans e1
      have t2 := (kbj.1 _ (o + k * 4 + 2) hb).trans e2
      by_cases hjt : j < x.keys.length
      ·have hjz : (j : Int) < (x.keys.length : Int) := by omega
       obtain ⟨g, og, A', c', hA, hg, hcell, hE⟩ := hs2.code hjt
       subst hA
       have le := hE.len
       have n0 := (kbj.1 _ (og + j) hg).trans hcell
       generalize x.keys[j] = z at n0 le hcell hE
       clear kbj hcell hE
       go_wp2
       go_roundw
       case rel => exact ⟨j + 1, _, by omega, by go_num, rfl, hJ⟩
       case measure => simp [intOf]; omega
      ·have hje : j = x.keys.length := by omega
       subst hje
       obtain ⟨w4, rfl⟩ : ∃ w4 : World, w4 = wr := ⟨_, rfl⟩
       clear kbj q2' f1'
       go_wp2
       clear r2 t1 t2
       go_loopw [3, 7] (fun s i wr => ∃ (j : Nat) (n : Int), j ≤ x.brs.length ∧ i = .int .i64 j ∧ s = .int .i64 n ∧ Hid (Below wz.heap.size wz wr)) (fun _ i _ => x.brs.length - (intOf i).toNat)
       case atStart => exact ⟨0, _, Nat.zero_le _, rfl, rfl, hJ⟩
       case round =>
        obtain ⟨j, n, hj, rfl, rfl, hJ⟩ := hrel
        have kbj := bcell' hJ.out
        have r2 := (kbj.1 _ 2 hl1).trans y2
        have t2 := (kbj.1 _ (o + k * 4 + 2) hb).trans e2
        by_cases hjt : j < x.brs.length
        ·have hjz : (j : Int) < (x.brs.length : Int) := by omega
         obtain ⟨g, og, A', c', hA, hg, hcell, hcell2, hE⟩ := hs3.br hjt
         subst hA
         have le := hE.len
         have n0 := (kbj.1 _ (og + j * 2) hg).trans hcell
         generalize x.brs[j] = z at n0 le hcell hcell2 hE
         clear kbj hcell hcell2 hE
         go_wp2
         go_roundw
         case rel => exact ⟨j + 1, _, by omega, by go_num, rfl, hJ⟩
         case measure => simp [intOf]; omega
        ·have hje : j = x.brs.length := by omega
         subst hje
         go_wp2
         go_roundw
         case rel => exact ⟨k + 1, _, by omega, by go_num, rfl, hJ⟩
         case measure => simp [intOf]; omega
    ·have hke : k = p.steps.length := by omega
     subst hke
     obtain ⟨w5, rfl⟩ : ∃ w5 : World, w5 = wr := ⟨_, rfl⟩
     clear kbr
     generalize p.steps.length = ks at *
     go_wp2
     clear q2 y2
     go_loopw [3, 8] (fun s i wr => ∃ (k : Nat) (n : Int), k ≤ p.acts.length ∧ i = .int .i64 k ∧ s = .int .i64 n ∧ Hid (Below wz.heap.size wz wr)) (fun _ i _ => p.acts.length - (intOf i).toNat)
     case atStart => exact ⟨0, _, Nat.zero_le _, rfl, rfl, hI⟩
     case round =>
      obtain ⟨k, n, hk, rfl, rfl, hI⟩ := hrel
      have kbr := bcell' hI.out
      have hzr := hI.out.size
      have q3 := (kbr.1 _ 3 hl1).trans y3
      by_cases hlt : k < p.acts.length
      ·have hkz : (k : Int) < (p.acts.length : Int) := by omega
       obtain ⟨b, o, A1', A2', c1', c2', hA, hb, e0, e1, hs1, hs2⟩ := hP3.out.act hlt
       have f0 := (kbr.1 _ (o + k * 2) hb).trans e0
       have f1 := (kbr.1 _ (o + k * 2 + 1) hb).trans e1
       have le1 := hs1.len
       have le2 := hs2.len
       have hWd := hide (fun m => weigh10_any A2' c2' p.acts[k].body (wr.drewN m) ((((hs2.below sta_ins hI.out).more (B' := wr.heap.size) sta_ins hzr).drewN sta_ins m).more sta_ins (by simp)))
       subst hA
       generalize p.acts[k] = x at e0 e1 f0 f1 le1 le2 hs1 hs2 hWd
       generalize wghI x.body.length x.body = W1 at hWd
       clear kbr e0 e1 hs1 hs2
       go_wp2_with fail
       go_quiet ((go_at_call 12; with_reducible exact quiet_same (hWd.out _)))
       go_wp2
       go_roundw
       case rel => exact ⟨k + 1, _, by omega, by go_num, rfl, hide (below_drewN hI.out _)⟩
       case measure => simp [intOf]; omega
      ·have hke : k = p.acts.length := by omega
       subst hke
       obtain ⟨w6, rfl⟩ : ∃ w6 : World, w6 = wr := ⟨_, rfl⟩
       clear kbr
       generalize p.acts.length = ka at *
       go_wp2
       clear q3 y3
       go_loopw [3, 9, 10] (fun s i _ wr => ∃ (k : Nat) (n : Int), k ≤ p.tabs.length ∧ i = .int .i64 k ∧ s = .int .i64 n ∧ Hid (Below wz.heap.size wz wr)) (fun _ i _ _ => p.tabs.length - (intOf i).toNat)
       case atStart => exact ⟨0, _, Nat.zero_le _, rfl, rfl, hI⟩
       case round =>
        obtain ⟨k, n, hk, rfl, rfl, hI⟩ := hrel
        have kbr := bcell' hI.out
        have q4 := (kbr.1 _ 4 hl1).trans y4
        by_cases hlt : k < p.tabs.length
        ·have hkz : (k : Int) < (p.tabs.length : Int) := by omega
         obtain ⟨b, o, A1', A2', A3', A4', c1', c2', c3', c4', hA, hb, e0, e1, e2, e3, e4, hs1, hs2, hs3, hs4, -⟩ := hP4.out.ltb hlt
         have f2 := (kbr.1 _ (o + k * 5 + 2) hb).trans e2
         have f4 := (kbr.1 _ (o + k * 5 + 4) hb).trans e4
         have le1 := hs1.len
         have le3 := hs3.len
         have le4 := hs4.len
         subst hA
         generalize p.tabs[k] = x at e0 e1 e2 e3 e4 f2 f4 le1 le3 le4 hs1 hs2 hs3 hs4
         clear kbr e1 e2 e3 e4
         go_wp2_with fail
         go_quiet (fail)
         have hI2 := hide (below_drewN hI.out nq)
         generalize wr.drewN nq = w3 at hI2
         have kb3 := bcell' hI2.out
         have q4' := (kb3.1 _ 4 hl1).trans y4
         have f0' := (kb3.1 _ (o + k * 5) hb).trans e0
         clear kb3 q4 f2 f4
         go_wp2
         go_loopw [3, 10] (fun s i wr => ∃ (j : Nat) (n : Int), j ≤ x.keys.length ∧ i = .int .i64 j ∧ s = .int .i64 n ∧ Hid (Below wz.heap.size wz wr)) (fun _ i _ => x.keys.length - (intOf i).toNat)
         case atStart => exact ⟨0, _, Nat.zero_le _, rfl, rfl, hI2⟩
         case round =>
          obtain ⟨j, n, hj, rfl, rfl, hJ⟩ := hrel
          have kbj := bcell' hJ.out
          have r4 := (kbj.1 _ 4 hl1).trans y4
          have t0 := (kbj.1 _ (o + k * 5) hb).trans e0
          by_cases hjt : j < x.keys.length
          ·have hjz : (j : Int) < (x.keys.length : Int) := by omega
           obtain ⟨g, og, A', c', hA, hg, hcell, hE⟩ := hs1.code hjt
           subst hA
           have le := hE.len
           have n0 := (kbj.1 _ (og + j) hg).trans hcell
           generalize x.keys[j] = z at n0 le hcell hE
           clear kbj hcell hE
           go_wp2
           go_roundw
           case rel => exact ⟨j + 1, _, by omega, by go_num, rfl, hJ⟩
           case measure => simp [intOf]; omega
          ·have hje : j = x.keys.length := by omega
           subst hje
           go_wp2
           go_roundw
           case rel => exact ⟨k + 1, _, by omega, by go_num, rfl, hJ⟩
           case measure => simp [intOf]; omega
        ·have hke : k = p.tabs.length := by omega
         subst hke
         go_wp2
         all_goals go_ret
         all_goals exact ⟨⟨_, rfl⟩, hgo.out _ hI.out⟩
end Go.Proofs.YtmfpbahifhndjaaGreat

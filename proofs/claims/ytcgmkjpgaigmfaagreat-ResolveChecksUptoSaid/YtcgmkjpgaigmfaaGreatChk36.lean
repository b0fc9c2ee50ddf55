import Derived.Test.YtcgmkjpgaigmfaaGreatChk35
import Derived.Test.YtcgmkjpgaigmfaaGreatChk13
set_option linter.all false
/-! Printed by gen_may4.py. The document's layer 4: May. -/
namespace Go.Proofs.YtcgmkjpgaigmfaaGreat
open Go.RowKit
theorem sa_cells {w : World} {B : Nat} {cs : List Value} {s : Sa} (h : rSa w B cs s) : ∃ a0 a1 a2 a3 a4, cs = [a0, a1, a2, a3, a4] := by
 obtain ⟨A1, c1, A2, c2, A3, c3, rfl, -⟩ := h
 exact ⟨_, _, _, _, _, rfl⟩
theorem ta_cells {w : World} {B : Nat} {cs : List Value} {t : Ta} (h : rTa w B cs t) : ∃ a0 a1 a2 a3 a4, cs = [a0, a1, a2, a3, a4] := by
 obtain ⟨A1, c1, A2, c2, A3, c3, rfl, -⟩ := h
 exact ⟨_, _, _, _, _, rfl⟩
set_option maxRecDepth 100000 in
set_option maxHeartbeats 4000000 in
theorem may04_any {B : Nat} (w : World) (A1 A2 A3 A4 A5 A6 A7 : Option Addr) (p : Pg) (c1 c2 c3 c4 c5 c6 c7 : Nat) (hB : B ≤ w.heap.size) (h : PgS w B A1 A2 A3 A4 A5 A6 A7 p) :
  Calls Tryz.prog 22 #[.agg #[.slice A1 p.headers.length c1, .slice A2 p.metas.length c2, .slice A3 p.states.length c3, .slice A4 p.actions.length c4, .slice A5 p.tables.length c5, .slice A6 p.control.length c6, .slice A7 p.emit.length c7]] w fun r w' => r = .returned (.bool (mayP p)) ∧ Below w.heap.size w w' := by
 have l1 := h.1.len
 have l2 := h.2.len
 have l3 := h.3.len
 have l4 := h.4.len
 have l5 := h.5.len
 have l6 := h.6.len
 have l7 := h.7.len
 obtain ⟨wa, hwa, hsa, hba, hca, -⟩ := box1 w #[.slice A1 p.headers.length c1, .slice A2 p.metas.length c2, .slice A3 p.states.length c3, .slice A4 p.actions.length c4, .slice A5 p.tables.length c5, .slice A6 p.control.length c6, .slice A7 p.emit.length c7] 30
 obtain ⟨y0, y1, y2, y3, y4, y5, y6⟩ := row7 (w := wa) (a := w.heap.size) fun i => hca i
 have hb0 : Below wa.heap.size wa wa := Below.refl _ _
 have hBk := hide (show ∀ W, Below wa.heap.size wa W → Below w.heap.size w W from fun W hb => hba.trans (hb.mono (by omega)))
 have hk : ∀ W, Below wa.heap.size wa W → Below B w W := fun W hb => (hba.trans (hb.mono (by omega))).mono hB
 have hBW : ∀ W, Below wa.heap.size wa W → B ≤ W.heap.size := fun W hb => by have := hb.size; omega
 have hl0 : w.heap.size < wa.heap.size := by omega
 have hkp : ∀ W, Below wa.heap.size wa W → PgS W B A1 A2 A3 A4 A5 A6 A7 p := fun W hb => h.below (hk W hb)
 have q5 := hide (fun (W : World) (hb : Below wa.heap.size wa W) => (fields04p_any p.metas A2 c2 W (hBW W hb) (hkp W hb).metas).mono (fun e w' h => (⟨h.1, hb.trans (h.2.mono hb.size)⟩ : e = _ ∧ Below wa.heap.size wa w')))
 have q6 := hide (fun (W : World) (hb : Below wa.heap.size wa W) => ((show Calls Tryz.prog 70 #[.slice A6 p.control.length c6, .int .i64 1] W fun r w' => r = .returned (.bool (mayBlk p.control 1)) ∧ Below W.heap.size W w' from mayb4_of p.control (fun x _ => maySt4_all x) A6 c6 W 1 (by omega) (hBW W hb) (hkp W hb).control)).mono (fun e w' h => (⟨h.1, hb.trans (h.2.mono hb.size)⟩ : e = _ ∧ Below wa.heap.size wa w')))
 have q7 := hide (fun (W : World) (hb : Below wa.heap.size wa W) => (names04p_any p.emit A7 c7 W (hBW W hb) (hkp W hb).emit).mono (fun e w' h => (⟨h.1, hb.trans (h.2.mono hb.size)⟩ : e = _ ∧ Below wa.heap.size wa w')))
 have hP := hide (hkp wa hb0)
 have hv0 : mayP p = (decide (p.headers.length ≤ 8) && (decide (p.metas.length ≤ 16) && (decide (1 ≤ p.states.length) && (decide (p.states.length ≤ 16) && (decide (p.actions.length ≤ 16) && (decide (p.tables.length ≤ 8) && (decide (p.emit.length ≤ 8) && (p.headers.all hdB && (p.states.all saB && (p.actions.all acB && (p.tables.all taB && (p.metas.all fdB && (mayBlk p.control 1 && p.emit.all nameB))))))))))))) := by
  simp only [mayP, manyB, Bool.decide_and, Bool.and_assoc]
  cases p.headers.all hdB <;> cases p.metas.all fdB <;> cases p.states.all saB <;> cases p.actions.all acB <;> cases p.tables.all taB <;> simp
 generalize p.metas.all fdB = z5 at q5 hv0
 generalize mayBlk p.control 1 = z6 at q6 hv0
 generalize p.emit.all nameB = z7 at q7 hv0
 clear hca hba hk hBW hkp h hsa
 go_enter Tryz.func22, Tryz.ntmps22
 by_cases n0 : p.headers.length ≤ 8
 ·rw [decide_eq_true n0, Bool.true_and] at hv0
  have i0 : (p.headers.length : Int) ≤ 8 := by omega
  have j0 : ¬ ((8 : Int) < (p.headers.length : Int)) := by omega
  by_cases n1 : p.metas.length ≤ 16
  ·rw [decide_eq_true n1, Bool.true_and] at hv0
   have i1 : (p.metas.length : Int) ≤ 16 := by omega
   have j1 : ¬ ((16 : Int) < (p.metas.length : Int)) := by omega
   by_cases n2 : 1 ≤ p.states.length
   ·rw [decide_eq_true n2, Bool.true_and] at hv0
    have i2 : 1 ≤ (p.states.length : Int) := by omega
    have j2 : ¬ ((p.states.length : Int) < 1) := by omega
    by_cases n3 : p.states.length ≤ 16
    ·rw [decide_eq_true n3, Bool.true_and] at hv0
     have i3 : (p.states.length : Int) ≤ 16 := by omega
     have j3 : ¬ ((16 : Int) < (p.states.length : Int)) := by omega
     by_cases n4 : p.actions.length ≤ 16
     ·rw [decide_eq_true n4, Bool.true_and] at hv0
      have i4 : (p.actions.length : Int) ≤ 16 := by omega
      have j4 : ¬ ((16 : Int) < (p.actions.length : Int)) := by omega
      by_cases n5 : p.tables.length ≤ 8
      ·rw [decide_eq_true n5, Bool.true_and] at hv0
       have i5 : (p.tables.length : Int) ≤ 8 := by omega
       have j5 : ¬ ((8 : Int) < (p.tables.length : Int)) := by omega
       by_cases n6 : p.emit.length ≤ 8
       ·rw [decide_eq_true n6, Bool.true_and] at hv0
        have i6 : (p.emit.length : Int) ≤ 8 := by omega
        have j6 : ¬ ((8 : Int) < (p.emit.length : Int)) := by omega
        have hv := hide hv0
        clear hv0
        go_wp2
        have hbp := hide hb0
        clear hb0
        go_loopw [3] (fun i wr => ∃ k : Nat, k ≤ p.headers.length ∧ i = .int .i64 k ∧ Hid ((p.headers.take k).all hdB = true) ∧ Hid (Below wa.heap.size wa wr)) (fun i _ => p.headers.length - (intOf i).toNat)
        case atStart => exact ⟨0, Nat.zero_le _, rfl, hide (by simp), hbp⟩
        case round =>
         clear hbp
         obtain ⟨k, hkk, rfl, hq, hbr⟩ := hrel
         have hc := bcell' hbr.out
         have hzr := hbr.out.size
         by_cases hlt : k < p.headers.length
         ·have hltz : (k : Int) < (p.headers.length : Int) := by omega
          have hnx := hide (fun h => all_next (p := hdB) hlt hq.out h)
          have hst := hide (fun h => all_stop (p := hdB) hlt h)
          obtain ⟨b, o, ecs, hA, hb, hel, hcell, FA, fc, rfl, hn, hF⟩ := (hP.out.headers).2 k _ (List.getElem?_eq_getElem hlt)
          subst hA
          have hbw : b < wa.heap.size := by omega
          have hfl := hF.len
          have hdd : hdB p.headers[k] = (nameB p.headers[k].name && (decide (1 ≤ p.headers[k].fields.length) && (decide (p.headers[k].fields.length ≤ 16) && p.headers[k].fields.all fdB))) := by
           simp only [hdB, Bool.decide_and, Bool.and_assoc]
          rw [hdd] at hnx hst
          clear hdd
          generalize p.headers[k] = x at hcell hF hfl hnx hst hn hel
          have x0 : wa.cell? ⟨b, o + k * 2, none⟩ = some (.string x.name) := by simpa using hcell 0 _ rfl
          have x1 : wa.cell? ⟨b, o + k * 2 + 1, none⟩ = some (.slice FA x.fields.length fc) := hcell 1 _ rfl
          obtain ⟨ws, hws, hszs, hwS, hcs, -⟩ := box1 wr #[.string x.name, .slice FA x.fields.length fc] 38
          have v0 : ws.cell? ⟨wr.heap.size, 0, none⟩ = some (.string x.name) := hcs 0
          have v1 : ws.cell? ⟨wr.heap.size, 1, none⟩ = some (.slice FA x.fields.length fc) := hcs 1
          have hbs := hbr.out.trans (hwS.mono hzr)
          have ks := bcell' hbs
          have hzs : wa.heap.size ≤ ws.heap.size := hbs.size
          have zz1 : wr.heap.size < ws.heap.size := by omega
          have zz2 : w.heap.size < ws.heap.size := by omega
          have hbs' := hide hbs
          have g1 : Calls Tryz.prog 67 #[.string x.name] ws fun e w' => e = .returned (.bool (nameB x.name)) ∧ (Below ws.heap.size ws w' ∧ Below wa.heap.size wa w') := (isName03_any x.name ws).mono fun e w' h => ⟨h.1, h.2, hbs'.out.trans (h.2.mono hzs)⟩
          have g2 := hide (fun (W : World) (hb : Below wa.heap.size wa W) => (fields04p_any x.fields FA fc W (B := wa.heap.size) hb.size ((hF.below sta_fd (hb.mono (by omega))).more sta_fd (by omega))).mono (fun e w' h => (⟨h.1, hb.trans (h.2.mono hb.size)⟩ : e = _ ∧ Below wa.heap.size wa w')))
          generalize nameB x.name = y1 at g1 hnx hst
          generalize x.fields.all fdB = y2 at g2 hnx hst
          clear hcs hwS hszs hcell hel hn hF hbs
          cases y1 with
          | false =>
           have hres := hide (hst.out (by simp []))
           clear hnx hst
           go_wp2_with (first | (go_at_call 67; refine g1.mono ?_; rintro e w4 ⟨rfl, hb4, hbw4⟩; have k4 := bcell' hb4; have z4a := Nat.lt_of_lt_of_le zz1 hb4.size; have z4b := Nat.lt_of_lt_of_le zz2 hb4.size) | (go_at_call 68; refine (g2.out _ hbw4).mono ?_; rintro e w5 ⟨rfl, hbw5⟩))
           go_ret
           exact ⟨ret_b (hv.out.trans (by rw [hres.out]; simp)).symm, hBk.out _ (by assumption)⟩
          | true =>
           by_cases n1b : 1 ≤ x.fields.length
           ·have i1b : 1 ≤ (x.fields.length : Int) := by omega
            have j1b : ¬ ((x.fields.length : Int) < 1) := by omega
            by_cases n2b : x.fields.length ≤ 16
            ·have i2b : (x.fields.length : Int) ≤ 16 := by omega
             have j2b : ¬ ((16 : Int) < (x.fields.length : Int)) := by omega
             cases y2 with
             | false =>
              have hres := hide (hst.out (by simp []))
              clear hnx hst
              go_wp2_with (first | (go_at_call 67; refine g1.mono ?_; rintro e w4 ⟨rfl, hb4, hbw4⟩; have k4 := bcell' hb4; have z4a := Nat.lt_of_lt_of_le zz1 hb4.size; have z4b := Nat.lt_of_lt_of_le zz2 hb4.size) | (go_at_call 68; refine (g2.out _ hbw4).mono ?_; rintro e w5 ⟨rfl, hbw5⟩))
              go_ret
              exact ⟨ret_b (hv.out.trans (by rw [hres.out]; simp)).symm, hBk.out _ (by assumption)⟩
             | true =>
              have hres := hide (hnx.out (by simp [n1b, n2b]))
              clear hnx hst
              go_wp2_with (first | (go_at_call 67; refine g1.mono ?_; rintro e w4 ⟨rfl, hb4, hbw4⟩; have k4 := bcell' hb4; have z4a := Nat.lt_of_lt_of_le zz1 hb4.size; have z4b := Nat.lt_of_lt_of_le zz2 hb4.size) | (go_at_call 68; refine (g2.out _ hbw4).mono ?_; rintro e w5 ⟨rfl, hbw5⟩))
              go_roundw
              case rel => exact ⟨k + 1, by omega, by go_num, hres, hide (by assumption)⟩
              case measure => simp [intOf]; omega
            ·have i2b : ¬ ((x.fields.length : Int) ≤ 16) := by omega
             have j2b : (16 : Int) < (x.fields.length : Int) := by omega
             have hres := hide (hst.out (by simp [n2b]))
             clear hnx hst
             go_wp2_with (first | (go_at_call 67; refine g1.mono ?_; rintro e w4 ⟨rfl, hb4, hbw4⟩; have k4 := bcell' hb4; have z4a := Nat.lt_of_lt_of_le zz1 hb4.size; have z4b := Nat.lt_of_lt_of_le zz2 hb4.size) | (go_at_call 68; refine (g2.out _ hbw4).mono ?_; rintro e w5 ⟨rfl, hbw5⟩))
             go_ret
             exact ⟨ret_b (hv.out.trans (by rw [hres.out]; simp)).symm, hBk.out _ (by assumption)⟩
           ·have i1b : ¬ (1 ≤ (x.fields.length : Int)) := by omega
            have j1b : (x.fields.length : Int) < 1 := by omega
            have hres := hide (hst.out (by simp [n1b]))
            clear hnx hst
            go_wp2_with (first | (go_at_call 67; refine g1.mono ?_; rintro e w4 ⟨rfl, hb4, hbw4⟩; have k4 := bcell' hb4; have z4a := Nat.lt_of_lt_of_le zz1 hb4.size; have z4b := Nat.lt_of_lt_of_le zz2 hb4.size) | (go_at_call 68; refine (g2.out _ hbw4).mono ?_; rintro e w5 ⟨rfl, hbw5⟩))
            go_ret
            exact ⟨ret_b (hv.out.trans (by rw [hres.out]; simp)).symm, hBk.out _ (by assumption)⟩
         ·have hAll1 := hide (all_end hq.out hlt)
          go_wp2
          have hbp := hbr
          clear hbr hq hlt hkk hc hzr
          go_loopw [5] (fun i wr => ∃ k : Nat, k ≤ p.states.length ∧ i = .int .i64 k ∧ Hid ((p.states.take k).all saB = true) ∧ Hid (Below wa.heap.size wa wr)) (fun i _ => p.states.length - (intOf i).toNat)
          case atStart => exact ⟨0, Nat.zero_le _, rfl, hide (by simp), hbp⟩
          case round =>
           clear hbp
           obtain ⟨k, hkk, rfl, hq, hbr⟩ := hrel
           have hc := bcell' hbr.out
           have hzr := hbr.out.size
           by_cases hlt : k < p.states.length
           ·have hltz : (k : Int) < (p.states.length : Int) := by omega
            have hnx := hide (fun h => all_next (p := saB) hlt hq.out h)
            have hst := hide (fun h => all_stop (p := saB) hlt h)
            obtain ⟨b, o, ecs, hA, hb, hel, hcell, hr⟩ := (hP.out.states).2 k _ (List.getElem?_eq_getElem hlt)
            subst hA
            have hbw : b < wa.heap.size := by omega
            obtain ⟨a0, a1, a2, a3, a4, hecs⟩ := sa_cells hr
            have hX0 := mayState04_any p.states[k] ecs wr (show B ≤ wr.heap.size by omega) (sta_sa.keep hr fun q hq => hbr.out.cell (Nat.lt_of_lt_of_le hq (by omega)))
            subst hecs
            obtain ⟨x0, x1, x2, x3, x4⟩ := srow5 hcell
            clear hcell hel hr
            generalize saB p.states[k] = z at hX0 hnx hst
            have hX : Calls Tryz.prog 69 #[.agg #[a0, a1, a2, a3, a4]] wr fun r w' => r = .returned (.bool z) ∧ Below wr.heap.size wr w' := hX0
            clear hX0
            cases z with
            | false =>
             have hres := hst.out rfl
             clear hnx hst
             replace hres := hide hres
             go_wp2_with (go_at_call 69; refine hX.mono ?_; rintro e w2 ⟨rfl, hb2⟩)
             go_ret
             exact ⟨ret_b (hv.out.trans (by rw [hAll1.out, hres.out]; simp)).symm, hBk.out _ (hbr.out.trans (hb2.mono hzr))⟩
            | true =>
             have hres := hide (hnx.out rfl)
             clear hnx hst
             go_wp2_with (go_at_call 69; refine hX.mono ?_; rintro e w2 ⟨rfl, hb2⟩)
             go_roundw
             case rel => exact ⟨k + 1, by omega, by go_num, hres, hide (hbr.out.trans (hb2.mono hzr))⟩
             case measure => simp [intOf]; omega
           ·have hAll2 := hide (all_end hq.out hlt)
            go_wp2
            have hbp := hbr
            clear hbr hq hlt hkk hc hzr
            go_loopw [6] (fun i wr => ∃ k : Nat, k ≤ p.actions.length ∧ i = .int .i64 k ∧ Hid ((p.actions.take k).all acB = true) ∧ Hid (Below wa.heap.size wa wr)) (fun i _ => p.actions.length - (intOf i).toNat)
            case atStart => exact ⟨0, Nat.zero_le _, rfl, hide (by simp), hbp⟩
            case round =>
             clear hbp
             obtain ⟨k, hkk, rfl, hq, hbr⟩ := hrel
             have hc := bcell' hbr.out
             have hzr := hbr.out.size
             by_cases hlt : k < p.actions.length
             ·have hltz : (k : Int) < (p.actions.length : Int) := by omega
              have hnx := hide (fun h => all_next (p := acB) hlt hq.out h)
              have hst := hide (fun h => all_stop (p := acB) hlt h)
              obtain ⟨b, o, ecs, hA, hb, hel, hcell, FA, fc, BA, bc, rfl, hn, hF, hBd⟩ := (hP.out.actions).2 k _ (List.getElem?_eq_getElem hlt)
              subst hA
              have hbw : b < wa.heap.size := by omega
              have hfl := hF.len
              have hbl := hBd.len
              have hdd : acB p.actions[k] = (nameB p.actions[k].name && (decide (p.actions[k].params.length ≤ 8) && (p.actions[k].params.all fdB && mayBlk p.actions[k].body 1))) := by
               simp only [acB, Bool.and_assoc]
              rw [hdd] at hnx hst
              clear hdd
              generalize p.actions[k] = x at hcell hF hfl hBd hbl hnx hst hn hel
              obtain ⟨x0, x1, x2⟩ := srow3 hcell
              obtain ⟨ws, hws, hszs, hwS, hcs, -⟩ := box1 wr #[.string x.name, .slice FA x.params.length fc, .slice BA x.body.length bc] 42
              obtain ⟨v0, v1, v2⟩ := row3 hcs
              have hbs := hbr.out.trans (hwS.mono hzr)
              have ks := bcell' hbs
              have hzs : wa.heap.size ≤ ws.heap.size := hbs.size
              have zz1 : wr.heap.size < ws.heap.size := by omega
              have zz2 : w.heap.size < ws.heap.size := by omega
              have hbs' := hide hbs
              have g1 : Calls Tryz.prog 67 #[.string x.name] ws fun e w' => e = .returned (.bool (nameB x.name)) ∧ (Below ws.heap.size ws w' ∧ Below wa.heap.size wa w') := (isName03_any x.name ws).mono fun e w' h => ⟨h.1, h.2, hbs'.out.trans (h.2.mono hzs)⟩
              have g2 := hide (fun (W : World) (hs : Below ws.heap.size ws W) (hb : Below wa.heap.size wa W) => (fields04p_any x.params FA fc W (B := wa.heap.size) hb.size ((hF.below sta_fd (hb.mono (by omega))).more sta_fd (by omega))).mono (fun e w' h => (⟨h.1, hs.trans (h.2.mono hs.size), hb.trans (h.2.mono hb.size)⟩ : e = _ ∧ (Below ws.heap.size ws w' ∧ Below wa.heap.size wa w'))))
              have g3 := hide (fun (W : World) (hb : Below wa.heap.size wa W) => (mayb4_of (B := wa.heap.size) x.body (fun s _ => maySt4_all s) BA bc W 1 (by omega) hb.size ((hBd.below sta_st (hb.mono (by omega))).more sta_st (by omega))).mono (fun e w' h => (⟨h.1, hb.trans (h.2.mono hb.size)⟩ : e = _ ∧ Below wa.heap.size wa w')))
              generalize nameB x.name = y1 at g1 hnx hst
              generalize x.params.all fdB = y2 at g2 hnx hst
              generalize mayBlk x.body 1 = y3 at g3 hnx hst
              clear hcs hwS hszs hcell hel hn hF hBd hbs
              cases y1 with
              | false =>
               have hres := hide (hst.out (by simp []))
               clear hnx hst
               go_wp2_with (first | (go_at_call 67; refine g1.mono ?_; rintro e w4 ⟨rfl, hb4, hbw4⟩; have k4 := bcell' hb4; have z4a := Nat.lt_of_lt_of_le zz1 hb4.size; have z4b := Nat.lt_of_lt_of_le zz2 hb4.size) | (go_at_call 68; refine (g2.out _ hb4 hbw4).mono ?_; rintro e w5 ⟨rfl, hb5, hbw5⟩; have k5 := bcell' hb5; have z5a := Nat.lt_of_lt_of_le zz1 hb5.size; have z5b := Nat.lt_of_lt_of_le zz2 hb5.size) | (go_at_call 70; refine (g3.out _ hbw5).mono ?_; rintro e w6 ⟨rfl, hbw6⟩))
               go_ret
               exact ⟨ret_b (hv.out.trans (by rw [hAll1.out, hAll2.out, hres.out]; simp)).symm, hBk.out _ (by assumption)⟩
              | true =>
               by_cases n1b : x.params.length ≤ 8
               ·have i1b : (x.params.length : Int) ≤ 8 := by omega
                have j1b : ¬ ((8 : Int) < (x.params.length : Int)) := by omega
                cases y2 with
                | false =>
                 have hres := hide (hst.out (by simp []))
                 clear hnx hst
                 go_wp2_with (first | (go_at_call 67; refine g1.mono ?_; rintro e w4 ⟨rfl, hb4, hbw4⟩; have k4 := bcell' hb4; have z4a := Nat.lt_of_lt_of_le zz1 hb4.size; have z4b := Nat.lt_of_lt_of_le zz2 hb4.size) | (go_at_call 68; refine (g2.out _ hb4 hbw4).mono ?_; rintro e w5 ⟨rfl, hb5, hbw5⟩; have k5 := bcell' hb5; have z5a := Nat.lt_of_lt_of_le zz1 hb5.size; have z5b := Nat.lt_of_lt_of_le zz2 hb5.size) | (go_at_call 70; refine (g3.out _ hbw5).mono ?_; rintro e w6 ⟨rfl, hbw6⟩))
                 go_ret
                 exact ⟨ret_b (hv.out.trans (by rw [hAll1.out, hAll2.out, hres.out]; simp)).symm, hBk.out _ (by assumption)⟩
                | true =>
                 cases y3 with
                 | false =>
                  have hres := hide (hst.out (by simp []))
                  clear hnx hst
                  go_wp2_with (first | (go_at_call 67; refine g1.mono ?_; rintro e w4 ⟨rfl, hb4, hbw4⟩; have k4 := bcell' hb4; have z4a := Nat.lt_of_lt_of_le zz1 hb4.size; have z4b := Nat.lt_of_lt_of_le zz2 hb4.size) | (go_at_call 68; refine (g2.out _ hb4 hbw4).mono ?_; rintro e w5 ⟨rfl, hb5, hbw5⟩; have k5 := bcell' hb5; have z5a := Nat.lt_of_lt_of_le zz1 hb5.size; have z5b := Nat.lt_of_lt_of_le zz2 hb5.size) | (go_at_call 70; refine (g3.out _ hbw5).mono ?_; rintro e w6 ⟨rfl, hbw6⟩))
                  go_ret
                  exact ⟨ret_b (hv.out.trans (by rw [hAll1.out, hAll2.out, hres.out]; simp)).symm, hBk.out _ (by assumption)⟩
                 | true =>
                  have hres := hide (hnx.out (by simp [n1b]))
                  clear hnx hst
                  go_wp2_with (first | (go_at_call 67; refine g1.mono ?_; rintro e w4 ⟨rfl, hb4, hbw4⟩; have k4 := bcell' hb4; have z4a := Nat.lt_of_lt_of_le zz1 hb4.size; have z4b := Nat.lt_of_lt_of_le zz2 hb4.size) | (go_at_call 68; refine (g2.out _ hb4 hbw4).mono ?_; rintro e w5 ⟨rfl, hb5, hbw5⟩; have k5 := bcell' hb5; have z5a := Nat.lt_of_lt_of_le zz1 hb5.size; have z5b := Nat.lt_of_lt_of_le zz2 hb5.size) | (go_at_call 70; refine (g3.out _ hbw5).mono ?_; rintro e w6 ⟨rfl, hbw6⟩))
                  go_roundw
                  case rel => exact ⟨k + 1, by omega, by go_num, hres, hide (by assumption)⟩
                  case measure => simp [intOf]; omega
               ·have i1b : ¬ ((x.params.length : Int) ≤ 8) := by omega
                have j1b : (8 : Int) < (x.params.length : Int) := by omega
                have hres := hide (hst.out (by simp [n1b]))
                clear hnx hst
                go_wp2_with (first | (go_at_call 67; refine g1.mono ?_; rintro e w4 ⟨rfl, hb4, hbw4⟩; have k4 := bcell' hb4; have z4a := Nat.lt_of_lt_of_le zz1 hb4.size; have z4b := Nat.lt_of_lt_of_le zz2 hb4.size) | (go_at_call 68; refine (g2.out _ hb4 hbw4).mono ?_; rintro e w5 ⟨rfl, hb5, hbw5⟩; have k5 := bcell' hb5; have z5a := Nat.lt_of_lt_of_le zz1 hb5.size; have z5b := Nat.lt_of_lt_of_le zz2 hb5.size) | (go_at_call 70; refine (g3.out _ hbw5).mono ?_; rintro e w6 ⟨rfl, hbw6⟩))
                go_ret
                exact ⟨ret_b (hv.out.trans (by rw [hAll1.out, hAll2.out, hres.out]; simp)).symm, hBk.out _ (by assumption)⟩
             ·have hAll3 := hide (all_end hq.out hlt)
              go_wp2
              have hbp := hbr
              clear hbr hq hlt hkk hc hzr
              go_loopw [8] (fun i wr => ∃ k : Nat, k ≤ p.tables.length ∧ i = .int .i64 k ∧ Hid ((p.tables.take k).all taB = true) ∧ Hid (Below wa.heap.size wa wr)) (fun i _ => p.tables.length - (intOf i).toNat)
              case atStart => exact ⟨0, Nat.zero_le _, rfl, hide (by simp), hbp⟩
              case round =>
               clear hbp
               obtain ⟨k, hkk, rfl, hq, hbr⟩ := hrel
               have hc := bcell' hbr.out
               have hzr := hbr.out.size
               by_cases hlt : k < p.tables.length
               ·have hltz : (k : Int) < (p.tables.length : Int) := by omega
                have hnx := hide (fun h => all_next (p := taB) hlt hq.out h)
                have hst := hide (fun h => all_stop (p := taB) hlt h)
                obtain ⟨b, o, ecs, hA, hb, hel, hcell, hr⟩ := (hP.out.tables).2 k _ (List.getElem?_eq_getElem hlt)
                subst hA
                have hbw : b < wa.heap.size := by omega
                obtain ⟨a0, a1, a2, a3, a4, hecs⟩ := ta_cells hr
                have hX0 := mayTable04_any p.tables[k] ecs wr (show B ≤ wr.heap.size by omega) (sta_ta.keep hr fun q hq => hbr.out.cell (Nat.lt_of_lt_of_le hq (by omega)))
                subst hecs
                obtain ⟨x0, x1, x2, x3, x4⟩ := srow5 hcell
                clear hcell hel hr
                generalize taB p.tables[k] = z at hX0 hnx hst
                have hX : Calls Tryz.prog 71 #[.agg #[a0, a1, a2, a3, a4]] wr fun r w' => r = .returned (.bool z) ∧ Below wr.heap.size wr w' := hX0
                clear hX0
                cases z with
                | false =>
                 have hres := hst.out rfl
                 clear hnx hst
                 replace hres := hide hres
                 go_wp2_with (go_at_call 71; refine hX.mono ?_; rintro e w2 ⟨rfl, hb2⟩)
                 go_ret
                 exact ⟨ret_b (hv.out.trans (by rw [hAll1.out, hAll2.out, hAll3.out, hres.out]; simp)).symm, hBk.out _ (hbr.out.trans (hb2.mono hzr))⟩
                | true =>
                 have hres := hide (hnx.out rfl)
                 clear hnx hst
                 go_wp2_with (go_at_call 71; refine hX.mono ?_; rintro e w2 ⟨rfl, hb2⟩)
                 go_roundw
                 case rel => exact ⟨k + 1, by omega, by go_num, hres, hide (hbr.out.trans (hb2.mono hzr))⟩
                 case measure => simp [intOf]; omega
               ·have hAll4 := hide (all_end hq.out hlt)
                go_wp2_with fail
                have hbp := hbr
                clear hbr hq hlt hkk hc hzr
                have hb8 := hbp.out
                have k8 := bcell' hb8
                have zz8 := Nat.lt_of_lt_of_le hl0 hb8.size
                clear hP hbp
                have hv9 := hide (hv.out.trans (by rw [hAll1.out, hAll2.out, hAll3.out, hAll4.out, Bool.true_and, Bool.true_and, Bool.true_and, Bool.true_and]) : mayP p = (z5 && (z6 && z7)))
                clear hv
                cases z5 with
                | false =>
                 go_wp2_with (first | (go_at_call 68; first | (with_reducible refine (q5.out _ (by assumption)).mono ?_; rintro e w1 ⟨rfl, hb5⟩; have khb5 := bcell' hb5)) | (go_at_call 70; first | (with_reducible refine (q6.out _ (by assumption)).mono ?_; rintro e w1 ⟨rfl, hb6⟩; have khb6 := bcell' hb6)) | (go_at_call 72; first | (with_reducible refine (q7.out _ (by assumption)).mono ?_; rintro e w1 ⟨rfl, hb7⟩; have khb7 := bcell' hb7)))
                 go_ret
                 exact ⟨ret_b hv9.out.symm, hBk.out _ (by assumption)⟩
                | true =>
                 cases z6 with
                 | false =>
                  go_wp2_with (first | (go_at_call 68; first | (with_reducible refine (q5.out _ (by assumption)).mono ?_; rintro e w1 ⟨rfl, hb5⟩; have khb5 := bcell' hb5)) | (go_at_call 70; first | (with_reducible refine (q6.out _ (by assumption)).mono ?_; rintro e w1 ⟨rfl, hb6⟩; have khb6 := bcell' hb6)) | (go_at_call 72; first | (with_reducible refine (q7.out _ (by assumption)).mono ?_; rintro e w1 ⟨rfl, hb7⟩; have khb7 := bcell' hb7)))
                  go_ret
                  exact ⟨ret_b hv9.out.symm, hBk.out _ (by assumption)⟩
                 | true =>
                  cases z7 with
                  | false =>
                   go_wp2_with (first | (go_at_call 68; first | (with_reducible refine (q5.out _ (by assumption)).mono ?_; rintro e w1 ⟨rfl, hb5⟩; have khb5 := bcell' hb5)) | (go_at_call 70; first | (with_reducible refine (q6.out _ (by assumption)).mono ?_; rintro e w1 ⟨rfl, hb6⟩; have khb6 := bcell' hb6)) | (go_at_call 72; first | (with_reducible refine (q7.out _ (by assumption)).mono ?_; rintro e w1 ⟨rfl, hb7⟩; have khb7 := bcell' hb7)))
                   go_ret
                   exact ⟨ret_b hv9.out.symm, hBk.out _ (by assumption)⟩
                  | true =>
                   go_wp2_with (first | (go_at_call 68; first | (with_reducible refine (q5.out _ (by assumption)).mono ?_; rintro e w1 ⟨rfl, hb5⟩; have khb5 := bcell' hb5)) | (go_at_call 70; first | (with_reducible refine (q6.out _ (by assumption)).mono ?_; rintro e w1 ⟨rfl, hb6⟩; have khb6 := bcell' hb6)) | (go_at_call 72; first | (with_reducible refine (q7.out _ (by assumption)).mono ?_; rintro e w1 ⟨rfl, hb7⟩; have khb7 := bcell' hb7)))
                   go_ret
                   exact ⟨ret_b hv9.out.symm, hBk.out _ (by assumption)⟩
       ·rw [decide_eq_false n6, Bool.false_and] at hv0
        have i6 : ¬ ((p.emit.length : Int) ≤ 8) := by omega
        have j6 : (8 : Int) < (p.emit.length : Int) := by omega
        have hv := hide hv0
        clear hv0
        go_wp2_with (first | fail)
        go_ret
        exact ⟨ret_b hv.out.symm, hBk.out _ (by assumption)⟩
      ·rw [decide_eq_false n5, Bool.false_and] at hv0
       have i5 : ¬ ((p.tables.length : Int) ≤ 8) := by omega
       have j5 : (8 : Int) < (p.tables.length : Int) := by omega
       have hv := hide hv0
       clear hv0
       go_wp2_with (first | fail)
       go_ret
       exact ⟨ret_b hv.out.symm, hBk.out _ (by assumption)⟩
     ·rw [decide_eq_false n4, Bool.false_and] at hv0
      have i4 : ¬ ((p.actions.length : Int) ≤ 16) := by omega
      have j4 : (16 : Int) < (p.actions.length : Int) := by omega
      have hv := hide hv0
      clear hv0
      go_wp2_with (first | fail)
      go_ret
      exact ⟨ret_b hv.out.symm, hBk.out _ (by assumption)⟩
    ·rw [decide_eq_false n3, Bool.false_and] at hv0
     have i3 : ¬ ((p.states.length : Int) ≤ 16) := by omega
     have j3 : (16 : Int) < (p.states.length : Int) := by omega
     have hv := hide hv0
     clear hv0
     go_wp2_with (first | fail)
     go_ret
     exact ⟨ret_b hv.out.symm, hBk.out _ (by assumption)⟩
   ·rw [decide_eq_false n2, Bool.false_and] at hv0
    have i2 : ¬ (1 ≤ (p.states.length : Int)) := by omega
    have j2 : (p.states.length : Int) < 1 := by omega
    have hv := hide hv0
    clear hv0
    go_wp2_with (first | fail)
    go_ret
    exact ⟨ret_b hv.out.symm, hBk.out _ (by assumption)⟩
  ·rw [decide_eq_false n1, Bool.false_and] at hv0
   have i1 : ¬ ((p.metas.length : Int) ≤ 16) := by omega
   have j1 : (16 : Int) < (p.metas.length : Int) := by omega
   have hv := hide hv0
   clear hv0
   go_wp2_with (first | fail)
   go_ret
   exact ⟨ret_b hv.out.symm, hBk.out _ (by assumption)⟩
 ·rw [decide_eq_false n0, Bool.false_and] at hv0
  have i0 : ¬ ((p.headers.length : Int) ≤ 8) := by omega
  have j0 : (8 : Int) < (p.headers.length : Int) := by omega
  have hv := hide hv0
  clear hv0
  go_wp2_with (first | fail)
  go_ret
  exact ⟨ret_b hv.out.symm, hBk.out _ (by assumption)⟩
end Go.Proofs.YtcgmkjpgaigmfaaGreat

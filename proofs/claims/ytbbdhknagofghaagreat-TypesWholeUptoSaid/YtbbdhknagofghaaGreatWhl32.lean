import Derived.Test.YtbbdhknagofghaaGreatWhl30
import Derived.Test.YtbbdhknagofghaaGreatWhl31
import Derived.Test.YtbbdhknagofghaaGreatWhl04
set_option linter.all false
/-! Printed by gen_typu.py. Layer 8: item at a state's case. -/
namespace Go.Proofs.YtbbdhknagofghaaGreat
open Go.RowKit
set_option maxRecDepth 100000 in
set_option maxHeartbeats 16000000 in
theorem titem_case (A1 A2 A3 A4 A5 A6 A7 : Option Addr) (p : Pg) (c1 c2 c3 c4 c5 c6 c7 : Nat) (B : Nat) (hm : mayP p = true) (i : Nat) (hi : i < p.states.length) (j : Nat) (hj : j < p.states[i].cases_.length) (hks : ∀ e ∈ p.states[i].keys, allE e = true) (hkeys : ∀ e ∈ p.states[i].keys, keyR p e = .ok ()) (hlen : p.states[i].cases_[j].sets.length ≤ p.states[i].keys.length) (s0 s1 s2 s3 s4 s5 s6 s7 s8 s9 s10 s11 s12 s13 : Value) (w : World) (hB : B ≤ w.heap.size) (hP : PgS w B A1 A2 A3 A4 A5 A6 A7 p) :
  Calls Tryz.prog 21 #[.agg #[.slice A1 p.headers.length c1, .slice A2 p.metas.length c2, .slice A3 p.states.length c3, .slice A4 p.actions.length c4, .slice A5 p.tables.length c5, .slice A6 p.control.length c6, .slice A7 p.emit.length c7], .agg #[.int .u8 7, .int .i64 (i : Int), .int .i64 (j : Int), s0, s1, s2, s3, s4, s5, s6, s7, s8, s9, s10, s11, s12, s13]] w fun z7 w' => z7 = endU (firstE (setR p) (p.states[i].cases_[j].sets.zip p.states[i].keys)) ∧ Below w.heap.size w w' := by
 obtain ⟨wu, hwu, hsu, hbu, hcu, hfu⟩ := box1 w #[.slice A1 p.headers.length c1, .slice A2 p.metas.length c2, .slice A3 p.states.length c3, .slice A4 p.actions.length c4, .slice A5 p.tables.length c5, .slice A6 p.control.length c6, .slice A7 p.emit.length c7] 30
 obtain ⟨wx, hwx, hsx, hbx, hcx, hfx⟩ := box1 wu #[.int .u8 7, .int .i64 (i : Int), .int .i64 (j : Int), s0, s1, s2, s3, s4, s5, s6, s7, s8, s9, s10, s11, s12, s13] 49
 have hEx : Below wx.heap.size wx wx := Below.refl _ _
 have hEu : Below wu.heap.size wu wx := hbx.trans (hEx.mono (by omega))
 have hw := hide (hbu.trans (hEu.mono (by omega)))
 have cu := fun i => (hEu.cell (p := ⟨w.heap.size, i, none⟩) (by show w.heap.size < _; omega)).trans (hcu i)
 have cx := fun i => (hEx.cell (p := ⟨wu.heap.size, i, none⟩) (by show wu.heap.size < _; omega)).trans (hcx i)
 have hfr := hfx
 simp only [hsu] at cx hfr
 obtain ⟨u0, u1, u2, u3, u4, u5, u6⟩ := row7 cu
 obtain ⟨x0, x1, x2, x3, x4, x5, x6, x7, x8, x9, x10, x11, x12, x13, x14, x15, x16⟩ := row17 cx
 have hl1 : w.heap.size < wx.heap.size := by omega
 have hl2 : w.heap.size + 1 < wx.heap.size := by omega
 clear cu hcu hbu hfu cx hcx hbx hfx hEu hEx
 replace hsx := hide hsx
 obtain ⟨wv, hwv, hsv, hbv, hcv, -⟩ := box1 wx #[.slice A1 p.headers.length c1, .slice A2 p.metas.length c2, .slice A3 p.states.length c3, .slice A4 p.actions.length c4, .slice A5 p.tables.length c5, .slice A6 p.control.length c6, .slice A7 p.emit.length c7, .int .i64 (-1)] 88
 obtain ⟨v0, v1, v2, v3, v4, v5, v6, v7⟩ := row8 hcv
 have kv := bcell' hbv
 have hl3 : wx.heap.size < wv.heap.size := by omega
 have m1 := Nat.lt_of_lt_of_le hl1 hbv.size
 have m2 := Nat.lt_of_lt_of_le hl2 hbv.size
 replace hw := hide (hw.out.trans (hbv.mono (by omega)))
 clear hcv
 replace hsv := hide hsv
 have hBv : B ≤ wv.heap.size := by omega
 have hPz := hide (hP.below (hw.out.mono hB))
 clear hP
 have hX0 : ∀ e ∈ p.states[i].keys, ∀ (ecs : List Value) (W : World), Below wv.heap.size wv W → rEx wv B ecs e → Calls Tryz.prog 29 #[.agg #[.slice A1 p.headers.length c1, .slice A2 p.metas.length c2, .slice A3 p.states.length c3, .slice A4 p.actions.length c4, .slice A5 p.tables.length c5, .slice A6 p.control.length c6, .slice A7 p.emit.length c7, .int .i64 (-1)], .agg ecs.toArray] W fun r w' => r = endR (ofR p (-1) e) ∧ Below W.heap.size W w' :=
  fun e he ecs W hb hr => tof_any A1 A2 A3 A4 A5 A6 A7 p c1 c2 c3 c4 c5 c6 c7 (-1) B hm e (hks e he) ecs W (Nat.le_trans hBv hb.size) (hPz.out.below (hb.mono hBv)) (sta_ex.keep hr fun q hq => (hb.mono hBv).cell hq)
 have hok : ∀ e ∈ p.states[i].keys, ∃ n : Nat, 1 ≤ n ∧ n ≤ 128 ∧ ofR p (-1) e = .ok ⟨(n : Int), false, false⟩ := fun e he => by
  have h1 := hkeys e he
  unfold keyR at h1
  cases h2 : ofR p (-1) e with
  | error n => rw [h2] at h1; cases h1
  | ok t =>
   have h3 := ofR_ok hm (-1) e (hks e he) t h2
   obtain ⟨tw, tr, tf⟩ := t
   rw [h2] at h1
   cases tr with
   | true => cases h1
   | false =>
    cases tf with
    | true => cases h1
    | false =>
     have h4 := h3.2 rfl rfl
     simp only at h4
     exact ⟨tw.toNat, by omega, by omega, by rw [show ((tw.toNat : Nat) : Int) = tw from by omega]⟩
 obtain ⟨g0, o0, ecs, hA, hb, hel, hcell, B1, d1, B2, d2, B3, d3, hf, hn1, hn2, hS1, hS2, hS3⟩ := hPz.out.states.2 i _ (List.getElem?_eq_getElem hi)
 have lm := hPz.out.states.len
 have lk := hS2.len
 have lc := hS3.len
 subst hA
 subst hf
 obtain ⟨y0, y1, y2, y3, y4⟩ := srow5 hcell
 obtain ⟨g1, o1, ecs1, hA1, hb1, hel1, hcell1, P1, e1, hf1, -, hQ⟩ := hS3.2 j _ (List.getElem?_eq_getElem hj)
 subst hA1
 subst hf1
 obtain ⟨z0, z1, z2⟩ := srow3 hcell1
 have ls := hQ.len
 have hbw : g0 < wv.heap.size := by omega
 have hbw1 : g1 < wv.heap.size := by omega
 have hil : (i : Int) < (p.states.length : Int) := by omega
 have hjl : (j : Int) < (p.states[i].cases_.length : Int) := by omega
 replace hX0 := hide hX0
 clear hcell hel hcell1 hel1 hS1 hS3 hks hkeys hPz hn1 hn2
 generalize p.states[i].cases_[j].sets = sets at *
 generalize p.states[i].cases_[j].dflt = cd at *
 generalize p.states[i].cases_[j].dest = cdest at *
 generalize p.states[i].keys = keys at *
 generalize p.states[i].cases_.length = ncas at *
 generalize p.states[i].takes.length = ntak at *
 generalize p.states[i].name = sname at *
 generalize p.states[i].dest = sdest at *
 obtain ⟨wt, hwt, hst, hbt, hct, -⟩ := box1 wv #[.string sname, .slice B1 ntak d1, .string sdest, .slice B2 keys.length d2, .slice (some ⟨g1, o1, none⟩) ncas d3] 61
 obtain ⟨t0, t1, t2, t3, t4⟩ := row5 hct
 have kt := bcell' hbt
 have n1 := Nat.lt_of_lt_of_le m1 hbt.size
 have n2 := Nat.lt_of_lt_of_le m2 hbt.size
 have n3 := Nat.lt_of_lt_of_le hl3 hbt.size
 have n4 : wv.heap.size < wt.heap.size := by omega
 have n5 := Nat.lt_of_lt_of_le hbw1 hbt.size
 have hsw : wv.heap.size ≤ wt.heap.size := by omega
 clear hct
 replace hst := hide hst
 replace hS2 := hide hS2
 replace hQ := hide hQ
 have hs0 := hide (Below.refl wt.heap.size wt)
 go_enter Tryz.func21, Tryz.ntmps21
 go_wp2_with fail
 go_loopw [56] (fun q wr => ∃ q' : Nat, q' ≤ sets.length ∧ q = .int .i64 q' ∧ Hid (firstE (setR p) ((sets.zip keys).take q') = .ok ()) ∧ Hid (Below wt.heap.size wt wr)) (fun q _ => sets.length - (intOf q).toNat)
 case atStart => exact ⟨0, Nat.zero_le _, rfl, hide (by simp [firstE]), hs0⟩
 case round =>
  clear hs0
  obtain ⟨q, hq, rfl, ht, hbr⟩ := hrel
  have hzr := hbr.out.size
  have hc := bcell' hbr.out
  have r1 := Nat.lt_of_lt_of_le n1 hzr
  have r2 := Nat.lt_of_lt_of_le n2 hzr
  have r3 := Nat.lt_of_lt_of_le n3 hzr
  have r4 := Nat.lt_of_lt_of_le n4 hzr
  have r5 := Nat.lt_of_lt_of_le n5 hzr
  by_cases hlt : q < sets.length
  ·have hltk : q < keys.length := by omega
   have hltt : q < (sets.zip keys).length := by rw [List.length_zip]; omega
   obtain ⟨g3, o3, ecs3, hA3, hb3', hel3, hcell3, hf3, -, hokv, hokm⟩ := hQ.out.2 q _ (List.getElem?_eq_getElem hlt)
   obtain ⟨g4, o4, ecs4, hA4, hb4', hel4, hcell4, hr4⟩ := hS2.out.2 q _ (List.getElem?_eq_getElem hltk)
   subst hA3
   subst hA4
   obtain ⟨n, h1, h2, hn⟩ := hok _ (List.getElem_mem hltk)
   have hltz : (q : Int) < (sets.length : Int) := by omega
   have hltz2 : (q : Int) < (keys.length : Int) := by omega
   have hst := hide (fun n h => firstE_stop (f := setR p) (n := n) hltt ht.out h)
   have hnx := hide (fun h => firstE_next (f := setR p) hltt ht.out h)
   rw [List.getElem_zip] at hst hnx
   have hX1 := hide (fun (W : World) (hW : Below wv.heap.size wv W) => hX0.out _ (List.getElem_mem hltk) ecs4 W hW hr4)
   have hkr := hide (show setR p (sets[q], keys[q]) = if sets[q].kind = 1 then .ok () else match litR sets[q].v (n : Int) with | .error n => .error n | .ok _ => if sets[q].kind = 3 then litR sets[q].m (n : Int) else .ok () from by unfold setR; simp only [hn]; split <;> first | rfl | (cases litR sets[q].v (n : Int) <;> rfl))
   rw [hn] at hX1
   generalize setR p (sets[q], keys[q]) = kr at hst hnx hkr
   generalize keys[q] = e at hr4
   generalize sets[q] = set at hf3 hokv hokm hkr
   obtain ⟨sk, sv, sm⟩ := set
   simp only at hf3 hokv hokm hkr
   subst hf3
   have hV := hide (fun (W : World) => tlit_any sv n h1 h2 hokv W)
   have hM := hide (fun (W : World) => tlit_any sm n h1 h2 hokm W)
   generalize litR sv (n : Int) = rv at hV hkr
   generalize litR sm (n : Int) = rm at hM hkr
   obtain ⟨ope, lite, heade, namee, hie, loe, argse⟩ := e
   obtain ⟨Ae, cape, rfl, -, -, -, -, -, -, hs'⟩ := RE.inv hr4
   have hl' := hs'.len
   obtain ⟨l0, l1, l2, l3, l4, l5, l6, l7, l8⟩ := srow9 hcell4
   obtain ⟨b0, b1, b2, b3, b4, b5, b6⟩ := srow7 hcell3
   obtain ⟨wy, hwy, hzy, hby, hcy, -⟩ := box1 wr #[.int .u8 sk, .int .i64 sv.1, .int .u64 sv.2.1, .int .u64 sv.2.2, .int .i64 sm.1, .int .u64 sm.2.1, .int .u64 sm.2.2] 97
   obtain ⟨y0', y1', y2', y3', y4', y5', y6'⟩ := row7 hcy
   have hbX := hbr.out.trans (hby.mono hzr)
   have hc2 := bcell' hbX
   have q1 := Nat.lt_of_lt_of_le n1 hbX.size
   have q2 := Nat.lt_of_lt_of_le n2 hbX.size
   have q3 := Nat.lt_of_lt_of_le n3 hbX.size
   have q4 := Nat.lt_of_lt_of_le n4 hbX.size
   have q5 : wr.heap.size < wy.heap.size := by omega
   have f3 : g3 < wv.heap.size := by omega
   have f4 : g4 < wv.heap.size := by omega
   have f5 := Nat.lt_of_lt_of_le f3 hsw
   have f6 := Nat.lt_of_lt_of_le f4 hsw
   have f7 := Nat.lt_of_lt_of_le f4 (Nat.le_trans hsw hbX.size)
   have f8 := Nat.lt_of_lt_of_le f3 (Nat.le_trans hsw hzr)
   have hfs : ∀ W : World, (Instr.field 75 (.agg #[.int .i64 (n : Int), .bool false, .bool false]) 0).run Tryz.prog W = .ok (.int .i64 (n : Int)) W := fun _ => by kernel_rfl
   have hX2 : Hid (∀ W, Below wv.heap.size wv W → Calls Tryz.prog 29 #[.agg #[.slice A1 p.headers.length c1, .slice A2 p.metas.length c2, .slice (some ⟨g0, o0, none⟩) p.states.length c3, .slice A4 p.actions.length c4, .slice A5 p.tables.length c5, .slice A6 p.control.length c6, .slice A7 p.emit.length c7, .int .i64 (-1)], .agg #[.int .u8 ope, .int .i64 lite.1, .int .u64 lite.2.1, .int .u64 lite.2.2, .string heade, .string namee, .int .i64 hie, .int .i64 loe, .slice Ae argse.length cape]] W fun e w' => e = .returned (.agg #[.int .i64 (n : Int), .bool false, .bool false]) ∧ Below W.heap.size W w') := hX1
   replace hbX := hide hbX
   clear hcell3 hcell4 hokv hokm hr4 hs' hX1 hel3 hel4 hcy hby hn
   replace hzy := hide hzy
   have hg := gcell' (Below.refl wy.heap.size wy) (Nat.le_refl _)
   go_wp2_with fail
   refine wp_region_quiet_tail 6 (by kernel_rfl) (by kernel_rfl) ?_
   simp only [List.take_succ_cons, List.take_zero, List.drop_succ_cons, List.drop_zero]
   repeat (any_goals (first | go_big_quiet_step (fail) | quiet_step (fail)))
   refine wpQuiet_nil ?_
   intro w3 hw3
   have hX := hide (hX2.out w3 (hbt.trans ((hbX.out.trans (hw3.mono hbX.out.size)).mono hsw)))
   clear hg hX2
   by_cases c1 : sk = 1
   ·have hres := hide (hnx.out (hkr.out.trans (if_pos c1)))
    clear hnx hst hkr hV hM
    subst c1
    go_wp2_with (go_at_call 29; refine hX.out.mono ?_; rintro e w4 ⟨rfl, hw4⟩; have hb4 := hw3.trans (hw4.mono hw3.size); have kw4 := bcell' hb4; have u1 := Nat.lt_of_lt_of_le q5 hb4.size)
    go_roundw
    case rel => exact ⟨q + 1, by omega, by go_num, hres, hide ((hbX.out.trans (hw3.mono hbX.out.size)).trans (hw4.mono (hbX.out.trans (hw3.mono hbX.out.size)).size))⟩
    case measure => simp [intOf]; omega
   ·have c1q : (sk != 1) = true := bne_iff_ne.2 c1
    replace hkr := hide (hkr.out.trans (if_neg c1))
    cases rv with
    | error n7 =>
     have hres := hide (hst.out n7 hkr.out)
     have hV1 := hide (fun W => (show Calls Tryz.prog _ _ W fun e w' => e = noE n7 ∧ Below W.heap.size W w' from hV.out W))
     clear hnx hst hV hM
     go_wp2_with (first | (go_at_call 29; refine hX.out.mono ?_; rintro e w4 ⟨rfl, hw4⟩; have hb4 := hw3.trans (hw4.mono hw3.size); have kw4 := bcell' hb4; have u1 := Nat.lt_of_lt_of_le q5 hb4.size) | (go_at_call 36; with_reducible refine (hV1.out _).mono ?_; rintro e w5 ⟨rfl, hw5⟩))
     exact ⟨rfl, by rw [hres.out]; rfl, hw.out.trans ((hbt.trans ((((hbX.out.trans (hw3.mono hbX.out.size)).trans (hw4.mono (hbX.out.trans (hw3.mono hbX.out.size)).size)).trans (hw5.mono ((hbX.out.trans (hw3.mono hbX.out.size)).trans (hw4.mono (hbX.out.trans (hw3.mono hbX.out.size)).size)).size)).mono hsw)).mono (by omega))⟩
    | ok _ =>
     have hV1 := hide (fun W => (show Calls Tryz.prog _ _ W fun e w' => e = .returned (.tuple #[]) ∧ Below W.heap.size W w' from hV.out W))
     clear hV
     by_cases c3 : sk = 3
     ·replace hkr := hide (hkr.out.trans (if_pos c3))
      subst c3
      cases rm with
      | error n7 =>
       have hres := hide (hst.out n7 hkr.out)
       have hM1 := hide (fun W => (show Calls Tryz.prog _ _ W fun e w' => e = noE n7 ∧ Below W.heap.size W w' from hM.out W))
       clear hnx hst hM
       go_wp2_with (first | (go_at_call 29; refine hX.out.mono ?_; rintro e w4 ⟨rfl, hw4⟩; have hb4 := hw3.trans (hw4.mono hw3.size); have kw4 := bcell' hb4; have u1 := Nat.lt_of_lt_of_le q5 hb4.size) | (go_at_call 36; with_reducible refine (hV1.out _).mono ?_; rintro e w5 ⟨rfl, hw5⟩; have hb5 := hb4.trans (hw5.mono hb4.size); have kw5 := bcell' hb5; have u2 := Nat.lt_of_lt_of_le q5 hb5.size) | (go_at_call 36; with_reducible refine (hM1.out _).mono ?_; rintro e w6 ⟨rfl, hw6⟩))
       exact ⟨rfl, by rw [hres.out]; rfl, hw.out.trans ((hbt.trans (((((hbX.out.trans (hw3.mono hbX.out.size)).trans (hw4.mono (hbX.out.trans (hw3.mono hbX.out.size)).size)).trans (hw5.mono ((hbX.out.trans (hw3.mono hbX.out.size)).trans (hw4.mono (hbX.out.trans (hw3.mono hbX.out.size)).size)).size)).trans (hw6.mono (((hbX.out.trans (hw3.mono hbX.out.size)).trans (hw4.mono (hbX.out.trans (hw3.mono hbX.out.size)).size)).trans (hw5.mono ((hbX.out.trans (hw3.mono hbX.out.size)).trans (hw4.mono (hbX.out.trans (hw3.mono hbX.out.size)).size)).size)).size)).mono hsw)).mono (by omega))⟩
      | ok _ =>
       have hres := hide (hnx.out hkr.out)
       have hM1 := hide (fun W => (show Calls Tryz.prog _ _ W fun e w' => e = .returned (.tuple #[]) ∧ Below W.heap.size W w' from hM.out W))
       clear hnx hst hM
       go_wp2_with (first | (go_at_call 29; refine hX.out.mono ?_; rintro e w4 ⟨rfl, hw4⟩; have hb4 := hw3.trans (hw4.mono hw3.size); have kw4 := bcell' hb4; have u1 := Nat.lt_of_lt_of_le q5 hb4.size) | (go_at_call 36; with_reducible refine (hV1.out _).mono ?_; rintro e w5 ⟨rfl, hw5⟩; have hb5 := hb4.trans (hw5.mono hb4.size); have kw5 := bcell' hb5; have u2 := Nat.lt_of_lt_of_le q5 hb5.size) | (go_at_call 36; with_reducible refine (hM1.out _).mono ?_; rintro e w6 ⟨rfl, hw6⟩))
       go_roundw
       case rel => exact ⟨q + 1, by omega, by go_num, hres, hide ((((hbX.out.trans (hw3.mono hbX.out.size)).trans (hw4.mono (hbX.out.trans (hw3.mono hbX.out.size)).size)).trans (hw5.mono ((hbX.out.trans (hw3.mono hbX.out.size)).trans (hw4.mono (hbX.out.trans (hw3.mono hbX.out.size)).size)).size)).trans (hw6.mono (((hbX.out.trans (hw3.mono hbX.out.size)).trans (hw4.mono (hbX.out.trans (hw3.mono hbX.out.size)).size)).trans (hw5.mono ((hbX.out.trans (hw3.mono hbX.out.size)).trans (hw4.mono (hbX.out.trans (hw3.mono hbX.out.size)).size)).size)).size))⟩
       case measure => simp [intOf]; omega
     ·have c3q : (sk == 3) = false := beq_eq_false_iff_ne.2 c3
      have hres := hide (hnx.out (hkr.out.trans (if_neg c3)))
      clear hnx hst hM
      go_wp2_with (first | (go_at_call 29; refine hX.out.mono ?_; rintro e w4 ⟨rfl, hw4⟩; have hb4 := hw3.trans (hw4.mono hw3.size); have kw4 := bcell' hb4; have u1 := Nat.lt_of_lt_of_le q5 hb4.size) | (go_at_call 36; with_reducible refine (hV1.out _).mono ?_; rintro e w5 ⟨rfl, hw5⟩; have hb5 := hb4.trans (hw5.mono hb4.size); have kw5 := bcell' hb5; have u2 := Nat.lt_of_lt_of_le q5 hb5.size))
      go_roundw
      case rel => exact ⟨q + 1, by omega, by go_num, hres, hide (((hbX.out.trans (hw3.mono hbX.out.size)).trans (hw4.mono (hbX.out.trans (hw3.mono hbX.out.size)).size)).trans (hw5.mono ((hbX.out.trans (hw3.mono hbX.out.size)).trans (hw4.mono (hbX.out.trans (hw3.mono hbX.out.size)).size)).size))⟩
      case measure => simp [intOf]; omega
  ·have hfull := hide (show firstE (setR p) (sets.zip keys) = .ok () from by have h := ht.out; rwa [List.take_of_length_le (l := sets.zip keys) (by rw [List.length_zip]; omega)] at h)
   go_wp2
   (try simp only [Exit.inBlock, Exit.then])
   refine bodyPost_end (results_none rfl _ _ _) rfl ?_
   exact ⟨by rw [hfull.out]; rfl, hw.out.trans ((hbt.trans (hbr.out.mono hsw)).mono (by omega))⟩
end Go.Proofs.YtbbdhknagofghaaGreat
/-! Layer 8: item at any item whose places are there. -/
namespace Go.Proofs.YtbbdhknagofghaaGreat
open Go.RowKit
def itemR (p : Pg) (x : It) : Rs Unit :=
 if x.kind = 6 then (p.states[x.a.toNat]?).elim (.ok ()) fun s => firstE (keyR p) s.keys
 else if x.kind = 7 then (p.states[x.a.toNat]?).elim (.ok ()) fun s => (s.cases_[x.b.toNat]?).elim (.ok ()) fun c => firstE (setR p) (c.sets.zip s.keys)
 else if x.kind = 10 then stR p x.a x.s
 else if x.kind = 12 then (p.tables[x.a.toNat]?).elim (.ok ()) fun t => (t.keys[x.b.toNat]?).elim (.ok ()) fun k => tabKeyR p t.keys x.b.toNat k
 else if x.kind = 14 then (p.tables[x.a.toNat]?).elim (.ok ()) fun t => (p.actions[(actionI p t.dname).toNat]?).elim (.ok ()) fun a => firstE argR (a.params.zip t.dargs)
 else .ok ()
/-- What an item speaks of is there. -/
structure ItOk (p : Pg) (x : It) : Prop where
 next : x.kind = 6 → ∃ (i : Nat) (hi : i < p.states.length), x.a = (i : Int) ∧ ∀ e ∈ p.states[i].keys, allE e = true
 case_ : x.kind = 7 → ∃ (i : Nat) (hi : i < p.states.length) (j : Nat) (hj : j < p.states[i].cases_.length), x.a = (i : Int) ∧ x.b = (j : Int) ∧ (∀ e ∈ p.states[i].keys, allE e = true) ∧ (∀ e ∈ p.states[i].keys, keyR p e = .ok ()) ∧ p.states[i].cases_[j].sets.length ≤ p.states[i].keys.length
 stmt : x.kind = 10 → ∀ kind head name e thn els, x.s = .mk kind head name e thn els → (kind = 1 ∨ kind = 2 ∨ kind = 5 → allE e = true) ∧ (kind = 1 → setB p head name)
 key : x.kind = 12 → ∃ (i : Nat) (hi : i < p.tables.length) (j : Nat) (hj : j < p.tables[i].keys.length), x.a = (i : Int) ∧ x.b = (j : Int) ∧ allE p.tables[i].keys[j].e = true
 dflt : x.kind = 14 → ∃ (i : Nat) (hi : i < p.tables.length) (k : Nat) (hk : k < p.actions.length), x.a = (i : Int) ∧ actionI p p.tables[i].dname = (k : Int) ∧ p.actions[k].params.length = p.tables[i].dargs.length
theorem titem_any (A1 A2 A3 A4 A5 A6 A7 : Option Addr) (p : Pg) (c1 c2 c3 c4 c5 c6 c7 : Nat) (B : Nat) (hm : mayP p = true) (x : It) (hx : ItOk p x) (cs : List Value) (w : World) (hB : B ≤ w.heap.size) (hP : PgS w B A1 A2 A3 A4 A5 A6 A7 p) (hcap : KCap w A5 p) (h : rIt w B cs x) :
  Calls Tryz.prog 21 #[.agg #[.slice A1 p.headers.length c1, .slice A2 p.metas.length c2, .slice A3 p.states.length c3, .slice A4 p.actions.length c4, .slice A5 p.tables.length c5, .slice A6 p.control.length c6, .slice A7 p.emit.length c7], .agg cs.toArray] w fun z7 w' => z7 = endU (itemR p x) ∧ Below w.heap.size w w' := by
 obtain ⟨scs, rfl, hst⟩ := h
 obtain ⟨s0, s1, s2, s3, s4, s5, s6, s7, s8, s9, s10, s11, s12, s13, rfl⟩ := rSt_form hst
 obtain ⟨k, a, b, st⟩ := x
 obtain ⟨g6, g7, g10, g12, g14⟩ := hx
 simp only at g6 g7 g10 g12 g14 hst
 by_cases h6 : k = 6
 ·subst h6
  obtain ⟨i, hi, rfl, hks⟩ := g6 rfl
  rw [show itemR p ⟨6, (i : Int), b, st⟩ = firstE (keyR p) p.states[i].keys from by simp [itemR, List.getElem?_eq_getElem hi]]
  exact titem_next A1 A2 A3 A4 A5 A6 A7 p c1 c2 c3 c4 c5 c6 c7 B hm i hi hks b s0 s1 s2 s3 s4 s5 s6 s7 s8 s9 s10 s11 s12 s13 w hB hP
 by_cases h7 : k = 7
 ·subst h7
  obtain ⟨i, hi, j, hj, rfl, rfl, hks, hkeys, hlen⟩ := g7 rfl
  rw [show itemR p ⟨7, (i : Int), (j : Int), st⟩ = firstE (setR p) (p.states[i].cases_[j].sets.zip p.states[i].keys) from by simp [itemR, List.getElem?_eq_getElem hi, List.getElem?_eq_getElem hj]]
  exact titem_case A1 A2 A3 A4 A5 A6 A7 p c1 c2 c3 c4 c5 c6 c7 B hm i hi j hj hks hkeys hlen s0 s1 s2 s3 s4 s5 s6 s7 s8 s9 s10 s11 s12 s13 w hB hP
 by_cases h10 : k = 10
 ·subst h10
  rw [show itemR p ⟨10, a, b, st⟩ = stR p a st from by simp [itemR]]
  exact titem_stmt A1 A2 A3 A4 A5 A6 A7 p c1 c2 c3 c4 c5 c6 c7 B hm a b st (g10 rfl) s0 s1 s2 s3 s4 s5 s6 s7 s8 s9 s10 s11 s12 s13 w hB hP hst
 by_cases h12 : k = 12
 ·subst h12
  obtain ⟨i, hi, j, hj, rfl, rfl, hek⟩ := g12 rfl
  rw [show itemR p ⟨12, (i : Int), (j : Int), st⟩ = tabKeyR p p.tables[i].keys j p.tables[i].keys[j] from by simp [itemR, List.getElem?_eq_getElem hi, List.getElem?_eq_getElem hj]]
  exact titem_key A1 A2 A3 A4 A5 A6 A7 p c1 c2 c3 c4 c5 c6 c7 B hm i hi j hj hek s0 s1 s2 s3 s4 s5 s6 s7 s8 s9 s10 s11 s12 s13 w hB hP hcap
 by_cases h14 : k = 14
 ·subst h14
  obtain ⟨i, hi, k, hk, rfl, hkz, hlen⟩ := g14 rfl
  rw [show itemR p ⟨14, (i : Int), b, st⟩ = firstE argR (p.actions[k].params.zip p.tables[i].dargs) from by simp [itemR, List.getElem?_eq_getElem hi, hkz, List.getElem?_eq_getElem hk]]
  exact titem_default A1 A2 A3 A4 A5 A6 A7 p c1 c2 c3 c4 c5 c6 c7 B hm i hi b k hk hkz hlen s0 s1 s2 s3 s4 s5 s6 s7 s8 s9 s10 s11 s12 s13 w hB hP
 rw [show itemR p ⟨k, a, b, st⟩ = .ok () from by simp [itemR, h6, h7, h10, h12, h14]]
 exact titem_none A1 A2 A3 A4 A5 A6 A7 p c1 c2 c3 c4 c5 c6 c7 B hm k a b h6 h7 h10 h12 h14 s0 s1 s2 s3 s4 s5 s6 s7 s8 s9 s10 s11 s12 s13 w hB hP
end Go.Proofs.YtbbdhknagofghaaGreat
/-! Layer 8: Check's closure. -/
namespace Go.Proofs.YtbbdhknagofghaaGreat
open Go.RowKit
set_option maxRecDepth 100000 in
set_option maxHeartbeats 4000000 in
theorem tcheck1_any (A1 A2 A3 A4 A5 A6 A7 : Option Addr) (p : Pg) (c1 c2 c3 c4 c5 c6 c7 : Nat) (B : Nat) (hm : mayP p = true) (x : It) (hx : ItOk p x) (s0 s1 s2 s3 s4 s5 s6 s7 s8 s9 s10 s11 s12 s13 : Value) (ga gb : Nat) (w : World) (hB : B ≤ w.heap.size) (hP : PgS w B A1 A2 A3 A4 A5 A6 A7 p) (hcap : KCap w A5 p)
  (h : rIt w B [.int .u8 x.kind, .int .i64 x.a, .int .i64 x.b, s0, s1, s2, s3, s4, s5, s6, s7, s8, s9, s10, s11, s12, s13] x)
  (hu : ∀ i, w.cell? ⟨ga, i, none⟩ = (#[.slice A1 p.headers.length c1, .slice A2 p.metas.length c2, .slice A3 p.states.length c3, .slice A4 p.actions.length c4, .slice A5 p.tables.length c5, .slice A6 p.control.length c6, .slice A7 p.emit.length c7] : Array Value)[i]?)
  (hxc : ∀ i, w.cell? ⟨gb, i, none⟩ = (#[.int .u8 x.kind, .int .i64 x.a, .int .i64 x.b, s0, s1, s2, s3, s4, s5, s6, s7, s8, s9, s10, s11, s12, s13] : Array Value)[i]?) :
  Calls Tryz.prog 20 #[.pointer (some ⟨ga, 0, none⟩), .pointer (some ⟨gb, 0, none⟩)] w fun z7 w' => z7 = endU (itemR p x) ∧ Below w.heap.size w w' := by
 have hX := hide (show Calls Tryz.prog 21 #[.agg #[.slice A1 p.headers.length c1, .slice A2 p.metas.length c2, .slice A3 p.states.length c3, .slice A4 p.actions.length c4, .slice A5 p.tables.length c5, .slice A6 p.control.length c6, .slice A7 p.emit.length c7], .agg #[.int .u8 x.kind, .int .i64 x.a, .int .i64 x.b, s0, s1, s2, s3, s4, s5, s6, s7, s8, s9, s10, s11, s12, s13]] w _ from titem_any A1 A2 A3 A4 A5 A6 A7 p c1 c2 c3 c4 c5 c6 c7 B hm x hx _ w hB hP hcap h)
 generalize itemR p x = r at hX ⊢
 obtain ⟨u0, u1, u2, u3, u4, u5, u6⟩ := row7 hu
 obtain ⟨x0, x1, x2, x3, x4, x5, x6, x7, x8, x9, x10, x11, x12, x13, x14, x15, x16⟩ := row17 hxc
 clear hu hxc h hP hcap hx
 cases r with
 | error n7 =>
  replace hX := hide (show Calls Tryz.prog _ _ w fun e w' => e = noE n7 ∧ Below w.heap.size w w' from hX.out)
  go_enter Tryz.func20, Tryz.ntmps20
  go_wp2_with (go_at_call 21; refine hX.out.mono ?_; rintro e w3 ⟨rfl, hb3⟩)
  exact ⟨rfl, rfl, hb3⟩
 | ok u =>
  replace hX := hide (show Calls Tryz.prog _ _ w fun e w' => e = .returned (.tuple #[]) ∧ Below w.heap.size w w' from hX.out)
  go_enter Tryz.func20, Tryz.ntmps20
  go_wp2_with (go_at_call 21; refine hX.out.mono ?_; rintro e w3 ⟨rfl, hb3⟩)
  (try simp only [Exit.inBlock, Exit.then])
  refine bodyPost_end (results_none rfl _ _ _) rfl ?_
  exact ⟨rfl, hb3⟩
end Go.Proofs.YtbbdhknagofghaaGreat

import Derived.Test.YtbbdhknagofghaaGreatWhl30
set_option linter.all false
/-! Printed by gen_typo.py. Layer 8: item at a table's key. -/
namespace Go.Proofs.YtbbdhknagofghaaGreat
open Go.RowKit
/-- A table's keys lie in a slice that holds them. -/
def KCap (w : World) (A5 : Option Addr) (p : Pg) : Prop := ∀ (i : Nat) (hi : i < p.tables.length) (g o : Nat) (A : Option Addr) (c : Nat), A5 = some ⟨g, o, none⟩ → w.cell? ⟨g, o + i * 5 + 1, none⟩ = some (.slice A (p.tables[i]).keys.length c) → (p.tables[i]).keys.length ≤ c
set_option maxRecDepth 100000 in
set_option maxHeartbeats 16000000 in
theorem titem_key (A1 A2 A3 A4 A5 A6 A7 : Option Addr) (p : Pg) (c1 c2 c3 c4 c5 c6 c7 : Nat) (B : Nat) (hm : mayP p = true) (i : Nat) (hi : i < p.tables.length) (j : Nat) (hj : j < p.tables[i].keys.length) (hek : allE p.tables[i].keys[j].e = true) (s0 s1 s2 s3 s4 s5 s6 s7 s8 s9 s10 s11 s12 s13 : Value) (w : World) (hB : B ≤ w.heap.size) (hP : PgS w B A1 A2 A3 A4 A5 A6 A7 p) (hcap : KCap w A5 p) :
  Calls Tryz.prog 21 #[.agg #[.slice A1 p.headers.length c1, .slice A2 p.metas.length c2, .slice A3 p.states.length c3, .slice A4 p.actions.length c4, .slice A5 p.tables.length c5, .slice A6 p.control.length c6, .slice A7 p.emit.length c7], .agg #[.int .u8 12, .int .i64 (i : Int), .int .i64 (j : Int), s0, s1, s2, s3, s4, s5, s6, s7, s8, s9, s10, s11, s12, s13]] w fun z7 w' => z7 = endU (tabKeyR p p.tables[i].keys j p.tables[i].keys[j]) ∧ Below w.heap.size w w' := by
 obtain ⟨wu, hwu, hsu, hbu, hcu, hfu⟩ := box1 w #[.slice A1 p.headers.length c1, .slice A2 p.metas.length c2, .slice A3 p.states.length c3, .slice A4 p.actions.length c4, .slice A5 p.tables.length c5, .slice A6 p.control.length c6, .slice A7 p.emit.length c7] 30
 obtain ⟨wx, hwx, hsx, hbx, hcx, hfx⟩ := box1 wu #[.int .u8 12, .int .i64 (i : Int), .int .i64 (j : Int), s0, s1, s2, s3, s4, s5, s6, s7, s8, s9, s10, s11, s12, s13] 49
 have hEx : Below wx.heap.size wx wx := Below.refl _ _
 have hEu : Below wu.heap.size wu wx := hbx.trans (hEx.mono (by omega))
 have hw := hide (hbu.trans (hEu.mono (by omega)))
 have cu := fun i => (hEu.cell (p := ⟨w.heap.size, i, none⟩) (by show w.heap.size < _; omega)).trans (hcu i)
 have cx := fun i => (hEx.cell (p := ⟨wu.heap.size, i, none⟩) (by show wu.heap.size < _; omega)).trans (hcx i)
 have hfr := hfx
 simp only [hsu] at cx hfr
 obtain ⟨u0, u1, u2, u3, u4, u5, u6⟩ := row7 cu
 obtain ⟨x0, x1, x2, x3, x4, x5, x6, x7, x8, x9, x10, x11, x12, x13, x14, x15, x16⟩ := row17 cx
 have hl1 : w.heap.size < wx.heap.size := by omega
 have hl2 : w.heap.size + 1 < wx.heap.size := by omega
 clear cu hcu hbu hfu cx hcx hbx hfx hEu hEx
 replace hsx := hide hsx
 obtain ⟨wv, hwv, hsv, hbv, hcv, -⟩ := box1 wx #[.slice A1 p.headers.length c1, .slice A2 p.metas.length c2, .slice A3 p.states.length c3, .slice A4 p.actions.length c4, .slice A5 p.tables.length c5, .slice A6 p.control.length c6, .slice A7 p.emit.length c7, .int .i64 (-1)] 88
 obtain ⟨v0, v1, v2, v3, v4, v5, v6, v7⟩ := row8 hcv
 have kv := bcell' hbv
 have hl3 : wx.heap.size < wv.heap.size := by omega
 have m1 := Nat.lt_of_lt_of_le hl1 hbv.size
 have m2 := Nat.lt_of_lt_of_le hl2 hbv.size
 replace hw := hide (hw.out.trans (hbv.mono (by omega)))
 clear hcv
 replace hsv := hide hsv
 have hBv : B ≤ wv.heap.size := by omega
 have hPz := hide (hP.below (hw.out.mono hB))
 clear hP
 have hX0 : ∀ (ecs : List Value) (W : World), Below wv.heap.size wv W → rEx wv B ecs p.tables[i].keys[j].e → Calls Tryz.prog 29 #[.agg #[.slice A1 p.headers.length c1, .slice A2 p.metas.length c2, .slice A3 p.states.length c3, .slice A4 p.actions.length c4, .slice A5 p.tables.length c5, .slice A6 p.control.length c6, .slice A7 p.emit.length c7, .int .i64 (-1)], .agg ecs.toArray] W fun r w' => r = endR (ofR p (-1) p.tables[i].keys[j].e) ∧ Below W.heap.size W w' :=
  fun ecs W hb hr => tof_any A1 A2 A3 A4 A5 A6 A7 p c1 c2 c3 c4 c5 c6 c7 (-1) B hm _ hek ecs W (Nat.le_trans hBv hb.size) (hPz.out.below (hb.mono hBv)) (sta_ex.keep hr fun q hq => (hb.mono hBv).cell hq)
 obtain ⟨g0, o0, ecs, hA, hb, hel, hcell, B1, d1, B2, d2, B3, d3, hf, hn1, hn2, hS1, hS2, hS3⟩ := hPz.out.tables.2 i _ (List.getElem?_eq_getElem hi)
 subst hA
 subst hf
 obtain ⟨y0, y1, y2, y3, y4⟩ := srow5 hcell
 have hcp := hcap i hi g0 o0 B1 d1 rfl (by rw [← hw.out.cell (p := ⟨g0, o0 + i * 5 + 1, none⟩) (by show g0 < _; omega)]; exact y1)
 have hcj : j ≤ d1 := by omega
 have hcz : (j : Int) ≤ (d1 : Int) := by omega
 have lm := hPz.out.tables.len
 have lk := hS1.len
 have hbw : g0 < wv.heap.size := by omega
 have hil : (i : Int) < (p.tables.length : Int) := by omega
 obtain ⟨g1, o1, ecs1, hA1, hb1, hel1, hcell1, fcs, hfc, -, hr1⟩ := hS1.2 j _ (List.getElem?_eq_getElem hj)
 subst hA1
 replace hX0 := hide (fun (W : World) (hW : Below wv.heap.size wv W) => hX0 fcs W hW hr1)
 have hjl : (j : Int) < (p.tables[i].keys.length : Int) := by omega
 have hjn : (0 : Int) ≤ (j : Int) := by omega
 have hjle : (j : Int) ≤ (p.tables[i].keys.length : Int) := by omega
 have hbw1 : g1 < wv.heap.size := by omega
 have hv := hide (show tabKeyR p p.tables[i].keys j p.tables[i].keys[j] = (match bitsU (ofR p (-1) p.tables[i].keys[j].e) with | .error n => .error n | .ok _ => firstE (twiceR p.tables[i].keys[j].kind) (p.tables[i].keys.take j)) from rfl)
 generalize tabKeyR p p.tables[i].keys j p.tables[i].keys[j] = r at hv ⊢
 generalize ofR p (-1) p.tables[i].keys[j].e = ra at hX0 hv
 obtain ⟨keyj, hkeyj⟩ : ∃ q, p.tables[i].keys[j] = q := ⟨_, rfl⟩
 rw [hkeyj] at hfc hr1 hv
 obtain ⟨ej, kj⟩ := keyj
 simp only at hfc hr1 hv
 obtain ⟨opa, lita, heada, namea, hia, loa, argsa⟩ := ej
 obtain ⟨Aa, capa, rfl, -, -, -, -, -, -, hsa'⟩ := RE.inv hr1
 have la := hsa'.len
 subst hfc
 obtain ⟨z0, z1, z2, z3, z4, z5, z6, z7, z8, z9⟩ := srow10 hcell1
 have hX : Hid (∀ W, Below wv.heap.size wv W → Calls Tryz.prog 29 #[.agg #[.slice A1 p.headers.length c1, .slice A2 p.metas.length c2, .slice A3 p.states.length c3, .slice A4 p.actions.length c4, .slice (some ⟨g0, o0, none⟩) p.tables.length c5, .slice A6 p.control.length c6, .slice A7 p.emit.length c7, .int .i64 (-1)], .agg #[.int .u8 opa, .int .i64 lita.1, .int .u64 lita.2.1, .int .u64 lita.2.2, .string heada, .string namea, .int .i64 hia, .int .i64 loa, .slice Aa argsa.length capa]] W _) := hX0
 clear hX0 hr1 hsa' hcell hcell1 hel hel1 hkeyj hPz hek hn1 hn2 hS2 hS3
 generalize p.tables[i].keys = keys at *
 generalize p.tables[i].actions.length = nact at *
 generalize p.tables[i].dargs.length = ndar at *
 generalize p.tables[i].name = tname at *
 generalize p.tables[i].dname = tdname at *
 obtain ⟨wt, hwt, hst, hbt, hct, -⟩ := box1 wv #[.string tname, .slice (some ⟨g1, o1, none⟩) keys.length d1, .slice B2 nact d2, .string tdname, .slice B3 ndar d3] 58
 obtain ⟨t0, t1, t2, t3, t4⟩ := row5 hct
 have kt := bcell' hbt
 have n1 := Nat.lt_of_lt_of_le m1 hbt.size
 have n2 := Nat.lt_of_lt_of_le m2 hbt.size
 have n3 := Nat.lt_of_lt_of_le hl3 hbt.size
 have n4 : wv.heap.size < wt.heap.size := by omega
 have n5 := Nat.lt_of_lt_of_le hbw1 hbt.size
 have hsw : wv.heap.size ≤ wt.heap.size := by omega
 clear hct
 replace hst := hide hst
 replace hS1 := hide hS1
 have hg := gcell' (Below.refl wt.heap.size wt) (Nat.le_refl _)
 go_enter Tryz.func21, Tryz.ntmps21
 go_wp2_with fail
 refine wp_region_quiet_tail 8 (by kernel_rfl) (by kernel_rfl) ?_
 simp only [List.take_succ_cons, List.take_zero, List.drop_succ_cons, List.drop_zero]
 repeat (any_goals (first | go_big_quiet_step (fail) | quiet_step (fail)))
 refine wpQuiet_nil ?_
 intro w2 hw2
 have kw2 := bcell' hw2
 have hb2 := hbt.trans (hw2.mono hbt.size)
 have p1 := Nat.lt_of_lt_of_le n1 hw2.size
 have p2 := Nat.lt_of_lt_of_le n2 hw2.size
 have p3 := Nat.lt_of_lt_of_le n3 hw2.size
 have p4 := Nat.lt_of_lt_of_le n4 hw2.size
 have p5 := Nat.lt_of_lt_of_le n5 hw2.size
 clear hg
 cases ra with
 | error n7 =>
  replace hX := hide (show Calls Tryz.prog _ _ w2 fun e w' => e = noE n7 ∧ Below w2.heap.size w2 w' from hX.out w2 hb2)
  go_wp2_with (go_at_call 29; refine hX.out.mono ?_; rintro e w3 ⟨rfl, hw3⟩)
  exact ⟨rfl, by rw [hv.out]; rfl, hw.out.trans ((hb2.trans (hw3.mono hb2.size)).mono (by omega))⟩
 | ok t =>
  obtain ⟨tw, tr, tf⟩ := t
  replace hX := hide (show Calls Tryz.prog _ _ w2 fun e w' => e = .returned (.agg #[.int .i64 tw, .bool tr, .bool tf]) ∧ Below w2.heap.size w2 w' from hX.out w2 hb2)
  cases tr with
  | true =>
   go_wp2_with (first | (go_at_call 35; with_reducible refine (tbits_t _ _ _).mono ?_; rintro e w4 ⟨rfl, hw4⟩) | (go_at_call 29; refine hX.out.mono ?_; rintro e w3 ⟨rfl, hw3⟩))
   exact ⟨rfl, by rw [hv.out]; rfl, hw.out.trans ((hb2.trans ((hw3.trans (hw4.mono hw3.size)).mono hb2.size)).mono (by omega))⟩
  | false =>
   cases tf with
   | true =>
    go_wp2_with (first | (go_at_call 35; with_reducible refine (tbits_f _ _).mono ?_; rintro e w4 ⟨rfl, hw4⟩) | (go_at_call 29; refine hX.out.mono ?_; rintro e w3 ⟨rfl, hw3⟩))
    exact ⟨rfl, by rw [hv.out]; rfl, hw.out.trans ((hb2.trans ((hw3.trans (hw4.mono hw3.size)).mono hb2.size)).mono (by omega))⟩
   | false =>
    replace hv := hide (show r = firstE (twiceR kj) (keys.take j) from hv.out)
    go_wp2_with (first | (go_at_call 35; with_reducible refine (tbits_k _ _).mono ?_; rintro e w4 ⟨rfl, hw4⟩; have hb4 := hw2.trans ((hw3.trans (hw4.mono hw3.size)).mono hw2.size); have kw4 := bcell' hb4; have j1 := Nat.lt_of_lt_of_le n1 hb4.size; have j2 := Nat.lt_of_lt_of_le n2 hb4.size; have j3 := Nat.lt_of_lt_of_le n3 hb4.size; have j4 := Nat.lt_of_lt_of_le n4 hb4.size; have j5 := Nat.lt_of_lt_of_le n5 hb4.size) | (go_at_call 29; refine hX.out.mono ?_; rintro e w3 ⟨rfl, hw3⟩))
    have hs0 := hide hb4
    go_loopw [117] (fun q wr => ∃ k : Nat, k ≤ j ∧ q = .int .i64 k ∧ Hid (firstE (twiceR kj) ((keys.take j).take k) = .ok ()) ∧ Hid (Below wt.heap.size wt wr)) (fun q _ => j - (intOf q).toNat)
    case atStart => exact ⟨0, Nat.zero_le _, rfl, hide (by simp [firstE]), hs0⟩
    case round =>
     clear hs0 kw2 p1 p2 p3 p4 p5 kw4 j1 j2 j3 j4 j5
     obtain ⟨k, hk, rfl, ht, hbr⟩ := hrel
     have hzr := hbr.out.size
     have hc := bcell' hbr.out
     have r1 := Nat.lt_of_lt_of_le n1 hzr
     have r2 := Nat.lt_of_lt_of_le n2 hzr
     have r3 := Nat.lt_of_lt_of_le n3 hzr
     have r4 := Nat.lt_of_lt_of_le n4 hzr
     have r5 := Nat.lt_of_lt_of_le n5 hzr
     by_cases hlt : k < j
     ·have hltk : k < keys.length := by omega
      have hltt : k < (keys.take j).length := by rw [List.length_take]; omega
      obtain ⟨g2, o2, ecs2, hA2, hb2', hel2, hcell2, fcs2, hfc2, -, hr2⟩ := hS1.out.2 k _ (List.getElem?_eq_getElem hltk)
      obtain ⟨rfl, rfl⟩ : g1 = g2 ∧ o1 = o2 := by simpa using hA2
      have hltz : (k : Int) < (j : Int) := by omega
      have hst := hide (fun h => firstE_stop (f := twiceR kj) (n := 8) hltt ht.out h)
      have hnx := hide (fun h => firstE_next (f := twiceR kj) hltt ht.out h)
      have hel : (keys.take j)[k] = keys[k] := List.getElem_take ..
      rw [hel] at hst hnx
      have hkr := hide (show twiceR kj keys[k] = if keys[k].kind = 2 ∧ kj = 2 then .error 8 else .ok () from rfl)
      generalize twiceR kj keys[k] = kr at hst hnx hkr
      generalize keys[k] = key at hr2 hfc2 hkr
      obtain ⟨e, ke⟩ := key
      obtain ⟨ope, lite, heade, namee, hie, loe, argse⟩ := e
      obtain ⟨Ae, cape, rfl, -, -, -, -, -, -, hs'⟩ := RE.inv hr2
      have hl' := hs'.len
      subst hfc2
      obtain ⟨x0', x1', x2', x3', x4', x5', x6', x7', x8', x9'⟩ := srow10 hcell2
      obtain ⟨wy, hwy, hzy, hby, hcy, -⟩ := box1 wr #[.int .u8 ope, .int .i64 lite.1, .int .u64 lite.2.1, .int .u64 lite.2.2, .string heade, .string namee, .int .i64 hie, .int .i64 loe, .slice Ae argse.length cape, .int .u8 ke] 52
      obtain ⟨y0', y1', y2', y3', y4', y5', y6', y7', y8', y9'⟩ := row10 hcy
      have hbX := hbr.out.trans (hby.mono hzr)
      have hc2 := bcell' hbX
      have q1 := Nat.lt_of_lt_of_le n1 hbX.size
      have q2 := Nat.lt_of_lt_of_le n2 hbX.size
      have q3 := Nat.lt_of_lt_of_le n3 hbX.size
      have q4 := Nat.lt_of_lt_of_le n4 hbX.size
      have q5 := Nat.lt_of_lt_of_le n5 hbX.size
      replace hbX := hide hbX
      simp only at hkr
      clear hcell2 hr2 hs' hel2 hcy hby hel hA2
      by_cases h2 : ke = 2 ∧ kj = 2
      ·have hres := hide (hst.out (hkr.out.trans (if_pos h2)))
       obtain ⟨rfl, rfl⟩ := h2
       clear hnx hst hkr
       go_wp2_with (go_at_call 27; with_reducible refine (ask_no _ _).mono ?_; rintro e w' ⟨rfl, rfl⟩)
       exact ⟨rfl, by rw [hv.out, hres.out]; rfl, hw.out.trans ((hbt.trans (hbX.out.mono hsw)).mono (by omega))⟩
      ·have hres := hide (hnx.out (hkr.out.trans (if_neg h2)))
       clear hnx hst hkr
       by_cases h3 : ke = 2
       ·have h4 : ¬ kj = 2 := fun h => h2 ⟨h3, h⟩
        have h4q : (kj != 2) = true := bne_iff_ne.2 h4
        subst h3
        clear h2
        go_wp2_with (go_at_call 27; with_reducible refine (ask_yes _ _).mono ?_; rintro e w' ⟨rfl, rfl⟩)
        go_roundw
        case rel => exact ⟨k + 1, by omega, by go_num, hres, hbX⟩
        case measure => simp [intOf]; omega
       ·have h3q : (ke != 2) = true := bne_iff_ne.2 h3
        clear h2
        go_wp2_with (go_at_call 27; with_reducible refine (ask_yes _ _).mono ?_; rintro e w' ⟨rfl, rfl⟩)
        go_roundw
        case rel => exact ⟨k + 1, by omega, by go_num, hres, hbX⟩
        case measure => simp [intOf]; omega
     ·have hfull := hide (show firstE (twiceR kj) (keys.take j) = .ok () from by have h := ht.out; rwa [List.take_of_length_le (l := keys.take j) (by rw [List.length_take]; omega)] at h)
      go_wp2
      (try simp only [Exit.inBlock, Exit.then])
      refine bodyPost_end (results_none rfl _ _ _) rfl ?_
      exact ⟨by rw [hv.out, hfull.out]; rfl, hw.out.trans ((hbt.trans (hbr.out.mono hsw)).mono (by omega))⟩
end Go.Proofs.YtbbdhknagofghaaGreat
/-! Printed by gen_typt.py. Layer 8: item at a table's default. -/
namespace Go.Proofs.YtbbdhknagofghaaGreat
open Go.RowKit
set_option maxRecDepth 100000 in
set_option maxHeartbeats 16000000 in
theorem titem_default (A1 A2 A3 A4 A5 A6 A7 : Option Addr) (p : Pg) (c1 c2 c3 c4 c5 c6 c7 : Nat) (B : Nat) (hm : mayP p = true) (i : Nat) (hi : i < p.tables.length) (b : Int) (k : Nat) (hk : k < p.actions.length) (hkz : actionI p p.tables[i].dname = (k : Int)) (hlen : p.actions[k].params.length = p.tables[i].dargs.length) (s0 s1 s2 s3 s4 s5 s6 s7 s8 s9 s10 s11 s12 s13 : Value) (w : World) (hB : B ≤ w.heap.size) (hP : PgS w B A1 A2 A3 A4 A5 A6 A7 p) :
  Calls Tryz.prog 21 #[.agg #[.slice A1 p.headers.length c1, .slice A2 p.metas.length c2, .slice A3 p.states.length c3, .slice A4 p.actions.length c4, .slice A5 p.tables.length c5, .slice A6 p.control.length c6, .slice A7 p.emit.length c7], .agg #[.int .u8 14, .int .i64 (i : Int), .int .i64 b, s0, s1, s2, s3, s4, s5, s6, s7, s8, s9, s10, s11, s12, s13]] w fun z7 w' => z7 = endU (firstE argR (p.actions[k].params.zip p.tables[i].dargs)) ∧ Below w.heap.size w w' := by
 obtain ⟨wu, hwu, hsu, hbu, hcu, hfu⟩ := box1 w #[.slice A1 p.headers.length c1, .slice A2 p.metas.length c2, .slice A3 p.states.length c3, .slice A4 p.actions.length c4, .slice A5 p.tables.length c5, .slice A6 p.control.length c6, .slice A7 p.emit.length c7] 30
 obtain ⟨wx, hwx, hsx, hbx, hcx, hfx⟩ := box1 wu #[.int .u8 14, .int .i64 (i : Int), .int .i64 b, s0, s1, s2, s3, s4, s5, s6, s7, s8, s9, s10, s11, s12, s13] 49
 have hEx : Below wx.heap.size wx wx := Below.refl _ _
 have hEu : Below wu.heap.size wu wx := hbx.trans (hEx.mono (by omega))
 have hw := hide (hbu.trans (hEu.mono (by omega)))
 have cu := fun i => (hEu.cell (p := ⟨w.heap.size, i, none⟩) (by show w.heap.size < _; omega)).trans (hcu i)
 have cx := fun i => (hEx.cell (p := ⟨wu.heap.size, i, none⟩) (by show wu.heap.size < _; omega)).trans (hcx i)
 have hfr := hfx
 simp only [hsu] at cx hfr
 obtain ⟨u0, u1, u2, u3, u4, u5, u6⟩ := row7 cu
 obtain ⟨x0, x1, x2, x3, x4, x5, x6, x7, x8, x9, x10, x11, x12, x13, x14, x15, x16⟩ := row17 cx
 have hl1 : w.heap.size < wx.heap.size := by omega
 have hl2 : w.heap.size + 1 < wx.heap.size := by omega
 clear cu hcu hbu hfu cx hcx hbx hfx hEu hEx
 replace hsx := hide hsx
 obtain ⟨wv, hwv, hsv, hbv, hcv, -⟩ := box1 wx #[.slice A1 p.headers.length c1, .slice A2 p.metas.length c2, .slice A3 p.states.length c3, .slice A4 p.actions.length c4, .slice A5 p.tables.length c5, .slice A6 p.control.length c6, .slice A7 p.emit.length c7, .int .i64 (-1)] 88
 obtain ⟨v0, v1, v2, v3, v4, v5, v6, v7⟩ := row8 hcv
 have kv := bcell' hbv
 have hl3 : wx.heap.size < wv.heap.size := by omega
 have m1 := Nat.lt_of_lt_of_le hl1 hbv.size
 have m2 := Nat.lt_of_lt_of_le hl2 hbv.size
 replace hw := hide (hw.out.trans (hbv.mono (by omega)))
 clear hcv
 replace hsv := hide hsv
 have hBv : B ≤ wv.heap.size := by omega
 have hPz := hide (hP.below (hw.out.mono hB))
 clear hP
 have hmw : p.actions[k].params.all fdB = true := by
  have hm' := hm
  simp only [mayP, Bool.and_eq_true] at hm'
  obtain ⟨⟨⟨⟨⟨⟨⟨_, _⟩, _⟩, _⟩, ha⟩, _⟩, _⟩, _⟩ := hm'
  have had := List.all_eq_true.1 ha _ (List.getElem_mem hk)
  simp only [acB, Bool.and_eq_true] at had
  exact had.1.2
 have hAc0 : ∀ d os, ∀ W, Below wv.heap.size wv W → Hid (Calls Tryz.prog 38 #[.agg #[.slice A1 p.headers.length c1, .slice A2 p.metas.length c2, .slice A3 p.states.length c3, .slice A4 p.actions.length c4, .slice A5 p.tables.length c5, .slice A6 p.control.length c6, .slice A7 p.emit.length c7], .string p.tables[i].dname] (Go.Sort.grow (redrawn W d) os) fun e w' => e = .returned (.int .i64 (k : Int)) ∧ Below (Go.Sort.grow (redrawn W d) os).heap.size (Go.Sort.grow (redrawn W d) os) w') := fun d os W hb => hide (by
  have := action_any (Go.Sort.grow (redrawn W d) os) A1 A2 A3 A4 A5 A6 A7 p c1 c2 c3 c4 c5 c6 c7 p.tables[i].dname (Nat.le_trans hBv (Nat.le_trans hb.size (gsize W d os))) (hPz.out.below ((below_grow hb hb.size d os).mono hBv))
  rwa [hkz] at this)
 obtain ⟨g2, o2, ecs2, hA2, hb2', hel2, hcell2, P1, e1, P2, e2, hf2, -, hQ1, hQ2⟩ := hPz.out.actions.2 k _ (List.getElem?_eq_getElem hk)
 obtain ⟨g0, o0, ecs, hA, hb, hel, hcell, B1, d1, B2, d2, B3, d3, hf, hn1, hn2, hS1, hS2, hS3⟩ := hPz.out.tables.2 i _ (List.getElem?_eq_getElem hi)
 have lm := hPz.out.tables.len
 have la := hPz.out.actions.len
 subst hA
 subst hA2
 subst hf
 subst hf2
 obtain ⟨y0, y1, y2, y3, y4⟩ := srow5 hcell
 obtain ⟨z0, z1, z2⟩ := srow3 hcell2
 have lk := hQ1.len
 have lS := hS3.len
 have hbw : g0 < wv.heap.size := by omega
 have hbw2 : g2 < wv.heap.size := by omega
 have hil : (i : Int) < (p.tables.length : Int) := by omega
 have hkl : (k : Int) < (p.actions.length : Int) := by omega
 clear hcell hcell2 hel hel2 hPz hn1 hn2 hS1 hS2 hQ2 hkz
 generalize p.actions[k].params = params at *
 generalize p.actions[k].name = aname at *
 generalize p.actions[k].body.length = nbody at *
 generalize p.tables[i].dargs = dargs at *
 generalize p.tables[i].keys.length = nkeys at *
 generalize p.tables[i].actions.length = nact at *
 generalize p.tables[i].name = tname at *
 generalize p.tables[i].dname = tdname at *
 obtain ⟨wt, hwt, hst, hbt, hct, -⟩ := box1 wv #[.string tdname, .slice B3 dargs.length d3] 56
 have t0 : wt.cell? ⟨wv.heap.size, 0, none⟩ = some (.string tdname) := hct 0
 have t1 : wt.cell? ⟨wv.heap.size, 1, none⟩ = some (.slice B3 dargs.length d3) := hct 1
 have kt := bcell' hbt
 have n1 := Nat.lt_of_lt_of_le m1 hbt.size
 have n2 := Nat.lt_of_lt_of_le m2 hbt.size
 have n3 := Nat.lt_of_lt_of_le hl3 hbt.size
 have n4 : wv.heap.size < wt.heap.size := by omega
 have n5 := Nat.lt_of_lt_of_le hbw2 hbt.size
 have hsw : wv.heap.size ≤ wt.heap.size := by omega
 clear hct
 replace hst := hide hst
 replace hS3 := hide hS3
 replace hQ1 := hide hQ1
 have hAc : ∀ d os, Hid (Calls Tryz.prog 38 #[.agg #[.slice A1 p.headers.length c1, .slice A2 p.metas.length c2, .slice A3 p.states.length c3, .slice (some ⟨g2, o2, none⟩) p.actions.length c4, .slice (some ⟨g0, o0, none⟩) p.tables.length c5, .slice A6 p.control.length c6, .slice A7 p.emit.length c7], .string tdname] (Go.Sort.grow (redrawn wt d) os) _) := fun d os => hAc0 d os wt hbt
 clear hAc0
 have hg := gcell' (Below.refl wt.heap.size wt) (Nat.le_refl _)
 go_enter Tryz.func21, Tryz.ntmps21
 go_wp2_with fail
 refine wp_region_quiet_below (by kernel_rfl) (by kernel_rfl) ?_
 repeat (any_goals (first | go_big_quiet_step (first | (go_at_call 38; with_reducible exact Calls.regrown_of (hAc _ _).out)) | quiet_step (first | (go_at_call 38; with_reducible exact Calls.regrown_of (hAc _ _).out))))
 refine wpQuiet_nil ?_
 intro w2 hw2
 replace hw2 := below_of_regrown hw2
 clear hg hAc
 go_wp2_with fail
 have hs0 := hide hw2
 go_loopw [155] (fun q wr => ∃ q' : Nat, q' ≤ params.length ∧ q = .int .i64 q' ∧ Hid (firstE argR ((params.zip dargs).take q') = .ok ()) ∧ Hid (Below wt.heap.size wt wr)) (fun q _ => params.length - (intOf q).toNat)
 case atStart => exact ⟨0, Nat.zero_le _, rfl, hide (by simp [firstE]), hs0⟩
 case round =>
  clear hs0
  obtain ⟨q, hq, rfl, ht, hbr⟩ := hrel
  have hzr := hbr.out.size
  have hc := bcell' hbr.out
  have r1 := Nat.lt_of_lt_of_le n1 hzr
  have r2 := Nat.lt_of_lt_of_le n2 hzr
  have r3 := Nat.lt_of_lt_of_le n3 hzr
  have r4 := Nat.lt_of_lt_of_le n4 hzr
  have r5 := Nat.lt_of_lt_of_le n5 hzr
  by_cases hlt : q < params.length
  ·have hltd : q < dargs.length := by omega
   have hltt : q < (params.zip dargs).length := by rw [List.length_zip]; omega
   obtain ⟨g3, o3, ecs3, hA3, hb3', hel3, hcell3, hf3, -, -⟩ := hQ1.out.2 q _ (List.getElem?_eq_getElem hlt)
   obtain ⟨g4, o4, ecs4, hA4, hb4', hel4, hcell4, hf4, hok⟩ := hS3.out.2 q _ (List.getElem?_eq_getElem hltd)
   subst hA3
   subst hA4
   subst hf3
   subst hf4
   obtain ⟨n, h1, h2, hn⟩ := width_nat hmw hlt
   have hltz : (q : Int) < (params.length : Int) := by omega
   have hltz2 : (q : Int) < (dargs.length : Int) := by omega
   have hst := hide (fun n h => firstE_stop (f := argR) (n := n) hltt ht.out h)
   have hnx := hide (fun h => firstE_next (f := argR) hltt ht.out h)
   rw [List.getElem_zip] at hst hnx
   have hX0 := hide (fun (W : World) => tlit_any dargs[q] n h1 h2 hok W)
   rw [show argR (params[q], dargs[q]) = litR dargs[q] (n : Int) from by unfold argR; simp only; rw [hn]] at hst hnx
   generalize litR dargs[q] (n : Int) = r at hst hnx hX0
   rw [hn] at hcell3
   generalize params[q].1 = fname at hcell3
   generalize dargs[q] = lit at hcell4 hX0 hok
   have x0' : wv.cell? ⟨g3, o3 + q * 2, none⟩ = some (.string fname) := by simpa using hcell3 0 _ rfl
   have x1' : wv.cell? ⟨g3, o3 + q * 2 + 1, none⟩ = some (.int .i64 n) := hcell3 1 _ rfl
   obtain ⟨l0, l1, l2⟩ := srow3 hcell4
   obtain ⟨wy, hwy, hzy, hby, hcy, -⟩ := box1 wr #[.string fname, .int .i64 (n : Int)] 84
   have y0' : wy.cell? ⟨wr.heap.size, 0, none⟩ = some (.string fname) := hcy 0
   have y1' : wy.cell? ⟨wr.heap.size, 1, none⟩ = some (.int .i64 n) := hcy 1
   have hbX := hbr.out.trans (hby.mono hzr)
   have hc2 := bcell' hbX
   have q1 := Nat.lt_of_lt_of_le n1 hbX.size
   have q2 := Nat.lt_of_lt_of_le n2 hbX.size
   have q3 := Nat.lt_of_lt_of_le n3 hbX.size
   have q4 := Nat.lt_of_lt_of_le n4 hbX.size
   have q5 : wr.heap.size < wy.heap.size := by omega
   have f3 : g3 < wv.heap.size := by omega
   have f4 : g4 < wv.heap.size := by omega
   have f5 := Nat.lt_of_lt_of_le f3 hsw
   have f6 := Nat.lt_of_lt_of_le f4 hsw
   have f7 := Nat.lt_of_lt_of_le f4 (Nat.le_trans hsw hbX.size)
   have f8 := Nat.lt_of_lt_of_le f3 (Nat.le_trans hsw hzr)
   replace hbX := hide hbX
   have hX : Hid (∀ W, Calls Tryz.prog 36 #[.agg #[.int .i64 lit.1, .int .u64 lit.2.1, .int .u64 lit.2.2], .int .i64 (n : Int)] W _) := hX0
   clear hcell3 hcell4 hok hX0 hel3 hel4 hcy hby hn
   replace hzy := hide hzy
   have hg := gcell' (Below.refl wy.heap.size wy) (Nat.le_refl _)
   go_wp2_with fail
   refine wp_region_quiet_tail 7 (by kernel_rfl) (by kernel_rfl) ?_
   simp only [List.take_succ_cons, List.take_zero, List.drop_succ_cons, List.drop_zero]
   repeat (any_goals (first | go_big_quiet_step (fail) | quiet_step (fail)))
   refine wpQuiet_nil ?_
   intro w3 hw3
   have hb3 := hbX.out.trans (hw3.mono hbX.out.size)
   clear hg
   cases r with
   | error n7 =>
    have hres := hide (hst.out n7 rfl)
    have hX1 := hide (show Calls Tryz.prog _ _ w3 fun e w' => e = noE n7 ∧ Below w3.heap.size w3 w' from hX.out w3)
    clear hnx hst hX
    go_wp2_with (go_at_call 36; refine hX1.out.mono ?_; rintro e w4 ⟨rfl, hw4⟩)
    exact ⟨rfl, by rw [hres.out]; rfl, hw.out.trans ((hbt.trans ((hb3.trans (hw4.mono hb3.size)).mono hsw)).mono (by omega))⟩
   | ok u =>
    have hres := hide (hnx.out rfl)
    have hX1 := hide (show Calls Tryz.prog _ _ w3 fun e w' => e = .returned (.tuple #[]) ∧ Below w3.heap.size w3 w' from hX.out w3)
    clear hnx hst hX
    go_wp2_with (go_at_call 36; refine hX1.out.mono ?_; rintro e w4 ⟨rfl, hw4⟩)
    go_roundw
    case rel => exact ⟨q + 1, by omega, by go_num, hres, hide (hb3.trans (hw4.mono hb3.size))⟩
    case measure => simp [intOf]; omega
  ·have hfull := hide (show firstE argR (params.zip dargs) = .ok () from by have h := ht.out; rwa [List.take_of_length_le (l := params.zip dargs) (by rw [List.length_zip]; omega)] at h)
   go_wp2
   (try simp only [Exit.inBlock, Exit.then])
   refine bodyPost_end (results_none rfl _ _ _) rfl ?_
   exact ⟨by rw [hfull.out]; rfl, hw.out.trans ((hbt.trans (hbr.out.mono hsw)).mono (by omega))⟩
end Go.Proofs.YtbbdhknagofghaaGreat

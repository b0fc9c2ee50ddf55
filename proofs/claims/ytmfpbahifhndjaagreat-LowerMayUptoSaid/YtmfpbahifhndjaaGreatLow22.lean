import Derived.Test.YtmfpbahifhndjaaGreatLow21
set_option linter.all false
/-! Printed by gen_typg.py. Layer 8: of1, of two arguments. -/
namespace Go.Proofs.YtmfpbahifhndjaaGreat
open Go.RowKit
attribute [local go_sem] pureTwo pureAt pureUpon
set_option maxRecDepth 100000 in
set_option maxHeartbeats 16000000 in
theorem tof_two_b (A1 A2 A3 A4 A5 A6 A7 : Option Addr) (p : Pg) (c1 c2 c3 c4 c5 c6 c7 : Nat) (act : Int) (B : Nat) (op : Int) (lit : Lt) (head name : ByteArray) (hi lo : Int) (a b : Ex) (l : List Ex) (n7 : Int) (sw : Int) (sr sf : Bool) (hra : ofR p act a = .ok ⟨sw, sr, sf⟩) (hrb : ofR p act b = .error n7) (n14 : ¬ op = 14) (n15 : ¬ op = 15) (ih : OfIs A1 A2 A3 A4 A5 A6 A7 p c1 c2 c3 c4 c5 c6 c7 act B a) (ih2 : OfIs A1 A2 A3 A4 A5 A6 A7 p c1 c2 c3 c4 c5 c6 c7 act B b) (cs : List Value) (w : World) (hB : B ≤ w.heap.size) (hP : PgS w B A1 A2 A3 A4 A5 A6 A7 p) (h : rEx w B cs (.mk op lit head name hi lo (a :: b :: l))) :
  Calls Tryz.prog 80 #[.agg #[.slice A1 p.headers.length c1, .slice A2 p.metas.length c2, .slice A3 p.states.length c3, .slice A4 p.actions.length c4, .slice A5 p.tables.length c5, .slice A6 p.control.length c6, .slice A7 p.emit.length c7, .int .i64 act], .agg cs.toArray] w fun r w' => r = endR (.error n7) ∧ Below w.heap.size w w' := by
 obtain ⟨A, cap, rfl, -, -, -, -, -, -, hs⟩ := RE.inv h
 have hl := hs.len
 clear h
 have hm2 : 2 ≤ (a :: b :: l).length := by simp
 generalize hml : (a :: b :: l).length = m at hl hm2
 clear hml
 have hmz0 : ((m : Int) == 0) = false := beq_eq_false_iff_ne.2 (by omega)
 have hmz1 : ((m : Int) == 1) = false := beq_eq_false_iff_ne.2 (by omega)
 have hmi0 : (0 : Int) < (m : Int) := by omega
 have hmi1 : (1 : Int) < (m : Int) := by omega
 have hmn0 : 0 < m := by omega
 have hmn1 : 1 < m := by omega
 show Calls _ _ #[.agg #[.slice A1 p.headers.length c1, .slice A2 p.metas.length c2, .slice A3 p.states.length c3, .slice A4 p.actions.length c4, .slice A5 p.tables.length c5, .slice A6 p.control.length c6, .slice A7 p.emit.length c7, .int .i64 act], .agg #[.int .u8 op, .int .i64 lit.1, .int .u64 lit.2.1, .int .u64 lit.2.2, .string head, .string name, .int .i64 hi, .int .i64 lo, .slice A m cap]] _ _
 obtain ⟨wv, hwv, hsv, hbv, hcv, hfv⟩ := box1 w #[.slice A1 p.headers.length c1, .slice A2 p.metas.length c2, .slice A3 p.states.length c3, .slice A4 p.actions.length c4, .slice A5 p.tables.length c5, .slice A6 p.control.length c6, .slice A7 p.emit.length c7, .int .i64 act] 137
 obtain ⟨we, hwe, hse, hbe, hce, hfe⟩ := box1 wv #[.int .u8 op, .int .i64 lit.1, .int .u64 lit.2.1, .int .u64 lit.2.2, .string head, .string name, .int .i64 hi, .int .i64 lo, .slice A m cap] 65
 obtain ⟨wz, hwz, hsz, hbz, hcz, hfz⟩ := box1 we #[.int .i64 0, .bool false, .bool false] 107
 have hEz : Below wz.heap.size wz wz := Below.refl _ _
 have hEe : Below we.heap.size we wz := hbz.trans (hEz.mono (by omega))
 have hEv : Below wv.heap.size wv wz := hbe.trans (hEe.mono (by omega))
 have hw := hide (hbv.trans (hEv.mono (by omega)))
 have cv := fun i => (hEv.cell (p := ⟨w.heap.size, i, none⟩) (by show w.heap.size < _; omega)).trans (hcv i)
 have ce := fun i => (hEe.cell (p := ⟨wv.heap.size, i, none⟩) (by show wv.heap.size < _; omega)).trans (hce i)
 have cz := fun i => (hEz.cell (p := ⟨we.heap.size, i, none⟩) (by show we.heap.size < _; omega)).trans (hcz i)
 have hfr := hfz
 simp only [hsv] at ce
 simp only [hse, hsv] at cz hfr
 obtain ⟨v0, v1, v2, v3, v4, v5, v6, v7⟩ := row8 cv
 obtain ⟨e0, e1, e2, e3, e4, e5, e6, e7, e8⟩ := row9 ce
 obtain ⟨z0, z1, z2⟩ := row3 cz
 have hl1 : w.heap.size < wz.heap.size := by omega
 have hl2 : w.heap.size + 1 < wz.heap.size := by omega
 have hl3 : w.heap.size + 1 + 1 < wz.heap.size := by omega
 clear cv hcv hbv hfv ce hce hbe hfe cz hcz hbz hfz hEv hEe hEz
 replace hsz := hide hsz
 have hBz : B ≤ wz.heap.size := by omega
 have hPz := hP.below (hw.out.mono hB)
 have hSz := hs.below sta_ex (hw.out.mono hB)
 clear hP hs
 obtain ⟨g, o, ecs, hA, hbb, hel, hcell, hr⟩ := hSz.2 0 a rfl
 obtain ⟨g', o', ecs', hA', hbb', hel', hcell', hr'⟩ := hSz.2 1 b rfl
 subst hA
 obtain ⟨rfl, rfl⟩ : g = g' ∧ o = o' := by simpa using hA'
 have hX := hide (fun (W : World) (hb : Below wz.heap.size wz W) => ih ecs W (Nat.le_trans hBz hb.size) (hPz.below (hb.mono hBz)) (sta_ex.keep hr fun q hq => (hb.mono hBz).cell hq))
 have hY := hide (fun (W : World) (hb : Below wz.heap.size wz W) => ih2 ecs' W (Nat.le_trans hBz hb.size) (hPz.below (hb.mono hBz)) (sta_ex.keep hr' fun q hq => (hb.mono hBz).cell hq))
 have hJ := hide (fun (W : World) (hb : Below wz.heap.size wz W) (s t : Ty) (hs : okTy s) (ht : okTy t) => tjoined_any a b ecs ecs' s t B W (Nat.le_trans hBz hb.size) (sta_ex.keep hr fun q hq => (hb.mono hBz).cell hq) (sta_ex.keep hr' fun q hq => (hb.mono hBz).cell hq) hs ht)
 obtain ⟨opa, lita, heada, namea, hia, loa, argsa⟩ := a
 obtain ⟨Aa, capa, rfl, -, -, -, -, -, -, hsa'⟩ := RE.inv hr
 have la := hsa'.len
 obtain ⟨opb, litb, headb, nameb, hib, lob, argsb⟩ := b
 obtain ⟨Ab, capb, rfl, -, -, -, -, -, -, hsb'⟩ := RE.inv hr'
 have lb := hsb'.len
 obtain ⟨x0, x1, x2, x3, x4, x5, x6, x7, x8⟩ := srow9 hcell
 obtain ⟨y0, y1, y2, y3, y4, y5, y6, y7, y8⟩ := srow9 hcell'
 simp only [Nat.zero_mul, Nat.add_zero, Nat.one_mul] at x0 x1 x2 x3 x4 x5 x6 x7 x8 y0 y1 y2 y3 y4 y5 y6 y7 y8
 have hbw : g < wz.heap.size := by omega
 change Hid (∀ W hb, Calls _ _ #[_, .agg #[.int .u8 opa, .int .i64 lita.1, .int .u64 lita.2.1, .int .u64 lita.2.2, .string heada, .string namea, .int .i64 hia, .int .i64 loa, .slice Aa argsa.length capa]] W _) at hX
 change Hid (∀ W hb, Calls _ _ #[_, .agg #[.int .u8 opb, .int .i64 litb.1, .int .u64 litb.2.1, .int .u64 litb.2.2, .string headb, .string nameb, .int .i64 hib, .int .i64 lob, .slice Ab argsb.length capb]] W _) at hY
 change Hid (∀ W hb s t hs ht, Calls _ _ #[.agg #[.int .u8 opa, .int .i64 lita.1, .int .u64 lita.2.1, .int .u64 lita.2.2, .string heada, .string namea, .int .i64 hia, .int .i64 loa, .slice Aa argsa.length capa], .agg #[.int .u8 opb, .int .i64 litb.1, .int .u64 litb.2.1, .int .u64 litb.2.2, .string headb, .string nameb, .int .i64 hib, .int .i64 lob, .slice Ab argsb.length capb], _, _] W _) at hJ
 clear hcell hcell' hr hr' hsa' hsb' hel hel' ih ih2 hSz hPz
 have i14 : (op == 14) = false := beq_eq_false_iff_ne.2 n14
 have i15 : (op == 15) = false := beq_eq_false_iff_ne.2 n15
 replace hX := hide (show ∀ W, Below wz.heap.size wz W → Calls Tryz.prog _ #[_, .agg #[.int .u8 opa, .int .i64 lita.1, .int .u64 lita.2.1, .int .u64 lita.2.2, .string heada, .string namea, .int .i64 hia, .int .i64 loa, .slice Aa argsa.length capa]] W fun e w' => e = .returned (.agg #[.int .i64 sw, .bool sr, .bool sf]) ∧ Below wz.heap.size wz w' ∧ Below W.heap.size W w' from fun W hb => (hX.out W hb).mono fun e w' h => ⟨h.1.trans (by rw [hra]; rfl), hb.trans (h.2.mono hb.size), h.2⟩)
 clear hJ
 go_enter Tryz.func80, Tryz.ntmps80
 go_upto_region 3 with fail
 go_cut [5] (fun sp wx => ∃ g, sp = .pointer (some ⟨g, 0, none⟩) ∧ Hid (TBox wz wx g sw sr sf))
 case first =>
  refine wp_region_float 5 (w2 := wz.drew.alloc (.cells #[.int .i64 0, .bool false, .bool false] 107)) (vf := .pointer (some ⟨wz.heap.size, 0, none⟩)) (by kernel_rfl) (by kernel_rfl) rfl (fun _ => rfl) (fun _ => by go_simp) ?_
  simp only [List.take_succ_cons, List.take_zero]
  repeat (refine wpTwo_step (fun K hK => ?_); go_simp; refine hK _ ?_; clear hK K)
  refine wpTwo_nil ⟨?_, ?_⟩
  ·go_wp2_with (go_at_call 80; refine (hX.out _ (by exact (Below.refl _ _).drew)).mono ?_; rintro e w3 ⟨rfl, hb3, hb4⟩)
   go_meet
   exact ⟨_, rfl, hide (TBox.new hb3 _ _ _)⟩
  ·go_wp2_with (go_at_call 80; refine (hX.out _ (by exact (Below.refl _ _).drew.alloc (Nat.le_refl _) _)).mono ?_; rintro e w3 ⟨rfl, hb3, hb4⟩; have kb4 := bcell hb4)
   go_meet
   exact ⟨_, rfl, hide (TBox.set rfl hb3 hb4 _ _ _)⟩
 case rest =>
  obtain ⟨gs, rfl, hTs⟩ := hcut
  obtain ⟨wd, rfl⟩ : ∃ wd : World, wd = wc := ⟨_, rfl⟩
  obtain ⟨hbwd, gzs, gls, s0, s1, s2⟩ := hTs.out
  have kwd := bcell' hbwd
  have qwd1 := Nat.lt_of_lt_of_le hl1 hbwd.size
  have qwd2 := Nat.lt_of_lt_of_le hl2 hbwd.size
  have qwd3 := Nat.lt_of_lt_of_le hl3 hbwd.size
  have qwd4 := Nat.lt_of_lt_of_le hbw hbwd.size
  clear hX
  replace hY := hide (show ∀ W, Below wd.heap.size wd W → Calls Tryz.prog _ #[_, .agg #[.int .u8 opb, .int .i64 litb.1, .int .u64 litb.2.1, .int .u64 litb.2.2, .string headb, .string nameb, .int .i64 hib, .int .i64 lob, .slice Ab argsb.length capb]] W fun e w' => e = noE n7 ∧ Below wd.heap.size wd w' ∧ Below W.heap.size W w' from fun W hb => (hY.out W (hbwd.trans (hb.mono hbwd.size))).mono fun e w' h => ⟨h.1.trans (by rw [hrb]; rfl), hb.trans (h.2.mono hb.size), h.2⟩)
  go_wp2_with fail
  refine wp_region_float 5 (w2 := wd.drew.alloc (.cells #[.int .i64 0, .bool false, .bool false] 107)) (vf := .pointer (some ⟨wd.heap.size, 0, none⟩)) (by kernel_rfl) (by kernel_rfl) rfl (fun _ => rfl) (fun _ => by go_simp) ?_
  simp only [List.take_succ_cons, List.take_zero]
  repeat (refine wpTwo_step (fun K hK => ?_); go_simp; refine hK _ ?_; clear hK K)
  refine wpTwo_nil ⟨?_, ?_⟩
  all_goals
   go_wp2_with (go_at_call 80; refine (hY.out _ (by first | exact (Below.refl _ _).drew | exact (Below.refl _ _).drew.alloc (Nat.le_refl _) _)).mono ?_; rintro e w3 ⟨rfl, hb3, hb4⟩)
   exact ⟨rfl, rfl, hw.out.trans ((hbwd.trans (hb3.mono hbwd.size)).mono (by omega))⟩
set_option maxRecDepth 100000 in
set_option maxHeartbeats 16000000 in
theorem tof_two_logic (A1 A2 A3 A4 A5 A6 A7 : Option Addr) (p : Pg) (c1 c2 c3 c4 c5 c6 c7 : Nat) (act : Int) (B : Nat) (op : Int) (lit : Lt) (head name : ByteArray) (hi lo : Int) (a b : Ex) (l : List Ex) (sw : Int) (sr sf : Bool) (hra : ofR p act a = .ok ⟨sw, sr, sf⟩) (tw : Int) (tr tf : Bool) (hrb : ofR p act b = .ok ⟨tw, tr, tf⟩) (hsk : okTy ⟨sw, sr, sf⟩) (htk : okTy ⟨tw, tr, tf⟩) (n14 : ¬ op = 14) (n15 : ¬ op = 15) (n11 : ¬ op = 11) (h25 : 25 ≤ op) (ih : OfIs A1 A2 A3 A4 A5 A6 A7 p c1 c2 c3 c4 c5 c6 c7 act B a) (ih2 : OfIs A1 A2 A3 A4 A5 A6 A7 p c1 c2 c3 c4 c5 c6 c7 act B b) (cs : List Value) (w : World) (hB : B ≤ w.heap.size) (hP : PgS w B A1 A2 A3 A4 A5 A6 A7 p) (h : rEx w B cs (.mk op lit head name hi lo (a :: b :: l))) :
  Calls Tryz.prog 80 #[.agg #[.slice A1 p.headers.length c1, .slice A2 p.metas.length c2, .slice A3 p.states.length c3, .slice A4 p.actions.length c4, .slice A5 p.tables.length c5, .slice A6 p.control.length c6, .slice A7 p.emit.length c7, .int .i64 act], .agg cs.toArray] w fun r w' => r = endR (pairR op a b ⟨sw, sr, sf⟩ ⟨tw, tr, tf⟩) ∧ Below w.heap.size w w' := by
 obtain ⟨A, cap, rfl, -, -, -, -, -, -, hs⟩ := RE.inv h
 have hl := hs.len
 clear h
 have hm2 : 2 ≤ (a :: b :: l).length := by simp
 generalize hml : (a :: b :: l).length = m at hl hm2
 clear hml
 have hmz0 : ((m : Int) == 0) = false := beq_eq_false_iff_ne.2 (by omega)
 have hmz1 : ((m : Int) == 1) = false := beq_eq_false_iff_ne.2 (by omega)
 have hmi0 : (0 : Int) < (m : Int) := by omega
 have hmi1 : (1 : Int) < (m : Int) := by omega
 have hmn0 : 0 < m := by omega
 have hmn1 : 1 < m := by omega
 show Calls _ _ #[.agg #[.slice A1 p.headers.length c1, .slice A2 p.metas.length c2, .slice A3 p.states.length c3, .slice A4 p.actions.length c4, .slice A5 p.tables.length c5, .slice A6 p.control.length c6, .slice A7 p.emit.length c7, .int .i64 act], .agg #[.int .u8 op, .int .i64 lit.1, .int .u64 lit.2.1, .int .u64 lit.2.2, .string head, .string name, .int .i64 hi, .int .i64 lo, .slice A m cap]] _ _
 obtain ⟨wv, hwv, hsv, hbv, hcv, hfv⟩ := box1 w #[.slice A1 p.headers.length c1, .slice A2 p.metas.length c2, .slice A3 p.states.length c3, .slice A4 p.actions.length c4, .slice A5 p.tables.length c5, .slice A6 p.control.length c6, .slice A7 p.emit.length c7, .int .i64 act] 137
 obtain ⟨we, hwe, hse, hbe, hce, hfe⟩ := box1 wv #[.int .u8 op, .int .i64 lit.1, .int .u64 lit.2.1, .int .u64 lit.2.2, .string head, .string name, .int .i64 hi, .int .i64 lo, .slice A m cap] 65
 obtain ⟨wz, hwz, hsz, hbz, hcz, hfz⟩ := box1 we #[.int .i64 0, .bool false, .bool false] 107
 have hEz : Below wz.heap.size wz wz := Below.refl _ _
 have hEe : Below we.heap.size we wz := hbz.trans (hEz.mono (by omega))
 have hEv : Below wv.heap.size wv wz := hbe.trans (hEe.mono (by omega))
 have hw := hide (hbv.trans (hEv.mono (by omega)))
 have cv := fun i => (hEv.cell (p := ⟨w.heap.size, i, none⟩) (by show w.heap.size < _; omega)).trans (hcv i)
 have ce := fun i => (hEe.cell (p := ⟨wv.heap.size, i, none⟩) (by show wv.heap.size < _; omega)).trans (hce i)
 have cz := fun i => (hEz.cell (p := ⟨we.heap.size, i, none⟩) (by show we.heap.size < _; omega)).trans (hcz i)
 have hfr := hfz
 simp only [hsv] at ce
 simp only [hse, hsv] at cz hfr
 obtain ⟨v0, v1, v2, v3, v4, v5, v6, v7⟩ := row8 cv
 obtain ⟨e0, e1, e2, e3, e4, e5, e6, e7, e8⟩ := row9 ce
 obtain ⟨z0, z1, z2⟩ := row3 cz
 have hl1 : w.heap.size < wz.heap.size := by omega
 have hl2 : w.heap.size + 1 < wz.heap.size := by omega
 have hl3 : w.heap.size + 1 + 1 < wz.heap.size := by omega
 clear cv hcv hbv hfv ce hce hbe hfe cz hcz hbz hfz hEv hEe hEz
 replace hsz := hide hsz
 have hBz : B ≤ wz.heap.size := by omega
 have hPz := hP.below (hw.out.mono hB)
 have hSz := hs.below sta_ex (hw.out.mono hB)
 clear hP hs
 obtain ⟨g, o, ecs, hA, hbb, hel, hcell, hr⟩ := hSz.2 0 a rfl
 obtain ⟨g', o', ecs', hA', hbb', hel', hcell', hr'⟩ := hSz.2 1 b rfl
 subst hA
 obtain ⟨rfl, rfl⟩ : g = g' ∧ o = o' := by simpa using hA'
 have hX := hide (fun (W : World) (hb : Below wz.heap.size wz W) => ih ecs W (Nat.le_trans hBz hb.size) (hPz.below (hb.mono hBz)) (sta_ex.keep hr fun q hq => (hb.mono hBz).cell hq))
 have hY := hide (fun (W : World) (hb : Below wz.heap.size wz W) => ih2 ecs' W (Nat.le_trans hBz hb.size) (hPz.below (hb.mono hBz)) (sta_ex.keep hr' fun q hq => (hb.mono hBz).cell hq))
 have hJ := hide (fun (W : World) (hb : Below wz.heap.size wz W) (s t : Ty) (hs : okTy s) (ht : okTy t) => tjoined_any a b ecs ecs' s t B W (Nat.le_trans hBz hb.size) (sta_ex.keep hr fun q hq => (hb.mono hBz).cell hq) (sta_ex.keep hr' fun q hq => (hb.mono hBz).cell hq) hs ht)
 obtain ⟨opa, lita, heada, namea, hia, loa, argsa⟩ := a
 obtain ⟨Aa, capa, rfl, -, -, -, -, -, -, hsa'⟩ := RE.inv hr
 have la := hsa'.len
 obtain ⟨opb, litb, headb, nameb, hib, lob, argsb⟩ := b
 obtain ⟨Ab, capb, rfl, -, -, -, -, -, -, hsb'⟩ := RE.inv hr'
 have lb := hsb'.len
 obtain ⟨x0, x1, x2, x3, x4, x5, x6, x7, x8⟩ := srow9 hcell
 obtain ⟨y0, y1, y2, y3, y4, y5, y6, y7, y8⟩ := srow9 hcell'
 simp only [Nat.zero_mul, Nat.add_zero, Nat.one_mul] at x0 x1 x2 x3 x4 x5 x6 x7 x8 y0 y1 y2 y3 y4 y5 y6 y7 y8
 have hbw : g < wz.heap.size := by omega
 change Hid (∀ W hb, Calls _ _ #[_, .agg #[.int .u8 opa, .int .i64 lita.1, .int .u64 lita.2.1, .int .u64 lita.2.2, .string heada, .string namea, .int .i64 hia, .int .i64 loa, .slice Aa argsa.length capa]] W _) at hX
 change Hid (∀ W hb, Calls _ _ #[_, .agg #[.int .u8 opb, .int .i64 litb.1, .int .u64 litb.2.1, .int .u64 litb.2.2, .string headb, .string nameb, .int .i64 hib, .int .i64 lob, .slice Ab argsb.length capb]] W _) at hY
 change Hid (∀ W hb s t hs ht, Calls _ _ #[.agg #[.int .u8 opa, .int .i64 lita.1, .int .u64 lita.2.1, .int .u64 lita.2.2, .string heada, .string namea, .int .i64 hia, .int .i64 loa, .slice Aa argsa.length capa], .agg #[.int .u8 opb, .int .i64 litb.1, .int .u64 litb.2.1, .int .u64 litb.2.2, .string headb, .string nameb, .int .i64 hib, .int .i64 lob, .slice Ab argsb.length capb], _, _] W _) at hJ
 clear hcell hcell' hr hr' hsa' hsb' hel hel' ih ih2 hSz hPz
 have hv := hide (show pairR op (.mk opa lita heada namea hia loa argsa) (.mk opb litb headb nameb hib lob argsb) ⟨sw, sr, sf⟩ ⟨tw, tr, tf⟩ = if sr && tr then .ok ⟨sw, sr, sf⟩ else .error 9 from by unfold pairR; rw [if_neg n11, if_pos h25])
 generalize pairR op _ _ _ _ = r at hv
 have i14 : (op == 14) = false := beq_eq_false_iff_ne.2 n14
 have i15 : (op == 15) = false := beq_eq_false_iff_ne.2 n15
 have i11 : (op == 11) = false := beq_eq_false_iff_ne.2 n11
 replace hX := hide (show ∀ W, Below wz.heap.size wz W → Calls Tryz.prog _ #[_, .agg #[.int .u8 opa, .int .i64 lita.1, .int .u64 lita.2.1, .int .u64 lita.2.2, .string heada, .string namea, .int .i64 hia, .int .i64 loa, .slice Aa argsa.length capa]] W fun e w' => e = .returned (.agg #[.int .i64 sw, .bool sr, .bool sf]) ∧ Below wz.heap.size wz w' ∧ Below W.heap.size W w' from fun W hb => (hX.out W hb).mono fun e w' h => ⟨h.1.trans (by rw [hra]; rfl), hb.trans (h.2.mono hb.size), h.2⟩)
 clear hJ
 go_enter Tryz.func80, Tryz.ntmps80
 go_upto_region 3 with fail
 go_cut [5] (fun sp wx => ∃ g, sp = .pointer (some ⟨g, 0, none⟩) ∧ Hid (TBox wz wx g sw sr sf))
 case first =>
  refine wp_region_float 5 (w2 := wz.drew.alloc (.cells #[.int .i64 0, .bool false, .bool false] 107)) (vf := .pointer (some ⟨wz.heap.size, 0, none⟩)) (by kernel_rfl) (by kernel_rfl) rfl (fun _ => rfl) (fun _ => by go_simp) ?_
  simp only [List.take_succ_cons, List.take_zero]
  repeat (refine wpTwo_step (fun K hK => ?_); go_simp; refine hK _ ?_; clear hK K)
  refine wpTwo_nil ⟨?_, ?_⟩
  ·go_wp2_with (go_at_call 80; refine (hX.out _ (by exact (Below.refl _ _).drew)).mono ?_; rintro e w3 ⟨rfl, hb3, hb4⟩)
   go_meet
   exact ⟨_, rfl, hide (TBox.new hb3 _ _ _)⟩
  ·go_wp2_with (go_at_call 80; refine (hX.out _ (by exact (Below.refl _ _).drew.alloc (Nat.le_refl _) _)).mono ?_; rintro e w3 ⟨rfl, hb3, hb4⟩; have kb4 := bcell hb4)
   go_meet
   exact ⟨_, rfl, hide (TBox.set rfl hb3 hb4 _ _ _)⟩
 case rest =>
  obtain ⟨gs, rfl, hTs⟩ := hcut
  obtain ⟨wd, rfl⟩ : ∃ wd : World, wd = wc := ⟨_, rfl⟩
  obtain ⟨hbwd, gzs, gls, s0, s1, s2⟩ := hTs.out
  have kwd := bcell' hbwd
  have qwd1 := Nat.lt_of_lt_of_le hl1 hbwd.size
  have qwd2 := Nat.lt_of_lt_of_le hl2 hbwd.size
  have qwd3 := Nat.lt_of_lt_of_le hl3 hbwd.size
  have qwd4 := Nat.lt_of_lt_of_le hbw hbwd.size
  clear hX
  replace hY := hide (show ∀ W, Below wd.heap.size wd W → Calls Tryz.prog _ #[_, .agg #[.int .u8 opb, .int .i64 litb.1, .int .u64 litb.2.1, .int .u64 litb.2.2, .string headb, .string nameb, .int .i64 hib, .int .i64 lob, .slice Ab argsb.length capb]] W fun e w' => e = .returned (.agg #[.int .i64 tw, .bool tr, .bool tf]) ∧ Below wd.heap.size wd w' ∧ Below W.heap.size W w' from fun W hb => (hY.out W (hbwd.trans (hb.mono hbwd.size))).mono fun e w' h => ⟨h.1.trans (by rw [hrb]; rfl), hb.trans (h.2.mono hb.size), h.2⟩)
  go_upto_region 8 with fail
  go_cut [6] (fun sp wx => ∃ g, sp = .pointer (some ⟨g, 0, none⟩) ∧ Hid (TBox wd wx g tw tr tf))
  case first =>
   refine wp_region_float 5 (w2 := wd.drew.alloc (.cells #[.int .i64 0, .bool false, .bool false] 107)) (vf := .pointer (some ⟨wd.heap.size, 0, none⟩)) (by kernel_rfl) (by kernel_rfl) rfl (fun _ => rfl) (fun _ => by go_simp) ?_
   simp only [List.take_succ_cons, List.take_zero]
   repeat (refine wpTwo_step (fun K hK => ?_); go_simp; refine hK _ ?_; clear hK K)
   refine wpTwo_nil ⟨?_, ?_⟩
   ·go_wp2_with (go_at_call 80; refine (hY.out _ (by exact (Below.refl _ _).drew)).mono ?_; rintro e w3 ⟨rfl, hb3, hb4⟩)
    go_meet
    exact ⟨_, rfl, hide (TBox.new hb3 _ _ _)⟩
   ·go_wp2_with (go_at_call 80; refine (hY.out _ (by exact (Below.refl _ _).drew.alloc (Nat.le_refl _) _)).mono ?_; rintro e w3 ⟨rfl, hb3, hb4⟩; have kb4 := bcell hb4)
    go_meet
    exact ⟨_, rfl, hide (TBox.set rfl hb3 hb4 _ _ _)⟩
  case rest =>
   obtain ⟨gt, rfl, hTt⟩ := hcut
   obtain ⟨wt, rfl⟩ : ∃ wt : World, wt = wc := ⟨_, rfl⟩
   obtain ⟨hbwt, gzt, glt, t0, t1, t2⟩ := hTt.out
   have hbE := hbwd.trans (hbwt.mono hbwd.size)
   have kwt := bcell' hbE
   have qwt1 := Nat.lt_of_lt_of_le hl1 hbE.size
   have qwt2 := Nat.lt_of_lt_of_le hl2 hbE.size
   have qwt3 := Nat.lt_of_lt_of_le hl3 hbE.size
   have qwt4 := Nat.lt_of_lt_of_le hbw hbE.size
   have qwt5 := Nat.lt_of_lt_of_le gls hbwt.size
   have s0' := (hbwt.cell (p := ⟨gs, 0, none⟩) gls).trans s0
   have s1' := (hbwt.cell (p := ⟨gs, 1, none⟩) gls).trans s1
   have s2' := (hbwt.cell (p := ⟨gs, 2, none⟩) gls).trans s2
   clear hY s0 s1 s2 kwd qwd1 qwd2 qwd3 qwd4
   cases sr with
   | true =>
    cases tr with
    | true =>
     go_wp2_with (go_at_call 78; refine (ask_yes _ _).mono ?_; rintro e w' ⟨rfl, rfl⟩)
     have hbF := hbE
     have k0 := (hbF.cell (p := ⟨w.heap.size + 1 + 1, 0, none⟩) hl3).trans z0
     have k1 := (hbF.cell (p := ⟨w.heap.size + 1 + 1, 1, none⟩) hl3).trans z1
     have k2 := (hbF.cell (p := ⟨w.heap.size + 1 + 1, 2, none⟩) hl3).trans z2
     refine bodyPost_ret (v := .agg #[.int .i64 sw, .bool true, .bool sf]) (by simp [results, Tryz.results80, go_sem, k0, k1, k2]) rfl ⟨by rw [hv.out]; rfl, ?_⟩
     exact below_set3 (hw.out.trans (hbF.mono (by omega))) (by omega) _ _ _
    | false =>
     go_wp2_with (go_at_call 78; refine (ask_no _ _).mono ?_; rintro e w' ⟨rfl, rfl⟩)
     exact ⟨rfl, by rw [hv.out]; rfl, hw.out.trans (hbE.mono (by omega))⟩
   | false =>
    go_wp2_with (go_at_call 78; refine (ask_no _ _).mono ?_; rintro e w' ⟨rfl, rfl⟩)
    exact ⟨rfl, by rw [hv.out]; rfl, hw.out.trans (hbE.mono (by omega))⟩
end Go.Proofs.YtmfpbahifhndjaaGreat

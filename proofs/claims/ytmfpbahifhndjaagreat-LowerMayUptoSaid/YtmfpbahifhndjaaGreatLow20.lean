import Derived.Test.YtmfpbahifhndjaaGreatLow16
import Derived.Test.YtmfpbahifhndjaaGreatLow19
import Derived.Test.YtmfpbahifhndjaaGreatLow15
import Derived.Deep.DeepCutAuto
set_option linter.all false
/-! Printed by gen_typf.py. Layer 8: of1. -/
namespace Go.Proofs.YtmfpbahifhndjaaGreat
open Go.RowKit
attribute [local go_sem] pureTwo pureAt pureUpon
/-- A type's box, of whatever block. -/
def TBox (wz wx : World) (g : Nat) (n : Int) (tr fr : Bool) : Prop :=
 Below wz.heap.size wz wx ∧ wz.heap.size ≤ g ∧ g < wx.heap.size ∧ wx.cell? ⟨g, 0, none⟩ = some (.int .i64 n) ∧ wx.cell? ⟨g, 1, none⟩ = some (.bool tr) ∧ wx.cell? ⟨g, 2, none⟩ = some (.bool fr)
theorem TBox.new {wz w3 : World} (h : Below wz.heap.size wz w3) (n : Int) (tr fr : Bool) : TBox wz (w3.alloc (.cells #[.int .i64 n, .bool tr, .bool fr] 107)) w3.heap.size n tr fr := by
 have hc : ∀ i, (w3.alloc (.cells #[.int .i64 n, .bool tr, .bool fr] 107)).cell? ⟨w3.heap.size, i, none⟩ = (#[.int .i64 n, .bool tr, .bool fr] : Array Value)[i]? := fun _ => World.cell?_alloc_at _ _ _ _ rfl
 obtain ⟨c0, c1, c2⟩ := row3 hc
 exact ⟨h.alloc h.size _, h.size, by simp, c0, c1, c2⟩
theorem TBox.set {wz w2 w3 : World} (h2 : w2 = wz.drew.alloc (.cells #[.int .i64 0, .bool false, .bool false] 107)) (h3 : Below wz.heap.size wz w3) (h4 : Below w2.heap.size w2 w3) (n : Int) (tr fr : Bool) :
  TBox wz (((w3.setCell ⟨wz.heap.size, 0, none⟩ (.int .i64 n)).setCell ⟨wz.heap.size, 1, none⟩ (.bool tr)).setCell ⟨wz.heap.size, 2, none⟩ (.bool fr)) wz.heap.size n tr fr := by
 have hs : w2.heap.size = wz.heap.size + 1 := by rw [h2]; simp
 have hc : ∀ i, w2.cell? ⟨wz.heap.size, i, none⟩ = (#[.int .i64 0, .bool false, .bool false] : Array Value)[i]? := fun _ => by rw [h2]; exact World.cell?_alloc_at _ _ _ _ rfl
 have hc3 := fun i => (h4.cell (p := ⟨wz.heap.size, i, none⟩) (by show wz.heap.size < _; omega)).trans (hc i)
 obtain ⟨c0, c1, c2⟩ := row3 hc3
 have hlt : wz.heap.size < w3.heap.size := by have := h4.size; omega
 refine ⟨below_set3 h3 (Nat.le_refl _) _ _ _, Nat.le_refl _, by simpa [World.setCell] using hlt, ?_, ?_, ?_⟩ <;> simp [go_sem, c0, c1, c2]
/-- What of1 makes of an expression. -/
def OfIs (A1 A2 A3 A4 A5 A6 A7 : Option Addr) (p : Pg) (c1 c2 c3 c4 c5 c6 c7 : Nat) (act : Int) (B : Nat) (e : Ex) : Prop := ∀ (cs : List Value) (w : World), B ≤ w.heap.size → PgS w B A1 A2 A3 A4 A5 A6 A7 p → rEx w B cs e →
  Calls Tryz.prog 80 #[.agg #[.slice A1 p.headers.length c1, .slice A2 p.metas.length c2, .slice A3 p.states.length c3, .slice A4 p.actions.length c4, .slice A5 p.tables.length c5, .slice A6 p.control.length c6, .slice A7 p.emit.length c7, .int .i64 act], .agg cs.toArray] w fun r w' => r = endR (ofR p act e) ∧ Below w.heap.size w w'
set_option maxRecDepth 100000 in
set_option maxHeartbeats 8000000 in
theorem tof_leaf (A1 A2 A3 A4 A5 A6 A7 : Option Addr) (p : Pg) (c1 c2 c3 c4 c5 c6 c7 : Nat) (act : Int) (B : Nat) (op : Int) (lit : Lt) (head name : ByteArray) (hi lo : Int) (he : allE (.mk op lit head name hi lo []) = true) : OfIs A1 A2 A3 A4 A5 A6 A7 p c1 c2 c3 c4 c5 c6 c7 act B (.mk op lit head name hi lo []) := by
 intro cs w hB hP h
 obtain ⟨A, cap, rfl, -, -, -, -, -, -, hs⟩ := RE.inv h
 have hl := hs.len
 clear h
 show Calls _ _ #[.agg #[.slice A1 p.headers.length c1, .slice A2 p.metas.length c2, .slice A3 p.states.length c3, .slice A4 p.actions.length c4, .slice A5 p.tables.length c5, .slice A6 p.control.length c6, .slice A7 p.emit.length c7, .int .i64 act], .agg #[.int .u8 op, .int .i64 lit.1, .int .u64 lit.2.1, .int .u64 lit.2.2, .string head, .string name, .int .i64 hi, .int .i64 lo, .slice A ([] : List Ex).length cap]] _ _
 obtain ⟨wv, hwv, hsv, hbv, hcv, hfv⟩ := box1 w #[.slice A1 p.headers.length c1, .slice A2 p.metas.length c2, .slice A3 p.states.length c3, .slice A4 p.actions.length c4, .slice A5 p.tables.length c5, .slice A6 p.control.length c6, .slice A7 p.emit.length c7, .int .i64 act] 137
 obtain ⟨we, hwe, hse, hbe, hce, hfe⟩ := box1 wv #[.int .u8 op, .int .i64 lit.1, .int .u64 lit.2.1, .int .u64 lit.2.2, .string head, .string name, .int .i64 hi, .int .i64 lo, .slice A ([] : List Ex).length cap] 65
 obtain ⟨wz, hwz, hsz, hbz, hcz, hfz⟩ := box1 we #[.int .i64 0, .bool false, .bool false] 107
 have hEz : Below wz.heap.size wz wz := Below.refl _ _
 have hEe : Below we.heap.size we wz := hbz.trans (hEz.mono (by omega))
 have hEv : Below wv.heap.size wv wz := hbe.trans (hEe.mono (by omega))
 have hw := hide (hbv.trans (hEv.mono (by omega)))
 have cv := fun i => (hEv.cell (p := ⟨w.heap.size, i, none⟩) (by show w.heap.size < _; omega)).trans (hcv i)
 have ce := fun i => (hEe.cell (p := ⟨wv.heap.size, i, none⟩) (by show wv.heap.size < _; omega)).trans (hce i)
 have cz := fun i => (hEz.cell (p := ⟨we.heap.size, i, none⟩) (by show we.heap.size < _; omega)).trans (hcz i)
 have hfr := hfz
 simp only [hsv] at ce
 simp only [hse, hsv] at cz hfr
 obtain ⟨v0, v1, v2, v3, v4, v5, v6, v7⟩ := row8 cv
 obtain ⟨e0, e1, e2, e3, e4, e5, e6, e7, e8⟩ := row9 ce
 obtain ⟨z0, z1, z2⟩ := row3 cz
 have hl1 : w.heap.size < wz.heap.size := by omega
 have hl2 : w.heap.size + 1 < wz.heap.size := by omega
 have hl3 : w.heap.size + 1 + 1 < wz.heap.size := by omega
 clear cv hcv hbv hfv ce hce hbe hfe cz hcz hbz hfz hEv hEe hEz
 replace hsz := hide hsz
 have hBz : B ≤ wz.heap.size := by omega
 have hPz := hide (hP.below (hw.out.mono hB))
 have hSz := hide (hs.below sta_ex (hw.out.mono hB))
 clear hP hs
 have hL := hide (tleaf_any A1 A2 A3 A4 A5 A6 A7 p c1 c2 c3 c4 c5 c6 c7 act op lit head name hi lo A 0 cap B wz hBz hPz.out)
 have hv := hide (show ofR p act (.mk op lit head name hi lo []) = leafR p act op lit head name from by simp only [ofR])
 simp only [List.length_nil] at *
 generalize leafR p act op lit head name = r at hL hv
 cases r with
 | error n7 =>
  replace hL := hide (show Calls Tryz.prog _ _ wz fun e w' => e = noE n7 ∧ Below wz.heap.size wz w' from hL.out)
  go_enter Tryz.func80, Tryz.ntmps80
  go_wp2_with (go_at_call 105; refine hL.out.mono ?_; rintro e w3 ⟨rfl, hb3⟩)
  exact ⟨rfl, by rw [hv.out]; rfl, hw.out.trans (hb3.mono (by omega))⟩
 | ok t =>
  obtain ⟨tw, tr, tf⟩ := t
  replace hL := hide (show Calls Tryz.prog _ _ wz fun e w' => e = .returned (.agg #[.int .i64 tw, .bool tr, .bool tf]) ∧ Below wz.heap.size wz w' from hL.out)
  go_enter Tryz.func80, Tryz.ntmps80
  go_wp2_with (go_at_call 105; refine hL.out.mono ?_; rintro e w3 ⟨rfl, hb3⟩; have kb3 := bcell' hb3; have zz := Nat.lt_of_lt_of_le hl3 hb3.size)
  have k0 := (hb3.cell (p := ⟨w.heap.size + 1 + 1, 0, none⟩) hl3).trans z0
  have k1 := (hb3.cell (p := ⟨w.heap.size + 1 + 1, 1, none⟩) hl3).trans z1
  have k2 := (hb3.cell (p := ⟨w.heap.size + 1 + 1, 2, none⟩) hl3).trans z2
  refine bodyPost_ret (v := .agg #[.int .i64 tw, .bool tr, .bool tf]) (by simp [results, Tryz.results80, go_sem, k0, k1, k2]) rfl ⟨by rw [hv.out]; rfl, ?_⟩
  exact below_set3 (hw.out.trans (hb3.mono (by omega))) (by omega) _ _ _
set_option maxRecDepth 100000 in
set_option maxHeartbeats 8000000 in
theorem tof_one (A1 A2 A3 A4 A5 A6 A7 : Option Addr) (p : Pg) (c1 c2 c3 c4 c5 c6 c7 : Nat) (act : Int) (B : Nat) (op : Int) (lit : Lt) (head name : ByteArray) (hi lo : Int) (a : Ex) (he : allE (.mk op lit head name hi lo [a]) = true) (ih : OfIs A1 A2 A3 A4 A5 A6 A7 p c1 c2 c3 c4 c5 c6 c7 act B a) : OfIs A1 A2 A3 A4 A5 A6 A7 p c1 c2 c3 c4 c5 c6 c7 act B (.mk op lit head name hi lo [a]) := by
 intro cs w hB hP h
 obtain ⟨A, cap, rfl, -, -, -, -, -, -, hs⟩ := RE.inv h
 have hl := hs.len
 clear h
 show Calls _ _ #[.agg #[.slice A1 p.headers.length c1, .slice A2 p.metas.length c2, .slice A3 p.states.length c3, .slice A4 p.actions.length c4, .slice A5 p.tables.length c5, .slice A6 p.control.length c6, .slice A7 p.emit.length c7, .int .i64 act], .agg #[.int .u8 op, .int .i64 lit.1, .int .u64 lit.2.1, .int .u64 lit.2.2, .string head, .string name, .int .i64 hi, .int .i64 lo, .slice A [a].length cap]] _ _
 obtain ⟨wv, hwv, hsv, hbv, hcv, hfv⟩ := box1 w #[.slice A1 p.headers.length c1, .slice A2 p.metas.length c2, .slice A3 p.states.length c3, .slice A4 p.actions.length c4, .slice A5 p.tables.length c5, .slice A6 p.control.length c6, .slice A7 p.emit.length c7, .int .i64 act] 137
 obtain ⟨we, hwe, hse, hbe, hce, hfe⟩ := box1 wv #[.int .u8 op, .int .i64 lit.1, .int .u64 lit.2.1, .int .u64 lit.2.2, .string head, .string name, .int .i64 hi, .int .i64 lo, .slice A [a].length cap] 65
 obtain ⟨wz, hwz, hsz, hbz, hcz, hfz⟩ := box1 we #[.int .i64 0, .bool false, .bool false] 107
 have hEz : Below wz.heap.size wz wz := Below.refl _ _
 have hEe : Below we.heap.size we wz := hbz.trans (hEz.mono (by omega))
 have hEv : Below wv.heap.size wv wz := hbe.trans (hEe.mono (by omega))
 have hw := hide (hbv.trans (hEv.mono (by omega)))
 have cv := fun i => (hEv.cell (p := ⟨w.heap.size, i, none⟩) (by show w.heap.size < _; omega)).trans (hcv i)
 have ce := fun i => (hEe.cell (p := ⟨wv.heap.size, i, none⟩) (by show wv.heap.size < _; omega)).trans (hce i)
 have cz := fun i => (hEz.cell (p := ⟨we.heap.size, i, none⟩) (by show we.heap.size < _; omega)).trans (hcz i)
 have hfr := hfz
 simp only [hsv] at ce
 simp only [hse, hsv] at cz hfr
 obtain ⟨v0, v1, v2, v3, v4, v5, v6, v7⟩ := row8 cv
 obtain ⟨e0, e1, e2, e3, e4, e5, e6, e7, e8⟩ := row9 ce
 obtain ⟨z0, z1, z2⟩ := row3 cz
 have hl1 : w.heap.size < wz.heap.size := by omega
 have hl2 : w.heap.size + 1 < wz.heap.size := by omega
 have hl3 : w.heap.size + 1 + 1 < wz.heap.size := by omega
 clear cv hcv hbv hfv ce hce hbe hfe cz hcz hbz hfz hEv hEe hEz
 replace hsz := hide hsz
 have hBz : B ≤ wz.heap.size := by omega
 have hPz := hide (hP.below (hw.out.mono hB))
 have hSz := hide (hs.below sta_ex (hw.out.mono hB))
 clear hP hs
 obtain ⟨b, o, ecs, hA, hbb, hel, hcell, hr⟩ := hSz.out.2 0 a rfl
 subst hA
 have hX := hide (fun (W : World) (hb : Below wz.heap.size wz W) => ih ecs W (Nat.le_trans hBz hb.size) (hPz.out.below (hb.mono hBz)) (sta_ex.keep hr fun q hq => (hb.mono hBz).cell hq))
 have hv0 := hide (show ofR p act (.mk op lit head name hi lo [a]) = (match ofR p act a with | .error n => .error n | .ok s => oneR op hi lo s) from by simp only [ofR]; cases ofR p act a <;> rfl)
 have hform : op = 10 → 0 ≤ lo ∧ lo ≤ hi ∧ hi < 128 := by
  simp only [allE, Bool.and_eq_true] at he
  exact (one_form he.1.1).2
 obtain ⟨rr, hrr⟩ : ∃ rr, ofR p act (.mk op lit head name hi lo [a]) = rr := ⟨_, rfl⟩
 rw [hrr] at hv0 ⊢
 clear ih hrr he
 generalize ofR p act a = ra at hX hv0
 obtain ⟨opa, lita, heada, namea, hia, loa, argsa⟩ := a
 obtain ⟨Aa, capa, rfl, -, -, -, -, -, -, hsa'⟩ := RE.inv hr
 have la := hsa'.len
 obtain ⟨x0, x1, x2, x3, x4, x5, x6, x7, x8⟩ := srow9 hcell
 simp only [Nat.zero_mul, Nat.add_zero, List.length_singleton] at *
 have hbw : b < wz.heap.size := by omega
 change Hid (∀ W hb, Calls _ _ #[_, .agg #[.int .u8 opa, .int .i64 lita.1, .int .u64 lita.2.1, .int .u64 lita.2.2, .string heada, .string namea, .int .i64 hia, .int .i64 loa, .slice Aa argsa.length capa]] W _) at hX
 clear hcell hr hsa' hel
 cases ra with
 | error n7 =>
  have hv := hide (show rr = .error n7 from hv0.out)
  replace hX := hide (show ∀ W, Below wz.heap.size wz W → Calls Tryz.prog _ #[_, .agg #[.int .u8 opa, .int .i64 lita.1, .int .u64 lita.2.1, .int .u64 lita.2.2, .string heada, .string namea, .int .i64 hia, .int .i64 loa, .slice Aa argsa.length capa]] W fun e w' => e = noE n7 ∧ Below wz.heap.size wz w' ∧ Below W.heap.size W w' from fun W hb => (hX.out W hb).mono fun e w' h => ⟨h.1, hb.trans (h.2.mono hb.size), h.2⟩)
  have hb0 : Below wz.heap.size wz wz := Below.refl _ _
  have hg := gcell' hb0 hb0.size
  clear hv0
  go_enter Tryz.func80, Tryz.ntmps80
  go_wp2_with fail
  refine wp_region_float 5 (w2 := wz.drew.alloc (.cells #[.int .i64 0, .bool false, .bool false] 107)) (vf := .pointer (some ⟨wz.heap.size, 0, none⟩)) (by kernel_rfl) (by kernel_rfl) rfl (fun _ => rfl) (fun _ => by go_simp) ?_
  simp only [List.take_succ_cons, List.take_zero]
  repeat (refine wpTwo_step (fun K hK => ?_); go_simp; refine hK _ ?_; clear hK K)
  refine wpTwo_nil ⟨?_, ?_⟩
  all_goals
   go_wp2_with (go_at_call 80; refine (hX.out _ (by first | exact (Below.refl _ _).drew | exact (Below.refl _ _).drew.alloc (Nat.le_refl _) _)).mono ?_; rintro e w3 ⟨rfl, hb3, hb4⟩)
   exact ⟨rfl, by rw [hv.out]; rfl, hw.out.trans (hb3.mono (by omega))⟩
 | ok s =>
  obtain ⟨sw, sr, sf⟩ := s
  replace hX := hide (show ∀ W, Below wz.heap.size wz W → Calls Tryz.prog _ #[_, .agg #[.int .u8 opa, .int .i64 lita.1, .int .u64 lita.2.1, .int .u64 lita.2.2, .string heada, .string namea, .int .i64 hia, .int .i64 loa, .slice Aa argsa.length capa]] W fun e w' => e = .returned (.agg #[.int .i64 sw, .bool sr, .bool sf]) ∧ Below wz.heap.size wz w' ∧ Below W.heap.size W w' from fun W hb => (hX.out W hb).mono fun e w' h => ⟨h.1, hb.trans (h.2.mono hb.size), h.2⟩)
  have hT := hide (fun (W : World) => tone_any op lit head name hi lo (some ⟨b, o, none⟩) 1 cap ⟨sw, sr, sf⟩ W hform)
  have hv1 := hide (show oneR op hi lo ⟨sw, sr, sf⟩ = rr from hv0.out.symm)
  have hb0 : Below wz.heap.size wz wz := Below.refl _ _
  have hg := gcell' hb0 hb0.size
  clear hv0
  rw [hv1.out] at hT
  go_enter Tryz.func80, Tryz.ntmps80
  go_upto_region 3 with fail
  go_cut [5] (fun sp wx => ∃ g, sp = .pointer (some ⟨g, 0, none⟩) ∧ Hid (TBox wz wx g sw sr sf))
  case first =>
   refine wp_region_float 5 (w2 := wz.drew.alloc (.cells #[.int .i64 0, .bool false, .bool false] 107)) (vf := .pointer (some ⟨wz.heap.size, 0, none⟩)) (by kernel_rfl) (by kernel_rfl) rfl (fun _ => rfl) (fun _ => by go_simp) ?_
   simp only [List.take_succ_cons, List.take_zero]
   repeat (refine wpTwo_step (fun K hK => ?_); go_simp; refine hK _ ?_; clear hK K)
   refine wpTwo_nil ⟨?_, ?_⟩
   ·go_wp2_with (go_at_call 80; refine (hX.out _ (by exact (Below.refl _ _).drew)).mono ?_; rintro e w3 ⟨rfl, hb3, hb4⟩)
    go_meet
    exact ⟨_, rfl, hide (TBox.new hb3 _ _ _)⟩
   ·go_wp2_with (go_at_call 80; refine (hX.out _ (by exact (Below.refl _ _).drew.alloc (Nat.le_refl _) _)).mono ?_; rintro e w3 ⟨rfl, hb3, hb4⟩; have kb4 := bcell hb4)
    go_meet
    exact ⟨_, rfl, hide (TBox.set rfl hb3 hb4 _ _ _)⟩
  case rest =>
   obtain ⟨g, rfl, hT0⟩ := hcut
   obtain ⟨hbc, hgz, hgl, s0, s1, s2⟩ := hT0.out
   have kbc := bcell' hbc
   have q1 := Nat.lt_of_lt_of_le hl1 hbc.size
   have q2 := Nat.lt_of_lt_of_le hl2 hbc.size
   have q3 := Nat.lt_of_lt_of_le hl3 hbc.size
   have hT1 := hide (hT.out wc)
   clear hT hX hb0 hg
   cases rr with
   | error n7 =>
    replace hT1 := hide (show Calls Tryz.prog _ _ wc fun e w' => e = noE n7 ∧ Below wc.heap.size wc w' from hT1.out)
    go_wp2_with (go_at_call 106; refine hT1.out.mono ?_; rintro e w4 ⟨rfl, hb4⟩)
    exact ⟨rfl, rfl, hw.out.trans ((hbc.trans (hb4.mono hbc.size)).mono (by omega))⟩
   | ok t =>
    obtain ⟨tw, tr, tf⟩ := t
    replace hT1 := hide (show Calls Tryz.prog _ _ wc fun e w' => e = .returned (.agg #[.int .i64 tw, .bool tr, .bool tf]) ∧ Below wc.heap.size wc w' from hT1.out)
    go_wp2_with (go_at_call 106; refine hT1.out.mono ?_; rintro e w4 ⟨rfl, hb4⟩; have kb4 := bcell' (hbc.trans (hb4.mono hbc.size)))
    have hbE := hbc.trans (hb4.mono hbc.size)
    have k0 := (hbE.cell (p := ⟨w.heap.size + 1 + 1, 0, none⟩) hl3).trans z0
    have k1 := (hbE.cell (p := ⟨w.heap.size + 1 + 1, 1, none⟩) hl3).trans z1
    have k2 := (hbE.cell (p := ⟨w.heap.size + 1 + 1, 2, none⟩) hl3).trans z2
    refine bodyPost_ret (v := .agg #[.int .i64 tw, .bool tr, .bool tf]) (by simp [results, Tryz.results80, go_sem, k0, k1, k2]) rfl ⟨rfl, ?_⟩
    exact below_set3 (hw.out.trans (hbE.mono (by omega))) (by omega) _ _ _
end Go.Proofs.YtmfpbahifhndjaaGreat

import Derived.Test.YtmfpbahifhndjaaGreatLow16
set_option linter.all false
/-! Layer 8: field, one, joined. -/
namespace Go.Proofs.YtmfpbahifhndjaaGreat
open Go.RowKit
theorem below_set3 {B a : Nat} {w W : World} (h : Below B w W) (ha : B ≤ a) (u v x : Value) : Below B w (((W.setCell ⟨a, 0, none⟩ u).setCell ⟨a, 1, none⟩ v).setCell ⟨a, 2, none⟩ x) :=
 ((h.setCell (p := ⟨a, 0, none⟩) ha _).setCell (p := ⟨a, 1, none⟩) ha _).setCell (p := ⟨a, 2, none⟩) ha _
set_option maxHeartbeats 2000000 in
theorem tfield_any (l : List Fd) (A : Option Addr) (cap : Nat) (i : Int) (w : World) {B : Nat} (hB : B ≤ w.heap.size) (hS : Sl 2 rFd w B A l) (hi : i < (l.length : Int)) :
  Calls Tryz.prog 123 #[.slice A l.length cap, .int .i64 i] w fun e w' => e = endR (fieldR l i) ∧ Below w.heap.size w w' := by
 have hl := hS.len
 obtain ⟨wb, hwb, hsb, hbb, hcb, hfb⟩ := box1 w #[.int .i64 0, .bool false, .bool false] 107
 obtain ⟨z0, z1, z2⟩ := row3 hcb
 have hS2 := hS.below sta_fd (hbb.mono hB)
 have hw := hide hbb
 have hl1 : w.heap.size < wb.heap.size := by omega
 clear hcb hbb hS
 replace hsb := hide hsb
 by_cases h0 : 0 ≤ i
 ·obtain ⟨k, rfl⟩ := Int.eq_ofNat_of_zero_le h0
  have hlt : k < l.length := by omega
  obtain ⟨b, o, ecs, rfl, hb, hel, hcell, rfl, -, -⟩ := hS2.2 k _ (List.getElem?_eq_getElem hlt)
  have x0 : wb.cell? ⟨b, o + k * 2, none⟩ = some (.string l[k].1) := by simpa using hcell 0 _ rfl
  have x1 : wb.cell? ⟨b, o + k * 2 + 1, none⟩ = some (.int .i64 l[k].2) := hcell 1 _ rfl
  have hv := hide (show fieldR l (k : Int) = .ok ⟨l[k].2, false, false⟩ from by
   unfold fieldR
   rw [if_neg (by omega), Int.toNat_natCast, List.getElem?_eq_getElem hlt]; rfl)
  generalize l[k].2 = n at x1 hv
  clear hcell hS2
  go_enter Tryz.func123, Tryz.ntmps123
  go_wp2_with (go_at_call 78; refine (ask_yes _ _).mono ?_; rintro e w' ⟨rfl, rfl⟩)
  refine bodyPost_ret (v := .agg #[.int .i64 n, .bool false, .bool false]) (by simp [results, Tryz.results123, go_sem, z0, z1, z2]) rfl ⟨by rw [hv.out]; rfl, ?_⟩
  exact below_set3 hw.out (by omega) _ _ _
 ·have hv := hide (show fieldR l i = .error 7 from by unfold fieldR; rw [if_pos (by omega)])
  go_enter Tryz.func123, Tryz.ntmps123
  go_wp2_with (go_at_call 78; refine (ask_no _ _).mono ?_; rintro e w' ⟨rfl, rfl⟩)
  exact ⟨rfl, by rw [hv.out]; rfl, hw.out⟩
set_option maxRecDepth 100000 in
set_option maxHeartbeats 4000000 in
theorem tone_any (op : Int) (lit : Lt) (head name : ByteArray) (hi lo : Int) (A : Option Addr) (n cap : Nat) (t : Ty) (w : World) (hop : op = 10 → 0 ≤ lo ∧ lo ≤ hi ∧ hi < 128) :
  Calls Tryz.prog 106 #[.agg #[.int .u8 op, .int .i64 lit.1, .int .u64 lit.2.1, .int .u64 lit.2.2, .string head, .string name, .int .i64 hi, .int .i64 lo, .slice A n cap], .agg #[.int .i64 t.w, .bool t.truth, .bool t.free]] w fun e w' => e = endR (oneR op hi lo t) ∧ Below w.heap.size w w' := by
 obtain ⟨wa, hwa, hsa, hba, hca, -⟩ := box1 w #[.int .u8 op, .int .i64 lit.1, .int .u64 lit.2.1, .int .u64 lit.2.2, .string head, .string name, .int .i64 hi, .int .i64 lo, .slice A n cap] 65
 obtain ⟨wb, hwb, hsb, hbb, hcb, -⟩ := box1 wa #[.int .i64 t.w, .bool t.truth, .bool t.free] 107
 obtain ⟨wc, hwc, hsc, hbc, hcc, hfc⟩ := box1 wb #[.int .i64 0, .bool false, .bool false] 107
 have hw := hide (hba.trans ((hbb.mono (by omega)).trans (hbc.mono (by omega))))
 have qa : ∀ i, wc.cell? ⟨w.heap.size, i, none⟩ = wa.cell? ⟨w.heap.size, i, none⟩ := fun i => (hbc.cell (p := ⟨w.heap.size, i, none⟩) (by show w.heap.size < _; omega)).trans (hbb.cell (p := ⟨w.heap.size, i, none⟩) (by show w.heap.size < _; omega))
 have qb : ∀ i, wc.cell? ⟨wa.heap.size, i, none⟩ = wb.cell? ⟨wa.heap.size, i, none⟩ := fun i => hbc.cell (p := ⟨wa.heap.size, i, none⟩) (by show wa.heap.size < _; omega)
 have hca' := fun i => (qa i).trans (hca i)
 have hcb' := fun i => (qb i).trans (hcb i)
 simp only [hsa] at hcb'
 simp only [hsb, hsa] at hcc hfc
 obtain ⟨e0, e1, e2, e3, e4, e5, e6, e7, e8⟩ := row9 hca'
 obtain ⟨y0, y1, y2⟩ := row3 hcb'
 obtain ⟨z0, z1, z2⟩ := row3 hcc
 have hl1 : w.heap.size < wc.heap.size := by omega
 have hl2 : w.heap.size + 1 < wc.heap.size := by omega
 have hl3 : w.heap.size + 1 + 1 < wc.heap.size := by omega
 have hv := hide (show oneR op hi lo t = (if op = 9 then if t.truth then .ok t else .error 9 else if op = 10 then if t.truth then .error 9 else if t.free then .error 10 else if hi < t.w then .ok ⟨hi - lo + 1, false, false⟩ else .error 5 else if t.truth then .error 9 else .ok t) from rfl)
 obtain ⟨tw, tr, fr⟩ := t
 clear qa qb hca hcb hca' hcb' hcc hba hbb hbc
 replace hsc := hide hsc
 simp only at *
 by_cases h9 : op = 9
 ·subst h9
  clear hop
  cases tr with
  | true =>
   go_enter Tryz.func106, Tryz.ntmps106
   go_wp2_with (go_at_call 78; refine (ask_yes _ _).mono ?_; rintro e w' ⟨rfl, rfl⟩)
   refine bodyPost_ret (v := .agg #[.int .i64 tw, .bool true, .bool fr]) (by simp [results, Tryz.results106, go_sem, z0, z1, z2]) rfl ⟨by rw [hv.out]; rfl, ?_⟩
   exact below_set3 hw.out (by omega) _ _ _
  | false =>
   go_enter Tryz.func106, Tryz.ntmps106
   go_wp2_with (go_at_call 78; refine (ask_no _ _).mono ?_; rintro e w' ⟨rfl, rfl⟩)
   exact ⟨rfl, by rw [hv.out]; rfl, hw.out⟩
 ·by_cases h10 : op = 10
  ·obtain ⟨g1, g2, g3⟩ := hop h10
   subst h10
   clear hop
   cases tr with
   | true =>
    go_enter Tryz.func106, Tryz.ntmps106
    go_wp2_with (go_at_call 107; refine (tbits_t _ _ _).mono ?_; rintro e w' ⟨rfl, hb1⟩)
    exact ⟨rfl, by rw [hv.out]; rfl, hw.out.trans (hb1.mono (by omega))⟩
   | false =>
    cases fr with
    | true =>
     go_enter Tryz.func106, Tryz.ntmps106
     go_wp2_with (go_at_call 107; refine (tbits_f _ _).mono ?_; rintro e w' ⟨rfl, hb1⟩)
     exact ⟨rfl, by rw [hv.out]; rfl, hw.out.trans (hb1.mono (by omega))⟩
    | false =>
     by_cases hlt : hi < tw
     ·go_enter Tryz.func106, Tryz.ntmps106
      go_wp2_with (first | (go_at_call 107; refine (tbits_k _ _).mono ?_; rintro e w1 ⟨rfl, hb1⟩; have kb1 := bcell' hb1; have zz1 := Nat.lt_of_lt_of_le hl3 hb1.size) | (go_at_call 78; refine (ask_yes _ _).mono ?_; rintro e w' ⟨rfl, rfl⟩))
      have k0 := (kb1.1 _ 0 hl3).trans z0
      have k1 := (kb1.1 _ 1 hl3).trans z1
      have k2 := (kb1.1 _ 2 hl3).trans z2
      refine bodyPost_ret (v := .agg #[.int .i64 (hi - lo + 1), .bool false, .bool false]) (by simp [results, Tryz.results106, go_sem, k0, k1, k2]) rfl ⟨by rw [hv.out, if_neg h9]; simp [endR, tyC, hlt], ?_⟩
      exact below_set3 (hw.out.trans (hb1.mono (by omega))) (by omega) _ _ _
     ·have hlq : decide (hi < tw) = false := decide_eq_false hlt
      go_enter Tryz.func106, Tryz.ntmps106
      go_wp2_with (first | (go_at_call 107; refine (tbits_k _ _).mono ?_; rintro e w1 ⟨rfl, hb1⟩; have kb1 := bcell' hb1; have zz1 := Nat.lt_of_lt_of_le hl3 hb1.size) | (go_at_call 78; refine (ask_no _ _).mono ?_; rintro e w' ⟨rfl, rfl⟩))
      exact ⟨rfl, by rw [hv.out, if_neg h9]; simp [endR, show ¬ hi < tw from by omega], hw.out.trans (hb1.mono (by omega))⟩
  ·clear hop
   cases tr with
   | true =>
    go_enter Tryz.func106, Tryz.ntmps106
    go_wp2_with (go_at_call 78; refine (ask_no _ _).mono ?_; rintro e w' ⟨rfl, rfl⟩)
    exact ⟨rfl, by rw [hv.out, if_neg h9, if_neg h10]; rfl, hw.out⟩
   | false =>
    go_enter Tryz.func106, Tryz.ntmps106
    go_wp2_with (go_at_call 78; refine (ask_yes _ _).mono ?_; rintro e w' ⟨rfl, rfl⟩)
    refine bodyPost_ret (v := .agg #[.int .i64 tw, .bool false, .bool fr]) (by simp [results, Tryz.results106, go_sem, z0, z1, z2]) rfl ⟨by rw [hv.out, if_neg h9, if_neg h10]; rfl, ?_⟩
    exact below_set3 hw.out (by omega) _ _ _
end Go.Proofs.YtmfpbahifhndjaaGreat
/-! Printed by gen_typ.py. Layer 8: joined. -/
namespace Go.Proofs.YtmfpbahifhndjaaGreat
open Go.RowKit
set_option maxRecDepth 100000 in
set_option maxHeartbeats 4000000 in
theorem tjoined_any (a b : Ex) (ca cb : List Value) (s t : Ty) (B : Nat) (w : World) (hB : B ≤ w.heap.size) (ha : rEx w B ca a) (hb : rEx w B cb b) (hs : okTy s) (ht : okTy t) :
  Calls Tryz.prog 108 #[.agg ca.toArray, .agg cb.toArray, .agg #[.int .i64 s.w, .bool s.truth, .bool s.free], .agg #[.int .i64 t.w, .bool t.truth, .bool t.free]] w fun e w' => e = endR (joinR a b s t) ∧ Below w.heap.size w w' := by
 have hfa := hide (fun (n : Nat) (h1 : 1 ≤ n) (h2 : n ≤ 128) (W : World) (hW : Below w.heap.size w W) => tfits_any n h1 h2 a ca W B (Nat.le_trans hB hW.size) (sta_ex.keep ha fun q hq => (hW.mono hB).cell hq))
 have hfb' := hide (fun (n : Nat) (h1 : 1 ≤ n) (h2 : n ≤ 128) (W : World) (hW : Below w.heap.size w W) => tfits_any n h1 h2 b cb W B (Nat.le_trans hB hW.size) (sta_ex.keep hb fun q hq => (hW.mono hB).cell hq))
 have hv0 := hide (show joinR a b s t = (if s.truth || t.truth then .error 9 else if s.free && t.free then .error 10 else if s.free then (if fitsE t.w a then .ok t else .error 5) else if t.free then (if fitsE s.w b then .ok s else .error 5) else if s.w = t.w then .ok s else .error 10) from rfl)
 generalize joinR a b s t = r at hv0
 have hga : ∃ f : Int → Bool, ∀ n, fitsE n a = f n := ⟨fun n => fitsE n a, fun _ => rfl⟩
 obtain ⟨fa, hga⟩ := hga
 have hgb : ∃ f : Int → Bool, ∀ n, fitsE n b = f n := ⟨fun n => fitsE n b, fun _ => rfl⟩
 obtain ⟨fb, hgb⟩ := hgb
 simp only [hga, hgb] at hv0 hfa hfb'
 obtain ⟨opa, lita, heada, namea, hia, loa, argsa⟩ := a
 obtain ⟨Aa, capa, rfl, -, -, -, -, -, -, hsa'⟩ := RE.inv ha
 have la := hsa'.len
 obtain ⟨opb, litb, headb, nameb, hib, lob, argsb⟩ := b
 obtain ⟨Ab, capb, rfl, -, -, -, -, -, -, hsb'⟩ := RE.inv hb
 have lb := hsb'.len
 clear ha hb hsa' hsb' hga hgb
 obtain ⟨sw, sr, sf⟩ := s
 obtain ⟨tw, tr, tf⟩ := t
 simp only at *
 show Calls _ _ #[.agg #[.int .u8 opa, .int .i64 lita.1, .int .u64 lita.2.1, .int .u64 lita.2.2, .string heada, .string namea, .int .i64 hia, .int .i64 loa, .slice Aa argsa.length capa], .agg #[.int .u8 opb, .int .i64 litb.1, .int .u64 litb.2.1, .int .u64 litb.2.2, .string headb, .string nameb, .int .i64 hib, .int .i64 lob, .slice Ab argsb.length capb], _, _] _ _
 change Hid (∀ n h1 h2 W hW, Calls _ _ #[.agg #[.int .u8 opa, .int .i64 lita.1, .int .u64 lita.2.1, .int .u64 lita.2.2, .string heada, .string namea, .int .i64 hia, .int .i64 loa, .slice Aa argsa.length capa], _] _ _) at hfa
 change Hid (∀ n h1 h2 W hW, Calls _ _ #[.agg #[.int .u8 opb, .int .i64 litb.1, .int .u64 litb.2.1, .int .u64 litb.2.2, .string headb, .string nameb, .int .i64 hib, .int .i64 lob, .slice Ab argsb.length capb], _] _ _) at hfb'
 obtain ⟨wa, hwa, hsa, hba, hca, hfa⟩ := box1 w #[.int .u8 opa, .int .i64 lita.1, .int .u64 lita.2.1, .int .u64 lita.2.2, .string heada, .string namea, .int .i64 hia, .int .i64 loa, .slice Aa argsa.length capa] 65
 obtain ⟨wb, hwb, hsb, hbb, hcb, hfb⟩ := box1 wa #[.int .u8 opb, .int .i64 litb.1, .int .u64 litb.2.1, .int .u64 litb.2.2, .string headb, .string nameb, .int .i64 hib, .int .i64 lob, .slice Ab argsb.length capb] 65
 obtain ⟨wx, hwx, hsx, hbx, hcx, hfx⟩ := box1 wb #[.int .i64 sw, .bool sr, .bool sf] 107
 obtain ⟨wy, hwy, hsy, hby, hcy, hfy⟩ := box1 wx #[.int .i64 tw, .bool tr, .bool tf] 107
 obtain ⟨wz, hwz, hsz, hbz, hcz, hfz⟩ := box1 wy #[.int .i64 0, .bool false, .bool false] 107
 have hEz : Below wz.heap.size wz wz := Below.refl _ _
 have hEy : Below wy.heap.size wy wz := hbz.trans (hEz.mono (by omega))
 have hEx : Below wx.heap.size wx wz := hby.trans (hEy.mono (by omega))
 have hEb : Below wb.heap.size wb wz := hbx.trans (hEx.mono (by omega))
 have hEa : Below wa.heap.size wa wz := hbb.trans (hEb.mono (by omega))
 have hw := hide (hba.trans (hEa.mono (by omega)))
 have ca := fun i => (hEa.cell (p := ⟨w.heap.size, i, none⟩) (by show w.heap.size < _; omega)).trans (hca i)
 have cb := fun i => (hEb.cell (p := ⟨wa.heap.size, i, none⟩) (by show wa.heap.size < _; omega)).trans (hcb i)
 have cx := fun i => (hEx.cell (p := ⟨wb.heap.size, i, none⟩) (by show wb.heap.size < _; omega)).trans (hcx i)
 have cy := fun i => (hEy.cell (p := ⟨wx.heap.size, i, none⟩) (by show wx.heap.size < _; omega)).trans (hcy i)
 have cz := fun i => (hEz.cell (p := ⟨wy.heap.size, i, none⟩) (by show wy.heap.size < _; omega)).trans (hcz i)
 have hfr := hfz
 simp only [hsa] at cb
 simp only [hsb, hsa] at cx
 simp only [hsx, hsb, hsa] at cy
 simp only [hsy, hsx, hsb, hsa] at cz hfr
 obtain ⟨a0, a1, a2, a3, a4, a5, a6, a7, a8⟩ := row9 ca
 obtain ⟨b0, b1, b2, b3, b4, b5, b6, b7, b8⟩ := row9 cb
 obtain ⟨x0, x1, x2⟩ := row3 cx
 obtain ⟨y0, y1, y2⟩ := row3 cy
 obtain ⟨z0, z1, z2⟩ := row3 cz
 have hl1 : w.heap.size < wz.heap.size := by omega
 have hl2 : w.heap.size + 1 < wz.heap.size := by omega
 have hl3 : w.heap.size + 1 + 1 < wz.heap.size := by omega
 have hl4 : w.heap.size + 1 + 1 + 1 < wz.heap.size := by omega
 have hl5 : w.heap.size + 1 + 1 + 1 + 1 < wz.heap.size := by omega
 clear ca hca hba hfa cb hcb hbb hfb cx hcx hbx hfx cy hcy hby hfy cz hcz hbz hfz hEa hEb hEx hEy hEz
 replace hsz := hide hsz
 cases sr with
 | true =>
  clear hfa hfb'
  have hv := hide (show r = .error 9 from by rw [hv0.out]; simp)
  go_enter Tryz.func108, Tryz.ntmps108
  go_wp2_with (go_at_call 78; first | (with_reducible refine (ask_yes _ _).mono ?_; rintro e w' ⟨rfl, rfl⟩) | (with_reducible refine (ask_no _ _).mono ?_; rintro e w' ⟨rfl, rfl⟩))
  exact ⟨rfl, by rw [hv.out]; rfl, hw.out⟩
 | false =>
  cases tr with
  | true =>
   clear hfa hfb'
   have hv := hide (show r = .error 9 from by rw [hv0.out]; simp)
   go_enter Tryz.func108, Tryz.ntmps108
   go_wp2_with (go_at_call 78; first | (with_reducible refine (ask_yes _ _).mono ?_; rintro e w' ⟨rfl, rfl⟩) | (with_reducible refine (ask_no _ _).mono ?_; rintro e w' ⟨rfl, rfl⟩))
   exact ⟨rfl, by rw [hv.out]; rfl, hw.out⟩
  | false =>
   cases sf with
   | true =>
    cases tf with
    | true =>
     clear hfa hfb'
     have hv := hide (show r = .error 10 from by rw [hv0.out]; simp)
     go_enter Tryz.func108, Tryz.ntmps108
     go_wp2_with (go_at_call 78; first | (with_reducible refine (ask_yes _ _).mono ?_; rintro e w' ⟨rfl, rfl⟩) | (with_reducible refine (ask_no _ _).mono ?_; rintro e w' ⟨rfl, rfl⟩))
     exact ⟨rfl, by rw [hv.out]; rfl, hw.out⟩
    | false =>
     obtain ⟨g1, g2⟩ : 1 ≤ tw ∧ tw ≤ 128 := ht.2 rfl rfl
     obtain ⟨n, rfl⟩ := Int.eq_ofNat_of_zero_le (show 0 ≤ tw by omega)
     have hF := hide (hfa.out n (by omega) (by omega) _ hw.out)
     simp only at hF hv0
     clear hfa hfb'
     generalize fa (n : Int) = f at hF hv0
     cases f with
     | true =>
      have hv := hide (show r = .ok ⟨(n : Int), false, false⟩ from by rw [hv0.out]; simp)
      go_enter Tryz.func108, Tryz.ntmps108
      go_wp2_with (first | (go_at_call 78; first | (with_reducible refine (ask_yes _ _).mono ?_; rintro e w' ⟨rfl, rfl⟩) | (with_reducible refine (ask_no _ _).mono ?_; rintro e w' ⟨rfl, rfl⟩)) | (go_at_call 124; refine hF.out.mono ?_; rintro e w1 ⟨rfl, hw1⟩; have kb1 := bcell' hw1; have zz1 := Nat.lt_of_lt_of_le hl5 hw1.size; have zz2 := Nat.lt_of_lt_of_le hl1 hw1.size; have zz3 := Nat.lt_of_lt_of_le hl2 hw1.size; have zz4 := Nat.lt_of_lt_of_le hl3 hw1.size; have zz5 := Nat.lt_of_lt_of_le hl4 hw1.size))
      have k0 := (kb1.1 _ 0 hl5).trans z0
      have k1 := (kb1.1 _ 1 hl5).trans z1
      have k2 := (kb1.1 _ 2 hl5).trans z2
      refine bodyPost_ret (v := .agg #[.int .i64 (n : Int), .bool false, .bool false]) (by simp [results, Tryz.results108, go_sem, k0, k1, k2]) rfl ⟨by rw [hv.out]; rfl, ?_⟩
      exact below_set3 (hw.out.trans (hw1.mono (by omega))) (by omega) _ _ _
     | false =>
      have hv := hide (show r = .error 5 from by rw [hv0.out]; simp)
      go_enter Tryz.func108, Tryz.ntmps108
      go_wp2_with (first | (go_at_call 78; first | (with_reducible refine (ask_yes _ _).mono ?_; rintro e w' ⟨rfl, rfl⟩) | (with_reducible refine (ask_no _ _).mono ?_; rintro e w' ⟨rfl, rfl⟩)) | (go_at_call 124; refine hF.out.mono ?_; rintro e w1 ⟨rfl, hw1⟩; have kb1 := bcell' hw1; have zz1 := Nat.lt_of_lt_of_le hl5 hw1.size; have zz2 := Nat.lt_of_lt_of_le hl1 hw1.size; have zz3 := Nat.lt_of_lt_of_le hl2 hw1.size; have zz4 := Nat.lt_of_lt_of_le hl3 hw1.size; have zz5 := Nat.lt_of_lt_of_le hl4 hw1.size))
      exact ⟨rfl, by rw [hv.out]; rfl, (hw.out.trans (hw1.mono (by omega)))⟩
   | false =>
    cases tf with
    | true =>
     obtain ⟨g1, g2⟩ : 1 ≤ sw ∧ sw ≤ 128 := hs.2 rfl rfl
     obtain ⟨n, rfl⟩ := Int.eq_ofNat_of_zero_le (show 0 ≤ sw by omega)
     have hF := hide (hfb'.out n (by omega) (by omega) _ hw.out)
     simp only at hF hv0
     clear hfa hfb'
     generalize fb (n : Int) = f at hF hv0
     cases f with
     | true =>
      have hv := hide (show r = .ok ⟨(n : Int), false, false⟩ from by rw [hv0.out]; simp)
      go_enter Tryz.func108, Tryz.ntmps108
      go_wp2_with (first | (go_at_call 78; first | (with_reducible refine (ask_yes _ _).mono ?_; rintro e w' ⟨rfl, rfl⟩) | (with_reducible refine (ask_no _ _).mono ?_; rintro e w' ⟨rfl, rfl⟩)) | (go_at_call 124; refine hF.out.mono ?_; rintro e w1 ⟨rfl, hw1⟩; have kb1 := bcell' hw1; have zz1 := Nat.lt_of_lt_of_le hl5 hw1.size; have zz2 := Nat.lt_of_lt_of_le hl1 hw1.size; have zz3 := Nat.lt_of_lt_of_le hl2 hw1.size; have zz4 := Nat.lt_of_lt_of_le hl3 hw1.size; have zz5 := Nat.lt_of_lt_of_le hl4 hw1.size))
      have k0 := (kb1.1 _ 0 hl5).trans z0
      have k1 := (kb1.1 _ 1 hl5).trans z1
      have k2 := (kb1.1 _ 2 hl5).trans z2
      refine bodyPost_ret (v := .agg #[.int .i64 (n : Int), .bool false, .bool false]) (by simp [results, Tryz.results108, go_sem, k0, k1, k2]) rfl ⟨by rw [hv.out]; rfl, ?_⟩
      exact below_set3 (hw.out.trans (hw1.mono (by omega))) (by omega) _ _ _
     | false =>
      have hv := hide (show r = .error 5 from by rw [hv0.out]; simp)
      go_enter Tryz.func108, Tryz.ntmps108
      go_wp2_with (first | (go_at_call 78; first | (with_reducible refine (ask_yes _ _).mono ?_; rintro e w' ⟨rfl, rfl⟩) | (with_reducible refine (ask_no _ _).mono ?_; rintro e w' ⟨rfl, rfl⟩)) | (go_at_call 124; refine hF.out.mono ?_; rintro e w1 ⟨rfl, hw1⟩; have kb1 := bcell' hw1; have zz1 := Nat.lt_of_lt_of_le hl5 hw1.size; have zz2 := Nat.lt_of_lt_of_le hl1 hw1.size; have zz3 := Nat.lt_of_lt_of_le hl2 hw1.size; have zz4 := Nat.lt_of_lt_of_le hl3 hw1.size; have zz5 := Nat.lt_of_lt_of_le hl4 hw1.size))
      exact ⟨rfl, by rw [hv.out]; rfl, (hw.out.trans (hw1.mono (by omega)))⟩
    | false =>
     clear hfa hfb'
     by_cases hst : sw = tw
     ·subst hst
      have hv := hide (show r = .ok ⟨sw, false, false⟩ from by rw [hv0.out]; simp)
      go_enter Tryz.func108, Tryz.ntmps108
      go_wp2_with (go_at_call 78; first | (with_reducible refine (ask_yes _ _).mono ?_; rintro e w' ⟨rfl, rfl⟩) | (with_reducible refine (ask_no _ _).mono ?_; rintro e w' ⟨rfl, rfl⟩))
      refine bodyPost_ret (v := .agg #[.int .i64 sw, .bool false, .bool false]) (by simp [results, Tryz.results108, go_sem, z0, z1, z2]) rfl ⟨by rw [hv.out]; rfl, ?_⟩
      exact below_set3 hw.out (by omega) _ _ _
     ·have hq : (sw == tw) = false := beq_eq_false_iff_ne.2 hst
      have hv := hide (show r = .error 10  from by rw [hv0.out]; simp [hst])
      go_enter Tryz.func108, Tryz.ntmps108
      go_wp2_with (go_at_call 78; first | (with_reducible refine (ask_yes _ _).mono ?_; rintro e w' ⟨rfl, rfl⟩) | (with_reducible refine (ask_no _ _).mono ?_; rintro e w' ⟨rfl, rfl⟩))
      exact ⟨rfl, by rw [hv.out]; rfl, hw.out⟩
end Go.Proofs.YtmfpbahifhndjaaGreat

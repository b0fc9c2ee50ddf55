import Derived.Test.YtmfpbahifhndjaaGreatLow17
import Derived.Test.YtmfpbahifhndjaaGreatLow18
set_option linter.all false
/-! Printed by gen_type.py. Layer 8: leaf. -/
namespace Go.Proofs.YtmfpbahifhndjaaGreat
open Go.RowKit
theorem row8 {w : World} {a : Nat} {v0 v1 v2 v3 v4 v5 v6 v7 : Value} (h : ∀ i, w.cell? ⟨a, i, none⟩ = (#[v0, v1, v2, v3, v4, v5, v6, v7] : Array Value)[i]?) :
  w.cell? ⟨a, 0, none⟩ = some v0 ∧ w.cell? ⟨a, 1, none⟩ = some v1 ∧ w.cell? ⟨a, 2, none⟩ = some v2 ∧ w.cell? ⟨a, 3, none⟩ = some v3 ∧ w.cell? ⟨a, 4, none⟩ = some v4 ∧ w.cell? ⟨a, 5, none⟩ = some v5 ∧ w.cell? ⟨a, 6, none⟩ = some v6 ∧ w.cell? ⟨a, 7, none⟩ = some v7 :=
 ⟨h 0, h 1, h 2, h 3, h 4, h 5, h 6, h 7⟩
theorem findI_lt {α : Type} [DecidableEq α] (l : List α) (a : α) : findI l a < (l.length : Int) := by
 unfold findI
 by_cases hm : a ∈ l
 ·rw [if_pos hm]; have := idx_lt a l hm; omega
 ·rw [if_neg hm]; omega
theorem fieldsI_lt (l : List Fd) (s : ByteArray) : fieldsI l s < (l.length : Int) := by
 have := findI_lt (l.map Prod.fst) s
 rw [List.length_map] at this
 exact this
theorem headerI_range {p : Pg} {s : ByteArray} (h : ¬ headerI p s < 0) : ∃ k : Nat, k < p.headers.length ∧ headerI p s = (k : Int) := by
 obtain ⟨k, hk, he⟩ := findI_range (l := p.headers.map Hd.name) (a := s) h
 exact ⟨k, by simpa using hk, he⟩
theorem fieldI_at {p : Pg} {k : Nat} (hk : k < p.headers.length) (s : ByteArray) : fieldI p (k : Int) s = fieldsI p.headers[k].fields s := by
 unfold fieldI; rw [if_neg (by omega), Int.toNat_natCast, List.getElem?_eq_getElem hk]; rfl
theorem paramI_at {p : Pg} {act : Int} {s : ByteArray} (h : ¬ paramI p act s < 0) : ∃ (k : Nat) (hk : k < p.actions.length), act = (k : Int) ∧ paramI p act s = fieldsI p.actions[k].params s := by
 unfold paramI at h ⊢
 by_cases h0 : act < 0
 ·rw [if_pos h0] at h; omega
 ·rw [if_neg h0] at h ⊢
  obtain ⟨k, rfl⟩ := Int.eq_ofNat_of_zero_le (show 0 ≤ act by omega)
  rw [Int.toNat_natCast] at h ⊢
  by_cases hk : k < p.actions.length
  ·refine ⟨k, hk, rfl, ?_⟩
   rw [List.getElem?_eq_getElem hk]; rfl
  ·rw [List.getElem?_eq_none (by omega)] at h
   simp only [Option.elim] at h
   omega
set_option maxRecDepth 100000 in
set_option maxHeartbeats 8000000 in
theorem tleaf_any (A1 A2 A3 A4 A5 A6 A7 : Option Addr) (p : Pg) (c1 c2 c3 c4 c5 c6 c7 : Nat) (act op : Int) (lit : Lt) (head name : ByteArray) (hi lo : Int) (A : Option Addr) (n cap B : Nat) (w : World) (hB : B ≤ w.heap.size) (hP : PgS w B A1 A2 A3 A4 A5 A6 A7 p) :
  Calls Tryz.prog 105 #[.agg #[.slice A1 p.headers.length c1, .slice A2 p.metas.length c2, .slice A3 p.states.length c3, .slice A4 p.actions.length c4, .slice A5 p.tables.length c5, .slice A6 p.control.length c6, .slice A7 p.emit.length c7, .int .i64 act], .agg #[.int .u8 op, .int .i64 lit.1, .int .u64 lit.2.1, .int .u64 lit.2.2, .string head, .string name, .int .i64 hi, .int .i64 lo, .slice A n cap]] w fun e w' => e = endR (leafR p act op lit head name) ∧ Below w.heap.size w w' := by
 have lp1 := hP.1.len
 have lp2 := hP.2.len
 have lp4 := hP.4.len
 obtain ⟨wv, hwv, hsv, hbv, hcv, hfv⟩ := box1 w #[.slice A1 p.headers.length c1, .slice A2 p.metas.length c2, .slice A3 p.states.length c3, .slice A4 p.actions.length c4, .slice A5 p.tables.length c5, .slice A6 p.control.length c6, .slice A7 p.emit.length c7, .int .i64 act] 137
 obtain ⟨we, hwe, hse, hbe, hce, hfe⟩ := box1 wv #[.int .u8 op, .int .i64 lit.1, .int .u64 lit.2.1, .int .u64 lit.2.2, .string head, .string name, .int .i64 hi, .int .i64 lo, .slice A n cap] 65
 obtain ⟨wz, hwz, hsz, hbz, hcz, hfz⟩ := box1 we #[.int .i64 0, .bool false, .bool false] 107
 have hEz : Below wz.heap.size wz wz := Below.refl _ _
 have hEe : Below we.heap.size we wz := hbz.trans (hEz.mono (by omega))
 have hEv : Below wv.heap.size wv wz := hbe.trans (hEe.mono (by omega))
 have hw := hide (hbv.trans (hEv.mono (by omega)))
 have cv := fun i => (hEv.cell (p := ⟨w.heap.size, i, none⟩) (by show w.heap.size < _; omega)).trans (hcv i)
 have ce := fun i => (hEe.cell (p := ⟨wv.heap.size, i, none⟩) (by show wv.heap.size < _; omega)).trans (hce i)
 have cz := fun i => (hEz.cell (p := ⟨we.heap.size, i, none⟩) (by show we.heap.size < _; omega)).trans (hcz i)
 have hfr := hfz
 simp only [hsv] at ce
 simp only [hse, hsv] at cz hfr
 obtain ⟨v0, v1, v2, v3, v4, v5, v6, v7⟩ := row8 cv
 obtain ⟨e0, e1, e2, e3, e4, e5, e6, e7, e8⟩ := row9 ce
 obtain ⟨z0, z1, z2⟩ := row3 cz
 have hl1 : w.heap.size < wz.heap.size := by omega
 have hl2 : w.heap.size + 1 < wz.heap.size := by omega
 have hl3 : w.heap.size + 1 + 1 < wz.heap.size := by omega
 clear cv hcv hbv hfv ce hce hbe hfe cz hcz hbz hfz hEv hEe hEz
 replace hsz := hide hsz
 have hBz : B ≤ wz.heap.size := by omega
 have hPz := hide (hP.below (hw.out.mono hB))
 obtain ⟨r, hr⟩ : ∃ r, leafR p act op lit head name = r := ⟨_, rfl⟩
 have hv0 := hide hr
 rw [hr]
 simp only [leafR] at hv0
 clear hP hr
 by_cases h1 : op = 1
 ·subst h1
  by_cases hl0 : lit.1 = 0
  ·have hv := hide (show r = .ok ⟨lit.1, false, true⟩ from by rw [← hv0.out]; simp [hl0])
   have hq : (lit.1 == 0) = true := beq_iff_eq.2 hl0
   clear hl0
   go_enter Tryz.func105, Tryz.ntmps105
   go_wp2
   refine bodyPost_ret (v := .agg #[.int .i64 lit.1, .bool false, .bool true]) (by simp [results, Tryz.results105, go_sem, z0, z1, z2]) rfl ⟨by rw [hv.out]; rfl, ?_⟩
   exact below_set3 hw.out (by omega) _ _ _
  ·have hv := hide (show r = .ok ⟨lit.1, false, false⟩ from by rw [← hv0.out]; simp [hl0])
   have hq : (lit.1 == 0) = false := beq_eq_false_iff_ne.2 hl0
   clear hl0
   go_enter Tryz.func105, Tryz.ntmps105
   go_wp2
   refine bodyPost_ret (v := .agg #[.int .i64 lit.1, .bool false, .bool false]) (by simp [results, Tryz.results105, go_sem, z0, z1, z2]) rfl ⟨by rw [hv.out]; rfl, ?_⟩
   exact below_set3 hw.out (by omega) _ _ _
 ·by_cases h2 : op = 2
  ·subst h2
   have hH := hide (header_any wz A1 A2 A3 A4 A5 A6 A7 p c1 c2 c3 c4 c5 c6 c7 head hBz hPz.out)
   by_cases hh : headerI p head < 0
   ·have hv := hide (show r = .error 7 from by rw [← hv0.out]; simp [hh])
    have hq : decide (0 ≤ headerI p head) = false := decide_eq_false (by omega)
    generalize headerI p head = z at hH hq
    clear hh
    go_enter Tryz.func105, Tryz.ntmps105
    go_wp2_with (first | (go_at_call 78; first | (with_reducible refine (ask_yes _ _).mono ?_; rintro e w' ⟨rfl, rfl⟩) | (with_reducible refine (ask_no _ _).mono ?_; rintro e w' ⟨rfl, rfl⟩)) | (go_at_call 109; refine hH.out.mono ?_; rintro e w1 ⟨rfl, hb1⟩; have khb1 := bcell' hb1; have zhb10 := Nat.lt_of_lt_of_le hl1 hb1.size; have zhb11 := Nat.lt_of_lt_of_le hl2 hb1.size; have zhb12 := Nat.lt_of_lt_of_le hl3 hb1.size))
    exact ⟨rfl, by rw [hv.out]; rfl, hw.out.trans (hb1.mono (by omega))⟩
   ·obtain ⟨k, hk, he⟩ := headerI_range hh
    have hkz : (k : Int) < (p.headers.length : Int) := by omega
    have hf0 := fieldI_at hk name
    have hFl : ∀ W, Below wz.heap.size wz W → ∀ d os, Hid (Calls Tryz.prog 110 #[.agg #[.slice A1 p.headers.length c1, .slice A2 p.metas.length c2, .slice A3 p.states.length c3, .slice A4 p.actions.length c4, .slice A5 p.tables.length c5, .slice A6 p.control.length c6, .slice A7 p.emit.length c7], .int .i64 (k : Int), .string name] (Go.Sort.grow (redrawn W d) os) _) := fun W hb d os => hide (field_any _ A1 A2 A3 A4 A5 A6 A7 p c1 c2 c3 c4 c5 c6 c7 (k : Int) name (Nat.le_trans hBz (Nat.le_trans hb.size (gsize W d os))) (hPz.out.below ((below_grow hb hb.size d os).mono hBz)))
    obtain ⟨b, o, ecs, hA, hb, hel, hcell, A', c', rfl, hn, hS⟩ := hPz.out.headers.2 k _ (List.getElem?_eq_getElem hk)
    subst hA
    have x0 : wz.cell? ⟨b, o + k * 2, none⟩ = some (.string p.headers[k].name) := by simpa using hcell 0 _ rfl
    have x1 : wz.cell? ⟨b, o + k * 2 + 1, none⟩ = some (.slice A' p.headers[k].fields.length c') := hcell 1 _ rfl
    have lf := hS.len
    have hTf := hide (fun W (hb : Below wz.heap.size wz W) => tfield_any p.headers[k].fields A' c' (fieldI p (k : Int) name) W (Nat.le_trans hBz hb.size) (hS.below sta_fd (hb.mono hBz)) (by rw [hf0]; exact fieldsI_lt _ _))
    have hv1 := hide (show fieldR p.headers[k].fields (fieldI p (k : Int) name) = r from by rw [← hv0.out]; simp [he, List.getElem?_eq_getElem hk, show ¬ ((k : Int) < 0) from by omega])
    rw [hv1.out] at hTf
    have hbw : b < wz.heap.size := by omega
    rw [he] at hH
    clear hf0 hS hcell hv0 hh he
    generalize fieldI p (k : Int) name = z at hFl hTf
    replace hFl := hide hFl
    go_enter Tryz.func105, Tryz.ntmps105
    go_wp2_with (first | (go_at_call 78; first | (with_reducible refine (ask_yes _ _).mono ?_; rintro e w' ⟨rfl, rfl⟩) | (with_reducible refine (ask_no _ _).mono ?_; rintro e w' ⟨rfl, rfl⟩)) | (go_at_call 109; refine hH.out.mono ?_; rintro e w1 ⟨rfl, hb1⟩; have khb1 := bcell' hb1; have zhb10 := Nat.lt_of_lt_of_le hl1 hb1.size; have zhb11 := Nat.lt_of_lt_of_le hl2 hb1.size; have zhb12 := Nat.lt_of_lt_of_le hl3 hb1.size))
    have hF1 := hFl.out w1 hb1
    have hg := gcell' hb1 hb1.size
    refine wp_region_quiet_tail 13 (by kernel_rfl) (by kernel_rfl) ?_
    simp only [List.take_succ_cons, List.take_zero, List.drop_succ_cons, List.drop_zero]
    repeat (any_goals (first | go_big_quiet_step (first | (go_at_call 110; with_reducible exact Calls.regrown_of (hF1 _ _).out)) | quiet_step (first | (go_at_call 110; with_reducible exact Calls.regrown_of (hF1 _ _).out))))
    refine wpQuiet_nil ?_
    intro w2 hw2
    have hb2 := hb1.trans (hw2.mono hb1.size)
    have hT2 := hide (hTf.out w2 hb2)
    have khb2 := bcell' hb2
    have zhb20 := Nat.lt_of_lt_of_le hl1 hb2.size
    have zhb21 := Nat.lt_of_lt_of_le hl2 hb2.size
    have zhb22 := Nat.lt_of_lt_of_le hl3 hb2.size
    clear hF1 hg khb1 hFl
    cases r with
    | error n7 =>
     replace hT2 := hide (show Calls Tryz.prog _ _ w2 fun e w' => e = noE n7 ∧ Below w2.heap.size w2 w' from hT2.out)
     go_wp2_with (go_at_call 123; refine hT2.out.mono ?_; rintro e w3 ⟨rfl, hb3⟩)
     exact ⟨rfl, rfl, hw.out.trans ((hb2.trans (hb3.mono hb2.size)).mono (by omega))⟩
    | ok t =>
     obtain ⟨tw, tr, tf⟩ := t
     replace hT2 := hide (show Calls Tryz.prog _ _ w2 fun e w' => e = .returned (.agg #[.int .i64 tw, .bool tr, .bool tf]) ∧ Below w2.heap.size w2 w' from hT2.out)
     go_wp2_with (go_at_call 123; refine hT2.out.mono ?_; rintro e w3 ⟨rfl, hb3⟩; have kb3 := bcell' (hb2.trans (hb3.mono hb2.size)))
     have hbE := hb2.trans (hb3.mono hb2.size)
     have k0 := (hbE.cell (p := ⟨w.heap.size + 1 + 1, 0, none⟩) hl3).trans z0
     have k1 := (hbE.cell (p := ⟨w.heap.size + 1 + 1, 1, none⟩) hl3).trans z1
     have k2 := (hbE.cell (p := ⟨w.heap.size + 1 + 1, 2, none⟩) hl3).trans z2
     refine bodyPost_ret (v := .agg #[.int .i64 tw, .bool tr, .bool tf]) (by simp [results, Tryz.results105, go_sem, k0, k1, k2]) rfl ⟨rfl, ?_⟩
     exact below_set3 (hw.out.trans (hbE.mono (by omega))) (by omega) _ _ _
  ·by_cases h3 : op = 3
   ·subst h3
    have hFl : ∀ d os, Hid (Calls Tryz.prog 111 #[.agg #[.slice A1 p.headers.length c1, .slice A2 p.metas.length c2, .slice A3 p.states.length c3, .slice A4 p.actions.length c4, .slice A5 p.tables.length c5, .slice A6 p.control.length c6, .slice A7 p.emit.length c7], .string name] (Go.Sort.grow (redrawn wz d) os) _) := fun d os => hide (meta_any _ A1 A2 A3 A4 A5 A6 A7 p c1 c2 c3 c4 c5 c6 c7 name (Nat.le_trans hBz (gsize wz d os)) (hPz.out.below ((below_regrown wz d os).mono hBz)))
    have hTf := hide (fun W (hb : Below wz.heap.size wz W) => tfield_any p.metas A2 c2 (metaI p name) W (Nat.le_trans hBz hb.size) (hPz.out.metas.below sta_fd (hb.mono hBz)) (fieldsI_lt _ _))
    have hv1 := hide (show fieldR p.metas (metaI p name) = r from by rw [← hv0.out]; simp)
    rw [hv1.out] at hTf
    clear hv0
    generalize metaI p name = z at hFl hTf
    have hb0 : Below wz.heap.size wz wz := Below.refl _ _
    have hg := gcell' hb0 hb0.size
    go_enter Tryz.func105, Tryz.ntmps105
    go_wp2_with fail
    refine wp_region_quiet_tail 8 (by kernel_rfl) (by kernel_rfl) ?_
    simp only [List.take_succ_cons, List.take_zero, List.drop_succ_cons, List.drop_zero]
    repeat (any_goals (first | go_big_quiet_step (first | (go_at_call 111; with_reducible exact Calls.regrown_of (hFl _ _).out)) | quiet_step (first | (go_at_call 111; with_reducible exact Calls.regrown_of (hFl _ _).out))))
    refine wpQuiet_nil ?_
    intro w2 hw2
    have hb2 := hw2
    have hT2 := hide (hTf.out w2 hb2)
    have khb2 := bcell' hb2
    have zhb20 := Nat.lt_of_lt_of_le hl1 hb2.size
    have zhb21 := Nat.lt_of_lt_of_le hl2 hb2.size
    have zhb22 := Nat.lt_of_lt_of_le hl3 hb2.size
    clear hg hFl
    cases r with
    | error n7 =>
     replace hT2 := hide (show Calls Tryz.prog _ _ w2 fun e w' => e = noE n7 ∧ Below w2.heap.size w2 w' from hT2.out)
     go_wp2_with (go_at_call 123; refine hT2.out.mono ?_; rintro e w3 ⟨rfl, hb3⟩)
     exact ⟨rfl, rfl, hw.out.trans ((hb2.trans (hb3.mono hb2.size)).mono (by omega))⟩
    | ok t =>
     obtain ⟨tw, tr, tf⟩ := t
     replace hT2 := hide (show Calls Tryz.prog _ _ w2 fun e w' => e = .returned (.agg #[.int .i64 tw, .bool tr, .bool tf]) ∧ Below w2.heap.size w2 w' from hT2.out)
     go_wp2_with (go_at_call 123; refine hT2.out.mono ?_; rintro e w3 ⟨rfl, hb3⟩; have kb3 := bcell' (hb2.trans (hb3.mono hb2.size)))
     have hbE := hb2.trans (hb3.mono hb2.size)
     have k0 := (hbE.cell (p := ⟨w.heap.size + 1 + 1, 0, none⟩) hl3).trans z0
     have k1 := (hbE.cell (p := ⟨w.heap.size + 1 + 1, 1, none⟩) hl3).trans z1
     have k2 := (hbE.cell (p := ⟨w.heap.size + 1 + 1, 2, none⟩) hl3).trans z2
     refine bodyPost_ret (v := .agg #[.int .i64 tw, .bool tr, .bool tf]) (by simp [results, Tryz.results105, go_sem, k0, k1, k2]) rfl ⟨rfl, ?_⟩
     exact below_set3 (hw.out.trans (hbE.mono (by omega))) (by omega) _ _ _
   ·by_cases h4 : op = 4
    ·subst h4
     have hH := hide (param_any wz A1 A2 A3 A4 A5 A6 A7 p c1 c2 c3 c4 c5 c6 c7 act name hBz hPz.out)
     by_cases hh : paramI p act name < 0
     ·have hv := hide (show r = .error 7 from by rw [← hv0.out]; simp [hh])
      have hq : decide (0 ≤ paramI p act name) = false := decide_eq_false (by omega)
      generalize paramI p act name = z at hH hq
      clear hh
      go_enter Tryz.func105, Tryz.ntmps105
      go_wp2_with (first | (go_at_call 78; first | (with_reducible refine (ask_yes _ _).mono ?_; rintro e w' ⟨rfl, rfl⟩) | (with_reducible refine (ask_no _ _).mono ?_; rintro e w' ⟨rfl, rfl⟩)) | (go_at_call 112; refine hH.out.mono ?_; rintro e w1 ⟨rfl, hb1⟩; have khb1 := bcell' hb1; have zhb10 := Nat.lt_of_lt_of_le hl1 hb1.size; have zhb11 := Nat.lt_of_lt_of_le hl2 hb1.size; have zhb12 := Nat.lt_of_lt_of_le hl3 hb1.size))
      exact ⟨rfl, by rw [hv.out]; rfl, hw.out.trans (hb1.mono (by omega))⟩
     ·obtain ⟨k, hk, rfl, he⟩ := paramI_at hh
      have hkz : (k : Int) < (p.actions.length : Int) := by omega
      obtain ⟨b, o, ecs, hA, hb, hel, hcell, A', c', A'', c'', rfl, hn, hS, hS2⟩ := hPz.out.actions.2 k _ (List.getElem?_eq_getElem hk)
      subst hA
      obtain ⟨x0, x1, x2⟩ := srow3 hcell
      have lf := hS.len
      have lg := hS2.len
      have hTf := hide (fun W (hb : Below wz.heap.size wz W) => tfield_any p.actions[k].params A' c' (paramI p (k : Int) name) W (Nat.le_trans hBz hb.size) (hS.below sta_fd (hb.mono hBz)) (by rw [he]; exact fieldsI_lt _ _))
      have hv1 := hide (show fieldR p.actions[k].params (paramI p (k : Int) name) = r from by rw [← hv0.out]; simp [hh, List.getElem?_eq_getElem hk])
      rw [hv1.out] at hTf
      have hbw : b < wz.heap.size := by omega
      have hq : decide (0 ≤ paramI p (k : Int) name) = true := decide_eq_true (by omega)
      clear hS hS2 hcell hv0 hh he
      generalize paramI p (k : Int) name = z at hH hTf hq
      go_enter Tryz.func105, Tryz.ntmps105
      go_wp2_with (first | (go_at_call 78; first | (with_reducible refine (ask_yes _ _).mono ?_; rintro e w' ⟨rfl, rfl⟩) | (with_reducible refine (ask_no _ _).mono ?_; rintro e w' ⟨rfl, rfl⟩)) | (go_at_call 112; refine hH.out.mono ?_; rintro e w1 ⟨rfl, hb1⟩; have khb1 := bcell' hb1; have zhb10 := Nat.lt_of_lt_of_le hl1 hb1.size; have zhb11 := Nat.lt_of_lt_of_le hl2 hb1.size; have zhb12 := Nat.lt_of_lt_of_le hl3 hb1.size))
      have hT1 := hide (hTf.out w1 hb1)
      cases r with
      | error n7 =>
       replace hT1 := hide (show Calls Tryz.prog _ _ w1 fun e w' => e = noE n7 ∧ Below w1.heap.size w1 w' from hT1.out)
       go_wp2_with (go_at_call 123; refine hT1.out.mono ?_; rintro e w3 ⟨rfl, hb3⟩)
       exact ⟨rfl, rfl, hw.out.trans ((hb1.trans (hb3.mono hb1.size)).mono (by omega))⟩
      | ok t =>
       obtain ⟨tw, tr, tf⟩ := t
       replace hT1 := hide (show Calls Tryz.prog _ _ w1 fun e w' => e = .returned (.agg #[.int .i64 tw, .bool tr, .bool tf]) ∧ Below w1.heap.size w1 w' from hT1.out)
       go_wp2_with (go_at_call 123; refine hT1.out.mono ?_; rintro e w3 ⟨rfl, hb3⟩; have kb3 := bcell' (hb1.trans (hb3.mono hb1.size)))
       have hbE := hb1.trans (hb3.mono hb1.size)
       have k0 := (hbE.cell (p := ⟨w.heap.size + 1 + 1, 0, none⟩) hl3).trans z0
       have k1 := (hbE.cell (p := ⟨w.heap.size + 1 + 1, 1, none⟩) hl3).trans z1
       have k2 := (hbE.cell (p := ⟨w.heap.size + 1 + 1, 2, none⟩) hl3).trans z2
       refine bodyPost_ret (v := .agg #[.int .i64 tw, .bool tr, .bool tf]) (by simp [results, Tryz.results105, go_sem, k0, k1, k2]) rfl ⟨rfl, ?_⟩
       exact below_set3 (hw.out.trans (hbE.mono (by omega))) (by omega) _ _ _
    ·by_cases h6 : op = 6
     ·subst h6
      have hH := hide (header_any wz A1 A2 A3 A4 A5 A6 A7 p c1 c2 c3 c4 c5 c6 c7 head hBz hPz.out)
      by_cases hh : headerI p head < 0
      ·have hv := hide (show r = .error 7 from by rw [← hv0.out]; simp [hh])
       have hq : decide (0 ≤ headerI p head) = false := decide_eq_false (by omega)
       generalize headerI p head = z at hH hq
       clear hh
       go_enter Tryz.func105, Tryz.ntmps105
       go_wp2_with (first | (go_at_call 78; first | (with_reducible refine (ask_yes _ _).mono ?_; rintro e w' ⟨rfl, rfl⟩) | (with_reducible refine (ask_no _ _).mono ?_; rintro e w' ⟨rfl, rfl⟩)) | (go_at_call 109; refine hH.out.mono ?_; rintro e w1 ⟨rfl, hb1⟩; have khb1 := bcell' hb1; have zhb10 := Nat.lt_of_lt_of_le hl1 hb1.size; have zhb11 := Nat.lt_of_lt_of_le hl2 hb1.size; have zhb12 := Nat.lt_of_lt_of_le hl3 hb1.size))
       exact ⟨rfl, by rw [hv.out]; rfl, hw.out.trans (hb1.mono (by omega))⟩
      ·have hv := hide (show r = .ok ⟨0, true, false⟩ from by rw [← hv0.out]; simp [hh])
       have hq : decide (0 ≤ headerI p head) = true := decide_eq_true (by omega)
       generalize headerI p head = z at hH hq
       clear hh
       go_enter Tryz.func105, Tryz.ntmps105
       go_wp2_with (first | (go_at_call 78; first | (with_reducible refine (ask_yes _ _).mono ?_; rintro e w' ⟨rfl, rfl⟩) | (with_reducible refine (ask_no _ _).mono ?_; rintro e w' ⟨rfl, rfl⟩)) | (go_at_call 109; refine hH.out.mono ?_; rintro e w1 ⟨rfl, hb1⟩; have khb1 := bcell' hb1; have zhb10 := Nat.lt_of_lt_of_le hl1 hb1.size; have zhb11 := Nat.lt_of_lt_of_le hl2 hb1.size; have zhb12 := Nat.lt_of_lt_of_le hl3 hb1.size))
       have hbE := hb1
       have k0 := (hbE.cell (p := ⟨w.heap.size + 1 + 1, 0, none⟩) hl3).trans z0
       have k1 := (hbE.cell (p := ⟨w.heap.size + 1 + 1, 1, none⟩) hl3).trans z1
       have k2 := (hbE.cell (p := ⟨w.heap.size + 1 + 1, 2, none⟩) hl3).trans z2
       refine bodyPost_ret (v := .agg #[.int .i64 0, .bool true, .bool false]) (by simp [results, Tryz.results105, go_sem, k0, k1, k2]) rfl ⟨by rw [hv.out]; rfl, ?_⟩
       exact below_set3 (hw.out.trans (hbE.mono (by omega))) (by omega) _ _ _
     ·have hv := hide (show r = .ok ⟨9, false, false⟩ from by rw [← hv0.out]; simp [h1, h2, h3, h4, h6])
      go_enter Tryz.func105, Tryz.ntmps105
      go_wp2
      refine bodyPost_ret (v := .agg #[.int .i64 9, .bool false, .bool false]) (by simp [results, Tryz.results105, go_sem, z0, z1, z2]) rfl ⟨by rw [hv.out]; rfl, ?_⟩
      exact below_set3 hw.out (by omega) _ _ _
end Go.Proofs.YtmfpbahifhndjaaGreat

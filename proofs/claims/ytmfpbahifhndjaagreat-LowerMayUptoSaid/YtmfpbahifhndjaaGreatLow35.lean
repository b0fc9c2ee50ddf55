import Derived.Test.YtmfpbahifhndjaaGreatLow34
import Derived.Test.YtmfpbahifhndjaaGreatLow12
set_option linter.all false
/-! Layer 10: names of a lowered program. -/
set_option linter.all false
namespace Go.Proofs.YtmfpbahifhndjaaGreat
open Go.RowKit
set_option maxRecDepth 100000 in
set_option maxHeartbeats 4000000 in
theorem mayNames_any (A1 A2 A3 A4 A5 A6 A7 A8 A9 A10 A11 A12 : Option Addr) (p : Lp) (c1 c2 c3 c4 c5 c6 c7 c8 c9 c10 c11 c12 : Nat) (w : World) (h : LpS w w.heap.size A1 A2 A3 A4 A5 A6 A7 A8 A9 A10 A11 A12 p) :
  Calls Tryz.prog 26 #[.agg #[.slice A1 p.heads.length c1, .slice A2 p.metas.length c2, .slice A3 p.steps.length c3, .slice A4 p.acts.length c4, .slice A5 p.tabs.length c5, .slice A6 p.control.length c6, .slice A7 p.emit.length c7, .slice A8 p.nh.length c8, .slice A9 p.nf.length c9, .slice A10 p.nm.length c10, .slice A11 p.na.length c11, .slice A12 p.nt.length c12]] w fun e w' => e = .returned (.bool (namesL p)) ∧ Below w.heap.size w w' := by
 have l1 := h.heads.len
 have l2 := h.metas.len
 have l4 := h.acts.len
 have l5 := h.tabs.len
 have l8 := h.nh.len
 have l10 := h.nm.len
 have l11 := h.na.len
 have l12 := h.nt.len
 obtain ⟨wz, hwz, hsz, hbz, hcz, -⟩ := box1 w #[.slice A1 p.heads.length c1, .slice A2 p.metas.length c2, .slice A3 p.steps.length c3, .slice A4 p.acts.length c4, .slice A5 p.tabs.length c5, .slice A6 p.control.length c6, .slice A7 p.emit.length c7, .slice A8 p.nh.length c8, .slice A9 p.nf.length c9, .slice A10 p.nm.length c10, .slice A11 p.na.length c11, .slice A12 p.nt.length c12] 33
 obtain ⟨wa, hwa, hsa, hba, hca, -⟩ := box1 wz #[.slice A8 p.nh.length c8, .slice A9 p.nf.length c9, .slice A10 p.nm.length c10, .slice A11 p.na.length c11, .slice A12 p.nt.length c12] 31
 have Y := fun i => (hba.cell (p := ⟨w.heap.size, i, none⟩) (by show w.heap.size < _; omega)).trans (hcz i)
 rw [hsz] at hca
 have k1 : w.heap.size < wa.heap.size := by omega
 have k0 : w.heap.size < wz.heap.size := by omega
 have k2 : w.heap.size + 1 < wa.heap.size := by omega
 have hw : Below w.heap.size w wa := hbz.trans (hba.mono (by omega))
 have x0 : wa.cell? ⟨w.heap.size + 1, 0, none⟩ = some (.slice A8 p.nh.length c8) := hca 0
 have x1 : wa.cell? ⟨w.heap.size + 1, 1, none⟩ = some (.slice A9 p.nf.length c9) := hca 1
 have x2 : wa.cell? ⟨w.heap.size + 1, 2, none⟩ = some (.slice A10 p.nm.length c10) := hca 2
 have x3 : wa.cell? ⟨w.heap.size + 1, 3, none⟩ = some (.slice A11 p.na.length c11) := hca 3
 have x4 : wa.cell? ⟨w.heap.size + 1, 4, none⟩ = some (.slice A12 p.nt.length c12) := hca 4
 have y0 := Y 0
 have y1 := Y 1
 have y3 := Y 3
 have y4 := Y 4
 have z7 := hcz 7
 have z8 := hcz 8
 have z9 := hcz 9
 have z10 := hcz 10
 have z11 := hcz 11
 simp only [List.getElem?_toArray, List.getElem?_cons_zero, List.getElem?_cons_succ] at y0 y1 y3 y4 z7 z8 z9 z10 z11
 have hE := eqNames_any A1 A9 c1 c9 p.heads p.nf wa ((h.heads.below (sta_sl sta_int) hw).more (sta_sl sta_int) hw.size) ((h.nf.below (sta_sl sta_str) hw).more (sta_sl sta_str) hw.size)
 have hv := hide (show namesL p = (eqF lenB p.heads p.nf && decide (p.nh.length = p.heads.length) && decide (p.nm.length = p.metas.length) && decide (p.na.length = p.acts.length) && decide (p.nt.length = p.tabs.length)) from rfl)
 generalize eqF lenB p.heads p.nf = z at hE hv
 replace hE := hide hE
 replace hw := hide hw
 replace hsa := hide hsa
 clear h hca hcz hba hbz Y
 cases z with
 | false =>
  rw [Bool.false_and, Bool.false_and, Bool.false_and, Bool.false_and] at hv
  go_enter Tryz.func26, Tryz.ntmps26
  go_wp2_with (go_at_call 57; refine hE.out.mono ?_; rintro e w' ⟨rfl, rfl⟩)
  go_ret
  exact ⟨ret_b hv.out.symm, hw.out⟩
 | true =>
  rw [Bool.true_and] at hv
  by_cases a1 : p.nh.length = p.heads.length
  ·have a1z : ((p.nh.length : Int) == (p.heads.length : Int)) = true := by rw [beq_iff_eq]; omega
   rw [decide_eq_true a1, Bool.true_and] at hv
   replace a1 := hide a1
   by_cases a2 : p.nm.length = p.metas.length
   ·have a2z : ((p.nm.length : Int) == (p.metas.length : Int)) = true := by rw [beq_iff_eq]; omega
    rw [decide_eq_true a2, Bool.true_and] at hv
    replace a2 := hide a2
    by_cases a3 : p.na.length = p.acts.length
    ·have a3z : ((p.na.length : Int) == (p.acts.length : Int)) = true := by rw [beq_iff_eq]; omega
     rw [decide_eq_true a3, Bool.true_and] at hv
     replace a3 := hide a3
     by_cases a4 : p.nt.length = p.tabs.length
     ·have a4z : ((p.nt.length : Int) == (p.tabs.length : Int)) = true := by rw [beq_iff_eq]; omega
      rw [decide_eq_true a4] at hv
      replace a4 := hide a4
      go_enter Tryz.func26, Tryz.ntmps26
      go_wp2_with (go_at_call 57; refine hE.out.mono ?_; rintro e w' ⟨rfl, rfl⟩)
      go_ret
      exact ⟨ret_b hv.out.symm, hw.out⟩
     ·have a4z : ((p.nt.length : Int) == (p.tabs.length : Int)) = false := by rw [beq_eq_false_iff_ne]; omega
      rw [decide_eq_false a4] at hv
      go_enter Tryz.func26, Tryz.ntmps26
      go_wp2_with (go_at_call 57; refine hE.out.mono ?_; rintro e w' ⟨rfl, rfl⟩)
      go_ret
      exact ⟨ret_b hv.out.symm, hw.out⟩
    ·have a3z : ((p.na.length : Int) == (p.acts.length : Int)) = false := by rw [beq_eq_false_iff_ne]; omega
     rw [decide_eq_false a3, Bool.false_and] at hv
     go_enter Tryz.func26, Tryz.ntmps26
     go_wp2_with (go_at_call 57; refine hE.out.mono ?_; rintro e w' ⟨rfl, rfl⟩)
     go_ret
     exact ⟨ret_b hv.out.symm, hw.out⟩
   ·have a2z : ((p.nm.length : Int) == (p.metas.length : Int)) = false := by rw [beq_eq_false_iff_ne]; omega
    rw [decide_eq_false a2, Bool.false_and, Bool.false_and] at hv
    go_enter Tryz.func26, Tryz.ntmps26
    go_wp2_with (go_at_call 57; refine hE.out.mono ?_; rintro e w' ⟨rfl, rfl⟩)
    go_ret
    exact ⟨ret_b hv.out.symm, hw.out⟩
  ·have a1z : ((p.nh.length : Int) == (p.heads.length : Int)) = false := by rw [beq_eq_false_iff_ne]; omega
   rw [decide_eq_false a1, Bool.false_and, Bool.false_and, Bool.false_and] at hv
   go_enter Tryz.func26, Tryz.ntmps26
   go_wp2_with (go_at_call 57; refine hE.out.mono ?_; rintro e w' ⟨rfl, rfl⟩)
   go_ret
   exact ⟨ret_b hv.out.symm, hw.out⟩
end Go.Proofs.YtmfpbahifhndjaaGreat
/-! Layer 10: a step, for the program: its branches. -/
set_option linter.all false
namespace Go.Proofs.YtmfpbahifhndjaaGreat
open Go.RowKit
set_option maxRecDepth 100000 in
set_option maxHeartbeats 4000000 in
theorem br4_any (p : Lp) (C : Option Addr) (sc x y z : Nat) (ws : List Int) (WB : Option Addr) (wc : Nat) (b : Br) (PA : Option Addr) (pc : Nat) (w : World) (hl : p.steps.length ≤ 9223372036854775807) (hP : Sl 4 rPt w w.heap.size PA b.pats) (hW : Sl 1 rInt w w.heap.size WB ws)
  (hc : w.cell? ⟨x, 2, none⟩ = some (.slice C p.steps.length sc)) (hf : w.cell? ⟨y, 0, none⟩ = some (.func (.func 62) #[] #[.pointer (some ⟨x, 0, none⟩)])) (hz : w.cell? ⟨z, 0, none⟩ = some (.slice WB ws.length wc)) (lx : x < w.heap.size) (ly : y < w.heap.size) (lz : z < w.heap.size) :
  Calls Tryz.prog 66 #[.agg #[.slice PA b.pats.length pc, .int .i64 b.to], .pointer (some ⟨y, 0, none⟩), .pointer (some ⟨z, 0, none⟩)] w fun e w' => e = .returned (.bool (!(toB p b.to && eqF patB b.pats ws))) ∧ Below w.heap.size w w' := by
 obtain ⟨pats, tt⟩ := b
 simp only at hP ⊢
 obtain ⟨wa, hwa, hsa, hba, hca, -⟩ := box1 w #[.slice PA pats.length pc, .int .i64 tt] 52
 have b0 : wa.cell? ⟨w.heap.size, 0, none⟩ = some (.slice PA pats.length pc) := hca 0
 have b1 : wa.cell? ⟨w.heap.size, 1, none⟩ = some (.int .i64 tt) := hca 1
 have c2 := (hba.cell (p := ⟨x, 2, none⟩) lx).trans hc
 have f2 := (hba.cell (p := ⟨y, 0, none⟩) ly).trans hf
 have z2 := (hba.cell (p := ⟨z, 0, none⟩) lz).trans hz
 have hT := isTo_any p C sc x tt wa hl c2
 have hE := hide (eqPat_any PA WB pc wc pats ws wa ((hP.below sta_pt hba).more sta_pt hba.size) ((hW.below sta_int hba).more sta_int hba.size))
 have l1 : w.heap.size < wa.heap.size := by omega
 have l2 := Nat.lt_of_lt_of_le lx hba.size
 have l3 := Nat.lt_of_lt_of_le ly hba.size
 have l4 := Nat.lt_of_lt_of_le lz hba.size
 replace hba := hide hba
 replace hsa := hide hsa
 clear hca hP hW hc hf hz
 generalize toB p tt = T at hT ⊢
 generalize hG : eqF patB pats ws = G
 replace hT := hide hT
 cases T with
 | false =>
  go_enter Tryz.func66, Tryz.ntmps66
  go_wp2_with (go_at_call 62; refine hT.out.mono ?_; rintro e w' ⟨rfl, rfl⟩)
  go_ret
  exact ⟨rfl, hba.out⟩
 | true =>
  go_enter Tryz.func66, Tryz.ntmps66
  go_wp2_with (first | (go_at_call 62; refine hT.out.mono ?_; rintro e w' ⟨rfl, rfl⟩) | (go_at_call 67; refine hE.out.mono ?_; rintro e w3 ⟨rfl, hb3⟩; rw [hG]))
  go_ret
  exact ⟨ret_b (by simp), hba.out.trans (hb3.mono hba.out.size)⟩
theorem any_not {α : Type} (q : α → Bool) (l : List α) : (l.any fun x => !q x) = !l.all q := by
 induction l with
 | nil => rfl
 | cons x l ih => simp only [List.any_cons, List.all_cons, ih, Bool.not_and]
end Go.Proofs.YtmfpbahifhndjaaGreat
/-! Layer 10: a step, for the program. -/
set_option linter.all false
namespace Go.Proofs.YtmfpbahifhndjaaGreat
open Go.RowKit
set_option maxRecDepth 100000 in
set_option maxHeartbeats 8000000 in
theorem mayStep_any (A1 A2 A3 A4 A5 A6 A7 A8 A9 A10 A11 A12 : Option Addr) (p : Lp) (c1 c2 c3 c4 c5 c6 c7 c8 c9 c10 c11 c12 : Nat) (s : Stp) (P1 P2 P3 : Option Addr) (d1 d2 d3 : Nat) (w : World) (h : LpS w w.heap.size A1 A2 A3 A4 A5 A6 A7 A8 A9 A10 A11 A12 p) (h1 : Sl 1 rInt w w.heap.size P1 s.takes) (h2 : Sl 1 rCd w w.heap.size P2 s.keys) (h3 : Sl 2 rBr w w.heap.size P3 s.brs) (h4 : s.keys.length ≤ sm) :
  Calls Tryz.prog 31 #[.agg #[.slice A1 p.heads.length c1, .slice A2 p.metas.length c2, .slice A3 p.steps.length c3, .slice A4 p.acts.length c4, .slice A5 p.tabs.length c5, .slice A6 p.control.length c6, .slice A7 p.emit.length c7, .slice A8 p.nh.length c8, .slice A9 p.nf.length c9, .slice A10 p.nm.length c10, .slice A11 p.na.length c11, .slice A12 p.nt.length c12], .agg #[.slice P1 s.takes.length d1, .slice P2 s.keys.length d2, .slice P3 s.brs.length d3, .int .i64 s.to]] w fun e w' => e = .returned (.bool (stepL p s)) ∧ Below w.heap.size w w' := by
 obtain ⟨takes, ks, brs, tt⟩ := s
 simp only at h1 h2 h3 h4 ⊢
 have lt1 := h1.len
 have lt2 := h2.len
 have lt3 := h3.len
 have ls := h.steps.len
 have lh := h.heads.len
 obtain ⟨wz, hwz, hsz, hbz, hcz, -⟩ := box1 w #[.slice A1 p.heads.length c1, .slice A2 p.metas.length c2, .slice A3 p.steps.length c3, .slice A4 p.acts.length c4, .slice A5 p.tabs.length c5, .slice A6 p.control.length c6, .slice A7 p.emit.length c7, .slice A8 p.nh.length c8, .slice A9 p.nf.length c9, .slice A10 p.nm.length c10, .slice A11 p.na.length c11, .slice A12 p.nt.length c12] 33
 obtain ⟨wa, hwa, hsa, hba, hca, -⟩ := box1 wz #[.slice P1 takes.length d1, .slice P2 ks.length d2, .slice P3 brs.length d3, .int .i64 tt] 49
 obtain ⟨wb, hwb, hsb, hbb, hcb, -⟩ := box1 wa #[.func (.func 62) #[] #[.pointer (some ⟨w.heap.size, 0, none⟩)]] 84
 obtain ⟨wc, hwc, hsc, hbc, hcc, -⟩ := box1 wb #[.func (.func 63) #[] #[.pointer (some ⟨w.heap.size, 0, none⟩)]] 84
 have hE2 : Below wb.heap.size wb wc := hbc
 have hE3 : Below wa.heap.size wa wc := hbb.trans (hbc.mono (by omega))
 have hE4 : Below wz.heap.size wz wc := hba.trans (hE3.mono (by omega))
 have hw : Below w.heap.size w wc := hbz.trans (hE4.mono (by omega))
 have Y := fun i => (hE4.cell (p := ⟨w.heap.size, i, none⟩) (by show w.heap.size < _; omega)).trans (hcz i)
 have X := fun i => (hE3.cell (p := ⟨wz.heap.size, i, none⟩) (by show wz.heap.size < _; omega)).trans (hca i)
 have T0 := (hE2.cell (p := ⟨wa.heap.size, 0, none⟩) (by show wa.heap.size < _; omega)).trans (hcb 0)
 have U0 := hcc 0
 simp only [hsb, hsa, hsz] at X T0 U0
 have k1 : w.heap.size < wc.heap.size := by omega
 have k2 : w.heap.size + 1 < wc.heap.size := by omega
 have k3 : w.heap.size + 1 + 1 < wc.heap.size := by omega
 have k4 : w.heap.size + 1 + 1 + 1 < wc.heap.size := by omega
 have x0 : wc.cell? ⟨w.heap.size + 1, 0, none⟩ = some (.slice P1 takes.length d1) := X 0
 have x1 : wc.cell? ⟨w.heap.size + 1, 1, none⟩ = some (.slice P2 ks.length d2) := X 1
 have x2 : wc.cell? ⟨w.heap.size + 1, 2, none⟩ = some (.slice P3 brs.length d3) := X 2
 have x3 : wc.cell? ⟨w.heap.size + 1, 3, none⟩ = some (.int .i64 tt) := X 3
 simp only [List.getElem?_toArray, List.getElem?_cons_zero] at T0 U0
 have y0 := Y 0
 have y1 := Y 1
 have y2 := Y 2
 have y3 := Y 3
 have y4 := Y 4
 have y5 := Y 5
 have y6 := Y 6
 have y7 := Y 7
 have y8 := Y 8
 have y9 := Y 9
 have y10 := Y 10
 have y11 := Y 11
 simp only [List.getElem?_toArray, List.getElem?_cons_zero, List.getElem?_cons_succ] at y0 y1 y2 y3 y4 y5 y6 y7 y8 y9 y10 y11
 have hK := keys_any A1 A2 A3 A4 A5 A6 A7 A8 A9 A10 A11 A12 p c1 c2 c3 c4 c5 c6 c7 c8 c9 c10 c11 c12 ks P2 d2 wc ((h.below hw).more hw.size) ((h2.below sta_cd hw).more sta_cd hw.size) h4
 have hT := hide ((h1.below sta_int hw).more sta_int hw.size)
 have hB := hide ((h3.below sta_br hw).more sta_br hw.size)
 have hv0 := hide (show stepL p ⟨takes, ks, brs, tt⟩ = match wds (wdL p (-1)) ks with
  | none => false
  | some ws => decide (ks.length ≤ 4) && decide (takes.length ≤ 8) && takes.all (inB p.heads.length) && toB p tt && (if ks.length = 0 then decide (brs.length = 0) else
   decide (tt = 0) && decide (1 ≤ brs.length) && decide (brs.length ≤ 16) && brs.all fun b => toB p b.to && eqF patB b.pats ws) from rfl)
 replace hw := hide hw
 replace hsc := hide hsc
 unfold KeysP at hK
 clear X Y hca hcz hcb hcc hba hbz hbb hbc hE2 hE3 hE4 h h1 h2 h3
 go_enter Tryz.func31, Tryz.ntmps31
 cases ho : wds (wdL p (-1)) ks with
 | none =>
  rw [ho] at hK hv0
  replace hK := hide hK
  go_wp2_with (go_at_call 64; refine hK.out.mono ?_; rintro e w3 ⟨rfl, hb3⟩)
  go_ret
  exact ⟨ret_b hv0.out.symm, hw.out.trans ((hb3.mono hw.out.size).alloc (Nat.le_trans hw.out.size hb3.size) _)⟩
 | some ws =>
  rw [ho] at hK hv0
  simp only at hv0
  replace hK := hide hK
  go_upto_region 4 with (go_at_call 64; refine hK.out.mono ?_; rintro e w3 ⟨⟨B, cp, rfl, hI⟩, hb3⟩)
  obtain ⟨wd, hwd, hsd, hbd, hcd, -⟩ := box1 w3 #[.slice B ws.length cp] 23
  have z0 : wd.cell? ⟨w3.heap.size, 0, none⟩ = some (.slice B ws.length cp) := hcd 0
  have hD : Below wc.heap.size wc wd := hb3.trans (hbd.mono hb3.size)
  have T0d := (hD.cell (p := ⟨w.heap.size + 1 + 1, 0, none⟩) k3).trans T0
  have U0d := (hD.cell (p := ⟨w.heap.size + 1 + 1 + 1, 0, none⟩) k4).trans U0
  have x0d := (hD.cell (p := ⟨w.heap.size + 1, 0, none⟩) k2).trans x0
  have x1d := (hD.cell (p := ⟨w.heap.size + 1, 1, none⟩) k2).trans x1
  have x2d := (hD.cell (p := ⟨w.heap.size + 1, 2, none⟩) k2).trans x2
  have x3d := (hD.cell (p := ⟨w.heap.size + 1, 3, none⟩) k2).trans x3
  have y0d := (hD.cell (p := ⟨w.heap.size, 0, none⟩) k1).trans y0
  have y2d := (hD.cell (p := ⟨w.heap.size, 2, none⟩) k1).trans y2
  have g1 := Nat.lt_of_lt_of_le k1 hD.size
  have g2 := Nat.lt_of_lt_of_le k2 hD.size
  have g3 := Nat.lt_of_lt_of_le k3 hD.size
  have g4 := Nat.lt_of_lt_of_le k4 hD.size
  have gw : w3.heap.size < wd.heap.size := by omega
  have hTd := (hT.out.below sta_int hD).more (B' := wd.heap.size) sta_int hD.size
  have hBd := hide ((hB.out.below sta_br hD).more (B' := wd.heap.size) sta_br hD.size)
  obtain ⟨WA, wcp, ew, hWs⟩ := hI.sl
  injection ew with ew1 ew2 ew3
  subst ew1 ew3
  clear ew2
  have hWd := hide ((hWs.below sta_int hbd).more (B' := wd.heap.size) sta_int hbd.size)
  have hwd' := hide (hw.out.trans (hD.mono hw.out.size))
  have hF : FnB wd.heap.size 65 #[.pointer (some ⟨w.heap.size + 1 + 1 + 1, 0, none⟩)] (fun t => !inB p.heads.length t) takes wd := fun t W _ hW => by
   refine (notHd_any p A1 c1 w.heap.size (w.heap.size + 1 + 1 + 1) t W lh ((hW.cell (p := ⟨w.heap.size, 0, none⟩) g1).trans y0d) ((hW.cell (p := ⟨w.heap.size + 1 + 1 + 1, 0, none⟩) g4).trans U0d)).mono fun e w' ⟨he, hq⟩ => ⟨he, by rw [hq]; exact Below.refl _ _⟩
  have hM := containsFunc_any 65 _ enters_s3 (fun t => !inB p.heads.length t) P1 d1 takes wd hTd hF
  rw [any_not] at hM
  have hTo := fun W (hc : W.cell? ⟨w.heap.size, 2, none⟩ = some (.slice A3 p.steps.length c3)) => isTo_any p A3 c3 w.heap.size tt W ls hc
  replace hsd := hide hsd
  have hgo := hide (fun W (hW : Below wd.heap.size wd W) => hwd'.out.trans (hW.mono hwd'.out.size))
  clear hI hb3 hbd hcd hWs hD hTd hF T0 U0 x0 x1 x2 x3 y0 y1 y2 y3 y4 y5 y6 y7 y8 y9 y10 y11 hK
  by_cases a1 : ks.length ≤ 4
  ·rw [decide_eq_true a1, Bool.true_and] at hv0
   have a1b := decide_eq_true a1
   by_cases a2 : takes.length ≤ 8
   ·rw [decide_eq_true a2, Bool.true_and] at hv0
    have a2z : ¬ (8 : Int) < (takes.length : Int) := by omega
    generalize takes.all (inB p.heads.length) = M at hM hv0
    generalize toB p tt = T at hTo hv0
    replace hM := hide hM
    cases M with
    | false =>
     rw [Bool.false_and, Bool.false_and] at hv0
     rw [a1b]
     go_wp2_with (go_at_call 55; refine hM.out.mono ?_; rintro e w5 ⟨rfl, hb5⟩; have t5 := (hb5.cell (p := ⟨w.heap.size + 1 + 1, 0, none⟩) g3).trans T0d; have e3 := (hb5.cell (p := ⟨w.heap.size + 1, 3, none⟩) g2).trans x3d; have e1 := (hb5.cell (p := ⟨w.heap.size + 1, 1, none⟩) g2).trans x1d; have e2 := (hb5.cell (p := ⟨w.heap.size + 1, 2, none⟩) g2).trans x2d; have e0 := (hb5.cell (p := ⟨w.heap.size, 2, none⟩) g1).trans y2d; have g5 := hb5.size; have q2 := Nat.lt_of_lt_of_le g2 g5; have q3 := Nat.lt_of_lt_of_le g3 g5)
     go_ret
     exact ⟨ret_b hv0.out.symm, hgo.out _ hb5⟩
    | true =>
     cases T with
     | false =>
      rw [Bool.true_and, Bool.false_and] at hv0
      rw [a1b]
      go_wp2_with (first | (go_at_call 55; refine hM.out.mono ?_; rintro e w5 ⟨rfl, hb5⟩; have t5 := (hb5.cell (p := ⟨w.heap.size + 1 + 1, 0, none⟩) g3).trans T0d; have e3 := (hb5.cell (p := ⟨w.heap.size + 1, 3, none⟩) g2).trans x3d; have e1 := (hb5.cell (p := ⟨w.heap.size + 1, 1, none⟩) g2).trans x1d; have e2 := (hb5.cell (p := ⟨w.heap.size + 1, 2, none⟩) g2).trans x2d; have e0 := (hb5.cell (p := ⟨w.heap.size, 2, none⟩) g1).trans y2d; have g5 := hb5.size; have q2 := Nat.lt_of_lt_of_le g2 g5; have q3 := Nat.lt_of_lt_of_le g3 g5) | (go_at_call 62; refine (hTo _ e0).mono ?_; rintro e w' ⟨rfl, rfl⟩))
      go_ret
      exact ⟨ret_b hv0.out.symm, hgo.out _ hb5⟩
     | true =>
      rw [Bool.true_and, Bool.true_and] at hv0
      rw [a1b]
      go_upto_region 6 with (first | (go_at_call 55; refine hM.out.mono ?_; rintro e w5 ⟨rfl, hb5⟩; have t5 := (hb5.cell (p := ⟨w.heap.size + 1 + 1, 0, none⟩) g3).trans T0d; have e3 := (hb5.cell (p := ⟨w.heap.size + 1, 3, none⟩) g2).trans x3d; have e1 := (hb5.cell (p := ⟨w.heap.size + 1, 1, none⟩) g2).trans x1d; have e2 := (hb5.cell (p := ⟨w.heap.size + 1, 2, none⟩) g2).trans x2d; have e0 := (hb5.cell (p := ⟨w.heap.size, 2, none⟩) g1).trans y2d; have g5 := hb5.size; have q2 := Nat.lt_of_lt_of_le g2 g5; have q3 := Nat.lt_of_lt_of_le g3 g5) | (go_at_call 62; refine (hTo _ e0).mono ?_; rintro e w' ⟨rfl, rfl⟩))
      have hgo5 := hide (hgo.out _ hb5)
      by_cases b0 : ks.length = 0
      ·have b0z : ((ks.length : Int) == 0) = true := by rw [beq_iff_eq]; omega
       rw [if_pos b0] at hv0
       by_cases b1 : brs.length = 0
       ·have b1z : ((brs.length : Int) == 0) = true := by rw [beq_iff_eq]; omega
        rw [decide_eq_true b1] at hv0
        replace b0 := hide b0
        replace b1 := hide b1
        go_wp2
        go_ret
        exact ⟨ret_b hv0.out.symm, hgo5.out⟩
       ·have b1z : ((brs.length : Int) == 0) = false := by rw [beq_eq_false_iff_ne]; omega
        rw [decide_eq_false b1] at hv0
        replace b0 := hide b0
        go_wp2
        go_ret
        exact ⟨ret_b hv0.out.symm, hgo5.out⟩
      ·have b0z : ((ks.length : Int) == 0) = false := by rw [beq_eq_false_iff_ne]; omega
       rw [if_neg b0] at hv0
       by_cases b2 : tt = 0
       ·rw [decide_eq_true b2, Bool.true_and] at hv0
        subst b2
        by_cases b3 : 1 ≤ brs.length
        ·rw [decide_eq_true b3, Bool.true_and] at hv0
         have b3z : (1 : Int) ≤ (brs.length : Int) := by omega
         by_cases b4 : brs.length ≤ 16
         ·rw [decide_eq_true b4, Bool.true_and] at hv0
          have b4z : (brs.length : Int) ≤ 16 := by omega
          have f5 := hb5.cell (p := ⟨w3.heap.size, 0, none⟩) gw
          have hF5 : FnG rBr w5.heap.size 66 #[.pointer (some ⟨w.heap.size + 1 + 1, 0, none⟩), .pointer (some ⟨w3.heap.size, 0, none⟩)] (fun b => !(toB p b.to && eqF patB b.pats ws)) brs w5 := fun b W cs _ hW hr => by
           obtain ⟨PA, pc, rfl, hs⟩ := hr
           exact br4_any p A3 c3 w.heap.size (w.heap.size + 1 + 1) w3.heap.size ws B cp b PA pc W ls hs (((hWd.out.below sta_int hb5).below sta_int (hW.mono g5)).more sta_int (Nat.le_trans g5 hW.size)) ((hW.cell (p := ⟨w.heap.size, 2, none⟩) (Nat.lt_of_lt_of_le g1 g5)).trans e0) ((hW.cell (p := ⟨w.heap.size + 1 + 1, 0, none⟩) q3).trans t5) ((hW.cell (p := ⟨w3.heap.size, 0, none⟩) (Nat.lt_of_lt_of_le gw g5)).trans (f5.trans z0)) (Nat.lt_of_lt_of_le g1 (Nat.le_trans g5 hW.size)) (Nat.lt_of_lt_of_le g3 (Nat.le_trans g5 hW.size)) (Nat.lt_of_lt_of_le gw (Nat.le_trans g5 hW.size))
          have hQ := containsBr_any 66 _ enters_s4 _ P3 d3 brs w5 ((hBd.out.below sta_br hb5).more sta_br g5) hF5
          rw [any_not] at hQ
          generalize (brs.all fun b => toB p b.to && eqF patB b.pats ws) = Z at hQ hv0
          replace hQ := hide hQ
          clear hF5
          cases Z
          all_goals
           go_wp2_with (go_at_call 69; refine hQ.out.mono ?_; rintro e w6 ⟨rfl, hb6⟩)
           go_ret
           exact ⟨ret_b hv0.out.symm, hgo5.out.trans (hb6.mono hgo5.out.size)⟩
         ·rw [decide_eq_false b4, Bool.false_and] at hv0
          have b4z : ¬ (brs.length : Int) ≤ 16 := by omega
          go_wp2
          go_ret
          exact ⟨ret_b hv0.out.symm, hgo5.out⟩
        ·rw [decide_eq_false b3, Bool.false_and, Bool.false_and] at hv0
         have b3z : ¬ (1 : Int) ≤ (brs.length : Int) := by omega
         go_wp2
         go_ret
         exact ⟨ret_b hv0.out.symm, hgo5.out⟩
       ·rw [decide_eq_false b2, Bool.false_and, Bool.false_and, Bool.false_and] at hv0
        have b2z : (tt == 0) = false := beq_eq_false_iff_ne.2 b2
        go_wp2
        go_ret
        exact ⟨ret_b hv0.out.symm, hgo5.out⟩
   ·rw [decide_eq_false a2, Bool.false_and, Bool.false_and, Bool.false_and] at hv0
    have a2z : (8 : Int) < (takes.length : Int) := by omega
    rw [a1b]
    go_wp2
    go_ret
    exact ⟨ret_b hv0.out.symm, hwd'.out⟩
  ·rw [decide_eq_false a1, Bool.false_and, Bool.false_and, Bool.false_and, Bool.false_and] at hv0
   have a1b := decide_eq_false a1
   rw [a1b]
   go_wp2
   go_ret
   exact ⟨ret_b hv0.out.symm, hwd'.out⟩
end Go.Proofs.YtmfpbahifhndjaaGreat
/-! Layer 10: which runs may be. -/
set_option linter.all false
namespace Go.Proofs.YtmfpbahifhndjaaGreat
open Go.RowKit
theorem run_no {p : Lp} {l : List Int} {r : Rn} (h : nth p.acts r.act = none) : lrunB p l r = false := by unfold lrunB; rw [h]
theorem run_at {p : Lp} {l : List Int} {r : Rn} {a : Lac} (h : nth p.acts r.act = some a) : lrunB p l r = (decide (r.act ∈ l) && eqF fitP r.args a.params) := by unfold lrunB; rw [h]; rfl
set_option maxRecDepth 100000 in
set_option maxHeartbeats 4000000 in
theorem mayRun_any (A1 A2 A3 A4 A5 A6 A7 A8 A9 A10 A11 A12 : Option Addr) (p : Lp) (c1 c2 c3 c4 c5 c6 c7 c8 c9 c10 c11 c12 : Nat) (A' B : Option Addr) (cap' d : Nat) (l : List Int) (r : Rn) (w : World) (h : LpS w w.heap.size A1 A2 A3 A4 A5 A6 A7 A8 A9 A10 A11 A12 p) (hl : Sl 1 rInt w w.heap.size A' l) (hr : Sl 2 rNu w w.heap.size B r.args) :
  Calls Tryz.prog 10 #[.agg #[.slice A1 p.heads.length c1, .slice A2 p.metas.length c2, .slice A3 p.steps.length c3, .slice A4 p.acts.length c4, .slice A5 p.tabs.length c5, .slice A6 p.control.length c6, .slice A7 p.emit.length c7, .slice A8 p.nh.length c8, .slice A9 p.nf.length c9, .slice A10 p.nm.length c10, .slice A11 p.na.length c11, .slice A12 p.nt.length c12], .slice A' l.length cap', .agg #[.int .i64 r.act, .slice B r.args.length d]] w fun e w' => e = .returned (.bool (lrunB p l r)) ∧ Below w.heap.size w w' := by
 obtain ⟨act, args⟩ := r
 simp only at hr ⊢
 obtain ⟨wz, hwz, hsz, hbz, hcz, -⟩ := box1 w #[.slice A1 p.heads.length c1, .slice A2 p.metas.length c2, .slice A3 p.steps.length c3, .slice A4 p.acts.length c4, .slice A5 p.tabs.length c5, .slice A6 p.control.length c6, .slice A7 p.emit.length c7, .slice A8 p.nh.length c8, .slice A9 p.nf.length c9, .slice A10 p.nm.length c10, .slice A11 p.na.length c11, .slice A12 p.nt.length c12] 33
 obtain ⟨wa, hwa, hsa, hba, hca, -⟩ := box1 wz #[.int .i64 act, .slice B args.length d] 38
 have y3 := (hba.cell (p := ⟨w.heap.size, 3, none⟩) (by show w.heap.size < _; omega)).trans (hcz 3)
 simp only [List.getElem?_toArray, List.getElem?_cons_zero, List.getElem?_cons_succ] at y3
 rw [hsz] at hca
 have x0 : wa.cell? ⟨w.heap.size + 1, 0, none⟩ = some (.int .i64 act) := hca 0
 have x1 : wa.cell? ⟨w.heap.size + 1, 1, none⟩ = some (.slice B args.length d) := hca 1
 have hl1 : w.heap.size < wa.heap.size := by omega
 have hl2 : w.heap.size + 1 < wa.heap.size := by omega
 have hw : Below w.heap.size w wa := hbz.trans (hba.mono (by omega))
 have hA4 := hide ((h.acts.below sta_lac hw).more sta_lac hw.size)
 have hL := hide ((hl.below sta_int hw).more sta_int hw.size)
 have hR := hide ((hr.below sta_nu hw).more sta_nu hw.size)
 replace hw := hide hw
 replace hsa := hide hsa
 clear hca hcz hba hbz h hl hr
 go_enter Tryz.func10, Tryz.ntmps10
 rcases nth_cases p.acts act with ⟨k, rfl, hk, e1⟩ | ⟨e1, e2, e3⟩
 ·have hv := hide (run_at (p := p) (l := l) (r := ⟨(k : Int), args⟩) e1)
  have e4 := inB_at hk
  have e5 : ((nth p.acts (k : Int)).map Lac.params).getD [] = p.acts[k].params := by rw [e1]; rfl
  have hAt := atA_any A4 c4 p.acts (k : Int) wa hA4.out
  rw [e4] at hAt
  simp only [e5] at hAt
  replace hAt := hide hAt
  by_cases hm : (k : Int) ∈ l
  ·rw [decide_eq_true hm, Bool.true_and] at hv
   have hCt := fun W (g : Sl 1 rInt W W.heap.size A' l) => scontains_any A' cap' l (k : Int) W g
   rw [decide_eq_true hm] at hCt
   clear hm
   generalize hG : eqF fitP args p.acts[k].params = G at hv
   go_wp2_with (first | (go_at_call 43; refine hAt.out.mono ?_; rintro e w3 ⟨A1', c1', A2', n2', c2', rfl, hs, hb3⟩; have kb3 := bcell hb3; have hq := Nat.lt_of_lt_of_le hl2 hb3.size; have hE : ∀ o, Below wa.heap.size wa (w3.alloc o) := (fun o => hb3.alloc hb3.size o); have hs3 := hide (fun o => (hs.below sta_int (hE o)).more sta_int (hE o).size); have hL3 := hide (fun o => (hL.out.below sta_int (hE o)).more sta_int (hE o).size); have hR3 := hide (fun o => (hR.out.below sta_nu (hE o)).more sta_nu (hE o).size); replace hb3 := hide hE) | (go_at_call 44; refine (hCt _ (hL3.out _)).mono ?_; rintro e w' ⟨rfl, rfl⟩) | (go_at_call 45; refine (eqFits_any _ _ _ _ _ _ _ (hR3.out _) (hs3.out _)).mono ?_; rintro e w4 ⟨rfl, hb4⟩; rw [hG]))
   go_ret
   exact ⟨ret_b hv.out.symm, hw.out.trans (((hb3.out _).mono hw.out.size).trans (hb4.mono (Nat.le_trans hw.out.size (hb3.out _).size)))⟩
  ·rw [decide_eq_false hm, Bool.false_and] at hv
   have hCt := fun W (g : Sl 1 rInt W W.heap.size A' l) => scontains_any A' cap' l (k : Int) W g
   rw [decide_eq_false hm] at hCt
   clear hm
   go_wp2_with (first | (go_at_call 43; refine hAt.out.mono ?_; rintro e w3 ⟨A1', c1', A2', n2', c2', rfl, hs, hb3⟩; have kb3 := bcell hb3; have hq := Nat.lt_of_lt_of_le hl2 hb3.size; have hE : ∀ o, Below wa.heap.size wa (w3.alloc o) := (fun o => hb3.alloc hb3.size o); have hL3 := hide (fun o => (hL.out.below sta_int (hE o)).more sta_int (hE o).size); replace hb3 := hide hE) | (go_at_call 44; refine (hCt _ (hL3.out _)).mono ?_; rintro e w' ⟨rfl, rfl⟩))
   go_ret
   exact ⟨ret_b hv.out.symm, hw.out.trans ((hb3.out _).mono hw.out.size)⟩
 ·have hv := hide (run_no (p := p) (l := l) (r := ⟨act, args⟩) e1)
  have hAt := atA_any A4 c4 p.acts act wa hA4.out
  rw [e2] at hAt
  replace hAt := hide hAt
  go_wp2_with (go_at_call 43; refine hAt.out.mono ?_; rintro e w3 ⟨A1', c1', A2', n2', c2', rfl, hs, hb3⟩; have hE : ∀ o, Below wa.heap.size wa (w3.alloc o) := (fun o => hb3.alloc hb3.size o); replace hb3 := hide hE)
  go_ret
  exact ⟨ret_b hv.out.symm, hw.out.trans ((hb3.out _).mono hw.out.size)⟩
end Go.Proofs.YtmfpbahifhndjaaGreat

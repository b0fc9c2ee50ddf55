import Derived.Test.YtmfpbahifhndjaaGreatLow37
import Derived.Test.YtmfpbahifhndjaaGreatLow33
import Derived.Test.YtmfpbahifhndjaaGreatLow35
import Derived.Test.YtmfpbahifhndjaaGreatLow36
set_option linter.all false
/-! Layer 10: which instructions may be. -/
set_option linter.all false
namespace Go.Proofs.YtmfpbahifhndjaaGreat
open Go.RowKit
theorem Sl.ins {w : World} {B : Nat} {A : Option Addr} {xs : List Ins} (h : Sl 5 rIns w B A xs) {i : Nat} (hi : i < xs.length) : ∃ b o A' c', A = some ⟨b, o, none⟩ ∧ b < B ∧ w.cell? ⟨b, o + i * 5, none⟩ = some (.int .u8 xs[i].kind) ∧ w.cell? ⟨b, o + i * 5 + 1, none⟩ = some (.int .i64 xs[i].a) ∧ w.cell? ⟨b, o + i * 5 + 2, none⟩ = some (.int .i64 xs[i].b) ∧ w.cell? ⟨b, o + i * 5 + 3, none⟩ = some (.slice A' xs[i].e.length c') ∧ w.cell? ⟨b, o + i * 5 + 4, none⟩ = some (.int .i64 xs[i].to) ∧ Sl 6 rNd w B A' xs[i].e := by
 obtain ⟨b, o, ecs, hA, hb, hl, hc, A', c', rfl, h1⟩ := h.2 i xs[i] (List.getElem?_eq_getElem hi)
 exact ⟨b, o, A', c', hA, hb, hc 0 _ rfl, hc 1 _ rfl, hc 2 _ rfl, hc 3 _ rfl, hc 4 _ rfl, h1⟩
/-- Is an instruction of a kind that may be there, and does it go where it may? -/
def goB (tok : Bool) (act kd tt : Int) (i many : Nat) : Bool := tok && !(decide (0 ≤ act) && decide (kd = 3)) && (if kd = 7 ∨ kd = 8 then decide ((i : Int) < tt) && decide (tt ≤ many) else decide (tt = 0))
def cdV (w : Int) (n : Nat) (o : Option Int) : Bool := if w = 0 then decide (n = 0) else if 0 < w then decide (o = some w) else true
theorem ins_parts (p : Lp) (act : Int) (many i : Nat) (x : Ins) : insB (cdL p act) p act many i x = (goB (tgt p x).2 act x.kind x.to i many && cdV (tgt p x).1 x.e.length (wdL p act x.e)) := by
 unfold insB goB jmpB cdL cdV
 congr 1
 by_cases h : (tgt p x).1 = 0
 ·rw [if_pos h, if_pos h]; cases x.e <;> rfl
 ·rw [if_neg h, if_neg h]
set_option maxRecDepth 100000 in
set_option maxHeartbeats 8000000 in
theorem mayInsts_any (A1 A2 A3 A4 A5 A6 A7 A8 A9 A10 A11 A12 : Option Addr) (p : Lp) (c1 c2 c3 c4 c5 c6 c7 c8 c9 c10 c11 c12 : Nat) (act : Int) (l : List Ins) (A : Option Addr) (cap : Nat) (w : World) (h : LpS w w.heap.size A1 A2 A3 A4 A5 A6 A7 A8 A9 A10 A11 A12 p) (hc : Sl 5 rIns w w.heap.size A l) :
  Calls Tryz.prog 28 #[.agg #[.slice A1 p.heads.length c1, .slice A2 p.metas.length c2, .slice A3 p.steps.length c3, .slice A4 p.acts.length c4, .slice A5 p.tabs.length c5, .slice A6 p.control.length c6, .slice A7 p.emit.length c7, .slice A8 p.nh.length c8, .slice A9 p.nf.length c9, .slice A10 p.nm.length c10, .slice A11 p.na.length c11, .slice A12 p.nt.length c12], .int .i64 act, .slice A l.length cap] w fun e w' => e = .returned (.bool (inssL p act l)) ∧ Below w.heap.size w w' := by
 have hlen := hc.len
 obtain ⟨wz, hwz, hsz, hbz, hcz, -⟩ := box1 w #[.slice A1 p.heads.length c1, .slice A2 p.metas.length c2, .slice A3 p.steps.length c3, .slice A4 p.acts.length c4, .slice A5 p.tabs.length c5, .slice A6 p.control.length c6, .slice A7 p.emit.length c7, .slice A8 p.nh.length c8, .slice A9 p.nf.length c9, .slice A10 p.nm.length c10, .slice A11 p.na.length c11, .slice A12 p.nt.length c12] 33
 have hP := hide (h.below hbz)
 have hC := hide (hc.below sta_ins hbz)
 have hl1 : w.heap.size < wz.heap.size := by omega
 replace hbz := hide hbz
 replace hsz := hide hsz
 by_cases h6 : 65536 < l.length
 ·have h6z : (65536 : Int) < (l.length : Int) := by omega
  have hv := hide (show inssL p act l = false from by unfold inssL inssB; rw [decide_eq_false (by omega), Bool.false_and])
  clear hcz h hc
  go_enter Tryz.func28, Tryz.ntmps28
  go_wp2
  go_ret
  exact ⟨ret_b hv.out.symm, hbz.out⟩
 ·have h6z : ¬ (65536 : Int) < (l.length : Int) := by omega
  have hv := hide (show inssL p act l = allN (fun i => atD (insB (cdL p act) p act l.length i) l i) l.length from by unfold inssL inssB; rw [decide_eq_true (by omega), Bool.true_and])
  generalize hF : (fun i => atD (insB (cdL p act) p act l.length i) l i) = F at hv
  clear h hc
  go_enter Tryz.func28, Tryz.ntmps28
  go_wp2
  go_loopw [7, 8, 9, 10, 11, 12, 13, 19] (fun _ _ _ _ _ _ _ i wr => ∃ k : Nat, k ≤ l.length ∧ i = .int .i64 k ∧ Hid (allN F k = true) ∧ Hid (Below wz.heap.size wz wr)) (fun _ _ _ _ _ _ _ i _ => l.length - (intOf i).toNat)
  case atStart => exact ⟨0, Nat.zero_le _, rfl, hide rfl, hide (Below.refl _ _)⟩
  case round =>
   obtain ⟨k, hk, rfl, hcn, hG⟩ := hrel
   have hzr := hG.out.size
   have hgo := hide (fun W (hW : Below wz.heap.size wr W) => hbz.out.trans ((hG.out.trans hW).mono hbz.out.size))
   by_cases hlt : k < l.length
   ·have hkz : (k : Int) < (l.length : Int) := by omega
    obtain ⟨b, o, A', c', rfl, hb, n0, n1, n2, n3, n4, hE⟩ := (hC.out.below sta_ins (hG.out.mono hbz.out.size)).ins hlt
    have hFk : F k = insB (cdL p act) p act l.length k l[k] := by rw [← hF]; simp only [atD_at _ hlt]
    rw [ins_parts] at hFk
    have hN := hide (fun (g : F k = true) => show allN F (k + 1) = true from by rw [allN, hcn.out, g]; rfl)
    have hlo := hide (fun (g : F k = false) => show allN F l.length = false from allN_no hlt g)
    clear hF
    generalize hxk : l[k] = x at *
    obtain ⟨kd, a, b2, ec, tt⟩ := x
    simp only at n0 n1 n2 n3 n4 hE hFk
    replace hxk := hide hxk
    obtain ⟨wn, hwn, hsn, hbn, hcl, -⟩ := box1 wr #[.int .u8 kd, .int .i64 a, .int .i64 b2, .slice A' ec.length c', .int .i64 tt] 105
    obtain ⟨m0, m1, m2, m3, m4⟩ := row5 hcl
    have Yn := fun i => (hbn.cell (p := ⟨w.heap.size, i, none⟩) (by show w.heap.size < _; omega)).trans ((hG.out.cell (p := ⟨w.heap.size, i, none⟩) (by show w.heap.size < _; omega)).trans (hcz i))
    have y0 := Yn 0
    have y1 := Yn 1
    have y2 := Yn 2
    have y3 := Yn 3
    have y4 := Yn 4
    have y5 := Yn 5
    have y6 := Yn 6
    have y7 := Yn 7
    have y8 := Yn 8
    have y9 := Yn 9
    have y10 := Yn 10
    have y11 := Yn 11
    simp only [List.getElem?_toArray, List.getElem?_cons_zero, List.getElem?_cons_succ] at y0 y1 y2 y3 y4 y5 y6 y7 y8 y9 y10 y11
    have hPn := (((hP.out.below (hG.out.mono hbz.out.size)).below (hbn.mono (by omega))).more (B' := wn.heap.size) (by omega))
    have hEn := hide ((hE.below sta_nd (hbn.mono (by omega))).more (B' := wn.heap.size) sta_nd (by omega))
    have hT := target_any A1 A2 A3 A4 A5 A6 A7 A8 A9 A10 A11 A12 p c1 c2 c3 c4 c5 c6 c7 c8 c9 c10 c11 c12 ⟨kd, a, b2, ec, tt⟩ A' c' wn hPn
    replace hPn := hide hPn
    have hwrn : wr.heap.size < wn.heap.size := by omega
    have hwl : w.heap.size < wn.heap.size := by omega
    have hgn := hide (show Below wz.heap.size wr wn from hbn.mono hzr)
    have lec := hE.len
    simp only at hT
    generalize tgt p ⟨kd, a, b2, ec, tt⟩ = T at hT hFk
    obtain ⟨tw, tok⟩ := T
    simp only at hT hFk
    replace hT := hide hT
    replace hsn := hide hsn
    clear hcl hbn Yn hE
    go_upto_region 7 with (go_at_call 60; refine hT.out.mono ?_; rintro e w3 ⟨rfl, hb3⟩)
    have z0 := (hb3.cell (p := ⟨wr.heap.size, 0, none⟩) hwrn).trans m0
    have z3 := (hb3.cell (p := ⟨wr.heap.size, 3, none⟩) hwrn).trans m3
    have z4 := (hb3.cell (p := ⟨wr.heap.size, 4, none⟩) hwrn).trans m4
    have hw3 := Nat.lt_of_lt_of_le hwrn hb3.size
    have hg3 := hide (hgn.out.trans (hb3.mono (Nat.le_trans hzr (by omega))))
    have kb3 := hide (fun i => hb3.cell (p := ⟨w.heap.size, i, none⟩) hwl)
    have hP3 := hide ((hPn.out.below hb3).more hb3.size)
    have hE3 := hide ((hEn.out.below sta_nd hb3).more sta_nd hb3.size)
    clear m0 m1 m2 m3 m4 n0 n1 n2 n3 n4 hb3 hT hPn hEn
    go_cut [11] (fun u wx => u = .bool (decide (kd = 7) || decide (kd = 8)) ∧ wx = w3)
    case first =>
     go_wp2
     all_goals go_meet
     all_goals refine ⟨congrArg Value.bool ?_, rfl⟩
     all_goals clear hFk hN hlo hxk hv hcn
     all_goals first | rfl | (rw [Bool.eq_iff_iff]; simp [*]; done) | (rw [Bool.eq_iff_iff]; simp [*]; omega) | (rw [Bool.eq_iff_iff]; simp_all; done) | (rw [Bool.eq_iff_iff]; simp_all; omega)
    case rest =>
     obtain ⟨rfl, rfl⟩ := hcut
     go_upto_region 8 with fail
     have hJ : ∀ jb : Bool, (decide (kd = 7) || decide (kd = 8)) = jb → goB tok act kd tt k l.length = (tok && !(decide (0 ≤ act) && decide (kd = 3)) && (if jb = true then decide ((k : Int) < tt) && decide (tt ≤ l.length) else decide (tt = 0))) := fun jb h => by
      subst h
      unfold goB
      by_cases h7 : kd = 7 <;> by_cases h8 : kd = 8 <;> simp [h7, h8]
     generalize (decide (kd = 7) || decide (kd = 8)) = jb at hJ ⊢
     replace hJ := hJ jb rfl
     generalize hGo : goB tok act kd tt k l.length = G at hJ hFk
     replace hFk := hide hFk
     go_cut [73] (fun u wx => u = .bool (!G) ∧ wx = wc)
     case first =>
      cases tok <;> cases jb
      all_goals go_wp2
      all_goals go_meet
      all_goals refine ⟨congrArg Value.bool ?_, rfl⟩
      all_goals rw [hJ]
      all_goals clear hFk hN hlo hxk hv hcn hJ hGo hgo hG hC hP hE3 hP3 hg3 kb3
      all_goals first | rfl | (rw [Bool.eq_iff_iff]; simp [*]; done) | (rw [Bool.eq_iff_iff]; simp [*]; omega) | (rw [Bool.eq_iff_iff]; simp_all; done) | (rw [Bool.eq_iff_iff]; simp_all; omega)
     case rest =>
      obtain ⟨rfl, rfl⟩ := hcut
      cases G with
      | false =>
       replace hlo := hide (hlo.out (by rw [hFk.out]; rfl))
       go_wp2
       go_ret
       exact ⟨ret_b (by rw [hv.out, hlo.out]), hgo.out _ hg3.out⟩
      | true =>
       have t0 := (kb3.out 0).trans y0
       have t1 := (kb3.out 1).trans y1
       have t2 := (kb3.out 2).trans y2
       have t3 := (kb3.out 3).trans y3
       have t4 := (kb3.out 4).trans y4
       have t5 := (kb3.out 5).trans y5
       have t6 := (kb3.out 6).trans y6
       have t7 := (kb3.out 7).trans y7
       have t8 := (kb3.out 8).trans y8
       have t9 := (kb3.out 9).trans y9
       have t10 := (kb3.out 10).trans y10
       have t11 := (kb3.out 11).trans y11
       have hW := width_any A1 A2 A3 A4 A5 A6 A7 A8 A9 A10 A11 A12 p c1 c2 c3 c4 c5 c6 c7 c8 c9 c10 c11 c12 act ec A' c' wc hP3.out hE3.out
       unfold wdV at hW
       replace hW := hide hW
       clear y0 y1 y2 y3 y4 y5 y6 y7 y8 y9 y10 y11 hJ hGo
       generalize wdL p act ec = o at hW hFk
       go_upto_region 11 with (go_at_call 6; refine hW.out.mono ?_; rintro e w4 ⟨rfl, hb4⟩)
       have z3' := (hb4.cell (p := ⟨wr.heap.size, 3, none⟩) hw3).trans z3
       have hg4 := hide (hg3.out.trans (hb4.mono (Nat.le_trans hzr (Nat.le_of_lt hw3))))
       have hw4 := Nat.lt_of_lt_of_le hw3 hb4.size
       clear t0 t1 t2 t3 t4 t5 t6 t7 t8 t9 t10 t11 hb4 hW z0 z3 z4
       generalize hCd : cdV tw ec.length o = D at hFk
       obtain ⟨wd, hwd⟩ : ∃ wd : World, wd = wc := ⟨_, rfl⟩
       go_cut [9, 12, 13, 102] (fun _ _ _ u wx => u = .bool (!D) ∧ wx = w4)
       case first =>
        cases o
        all_goals go_wp2
        all_goals go_meet
        all_goals first | refine ⟨congrArg Value.bool ?_, rfl⟩ | (exfalso; clear hFk hN hlo hxk hv hcn hgo hG hC hP hE3 hP3 hg3 kb3 hCd; cases ec <;> simp_all)
        all_goals rw [← hCd]
        all_goals clear hFk hN hlo hxk hv hcn hgo hG hC hP hE3 hP3 hg3 kb3 hCd
        all_goals unfold cdV
        all_goals first | rfl | (rw [Bool.eq_iff_iff]; simp [*]; done) | (rw [Bool.eq_iff_iff]; simp [*]; omega) | (rw [Bool.eq_iff_iff]; simp_all; done) | (rw [Bool.eq_iff_iff]; simp_all; omega)
       case rest =>
        obtain ⟨rfl, rfl⟩ := hcut
        cases D with
        | false =>
         replace hlo := hide (hlo.out (by rw [hFk.out]; rfl))
         go_wp2
         go_ret
         exact ⟨ret_b (by rw [hv.out, hlo.out]), hgo.out _ hg4.out⟩
        | true =>
         replace hN := hide (hN.out (by rw [hFk.out]; rfl))
         have hGN := hide (hG.out.trans hg4.out)
         go_wp2
         go_roundw
         case rel => exact ⟨k + 1, by omega, by go_num, hN, hGN⟩
         case measure => simp [intOf]; omega
   ·have hke : k = l.length := by omega
    subst hke
    go_wp2
    go_ret
    exact ⟨ret_b (by rw [hv.out, hcn.out]), hgo.out _ (Below.refl _ _)⟩
end Go.Proofs.YtmfpbahifhndjaaGreat
/-! Layer 10: May's closures. -/
set_option linter.all false
namespace Go.Proofs.YtmfpbahifhndjaaGreat
open Go.RowKit
theorem row12 {w : World} {a : Nat} {v0 v1 v2 v3 v4 v5 v6 v7 v8 v9 v10 v11 : Value} (h : ∀ i, w.cell? ⟨a, i, none⟩ = (#[v0, v1, v2, v3, v4, v5, v6, v7, v8, v9, v10, v11] : Array Value)[i]?) :
  w.cell? ⟨a, 0, none⟩ = some v0 ∧ w.cell? ⟨a, 1, none⟩ = some v1 ∧ w.cell? ⟨a, 2, none⟩ = some v2 ∧ w.cell? ⟨a, 3, none⟩ = some v3 ∧ w.cell? ⟨a, 4, none⟩ = some v4 ∧ w.cell? ⟨a, 5, none⟩ = some v5 ∧ w.cell? ⟨a, 6, none⟩ = some v6 ∧ w.cell? ⟨a, 7, none⟩ = some v7 ∧ w.cell? ⟨a, 8, none⟩ = some v8 ∧ w.cell? ⟨a, 9, none⟩ = some v9 ∧ w.cell? ⟨a, 10, none⟩ = some v10 ∧ w.cell? ⟨a, 11, none⟩ = some v11 :=
 ⟨h 0, h 1, h 2, h 3, h 4, h 5, h 6, h 7, h 8, h 9, h 10, h 11⟩
theorem enters_m2 : ∀ args w, (callFunc 30 args).run Tryz.prog w = .ok (.enter 30 args) w := enters_of Tryz.func30 (by kernel_rfl) rfl
theorem enters_m3 : ∀ args w, (callFunc 34 args).run Tryz.prog w = .ok (.enter 34 args) w := enters_of Tryz.func34 (by kernel_rfl) rfl
set_option maxRecDepth 100000 in
set_option maxHeartbeats 4000000 in
theorem notStep_any (A1 A2 A3 A4 A5 A6 A7 A8 A9 A10 A11 A12 : Option Addr) (p : Lp) (c1 c2 c3 c4 c5 c6 c7 c8 c9 c10 c11 c12 : Nat) (s : Stp) (P1 P2 P3 : Option Addr) (d1 d2 d3 x : Nat) (w : World) (h : LpS w w.heap.size A1 A2 A3 A4 A5 A6 A7 A8 A9 A10 A11 A12 p) (lx : x < w.heap.size) (Y : ∀ i, w.cell? ⟨x, i, none⟩ = (#[.slice A1 p.heads.length c1, .slice A2 p.metas.length c2, .slice A3 p.steps.length c3, .slice A4 p.acts.length c4, .slice A5 p.tabs.length c5, .slice A6 p.control.length c6, .slice A7 p.emit.length c7, .slice A8 p.nh.length c8, .slice A9 p.nf.length c9, .slice A10 p.nm.length c10, .slice A11 p.na.length c11, .slice A12 p.nt.length c12] : Array Value)[i]?) (h1 : Sl 1 rInt w w.heap.size P1 s.takes) (h2 : Sl 1 rCd w w.heap.size P2 s.keys) (h3 : Sl 2 rBr w w.heap.size P3 s.brs) (h4 : s.keys.length ≤ sm) :
  Calls Tryz.prog 30 #[.agg #[.slice P1 s.takes.length d1, .slice P2 s.keys.length d2, .slice P3 s.brs.length d3, .int .i64 s.to], .pointer (some ⟨x, 0, none⟩)] w fun e w' => e = .returned (.bool (!stepL p s)) ∧ Below w.heap.size w w' := by
 obtain ⟨wa, hwa, hsa, hba, hca, -⟩ := box1 w #[.slice P1 s.takes.length d1, .slice P2 s.keys.length d2, .slice P3 s.brs.length d3, .int .i64 s.to] 49
 obtain ⟨b0, b1, b2, b3⟩ := row4 hca
 obtain ⟨y0, y1, y2, y3, y4, y5, y6, y7, y8, y9, y10, y11⟩ := row12 fun i => (hba.cell (p := ⟨x, i, none⟩) lx).trans (Y i)
 have hC := hide (mayStep_any A1 A2 A3 A4 A5 A6 A7 A8 A9 A10 A11 A12 p c1 c2 c3 c4 c5 c6 c7 c8 c9 c10 c11 c12 s P1 P2 P3 d1 d2 d3 wa ((h.below hba).more hba.size) ((h1.below sta_int hba).more sta_int hba.size) ((h2.below sta_cd hba).more sta_cd hba.size) ((h3.below sta_br hba).more sta_br hba.size) h4)
 have hl := Nat.lt_of_lt_of_le lx hba.size
 have hl2 : w.heap.size < wa.heap.size := by omega
 replace hba := hide hba
 replace hsa := hide hsa
 clear hca Y h h1 h2 h3
 go_enter Tryz.func30, Tryz.ntmps30
 go_wp2_with (go_at_call 31; refine hC.out.mono ?_; rintro e w3 ⟨rfl, hb3⟩)
 go_ret
 exact ⟨rfl, hba.out.trans (hb3.mono hba.out.size)⟩
set_option maxRecDepth 100000 in
set_option maxHeartbeats 4000000 in
theorem notTab_any (A1 A2 A3 A4 A5 A6 A7 A8 A9 A10 A11 A12 : Option Addr) (p : Lp) (c1 c2 c3 c4 c5 c6 c7 c8 c9 c10 c11 c12 : Nat) (t : Ltb) (P1 P2 P3 P4 : Option Addr) (d1 d2 d3 d4 x : Nat) (w : World) (h : LpS w w.heap.size A1 A2 A3 A4 A5 A6 A7 A8 A9 A10 A11 A12 p) (lx : x < w.heap.size) (Y : ∀ i, w.cell? ⟨x, i, none⟩ = (#[.slice A1 p.heads.length c1, .slice A2 p.metas.length c2, .slice A3 p.steps.length c3, .slice A4 p.acts.length c4, .slice A5 p.tabs.length c5, .slice A6 p.control.length c6, .slice A7 p.emit.length c7, .slice A8 p.nh.length c8, .slice A9 p.nf.length c9, .slice A10 p.nm.length c10, .slice A11 p.na.length c11, .slice A12 p.nt.length c12] : Array Value)[i]?) (h1 : Sl 1 rCd w w.heap.size P1 t.keys) (h2 : Sl 1 rU8 w w.heap.size P2 t.kinds) (h3 : Sl 1 rInt w w.heap.size P3 t.acts) (h4 : Sl 2 rNu w w.heap.size P4 t.run.args) (h5 : t.keys.length ≤ sm) :
  Calls Tryz.prog 34 #[.agg #[.slice P1 t.keys.length d1, .slice P2 t.kinds.length d2, .slice P3 t.acts.length d3, .int .i64 t.run.act, .slice P4 t.run.args.length d4], .pointer (some ⟨x, 0, none⟩)] w fun e w' => e = .returned (.bool (!tabL p t)) ∧ Below w.heap.size w w' := by
 obtain ⟨wa, hwa, hsa, hba, hca, -⟩ := box1 w #[.slice P1 t.keys.length d1, .slice P2 t.kinds.length d2, .slice P3 t.acts.length d3, .int .i64 t.run.act, .slice P4 t.run.args.length d4] 57
 obtain ⟨b0, b1, b2, b3, b4⟩ := row5 hca
 obtain ⟨y0, y1, y2, y3, y4, y5, y6, y7, y8, y9, y10, y11⟩ := row12 fun i => (hba.cell (p := ⟨x, i, none⟩) lx).trans (Y i)
 have hC := hide (mayTab_any A1 A2 A3 A4 A5 A6 A7 A8 A9 A10 A11 A12 p c1 c2 c3 c4 c5 c6 c7 c8 c9 c10 c11 c12 t P1 P2 P3 P4 d1 d2 d3 d4 wa ((h.below hba).more hba.size) ((h1.below sta_cd hba).more sta_cd hba.size) ((h2.below sta_u8 hba).more sta_u8 hba.size) ((h3.below sta_int hba).more sta_int hba.size) ((h4.below sta_nu hba).more sta_nu hba.size) h5)
 have hl := Nat.lt_of_lt_of_le lx hba.size
 have hl2 : w.heap.size < wa.heap.size := by omega
 replace hba := hide hba
 replace hsa := hide hsa
 clear hca Y h h1 h2 h3 h4
 go_enter Tryz.func34, Tryz.ntmps34
 go_wp2_with (go_at_call 35; refine hC.out.mono ?_; rintro e w3 ⟨rfl, hb3⟩)
 go_ret
 exact ⟨rfl, hba.out.trans (hb3.mono hba.out.size)⟩
/-- All steps, all tables: as May asks. -/
theorem steps_any (A1 A2 A3 A4 A5 A6 A7 A8 A9 A10 A11 A12 : Option Addr) (p : Lp) (c1 c2 c3 c4 c5 c6 c7 c8 c9 c10 c11 c12 : Nat) (x : Nat) (w : World) (h : LpS w w.heap.size A1 A2 A3 A4 A5 A6 A7 A8 A9 A10 A11 A12 p) (lx : x < w.heap.size) (Y : ∀ i, w.cell? ⟨x, i, none⟩ = (#[.slice A1 p.heads.length c1, .slice A2 p.metas.length c2, .slice A3 p.steps.length c3, .slice A4 p.acts.length c4, .slice A5 p.tabs.length c5, .slice A6 p.control.length c6, .slice A7 p.emit.length c7, .slice A8 p.nh.length c8, .slice A9 p.nf.length c9, .slice A10 p.nm.length c10, .slice A11 p.na.length c11, .slice A12 p.nt.length c12] : Array Value)[i]?) :
  Calls Tryz.prog 29 #[.slice A3 p.steps.length c3, .func (.func 30) #[] #[.pointer (some ⟨x, 0, none⟩)]] w fun e w' => e = .returned (.bool (!p.steps.all (stepL p))) ∧ Below w.heap.size w w' := by
 rw [← any_not]
 refine containsSt_any 30 _ enters_m2 (fun s => !stepL p s) A3 c3 p.steps w h.steps fun s W cs _ hW hr => ?_
 obtain ⟨P1, P2, P3, d1, d2, d3, rfl, hs1, hs2, hs3, hs4⟩ := hr
 exact notStep_any A1 A2 A3 A4 A5 A6 A7 A8 A9 A10 A11 A12 p c1 c2 c3 c4 c5 c6 c7 c8 c9 c10 c11 c12 s P1 P2 P3 d1 d2 d3 x W ((h.below hW).more hW.size) (Nat.lt_of_lt_of_le lx hW.size) (fun i => (hW.cell (p := ⟨x, i, none⟩) lx).trans (Y i)) hs1 hs2 hs3 hs4
theorem tabs_any (A1 A2 A3 A4 A5 A6 A7 A8 A9 A10 A11 A12 : Option Addr) (p : Lp) (c1 c2 c3 c4 c5 c6 c7 c8 c9 c10 c11 c12 : Nat) (x : Nat) (w : World) (h : LpS w w.heap.size A1 A2 A3 A4 A5 A6 A7 A8 A9 A10 A11 A12 p) (lx : x < w.heap.size) (Y : ∀ i, w.cell? ⟨x, i, none⟩ = (#[.slice A1 p.heads.length c1, .slice A2 p.metas.length c2, .slice A3 p.steps.length c3, .slice A4 p.acts.length c4, .slice A5 p.tabs.length c5, .slice A6 p.control.length c6, .slice A7 p.emit.length c7, .slice A8 p.nh.length c8, .slice A9 p.nf.length c9, .slice A10 p.nm.length c10, .slice A11 p.na.length c11, .slice A12 p.nt.length c12] : Array Value)[i]?) :
  Calls Tryz.prog 33 #[.slice A5 p.tabs.length c5, .func (.func 34) #[] #[.pointer (some ⟨x, 0, none⟩)]] w fun e w' => e = .returned (.bool (!p.tabs.all (tabL p))) ∧ Below w.heap.size w w' := by
 rw [← any_not]
 refine containsTb_any 34 _ enters_m3 (fun s => !tabL p s) A5 c5 p.tabs w h.tabs fun s W cs _ hW hr => ?_
 obtain ⟨P1, P2, P3, P4, d1, d2, d3, d4, rfl, hs1, hs2, hs3, hs4, hs5, -⟩ := hr
 exact notTab_any A1 A2 A3 A4 A5 A6 A7 A8 A9 A10 A11 A12 p c1 c2 c3 c4 c5 c6 c7 c8 c9 c10 c11 c12 s P1 P2 P3 P4 d1 d2 d3 d4 x W ((h.below hW).more hW.size) (Nat.lt_of_lt_of_le lx hW.size) (fun i => (hW.cell (p := ⟨x, i, none⟩) lx).trans (Y i)) hs1 hs2 hs3 hs4 hs5
theorem brs_few {p : Lp} (h : p.steps.all (stepL p) = true) : ∀ s ∈ p.steps, s.brs.length ≤ 1000 := fun s hs => by
 have h1 := List.all_eq_true.1 h s hs
 unfold stepL at h1
 cases hk : wds (wdL p (-1)) s.keys with
 | none => rw [hk] at h1; cases h1
 | some ws =>
  rw [hk] at h1
  simp only [Bool.and_eq_true] at h1
  have h2 := h1.2
  split at h2
  ·have := of_decide_eq_true h2; omega
  ·simp only [Bool.and_eq_true, decide_eq_true_eq] at h2; omega
end Go.Proofs.YtmfpbahifhndjaaGreat

import Derived.Test.YtmfpbahifhndjaaGreatLow35
import Derived.Test.YtmfpbahifhndjaaGreatLow34
import Derived.Test.YtmfpbahifhndjaaGreatLow13
set_option linter.all false
/-! The document's layer 10: which runs may be. -/
set_option linter.all false
namespace Go.Proofs.YtmfpbahifhndjaaGreat
open Go.RowKit
theorem Sl.num {w : World} {B : Nat} {A : Option Addr} {xs : List (Int × Int)} (h : Sl 2 rNu w B A xs) {i : Nat} (hi : i < xs.length) : ∃ b o, A = some ⟨b, o, none⟩ ∧ b < B ∧ w.cell? ⟨b, o + i * 2, none⟩ = some (.int .u64 xs[i].1) ∧ w.cell? ⟨b, o + i * 2 + 1, none⟩ = some (.int .u64 xs[i].2) ∧ u64 xs[i].1 ∧ u64 xs[i].2 := by
 obtain ⟨b, o, ecs, hA, hb, hl, hc, rfl, h1, h2⟩ := h.2 i xs[i] (List.getElem?_eq_getElem hi)
 exact ⟨b, o, hA, hb, hc 0 _ rfl, hc 1 _ rfl, h1, h2⟩
theorem Sl.act {w : World} {B : Nat} {A : Option Addr} {xs : List Lac} (h : Sl 2 rLac w B A xs) {i : Nat} (hi : i < xs.length) : ∃ b o A1 A2 c1 c2, A = some ⟨b, o, none⟩ ∧ b < B ∧ w.cell? ⟨b, o + i * 2, none⟩ = some (.slice A1 xs[i].params.length c1) ∧ w.cell? ⟨b, o + i * 2 + 1, none⟩ = some (.slice A2 xs[i].body.length c2) ∧ Sl 1 rInt w B A1 xs[i].params ∧ Sl 5 rIns w B A2 xs[i].body := by
 obtain ⟨b, o, ecs, hA, hb, hl, hc, A1, A2, c1, c2, rfl, h1, h2⟩ := h.2 i xs[i] (List.getElem?_eq_getElem hi)
 exact ⟨b, o, A1, A2, c1, c2, hA, hb, hc 0 _ rfl, hc 1 _ rfl, h1, h2⟩
set_option maxRecDepth 100000 in
set_option maxHeartbeats 4000000 in
theorem rmayRun_any (A1 A2 A3 A4 A5 A6 A7 A8 A9 A10 A11 A12 : Option Addr) (p : Lp) (c1 c2 c3 c4 c5 c6 c7 c8 c9 c10 c11 c12 : Nat) (A' B : Option Addr) (cap' d : Nat) (l : List Int) (r : Rn) (w : World) (h : LpS w w.heap.size A1 A2 A3 A4 A5 A6 A7 A8 A9 A10 A11 A12 p) (hl : Sl 1 rInt w w.heap.size A' l) (hr : Sl 2 rNu w w.heap.size B r.args) :
  Calls Tryz.prog 11 #[.agg #[.slice A1 p.heads.length c1, .slice A2 p.metas.length c2, .slice A3 p.steps.length c3, .slice A4 p.acts.length c4, .slice A5 p.tabs.length c5, .slice A6 p.control.length c6, .slice A7 p.emit.length c7, .slice A8 p.nh.length c8, .slice A9 p.nf.length c9, .slice A10 p.nm.length c10, .slice A11 p.na.length c11, .slice A12 p.nt.length c12], .slice A' l.length cap', .agg #[.int .i64 r.act, .slice B r.args.length d]] w fun e w' => e = .returned (.bool (lrunB p l r)) ∧ Below w.heap.size w w' := by
 obtain ⟨act, args⟩ := r
 simp only at hr ⊢
 have lr := hr.len
 have l4 := h.acts.len
 obtain ⟨wz, hwz, hsz, hbz, hcz, -⟩ := box1 w #[.slice A1 p.heads.length c1, .slice A2 p.metas.length c2, .slice A3 p.steps.length c3, .slice A4 p.acts.length c4, .slice A5 p.tabs.length c5, .slice A6 p.control.length c6, .slice A7 p.emit.length c7, .slice A8 p.nh.length c8, .slice A9 p.nf.length c9, .slice A10 p.nm.length c10, .slice A11 p.na.length c11, .slice A12 p.nt.length c12] 33
 obtain ⟨wa, hwa, hsa, hba, hca, -⟩ := box1 wz #[.int .i64 act, .slice B args.length d] 38
 have y3 := (hba.cell (p := ⟨w.heap.size, 3, none⟩) (by show w.heap.size < _; omega)).trans (hcz 3)
 simp only [List.getElem?_toArray, List.getElem?_cons_zero, List.getElem?_cons_succ] at y3
 rw [hsz] at hca
 have x0 : wa.cell? ⟨w.heap.size + 1, 0, none⟩ = some (.int .i64 act) := hca 0
 have x1 : wa.cell? ⟨w.heap.size + 1, 1, none⟩ = some (.slice B args.length d) := hca 1
 have hl1 : w.heap.size < wa.heap.size := by omega
 have hl2 : w.heap.size + 1 < wa.heap.size := by omega
 have hw : Below w.heap.size w wa := hbz.trans (hba.mono (by omega))
 have hA4 := hide ((h.acts.below sta_lac hw).more sta_lac hw.size)
 have hL := hide ((hl.below sta_int hw).more sta_int hw.size)
 have hR := hide ((hr.below sta_nu hw).more sta_nu hw.size)
 replace hw := hide hw
 replace hsa := hide hsa
 clear hca hcz hba hbz h hl hr
 go_enter Tryz.func11, Tryz.ntmps11
 rcases nth_cases p.acts act with ⟨k, rfl, hk, e1⟩ | ⟨e1, e2, e3⟩
 ·have hv := hide (run_at (p := p) (l := l) (r := ⟨(k : Int), args⟩) e1)
  obtain ⟨b, o, A1', A2', c1', c2', rfl, hb, t0, t1, hs1, -⟩ := hA4.out.act hk
  have hkz : (k : Int) < (p.acts.length : Int) := by omega
  have d1 : decide ((k : Int) < 0) = false := decide_eq_false (by omega)
  have d2 : decide ((p.acts.length : Int) ≤ (k : Int)) = false := decide_eq_false (by omega)
  have d3 : decide (p.acts.length ≤ k) = false := decide_eq_false (by omega)
  have hCt := hide (fun m => in10_any A' cap' l (k : Int) (wa.drewN m) ((hL.out.drewN sta_int m).more sta_int (by simp)))
  have hwd := hide (fun m => hw.out.trans (below_drewN (Below.refl wa.heap.size wa |>.mono hw.out.size) m))
  have lp := hs1.len
  by_cases hm : (k : Int) ∈ l
  ·rw [decide_eq_true hm] at hCt
   simp only [decide_eq_true hm, Bool.true_and] at hv
   clear hm
   by_cases he : args.length = p.acts[k].params.length
   ·have hez : ((args.length : Int) != (p.acts[k].params.length : Int)) = false := by rw [he]; exact bne_self_eq_false _
    have hv2 := hide (show eqF fitP args p.acts[k].params = allN (fun i => atD (fun x => atD (fitP x) p.acts[k].params i) args i) args.length from by unfold eqF; rw [decide_eq_true he, Bool.true_and])
    replace he := hide he
    generalize hF : (fun i => atD (fun x => atD (fitP x) p.acts[k].params i) args i) = F at hv2
    go_wp2_with fail
    go_quiet ((go_at_call 47; with_reducible exact quiet_same (hCt.out _)))
    go_wp2
    clear hCt
    go_loopw [7] (fun i wr => ∃ n : Nat, n ≤ args.length ∧ i = .int .i64 n ∧ Hid (allN F n = true) ∧ Hid (Below wa.heap.size wa wr)) (fun i _ => args.length - (intOf i).toNat)
    case atStart => exact ⟨0, Nat.zero_le _, rfl, hide rfl, hide (below_drewN (Below.refl _ _) _)⟩
    case round =>
     obtain ⟨n, hn, rfl, hc, hbr⟩ := hrel
     have kbr := bcell' hbr.out
     have hsr := hbr.out.size
     have y3r := (kbr.1 _ 3 hl1).trans y3
     have x0r := (kbr.1 _ 0 hl2).trans x0
     have x1r := (kbr.1 _ 1 hl2).trans x1
     have t0r := (kbr.1 _ (o + k * 2) hb).trans t0
     by_cases hlt : n < args.length
     ·have hlt' : n < p.acts[k].params.length := by have := he.out; omega
      have hnz : (n : Int) < (args.length : Int) := by omega
      have hnz' : (n : Int) < (p.acts[k].params.length : Int) := by omega
      obtain ⟨g, q, rfl, hg, n0, n1, u⟩ := hR.out.num hlt
      obtain ⟨g', q', rfl, hg', m0⟩ := hs1.int hlt'
      have n0r := (kbr.1 _ (q + n * 2) hg).trans n0
      have n1r := (kbr.1 _ (q + n * 2 + 1) hg).trans n1
      have m0r := (kbr.1 _ (q' + n) hg').trans m0
      have hFn : F n = fitP args[n] p.acts[k].params[n] := by rw [← hF]; simp only [atD_at _ hlt, atD_at _ hlt']
      have hK := fun W => fits01_all args[n].1 args[n].2 p.acts[k].params[n] W u
      have hN := hide (show allN F (n + 1) = fitN p.acts[k].params[n] args[n].1 args[n].2 from by rw [allN, hc.out, Bool.true_and, hFn]; rfl)
      have hlo := hide (fun (g : fitN p.acts[k].params[n] args[n].1 args[n].2 = false) => show allN F args.length = false from allN_no hlt (by rw [hFn]; exact g))
      generalize fitN p.acts[k].params[n] args[n].1 args[n].2 = z at hK hN hlo
      replace hK := hide hK
      clear hs1 hFn hF kbr n0 n1 m0 u
      have hX : ∀ d os, Hid (Calls Tryz.prog 48 #[.agg #[.int .u64 args[n].1, .int .u64 args[n].2], .int .i64 p.acts[k].params[n]] (Go.Sort.grow (redrawn wr d) os) _) := fun d os => hide (hK _)
      have hgw := gcell' (show Below wr.heap.size wr wr from Below.refl _ _) (Nat.le_refl _)
      have hB1 := Nat.lt_of_lt_of_le hl1 hsr
      have hB2 := Nat.lt_of_lt_of_le hl2 hsr
      have hB3 := Nat.lt_of_lt_of_le hb hsr
      have hB4 := Nat.lt_of_lt_of_le hg hsr
      have hB5 := Nat.lt_of_lt_of_le hg' hsr
      clear hK
      cases z with
      | false =>
       replace hlo := hide (hlo.out rfl)
       go_wp2_with fail
       refine wp_region_quiet_below (by kernel_rfl) (by kernel_rfl) ?_
       repeat (any_goals (first | go_big_quiet_step ((go_at_call 48; with_reducible exact Calls.regrown_of (hX _ _).out)) | quiet_step ((go_at_call 48; with_reducible exact Calls.regrown_of (hX _ _).out))))
       refine wpQuiet_nil ?_
       intro wq hwq
       replace hwq := below_of_regrown hwq
       go_wp2
       go_ret
       exact ⟨ret_b (by rw [hv.out, hv2.out, hlo.out]), hw.out.trans ((hbr.out.mono hw.out.size).trans (hwq.mono (Nat.le_trans hw.out.size hsr)))⟩
      | true =>
       go_wp2_with fail
       refine wp_region_quiet_below (by kernel_rfl) (by kernel_rfl) ?_
       repeat (any_goals (first | go_big_quiet_step ((go_at_call 48; with_reducible exact Calls.regrown_of (hX _ _).out)) | quiet_step ((go_at_call 48; with_reducible exact Calls.regrown_of (hX _ _).out))))
       refine wpQuiet_nil ?_
       intro wq hwq
       replace hwq := below_of_regrown hwq
       go_wp2
       go_roundw
       case rel => exact ⟨n + 1, by omega, by go_num, hN, hide (hbr.out.trans (hwq.mono hsr))⟩
       case measure => simp [intOf]; omega
     ·have hke : n = args.length := by omega
      subst hke
      go_wp2
      go_ret
      exact ⟨ret_b (by rw [hv.out, hv2.out, hc.out]), hw.out.trans (hbr.out.mono hw.out.size)⟩
   ·have hez : ((args.length : Int) != (p.acts[k].params.length : Int)) = true := by rw [bne_iff_ne]; omega
    have hv2 := hide (show eqF fitP args p.acts[k].params = false from by unfold eqF; rw [decide_eq_false he, Bool.false_and])
    go_wp2_with fail
    go_quiet ((go_at_call 47; with_reducible exact quiet_same (hCt.out _)))
    go_wp2
    go_ret
    exact ⟨ret_b (by rw [hv.out, hv2.out]), hwd.out _⟩
  ·rw [decide_eq_false hm] at hCt
   simp only [decide_eq_false hm, Bool.false_and] at hv
   clear hm
   go_wp2_with fail
   go_quiet ((go_at_call 47; with_reducible exact quiet_same (hCt.out _)))
   go_wp2
   go_ret
   exact ⟨ret_b hv.out.symm, hwd.out _⟩
 ·have hv := hide (run_no (p := p) (l := l) (r := ⟨act, args⟩) e1)
  have hwd := hide (fun m => hw.out.trans (below_drewN (Below.refl wa.heap.size wa |>.mono hw.out.size) m))
  by_cases ha : act < 0
  ·have d1 : decide (act < 0) = true := decide_eq_true ha
   go_wp2_with fail
   go_quiet (fail)
   go_wp2
   go_ret
   exact ⟨ret_b hv.out.symm, hwd.out _⟩
  ·have d1 : decide (act < 0) = false := decide_eq_false ha
   have d2 : decide ((p.acts.length : Int) ≤ act) = true := decide_eq_true (by omega)
   go_wp2_with fail
   go_quiet (fail)
   go_wp2
   go_ret
   exact ⟨ret_b hv.out.symm, hwd.out _⟩
end Go.Proofs.YtmfpbahifhndjaaGreat
/-! Layer 10: numbers none twice; what an instruction asks. -/
set_option linter.all false
namespace Go.Proofs.YtmfpbahifhndjaaGreat
open Go.RowKit
set_option maxRecDepth 100000 in
set_option maxHeartbeats 2000000 in
theorem distinct_any (A : Option Addr) (cap : Nat) (xs : List Int) (n : Nat) (w : World) (h : Sl 1 rInt w w.heap.size A xs) :
  Calls Tryz.prog 27 #[.slice A xs.length cap, .int .i64 (n : Int)] w fun e w' => e = .returned (.bool (dstL xs n)) ∧ w = w' := by
 have hl := h.len
 have hv := hide (show dstL xs n = allN (fun i => atD (fun x => inB n x && !decide (findI xs x < i)) xs i) xs.length from rfl)
 generalize hF : (fun i : Nat => atD (fun x => inB n x && !decide (findI xs x < i)) xs i) = F at hv
 have hI := hide (fun y => sindex_any A cap xs y w h)
 go_enter Tryz.func27, Tryz.ntmps27
 go_wp2
 go_loop [5, 6, 9] (fun _ _ i => ∃ k : Nat, k ≤ xs.length ∧ i = .int .i64 k ∧ Hid (allN F k = true)) (fun _ _ i => xs.length - (intOf i).toNat)
 case atStart => exact ⟨0, Nat.zero_le _, rfl, hide rfl⟩
 case round =>
  obtain ⟨k, hk, rfl, hc⟩ := hrel
  by_cases hlt : k < xs.length
  ·obtain ⟨b, o, rfl, hb, hcell⟩ := h.int hlt
   have hkz : (k : Int) < (xs.length : Int) := by omega
   have hFk : F k = (inB n xs[k] && !decide (findI xs xs[k] < k)) := by rw [← hF]; simp only [atD_at _ hlt]
   have hN := hide (fun (g : F k = true) => show allN F (k + 1) = true from by rw [allN, hc.out, g]; rfl)
   have hlo := hide (fun (g : F k = false) => show allN F xs.length = false from allN_no hlt g)
   clear h hF
   generalize xs[k] = x at *
   by_cases c1 : x < 0
   ·have d1 : decide (x < 0) = true := decide_eq_true c1
    replace hlo := hide (hlo.out (by rw [hFk, inB_no (by omega)]; rfl))
    clear hFk hN
    go_wp2
    all_goals first | (exfalso; omega) | (go_ret; exact ⟨ret_b (by rw [hv.out, hlo.out]), rfl⟩)
   ·have d1 : decide (x < 0) = false := decide_eq_false c1
    by_cases c2 : (n : Int) ≤ x
    ·replace hlo := hide (hlo.out (by rw [hFk, inB_no (by omega)]; rfl))
     clear hFk hN
     go_wp2
     all_goals first | (exfalso; omega) | (go_ret; exact ⟨ret_b (by rw [hv.out, hlo.out]), rfl⟩)
    ·obtain ⟨y, rfl, hy⟩ := nat_of c1 c2
     rw [inB_at hy, Bool.true_and] at hFk
     have hIy := hI.out (y : Int)
     clear hI
     generalize findI xs (y : Int) = f at hFk hIy
     replace hIy := hide hIy
     by_cases c3 : f < (k : Int)
     ·replace hlo := hide (hlo.out (by rw [hFk, decide_eq_true c3]; rfl))
      clear hFk hN
      go_wp2_with (go_at_call 59; refine hIy.out.mono ?_; rintro e w' ⟨rfl, rfl⟩)
      all_goals first | (exfalso; omega) | (go_ret; exact ⟨ret_b (by rw [hv.out, hlo.out]), rfl⟩)
     ·replace hN := hide (hN.out (by rw [hFk, decide_eq_false c3]; rfl))
      clear hFk hlo
      go_wp2_with (go_at_call 59; refine hIy.out.mono ?_; rintro e w' ⟨rfl, rfl⟩)
      all_goals try (exfalso; omega)
      go_round
      case rel => exact ⟨k + 1, by omega, by go_num, hN⟩
      case measure => simp [intOf]; omega
  ·have hke : k = xs.length := by omega
   subst hke
   go_wp2
   go_ret
   exact ⟨ret_b (by rw [hv.out, hc.out]), rfl⟩
end Go.Proofs.YtmfpbahifhndjaaGreat
/-! Layer 10: a table, for the program. -/
set_option linter.all false
namespace Go.Proofs.YtmfpbahifhndjaaGreat
open Go.RowKit
theorem prefs_take {l : List Int} {k : Nat} (hk : k < l.length) : prefs (l.take (k + 1)) = prefs (l.take k) + (if l[k] = 2 then 1 else 0) := by
 unfold prefs
 rw [List.take_succ_eq_append_getElem hk, List.filter_append, List.length_append]
 by_cases h : l[k] = 2 <;> simp [h]
theorem Sl.byte {w : World} {B : Nat} {A : Option Addr} {xs : List Int} (h : Sl 1 rU8 w B A xs) {i : Nat} (hi : i < xs.length) : ∃ b o, A = some ⟨b, o, none⟩ ∧ b < B ∧ w.cell? ⟨b, o + i, none⟩ = some (.int .u8 xs[i]) := by
 obtain ⟨b, o, u, hA, hb, hc, hr⟩ := h.at1 hi
 cases hr
 exact ⟨b, o, hA, hb, hc⟩
set_option maxRecDepth 100000 in
set_option maxHeartbeats 8000000 in
theorem mayTab_any (A1 A2 A3 A4 A5 A6 A7 A8 A9 A10 A11 A12 : Option Addr) (p : Lp) (c1 c2 c3 c4 c5 c6 c7 c8 c9 c10 c11 c12 : Nat) (t : Ltb) (P1 P2 P3 P4 : Option Addr) (d1 d2 d3 d4 : Nat) (w : World) (h : LpS w w.heap.size A1 A2 A3 A4 A5 A6 A7 A8 A9 A10 A11 A12 p) (h1 : Sl 1 rCd w w.heap.size P1 t.keys) (h2 : Sl 1 rU8 w w.heap.size P2 t.kinds) (h3 : Sl 1 rInt w w.heap.size P3 t.acts) (h4 : Sl 2 rNu w w.heap.size P4 t.run.args) (h5 : t.keys.length ≤ sm) :
  Calls Tryz.prog 35 #[.agg #[.slice A1 p.heads.length c1, .slice A2 p.metas.length c2, .slice A3 p.steps.length c3, .slice A4 p.acts.length c4, .slice A5 p.tabs.length c5, .slice A6 p.control.length c6, .slice A7 p.emit.length c7, .slice A8 p.nh.length c8, .slice A9 p.nf.length c9, .slice A10 p.nm.length c10, .slice A11 p.na.length c11, .slice A12 p.nt.length c12], .agg #[.slice P1 t.keys.length d1, .slice P2 t.kinds.length d2, .slice P3 t.acts.length d3, .int .i64 t.run.act, .slice P4 t.run.args.length d4]] w fun e w' => e = .returned (.bool (tabL p t)) ∧ Below w.heap.size w w' := by
 obtain ⟨ks, kinds, acts, ra, rg⟩ := t
 simp only at h1 h2 h3 h4 h5 ⊢
 have lt1 := h1.len
 have lt2 := h2.len
 have lt3 := h3.len
 have la := h.acts.len
 obtain ⟨wz, hwz, hsz, hbz, hcz, -⟩ := box1 w #[.slice A1 p.heads.length c1, .slice A2 p.metas.length c2, .slice A3 p.steps.length c3, .slice A4 p.acts.length c4, .slice A5 p.tabs.length c5, .slice A6 p.control.length c6, .slice A7 p.emit.length c7, .slice A8 p.nh.length c8, .slice A9 p.nf.length c9, .slice A10 p.nm.length c10, .slice A11 p.na.length c11, .slice A12 p.nt.length c12] 33
 obtain ⟨wa, hwa, hsa, hba, hca, -⟩ := box1 wz #[.slice P1 ks.length d1, .slice P2 kinds.length d2, .slice P3 acts.length d3, .int .i64 ra, .slice P4 rg.length d4] 57
 have Y := fun i => (hba.cell (p := ⟨w.heap.size, i, none⟩) (by show w.heap.size < _; omega)).trans (hcz i)
 rw [hsz] at hca
 have k1 : w.heap.size < wa.heap.size := by omega
 have k2 : w.heap.size + 1 < wa.heap.size := by omega
 have hw : Below w.heap.size w wa := hbz.trans (hba.mono (by omega))
 have x0 : wa.cell? ⟨w.heap.size + 1, 0, none⟩ = some (.slice P1 ks.length d1) := hca 0
 have x1 : wa.cell? ⟨w.heap.size + 1, 1, none⟩ = some (.slice P2 kinds.length d2) := hca 1
 have x2 : wa.cell? ⟨w.heap.size + 1, 2, none⟩ = some (.slice P3 acts.length d3) := hca 2
 have x3 : wa.cell? ⟨w.heap.size + 1, 3, none⟩ = some (.int .i64 ra) := hca 3
 have x4 : wa.cell? ⟨w.heap.size + 1, 4, none⟩ = some (.slice P4 rg.length d4) := hca 4
 have y0 := Y 0
 have y1 := Y 1
 have y2 := Y 2
 have y3 := Y 3
 have y4 := Y 4
 have y5 := Y 5
 have y6 := Y 6
 have y7 := Y 7
 have y8 := Y 8
 have y9 := Y 9
 have y10 := Y 10
 have y11 := Y 11
 simp only [List.getElem?_toArray, List.getElem?_cons_zero, List.getElem?_cons_succ] at y0 y1 y2 y3 y4 y5 y6 y7 y8 y9 y10 y11
 have hK := keys_any A1 A2 A3 A4 A5 A6 A7 A8 A9 A10 A11 A12 p c1 c2 c3 c4 c5 c6 c7 c8 c9 c10 c11 c12 ks P1 d1 wa ((h.below hw).more hw.size) ((h1.below sta_cd hw).more sta_cd hw.size) h5
 have hP := hide ((h.below hw).more (B' := wa.heap.size) hw.size)
 have hk := hide ((h2.below sta_u8 hw).more (B' := wa.heap.size) sta_u8 hw.size)
 have hA := hide ((h3.below sta_int hw).more (B' := wa.heap.size) sta_int hw.size)
 have hG := hide ((h4.below sta_nu hw).more (B' := wa.heap.size) sta_nu hw.size)
 have hv0 := hide (show tabL p ⟨ks, kinds, acts, ⟨ra, rg⟩⟩ = ((wds (wdL p (-1)) ks).isSome && decide (ks.length ≤ 4) && !decide (ks.length = 0) && decide (kinds.length = ks.length) && allN (atD kindB kinds) kinds.length && decide (prefs kinds ≤ 1) &&
  decide (1 ≤ acts.length) && decide (acts.length ≤ 16) && dstL acts p.acts.length && lrunB p acts ⟨ra, rg⟩) from rfl)
 replace hw := hide hw
 replace hsa := hide hsa
 unfold KeysP at hK
 clear Y hca hcz hba hbz h h1 h2 h3 h4
 go_enter Tryz.func35, Tryz.ntmps35
 cases ho : wds (wdL p (-1)) ks with
 | none =>
  rw [ho] at hK hv0
  replace hK := hide hK
  go_wp2_with (go_at_call 64; refine hK.out.mono ?_; rintro e w3 ⟨rfl, hb3⟩)
  go_ret
  exact ⟨ret_b hv0.out.symm, hw.out.trans (hb3.mono hw.out.size)⟩
 | some ws =>
  rw [ho] at hK hv0
  simp only [Option.isSome_some, Bool.true_and] at hv0
  replace hK := hide hK
  go_upto_region 2 with (go_at_call 64; refine hK.out.mono ?_; rintro e w3 ⟨⟨B, cp, rfl, -⟩, hb3⟩)
  have hD := hb3
  have x0d := (hD.cell (p := ⟨w.heap.size + 1, 0, none⟩) k2).trans x0
  have x1d := (hD.cell (p := ⟨w.heap.size + 1, 1, none⟩) k2).trans x1
  have x2d := (hD.cell (p := ⟨w.heap.size + 1, 2, none⟩) k2).trans x2
  have x3d := (hD.cell (p := ⟨w.heap.size + 1, 3, none⟩) k2).trans x3
  have x4d := (hD.cell (p := ⟨w.heap.size + 1, 4, none⟩) k2).trans x4
  have Yd := fun i => hD.cell (p := ⟨w.heap.size, i, none⟩) k1
  have t0 := (Yd 0).trans y0
  have t1 := (Yd 1).trans y1
  have t2 := (Yd 2).trans y2
  have t3 := (Yd 3).trans y3
  have t4 := (Yd 4).trans y4
  have t5 := (Yd 5).trans y5
  have t6 := (Yd 6).trans y6
  have t7 := (Yd 7).trans y7
  have t8 := (Yd 8).trans y8
  have t9 := (Yd 9).trans y9
  have t10 := (Yd 10).trans y10
  have t11 := (Yd 11).trans y11
  have hPd := (hP.out.below hD).more hD.size
  have hkd := hide ((hk.out.below sta_u8 hD).more (B' := w3.heap.size) sta_u8 hD.size)
  have hAd := (hA.out.below sta_int hD).more (B' := w3.heap.size) sta_int hD.size
  have hGd := (hG.out.below sta_nu hD).more (B' := w3.heap.size) sta_nu hD.size
  have hR := mayRun_any A1 A2 A3 A4 A5 A6 A7 A8 A9 A10 A11 A12 p c1 c2 c3 c4 c5 c6 c7 c8 c9 c10 c11 c12 P3 P4 d3 d4 acts ⟨ra, rg⟩ w3 hPd hAd hGd
  have hDi := distinct_any P3 d3 acts p.acts.length w3 hAd
  simp only at hR
  generalize lrunB p acts ⟨ra, rg⟩ = R at hR hv0
  generalize dstL acts p.acts.length = S at hDi hv0
  replace hR := hide hR
  replace hDi := hide hDi
  have hbw := hide (hw.out.trans (hD.mono hw.out.size))
  clear hD hb3 Yd hPd hAd hGd y0 y1 y2 y3 y4 y5 y6 y7 y8 y9 y10 y11 x0 x1 x2 x3 x4 hK
  by_cases a1 : ks.length ≤ 4
  ·have a1b := decide_eq_true a1
   rw [a1b, Bool.true_and] at hv0
   rw [a1b]
   by_cases a2 : ks.length = 0
   ·have a2z : ((ks.length : Int) == 0) = true := by rw [beq_iff_eq]; omega
    rw [decide_eq_true a2, Bool.not_true, Bool.false_and, Bool.false_and, Bool.false_and, Bool.false_and, Bool.false_and, Bool.false_and, Bool.false_and] at hv0
    replace a2 := hide a2
    go_wp2
    go_ret
    exact ⟨ret_b hv0.out.symm, hbw.out⟩
   ·have a2z : ((ks.length : Int) == 0) = false := by rw [beq_eq_false_iff_ne]; omega
    rw [decide_eq_false a2, Bool.not_false, Bool.true_and] at hv0
    by_cases a3 : kinds.length = ks.length
    ·have a3z : ((kinds.length : Int) != (ks.length : Int)) = false := by rw [a3]; exact bne_self_eq_false _
     rw [decide_eq_true a3, Bool.true_and] at hv0
     replace a3 := hide a3
     go_wp2
     go_loop [7, 9, 37] (fun s _ i => ∃ (k n : Nat), k ≤ kinds.length ∧ i = .int .i64 k ∧ s = .int .i64 n ∧ n ≤ k ∧ Hid (prefs (kinds.take k) = n) ∧ Hid (allN (atD kindB kinds) k = true)) (fun _ _ i => kinds.length - (intOf i).toNat)
     case atStart => exact ⟨0, 0, Nat.zero_le _, rfl, rfl, Nat.le_refl _, hide rfl, hide rfl⟩
     case round =>
      obtain ⟨k, n, hk1, rfl, rfl, hnk, hn, hc⟩ := hrel
      by_cases hlt : k < kinds.length
      ·obtain ⟨b, o, rfl, hb, hcell⟩ := hkd.out.byte hlt
       have hkz : (k : Int) < (kinds.length : Int) := by omega
       have hp := prefs_take hlt
       rw [hn.out] at hp
       have hN := hide (fun (g : kindB kinds[k] = true) => show allN (atD kindB kinds) (k + 1) = true from by rw [allN, hc.out, atD_at _ hlt, g]; rfl)
       have hlo := hide (fun (g : kindB kinds[k] = false) => show allN (atD kindB kinds) kinds.length = false from allN_no hlt (by rw [atD_at _ hlt]; exact g))
       generalize kinds[k] = x at *
       by_cases c1 : 1 ≤ x ∧ x ≤ 3
       ·obtain ⟨c2, c3⟩ := c1
        replace hN := hide (hN.out (by simp [kindB, c2, c3]))
        have c2z : ¬ x < 1 := by omega
        have c3z : ¬ 3 < x := by omega
        by_cases c4 : x = 2
        ·subst c4
         rw [if_pos rfl] at hp
         replace hp := hide hp
         go_wp2
         go_round
         case rel => exact ⟨k + 1, n + 1, by omega, by go_num, by go_num, by omega, hp, hN⟩
         case measure => simp [intOf]; omega
        ·have c4z : (x == 2) = false := beq_eq_false_iff_ne.2 c4
         rw [if_neg c4, Nat.add_zero] at hp
         replace hp := hide hp
         go_wp2
         go_round
         case rel => exact ⟨k + 1, n, by omega, by go_num, rfl, by omega, hp, hN⟩
         case measure => simp [intOf]; omega
       ·replace hlo := hide (hlo.out (by simp only [kindB, Bool.and_eq_false_iff, decide_eq_false_iff_not]; omega))
        rw [hlo.out, Bool.false_and, Bool.false_and, Bool.false_and, Bool.false_and, Bool.false_and] at hv0
        clear hp
        by_cases c2 : x < 1
        ·go_wp2
         all_goals first | (go_ret; exact ⟨ret_b hv0.out.symm, hbw.out⟩) | (exfalso; omega)
        ·have c3 : 3 < x := by omega
         go_wp2
         all_goals first | (go_ret; exact ⟨ret_b hv0.out.symm, hbw.out⟩) | (exfalso; omega)
      ·have hke : k = kinds.length := by omega
       rw [hke] at hc
       rw [hke, List.take_length] at hn
       rw [hc.out, hn.out, Bool.true_and] at hv0
       by_cases b1 : n ≤ 1
       ·have b1z : (n : Int) ≤ 1 := by omega
        rw [decide_eq_true b1, Bool.true_and] at hv0
        by_cases b2 : 1 ≤ acts.length
        ·have b2z : (1 : Int) ≤ (acts.length : Int) := by omega
         rw [decide_eq_true b2, Bool.true_and] at hv0
         by_cases b3 : acts.length ≤ 16
         ·have b3z : (acts.length : Int) ≤ 16 := by omega
          rw [decide_eq_true b3, Bool.true_and] at hv0
          cases S with
          | false =>
           rw [Bool.false_and] at hv0
           go_wp2_with (go_at_call 27; refine hDi.out.mono ?_; rintro e w' ⟨rfl, rfl⟩)
           go_ret
           exact ⟨ret_b hv0.out.symm, hbw.out⟩
          | true =>
           rw [Bool.true_and] at hv0
           cases R
           all_goals
            go_wp2_with (first | (go_at_call 27; refine hDi.out.mono ?_; rintro e w' ⟨rfl, rfl⟩) | (go_at_call 10; refine hR.out.mono ?_; rintro e w5 ⟨rfl, hb5⟩))
            go_ret
            exact ⟨ret_b hv0.out.symm, hbw.out.trans (hb5.mono hbw.out.size)⟩
         ·have b3z : ¬ (acts.length : Int) ≤ 16 := by omega
          rw [decide_eq_false b3, Bool.false_and, Bool.false_and] at hv0
          go_wp2
          go_ret
          exact ⟨ret_b hv0.out.symm, hbw.out⟩
        ·have b2z : ¬ (1 : Int) ≤ (acts.length : Int) := by omega
         rw [decide_eq_false b2, Bool.false_and, Bool.false_and, Bool.false_and] at hv0
         go_wp2
         go_ret
         exact ⟨ret_b hv0.out.symm, hbw.out⟩
       ·have b1z : ¬ (n : Int) ≤ 1 := by omega
        rw [decide_eq_false b1, Bool.false_and, Bool.false_and, Bool.false_and, Bool.false_and] at hv0
        go_wp2
        go_ret
        exact ⟨ret_b hv0.out.symm, hbw.out⟩
    ·have a3z : ((kinds.length : Int) != (ks.length : Int)) = true := by rw [bne_iff_ne]; omega
     rw [decide_eq_false a3, Bool.false_and, Bool.false_and, Bool.false_and, Bool.false_and, Bool.false_and, Bool.false_and] at hv0
     go_wp2
     go_ret
     exact ⟨ret_b hv0.out.symm, hbw.out⟩
  ·have a1b := decide_eq_false a1
   rw [a1b, Bool.false_and, Bool.false_and, Bool.false_and, Bool.false_and, Bool.false_and, Bool.false_and, Bool.false_and, Bool.false_and] at hv0
   rw [a1b]
   go_wp2
   go_ret
   exact ⟨ret_b hv0.out.symm, hbw.out⟩
end Go.Proofs.YtmfpbahifhndjaaGreat

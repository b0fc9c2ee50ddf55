import Derived.Test.YtcgmkjpgaigmfaaGreatChk44
import Derived.Test.YtcgmkjpgaigmfaaGreatChk46
set_option linter.all false
/-! The document's layer 7: Check. -/
namespace Go.Proofs.YtcgmkjpgaigmfaaGreat
open Go.RowKit
attribute [local go_sem ↓] app_eq
theorem firstBad_next {p : Pg} {l : List It} {k : Nat} (hk : k < l.length) (h : checkI p l[k] = 0) : firstBad p (l.drop k) k = firstBad p (l.drop (k + 1)) (k + 1) := by
 rw [List.drop_eq_getElem_cons hk, firstBad, if_pos h]
theorem firstBad_here {p : Pg} {l : List It} {k : Nat} (hk : k < l.length) (h : ¬ checkI p l[k] = 0) : firstBad p (l.drop k) k = ((k : Int), checkI p l[k]) := by
 rw [List.drop_eq_getElem_cons hk, firstBad, if_neg h]
theorem firstBad_end {p : Pg} {l : List It} {k : Nat} (hk : l.length ≤ k) : firstBad p (l.drop k) k = ((k : Int), 0) := by
 rw [List.drop_of_length_le hk, firstBad]
theorem ret_ii {k k' : IntKind} {a b : Int} {x y : Int} (h : a = b) (g : x = y) : Ending.returned (.tuple #[.int k a, .int k' x]) = .returned (.tuple #[.int k b, .int k' y]) := by rw [h, g]
set_option maxRecDepth 100000 in
set_option maxHeartbeats 8000000 in
theorem check07r_any (A1 A2 A3 A4 A5 A6 A7 : Option Addr) (p : Pg) (c1 c2 c3 c4 c5 c6 c7 : Nat) (B : Nat) (w : World) (hB : B ≤ w.heap.size) (hP : PgS w B A1 A2 A3 A4 A5 A6 A7 p) (hbig : mayP p = true → (itemsP p).length ≤ bigI) :
  Calls Tryz.prog 8 #[.agg #[.slice A1 p.headers.length c1, .slice A2 p.metas.length c2, .slice A3 p.states.length c3, .slice A4 p.actions.length c4, .slice A5 p.tables.length c5, .slice A6 p.control.length c6, .slice A7 p.emit.length c7]] w fun e w' => e = .returned (.tuple #[.int .i64 (checkR p).1, .int .i64 (checkR p).2]) ∧ Below w.heap.size w w' := by
 obtain ⟨wb, hwb, hsz, hba, hcb, -⟩ := box1 w #[.slice A1 p.headers.length c1, .slice A2 p.metas.length c2, .slice A3 p.states.length c3, .slice A4 p.actions.length c4, .slice A5 p.tables.length c5, .slice A6 p.control.length c6, .slice A7 p.emit.length c7] 30
 obtain ⟨y0, y1, y2, y3, y4, y5, y6⟩ := row7 (w := wb) (a := w.heap.size) fun i => hcb i
 have hb0 : Below wb.heap.size wb wb := Below.refl _ _
 have hBk := hide (show ∀ W, Below wb.heap.size wb W → Below w.heap.size w W from fun W hb => hba.trans (hb.mono (by omega)))
 have hBb : B ≤ wb.heap.size := by omega
 have hlz : w.heap.size < wb.heap.size := by omega
 have hP2 := hide (hP.below (hba.mono hB))
 have hM := hide (may04_any wb A1 A2 A3 A4 A5 A6 A7 p c1 c2 c3 c4 c5 c6 c7 hBb hP2.out)
 have hv := hide (show checkR p = if mayP p then firstBad p (itemsP p) 0 else (-1, 2) from rfl)
 replace hbig := hide hbig
 clear hcb hba hP hb0
 replace hsz := hide hsz
 cases hm : mayP p with
 | false =>
  rw [hm] at hM hv
  clear hm hbig
  go_enter Tryz.func8, Tryz.ntmps8
  go_wp2_with fail
  refine hM.out.mono ?_
  rintro _ w1 ⟨rfl, hb1⟩
  go_wp2
  go_ret2
  exact ⟨ret_ii (by rw [hv.out]; rfl) (by rw [hv.out]; rfl), hBk.out _ hb1⟩
 | true =>
  rw [hm] at hM hv
  have hbg := hbig.out hm
  have hone := hide (one07_any A1 A2 A3 A4 A5 A6 A7 p c1 c2 c3 c4 c5 c6 c7 (hm := hm))
  clear hm hbig
  go_enter Tryz.func8, Tryz.ntmps8
  go_wp2_with fail
  refine hM.out.mono ?_
  rintro _ w1 ⟨rfl, hb1⟩
  have kb1 := bcell' hb1
  have hI := hide (items07_any A1 A2 A3 A4 A5 A6 A7 p c1 c2 c3 c4 c5 c6 c7 B w1 (Nat.le_trans hBb hb1.size) (hP2.out.below (hb1.mono hBb)) hbg)
  go_wp2_with fail
  refine hI.out.mono ?_
  rintro _ w2 ⟨v2, rfl, hI2, hb2⟩
  have hb02 := hb1.trans (hb2.mono hb1.size)
  have hz2 := hb02.size
  obtain ⟨AI, capI, rfl, hS⟩ := hI2.sl (Nat.le_trans hBb hz2) hbg
  have hn : (itemsP p).length ≤ 100000000 := hbg
  have hP3 := hide ((hP2.out.below (hb02.mono hBb)).more (Nat.le_trans hBb hz2))
  have kb2 := bcell' hb02
  have z0 := (kb2.1 w.heap.size 0 hlz).trans y0
  have z1 := (kb2.1 w.heap.size 1 hlz).trans y1
  have z2 := (kb2.1 w.heap.size 2 hlz).trans y2
  have z3 := (kb2.1 w.heap.size 3 hlz).trans y3
  have z4 := (kb2.1 w.heap.size 4 hlz).trans y4
  have z5 := (kb2.1 w.heap.size 5 hlz).trans y5
  have z6 := (kb2.1 w.heap.size 6 hlz).trans y6
  replace hS := hide hS
  replace hb02 := hide hb02
  have hl2 : w.heap.size < w2.heap.size := by omega
  have hv0 := hide (show firstBad p ((itemsP p).drop 0) 0 = checkR p from by rw [hv.out]; rfl)
  clear hI hI2 kb1 hb1 hb2 hM hP2 kb2 y0 y1 y2 y3 y4 y5 y6 hv
  go_wp2
  go_loopw [5] (fun i wr => ∃ k : Nat, k ≤ (itemsP p).length ∧ i = .int .i64 k ∧ Hid (firstBad p ((itemsP p).drop k) k = checkR p) ∧ Hid (Below w2.heap.size w2 wr)) (fun i _ => (itemsP p).length - (intOf i).toNat)
  case atStart => exact ⟨0, Nat.zero_le _, rfl, hv0, hide (Below.refl _ _)⟩
  case round =>
   clear hv0
   obtain ⟨k, hk, rfl, hf, hbr⟩ := hrel
   have hzr := hbr.out.size
   have hc := bcell' hbr.out
   have hBr := hide (fun W (hb : Below w2.heap.size w2 W) => hBk.out W (hb02.out.trans (hb.mono hz2)))
   by_cases hlt : k < (itemsP p).length
   ·obtain ⟨b, o, ecs, hA, hb, hel, hcell, hr⟩ := hS.out.2 k _ (List.getElem?_eq_getElem hlt)
    subst hA
    have hltz : (k : Int) < ((itemsP p).length : Int) := by omega
    have hX0 := fun d os => hone.out w2.heap.size _ (List.getElem_mem hlt) ecs (Go.Sort.grow (redrawn wr d) os) (by have := gsize wr d os; omega) (hP3.out.below (below_grow hbr.out hzr d os)) (sta_it.keep hr fun q hq => (below_grow hbr.out hzr d os).cell hq)
    have hnx := hide (fun h => (firstBad_next (p := p) hlt h).symm.trans hf.out)
    have hst := hide (fun h => (firstBad_here (p := p) hlt h).symm.trans hf.out)
    generalize checkI p (itemsP p)[k] = e at hX0 hnx hst
    generalize (itemsP p)[k] = x at hr
    obtain ⟨scs, rfl, hs⟩ := hr
    obtain ⟨s0, s1, s2, s3, s4, s5, s6, s7, s8, s9, s10, s11, s12, s13, rfl⟩ := rSt_form hs
    obtain ⟨x0, x1, x2, x3, x4, x5, x6, x7, x8, x9, x10, x11, x12, x13, x14, x15, x16⟩ := srow17 hcell
    have hX : ∀ d os, Hid (Calls Tryz.prog 24 #[.agg #[.slice A1 p.headers.length c1, .slice A2 p.metas.length c2, .slice A3 p.states.length c3, .slice A4 p.actions.length c4, .slice A5 p.tables.length c5, .slice A6 p.control.length c6, .slice A7 p.emit.length c7], .agg #[.int .u8 x.kind, .int .i64 x.a, .int .i64 x.b, s0, s1, s2, s3, s4, s5, s6, s7, s8, s9, s10, s11, s12, s13]] (Go.Sort.grow (redrawn wr d) os) _) := fun d os => hide (hX0 d os)
    have hg := gcell' hbr.out hzr
    generalize x.kind = xk at *
    generalize x.a = xa at *
    generalize x.b = xb at *
    clear hcell hs hX0 hel hf
    by_cases he : e = 0
    ·have hf1 := hide (hnx.out he)
     subst he
     clear hnx hst
     go_wp2_with fail
     refine wp_region_quiet_below (by kernel_rfl) (by kernel_rfl) ?_
     repeat (any_goals (first | go_big_quiet_step (first | (go_at_call 24; with_reducible exact Calls.regrown_of (hX _ _).out)) | quiet_step (first | (go_at_call 24; with_reducible exact Calls.regrown_of (hX _ _).out))))
     refine wpQuiet_nil ?_
     intro w3 hw3
     replace hw3 := below_of_regrown hw3
     go_wp2
     go_roundw
     case rel => exact ⟨k + 1, by omega, by go_num, hf1, hide (hbr.out.trans (hw3.mono hzr))⟩
     case measure => simp [intOf]; omega
    ·have hf1 := hide (hst.out he)
     clear hnx hst
     go_wp2_with fail
     refine wp_region_quiet_below (by kernel_rfl) (by kernel_rfl) ?_
     repeat (any_goals (first | go_big_quiet_step (first | (go_at_call 24; with_reducible exact Calls.regrown_of (hX _ _).out)) | quiet_step (first | (go_at_call 24; with_reducible exact Calls.regrown_of (hX _ _).out))))
     refine wpQuiet_nil ?_
     intro w3 hw3
     replace hw3 := below_of_regrown hw3
     go_wp2
     go_ret2
     exact ⟨ret_ii (by rw [← hf1.out]) (by rw [← hf1.out]), hBr.out _ (hbr.out.trans (hw3.mono hzr))⟩
   ·have hke : k = (itemsP p).length := by omega
    have hf1 := hide ((firstBad_end (p := p) (l := itemsP p) (k := k) (by omega)).symm.trans hf.out)
    subst hke
    go_wp2
    go_ret2
    exact ⟨ret_ii (by rw [← hf1.out]) (by rw [← hf1.out]), hBr.out _ hbr.out⟩
end Go.Proofs.YtcgmkjpgaigmfaaGreat

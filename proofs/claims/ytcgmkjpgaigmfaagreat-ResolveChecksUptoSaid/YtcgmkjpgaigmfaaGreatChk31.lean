import Derived.Test.YtcgmkjpgaigmfaaGreatChk29
import Derived.Test.YtcgmkjpgaigmfaaGreatChk30
set_option linter.all false
/-! The document's layer 4: an expression, and all in it. -/
namespace Go.Proofs.YtcgmkjpgaigmfaaGreat
open Go.RowKit
/-- What the document's Cmp answers. -/
def Cmps : Prop := ∀ (h1 l1 h2 l2 : Int) (w : World), u64 h1 → u64 l1 → u64 h2 → u64 l2 → Calls Tryz.prog 184 #[.agg #[.int .u64 h1, .int .u64 l1], .agg #[.int .u64 h2, .int .u64 l2]] w fun e w' => e = .returned (.int .i64 (cmpN (h1 * 18446744073709551616 + l1) (h2 * 18446744073709551616 + l2))) ∧ Below w.heap.size w w'
theorem sh_len {op : Int} {lit : Lt} {head name : ByteArray} {hi lo : Int} {n : Nat} (h : oneB op lit head name hi lo n = true) (ho : op = 14 ∨ op = 15) : n = 2 := by
 unfold oneB at h
 rcases ho with rfl | rfl
 ·rw [show formOf 14 = some ((false, false, false, false), 2) by decide] at h
  simp only [Bool.and_eq_true, decide_eq_true_eq] at h
  omega
 ·rw [show formOf 15 = some ((false, false, false, false), 2) by decide] at h
  simp only [Bool.and_eq_true, decide_eq_true_eq] at h
  omega
theorem allE_eq (op : Int) (lit : Lt) (head name : ByteArray) (hi lo : Int) (args : List Ex) : allE (.mk op lit head name hi lo args) = (oneB op lit head name hi lo args.length && (shB op args && args.all allE)) := by
 simp only [allE, allL_all, Bool.and_assoc]
set_option maxRecDepth 100000 in
set_option maxHeartbeats 4000000 in
theorem all04_any (hCmp : Cmps) (e : Ex) : ∀ (cs : List Value) (w : World), rEx w w.heap.size cs e → Calls Tryz.prog 168 #[.agg cs.toArray] w fun r w' => r = .returned (.bool (allE e)) ∧ Below w.heap.size w w' := by
 induction e using Ex.ind with
 | h op lit head name hi lo args ih =>
  intro cs w h
  obtain ⟨A, cap, rfl, hop, hlit, -, -, -, -, hs⟩ := RE.inv h
  have hl := hs.len
  replace ih := hide ih
  replace hCmp := hide hCmp
  clear h
  show Calls _ _ #[.agg #[.int .u8 op, .int .i64 lit.1, .int .u64 lit.2.1, .int .u64 lit.2.2, .string head, .string name, .int .i64 hi, .int .i64 lo, .slice A args.length cap]] _ _
  obtain ⟨wb, hwb, hsz, hba, hcb, -⟩ := box1 w #[.int .u8 op, .int .i64 lit.1, .int .u64 lit.2.1, .int .u64 lit.2.2, .string head, .string name, .int .i64 hi, .int .i64 lo, .slice A args.length cap] 68
  obtain ⟨y0, y1, y2, y3, y4, y5, y6, y7, y8⟩ := row9 hcb
  have hb0 := hide (show Below wb.heap.size wb wb from Below.refl _ _)
  have hBk := hide (show ∀ W, Below wb.heap.size wb W → Below w.heap.size w W from fun W hb => hba.trans (hb.mono (by omega)))
  have hS := hide (hs.below sta_ex hba)
  have hl1 : w.heap.size < wb.heap.size := by omega
  have hOne := one04_any op lit head name hi lo A args.length cap wb hop hlit hl
  have hv0 := allE_eq op lit head name hi lo args
  have hlen2 := fun h ho => sh_len (n := args.length) (op := op) (lit := lit) (head := head) (name := name) (hi := hi) (lo := lo) h ho
  generalize oneB op lit head name hi lo args.length = z1 at hOne hv0 hlen2
  clear hcb hba hs
  cases z1 with
  | false =>
   have hv := hide hv0
   go_enter Tryz.func168, Tryz.ntmps168
   go_wp2_with (go_at_call 183; refine hOne.mono ?_; rintro e w1 ⟨rfl, hb1⟩)
   go_ret
   exact ⟨ret_b (by rw [hv.out]; rfl), hBk.out _ hb1⟩
  | true =>
   rw [Bool.true_and] at hv0
   by_cases ho : op = 14 ∨ op = 15
   ·skip
    have h2 := hlen2 rfl ho
    have hsb : shB op args = (args[1]?).elim false byB := by unfold shB; rw [if_pos ho]
    obtain ⟨b, o, ecs, hA, hb, hel, hcell, hr⟩ := hS.out.2 1 _ (List.getElem?_eq_getElem (by omega))
    have h1z : (1 : Int) < (args.length : Int) := by omega
    rw [List.getElem?_eq_getElem (by omega), Option.elim_some] at hsb
    generalize args[1] = x at hr hsb
    obtain ⟨xop, xlit, xhead, xname, xhi, xlo, xargs⟩ := x
    obtain ⟨XA, xcap, rfl, hxop, hxlit, -, -, -, -, xs⟩ := RE.inv hr
    have hla2 := xs.len
    subst hA
    have hbw : b < wb.heap.size := by omega
    obtain ⟨u0, u1, u2, u3, u4, u5, u6, u7, u8⟩ := srow9 hcell
    clear hcell hr xs hlen2 h2
    rw [hsb] at hv0
    simp only [byB] at hv0
    have hnum : xlit.2.1 * 18446744073709551616 + xlit.2.2 = numV xlit := rfl
    have hCx : ∀ W, Calls Tryz.prog 184 #[.agg #[.int .u64 xlit.2.1, .int .u64 xlit.2.2], .agg #[.int .u64 0, .int .u64 127]] W fun e w' => e = .returned (.int .i64 (cmpN (numV xlit) 127)) ∧ Below W.heap.size W w' := fun W => hCmp.out xlit.2.1 xlit.2.2 0 127 W hxlit.2.1 hxlit.2.2 (by unfold u64; omega) (by unfold u64; omega)
    have hz : (0 < cmpN (numV xlit) 127) ↔ ¬ numV xlit ≤ 127 := by
     unfold cmpN
     split
     ·simp; omega
     ·split
      ·simp; omega
      ·simp; omega
    generalize cmpN (numV xlit) 127 = z at hCx hz
    generalize numV xlit = nv at hv0 hz
    replace hCx := hide hCx
    clear hnum hsb hel hop hlit hxop hxlit
    by_cases hx1 : xop = 1
    ·rw [decide_eq_true hx1, Bool.true_and] at hv0
     by_cases hx2 : xlit.1 = 0
     ·rw [decide_eq_true hx2, Bool.true_and] at hv0
      by_cases hx3 : nv ≤ 127
      ·rw [decide_eq_true hx3, Bool.true_and] at hv0
       have hzz : ¬ (0 < z) := fun h => hz.1 h hx3
       have hv := hide hv0
       clear hv0 hz hx3
       subst hx1
       generalize xlit.1 = xw at *
       subst hx2
       rcases ho with rfl | rfl
       ·skip
        go_enter Tryz.func168, Tryz.ntmps168
        go_wp2_with fail
        refine hOne.mono ?_
        rintro e w1 ⟨rfl, hb1⟩
        have k1 := bcell' hb1
        have hz1 := hb1.size
        obtain ⟨ws, hws, hszs, hwS, hcs, -⟩ := box1 w1 #[.int .u8 1, .int .i64 0, .int .u64 xlit.2.1, .int .u64 xlit.2.2, .string xhead, .string xname, .int .i64 xhi, .int .i64 xlo, .slice XA xargs.length xcap] 68
        obtain ⟨v0, v1, v2, v3, v4, v5, v6, v7, v8⟩ := row9 hcs
        have hbs := hb1.trans (hwS.mono hz1)
        have ks := bcell' hbs
        have hZs := hbs.size
        have hbs' := hide hbs
        have hCm := hCx.out ws
        clear hcs hwS hbs hb1 hOne hb0 hszs
        go_wp2_with fail
        refine hCm.mono ?_
        rintro e w2 ⟨rfl, hb2⟩
        have hB2 := hide (hbs'.out.trans (hb2.mono hZs))
        have k2 := bcell' hB2.out
        clear hCm hb2 k1 ks
        go_wp2
        clear k2
        go_loopw [4] (fun i wr => ∃ k : Nat, k ≤ args.length ∧ i = .int .i64 k ∧ Hid ((args.take k).all allE = true) ∧ Hid (Below wb.heap.size wb wr)) (fun i _ => args.length - (intOf i).toNat)
        case atStart => exact ⟨0, Nat.zero_le _, rfl, hide (by simp), hB2⟩
        case round =>
         clear hB2
         obtain ⟨k, hk, rfl, hq, hbr⟩ := hrel
         have hc := bcell' hbr.out
         have hzr := hbr.out.size
         by_cases hlt : k < args.length
         ·obtain ⟨b, o, ecs, hA, hb, hel, hcell, hr⟩ := hS.out.2 k _ (List.getElem?_eq_getElem hlt)
          first | subst hA | (injection hA with hA; injection hA with e1 e2; subst e1 e2)
          have hltz : (k : Int) < (args.length : Int) := by omega
          have hbw : b < wb.heap.size := by omega
          have hcall := fun cs (hcs : rEx wb w.heap.size cs args[k]) => ih.out _ (List.getElem_mem hlt) cs wr (sta_ex.more (sta_ex.keep hcs fun q hq => hbr.out.cell (Nat.lt_of_lt_of_le hq (by omega))) (by omega))
          have hnx := fun h => all_next hlt hq.out h
          have hst := fun h => all_stop (p := allE) hlt h
          have hre := hr
          generalize args[k] = x at hr hre hcall hnx hst
          obtain ⟨xop, xlit, xhead, xname, xhi, xlo, xargs⟩ := x
          obtain ⟨XA, xcap, rfl, -, -, -, -, -, -, xs⟩ := RE.inv hr
          have hla2 := xs.len
          obtain ⟨x0, x1, x2, x3, x4, x5, x6, x7, x8⟩ := srow9 hcell
          have hX : Calls Tryz.prog 168 #[.agg #[.int .u8 xop, .int .i64 xlit.1, .int .u64 xlit.2.1, .int .u64 xlit.2.2, .string xhead, .string xname, .int .i64 xhi, .int .i64 xlo, .slice XA xargs.length xcap]] wr fun r w' => r = .returned (.bool (allE (.mk xop xlit xhead xname xhi xlo xargs))) ∧ Below wr.heap.size wr w' := hcall _ hre
          clear hcell hr hre hcall xs
          generalize allE (.mk xop xlit xhead xname xhi xlo xargs) = z at hX hnx hst
          cases z with
          | false =>
           have hres := hide (hst rfl)
           clear hnx hst
           go_wp2_with (go_at_call 168; refine hX.mono ?_; rintro e w2 ⟨rfl, hb2⟩)
           go_ret
           exact ⟨ret_b (hv.out.trans hres.out).symm, hBk.out _ (hbr.out.trans (hb2.mono hzr))⟩
          | true =>
           have hres := hide (hnx rfl)
           clear hnx hst
           go_wp2_with (go_at_call 168; refine hX.mono ?_; rintro e w2 ⟨rfl, hb2⟩)
           go_roundw
           case rel => exact ⟨k + 1, by omega, by go_num, hres, hide (hbr.out.trans (hb2.mono hzr))⟩
           case measure => simp [intOf]; omega
         ·have hres := hide (all_end hq.out hlt)
          go_wp2
          go_ret
          exact ⟨ret_b (hv.out.trans hres.out).symm, hBk.out _ hbr.out⟩
       ·skip
        go_enter Tryz.func168, Tryz.ntmps168
        go_wp2_with fail
        refine hOne.mono ?_
        rintro e w1 ⟨rfl, hb1⟩
        have k1 := bcell' hb1
        have hz1 := hb1.size
        obtain ⟨ws, hws, hszs, hwS, hcs, -⟩ := box1 w1 #[.int .u8 1, .int .i64 0, .int .u64 xlit.2.1, .int .u64 xlit.2.2, .string xhead, .string xname, .int .i64 xhi, .int .i64 xlo, .slice XA xargs.length xcap] 68
        obtain ⟨v0, v1, v2, v3, v4, v5, v6, v7, v8⟩ := row9 hcs
        have hbs := hb1.trans (hwS.mono hz1)
        have ks := bcell' hbs
        have hZs := hbs.size
        have hbs' := hide hbs
        have hCm := hCx.out ws
        clear hcs hwS hbs hb1 hOne hb0 hszs
        go_wp2_with fail
        refine hCm.mono ?_
        rintro e w2 ⟨rfl, hb2⟩
        have hB2 := hide (hbs'.out.trans (hb2.mono hZs))
        have k2 := bcell' hB2.out
        clear hCm hb2 k1 ks
        go_wp2
        clear k2
        go_loopw [4] (fun i wr => ∃ k : Nat, k ≤ args.length ∧ i = .int .i64 k ∧ Hid ((args.take k).all allE = true) ∧ Hid (Below wb.heap.size wb wr)) (fun i _ => args.length - (intOf i).toNat)
        case atStart => exact ⟨0, Nat.zero_le _, rfl, hide (by simp), hB2⟩
        case round =>
         clear hB2
         obtain ⟨k, hk, rfl, hq, hbr⟩ := hrel
         have hc := bcell' hbr.out
         have hzr := hbr.out.size
         by_cases hlt : k < args.length
         ·obtain ⟨b, o, ecs, hA, hb, hel, hcell, hr⟩ := hS.out.2 k _ (List.getElem?_eq_getElem hlt)
          first | subst hA | (injection hA with hA; injection hA with e1 e2; subst e1 e2)
          have hltz : (k : Int) < (args.length : Int) := by omega
          have hbw : b < wb.heap.size := by omega
          have hcall := fun cs (hcs : rEx wb w.heap.size cs args[k]) => ih.out _ (List.getElem_mem hlt) cs wr (sta_ex.more (sta_ex.keep hcs fun q hq => hbr.out.cell (Nat.lt_of_lt_of_le hq (by omega))) (by omega))
          have hnx := fun h => all_next hlt hq.out h
          have hst := fun h => all_stop (p := allE) hlt h
          have hre := hr
          generalize args[k] = x at hr hre hcall hnx hst
          obtain ⟨xop, xlit, xhead, xname, xhi, xlo, xargs⟩ := x
          obtain ⟨XA, xcap, rfl, -, -, -, -, -, -, xs⟩ := RE.inv hr
          have hla2 := xs.len
          obtain ⟨x0, x1, x2, x3, x4, x5, x6, x7, x8⟩ := srow9 hcell
          have hX : Calls Tryz.prog 168 #[.agg #[.int .u8 xop, .int .i64 xlit.1, .int .u64 xlit.2.1, .int .u64 xlit.2.2, .string xhead, .string xname, .int .i64 xhi, .int .i64 xlo, .slice XA xargs.length xcap]] wr fun r w' => r = .returned (.bool (allE (.mk xop xlit xhead xname xhi xlo xargs))) ∧ Below wr.heap.size wr w' := hcall _ hre
          clear hcell hr hre hcall xs
          generalize allE (.mk xop xlit xhead xname xhi xlo xargs) = z at hX hnx hst
          cases z with
          | false =>
           have hres := hide (hst rfl)
           clear hnx hst
           go_wp2_with (go_at_call 168; refine hX.mono ?_; rintro e w2 ⟨rfl, hb2⟩)
           go_ret
           exact ⟨ret_b (hv.out.trans hres.out).symm, hBk.out _ (hbr.out.trans (hb2.mono hzr))⟩
          | true =>
           have hres := hide (hnx rfl)
           clear hnx hst
           go_wp2_with (go_at_call 168; refine hX.mono ?_; rintro e w2 ⟨rfl, hb2⟩)
           go_roundw
           case rel => exact ⟨k + 1, by omega, by go_num, hres, hide (hbr.out.trans (hb2.mono hzr))⟩
           case measure => simp [intOf]; omega
         ·have hres := hide (all_end hq.out hlt)
          go_wp2
          go_ret
          exact ⟨ret_b (hv.out.trans hres.out).symm, hBk.out _ hbr.out⟩
      ·rw [decide_eq_false hx3, Bool.false_and] at hv0
       have hzz : 0 < z := hz.2 hx3
       have hv := hide hv0
       clear hv0 hz hx3
       subst hx1
       generalize xlit.1 = xw at *
       subst hx2
       rcases ho with rfl | rfl
       ·skip
        go_enter Tryz.func168, Tryz.ntmps168
        go_wp2_with fail
        refine hOne.mono ?_
        rintro e w1 ⟨rfl, hb1⟩
        have k1 := bcell' hb1
        have hz1 := hb1.size
        obtain ⟨ws, hws, hszs, hwS, hcs, -⟩ := box1 w1 #[.int .u8 1, .int .i64 0, .int .u64 xlit.2.1, .int .u64 xlit.2.2, .string xhead, .string xname, .int .i64 xhi, .int .i64 xlo, .slice XA xargs.length xcap] 68
        obtain ⟨v0, v1, v2, v3, v4, v5, v6, v7, v8⟩ := row9 hcs
        have hbs := hb1.trans (hwS.mono hz1)
        have ks := bcell' hbs
        have hZs := hbs.size
        have hbs' := hide hbs
        have hCm := hCx.out ws
        clear hcs hwS hbs hb1 hOne hb0 hszs
        go_wp2_with fail
        refine hCm.mono ?_
        rintro e w2 ⟨rfl, hb2⟩
        have hB2 := hide (hbs'.out.trans (hb2.mono hZs))
        go_wp2
        go_ret
        exact ⟨ret_b hv.out.symm, hBk.out _ hB2.out⟩
       ·skip
        go_enter Tryz.func168, Tryz.ntmps168
        go_wp2_with fail
        refine hOne.mono ?_
        rintro e w1 ⟨rfl, hb1⟩
        have k1 := bcell' hb1
        have hz1 := hb1.size
        obtain ⟨ws, hws, hszs, hwS, hcs, -⟩ := box1 w1 #[.int .u8 1, .int .i64 0, .int .u64 xlit.2.1, .int .u64 xlit.2.2, .string xhead, .string xname, .int .i64 xhi, .int .i64 xlo, .slice XA xargs.length xcap] 68
        obtain ⟨v0, v1, v2, v3, v4, v5, v6, v7, v8⟩ := row9 hcs
        have hbs := hb1.trans (hwS.mono hz1)
        have ks := bcell' hbs
        have hZs := hbs.size
        have hbs' := hide hbs
        have hCm := hCx.out ws
        clear hcs hwS hbs hb1 hOne hb0 hszs
        go_wp2_with fail
        refine hCm.mono ?_
        rintro e w2 ⟨rfl, hb2⟩
        have hB2 := hide (hbs'.out.trans (hb2.mono hZs))
        go_wp2
        go_ret
        exact ⟨ret_b hv.out.symm, hBk.out _ hB2.out⟩
     ·rw [decide_eq_false hx2] at hv0
      simp only [Bool.false_and, Bool.and_false] at hv0
      have hv := hide hv0
      clear hv0 hz
      subst hx1
      rcases ho with rfl | rfl
      ·skip
       go_enter Tryz.func168, Tryz.ntmps168
       go_wp2_with fail
       refine hOne.mono ?_
       rintro e w1 ⟨rfl, hb1⟩
       have k1 := bcell' hb1
       have hz1 := hb1.size
       obtain ⟨ws, hws, hszs, hwS, hcs, -⟩ := box1 w1 #[.int .u8 1, .int .i64 xlit.1, .int .u64 xlit.2.1, .int .u64 xlit.2.2, .string xhead, .string xname, .int .i64 xhi, .int .i64 xlo, .slice XA xargs.length xcap] 68
       obtain ⟨v0, v1, v2, v3, v4, v5, v6, v7, v8⟩ := row9 hcs
       have hbs := hb1.trans (hwS.mono hz1)
       have ks := bcell' hbs
       have hZs := hbs.size
       have hbs' := hide hbs
       have hCm := hCx.out ws
       clear hcs hwS hbs hb1 hOne hb0 hszs
       go_wp2
       go_ret
       exact ⟨ret_b hv.out.symm, hBk.out _ hbs'.out⟩
      ·skip
       go_enter Tryz.func168, Tryz.ntmps168
       go_wp2_with fail
       refine hOne.mono ?_
       rintro e w1 ⟨rfl, hb1⟩
       have k1 := bcell' hb1
       have hz1 := hb1.size
       obtain ⟨ws, hws, hszs, hwS, hcs, -⟩ := box1 w1 #[.int .u8 1, .int .i64 xlit.1, .int .u64 xlit.2.1, .int .u64 xlit.2.2, .string xhead, .string xname, .int .i64 xhi, .int .i64 xlo, .slice XA xargs.length xcap] 68
       obtain ⟨v0, v1, v2, v3, v4, v5, v6, v7, v8⟩ := row9 hcs
       have hbs := hb1.trans (hwS.mono hz1)
       have ks := bcell' hbs
       have hZs := hbs.size
       have hbs' := hide hbs
       have hCm := hCx.out ws
       clear hcs hwS hbs hb1 hOne hb0 hszs
       go_wp2
       go_ret
       exact ⟨ret_b hv.out.symm, hBk.out _ hbs'.out⟩
    ·rw [decide_eq_false hx1] at hv0
     simp only [Bool.false_and] at hv0
     have hv := hide hv0
     clear hv0 hz
     rcases ho with rfl | rfl
     ·skip
      go_enter Tryz.func168, Tryz.ntmps168
      go_wp2_with fail
      refine hOne.mono ?_
      rintro e w1 ⟨rfl, hb1⟩
      have k1 := bcell' hb1
      have hz1 := hb1.size
      obtain ⟨ws, hws, hszs, hwS, hcs, -⟩ := box1 w1 #[.int .u8 xop, .int .i64 xlit.1, .int .u64 xlit.2.1, .int .u64 xlit.2.2, .string xhead, .string xname, .int .i64 xhi, .int .i64 xlo, .slice XA xargs.length xcap] 68
      obtain ⟨v0, v1, v2, v3, v4, v5, v6, v7, v8⟩ := row9 hcs
      have hbs := hb1.trans (hwS.mono hz1)
      have ks := bcell' hbs
      have hZs := hbs.size
      have hbs' := hide hbs
      have hCm := hCx.out ws
      clear hcs hwS hbs hb1 hOne hb0 hszs
      go_wp2
      go_ret
      exact ⟨ret_b hv.out.symm, hBk.out _ hbs'.out⟩
     ·skip
      go_enter Tryz.func168, Tryz.ntmps168
      go_wp2_with fail
      refine hOne.mono ?_
      rintro e w1 ⟨rfl, hb1⟩
      have k1 := bcell' hb1
      have hz1 := hb1.size
      obtain ⟨ws, hws, hszs, hwS, hcs, -⟩ := box1 w1 #[.int .u8 xop, .int .i64 xlit.1, .int .u64 xlit.2.1, .int .u64 xlit.2.2, .string xhead, .string xname, .int .i64 xhi, .int .i64 xlo, .slice XA xargs.length xcap] 68
      obtain ⟨v0, v1, v2, v3, v4, v5, v6, v7, v8⟩ := row9 hcs
      have hbs := hb1.trans (hwS.mono hz1)
      have ks := bcell' hbs
      have hZs := hbs.size
      have hbs' := hide hbs
      have hCm := hCx.out ws
      clear hcs hwS hbs hb1 hOne hb0 hszs
      go_wp2
      go_ret
      exact ⟨ret_b hv.out.symm, hBk.out _ hbs'.out⟩
   ·have ho' : (op == 14 || op == 15) = false := by simpa using ho
    have o1 : ¬ op = 14 := fun h => ho (.inl h)
    have o2 : ¬ op = 15 := fun h => ho (.inr h)
    have hsb : shB op args = true := by unfold shB; rw [if_neg ho]
    rw [hsb, Bool.true_and] at hv0
    have hv := hide hv0
    clear hv0 hsb hlen2 ho
    go_enter Tryz.func168, Tryz.ntmps168
    go_wp2_with fail
    refine hOne.mono ?_
    rintro e w1 ⟨rfl, hb1⟩
    have k1 := bcell' hb1
    have hb1' := hide hb1
    clear hOne hb0 hb1
    go_wp2
    clear k1
    go_loopw [4] (fun i wr => ∃ k : Nat, k ≤ args.length ∧ i = .int .i64 k ∧ Hid ((args.take k).all allE = true) ∧ Hid (Below wb.heap.size wb wr)) (fun i _ => args.length - (intOf i).toNat)
    case atStart => exact ⟨0, Nat.zero_le _, rfl, hide (by simp), hb1'⟩
    case round =>
     clear hb1'
     obtain ⟨k, hk, rfl, hq, hbr⟩ := hrel
     have hc := bcell' hbr.out
     have hzr := hbr.out.size
     by_cases hlt : k < args.length
     ·obtain ⟨b, o, ecs, hA, hb, hel, hcell, hr⟩ := hS.out.2 k _ (List.getElem?_eq_getElem hlt)
      first | subst hA | (injection hA with hA; injection hA with e1 e2; subst e1 e2)
      have hltz : (k : Int) < (args.length : Int) := by omega
      have hbw : b < wb.heap.size := by omega
      have hcall := fun cs (hcs : rEx wb w.heap.size cs args[k]) => ih.out _ (List.getElem_mem hlt) cs wr (sta_ex.more (sta_ex.keep hcs fun q hq => hbr.out.cell (Nat.lt_of_lt_of_le hq (by omega))) (by omega))
      have hnx := fun h => all_next hlt hq.out h
      have hst := fun h => all_stop (p := allE) hlt h
      have hre := hr
      generalize args[k] = x at hr hre hcall hnx hst
      obtain ⟨xop, xlit, xhead, xname, xhi, xlo, xargs⟩ := x
      obtain ⟨XA, xcap, rfl, -, -, -, -, -, -, xs⟩ := RE.inv hr
      have hla2 := xs.len
      obtain ⟨x0, x1, x2, x3, x4, x5, x6, x7, x8⟩ := srow9 hcell
      have hX : Calls Tryz.prog 168 #[.agg #[.int .u8 xop, .int .i64 xlit.1, .int .u64 xlit.2.1, .int .u64 xlit.2.2, .string xhead, .string xname, .int .i64 xhi, .int .i64 xlo, .slice XA xargs.length xcap]] wr fun r w' => r = .returned (.bool (allE (.mk xop xlit xhead xname xhi xlo xargs))) ∧ Below wr.heap.size wr w' := hcall _ hre
      clear hcell hr hre hcall xs
      generalize allE (.mk xop xlit xhead xname xhi xlo xargs) = z at hX hnx hst
      cases z with
      | false =>
       have hres := hide (hst rfl)
       clear hnx hst
       go_wp2_with (go_at_call 168; refine hX.mono ?_; rintro e w2 ⟨rfl, hb2⟩)
       go_ret
       exact ⟨ret_b (hv.out.trans hres.out).symm, hBk.out _ (hbr.out.trans (hb2.mono hzr))⟩
      | true =>
       have hres := hide (hnx rfl)
       clear hnx hst
       go_wp2_with (go_at_call 168; refine hX.mono ?_; rintro e w2 ⟨rfl, hb2⟩)
       go_roundw
       case rel => exact ⟨k + 1, by omega, by go_num, hres, hide (hbr.out.trans (hb2.mono hzr))⟩
       case measure => simp [intOf]; omega
     ·have hres := hide (all_end hq.out hlt)
      go_wp2
      go_ret
      exact ⟨ret_b (hv.out.trans hres.out).symm, hBk.out _ hbr.out⟩
end Go.Proofs.YtcgmkjpgaigmfaaGreat

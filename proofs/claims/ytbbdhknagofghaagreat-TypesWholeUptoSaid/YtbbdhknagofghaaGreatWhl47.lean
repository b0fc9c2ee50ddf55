import Derived.Test.YtbbdhknagofghaaGreatWhl37
import Derived.Test.YtbbdhknagofghaaGreatWhl45
import Derived.Test.YtbbdhknagofghaaGreatWhl46
import Derived.Test.YtbbdhknagofghaaGreatWhl01
import Derived.ProofKit
import Derived.Deep.Slices
set_option linter.all false
/-! TypesWhole: the law's walk. -/
namespace Go.Proofs.YtbbdhknagofghaaGreat
open Go.RowKit
/-- What typed answers, from a world on. -/
def TypedOk (w3 : World) (A1 A2 A3 A4 A5 A6 A7 : Option Addr) (p : Pg) (c1 c2 c3 c4 c5 c6 c7 : Nat) : Prop := ∀ (act : Int) (e : Ex), mayE e = true → (∃ t, ofR p act e = .ok t) → ∀ (ecs : List Value) (W : World), Below w3.heap.size w3 W → rEx w3 w3.heap.size ecs e →
 Calls Tryz.prog 10 #[.agg #[.slice A1 p.headers.length c1, .slice A2 p.metas.length c2, .slice A3 p.states.length c3, .slice A4 p.actions.length c4, .slice A5 p.tables.length c5, .slice A6 p.control.length c6, .slice A7 p.emit.length c7], .int .i64 act, .agg ecs.toArray] W fun z w' => z = .returned (.bool true) ∧ Below W.heap.size W w'
set_option maxRecDepth 100000 in
set_option maxHeartbeats 16000000 in
theorem whole_any {m : Int} (w : World) (A1 A2 A3 A4 A5 A6 A7 : Option Addr) (p : Pg) (c1 c2 c3 c4 c5 c6 c7 : Nat) (hz : w.cell? ⟨0, 0, none⟩ = some (.int .i64 m)) (h : PgS w w.heap.size A1 A2 A3 A4 A5 A6 A7 p) (hcap : KCap w A5 p) (hbig : mayP p = true → (itemsP p).length ≤ bigI) :
  Calls Tryz.prog 4 #[.agg #[.slice A1 p.headers.length c1, .slice A2 p.metas.length c2, .slice A3 p.states.length c3, .slice A4 p.actions.length c4, .slice A5 p.tables.length c5, .slice A6 p.control.length c6, .slice A7 p.emit.length c7]] w fun e w' => e = .returned (.bool true) ∧ Below w.heap.size w w' := by
 have h0 : 0 < w.heap.size := World.block_lt_of_cell? w _ hz
 obtain ⟨wb, hwb, hsz, hba, hcb, -⟩ := box1 w #[.slice A1 p.headers.length c1, .slice A2 p.metas.length c2, .slice A3 p.states.length c3, .slice A4 p.actions.length c4, .slice A5 p.tables.length c5, .slice A6 p.control.length c6, .slice A7 p.emit.length c7] 30
 obtain ⟨y0, y1, y2, y3, y4, y5, y6⟩ := row7 (w := wb) (a := w.heap.size) fun i => hcb i
 have hb0 : Below wb.heap.size wb wb := Below.refl _ _
 have hBk := hide (show ∀ W, Below wb.heap.size wb W → Below w.heap.size w W from fun W hb => hba.trans (hb.mono (by omega)))
 have hc0 := hide (show ∀ W, Below wb.heap.size wb W → W.cell? ⟨0, 0, none⟩ = some (.int .i64 m) from fun W hb => zcell h0 hz (hBk.out W hb))
 have hk := hide (show ∀ W, Below wb.heap.size wb W → PgS W w.heap.size A1 A2 A3 A4 A5 A6 A7 p from fun W hb => h.below (hBk.out W hb))
 have hle : ∀ W, Below wb.heap.size wb W → w.heap.size ≤ W.heap.size := fun W hb => (hBk.out W hb).size
 have qG := hide (fun (W : World) (hb : Below wb.heap.size wb W) => (great04_any W A1 A2 A3 A4 A5 A6 A7 p c1 c2 c3 c4 c5 c6 c7 ((hk.out W hb).more (hle W hb))).mono (fun e w' h => (⟨h.1, hb.trans (h.2.mono hb.size)⟩ : (∃ g, e = .returned (.bool g)) ∧ Below wb.heap.size wb w')))
 have qC := hide (fun (W : World) (hb : Below wb.heap.size wb W) => (tCheck_any A1 A2 A3 A4 A5 A6 A7 p c1 c2 c3 c4 c5 c6 c7 w.heap.size W (hle W hb) (hk.out W hb) (KCap.below A1 A2 A3 A4 A5 A6 A7 p c1 c2 c3 c4 c5 c6 c7 h (hBk.out W hb) hcap) hbig (fun W' hB' hb' => may_any W' A1 A2 A3 A4 A5 A6 A7 p c1 c2 c3 c4 c5 c6 c7 hB' h0 (zcell (Nat.lt_of_lt_of_le h0 (hle W hb)) (hc0.out W hb) hb') ((hk.out W hb).below (hb'.mono (hle W hb))))).mono (fun e w' h => (⟨h.1, hb.trans (h.2.mono hb.size)⟩ : e = .returned (.tuple #[.int .i64 (typR p).1, .int .i64 (typR p).2]) ∧ Below wb.heap.size wb w')))
 have qK := hide (fun (W : World) (hb : Below wb.heap.size wb W) => (known8_any m W (hc0.out W hb)).mono (fun e w' h => (⟨h.1, hb.trans (h.2.mono hb.size)⟩ : e = .returned (.bool true) ∧ Below wb.heap.size wb w')))
 have hlz : w.heap.size < wb.heap.size := by omega
 have hgood : Hid ((typR p).2 = 0 → mayP p = true ∧ ∀ x ∈ itemsP p, Whole8 p x) := hide fun ht => by
  unfold typR at ht
  by_cases hc : (checkR p).2 = 0
  ·rw [if_pos hc] at ht
   have hm : mayP p = true := by
    cases hm : mayP p with
    | true => rfl
    | false => unfold checkR at hc; rw [hm] at hc; cases hc
   exact ⟨hm, fun x hx => whole8 hm x hx (stmt_may hm x hx) (firstT_all _ _ ht x hx)⟩
  ·rw [if_neg hc] at ht
   exact absurd ht hc
 have hI0 := hide (fun (hm : mayP p = true) (W : World) (hb : Below wb.heap.size wb W) => items07_any A1 A2 A3 A4 A5 A6 A7 p c1 c2 c3 c4 c5 c6 c7 w.heap.size W (hle W hb) (hk.out W hb) (hbig hm))
 have hT0 : Hid (mayP p = true → ∀ W, Below wb.heap.size wb W → TypedOk W A1 A2 A3 A4 A5 A6 A7 p c1 c2 c3 c4 c5 c6 c7) := hide fun hm W hb act e hme hof ecs W' hb' hr =>
  typed_any (m := m) A1 A2 A3 A4 A5 A6 A7 p c1 c2 c3 c4 c5 c6 c7 (wide_of hm) act W.heap.size (Nat.lt_of_lt_of_le h0 (hle W hb)) e hme hof ecs W' hb'.size (zcell (Nat.lt_of_lt_of_le h0 (hle W hb)) (hc0.out W hb) hb') (((hk.out W hb).more (hle W hb)).below hb') (sta_ex.keep hr fun q hq => hb'.cell hq)
 have hle' := hide hle
 generalize (typR p).1 = n at qC
 generalize (typR p).2 = c at qC hgood
 replace hbig := hide hbig
 clear hcb hba hz h hle hcap
 go_enter Tryz.func4, Tryz.ntmps4
 go_wp2_with fail
 refine (qG.out _ hb0).mono ?_
 rintro e w1 ⟨⟨g, rfl⟩, hb1⟩
 have kb1 := bcell' hb1
 cases g with
 | true =>
  go_wp2_with (go_at_call 6; refine (qK.out _ hb1).mono ?_; rintro e w2 ⟨rfl, hb2⟩)
  go_ret
  exact ⟨rfl, hBk.out _ hb2⟩
 | false =>
  go_wp2_with fail
  refine (qC.out _ hb1).mono ?_
  rintro e w2 ⟨rfl, hb2⟩
  have kb2 := bcell' hb2
  clear qG qC kb1
  by_cases hc : c = 0
  ·subst hc
   obtain ⟨hm, hall⟩ := hgood.out rfl
   have hI := hide (hI0.out hm w2 hb2)
   have hbg := hbig.out hm
   replace hall := hide hall
   have hm' := hide hm
   go_wp2_with fail
   refine hI.out.mono ?_
   rintro _ w3 ⟨v3, rfl, hI3, hb3⟩
   have hz3 := hb3.size
   have hb03 := hb2.trans (hb3.mono hb2.size)
   obtain ⟨AI, capI, rfl, hS⟩ := hI3.sl (Nat.le_trans (hle'.out _ hb2) hz3) hbg
   have hn : (itemsP p).length ≤ 100000000 := hbg
   have hP3 := hide ((hk.out _ hb03).more (hle'.out _ hb03))
   have hT := hide (hT0.out hm w3 hb03)
   have kb3 := bcell' hb03
   have hl3 := Nat.lt_of_lt_of_le hlz hb03.size
   have z0 := (kb3.1 w.heap.size 0 hlz).trans y0
   have z1 := (kb3.1 w.heap.size 1 hlz).trans y1
   have z2 := (kb3.1 w.heap.size 2 hlz).trans y2
   have z3 := (kb3.1 w.heap.size 3 hlz).trans y3
   have z4 := (kb3.1 w.heap.size 4 hlz).trans y4
   have z5 := (kb3.1 w.heap.size 5 hlz).trans y5
   have z6 := (kb3.1 w.heap.size 6 hlz).trans y6
   replace hS := hide hS
   have hbA := hide hb03
   clear hI hI3 hI0 hT0 hb3 hb2 hb1 kb2 kb3 y0 y1 y2 y3 y4 y5 y6 hm hgood hbig hb0 hb03
   go_wp2_with fail
   go_loopw [23] (fun q wr => ∃ k : Nat, k ≤ (itemsP p).length ∧ q = .int .i64 k ∧ Hid (Below w3.heap.size w3 wr)) (fun q _ => (itemsP p).length - (intOf q).toNat)
   case atStart => exact ⟨0, Nat.zero_le _, rfl, hide (Below.refl _ _)⟩
   case round =>
    obtain ⟨k, hk', rfl, hbr⟩ := hrel
    have hzr := hbr.out.size
    have hcr := bcell' hbr.out
    have r1 := Nat.lt_of_lt_of_le hl3 hzr
    by_cases hlt : k < (itemsP p).length
    ·obtain ⟨x, hxk⟩ : ∃ x, (itemsP p)[k]? = some x := ⟨_, List.getElem?_eq_getElem hlt⟩
     obtain ⟨b, o, ecs, hA, hb, hel, hcell, hr⟩ := hS.out.2 k _ hxk
     have hwx := hall.out x (List.mem_of_getElem? hxk)
     subst hA
     have hltz : (k : Int) < ((itemsP p).length : Int) := by omega
     obtain ⟨scs, rfl, hs⟩ := hr
     obtain ⟨xk, xa, xb, st⟩ := x
     obtain ⟨kind, head, name, e, thn, els⟩ := st
     obtain ⟨es, A, cap, A', cap', rfl, -, -, -, he, hTh, hEl⟩ := RS.inv hs
     have l1 := hTh.len
     have l2 := hEl.len
     have hE := hide he
     obtain ⟨op, lit, ehead, ename, hi, lo, args⟩ := e
     obtain ⟨Ae, ecap, rfl, -, -, -, -, -, -, hs'⟩ := RE.inv he
     have l3 := hs'.len
     simp only [stC, exC, List.cons_append, List.nil_append] at hcell
     obtain ⟨x0, x1, x2, x3, x4, x5, x6, x7, x8, x9, x10, x11, x12, x13, x14, x15, x16⟩ := srow17 hcell
     obtain ⟨wx, hwx', hzx, hbx, hcx, -⟩ := box1 wr #[.int .u8 xk, .int .i64 xa, .int .i64 xb, .int .u8 kind, .string head, .string name, .int .u8 op, .int .i64 lit.1, .int .u64 lit.2.1, .int .u64 lit.2.2, .string ehead, .string ename, .int .i64 hi, .int .i64 lo, .slice Ae args.length ecap, .slice A thn.length cap, .slice A' els.length cap'] 49
     obtain ⟨i0, i1, i2, i3, i4, i5, i6, i7, i8, i9, i10, i11, i12, i13, i14, i15, i16⟩ := row17 hcx
     have hbX := hbr.out.trans (hbx.mono hzr)
     have kx := bcell' hbX
     have s1 := Nat.lt_of_lt_of_le hl3 hbX.size
     have s2 : wr.heap.size < wx.heap.size := by omega
     have hb' : b < w3.heap.size := by omega
     replace hbX := hide hbX
     replace hzx := hide hzx
     clear hcell hel hs hTh hEl he hs' hcx hbx hxk
     go_upto_region 8 with fail
     go_cut [25, 26, 6] (fun _ _ sp wv => sp = .pointer (some ⟨wr.heap.size, 0, none⟩) ∧ wv = wx)
     case first =>
      clear hT hall hwx hE hS hP3 i0 i1 i2 i3 i4 i5 i6 i7 i8 i9 i10 i11 i12 i13 i14 i15 i16 kx s1 s2 hbX
      go_wp2_with fail
      go_meet
      exact ⟨rfl, rfl⟩
     case rest =>
      obtain ⟨rfl, rfl⟩ := hcut
      by_cases h10 : xk = 10
      ·subst h10
       have hst := hide (hwx.stmt rfl)
       clear hwx
       by_cases hop : op = 0
       ·have hoq : (op != 0) = false := by simp [hop]
        replace hop := hide hop
        clear hst
        go_wp2_with fail
        go_roundw
        case rel => exact ⟨k + 1, by omega, by go_num, hbX⟩
        case measure => simp [intOf]; omega
       ·have hoq : (op != 0) = true := bne_iff_ne.2 hop
        have hY := hide (show Calls Tryz.prog 10 #[.agg #[.slice A1 p.headers.length c1, .slice A2 p.metas.length c2, .slice A3 p.states.length c3, .slice A4 p.actions.length c4, .slice A5 p.tables.length c5, .slice A6 p.control.length c6, .slice A7 p.emit.length c7], .int .i64 xa, .agg #[.int .u8 op, .int .i64 lit.1, .int .u64 lit.2.1, .int .u64 lit.2.2, .string ehead, .string ename, .int .i64 hi, .int .i64 lo, .slice Ae args.length ecap]] wc _ from hT.out xa _ (hst.out hop).1 (hst.out hop).2 _ wc hbX.out hE.out)
        clear hst
        go_wp2_with (go_at_call 10; refine hY.out.mono ?_; rintro e w5 ⟨rfl, hw5⟩)
        go_roundw
        case rel => exact ⟨k + 1, by omega, by go_num, hide (hbX.out.trans (hw5.mono hbX.out.size))⟩
        case measure => simp [intOf]; omega
      ·have h10q : (xk == 10) = false := beq_eq_false_iff_ne.2 h10
       by_cases h12 : xk = 12
       ·subst h12
        obtain ⟨i, hi', j, hj', rfl, rfl, hmk, hok⟩ := hwx.key rfl
        clear hwx
        obtain ⟨g0, o0, ecs, hA, hb, hel, hcell, B1, d1, B2, d2, B3, d3, hf, hn1, hn2, hS1, hS2, hS3⟩ := hP3.out.tables.2 i _ (List.getElem?_eq_getElem hi')
        have lm := hP3.out.tables.len
        subst hA
        subst hf
        have y1 : w3.cell? ⟨g0, o0 + i * 5 + 1, none⟩ = some (.slice B1 p.tables[i].keys.length d1) := hcell 1 _ rfl
        obtain ⟨g1, o1, ecs1, hA1, hb1, hel1, hcell1, fcs, hfc, -, hr1⟩ := hS1.2 j _ (List.getElem?_eq_getElem hj')
        have lk := hS1.len
        subst hA1
        have hY0 := hide (fun (W : World) (hW : Below w3.heap.size w3 W) => hT.out (-1) _ hmk hok fcs W hW hr1)
        have hil : (i : Int) < (p.tables.length : Int) := by omega
        have hjl : (j : Int) < (p.tables[i].keys.length : Int) := by omega
        clear hmk hok hT
        obtain ⟨keyj, hkeyj⟩ : ∃ q, p.tables[i].keys[j] = q := ⟨_, rfl⟩
        rw [hkeyj] at hfc hr1
        obtain ⟨ej, kj⟩ := keyj
        simp only at hfc hr1
        obtain ⟨opa, lita, heada, namea, hia, loa, argsa⟩ := ej
        obtain ⟨Aa, capa, rfl, -, -, -, -, -, -, hsa'⟩ := RE.inv hr1
        have la := hsa'.len
        subst hfc
        obtain ⟨w0, w1', w2', w3', w4', w5', w6', w7', w8', w9'⟩ := srow10 hcell1
        have hg0 : g0 < w3.heap.size := by omega
        have hg1 : g1 < w3.heap.size := by omega
        have v0 := Nat.lt_of_lt_of_le hg0 hbX.out.size
        have v1 := Nat.lt_of_lt_of_le hg1 hbX.out.size
        have hY : ∀ d os, Hid (Calls Tryz.prog 10 #[.agg #[.slice A1 p.headers.length c1, .slice A2 p.metas.length c2, .slice A3 p.states.length c3, .slice A4 p.actions.length c4, .slice (some ⟨g0, o0, none⟩) p.tables.length c5, .slice A6 p.control.length c6, .slice A7 p.emit.length c7], .int .i64 (-1), .agg #[.int .u8 opa, .int .i64 lita.1, .int .u64 lita.2.1, .int .u64 lita.2.2, .string heada, .string namea, .int .i64 hia, .int .i64 loa, .slice Aa argsa.length capa]] (Go.Sort.grow (redrawn wc d) os) fun e w' => e = .returned (.bool true) ∧ Below (Go.Sort.grow (redrawn wc d) os).heap.size (Go.Sort.grow (redrawn wc d) os) w') := fun d os => hide (hY0.out _ (below_grow hbX.out hbX.out.size d os))
        clear hY0 hr1 hsa' hcell hcell1 hel hel1 hkeyj hn1 hn2 hS1 hS2 hS3
        generalize p.tables[i].keys.length = nk at *
        have hg := gcell' (Below.refl wc.heap.size wc) (Nat.le_refl _)
        go_wp2_with fail
        refine wp_region_quiet_below (by kernel_rfl) (by kernel_rfl) ?_
        repeat (any_goals (first | go_big_quiet_step (first | (go_at_call 10; with_reducible exact Calls.regrown_of (hY _ _).out)) | quiet_step (first | (go_at_call 10; with_reducible exact Calls.regrown_of (hY _ _).out))))
        refine wpQuiet_nil ?_
        intro w5 hw5
        replace hw5 := below_of_regrown hw5
        go_wp2
        go_roundw
        case rel => exact ⟨k + 1, by omega, by go_num, hide (hbX.out.trans (hw5.mono hbX.out.size))⟩
        case measure => simp [intOf]; omega
       ·have h12q : (xk == 12) = false := beq_eq_false_iff_ne.2 h12
        by_cases h6 : xk = 6
        ·subst h6
         obtain ⟨i, hi', rfl, hks⟩ := hwx.next rfl
         clear hwx
         obtain ⟨g0, o0, ecs, hA, hb, hel, hcell, B1, d1, B2, d2, B3, d3, hf, hn1, hn2, hS1, hS2, hS3⟩ := hP3.out.states.2 i _ (List.getElem?_eq_getElem hi')
         have lm := hP3.out.states.len
         subst hA
         subst hf
         have y3 : w3.cell? ⟨g0, o0 + i * 5 + 3, none⟩ = some (.slice B2 p.states[i].keys.length d2) := hcell 3 _ rfl
         have lk := hS2.len
         have hil : (i : Int) < (p.states.length : Int) := by omega
         have hg0 : g0 < w3.heap.size := by omega
         have v0 := Nat.lt_of_lt_of_le hg0 hbX.out.size
         clear hcell hel hn1 hn2 hS1 hS3 hE
         generalize p.states[i].keys = keys at *
         replace hS2 := hide hS2
         replace hks := hide hks
         obtain ⟨wo, rfl⟩ : ∃ wo : World, wo = wr := ⟨_, rfl⟩
         go_wp2_with fail
         go_loopw [73] (fun q wr => ∃ j : Nat, j ≤ keys.length ∧ q = .int .i64 j ∧ Hid (Below w3.heap.size w3 wr)) (fun q _ => keys.length - (intOf q).toNat)
         case atStart => exact ⟨0, Nat.zero_le _, rfl, hbX⟩
         case round =>
          obtain ⟨j, hj, rfl, hbj⟩ := hrel
          have hzj := hbj.out.size
          have hcj := bcell' hbj.out
          have t1 := Nat.lt_of_lt_of_le hl3 hzj
          clear kx hcr i0 i1 i2 i3 i4 i5 i6 i7 i8 i9 i10 i11 i12 i13 i14 i15 i16 x0 x1 x2 x3 x4 x5 x6 x7 x8 x9 x10 x11 x12 x13 x14 x15 x16
          by_cases hltj : j < keys.length
          ·obtain ⟨b2, o2, ecs2, hA2, hb2, hel2, hcell2, hr2⟩ := hS2.out.2 j _ (List.getElem?_eq_getElem hltj)
           subst hA2
           have hltjz : (j : Int) < (keys.length : Int) := by omega
           have hX0 := fun (W : World) (hW : Below w3.heap.size w3 W) => hT.out (-1) _ (hks.out _ (List.getElem_mem hltj)).1 (hks.out _ (List.getElem_mem hltj)).2 ecs2 W hW hr2
           generalize keys[j] = ek at hr2
           obtain ⟨ope, lite, heade, namee, hie, loe, argse⟩ := ek
           obtain ⟨Aq, capq, rfl, -, -, -, -, -, -, hsq⟩ := RE.inv hr2
           have hlq := hsq.len
           obtain ⟨m0, m1, m2, m3, m4, m5, m6, m7, m8⟩ := srow9 hcell2
           obtain ⟨wy, hwy, hzy, hby, hcy, -⟩ := box1 wr #[.int .u8 ope, .int .i64 lite.1, .int .u64 lite.2.1, .int .u64 lite.2.2, .string heade, .string namee, .int .i64 hie, .int .i64 loe, .slice Aq argse.length capq] 45
           obtain ⟨n0, n1, n2, n3, n4, n5, n6, n7, n8⟩ := row9 hcy
           have hbY := hbj.out.trans (hby.mono hzj)
           have ky := bcell' hbY
           have t2 := Nat.lt_of_lt_of_le hl3 hbY.size
           have t3 : wr.heap.size < wy.heap.size := by omega
           have hb2' : b2 < w3.heap.size := by omega
           have hY := hide (show Calls Tryz.prog 10 #[.agg #[.slice A1 p.headers.length c1, .slice A2 p.metas.length c2, .slice (some ⟨g0, o0, none⟩) p.states.length c3, .slice A4 p.actions.length c4, .slice A5 p.tables.length c5, .slice A6 p.control.length c6, .slice A7 p.emit.length c7], .int .i64 (-1), .agg #[.int .u8 ope, .int .i64 lite.1, .int .u64 lite.2.1, .int .u64 lite.2.2, .string heade, .string namee, .int .i64 hie, .int .i64 loe, .slice Aq argse.length capq]] wy _ from hX0 wy hbY)
           replace hbY := hide hbY
           replace hzy := hide hzy
           clear hcell2 hr2 hX0 hsq hel2 hcy hby hT hks hS2
           go_wp2_with (go_at_call 10; refine hY.out.mono ?_; rintro e w5 ⟨rfl, hw5⟩)
           go_roundw
           case rel => exact ⟨j + 1, by omega, by go_num, hide (hbY.out.trans (hw5.mono hbY.out.size))⟩
           case measure => simp [intOf]; omega
          ·go_wp2_with fail
           go_roundw
           case rel => exact ⟨k + 1, by omega, by go_num, hbj⟩
           case measure => simp [intOf]; omega
        ·have h6q : (xk == 6) = false := beq_eq_false_iff_ne.2 h6
         clear hwx
         go_wp2_with fail
         go_roundw
         case rel => exact ⟨k + 1, by omega, by go_num, hbX⟩
         case measure => simp [intOf]; omega
    ·go_wp2_with (go_at_call 6; refine (qK.out _ (hbA.out.trans (hbr.out.mono hbA.out.size))).mono ?_; rintro e w4 ⟨rfl, hb4⟩)
     go_ret
     exact ⟨rfl, hBk.out _ hb4⟩
  ·have hcq : (c != 0) = true := bne_iff_ne.2 hc
   go_wp2_with (go_at_call 6; refine (qK.out _ hb2).mono ?_; rintro e w4 ⟨rfl, hb4⟩)
   go_ret
   exact ⟨rfl, hBk.out _ hb4⟩
end Go.Proofs.YtbbdhknagofghaaGreat
/-! Arguments opened to what the walks speak of: a type that reads as R. -/
namespace Go.Proofs.YtbbdhknagofghaaGreat
open Go.ChangeShapes Go.WideShapes Go.ChangeAt Go.RowKit Go.Deep
theorem addr_spot {w : World} {a : Addr} {v : Value} (h : w.cell? a = some v) : ∃ b o, a = ⟨b, o, none⟩ := by
 obtain ⟨b, o, spot⟩ := a
 cases spot with
 | none => exact ⟨b, o, rfl⟩
 | some s => simp [World.cell?] at h; split at h <;> cases h
theorem exists_list {α : Type} {p : Nat → α → Prop} : ∀ len : Nat, (∀ i, i < len → ∃ a, p i a) → ∃ xs : List α, xs.length = len ∧ ∀ i x, xs[i]? = some x → p i x
 | 0, _ => ⟨[], rfl, fun i x h => by simp at h⟩
 | len + 1, h => by
  obtain ⟨xs, h1, h2⟩ := exists_list len (fun i hi => h i (by omega))
  obtain ⟨a, ha⟩ := h len (by omega)
  refine ⟨xs ++ [a], by simp [h1], fun i x hx => ?_⟩
  by_cases hi : i < len
  ·rw [List.getElem?_append_left (by omega)] at hx
   exact h2 i x hx
  ·have hil : i = len := by
    have := (List.getElem?_eq_some_iff.1 hx).1
    simp [h1] at this; omega
   subst hil
   rw [List.getElem?_append_right (by omega), h1] at hx
   simp at hx
   subst hx
   exact ha
/-- A row's last step where nothing that lay has turned; no 'again'. -/
theorem post_below {H : Type} {enc : TypeId × Value → H} {P : Program} {f : Func} {s : ChangeSpec} {apart fresh handsOn : Bool} {W W' : World} {args : Array Value} {v : Value} {ds gs : List (DataW H)} {before pa pv : List MemPlace}
  (hW : DataW.Whole enc P f.params.toList s.vars apart W args.toList ds gs before)
  (hres : ∀ (b : Nat) (sp : Nat → Bool) (hd : Bool), DataW.TrodAll enc P W' b sp hd f.resultTypes.toList (v.resultList f.resultTypes.size) (s.fn H (ds ++ gs)).results [])
  (hargs : DataW.TrodAll enc P W' 0 (fun b => decide (b < W.heap.size)) true f.params.toList args.toList (s.fn H (ds ++ gs)).args pa)
  (hvars : DataW.TrodVars enc P W' (fun b => decide (b < W.heap.size)) s.vars (s.fn H (ds ++ gs)).vars pv)
  (hps : before = pa ++ pv) (hb : Below W.heap.size W W') : s.post enc P f apart fresh handsOn false W args v W' := by
 have hlt : ∀ p ∈ before, p.block < W.heap.size := fun p hp => hW.lt p hp
 refine ⟨ds, gs, before, [], pa, pv, hW, hres _ _ _, hargs, hvars, World.keptBut_mono (fun p hp => ⟨hp, ?_⟩) (hb.frame (· ∈ before)), fun h => by cases h⟩
 rw [hps, List.mem_append] at hp
 exact Or.inr hp
end Go.Proofs.YtbbdhknagofghaaGreat

import Derived.Test.YtcgmkjpgaigmfaaGreatOnc26
import Derived.Test.YtcgmkjpgaigmfaaGreatOnc38
import Derived.Test.YtcgmkjpgaigmfaaGreatOnc41
import Derived.Test.YtcgmkjpgaigmfaaGreatOnc46
set_option linter.all false
/-! ResolveOnce: the law's walk. -/
namespace Go.Proofs.YtcgmkjpgaigmfaaGreat
open Go.RowKit
attribute [local go_sem ↓] app_eq
def Knows (m : Int) : Prop := ∀ (w : World), w.cell? ⟨0, 0, none⟩ = some (.int .i64 m) → Calls Tryz.prog 6 #[] w fun e w' => e = .returned (.bool true) ∧ Below w.heap.size w w'
set_option maxRecDepth 100000 in
set_option maxHeartbeats 2000000 in
theorem once_any {m : Int} (hknown : Knows m) (w : World) (A1 A2 A3 A4 A5 A6 A7 : Option Addr) (p : Pg) (c1 c2 c3 c4 c5 c6 c7 : Nat) (hz : w.cell? ⟨0, 0, none⟩ = some (.int .i64 m)) (h : PgS w w.heap.size A1 A2 A3 A4 A5 A6 A7 p) :
    Calls Tryz.prog 4 #[.agg #[.slice A1 p.headers.length c1, .slice A2 p.metas.length c2, .slice A3 p.states.length c3, .slice A4 p.actions.length c4, .slice A5 p.tables.length c5, .slice A6 p.control.length c6, .slice A7 p.emit.length c7]] w fun e w' => e = .returned (.bool true) ∧ Below w.heap.size w w' := by
  have h0 : 0 < w.heap.size := World.block_lt_of_cell? w _ hz
  have l1 := h.1.len
  have l2 := h.2.len
  have l3 := h.3.len
  have l4 := h.4.len
  have l5 := h.5.len
  have l6 := h.6.len
  have l7 := h.7.len
  obtain ⟨wb, hwb, hsz, hba, hcb, -⟩ := box1 w #[.slice A1 p.headers.length c1, .slice A2 p.metas.length c2, .slice A3 p.states.length c3, .slice A4 p.actions.length c4, .slice A5 p.tables.length c5, .slice A6 p.control.length c6, .slice A7 p.emit.length c7] 30
  have y0 : wb.cell? ⟨w.heap.size, 0, none⟩ = some (.slice A1 p.headers.length c1) := hcb 0
  have y1 : wb.cell? ⟨w.heap.size, 1, none⟩ = some (.slice A2 p.metas.length c2) := hcb 1
  have y2 : wb.cell? ⟨w.heap.size, 2, none⟩ = some (.slice A3 p.states.length c3) := hcb 2
  have y3 : wb.cell? ⟨w.heap.size, 3, none⟩ = some (.slice A4 p.actions.length c4) := hcb 3
  have y4 : wb.cell? ⟨w.heap.size, 4, none⟩ = some (.slice A5 p.tables.length c5) := hcb 4
  have y5 : wb.cell? ⟨w.heap.size, 5, none⟩ = some (.slice A6 p.control.length c6) := hcb 5
  have y6 : wb.cell? ⟨w.heap.size, 6, none⟩ = some (.slice A7 p.emit.length c7) := hcb 6
  have hb0 : Below wb.heap.size wb wb := Below.refl _ _
  have hBk := hide (show ∀ W, Below wb.heap.size wb W → Below w.heap.size w W from fun W hb => hba.trans (hb.mono (by omega)))
  have hc0 := hide (show ∀ W, Below wb.heap.size wb W → W.cell? ⟨0, 0, none⟩ = some (.int .i64 m) from fun W hb => zcell h0 hz (hBk.out W hb))
  have hk := hide (show ∀ W, Below wb.heap.size wb W → PgS W w.heap.size A1 A2 A3 A4 A5 A6 A7 p from fun W hb => h.below (hBk.out W hb))
  have hle : ∀ W, Below wb.heap.size wb W → w.heap.size ≤ W.heap.size := fun W hb => (hBk.out W hb).size
  have qG := hide (fun (W : World) (hb : Below wb.heap.size wb W) => (great04_any W A1 A2 A3 A4 A5 A6 A7 p c1 c2 c3 c4 c5 c6 c7 ((hk.out W hb).more (hle W hb))).mono (fun e w' h => (⟨h.1, hb.trans (h.2.mono hb.size)⟩ : (∃ g, e = .returned (.bool g)) ∧ Below wb.heap.size wb w')))
  have qC := hide (fun (W : World) (hb : Below wb.heap.size wb W) => (check07_any A1 A2 A3 A4 A5 A6 A7 p c1 c2 c3 c4 c5 c6 c7 w.heap.size W (hle W hb) (hk.out W hb) (fun W' hB' hb' => may_any W' A1 A2 A3 A4 A5 A6 A7 p c1 c2 c3 c4 c5 c6 c7 hB' h0 (zcell (Nat.lt_of_lt_of_le h0 (hle W hb)) (hc0.out W hb) hb') ((hk.out W hb).below (hb'.mono (hle W hb))))).mono (fun e w' h => (⟨h.1, hb.trans (h.2.mono hb.size)⟩ : e = .returned (.tuple #[.int .i64 (checkR p).1, .int .i64 (checkR p).2]) ∧ Below wb.heap.size wb w')))
  have qI := hide (fun (W : World) (hb : Below wb.heap.size wb W) => (items04_any W A1 A2 A3 A4 A5 A6 A7 p c1 c2 c3 c4 c5 c6 c7 ((hk.out W hb).more (hle W hb))).mono (fun e w' h => (⟨h.1, hb.trans (h.2.mono hb.size)⟩ : (∃ z : Int, e = .returned (.int .i64 z) ∧ (countP p ≤ bigN → z = countP p)) ∧ Below wb.heap.size wb w')))
  have qK := hide (fun (W : World) (hb : Below wb.heap.size wb W) => (hknown W (hc0.out W hb)).mono (fun e w' h => (⟨h.1, hb.trans (h.2.mono hb.size)⟩ : e = .returned (.bool true) ∧ Below wb.heap.size wb w')))
  have qH := hide (fun (s : ByteArray) (W : World) (hb : Below wb.heap.size wb W) => header_any W A1 A2 A3 A4 A5 A6 A7 p c1 c2 c3 c4 c5 c6 c7 s (hle W hb) (hk.out W hb))
  have qA := hide (fun (s : ByteArray) (W : World) (hb : Below wb.heap.size wb W) => action_any W A1 A2 A3 A4 A5 A6 A7 p c1 c2 c3 c4 c5 c6 c7 s (hle W hb) (hk.out W hb))
  have qT := hide (fun (s : ByteArray) (W : World) (hb : Below wb.heap.size wb W) => table_any W A1 A2 A3 A4 A5 A6 A7 p c1 c2 c3 c4 c5 c6 c7 s (hle W hb) (hk.out W hb))
  have qS := hide (fun (s : ByteArray) (W : World) (hb : Below wb.heap.size wb W) => state_any W A1 A2 A3 A4 A5 A6 A7 p c1 c2 c3 c4 c5 c6 c7 s (hle W hb) (hk.out W hb))
  have hlz : w.heap.size < wb.heap.size := by omega
  have hok := hide (chk_ok p)
  have hbad := hide (chk_bad p)
  generalize (checkR p).1 = n at qC hok hbad
  generalize (checkR p).2 = c at qC hok hbad
  clear hcb hba hz h hle
  go_enter Tryz.func4, Tryz.ntmps4
  go_wp2_with fail
  refine (qG.out _ hb0).mono ?_
  rintro e w1 ⟨⟨g, rfl⟩, hb1⟩
  have kb1 := bcell' hb1
  cases g with
  | true =>
    go_wp2_with (go_at_call 6; refine (qK.out _ hb1).mono ?_; rintro e w2 ⟨rfl, hb2⟩)
    go_ret
    exact ⟨rfl, hBk.out _ hb2⟩
  | false =>
    go_wp2_with fail
    refine (qC.out _ hb1).mono ?_
    rintro e w2 ⟨rfl, hb2⟩
    have kb2 := bcell' hb2
    clear qG qC kb1
    by_cases hc : c = 0
    · obtain ⟨hm, hn, hO, hcl⟩ := hok.out hc
      subst hc
      replace hO := hide hO
      replace hm := hide hm
      replace hn := hide hn
      clear hok hbad
      go_wp2_with fail
      refine (qI.out _ hb2).mono ?_
      rintro e w3 ⟨⟨z, rfl, hz⟩, hb3⟩
      obtain rfl : n = z := by rw [hn.out, hz hcl]
      have kb3 := bcell' hb3
      clear hz hn kb2 qI
      go_wp2
      have hs3 := hide hb3
      clear hb1 hb2 kb3
      go_loopw [50] (fun i wr => ∃ k : Nat, k ≤ p.headers.length ∧ i = .int .i64 k ∧ Hid (Below wb.heap.size wb wr)) (fun i _ => p.headers.length - (intOf i).toNat)
      case atStart => exact ⟨0, Nat.zero_le _, rfl, hs3⟩
      case round =>
        clear hs3 hb3
        obtain ⟨k, hkk, rfl, hbr⟩ := hrel
        have hc := bcell' hbr.out
        by_cases hlt : k < p.headers.length
        · obtain ⟨b, o, ecs, hA, hb, hel, hcell, A', c', rfl, hn, hF⟩ := (hk.out _ hb0).headers.2 k _ (List.getElem?_eq_getElem hlt)
          subst hA
          have hltz : (k : Int) < (p.headers.length : Int) := by omega
          have hl' := hF.len
          have x0 : wb.cell? ⟨b, o + k * 2, none⟩ = some (.string p.headers[k].name) := by simpa using hcell 0 _ rfl
          have x1 : wb.cell? ⟨b, o + k * 2 + 1, none⟩ = some (.slice A' p.headers[k].fields.length c') := hcell 1 _ rfl
          obtain ⟨ws, hws, hszs, hwS, hcs, -⟩ := box1 wr #[.string p.headers[k].name, .slice A' p.headers[k].fields.length c'] 38
          have s0 : ws.cell? ⟨wr.heap.size, 0, none⟩ = some (.string p.headers[k].name) := hcs 0
          have s1 : ws.cell? ⟨wr.heap.size, 1, none⟩ = some (.slice A' p.headers[k].fields.length c') := hcs 1
          have hbs := hide (hbr.out.trans (hwS.mono hbr.out.size))
          have hlw : b < wb.heap.size := by omega
          have hzr := hbr.out.size
          have hws' := hide hwS
          obtain ⟨g1, g2⟩ := hO.out.heads k _ (List.getElem?_eq_getElem hlt)
          have kws := bcell' hbs.out
          have z1 : wr.heap.size < ws.heap.size := by omega
          have z2 : w.heap.size < ws.heap.size := by omega
          have hH1 := qH.out p.headers[k].name ws hbs.out
          rw [g1] at hH1
          have hdk : hdB p.headers[k] = true := by
            have := hm.out
            simp only [mayP, Bool.and_eq_true] at this
            exact List.all_eq_true.1 this.1.1.1.1.1.1.2 _ (List.getElem_mem hlt)
          have hB1 := hide (fun (W : World) (hb : Below ws.heap.size ws W) => bits_any p.headers[k] A' c' W (B := w.heap.size) (by have := hb.size; omega) (hF.below sta_fd ((hbs.out.mono (by omega)).trans (hb.mono (by omega)))) hdk)
          generalize bitsI p.headers[k] = bi at g2 hB1
          clear hcell hcs hwS hdk
          go_wp2_with fail
          refine hH1.mono ?_
          rintro e w4 ⟨rfl, hb4⟩
          have kb4 := bcell hb4
          have hs4 := hide (hbs.out.trans (hb4.mono (by omega)))
          go_wp2_with fail
          refine (hB1.out _ hb4).mono ?_
          rintro e w5 ⟨rfl, hb5⟩
          have g3 : Int.tmod bi 8 = 0 := Int.tmod_eq_zero_of_dvd (Int.dvd_of_emod_eq_zero g2)
          have hs5 := hide (hs4.out.trans (hb5.mono (hs4.out.size)))
          go_wp2
          go_roundw
          case rel => exact ⟨k + 1, by omega, by go_num, hs5⟩
          case measure => simp [intOf]; omega
        · go_wp2
          generalize k = k0
          have hbr0 := hbr
          clear hbr hlt hkk hc
          go_loopw [71] (fun i wr => ∃ k : Nat, k ≤ p.actions.length ∧ i = .int .i64 k ∧ Hid (Below wb.heap.size wb wr)) (fun i _ => p.actions.length - (intOf i).toNat)
          case atStart => exact ⟨0, Nat.zero_le _, rfl, hbr0⟩
          case round =>
            clear hbr0
            obtain ⟨k, hkk, rfl, hbr⟩ := hrel
            have hc := bcell' hbr.out
            by_cases hlt : k < p.actions.length
            · obtain ⟨b, o, ecs, hA, hb, hel, hcell, B1, d1, B2, d2, rfl, hn, hT, hK⟩ := (hk.out _ hb0).actions.2 k _ (List.getElem?_eq_getElem hlt)
              subst hA
              have hltz : (k : Int) < (p.actions.length : Int) := by omega
              have m1 := hT.len
              have m2 := hK.len
              have x0 : wb.cell? ⟨b, o + k * 3, none⟩ = some (.string p.actions[k].name) := by simpa using hcell 0 _ rfl
              have x1 : wb.cell? ⟨b, o + k * 3 + 1, none⟩ = some (.slice B1 p.actions[k].params.length d1) := hcell 1 _ rfl
              have x2 : wb.cell? ⟨b, o + k * 3 + 2, none⟩ = some (.slice B2 p.actions[k].body.length d2) := hcell 2 _ rfl
              obtain ⟨ws, hws, hszs, hwS, hcs, -⟩ := box1 wr #[.string p.actions[k].name, .slice B1 p.actions[k].params.length d1, .slice B2 p.actions[k].body.length d2] 42
              have s0 : ws.cell? ⟨wr.heap.size, 0, none⟩ = some (.string p.actions[k].name) := hcs 0
              have hbs := hide (hbr.out.trans (hwS.mono hbr.out.size))
              have hlw : b < wb.heap.size := by omega
              have hzr := hbr.out.size
              have g1 := hO.out.acts k _ (List.getElem?_eq_getElem hlt)
              have kws := bcell' hbs.out
              have z1 : wr.heap.size < ws.heap.size := by omega
              have z2 : w.heap.size < ws.heap.size := by omega
              have hH1 := qA.out p.actions[k].name ws hbs.out
              rw [g1] at hH1
              clear hcell hcs hwS hT hK
              go_wp2_with fail
              refine hH1.mono ?_
              rintro e w4 ⟨rfl, hb4⟩
              have hs4 := hide (hbs.out.trans (hb4.mono (by omega)))
              go_wp2
              go_roundw
              case rel => exact ⟨k + 1, by omega, by go_num, hs4⟩
              case measure => simp [intOf]; omega
            · go_wp2
              generalize k = k1
              have hbr0 := hbr
              clear hbr hlt hkk hc
              go_loopw [86] (fun i wr => ∃ k : Nat, k ≤ p.tables.length ∧ i = .int .i64 k ∧ Hid (Below wb.heap.size wb wr)) (fun i _ => p.tables.length - (intOf i).toNat)
              case atStart => exact ⟨0, Nat.zero_le _, rfl, hbr0⟩
              case round =>
                clear hbr0
                obtain ⟨k, hkk, rfl, hbr⟩ := hrel
                have hc := bcell' hbr.out
                by_cases hlt : k < p.tables.length
                · obtain ⟨b, o, ecs, hA, hb, hel, hcell, B1, d1, B2, d2, B3, d3, rfl, hn, hd, hK, hT, hL⟩ := (hk.out _ hb0).tables.2 k _ (List.getElem?_eq_getElem hlt)
                  subst hA
                  have hltz : (k : Int) < (p.tables.length : Int) := by omega
                  have m1 := hT.len
                  have m2 := hK.len
                  have m3 := hL.len
                  have x0 : wb.cell? ⟨b, o + k * 5, none⟩ = some (.string p.tables[k].name) := by simpa using hcell 0 _ rfl
                  have x1 : wb.cell? ⟨b, o + k * 5 + 1, none⟩ = some (.slice B1 p.tables[k].keys.length d1) := hcell 1 _ rfl
                  have x2 : wb.cell? ⟨b, o + k * 5 + 2, none⟩ = some (.slice B2 p.tables[k].actions.length d2) := hcell 2 _ rfl
                  have x3 : wb.cell? ⟨b, o + k * 5 + 3, none⟩ = some (.string p.tables[k].dname) := hcell 3 _ rfl
                  have x4 : wb.cell? ⟨b, o + k * 5 + 4, none⟩ = some (.slice B3 p.tables[k].dargs.length d3) := hcell 4 _ rfl
                  obtain ⟨ws, hws, hszs, hwS, hcs, -⟩ := box1 wr #[.string p.tables[k].name, .slice B1 p.tables[k].keys.length d1, .slice B2 p.tables[k].actions.length d2, .string p.tables[k].dname, .slice B3 p.tables[k].dargs.length d3] 48
                  have s0 : ws.cell? ⟨wr.heap.size, 0, none⟩ = some (.string p.tables[k].name) := hcs 0
                  have s3 : ws.cell? ⟨wr.heap.size, 3, none⟩ = some (.string p.tables[k].dname) := hcs 3
                  have hbs := hide (hbr.out.trans (hwS.mono hbr.out.size))
                  have hlw : b < wb.heap.size := by omega
                  have hzr := hbr.out.size
                  obtain ⟨g1, g2⟩ := hO.out.tabs k _ (List.getElem?_eq_getElem hlt)
                  have kws := bcell' hbs.out
                  have z1 : wr.heap.size < ws.heap.size := by omega
                  have z2 : w.heap.size < ws.heap.size := by omega
                  have hH1 := qT.out p.tables[k].name ws hbs.out
                  rw [g1] at hH1
                  have hH2 := hide (qA.out p.tables[k].dname)
                  generalize actionI p p.tables[k].dname = ai at g2 hH2
                  clear hcell hcs hwS hT hK hL
                  go_wp2_with fail
                  refine hH1.mono ?_
                  rintro e w4 ⟨rfl, hb4⟩
                  have kb4 := bcell hb4
                  have hs4 := hide (hbs.out.trans (hb4.mono (by omega)))
                  have kv4 := bcell' hs4.out
                  go_wp2_with fail
                  refine (hH2.out w4 hs4.out).mono ?_
                  rintro e w5 ⟨rfl, hb5⟩
                  have hs5 := hide (hs4.out.trans (hb5.mono (hs4.out.size)))
                  go_wp2
                  go_roundw
                  case rel => exact ⟨k + 1, by omega, by go_num, hs5⟩
                  case measure => simp [intOf]; omega
                · go_wp2
                  generalize k = k2
                  have hbr0 := hbr
                  clear hbr hlt hkk hc
                  go_loopw [109] (fun i wr => ∃ k : Nat, k ≤ p.states.length ∧ i = .int .i64 k ∧ Hid (Below wb.heap.size wb wr)) (fun i _ => p.states.length - (intOf i).toNat)
                  case atStart => exact ⟨0, Nat.zero_le _, rfl, hbr0⟩
                  case round =>
                    clear hbr0
                    obtain ⟨k, hkk, rfl, hbr⟩ := hrel
                    have hc := bcell' hbr.out
                    by_cases hlt : k < p.states.length
                    · obtain ⟨b, o, ecs, hA, hb, hel, hcell, B1, d1, B2, d2, B3, d3, rfl, hn, hd, hT, hK, hCs⟩ := (hk.out _ hb0).states.2 k _ (List.getElem?_eq_getElem hlt)
                      subst hA
                      have hltz : (k : Int) < (p.states.length : Int) := by omega
                      have m1 := hT.len
                      have m2 := hK.len
                      have m3 := hCs.len
                      have x0 : wb.cell? ⟨b, o + k * 5, none⟩ = some (.string p.states[k].name) := by simpa using hcell 0 _ rfl
                      have x1 : wb.cell? ⟨b, o + k * 5 + 1, none⟩ = some (.slice B1 p.states[k].takes.length d1) := hcell 1 _ rfl
                      have x2 : wb.cell? ⟨b, o + k * 5 + 2, none⟩ = some (.string p.states[k].dest) := hcell 2 _ rfl
                      have x3 : wb.cell? ⟨b, o + k * 5 + 3, none⟩ = some (.slice B2 p.states[k].keys.length d2) := hcell 3 _ rfl
                      have x4 : wb.cell? ⟨b, o + k * 5 + 4, none⟩ = some (.slice B3 p.states[k].cases_.length d3) := hcell 4 _ rfl
                      obtain ⟨ws, hws, hszs, hwS, hcs, -⟩ := box1 wr #[.string p.states[k].name, .slice B1 p.states[k].takes.length d1, .string p.states[k].dest, .slice B2 p.states[k].keys.length d2, .slice B3 p.states[k].cases_.length d3] 52
                      have s0 : ws.cell? ⟨wr.heap.size, 0, none⟩ = some (.string p.states[k].name) := hcs 0
                      have s1 : ws.cell? ⟨wr.heap.size, 1, none⟩ = some (.slice B1 p.states[k].takes.length d1) := hcs 1
                      have s2 : ws.cell? ⟨wr.heap.size, 2, none⟩ = some (.string p.states[k].dest) := hcs 2
                      have s4 : ws.cell? ⟨wr.heap.size, 4, none⟩ = some (.slice B3 p.states[k].cases_.length d3) := hcs 4
                      have hbs := hide (hbr.out.trans (hwS.mono hbr.out.size))
                      have hlw : b < wb.heap.size := by omega
                      have hzr := hbr.out.size
                      obtain ⟨g1, g2, g3, g4, g5⟩ := hO.out.stas k _ (List.getElem?_eq_getElem hlt)
                      have kws := bcell' hbs.out
                      have z1 : wr.heap.size < ws.heap.size := by omega
                      have z2 : w.heap.size < ws.heap.size := by omega
                      have hH1 := qS.out p.states[k].name ws hbs.out
                      rw [g1, g2] at hH1
                      replace g3 := hide g3
                      replace g4 := hide g4
                      replace g5 := hide g5
                      clear hcell hcs hwS
                      go_wp2_with fail
                      refine hH1.mono ?_
                      rintro e w4 ⟨rfl, hb4⟩
                      have kb4 := bcell hb4
                      have hs4 := hide (hbs.out.trans (hb4.mono (by omega)))
                      have kv4 := bcell' hs4.out
                      go_wp2
                      have hb4' := hide hb4
                      have z3 : wb.heap.size ≤ ws.heap.size := by omega
                      obtain ⟨wo, rfl⟩ : ∃ wo : World, wo = wr := ⟨_, rfl⟩
                      clear kb4 kv4 hb4 hs4 hH1 kws g1 g2
                      go_loopw [131] (fun i wx => ∃ j : Nat, j ≤ p.states[k].takes.length ∧ i = .int .i64 j ∧ Hid (Below ws.heap.size ws wx)) (fun i _ => p.states[k].takes.length - (intOf i).toNat)
                      case atStart => exact ⟨0, Nat.zero_le _, rfl, hb4'⟩
                      case round =>
                        clear hb4'
                        obtain ⟨j, hj, rfl, hbx⟩ := hrel
                        have hbv := hide (hbs.out.trans (hbx.out.mono z3))
                        have kx := bcell' hbx.out
                        have kv := bcell' hbv.out
                        by_cases hjt : j < p.states[k].takes.length
                        · obtain ⟨b', o', ecs', hA', hb', hel', hcell', rfl, hq1⟩ := hT.2 j _ (List.getElem?_eq_getElem hjt)
                          subst hA'
                          have hjz : (j : Int) < (p.states[k].takes.length : Int) := by omega
                          have hbb : b' < wb.heap.size := by omega
                          have q0 : wb.cell? ⟨b', o' + j, none⟩ = some (.string p.states[k].takes[j]) := by simpa using hcell' 0 _ rfl
                          have g6 := g3.out _ (List.getElem_mem hjt)
                          have hH2 := hide (qH.out p.states[k].takes[j] wr hbv.out)
                          generalize headerI p p.states[k].takes[j] = hi at g6 hH2
                          clear hcell'
                          go_wp2_with fail
                          refine hH2.out.mono ?_
                          rintro e w5 ⟨rfl, hb5⟩
                          have hs5 := hide (hbx.out.trans (hb5.mono hbx.out.size))
                          go_wp2
                          go_roundw
                          case rel => exact ⟨j + 1, by omega, by go_num, hs5⟩
                          case measure => simp [intOf]; omega
                        · have hzx : ws.heap.size ≤ wr.heap.size := hbx.out.size
                          have hcl16 : p.states[k].cases_.length ≤ 100 := by
                            have := hm.out
                            simp only [mayP, Bool.and_eq_true] at this
                            have := List.all_eq_true.1 this.1.1.1.1.2 _ (List.getElem_mem hlt)
                            simp only [saB, Bool.and_eq_true] at this
                            have h2 := this.2
                            split at h2
                            · simp only [Bool.and_eq_true, decide_eq_true_eq] at h2; omega
                            · simp only [Bool.and_eq_true, List.isEmpty_iff] at h2; rw [h2.2]; decide
                          obtain ⟨gg, cap, wA, hrun, hrow⟩ := append_cases (W := wr) (c := d3) p.states[k].dest (hCs.below sta_ca (hbv.out.mono (by omega))) (by omega) hcl16
                          have hbA := hide (hbx.out.trans (hrow.1.mono hzx))
                          have z4 : wo.heap.size < wr.heap.size := by omega
                          replace hrow := hide hrow
                          clear hT hK hCs g3 m1 m2
                          have m4 : p.states[k].cases_.length ≤ 100 := hcl16
                          go_wp2
                          obtain ⟨wi, rfl⟩ : ∃ wi : World, wi = wr := ⟨_, rfl⟩
                          generalize hL : p.states[k].cases_.length + 1 = L at *
                          have hL2 : L ≤ 101 := by omega
                          clear hrun kx kv hbx hbv hj hjt z3 z4 hzx
                          go_loopw [148] (fun i wx => ∃ q : Nat, q ≤ L ∧ i = .int .i64 q ∧ Hid (Below wA.heap.size wA wx)) (fun i _ => L - (intOf i).toNat)
                          case atStart => exact ⟨0, Nat.zero_le _, rfl, hide (Below.refl _ _)⟩
                          case round =>
                            obtain ⟨q, hq, rfl, hby⟩ := hrel
                            have ky := bcell' hby.out
                            by_cases hqt : q < L
                            · obtain ⟨hr1, hr2, hr3, hr4⟩ := hrow.out
                              have hqz : (q : Int) < (L : Int) := by omega
                              obtain ⟨u0, e0, -, f0, -, -⟩ := hr4 (q * 3) (by omega)
                              obtain ⟨u1, e1, -, -, f1, -⟩ := hr4 (q * 3 + 1) (by omega)
                              obtain ⟨u2, e2, -, -, -, f2⟩ := hr4 (q * 3 + 2) (by omega)
                              obtain ⟨bq, rfl⟩ := f0 (by omega)
                              obtain ⟨Aq, nq, cq, rfl⟩ := f1 (by omega)
                              obtain ⟨sq, rfl, hsq⟩ := f2 (by omega)
                              have hsb : sq ≠ strE → stateB p sq = true := fun hne => by
                                rcases hsq with rfl | ⟨x, hx, rfl⟩
                                · exact g4.out hne
                                · exact g5.out _ hx
                              obtain ⟨wy, hwy, hszy, hwY, hcy, -⟩ := box1 wr #[.bool bq, .slice Aq nq cq, .string sq] 57
                              have v0 : wy.cell? ⟨wr.heap.size, 0, none⟩ = some (.bool bq) := hcy 0
                              have v1 : wy.cell? ⟨wr.heap.size, 1, none⟩ = some (.slice Aq nq cq) := hcy 1
                              have v2 : wy.cell? ⟨wr.heap.size, 2, none⟩ = some (.string sq) := hcy 2
                              have hbAx := hbA.out.trans (hby.out.mono hbA.out.size)
                              have z5 : ws.heap.size ≤ wr.heap.size := hbAx.size
                              have hbY := hide ((hbs.out.trans (hbAx.mono (by omega))).trans (hwY.mono (by omega)))
                              have kyy := bcell' hbY.out
                              have z6 : wr.heap.size < wy.heap.size := by omega
                              have z7 : w.heap.size < wy.heap.size := by omega
                              have hbAy := hide (hby.out.trans (hwY.mono hby.out.size))
                              have hH1 := qS.out sq wy hbY.out
                              generalize stateI p sq = si at hH1
                              generalize stateB p sq = sb at hH1 hsb
                              clear hcy hwY hr1 hr2 hr4 hsq hbAx
                              by_cases hse : sq = strE
                              · have e3 := emp_iff.1 hse
                                clear hsb hse
                                go_wp2_with fail
                                refine hH1.mono ?_
                                rintro e w6 ⟨rfl, hb6⟩
                                have kb6 := bcell hb6
                                have hbA6 := hide (hbAy.out.trans (hb6.mono (hbAy.out.size)))
                                go_wp2
                                go_roundw
                                case rel => exact ⟨q + 1, by omega, by go_num, hbA6⟩
                                case measure => simp [intOf]; omega
                              · obtain rfl := hsb hse
                                have e3 : sq.toList.isEmpty = false := by rw [Bool.eq_false_iff]; exact fun h => hse (emp_iff.2 (List.isEmpty_iff.1 h))
                                clear hsb hse
                                go_wp2_with fail
                                refine hH1.mono ?_
                                rintro e w6 ⟨rfl, hb6⟩
                                have kb6 := bcell hb6
                                have hbA6 := hide (hbAy.out.trans (hb6.mono (hbAy.out.size)))
                                go_wp2
                                go_roundw
                                case rel => exact ⟨q + 1, by omega, by go_num, hbA6⟩
                                case measure => simp [intOf]; omega
                            · have hbE := hide (hbs.out.trans ((hbA.out.trans (hby.out.mono hbA.out.size)).mono (show wb.heap.size ≤ ws.heap.size by have := hbs.out.size; omega)))
                              go_wp2
                              go_roundw
                              case rel => exact ⟨k + 1, by omega, by go_num, hbE⟩
                              case measure => simp [intOf]; omega
                    · go_wp2_with fail
                      refine (qK.out _ hbr.out).mono ?_
                      rintro e w4 ⟨rfl, hb4⟩
                      go_wp2
                      go_ret
                      exact ⟨rfl, hBk.out _ hb4⟩
    · obtain ⟨g1, g2⟩ := hbad.out hc
      replace g2 := hide g2
      clear hok hbad
      go_wp2_with fail
      refine (qI.out _ hb2).mono ?_
      rintro e w3 ⟨⟨z, rfl, hz⟩, hb3⟩
      have g3 := g2.out z hz
      clear g2 hz
      go_wp2_with fail
      refine (qK.out _ hb3).mono ?_
      rintro e w4 ⟨rfl, hb4⟩
      go_wp2
      go_ret
      exact ⟨rfl, hBk.out _ hb4⟩
end Go.Proofs.YtcgmkjpgaigmfaaGreat

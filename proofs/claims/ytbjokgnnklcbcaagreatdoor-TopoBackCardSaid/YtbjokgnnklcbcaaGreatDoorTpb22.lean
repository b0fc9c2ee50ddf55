import Derived.Test.YtbjokgnnklcbcaaGreatDoorTpb21
import Derived.Test.YtbjokgnnklcbcaaGreatDoorTpb03
set_option linter.all false
namespace Go.Proofs.YtbjokgnnklcbcaaGreatDoor
open Go.RowKit
theorem endsOf_at : ∀ {l : List ((Int × Int) × (Int × Int))} {k : Nat} (hk : k < l.length), (endsOf l).getD (2 * k + 0) (0, 0) = l[k].1 ∧ (endsOf l).getD (2 * k + 1) (0, 0) = l[k].2
 | [], k, hk => absurd hk (by simp)
 | x :: l, 0, _ => by simp [endsOf]
 | x :: l, k + 1, hk => by
  have ih := endsOf_at (l := l) (k := k) (by simpa using hk)
  have e : endsOf (x :: l) = x.1 :: x.2 :: endsOf l := rfl
  rw [e, show 2 * (k + 1) + 0 = (2 * k + 0) + 1 + 1 by omega, show 2 * (k + 1) + 1 = (2 * k + 1) + 1 + 1 by omega]
  exact ih
theorem sw_no {n : Net} {k : Nat} (hk : k < n.sw.length) : (findI n.sw n.sw[k] < (k : Int)) ↔ n.sw[k] ∈ n.sw.take k := by
 have h1 := findI_self hk
 have h2 := findI_le hk
 constructor
 ·intro h; by_cases hm : n.sw[k] ∈ n.sw.take k
  ·exact hm
  ·have := h1.2 hm; omega
 ·intro h; have : ¬ findI n.sw n.sw[k] = k := fun e => (h1.1 e) h
  omega
set_option maxHeartbeats 2000000 in
set_option maxRecDepth 100000 in
theorem tmay_any (n : Net) (A1 A2 A3 : Option Addr) (c1 c2 c3 : Nat) (m : Int) (w : World) (h : NetS w w.heap.size A1 A2 A3 n) (hm : w.cell? ⟨0, 0, none⟩ = some (.int .i64 m)) :
  Calls Tryz.prog 10 #[netV n A1 A2 A3 c1 c2 c3] w fun e w' => e = .returned (.bool (mayB n)) ∧ Below w.heap.size w w' := by
 have l1 := h.1.len
 have l2 := h.2.1.len
 have l3 := h.2.2.len
 have h00 : 0 < w.heap.size := World.block_lt_of_cell? w _ hm
 obtain ⟨wb, hwb, hsz, hw, hcb, -⟩ := box1 w #[.slice A1 n.sw.length c1, .slice A2 n.ports.length c2, .slice A3 n.links.length c3] 27
 have hS := hide (h.below hw)
 replace hm := hide ((hw.cell (p := ⟨0, 0, none⟩) h00).trans hm)
 clear h
 replace hw := hide hw
 have hmm := @run_makeMap Tryz.prog
 go_enter Tryz.func10, Tryz.ntmps10
 by_cases hn : n.sw.length ≤ 8 ∧ n.ports.length = n.sw.length
 ·have hN := hide hn
  obtain ⟨hn1, hn2⟩ := hn
  have hn3 : ((n.ports.length : Int) != n.sw.length) = false := by simp [hn2]
  clear hn2
  go_wp2
  go_loopw [26] (fun i wr => ∃ k : Nat, k ≤ n.sw.length ∧ i = .int .i64 k ∧ Hid (∀ i, i < k → swOk n i) ∧ Hid (Below (w.heap.size + 1) wb wr) ∧ w.heap.size + 1 ≤ wr.heap.size) (fun i _ => n.sw.length - (intOf i).toNat)
  case atStart => exact ⟨0, Nat.zero_le _, rfl, hide (fun i hi => by omega), hide (Below.refl _ _), by omega⟩
  case round =>
   obtain ⟨k, hk, rfl, hok, hbr, hzr⟩ := hrel
   have hc := bcell' hbr.out
   by_cases hlt : k < n.sw.length
   ·obtain ⟨x, o, hA, hx, hcell, hzs⟩ := hS.out.1.str hlt
    have hlt2 : k < n.ports.length := by have := hN.out.2; omega
    obtain ⟨y, u, P, pc, hA2, hy, hcell2, hp⟩ := hS.out.2.1.ints hlt2
    subst hA hA2
    have hsw : n.sw.getD k ByteArray.empty = n.sw[k] := by simp [List.getD_eq_getElem?_getD, hlt]
    have hpt : n.ports.getD k [] = n.ports[k] := by simp [List.getD_eq_getElem?_getD, hlt2]
    replace hsw := hide hsw
    replace hpt := hide hpt
    have hmr := (hbr.out.cell (p := ⟨0, 0, none⟩) (show 0 < w.heap.size + 1 by omega)).trans hm.out
    have hSr := hide ((hS.out.below (hbr.out.mono (Nat.le_succ _))).more (show w.heap.size ≤ wr.heap.size by omega))
    cases hnm : nameB n.sw[k] with
    | false =>
     have hv := hide (mayB_sw hlt (fun g => by have := g.1; rw [hsw.out, hnm] at this; cases this))
     go_wp2_with (go_at_call 29; refine (isName_any _ m _ hzs hmr).mono ?_; rintro e w' ⟨rfl, rfl⟩)
     go_ret
     exact ⟨ret_b hv.out.symm, hw.out.trans (hbr.out.mono (Nat.le_succ _))⟩
    | true =>
     by_cases hf : n.sw[k] ∈ n.sw.take k
     ·have hv := hide (mayB_sw hlt (fun g => by have := g.2.1; rw [hsw.out] at this; exact this hf))
      have hfb : findI n.sw n.sw[k] < (k : Int) := (sw_no hlt).2 hf
      clear hf
      go_wp2_with (first | (go_at_call 29; refine (isName_any _ m _ hzs hmr).mono ?_; rintro e w' ⟨rfl, rfl⟩) | (go_at_call 30; refine (tfind_any n _ _ _ _ _ _ _ _ hSr.out).mono ?_; rintro e w1 ⟨rfl, hb1⟩))
      go_ret
      exact ⟨ret_b hv.out.symm, hw.out.trans ((hbr.out.mono (Nat.le_succ _)).trans (hb1.mono (by omega)))⟩
     ·have hfb : ¬ findI n.sw n.sw[k] < (k : Int) := fun g => hf ((sw_no hlt).1 g)
      have hf' := hide hf
      clear hf
      cases hmp : mayPortsB n.ports[k] with
      | false =>
       have hv := hide (mayB_sw hlt (fun g => by have := g.2.2; rw [hpt.out, hmp] at this; cases this))
       go_wp2_with (first | (go_at_call 29; refine (isName_any _ m _ hzs hmr).mono ?_; rintro e w' ⟨rfl, rfl⟩) | (go_at_call 30; refine (tfind_any n _ _ _ _ _ _ _ _ hSr.out).mono ?_; rintro e w1 ⟨rfl, hb1⟩; have hc1 := bcell' (hbr.out.trans (hb1.mono hzr))) | (go_at_call 31; refine (mayPorts_any _ _ _ _ ((hp.below sta_int ((hbr.out.trans (hb1.mono hzr)).mono (Nat.le_succ _))).more sta_int (by have := hb1.size; omega))).mono ?_; rintro e w' ⟨rfl, rfl⟩))
       go_ret
       exact ⟨ret_b hv.out.symm, hw.out.trans ((hbr.out.mono (Nat.le_succ _)).trans (hb1.mono (by omega)))⟩
      | true =>
       have hv := hide (upto_succ hok.out (show swOk n k from ⟨by rw [hsw.out]; exact hnm, by rw [hsw.out]; exact hf'.out, by rw [hpt.out]; exact hmp⟩))
       go_wp2_with (first | (go_at_call 29; refine (isName_any _ m _ hzs hmr).mono ?_; rintro e w' ⟨rfl, rfl⟩) | (go_at_call 30; refine (tfind_any n _ _ _ _ _ _ _ _ hSr.out).mono ?_; rintro e w1 ⟨rfl, hb1⟩; have hc1 := bcell' (hbr.out.trans (hb1.mono hzr))) | (go_at_call 31; refine (mayPorts_any _ _ _ _ ((hp.below sta_int ((hbr.out.trans (hb1.mono hzr)).mono (Nat.le_succ _))).more sta_int (by have := hb1.size; omega))).mono ?_; rintro e w' ⟨rfl, rfl⟩))
       go_roundw
       case rel => exact ⟨k + 1, by omega, by go_num, hv, hide (hbr.out.trans (hb1.mono hzr)), by have := hb1.size; omega⟩
       case measure => simp [intOf]; omega
   ·replace hok := hide (show ∀ i, i < n.sw.length → swOk n i from fun i hi => hok.out i (by omega))
    have hzr' : w.heap.size < wr.heap.size := by omega
    go_wp2
    generalize hbm : wr.heap.size = bm at hzr hzr'
    have hmap0 : MapS (wr.alloc (.map #[] 0)) bm [] := by rw [← hbm]; exact heap_alloc_new wr _
    have hbr1 := hide (hbr.out.alloc (o := .map #[] 0) (by omega))
    have hz1 : bm < (wr.alloc (.map #[] 0)).heap.size := by simp; omega
    generalize wr.alloc (.map #[] 0) = w2 at hmap0 hbr1 hz1 ⊢
    go_loopw [55] (fun i wr => ∃ k : Nat, k ≤ n.links.length ∧ i = .int .i64 k ∧ Hid (∀ i, i < 2 * k → endOk n (endsOf n.links) i) ∧ Hid (MapS wr bm (((endsOf n.links).take (2 * k)).map fun e => (e, 1))) ∧ Hid (Below (w.heap.size + 1) wb wr) ∧ bm < wr.heap.size) (fun i _ => n.links.length - (intOf i).toNat)
    case atStart => exact ⟨0, Nat.zero_le _, rfl, hide (fun i hi => by omega), hide (by simpa using hmap0), hbr1, hz1⟩
    case round =>
     clear hc hlt hk hbr
     obtain ⟨k, hk, rfl, hoe, hmap, hbr, hzb⟩ := hrel
     have hc := bcell' hbr.out
     by_cases hlt : k < n.links.length
     ·obtain ⟨x, o, hA, hx, x1, x2, x3, x4⟩ := hS.out.2.2.link hlt
      subst hA
      have hlti : (k : Int) < (n.links.length : Int) := by omega
      have hxr : x < wr.heap.size := by omega
      go_wp2
      refine wp_gen (X := fun w' => MapS w' bm (((endsOf n.links).take (2 * k)).map fun e => (e, 1)) ∧ Below (w.heap.size + 1) wb w' ∧ bm < w'.heap.size) ⟨?_, ?_, ?_⟩ ?_
      ·exact hmap.out.alloc _
      ·exact hbr.out.alloc (by omega) _
      ·simp; omega
      ·rintro w3 ⟨hmap3, hbr3, hz3⟩
       replace hmap3 := hide hmap3
       replace hbr3 := hide hbr3
       have hidx : ∀ j, j < 2 → ∀ w, (Instr.index 75 (.agg #[.int .i64 n.links[k].1.1, .int .i64 n.links[k].1.2, .int .i64 n.links[k].2.1, .int .i64 n.links[k].2.2]) (.int .i64 (j : Nat))).run Tryz.prog w = .ok (.agg #[.int .i64 ((endsOf n.links).getD (2 * k + j) (0, 0)).1, .int .i64 ((endsOf n.links).getD (2 * k + j) (0, 0)).2]) w := by
        intro j hj w
        rcases (show j = 0 ∨ j = 1 by omega) with rfl | rfl
        ·rw [(endsOf_at hlt).1]; kernel_rfl
        ·rw [(endsOf_at hlt).2]; kernel_rfl
       replace hidx := hide hidx
       have hle : 2 * k + 2 ≤ (endsOf n.links).length := by rw [endsOf_len]; omega
       generalize hes : endsOf n.links = es at hoe hmap3 hidx hle
       replace hes := hide hes
       clear hc hmap hbr hzb hxr x1 x2 x3 x4 hmap0 hbr1 hz1
       go_loopw [64] (fun i wr => ∃ j : Nat, j ≤ 2 ∧ i = .int .i64 j ∧ Hid (∀ i, i < 2 * k + j → endOk n es i) ∧ Hid (MapS wr bm ((es.take (2 * k + j)).map fun e => (e, 1))) ∧ Hid (Below (w.heap.size + 1) wb wr) ∧ bm < wr.heap.size) (fun i _ => 2 - (intOf i).toNat)
       case atStart => exact ⟨0, Nat.zero_le _, rfl, hoe, hmap3, hbr3, hz3⟩
       case round =>
        clear hmap3 hbr3 hz3 hoe
        obtain ⟨j, hj, rfl, hoe, hmap, hbr, hzb⟩ := hrel
        by_cases hj2 : j < 2
        ·have hix := hidx.out j hj2
         have hjl : 2 * k + j < es.length := by omega
         have hej : es.getD (2 * k + j) (0, 0) = es[2 * k + j] := by simp [List.getD_eq_getElem?_getD, hjl]
         rw [hej] at hix
         replace hej := hide hej
         go_wp2_with fail
         have hjm : es[2 * k + j] = ((es[2 * k + j]).1, (es[2 * k + j]).2) := rfl
         generalize hea : (es[2 * k + j]).1 = ea at hjm ⊢
         generalize heb : (es[2 * k + j]).2 = eb at hjm ⊢
         replace hjm := hide hjm
         clear hea heb hix
         generalize hM : (es.take (2 * k + j)).map (fun e => (e, (1 : Int))) = M at hmap
         replace hM := hide hM
         generalize hbx : wr.heap.size = bx at hzb ⊢
         refine wp_gen (X := fun w' => MapS w' bm M ∧ Below (w.heap.size + 1) wb w' ∧ bx < w'.heap.size ∧ w'.cell? ⟨bx, 0, none⟩ = some (.int .i64 ea) ∧ w'.cell? ⟨bx, 1, none⟩ = some (.int .i64 eb)) ⟨hmap.out.alloc _, hbr.out.alloc (by omega) _, by simp; omega, by rw [← hbx, World.cell?_alloc_at _ _ _ _ rfl]; rfl, by rw [← hbx, World.cell?_alloc_at _ _ _ _ rfl]; rfl⟩ ?_
         rintro w4 ⟨hmap4, hbr4, hz4, k1, k2⟩
         replace hbr4 := hide hbr4
         replace hmap4 := hide hmap4
         clear hmap hbr hbx
         by_cases hin : (ea, eb) ∈ es.take (2 * k + j)
         ·obtain ⟨ix, hl⟩ : ∃ i, lookM M (ea, eb) = some (i, 1) := by rw [← hM.out]; exact lookM_some hin
          have F1 := run_lookup_end hmap4.out.drew (ea, eb)
          have F2 := run_entry_old hmap4.out.drew hl
          obtain ⟨p1, hp1⟩ : ∃ p, putM w4.drew bm M = p := ⟨_, rfl⟩
          have P1 : MapS p1 bm M := by rw [← hp1]; exact mapS_put hmap4.out.drew
          have B1 : Below (w.heap.size + 1) wb p1 := by rw [← hp1]; exact below_put hbr4.out.drew hzr
          have C1 : ∀ a, p1.cell? a = w4.cell? a := fun a => by rw [← hp1]; exact put_cell hmap4.out.drew a
          rw [hp1] at F2
          have F3 := run_lookup_end P1 (ea, eb)
          have F4 := run_entryStore P1 (lookM_at hl) 2
          obtain ⟨p2, hp2⟩ : ∃ p, putM p1 bm (M.set ix ((ea, eb), 2)) = p := ⟨_, rfl⟩
          have P2 : MapS p2 bm (M.set ix ((ea, eb), 2)) := by rw [← hp2]; exact mapS_put P1
          have B2 : Below (w.heap.size + 1) wb p2 := by rw [← hp2]; exact below_put B1 hzr
          have C2 : ∀ a, p2.cell? a = w4.cell? a := fun a => by rw [← hp2, put_cell P1]; exact C1 a
          have F5 := run_lookup_end P2 (ea, eb)
          rw [lookM_set hl 2] at F5
          simp only [] at F4
          rw [hp2] at F4
          rw [hl] at F1 F3
          replace P2 := hide P2
          replace B2 := hide B2
          simp only [Option.map_none, Option.map_some, Option.getD_none, Option.getD_some, endV] at F1 F2 F3 F4 F5
          clear P1 B1 hp1 hp2 hl
          have C1a := (C1 ⟨bx, 0, none⟩).trans k1
          have C1b := (C1 ⟨bx, 1, none⟩).trans k2
          clear C1
          have hv := hide (mayB_end (n := n) (k := 2 * k + j) (by rw [hes.out]; exact hjl) (by rw [hes.out]; exact fun g => g.2 (by rw [hej.out, hjm.out]; exact hin)))
          clear hin
          go_region
          go_wp2
          go_ret
          exact ⟨ret_b hv.out.symm, hw.out.trans (B2.out.mono (Nat.le_succ _))⟩
         ·have hl : lookM M (ea, eb) = none := by rw [← hM.out]; exact lookM_none hin
          have F1 := run_lookup_end hmap4.out.drew (ea, eb)
          have F2 := run_entry_new hmap4.out.drew hl
          obtain ⟨p1, hp1⟩ : ∃ p, putM w4.drew bm (M ++ [((ea, eb), 0)]) = p := ⟨_, rfl⟩
          have P1 : MapS p1 bm (M ++ [((ea, eb), 0)]) := by rw [← hp1]; exact mapS_put hmap4.out.drew
          have B1 : Below (w.heap.size + 1) wb p1 := by rw [← hp1]; exact below_put hbr4.out.drew hzr
          have C1 : ∀ a, p1.cell? a = w4.cell? a := fun a => by rw [← hp1]; exact put_cell hmap4.out.drew a
          rw [hp1] at F2
          have hl1 := lookM_app hl 0
          have F3 := run_lookup_end P1 (ea, eb)
          have F4 := run_entryStore P1 (lookM_at hl1) 1
          obtain ⟨p2, hp2⟩ : ∃ p, putM p1 bm ((M ++ [((ea, eb), 0)]).set M.length ((ea, eb), 1)) = p := ⟨_, rfl⟩
          have P2 : MapS p2 bm (M ++ [((ea, eb), 1)]) := by rw [← hp2]; have := mapS_put (M' := (M ++ [((ea, eb), (0 : Int))]).set M.length ((ea, eb), 1)) P1; simpa using this
          have B2 : Below (w.heap.size + 1) wb p2 := by rw [← hp2]; exact below_put B1 hzr
          have C2 : ∀ a, p2.cell? a = w4.cell? a := fun a => by rw [← hp2, put_cell P1]; exact C1 a
          have Z2 : bx < p2.heap.size := by rw [← hp2, ← hp1]; simpa [putM] using hz4
          have F5 := run_lookup_end P2 (ea, eb)
          rw [lookM_app hl 1] at F5
          simp only [] at F4
          rw [hp2] at F4
          rw [hl] at F1
          rw [hl1] at F3
          generalize M.length = ml at F2 F4
          replace P2 := hide P2
          replace B2 := hide B2
          simp only [Option.map_none, Option.map_some, Option.getD_none, Option.getD_some, endV] at F1 F2 F3 F4 F5
          clear P1 B1 hp1 hp2 hl hl1
          have C1a := (C1 ⟨bx, 0, none⟩).trans k1
          have C1b := (C1 ⟨bx, 1, none⟩).trans k2
          clear C1
          have hc4 := bcell' hbr4.out
          have hSr := hide ((hS.out.below (B2.out.mono (Nat.le_succ _))).more (show w.heap.size ≤ p2.heap.size by omega))
          go_region
          cases hth : thereB n (ea, eb) with
          | false =>
           have hv := hide (mayB_end (n := n) (k := 2 * k + j) (by rw [hes.out]; exact hjl) (by rw [hes.out]; exact fun g => by have := g.1; rw [hej.out, hjm.out, hth] at this; cases this))
           go_wp2_with (go_at_call 32; refine (tthere_any n _ _ _ _ _ _ _ _ _ hSr.out).mono ?_; rintro e w5 ⟨rfl, hb5⟩)
           go_ret
           exact ⟨ret_b hv.out.symm, hw.out.trans ((B2.out.mono (Nat.le_succ _)).trans (hb5.mono (by omega)))⟩
          | true =>
           have hv := hide (upto_succ hoe.out (show endOk n es (2 * k + j) from ⟨by rw [hej.out, hjm.out]; exact hth, by rw [hej.out, hjm.out]; exact hin⟩))
           have hM2 : M ++ [((ea, eb), (1 : Int))] = (es.take (2 * k + (j + 1))).map fun e => (e, (1 : Int)) := by
            rw [← hM.out, show 2 * k + (j + 1) = (2 * k + j) + 1 by omega, List.take_succ_eq_append_getElem hjl, List.map_append, hjm.out]; rfl
           rw [hM2] at P2
           replace hM2 := hide hM2
           go_wp2_with (go_at_call 32; refine (tthere_any n _ _ _ _ _ _ _ _ _ hSr.out).mono ?_; rintro e w5 ⟨rfl, hb5⟩)
           go_roundw
           case rel => exact ⟨j + 1, by omega, by go_num, hv, hide (P2.out.below hb5 (by omega)), hide (B2.out.trans (hb5.mono (by omega))), by have := hb5.size; omega⟩
           case measure => simp [intOf]; omega
        ·replace hj2 : j = 2 := by omega
         subst hj2
         go_wp2
         go_roundw
         case rel => exact ⟨k + 1, by omega, by go_num, hes.out ▸ hoe, hes.out ▸ hmap, hbr, hzb⟩
         case measure => simp [intOf]; omega
     ·replace hoe := hide (show ∀ i, i < (endsOf n.links).length → endOk n (endsOf n.links) i from fun i hi => hoe.out i (by rw [endsOf_len] at hi; omega))
      have hv := hide (mayB_yes hN.out hok.out hoe.out)
      go_wp2
      go_ret
      exact ⟨ret_b hv.out.symm, hw.out.trans (hbr.out.mono (Nat.le_succ _))⟩
 ·have hv := hide (mayB_size hn)
  by_cases hn1 : n.sw.length ≤ 8
  ·have hn3 : ((n.ports.length : Int) != n.sw.length) = true := by simp; omega
   go_wp2
   go_ret
   exact ⟨ret_b hv.out.symm, hw.out⟩
  ·go_wp2
   go_ret
   exact ⟨ret_b hv.out.symm, hw.out⟩
end Go.Proofs.YtbjokgnnklcbcaaGreatDoor
/-! Links down: what the two texts compute, as plain lists. -/
namespace Go.Proofs.YtbjokgnnklcbcaaGreatDoor
def stays (n m : Net) (i : Nat) (p : Int) : Bool := (nextB n (i, p)).2.2 == (nextB m (i, p)).2.2
end Go.Proofs.YtbjokgnnklcbcaaGreatDoor
namespace Go.Proofs.YtbjokgnnklcbcaaGreatDoor
open Go.RowKit
/-- Block g is just these cells. -/
def Bk (w : World) (g : Nat) (t : TypeId) (cs : Array Value) : Prop := w.heap[g]? = some (.cells cs t (0, 0))
section
variable {w w' : World} {g : Nat} {t : TypeId} {cs : Array Value}
theorem Bk.lt (h : Bk w g t cs) : g < w.heap.size := by
 rcases Nat.lt_or_ge g w.heap.size with h1 | h1
 ·exact h1
 ·unfold Bk at h; rw [Array.getElem?_eq_none h1] at h; cases h
theorem Bk.cell (h : Bk w g t cs) (i : Nat) : w.cell? ⟨g, i, none⟩ = cs[i]? := cell_of_row w g i cs t (0, 0) h
theorem Bk.frozen (h : Bk w g t cs) (i : Nat) : w.frozen? ⟨g, i, none⟩ = false := by unfold Bk at h; simp [World.frozen?, h]
theorem Bk.new (w : World) (t : TypeId) (cs : Array Value) : Bk (w.alloc (.cells cs t)) w.heap.size t cs := heap_alloc_new w _
theorem Bk.alloc (h : Bk w g t cs) (o : Obj) : Bk (w.alloc o) g t cs := (Below.heap_alloc w o g h.lt).trans h
theorem Bk.drewN (h : Bk w g t cs) (n : Nat) : Bk (w.drewN n) g t cs := h
theorem Bk.drew (h : Bk w g t cs) : Bk w.drew g t cs := h
theorem Bk.below {B : Nat} (h : Bk w g t cs) (hb : Below B w w') (hg : g < B) : Bk w' g t cs := (hb.block g hg).trans h
theorem Bk.grown {row : Option Nat} (h : Bk w g t cs) (hb : w.grownBy w' row) (hg : some g ≠ row) : Bk w' g t cs := (hb.block g h.lt hg).trans h
theorem Bk.far (h : Bk w g t cs) {p : Addr} (hp : g ≠ p.block) (u : Value) : Bk (w.setCell p u) g t cs := (Below.heap_setCell w p u g hp).trans h
theorem Bk.ne_own {base : Nat} {e : TypeId} {size n : Nat} {v : Value} {xs : List Value} (h : Bk w g t cs) (ho : w.ownsRow base e size v n xs) (hne : e ≠ t) : v.ownBlock ≠ some g := by
 rcases ho.2 with ⟨rfl, _⟩ | ⟨g', cap, cur, rfl, _, hh, _⟩
 ·simp [Value.ownBlock]
 ·intro he
  have : g' = g := by simpa [Value.ownBlock] using he
  subst this
  unfold Bk at h
  rw [h] at hh
  injection hh with hh
  injection hh with _ ht
  exact hne ht.symm
end
theorem own_ne_own {w : World} {base base' : Nat} {e e' : TypeId} {size size' n n' : Nat} {v v' : Value} {xs xs' : List Value} (h : w.ownsRow base e size v n xs) (h' : w.ownsRow base' e' size' v' n' xs') (hne : e ≠ e') :
  v'.ownBlock = none ∨ v'.ownBlock ≠ v.ownBlock := by
 rcases h'.2 with ⟨rfl, _⟩ | ⟨g', cap, cur, rfl, _, hh, _⟩
 ·exact .inl rfl
 ·right
  intro e
  exact Bk.ne_own (g := g') (t := e') (cs := cur) hh h hne (by rw [← e]; rfl)
theorem own_setCell {w : World} {base : Nat} {e : TypeId} {size : Nat} {v : Value} {n : Nat} {xs : List Value} (h : w.ownsRow base e size v n xs) {p : Addr} (hp : v.ownBlock ≠ some p.block) (u : Value) : (w.setCell p u).ownsRow base e size v n xs := by
 refine ⟨h.1, ?_⟩
 rcases h.2 with h2 | ⟨g, cap, cur, rfl, hg, hh, r⟩
 ·exact .inl h2
 ·refine .inr ⟨g, cap, cur, rfl, hg, ?_, r⟩
  rw [Below.heap_setCell _ _ _ _ (fun e => hp (by rw [← e]; rfl))]; exact hh
theorem own_below {w w' : World} {base B : Nat} {e : TypeId} {size : Nat} {v : Value} {n : Nat} {xs : List Value} (h : w.ownsRow base e size v n xs) (hb : Below B w w') (hB : w.heap.size ≤ B) : w'.ownsRow base e size v n xs := by
 refine ⟨h.1, ?_⟩
 rcases h.2 with h2 | ⟨g, cap, cur, rfl, hg, hh, r⟩
 ·exact .inl h2
 ·have := (h.lt g rfl).2
  exact .inr ⟨g, cap, cur, rfl, hg, (hb.block g (by omega)).trans hh, r⟩
/-- What 'out' holds: names, rows of ports, links. -/
structure OutS (w : World) (base bo : Nat) (v0 v1 v2 : Value) (sw : List ByteArray) (ps : List (List Int)) (ls : List ((Int × Int) × (Int × Int))) : Prop where
 box : Bk w bo 27 #[v0, v1, v2]
 own0 : w.ownsRow base 9 1 v0 sw.length (sw.map Value.string)
 own2 : w.ownsRow base 72 4 v2 ls.length (ls.flatMap fun x => [.int .i64 x.1.1, .int .i64 x.1.2, .int .i64 x.2.1, .int .i64 x.2.2])
 own1 : ∃ vs : List Value, vs.length = ps.length ∧ w.ownsRow base 39 1 v1 ps.length vs ∧ ∀ (i : Nat) (v : Value) (p : List Int), vs[i]? = some v → ps[i]? = some p → w.ownsRow base 3 1 v p.length (p.map (Value.int .i64))
theorem OutS.below {w w' : World} {base bo B : Nat} {v0 v1 v2 : Value} {sw : List ByteArray} {ps : List (List Int)} {ls : List ((Int × Int) × (Int × Int))} (h : OutS w base bo v0 v1 v2 sw ps ls) (hb : Below B w w') (hB : w.heap.size ≤ B) : OutS w' base bo v0 v1 v2 sw ps ls :=
 ⟨h.box.below hb (by have := h.box.lt; omega), own_below h.own0 hb hB, own_below h.own2 hb hB, by
  obtain ⟨vs, h1, h2, h3⟩ := h.own1
  exact ⟨vs, h1, own_below h2 hb hB, fun i v p hv hp => own_below (h3 i v p hv hp) hb hB⟩⟩
theorem OutS.far {w : World} {base bo bo' i : Nat} {v0 v1 v2 u : Value} {sw : List ByteArray} {ps : List (List Int)} {ls : List ((Int × Int) × (Int × Int))} (h : OutS w base bo v0 v1 v2 sw ps ls) (h1 : bo' < base) (h2 : bo ≠ bo') :
  OutS (w.setCell ⟨bo', i, none⟩ u) base bo v0 v1 v2 sw ps ls :=
 ⟨h.box.far h2 u, own_setCell h.own0 (own_ne h.own0 h1) u, own_setCell h.own2 (own_ne h.own2 h1) u, by
  obtain ⟨vs, a, b, c⟩ := h.own1
  exact ⟨vs, a, own_setCell b (own_ne b h1) u, fun i v p hv hp => own_setCell (c i v p hv hp) (own_ne (c i v p hv hp) h1) u⟩⟩
theorem own_rows {w : World} {base : Nat} {e e' : TypeId} {v : Value} {ps : List (List Int)} {vs : List Value} (h1 : vs.length = ps.length) (h2 : w.ownsRow base e 1 v ps.length vs)
  (h3 : ∀ (i : Nat) (u : Value) (p : List Int), vs[i]? = some u → ps[i]? = some p → w.ownsRow base e' 1 u p.length (p.map (Value.int .i64))) : ∃ A cap, v = .slice A ps.length cap ∧ Sl 1 (rSl 1 rInt) w w.heap.size A ps := by
 have key : ∀ i p, ps[i]? = some p → ∃ A cap, vs[i]? = some (Value.slice A p.length cap) ∧ Sl 1 rInt w w.heap.size A p := fun i p hp => by
  have hi : i < vs.length := by have := (List.getElem?_eq_some_iff.1 hp).1; omega
  have h4 := h3 i vs[i] p (List.getElem?_eq_getElem hi) hp
  have h5 : w.ownsRow base e' 1 vs[i] p.length (p.flatMap fun x => [Value.int .i64 x]) := by rw [← List.map_eq_flatMap]; exact h4
  obtain ⟨A, cap, hv, hs⟩ := own_sl (w := w) (R := rInt) (k := 1) (f := fun x => [Value.int .i64 x]) (xs := p) (fun _ => rfl) (fun _ _ => rfl) h5
  exact ⟨A, cap, by rw [List.getElem?_eq_getElem hi, hv], hs⟩
 rcases h2.2 with ⟨rfl, hz⟩ | ⟨g, cap, cur, rfl, hb, hg, hl, hm, -⟩
 ·have hz' : ps = [] := List.eq_nil_of_length_eq_zero hz
  subst hz'
  exact ⟨none, 0, rfl, Sl.nil_⟩
 ·refine ⟨some ⟨g, 0, none⟩, cap, rfl, by omega, fun i p hp => ?_⟩
  obtain ⟨A, c, hv, hs⟩ := key i p hp
  refine ⟨g, 0, [.slice A p.length c], rfl, (h2.lt g rfl).2, rfl, fun j u hu => ?_, A, c, rfl, hs⟩
  cases j with
  | succ j => simp at hu
  | zero =>
   simp at hu; subst hu
   have := h2.cells (g := g) rfl i _ hv
   have e : (⟨g, 0, none⟩ : Addr).add i = ⟨g, 0 + i * 1 + 0, none⟩ := by unfold Addr.add; split <;> simp_all
   rw [← e]; exact this
theorem OutS.netS {w : World} {base bo : Nat} {v0 v1 v2 : Value} {sw : List ByteArray} {ps : List (List Int)} {ls : List ((Int × Int) × (Int × Int))} (h : OutS w base bo v0 v1 v2 sw ps ls) (hs : ∀ s ∈ sw, s.size ≤ maxLen) :
  ∃ A1 A2 A3 c1 c2 c3, Value.agg #[v0, v1, v2] = netV ⟨sw, ps, ls⟩ A1 A2 A3 c1 c2 c3 ∧ NetS w w.heap.size A1 A2 A3 ⟨sw, ps, ls⟩ := by
 have h5 : w.ownsRow base 9 1 v0 sw.length (sw.flatMap fun x => [Value.string x]) := by rw [← List.map_eq_flatMap]; exact h.own0
 obtain ⟨A1, c1, e1, s1⟩ := own_sl (R := rStr) (k := 1) (f := fun x => [Value.string x]) (xs := sw) (fun _ => rfl) (fun x hx => ⟨rfl, hs x hx⟩) h5
 obtain ⟨A3, c3, e3, s3⟩ := own_sl (R := rLink) (k := 4) (f := fun x => [.int .i64 x.1.1, .int .i64 x.1.2, .int .i64 x.2.1, .int .i64 x.2.2]) (xs := ls) (fun _ => rfl) (fun _ _ => rfl) h.own2
 obtain ⟨vs, h1, h2, h3⟩ := h.own1
 obtain ⟨A2, c2, e2, s2⟩ := own_rows h1 h2 h3
 exact ⟨A1, A2, A3, c1, c2, c3, by rw [e1, e2, e3], s1, s2, s3⟩
end Go.Proofs.YtbjokgnnklcbcaaGreatDoor

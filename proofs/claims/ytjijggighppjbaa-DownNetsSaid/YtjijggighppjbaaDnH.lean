import Derived.Test.YtjijggighppjbaaDnG
import Derived.Deep.RegionHeld3
namespace Go.Proofs.Ytjijggighppjbaa
open Go.RowKit
theorem own_ne {w : World} {base : Nat} {e : TypeId} {size : Nat} {v : Value} {n : Nat} {xs : List Value} (h : w.ownsRow base e size v n xs) {g : Nat} (hg : g < base) : v.ownBlock ≠ some g := by
  intro e
  have := (h.lt g e).1
  omega
theorem end_info : (Try.prog.info? 38).map (fun i => (i.zero, i.size, i.bytes)) = some (some (.agg #[.int .i64 0, .int .i64 0]), 2, 16) := by kernel_rfl
set_option maxHeartbeats 2000000 in
set_option maxRecDepth 100000 in
theorem may13_any (n : Net) (A1 A2 A3 : Option Addr) (c1 c2 c3 : Nat) (w : World) (h : NetS w w.heap.size A1 A2 A3 n) (hL : n.links.length ≤ 1000) :
    Calls Try.prog 9 #[netV n A1 A2 A3 c1 c2 c3] w fun e w' => e = .returned (.bool (mayB n)) ∧ Below w.heap.size w w' := by
  obtain ⟨i0, hi0, hz0, hz1, hz2⟩ := info_parts end_info
  have l1 := h.1.len
  have l2 := h.2.1.len
  have l3 := h.2.2.len
  obtain ⟨wb, hwb, hsz, hw, hcb, -⟩ := box1 w #[.slice A1 n.sw.length c1, .slice A2 n.ports.length c2, .slice A3 n.links.length c3] 26
  have hS := hide (h.below hw)
  clear h
  replace hw := hide hw
  go_enter Try.func9, Try.ntmps9
  by_cases hn : n.sw.length ≤ 8 ∧ n.ports.length = n.sw.length
  · have hN := hide hn
    obtain ⟨hn1, hn2⟩ := hn
    have hn3 : ((n.ports.length : Int) != n.sw.length) = false := by simp [hn2]
    clear hn2
    go_wp2
    go_loopw [3, 4, 5] (fun i _ _ wr => ∃ k : Nat, k ≤ n.sw.length ∧ i = .int .i64 k ∧ Hid (∀ i, i < k → swOk n i) ∧ Hid (Below (w.heap.size + 1) wb wr) ∧ w.heap.size + 1 ≤ wr.heap.size) (fun i _ _ _ => n.sw.length - (intOf i).toNat)
    case atStart => exact ⟨0, Nat.zero_le _, rfl, hide (fun i hi => by omega), hide (Below.refl _ _), by omega⟩
    case round =>
      obtain ⟨k, hk, rfl, hok, hbr, hzr⟩ := hrel
      have hg := gcell' hbr.out hzr
      have hc := bcell' hbr.out
      by_cases hlt : k < n.sw.length
      · obtain ⟨x, o, hA, hx, hcell, -⟩ := hS.out.1.str hlt
        have hlt2 : k < n.ports.length := by have := hN.out.2; omega
        obtain ⟨y, u, P, pc, hA2, hy, hcell2, hp⟩ := hS.out.2.1.ints hlt2
        subst hA hA2
        have hsw : n.sw.getD k ByteArray.empty = n.sw[k] := by simp [List.getD_eq_getElem?_getD, hlt]
        have hpt : n.ports.getD k [] = n.ports[k] := by simp [List.getD_eq_getElem?_getD, hlt2]
        have hSg : ∀ d os, Hid (NetS (Go.Sort.grow (redrawn wr d) os) (Go.Sort.grow (redrawn wr d) os).heap.size (some ⟨x, o, none⟩) (some ⟨y, u, none⟩) A3 n) := fun d os =>
          hide ((hS.out.below (below_grow (hbr.out.mono (Nat.le_succ _)) (by omega) d os)).more (by have := (gsize wr d os); omega))
        replace hsw := hide hsw
        replace hpt := hide hpt
        cases hnm : nameB n.sw[k] with
        | false =>
          have hv := hide (mayB_sw hlt (fun g => by have := g.1; rw [hsw.out, hnm] at this; cases this))
          go_wp2_with fail
          refine wp_region_quiet_below (by kernel_rfl) (by kernel_rfl) ?_
          repeat (any_goals (first | go_big_quiet_step (first | (go_at_call 25; exact Calls.regrown_of (isName03_any _ _)) | fail) | quiet_step (first | (go_at_call 25; exact Calls.regrown_of (isName03_any _ _)) | fail)))
          refine wpQuiet_nil ?_
          intro w1 hw1
          replace hw1 := below_of_regrown hw1
          go_wp2
          go_ret
          exact ⟨ret_b hv.out.symm, hw.out.trans ((hbr.out.mono (Nat.le_succ _)).trans (hw1.mono (by omega)))⟩
        | true =>
          by_cases hf : n.sw[k] ∈ n.sw.take k
          · have hv := hide (mayB_sw hlt (fun g => by have := g.2.1; rw [hsw.out] at this; exact this hf))
            have hfb : (findI n.sw n.sw[k] != (k : Int)) = true := by rw [bne_iff_ne]; intro e; exact ((findI_self hlt).1 e) hf
            clear hf
            go_wp2_with fail
            refine wp_region_quiet_below (by kernel_rfl) (by kernel_rfl) ?_
            repeat (any_goals (first | go_big_quiet_step (first | (go_at_call 25; exact Calls.regrown_of (isName03_any _ _)) | (go_at_call 26; exact Calls.regrown_of (find13_any n _ _ _ _ _ _ _ _ (hSg _ _).out))) | quiet_step (first | (go_at_call 25; exact Calls.regrown_of (isName03_any _ _)) | (go_at_call 26; exact Calls.regrown_of (find13_any n _ _ _ _ _ _ _ _ (hSg _ _).out)))))
            refine wpQuiet_nil ?_
            intro w1 hw1
            replace hw1 := below_of_regrown hw1
            go_wp2
            go_ret
            exact ⟨ret_b hv.out.symm, hw.out.trans ((hbr.out.mono (Nat.le_succ _)).trans (hw1.mono (by omega)))⟩
          · have hfb : (findI n.sw n.sw[k] != (k : Int)) = false := by rw [bne_eq_false_iff_eq]; exact (findI_self hlt).2 hf
            have hf' := hide hf
            clear hf
            by_cases h8 : 8 < n.ports[k].length
            · have hv := hide (mayB_sw hlt (fun g => by have := g.2.2; rw [hpt.out, mayPortsB] at this; simp at this; omega))
              go_wp2_with fail
              refine wp_region_quiet_below (by kernel_rfl) (by kernel_rfl) ?_
              repeat (any_goals (first | go_big_quiet_step (first | (go_at_call 25; exact Calls.regrown_of (isName03_any _ _)) | (go_at_call 26; exact Calls.regrown_of (find13_any n _ _ _ _ _ _ _ _ (hSg _ _).out))) | quiet_step (first | (go_at_call 25; exact Calls.regrown_of (isName03_any _ _)) | (go_at_call 26; exact Calls.regrown_of (find13_any n _ _ _ _ _ _ _ _ (hSg _ _).out)))))
              refine wpQuiet_nil ?_
              intro w1 hw1
              replace hw1 := below_of_regrown hw1
              go_wp2
              go_ret
              exact ⟨ret_b hv.out.symm, hw.out.trans ((hbr.out.mono (Nat.le_succ _)).trans (hw1.mono (by omega)))⟩
            · go_wp2_with fail
              refine wp_region_quiet_below (by kernel_rfl) (by kernel_rfl) ?_
              repeat (any_goals (first | go_big_quiet_step (first | (go_at_call 25; exact Calls.regrown_of (isName03_any _ _)) | (go_at_call 26; exact Calls.regrown_of (find13_any n _ _ _ _ _ _ _ _ (hSg _ _).out))) | quiet_step (first | (go_at_call 25; exact Calls.regrown_of (isName03_any _ _)) | (go_at_call 26; exact Calls.regrown_of (find13_any n _ _ _ _ _ _ _ _ (hSg _ _).out)))))
              refine wpQuiet_nil ?_
              intro w1 hw1
              replace hw1 := below_of_regrown hw1
              go_wp2
              have hbr1 := hide (hbr.out.trans (hw1.mono hzr))
              have hz1 : w.heap.size + 1 ≤ w1.heap.size := by have := hw1.size; omega
              clear hg hc hSg hw1 hcell hbr hzr
              go_loopw [4, 5] (fun l j wr => ∃ i : Nat, i ≤ n.ports[k].length ∧ j = .int .i64 i ∧ l = .int .i64 (lastOf n.ports[k] i) ∧ Hid (portsTo n.ports[k] i) ∧ wr = w1) (fun _ j _ => n.ports[k].length - (intOf j).toNat)
              case atStart => exact ⟨0, Nat.zero_le _, rfl, rfl, hide (fun i hi => by omega), rfl⟩
              case round =>
                obtain ⟨i, hi, rfl, rfl, hpo, rfl⟩ := hrel
                have hc := bcell' hbr1.out
                by_cases hlt3 : i < n.ports[k].length
                · obtain ⟨z, v, rfl, hz, hcell3⟩ := hp.int hlt3
                  have hpi := portAt_iff hpo.out hlt3
                  have hla := hide (lastOf_succ hlt3)
                  generalize hlo : lastOf n.ports[k] i = lo at hpi ⊢
                  replace hlo := hide hlo
                  by_cases hp1 : n.ports[k][i] ≤ lo
                  · have hv := hide (mayB_sw hlt (fun g => by have := g.2.2; rw [hpt.out, mayPorts_no hlt3 (fun g => (hpi.1 g).1 hp1)] at this; cases this))
                    clear hpi
                    go_wp2
                    go_ret
                    exact ⟨ret_b hv.out.symm, hw.out.trans (hbr1.out.mono (Nat.le_succ _))⟩
                  · by_cases hp2 : 511 < n.ports[k][i]
                    · have hv := hide (mayB_sw hlt (fun g => by have := g.2.2; rw [hpt.out, mayPorts_no hlt3 (fun g => (hpi.1 g).2 hp2)] at this; cases this))
                      clear hpi
                      go_wp2
                      go_ret
                      exact ⟨ret_b hv.out.symm, hw.out.trans (hbr1.out.mono (Nat.le_succ _))⟩
                    · have hv := hide (portsTo_succ hpo.out (hpi.2 ⟨hp1, hp2⟩))
                      clear hpi
                      go_wp2
                      go_roundw
                      case rel => exact ⟨i + 1, by omega, by go_num, by rw [hla.out], hv, by trivial⟩
                      case measure => simp [intOf]; omega
                · have hv := hide (upto_succ hok.out (show swOk n k from ⟨by rw [hsw.out]; exact hnm, by rw [hsw.out]; exact hf'.out, by rw [hpt.out, mayPortsB]; have := hpo.out; rw [show i = n.ports[k].length by omega] at this; simp [this]; omega⟩))
                  go_wp2
                  go_roundw
                  case rel => exact ⟨k + 1, by omega, by go_num, hv, hbr1, hz1⟩
                  case measure => simp [intOf]; omega
      · have hok := hide (show ∀ i, i < n.sw.length → swOk n i from fun i hi => hok.out i (by omega))
        go_wp2
        go_loopw [6, 7] (fun v i wr => ∃ k : Nat, k ≤ n.links.length ∧ i = .int .i64 k ∧ Hid (wr.ownsRow (w.heap.size + 1) 38 2 v (2 * k) (endCells (endsOf (n.links.take k)))) ∧ Hid (Below (w.heap.size + 1) wb wr) ∧ w.heap.size + 1 ≤ wr.heap.size) (fun _ i _ => n.links.length - (intOf i).toNat)
        case atStart => exact ⟨0, Nat.zero_le _, rfl, hide (World.ownsRow_nil _ _ _ _), hbr, hzr⟩
        case round =>
          obtain ⟨k, hk, rfl, hown, hbr, hzr⟩ := hrel
          have hc := bcell' hbr.out
          by_cases hlt : k < n.links.length
          · obtain ⟨x, o, hA, hx, x1, x2, x3, x4⟩ := hS.out.2.2.link hlt
            subst hA
            go_wp2_with fail
            have hbx : wr.cell? ⟨w.heap.size, 2, none⟩ = some (.slice (some ⟨x, o, none⟩) n.links.length c3) := by rw [hc.1 _ _ (by omega), hcb]; rfl
            replace x1 := (hc.1 _ _ (by omega)).trans x1
            replace x2 := (hc.1 _ _ (by omega)).trans x2
            replace x3 := (hc.1 _ _ (by omega)).trans x3
            replace x4 := (hc.1 _ _ (by omega)).trans x4
            have ag := own_ne hown.out (show w.heap.size < w.heap.size + 1 by omega)
            have ax := own_ne hown.out (show x < w.heap.size + 1 by omega)
            have hlti : (k : Int) < (n.links.length : Int) := by omega
            clear hc hcb hok
            go_region_held3 (fun w' => w'.cell? ⟨w.heap.size, 2, none⟩ = some (.slice (some ⟨x, o, none⟩) n.links.length c3) ∧ w'.cell? ⟨x, o + k * 4, none⟩ = some (.int .i64 n.links[k].1.1) ∧ w'.cell? ⟨x, o + k * 4 + 1, none⟩ = some (.int .i64 n.links[k].1.2) ∧ w'.cell? ⟨x, o + k * 4 + 2, none⟩ = some (.int .i64 n.links[k].2.1) ∧ w'.cell? ⟨x, o + k * 4 + 3, none⟩ = some (.int .i64 n.links[k].2.2))
              (first
                | go_keep
                | (go_split_ands
                   refine ⟨?_, ?_, ?_, ?_, ?_⟩
                   · (rw [hgrow.cell_far _ (by simp; omega) (Ne.symm ag)]; assumption)
                   · (rw [hgrow.cell_far _ (by simp; omega) (Ne.symm ax)]; assumption)
                   · (rw [hgrow.cell_far _ (by simp; omega) (Ne.symm ax)]; assumption)
                   · (rw [hgrow.cell_far _ (by simp; omega) (Ne.symm ax)]; assumption)
                   · (rw [hgrow.cell_far _ (by simp; omega) (Ne.symm ax)]; assumption)))
              ((refine step_append_lies _ (by rfl) _ _ _ (by rfl) (w.heap.size + 1) 38 i0 _ 2 16 Try.underlying53 hi0 hz0 hz1 hz2 rfl (by omega) _ (2 * k) _ (by rfl) ((hown.out.alloc _).drew)
                  ⟨wr.heap.size, 0, none⟩ 2 2 [.int .i64 n.links[k].1.1, .int .i64 n.links[k].1.2, .int .i64 n.links[k].2.1, .int .i64 n.links[k].2.2] (by rfl) (by rfl) (World.news_of_block (cs := #[.int .i64 n.links[k].1.1, .int .i64 n.links[k].1.2, .int .i64 n.links[k].2.1, .int .i64 n.links[k].2.2]) (t := 38) (fr := (0, 0)) (heap_alloc_new wr _)) (by simp [Value.oneCell'])
                  (by omega) (by simp [maxLen]; omega) (by omega) (by simp; omega) (wr.heap.size + 1) (by simp) ?_; intro gg cap w1 hown1 hgrow hat hglt))
            have hbr1 := hide (((hbr.out.alloc hzr (.cells #[.int .i64 n.links[k].1.1, .int .i64 n.links[k].1.2, .int .i64 n.links[k].2.1, .int .i64 n.links[k].2.2] 38)).drew).grown hgrow (by simp; omega) (fun g hg => (hown.out.lt g hg).1))
            have hz1 : w.heap.size + 1 ≤ w1.heap.size := by have := hgrow.size; simp at this; omega
            rw [← endCells_succ hlt] at hown1
            replace hown1 := hide hown1
            go_wp2
            go_roundw
            case rel => exact ⟨k + 1, by omega, by go_num, hown1, hbr1, hz1⟩
            case measure => simp [intOf]; omega
          · have hk' : k = n.links.length := by omega
            have hown' := hown.out
            rw [hk', List.take_length, ← endsOf_len] at hown'
            obtain ⟨A, cap, hv, hE⟩ := own_sl (R := rEnd) (f := fun e => [.int .i64 e.1, .int .i64 e.2]) (fun _ => rfl) (fun _ _ => rfl) hown'
            subst hv
            have hel := endsOf_len n.links
            generalize hes : endsOf n.links = es at hE hel ⊢
            replace hes := hide hes
            replace hE := hide hE
            clear hown hown' hk'
            have hlE : es.length ≤ 9223372036854775807 := by omega
            clear hel
            go_wp2
            clear hc
            obtain ⟨w3, rfl⟩ : ∃ w3 : World, w3 = wr := ⟨_, rfl⟩
            go_loopw [8, 9] (fun i _ wr' => ∃ j : Nat, j ≤ es.length ∧ i = .int .i64 j ∧ Hid (∀ i, i < j → endOk n es i) ∧ Hid (Below w3.heap.size w3 wr')) (fun i _ _ => es.length - (intOf i).toNat)
            case atStart => exact ⟨0, Nat.zero_le _, rfl, hide (fun i hi => by omega), hide (Below.refl _ _)⟩
            case round =>
              obtain ⟨j, hj, rfl, hoe, hbq⟩ := hrel
              have hbw := hide (hbr.out.trans (hbq.out.mono hzr))
              have hzq : w.heap.size + 1 ≤ wr.heap.size := by have := hbq.out.size; omega
              by_cases hltj : j < es.length
              · obtain ⟨y, u, rfl, hy, y1, y2⟩ := hE.out.end_ hltj
                have hg := gcell' hbw.out hzq
                have hg2 := gcell' hbq.out hbq.out.size
                have hSg : ∀ d os, Hid (NetS (Go.Sort.grow (redrawn wr d) os) (Go.Sort.grow (redrawn wr d) os).heap.size A1 A2 A3 n) := fun d os =>
                  hide ((hS.out.below (below_grow (hbw.out.mono (Nat.le_succ _)) (by omega) d os)).more (by have := (gsize wr d os); omega))
                have hej : es.getD j (0, 0) = es[j] := by simp [List.getD_eq_getElem?_getD, hltj]
                replace hej := hide hej
                cases hth : thereB n (es[j].1, es[j].2) with
                | false =>
                  have hv := hide (mayB_end (n := n) (k := j) (by rw [hes.out]; exact hltj) (by rw [hes.out]; exact fun g => by have := g.1; rw [hej.out] at this; rw [this] at hth; cases hth))
                  go_wp2_with fail
                  refine wp_region_quiet_below (by kernel_rfl) (by kernel_rfl) ?_
                  repeat (any_goals (first | go_big_quiet_step (first | (go_at_call 27; exact Calls.regrown_of (there13_any n _ _ _ _ _ _ _ _ _ (hSg _ _).out))) | quiet_step (first | (go_at_call 27; exact Calls.regrown_of (there13_any n _ _ _ _ _ _ _ _ _ (hSg _ _).out)))))
                  refine wpQuiet_nil ?_
                  intro w1 hw1
                  replace hw1 := below_of_regrown hw1
                  go_wp2
                  go_ret
                  exact ⟨ret_b hv.out.symm, hw.out.trans ((hbw.out.mono (Nat.le_succ _)).trans (hw1.mono (by omega)))⟩
                | true =>
                  go_wp2_with fail
                  refine wp_region_quiet_below (by kernel_rfl) (by kernel_rfl) ?_
                  repeat (any_goals (first | go_big_quiet_step (first | (go_at_call 27; exact Calls.regrown_of (there13_any n _ _ _ _ _ _ _ _ _ (hSg _ _).out))) | quiet_step (first | (go_at_call 27; exact Calls.regrown_of (there13_any n _ _ _ _ _ _ _ _ _ (hSg _ _).out)))))
                  refine wpQuiet_nil ?_
                  intro w1 hw1
                  replace hw1 := below_of_regrown hw1
                  have hb1 := hide (hbq.out.trans (hw1.mono hbq.out.size))
                  clear hg hg2 hSg hw1
                  obtain ⟨y3, y4⟩ : w1.cell? ⟨y, u + j * 2, none⟩ = some (.int .i64 es[j].1) ∧ w1.cell? ⟨y, u + j * 2 + 1, none⟩ = some (.int .i64 es[j].2) := ⟨(hb1.out.cell hy).trans y1, (hb1.out.cell hy).trans y2⟩
                  clear y1 y2
                  go_wp2
                  replace hth := hide hth
                  go_loopw [9] (fun i wr' => ∃ i' : Nat, i' ≤ j ∧ i = .int .i64 i' ∧ Hid (es[j] ∉ es.take i') ∧ ∃ m, wr' = w1.drewN m) (fun i _ => j - (intOf i).toNat)
                  case atStart => exact ⟨0, Nat.zero_le _, rfl, hide (by simp), 0, rfl⟩
                  case round =>
                    obtain ⟨i, hi, rfl, hni, m, rfl⟩ := hrel
                    by_cases hlti : i < j
                    · have hie : i < es.length := by omega
                      obtain ⟨y', u', hA, hy', z1, z2⟩ := hE.out.end_ hie
                      obtain ⟨rfl, rfl⟩ : y = y' ∧ u = u' := by simpa using hA
                      replace z1 := (hb1.out.cell hy).trans z1
                      replace z2 := (hb1.out.cell hy).trans z2
                      by_cases he : es[i] = es[j]
                      · have hv := hide (mayB_end (n := n) (k := j) (by rw [hes.out]; exact hltj) (by rw [hes.out]; exact fun g => g.2 (by rw [hej.out, ← he, List.mem_take_iff_getElem]; exact ⟨i, by omega, rfl⟩)))
                        go_wp2_with fail
                        go_quiet (fail)
                        go_wp2
                        go_ret
                        exact ⟨ret_b hv.out.symm, hw.out.trans ((hbr.out.trans (hb1.out.mono hzr)).mono (Nat.le_succ _) |> fun q => below_drewN (below_drewN q _) _)⟩
                      · have hv := hide (notMem_take_snoc hie hni.out he)
                        rcases end_ne (a := es[i]) (s := es[j].1) (p := es[j].2) he with e1 | ⟨e1, e2⟩ <;> clear he
                        all_goals
                          go_wp2_with fail
                          go_quiet (fail)
                          go_wp2
                          go_roundw
                          case rel => exact ⟨i + 1, by omega, by go_num, hv, _, rfl⟩
                          case measure => simp [intOf]; omega
                    · have hv := hide (upto_succ hoe.out (show endOk n es j from ⟨by rw [hej.out]; exact hth.out, by rw [hej.out]; have := hni.out; rwa [show i = j by omega] at this⟩))
                      go_wp2
                      go_roundw
                      case rel => exact ⟨j + 1, by omega, by go_num, hv, hide (below_drewN hb1.out _)⟩
                      case measure => simp [intOf]; omega
              · have hv := hide (mayB_yes hN.out hok.out (by rw [hes.out]; exact fun i hi => hoe.out i (by omega)))
                go_wp2
                go_ret
                exact ⟨ret_b hv.out.symm, hw.out.trans (hbw.out.mono (Nat.le_succ _))⟩
  · have hv := hide (mayB_size hn)
    by_cases hn1 : n.sw.length ≤ 8
    · have hn3 : ((n.ports.length : Int) != n.sw.length) = true := by simp; omega
      go_wp2
      go_ret
      exact ⟨ret_b hv.out.symm, hw.out⟩
    · go_wp2
      go_ret
      exact ⟨ret_b hv.out.symm, hw.out⟩
end Go.Proofs.Ytjijggighppjbaa

import Derived.Test.YtcgmkjpgaigmfaaGreatChk36
import Derived.Test.YtcgmkjpgaigmfaaGreatChk15
set_option linter.all false
/-! Printed by gen_r7a.py: the document's layer 7: what names mean. -/
namespace Go.Proofs.YtcgmkjpgaigmfaaGreat
open Go.RowKit
theorem findM_at {α : Type} {l : List α} {f : α → ByteArray} {s : ByteArray} {k : Nat} (hk : k < l.length) (hc : s ∉ (l.take k).map f) (he : f l[k] = s) : findI (l.map f) s = (k : Int) :=
 findI_at (by simpa using hk) (by rwa [← List.map_take]) (by simpa using he)
theorem findM_next {α : Type} {l : List α} {f : α → ByteArray} {s : ByteArray} {k : Nat} (hk : k < l.length) (hc : s ∉ (l.take k).map f) (he : ¬ f l[k] = s) : s ∉ (l.take (k + 1)).map f := by
 rw [List.take_succ_eq_append_getElem hk, List.map_append]
 intro h
 rcases List.mem_append.1 h with h | h
 ·exact hc h
 ·simp at h; exact he h.symm
theorem findM_no {α : Type} {l : List α} {f : α → ByteArray} {s : ByteArray} {k : Nat} (hk : k ≤ l.length) (hn : ¬ k < l.length) (hc : s ∉ (l.take k).map f) : findI (l.map f) s = -1 :=
 findI_no (by rwa [List.take_of_length_le (by omega)] at hc)
theorem findM_ge {α : Type} [DecidableEq α] {a : α} {l : List α} {k : Nat} (h : findI l a = (k : Int)) : (0 : Int) ≤ findI l a := by omega
set_option maxRecDepth 100000 in
set_option maxHeartbeats 1000000 in
theorem fieldOf07_any (l : List Fd) (A : Option Addr) (cap : Nat) (s : ByteArray) (w : World) {B : Nat} (h : Sl 2 rFd w B A l) :
  Calls Tryz.prog 170 #[.slice A l.length cap, .string s] w fun e w' => e = .returned (.int .i64 (fieldsI l s)) ∧ w = w' := by
 have hl := h.len
 have hS := hide h
 clear h
 go_enter Tryz.func170, Tryz.ntmps170
 go_wp2
 go_loop [5] (fun i => ∃ k : Nat, k ≤ l.length ∧ i = .int .i64 k ∧ s ∉ (l.take k).map Prod.fst) (fun i => l.length - (intOf i).toNat)
 case atStart => exact ⟨0, Nat.zero_le _, rfl, by simp⟩
 case round =>
  obtain ⟨k, hk, rfl, hc⟩ := hrel
  by_cases hlt : k < l.length
  ·obtain ⟨b, o, ecs, hA, hb, hel, hcell, hr⟩ := hS.out.2 k _ (List.getElem?_eq_getElem hlt)
   subst hA
   have hltz : (k : Int) < (l.length : Int) := by omega
   obtain ⟨rfl, -⟩ := hr
   have x0 : w.cell? ⟨b, o + k * 2, none⟩ = some (.string l[k].1) := by simpa using hcell 0 _ rfl
   clear hcell hel
   by_cases he : Prod.fst l[k] = s
   ·have ht := str_eq he
    have hq := hide (findM_at hlt hc he)
    clear he hc
    go_wp2
    go_ret
    exact ⟨ret_int hq.out.symm, rfl⟩
   ·have ht := str_ne he
    have hq := hide (findM_next hlt hc he)
    clear he hc
    go_wp2
    go_round
    case rel => exact ⟨k + 1, by omega, by go_num, hq.out⟩
    case measure => simp [intOf]; omega
  ·have hq := hide (findM_no hk hlt hc)
   clear hc
   go_wp2
   
   go_ret
   exact ⟨ret_int hq.out.symm, rfl⟩
set_option maxRecDepth 100000 in
set_option maxHeartbeats 1000000 in
theorem index07_any (l : List ByteArray) (A : Option Addr) (cap : Nat) (s : ByteArray) (w : World) {B : Nat} (h : Sl 1 rStr w B A l) :
  Calls Tryz.prog 138 #[.slice A l.length cap, .string s] w fun e w' => e = .returned (.int .i64 (findI l s)) ∧ w = w' := by
 have hl := h.len
 go_enter Tryz.func138, Tryz.ntmps138
 go_wp2
 go_loop [5] (fun i => ∃ k : Nat, k ≤ l.length ∧ i = .int .i64 k ∧ s ∉ l.take k) (fun i => l.length - (intOf i).toNat)
 case atStart => exact ⟨0, Nat.zero_le _, rfl, by simp⟩
 case round =>
  obtain ⟨k, hk, rfl, hc⟩ := hrel
  by_cases hlt : k < l.length
  ·obtain ⟨b, o, rfl, hb, hcell, -⟩ := h.str hlt
   clear h
   by_cases he : l[k] = s
   ·have ht := str_eq he
    have hv := hide (findI_at hlt hc he)
    clear he
    go_wp2
    go_ret
    exact ⟨ret_int hv.out.symm, rfl⟩
   ·have ht := str_ne he
    have hv := hide (notMem_take_snoc hlt hc he)
    clear he
    go_wp2
    go_round
    case rel => exact ⟨k + 1, by omega, by go_num, hv.out⟩
    case measure => simp [intOf]; omega
  ·have hv := hide (findI_no (notMem_of_take hk hlt hc))
   go_wp2
   go_ret
   exact ⟨ret_int hv.out.symm, rfl⟩
set_option maxRecDepth 100000 in
set_option maxHeartbeats 1000000 in
theorem header07_any (w : World) (A1 A2 A3 A4 A5 A6 A7 : Option Addr) (p : Pg) (c1 c2 c3 c4 c5 c6 c7 : Nat) (s : ByteArray) {B : Nat} (hB : B ≤ w.heap.size) (h : PgS w B A1 A2 A3 A4 A5 A6 A7 p) :
  Calls Tryz.prog 132 #[.agg #[.slice A1 p.headers.length c1, .slice A2 p.metas.length c2, .slice A3 p.states.length c3, .slice A4 p.actions.length c4, .slice A5 p.tables.length c5, .slice A6 p.control.length c6, .slice A7 p.emit.length c7], .string s] w fun e w' => e = .returned (.int .i64 (headerI p s)) ∧ Below w.heap.size w w' := by
 obtain ⟨wa, hwa, hsa, hba, hca, -⟩ := box1 w #[.slice A1 p.headers.length c1, .slice A2 p.metas.length c2, .slice A3 p.states.length c3, .slice A4 p.actions.length c4, .slice A5 p.tables.length c5, .slice A6 p.control.length c6, .slice A7 p.emit.length c7] 30
 obtain ⟨y0, y1, y2, y3, y4, y5, y6⟩ := row7 (w := wa) (a := w.heap.size) fun i => hca i
 have hl := h.headers.len
 have hS := hide (h.headers.below sta_hd (hba.mono hB))
 have hw := hide hba
 clear hca hba h
 go_enter Tryz.func132, Tryz.ntmps132
 go_wp2
 go_loop [5] (fun i => ∃ k : Nat, k ≤ p.headers.length ∧ i = .int .i64 k ∧ s ∉ (p.headers.take k).map Hd.name) (fun i => p.headers.length - (intOf i).toNat)
 case atStart => exact ⟨0, Nat.zero_le _, rfl, by simp⟩
 case round =>
  obtain ⟨k, hk, rfl, hc⟩ := hrel
  by_cases hlt : k < p.headers.length
  ·obtain ⟨b, o, ecs, hA, hb, hel, hcell, hr⟩ := hS.out.2 k _ (List.getElem?_eq_getElem hlt)
   subst hA
   have hltz : (k : Int) < (p.headers.length : Int) := by omega
   obtain ⟨A', c', rfl, -⟩ := hr
   have x0 : wa.cell? ⟨b, o + k * 2, none⟩ = some (.string (Hd.name p.headers[k])) := by simpa using hcell 0 _ rfl
   clear hcell hel
   by_cases he : Hd.name p.headers[k] = s
   ·have ht := str_eq he
    have hq := hide (findM_at hlt hc he)
    clear he hc
    go_wp2
    go_ret
    exact ⟨ret_int hq.out.symm, hw.out⟩
   ·have ht := str_ne he
    have hq := hide (findM_next hlt hc he)
    clear he hc
    go_wp2
    go_round
    case rel => exact ⟨k + 1, by omega, by go_num, hq.out⟩
    case measure => simp [intOf]; omega
  ·have hq := hide (findM_no hk hlt hc)
   clear hc
   go_wp2
   
   go_ret
   exact ⟨ret_int hq.out.symm, hw.out⟩
set_option maxRecDepth 100000 in
set_option maxHeartbeats 1000000 in
theorem action07_any (w : World) (A1 A2 A3 A4 A5 A6 A7 : Option Addr) (p : Pg) (c1 c2 c3 c4 c5 c6 c7 : Nat) (s : ByteArray) {B : Nat} (hB : B ≤ w.heap.size) (h : PgS w B A1 A2 A3 A4 A5 A6 A7 p) :
  Calls Tryz.prog 139 #[.agg #[.slice A1 p.headers.length c1, .slice A2 p.metas.length c2, .slice A3 p.states.length c3, .slice A4 p.actions.length c4, .slice A5 p.tables.length c5, .slice A6 p.control.length c6, .slice A7 p.emit.length c7], .string s] w fun e w' => e = .returned (.int .i64 (actionI p s)) ∧ Below w.heap.size w w' := by
 obtain ⟨wa, hwa, hsa, hba, hca, -⟩ := box1 w #[.slice A1 p.headers.length c1, .slice A2 p.metas.length c2, .slice A3 p.states.length c3, .slice A4 p.actions.length c4, .slice A5 p.tables.length c5, .slice A6 p.control.length c6, .slice A7 p.emit.length c7] 30
 obtain ⟨y0, y1, y2, y3, y4, y5, y6⟩ := row7 (w := wa) (a := w.heap.size) fun i => hca i
 have hl := h.actions.len
 have hS := hide (h.actions.below sta_ac (hba.mono hB))
 have hw := hide hba
 clear hca hba h
 go_enter Tryz.func139, Tryz.ntmps139
 go_wp2
 go_loop [5] (fun i => ∃ k : Nat, k ≤ p.actions.length ∧ i = .int .i64 k ∧ s ∉ (p.actions.take k).map Ac.name) (fun i => p.actions.length - (intOf i).toNat)
 case atStart => exact ⟨0, Nat.zero_le _, rfl, by simp⟩
 case round =>
  obtain ⟨k, hk, rfl, hc⟩ := hrel
  by_cases hlt : k < p.actions.length
  ·obtain ⟨b, o, ecs, hA, hb, hel, hcell, hr⟩ := hS.out.2 k _ (List.getElem?_eq_getElem hlt)
   subst hA
   have hltz : (k : Int) < (p.actions.length : Int) := by omega
   obtain ⟨B1, d1, B2, d2, rfl, -⟩ := hr
   have x0 : wa.cell? ⟨b, o + k * 3, none⟩ = some (.string (Ac.name p.actions[k])) := by simpa using hcell 0 _ rfl
   clear hcell hel
   by_cases he : Ac.name p.actions[k] = s
   ·have ht := str_eq he
    have hq := hide (findM_at hlt hc he)
    clear he hc
    go_wp2
    go_ret
    exact ⟨ret_int hq.out.symm, hw.out⟩
   ·have ht := str_ne he
    have hq := hide (findM_next hlt hc he)
    clear he hc
    go_wp2
    go_round
    case rel => exact ⟨k + 1, by omega, by go_num, hq.out⟩
    case measure => simp [intOf]; omega
  ·have hq := hide (findM_no hk hlt hc)
   clear hc
   go_wp2
   
   go_ret
   exact ⟨ret_int hq.out.symm, hw.out⟩
set_option maxRecDepth 100000 in
set_option maxHeartbeats 1000000 in
theorem table07_any (w : World) (A1 A2 A3 A4 A5 A6 A7 : Option Addr) (p : Pg) (c1 c2 c3 c4 c5 c6 c7 : Nat) (s : ByteArray) {B : Nat} (hB : B ≤ w.heap.size) (h : PgS w B A1 A2 A3 A4 A5 A6 A7 p) :
  Calls Tryz.prog 137 #[.agg #[.slice A1 p.headers.length c1, .slice A2 p.metas.length c2, .slice A3 p.states.length c3, .slice A4 p.actions.length c4, .slice A5 p.tables.length c5, .slice A6 p.control.length c6, .slice A7 p.emit.length c7], .string s] w fun e w' => e = .returned (.int .i64 (tableI p s)) ∧ Below w.heap.size w w' := by
 obtain ⟨wa, hwa, hsa, hba, hca, -⟩ := box1 w #[.slice A1 p.headers.length c1, .slice A2 p.metas.length c2, .slice A3 p.states.length c3, .slice A4 p.actions.length c4, .slice A5 p.tables.length c5, .slice A6 p.control.length c6, .slice A7 p.emit.length c7] 30
 obtain ⟨y0, y1, y2, y3, y4, y5, y6⟩ := row7 (w := wa) (a := w.heap.size) fun i => hca i
 have hl := h.tables.len
 have hS := hide (h.tables.below sta_ta (hba.mono hB))
 have hw := hide hba
 clear hca hba h
 go_enter Tryz.func137, Tryz.ntmps137
 go_wp2
 go_loop [5] (fun i => ∃ k : Nat, k ≤ p.tables.length ∧ i = .int .i64 k ∧ s ∉ (p.tables.take k).map Ta.name) (fun i => p.tables.length - (intOf i).toNat)
 case atStart => exact ⟨0, Nat.zero_le _, rfl, by simp⟩
 case round =>
  obtain ⟨k, hk, rfl, hc⟩ := hrel
  by_cases hlt : k < p.tables.length
  ·obtain ⟨b, o, ecs, hA, hb, hel, hcell, hr⟩ := hS.out.2 k _ (List.getElem?_eq_getElem hlt)
   subst hA
   have hltz : (k : Int) < (p.tables.length : Int) := by omega
   obtain ⟨B1, d1, B2, d2, B3, d3, rfl, -⟩ := hr
   have x0 : wa.cell? ⟨b, o + k * 5, none⟩ = some (.string (Ta.name p.tables[k])) := by simpa using hcell 0 _ rfl
   clear hcell hel
   by_cases he : Ta.name p.tables[k] = s
   ·have ht := str_eq he
    have hq := hide (findM_at hlt hc he)
    clear he hc
    go_wp2
    go_ret
    exact ⟨ret_int hq.out.symm, hw.out⟩
   ·have ht := str_ne he
    have hq := hide (findM_next hlt hc he)
    clear he hc
    go_wp2
    go_round
    case rel => exact ⟨k + 1, by omega, by go_num, hq.out⟩
    case measure => simp [intOf]; omega
  ·have hq := hide (findM_no hk hlt hc)
   clear hc
   go_wp2
   
   go_ret
   exact ⟨ret_int hq.out.symm, hw.out⟩
set_option maxRecDepth 100000 in
set_option maxHeartbeats 1000000 in
theorem state07_any (w : World) (A1 A2 A3 A4 A5 A6 A7 : Option Addr) (p : Pg) (c1 c2 c3 c4 c5 c6 c7 : Nat) (s : ByteArray) {B : Nat} (hB : B ≤ w.heap.size) (h : PgS w B A1 A2 A3 A4 A5 A6 A7 p) :
  Calls Tryz.prog 133 #[.agg #[.slice A1 p.headers.length c1, .slice A2 p.metas.length c2, .slice A3 p.states.length c3, .slice A4 p.actions.length c4, .slice A5 p.tables.length c5, .slice A6 p.control.length c6, .slice A7 p.emit.length c7], .string s] w fun e w' => e = .returned (.tuple #[.int .i64 (stateI p s), .bool (stateB p s)]) ∧ Below w.heap.size w w' := by
 obtain ⟨wa, hwa, hsa, hba, hca, -⟩ := box1 w #[.slice A1 p.headers.length c1, .slice A2 p.metas.length c2, .slice A3 p.states.length c3, .slice A4 p.actions.length c4, .slice A5 p.tables.length c5, .slice A6 p.control.length c6, .slice A7 p.emit.length c7] 30
 obtain ⟨y0, y1, y2, y3, y4, y5, y6⟩ := row7 (w := wa) (a := w.heap.size) fun i => hca i
 have hl := h.states.len
 have hS := hide (h.states.below sta_sa (hba.mono hB))
 have hw := hide hba
 clear hca hba h
 go_enter Tryz.func133, Tryz.ntmps133
 by_cases h1 : s = accS
 ·have e1 := acc_iff.1 h1
  have hv := hide (show stateI p s = -1 ∧ stateB p s = true from by simp [stateI, stateB, h1])
  clear h1
  go_wp2
  go_ret2
  exact ⟨ret_ib hv.out.1.symm hv.out.2.symm, hw.out⟩
 ·have e1 : (s.toList == [97, 99, 99, 101, 112, 116]) = false := by rw [beq_eq_false_iff_ne]; exact fun h => h1 (acc_iff.2 h)
  by_cases h2 : s = rejS
  ·have e2 := rej_iff.1 h2
   have hv := hide (show stateI p s = -2 ∧ stateB p s = true from by simp [stateI, stateB, h2]; decide)
   clear h1 h2
   go_wp2
   go_ret2
   exact ⟨ret_ib hv.out.1.symm hv.out.2.symm, hw.out⟩
  ·have e2 : (s.toList == [114, 101, 106, 101, 99, 116]) = false := by rw [beq_eq_false_iff_ne]; exact fun h => h2 (rej_iff.2 h)
   have hv := hide (show stateI p s = max (findI (p.states.map Sa.name) s) 0 ∧ stateB p s = decide (0 ≤ findI (p.states.map Sa.name) s) from ⟨by simp [stateI, stateR, h1, h2], by unfold stateB stateR; rw [if_neg h1, if_neg h2]⟩)
   clear h1 h2
   go_wp2
   go_loop [6] (fun i => ∃ k : Nat, k ≤ p.states.length ∧ i = .int .i64 k ∧ s ∉ (p.states.take k).map Sa.name) (fun i => p.states.length - (intOf i).toNat)
   case atStart => exact ⟨0, Nat.zero_le _, rfl, by simp⟩
   case round =>
    obtain ⟨k, hk, rfl, hc⟩ := hrel
    by_cases hlt : k < p.states.length
    ·obtain ⟨b, o, ecs, hA, hb, hel, hcell, hr⟩ := hS.out.2 k _ (List.getElem?_eq_getElem hlt)
     subst hA
     have hltz : (k : Int) < (p.states.length : Int) := by omega
     obtain ⟨B1, d1, B2, d2, B3, d3, rfl, -⟩ := hr
     have x0 : wa.cell? ⟨b, o + k * 5, none⟩ = some (.string (Sa.name p.states[k])) := by simpa using hcell 0 _ rfl
     clear hcell hel
     by_cases he : Sa.name p.states[k] = s
     ·have ht := str_eq he
      have hq := hide (findM_at hlt hc he)
      clear he hc
      go_wp2
      go_ret2
      exact ⟨ret_ib (by rw [hv.out.1, hq.out]; omega) (by rw [hv.out.2, hq.out]; simp), hw.out⟩
     ·have ht := str_ne he
      have hq := hide (findM_next hlt hc he)
      clear he hc
      go_wp2
      go_round
      case rel => exact ⟨k + 1, by omega, by go_num, hq.out⟩
      case measure => simp [intOf]; omega
    ·have hq := hide (findM_no hk hlt hc)
     clear hc
     go_wp2
     
     go_ret2
     exact ⟨ret_ib (by rw [hv.out.1, hq.out]; rfl) (by rw [hv.out.2, hq.out]; rfl), hw.out⟩
set_option maxRecDepth 100000 in
set_option maxHeartbeats 1000000 in
theorem meta07_any (w : World) (A1 A2 A3 A4 A5 A6 A7 : Option Addr) (p : Pg) (c1 c2 c3 c4 c5 c6 c7 : Nat) (s : ByteArray) {B : Nat} (hB : B ≤ w.heap.size) (h : PgS w B A1 A2 A3 A4 A5 A6 A7 p) :
  Calls Tryz.prog 135 #[.agg #[.slice A1 p.headers.length c1, .slice A2 p.metas.length c2, .slice A3 p.states.length c3, .slice A4 p.actions.length c4, .slice A5 p.tables.length c5, .slice A6 p.control.length c6, .slice A7 p.emit.length c7], .string s] w fun e w' => e = .returned (.int .i64 (metaI p s)) ∧ Below w.heap.size w w' := by
 obtain ⟨wa, hwa, hsa, hba, hca, -⟩ := box1 w #[.slice A1 p.headers.length c1, .slice A2 p.metas.length c2, .slice A3 p.states.length c3, .slice A4 p.actions.length c4, .slice A5 p.tables.length c5, .slice A6 p.control.length c6, .slice A7 p.emit.length c7] 30
 obtain ⟨y0, y1, y2, y3, y4, y5, y6⟩ := row7 (w := wa) (a := w.heap.size) fun i => hca i
 have hl := h.metas.len
 have hS := hide (h.metas.below sta_fd (hba.mono hB))
 have hw := hide hba
 clear hca hba h
 go_enter Tryz.func135, Tryz.ntmps135
 have hX := hide (fun c => fieldOf07_any p.metas A2 c s wa hS.out)
 go_wp2_with (go_at_call 170; refine (hX.out _).mono ?_; rintro e w1 ⟨rfl, rfl⟩)
 go_ret
 exact ⟨rfl, hw.out⟩
set_option maxRecDepth 100000 in
set_option maxHeartbeats 1000000 in
theorem field07_any (w : World) (A1 A2 A3 A4 A5 A6 A7 : Option Addr) (p : Pg) (c1 c2 c3 c4 c5 c6 c7 : Nat) (n : Int) (s : ByteArray) {B : Nat} (hB : B ≤ w.heap.size) (h : PgS w B A1 A2 A3 A4 A5 A6 A7 p) :
  Calls Tryz.prog 134 #[.agg #[.slice A1 p.headers.length c1, .slice A2 p.metas.length c2, .slice A3 p.states.length c3, .slice A4 p.actions.length c4, .slice A5 p.tables.length c5, .slice A6 p.control.length c6, .slice A7 p.emit.length c7], .int .i64 n, .string s] w fun e w' => e = .returned (.int .i64 (fieldI p n s)) ∧ Below w.heap.size w w' := by
 obtain ⟨wa, hwa, hsa, hba, hca, -⟩ := box1 w #[.slice A1 p.headers.length c1, .slice A2 p.metas.length c2, .slice A3 p.states.length c3, .slice A4 p.actions.length c4, .slice A5 p.tables.length c5, .slice A6 p.control.length c6, .slice A7 p.emit.length c7] 30
 obtain ⟨y0, y1, y2, y3, y4, y5, y6⟩ := row7 (w := wa) (a := w.heap.size) fun i => hca i
 have hl := h.headers.len
 have hS := hide (h.headers.below sta_hd (hba.mono hB))
 have hw := hide hba
 clear hca hba h
 go_enter Tryz.func134, Tryz.ntmps134
 by_cases h1 : n < 0
 ·have hv := hide (show fieldI p n s = -1 from by simp [fieldI, h1])
  go_wp2
  go_ret
  exact ⟨ret_int hv.out.symm, hw.out⟩
 ·have h2 : 0 ≤ n := by omega
  obtain ⟨k, rfl⟩ := Int.eq_ofNat_of_zero_le h2
  by_cases h3 : k < p.headers.length
  ·have h4 : (k : Int) < (p.headers.length : Int) := by omega
   have h5 : ¬ (p.headers.length : Int) ≤ (k : Int) := by omega
   obtain ⟨b, o, ecs, hA, hb, hel, hcell, hr⟩ := hS.out.2 k _ (List.getElem?_eq_getElem h3)
   subst hA
   obtain ⟨FA, fc, rfl, hn, hF⟩ := hr
   have hlF := hF.len
   have x0 : wa.cell? ⟨b, o + k * 2, none⟩ = some (.string p.headers[k].name) := by simpa using hcell 0 _ rfl
   have x1 : wa.cell? ⟨b, o + k * 2 + 1, none⟩ = some (.slice FA p.headers[k].fields.length fc) := hcell 1 _ rfl
   have hv := hide (show fieldI p k s = fieldsI p.headers[k].fields s from by simp only [fieldI, if_neg h1, Int.toNat_natCast, List.getElem?_eq_getElem h3, Option.elim])
   have hX := hide (fun c => fieldOf07_any p.headers[k].fields FA c s wa hF)
   generalize fieldsI p.headers[k].fields s = z at hv hX
   clear hcell hF hel h1
   go_wp2_with (go_at_call 170; refine (hX.out _).mono ?_; rintro e w1 ⟨rfl, rfl⟩)
   go_ret
   exact ⟨ret_int hv.out.symm, hw.out⟩
  ·have h4 : (p.headers.length : Int) ≤ (k : Int) := by omega
   have h5 : ¬ (k : Int) < (p.headers.length : Int) := by omega
   have hv := hide (show fieldI p k s = -1 from by
    have e : p.headers[k]? = none := List.getElem?_eq_none (by omega)
    simp only [fieldI, if_neg h1, Int.toNat_natCast, e, Option.elim])
   clear h1
   go_wp2
   go_ret
   exact ⟨ret_int hv.out.symm, hw.out⟩
set_option maxRecDepth 100000 in
set_option maxHeartbeats 1000000 in
theorem param07_any (w : World) (A1 A2 A3 A4 A5 A6 A7 : Option Addr) (p : Pg) (c1 c2 c3 c4 c5 c6 c7 : Nat) (n : Int) (s : ByteArray) {B : Nat} (hB : B ≤ w.heap.size) (h : PgS w B A1 A2 A3 A4 A5 A6 A7 p) :
  Calls Tryz.prog 136 #[.agg #[.slice A1 p.headers.length c1, .slice A2 p.metas.length c2, .slice A3 p.states.length c3, .slice A4 p.actions.length c4, .slice A5 p.tables.length c5, .slice A6 p.control.length c6, .slice A7 p.emit.length c7], .int .i64 n, .string s] w fun e w' => e = .returned (.int .i64 (paramI p n s)) ∧ Below w.heap.size w w' := by
 obtain ⟨wa, hwa, hsa, hba, hca, -⟩ := box1 w #[.slice A1 p.headers.length c1, .slice A2 p.metas.length c2, .slice A3 p.states.length c3, .slice A4 p.actions.length c4, .slice A5 p.tables.length c5, .slice A6 p.control.length c6, .slice A7 p.emit.length c7] 30
 obtain ⟨y0, y1, y2, y3, y4, y5, y6⟩ := row7 (w := wa) (a := w.heap.size) fun i => hca i
 have hl := h.actions.len
 have hS := hide (h.actions.below sta_ac (hba.mono hB))
 have hw := hide hba
 clear hca hba h
 go_enter Tryz.func136, Tryz.ntmps136
 by_cases h1 : n < 0
 ·have hv := hide (show paramI p n s = -1 from by simp [paramI, h1])
  go_wp2
  go_ret
  exact ⟨ret_int hv.out.symm, hw.out⟩
 ·have h2 : 0 ≤ n := by omega
  obtain ⟨k, rfl⟩ := Int.eq_ofNat_of_zero_le h2
  by_cases h3 : k < p.actions.length
  ·have h4 : (k : Int) < (p.actions.length : Int) := by omega
   have h5 : ¬ (p.actions.length : Int) ≤ (k : Int) := by omega
   obtain ⟨b, o, ecs, hA, hb, hel, hcell, hr⟩ := hS.out.2 k _ (List.getElem?_eq_getElem h3)
   subst hA
   obtain ⟨FA, fc, FB, fd, rfl, hn, hF, hBd⟩ := hr
   have hlF := hF.len
   have hlB := hBd.len
   obtain ⟨x0, x1, x2⟩ := srow3 hcell
   clear hBd
   have hv := hide (show paramI p k s = fieldsI p.actions[k].params s from by simp only [paramI, if_neg h1, Int.toNat_natCast, List.getElem?_eq_getElem h3, Option.elim])
   have hX := hide (fun c => fieldOf07_any p.actions[k].params FA c s wa hF)
   generalize fieldsI p.actions[k].params s = z at hv hX
   clear hcell hF hel h1
   go_wp2_with (go_at_call 170; refine (hX.out _).mono ?_; rintro e w1 ⟨rfl, rfl⟩)
   go_ret
   exact ⟨ret_int hv.out.symm, hw.out⟩
  ·have h4 : (p.actions.length : Int) ≤ (k : Int) := by omega
   have h5 : ¬ (k : Int) < (p.actions.length : Int) := by omega
   have hv := hide (show paramI p k s = -1 from by
    have e : p.actions[k]? = none := List.getElem?_eq_none (by omega)
    simp only [paramI, if_neg h1, Int.toNat_natCast, e, Option.elim])
   clear h1
   go_wp2
   go_ret
   exact ⟨ret_int hv.out.symm, hw.out⟩
end Go.Proofs.YtcgmkjpgaigmfaaGreat

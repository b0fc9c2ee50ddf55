import Derived.Test.YtcgmkjpgaigmfaaGreatOnc10
import Derived.Test.YtcgmkjpgaigmfaaGreatOnc01
import Derived.Test.YtcgmkjpgaigmfaaGreatOnc03
import Derived.Test.YtcgmkjpgaigmfaaGreatShelf
set_option linter.all false
/-! Layer 7: Field. -/
namespace Go.Proofs.YtcgmkjpgaigmfaaGreat
open Go.RowKit
set_option maxHeartbeats 1000000 in
theorem field_any (w : World) (A1 A2 A3 A4 A5 A6 A7 : Option Addr) (p : Pg) (c1 c2 c3 c4 c5 c6 c7 : Nat) (x : Int) (s : ByteArray) {B : Nat} (hB : B ≤ w.heap.size) (h : PgS w B A1 A2 A3 A4 A5 A6 A7 p) :
    Calls Tryz.prog 59 #[.agg #[.slice A1 p.headers.length c1, .slice A2 p.metas.length c2, .slice A3 p.states.length c3, .slice A4 p.actions.length c4, .slice A5 p.tables.length c5, .slice A6 p.control.length c6, .slice A7 p.emit.length c7], .int .i64 x, .string s] w fun e w' => e = .returned (.int .i64 (fieldI p x s)) ∧ Below w.heap.size w w' := by
  obtain ⟨wb, hwb, hsz, hw, hcb, -⟩ := box1 w #[.slice A1 p.headers.length c1, .slice A2 p.metas.length c2, .slice A3 p.states.length c3, .slice A4 p.actions.length c4, .slice A5 p.tables.length c5, .slice A6 p.control.length c6, .slice A7 p.emit.length c7] 30
  have y0 : wb.cell? ⟨w.heap.size, 0, none⟩ = some (.slice A1 p.headers.length c1) := hcb 0
  have hl := h.headers.len
  have hS := h.headers.below sta_hd (hw.mono hB)
  replace hw := hide hw
  clear hcb h
  go_enter Tryz.func59, Tryz.ntmps59
  by_cases h0 : x < 0
  · have hv := hide (show fieldI p x s = -1 from by unfold fieldI; rw [if_pos h0])
    go_wp2
    go_ret
    exact ⟨ret_int hv.out.symm, hw.out⟩
  · by_cases h1 : x < (p.headers.length : Int)
    · obtain ⟨k, rfl⟩ := Int.eq_ofNat_of_zero_le (show 0 ≤ x by omega)
      have hlt : k < p.headers.length := by omega
      obtain ⟨b, o, ecs, rfl, hb, hel, hcell, A', c', rfl, hn, hF⟩ := hS.2 k _ (List.getElem?_eq_getElem hlt)
      have hv := hide (show fieldI p (k : Int) s = fieldsI p.headers[k].fields s from by unfold fieldI; rw [if_neg h0, Int.toNat_natCast, List.getElem?_eq_getElem hlt]; rfl)
      have hl' := hF.len
      have x0 : wb.cell? ⟨b, o + k * 2, none⟩ = some (.string p.headers[k].name) := by simpa using hcell 0 _ rfl
      have x1 : wb.cell? ⟨b, o + k * 2 + 1, none⟩ = some (.slice A' p.headers[k].fields.length c') := hcell 1 _ rfl
      have hcall := find_Field A' c' p.headers[k].fields s wb (by omega) hF
      clear hcell hF hS
      go_wp2_with (go_at_call 118; refine hcall.mono ?_; rintro e w' ⟨rfl, hb⟩)
      go_ret
      exact ⟨ret_int hv.out.symm, hw.out.trans (hb.mono (by omega))⟩
    · have hv := hide (show fieldI p x s = -1 from by unfold fieldI; rw [if_neg h0, List.getElem?_eq_none (by omega)]; rfl)
      go_wp2
      go_ret
      exact ⟨ret_int hv.out.symm, hw.out⟩
end Go.Proofs.YtcgmkjpgaigmfaaGreat
/-! Layer 7: Param. -/
namespace Go.Proofs.YtcgmkjpgaigmfaaGreat
open Go.RowKit
set_option maxHeartbeats 1000000 in
theorem param_any (w : World) (A1 A2 A3 A4 A5 A6 A7 : Option Addr) (p : Pg) (c1 c2 c3 c4 c5 c6 c7 : Nat) (x : Int) (s : ByteArray) {B : Nat} (hB : B ≤ w.heap.size) (h : PgS w B A1 A2 A3 A4 A5 A6 A7 p) :
    Calls Tryz.prog 62 #[.agg #[.slice A1 p.headers.length c1, .slice A2 p.metas.length c2, .slice A3 p.states.length c3, .slice A4 p.actions.length c4, .slice A5 p.tables.length c5, .slice A6 p.control.length c6, .slice A7 p.emit.length c7], .int .i64 x, .string s] w fun e w' => e = .returned (.int .i64 (paramI p x s)) ∧ Below w.heap.size w w' := by
  obtain ⟨wb, hwb, hsz, hw, hcb, -⟩ := box1 w #[.slice A1 p.headers.length c1, .slice A2 p.metas.length c2, .slice A3 p.states.length c3, .slice A4 p.actions.length c4, .slice A5 p.tables.length c5, .slice A6 p.control.length c6, .slice A7 p.emit.length c7] 30
  have y0 : wb.cell? ⟨w.heap.size, 3, none⟩ = some (.slice A4 p.actions.length c4) := hcb 3
  have hl := h.actions.len
  have hS := h.actions.below sta_ac (hw.mono hB)
  replace hw := hide hw
  clear hcb h
  go_enter Tryz.func62, Tryz.ntmps62
  by_cases h0 : x < 0
  · have hv := hide (show paramI p x s = -1 from by unfold paramI; rw [if_pos h0])
    go_wp2
    go_ret
    exact ⟨ret_int hv.out.symm, hw.out⟩
  · by_cases h1 : x < (p.actions.length : Int)
    · obtain ⟨k, rfl⟩ := Int.eq_ofNat_of_zero_le (show 0 ≤ x by omega)
      have hlt : k < p.actions.length := by omega
      obtain ⟨b, o, ecs, rfl, hb, hel, hcell, A', c', A'', c'', rfl, hn, hF, hG⟩ := hS.2 k _ (List.getElem?_eq_getElem hlt)
      have hv := hide (show paramI p (k : Int) s = fieldsI p.actions[k].params s from by unfold paramI; rw [if_neg h0, Int.toNat_natCast, List.getElem?_eq_getElem hlt]; rfl)
      have hl' := hF.len
      have x0 : wb.cell? ⟨b, o + k * 3, none⟩ = some (.string p.actions[k].name) := by simpa using hcell 0 _ rfl
      have x1 : wb.cell? ⟨b, o + k * 3 + 1, none⟩ = some (.slice A' p.actions[k].params.length c') := hcell 1 _ rfl
      have x2 : wb.cell? ⟨b, o + k * 3 + 2, none⟩ = some (.slice A'' p.actions[k].body.length c'') := hcell 2 _ rfl
      have hl2 := hG.len
      have hcall := find_Field A' c' p.actions[k].params s wb (by omega) hF
      clear hcell hF hS hG
      go_wp2_with (go_at_call 118; refine hcall.mono ?_; rintro e w' ⟨rfl, hb⟩)
      go_ret
      exact ⟨ret_int hv.out.symm, hw.out.trans (hb.mono (by omega))⟩
    · have hv := hide (show paramI p x s = -1 from by unfold paramI; rw [if_neg h0, List.getElem?_eq_none (by omega)]; rfl)
      go_wp2
      go_ret
      exact ⟨ret_int hv.out.symm, hw.out⟩
end Go.Proofs.YtcgmkjpgaigmfaaGreat
/-! Printed by gen_g.py: resolve.Header, Action, Table. -/
namespace Go.Proofs.YtcgmkjpgaigmfaaGreat
open Go.RowKit
set_option maxHeartbeats 1000000 in
theorem header_any (w : World) (A1 A2 A3 A4 A5 A6 A7 : Option Addr) (p : Pg) (c1 c2 c3 c4 c5 c6 c7 : Nat) (s : ByteArray) {B : Nat} (hB : B ≤ w.heap.size) (h : PgS w B A1 A2 A3 A4 A5 A6 A7 p) :
    Calls Tryz.prog 10 #[.agg #[.slice A1 p.headers.length c1, .slice A2 p.metas.length c2, .slice A3 p.states.length c3, .slice A4 p.actions.length c4, .slice A5 p.tables.length c5, .slice A6 p.control.length c6, .slice A7 p.emit.length c7], .string s] w fun e w' => e = .returned (.int .i64 (headerI p s)) ∧ Below w.heap.size w w' := by
  obtain ⟨wb, hwb, hsz, hw, hcb, -⟩ := box1 w #[.slice A1 p.headers.length c1, .slice A2 p.metas.length c2, .slice A3 p.states.length c3, .slice A4 p.actions.length c4, .slice A5 p.tables.length c5, .slice A6 p.control.length c6, .slice A7 p.emit.length c7] 30
  have y1 : wb.cell? ⟨w.heap.size, 0, none⟩ = some (.slice A1 p.headers.length c1) := hcb 0
  have hcall := find_Header A1 c1 p.headers s wb (by omega) (h.headers.below sta_hd (hw.mono hB))
  replace hw := hide hw
  clear hcb h
  go_enter Tryz.func10, Tryz.ntmps10
  go_wp2_with (go_at_call 26; refine hcall.mono ?_; rintro e w' ⟨rfl, hb⟩)
  go_ret
  exact ⟨rfl, hw.out.trans (hb.mono (by omega))⟩
set_option maxHeartbeats 1000000 in
theorem action_any (w : World) (A1 A2 A3 A4 A5 A6 A7 : Option Addr) (p : Pg) (c1 c2 c3 c4 c5 c6 c7 : Nat) (s : ByteArray) {B : Nat} (hB : B ≤ w.heap.size) (h : PgS w B A1 A2 A3 A4 A5 A6 A7 p) :
    Calls Tryz.prog 12 #[.agg #[.slice A1 p.headers.length c1, .slice A2 p.metas.length c2, .slice A3 p.states.length c3, .slice A4 p.actions.length c4, .slice A5 p.tables.length c5, .slice A6 p.control.length c6, .slice A7 p.emit.length c7], .string s] w fun e w' => e = .returned (.int .i64 (actionI p s)) ∧ Below w.heap.size w w' := by
  obtain ⟨wb, hwb, hsz, hw, hcb, -⟩ := box1 w #[.slice A1 p.headers.length c1, .slice A2 p.metas.length c2, .slice A3 p.states.length c3, .slice A4 p.actions.length c4, .slice A5 p.tables.length c5, .slice A6 p.control.length c6, .slice A7 p.emit.length c7] 30
  have y1 : wb.cell? ⟨w.heap.size, 3, none⟩ = some (.slice A4 p.actions.length c4) := hcb 3
  have hcall := find_Action A4 c4 p.actions s wb (by omega) (h.actions.below sta_ac (hw.mono hB))
  replace hw := hide hw
  clear hcb h
  go_enter Tryz.func12, Tryz.ntmps12
  go_wp2_with (go_at_call 28; refine hcall.mono ?_; rintro e w' ⟨rfl, hb⟩)
  go_ret
  exact ⟨rfl, hw.out.trans (hb.mono (by omega))⟩
set_option maxHeartbeats 1000000 in
theorem table_any (w : World) (A1 A2 A3 A4 A5 A6 A7 : Option Addr) (p : Pg) (c1 c2 c3 c4 c5 c6 c7 : Nat) (s : ByteArray) {B : Nat} (hB : B ≤ w.heap.size) (h : PgS w B A1 A2 A3 A4 A5 A6 A7 p) :
    Calls Tryz.prog 13 #[.agg #[.slice A1 p.headers.length c1, .slice A2 p.metas.length c2, .slice A3 p.states.length c3, .slice A4 p.actions.length c4, .slice A5 p.tables.length c5, .slice A6 p.control.length c6, .slice A7 p.emit.length c7], .string s] w fun e w' => e = .returned (.int .i64 (tableI p s)) ∧ Below w.heap.size w w' := by
  obtain ⟨wb, hwb, hsz, hw, hcb, -⟩ := box1 w #[.slice A1 p.headers.length c1, .slice A2 p.metas.length c2, .slice A3 p.states.length c3, .slice A4 p.actions.length c4, .slice A5 p.tables.length c5, .slice A6 p.control.length c6, .slice A7 p.emit.length c7] 30
  have y1 : wb.cell? ⟨w.heap.size, 4, none⟩ = some (.slice A5 p.tables.length c5) := hcb 4
  have hcall := find_Table A5 c5 p.tables s wb (by omega) (h.tables.below sta_ta (hw.mono hB))
  replace hw := hide hw
  clear hcb h
  go_enter Tryz.func13, Tryz.ntmps13
  go_wp2_with (go_at_call 30; refine hcall.mono ?_; rintro e w' ⟨rfl, hb⟩)
  go_ret
  exact ⟨rfl, hw.out.trans (hb.mono (by omega))⟩
end Go.Proofs.YtcgmkjpgaigmfaaGreat
/-! Layer 3: names and keywords (the part of DnB, DnC, DnE that speaks of them). -/
namespace Go.Proofs.YtcgmkjpgaigmfaaGreat
open Go.RowKit
set_option maxHeartbeats 400000 in
theorem digit03_any (c : Int) (w : World) : Calls Tryz.prog 122 #[.int .u8 c] w fun e w' => e = .returned (.bool (digitB c)) ∧ w = w' := by
  go_enter Tryz.func122, Tryz.ntmps122
  go_wp2
  all_goals
    go_ret
    exact ⟨ret_bool (by simp [digitB]; omega), rfl⟩
set_option maxHeartbeats 400000 in
theorem isDigit_any (c : Int) (w : World) : Calls Tryz.prog 89 #[.int .u8 c] w fun e w' => e = .returned (.bool (digitB c)) ∧ w = w' := by
  go_enter Tryz.func89, Tryz.ntmps89
  go_wp2
  all_goals
    go_ret
    exact ⟨ret_bool (by simp [digitB]; omega), rfl⟩
set_option maxHeartbeats 400000 in
theorem letter03_any (c : Int) (w : World) : Calls Tryz.prog 124 #[.int .u8 c] w fun e w' => e = .returned (.bool (letterB c)) ∧ w = w' := by
  go_enter Tryz.func124, Tryz.ntmps124
  go_wp2
  all_goals
    go_ret
    exact ⟨ret_bool (by simp [letterB]; omega), rfl⟩
set_option maxHeartbeats 400000 in
theorem isWord_any (c : Int) (w : World) : Calls Tryz.prog 141 #[.int .u8 c] w fun e w' => e = .returned (.bool (wordB c)) ∧ w = w' := by
  go_enter Tryz.func141, Tryz.ntmps141
  go_wp2_with (go_at_call 89; refine (isDigit_any _ _).mono ?_; rintro e w' ⟨rfl, rfl⟩)
  all_goals
    go_ret
    refine ⟨ret_bool ?_, rfl⟩
    simp only [digitB, decide_eq_true_eq, decide_eq_false_iff_not] at *
    simp [wordB, digitB, letterB]; try omega
set_option maxHeartbeats 400000 in
theorem word_any (s : ByteArray) (w : World) (hs : s.size ≤ maxLen) :
    Calls Tryz.prog 88 #[.string s] w fun e w' => e = .returned (.string (s.extract 0 (wlen s))) ∧ w = w' := by
  have hl : s.size ≤ 9223372036854775807 := hs
  go_enter Tryz.func88, Tryz.ntmps88
  go_wp2
  go_loop [3] (fun i => ∃ k : Nat, k ≤ s.size ∧ i = .int .i64 k ∧ k ≤ wlen s) (fun i => s.size - (intOf i).toNat)
  case atStart => exact ⟨0, Nat.zero_le _, rfl, Nat.zero_le _⟩
  case round =>
    obtain ⟨k, hk, rfl, hc⟩ := hrel
    by_cases hlt : k < s.size
    · go_wp2_with (go_at_call 141; refine (isWord_any _ _).mono ?_; rintro e w' ⟨rfl, rfl⟩)
      · go_round
        case rel => exact ⟨k + 1, by omega, by go_num, wlen_succ hlt hc (by assumption)⟩
        case measure => simp [intOf]; omega
      · go_ret
        rw [wlen_stop hlt hc (by assumption)]
        exact ⟨rfl, rfl⟩
    · go_wp2_with (go_at_call 141; refine (isWord_any _ _).mono ?_; rintro e w' ⟨rfl, rfl⟩)
      go_ret
      rw [wlen_end hk hlt hc]
      exact ⟨rfl, rfl⟩
set_option maxHeartbeats 400000 in
theorem isKeyword_any (s : ByteArray) (m : Int) (w : World) (hs : s.size < 4294967281) (hm : w.cell? ⟨0, 0, none⟩ = some (.int .i64 m)) :
    Calls Tryz.prog 90 #[.string s] w fun e w' => e = .returned (.bool (kwB s)) ∧ w = w' := by
  go_enter Tryz.func90, Tryz.ntmps90
  by_cases h0 : s.toList = []
  · have h0' : s.toList.isEmpty = true := by simp [h0]
    go_wp2
    go_ret
    exact ⟨ret_b (kwB_empty h0).symm, rfl⟩
  · have h0' : s.toList.isEmpty = false := by simp [h0]
    go_wp2_with fail
    refine (Tryz.strings_Contains _ _ m _ hs hm).mono ?_
    rintro e w' ⟨rfl, rfl⟩
    cases hb : Go.Lib.contains s.data.toList (ByteArray.mk #[32]).data.toList with
    | true =>
      go_wp2_with fail
      go_ret
      exact ⟨ret_b (kwB_blank hb).symm, rfl⟩
    | false =>
      go_wp2_with fail
      refine (Tryz.strings_Contains _ _ m _ (by decide +kernel) hm).mono ?_
      rintro e w' ⟨rfl, rfl⟩
      rw [kwB_eq s _ (by decide +kernel) h0 (by assumption)]
      go_wp2_with fail
      go_ret
      exact ⟨rfl, rfl⟩
set_option maxHeartbeats 1000000 in
theorem isName_any (s : ByteArray) (m : Int) (w : World) (hs : s.size ≤ maxLen) (hm : w.cell? ⟨0, 0, none⟩ = some (.int .i64 m)) :
    Calls Tryz.prog 35 #[.string s] w fun e w' => e = .returned (.bool (nameB s)) ∧ w = w' := by
  have hn := hide (nameB_eq s)
  go_enter Tryz.func35, Tryz.ntmps35
  cases ha : ((s.extract 0 (wlen s)).toList == s.toList) with
  | false =>
    go_wp2_with (go_at_call 88; refine (word_any _ _ hs).mono ?_; rintro e w' ⟨rfl, rfl⟩)
    go_ret
    exact ⟨ret_b (by rw [hn.out, ha]; rfl), rfl⟩
  | true =>
    by_cases h0 : 0 < s.size
    · have h0' : s.toList.isEmpty = false := isEmpty_false h0
      by_cases h16 : s.size ≤ 16
      · cases hd : digitB (s[0].toNat : Nat) with
        | true =>
          go_wp2_with (first | (go_at_call 88; refine (word_any _ _ hs).mono ?_; rintro e w' ⟨rfl, rfl⟩) | (go_at_call 89; refine (isDigit_any _ _).mono ?_; rintro e w' ⟨rfl, rfl⟩))
          go_ret
          exact ⟨ret_b (by rw [hn.out, headD_eq h0, hd]; simp), rfl⟩
        | false =>
          go_wp2_with (first | (go_at_call 88; refine (word_any _ _ hs).mono ?_; rintro e w' ⟨rfl, rfl⟩) | (go_at_call 89; refine (isDigit_any _ _).mono ?_; rintro e w' ⟨rfl, rfl⟩) | (go_at_call 90; refine (isKeyword_any _ m _ (by omega) hm).mono ?_; rintro e w' ⟨rfl, rfl⟩))
          go_ret
          exact ⟨ret_b (by rw [hn.out, headD_eq h0, hd, ha, h0']; simp [h16]), rfl⟩
      · go_wp2_with (go_at_call 88; refine (word_any _ _ hs).mono ?_; rintro e w' ⟨rfl, rfl⟩)
        go_ret
        exact ⟨ret_b (by rw [hn.out]; simp [h16]), rfl⟩
    · have h0' : s.toList.isEmpty = true := isEmpty_true h0
      go_wp2_with (go_at_call 88; refine (word_any _ _ hs).mono ?_; rintro e w' ⟨rfl, rfl⟩)
      go_ret
      exact ⟨ret_b (by rw [hn.out, h0']; simp), rfl⟩
theorem kwArr_sl (w : World) (t : TypeId) : Sl 1 rStr (w.alloc (.cells (kwArr.map Value.string).toArray t)) (w.heap.size + 1) (some ⟨w.heap.size, 0, none⟩) kwArr :=
  Sl.new1 kwArr Value.string t (by decide) fun x hx => ⟨rfl, by have := kwArr_size x hx; simp [maxLen]; omega⟩
theorem kwArr_len : kwArr.length = 32 := rfl
set_option maxHeartbeats 400000 in
theorem isKeyword03_any (s : ByteArray) (w : World) :
    Calls Tryz.prog 123 #[.string s] w fun e w' => e = .returned (.bool (kwB s)) ∧ Below w.heap.size w w' := by
  have hkb := hide (kwB_arr s)
  go_enter Tryz.func123, Tryz.ntmps123
  go_wp2
  have hb1 : Below w.heap.size w (w.alloc (.cells (kwArr.map Value.string).toArray 9)) := (Below.refl _ _).alloc (Nat.le_refl _) _
  have hsl := kwArr_sl w 9
  change Code.wp _ _ _ _ (w.alloc (.cells (kwArr.map Value.string).toArray 9))
  generalize w.alloc (.cells (kwArr.map Value.string).toArray 9) = w1 at hb1 hsl ⊢
  go_loop [4] (fun i => ∃ k : Nat, k ≤ 32 ∧ i = .int .i64 k ∧ s ∉ kwArr.take k) (fun i => 32 - (intOf i).toNat)
  case atStart => exact ⟨0, Nat.zero_le _, rfl, by simp⟩
  case round =>
    obtain ⟨k, hk, rfl, hc⟩ := hrel
    by_cases hlt : k < 32
    · obtain ⟨b, o, hA, hb, hcell, -⟩ := hsl.str (i := k) (by rw [kwArr_len]; exact hlt)
      obtain ⟨rfl, rfl⟩ : b = w.heap.size ∧ o = 0 := by simp at hA; omega
      have hk' : k < kwArr.length := by rw [kwArr_len]; exact hlt
      simp only [Nat.zero_add] at hcell
      clear hA hsl
      by_cases he : kwArr[k] = s
      · have ht := str_eq he
        have hv := hide (show s ∈ kwArr from by rw [← he]; exact List.getElem_mem _)
        clear he
        generalize kwArr[k] = kk at hcell ht
        go_wp2
        go_ret
        exact ⟨ret_b (by rw [hkb.out]; simpa using hv.out), hb1⟩
      · have ht := str_ne he
        have hv := hide (notMem_take_snoc hk' hc he)
        clear he
        generalize kwArr[k] = kk at hcell ht
        go_wp2
        go_round
        case rel => exact ⟨k + 1, by omega, by go_num, hv.out⟩
        case measure => simp [intOf]; omega
    · go_wp2
      go_ret
      exact ⟨ret_b (by rw [hkb.out]; simpa using notMem_of_take (xs := kwArr) hk hlt hc), hb1⟩
set_option maxHeartbeats 1000000 in
theorem isName03_any (s : ByteArray) (w : World) :
    Calls Tryz.prog 67 #[.string s] w fun e w' => e = .returned (.bool (nameB s)) ∧ Below w.heap.size w w' := by
  go_enter Tryz.func67, Tryz.ntmps67
  by_cases h0 : s.size < 1
  · have hv := hide (show nameB s = false from by simp [nameB]; omega)
    go_wp2
    go_ret
    exact ⟨ret_b hv.out.symm, bl_self⟩
  · by_cases h16 : 16 < s.size
    · have hv := hide (show nameB s = false from by simp [nameB]; omega)
      go_wp2
      go_ret
      exact ⟨ret_b hv.out.symm, bl_self⟩
    · have h0' : 0 < s.size := by omega
      have hhd := hide (headD_eq h0')
      cases hd : digitB (s[0].toNat : Nat) with
      | true =>
        have hv := hide (show nameB s = false from by rw [nameB, hhd.out, hd]; simp)
        go_wp2_with (go_at_call 122; refine (digit03_any _ _).mono ?_; rintro e w' ⟨rfl, rfl⟩)
        go_ret
        exact ⟨ret_b hv.out.symm, bl_self⟩
      | false =>
        cases hkw : kwB s with
        | true =>
          have hv := hide (show nameB s = false from by simp [nameB, hkw])
          go_wp2_with (first | (go_at_call 122; refine (digit03_any _ _).mono ?_; rintro e w' ⟨rfl, rfl⟩) | (go_at_call 123; refine (isKeyword03_any _ _).mono ?_; rintro e w1 ⟨rfl, hb1⟩))
          go_ret
          exact ⟨ret_b hv.out.symm, hb1⟩
        | false =>
          have hv := hide (show nameB s = s.data.toList.all (fun c => wordB c.toNat) from by rw [nameB, hhd.out, hd, hkw]; simp; omega)
          go_wp2_with (first | (go_at_call 122; refine (digit03_any _ _).mono ?_; rintro e w' ⟨rfl, rfl⟩) | (go_at_call 123; refine (isKeyword03_any _ _).mono ?_; rintro e w1 ⟨rfl, hb1⟩))
          go_loop [3] (fun i => ∃ k : Nat, k ≤ s.size ∧ i = .int .i64 k ∧ k ≤ wlen s) (fun i => s.size - (intOf i).toNat)
          case atStart => exact ⟨0, Nat.zero_le _, rfl, Nat.zero_le _⟩
          case round =>
            obtain ⟨k, hk, rfl, hc⟩ := hrel
            by_cases hlt : k < s.size
            · cases hw : wordB (s[k].toNat : Nat) with
              | true =>
                have hv' := hide (wlen_succ hlt hc hw)
                cases hl : letterB (s[k].toNat : Nat) with
                | true =>
                  go_wp2_with (first | (go_at_call 122; refine (digit03_any _ _).mono ?_; rintro e w' ⟨rfl, rfl⟩) | (go_at_call 124; refine (letter03_any _ _).mono ?_; rintro e w' ⟨rfl, rfl⟩))
                  go_round
                  case rel => exact ⟨k + 1, by omega, by go_num, hv'.out⟩
                  case measure => simp [intOf]; omega
                | false =>
                  have hdd : digitB (s[k].toNat : Nat) = true := by simpa [wordB, hl] using hw
                  go_wp2_with (first | (go_at_call 122; refine (digit03_any _ _).mono ?_; rintro e w' ⟨rfl, rfl⟩) | (go_at_call 124; refine (letter03_any _ _).mono ?_; rintro e w' ⟨rfl, rfl⟩))
                  go_round
                  case rel => exact ⟨k + 1, by omega, by go_num, hv'.out⟩
                  case measure => simp [intOf]; omega
              | false =>
                have hv' := hide (show nameB s = false from by
                  have := wlen_stop hlt hc hw
                  rw [hv.out, Bool.eq_false_iff, Ne, ← wlenL_all]
                  simp [wlen] at this ⊢; omega)
                have hl : letterB (s[k].toNat : Nat) = false := by simp [wordB] at hw; exact hw.2
                have hdd : digitB (s[k].toNat : Nat) = false := by simp [wordB] at hw; exact hw.1
                go_wp2_with (first | (go_at_call 122; refine (digit03_any _ _).mono ?_; rintro e w' ⟨rfl, rfl⟩) | (go_at_call 124; refine (letter03_any _ _).mono ?_; rintro e w' ⟨rfl, rfl⟩))
                go_ret
                exact ⟨ret_b hv'.out.symm, hb1⟩
            · have hv' := hide (show nameB s = true from by
                have := wlen_end hk hlt hc
                rw [hv.out, ← wlenL_all]
                simp [wlen] at this ⊢; omega)
              go_wp2
              go_ret
              exact ⟨ret_b hv'.out.symm, hb1⟩
end Go.Proofs.YtcgmkjpgaigmfaaGreat

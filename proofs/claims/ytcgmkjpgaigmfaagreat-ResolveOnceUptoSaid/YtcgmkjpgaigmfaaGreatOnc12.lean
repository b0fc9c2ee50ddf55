import Derived.Test.YtcgmkjpgaigmfaaGreatOnc08
import Derived.Test.YtcgmkjpgaigmfaaGreatOnc11
set_option linter.all false
/-! Layer 4's small questions: widths, targets, names that are asked for, fields. -/
namespace Go.Proofs.YtcgmkjpgaigmfaaGreat
open Go.RowKit
theorem lit_iff {s : ByteArray} (l : List UInt8) : s = ByteArray.mk l.toArray ↔ s.toList = l := by
  rw [ByteArray.toList_eq]
  constructor
  · intro h; rw [h]
  · intro h; rw [← h]
theorem acc_iff {s : ByteArray} : s = accS ↔ s.toList = [97, 99, 99, 101, 112, 116] := lit_iff _
theorem rej_iff {s : ByteArray} : s = rejS ↔ s.toList = [114, 101, 106, 101, 99, 116] := lit_iff _
theorem emp_iff {s : ByteArray} : s = strE ↔ s.toList = [] := lit_iff _
set_option maxHeartbeats 400000 in
theorem isWidth_any (n : Int) (w : World) : Calls Tryz.prog 93 #[.int .i64 n] w fun e w' => e = .returned (.bool (widthB n)) ∧ w = w' := by
  go_enter Tryz.func93, Tryz.ntmps93
  by_cases h1 : 1 ≤ n
  · by_cases h2 : n ≤ 128
    · go_wp2
      go_ret
      exact ⟨ret_b (by simp [widthB, h1, h2]), rfl⟩
    · go_wp2
      go_ret
      exact ⟨ret_b (by simp [widthB, h2]), rfl⟩
  · go_wp2
    go_ret
    exact ⟨ret_b (by simp [widthB]; omega), rfl⟩
set_option maxHeartbeats 1000000 in
theorem isTarget_any (s : ByteArray) (m : Int) (w : World) (hs : s.size ≤ maxLen) (hm : w.cell? ⟨0, 0, none⟩ = some (.int .i64 m)) :
    Calls Tryz.prog 98 #[.string s] w fun e w' => e = .returned (.bool (targetB s)) ∧ w = w' := by
  go_enter Tryz.func98, Tryz.ntmps98
  by_cases h1 : s = accS
  · have e1 := acc_iff.1 h1
    have hv := hide (show targetB s = true from by simp [targetB, h1])
    clear h1
    go_wp2
    go_ret
    exact ⟨ret_b hv.out.symm, rfl⟩
  · have e1 := fun h => h1 (acc_iff.2 h)
    by_cases h2 : s = rejS
    · have e2 := rej_iff.1 h2
      have hv := hide (show targetB s = true from by simp [targetB, h2])
      clear h1 h2
      go_wp2
      go_ret
      exact ⟨ret_b hv.out.symm, rfl⟩
    · have e2 := fun h => h2 (rej_iff.2 h)
      have hv := hide (show targetB s = nameB s from by simp [targetB, h1, h2])
      clear h1 h2
      go_wp2_with (go_at_call 35; refine (isName_any s m _ hs hm).mono ?_; rintro e w' ⟨rfl, rfl⟩)
      go_ret
      exact ⟨ret_b (by rw [hv.out, beq_eq_false_iff_ne.2 e1, beq_eq_false_iff_ne.2 e2]; rfl), rfl⟩
set_option maxHeartbeats 1000000 in
theorem named_any (s : ByteArray) (b : Bool) (m : Int) (w : World) (hs : s.size ≤ maxLen) (hm : w.cell? ⟨0, 0, none⟩ = some (.int .i64 m)) :
    Calls Tryz.prog 148 #[.string s, .bool b] w fun e w' => e = .returned (.bool (namedB s b)) ∧ w = w' := by
  go_enter Tryz.func148, Tryz.ntmps148
  cases b with
  | true =>
    cases hn : nameB s with
    | true =>
      have hv := hide hn
      have hc := isName_any s m w hs hm
      rw [hn] at hc
      clear hn
      go_wp2_with (go_at_call 35; refine hc.mono ?_; rintro e w' ⟨rfl, rfl⟩)
      go_ret
      exact ⟨ret_b (by simp [namedB, hv.out]), rfl⟩
    | false =>
      have hv := hide hn
      have hc := isName_any s m w hs hm
      rw [hn] at hc
      clear hn
      go_wp2_with (go_at_call 35; refine hc.mono ?_; rintro e w' ⟨rfl, rfl⟩)
      go_ret
      exact ⟨ret_b (by simp [namedB, hv.out]), rfl⟩
  | false =>
    by_cases h1 : s = strE
    · have e1 := emp_iff.1 h1
      have hv := hide (show namedB s false = true from by simp [namedB, h1])
      clear h1
      go_wp2
      go_ret
      exact ⟨ret_b hv.out.symm, rfl⟩
    · have e1 := fun h => h1 (emp_iff.2 h)
      have hv := hide (show namedB s false = false from by simp [namedB, h1])
      clear h1
      go_wp2
      go_ret
      exact ⟨ret_b (by rw [hv.out]; simpa using e1), rfl⟩
set_option maxHeartbeats 1000000 in
theorem isField_any (f : Fd) (m : Int) (w : World) (hs : f.1.size ≤ maxLen) (hm : w.cell? ⟨0, 0, none⟩ = some (.int .i64 m)) :
    Calls Tryz.prog 37 #[.agg #[.string f.1, .int .i64 f.2]] w fun e w' => e = .returned (.bool (fdB f)) ∧ Below w.heap.size w w' := by
  obtain ⟨wb, hwb, hsz, hw, hcb, -⟩ := box1 w #[.string f.1, .int .i64 f.2] 84
  have y0 : wb.cell? ⟨w.heap.size, 0, none⟩ = some (.string f.1) := hcb 0
  have y1 : wb.cell? ⟨w.heap.size, 1, none⟩ = some (.int .i64 f.2) := hcb 1
  have hm' : wb.cell? ⟨0, 0, none⟩ = some (.int .i64 m) := (hw.cell (p := ⟨0, 0, none⟩) (World.block_lt_of_cell? w _ hm)).trans hm
  have hc := isName_any f.1 m wb hs hm'
  have hv := hide (show fdB f = (nameB f.1 && widthB f.2) from rfl)
  replace hw := hide hw
  clear hcb hm hm'
  go_enter Tryz.func37, Tryz.ntmps37
  cases hn : nameB f.1 with
  | true =>
    rw [hn] at hc hv
    clear hn
    go_wp2_with (first | (go_at_call 35; refine hc.mono ?_; rintro e w' ⟨rfl, rfl⟩) | (go_at_call 93; refine (isWidth_any _ _).mono ?_; rintro e w' ⟨rfl, rfl⟩))
    go_ret
    exact ⟨ret_b (by rw [hv.out]; simp), hw.out⟩
  | false =>
    rw [hn] at hc hv
    clear hn
    go_wp2_with (go_at_call 35; refine hc.mono ?_; rintro e w' ⟨rfl, rfl⟩)
    go_ret
    exact ⟨ret_b (by rw [hv.out]; simp), hw.out⟩
end Go.Proofs.YtcgmkjpgaigmfaaGreat
/-! Layer 7: State, Bits. -/
namespace Go.Proofs.YtcgmkjpgaigmfaaGreat
open Go.RowKit
theorem ret_ib {k : IntKind} {a b : Int} {x y : Bool} (h : a = b) (g : x = y) : Ending.returned (.tuple #[.int k a, .bool x]) = .returned (.tuple #[.int k b, .bool y]) := by rw [h, g]
set_option maxHeartbeats 1000000 in
theorem state_any (w : World) (A1 A2 A3 A4 A5 A6 A7 : Option Addr) (p : Pg) (c1 c2 c3 c4 c5 c6 c7 : Nat) (s : ByteArray) {B : Nat} (hB : B ≤ w.heap.size) (h : PgS w B A1 A2 A3 A4 A5 A6 A7 p) :
    Calls Tryz.prog 14 #[.agg #[.slice A1 p.headers.length c1, .slice A2 p.metas.length c2, .slice A3 p.states.length c3, .slice A4 p.actions.length c4, .slice A5 p.tables.length c5, .slice A6 p.control.length c6, .slice A7 p.emit.length c7], .string s] w fun e w' => e = .returned (.tuple #[.int .i64 (stateI p s), .bool (stateB p s)]) ∧ Below w.heap.size w w' := by
  obtain ⟨wb, hwb, hsz, hw, hcb, -⟩ := box1 w #[.slice A1 p.headers.length c1, .slice A2 p.metas.length c2, .slice A3 p.states.length c3, .slice A4 p.actions.length c4, .slice A5 p.tables.length c5, .slice A6 p.control.length c6, .slice A7 p.emit.length c7] 30
  have y1 : wb.cell? ⟨w.heap.size, 2, none⟩ = some (.slice A3 p.states.length c3) := hcb 2
  have hcall := find_State A3 c3 p.states s wb (by omega) (h.states.below sta_sa (hw.mono hB))
  replace hw := hide hw
  clear hcb h
  go_enter Tryz.func14, Tryz.ntmps14
  by_cases h1 : s = accS
  · have e1 := acc_iff.1 h1
    have hv := hide (show stateI p s = -1 ∧ stateB p s = true from by simp [stateI, stateB, h1])
    clear h1
    go_wp2
    go_ret2
    exact ⟨ret_ib hv.out.1.symm hv.out.2.symm, hw.out⟩
  · have e1 : (s.toList == [97, 99, 99, 101, 112, 116]) = false := by rw [beq_eq_false_iff_ne]; exact fun h => h1 (acc_iff.2 h)
    by_cases h2 : s = rejS
    · have e2 := rej_iff.1 h2
      have hv := hide (show stateI p s = -2 ∧ stateB p s = true from by simp [stateI, stateB, h2]; decide)
      clear h1 h2
      go_wp2
      go_ret2
      exact ⟨ret_ib hv.out.1.symm hv.out.2.symm, hw.out⟩
    · have e2 : (s.toList == [114, 101, 106, 101, 99, 116]) = false := by rw [beq_eq_false_iff_ne]; exact fun h => h2 (rej_iff.2 h)
      have hv := hide (show stateI p s = max (findI (p.states.map Sa.name) s) 0 ∧ stateB p s = decide (0 ≤ findI (p.states.map Sa.name) s) from ⟨by simp [stateI, stateR, h1, h2], by unfold stateB stateR; rw [if_neg h1, if_neg h2]⟩)
      clear h1 h2
      generalize findI (p.states.map Sa.name) s = z at hv hcall
      go_wp2_with (go_at_call 32; refine hcall.mono ?_; rintro e w' ⟨rfl, hb⟩)
      go_ret2
      exact ⟨ret_ib hv.out.1.symm hv.out.2.symm, hw.out.trans (hb.mono (by omega))⟩
end Go.Proofs.YtcgmkjpgaigmfaaGreat
/-! Index and Contains over names, Bits. -/
namespace Go.Proofs.YtcgmkjpgaigmfaaGreat
open Go.RowKit
theorem findI_geS {α : Type} [DecidableEq α] (l : List α) (a : α) : decide (0 ≤ findI l a) = decide (a ∈ l) := by
  unfold findI
  by_cases h : a ∈ l <;> simp [h]
set_option maxHeartbeats 400000 in
theorem sindexS_any (A : Option Addr) (cap : Nat) (xs : List ByteArray) (n : ByteArray) (w : World) (h : Sl 1 rStr w w.heap.size A xs) :
    Calls Tryz.prog 65 #[.slice A xs.length cap, .string n] w fun e w' => e = .returned (.int .i64 (findI xs n)) ∧ w = w' := by
  have hl := h.len
  go_enter Tryz.func65, Tryz.ntmps65
  go_wp2
  go_loop [8] (fun i => ∃ k : Nat, k ≤ xs.length ∧ i = .int .i64 k ∧ n ∉ xs.take k) (fun i => xs.length - (intOf i).toNat)
  case atStart => exact ⟨0, Nat.zero_le _, rfl, by simp⟩
  case round =>
    obtain ⟨k, hk, rfl, hc⟩ := hrel
    by_cases hlt : k < xs.length
    · obtain ⟨b, o, rfl, hb, hcell, -⟩ := h.str hlt
      clear h
      by_cases he : xs[k] = n
      · have ht := str_eq he.symm
        have hv := hide (findI_at hlt hc he)
        clear he
        go_wp2
        go_ret
        exact ⟨ret_int hv.out.symm, rfl⟩
      · have ht := str_ne (fun e => he (Eq.symm e))
        have hv := hide (notMem_take_snoc hlt hc he)
        clear he
        go_wp2
        go_round
        case rel => exact ⟨k + 1, by omega, by go_num, hv.out⟩
        case measure => simp [intOf]; omega
    · have hv := hide (findI_no (notMem_of_take hk hlt hc))
      go_wp2
      go_ret
      exact ⟨ret_int hv.out.symm, rfl⟩
set_option maxHeartbeats 400000 in
theorem scontainsS_any (A : Option Addr) (cap : Nat) (xs : List ByteArray) (n : ByteArray) (w : World) (h : Sl 1 rStr w w.heap.size A xs) :
    Calls Tryz.prog 121 #[.slice A xs.length cap, .string n] w fun e w' => e = .returned (.bool (decide (n ∈ xs))) ∧ w = w' := by
  have hv := hide (findI_geS xs n)
  go_enter Tryz.func121, Tryz.ntmps121
  go_wp2_with (go_at_call 65; refine (sindexS_any _ _ _ _ _ h).mono ?_; rintro e w' ⟨rfl, rfl⟩)
  go_ret
  exact ⟨ret_b (hv.out.trans (by congr)), rfl⟩
def bitsN (l : List Fd) : Int := (l.map Prod.snd).sum
theorem bitsN_take {l : List Fd} {k : Nat} (hk : k < l.length) : bitsN (l.take (k + 1)) = bitsN (l.take k) + l[k].2 := by
  unfold bitsN
  rw [List.take_succ_eq_append_getElem hk, List.map_append, List.sum_append]
  simp
theorem bitsN_le : ∀ {l : List Fd}, (∀ f ∈ l, 1 ≤ f.2 ∧ f.2 ≤ 128) → 0 ≤ bitsN l ∧ bitsN l ≤ 128 * l.length
  | [], _ => by simp [bitsN]
  | f :: l, h => by
    have h1 := h f List.mem_cons_self
    have h2 := bitsN_le (l := l) fun x hx => h x (List.mem_cons_of_mem _ hx)
    simp only [bitsN, List.map_cons, List.sum_cons, List.length_cons] at h2 ⊢
    omega
set_option maxHeartbeats 1000000 in
theorem bits_any (h : Hd) (A : Option Addr) (cap : Nat) (w : World) {B : Nat} (hB : B ≤ w.heap.size) (hF : Sl 2 rFd w B A h.fields) (hm : hdB h = true) :
    Calls Tryz.prog 11 #[.agg #[.string h.name, .slice A h.fields.length cap]] w fun e w' => e = .returned (.int .i64 (bitsI h)) ∧ Below w.heap.size w w' := by
  obtain ⟨wb, hwb, hsz, hw, hcb, -⟩ := box1 w #[.string h.name, .slice A h.fields.length cap] 38
  have y0 : wb.cell? ⟨w.heap.size, 0, none⟩ = some (.string h.name) := hcb 0
  have y1 : wb.cell? ⟨w.heap.size, 1, none⟩ = some (.slice A h.fields.length cap) := hcb 1
  have hl := hF.len
  have hS := hide (hF.below sta_fd (hw.mono hB))
  simp only [hdB, Bool.and_eq_true, decide_eq_true_eq] at hm
  have hle := hm.1.2.2
  have hws : ∀ f ∈ h.fields, 1 ≤ f.2 ∧ f.2 ≤ 128 := fun f hf => by
    have := List.all_eq_true.1 hm.2 f hf
    simp only [fdB, widthB, Bool.and_eq_true, decide_eq_true_eq] at this
    exact this.2
  have hsum : ∀ k, 0 ≤ bitsN (h.fields.take k) ∧ bitsN (h.fields.take k) ≤ 2048 := fun k => by
    have := bitsN_le (l := h.fields.take k) fun f hf => hws f (List.mem_of_mem_take hf)
    rw [List.length_take] at this
    omega
  have hws' := hide hws
  have hsum' := hide hsum
  have hv := hide (show bitsI h = bitsN h.fields from rfl)
  replace hw := hide hw
  clear hcb hm hws hsum hF
  go_enter Tryz.func11, Tryz.ntmps11
  go_wp2
  go_loopw [2, 8] (fun n i wr => ∃ k : Nat, k ≤ h.fields.length ∧ i = .int .i64 k ∧ n = .int .i64 (bitsN (h.fields.take k)) ∧ Hid (Below (w.heap.size + 1) wb wr) ∧ w.heap.size + 1 ≤ wr.heap.size) (fun _ i _ => h.fields.length - (intOf i).toNat)
  case atStart => exact ⟨0, Nat.zero_le _, rfl, by simp [bitsN], hide (Below.refl _ _), by omega⟩
  case round =>
    obtain ⟨k, hk, rfl, rfl, hbr, hzr⟩ := hrel
    have hc := bcell' hbr.out
    by_cases hlt : k < h.fields.length
    · obtain ⟨b, o, ecs, hA, hb, hel, hcell, rfl, hz, hi⟩ := hS.out.2 k _ (List.getElem?_eq_getElem hlt)
      subst hA
      have hltz : (k : Int) < (h.fields.length : Int) := by omega
      have x0 : wb.cell? ⟨b, o + k * 2, none⟩ = some (.string h.fields[k].1) := by simpa using hcell 0 _ rfl
      have x1 : wb.cell? ⟨b, o + k * 2 + 1, none⟩ = some (.int .i64 h.fields[k].2) := hcell 1 _ rfl
      have ht := hide (bitsN_take hlt)
      obtain ⟨s1, s2⟩ := hsum'.out k
      obtain ⟨t1, t2⟩ := hws'.out _ (List.getElem_mem hlt)
      obtain ⟨wf, hwf, hzf, hbf, hcf, -⟩ := box1 wr #[.string h.fields[k].1, .int .i64 h.fields[k].2] 84
      have f0 : wf.cell? ⟨wr.heap.size, 0, none⟩ = some (.string h.fields[k].1) := hcf 0
      have f1 : wf.cell? ⟨wr.heap.size, 1, none⟩ = some (.int .i64 h.fields[k].2) := hcf 1
      replace hbf := hide (hbr.out.trans (hbf.mono hzr))
      have hb' : b < w.heap.size + 1 := by omega
      clear hcell hcf
      generalize bitsN (h.fields.take k) = z at *
      go_wp2
      go_roundw
      case rel => exact ⟨k + 1, by omega, by go_num, by rw [ht.out], hbf, by omega⟩
      case measure => simp [intOf]; omega
    · go_wp2
      go_ret
      rw [hv.out, List.take_of_length_le (by omega)]
      exact ⟨rfl, hw.out.trans (hbr.out.mono (Nat.le_succ _))⟩
end Go.Proofs.YtcgmkjpgaigmfaaGreat
/-! Layer 7's small ones: is, either, ofField and the names' closures. -/
namespace Go.Proofs.YtcgmkjpgaigmfaaGreat
open Go.RowKit
set_option maxHeartbeats 400000 in
theorem is_any (b : Bool) (n : Int) (w : World) : Calls Tryz.prog 57 #[.bool b, .int .i64 n] w fun e w' => e = .returned (.int .i64 (isI b n)) ∧ w = w' := by
  go_enter Tryz.func57, Tryz.ntmps57
  cases b <;> (go_wp2; go_ret; exact ⟨rfl, rfl⟩)
set_option maxHeartbeats 400000 in
theorem either_any (e f : Int) (w : World) : Calls Tryz.prog 58 #[.int .i64 e, .int .i64 f] w fun r w' => r = .returned (.int .i64 (eitherI e f)) ∧ w = w' := by
  go_enter Tryz.func58, Tryz.ntmps58
  by_cases h : e = 0
  · have hv := hide (show eitherI e f = f from by simp [eitherI, h])
    subst h
    go_wp2
    go_ret
    exact ⟨ret_int hv.out.symm, rfl⟩
  · have hv := hide (show eitherI e f = e from by simp [eitherI, h])
    go_wp2
    go_ret
    exact ⟨ret_int hv.out.symm, rfl⟩
end Go.Proofs.YtcgmkjpgaigmfaaGreat

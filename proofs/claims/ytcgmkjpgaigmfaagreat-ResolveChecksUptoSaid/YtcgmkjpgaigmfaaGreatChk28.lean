import Derived.Test.YtcgmkjpgaigmfaaGreatChk27
import Derived.Test.YtcgmkjpgaigmfaaGreatChk11
set_option linter.all false
/-! Printed by gen_r4.py. The document's layer 4: widths, numbers, targets, names, fields. -/
namespace Go.Proofs.YtcgmkjpgaigmfaaGreat
open Go.RowKit
theorem all_stop {α : Type} {p : α → Bool} {l : List α} {k : Nat} (hk : k < l.length) (h : p l[k] = false) : l.all p = false := by
 rw [List.all_eq_false]
 exact ⟨_, List.getElem_mem hk, by rw [h]; decide⟩
theorem all_next {α : Type} {p : α → Bool} {l : List α} {k : Nat} (hk : k < l.length) (h : (l.take k).all p = true) (hp : p l[k] = true) : (l.take (k + 1)).all p = true := by
 rw [List.take_succ_eq_append_getElem hk, List.all_append, h]
 simp [hp]
theorem all_end {α : Type} {p : α → Bool} {l : List α} {k : Nat} (h : (l.take k).all p = true) (hk : ¬ k < l.length) : l.all p = true := by
 rw [List.take_of_length_le (by omega)] at h; exact h
set_option maxHeartbeats 400000 in
theorem width04_any (n : Int) (w : World) : Calls Tryz.prog 125 #[.int .i64 n] w fun e w' => e = .returned (.bool (widthB n)) ∧ w = w' := by
 go_enter Tryz.func125, Tryz.ntmps125
 by_cases h1 : 1 ≤ n
 ·have h1' : 0 < n := by omega
  by_cases h2 : n ≤ 128
  ·have h2' : n < 129 := by omega
   go_wp2
   go_ret
   exact ⟨ret_b (by simp [widthB, h1, h2]), rfl⟩
  ·have h2' : ¬ n < 129 := by omega
   go_wp2
   go_ret
   exact ⟨ret_b (by simp [widthB, h2]), rfl⟩
 ·have h1' : ¬ 0 < n := by omega
  go_wp2
  go_ret
  exact ⟨ret_b (by simp [widthB]; omega), rfl⟩
set_option maxHeartbeats 400000 in
theorem mayLit04_any (l : Lt) (w : World) (hl : okLt l) : Calls Tryz.prog 131 #[.agg #[.int .i64 l.1, .int .u64 l.2.1, .int .u64 l.2.2]] w fun e w' => e = .returned (.bool (litB l)) ∧ Below w.heap.size w w' := by
 obtain ⟨wa, hwa, hsa, hba, hca, -⟩ := box1 w #[.int .i64 l.1, .int .u64 l.2.1, .int .u64 l.2.2] 66
 obtain ⟨x0, x1, x2⟩ := row3 hca
 replace hba := hide hba
 clear hca
 by_cases h0 : l.1 = 0
 ·have hv := hide (show litB l = true from by simp [litB, h0])
  generalize l.1 = n at *
  subst h0
  go_enter Tryz.func131, Tryz.ntmps131
  go_wp2
  go_ret
  exact ⟨ret_b hv.out.symm, hba.out⟩
 ·have h0' : (l.1 == 0) = false := beq_eq_false_iff_ne.2 h0
  have hW := width04_any l.1 wa
  cases hw : widthB l.1 with
  | false =>
   rw [hw] at hW
   have hv := hide (show litB l = false from by simp [litB, h0, hw])
   clear hw h0
   go_enter Tryz.func131, Tryz.ntmps131
   go_wp2_with (go_at_call 125; refine hW.mono ?_; rintro e w' ⟨rfl, rfl⟩)
   go_ret
   exact ⟨ret_b hv.out.symm, hba.out⟩
  | true =>
   rw [hw] at hW
   have hn : 1 ≤ l.1 ∧ l.1 ≤ 128 := by simpa [widthB] using hw
   obtain ⟨n, hn0⟩ := Int.eq_ofNat_of_zero_le (show 0 ≤ l.1 by omega)
   have hF := fits01_any l n wa hl (by omega) (by omega)
   rw [← hn0] at hF
   have hv := hide (show litB l = fitsB l.1 l from by simp [litB, h0, hw])
   generalize fitsB l.1 l = z at hv hF
   clear hw h0 hn hn0
   go_enter Tryz.func131, Tryz.ntmps131
   go_wp2_with (first | (go_at_call 125; refine hW.mono ?_; rintro e w' ⟨rfl, rfl⟩) | (go_at_call 169; refine hF.mono ?_; rintro e w1 ⟨rfl, hb1⟩))
   go_ret
   exact ⟨ret_b hv.out.symm, hba.out.trans (hb1.mono (by omega))⟩
set_option maxHeartbeats 400000 in
theorem target04_any (s : ByteArray) (w : World) : Calls Tryz.prog 126 #[.string s] w fun e w' => e = .returned (.bool (targetB s)) ∧ Below w.heap.size w w' := by
 have hX := isName03_any s w
 have hv : targetB s = (nameB s || (decide (s = accS) || decide (s = rejS))) := by
  unfold targetB; cases nameB s <;> simp
 rw [hv]
 clear hv
 generalize nameB s = z at hX ⊢
 cases z with
 | true =>
  go_enter Tryz.func126, Tryz.ntmps126
  go_wp2_with (go_at_call 67; refine hX.mono ?_; rintro e w1 ⟨rfl, hb1⟩)
  go_ret
  exact ⟨rfl, hb1⟩
 | false =>
  by_cases h1 : s = accS
  ·have e1 := acc_iff.1 h1
   have hv := hide (decide_eq_true h1)
   clear h1
   go_enter Tryz.func126, Tryz.ntmps126
   go_wp2_with (go_at_call 67; refine hX.mono ?_; rintro e w1 ⟨rfl, hb1⟩)
   go_ret
   exact ⟨ret_b (by rw [hv.out]; rfl), hb1⟩
  ·have e1 := fun h => h1 (acc_iff.2 h)
   by_cases h2 : s = rejS
   ·have e2 := rej_iff.1 h2
    have hv := hide (decide_eq_true h2)
    clear h1 h2
    go_enter Tryz.func126, Tryz.ntmps126
    go_wp2_with (go_at_call 67; refine hX.mono ?_; rintro e w1 ⟨rfl, hb1⟩)
    go_ret
    exact ⟨ret_b (by rw [hv.out]; simp), hb1⟩
   ·have e2 := fun h => h2 (rej_iff.2 h)
    have hv := hide (decide_eq_false h1)
    have hv2 := hide (decide_eq_false h2)
    clear h1 h2
    go_enter Tryz.func126, Tryz.ntmps126
    go_wp2_with (go_at_call 67; refine hX.mono ?_; rintro e w1 ⟨rfl, hb1⟩)
    go_ret
    exact ⟨ret_b (by rw [hv.out, hv2.out, beq_eq_false_iff_ne.2 e1, beq_eq_false_iff_ne.2 e2]; rfl), hb1⟩
set_option maxRecDepth 100000 in
set_option maxHeartbeats 400000 in
theorem names04p_any {B : Nat} (l : List ByteArray) (A : Option Addr) (cap : Nat) (w : World) (hB : B ≤ w.heap.size) (h : Sl 1 rStr w B A l) :
  Calls Tryz.prog 72 #[.slice A l.length cap] w fun e w' => e = .returned (.bool (l.all nameB)) ∧ Below w.heap.size w w' := by
 have hl := h.len
 have hS := hide h
 clear h
 go_enter Tryz.func72, Tryz.ntmps72
 go_wp2
 go_loopw [3] (fun i wr => ∃ k : Nat, k ≤ l.length ∧ i = .int .i64 k ∧ Hid ((l.take k).all nameB = true) ∧ Hid (Below w.heap.size w wr)) (fun i _ => l.length - (intOf i).toNat)
 case atStart => exact ⟨0, Nat.zero_le _, rfl, hide (by simp), hide (Below.refl _ _)⟩
 case round =>
  obtain ⟨k, hk, rfl, hq, hbr⟩ := hrel
  have hc := bcell' hbr.out
  have hzr := hbr.out.size
  by_cases hlt : k < l.length
  ·obtain ⟨b, o, ecs, hA, hb, hel, hcell, rfl, hs⟩ := hS.out.2 k _ (List.getElem?_eq_getElem hlt)
   subst hA
   have hltz : (k : Int) < (l.length : Int) := by omega
   have hbw : b < w.heap.size := by omega
   have x0 : w.cell? ⟨b, o + k, none⟩ = some (.string l[k]) := by simpa using hcell 0 _ rfl
   have hX := isName03_any l[k] wr
   clear hcell
   cases hv : nameB l[k] with
   | false =>
    rw [hv] at hX
    have hr := hide (all_stop hlt hv)
    clear hv
    go_wp2_with (go_at_call 67; refine hX.mono ?_; rintro e w1 ⟨rfl, hb1⟩)
    go_ret
    exact ⟨ret_b hr.out.symm, hbr.out.trans (hb1.mono hzr)⟩
   | true =>
    rw [hv] at hX
    have hr := hide (all_next hlt hq.out hv)
    clear hv
    go_wp2_with (go_at_call 67; refine hX.mono ?_; rintro e w1 ⟨rfl, hb1⟩)
    go_roundw
    case rel => exact ⟨k + 1, by omega, by go_num, hr, hide (hbr.out.trans (hb1.mono hzr))⟩
    case measure => simp [intOf]; omega
  ·go_wp2
   go_ret
   exact ⟨ret_b (all_end hq.out hlt).symm, hbr.out⟩
set_option maxRecDepth 100000 in
set_option maxHeartbeats 400000 in
theorem fields04p_any {B : Nat} (l : List Fd) (A : Option Addr) (cap : Nat) (w : World) (hB : B ≤ w.heap.size) (h : Sl 2 rFd w B A l) :
  Calls Tryz.prog 68 #[.slice A l.length cap] w fun e w' => e = .returned (.bool (l.all fdB)) ∧ Below w.heap.size w w' := by
 have hl := h.len
 have hS := hide h
 clear h
 go_enter Tryz.func68, Tryz.ntmps68
 go_wp2
 go_loopw [3] (fun i wr => ∃ k : Nat, k ≤ l.length ∧ i = .int .i64 k ∧ Hid ((l.take k).all fdB = true) ∧ Hid (Below w.heap.size w wr)) (fun i _ => l.length - (intOf i).toNat)
 case atStart => exact ⟨0, Nat.zero_le _, rfl, hide (by simp), hide (Below.refl _ _)⟩
 case round =>
  obtain ⟨k, hk, rfl, hq, hbr⟩ := hrel
  have hc := bcell' hbr.out
  have hzr := hbr.out.size
  by_cases hlt : k < l.length
  ·obtain ⟨b, o, ecs, hA, hb, hel, hcell, rfl, hs, -⟩ := hS.out.2 k _ (List.getElem?_eq_getElem hlt)
   subst hA
   have hltz : (k : Int) < (l.length : Int) := by omega
   have hbw : b < w.heap.size := by omega
   have x0 : w.cell? ⟨b, o + k * 2, none⟩ = some (.string l[k].1) := by simpa using hcell 0 _ rfl
   have x1 : w.cell? ⟨b, o + k * 2 + 1, none⟩ = some (.int .i64 l[k].2) := hcell 1 _ rfl
   have hX0 := isName03_any l[k].1 wr
   have hfd : fdB l[k] = (nameB l[k].1 && widthB l[k].2) := rfl
   have hWw := fun W => width04_any l[k].2 W
   have hX : Calls Tryz.prog 67 #[.string l[k].1] wr fun e w' => e = .returned (.bool (nameB l[k].1)) ∧ (Below wr.heap.size wr w' ∧ Below w.heap.size w w') := hX0.mono fun e w' h => ⟨h.1, h.2, hbr.out.trans (h.2.mono hzr)⟩
   clear hcell hX0
   cases hv : nameB l[k].1 with
   | false =>
    rw [hv] at hX hfd
    have hr := hide (all_stop (p := fdB) hlt (hfd.trans rfl))
    clear hv hfd
    go_wp2_with (go_at_call 67; refine hX.mono ?_; rintro e w1 ⟨rfl, hb1, hbw1⟩)
    go_ret
    exact ⟨ret_b hr.out.symm, hbr.out.trans (hb1.mono hzr)⟩
   | true =>
    rw [hv] at hX hfd
    cases hv2 : widthB l[k].2 with
    | false =>
     rw [hv2] at hWw hfd
     have hr := hide (all_stop (p := fdB) hlt (hfd.trans rfl))
     clear hv hfd hv2
     go_wp2_with (first | (go_at_call 67; refine hX.mono ?_; rintro e w1 ⟨rfl, hb1, hbw1⟩; have kb1 := bcell' hbw1) | (go_at_call 125; refine (hWw _).mono ?_; rintro e w2 ⟨rfl, rfl⟩))
     go_ret
     exact ⟨ret_b hr.out.symm, hbr.out.trans (hb1.mono hzr)⟩
    | true =>
     rw [hv2] at hWw hfd
     have hr := hide (all_next (p := fdB) hlt hq.out (hfd.trans rfl))
     clear hv hfd hv2
     go_wp2_with (first | (go_at_call 67; refine hX.mono ?_; rintro e w1 ⟨rfl, hb1, hbw1⟩; have kb1 := bcell' hbw1) | (go_at_call 125; refine (hWw _).mono ?_; rintro e w2 ⟨rfl, rfl⟩))
     go_roundw
     case rel => exact ⟨k + 1, by omega, by go_num, hr, hide (hbr.out.trans (hb1.mono hzr))⟩
     case measure => simp [intOf]; omega
  ·go_wp2
   go_ret
   exact ⟨ret_b (all_end hq.out hlt).symm, hbr.out⟩
end Go.Proofs.YtcgmkjpgaigmfaaGreat
/-! The document's layer 4: an expression's depth. -/
namespace Go.Proofs.YtcgmkjpgaigmfaaGreat
open Go.RowKit
theorem depthL_snoc (l : List Ex) (x : Ex) : depthL (l ++ [x]) = max (depthL l) (depthE x) := by
 induction l with
 | nil => simp [depthL]
 | cons y l ih => simp only [List.cons_append, depthL, ih]; omega
theorem depthL_take {l : List Ex} {k : Nat} (hk : k < l.length) : depthL (l.take (k + 1)) = max (depthL (l.take k)) (depthE l[k]) := by
 rw [List.take_succ_eq_append_getElem hk, depthL_snoc]
set_option maxRecDepth 100000 in
set_option maxHeartbeats 400000 in
theorem depth04_any (e : Ex) : ∀ (cs : List Value) (w : World), rEx w w.heap.size cs e → Calls Tryz.prog 167 #[.agg cs.toArray] w fun r w' => r = .returned (.int .i64 (depthE e : Int)) ∧ Below w.heap.size w w' := by
 induction e using Ex.ind with
 | h op lit head name hi lo args ih =>
  intro cs w h
  have hdm := h.2
  obtain ⟨A, cap, rfl, -, -, -, -, -, -, hs⟩ := RE.inv h
  have hl := hs.len
  replace ih := hide ih
  clear h
  show Calls _ _ #[.agg #[.int .u8 op, .int .i64 lit.1, .int .u64 lit.2.1, .int .u64 lit.2.2, .string head, .string name, .int .i64 hi, .int .i64 lo, .slice A args.length cap]] _ _
  obtain ⟨wb, hwb, hsz, hw, hcb, -⟩ := box1 w #[.int .u8 op, .int .i64 lit.1, .int .u64 lit.2.1, .int .u64 lit.2.2, .string head, .string name, .int .i64 hi, .int .i64 lo, .slice A args.length cap] 68
  have y8 : wb.cell? ⟨w.heap.size, 8, none⟩ = some (.slice A args.length cap) := hcb 8
  have hS := hide (hs.below sta_ex hw)
  have hv := hide (show depthE (.mk op lit head name hi lo args) = depthL args + 1 from by simp only [depthE])
  simp only [depthE] at hdm
  have hmem := hide (fun k (hk : k < args.length) => depth_mem (List.getElem_mem hk))
  replace hw := hide hw
  clear hcb hs
  go_enter Tryz.func167, Tryz.ntmps167
  go_wp2
  go_loopw [3, 4] (fun n i wr => ∃ k : Nat, k ≤ args.length ∧ i = .int .i64 k ∧ n = .int .i64 ((depthL (args.take k) : Int) + 1) ∧ Hid (Below (w.heap.size + 1) wb wr) ∧ w.heap.size + 1 ≤ wr.heap.size) (fun _ i _ => args.length - (intOf i).toNat)
  case atStart => exact ⟨0, Nat.zero_le _, rfl, by simp [depthL], hide (Below.refl _ _), by omega⟩
  case round =>
   obtain ⟨k, hk, rfl, rfl, hbr, hzr⟩ := hrel
   have hc := bcell' hbr.out
   by_cases hlt : k < args.length
   ·obtain ⟨b, o, ecs, hA, hb, hel, hcell, hr⟩ := hS.out.2 k _ (List.getElem?_eq_getElem hlt)
    subst hA
    have hltz : (k : Int) < (args.length : Int) := by omega
    match ecs, hel with
    | [a0, a1, a2, a3, a4, a5, a6, a7, a8], _ =>
     have x0 : wb.cell? ⟨b, o + k * 9, none⟩ = some a0 := by simpa using hcell 0 a0 rfl
     have x1 : wb.cell? ⟨b, o + k * 9 + 1, none⟩ = some a1 := by simpa using hcell 1 a1 rfl
     have x2 : wb.cell? ⟨b, o + k * 9 + 2, none⟩ = some a2 := by simpa using hcell 2 a2 rfl
     have x3 : wb.cell? ⟨b, o + k * 9 + 3, none⟩ = some a3 := by simpa using hcell 3 a3 rfl
     have x4 : wb.cell? ⟨b, o + k * 9 + 4, none⟩ = some a4 := by simpa using hcell 4 a4 rfl
     have x5 : wb.cell? ⟨b, o + k * 9 + 5, none⟩ = some a5 := by simpa using hcell 5 a5 rfl
     have x6 : wb.cell? ⟨b, o + k * 9 + 6, none⟩ = some a6 := by simpa using hcell 6 a6 rfl
     have x7 : wb.cell? ⟨b, o + k * 9 + 7, none⟩ = some a7 := by simpa using hcell 7 a7 rfl
     have x8 : wb.cell? ⟨b, o + k * 9 + 8, none⟩ = some a8 := by simpa using hcell 8 a8 rfl
     have hcall := ih.out _ (List.getElem_mem hlt) [a0, a1, a2, a3, a4, a5, a6, a7, a8] wr (sta_ex.more (sta_ex.keep hr fun q hq => hbr.out.cell (Nat.lt_succ_of_lt hq)) (by omega))
     have ht := depthL_take hlt
     have hdk := hmem.out k hlt
     clear hcell hr
     generalize depthE args[k] = d at hcall ht hdk
     generalize depthL (args.take k) = n at *
     have hdz : 1 + (d : Int) ≤ 9223372036854775807 := by unfold sm at hdm; omega
     by_cases hgt : n < d
     ·have hgz : (n : Int) + 1 < 1 + (d : Int) := by omega
      have ht' := hide (show ((depthL (args.take (k + 1)) : Nat) : Int) + 1 = 1 + (d : Int) from by rw [ht]; omega)
      clear ht
      go_wp2_with (go_at_call 167; refine hcall.mono ?_; rintro e w' ⟨rfl, hw1⟩)
      go_roundw
      case rel => exact ⟨k + 1, by omega, by go_num, by rw [ht'.out], hide (hbr.out.trans (hw1.mono hzr)), by have := hw1.size; omega⟩
      case measure => simp [intOf]; omega
     ·have hgz : ¬ (n : Int) + 1 < 1 + (d : Int) := by omega
      have ht' := hide (show ((depthL (args.take (k + 1)) : Nat) : Int) + 1 = (n : Int) + 1 from by rw [ht]; omega)
      clear ht
      go_wp2_with (go_at_call 167; refine hcall.mono ?_; rintro e w' ⟨rfl, hw1⟩)
      go_roundw
      case rel => exact ⟨k + 1, by omega, by go_num, by rw [ht'.out], hide (hbr.out.trans (hw1.mono hzr)), by have := hw1.size; omega⟩
      case measure => simp [intOf]; omega
   ·go_wp2
    go_ret
    rw [hv.out, List.take_of_length_le (by omega)]
    exact ⟨by simp, hw.out.trans (hbr.out.mono (Nat.le_succ _))⟩
end Go.Proofs.YtcgmkjpgaigmfaaGreat
